/- The last index and its phase: catalog.last. -/
import Derived.Test.YtemidaamnldjmaaCatE
import Derived.Test.YtemidaamnldjmaaBlk
namespace Go.Proofs.Ytemidaamnldjmaa
open Go.RowKit

theorem last_none (id keys : Int) (tn : ByteArray) (A B S : Option Addr) (nc ca cb ns cs : Nat) (w : World) :
    Calls Try.prog 34 #[.agg #[.int .i64 id, .string tn, .slice A nc ca, .int .i64 keys, .slice B 0 cb, .slice S ns cs]] w
      fun en w' => en = .returned (.tuple #[.int .i64 0, .int .i64 0, .bool false]) ∧ Below w.heap.size w w' := by
  go_enter Try.func34, Try.ntmps34
  go_wp2_with fail
  go_ret3
  exact ⟨rfl, (Below.refl _ _).alloc (Nat.le_refl _) _⟩

theorem last_some (id keys : Int) (tn : ByteArray) (A B S : Option Addr) (nc ca cb cs n : Nat) (sts : List LSt) (w : World) (hS : Sl StE w S sts) (hn : n + 1 = sts.length) :
    Calls Try.prog 34 #[.agg #[.int .i64 id, .string tn, .slice A nc ca, .int .i64 keys, .slice B (n + 1) cb, .slice S sts.length cs]] w
      fun en w' => en = .returned (.tuple #[.int .i64 n, .int .i64 (sts.getD n ⟨0, []⟩).phase, .bool true]) ∧ Below w.heap.size w w' := by
  have hl := hS.le
  have hlt : n < sts.length := by omega
  have hd : Below w.heap.size w (w.alloc (.cells #[.int .i64 id, .string tn, .slice A nc ca, .int .i64 keys, .slice B (n + 1) cb, .slice S sts.length cs] 33)) := (Below.refl _ _).alloc (Nat.le_refl _) _
  obtain ⟨ad, C, c, rfl, hadb, c0, _⟩ := StE.at_ (hS.below hd) hlt
  have e : sts.getD n ⟨0, []⟩ = sts[n] := by rw [List.getD_eq_getElem?_getD, List.getElem?_eq_getElem hlt]; rfl
  rw [e]
  have h0 : (0 : Int) ≤ (n : Int) := by omega
  have h1 : (n : Int) < (sts.length : Int) := by omega
  clear e hS hn
  go_enter Try.func34, Try.ntmps34
  go_wp2_with fail
  go_quiet (fail)
  go_wp2_with fail
  go_ret3
  exact ⟨rfl, below_drewN hd _⟩

theorem last_zero (id keys : Int) (tn : ByteArray) (A B S : Option Addr) (nc ca cb ns cs m : Nat) (hm : m = 0) (w : World) :
    Calls Try.prog 34 #[.agg #[.int .i64 id, .string tn, .slice A nc ca, .int .i64 keys, .slice B m cb, .slice S ns cs]] w
      fun en w' => en = .returned (.tuple #[.int .i64 0, .int .i64 0, .bool false]) ∧ Below w.heap.size w w' := by
  subst hm
  exact last_none id keys tn A B S nc ca cb ns cs w
theorem last_pos (id keys : Int) (tn : ByteArray) (A B S : Option Addr) (nc ca cb cs m : Nat) (sts : List LSt) (w : World) (hS : Sl StE w S sts) (hm : 0 < m) (h1 : sts.length ≤ m) (h2 : m ≤ sts.length) (P : Int) (hP : (sts.getD (sts.length - 1) ⟨0, []⟩).phase = P) :
    Calls Try.prog 34 #[.agg #[.int .i64 id, .string tn, .slice A nc ca, .int .i64 keys, .slice B m cb, .slice S sts.length cs]] w
      fun en w' => en = .returned (.tuple #[.int .i64 ((m - 1 : Nat) : Int), .int .i64 P, .bool true]) ∧ Below w.heap.size w w' := by
  subst hP
  obtain ⟨n, rfl⟩ : ∃ n, m = n + 1 := ⟨m - 1, by omega⟩
  have := last_some id keys tn A B S nc ca cb cs n sts w hS (by omega)
  rwa [show sts.length - 1 = n by omega, show n + 1 - 1 = n by omega]

end Go.Proofs.Ytemidaamnldjmaa
