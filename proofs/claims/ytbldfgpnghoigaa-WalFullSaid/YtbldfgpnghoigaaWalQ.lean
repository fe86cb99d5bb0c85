/- A log's Next and First. -/
import Derived.Test.YtbldfgpnghoigaaWalF
namespace Go.Proofs.Ytbldfgpnghoigaa
open Go.RowKit

set_option maxHeartbeats 1000000 in
theorem nextW_any (g : Nat) (S : Value) (l : LLog) (w : World) (hk : Blk w g 77 (logC S l)) : Calls Try.prog 15 #[.pointer (some ⟨g, 0, none⟩)] w (fun en w' => en = .returned (.int .u64 (l.next : Int)) ∧ w' = w) := by
  have c4 : w.cell? ⟨g, 4, none⟩ = some (.int .u64 (l.next : Int)) := hk.cell 4
  go_enter Try.func15, Try.ntmps15
  go_wp2_with fail
  go_ret
  exact ⟨rfl, rfl⟩
set_option maxHeartbeats 1000000 in
theorem firstW_any (g : Nat) (A : Option Addr) (c : Nat) (sg : List Nat) (l : LLog) (w : World) (T : Nat → Prop) (hk : Blk w g 77 (logC (.slice A sg.length c) l)) (hs : SlS SegE w T A sg) : Calls Try.prog 32 #[.pointer (some ⟨g, 0, none⟩)] w (fun en w' => en = .returned (.int .u64 ((sg.headD l.next : Nat) : Int)) ∧ w' = w) := by
  have c3 : w.cell? ⟨g, 3, none⟩ = some (.slice A sg.length c) := hk.cell 3
  have c4 : w.cell? ⟨g, 4, none⟩ = some (.int .u64 (l.next : Int)) := hk.cell 4
  cases sg with
  | nil =>
    replace c3 : w.cell? ⟨g, 3, none⟩ = some (.slice A 0 c) := c3
    go_enter Try.func32, Try.ntmps32
    go_wp2_with fail
    go_ret
    exact ⟨rfl, rfl⟩
  | cons s r =>
    obtain ⟨ad, vs, rfl, _, ⟨rfl, _⟩, h4, _, _⟩ := SlS.at_ hs (i := 0) (by simp)
    have e0 : w.cell? ad = some (.int .u64 (s : Int)) := by
      have h := h4 _ rfl
      rw [show 0 * SegE.size = 0 from Nat.zero_mul _] at h
      rwa [show ad.add 0 = ad from add_zero_ ad] at h
    have h0 : (((s :: r).length : Nat) : Int) ≠ 0 := by simp; omega
    have hb : ((((s :: r).length : Nat) : Int) == 0) = false := by rw [beq_eq_false_iff_ne]; exact h0
    have hpos : 0 < (s :: r).length := by simp
    generalize (s :: r).length = m at *
    have hpi : (0 : Int) < (m : Int) := by omega
    clear h4
    go_enter Try.func32, Try.ntmps32
    go_wp2_with fail
    go_ret
    exact ⟨rfl, rfl⟩
end Go.Proofs.Ytbldfgpnghoigaa
