/- Byte slices in order: bytes.Compare, codec.Cmp. -/
import Derived.Test.YtmgibpedclngpaaOrdA
import Derived.Laws.Externs
import Derived.Lib.Bytealg
namespace Go.Proofs.Ytmgibpedclngpaa
open Go.RowKit

theorem cmp_lib : ∀ a b : List UInt8, Lib.compareBytes a b = cmpL a b
  | [], [] => rfl
  | [], _ :: _ => rfl
  | _ :: _, [] => rfl
  | a :: s, b :: t => by
    show (if a < b then -1 else if b < a then 1 else Lib.compareBytes s t) = (if a < b then -1 else if b < a then 1 else cmpL s t)
    rw [cmp_lib s t]
theorem run_loadB {P : Program} (w : World) : ∀ (l : List UInt8) (a : Addr) (acc : ByteArray), (∀ j x, l[j]? = some x → w.cell? (a.add j) = some (bval x)) →
    (Extern.Bytes.loadBytes a l.length acc).run P w = .ok ⟨acc.data ++ l.toArray⟩ w
  | [], a, acc, _ => by simp [Extern.Bytes.loadBytes]
  | x :: l, a, acc, h => by
    have h0 : w.cell? a = some (.int .u8 (x.toNat : Int)) := by
      have := h 0 x rfl
      simpa [Addr.add, bval] using this
    have ih := run_loadB (P := P) w l (a.add 1) (acc.push x) (fun j y hy => by
      have := h (j + 1) y (by simpa using hy)
      have e : (a.add 1).add j = a.add (j + 1) := by
        unfold Addr.add
        by_cases hj : j = 0
        · subst hj; simp
        · simp [hj]; omega
      rw [e]; exact this)
    have hx : ((x.toNat : Int).toNat).toUInt8 = x := by simp
    simp only [List.length_cons, Extern.Bytes.loadBytes, Sem.run_bind, run_load, h0, Result.andThen, hx]
    rw [ih]
    congr 1
    apply ByteArray.ext
    simp [ByteArray.push]
theorem run_bytesOf (A : Option Addr) (l : List UInt8) (c : Nat) (w : World) (ha : Bs w A l) : (Extern.Bytes.bytesOf (.slice A l.length c)).run Try.prog w = .ok ⟨l.toArray⟩ w := by
  cases A with
  | none =>
    have h0 : l.length = 0 := by
      apply Classical.byContradiction; intro h
      obtain ⟨ad, e, _⟩ := ha.at_ (show 0 < l.length by omega)
      cases e
    obtain rfl : l = [] := List.length_eq_zero_iff.1 h0
    rfl
  | some ad =>
    have h := run_loadB (P := Try.prog) w l ad .empty (fun j x hj => by
      have hjl := (List.getElem?_eq_some_iff.1 hj).1
      obtain ⟨a2, e, _, hc⟩ := ha.at_ hjl
      obtain rfl := Option.some.inj e
      rw [hc]
      have : l[j] = x := (List.getElem?_eq_some_iff.1 hj).2
      rw [← this])
    show (Extern.Bytes.loadBytes ad l.length .empty).run Try.prog w = _
    rw [h]
    congr 1
    apply ByteArray.ext
    simp
theorem run_cmpB (A B : Option Addr) (l m : List UInt8) (c d : Nat) (w : World) (ha : Bs w A l) (hb : Bs w B m) : (Extern.BytealgCompare.compare #[.slice A l.length c, .slice B m.length d]).run Try.prog w = .ok (.int .i64 (cmpL l m)) w := by
  change Sem.run Try.prog (do pure (goInt (Extern.BytealgCompare.cmp (← Extern.Bytes.bytesOf (.slice A l.length c)) (← Extern.Bytes.bytesOf (.slice B m.length d))))) w = _
  simp only [Sem.run_bind, run_bytesOf A l c w ha, run_bytesOf B m d w hb, Result.andThen, Sem.run_pure]
  rw [Lib.cmp_eq, cmp_lib]
  rfl
set_option maxRecDepth 100000 in
set_option maxHeartbeats 1000000 in
theorem bcompare_any (A B : Option Addr) (l m : List UInt8) (c d : Nat) (w : World) (ha : Bs w A l) (hb : Bs w B m) : Calls Try.prog 58 #[.slice A l.length c, .slice B m.length d] w fun e w' => e = .returned (.int .i64 (cmpL l m)) ∧ w' = w := by
  have hr := run_cmpB A B l m c d w ha hb
  go_enter Try.func58, Try.ntmps58
  go_wp2_with fail
  rw [run_callFunc_extern Try.func69 (by kernel_rfl) (by kernel_rfl) (by kernel_rfl) (e := Extern.BytealgCompare.compare) (by kernel_rfl), hr]
  simp only [Result.andThen]
  rw [Oper.upon_value]
  go_wp2
  go_ret
  exact ⟨rfl, rfl⟩
set_option maxRecDepth 100000 in
theorem ccmp_any (A B : Option Addr) (l m : List UInt8) (c d : Nat) (w : World) (ha : Bs w A l) (hb : Bs w B m) : Calls Try.prog 29 #[.slice A l.length c, .slice B m.length d] w fun e w' => e = .returned (.int .i64 (cmpL l m)) ∧ w' = w := by
  have T := bcompare_any A B l m c d w ha hb
  go_enter Try.func29, Try.ntmps29
  go_wp2_with fail
  refine T.mono ?_
  rintro en w2 ⟨rfl, rfl⟩
  go_wp2_with fail
  go_ret
  exact ⟨rfl, rfl⟩

end Go.Proofs.Ytmgibpedclngpaa
