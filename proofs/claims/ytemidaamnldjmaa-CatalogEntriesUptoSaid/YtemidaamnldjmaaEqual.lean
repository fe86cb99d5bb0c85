/- bytes.Equal and bytes.HasPrefix. -/
import Derived.Test.YtemidaamnldjmaaNext
import Derived.Laws.IdiomStrings
import Derived.Laws.BytesArg
namespace Go.Proofs.Ytemidaamnldjmaa
open Go.RowKit

theorem conv_any (A : Option Addr) (l : List UInt8) (c : Nat) (w : World) (hb : Bs w A l) : (convert 29 9 (.slice A l.length c)).run Try.prog w = .ok (.string ⟨l.toArray⟩) w := by
  cases A with
  | none =>
    have h0 : l.length = 0 := by
      apply Classical.byContradiction; intro h
      obtain ⟨ad, e, _⟩ := hb.at_ (show 0 < l.length by omega)
      cases e
    obtain rfl : l = [] := List.length_eq_zero_iff.1 h0
    exact run_convert_bytes_nil w 29 5 Try.underlying29 Try.underlying5 _ _ 9 Try.underlying9
  | some ad =>
    refine run_convert_bytes_back w 29 9 5 ad c l Try.underlying29 Try.underlying5 Try.underlying9 fun j hj => ?_
    obtain ⟨ad2, e, _, hc⟩ := hb.at_ hj
    obtain rfl := Option.some.inj e
    exact hc

theorem arr_eq (l m : List UInt8) : ((⟨l.toArray⟩ : ByteArray).toList == (⟨m.toArray⟩ : ByteArray).toList) = (l == m) := by
  rw [ByteArray.toList_eq, ByteArray.toList_eq]

theorem bequal_any (A B : Option Addr) (l m : List UInt8) (c d : Nat) (w : World) (ha : Bs w A l) (hb : Bs w B m) :
    Calls Try.prog 44 #[.slice A l.length c, .slice B m.length d] w fun e w' => e = .returned (.bool (l == m)) ∧ w' = w := by
  have h1 := conv_any A l c w ha
  have h2 := conv_any B m d w hb
  go_enter Try.func44, Try.ntmps44
  go_wp2_with fail
  go_ret
  exact ⟨by rw [← arr_eq]; rfl, rfl⟩

def prefB (l m : List UInt8) : Bool := decide (m.length ≤ l.length) && (l.take m.length == m)

theorem hasprefix_any (A B : Option Addr) (l m : List UInt8) (c d : Nat) (w : World) (ha : Bs w A l) (hb : Bs w B m) (hc : l.length ≤ c ∧ c ≤ 9223372036854775807) :
    Calls Try.prog 43 #[.slice A l.length c, .slice B m.length d] w fun e w' => e = .returned (.bool (prefB l m)) ∧ w' = w := by
  have hl := ha.le
  go_enter Try.func43, Try.ntmps43
  by_cases h : m.length ≤ l.length
  · have hE : Hid (prefB l m = (l.take m.length == m)) := by show _ = _; unfold prefB; rw [decide_eq_true h, Bool.true_and]
    have hlen : (l.take m.length).length = m.length := by simp; omega
    have t := fun B' => bequal_any B' B (l.take m.length) m c d w
    rw [hlen] at t
    have ht := ha.take m.length h
    go_wp2_with fail
    refine (t A ht hb).mono ?_
    rintro e w1 ⟨rfl, rfl⟩
    clear t
    go_wp2_with fail
    go_ret
    exact ⟨by rw [hE.out]; simp, rfl⟩
  · have hE : Hid (prefB l m = false) := by show _ = _; unfold prefB; rw [decide_eq_false h, Bool.false_and]
    go_wp2_with fail
    go_ret
    exact ⟨by rw [hE.out]; rfl, rfl⟩

end Go.Proofs.Ytemidaamnldjmaa
