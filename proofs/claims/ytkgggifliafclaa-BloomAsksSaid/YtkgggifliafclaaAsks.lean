/- The laws BloomAsks and BloomMisses: the walks. -/
import Derived.Test.YtkgggifliafclaaAwake
namespace Go.Proofs.Ytkgggifliafclaa
open Go.RowKit

theorem below_step {a b c : World} (h : Below a.heap.size a b) (k : Below b.heap.size b c) : Below a.heap.size a c := h.trans (k.mono h.size)

set_option maxRecDepth 100000 in
set_option maxHeartbeats 1000000 in
theorem asks_walk (A : Option Addr) (f : List UInt8) (c : Nat) (B : Option Addr) (l : List UInt8) (d : Nat) (w : World) (hf : Bs w A f) (_hfl : f.length ≤ 140737488351232) (hb : Bs w B l) (_hl : l.length ≤ 140737488351232) :
    Calls Try.prog 5 #[.slice A f.length c, .slice B l.length d] w fun e w' => e = .returned (.bool true) ∧ Below w.heap.size w w' := by
  have hf2 := hf.le
  have hl2 := hb.le
  go_enter Try.func5, Try.ntmps5
  go_wp2_with fail
  refine (awake_any _).mono ?_
  rintro e w1 ⟨rfl, b1⟩
  go_wp2_with fail
  refine (copy_any _ _ _ _ (hf.below b1)).mono ?_
  rintro e w2 ⟨A2, c2, rfl, o2, b2⟩
  have b02 := below_step b1 b2
  go_wp2_with fail
  refine (copy_any _ _ _ _ (hb.below b02)).mono ?_
  rintro e w3 ⟨A3, c3, rfl, o3, b3⟩
  have b03 := below_step b02 b3
  go_wp2_with fail
  refine (may_any _ _ _ _ _ _ _ ((Bs.of_own o2 hf2).below b3) (Bs.of_own o3 hl2)).mono ?_
  rintro e w4 ⟨rfl, b4⟩
  have b04 := below_step b03 b4
  obtain ⟨v, E, hv⟩ : ∃ v E, mayR f l = .tuple #[.bool v, .int .i64 E] := ⟨_, _, rfl⟩
  rw [hv]
  have HV := Lib.hid hv
  clear hv
  go_wp2_with fail
  refine (rmay_any _ _ _ _ _ _ _ (hf.below b04) (hb.below b04)).mono ?_
  rintro e w5 ⟨rfl, rfl⟩
  rw [HV.out]
  have t1 : (v == v) = true := by simp
  have t2 : (E == E) = true := by simp
  go_wp2_with fail
  go_ret
  exact ⟨rfl, b04⟩

end Go.Proofs.Ytkgggifliafclaa
