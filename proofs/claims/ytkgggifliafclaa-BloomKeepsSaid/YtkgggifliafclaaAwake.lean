/- The laws' fixed fact. -/
import Derived.Test.YtkgggifliafclaaBuild
namespace Go.Proofs.Ytkgggifliafclaa
open Go.RowKit

theorem bss_nil (w : World) (A : Option Addr) : Bss w A [] := ⟨by simp, [], ⟨by simp, fun h => absurd h (by simp)⟩, fun i hi => absurd hi (by simp)⟩

set_option maxRecDepth 100000 in
set_option maxHeartbeats 1000000 in
theorem awake_any (w : World) : Calls Try.prog 8 #[] w fun e w' => e = .returned (.bool true) ∧ Below w.heap.size w w' := by
  have HE : Hid (buildE 10 0 = 0) := by show _ = _; decide
  have HL : Hid (buildL 10 [] = [0, 0, 0, 0, 0, 0, 0, 0, 6]) := by show _ = _; decide +kernel
  have HH : Hid (hashOf [] = 14695981039346656037) := by show _ = _; rfl
  go_enter Try.func8, Try.ntmps8
  go_wp2_with fail
  refine (build_any 10 none [] 0 w (bss_nil _ _)).mono ?_
  rintro e w1 ⟨A, c, rfl, hown, hbel⟩
  rw [HL.out] at hown
  have hbs : Bs w1 A [0, 0, 0, 0, 0, 0, 0, 0, 6] := Bs.of_own hown (by simp)
  rw [show (buildL 10 []).length = 9 from by rw [HL.out]; rfl, show buildE 10 (List.length ([] : List (List UInt8))) = 0 from HE.out]
  clear hown
  go_wp2_with fail
  refine (equal_any _ _ [0, 0, 0, 0, 0, 0, 0, 0, 6] [0, 0, 0, 0, 0, 0, 0, 0, 6] _ _ _ (hbs.alloc _) (Bs.lit w1 [0, 0, 0, 0, 0, 0, 0, 0, 6] 5 (by simp))).mono ?_
  rintro e w2 ⟨rfl, n, rfl⟩
  go_wp2_with fail
  refine (hash_any _ [] _ _ (Bs.nil_ _ _)).mono ?_
  rintro e w3 ⟨rfl, rfl⟩
  rw [HH.out]
  go_wp2_with fail
  go_ret
  exact ⟨rfl, below_drewN (hbel.alloc hbel.size _) n⟩

end Go.Proofs.Ytkgggifliafclaa
