/- The law BloomBuilds: the walk. -/
import Derived.Test.YtkgggifliafclaaAsks
import Derived.Test.YtkgggifliafclaaRBuild
namespace Go.Proofs.Ytkgggifliafclaa
open Go.RowKit

set_option maxRecDepth 100000 in
set_option maxHeartbeats 1000000 in
theorem builds_walk (per : Int) (A : Option Addr) (ls : List (List UInt8)) (c : Nat) (B : Option Addr) (l : List UInt8) (d : Nat) (w : World) (_wp : (Lit.int .i64 per).wf = true)
    (hb : Bss w A ls) (hl : ls.length ≤ c ∧ c * 24 ≤ 140737488351232 ∧ ∀ x ∈ ls, List.length x ≤ 140737488351232) (hk : Bs w B l) (_hkl : l.length ≤ d ∧ d ≤ 140737488351232) :
    Calls Try.prog 3 #[.int .i64 per, .slice A ls.length c, .slice B l.length d] w fun e w' => e = .returned (.bool true) ∧ Below w.heap.size w w' := by
  have hb0 := hb.1
  have hc := hl.1
  have hkl := hk.le
  clear hl
  have t1 : (hashOf l != hashOf l) = false := by simp
  go_enter Try.func3, Try.ntmps3
  go_wp2_with fail
  refine (awake_any _).mono ?_
  rintro e w1 ⟨rfl, b1⟩
  go_wp2_with fail
  refine (copy_any _ _ _ _ (hk.below b1)).mono ?_
  rintro e w2 ⟨A2, c2, rfl, o2, b2⟩
  have b02 := below_step b1 b2
  go_wp2_with fail
  refine (hash_any _ _ _ _ (Bs.of_own o2 hkl)).mono ?_
  rintro e w3 ⟨rfl, rfl⟩
  go_wp2_with fail
  refine (rhash_any _ _ _ _ (hk.below b02)).mono ?_
  rintro e w3 ⟨rfl, rfl⟩
  go_wp2_with fail
  refine (few_any _ _ _ _ hc hb0).mono ?_
  rintro e w3 ⟨rfl, rfl⟩
  have hbf := bss_few (hb.below b02)
  have hfl := fewL_le ls
  have hfl0 : (fewL ls).length ≤ c := by simp [fewL]; omega
  go_wp2_with fail
  refine (copies_any _ _ _ _ hbf).mono ?_
  rintro e w4 ⟨A4, c4, vs, rfl, o4, ob4, b4⟩
  have b04 := below_step b02 b4
  go_wp2_with fail
  refine (build_any _ _ _ _ _ (Bss.of_own o4 ob4 (by omega))).mono ?_
  rintro e w5 ⟨A5, c5, rfl, o5, b5⟩
  have b05 := below_step b04 b5
  have hbf5 := hbf.below (below_step b4 b5)
  have hL := build_len per (fewL ls)
  have hB5 : Bs w5 A5 (buildL per (fewL ls)) := Bs.of_own o5 (by omega)
  go_wp2_with fail
  refine (few_any _ _ _ _ hc hb0).mono ?_
  rintro e w6 ⟨rfl, rfl⟩
  go_wp2_with fail
  refine (rbuild_any _ _ _ _ _ hbf5 (by omega)).mono ?_
  rintro e w6 ⟨A6, c6, rfl, o6, b6⟩
  have b06 := below_step b05 b6
  have t2 : (buildE per (fewL ls).length == buildE per (fewL ls).length) = true := by simp
  have hB6 : Bs w6 A6 (buildL per (fewL ls)) := Bs.of_own o6 (by omega)
  generalize buildE per (fewL ls).length = E at t2
  have hB5' := hB5.below b6
  clear o4 ob4 o5 o6 hB5
  generalize buildL per (fewL ls) = L at hB5' hB6
  go_wp2_with fail
  refine (equal_any _ _ _ _ _ _ _ hB5' hB6).mono ?_
  rintro e w7 ⟨rfl, n, rfl⟩
  have t3 : (L == L) = true := by simp
  rw [t3]
  go_wp2_with fail
  go_ret
  exact ⟨rfl, below_drewN b06 n⟩

end Go.Proofs.Ytkgggifliafclaa
