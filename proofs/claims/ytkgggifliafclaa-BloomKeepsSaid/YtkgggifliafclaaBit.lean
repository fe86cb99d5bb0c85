/- The reference's Bit, form and Good, few. -/
import Derived.Test.YtkgggifliafclaaPlaces
namespace Go.Proofs.Ytkgggifliafclaa
open Go.RowKit

theorem bit_raw (l : List UInt8) (m j : Nat) (C : Int) (hC : C = ((cN l : Nat) : Int)) (hm0 : 0 < m) (hm : m ≤ 4503599627370496) (hj : j ≤ 1000) :
    wrap64 ((IntKind.u64.wrap ((hashOf l) % 4294967296 + IntKind.u64.wrap ((j : Int) * C))).tmod (m : Int)) = ((place l m j : Nat) : Int) := by
  subst hC
  have h1 := hN_lt l
  have h2 := cN_lt l
  have h3 : j * cN l ≤ 1000 * 4294967296 := Nat.mul_le_mul hj (by omega)
  rw [hN_eq, ← Int.natCast_mul]
  have e1 : IntKind.u64.wrap ((j * cN l : Nat) : Int) = ((j * cN l : Nat) : Int) := by rw [IntKind.wrap_u64]; omega
  rw [e1]
  have e2 : IntKind.u64.wrap ((hN l : Int) % 4294967296 + ((j * cN l : Nat) : Int)) = ((hN l % 4294967296 + j * cN l : Nat) : Int) := by rw [IntKind.wrap_u64]; omega
  rw [e2]
  have e3 : (((hN l % 4294967296 + j * cN l : Nat) : Int)).tmod (m : Int) = ((place l m j : Nat) : Int) := by
    rw [Int.tmod_eq_emod_of_nonneg (by omega)]; rfl
  rw [e3]
  have h4 := place_lt l hm0 j
  exact IntWalk.wrap64_in _ ⟨by omega, by omega⟩

set_option maxHeartbeats 400000 in
theorem bit_any (A : Option Addr) (l : List UInt8) (c : Nat) (i m : Int) (w : World) (hb : Bs w A l) (hm0 : 0 < m) (hm : m ≤ 4503599627370496) (hi0 : 0 ≤ i) (hi : i ≤ 100) :
    Calls Try.prog 25 #[.slice A l.length c, .int .i64 i, .int .i64 m] w fun e w' => e = .returned (.int .i64 ((place l m.toNat i.toNat : Nat) : Int)) ∧ w = w' := by
  obtain ⟨j, rfl⟩ := Int.eq_ofNat_of_zero_le hi0
  obtain ⟨m, rfl⟩ := Int.eq_ofNat_of_zero_le (Int.le_of_lt hm0)
  simp only [Int.toNat_natCast]
  have hB := hash_bounds l
  go_enter Try.func25, Try.ntmps25
  go_wp2_with (go_at_call 11; refine (rhash_any _ _ _ _ hb).mono ?_; rintro e w' ⟨rfl, rfl⟩)
  · have ht : (hashOf l / 4294967296 % 2 == 0) = true := by assumption
    go_ret
    refine ⟨?_, rfl⟩
    exact congrArg (fun n => Ending.returned (.int .i64 n)) (bit_raw l m j _ (by rw [beq_iff_eq] at ht; rw [hN_eq] at ht ⊢; unfold cN; rw [or_one]; split <;> omega) (by omega) (by omega) (by omega))
  · have ht : (hashOf l / 4294967296 % 2 == 0) = false := by assumption
    go_ret
    refine ⟨?_, rfl⟩
    exact congrArg (fun n => Ending.returned (.int .i64 n)) (bit_raw l m j _ (by rw [beq_eq_false_iff_ne] at ht; rw [hN_eq] at ht ⊢; unfold cN; rw [or_one]; split <;> omega) (by omega) (by omega) (by omega))

/-! ## form, Good -/

/-- Is it a filter? -/
def goodB (l : List UInt8) : Bool := decide (2 ≤ l.length) && decide (1 ≤ (l.getD (l.length - 1) 0).toNat) && decide ((l.getD (l.length - 1) 0).toNat ≤ 30)

def formE (l : List UInt8) : Int := if goodB l then 0 else 3
theorem formE_eq {l : List UInt8} {b : Bool} (h : goodB l = b) : formE l = if b then 0 else 3 := by rw [formE, h]
theorem goodB_short {l : List UInt8} (h : l.length < 2) : goodB l = false := by unfold goodB; simp; omega
theorem goodB_long {l : List UInt8} (h : ¬ l.length < 2) : goodB l = (decide (1 ≤ l[l.length - 1].toNat) && decide (l[l.length - 1].toNat ≤ 30)) := by
  have hgd : l.getD (l.length - 1) 0 = l[l.length - 1] := by simp [List.getD, show l.length - 1 < l.length by omega]
  unfold goodB; rw [hgd]; simp [show 2 ≤ l.length by omega]

set_option maxHeartbeats 400000 in
theorem form_any (A : Option Addr) (l : List UInt8) (c : Nat) (w : World) (hb : Bs w A l) :
    Calls Try.prog 26 #[.slice A l.length c] w fun e w' => e = .returned (.int .i64 (formE l)) ∧ w = w' := by
  have hl := hb.le
  by_cases h2 : l.length < 2
  · have HE := Lib.hid (formE_eq (goodB_short h2))
    go_enter Try.func26, Try.ntmps26
    go_wp2
    go_ret
    exact ⟨by rw [HE.out]; rfl, rfl⟩
  · obtain ⟨ad, rfl, _, hcell⟩ := hb.at_ (k := l.length - 1) (by omega)
    have hg := goodB_long h2
    by_cases h1 : l[l.length - 1].toNat < 1
    · have HE := Lib.hid (formE_eq (b := false) (by rw [hg]; simp; omega))
      clear hg
      go_enter Try.func26, Try.ntmps26
      go_wp2
      go_ret
      exact ⟨by rw [HE.out]; rfl, rfl⟩
    · by_cases h3 : 30 < l[l.length - 1].toNat
      · have HE := Lib.hid (formE_eq (b := false) (by rw [hg]; simp; omega))
        clear hg
        go_enter Try.func26, Try.ntmps26
        go_wp2
        go_ret
        exact ⟨by rw [HE.out]; rfl, rfl⟩
      · have HE := Lib.hid (formE_eq (b := true) (by rw [hg]; simp; omega))
        clear hg
        go_enter Try.func26, Try.ntmps26
        go_wp2
        go_ret
        exact ⟨by rw [HE.out]; rfl, rfl⟩

set_option maxHeartbeats 400000 in
theorem good_any (A : Option Addr) (l : List UInt8) (c : Nat) (w : World) (hb : Bs w A l) :
    Calls Try.prog 20 #[.slice A l.length c] w fun e w' => e = .returned (.bool (goodB l)) ∧ w = w' := by
  have hl := hb.le
  by_cases h2 : l.length < 2
  · have HE := Lib.hid (goodB_short h2)
    go_enter Try.func20, Try.ntmps20
    go_wp2
    go_ret
    exact ⟨by rw [HE.out]; rfl, rfl⟩
  · obtain ⟨ad, rfl, _, hcell⟩ := hb.at_ (k := l.length - 1) (by omega)
    have hg := goodB_long h2
    by_cases h1 : l[l.length - 1].toNat < 1
    · have HE := Lib.hid (hg.trans (b := _) (c := false) (by simp; omega))
      clear hg
      go_enter Try.func20, Try.ntmps20
      go_wp2
      go_ret
      exact ⟨by rw [HE.out]; rfl, rfl⟩
    · have HE := Lib.hid (hg.trans (b := _) (c := decide ((l[l.length - 1].toNat : Int) ≤ 30)) (by rw [show decide (1 ≤ l[l.length - 1].toNat) = true from by simp; omega, Bool.true_and]; exact decide_eq_decide.2 (by omega)))
      clear hg
      go_enter Try.func20, Try.ntmps20
      go_wp2
      go_ret
      exact ⟨by rw [HE.out]; rfl, rfl⟩

end Go.Proofs.Ytkgggifliafclaa
