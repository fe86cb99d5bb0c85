/- Asking a filter: the program's May and the reference's. -/
import Derived.Test.YtkgggifliafclaaBit
namespace Go.Proofs.Ytkgggifliafclaa
open Go.RowKit

theorem and_bit (x k : Nat) (hx : x < 256) : (bits .and .u8 ((x : Int) / 2 ^ k) 1 == 0) = !(decide (x / 2 ^ k % 2 = 1)) := by
  have h1 : ((x : Int) / 2 ^ k) = ((x / 2 ^ k : Nat) : Int) := by rw [Int.natCast_ediv, Int.natCast_pow]; rfl
  have h2 : x / 2 ^ k ≤ x := Nat.div_le_self _ _
  have h3 := u8_and_nat (x / 2 ^ k) 1 (by omega) (by omega)
  rw [h1]
  rw [show (1 : Int) = ((1 : Nat) : Int) from rfl, h3, Nat.and_one_is_mod]
  have h4 : x / 2 ^ k % 2 < 2 := Nat.mod_lt _ (by omega)
  rcases (show x / 2 ^ k % 2 = 0 ∨ x / 2 ^ k % 2 = 1 from by omega) with h | h <;> simp [h]
theorem tmod_bit (x k : Nat) : (((x : Int) / 2 ^ k).tmod 2 == 0) = !(decide (x / 2 ^ k % 2 = 1)) := by
  have h1 : ((x : Int) / 2 ^ k) = ((x / 2 ^ k : Nat) : Int) := by rw [Int.natCast_ediv, Int.natCast_pow]; rfl
  rw [h1]
  generalize x / 2 ^ k = q
  rw [Int.tmod_eq_emod_of_nonneg (by omega)]
  rcases (show q % 2 = 0 ∨ q % 2 = 1 from by omega) with h | h
  · have : (q : Int) % 2 = 0 := by omega
    rw [this, h]; rfl
  · have : (q : Int) % 2 = 1 := by omega
    rw [this, h]; rfl
theorem u8_lt (b : UInt8) : b.toNat < 256 := b.toNat_lt
theorem all_range_succ (n : Nat) (p : Nat → Bool) : (List.range (n + 1)).all p = ((List.range n).all p && p n) := by
  rw [List.range_succ, List.all_append]; simp
theorem all_range_false {n j : Nat} {p : Nat → Bool} (hj : j < n) (hp : p j = false) : (List.range n).all p = false := by
  rw [Bool.eq_false_iff]; intro h
  rw [List.all_eq_true] at h
  have := h j (List.mem_range.2 hj)
  rw [hp] at this; cases this

def bitB (f : List UInt8) (b : Nat) : Bool := decide ((f.getD (b / 8) 0).toNat / 2 ^ (b % 8) % 2 = 1)
theorem bitB_eq {f : List UInt8} {b : Nat} (h : b / 8 < f.length) : bitB f b = decide (f[b / 8].toNat / 2 ^ (b % 8) % 2 = 1) := by
  unfold bitB; rw [show f.getD (b / 8) 0 = f[b / 8] from by simp [List.getD, h]]
/-- may the key be in? -/
def mayB (f key : List UInt8) : Bool := (List.range (f.getD (f.length - 1) 0).toNat).all fun j => bitB f (place key (8 * (f.length - 1)) j)
def mayR (f key : List UInt8) : Value := .tuple #[.bool (goodB f && mayB f key), .int .i64 (formE f)]

set_option maxHeartbeats 400000 in
theorem may_any (A B : Option Addr) (f l : List UInt8) (c d : Nat) (w : World) (hf : Bs w A f) (hb : Bs w B l) :
    Calls Try.prog 17 #[.slice A f.length c, .slice B l.length d] w fun e w' => e = .returned (mayR f l) ∧ Below w.heap.size w w' := by
  have hfl := hf.le
  by_cases hg : goodB f = true
  · have h2 : 2 ≤ f.length := by unfold goodB at hg; simp at hg; omega
    have hgl := goodB_long (l := f) (by omega)
    obtain ⟨ad, rfl, _, hcell⟩ := hf.at_ (k := f.length - 1) (by omega)
    have hk : f[f.length - 1].toNat ≤ 30 := by rw [hgl] at hg; simp at hg; omega
    have HE := Lib.hid (formE_eq hg)
    have hgd : f.getD (f.length - 1) 0 = f[f.length - 1] := by simp [List.getD, show f.length - 1 < f.length by omega]
    have HM : Hid (mayR f l = .tuple #[.bool ((List.range f[f.length - 1].toNat).all fun j => bitB f (place l (8 * (f.length - 1)) j)), .int .i64 0]) := by
      show mayR f l = _
      unfold mayR mayB; rw [hg, HE.out, hgd]; rfl
    have ht : ((formE f : Int) != 0) = false := by rw [HE.out]; rfl
    clear hgl hg hgd HE
    go_enter Try.func17, Try.ntmps17
    go_wp2_with fail
    refine (form_any _ _ _ _ hf).mono ?_
    rintro e w1 ⟨rfl, rfl⟩
    go_wp2_with fail
    refine (places_any _ _ _ _ _ _ hb (by omega) (by omega) (by omega) (by omega)).mono ?_
    rintro e w1 ⟨rfl, hblk, hbel⟩
    rw [show ((8 * ((f.length : Int) - 1)).toNat) = 8 * (f.length - 1) from by omega, Int.toNat_natCast] at hblk
    have hf1 := hf.below hbel
    go_wp2_with fail
    go_loop [9, 28] (fun _ i => ∃ j : Nat, j ≤ f[f.length - 1].toNat ∧ i = .int .i64 j ∧ ((List.range j).all fun j => bitB f (place l (8 * (f.length - 1)) j)) = true) (fun _ i => f[f.length - 1].toNat - (intOf i).toNat)
    case atStart => exact ⟨0, Nat.zero_le _, rfl, rfl⟩
    case round =>
      obtain ⟨j, hj, rfl, hall⟩ := hrel
      have HA := Lib.hid hall
      clear hall
      by_cases hlt : j < f[f.length - 1].toNat
      · have hcl : w1.cell? ⟨w.heap.size, j, none⟩ = some (.int .i64 ((place l (8 * (f.length - 1)) j : Nat) : Int)) := by rw [hblk.cell, parr_get _ _ _ _ _ hlt, if_pos hlt]
        have hpl := place_lt l (m := 8 * (f.length - 1)) (by omega) j
        obtain ⟨b, hbe⟩ : ∃ b, b = place l (8 * (f.length - 1)) j := ⟨_, rfl⟩
        rw [← hbe] at hcl hpl
        have HB := Lib.hid hbe
        clear hbe
        obtain ⟨ad', he, _, hc2⟩ := hf1.at_ (k := b / 8) (by omega)
        obtain rfl : ad = ad' := by injection he
        clear he
        have hb8 : b / 8 < f.length := by omega
        have HV := Lib.hid (and_bit f[b / 8].toNat (b % 8) (u8_lt _))
        have HBB := Lib.hid (bitB_eq hb8)
        go_wp2
        · have ht : (bits BinOp.and IntKind.u8 (↑f[b / 8].toNat / 2 ^ (b % 8)) 1 == 0) = true := by assumption
          go_ret2
          refine ⟨?_, hbel⟩
          rw [HM.out, all_range_false hlt (by rw [← HB.out, HBB.out]; rw [HV.out] at ht; simpa using ht)]
          rfl
        · have ht : (bits BinOp.and IntKind.u8 (↑f[b / 8].toNat / 2 ^ (b % 8)) 1 == 0) = false := by assumption
          go_round
          case rel => exact ⟨j + 1, by omega, by go_num, by rw [all_range_succ, HA.out, ← HB.out, HBB.out]; rw [HV.out] at ht; simpa using ht⟩
          case measure => simp [intOf]; omega
      · have hall := HA.out
        rw [show j = f[f.length - 1].toNat from by omega] at hall
        have HA2 := Lib.hid hall
        clear hall
        go_wp2
        go_ret2
        refine ⟨?_, hbel⟩
        rw [HM.out, HA2.out]
        rfl
  · have hgf : goodB f = false := by simpa using hg
    have HE := Lib.hid (formE_eq hgf)
    have HM : Hid (mayR f l = .tuple #[.bool false, .int .i64 (formE f)]) := by show mayR f l = _; unfold mayR; rw [hgf]; rfl
    have ht : ((formE f : Int) != 0) = true := by rw [HE.out]; rfl
    clear hg hgf
    go_enter Try.func17, Try.ntmps17
    go_wp2_with fail
    refine (form_any _ _ _ _ hf).mono ?_
    rintro e w1 ⟨rfl, rfl⟩
    go_wp2_with fail
    go_ret2
    exact ⟨by rw [HM.out]; rfl, Below.refl _ _⟩

set_option maxHeartbeats 400000 in
theorem rmay_any (A B : Option Addr) (f l : List UInt8) (c d : Nat) (w : World) (hf : Bs w A f) (hb : Bs w B l) :
    Calls Try.prog 18 #[.slice A f.length c, .slice B l.length d] w fun e w' => e = .returned (mayR f l) ∧ w = w' := by
  have hfl := hf.le
  by_cases hg : goodB f = true
  · have h2 : 2 ≤ f.length := by unfold goodB at hg; simp at hg; omega
    have hgl := goodB_long (l := f) (by omega)
    obtain ⟨ad, rfl, _, hcell⟩ := hf.at_ (k := f.length - 1) (by omega)
    have hk : f[f.length - 1].toNat ≤ 30 := by rw [hgl] at hg; simp at hg; omega
    have HE := Lib.hid (formE_eq hg)
    have hgd : f.getD (f.length - 1) 0 = f[f.length - 1] := by simp [List.getD, show f.length - 1 < f.length by omega]
    have HM : Hid (mayR f l = .tuple #[.bool ((List.range f[f.length - 1].toNat).all fun j => bitB f (place l (8 * (f.length - 1)) j)), .int .i64 0]) := by
      show mayR f l = _
      unfold mayR mayB; rw [hg, HE.out, hgd]; rfl
    have HG := Lib.hid hg
    clear hgl hg hgd HE
    go_enter Try.func18, Try.ntmps18
    go_wp2_with fail
    refine (good_any _ _ _ _ hf).mono ?_
    rintro e w1 ⟨rfl, rfl⟩
    rw [HG.out]
    go_wp2_with fail
    go_loop [7, 8] (fun i _ => ∃ j : Nat, j ≤ f[f.length - 1].toNat ∧ i = .int .i64 j ∧ ((List.range j).all fun j => bitB f (place l (8 * (f.length - 1)) j)) = true) (fun i _ => f[f.length - 1].toNat - (intOf i).toNat)
    case atStart => exact ⟨0, Nat.zero_le _, rfl, rfl⟩
    case round =>
      obtain ⟨j, hj, rfl, hall⟩ := hrel
      have HA := Lib.hid hall
      clear hall
      by_cases hlt : j < f[f.length - 1].toNat
      · have hpl := place_lt l (m := 8 * (f.length - 1)) (by omega) j
        go_wp2_with fail
        refine (bit_any _ _ _ _ _ _ hb (by omega) (by omega) (by omega) (by omega)).mono ?_
        rintro e w1 ⟨rfl, rfl⟩
        rw [show ((8 * ((f.length : Int) - 1)).toNat) = 8 * (f.length - 1) from by omega, Int.toNat_natCast]
        generalize hbe : place l (8 * (f.length - 1)) j = b at hpl
        have HB := Lib.hid hbe
        clear hbe
        obtain ⟨ad', he, _, hc2⟩ := hf.at_ (k := b / 8) (by omega)
        obtain rfl : ad = ad' := by injection he
        clear he
        have hb8 : b / 8 < f.length := by omega
        have HBB := Lib.hid (bitB_eq hb8)
        go_wp2_with fail
        · have ht : ((↑f[b / 8].toNat / 2 ^ (b % 8) : Int).tmod 2 == 0) = true := by assumption
          go_ret2
          refine ⟨?_, rfl⟩
          rw [HM.out, all_range_false hlt (by rw [HB.out, HBB.out]; rw [tmod_bit] at ht; simpa using ht)]
          rfl
        · have ht : ((↑f[b / 8].toNat / 2 ^ (b % 8) : Int).tmod 2 == 0) = false := by assumption
          go_round
          case rel => exact ⟨j + 1, by omega, by go_num, by rw [all_range_succ, HA.out, HB.out, HBB.out]; rw [tmod_bit] at ht; simpa using ht⟩
          case measure => simp [intOf]; omega
      · have hall := HA.out
        rw [show j = f[f.length - 1].toNat from by omega] at hall
        have HA2 := Lib.hid hall
        clear hall
        go_wp2
        go_ret2
        refine ⟨?_, rfl⟩
        rw [HM.out, HA2.out]
        rfl
  · have hgf : goodB f = false := by simpa using hg
    have HE := Lib.hid (formE_eq hgf)
    have HM : Hid (mayR f l = .tuple #[.bool false, .int .i64 3]) := by show mayR f l = _; unfold mayR; rw [hgf, HE.out]; rfl
    have HG := Lib.hid hgf
    clear hg hgf
    go_enter Try.func18, Try.ntmps18
    go_wp2_with fail
    refine (good_any _ _ _ _ hf).mono ?_
    rintro e w1 ⟨rfl, rfl⟩
    rw [HG.out]
    go_wp2_with fail
    go_ret2
    exact ⟨by rw [HM.out]; rfl, rfl⟩

end Go.Proofs.Ytkgggifliafclaa
