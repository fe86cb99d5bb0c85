/- The laws BloomAsks and BloomMisses: the walks. -/
import Derived.Test.YtkgggifliafclaaAwake
namespace Go.Proofs.Ytkgggifliafclaa
open Go.RowKit

theorem below_step {a b c : World} (h : Below a.heap.size a b) (k : Below b.heap.size b c) : Below a.heap.size a c := h.trans (k.mono h.size)

set_option maxRecDepth 100000 in
set_option maxHeartbeats 1000000 in
theorem asks_walk (A : Option Addr) (f : List UInt8) (c : Nat) (B : Option Addr) (l : List UInt8) (d : Nat) (w : World) (hf : Bs w A f) (_hfl : f.length ≤ c ∧ c ≤ 140737488351232) (hb : Bs w B l) (_hl : l.length ≤ d ∧ d ≤ 140737488351232) :
    Calls Try.prog 5 #[.slice A f.length c, .slice B l.length d] w fun e w' => e = .returned (.bool true) ∧ Below w.heap.size w w' := by
  have hf2 := hf.le
  have hl2 := hb.le
  go_enter Try.func5, Try.ntmps5
  go_wp2_with fail
  refine (awake_any _).mono ?_
  rintro e w1 ⟨rfl, b1⟩
  go_wp2_with fail
  refine (copy_any _ _ _ _ (hf.below b1)).mono ?_
  rintro e w2 ⟨A2, c2, rfl, o2, b2⟩
  have b02 := below_step b1 b2
  go_wp2_with fail
  refine (copy_any _ _ _ _ (hb.below b02)).mono ?_
  rintro e w3 ⟨A3, c3, rfl, o3, b3⟩
  have b03 := below_step b02 b3
  go_wp2_with fail
  refine (may_any _ _ _ _ _ _ _ ((Bs.of_own o2 hf2).below b3) (Bs.of_own o3 hl2)).mono ?_
  rintro e w4 ⟨rfl, b4⟩
  have b04 := below_step b03 b4
  obtain ⟨v, E, hv⟩ : ∃ v E, mayR f l = .tuple #[.bool v, .int .i64 E] := ⟨_, _, rfl⟩
  rw [hv]
  have HV := Lib.hid hv
  clear hv
  go_wp2_with fail
  refine (rmay_any _ _ _ _ _ _ _ (hf.below b04) (hb.below b04)).mono ?_
  rintro e w5 ⟨rfl, rfl⟩
  rw [HV.out]
  have t1 : (v == v) = true := by simp
  have t2 : (E == E) = true := by simp
  go_wp2_with fail
  go_ret
  exact ⟨rfl, b04⟩

/-- The first lists, at most 200. -/
def fewL (ls : List (List UInt8)) : List (List UInt8) := ls.take 200
theorem fewL_le (ls : List (List UInt8)) : (fewL ls).length ≤ 200 := by simp [fewL]; omega

set_option maxHeartbeats 400000 in
theorem few_any (A : Option Addr) (ls : List (List UInt8)) (c : Nat) (w : World) (hc : ls.length ≤ c) (hl : ls.length ≤ 5864062014805) :
    Calls Try.prog 14 #[.slice A ls.length c, .int .i64 200] w fun e w' => e = .returned (.slice A (fewL ls).length c) ∧ w = w' := by
  by_cases h : 200 < ls.length
  · have HL : Hid ((fewL ls).length = 200) := by show _ = _; simp [fewL]; omega
    go_enter Try.func14, Try.ntmps14
    go_wp2
    go_ret
    exact ⟨by rw [HL.out]; rfl, rfl⟩
  · have HL : Hid ((fewL ls).length = ls.length) := by show _ = _; simp [fewL]; omega
    go_enter Try.func14, Try.ntmps14
    go_wp2
    go_ret
    exact ⟨by rw [HL.out]; rfl, rfl⟩

theorem bss_few {w : World} {A : Option Addr} {ls : List (List UInt8)} (h : Bss w A ls) : Bss w A (fewL ls) := by
  have := h.take (min 200 ls.length) (by omega)
  unfold fewL
  rwa [List.take_eq_take_min]

theorem build_nil_or (per : Int) (n : Nat) (hn : n ≤ 200) : buildE per n = 0 ∨ (buildE per n = 1 ∧ (per < 1 ∨ 100 < per)) := by
  unfold buildE
  by_cases h : per < 1 ∨ 100 < per
  · rw [if_pos h]; exact .inr ⟨rfl, h⟩
  · rw [if_neg h]
    have h2 : per.toNat * n ≤ 100 * 200 := Nat.mul_le_mul (by omega) hn
    rw [if_neg (by unfold mOf; omega)]
    exact .inl rfl

theorem build_len (per : Int) (keys : List (List UInt8)) : (buildL per keys).length ≤ 1048577 := by
  unfold buildL
  by_cases h : buildE per keys.length = 0
  · rw [if_pos h, length_filt]
    unfold buildE at h
    split at h
    · cases h
    · split at h
      · cases h
      · omega
  · rw [if_neg h]; simp

set_option maxRecDepth 100000 in
set_option maxHeartbeats 1000000 in
theorem misses_walk (per : Int) (A : Option Addr) (ls : List (List UInt8)) (c : Nat) (w : World) (_wp : (Lit.int .i64 per).wf = true) (hb : Bss w A ls) (hl : ls.length ≤ c ∧ c * 24 ≤ 140737488351232 ∧ ∀ x ∈ ls, List.length x ≤ 140737488351232) :
    Calls Try.prog 4 #[.int .i64 per, .slice A ls.length c] w fun e w' => e = .returned (.bool true) ∧ Below w.heap.size w w' := by
  have hb0 := hb.1
  have hc := hl.1
  clear hl
  go_enter Try.func4, Try.ntmps4
  go_wp2_with fail
  refine (awake_any _).mono ?_
  rintro e w1 ⟨rfl, b1⟩
  go_wp2_with fail
  refine (few_any _ _ _ _ hc hb0).mono ?_
  rintro e w2 ⟨rfl, rfl⟩
  have hbf := bss_few (hb.below b1)
  have hfl := fewL_le ls
  generalize fewL ls = ks at hbf hfl
  go_wp2_with fail
  refine (copies_any _ _ _ _ hbf).mono ?_
  rintro e w2 ⟨A2, c2, vs, rfl, o2, ob2, b2⟩
  have b02 := below_step b1 b2
  go_wp2_with fail
  refine (build_any _ _ _ _ _ (Bss.of_own o2 ob2 (by omega))).mono ?_
  rintro e w3 ⟨A3, c3, rfl, o3, b3⟩
  have b03 := below_step b02 b3
  rcases build_nil_or per ks.length hfl with h0 | ⟨h0, hp⟩
  · have hF : ∀ key ∈ ks, mayR (buildL per ks) key = .tuple #[.bool true, .int .i64 0] := by
      intro key hk
      have hL : buildL per ks = filt per.toNat ks := by unfold buildL; rw [if_pos h0]
      unfold mayR
      rw [hL, good_filt, may_filt _ _ _ hk, formE_eq (good_filt _ _)]
      rfl
    have hFl : (buildL per ks).length ≤ 1048577 := build_len per ks
    have HF := Lib.hid hF
    have H0 := Lib.hid h0
    clear h0 hF
    rw [H0.out]
    clear H0
    generalize buildL per ks = F at o3 HF hFl
    have hFb : Bs w3 A3 F := Bs.of_own o3 (by omega)
    have hbf3 := hbf.below (below_step b2 b3)
    clear o2 ob2 o3
    go_wp2_with fail
    go_loopw [32] (fun i wr => ∃ t : Nat, t ≤ ks.length ∧ i = .int .i64 t ∧ Below w3.heap.size w3 wr) (fun i _ => ks.length - (intOf i).toNat)
    case atStart => exact ⟨0, Nat.zero_le _, rfl, Below.refl _ _⟩
    case round =>
      obtain ⟨t, ht, rfl, br⟩ := hrel
      obtain ⟨wo, rfl⟩ : ∃ wo : World, wo = wr := ⟨_, rfl⟩
      by_cases hlt : t < ks.length
      · obtain ⟨ad, Ai, ci, rfl, _, hcell, hbs⟩ := (hbf3.below br).at_ hlt
        have hk2 := hbs.le
        have HK := Lib.hid (HF.out ks[t] (List.getElem_mem hlt))
        go_wp2_with fail
        refine (copy_any _ _ _ _ (hFb.below br)).mono ?_
        rintro e w4 ⟨A4, c4, rfl, o4, b4⟩
        go_wp2_with fail
        refine (copy_any _ _ _ _ (hbs.below b4)).mono ?_
        rintro e w5 ⟨A5, c5, rfl, o5, b5⟩
        go_wp2_with fail
        refine (may_any _ _ _ _ _ _ _ ((Bs.of_own o4 (by omega)).below b5) (Bs.of_own o5 hk2)).mono ?_
        rintro e w6 ⟨rfl, b6⟩
        rw [HK.out]
        go_wp2_with fail
        go_roundw
        case rel => exact ⟨t + 1, by omega, by go_num, below_step br (below_step b4 (below_step b5 b6))⟩
        case measure => simp [intOf]; omega
      · go_wp2_with fail
        go_ret
        exact ⟨rfl, below_step b03 br⟩
  · have H0 := Lib.hid h0
    clear h0
    rw [H0.out]
    rcases hp with hp | hp
    · go_wp2_with fail
      go_ret
      exact ⟨rfl, b03⟩
    · have hp2 : ¬ per < 1 := by omega
      go_wp2_with fail
      go_ret
      exact ⟨rfl, b03⟩

end Go.Proofs.Ytkgggifliafclaa
