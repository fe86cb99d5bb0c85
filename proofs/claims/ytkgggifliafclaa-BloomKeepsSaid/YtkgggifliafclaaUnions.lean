/- The law BloomUnions: the walk. -/
import Derived.Test.YtkgggifliafclaaAsks
import Derived.Test.YtkgggifliafclaaUnion
namespace Go.Proofs.Ytkgggifliafclaa
open Go.RowKit

theorem orTo_getD (a b : List UInt8) (i j : Nat) (h : j < a.length) : (orTo a b i).getD j 0 = if j < i then a.getD j 0 ||| b.getD j 0 else a.getD j 0 := by
  rw [List.getD_eq_getElem?_getD, orTo_get _ _ _ _ h]; rfl
theorem good_or {a b : List UInt8} (ha : goodB a = true) : goodB (orTo a b (a.length - 1)) = true := by
  have h2 : 2 ≤ a.length := by unfold goodB at ha; simp at ha; omega
  unfold goodB at ha ⊢
  rw [orTo_length, orTo_getD _ _ _ _ (by omega), if_neg (by omega)]
  exact ha
theorem bit_or (x y k : Nat) : ((x ||| y) / 2 ^ k % 2 = 1) ↔ (x / 2 ^ k % 2 = 1 ∨ y / 2 ^ k % 2 = 1) := by
  have h : ∀ z : Nat, (z / 2 ^ k % 2 = 1) ↔ z.testBit k = true := fun z => by
    rw [Nat.testBit_eq_decide_div_mod_eq, decide_eq_true_eq]
  rw [h, h, h, Nat.testBit_or, Bool.or_eq_true]
theorem bitB_or (a b : List UInt8) (p : Nat) (h : p / 8 < a.length - 1) : bitB (orTo a b (a.length - 1)) p = (bitB a p || bitB b p) := by
  unfold bitB
  rw [orTo_getD _ _ _ _ (by omega), if_pos h, Bool.eq_iff_iff, Bool.or_eq_true, decide_eq_true_eq, decide_eq_true_eq, decide_eq_true_eq, UInt8.toNat_or]
  exact bit_or _ _ _
theorem may_or {a b key : List UInt8} (ha : goodB a = true) (hlen : b.length = a.length) (hlast : a.getD (a.length - 1) 0 = b.getD (a.length - 1) 0)
    (h : mayB a key = true ∨ mayB b key = true) : mayB (orTo a b (a.length - 1)) key = true := by
  have h2 : 2 ≤ a.length := by unfold goodB at ha; simp at ha; omega
  unfold mayB at h ⊢
  rw [orTo_length, orTo_getD _ _ _ _ (by omega), if_neg (by omega), List.all_eq_true]
  rw [hlen, ← hlast] at h
  intro j hj
  have hp := place_lt key (m := 8 * (a.length - 1)) (by omega) j
  rw [bitB_or _ _ _ (by omega), Bool.or_eq_true]
  rcases h with h | h
  · exact .inl (List.all_eq_true.1 h j hj)
  · exact .inr (List.all_eq_true.1 h j hj)

theorem may_any' (A B : Option Addr) (f l : List UInt8) (n c d : Nat) (w : World) (hn : n = f.length) (hf : Bs w A f) (hb : Bs w B l) :
    Calls Try.prog 17 #[.slice A n c, .slice B l.length d] w fun e w' => e = .returned (mayR f l) ∧ Below w.heap.size w w' := by
  subst hn; exact may_any A B f l c d w hf hb

set_option maxRecDepth 100000 in
set_option maxHeartbeats 2000000 in
theorem unions_walk (A : Option Addr) (a : List UInt8) (c : Nat) (B : Option Addr) (b : List UInt8) (d : Nat) (C : Option Addr) (key : List UInt8) (f : Nat) (w : World)
    (ha : Bs w A a) (_hac : a.length ≤ c ∧ c ≤ 140737488351232) (hb : Bs w B b) (_hbc : b.length ≤ d ∧ d ≤ 140737488351232) (hk : Bs w C key) (_hkc : key.length ≤ f ∧ f ≤ 140737488351232) :
    Calls Try.prog 6 #[.slice A a.length c, .slice B b.length d, .slice C key.length f] w fun e w' => e = .returned (.bool true) ∧ Below w.heap.size w w' := by
  have hal := ha.le
  have hbl := hb.le
  go_enter Try.func6, Try.ntmps6
  go_wp2_with fail
  refine (awake_any _).mono ?_
  rintro e w1 ⟨rfl, b1⟩
  go_wp2_with fail
  refine (copy_any _ _ _ _ (ha.below b1)).mono ?_
  rintro e w2 ⟨A2, c2, rfl, o2, b2⟩
  have b02 := below_step b1 b2
  go_wp2_with fail
  refine (copy_any _ _ _ _ (hb.below b02)).mono ?_
  rintro e w3 ⟨A3, c3, rfl, o3, b3⟩
  have b03 := below_step b02 b3
  go_wp2_with fail
  refine (union_any _ _ _ _ _ _ _ ((Bs.of_own o2 hal).below b3) (Bs.of_own o3 hbl)).mono ?_
  rintro e w4 ⟨A4, c4, rfl, o4, b4⟩
  have b04 := below_step b03 b4
  clear o2 o3
  have ha4 := ha.below b04
  have hb4 := hb.below b04
  by_cases hga : goodB a = true
  · by_cases hgb : goodB b = true
    · have h2a : 2 ≤ a.length := by unfold goodB at hga; simp at hga; omega
      have h2b : 2 ≤ b.length := by unfold goodB at hgb; simp at hgb; omega
      have hla : a.length - 1 < a.length := by omega
      have HGA := Lib.hid hga
      have HGB := Lib.hid hgb
      by_cases hlen : b.length = a.length
      · have hlb : a.length - 1 < b.length := by omega
        have e1 : a.getD (a.length - 1) 0 = a[a.length - 1] := by simp [List.getD, hla]
        have e2 : b.getD (a.length - 1) 0 = b[a.length - 1] := by simp [List.getD, hlb]
        obtain ⟨ad, rfl, _, hca⟩ := ha4.at_ hla
        obtain ⟨bd, rfl, _, hcb⟩ := hb4.at_ hlb
        have tl : ((a.length : Int) != (b.length : Int)) = false := by rw [bne_eq_false_iff_eq]; omega
        have ix : (a.length : Int) - 1 < (b.length : Int) := by omega
        have hbn : a.length ≤ b.length := by omega
        by_cases hlast : a.getD (a.length - 1) 0 = b.getD (a.length - 1) 0
        · have hE : unionE a b = 0 := by unfold unionE; rw [hga, hgb]; simp only [Bool.and_self, if_true]; rw [if_pos ⟨hlen, hlast⟩]
          have hL : unionL a b = orTo a b (a.length - 1) := by unfold unionL; rw [if_pos hE]
          have t2 : ((a[a.length - 1].toNat : Int) != (b[a.length - 1].toNat : Int)) = false := by
            rw [bne_eq_false_iff_eq, ← e1, ← e2, hlast]
          have HMO := Lib.hid (fun h => may_or (key := key) hga hlen hlast h)
          have hU : Bs w4 A4 (orTo a b (a.length - 1)) := by rw [hL] at o4; exact Bs.of_own o4 (by rw [orTo_length]; exact hal)
          have HGO := Lib.hid (good_or (b := b) hga)
          have HU1 := Lib.hid (fun j h => orTo_get a b (a.length - 1) j h)
          have HUL := Lib.hid (orTo_length a b (a.length - 1))
          rw [hE, show (unionL a b).length = a.length from by rw [hL, orTo_length]]
          clear hlen hlast hga hgb hE hL o4
          generalize orTo a b (a.length - 1) = U at HMO hU HGO HU1 HUL
          have hul : a.length - 1 < U.length := by have := HUL.out; omega
          obtain ⟨ud, rfl, _, hcu⟩ := hU.at_ hul
          have hu1 : U[a.length - 1] = a[a.length - 1] := by
            have h := HU1.out (a.length - 1) hla
            rw [List.getElem?_eq_getElem hul, if_neg (by omega)] at h
            rw [← e1]; exact Option.some.inj h
          rw [hu1] at hcu
          clear hu1 e1 e2
          have t3 : ((a.length : Int) != (a.length : Int)) = false := by simp
          have t4 : ((a[a.length - 1].toNat : Int) != (a[a.length - 1].toNat : Int)) = false := by simp
          go_wp2_with fail
          refine (good_any _ _ _ _ ha4).mono ?_
          rintro e w5 ⟨rfl, rfl⟩
          rw [HGA.out]
          go_wp2_with fail
          refine (good_any _ _ _ _ hb4).mono ?_
          rintro e w5 ⟨rfl, rfl⟩
          rw [HGB.out]
          go_wp2_with fail
          go_quiet (fail)
          go_wp2_with fail
          go_quiet (fail)
          go_wp2_with fail
          go_loopw [10] (fun i wr => ∃ k : Nat, k ≤ a.length - 1 ∧ i = .int .i64 k ∧ ∃ n, wr = w4.drewN n) (fun i _ => a.length - (intOf i).toNat)
          case atStart => exact ⟨0, Nat.zero_le _, rfl, _, by first | rfl | exact World.drewN_drewN _ _ _⟩
          case round =>
            obtain ⟨k, hkk, rfl, n, rfl⟩ := hrel
            by_cases hlt : k < a.length - 1
            · have hka : k < a.length := by omega
              have hkb : k < b.length := by omega
              have hku : k < U.length := by have := HUL.out; omega
              obtain ⟨ad', he, _, hc1⟩ := ha4.at_ hka
              obtain rfl : ad = ad' := by injection he
              clear he
              obtain ⟨bd', he, _, hc2⟩ := hb4.at_ hkb
              obtain rfl : bd = bd' := by injection he
              clear he
              obtain ⟨ud', he, _, hc3⟩ := hU.at_ hku
              obtain rfl : ud = ud' := by injection he
              clear he
              have t5 : ((U[k].toNat : Int) != bits .or .u8 (a[k].toNat : Int) (b[k].toNat : Int)) = false := by
                have h := HU1.out k hka
                rw [List.getElem?_eq_getElem hku, if_pos hlt] at h
                have h2 : U[k] = a[k] ||| b[k] := by
                  rw [Option.some.inj h]
                  simp [List.getD, hka, hkb]
                rw [bne_eq_false_iff_eq, u8_or_nat _ _ (u8_lt _) (u8_lt _), h2, UInt8.toNat_or]
              go_wp2_with fail
              go_quiet (fail)
              go_wp2_with fail
              go_roundw
              case rel => exact ⟨k + 1, by omega, by go_num, _, by first | rfl | exact World.drewN_drewN _ _ _⟩
              case measure => simp [intOf]; omega
            · obtain rfl : k = a.length - 1 := by omega
              have hge : ¬ (((a.length - 1 : Nat) : Int) < (a.length : Int) - 1) := by omega
              have hkl2 : Bs w4 C key := hk.below b04
              have b5 : Below w.heap.size w (w4.drewN n) := below_drewN b04 n
              have ha5 : Bs (w4.drewN n) (some ad) a := ha4
              have hb5 : Bs (w4.drewN n) (some bd) b := hb4
              have hu5 : Bs (w4.drewN n) (some ud) U := hU
              have hk5 : Bs (w4.drewN n) C key := hkl2
              generalize w4.drewN n = w5 at b5 ha5 hb5 hu5 hk5 ⊢
              have hUl := HUL.out
              go_wp2_with fail
              refine (may_any _ _ _ _ _ _ _ ha5 hk5).mono ?_
              rintro e w6 ⟨rfl, b6⟩
              have b06 := below_step b5 b6
              have hX := HGA.out
              obtain ⟨x, hx⟩ : ∃ x, x = mayB a key := ⟨_, rfl⟩
              obtain ⟨y, hy⟩ : ∃ y, y = mayB b key := ⟨_, rfl⟩
              obtain ⟨z, hz⟩ : ∃ z, z = mayB U key := ⟨_, rfl⟩
              rw [show mayR a key = .tuple #[.bool x, .int .i64 0] from by unfold mayR; rw [hX, hx, formE_eq hX]; rfl]
              have HX := Lib.hid hx
              have HY := Lib.hid hy
              have HZ := Lib.hid hz
              clear hx hy hz hX hUl
              go_wp2_with fail
              refine (may_any _ _ _ _ _ _ _ (hb5.below b6) (hk5.below b6)).mono ?_
              rintro e w7 ⟨rfl, b7⟩
              have b07 := below_step b06 b7
              rw [show mayR b key = .tuple #[.bool y, .int .i64 0] from by unfold mayR; rw [HGB.out, HY.out, formE_eq HGB.out]; rfl]
              have hu7 := hu5.below (below_step b6 b7)
              have hk7 := hk5.below (below_step b6 b7)
              go_wp2_with fail
              refine (may_any' _ _ _ _ _ _ _ _ HUL.out.symm hu7 hk7).mono ?_
              rintro e w8 ⟨rfl, b8⟩
              have b08 := below_step b07 b8
              rw [show mayR U key = .tuple #[.bool z, .int .i64 0] from by unfold mayR; rw [HGO.out, HZ.out, formE_eq HGO.out]; rfl]
              have hxyz : z = true ∨ (x = false ∧ y = false) := by
                rw [HX.out, HY.out, HZ.out]
                have h := HMO.out
                cases hxa : mayB a key
                · cases hyb : mayB b key
                  · exact .inr ⟨rfl, rfl⟩
                  · exact .inl (h (.inr hyb))
                · exact .inl (h (.inl hxa))
              clear HX HY HZ
              rcases hxyz with rfl | ⟨rfl, rfl⟩
              · go_wp2_with fail
                go_ret
                exact ⟨rfl, b08⟩
              · cases z
                · go_wp2_with fail
                  go_ret
                  exact ⟨rfl, b08⟩
                · go_wp2_with fail
                  go_ret
                  exact ⟨rfl, b08⟩
        · have hE : unionE a b = 1 := by unfold unionE; rw [hga, hgb]; simp only [Bool.and_self, if_true]; rw [if_neg (fun h => hlast h.2)]
          have hL : unionL a b = [] := by unfold unionL; rw [hE]; rfl
          have t2 : ((a[a.length - 1].toNat : Int) != (b[a.length - 1].toNat : Int)) = true := by
            rw [bne_iff_ne]
            rw [e1, e2] at hlast
            exact fun e => hlast (UInt8.toNat_inj.1 (by omega))
          rw [hE, show (unionL a b).length = 0 from by rw [hL]; rfl]
          clear hlen hlast hga hgb hE hL o4 e1 e2
          go_wp2_with fail
          refine (good_any _ _ _ _ ha4).mono ?_
          rintro e w5 ⟨rfl, rfl⟩
          rw [HGA.out]
          go_wp2_with fail
          refine (good_any _ _ _ _ hb4).mono ?_
          rintro e w5 ⟨rfl, rfl⟩
          rw [HGB.out]
          go_wp2_with fail
          go_quiet (fail)
          go_wp2_with fail
          go_ret
          exact ⟨rfl, below_drewN b04 _⟩
      · have hE : unionE a b = 1 := by unfold unionE; rw [hga, hgb]; simp [hlen]
        have hL : unionL a b = [] := by unfold unionL; rw [hE]; rfl
        have tl : ((a.length : Int) != (b.length : Int)) = true := by rw [bne_iff_ne]; omega
        rw [hE, show (unionL a b).length = 0 from by rw [hL]; rfl]
        clear hlen hga hgb hE hL o4
        go_wp2_with fail
        refine (good_any _ _ _ _ ha4).mono ?_
        rintro e w5 ⟨rfl, rfl⟩
        rw [HGA.out]
        go_wp2_with fail
        refine (good_any _ _ _ _ hb4).mono ?_
        rintro e w5 ⟨rfl, rfl⟩
        rw [HGB.out]
        go_wp2_with fail
        go_quiet (fail)
        go_wp2_with fail
        go_ret
        exact ⟨rfl, below_drewN b04 _⟩
    · have hgb' : goodB b = false := by simpa using hgb
      have hE : unionE a b = 3 := by unfold unionE; rw [hgb', Bool.and_false]; rfl
      have hL : unionL a b = [] := by unfold unionL; rw [hE]; rfl
      have HGA := Lib.hid hga
      have HG := Lib.hid hgb'
      rw [hE, show (unionL a b).length = 0 from by rw [hL]; rfl]
      clear hga hgb hgb' hE hL o4
      go_wp2_with fail
      refine (good_any _ _ _ _ ha4).mono ?_
      rintro e w5 ⟨rfl, rfl⟩
      rw [HGA.out]
      go_wp2_with fail
      refine (good_any _ _ _ _ hb4).mono ?_
      rintro e w5 ⟨rfl, rfl⟩
      rw [HG.out]
      go_wp2_with fail
      go_ret
      exact ⟨rfl, b04⟩
  · have hga' : goodB a = false := by simpa using hga
    have hE : unionE a b = 3 := by unfold unionE; rw [hga']; rfl
    have hL : unionL a b = [] := by unfold unionL; rw [hE]; rfl
    have HG := Lib.hid hga'
    rw [hE, show (unionL a b).length = 0 from by rw [hL]; rfl]
    clear hga hga' hE hL o4
    go_wp2_with fail
    refine (good_any _ _ _ _ ha4).mono ?_
    rintro e w5 ⟨rfl, rfl⟩
    rw [HG.out]
    go_wp2_with fail
    go_ret
    exact ⟨rfl, b04⟩

end Go.Proofs.Ytkgggifliafclaa
