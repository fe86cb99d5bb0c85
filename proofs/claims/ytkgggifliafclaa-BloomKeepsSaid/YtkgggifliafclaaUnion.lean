/- Uniting filters: Clone and Union. -/
import Derived.Test.YtkgggifliafclaaAwake
namespace Go.Proofs.Ytkgggifliafclaa
open Go.RowKit

set_option maxHeartbeats 400000 in
theorem clone_any (A : Option Addr) (l : List UInt8) (c : Nat) (w : World) (hb : Bs w A l) (hn : 0 < l.length) :
    Calls Try.prog 27 #[.slice A l.length c] w (RetBs l w) := by
  have hl := hb.le
  obtain ⟨ad, rfl, _, _⟩ := hb.at_ hn
  obtain ⟨i0, hi0, hz0, hz1, hz2⟩ := info_parts Try.infoU8
  have hq := fun W : World => Lib.run_eql_slice_nil (P := Try.prog) W 23 5 (some ad) l.length c 0 0 Try.underlying23
  go_enter Try.func27, Try.ntmps27
  go_wp2_with (at_builtin; refine wpList_append_any _ rfl (.tmp 5) (.tmp 6) _ rfl w.heap.size 5 i0 _ 1 1 Try.underlying23 hi0 hz0 hz1 hz2 rfl (by omega) (.slice (some ⟨w.heap.size, 0, none⟩) 0 0) 0 [] rfl (World.ownsRow_made w #[] 0 (Nat.le_refl _) (by simp [maxLen]) rfl) (w.alloc (.cells #[] 5)).heap.size (some ad) l.length c (l.map bval) rfl (hb.alloc _).1 (oneCell_bytes l) (by simp only [maxLen]; omega) (by omega) (by simp) ?_; intro v1 w1 hown1 hg1 hat1)
  have hbel : Below w.heap.size w w1 := ((Below.refl _ _).alloc (Nat.le_refl _) _).grown hg1 (by simp) (by intro k hk; simp [Value.ownBlock] at hk; omega)
  simp only [Nat.zero_add, List.nil_append] at hown1
  obtain ⟨A1, c1, hv⟩ := own_shape hown1
  rw [hv] at hown1
  go_ret
  exact ⟨A1, c1, by rw [← hv]; rfl, hown1, hbel⟩

/-- the first i bytes united -/
def orTo (a b : List UInt8) (i : Nat) : List UInt8 := (List.range a.length).map fun j => if j < i then a.getD j 0 ||| b.getD j 0 else a.getD j 0
theorem orTo_length (a b : List UInt8) (i : Nat) : (orTo a b i).length = a.length := by simp [orTo]
theorem orTo_get (a b : List UInt8) (i j : Nat) (h : j < a.length) : (orTo a b i)[j]? = some (if j < i then a.getD j 0 ||| b.getD j 0 else a.getD j 0) := by simp [orTo, h]
theorem orTo_zero (a b : List UInt8) : orTo a b 0 = a := by
  apply List.ext_getElem?
  intro j
  by_cases h : j < a.length
  · rw [orTo_get _ _ _ _ h]; simp [List.getD, h]
  · rw [List.getElem?_eq_none (by rw [orTo_length]; omega), List.getElem?_eq_none (by omega)]
theorem orTo_set (a b : List UInt8) (i : Nat) (h : i < a.length) : ((orTo a b i).map bval).set i (bval (a.getD i 0 ||| b.getD i 0)) = (orTo a b (i + 1)).map bval := by
  apply List.ext_getElem?
  intro j
  rw [List.getElem?_set]
  by_cases hj : j < a.length
  · rw [List.getElem?_map, List.getElem?_map, orTo_get _ _ _ _ hj, orTo_get _ _ _ _ hj]
    by_cases hij : i = j
    · subst hij; simp [orTo_length, hj]
    · rw [if_neg hij]
      have : (j < i ↔ j < i + 1) := by omega
      simp [this]
  · rw [List.getElem?_eq_none (l := (orTo a b i).map bval) (by rw [List.length_map, orTo_length]; omega), List.getElem?_eq_none (l := (orTo a b (i + 1)).map bval) (by rw [List.length_map, orTo_length]; omega)]
    split
    · rw [if_neg (by rw [List.length_map, orTo_length]; omega)]
    · rfl
def unionE (a b : List UInt8) : Int := if goodB a && goodB b then (if b.length = a.length ∧ a.getD (a.length - 1) 0 = b.getD (a.length - 1) 0 then 0 else 1) else 3
def unionL (a b : List UInt8) : List UInt8 := if unionE a b = 0 then orTo a b (a.length - 1) else []

theorem RetBsE.nilN (er : Int) (w : World) (n : Nat) : RetBsE [] er w (.returned (.tuple #[.slice none 0 0, .int .i64 er])) (w.drewN n) :=
  ⟨none, 0, rfl, World.ownsRow_nil _ _ _ _, below_drewN (Below.refl _ _) n⟩

set_option maxRecDepth 100000 in
set_option maxHeartbeats 1000000 in
theorem union_any (A B : Option Addr) (a b : List UInt8) (c d : Nat) (w : World) (ha : Bs w A a) (hb : Bs w B b) :
    Calls Try.prog 19 #[.slice A a.length c, .slice B b.length d] w (RetBsE (unionL a b) (unionE a b) w) := by
  have hal := ha.le
  have hbl := hb.le
  by_cases hga : goodB a = true
  · by_cases hgb : goodB b = true
    · have h2a : 2 ≤ a.length := by unfold goodB at hga; simp at hga; omega
      have h2b : 2 ≤ b.length := by unfold goodB at hgb; simp at hgb; omega
      have ta : ((formE a : Int) != 0) = false := by rw [formE_eq hga]; rfl
      have tb : ((formE b : Int) != 0) = false := by rw [formE_eq hgb]; rfl
      have hla : a.length - 1 < a.length := by omega
      by_cases hlen : b.length = a.length
      · by_cases hlast : a.getD (a.length - 1) 0 = b.getD (a.length - 1) 0
        · have hlb : a.length - 1 < b.length := by omega
          obtain ⟨ad, rfl, _, hca⟩ := ha.at_ (k := a.length - 1) hla
          obtain ⟨bd, rfl, _, hcb⟩ := hb.at_ (k := a.length - 1) hlb
          have HE : Hid (unionE a b = 0) := by show _ = _; unfold unionE; rw [hga, hgb]; simp only [Bool.and_self, if_true]; rw [if_pos ⟨hlen, hlast⟩]
          have HL : Hid (unionL a b = orTo a b (a.length - 1)) := by show _ = _; unfold unionL; rw [if_pos HE.out]
          have tl : ((b.length : Int) != (a.length : Int)) = false := by rw [bne_eq_false_iff_eq]; omega
          have t2 : ((a[a.length - 1].toNat : Int) != (b[a.length - 1].toNat : Int)) = false := by
            rw [bne_eq_false_iff_eq]
            have e1 : a.getD (a.length - 1) 0 = a[a.length - 1] := by simp [List.getD, show a.length - 1 < a.length by omega]
            have e2 : b.getD (a.length - 1) 0 = b[a.length - 1] := by simp [List.getD, show a.length - 1 < b.length by omega]
            rw [← e1, ← e2, hlast]
          have HLen := Lib.hid hlen
          have ix : (a.length : Int) - 1 < (b.length : Int) := by omega
          have hbn : a.length ≤ b.length := by omega
          clear hlen hlast hga hgb
          go_enter Try.func19, Try.ntmps19
          go_wp2_with fail
          refine (form_any _ _ _ _ ha).mono ?_
          rintro e w1 ⟨rfl, rfl⟩
          go_wp2_with fail
          refine (form_any _ _ _ _ hb).mono ?_
          rintro e w1 ⟨rfl, rfl⟩
          go_wp2_with fail
          go_quiet (fail)
          go_wp2_with fail
          refine (clone_any _ _ _ _ (ha.drewN nq) (by omega)).mono ?_
          rintro e w2 ⟨A2, c2, rfl, o2, b2⟩
          have b02 : Below w.heap.size w w2 := (below_drewN (Below.refl _ _) nq).trans b2
          have o2' : w2.ownsRow w.heap.size 5 1 (.slice A2 a.length c2) a.length ((orTo a b 0).map bval) := by rw [orTo_zero]; exact o2
          obtain ⟨g, cap, hv, hg0, _⟩ := o2.form (by omega)
          obtain ⟨rfl, rfl⟩ : A2 = some ⟨g, 0, none⟩ ∧ c2 = cap := by simpa using hv
          have hgw : w.heap.size ≤ g := hg0
          clear o2 b2 hv hg0
          go_wp2_with fail
          go_loopw [39] (fun i wr => ∃ k : Nat, k ≤ a.length - 1 ∧ i = .int .i64 k ∧ wr.ownsRow w.heap.size 5 1 (.slice (some ⟨g, 0, none⟩) a.length c2) a.length ((orTo a b k).map bval) ∧ Below w.heap.size w wr) (fun i _ => a.length - (intOf i).toNat)
          case atStart => exact ⟨0, Nat.zero_le _, rfl, o2', b02⟩
          case round =>
            obtain ⟨k, hk, rfl, hown, hbel⟩ := hrel
            by_cases hlt : k < a.length - 1
            · have hka : k < a.length := by omega
              have hkb : k < b.length := by omega
              obtain ⟨ad', he, _, hc1⟩ := (hb.below hbel).at_ hkb
              obtain rfl : bd = ad' := by injection he
              clear he
              have hc2 : wr.cell? ⟨g, k, none⟩ = some (.int .u8 (a[k].toNat : Int)) := by
                rw [hown.cellAt k (by omega), List.getElem?_map, orTo_get _ _ _ _ hka]
                simp [List.getD, hka]
              have hfr := hown.frozenAt k
              have HO := Lib.hid (u8_or_nat a[k].toNat b[k].toNat (u8_lt _) (u8_lt _))
              have HS := Lib.hid (orTo_set a b k hka)
              have HV : Hid (bval (a.getD k 0 ||| b.getD k 0) = .int .u8 ((a[k].toNat ||| b[k].toNat : Nat) : Int)) := by
                show _ = _
                simp [List.getD, hka, hkb]
              go_wp2_with fail
              go_region
              go_wp2
              go_roundw
              case rel =>
                refine ⟨k + 1, by omega, by go_num, ?_, (hbel.setCell hgw _).drew⟩
                rw [HO.out, ← HS.out, HV.out]
                exact (hown.stored k _).1
              case measure => simp [intOf]; omega
            · obtain rfl : k = a.length - 1 := by omega
              have hge : ¬ (((a.length - 1 : Nat) : Int) < (a.length : Int) - 1) := by omega
              go_wp2_with fail
              go_ret2
              rw [HE.out, HL.out]
              exact ⟨some ⟨g, 0, none⟩, c2, by rw [orTo_length]; rfl, by rw [orTo_length]; exact hown, hbel⟩
        · have hlb : a.length - 1 < b.length := by omega
          obtain ⟨ad, rfl, _, hca⟩ := ha.at_ (k := a.length - 1) hla
          obtain ⟨bd, rfl, _, hcb⟩ := hb.at_ (k := a.length - 1) hlb
          have HE : Hid (unionE a b = 1) := by show _ = _; unfold unionE; rw [hga, hgb]; simp only [Bool.and_self, if_true]; rw [if_neg (fun h => hlast h.2)]
          have HL : Hid (unionL a b = []) := by show _ = _; unfold unionL; rw [HE.out]; rfl
          have tl : ((b.length : Int) != (a.length : Int)) = false := by rw [bne_eq_false_iff_eq]; omega
          have t2 : ((a[a.length - 1].toNat : Int) != (b[a.length - 1].toNat : Int)) = true := by
            rw [bne_iff_ne]
            have e1 : a.getD (a.length - 1) 0 = a[a.length - 1] := by simp [List.getD, show a.length - 1 < a.length by omega]
            have e2 : b.getD (a.length - 1) 0 = b[a.length - 1] := by simp [List.getD, show a.length - 1 < b.length by omega]
            rw [e1, e2] at hlast
            exact fun e => hlast (UInt8.toNat_inj.1 (by omega))
          have ix : (a.length : Int) - 1 < (b.length : Int) := by omega
          clear hlen hlast hga hgb
          go_enter Try.func19, Try.ntmps19
          go_wp2_with fail
          refine (form_any _ _ _ _ ha).mono ?_
          rintro e w1 ⟨rfl, rfl⟩
          go_wp2_with fail
          refine (form_any _ _ _ _ hb).mono ?_
          rintro e w1 ⟨rfl, rfl⟩
          go_wp2_with fail
          go_quiet (fail)
          go_wp2_with fail
          go_ret2
          rw [HE.out, HL.out]
          exact RetBsE.nilN _ _ _
      · have HE : Hid (unionE a b = 1) := by show _ = _; unfold unionE; rw [hga, hgb]; simp [hlen]
        have HL : Hid (unionL a b = []) := by show _ = _; unfold unionL; rw [HE.out]; rfl
        have tl : ((b.length : Int) != (a.length : Int)) = true := by rw [bne_iff_ne]; omega
        clear hlen
        go_enter Try.func19, Try.ntmps19
        go_wp2_with fail
        refine (form_any _ _ _ _ ha).mono ?_
        rintro e w1 ⟨rfl, rfl⟩
        go_wp2_with fail
        refine (form_any _ _ _ _ hb).mono ?_
        rintro e w1 ⟨rfl, rfl⟩
        go_wp2_with fail
        go_quiet (fail)
        go_wp2_with fail
        go_ret2
        rw [HE.out, HL.out]
        exact RetBsE.nilN _ _ _
    · have hgb' : goodB b = false := by simpa using hgb
      have HE : Hid (unionE a b = 3) := by show _ = _; unfold unionE; rw [hgb', Bool.and_false]; rfl
      have HL : Hid (unionL a b = []) := by show _ = _; unfold unionL; rw [HE.out]; rfl
      have ta : ((formE a : Int) != 0) = false := by rw [formE_eq hga]; rfl
      have tb : ((formE b : Int) != 0) = true := by rw [formE_eq hgb']; rfl
      clear hga hgb hgb'
      go_enter Try.func19, Try.ntmps19
      go_wp2_with fail
      refine (form_any _ _ _ _ ha).mono ?_
      rintro e w1 ⟨rfl, rfl⟩
      go_wp2_with fail
      refine (form_any _ _ _ _ hb).mono ?_
      rintro e w1 ⟨rfl, rfl⟩
      go_wp2_with fail
      go_ret2
      rw [HE.out, HL.out]
      exact RetBsE.nil_ _ _
  · have hga' : goodB a = false := by simpa using hga
    have HE : Hid (unionE a b = 3) := by show _ = _; unfold unionE; rw [hga']; rfl
    have HL : Hid (unionL a b = []) := by show _ = _; unfold unionL; rw [HE.out]; rfl
    have ta : ((formE a : Int) != 0) = true := by rw [formE_eq hga']; rfl
    clear hga hga'
    go_enter Try.func19, Try.ntmps19
    go_wp2_with fail
    refine (form_any _ _ _ _ ha).mono ?_
    rintro e w1 ⟨rfl, rfl⟩
    go_wp2_with fail
    go_ret2
    rw [HE.out, HL.out]
    exact RetBsE.nil_ _ _

end Go.Proofs.Ytkgggifliafclaa
