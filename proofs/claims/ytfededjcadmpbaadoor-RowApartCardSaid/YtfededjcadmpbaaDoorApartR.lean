/- Entries of two rows meet only in a unique index, and there just if the rows' values are alike: plain laws. RowApart: two rows meet in no entry but of a unique index, and there just if their values are alike. -/
import Derived.Test.YtfededjcadmpbaaDoorEntA
import Derived.Test.YtfededjcadmpbaaDoorCompare
import Derived.Test.YtfededjcadmpbaaDoorAwakeR
import Derived.Deep.RegionHeld3
namespace Go.Proofs.YtfededjcadmpbaaDoor
open Go.RowKit

theorem orI_eq {a b : Int} (h : orI a b = 0) : a = 0 ∧ b = 0 := by
  unfold orI at h
  by_cases h1 : a = 0
  · subst h1; exact ⟨rfl, h⟩
  · rw [if_pos h1] at h; exact absurd h h1
theorem firstNZ_zero : ∀ {cs : List Int} {f g : Int → LVal}, firstNZ (cs.map f) (cs.map g) = 0 ↔ ∀ c ∈ cs, cmpV (f c) (g c) = 0
  | [], f, g => by simp [firstNZ]
  | c :: cs, f, g => by
    show orI (cmpV (f c) (g c)) (firstNZ (cs.map f) (cs.map g)) = 0 ↔ _
    constructor
    · intro h
      obtain ⟨h1, h2⟩ := orI_eq h
      intro d hd
      rcases List.mem_cons.1 hd with rfl | hd
      · exact h1
      · exact firstNZ_zero.1 h2 d hd
    · intro h
      rw [h c (List.mem_cons_self ..), firstNZ_zero.2 fun d hd => h d (List.mem_cons_of_mem _ hd)]
      rfl
/-- are the rows' values alike in an index's columns? -/
def alikeB (xs ys : List LVal) (cs : List Int) : Bool := cs.all fun c => cmpV (xs.getD c.toNat .null) (ys.getD c.toNat .null) == 0
theorem alikeB_iff {xs ys : List LVal} {cs : List Int} : alikeB xs ys cs = true ↔ ∀ c ∈ cs, cmpV (xs.getD c.toNat .null) (ys.getD c.toNat .null) = 0 := by
  unfold alikeB
  rw [List.all_eq_true]
  simp only [beq_iff_eq]

section
variable {id : Int} {kn : Int} {ixs : List LIx} {xs ys : List LVal}
theorem ents_zero : (entsL id kn ixs xs)[0]? = some (rowKey id kn xs, encL xs) := rfl
theorem ents_len : (entsL id kn ixs xs).length = ixs.length + 1 := by
  unfold entsL
  rw [List.length_cons, List.length_mapIdx]
theorem ents_succ {m : Nat} (h : m < ixs.length) : (entsL id kn ixs xs)[m + 1]? = some (entK id (rowKey id kn xs) xs m ixs[m], rowKey id kn xs) := by
  unfold entsL
  rw [List.getElem?_cons_succ, List.getElem?_mapIdx, List.getElem?_eq_getElem h]
  rfl
theorem ixVals_good (h : ∀ x ∈ xs, x.err = 0 ∧ x.wfv) {x : LIx} (hr : ∀ c ∈ x.cols, 0 ≤ c ∧ c < (xs.length : Int)) : ∀ v ∈ ixVals xs x, v.err = 0 ∧ v.wfv := fun v hv => h v (ixVals_mem hr v hv)
theorem ix_cmp (hx : ∀ x ∈ xs, x.err = 0 ∧ x.wfv) (hy : ∀ x ∈ ys, x.err = 0 ∧ x.wfv) {x : LIx} (hr : ∀ c ∈ x.cols, 0 ≤ c ∧ c < (xs.length : Int)) (hr2 : ∀ c ∈ x.cols, 0 ≤ c ∧ c < (ys.length : Int)) :
    PF (keyL (ixVals xs x)) (keyL (ixVals ys x)) ∧ cmpL (keyL (ixVals xs x)) (keyL (ixVals ys x)) = firstNZ (ixVals xs x) (ixVals ys x) :=
  keyL_cmp (by unfold ixVals; rw [List.length_map, List.length_map]) (ixVals_good hx hr) (ixVals_good hy hr2)
theorem cons3 {a b c d e f : UInt8} {s t : List UInt8} (h : [a, b, c] ++ s = [d, e, f] ++ t) : a = d ∧ c = f ∧ s = t := by
  injection h with h1 h
  injection h with _ h
  injection h with h3 h
  exact ⟨h1, h3, h⟩
theorem meet_not (hx : ∀ x ∈ xs, x.err = 0 ∧ x.wfv) (hy : ∀ x ∈ ys, x.err = 0 ∧ x.wfv) (hr : ∀ x ∈ ixs, ∀ c ∈ x.cols, 0 ≤ c ∧ c < (xs.length : Int)) (hr2 : ∀ x ∈ ixs, ∀ c ∈ x.cols, 0 ≤ c ∧ c < (ys.length : Int)) (h4 : ixs.length ≤ 4)
    (hne : rowKey id kn xs ≠ rowKey id kn ys) {i j : Nat} (hi : i < (entsL id kn ixs xs).length) (hj : j < (entsL id kn ixs ys).length) (h : i = 0 ∨ i ≠ j ∨ ∃ m, ∃ hm : m < ixs.length, i = m + 1 ∧ ixs[m].uniq = false) :
    ((entsL id kn ixs xs)[i].1 == (entsL id kn ixs ys)[j].1) = false := by
  rw [beq_eq_false_iff_ne]
  intro he
  have hli := hi
  have hlj := hj
  rw [ents_len] at hli hlj
  have gx : ∀ m (hm : m < ixs.length), ∀ h : m + 1 < (entsL id kn ixs xs).length, (entsL id kn ixs xs)[m + 1] = (entK id (rowKey id kn xs) xs m ixs[m], rowKey id kn xs) := fun m hm h => by
    have := ents_succ (id := id) (kn := kn) (xs := xs) hm
    rw [List.getElem?_eq_getElem h] at this
    exact Option.some.inj this
  have gy : ∀ m (hm : m < ixs.length), ∀ h : m + 1 < (entsL id kn ixs ys).length, (entsL id kn ixs ys)[m + 1] = (entK id (rowKey id kn ys) ys m ixs[m], rowKey id kn ys) := fun m hm h => by
    have := ents_succ (id := id) (kn := kn) (xs := ys) hm
    rw [List.getElem?_eq_getElem h] at this
    exact Option.some.inj this
  have hk : ∀ (key : List UInt8) (zs us : List LVal) m (x : LIx), rowKey id kn us ≠ entK id key zs m x := fun key zs us m x h => by
    have h1 : (114 : UInt8) = 105 := by
      have h2 : (114 :: UInt8.ofInt id :: keyL (us.take kn.toNat)) = (105 :: UInt8.ofInt id :: UInt8.ofInt (m : Int) :: (keyL (ixVals zs x) ++ (if x.uniq = true then [] else key))) := h
      injection h2
    exact absurd h1 (by decide)
  cases i with
  | zero =>
    have e0 : (entsL id kn ixs xs)[0].1 = rowKey id kn xs := rfl
    rw [e0] at he
    cases j with
    | zero => exact hne he
    | succ j => rw [gy j (by omega) hj] at he; exact hk _ _ _ _ _ he
  | succ i =>
    rw [gx i (by omega) hi] at he
    cases j with
    | zero => exact hk _ _ _ _ _ he.symm
    | succ j =>
      rw [gy j (by omega) hj] at he
      have he2 : [105, UInt8.ofInt id, UInt8.ofInt (i : Int)] ++ (keyL (ixVals xs ixs[i]) ++ (if ixs[i].uniq = true then [] else rowKey id kn xs)) = [105, UInt8.ofInt id, UInt8.ofInt (j : Int)] ++ (keyL (ixVals ys ixs[j]) ++ (if ixs[j].uniq = true then [] else rowKey id kn ys)) := by
        have h3 := he
        unfold entK ixKey at h3
        simp only [List.append_assoc] at h3
        exact h3
      obtain ⟨_, hc, hs⟩ := cons3 he2
      have hij : i = j := by
        have h5 : (UInt8.ofInt (i : Int)).toNat = (UInt8.ofInt (j : Int)).toNat := by rw [hc]
        have h6 := mod_u8 (i : Int)
        have h7 := mod_u8 (j : Int)
        omega
      subst hij
      rcases h with h | h | ⟨m, hm, h1, h2⟩
      · omega
      · exact h rfl
      · obtain rfl : i = m := by omega
        rw [h2] at hs
        have hmem : ixs[i] ∈ ixs := List.getElem_mem hm
        obtain ⟨hpf, _⟩ := ix_cmp hx hy (hr _ hmem) (hr2 _ hmem)
        have h8 := hpf (rowKey id kn xs) (rowKey id kn ys)
        have hs2 : keyL (ixVals xs ixs[i]) ++ rowKey id kn xs = keyL (ixVals ys ixs[i]) ++ rowKey id kn ys := hs
        rw [hs2, cmpL_self] at h8
        exact hne (cmpL_eq (orI_eq h8.symm).2)
theorem meet_uniq (hx : ∀ x ∈ xs, x.err = 0 ∧ x.wfv) (hy : ∀ x ∈ ys, x.err = 0 ∧ x.wfv) (hr : ∀ x ∈ ixs, ∀ c ∈ x.cols, 0 ≤ c ∧ c < (xs.length : Int)) (hr2 : ∀ x ∈ ixs, ∀ c ∈ x.cols, 0 ≤ c ∧ c < (ys.length : Int))
    {m : Nat} (hm : m < ixs.length) (hu : ixs[m].uniq = true) (hi : m + 1 < (entsL id kn ixs xs).length) (hj : m + 1 < (entsL id kn ixs ys).length) :
    ((entsL id kn ixs xs)[m + 1].1 == (entsL id kn ixs ys)[m + 1].1) = alikeB xs ys ixs[m].cols := by
  have gx : (entsL id kn ixs xs)[m + 1] = (entK id (rowKey id kn xs) xs m ixs[m], rowKey id kn xs) := by
    have := ents_succ (id := id) (kn := kn) (xs := xs) hm
    rw [List.getElem?_eq_getElem hi] at this
    exact Option.some.inj this
  have gy : (entsL id kn ixs ys)[m + 1] = (entK id (rowKey id kn ys) ys m ixs[m], rowKey id kn ys) := by
    have := ents_succ (id := id) (kn := kn) (xs := ys) hm
    rw [List.getElem?_eq_getElem hj] at this
    exact Option.some.inj this
  rw [gx, gy]
  have hmem : ixs[m] ∈ ixs := List.getElem_mem hm
  obtain ⟨_, hcm⟩ := ix_cmp hx hy (hr _ hmem) (hr2 _ hmem)
  rw [Bool.eq_iff_iff, alikeB_iff, beq_iff_eq]
  unfold entK ixKey
  rw [if_pos hu, if_pos hu]
  simp only [List.append_nil]
  constructor
  · intro h
    have h2 := (cons3 h).2.2
    rw [h2, cmpL_self] at hcm
    exact firstNZ_zero.1 hcm.symm
  · intro h
    have h3 : firstNZ (ixVals xs ixs[m]) (ixVals ys ixs[m]) = 0 := firstNZ_zero.2 h
    rw [h3] at hcm
    rw [cmpL_eq hcm]
end
end Go.Proofs.YtfededjcadmpbaaDoor

namespace Go.Proofs.YtfededjcadmpbaaDoor
open Go.RowKit

/-- a truth is answered, and nothing old is touched -/
def RetB (b : Bool) (w : World) (e : Ending) (w' : World) : Prop := e = .returned (.bool b) ∧ Below w.heap.size w w'
theorem eq_b (A B : Option Addr) (l m : List UInt8) (c d : Nat) (w : World) (hb : Bs w A l) (hb2 : Bs w B m) : Calls Tryd.prog 12 #[.slice A l.length c, .slice B m.length d] w (RetB (l == m) w) := by
  refine (equal_any A B l m c d w hb hb2).mono ?_
  rintro en w2 ⟨rfl, n, rfl⟩
  exact ⟨rfl, below_drewN (Below.refl _ _) n⟩
theorem entsB_len {id keys : Int} {tn : ByteArray} {cols : List LCol} {ixs : List LIx} {xs : List LVal} : (entsB id keys tn cols ixs xs).length ≤ 5 := by
  unfold entsB
  by_cases h : fitsE id keys tn cols ixs xs = 0
  · rw [if_pos h, ents_len]
    have := (check_ixs (fitsE_ok h).1).1
    omega
  · rw [if_neg h]; exact Nat.zero_le _
theorem alikeB_take {xs ys : List LVal} {cs : List Int} {q : Nat} (h : q < cs.length) : alikeB xs ys (cs.take (q + 1)) = (alikeB xs ys (cs.take q) && (cmpV (xs.getD (cs[q]).toNat .null) (ys.getD (cs[q]).toNat .null) == 0)) := by
  unfold alikeB
  rw [List.take_succ_eq_append_getElem h, List.all_append]
  simp

set_option maxRecDepth 100000 in
set_option maxHeartbeats 4000000 in
theorem apart_any (id keys : Int) (tn : ByteArray) (cols : List LCol) (ixs : List LIx) (l m : List LCel) (A B C D : Option Addr) (ca cb cc cd : Nat) (w : World) (hA : Sl ColE w A cols) (hB : Sl IxE w B ixs) (hC : Sl CraO w C l) (hD : Sl CraO w D m) (hn : tn.size ≤ 140737488351232) (hu : U8 w)
    (hl : ∀ x ∈ l, (Lit.int .i64 x.n).wf = true) (hm : ∀ x ∈ m, (Lit.int .i64 x.n).wf = true) (hca : cols.length ≤ ca) (hcm : ca ≤ 9223372036854775807) :
    Calls Tryd.prog 5 #[.agg #[.int .i64 id, .string tn, .slice A cols.length ca, .int .i64 keys, .slice B ixs.length cb], .slice C l.length cc, .slice D m.length cd] w fun e w' => e = .returned (.bool true) ∧ Below w.heap.size w w' := by
  have HL := Lib.hid (vals_wf hl)
  have HM := Lib.hid (vals_wf hm)
  clear hl hm
  have b0 : Below w.heap.size w (w.alloc (.cells #[.int .i64 id, .string tn, .slice A cols.length ca, .int .i64 keys, .slice B ixs.length cb] 25)) := (Below.refl _ _).alloc (Nat.le_refl _) _
  have k0 := Blk.new w 25 #[.int .i64 id, .string tn, .slice A cols.length ca, .int .i64 keys, .slice B ixs.length cb]
  go_enter Tryd.func5, Tryd.ntmps5
  go_wp2_with fail
  generalize (w.alloc (.cells #[.int .i64 id, .string tn, .slice A cols.length ca, .int .i64 keys, .slice B ixs.length cb] 25)) = W0 at *
  refine (awake_any W0 (hu.below b0)).mono ?_
  rintro en w1 ⟨rfl, b1⟩
  have b01 := b0.trans (b1.mono b0.size)
  have k1 := k0.below b1 k0.lt
  go_wp2_with fail
  refine (valsO_any l C cc w1 (hC.below b01)).mono ?_
  rintro en w2 ⟨V, X, cv, cx, rfl, sV, sX, capV, capX, b2⟩
  generalize valsOf l = xs at *
  have b02 := b01.trans (b2.mono b01.size)
  have k2 := k1.below b2 k1.lt
  go_wp2_with fail
  refine (valsO_any m D cd w2 (hD.below b02)).mono ?_
  rintro en w3 ⟨U, Y, cu, cy, rfl, sU, sY, capU, capY, b3⟩
  generalize valsOf m = ys at *
  have b03 := b02.trans (b3.mono b02.size)
  have k3 := k2.below b3 k2.lt
  have sV3 := sV.below b3
  have sX3 := sX.below b3
  clear b0 b1 b2 k0 k1 b01 sV sX
  go_wp2_with ((with_reducible refine wpList_load_blk rfl 25 (.tmp 3) rfl w.heap.size ?_ 25 _ _ k3 Tryd.underlying25 ?_ Tryd.size_TableV ?_ ?_); rfl; rfl; rfl)
  refine (entries_any id keys tn cols ixs xs A B V ca cb cv w3 (hA.below b03) (hB.below b03) sV3 hn (hu.below b03) (fun x hx => HL.out x hx) ⟨hca, hcm⟩ capV).mono ?_
  have n1 := entsB_len (id := id) (keys := keys) (tn := tn) (cols := cols) (ixs := ixs) (xs := xs)
  obtain ⟨E1, hE1⟩ : ∃ E, fitsE id keys tn cols ixs xs = E := ⟨_, rfl⟩
  obtain ⟨L1, hL1⟩ : ∃ K, entsB id keys tn cols ixs xs = K := ⟨_, rfl⟩
  rw [hL1] at n1
  rw [hE1, hL1]
  have HE1 := Lib.hid hE1
  have HL1 := Lib.hid hL1
  clear hE1 hL1
  rintro en w4 ⟨D1, d1, rfl, o1, b4⟩
  have s14 : Sl PairE w4 D1 L1 := Own.sl o1 (by simp only [PairE]; omega)
  have b04 := b03.trans (b4.mono b03.size)
  have k4 := k3.below b4 k3.lt
  have sX4 := sX3.below b4
  have sU4 := sU.below b4
  have sY4 := sY.below b4
  clear o1 sX3 sU sY b3 b4 k2 k3 b02 b03 sV3
  go_wp2_with ((with_reducible refine wpList_load_blk rfl 25 (.tmp 3) rfl w.heap.size ?_ 25 _ _ k4 Tryd.underlying25 ?_ Tryd.size_TableV ?_ ?_); rfl; rfl; rfl)
  refine (entries_any id keys tn cols ixs ys A B U ca cb cu w4 (hA.below b04) (hB.below b04) sU4 hn (hu.below b04) (fun x hx => HM.out x hx) ⟨hca, hcm⟩ capU).mono ?_
  have n2 := entsB_len (id := id) (keys := keys) (tn := tn) (cols := cols) (ixs := ixs) (xs := ys)
  obtain ⟨E2, hE2⟩ : ∃ E, fitsE id keys tn cols ixs ys = E := ⟨_, rfl⟩
  obtain ⟨L2, hL2⟩ : ∃ K, entsB id keys tn cols ixs ys = K := ⟨_, rfl⟩
  rw [hL2] at n2
  rw [hE2, hL2]
  have HE2 := Lib.hid hE2
  have HL2 := Lib.hid hL2
  clear hE2 hL2
  rintro en w5 ⟨D2, d2, rfl, o2, b5⟩
  have s25 : Sl PairE w5 D2 L2 := Own.sl o2 (by simp only [PairE]; omega)
  have s15 := s14.below b5
  have b05 := b04.trans (b5.mono b04.size)
  have k5 := k4.below b5 k4.lt
  have sX5 := sX4.below b5
  have sY5 := sY4.below b5
  have hB5 := hB.below b05
  clear o2 s14 sX4 sU4 sY4 b5 k4 b04 hA hC hD hu hn hca hcm capV capX capU capY hB
  by_cases h1 : E1 = 0
  · have c1 : (E1 != 0) = false := by rw [h1]; rfl
    have hL1 : L1 = entsL id keys ixs xs := by rw [← HL1.out]; unfold entsB; rw [if_pos (HE1.out.trans h1)]
    have n1' : L1.length = ixs.length + 1 := by rw [hL1, ents_len]
    by_cases h2 : E2 = 0
    · have c2 : (E2 != 0) = false := by rw [h2]; rfl
      have hL2 : L2 = entsL id keys ixs ys := by rw [← HL2.out]; unfold entsB; rw [if_pos (HE2.out.trans h2)]
      have n2' : L2.length = ixs.length + 1 := by rw [hL2, ents_len]
      obtain ⟨hck, hxl, hvx⟩ := fitsE_ok (HE1.out.trans h1)
      obtain ⟨_, hyl, hvy⟩ := fitsE_ok (HE2.out.trans h2)
      have HSX := Lib.hid (values_sm (Nat.le_of_eq hxl) hvx)
      have HSY := Lib.hid (values_sm (Nat.le_of_eq hyl) hvy)
      obtain ⟨h4, hir⟩ := check_ixs hck
      have hrx : ∀ x ∈ ixs, ∀ c ∈ x.cols, 0 ≤ c ∧ c < (xs.length : Int) := fun x hx c hc => by have := (hir x hx).1 c hc; omega
      have hry : ∀ x ∈ ixs, ∀ c ∈ x.cols, 0 ≤ c ∧ c < (ys.length : Int) := fun x hx c hc => by have := (hir x hx).1 c hc; omega
      have HRX := Lib.hid hrx
      have HRY := Lib.hid hry
      have HN1 := Lib.hid n1'
      have HN2 := Lib.hid n2'
      have hpos1 : 0 < L1.length := by omega
      have hpos2 : 0 < L2.length := by omega
      have f1 : ((L1.length : Int) == 0) = false := by rw [beq_eq_false_iff_ne]; omega
      have g1 : ((L1.length : Int) != 1 + (ixs.length : Int)) = false := by rw [bne_eq_false_iff_eq]; omega
      have g2 : ((L2.length : Int) != (L1.length : Int)) = false := by rw [bne_eq_false_iff_eq]; omega
      have g3 : ((L1.length : Int) == (L2.length : Int)) = true := by rw [beq_iff_eq]; omega
      have hMN : rowKey id keys xs ≠ rowKey id keys ys → ∀ (i j : Nat) (hi : i < L1.length) (hj : j < L2.length), (i = 0 ∨ i ≠ j ∨ ∃ m, ∃ hm : m < ixs.length, i = m + 1 ∧ ixs[m].uniq = false) → (L1[i].1 == L2[j].1) = false := by
        intro hne i j hi hj h
        subst hL1 hL2
        exact meet_not (fun x hx => HL.out x hx) (fun x hx => HM.out x hx) hrx hry h4 hne hi hj h
      have hMU : ∀ (m : Nat) (hm : m < ixs.length), ixs[m].uniq = true → ∀ (hi : m + 1 < L1.length) (hj : m + 1 < L2.length), (L1[m + 1].1 == L2[m + 1].1) = alikeB xs ys ixs[m].cols := by
        intro m hm hq hi hj
        subst hL1 hL2
        exact meet_uniq (fun x hx => HL.out x hx) (fun x hx => HM.out x hx) hrx hry hm hq hi hj
      have e10 : L1[0].1 = rowKey id keys xs := by subst hL1; rfl
      have e20 : L2[0].1 = rowKey id keys ys := by subst hL2; rfl
      have HXL := Lib.hid hxl
      have HYL := Lib.hid hyl
      have HMN := Lib.hid hMN
      have HMU := Lib.hid hMU
      have HIR := Lib.hid hir
      have hxy1 : xs.length ≤ cols.length := by omega
      have hxy2 : ys.length ≤ cols.length := by omega
      have hn1a : L1.length ≤ ixs.length + 1 := by omega
      have hn2a : L2.length ≤ ixs.length + 1 := by omega
      clear hL1 hL2 n1' n2' h1 h2 hrx hry hMN hMU hxl hyl hir hck hvx hvy
      obtain ⟨a1, P1, p1, Q1, q1, rfl, ha1, z1, -, ⟨hP1, -⟩, -⟩ := PairE.at_ s15 hpos1
      obtain ⟨a2, P2, p2, Q2, q2, rfl, ha2, z2, -, ⟨hP2, -⟩, -⟩ := PairE.at_ s25 hpos2
      rw [show a1.add (0 * 2) = a1 by simp [Addr.add]] at z1
      rw [show a2.add (0 * 2) = a2 by simp [Addr.add]] at z2
      obtain ⟨eq0, heq0⟩ : ∃ b, (L1[0].1 == L2[0].1) = b := ⟨_, rfl⟩
      have l5 := k5.lt
      have t1 : ∀ n, Calls Tryd.prog 12 #[.slice P1 (L1[0].1).length p1, .slice P2 (L2[0].1).length p2] (w5.drewN n) fun e w' => e = .returned (.bool eq0) ∧ ∃ m, w' = (w5.drewN n).drewN m := fun n => by
        rw [← heq0]; exact equal_any P1 P2 _ _ p1 p2 _ (hP1.drewN n) (hP2.drewN n)
      have y4 : w5.cell? ⟨w.heap.size, 4, none⟩ = some (.slice B ixs.length cb) := k5.cell 4
      have T1 := Lib.hid t1
      have HEQ : Hid (eq0 = false → rowKey id keys xs ≠ rowKey id keys ys) := fun h => by
        rw [← e10, ← e20]; rw [h, beq_eq_false_iff_ne] at heq0; exact heq0
      clear t1 heq0 e10 e20 hP1 hP2 ha1 ha2
      generalize (L1[0].1).length = n10 at *
      generalize (L2[0].1).length = n20 at *
      cases eq0 with
      | true =>
        go_upto_region 9 with fail
        go_quiet ((go_at_call 12; exact Calls.quiet_of (T1.out _)))
        go_wp2_with fail
        go_ret
        exact ⟨rfl, below_drewN b05 _⟩
      | false =>
        go_upto_region 9 with fail
        go_quiet ((go_at_call 12; exact Calls.quiet_of (T1.out _)))
        have hne : rowKey id keys xs ≠ rowKey id keys ys := HEQ.out (by first | rfl | trivial)
        have bq : Below w5.heap.size w5 (w5.drewN nq) := below_drewN (Below.refl _ _) nq
        have s1 := s15.below bq
        have s2 := s25.below bq
        have kz := k5.below bq l5
        have sXz := sX5.below bq
        have sYz := sY5.below bq
        have hBz := hB5.below bq
        have bz := b05.trans (bq.mono b05.size)
        go_upto_region 11 with fail
        clear T1 HEQ z1 z2 y4 s15 s25 k5 sX5 sY5 hB5 b05 l5 f1 g1 g2 g3 hpos1 hpos2
        generalize w5.drewN nq = Z at *
        have lz := kz.lt
        go_wp2_with fail
        go_loopw [15, 16, 17, 18, 19, 20, 22, 93] (fun _ _ _ _ _ _ _ i wr => ∃ k : Nat, k ≤ L1.length ∧ i = .int .i64 (k : Int) ∧ Below Z.heap.size Z wr) (fun _ _ _ _ _ _ _ i _ => L1.length - (intOf i).toNat)
        case atStart => exact ⟨0, Nat.zero_le _, rfl, Below.refl _ _⟩
        case round =>
          obtain ⟨k, hk, rfl, br⟩ := hrel
          have zr := br.size
          by_cases hlt : k < L1.length
          · have hlt' : (k : Int) < (L1.length : Int) := by omega
            obtain ⟨ad, P, p, Q, q, e1, ha, z1, z2, ⟨hP, -⟩, -⟩ := PairE.at_ (s1.below br) hlt
            obtain rfl := Option.some.inj e1
            clear e1
            obtain ⟨lk, hlk⟩ : ∃ l, L1[k].1 = l := ⟨_, rfl⟩
            rw [hlk] at z1 hP
            have HLK := Lib.hid hlk
            clear hlk
            generalize L1[k].2.length = nq2 at *
            have dX : Below wr.heap.size wr (wr.alloc (.cells #[.slice P lk.length p, .slice Q nq2 q] 54)) := (Below.refl _ _).alloc (Nat.le_refl _) _
            have kp := Blk.new wr 54 #[.slice P lk.length p, .slice Q nq2 q]
            have bX := br.trans (dX.mono zr)
            have hPX := hP.below dX
            go_upto_region 14 with fail
            clear z1 z2 ha br zr dX hP
            generalize (wr.alloc (.cells #[.slice P lk.length p, .slice Q nq2 q] 54)) = XW at *
            have lX := kp.lt
            generalize wr.heap.size = gp at *
            go_wp2_with fail
            go_loopw [17, 18, 19, 20, 22, 100] (fun _ _ _ _ _ j wr => ∃ n : Nat, n ≤ L2.length ∧ j = .int .i64 (n : Int) ∧ Below XW.heap.size XW wr) (fun _ _ _ _ _ j _ => L2.length - (intOf j).toNat)
            case atStart => exact ⟨0, Nat.zero_le _, rfl, Below.refl _ _⟩
            case round =>
              obtain ⟨n, hn, rfl, bm⟩ := hrel
              have bZm := bX.trans (bm.mono bX.size)
              have zm := bm.size
              by_cases hlt2 : n < L2.length
              · have hlt2' : (n : Int) < (L2.length : Int) := by omega
                obtain ⟨bd, R, r, O, o, e1, ha, z1, z2, ⟨hR, -⟩, -⟩ := PairE.at_ (s2.below bZm) hlt2
                obtain rfl := Option.some.inj e1
                clear e1
                obtain ⟨ln, hln⟩ : ∃ l, L2[n].1 = l := ⟨_, rfl⟩
                rw [hln] at z1 hR
                have HLN := Lib.hid hln
                clear hln
                generalize L2[n].2.length = no2 at *
                have dY : Below wr.heap.size wr (wr.alloc (.cells #[.slice R ln.length r, .slice O no2 o] 54)) := (Below.refl _ _).alloc (Nat.le_refl _) _
                have kq := Blk.new wr 54 #[.slice R ln.length r, .slice O no2 o]
                have bY := bm.trans (dY.mono zm)
                have hRY := hR.below dY
                have hPY := hPX.below bY
                have kpY := kp.below bY lX
                go_upto_region 17 with fail
                clear z1 z2 ha bm bZm zm dY hR
                generalize (wr.alloc (.cells #[.slice R ln.length r, .slice O no2 o] 54)) = YW at *
                have p0 : YW.cell? ⟨gp, 0, none⟩ = some (.slice P lk.length p) := kpY.cell 0
                have q0 : YW.cell? ⟨wr.heap.size, 0, none⟩ = some (.slice R ln.length r) := kq.cell 0
                obtain ⟨mt, hmt⟩ : ∃ b, (lk == ln) = b := ⟨_, rfl⟩
                have T := eq_b P R lk ln p r YW hPY hRY
                rw [hmt] at T
                have HMT : Hid ((L1[k].1 == L2[n].1) = mt) := by show _ = _; rw [HLK.out, HLN.out, hmt]
                clear hmt HLN kq kpY hRY hPY
                go_wp2_with fail
                refine T.mono ?_
                rintro en w8 ⟨rfl, b8⟩
                have bX8 := bY.trans (b8.mono bY.size)
                have bZ8 := bX.trans (bX8.mono bX.size)
                have y4 : w8.cell? ⟨w.heap.size, 4, none⟩ = some (.slice B ixs.length cb) := (kz.below bZ8 lz).cell 4
                clear T p0 q0 b8 bY
                by_cases hAB : k = 0 ∨ k ≠ n
                · have hf : mt = false := by rw [← HMT.out]; exact HMN.out hne k n hlt hlt2 (hAB.elim .inl fun h => .inr (.inl h))
                  subst hf
                  by_cases hk0 : k = 0
                  · have d1_ : ((k : Int) == 0) = true := by rw [beq_iff_eq]; omega
                    clear hAB hk0
                    go_wp2_with fail
                    go_roundw
                    case rel => exact ⟨n + 1, by omega, by go_num, bX8⟩
                    case measure => simp [intOf]; omega
                  · have d1_ : ((k : Int) == 0) = false := by rw [beq_eq_false_iff_ne]; omega
                    have d2_ : ((k : Int) != (n : Int)) = true := by rw [bne_iff_ne]; have := hAB.resolve_left hk0; omega
                    clear hAB hk0
                    go_wp2_with fail
                    go_roundw
                    case rel => exact ⟨n + 1, by omega, by go_num, bX8⟩
                    case measure => simp [intOf]; omega
                · have hkn : k = n := Classical.byContradiction fun h => hAB (.inr h)
                  have hk1 : k ≠ 0 := fun h => hAB (.inl h)
                  clear hAB
                  subst hkn
                  obtain ⟨i0, hik⟩ : ∃ i0, k = i0 + 1 := ⟨k - 1, by omega⟩
                  have hi0 : i0 < ixs.length := by omega
                  have hi0' : (i0 : Int) < (ixs.length : Int) := by omega
                  have hki : (k : Int) - 1 = (i0 : Int) := by omega
                  have d1_ : ((k : Int) == 0) = false := by rw [beq_eq_false_iff_ne]; omega
                  have d2_ : ((k : Int) != (k : Int)) = false := by simp
                  have HIK := Lib.hid hik
                  obtain ⟨xd, Cx, cx_, rfl, g1, e0, e1, e2, hIs, g7, -⟩ := IxE.at_ (hBz.below bZ8) hi0
                  cases hq : ixs[i0].uniq with
                  | false =>
                    have hf : mt = false := by rw [← HMT.out]; exact HMN.out hne _ _ hlt hlt2 (.inr (.inr ⟨i0, hi0, hik, hq⟩))
                    subst hf
                    rw [hq] at e2
                    clear hq hik hk1
                    go_wp2_with fail
                    go_roundw
                    case rel => exact ⟨k + 1, by omega, by go_num, bX8⟩
                    case measure => simp [intOf]; omega
                  | true =>
                    have hal : mt = alikeB xs ys ixs[i0].cols := by
                      rw [← HMT.out]
                      subst hik
                      exact HMU.out i0 hi0 hq hlt hlt2
                    have hcl := HRX.out _ (List.getElem_mem hi0)
                    have hcl2 := HRY.out _ (List.getElem_mem hi0)
                    generalize ixs[i0].cols = cs at *
                    have HAL := Lib.hid hal
                    have HCL := Lib.hid hcl
                    have HCL2 := Lib.hid hcl2
                    rw [hq] at e2
                    clear hq hal hik hk1 hcl hcl2
                    go_wp2_with fail
                    go_loopw [20, 22, 136] (fun a _ j wr => ∃ (t : Nat) (al : Bool), t ≤ cs.length ∧ j = .int .i64 (t : Int) ∧ a = .bool al ∧ al = alikeB xs ys (cs.take t) ∧ Below w8.heap.size w8 wr) (fun _ _ j _ => cs.length - (intOf j).toNat)
                    case atStart => exact ⟨0, true, Nat.zero_le _, rfl, rfl, rfl, Below.refl _ _⟩
                    case round =>
                      obtain ⟨t, al, ht, rfl, rfl, hal, bi⟩ := hrel
                      have HA := Lib.hid hal
                      clear hal e0 e1 e2 y4
                      have zi := bi.size
                      have bZi := bZ8.trans (bi.mono bZ8.size)
                      by_cases hlt3 : t < cs.length
                      · have hlt3' : (t : Int) < (cs.length : Int) := by omega
                        obtain ⟨cd_, rfl, g3, g4⟩ := (hIs.below bi).at_ hlt3
                        have hc1 := HCL.out _ (List.getElem_mem hlt3)
                        have hc2 := HCL2.out _ (List.getElem_mem hlt3)
                        have HT := Lib.hid (alikeB_take (xs := xs) (ys := ys) hlt3)
                        generalize cs[t] = cc_ at *
                        obtain ⟨cn, rfl⟩ : ∃ cn : Nat, cc_ = (cn : Int) := ⟨cc_.toNat, by omega⟩
                        have hcx : cn < xs.length := by omega
                        have hcy : cn < ys.length := by omega
                        have HT2 : Hid (alikeB xs ys (cs.take (t + 1)) = (al && (cmpV xs[cn] ys[cn] == 0))) := by
                          show _ = _
                          rw [HT.out, ← HA.out, Int.toNat_natCast, List.getD_eq_getElem?_getD, List.getD_eq_getElem?_getD, List.getElem?_eq_getElem hcx, List.getElem?_eq_getElem hcy]
                          rfl
                        cases al with
                        | false =>
                          go_upto_region 25 with fail
                          go_quiet (fail)
                          go_wp2_with fail
                          go_roundw
                          case rel => exact ⟨t + 1, false, by omega, by go_num, rfl, by rw [HT2.out]; rfl, below_drewN bi _⟩
                          case measure => simp [intOf]; omega
                        | true =>
                          have z2 : (cn : Int) < (xs.length : Int) := by omega
                          have z3 : (cn : Int) < (ys.length : Int) := by omega
                          have hx := HL.out xs[cn] (List.getElem_mem hcx)
                          have hsx := (HSX.out xs[cn] (List.getElem_mem hcx)).1
                          have hy := HM.out ys[cn] (List.getElem_mem hcy)
                          have hsy := (HSY.out ys[cn] (List.getElem_mem hcy)).1
                          obtain ⟨ad, D0, c0, rfl, g5, f0, f1, f2, f3, f4, hD0, -⟩ := CelO.at6 (sXz.below bZi) hcx
                          obtain ⟨bd, E0, e0_, rfl, g6, i0_, i1, i2, i3, i4, hE0, -⟩ := CelO.at6 (sYz.below bZi) hcy
                          generalize xs[cn] = x at *
                          generalize ys[cn] = y at *
                          have t1 : ∀ W, Below wr.heap.size wr W → Calls Tryd.prog 15 #[.agg #[.int .i64 x.kind, .bool x.b, .int .i64 x.n, .string x.t, .slice D0 x.l.length c0], .agg #[.int .i64 y.kind, .bool y.b, .int .i64 y.n, .string y.t, .slice E0 y.l.length e0_]] W (RetI (cmpV x y) W) := fun W hW => compare_any x y D0 E0 c0 e0_ W hx.1 hy.1 (hD0.below hW) (hE0.below hW) hsx hsy
                          have ks : ∀ W, Below wr.heap.size wr W → W.cell? (ad.add (cn * 5)) = some (.int .i64 x.kind) ∧ W.cell? ⟨(ad.add (cn * 5)).block, (ad.add (cn * 5)).off + 1, none⟩ = some (.bool x.b) ∧ W.cell? ⟨(ad.add (cn * 5)).block, (ad.add (cn * 5)).off + 2, none⟩ = some (.int .i64 x.n) ∧ W.cell? ⟨(ad.add (cn * 5)).block, (ad.add (cn * 5)).off + 3, none⟩ = some (.string x.t) ∧ W.cell? ⟨(ad.add (cn * 5)).block, (ad.add (cn * 5)).off + 4, none⟩ = some (.slice D0 x.l.length c0) ∧ W.cell? (bd.add (cn * 5)) = some (.int .i64 y.kind) ∧ W.cell? ⟨(bd.add (cn * 5)).block, (bd.add (cn * 5)).off + 1, none⟩ = some (.bool y.b) ∧ W.cell? ⟨(bd.add (cn * 5)).block, (bd.add (cn * 5)).off + 2, none⟩ = some (.int .i64 y.n) ∧ W.cell? ⟨(bd.add (cn * 5)).block, (bd.add (cn * 5)).off + 3, none⟩ = some (.string y.t) ∧ W.cell? ⟨(bd.add (cn * 5)).block, (bd.add (cn * 5)).off + 4, none⟩ = some (.slice E0 y.l.length e0_) := fun W hW => by
                            have h1 : ∀ p : Addr, p.block < wr.heap.size → W.cell? p = wr.cell? p := fun p hp => hW.cell hp
                            refine ⟨(h1 _ ?_).trans f0, (h1 _ ?_).trans f1, (h1 _ ?_).trans f2, (h1 _ ?_).trans f3, (h1 _ ?_).trans f4, (h1 _ ?_).trans i0_, (h1 _ ?_).trans i1, (h1 _ ?_).trans i2, (h1 _ ?_).trans i3, (h1 _ ?_).trans i4⟩ <;> simpa [block_of_add] using (by assumption)
                          have T1 := Lib.hid t1
                          have KS := Lib.hid ks
                          go_upto_region 25 with fail
                          clear t1 ks f0 f1 f2 f3 f4 i0_ i1 i2 i3 i4 hx hy hsx hsy hD0 hE0 g5 g6 g3 g4
                          generalize cmpV x y = V0 at *
                          obtain ⟨vb, hvb⟩ : ∃ b, (V0 == 0) = b := ⟨_, rfl⟩
                          have HT3 : Hid (alikeB xs ys (cs.take (t + 1)) = vb) := by show _ = _; rw [HT2.out, hvb]; rfl
                          go_region_held3 (fun W : World => W.cell? (ad.add (cn * 5)) = some (.int .i64 x.kind) ∧ W.cell? ⟨(ad.add (cn * 5)).block, (ad.add (cn * 5)).off + 1, none⟩ = some (.bool x.b) ∧ W.cell? ⟨(ad.add (cn * 5)).block, (ad.add (cn * 5)).off + 2, none⟩ = some (.int .i64 x.n) ∧ W.cell? ⟨(ad.add (cn * 5)).block, (ad.add (cn * 5)).off + 3, none⟩ = some (.string x.t) ∧ W.cell? ⟨(ad.add (cn * 5)).block, (ad.add (cn * 5)).off + 4, none⟩ = some (.slice D0 x.l.length c0) ∧ W.cell? (bd.add (cn * 5)) = some (.int .i64 y.kind) ∧ W.cell? ⟨(bd.add (cn * 5)).block, (bd.add (cn * 5)).off + 1, none⟩ = some (.bool y.b) ∧ W.cell? ⟨(bd.add (cn * 5)).block, (bd.add (cn * 5)).off + 2, none⟩ = some (.int .i64 y.n) ∧ W.cell? ⟨(bd.add (cn * 5)).block, (bd.add (cn * 5)).off + 3, none⟩ = some (.string y.t) ∧ W.cell? ⟨(bd.add (cn * 5)).block, (bd.add (cn * 5)).off + 4, none⟩ = some (.slice E0 y.l.length e0_)) (with_reducible refine KS.out _ ?_; (focus (repeat (first | (with_reducible exact bxc) | (with_reducible exact Below.refl _ _) | (with_reducible refine Below.drew_ ?_))))) (first
                            | (go_at_call 15; (with_reducible refine (T1.out _ ?_).mono ?_); (focus (repeat (first | (with_reducible exact Below.refl _ _) | (with_reducible refine Below.drew_ ?_)))); rintro en wz ⟨rfl, bzz⟩; have bxc : Below wr.heap.size wr wz := (by refine Below.call3_ ?_ bzz; (focus (repeat (first | (with_reducible exact Below.refl _ _) | (with_reducible refine Below.drew_ ?_))))); skip))
                          all_goals
                            go_wp2_with fail
                            go_roundw
                            case rel => exact ⟨t + 1, vb, by omega, by go_num, rfl, HT3.out.symm, bi.trans (bxc.mono bi.size)⟩
                            case measure => simp [intOf]; omega
                      · obtain rfl : t = cs.length := by omega
                        have hma : mt = al := by rw [HAL.out, HA.out, List.take_length]
                        subst hma
                        have dma : (mt != mt) = false := by simp
                        go_wp2_with fail
                        go_roundw
                        case rel => exact ⟨k + 1, by omega, by go_num, bX8.trans (bi.mono bX8.size)⟩
                        case measure => simp [intOf]; omega
              · go_wp2_with fail
                go_roundw
                case rel => exact ⟨k + 1, by omega, by go_num, bZm⟩
                case measure => simp [intOf]; omega
          · go_wp2_with fail
            go_ret
            exact ⟨rfl, bz.trans (br.mono bz.size)⟩
    · have c2 : (E2 != 0) = true := by rw [bne_iff_ne]; exact h2
      have hl2 : L2 = [] := by rw [← HL2.out]; unfold entsB; rw [if_neg (by rw [HE2.out]; exact h2)]
      have f1 : ((L1.length : Int) == 0) = false := by rw [beq_eq_false_iff_ne]; omega
      have f2 : ((L2.length : Int) == 0) = true := by rw [hl2]; rfl
      clear h1 h2 hl2 hL1 n1'
      go_wp2_with fail
      go_ret
      exact ⟨rfl, b05⟩
  · have c1 : (E1 != 0) = true := by rw [bne_iff_ne]; exact h1
    have hl1 : L1 = [] := by rw [← HL1.out]; unfold entsB; rw [if_neg (by rw [HE1.out]; exact h1)]
    have f1 : ((L1.length : Int) == 0) = true := by rw [hl1]; rfl
    clear h1 hl1
    go_wp2_with fail
    go_ret
    exact ⟨rfl, b05⟩
end Go.Proofs.YtfededjcadmpbaaDoor
