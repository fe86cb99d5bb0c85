/- RowKeeps: no call of row changes or keeps what it is handed, and all answers are memory of their own: the walk. -/
import Derived.Test.YtfededjcadmpbaaDoorChgA
import Derived.Test.YtfededjcadmpbaaDoorSpareA
import Derived.Deep.RegionHeld3
namespace Go.Proofs.YtfededjcadmpbaaDoor
open Go.RowKit

/-- a row of the call's own that holds the rows' slices -/
def RowsIs (b : Nat) (w : World) (A : Option Addr) (c : Nat) (rs : List R3) : Prop := w.ownsRow b 31 1 (.slice A rs.length c) rs.length (rs.map R3.v)
theorem Reads.newK (w : World) (vs : List Value) (t : TypeId) : Reads (w.alloc (.cells vs.toArray t)) (w.heap.size + 1) 1 (some ⟨w.heap.size, 0, none⟩) vs.length vs :=
  ⟨by rw [Nat.mul_one], fun _ => ⟨_, rfl, Nat.lt_succ_self _, fun j u hu => by
    rw [add_row, cell_of_row _ _ _ _ _ _ (heap_alloc_new w _)]
    simpa using hu⟩⟩
theorem wpList_appR (b : Nat) (w0 w : World) {ops : Array Oper} {rest : List Oper} {o : Oper} {a : Act} {Q : Exit → Act → World → Prop} (hgd : o.guard = none) (s x : Operand)
    (ho : o.op = .call { callee := .builtin .append, args := #[s, x], argTypes := #[75, 75] })
    (A : Option Addr) (rs : List R3) (c : Nat) (hs : a.eval s = .slice A rs.length c) (hown : RowsIs b w A c rs)
    (B : Option Addr) (ys : List R3) (d : Nat) (hx : a.eval x = .slice B ys.length d) (Bd : Nat) (hr : Reads w Bd 1 B ys.length (ys.map R3.v)) (hl : rs.length + ys.length ≤ 1000) (hb : Below w0.heap.size w0 w) (hb0 : w0.heap.size ≤ b) (hbw : b ≤ w.heap.size)
    (h : ∀ A' c' rs' w', Hid (rs' = rs ++ ys) → RowsIs b w' A' c' rs' → Below w0.heap.size w0 w' → w.grownBy w' (Value.slice A rs.length c).ownBlock → wpList Tryd.prog ops Q rest (a.put o.dst (.slice A' rs'.length c')) w') : wpList Tryd.prog ops Q (o :: rest) a w := by
  obtain ⟨i0, hi0, hz0, hz1, hz2⟩ := info_parts Tryd.infoBs
  refine wpList_append_sh w hgd s x _ ho b 31 i0 _ 1 24 Tryd.underlying75 hi0 hz0 hz1 hz2 rfl (by omega) _ _ _ hs hown Bd B ys.length d (ys.map R3.v) hx hr (fun u hu => by obtain ⟨r, _, rfl⟩ := List.mem_map.1 hu; rfl) (by simp only [maxLen]; omega) (by omega) hbw ?_
  intro A' c' w' o' g' _
  have e : rs.length + ys.length = (rs ++ ys).length := by rw [List.length_append]
  rw [e, ← List.map_append] at o'
  rw [e]
  exact h A' c' (rs ++ ys) w' rfl o' (hb.grown g' hb.size fun j hj => by have := (World.ownsRow.lt hown j hj).1; omega) g'
/-- whose a block is -/
def owOf (rs : List R3) (b : Nat) : Nat := rs.findIdx fun r => (R3.v r).ownBlock == some b
theorem owOf_eq {b0 : Nat} {w : World} {rs : List R3} (h : Sep b0 w rs) {i : Nat} (hi : i < rs.length) {b : Nat} (he : (R3.v rs[i]).ownBlock = some b) : owOf rs b = i := by
  unfold owOf
  rw [List.findIdx_eq hi]
  refine ⟨by simp [he], fun j hj => ?_⟩
  have h1 := List.pairwise_iff_getElem.1 h.2 j i (by omega) hi hj
  cases hv : (R3.v rs[j]).ownBlock with
  | none => rfl
  | some g =>
    rw [beq_eq_false_iff_ne]
    intro e
    injection e with e
    subst e
    exact h1 _ hv he
theorem apart_sep (b b0 : Nat) (w : World) (A : Option Addr) (c : Nat) (rs : List R3) (h : RowsIs b w A c rs) (hs : Sep b0 w rs) (h0 : 0 < rs.length) (hl : rs.length ≤ 1000) (hn : ∀ r ∈ rs, r.2.1.length ≤ 140737488355000) (hb : b0 ≤ w.heap.size) :
    Calls Tryd.prog 33 #[.slice A rs.length c] w fun e w' => e = .returned (.bool true) ∧ Below b0 w w' := by
  obtain ⟨hlen, hcase⟩ := h
  rcases hcase with ⟨_, h1⟩ | ⟨g, cap, cur, hv, hbg, hcur, h2, h3, h4, h5⟩
  · omega
  injection hv with hA hn2 hc
  subst hA hc
  refine apart_any g rs.length c b0 cur (fun i => R3.v (rs.getD i (none, [], 0))) (fun i => (rs.getD i (none, [], 0)).2.1.length) (owOf rs) w hcur (fun i hi => ?_) (by omega) h0 (fun i hi => ?_) (fun i hi => ?_) hb
  · have h6 : (cur.toList.take (rs.length * 1))[i]? = (rs.map R3.v)[i]? := by rw [h5]
    rw [List.getElem?_take_of_lt (by omega), Array.getElem?_toList, List.getElem?_map, List.getElem?_eq_getElem hi] at h6
    rw [h6, List.getD_eq_getElem?_getD, List.getElem?_eq_getElem hi]
    rfl
  · have h6 : rs.getD i (none, [], 0) = rs[i] := by rw [List.getD_eq_getElem?_getD, List.getElem?_eq_getElem hi]; rfl
    show MV w (owOf rs) b0 i (R3.v (rs.getD i (none, [], 0))) (rs.getD i (none, [], 0)).2.1.length 0
    rw [h6]
    exact MV.of_own (hs.1 rs[i] (List.getElem_mem hi)) fun b he => owOf_eq hs hi he
  · have h6 : rs.getD i (none, [], 0) = rs[i] := by rw [List.getD_eq_getElem?_getD, List.getElem?_eq_getElem hi]; rfl
    show (rs.getD i (none, [], 0)).2.1.length ≤ _
    rw [h6]
    exact hn _ (List.getElem_mem hi)
theorem RWE.at_ {w : World} {A : Option Addr} {S : Nat → Prop} {l : List RW} (h : SlS RWE w S A l) {k : Nat} (hk : k < l.length) :
    ∃ ad, A = some ad ∧ ad.block < w.heap.size ∧ w.cell? (ad.add (k * 3)) = some (.slice l[k].K l[k].k.length l[k].c) ∧ w.cell? ⟨(ad.add (k * 3)).block, (ad.add (k * 3)).off + 1, none⟩ = some (.slice l[k].V l[k].v.length l[k].d) ∧ w.cell? ⟨(ad.add (k * 3)).block, (ad.add (k * 3)).off + 2, none⟩ = some (.bool l[k].g) ∧
      (Bs w l[k].K l[k].k ∧ At S l[k].K l[k].k.length) ∧ Bs w l[k].V l[k].v ∧ At S l[k].V l[k].v.length := by
  obtain ⟨ad, vs, rfl, hb, ⟨rfl, h1⟩, h4, _, h5⟩ := SlS.at_ h hk
  exact ⟨ad, rfl, hb, h4 _ rfl, h5 1 _ (by omega) rfl, h5 2 _ (by omega) rfl, h1⟩
theorem Tryd.size_WriteV : (Tryd.prog.info? 77).map (·.size) = some 3 := by kernel_rfl
theorem bs_spare {w : World} {g : Nat} {l : List UInt8} (h : Blk w g 5 ((spL l).map bval).toArray) (hl : l.length ≤ 140737488351232) : Bs w (some ⟨g, 0, none⟩) l := by
  refine ⟨⟨by simp, fun _ => ⟨_, rfl, h.lt, fun j u hu => ?_⟩⟩, by omega⟩
  rw [add_row, h.cell, List.getElem?_toArray, List.getElem?_map]
  have hj : j < l.length := by
    have := (List.getElem?_eq_some_iff.1 hu).1
    rwa [List.length_map] at this
  rw [List.getElem?_map] at hu
  rw [spL_lo l j hj, ← hu, List.getElem?_eq_getElem hj]
theorem own_spareR {w : World} {g B : Nat} {l : List UInt8} (h : Blk w g 5 ((spL l).map bval).toArray) (hl : l.length ≤ 140737488351232) (hB : B ≤ g) : OwnB B w (some ⟨g, 0, none⟩) (spL l) (l.length + 40) := by
  have := own_of_blk h hB (by rw [List.length_map, spL_length]; simp only [maxLen]; omega)
  rw [List.length_map] at this
  unfold OwnB
  rwa [show l.length + 40 = (spL l).length from (spL_length l).symm]
theorem kept_goR {w : World} {g : Nat} {A : Option Addr} {l : List UInt8} {d : Nat} (h : Blk w g 5 ((spL l).map bval).toArray) (hb : Bs w A l) (hl : l.length ≤ 140737488351232) :
    Calls Tryd.prog 32 #[.slice (some ⟨g, 0, none⟩) (l.length + 40) (l.length + 40), .slice A l.length d] w (Quietly (.bool true) w) :=
  kept_any _ _ l _ _ w ((own_spareR h hl (Nat.le_refl _)).bs (by rw [spL_length]; omega)) hb
theorem perm4 {α : Type} (a b c d : List α) : (((a ++ b) ++ c) ++ d).Perm (((a ++ d) ++ b) ++ c) := by
  rw [List.append_assoc, List.append_assoc, List.append_assoc, List.append_assoc]
  refine List.Perm.append_left a ?_
  rw [← List.append_assoc]
  exact List.perm_append_comm
theorem chg_len {is : List (List UInt8 × List UInt8)} {E : Int} {ws : List RW} (h1 : E = 0 → ChgOf [] is (ws.map RW.w)) (h2 : E ≠ 0 → ws = []) : ws.length ≤ is.length := by
  by_cases h : E = 0
  · obtain ⟨gs, _, hm, hp, _⟩ := h1 h
    have hg : gs = [] := by
      cases gs with
      | nil => rfl
      | cons k l => have := ((hm k).1 (by simp)).1; cases this
    have h3 := hp.length_eq
    rw [hg, List.map_nil, List.append_nil, List.length_map] at h3
    unfold newL at h3
    rw [List.length_map] at h3
    rw [h3]
    exact List.length_filter_le _ _
  · rw [h2 h]; exact Nat.zero_le _
theorem chg_mem {is : List (List UInt8 × List UInt8)} {E : Int} {ws : List RW} (h1 : E = 0 → ChgOf [] is (ws.map RW.w)) (h2 : E ≠ 0 → ws = []) : ∀ x ∈ ws, ∃ p ∈ is, x.k = p.1 ∧ x.v = p.2 := by
  intro x hx
  by_cases h : E = 0
  · obtain ⟨gs, _, hm, hp, _⟩ := h1 h
    have hg : gs = [] := by
      cases gs with
      | nil => rfl
      | cons k l => have := ((hm k).1 (by simp)).1; cases this
    rw [hg, List.map_nil, List.append_nil] at hp
    have h3 := hp.mem_iff.1 (List.mem_map_of_mem hx)
    obtain ⟨p, hp2, he⟩ := List.mem_map.1 h3
    have h4 := (List.mem_filter.1 hp2).1
    have h5 : (p.1, p.2, false) = (x.k, x.v, x.g) := he
    injection h5 with h6 h7
    injection h7 with h7 _
    exact ⟨p, h4, h6.symm, h7.symm⟩
  · rw [h2 h] at hx; cases hx
theorem ents_bound {id keys : Int} {tn : ByteArray} {cols : List LCol} {ixs : List LIx} {xs : List LVal} : ∀ p ∈ entsB id keys tn cols ixs xs, p.1.length ≤ 8589934592 ∧ p.2.length ≤ 8589934592 := by
  intro p hp
  unfold entsB at hp
  by_cases h : fitsE id keys tn cols ixs xs = 0
  · rw [if_pos h] at hp
    obtain ⟨h0, h1, h2⟩ := fitsE_ok h
    obtain ⟨_, _, _, _, hc16⟩ := check_head h0
    have hsm := values_sm (Nat.le_of_eq h1) h2
    have hkl := rowKey_le h
    have hel := encL_len hsm
    obtain ⟨_, hix⟩ := check_ixs h0
    rcases List.mem_cons.1 hp with rfl | hp
    · exact ⟨by show (rowKey id keys xs).length ≤ _; omega, by show (encL xs).length ≤ _; omega⟩
    · obtain ⟨i, hi, rfl⟩ := List.mem_mapIdx.1 hp
      obtain ⟨h3, h4⟩ := hix ixs[i] (List.getElem_mem hi)
      refine ⟨?_, by show (rowKey id keys xs).length ≤ _; omega⟩
      have h5 := keyL_len (xs := ixVals xs ixs[i]) (fun v hv => hsm v (ixVals_mem (fun c hc => by have := h3 c hc; omega) v hv))
      have h6 : (ixVals xs ixs[i]).length ≤ 16 := by unfold ixVals; rw [List.length_map]; omega
      have h7 : (ixKey id i ixs[i] xs).length ≤ 3 + (keyL (ixVals xs ixs[i])).length := by unfold ixKey; rw [List.length_append]; exact Nat.le_refl _
      have h8 : (if ixs[i].uniq = true then ([] : List UInt8) else rowKey id keys xs).length ≤ (rowKey id keys xs).length := by split <;> simp
      show (entK id (rowKey id keys xs) xs i ixs[i]).length ≤ _
      unfold entK
      rw [List.length_append]
      omega
  · rw [if_neg h] at hp; cases hp
theorem storL_bound {id keys : Int} {tn : ByteArray} {cols : List LCol} {ixs : List LIx} {xs : List LVal} : ∀ p ∈ storL id keys tn cols ixs xs, p.1.length ≤ 8589934592 ∧ p.2.length ≤ 8589934592 := by
  intro p hp
  unfold storL at hp
  split at hp
  · cases hp
  · exact ents_bound p hp

set_option maxRecDepth 100000 in
set_option maxHeartbeats 8000000 in
theorem rowkeeps_any (l : List LCel) (pk pv : List UInt8) (C P Q : Option Addr) (cc p q : Nat) (w : World) (hC : Sl CraE w C l) (hP : Bs w P pk) (hQ : Bs w Q pv) (hu : U8 w)
    (hl : ∀ x ∈ l, (Lit.int .i64 x.kind).wf = true ∧ (Lit.int .i64 x.n).wf = true ∧ x.t.size ≤ 1048576 ∧ x.l.length ≤ 140737488351232) (hkl : pk.length ≤ 1048576) (hvl : pv.length ≤ 1048576) :
    Calls Tryd.prog 7 #[.slice C l.length cc, .agg #[.slice P pk.length p, .slice Q pv.length q]] w fun e w' => e = .returned (.bool true) ∧ Below w.heap.size w w' := by
  have HL := Lib.hid (vals_good hl)
  clear hl
  have b0 : Below w.heap.size w (w.alloc (.cells #[.slice P pk.length p, .slice Q pv.length q] 54)) := (Below.refl _ _).alloc (Nat.le_refl _) _
  have p0 := Blk.new w 54 #[.slice P pk.length p, .slice Q pv.length q]
  go_enter Tryd.func7, Tryd.ntmps7
  go_wp2_with fail
  generalize (w.alloc (.cells #[.slice P pk.length p, .slice Q pv.length q] 54)) = W0 at *
  refine (awake_any W0 (hu.below b0)).mono ?_
  rintro en w1 ⟨rfl, b1⟩
  have b01 := b0.trans (b1.mono b0.size)
  have p1 := p0.below b1 p0.lt
  go_wp2_with fail
  refine (plain_any w1).mono ?_
  rintro en w2 ⟨A, B, rfl, hA, hB, b2⟩
  have b02 := b01.trans (b2.mono b01.size)
  have p2 := p1.below b2 p1.lt
  have d2 : Below w2.heap.size w2 (w2.alloc (.cells #[.int .i64 7, .string ⟨#[116]⟩, .slice A 2 2, .int .i64 1, .slice B 2 2] 25)) := (Below.refl _ _).alloc (Nat.le_refl _) _
  have k2 := Blk.new w2 25 #[.int .i64 7, .string ⟨#[116]⟩, .slice A 2 2, .int .i64 1, .slice B 2 2]
  have bX := b02.trans (d2.mono b02.size)
  have pX := p2.below d2 p2.lt
  have hAX : Sl ColE _ A plC := hA.below d2
  have hBX : Sl IxE _ B plX := hB.below d2
  go_upto_region 4 with fail
  clear b0 b1 b2 p0 p1 p2 b01 b02 hA hB d2
  generalize (w2.alloc (.cells #[.int .i64 7, .string ⟨#[116]⟩, .slice A 2 2, .int .i64 1, .slice B 2 2] 25)) = X at *
  have q0 : X.cell? ⟨w.heap.size, 0, none⟩ = some (.slice P pk.length p) := pX.cell 0
  go_wp2_with fail
  refine (spare_any P pk p X (hP.below bX) (by omega)).mono ?_
  rintro en w3 ⟨rfl, f3, b3⟩
  have b03 := bX.trans (b3.mono bX.size)
  have p3 := pX.below b3 pX.lt
  have k3 := k2.below b3 k2.lt
  have q1 : w3.cell? ⟨w.heap.size, 1, none⟩ = some (.slice Q pv.length q) := p3.cell 1
  clear q0
  go_wp2_with fail
  refine (spare_any Q pv q w3 (hQ.below b03) (by omega)).mono ?_
  rintro en w4 ⟨rfl, f4, b4⟩
  have b04 := b03.trans (b4.mono b03.size)
  have p4 := p3.below b4 p3.lt
  have k4 := k3.below b4 k3.lt
  have f34 := f3.below b4 f3.lt
  have z3 : X.heap.size ≤ w3.heap.size := b3.size
  have z4 := b4.size
  have sF : Sep X.heap.size w4 [(some ⟨X.heap.size, 0, none⟩, spL pk, pk.length + 40), (some ⟨w3.heap.size, 0, none⟩, spL pv, pv.length + 40)] :=
    Sep.more (Sep.one (own_spareR f3 (by omega) (Nat.le_refl _))) b4 (Sep.one (own_spareR f4 (by omega) (Nat.le_refl _))) z3
  have bX4 : Below X.heap.size X w4 := b3.trans (b4.mono b3.size)
  clear q1
  have KT := k4
  go_wp2_with ((with_reducible refine wpList_load_blk rfl 25 (.tmp 5) rfl w2.heap.size ?_ 25 _ _ KT Tryd.underlying25 ?_ Tryd.size_TableV ?_ ?_); rfl; rfl; rfl)
  refine (row_any 7 1 ⟨#[116]⟩ plC plX pk pv A B (some ⟨X.heap.size, 0, none⟩) (some ⟨w3.heap.size, 0, none⟩) 2 2 (pk.length + 40) (pv.length + 40) w4 (hAX.below bX4) (hBX.below bX4) (bs_spare f34 (by omega)) (bs_spare f4 (by omega)) ⟨by omega, by omega⟩ (by decide) (hu.below b04) ⟨by decide, by decide⟩ (by omega)).mono ?_
  rintro en w5 ⟨D5, d5, rfl, _, b5⟩
  have b05 := b04.trans (b5.mono b04.size)
  have b35 := bX4.trans (b5.mono bX4.size)
  clear KT
  go_wp2_with fail
  refine (vals_any l C cc w5 (hC.below b05)).mono ?_
  rintro en w6 ⟨V, Y, cv, cy, rfl, sV, _, capV, _, b6⟩
  generalize valsOf l = xs at *
  have b46 := b5.trans (b6.mono b5.size)
  have b06 := b05.trans (b6.mono b05.size)
  have b36 := b35.trans (b6.mono b35.size)
  have k6 := k4.below b46 k4.lt
  have KT := k6
  clear b5 b6 b05 b35
  go_wp2_with ((with_reducible refine wpList_load_blk rfl 25 (.tmp 5) rfl w2.heap.size ?_ 25 _ _ KT Tryd.underlying25 ?_ Tryd.size_TableV ?_ ?_); rfl; rfl; rfl)
  refine (entrieso_any 7 1 ⟨#[116]⟩ plC plX xs A B V 2 2 cv w6 (hAX.below b36) (hBX.below b36) sV (by decide) (hu.below b06) (fun x hx => (HL.out x hx).1) ⟨by decide, by decide⟩ capV).mono ?_
  rintro en w7 ⟨R1, r1, rs, rfl, o1, hm1, s1, b7⟩
  have b07 := b06.trans (b7.mono b06.size)
  have b37 := b36.trans (b7.mono b36.size)
  have k7 := k6.below b7 k6.lt
  clear KT
  have KT := k7
  go_wp2_with ((with_reducible refine wpList_load_blk rfl 25 (.tmp 5) rfl w2.heap.size ?_ 25 _ _ KT Tryd.underlying25 ?_ Tryd.size_TableV ?_ ?_); rfl; rfl; rfl)
  refine (changes_any 7 1 ⟨#[116]⟩ plC plX [] xs A B none V 2 2 0 cv w7 (hAX.below b37) (hBX.below b37) (SlS.nil_ _ _ _ _) (sV.below b7) (by decide) (hu.below b07) (fun x hx => by cases hx) (fun x hx => (HL.out x hx).1) ⟨by decide, by decide⟩ ⟨Nat.le_refl _, by decide⟩ capV).mono ?_
  have ln2 := (storL_nodup 7 1 ⟨#[116]⟩ plC plX xs).2
  have ln1 : (entsB 7 1 ⟨#[116]⟩ plC plX xs).length ≤ 5 := by
    unfold entsB
    by_cases h : fitsE 7 1 ⟨#[116]⟩ plC plX xs = 0
    · rw [if_pos h, ents_len5]; decide
    · rw [if_neg h]; exact Nat.zero_le _
  have bd1 : ∀ p ∈ entsB 7 1 ⟨#[116]⟩ plC plX xs, p.1.length ≤ 8589934592 ∧ p.2.length ≤ 8589934592 := ents_bound
  have bd2 : ∀ p ∈ storL 7 1 ⟨#[116]⟩ plC plX xs, p.1.length ≤ 8589934592 ∧ p.2.length ≤ 8589934592 := storL_bound
  have hs0 : storL 7 1 ⟨#[116]⟩ plC plX [] = [] := rfl
  rw [hs0]
  generalize chgE (storE 7 1 ⟨#[116]⟩ plC plX []) (storE 7 1 ⟨#[116]⟩ plC plX xs) [] (storL 7 1 ⟨#[116]⟩ plC plX xs) = EC at *
  generalize storL 7 1 ⟨#[116]⟩ plC plX xs = L2 at *
  generalize entsB 7 1 ⟨#[116]⟩ plC plX xs = L1 at *
  subst hm1
  rw [List.length_map] at ln1
  clear hs0
  rintro en w8 ⟨R2, r2, ws, rfl, o2, hc1, hc2, hsp, b8⟩
  have lnw := Nat.le_trans (chg_len hc1 hc2) ln2
  have sWs := hsp rfl
  have bdR : ∀ r ∈ rs.flatMap RP.rows, r.2.1.length ≤ 140737488355000 := fun r hr => by
    obtain ⟨x, hx, hr⟩ := List.mem_flatMap.1 hr
    have h := bd1 x.p (List.mem_map_of_mem hx)
    have h3 : x.k.length ≤ 8589934592 := h.1
    have h4 : x.v.length ≤ 8589934592 := h.2
    rcases List.mem_cons.1 hr with rfl | hr
    · show x.k.length ≤ _; omega
    · rw [List.mem_singleton.1 hr]; show x.v.length ≤ _; omega
  have bdW : ∀ r ∈ ws.flatMap RW.rows, r.2.1.length ≤ 140737488355000 := fun r hr => by
    obtain ⟨x, hx, hr⟩ := List.mem_flatMap.1 hr
    obtain ⟨p, hp, e1, e2⟩ := chg_mem hc1 hc2 x hx
    have h := bd2 p hp
    rw [← e1, ← e2] at h
    rcases List.mem_cons.1 hr with rfl | hr
    · show x.k.length ≤ _; omega
    · rw [List.mem_singleton.1 hr]; show x.v.length ≤ _; omega
  have BDR := Lib.hid bdR
  have BDW := Lib.hid bdW
  clear bd1 bd2 bdR bdW
  clear hc1 hc2 hsp ln2 KT
  have b08 := b07.trans (b8.mono b07.size)
  have b48 := (b46.trans (b7.mono b46.size)).trans (b8.mono (b46.trans (b7.mono b46.size)).size)
  have f38 := f34.below b48 f34.lt
  have f48 := f4.below b48 f4.lt
  have p8 := p4.below b48 p4.lt
  have k8 := k7.below b8 k7.lt
  have sAll : Sep X.heap.size w8 (([(some ⟨X.heap.size, 0, none⟩, spL pk, pk.length + 40), (some ⟨w3.heap.size, 0, none⟩, spL pv, pv.length + 40)] ++ rs.flatMap RP.rows) ++ ws.flatMap RW.rows) :=
    Sep.more (Sep.more (sF.below b46) b7 s1 b36.size) b8 sWs b37.size
  have sR : Sl RPE w8 R1 rs := Own.sl (Own.below o1 b8) (by simp only [RPE]; omega)
  have sW : Sl RWE w8 R2 ws := Own.sl o2 (by simp only [RWE]; omega)
  have zX8 : w.heap.size ≤ X.heap.size := bX.size
  have z8 : w.heap.size ≤ w8.heap.size := b08.size
  have zXw8 : X.heap.size ≤ w8.heap.size := (b37.trans (b8.mono b37.size)).size
  have q0 : w8.cell? ⟨w.heap.size, 0, none⟩ = some (.slice P pk.length p) := p8.cell 0
  clear b7 b8 b46 b06 b07 b36 b37 f3 f34 f4 k2 k3 k4 k6 k7 p3 p4 pX sF s1 sWs o1 o2 b3 b4 b48 hAX hBX bX4 b03 b04
  go_wp2_with fail
  refine (kept_goR f38 (hP.below b08) (by omega)).mono ?_
  rintro en w9 ⟨rfl, n9, rfl⟩
  have q1 : (w8.drewN n9).cell? ⟨w.heap.size, 1, none⟩ = some (.slice Q pv.length q) := p8.cell 1
  clear q0
  go_wp2_with fail
  refine (kept_goR (f48.drewN n9) ((hQ.below b08).drewN n9) (by omega)).mono ?_
  rintro en w10 ⟨rfl, m9, rfl⟩
  have c9 : Below w8.heap.size w8 ((w8.drewN n9).drewN m9) := below_drewN (below_drewN (Below.refl _ _) _) _
  have b10 := b08.trans (c9.mono b08.size)
  have k10 := k8.below c9 k8.lt
  have sAll10 := sAll.below c9
  have sR10 := sR.below c9
  have sW10 := sW.below c9
  have z10 := c9.size
  clear q1 f38 f48 p8 k8 sAll sR sW b08 hP hQ hC
  generalize ((w8.drewN n9).drewN m9) = v at *
  clear c9
  have lk := k10.lt
  have n114 : RetBs [114, UInt8.ofInt 7] = RetBs [114, 7] := rfl
  have t1 : ∀ W, Calls Tryd.prog 13 #[.agg #[.int .i64 7, .string ⟨#[116]⟩, .slice A 2 2, .int .i64 1, .slice B 2 2]] W (fun en w' => ∃ D c, en = .returned (.slice D 2 c) ∧ OwnB W.heap.size w' D [114, 7] c ∧ Below W.heap.size W w') := fun W => prefix_bs 7 1 ⟨#[116]⟩ A B 2 2 2 2 W
  have t2 : ∀ W, Calls Tryd.prog 14 #[.agg #[.int .i64 7, .string ⟨#[116]⟩, .slice A 2 2, .int .i64 1, .slice B 2 2], .int .i64 1] W (fun en w' => ∃ D c, en = .returned (.slice D 3 c) ∧ OwnB W.heap.size w' D [105, 7, 1] c ∧ Below W.heap.size W w') := fun W => idxprefix_any 7 1 1 ⟨#[116]⟩ A B 2 2 2 2 W
  have ks : ∀ W, Below v.heap.size v W → W.cell? ⟨w2.heap.size, 0, none⟩ = some (.int .i64 7) ∧ W.cell? ⟨w2.heap.size, 1, none⟩ = some (.string ⟨#[116]⟩) ∧ W.cell? ⟨w2.heap.size, 2, none⟩ = some (.slice A 2 2) ∧ W.cell? ⟨w2.heap.size, 3, none⟩ = some (.int .i64 1) ∧ W.cell? ⟨w2.heap.size, 4, none⟩ = some (.slice B 2 2) := fun W hW => by
    have kT := k10.below hW lk
    exact ⟨kT.cell 0, kT.cell 1, kT.cell 2, kT.cell 3, kT.cell 4⟩
  have T1 := Lib.hid t1
  have T2 := Lib.hid t2
  have KS := Lib.hid ks
  clear n114 t1 t2 ks
  go_upto_region 12 with fail
  go_cut [16] (fun s16 wx => ∃ (A1 A2 A3 : Option Addr) (c1 c2 c3 g : Nat), s16 = .slice (some ⟨g, 0, none⟩) 5 5 ∧ Blk wx g 31 #[.slice (some ⟨X.heap.size, 0, none⟩) (pk.length + 40) (pk.length + 40), .slice (some ⟨w3.heap.size, 0, none⟩) (pv.length + 40) (pv.length + 40), .slice A1 2 c1, .slice A2 2 c2, .slice A3 3 c3] ∧
    v.heap.size ≤ g ∧ Sep v.heap.size wx [(A1, [114, 7], c1), (A2, [114, 7], c2), (A3, [105, 7, 1], c3)] ∧ Below v.heap.size v wx)
  case first =>
    go_region_held3 (fun W : World => W.cell? ⟨w2.heap.size, 0, none⟩ = some (.int .i64 7) ∧ W.cell? ⟨w2.heap.size, 1, none⟩ = some (.string ⟨#[116]⟩) ∧ W.cell? ⟨w2.heap.size, 2, none⟩ = some (.slice A 2 2) ∧ W.cell? ⟨w2.heap.size, 3, none⟩ = some (.int .i64 1) ∧ W.cell? ⟨w2.heap.size, 4, none⟩ = some (.slice B 2 2)) (with_reducible refine KS.out _ ?_; (focus (repeat (first | (with_reducible exact bx3) | (with_reducible exact bx2) | (with_reducible exact bx1) | (with_reducible exact Below.refl _ _) | (with_reducible refine Below.drew_ ?_) | (with_reducible refine Below.allocR ?_))))) (first
      | (go_at_call 14; (with_reducible refine (T2.out _).mono ?_); rintro en wi ⟨A3, c3, rfl, hI, bi⟩; have bx3 : Below v.heap.size v wi := (by refine BelowT.call ?_ bi; (focus (repeat (first | (with_reducible exact bx3) | (with_reducible exact bx2) | (with_reducible exact bx1) | (with_reducible exact Below.refl _ _) | (with_reducible refine Below.drew_ ?_) | (with_reducible refine Below.allocR ?_))))); have sx3 : Sep v.heap.size wi ([(A1, [114, 7], c1), (A2, [114, 7], c2)] ++ [(A3, [105, 7, 1], c3)]) := (Sep.more sx2 (by refine BelowT.call ?_ bi; (focus (repeat (first | (with_reducible exact Below.refl _ _) | (with_reducible refine Below.drew_ ?_))))) (Sep.one hI) bx2.size); skip)
      | (go_at_call 13; (with_reducible refine (T1.out _).mono ?_); rintro en wp2 ⟨A2, c2, rfl, hP2, bp2⟩; have bx2 : Below v.heap.size v wp2 := (by refine BelowT.call ?_ bp2; exact (by (focus (repeat (first | (with_reducible exact bx3) | (with_reducible exact bx2) | (with_reducible exact bx1) | (with_reducible exact Below.refl _ _) | (with_reducible refine Below.drew_ ?_) | (with_reducible refine Below.allocR ?_)))) : Below v.heap.size v _)); have sx2 : Sep v.heap.size wp2 ([(A1, [114, 7], c1)] ++ [(A2, [114, 7], c2)]) := (Sep.more sx1 (by refine BelowT.call ?_ bp2; (focus (repeat (first | (with_reducible exact Below.refl _ _) | (with_reducible refine Below.drew_ ?_))))) (Sep.one hP2) bx1.size); skip)
      | (go_at_call 13; (with_reducible refine (T1.out _).mono ?_); rintro en wp1 ⟨A1, c1, rfl, hP1, bp1⟩; have bx1 : Below v.heap.size v wp1 := (by refine BelowT.call ?_ bp1; (focus (repeat (first | (with_reducible exact bx3) | (with_reducible exact bx2) | (with_reducible exact bx1) | (with_reducible exact Below.refl _ _) | (with_reducible refine Below.drew_ ?_) | (with_reducible refine Below.allocR ?_))))); have sx1 : Sep v.heap.size wp1 [(A1, [114, 7], c1)] := (Sep.one hP1).base (Below.size (by (focus (repeat (first | (with_reducible exact bx3) | (with_reducible exact bx2) | (with_reducible exact bx1) | (with_reducible exact Below.refl _ _) | (with_reducible refine Below.drew_ ?_) | (with_reducible refine Below.allocR ?_)))))); skip))
    all_goals
      go_wp2_with fail
      go_meet
      case rel => exact ⟨A1, A2, A3, c1, c2, c3, _, rfl, by first | exact Blk.new _ _ _ | exact (Blk.new _ _ _).drew, Nat.le_trans bx3.size (by simp), by first | exact sx3.below ((Below.refl _ _).alloc (Nat.le_refl _) _) | exact sx3.below (((Below.refl _ _).alloc (Nat.le_refl _) _).drew), by first | exact bx3.alloc bx3.size _ | exact (bx3.alloc bx3.size _).drew⟩
  case rest =>
    obtain ⟨A1, A2, A3, c1, c2, c3, g, rfl, kG, hvg, sN, bx⟩ := hcut
    obtain ⟨N5, hN5⟩ : ∃ N5 : List R3, N5 = [(some ⟨X.heap.size, 0, none⟩, spL pk, pk.length + 40), (some ⟨w3.heap.size, 0, none⟩, spL pv, pv.length + 40), (A1, [114, 7], c1), (A2, [114, 7], c2), (A3, [105, 7, 1], c3)] := ⟨_, rfl⟩
    have hNl : N5.length = 5 := by rw [hN5]; rfl
    have hR0 : RowsIs v.heap.size wc (some ⟨g, 0, none⟩) 5 N5 := by
      have h := own_of_blk kG hvg (by show 5 ≤ maxLen; simp only [maxLen]; omega)
      unfold RowsIs
      have e : N5.map R3.v = [.slice (some ⟨X.heap.size, 0, none⟩) (pk.length + 40) (pk.length + 40), .slice (some ⟨w3.heap.size, 0, none⟩) (pv.length + 40) (pv.length + 40), .slice A1 2 c1, .slice A2 2 c2, .slice A3 3 c3] := by
        rw [hN5]
        show [Value.slice _ (spL pk).length _, Value.slice _ (spL pv).length _, _, _, _] = _
        rw [spL_length, spL_length]
        rfl
      rw [e, hNl]
      exact h
    obtain ⟨ALL, hALL⟩ : ∃ ALL : List R3, ALL = (N5 ++ rs.flatMap RP.rows) ++ ws.flatMap RW.rows := ⟨_, rfl⟩
    have sA : Sep X.heap.size wc ALL := by
      have h := (Sep.more sAll10 bx sN (by omega)).perm (perm4 _ _ _ _)
      rw [hALL, hN5]
      exact h
    have hBD : ∀ r ∈ ALL, r.2.1.length ≤ 140737488355000 := fun r hr => by
      rw [hALL] at hr
      rcases List.mem_append.1 hr with hr | hr
      · rcases List.mem_append.1 hr with hr | hr
        · rw [hN5] at hr
          simp only [List.mem_cons, List.not_mem_nil, or_false] at hr
          rcases hr with rfl | rfl | rfl | rfl | rfl
          · show (spL pk).length ≤ _; rw [spL_length]; omega
          · show (spL pv).length ≤ _; rw [spL_length]; omega
          · show 2 ≤ _; omega
          · show 2 ≤ _; omega
          · show 3 ≤ _; omega
        · exact BDR.out r hr
      · exact BDW.out r hr
    have hal : 5 ≤ ALL.length := by rw [hALL, List.length_append, List.length_append, hNl]; omega
    have HBD := Lib.hid hBD
    have HALL := Lib.hid hALL
    have hst : (Value.slice (some ⟨g, 0, none⟩) 5 5) = .slice (some ⟨g, 0, none⟩) N5.length 5 := by rw [hNl]
    have HST := Lib.hid hst
    have hn5 : N5.length ≤ 5 := by omega
    clear hN5 hNl hBD hALL hst sN kG sAll10 BDR BDW k10 lk T1 T2 KS
    go_wp2_with fail
    go_loopw [16, 18, 81] (fun o _ i wr => ∃ (k : Nat) (rows : List R3) (Ar : Option Addr) (cr : Nat), k ≤ rs.length ∧ i = .int .i64 (k : Int) ∧ o = .slice Ar rows.length cr ∧ RowsIs v.heap.size wr Ar cr rows ∧ rows = N5 ++ (rs.take k).flatMap RP.rows ∧ rows.length ≤ 5 + 2 * k ∧ Sep X.heap.size wr ALL ∧ Below v.heap.size v wr) (fun _ _ i _ => rs.length - (intOf i).toNat)
    case atStart => exact ⟨0, N5, _, 5, Nat.zero_le _, rfl, HST.out, hR0, by rw [List.take_zero, List.flatMap_nil, List.append_nil], by omega, sA, bx⟩
    case round =>
      clear hR0 sA bx HST
      obtain ⟨k, rows, Ar, cr, hk, rfl, rfl, hR, hrw, hrl, sA, br⟩ := hrel
      have HRW := Lib.hid hrw
      clear hrw
      have zr := br.size
      by_cases hlt : k < rs.length
      · have hlt' : (k : Int) < (rs.length : Int) := by omega
        obtain ⟨ad, rfl, ha, f0, f1, -⟩ := RPE.at_ (sR10.below br) hlt
        have HTK : Hid ((rs.take (k + 1)).flatMap RP.rows = (rs.take k).flatMap RP.rows ++ RP.rows rs[k]) := by show _ = _; rw [List.take_succ_eq_append_getElem hlt, List.flatMap_append, List.flatMap_cons, List.flatMap_nil, List.append_nil]
        generalize rs[k] = r at *
        have dX : Below wr.heap.size wr (wr.alloc (.cells #[.slice r.K r.k.length r.c, .slice r.V r.v.length r.d] 54)) := (Below.refl _ _).alloc (Nat.le_refl _) _
        have kp := Blk.new wr 54 #[.slice r.K r.k.length r.c, .slice r.V r.v.length r.d]
        have bXr := br.trans (dX.mono zr)
        have hRX : RowsIs v.heap.size (wr.alloc (.cells #[.slice r.K r.k.length r.c, .slice r.V r.v.length r.d] 54)) Ar cr rows := World.ownsRow.alloc hR _
        have sX := sA.below dX
        go_upto_region 16 with fail
        clear f0 f1 dX hR sA ha br
        generalize (wr.alloc (.cells #[.slice r.K r.k.length r.c, .slice r.V r.v.length r.d] 54)) = XW at *
        have y0 : XW.cell? ⟨wr.heap.size, 0, none⟩ = some (.slice r.K r.k.length r.c) := kp.cell 0
        have y1 : XW.cell? ⟨wr.heap.size, 1, none⟩ = some (.slice r.V r.v.length r.d) := kp.cell 1
        have dZ : Below XW.heap.size XW (XW.alloc (.cells #[.slice r.K r.k.length r.c, .slice r.V r.v.length r.d] 31)) := (Below.refl _ _).alloc (Nat.le_refl _) _
        have bZ := bXr.trans (dZ.mono bXr.size)
        have hRZ : RowsIs v.heap.size (XW.alloc (.cells #[.slice r.K r.k.length r.c, .slice r.V r.v.length r.d] 31)) Ar cr rows := World.ownsRow.alloc hRX _
        have sZ := sX.below dZ
        go_wp2_with (at_builtin; refine wpList_appR v.heap.size v _ rfl (.tmp 85) (.tmp 90) rfl Ar rows cr rfl hRZ _ (RP.rows r) 2 rfl _ (Reads.newK XW [.slice r.K r.k.length r.c, .slice r.V r.v.length r.d] 31) (by show rows.length + 2 ≤ 1000; omega) bZ (Nat.le_refl _) bZ.size ?_; intro A9 c9 rows9 w9 H9 h9 b9 g9; have s9 := sZ.row g9 hRZ (by decide))
        go_roundw
        case rel => exact ⟨k + 1, rows9, A9, c9, by omega, by go_num, rfl, h9, by rw [H9.out, HRW.out, HTK.out, List.append_assoc], by rw [H9.out, List.length_append]; show rows.length + 2 ≤ _; omega, s9, b9⟩
        case measure => simp [intOf]; omega
      · obtain rfl : k = rs.length := by omega
        have hrw2 : rows = N5 ++ rs.flatMap RP.rows := by have h := HRW.out; rwa [List.take_length] at h
        obtain ⟨N6, hN6⟩ : ∃ N6, N6 = N5 ++ rs.flatMap RP.rows := ⟨_, rfl⟩
        rw [← hN6] at hrw2
        have HA2 : Hid (ALL = N6 ++ ws.flatMap RW.rows) := by show _ = _; rw [HALL.out, hN6]
        have HRW2 := Lib.hid hrw2
        clear hrw2 hN6 HRW hk hlt HALL
        generalize wr = u1 at *
        go_wp2_with fail
        go_loopw [16, 20, 95] (fun o _ i wr => ∃ (k : Nat) (rows : List R3) (Ar : Option Addr) (cr : Nat), k ≤ ws.length ∧ i = .int .i64 (k : Int) ∧ o = .slice Ar rows.length cr ∧ RowsIs v.heap.size wr Ar cr rows ∧ rows = N6 ++ (ws.take k).flatMap RW.rows ∧ rows.length ≤ 15 + 2 * k ∧ Sep X.heap.size wr ALL ∧ Below v.heap.size v wr) (fun _ _ i _ => ws.length - (intOf i).toNat)
        case atStart => exact ⟨0, rows, Ar, cr, Nat.zero_le _, rfl, rfl, hR, by rw [List.take_zero, List.flatMap_nil, List.append_nil]; exact HRW2.out, by omega, sA, br⟩
        case round =>
          clear hR sA br HRW2
          obtain ⟨k, rows, Ar, cr, hk, rfl, rfl, hR, hrw, hrl, sA, br⟩ := hrel
          have HRW := Lib.hid hrw
          clear hrw
          have zr := br.size
          by_cases hlt : k < ws.length
          · have hlt' : (k : Int) < (ws.length : Int) := by omega
            obtain ⟨ad, rfl, ha, f0, f1, f2, -⟩ := RWE.at_ (sW10.below br) hlt
            have HTK : Hid ((ws.take (k + 1)).flatMap RW.rows = (ws.take k).flatMap RW.rows ++ RW.rows ws[k]) := by show _ = _; rw [List.take_succ_eq_append_getElem hlt, List.flatMap_append, List.flatMap_cons, List.flatMap_nil, List.append_nil]
            generalize ws[k] = r at *
            have dX : Below wr.heap.size wr (wr.alloc (.cells #[.slice r.K r.k.length r.c, .slice r.V r.v.length r.d, .bool r.g] 77)) := (Below.refl _ _).alloc (Nat.le_refl _) _
            have kp := Blk.new wr 77 #[.slice r.K r.k.length r.c, .slice r.V r.v.length r.d, .bool r.g]
            have bXr := br.trans (dX.mono zr)
            have hRX : RowsIs v.heap.size (wr.alloc (.cells #[.slice r.K r.k.length r.c, .slice r.V r.v.length r.d, .bool r.g] 77)) Ar cr rows := World.ownsRow.alloc hR _
            have sX := sA.below dX
            go_upto_region 21 with fail
            clear f0 f1 f2 dX hR sA ha br
            generalize (wr.alloc (.cells #[.slice r.K r.k.length r.c, .slice r.V r.v.length r.d, .bool r.g] 77)) = XW at *
            have y0 : XW.cell? ⟨wr.heap.size, 0, none⟩ = some (.slice r.K r.k.length r.c) := kp.cell 0
            have y1 : XW.cell? ⟨wr.heap.size, 1, none⟩ = some (.slice r.V r.v.length r.d) := kp.cell 1
            have dZ : Below XW.heap.size XW (XW.alloc (.cells #[.slice r.K r.k.length r.c, .slice r.V r.v.length r.d] 31)) := (Below.refl _ _).alloc (Nat.le_refl _) _
            have bZ := bXr.trans (dZ.mono bXr.size)
            have hRZ : RowsIs v.heap.size (XW.alloc (.cells #[.slice r.K r.k.length r.c, .slice r.V r.v.length r.d] 31)) Ar cr rows := World.ownsRow.alloc hRX _
            have sZ := sX.below dZ
            go_wp2_with (at_builtin; refine wpList_appR v.heap.size v _ rfl (.tmp 99) (.tmp 104) rfl Ar rows cr rfl hRZ _ (RW.rows r) 2 rfl _ (Reads.newK XW [.slice r.K r.k.length r.c, .slice r.V r.v.length r.d] 31) (by show rows.length + 2 ≤ 1000; omega) bZ (Nat.le_refl _) bZ.size ?_; intro A9 c9 rows9 w9 H9 h9 b9 g9; have s9 := sZ.row g9 hRZ (by decide))
            go_roundw
            case rel => exact ⟨k + 1, rows9, A9, c9, by omega, by go_num, rfl, h9, by rw [H9.out, HRW.out, HTK.out, List.append_assoc], by rw [H9.out, List.length_append]; show rows.length + 2 ≤ _; omega, s9, b9⟩
            case measure => simp [intOf]; omega
          · obtain rfl : k = ws.length := by omega
            have hra : rows = ALL := by have h := HRW.out; rw [List.take_length] at h; rw [h, HA2.out]
            have hz5 : 0 < rows.length := by rw [hra]; omega
            have T := Lib.hid (apart_sep v.heap.size X.heap.size wr Ar cr rows hR (by rw [hra]; exact sA) hz5 (by omega) (fun r hr => HBD.out r (by rw [← hra]; exact hr)) (Nat.le_trans zXw8 (Nat.le_trans z10 zr)))
            have b1r := b10.trans (br.mono b10.size)
            clear hra HA2 HRW hR
            go_wp2_with fail
            refine T.out.mono ?_
            rintro en w11 ⟨rfl, b11⟩
            go_wp2_with fail
            go_ret
            exact ⟨rfl, b1r.trans (b11.mono zX8)⟩
end Go.Proofs.YtfededjcadmpbaaDoor
