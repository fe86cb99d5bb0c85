/- RowChecks: tables and rows are told to be in form, or what is wrong with them, just as the document says. -/
import Derived.Test.YtfededjcadmpbaaDoorAwakeR
import Derived.Test.YtfededjcadmpbaaDoorValsOf
import Derived.Deep.RegionLaw
namespace Go.Proofs.YtfededjcadmpbaaDoor
open Go.RowKit

theorem rfits2 (id keys : Int) (tn : ByteArray) (cols : List LCol) (ixs : List LIx) (xs : List LVal) (A B C : Option Addr) (ca cb cc : Nat) (w : World) (hx : ∀ x ∈ xs, x.err = 0) (hA : Sl ColE w A cols) (hB : Sl IxE w B ixs) (hC : Sl CelE w C xs) (hn : tn.size ≤ 140737488351232) :
    Calls Tryd.prog 20 #[.agg #[.int .i64 id, .string tn, .slice A cols.length ca, .int .i64 keys, .slice B ixs.length cb], .slice C xs.length cc] w fun en w' => en = .returned (.int .i64 (fitsE id keys tn cols ixs xs)) ∧ Below w.heap.size w w' := by
  rw [← rfitsE_eq hx]
  exact rfits_any id keys tn cols ixs xs A B C ca cb cc w hA hB hC hn
theorem checkT (id keys : Int) (tn : ByteArray) (cols : List LCol) (ixs : List LIx) (A B : Option Addr) (ca cb : Nat) (w : World) (hA : Sl ColE w A cols) (hB : Sl IxE w B ixs) (hn : tn.size ≤ 140737488351232) :
    Calls Tryd.prog 17 #[.agg #[.int .i64 id, .string tn, .slice A cols.length ca, .int .i64 keys, .slice B ixs.length cb]] w fun en w' => en = .returned (.int .i64 (checkI id keys tn cols ixs)) ∧ Below w.heap.size w w' := check_any id keys tn A B ca cb cols ixs w hA.cols hB.ixs hn hA.cnames hB.xnames
theorem rcheckT (id keys : Int) (tn : ByteArray) (cols : List LCol) (ixs : List LIx) (A B : Option Addr) (ca cb : Nat) (w : World) (hA : Sl ColE w A cols) (hB : Sl IxE w B ixs) (hn : tn.size ≤ 140737488351232) :
    Calls Tryd.prog 18 #[.agg #[.int .i64 id, .string tn, .slice A cols.length ca, .int .i64 keys, .slice B ixs.length cb]] w fun en w' => en = .returned (.int .i64 (checkI id keys tn cols ixs)) ∧ Below w.heap.size w w' := rcheck_any id keys tn A B ca cb cols ixs w hA.cols hB.ixs hn hA.cnames hB.xnames
theorem Below.call2_ {a X w' : World} (h : Below a.heap.size a X) (b : Below X.heap.size X w') : Below a.heap.size a w' := h.trans (b.mono h.size)

theorem own_emptyR {X : World} {g base size : Nat} {t : TypeId} (h : Blk X g t #[]) (hb : base ≤ g) : X.ownsRow base t size (.slice (some ⟨g, 0, none⟩) 0 0) 0 [] :=
  ⟨by simp, .inr ⟨g, 0, #[], rfl, hb, h, by omega, by simp [maxLen], by simp, by simp⟩⟩
/-- the first element, of five cells, is stored anew -/
theorem Own.first5 {α : Type} {E : ER α} {t : TypeId} {w : World} {B c g : Nat} {S : Nat → Prop} {xs : List α} {y : α} {u0 u1 u2 u3 u4 : Value} (h : Own E t w B S (.slice (some ⟨g, 0, none⟩) xs.length c) xs) (hs : E.size = 5) (hk : 0 < xs.length)
    (hr : E.rep (((((w.setCell ⟨g, 0, none⟩ u0).setCell ⟨g, 1, none⟩ u1).setCell ⟨g, 2, none⟩ u2).setCell ⟨g, 3, none⟩ u3).setCell ⟨g, 4, none⟩ u4) (fun b => S b ∧ (Value.slice (some ⟨g, 0, none⟩) xs.length c).ownBlock ≠ some b) [u0, u1, u2, u3, u4] y) :
    Own E t (((((w.setCell ⟨g, 0, none⟩ u0).setCell ⟨g, 1, none⟩ u1).setCell ⟨g, 2, none⟩ u2).setCell ⟨g, 3, none⟩ u3).setCell ⟨g, 4, none⟩ u4) B S (.slice (some ⟨g, 0, none⟩) xs.length c) (xs.set 0 y) := by
  obtain ⟨vs, h, hf⟩ := h
  obtain ⟨h0, g0⟩ := h.stored 0 u0
  obtain ⟨h1, g1⟩ := h0.stored 1 u1
  obtain ⟨h2, g2⟩ := h1.stored 2 u2
  obtain ⟨h3, g3⟩ := h2.stored 3 u3
  obtain ⟨h4, g4⟩ := h3.stored 4 u4
  have hg := (((g0.trans g1).trans g2).trans g3).trans g4
  have hf2 := ER.flat_same (.of_grown hg fun b hb e => hb.2 e) hf
  refine ⟨_, by rw [List.length_set]; exact h4, ?_⟩
  cases xs with
  | nil => cases hk
  | cons x xs =>
    obtain ⟨v, r, e, hv, hfr⟩ := hf2
    have hl := E.len hv
    rw [hs] at hl
    match v, hl with
    | [a0, a1, a2, a3, a4], _ =>
      subst e
      exact ⟨[u0, u1, u2, u3, u4], r, rfl, hr, hfr⟩
/-- a column of the key of a table in form is of a kind, and not Null -/
theorem check_first {id keys : Int} {tn : ByteArray} {c : LCol} {cols : List LCol} {ixs : List LIx} (h : checkI id keys tn (c :: cols) ixs = 0) : kindErr c 0 = 10 := by
  unfold checkI at h
  by_cases h1 : 16 < (c :: cols).length
  · rw [if_pos h1] at h; cases h
  rw [if_neg h1] at h
  by_cases h2 : 4 < ixs.length
  · rw [if_pos h2] at h; cases h
  rw [if_neg h2] at h
  by_cases h3 : headB id keys tn (c :: cols).length = false
  · rw [if_pos h3] at h; cases h
  rw [if_neg h3] at h
  by_cases h4 : colsB keys (c :: cols) 0 = false
  · rw [if_pos h4] at h; cases h
  have h5 : headB id keys tn (c :: cols).length = true := by simpa using h3
  have h6 : colsB keys (c :: cols) 0 = true := by simpa using h4
  unfold headB at h5
  simp only [Bool.and_eq_true, decide_eq_true_eq] at h5
  have h7 : colB c (decide (((0 : Nat) : Int) < keys)) = true := by
    have : (colB c (decide (((0 : Nat) : Int) < keys)) && colsB keys cols (0 + 1)) = true := h6
    exact (Bool.and_eq_true _ _ ▸ this).1
  rw [decide_eq_true (by omega)] at h7
  unfold colB at h7
  simp only [Bool.and_eq_true, decide_eq_true_eq, Bool.true_and, Bool.not_eq_true'] at h7
  unfold kindErr
  rw [h7.2, show ((0 : Int) != c.kind) = true from by rw [bne_iff_ne]; omega]
  rfl
theorem fits_first {id keys : Int} {tn : ByteArray} {cols : List LCol} {ixs : List LIx} {xs : List LVal} {n : Int} (h : checkI id keys tn cols ixs = 0) (hl : xs.length = cols.length) (h0 : 0 < xs.length) (hx : ∀ x ∈ xs, x.err = 0) :
    fitsE id keys tn cols ixs (xs.set 0 (.other n)) = rfitsE id keys tn cols ixs (xs.set 0 .null) := by
  cases cols with
  | nil => rw [List.length_nil] at hl; omega
  | cons c cols =>
    cases xs with
    | nil => cases h0
    | cons x xs =>
      have hl2 : xs.length = cols.length := by simpa using hl
      have f1 : fitsE id keys tn (c :: cols) ixs ((x :: xs).set 0 (.other n)) = valuesE cols xs (worse 0 (valErr c (.other n))) := by
        unfold fitsE
        rw [if_neg (fun h2 => h2 h), if_neg (by simp [hl2])]; rfl
      have f2 : rfitsE id keys tn (c :: cols) ixs ((x :: xs).set 0 .null) = rvaluesE cols xs (worse 0 (rvalErr c .null)) := by
        unfold rfitsE
        rw [if_neg (fun h2 => h2 h), if_neg (by simp [hl2])]; rfl
      rw [f1, f2]
      have e1 : valErr c (.other n) = 10 := rfl
      have e2 : rvalErr c .null = 10 := by
        show kindErr c 0 = 10
        exact check_first h
      rw [e1, e2, rvaluesE_eq fun y hy => hx y (List.mem_cons_of_mem _ hy)]

set_option maxRecDepth 100000 in
set_option maxHeartbeats 8000000 in
theorem checks_any (id keys : Int) (tn : ByteArray) (cols : List LCol) (ixs : List LIx) (l : List LCel) (A B C : Option Addr) (ca cb cc : Nat) (w : World) (hA : Sl ColE w A cols) (hB : Sl IxE w B ixs) (hC : Sl CraE w C l) (hn : tn.size ≤ 140737488351232) (hu : U8 w) :
    Calls Tryd.prog 4 #[.agg #[.int .i64 id, .string tn, .slice A cols.length ca, .int .i64 keys, .slice B ixs.length cb], .slice C l.length cc] w fun e w' => e = .returned (.bool true) ∧ Below w.heap.size w w' := by
  replace hA := hA.old
  replace hB := hB.old
  have b0 : Below w.heap.size w (w.alloc (.cells #[.int .i64 id, .string tn, .slice A cols.length ca, .int .i64 keys, .slice B ixs.length cb] 25)) := (Below.refl _ _).alloc (Nat.le_refl _) _
  have k0 := Blk.new w 25 #[.int .i64 id, .string tn, .slice A cols.length ca, .int .i64 keys, .slice B ixs.length cb]
  go_enter Tryd.func4, Tryd.ntmps4
  go_wp2_with fail
  generalize (w.alloc (.cells #[.int .i64 id, .string tn, .slice A cols.length ca, .int .i64 keys, .slice B ixs.length cb] 25)) = W0 at *
  refine (awake_any W0 (hu.below b0)).mono ?_
  rintro en w1 ⟨rfl, b1⟩
  have b01 := b0.trans (b1.mono b0.size)
  have k1 := k0.below b1 k0.lt
  go_wp2_with fail
  refine (vals_any l C cc w1 (hC.below b01)).mono ?_
  rintro en w2 ⟨V, D, cv, cd, rfl, sV, sD, b2⟩
  have hex : ∀ x ∈ valsOf l, x.err = 0 := valsOf_err
  generalize valsOf l = xs at *
  have HEX := Lib.hid hex
  have b02 := b01.trans (b2.mono b01.size)
  have k2 := k1.below b2 k1.lt
  have hA2 := hA.below b02
  have hB2 := hB.below b02
  have hu2 := hu.below b02
  clear hex b0 b1 b01 b2 k0 k1
  go_upto_region 4 with fail
  have l2 := k2.lt
  go_cut [29] (fun s29 wx => s29 = .bool false ∧ Below w2.heap.size w2 wx)
  case first =>
    have y0 : w2.cell? ⟨w.heap.size, 0, none⟩ = some (.int .i64 id) := k2.cell 0
    have y1 : w2.cell? ⟨w.heap.size, 1, none⟩ = some (.string tn) := k2.cell 1
    have y2 : w2.cell? ⟨w.heap.size, 2, none⟩ = some (.slice A cols.length ca) := k2.cell 2
    have y3 : w2.cell? ⟨w.heap.size, 3, none⟩ = some (.int .i64 keys) := k2.cell 3
    have y4 : w2.cell? ⟨w.heap.size, 4, none⟩ = some (.slice B ixs.length cb) := k2.cell 4
    obtain ⟨F, hF⟩ : ∃ F, checkI id keys tn cols ixs = F := ⟨_, rfl⟩
    obtain ⟨G, hG⟩ : ∃ G, fitsE id keys tn cols ixs xs = G := ⟨_, rfl⟩
    have t1 : ∀ W, Below w2.heap.size w2 W → Calls Tryd.prog 17 #[.agg #[.int .i64 id, .string tn, .slice A cols.length ca, .int .i64 keys, .slice B ixs.length cb]] W fun en w' => en = .returned (.int .i64 F) ∧ Below W.heap.size W w' := fun W hW => by
      rw [← hF]; exact checkT id keys tn cols ixs A B ca cb W (hA2.below hW).any (hB2.below hW).any hn
    have t2 : ∀ W, Below w2.heap.size w2 W → Calls Tryd.prog 18 #[.agg #[.int .i64 id, .string tn, .slice A cols.length ca, .int .i64 keys, .slice B ixs.length cb]] W fun en w' => en = .returned (.int .i64 F) ∧ Below W.heap.size W w' := fun W hW => by
      rw [← hF]; exact rcheckT id keys tn cols ixs A B ca cb W (hA2.below hW).any (hB2.below hW).any hn
    have t3 : ∀ W, Below w2.heap.size w2 W → Calls Tryd.prog 19 #[.agg #[.int .i64 id, .string tn, .slice A cols.length ca, .int .i64 keys, .slice B ixs.length cb], .slice V xs.length cv] W fun en w' => en = .returned (.int .i64 G) ∧ Below W.heap.size W w' := fun W hW => by
      rw [← hG]; exact fits_any id keys tn cols ixs xs A B V ca cb cv W (hA2.below hW).any (hB2.below hW).any (sV.below hW) hn (hu2.below hW)
    have t4 : ∀ W, Below w2.heap.size w2 W → Calls Tryd.prog 20 #[.agg #[.int .i64 id, .string tn, .slice A cols.length ca, .int .i64 keys, .slice B ixs.length cb], .slice D xs.length cd] W fun en w' => en = .returned (.int .i64 G) ∧ Below W.heap.size W w' := fun W hW => by
      rw [← hG]; exact rfits2 id keys tn cols ixs xs A B D ca cb cd W HEX.out (hA2.below hW).any (hB2.below hW).any (sD.below hW) hn
    have T1 := Lib.hid t1
    have T2 := Lib.hid t2
    have T3 := Lib.hid t3
    have T4 := Lib.hid t4
    have dF : (F != F) = false := by simp
    have dG : (G != G) = false := by simp
    clear t1 t2 t3 t4 hF hG
    go_region_law
      (first
        | (go_simp; go_at_call 17; (with_reducible refine (T1.out _ ?_).mono ?_); (focus (repeat (first | (with_reducible exact ba2) | (with_reducible exact bb2) | (with_reducible exact bc2) | (with_reducible exact bd2) | (with_reducible exact Below.refl _ _) | (with_reducible refine Below.drew_ ?_)))); rintro en wa ⟨rfl, ba⟩; have ba2 : Below w2.heap.size w2 wa := (by refine Below.call2_ ?_ ba; (focus (repeat (first | (with_reducible exact ba2) | (with_reducible exact bb2) | (with_reducible exact bc2) | (with_reducible exact bd2) | (with_reducible exact Below.refl _ _) | (with_reducible refine Below.drew_ ?_))))); have kT := k2.below ba2 l2; have y0 : wa.cell? ⟨w.heap.size, 0, none⟩ = some (.int .i64 id) := kT.cell 0; have y1 : wa.cell? ⟨w.heap.size, 1, none⟩ = some (.string tn) := kT.cell 1; have y2 : wa.cell? ⟨w.heap.size, 2, none⟩ = some (.slice A cols.length ca) := kT.cell 2; have y3 : wa.cell? ⟨w.heap.size, 3, none⟩ = some (.int .i64 keys) := kT.cell 3; have y4 : wa.cell? ⟨w.heap.size, 4, none⟩ = some (.slice B ixs.length cb) := kT.cell 4; skip)
        | (go_simp; go_at_call 18; (with_reducible refine (T2.out _ ?_).mono ?_); (focus (repeat (first | (with_reducible exact ba2) | (with_reducible exact bb2) | (with_reducible exact bc2) | (with_reducible exact bd2) | (with_reducible exact Below.refl _ _) | (with_reducible refine Below.drew_ ?_)))); rintro en wb ⟨rfl, bb⟩; have bb2 : Below w2.heap.size w2 wb := (by refine Below.call2_ ?_ bb; (focus (repeat (first | (with_reducible exact ba2) | (with_reducible exact bb2) | (with_reducible exact bc2) | (with_reducible exact bd2) | (with_reducible exact Below.refl _ _) | (with_reducible refine Below.drew_ ?_))))); have kT := k2.below bb2 l2; have y0 : wb.cell? ⟨w.heap.size, 0, none⟩ = some (.int .i64 id) := kT.cell 0; have y1 : wb.cell? ⟨w.heap.size, 1, none⟩ = some (.string tn) := kT.cell 1; have y2 : wb.cell? ⟨w.heap.size, 2, none⟩ = some (.slice A cols.length ca) := kT.cell 2; have y3 : wb.cell? ⟨w.heap.size, 3, none⟩ = some (.int .i64 keys) := kT.cell 3; have y4 : wb.cell? ⟨w.heap.size, 4, none⟩ = some (.slice B ixs.length cb) := kT.cell 4; skip)
        | (go_simp; go_at_call 19; (with_reducible refine (T3.out _ ?_).mono ?_); (focus (repeat (first | (with_reducible exact ba2) | (with_reducible exact bb2) | (with_reducible exact bc2) | (with_reducible exact bd2) | (with_reducible exact Below.refl _ _) | (with_reducible refine Below.drew_ ?_)))); rintro en wc_ ⟨rfl, bc⟩; have bc2 : Below w2.heap.size w2 wc_ := (by refine Below.call2_ ?_ bc; (focus (repeat (first | (with_reducible exact ba2) | (with_reducible exact bb2) | (with_reducible exact bc2) | (with_reducible exact bd2) | (with_reducible exact Below.refl _ _) | (with_reducible refine Below.drew_ ?_))))); have kT := k2.below bc2 l2; have y0 : wc_.cell? ⟨w.heap.size, 0, none⟩ = some (.int .i64 id) := kT.cell 0; have y1 : wc_.cell? ⟨w.heap.size, 1, none⟩ = some (.string tn) := kT.cell 1; have y2 : wc_.cell? ⟨w.heap.size, 2, none⟩ = some (.slice A cols.length ca) := kT.cell 2; have y3 : wc_.cell? ⟨w.heap.size, 3, none⟩ = some (.int .i64 keys) := kT.cell 3; have y4 : wc_.cell? ⟨w.heap.size, 4, none⟩ = some (.slice B ixs.length cb) := kT.cell 4; skip)
        | (go_simp; go_at_call 20; (with_reducible refine (T4.out _ ?_).mono ?_); (focus (repeat (first | (with_reducible exact ba2) | (with_reducible exact bb2) | (with_reducible exact bc2) | (with_reducible exact bd2) | (with_reducible exact Below.refl _ _) | (with_reducible refine Below.drew_ ?_)))); rintro en wd ⟨rfl, bd⟩; have bd2 : Below w2.heap.size w2 wd := (by refine Below.call2_ ?_ bd; (focus (repeat (first | (with_reducible exact ba2) | (with_reducible exact bb2) | (with_reducible exact bc2) | (with_reducible exact bd2) | (with_reducible exact Below.refl _ _) | (with_reducible refine Below.drew_ ?_))))); have kT := k2.below bd2 l2; have y0 : wd.cell? ⟨w.heap.size, 0, none⟩ = some (.int .i64 id) := kT.cell 0; have y1 : wd.cell? ⟨w.heap.size, 1, none⟩ = some (.string tn) := kT.cell 1; have y2 : wd.cell? ⟨w.heap.size, 2, none⟩ = some (.slice A cols.length ca) := kT.cell 2; have y3 : wd.cell? ⟨w.heap.size, 3, none⟩ = some (.int .i64 keys) := kT.cell 3; have y4 : wd.cell? ⟨w.heap.size, 4, none⟩ = some (.slice B ixs.length cb) := kT.cell 4; skip))
    all_goals
      go_wp2_with fail
      go_meet
      case rel => first | exact ⟨rfl, bd2⟩ | exact ⟨rfl, bc2⟩
  case rest =>
    obtain ⟨rfl, bx⟩ := hcut
    have kx := k2.below bx l2
    have b03 := b02.trans (bx.mono b02.size)
    have sV3 := sV.below bx
    have sD3 := sD.below bx
    have hA3 := hA2.below bx
    have hB3 := hB2.below bx
    have hu3 := hu2.below bx
    have q0 : wc.cell? ⟨w.heap.size, 0, none⟩ = some (.int .i64 id) := kx.cell 0
    have q1 : wc.cell? ⟨w.heap.size, 1, none⟩ = some (.string tn) := kx.cell 1
    have q2 : wc.cell? ⟨w.heap.size, 2, none⟩ = some (.slice A cols.length ca) := kx.cell 2
    have q3 : wc.cell? ⟨w.heap.size, 3, none⟩ = some (.int .i64 keys) := kx.cell 3
    have q4 : wc.cell? ⟨w.heap.size, 4, none⟩ = some (.slice B ixs.length cb) := kx.cell 4
    clear k2 b02 sV sD hA2 hB2 hu2 bx l2
    by_cases hl : xs.length = cols.length
    · have d1 : ((xs.length : Int) == (cols.length : Int)) = true := by rw [hl]; simp
      by_cases h0 : 0 < xs.length
      · have d2 : (0 : Int) < (xs.length : Int) := by omega
        have HL := Lib.hid hl
        have H0 := Lib.hid h0
        clear hl h0
        go_wp2_with fail
        refine (rcheckT id keys tn cols ixs A B ca cb wc hA3.any hB3.any hn).mono ?_
        rintro en w4 ⟨rfl, b4⟩
        have b04 := b03.trans (b4.mono b03.size)
        by_cases hc : checkI id keys tn cols ixs = 0
        · have d3 : (checkI id keys tn cols ixs == 0) = true := by rw [hc]; rfl
          have HC := Lib.hid hc
          clear hc q0 q1 q2 q3 q4
          have sV4 := (sV3.below b4).old
          have sD4 := (sD3.below b4).old
          have hAl := sV4.leb
          have hDl := sD4.leb
          simp only [AnyE] at hAl
          simp only [CelE] at hDl
          obtain ⟨vsA, hrA, hfA⟩ := SlS.reads sV4
          have honeA := ER.flat_one hfA
          obtain ⟨i0, hi0, hz0, hz1, hz2⟩ := info_parts Tryd.infoAny
          obtain ⟨i1, hi1, hy0, hy1, hy2⟩ := info_parts Tryd.infoCell
          have hd : Below w4.heap.size w4 (w4.alloc (.cells #[] 20)) := (Below.refl _ _).alloc (Nat.le_refl _) _
          have hr1 := hrA.below hd
          have hown0 : (w4.alloc (.cells #[] 20)).ownsRow w4.heap.size 20 1 (.slice (some ⟨w4.heap.size, 0, none⟩) 0 0) 0 [] := own_emptyR (Blk.new _ _ _) (Nat.le_refl _)
          have m1 : 0 + xs.length ≤ maxLen := by simp only [maxLen]; omega
          have m2 : (0 + xs.length) * 16 ≤ 140737488355328 := by omega
          have m3 : (0 + xs.length) * 64 ≤ 140737488355328 := by omega
          go_upto_region 8 with (at_builtin; (refine wpList_append_sh _ rfl (.tmp 46) (.tmp 47) _ rfl w4.heap.size 20 i0 _ 1 16 Tryd.underlying28 hi0 hz0 hz1 hz2 rfl (by omega) (.slice (some ⟨w4.heap.size, 0, none⟩) 0 0) 0 [] rfl hown0 w4.heap.size V xs.length cv vsA rfl hr1 honeA m1 m2 hd.size ?_); intro A1 c1 w5 hown5 hg5 hat5; simp only [Nat.zero_add, List.nil_append] at hown5)
          have bb5 := hd.grown hg5 hd.size (fun j hj => by have h : w4.heap.size = j := Option.some.inj hj; omega)
          have oA5 : Own AnyE 20 w5 w4.heap.size (fun b => b < w4.heap.size) (.slice A1 xs.length c1) xs := ⟨vsA, hown5, ER.flat_keep bb5 (ER.flat_mono (fun _ _ h => ⟨h, fun e => by have := (hown5.lt _ e).1; omega⟩) hfA)⟩
          have sD5 := sD4.below bb5
          have kx5 := (kx.below b4 kx.lt).below bb5 (by have := kx.lt; have := b4.size; omega)
          have b05 := b04.trans (bb5.mono b04.size)
          have hA5 := (hA3.below b4).below bb5
          have hB5 := (hB3.below b4).below bb5
          have hu5 := (hu3.below b4).below bb5
          obtain ⟨g, rfl, hg1, hg2⟩ := oA5.form H0.out
          have hz4 : w.heap.size < w4.heap.size := by have h1 := kx.lt; have h2 := b4.size; omega
          have hz5 := bb5.size
          clear hA3 hB3 hu3 sV3 sD3 sV4 sD4 hrA hfA honeA hr1 hown0 hd hg5 hat5 hown5 bb5 b04 b03 b4 kx
          have sA5 : Sl AnyE w5 (some ⟨g, 0, none⟩) xs := oA5.sl (by simp only [AnyE]; omega)
          obtain ⟨ad0, v0, had, _, hc0, _⟩ := AnyE.at_ sA5 (k := 0) H0.out
          obtain rfl := Option.some.inj had
          rw [add_row] at hc0
          have hf0 := oA5.frozen 0
          have hHg : ¬ g = w.heap.size := by omega
          have d0x : (0 : Int) < (xs.length : Int) := by have := H0.out; omega
          have oA6 : Own AnyE 20 (w5.setCell ⟨g, 0, none⟩ (.iface 3 (.int .i64 (xs.length : Int)))) w4.heap.size (fun b => b < w4.heap.size) (.slice (some ⟨g, 0, none⟩) xs.length c1) (xs.set 0 (.other (xs.length : Int))) :=
            Own.turn (k := 0) (j := 0) oA5 H0.out (by decide) (fun v hv => by
              obtain ⟨u, rfl, _⟩ := hv
              exact ⟨_, rfl, rfl⟩)
          go_upto_region 9 with fail
          have sD6 := sD5.setCell (p := ⟨g, 0, none⟩) (by simp; omega) (.iface 3 (.int .i64 (xs.length : Int)))
          have hA6 := hA5.setCell (p := ⟨g, 0, none⟩) (by simp; omega) (.iface 3 (.int .i64 (xs.length : Int)))
          have hB6 := hB5.setCell (p := ⟨g, 0, none⟩) (by simp; omega) (.iface 3 (.int .i64 (xs.length : Int)))
          have kx6 := kx5.far (p := ⟨g, 0, none⟩) (by simp; omega) (.iface 3 (.int .i64 (xs.length : Int)))
          have b06 := b05.setCell (p := ⟨g, 0, none⟩) (by simp; omega) (.iface 3 (.int .i64 (xs.length : Int)))
          have hz6 : w5.heap.size ≤ (w5.setCell ⟨g, 0, none⟩ (.iface 3 (.int .i64 (xs.length : Int)))).heap.size := by simp [World.setCell]
          clear hc0 hf0 sA5 oA5 sD5 hA5 hB5 hu5 kx5 b05
          generalize (w5.setCell ⟨g, 0, none⟩ (.iface 3 (.int .i64 (xs.length : Int)))) = w6 at *
          obtain ⟨vsD, hrD, hfD⟩ := SlS.reads sD6
          have honeD := ER.flat_one hfD
          have hd : Below w6.heap.size w6 (w6.alloc (.cells #[] 42)) := (Below.refl _ _).alloc (Nat.le_refl _) _
          have hr1 := hrD.below hd
          have hown0 : (w6.alloc (.cells #[] 42)).ownsRow w6.heap.size 42 5 (.slice (some ⟨w6.heap.size, 0, none⟩) 0 0) 0 [] := own_emptyR (Blk.new _ _ _) (Nat.le_refl _)
          go_upto_region 10 with (at_builtin; (refine wpList_append_sh _ rfl (.tmp 54) (.tmp 55) _ rfl w6.heap.size 42 i1 _ 5 64 Tryd.underlying26 hi1 hy0 hy1 hy2 rfl (by omega) (.slice (some ⟨w6.heap.size, 0, none⟩) 0 0) 0 [] rfl hown0 w6.heap.size D xs.length cd vsD rfl hr1 honeD m1 m3 hd.size ?_); intro D1 c2 w7 hown7 hg7 hat7; simp only [Nat.zero_add, List.nil_append] at hown7)
          have bb7 := hd.grown hg7 hd.size (fun j hj => by have h : w6.heap.size = j := Option.some.inj hj; omega)
          have oD7 : Own CelE 42 w7 w6.heap.size (fun b => b < w4.heap.size) (.slice D1 xs.length c2) xs := ⟨vsD, hown7, ER.flat_keep bb7 (ER.flat_mono (fun _ _ h => ⟨h, fun e => by have := (hown7.lt _ e).1; omega⟩) hfD)⟩
          have oA7 := oA6.below bb7
          have hA7 := hA6.below bb7
          have hB7 := hB6.below bb7
          have kx7 := kx6.below bb7 kx6.lt
          have b07 := b06.trans (bb7.mono b06.size)
          obtain ⟨g2, rfl, hh1, hh2⟩ := oD7.form H0.out
          have hz7 := bb7.size
          clear sD6 hrD hfD honeD hr1 hown0 hd hg7 hat7 hown7 bb7 oA6 hA6 hB6 kx6 b06
          have sD7 : Sl CelE w7 (some ⟨g2, 0, none⟩) xs := oD7.sl (by simp only [CelE]; omega)
          obtain ⟨ad1, D9, c9, had1, _, e0, e1, e2, e3, e4, _, _⟩ := CelE.at5 sD7 (k := 0) H0.out
          obtain rfl := Option.some.inj had1
          rw [show (⟨g2, 0, none⟩ : Addr).add (0 * 5) = ⟨g2, 0, none⟩ by simp [Addr.add]] at e0 e1 e2 e3 e4
          simp only [Nat.zero_add] at e1 e2 e3 e4
          have hf0 := oD7.frozen 0
          have hf1 := oD7.frozen 1
          have hf2 := oD7.frozen 2
          have hf3 := oD7.frozen 3
          have hf4 := oD7.frozen 4
          have oD8 := Own.first5 (u0 := .int .i64 0) (u1 := .bool false) (u2 := .int .i64 0) (u3 := .string ⟨#[]⟩) (u4 := .slice none 0 0) (y := LVal.null) oD7 rfl H0.out ⟨none, 0, rfl, Bs.nil_ _ _, fun ad e _ => (by cases e), Nat.le_refl _, by decide, by decide⟩
          have ngg : (Value.slice (some ⟨g, 0, none⟩) xs.length c1).ownBlock ≠ some g2 := fun e => by have h : g = g2 := Option.some.inj e; omega
          have oA8 := (((((oA7).setCell (p := ⟨g2, 0, none⟩) ngg (by simp; omega) (.int .i64 0)).setCell (p := ⟨g2, 1, none⟩) ngg (by simp; omega) (.bool false)).setCell (p := ⟨g2, 2, none⟩) ngg (by simp; omega) (.int .i64 0)).setCell (p := ⟨g2, 3, none⟩) ngg (by simp; omega) (.string ⟨#[]⟩)).setCell (p := ⟨g2, 4, none⟩) ngg (by simp; omega) (.slice none 0 0)
          have hA8 := (((((hA7).setCell (p := ⟨g2, 0, none⟩) (by simp; omega) (.int .i64 0)).setCell (p := ⟨g2, 1, none⟩) (by simp; omega) (.bool false)).setCell (p := ⟨g2, 2, none⟩) (by simp; omega) (.int .i64 0)).setCell (p := ⟨g2, 3, none⟩) (by simp; omega) (.string ⟨#[]⟩)).setCell (p := ⟨g2, 4, none⟩) (by simp; omega) (.slice none 0 0)
          have hB8 := (((((hB7).setCell (p := ⟨g2, 0, none⟩) (by simp; omega) (.int .i64 0)).setCell (p := ⟨g2, 1, none⟩) (by simp; omega) (.bool false)).setCell (p := ⟨g2, 2, none⟩) (by simp; omega) (.int .i64 0)).setCell (p := ⟨g2, 3, none⟩) (by simp; omega) (.string ⟨#[]⟩)).setCell (p := ⟨g2, 4, none⟩) (by simp; omega) (.slice none 0 0)
          have kx8 := (((((kx7).far (p := ⟨g2, 0, none⟩) (by simp; omega) (.int .i64 0)).far (p := ⟨g2, 1, none⟩) (by simp; omega) (.bool false)).far (p := ⟨g2, 2, none⟩) (by simp; omega) (.int .i64 0)).far (p := ⟨g2, 3, none⟩) (by simp; omega) (.string ⟨#[]⟩)).far (p := ⟨g2, 4, none⟩) (by simp; omega) (.slice none 0 0)
          have b08 := (((((b07).setCell (p := ⟨g2, 0, none⟩) (by simp; omega) (.int .i64 0)).setCell (p := ⟨g2, 1, none⟩) (by simp; omega) (.bool false)).setCell (p := ⟨g2, 2, none⟩) (by simp; omega) (.int .i64 0)).setCell (p := ⟨g2, 3, none⟩) (by simp; omega) (.string ⟨#[]⟩)).setCell (p := ⟨g2, 4, none⟩) (by simp; omega) (.slice none 0 0)
          have hHg2 : ¬ g2 = w.heap.size := by omega
          go_upto_region 11 with fail
          clear e0 e1 e2 e3 e4 hf0 hf1 hf2 hf3 hf4 oD7 oA7 sD7 hA7 hB7 kx7 b07
          generalize (((((w7.setCell ⟨g2, 0, none⟩ (.int .i64 0)).setCell ⟨g2, 1, none⟩ (.bool false)).setCell ⟨g2, 2, none⟩ (.int .i64 0)).setCell ⟨g2, 3, none⟩ (.string ⟨#[]⟩)).setCell ⟨g2, 4, none⟩ (.slice none 0 0)) = W8 at *
          have sA8 : Sl AnyE W8 (some ⟨g, 0, none⟩) (xs.set 0 (.other (xs.length : Int))) := oA8.slN (by simp) (by simp [AnyE]; omega)
          have sD8 : Sl CelE W8 (some ⟨g2, 0, none⟩) (xs.set 0 .null) := oD8.slN (by simp) (by simp [CelE]; omega)
          have hu8 := hu.below b08
          have l8 := kx8.lt
          have HFF := Lib.hid (fits_first (n := (xs.length : Int)) HC.out HL.out H0.out HEX.out)
          obtain ⟨G, hG⟩ : ∃ G, fitsE id keys tn cols ixs (xs.set 0 (.other (xs.length : Int))) = G := ⟨_, rfl⟩
          have t3 : ∀ W, Below W8.heap.size W8 W → Calls Tryd.prog 19 #[.agg #[.int .i64 id, .string tn, .slice A cols.length ca, .int .i64 keys, .slice B ixs.length cb], .slice (some ⟨g, 0, none⟩) xs.length c1] W fun en w' => en = .returned (.int .i64 G) ∧ Below W.heap.size W w' := fun W hW => by
            have t := fits_any id keys tn cols ixs (xs.set 0 (.other (xs.length : Int))) A B (some ⟨g, 0, none⟩) ca cb c1 W (hA8.below hW).any (hB8.below hW).any (sA8.below hW) hn (hu8.below hW)
            rw [List.length_set, hG] at t
            exact t
          have t4 : ∀ W, Below W8.heap.size W8 W → Calls Tryd.prog 20 #[.agg #[.int .i64 id, .string tn, .slice A cols.length ca, .int .i64 keys, .slice B ixs.length cb], .slice (some ⟨g2, 0, none⟩) xs.length c2] W fun en w' => en = .returned (.int .i64 G) ∧ Below W.heap.size W w' := fun W hW => by
            have t := rfits_any id keys tn cols ixs (xs.set 0 .null) A B (some ⟨g2, 0, none⟩) ca cb c2 W (hA8.below hW).any (hB8.below hW).any (sD8.below hW) hn
            rw [List.length_set, ← HFF.out, hG] at t
            exact t
          have T3 := Lib.hid t3
          have T4 := Lib.hid t4
          have dG : (G != G) = false := by simp
          have y0 : W8.cell? ⟨w.heap.size, 0, none⟩ = some (.int .i64 id) := kx8.cell 0
          have y1 : W8.cell? ⟨w.heap.size, 1, none⟩ = some (.string tn) := kx8.cell 1
          have y2 : W8.cell? ⟨w.heap.size, 2, none⟩ = some (.slice A cols.length ca) := kx8.cell 2
          have y3 : W8.cell? ⟨w.heap.size, 3, none⟩ = some (.int .i64 keys) := kx8.cell 3
          have y4 : W8.cell? ⟨w.heap.size, 4, none⟩ = some (.slice B ixs.length cb) := kx8.cell 4
          clear t3 t4 hG oA8 oD8 sA8 sD8 hA8 hB8 hu8
          go_region_law
            (first
              | (go_simp; go_at_call 19; (with_reducible refine (T3.out _ ?_).mono ?_); (focus (repeat (first | (with_reducible exact ba2) | (with_reducible exact bb2) | (with_reducible exact bc2) | (with_reducible exact bd2) | (with_reducible exact Below.refl _ _) | (with_reducible refine Below.drew_ ?_)))); rintro en wc_ ⟨rfl, bc⟩; have bc2 : Below W8.heap.size W8 wc_ := (by refine Below.call2_ ?_ bc; (focus (repeat (first | (with_reducible exact ba2) | (with_reducible exact bb2) | (with_reducible exact bc2) | (with_reducible exact bd2) | (with_reducible exact Below.refl _ _) | (with_reducible refine Below.drew_ ?_))))); have kT := kx8.below bc2 l8; have y0 : wc_.cell? ⟨w.heap.size, 0, none⟩ = some (.int .i64 id) := kT.cell 0; have y1 : wc_.cell? ⟨w.heap.size, 1, none⟩ = some (.string tn) := kT.cell 1; have y2 : wc_.cell? ⟨w.heap.size, 2, none⟩ = some (.slice A cols.length ca) := kT.cell 2; have y3 : wc_.cell? ⟨w.heap.size, 3, none⟩ = some (.int .i64 keys) := kT.cell 3; have y4 : wc_.cell? ⟨w.heap.size, 4, none⟩ = some (.slice B ixs.length cb) := kT.cell 4; skip)
              | (go_simp; go_at_call 20; (with_reducible refine (T4.out _ ?_).mono ?_); (focus (repeat (first | (with_reducible exact ba2) | (with_reducible exact bb2) | (with_reducible exact bc2) | (with_reducible exact bd2) | (with_reducible exact Below.refl _ _) | (with_reducible refine Below.drew_ ?_)))); rintro en wd ⟨rfl, bd⟩; have bd2 : Below W8.heap.size W8 wd := (by refine Below.call2_ ?_ bd; (focus (repeat (first | (with_reducible exact ba2) | (with_reducible exact bb2) | (with_reducible exact bc2) | (with_reducible exact bd2) | (with_reducible exact Below.refl _ _) | (with_reducible refine Below.drew_ ?_))))); have kT := kx8.below bd2 l8; have y0 : wd.cell? ⟨w.heap.size, 0, none⟩ = some (.int .i64 id) := kT.cell 0; have y1 : wd.cell? ⟨w.heap.size, 1, none⟩ = some (.string tn) := kT.cell 1; have y2 : wd.cell? ⟨w.heap.size, 2, none⟩ = some (.slice A cols.length ca) := kT.cell 2; have y3 : wd.cell? ⟨w.heap.size, 3, none⟩ = some (.int .i64 keys) := kT.cell 3; have y4 : wd.cell? ⟨w.heap.size, 4, none⟩ = some (.slice B ixs.length cb) := kT.cell 4; skip))
          all_goals
            go_wp2_with fail
            go_ret
            first | exact ⟨rfl, b08.trans (bd2.mono b08.size)⟩ | exact ⟨rfl, b08.trans (bc2.mono b08.size)⟩
        · have d3 : (checkI id keys tn cols ixs == 0) = false := by rw [beq_eq_false_iff_ne]; exact hc
          clear hc q0 q1 q2 q3 q4
          go_wp2_with fail
          go_ret
          exact ⟨rfl, b04⟩
      · have d2 : ¬ (0 : Int) < (xs.length : Int) := by omega
        clear hl h0
        go_wp2_with fail
        go_ret
        exact ⟨rfl, b03⟩
    · have d1 : ((xs.length : Int) == (cols.length : Int)) = false := by rw [beq_eq_false_iff_ne]; omega
      clear hl
      go_wp2_with fail
      go_ret
      exact ⟨rfl, b03⟩
end Go.Proofs.YtfededjcadmpbaaDoor
