/- CatalogEntries: every table is known with its indexes' states, written and read back, and anything else is refused: the law's walk. -/
import Derived.Test.YtemidaamnldjmaaAwakeC
import Derived.Test.YtemidaamnldjmaaTold
import Derived.Test.YtemidaamnldjmaaSame
import Derived.Test.YtemidaamnldjmaaNew
import Derived.Test.YtemidaamnldjmaaEntry
import Derived.Test.YtemidaamnldjmaaRCat
import Derived.Test.YtemidaamnldjmaaEncE
import Derived.Test.YtemidaamnldjmaaDecE
import Derived.Test.YtemidaamnldjmaaEqR
import Derived.Test.YtemidaamnldjmaaCopy
namespace Go.Proofs.Ytemidaamnldjmaa
open Go.RowKit

theorem statesB_new (id : Int) : ∀ n, statesB id (List.replicate n ⟨0, []⟩) = true
  | 0 => rfl
  | n + 1 => by
    rw [List.replicate_succ]
    show (stB id ⟨0, []⟩ && (decide ((0 : Int) = 0) || decide ((List.replicate n (⟨0, []⟩ : LSt)).length = 0)) && statesB id (List.replicate n ⟨0, []⟩)) = true
    rw [statesB_new id n]
    rfl
theorem entryI_new {id keys : Int} {tn : ByteArray} {cols : List LCol} {ixs : List LIx} (h : checkI id keys tn cols ixs = 0) : entryI id keys tn cols ixs (List.replicate ixs.length ⟨0, []⟩) = 0 := by
  unfold entryI
  rw [if_neg (by rw [h]; decide), if_neg (by rw [List.length_replicate]; exact fun h => h rfl), if_neg (by rw [statesB_new]; decide)]
/-- a new entry's rows and the error, written out -/
def RetNewO (r : LEnt × Int) (w : World) (en : Ending) (w' : World) : Prop :=
  ∃ A B S ca cb cs, en = .returned (.tuple #[.agg #[.int .i64 r.1.tab.id, .string r.1.tab.name, .slice A r.1.tab.cols.length ca, .int .i64 r.1.tab.keys, .slice B r.1.tab.ixs.length cb, .slice S r.1.sts.length cs], .int .i64 r.2]) ∧
    Sl ColE w' A r.1.tab.cols ∧ Sl IxE w' B r.1.tab.ixs ∧ Sl StE w' S r.1.sts ∧ r.1.tab.name.size ≤ 140737488351232 ∧ Below w.heap.size w w'
theorem RetEnt.outN {r : LEnt × Int} {w w' : World} {en : Ending} (h : RetEnt r w en w') : RetNewO r w en w' := by
  obtain ⟨v, he, ⟨A, B, S, ca, cb, cs, rfl, h1, h2, h3, h4⟩, hb⟩ := h
  exact ⟨A, B, S, ca, cb, cs, he, h1, h2, h3, h4, hb⟩
theorem RetDecE.outN {r : LEnt × Int} {w w' : World} {en : Ending} (h : RetDecE r w en w') : RetNewO r w en w' := by
  obtain ⟨v, he, ⟨A, B, S, ca, cb, cs, rfl, h1, h2, h3, h4⟩, hb⟩ := h
  exact ⟨A, B, S, ca, cb, cs, he, h1, h2, h3, h4, hb⟩
set_option maxRecDepth 100000 in
set_option maxHeartbeats 8000000 in
theorem entlaw_any (id keys : Int) (tn : ByteArray) (cols : List LCol) (ixs : List LIx) (sts : List LSt) (nm : ByteArray) (l : List UInt8) (A B S D : Option Addr) (ca cb cs c : Nat) (w : World) (hA : Sl ColE w A cols) (hB : Sl IxE w B ixs) (hS : Sl StE w S sts) (hn : tn.size ≤ 140737488351232)
    (hnm : nm.size ≤ 1048576) (hD : Bs w D l) (hl : l.length ≤ 1048576) :
    Calls Try.prog 3 #[.agg #[.int .i64 id, .string tn, .slice A cols.length ca, .int .i64 keys, .slice B ixs.length cb, .slice S sts.length cs], .string nm, .slice D l.length c] w fun e w' => e = .returned (.bool true) ∧ Below w.heap.size w w' := by
  have b0 : Below w.heap.size w (w.alloc (.cells #[.int .i64 id, .string tn, .slice A cols.length ca, .int .i64 keys, .slice B ixs.length cb, .slice S sts.length cs] 28)) := (Below.refl _ _).alloc (Nat.le_refl _) _
  have k0 := Blk.new w 28 #[.int .i64 id, .string tn, .slice A cols.length ca, .int .i64 keys, .slice B ixs.length cb, .slice S sts.length cs]
  have trc : ∀ W, Below w.heap.size w W → Calls Try.prog 6 #[.agg #[.int .i64 id, .string tn, .slice A cols.length ca, .int .i64 keys, .slice B ixs.length cb]] W fun e w' => e = .returned (.int .i64 (checkI id keys tn cols ixs)) ∧ Below W.heap.size W w' := fun W h => rcheck_any id keys tn A B ca cb cols ixs W (SlS.cols (hA.below h)) (SlS.ixs (hB.below h)) hn (SlS.cnames hA) (SlS.xnames hB)
  have tre : ∀ W, Below w.heap.size w W → Calls Try.prog 9 #[.agg #[.int .i64 id, .string tn, .slice A cols.length ca, .int .i64 keys, .slice B ixs.length cb, .slice S sts.length cs]] W fun e w' => e = .returned (.int .i64 (entryI id keys tn cols ixs sts)) ∧ Below W.heap.size W w' := fun W h => recheck_any id keys tn A B S ca cb cs cols ixs sts W (SlS.cols (hA.below h)) (SlS.ixs (hB.below h)) (hS.below h) hn (SlS.cnames hA) (SlS.xnames hB)
  have ten : ∀ W, Below w.heap.size w W → Calls Try.prog 8 #[.agg #[.int .i64 id, .string tn, .slice A cols.length ca, .int .i64 keys, .slice B ixs.length cb, .slice S sts.length cs]] W (RetEntry id keys tn cols ixs sts W) := fun W h => entry_any id keys tn A B S ca cb cs cols ixs sts W (hA.below h) (hB.below h) (hS.below h)
  have tnw : ∀ W, Below w.heap.size w W → Calls Try.prog 5 #[.agg #[.int .i64 id, .string tn, .slice A cols.length ca, .int .i64 keys, .slice B ixs.length cb]] W (RetNewO (newE ⟨id, keys, tn, cols, ixs⟩) W) := fun W h => (new_any id keys tn cols ixs A B ca cb W (hA.below h) (hB.below h) hn).mono fun _ _ h => h.outN
  have TRC := Lib.hid trc
  have TRE := Lib.hid tre
  have TEN := Lib.hid ten
  have TNW := Lib.hid tnw
  have ks : ∀ W, Blk W w.heap.size 28 #[.int .i64 id, .string tn, .slice A cols.length ca, .int .i64 keys, .slice B ixs.length cb, .slice S sts.length cs] → W.cell? ⟨w.heap.size, 0, none⟩ = some (.int .i64 id) ∧ W.cell? ⟨w.heap.size, 1, none⟩ = some (.string tn) ∧ W.cell? ⟨w.heap.size, 2, none⟩ = some (.slice A cols.length ca) ∧ W.cell? ⟨w.heap.size, 3, none⟩ = some (.int .i64 keys) ∧ W.cell? ⟨w.heap.size, 4, none⟩ = some (.slice B ixs.length cb) ∧ W.cell? ⟨w.heap.size, 5, none⟩ = some (.slice S sts.length cs) := fun W h => ⟨h.cell 0, h.cell 1, h.cell 2, h.cell 3, h.cell 4, h.cell 5⟩
  have KS := Lib.hid ks
  clear trc tre ten tnw ks
  go_enter Try.func3, Try.ntmps3
  go_wp2_with fail
  generalize (w.alloc (.cells #[.int .i64 id, .string tn, .slice A cols.length ca, .int .i64 keys, .slice B ixs.length cb, .slice S sts.length cs] 28)) = W0 at *
  refine (awake_any _).mono ?_
  rintro en w1 ⟨rfl, b1⟩
  have k1 := k0.below b1 k0.lt
  have b01 := b0.trans (b1.mono b0.size)
  clear b0 b1 k0
  obtain ⟨y0, y1, y2, y3, y4, y5⟩ := KS.out _ k1
  go_wp2_with fail
  have T := TNW.out w1 b01
  obtain ⟨⟨⟨⟨id2, keys2, tn2, cols2, ixs2⟩, sts2⟩, F⟩, hr⟩ : ∃ r, newE ⟨id, keys, tn, cols, ixs⟩ = r := ⟨_, rfl⟩
  have HR1 : Hid (checkI id keys tn cols ixs = 0 → (((⟨⟨id2, keys2, tn2, cols2, ixs2⟩, sts2⟩ : LEnt), F)) = (⟨⟨id, keys, tn, cols, ixs⟩, List.replicate ixs.length ⟨0, []⟩⟩, 0)) := fun h => by rw [← hr]; unfold newE; exact if_neg (fun h2 => h2 h)
  have hF : F = checkI id keys tn cols ixs := by
    show (((⟨⟨id2, keys2, tn2, cols2, ixs2⟩, sts2⟩ : LEnt), F)).2 = _
    rw [← hr]
    unfold newE
    by_cases h : LTab.check ⟨id, keys, tn, cols, ixs⟩ ≠ 0
    · rw [if_pos h]; rfl
    · rw [if_neg h]; exact (Classical.byContradiction fun h3 => h (fun h4 => h3 h4.symm))
  rw [hr] at T
  clear hr TNW
  subst hF
  obtain ⟨EI, hEI⟩ : ∃ EI, entryI id keys tn cols ixs sts = EI := ⟨_, rfl⟩
  have HEI := Lib.hid hEI
  have HCN := Lib.hid (@entryI_new id keys tn cols ixs)
  have TRE2 : Hid (∀ W, Below w.heap.size w W → Calls Try.prog 9 #[.agg #[.int .i64 id, .string tn, .slice A cols.length ca, .int .i64 keys, .slice B ixs.length cb, .slice S sts.length cs]] W fun e w' => e = .returned (.int .i64 EI) ∧ Below W.heap.size W w') := by rw [← hEI]; exact TRE.out
  clear hEI TRE
  generalize checkI id keys tn cols ixs = CK at *
  refine T.mono ?_
  clear T
  rintro en w2 ⟨A2, B2, S2, ca2, cb2, cs2, rfl, hA2, hB2, hS2, hn2, b2⟩
  have k2 := k1.below b2 k1.lt
  have b02 := b01.trans (b2.mono b01.size)
  have dY : Below w2.heap.size w2 (w2.alloc (.cells #[.int .i64 id2, .string tn2, .slice A2 cols2.length ca2, .int .i64 keys2, .slice B2 ixs2.length cb2, .slice S2 sts2.length cs2] 33)) := (Below.refl _ _).alloc (Nat.le_refl _) _
  have kn := Blk.new w2 33 #[.int .i64 id2, .string tn2, .slice A2 cols2.length ca2, .int .i64 keys2, .slice B2 ixs2.length cb2, .slice S2 sts2.length cs2]
  have kY := k2.below dY k2.lt
  have bY := b02.trans (dY.mono b02.size)
  have hAn := hA2.below dY
  have hBn := hB2.below dY
  have hSn := hS2.below dY
  clear hA2 hB2 hS2 dY k2 k1 b2 b02 b01 y0 y1 y2 y3 y4 y5
  go_upto_region 4 with fail
  generalize (w2.alloc (.cells #[.int .i64 id2, .string tn2, .slice A2 cols2.length ca2, .int .i64 keys2, .slice B2 ixs2.length cb2, .slice S2 sts2.length cs2] 33)) = Y at *
  have zY := bY.size
  go_cut [32] (fun s wx => s = .bool false ∧ Below Y.heap.size Y wx)
  case first =>
    have ks1 : ∀ W, Below Y.heap.size Y W → W.cell? ⟨w.heap.size, 0, none⟩ = some (.int .i64 id) ∧ W.cell? ⟨w.heap.size, 1, none⟩ = some (.string tn) ∧ W.cell? ⟨w.heap.size, 2, none⟩ = some (.slice A cols.length ca) ∧ W.cell? ⟨w.heap.size, 3, none⟩ = some (.int .i64 keys) ∧ W.cell? ⟨w.heap.size, 4, none⟩ = some (.slice B ixs.length cb) ∧ W.cell? ⟨w.heap.size, 5, none⟩ = some (.slice S sts.length cs) := fun W h => KS.out W (kY.below h kY.lt)
    have t1 : ∀ W, Below Y.heap.size Y W → Calls Try.prog 6 #[.agg #[.int .i64 id, .string tn, .slice A cols.length ca, .int .i64 keys, .slice B ixs.length cb]] W fun e w' => e = .returned (.int .i64 CK) ∧ Below W.heap.size W w' := fun W h => TRC.out W (bY.trans (h.mono zY))
    have t2 : ∀ W, Below Y.heap.size Y W → Calls Try.prog 8 #[.agg #[.int .i64 id, .string tn, .slice A cols.length ca, .int .i64 keys, .slice B ixs.length cb, .slice S sts.length cs]] W (RetEntry id keys tn cols ixs sts W) := fun W h => TEN.out W (bY.trans (h.mono zY))
    have t3 : ∀ W, Below Y.heap.size Y W → Calls Try.prog 9 #[.agg #[.int .i64 id, .string tn, .slice A cols.length ca, .int .i64 keys, .slice B ixs.length cb, .slice S sts.length cs]] W fun e w' => e = .returned (.int .i64 EI) ∧ Below W.heap.size W w' := fun W h => TRE2.out W (bY.trans (h.mono zY))
    have t4 : ∀ W A B S ca cb cs, Sl ColE W A cols → Sl IxE W B ixs → Sl StE W S sts → Calls Try.prog 7 #[.agg #[.int .i64 id, .string tn, .slice A cols.length ca, .int .i64 keys, .slice B ixs.length cb, .slice S sts.length cs]] W fun e w' => e = .returned (.int .i64 EI) ∧ Below W.heap.size W w' := fun W A B S ca cb cs h1 h2 h3 => by
      have t := echeck_any id keys tn A B S ca cb cs cols ixs sts W (SlS.cols h1) (SlS.ixs h2) h3 hn (SlS.cnames h1) (SlS.xnames h2)
      rw [HEI.out] at t
      exact t
    have KS1 := Lib.hid ks1
    have T1 := Lib.hid t1
    have T2 := Lib.hid t2
    have T3 := Lib.hid t3
    have T4 := Lib.hid t4
    have dck : (CK != CK) = false := bne_self_eq_false CK
    have dei : (EI != EI) = false := bne_self_eq_false EI
    clear ks1 t1 t2 t3 t4 KS TRC TEN TRE2 kY kn hAn hBn hSn hA hB hS hD bY
    go_region_held3 (fun W : World => W.cell? ⟨w.heap.size, 0, none⟩ = some (.int .i64 id) ∧ W.cell? ⟨w.heap.size, 1, none⟩ = some (.string tn) ∧ W.cell? ⟨w.heap.size, 2, none⟩ = some (.slice A cols.length ca) ∧ W.cell? ⟨w.heap.size, 3, none⟩ = some (.int .i64 keys) ∧ W.cell? ⟨w.heap.size, 4, none⟩ = some (.slice B ixs.length cb) ∧ W.cell? ⟨w.heap.size, 5, none⟩ = some (.slice S sts.length cs)) (with_reducible refine KS1.out _ ?_; (focus (repeat (first | (with_reducible exact bq) | (with_reducible exact Below.refl _ _) | (with_reducible refine Below.drew_ ?_) | (with_reducible refine Below.alloc_ ?_ _))))) (first
      | (go_at_call 6; (with_reducible refine (T1.out _ ?_).mono ?_); (focus (repeat (first | (with_reducible exact bq) | (with_reducible exact Below.refl _ _) | (with_reducible refine Below.drew_ ?_) | (with_reducible refine Below.alloc_ ?_ _)))); rintro en wz ⟨rfl, bz⟩; have bq : Below Y.heap.size Y wz := (by refine Below.call_ ?_ bz; (focus (repeat (first | (with_reducible exact bq) | (with_reducible exact Below.refl _ _) | (with_reducible refine Below.drew_ ?_) | (with_reducible refine Below.alloc_ ?_ _))))))
      | (go_at_call 8; (with_reducible refine (T2.out _ ?_).mono ?_); (focus (repeat (first | (with_reducible exact bq) | (with_reducible exact Below.refl _ _) | (with_reducible refine Below.drew_ ?_) | (with_reducible refine Below.alloc_ ?_ _)))); rintro en wz ⟨A5, B5, S5, ca5, cb5, cs5, rfl, hA5, hB5, hS5, bz⟩; have bq : Below Y.heap.size Y wz := (by refine Below.call_ ?_ bz; (focus (repeat (first | (with_reducible exact bq) | (with_reducible exact Below.refl _ _) | (with_reducible refine Below.drew_ ?_) | (with_reducible refine Below.alloc_ ?_ _))))))
      | (go_at_call 7; (with_reducible refine (T4.out _ _ _ _ _ _ _ hA5.any hB5.any hS5.any).mono ?_); rintro en wz ⟨rfl, bz⟩; have bq : Below Y.heap.size Y wz := (by refine Below.call_ ?_ bz; (focus (repeat (first | (with_reducible exact bq) | (with_reducible exact Below.refl _ _) | (with_reducible refine Below.drew_ ?_) | (with_reducible refine Below.alloc_ ?_ _))))))
      | (go_at_call 9; (with_reducible refine (T3.out _ ?_).mono ?_); (focus (repeat (first | (with_reducible exact bq) | (with_reducible exact Below.refl _ _) | (with_reducible refine Below.drew_ ?_) | (with_reducible refine Below.alloc_ ?_ _)))); rintro en wz ⟨rfl, bz⟩; have bq : Below Y.heap.size Y wz := (by refine Below.call_ ?_ bz; (focus (repeat (first | (with_reducible exact bq) | (with_reducible exact Below.refl _ _) | (with_reducible refine Below.drew_ ?_) | (with_reducible refine Below.alloc_ ?_ _)))))))
    all_goals
      go_wp2_with fail
      go_meet
      case rel => exact ⟨rfl, bq⟩
  case rest =>
    obtain ⟨rfl, bc⟩ := hcut
    generalize wc = w3 at *
    have k3 := kY.below bc kY.lt
    have kn3 := kn.below bc kn.lt
    have b3 := bY.trans (bc.mono zY)
    have hA3 := hAn.below bc
    have hB3 := hBn.below bc
    have hS3 := hSn.below bc
    have z3 := b3.size
    clear kY kn bY hAn hBn hSn bc zY
    go_upto_region 6 with fail
    go_cut [57] (fun s wx => s = .bool false ∧ Below w3.heap.size w3 wx)
    case first =>
      by_cases hck : CK = 0
      · have he := HR1.out hck
        have hei := HCN.out hck
        obtain ⟨rfl, rfl, rfl, rfl, rfl, rfl⟩ : id2 = id ∧ keys2 = keys ∧ tn2 = tn ∧ cols2 = cols ∧ ixs2 = ixs ∧ sts2 = List.replicate ixs.length ⟨0, []⟩ := by
          injection he with he _
          injection he with he h6
          injection he with h1 h2 h3 h4 h5
          exact ⟨h1, h2, h3, h4, h5, h6⟩
        have hst : (List.replicate ixs2.length (⟨0, []⟩ : LSt)).length = ixs2.length := List.length_replicate
        have dlen : (((List.replicate ixs2.length (⟨0, []⟩ : LSt)).length : Int) != (ixs2.length : Int)) = false := by rw [hst]; exact bne_self_eq_false _
        have d0 : (CK == 0) = true := by rw [hck]; rfl
        obtain ⟨y0, y1, y2, y3, y4, y5⟩ := KS.out _ k3
        have x0 : w3.cell? ⟨w2.heap.size, 0, none⟩ = some (.int .i64 id2) := kn3.cell 0
        have x1 : w3.cell? ⟨w2.heap.size, 1, none⟩ = some (.string tn2) := kn3.cell 1
        have x2 : w3.cell? ⟨w2.heap.size, 2, none⟩ = some (.slice A2 cols2.length ca2) := kn3.cell 2
        have x3 : w3.cell? ⟨w2.heap.size, 3, none⟩ = some (.int .i64 keys2) := kn3.cell 3
        have x4 : w3.cell? ⟨w2.heap.size, 4, none⟩ = some (.slice B2 ixs2.length cb2) := kn3.cell 4
        have T := sametable_any id2 keys2 tn2 A2 B2 A B ca2 cb2 ca cb cols2 ixs2 w3 hA3 hB3 (hA.below b3) (hB.below b3)
        have T2 := echeck_any id2 keys2 tn2 A2 B2 S2 ca2 cb2 cs2 cols2 ixs2 (List.replicate ixs2.length ⟨0, []⟩)
        have HS3 := Lib.hid hS3
        clear he hst hck hS3
        go_wp2_with fail
        refine T.mono ?_
        clear T
        rintro en w5 ⟨rfl, b5⟩
        have k5 := k3.below b5 k3.lt
        have kn5 := kn3.below b5 kn3.lt
        clear y0 y1 y2 y3 y4 y5 x0 x1 x2 x3 x4
        obtain ⟨-, -, -, -, y4, -⟩ := KS.out _ k5
        have x0 : w5.cell? ⟨w2.heap.size, 0, none⟩ = some (.int .i64 id2) := kn5.cell 0
        have x1 : w5.cell? ⟨w2.heap.size, 1, none⟩ = some (.string tn2) := kn5.cell 1
        have x2 : w5.cell? ⟨w2.heap.size, 2, none⟩ = some (.slice A2 cols2.length ca2) := kn5.cell 2
        have x3 : w5.cell? ⟨w2.heap.size, 3, none⟩ = some (.int .i64 keys2) := kn5.cell 3
        have x4 : w5.cell? ⟨w2.heap.size, 4, none⟩ = some (.slice B2 ixs2.length cb2) := kn5.cell 4
        have x5 : w5.cell? ⟨w2.heap.size, 5, none⟩ = some (.slice S2 (List.replicate ixs2.length (⟨0, []⟩ : LSt)).length cs2) := kn5.cell 5
        have T3 := T2 w5 (SlS.cols (hA3.below b5)) (SlS.ixs (hB3.below b5)) (HS3.out.below b5) hn2 (SlS.cnames hA3) (SlS.xnames hB3)
        rw [hei] at T3
        clear hei T2
        generalize List.replicate ixs2.length (⟨0, []⟩ : LSt) = NS at *
        go_wp2_with fail
        refine T3.mono ?_
        clear T3
        rintro en w6 ⟨rfl, b6⟩
        go_wp2_with fail
        go_meet
        case rel => exact ⟨rfl, b5.trans (b6.mono b5.size)⟩
      · have d0 : (CK == 0) = false := by rw [beq_eq_false_iff_ne]; exact hck
        go_wp2_with fail
        go_meet
        case rel => exact ⟨rfl, Below.refl _ _⟩
    case rest =>
      obtain ⟨rfl, bc⟩ := hcut
      generalize wc = w4 at *
      have k4 := k3.below bc k3.lt
      have b4 := b3.trans (bc.mono z3)
      clear k3 kn3 b3 hA3 hB3 hS3 bc z3 HR1 HCN hn2
      obtain ⟨y0, y1, y2, y3, y4, y5⟩ := KS.out _ k4
      go_wp2_with fail
      refine (TRE2.out _ b4).mono ?_
      rintro en w5 ⟨rfl, b5⟩
      have k5 := k4.below b5 k4.lt
      have b05 := b4.trans (b5.mono b4.size)
      clear k4 b4 b5 y0 y1 y2 y3 y4 y5
      have HG : Hid ((EI == 0) = true → LEnt.check ⟨⟨id, keys, tn, cols, ixs⟩, sts⟩ = 0) := fun h => by
        show entryI id keys tn cols ixs sts = 0
        rw [HEI.out]
        exact beq_iff_eq.1 h
      go_upto_if 60 with fail
      generalize (EI == 0) = gb at *
      have z5 := b05.size
      go_cut [60] (fun _ wx => Below w5.heap.size w5 wx)
      case first =>
        cases gb with
        | false =>
          go_wp2_with fail
          go_meet
          case rel => exact Below.refl _ _
        | true =>
          have hchk := HG.out rfl
          obtain ⟨hok, hlen⟩ := wrE_ok hchk
          have hes := entry_states hchk
          have hst := statesB_all hes.2.2
          obtain ⟨y0, y1, y2, y3, y4, y5⟩ := KS.out _ k5
          have t2 : ∀ W A B S ca cb cs, Sl ColE W A cols → Sl IxE W B ixs → Sl StE W S sts → Calls Try.prog 12 #[.agg #[.int .i64 id, .string tn, .slice A cols.length ca, .int .i64 keys, .slice B ixs.length cb, .slice S sts.length cs]] W (RetEncE (encL (wrE ⟨⟨id, keys, tn, cols, ixs⟩, sts⟩)) W) := fun W A B S ca cb cs h1 h2 h3 => encE_any id keys tn cols ixs sts A B S ca cb cs W h1 h2 h3 (check_ok hes.1) hes.2.1 hok hlen (fun s hs => (hst s hs).2.2)
          have hel := encL_le (fun x hx => (hok x hx).1) hlen
          have hdw := decE_wr hchk
          have t3 : ∀ W D d, OwnB w5.heap.size W D (encL (wrE ⟨⟨id, keys, tn, cols, ixs⟩, sts⟩)) d → Calls Try.prog 11 #[.slice D (encL (wrE ⟨⟨id, keys, tn, cols, ixs⟩, sts⟩)).length d] W (RetNewO (⟨⟨id, keys, tn, cols, ixs⟩, sts⟩, 0) W) := fun W D d o => by
            rw [← hdw]
            exact (decE_any D _ d W (OwnB.bs o (by omega)) (OwnB.caps o) (by omega)).mono fun _ _ h => h.outN
          have T2 := Lib.hid t2
          have T3 := Lib.hid t3
          clear t2 t3 hdw hel hst hes hok hlen hchk HG
          generalize encL (wrE ⟨⟨id, keys, tn, cols, ixs⟩, sts⟩) = EB at *
          go_wp2_with fail
          refine (TEN.out _ b05).mono ?_
          rintro en w6 ⟨A6, B6, S6, ca6, cb6, cs6, rfl, hA6, hB6, hS6, b6⟩
          clear y0 y1 y2 y3 y4 y5
          have k6 := k5.below b6 k5.lt
          have z6 := b6.size
          go_wp2_with fail
          refine (T2.out w6 A6 B6 S6 ca6 cb6 cs6 hA6.any hB6.any hS6.any).mono ?_
          rintro en w7 ⟨D7, d7, rfl, o7, b7⟩
          have k7 := k6.below b7 k6.lt
          have b57 := b6.trans (b7.mono z6)
          clear hA6 hB6 hS6 k6 b6 T2
          go_wp2_with fail
          refine (T3.out w7 D7 d7 (o7.base z6)).mono ?_
          rintro en w8 ⟨A8, B8, S8, ca8, cb8, cs8, rfl, hA8, hB8, hS8, hn8, b8⟩
          have k8 := k7.below b8 k7.lt
          have b58 := b57.trans (b8.mono b57.size)
          clear T3 k7 o7 b7 b57 b8
          replace hA8 : Sl ColE w8 A8 cols := hA8
          replace hB8 : Sl IxE w8 B8 ixs := hB8
          replace hS8 : Sl StE w8 S8 sts := hS8
          have dX : Below w8.heap.size w8 (w8.alloc (.cells #[.int .i64 id, .string tn, .slice A8 cols.length ca8, .int .i64 keys, .slice B8 ixs.length cb8, .slice S8 sts.length cs8] 33)) := (Below.refl _ _).alloc (Nat.le_refl _) _
          have kb := Blk.new w8 33 #[.int .i64 id, .string tn, .slice A8 cols.length ca8, .int .i64 keys, .slice B8 ixs.length cb8, .slice S8 sts.length cs8]
          have kX := k8.below dX k8.lt
          have bX := b58.trans (dX.mono b58.size)
          have hAX := hA8.below dX
          have hBX := hB8.below dX
          have hSX := hS8.below dX
          have hA0 := hA.below (b05.trans (bX.mono z5))
          have hB0 := hB.below (b05.trans (bX.mono z5))
          have hS0 := hS.below (b05.trans (bX.mono z5))
          clear hA8 hB8 hS8 k8 b58 dX
          go_upto_region 10 with fail
          generalize (w8.alloc (.cells #[.int .i64 id, .string tn, .slice A8 cols.length ca8, .int .i64 keys, .slice B8 ixs.length cb8, .slice S8 sts.length cs8] 33)) = X at *
          have ks1 : ∀ W, Below X.heap.size X W → (W.cell? ⟨w.heap.size, 0, none⟩ = some (.int .i64 id) ∧ W.cell? ⟨w.heap.size, 1, none⟩ = some (.string tn) ∧ W.cell? ⟨w.heap.size, 2, none⟩ = some (.slice A cols.length ca) ∧ W.cell? ⟨w.heap.size, 3, none⟩ = some (.int .i64 keys) ∧ W.cell? ⟨w.heap.size, 4, none⟩ = some (.slice B ixs.length cb) ∧ W.cell? ⟨w.heap.size, 5, none⟩ = some (.slice S sts.length cs)) ∧ (W.cell? ⟨w8.heap.size, 0, none⟩ = some (.int .i64 id) ∧ W.cell? ⟨w8.heap.size, 1, none⟩ = some (.string tn) ∧ W.cell? ⟨w8.heap.size, 2, none⟩ = some (.slice A8 cols.length ca8) ∧ W.cell? ⟨w8.heap.size, 3, none⟩ = some (.int .i64 keys) ∧ W.cell? ⟨w8.heap.size, 4, none⟩ = some (.slice B8 ixs.length cb8) ∧ W.cell? ⟨w8.heap.size, 5, none⟩ = some (.slice S8 sts.length cs8)) := fun W h => ⟨KS.out W (kX.below h kX.lt), (kb.below h kb.lt).cell 0, (kb.below h kb.lt).cell 1, (kb.below h kb.lt).cell 2, (kb.below h kb.lt).cell 3, (kb.below h kb.lt).cell 4, (kb.below h kb.lt).cell 5⟩
          have t1 : ∀ W, Below X.heap.size X W → Calls Try.prog 14 #[.agg #[.int .i64 id, .string tn, .slice A8 cols.length ca8, .int .i64 keys, .slice B8 ixs.length cb8, .slice S8 sts.length cs8]] W (RetTold id keys tn A8 B8 ca8 cb8 cols ixs sts W) := fun W h => told_any id keys tn A8 B8 S8 ca8 cb8 cs8 cols ixs sts W (hSX.below h)
          have t2 : ∀ W S9 c9, Below X.heap.size X W → Sl StE W S9 sts → Calls Try.prog 13 #[.agg #[.int .i64 id, .string tn, .slice A8 cols.length ca8, .int .i64 keys, .slice B8 ixs.length cb8, .slice S9 sts.length c9], .agg #[.int .i64 id, .string tn, .slice A cols.length ca, .int .i64 keys, .slice B ixs.length cb, .slice S sts.length cs]] W fun e w' => e = .returned (.bool true) ∧ Below W.heap.size W w' := fun W S9 c9 h hs => same_any id keys tn A8 B8 S9 A B S ca8 cb8 c9 ca cb cs cols ixs sts W (hAX.below h) (hBX.below h) hs (hA0.below h) (hB0.below h) (hS0.below h)
          have KS1 := Lib.hid ks1
          have T1 := Lib.hid t1
          have T2 := Lib.hid t2
          clear ks1 t1 t2 hAX hBX hSX hA0 hB0 hS0 kX kb KS TRC TEN TRE2 HEI hA hB hS hD b05 k5
          go_region_held3 (fun W : World => (W.cell? ⟨w.heap.size, 0, none⟩ = some (.int .i64 id) ∧ W.cell? ⟨w.heap.size, 1, none⟩ = some (.string tn) ∧ W.cell? ⟨w.heap.size, 2, none⟩ = some (.slice A cols.length ca) ∧ W.cell? ⟨w.heap.size, 3, none⟩ = some (.int .i64 keys) ∧ W.cell? ⟨w.heap.size, 4, none⟩ = some (.slice B ixs.length cb) ∧ W.cell? ⟨w.heap.size, 5, none⟩ = some (.slice S sts.length cs)) ∧ (W.cell? ⟨w8.heap.size, 0, none⟩ = some (.int .i64 id) ∧ W.cell? ⟨w8.heap.size, 1, none⟩ = some (.string tn) ∧ W.cell? ⟨w8.heap.size, 2, none⟩ = some (.slice A8 cols.length ca8) ∧ W.cell? ⟨w8.heap.size, 3, none⟩ = some (.int .i64 keys) ∧ W.cell? ⟨w8.heap.size, 4, none⟩ = some (.slice B8 ixs.length cb8) ∧ W.cell? ⟨w8.heap.size, 5, none⟩ = some (.slice S8 sts.length cs8))) (with_reducible refine KS1.out _ ?_; (focus (repeat (first | (with_reducible exact bq) | (with_reducible exact Below.refl _ _) | (with_reducible refine Below.drew_ ?_) | (with_reducible refine Below.alloc_ ?_ _))))) (first
            | (go_at_call 14; (with_reducible refine (T1.out _ ?_).mono ?_); (focus (repeat (first | (with_reducible exact bq) | (with_reducible exact Below.refl _ _) | (with_reducible refine Below.drew_ ?_) | (with_reducible refine Below.alloc_ ?_ _)))); rintro en wz ⟨S9, c9, rfl, hS9, bz⟩; have bq : Below X.heap.size X wz := (by refine Below.call_ ?_ bz; (focus (repeat (first | (with_reducible exact bq) | (with_reducible exact Below.refl _ _) | (with_reducible refine Below.drew_ ?_) | (with_reducible refine Below.alloc_ ?_ _))))))
            | (go_at_call 13; (with_reducible refine (T2.out _ _ _ ?_ hS9).mono ?_); (focus (repeat (first | (with_reducible exact bq) | (with_reducible exact Below.refl _ _) | (with_reducible refine Below.drew_ ?_) | (with_reducible refine Below.alloc_ ?_ _)))); rintro en wz ⟨rfl, bz⟩; have bq : Below X.heap.size X wz := (by refine Below.call_ ?_ bz; (focus (repeat (first | (with_reducible exact bq) | (with_reducible exact Below.refl _ _) | (with_reducible refine Below.drew_ ?_) | (with_reducible refine Below.alloc_ ?_ _)))))))
          all_goals
            go_wp2_with fail
            go_meet
            case rel => exact bX.trans (bq.mono bX.size)
      case rest =>
        have bc := hcut
        generalize wc = w6 at *
        have b6 := b05.trans (bc.mono z5)
        have hD6 := hD.below b6
        have z6 := b6.size
        clear k5 b05 bc z5 HG HEI KS TRC TEN TRE2 hA hB hS hD
        go_wp2_with fail
        refine (copy_any D l c w6 hD6).mono ?_
        rintro en w7 ⟨D7, d7, rfl, o7, b7⟩
        have b07 := b6.trans (b7.mono z6)
        clear hD6 b7 b6
        have T := (decE_any D7 l d7 w7 (Bs.of_own o7 (by omega)) (own_caps o7) (by omega)).mono fun _ _ h => h.outN
        have HE1 := Lib.hid (@decE_good l)
        have HE2 := Lib.hid (@decE_bad l)
        generalize decE l = r at *
        obtain ⟨⟨⟨ix, kx, tx, colx, ixx⟩, stx⟩, F⟩ := r
        go_wp2_with fail
        refine T.mono ?_
        clear T
        rintro en w8 ⟨A8, B8, S8, ca8, cb8, cs8, rfl, hA8, hB8, hS8, hn8, b8⟩
        replace hA8 : Sl ColE w8 A8 colx := hA8
        replace hB8 : Sl IxE w8 B8 ixx := hB8
        replace hS8 : Sl StE w8 S8 stx := hS8
        replace hn8 : tx.size ≤ 140737488351232 := hn8
        have b08 := b07.trans (b8.mono b07.size)
        clear o7 b8 b07
        have dX : Below w8.heap.size w8 (w8.alloc (.cells #[.int .i64 ix, .string tx, .slice A8 colx.length ca8, .int .i64 kx, .slice B8 ixx.length cb8, .slice S8 stx.length cs8] 33)) := (Below.refl _ _).alloc (Nat.le_refl _) _
        have kb := Blk.new w8 33 #[.int .i64 ix, .string tx, .slice A8 colx.length ca8, .int .i64 kx, .slice B8 ixx.length cb8, .slice S8 stx.length cs8]
        have bX := b08.trans (dX.mono b08.size)
        have hAX := hA8.below dX
        have hBX := hB8.below dX
        have hSX := hS8.below dX
        clear hA8 hB8 hS8 b08 dX
        go_upto_region 13 with fail
        generalize (w8.alloc (.cells #[.int .i64 ix, .string tx, .slice A8 colx.length ca8, .int .i64 kx, .slice B8 ixx.length cb8, .slice S8 stx.length cs8] 33)) = X at *
        have zX := bX.size
        go_cut [108] (fun s wx => s = .bool false ∧ Below X.heap.size X wx)
        case first =>
          by_cases hF : F = 0
          · subst hF
            have hchk : entryI ix kx tx colx ixx stx = 0 := HE1.out rfl
            have t1 := told_any ix kx tx A8 B8 S8 ca8 cb8 cs8 colx ixx stx X hSX
            have t2 : ∀ W S9 c9, Below X.heap.size X W → Sl StE W S9 stx → Calls Try.prog 9 #[.agg #[.int .i64 ix, .string tx, .slice A8 colx.length ca8, .int .i64 kx, .slice B8 ixx.length cb8, .slice S9 stx.length c9]] W fun e w' => e = .returned (.int .i64 0) ∧ Below W.heap.size W w' := fun W S9 c9 h hs => by
              have t := recheck_any ix kx tx A8 B8 S9 ca8 cb8 c9 colx ixx stx W (SlS.cols (hAX.below h)) (SlS.ixs (hBX.below h)) hs hn8 (SlS.cnames hAX) (SlS.xnames hBX)
              rw [hchk] at t
              exact t
            have T2 := Lib.hid t2
            have x0 : X.cell? ⟨w8.heap.size, 0, none⟩ = some (.int .i64 ix) := kb.cell 0
            have x1 : X.cell? ⟨w8.heap.size, 1, none⟩ = some (.string tx) := kb.cell 1
            have x2 : X.cell? ⟨w8.heap.size, 2, none⟩ = some (.slice A8 colx.length ca8) := kb.cell 2
            have x3 : X.cell? ⟨w8.heap.size, 3, none⟩ = some (.int .i64 kx) := kb.cell 3
            have x4 : X.cell? ⟨w8.heap.size, 4, none⟩ = some (.slice B8 ixx.length cb8) := kb.cell 4
            have x5 : X.cell? ⟨w8.heap.size, 5, none⟩ = some (.slice S8 stx.length cs8) := kb.cell 5
            clear t2 hchk HE1 HE2
            go_wp2_with fail
            refine t1.mono ?_
            rintro en wy ⟨S9, c9, rfl, hS9, by9⟩
            go_wp2_with fail
            refine (T2.out wy S9 c9 by9 hS9).mono ?_
            rintro en wz ⟨rfl, bz⟩
            go_wp2_with fail
            go_meet
            case rel => exact ⟨rfl, by9.trans (bz.mono by9.size)⟩
          · have h2 := HE2.out hF
            obtain rfl : ix = 0 := congrArg (fun e : LEnt => e.tab.id) h2.1
            have x0 : X.cell? ⟨w8.heap.size, 0, none⟩ = some (.int .i64 0) := kb.cell 0
            have h3 := h2.2
            clear h2 HE1 HE2 hF
            replace h3 : F = 3 ∨ F = 5 := h3
            rcases h3 with h3 | h3
            all_goals
              subst h3
              go_wp2_with fail
              go_meet
              case rel => exact ⟨rfl, Below.refl _ _⟩
        case rest =>
          obtain ⟨rfl, bc⟩ := hcut
          generalize wc = w9 at *
          have b9 := bX.trans (bc.mono zX)
          clear kb hAX hBX hSX bX bc HE1 HE2
          have z9 := b9.size
          go_wp2_with fail
          refine (key_any nm w9 (by omega)).mono ?_
          rintro en w10 ⟨A10, c10, rfl, hb10, b10⟩
          have b010 := b9.trans (b10.mono z9)
          have z10 := b010.size
          have o0 : OwnB w10.heap.size (w10.alloc (.cells #[.int .u8 99] 5)) (some ⟨w10.heap.size, 0, none⟩) [99] 1 := ownB_litK w10 [99] (by simp)
          have d0 : Below w10.heap.size w10 (w10.alloc (.cells #[.int .u8 99] 5)) := (Below.refl _ _).alloc (Nat.le_refl _) _
          obtain ⟨D2, c2, W, hcv, hbs, hbel⟩ := str_conv nm (by omega) (w10.alloc (.cells #[.int .u8 99] 5))
          have d1 := d0.trans (hbel.mono d0.size)
          have o1 := o0.below hbel
          have hsl := strL_len nm
          clear b9 b10 o0 d0 hbel
          go_wp2_with fail
          refine (rordtext_any D2 (strL nm) c2 W hbs (by omega)).mono ?_
          rintro en w12 ⟨A12, c12, rfl, o12, b12⟩
          have hol := ordT_len (strL nm)
          have bs12 : Bs w12 A12 (ordT (strL nm)) := Bs.of_own o12 (by omega)
          have d12 := d1.trans (b12.mono d1.size)
          have o112 := o1.below b12
          have z12 := d12.size
          clear o12 b12 o1 d1 hbs hcv
          go_wp2_with (at_builtin; refine wpList_app w10.heap.size w10 _ rfl (.tmp 111) (.tmp 114) rfl (some ⟨w10.heap.size, 0, none⟩) [99] 1 rfl o112 A12 (ordT (strL nm)) c12 rfl bs12 (by rw [List.length_singleton]; omega) d12 (Nat.le_refl _) z12 ?_; intro A9 c9 acc9 w13 H9 o9 b13 g9 t9)
          have hE : acc9 = 99 :: ordT (strL nm) := H9.out
          have hb9 := o9.bs (by rw [hE, List.length_cons]; omega)
          have hb10b := hb10.below b13
          have HEQ : Hid (((99 :: ordT (strL nm)) == acc9) = true) := by show _ = _; rw [hE]; simp
          clear hE
          refine (equal_any A10 A9 _ acc9 c10 c9 w13 hb10b hb9).mono ?_
          rintro en w14 ⟨rfl, n, rfl⟩
          go_wp2_with fail
          go_ret
          exact ⟨by rw [HEQ.out]; rfl, below_drewN (b010.trans (b13.mono z10)) n⟩
end Go.Proofs.Ytemidaamnldjmaa
