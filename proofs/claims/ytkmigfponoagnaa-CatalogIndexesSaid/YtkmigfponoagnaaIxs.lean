/- CatalogIndexes: an index is added or dropped just as the document says. -/
import Derived.Test.YtkmigfponoagnaaAwakeC
import Derived.Test.YtkmigfponoagnaaTold
import Derived.Test.YtkmigfponoagnaaDrop
import Derived.Test.YtkmigfponoagnaaRDrop
import Derived.Test.YtkmigfponoagnaaSame
namespace Go.Proofs.Ytkmigfponoagnaa
open Go.RowKit

/-- an entry and an error, written out; nothing of them lies in the old block gg -/
def RetOut (gg : Nat) (id keys : Int) (tn : ByteArray) (cols : List LCol) (ixs : List LIx) (sts : List LSt) (F : Int) (w : World) (en : Ending) (w' : World) : Prop :=
  ∃ A B S ca cb cs, en = .returned (.tuple #[.agg #[.int .i64 id, .string tn, .slice A cols.length ca, .int .i64 keys, .slice B ixs.length cb, .slice S sts.length cs], .int .i64 F]) ∧
    SlS ColE w' (fun b => b ≠ gg ∨ w.heap.size ≤ b) A cols ∧ SlS IxE w' (fun b => b ≠ gg ∨ w.heap.size ≤ b) B ixs ∧ SlS StE w' (fun b => b ≠ gg ∨ w.heap.size ≤ b) S sts ∧ tn.size ≤ 140737488351232 ∧ Below w.heap.size w w'
theorem RetEntG.out {gg : Nat} {r : LEnt × Int} {id keys : Int} {tn : ByteArray} {cols : List LCol} {ixs : List LIx} {sts : List LSt} {F : Int} (hr : r = (⟨⟨id, keys, tn, cols, ixs⟩, sts⟩, F)) {w w' : World} {en : Ending} (h : RetEntG gg r w en w') : RetOut gg id keys tn cols ixs sts F w en w' := by
  subst hr
  obtain ⟨v, he, ⟨A, B, S, ca, cb, cs, rfl, h1, h2, h3, h4⟩, hb⟩ := h
  exact ⟨A, B, S, ca, cb, cs, he, h1, h2, h3, h4, hb⟩
/-- .. two old blocks -/
def RetOut2 (gg gh : Nat) (id keys : Int) (tn : ByteArray) (cols : List LCol) (ixs : List LIx) (sts : List LSt) (F : Int) (w : World) (en : Ending) (w' : World) : Prop :=
  ∃ A B S ca cb cs, en = .returned (.tuple #[.agg #[.int .i64 id, .string tn, .slice A cols.length ca, .int .i64 keys, .slice B ixs.length cb, .slice S sts.length cs], .int .i64 F]) ∧
    SlS ColE w' (fun b => (b ≠ gg ∧ b ≠ gh) ∨ w.heap.size ≤ b) A cols ∧ SlS IxE w' (fun b => (b ≠ gg ∧ b ≠ gh) ∨ w.heap.size ≤ b) B ixs ∧ SlS StE w' (fun b => (b ≠ gg ∧ b ≠ gh) ∨ w.heap.size ≤ b) S sts ∧ tn.size ≤ 140737488351232 ∧ Below w.heap.size w w'
theorem RetEntG2.out {gg gh : Nat} {r : LEnt × Int} {id keys : Int} {tn : ByteArray} {cols : List LCol} {ixs : List LIx} {sts : List LSt} {F : Int} (hr : r = (⟨⟨id, keys, tn, cols, ixs⟩, sts⟩, F)) {w w' : World} {en : Ending} (h : RetEntG2 gg gh r w en w') : RetOut2 gg gh id keys tn cols ixs sts F w en w' := by
  subst hr
  obtain ⟨v, he, ⟨A, B, S, ca, cb, cs, rfl, h1, h2, h3, h4⟩, hb⟩ := h
  exact ⟨A, B, S, ca, cb, cs, he, h1, h2, h3, h4, hb⟩
/-- .. where nothing is said of the blocks -/
def RetOutA (id keys : Int) (tn : ByteArray) (cols : List LCol) (ixs : List LIx) (sts : List LSt) (F : Int) (w : World) (en : Ending) (w' : World) : Prop :=
  ∃ A B S ca cb cs, en = .returned (.tuple #[.agg #[.int .i64 id, .string tn, .slice A cols.length ca, .int .i64 keys, .slice B ixs.length cb, .slice S sts.length cs], .int .i64 F]) ∧
    Sl ColE w' A cols ∧ Sl IxE w' B ixs ∧ Sl StE w' S sts ∧ tn.size ≤ 140737488351232 ∧ Below w.heap.size w w'
theorem RetEnt.out {r : LEnt × Int} {id keys : Int} {tn : ByteArray} {cols : List LCol} {ixs : List LIx} {sts : List LSt} {F : Int} (hr : r = (⟨⟨id, keys, tn, cols, ixs⟩, sts⟩, F)) {w w' : World} {en : Ending} (h : RetEnt r w en w') : RetOutA id keys tn cols ixs sts F w en w' := by
  subst hr
  obtain ⟨v, he, ⟨A, B, S, ca, cb, cs, rfl, h1, h2, h3, h4⟩, hb⟩ := h
  exact ⟨A, B, S, ca, cb, cs, he, h1, h2, h3, h4, hb⟩

theorem SlS.put6 {α : Type} {E : ER α} {w : World} {g : Nat} {A : Option Addr} {xs : List α} (h : SlS E w (fun b => b ≠ g) A xs) (u0 u1 u2 u3 u4 u5 : Value) :
    SlS E ((((((w.setCell ⟨g, 0, none⟩ u0).setCell ⟨g, 1, none⟩ u1).setCell ⟨g, 2, none⟩ u2).setCell ⟨g, 3, none⟩ u3).setCell ⟨g, 4, none⟩ u4).setCell ⟨g, 5, none⟩ u5) (fun b => b ≠ g) A xs :=
  (((((h.setCell (p := ⟨g, 0, none⟩) (fun h => h rfl) u0).setCell (p := ⟨g, 1, none⟩) (fun h => h rfl) u1).setCell (p := ⟨g, 2, none⟩) (fun h => h rfl) u2).setCell (p := ⟨g, 3, none⟩) (fun h => h rfl) u3).setCell (p := ⟨g, 4, none⟩) (fun h => h rfl) u4).setCell (p := ⟨g, 5, none⟩) (fun h => h rfl) u5
theorem Blk.put6 {w : World} {g : Nat} {t : TypeId} {v0 v1 v2 v3 v4 v5 : Value} (h : Blk w g t #[v0, v1, v2, v3, v4, v5]) (u0 u1 u2 u3 u4 u5 : Value) :
    Blk ((((((w.setCell ⟨g, 0, none⟩ u0).setCell ⟨g, 1, none⟩ u1).setCell ⟨g, 2, none⟩ u2).setCell ⟨g, 3, none⟩ u3).setCell ⟨g, 4, none⟩ u4).setCell ⟨g, 5, none⟩ u5) g t #[u0, u1, u2, u3, u4, u5] :=
  (((((h.set_ 0 u0).set_ 1 u1).set_ 2 u2).set_ 3 u3).set_ 4 u4).set_ 5 u5
theorem Below.put6 {B : Nat} {a w : World} {g : Nat} (h : Below B a w) (hg : B ≤ g) (u0 u1 u2 u3 u4 u5 : Value) :
    Below B a ((((((w.setCell ⟨g, 0, none⟩ u0).setCell ⟨g, 1, none⟩ u1).setCell ⟨g, 2, none⟩ u2).setCell ⟨g, 3, none⟩ u3).setCell ⟨g, 4, none⟩ u4).setCell ⟨g, 5, none⟩ u5) :=
  (((((h.setCell (p := ⟨g, 0, none⟩) hg u0).setCell (p := ⟨g, 1, none⟩) hg u1).setCell (p := ⟨g, 2, none⟩) hg u2).setCell (p := ⟨g, 3, none⟩) hg u3).setCell (p := ⟨g, 4, none⟩) hg u4).setCell (p := ⟨g, 5, none⟩) hg u5

theorem add_out {id keys : Int} {tn : ByteArray} {cols : List LCol} {ixs : List LIx} {sts : List LSt} {xn : ByteArray} {xc : List Int} {xu : Bool} {id' keys' : Int} {tn' : ByteArray} {cols' : List LCol} {ixs' : List LIx} {sts' : List LSt} {F : Int}
    (hr : addE ⟨⟨id, keys, tn, cols, ixs⟩, sts⟩ ⟨xn, xc, xu⟩ = (⟨⟨id', keys', tn', cols', ixs'⟩, sts'⟩, F)) (gg : Nat) (A B S C : Option Addr) (ca cb cs c : Nat) (w : World) (hA : SlS ColE w (fun b => b ≠ gg) A cols) (hB : SlS IxE w (fun b => b ≠ gg) B ixs) (hS : SlS StE w (fun b => b ≠ gg) S sts) (hn : tn.size ≤ 140737488351232) (hC : Is w C xc) (hC8 : xc.length * 8 ≤ 140737488351232) (hxn : xn.size ≤ 140737488351232) :
    Calls Try.prog 6 #[.agg #[.int .i64 id, .string tn, .slice A cols.length ca, .int .i64 keys, .slice B ixs.length cb, .slice S sts.length cs], .agg #[.string xn, .slice C xc.length c, .bool xu]] w (RetOut gg id' keys' tn' cols' ixs' sts' F w) :=
  (add_g gg ⟨⟨id, keys, tn, cols, ixs⟩, sts⟩ ⟨xn, xc, xu⟩ A B S C ca cb cs c w hA hB hS hn hC hC8 hxn).mono fun _ _ h => RetEntG.out hr h
theorem radd_out {id keys : Int} {tn : ByteArray} {cols : List LCol} {ixs : List LIx} {sts : List LSt} {xn : ByteArray} {xc : List Int} {xu : Bool} {id' keys' : Int} {tn' : ByteArray} {cols' : List LCol} {ixs' : List LIx} {sts' : List LSt} {F : Int}
    (hr : addE ⟨⟨id, keys, tn, cols, ixs⟩, sts⟩ ⟨xn, xc, xu⟩ = (⟨⟨id', keys', tn', cols', ixs'⟩, sts'⟩, F)) (A B S C : Option Addr) (ca cb cs c : Nat) (w : World) (hA : Sl ColE w A cols) (hB : Sl IxE w B ixs) (hS : Sl StE w S sts) (hn : tn.size ≤ 140737488351232) (hC : Is w C xc) (hC8 : xc.length * 8 ≤ 140737488351232) (hxn : xn.size ≤ 140737488351232) :
    Calls Try.prog 8 #[.agg #[.int .i64 id, .string tn, .slice A cols.length ca, .int .i64 keys, .slice B ixs.length cb, .slice S sts.length cs], .agg #[.string xn, .slice C xc.length c, .bool xu]] w (RetOutA id' keys' tn' cols' ixs' sts' F w) :=
  (radd_any ⟨⟨id, keys, tn, cols, ixs⟩, sts⟩ ⟨xn, xc, xu⟩ A B S C ca cb cs c w hA hB hS hn hC hC8 hxn).mono fun _ _ h => RetEnt.out hr h
theorem drop_out {id keys : Int} {tn : ByteArray} {cols : List LCol} {ixs : List LIx} {sts : List LSt} {nm : ByteArray} {id' keys' : Int} {tn' : ByteArray} {cols' : List LCol} {ixs' : List LIx} {sts' : List LSt} {F : Int}
    (hr : dropE ⟨⟨id, keys, tn, cols, ixs⟩, sts⟩ nm = (⟨⟨id', keys', tn', cols', ixs'⟩, sts'⟩, F)) (gg gh : Nat) (A B S : Option Addr) (ca cb cs : Nat) (w : World) (hA : SlS ColE w (fun b => b ≠ gg ∧ b ≠ gh) A cols) (hB : SlS IxE w (fun b => b ≠ gg ∧ b ≠ gh) B ixs) (hS : SlS StE w (fun b => b ≠ gg ∧ b ≠ gh) S sts) (hn : tn.size ≤ 140737488351232) :
    Calls Try.prog 11 #[.agg #[.int .i64 id, .string tn, .slice A cols.length ca, .int .i64 keys, .slice B ixs.length cb, .slice S sts.length cs], .string nm] w (RetOut2 gg gh id' keys' tn' cols' ixs' sts' F w) :=
  (drop_g gg gh ⟨⟨id, keys, tn, cols, ixs⟩, sts⟩ nm A B S ca cb cs w hA hB hS hn).mono fun _ _ h => RetEntG2.out hr h
theorem rdrop_out {id keys : Int} {tn : ByteArray} {cols : List LCol} {ixs : List LIx} {sts : List LSt} {nm : ByteArray} {id' keys' : Int} {tn' : ByteArray} {cols' : List LCol} {ixs' : List LIx} {sts' : List LSt} {F : Int}
    (hr : dropE ⟨⟨id, keys, tn, cols, ixs⟩, sts⟩ nm = (⟨⟨id', keys', tn', cols', ixs'⟩, sts'⟩, F)) (gg : Nat) (A B S : Option Addr) (ca cb cs : Nat) (w : World) (hA : SlS ColE w (fun b => b ≠ gg) A cols) (hB : SlS IxE w (fun b => b ≠ gg) B ixs) (hS : SlS StE w (fun b => b ≠ gg) S sts) (hn : tn.size ≤ 140737488351232) (hcs : sts.length ≤ cs) :
    Calls Try.prog 12 #[.agg #[.int .i64 id, .string tn, .slice A cols.length ca, .int .i64 keys, .slice B ixs.length cb, .slice S sts.length cs], .string nm] w (RetOut gg id' keys' tn' cols' ixs' sts' F w) :=
  (rdrop_g gg ⟨⟨id, keys, tn, cols, ixs⟩, sts⟩ nm A B S ca cb cs w hA hB hS hn hcs).mono fun _ _ h => RetEntG.out hr h

set_option maxRecDepth 100000 in
set_option maxHeartbeats 4000000 in
theorem indexes_any (id keys : Int) (tn : ByteArray) (cols : List LCol) (ixs : List LIx) (sts : List LSt) (xn : ByteArray) (xc : List Int) (xu : Bool) (nm : ByteArray) (A B S C : Option Addr) (ca cb cs c : Nat) (w : World) (hA : Sl ColE w A cols) (hB : Sl IxE w B ixs) (hS : Sl StE w S sts) (hn : tn.size ≤ 140737488351232) (hcs : sts.length ≤ cs) (hC : Is w C xc) (hC8 : xc.length * 8 ≤ 140737488351232) (hxn : xn.size ≤ 140737488351232) :
    Calls Try.prog 3 #[.agg #[.int .i64 id, .string tn, .slice A cols.length ca, .int .i64 keys, .slice B ixs.length cb, .slice S sts.length cs], .agg #[.string xn, .slice C xc.length c, .bool xu], .string nm] w fun e w' => e = .returned (.bool true) ∧ Below w.heap.size w w' := by
  obtain ⟨⟨⟨⟨ia, ka, ta, colsa, ixsa⟩, stsa⟩, fa⟩, hra⟩ : ∃ r, addE ⟨⟨id, keys, tn, cols, ixs⟩, sts⟩ ⟨xn, xc, xu⟩ = r := ⟨_, rfl⟩
  obtain ⟨⟨⟨⟨iz, kz, tz, colsz, ixsz⟩, stsz⟩, fz⟩, hrz⟩ : ∃ r, dropE ⟨⟨id, keys, tn, cols, ixs⟩, sts⟩ nm = r := ⟨_, rfl⟩
  have HRA := Lib.hid hra
  have HRZ := Lib.hid hrz
  clear hra hrz
  have b0 : Below w.heap.size w ((w.alloc (.cells #[.int .i64 id, .string tn, .slice A cols.length ca, .int .i64 keys, .slice B ixs.length cb, .slice S sts.length cs] 28)).alloc (.cells #[.string xn, .slice C xc.length c, .bool xu] 31)) := ((Below.refl _ _).alloc (Nat.le_refl _) _).alloc (by simp) _
  have ke := (Blk.new w 28 #[.int .i64 id, .string tn, .slice A cols.length ca, .int .i64 keys, .slice B ixs.length cb, .slice S sts.length cs]).alloc (.cells #[.string xn, .slice C xc.length c, .bool xu] 31)
  have kx := Blk.new2 w (.cells #[.int .i64 id, .string tn, .slice A cols.length ca, .int .i64 keys, .slice B ixs.length cb, .slice S sts.length cs] 28) 31 #[.string xn, .slice C xc.length c, .bool xu]
  have hA0 := hA.old.below b0
  have hB0 := hB.old.below b0
  have hS0 := hS.old.below b0
  have hC0 := hC.below b0
  go_enter Try.func3, Try.ntmps3
  go_wp2_with fail
  generalize ((w.alloc (.cells #[.int .i64 id, .string tn, .slice A cols.length ca, .int .i64 keys, .slice B ixs.length cb, .slice S sts.length cs] 28)).alloc (.cells #[.string xn, .slice C xc.length c, .bool xu] 31)) = W0 at *
  refine (awake_any _).mono ?_
  rintro en w1 ⟨rfl, b1⟩
  have b01 := b0.trans (b1.mono b0.size)
  have ke1 := ke.below b1 ke.lt
  have kx1 := kx.below b1 kx.lt
  have hA1 := hA0.below b1
  have hB1 := hB0.below b1
  have hS1 := hS0.below b1
  have hC1 := hC0.below b1
  clear hA hB hS hC hA0 hB0 hS0 hC0 ke kx b0 b1
  go_upto_region 3 with fail
  have le1 := ke1.lt
  have lx1 := kx1.lt
  go_cut [7, 8] (fun s7 s8 wx => ∃ (g : Nat) (A1 B1 S1 : Option Addr) (c1 c2 c3 : Nat), s7 = .pointer (some ⟨g, 0, none⟩) ∧ s8 = .int .i64 fa ∧ w1.heap.size ≤ g ∧ Blk wx g 35 #[.int .i64 ia, .string ta, .slice A1 colsa.length c1, .int .i64 ka, .slice B1 ixsa.length c2, .slice S1 stsa.length c3] ∧ Sl ColE wx A1 colsa ∧ Sl IxE wx B1 ixsa ∧ Sl StE wx S1 stsa ∧ ta.size ≤ 140737488351232 ∧ Below w1.heap.size w1 wx)
  case first =>
    have e0 : w1.cell? ⟨w.heap.size, 0, none⟩ = some (.int .i64 id) := ke1.cell 0
    have e1 : w1.cell? ⟨w.heap.size, 1, none⟩ = some (.string tn) := ke1.cell 1
    have e2 : w1.cell? ⟨w.heap.size, 2, none⟩ = some (.slice A cols.length ca) := ke1.cell 2
    have e3 : w1.cell? ⟨w.heap.size, 3, none⟩ = some (.int .i64 keys) := ke1.cell 3
    have e4 : w1.cell? ⟨w.heap.size, 4, none⟩ = some (.slice B ixs.length cb) := ke1.cell 4
    have e5 : w1.cell? ⟨w.heap.size, 5, none⟩ = some (.slice S sts.length cs) := ke1.cell 5
    have p0 : w1.cell? ⟨w.heap.size + 1, 0, none⟩ = some (.string xn) := kx1.cell 0
    have p1 : w1.cell? ⟨w.heap.size + 1, 1, none⟩ = some (.slice C xc.length c) := kx1.cell 1
    have p2 : w1.cell? ⟨w.heap.size + 1, 2, none⟩ = some (.bool xu) := kx1.cell 2
    go_region_law
      (first
        | (go_simp; go_at_call 7; (with_reducible refine (entry_any id keys tn _ _ _ _ _ _ cols ixs sts _ ?_ ?_ ?_).mono ?_); (refine SlS.below hA1.any ?_; (focus (repeat (first | (with_reducible exact Below.refl _ _) | (with_reducible refine Below.drew_ ?_) | (with_reducible refine Below.alloc_ ?_ _))))); (refine SlS.below hB1.any ?_; (focus (repeat (first | (with_reducible exact Below.refl _ _) | (with_reducible refine Below.drew_ ?_) | (with_reducible refine Below.alloc_ ?_ _))))); (refine SlS.below hS1.any ?_; (focus (repeat (first | (with_reducible exact Below.refl _ _) | (with_reducible refine Below.drew_ ?_) | (with_reducible refine Below.alloc_ ?_ _))))); rintro en w2 ⟨A1, B1, S1, c1, c2, c3, rfl, sA, sB, sS, b2⟩; have bb2 : Below w1.heap.size w1 w2 := (by refine Below.call_ ?_ b2; (focus (repeat (first | (with_reducible exact Below.refl _ _) | (with_reducible refine Below.drew_ ?_) | (with_reducible refine Below.alloc_ ?_ _))))); have kx2 := kx1.below bb2 lx1; have lx2 := kx2.lt; clear e0 e1 e2 e3 e4 e5; have x0 : w2.cell? ⟨w.heap.size + 1, 0, none⟩ = some (.string xn) := kx2.cell 0; have x1 : w2.cell? ⟨w.heap.size + 1, 1, none⟩ = some (.slice C xc.length c) := kx2.cell 1; have x2 : w2.cell? ⟨w.heap.size + 1, 2, none⟩ = some (.bool xu) := kx2.cell 2; (first | (have ky2 : Blk w2 w1.heap.size 35 #[.int .i64 0, .string ⟨#[]⟩, .slice none 0 0, .int .i64 0, .slice none 0 0, .slice none 0 0] := Blk.call_ (Blk.drew_ (Blk.new w1 35 #[.int .i64 0, .string ⟨#[]⟩, .slice none 0 0, .int .i64 0, .slice none 0 0, .slice none 0 0])) b2) | skip))
        | (have _ky := ky2; go_simp; go_at_call 6; (with_reducible refine (add_out HRA.out w1.heap.size _ _ _ _ _ _ _ _ _ (sA.mono (fun b _ h => by simp at h; omega)) (sB.mono (fun b _ h => by simp at h; omega)) (sS.mono (fun b _ h => by simp at h; omega)) hn (hC1.below bb2) hC8 hxn).mono ?_); rintro en w3 ⟨A2, B2, S2, d1, d2, d3, rfl, rA, rB, rS, rn, b3⟩; have bb3 := bb2.trans (b3.mono bb2.size); have ky := ky2.below b3 ky2.lt; have hgg := ky2.lt; have zzE := hgg; have y0 : (_ : Option Value) = some (Value.int .i64 0) := ky.cell 0; have y1 : (_ : Option Value) = some (Value.string ⟨#[]⟩) := ky.cell 1; have y2 : (_ : Option Value) = some (Value.slice none 0 0) := ky.cell 2; have y3 : (_ : Option Value) = some (Value.int .i64 0) := ky.cell 3; have y4 : (_ : Option Value) = some (Value.slice none 0 0) := ky.cell 4; have y5 : (_ : Option Value) = some (Value.slice none 0 0) := ky.cell 5; have f0 := ky.frozen 0; have f1 := ky.frozen 1; have f2 := ky.frozen 2; have f3 := ky.frozen 3; have f4 := ky.frozen 4; have f5 := ky.frozen 5)
        | (go_simp; go_at_call 6; (with_reducible refine (add_out HRA.out w2.heap.size _ _ _ _ _ _ _ _ _ ?_ ?_ ?_ hn ?_ hC8 hxn).mono ?_); (first | exact sA.mono (fun b hl _ => Nat.ne_of_lt hl) | exact (sA.mono (fun b hl _ => Nat.ne_of_lt hl)).alloc _); (first | exact sB.mono (fun b hl _ => Nat.ne_of_lt hl) | exact (sB.mono (fun b hl _ => Nat.ne_of_lt hl)).alloc _); (first | exact sS.mono (fun b hl _ => Nat.ne_of_lt hl) | exact (sS.mono (fun b hl _ => Nat.ne_of_lt hl)).alloc _); (first | exact hC1.below bb2 | exact hC1.below (Below.alloc_ bb2 _)); rintro en w3 ⟨A2, B2, S2, d1, d2, d3, rfl, rA, rB, rS, rn, b3⟩; have bb3 : Below w1.heap.size w1 w3 := (by refine Below.call_ ?_ b3; (repeat (first | (with_reducible exact bb2) | (with_reducible refine Below.alloc_ ?_ _)))); (first | (have ky : Blk w3 w2.heap.size 35 #[.int .i64 0, .string ⟨#[]⟩, .slice none 0 0, .int .i64 0, .slice none 0 0, .slice none 0 0] := Blk.call_ (Blk.new w2 35 #[.int .i64 0, .string ⟨#[]⟩, .slice none 0 0, .int .i64 0, .slice none 0 0, .slice none 0 0]) b3; have hgg : w2.heap.size < (w2.alloc (.cells #[.int .i64 0, .string ⟨#[]⟩, .slice none 0 0, .int .i64 0, .slice none 0 0, .slice none 0 0] 35)).heap.size := (by simp); have zzM := hgg; have y0 : (_ : Option Value) = some (Value.int .i64 0) := ky.cell 0; have y1 : (_ : Option Value) = some (Value.string ⟨#[]⟩) := ky.cell 1; have y2 : (_ : Option Value) = some (Value.slice none 0 0) := ky.cell 2; have y3 : (_ : Option Value) = some (Value.int .i64 0) := ky.cell 3; have y4 : (_ : Option Value) = some (Value.slice none 0 0) := ky.cell 4; have y5 : (_ : Option Value) = some (Value.slice none 0 0) := ky.cell 5; have f0 := ky.frozen 0; have f1 := ky.frozen 1; have f2 := ky.frozen 2; have f3 := ky.frozen 3; have f4 := ky.frozen 4; have f5 := ky.frozen 5) | skip)))
    all_goals
      (first
        | (have _e := zzE
           have hle : w1.heap.size ≤ w1.heap.size := Nat.le_refl _
           have nA := (rA.mono (S' := fun b => b ≠ w1.heap.size) (fun b _ h => by omega)).put6 (.int .i64 ia) (.string ta) (.slice A2 colsa.length d1) (.int .i64 ka) (.slice B2 ixsa.length d2) (.slice S2 stsa.length d3)
           have nB := (rB.mono (S' := fun b => b ≠ w1.heap.size) (fun b _ h => by omega)).put6 (.int .i64 ia) (.string ta) (.slice A2 colsa.length d1) (.int .i64 ka) (.slice B2 ixsa.length d2) (.slice S2 stsa.length d3)
           have nS := (rS.mono (S' := fun b => b ≠ w1.heap.size) (fun b _ h => by omega)).put6 (.int .i64 ia) (.string ta) (.slice A2 colsa.length d1) (.int .i64 ka) (.slice B2 ixsa.length d2) (.slice S2 stsa.length d3)
           have nk := Blk.put6 (g := w1.heap.size) ky (.int .i64 ia) (.string ta) (.slice A2 colsa.length d1) (.int .i64 ka) (.slice B2 ixsa.length d2) (.slice S2 stsa.length d3)
           have nb := Below.put6 bb3 hle (.int .i64 ia) (.string ta) (.slice A2 colsa.length d1) (.int .i64 ka) (.slice B2 ixsa.length d2) (.slice S2 stsa.length d3)
           clear y0 y1 y2 y3 y4 y5 f0 f1 f2 f3 f4 f5
           go_wp2_with fail
           go_meet
           case rel => refine ⟨w1.heap.size, A2, B2, S2, d1, d2, d3, rfl, rfl, hle, ?_, ?_, ?_, ?_, rn, ?_⟩ <;> with_reducible (first | exact nk | exact nA.any | exact nB.any | exact nS.any | exact nb))
        | (have _e := zzM
           have hle : w1.heap.size ≤ w2.heap.size := bb2.size
           have nA := (rA.mono (S' := fun b => b ≠ w2.heap.size) (fun b _ h => by omega)).put6 (.int .i64 ia) (.string ta) (.slice A2 colsa.length d1) (.int .i64 ka) (.slice B2 ixsa.length d2) (.slice S2 stsa.length d3)
           have nB := (rB.mono (S' := fun b => b ≠ w2.heap.size) (fun b _ h => by omega)).put6 (.int .i64 ia) (.string ta) (.slice A2 colsa.length d1) (.int .i64 ka) (.slice B2 ixsa.length d2) (.slice S2 stsa.length d3)
           have nS := (rS.mono (S' := fun b => b ≠ w2.heap.size) (fun b _ h => by omega)).put6 (.int .i64 ia) (.string ta) (.slice A2 colsa.length d1) (.int .i64 ka) (.slice B2 ixsa.length d2) (.slice S2 stsa.length d3)
           have nk := Blk.put6 (g := w2.heap.size) ky (.int .i64 ia) (.string ta) (.slice A2 colsa.length d1) (.int .i64 ka) (.slice B2 ixsa.length d2) (.slice S2 stsa.length d3)
           have nb := Below.put6 bb3 hle (.int .i64 ia) (.string ta) (.slice A2 colsa.length d1) (.int .i64 ka) (.slice B2 ixsa.length d2) (.slice S2 stsa.length d3)
           clear y0 y1 y2 y3 y4 y5 f0 f1 f2 f3 f4 f5
           go_wp2_with fail
           go_meet
           case rel => refine ⟨w2.heap.size, A2, B2, S2, d1, d2, d3, rfl, rfl, hle, ?_, ?_, ?_, ?_, rn, ?_⟩ <;> with_reducible (first | exact nk | exact nA.any | exact nB.any | exact nS.any | exact nb))
        | (have nk := Blk.new w3 35 #[.int .i64 ia, .string ta, .slice A2 colsa.length d1, .int .i64 ka, .slice B2 ixsa.length d2, .slice S2 stsa.length d3]
           go_wp2_with fail
           go_meet
           case rel => refine ⟨w3.heap.size, A2, B2, S2, d1, d2, d3, rfl, rfl, bb3.size, ?_, ?_, ?_, ?_, rn, ?_⟩ <;> with_reducible (first | exact nk | exact rA.any.alloc _ | exact rB.any.alloc _ | exact rS.any.alloc _ | exact Below.alloc_ bb3 _)))
  case rest =>
    obtain ⟨g, A1, B1, S1, c1, c2, c3, rfl, rfl, hg, kg, hA2, hB2, hS2, hn2, b2⟩ := hcut
    have b02 := b01.trans (b2.mono b01.size)
    have ke2 := ke1.below b2 le1
    have kx2 := kx1.below b2 lx1
    have hA3 := hA1.below b2
    have hB3 := hB1.below b2
    have hS3 := hS1.below b2
    have hC3 := hC1.below b2
    have z2 := b2.size
    clear ke1 kx1 hA1 hB1 hS1 hC1 b01 b2
    have p0 : wc.cell? ⟨w.heap.size + 1, 0, none⟩ = some (.string xn) := kx2.cell 0
    have p1 : wc.cell? ⟨w.heap.size + 1, 1, none⟩ = some (.slice C xc.length c) := kx2.cell 1
    have p2 : wc.cell? ⟨w.heap.size + 1, 2, none⟩ = some (.bool xu) := kx2.cell 2
    go_wp2_with ((with_reducible refine wpList_load_blk rfl 28 (.tmp 3) rfl w.heap.size ?_ 28 _ _ ke2 Try.underlying28 ?_ Try.size_REntry ?_ ?_); rfl; rfl; rfl)
    refine (radd_out HRA.out A B S C ca cb cs c wc hA3.any hB3.any hS3.any hn hC3 hC8 hxn).mono ?_
    rintro en w4 ⟨A2, B2, S2, d1, d2, d3, rfl, rA, rB, rS, _, b4⟩
    clear p0 p1 p2
    have b24 := b02.trans (b4.mono b02.size)
    have ke4 := (ke2.below b4 ke2.lt).alloc (.cells #[.int .i64 ia, .string ta, .slice A2 colsa.length d1, .int .i64 ka, .slice B2 ixsa.length d2, .slice S2 stsa.length d3] 28)
    have kg4 := (kg.below b4 kg.lt).alloc (.cells #[.int .i64 ia, .string ta, .slice A2 colsa.length d1, .int .i64 ka, .slice B2 ixsa.length d2, .slice S2 stsa.length d3] 28)
    have k94 := Blk.new w4 28 #[.int .i64 ia, .string ta, .slice A2 colsa.length d1, .int .i64 ka, .slice B2 ixsa.length d2, .slice S2 stsa.length d3]
    have hA4 := (hA3.below b4).alloc (.cells #[.int .i64 ia, .string ta, .slice A2 colsa.length d1, .int .i64 ka, .slice B2 ixsa.length d2, .slice S2 stsa.length d3] 28)
    have hB4 := (hB3.below b4).alloc (.cells #[.int .i64 ia, .string ta, .slice A2 colsa.length d1, .int .i64 ka, .slice B2 ixsa.length d2, .slice S2 stsa.length d3] 28)
    have hS4 := (hS3.below b4).alloc (.cells #[.int .i64 ia, .string ta, .slice A2 colsa.length d1, .int .i64 ka, .slice B2 ixsa.length d2, .slice S2 stsa.length d3] 28)
    have rA4 := rA.alloc (.cells #[.int .i64 ia, .string ta, .slice A2 colsa.length d1, .int .i64 ka, .slice B2 ixsa.length d2, .slice S2 stsa.length d3] 28)
    have rB4 := rB.alloc (.cells #[.int .i64 ia, .string ta, .slice A2 colsa.length d1, .int .i64 ka, .slice B2 ixsa.length d2, .slice S2 stsa.length d3] 28)
    have rS4 := rS.alloc (.cells #[.int .i64 ia, .string ta, .slice A2 colsa.length d1, .int .i64 ka, .slice B2 ixsa.length d2, .slice S2 stsa.length d3] 28)
    have uA4 := (hA2.below b4).alloc (.cells #[.int .i64 ia, .string ta, .slice A2 colsa.length d1, .int .i64 ka, .slice B2 ixsa.length d2, .slice S2 stsa.length d3] 28)
    have uB4 := (hB2.below b4).alloc (.cells #[.int .i64 ia, .string ta, .slice A2 colsa.length d1, .int .i64 ka, .slice B2 ixsa.length d2, .slice S2 stsa.length d3] 28)
    have uS4 := (hS2.below b4).alloc (.cells #[.int .i64 ia, .string ta, .slice A2 colsa.length d1, .int .i64 ka, .slice B2 ixsa.length d2, .slice S2 stsa.length d3] 28)
    have b04 := b24.alloc b24.size (.cells #[.int .i64 ia, .string ta, .slice A2 colsa.length d1, .int .i64 ka, .slice B2 ixsa.length d2, .slice S2 stsa.length d3] 28)
    have z4 := b4.size
    have lg2 := kg.lt
    clear ke2 kx2 kg hA3 hB3 hS3 hC3 hA2 hB2 hS2 rA rB rS b4 b24 b02
    go_upto_region 5 with fail
    generalize (w4.alloc (.cells #[.int .i64 ia, .string ta, .slice A2 colsa.length d1, .int .i64 ka, .slice B2 ixsa.length d2, .slice S2 stsa.length d3] 28)) = V at *
    have lg4 := kg4.lt
    have l94 := k94.lt
    have hz : w.heap.size ≤ g := Nat.le_trans (Nat.le_of_lt le1) hg
    go_cut [35] (fun s35 wx => s35 = .bool false ∧ Below V.heap.size V wx)
    case first =>
      have p0 : V.cell? ⟨g, 0, none⟩ = some (.int .i64 ia) := kg4.cell 0
      have p1 : V.cell? ⟨g, 1, none⟩ = some (.string ta) := kg4.cell 1
      have p2 : V.cell? ⟨g, 2, none⟩ = some (.slice A1 colsa.length c1) := kg4.cell 2
      have p3 : V.cell? ⟨g, 3, none⟩ = some (.int .i64 ka) := kg4.cell 3
      have p4 : V.cell? ⟨g, 4, none⟩ = some (.slice B1 ixsa.length c2) := kg4.cell 4
      have p5 : V.cell? ⟨g, 5, none⟩ = some (.slice S1 stsa.length c3) := kg4.cell 5
      have q0 : V.cell? ⟨w4.heap.size, 0, none⟩ = some (.int .i64 ia) := k94.cell 0
      have q1 : V.cell? ⟨w4.heap.size, 1, none⟩ = some (.string ta) := k94.cell 1
      have q2 : V.cell? ⟨w4.heap.size, 2, none⟩ = some (.slice A2 colsa.length d1) := k94.cell 2
      have q3 : V.cell? ⟨w4.heap.size, 3, none⟩ = some (.int .i64 ka) := k94.cell 3
      have q4 : V.cell? ⟨w4.heap.size, 4, none⟩ = some (.slice B2 ixsa.length d2) := k94.cell 4
      have q5 : V.cell? ⟨w4.heap.size, 5, none⟩ = some (.slice S2 stsa.length d3) := k94.cell 5
      have dF : (fa != fa) = false := by simp
      go_region_law
        (first
          | (go_simp; go_at_call 10; (with_reducible refine (told_any ia ka ta _ _ _ _ _ _ colsa ixsa stsa _ ?_).mono ?_); (refine SlS.below uS4 ?_; (focus (repeat (first | (with_reducible exact Below.refl _ _) | (with_reducible refine Below.drew_ ?_) | (with_reducible refine Below.alloc_ ?_ _))))); rintro en w6 ⟨S9, c9, rfl, s9, b6⟩; have bb6 : Below V.heap.size V w6 := (by refine Below.call_ ?_ b6; (focus (repeat (first | (with_reducible exact Below.refl _ _) | (with_reducible refine Below.drew_ ?_) | (with_reducible refine Below.alloc_ ?_ _))))); have k96 := k94.below bb6 l94; clear p0 p1 p2 p3 p4 p5; have x0 : w6.cell? ⟨w4.heap.size, 0, none⟩ = some (.int .i64 ia) := k96.cell 0; have x1 : w6.cell? ⟨w4.heap.size, 1, none⟩ = some (.string ta) := k96.cell 1; have x2 : w6.cell? ⟨w4.heap.size, 2, none⟩ = some (.slice A2 colsa.length d1) := k96.cell 2; have x3 : w6.cell? ⟨w4.heap.size, 3, none⟩ = some (.int .i64 ka) := k96.cell 3; have x4 : w6.cell? ⟨w4.heap.size, 4, none⟩ = some (.slice B2 ixsa.length d2) := k96.cell 4; have x5 : w6.cell? ⟨w4.heap.size, 5, none⟩ = some (.slice S2 stsa.length d3) := k96.cell 5)
          | (go_simp; go_at_call 9; (with_reducible refine (same_any ia ka ta _ _ _ _ _ _ _ _ _ _ _ _ colsa ixsa stsa _ (uA4.below bb6) (uB4.below bb6) s9 (rA4.below bb6) (rB4.below bb6) (rS4.below bb6)).mono ?_); rintro en w7 ⟨rfl, b7⟩; have bb7 := bb6.trans (b7.mono bb6.size)))
      all_goals
        go_wp2_with fail
        go_meet
        case rel => exact ⟨rfl, bb7⟩
    case rest =>
      obtain ⟨rfl, hcut⟩ := hcut
      have kg5 := kg4.below hcut lg4
      have k95 := k94.below hcut l94
      have ke5 := ke4.below hcut ke4.lt
      have hA5 := hA4.below hcut
      have hB5 := hB4.below hcut
      have hS5 := hS4.below hcut
      have b05 := b04.trans (hcut.mono b04.size)
      clear kg4 k94 ke4 hA4 hB4 hS4 rA4 rB4 rS4 uA4 uB4 uS4 b04
      go_wp2_with ((with_reducible refine wpList_load_blk rfl 28 (.tmp 3) rfl w.heap.size ?_ 28 _ _ ke5 Try.underlying28 ?_ Try.size_REntry ?_ ?_); rfl; rfl; rfl)
      refine (entry_any id keys tn A B S ca cb cs cols ixs sts wc hA5.any hB5.any hS5.any).mono ?_
      rintro en w6 ⟨A6, B6, S6, a1, a2, a3, rfl, tA, tB, tS, b6⟩
      have lg5 := kg5.lt
      have l95 := k95.lt
      go_wp2_with fail
      refine (drop_out HRZ.out g w4.heap.size A6 B6 S6 a1 a2 a3 w6 (tA.mono (fun b _ h => by omega)) (tB.mono (fun b _ h => by omega)) (tS.mono (fun b _ h => by omega)) hn).mono ?_
      rintro en w7 ⟨A7, B7, S7, j1, j2, j3, rfl, vA, vB, vS, hnz, b7⟩
      have z6 := b6.size
      have z7 := b7.size
      have bb7 := b6.trans (b7.mono z6)
      have kg7 := kg5.below bb7 lg5
      have k97 := k95.below bb7 k95.lt
      have ke7 := ke5.below bb7 ke5.lt
      have hA7 := hA5.below bb7
      have hB7 := hB5.below bb7
      have hS7 := hS5.below bb7
      have b07 := b05.trans (bb7.mono b05.size)
      have yA := vA.mono (S' := fun b => b ≠ g ∧ b ≠ w4.heap.size) (fun b _ h => by omega)
      have yB := vB.mono (S' := fun b => b ≠ g ∧ b ≠ w4.heap.size) (fun b _ h => by omega)
      have yS := vS.mono (S' := fun b => b ≠ g ∧ b ≠ w4.heap.size) (fun b _ h => by omega)
      have ngx : ¬ g = w.heap.size := by omega
      have ng9 : g < w4.heap.size := by omega
      clear kg5 k95 ke5 hA5 hB5 hS5 b05 tA tB tS vA vB vS b6 b7 bb7 hcut
      go_upto_region 8 with ((with_reducible refine wpList_store_blk rfl 35 (.tmp 7) (.tmp 41) rfl g 35 _ #[.int .i64 iz, .string tz, .slice A7 colsz.length j1, .int .i64 kz, .slice B7 ixsz.length j2, .slice S7 stsz.length j3] ?_ ?_ kg7 Try.size_Entry ?_ ?_ ?_ ?_); rfl; rfl; rfl; rfl; (simp [Value.oneCell']); intro w8 kg8 g8 z8)
      have ke8 := ke7.grown g8 (fun e => by have := Option.some.inj e; omega)
      have k98 := k97.grown g8 (fun e => by have := Option.some.inj e; omega)
      have hs8 : Same (fun b => b ≠ g) w7 w8 := .of_grown g8 (fun b hb e => hb (Option.some.inj e).symm)
      have b08 := b07.grown g8 b07.size (fun j hj => by have := Option.some.inj hj; omega)
      have hA8 := hA7.same (hs8.mono fun b _ h => by omega)
      have hB8 := hB7.same (hs8.mono fun b _ h => by omega)
      have hS8 := hS7.same (hs8.mono fun b _ h => by omega)
      have yA8 := (yA.same (hs8.mono fun b _ h => h.1)).mono (S' := fun b => b ≠ w4.heap.size) (fun b _ h => h.2)
      have yB8 := (yB.same (hs8.mono fun b _ h => h.1)).mono (S' := fun b => b ≠ w4.heap.size) (fun b _ h => h.2)
      have yS8 := (yS.same (hs8.mono fun b _ h => h.1)).mono (S' := fun b => b ≠ w4.heap.size) (fun b _ h => h.2)
      clear kg7 k97 ke7 hA7 hB7 hS7 b07 yA yB yS hs8 g8
      go_wp2_with ((with_reducible refine wpList_load_blk rfl 28 (.tmp 3) rfl w.heap.size ?_ 28 _ _ ke8 Try.underlying28 ?_ Try.size_REntry ?_ ?_); rfl; rfl; rfl)
      have l98 := k98.lt
      refine (rdrop_out HRZ.out w4.heap.size A B S ca cb cs w8 (hA8.mono (fun b _ h => by omega)) (hB8.mono (fun b _ h => by omega)) (hS8.mono (fun b _ h => by omega)) hn hcs).mono ?_
      rintro en w9 ⟨A9, B9, S9, h1, h2, h3, rfl, vA, vB, vS, _, b9⟩
      have kg9 := kg8.below b9 kg8.lt
      have k99 := k98.below b9 l98
      have b09 := b08.trans (b9.mono b08.size)
      have oA := vA.mono (S' := fun b => b ≠ w4.heap.size) (fun b _ h => by omega)
      have oB := vB.mono (S' := fun b => b ≠ w4.heap.size) (fun b _ h => by omega)
      have oS := vS.mono (S' := fun b => b ≠ w4.heap.size) (fun b _ h => by omega)
      have yA9 := yA8.below b9
      have yB9 := yB8.below b9
      have yS9 := yS8.below b9
      have hz4 : w.heap.size ≤ w4.heap.size := by omega
      clear kg8 k98 ke8 hA8 hB8 hS8 b08 yA8 yB8 yS8 vA vB vS b9
      go_upto_region 9 with ((with_reducible refine wpList_store_blk rfl 28 (.tmp 9) (.tmp 47) rfl w4.heap.size 28 _ #[.int .i64 iz, .string tz, .slice A9 colsz.length h1, .int .i64 kz, .slice B9 ixsz.length h2, .slice S9 stsz.length h3] ?_ ?_ k99 Try.size_REntry ?_ ?_ ?_ ?_); rfl; rfl; rfl; rfl; (simp [Value.oneCell']); intro w10 k910 g10 z10)
      have kg10 := kg9.grown g10 (fun e => by have := Option.some.inj e; omega)
      have hs10 : Same (fun b => b ≠ w4.heap.size) w9 w10 := .of_grown g10 (fun b hb e => hb (Option.some.inj e).symm)
      have b010 := b09.grown g10 b09.size (fun j hj => by have := Option.some.inj hj; omega)
      have oA10 := (oA.same hs10).any
      have oB10 := (oB.same hs10).any
      have oS10 := (oS.same hs10).any
      have uA := (yA9.same hs10).any
      have uB := (yB9.same hs10).any
      have uS := (yS9.same hs10).any
      have lg10 := kg10.lt
      have l910 := k910.lt
      clear kg9 k99 b09 oA oB oS yA9 yB9 yS9 hs10 g10 z10
      have p0 : w10.cell? ⟨g, 0, none⟩ = some (.int .i64 iz) := kg10.cell 0
      have p1 : w10.cell? ⟨g, 1, none⟩ = some (.string tz) := kg10.cell 1
      have p2 : w10.cell? ⟨g, 2, none⟩ = some (.slice A7 colsz.length j1) := kg10.cell 2
      have p3 : w10.cell? ⟨g, 3, none⟩ = some (.int .i64 kz) := kg10.cell 3
      have p4 : w10.cell? ⟨g, 4, none⟩ = some (.slice B7 ixsz.length j2) := kg10.cell 4
      have p5 : w10.cell? ⟨g, 5, none⟩ = some (.slice S7 stsz.length j3) := kg10.cell 5
      have q0 : w10.cell? ⟨w4.heap.size, 0, none⟩ = some (.int .i64 iz) := k910.cell 0
      have q1 : w10.cell? ⟨w4.heap.size, 1, none⟩ = some (.string tz) := k910.cell 1
      have q2 : w10.cell? ⟨w4.heap.size, 2, none⟩ = some (.slice A9 colsz.length h1) := k910.cell 2
      have q3 : w10.cell? ⟨w4.heap.size, 3, none⟩ = some (.int .i64 kz) := k910.cell 3
      have q4 : w10.cell? ⟨w4.heap.size, 4, none⟩ = some (.slice B9 ixsz.length h2) := k910.cell 4
      have q5 : w10.cell? ⟨w4.heap.size, 5, none⟩ = some (.slice S9 stsz.length h3) := k910.cell 5
      have dF : (fz == fz) = true := by simp
      go_region_law
        (first
          | (go_simp; go_at_call 10; (with_reducible refine (told_any iz kz tz _ _ _ _ _ _ colsz ixsz stsz _ ?_).mono ?_); (refine SlS.below uS ?_; (focus (repeat (first | (with_reducible exact Below.refl _ _) | (with_reducible refine Below.drew_ ?_) | (with_reducible refine Below.alloc_ ?_ _))))); rintro en w12 ⟨T9, c9, rfl, s9, b12⟩; have bb12 : Below w10.heap.size w10 w12 := (by refine Below.call_ ?_ b12; (focus (repeat (first | (with_reducible exact Below.refl _ _) | (with_reducible refine Below.drew_ ?_) | (with_reducible refine Below.alloc_ ?_ _))))); have k912 := k910.below bb12 l910; clear p0 p1 p2 p3 p4 p5; have x0 : w12.cell? ⟨w4.heap.size, 0, none⟩ = some (.int .i64 iz) := k912.cell 0; have x1 : w12.cell? ⟨w4.heap.size, 1, none⟩ = some (.string tz) := k912.cell 1; have x2 : w12.cell? ⟨w4.heap.size, 2, none⟩ = some (.slice A9 colsz.length h1) := k912.cell 2; have x3 : w12.cell? ⟨w4.heap.size, 3, none⟩ = some (.int .i64 kz) := k912.cell 3; have x4 : w12.cell? ⟨w4.heap.size, 4, none⟩ = some (.slice B9 ixsz.length h2) := k912.cell 4; have x5 : w12.cell? ⟨w4.heap.size, 5, none⟩ = some (.slice S9 stsz.length h3) := k912.cell 5)
          | (go_simp; go_at_call 9; (with_reducible refine (same_any iz kz tz _ _ _ _ _ _ _ _ _ _ _ _ colsz ixsz stsz _ (uA.below bb12) (uB.below bb12) s9 (oA10.below bb12) (oB10.below bb12) (oS10.below bb12)).mono ?_); rintro en w13 ⟨rfl, b13⟩; have bb13 := bb12.trans (b13.mono bb12.size)))
      all_goals
        go_wp2_with fail
        go_ret
        exact ⟨rfl, b010.trans (bb13.mono b010.size)⟩

end Go.Proofs.Ytkmigfponoagnaa
