/- One index more: catalog.Add. -/
import Derived.Test.YtemidaamnldjmaaTwin
import Derived.Test.YtemidaamnldjmaaLast
import Derived.Deep.RegionLaw
namespace Go.Proofs.Ytemidaamnldjmaa
open Go.RowKit

def LEnt.zero : LEnt := ⟨⟨0, 0, ⟨#[]⟩, [], []⟩, []⟩
def LEnt.busy (e : LEnt) : Bool := decide (0 < e.sts.length) && decide ((e.sts.getD (e.sts.length - 1) ⟨0, []⟩).phase ≠ 0)
def addE (e : LEnt) (x : LIx) : LEnt × Int :=
  if e.check ≠ 0 then (.zero, e.check) else
  if LTab.check ⟨e.tab.id, e.tab.keys, e.tab.name, e.tab.cols, e.tab.ixs ++ [x]⟩ ≠ 0 then (.zero, LTab.check ⟨e.tab.id, e.tab.keys, e.tab.name, e.tab.cols, e.tab.ixs ++ [x]⟩) else
  if e.busy = true then (.zero, 12) else (⟨⟨e.tab.id, e.tab.keys, e.tab.name, e.tab.cols, e.tab.ixs ++ [x]⟩, e.sts ++ [⟨1, pfx e.tab.id⟩]⟩, 0)

theorem LEnt.check_le {e : LEnt} (h : e.check = 0) : e.tab.ixs.length ≤ 4 ∧ e.tab.cols.length ≤ 16 ∧ e.sts.length = e.tab.ixs.length := by
  unfold LEnt.check entryI at h
  by_cases h1 : checkI e.tab.id e.tab.keys e.tab.name e.tab.cols e.tab.ixs = 0
  · rw [if_neg (by rw [h1]; decide)] at h
    have h2 : e.sts.length = e.tab.ixs.length := by
      apply Classical.byContradiction; intro hn
      rw [if_pos hn] at h; cases h
    unfold checkI at h1
    refine ⟨?_, ?_, h2⟩
    · apply Classical.byContradiction; intro hn
      by_cases h3 : 16 < e.tab.cols.length
      · rw [if_pos h3] at h1; cases h1
      · rw [if_neg h3, if_pos (by omega)] at h1; cases h1
    · apply Classical.byContradiction; intro hn
      rw [if_pos (by omega)] at h1; cases h1
  · rw [if_pos h1] at h; exact absurd h h1

/-- an entry and an error are answered -/
def RetEnt (r : LEnt × Int) (w : World) (en : Ending) (w' : World) : Prop :=
  ∃ v, en = .returned (.tuple #[v, .int .i64 r.2]) ∧ EntV w' r.1 v ∧ Below w.heap.size w w'

theorem EntV.zero (w : World) : EntV w .zero (.agg #[.int .i64 0, .string ⟨#[]⟩, .slice none 0 0, .int .i64 0, .slice none 0 0, .slice none 0 0]) :=
  ⟨none, none, none, 0, 0, 0, rfl, SlS.nil_ _ _ _ _, SlS.nil_ _ _ _ _, SlS.nil_ _ _ _ _, by decide⟩

/-- an entry whose rows and data lie in blocks of S -/
def EntVS (w : World) (S : Nat → Prop) (e : LEnt) (v : Value) : Prop :=
  ∃ A B C ca cb cs, v = .agg #[.int .i64 e.tab.id, .string e.tab.name, .slice A e.tab.cols.length ca, .int .i64 e.tab.keys, .slice B e.tab.ixs.length cb, .slice C e.sts.length cs] ∧
    SlS ColE w S A e.tab.cols ∧ SlS IxE w S B e.tab.ixs ∧ SlS StE w S C e.sts ∧ e.tab.name.size ≤ 140737488351232
theorem EntVS.zero (w : World) (S : Nat → Prop) : EntVS w S .zero (.agg #[.int .i64 0, .string ⟨#[]⟩, .slice none 0 0, .int .i64 0, .slice none 0 0, .slice none 0 0]) :=
  ⟨none, none, none, 0, 0, 0, rfl, SlS.nil_ _ _ _ _, SlS.nil_ _ _ _ _, SlS.nil_ _ _ _ _, by decide⟩
theorem EntVS.any {w : World} {S : Nat → Prop} {e : LEnt} {v : Value} (h : EntVS w S e v) : EntV w e v := by
  obtain ⟨A, B, C, ca, cb, cs, e, h1, h2, h3, h4⟩ := h
  exact ⟨A, B, C, ca, cb, cs, e, h1.any, h2.any, h3.any, h4⟩
/-- nothing of the answer lies in the old block gg -/
def RetEntG (gg : Nat) (r : LEnt × Int) (w : World) (en : Ending) (w' : World) : Prop :=
  ∃ v, en = .returned (.tuple #[v, .int .i64 r.2]) ∧ EntVS w' (fun b => b ≠ gg ∨ w.heap.size ≤ b) r.1 v ∧ Below w.heap.size w w'
theorem RetEntG.ent {gg : Nat} {r : LEnt × Int} {w w' : World} {en : Ending} (h : RetEntG gg r w en w') : RetEnt r w en w' := by
  obtain ⟨v, h1, h2, h3⟩ := h
  exact ⟨v, h1, h2.any, h3⟩

/-- .. the entry written out -/
def RetTwin (Z : Nat → Prop) (id keys : Int) (tn : ByteArray) (cols : List LCol) (ixs : List LIx) (sts : List LSt) (w : World) (en : Ending) (w' : World) : Prop :=
  ∃ A1 B1 S1 c1 c2 c3, en = .returned (.agg #[.int .i64 id, .string tn, .slice A1 cols.length c1, .int .i64 keys, .slice B1 ixs.length c2, .slice S1 sts.length c3]) ∧
    Own ColE 51 w' w.heap.size Any (.slice A1 cols.length c1) cols ∧
    Own IxE 55 w' w.heap.size (fun b => (Z b ∨ w.heap.size ≤ b) ∧ (Value.slice S1 sts.length c3).ownBlock ≠ some b) (.slice B1 ixs.length c2) ixs ∧
    Own StE 57 w' w.heap.size (fun b => (Z b ∨ w.heap.size ≤ b) ∧ (Value.slice B1 ixs.length c2).ownBlock ≠ some b) (.slice S1 sts.length c3) sts ∧ Below w.heap.size w w'
theorem twin_out (Z : Nat → Prop) (id keys : Int) (tn : ByteArray) (cols : List LCol) (ixs : List LIx) (sts : List LSt) (A B S : Option Addr) (ca cb cs : Nat) (w : World) (hA : Sl ColE w A cols) (hB : SlS IxE w Z B ixs) (hS : SlS StE w Z S sts) :
    Calls Try.prog 21 #[.agg #[.int .i64 id, .string tn, .slice A cols.length ca, .int .i64 keys, .slice B ixs.length cb, .slice S sts.length cs]] w (RetTwin Z id keys tn cols ixs sts w) := by
  refine (twin_any Z ⟨⟨id, keys, tn, cols, ixs⟩, sts⟩ A B S ca cb cs w hA hB hS).mono ?_
  rintro en w' ⟨⟨v, he, A1, B1, S1, c1, c2, c3, hv, h1, h2, h3⟩, hb⟩
  exact ⟨A1, B1, S1, c1, c2, c3, by rw [he, hv], h1, h2, h3, hb⟩

set_option maxRecDepth 100000 in
set_option maxHeartbeats 4000000 in
theorem add_g (gg : Nat) (e : LEnt) (x : LIx) (A B S C : Option Addr) (ca cb cs c : Nat) (w : World) (hA : SlS ColE w (fun b => b ≠ gg) A e.tab.cols) (hB : SlS IxE w (fun b => b ≠ gg) B e.tab.ixs) (hS : SlS StE w (fun b => b ≠ gg) S e.sts) (hn : e.tab.name.size ≤ 140737488351232)
    (hC : Is w C x.cols) (hC8 : x.cols.length * 8 ≤ 140737488351232) (hxn : x.name.size ≤ 140737488351232) :
    Calls Try.prog 19 #[.agg #[.int .i64 e.tab.id, .string e.tab.name, .slice A e.tab.cols.length ca, .int .i64 e.tab.keys, .slice B e.tab.ixs.length cb, .slice S e.sts.length cs], .agg #[.string x.name, .slice C x.cols.length c, .bool x.uniq]] w (RetEntG gg (addE e x) w) := by
  obtain ⟨i0, hi0, hz0, hz1, hz2⟩ := info_parts Try.info_xclone
  obtain ⟨i1, hi1, hy0, hy1, hy2⟩ := info_parts Try.info_sclone
  rcases e with ⟨⟨id, keys, tn, cols, ixs⟩, sts⟩
  rcases x with ⟨xn, xc, xu⟩
  simp only at hA hB hS hn hC hC8 hxn ⊢
  have b0 : Below w.heap.size w (((w.alloc (.cells #[.int .i64 id, .string tn, .slice A cols.length ca, .int .i64 keys, .slice B ixs.length cb, .slice S sts.length cs] 33)).alloc (.cells #[.string xn, .slice C xc.length c, .bool xu] 55)).alloc (.cells #[.int .i64 0, .string ⟨#[]⟩, .slice none 0 0, .int .i64 0, .slice none 0 0, .slice none 0 0] 33)) :=
    (((Below.refl _ _).alloc (Nat.le_refl _) _).alloc (by simp) _).alloc (by simp; omega) _
  have ke := ((Blk.new w 33 #[.int .i64 id, .string tn, .slice A cols.length ca, .int .i64 keys, .slice B ixs.length cb, .slice S sts.length cs]).alloc (.cells #[.string xn, .slice C xc.length c, .bool xu] 55)).alloc (.cells #[.int .i64 0, .string ⟨#[]⟩, .slice none 0 0, .int .i64 0, .slice none 0 0, .slice none 0 0] 33)
  have kx := (Blk.new (w.alloc (.cells #[.int .i64 id, .string tn, .slice A cols.length ca, .int .i64 keys, .slice B ixs.length cb, .slice S sts.length cs] 33)) 55 #[.string xn, .slice C xc.length c, .bool xu]).alloc (.cells #[.int .i64 0, .string ⟨#[]⟩, .slice none 0 0, .int .i64 0, .slice none 0 0, .slice none 0 0] 33)
  have kz := Blk.new ((w.alloc (.cells #[.int .i64 id, .string tn, .slice A cols.length ca, .int .i64 keys, .slice B ixs.length cb, .slice S sts.length cs] 33)).alloc (.cells #[.string xn, .slice C xc.length c, .bool xu] 55)) 33 #[.int .i64 0, .string ⟨#[]⟩, .slice none 0 0, .int .i64 0, .slice none 0 0, .slice none 0 0]
  have zW : (((w.alloc (.cells #[.int .i64 id, .string tn, .slice A cols.length ca, .int .i64 keys, .slice B ixs.length cb, .slice S sts.length cs] 33)).alloc (.cells #[.string xn, .slice C xc.length c, .bool xu] 55)).alloc (.cells #[.int .i64 0, .string ⟨#[]⟩, .slice none 0 0, .int .i64 0, .slice none 0 0, .slice none 0 0] 33)).heap.size = w.heap.size + 3 := by simp
  rw [show (w.alloc (.cells #[.int .i64 id, .string tn, .slice A cols.length ca, .int .i64 keys, .slice B ixs.length cb, .slice S sts.length cs] 33)).heap.size = w.heap.size + 1 by simp] at kx
  rw [show ((w.alloc (.cells #[.int .i64 id, .string tn, .slice A cols.length ca, .int .i64 keys, .slice B ixs.length cb, .slice S sts.length cs] 33)).alloc (.cells #[.string xn, .slice C xc.length c, .bool xu] 55)).heap.size = w.heap.size + 2 by simp] at kz
  go_enter Try.func19, Try.ntmps19
  go_wp2_with fail
  generalize (((w.alloc (.cells #[.int .i64 id, .string tn, .slice A cols.length ca, .int .i64 keys, .slice B ixs.length cb, .slice S sts.length cs] 33)).alloc (.cells #[.string xn, .slice C xc.length c, .bool xu] 55)).alloc (.cells #[.int .i64 0, .string ⟨#[]⟩, .slice none 0 0, .int .i64 0, .slice none 0 0, .slice none 0 0] 33)) = W0 at *
  have hA0 := (hA.mono (S' := fun b => b < w.heap.size ∧ b ≠ gg) (fun b hl h => ⟨hl, h⟩)).below b0
  have hB0 := (hB.mono (S' := fun b => b < w.heap.size ∧ b ≠ gg) (fun b hl h => ⟨hl, h⟩)).below b0
  have hS0 := (hS.mono (S' := fun b => b < w.heap.size ∧ b ≠ gg) (fun b hl h => ⟨hl, h⟩)).below b0
  have hC0 := hC.below b0
  have hrow := check_any
  refine (echeck_any id keys tn A B S ca cb cs cols ixs sts _ hA0.any.cols hB0.any.ixs hS0.any hn hA0.any.cnames hB0.any.xnames).mono ?_
  rintro en w1 ⟨rfl, b1⟩
  have z1 := b1.size
  have b01 := b0.trans (b1.mono b0.size)
  have ke1 := ke.below b1 ke.lt
  have kx1 := kx.below b1 kx.lt
  have kz1 := kz.below b1 kz.lt
  have hchk : (⟨⟨id, keys, tn, cols, ixs⟩, sts⟩ : LEnt).check = entryI id keys tn cols ixs sts := rfl
  by_cases h0 : entryI id keys tn cols ixs sts = 0
  · obtain ⟨hle1, hle2, hle3⟩ := LEnt.check_le (hchk.trans h0)
    simp only at hle1 hle2 hle3
    have hle4 : sts.length ≤ ixs.length := Nat.le_of_eq hle3
    have hle5 : ixs.length ≤ sts.length := Nat.le_of_eq hle3.symm
    clear hle3
    have d0 : (entryI id keys tn cols ixs sts != 0) = false := by rw [h0]; rfl
    have HE : Hid (addE ⟨⟨id, keys, tn, cols, ixs⟩, sts⟩ ⟨xn, xc, xu⟩ = if LTab.check ⟨id, keys, tn, cols, ixs ++ [⟨xn, xc, xu⟩]⟩ ≠ 0 then (.zero, LTab.check ⟨id, keys, tn, cols, ixs ++ [⟨xn, xc, xu⟩]⟩) else
        if (⟨⟨id, keys, tn, cols, ixs⟩, sts⟩ : LEnt).busy = true then (.zero, 12) else (⟨⟨id, keys, tn, cols, ixs ++ [⟨xn, xc, xu⟩]⟩, sts ++ [⟨1, pfx id⟩]⟩, 0)) := by
      show _ = _; unfold addE; rw [if_neg (by rw [hchk, h0]; exact fun h => h rfl)]
    clear h0 hchk
    go_wp2_with ((with_reducible refine wpList_load_blk rfl 33 (.tmp 2) rfl w.heap.size ?_ 33 _ _ ke1 Try.underlying33 ?_ Try.size_Entry ?_ ?_); rfl; rfl; rfl)
    refine (twin_out (fun b => b < w.heap.size ∧ b ≠ gg) id keys tn cols ixs sts A B S ca cb cs w1 (hA0.any.below b1) (hB0.below b1) (hS0.below b1)).mono ?_
    rintro en w2 ⟨A2, B2, S2, c4, c5, c6, rfl, oA, oB, oS, b2⟩
    have z2 := b2.size
    have zx1 : w.heap.size + 3 ≤ w1.heap.size := by omega
    replace oB := oB.mono (S' := fun b => (b ≠ w.heap.size ∧ b ≠ w.heap.size + 1 ∧ (b ≠ w.heap.size + 2 ∧ (b ≠ gg ∨ w.heap.size ≤ b)) ∧ b ≠ w2.heap.size) ∧ (Value.slice S2 sts.length c6).ownBlock ≠ some b) (fun b hl _ h => ⟨by rcases h.1 with h1 | h1 <;> omega, h.2⟩)
    replace oS := oS.mono (S' := fun b => (b ≠ w.heap.size ∧ b ≠ w.heap.size + 1 ∧ (b ≠ w.heap.size + 2 ∧ (b ≠ gg ∨ w.heap.size ≤ b)) ∧ b ≠ w2.heap.size) ∧ (Value.slice B2 ixs.length c5).ownBlock ≠ some b) (fun b hl _ h => ⟨by rcases h.1 with h1 | h1 <;> omega, h.2⟩)
    have hBlt := fun b e => (oB.lt b e).2
    have hSlt := fun b e => (oS.lt b e).2
    have hSge := fun b e => (oS.lt b e).1
    have ke2 := ke1.below b2 ke1.lt
    have kx2 := kx1.below b2 kx1.lt
    have kz2 := kz1.below b2 kz1.lt
    have q1 : w2.cell? ⟨w.heap.size + 1, 1, none⟩ = some (.slice C xc.length c) := kx2.cell 1
    have lx2 := kx2.lt
    go_wp2_with fail
    have k7 := Blk.new w2 33 #[.int .i64 id, .string tn, .slice A2 cols.length c4, .int .i64 keys, .slice B2 ixs.length c5, .slice S2 sts.length c6]
    have ha2 : Below w2.heap.size w2 (w2.alloc (.cells #[.int .i64 id, .string tn, .slice A2 cols.length c4, .int .i64 keys, .slice B2 ixs.length c5, .slice S2 sts.length c6] 33)) := (Below.refl _ _).alloc (Nat.le_refl _) _
    have zV : (w2.alloc (.cells #[.int .i64 id, .string tn, .slice A2 cols.length c4, .int .i64 keys, .slice B2 ixs.length c5, .slice S2 sts.length c6] 33)).heap.size = w2.heap.size + 1 := by simp
    generalize (w2.alloc (.cells #[.int .i64 id, .string tn, .slice A2 cols.length c4, .int .i64 keys, .slice B2 ixs.length c5, .slice S2 sts.length c6] 33)) = V2 at *
    clear q1
    refine (iclone_any C xc c V2 ((hC0.below b1).below b2 |>.below ha2) (by omega)).mono ?_
    rintro en w3 ⟨C3, c7, rfl, oC, b3⟩
    have z3 := b3.size
    have ke3 := (ke2.below ha2 ke2.lt).below b3 (by omega)
    have kx3 := (kx2.below ha2 kx2.lt).below b3 (by omega)
    have kz3 := (kz2.below ha2 kz2.lt).below b3 (by have := kz2.lt; omega)
    have k73 := k7.below b3 k7.lt
    have oA3 := (oA.below ha2).below b3
    have oB3 := (oB.below ha2).below b3
    have oS3 := (oS.below ha2).below b3
    have q1 : w3.cell? ⟨w.heap.size + 1, 1, none⟩ = some (.slice C xc.length c) := kx3.cell 1
    have f1 := kx3.frozen 1
    have lx3 := kx3.lt
    go_upto_region 6 with fail
    clear q1 f1
    have nX : ∀ (v : Value) , (∀ g, v.ownBlock = some g → w1.heap.size ≤ g) → v.ownBlock ≠ some (w.heap.size + 1) := fun v h e => by have := h _ e; omega
    have ke4 := ke3.far (p := ⟨w.heap.size + 1, 1, none⟩) (by simp) (.slice C3 xc.length c7)
    have kx4 : Blk _ _ _ #[.string xn, .slice C3 xc.length c7, .bool xu] := kx3.set_ 1 (.slice C3 xc.length c7)
    have kz4 := kz3.far (p := ⟨w.heap.size + 1, 1, none⟩) (by simp) (.slice C3 xc.length c7)
    have k74 := k73.far (p := ⟨w.heap.size + 1, 1, none⟩) (by simp; omega) (.slice C3 xc.length c7)
    have oA4 := (Own.colS (S' := fun _ => False) oA3).setCell (p := ⟨w.heap.size + 1, 1, none⟩) (nX _ fun g h => (oA3.lt g h).1) (fun h => h) (.slice C3 xc.length c7)
    have oB4 := oB3.setCell (p := ⟨w.heap.size + 1, 1, none⟩) (nX _ fun g h => (oB3.lt g h).1) (fun h => h.1.2.1 rfl) (.slice C3 xc.length c7)
    have oS4 := oS3.setCell (p := ⟨w.heap.size + 1, 1, none⟩) (nX _ fun g h => (oS3.lt g h).1) (fun h => h.1.2.1 rfl) (.slice C3 xc.length c7)
    have haC := own_at oC
    have hC4 : IxE.rep (w3.setCell ⟨w.heap.size + 1, 1, none⟩ (.slice C3 xc.length c7)) (fun b => V2.heap.size ≤ b) [.string xn, .slice C3 xc.length c7, .bool xu] ⟨xn, xc, xu⟩ := by
      have hI := Is.of_own oC hC.2
      refine ⟨C3, c7, rfl, ⟨Reads.sameS (S := fun b => V2.heap.size ≤ b) hI.1 (fun ad e hn => (haC ad e hn).1) (.of_grown (row := some (w.heap.size + 1)) (only_setCell (World.grownBy.refl w3 _) (.inl rfl) _) (fun b hb e => by have := Option.some.inj e; omega)), hC.2⟩, fun ad e hn => (haC ad e hn).1, hC8, hxn⟩
    have b05 : Below w.heap.size w (w3.setCell ⟨w.heap.size + 1, 1, none⟩ (.slice C3 xc.length c7)) := (((b01.trans (b2.mono b01.size)).trans (ha2.mono (by omega))).trans (b3.mono (by omega))).setCell (p := ⟨w.heap.size + 1, 1, none⟩) (by simp) _
    have zV3 : w3.heap.size ≤ (w3.setCell ⟨w.heap.size + 1, 1, none⟩ (.slice C3 xc.length c7)).heap.size := by simp [World.setCell]
    have zVa := Nat.le_of_eq zV.symm
    have zWa := Nat.le_of_eq zW.symm
    have zWb := Nat.le_of_eq zW
    clear zV zW
    clear ke3 kx3 kz3 k73 oA3 oB3 oS3 oC haC k7 ke2 kx2 kz2 oA oB oS
    generalize (w3.setCell ⟨w.heap.size + 1, 1, none⟩ (.slice C3 xc.length c7)) = V3 at *
    have q4 : V3.cell? ⟨w2.heap.size, 4, none⟩ = some (.slice B2 ixs.length c5) := k74.cell 4
    have p0 : V3.cell? ⟨w.heap.size + 1, 0, none⟩ = some (.string xn) := kx4.cell 0
    have p1 : V3.cell? ⟨w.heap.size + 1, 1, none⟩ = some (.slice C3 xc.length c7) := kx4.cell 1
    have p2 : V3.cell? ⟨w.heap.size + 1, 2, none⟩ = some (.bool xu) := kx4.cell 2
    obtain ⟨vsB, hoB, hfB⟩ := oB4
    have hRd : Reads (V3.alloc (.cells #[.string xn, .slice C3 xc.length c7, .bool xu] 55)) (V3.heap.size + 1) 3 (some ⟨V3.heap.size, 0, none⟩) 1 [.string xn, .slice C3 xc.length c7, .bool xu] := Reads.newN V3 [.string xn, .slice C3 xc.length c7, .bool xu] 55
    have hone := IxE.one hC4
    have hoB' : (V3.alloc (.cells #[.string xn, .slice C3 xc.length c7, .bool xu] 55)).ownsRow w1.heap.size 55 3 (.slice B2 ixs.length c5) ixs.length vsB := hoB.alloc _
    have k7a := k74.alloc (.cells #[.string xn, .slice C3 xc.length c7, .bool xu] 55)
    have hne7 := own_blk_ne hoB' k7a (by decide)
    go_wp2_with (at_builtin; (refine wpList_append_sh _ rfl (.tmp 26) (.tmp 28) _ rfl w1.heap.size 55 i0 _ 3 48 Try.underlying23 hi0 hz0 hz1 hz2 rfl (by omega) _ ixs.length vsB rfl hoB' (V3.heap.size + 1) _ 1 1 [.string xn, .slice C3 xc.length c7, .bool xu] rfl hRd hone (by simp only [maxLen]; omega) (by omega) (by simp; omega) ?_); intro B5 c8 w5 hown5 hg5 hat5; have k75 := k7a.grown hg5 (Ne.symm hne7); have q45 : w5.cell? ⟨w2.heap.size, 4, none⟩ = some (.slice B2 ixs.length c5) := k75.cell 4; have f45 := k75.frozen 4)
    have hd3 : Below V3.heap.size V3 (V3.alloc (.cells #[.string xn, .slice C3 xc.length c7, .bool xu] 55)) := (Below.refl _ _).alloc (Nat.le_refl _) _
    have ke5 := ((ke4.alloc (.cells #[.string xn, .slice C3 xc.length c7, .bool xu] 55)).grown hg5 (Ne.symm (own_blk_ne hoB' (ke4.alloc _) (by decide)))).far (p := ⟨w2.heap.size, 4, none⟩) (by have := ke4.ne_ k74; simp; omega) (.slice B5 (ixs.length + 1) c8)
    have kz5 := ((kz4.alloc (.cells #[.string xn, .slice C3 xc.length c7, .bool xu] 55)).grown hg5 (Ne.symm (own_blk_ne hoB' (kz4.alloc _) (by decide)))).far (p := ⟨w2.heap.size, 4, none⟩) (by simp; omega) (.slice B5 (ixs.length + 1) c8)
    have k75' : Blk _ _ _ #[.int .i64 id, .string tn, .slice A2 cols.length c4, .int .i64 keys, .slice B5 (ixs.length + 1) c8, .slice S2 sts.length c6] := k75.set_ 4 (.slice B5 (ixs.length + 1) c8)
    have oB5 : Own IxE 55 w5 w1.heap.size (fun b => (b ≠ w.heap.size ∧ b ≠ w.heap.size + 1 ∧ (b ≠ w.heap.size + 2 ∧ (b ≠ gg ∨ w.heap.size ≤ b)) ∧ b ≠ w2.heap.size) ∧ (Value.slice S2 sts.length c6).ownBlock ≠ some b) (.slice B5 (ixs.length + 1) c8) (ixs ++ [⟨xn, xc, xu⟩]) :=
      Own.step (ER.flat_keep hd3 hfB) (IxE.mono (IxE.keep hC4 (.of_below hd3)) (fun b _ hb => ⟨⟨by omega, fun e => by have := hSlt b e; omega⟩, fun e => by have := hBlt b e; omega⟩)) hown5 hg5 hat5
    have oA5 := (oA4.below hd3).same hg5 (by
      obtain ⟨_, h1, _⟩ := oA4
      exact own_own_ne (h1.alloc _) hoB' (by decide)) (fun _ h => absurd h (fun h => h))
    have oS5 := (oS4.below hd3).same hg5 (by
      obtain ⟨_, h1, _⟩ := oS4
      exact own_own_ne (h1.alloc _) hoB' (by decide)) (fun b h => h.2)
    have n7 : ∀ (v : Value) (t : TypeId) (size : Nat) (n : Nat) (vs : List Value), w5.ownsRow w1.heap.size t size v n vs → t ≠ 33 → v.ownBlock ≠ some w2.heap.size := fun v t size n vs h hne => own_blk_ne h k75 hne
    have oB6 := oB5.setCell (p := ⟨w2.heap.size, 4, none⟩) (by obtain ⟨_, h1, _⟩ := oB5; exact n7 _ _ _ _ _ h1 (by decide)) (fun h => h.1.2.2.2 rfl) (.slice B5 (ixs.length + 1) c8)
    have oS6 := oS5.setCell (p := ⟨w2.heap.size, 4, none⟩) (by obtain ⟨_, h1, _⟩ := oS5; exact n7 _ _ _ _ _ h1 (by decide)) (fun h => h.1.2.2.2 rfl) (.slice B5 (ixs.length + 1) c8)
    have oA6 := oA5.setCell (p := ⟨w2.heap.size, 4, none⟩) (by obtain ⟨_, h1, _⟩ := oA5; exact n7 _ _ _ _ _ h1 (by decide)) (fun h => h) (.slice B5 (ixs.length + 1) c8)
    have b06 := ((b05.alloc b05.size (.cells #[.string xn, .slice C3 xc.length c7, .bool xu] 55)).grown hg5 (by have := b05.size; simp; omega) (fun j hj => by have := hBlt j hj; have := (hoB.lt j hj).1; have := b01.size; omega)).setCell (p := ⟨w2.heap.size, 4, none⟩) (by simp; omega) (.slice B5 (ixs.length + 1) c8)
    have zV5 : w5.heap.size ≤ (w5.setCell ⟨w2.heap.size, 4, none⟩ (.slice B5 (ixs.length + 1) c8)).heap.size := by simp [World.setCell]
    have zw5 := hg5.size
    have hB5ne : ∀ b, (Value.slice B5 (ixs.length + 1) c8).ownBlock = some b → w1.heap.size ≤ b := fun b e => (oB5.lt b e).1
    clear oB5 oA5 oS5 k75 ke4 kz4 k74 kx4 oA4 oS4 hoB hfB hoB' k7a hne7 hC4 q4 p0 p1 p2 q45 f45 hown5 hg5 hat5 hRd hone
    generalize (w5.setCell ⟨w2.heap.size, 4, none⟩ (.slice B5 (ixs.length + 1) c8)) = V5 at *
    have nHN : ¬ w.heap.size = w2.heap.size := by omega
    have nHN' : ¬ w2.heap.size = w.heap.size := by omega
    obtain ⟨vsS, hoS, hfS⟩ := oS6
    have dd : Below V5.heap.size V5 V5.drew := (Below.refl _ _).drew
    have le5 := ke5.lt
    have l75 := k75'.lt
    have hfin : ∀ (w6 : World) (A9 : Option Addr) (w7 : World) (S9 : Option Addr) (c9 : Nat), w6.ownsRow V5.drew.heap.size 5 1 (.slice A9 2 2) 2 (([114, UInt8.ofInt id] : List UInt8).map bval) → Below V5.drew.heap.size V5.drew w6 →
        w7.ownsRow w1.heap.size 57 2 (.slice S9 (sts.length + 1) c9) (sts.length + 1) (vsS ++ [.int .i64 1, .slice A9 2 2]) → (w6.alloc (.cells #[.int .i64 1, .slice A9 2 2] 57)).grownBy w7 (Value.slice S2 sts.length c6).ownBlock →
        ((Value.slice S9 (sts.length + 1) c9).ownBlock = (Value.slice S2 sts.length c6).ownBlock ∨ (Value.slice S9 (sts.length + 1) c9).ownBlock = some (w6.alloc (.cells #[.int .i64 1, .slice A9 2 2] 57)).heap.size) →
        (fun wx => ∃ S9 c9, Blk wx w2.heap.size 33 #[.int .i64 id, .string tn, .slice A2 cols.length c4, .int .i64 keys, .slice B5 (ixs.length + 1) c8, .slice S9 (sts.length + 1) c9] ∧
      Blk wx w.heap.size 33 #[.int .i64 id, .string tn, .slice A cols.length ca, .int .i64 keys, .slice B ixs.length cb, .slice S sts.length cs] ∧
      Blk wx (w.heap.size + 2) 33 #[.int .i64 0, .string ⟨#[]⟩, .slice none 0 0, .int .i64 0, .slice none 0 0, .slice none 0 0] ∧
      SlS ColE wx (fun b => b ≠ w.heap.size + 2 ∧ (b ≠ gg ∨ w.heap.size ≤ b)) A2 cols ∧ SlS IxE wx (fun b => b ≠ w.heap.size + 2 ∧ (b ≠ gg ∨ w.heap.size ≤ b)) B5 (ixs ++ [⟨xn, xc, xu⟩]) ∧ SlS StE wx (fun b => b ≠ w.heap.size + 2 ∧ (b ≠ gg ∨ w.heap.size ≤ b)) S9 (sts ++ [⟨1, pfx id⟩]) ∧ Below w.heap.size w wx) (w7.setCell ⟨w2.heap.size, 5, none⟩ (.slice S9 (sts.length + 1) c9)) := by
      intro w6 A9 w7 S9 c9 o9 b6 hown7 hg7 hat7
      have z6 := b6.size
      have k76 := (k75'.below dd l75).below b6 l75
      have hoS6' : (w6.alloc (.cells #[.int .i64 1, .slice A9 2 2] 57)).ownsRow w1.heap.size 57 2 (.slice S2 sts.length c6) sts.length vsS := (own_below (own_below hoS dd) b6).alloc _
      have k76a := k76.alloc (.cells #[.int .i64 1, .slice A9 2 2] 57)
      have ke6a := ((ke5.below dd le5).below b6 le5).alloc (.cells #[.int .i64 1, .slice A9 2 2] 57)
      have k77 := k76a.grown hg7 (Ne.symm (own_blk_ne hoS6' k76a (by decide)))
      have ke7 := ke6a.grown hg7 (Ne.symm (own_blk_ne hoS6' ke6a (by decide)))
      have da : Below w6.heap.size w6 (w6.alloc (.cells #[.int .i64 1, .slice A9 2 2] 57)) := (Below.refl _ _).alloc (Nat.le_refl _) _
      have z6' : V5.heap.size ≤ w6.heap.size := z6
      have kz7 := (((kz5.below dd kz5.lt).below b6 kz5.lt).alloc (.cells #[.int .i64 1, .slice A9 2 2] 57)).grown hg7 (Ne.symm (own_blk_ne hoS6' (((kz5.below dd kz5.lt).below b6 kz5.lt).alloc _) (by decide)))
      have oA7 := (((oA6.below dd).below b6).below da).same hg7 (by
        obtain ⟨_, h1, _⟩ := (((oA6.below dd).below b6).below da)
        exact own_own_ne h1 hoS6' (by decide)) (fun _ h => absurd h (fun h => h))
      have oB7 := (((oB6.below dd).below b6).below da).same hg7 (by
        obtain ⟨_, h1, _⟩ := (((oB6.below dd).below b6).below da)
        exact own_own_ne h1 hoS6' (by decide)) (fun b h => h.2)
      have hp : Bs w6 A9 (pfx id) := Bs.of_own (l := [114, UInt8.ofInt id]) o9 (by simp)
      have hap := own_at o9
      have oS7 : Own StE 57 w7 w1.heap.size _ (.slice S9 (sts.length + 1) c9) (sts ++ [⟨1, pfx id⟩]) :=
        Own.step (S := fun b => (b ≠ w.heap.size ∧ b ≠ w.heap.size + 1 ∧ (b ≠ w.heap.size + 2 ∧ (b ≠ gg ∨ w.heap.size ≤ b)) ∧ b ≠ w2.heap.size) ∧ (Value.slice B2 ixs.length c5).ownBlock ≠ some b) (ER.flat_keep da (ER.flat_keep b6 (ER.flat_keep dd hfS)))
          (by
            refine ⟨A9, 2, rfl, hp.below da, fun ad e hn => ?_, Nat.le_refl _, by decide⟩
            have h9 := (hap ad e (by decide)).1
            have h9' : V5.heap.size ≤ ad.block := h9
            have := hoS.lt
            exact ⟨⟨by omega, fun e2 => by have := hBlt _ e2; omega⟩, fun e2 => by have := (hoS.lt _ e2).2; omega⟩) hown7 hg7 hat7
      have n8 : ∀ (v : Value) (t : TypeId) (size : Nat) (n : Nat) (vs : List Value), w7.ownsRow w1.heap.size t size v n vs → t ≠ 33 → v.ownBlock ≠ some w2.heap.size := fun v t size n vs h hne => own_blk_ne h k77 hne
      have hsc : Same (fun b => b ≠ w2.heap.size) w7 (w7.setCell ⟨w2.heap.size, 5, none⟩ (.slice S9 (sts.length + 1) c9)) := .of_grown (row := some w2.heap.size) (only_setCell (World.grownBy.refl w7 _) (p := ⟨w2.heap.size, 5, none⟩) (.inl rfl) _) (fun b hb e => hb (Option.some.inj e).symm)
      have oA8 := oA7.setCell (p := ⟨w2.heap.size, 5, none⟩) (by obtain ⟨_, h1, _⟩ := oA7; exact n8 _ _ _ _ _ h1 (by decide)) (fun h => h) (.slice S9 (sts.length + 1) c9)
      have oB8 := oB7.setCell (p := ⟨w2.heap.size, 5, none⟩) (by obtain ⟨_, h1, _⟩ := oB7; exact n8 _ _ _ _ _ h1 (by decide)) (fun h => h.1.2.2.2 rfl) (.slice S9 (sts.length + 1) c9)
      have oS8 := oS7.setCell (p := ⟨w2.heap.size, 5, none⟩) (by obtain ⟨_, h1, _⟩ := oS7; exact n8 _ _ _ _ _ h1 (by decide)) (fun h => h.1.2.2.2 rfl) (.slice S9 (sts.length + 1) c9)
      refine ⟨S9, c9, k77.set_ 5 _, ke7.far (by simp; omega) _, kz7.far (by simp; omega) _, (oA8.base (Nat.le_trans zx1 (by omega))).slS rfl (by have := hA.leb; exact this) (fun _ h => absurd h (fun h => h)) (fun b hb => by omega), ?_, ?_, ?_⟩
      · exact oB8.slS (by simp) (by simp [IxE]; omega) (fun b h => h.1.2.2.1) (fun b hb => by omega)
      · exact oS8.slS (by simp) (by simp [StE]; omega) (fun b h => h.1.2.2.1) (fun b hb => by omega)
      · exact (((b06.drew.trans (b6.mono (by have := b06.size; simp; omega))).alloc (by have := b06.size; omega) _).grown hg7 (by have := b06.size; simp; omega) (fun j hj => by have := hSge j hj; omega)).setCell (by simp; omega) _
    have HFIN := Lib.hid hfin
    clear hfin
    have q5 : V5.drew.cell? ⟨w2.heap.size, 5, none⟩ = some (.slice S2 sts.length c6) := k75'.cell 5
    have e0 : V5.drew.cell? ⟨w.heap.size, 0, none⟩ = some (.int .i64 id) := ke5.cell 0
    have e1 : V5.drew.cell? ⟨w.heap.size, 1, none⟩ = some (.string tn) := ke5.cell 1
    have e2 : V5.drew.cell? ⟨w.heap.size, 2, none⟩ = some (.slice A cols.length ca) := ke5.cell 2
    have e3 : V5.drew.cell? ⟨w.heap.size, 3, none⟩ = some (.int .i64 keys) := ke5.cell 3
    have e4 : V5.drew.cell? ⟨w.heap.size, 4, none⟩ = some (.slice B ixs.length cb) := ke5.cell 4
    go_cut [] (fun wx => ∃ S9 c9, Blk wx w2.heap.size 33 #[.int .i64 id, .string tn, .slice A2 cols.length c4, .int .i64 keys, .slice B5 (ixs.length + 1) c8, .slice S9 (sts.length + 1) c9] ∧
      Blk wx w.heap.size 33 #[.int .i64 id, .string tn, .slice A cols.length ca, .int .i64 keys, .slice B ixs.length cb, .slice S sts.length cs] ∧
      Blk wx (w.heap.size + 2) 33 #[.int .i64 0, .string ⟨#[]⟩, .slice none 0 0, .int .i64 0, .slice none 0 0, .slice none 0 0] ∧
      SlS ColE wx (fun b => b ≠ w.heap.size + 2 ∧ (b ≠ gg ∨ w.heap.size ≤ b)) A2 cols ∧ SlS IxE wx (fun b => b ≠ w.heap.size + 2 ∧ (b ≠ gg ∨ w.heap.size ≤ b)) B5 (ixs ++ [⟨xn, xc, xu⟩]) ∧ SlS StE wx (fun b => b ≠ w.heap.size + 2 ∧ (b ≠ gg ∨ w.heap.size ≤ b)) S9 (sts ++ [⟨1, pfx id⟩]) ∧ Below w.heap.size w wx)
    case first =>
     go_region_law
      (first
        | (go_simp; go_at_call 33; refine (prefix_any _ _ _ _ _ _ _ _ _ _).mono ?_; rintro en w6 ⟨A9, rfl, o9, b6⟩; have z6 := b6.size; have g5 := (b6.cell (p := ⟨w2.heap.size, 5, none⟩) l75).trans q5; have g0 := (b6.cell (p := ⟨w.heap.size, 0, none⟩) le5).trans e0; have g1 := (b6.cell (p := ⟨w.heap.size, 1, none⟩) le5).trans e1; have g2 := (b6.cell (p := ⟨w.heap.size, 2, none⟩) le5).trans e2; have g3 := (b6.cell (p := ⟨w.heap.size, 3, none⟩) le5).trans e3; have g4 := (b6.cell (p := ⟨w.heap.size, 4, none⟩) le5).trans e4; have l76 : w2.heap.size < w6.heap.size := (by simp at z6; omega); have l06 : w.heap.size < w6.heap.size := (by simp at z6; omega); have k76 := (k75'.below dd l75).below b6 l75; have hoS6 := own_below (own_below hoS dd) b6; have hRd : Reads (w6.alloc (.cells #[.int .i64 1, .slice A9 2 2] 57)) (w6.heap.size + 1) 2 (some ⟨w6.heap.size, 0, none⟩) 1 [.int .i64 1, .slice A9 2 2] := Reads.newN w6 [.int .i64 1, .slice A9 2 2] 57; have hone : ∀ u ∈ ([.int .i64 1, .slice A9 2 2] : List Value), u.oneCell' = true := (by intro u hu; simp at hu; rcases hu with rfl | rfl <;> rfl); have k76a := k76.alloc (.cells #[.int .i64 1, .slice A9 2 2] 57); have ke6a := ((ke5.below dd le5).below b6 le5).alloc (.cells #[.int .i64 1, .slice A9 2 2] 57); have hoS6' : (w6.alloc (.cells #[.int .i64 1, .slice A9 2 2] 57)).ownsRow w1.heap.size 57 2 (.slice S2 sts.length c6) sts.length vsS := hoS6.alloc _)
        | (refine step_append_sh _ rfl (.tmp 33) (.tmp 38) _ rfl w1.heap.size 57 i1 _ 2 32 Try.underlying31 hi1 hy0 hy1 hy2 rfl (by omega) _ sts.length vsS rfl hoS6' (w6.heap.size + 1) _ 1 1 [.int .i64 1, .slice A9 2 2] rfl hRd hone (by simp only [maxLen]; omega) (by omega) (by simp; omega) ?_; intro S9 c9 w7 hown7 hg7 hat7; have k77 := k76a.grown hg7 (Ne.symm (own_blk_ne hoS6' k76a (by decide))); have q57 : w7.cell? ⟨w2.heap.size, 5, none⟩ = some (.slice S2 sts.length c6) := k77.cell 5; have f57 := k77.frozen 5; have ke7 := ke6a.grown hg7 (Ne.symm (own_blk_ne hoS6' ke6a (by decide))); have h0 : w7.cell? ⟨w.heap.size, 0, none⟩ = some (.int .i64 id) := ke7.cell 0; have h1 : w7.cell? ⟨w.heap.size, 1, none⟩ = some (.string tn) := ke7.cell 1; have h2 : w7.cell? ⟨w.heap.size, 2, none⟩ = some (.slice A cols.length ca) := ke7.cell 2; have h3 : w7.cell? ⟨w.heap.size, 3, none⟩ = some (.int .i64 keys) := ke7.cell 3; have h4 : w7.cell? ⟨w.heap.size, 4, none⟩ = some (.slice B ixs.length cb) := ke7.cell 4))
     all_goals
      go_wp2_with fail
      go_meet
      case rel => exact HFIN.out w6 A9 w7 S9 c9 o9 b6 hown7 hg7 hat7
    case rest =>
      obtain ⟨S9, c9, k79, ke9, kz9, hA9, hB9, hS9, b09⟩ := hcut
      clear HFIN hoS hfS oA6 oB6 ke5 kz5 k75' dd le5 l75 b06 hBlt hSlt hSge hB5ne e0 e1 e2 e3 e4 q5
      have x0 : wc.cell? ⟨w2.heap.size, 0, none⟩ = some (.int .i64 id) := k79.cell 0
      have x1 : wc.cell? ⟨w2.heap.size, 1, none⟩ = some (.string tn) := k79.cell 1
      have x2 : wc.cell? ⟨w2.heap.size, 2, none⟩ = some (.slice A2 cols.length c4) := k79.cell 2
      have x3 : wc.cell? ⟨w2.heap.size, 3, none⟩ = some (.int .i64 keys) := k79.cell 3
      have x4 : wc.cell? ⟨w2.heap.size, 4, none⟩ = some (.slice B5 (ixs.length + 1) c8) := k79.cell 4
      have t := check_any id keys tn A2 B5 c4 c8 cols (ixs ++ [⟨xn, xc, xu⟩]) wc hA9.any.cols hB9.any.ixs hn hA9.any.cnames hB9.any.xnames
      rw [show (ixs ++ [(⟨xn, xc, xu⟩ : LIx)]).length = ixs.length + 1 by simp] at t
      go_wp2_with fail
      refine t.mono ?_
      clear t x0 x1 x2 x3 x4
      rintro en w10 ⟨rfl, b10⟩
      have k710 := k79.below b10 k79.lt
      have ke10 := ke9.below b10 ke9.lt
      have kz10 := kz9.below b10 kz9.lt
      have b010 := b09.trans (b10.mono b09.size)
      have hS10 := ((hS0.any.below (b1 : Below W0.heap.size W0 w1)))
      go_wp2_with ((with_reducible refine wpList_load_blk rfl 33 (.tmp 2) rfl w.heap.size ?_ 33 _ _ ke10 Try.underlying33 ?_ Try.size_Entry ?_ ?_); rfl; rfl; rfl)
      have hb10 : ∀ w11, Below w10.heap.size w10 w11 → Blk w11 w2.heap.size 33 #[.int .i64 id, .string tn, .slice A2 cols.length c4, .int .i64 keys, .slice B5 (ixs.length + 1) c8, .slice S9 (sts.length + 1) c9] ∧ Blk w11 (w.heap.size + 2) 33 #[.int .i64 0, .string ⟨#[]⟩, .slice none 0 0, .int .i64 0, .slice none 0 0, .slice none 0 0] ∧ Below w.heap.size w w11 :=
        fun w11 b11 => ⟨k710.below b11 k710.lt, kz10.below b11 kz10.lt, b010.trans (b11.mono b010.size)⟩
      have hgood : ∀ w11 w12, Below w10.heap.size w10 w11 → w11.grownBy w12 (some (w.heap.size + 2)) → addE ⟨⟨id, keys, tn, cols, ixs⟩, sts⟩ ⟨xn, xc, xu⟩ = (⟨⟨id, keys, tn, cols, ixs ++ [⟨xn, xc, xu⟩]⟩, sts ++ [⟨1, pfx id⟩]⟩, 0) →
          RetEntG gg (addE ⟨⟨id, keys, tn, cols, ixs⟩, sts⟩ ⟨xn, xc, xu⟩) w (.returned (.tuple #[.agg #[.int .i64 id, .string tn, .slice A2 cols.length c4, .int .i64 keys, .slice B5 (ixs.length + 1) c8, .slice S9 (sts.length + 1) c9], .int .i64 0])) w12 := by
        intro w11 w12 b11 g12 hr
        rw [hr]
        have hs : Same (fun b => b ≠ w.heap.size + 2) w11 w12 := .of_grown g12 (fun b hb e => hb (Option.some.inj e).symm)
        refine ⟨_, rfl, ⟨A2, B5, S9, c4, c8, c9, by simp, ?_, ?_, ?_, hn⟩, (b010.trans (b11.mono b010.size)).grown g12 (b010.trans (b11.mono b010.size)).size (fun j hj => by have := Option.some.inj hj; omega)⟩
        · exact (((hA9.below b10).below b11).same (hs.mono fun b _ h => h.1)).mono (fun b _ h => h.2)
        · exact (((hB9.below b10).below b11).same (hs.mono fun b _ h => h.1)).mono (fun b _ h => h.2)
        · exact (((hS9.below b10).below b11).same (hs.mono fun b _ h => h.1)).mono (fun b _ h => h.2)
      have HB10 := Lib.hid hb10
      have HGOOD := Lib.hid hgood
      have hS10 := hS.any.below b010
      clear hb10 hgood k710 kz10 ke10 k79 ke9 kz9 hA9 hB9 hS9 b09 hA hB hS hA0 hB0 hS0 hC0 b010
      have HE2 : Hid (addE ⟨⟨id, keys, tn, cols, ixs⟩, sts⟩ ⟨xn, xc, xu⟩ = if checkI id keys tn cols (ixs ++ [⟨xn, xc, xu⟩]) ≠ 0 then (.zero, checkI id keys tn cols (ixs ++ [⟨xn, xc, xu⟩])) else
        if (⟨⟨id, keys, tn, cols, ixs⟩, sts⟩ : LEnt).busy = true then (.zero, 12) else (⟨⟨id, keys, tn, cols, ixs ++ [⟨xn, xc, xu⟩]⟩, sts ++ [⟨1, pfx id⟩]⟩, 0)) := HE
      have hbz : ixs.length = 0 → (⟨⟨id, keys, tn, cols, ixs⟩, sts⟩ : LEnt).busy = false := fun h => by unfold LEnt.busy; rw [decide_eq_false (by simp only; omega)]; rfl
      have hbp : 0 < ixs.length → (⟨⟨id, keys, tn, cols, ixs⟩, sts⟩ : LEnt).busy = decide ((sts.getD (sts.length - 1) ⟨0, []⟩).phase ≠ 0) := fun h => by unfold LEnt.busy; rw [decide_eq_true (by simp only; omega), Bool.true_and]
      have HBZ := Lib.hid hbz
      have HBP := Lib.hid hbp
      clear hbz hbp HE d0
      generalize (⟨⟨id, keys, tn, cols, ixs⟩, sts⟩ : LEnt).busy = bz at HE2 HBZ HBP
      generalize checkI id keys tn cols (ixs ++ [⟨xn, xc, xu⟩]) = F at *
      generalize hgp : (sts.getD (sts.length - 1) ⟨0, []⟩).phase = P at HBP
      have HGP := Lib.hid hgp
      clear hgp
      rcases Nat.eq_zero_or_pos ixs.length with hz | hp
      · have HBF := Lib.hid (HBZ.out hz)
        refine (last_zero id keys tn A B S cols.length ca cb sts.length cs ixs.length hz w10).mono ?_
        clear hz HBZ HBP
        rintro en w11 ⟨rfl, b11⟩
        obtain ⟨k711, kz11, b011⟩ := HB10.out w11 b11
        by_cases hF : F = 0
        · have HR : Hid (addE ⟨⟨id, keys, tn, cols, ixs⟩, sts⟩ ⟨xn, xc, xu⟩ = (⟨⟨id, keys, tn, cols, ixs ++ [⟨xn, xc, xu⟩]⟩, sts ++ [⟨1, pfx id⟩]⟩, 0)) := by
            show _ = _; rw [HE2.out, if_neg (fun h => h hF), if_neg (by rw [HBF.out]; decide)]
          have d1 : (F == 0) = true := by rw [hF]; rfl
          have d2 : (F != 0) = false := by rw [hF]; rfl
          clear hF
          go_wp2_with (first
            | ((with_reducible refine wpList_load_blk rfl 33 (.tmp 7) rfl w2.heap.size ?_ 33 _ _ k711 Try.underlying33 ?_ Try.size_Entry ?_ ?_); rfl; rfl; rfl)
            | ((with_reducible refine wpList_store_blk rfl 33 (.tmp 4) (.tmp 63) rfl (w.heap.size + 2) 33 _ #[.int .i64 id, .string tn, .slice A2 cols.length c4, .int .i64 keys, .slice B5 (ixs.length + 1) c8, .slice S9 (sts.length + 1) c9] ?_ ?_ kz11 Try.size_Entry ?_ ?_ ?_ ?_); rfl; rfl; rfl; rfl; (simp [Value.oneCell']); intro w12 kz12 g12 z12))
          exact bodyPost_ret (results_cell2 rfl rfl rfl kz12 Try.underlying33 rfl Try.size_Entry) rfl (by exact HGOOD.out w11 w12 b11 g12 HR.out)
        · have HR : Hid (addE ⟨⟨id, keys, tn, cols, ixs⟩, sts⟩ ⟨xn, xc, xu⟩ = (.zero, F)) := by
            show _ = _; rw [HE2.out, if_pos hF]
          have d1 : (F == 0) = false := by rw [beq_eq_false_iff_ne]; exact hF
          have d2 : (F != 0) = true := by rw [bne_iff_ne]; exact hF
          clear hF
          go_wp2_with ((with_reducible refine wpList_store_blk rfl 33 (.tmp 4) (.tmp 61) rfl (w.heap.size + 2) 33 _ #[.int .i64 0, .string ⟨#[]⟩, .slice none 0 0, .int .i64 0, .slice none 0 0, .slice none 0 0] ?_ ?_ kz11 Try.size_Entry ?_ ?_ ?_ ?_); rfl; rfl; rfl; rfl; (simp [Value.oneCell']); intro w12 kz12 g12 z12)
          exact bodyPost_ret (results_cell2 rfl rfl rfl kz12 Try.underlying33 rfl Try.size_Entry) rfl ⟨_, by rw [HR.out]; rfl, by rw [HR.out]; exact EntVS.zero _ _, b011.grown g12 b011.size (fun j hj => by have := Option.some.inj hj; omega)⟩
      · have HBF := Lib.hid (HBP.out hp)
        refine (last_pos id keys tn A B S cols.length ca cb cs ixs.length sts w10 hS10 hp hle4 hle5 P HGP.out).mono ?_
        clear hp HBZ HBP
        rintro en w11 ⟨rfl, b11⟩
        obtain ⟨k711, kz11, b011⟩ := HB10.out w11 b11
        by_cases hF : F = 0
        · have d1 : (F == 0) = true := by rw [hF]; rfl
          have d2 : (F != 0) = false := by rw [hF]; rfl
          have HE3 : Hid (addE ⟨⟨id, keys, tn, cols, ixs⟩, sts⟩ ⟨xn, xc, xu⟩ = if bz = true then (.zero, 12) else (⟨⟨id, keys, tn, cols, ixs ++ [⟨xn, xc, xu⟩]⟩, sts ++ [⟨1, pfx id⟩]⟩, 0)) := by
            show _ = _; rw [HE2.out, if_neg (fun h => h hF)]
          clear hF HE2
          by_cases hP : P = 0
          · have HR : Hid (addE ⟨⟨id, keys, tn, cols, ixs⟩, sts⟩ ⟨xn, xc, xu⟩ = (⟨⟨id, keys, tn, cols, ixs ++ [⟨xn, xc, xu⟩]⟩, sts ++ [⟨1, pfx id⟩]⟩, 0)) := by
              show _ = _; rw [HE3.out, if_neg (by rw [HBF.out, hP]; decide)]
            have d3 : (P != 0) = false := by rw [hP]; rfl
            clear hP
            go_wp2_with (first
              | ((with_reducible refine wpList_load_blk rfl 33 (.tmp 7) rfl w2.heap.size ?_ 33 _ _ k711 Try.underlying33 ?_ Try.size_Entry ?_ ?_); rfl; rfl; rfl)
              | ((with_reducible refine wpList_store_blk rfl 33 (.tmp 4) (.tmp 63) rfl (w.heap.size + 2) 33 _ #[.int .i64 id, .string tn, .slice A2 cols.length c4, .int .i64 keys, .slice B5 (ixs.length + 1) c8, .slice S9 (sts.length + 1) c9] ?_ ?_ kz11 Try.size_Entry ?_ ?_ ?_ ?_); rfl; rfl; rfl; rfl; (simp [Value.oneCell']); intro w12 kz12 g12 z12))
            exact bodyPost_ret (results_cell2 rfl rfl rfl kz12 Try.underlying33 rfl Try.size_Entry) rfl (by exact HGOOD.out w11 w12 b11 g12 HR.out)
          · have HR : Hid (addE ⟨⟨id, keys, tn, cols, ixs⟩, sts⟩ ⟨xn, xc, xu⟩ = (.zero, 12)) := by
              show _ = _; rw [HE3.out, if_pos (by rw [HBF.out]; exact decide_eq_true hP)]
            have d3 : (P != 0) = true := by rw [bne_iff_ne]; exact hP
            clear hP
            go_wp2_with ((with_reducible refine wpList_store_blk rfl 33 (.tmp 4) (.tmp 61) rfl (w.heap.size + 2) 33 _ #[.int .i64 0, .string ⟨#[]⟩, .slice none 0 0, .int .i64 0, .slice none 0 0, .slice none 0 0] ?_ ?_ kz11 Try.size_Entry ?_ ?_ ?_ ?_); rfl; rfl; rfl; rfl; (simp [Value.oneCell']); intro w12 kz12 g12 z12)
            exact bodyPost_ret (results_cell2 rfl rfl rfl kz12 Try.underlying33 rfl Try.size_Entry) rfl ⟨_, by rw [HR.out]; rfl, by rw [HR.out]; exact EntVS.zero _ _, b011.grown g12 b011.size (fun j hj => by have := Option.some.inj hj; omega)⟩
        · have HR : Hid (addE ⟨⟨id, keys, tn, cols, ixs⟩, sts⟩ ⟨xn, xc, xu⟩ = (.zero, F)) := by
            show _ = _; rw [HE2.out, if_pos hF]
          have d1 : (F == 0) = false := by rw [beq_eq_false_iff_ne]; exact hF
          have d2 : (F != 0) = true := by rw [bne_iff_ne]; exact hF
          clear hF
          go_wp2_with ((with_reducible refine wpList_store_blk rfl 33 (.tmp 4) (.tmp 61) rfl (w.heap.size + 2) 33 _ #[.int .i64 0, .string ⟨#[]⟩, .slice none 0 0, .int .i64 0, .slice none 0 0, .slice none 0 0] ?_ ?_ kz11 Try.size_Entry ?_ ?_ ?_ ?_); rfl; rfl; rfl; rfl; (simp [Value.oneCell']); intro w12 kz12 g12 z12)
          exact bodyPost_ret (results_cell2 rfl rfl rfl kz12 Try.underlying33 rfl Try.size_Entry) rfl ⟨_, by rw [HR.out]; rfl, by rw [HR.out]; exact EntVS.zero _ _, b011.grown g12 b011.size (fun j hj => by have := Option.some.inj hj; omega)⟩
  · have HE : Hid (addE ⟨⟨id, keys, tn, cols, ixs⟩, sts⟩ ⟨xn, xc, xu⟩ = (.zero, entryI id keys tn cols ixs sts)) := by
      show _ = _; unfold addE; rw [if_pos (by rw [hchk]; exact h0), hchk]
    have d0 : (entryI id keys tn cols ixs sts != 0) = true := by rw [bne_iff_ne]; exact h0
    clear h0 hchk
    go_wp2_with ((with_reducible refine wpList_store_blk rfl 33 (.tmp 4) (.tmp 16) rfl (w.heap.size + 2) 33 _ #[.int .i64 0, .string ⟨#[]⟩, .slice none 0 0, .int .i64 0, .slice none 0 0, .slice none 0 0] ?_ ?_ kz1 Try.size_Entry ?_ ?_ ?_ ?_); rfl; rfl; rfl; rfl; (simp [Value.oneCell']); intro w2 kz2 g2 z2)
    refine bodyPost_ret (results_cell2 rfl rfl rfl kz2 Try.underlying33 rfl Try.size_Entry) rfl ⟨_, by rw [HE.out]; rfl, by rw [HE.out]; exact EntVS.zero _ _, b01.grown g2 b01.size (fun j hj => by have := Option.some.inj hj; omega)⟩

theorem add_any (e : LEnt) (x : LIx) (A B S C : Option Addr) (ca cb cs c : Nat) (w : World) (hA : Sl ColE w A e.tab.cols) (hB : Sl IxE w B e.tab.ixs) (hS : Sl StE w S e.sts) (hn : e.tab.name.size ≤ 140737488351232)
    (hC : Is w C x.cols) (hC8 : x.cols.length * 8 ≤ 140737488351232) (hxn : x.name.size ≤ 140737488351232) :
    Calls Try.prog 19 #[.agg #[.int .i64 e.tab.id, .string e.tab.name, .slice A e.tab.cols.length ca, .int .i64 e.tab.keys, .slice B e.tab.ixs.length cb, .slice S e.sts.length cs], .agg #[.string x.name, .slice C x.cols.length c, .bool x.uniq]] w (RetEnt (addE e x) w) :=
  (add_g w.heap.size e x A B S C ca cb cs c w (hA.mono fun _ hl _ => Nat.ne_of_lt hl) (hB.mono fun _ hl _ => Nat.ne_of_lt hl) (hS.mono fun _ hl _ => Nat.ne_of_lt hl) hn hC hC8 hxn).mono fun _ _ h => h.ent

end Go.Proofs.Ytemidaamnldjmaa
