/- An entry of its own: catalog.twin. -/
import Derived.Test.YtemidaamnldjmaaCatC
import Derived.Test.YtemidaamnldjmaaBlk
namespace Go.Proofs.Ytemidaamnldjmaa
open Go.RowKit

theorem Try.size_Entry : (Try.prog.info? 33).map (·.size) = some 6 := by kernel_rfl
theorem Try.size_Table : (Try.prog.info? 25).map (·.size) = some 5 := by kernel_rfl

/-- an entry's value whose rows are the call's own, from block B on, apart from each other -/
def OwnEnt (Z : Nat → Prop) (w : World) (B : Nat) (e : LEnt) (v : Value) : Prop :=
  ∃ A1 B1 S1 c1 c2 c3, v = .agg #[.int .i64 e.tab.id, .string e.tab.name, .slice A1 e.tab.cols.length c1, .int .i64 e.tab.keys, .slice B1 e.tab.ixs.length c2, .slice S1 e.sts.length c3] ∧
    Own ColE 51 w B Any (.slice A1 e.tab.cols.length c1) e.tab.cols ∧
    Own IxE 55 w B (fun b => (Z b ∨ B ≤ b) ∧ (Value.slice S1 e.sts.length c3).ownBlock ≠ some b) (.slice B1 e.tab.ixs.length c2) e.tab.ixs ∧
    Own StE 57 w B (fun b => (Z b ∨ B ≤ b) ∧ (Value.slice B1 e.tab.ixs.length c2).ownBlock ≠ some b) (.slice S1 e.sts.length c3) e.sts

set_option maxRecDepth 100000 in
set_option maxHeartbeats 2000000 in
theorem twin_any (Z : Nat → Prop) (e : LEnt) (A B S : Option Addr) (ca cb cs : Nat) (w : World) (hA : Sl ColE w A e.tab.cols) (hB : SlS IxE w Z B e.tab.ixs) (hS : SlS StE w Z S e.sts) :
    Calls Try.prog 21 #[.agg #[.int .i64 e.tab.id, .string e.tab.name, .slice A e.tab.cols.length ca, .int .i64 e.tab.keys, .slice B e.tab.ixs.length cb, .slice S e.sts.length cs]] w
      fun en w' => (∃ v, en = .returned v ∧ OwnEnt Z w' w.heap.size e v) ∧ Below w.heap.size w w' := by
  rcases e with ⟨⟨id, keys, tn, cols, ixs⟩, sts⟩
  simp only at hA hB hS ⊢
  have b0 : Below w.heap.size w ((w.alloc (.cells #[.int .i64 id, .string tn, .slice A cols.length ca, .int .i64 keys, .slice B ixs.length cb, .slice S sts.length cs] 33)).alloc (.cells #[.int .i64 0, .string ⟨#[]⟩, .slice none 0 0, .int .i64 0, .slice none 0 0, .slice none 0 0] 33)) :=
    ((Below.refl _ _).alloc (Nat.le_refl _) _).alloc (by simp) _
  have hA0 := hA.old
  have hB0 : SlS IxE w (fun b => Z b ∧ b < w.heap.size) B ixs := hB.mono fun b h1 h2 => ⟨h2, h1⟩
  have hS0 : SlS StE w (fun b => Z b ∧ b < w.heap.size) S sts := hS.mono fun b h1 h2 => ⟨h2, h1⟩
  have hbk := (Blk.new w 33 #[.int .i64 id, .string tn, .slice A cols.length ca, .int .i64 keys, .slice B ixs.length cb, .slice S sts.length cs]).alloc (.cells #[.int .i64 0, .string ⟨#[]⟩, .slice none 0 0, .int .i64 0, .slice none 0 0, .slice none 0 0] 33)
  have hbz := Blk.new (w.alloc (.cells #[.int .i64 id, .string tn, .slice A cols.length ca, .int .i64 keys, .slice B ixs.length cb, .slice S sts.length cs] 33)) 33 #[.int .i64 0, .string ⟨#[]⟩, .slice none 0 0, .int .i64 0, .slice none 0 0, .slice none 0 0]
  clear hA hB hS
  have zW : ((w.alloc (.cells #[.int .i64 id, .string tn, .slice A cols.length ca, .int .i64 keys, .slice B ixs.length cb, .slice S sts.length cs] 33)).alloc (.cells #[.int .i64 0, .string ⟨#[]⟩, .slice none 0 0, .int .i64 0, .slice none 0 0, .slice none 0 0] 33)).heap.size = w.heap.size + 2 := by simp
  rw [show (w.alloc (.cells #[.int .i64 id, .string tn, .slice A cols.length ca, .int .i64 keys, .slice B ixs.length cb, .slice S sts.length cs] 33)).heap.size = w.heap.size + 1 by simp] at hbz
  go_enter Try.func21, Try.ntmps21
  go_wp2_with fail
  generalize ((w.alloc (.cells #[.int .i64 id, .string tn, .slice A cols.length ca, .int .i64 keys, .slice B ixs.length cb, .slice S sts.length cs] 33)).alloc (.cells #[.int .i64 0, .string ⟨#[]⟩, .slice none 0 0, .int .i64 0, .slice none 0 0, .slice none 0 0] 33)) = W0 at *
  refine (cclone_any _ _ _ _ _ (hA0.below b0)).mono ?_
  rintro en w1 ⟨A1, c1, rfl, o1, b1⟩
  have z1 := b1.size
  have b01 := b0.trans (b1.mono b0.size)
  have hbk1 := hbk.below b1 hbk.lt
  have hbz1 := hbz.below b1 hbz.lt
  have q4 : w1.cell? ⟨w.heap.size, 4, none⟩ = some (.slice B ixs.length cb) := hbk1.cell 4
  have q2 : w1.cell? ⟨w.heap.size, 2, none⟩ = some (.slice A cols.length ca) := hbk1.cell 2
  have f2 := hbk1.frozen 2
  go_wp2_with fail
  clear q2 q4 f2
  have hB1 := (hB0.below b01).setCell (p := ⟨w.heap.size, 2, none⟩) (fun h => absurd h.2 (Nat.lt_irrefl _)) (.slice A1 cols.length c1)
  have hS1 := (hS0.below b01).setCell (p := ⟨w.heap.size, 2, none⟩) (fun h => absurd h.2 (Nat.lt_irrefl _)) (.slice A1 cols.length c1)
  have o1' := o1.setCell (p := ⟨w.heap.size, 2, none⟩) (fun e => by have := (o1.lt _ e).1; simp at this; omega) (by simp) (.slice A1 cols.length c1)
  have b01' := b01.setCell (p := ⟨w.heap.size, 2, none⟩) (Nat.le_refl _) (.slice A1 cols.length c1)
  have hbk1' : Blk _ _ _ #[.int .i64 id, .string tn, .slice A1 cols.length c1, .int .i64 keys, .slice B ixs.length cb, .slice S sts.length cs] := hbk1.set_ 2 (.slice A1 cols.length c1)
  have hbz1' := hbz1.far (p := ⟨w.heap.size, 2, none⟩) (by simp) (.slice A1 cols.length c1)
  have z1' : (w1.setCell ⟨w.heap.size, 2, none⟩ (.slice A1 cols.length c1)).heap.size = w1.heap.size := by simp [World.setCell]
  generalize w1.setCell ⟨w.heap.size, 2, none⟩ (.slice A1 cols.length c1) = W1 at *
  clear hbk hbz hbk1 hbz1 b01
  refine (xclone_any _ _ _ _ _ hB1).mono ?_
  rintro en w2 ⟨B1, c2, rfl, o2, b2⟩
  have z2 := b2.size
  have b02 := b01'.trans (b2.mono b01'.size)
  have hbk2 := hbk1'.below b2 hbk1'.lt
  have hbz2 := hbz1'.below b2 hbz1'.lt
  have q4 : w2.cell? ⟨w.heap.size, 4, none⟩ = some (.slice B ixs.length cb) := hbk2.cell 4
  have f4 := hbk2.frozen 4
  have hil : ixs.length ≤ 140737488351232 := hB1.le
  have hib : ixs.length * IxE.bytes ≤ 140737488351232 := hB1.leb
  have HIB := Lib.hid hib
  clear hib
  have hS2 := (hS1.below b2).setCell (p := ⟨w.heap.size, 4, none⟩) (fun h => absurd h.2 (Nat.lt_irrefl _)) (.slice B1 ixs.length c2)
  have o12 := (o1'.below b2).setCell (p := ⟨w.heap.size, 4, none⟩) (fun e => by have := (o1.lt _ e).1; simp at this; omega) (by simp) (.slice B1 ixs.length c2)
  have o2' := o2.setCell (p := ⟨w.heap.size, 4, none⟩) (fun e => by have := (o2.lt _ e).1; simp at this; omega) (fun h => absurd h.2 (Nat.lt_irrefl _)) (.slice B1 ixs.length c2)
  have b02' := b02.setCell (p := ⟨w.heap.size, 4, none⟩) (Nat.le_refl _) (.slice B1 ixs.length c2)
  have hbk2' : Blk _ _ _ #[.int .i64 id, .string tn, .slice A1 cols.length c1, .int .i64 keys, .slice B1 ixs.length c2, .slice S sts.length cs] := hbk2.set_ 4 (.slice B1 ixs.length c2)
  have hbz2' := hbz2.far (p := ⟨w.heap.size, 4, none⟩) (by simp) (.slice B1 ixs.length c2)
  have z2' : (w2.setCell ⟨w.heap.size, 4, none⟩ (.slice B1 ixs.length c2)).heap.size = w2.heap.size := by simp [World.setCell]
  have q4' : (w2.setCell ⟨w.heap.size, 4, none⟩ (.slice B1 ixs.length c2)).cell? ⟨w.heap.size, 4, none⟩ = some (.slice B1 ixs.length c2) := hbk2'.cell 4
  go_wp2_with fail
  clear q4 q4' f4 hB1 hS1 o2 o1' hbk2 hbz2 b02 hbk1' hbz1'
  generalize w2.setCell ⟨w.heap.size, 4, none⟩ (.slice B1 ixs.length c2) = W2 at *
  go_loopw [23] (fun i wr => ∃ k : Nat, k ≤ ixs.length ∧ i = .int .i64 k ∧ W2.grownBy wr (Value.slice B1 ixs.length c2).ownBlock ∧ Own IxE 55 wr W1.heap.size (fun b => (Z b ∧ b < w.heap.size) ∨ w.heap.size + 2 ≤ b) (.slice B1 ixs.length c2) ixs) (fun i _ => ixs.length - (intOf i).toNat)
  case atStart => exact ⟨0, Nat.zero_le _, rfl, World.grownBy.refl _ _, o2'.mono (fun _ _ _ h => .inl h)⟩
  case round =>
    obtain ⟨k, hk, rfl, hG, hO⟩ := hrel
    by_cases hlt : k < ixs.length
    · have hpos : 0 < ixs.length := by omega
      obtain ⟨g, rfl, hg1, hg2⟩ := hO.form hpos
      obtain ⟨ad, C, c, had, _, c0, e1, e2, hI, hI8, _⟩ := IxE.at_ (hO.sl HIB.out) hlt
      obtain rfl := Option.some.inj had
      rw [add_row] at c0 e1 e2
      have hbk3 := hbk2'.grown hG (by simp [Value.ownBlock]; omega)
      have q4 : wr.cell? ⟨w.heap.size, 4, none⟩ = some (.slice (some ⟨g, 0, none⟩) ixs.length c2) := hbk3.cell 4
      have hwl : w.heap.size < wr.heap.size := hbk3.lt
      have hfz := hO.frozen (k * 3 + 1)
      have hd : Below wr.heap.size wr (wr.alloc (.cells #[.string ixs[k].name, .slice C ixs[k].cols.length c, .bool ixs[k].uniq] 55)).drew := ((Below.refl _ _).alloc (Nat.le_refl _) _).drew
      have p4 : (wr.alloc (.cells #[.string ixs[k].name, .slice C ixs[k].cols.length c, .bool ixs[k].uniq] 55)).drew.cell? ⟨w.heap.size, 4, none⟩ = some (.slice (some ⟨g, 0, none⟩) ixs.length c2) := (hd.cell (p := ⟨w.heap.size, 4, none⟩) hwl).trans q4
      have p1 : (wr.alloc (.cells #[.string ixs[k].name, .slice C ixs[k].cols.length c, .bool ixs[k].uniq] 55)).drew.cell? ⟨wr.heap.size, 1, none⟩ = some (.slice C ixs[k].cols.length c) := (Blk.new wr 55 #[.string ixs[k].name, .slice C ixs[k].cols.length c, .bool ixs[k].uniq]).cell 1
      have hI' := hI.below hd
      have ng1 : ¬ g = w.heap.size := by omega
      have ng2 : ¬ g = wr.heap.size := by omega
      go_upto_region 6 with fail
      go_region_held3 (fun w' => w'.cell? ⟨w.heap.size, 4, none⟩ = some (.slice (some ⟨g, 0, none⟩) ixs.length c2) ∧ w'.cell? ⟨wr.heap.size, 1, none⟩ = some (.slice C ixs[k].cols.length c)) (first | assumption | go_keep)
        ((go_at_call 32; refine (iclone_any C ixs[k].cols c _ hI' (by omega)).mono ?_; rintro en w3 ⟨A3, c3, rfl, o3, b3⟩; have p4' := (b3.cell (p := ⟨w.heap.size, 4, none⟩) (by simp; omega)).trans p4; have p1' := (b3.cell (p := ⟨wr.heap.size, 1, none⟩) (by simp)).trans p1; have pf' := (b3.frozen (p := ⟨g, k * 3 + 1, none⟩) (by simp; omega)).trans ((hd.frozen (p := ⟨g, k * 3 + 1, none⟩) hg2).trans hfz); have pc' := (b3.cell (p := ⟨g, k * 3 + 1, none⟩) (by simp; omega)).trans ((hd.cell (p := ⟨g, k * 3 + 1, none⟩) hg2).trans e1)))
      go_wp2_with fail
      go_roundw
      case rel =>
        refine ⟨k + 1, by omega, by go_num, ?_, ?_⟩
        · exact only_setCell ((hG.trans (only_of_below hd _)).trans (only_of_below b3 _)) (p := ⟨g, k * 3 + 1, none⟩) (.inl rfl) _
        · refine ((hO.below hd).below b3).put hlt (j := 1) (by decide) ?_
          rintro v ⟨C', c', rfl, _, _, hl8, hnm⟩
          have ha3 := own_at o3
          refine ⟨A3, c3, rfl, ⟨Reads.sameS (S := fun b => g ≠ b) (Is.of_own o3 hI.2).1 (fun ad e hn => by have := (ha3 ad e hn).1; simp at this; omega) (.of_grown (row := some g) (only_setCell (World.grownBy.refl w3 _) (.inl rfl) _) (fun b hb e => hb (Option.some.inj e))), hI.2⟩, fun ad e hn => ⟨.inr (by have := (ha3 ad e hn).1; simp at this; omega), ?_⟩, hl8, hnm⟩
          have := (ha3 ad e hn).1
          intro e
          have := Option.some.inj e
          simp at *
          omega
      case measure => simp [intOf]; omega
    · obtain rfl : k = ixs.length := by omega
      have hbk3 := hbk2'.grown hG (fun e => by have := (o2'.lt _ e.symm).1; omega)
      have hbz3 := hbz2'.grown hG (fun e => by have := (o2'.lt _ e.symm).1; omega)
      have z3 : W2.heap.size ≤ wr.heap.size := hG.size
      have b03 : Below w.heap.size w wr := b02'.grown hG b02'.size (fun j hj => by have := (o2'.lt j hj).1; omega)
      have oc3 : Own ColE 51 wr W0.heap.size (fun b => b < w.heap.size) (.slice A1 cols.length c1) cols := o12.same hG (by
        obtain ⟨_, h1, _⟩ := o12
        obtain ⟨_, h2, _⟩ := o2'
        exact own_own_ne h1 h2 (by decide)) (fun b hb e => by have := (o2'.lt b e).1; omega)
      have hS3 : SlS StE wr (fun b => Z b ∧ b < w.heap.size) S sts := hS2.same (.of_grown hG fun b hb e => by have := (o2'.lt b e).1; have := hb.2; omega)
      have ox3 := hO.mono (S' := fun b => ((Z b ∧ b < w.heap.size) ∨ w.heap.size + 2 ≤ b) ∧ b < wr.heap.size) (fun b hb _ h => ⟨h, hb⟩)
      clear hG hO o12 o2' hS2 hbk2' hbz2' b02'
      obtain ⟨wm, rfl⟩ : ∃ wm : World, wm = wr := ⟨_, rfl⟩
      have hBlt : ∀ b, (Value.slice B1 ixs.length c2).ownBlock = some b → W1.heap.size ≤ b ∧ b < wm.heap.size := fun b e => ox3.lt b e
      have q5 : wm.cell? ⟨w.heap.size, 5, none⟩ = some (.slice S sts.length cs) := hbk3.cell 5
      go_wp2_with fail
      refine (sclone_any _ _ _ _ _ hS3).mono ?_
      rintro en w4 ⟨S1, c3, rfl, o4, b4⟩
      have z4 := b4.size
      have b04 := (b03.trans (b4.mono b03.size)).setCell (p := ⟨w.heap.size, 5, none⟩) (Nat.le_refl _) (.slice S1 sts.length c3)
      have hbk4 := hbk3.below b4 hbk3.lt
      have hbk4' : Blk _ _ _ #[.int .i64 id, .string tn, .slice A1 cols.length c1, .int .i64 keys, .slice B1 ixs.length c2, .slice S1 sts.length c3] := hbk4.set_ 5 (.slice S1 sts.length c3)
      have hbz4 := (hbz3.below b4 hbz3.lt).far (p := ⟨w.heap.size, 5, none⟩) (by simp) (.slice S1 sts.length c3)
      have q5' : w4.cell? ⟨w.heap.size, 5, none⟩ = some (.slice S sts.length cs) := hbk4.cell 5
      have q6 : (w4.setCell ⟨w.heap.size, 5, none⟩ (.slice S1 sts.length c3)).cell? ⟨w.heap.size, 5, none⟩ = some (.slice S1 sts.length c3) := hbk4'.cell 5
      have f5 := hbk4.frozen 5
      have hsl : sts.length ≤ 140737488351232 := hS3.le
      have hsb : sts.length * StE.bytes ≤ 140737488351232 := hS3.leb
      have HSB := Lib.hid hsb
      clear hsb
      have oc4 := (oc3.below b4).setCell (p := ⟨w.heap.size, 5, none⟩) (fun e => by have := (oc3.lt _ e).1; simp at this; omega) (by simp) (.slice S1 sts.length c3)
      have ox4 := (ox3.below b4).setCell (p := ⟨w.heap.size, 5, none⟩) (fun e => by have := (ox3.lt _ e).1; simp at this; omega) (fun h => by rcases h.1 with h | h; exact absurd h.2 (Nat.lt_irrefl _); exact absurd h (by simp)) (.slice S1 sts.length c3)
      have os4 := o4.setCell (p := ⟨w.heap.size, 5, none⟩) (fun e => by have := (o4.lt _ e).1; simp at this; omega) (fun h => absurd h.2 (Nat.lt_irrefl _)) (.slice S1 sts.length c3)
      have z4' : (w4.setCell ⟨w.heap.size, 5, none⟩ (.slice S1 sts.length c3)).heap.size = w4.heap.size := by simp [World.setCell]
      go_wp2_with fail
      clear q5 q5' q6 f5 hbk3 hbz3 hbk4 oc3 ox3 o4 b03 hS3
      generalize w4.setCell ⟨w.heap.size, 5, none⟩ (.slice S1 sts.length c3) = W4 at *
      go_loopw [45] (fun i wr => ∃ k : Nat, k ≤ sts.length ∧ i = .int .i64 k ∧ W4.grownBy wr (Value.slice S1 sts.length c3).ownBlock ∧ Own StE 57 wr wm.heap.size (fun b => ((Z b ∧ b < w.heap.size) ∨ w.heap.size + 2 ≤ b) ∧ (Value.slice B1 ixs.length c2).ownBlock ≠ some b) (.slice S1 sts.length c3) sts) (fun i _ => sts.length - (intOf i).toNat)
      case atStart => exact ⟨0, Nat.zero_le _, rfl, World.grownBy.refl _ _, os4.mono (fun b _ _ h => ⟨.inl h, fun e => by have := (hBlt b e).1; have := h.2; omega⟩)⟩
      case round =>
        obtain ⟨k, hk, rfl, hG, hO⟩ := hrel
        by_cases hlt : k < sts.length
        · have hpos : 0 < sts.length := by omega
          obtain ⟨g, rfl, hg1, hg2⟩ := hO.form hpos
          obtain ⟨ad, C, c, had, _, c0, e1, hcur, _⟩ := StE.at_ (hO.sl HSB.out) hlt
          obtain rfl := Option.some.inj had
          rw [add_row] at c0 e1
          have hbk5 := hbk4'.grown hG (by simp [Value.ownBlock]; omega)
          have q5 : wr.cell? ⟨w.heap.size, 5, none⟩ = some (.slice (some ⟨g, 0, none⟩) sts.length c3) := hbk5.cell 5
          have hwl : w.heap.size < wr.heap.size := hbk5.lt
          have hfz := hO.frozen (k * 2 + 1)
          have hd : Below wr.heap.size wr (wr.alloc (.cells #[.int .i64 sts[k].phase, .slice C sts[k].cur.length c] 57)).drew := ((Below.refl _ _).alloc (Nat.le_refl _) _).drew
          have p5 : (wr.alloc (.cells #[.int .i64 sts[k].phase, .slice C sts[k].cur.length c] 57)).drew.cell? ⟨w.heap.size, 5, none⟩ = some (.slice (some ⟨g, 0, none⟩) sts.length c3) := (hd.cell (p := ⟨w.heap.size, 5, none⟩) hwl).trans q5
          have p1 : (wr.alloc (.cells #[.int .i64 sts[k].phase, .slice C sts[k].cur.length c] 57)).drew.cell? ⟨wr.heap.size, 1, none⟩ = some (.slice C sts[k].cur.length c) := (Blk.new wr 57 #[.int .i64 sts[k].phase, .slice C sts[k].cur.length c]).cell 1
          have hcur' := hcur.below hd
          have ng1 : ¬ g = w.heap.size := by omega
          have ng2 : ¬ g = wr.heap.size := by omega
          go_upto_region 12 with fail
          go_region_held3 (fun w' => w'.cell? ⟨w.heap.size, 5, none⟩ = some (.slice (some ⟨g, 0, none⟩) sts.length c3) ∧ w'.cell? ⟨wr.heap.size, 1, none⟩ = some (.slice C sts[k].cur.length c)) (first | assumption | go_keep)
            ((go_at_call 42; refine (bclone_any C sts[k].cur c _ hcur').mono ?_; rintro en w5 ⟨A3, c5, rfl, o5, b5⟩; have p5' := (b5.cell (p := ⟨w.heap.size, 5, none⟩) (by simp; omega)).trans p5; have p1' := (b5.cell (p := ⟨wr.heap.size, 1, none⟩) (by simp)).trans p1; have pf' := (b5.frozen (p := ⟨g, k * 2 + 1, none⟩) (by simp; omega)).trans ((hd.frozen (p := ⟨g, k * 2 + 1, none⟩) hg2).trans hfz); have pc' := (b5.cell (p := ⟨g, k * 2 + 1, none⟩) (by simp; omega)).trans ((hd.cell (p := ⟨g, k * 2 + 1, none⟩) hg2).trans e1)))
          go_wp2_with fail
          go_roundw
          case rel =>
            refine ⟨k + 1, by omega, by go_num, ?_, ?_⟩
            · exact only_setCell ((hG.trans (only_of_below hd _)).trans (only_of_below b5 _)) (p := ⟨g, k * 2 + 1, none⟩) (.inl rfl) _
            · refine ((hO.below hd).below b5).put hlt (j := 1) (by decide) ?_
              rintro v ⟨C', c', rfl, h1, _⟩
              have ha3 := own_at o5
              have hb5 := Bs.of_own o5 h1.le
              refine ⟨A3, c5, rfl, hb5.sameS (S := fun b => g ≠ b) (fun ad e hn => by have := (ha3 ad e hn).1; simp at this; omega) (.of_grown (row := some g) (only_setCell (World.grownBy.refl w5 _) (.inl rfl) _) (fun b hb e => hb (Option.some.inj e))), fun ad e hn => ⟨⟨.inr (by have := (ha3 ad e hn).1; simp at this; omega), fun e2 => ?_⟩, ?_⟩, own_caps o5⟩
              · have h1 := (ha3 ad e hn).1
                have h2 := (hBlt _ e2).2
                have h3 := hG.size
                simp at h1
                omega
              · have := (ha3 ad e hn).1
                intro e
                have := Option.some.inj e
                simp at *
                omega
          case measure => simp [intOf]; omega
        · obtain rfl : k = sts.length := by omega
          have hne : ∀ b, (Value.slice S1 sts.length c3).ownBlock = some b → wm.heap.size ≤ b ∧ b < W4.heap.size := fun b e => by
            have := os4.lt b e
            exact this
          have hbk6 := hbk4'.grown hG (fun e => by have := (hne _ e.symm).1; omega)
          have hbz6 := hbz4.grown hG (fun e => by have := (hne _ e.symm).1; omega)
          have b06 : Below w.heap.size w wr := b04.grown hG b04.size (fun j hj => by have := (hne j hj).1; omega)
          have oc6 : Own ColE 51 wr W0.heap.size (fun b => b < w.heap.size) (.slice A1 cols.length c1) cols := oc4.same hG (by
            obtain ⟨_, h1, _⟩ := oc4
            obtain ⟨_, h2, _⟩ := os4
            exact own_own_ne h1 h2 (by decide)) (fun b hb e => by have := (hne b e).1; omega)
          have ox6 := ox4.same hG (by
            obtain ⟨_, h1, _⟩ := ox4
            obtain ⟨_, h2, _⟩ := os4
            exact own_own_ne h1 h2 (by decide)) (fun b hb e => by have := (hne b e).1; have := hb.2; omega)
          have hfin : ∀ W', wr.grownBy W' (some (w.heap.size + 1)) → (∃ v, Ending.returned (.agg #[.int .i64 id, .string tn, .slice A1 cols.length c1, .int .i64 keys, .slice B1 ixs.length c2, .slice S1 sts.length c3]) = .returned v ∧ OwnEnt Z W' w.heap.size ⟨⟨id, keys, tn, cols, ixs⟩, sts⟩ v) ∧ Below w.heap.size w W' := by
            intro W' hG6
            have n1 : ∀ (v : Value) (N : Nat), w.heap.size + 2 ≤ N → (∀ g, v.ownBlock = some g → N ≤ g) → v.ownBlock = none ∨ v.ownBlock ≠ some (w.heap.size + 1) := fun v N hN h => .inr fun e => by have := h _ e; omega
            refine ⟨⟨_, rfl, A1, B1, S1, c1, c2, c3, rfl, ?_, ?_, ?_⟩, b06.grown hG6 b06.size (fun j hj => by have := Option.some.inj hj; omega)⟩
            · exact (((oc6.same hG6 (n1 _ W0.heap.size (by omega) fun g hg => (oc6.lt g hg).1) (fun b hb e => by have := Option.some.inj e; omega)).mono (fun _ _ _ _ => trivial))).base (by omega)
            · exact (((ox6.same hG6 (n1 _ W1.heap.size (by omega) fun g hg => (ox6.lt g hg).1) (fun b hb e => by have := Option.some.inj e; rcases hb.1 with h | h; (have := h.2; omega); omega)).mono (fun b _ _ h => ⟨h.1.imp (fun h => h.1) (fun h => by omega), fun e => by have := (hne b e).1; have := h.2; omega⟩))).base (by omega)
            · exact (((hO.same hG6 (n1 _ wm.heap.size (by omega) fun g hg => (hO.lt g hg).1) (fun b hb e => by have := Option.some.inj e; rcases hb.1 with h | h; (have := h.2; omega); omega)).mono (fun _ _ _ h => ⟨h.1.imp (fun h => h.1) (fun h => by omega), h.2⟩))).base (by omega)
          have HFIN := Lib.hid hfin
          clear hfin hG hO oc4 ox4 os4 oc6 ox6 hbk4' hbz4 b04 hne
          go_wp2_with (first
            | ((with_reducible refine wpList_load_blk rfl 33 (.tmp 1) rfl w.heap.size ?_ 33 _ _ hbk6 Try.underlying33 ?_ Try.size_Entry ?_ ?_); rfl; rfl; rfl)
            | ((with_reducible refine wpList_store_blk rfl 33 (.tmp 2) (.tmp 59) rfl (w.heap.size + 1) 33 _ #[.int .i64 id, .string tn, .slice A1 cols.length c1, .int .i64 keys, .slice B1 ixs.length c2, .slice S1 sts.length c3] ?_ ?_ hbz6 Try.size_Entry ?_ ?_ ?_ ?_); rfl; rfl; rfl; rfl; (simp [Value.oneCell']); intro w9 kz9 g9 z9))
          exact bodyPost_ret (results_cell rfl rfl kz9 Try.underlying33 rfl Try.size_Entry) rfl (HFIN.out _ g9)
end Go.Proofs.Ytemidaamnldjmaa
