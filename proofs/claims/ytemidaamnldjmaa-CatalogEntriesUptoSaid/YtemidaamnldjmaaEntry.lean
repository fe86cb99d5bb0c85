/- The program's entry made of the document's: caissonlaw21.entry. -/
import Derived.Test.YtemidaamnldjmaaAdd
import Derived.Test.YtemidaamnldjmaaCopy
namespace Go.Proofs.Ytemidaamnldjmaa
open Go.RowKit

theorem own_emptyE {X : World} {g base size : Nat} {t : TypeId} (h : Blk X g t #[]) (hb : base ≤ g) : X.ownsRow base t size (.slice (some ⟨g, 0, none⟩) 0 0) 0 [] :=
  ⟨by simp, .inr ⟨g, 0, #[], rfl, hb, h, by omega, by simp [maxLen], by simp, by simp⟩⟩
theorem le_own0E {a g c n : Nat} (h : a ≤ g) : ∀ j, (Value.slice (some ⟨g, 0, none⟩) n c).ownBlock = some j → a ≤ j := fun j hj => by
  have hq : g = j := Option.some.inj hj
  subst hq
  exact h
theorem ne_own0E {g g0 c n : Nat} (h : g ≠ g0) : some g ≠ (Value.slice (some ⟨g0, 0, none⟩) n c).ownBlock := fun e => h (Option.some.inj e)
/-- the entry written out -/
def RetEntry (id keys : Int) (tn : ByteArray) (cols : List LCol) (ixs : List LIx) (sts : List LSt) (w : World) (en : Ending) (w' : World) : Prop :=
  ∃ A1 B1 S1 c1 c2 c3, en = .returned (.agg #[.int .i64 id, .string tn, .slice A1 cols.length c1, .int .i64 keys, .slice B1 ixs.length c2, .slice S1 sts.length c3]) ∧
    SlS ColE w' (fun b => w.heap.size ≤ b) A1 cols ∧ SlS IxE w' (fun b => w.heap.size ≤ b) B1 ixs ∧ SlS StE w' (fun b => w.heap.size ≤ b) S1 sts ∧ Below w.heap.size w w'

set_option maxRecDepth 100000 in
set_option maxHeartbeats 4000000 in
theorem entry_any (id keys : Int) (tn : ByteArray) (A B S : Option Addr) (ca cb cs : Nat) (cols : List LCol) (ixs : List LIx) (sts : List LSt) (w : World) (hA : Sl ColE w A cols) (hB : Sl IxE w B ixs) (hS : Sl StE w S sts) :
    Calls Try.prog 8 #[.agg #[.int .i64 id, .string tn, .slice A cols.length ca, .int .i64 keys, .slice B ixs.length cb, .slice S sts.length cs]] w (RetEntry id keys tn cols ixs sts w) := by
  obtain ⟨i0, hi0, hz0, hz1, hz2⟩ := info_parts Try.info_cclone
  obtain ⟨i1, hi1, hx0, hx1, hx2⟩ := info_parts Try.infoI
  obtain ⟨i2, hi2, hy0, hy1, hy2⟩ := info_parts Try.info_xclone
  obtain ⟨i3, hi3, hs0, hs1, hs2⟩ := info_parts Try.info_sclone
  have b3 : Below w.heap.size w (((w.alloc (.cells #[.int .i64 id, .string tn, .slice A cols.length ca, .int .i64 keys, .slice B ixs.length cb, .slice S sts.length cs] 28)).alloc (.cells #[.int .i64 0, .string ⟨#[]⟩, .slice none 0 0, .int .i64 0, .slice none 0 0, .slice none 0 0] 33)).alloc (.cells #[.int .i64 id, .string tn, .slice A cols.length ca, .int .i64 keys, .slice B ixs.length cb, .slice none 0 0] 33)) := (((Below.refl _ _).alloc (Nat.le_refl _) _).alloc (by simp) _).alloc (by simp; omega) _
  have ke := ((Blk.new w 28 #[.int .i64 id, .string tn, .slice A cols.length ca, .int .i64 keys, .slice B ixs.length cb, .slice S sts.length cs]).alloc (.cells #[.int .i64 0, .string ⟨#[]⟩, .slice none 0 0, .int .i64 0, .slice none 0 0, .slice none 0 0] 33)).alloc (.cells #[.int .i64 id, .string tn, .slice A cols.length ca, .int .i64 keys, .slice B ixs.length cb, .slice none 0 0] 33)
  have kz := (Blk.new (w.alloc (.cells #[.int .i64 id, .string tn, .slice A cols.length ca, .int .i64 keys, .slice B ixs.length cb, .slice S sts.length cs] 28)) 33 #[.int .i64 0, .string ⟨#[]⟩, .slice none 0 0, .int .i64 0, .slice none 0 0, .slice none 0 0]).alloc (.cells #[.int .i64 id, .string tn, .slice A cols.length ca, .int .i64 keys, .slice B ixs.length cb, .slice none 0 0] 33)
  have kG := Blk.new ((w.alloc (.cells #[.int .i64 id, .string tn, .slice A cols.length ca, .int .i64 keys, .slice B ixs.length cb, .slice S sts.length cs] 28)).alloc (.cells #[.int .i64 0, .string ⟨#[]⟩, .slice none 0 0, .int .i64 0, .slice none 0 0, .slice none 0 0] 33)) 33 #[.int .i64 id, .string tn, .slice A cols.length ca, .int .i64 keys, .slice B ixs.length cb, .slice none 0 0]
  rw [show (w.alloc (.cells #[.int .i64 id, .string tn, .slice A cols.length ca, .int .i64 keys, .slice B ixs.length cb, .slice S sts.length cs] 28)).heap.size = w.heap.size + 1 by simp] at kz
  rw [show ((w.alloc (.cells #[.int .i64 id, .string tn, .slice A cols.length ca, .int .i64 keys, .slice B ixs.length cb, .slice S sts.length cs] 28)).alloc (.cells #[.int .i64 0, .string ⟨#[]⟩, .slice none 0 0, .int .i64 0, .slice none 0 0, .slice none 0 0] 33)).heap.size = w.heap.size + 2 by simp] at kG
  have z3 : w.heap.size + 3 ≤ (((w.alloc (.cells #[.int .i64 id, .string tn, .slice A cols.length ca, .int .i64 keys, .slice B ixs.length cb, .slice S sts.length cs] 28)).alloc (.cells #[.int .i64 0, .string ⟨#[]⟩, .slice none 0 0, .int .i64 0, .slice none 0 0, .slice none 0 0] 33)).alloc (.cells #[.int .i64 id, .string tn, .slice A cols.length ca, .int .i64 keys, .slice B ixs.length cb, .slice none 0 0] 33)).heap.size := by simp
  have hAl := hA.leb
  have hBl := hB.leb
  have hSl := hS.leb
  have hA3 := hA.old.below b3
  have hB3 := hB.old.below b3
  have hS3 := hS.old.below b3
  go_enter Try.func8, Try.ntmps8
  go_upto_region 2 with fail
  generalize (((w.alloc (.cells #[.int .i64 id, .string tn, .slice A cols.length ca, .int .i64 keys, .slice B ixs.length cb, .slice S sts.length cs] 28)).alloc (.cells #[.int .i64 0, .string ⟨#[]⟩, .slice none 0 0, .int .i64 0, .slice none 0 0, .slice none 0 0] 33)).alloc (.cells #[.int .i64 id, .string tn, .slice A cols.length ca, .int .i64 keys, .slice B ixs.length cb, .slice none 0 0] 33)) = V3 at *
  obtain ⟨vsA, hrA, hfA⟩ := SlS.reads hA3
  have honeA := ER.flat_one hfA
  have e2 : V3.cell? ⟨w.heap.size, 2, none⟩ = some (.slice A cols.length ca) := ke.cell 2
  have g2 : V3.cell? ⟨w.heap.size + 2, 2, none⟩ = some (.slice A cols.length ca) := kG.cell 2
  have g4 : V3.cell? ⟨w.heap.size + 2, 4, none⟩ = some (.slice B ixs.length cb) := kG.cell 4
  have le := ke.lt
  have lG := kG.lt
  have hm1 : 0 + cols.length ≤ maxLen := by simp only [ColE] at hAl; simp only [maxLen]; omega
  have hm2 : (0 + cols.length) * 32 ≤ 140737488355328 := by simp only [ColE] at hAl; omega
  have hd : Below V3.heap.size V3 (V3.alloc (.cells #[] 51)) := (Below.refl _ _).alloc (Nat.le_refl _) _
  have hr1 := hrA.below (w' := V3.alloc (.cells #[] 51)) hd
  have hown0 : (V3.alloc (.cells #[] 51)).ownsRow (w.heap.size + 3) 51 3 (.slice (some ⟨V3.heap.size, 0, none⟩) 0 0) 0 [] := own_emptyE (Blk.new _ _ _) z3
  go_upto_region 4 with (at_builtin; (refine wpList_append_sh _ rfl (.tmp 11) (.tmp 14) _ rfl (w.heap.size + 3) 51 i0 _ 3 32 Try.underlying22 hi0 hz0 hz1 hz2 rfl (by omega) _ 0 [] rfl hown0 V3.heap.size A cols.length ca vsA rfl hr1 honeA hm1 hm2 (by simp; omega) ?_); intro A1 c1 w5 hown5 hg5 hat5; have bb5 := hd.grown hg5 hd.size (le_own0E (Nat.le_refl _)); simp only [Nat.zero_add, List.nil_append] at hown5; have g25 := (bb5.cell (p := ⟨w.heap.size + 2, 2, none⟩) lG).trans g2; have g45 := (bb5.cell (p := ⟨w.heap.size + 2, 4, none⟩) lG).trans g4; have f5 := (bb5.frozen (p := ⟨w.heap.size + 2, 2, none⟩) lG).trans (kG.frozen 2); have f54 := (bb5.frozen (p := ⟨w.heap.size + 2, 4, none⟩) lG).trans (kG.frozen 4))
  have b05 := b3.trans (bb5.mono b3.size)
  have ke5 := ke.below bb5 le
  have kz5 := kz.below bb5 kz.lt
  have kG5 := kG.below bb5 lG
  have z5 := bb5.size
  have ke0 := (ke5.far (p := ⟨w.heap.size + 2, 2, none⟩) (by simp) (.slice A1 cols.length c1)).far (p := ⟨w.heap.size + 2, 4, none⟩) (by simp) (.slice none 0 0)
  have kz0 := (kz5.far (p := ⟨w.heap.size + 2, 2, none⟩) (by simp) (.slice A1 cols.length c1)).far (p := ⟨w.heap.size + 2, 4, none⟩) (by simp) (.slice none 0 0)
  have kG0 : Blk _ _ _ #[.int .i64 id, .string tn, .slice A1 cols.length c1, .int .i64 keys, .slice none 0 0, .slice none 0 0] := (kG5.set_ 2 (.slice A1 cols.length c1)).set_ 4 (.slice none 0 0)
  have oA5 : Own ColE 51 w5 (w.heap.size + 3) (fun _ => False) (.slice A1 cols.length c1) cols := Own.colS (S := fun b => b < w.heap.size ∧ (Value.slice A1 cols.length c1).ownBlock ≠ some b) ⟨vsA, hown5, ER.flat_keep bb5 (ER.flat_mono (fun _ _ h => ⟨⟨h, fun e => by
    have := hown5.lt _ e; omega⟩, fun e => by have := hown5.lt _ e; omega⟩) hfA)⟩
  have nA : (Value.slice A1 cols.length c1).ownBlock ≠ some (w.heap.size + 2) := fun e => by have := oA5.lt _ e; omega
  have oA0 := (oA5.setCell (p := ⟨w.heap.size + 2, 2, none⟩) nA (fun h => h) (.slice A1 cols.length c1)).setCell (p := ⟨w.heap.size + 2, 4, none⟩) nA (fun h => h) (.slice none 0 0)
  have bV := (b05.setCell (p := ⟨w.heap.size + 2, 2, none⟩) (by simp) (.slice A1 cols.length c1)).setCell (p := ⟨w.heap.size + 2, 4, none⟩) (by simp) (.slice none 0 0)
  clear ke5 kz5 kG5 ke kz kG oA5 nA g25 g45 f5 f54 bb5 hown5 hg5 hat5 hown0 hr1 hd hrA hfA honeA e2 g2 g4 b3 hA3 hB3 hS3 hA b05
  generalize ((w5.setCell ⟨w.heap.size + 2, 2, none⟩ (.slice A1 cols.length c1)).setCell ⟨w.heap.size + 2, 4, none⟩ (.slice none 0 0)) = V0 at *
  have e04 : V0.cell? ⟨w.heap.size, 4, none⟩ = some (.slice B ixs.length cb) := ke0.cell 4
  go_wp2_with fail
  go_loopw [5, 24] (fun _ i wr => ∃ (k : Nat) (B1 : Option Addr) (c2 : Nat), k ≤ ixs.length ∧ i = .int .i64 k ∧ Blk wr (w.heap.size + 2) 33 #[.int .i64 id, .string tn, .slice A1 cols.length c1, .int .i64 keys, .slice B1 k c2, .slice none 0 0] ∧
      Own IxE 55 wr (w.heap.size + 3) (fun b => w.heap.size + 3 ≤ b) (.slice B1 k c2) (ixs.take k) ∧ Own ColE 51 wr (w.heap.size + 3) (fun _ => False) (.slice A1 cols.length c1) cols ∧
      Blk wr w.heap.size 28 #[.int .i64 id, .string tn, .slice A cols.length ca, .int .i64 keys, .slice B ixs.length cb, .slice S sts.length cs] ∧ Blk wr (w.heap.size + 1) 33 #[.int .i64 0, .string ⟨#[]⟩, .slice none 0 0, .int .i64 0, .slice none 0 0, .slice none 0 0] ∧ Below w.heap.size w wr) (fun _ i _ => ixs.length - (intOf i).toNat)
  case atStart => exact ⟨0, none, 0, Nat.zero_le _, rfl, kG0, by simpa using Own.nil_ IxE _ _ _ _, oA0, ke0, kz0, bV⟩
  case round =>
    obtain ⟨k, B1, c2, hk, rfl, kGr, oBr, oAr, ker, kzr, br⟩ := hrel
    have zr := br.size
    have lGr := kGr.lt
    clear ke0 kz0 kG0 oA0 bV e04 le lG z3 z5
    by_cases hlt : k < ixs.length
    · obtain ⟨ad, C, c, rfl, h1, h2, h3, h4, hI, hI8, hI9⟩ := IxE.at_ (hB.below br) hlt
      have ba : Below wr.heap.size wr ((wr.alloc (.cells #[.string ixs[k].name, .slice C ixs[k].cols.length c, .bool ixs[k].uniq] 55)).alloc (.cells #[] 3)) := ((Below.refl _ _).alloc (Nat.le_refl _) _).alloc (by simp) _
      have x1 : (wr.alloc (.cells #[.string ixs[k].name, .slice C ixs[k].cols.length c, .bool ixs[k].uniq] 55)).cell? ⟨wr.heap.size, 1, none⟩ = some (.slice C ixs[k].cols.length c) := (Blk.new wr 55 #[.string ixs[k].name, .slice C ixs[k].cols.length c, .bool ixs[k].uniq]).cell 1
      have hI2 := hI.below ba
      have hI0 := hI
      have honeC : ∀ u ∈ ixs[k].cols.map (Value.int .i64), u.oneCell' = true := by intro u hu; obtain ⟨_, _, rfl⟩ := List.mem_map.1 hu; rfl
      have hn1 : 0 + ixs[k].cols.length ≤ maxLen := by simp only [maxLen]; omega
      have hn2 : (0 + ixs[k].cols.length) * 8 ≤ 140737488355328 := by omega
      have hownC : ((wr.alloc (.cells #[.string ixs[k].name, .slice C ixs[k].cols.length c, .bool ixs[k].uniq] 55)).alloc (.cells #[] 3)).ownsRow (wr.heap.size + 1) 3 1 (.slice (some ⟨wr.heap.size + 1, 0, none⟩) 0 0) 0 [] := own_emptyE (heap_alloc2_new wr _ _) (Nat.le_refl _)
      have kX := (Blk.new wr 55 #[.string ixs[k].name, .slice C ixs[k].cols.length c, .bool ixs[k].uniq]).alloc (.cells #[] 3)
      have t1 : Reads ((wr.alloc (.cells #[.string ixs[k].name, .slice C ixs[k].cols.length c, .bool ixs[k].uniq] 55)).alloc (.cells #[] 3)) ((wr.alloc (.cells #[.string ixs[k].name, .slice C ixs[k].cols.length c, .bool ixs[k].uniq] 55)).alloc (.cells #[] 3)).heap.size 1 C ixs[k].cols.length (ixs[k].cols.map (Value.int .i64)) := hI2.1
      have t2 : wr.heap.size + 1 ≤ ((wr.alloc (.cells #[.string ixs[k].name, .slice C ixs[k].cols.length c, .bool ixs[k].uniq] 55)).alloc (.cells #[] 3)).heap.size := by simp
      go_upto_region 8 with (at_builtin; (refine wpList_append_sh _ rfl (.tmp 28) (.tmp 30) _ rfl (wr.heap.size + 1) 3 i1 _ 1 8 Try.underlying53 hi1 hx0 hx1 hx2 rfl (by omega) _ 0 [] rfl hownC _ C ixs[k].cols.length c _ rfl t1 honeC hn1 hn2 t2 ?_); intro C3 c3 w7 hown7 hg7 hat7; simp only [Nat.zero_add, List.nil_append] at hown7; have kX7 := kX.grown hg7 (ne_own0E (Nat.ne_of_lt (Nat.lt_succ_self _))); have x17 : w7.cell? ⟨wr.heap.size, 1, none⟩ = some (.slice C ixs[k].cols.length c) := kX7.cell 1; have f17 := kX7.frozen 1)
      clear x1 hI2 honeC hn1 hn2 hownC t1 t2 hI
      have bwr7 : Below wr.heap.size wr w7 := ba.grown hg7 ba.size (le_own0E (Nat.le_succ _))
      have bwrY := bwr7.setCell (p := ⟨wr.heap.size, 1, none⟩) (Nat.le_refl _) (.slice C3 ixs[k].cols.length c3)
      have kGY := kGr.below bwrY lGr
      have oBY := oBr.below bwrY
      have oAY := oAr.below bwrY
      have keY := ker.below bwrY ker.lt
      have kzY := kzr.below bwrY kzr.lt
      have bY := br.trans (bwrY.mono zr)
      have kXY : Blk _ _ _ #[.string ixs[k].name, .slice C3 ixs[k].cols.length c3, .bool ixs[k].uniq] := kX7.set_ 1 (.slice C3 ixs[k].cols.length c3)
      have haC := own_at hown7
      have hCY : IxE.rep (w7.setCell ⟨wr.heap.size, 1, none⟩ (.slice C3 ixs[k].cols.length c3)) (fun b => wr.heap.size + 1 ≤ b) [.string ixs[k].name, .slice C3 ixs[k].cols.length c3, .bool ixs[k].uniq] ixs[k] := by
        have hI := Is.of_own hown7 hI0.2
        refine ⟨C3, c3, rfl, ⟨Reads.sameS (S := fun b => wr.heap.size + 1 ≤ b) hI.1 (fun ad e hn => (haC ad e hn).1) (.of_grown (row := some wr.heap.size) (only_setCell (World.grownBy.refl w7 _) (.inl rfl) _) (fun b hb e => by have := Option.some.inj e; omega)), hI0.2⟩, fun ad e hn => (haC ad e hn).1, hI8, hI9⟩
      have zY := bwrY.size
      clear bwr7 bwrY kGr oAr ker kzr br kX7 kX hown7 hg7 hat7 haC x17 f17 ba hI0
      have hBw : ∀ b, (Value.slice B1 k c2).ownBlock = some b → b < wr.heap.size := fun b e => (oBr.lt b e).2
      clear oBr
      generalize (w7.setCell ⟨wr.heap.size, 1, none⟩ (.slice C3 ixs[k].cols.length c3)) = Y at *
      obtain ⟨vsB, hoB, hfB⟩ := oBY
      have hlt3 : (ixs.take k).length = k := by rw [List.length_take, Nat.min_eq_left hk]
      have hBlt : ∀ b, (Value.slice B1 k c2).ownBlock = some b → w.heap.size + 3 ≤ b ∧ b < Y.heap.size := fun b e => hoB.lt b e
      rw [hlt3] at hoB
      have hBfar : ∀ b, (Value.slice B1 k c2).ownBlock = some b → b < wr.heap.size := hBw
      have q4 : Y.cell? ⟨w.heap.size + 2, 4, none⟩ = some (.slice B1 k c2) := kGY.cell 4
      have p0 : Y.cell? ⟨wr.heap.size, 0, none⟩ = some (.string ixs[k].name) := kXY.cell 0
      have p1 : Y.cell? ⟨wr.heap.size, 1, none⟩ = some (.slice C3 ixs[k].cols.length c3) := kXY.cell 1
      have p2 : Y.cell? ⟨wr.heap.size, 2, none⟩ = some (.bool ixs[k].uniq) := kXY.cell 2
      have zGY := kGY.lt
      have hRd : Reads (Y.alloc (.cells #[.string ixs[k].name, .slice C3 ixs[k].cols.length c3, .bool ixs[k].uniq] 55)) (Y.heap.size + 1) 3 (some ⟨Y.heap.size, 0, none⟩) 1 [.string ixs[k].name, .slice C3 ixs[k].cols.length c3, .bool ixs[k].uniq] := Reads.newN Y [.string ixs[k].name, .slice C3 ixs[k].cols.length c3, .bool ixs[k].uniq] 55
      have hone := IxE.one hCY
      have hoB' : (Y.alloc (.cells #[.string ixs[k].name, .slice C3 ixs[k].cols.length c3, .bool ixs[k].uniq] 55)).ownsRow (w.heap.size + 3) 55 3 (.slice B1 k c2) k vsB := hoB.alloc _
      have kGa := kGY.alloc (.cells #[.string ixs[k].name, .slice C3 ixs[k].cols.length c3, .bool ixs[k].uniq] 55)
      have hneG := own_blk_ne hoB' kGa (by decide)
      have hm1 : k + 1 ≤ maxLen := by simp only [IxE] at hBl; simp only [maxLen]; omega
      have hm2 : (k + 1) * 48 ≤ 140737488355328 := by simp only [IxE] at hBl; omega
      have hm3 : w.heap.size + 3 ≤ (Y.alloc (.cells #[.string ixs[k].name, .slice C3 ixs[k].cols.length c3, .bool ixs[k].uniq] 55)).heap.size := by simp; omega
      go_upto_region 9 with (at_builtin; (refine wpList_append_sh _ rfl (.tmp 35) (.tmp 37) _ rfl (w.heap.size + 3) 55 i2 _ 3 48 Try.underlying23 hi2 hy0 hy1 hy2 rfl (by omega) _ k vsB rfl hoB' (Y.heap.size + 1) _ 1 1 [.string ixs[k].name, .slice C3 ixs[k].cols.length c3, .bool ixs[k].uniq] rfl hRd hone hm1 hm2 hm3 ?_); intro B5 c8 w9 hown9 hg9 hat9; have kG9 := kGa.grown hg9 (Ne.symm hneG); have q49 : w9.cell? ⟨w.heap.size + 2, 4, none⟩ = some (.slice B1 k c2) := kG9.cell 4; have f49 := kG9.frozen 4)
      have dY : Below Y.heap.size Y (Y.alloc (.cells #[.string ixs[k].name, .slice C3 ixs[k].cols.length c3, .bool ixs[k].uniq] 55)) := (Below.refl _ _).alloc (Nat.le_refl _) _
      have oI9 : Own IxE 55 w9 (w.heap.size + 3) (fun b => w.heap.size + 3 ≤ b) (.slice B5 (k + 1) c8) (ixs.take k ++ [ixs[k]]) :=
        Own.step (S := fun b => w.heap.size + 3 ≤ b) (ER.flat_keep dY hfB) (IxE.mono (IxE.keep hCY (.of_below dY)) (fun b _ hb => ⟨by omega, fun e => by have := hBfar b e; omega⟩)) (by rw [hlt3]; exact hown9) hg9 hat9
      have oA9 := (oAY.below dY).same hg9 (by
        obtain ⟨_, h1, _⟩ := oAY
        exact own_own_ne (own_below h1 dY) hoB' (by decide)) (fun b hb _ => hb)
      have nlow : ∀ b, b < w.heap.size + 3 → some b ≠ (Value.slice B1 k c2).ownBlock := fun b hb e => by have := (hBlt b e.symm).1; omega
      have ke9 := ((keY.alloc (.cells #[.string ixs[k].name, .slice C3 ixs[k].cols.length c3, .bool ixs[k].uniq] 55)).grown hg9 (nlow _ (by omega))).far (p := ⟨w.heap.size + 2, 4, none⟩) (by simp) (.slice B5 (k + 1) c8)
      have kz9 := ((kzY.alloc (.cells #[.string ixs[k].name, .slice C3 ixs[k].cols.length c3, .bool ixs[k].uniq] 55)).grown hg9 (nlow _ (by omega))).far (p := ⟨w.heap.size + 2, 4, none⟩) (by simp) (.slice B5 (k + 1) c8)
      have kG9' : Blk _ _ _ #[.int .i64 id, .string tn, .slice A1 cols.length c1, .int .i64 keys, .slice B5 (k + 1) c8, .slice none 0 0] := kG9.set_ 4 (.slice B5 (k + 1) c8)
      have b9 := ((bY.alloc bY.size _).grown hg9 (bY.alloc bY.size _).size (fun j hj => by have := (hBlt j hj).1; omega)).setCell (p := ⟨w.heap.size + 2, 4, none⟩) (by simp) (.slice B5 (k + 1) c8)
      have nI : ∀ b, (Value.slice B5 (k + 1) c8).ownBlock = some b → b ≠ w.heap.size + 2 := fun b e h => by have := (oI9.lt b e).1; omega
      have oI9' := oI9.setCell (p := ⟨w.heap.size + 2, 4, none⟩) (fun e => nI _ e rfl) (fun h => by simp only at h; omega) (.slice B5 (k + 1) c8)
      have oA9' := oA9.setCell (p := ⟨w.heap.size + 2, 4, none⟩) (fun e => by have := (oA9.lt _ e).1; simp only at this; omega) (fun h => h) (.slice B5 (k + 1) c8)
      clear q4 p0 p1 p2 q49 f49
      go_wp2_with fail
      go_roundw
      case rel =>
        refine ⟨k + 1, B5, c8, by omega, by go_num, kG9', ?_, oA9', ke9, kz9, b9⟩
        rw [List.take_succ_eq_append_getElem hlt]
        exact oI9'
      case measure => simp [intOf]; omega
    · obtain rfl : k = ixs.length := by omega
      rw [List.take_of_length_le (Nat.le_refl _)] at oBr
      have hIx : SlS IxE wr (fun b => w.heap.size + 3 ≤ b ∧ b < wr.heap.size) B1 ixs := SlS.mono (S := fun b => w.heap.size + 3 ≤ b) (Own.slS (S' := fun b => w.heap.size + 3 ≤ b) oBr rfl hBl (fun _ h => h) (fun _ h => h)) (fun b hl h => ⟨h, hl⟩)
      have hCo : SlS ColE wr (fun b => w.heap.size + 3 ≤ b ∧ b < wr.heap.size) A1 cols := SlS.mono (S := fun b => w.heap.size + 3 ≤ b) (Own.slS (S' := fun b => w.heap.size + 3 ≤ b) oAr rfl hAl (fun _ h => h.elim) (fun _ h => h)) (fun b hl h => ⟨h, hl⟩)
      have e5 : wr.cell? ⟨w.heap.size, 5, none⟩ = some (.slice S sts.length cs) := ker.cell 5
      have zM : w.heap.size + 3 ≤ wr.heap.size := lGr
      obtain ⟨wm, rfl⟩ : ∃ wm : World, wm = wr := ⟨_, rfl⟩
      clear oBr oAr
      go_wp2_with fail
      go_loopw [7, 45] (fun _ i wr => ∃ (k : Nat) (S1 : Option Addr) (c3 : Nat), k ≤ sts.length ∧ i = .int .i64 k ∧ Blk wr (w.heap.size + 2) 33 #[.int .i64 id, .string tn, .slice A1 cols.length c1, .int .i64 keys, .slice B1 ixs.length c2, .slice S1 k c3] ∧
        Own StE 57 wr wm.heap.size (fun b => wm.heap.size ≤ b) (.slice S1 k c3) (sts.take k) ∧ SlS ColE wr (fun b => w.heap.size + 3 ≤ b ∧ b < wm.heap.size) A1 cols ∧ SlS IxE wr (fun b => w.heap.size + 3 ≤ b ∧ b < wm.heap.size) B1 ixs ∧
        Blk wr (w.heap.size + 1) 33 #[.int .i64 0, .string ⟨#[]⟩, .slice none 0 0, .int .i64 0, .slice none 0 0, .slice none 0 0] ∧ Below w.heap.size w wr ∧ wm.heap.size ≤ wr.heap.size) (fun _ i _ => sts.length - (intOf i).toNat)
      case atStart => exact ⟨0, none, 0, Nat.zero_le _, rfl, kGr, by simpa using Own.nil_ StE _ _ _ _, hCo, hIx, kzr, br, Nat.le_refl _⟩
      case round =>
        obtain ⟨k, S1, c3, hk, rfl, kGs, oSs, hCs, hIs, kzs, bs, zms⟩ := hrel
        have zs := bs.size
        have lGs := kGs.lt
        clear ker kzr kGr br zr lGr e5 hCo hIx
        by_cases hlt : k < sts.length
        · obtain ⟨ad, C, c, rfl, h1, h2, h3, hcur, _⟩ := StE.at_ (hS.below bs) hlt
          have q5 : wr.cell? ⟨w.heap.size + 2, 5, none⟩ = some (.slice S1 k c3) := kGs.cell 5
          go_upto_region 13 with fail
          have kX := Blk.new wr 62 #[.int .i64 sts[k].phase, .slice C sts[k].cur.length c]
          have da : Below wr.heap.size wr (wr.alloc (.cells #[.int .i64 sts[k].phase, .slice C sts[k].cur.length c] 62)) := (Below.refl _ _).alloc (Nat.le_refl _) _
          have kGX := kGs.below da lGs
          have kzX := kzs.below da kzs.lt
          have oSX := oSs.below da
          have hCX := hCs.below da
          have hIX := hIs.below da
          have hcX := hcur.below da
          have bX := bs.trans (da.mono zs)
          have zX : wm.heap.size ≤ (wr.alloc (.cells #[.int .i64 sts[k].phase, .slice C sts[k].cur.length c] 62)).heap.size := by simp; omega
          have hk1 : k + 1 ≤ sts.length := hlt
          clear q5 kGs kzs oSs hCs hIs hcur bs da zs lGs zms h1 h2 h3
          generalize (wr.alloc (.cells #[.int .i64 sts[k].phase, .slice C sts[k].cur.length c] 62)) = X at *
          obtain ⟨vsS, hoS, hfS⟩ := oSX
          have hlt3 : (sts.take k).length = k := by rw [List.length_take, Nat.min_eq_left (by omega)]
          rw [hlt3] at hoS
          have hSlt : ∀ b, (Value.slice S1 k c3).ownBlock = some b → wm.heap.size ≤ b ∧ b < X.heap.size := fun b e => hoS.lt b e
          have lGX := kGX.lt
          have lXX := kX.lt
          have dd : Below X.heap.size X X.drew := (Below.refl _ _).drew
          have hfin : ∀ (w6 : World) (A9 : Option Addr) (c9 : Nat) (w7 : World) (S9 : Option Addr) (cS : Nat), w6.ownsRow X.drew.heap.size 5 1 (.slice A9 sts[k].cur.length c9) sts[k].cur.length (sts[k].cur.map bval) → Below X.drew.heap.size X.drew w6 →
              w7.ownsRow wm.heap.size 57 2 (.slice S9 (k + 1) cS) (k + 1) (vsS ++ [.int .i64 sts[k].phase, .slice A9 sts[k].cur.length c9]) → (w6.alloc (.cells #[.int .i64 sts[k].phase, .slice A9 sts[k].cur.length c9] 57)).grownBy w7 (Value.slice S1 k c3).ownBlock →
              ((Value.slice S9 (k + 1) cS).ownBlock = (Value.slice S1 k c3).ownBlock ∨ (Value.slice S9 (k + 1) cS).ownBlock = some (w6.alloc (.cells #[.int .i64 sts[k].phase, .slice A9 sts[k].cur.length c9] 57)).heap.size) →
              (fun wx => ∃ (S9 : Option Addr) (cS : Nat), Blk wx (w.heap.size + 2) 33 #[.int .i64 id, .string tn, .slice A1 cols.length c1, .int .i64 keys, .slice B1 ixs.length c2, .slice S9 (k + 1) cS] ∧ Own StE 57 wx wm.heap.size (fun b => wm.heap.size ≤ b) (.slice S9 (k + 1) cS) (sts.take (k + 1)) ∧ SlS ColE wx (fun b => w.heap.size + 3 ≤ b ∧ b < wm.heap.size) A1 cols ∧ SlS IxE wx (fun b => w.heap.size + 3 ≤ b ∧ b < wm.heap.size) B1 ixs ∧ Blk wx (w.heap.size + 1) 33 #[.int .i64 0, .string ⟨#[]⟩, .slice none 0 0, .int .i64 0, .slice none 0 0, .slice none 0 0] ∧ Below w.heap.size w wx ∧ wm.heap.size ≤ wx.heap.size) (w7.setCell ⟨w.heap.size + 2, 5, none⟩ (.slice S9 (k + 1) cS)) := by
            intro w6 A9 c9 w7 S9 cS o9 b6 hown7 hg7 hat7
            have z6 : X.heap.size ≤ w6.heap.size := b6.size
            have dX := dd.trans (b6 : Below X.heap.size X.drew w6)
            have dA : Below w6.heap.size w6 (w6.alloc (.cells #[.int .i64 sts[k].phase, .slice A9 sts[k].cur.length c9] 57)) := (Below.refl _ _).alloc (Nat.le_refl _) _
            have dXA := dX.trans (dA.mono z6)
            have nlow : ∀ b, b < wm.heap.size → some b ≠ (Value.slice S1 k c3).ownBlock := fun b hb e => by have := (hSlt b e.symm).1; omega
            have kG7 := (kGX.below dXA lGX).grown hg7 (nlow _ (by omega))
            have kz7 := (kzX.below dXA kzX.lt).grown hg7 (nlow _ (by omega))
            have hs7 : Same (fun b => w.heap.size + 3 ≤ b ∧ b < wm.heap.size) (w6.alloc (.cells #[.int .i64 sts[k].phase, .slice A9 sts[k].cur.length c9] 57)) w7 := .of_grown hg7 (fun b hb e => nlow b hb.2 e.symm)
            have hC7 := ((hCX.below dXA).same hs7).setCell (p := ⟨w.heap.size + 2, 5, none⟩) (fun h => by have := h.1; simp only at this; omega) (.slice S9 (k + 1) cS)
            have hI7 := ((hIX.below dXA).same hs7).setCell (p := ⟨w.heap.size + 2, 5, none⟩) (fun h => by have := h.1; simp only at this; omega) (.slice S9 (k + 1) cS)
            have hp : Bs w6 A9 sts[k].cur := Bs.of_own o9 hcX.le
            have hap := own_at o9
            have hcp := own_caps o9
            have oS7 : Own StE 57 w7 wm.heap.size (fun b => wm.heap.size ≤ b) (.slice S9 (k + 1) cS) (sts.take k ++ [sts[k]]) :=
              Own.step (S := fun b => wm.heap.size ≤ b) (ER.flat_keep dXA hfS)
                (by
                  refine ⟨A9, c9, rfl, hp.below dA, fun ad e hn => ?_, hcp.1, hcp.2⟩
                  have h9 : X.heap.size ≤ ad.block := (hap ad e hn).1
                  exact ⟨by omega, fun e2 => by have := (hSlt _ e2).2; omega⟩) (by rw [hlt3]; exact hown7) hg7 hat7
            have oS8 := oS7.setCell (p := ⟨w.heap.size + 2, 5, none⟩) (fun e => by have := (oS7.lt _ e).1; simp only at this; omega) (fun h => by simp only at h; omega) (.slice S9 (k + 1) cS)
            have b7 := ((bX.trans (dXA.mono bX.size)).grown hg7 (bX.trans (dXA.mono bX.size)).size (fun j hj => by have := (hSlt j hj).1; omega)).setCell (p := ⟨w.heap.size + 2, 5, none⟩) (by simp) (.slice S9 (k + 1) cS)
            refine ⟨S9, cS, kG7.set_ 5 _, ?_, hC7, hI7, kz7.far (by simp) _, b7, ?_⟩
            · rw [List.take_succ_eq_append_getElem hlt]
              exact oS8
            · have h1 := hg7.size
              have h2 := dA.size
              have h3 : (w7.setCell ⟨w.heap.size + 2, 5, none⟩ (.slice S9 (k + 1) cS)).heap.size = w7.heap.size := by simp [World.setCell]
              rw [h3]
              omega
          have HFIN := Lib.hid hfin
          clear hfin
          have q5 : X.drew.cell? ⟨w.heap.size + 2, 5, none⟩ = some (.slice S1 k c3) := kGX.cell 5
          have p0 : X.drew.cell? ⟨wr.heap.size, 0, none⟩ = some (.int .i64 sts[k].phase) := kX.cell 0
          have p1 : X.drew.cell? ⟨wr.heap.size, 1, none⟩ = some (.slice C sts[k].cur.length c) := kX.cell 1
          have hcD := hcX.below dd
          have hm1 : k + 1 ≤ maxLen := by simp only [StE] at hSl; simp only [maxLen]; omega
          have hm2 : (k + 1) * 32 ≤ 140737488355328 := by simp only [StE] at hSl; omega
          go_region_law
              (first
                | (go_simp; go_at_call 15; refine (copy_any _ _ _ _ hcD).mono ?_; rintro en w6 ⟨A9, c9, rfl, o9, b6⟩; have z6 := b6.size; have g5 := (b6.cell (p := ⟨w.heap.size + 2, 5, none⟩) lGX).trans q5; have g0 := (b6.cell (p := ⟨wr.heap.size, 0, none⟩) lXX).trans p0; have g1 := (b6.cell (p := ⟨wr.heap.size, 1, none⟩) lXX).trans p1; have lG6 : w.heap.size + 2 < w6.heap.size := (by simp at z6; omega); have lX6 : wr.heap.size < w6.heap.size := (by simp at z6; omega); have kG6a := ((kGX.below dd lGX).below b6 lGX).alloc (.cells #[.int .i64 sts[k].phase, .slice A9 sts[k].cur.length c9] 57); have hRd : Reads (w6.alloc (.cells #[.int .i64 sts[k].phase, .slice A9 sts[k].cur.length c9] 57)) (w6.heap.size + 1) 2 (some ⟨w6.heap.size, 0, none⟩) 1 [.int .i64 sts[k].phase, .slice A9 sts[k].cur.length c9] := Reads.newN w6 [.int .i64 sts[k].phase, .slice A9 sts[k].cur.length c9] 57; have hone : ∀ u ∈ ([.int .i64 sts[k].phase, .slice A9 sts[k].cur.length c9] : List Value), u.oneCell' = true := (by intro u hu; simp at hu; rcases hu with rfl | rfl <;> rfl); have hoS6' : (w6.alloc (.cells #[.int .i64 sts[k].phase, .slice A9 sts[k].cur.length c9] 57)).ownsRow wm.heap.size 57 2 (.slice S1 k c3) k vsS := (own_below (own_below hoS dd) b6).alloc _; have hbas : wm.heap.size ≤ (w6.alloc (.cells #[.int .i64 sts[k].phase, .slice A9 sts[k].cur.length c9] 57)).heap.size := (by simp; simp at z6; omega))
                | (refine step_append_sh _ rfl (.tmp 50) (.tmp 57) _ rfl wm.heap.size 57 i3 _ 2 32 Try.underlying31 hi3 hs0 hs1 hs2 rfl (by omega) _ k vsS rfl hoS6' (w6.heap.size + 1) _ 1 1 [.int .i64 sts[k].phase, .slice A9 sts[k].cur.length c9] rfl hRd hone hm1 hm2 hbas ?_; intro S9 cS w7 hown7 hg7 hat7; have kG7 := kG6a.grown hg7 (Ne.symm (own_blk_ne hoS6' kG6a (by decide))); have q57 : w7.cell? ⟨w.heap.size + 2, 5, none⟩ = some (.slice S1 k c3) := kG7.cell 5; have f57 := kG7.frozen 5))
          all_goals
            go_wp2_with fail
            go_roundw
            case rel =>
              obtain ⟨S9, cS, h1, h2, h3, h4, h5, h6, h7⟩ := HFIN.out w6 A9 c9 w7 S9 cS o9 b6 hown7 hg7 hat7
              exact ⟨k + 1, S9, cS, hk1, by go_num, h1, h2, h3, h4, h5, h6, h7⟩
            case measure => simp [intOf]; omega
        · obtain rfl : k = sts.length := by omega
          rw [List.take_of_length_le (Nat.le_refl _)] at oSs
          have hfin : ∀ W', wr.grownBy W' (some (w.heap.size + 1)) → RetEntry id keys tn cols ixs sts w (.returned (.agg #[.int .i64 id, .string tn, .slice A1 cols.length c1, .int .i64 keys, .slice B1 ixs.length c2, .slice S1 sts.length c3])) W' := by
            intro W' hG6
            have hs : Same (fun b => w.heap.size + 3 ≤ b) wr W' := .of_grown hG6 (fun b hb e => by have := Option.some.inj e; omega)
            refine ⟨A1, B1, S1, c1, c2, c3, rfl, ?_, ?_, ?_, bs.grown hG6 bs.size (fun j hj => by have := Option.some.inj hj; omega)⟩
            · exact (hCs.same (hs.mono fun b _ h => h.1)).mono (fun b _ h => by have := h.1; omega)
            · exact (hIs.same (hs.mono fun b _ h => h.1)).mono (fun b _ h => by have := h.1; omega)
            · exact ((Own.slS (S' := fun b => wm.heap.size ≤ b) oSs rfl hSl (fun _ h => h) (fun _ h => h)).same (hs.mono fun b _ h => by omega)).mono (fun b _ h => by omega)
          have HFIN := Lib.hid hfin
          clear hfin hCs hIs oSs bs
          go_wp2_with (first
            | ((with_reducible refine wpList_load_blk rfl 33 (.tmp 3) rfl (w.heap.size + 2) ?_ 33 _ _ kGs Try.underlying33 ?_ Try.size_Entry ?_ ?_); rfl; rfl; rfl)
            | ((with_reducible refine wpList_store_blk rfl 33 (.tmp 2) (.tmp 61) rfl (w.heap.size + 1) 33 _ #[.int .i64 id, .string tn, .slice A1 cols.length c1, .int .i64 keys, .slice B1 ixs.length c2, .slice S1 sts.length c3] ?_ ?_ kzs Try.size_Entry ?_ ?_ ?_ ?_); rfl; rfl; rfl; rfl; (simp [Value.oneCell']); intro w9 kz9 g9 z9))
          exact bodyPost_ret (results_cell rfl rfl kz9 Try.underlying33 rfl Try.size_Entry) rfl (HFIN.out _ g9)

end Go.Proofs.Ytemidaamnldjmaa
