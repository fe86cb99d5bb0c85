/- A lone node's add: an entry at the end of its log. (Printed by wip/gen_rfe.py.) -/
import Derived.Test.YtjpcekpllfelhaaRfD
namespace Go.Proofs.Ytjpcekpllfelhaa
open Go.RowKit

/-- what add makes of a lone node -/
def addP (d : LNode) (data : List UInt8) : LNode := { d with log := d.log ++ [⟨d.term, data⟩], mat := [lastN d + 1], commit := lastN d + 1 }
set_option maxRecDepth 100000 in
set_option maxHeartbeats 2000000 in
theorem add_one (g : Nat) (F : Nat → Prop) (d : LNode) (m : Nat) (D : Option Addr) (data : List UInt8) (dc : Nat) (w : World) (hd : ND w g F d) (hD : Bs w D data) (hn : d.n = 1) (hi : d.id = 0) (hm : d.mat = [m]) (ht : d.term ≤ 18446744073709551615)
    (hbl : (d.log.length + 1) * 32 ≤ 140737488351232) (hbb : d.base + d.log.length + 1 ≤ 9223372036854775807) (hbt : d.baseTerm ≤ 18446744073709551615) (hcm : d.commit ≤ lastN d) :
    Calls Try.prog 32 #[.pointer (some ⟨g, 0, none⟩), .slice D data.length dc] w (fun en w' => en = .returned (.slice none 0 0) ∧ NDTo g F (addP d data) w w') := by
  obtain ⟨i0, hi0, hz0, hz1, hz2⟩ := info_parts Try.infoEnt
  obtain ⟨S, E, V, M, X, hN, hF⟩ := hd
  obtain ⟨A, ec, rfl⟩ := hN.log.shape
  obtain ⟨A0, c, rfl⟩ := hN.mat.shape
  obtain ⟨gm, rfl, _, hgm⟩ := Own.form hN.mat (by rw [hm]; simp)
  rw [show d.mat.length = 1 by rw [hm]; rfl] at hN hF
  have HM := Lib.hid hm
  have HN1 := Lib.hid hn
  have HI := Lib.hid hi
  have HF := Lib.hid hF
  clear hm hn hi hF
  go_enter Try.func32, Try.ntmps32
  go_upto_region 1 with fail
  have kd := hN.blk.drew
  refine wp_region_noPanic ?_
  refine wp_region_heldK (fun Y => Blk Y g 48 (nodeC (.slice A d.log.length ec) V (.slice (some ⟨gm, 0, none⟩) 1 c) X d)) 20 (by kernel_rfl) kd (fun hH => ?_)
  refine wpAnyK_takeY (i := 0) (v := ?_) rfl (by kernel_rfl) (by kernel_rfl) (by kernel_rfl) (by kernel_rfl) (fun _ _ _ h => h) (Or.inl ⟨by rfl, ?_⟩) hH ?_
  case refine_2 => intro w; go_simp; try with_reducible rfl
  try simp only [Z1, Z2, Z4, Z5, Z6, Z7]
  refine wpAnyK_takeY (i := 1) (v := ?_) rfl (by kernel_rfl) (by kernel_rfl) (by kernel_rfl) (by kernel_rfl) (fun _ _ _ h => h) (Or.inl ⟨by rfl, ?_⟩) hH ?_
  case refine_2 => intro w; go_simp; try with_reducible rfl
  try simp only [Z1, Z2, Z3, Z4, Z5, Z6, Z7]
  refine wpAnyK_takeY (i := 2) (v := ?_) rfl (by kernel_rfl) (by kernel_rfl) (by kernel_rfl) (by kernel_rfl) (fun _ _ _ h => h) (Or.inl ⟨by rfl, ?_⟩) hH ?_
  case refine_2 => intro w; go_simp; try with_reducible rfl
  try simp only [Z1, Z2, Z3, Z4, Z5, Z6, Z7]
  refine wpAnyK_takeY (i := 3) (v := ?_) rfl (by kernel_rfl) (by kernel_rfl) (by kernel_rfl) (by kernel_rfl) (fun _ _ _ h => h) (Or.inl ⟨by rfl, ?_⟩) hH ?_
  case refine_2 => intro w; go_simp; try with_reducible rfl
  try simp only [Z1, Z2, Z3, Z4, Z5, Z6, Z7]
  refine wpAnyK_takeY (i := 4) (v := ?_) rfl (by kernel_rfl) (by kernel_rfl) (by kernel_rfl) (by kernel_rfl) (fun _ _ _ h => h) (Or.inl ⟨by rfl, ?_⟩) hH ?_
  case refine_2 => intro w; go_simp; try with_reducible rfl
  try simp only [Z1, Z2, Z3, Z4, Z5, Z6, Z7]
  refine wpAnyK_take (i := 5) (v := ?_) rfl (by kernel_rfl) (by kernel_rfl) (by kernel_rfl) (by kernel_rfl) (fun _ _ _ h => h) (Or.inl ⟨by rfl, ?_⟩) hH ?_
  case refine_2 => intro w hSw; have kw : Blk w g 48 (nodeC (.slice A d.log.length ec) V (.slice (some ⟨gm, 0, none⟩) 1 c) X d) := hSw; have s4 : w.cell? ⟨_, 4, none⟩ = some (.slice A d.log.length ec) := Blk.cell kw 4; clear kw hSw; go_simp; try with_reducible rfl
  try simp only [Z1, Z2, Z3, Z4, Z5, Z6, Z7]
  refine wpAnyK_takeY (i := 6) (v := ?_) rfl (by kernel_rfl) (by kernel_rfl) (by kernel_rfl) (by kernel_rfl) (fun _ _ _ h => h) (Or.inl ⟨by rfl, ?_⟩) hH ?_
  case refine_2 => intro w; go_simp; try with_reducible rfl
  try simp only [Z1, Z2, Z3, Z4, Z5, Z6, Z7]
  refine wpAnyK_takeY (i := 7) (v := ?_) rfl (by kernel_rfl) (by kernel_rfl) (by kernel_rfl) (by kernel_rfl) (fun _ _ _ h => h) (Or.inl ⟨by rfl, ?_⟩) hH ?_
  case refine_2 => intro w; go_simp; try with_reducible rfl
  try simp only [Z1, Z2, Z3, Z4, Z5, Z6, Z7]
  refine wpAnyK_takeY (i := 8) (v := ?_) rfl (by kernel_rfl) (by kernel_rfl) (by kernel_rfl) (by kernel_rfl) (fun _ _ _ h => h) (Or.inl ⟨by rfl, ?_⟩) hH ?_
  case refine_2 => intro w; go_simp; try with_reducible rfl
  try simp only [Z1, Z2, Z3, Z4, Z5, Z6, Z7]
  refine wpAnyK_takeY (i := 9) (v := ?_) rfl (by kernel_rfl) (by kernel_rfl) (by kernel_rfl) (by kernel_rfl) (fun _ _ _ h => h) (Or.inl ⟨by rfl, ?_⟩) hH ?_
  case refine_2 => intro w; go_simp; try with_reducible rfl
  try simp only [Z1, Z2, Z3, Z4, Z5, Z6, Z7]
  refine wpAnyK_takeY (i := 10) (v := ?_) rfl (by kernel_rfl) (by kernel_rfl) (by kernel_rfl) (by kernel_rfl) (fun _ _ _ h => h) (Or.inl ⟨by rfl, ?_⟩) hH ?_
  case refine_2 => intro w; go_simp; try with_reducible rfl
  try simp only [Z1, Z2, Z3, Z4, Z5, Z6, Z7]
  refine wpAnyK_take (i := 11) (v := ?_) rfl (by kernel_rfl) (by kernel_rfl) (by kernel_rfl) (by kernel_rfl) (fun _ _ _ h => h) (Or.inl ⟨by rfl, ?_⟩) hH ?_
  case refine_2 => intro w hSw; have kw : Blk w g 48 (nodeC (.slice A d.log.length ec) V (.slice (some ⟨gm, 0, none⟩) 1 c) X d) := hSw; have s0 : w.cell? ⟨_, 0, none⟩ = some (.int .u64 (d.term : Int)) := Blk.cell kw 0; clear kw hSw; go_simp; try with_reducible rfl
  try simp only [Z1, Z2, Z3, Z4, Z5, Z6, Z7]
  refine wpAnyK_takeY (i := 12) (v := ?_) rfl (by kernel_rfl) (by kernel_rfl) (by kernel_rfl) (by kernel_rfl) (fun _ _ _ h => h) (Or.inl ⟨by rfl, ?_⟩) hH ?_
  case refine_2 => intro w; go_simp; try with_reducible rfl
  try simp only [Z1, Z2, Z3, Z4, Z5, Z6, Z7]
  refine wpAnyK_ready (rs := [13]) (by kernel_rfl) (by simp) ?_
  refine AllReadyK.cons rfl (by kernel_rfl) (fun K hK => ?_) AllReadyK.nil
  go_simp
  refine (bclone_any D data dc w.drew hD.drew).mono ?_
  rintro en w4 ⟨Q, qc, rfl, oQ, b4⟩
  replace oQ : OwnB w.heap.size w4 Q data qc := oQ
  have b34 : Below w.heap.size w w4 := below_step (b := w.drew) ((Below.refl _ _).drew) b4
  have kF4 := kd.below b4 kd.lt
  clear kd
  refine hK.out _ _ kF4 ?_
  clear hK K
  try dsimp only
  try simp only [Z1, Z2, Z3, Z4, Z5, Z6, Z7]
  refine wpAnyK_takeY (i := 14) (v := ?_) rfl (by kernel_rfl) (by kernel_rfl) (by kernel_rfl) (by kernel_rfl) (fun _ _ _ h => h) (Or.inl ⟨by rfl, ?_⟩) kF4 ?_
  case refine_2 => intro w; go_simp; try with_reducible rfl
  try simp only [Z1, Z2, Z3, Z4, Z5, Z6, Z7]
  refine wpAnyK_ready (rs := [15]) (by kernel_rfl) (by simp) ?_
  refine AllReadyK.cons rfl (by kernel_rfl) (fun K hK => ?_) AllReadyK.nil
  go_simp
  change K _ (w4.alloc (.cells #[.int .u64 (d.term : Int), .slice Q data.length qc] 44))
  have d5 : Below w4.heap.size w4 (w4.alloc (.cells #[.int .u64 (d.term : Int), .slice Q data.length qc] 44)) := (Below.refl _ _).alloc (Nat.le_refl _) _
  have kF5 := kF4.below d5 kF4.lt
  have hrN := Reads.newN w4 [.int .u64 (d.term : Int), .slice Q data.length qc] 44
  have b35 := below_step b34 d5
  have hNW := hN.wide b35
  have hlX := hN.log.lt
  have hdl := hD.le
  have s4 := b34.size
  have s5 := d5.size
  have hQl := (OwnB.at_ oQ).mono' (S' := fun b => w.heap.size ≤ b ∧ b < w4.heap.size) fun b h => h
  have hrep : EntE.rep (w4.alloc (.cells #[.int .u64 (d.term : Int), .slice Q data.length qc] 44)) (fun b => (S b ∨ (w.heap.size ≤ b ∧ b < (w4.alloc (.cells #[.int .u64 (d.term : Int), .slice Q data.length qc] 44)).heap.size)) ∧ (Value.slice A d.log.length ec).ownBlock ≠ some b) [.int .u64 (d.term : Int), .slice Q data.length qc] ⟨d.term, data⟩ :=
    ⟨Q, qc, rfl, ht, (OwnB.bs oQ (by omega)).below d5, hQl.mono' fun b h => ⟨.inr ⟨h.1, Nat.lt_of_lt_of_le h.2 s5⟩, fun e => by have := (hlX b e).2; omega⟩, OwnB.caps oQ⟩
  clear hN hQl oQ hlX kF4 d5
  generalize (w4.alloc (.cells #[.int .u64 (d.term : Int), .slice Q data.length qc] 44)) = w5 at *
  refine hK.out _ _ kF5 ?_
  clear hK K
  try dsimp only
  try simp only [Z1, Z2, Z3, Z4, Z5, Z6, Z7]
  refine wpAnyK_ready (rs := [16]) (by kernel_rfl) (by simp) ?_
  refine AllReadyK.cons rfl (by kernel_rfl) (fun K hK => ?_) AllReadyK.nil
  refine step_appN EntE w5 rfl (.tmp 10) (.tmp 20) 44 31 rfl i0 _ Try.underlying31 hi0 hz0 hz1 hz2 rfl (fun b => S b ∨ (w.heap.size ≤ b ∧ b < w5.heap.size)) A d.log ec rfl hNW.log _ [.int .u64 (d.term : Int), .slice Q data.length qc] ⟨d.term, data⟩ 1 rfl _ hrN hrep (by simp only [EntE]; omega) (by simp only [maxLen]; omega) ?_
  intro A8 c8 xs8 w8 H8 o8 g8 t8
  have kF8 := kF5.grown g8 (fun e => hNW.log.ne_blk hNW.blk (by decide) e.symm)
  have hNA := hNW.app g8 o8 t8
  have f4 : w8.frozen? ⟨g, 4, none⟩ = false := kF8.frozen 4
  clear kF5 hrep hrN
  refine hK.out _ _ kF8 ?_
  clear hK K
  try dsimp only
  try simp only [Z1, Z2, Z3, Z4, Z5, Z6, Z7]
  refine wpAnyK_takeY (i := 17) (v := ?_) rfl (by kernel_rfl) (by kernel_rfl) (by kernel_rfl) (by kernel_rfl) (fun _ _ _ h => h) (Or.inl ⟨by rfl, ?_⟩) kF8 ?_
  case refine_2 => intro w; go_simp; try with_reducible rfl
  try simp only [Z1, Z2, Z3, Z4, Z5, Z6, Z7]
  refine wpAnyK_takeY (i := 18) (v := ?_) rfl (by kernel_rfl) (by kernel_rfl) (by kernel_rfl) (by kernel_rfl) (fun _ _ _ h => h) (Or.inl ⟨by rfl, ?_⟩) kF8 ?_
  case refine_2 => intro w; go_simp; try with_reducible rfl
  try simp only [Z1, Z2, Z3, Z4, Z5, Z6, Z7]
  refine wpAnyK_takeY (i := 19) (v := ?_) rfl (by kernel_rfl) (by kernel_rfl) (by kernel_rfl) (by kernel_rfl) (fun _ _ _ h => h) (Or.inl ⟨by rfl, ?_⟩) kF8 ?_
  case refine_2 => intro w; go_simp; try with_reducible rfl
  try simp only [Z1, Z2, Z3, Z4, Z5, Z6, Z7]
  refine wpAnyK_ready (rs := [20]) (by kernel_rfl) (by simp) ?_
  refine AllReadyK.turn rfl (fun K hK => ?_) AllReadyK.nil
  have y4 : w8.cell? ⟨g, 4, none⟩ = some (.slice A d.log.length ec) := kF8.cell 4
  go_simp
  refine hK.out _ _ ?_
  clear hK K hH
  try simp only [Z1, Z2, Z3, Z4, Z5, Z6, Z7]
  refine wpAny_done (by kernel_rfl) ?_ _
  refine NoPanic.normal ?_
  have g9 : w.heap.size ≤ (w8.setCell ⟨g, 4, none⟩ (.slice A8 xs8.length c8)).heap.size := by rw [World.size_setCell]; exact Nat.le_trans b35.size g8.size
  have B9 : BlP F w (w8.setCell ⟨g, 4, none⟩ (.slice A8 xs8.length c8)) := ((BlP.of_below b35).grown g8 fun b e h => (HF.out b h).2.2.1 e).setCell (fun h => (HF.out g h).1 rfl) _
  have HT8 := Lib.hid t8
  have HZ5 := Lib.hid b35.size
  clear y4 f4 kF8 hNW o8 g8 t8 b35 s5 s4 b34 b4
  generalize (w8.setCell ⟨g, 4, none⟩ (.slice A8 xs8.length c8)) = w9 at *
  go_upto_region 2 with fail
  refine wp_region_noPanic ?_
  have kd := hNA.blk.drew
  refine wp_region_heldK (fun Y => Blk Y g 48 (nodeC (.slice A8 xs8.length c8) V (.slice (some ⟨gm, 0, none⟩) 1 c) X { d with log := xs8 })) 11 (by kernel_rfl) kd (fun hH => ?_)
  refine wpAnyK_takeY (i := 0) (v := ?_) rfl (by kernel_rfl) (by kernel_rfl) (by kernel_rfl) (by kernel_rfl) (fun _ _ _ h => h) (Or.inl ⟨by rfl, ?_⟩) hH ?_
  case refine_2 => intro w; go_simp; try with_reducible rfl
  try simp only [Z1, Z2, Z4, Z5, Z6, Z7]
  refine wpAnyK_takeY (i := 1) (v := ?_) rfl (by kernel_rfl) (by kernel_rfl) (by kernel_rfl) (by kernel_rfl) (fun _ _ _ h => h) (Or.inl ⟨by rfl, ?_⟩) hH ?_
  case refine_2 => intro w; go_simp; try with_reducible rfl
  try simp only [Z1, Z2, Z3, Z4, Z5, Z6, Z7]
  refine wpAnyK_takeY (i := 2) (v := ?_) rfl (by kernel_rfl) (by kernel_rfl) (by kernel_rfl) (by kernel_rfl) (fun _ _ _ h => h) (Or.inl ⟨by rfl, ?_⟩) hH ?_
  case refine_2 => intro w; go_simp; try with_reducible rfl
  try simp only [Z1, Z2, Z3, Z4, Z5, Z6, Z7]
  refine wpAnyK_take (i := 3) (v := ?_) rfl (by kernel_rfl) (by kernel_rfl) (by kernel_rfl) (by kernel_rfl) (fun _ _ _ h => h) (Or.inl ⟨by rfl, ?_⟩) hH ?_
  case refine_2 => intro w hSw; have kw : Blk w g 48 (nodeC (.slice A8 xs8.length c8) V (.slice (some ⟨gm, 0, none⟩) 1 c) X { d with log := xs8 }) := hSw; have s13 : w.cell? ⟨_, 13, none⟩ = some (.slice (some ⟨gm, 0, none⟩) 1 c) := Blk.cell kw 13; clear kw hSw; go_simp; try with_reducible rfl
  try simp only [Z1, Z2, Z3, Z4, Z5, Z6, Z7]
  refine wpAnyK_takeY (i := 4) (v := ?_) rfl (by kernel_rfl) (by kernel_rfl) (by kernel_rfl) (by kernel_rfl) (fun _ _ _ h => h) (Or.inl ⟨by rfl, ?_⟩) hH ?_
  case refine_2 => intro w; go_simp; try with_reducible rfl
  try simp only [Z1, Z2, Z3, Z4, Z5, Z6, Z7]
  refine wpAnyK_takeY (i := 5) (v := ?_) rfl (by kernel_rfl) (by kernel_rfl) (by kernel_rfl) (by kernel_rfl) (fun _ _ _ h => h) (Or.inl ⟨by rfl, ?_⟩) hH ?_
  case refine_2 => intro w; go_simp; try with_reducible rfl
  try simp only [Z1, Z2, Z3, Z4, Z5, Z6, Z7]
  refine wpAnyK_takeY (i := 6) (v := ?_) rfl (by kernel_rfl) (by kernel_rfl) (by kernel_rfl) (by kernel_rfl) (fun _ _ _ h => h) (Or.inl ⟨by rfl, ?_⟩) hH ?_
  case refine_2 => intro w; go_simp; try with_reducible rfl
  try simp only [Z1, Z2, Z3, Z4, Z5, Z6, Z7]
  refine wpAnyK_take (i := 7) (v := ?_) rfl (by kernel_rfl) (by kernel_rfl) (by kernel_rfl) (by kernel_rfl) (fun _ _ _ h => h) (Or.inl ⟨by rfl, ?_⟩) hH ?_
  case refine_2 => intro w hSw; have kw : Blk w g 48 (nodeC (.slice A8 xs8.length c8) V (.slice (some ⟨gm, 0, none⟩) 1 c) X { d with log := xs8 }) := hSw; have s5 : w.cell? ⟨_, 5, none⟩ = some (.int .i64 0) := (Blk.cell kw 5).trans (congrArg some (congrArg (Value.int .i64) (congrArg Int.ofNat HI.out))); clear kw hSw; go_simp; try with_reducible rfl
  try simp only [Z1, Z2, Z3, Z4, Z5, Z6, Z7]
  refine wpAnyK_takeY (i := 8) (v := ?_) rfl (by kernel_rfl) (by kernel_rfl) (by kernel_rfl) (by kernel_rfl) (fun _ _ _ h => h) (Or.inl ⟨by rfl, ?_⟩) hH ?_
  case refine_2 => intro w; go_simp; try with_reducible rfl
  try simp only [Z1, Z2, Z3, Z4, Z5, Z6, Z7]
  refine wpAnyK_ready (rs := [9]) (by kernel_rfl) (by simp) ?_
  refine AllReadyK.cons rfl (by kernel_rfl) (fun K hK => ?_) AllReadyK.nil
  go_simp
  have hll : xs8.length = d.log.length + 1 := by rw [H8.out, List.length_append]; rfl
  have hb8 : NodeB { d with log := xs8 } := ⟨by show d.base + xs8.length ≤ _; rw [hll]; omega, hbt⟩
  refine (last_any g A8 c8 V (.slice (some ⟨gm, 0, none⟩) 1 c) X { d with log := xs8 } w9.drew kd hb8).mono ?_
  have hxl : lastN { d with log := xs8 } = lastN d + 1 := by show d.base + xs8.length = _; rw [hll]; rfl
  rw [hxl]
  rintro en w10 ⟨rfl, q, hq⟩
  have d10 : Below w9.heap.size w9 w10 := by rw [hq]; exact ⟨rfl, rfl, rfl, Nat.le_refl _, fun _ _ => rfl⟩
  have k10 := hNA.blk.below d10 hNA.blk.lt
  have N10 := hNA.below d10
  have HLL := Lib.hid hll
  have HXL := Lib.hid hxl
  clear kd hq hll hxl
  refine hK.out _ _ k10 ?_
  clear hK K
  try dsimp only
  try simp only [Z1, Z2, Z3, Z4, Z5, Z6, Z7]
  refine wpAnyK_takeY (i := 10) (v := ?_) rfl (by kernel_rfl) (by kernel_rfl) (by kernel_rfl) (by kernel_rfl) (fun _ _ _ h => h) (Or.inl ⟨by rfl, ?_⟩) k10 ?_
  case refine_2 => intro w; go_simp; try with_reducible rfl
  try simp only [Z1, Z2, Z3, Z4, Z5, Z6, Z7]
  refine wpAnyK_ready (rs := [11]) (by kernel_rfl) (by simp) ?_
  refine AllReadyK.turn rfl (fun K hK => ?_) AllReadyK.nil
  obtain ⟨ym, fm, hml⟩ := N10.matCell HM.out
  have hM11 := N10.setM (x := lastN d + 1) HM.out (by unfold lastN; omega)
  have eZ : w10.setCell ⟨gm, 0, none⟩ (.int .u64 ((lastN d + 1 : Nat) : Int)) = w10.setCell ⟨gm, 0, none⟩ (.int .u64 ((lastN d : Int) + 1)) := rfl
  rw [eZ] at hM11
  clear eZ
  go_simp
  refine hK.out _ _ ?_
  clear hK K hH
  try simp only [Z1, Z2, Z3, Z4, Z5, Z6, Z7]
  refine wpAny_done (by kernel_rfl) ?_ _
  refine NoPanic.normal ?_
  have hgmF : ∀ b, F b → b ≠ gm := fun b h e => (HF.out b h).2.2.2.2.1 (by rw [e]; rfl)
  have B11 : BlP F w (w10.setCell ⟨gm, 0, none⟩ (.int .u64 ((lastN d : Int) + 1))) := (B9.trans (.of_below d10)).setCell (fun h => hgmF gm h rfl) _
  clear ym fm N10 k10 d10 B9 hNA
  generalize (w10.setCell ⟨gm, 0, none⟩ (.int .u64 ((lastN d : Int) + 1))) = w11 at *
  have T := agree_one g gm c c8 A8 V X Any { d with log := xs8, mat := [lastN d + 1] } (lastN d + 1) w11 hM11.blk (hM11.log.slS rfl (by show xs8.length * 32 ≤ _; rw [HLL.out]; omega) (fun _ _ => trivial) (fun _ _ => trivial)) ⟨hb8.last, hb8.bt⟩ (hM11.matCell rfl).1 (hM11.matCell rfl).2.2 HN1.out (by unfold lastN; omega)
    (by have h1 := termAt_last { d with log := xs8, mat := [lastN d + 1] } d.log ⟨d.term, data⟩ H8.out; have h2 : lastN { d with log := xs8, mat := [lastN d + 1] } = lastN d + 1 := HXL.out; rw [h2] at h1; exact h1) (by show d.commit < _; omega)
  go_wp2_with fail
  refine T.mono ?_
  clear T
  rintro en w12 ⟨rfl, g12, k12⟩
  have N12 := hM11.turn g12 k12 ⟨rfl, rfl, rfl, rfl⟩
  have B12 := B11.grown g12 (fun b e h => (HF.out b h).1 (Option.some.inj e).symm)
  have T := fun fv => others_one g (.slice A8 xs8.length c8) V (.slice (some ⟨gm, 0, none⟩) 1 c) X fv _ w12 k12 HN1.out HI.out
  clear hM11 g12 B11
  go_wp2_with fail
  refine (T _).mono ?_
  clear T
  rintro en w13 ⟨rfl, rfl⟩
  go_wp2_with fail
  go_ret
  refine ⟨rfl, ⟨_, _, _, _, _, by have h := N12; rw [show addP d data = { d with log := xs8, mat := [lastN d + 1], commit := lastN d + 1 } by unfold addP; rw [H8.out]]; exact h, fun b h => ?_⟩, B12⟩
  obtain ⟨f1, f2, f3, f4, f5, f6⟩ := HF.out b h.1
  refine ⟨f1, fun h2 => ?_, ?_, f4, f5, f6⟩
  · rcases h2 with h2 | h2
    · exact f2 h2
    · omega
  · rcases HT8.out with e | e <;> rw [e]
    · exact f3
    · intro e; have := Option.some.inj e; have := HZ5.out; omega
end Go.Proofs.Ytjpcekpllfelhaa
