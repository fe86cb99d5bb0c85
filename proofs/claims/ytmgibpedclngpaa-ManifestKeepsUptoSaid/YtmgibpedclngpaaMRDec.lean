/- An edit out of bytes in the document's words: caissonref12.Decode. (Printed by wip/gen_mrdec.py.) -/
import Derived.Test.YtmgibpedclngpaaMRFile
import Derived.Test.YtmgibpedclngpaaAppE
namespace Go.Proofs.Ytmgibpedclngpaa
open Go.RowKit

/-- an edit is answered in the document's words, and an error -/
def RetREdit (r : LEdit × Int) (w : World) (en : Ending) (w' : World) : Prop :=
  ∃ A a D d, en = .returned (.tuple #[.agg #[.bool r.1.reset, .slice A r.1.add.length a, .slice D r.1.drop.length d, .int .u64 (r.1.seq : Int)], .int .i64 r.2]) ∧ Own RFE 71 w' w.heap.size (fun b => w.heap.size ≤ b) (.slice A r.1.add.length a) r.1.add ∧ Own NE 23 w' w.heap.size (fun _ => False) (.slice D r.1.drop.length d) r.1.drop ∧ U64 r.1.seq ∧ Below w.heap.size w w'
theorem RetREdit.bad {r : LEdit × Int} {e : Int} (h : Hid (r = (.zero, e))) {w w' : World} (hb : Below w.heap.size w w') : RetREdit r w (.returned (.tuple #[.agg #[.bool false, .slice none 0 0, .slice none 0 0, .int .u64 0], .int .i64 e])) w' := by
  rw [h.out]
  exact ⟨none, 0, none, 0, rfl, Own.nil_ _ _ _ _ _, Own.nil_ _ _ _ _ _, by show (0 : Nat) < _; decide, hb⟩
theorem fileQ_two (p : List UInt8) : (fileQ p).2 = (fileR p).2 := by
  unfold fileQ
  by_cases h : (fileR p).2 ≠ 0
  · rw [if_pos h]
  · rw [if_neg h]
theorem fileQ_one {p : List UInt8} (h : (fileR p).2 = 0) : fileQ p = fileR p := if_neg (fun hh => hh h)
theorem fileQ_wf (p : List UInt8) : (fileQ p).1.wf := by
  unfold fileQ
  by_cases h : (fileR p).2 ≠ 0
  · rw [if_pos h]; show LFile.wf LFile.zero; refine ⟨?_, ?_, ?_, ?_⟩ <;> simp only [U64, I64, LFile.zero] <;> decide
  · rw [if_neg h]; exact fileR_wf p
theorem fileQ_len (p : List UInt8) : (fileQ p).1.first.length ≤ p.length ∧ (fileQ p).1.last.length ≤ p.length := by
  unfold fileQ
  by_cases h : (fileR p).2 ≠ 0
  · rw [if_pos h]; exact ⟨Nat.zero_le _, Nat.zero_le _⟩
  · rw [if_neg h]; exact fileR_len p
theorem Try.size_RMEdit : (Try.prog.info? 35).map (·.size) = some 4 := by kernel_rfl
theorem Try.infoRFile : (Try.prog.info? 71).map (fun i => (i.zero, i.size, i.bytes)) = some (some (.agg #[.int .u64 0, .int .i64 0, .slice none 0 0, .slice none 0 0, .int .i64 0, .int .i64 0]), 6, 80) := by kernel_rfl
set_option maxRecDepth 100000 in
set_option maxHeartbeats 8000000 in
theorem rmdecode_any (A : Option Addr) (l : List UInt8) (c : Nat) (w : World) (hb : Bs w A l) (hc : l.length ≤ c ∧ c ≤ 9223372036854775807) (hl5 : l.length ≤ 1048576) : Calls Try.prog 23 #[.slice A l.length c] w (RetREdit (decM l) w) := by
  obtain ⟨i1, hi1, hy0, hy1, hy2⟩ := info_parts Try.infoU64
  obtain ⟨i2, hi2, hx0, hx1, hx2⟩ := info_parts Try.infoRFile
  have b0 : Below w.heap.size w (w.alloc (.cells #[.bool false, .slice none 0 0, .slice none 0 0, .int .u64 0] 35)) := (Below.refl _ _).alloc (Nat.le_refl _) _
  have kP := Blk.new w 35 #[.bool false, .slice none 0 0, .slice none 0 0, .int .u64 0]
  have T := rparts_any A l c (w.alloc (.cells #[.bool false, .slice none 0 0, .slice none 0 0, .int .u64 0] 35)) (hb.below b0) hc (by omega)
  have hps := partsA_small (f := l.length) (l := l) (acc := [])
  have hp0 : partsA l.length l [] = partsL l := rfl
  rw [hp0] at hps
  have HD0 : Hid (decM l = if (partsL l).2 ≠ 0 then (.zero, (partsL l).2) else decM1 (partsL l).1) := rfl
  clear hp0 hb
  generalize partsL l = r at *
  obtain ⟨ps, e0⟩ := r
  have hpl : ps.length ≤ 1048576 := by have h1 : ps.length ≤ [].length + l.length := hps.1; rw [List.length_nil] at h1; omega
  have HPL : Hid (∀ x ∈ ps, x.length ≤ 1048576) := fun x hx => by have := (hps.2 x hx).resolve_left (by simp); omega
  clear hps
  go_enter Try.func23, Try.ntmps23
  go_wp2_with fail
  generalize (w.alloc (.cells #[.bool false, .slice none 0 0, .slice none 0 0, .int .u64 0] 35)) = W0 at *
  refine T.mono ?_
  clear T
  rintro en w1 ⟨P, dp, rfl, oP0, b1⟩
  have oP : Own BsE 49 w1 W0.heap.size (fun b => W0.heap.size ≤ b ∧ b < w1.heap.size) (.slice P ps.length dp) ps := oP0
  have cP := Own.caps oP
  have sP : SlS BsE w1 (fun b => b < w1.heap.size) P ps := (Own.sl oP (by simp only [BsE]; omega)).old
  have k1 := kP.below b1 kP.lt
  have z0 := kP.lt
  have z1 := b1.size
  have b01 := b0.trans (b1.mono b0.size)
  clear oP0 oP kP b0 b1
  by_cases he : e0 = 0
  case neg =>
    have d0 : (e0 != 0) = true := by rw [bne_iff_ne]; exact he
    have HE : Hid (decM l = (.zero, e0)) := by show _ = _; rw [HD0.out]; exact if_pos he
    clear he HD0
    go_wp2_with ((with_reducible refine wpList_store_blk rfl 35 (.tmp 2) (.tmp 21) rfl w.heap.size 35 _ #[.bool false, .slice none 0 0, .slice none 0 0, .int .u64 0] ?_ ?_ k1 Try.size_RMEdit ?_ ?_ ?_ ?_); rfl; rfl; rfl; rfl; (simp [Value.oneCell']); intro w9 kz9 g9 z9)
    exact bodyPost_ret (results_cell2 rfl rfl rfl kz9 Try.underlying35 rfl Try.size_RMEdit) rfl (by exact RetREdit.bad HE (b01.grown g9 b01.size (fun j e => by have := Option.some.inj e; omega)))
  have d0 : (e0 != 0) = false := by rw [he]; rfl
  have HD1 : Hid (decM l = decM1 ps) := by show _ = _; rw [HD0.out]; exact if_neg (fun h => h he)
  clear he HD0
  by_cases h2 : ps.length < 2
  case pos =>
    have d1 : (ps.length : Int) < 2 := by omega
    have HE : Hid (decM l = (.zero, 3)) := by show _ = _; rw [HD1.out]; exact if_pos h2
    clear h2 HD1
    go_wp2_with ((with_reducible refine wpList_store_blk rfl 35 (.tmp 2) (.tmp 41) rfl w.heap.size 35 _ #[.bool false, .slice none 0 0, .slice none 0 0, .int .u64 0] ?_ ?_ k1 Try.size_RMEdit ?_ ?_ ?_ ?_); rfl; rfl; rfl; rfl; (simp [Value.oneCell']); intro w9 kz9 g9 z9)
    exact bodyPost_ret (results_cell2 rfl rfl rfl kz9 Try.underlying35 rfl Try.size_RMEdit) rfl (by exact RetREdit.bad HE (b01.grown g9 b01.size (fun j e => by have := Option.some.inj e; omega)))
  have d1 : ¬ (ps.length : Int) < 2 := by omega
  have d1a : (0 : Int) < (ps.length : Int) := by omega
  have d1b : (1 : Int) < (ps.length : Int) := by omega
  obtain ⟨pd, H, hc0, rfl, hpb, x0, hH, hHat, hcap⟩ := BsE.at_ sP (show 0 < ps.length by omega)
  obtain ⟨pd2, G, gc, e2, _, x1, hG, hGat, gcap⟩ := BsE.at_ sP (show 1 < ps.length by omega)
  obtain rfl : pd = pd2 := Option.some.inj e2
  have hpl0 := HPL.out ps[0] (List.getElem_mem _)
  have hpl1 := HPL.out ps[1] (List.getElem_mem _)
  rw [add_zero_] at x0
  unfold Addr.add at x1
  rw [if_neg (by decide)] at x1
  have HD2 : Hid (decM l = if ps[0].length = 0 then (.zero, 3) else if 1 < (ps[0].getD 0 0).toNat then (.zero, 3) else decM2 ps[0] ps[1] (ps.drop 2)) := by show _ = _; rw [HD1.out]; unfold decM1; rw [if_neg h2, getD_getElem (show 0 < ps.length by omega), getD_getElem (show 1 < ps.length by omega)]
  clear e2 HD1
  generalize ps[0] = h at *
  generalize ps[1] = dl at *
  by_cases h3 : h.length = 0
  case pos =>
    have d2 : ((h.length : Int) == 0) = true := by rw [beq_iff_eq]; omega
    have HE : Hid (decM l = (.zero, 3)) := by show _ = _; rw [HD2.out]; exact if_pos h3
    clear h3 HD2 h2
    go_wp2_with ((with_reducible refine wpList_store_blk rfl 35 (.tmp 2) (.tmp 41) rfl w.heap.size 35 _ #[.bool false, .slice none 0 0, .slice none 0 0, .int .u64 0] ?_ ?_ k1 Try.size_RMEdit ?_ ?_ ?_ ?_); rfl; rfl; rfl; rfl; (simp [Value.oneCell']); intro w9 kz9 g9 z9)
    exact bodyPost_ret (results_cell2 rfl rfl rfl kz9 Try.underlying35 rfl Try.size_RMEdit) rfl (by exact RetREdit.bad HE (b01.grown g9 b01.size (fun j e => by have := Option.some.inj e; omega)))
  have d2 : ((h.length : Int) == 0) = false := by rw [beq_eq_false_iff_ne]; omega
  have d2a : (0 : Int) < (h.length : Int) := by omega
  obtain ⟨hd, rfl, hdb, x2⟩ := hH.at_ (show 0 < h.length by omega)
  rw [add_zero_] at x2
  have HX : Hid (h.getD 0 0 = h[0]) := getD_getElem (show 0 < h.length by omega) 0
  have HD3 : Hid (decM l = if 1 < (h.getD 0 0).toNat then (.zero, 3) else decM2 h dl (ps.drop 2)) := by show _ = _; rw [HD2.out]; exact if_neg h3
  clear HD2 h3
  obtain ⟨xb, hxb⟩ : ∃ xb : Int, ((h.getD 0 0).toNat : Int) = xb := ⟨_, rfl⟩
  have x2' : w1.cell? hd = some (.int .u8 xb) := by rw [x2, ← hxb, HX.out]
  clear x2 HX
  have HXB := Lib.hid hxb
  by_cases h4 : 1 < (h.getD 0 0).toNat
  case pos =>
    have d3 : (1 : Int) < xb := by omega
    have HE : Hid (decM l = (.zero, 3)) := by show _ = _; rw [HD3.out]; exact if_pos h4
    clear h4 HD3 h2 hxb
    go_wp2_with ((with_reducible refine wpList_store_blk rfl 35 (.tmp 2) (.tmp 41) rfl w.heap.size 35 _ #[.bool false, .slice none 0 0, .slice none 0 0, .int .u64 0] ?_ ?_ k1 Try.size_RMEdit ?_ ?_ ?_ ?_); rfl; rfl; rfl; rfl; (simp [Value.oneCell']); intro w9 kz9 g9 z9)
    exact bodyPost_ret (results_cell2 rfl rfl rfl kz9 Try.underlying35 rfl Try.size_RMEdit) rfl (by exact RetREdit.bad HE (b01.grown g9 b01.size (fun j e => by have := Option.some.inj e; omega)))
  have d3 : ¬ (1 : Int) < xb := by omega
  have HD4 : Hid (decM l = decM2 h dl (ps.drop 2)) := by show _ = _; rw [HD3.out]; exact if_neg h4
  clear h4 HD3 hxb
  have T2 := numbers_any (some hd) h hc0 1 1 w1 hH (by omega) hpl0
  rw [numA_one (show 1 ≤ h.length by omega)] at T2
  have hq1 : (nxtN h 1).2.1 ≤ h.length := nxtN_le (show 1 ≤ h.length by omega)
  have hu1 : U64 (nxtN h 1).1 := by have := nN_u64 h 1 0; rw [nN_zero] at this; exact this
  have HD5 : Hid (decM l = if doneE h (nxtN h 1).2.1 (nxtN h 1).2.2 ≠ 0 then (.zero, doneE h (nxtN h 1).2.1 (nxtN h 1).2.2) else if (dropR dl).2 ≠ 0 then (.zero, (dropR dl).2) else if (filesR (ps.drop 2)).2 ≠ 0 then (.zero, (filesR (ps.drop 2)).2) else (⟨xb == 1, (filesR (ps.drop 2)).1, (dropR dl).1, (nxtN h 1).1⟩, 0)) := by show _ = _; rw [HD4.out]; unfold decM2; rw [nN_zero, HXB.out]
  clear HD4 HXB
  generalize nxtN h 1 = r at *
  obtain ⟨n1, q1, e1⟩ := r
  replace hq1 : q1 ≤ h.length := hq1
  replace hu1 : U64 n1 := hu1
  by_cases he1 : e1 ≠ 0
  · have HE : Hid (decM l = (.zero, e1)) := by
      show _ = _
      rw [HD5.out]
      show (if doneE h q1 e1 ≠ 0 then (LEdit.zero, doneE h q1 e1) else _) = _
      rw [doneE_bad he1, if_pos he1]
    have d5 : (e1 != 0) = true := by rw [bne_iff_ne]; exact he1
    rw [if_pos he1] at T2
    clear HD5 he1 h2
    go_wp2_with fail
    refine T2.mono ?_
    clear T2
    rintro en w3 ⟨D3, d3_, rfl, _, b3⟩
    have k3 := k1.below b3 k1.lt
    have b03 := b01.trans (b3.mono b01.size)
    try dsimp only
    go_wp2_with ((with_reducible refine wpList_store_blk rfl 35 (.tmp 2) (.tmp 52) rfl w.heap.size 35 _ #[.bool false, .slice none 0 0, .slice none 0 0, .int .u64 0] ?_ ?_ k3 Try.size_RMEdit ?_ ?_ ?_ ?_); rfl; rfl; rfl; rfl; (simp [Value.oneCell']); intro w9 kz9 g9 z9)
    exact bodyPost_ret (results_cell2 rfl rfl rfl kz9 Try.underlying35 rfl Try.size_RMEdit) rfl (by exact RetREdit.bad HE (b03.grown g9 b03.size (fun j e => by have := Option.some.inj e; omega)))
  obtain rfl : e1 = 0 := Classical.byContradiction he1
  rw [if_neg (fun h => h rfl)] at T2
  clear he1
  go_wp2_with fail
  refine T2.mono ?_
  clear T2
  rintro en w3 ⟨D3, d3_, rfl, oN0, b3⟩
  have oN3 : Own NE 23 w3 w1.heap.size (fun _ => False) (.slice D3 1 d3_) [n1] := oN0
  have k3 := k1.below b3 k1.lt
  have b03 := b01.trans (b3.mono b01.size)
  have y0 := (b3.cell hpb).trans x0
  have y1 := (b3.cell (p := ⟨pd.block, pd.off + 1, none⟩) hpb).trans x1
  have y2 := (b3.cell hdb).trans x2'
  have z13 := b3.size
  try dsimp only
  by_cases hql : q1 < h.length
  · have HE : Hid (decM l = (.zero, 3)) := by
      show _ = _
      rw [HD5.out]
      show (if doneE h q1 0 ≠ 0 then (LEdit.zero, doneE h q1 0) else _) = _
      rw [show doneE h q1 0 = 3 from if_pos ⟨rfl, hql⟩]
      exact if_pos (by decide)
    have d6 : ((q1 : Int) != (h.length : Int)) = true := by rw [bne_iff_ne]; omega
    clear HD5 hql h2
    go_wp2_with ((with_reducible refine wpList_store_blk rfl 35 (.tmp 2) (.tmp 60) rfl w.heap.size 35 _ #[.bool false, .slice none 0 0, .slice none 0 0, .int .u64 0] ?_ ?_ k3 Try.size_RMEdit ?_ ?_ ?_ ?_); rfl; rfl; rfl; rfl; (simp [Value.oneCell']); intro w9 kz9 g9 z9)
    exact bodyPost_ret (results_cell2 rfl rfl rfl kz9 Try.underlying35 rfl Try.size_RMEdit) rfl (by exact RetREdit.bad HE (b03.grown g9 b03.size (fun j e => by have := Option.some.inj e; omega)))
  have d6 : ((q1 : Int) != (h.length : Int)) = false := by rw [bne_eq_false_iff_eq]; omega
  have HD6 : Hid (decM l = if (dropR dl).2 ≠ 0 then (.zero, (dropR dl).2) else if (filesR (ps.drop 2)).2 ≠ 0 then (.zero, (filesR (ps.drop 2)).2) else (⟨xb == 1, (filesR (ps.drop 2)).1, (dropR dl).1, n1⟩, 0)) := by
    show _ = _
    rw [HD5.out]
    show (if doneE h q1 0 ≠ 0 then (LEdit.zero, doneE h q1 0) else _) = _
    rw [show doneE h q1 0 = 0 from if_neg (fun hh => hql hh.2)]
    exact if_neg (fun hh => hh rfl)
  clear HD5 hql oN0
  have T3 := numbers_any G dl gc 0 (-1) w3 (hG.below b3) (Nat.zero_le _) hpl1
  have HN := numA_all (dl.length + 1) dl 0 []
  have HDR : Hid (dropR dl = dropA (dl.length + 1) dl 0 []) := rfl
  generalize numA (dl.length + 1) dl (-1) 0 [] = r3 at *
  obtain ⟨ds, qd, ed⟩ := r3
  have HDD : Hid (dropR dl = (ds, ed)) := by show _ = _; rw [HDR.out]; exact Prod.ext HN.1.symm HN.2.symm
  clear HN HDR
  go_wp2_with fail
  refine T3.mono ?_
  clear T3
  rintro en w4 ⟨D4, d4_, rfl, oM0, b4⟩
  have oM4 : Own NE 23 w4 w3.heap.size (fun _ => False) (.slice D4 ds.length d4_) ds := oM0
  have z34 := b4.size
  have k4 := k3.below b4 (Nat.lt_of_lt_of_le k1.lt z13)
  have b04 := b03.trans (b4.mono b03.size)
  have b14 := b3.trans (b4.mono z13)
  have oN4 := Own.below oN3 b4
  have y04 := (b14.cell hpb).trans x0
  have y24 := (b14.cell hdb).trans x2'
  try dsimp only
  clear oM0 oN3 k3 b03 y0 y1 y2 b4
  by_cases hed : ed ≠ 0
  · have HE : Hid (decM l = (.zero, ed)) := by
      show _ = _
      rw [HD6.out, HDD.out]
      exact if_pos hed
    have d7 : (ed != 0) = true := by rw [bne_iff_ne]; exact hed
    clear HD6 hed h2
    go_wp2_with ((with_reducible refine wpList_store_blk rfl 35 (.tmp 2) (.tmp 71) rfl w.heap.size 35 _ #[.bool false, .slice none 0 0, .slice none 0 0, .int .u64 0] ?_ ?_ k4 Try.size_RMEdit ?_ ?_ ?_ ?_); rfl; rfl; rfl; rfl; (simp [Value.oneCell']); intro w9 kz9 g9 z9)
    exact bodyPost_ret (results_cell2 rfl rfl rfl kz9 Try.underlying35 rfl Try.size_RMEdit) rfl (by exact RetREdit.bad HE (b04.grown g9 b04.size (fun j e => by have := Option.some.inj e; omega)))
  obtain rfl : ed = 0 := Classical.byContradiction hed
  have HD7 : Hid (decM l = if (filesR (ps.drop 2)).2 ≠ 0 then (.zero, (filesR (ps.drop 2)).2) else (⟨xb == 1, (filesR (ps.drop 2)).1, ds, n1⟩, 0)) := by
    show _ = _
    rw [HD6.out, HDD.out]
    exact if_neg (fun hh => hh rfl)
  clear HD6 HDD hed
  have sD : Sl NE w4 D3 [n1] := Own.sl (show Own NE 23 w4 w1.heap.size (fun _ => False) (.slice D3 [n1].length d3_) [n1] from oN4) (by show 1 * 8 ≤ 140737488351232; decide)
  obtain ⟨nd, rfl, hnb, x9, _⟩ := NE.at_ sD (k := 0) (by show 0 < 1; decide)
  rw [add_zero_] at x9
  replace x9 : w4.cell? nd = some (.int .u64 (n1 : Int)) := x9
  clear sD oN4 h2 d2 d6 x0 x1 x2' hG hGat hcap gcap hpl0 hpl1 hq1 hH hHat
  go_upto_region 14 with fail
  refine wp_region_noPanic ?_
  have kPd := k4.drew
  have bd := b04.drew
  have b1d := b14.drew
  have oMd := Own.below oM4 ((Below.refl w4.heap.size w4).drew)
  have hdb4 := Nat.lt_of_lt_of_le hdb (Nat.le_trans z13 z34)
  have hpb4 := Nat.lt_of_lt_of_le hpb (Nat.le_trans z13 z34)
  refine wp_region_held_drew (S := fun W => W.cell? pd = some (.slice (some hd) h.length hc0) ∧ W.cell? hd = some (.int .u8 xb) ∧ W.cell? nd = some (.int .u64 (n1 : Int))) (by kernel_rfl) ⟨y04, y24, x9⟩ (fun hH => ?_)
  have z4V : w4.heap.size ≤ w4.drew.heap.size := Nat.le_refl _
  have zw : w.heap.size < w1.heap.size := k1.lt
  have hDV : Hid (∀ b, (Value.slice D4 ds.length d4_).ownBlock = some b → w3.heap.size ≤ b ∧ b < w4.heap.size) := fun b hb => Own.lt oM4 b hb
  clear y04 y24 x9 k4 b04 b14 oM4
  generalize w4.drew = V at *
  refine wpAnyH_take (i := 0) (v := ?_) rfl (by kernel_rfl) (by kernel_rfl) (by kernel_rfl) (fun _ _ _ h => h) (Or.inl ⟨by rfl, ?_⟩) hH ?_
  case refine_2 => intro w hSw; go_simp; try with_reducible rfl
  try simp only [List.getElem_toArray, List.getElem_cons_zero, Act.put, List.setIfInBounds_toArray, List.set_cons_zero, List.set_cons_succ]
  refine wpAnyH_take (i := 1) (v := ?_) rfl (by kernel_rfl) (by kernel_rfl) (by kernel_rfl) (fun _ _ _ h => h) (Or.inl ⟨by rfl, ?_⟩) hH ?_
  case refine_2 => intro w hSw; go_simp; try with_reducible rfl
  try simp only [List.getElem_toArray, List.getElem_cons_succ, List.getElem_cons_zero, Act.put, List.setIfInBounds_toArray, List.set_cons_zero, List.set_cons_succ]
  refine wpAnyH_take (i := 2) (v := ?_) rfl (by kernel_rfl) (by kernel_rfl) (by kernel_rfl) (fun _ _ _ h => h) (Or.inl ⟨by rfl, ?_⟩) hH ?_
  case refine_2 => intro w hSw; obtain ⟨s0, s1, s2⟩ := hSw; go_simp; try with_reducible rfl
  try simp only [List.getElem_toArray, List.getElem_cons_succ, List.getElem_cons_zero, Act.put, List.setIfInBounds_toArray, List.set_cons_zero, List.set_cons_succ]
  refine wpAnyH_take (i := 3) (v := ?_) rfl (by kernel_rfl) (by kernel_rfl) (by kernel_rfl) (fun _ _ _ h => h) (Or.inl ⟨by rfl, ?_⟩) hH ?_
  case refine_2 => intro w hSw; go_simp; try with_reducible rfl
  try simp only [List.getElem_toArray, List.getElem_cons_succ, List.getElem_cons_zero, Act.put, List.setIfInBounds_toArray, List.set_cons_zero, List.set_cons_succ]
  refine wpAnyH_take (i := 4) (v := ?_) rfl (by kernel_rfl) (by kernel_rfl) (by kernel_rfl) (fun _ _ _ h => h) (Or.inl ⟨by rfl, ?_⟩) hH ?_
  case refine_2 => intro w hSw; obtain ⟨s0, s1, s2⟩ := hSw; go_simp; try with_reducible rfl
  try simp only [List.getElem_toArray, List.getElem_cons_succ, List.getElem_cons_zero, Act.put, List.setIfInBounds_toArray, List.set_cons_zero, List.set_cons_succ]
  refine wpAnyH_take (i := 5) (v := ?_) rfl (by kernel_rfl) (by kernel_rfl) (by kernel_rfl) (fun _ _ _ h => h) (Or.inl ⟨by rfl, ?_⟩) hH ?_
  case refine_2 => intro w hSw; go_simp; try with_reducible rfl
  try simp only [List.getElem_toArray, List.getElem_cons_succ, List.getElem_cons_zero, Act.put, List.setIfInBounds_toArray, List.set_cons_zero, List.set_cons_succ]
  refine wpAnyH_take (i := 6) (v := ?_) rfl (by kernel_rfl) (by kernel_rfl) (by kernel_rfl) (fun _ _ _ h => h) (Or.inl ⟨by rfl, ?_⟩) hH ?_
  case refine_2 => intro w hSw; go_simp; try with_reducible rfl
  try simp only [List.getElem_toArray, List.getElem_cons_succ, List.getElem_cons_zero, Act.put, List.setIfInBounds_toArray, List.set_cons_zero, List.set_cons_succ]
  refine wpAnyH_take (i := 7) (v := ?_) rfl (by kernel_rfl) (by kernel_rfl) (by kernel_rfl) (fun _ _ _ h => h) (Or.inl ⟨by rfl, ?_⟩) hH ?_
  case refine_2 => intro w hSw; go_simp; try with_reducible rfl
  try simp only [List.getElem_toArray, List.getElem_cons_succ, List.getElem_cons_zero, Act.put, List.setIfInBounds_toArray, List.set_cons_zero, List.set_cons_succ]
  refine wpAnyH_take (i := 8) (v := ?_) rfl (by kernel_rfl) (by kernel_rfl) (by kernel_rfl) (fun _ _ _ h => h) (Or.inl ⟨by rfl, ?_⟩) hH ?_
  case refine_2 => intro w hSw; obtain ⟨s0, s1, s2⟩ := hSw; go_simp; try with_reducible rfl
  try simp only [List.getElem_toArray, List.getElem_cons_succ, List.getElem_cons_zero, Act.put, List.setIfInBounds_toArray, List.set_cons_zero, List.set_cons_succ]
  refine wpAnyH_take (i := 9) (v := ?_) rfl (by kernel_rfl) (by kernel_rfl) (by kernel_rfl) (fun _ _ _ h => h) (Or.inl ⟨by rfl, ?_⟩) hH ?_
  case refine_2 => intro w hSw; go_simp; try with_reducible rfl
  try simp only [List.getElem_toArray, List.getElem_cons_succ, List.getElem_cons_zero, Act.put, List.setIfInBounds_toArray, List.set_cons_zero, List.set_cons_succ]
  refine wpAnyH_take (i := 10) (v := ?_) rfl (by kernel_rfl) (by kernel_rfl) (by kernel_rfl) (fun _ _ _ h => h) (Or.inl ⟨by rfl, ?_⟩) hH ?_
  case refine_2 => intro w hSw; go_simp; try with_reducible rfl
  try simp only [List.getElem_toArray, List.getElem_cons_succ, List.getElem_cons_zero, Act.put, List.setIfInBounds_toArray, List.set_cons_zero, List.set_cons_succ]
  refine wpAnyH_ready (rs := [11]) (by kernel_rfl) (by simp) ?_
  refine AllReadyH.cons rfl (fun K hK => ?_) AllReadyH.nil
  go_simp
  have a3 : Below V.heap.size V (V.alloc (.cells #[.bool false, .slice none 0 0, .slice none 0 0, .int .u64 0] 35)) := (Below.refl _ _).alloc (Nat.le_refl _) _
  have kz3 := Blk.new V 35 #[.bool false, .slice none 0 0, .slice none 0 0, .int .u64 0]
  have kP3 := kPd.below a3 kPd.lt
  have oM3 := Own.below oMd a3
  have b3_ := bd.trans (a3.mono bd.size)
  have b13 := b1d.trans (a3.mono b1d.size)
  have hS3 := And.intro ((a3.cell (p := pd) (by omega)).trans hH.1) (And.intro ((a3.cell (p := hd) (by omega)).trans hH.2.1) ((a3.cell (p := nd) (by omega)).trans hH.2.2))
  refine hK.out _ _ hS3 (fun hH3 => ?_)
  clear hK K hH kPd oMd
  try dsimp only
  try simp only [List.getElem_toArray, List.getElem_cons_succ, List.getElem_cons_zero, Act.put, List.setIfInBounds_toArray, List.set_cons_zero, List.set_cons_succ]
  have zz := a3.size
  have zV := kz3.lt
  have zwV : w.heap.size < V.heap.size := by omega
  clear a3 bd b1d
  generalize (V.alloc (.cells #[.bool false, .slice none 0 0, .slice none 0 0, .int .u64 0] 35)) = V3 at *
  refine wpAnyH_ready (rs := [12]) (by kernel_rfl) (by simp) ?_
  refine AllReadyH.cons rfl (fun K hK => ?_) AllReadyH.nil
  refine step_store_blk rfl 35 (.tmp 10) (.tmp 83) rfl V.heap.size 35 #[.bool false, .slice none 0 0, .slice none 0 0, .int .u64 0] #[.bool (xb == 1), .slice none 0 0, .slice D4 ds.length d4_, .int .u64 (n1 : Int)] rfl rfl kz3 Try.size_RMEdit rfl rfl (by simp [Value.oneCell']) ?_
  intro w8 kf8 g4 z4
  have kP8 := kP3.grown g4 (fun e => by have := Option.some.inj e; omega)
  have b08 := b3_.grown g4 b3_.size (fun j e => by have := Option.some.inj e; omega)
  have b8 := b13.grown g4 b13.size (fun j e => by have := Option.some.inj e; omega)
  have oM8 := Own.same oM3 g4 (.inr fun e => by have := (hDV.out _ e).2; omega) (fun _ h => h.elim)
  refine hK.out _ _ ⟨(g4.cell_far pd (by omega) (fun e => by have h : pd.block = V.heap.size := Option.some.inj e; omega)).trans hS3.1, (g4.cell_far hd (by omega) (fun e => by have h : hd.block = V.heap.size := Option.some.inj e; omega)).trans hS3.2.1, (g4.cell_far nd (by omega) (fun e => by have h : nd.block = V.heap.size := Option.some.inj e; omega)).trans hS3.2.2⟩ (fun hH9 => ?_)
  clear hK K hH3 hS3 kP3 oM3 b3_ b13 kz3
  try simp only [List.getElem_toArray, List.getElem_cons_succ, List.getElem_cons_zero, Act.put]
  refine wpAnyH_done (by kernel_rfl) ?_ _
  refine NoPanic.normal ?_
  clear hH9
  clear z4 g4
  have lf8 := kf8.lt
  have z18 := b8.size
  have hps2 : (ps.drop 2).length = ps.length - 2 := List.length_drop
  clear hnb hdb4 hpb4 hdb hpb
  go_wp2_with fail
  go_loopw [11, 12, 13] (fun i _ _ wr => ∃ (j : Nat) (fs : List LFile) (F : Option Addr) (f : Nat), 2 ≤ j ∧ j ≤ ps.length ∧ i = .int .i64 (j : Int) ∧ filesR ((ps.drop 2).take (j - 2)) = (fs, 0) ∧ fs.length = j - 2 ∧ Blk wr V.heap.size 35 #[.bool (xb == 1), .slice F fs.length f, .slice D4 ds.length d4_, .int .u64 (n1 : Int)] ∧ Own RFE 71 wr w8.heap.size (fun b => w8.heap.size ≤ b) (.slice F fs.length f) fs ∧ Own NE 23 wr w3.heap.size (fun _ => False) (.slice D4 ds.length d4_) ds ∧ w8.heap.size ≤ wr.heap.size ∧ Below w1.heap.size w1 wr ∧ Below w.heap.size w wr) (fun i _ _ _ => ps.length - (intOf i).toNat)
  case atStart => exact ⟨2, [], none, 0, Nat.le_refl _, by omega, rfl, rfl, rfl, kf8, Own.nil_ _ _ _ _ _, oM8, Nat.le_refl _, b8, b08⟩
  case round =>
    clear kf8 oM8 b8 b08 kP8
    obtain ⟨j, fs, F, f, hj2, hj, rfl, hfr, hfl, kf, oF, oD, z8, b3, b03⟩ := hrel
    have HFR := Lib.hid hfr
    have HLN := Lib.hid hfl
    have hfk : fs.length ≤ 1048576 := by omega
    clear hfr hfl
    by_cases hlt : j < ps.length
    · have hlt' : (j : Int) < (ps.length : Int) := by omega
      obtain ⟨ad, H, hc5, had, hab, x0, hH, _, _⟩ := BsE.at_ (sP.below b3) hlt
      obtain rfl := Option.some.inj had
      clear had
      have hpk := HPL.out ps[j] (List.getElem_mem _)
      have hlt2 : j - 2 < (ps.drop 2).length := by omega
      have hgj : (ps.drop 2)[j - 2] = ps[j] := by rw [List.getElem_drop]; exact getElem_congr_idx (by omega)
      have HTK : Hid (filesR ((ps.drop 2).take (j - 2 + 1)) = if (fileQ ps[j]).2 ≠ 0 then ([], (fileQ ps[j]).2) else (fs ++ [(fileQ ps[j]).1], 0)) := by
        show _ = _
        rw [List.take_succ_eq_append_getElem hlt2, hgj, filesR_snoc, HFR.out]
        rw [fileQ_two]
        refine (if_neg (fun h => h rfl)).trans ?_
        by_cases hz : (fileR ps[j]).2 = 0
        · rw [fileQ_one hz]
        · rw [if_pos hz, if_pos hz]
      have HBAD : Hid ((fileQ ps[j]).2 ≠ 0 → filesR (ps.drop 2) = ([], (fileQ ps[j]).2)) := fun h => by
        rw [fileQ_two] at h ⊢
        have := filesR_first hlt2 (by rw [HFR.out]) (by rw [hgj]; exact h)
        rw [hgj] at this
        exact this
      have T := rmfile_any H ps[j] hc5 wr hH (by omega)
      have HWF := fileQ_wf ps[j]
      have hfl1 := fileQ_len ps[j]
      generalize ps[j] = pk at *
      go_wp2_with fail
      refine T.mono ?_
      clear T x0 hH
      generalize fileQ pk = r at *
      obtain ⟨fr, fe⟩ := r
      rintro en w5 ⟨A5, c5, B5, c6, rfl, oA5, oB5, b5⟩
      replace oA5 : OwnB wr.heap.size w5 A5 fr.first c5 := oA5
      replace oB5 : OwnB wr.heap.size w5 B5 fr.last c6 := oB5
      replace HWF : fr.wf := HWF
      replace hfl1 : fr.first.length ≤ pk.length ∧ fr.last.length ≤ pk.length := hfl1
      try dsimp only
      have dz : Below w5.heap.size w5 (w5.alloc (.cells #[.int .u64 (fr.num : Int), .int .i64 fr.level, .slice A5 fr.first.length c5, .slice B5 fr.last.length c6, .int .i64 fr.count, .int .i64 fr.size] 71)) := (Below.refl _ _).alloc (Nat.le_refl _) _
      have kz6 := Blk.new w5 71 #[.int .u64 (fr.num : Int), .int .i64 fr.level, .slice A5 fr.first.length c5, .slice B5 fr.last.length c6, .int .i64 fr.count, .int .i64 fr.size]
      have z5 := b5.size
      have b36 := (b3.trans (b5.mono b3.size)).trans (dz.mono (Nat.le_trans b3.size z5))
      have b06 := (b03.trans (b5.mono b03.size)).trans (dz.mono (Nat.le_trans b03.size z5))
      by_cases hfe : fe ≠ 0
      · -- a bad part
        have HE : Hid (decM l = (.zero, fe)) := by
          show _ = _
          rw [HD7.out, HBAD.out hfe]
          exact if_pos hfe
        have dfe : (fe != 0) = true := by rw [bne_iff_ne]; exact hfe
        have kp6 : Blk (w5.alloc (.cells #[.int .u64 (fr.num : Int), .int .i64 fr.level, .slice A5 fr.first.length c5, .slice B5 fr.last.length c6, .int .i64 fr.count, .int .i64 fr.size] 71)) w.heap.size 35 #[.bool false, .slice none 0 0, .slice none 0 0, .int .u64 0] := k1.below b36 k1.lt
        clear hfe HD7 HBAD HTK HFR kf oF oD
        go_wp2_with ((with_reducible refine wpList_store_blk rfl 35 (.tmp 2) (.tmp 100) rfl w.heap.size 35 _ #[.bool false, .slice none 0 0, .slice none 0 0, .int .u64 0] ?_ ?_ kp6 Try.size_RMEdit ?_ ?_ ?_ ?_); rfl; rfl; rfl; rfl; (simp [Value.oneCell']); intro w9 kz9 g9 z9)
        exact bodyPost_ret (results_cell2 rfl rfl rfl kz9 Try.underlying35 rfl Try.size_RMEdit) rfl (by exact RetREdit.bad HE (b06.grown g9 b06.size (fun j e => by have := Option.some.inj e; omega)))
      · -- one more file
        obtain rfl : fe = 0 := Classical.byContradiction hfe
        have HT1 : Hid (filesR ((ps.drop 2).take (j - 2 + 1)) = (fs ++ [fr], 0)) := by show _ = _; rw [HTK.out]; exact if_neg (fun h => h rfl)
        clear hfe HBAD HTK HFR
        have dz2 : Below (w5.alloc (.cells #[.int .u64 (fr.num : Int), .int .i64 fr.level, .slice A5 fr.first.length c5, .slice B5 fr.last.length c6, .int .i64 fr.count, .int .i64 fr.size] 71)).heap.size (w5.alloc (.cells #[.int .u64 (fr.num : Int), .int .i64 fr.level, .slice A5 fr.first.length c5, .slice B5 fr.last.length c6, .int .i64 fr.count, .int .i64 fr.size] 71)) ((w5.alloc (.cells #[.int .u64 (fr.num : Int), .int .i64 fr.level, .slice A5 fr.first.length c5, .slice B5 fr.last.length c6, .int .i64 fr.count, .int .i64 fr.size] 71)).alloc (.cells #[.int .u64 (fr.num : Int), .int .i64 fr.level, .slice A5 fr.first.length c5, .slice B5 fr.last.length c6, .int .i64 fr.count, .int .i64 fr.size] 71)) := (Below.refl _ _).alloc (Nat.le_refl _) _
        have oA7 := OwnB.below (OwnB.below oA5 dz) dz2
        have oB7 := OwnB.below (OwnB.below oB5 dz) dz2
        have kf6 := (kf.below b5 kf.lt).below dz (Nat.lt_of_lt_of_le kf.lt z5)
        have kf7 := kf6.below dz2 kf6.lt
        have oF7 := Own.below (Own.below (Own.below oF b5) dz) dz2
        have oD7 := Own.below (Own.below (Own.below oD b5) dz) dz2
        have b37 := b36.trans (dz2.mono b36.size)
        have b07 := b06.trans (dz2.mono b06.size)
        have hrd : Reads ((w5.alloc (.cells #[.int .u64 (fr.num : Int), .int .i64 fr.level, .slice A5 fr.first.length c5, .slice B5 fr.last.length c6, .int .i64 fr.count, .int .i64 fr.size] 71)).alloc (.cells #[.int .u64 (fr.num : Int), .int .i64 fr.level, .slice A5 fr.first.length c5, .slice B5 fr.last.length c6, .int .i64 fr.count, .int .i64 fr.size] 71)) (w5.heap.size + 1 + 1) 6 (some ⟨w5.heap.size + 1, 0, none⟩) 1 [.int .u64 (fr.num : Int), .int .i64 fr.level, .slice A5 fr.first.length c5, .slice B5 fr.last.length c6, .int .i64 fr.count, .int .i64 fr.size] := by
          have h := Reads.newN (w5.alloc (.cells #[.int .u64 (fr.num : Int), .int .i64 fr.level, .slice A5 fr.first.length c5, .slice B5 fr.last.length c6, .int .i64 fr.count, .int .i64 fr.size] 71)) [.int .u64 (fr.num : Int), .int .i64 fr.level, .slice A5 fr.first.length c5, .slice B5 fr.last.length c6, .int .i64 fr.count, .int .i64 fr.size] 71
          have hsz : (w5.alloc (.cells #[.int .u64 (fr.num : Int), .int .i64 fr.level, .slice A5 fr.first.length c5, .slice B5 fr.last.length c6, .int .i64 fr.count, .int .i64 fr.size] 71)).heap.size = w5.heap.size + 1 := by simp
          rw [hsz] at h
          exact h
        have hFL : ∀ b, (Value.slice F fs.length f).ownBlock = some b → w8.heap.size ≤ b ∧ b < wr.heap.size := fun b hb => Own.lt oF b hb
        have hrep : RFE.rep ((w5.alloc (.cells #[.int .u64 (fr.num : Int), .int .i64 fr.level, .slice A5 fr.first.length c5, .slice B5 fr.last.length c6, .int .i64 fr.count, .int .i64 fr.size] 71)).alloc (.cells #[.int .u64 (fr.num : Int), .int .i64 fr.level, .slice A5 fr.first.length c5, .slice B5 fr.last.length c6, .int .i64 fr.count, .int .i64 fr.size] 71)) (fun b => w8.heap.size ≤ b ∧ (Value.slice F fs.length f).ownBlock ≠ some b) [.int .u64 (fr.num : Int), .int .i64 fr.level, .slice A5 fr.first.length c5, .slice B5 fr.last.length c6, .int .i64 fr.count, .int .i64 fr.size] fr := by
          have hlen := hfl1
          refine ⟨A5, c5, B5, c6, rfl, ⟨oA7.bs (by omega), fun ad e hn => ?_, oA7.caps⟩, ⟨oB7.bs (by omega), fun ad e hn => ?_, oB7.caps⟩, HWF⟩
          · have h1 := oA7.at_ ad e hn; exact ⟨by have := h1.1; omega, fun hb => by have := (hFL _ hb).2; have := h1.1; omega⟩
          · have h1 := oB7.at_ ad e hn; exact ⟨by have := h1.1; omega, fun hb => by have := (hFL _ hb).2; have := h1.1; omega⟩
        have HFL := Lib.hid hFL
        have x6 : (w5.alloc (.cells #[.int .u64 (fr.num : Int), .int .i64 fr.level, .slice A5 fr.first.length c5, .slice B5 fr.last.length c6, .int .i64 fr.count, .int .i64 fr.size] 71)).cell? ⟨V.heap.size, 1, none⟩ = some (.slice F fs.length f) := kf6.cell 1
        have z57 := Nat.le_trans z8 z5
        have hW7 : w8.heap.size ≤ ((w5.alloc (.cells #[.int .u64 (fr.num : Int), .int .i64 fr.level, .slice A5 fr.first.length c5, .slice B5 fr.last.length c6, .int .i64 fr.count, .int .i64 fr.size] 71)).alloc (.cells #[.int .u64 (fr.num : Int), .int .i64 fr.level, .slice A5 fr.first.length c5, .slice B5 fr.last.length c6, .int .i64 fr.count, .int .i64 fr.size] 71)).heap.size := by simp; omega
        have hL1 : (fs.length + 1) * RFE.bytes ≤ 140737488355328 := by simp only [RFE]; omega
        have hL2 : fs.length + 1 ≤ maxLen := by simp only [maxLen]; omega
        have HOD : Hid (∀ w9, ((w5.alloc (.cells #[.int .u64 (fr.num : Int), .int .i64 fr.level, .slice A5 fr.first.length c5, .slice B5 fr.last.length c6, .int .i64 fr.count, .int .i64 fr.size] 71)).alloc (.cells #[.int .u64 (fr.num : Int), .int .i64 fr.level, .slice A5 fr.first.length c5, .slice B5 fr.last.length c6, .int .i64 fr.count, .int .i64 fr.size] 71)).grownBy w9 (Value.slice F fs.length f).ownBlock → Own NE 23 w9 w3.heap.size (fun _ => False) (.slice D4 ds.length d4_) ds) := fun w9 g9 => by
          refine Own.same oD7 g9 ?_ (fun _ h => h.elim)
          cases hD : (Value.slice D4 ds.length d4_).ownBlock with
          | none => exact .inl rfl
          | some b => exact .inr fun e => by have h1 := (hDV.out b hD).2; have h2 := (HFL.out b e.symm).1; omega
        have HKF : Hid (∀ w9, ((w5.alloc (.cells #[.int .u64 (fr.num : Int), .int .i64 fr.level, .slice A5 fr.first.length c5, .slice B5 fr.last.length c6, .int .i64 fr.count, .int .i64 fr.size] 71)).alloc (.cells #[.int .u64 (fr.num : Int), .int .i64 fr.level, .slice A5 fr.first.length c5, .slice B5 fr.last.length c6, .int .i64 fr.count, .int .i64 fr.size] 71)).grownBy w9 (Value.slice F fs.length f).ownBlock → Blk w9 V.heap.size 35 #[.bool (xb == 1), .slice F fs.length f, .slice D4 ds.length d4_, .int .u64 (n1 : Int)] ∧ Below w.heap.size w w9 ∧ w8.heap.size ≤ w9.heap.size) := fun w9 g9 => ⟨kf7.grown g9 (fun e => by have := (HFL.out _ e.symm).1; omega), b07.grown g9 b07.size (fun j e => by have := (HFL.out _ e).1; have := b03.size; omega), Nat.le_trans hW7 g9.size⟩
        clear kf oF oD hFL oA5 oB5 dz dz2 b3 b03 kf6 b36 b06 b5 HWF oA7 oB7 oD7 kf7 b07 z8 z57 z5 hfl1
        go_wp2_with (first
          | ((with_reducible refine wpList_load_blk rfl 71 (.tmp 12) rfl w5.heap.size ?_ 71 _ _ kz6 Try.underlying71 ?_ Try.size_RFile ?_ ?_); rfl; rfl; rfl)
          | (at_builtin; refine wpList_appE RFE w8.heap.size w1 _ rfl (.tmp 103) (.tmp 105) 71 22 rfl i2 _ Try.underlying22 hi2 hx0 hx1 hx2 rfl (fun b => w8.heap.size ≤ b) F fs f rfl oF7 _ [.int .u64 (fr.num : Int), .int .i64 fr.level, .slice A5 fr.first.length c5, .slice B5 fr.last.length c6, .int .i64 fr.count, .int .i64 fr.size] fr 1 rfl _ hrd hrep hL1 hL2 b37 z18 hW7 ?_; intro F9 fc9 fs9 w9 H9 o9 b9 g9 t9; obtain ⟨kf9, b09, z9⟩ := HKF.out w9 g9; have oD9 := HOD.out w9 g9; have x9 : w9.cell? ⟨V.heap.size, 1, none⟩ = some (.slice F fs.length f) := kf9.cell 1; have f9 : w9.frozen? ⟨V.heap.size, 1, none⟩ = false := kf9.frozen 1; skip))
        have kfA := kf9.set_ 1 (.slice F9 fs9.length fc9)
        have gA : w9.grownBy (w9.setCell ⟨V.heap.size, 1, none⟩ (.slice F9 fs9.length fc9)) (some V.heap.size) := only_setCell (World.grownBy.refl w9 _) (p := ⟨V.heap.size, 1, none⟩) (.inl rfl) _
        have oFA := Own.same o9 gA (.inr fun e => by have := (Own.lt o9 _ e).1; omega) (fun b hb e => by have := Option.some.inj e; omega)
        have oDA := Own.same oD9 gA (.inr fun e => by have := (hDV.out _ e).2; omega) (fun _ h => h.elim)
        have bA := b9.grown gA b9.size (fun j e => by have := Option.some.inj e; omega)
        have b0A := b09.grown gA b09.size (fun j e => by have := Option.some.inj e; omega)
        have HT9 : Hid (filesR ((ps.drop 2).take (j + 1 - 2)) = (fs9, 0)) := by show _ = _; rw [show j + 1 - 2 = j - 2 + 1 by omega, H9.out]; exact HT1.out
        have HL9 : Hid (fs9.length = j + 1 - 2) := by show _ = _; rw [H9.out, List.length_append, HLN.out]; show j - 2 + 1 = j + 1 - 2; omega
        have zA : w8.heap.size ≤ (w9.setCell ⟨V.heap.size, 1, none⟩ (.slice F9 fs9.length fc9)).heap.size := Nat.le_trans z9 gA.size
        clear x9 f9
        go_roundw
        case rel => exact ⟨j + 1, fs9, F9, fc9, by omega, by omega, by simp, HT9.out, HL9.out, kfA, oFA, oDA, zA, bA, b0A⟩
        case measure => simp [intOf]; omega
    · have hlt' : ¬ (j : Int) < (ps.length : Int) := by omega
      have HE : Hid (decM l = (⟨xb == 1, fs, ds, n1⟩, 0)) := by
        have h1 := HFR.out
        rw [List.take_of_length_le (by omega)] at h1
        show _ = _
        rw [HD7.out, h1]
        exact if_neg (fun h => h rfl)
      have kp := k1.below b3 k1.lt
      clear HD7 HFR HLN HPL
      go_wp2_with (first
        | ((with_reducible refine wpList_load_blk rfl 35 (.tmp 10) rfl V.heap.size ?_ 35 _ _ kf Try.underlying35 ?_ Try.size_RMEdit ?_ ?_); rfl; rfl; rfl)
        | ((with_reducible refine wpList_store_blk rfl 35 (.tmp 2) (.tmp 108) rfl w.heap.size 35 _ #[.bool (xb == 1), .slice F fs.length f, .slice D4 ds.length d4_, .int .u64 (n1 : Int)] ?_ ?_ kp Try.size_RMEdit ?_ ?_ ?_ ?_); rfl; rfl; rfl; rfl; (simp [Value.oneCell']); intro w9 kz9 g9 z9))
      have oF9 := Own.same oF g9 (.inr fun e => by have := (Own.lt oF _ e).1; omega) (fun b hb e => by have := Option.some.inj e; omega)
      have oD9 := Own.same oD g9 (.inr fun e => by have := (hDV.out _ e).1; omega) (fun _ h => h.elim)
      have b9 := b03.grown g9 b03.size (fun j e => by have := Option.some.inj e; omega)
      exact bodyPost_ret (results_cell2 rfl rfl rfl kz9 Try.underlying35 rfl Try.size_RMEdit) rfl (by rw [HE.out]; exact ⟨F, f, D4, d4_, rfl, Own.base (Own.mono oF9 (fun b _ _ hb => by omega)) (by omega), Own.base oD9 (by omega), hu1, b9⟩)
end Go.Proofs.Ytmgibpedclngpaa
