/- Edits cut to size: short, some of caissonlaw12. (Printed by wip/gen_msome.py.) -/
import Derived.Test.YtmgibpedclngpaaMSomeP
namespace Go.Proofs.Ytmgibpedclngpaa
open Go.RowKit

theorem Try.infoREdit : (Try.prog.info? 35).map (fun i => (i.zero, i.size, i.bytes)) = some (some (.agg #[.bool false, .slice none 0 0, .slice none 0 0, .int .u64 0]), 4, 64) := by kernel_rfl
def RetEdits (S0 : Nat → Prop) (xs : List LEdit) (w : World) (en : Ending) (w' : World) : Prop :=
  ∃ R r, en = .returned (.slice R xs.length r) ∧ Own EditE 35 w' w.heap.size (fun b => S0 b ∨ w.heap.size ≤ b) (.slice R xs.length r) xs ∧ Below w.heap.size w w'

set_option maxRecDepth 100000 in
set_option maxHeartbeats 8000000 in
theorem short_any (A : Option Addr) (l : List UInt8) (c : Nat) (w : World) (hc : l.length ≤ c ∧ c ≤ 9223372036854775807) (l' : List UInt8) (hl' : Hid (l' = l.take 1024)) : Calls Try.prog 28 #[.slice A l.length c] w (Quietly (.slice A l'.length c) w) := by
  rw [hl'.out]
  go_enter Try.func28, Try.ntmps28
  by_cases h : (1024 : Int) < (l.length : Int)
  · have e1 : (l.take 1024).length = 1024 := by rw [List.length_take]; omega
    have hc1 : (1024 : Int) ≤ (c : Int) := by omega
    rw [e1]
    go_wp2_with fail
    go_ret
    exact ⟨rfl, 0, rfl⟩
  · have e1 : (l.take 1024).length = l.length := by rw [List.length_take]; omega
    rw [e1]
    go_wp2_with fail
    go_ret
    exact ⟨rfl, 0, rfl⟩
set_option maxRecDepth 100000 in
set_option maxHeartbeats 8000000 in
theorem some_any (S0 : Nat → Prop) (l : List LEdit) (A : Option Addr) (c n : Nat) (w : World) (hA' : SlS EditE w S0 A l) (hn : n ≤ 1048576) (_hl : l.length ≤ 1048576) (hsz : ∀ e ∈ l, e.add.length ≤ 1048576 ∧ e.drop.length ≤ 1048576) : Calls Try.prog 8 #[.slice A l.length c, .int .i64 (n : Int)] w (RetEdits S0 ((l.take n).map cutE) w) := by
  have hA : SlS EditE w (fun b => S0 b ∧ b < w.heap.size) A l := SlS.mono hA' (fun b h h2 => ⟨h2, h⟩)
  clear hA'
  have HSZ := Lib.hid hsz
  clear hsz
  obtain ⟨i1, hi1, hx0, hx1, hx2⟩ := info_parts Try.infoRFile
  obtain ⟨i2, hi2, hy0, hy1, hy2⟩ := info_parts Try.infoREdit
  go_enter Try.func8, Try.ntmps8
  go_wp2_with fail
  go_loopw [5, 6, 7, 8] (fun v i _ _ wr => ∃ (k : Nat) (xs : List LEdit) (R : Option Addr) (r : Nat), k ≤ l.length ∧ k ≤ n ∧ i = .int .i64 (k : Int) ∧ v = .slice R k r ∧ xs = (l.take k).map cutE ∧ Own EditE 35 wr w.heap.size (fun b => S0 b ∨ w.heap.size ≤ b) (.slice R k r) xs ∧ Below w.heap.size w wr) (fun _ i _ _ _ => l.length - (intOf i).toNat)
  case atStart => exact ⟨0, [], none, 0, Nat.zero_le _, Nat.zero_le _, rfl, rfl, rfl, Own.nil_ _ _ _ _ _, Below.refl _ _⟩
  case round =>
    obtain ⟨k, xs, R, r, hk, hkn, rfl, rfl, hxs, oX, br⟩ := hrel
    have hxl : xs.length = k := by rw [hxs, List.length_map, List.length_take]; omega
    have HXS := Lib.hid hxs
    clear hxs
    have zr := br.size
    by_cases hlt : k < l.length
    · have hlt' : (k : Int) < (l.length : Int) := by omega
      by_cases hnt : k < n
      · have hnt' : (k : Int) < (n : Int) := by omega
        obtain ⟨ad, P, q, Q, t, rfl, hab, y0, y1, y2, y3, ⟨hP, hPc⟩, ⟨hQ, hQc⟩, hu⟩ := EditE.at_ (hA.below br) hlt
        have HST : Hid ((l.take (k + 1)).map cutE = xs ++ [cutE l[k]]) := by show _ = _; rw [List.take_succ_eq_append_getElem hlt, List.map_append, HXS.out]; rfl
        obtain ⟨hs1, hs2⟩ := HSZ.out l[k] (List.getElem_mem _)
        generalize l[k] = e at *
        have dz : Below wr.heap.size wr (wr.alloc (.cells #[.bool e.reset, .slice P e.add.length q, .slice Q e.drop.length t, .int .u64 (e.seq : Int)] 35)) := (Below.refl _ _).alloc (Nat.le_refl _) _
        have kE := Blk.new wr 35 #[.bool e.reset, .slice P e.add.length q, .slice Q e.drop.length t, .int .u64 (e.seq : Int)]
        go_upto_region 6 with fail
        clear y0 y1 y2 y3
        generalize (wr.alloc (.cells #[.bool e.reset, .slice P e.add.length q, .slice Q e.drop.length t, .int .u64 (e.seq : Int)] 35)) = w1 at *
        generalize wr = wo at *
        have x1 : w1.cell? ⟨wo.heap.size, 1, none⟩ = some (.slice P e.add.length q) := kE.cell 1
        go_upto_if 27 with fail
        go_cut [28, 29, 30, 31] (fun _ _ _ _ wx => Blk wx wo.heap.size 35 #[.bool e.reset, .slice P (e.add.take 8).length q, .slice Q e.drop.length t, .int .u64 (e.seq : Int)] ∧ Below wo.heap.size wo wx)
        case first =>
          by_cases h8 : (8 : Int) < (e.add.length : Int)
          · have e1 : (e.add.take 8).length = 8 := by rw [List.length_take]; omega
            have hc1 : (8 : Int) ≤ (q : Int) := by omega
            have f1 : w1.frozen? ⟨wo.heap.size, 1, none⟩ = false := kE.frozen 1
            have k2 : Blk (w1.setCell ⟨wo.heap.size, 1, none⟩ (.slice P 8 q)) wo.heap.size 35 #[.bool e.reset, .slice P 8 q, .slice Q e.drop.length t, .int .u64 (e.seq : Int)] := kE.set_ 1 (.slice P 8 q)
            have g2 : w1.grownBy (w1.setCell ⟨wo.heap.size, 1, none⟩ (.slice P 8 q)) (some wo.heap.size) := only_setCell (World.grownBy.refl w1 _) (p := ⟨wo.heap.size, 1, none⟩) (.inl rfl) _
            have b2 := dz.grown g2 dz.size (fun j e => by have := Option.some.inj e; omega)
            clear g2
            go_wp2_with fail
            go_meet
            case rel => rw [e1]; exact ⟨k2, b2⟩
          · have e1 : (e.add.take 8).length = e.add.length := by rw [List.length_take]; omega
            go_wp2_with fail
            go_meet
            case rel => rw [e1]; exact ⟨kE, dz⟩
        case rest =>
          clear kE dz x1
          obtain ⟨kE, dz⟩ := hcut
          generalize wc = w2 at *
          have x2 : w2.cell? ⟨wo.heap.size, 2, none⟩ = some (.slice Q e.drop.length t) := kE.cell 2
          go_upto_if 35 with fail
          go_cut [36, 37, 38, 39] (fun _ _ _ _ wx => Blk wx wo.heap.size 35 #[.bool e.reset, .slice P (e.add.take 8).length q, .slice Q (e.drop.take 8).length t, .int .u64 (e.seq : Int)] ∧ Below wo.heap.size wo wx)
          case first =>
            by_cases h8 : (8 : Int) < (e.drop.length : Int)
            · have e1 : (e.drop.take 8).length = 8 := by rw [List.length_take]; omega
              have hc1 : (8 : Int) ≤ (t : Int) := by omega
              have f1 : w2.frozen? ⟨wo.heap.size, 2, none⟩ = false := kE.frozen 2
              have k2 : Blk (w2.setCell ⟨wo.heap.size, 2, none⟩ (.slice Q 8 t)) wo.heap.size 35 #[.bool e.reset, .slice P (e.add.take 8).length q, .slice Q 8 t, .int .u64 (e.seq : Int)] := kE.set_ 2 (.slice Q 8 t)
              have g2 : w2.grownBy (w2.setCell ⟨wo.heap.size, 2, none⟩ (.slice Q 8 t)) (some wo.heap.size) := only_setCell (World.grownBy.refl w2 _) (p := ⟨wo.heap.size, 2, none⟩) (.inl rfl) _
              have b2 := dz.grown g2 dz.size (fun j e => by have := Option.some.inj e; omega)
              clear g2
              go_wp2_with fail
              go_meet
              case rel => rw [e1]; exact ⟨k2, b2⟩
            · have e1 : (e.drop.take 8).length = e.drop.length := by rw [List.length_take]; omega
              go_wp2_with fail
              go_meet
              case rel => rw [e1]; exact ⟨kE, dz⟩
          case rest =>
            clear kE dz x2
            obtain ⟨kE, dz⟩ := hcut
            generalize wc = w3 at *
            have hP8 := SlS.takeA hP 8
            have hQ8 := SlS.takeA hQ 8
            have hPl : (e.add.take 8).length ≤ q := by rw [List.length_take]; omega
            have hQl : (e.drop.take 8).length ≤ t := by rw [List.length_take]; omega
            have hA8 : (e.add.take 8).length ≤ 8 := by rw [List.length_take]; omega
            have HC : Hid (cutE e = ⟨e.reset, (e.add.take 8).map cutF, e.drop.take 8, e.seq⟩) := rfl
            generalize e.add.take 8 = A8 at *
            generalize e.drop.take 8 = D8 at *
            clear hP hQ hs1 hs2
            have hPo := hP8.below dz
            have hQo := hQ8.below dz
            clear hP8
            have dg : Below w3.heap.size w3 (w3.alloc (.cells #[] 71)) := (Below.refl _ _).alloc (Nat.le_refl _) _
            have kG := Blk.new w3 71 #[]
            have kEg := kE.below dg kE.lt
            have hPg := hPo.below dg
            have hQg := hQo.below dg
            have lE := kE.lt
            have oG : Own RFE 71 (w3.alloc (.cells #[] 71)) w3.heap.size (fun b => S0 b ∧ b < w.heap.size) (.slice (some ⟨w3.heap.size, 0, none⟩) ([] : List LFile).length 0) [] := Own.empty RFE kG (Nat.le_refl _)
            obtain ⟨us, hru, hfl⟩ := SlS.parts hPg
            have hfl2 : RFE.flat (w3.alloc (.cells #[] 71)) (fun b => (fun b => S0 b ∧ b < w.heap.size) b ∧ (Value.slice (some ⟨w3.heap.size, 0, none⟩) ([] : List LFile).length 0).ownBlock ≠ some b) us A8 := ER.flat_mono (fun b _ hb => ⟨hb, fun e => by have h7 := hb.2; have : w3.heap.size = b := Option.some.inj e; have := dz.size; omega⟩) hfl
            have hlD : (([] : List LFile).length + A8.length) * RFE.bytes ≤ 140737488355328 := by simp only [RFE, List.length_nil]; omega
            have hlM : ([] : List LFile).length + A8.length ≤ maxLen := by simp only [maxLen, List.length_nil]; omega
            have hsz2 : w3.heap.size ≤ (w3.alloc (.cells #[] 71)).heap.size := dg.size
            have xg : (w3.alloc (.cells #[] 71)).cell? ⟨wo.heap.size, 1, none⟩ = some (.slice P A8.length q) := kEg.cell 1
            have HKE : Hid (∀ W, (w3.alloc (.cells #[] 71)).grownBy W (some w3.heap.size) → Blk W wo.heap.size 35 #[.bool e.reset, .slice P A8.length q, .slice Q D8.length t, .int .u64 (e.seq : Int)]) := fun W g => kEg.grown g (fun e => by have := Option.some.inj e; omega)
            have bg := dz.trans (dg.mono dz.size)
            go_upto_region 11 with (at_builtin; refine wpList_appS RFE w3.heap.size (w3.alloc (.cells #[] 71)) rfl (.tmp 40) (.tmp 42) 71 22 rfl i1 _ Try.underlying22 hi1 hx0 hx1 hx2 rfl (fun b => S0 b ∧ b < w.heap.size) (some ⟨w3.heap.size, 0, none⟩) [] 0 rfl oG P A8 q rfl us hru hfl2 hlD hlM hsz2 ?_; intro R5 r5 as5 w5 H5 o5 g5 t5; obtain rfl : as5 = A8 := (by rw [H5.out]; rfl); have g5' : (w3.alloc (.cells #[] 71)).grownBy w5 (some w3.heap.size) := g5; have kE5 := HKE.out _ g5'; have f5 : w5.frozen? ⟨wo.heap.size, 1, none⟩ = false := kE5.frozen 1; have x5 : w5.cell? ⟨wo.heap.size, 1, none⟩ = some (.slice P as5.length q) := kE5.cell 1)
            generalize as5 = A8 at *
            have k6 : Blk (w5.setCell ⟨wo.heap.size, 1, none⟩ (.slice R5 A8.length r5)) wo.heap.size 35 #[.bool e.reset, .slice R5 A8.length r5, .slice Q D8.length t, .int .u64 (e.seq : Int)] := kE5.set_ 1 (.slice R5 A8.length r5)
            have g6 : w5.grownBy (w5.setCell ⟨wo.heap.size, 1, none⟩ (.slice R5 A8.length r5)) (some wo.heap.size) := only_setCell (World.grownBy.refl w5 _) (p := ⟨wo.heap.size, 1, none⟩) (.inl rfl) _
            have o6 := Own.same o5 g6 (.inr fun e => by have := (Own.lt o5 _ e).1; omega) (fun b hb e => by have h1 : b < w.heap.size := hb.2; have := Option.some.inj e; omega)
            have b5 := bg.grown g5' bg.size (fun j e => by have := Option.some.inj e; have := dz.size; omega)
            have b6 := b5.grown g6 b5.size (fun j e => by have := Option.some.inj e; omega)
            have z36 : w3.heap.size ≤ (w5.setCell ⟨wo.heap.size, 1, none⟩ (.slice R5 A8.length r5)).heap.size := Nat.le_trans hsz2 (Nat.le_trans g5'.size g6.size)
            clear kG kEg oG hru hfl hfl2 hlD hlM xg HKE bg dg f5 x5 kE5 kE g5 g5' t5 H5 b5 o5 g6 hPo hPg hsz2
            generalize (w5.setCell ⟨wo.heap.size, 1, none⟩ (.slice R5 A8.length r5)) = w6 at *
            have x6 : w6.cell? ⟨wo.heap.size, 1, none⟩ = some (.slice R5 A8.length r5) := k6.cell 1
            go_wp2_with fail
            clear x6
            go_loopw [8, 48] (fun _ i wr => ∃ (j : Nat) (ys : List LFile), j ≤ A8.length ∧ i = .int .i64 (j : Int) ∧ ys = cutK A8 j ∧ ys.length = A8.length ∧ Own RFE 71 wr w3.heap.size (fun b => S0 b ∧ b < w.heap.size) (.slice R5 ys.length r5) ys ∧ Blk wr wo.heap.size 35 #[.bool e.reset, .slice R5 A8.length r5, .slice Q D8.length t, .int .u64 (e.seq : Int)] ∧ Below wo.heap.size wo wr ∧ w3.heap.size ≤ wr.heap.size) (fun _ i _ => A8.length - (intOf i).toNat)
            case atStart => exact ⟨0, A8, Nat.zero_le _, rfl, rfl, rfl, o6, k6, b6, z36⟩
            case round =>
              clear o6 k6 b6 z36
              obtain ⟨j, ys, hj, rfl, hys, hyl, oY, kE, b6, z36⟩ := hrel
              by_cases hjt : j < A8.length
              · have hjt' : (j : Int) < (A8.length : Int) := by omega
                have HEL : Hid (∀ h : j < ys.length, ys[j] = A8[j]) := by intro h; subst hys; exact cutK_at hjt h
                have HST : Hid (∀ y : LFile, (ys.set j y).set j (cutF A8[j]) = cutK A8 (j + 1)) := fun y => by subst hys; exact cutK_step hjt y
                clear hys
                have HCF : Hid (cutF A8[j] = { A8[j] with first := A8[j].first.take 1024, last := A8[j].last.take 1024 }) := rfl
                generalize hf0 : A8[j] = f0 at *
                clear hf0
                have hjy : j < ys.length := by omega
                obtain ⟨ad, had⟩ : ∃ ad, R5 = some ad := by obtain ⟨g, e, _⟩ := oY.form (by omega); exact ⟨_, e⟩
                subst had
                obtain ⟨P1, p1, yc, hf⟩ := Own.file2 oY hjy
                rw [HEL.out] at yc hf
                obtain ⟨gR, hgR, hoR, hbR⟩ := Own.atA (k := j) oY (by omega)
                clear hgR
                replace hbR : (ad.add (j * 6)).block = gR := hbR
                have hgw := Own.lt oY _ hoR
                have HBR := Lib.hid hbR
                have HOR := Lib.hid hoR
                clear hbR hoR
                obtain ⟨la, hL1⟩ : ∃ la, la = f0.first.take 1024 := ⟨_, rfl⟩
                have Hla := Lib.hid hL1
                clear hL1
                go_upto_region 14 with fail
                refine wp_region_noPanic ?_
                have kEd := kE.drew
                have bd := b6.drew
                have oYd := Own.below oY ((Below.refl wr.heap.size wr).drew)
                have hfd := hf.1.below ((Below.refl wr.heap.size wr).drew)
                have ycd : wr.drew.cell? ⟨(ad.add (j * 6)).block, (ad.add (j * 6)).off + 2, none⟩ = some (.slice P1 f0.first.length p1) := yc
                refine wp_region_heldK (fun X => X.cell? ⟨wo.heap.size, 1, none⟩ = some (.slice (some ad) A8.length r5) ∧ X.cell? ⟨(ad.add (j * 6)).block, (ad.add (j * 6)).off + 2, none⟩ = some (.slice P1 f0.first.length p1)) 12 (by kernel_rfl) ⟨kEd.cell 1, ycd⟩ (fun hH => ?_)
                have zVd : wr.heap.size ≤ wr.drew.heap.size := Nat.le_refl _
                clear kE b6 oY yc
                generalize wr.drew = V1 at *
                refine wpAnyK_takeY (i := 0) (v := ?_) rfl (by kernel_rfl) (by kernel_rfl) (by kernel_rfl) (by kernel_rfl) (fun _ _ _ h => h) (Or.inl ⟨by rfl, ?_⟩) hH ?_
                case refine_2 => intro w; go_simp; try with_reducible rfl
                try simp only [List.getElem_toArray, List.getElem_cons_zero, Act.put, List.setIfInBounds_toArray, List.set_cons_zero, List.set_cons_succ]
                refine wpAnyK_take (i := 1) (v := ?_) rfl (by kernel_rfl) (by kernel_rfl) (by kernel_rfl) (by kernel_rfl) (fun _ _ _ h => h) (Or.inl ⟨by rfl, ?_⟩) hH ?_
                case refine_2 => intro w hSw; obtain ⟨s0, s1⟩ := hSw; go_simp; try with_reducible rfl
                try simp only [List.getElem_toArray, List.getElem_cons_succ, List.getElem_cons_zero, Act.put, List.setIfInBounds_toArray, List.set_cons_zero, List.set_cons_succ]
                refine wpAnyK_takeY (i := 2) (v := ?_) rfl (by kernel_rfl) (by kernel_rfl) (by kernel_rfl) (by kernel_rfl) (fun _ _ _ h => h) (Or.inl ⟨by rfl, ?_⟩) hH ?_
                case refine_2 => intro w; go_simp; try with_reducible rfl
                try simp only [List.getElem_toArray, List.getElem_cons_succ, List.getElem_cons_zero, Act.put, List.setIfInBounds_toArray, List.set_cons_zero, List.set_cons_succ]
                refine wpAnyK_takeY (i := 3) (v := ?_) rfl (by kernel_rfl) (by kernel_rfl) (by kernel_rfl) (by kernel_rfl) (fun _ _ _ h => h) (Or.inl ⟨by rfl, ?_⟩) hH ?_
                case refine_2 => intro w; go_simp; try with_reducible rfl
                try simp only [List.getElem_toArray, List.getElem_cons_succ, List.getElem_cons_zero, Act.put, List.setIfInBounds_toArray, List.set_cons_zero, List.set_cons_succ]
                refine wpAnyK_take (i := 4) (v := ?_) rfl (by kernel_rfl) (by kernel_rfl) (by kernel_rfl) (by kernel_rfl) (fun _ _ _ h => h) (Or.inl ⟨by rfl, ?_⟩) hH ?_
                case refine_2 => intro w hSw; obtain ⟨s0, s1⟩ := hSw; go_simp; try with_reducible rfl
                try simp only [List.getElem_toArray, List.getElem_cons_succ, List.getElem_cons_zero, Act.put, List.setIfInBounds_toArray, List.set_cons_zero, List.set_cons_succ]
                refine wpAnyK_takeY (i := 5) (v := ?_) rfl (by kernel_rfl) (by kernel_rfl) (by kernel_rfl) (by kernel_rfl) (fun _ _ _ h => h) (Or.inl ⟨by rfl, ?_⟩) hH ?_
                case refine_2 => intro w; go_simp; try with_reducible rfl
                try simp only [List.getElem_toArray, List.getElem_cons_succ, List.getElem_cons_zero, Act.put, List.setIfInBounds_toArray, List.set_cons_zero, List.set_cons_succ]
                refine wpAnyK_takeY (i := 6) (v := ?_) rfl (by kernel_rfl) (by kernel_rfl) (by kernel_rfl) (by kernel_rfl) (fun _ _ _ h => h) (Or.inl ⟨by rfl, ?_⟩) hH ?_
                case refine_2 => intro w; go_simp; try with_reducible rfl
                try simp only [List.getElem_toArray, List.getElem_cons_succ, List.getElem_cons_zero, Act.put, List.setIfInBounds_toArray, List.set_cons_zero, List.set_cons_succ]
                refine wpAnyK_takeY (i := 7) (v := ?_) rfl (by kernel_rfl) (by kernel_rfl) (by kernel_rfl) (by kernel_rfl) (fun _ _ _ h => h) (Or.inl ⟨by rfl, ?_⟩) hH ?_
                case refine_2 => intro w; go_simp; try with_reducible rfl
                try simp only [List.getElem_toArray, List.getElem_cons_succ, List.getElem_cons_zero, Act.put, List.setIfInBounds_toArray, List.set_cons_zero, List.set_cons_succ]
                refine wpAnyK_take (i := 8) (v := ?_) rfl (by kernel_rfl) (by kernel_rfl) (by kernel_rfl) (by kernel_rfl) (fun _ _ _ h => h) (Or.inl ⟨by rfl, ?_⟩) hH ?_
                case refine_2 => intro w hSw; obtain ⟨s0, s1⟩ := hSw; go_simp; try with_reducible rfl
                try simp only [List.getElem_toArray, List.getElem_cons_succ, List.getElem_cons_zero, Act.put, List.setIfInBounds_toArray, List.set_cons_zero, List.set_cons_succ]
                refine wpAnyK_ready (rs := [9]) (by kernel_rfl) (by simp) ?_
                refine AllReadyK.cons rfl (by kernel_rfl) (fun K hK => ?_) AllReadyK.nil
                go_simp
                refine (short_any P1 f0.first p1 V1 hf.2.2 la Hla).mono ?_
                rintro en w_ ⟨rfl, m, rfl⟩
                have kE2 := kEd.drewN m
                have b2 := below_drewN bd m
                have oY2 := Own.below oYd (below_drewN (Below.refl V1.heap.size V1) m)
                have hf_ := hfd.below (below_drewN (Below.refl V1.heap.size V1) m)
                have zz2 : V1.heap.size ≤ (V1.drewN m).heap.size := (below_drewN (Below.refl V1.heap.size V1) m).size
                have yc2 : (V1.drewN m).cell? ⟨(ad.add (j * 6)).block, (ad.add (j * 6)).off + 2, none⟩ = some (.slice P1 f0.first.length p1) := ((below_drewN (Below.refl V1.heap.size V1) m).cell (by show (ad.add (j * 6)).block < _; have := HBR.out; omega)).trans ycd
                refine hK.out _ _ ⟨kE2.cell 1, yc2⟩ ?_
                clear hK K hH kEd bd oYd hfd ycd
                try dsimp only
                try simp only [List.getElem_toArray, List.getElem_cons_succ, List.getElem_cons_zero, Act.put, List.setIfInBounds_toArray, List.set_cons_zero, List.set_cons_succ]
                generalize V1.drewN m = V1b at *
                have hS2 : V1b.cell? ⟨wo.heap.size, 1, none⟩ = some (.slice (some ad) A8.length r5) ∧ V1b.cell? ⟨(ad.add (j * 6)).block, (ad.add (j * 6)).off + 2, none⟩ = some (.slice P1 f0.first.length p1) := ⟨kE2.cell 1, yc2⟩
                refine wpAnyK_takeY (i := 10) (v := ?_) rfl (by kernel_rfl) (by kernel_rfl) (by kernel_rfl) (by kernel_rfl) (fun _ _ _ h => h) (Or.inl ⟨by rfl, ?_⟩) hS2 ?_
                case refine_2 => intro w; go_simp; try with_reducible rfl
                try simp only [List.getElem_toArray, List.getElem_cons_succ, List.getElem_cons_zero, Act.put, List.setIfInBounds_toArray, List.set_cons_zero, List.set_cons_succ]
                refine wpAnyK_takeY (i := 11) (v := ?_) rfl (by kernel_rfl) (by kernel_rfl) (by kernel_rfl) (by kernel_rfl) (fun _ _ _ h => h) (Or.inl ⟨by rfl, ?_⟩) hS2 ?_
                case refine_2 => intro w; go_simp; try with_reducible rfl
                try simp only [List.getElem_toArray, List.getElem_cons_succ, List.getElem_cons_zero, Act.put, List.setIfInBounds_toArray, List.set_cons_zero, List.set_cons_succ]
                refine wpAnyK_ready (rs := [12]) (by kernel_rfl) (by simp) ?_
                refine AllReadyK.turn rfl (fun K hK => ?_) AllReadyK.nil
                have fz : V1b.frozen? ⟨(ad.add (j * 6)).block, (ad.add (j * 6)).off + 2, none⟩ = false := Own.frozenA oY2 hjy 2
                clear hS2
                go_simp
                have g7 : V1b.grownBy (V1b.setCell ⟨(ad.add (j * 6)).block, (ad.add (j * 6)).off + 2, none⟩ (.slice P1 la.length p1)) (some gR) := only_setCell (World.grownBy.refl V1b _) (p := ⟨(ad.add (j * 6)).block, (ad.add (j * 6)).off + 2, none⟩) (.inl (by show (ad.add (j * 6)).block = gR; exact HBR.out)) _
                have kE7 := kE2.grown g7 (fun e => by have := Option.some.inj e; omega)
                have b7 := b2.grown g7 b2.size (fun j e => by have := Option.some.inj e; omega)
                have hsm : Same (fun b => S0 b ∧ b < w.heap.size) V1b (V1b.setCell ⟨(ad.add (j * 6)).block, (ad.add (j * 6)).off + 2, none⟩ (.slice P1 la.length p1)) := .of_grown g7 (fun b hb e => by have h1 : b < w.heap.size := hb.2; have := Option.some.inj e; omega)
                have hf7 : Bs (V1b.setCell ⟨(ad.add (j * 6)).block, (ad.add (j * 6)).off + 2, none⟩ (.slice P1 la.length p1)) P1 la ∧ At (fun b => (fun b => S0 b ∧ b < w.heap.size) b ∧ (Value.slice (some ad) ys.length r5).ownBlock ≠ some b) P1 la.length ∧ la.length ≤ p1 ∧ p1 ≤ 9223372036854775807 := by
                  have h5 := (hf_.sameS hf.2.1 hsm).takeA 1024
                  rw [← Hla.out] at h5
                  have h6 : la.length ≤ f0.first.length := by rw [Hla.out]; exact cut_len _
                  exact ⟨h5, fun a_ e_ hn_ => ⟨hf.2.1 a_ e_ (by omega), fun e2 => by have h1 : gR = a_.block := Option.some.inj (HOR.out.symm.trans e2); have h2 : a_.block < w.heap.size := (hf.2.1 a_ e_ (by omega)).2; omega⟩, Nat.le_trans h6 hf.2.2.1, hf.2.2.2⟩
                obtain ⟨ya, hyn⟩ : ∃ ya, ya = ys.set j { f0 with first := la } := ⟨_, rfl⟩
                have o7 : Own RFE 71 (V1b.setCell ⟨(ad.add (j * 6)).block, (ad.add (j * 6)).off + 2, none⟩ (.slice P1 la.length p1)) w3.heap.size (fun b => S0 b ∧ b < w.heap.size) (.slice (some ad) ya.length r5) ya := Own.turnB (E := RFE) oY2 hjy (show 2 < 6 by decide) (fun v hv => by rw [HEL.out] at hv; exact RFE.set2 hv hf7) ya hyn
                have hyl_ : ya.length = A8.length := by rw [hyn, List.length_set]; exact hyl
                have z37 : w3.heap.size ≤ (V1b.setCell ⟨(ad.add (j * 6)).block, (ad.add (j * 6)).off + 2, none⟩ (.slice P1 la.length p1)).heap.size := by have := g7.size; omega
                refine hK.out _ _ ?_
                clear hK K fz kE2 b2 oY2 yc2 hf_ hf7 hsm g7 hf hgw HOR HBR zz2 zVd
                try dsimp only
                refine wpAny_done (by kernel_rfl) ?_ _
                refine NoPanic.normal ?_
                have HEL2 : Hid (∀ h : j < ya.length, ya[j] = { f0 with first := la }) := by intro h; subst hyn; rw [List.getElem_set_self]
                have HST2 : Hid (ya.set j (cutF f0) = cutK A8 (j + 1)) := by show _ = _; rw [hyn]; exact HST.out _
                clear HEL HST hyn z36
                have HEL := HEL2
                clear HEL2
                generalize (V1b.setCell ⟨(ad.add (j * 6)).block, (ad.add (j * 6)).off + 2, none⟩ (.slice P1 la.length p1)) = wq at *
                have kE := kE7
                have b6 := b7
                have oY := o7
                have z36 := z37
                have hyl0 := hyl
                clear kE7 b7 o7 z37 hyl hyl0
                have hyl := hyl_
                clear hyl_ hjy
                generalize hg0 : ({ f0 with first := la } : LFile) = f1 at *
                have HCG : Hid (cutF f0 = { f1 with last := f1.last.take 1024 }) := by show _ = _; subst hg0; rw [Hla.out]; rfl
                clear hg0 HCF Hla
                have hjy : j < ya.length := by omega
                obtain ⟨P1, p1, yc, hf⟩ := Own.file3 oY hjy
                rw [HEL.out] at yc hf
                obtain ⟨gR, hgR, hoR, hbR⟩ := Own.atA (k := j) oY (by omega)
                clear hgR
                replace hbR : (ad.add (j * 6)).block = gR := hbR
                have hgw := Own.lt oY _ hoR
                have HBR := Lib.hid hbR
                have HOR := Lib.hid hoR
                clear hbR hoR
                obtain ⟨lb, hL1⟩ : ∃ lb, lb = f1.last.take 1024 := ⟨_, rfl⟩
                have Hlb := Lib.hid hL1
                clear hL1
                go_upto_region 15 with fail
                refine wp_region_noPanic ?_
                have kEd := kE.drew
                have bd := b6.drew
                have oYd := Own.below oY ((Below.refl wq.heap.size wq).drew)
                have hfd := hf.1.below ((Below.refl wq.heap.size wq).drew)
                have ycd : wq.drew.cell? ⟨(ad.add (j * 6)).block, (ad.add (j * 6)).off + 3, none⟩ = some (.slice P1 f1.last.length p1) := yc
                refine wp_region_heldK (fun X => X.cell? ⟨wo.heap.size, 1, none⟩ = some (.slice (some ad) A8.length r5) ∧ X.cell? ⟨(ad.add (j * 6)).block, (ad.add (j * 6)).off + 3, none⟩ = some (.slice P1 f1.last.length p1)) 12 (by kernel_rfl) ⟨kEd.cell 1, ycd⟩ (fun hH => ?_)
                have zVd : wq.heap.size ≤ wq.drew.heap.size := Nat.le_refl _
                clear kE b6 oY yc
                generalize wq.drew = V2 at *
                refine wpAnyK_takeY (i := 0) (v := ?_) rfl (by kernel_rfl) (by kernel_rfl) (by kernel_rfl) (by kernel_rfl) (fun _ _ _ h => h) (Or.inl ⟨by rfl, ?_⟩) hH ?_
                case refine_2 => intro w; go_simp; try with_reducible rfl
                try simp only [List.getElem_toArray, List.getElem_cons_zero, Act.put, List.setIfInBounds_toArray, List.set_cons_zero, List.set_cons_succ]
                refine wpAnyK_take (i := 1) (v := ?_) rfl (by kernel_rfl) (by kernel_rfl) (by kernel_rfl) (by kernel_rfl) (fun _ _ _ h => h) (Or.inl ⟨by rfl, ?_⟩) hH ?_
                case refine_2 => intro w hSw; obtain ⟨s0, s1⟩ := hSw; go_simp; try with_reducible rfl
                try simp only [List.getElem_toArray, List.getElem_cons_succ, List.getElem_cons_zero, Act.put, List.setIfInBounds_toArray, List.set_cons_zero, List.set_cons_succ]
                refine wpAnyK_takeY (i := 2) (v := ?_) rfl (by kernel_rfl) (by kernel_rfl) (by kernel_rfl) (by kernel_rfl) (fun _ _ _ h => h) (Or.inl ⟨by rfl, ?_⟩) hH ?_
                case refine_2 => intro w; go_simp; try with_reducible rfl
                try simp only [List.getElem_toArray, List.getElem_cons_succ, List.getElem_cons_zero, Act.put, List.setIfInBounds_toArray, List.set_cons_zero, List.set_cons_succ]
                refine wpAnyK_takeY (i := 3) (v := ?_) rfl (by kernel_rfl) (by kernel_rfl) (by kernel_rfl) (by kernel_rfl) (fun _ _ _ h => h) (Or.inl ⟨by rfl, ?_⟩) hH ?_
                case refine_2 => intro w; go_simp; try with_reducible rfl
                try simp only [List.getElem_toArray, List.getElem_cons_succ, List.getElem_cons_zero, Act.put, List.setIfInBounds_toArray, List.set_cons_zero, List.set_cons_succ]
                refine wpAnyK_take (i := 4) (v := ?_) rfl (by kernel_rfl) (by kernel_rfl) (by kernel_rfl) (by kernel_rfl) (fun _ _ _ h => h) (Or.inl ⟨by rfl, ?_⟩) hH ?_
                case refine_2 => intro w hSw; obtain ⟨s0, s1⟩ := hSw; go_simp; try with_reducible rfl
                try simp only [List.getElem_toArray, List.getElem_cons_succ, List.getElem_cons_zero, Act.put, List.setIfInBounds_toArray, List.set_cons_zero, List.set_cons_succ]
                refine wpAnyK_takeY (i := 5) (v := ?_) rfl (by kernel_rfl) (by kernel_rfl) (by kernel_rfl) (by kernel_rfl) (fun _ _ _ h => h) (Or.inl ⟨by rfl, ?_⟩) hH ?_
                case refine_2 => intro w; go_simp; try with_reducible rfl
                try simp only [List.getElem_toArray, List.getElem_cons_succ, List.getElem_cons_zero, Act.put, List.setIfInBounds_toArray, List.set_cons_zero, List.set_cons_succ]
                refine wpAnyK_takeY (i := 6) (v := ?_) rfl (by kernel_rfl) (by kernel_rfl) (by kernel_rfl) (by kernel_rfl) (fun _ _ _ h => h) (Or.inl ⟨by rfl, ?_⟩) hH ?_
                case refine_2 => intro w; go_simp; try with_reducible rfl
                try simp only [List.getElem_toArray, List.getElem_cons_succ, List.getElem_cons_zero, Act.put, List.setIfInBounds_toArray, List.set_cons_zero, List.set_cons_succ]
                refine wpAnyK_takeY (i := 7) (v := ?_) rfl (by kernel_rfl) (by kernel_rfl) (by kernel_rfl) (by kernel_rfl) (fun _ _ _ h => h) (Or.inl ⟨by rfl, ?_⟩) hH ?_
                case refine_2 => intro w; go_simp; try with_reducible rfl
                try simp only [List.getElem_toArray, List.getElem_cons_succ, List.getElem_cons_zero, Act.put, List.setIfInBounds_toArray, List.set_cons_zero, List.set_cons_succ]
                refine wpAnyK_take (i := 8) (v := ?_) rfl (by kernel_rfl) (by kernel_rfl) (by kernel_rfl) (by kernel_rfl) (fun _ _ _ h => h) (Or.inl ⟨by rfl, ?_⟩) hH ?_
                case refine_2 => intro w hSw; obtain ⟨s0, s1⟩ := hSw; go_simp; try with_reducible rfl
                try simp only [List.getElem_toArray, List.getElem_cons_succ, List.getElem_cons_zero, Act.put, List.setIfInBounds_toArray, List.set_cons_zero, List.set_cons_succ]
                refine wpAnyK_ready (rs := [9]) (by kernel_rfl) (by simp) ?_
                refine AllReadyK.cons rfl (by kernel_rfl) (fun K hK => ?_) AllReadyK.nil
                go_simp
                refine (short_any P1 f1.last p1 V2 hf.2.2 lb Hlb).mono ?_
                rintro en w_ ⟨rfl, m, rfl⟩
                have kE2 := kEd.drewN m
                have b2 := below_drewN bd m
                have oY2 := Own.below oYd (below_drewN (Below.refl V2.heap.size V2) m)
                have hf_ := hfd.below (below_drewN (Below.refl V2.heap.size V2) m)
                have zz2 : V2.heap.size ≤ (V2.drewN m).heap.size := (below_drewN (Below.refl V2.heap.size V2) m).size
                have yc2 : (V2.drewN m).cell? ⟨(ad.add (j * 6)).block, (ad.add (j * 6)).off + 3, none⟩ = some (.slice P1 f1.last.length p1) := ((below_drewN (Below.refl V2.heap.size V2) m).cell (by show (ad.add (j * 6)).block < _; have := HBR.out; omega)).trans ycd
                refine hK.out _ _ ⟨kE2.cell 1, yc2⟩ ?_
                clear hK K hH kEd bd oYd hfd ycd
                try dsimp only
                try simp only [List.getElem_toArray, List.getElem_cons_succ, List.getElem_cons_zero, Act.put, List.setIfInBounds_toArray, List.set_cons_zero, List.set_cons_succ]
                generalize V2.drewN m = V2b at *
                have hS2 : V2b.cell? ⟨wo.heap.size, 1, none⟩ = some (.slice (some ad) A8.length r5) ∧ V2b.cell? ⟨(ad.add (j * 6)).block, (ad.add (j * 6)).off + 3, none⟩ = some (.slice P1 f1.last.length p1) := ⟨kE2.cell 1, yc2⟩
                refine wpAnyK_takeY (i := 10) (v := ?_) rfl (by kernel_rfl) (by kernel_rfl) (by kernel_rfl) (by kernel_rfl) (fun _ _ _ h => h) (Or.inl ⟨by rfl, ?_⟩) hS2 ?_
                case refine_2 => intro w; go_simp; try with_reducible rfl
                try simp only [List.getElem_toArray, List.getElem_cons_succ, List.getElem_cons_zero, Act.put, List.setIfInBounds_toArray, List.set_cons_zero, List.set_cons_succ]
                refine wpAnyK_takeY (i := 11) (v := ?_) rfl (by kernel_rfl) (by kernel_rfl) (by kernel_rfl) (by kernel_rfl) (fun _ _ _ h => h) (Or.inl ⟨by rfl, ?_⟩) hS2 ?_
                case refine_2 => intro w; go_simp; try with_reducible rfl
                try simp only [List.getElem_toArray, List.getElem_cons_succ, List.getElem_cons_zero, Act.put, List.setIfInBounds_toArray, List.set_cons_zero, List.set_cons_succ]
                refine wpAnyK_ready (rs := [12]) (by kernel_rfl) (by simp) ?_
                refine AllReadyK.turn rfl (fun K hK => ?_) AllReadyK.nil
                have fz : V2b.frozen? ⟨(ad.add (j * 6)).block, (ad.add (j * 6)).off + 3, none⟩ = false := Own.frozenA oY2 hjy 3
                clear hS2
                go_simp
                have g7 : V2b.grownBy (V2b.setCell ⟨(ad.add (j * 6)).block, (ad.add (j * 6)).off + 3, none⟩ (.slice P1 lb.length p1)) (some gR) := only_setCell (World.grownBy.refl V2b _) (p := ⟨(ad.add (j * 6)).block, (ad.add (j * 6)).off + 3, none⟩) (.inl (by show (ad.add (j * 6)).block = gR; exact HBR.out)) _
                have kE7 := kE2.grown g7 (fun e => by have := Option.some.inj e; omega)
                have b7 := b2.grown g7 b2.size (fun j e => by have := Option.some.inj e; omega)
                have hsm : Same (fun b => S0 b ∧ b < w.heap.size) V2b (V2b.setCell ⟨(ad.add (j * 6)).block, (ad.add (j * 6)).off + 3, none⟩ (.slice P1 lb.length p1)) := .of_grown g7 (fun b hb e => by have h1 : b < w.heap.size := hb.2; have := Option.some.inj e; omega)
                have hf7 : Bs (V2b.setCell ⟨(ad.add (j * 6)).block, (ad.add (j * 6)).off + 3, none⟩ (.slice P1 lb.length p1)) P1 lb ∧ At (fun b => (fun b => S0 b ∧ b < w.heap.size) b ∧ (Value.slice (some ad) ya.length r5).ownBlock ≠ some b) P1 lb.length ∧ lb.length ≤ p1 ∧ p1 ≤ 9223372036854775807 := by
                  have h5 := (hf_.sameS hf.2.1 hsm).takeA 1024
                  rw [← Hlb.out] at h5
                  have h6 : lb.length ≤ f1.last.length := by rw [Hlb.out]; exact cut_len _
                  exact ⟨h5, fun a_ e_ hn_ => ⟨hf.2.1 a_ e_ (by omega), fun e2 => by have h1 : gR = a_.block := Option.some.inj (HOR.out.symm.trans e2); have h2 : a_.block < w.heap.size := (hf.2.1 a_ e_ (by omega)).2; omega⟩, Nat.le_trans h6 hf.2.2.1, hf.2.2.2⟩
                obtain ⟨yb, hyn⟩ : ∃ yb, yb = ya.set j { f1 with last := lb } := ⟨_, rfl⟩
                have o7 : Own RFE 71 (V2b.setCell ⟨(ad.add (j * 6)).block, (ad.add (j * 6)).off + 3, none⟩ (.slice P1 lb.length p1)) w3.heap.size (fun b => S0 b ∧ b < w.heap.size) (.slice (some ad) yb.length r5) yb := Own.turnB (E := RFE) oY2 hjy (show 3 < 6 by decide) (fun v hv => by rw [HEL.out] at hv; exact RFE.set3 hv hf7) yb hyn
                have hyl_ : yb.length = A8.length := by rw [hyn, List.length_set]; exact hyl
                have z37 : w3.heap.size ≤ (V2b.setCell ⟨(ad.add (j * 6)).block, (ad.add (j * 6)).off + 3, none⟩ (.slice P1 lb.length p1)).heap.size := by have := g7.size; omega
                refine hK.out _ _ ?_
                clear hK K fz kE2 b2 oY2 yc2 hf_ hf7 hsm g7 hf hgw HOR HBR zz2 zVd
                try dsimp only
                refine wpAny_done (by kernel_rfl) ?_ _
                refine NoPanic.normal ?_
                have HYB : Hid (yb = cutK A8 (j + 1)) := by show _ = _; rw [hyn, Hlb.out, ← HCG.out]; exact HST2.out
                clear hyn HST2 HCG HEL
                generalize (V2b.setCell ⟨(ad.add (j * 6)).block, (ad.add (j * 6)).off + 3, none⟩ (.slice P1 lb.length p1)) = wz at *
                go_wp2_with fail
                go_roundw
                case rel => exact ⟨j + 1, yb, by omega, by simp, HYB.out, hyl_, o7, kE7, b7, z37⟩
                case measure => simp [intOf]; omega
              · have hjt' : ¬ (j : Int) < (A8.length : Int) := by omega
                have HYA : Hid (ys = A8.map cutF) := by show _ = _; rw [hys, show j = A8.length by omega]; exact cutK_all A8
                clear hys
                clear hjt hj
                have dy : Below wr.heap.size wr (wr.alloc (.cells #[.bool e.reset, .slice R5 A8.length r5, .slice Q D8.length t, .int .u64 (e.seq : Int)] 35)) := (Below.refl _ _).alloc (Nat.le_refl _) _
                have hrd : Reads (wr.alloc (.cells #[.bool e.reset, .slice R5 A8.length r5, .slice Q D8.length t, .int .u64 (e.seq : Int)] 35)) (wr.heap.size + 1) 4 (some ⟨wr.heap.size, 0, none⟩) 1 [.bool e.reset, .slice R5 A8.length r5, .slice Q D8.length t, .int .u64 (e.seq : Int)] := Reads.newN wr _ 35
                have bx := b6.trans (dy.mono b6.size)
                rw [← hxl] at oX
                have oX9 := Own.below oX bx
                have HPL := Lib.hid (Own.lt oX)
                have cR := Own.caps oY
                have zo := b6.size
                have hw3 : wo.heap.size ≤ w3.heap.size := dz.size
                have hsA : SlS RFE (wr.alloc (.cells #[.bool e.reset, .slice R5 A8.length r5, .slice Q D8.length t, .int .u64 (e.seq : Int)] 35)) (fun b => (S0 b ∨ w.heap.size ≤ b) ∧ (Value.slice R xs.length r).ownBlock ≠ some b) R5 ys := Own.slS (Own.below oY dy) rfl (by simp only [RFE]; omega) (fun b h => ⟨.inl h.1, fun e2 => by have h1 := (HPL.out b e2).1; have h2 : b < w.heap.size := h.2; omega⟩) (fun b h => ⟨.inr (by omega), fun e2 => by have h1 := (HPL.out b e2).2; omega⟩)
                have hsD : SlS NE (wr.alloc (.cells #[.bool e.reset, .slice R5 A8.length r5, .slice Q D8.length t, .int .u64 (e.seq : Int)] 35)) (fun b => (S0 b ∨ w.heap.size ≤ b) ∧ (Value.slice R xs.length r).ownBlock ≠ some b) Q D8 := SlS.mono (hQ8.below bx) (fun b _ h => ⟨.inl h.1, fun e2 => by have h1 := (HPL.out b e2).1; have h2 : b < w.heap.size := h.2; omega⟩)
                have hrep : EditE.rep (wr.alloc (.cells #[.bool e.reset, .slice R5 A8.length r5, .slice Q D8.length t, .int .u64 (e.seq : Int)] 35)) (fun b => (S0 b ∨ w.heap.size ≤ b) ∧ (Value.slice R xs.length r).ownBlock ≠ some b) [.bool e.reset, .slice R5 A8.length r5, .slice Q D8.length t, .int .u64 (e.seq : Int)] (cutE e) := by
                  rw [HC.out]
                  refine ⟨R5, r5, Q, t, by rw [List.length_map], ⟨?_, ?_, cR.2⟩, ⟨hsD, hQl, hQc.2⟩, hu⟩
                  · rw [← HYA.out]; exact hsA
                  · rw [List.length_map, ← hyl]; exact cR.1
                have hL1 : (xs.length + 1) * EditE.bytes ≤ 140737488355328 := by simp only [EditE]; omega
                have hL2 : xs.length + 1 ≤ maxLen := by simp only [maxLen]; omega
                have hWx : w.heap.size ≤ (wr.alloc (.cells #[.bool e.reset, .slice R5 A8.length r5, .slice Q D8.length t, .int .u64 (e.seq : Int)] 35)).heap.size := by have := bx.size; omega
                have bw9 := br.trans (bx.mono zr)
                clear HYA hsA hsD oY cR
                go_wp2_with (first
                  | ((with_reducible refine wpList_load_blk rfl 35 (.tmp 7) rfl wo.heap.size ?_ 35 _ _ kE Try.underlying35 ?_ Try.size_RMEdit ?_ ?_); rfl; rfl; rfl)
                  | (at_builtin; refine wpList_appE EditE w.heap.size w _ rfl (.tmp 76) (.tmp 78) 35 26 rfl i2 _ Try.underlying26 hi2 hy0 hy1 hy2 rfl (fun b => S0 b ∨ w.heap.size ≤ b) R xs r (congrArg (fun m => Value.slice R m r) hxl.symm) oX9 _ [.bool e.reset, .slice R5 A8.length r5, .slice Q D8.length t, .int .u64 (e.seq : Int)] (cutE e) 1 rfl _ hrd hrep hL1 hL2 bw9 (Nat.le_refl _) hWx ?_; intro R9 r9 xs9 w9 H9 o9 b9 g9 t9))
                have hx9 : xs9.length = k + 1 := by rw [H9.out, List.length_append, hxl]; rfl
                have HX9 : Hid (xs9 = (l.take (k + 1)).map cutE) := by show _ = _; rw [HST.out, H9.out]
                rw [hx9] at o9
                go_roundw
                case rel => exact ⟨k + 1, xs9, R9, r9, by omega, by omega, by simp, by rw [hx9], HX9.out, o9, b9⟩
                case measure => simp [intOf]; omega
      · have hnt' : ¬ (k : Int) < (n : Int) := by omega
        have HE : Hid ((l.take n).map cutE = xs) := by show _ = _; rw [HXS.out, show k = n by omega]
        clear HXS
        go_wp2_with fail
        go_ret
        rw [← List.map_take, HE.out]
        exact ⟨R, r, by rw [hxl]; rfl, by rw [hxl]; exact oX, br⟩
    · have hlt' : ¬ (k : Int) < (l.length : Int) := by omega
      have HE : Hid ((l.take n).map cutE = xs) := by show _ = _; rw [HXS.out, List.take_of_length_le (by omega), List.take_of_length_le (by omega)]
      clear HXS
      go_wp2_with fail
      go_ret
      rw [← List.map_take, HE.out]
      exact ⟨R, r, by rw [hxl]; rfl, by rw [hxl]; exact oX, br⟩
end Go.Proofs.Ytmgibpedclngpaa
