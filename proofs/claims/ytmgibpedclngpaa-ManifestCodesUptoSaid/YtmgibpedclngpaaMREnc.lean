/- An edit as bytes: caissonref12.Encode. (Printed by wip/gen_mrenc.py.) -/
import Derived.Test.YtmgibpedclngpaaMEncP
import Derived.Test.YtmgibpedclngpaaHeldK
import Derived.Test.YtmgibpedclngpaaMDec
namespace Go.Proofs.Ytmgibpedclngpaa
open Go.RowKit

set_option maxRecDepth 100000 in
set_option maxHeartbeats 8000000 in
theorem rmencode_any (e : LEdit) (A D : Option Addr) (a d : Nat) (w : World) (hA : Sl RFE w A e.add) (hD : Sl NE w D e.drop) (hs : U64 e.seq) (hsm : e.sm) : Calls Try.prog 19 #[.agg #[.bool e.reset, .slice A e.add.length a, .slice D e.drop.length d, .int .u64 (e.seq : Int)]] w (RetBs (editL e) w) := by
  have hdu : ∀ n ∈ e.drop, U64 n := fun n hn => by obtain ⟨j, hj, rfl⟩ := List.getElem_of_mem hn; obtain ⟨_, _, _, _, h⟩ := NE.at_ hD hj; exact h
  have hfw : ∀ f ∈ e.add, f.wf := fun f hf => by obtain ⟨j, hj, rfl⟩ := List.getElem_of_mem hf; obtain ⟨_, _, _, _, _, _, _, _, _, _, _, _, _, _, _, h⟩ := RFE.at_ hA hj; exact h
  have HPS := Lib.hid (partsL_sm hsm hs hdu hfw)
  have HFS := Lib.hid hsm.adds
  have hna := hsm.nadd
  have hnd := hsm.ndrop
  have hdl := dropL_len hdu
  have HDU := Lib.hid hdu
  have HFW := Lib.hid hfw
  obtain ⟨i1, hi1, hy0, hy1, hy2⟩ := info_parts Try.infoBs
  clear hsm hdu hfw
  have b1 : Below w.heap.size w ((w.alloc (.cells #[.bool e.reset, .slice A e.add.length a, .slice D e.drop.length d, .int .u64 (e.seq : Int)] 35)).alloc (.cells #[.int .u8 0] 5)) := ((Below.refl _ _).alloc (Nat.le_refl _) _).alloc (by simp) _
  have k1 : Blk ((w.alloc (.cells #[.bool e.reset, .slice A e.add.length a, .slice D e.drop.length d, .int .u64 (e.seq : Int)] 35)).alloc (.cells #[.int .u8 0] 5)) w.heap.size 35 #[.bool e.reset, .slice A e.add.length a, .slice D e.drop.length d, .int .u64 (e.seq : Int)] := (Blk.new w _ _).alloc _
  have h1 : Blk ((w.alloc (.cells #[.bool e.reset, .slice A e.add.length a, .slice D e.drop.length d, .int .u64 (e.seq : Int)] 35)).alloc (.cells #[.int .u8 0] 5)) (w.heap.size + 1) 5 #[.int .u8 0] := heap_alloc2_new w _ _
  go_enter Try.func19, Try.ntmps19
  go_upto_region 2 with fail
  generalize ((w.alloc (.cells #[.bool e.reset, .slice A e.add.length a, .slice D e.drop.length d, .int .u64 (e.seq : Int)] 35)).alloc (.cells #[.int .u8 0] 5)) = w1 at *
  have x0 : w1.cell? ⟨w.heap.size, 0, none⟩ = some (.bool e.reset) := k1.cell 0
  go_upto_if 12 with fail
  clear x0
  generalize Value.agg #[.bool e.reset, .slice A e.add.length a, .slice D e.drop.length d, .int .u64 (e.seq : Int)] = av
  go_cut [3] (fun s wx => ∃ H hc, s = .slice H 1 hc ∧ OwnB (w.heap.size + 1) wx H [if e.reset then (1 : UInt8) else 0] hc ∧ Blk wx w.heap.size 35 #[.bool e.reset, .slice A e.add.length a, .slice D e.drop.length d, .int .u64 (e.seq : Int)] ∧ Below w.heap.size w wx)
  case first =>
    cases hr : e.reset with
    | false =>
      rw [hr] at k1
      go_wp2_with fail
      go_meet
      case rel => rw [hr]; exact ⟨_, 1, rfl, head_own (x := 0) h1 (Nat.le_refl _), k1, b1⟩
    | true =>
      rw [hr] at k1
      have h2 := Blk.new w1 5 #[.int .u8 1]
      have k2 := k1.alloc (.cells #[.int .u8 1] 5)
      have b2 := b1.alloc b1.size (.cells #[.int .u8 1] 5)
      have z1 := h1.lt
      go_wp2_with fail
      go_meet
      case rel => rw [hr]; exact ⟨_, 1, rfl, head_own (x := 1) h2 (by omega), k2, b2⟩
  case rest =>
    clear h1 k1 b1
    obtain ⟨H, hc, rfl, oH, kE, b2⟩ := hcut
    have HHL : Hid (headL e = [if e.reset then (1 : UInt8) else 0] ++ putU e.seq) := rfl
    generalize (if e.reset then (1 : UInt8) else 0) = hx at *
    have zE := kE.lt
    have z2 := b2.size
    generalize wc = w2 at *
    go_wp2_with fail
    go_loopw [4, 5] (fun v i wr => ∃ (j : Nat) (acc : List UInt8) (Z : Option Addr) (z : Nat), j ≤ e.drop.length ∧ i = .int .i64 (j : Int) ∧ v = .slice Z acc.length z ∧ acc = dropL (e.drop.take j) ∧ acc.length ≤ 10 * j ∧ OwnB w2.heap.size wr Z acc z ∧ Below w2.heap.size w2 wr) (fun _ i _ => e.drop.length - (intOf i).toNat)
    case atStart => exact ⟨0, [], none, 0, Nat.zero_le _, rfl, rfl, rfl, Nat.le_refl _, OwnB.nil_ _ _, Below.refl _ _⟩
    case round =>
      obtain ⟨j, acc, Z, z, hj, rfl, rfl, hacc, hal, oZ, br⟩ := hrel
      have HACC := Lib.hid hacc
      clear hacc
      by_cases hlt : j < e.drop.length
      · have hlt' : (j : Int) < (e.drop.length : Int) := by omega
        obtain ⟨ad, hadD, hab, x0, hu⟩ := NE.at_ (hD.below (b2.trans (br.mono z2))) hlt
        have HST : Hid (dropL (e.drop.take (j + 1)) = acc ++ putU e.drop[j]) := by show _ = _; rw [dropL_snoc hlt, HACC.out]
        have T := rputu_any e.drop[j] hu wr
        have hl1 := putU_len10 hu
        generalize e.drop[j] = nn at *
        have x2 : wr.cell? ⟨w.heap.size, 2, none⟩ = some (.slice D e.drop.length d) := (kE.below br zE).cell 2
        obtain ⟨D', hDD⟩ : ∃ D', D' = D := ⟨_, rfl⟩
        subst hadD
        clear hDD D'
        go_wp2_with fail
        refine T.mono ?_
        clear T x0 x2
        rintro en w3 ⟨B, bd, rfl, oB, b3⟩
        have o3 := OwnB.below oZ b3
        have hB := OwnB.bs oB (by omega)
        have br3 := br.trans (b3.mono br.size)
        clear oZ oB br
        go_wp2_with (at_builtin; refine wpList_app w2.heap.size w2 _ rfl (.tmp 21) (.tmp 27) rfl Z acc z rfl o3 B (putU nn) bd rfl hB (by omega) br3 (Nat.le_refl _) br3.size ?_; intro Z4 z4 acc4 w4 H4 o4 b4 g4 t4)
        have HA4 : Hid (acc4 = dropL (e.drop.take (j + 1))) := by show _ = _; rw [HST.out, H4.out]
        have hal4 : acc4.length ≤ 10 * (j + 1) := by rw [H4.out, List.length_append]; omega
        go_roundw
        case rel => exact ⟨j + 1, acc4, Z4, z4, by omega, by simp, rfl, HA4.out, hal4, o4, b4⟩
        case measure => simp [intOf]; omega
      · have hlt' : ¬ (j : Int) < (e.drop.length : Int) := by omega
        obtain rfl : j = e.drop.length := by omega
        have HDL : Hid (acc = dropL e.drop) := by show _ = _; rw [HACC.out, List.take_length]
        clear hlt hj HACC
        generalize wr = w3 at *
        have kE3 := kE.below br zE
        have oH3 := OwnB.below oH br
        have b3 := b2.trans (br.mono z2)
        have z3 := br.size
        have x3 : w3.cell? ⟨w.heap.size, 3, none⟩ = some (.int .u64 (e.seq : Int)) := kE3.cell 3
        have x2 : w3.cell? ⟨w.heap.size, 2, none⟩ = some (.slice D e.drop.length d) := kE3.cell 2
        have T := rputu_any e.seq hs w3
        have hl1 := putU_len10 hs
        have HHB := Lib.hid (fun b (hb : (Value.slice H [hx].length hc).ownBlock = some b) => (OwnB.lt oH b hb).2)
        clear oH kE
        go_wp2_with fail
        refine T.mono ?_
        clear T x3 x2
        rintro en w4 ⟨B, bd, rfl, oB, b4⟩
        have hB := OwnB.bs oB (by omega)
        have oH4 := OwnB.below oH3 b4
        have oZ4 := OwnB.below oZ b4
        have kE4 := kE3.below b4 kE3.lt
        have b04 := b3.trans (b4.mono b3.size)
        have z4 := b4.size
        clear oH3 oZ kE3 b3 b4 oB
        go_upto_region 10 with (at_builtin; refine wpList_app (w.heap.size + 1) w _ rfl (.tmp 29) (.tmp 32) rfl H [hx] hc rfl oH4 B (putU e.seq) bd rfl hB (by simp only [List.length_cons, List.length_nil]; omega) b04 (by omega) (by omega) ?_; intro H5 h5 hd5 w5 HH5 oH5 b5 g5 t5)
        have oZ5 : OwnB w2.heap.size w5 Z acc z := OwnB.kept oZ4 g5 (fun g hg e => by have h1 := (OwnB.lt oZ4 g hg).1; have h2 := HHB.out g e; omega)
        have kE5 := kE4.grown g5 (fun e => by have := (OwnB.lt oH4 _ e.symm).1; omega)
        have z5 := b5.size
        have z45 := g5.size
        have HHD : Hid (hd5 = headL e) := by show _ = _; rw [HH5.out]; exact HHL.out.symm
        have hhl : hd5.length ≤ 11 := by rw [HHD.out]; exact headL_len hs
        have dz : Below w5.heap.size w5 (w5.alloc (.cells #[.slice H5 hd5.length h5, .slice Z acc.length z] 49)) := (Below.refl _ _).alloc (Nat.le_refl _) _
        have hzl : acc.length ≤ 1000000 := by omega
        have oP : Own BsE 49 (w5.alloc (.cells #[.slice H5 hd5.length h5, .slice Z acc.length z] 49)) (w.heap.size + 1) (fun b => w.heap.size ≤ b) (.slice (some ⟨w5.heap.size, 0, none⟩) [hd5, acc].length 2) [hd5, acc] := BsE.lit (vs := [.slice H5 hd5.length h5, .slice Z acc.length z]) (by omega) rfl (BsE.two (OwnB.bytesB oH5 (by omega) dz (fun g h1 h2 => ⟨by omega, h2⟩)) (OwnB.bytesB oZ5 (by omega) dz (fun g h1 h2 => ⟨by omega, h2⟩))) (by decide)
        have kE6 := kE5.below dz (by omega)
        have b06 := b5.trans (dz.mono (by omega))
        have z6 := dz.size
        have HPP : Hid ([hd5, acc] = partsL_ e 0) := by show _ = _; unfold partsL_; rw [List.take_zero, HHD.out, HDL.out]; rfl
        clear oZ4 oZ5 kE4 kE5 b5 g5 t5 dz HH5 HHD HHL HDL oH4 oH5 HHB b04 hB b2 z2 zE
        have lE6 := kE6.lt
        generalize (w5.alloc (.cells #[.slice H5 hd5.length h5, .slice Z acc.length z] 49)) = w6 at *
        generalize [hd5, acc] = P0 at *
        have hP0 : P0.length = 2 := by rw [HPP.out]; exact partsL_len e (Nat.zero_le _)
        generalize (some (⟨w5.heap.size, 0, none⟩ : Addr)) = PA at *
        go_wp2_with fail
        go_loopw [6, 7, 8, 9] (fun v i _ _ wr => ∃ (n : Nat) (P : List (List UInt8)) (Q : Option Addr) (q : Nat), n ≤ e.add.length ∧ i = .int .i64 (n : Int) ∧ v = .slice Q (n + 2) q ∧ P = partsL_ e n ∧ Own BsE 49 wr (w.heap.size + 1) (fun b => w.heap.size ≤ b) (.slice Q (n + 2) q) P ∧ Blk wr w.heap.size 35 #[.bool e.reset, .slice A e.add.length a, .slice D e.drop.length d, .int .u64 (e.seq : Int)] ∧ Below w.heap.size w wr) (fun _ i _ _ _ => e.add.length - (intOf i).toNat)
        case atStart => exact ⟨0, P0, PA, 2, Nat.zero_le _, rfl, rfl, HPP.out, by rw [hP0] at oP; exact oP, kE6, b06⟩
        case round =>
          clear oP b06 HPP hP0 kE6
          obtain ⟨n, P, Q, q, hn, rfl, rfl, hP, oP, kE, br⟩ := hrel
          have hpl : P.length = n + 2 := by rw [hP]; exact partsL_len e hn
          have HPP := Lib.hid hP
          clear hP
          rw [← hpl] at oP
          have zr := br.size
          have x1 : wr.cell? ⟨w.heap.size, 1, none⟩ = some (.slice A e.add.length a) := kE.cell 1
          have lE := kE.lt
          by_cases hlt : n < e.add.length
          · have hlt' : (n : Int) < (e.add.length : Int) := by omega
            obtain ⟨ad, P1, p1, P2, p2, hadA, hab, y0, y1, y2, y3, y4, y5, hf1, hf2, hwf⟩ := RFE.at_ (hA.below br) hlt
            subst hadA
            have HST : Hid (partsL_ e (n + 1) = P ++ [fileL e.add[n]]) := by show _ = _; rw [partsL_snoc hlt, HPP.out]
            obtain ⟨hs1, hs2⟩ := HFS.out e.add[n] (List.getElem_mem _)
            obtain ⟨hu1, _, _, _⟩ := id hwf
            generalize e.add[n] = f at *
            have dz : Below wr.heap.size wr (wr.alloc (.cells #[.int .u64 (f.num : Int), .int .i64 f.level, .slice P1 f.first.length p1, .slice P2 f.last.length p2, .int .i64 f.count, .int .i64 f.size] 71)) := (Below.refl _ _).alloc (Nat.le_refl _) _
            have kF := Blk.new wr 71 #[.int .u64 (f.num : Int), .int .i64 f.level, .slice P1 f.first.length p1, .slice P2 f.last.length p2, .int .i64 f.count, .int .i64 f.size]
            have hQ1 := hf1.1.below dz
            have hQ2 := hf2.1.below dz
            have hl1 := putU_len10 hu1
            have hl2 := putU_len10 (toU_u64 f.level)
            have hl3 := putU_len10 (toU_u64 f.count)
            have hl4 := putU_len10 (toU_u64 f.size)
            have hol1 := ordT_len f.first
            have hol2 := ordT_len f.last
            have hw1 := wrap_toU f.level
            have hw2 := wrap_toU f.count
            have hw3 := wrap_toU f.size
            go_upto_region 14 with fail
            clear y0 y1 y2 y3 y4 y5 hf1 hf2 x1
            generalize (wr.alloc (.cells #[.int .u64 (f.num : Int), .int .i64 f.level, .slice P1 f.first.length p1, .slice P2 f.last.length p2, .int .i64 f.count, .int .i64 f.size] 71)) = v1 at *
            have lF := kF.lt
            generalize wr = wo at *
            refine wp_region_noPanic ?_
            have kFd := kF.drew
            have bxd := (Below.refl v1.heap.size v1).drew
            refine wp_region_held_drew (S := fun W => W.cell? ⟨wo.heap.size, 0, none⟩ = some (.int .u64 (f.num : Int)) ∧ W.cell? ⟨wo.heap.size, 1, none⟩ = some (.int .i64 f.level)) (by kernel_rfl) ⟨kF.cell 0, kF.cell 1⟩ (fun hH => ?_)
            generalize hV : v1.drew = V at *
            clear hV
            refine wpAnyH_take (i := 0) (v := ?_) rfl (by kernel_rfl) (by kernel_rfl) (by kernel_rfl) (fun _ _ _ h => h) (Or.inl ⟨by rfl, ?_⟩) hH ?_
            case refine_2 => intro w hSw; go_simp; try with_reducible rfl
            try simp only [List.getElem_toArray, List.getElem_cons_zero, Act.put, List.setIfInBounds_toArray, List.set_cons_zero, List.set_cons_succ]
            refine wpAnyH_take (i := 1) (v := ?_) rfl (by kernel_rfl) (by kernel_rfl) (by kernel_rfl) (fun _ _ _ h => h) (Or.inl ⟨by rfl, ?_⟩) hH ?_
            case refine_2 => intro w hSw; obtain ⟨s0, s1⟩ := hSw; go_simp; try with_reducible rfl
            try simp only [List.getElem_toArray, List.getElem_cons_succ, List.getElem_cons_zero, Act.put, List.setIfInBounds_toArray, List.set_cons_zero, List.set_cons_succ]
            refine wpAnyH_take (i := 3) (v := ?_) rfl (by kernel_rfl) (by kernel_rfl) (by kernel_rfl) (fun _ _ _ h => h) (Or.inl ⟨by rfl, ?_⟩) hH ?_
            case refine_2 => intro w hSw; go_simp; try with_reducible rfl
            try simp only [List.getElem_toArray, List.getElem_cons_succ, List.getElem_cons_zero, Act.put, List.setIfInBounds_toArray, List.set_cons_zero, List.set_cons_succ]
            refine wpAnyH_take (i := 4) (v := ?_) rfl (by kernel_rfl) (by kernel_rfl) (by kernel_rfl) (fun _ _ _ h => h) (Or.inl ⟨by rfl, ?_⟩) hH ?_
            case refine_2 => intro w hSw; obtain ⟨s0, s1⟩ := hSw; go_simp; try with_reducible rfl
            try simp only [List.getElem_toArray, List.getElem_cons_succ, List.getElem_cons_zero, Act.put, List.setIfInBounds_toArray, List.set_cons_zero, List.set_cons_succ]
            refine wpAnyH_take (i := 5) (v := ?_) rfl (by kernel_rfl) (by kernel_rfl) (by kernel_rfl) (fun _ _ _ h => h) (Or.inl ⟨by rfl, ?_⟩) hH ?_
            case refine_2 => intro w hSw; go_simp; try with_reducible rfl
            try simp only [List.getElem_toArray, List.getElem_cons_succ, List.getElem_cons_zero, Act.put, List.setIfInBounds_toArray, List.set_cons_zero, List.set_cons_succ]
            refine wpAnyH_ready (rs := [2]) (by kernel_rfl) (by simp) ?_
            refine AllReadyH.cons rfl (fun K hK => ?_) AllReadyH.nil
            go_simp
            refine (rputu_any f.num hu1 V).mono ?_
            rintro en v6 ⟨B1, c1, rfl, oB1, b6⟩
            have kF6 := kFd.below b6 kFd.lt
            have bx6 := bxd.trans (b6.mono bxd.size)
            have oB1 := OwnB.base oB1 bxd.size
            refine hK.out _ _ ⟨kF6.cell 0, kF6.cell 1⟩ (fun hH => ?_)
            clear hK K kFd bxd b6
            try dsimp only
            try simp only [List.getElem_toArray, List.getElem_cons_succ, List.getElem_cons_zero, Act.put, List.setIfInBounds_toArray, List.set_cons_zero, List.set_cons_succ]
            refine wpAnyH_ready (rs := [6]) (by kernel_rfl) (by simp) ?_
            refine AllReadyH.cons rfl (fun K hK => ?_) AllReadyH.nil
            go_simp
            refine (rputu_any (toU f.level) (toU_u64 _) v6).mono ?_
            rintro en v7 ⟨B2, c2, rfl, oB2, b7⟩
            have kF7 := kF6.below b7 kF6.lt
            have bx7 := bx6.trans (b7.mono bx6.size)
            have o7 := OwnB.below oB1 b7
            have hB2 := OwnB.bs oB2 (by omega)
            refine hK.out _ _ ⟨kF7.cell 0, kF7.cell 1⟩ (fun hH => ?_)
            clear hK K kF6 bx6 b7 oB1 oB2
            try dsimp only
            try simp only [List.getElem_toArray, List.getElem_cons_succ, List.getElem_cons_zero, Act.put, List.setIfInBounds_toArray, List.set_cons_zero, List.set_cons_succ]
            refine wpAnyH_ready (rs := [7]) (by kernel_rfl) (by simp) ?_
            refine AllReadyH.cons rfl (fun K hK => ?_) AllReadyH.nil
            refine step_app v1.heap.size v1 v7 rfl (.tmp 50) (.tmp 54) rfl B1 (putU f.num) c1 rfl o7 B2 (putU (toU f.level)) c2 rfl hB2 (by omega) bx7 (Nat.le_refl _) bx7.size ?_
            intro Y8 y8 acc8 v8 H8 o8 b8 g8 t8
            have kF8 := kF.below b8 lF
            refine hK.out _ _ ⟨kF8.cell 0, kF8.cell 1⟩ (fun hH => ?_)
            clear hK K kF7 bx7 o7 hB2 g8 t8
            try dsimp only
            try simp only [List.getElem_toArray, List.getElem_cons_succ, List.getElem_cons_zero, Act.put, List.setIfInBounds_toArray, List.set_cons_zero, List.set_cons_succ]
            refine wpAnyH_take (i := 8) (v := ?_) rfl (by kernel_rfl) (by kernel_rfl) (by kernel_rfl) (fun _ _ _ h => h) (Or.inl ⟨by rfl, ?_⟩) hH ?_
            case refine_2 => intro w hSw; go_simp; try with_reducible rfl
            try simp only [List.getElem_toArray, List.getElem_cons_succ, List.getElem_cons_zero, Act.put, List.setIfInBounds_toArray, List.set_cons_zero, List.set_cons_succ]
            refine wpAnyH_done (by kernel_rfl) ?_ _
            refine NoPanic.normal ?_
            clear hH
            have hl8 : acc8.length ≤ 20 := by rw [H8.out, List.length_append]; omega
            go_upto_region 15 with fail
            refine wp_region_noPanic ?_
            have kFd := kF8.drew
            have bxd := b8.drew
            have o8d := OwnB.below o8 ((Below.refl v8.heap.size v8).drew)
            refine wp_region_held_drew (S := fun W => W.cell? ⟨wo.heap.size, 4, none⟩ = some (.int .i64 f.count) ∧ W.cell? ⟨wo.heap.size, 5, none⟩ = some (.int .i64 f.size)) (by kernel_rfl) ⟨kF8.cell 4, kF8.cell 5⟩ (fun hH => ?_)
            clear kF8 b8 o8
            generalize v8.drew = V2 at *
            refine wpAnyH_take (i := 0) (v := ?_) rfl (by kernel_rfl) (by kernel_rfl) (by kernel_rfl) (fun _ _ _ h => h) (Or.inl ⟨by rfl, ?_⟩) hH ?_
            case refine_2 => intro w hSw; go_simp; try with_reducible rfl
            try simp only [List.getElem_toArray, List.getElem_cons_zero, Act.put, List.setIfInBounds_toArray, List.set_cons_zero, List.set_cons_succ]
            refine wpAnyH_take (i := 1) (v := ?_) rfl (by kernel_rfl) (by kernel_rfl) (by kernel_rfl) (fun _ _ _ h => h) (Or.inl ⟨by rfl, ?_⟩) hH ?_
            case refine_2 => intro w hSw; go_simp; try with_reducible rfl
            try simp only [List.getElem_toArray, List.getElem_cons_succ, List.getElem_cons_zero, Act.put, List.setIfInBounds_toArray, List.set_cons_zero, List.set_cons_succ]
            refine wpAnyH_take (i := 2) (v := ?_) rfl (by kernel_rfl) (by kernel_rfl) (by kernel_rfl) (fun _ _ _ h => h) (Or.inl ⟨by rfl, ?_⟩) hH ?_
            case refine_2 => intro w hSw; obtain ⟨s0, s1⟩ := hSw; go_simp; try with_reducible rfl
            try simp only [List.getElem_toArray, List.getElem_cons_succ, List.getElem_cons_zero, Act.put, List.setIfInBounds_toArray, List.set_cons_zero, List.set_cons_succ]
            refine wpAnyH_take (i := 3) (v := ?_) rfl (by kernel_rfl) (by kernel_rfl) (by kernel_rfl) (fun _ _ _ h => h) (Or.inl ⟨by rfl, ?_⟩) hH ?_
            case refine_2 => intro w hSw; go_simp; try with_reducible rfl
            try simp only [List.getElem_toArray, List.getElem_cons_succ, List.getElem_cons_zero, Act.put, List.setIfInBounds_toArray, List.set_cons_zero, List.set_cons_succ]
            refine wpAnyH_take (i := 6) (v := ?_) rfl (by kernel_rfl) (by kernel_rfl) (by kernel_rfl) (fun _ _ _ h => h) (Or.inl ⟨by rfl, ?_⟩) hH ?_
            case refine_2 => intro w hSw; go_simp; try with_reducible rfl
            try simp only [List.getElem_toArray, List.getElem_cons_succ, List.getElem_cons_zero, Act.put, List.setIfInBounds_toArray, List.set_cons_zero, List.set_cons_succ]
            refine wpAnyH_take (i := 7) (v := ?_) rfl (by kernel_rfl) (by kernel_rfl) (by kernel_rfl) (fun _ _ _ h => h) (Or.inl ⟨by rfl, ?_⟩) hH ?_
            case refine_2 => intro w hSw; obtain ⟨s0, s1⟩ := hSw; go_simp; try with_reducible rfl
            try simp only [List.getElem_toArray, List.getElem_cons_succ, List.getElem_cons_zero, Act.put, List.setIfInBounds_toArray, List.set_cons_zero, List.set_cons_succ]
            refine wpAnyH_take (i := 8) (v := ?_) rfl (by kernel_rfl) (by kernel_rfl) (by kernel_rfl) (fun _ _ _ h => h) (Or.inl ⟨by rfl, ?_⟩) hH ?_
            case refine_2 => intro w hSw; go_simp; try with_reducible rfl
            try simp only [List.getElem_toArray, List.getElem_cons_succ, List.getElem_cons_zero, Act.put, List.setIfInBounds_toArray, List.set_cons_zero, List.set_cons_succ]
            refine wpAnyH_ready (rs := [4]) (by kernel_rfl) (by simp) ?_
            refine AllReadyH.cons rfl (fun K hK => ?_) AllReadyH.nil
            go_simp
            refine (rputu_any (toU f.count) (toU_u64 _) V2).mono ?_
            rintro en v9 ⟨B3, c3, rfl, oB3, b9⟩
            have kF9 := kFd.below b9 kFd.lt
            have bx9 := bxd.trans (b9.mono bxd.size)
            have o9 := OwnB.below o8d b9
            have hB3 := OwnB.bs oB3 (by omega)
            refine hK.out _ _ ⟨kF9.cell 4, kF9.cell 5⟩ (fun hH => ?_)
            clear hK K kFd bxd b9 oB3 o8d
            try dsimp only
            try simp only [List.getElem_toArray, List.getElem_cons_succ, List.getElem_cons_zero, Act.put, List.setIfInBounds_toArray, List.set_cons_zero, List.set_cons_succ]
            refine wpAnyH_ready (rs := [5]) (by kernel_rfl) (by simp) ?_
            refine AllReadyH.cons rfl (fun K hK => ?_) AllReadyH.nil
            refine step_app v1.heap.size v1 v9 rfl (.tmp 56) (.tmp 60) rfl Y8 acc8 y8 rfl o9 B3 (putU (toU f.count)) c3 rfl hB3 (by omega) bx9 (Nat.le_refl _) bx9.size ?_
            intro YA yA accA vA HA oA bA gA tA
            have kFA := kF.below bA lF
            refine hK.out _ _ ⟨kFA.cell 4, kFA.cell 5⟩ (fun hH => ?_)
            clear hK K kF9 bx9 o9 hB3 gA tA
            try dsimp only
            try simp only [List.getElem_toArray, List.getElem_cons_succ, List.getElem_cons_zero, Act.put, List.setIfInBounds_toArray, List.set_cons_zero, List.set_cons_succ]
            refine wpAnyH_ready (rs := [9]) (by kernel_rfl) (by simp) ?_
            refine AllReadyH.cons rfl (fun K hK => ?_) AllReadyH.nil
            go_simp
            refine (rputu_any (toU f.size) (toU_u64 _) vA).mono ?_
            rintro en vB ⟨B4, c4, rfl, oB4, bB⟩
            have kFB := kFA.below bB kFA.lt
            have bxB := bA.trans (bB.mono bA.size)
            have oB_ := OwnB.below oA bB
            have hB4 := OwnB.bs oB4 (by omega)
            have hlA : accA.length ≤ 30 := by rw [HA.out, List.length_append]; omega
            refine hK.out _ _ ⟨kFB.cell 4, kFB.cell 5⟩ (fun hH => ?_)
            clear hK K kFA bA bB oA oB4
            try dsimp only
            try simp only [List.getElem_toArray, List.getElem_cons_succ, List.getElem_cons_zero, Act.put, List.setIfInBounds_toArray, List.set_cons_zero, List.set_cons_succ]
            refine wpAnyH_ready (rs := [10]) (by kernel_rfl) (by simp) ?_
            refine AllReadyH.cons rfl (fun K hK => ?_) AllReadyH.nil
            refine step_app v1.heap.size v1 vB rfl (.tmp 61) (.tmp 65) rfl YA accA yA rfl oB_ B4 (putU (toU f.size)) c4 rfl hB4 (by omega) bxB (Nat.le_refl _) bxB.size ?_
            intro YC yC accC vC HC oC bC gC tC
            have kFC := kF.below bC lF
            refine hK.out _ _ ⟨kFC.cell 4, kFC.cell 5⟩ (fun hH => ?_)
            clear hK K kFB bxB oB_ hB4 gC tC
            try dsimp only
            try simp only [List.getElem_toArray, List.getElem_cons_succ, List.getElem_cons_zero, Act.put, List.setIfInBounds_toArray, List.set_cons_zero, List.set_cons_succ]
            refine wpAnyH_take (i := 11) (v := ?_) rfl (by kernel_rfl) (by kernel_rfl) (by kernel_rfl) (fun _ _ _ h => h) (Or.inl ⟨by rfl, ?_⟩) hH ?_
            case refine_2 => intro w hSw; go_simp; try with_reducible rfl
            try simp only [List.getElem_toArray, List.getElem_cons_succ, List.getElem_cons_zero, Act.put, List.setIfInBounds_toArray, List.set_cons_zero, List.set_cons_succ]
            refine wpAnyH_done (by kernel_rfl) ?_ _
            refine NoPanic.normal ?_
            clear hH
            have hlC : accC.length ≤ 40 := by rw [HC.out, List.length_append]; omega
            have HQ : Hid (accC = putU f.num ++ (putU (toU f.level) ++ (putU (toU f.count) ++ putU (toU f.size)))) := by show _ = _; rw [HC.out, HA.out, H8.out]; simp only [List.append_assoc]
            clear HC HA H8 hlA hl8 hw1 hw2 hw3 hl1 hl2 hl3 hl4
            go_upto_region 16 with fail
            refine wp_region_noPanic ?_
            have kFd := kFC.drew
            have bxd := bC.drew
            have oCd := OwnB.below oC ((Below.refl vC.heap.size vC).drew)
            have hQ1d := hQ1.below bxd
            have hQ2d := hQ2.below bxd
            refine wp_region_held_drew (S := fun W => W.cell? ⟨wo.heap.size, 2, none⟩ = some (.slice P1 f.first.length p1) ∧ W.cell? ⟨wo.heap.size, 3, none⟩ = some (.slice P2 f.last.length p2)) (by kernel_rfl) ⟨kFC.cell 2, kFC.cell 3⟩ (fun hH => ?_)
            clear kFC bC oC
            generalize vC.drew = V3 at *
            refine wpAnyH_take (i := 0) (v := ?_) rfl (by kernel_rfl) (by kernel_rfl) (by kernel_rfl) (fun _ _ _ h => h) (Or.inl ⟨by rfl, ?_⟩) hH ?_
            case refine_2 => intro w hSw; go_simp; try with_reducible rfl
            try simp only [List.getElem_toArray, List.getElem_cons_zero, Act.put, List.setIfInBounds_toArray, List.set_cons_zero, List.set_cons_succ]
            refine wpAnyH_take (i := 1) (v := ?_) rfl (by kernel_rfl) (by kernel_rfl) (by kernel_rfl) (fun _ _ _ h => h) (Or.inl ⟨by rfl, ?_⟩) hH ?_
            case refine_2 => intro w hSw; go_simp; try with_reducible rfl
            try simp only [List.getElem_toArray, List.getElem_cons_succ, List.getElem_cons_zero, Act.put, List.setIfInBounds_toArray, List.set_cons_zero, List.set_cons_succ]
            refine wpAnyH_take (i := 2) (v := ?_) rfl (by kernel_rfl) (by kernel_rfl) (by kernel_rfl) (fun _ _ _ h => h) (Or.inl ⟨by rfl, ?_⟩) hH ?_
            case refine_2 => intro w hSw; go_simp; try with_reducible rfl
            try simp only [List.getElem_toArray, List.getElem_cons_succ, List.getElem_cons_zero, Act.put, List.setIfInBounds_toArray, List.set_cons_zero, List.set_cons_succ]
            refine wpAnyH_take (i := 3) (v := ?_) rfl (by kernel_rfl) (by kernel_rfl) (by kernel_rfl) (fun _ _ _ h => h) (Or.inl ⟨by rfl, ?_⟩) hH ?_
            case refine_2 => intro w hSw; obtain ⟨s0, s1⟩ := hSw; go_simp; try with_reducible rfl
            try simp only [List.getElem_toArray, List.getElem_cons_succ, List.getElem_cons_zero, Act.put, List.setIfInBounds_toArray, List.set_cons_zero, List.set_cons_succ]
            refine wpAnyH_take (i := 6) (v := ?_) rfl (by kernel_rfl) (by kernel_rfl) (by kernel_rfl) (fun _ _ _ h => h) (Or.inl ⟨by rfl, ?_⟩) hH ?_
            case refine_2 => intro w hSw; go_simp; try with_reducible rfl
            try simp only [List.getElem_toArray, List.getElem_cons_succ, List.getElem_cons_zero, Act.put, List.setIfInBounds_toArray, List.set_cons_zero, List.set_cons_succ]
            refine wpAnyH_take (i := 7) (v := ?_) rfl (by kernel_rfl) (by kernel_rfl) (by kernel_rfl) (fun _ _ _ h => h) (Or.inl ⟨by rfl, ?_⟩) hH ?_
            case refine_2 => intro w hSw; obtain ⟨s0, s1⟩ := hSw; go_simp; try with_reducible rfl
            try simp only [List.getElem_toArray, List.getElem_cons_succ, List.getElem_cons_zero, Act.put, List.setIfInBounds_toArray, List.set_cons_zero, List.set_cons_succ]
            refine wpAnyH_ready (rs := [4]) (by kernel_rfl) (by simp) ?_
            refine AllReadyH.cons rfl (fun K hK => ?_) AllReadyH.nil
            go_simp
            refine (rordtext_any P1 f.first p1 V3 hQ1d (by omega)).mono ?_
            rintro en vD ⟨B5, c5, rfl, oB5, bD⟩
            have kFD := kFd.below bD kFd.lt
            have bxD := bxd.trans (bD.mono bxd.size)
            have oD := OwnB.below oCd bD
            have hB5 := OwnB.bs oB5 (by omega)
            clear hQ1d hQ2d
            refine hK.out _ _ ⟨kFD.cell 2, kFD.cell 3⟩ (fun hH => ?_)
            clear hK K kFd bxd bD oB5 oCd
            try dsimp only
            try simp only [List.getElem_toArray, List.getElem_cons_succ, List.getElem_cons_zero, Act.put, List.setIfInBounds_toArray, List.set_cons_zero, List.set_cons_succ]
            refine wpAnyH_ready (rs := [5]) (by kernel_rfl) (by simp) ?_
            refine AllReadyH.cons rfl (fun K hK => ?_) AllReadyH.nil
            refine step_app v1.heap.size v1 vD rfl (.tmp 68) (.tmp 71) rfl YC accC yC rfl oD B5 (ordT f.first) c5 rfl hB5 (by omega) bxD (Nat.le_refl _) bxD.size ?_
            intro YE yE accE vE HE oE bE gE tE
            have kFE := kF.below bE lF
            have hQ2E := hQ2.below bE
            refine hK.out _ _ ⟨kFE.cell 2, kFE.cell 3⟩ (fun hH => ?_)
            clear hK K kFD bxD oD hB5 gE tE
            try dsimp only
            try simp only [List.getElem_toArray, List.getElem_cons_succ, List.getElem_cons_zero, Act.put, List.setIfInBounds_toArray, List.set_cons_zero, List.set_cons_succ]
            refine wpAnyH_ready (rs := [8]) (by kernel_rfl) (by simp) ?_
            refine AllReadyH.cons rfl (fun K hK => ?_) AllReadyH.nil
            go_simp
            refine (rordtext_any P2 f.last p2 vE hQ2E (by omega)).mono ?_
            rintro en vF ⟨B6, c6, rfl, oB6, bF⟩
            have kFF := kFE.below bF kFE.lt
            have bxF := bE.trans (bF.mono bE.size)
            have oF := OwnB.below oE bF
            have hB6 := OwnB.bs oB6 (by omega)
            have hlE : accE.length + (ordT f.last).length ≤ 140737488355328 := by rw [HE.out, List.length_append]; omega
            clear hQ2E
            refine hK.out _ _ ⟨kFF.cell 2, kFF.cell 3⟩ (fun hH => ?_)
            clear hK K kFE bE bF oE oB6
            try dsimp only
            try simp only [List.getElem_toArray, List.getElem_cons_succ, List.getElem_cons_zero, Act.put, List.setIfInBounds_toArray, List.set_cons_zero, List.set_cons_succ]
            refine wpAnyH_ready (rs := [9]) (by kernel_rfl) (by simp) ?_
            refine AllReadyH.cons rfl (fun K hK => ?_) AllReadyH.nil
            refine step_app v1.heap.size v1 vF rfl (.tmp 72) (.tmp 75) rfl YE accE yE rfl oF B6 (ordT f.last) c6 rfl hB6 hlE bxF (Nat.le_refl _) bxF.size ?_
            intro Y9 y9 acc9 v9 H9 o9 b9 g9 t9
            have kF9 := kF.below b9 lF
            refine hK.out _ _ ⟨kF9.cell 2, kF9.cell 3⟩ (fun hH => ?_)
            clear hK K kFF bxF oF hB6 g9 t9 hlE
            try dsimp only
            try simp only [List.getElem_toArray, List.getElem_cons_succ, List.getElem_cons_zero, Act.put, List.setIfInBounds_toArray, List.set_cons_zero, List.set_cons_succ]
            have HF : Hid (acc9 = fileL f) := by show _ = _; rw [H9.out, HE.out, HQ.out]; unfold fileL; simp only [List.append_assoc]
            have hfl := fileL_len hwf
            rw [← HF.out] at hfl HST
            clear H9 HE HQ
            have bo9 := dz.trans (b9.mono dz.size)
            have dy : Below v9.heap.size v9 (v9.alloc (.cells #[.slice Y9 acc9.length y9] 49)) := (Below.refl _ _).alloc (Nat.le_refl _) _
            have hrd := Reads.new1 v9 (.slice Y9 acc9.length y9) 49
            have hbo : wo.heap.size ≤ v9.heap.size := bo9.size
            have oP9 := Own.below (Own.below oP bo9) dy
            have kE9 := (kE.below bo9 lE).below dy (Nat.lt_of_lt_of_le lE hbo)
            have kFy := kF9.below dy kF9.lt
            have b09 := (br.trans (bo9.mono zr)).trans (dy.mono (Nat.le_trans zr hbo))
            have HPL := Lib.hid (Own.lt oP)
            have hrep : BsE.rep (v9.alloc (.cells #[.slice Y9 acc9.length y9] 49)) (fun b => w.heap.size ≤ b ∧ (Value.slice Q P.length q).ownBlock ≠ some b) [.slice Y9 acc9.length y9] acc9 := ⟨Y9, y9, rfl, OwnB.bytesB o9 (by omega) dy (fun g h1 h2 => ⟨by omega, fun e => by have := (HPL.out g e).2; omega⟩)⟩
            have hL1 : (P.length + 1) * BsE.bytes ≤ 140737488355328 := by simp only [BsE]; omega
            have hL2 : P.length + 1 ≤ maxLen := by simp only [maxLen]; omega
            have hW9 : w.heap.size + 1 ≤ (v9.alloc (.cells #[.slice Y9 acc9.length y9] 49)).heap.size := by simp; omega
            refine wpAnyH_ready (rs := [10]) (by kernel_rfl) (by simp) ?_
            refine AllReadyH.cons rfl (fun K hK => ?_) AllReadyH.nil
            go_simp
            refine hK.out _ _ ⟨kFy.cell 2, kFy.cell 3⟩ (fun hH => ?_)
            clear hK K kF9 o9
            try dsimp only
            try simp only [List.getElem_toArray, List.getElem_cons_succ, List.getElem_cons_zero, Act.put, List.setIfInBounds_toArray, List.set_cons_zero, List.set_cons_succ]
            generalize (v9.alloc (.cells #[.slice Y9 acc9.length y9] 49)) = v10 at *
            refine wpAnyH_ready (rs := [11]) (by kernel_rfl) (by simp) ?_
            refine AllReadyH.cons rfl (fun K hK => ?_) AllReadyH.nil
            refine step_appE BsE (w.heap.size + 1) v10 rfl (.tmp 67) (.tmp 77) 49 67 rfl i1 _ Try.underlying67 hi1 hy0 hy1 hy2 rfl (fun b => w.heap.size ≤ b) Q P q (congrArg (fun m => Value.slice Q m q) hpl.symm) oP9 _ [.slice Y9 acc9.length y9] acc9 1 rfl _ hrd hrep hL1 hL2 hW9 ?_
            intro Q9 q9 P9 w9 H9 o9_ g9_ t9_
            have kEz := kE9.grown g9_ (fun e => by have := (HPL.out _ e.symm).1; omega)
            have kFz := kFy.grown g9_ (fun e => by have := (HPL.out _ e.symm).2; omega)
            have bz := b09.grown g9_ b09.size (fun j e => by have := (HPL.out _ e).1; omega)
            refine hK.out _ _ ⟨kFz.cell 2, kFz.cell 3⟩ (fun hH => ?_)
            clear hK K kFy kE9 b09 oP9 hrep hrd g9_ t9_
            try dsimp only
            try simp only [List.getElem_toArray, List.getElem_cons_succ, List.getElem_cons_zero, Act.put, List.setIfInBounds_toArray, List.set_cons_zero, List.set_cons_succ]
            refine wpAnyH_take (i := 12) (v := ?_) rfl (by kernel_rfl) (by kernel_rfl) (by kernel_rfl) (fun _ _ _ h => h) (Or.inl ⟨by rfl, ?_⟩) hH ?_
            case refine_2 => intro w hSw; go_simp; try with_reducible rfl
            try simp only [List.getElem_toArray, List.getElem_cons_succ, List.getElem_cons_zero, Act.put, List.setIfInBounds_toArray, List.set_cons_zero, List.set_cons_succ]
            refine wpAnyH_done (by kernel_rfl) ?_ _
            refine NoPanic.normal ?_
            have hp9 : P9.length = n + 1 + 2 := by rw [H9.out, List.length_append, hpl]; rfl
            have HP9 : Hid (P9 = partsL_ e (n + 1)) := by show _ = _; rw [HST.out, H9.out]
            clear hH kFz
            rw [hp9] at o9_
            go_wp2_with fail
            go_roundw
            case rel => exact ⟨n + 1, P9, Q9, q9, by omega, by simp, by rw [hp9], HP9.out, o9_, kEz, bz⟩
            case measure => simp [intOf]; omega
          · have hlt' : ¬ (n : Int) < (e.add.length : Int) := by omega
            obtain rfl : n = e.add.length := by omega
            have hsl := Own.sl oP (by simp only [BsE]; omega)
            have T := rframe_any P Q q wr hsl (by rw [HPP.out]; exact HPS.out _) (by omega)
            rw [HPP.out, partsL_end, partsL_len e (Nat.le_refl _)] at T
            clear HPP HPS
            go_wp2_with fail
            refine T.mono ?_
            clear T
            rintro en w9 ⟨R, r, rfl, oR, b9⟩
            go_wp2_with fail
            go_ret
            exact ⟨R, r, rfl, OwnB.base oR zr, br.trans (b9.mono zr)⟩
end Go.Proofs.Ytmgibpedclngpaa
