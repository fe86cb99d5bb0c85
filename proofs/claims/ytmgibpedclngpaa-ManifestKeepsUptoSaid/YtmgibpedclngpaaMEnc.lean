/- An edit as bytes: manifest.Encode. (Printed by wip/gen_menc.py.) -/
import Derived.Test.YtmgibpedclngpaaMEncP
import Derived.Test.YtmgibpedclngpaaHeldK
import Derived.Test.YtmgibpedclngpaaMDec
namespace Go.Proofs.Ytmgibpedclngpaa
open Go.RowKit

set_option maxRecDepth 100000 in
set_option maxHeartbeats 8000000 in
theorem mencode_any (e : LEdit) (A D : Option Addr) (a d : Nat) (w : World) (hA : Sl FE w A e.add) (hD : Sl NE w D e.drop) (hs : U64 e.seq) (hsm : e.sm) : Calls Try.prog 16 #[.agg #[.bool e.reset, .slice A e.add.length a, .slice D e.drop.length d, .int .u64 (e.seq : Int)]] w (RetBs (editL e) w) := by
  have hdu : ∀ n ∈ e.drop, U64 n := fun n hn => by obtain ⟨j, hj, rfl⟩ := List.getElem_of_mem hn; obtain ⟨_, _, _, _, h⟩ := NE.at_ hD hj; exact h
  have hfw : ∀ f ∈ e.add, f.wf := fun f hf => by obtain ⟨j, hj, rfl⟩ := List.getElem_of_mem hf; obtain ⟨_, _, _, _, _, _, _, _, _, _, _, _, _, _, _, h⟩ := FE.at_ hA hj; exact h
  have HPS := Lib.hid (partsL_sm hsm hs hdu hfw)
  have HFS := Lib.hid hsm.adds
  have hna := hsm.nadd
  have hnd := hsm.ndrop
  have hdl := dropL_len hdu
  have HDU := Lib.hid hdu
  have HFW := Lib.hid hfw
  obtain ⟨i1, hi1, hy0, hy1, hy2⟩ := info_parts Try.infoBs
  clear hsm hdu hfw
  have b1 : Below w.heap.size w ((w.alloc (.cells #[.bool e.reset, .slice A e.add.length a, .slice D e.drop.length d, .int .u64 (e.seq : Int)] 42)).alloc (.cells #[.int .u8 0] 5)) := ((Below.refl _ _).alloc (Nat.le_refl _) _).alloc (by simp) _
  have k1 : Blk ((w.alloc (.cells #[.bool e.reset, .slice A e.add.length a, .slice D e.drop.length d, .int .u64 (e.seq : Int)] 42)).alloc (.cells #[.int .u8 0] 5)) w.heap.size 42 #[.bool e.reset, .slice A e.add.length a, .slice D e.drop.length d, .int .u64 (e.seq : Int)] := (Blk.new w _ _).alloc _
  have h1 : Blk ((w.alloc (.cells #[.bool e.reset, .slice A e.add.length a, .slice D e.drop.length d, .int .u64 (e.seq : Int)] 42)).alloc (.cells #[.int .u8 0] 5)) (w.heap.size + 1) 5 #[.int .u8 0] := heap_alloc2_new w _ _
  go_enter Try.func16, Try.ntmps16
  go_upto_region 2 with fail
  generalize ((w.alloc (.cells #[.bool e.reset, .slice A e.add.length a, .slice D e.drop.length d, .int .u64 (e.seq : Int)] 42)).alloc (.cells #[.int .u8 0] 5)) = w1 at *
  have x0 : w1.cell? ⟨w.heap.size, 0, none⟩ = some (.bool e.reset) := k1.cell 0
  go_upto_if 15 with fail
  clear x0
  generalize Value.agg #[.bool e.reset, .slice A e.add.length a, .slice D e.drop.length d, .int .u64 (e.seq : Int)] = av
  go_cut [3] (fun s wx => ∃ H hc, s = .slice H 1 hc ∧ OwnB (w.heap.size + 1) wx H [if e.reset then (1 : UInt8) else 0] hc ∧ Blk wx w.heap.size 42 #[.bool e.reset, .slice A e.add.length a, .slice D e.drop.length d, .int .u64 (e.seq : Int)] ∧ Below w.heap.size w wx)
  case first =>
    cases hr : e.reset with
    | false =>
      rw [hr] at k1
      go_wp2_with fail
      go_meet
      case rel => rw [hr]; exact ⟨_, 1, rfl, head_own (x := 0) h1 (Nat.le_refl _), k1, b1⟩
    | true =>
      rw [hr] at k1
      have x1 : w1.cell? ⟨w.heap.size + 1, 0, none⟩ = some (.int .u8 0) := h1.cell 0
      have f1 : w1.frozen? ⟨w.heap.size + 1, 0, none⟩ = false := h1.frozen 0
      have h2 := h1.set_ 0 (.int .u8 1)
      have k2 := k1.far (p := ⟨w.heap.size + 1, 0, none⟩) (by show w.heap.size ≠ w.heap.size + 1; omega) (.int .u8 1)
      have g2 : w1.grownBy (w1.setCell ⟨w.heap.size + 1, 0, none⟩ (.int .u8 1)) (some (w.heap.size + 1)) := only_setCell (World.grownBy.refl w1 _) (p := ⟨w.heap.size + 1, 0, none⟩) (.inl rfl) _
      have b2 := b1.grown g2 b1.size (fun j e => by have := Option.some.inj e; omega)
      clear g2
      go_wp2_with fail
      go_meet
      case rel => rw [hr]; exact ⟨_, 1, rfl, head_own (x := 1) h2 (Nat.le_refl _), k2, b2⟩
  case rest =>
    clear h1 k1 b1
    obtain ⟨H, hc, rfl, oH, kE, b2⟩ := hcut
    have HHL : Hid (headL e = [if e.reset then (1 : UInt8) else 0] ++ putU e.seq) := rfl
    generalize (if e.reset then (1 : UInt8) else 0) = hx at *
    have zE := kE.lt
    have z2 := b2.size
    generalize wc = w2 at *
    have x2 : w2.cell? ⟨w.heap.size, 2, none⟩ = some (.slice D e.drop.length d) := kE.cell 2
    go_wp2_with fail
    clear x2
    go_loopw [4, 6, 21] (fun v _ i wr => ∃ (j : Nat) (acc : List UInt8) (Z : Option Addr) (z : Nat), j ≤ e.drop.length ∧ i = .int .i64 (j : Int) ∧ v = .slice Z acc.length z ∧ acc = dropL (e.drop.take j) ∧ acc.length ≤ 10 * j ∧ OwnB w2.heap.size wr Z acc z ∧ Below w2.heap.size w2 wr) (fun _ _ i _ => e.drop.length - (intOf i).toNat)
    case atStart => exact ⟨0, [], none, 0, Nat.zero_le _, rfl, rfl, rfl, Nat.le_refl _, OwnB.nil_ _ _, Below.refl _ _⟩
    case round =>
      obtain ⟨j, acc, Z, z, hj, rfl, rfl, hacc, hal, oZ, br⟩ := hrel
      have HACC := Lib.hid hacc
      clear hacc
      by_cases hlt : j < e.drop.length
      · have hlt' : (j : Int) < (e.drop.length : Int) := by omega
        obtain ⟨ad, hadD, hab, x0, hu⟩ := NE.at_ (hD.below (b2.trans (br.mono z2))) hlt
        have HST : Hid (dropL (e.drop.take (j + 1)) = acc ++ putU e.drop[j]) := by show _ = _; rw [dropL_snoc hlt, HACC.out]
        have T := putu_any e.drop[j] hu wr
        have hl1 := putU_len10 hu
        generalize e.drop[j] = nn at *
        obtain ⟨D', hDD⟩ : ∃ D', D' = D := ⟨_, rfl⟩
        subst hadD
        clear hDD D'
        go_wp2_with fail
        refine T.mono ?_
        clear T x0
        rintro en w3 ⟨B, bd, rfl, oB, b3⟩
        have o3 := OwnB.below oZ b3
        have hB := OwnB.bs oB (by omega)
        have br3 := br.trans (b3.mono br.size)
        clear oZ oB br
        go_wp2_with (at_builtin; refine wpList_app w2.heap.size w2 _ rfl (.tmp 25) (.tmp 27) rfl Z acc z rfl o3 B (putU nn) bd rfl hB (by omega) br3 (Nat.le_refl _) br3.size ?_; intro Z4 z4 acc4 w4 H4 o4 b4 g4 t4)
        have HA4 : Hid (acc4 = dropL (e.drop.take (j + 1))) := by show _ = _; rw [HST.out, H4.out]
        have hal4 : acc4.length ≤ 10 * (j + 1) := by rw [H4.out, List.length_append]; omega
        go_roundw
        case rel => exact ⟨j + 1, acc4, Z4, z4, by omega, by simp, rfl, HA4.out, hal4, o4, b4⟩
        case measure => simp [intOf]; omega
      · have hlt' : ¬ (j : Int) < (e.drop.length : Int) := by omega
        obtain rfl : j = e.drop.length := by omega
        have HDL : Hid (acc = dropL e.drop) := by show _ = _; rw [HACC.out, List.take_length]
        clear hlt hj HACC
        generalize wr = w3 at *
        have kE3 := kE.below br zE
        have oH3 := OwnB.below oH br
        have b3 := b2.trans (br.mono z2)
        have z3 := br.size
        have x3 : w3.cell? ⟨w.heap.size, 3, none⟩ = some (.int .u64 (e.seq : Int)) := kE3.cell 3
        have T := putu_any e.seq hs w3
        have hl1 := putU_len10 hs
        have HHB := Lib.hid (fun b (hb : (Value.slice H [hx].length hc).ownBlock = some b) => (OwnB.lt oH b hb).2)
        clear oH kE
        go_wp2_with fail
        refine T.mono ?_
        clear T x3
        rintro en w4 ⟨B, bd, rfl, oB, b4⟩
        have hB := OwnB.bs oB (by omega)
        have oH4 := OwnB.below oH3 b4
        have oZ4 := OwnB.below oZ b4
        have kE4 := kE3.below b4 kE3.lt
        have b04 := b3.trans (b4.mono b3.size)
        have z4 := b4.size
        clear oH3 oZ kE3 b3 b4 oB
        go_upto_region 11 with (at_builtin; refine wpList_app (w.heap.size + 1) w _ rfl (.tmp 30) (.tmp 33) rfl H [hx] hc rfl oH4 B (putU e.seq) bd rfl hB (by simp only [List.length_cons, List.length_nil]; omega) b04 (by omega) (by omega) ?_; intro H5 h5 hd5 w5 HH5 oH5 b5 g5 t5)
        have oZ5 : OwnB w2.heap.size w5 Z acc z := OwnB.kept oZ4 g5 (fun g hg e => by have h1 := (OwnB.lt oZ4 g hg).1; have h2 := HHB.out g e; omega)
        have kE5 := kE4.grown g5 (fun e => by have := (OwnB.lt oH4 _ e.symm).1; omega)
        have z5 := b5.size
        have z45 := g5.size
        have HHD : Hid (hd5 = headL e) := by show _ = _; rw [HH5.out]; exact HHL.out.symm
        have hhl : hd5.length ≤ 11 := by rw [HHD.out]; exact headL_len hs
        have dz : Below w5.heap.size w5 (w5.alloc (.cells #[.slice H5 hd5.length h5, .slice Z acc.length z] 49)) := (Below.refl _ _).alloc (Nat.le_refl _) _
        have hzl : acc.length ≤ 1000000 := by omega
        have oP : Own BsE 49 (w5.alloc (.cells #[.slice H5 hd5.length h5, .slice Z acc.length z] 49)) (w.heap.size + 1) (fun b => w.heap.size ≤ b) (.slice (some ⟨w5.heap.size, 0, none⟩) [hd5, acc].length 2) [hd5, acc] := BsE.lit (vs := [.slice H5 hd5.length h5, .slice Z acc.length z]) (by omega) rfl (BsE.two (OwnB.bytesB oH5 (by omega) dz (fun g h1 h2 => ⟨by omega, h2⟩)) (OwnB.bytesB oZ5 (by omega) dz (fun g h1 h2 => ⟨by omega, h2⟩))) (by decide)
        have kE6 := kE5.below dz (by omega)
        have b06 := b5.trans (dz.mono (by omega))
        have z6 := dz.size
        have HPP : Hid ([hd5, acc] = partsL_ e 0) := by show _ = _; unfold partsL_; rw [List.take_zero, HHD.out, HDL.out]; rfl
        clear oZ4 oZ5 kE4 kE5 b5 g5 t5 dz HH5 HHD HHL HDL oH4 oH5 HHB b04 hB b2 z2 zE
        have lE6 := kE6.lt
        have x6 := kE6.cell 1
        replace x6 : (w5.alloc (.cells #[.slice H5 hd5.length h5, .slice Z acc.length z] 49)).cell? ⟨w.heap.size, 1, none⟩ = some (.slice A e.add.length a) := x6
        generalize (w5.alloc (.cells #[.slice H5 hd5.length h5, .slice Z acc.length z] 49)) = w6 at *
        generalize [hd5, acc] = P0 at *
        have hP0 : P0.length = 2 := by rw [HPP.out]; exact partsL_len e (Nat.zero_le _)
        generalize (some (⟨w5.heap.size, 0, none⟩ : Addr)) = PA at *
        go_wp2_with fail
        clear x6
        go_loopw [7, 9, 10, 12, 40] (fun v _ _ _ i wr => ∃ (n : Nat) (P : List (List UInt8)) (Q : Option Addr) (q : Nat), n ≤ e.add.length ∧ i = .int .i64 (n : Int) ∧ v = .slice Q (n + 2) q ∧ P = partsL_ e n ∧ Own BsE 49 wr (w.heap.size + 1) (fun b => w.heap.size ≤ b) (.slice Q (n + 2) q) P ∧ Below w.heap.size w wr) (fun _ _ _ _ i _ => e.add.length - (intOf i).toNat)
        case atStart => exact ⟨0, P0, PA, 2, Nat.zero_le _, rfl, rfl, HPP.out, by rw [hP0] at oP; exact oP, b06⟩
        case round =>
          clear oP b06 HPP hP0
          obtain ⟨n, P, Q, q, hn, rfl, rfl, hP, oP, br⟩ := hrel
          have hpl : P.length = n + 2 := by rw [hP]; exact partsL_len e hn
          have HPP := Lib.hid hP
          clear hP
          rw [← hpl] at oP
          have zr := br.size
          by_cases hlt : n < e.add.length
          · have hlt' : (n : Int) < (e.add.length : Int) := by omega
            obtain ⟨ad, P1, p1, P2, p2, hadA, hab, y0, y1, y2, y3, y4, y5, hf1, hf2, hwf⟩ := FE.at_ (hA.below br) hlt
            subst hadA
            have HST : Hid (partsL_ e (n + 1) = P ++ [fileL e.add[n]]) := by show _ = _; rw [partsL_snoc hlt, HPP.out]
            obtain ⟨hs1, hs2⟩ := HFS.out e.add[n] (List.getElem_mem _)
            obtain ⟨hu1, _, _, _⟩ := id hwf
            generalize e.add[n] = f at *
            have dz : Below wr.heap.size wr (wr.alloc (.cells #[.slice P1 f.first.length p1, .slice P2 f.last.length p2, .int .i64 f.count, .int .i64 f.size, .int .u64 (f.num : Int), .int .i64 f.level] 66)) := (Below.refl _ _).alloc (Nat.le_refl _) _
            have kF := Blk.new wr 66 #[.slice P1 f.first.length p1, .slice P2 f.last.length p2, .int .i64 f.count, .int .i64 f.size, .int .u64 (f.num : Int), .int .i64 f.level]
            have hQ1 := hf1.1.below dz
            have hQ2 := hf2.1.below dz
            go_upto_region 14 with fail
            clear y0 y1 y2 y3 y4 y5 hf1 hf2
            generalize (wr.alloc (.cells #[.slice P1 f.first.length p1, .slice P2 f.last.length p2, .int .i64 f.count, .int .i64 f.size, .int .u64 (f.num : Int), .int .i64 f.level] 66)) = v1 at *
            have lF := kF.lt
            have x4 : v1.cell? ⟨wr.heap.size, 4, none⟩ = some (.int .u64 (f.num : Int)) := kF.cell 4
            have T := putu_any f.num hu1 v1
            have hl1 := putU_len10 hu1
            go_wp2_with fail
            refine T.mono ?_
            clear T x4
            rintro en v2 ⟨G1, g1_, rfl, oG, b2⟩
            have kF2 := kF.below b2 kF.lt
            have x5 : v2.cell? ⟨wr.heap.size, 5, none⟩ = some (.int .i64 f.level) := kF2.cell 5
            have x2 : v2.cell? ⟨wr.heap.size, 2, none⟩ = some (.int .i64 f.count) := kF2.cell 2
            have x3 : v2.cell? ⟨wr.heap.size, 3, none⟩ = some (.int .i64 f.size) := kF2.cell 3
            have z12 := b2.size
            go_wp2_with fail
            clear x5 x2 x3
            have dz2 : Below v2.heap.size v2 (v2.alloc (.cells #[.int .i64 f.level, .int .i64 f.count, .int .i64 f.size] 3)) := (Below.refl _ _).alloc (Nat.le_refl _) _
            have kN : Blk (v2.alloc (.cells #[.int .i64 f.level, .int .i64 f.count, .int .i64 f.size] 3)) v2.heap.size 3 ([f.level, f.count, f.size].map (fun x => Value.int .i64 x)).toArray := Blk.new v2 3 _
            have oG3 := OwnB.below oG dz2
            have b13 := b2.trans (dz2.mono z12)
            have zN := kN.lt
            have hGN : ∀ b, (Value.slice G1 (putU f.num).length g1_).ownBlock = some b → b ≠ v2.heap.size := fun b hb => by have := (OwnB.lt oG b hb).2; omega
            clear oG dz2 kF2 b2
            generalize (v2.alloc (.cells #[.int .i64 f.level, .int .i64 f.count, .int .i64 f.size] 3)) = v3 at *
            obtain ⟨nb, hnb⟩ : ∃ nb : Addr, nb = ⟨v2.heap.size, 0, none⟩ := ⟨_, rfl⟩
            rw [← hnb]
            have HNB := Lib.hid hnb
            clear hnb
            obtain ⟨ns, hns⟩ : ∃ ns : List Int, ns = [f.level, f.count, f.size] := ⟨_, rfl⟩
            have hnl : ns.length = 3 := by rw [hns]; rfl
            rw [← hns] at kN
            have HNS := Lib.hid hns
            clear hns
            generalize wr = wo at *
            go_loopw [10, 12, 57] (fun v _ i wx => ∃ (j : Nat) (acc : List UInt8) (Y : Option Addr) (y : Nat), j ≤ 3 ∧ i = .int .i64 (j : Int) ∧ v = .slice Y acc.length y ∧ acc = putU f.num ++ (ns.take j).flatMap (fun x => putU (toU x)) ∧ acc.length ≤ 10 * (j + 1) ∧ OwnB v1.heap.size wx Y acc y ∧ (∀ b, (Value.slice Y acc.length y).ownBlock = some b → b ≠ v2.heap.size) ∧ Blk wx v2.heap.size 3 (ns.map (fun x => Value.int .i64 x)).toArray ∧ Below v1.heap.size v1 wx ∧ v3.heap.size ≤ wx.heap.size) (fun _ _ i _ => 3 - (intOf i).toNat)
            case atStart => exact ⟨0, _, G1, g1_, Nat.zero_le _, rfl, rfl, by simp, by omega, oG3, hGN, kN, b13, Nat.le_refl _⟩
            case round =>
              clear oG3 hGN kN b13
              obtain ⟨j, acc, Y, y, hj, rfl, rfl, hacc, hal, oY, hYN, kN, bx, z3x⟩ := hrel
              have HACC := Lib.hid hacc
              clear hacc
              have HYN := Lib.hid hYN
              clear hYN
              by_cases hlt : j < 3
              · have hlt' : (j : Int) < 3 := by omega
                have hjn : j < ns.length := by omega
                have x0 : wr.cell? (nb.add j) = some (.int .i64 ns[j]) := by rw [HNB.out]; exact int_at kN hjn
                have HST : Hid (putU f.num ++ (ns.take (j + 1)).flatMap (fun x => putU (toU x)) = acc ++ putU (toU ns[j])) := by show _ = _; rw [HACC.out, List.take_succ_eq_append_getElem hjn, List.flatMap_append]; simp
                generalize ns[j] = nn at *
                have hwx := wrap_toU nn
                have hu := toU_u64 nn
                have hl2 := putU_len10 hu
                have T := putu_any (toU nn) hu wr
                go_wp2_with fail
                refine T.mono ?_
                clear T x0
                rintro en w5 ⟨B, bd, rfl, oB, b5⟩
                have oY5 := OwnB.below oY b5
                have hB := OwnB.bs oB (by omega)
                have kN5 := kN.below b5 kN.lt
                have bx5 := bx.trans (b5.mono bx.size)
                have z5 := b5.size
                clear oB kN b5 oY bx
                go_wp2_with (at_builtin; refine wpList_app v1.heap.size v1 _ rfl (.tmp 61) (.tmp 64) rfl Y acc y rfl oY5 B (putU (toU nn)) bd rfl hB (by omega) bx5 (Nat.le_refl _) bx5.size ?_; intro Y6 y6 acc6 w6_ H6 o6 b6 g6 t6)
                have kN6 := kN5.grown g6 (fun e => HYN.out _ e.symm rfl)
                have hN6 : ∀ b, (Value.slice Y6 acc6.length y6).ownBlock = some b → b ≠ v2.heap.size := fun b hb e => by
                  rcases t6 with t | t
                  · exact HYN.out b (t.symm.trans hb) e
                  · have := Option.some.inj (t.symm.trans hb); omega
                have z6 := g6.size
                have HA6 : Hid (acc6 = putU f.num ++ (ns.take (j + 1)).flatMap (fun x => putU (toU x))) := by show _ = _; rw [HST.out, H6.out]
                have hal6 : acc6.length ≤ 10 * (j + 1 + 1) := by rw [H6.out, List.length_append]; omega
                clear hwx t6
                go_roundw
                case rel => exact ⟨j + 1, acc6, Y6, y6, by omega, by simp, rfl, HA6.out, hal6, o6, hN6, kN6, b6, by omega⟩
                case measure => simp [intOf]; omega
              · have hlt' : ¬ (j : Int) < 3 := by omega
                obtain rfl : j = 3 := by omega
                have HQ : Hid (acc = putU f.num ++ (putU (toU f.level) ++ (putU (toU f.count) ++ putU (toU f.size)))) := by show _ = _; rw [HACC.out, HNS.out]; simp
                clear hlt hj HACC kN HYN HNB HNS
                generalize wr = v5 at *
                have kF5 := kF.below bx lF
                have hQ15 := hQ1.below bx
                have hQ25 := hQ2.below bx
                go_upto_region 20 with fail
                have bo := dz.trans (bx.mono dz.size)
                have zo5 := bo.size
                refine wp_region_noPanic ?_
                have kFd := kF5.drew
                have bxd := bx.drew
                have oYd := OwnB.below oY ((Below.refl v5.heap.size v5).drew)
                have hQ1d := hQ15.below ((Below.refl v5.heap.size v5).drew)
                have hQ2d := hQ25.below ((Below.refl v5.heap.size v5).drew)
                refine wp_region_held_drew (S := fun W => W.cell? ⟨wo.heap.size, 0, none⟩ = some (.slice P1 f.first.length p1) ∧ W.cell? ⟨wo.heap.size, 1, none⟩ = some (.slice P2 f.last.length p2)) (by kernel_rfl) ⟨kF5.cell 0, kF5.cell 1⟩ (fun hH => ?_)
                clear kF5 oY hQ15 hQ25 bo bx
                generalize v5.drew = V at *
                refine wpAnyH_take (i := 0) (v := ?_) rfl (by kernel_rfl) (by kernel_rfl) (by kernel_rfl) (fun _ _ _ h => h) (Or.inl ⟨by rfl, ?_⟩) hH ?_
                case refine_2 => intro w hSw; go_simp; try with_reducible rfl
                try simp only [List.getElem_toArray, List.getElem_cons_zero, Act.put, List.setIfInBounds_toArray, List.set_cons_zero, List.set_cons_succ]
                refine wpAnyH_take (i := 1) (v := ?_) rfl (by kernel_rfl) (by kernel_rfl) (by kernel_rfl) (fun _ _ _ h => h) (Or.inl ⟨by rfl, ?_⟩) hH ?_
                case refine_2 => intro w hSw; go_simp; try with_reducible rfl
                try simp only [List.getElem_toArray, List.getElem_cons_succ, List.getElem_cons_zero, Act.put, List.setIfInBounds_toArray, List.set_cons_zero, List.set_cons_succ]
                refine wpAnyH_take (i := 2) (v := ?_) rfl (by kernel_rfl) (by kernel_rfl) (by kernel_rfl) (fun _ _ _ h => h) (Or.inl ⟨by rfl, ?_⟩) hH ?_
                case refine_2 => intro w hSw; go_simp; try with_reducible rfl
                try simp only [List.getElem_toArray, List.getElem_cons_succ, List.getElem_cons_zero, Act.put, List.setIfInBounds_toArray, List.set_cons_zero, List.set_cons_succ]
                refine wpAnyH_take (i := 3) (v := ?_) rfl (by kernel_rfl) (by kernel_rfl) (by kernel_rfl) (fun _ _ _ h => h) (Or.inl ⟨by rfl, ?_⟩) hH ?_
                case refine_2 => intro w hSw; obtain ⟨s0, s1⟩ := hSw; go_simp; try with_reducible rfl
                try simp only [List.getElem_toArray, List.getElem_cons_succ, List.getElem_cons_zero, Act.put, List.setIfInBounds_toArray, List.set_cons_zero, List.set_cons_succ]
                refine wpAnyH_take (i := 6) (v := ?_) rfl (by kernel_rfl) (by kernel_rfl) (by kernel_rfl) (fun _ _ _ h => h) (Or.inl ⟨by rfl, ?_⟩) hH ?_
                case refine_2 => intro w hSw; go_simp; try with_reducible rfl
                try simp only [List.getElem_toArray, List.getElem_cons_succ, List.getElem_cons_zero, Act.put, List.setIfInBounds_toArray, List.set_cons_zero, List.set_cons_succ]
                refine wpAnyH_take (i := 7) (v := ?_) rfl (by kernel_rfl) (by kernel_rfl) (by kernel_rfl) (fun _ _ _ h => h) (Or.inl ⟨by rfl, ?_⟩) hH ?_
                case refine_2 => intro w hSw; go_simp; try with_reducible rfl
                try simp only [List.getElem_toArray, List.getElem_cons_succ, List.getElem_cons_zero, Act.put, List.setIfInBounds_toArray, List.set_cons_zero, List.set_cons_succ]
                refine wpAnyH_take (i := 8) (v := ?_) rfl (by kernel_rfl) (by kernel_rfl) (by kernel_rfl) (fun _ _ _ h => h) (Or.inl ⟨by rfl, ?_⟩) hH ?_
                case refine_2 => intro w hSw; obtain ⟨s0, s1⟩ := hSw; go_simp; try with_reducible rfl
                try simp only [List.getElem_toArray, List.getElem_cons_succ, List.getElem_cons_zero, Act.put, List.setIfInBounds_toArray, List.set_cons_zero, List.set_cons_succ]
                have hol1 := ordT_len f.first
                have hol2 := ordT_len f.last
                refine wpAnyH_ready (rs := [4]) (by kernel_rfl) (by simp) ?_
                refine AllReadyH.cons rfl (fun K hK => ?_) AllReadyH.nil
                go_simp
                refine (ordtext_any P1 f.first p1 V hQ1d (by omega)).mono ?_
                rintro en v6 ⟨B1, c1, rfl, oB1, b6⟩
                have kF6 := kFd.below b6 kFd.lt
                have hQ26 := hQ2d.below b6
                have oY6 := OwnB.below oYd b6
                have bx6 := bxd.trans (b6.mono bxd.size)
                have hB1 := OwnB.bs oB1 (by omega)
                have zV6 := b6.size
                refine hK.out _ _ ⟨kF6.cell 0, kF6.cell 1⟩ (fun hH => ?_)
                clear hK K kFd hQ1d hQ2d oYd bxd b6 oB1
                try dsimp only
                try simp only [List.getElem_toArray, List.getElem_cons_succ, List.getElem_cons_zero, Act.put, List.setIfInBounds_toArray, List.set_cons_zero, List.set_cons_succ]
                refine wpAnyH_ready (rs := [5]) (by kernel_rfl) (by simp) ?_
                refine AllReadyH.cons rfl (fun K hK => ?_) AllReadyH.nil
                refine step_app v1.heap.size v1 v6 rfl (.tmp 67) (.tmp 71) rfl Y acc y rfl oY6 B1 (ordT f.first) c1 rfl hB1 (by omega) bx6 (Nat.le_refl _) bx6.size ?_
                intro Y7 y7 acc7 v7 H7 o7 b7 g7 t7
                have HOY := Lib.hid (fun b hb => (OwnB.lt oY6 b hb))
                have kF7 := kF.below b7 lF
                have hQ27 := hQ2.below b7
                refine hK.out _ _ ⟨kF7.cell 0, kF7.cell 1⟩ (fun hH => ?_)
                clear hK K kF6 hQ26 oY6 bx6 hB1 g7 t7 HOY
                try dsimp only
                try simp only [List.getElem_toArray, List.getElem_cons_succ, List.getElem_cons_zero, Act.put, List.setIfInBounds_toArray, List.set_cons_zero, List.set_cons_succ]
                refine wpAnyH_ready (rs := [9]) (by kernel_rfl) (by simp) ?_
                refine AllReadyH.cons rfl (fun K hK => ?_) AllReadyH.nil
                go_simp
                refine (ordtext_any P2 f.last p2 v7 hQ27 (by omega)).mono ?_
                rintro en v8 ⟨B2, c2, rfl, oB2, b8⟩
                have kF8 := kF7.below b8 kF7.lt
                have o8 := OwnB.below o7 b8
                have bx8 := b7.trans (b8.mono b7.size)
                have hB2 := OwnB.bs oB2 (by omega)
                refine hK.out _ _ ⟨kF8.cell 0, kF8.cell 1⟩ (fun hH => ?_)
                clear hK K kF7 hQ27 o7 b7 b8 oB2
                try dsimp only
                try simp only [List.getElem_toArray, List.getElem_cons_succ, List.getElem_cons_zero, Act.put, List.setIfInBounds_toArray, List.set_cons_zero, List.set_cons_succ]
                refine wpAnyH_ready (rs := [10]) (by kernel_rfl) (by simp) ?_
                refine AllReadyH.cons rfl (fun K hK => ?_) AllReadyH.nil
                have hl7 : acc7.length + (ordT f.last).length ≤ 140737488355328 := by rw [H7.out, List.length_append]; omega
                refine step_app v1.heap.size v1 v8 rfl (.tmp 72) (.tmp 76) rfl Y7 acc7 y7 rfl o8 B2 (ordT f.last) c2 rfl hB2 hl7 bx8 (Nat.le_refl _) bx8.size ?_
                intro Y9 y9 acc9 v9 H9 o9 b9 g9 t9
                have kF9 := kF.below b9 lF
                refine hK.out _ _ ⟨kF9.cell 0, kF9.cell 1⟩ (fun hH => ?_)
                clear hK K kF8 o8 bx8 hB2 g9 t9
                try dsimp only
                try simp only [List.getElem_toArray, List.getElem_cons_succ, List.getElem_cons_zero, Act.put, List.setIfInBounds_toArray, List.set_cons_zero, List.set_cons_succ]
                refine wpAnyH_take (i := 11) (v := ?_) rfl (by kernel_rfl) (by kernel_rfl) (by kernel_rfl) (fun _ _ _ h => h) (Or.inl ⟨by rfl, ?_⟩) hH ?_
                case refine_2 => intro w hSw; go_simp; try with_reducible rfl
                try simp only [List.getElem_toArray, List.getElem_cons_succ, List.getElem_cons_zero, Act.put, List.setIfInBounds_toArray, List.set_cons_zero, List.set_cons_succ]
                refine wpAnyH_done (by kernel_rfl) ?_ _
                refine NoPanic.normal ?_
                have HF : Hid (acc9 = fileL f) := by show _ = _; rw [H9.out, H7.out, HQ.out]; unfold fileL; simp only [List.append_assoc]
                have hfl := fileL_len hwf
                rw [← HF.out] at hfl HST
                clear H9 H7 HQ hH kF9
                have bo9 := dz.trans (b9.mono dz.size)
                have dy : Below v9.heap.size v9 (v9.alloc (.cells #[.slice Y9 acc9.length y9] 49)) := (Below.refl _ _).alloc (Nat.le_refl _) _
                have hrd := Reads.new1 v9 (.slice Y9 acc9.length y9) 49
                have hbo : wo.heap.size ≤ v9.heap.size := bo9.size
                have oP9 := Own.below (Own.below oP bo9) dy
                have b09 := (br.trans (bo9.mono zr)).trans (dy.mono (Nat.le_trans zr hbo))
                have HPL := Lib.hid (Own.lt oP)
                have hrep : BsE.rep (v9.alloc (.cells #[.slice Y9 acc9.length y9] 49)) (fun b => w.heap.size ≤ b ∧ (Value.slice Q P.length q).ownBlock ≠ some b) [.slice Y9 acc9.length y9] acc9 := ⟨Y9, y9, rfl, OwnB.bytesB o9 (by omega) dy (fun g h1 h2 => ⟨by omega, fun e => by have := (HPL.out g e).2; omega⟩)⟩
                have hL1 : (P.length + 1) * BsE.bytes ≤ 140737488355328 := by simp only [BsE]; omega
                have hL2 : P.length + 1 ≤ maxLen := by simp only [maxLen]; omega
                have hW9 : w.heap.size + 1 ≤ (v9.alloc (.cells #[.slice Y9 acc9.length y9] 49)).heap.size := by simp; omega
                have HBP : Hid ((fun (_ : Nat) => (Value.slice Q P.length q)) = fun _ => .slice Q P.length q) := rfl
                go_wp2_with (at_builtin; refine wpList_appE BsE (w.heap.size + 1) w _ rfl (.tmp 78) (.tmp 80) 49 67 rfl i1 _ Try.underlying67 hi1 hy0 hy1 hy2 rfl (fun b => w.heap.size ≤ b) Q P q (congrArg (fun m => Value.slice Q m q) hpl.symm) oP9 _ [.slice Y9 acc9.length y9] acc9 1 rfl _ hrd hrep hL1 hL2 b09 (by omega) hW9 ?_; intro Q9 q9 P9 w9 H9 o9_ b9_ g9_ t9_)
                have hp9 : P9.length = n + 1 + 2 := by rw [H9.out, List.length_append, hpl]; rfl
                have HP9 : Hid (P9 = partsL_ e (n + 1)) := by show _ = _; rw [HST.out, H9.out]
                rw [hp9] at o9_
                go_roundw
                case rel => exact ⟨n + 1, P9, Q9, q9, by omega, by simp, by rw [hp9], HP9.out, o9_, b9_⟩
                case measure => simp [intOf]; omega
          · have hlt' : ¬ (n : Int) < (e.add.length : Int) := by omega
            obtain rfl : n = e.add.length := by omega
            have hsl := Own.sl oP (by simp only [BsE]; omega)
            have T := frame_any P Q q wr hsl (by rw [HPP.out]; exact HPS.out _) (by omega)
            rw [HPP.out, partsL_end, partsL_len e (Nat.le_refl _)] at T
            clear HPP HPS
            go_wp2_with fail
            refine T.mono ?_
            clear T
            rintro en w9 ⟨R, r, rfl, oR, b9⟩
            go_wp2_with fail
            go_ret
            exact ⟨R, r, rfl, OwnB.base oR zr, br.trans (b9.mono zr)⟩
end Go.Proofs.Ytmgibpedclngpaa
