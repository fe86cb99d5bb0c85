/- RowChanges: the changes from one row to another, put upon the old one's entries, make just the new one's. -/
import Derived.Test.YtfededjcadmpbaaGreatDoorAwakeR
import Derived.Test.YtfededjcadmpbaaGreatDoorValsOf
import Derived.Test.YtfededjcadmpbaaGreatDoorEntA
import Derived.Test.YtfededjcadmpbaaGreatDoorChgA
import Derived.Test.YtfededjcadmpbaaGreatDoorRChg
import Derived.Test.YtfededjcadmpbaaGreatDoorPutP
namespace Go.Proofs.YtfededjcadmpbaaGreatDoor
open Go.RowKit

theorem chg_zero {E1 E2 : Int} {L1 L2 : List (List UInt8 × List UInt8)} (h : chgE E1 E2 L1 L2 = 0) : E1 = 0 ∧ E2 = 0 := by
  unfold chgE at h
  by_cases h1 : E1 ≠ 0
  · rw [if_pos h1] at h; exact absurd h h1
  rw [if_neg h1] at h
  by_cases h2 : E2 ≠ 0
  · rw [if_pos h2] at h; exact absurd h h2
  exact ⟨Classical.byContradiction h1, Classical.byContradiction h2⟩
theorem all_in {a b : List (List UInt8 × List UInt8)} (h : ∀ p ∈ a, p ∈ b) : (a.all fun p => b.any fun q => p.1 == q.1 && p.2 == q.2) = true :=
  List.all_eq_true.2 fun p hp => List.any_eq_true.2 ⟨p, h p hp, by simp⟩
set_option maxRecDepth 100000 in
set_option maxHeartbeats 8000000 in
theorem rowchg_any (id keys : Int) (tn : ByteArray) (cols : List LCol) (ixs : List LIx) (l l2 : List LCel) (A B C D : Option Addr) (ca cb cc cd : Nat) (w : World) (hA : Sl ColE w A cols) (hB : Sl IxE w B ixs) (hC : Sl CraE w C l) (hD : Sl CraE w D l2) (hn : tn.size ≤ 140737488351232) (hu : U8 w)
    (hl : ∀ x ∈ l, (Lit.int .i64 x.kind).wf = true ∧ (Lit.int .i64 x.n).wf = true ∧ x.t.size ≤ 1048576 ∧ x.l.length ≤ 140737488351232) (hl2 : ∀ x ∈ l2, (Lit.int .i64 x.kind).wf = true ∧ (Lit.int .i64 x.n).wf = true ∧ x.t.size ≤ 1048576 ∧ x.l.length ≤ 140737488351232) (hca : cols.length ≤ ca ∧ ca ≤ 9223372036854775807) :
    Calls Tryz.prog 3 #[.agg #[.int .i64 id, .string tn, .slice A cols.length ca, .int .i64 keys, .slice B ixs.length cb], .slice C l.length cc, .slice D l2.length cd] w fun e w' => e = .returned (.bool true) ∧ Below w.heap.size w w' := by
  have HL := Lib.hid (vals_good hl)
  have HM := Lib.hid (vals_good hl2)
  clear hl hl2
  have b0 : Below w.heap.size w (w.alloc (.cells #[.int .i64 id, .string tn, .slice A cols.length ca, .int .i64 keys, .slice B ixs.length cb] 25)) := (Below.refl _ _).alloc (Nat.le_refl _) _
  have k0 := Blk.new w 25 #[.int .i64 id, .string tn, .slice A cols.length ca, .int .i64 keys, .slice B ixs.length cb]
  go_enter Tryz.func3, Tryz.ntmps3
  go_wp2_with fail
  generalize (w.alloc (.cells #[.int .i64 id, .string tn, .slice A cols.length ca, .int .i64 keys, .slice B ixs.length cb] 25)) = W0 at *
  refine (awake_any W0 (hu.below b0)).mono ?_
  rintro en w1 ⟨rfl, b1⟩
  have b01 := b0.trans (b1.mono b0.size)
  have k1 := k0.below b1 k0.lt
  go_wp2_with fail
  refine (vals_any l C cc w1 (hC.below b01)).mono ?_
  rintro en w2 ⟨V, X, cv, cx, rfl, sV, sX, capV, capX, b2⟩
  generalize valsOf l = xs at *
  have b02 := b01.trans (b2.mono b01.size)
  have k2 := k1.below b2 k1.lt
  go_wp2_with fail
  refine (vals_any l2 D cd w2 (hD.below b02)).mono ?_
  rintro en w3 ⟨U, Y, cu, cy, rfl, sU, sY, capU, capY, b3⟩
  generalize valsOf l2 = ys at *
  have b03 := b02.trans (b3.mono b02.size)
  have k3 := k2.below b3 k2.lt
  have sV3 := sV.below b3
  have sX3 := sX.below b3
  clear b0 b1 b2 k0 k1 b01 sV sX hC hD
  have hgx : ∀ x ∈ xs, x.err = 0 ∧ x.wfv := fun x hx => (HL.out x hx).1
  have hgy : ∀ y ∈ ys, y.err = 0 ∧ y.wfv := fun y hy => (HM.out y hy).1
  have HGX := Lib.hid hgx
  have HGY := Lib.hid hgy
  clear hgx hgy HL HM
  go_wp2_with ((with_reducible refine wpList_load_blk rfl 25 (.tmp 3) rfl w.heap.size ?_ 25 _ _ k3 Tryz.underlying25 ?_ Tryz.size_TableV ?_ ?_); rfl; rfl; rfl)
  refine (changes_any id keys tn cols ixs xs ys A B V U ca cb cv cu w3 (hA.below b03) (hB.below b03) sV3 sU hn (hu.below b03) (fun x hx => HGX.out x hx) (fun y hy => HGY.out y hy) hca capV capU).mono ?_
  obtain ⟨nd1, ln1⟩ := storL_nodup id keys tn cols ixs xs
  obtain ⟨nd2, ln2⟩ := storL_nodup id keys tn cols ixs ys
  obtain ⟨m, hm⟩ : ∃ m, m = if chgE (storE id keys tn cols ixs xs) (storE id keys tn cols ixs ys) (storL id keys tn cols ixs xs) (storL id keys tn cols ixs ys) = 0 then rchgL (storL id keys tn cols ixs xs) (storL id keys tn cols ixs ys) else [] := ⟨_, rfl⟩
  rintro en w4 ⟨D1, d1, ws, hen, oW, hz, hnz, -, b4⟩
  have hwm : ws.map RW.w = m := by
    by_cases h : chgE (storE id keys tn cols ixs xs) (storE id keys tn cols ixs ys) (storL id keys tn cols ixs xs) (storL id keys tn cols ixs ys) = 0
    · rw [hm, if_pos h]; exact chg_one nd1 nd2 (hz h)
    · rw [hm, if_neg h, hnz h]; rfl
  have hml : m.length ≤ 10 := by
    rw [hm]
    by_cases h : chgE (storE id keys tn cols ixs xs) (storE id keys tn cols ixs ys) (storL id keys tn cols ixs xs) (storL id keys tn cols ixs ys) = 0
    · rw [if_pos h, ← gonK_all]
      have := gonK_len (storL id keys tn cols ixs xs) (storL id keys tn cols ixs ys) (storL id keys tn cols ixs xs).length
      omega
    · rw [if_neg h]; exact Nat.zero_le _
  have hwl : ws.length = m.length := by rw [← hwm, List.length_map]
  have sW : Sl WrE w4 D1 m := by
    rw [← hwm]
    exact WrE.of (Own.sl oW (by simp only [RWE]; omega))
  rw [hwl] at hen
  subst hen
  clear oW hz hnz hwm hwl
  have b04 := b03.trans (b4.mono b03.size)
  have k4 := k3.below b4 k3.lt
  have sV4 := sV3.below b4
  have sU4 := sU.below b4
  have sX4 := sX3.below b4
  have sY4 := sY.below b4
  clear b02 b03 b3 b4 k2 k3 sV3 sU sX3 sY
  have T := rchanges_any id keys tn cols ixs xs ys A B X Y ca cb cx cy w4 (hA.below b04) (hB.below b04) sX4 sY4 hn (fun x hx => HGX.out x hx) (fun y hy => HGY.out y hy) capX capY
  rw [← hm] at T
  have hcz : chgE (storE id keys tn cols ixs xs) (storE id keys tn cols ixs ys) (storL id keys tn cols ixs xs) (storL id keys tn cols ixs ys) = 0 → storE id keys tn cols ixs xs = 0 ∧ storE id keys tn cols ixs ys = 0 ∧ m = rchgL (storL id keys tn cols ixs xs) (storL id keys tn cols ixs ys) := fun h => ⟨(chg_zero h).1, (chg_zero h).2, by rw [hm, if_pos h]⟩
  have HCZ := Lib.hid hcz
  have s1 := Lib.hid (stor_facts (id := id) (keys := keys) (tn := tn) (cols := cols) (ixs := ixs) (xs := xs))
  have s2 := Lib.hid (stor_facts (id := id) (keys := keys) (tn := tn) (cols := cols) (ixs := ixs) (xs := ys))
  have ND1 := Lib.hid nd1
  have ND2 := Lib.hid nd2
  clear hm hcz nd1 nd2
  generalize chgE (storE id keys tn cols ixs xs) (storE id keys tn cols ixs ys) (storL id keys tn cols ixs xs) (storL id keys tn cols ixs ys) = E at *
  generalize storL id keys tn cols ixs xs = L1 at *
  generalize storL id keys tn cols ixs ys = L2 at *
  generalize storE id keys tn cols ixs xs = E1 at *
  generalize storE id keys tn cols ixs ys = E2 at *
  go_wp2_with ((with_reducible refine wpList_load_blk rfl 25 (.tmp 3) rfl w.heap.size ?_ 25 _ _ k4 Tryz.underlying25 ?_ Tryz.size_TableV ?_ ?_); rfl; rfl; rfl)
  refine T.mono ?_
  clear T
  rintro en w5 ⟨D2, d2, rfl, sR, b5⟩
  have b05 := b04.trans (b5.mono b04.size)
  have k5 := k4.below b5 k4.lt
  have sV5 := sV4.below b5
  have sU5 := sU4.below b5
  have sW5 := sW.below b5
  have dE : (E != E) = false := by simp
  clear b04 b5 k4 sV4 sU4 sX4 sY4 sW
  go_wp2_with fail
  refine (samew_any m D1 D2 d1 d2 w5 sW5 sR).mono ?_
  rintro en w6 ⟨rfl, n6, rfl⟩
  have b06 := below_drewN b05 n6
  have k6 := k5.drewN n6
  have sV6 := sV5.drewN n6
  have sU6 := sU5.drewN n6
  have sW6 := sW5.drewN n6
  clear b05 k5 sV5 sU5 sW5 sR
  generalize w5.drewN n6 = v at *
  by_cases hE : E = 0
  · have dz : (E != 0) = false := by rw [hE]; rfl
    obtain ⟨-, -, hmr⟩ := HCZ.out hE
    have HMR := Lib.hid hmr
    clear hE hmr HCZ
    have z6 := b06.size
    go_upto_region 12 with fail
    go_cut [57] (fun s wx => s = .bool (decide (0 < xs.length)) ∧ wx = v)
    case first =>
      clear HMR ND1 ND2
      go_wp2_with fail
      go_meet
      case rel => exact ⟨rfl, rfl⟩
    case rest =>
    obtain ⟨rfl, hwc⟩ := hcut
    replace hwc := hwc.symm
    subst hwc
    have HG1 : Hid ((decide (0 < xs.length) = true → xs.length ≠ 0) ∧ (decide (0 < xs.length) = false → xs.length = 0)) := ⟨fun h => by have := of_decide_eq_true h; omega, fun h => by have := of_decide_eq_false h; omega⟩
    generalize decide (0 < xs.length) = gb at *
    go_upto_if 57 with fail
    go_cut [15] (fun s wx => ∃ R r, s = .slice R L1.length r ∧ Sl PrE wx R L1 ∧ Below v.heap.size v wx)
    case first =>
      clear HMR ND1 ND2 s2 sU6
      cases gb with
      | false =>
        have HQ := Lib.hid (s1.out.1 (HG1.out.2 rfl))
        clear HG1
        go_wp2_with fail
        go_meet
        case rel => exact ⟨none, 0, by rw [HQ.out.2]; rfl, by rw [HQ.out.2]; exact SlS.nil_ PrE _ _ _, Below.refl _ _⟩
      | true =>
        have HQ := Lib.hid (s1.out.2.1 (HG1.out.1 rfl))
        have T := entries_any id keys tn cols ixs xs A B V ca cb cv v (hA.below b06) (hB.below b06) sV6 hn (hu.below b06) (fun x hx => HGX.out x hx) hca capV
        rw [← HQ.out.2] at T
        clear HG1 s1
        generalize fitsE id keys tn cols ixs xs = F at *
        go_wp2_with ((with_reducible refine wpList_load_blk rfl 25 (.tmp 3) rfl w.heap.size ?_ 25 _ _ k6 Tryz.underlying25 ?_ Tryz.size_TableV ?_ ?_); rfl; rfl; rfl)
        refine T.mono ?_
        rintro en w7 ⟨R, r, rfl, oR, b7⟩
        have sR : Sl PrE w7 R L1 := PrE.of (Own.sl oR (by simp only [PairE]; omega))
        go_wp2_with fail
        go_meet
        case rel => exact ⟨R, r, rfl, sR, b7⟩
    case rest =>
      obtain ⟨R1, r1, rfl, q1, b7⟩ := hcut
      generalize wc = w7 at *
      have b07 := b06.trans (b7.mono z6)
      have k7 := k6.below b7 k6.lt
      have sU7 := sU6.below b7
      have sW7 := sW6.below b7
      have z7 := b07.size
      clear b06 b7 k6 sU6 sW6 z6 sV6 s1 HGX
      go_upto_region 14 with fail
      go_cut [66] (fun s wx => s = .bool (decide (0 < ys.length)) ∧ wx = w7)
      case first =>
        clear HMR ND1 ND2
        go_wp2_with fail
        go_meet
        case rel => exact ⟨rfl, rfl⟩
      case rest =>
      obtain ⟨rfl, hwc⟩ := hcut
      replace hwc := hwc.symm
      subst hwc
      have HG2 : Hid ((decide (0 < ys.length) = true → ys.length ≠ 0) ∧ (decide (0 < ys.length) = false → ys.length = 0)) := ⟨fun h => by have := of_decide_eq_true h; omega, fun h => by have := of_decide_eq_false h; omega⟩
      generalize decide (0 < ys.length) = gb2 at *
      go_upto_if 66 with fail
      go_cut [16] (fun s wx => ∃ R r, s = .slice R L2.length r ∧ Sl PrE wx R L2 ∧ Below w7.heap.size w7 wx)
      case first =>
        clear HMR ND1 ND2 sW7
        cases gb2 with
        | false =>
          have HQ := Lib.hid (s2.out.1 (HG2.out.2 rfl))
          clear HG2
          go_wp2_with fail
          go_meet
          case rel => exact ⟨none, 0, by rw [HQ.out.2]; rfl, by rw [HQ.out.2]; exact SlS.nil_ PrE _ _ _, Below.refl _ _⟩
        | true =>
          have HQ := Lib.hid (s2.out.2.1 (HG2.out.1 rfl))
          have T := entries_any id keys tn cols ixs ys A B U ca cb cu w7 (hA.below b07) (hB.below b07) sU7 hn (hu.below b07) (fun x hx => HGY.out x hx) hca capU
          rw [← HQ.out.2] at T
          clear HG2 s2
          generalize fitsE id keys tn cols ixs ys = F at *
          go_wp2_with ((with_reducible refine wpList_load_blk rfl 25 (.tmp 3) rfl w.heap.size ?_ 25 _ _ k7 Tryz.underlying25 ?_ Tryz.size_TableV ?_ ?_); rfl; rfl; rfl)
          refine T.mono ?_
          rintro en w8 ⟨R, r, rfl, oR, b8⟩
          have sR : Sl PrE w8 R L2 := PrE.of (Own.sl oR (by simp only [PairE]; omega))
          go_wp2_with fail
          go_meet
          case rel => exact ⟨R, r, rfl, sR, b8⟩
      case rest =>
        obtain ⟨R2, r2, rfl, q2, b8⟩ := hcut
        generalize wc = w8 at *
        have b08 := b07.trans (b8.mono z7)
        have q18 := q1.below b8
        have sW8 := sW7.below b8
        have hpm := put_is ND1.out ND2.out
        rw [← HMR.out] at hpm
        have hg1 : ∀ p ∈ putP L1 m, p ∈ L2 := fun p hp => hpm.mem_iff.1 hp
        have hg2 : ∀ p ∈ L2, p ∈ putP L1 m := fun p hp => hpm.mem_iff.2 hp
        have hgl := hpm.length_eq
        have T := put_any L1 m R1 D1 r1 d1 w8 q18 sW8 (by omega) (by omega)
        generalize putP L1 m = G at *
        have hw1 : (G.all fun p => L2.any fun q => p.1 == q.1 && p.2 == q.2) = true := all_in hg1
        have hw2 : (L2.all fun p => G.any fun q => p.1 == q.1 && p.2 == q.2) = true := all_in hg2
        have HW1 := Lib.hid hw1
        have HW2 := Lib.hid hw2
        have dG : ((G.length : Int) == (L2.length : Int)) = true := by rw [hgl]; simp
        clear hpm hg1 hg2 hw1 hw2 hgl q1 sW7 b8 b07 sU7 k7 s2 HGY HMR ND1 ND2
        go_wp2_with fail
        refine T.mono ?_
        rintro en w9 ⟨Q, q, rfl, sG, b9⟩
        have q29 := q2.below b9
        have b09 := b08.trans (b9.mono b08.size)
        go_wp2_with fail
        refine (within_any G L2 Q R2 q r2 w9 sG q29).mono ?_
        rw [HW1.out]
        rintro en w10 ⟨rfl, b10⟩
        have b010 := b09.trans (b10.mono b09.size)
        go_wp2_with fail
        refine (within_any L2 G R2 Q r2 q w10 (q29.below b10) (sG.below b10)).mono ?_
        rw [HW2.out]
        rintro en w11 ⟨rfl, b11⟩
        go_wp2_with fail
        go_ret
        exact ⟨rfl, b010.trans (b11.mono b010.size)⟩
  · have dz : (E != 0) = true := by rw [bne_iff_ne]; exact hE
    clear hE HCZ
    go_wp2_with fail
    go_ret
    exact ⟨rfl, b06⟩
end Go.Proofs.YtfededjcadmpbaaGreatDoor
