/- Tick of a node of a group. -/
import Derived.Test.YtjpcekpllfelhaaRsJ
namespace Go.Proofs.Ytjpcekpllfelhaa
open Go.RowKit

set_option maxRecDepth 100000 in
set_option maxHeartbeats 4000000 in
theorem tick_any (g : Nat) (F : Nat → Prop) (d : LNode) (w : World) (hd : ND w g F d) (hb : GB d) (hbl : d.log.length + 1 ≤ 1048576) (hn1 : 1 ≤ d.n) (hn5 : d.n ≤ 12) (hi : d.id < d.n) (hr3 : d.role = 3 → d.next.length = d.n)
    (hc1 : 0 ≤ d.clock) (hc2 : d.clock ≤ 100000) (hl1 : 0 ≤ d.limit) (hl2 : d.limit ≤ 100000) :
    Calls Try.prog 7 #[.pointer (some ⟨g, 0, none⟩)] w (RetMs g F (tickG d) w) := by
  obtain ⟨S, E, V, M, X, hN, hF⟩ := hd
  have HF := Lib.hid hF
  clear hF
  have q8 : w.cell? ⟨g, 8, none⟩ = some (.int .i64 d.role) := hN.blk.cell 8
  by_cases hrole : d.role = 3
  · have hri : (d.role == 3) = true := by rw [beq_iff_eq]; exact hrole
    have hT : Hid (tickG d = (d, othersP d (sendP d) d.n)) := by show _ = _; unfold tickG; rw [if_pos hrole]
    obtain ⟨A, ec, rfl⟩ := hN.log.shape
    have T := othersS_any g A ec V M X S d w hN hb (by omega) (hr3 hrole)
    have D1 : ND w g F d := ⟨_, _, _, _, _, hN, HF.out⟩
    clear hrole hr3 hN
    go_enter Try.func7, Try.ntmps7
    go_wp2_with fail
    refine T.mono ?_
    clear T
    rintro en w2 ⟨A2, c2, rfl, o2, b2⟩
    go_wp2_with fail
    go_ret
    rw [hT.out]
    exact ⟨A2, c2, w.heap.size, rfl, Nat.le_refl _, o2, (D1.new b2).mono fun b h => h.imp (fun h => h.1) id, .of_below b2⟩
  · have hri : (d.role == 3) = false := by rw [beq_eq_false_iff_ne]; exact hrole
    have hT : Hid (tickG d = if d.clock + 1 < d.limit + d.id then ({ d with clock := d.clock + 1 }, []) else if d.term = 4611686018427387904 then ({ d with clock := 0 }, []) else if d.n = 1 then stG { d with clock := 0 } else callP { d with clock := 0, role := 1, lead := -1 } 1 (d.term + 1)) := by show _ = _; unfold tickG; rw [if_neg hrole]
    have q11 : w.cell? ⟨g, 11, none⟩ = some (.int .i64 d.clock) := hN.blk.cell 11
    have f11 : w.frozen? ⟨g, 11, none⟩ = false := hN.blk.frozen 11
    have g1 : w.grownBy (w.setCell ⟨g, 11, none⟩ (.int .i64 (d.clock + 1))) (some g) := only_setCell (only_of_below (Below.refl _ _) (some g)) (.inl rfl) _
    have N1 : NodeAt (w.setCell ⟨g, 11, none⟩ (.int .i64 (d.clock + 1))) g S E V M X { d with clock := d.clock + 1 } := hN.turn g1 (hN.blk.set_ 11 (.int .i64 (d.clock + 1))) ⟨rfl, rfl, rfl, rfl⟩
    have B1 := (BlP.refl F w).grown g1 (fun b e h => (HF.out b h).1 (Option.some.inj e).symm)
    clear hrole hr3
    go_enter Try.func7, Try.ntmps7
    go_upto_region 4 with fail
    clear q8 q11 f11 hN g1
    generalize (w.setCell ⟨g, 11, none⟩ (.int .i64 (d.clock + 1))) = w1 at *
    have q11 : w1.cell? ⟨g, 11, none⟩ = some (.int .i64 (d.clock + 1)) := N1.blk.cell 11
    have q7 : w1.cell? ⟨g, 7, none⟩ = some (.int .i64 d.limit) := N1.blk.cell 7
    have q5 : w1.cell? ⟨g, 5, none⟩ = some (.int .i64 (d.id : Int)) := N1.blk.cell 5
    by_cases hlt : d.clock + 1 < d.limit + (d.id : Int)
    · have HT : Hid (tickG d = ({ d with clock := d.clock + 1 }, [])) := by show _ = _; rw [hT.out, if_pos hlt]
      go_quiet (fail)
      go_wp2_with fail
      go_ret
      rw [HT.out]
      exact RetMs.nil_ (ND.all ⟨_, _, _, _, _, N1.below (below_drewN (Below.refl _ _) _), HF.out⟩) (fun b _ h => .inl h) (fun b h => .inr h) (B1.drewN _)
    · have HT : Hid (tickG d = if d.term = 4611686018427387904 then ({ d with clock := 0 }, []) else if d.n = 1 then stG { d with clock := 0 } else callP { d with clock := 0, role := 1, lead := -1 } 1 (d.term + 1)) := by show _ = _; rw [hT.out, if_neg hlt]
      clear hT
      go_quiet (fail)
      go_upto_region 6 with fail
      have d2 : Below w1.heap.size w1 (w1.drewN nq) := below_drewN (Below.refl _ _) nq
      have N2 := N1.below d2
      have B2 := B1.drewN nq
      clear N1 B1 d2 q11 q7 q5
      generalize (w1.drewN nq) = w2 at *
      have q11 : w2.cell? ⟨g, 11, none⟩ = some (.int .i64 (d.clock + 1)) := N2.blk.cell 11
      have f11 : w2.frozen? ⟨g, 11, none⟩ = false := N2.blk.frozen 11
      have g3 : w2.grownBy (w2.setCell ⟨g, 11, none⟩ (.int .i64 0)) (some g) := only_setCell (only_of_below (Below.refl _ _) (some g)) (.inl rfl) _
      have N3 : NodeAt (w2.setCell ⟨g, 11, none⟩ (.int .i64 0)) g S E V M X { d with clock := 0 } := N2.turn g3 (N2.blk.set_ 11 (.int .i64 0)) ⟨rfl, rfl, rfl, rfl⟩
      have B3 := B2.grown g3 (fun b e h => (HF.out b h).1 (Option.some.inj e).symm)
      have hgl : g < w2.heap.size := N2.blk.lt
      go_upto_region 7 with fail
      clear q11 f11 N2 B2 g3
      generalize (w2.setCell ⟨g, 11, none⟩ (.int .i64 0)) = w3 at *
      have q0 : w3.cell? ⟨g, 0, none⟩ = some (.int .u64 (d.term : Int)) := N3.blk.cell 0
      by_cases hg : d.term = 4611686018427387904
      · have hgi : ((d.term : Int) == 4611686018427387904) = true := by rw [beq_iff_eq]; omega
        have HT2 : Hid (tickG d = ({ d with clock := 0 }, [])) := by show _ = _; rw [HT.out, if_pos hg]
        clear HT hg
        go_wp2_with fail
        go_ret
        rw [HT2.out]
        exact RetMs.nil_ (ND.all ⟨_, _, _, _, _, N3, HF.out⟩) (fun b _ h => .inl h) (fun b h => .inr h) B3
      · have hgi : ((d.term : Int) == 4611686018427387904) = false := by rw [beq_eq_false_iff_ne]; omega
        have htl : d.term + 1 ≤ 4611686018427387904 := by have := hb.term; omega
        have HT2 : Hid (tickG d = if d.n = 1 then stG { d with clock := 0 } else callP { d with clock := 0, role := 1, lead := -1 } 1 (d.term + 1)) := by show _ = _; rw [HT.out, if_neg hg]
        have q6 : w3.cell? ⟨g, 6, none⟩ = some (.int .i64 (d.n : Int)) := N3.blk.cell 6
        clear HT hg
        by_cases hn : d.n = 1
        · have hni : ((d.n : Int) == 1) = true := by rw [beq_iff_eq]; omega
          have HT3 : Hid (tickG d = stG { d with clock := 0 }) := by show _ = _; rw [HT2.out, if_pos hn]
          have T := stand_any g F { d with clock := 0 } w3 ⟨_, _, _, _, _, N3, HF.out⟩ ⟨hb.base, hb.bt, hb.len, hb.term, hb.commit⟩ hbl htl hn1 hn5 hi
          rw [← HT3.out] at T
          clear HT2 hn N3
          go_wp2_with fail
          refine T.mono ?_
          clear T
          intro en w4 h4
          have h5 := h4.mono B3 (fun b _ h => h)
          obtain ⟨A5, c5, k5, rfl, h7⟩ := h5
          go_wp2_with fail
          go_ret
          exact ⟨A5, c5, k5, rfl, h7⟩
        · have hni : ((d.n : Int) == 1) = false := by rw [beq_eq_false_iff_ne]; omega
          have HT3 : Hid (tickG d = callP { d with clock := 0, role := 1, lead := -1 } 1 (d.term + 1)) := by show _ = _; rw [HT2.out, if_neg hn]
          have q8 : w3.cell? ⟨g, 8, none⟩ = some (.int .i64 d.role) := N3.blk.cell 8
          have q9 : w3.cell? ⟨g, 9, none⟩ = some (.int .i64 d.lead) := N3.blk.cell 9
          have f8 : w3.frozen? ⟨g, 8, none⟩ = false := N3.blk.frozen 8
          have f9 : w3.frozen? ⟨g, 9, none⟩ = false := N3.blk.frozen 9
          have g4 : w3.grownBy ((w3.setCell ⟨g, 8, none⟩ (.int .i64 1)).setCell ⟨g, 9, none⟩ (.int .i64 (-1))) (some g) := only_setCell (only_setCell (only_of_below (Below.refl _ _) (some g)) (.inl rfl) _) (.inl rfl) _
          have N4 : NodeAt ((w3.setCell ⟨g, 8, none⟩ (.int .i64 1)).setCell ⟨g, 9, none⟩ (.int .i64 (-1))) g S E V M X { d with clock := 0, role := 1, lead := -1 } := N3.turn g4 ((N3.blk.set_ 8 (.int .i64 1)).set_ 9 (.int .i64 (-1))) ⟨rfl, rfl, rfl, rfl⟩
          have B4 := B3.grown g4 (fun b e h => (HF.out b h).1 (Option.some.inj e).symm)
          clear HT2 hn
          go_upto_region 12 with fail
          clear q0 q6 q8 q9 f8 f9 N3 g4 B3
          generalize ((w3.setCell ⟨g, 8, none⟩ (.int .i64 1)).setCell ⟨g, 9, none⟩ (.int .i64 (-1))) = w4 at *
          have q0 : w4.cell? ⟨g, 0, none⟩ = some (.int .u64 (d.term : Int)) := N4.blk.cell 0
          have hwr : IntKind.u64.wrap ((d.term : Int) + 1) = (d.term : Int) + 1 := by simp [IntKind.wrap, IntKind.bits, IntKind.signed]; omega
          have T := call_any g F { d with clock := 0, role := 1, lead := -1 } 1 (d.term + 1) w4 ⟨_, _, _, _, _, N4, HF.out⟩ ⟨hb.base, hb.bt, hb.len, hb.term, hb.commit⟩ hn1 hn5 hi (by omega)
          rw [← HT3.out] at T
          replace T : Calls Try.prog 31 #[.pointer (some ⟨g, 0, none⟩), .int .i64 1, .int .u64 ((d.term : Int) + 1)] w4 _ := T
          clear N4
          go_wp2_with fail
          refine T.mono ?_
          clear T
          intro en w5 h4
          have h5 := h4.mono B4 (fun b _ h => h)
          obtain ⟨A5, c5, k5, rfl, h7⟩ := h5
          go_wp2_with fail
          go_ret
          exact ⟨A5, c5, k5, rfl, h7⟩
end Go.Proofs.Ytjpcekpllfelhaa
