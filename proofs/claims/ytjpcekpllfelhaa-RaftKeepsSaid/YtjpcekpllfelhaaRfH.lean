/- A lone node's stand, Tick, Propose. (Printed by wip/gen_rfh.py.) -/
import Derived.Test.YtjpcekpllfelhaaRfG
import Derived.StillTailTactics
namespace Go.Proofs.Ytjpcekpllfelhaa
open Go.RowKit

/-- what stand makes of a lone node -/
def stP (d : LNode) : LNode := begP { d with term := d.term + 1, vote := 0, role := 2, lead := -1, clock := 0, votes := [true] }
set_option maxRecDepth 100000 in
set_option maxHeartbeats 4000000 in
theorem stand_one (g : Nat) (F : Nat → Prop) (d : LNode) (w : World) (hd : ND w g F d) (hn : d.n = 1) (hi : d.id = 0) (ht : d.term ≤ 4611686018427387904)
    (hbl : (d.log.length + 1) * 32 ≤ 140737488351232) (hbb : d.base + d.log.length + 1 ≤ 9223372036854775807) (hbt : d.baseTerm ≤ 18446744073709551615) (hcm : d.commit ≤ lastN d) :
    Calls Try.prog 30 #[.pointer (some ⟨g, 0, none⟩)] w (fun en w' => en = .returned (.slice none 0 0) ∧ NDTo g F (stP d) w w') := by
  obtain ⟨S, E, V, M, X, hN, hF⟩ := hd
  have HN1 := Lib.hid hn
  have HI := Lib.hid hi
  have HF := Lib.hid hF
  clear hn hi hF
  go_enter Try.func30, Try.ntmps30
  go_upto_region 1 with fail
  have q0 : w.cell? ⟨g, 0, none⟩ = some (.int .u64 (d.term : Int)) := hN.blk.cell 0
  have q5 : w.cell? ⟨g, 5, none⟩ = some (.int .i64 0) := (hN.blk.cell 5).trans (congrArg some (congrArg (Value.int .i64) (congrArg Int.ofNat HI.out)))
  have hwr : IntKind.u64.wrap ((d.term : Int) + 1) = (d.term : Int) + 1 := by simp [IntKind.wrap, IntKind.bits, IntKind.signed]; omega
  go_still_tail 16, (by kernel_rfl)
  clear q0 q5 hwr
  have N1 := hN.below ((Below.refl _ _).drew)
  have B1 : BlP F w w.drew := (BlP.refl F w).drew
  change wpList _ _ _ _ _ w.drew
  generalize hw1 : w.drew = w1 at *
  have z1 : w.heap.size = w1.heap.size := by rw [← hw1]; rfl
  have HZ1 := Lib.hid z1
  clear hN hw1 z1
  have q0 : w1.cell? ⟨g, 0, none⟩ = some (.int .u64 (d.term : Int)) := N1.blk.cell 0
  have q1 : w1.cell? ⟨g, 1, none⟩ = some (.int .i64 d.vote) := N1.blk.cell 1
  have f0 : w1.frozen? ⟨g, 0, none⟩ = false := N1.blk.frozen 0
  have f1 : w1.frozen? ⟨g, 1, none⟩ = false := N1.blk.frozen 1
  have q8 : w1.cell? ⟨g, 8, none⟩ = some (.int .i64 d.role) := N1.blk.cell 8
  have q9 : w1.cell? ⟨g, 9, none⟩ = some (.int .i64 d.lead) := N1.blk.cell 9
  have q11 : w1.cell? ⟨g, 11, none⟩ = some (.int .i64 d.clock) := N1.blk.cell 11
  have f8 : w1.frozen? ⟨g, 8, none⟩ = false := N1.blk.frozen 8
  have f9 : w1.frozen? ⟨g, 9, none⟩ = false := N1.blk.frozen 9
  have f11 : w1.frozen? ⟨g, 11, none⟩ = false := N1.blk.frozen 11
  obtain ⟨w2, hw2⟩ : ∃ w2, w2 = (((((w1.setCell ⟨g, 0, none⟩ (.int .u64 ((d.term : Int) + 1))).setCell ⟨g, 1, none⟩ (.int .i64 0)).setCell ⟨g, 8, none⟩ (.int .i64 2)).setCell ⟨g, 9, none⟩ (.int .i64 (-1))).setCell ⟨g, 11, none⟩ (.int .i64 0)) := ⟨_, rfl⟩
  have g2 : w1.grownBy w2 (some g) := by rw [hw2]; exact only_setCell (only_setCell (only_setCell (only_setCell (only_setCell (only_of_below (Below.refl _ _) (some g)) (.inl rfl) _) (.inl rfl) _) (.inl rfl) _) (.inl rfl) _) (.inl rfl) _
  have N2 : NodeAt w2 g S E V M X { d with term := d.term + 1, vote := 0, role := 2, lead := -1, clock := 0 } :=
    N1.turn g2 (by rw [hw2]; exact ((((N1.blk.set_ 0 (.int .u64 ((d.term : Int) + 1))).set_ 1 (.int .i64 0)).set_ 8 (.int .i64 2)).set_ 9 (.int .i64 (-1))).set_ 11 (.int .i64 0)) ⟨rfl, rfl, rfl, rfl⟩
  have B2 := B1.grown g2 (fun b e h => (HF.out b h).1 (Option.some.inj e).symm)
  have D2 : ND w2 g F { d with term := d.term + 1, vote := 0, role := 2, lead := -1, clock := 0 } := ⟨_, _, _, _, _, N2, HF.out⟩
  have HW2 := Lib.hid hw2
  clear hw2
  go_upto_region 3 with fail
  rw [← HW2.out]
  clear q0 q1 f0 f1 q8 q9 q11 f8 f9 f11 N1 B1 g2
  have T := call_one g F _ 3 (d.term + 1) w2 D2 HN1.out HI.out
  replace T : Calls Try.prog 31 #[.pointer (some ⟨g, 0, none⟩), .int .i64 3, .int .u64 ((d.term : Int) + 1)] w2 _ := T
  have q0 : w2.cell? ⟨g, 0, none⟩ = some (.int .u64 ((d.term : Int) + 1)) := N2.blk.cell 0
  go_wp2_with fail
  refine T.mono ?_
  clear T q0 D2 N2
  rintro en w3 ⟨rfl, N3, B3⟩
  have D3 := N3
  obtain ⟨S3, E3, V3, M3, X3, n3, h3⟩ := N3
  obtain ⟨A3, c3, rfl⟩ := n3.vot.shape
  obtain ⟨gv, rfl, _, _⟩ := Own.form n3.vot (Nat.le_refl 1)
  have T := most_one g gv c3 E3 (.slice (some ⟨gv, 0, none⟩) 1 c3) M3 X3 _ w3 n3.blk HN1.out (n3.votCell rfl).1
  have q12 : w3.cell? ⟨g, 12, none⟩ = some (.slice (some ⟨gv, 0, none⟩) 1 c3) := n3.blk.cell 12
  clear n3 h3
  go_wp2_with fail
  refine T.mono ?_
  clear T q12
  rintro en w4 ⟨rfl, rfl⟩
  have T := begin_one g (fun b => F b ∧ b < w2.heap.size) _ w4 D3 HN1.out HI.out (by show d.term + 1 ≤ _; omega) hbl hbb hbt hcm
  clear D3
  go_wp2_with fail
  refine T.mono ?_
  clear T
  rintro en w5 ⟨rfl, N5, B5⟩
  go_wp2_with fail
  go_ret
  have z2 := B2.size
  have z3 := B3.size
  refine ⟨rfl, N5.mono (fun b h => ⟨⟨h.1, by omega⟩, by omega⟩), ?_⟩
  have B23 := B2.trans B3
  exact ⟨B5.os.trans B23.os, B5.tape.trans B23.tape, B5.output.trans B23.output, Nat.le_trans B23.size B5.size, fun b h1 h2 => (B5.block b (by omega) ⟨h2, by omega⟩).trans (B23.block b h1 h2)⟩
end Go.Proofs.Ytjpcekpllfelhaa
