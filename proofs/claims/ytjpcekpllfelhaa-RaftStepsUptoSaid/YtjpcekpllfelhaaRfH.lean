/- A lone node's stand, Tick, Propose. (Printed by wip/gen_rfh.py.) A lone node's Tick and Propose; New. New: a node with a state. -/
import Derived.Test.YtjpcekpllfelhaaRfG
import Derived.StillTailTactics
import Derived.Deep.QuietTactic
import Derived.BigQuiet
namespace Go.Proofs.Ytjpcekpllfelhaa
open Go.RowKit

/-- what stand makes of a lone node -/
def stP (d : LNode) : LNode := begP { d with term := d.term + 1, vote := 0, role := 2, lead := -1, clock := 0, votes := [true] }
set_option maxRecDepth 100000 in
set_option maxHeartbeats 4000000 in
theorem stand_one (g : Nat) (F : Nat → Prop) (d : LNode) (w : World) (hd : ND w g F d) (hn : d.n = 1) (hi : d.id = 0) (ht : d.term ≤ 4611686018427387904)
    (hbl : (d.log.length + 1) * 32 ≤ 140737488351232) (hbb : d.base + d.log.length + 1 ≤ 9223372036854775807) (hbt : d.baseTerm ≤ 18446744073709551615) (hcm : d.commit ≤ lastN d) :
    Calls Try.prog 30 #[.pointer (some ⟨g, 0, none⟩)] w (fun en w' => en = .returned (.slice none 0 0) ∧ NDTo g F (stP d) w w') := by
  obtain ⟨S, E, V, M, X, hN, hF⟩ := hd
  have HN1 := Lib.hid hn
  have HI := Lib.hid hi
  have HF := Lib.hid hF
  clear hn hi hF
  go_enter Try.func30, Try.ntmps30
  go_upto_region 1 with fail
  have q0 : w.cell? ⟨g, 0, none⟩ = some (.int .u64 (d.term : Int)) := hN.blk.cell 0
  have q5 : w.cell? ⟨g, 5, none⟩ = some (.int .i64 0) := (hN.blk.cell 5).trans (congrArg some (congrArg (Value.int .i64) (congrArg Int.ofNat HI.out)))
  have hwr : IntKind.u64.wrap ((d.term : Int) + 1) = (d.term : Int) + 1 := by simp [IntKind.wrap, IntKind.bits, IntKind.signed]; omega
  go_still_tail 16, (by kernel_rfl)
  clear q0 q5 hwr
  have N1 := hN.below ((Below.refl _ _).drew)
  have B1 : BlP F w w.drew := (BlP.refl F w).drew
  change wpList _ _ _ _ _ w.drew
  generalize hw1 : w.drew = w1 at *
  have z1 : w.heap.size = w1.heap.size := by rw [← hw1]; rfl
  have HZ1 := Lib.hid z1
  clear hN hw1 z1
  have q0 : w1.cell? ⟨g, 0, none⟩ = some (.int .u64 (d.term : Int)) := N1.blk.cell 0
  have q1 : w1.cell? ⟨g, 1, none⟩ = some (.int .i64 d.vote) := N1.blk.cell 1
  have f0 : w1.frozen? ⟨g, 0, none⟩ = false := N1.blk.frozen 0
  have f1 : w1.frozen? ⟨g, 1, none⟩ = false := N1.blk.frozen 1
  have q8 : w1.cell? ⟨g, 8, none⟩ = some (.int .i64 d.role) := N1.blk.cell 8
  have q9 : w1.cell? ⟨g, 9, none⟩ = some (.int .i64 d.lead) := N1.blk.cell 9
  have q11 : w1.cell? ⟨g, 11, none⟩ = some (.int .i64 d.clock) := N1.blk.cell 11
  have f8 : w1.frozen? ⟨g, 8, none⟩ = false := N1.blk.frozen 8
  have f9 : w1.frozen? ⟨g, 9, none⟩ = false := N1.blk.frozen 9
  have f11 : w1.frozen? ⟨g, 11, none⟩ = false := N1.blk.frozen 11
  obtain ⟨w2, hw2⟩ : ∃ w2, w2 = (((((w1.setCell ⟨g, 0, none⟩ (.int .u64 ((d.term : Int) + 1))).setCell ⟨g, 1, none⟩ (.int .i64 0)).setCell ⟨g, 8, none⟩ (.int .i64 2)).setCell ⟨g, 9, none⟩ (.int .i64 (-1))).setCell ⟨g, 11, none⟩ (.int .i64 0)) := ⟨_, rfl⟩
  have g2 : w1.grownBy w2 (some g) := by rw [hw2]; exact only_setCell (only_setCell (only_setCell (only_setCell (only_setCell (only_of_below (Below.refl _ _) (some g)) (.inl rfl) _) (.inl rfl) _) (.inl rfl) _) (.inl rfl) _) (.inl rfl) _
  have N2 : NodeAt w2 g S E V M X { d with term := d.term + 1, vote := 0, role := 2, lead := -1, clock := 0 } :=
    N1.turn g2 (by rw [hw2]; exact ((((N1.blk.set_ 0 (.int .u64 ((d.term : Int) + 1))).set_ 1 (.int .i64 0)).set_ 8 (.int .i64 2)).set_ 9 (.int .i64 (-1))).set_ 11 (.int .i64 0)) ⟨rfl, rfl, rfl, rfl⟩
  have B2 := B1.grown g2 (fun b e h => (HF.out b h).1 (Option.some.inj e).symm)
  have D2 : ND w2 g F { d with term := d.term + 1, vote := 0, role := 2, lead := -1, clock := 0 } := ⟨_, _, _, _, _, N2, HF.out⟩
  have HW2 := Lib.hid hw2
  clear hw2
  go_upto_region 3 with fail
  rw [← HW2.out]
  clear q0 q1 f0 f1 q8 q9 q11 f8 f9 f11 N1 B1 g2
  have T := call_one g F _ 3 (d.term + 1) w2 D2 HN1.out HI.out
  replace T : Calls Try.prog 31 #[.pointer (some ⟨g, 0, none⟩), .int .i64 3, .int .u64 ((d.term : Int) + 1)] w2 _ := T
  have q0 : w2.cell? ⟨g, 0, none⟩ = some (.int .u64 ((d.term : Int) + 1)) := N2.blk.cell 0
  go_wp2_with fail
  refine T.mono ?_
  clear T q0 D2 N2
  rintro en w3 ⟨rfl, N3, B3⟩
  have D3 := N3
  obtain ⟨S3, E3, V3, M3, X3, n3, h3⟩ := N3
  obtain ⟨A3, c3, rfl⟩ := n3.vot.shape
  obtain ⟨gv, rfl, _, _⟩ := Own.form n3.vot (Nat.le_refl 1)
  have T := most_one g gv c3 E3 (.slice (some ⟨gv, 0, none⟩) 1 c3) M3 X3 _ w3 n3.blk HN1.out (n3.votCell rfl).1
  have q12 : w3.cell? ⟨g, 12, none⟩ = some (.slice (some ⟨gv, 0, none⟩) 1 c3) := n3.blk.cell 12
  clear n3 h3
  go_wp2_with fail
  refine T.mono ?_
  clear T q12
  rintro en w4 ⟨rfl, rfl⟩
  have T := begin_one g (fun b => F b ∧ b < w2.heap.size) _ w4 D3 HN1.out HI.out (by show d.term + 1 ≤ _; omega) hbl hbb hbt hcm
  clear D3
  go_wp2_with fail
  refine T.mono ?_
  clear T
  rintro en w5 ⟨rfl, N5, B5⟩
  go_wp2_with fail
  go_ret
  have z2 := B2.size
  have z3 := B3.size
  refine ⟨rfl, N5.mono (fun b h => ⟨⟨h.1, by omega⟩, by omega⟩), ?_⟩
  have B23 := B2.trans B3
  exact ⟨B5.os.trans B23.os, B5.tape.trans B23.tape, B5.output.trans B23.output, Nat.le_trans B23.size B5.size, fun b h1 h2 => (B5.block b (by omega) ⟨h2, by omega⟩).trans (B23.block b h1 h2)⟩
end Go.Proofs.Ytjpcekpllfelhaa

namespace Go.Proofs.Ytjpcekpllfelhaa
open Go.RowKit

/-- what a tick makes of a lone node that does not lead -/
def tickP (d : LNode) : LNode := if d.clock + 1 < d.limit then { d with clock := d.clock + 1 } else stP { d with clock := 0 }
set_option maxRecDepth 100000 in
set_option maxHeartbeats 4000000 in
theorem tick_one (g : Nat) (F : Nat → Prop) (d : LNode) (w : World) (hd : ND w g F d) (hn : d.n = 1) (hi : d.id = 0) (ht : d.term < 4611686018427387904) (hr : (d.role == 3) = false) (hc1 : 0 ≤ d.clock) (hc2 : d.clock ≤ 100000) (hl1 : 0 ≤ d.limit) (hl2 : d.limit ≤ 100000)
    (hbl : (d.log.length + 1) * 32 ≤ 140737488351232) (hbb : d.base + d.log.length + 1 ≤ 9223372036854775807) (hbt : d.baseTerm ≤ 18446744073709551615) (hcm : d.commit ≤ lastN d) :
    Calls Try.prog 7 #[.pointer (some ⟨g, 0, none⟩)] w (fun en w' => en = .returned (.slice none 0 0) ∧ NDTo g F (tickP d) w w') := by
  obtain ⟨S, E, V, M, X, hN, hF⟩ := hd
  have HN1 := Lib.hid hn
  have HI := Lib.hid hi
  have HF := Lib.hid hF
  clear hn hi hF
  have q8 : w.cell? ⟨g, 8, none⟩ = some (.int .i64 d.role) := hN.blk.cell 8
  have q11 : w.cell? ⟨g, 11, none⟩ = some (.int .i64 d.clock) := hN.blk.cell 11
  have f11 : w.frozen? ⟨g, 11, none⟩ = false := hN.blk.frozen 11
  have g1 : w.grownBy (w.setCell ⟨g, 11, none⟩ (.int .i64 (d.clock + 1))) (some g) := only_setCell (only_of_below (Below.refl _ _) (some g)) (.inl rfl) _
  have N1 : NodeAt (w.setCell ⟨g, 11, none⟩ (.int .i64 (d.clock + 1))) g S E V M X { d with clock := d.clock + 1 } := hN.turn g1 (hN.blk.set_ 11 (.int .i64 (d.clock + 1))) ⟨rfl, rfl, rfl, rfl⟩
  have B1 := (BlP.refl F w).grown g1 (fun b e h => (HF.out b h).1 (Option.some.inj e).symm)
  go_enter Try.func7, Try.ntmps7
  go_upto_region 4 with fail
  clear q8 q11 f11 hN g1
  generalize hw1 : (w.setCell ⟨g, 11, none⟩ (.int .i64 (d.clock + 1))) = w1 at *
  have HZ : Hid (w.heap.size = w1.heap.size) := by show _ = _; rw [← hw1, World.size_setCell]
  clear hw1
  have q11 : w1.cell? ⟨g, 11, none⟩ = some (.int .i64 (d.clock + 1)) := N1.blk.cell 11
  have q7 : w1.cell? ⟨g, 7, none⟩ = some (.int .i64 d.limit) := N1.blk.cell 7
  have q5 : w1.cell? ⟨g, 5, none⟩ = some (.int .i64 0) := (N1.blk.cell 5).trans (congrArg some (congrArg (Value.int .i64) (congrArg Int.ofNat HI.out)))
  by_cases hlt : d.clock + 1 < d.limit
  · have HT : Hid (tickP d = { d with clock := d.clock + 1 }) := by show _ = _; unfold tickP; rw [if_pos hlt]
    go_quiet (fail)
    go_wp2_with fail
    go_ret
    rw [HT.out]
    refine ⟨rfl, ⟨_, _, _, _, _, N1.below (below_drewN (Below.refl _ _) _), fun b h => HF.out b h.1⟩, B1.drewN _⟩
  · have HT : Hid (tickP d = stP { d with clock := 0 }) := by show _ = _; unfold tickP; rw [if_neg hlt]
    go_quiet (fail)
    go_upto_region 6 with fail
    have d2 : Below w1.heap.size w1 (w1.drewN nq) := below_drewN (Below.refl _ _) nq
    have N2 := N1.below d2
    have B2 := B1.drewN nq
    have HZ2 : Hid (w1.heap.size = (w1.drewN nq).heap.size) := rfl
    clear N1 B1 d2 q11 q7 q5
    generalize (w1.drewN nq) = w2 at *
    have q11 : w2.cell? ⟨g, 11, none⟩ = some (.int .i64 (d.clock + 1)) := N2.blk.cell 11
    have f11 : w2.frozen? ⟨g, 11, none⟩ = false := N2.blk.frozen 11
    have q0 : w2.cell? ⟨g, 0, none⟩ = some (.int .u64 (d.term : Int)) := N2.blk.cell 0
    have q6 : w2.cell? ⟨g, 6, none⟩ = some (.int .i64 1) := (N2.blk.cell 6).trans (congrArg some (congrArg (Value.int .i64) (congrArg Int.ofNat HN1.out)))
    have e0 : ((d.term : Int) == 4611686018427387904) = false := by rw [beq_eq_false_iff_ne]; omega
    have g3 : w2.grownBy (w2.setCell ⟨g, 11, none⟩ (.int .i64 0)) (some g) := only_setCell (only_of_below (Below.refl _ _) (some g)) (.inl rfl) _
    have N3 : NodeAt (w2.setCell ⟨g, 11, none⟩ (.int .i64 0)) g S E V M X { d with clock := 0 } := N2.turn g3 (N2.blk.set_ 11 (.int .i64 0)) ⟨rfl, rfl, rfl, rfl⟩
    have B3 := B2.grown g3 (fun b e h => (HF.out b h).1 (Option.some.inj e).symm)
    have T := stand_one g F { d with clock := 0 } (w2.setCell ⟨g, 11, none⟩ (.int .i64 0)) ⟨_, _, _, _, _, N3, HF.out⟩ HN1.out HI.out (Nat.le_of_lt ht) hbl hbb hbt hcm
    rw [← HT.out] at T
    clear N3 g3 N2 B2
    go_wp2_with fail
    refine T.mono ?_
    clear T
    rintro en w4 ⟨rfl, N4, B4⟩
    go_wp2_with fail
    go_ret
    exact ⟨rfl, N4.mono (fun b h => ⟨h.1, by have := B3.size; omega⟩), B3.trans B4⟩
set_option maxRecDepth 100000 in
set_option maxHeartbeats 1000000 in
theorem propose_one (g : Nat) (F : Nat → Prop) (d : LNode) (m : Nat) (D : Option Addr) (data : List UInt8) (dc : Nat) (w : World) (hd : ND w g F d) (hD : Bs w D data) (hn : d.n = 1) (hi : d.id = 0) (hm : d.mat = [m]) (hr : (d.role == 3) = true) (ht : d.term ≤ 18446744073709551615)
    (hbl : (d.log.length + 1) * 32 ≤ 140737488351232) (hbb : d.base + d.log.length + 1 ≤ 9223372036854775807) (hbt : d.baseTerm ≤ 18446744073709551615) (hcm : d.commit ≤ lastN d) :
    Calls Try.prog 9 #[.pointer (some ⟨g, 0, none⟩), .slice D data.length dc] w (fun en w' => en = .returned (.tuple #[.int .u64 ((lastN d + 1 : Nat) : Int), .slice none 0 0, .int .i64 0]) ∧ NDTo g F (addP d data) w w') := by
  have T := add_one g F d m D data dc w hd hD hn hi hm ht hbl hbb hbt hcm
  obtain ⟨S, E, V, M, X, hN, hF⟩ := hd
  have q8 : w.cell? ⟨g, 8, none⟩ = some (.int .i64 d.role) := hN.blk.cell 8
  have hll : (addP d data).log.length = d.log.length + 1 := by show (d.log ++ _).length = _; rw [List.length_append]; rfl
  have hln : lastN (addP d data) = lastN d + 1 := by unfold lastN; rw [hll]; rfl
  have hb : NodeB (addP d data) := ⟨by rw [hll]; exact hbb, hbt⟩
  have HLN := Lib.hid hln
  clear hN hF hn hi hm hll hln
  go_enter Try.func9, Try.ntmps9
  go_wp2_with fail
  refine T.mono ?_
  clear T q8
  rintro en w2 ⟨rfl, N2, B2⟩
  obtain ⟨S2, E2, V2, M2, X2, n2, h2⟩ := N2
  obtain ⟨A2, c2, rfl⟩ := n2.log.shape
  have T := last_any g A2 c2 V2 M2 X2 (addP d data) w2 n2.blk hb
  rw [HLN.out] at T
  go_wp2_with fail
  refine T.mono ?_
  clear T
  rintro en w3 ⟨rfl, q, hq⟩
  have d3 : Below w2.heap.size w2 w3 := by rw [hq]; exact ⟨rfl, rfl, rfl, Nat.le_refl _, fun _ _ => rfl⟩
  have N3 := n2.below d3
  have B3 := B2.trans (.of_below d3)
  clear hq d3 n2 B2
  go_wp2_with fail
  go_ret3
  exact ⟨rfl, ⟨_, _, _, _, _, N3, h2⟩, B3⟩
end Go.Proofs.Ytjpcekpllfelhaa

namespace Go.Proofs.Ytjpcekpllfelhaa
open Go.RowKit

theorem Try.size_St : (Try.prog.info? 33).map (·.size) = some 5 := by kernel_rfl
/-- the node that New makes -/
def newP (id n : Nat) (limit : Int) (term : Nat) (vote : Int) (base baseTerm : Nat) (L : List LEnt) : LNode := ⟨term, vote, base, baseTerm, L, id, n, limit, 0, -1, base, 0, [], [], []⟩
set_option maxRecDepth 100000 in
set_option maxHeartbeats 2000000 in
theorem new_ok (id n : Nat) (limit : Int) (term : Nat) (vote : Int) (base baseTerm : Nat) (A : Option Addr) (L : List LEnt) (c : Nat) (S : Nat → Prop) (w : World) (hl : SlS EntE w S A L)
    (hn1 : 1 ≤ n) (hn2 : n ≤ 5) (hid : id < n) (hl1 : 1 ≤ limit) (hl2 : limit ≤ 1000) (hv1 : -1 ≤ vote) (hv2 : vote < n) (hr : risingP L baseTerm term = true) (hb : base ≤ 4611686018427387904) (ht : term ≤ 4611686018427387904) :
    Calls Try.prog 6 #[.int .i64 (id : Int), .int .i64 (n : Int), .int .i64 limit, .agg #[.int .u64 (term : Int), .int .i64 vote, .int .u64 (base : Int), .int .u64 (baseTerm : Int), .slice A L.length c]] w
      (fun en w' => ∃ g, en = .returned (.tuple #[.pointer (some ⟨g, 0, none⟩), .int .i64 0]) ∧ w.heap.size ≤ g ∧ ND w' g (fun b => b < w.heap.size) (newP id n limit term vote base baseTerm L) ∧ Below w.heap.size w w') := by
  have hL := hl.1
  have h1 : ¬ (n : Int) < 1 := by omega
  have h2 : ¬ (5 : Int) < (n : Int) := by omega
  have h3 : ¬ (id : Int) < 0 := by omega
  have h4 : ¬ (n : Int) ≤ (id : Int) := by omega
  have h5 : ¬ limit < 1 := by omega
  have h6 : ¬ (1000 : Int) < limit := by omega
  have h7 : ¬ vote < -1 := by omega
  have h8 : ¬ (n : Int) ≤ vote := by omega
  have h9 : ¬ (4611686018427387904 : Int) < (base : Int) := by omega
  have h10 : ¬ (4611686018427387904 : Int) < (term : Int) := by omega
  have kB := Blk.new w 33 #[.int .u64 (term : Int), .int .i64 vote, .int .u64 (base : Int), .int .u64 (baseTerm : Int), .slice A L.length c]
  have dB : Below w.heap.size w (w.alloc (.cells #[.int .u64 (term : Int), .int .i64 vote, .int .u64 (base : Int), .int .u64 (baseTerm : Int), .slice A L.length c] 33)) := (Below.refl _ _).alloc (Nat.le_refl _) _
  go_enter Try.func6, Try.ntmps6
  go_upto_region 1 with fail
  generalize (w.alloc (.cells #[.int .u64 (term : Int), .int .i64 vote, .int .u64 (base : Int), .int .u64 (baseTerm : Int), .slice A L.length c] 33)) = w1 at *
  have s0 : w1.cell? ⟨w.heap.size, 0, none⟩ = some (.int .u64 (term : Int)) := kB.cell 0
  have s1 : w1.cell? ⟨w.heap.size, 1, none⟩ = some (.int .i64 vote) := kB.cell 1
  have s3 : w1.cell? ⟨w.heap.size, 3, none⟩ = some (.int .u64 (baseTerm : Int)) := kB.cell 3
  have s4 : w1.cell? ⟨w.heap.size, 4, none⟩ = some (.slice A L.length c) := kB.cell 4
  have T := rising_any A L c S baseTerm term w1 (hl.below dB) (by simp only [EntE] at hL; omega)
  rw [hr] at T
  clear hr
  go_wp2_with fail
  refine T.mono ?_
  clear T s0 s1 s3 s4
  rintro en w2 ⟨rfl, b2⟩
  have k2 := kB.below b2 kB.lt
  have b02 := below_step dB b2
  have l2 := hl.below b02
  have lB := kB.lt
  clear b2 kB dB hl
  have s0 : w2.cell? ⟨w.heap.size, 0, none⟩ = some (.int .u64 (term : Int)) := k2.cell 0
  have s2 : w2.cell? ⟨w.heap.size, 2, none⟩ = some (.int .u64 (base : Int)) := k2.cell 2
  have s4 : w2.cell? ⟨w.heap.size, 4, none⟩ = some (.slice A L.length c) := k2.cell 4
  have T := twins_any A L c S w2 l2
  go_wp2_with fail
  refine T.mono ?_
  clear T s0 s2 s4
  rintro en w3 ⟨A3, c3, rfl, o3, b3⟩
  have k3 := k2.below b3 k2.lt
  have b03 := below_step b02 b3
  have z2 : w.heap.size < w2.heap.size := k2.lt
  have hk4 := k3.set_ 4 (.slice A3 L.length c3)
  have k4 : Blk (w3.setCell ⟨w.heap.size, 4, none⟩ (.slice A3 L.length c3)) w.heap.size 33 #[.int .u64 (term : Int), .int .i64 vote, .int .u64 (base : Int), .int .u64 (baseTerm : Int), .slice A3 L.length c3] := hk4
  have g4 : w3.grownBy (w3.setCell ⟨w.heap.size, 4, none⟩ (.slice A3 L.length c3)) (some w.heap.size) := only_setCell (only_of_below (Below.refl _ _) (some w.heap.size)) (.inl rfl) _
  have b04 := b03.grown g4 b03.size (fun j e => by have := Option.some.inj e; omega)
  replace o3 := Own.ent o3
  have o4 := o3.same g4 (by
    cases e : (Value.slice A3 L.length c3).ownBlock with
    | none => exact .inl rfl
    | some b => exact .inr fun e2 => by have h1 := Option.some.inj e2; have := (o3.lt b e).1; omega) (fun b h e => by have h1 := Option.some.inj e; have h : w2.heap.size ≤ b := h; omega)
  have y4 : w3.cell? ⟨w.heap.size, 4, none⟩ = some (.slice A L.length c) := k3.cell 4
  have f4 : w3.frozen? ⟨w.heap.size, 4, none⟩ = false := k3.frozen 4
  have z3 := b3.size
  clear hk4 k2 b02 l2 b3 k3 b03 o3
  go_upto_region 6 with fail
  have ZG := Lib.hid g4.size
  clear y4 f4 g4
  generalize (w3.setCell ⟨w.heap.size, 4, none⟩ (.slice A3 L.length c3)) = w4 at *
  have s2 : w4.cell? ⟨w.heap.size, 2, none⟩ = some (.int .u64 (base : Int)) := k4.cell 2
  go_wp2_with ((with_reducible refine wpList_load_blk rfl 33 (.tmp 7) rfl w.heap.size ?_ 33 _ _ k4 Try.underlying33 ?_ Try.size_St ?_ ?_); rfl; rfl; rfl)
  have d5 : Below w4.heap.size w4 (w4.alloc (.cells (nodeC (.slice A3 L.length c3) (.slice none 0 0) (.slice none 0 0) (.slice none 0 0) (newP id n limit term vote base baseTerm L)) 48)) := (Below.refl _ _).alloc (Nat.le_refl _) _
  have k5 := Blk.new w4 48 (nodeC (.slice A3 L.length c3) (.slice none 0 0) (.slice none 0 0) (.slice none 0 0) (newP id n limit term vote base baseTerm L))
  have z4 := b04.size
  have zz : w2.heap.size ≤ w4.heap.size := Nat.le_trans z3 ZG.out
  go_ret2
  refine ⟨w4.heap.size, rfl, z4, ?_, below_step b04 d5⟩
  refine ⟨fun b => w2.heap.size ≤ b ∧ b < w4.heap.size, .slice A3 L.length c3, .slice none 0 0, .slice none 0 0, .slice none 0 0, ⟨k5, ?_, Own.nil_ _ _ _ _ _, Own.nil_ _ _ _ _ _, Own.nil_ _ _ _ _ _, (fun _ e => by cases e), fun b h => ⟨by omega, (fun e => by cases e), (fun e => by cases e), (fun e => by cases e)⟩, fun b h => Nat.lt_of_lt_of_le h.2 d5.size⟩, fun b h => ⟨by omega, (fun e => by omega), fun e => ?_, (fun e => by cases e), (fun e => by cases e), (fun e => by cases e)⟩⟩
  · exact ((o4.base (Nat.zero_le _)).mono fun b h1 _ h2 => ⟨h2, h1⟩).below d5
  · have := (o4.lt b e).1
    omega
end Go.Proofs.Ytjpcekpllfelhaa
