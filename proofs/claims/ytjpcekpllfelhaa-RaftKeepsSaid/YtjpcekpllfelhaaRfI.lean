/- A lone node's Tick and Propose; New. -/
import Derived.Test.YtjpcekpllfelhaaRfH
import Derived.Deep.QuietTactic
import Derived.BigQuiet
namespace Go.Proofs.Ytjpcekpllfelhaa
open Go.RowKit

/-- what a tick makes of a lone node that does not lead -/
def tickP (d : LNode) : LNode := if d.clock + 1 < d.limit then { d with clock := d.clock + 1 } else stP { d with clock := 0 }
set_option maxRecDepth 100000 in
set_option maxHeartbeats 4000000 in
theorem tick_one (g : Nat) (F : Nat → Prop) (d : LNode) (w : World) (hd : ND w g F d) (hn : d.n = 1) (hi : d.id = 0) (ht : d.term < 4611686018427387904) (hr : (d.role == 3) = false) (hc1 : 0 ≤ d.clock) (hc2 : d.clock ≤ 100000) (hl1 : 0 ≤ d.limit) (hl2 : d.limit ≤ 100000)
    (hbl : (d.log.length + 1) * 32 ≤ 140737488351232) (hbb : d.base + d.log.length + 1 ≤ 9223372036854775807) (hbt : d.baseTerm ≤ 18446744073709551615) (hcm : d.commit ≤ lastN d) :
    Calls Try.prog 7 #[.pointer (some ⟨g, 0, none⟩)] w (fun en w' => en = .returned (.slice none 0 0) ∧ NDTo g F (tickP d) w w') := by
  obtain ⟨S, E, V, M, X, hN, hF⟩ := hd
  have HN1 := Lib.hid hn
  have HI := Lib.hid hi
  have HF := Lib.hid hF
  clear hn hi hF
  have q8 : w.cell? ⟨g, 8, none⟩ = some (.int .i64 d.role) := hN.blk.cell 8
  have q11 : w.cell? ⟨g, 11, none⟩ = some (.int .i64 d.clock) := hN.blk.cell 11
  have f11 : w.frozen? ⟨g, 11, none⟩ = false := hN.blk.frozen 11
  have g1 : w.grownBy (w.setCell ⟨g, 11, none⟩ (.int .i64 (d.clock + 1))) (some g) := only_setCell (only_of_below (Below.refl _ _) (some g)) (.inl rfl) _
  have N1 : NodeAt (w.setCell ⟨g, 11, none⟩ (.int .i64 (d.clock + 1))) g S E V M X { d with clock := d.clock + 1 } := hN.turn g1 (hN.blk.set_ 11 (.int .i64 (d.clock + 1))) ⟨rfl, rfl, rfl, rfl⟩
  have B1 := (BlP.refl F w).grown g1 (fun b e h => (HF.out b h).1 (Option.some.inj e).symm)
  go_enter Try.func7, Try.ntmps7
  go_upto_region 4 with fail
  clear q8 q11 f11 hN g1
  generalize hw1 : (w.setCell ⟨g, 11, none⟩ (.int .i64 (d.clock + 1))) = w1 at *
  have HZ : Hid (w.heap.size = w1.heap.size) := by show _ = _; rw [← hw1, World.size_setCell]
  clear hw1
  have q11 : w1.cell? ⟨g, 11, none⟩ = some (.int .i64 (d.clock + 1)) := N1.blk.cell 11
  have q7 : w1.cell? ⟨g, 7, none⟩ = some (.int .i64 d.limit) := N1.blk.cell 7
  have q5 : w1.cell? ⟨g, 5, none⟩ = some (.int .i64 0) := (N1.blk.cell 5).trans (congrArg some (congrArg (Value.int .i64) (congrArg Int.ofNat HI.out)))
  by_cases hlt : d.clock + 1 < d.limit
  · have HT : Hid (tickP d = { d with clock := d.clock + 1 }) := by show _ = _; unfold tickP; rw [if_pos hlt]
    go_quiet (fail)
    go_wp2_with fail
    go_ret
    rw [HT.out]
    refine ⟨rfl, ⟨_, _, _, _, _, N1.below (below_drewN (Below.refl _ _) _), fun b h => HF.out b h.1⟩, B1.drewN _⟩
  · have HT : Hid (tickP d = stP { d with clock := 0 }) := by show _ = _; unfold tickP; rw [if_neg hlt]
    go_quiet (fail)
    go_upto_region 6 with fail
    have d2 : Below w1.heap.size w1 (w1.drewN nq) := below_drewN (Below.refl _ _) nq
    have N2 := N1.below d2
    have B2 := B1.drewN nq
    have HZ2 : Hid (w1.heap.size = (w1.drewN nq).heap.size) := rfl
    clear N1 B1 d2 q11 q7 q5
    generalize (w1.drewN nq) = w2 at *
    have q11 : w2.cell? ⟨g, 11, none⟩ = some (.int .i64 (d.clock + 1)) := N2.blk.cell 11
    have f11 : w2.frozen? ⟨g, 11, none⟩ = false := N2.blk.frozen 11
    have q0 : w2.cell? ⟨g, 0, none⟩ = some (.int .u64 (d.term : Int)) := N2.blk.cell 0
    have q6 : w2.cell? ⟨g, 6, none⟩ = some (.int .i64 1) := (N2.blk.cell 6).trans (congrArg some (congrArg (Value.int .i64) (congrArg Int.ofNat HN1.out)))
    have e0 : ((d.term : Int) == 4611686018427387904) = false := by rw [beq_eq_false_iff_ne]; omega
    have g3 : w2.grownBy (w2.setCell ⟨g, 11, none⟩ (.int .i64 0)) (some g) := only_setCell (only_of_below (Below.refl _ _) (some g)) (.inl rfl) _
    have N3 : NodeAt (w2.setCell ⟨g, 11, none⟩ (.int .i64 0)) g S E V M X { d with clock := 0 } := N2.turn g3 (N2.blk.set_ 11 (.int .i64 0)) ⟨rfl, rfl, rfl, rfl⟩
    have B3 := B2.grown g3 (fun b e h => (HF.out b h).1 (Option.some.inj e).symm)
    have T := stand_one g F { d with clock := 0 } (w2.setCell ⟨g, 11, none⟩ (.int .i64 0)) ⟨_, _, _, _, _, N3, HF.out⟩ HN1.out HI.out (Nat.le_of_lt ht) hbl hbb hbt hcm
    rw [← HT.out] at T
    clear N3 g3 N2 B2
    go_wp2_with fail
    refine T.mono ?_
    clear T
    rintro en w4 ⟨rfl, N4, B4⟩
    go_wp2_with fail
    go_ret
    exact ⟨rfl, N4.mono (fun b h => ⟨h.1, by have := B3.size; omega⟩), B3.trans B4⟩
set_option maxRecDepth 100000 in
set_option maxHeartbeats 1000000 in
theorem propose_one (g : Nat) (F : Nat → Prop) (d : LNode) (m : Nat) (D : Option Addr) (data : List UInt8) (dc : Nat) (w : World) (hd : ND w g F d) (hD : Bs w D data) (hn : d.n = 1) (hi : d.id = 0) (hm : d.mat = [m]) (hr : (d.role == 3) = true) (ht : d.term ≤ 18446744073709551615)
    (hbl : (d.log.length + 1) * 32 ≤ 140737488351232) (hbb : d.base + d.log.length + 1 ≤ 9223372036854775807) (hbt : d.baseTerm ≤ 18446744073709551615) (hcm : d.commit ≤ lastN d) :
    Calls Try.prog 9 #[.pointer (some ⟨g, 0, none⟩), .slice D data.length dc] w (fun en w' => en = .returned (.tuple #[.int .u64 ((lastN d + 1 : Nat) : Int), .slice none 0 0, .int .i64 0]) ∧ NDTo g F (addP d data) w w') := by
  have T := add_one g F d m D data dc w hd hD hn hi hm ht hbl hbb hbt hcm
  obtain ⟨S, E, V, M, X, hN, hF⟩ := hd
  have q8 : w.cell? ⟨g, 8, none⟩ = some (.int .i64 d.role) := hN.blk.cell 8
  have hll : (addP d data).log.length = d.log.length + 1 := by show (d.log ++ _).length = _; rw [List.length_append]; rfl
  have hln : lastN (addP d data) = lastN d + 1 := by unfold lastN; rw [hll]; rfl
  have hb : NodeB (addP d data) := ⟨by rw [hll]; exact hbb, hbt⟩
  have HLN := Lib.hid hln
  clear hN hF hn hi hm hll hln
  go_enter Try.func9, Try.ntmps9
  go_wp2_with fail
  refine T.mono ?_
  clear T q8
  rintro en w2 ⟨rfl, N2, B2⟩
  obtain ⟨S2, E2, V2, M2, X2, n2, h2⟩ := N2
  obtain ⟨A2, c2, rfl⟩ := n2.log.shape
  have T := last_any g A2 c2 V2 M2 X2 (addP d data) w2 n2.blk hb
  rw [HLN.out] at T
  go_wp2_with fail
  refine T.mono ?_
  clear T
  rintro en w3 ⟨rfl, q, hq⟩
  have d3 : Below w2.heap.size w2 w3 := by rw [hq]; exact ⟨rfl, rfl, rfl, Nat.le_refl _, fun _ _ => rfl⟩
  have N3 := n2.below d3
  have B3 := B2.trans (.of_below d3)
  clear hq d3 n2 B2
  go_wp2_with fail
  go_ret3
  exact ⟨rfl, ⟨_, _, _, _, _, N3, h2⟩, B3⟩
end Go.Proofs.Ytjpcekpllfelhaa
