/- stand and Tick of a node of a group. -/
import Derived.Test.YtjpcekpllfelhaaRsI
import Derived.StillTailTactics
namespace Go.Proofs.Ytjpcekpllfelhaa
open Go.RowKit

theorem RetMs.mono {g : Nat} {F F' : Nat → Prop} {r : LNode × List LMsg} {w0 w : World} {en : Ending} {w' : World} (h : RetMs g F' r w en w') (hb : BlP F w0 w) (hf : ∀ b, b < w0.heap.size → F b → F' b) : RetMs g F r w0 en w' := by
  obtain ⟨A, c, k0, h1, h2, h3, h4, h5⟩ := h
  refine ⟨A, c, k0, h1, Nat.le_trans hb.size h2, h3, h4.mono fun b hb' => hb'.imp (fun h => ⟨hf b h.2 h.1, Nat.lt_of_lt_of_le h.2 hb.size⟩) id, ?_⟩
  exact ⟨h5.os.trans hb.os, h5.tape.trans hb.tape, h5.output.trans hb.output, Nat.le_trans hb.size h5.size, fun b h1 h2 => (h5.block b (Nat.lt_of_lt_of_le h1 hb.size) (hf b h1 h2)).trans (hb.block b h1 h2)⟩
/-- no messages -/
theorem RetMs.nil_ {g : Nat} {F F' : Nat → Prop} {d : LNode} {w0 w' : World} (h : ND w' g F' d) (hf : ∀ b, b < w0.heap.size → F b → F' b) (hn : ∀ b, w'.heap.size ≤ b → F' b) (hb : BlP F w0 w') : RetMs g F (d, []) w0 (.returned (.slice none 0 0)) w' :=
  ⟨none, 0, w'.heap.size, rfl, hb.size, Own.nil_ _ _ _ _ _, h.mono fun b hb' => hb'.elim (fun h => hf b h.2 h.1) (fun h => hn b h), hb⟩
theorem ND.all {w : World} {g : Nat} {F : Nat → Prop} {d : LNode} (h : ND w g F d) : ND w g (fun b => F b ∨ w.heap.size ≤ b) d := h.new (Below.refl _ _)
set_option maxRecDepth 100000 in
set_option maxHeartbeats 4000000 in
theorem stand_any (g : Nat) (F : Nat → Prop) (d : LNode) (w : World) (hd : ND w g F d) (hb : GB d) (hbl : d.log.length + 1 ≤ 1048576) (htm : d.term + 1 ≤ 4611686018427387904) (hn1 : 1 ≤ d.n) (hn5 : d.n ≤ 12) (hi : d.id < d.n) :
    Calls Try.prog 30 #[.pointer (some ⟨g, 0, none⟩)] w (RetMs g F (stG d) w) := by
  obtain ⟨S, E, V, M, X, hN, hF⟩ := hd
  have HF := Lib.hid hF
  clear hF
  go_enter Try.func30, Try.ntmps30
  go_upto_region 1 with fail
  have q0 : w.cell? ⟨g, 0, none⟩ = some (.int .u64 (d.term : Int)) := hN.blk.cell 0
  have q5 : w.cell? ⟨g, 5, none⟩ = some (.int .i64 (d.id : Int)) := hN.blk.cell 5
  have hwr : IntKind.u64.wrap ((d.term : Int) + 1) = (d.term : Int) + 1 := by simp [IntKind.wrap, IntKind.bits, IntKind.signed]; omega
  go_still_tail 16, (by kernel_rfl)
  clear q0 q5 hwr
  have N1 := hN.below ((Below.refl _ _).drew)
  have B1 : BlP F w w.drew := (BlP.refl F w).drew
  change wpList _ _ _ _ _ w.drew
  generalize w.drew = w1 at *
  clear hN
  have q0 : w1.cell? ⟨g, 0, none⟩ = some (.int .u64 (d.term : Int)) := N1.blk.cell 0
  have q1 : w1.cell? ⟨g, 1, none⟩ = some (.int .i64 d.vote) := N1.blk.cell 1
  have f0 : w1.frozen? ⟨g, 0, none⟩ = false := N1.blk.frozen 0
  have f1 : w1.frozen? ⟨g, 1, none⟩ = false := N1.blk.frozen 1
  have q8 : w1.cell? ⟨g, 8, none⟩ = some (.int .i64 d.role) := N1.blk.cell 8
  have q9 : w1.cell? ⟨g, 9, none⟩ = some (.int .i64 d.lead) := N1.blk.cell 9
  have q11 : w1.cell? ⟨g, 11, none⟩ = some (.int .i64 d.clock) := N1.blk.cell 11
  have f8 : w1.frozen? ⟨g, 8, none⟩ = false := N1.blk.frozen 8
  have f9 : w1.frozen? ⟨g, 9, none⟩ = false := N1.blk.frozen 9
  have f11 : w1.frozen? ⟨g, 11, none⟩ = false := N1.blk.frozen 11
  obtain ⟨w2, hw2⟩ : ∃ w2, w2 = (((((w1.setCell ⟨g, 0, none⟩ (.int .u64 ((d.term : Int) + 1))).setCell ⟨g, 1, none⟩ (.int .i64 (d.id : Int))).setCell ⟨g, 8, none⟩ (.int .i64 2)).setCell ⟨g, 9, none⟩ (.int .i64 (-1))).setCell ⟨g, 11, none⟩ (.int .i64 0)) := ⟨_, rfl⟩
  obtain ⟨d2, hd2⟩ : ∃ d2 : LNode, d2 = { d with term := d.term + 1, vote := d.id, role := 2, lead := -1, clock := 0 } := ⟨_, rfl⟩
  have g2 : w1.grownBy w2 (some g) := by rw [hw2]; exact only_setCell (only_setCell (only_setCell (only_setCell (only_setCell (only_of_below (Below.refl _ _) (some g)) (.inl rfl) _) (.inl rfl) _) (.inl rfl) _) (.inl rfl) _) (.inl rfl) _
  have N2 : NodeAt w2 g S E V M X d2 := by
    rw [hd2]
    exact N1.turn g2 (by rw [hw2]; exact ((((N1.blk.set_ 0 (.int .u64 ((d.term : Int) + 1))).set_ 1 (.int .i64 (d.id : Int))).set_ 8 (.int .i64 2)).set_ 9 (.int .i64 (-1))).set_ 11 (.int .i64 0)) ⟨rfl, rfl, rfl, rfl⟩
  have B2 := B1.grown g2 (fun b e h => (HF.out b h).1 (Option.some.inj e).symm)
  have D2 : ND w2 g F d2 := ⟨_, _, _, _, _, N2, HF.out⟩
  have HW2 := Lib.hid hw2
  clear hw2
  go_upto_region 3 with fail
  rw [← HW2.out]
  clear q0 q1 f0 f1 q8 q9 q11 f8 f9 f11 N1 B1 g2
  have HD2 := Lib.hid hd2
  have hb2 : GB d2 := by rw [hd2]; exact ⟨hb.base, hb.bt, hb.len, htm, hb.commit⟩
  have hn2 : d2.n = d.n ∧ d2.id = d.id ∧ d2.log = d.log := by rw [hd2]; exact ⟨rfl, rfl, rfl⟩
  have HN2 := Lib.hid hn2
  have T := call_any g F d2 3 (d.term + 1) w2 D2 hb2 (by rw [hn2.1]; exact hn1) (by rw [hn2.1]; exact hn5) (by rw [hn2.1, hn2.2.1]; exact hi) (by omega)
  replace T : Calls Try.prog 31 #[.pointer (some ⟨g, 0, none⟩), .int .i64 3, .int .u64 ((d.term : Int) + 1)] w2 _ := T
  have q0 : w2.cell? ⟨g, 0, none⟩ = some (.int .u64 ((d.term : Int) + 1)) := by have h := N2.blk.cell 0; rw [hd2] at h; exact h
  obtain ⟨r, hr⟩ : ∃ r, r = callP d2 3 (d.term + 1) := ⟨_, rfl⟩
  rw [← hr] at T
  have hS : Hid (stG d = if mostP r.1 r.1.votes then begG r.1 else r) := by show _ = _; rw [hr, hd2]; rfl
  have hrv : r.1.votes.length = d.n ∧ GB r.1 ∧ r.1.n = d.n ∧ r.1.id = d.id ∧ r.1.log = d.log := by
    rw [hr]
    refine ⟨?_, ⟨hb2.base, hb2.bt, hb2.len, hb2.term, hb2.commit⟩, hn2.1, hn2.2.1, hn2.2.2⟩
    show ((List.replicate d2.n false).set _ true).length = _
    rw [List.length_set, List.length_replicate, hn2.1]
  have HRV := Lib.hid hrv
  clear hr hrv hd2 hn2
  go_wp2_with fail
  refine T.mono ?_
  clear T q0 D2 N2
  rintro en w3 ⟨A3, c3, k3, rfl, z3, o3, N3, B3⟩
  have D3 := N3
  obtain ⟨S3, E3, V3, M3, X3, n3, h3⟩ := N3
  have q12 : w3.cell? ⟨g, 12, none⟩ = some V3 := n3.blk.cell 12
  obtain ⟨Av, cv, rfl⟩ := n3.vot.shape
  have T := most_any g E3 _ M3 X3 r.1 _ r.1.votes w3 n3.blk n3.vot (by rw [HRV.out.1]; omega)
  clear n3 h3
  have B23 := B2.trans B3
  go_wp2_with fail
  refine T.mono ?_
  clear T q12
  rintro en w4 ⟨rfl, rfl⟩
  cases hm : mostP r.1 r.1.votes with
  | true =>
    have hS2 : Hid (stG d = begG r.1) := by show _ = _; rw [hS.out, hm]; rfl
    clear hm hS
    have T := begin_any g (fun b => (F b ∧ b < w2.heap.size) ∨ k3 ≤ b) r.1 w4 D3 HRV.out.2.1 (by rw [HRV.out.2.2.2.2]; exact hbl) (by rw [HRV.out.2.2.1]; exact hn1) (by rw [HRV.out.2.2.1]; exact hn5) (by rw [HRV.out.2.2.1, HRV.out.2.2.2.1]; exact hi)
    rw [← hS2.out] at T
    clear D3 o3
    go_wp2_with fail
    refine T.mono ?_
    clear T
    intro en w5 h5
    have h6 := h5.mono B23 (fun b h1 h2 => .inl ⟨h2, Nat.lt_of_lt_of_le h1 B2.size⟩)
    obtain ⟨A5, c5, k5, rfl, h7⟩ := h6
    go_wp2_with fail
    go_ret
    exact ⟨A5, c5, k5, rfl, h7⟩
  | false =>
    have hS2 : Hid (stG d = r) := by show _ = _; rw [hS.out, hm]; rfl
    clear hm hS
    go_wp2_with fail
    go_ret
    rw [hS2.out]
    exact RetMs.mono (w := w2) ⟨A3, c3, k3, rfl, z3, o3, D3, B3⟩ B2 (fun b h1 h2 => h2)
end Go.Proofs.Ytjpcekpllfelhaa
