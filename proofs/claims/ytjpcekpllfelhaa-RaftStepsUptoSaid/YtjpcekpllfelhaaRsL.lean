/- follow, answer, upToDate, proper. (Printed by wip/gen_rsl.py.) -/
import Derived.Test.YtjpcekpllfelhaaRsK
namespace Go.Proofs.Ytjpcekpllfelhaa
open Go.RowKit

set_option maxRecDepth 100000 in
set_option maxHeartbeats 1000000 in
theorem follow_any (g : Nat) (S : Nat → Prop) (E V M X : Value) (d : LNode) (tm : Nat) (ld : Int) (w : World) (hN : NodeAt w g S E V M X d) :
    Calls Try.prog 49 #[.pointer (some ⟨g, 0, none⟩), .int .u64 (tm : Int), .int .i64 ld] w (fun en w' => en = .returned (.tuple #[]) ∧ w.grownBy w' (some g) ∧ NodeAt w' g S E V M X (followP d tm ld)) := by
  have q0 : w.cell? ⟨g, 0, none⟩ = some (.int .u64 (d.term : Int)) := hN.blk.cell 0
  have q1 : w.cell? ⟨g, 1, none⟩ = some (.int .i64 d.vote) := hN.blk.cell 1
  have q8 : w.cell? ⟨g, 8, none⟩ = some (.int .i64 d.role) := hN.blk.cell 8
  have q9 : w.cell? ⟨g, 9, none⟩ = some (.int .i64 d.lead) := hN.blk.cell 9
  have f0 : w.frozen? ⟨g, 0, none⟩ = false := hN.blk.frozen 0
  have f1 : w.frozen? ⟨g, 1, none⟩ = false := hN.blk.frozen 1
  have f8 : w.frozen? ⟨g, 8, none⟩ = false := hN.blk.frozen 8
  have f9 : w.frozen? ⟨g, 9, none⟩ = false := hN.blk.frozen 9
  by_cases ht : d.term < tm
  · have hti : (d.term : Int) < (tm : Int) := by omega
    have HE : Hid (followP d tm ld = { d with term := tm, vote := -1, role := 0, lead := ld }) := by show _ = _; unfold followP; rw [if_pos ht]
    have g2 : w.grownBy ((((w.setCell ⟨g, 0, none⟩ (.int .u64 (tm : Int))).setCell ⟨g, 1, none⟩ (.int .i64 (-1))).setCell ⟨g, 8, none⟩ (.int .i64 0)).setCell ⟨g, 9, none⟩ (.int .i64 ld)) (some g) := only_setCell (only_setCell (only_setCell (only_setCell (only_of_below (Below.refl _ _) (some g)) (.inl rfl) _) (.inl rfl) _) (.inl rfl) _) (.inl rfl) _
    have N2 : NodeAt ((((w.setCell ⟨g, 0, none⟩ (.int .u64 (tm : Int))).setCell ⟨g, 1, none⟩ (.int .i64 (-1))).setCell ⟨g, 8, none⟩ (.int .i64 0)).setCell ⟨g, 9, none⟩ (.int .i64 ld)) g S E V M X { d with term := tm, vote := -1, role := 0, lead := ld } :=
      hN.turn g2 ((((hN.blk.set_ 0 (.int .u64 (tm : Int))).set_ 1 (.int .i64 (-1))).set_ 8 (.int .i64 0)).set_ 9 (.int .i64 ld)) ⟨rfl, rfl, rfl, rfl⟩
    clear hN ht
    go_enter Try.func49, Try.ntmps49
    go_wp2_with fail
    exact bodyEnd0 rfl rfl (by rw [HE.out]; exact ⟨rfl, g2, N2⟩)
  · have hti : ¬ (d.term : Int) < (tm : Int) := by omega
    have HE : Hid (followP d tm ld = { d with role := 0, lead := ld }) := by show _ = _; unfold followP; rw [if_neg ht]
    have g2 : w.grownBy ((w.setCell ⟨g, 8, none⟩ (.int .i64 0)).setCell ⟨g, 9, none⟩ (.int .i64 ld)) (some g) := only_setCell (only_setCell (only_of_below (Below.refl _ _) (some g)) (.inl rfl) _) (.inl rfl) _
    have N2 : NodeAt ((w.setCell ⟨g, 8, none⟩ (.int .i64 0)).setCell ⟨g, 9, none⟩ (.int .i64 ld)) g S E V M X { d with role := 0, lead := ld } := hN.turn g2 ((hN.blk.set_ 8 (.int .i64 0)).set_ 9 (.int .i64 ld)) ⟨rfl, rfl, rfl, rfl⟩
    clear hN ht
    go_enter Try.func49, Try.ntmps49
    go_wp2_with fail
    exact bodyEnd0 rfl rfl (by rw [HE.out]; exact ⟨rfl, g2, N2⟩)
/-- one message answered; its entries lie in blocks of S -/
def RetOne (S : Nat → Prop) (m : LMsg) (w : World) (en : Ending) (w' : World) : Prop :=
  ∃ gb, en = .returned (.slice (some ⟨gb, 0, none⟩) 1 1) ∧ Own MsgE 58 w' w.heap.size S (.slice (some ⟨gb, 0, none⟩) 1 1) [m] ∧ Below w.heap.size w w'
set_option maxRecDepth 100000 in
set_option maxHeartbeats 4000000 in
theorem answer_any (g : Nat) (E V M X : Value) (d : LNode) (A B : Option Addr) (c e : Nat) (m a : LMsg) (S : Nat → Prop) (w : World) (hk : Blk w g 48 (nodeC E V M X d)) (hA : MsgAt w S B e a) :
    Calls Try.prog 36 #[.pointer (some ⟨g, 0, none⟩), .agg (msgC A c m), .agg (msgC B e a)] w (RetOne S { a with frm := d.id, dst := m.frm } w) := by
  rw [show msgC A c m = #[.int .i64 m.kind, .int .i64 m.frm, .int .i64 m.dst, .int .u64 (m.term : Int), .int .u64 (m.index : Int), .int .u64 (m.logTerm : Int), .int .u64 (m.commit : Int), .slice A m.ents.length c, .bool m.ok, .slice none 0 0] from rfl, show msgC B e a = #[.int .i64 a.kind, .int .i64 a.frm, .int .i64 a.dst, .int .u64 (a.term : Int), .int .u64 (a.index : Int), .int .u64 (a.logTerm : Int), .int .u64 (a.commit : Int), .slice B a.ents.length e, .bool a.ok, .slice none 0 0] from rfl]
  have km := (Blk.new w 58 #[.int .i64 m.kind, .int .i64 m.frm, .int .i64 m.dst, .int .u64 (m.term : Int), .int .u64 (m.index : Int), .int .u64 (m.logTerm : Int), .int .u64 (m.commit : Int), .slice A m.ents.length c, .bool m.ok, .slice none 0 0]).alloc (.cells #[.int .i64 a.kind, .int .i64 a.frm, .int .i64 a.dst, .int .u64 (a.term : Int), .int .u64 (a.index : Int), .int .u64 (a.logTerm : Int), .int .u64 (a.commit : Int), .slice B a.ents.length e, .bool a.ok, .slice none 0 0] 58)
  have ka := Blk.new (w.alloc (.cells #[.int .i64 m.kind, .int .i64 m.frm, .int .i64 m.dst, .int .u64 (m.term : Int), .int .u64 (m.index : Int), .int .u64 (m.logTerm : Int), .int .u64 (m.commit : Int), .slice A m.ents.length c, .bool m.ok, .slice none 0 0] 58)) 58 #[.int .i64 a.kind, .int .i64 a.frm, .int .i64 a.dst, .int .u64 (a.term : Int), .int .u64 (a.index : Int), .int .u64 (a.logTerm : Int), .int .u64 (a.commit : Int), .slice B a.ents.length e, .bool a.ok, .slice none 0 0]
  rw [World.size_alloc] at ka
  have b1 : Below w.heap.size w ((w.alloc (.cells #[.int .i64 m.kind, .int .i64 m.frm, .int .i64 m.dst, .int .u64 (m.term : Int), .int .u64 (m.index : Int), .int .u64 (m.logTerm : Int), .int .u64 (m.commit : Int), .slice A m.ents.length c, .bool m.ok, .slice none 0 0] 58)).alloc (.cells #[.int .i64 a.kind, .int .i64 a.frm, .int .i64 a.dst, .int .u64 (a.term : Int), .int .u64 (a.index : Int), .int .u64 (a.logTerm : Int), .int .u64 (a.commit : Int), .slice B a.ents.length e, .bool a.ok, .slice none 0 0] 58)) := ((Below.refl _ _).alloc (Nat.le_refl _) _).alloc (by simp) _
  have k1 := hk.below b1 hk.lt
  have hA1 := hA.mono (S' := fun b => S b ∧ b < w.heap.size) (fun b h1 h2 => ⟨h2, h1⟩)
  have hgl := hk.lt
  have hA2 := hA1.below b1
  go_enter Try.func36, Try.ntmps36
  go_upto_region 1 with fail
  change Code.wp _ _ _ _ ((w.alloc (.cells #[.int .i64 m.kind, .int .i64 m.frm, .int .i64 m.dst, .int .u64 (m.term : Int), .int .u64 (m.index : Int), .int .u64 (m.logTerm : Int), .int .u64 (m.commit : Int), .slice A m.ents.length c, .bool m.ok, .slice none 0 0] 58)).alloc (.cells #[.int .i64 a.kind, .int .i64 a.frm, .int .i64 a.dst, .int .u64 (a.term : Int), .int .u64 (a.index : Int), .int .u64 (a.logTerm : Int), .int .u64 (a.commit : Int), .slice B a.ents.length e, .bool a.ok, .slice none 0 0] 58))
  clear hk hA hA1
  generalize ((w.alloc (.cells #[.int .i64 m.kind, .int .i64 m.frm, .int .i64 m.dst, .int .u64 (m.term : Int), .int .u64 (m.index : Int), .int .u64 (m.logTerm : Int), .int .u64 (m.commit : Int), .slice A m.ents.length c, .bool m.ok, .slice none 0 0] 58)).alloc (.cells #[.int .i64 a.kind, .int .i64 a.frm, .int .i64 a.dst, .int .u64 (a.term : Int), .int .u64 (a.index : Int), .int .u64 (a.logTerm : Int), .int .u64 (a.commit : Int), .slice B a.ents.length e, .bool a.ok, .slice none 0 0] 58)) = w1 at *
  refine wp_region_noPanic ?_
  have kS : Blk w1.drew g 48 (nodeC E V M X d) ∧ Blk w1.drew w.heap.size 58 #[.int .i64 m.kind, .int .i64 m.frm, .int .i64 m.dst, .int .u64 (m.term : Int), .int .u64 (m.index : Int), .int .u64 (m.logTerm : Int), .int .u64 (m.commit : Int), .slice A m.ents.length c, .bool m.ok, .slice none 0 0] := ⟨k1.drew, km.drew⟩
  have kad := ka.drew
  refine wp_region_held_drew (S := fun Y => Blk Y g 48 (nodeC E V M X d) ∧ Blk Y w.heap.size 58 #[.int .i64 m.kind, .int .i64 m.frm, .int .i64 m.dst, .int .u64 (m.term : Int), .int .u64 (m.index : Int), .int .u64 (m.logTerm : Int), .int .u64 (m.commit : Int), .slice A m.ents.length c, .bool m.ok, .slice none 0 0]) (by kernel_rfl) kS (fun hH => ?_)
  refine wpAnyH_take (i := 0) (v := ?_) rfl (by kernel_rfl) (by kernel_rfl) (by kernel_rfl) (fun _ _ _ h => h) (Or.inl ⟨by rfl, ?_⟩) hH ?_
  case refine_2 => intro w hSw; go_simp; try with_reducible rfl
  try simp only [Z1, Z2, Z4, Z5, Z6, Z7]
  refine wpAnyH_take (i := 1) (v := ?_) rfl (by kernel_rfl) (by kernel_rfl) (by kernel_rfl) (fun _ _ _ h => h) (Or.inl ⟨by rfl, ?_⟩) hH ?_
  case refine_2 => intro w hSw; go_simp; try with_reducible rfl
  try simp only [Z1, Z2, Z3, Z4, Z5, Z6, Z7]
  refine wpAnyH_take (i := 2) (v := ?_) rfl (by kernel_rfl) (by kernel_rfl) (by kernel_rfl) (fun _ _ _ h => h) (Or.inl ⟨by rfl, ?_⟩) hH ?_
  case refine_2 => intro w hSw; go_simp; try with_reducible rfl
  try simp only [Z1, Z2, Z3, Z4, Z5, Z6, Z7]
  refine wpAnyH_take (i := 3) (v := ?_) rfl (by kernel_rfl) (by kernel_rfl) (by kernel_rfl) (fun _ _ _ h => h) (Or.inl ⟨by rfl, ?_⟩) hH ?_
  case refine_2 => intro w hSw; obtain ⟨kw, kb⟩ := hSw; replace kw : Blk w g 48 (nodeC E V M X d) := kw; have s5 : w.cell? ⟨_, 5, none⟩ = some (.int .i64 (d.id : Int)) := Blk.cell kw 5; clear kw kb; go_simp; try with_reducible rfl
  try simp only [Z1, Z2, Z3, Z4, Z5, Z6, Z7]
  refine wpAnyH_take (i := 4) (v := ?_) rfl (by kernel_rfl) (by kernel_rfl) (by kernel_rfl) (fun _ _ _ h => h) (Or.inl ⟨by rfl, ?_⟩) hH ?_
  case refine_2 => intro w hSw; go_simp; try with_reducible rfl
  try simp only [Z1, Z2, Z3, Z4, Z5, Z6, Z7]
  refine wpAnyH_take (i := 5) (v := ?_) rfl (by kernel_rfl) (by kernel_rfl) (by kernel_rfl) (fun _ _ _ h => h) (Or.inl ⟨by rfl, ?_⟩) hH ?_
  case refine_2 => intro w hSw; obtain ⟨kw, kb⟩ := hSw; have s1 : w.cell? ⟨_, 1, none⟩ = some (.int .i64 m.frm) := Blk.cell kb 1; clear kw kb; go_simp; try with_reducible rfl
  try simp only [Z1, Z2, Z3, Z4, Z5, Z6, Z7]
  refine wpAnyH_take (i := 6) (v := ?_) rfl (by kernel_rfl) (by kernel_rfl) (by kernel_rfl) (fun _ _ _ h => h) (Or.inl ⟨by rfl, ?_⟩) hH ?_
  case refine_2 => intro w hSw; go_simp; try with_reducible rfl
  try simp only [Z1, Z2, Z3, Z4, Z5, Z6, Z7]
  refine wpAnyH_ready (rs := [7]) (by kernel_rfl) (by simp) ?_
  refine AllReadyH.cons rfl (fun K hK => ?_) AllReadyH.nil
  have y1 : w1.drew.cell? ⟨w.heap.size + 1, 1, none⟩ = some (.int .i64 a.frm) := kad.cell 1
  have f1 : w1.drew.frozen? ⟨w.heap.size + 1, 1, none⟩ = false := kad.frozen 1
  go_simp
  clear y1 f1
  have d1 : w1.grownBy w1.drew (some (w.heap.size + 1)) := only_drew (only_of_below (Below.refl _ _) _)
  have e1 : w1.drew.setCell ⟨w.heap.size + 1, 1, none⟩ (.int .i64 (d.id : Int)) = w1.drew.setCell ⟨w.heap.size + 1, 1, none⟩ (.int .i64 (d.id : Int)) := rfl
  have g2 : w1.grownBy (w1.drew.setCell ⟨w.heap.size + 1, 1, none⟩ (.int .i64 (d.id : Int))) (some (w.heap.size + 1)) := only_setCell d1 (.inl rfl) _
  have k2 := kS.1.far (p := ⟨w.heap.size + 1, 1, none⟩) (by show g ≠ w.heap.size + 1; omega) (.int .i64 (d.id : Int))
  have km2 := kS.2.far (p := ⟨w.heap.size + 1, 1, none⟩) (by show w.heap.size ≠ w.heap.size + 1; omega) (.int .i64 (d.id : Int))
  have ka2 := kad.set_ 1 (.int .i64 (d.id : Int))
  clear e1 d1 kad
  change K _ (w1.drew.setCell ⟨w.heap.size + 1, 1, none⟩ (.int .i64 (d.id : Int)))
  generalize (w1.drew.setCell ⟨w.heap.size + 1, 1, none⟩ (.int .i64 (d.id : Int))) = w2 at *
  refine hK.out _ _ ⟨k2, km2⟩ (fun hH => ?_)
  clear hK K
  try dsimp only
  try simp only [Z1, Z2, Z3, Z4, Z5, Z6, Z7]
  refine wpAnyH_take (i := 8) (v := ?_) rfl (by kernel_rfl) (by kernel_rfl) (by kernel_rfl) (fun _ _ _ h => h) (Or.inl ⟨by rfl, ?_⟩) hH ?_
  case refine_2 => intro w hSw; go_simp; try with_reducible rfl
  try simp only [Z1, Z2, Z3, Z4, Z5, Z6, Z7]
  refine wpAnyH_ready (rs := [9]) (by kernel_rfl) (by simp) ?_
  refine AllReadyH.cons rfl (fun K hK => ?_) AllReadyH.nil
  have y2 : w2.cell? ⟨w.heap.size + 1, 2, none⟩ = some (.int .i64 a.dst) := ka2.cell 2
  have f2 : w2.frozen? ⟨w.heap.size + 1, 2, none⟩ = false := ka2.frozen 2
  go_simp
  clear y2 f2
  have g3 : w1.grownBy (w2.setCell ⟨w.heap.size + 1, 2, none⟩ (.int .i64 m.frm)) (some (w.heap.size + 1)) := only_setCell g2 (.inl rfl) _
  have k3 := k2.far (p := ⟨w.heap.size + 1, 2, none⟩) (by show g ≠ w.heap.size + 1; omega) (.int .i64 m.frm)
  have km3 := km2.far (p := ⟨w.heap.size + 1, 2, none⟩) (by show w.heap.size ≠ w.heap.size + 1; omega) (.int .i64 m.frm)
  have ka3 := ka2.set_ 2 (.int .i64 m.frm)
  generalize (w2.setCell ⟨w.heap.size + 1, 2, none⟩ (.int .i64 m.frm)) = w3 at *
  refine hK.out _ _ ⟨k3, km3⟩ (fun hH => ?_)
  clear hK K
  try dsimp only
  try simp only [Z1, Z2, Z3, Z4, Z5, Z6, Z7]
  refine wpAnyH_done (by kernel_rfl) ?_ _
  refine NoPanic.normal ?_
  obtain ⟨a', ha'⟩ : ∃ a' : LMsg, a' = { a with frm := d.id, dst := m.frm } := ⟨_, rfl⟩
  have HA' := Lib.hid ha'
  have ka4 : Blk w3 (w.heap.size + 1) 58 #[.int .i64 a'.kind, .int .i64 a'.frm, .int .i64 a'.dst, .int .u64 (a'.term : Int), .int .u64 (a'.index : Int), .int .u64 (a'.logTerm : Int), .int .u64 (a'.commit : Int), .slice B a'.ents.length e, .bool a'.ok, .slice none 0 0] := by rw [ha']; exact ka3
  have hA3 : MsgAt w1 (fun b => S b ∧ b < w.heap.size) B e a' := by rw [ha']; exact ⟨hA2.ents, hA2.cap, hA2.term, hA2.index, hA2.logTerm, hA2.commit⟩
  have b3 := b1.grown g3 b1.size (fun j hj => by have := Option.some.inj hj; omega)
  have hA4 := hA3.same (.of_grown g3 fun b h hj => by have := Option.some.inj hj; have := h.2; omega)
  clear ha' g2 g3 k2 km2 ka2 k3 km3 ka3 ka km k1 kS b1 hA2 hA3
  have d5 : Below w3.heap.size w3 (w3.alloc (.cells #[.int .i64 a'.kind, .int .i64 a'.frm, .int .i64 a'.dst, .int .u64 (a'.term : Int), .int .u64 (a'.index : Int), .int .u64 (a'.logTerm : Int), .int .u64 (a'.commit : Int), .slice B a'.ents.length e, .bool a'.ok, .slice none 0 0] 58)) := (Below.refl _ _).alloc (Nat.le_refl _) _
  have hA5 := hA4.below d5
  have b5 := below_step b3 d5
  have kN := Blk.new w3 58 #[.int .i64 a'.kind, .int .i64 a'.frm, .int .i64 a'.dst, .int .u64 (a'.term : Int), .int .u64 (a'.index : Int), .int .u64 (a'.logTerm : Int), .int .u64 (a'.commit : Int), .slice B a'.ents.length e, .bool a'.ok, .slice none 0 0]
  have z3 := b3.size
  go_wp2_with ((with_reducible refine wpList_load_blk rfl 58 (.tmp 5) rfl (w.heap.size + 1) ?_ 58 _ _ ka4 Try.underlying58 ?_ Try.size_Msg ?_ ?_); rfl; rfl; rfl)
  go_ret
  rw [← HA'.out]
  refine ⟨w3.heap.size, rfl, ⟨(msgC B e a').toList, ?_, ?_⟩, b5⟩
  · exact ⟨rfl, .inr ⟨w3.heap.size, 1, #[.int .i64 a'.kind, .int .i64 a'.frm, .int .i64 a'.dst, .int .u64 (a'.term : Int), .int .u64 (a'.index : Int), .int .u64 (a'.logTerm : Int), .int .u64 (a'.commit : Int), .slice B a'.ents.length e, .bool a'.ok, .slice none 0 0], rfl, z3, kN, Nat.le_refl _, by unfold maxLen; decide, rfl, rfl⟩⟩
  · exact ER.flat_one_ ⟨B, e, rfl, hA5.mono fun b h1 h => ⟨h.1, fun hj => by have h2 : w3.heap.size = b := Option.some.inj hj; have := h.2; omega⟩⟩
end Go.Proofs.Ytjpcekpllfelhaa
