/- call$1 and others. (Printed by wip/gen_rsa.py.) -/
import Derived.Test.YtjpcekpllfelhaaRsA
namespace Go.Proofs.Ytjpcekpllfelhaa
open Go.RowKit

set_option maxRecDepth 100000 in
set_option maxHeartbeats 4000000 in
theorem callc_any (g : Nat) (A : Option Addr) (ec : Nat) (V M X : Value) (S : Nat → Prop) (d : LNode) (i : Int) (kd : Int) (tm : Nat) (bk bt bn : Nat) (w : World) (hN : NodeAt w g S (.slice A d.log.length ec) V M X d) (hb : GB d) (htm : tm ≤ 18446744073709551615)
    (h1 : bk < w.heap.size) (h2 : bt < w.heap.size) (h3 : bn < w.heap.size) (c1 : w.cell? ⟨bk, 0, none⟩ = some (.int .i64 kd)) (c2 : w.cell? ⟨bt, 0, none⟩ = some (.int .u64 (tm : Int))) (c3 : w.cell? ⟨bn, 0, none⟩ = some (.pointer (some ⟨g, 0, none⟩))) :
    Calls Try.prog 46 #[.int .i64 i, .pointer (some ⟨bk, 0, none⟩), .pointer (some ⟨bt, 0, none⟩), .pointer (some ⟨bn, 0, none⟩)] w (RetMsg (askP d kd tm) w) := by
  have kR := Blk.new w 58 (msgC none 0 {})
  have dR : Below w.heap.size w (w.alloc (.cells (msgC none 0 {}) 58)) := (Below.refl _ _).alloc (Nat.le_refl _) _
  have N1 := hN.below dR
  have e1 := (dR.cell (p := ⟨bk, 0, none⟩) h1).trans c1
  have e2 := (dR.cell (p := ⟨bt, 0, none⟩) h2).trans c2
  have e3 := (dR.cell (p := ⟨bn, 0, none⟩) h3).trans c3
  clear hN c1 c2 c3
  go_enter Try.func46, Try.ntmps46
  go_upto_region 1 with fail
  change Code.wp _ _ _ _ (w.alloc (.cells (msgC none 0 {}) 58))
  generalize (w.alloc (.cells (msgC none 0 {}) 58)) = w1 at *
  have lR := kR.lt
  refine wp_region_noPanic ?_
  have kS : w1.drew.cell? ⟨bk, 0, none⟩ = some (.int .i64 kd) ∧ w1.drew.cell? ⟨bt, 0, none⟩ = some (.int .u64 (tm : Int)) ∧ w1.drew.cell? ⟨bn, 0, none⟩ = some (.pointer (some ⟨g, 0, none⟩)) := ⟨e1, e2, e3⟩
  refine wp_region_heldK (fun Y => Y.cell? ⟨bk, 0, none⟩ = some (.int .i64 kd) ∧ Y.cell? ⟨bt, 0, none⟩ = some (.int .u64 (tm : Int)) ∧ Y.cell? ⟨bn, 0, none⟩ = some (.pointer (some ⟨g, 0, none⟩))) 7 (by kernel_rfl) kS (fun hH => ?_)
  refine wpAnyK_take (i := 0) (v := ?_) rfl (by kernel_rfl) (by kernel_rfl) (by kernel_rfl) (by kernel_rfl) (fun _ _ _ h => h) (Or.inl ⟨by rfl, ?_⟩) hH ?_
  case refine_2 => intro w hSw; obtain ⟨ka, kb, kc⟩ := hSw; go_simp; try with_reducible rfl
  try simp only [Z1, Z2, Z4, Z5, Z6, Z7]
  refine wpAnyK_take (i := 1) (v := ?_) rfl (by kernel_rfl) (by kernel_rfl) (by kernel_rfl) (by kernel_rfl) (fun _ _ _ h => h) (Or.inl ⟨by rfl, ?_⟩) hH ?_
  case refine_2 => intro w hSw; obtain ⟨ka, kb, kc⟩ := hSw; go_simp; try with_reducible rfl
  try simp only [Z1, Z2, Z3, Z4, Z5, Z6, Z7]
  refine wpAnyK_take (i := 2) (v := ?_) rfl (by kernel_rfl) (by kernel_rfl) (by kernel_rfl) (by kernel_rfl) (fun _ _ _ h => h) (Or.inl ⟨by rfl, ?_⟩) hH ?_
  case refine_2 => intro w hSw; obtain ⟨ka, kb, kc⟩ := hSw; go_simp; try with_reducible rfl
  try simp only [Z1, Z2, Z3, Z4, Z5, Z6, Z7]
  refine wpAnyK_take (i := 4) (v := ?_) rfl (by kernel_rfl) (by kernel_rfl) (by kernel_rfl) (by kernel_rfl) (fun _ _ _ h => h) (Or.inl ⟨by rfl, ?_⟩) hH ?_
  case refine_2 => intro w hSw; obtain ⟨ka, kb, kc⟩ := hSw; go_simp; try with_reducible rfl
  try simp only [Z1, Z2, Z3, Z4, Z5, Z6, Z7]
  refine wpAnyK_ready (rs := [3]) (by kernel_rfl) (by simp) ?_
  refine AllReadyK.cons rfl (by kernel_rfl) (fun K hK => ?_) AllReadyK.nil
  go_simp
  refine (last_any g A ec V M X d w1.drew N1.blk.drew hb.nb).mono ?_
  rintro en w2 ⟨rfl, n2, hw2⟩
  have d2 : Below w1.heap.size w1 w2 := by rw [hw2]; exact ⟨rfl, rfl, rfl, Nat.le_refl _, fun _ _ => rfl⟩
  have kS2 : w2.cell? ⟨bk, 0, none⟩ = some (.int .i64 kd) ∧ w2.cell? ⟨bt, 0, none⟩ = some (.int .u64 (tm : Int)) ∧ w2.cell? ⟨bn, 0, none⟩ = some (.pointer (some ⟨g, 0, none⟩)) := by rw [hw2]; exact ⟨e1, e2, e3⟩
  have N2 := N1.below d2
  have k2 := kR.below d2 kR.lt
  have b2 := below_step dR d2
  clear hw2 kS N1 kR d2 dR e1 e2 e3
  refine hK.out _ _ kS2 ?_
  clear hK K
  try dsimp only
  try simp only [Z1, Z2, Z3, Z4, Z5, Z6, Z7]
  refine wpAnyK_ready (rs := [5]) (by kernel_rfl) (by simp) ?_
  refine AllReadyK.cons rfl (by kernel_rfl) (fun K hK => ?_) AllReadyK.nil
  go_simp
  refine (lastterm_any g A ec V M X Any d w2 N2.blk (N2.slS hb.len32) hb.nb).mono ?_
  rintro en w3 ⟨rfl, n3, hw3⟩
  have d3 : Below w2.heap.size w2 w3 := by rw [hw3]; exact ⟨rfl, rfl, rfl, Nat.le_refl _, fun _ _ => rfl⟩
  have kS3 : w3.cell? ⟨bk, 0, none⟩ = some (.int .i64 kd) ∧ w3.cell? ⟨bt, 0, none⟩ = some (.int .u64 (tm : Int)) ∧ w3.cell? ⟨bn, 0, none⟩ = some (.pointer (some ⟨g, 0, none⟩)) := by rw [hw3]; exact kS2
  have k3 := k2.below d3 k2.lt
  have b3 := below_step b2 d3
  have hTt : lastT d ≤ 18446744073709551615 := by
    unfold lastT termAt
    split
    · exact Nat.zero_le _
    · split
      · exact hb.bt
      · rename_i h1 h2
        have hk : lastN d - d.base - 1 < d.log.length := by unfold lastN at h1 h2 ⊢; omega
        obtain ⟨_, _, _, _, _, _, _, ht, _⟩ := EntE.at_ (N2.slS hb.len32) hk
        show ((d.log.getD (lastN d - d.base - 1) default).term) ≤ _
        rw [List.getD_eq_getElem?_getD, List.getElem?_eq_getElem hk]
        exact ht
  clear hw3 kS2 N2 k2 d3 b2
  refine hK.out _ _ kS3 ?_
  clear hK K
  try dsimp only
  try simp only [Z1, Z2, Z3, Z4, Z5, Z6, Z7]
  refine wpAnyK_takeY (i := 6) (v := ?_) rfl (by kernel_rfl) (by kernel_rfl) (by kernel_rfl) (by kernel_rfl) (fun _ _ _ h => h) (Or.inl ⟨by rfl, ?_⟩) kS3 ?_
  case refine_2 => intro w; go_simp; try with_reducible rfl
  try simp only [Z1, Z2, Z3, Z4, Z5, Z6, Z7]
  refine wpAnyK_ready (rs := [7]) (by kernel_rfl) (by simp) ?_
  refine AllReadyK.turn rfl (fun K hK => ?_) AllReadyK.nil
  refine step_store_blk rfl 58 (.tmp 5) (.tmp 12) rfl w.heap.size 58 _ (msgC none 0 { kind := kd, term := tm, index := lastN d, logTerm := lastT d }) rfl rfl k3 Try.size_Msg rfl rfl (by simp [msgC, Value.oneCell']) ?_
  intro wz kz gz zz
  refine hK.out _ _ ?_
  clear hK K hH
  try simp only [Z1, Z3, Z2, Z4]
  refine wpAny_done (by kernel_rfl) ?_ _
  refine NoPanic.normal ?_
  have bz := b3.grown gz b3.size (fun j hj => by have := Option.some.inj hj; omega)
  clear kS3 k3 b3 gz zz
  go_wp2_with fail
  exact bodyPost_ret (results_cell rfl rfl kz Try.underlying58 rfl Try.size_Msg) rfl (by
    exact ⟨none, 0, rfl, MsgAt.nil_ _ _ _ rfl htm (by have := hb.last; show lastN d ≤ _; omega) hTt (Nat.zero_le _), bz⟩)
/-- messages answered, all memory new -/
def RetML (ms : List LMsg) (w : World) (en : Ending) (w' : World) : Prop :=
  ∃ A c, en = .returned (.slice A ms.length c) ∧ Own MsgE 58 w' w.heap.size (fun b => w.heap.size ≤ b) (.slice A ms.length c) ms ∧ Below w.heap.size w w'
end Go.Proofs.Ytjpcekpllfelhaa
