/- snap. (Printed by wip/gen_rsn.py.) -/
import Derived.Test.YtjpcekpllfelhaaRsQ
namespace Go.Proofs.Ytjpcekpllfelhaa
open Go.RowKit

/-- the log is given up -/
theorem NodeAt.nilE {w w' : World} {g : Nat} {S : Nat → Prop} {E V M X : Value} {d d' : LNode} (h : NodeAt w g S E V M X d) (hg : w.grownBy w' (some g)) (hb : Blk w' g 48 (nodeC (.slice none 0 0) V M X d')) (e : d'.log = [] ∧ d'.votes = d.votes ∧ d'.mat = d.mat ∧ d'.next = d.next) : NodeAt w' g S (.slice none 0 0) V M X d' := by
  obtain ⟨e1, e2, e3, e4⟩ := e
  refine ⟨hb, by rw [e1]; exact Own.nil_ _ _ _ _ _, ?_, ?_, ?_, h.mx, h.sd, fun b hs => Nat.lt_of_lt_of_le (h.sl b hs) hg.size⟩
  · rw [e2]; exact h.vot.same hg (.inr (h.vot.ne_blk h.blk (by decide))) fun b hs => hs.elim
  · rw [e3]; exact h.mat.same hg (.inr (h.mat.ne_blk h.blk (by decide))) fun b hs => hs.elim
  · rw [e4]; exact h.nxt.same hg (.inr (h.nxt.ne_blk h.blk (by decide))) fun b hs => hs.elim
def snapD (d : LNode) (m : LMsg) : LNode := if (termAt d m.index).2 = false ∨ (termAt d m.index).1 ≠ m.logTerm then { d with base := m.index, baseTerm := m.logTerm, log := [] } else d
set_option maxRecDepth 100000 in
set_option maxHeartbeats 4000000 in
theorem snap_any (g : Nat) (F : Nat → Prop) (d : LNode) (A : Option Addr) (c : Nat) (m : LMsg) (w : World) (hd : ND w g F d) (hb : GB d) (hmi : m.index ≤ 4611686018427387904) :
    Calls Try.prog 50 #[.pointer (some ⟨g, 0, none⟩), .agg (msgC A c m)] w (RetMs g F (snapP d m) w) := by
  have HP : Hid (snapP d m = if m.index ≤ d.commit then (d, answerP d m { kind := 6, term := d.term, ok := true, index := d.commit }) else if m.term < m.logTerm then (d, []) else ({ snapD d m with commit := m.index }, answerP { snapD d m with commit := m.index } m { kind := 6, term := (snapD d m).term, ok := true, index := m.index })) := rfl
  obtain ⟨S, E, V, M, X, hN, hF⟩ := hd
  have HF := Lib.hid hF
  clear hF
  rw [show msgC A c m = #[.int .i64 m.kind, .int .i64 m.frm, .int .i64 m.dst, .int .u64 (m.term : Int), .int .u64 (m.index : Int), .int .u64 (m.logTerm : Int), .int .u64 (m.commit : Int), .slice A m.ents.length c, .bool m.ok, .slice none 0 0] from rfl]
  have km := Blk.new w 58 #[.int .i64 m.kind, .int .i64 m.frm, .int .i64 m.dst, .int .u64 (m.term : Int), .int .u64 (m.index : Int), .int .u64 (m.logTerm : Int), .int .u64 (m.commit : Int), .slice A m.ents.length c, .bool m.ok, .slice none 0 0]
  have b1 : Below w.heap.size w (w.alloc (.cells #[.int .i64 m.kind, .int .i64 m.frm, .int .i64 m.dst, .int .u64 (m.term : Int), .int .u64 (m.index : Int), .int .u64 (m.logTerm : Int), .int .u64 (m.commit : Int), .slice A m.ents.length c, .bool m.ok, .slice none 0 0] 58)) := (Below.refl _ _).alloc (Nat.le_refl _) _
  have N1 := hN.below b1
  have hgl := hN.blk.lt
  clear hN
  go_enter Try.func50, Try.ntmps50
  go_upto_region 1 with fail
  change Code.wp _ _ _ _ (w.alloc (.cells #[.int .i64 m.kind, .int .i64 m.frm, .int .i64 m.dst, .int .u64 (m.term : Int), .int .u64 (m.index : Int), .int .u64 (m.logTerm : Int), .int .u64 (m.commit : Int), .slice A m.ents.length c, .bool m.ok, .slice none 0 0] 58))
  generalize (w.alloc (.cells #[.int .i64 m.kind, .int .i64 m.frm, .int .i64 m.dst, .int .u64 (m.term : Int), .int .u64 (m.index : Int), .int .u64 (m.logTerm : Int), .int .u64 (m.commit : Int), .slice A m.ents.length c, .bool m.ok, .slice none 0 0] 58)) = w1 at *
  obtain ⟨mb, hmb⟩ : ∃ mb, mb = w.heap.size := ⟨_, rfl⟩
  rw [← hmb] at km ⊢
  have hgm : g < mb := by omega
  have HMB := Lib.hid hmb
  clear hmb
  have s4 : w1.cell? ⟨mb, 4, none⟩ = some (.int .u64 (m.index : Int)) := km.cell 4
  have n10 : w1.cell? ⟨g, 10, none⟩ = some (.int .u64 (d.commit : Int)) := N1.blk.cell 10
  by_cases hc : m.index ≤ d.commit
  · have hci : (m.index : Int) ≤ (d.commit : Int) := by omega
    have HV : Hid (snapP d m = (d, answerP d m { kind := 6, term := d.term, ok := true, index := d.commit })) := by show _ = _; rw [HP.out, if_pos hc]
    clear HP hc
    go_quiet (fail)
    go_upto_region 2 with fail
    have dq : Below w1.heap.size w1 (w1.drewN nq) := below_drewN (Below.refl _ _) nq
    have N2 := N1.below dq
    have b2 := below_step b1 dq
    have km2 := km.drewN nq
    clear N1 b1 km dq s4 n10
    generalize w1.drewN nq = w2 at *
    have B2 : BlP F w w2 := .of_below b2
    refine wp_region_noPanic ?_
    have kS : Blk w2.drew g 48 (nodeC E V M X d) ∧ Blk w2.drew mb 58 #[.int .i64 m.kind, .int .i64 m.frm, .int .i64 m.dst, .int .u64 (m.term : Int), .int .u64 (m.index : Int), .int .u64 (m.logTerm : Int), .int .u64 (m.commit : Int), .slice A m.ents.length c, .bool m.ok, .slice none 0 0] := ⟨N2.blk.drew, km2.drew⟩
    refine wp_region_held_drew (S := fun Y => Blk Y g 48 (nodeC E V M X d) ∧ Blk Y mb 58 #[.int .i64 m.kind, .int .i64 m.frm, .int .i64 m.dst, .int .u64 (m.term : Int), .int .u64 (m.index : Int), .int .u64 (m.logTerm : Int), .int .u64 (m.commit : Int), .slice A m.ents.length c, .bool m.ok, .slice none 0 0]) (by kernel_rfl) kS (fun hH => ?_)
    refine wpAnyH_take (i := 0) (v := ?_) rfl (by kernel_rfl) (by kernel_rfl) (by kernel_rfl) (fun _ _ _ h => h) (Or.inl ⟨by rfl, ?_⟩) hH ?_
    case refine_2 => intro w hSw; go_simp; try with_reducible rfl
    try simp only [Z1, Z2, Z4, Z5, Z6, Z7]
    refine wpAnyH_take (i := 1) (v := ?_) rfl (by kernel_rfl) (by kernel_rfl) (by kernel_rfl) (fun _ _ _ h => h) (Or.inl ⟨by rfl, ?_⟩) hH ?_
    case refine_2 => intro w hSw; obtain ⟨kw, kb⟩ := hSw; replace kw : Blk w g 48 (nodeC E V M X d) := kw; replace kb : Blk w mb 58 #[.int .i64 m.kind, .int .i64 m.frm, .int .i64 m.dst, .int .u64 (m.term : Int), .int .u64 (m.index : Int), .int .u64 (m.logTerm : Int), .int .u64 (m.commit : Int), .slice A m.ents.length c, .bool m.ok, .slice none 0 0] := kb; have s0 : w.cell? ⟨_, 0, none⟩ = some (.int .i64 m.kind) := Blk.cell kb 0; have s1 : w.cell? ⟨_, 1, none⟩ = some (.int .i64 m.frm) := Blk.cell kb 1; have s2 : w.cell? ⟨_, 2, none⟩ = some (.int .i64 m.dst) := Blk.cell kb 2; have s3 : w.cell? ⟨_, 3, none⟩ = some (.int .u64 (m.term : Int)) := Blk.cell kb 3; have s4 : w.cell? ⟨_, 4, none⟩ = some (.int .u64 (m.index : Int)) := Blk.cell kb 4; have s5 : w.cell? ⟨_, 5, none⟩ = some (.int .u64 (m.logTerm : Int)) := Blk.cell kb 5; have s6 : w.cell? ⟨_, 6, none⟩ = some (.int .u64 (m.commit : Int)) := Blk.cell kb 6; have s7 : w.cell? ⟨_, 7, none⟩ = some (.slice A m.ents.length c) := Blk.cell kb 7; have s8 : w.cell? ⟨_, 8, none⟩ = some (.bool m.ok) := Blk.cell kb 8; have s9 : w.cell? ⟨_, 9, none⟩ = some (.slice none 0 0) := Blk.cell kb 9; clear kw kb; go_simp; try with_reducible rfl
    try simp only [Z1, Z2, Z3, Z4, Z5, Z6, Z7]
    refine wpAnyH_take (i := 2) (v := ?_) rfl (by kernel_rfl) (by kernel_rfl) (by kernel_rfl) (fun _ _ _ h => h) (Or.inl ⟨by rfl, ?_⟩) hH ?_
    case refine_2 => intro w hSw; go_simp; try with_reducible rfl
    try simp only [Z1, Z2, Z3, Z4, Z5, Z6, Z7]
    refine wpAnyH_take (i := 3) (v := ?_) rfl (by kernel_rfl) (by kernel_rfl) (by kernel_rfl) (fun _ _ _ h => h) (Or.inl ⟨by rfl, ?_⟩) hH ?_
    case refine_2 => intro w hSw; go_simp; try with_reducible rfl
    try simp only [Z1, Z2, Z3, Z4, Z5, Z6, Z7]
    refine wpAnyH_take (i := 4) (v := ?_) rfl (by kernel_rfl) (by kernel_rfl) (by kernel_rfl) (fun _ _ _ h => h) (Or.inl ⟨by rfl, ?_⟩) hH ?_
    case refine_2 => intro w hSw; go_simp; try with_reducible rfl
    try simp only [Z1, Z2, Z3, Z4, Z5, Z6, Z7]
    refine wpAnyH_take (i := 5) (v := ?_) rfl (by kernel_rfl) (by kernel_rfl) (by kernel_rfl) (fun _ _ _ h => h) (Or.inl ⟨by rfl, ?_⟩) hH ?_
    case refine_2 => intro w hSw; go_simp; try with_reducible rfl
    try simp only [Z1, Z2, Z3, Z4, Z5, Z6, Z7]
    refine wpAnyH_take (i := 6) (v := ?_) rfl (by kernel_rfl) (by kernel_rfl) (by kernel_rfl) (fun _ _ _ h => h) (Or.inl ⟨by rfl, ?_⟩) hH ?_
    case refine_2 => intro w hSw; go_simp; try with_reducible rfl
    try simp only [Z1, Z2, Z3, Z4, Z5, Z6, Z7]
    refine wpAnyH_take (i := 7) (v := ?_) rfl (by kernel_rfl) (by kernel_rfl) (by kernel_rfl) (fun _ _ _ h => h) (Or.inl ⟨by rfl, ?_⟩) hH ?_
    case refine_2 => intro w hSw; obtain ⟨kw, kb⟩ := hSw; replace kw : Blk w g 48 (nodeC E V M X d) := kw; replace kb : Blk w mb 58 #[.int .i64 m.kind, .int .i64 m.frm, .int .i64 m.dst, .int .u64 (m.term : Int), .int .u64 (m.index : Int), .int .u64 (m.logTerm : Int), .int .u64 (m.commit : Int), .slice A m.ents.length c, .bool m.ok, .slice none 0 0] := kb; have n0 : w.cell? ⟨_, 0, none⟩ = some (.int .u64 (d.term : Int)) := Blk.cell kw 0; clear kw kb; go_simp; try with_reducible rfl
    try simp only [Z1, Z2, Z3, Z4, Z5, Z6, Z7]
    refine wpAnyH_take (i := 8) (v := ?_) rfl (by kernel_rfl) (by kernel_rfl) (by kernel_rfl) (fun _ _ _ h => h) (Or.inl ⟨by rfl, ?_⟩) hH ?_
    case refine_2 => intro w hSw; go_simp; try with_reducible rfl
    try simp only [Z1, Z2, Z3, Z4, Z5, Z6, Z7]
    refine wpAnyH_take (i := 9) (v := ?_) rfl (by kernel_rfl) (by kernel_rfl) (by kernel_rfl) (fun _ _ _ h => h) (Or.inl ⟨by rfl, ?_⟩) hH ?_
    case refine_2 => intro w hSw; go_simp; try with_reducible rfl
    try simp only [Z1, Z2, Z3, Z4, Z5, Z6, Z7]
    refine wpAnyH_take (i := 10) (v := ?_) rfl (by kernel_rfl) (by kernel_rfl) (by kernel_rfl) (fun _ _ _ h => h) (Or.inl ⟨by rfl, ?_⟩) hH ?_
    case refine_2 => intro w hSw; go_simp; try with_reducible rfl
    try simp only [Z1, Z2, Z3, Z4, Z5, Z6, Z7]
    refine wpAnyH_take (i := 11) (v := ?_) rfl (by kernel_rfl) (by kernel_rfl) (by kernel_rfl) (fun _ _ _ h => h) (Or.inl ⟨by rfl, ?_⟩) hH ?_
    case refine_2 => intro w hSw; obtain ⟨kw, kb⟩ := hSw; replace kw : Blk w g 48 (nodeC E V M X d) := kw; replace kb : Blk w mb 58 #[.int .i64 m.kind, .int .i64 m.frm, .int .i64 m.dst, .int .u64 (m.term : Int), .int .u64 (m.index : Int), .int .u64 (m.logTerm : Int), .int .u64 (m.commit : Int), .slice A m.ents.length c, .bool m.ok, .slice none 0 0] := kb; have n10 : w.cell? ⟨_, 10, none⟩ = some (.int .u64 (d.commit : Int)) := Blk.cell kw 10; clear kw kb; go_simp; try with_reducible rfl
    try simp only [Z1, Z2, Z3, Z4, Z5, Z6, Z7]
    refine wpAnyH_take (i := 12) (v := ?_) rfl (by kernel_rfl) (by kernel_rfl) (by kernel_rfl) (fun _ _ _ h => h) (Or.inl ⟨by rfl, ?_⟩) hH ?_
    case refine_2 => intro w hSw; go_simp; try with_reducible rfl
    try simp only [Z1, Z2, Z3, Z4, Z5, Z6, Z7]
    refine wpAnyH_ready (rs := [13]) (by kernel_rfl) (by simp) ?_
    refine AllReadyH.cons rfl (fun K hK => ?_) AllReadyH.nil
    go_simp
    have TU := answer_any g E V M X d A none c 0 m { kind := 6, term := d.term, ok := true, index := d.commit } (fun _ => False) w2.drew kS.1 (MsgAt.nil_ _ _ _ rfl (by have := hb.term; show d.term ≤ _; omega) (by have := hb.commit; show d.commit ≤ _; omega) (Nat.zero_le _) (Nat.zero_le _))
    rw [show msgC A c m = #[.int .i64 m.kind, .int .i64 m.frm, .int .i64 m.dst, .int .u64 (m.term : Int), .int .u64 (m.index : Int), .int .u64 (m.logTerm : Int), .int .u64 (m.commit : Int), .slice A m.ents.length c, .bool m.ok, .slice none 0 0] from rfl] at TU
    replace TU : Calls Try.prog 36 #[.pointer (some ⟨g, 0, none⟩), .agg #[.int .i64 m.kind, .int .i64 m.frm, .int .i64 m.dst, .int .u64 (m.term : Int), .int .u64 (m.index : Int), .int .u64 (m.logTerm : Int), .int .u64 (m.commit : Int), .slice A m.ents.length c, .bool m.ok, .slice none 0 0], .agg #[.int .i64 6, .int .i64 0, .int .i64 0, .int .u64 (d.term : Int), .int .u64 (d.commit : Int), .int .u64 0, .int .u64 0, .slice none 0 0, .bool true, .slice none 0 0]] w2.drew _ := TU
    refine TU.mono ?_
    clear TU
    rintro en w7 ⟨gb, rfl, o7, b7⟩
    have k7 := kS.1.below b7 kS.1.lt
    have km7 := kS.2.below b7 kS.2.lt
    refine hK.out _ _ ⟨k7, km7⟩ (fun hH => ?_)
    clear hK K
    try dsimp only
    try simp only [Z1, Z2, Z3, Z4, Z5, Z6, Z7]
    refine wpAnyH_take (i := 14) (v := ?_) rfl (by kernel_rfl) (by kernel_rfl) (by kernel_rfl) (fun _ _ _ h => h) (Or.inl ⟨by rfl, ?_⟩) hH ?_
    case refine_2 => intro w hSw; go_simp; try with_reducible rfl
    try simp only [Z1, Z2, Z3, Z4, Z5, Z6, Z7]
    refine wpAnyH_done (by kernel_rfl) ?_ _
    refine NoPanic.normal ?_
    have D7 : ND w7 g (fun b => F b ∨ w2.heap.size ≤ b) d := ND.new (w := w2) ⟨_, _, _, _, _, N2, HF.out⟩ (below_step ((Below.refl _ _).drew) b7)
    have z7 := B2.size
    have o7' := o7.mono (S' := fun b => w2.heap.size ≤ b) (fun b _ _ h => h.elim)
    go_wp2_with fail
    go_ret
    rw [HV.out]
    exact ⟨some ⟨gb, 0, none⟩, 1, w2.heap.size, rfl, z7, o7', D7.mono (fun b h => h.imp (fun h => h.1) id), B2.trans (.of_below (below_step ((Below.refl _ _).drew) b7))⟩
  · have hci : ¬ (m.index : Int) ≤ (d.commit : Int) := by omega
    have HP2 : Hid (snapP d m = if m.term < m.logTerm then (d, []) else ({ snapD d m with commit := m.index }, answerP { snapD d m with commit := m.index } m { kind := 6, term := (snapD d m).term, ok := true, index := m.index })) := by show _ = _; rw [HP.out, if_neg hc]
    clear HP hc
    go_quiet (fail)
    go_upto_region 3 with fail
    have dq : Below w1.heap.size w1 (w1.drewN nq) := below_drewN (Below.refl _ _) nq
    have N2 := N1.below dq
    have b2 := below_step b1 dq
    have km2 := km.drewN nq
    clear N1 b1 km dq s4 n10
    generalize w1.drewN nq = w2 at *
    have B2 : BlP F w w2 := .of_below b2
    clear b2
    have s3 : w2.cell? ⟨mb, 3, none⟩ = some (.int .u64 (m.term : Int)) := km2.cell 3
    have s5 : w2.cell? ⟨mb, 5, none⟩ = some (.int .u64 (m.logTerm : Int)) := km2.cell 5
    by_cases ht : m.term < m.logTerm
    · have hti : (m.term : Int) < (m.logTerm : Int) := by omega
      have HE : Hid (snapP d m = (d, [])) := by show _ = _; rw [HP2.out, if_pos ht]
      clear HP2 ht
      go_wp2_with fail
      go_ret
      rw [HE.out]
      exact RetMs.nil_ (ND.all ⟨_, _, _, _, _, N2, HF.out⟩) (fun b _ h => .inl h) (fun b h => .inr h) B2
    · have hti : ¬ (m.term : Int) < (m.logTerm : Int) := by omega
      have HP3 : Hid (snapP d m = ({ snapD d m with commit := m.index }, answerP { snapD d m with commit := m.index } m { kind := 6, term := (snapD d m).term, ok := true, index := m.index })) := by show _ = _; rw [HP2.out, if_neg ht]
      clear HP2 ht
      have s4 : w2.cell? ⟨mb, 4, none⟩ = some (.int .u64 (m.index : Int)) := km2.cell 4
      obtain ⟨Al, ec, rfl⟩ := N2.log.shape
      have T := termat_any g Al ec V M X Any d m.index w2 N2.blk (N2.slS hb.len32) hb.nb (by omega)
      have HSD : Hid (snapD d m = if (termAt d m.index).2 = false ∨ (termAt d m.index).1 ≠ m.logTerm then { d with base := m.index, baseTerm := m.logTerm, log := [] } else d) := rfl
      obtain ⟨q, hq⟩ : ∃ q, q = termAt d m.index := ⟨_, rfl⟩
      rw [← hq] at T HSD
      clear hq
      obtain ⟨qt, qo⟩ := q
      replace HSD : Hid (snapD d m = if qo = false ∨ qt ≠ m.logTerm then { d with base := m.index, baseTerm := m.logTerm, log := [] } else d) := HSD
      go_wp2_with fail
      refine T.mono ?_
      clear T
      rintro en w3 ⟨rfl, n3, hw3⟩
      have d3 : Below w2.heap.size w2 w3 := by rw [hw3]; exact ⟨rfl, rfl, rfl, Nat.le_refl _, fun _ _ => rfl⟩
      have N3 := N2.below d3
      have km3 := km2.below d3 km2.lt
      have B3 := B2.trans (.of_below d3)
      clear hw3 d3 N2 km2 B2 s3 s4 s5
      have s5 : w3.cell? ⟨mb, 5, none⟩ = some (.int .u64 (m.logTerm : Int)) := km3.cell 5
      have hyes : qo = false ∨ qt ≠ m.logTerm → snapD d m = { d with base := m.index, baseTerm := m.logTerm, log := [] } := fun h => by rw [HSD.out, if_pos h]
      have hnon : ¬ (qo = false ∨ qt ≠ m.logTerm) → snapD d m = d := fun h => by rw [HSD.out, if_neg h]
      have HYES := Lib.hid hyes
      have HNON := Lib.hid hnon
      clear hyes hnon HSD
      cases qo with
      | false =>
        have HD : Hid (snapD d m = { d with base := m.index, baseTerm := m.logTerm, log := [] }) := HYES.out (.inl rfl)
        clear HYES HNON
        go_upto_region 7 with fail
        clear s5
        refine wp_region_noPanic ?_
        have kS : Blk w3.drew mb 58 #[.int .i64 m.kind, .int .i64 m.frm, .int .i64 m.dst, .int .u64 (m.term : Int), .int .u64 (m.index : Int), .int .u64 (m.logTerm : Int), .int .u64 (m.commit : Int), .slice A m.ents.length c, .bool m.ok, .slice none 0 0] := km3.drew
        have k3 := N3.blk.drew
        have g3 : w3.grownBy w3.drew (some g) := only_drew (only_of_below (Below.refl _ _) _)
        refine wp_region_held_drew (S := fun Y => Blk Y mb 58 #[.int .i64 m.kind, .int .i64 m.frm, .int .i64 m.dst, .int .u64 (m.term : Int), .int .u64 (m.index : Int), .int .u64 (m.logTerm : Int), .int .u64 (m.commit : Int), .slice A m.ents.length c, .bool m.ok, .slice none 0 0]) (by kernel_rfl) kS (fun hH => ?_)
        obtain ⟨wa, hwa⟩ : ∃ wa, wa = w3.drew := ⟨_, rfl⟩
        rw [← hwa] at kS k3 g3 hH ⊢
        clear hwa
        refine wpAnyH_take (i := 0) (v := ?_) rfl (by kernel_rfl) (by kernel_rfl) (by kernel_rfl) (fun _ _ _ h => h) (Or.inl ⟨by rfl, ?_⟩) hH ?_
        case refine_2 => intro w hSw; go_simp; try with_reducible rfl
        try simp only [Z1, Z2, Z4, Z5, Z6, Z7]
        refine wpAnyH_take (i := 1) (v := ?_) rfl (by kernel_rfl) (by kernel_rfl) (by kernel_rfl) (fun _ _ _ h => h) (Or.inl ⟨by rfl, ?_⟩) hH ?_
        case refine_2 => intro w hSw; go_simp; try with_reducible rfl
        try simp only [Z1, Z2, Z3, Z4, Z5, Z6, Z7]
        refine wpAnyH_take (i := 2) (v := ?_) rfl (by kernel_rfl) (by kernel_rfl) (by kernel_rfl) (fun _ _ _ h => h) (Or.inl ⟨by rfl, ?_⟩) hH ?_
        case refine_2 => intro w hSw; go_simp; try with_reducible rfl
        try simp only [Z1, Z2, Z3, Z4, Z5, Z6, Z7]
        refine wpAnyH_take (i := 3) (v := ?_) rfl (by kernel_rfl) (by kernel_rfl) (by kernel_rfl) (fun _ _ _ h => h) (Or.inl ⟨by rfl, ?_⟩) hH ?_
        case refine_2 => intro w hSw; go_simp; try with_reducible rfl
        try simp only [Z1, Z2, Z3, Z4, Z5, Z6, Z7]
        refine wpAnyH_take (i := 4) (v := ?_) rfl (by kernel_rfl) (by kernel_rfl) (by kernel_rfl) (fun _ _ _ h => h) (Or.inl ⟨by rfl, ?_⟩) hH ?_
        case refine_2 => intro w hSw; have kb : Blk w mb 58 #[.int .i64 m.kind, .int .i64 m.frm, .int .i64 m.dst, .int .u64 (m.term : Int), .int .u64 (m.index : Int), .int .u64 (m.logTerm : Int), .int .u64 (m.commit : Int), .slice A m.ents.length c, .bool m.ok, .slice none 0 0] := hSw; have s4 : w.cell? ⟨_, 4, none⟩ = some (.int .u64 (m.index : Int)) := Blk.cell kb 4; clear kb hSw; go_simp; try with_reducible rfl
        try simp only [Z1, Z2, Z3, Z4, Z5, Z6, Z7]
        refine wpAnyH_take (i := 5) (v := ?_) rfl (by kernel_rfl) (by kernel_rfl) (by kernel_rfl) (fun _ _ _ h => h) (Or.inl ⟨by rfl, ?_⟩) hH ?_
        case refine_2 => intro w hSw; go_simp; try with_reducible rfl
        try simp only [Z1, Z2, Z3, Z4, Z5, Z6, Z7]
        refine wpAnyH_take (i := 6) (v := ?_) rfl (by kernel_rfl) (by kernel_rfl) (by kernel_rfl) (fun _ _ _ h => h) (Or.inl ⟨by rfl, ?_⟩) hH ?_
        case refine_2 => intro w hSw; have kb : Blk w mb 58 #[.int .i64 m.kind, .int .i64 m.frm, .int .i64 m.dst, .int .u64 (m.term : Int), .int .u64 (m.index : Int), .int .u64 (m.logTerm : Int), .int .u64 (m.commit : Int), .slice A m.ents.length c, .bool m.ok, .slice none 0 0] := hSw; have s5 : w.cell? ⟨_, 5, none⟩ = some (.int .u64 (m.logTerm : Int)) := Blk.cell kb 5; clear kb hSw; go_simp; try with_reducible rfl
        try simp only [Z1, Z2, Z3, Z4, Z5, Z6, Z7]
        refine wpAnyH_take (i := 7) (v := ?_) rfl (by kernel_rfl) (by kernel_rfl) (by kernel_rfl) (fun _ _ _ h => h) (Or.inl ⟨by rfl, ?_⟩) hH ?_
        case refine_2 => intro w hSw; go_simp; try with_reducible rfl
        try simp only [Z1, Z2, Z3, Z4, Z5, Z6, Z7]
        refine wpAnyH_take (i := 8) (v := ?_) rfl (by kernel_rfl) (by kernel_rfl) (by kernel_rfl) (fun _ _ _ h => h) (Or.inl ⟨by rfl, ?_⟩) hH ?_
        case refine_2 => intro w hSw; go_simp; try with_reducible rfl
        try simp only [Z1, Z2, Z3, Z4, Z5, Z6, Z7]
        refine wpAnyH_take (i := 9) (v := ?_) rfl (by kernel_rfl) (by kernel_rfl) (by kernel_rfl) (fun _ _ _ h => h) (Or.inl ⟨by rfl, ?_⟩) hH ?_
        case refine_2 => intro w hSw; go_simp; try with_reducible rfl
        try simp only [Z1, Z2, Z3, Z4, Z5, Z6, Z7]
        refine wpAnyH_ready (rs := [10]) (by kernel_rfl) (by simp) ?_
        refine AllReadyH.cons rfl (fun K hK => ?_) AllReadyH.nil
        have y : wa.cell? ⟨g, 2, none⟩ = some (.int .u64 (d.base : Int)) := k3.cell 2
        have f : wa.frozen? ⟨g, 2, none⟩ = false := k3.frozen 2
        go_simp
        clear y f
        have k3wb := k3.set_ 2 (.int .u64 (m.index : Int))
        have g3wb : w3.grownBy (wa.setCell ⟨g, 2, none⟩ (.int .u64 (m.index : Int))) (some g) := only_setCell g3 (.inl rfl) _
        have kmwb := kS.far (p := ⟨g, 2, none⟩) (by show mb ≠ g; omega) (.int .u64 (m.index : Int))
        clear kS k3 g3
        generalize (wa.setCell ⟨g, 2, none⟩ (.int .u64 (m.index : Int))) = wb at *
        have kS := kmwb
        clear kmwb
        refine hK.out _ _ kS (fun hH => ?_)
        clear hK K
        try dsimp only
        try simp only [Z1, Z2, Z3, Z4, Z5, Z6, Z7]
        refine wpAnyH_take (i := 11) (v := ?_) rfl (by kernel_rfl) (by kernel_rfl) (by kernel_rfl) (fun _ _ _ h => h) (Or.inl ⟨by rfl, ?_⟩) hH ?_
        case refine_2 => intro w hSw; go_simp; try with_reducible rfl
        try simp only [Z1, Z2, Z3, Z4, Z5, Z6, Z7]
        refine wpAnyH_take (i := 12) (v := ?_) rfl (by kernel_rfl) (by kernel_rfl) (by kernel_rfl) (fun _ _ _ h => h) (Or.inl ⟨by rfl, ?_⟩) hH ?_
        case refine_2 => intro w hSw; go_simp; try with_reducible rfl
        try simp only [Z1, Z2, Z3, Z4, Z5, Z6, Z7]
        refine wpAnyH_take (i := 13) (v := ?_) rfl (by kernel_rfl) (by kernel_rfl) (by kernel_rfl) (fun _ _ _ h => h) (Or.inl ⟨by rfl, ?_⟩) hH ?_
        case refine_2 => intro w hSw; go_simp; try with_reducible rfl
        try simp only [Z1, Z2, Z3, Z4, Z5, Z6, Z7]
        refine wpAnyH_ready (rs := [14]) (by kernel_rfl) (by simp) ?_
        refine AllReadyH.cons rfl (fun K hK => ?_) AllReadyH.nil
        have y : wb.cell? ⟨g, 3, none⟩ = some (.int .u64 (d.baseTerm : Int)) := k3wb.cell 3
        have f : wb.frozen? ⟨g, 3, none⟩ = false := k3wb.frozen 3
        go_simp
        clear y f
        have k3wbwc := k3wb.set_ 3 (.int .u64 (m.logTerm : Int))
        have g3wbwc : w3.grownBy (wb.setCell ⟨g, 3, none⟩ (.int .u64 (m.logTerm : Int))) (some g) := only_setCell g3wb (.inl rfl) _
        have kmwc := kS.far (p := ⟨g, 3, none⟩) (by show mb ≠ g; omega) (.int .u64 (m.logTerm : Int))
        clear kS k3wb g3wb
        generalize (wb.setCell ⟨g, 3, none⟩ (.int .u64 (m.logTerm : Int))) = wc at *
        have kS := kmwc
        clear kmwc
        refine hK.out _ _ kS (fun hH => ?_)
        clear hK K
        try dsimp only
        try simp only [Z1, Z2, Z3, Z4, Z5, Z6, Z7]
        refine wpAnyH_take (i := 15) (v := ?_) rfl (by kernel_rfl) (by kernel_rfl) (by kernel_rfl) (fun _ _ _ h => h) (Or.inl ⟨by rfl, ?_⟩) hH ?_
        case refine_2 => intro w hSw; go_simp; try with_reducible rfl
        try simp only [Z1, Z2, Z3, Z4, Z5, Z6, Z7]
        refine wpAnyH_take (i := 16) (v := ?_) rfl (by kernel_rfl) (by kernel_rfl) (by kernel_rfl) (fun _ _ _ h => h) (Or.inl ⟨by rfl, ?_⟩) hH ?_
        case refine_2 => intro w hSw; go_simp; try with_reducible rfl
        try simp only [Z1, Z2, Z3, Z4, Z5, Z6, Z7]
        refine wpAnyH_take (i := 17) (v := ?_) rfl (by kernel_rfl) (by kernel_rfl) (by kernel_rfl) (fun _ _ _ h => h) (Or.inl ⟨by rfl, ?_⟩) hH ?_
        case refine_2 => intro w hSw; go_simp; try with_reducible rfl
        try simp only [Z1, Z2, Z3, Z4, Z5, Z6, Z7]
        refine wpAnyH_ready (rs := [18]) (by kernel_rfl) (by simp) ?_
        refine AllReadyH.cons rfl (fun K hK => ?_) AllReadyH.nil
        have y : wc.cell? ⟨g, 4, none⟩ = some (.slice Al d.log.length ec) := k3wbwc.cell 4
        have f : wc.frozen? ⟨g, 4, none⟩ = false := k3wbwc.frozen 4
        go_simp
        clear y f
        have k3wbwcwd := k3wbwc.set_ 4 (.slice none 0 0)
        have g3wbwcwd : w3.grownBy (wc.setCell ⟨g, 4, none⟩ (.slice none 0 0)) (some g) := only_setCell g3wbwc (.inl rfl) _
        have kmwd := kS.far (p := ⟨g, 4, none⟩) (by show mb ≠ g; omega) (.slice none 0 0)
        clear kS k3wbwc g3wbwc
        generalize (wc.setCell ⟨g, 4, none⟩ (.slice none 0 0)) = wd at *
        have kS := kmwd
        clear kmwd
        refine hK.out _ _ kS (fun hH => ?_)
        clear hK K
        try dsimp only
        try simp only [Z1, Z2, Z3, Z4, Z5, Z6, Z7]
        refine wpAnyH_done (by kernel_rfl) ?_ _
        refine NoPanic.normal ?_
        have N7 : NodeAt wd g S (.slice none 0 0) V M X { d with base := m.index, baseTerm := m.logTerm, log := [] } := N3.nilE g3wbwcwd k3wbwcwd ⟨rfl, rfl, rfl, rfl⟩
        have B7 := B3.grown g3wbwcwd (fun b e h => (HF.out b h).1 (Option.some.inj e).symm)
        have km7 := kS
        clear k3wbwcwd g3wbwcwd kS N3 B3 km3
        go_upto_region 8 with fail
        have s4 : wd.cell? ⟨mb, 4, none⟩ = some (.int .u64 (m.index : Int)) := km7.cell 4
        have n10 : wd.cell? ⟨g, 10, none⟩ = some (.int .u64 (d.commit : Int)) := N7.blk.cell 10
        have f10 : wd.frozen? ⟨g, 10, none⟩ = false := N7.blk.frozen 10
        obtain ⟨d2, hd2⟩ : ∃ d2 : LNode, d2 = { { d with base := m.index, baseTerm := m.logTerm, log := [] } with commit := m.index } := ⟨_, rfl⟩
        have g8 : wd.grownBy (wd.setCell ⟨g, 10, none⟩ (.int .u64 (m.index : Int))) (some g) := only_setCell (only_of_below (Below.refl _ _) (some g)) (.inl rfl) _
        have N8 : NodeAt (wd.setCell ⟨g, 10, none⟩ (.int .u64 (m.index : Int))) g S (.slice none 0 0) V M X d2 := by rw [hd2]; exact N7.turn g8 (N7.blk.set_ 10 (.int .u64 (m.index : Int))) ⟨rfl, rfl, rfl, rfl⟩
        have B8 := B7.grown g8 (fun b e h => (HF.out b h).1 (Option.some.inj e).symm)
        have km8 := km7.far (p := ⟨g, 10, none⟩) (by show mb ≠ g; omega) (.int .u64 (m.index : Int))
        have HV : Hid (snapP d m = (d2, answerP d2 m { kind := 6, term := d2.term, ok := true, index := m.index })) := by show _ = _; rw [HP3.out, HD.out, hd2]
        have ht2 : d2.term ≤ 18446744073709551615 := by have := hb.term; rw [hd2]; show d.term ≤ _; omega
        clear hd2 HP3 HD
        go_upto_region 9 with fail
        clear s4 n10 f10 g8 N7 B7 km7
        generalize (wd.setCell ⟨g, 10, none⟩ (.int .u64 (m.index : Int))) = w8 at *
        have HF0 := HF
        clear HF
        have HF : Hid (∀ b, F b → Foreign g S (.slice none 0 0) V M X b) := fun b h => ⟨(HF0.out b h).1, (HF0.out b h).2.1, (fun e => by cases e), (HF0.out b h).2.2.2⟩
        refine wp_region_noPanic ?_
        have kS : Blk w8.drew g 48 (nodeC (.slice none 0 0) V M X d2) ∧ Blk w8.drew mb 58 #[.int .i64 m.kind, .int .i64 m.frm, .int .i64 m.dst, .int .u64 (m.term : Int), .int .u64 (m.index : Int), .int .u64 (m.logTerm : Int), .int .u64 (m.commit : Int), .slice A m.ents.length c, .bool m.ok, .slice none 0 0] := ⟨N8.blk.drew, km8.drew⟩
        refine wp_region_held_drew (S := fun Y => Blk Y g 48 (nodeC (.slice none 0 0) V M X d2) ∧ Blk Y mb 58 #[.int .i64 m.kind, .int .i64 m.frm, .int .i64 m.dst, .int .u64 (m.term : Int), .int .u64 (m.index : Int), .int .u64 (m.logTerm : Int), .int .u64 (m.commit : Int), .slice A m.ents.length c, .bool m.ok, .slice none 0 0]) (by kernel_rfl) kS (fun hH => ?_)
        refine wpAnyH_take (i := 0) (v := ?_) rfl (by kernel_rfl) (by kernel_rfl) (by kernel_rfl) (fun _ _ _ h => h) (Or.inl ⟨by rfl, ?_⟩) hH ?_
        case refine_2 => intro w hSw; go_simp; try with_reducible rfl
        try simp only [Z1, Z2, Z4, Z5, Z6, Z7]
        refine wpAnyH_take (i := 1) (v := ?_) rfl (by kernel_rfl) (by kernel_rfl) (by kernel_rfl) (fun _ _ _ h => h) (Or.inl ⟨by rfl, ?_⟩) hH ?_
        case refine_2 => intro w hSw; obtain ⟨kw, kb⟩ := hSw; replace kw : Blk w g 48 (nodeC (.slice none 0 0) V M X d2) := kw; replace kb : Blk w mb 58 #[.int .i64 m.kind, .int .i64 m.frm, .int .i64 m.dst, .int .u64 (m.term : Int), .int .u64 (m.index : Int), .int .u64 (m.logTerm : Int), .int .u64 (m.commit : Int), .slice A m.ents.length c, .bool m.ok, .slice none 0 0] := kb; have s0 : w.cell? ⟨_, 0, none⟩ = some (.int .i64 m.kind) := Blk.cell kb 0; have s1 : w.cell? ⟨_, 1, none⟩ = some (.int .i64 m.frm) := Blk.cell kb 1; have s2 : w.cell? ⟨_, 2, none⟩ = some (.int .i64 m.dst) := Blk.cell kb 2; have s3 : w.cell? ⟨_, 3, none⟩ = some (.int .u64 (m.term : Int)) := Blk.cell kb 3; have s4 : w.cell? ⟨_, 4, none⟩ = some (.int .u64 (m.index : Int)) := Blk.cell kb 4; have s5 : w.cell? ⟨_, 5, none⟩ = some (.int .u64 (m.logTerm : Int)) := Blk.cell kb 5; have s6 : w.cell? ⟨_, 6, none⟩ = some (.int .u64 (m.commit : Int)) := Blk.cell kb 6; have s7 : w.cell? ⟨_, 7, none⟩ = some (.slice A m.ents.length c) := Blk.cell kb 7; have s8 : w.cell? ⟨_, 8, none⟩ = some (.bool m.ok) := Blk.cell kb 8; have s9 : w.cell? ⟨_, 9, none⟩ = some (.slice none 0 0) := Blk.cell kb 9; clear kw kb; go_simp; try with_reducible rfl
        try simp only [Z1, Z2, Z3, Z4, Z5, Z6, Z7]
        refine wpAnyH_take (i := 2) (v := ?_) rfl (by kernel_rfl) (by kernel_rfl) (by kernel_rfl) (fun _ _ _ h => h) (Or.inl ⟨by rfl, ?_⟩) hH ?_
        case refine_2 => intro w hSw; go_simp; try with_reducible rfl
        try simp only [Z1, Z2, Z3, Z4, Z5, Z6, Z7]
        refine wpAnyH_take (i := 3) (v := ?_) rfl (by kernel_rfl) (by kernel_rfl) (by kernel_rfl) (fun _ _ _ h => h) (Or.inl ⟨by rfl, ?_⟩) hH ?_
        case refine_2 => intro w hSw; go_simp; try with_reducible rfl
        try simp only [Z1, Z2, Z3, Z4, Z5, Z6, Z7]
        refine wpAnyH_take (i := 4) (v := ?_) rfl (by kernel_rfl) (by kernel_rfl) (by kernel_rfl) (fun _ _ _ h => h) (Or.inl ⟨by rfl, ?_⟩) hH ?_
        case refine_2 => intro w hSw; go_simp; try with_reducible rfl
        try simp only [Z1, Z2, Z3, Z4, Z5, Z6, Z7]
        refine wpAnyH_take (i := 5) (v := ?_) rfl (by kernel_rfl) (by kernel_rfl) (by kernel_rfl) (fun _ _ _ h => h) (Or.inl ⟨by rfl, ?_⟩) hH ?_
        case refine_2 => intro w hSw; go_simp; try with_reducible rfl
        try simp only [Z1, Z2, Z3, Z4, Z5, Z6, Z7]
        refine wpAnyH_take (i := 6) (v := ?_) rfl (by kernel_rfl) (by kernel_rfl) (by kernel_rfl) (fun _ _ _ h => h) (Or.inl ⟨by rfl, ?_⟩) hH ?_
        case refine_2 => intro w hSw; go_simp; try with_reducible rfl
        try simp only [Z1, Z2, Z3, Z4, Z5, Z6, Z7]
        refine wpAnyH_take (i := 7) (v := ?_) rfl (by kernel_rfl) (by kernel_rfl) (by kernel_rfl) (fun _ _ _ h => h) (Or.inl ⟨by rfl, ?_⟩) hH ?_
        case refine_2 => intro w hSw; obtain ⟨kw, kb⟩ := hSw; replace kw : Blk w g 48 (nodeC (.slice none 0 0) V M X d2) := kw; replace kb : Blk w mb 58 #[.int .i64 m.kind, .int .i64 m.frm, .int .i64 m.dst, .int .u64 (m.term : Int), .int .u64 (m.index : Int), .int .u64 (m.logTerm : Int), .int .u64 (m.commit : Int), .slice A m.ents.length c, .bool m.ok, .slice none 0 0] := kb; have n0 : w.cell? ⟨_, 0, none⟩ = some (.int .u64 (d2.term : Int)) := Blk.cell kw 0; clear kw kb; go_simp; try with_reducible rfl
        try simp only [Z1, Z2, Z3, Z4, Z5, Z6, Z7]
        refine wpAnyH_take (i := 8) (v := ?_) rfl (by kernel_rfl) (by kernel_rfl) (by kernel_rfl) (fun _ _ _ h => h) (Or.inl ⟨by rfl, ?_⟩) hH ?_
        case refine_2 => intro w hSw; go_simp; try with_reducible rfl
        try simp only [Z1, Z2, Z3, Z4, Z5, Z6, Z7]
        refine wpAnyH_take (i := 9) (v := ?_) rfl (by kernel_rfl) (by kernel_rfl) (by kernel_rfl) (fun _ _ _ h => h) (Or.inl ⟨by rfl, ?_⟩) hH ?_
        case refine_2 => intro w hSw; obtain ⟨kw, kb⟩ := hSw; replace kw : Blk w g 48 (nodeC (.slice none 0 0) V M X d2) := kw; replace kb : Blk w mb 58 #[.int .i64 m.kind, .int .i64 m.frm, .int .i64 m.dst, .int .u64 (m.term : Int), .int .u64 (m.index : Int), .int .u64 (m.logTerm : Int), .int .u64 (m.commit : Int), .slice A m.ents.length c, .bool m.ok, .slice none 0 0] := kb; have s4 : w.cell? ⟨_, 4, none⟩ = some (.int .u64 (m.index : Int)) := Blk.cell kb 4; clear kw kb; go_simp; try with_reducible rfl
        try simp only [Z1, Z2, Z3, Z4, Z5, Z6, Z7]
        refine wpAnyH_take (i := 10) (v := ?_) rfl (by kernel_rfl) (by kernel_rfl) (by kernel_rfl) (fun _ _ _ h => h) (Or.inl ⟨by rfl, ?_⟩) hH ?_
        case refine_2 => intro w hSw; go_simp; try with_reducible rfl
        try simp only [Z1, Z2, Z3, Z4, Z5, Z6, Z7]
        refine wpAnyH_ready (rs := [11]) (by kernel_rfl) (by simp) ?_
        refine AllReadyH.cons rfl (fun K hK => ?_) AllReadyH.nil
        go_simp
        have TU := answer_any g (.slice none 0 0) V M X d2 A none c 0 m { kind := 6, term := d2.term, ok := true, index := m.index } (fun _ => False) w8.drew kS.1 (MsgAt.nil_ _ _ _ rfl ht2 (by show m.index ≤ _; omega) (Nat.zero_le _) (Nat.zero_le _))
        rw [show msgC A c m = #[.int .i64 m.kind, .int .i64 m.frm, .int .i64 m.dst, .int .u64 (m.term : Int), .int .u64 (m.index : Int), .int .u64 (m.logTerm : Int), .int .u64 (m.commit : Int), .slice A m.ents.length c, .bool m.ok, .slice none 0 0] from rfl] at TU
        replace TU : Calls Try.prog 36 #[.pointer (some ⟨g, 0, none⟩), .agg #[.int .i64 m.kind, .int .i64 m.frm, .int .i64 m.dst, .int .u64 (m.term : Int), .int .u64 (m.index : Int), .int .u64 (m.logTerm : Int), .int .u64 (m.commit : Int), .slice A m.ents.length c, .bool m.ok, .slice none 0 0], .agg #[.int .i64 6, .int .i64 0, .int .i64 0, .int .u64 (d2.term : Int), .int .u64 (m.index : Int), .int .u64 0, .int .u64 0, .slice none 0 0, .bool true, .slice none 0 0]] w8.drew _ := TU
        refine TU.mono ?_
        clear TU
        rintro en w7 ⟨gb, rfl, o7, b7⟩
        have k7 := kS.1.below b7 kS.1.lt
        have km7 := kS.2.below b7 kS.2.lt
        refine hK.out _ _ ⟨k7, km7⟩ (fun hH => ?_)
        clear hK K
        try dsimp only
        try simp only [Z1, Z2, Z3, Z4, Z5, Z6, Z7]
        refine wpAnyH_take (i := 12) (v := ?_) rfl (by kernel_rfl) (by kernel_rfl) (by kernel_rfl) (fun _ _ _ h => h) (Or.inl ⟨by rfl, ?_⟩) hH ?_
        case refine_2 => intro w hSw; go_simp; try with_reducible rfl
        try simp only [Z1, Z2, Z3, Z4, Z5, Z6, Z7]
        refine wpAnyH_done (by kernel_rfl) ?_ _
        refine NoPanic.normal ?_
        have D7 : ND w7 g (fun b => F b ∨ w8.heap.size ≤ b) d2 := ND.new (w := w8) ⟨_, _, _, _, _, N8, HF.out⟩ (below_step ((Below.refl _ _).drew) b7)
        have z7 := B8.size
        have o7' := o7.mono (S' := fun b => w8.heap.size ≤ b) (fun b _ _ h => h.elim)
        go_wp2_with fail
        go_ret
        rw [HV.out]
        exact ⟨some ⟨gb, 0, none⟩, 1, w8.heap.size, rfl, z7, o7', D7.mono (fun b h => h.imp (fun h => h.1) id), B8.trans (.of_below (below_step ((Below.refl _ _).drew) b7))⟩
      | true =>
        by_cases hqt : qt = m.logTerm
        · have hqi : ((qt : Int) != (m.logTerm : Int)) = false := by rw [bne_eq_false_iff_eq]; omega
          have HD : Hid (snapD d m = d) := HNON.out (by simp; exact hqt)
          clear HYES HNON hqt
          go_upto_region 8 with fail
          have s4 : w3.cell? ⟨mb, 4, none⟩ = some (.int .u64 (m.index : Int)) := km3.cell 4
          have n10 : w3.cell? ⟨g, 10, none⟩ = some (.int .u64 (d.commit : Int)) := N3.blk.cell 10
          have f10 : w3.frozen? ⟨g, 10, none⟩ = false := N3.blk.frozen 10
          obtain ⟨d2, hd2⟩ : ∃ d2 : LNode, d2 = { d with commit := m.index } := ⟨_, rfl⟩
          have g8 : w3.grownBy (w3.setCell ⟨g, 10, none⟩ (.int .u64 (m.index : Int))) (some g) := only_setCell (only_of_below (Below.refl _ _) (some g)) (.inl rfl) _
          have N8 : NodeAt (w3.setCell ⟨g, 10, none⟩ (.int .u64 (m.index : Int))) g S (.slice Al d.log.length ec) V M X d2 := by rw [hd2]; exact N3.turn g8 (N3.blk.set_ 10 (.int .u64 (m.index : Int))) ⟨rfl, rfl, rfl, rfl⟩
          have B8 := B3.grown g8 (fun b e h => (HF.out b h).1 (Option.some.inj e).symm)
          have km8 := km3.far (p := ⟨g, 10, none⟩) (by show mb ≠ g; omega) (.int .u64 (m.index : Int))
          have HV : Hid (snapP d m = (d2, answerP d2 m { kind := 6, term := d2.term, ok := true, index := m.index })) := by show _ = _; rw [HP3.out, HD.out, hd2]
          have ht2 : d2.term ≤ 18446744073709551615 := by have := hb.term; rw [hd2]; show d.term ≤ _; omega
          clear hd2 HP3 HD
          go_upto_region 9 with fail
          clear s4 n10 f10 g8 N3 B3 km3
          generalize (w3.setCell ⟨g, 10, none⟩ (.int .u64 (m.index : Int))) = w8 at *
          refine wp_region_noPanic ?_
          have kS : Blk w8.drew g 48 (nodeC (.slice Al d.log.length ec) V M X d2) ∧ Blk w8.drew mb 58 #[.int .i64 m.kind, .int .i64 m.frm, .int .i64 m.dst, .int .u64 (m.term : Int), .int .u64 (m.index : Int), .int .u64 (m.logTerm : Int), .int .u64 (m.commit : Int), .slice A m.ents.length c, .bool m.ok, .slice none 0 0] := ⟨N8.blk.drew, km8.drew⟩
          refine wp_region_held_drew (S := fun Y => Blk Y g 48 (nodeC (.slice Al d.log.length ec) V M X d2) ∧ Blk Y mb 58 #[.int .i64 m.kind, .int .i64 m.frm, .int .i64 m.dst, .int .u64 (m.term : Int), .int .u64 (m.index : Int), .int .u64 (m.logTerm : Int), .int .u64 (m.commit : Int), .slice A m.ents.length c, .bool m.ok, .slice none 0 0]) (by kernel_rfl) kS (fun hH => ?_)
          refine wpAnyH_take (i := 0) (v := ?_) rfl (by kernel_rfl) (by kernel_rfl) (by kernel_rfl) (fun _ _ _ h => h) (Or.inl ⟨by rfl, ?_⟩) hH ?_
          case refine_2 => intro w hSw; go_simp; try with_reducible rfl
          try simp only [Z1, Z2, Z4, Z5, Z6, Z7]
          refine wpAnyH_take (i := 1) (v := ?_) rfl (by kernel_rfl) (by kernel_rfl) (by kernel_rfl) (fun _ _ _ h => h) (Or.inl ⟨by rfl, ?_⟩) hH ?_
          case refine_2 => intro w hSw; obtain ⟨kw, kb⟩ := hSw; replace kw : Blk w g 48 (nodeC (.slice Al d.log.length ec) V M X d2) := kw; replace kb : Blk w mb 58 #[.int .i64 m.kind, .int .i64 m.frm, .int .i64 m.dst, .int .u64 (m.term : Int), .int .u64 (m.index : Int), .int .u64 (m.logTerm : Int), .int .u64 (m.commit : Int), .slice A m.ents.length c, .bool m.ok, .slice none 0 0] := kb; have s0 : w.cell? ⟨_, 0, none⟩ = some (.int .i64 m.kind) := Blk.cell kb 0; have s1 : w.cell? ⟨_, 1, none⟩ = some (.int .i64 m.frm) := Blk.cell kb 1; have s2 : w.cell? ⟨_, 2, none⟩ = some (.int .i64 m.dst) := Blk.cell kb 2; have s3 : w.cell? ⟨_, 3, none⟩ = some (.int .u64 (m.term : Int)) := Blk.cell kb 3; have s4 : w.cell? ⟨_, 4, none⟩ = some (.int .u64 (m.index : Int)) := Blk.cell kb 4; have s5 : w.cell? ⟨_, 5, none⟩ = some (.int .u64 (m.logTerm : Int)) := Blk.cell kb 5; have s6 : w.cell? ⟨_, 6, none⟩ = some (.int .u64 (m.commit : Int)) := Blk.cell kb 6; have s7 : w.cell? ⟨_, 7, none⟩ = some (.slice A m.ents.length c) := Blk.cell kb 7; have s8 : w.cell? ⟨_, 8, none⟩ = some (.bool m.ok) := Blk.cell kb 8; have s9 : w.cell? ⟨_, 9, none⟩ = some (.slice none 0 0) := Blk.cell kb 9; clear kw kb; go_simp; try with_reducible rfl
          try simp only [Z1, Z2, Z3, Z4, Z5, Z6, Z7]
          refine wpAnyH_take (i := 2) (v := ?_) rfl (by kernel_rfl) (by kernel_rfl) (by kernel_rfl) (fun _ _ _ h => h) (Or.inl ⟨by rfl, ?_⟩) hH ?_
          case refine_2 => intro w hSw; go_simp; try with_reducible rfl
          try simp only [Z1, Z2, Z3, Z4, Z5, Z6, Z7]
          refine wpAnyH_take (i := 3) (v := ?_) rfl (by kernel_rfl) (by kernel_rfl) (by kernel_rfl) (fun _ _ _ h => h) (Or.inl ⟨by rfl, ?_⟩) hH ?_
          case refine_2 => intro w hSw; go_simp; try with_reducible rfl
          try simp only [Z1, Z2, Z3, Z4, Z5, Z6, Z7]
          refine wpAnyH_take (i := 4) (v := ?_) rfl (by kernel_rfl) (by kernel_rfl) (by kernel_rfl) (fun _ _ _ h => h) (Or.inl ⟨by rfl, ?_⟩) hH ?_
          case refine_2 => intro w hSw; go_simp; try with_reducible rfl
          try simp only [Z1, Z2, Z3, Z4, Z5, Z6, Z7]
          refine wpAnyH_take (i := 5) (v := ?_) rfl (by kernel_rfl) (by kernel_rfl) (by kernel_rfl) (fun _ _ _ h => h) (Or.inl ⟨by rfl, ?_⟩) hH ?_
          case refine_2 => intro w hSw; go_simp; try with_reducible rfl
          try simp only [Z1, Z2, Z3, Z4, Z5, Z6, Z7]
          refine wpAnyH_take (i := 6) (v := ?_) rfl (by kernel_rfl) (by kernel_rfl) (by kernel_rfl) (fun _ _ _ h => h) (Or.inl ⟨by rfl, ?_⟩) hH ?_
          case refine_2 => intro w hSw; go_simp; try with_reducible rfl
          try simp only [Z1, Z2, Z3, Z4, Z5, Z6, Z7]
          refine wpAnyH_take (i := 7) (v := ?_) rfl (by kernel_rfl) (by kernel_rfl) (by kernel_rfl) (fun _ _ _ h => h) (Or.inl ⟨by rfl, ?_⟩) hH ?_
          case refine_2 => intro w hSw; obtain ⟨kw, kb⟩ := hSw; replace kw : Blk w g 48 (nodeC (.slice Al d.log.length ec) V M X d2) := kw; replace kb : Blk w mb 58 #[.int .i64 m.kind, .int .i64 m.frm, .int .i64 m.dst, .int .u64 (m.term : Int), .int .u64 (m.index : Int), .int .u64 (m.logTerm : Int), .int .u64 (m.commit : Int), .slice A m.ents.length c, .bool m.ok, .slice none 0 0] := kb; have n0 : w.cell? ⟨_, 0, none⟩ = some (.int .u64 (d2.term : Int)) := Blk.cell kw 0; clear kw kb; go_simp; try with_reducible rfl
          try simp only [Z1, Z2, Z3, Z4, Z5, Z6, Z7]
          refine wpAnyH_take (i := 8) (v := ?_) rfl (by kernel_rfl) (by kernel_rfl) (by kernel_rfl) (fun _ _ _ h => h) (Or.inl ⟨by rfl, ?_⟩) hH ?_
          case refine_2 => intro w hSw; go_simp; try with_reducible rfl
          try simp only [Z1, Z2, Z3, Z4, Z5, Z6, Z7]
          refine wpAnyH_take (i := 9) (v := ?_) rfl (by kernel_rfl) (by kernel_rfl) (by kernel_rfl) (fun _ _ _ h => h) (Or.inl ⟨by rfl, ?_⟩) hH ?_
          case refine_2 => intro w hSw; obtain ⟨kw, kb⟩ := hSw; replace kw : Blk w g 48 (nodeC (.slice Al d.log.length ec) V M X d2) := kw; replace kb : Blk w mb 58 #[.int .i64 m.kind, .int .i64 m.frm, .int .i64 m.dst, .int .u64 (m.term : Int), .int .u64 (m.index : Int), .int .u64 (m.logTerm : Int), .int .u64 (m.commit : Int), .slice A m.ents.length c, .bool m.ok, .slice none 0 0] := kb; have s4 : w.cell? ⟨_, 4, none⟩ = some (.int .u64 (m.index : Int)) := Blk.cell kb 4; clear kw kb; go_simp; try with_reducible rfl
          try simp only [Z1, Z2, Z3, Z4, Z5, Z6, Z7]
          refine wpAnyH_take (i := 10) (v := ?_) rfl (by kernel_rfl) (by kernel_rfl) (by kernel_rfl) (fun _ _ _ h => h) (Or.inl ⟨by rfl, ?_⟩) hH ?_
          case refine_2 => intro w hSw; go_simp; try with_reducible rfl
          try simp only [Z1, Z2, Z3, Z4, Z5, Z6, Z7]
          refine wpAnyH_ready (rs := [11]) (by kernel_rfl) (by simp) ?_
          refine AllReadyH.cons rfl (fun K hK => ?_) AllReadyH.nil
          go_simp
          have TU := answer_any g (.slice Al d.log.length ec) V M X d2 A none c 0 m { kind := 6, term := d2.term, ok := true, index := m.index } (fun _ => False) w8.drew kS.1 (MsgAt.nil_ _ _ _ rfl ht2 (by show m.index ≤ _; omega) (Nat.zero_le _) (Nat.zero_le _))
          rw [show msgC A c m = #[.int .i64 m.kind, .int .i64 m.frm, .int .i64 m.dst, .int .u64 (m.term : Int), .int .u64 (m.index : Int), .int .u64 (m.logTerm : Int), .int .u64 (m.commit : Int), .slice A m.ents.length c, .bool m.ok, .slice none 0 0] from rfl] at TU
          replace TU : Calls Try.prog 36 #[.pointer (some ⟨g, 0, none⟩), .agg #[.int .i64 m.kind, .int .i64 m.frm, .int .i64 m.dst, .int .u64 (m.term : Int), .int .u64 (m.index : Int), .int .u64 (m.logTerm : Int), .int .u64 (m.commit : Int), .slice A m.ents.length c, .bool m.ok, .slice none 0 0], .agg #[.int .i64 6, .int .i64 0, .int .i64 0, .int .u64 (d2.term : Int), .int .u64 (m.index : Int), .int .u64 0, .int .u64 0, .slice none 0 0, .bool true, .slice none 0 0]] w8.drew _ := TU
          refine TU.mono ?_
          clear TU
          rintro en w7 ⟨gb, rfl, o7, b7⟩
          have k7 := kS.1.below b7 kS.1.lt
          have km7 := kS.2.below b7 kS.2.lt
          refine hK.out _ _ ⟨k7, km7⟩ (fun hH => ?_)
          clear hK K
          try dsimp only
          try simp only [Z1, Z2, Z3, Z4, Z5, Z6, Z7]
          refine wpAnyH_take (i := 12) (v := ?_) rfl (by kernel_rfl) (by kernel_rfl) (by kernel_rfl) (fun _ _ _ h => h) (Or.inl ⟨by rfl, ?_⟩) hH ?_
          case refine_2 => intro w hSw; go_simp; try with_reducible rfl
          try simp only [Z1, Z2, Z3, Z4, Z5, Z6, Z7]
          refine wpAnyH_done (by kernel_rfl) ?_ _
          refine NoPanic.normal ?_
          have D7 : ND w7 g (fun b => F b ∨ w8.heap.size ≤ b) d2 := ND.new (w := w8) ⟨_, _, _, _, _, N8, HF.out⟩ (below_step ((Below.refl _ _).drew) b7)
          have z7 := B8.size
          have o7' := o7.mono (S' := fun b => w8.heap.size ≤ b) (fun b _ _ h => h.elim)
          go_wp2_with fail
          go_ret
          rw [HV.out]
          exact ⟨some ⟨gb, 0, none⟩, 1, w8.heap.size, rfl, z7, o7', D7.mono (fun b h => h.imp (fun h => h.1) id), B8.trans (.of_below (below_step ((Below.refl _ _).drew) b7))⟩
        · have hqi : ((qt : Int) != (m.logTerm : Int)) = true := by rw [bne_iff_ne]; omega
          have HD : Hid (snapD d m = { d with base := m.index, baseTerm := m.logTerm, log := [] }) := HYES.out (.inr hqt)
          clear HYES HNON hqt
          go_upto_region 7 with fail
          clear s5
          refine wp_region_noPanic ?_
          have kS : Blk w3.drew mb 58 #[.int .i64 m.kind, .int .i64 m.frm, .int .i64 m.dst, .int .u64 (m.term : Int), .int .u64 (m.index : Int), .int .u64 (m.logTerm : Int), .int .u64 (m.commit : Int), .slice A m.ents.length c, .bool m.ok, .slice none 0 0] := km3.drew
          have k3 := N3.blk.drew
          have g3 : w3.grownBy w3.drew (some g) := only_drew (only_of_below (Below.refl _ _) _)
          refine wp_region_held_drew (S := fun Y => Blk Y mb 58 #[.int .i64 m.kind, .int .i64 m.frm, .int .i64 m.dst, .int .u64 (m.term : Int), .int .u64 (m.index : Int), .int .u64 (m.logTerm : Int), .int .u64 (m.commit : Int), .slice A m.ents.length c, .bool m.ok, .slice none 0 0]) (by kernel_rfl) kS (fun hH => ?_)
          obtain ⟨wa, hwa⟩ : ∃ wa, wa = w3.drew := ⟨_, rfl⟩
          rw [← hwa] at kS k3 g3 hH ⊢
          clear hwa
          refine wpAnyH_take (i := 0) (v := ?_) rfl (by kernel_rfl) (by kernel_rfl) (by kernel_rfl) (fun _ _ _ h => h) (Or.inl ⟨by rfl, ?_⟩) hH ?_
          case refine_2 => intro w hSw; go_simp; try with_reducible rfl
          try simp only [Z1, Z2, Z4, Z5, Z6, Z7]
          refine wpAnyH_take (i := 1) (v := ?_) rfl (by kernel_rfl) (by kernel_rfl) (by kernel_rfl) (fun _ _ _ h => h) (Or.inl ⟨by rfl, ?_⟩) hH ?_
          case refine_2 => intro w hSw; go_simp; try with_reducible rfl
          try simp only [Z1, Z2, Z3, Z4, Z5, Z6, Z7]
          refine wpAnyH_take (i := 2) (v := ?_) rfl (by kernel_rfl) (by kernel_rfl) (by kernel_rfl) (fun _ _ _ h => h) (Or.inl ⟨by rfl, ?_⟩) hH ?_
          case refine_2 => intro w hSw; go_simp; try with_reducible rfl
          try simp only [Z1, Z2, Z3, Z4, Z5, Z6, Z7]
          refine wpAnyH_take (i := 3) (v := ?_) rfl (by kernel_rfl) (by kernel_rfl) (by kernel_rfl) (fun _ _ _ h => h) (Or.inl ⟨by rfl, ?_⟩) hH ?_
          case refine_2 => intro w hSw; go_simp; try with_reducible rfl
          try simp only [Z1, Z2, Z3, Z4, Z5, Z6, Z7]
          refine wpAnyH_take (i := 4) (v := ?_) rfl (by kernel_rfl) (by kernel_rfl) (by kernel_rfl) (fun _ _ _ h => h) (Or.inl ⟨by rfl, ?_⟩) hH ?_
          case refine_2 => intro w hSw; have kb : Blk w mb 58 #[.int .i64 m.kind, .int .i64 m.frm, .int .i64 m.dst, .int .u64 (m.term : Int), .int .u64 (m.index : Int), .int .u64 (m.logTerm : Int), .int .u64 (m.commit : Int), .slice A m.ents.length c, .bool m.ok, .slice none 0 0] := hSw; have s4 : w.cell? ⟨_, 4, none⟩ = some (.int .u64 (m.index : Int)) := Blk.cell kb 4; clear kb hSw; go_simp; try with_reducible rfl
          try simp only [Z1, Z2, Z3, Z4, Z5, Z6, Z7]
          refine wpAnyH_take (i := 5) (v := ?_) rfl (by kernel_rfl) (by kernel_rfl) (by kernel_rfl) (fun _ _ _ h => h) (Or.inl ⟨by rfl, ?_⟩) hH ?_
          case refine_2 => intro w hSw; go_simp; try with_reducible rfl
          try simp only [Z1, Z2, Z3, Z4, Z5, Z6, Z7]
          refine wpAnyH_take (i := 6) (v := ?_) rfl (by kernel_rfl) (by kernel_rfl) (by kernel_rfl) (fun _ _ _ h => h) (Or.inl ⟨by rfl, ?_⟩) hH ?_
          case refine_2 => intro w hSw; have kb : Blk w mb 58 #[.int .i64 m.kind, .int .i64 m.frm, .int .i64 m.dst, .int .u64 (m.term : Int), .int .u64 (m.index : Int), .int .u64 (m.logTerm : Int), .int .u64 (m.commit : Int), .slice A m.ents.length c, .bool m.ok, .slice none 0 0] := hSw; have s5 : w.cell? ⟨_, 5, none⟩ = some (.int .u64 (m.logTerm : Int)) := Blk.cell kb 5; clear kb hSw; go_simp; try with_reducible rfl
          try simp only [Z1, Z2, Z3, Z4, Z5, Z6, Z7]
          refine wpAnyH_take (i := 7) (v := ?_) rfl (by kernel_rfl) (by kernel_rfl) (by kernel_rfl) (fun _ _ _ h => h) (Or.inl ⟨by rfl, ?_⟩) hH ?_
          case refine_2 => intro w hSw; go_simp; try with_reducible rfl
          try simp only [Z1, Z2, Z3, Z4, Z5, Z6, Z7]
          refine wpAnyH_take (i := 8) (v := ?_) rfl (by kernel_rfl) (by kernel_rfl) (by kernel_rfl) (fun _ _ _ h => h) (Or.inl ⟨by rfl, ?_⟩) hH ?_
          case refine_2 => intro w hSw; go_simp; try with_reducible rfl
          try simp only [Z1, Z2, Z3, Z4, Z5, Z6, Z7]
          refine wpAnyH_take (i := 9) (v := ?_) rfl (by kernel_rfl) (by kernel_rfl) (by kernel_rfl) (fun _ _ _ h => h) (Or.inl ⟨by rfl, ?_⟩) hH ?_
          case refine_2 => intro w hSw; go_simp; try with_reducible rfl
          try simp only [Z1, Z2, Z3, Z4, Z5, Z6, Z7]
          refine wpAnyH_ready (rs := [10]) (by kernel_rfl) (by simp) ?_
          refine AllReadyH.cons rfl (fun K hK => ?_) AllReadyH.nil
          have y : wa.cell? ⟨g, 2, none⟩ = some (.int .u64 (d.base : Int)) := k3.cell 2
          have f : wa.frozen? ⟨g, 2, none⟩ = false := k3.frozen 2
          go_simp
          clear y f
          have k3wb := k3.set_ 2 (.int .u64 (m.index : Int))
          have g3wb : w3.grownBy (wa.setCell ⟨g, 2, none⟩ (.int .u64 (m.index : Int))) (some g) := only_setCell g3 (.inl rfl) _
          have kmwb := kS.far (p := ⟨g, 2, none⟩) (by show mb ≠ g; omega) (.int .u64 (m.index : Int))
          clear kS k3 g3
          generalize (wa.setCell ⟨g, 2, none⟩ (.int .u64 (m.index : Int))) = wb at *
          have kS := kmwb
          clear kmwb
          refine hK.out _ _ kS (fun hH => ?_)
          clear hK K
          try dsimp only
          try simp only [Z1, Z2, Z3, Z4, Z5, Z6, Z7]
          refine wpAnyH_take (i := 11) (v := ?_) rfl (by kernel_rfl) (by kernel_rfl) (by kernel_rfl) (fun _ _ _ h => h) (Or.inl ⟨by rfl, ?_⟩) hH ?_
          case refine_2 => intro w hSw; go_simp; try with_reducible rfl
          try simp only [Z1, Z2, Z3, Z4, Z5, Z6, Z7]
          refine wpAnyH_take (i := 12) (v := ?_) rfl (by kernel_rfl) (by kernel_rfl) (by kernel_rfl) (fun _ _ _ h => h) (Or.inl ⟨by rfl, ?_⟩) hH ?_
          case refine_2 => intro w hSw; go_simp; try with_reducible rfl
          try simp only [Z1, Z2, Z3, Z4, Z5, Z6, Z7]
          refine wpAnyH_take (i := 13) (v := ?_) rfl (by kernel_rfl) (by kernel_rfl) (by kernel_rfl) (fun _ _ _ h => h) (Or.inl ⟨by rfl, ?_⟩) hH ?_
          case refine_2 => intro w hSw; go_simp; try with_reducible rfl
          try simp only [Z1, Z2, Z3, Z4, Z5, Z6, Z7]
          refine wpAnyH_ready (rs := [14]) (by kernel_rfl) (by simp) ?_
          refine AllReadyH.cons rfl (fun K hK => ?_) AllReadyH.nil
          have y : wb.cell? ⟨g, 3, none⟩ = some (.int .u64 (d.baseTerm : Int)) := k3wb.cell 3
          have f : wb.frozen? ⟨g, 3, none⟩ = false := k3wb.frozen 3
          go_simp
          clear y f
          have k3wbwc := k3wb.set_ 3 (.int .u64 (m.logTerm : Int))
          have g3wbwc : w3.grownBy (wb.setCell ⟨g, 3, none⟩ (.int .u64 (m.logTerm : Int))) (some g) := only_setCell g3wb (.inl rfl) _
          have kmwc := kS.far (p := ⟨g, 3, none⟩) (by show mb ≠ g; omega) (.int .u64 (m.logTerm : Int))
          clear kS k3wb g3wb
          generalize (wb.setCell ⟨g, 3, none⟩ (.int .u64 (m.logTerm : Int))) = wc at *
          have kS := kmwc
          clear kmwc
          refine hK.out _ _ kS (fun hH => ?_)
          clear hK K
          try dsimp only
          try simp only [Z1, Z2, Z3, Z4, Z5, Z6, Z7]
          refine wpAnyH_take (i := 15) (v := ?_) rfl (by kernel_rfl) (by kernel_rfl) (by kernel_rfl) (fun _ _ _ h => h) (Or.inl ⟨by rfl, ?_⟩) hH ?_
          case refine_2 => intro w hSw; go_simp; try with_reducible rfl
          try simp only [Z1, Z2, Z3, Z4, Z5, Z6, Z7]
          refine wpAnyH_take (i := 16) (v := ?_) rfl (by kernel_rfl) (by kernel_rfl) (by kernel_rfl) (fun _ _ _ h => h) (Or.inl ⟨by rfl, ?_⟩) hH ?_
          case refine_2 => intro w hSw; go_simp; try with_reducible rfl
          try simp only [Z1, Z2, Z3, Z4, Z5, Z6, Z7]
          refine wpAnyH_take (i := 17) (v := ?_) rfl (by kernel_rfl) (by kernel_rfl) (by kernel_rfl) (fun _ _ _ h => h) (Or.inl ⟨by rfl, ?_⟩) hH ?_
          case refine_2 => intro w hSw; go_simp; try with_reducible rfl
          try simp only [Z1, Z2, Z3, Z4, Z5, Z6, Z7]
          refine wpAnyH_ready (rs := [18]) (by kernel_rfl) (by simp) ?_
          refine AllReadyH.cons rfl (fun K hK => ?_) AllReadyH.nil
          have y : wc.cell? ⟨g, 4, none⟩ = some (.slice Al d.log.length ec) := k3wbwc.cell 4
          have f : wc.frozen? ⟨g, 4, none⟩ = false := k3wbwc.frozen 4
          go_simp
          clear y f
          have k3wbwcwd := k3wbwc.set_ 4 (.slice none 0 0)
          have g3wbwcwd : w3.grownBy (wc.setCell ⟨g, 4, none⟩ (.slice none 0 0)) (some g) := only_setCell g3wbwc (.inl rfl) _
          have kmwd := kS.far (p := ⟨g, 4, none⟩) (by show mb ≠ g; omega) (.slice none 0 0)
          clear kS k3wbwc g3wbwc
          generalize (wc.setCell ⟨g, 4, none⟩ (.slice none 0 0)) = wd at *
          have kS := kmwd
          clear kmwd
          refine hK.out _ _ kS (fun hH => ?_)
          clear hK K
          try dsimp only
          try simp only [Z1, Z2, Z3, Z4, Z5, Z6, Z7]
          refine wpAnyH_done (by kernel_rfl) ?_ _
          refine NoPanic.normal ?_
          have N7 : NodeAt wd g S (.slice none 0 0) V M X { d with base := m.index, baseTerm := m.logTerm, log := [] } := N3.nilE g3wbwcwd k3wbwcwd ⟨rfl, rfl, rfl, rfl⟩
          have B7 := B3.grown g3wbwcwd (fun b e h => (HF.out b h).1 (Option.some.inj e).symm)
          have km7 := kS
          clear k3wbwcwd g3wbwcwd kS N3 B3 km3
          go_upto_region 8 with fail
          have s4 : wd.cell? ⟨mb, 4, none⟩ = some (.int .u64 (m.index : Int)) := km7.cell 4
          have n10 : wd.cell? ⟨g, 10, none⟩ = some (.int .u64 (d.commit : Int)) := N7.blk.cell 10
          have f10 : wd.frozen? ⟨g, 10, none⟩ = false := N7.blk.frozen 10
          obtain ⟨d2, hd2⟩ : ∃ d2 : LNode, d2 = { { d with base := m.index, baseTerm := m.logTerm, log := [] } with commit := m.index } := ⟨_, rfl⟩
          have g8 : wd.grownBy (wd.setCell ⟨g, 10, none⟩ (.int .u64 (m.index : Int))) (some g) := only_setCell (only_of_below (Below.refl _ _) (some g)) (.inl rfl) _
          have N8 : NodeAt (wd.setCell ⟨g, 10, none⟩ (.int .u64 (m.index : Int))) g S (.slice none 0 0) V M X d2 := by rw [hd2]; exact N7.turn g8 (N7.blk.set_ 10 (.int .u64 (m.index : Int))) ⟨rfl, rfl, rfl, rfl⟩
          have B8 := B7.grown g8 (fun b e h => (HF.out b h).1 (Option.some.inj e).symm)
          have km8 := km7.far (p := ⟨g, 10, none⟩) (by show mb ≠ g; omega) (.int .u64 (m.index : Int))
          have HV : Hid (snapP d m = (d2, answerP d2 m { kind := 6, term := d2.term, ok := true, index := m.index })) := by show _ = _; rw [HP3.out, HD.out, hd2]
          have ht2 : d2.term ≤ 18446744073709551615 := by have := hb.term; rw [hd2]; show d.term ≤ _; omega
          clear hd2 HP3 HD
          go_upto_region 9 with fail
          clear s4 n10 f10 g8 N7 B7 km7
          generalize (wd.setCell ⟨g, 10, none⟩ (.int .u64 (m.index : Int))) = w8 at *
          have HF0 := HF
          clear HF
          have HF : Hid (∀ b, F b → Foreign g S (.slice none 0 0) V M X b) := fun b h => ⟨(HF0.out b h).1, (HF0.out b h).2.1, (fun e => by cases e), (HF0.out b h).2.2.2⟩
          refine wp_region_noPanic ?_
          have kS : Blk w8.drew g 48 (nodeC (.slice none 0 0) V M X d2) ∧ Blk w8.drew mb 58 #[.int .i64 m.kind, .int .i64 m.frm, .int .i64 m.dst, .int .u64 (m.term : Int), .int .u64 (m.index : Int), .int .u64 (m.logTerm : Int), .int .u64 (m.commit : Int), .slice A m.ents.length c, .bool m.ok, .slice none 0 0] := ⟨N8.blk.drew, km8.drew⟩
          refine wp_region_held_drew (S := fun Y => Blk Y g 48 (nodeC (.slice none 0 0) V M X d2) ∧ Blk Y mb 58 #[.int .i64 m.kind, .int .i64 m.frm, .int .i64 m.dst, .int .u64 (m.term : Int), .int .u64 (m.index : Int), .int .u64 (m.logTerm : Int), .int .u64 (m.commit : Int), .slice A m.ents.length c, .bool m.ok, .slice none 0 0]) (by kernel_rfl) kS (fun hH => ?_)
          refine wpAnyH_take (i := 0) (v := ?_) rfl (by kernel_rfl) (by kernel_rfl) (by kernel_rfl) (fun _ _ _ h => h) (Or.inl ⟨by rfl, ?_⟩) hH ?_
          case refine_2 => intro w hSw; go_simp; try with_reducible rfl
          try simp only [Z1, Z2, Z4, Z5, Z6, Z7]
          refine wpAnyH_take (i := 1) (v := ?_) rfl (by kernel_rfl) (by kernel_rfl) (by kernel_rfl) (fun _ _ _ h => h) (Or.inl ⟨by rfl, ?_⟩) hH ?_
          case refine_2 => intro w hSw; obtain ⟨kw, kb⟩ := hSw; replace kw : Blk w g 48 (nodeC (.slice none 0 0) V M X d2) := kw; replace kb : Blk w mb 58 #[.int .i64 m.kind, .int .i64 m.frm, .int .i64 m.dst, .int .u64 (m.term : Int), .int .u64 (m.index : Int), .int .u64 (m.logTerm : Int), .int .u64 (m.commit : Int), .slice A m.ents.length c, .bool m.ok, .slice none 0 0] := kb; have s0 : w.cell? ⟨_, 0, none⟩ = some (.int .i64 m.kind) := Blk.cell kb 0; have s1 : w.cell? ⟨_, 1, none⟩ = some (.int .i64 m.frm) := Blk.cell kb 1; have s2 : w.cell? ⟨_, 2, none⟩ = some (.int .i64 m.dst) := Blk.cell kb 2; have s3 : w.cell? ⟨_, 3, none⟩ = some (.int .u64 (m.term : Int)) := Blk.cell kb 3; have s4 : w.cell? ⟨_, 4, none⟩ = some (.int .u64 (m.index : Int)) := Blk.cell kb 4; have s5 : w.cell? ⟨_, 5, none⟩ = some (.int .u64 (m.logTerm : Int)) := Blk.cell kb 5; have s6 : w.cell? ⟨_, 6, none⟩ = some (.int .u64 (m.commit : Int)) := Blk.cell kb 6; have s7 : w.cell? ⟨_, 7, none⟩ = some (.slice A m.ents.length c) := Blk.cell kb 7; have s8 : w.cell? ⟨_, 8, none⟩ = some (.bool m.ok) := Blk.cell kb 8; have s9 : w.cell? ⟨_, 9, none⟩ = some (.slice none 0 0) := Blk.cell kb 9; clear kw kb; go_simp; try with_reducible rfl
          try simp only [Z1, Z2, Z3, Z4, Z5, Z6, Z7]
          refine wpAnyH_take (i := 2) (v := ?_) rfl (by kernel_rfl) (by kernel_rfl) (by kernel_rfl) (fun _ _ _ h => h) (Or.inl ⟨by rfl, ?_⟩) hH ?_
          case refine_2 => intro w hSw; go_simp; try with_reducible rfl
          try simp only [Z1, Z2, Z3, Z4, Z5, Z6, Z7]
          refine wpAnyH_take (i := 3) (v := ?_) rfl (by kernel_rfl) (by kernel_rfl) (by kernel_rfl) (fun _ _ _ h => h) (Or.inl ⟨by rfl, ?_⟩) hH ?_
          case refine_2 => intro w hSw; go_simp; try with_reducible rfl
          try simp only [Z1, Z2, Z3, Z4, Z5, Z6, Z7]
          refine wpAnyH_take (i := 4) (v := ?_) rfl (by kernel_rfl) (by kernel_rfl) (by kernel_rfl) (fun _ _ _ h => h) (Or.inl ⟨by rfl, ?_⟩) hH ?_
          case refine_2 => intro w hSw; go_simp; try with_reducible rfl
          try simp only [Z1, Z2, Z3, Z4, Z5, Z6, Z7]
          refine wpAnyH_take (i := 5) (v := ?_) rfl (by kernel_rfl) (by kernel_rfl) (by kernel_rfl) (fun _ _ _ h => h) (Or.inl ⟨by rfl, ?_⟩) hH ?_
          case refine_2 => intro w hSw; go_simp; try with_reducible rfl
          try simp only [Z1, Z2, Z3, Z4, Z5, Z6, Z7]
          refine wpAnyH_take (i := 6) (v := ?_) rfl (by kernel_rfl) (by kernel_rfl) (by kernel_rfl) (fun _ _ _ h => h) (Or.inl ⟨by rfl, ?_⟩) hH ?_
          case refine_2 => intro w hSw; go_simp; try with_reducible rfl
          try simp only [Z1, Z2, Z3, Z4, Z5, Z6, Z7]
          refine wpAnyH_take (i := 7) (v := ?_) rfl (by kernel_rfl) (by kernel_rfl) (by kernel_rfl) (fun _ _ _ h => h) (Or.inl ⟨by rfl, ?_⟩) hH ?_
          case refine_2 => intro w hSw; obtain ⟨kw, kb⟩ := hSw; replace kw : Blk w g 48 (nodeC (.slice none 0 0) V M X d2) := kw; replace kb : Blk w mb 58 #[.int .i64 m.kind, .int .i64 m.frm, .int .i64 m.dst, .int .u64 (m.term : Int), .int .u64 (m.index : Int), .int .u64 (m.logTerm : Int), .int .u64 (m.commit : Int), .slice A m.ents.length c, .bool m.ok, .slice none 0 0] := kb; have n0 : w.cell? ⟨_, 0, none⟩ = some (.int .u64 (d2.term : Int)) := Blk.cell kw 0; clear kw kb; go_simp; try with_reducible rfl
          try simp only [Z1, Z2, Z3, Z4, Z5, Z6, Z7]
          refine wpAnyH_take (i := 8) (v := ?_) rfl (by kernel_rfl) (by kernel_rfl) (by kernel_rfl) (fun _ _ _ h => h) (Or.inl ⟨by rfl, ?_⟩) hH ?_
          case refine_2 => intro w hSw; go_simp; try with_reducible rfl
          try simp only [Z1, Z2, Z3, Z4, Z5, Z6, Z7]
          refine wpAnyH_take (i := 9) (v := ?_) rfl (by kernel_rfl) (by kernel_rfl) (by kernel_rfl) (fun _ _ _ h => h) (Or.inl ⟨by rfl, ?_⟩) hH ?_
          case refine_2 => intro w hSw; obtain ⟨kw, kb⟩ := hSw; replace kw : Blk w g 48 (nodeC (.slice none 0 0) V M X d2) := kw; replace kb : Blk w mb 58 #[.int .i64 m.kind, .int .i64 m.frm, .int .i64 m.dst, .int .u64 (m.term : Int), .int .u64 (m.index : Int), .int .u64 (m.logTerm : Int), .int .u64 (m.commit : Int), .slice A m.ents.length c, .bool m.ok, .slice none 0 0] := kb; have s4 : w.cell? ⟨_, 4, none⟩ = some (.int .u64 (m.index : Int)) := Blk.cell kb 4; clear kw kb; go_simp; try with_reducible rfl
          try simp only [Z1, Z2, Z3, Z4, Z5, Z6, Z7]
          refine wpAnyH_take (i := 10) (v := ?_) rfl (by kernel_rfl) (by kernel_rfl) (by kernel_rfl) (fun _ _ _ h => h) (Or.inl ⟨by rfl, ?_⟩) hH ?_
          case refine_2 => intro w hSw; go_simp; try with_reducible rfl
          try simp only [Z1, Z2, Z3, Z4, Z5, Z6, Z7]
          refine wpAnyH_ready (rs := [11]) (by kernel_rfl) (by simp) ?_
          refine AllReadyH.cons rfl (fun K hK => ?_) AllReadyH.nil
          go_simp
          have TU := answer_any g (.slice none 0 0) V M X d2 A none c 0 m { kind := 6, term := d2.term, ok := true, index := m.index } (fun _ => False) w8.drew kS.1 (MsgAt.nil_ _ _ _ rfl ht2 (by show m.index ≤ _; omega) (Nat.zero_le _) (Nat.zero_le _))
          rw [show msgC A c m = #[.int .i64 m.kind, .int .i64 m.frm, .int .i64 m.dst, .int .u64 (m.term : Int), .int .u64 (m.index : Int), .int .u64 (m.logTerm : Int), .int .u64 (m.commit : Int), .slice A m.ents.length c, .bool m.ok, .slice none 0 0] from rfl] at TU
          replace TU : Calls Try.prog 36 #[.pointer (some ⟨g, 0, none⟩), .agg #[.int .i64 m.kind, .int .i64 m.frm, .int .i64 m.dst, .int .u64 (m.term : Int), .int .u64 (m.index : Int), .int .u64 (m.logTerm : Int), .int .u64 (m.commit : Int), .slice A m.ents.length c, .bool m.ok, .slice none 0 0], .agg #[.int .i64 6, .int .i64 0, .int .i64 0, .int .u64 (d2.term : Int), .int .u64 (m.index : Int), .int .u64 0, .int .u64 0, .slice none 0 0, .bool true, .slice none 0 0]] w8.drew _ := TU
          refine TU.mono ?_
          clear TU
          rintro en w7 ⟨gb, rfl, o7, b7⟩
          have k7 := kS.1.below b7 kS.1.lt
          have km7 := kS.2.below b7 kS.2.lt
          refine hK.out _ _ ⟨k7, km7⟩ (fun hH => ?_)
          clear hK K
          try dsimp only
          try simp only [Z1, Z2, Z3, Z4, Z5, Z6, Z7]
          refine wpAnyH_take (i := 12) (v := ?_) rfl (by kernel_rfl) (by kernel_rfl) (by kernel_rfl) (fun _ _ _ h => h) (Or.inl ⟨by rfl, ?_⟩) hH ?_
          case refine_2 => intro w hSw; go_simp; try with_reducible rfl
          try simp only [Z1, Z2, Z3, Z4, Z5, Z6, Z7]
          refine wpAnyH_done (by kernel_rfl) ?_ _
          refine NoPanic.normal ?_
          have D7 : ND w7 g (fun b => F b ∨ w8.heap.size ≤ b) d2 := ND.new (w := w8) ⟨_, _, _, _, _, N8, HF.out⟩ (below_step ((Below.refl _ _).drew) b7)
          have z7 := B8.size
          have o7' := o7.mono (S' := fun b => w8.heap.size ≤ b) (fun b _ _ h => h.elim)
          go_wp2_with fail
          go_ret
          rw [HV.out]
          exact ⟨some ⟨gb, 0, none⟩, 1, w8.heap.size, rfl, z7, o7', D7.mono (fun b h => h.imp (fun h => h.1) id), B8.trans (.of_below (below_step ((Below.refl _ _).drew) b7))⟩
end Go.Proofs.Ytjpcekpllfelhaa
