/- Wants: would Step install? (Printed by wip/gen_rsx.py.) -/
import Derived.Test.YtjpcekpllfelhaaRsW
namespace Go.Proofs.Ytjpcekpllfelhaa
open Go.RowKit

set_option maxRecDepth 100000 in
set_option maxHeartbeats 4000000 in
theorem wants_any (g : Nat) (S T : Nat → Prop) (E V M X : Value) (d : LNode) (A : Option Addr) (c : Nat) (m : LMsg) (w : World) (hN : NodeAt w g S E V M X d) (hM : MsgAt w T A c m) (hb : GB d) (hel : m.ents.length ≤ 1048576) :
    Calls Try.prog 19 #[.pointer (some ⟨g, 0, none⟩), .agg (msgC A c m)] w (fun en w' => en = .returned (.bool (wantsP d m)) ∧ Below w.heap.size w w') := by
  have HP : Hid (wantsP d m = if properP d m = false ∨ m.kind ≠ 7 ∨ m.term < d.term ∨ (m.term = d.term ∧ d.role = 3) ∨ m.index ≤ d.commit ∨ m.term < m.logTerm then false else decide ((termAt d m.index).2 = false ∨ (termAt d m.index).1 ≠ m.logTerm)) := rfl
  have HTP := Lib.hid (fun (wz : World) (h : NodeAt wz g S E V M X d) (h2 : MsgAt wz T A c m) => proper_any g S T E V M X d A c m wz h h2 hel)
  have HM := Lib.hid (hM.below (w' := w.alloc (.cells #[.int .i64 m.kind, .int .i64 m.frm, .int .i64 m.dst, .int .u64 (m.term : Int), .int .u64 (m.index : Int), .int .u64 (m.logTerm : Int), .int .u64 (m.commit : Int), .slice A m.ents.length c, .bool m.ok, .slice none 0 0] 58)) ((Below.refl _ _).alloc (Nat.le_refl _) _))
  clear hM
  rw [show msgC A c m = #[.int .i64 m.kind, .int .i64 m.frm, .int .i64 m.dst, .int .u64 (m.term : Int), .int .u64 (m.index : Int), .int .u64 (m.logTerm : Int), .int .u64 (m.commit : Int), .slice A m.ents.length c, .bool m.ok, .slice none 0 0] from rfl] at HTP
  rw [show msgC A c m = #[.int .i64 m.kind, .int .i64 m.frm, .int .i64 m.dst, .int .u64 (m.term : Int), .int .u64 (m.index : Int), .int .u64 (m.logTerm : Int), .int .u64 (m.commit : Int), .slice A m.ents.length c, .bool m.ok, .slice none 0 0] from rfl]
  have km := Blk.new w 58 #[.int .i64 m.kind, .int .i64 m.frm, .int .i64 m.dst, .int .u64 (m.term : Int), .int .u64 (m.index : Int), .int .u64 (m.logTerm : Int), .int .u64 (m.commit : Int), .slice A m.ents.length c, .bool m.ok, .slice none 0 0]
  have b1 : Below w.heap.size w (w.alloc (.cells #[.int .i64 m.kind, .int .i64 m.frm, .int .i64 m.dst, .int .u64 (m.term : Int), .int .u64 (m.index : Int), .int .u64 (m.logTerm : Int), .int .u64 (m.commit : Int), .slice A m.ents.length c, .bool m.ok, .slice none 0 0] 58)) := (Below.refl _ _).alloc (Nat.le_refl _) _
  have N1 := hN.below b1
  have hgl := hN.blk.lt
  clear hN
  go_enter Try.func19, Try.ntmps19
  obtain ⟨Al, ec, rfl⟩ := N1.log.shape
  go_upto_region 1 with fail
  change Code.wp _ _ _ _ (w.alloc (.cells #[.int .i64 m.kind, .int .i64 m.frm, .int .i64 m.dst, .int .u64 (m.term : Int), .int .u64 (m.index : Int), .int .u64 (m.logTerm : Int), .int .u64 (m.commit : Int), .slice A m.ents.length c, .bool m.ok, .slice none 0 0] 58))
  generalize (w.alloc (.cells #[.int .i64 m.kind, .int .i64 m.frm, .int .i64 m.dst, .int .u64 (m.term : Int), .int .u64 (m.index : Int), .int .u64 (m.logTerm : Int), .int .u64 (m.commit : Int), .slice A m.ents.length c, .bool m.ok, .slice none 0 0] 58)) = w1 at *
  obtain ⟨mb, hmb⟩ : ∃ mb, mb = w.heap.size := ⟨_, rfl⟩
  rw [← hmb] at km ⊢
  have hgm : g < mb := by omega
  have HMB := Lib.hid hmb
  clear hmb
  obtain ⟨pp, hpp⟩ : ∃ pp, pp = properP d m := ⟨_, rfl⟩
  rw [← hpp] at HTP
  have HPP := Lib.hid hpp
  clear hpp
  go_cut [60] (fun v60 wx => ∃ ok, v60 = .bool ok ∧ Hid (ok = (!properP d m || decide (m.kind ≠ 7) || decide (m.term < d.term) || (decide (m.term = d.term) && decide (d.role = 3)) || decide (m.index ≤ d.commit) || decide (m.term < m.logTerm))) ∧ Below w1.heap.size w1 wx)
  case first =>
    cases pp with
    | false =>
      have HOK : Hid (true = (!properP d m || decide (m.kind ≠ 7) || decide (m.term < d.term) || (decide (m.term = d.term) && decide (d.role = 3)) || decide (m.index ≤ d.commit) || decide (m.term < m.logTerm))) := by show _ = _; rw [← HPP.out]; rfl
      as_aux_lemma =>
      refine wp_region_noPanic ?_
      have kS : Blk w1.drew g 48 (nodeC (.slice Al d.log.length ec) V M X d) ∧ Blk w1.drew mb 58 #[.int .i64 m.kind, .int .i64 m.frm, .int .i64 m.dst, .int .u64 (m.term : Int), .int .u64 (m.index : Int), .int .u64 (m.logTerm : Int), .int .u64 (m.commit : Int), .slice A m.ents.length c, .bool m.ok, .slice none 0 0] := ⟨N1.blk.drew, km.drew⟩
      refine wp_region_held_drew (S := (fun Y => Blk Y g 48 (nodeC (.slice Al d.log.length ec) V M X d) ∧ Blk Y mb 58 #[.int .i64 m.kind, .int .i64 m.frm, .int .i64 m.dst, .int .u64 (m.term : Int), .int .u64 (m.index : Int), .int .u64 (m.logTerm : Int), .int .u64 (m.commit : Int), .slice A m.ents.length c, .bool m.ok, .slice none 0 0])) (by kernel_rfl) kS (fun hH => ?_)
      refine wpAnyH_take (i := 0) (v := ?_) rfl (by kernel_rfl) (by kernel_rfl) (by kernel_rfl) (fun _ _ _ h => h) (Or.inl ⟨by rfl, ?_⟩) hH ?_
      case refine_2 => intro w hSw; go_simp; try with_reducible rfl
      try simp only [Z1, Z2, Z4, Z5, Z6, Z7]
      refine wpAnyH_take (i := 1) (v := ?_) rfl (by kernel_rfl) (by kernel_rfl) (by kernel_rfl) (fun _ _ _ h => h) (Or.inl ⟨by rfl, ?_⟩) hH ?_
      case refine_2 => intro w hSw; obtain ⟨kw, kb⟩ := hSw; replace kw : Blk w g 48 (nodeC (.slice Al d.log.length ec) V M X d) := kw; replace kb : Blk w mb 58 #[.int .i64 m.kind, .int .i64 m.frm, .int .i64 m.dst, .int .u64 (m.term : Int), .int .u64 (m.index : Int), .int .u64 (m.logTerm : Int), .int .u64 (m.commit : Int), .slice A m.ents.length c, .bool m.ok, .slice none 0 0] := kb; have s0 : w.cell? ⟨_, 0, none⟩ = some (.int .i64 m.kind) := Blk.cell kb 0; have s1 : w.cell? ⟨_, 1, none⟩ = some (.int .i64 m.frm) := Blk.cell kb 1; have s2 : w.cell? ⟨_, 2, none⟩ = some (.int .i64 m.dst) := Blk.cell kb 2; have s3 : w.cell? ⟨_, 3, none⟩ = some (.int .u64 (m.term : Int)) := Blk.cell kb 3; have s4 : w.cell? ⟨_, 4, none⟩ = some (.int .u64 (m.index : Int)) := Blk.cell kb 4; have s5 : w.cell? ⟨_, 5, none⟩ = some (.int .u64 (m.logTerm : Int)) := Blk.cell kb 5; have s6 : w.cell? ⟨_, 6, none⟩ = some (.int .u64 (m.commit : Int)) := Blk.cell kb 6; have s7 : w.cell? ⟨_, 7, none⟩ = some (.slice A m.ents.length c) := Blk.cell kb 7; have s8 : w.cell? ⟨_, 8, none⟩ = some (.bool m.ok) := Blk.cell kb 8; have s9 : w.cell? ⟨_, 9, none⟩ = some (.slice none 0 0) := Blk.cell kb 9; clear kw kb; go_simp; try with_reducible rfl
      try simp only [Z1, Z2, Z3, Z4, Z5, Z6, Z7]
      refine wpAnyH_ready (rs := [2]) (by kernel_rfl) (by simp) ?_
      refine AllReadyH.cons rfl (fun K hK => ?_) AllReadyH.nil
      go_simp
      refine (HTP.out w1.drew (N1.below ((Below.refl _ _).drew)) (HM.out.below ((Below.refl _ _).drew))).mono ?_
      rintro en w7 ⟨rfl, b7⟩
      have k7 := kS.1.below b7 kS.1.lt
      have km7 := kS.2.below b7 kS.2.lt
      have b07 := below_step ((Below.refl w1.heap.size w1).drew) b7
      clear HTP HM
      refine hK.out _ _ ⟨k7, km7⟩ (fun hH => ?_)
      clear hK K
      try dsimp only
      try simp only [Z1, Z2, Z3, Z4, Z5, Z6, Z7]
      refine wpAnyH_take (i := 3) (v := ?_) rfl (by kernel_rfl) (by kernel_rfl) (by kernel_rfl) (fun _ _ _ h => h) (Or.inl ⟨by rfl, ?_⟩) hH ?_
      case refine_2 => intro w hSw; go_simp; try with_reducible rfl
      try simp only [Z1, Z2, Z3, Z4, Z5, Z6, Z7]
      refine wpAnyH_take (i := 4) (v := ?_) rfl (by kernel_rfl) (by kernel_rfl) (by kernel_rfl) (fun _ _ _ h => h) (Or.inl ⟨by rfl, ?_⟩) hH ?_
      case refine_2 => intro w hSw; go_simp; try with_reducible rfl
      try simp only [Z1, Z2, Z3, Z4, Z5, Z6, Z7]
      refine wpAnyH_take (i := 5) (v := undef) rfl (by kernel_rfl) (by kernel_rfl) (by kernel_rfl) (fun _ _ _ h => h) (Or.inr ⟨by rfl, rfl⟩) hH ?_
      try simp only [Z1, Z2, Z3, Z4, Z5, Z6, Z7]
      refine wpAnyH_take (i := 6) (v := undef) rfl (by kernel_rfl) (by kernel_rfl) (by kernel_rfl) (fun _ _ _ h => h) (Or.inr ⟨by rfl, rfl⟩) hH ?_
      try simp only [Z1, Z2, Z3, Z4, Z5, Z6, Z7]
      refine wpAnyH_take (i := 7) (v := undef) rfl (by kernel_rfl) (by kernel_rfl) (by kernel_rfl) (fun _ _ _ h => h) (Or.inr ⟨by rfl, rfl⟩) hH ?_
      try simp only [Z1, Z2, Z3, Z4, Z5, Z6, Z7]
      refine wpAnyH_take (i := 8) (v := ?_) rfl (by kernel_rfl) (by kernel_rfl) (by kernel_rfl) (fun _ _ _ h => h) (Or.inl ⟨by rfl, ?_⟩) hH ?_
      case refine_2 => intro w hSw; go_simp; try with_reducible rfl
      try simp only [Z1, Z2, Z3, Z4, Z5, Z6, Z7]
      refine wpAnyH_take (i := 9) (v := ?_) rfl (by kernel_rfl) (by kernel_rfl) (by kernel_rfl) (fun _ _ _ h => h) (Or.inl ⟨by rfl, ?_⟩) hH ?_
      case refine_2 => intro w hSw; go_simp; try with_reducible rfl
      try simp only [Z1, Z2, Z3, Z4, Z5, Z6, Z7]
      refine wpAnyH_take (i := 10) (v := undef) rfl (by kernel_rfl) (by kernel_rfl) (by kernel_rfl) (fun _ _ _ h => h) (Or.inr ⟨by rfl, rfl⟩) hH ?_
      try simp only [Z1, Z2, Z3, Z4, Z5, Z6, Z7]
      refine wpAnyH_take (i := 11) (v := undef) rfl (by kernel_rfl) (by kernel_rfl) (by kernel_rfl) (fun _ _ _ h => h) (Or.inr ⟨by rfl, rfl⟩) hH ?_
      try simp only [Z1, Z2, Z3, Z4, Z5, Z6, Z7]
      refine wpAnyH_take (i := 12) (v := undef) rfl (by kernel_rfl) (by kernel_rfl) (by kernel_rfl) (fun _ _ _ h => h) (Or.inr ⟨by rfl, rfl⟩) hH ?_
      try simp only [Z1, Z2, Z3, Z4, Z5, Z6, Z7]
      refine wpAnyH_take (i := 13) (v := undef) rfl (by kernel_rfl) (by kernel_rfl) (by kernel_rfl) (fun _ _ _ h => h) (Or.inr ⟨by rfl, rfl⟩) hH ?_
      try simp only [Z1, Z2, Z3, Z4, Z5, Z6, Z7]
      refine wpAnyH_take (i := 14) (v := undef) rfl (by kernel_rfl) (by kernel_rfl) (by kernel_rfl) (fun _ _ _ h => h) (Or.inr ⟨by rfl, rfl⟩) hH ?_
      try simp only [Z1, Z2, Z3, Z4, Z5, Z6, Z7]
      refine wpAnyH_take (i := 15) (v := undef) rfl (by kernel_rfl) (by kernel_rfl) (by kernel_rfl) (fun _ _ _ h => h) (Or.inr ⟨by rfl, rfl⟩) hH ?_
      try simp only [Z1, Z2, Z3, Z4, Z5, Z6, Z7]
      refine wpAnyH_take (i := 16) (v := undef) rfl (by kernel_rfl) (by kernel_rfl) (by kernel_rfl) (fun _ _ _ h => h) (Or.inr ⟨by rfl, rfl⟩) hH ?_
      try simp only [Z1, Z2, Z3, Z4, Z5, Z6, Z7]
      refine wpAnyH_take (i := 17) (v := undef) rfl (by kernel_rfl) (by kernel_rfl) (by kernel_rfl) (fun _ _ _ h => h) (Or.inr ⟨by rfl, rfl⟩) hH ?_
      try simp only [Z1, Z2, Z3, Z4, Z5, Z6, Z7]
      refine wpAnyH_take (i := 18) (v := undef) rfl (by kernel_rfl) (by kernel_rfl) (by kernel_rfl) (fun _ _ _ h => h) (Or.inr ⟨by rfl, rfl⟩) hH ?_
      try simp only [Z1, Z2, Z3, Z4, Z5, Z6, Z7]
      refine wpAnyH_take (i := 19) (v := ?_) rfl (by kernel_rfl) (by kernel_rfl) (by kernel_rfl) (fun _ _ _ h => h) (Or.inl ⟨by rfl, ?_⟩) hH ?_
      case refine_2 => intro w hSw; go_simp; try with_reducible rfl
      try simp only [Z1, Z2, Z3, Z4, Z5, Z6, Z7]
      refine wpAnyH_take (i := 20) (v := ?_) rfl (by kernel_rfl) (by kernel_rfl) (by kernel_rfl) (fun _ _ _ h => h) (Or.inl ⟨by rfl, ?_⟩) hH ?_
      case refine_2 => intro w hSw; go_simp; try with_reducible rfl
      try simp only [Z1, Z2, Z3, Z4, Z5, Z6, Z7]
      refine wpAnyH_take (i := 21) (v := undef) rfl (by kernel_rfl) (by kernel_rfl) (by kernel_rfl) (fun _ _ _ h => h) (Or.inr ⟨by rfl, rfl⟩) hH ?_
      try simp only [Z1, Z2, Z3, Z4, Z5, Z6, Z7]
      refine wpAnyH_take (i := 22) (v := undef) rfl (by kernel_rfl) (by kernel_rfl) (by kernel_rfl) (fun _ _ _ h => h) (Or.inr ⟨by rfl, rfl⟩) hH ?_
      try simp only [Z1, Z2, Z3, Z4, Z5, Z6, Z7]
      refine wpAnyH_take (i := 23) (v := undef) rfl (by kernel_rfl) (by kernel_rfl) (by kernel_rfl) (fun _ _ _ h => h) (Or.inr ⟨by rfl, rfl⟩) hH ?_
      try simp only [Z1, Z2, Z3, Z4, Z5, Z6, Z7]
      refine wpAnyH_take (i := 24) (v := undef) rfl (by kernel_rfl) (by kernel_rfl) (by kernel_rfl) (fun _ _ _ h => h) (Or.inr ⟨by rfl, rfl⟩) hH ?_
      try simp only [Z1, Z2, Z3, Z4, Z5, Z6, Z7]
      refine wpAnyH_take (i := 25) (v := undef) rfl (by kernel_rfl) (by kernel_rfl) (by kernel_rfl) (fun _ _ _ h => h) (Or.inr ⟨by rfl, rfl⟩) hH ?_
      try simp only [Z1, Z2, Z3, Z4, Z5, Z6, Z7]
      refine wpAnyH_take (i := 26) (v := undef) rfl (by kernel_rfl) (by kernel_rfl) (by kernel_rfl) (fun _ _ _ h => h) (Or.inr ⟨by rfl, rfl⟩) hH ?_
      try simp only [Z1, Z2, Z3, Z4, Z5, Z6, Z7]
      refine wpAnyH_take (i := 27) (v := undef) rfl (by kernel_rfl) (by kernel_rfl) (by kernel_rfl) (fun _ _ _ h => h) (Or.inr ⟨by rfl, rfl⟩) hH ?_
      try simp only [Z1, Z2, Z3, Z4, Z5, Z6, Z7]
      refine wpAnyH_take (i := 28) (v := undef) rfl (by kernel_rfl) (by kernel_rfl) (by kernel_rfl) (fun _ _ _ h => h) (Or.inr ⟨by rfl, rfl⟩) hH ?_
      try simp only [Z1, Z2, Z3, Z4, Z5, Z6, Z7]
      refine wpAnyH_take (i := 29) (v := undef) rfl (by kernel_rfl) (by kernel_rfl) (by kernel_rfl) (fun _ _ _ h => h) (Or.inr ⟨by rfl, rfl⟩) hH ?_
      try simp only [Z1, Z2, Z3, Z4, Z5, Z6, Z7]
      refine wpAnyH_take (i := 30) (v := undef) rfl (by kernel_rfl) (by kernel_rfl) (by kernel_rfl) (fun _ _ _ h => h) (Or.inr ⟨by rfl, rfl⟩) hH ?_
      try simp only [Z1, Z2, Z3, Z4, Z5, Z6, Z7]
      refine wpAnyH_take (i := 31) (v := undef) rfl (by kernel_rfl) (by kernel_rfl) (by kernel_rfl) (fun _ _ _ h => h) (Or.inr ⟨by rfl, rfl⟩) hH ?_
      try simp only [Z1, Z2, Z3, Z4, Z5, Z6, Z7]
      refine wpAnyH_take (i := 32) (v := undef) rfl (by kernel_rfl) (by kernel_rfl) (by kernel_rfl) (fun _ _ _ h => h) (Or.inr ⟨by rfl, rfl⟩) hH ?_
      try simp only [Z1, Z2, Z3, Z4, Z5, Z6, Z7]
      refine wpAnyH_take (i := 33) (v := undef) rfl (by kernel_rfl) (by kernel_rfl) (by kernel_rfl) (fun _ _ _ h => h) (Or.inr ⟨by rfl, rfl⟩) hH ?_
      try simp only [Z1, Z2, Z3, Z4, Z5, Z6, Z7]
      refine wpAnyH_take (i := 34) (v := undef) rfl (by kernel_rfl) (by kernel_rfl) (by kernel_rfl) (fun _ _ _ h => h) (Or.inr ⟨by rfl, rfl⟩) hH ?_
      try simp only [Z1, Z2, Z3, Z4, Z5, Z6, Z7]
      refine wpAnyH_take (i := 35) (v := undef) rfl (by kernel_rfl) (by kernel_rfl) (by kernel_rfl) (fun _ _ _ h => h) (Or.inr ⟨by rfl, rfl⟩) hH ?_
      try simp only [Z1, Z2, Z3, Z4, Z5, Z6, Z7]
      refine wpAnyH_take (i := 36) (v := undef) rfl (by kernel_rfl) (by kernel_rfl) (by kernel_rfl) (fun _ _ _ h => h) (Or.inr ⟨by rfl, rfl⟩) hH ?_
      try simp only [Z1, Z2, Z3, Z4, Z5, Z6, Z7]
      refine wpAnyH_take (i := 37) (v := ?_) rfl (by kernel_rfl) (by kernel_rfl) (by kernel_rfl) (fun _ _ _ h => h) (Or.inl ⟨by rfl, ?_⟩) hH ?_
      case refine_2 => intro w hSw; go_simp; try with_reducible rfl
      try simp only [Z1, Z2, Z3, Z4, Z5, Z6, Z7]
      refine wpAnyH_take (i := 38) (v := ?_) rfl (by kernel_rfl) (by kernel_rfl) (by kernel_rfl) (fun _ _ _ h => h) (Or.inl ⟨by rfl, ?_⟩) hH ?_
      case refine_2 => intro w hSw; go_simp; try with_reducible rfl
      try simp only [Z1, Z2, Z3, Z4, Z5, Z6, Z7]
      refine wpAnyH_take (i := 39) (v := undef) rfl (by kernel_rfl) (by kernel_rfl) (by kernel_rfl) (fun _ _ _ h => h) (Or.inr ⟨by rfl, rfl⟩) hH ?_
      try simp only [Z1, Z2, Z3, Z4, Z5, Z6, Z7]
      refine wpAnyH_take (i := 40) (v := undef) rfl (by kernel_rfl) (by kernel_rfl) (by kernel_rfl) (fun _ _ _ h => h) (Or.inr ⟨by rfl, rfl⟩) hH ?_
      try simp only [Z1, Z2, Z3, Z4, Z5, Z6, Z7]
      refine wpAnyH_take (i := 41) (v := undef) rfl (by kernel_rfl) (by kernel_rfl) (by kernel_rfl) (fun _ _ _ h => h) (Or.inr ⟨by rfl, rfl⟩) hH ?_
      try simp only [Z1, Z2, Z3, Z4, Z5, Z6, Z7]
      refine wpAnyH_take (i := 42) (v := undef) rfl (by kernel_rfl) (by kernel_rfl) (by kernel_rfl) (fun _ _ _ h => h) (Or.inr ⟨by rfl, rfl⟩) hH ?_
      try simp only [Z1, Z2, Z3, Z4, Z5, Z6, Z7]
      refine wpAnyH_take (i := 43) (v := undef) rfl (by kernel_rfl) (by kernel_rfl) (by kernel_rfl) (fun _ _ _ h => h) (Or.inr ⟨by rfl, rfl⟩) hH ?_
      try simp only [Z1, Z2, Z3, Z4, Z5, Z6, Z7]
      refine wpAnyH_take (i := 44) (v := undef) rfl (by kernel_rfl) (by kernel_rfl) (by kernel_rfl) (fun _ _ _ h => h) (Or.inr ⟨by rfl, rfl⟩) hH ?_
      try simp only [Z1, Z2, Z3, Z4, Z5, Z6, Z7]
      refine wpAnyH_take (i := 45) (v := undef) rfl (by kernel_rfl) (by kernel_rfl) (by kernel_rfl) (fun _ _ _ h => h) (Or.inr ⟨by rfl, rfl⟩) hH ?_
      try simp only [Z1, Z2, Z3, Z4, Z5, Z6, Z7]
      refine wpAnyH_take (i := 46) (v := ?_) rfl (by kernel_rfl) (by kernel_rfl) (by kernel_rfl) (fun _ _ _ h => h) (Or.inl ⟨by rfl, ?_⟩) hH ?_
      case refine_2 => intro w hSw; go_simp; try with_reducible rfl
      try simp only [Z1, Z2, Z3, Z4, Z5, Z6, Z7]
      refine wpAnyH_take (i := 47) (v := ?_) rfl (by kernel_rfl) (by kernel_rfl) (by kernel_rfl) (fun _ _ _ h => h) (Or.inl ⟨by rfl, ?_⟩) hH ?_
      case refine_2 => intro w hSw; go_simp; try with_reducible rfl
      try simp only [Z1, Z2, Z3, Z4, Z5, Z6, Z7]
      refine wpAnyH_take (i := 48) (v := undef) rfl (by kernel_rfl) (by kernel_rfl) (by kernel_rfl) (fun _ _ _ h => h) (Or.inr ⟨by rfl, rfl⟩) hH ?_
      try simp only [Z1, Z2, Z3, Z4, Z5, Z6, Z7]
      refine wpAnyH_take (i := 49) (v := undef) rfl (by kernel_rfl) (by kernel_rfl) (by kernel_rfl) (fun _ _ _ h => h) (Or.inr ⟨by rfl, rfl⟩) hH ?_
      try simp only [Z1, Z2, Z3, Z4, Z5, Z6, Z7]
      refine wpAnyH_take (i := 50) (v := undef) rfl (by kernel_rfl) (by kernel_rfl) (by kernel_rfl) (fun _ _ _ h => h) (Or.inr ⟨by rfl, rfl⟩) hH ?_
      try simp only [Z1, Z2, Z3, Z4, Z5, Z6, Z7]
      refine wpAnyH_take (i := 51) (v := undef) rfl (by kernel_rfl) (by kernel_rfl) (by kernel_rfl) (fun _ _ _ h => h) (Or.inr ⟨by rfl, rfl⟩) hH ?_
      try simp only [Z1, Z2, Z3, Z4, Z5, Z6, Z7]
      refine wpAnyH_take (i := 52) (v := undef) rfl (by kernel_rfl) (by kernel_rfl) (by kernel_rfl) (fun _ _ _ h => h) (Or.inr ⟨by rfl, rfl⟩) hH ?_
      try simp only [Z1, Z2, Z3, Z4, Z5, Z6, Z7]
      refine wpAnyH_take (i := 53) (v := ?_) rfl (by kernel_rfl) (by kernel_rfl) (by kernel_rfl) (fun _ _ _ h => h) (Or.inl ⟨by rfl, ?_⟩) hH ?_
      case refine_2 => intro w hSw; go_simp; try with_reducible rfl
      try simp only [Z1, Z2, Z3, Z4, Z5, Z6, Z7]
      refine wpAnyH_done (by kernel_rfl) ?_ _
      refine NoPanic.normal ?_
      go_wp2_with fail
      go_meet
      case rel => exact ⟨_, rfl, HOK, b07⟩
    | true =>
      by_cases h1 : m.kind = 7
      · have h1i : (m.kind != 7) = false := by rw [bne_eq_false_iff_eq]; exact h1
        by_cases h2 : m.term < d.term
        · have h2i : (m.term : Int) < (d.term : Int) := by omega
          have HOK : Hid (true = (!properP d m || decide (m.kind ≠ 7) || decide (m.term < d.term) || (decide (m.term = d.term) && decide (d.role = 3)) || decide (m.index ≤ d.commit) || decide (m.term < m.logTerm))) := by show _ = _; rw [← HPP.out, decide_eq_false (fun h => h h1), decide_eq_true h2]; rfl
          as_aux_lemma =>
          clear h1 h2
          refine wp_region_noPanic ?_
          have kS : Blk w1.drew g 48 (nodeC (.slice Al d.log.length ec) V M X d) ∧ Blk w1.drew mb 58 #[.int .i64 m.kind, .int .i64 m.frm, .int .i64 m.dst, .int .u64 (m.term : Int), .int .u64 (m.index : Int), .int .u64 (m.logTerm : Int), .int .u64 (m.commit : Int), .slice A m.ents.length c, .bool m.ok, .slice none 0 0] := ⟨N1.blk.drew, km.drew⟩
          refine wp_region_held_drew (S := (fun Y => Blk Y g 48 (nodeC (.slice Al d.log.length ec) V M X d) ∧ Blk Y mb 58 #[.int .i64 m.kind, .int .i64 m.frm, .int .i64 m.dst, .int .u64 (m.term : Int), .int .u64 (m.index : Int), .int .u64 (m.logTerm : Int), .int .u64 (m.commit : Int), .slice A m.ents.length c, .bool m.ok, .slice none 0 0])) (by kernel_rfl) kS (fun hH => ?_)
          refine wpAnyH_take (i := 0) (v := ?_) rfl (by kernel_rfl) (by kernel_rfl) (by kernel_rfl) (fun _ _ _ h => h) (Or.inl ⟨by rfl, ?_⟩) hH ?_
          case refine_2 => intro w hSw; go_simp; try with_reducible rfl
          try simp only [Z1, Z2, Z4, Z5, Z6, Z7]
          refine wpAnyH_take (i := 1) (v := ?_) rfl (by kernel_rfl) (by kernel_rfl) (by kernel_rfl) (fun _ _ _ h => h) (Or.inl ⟨by rfl, ?_⟩) hH ?_
          case refine_2 => intro w hSw; obtain ⟨kw, kb⟩ := hSw; replace kw : Blk w g 48 (nodeC (.slice Al d.log.length ec) V M X d) := kw; replace kb : Blk w mb 58 #[.int .i64 m.kind, .int .i64 m.frm, .int .i64 m.dst, .int .u64 (m.term : Int), .int .u64 (m.index : Int), .int .u64 (m.logTerm : Int), .int .u64 (m.commit : Int), .slice A m.ents.length c, .bool m.ok, .slice none 0 0] := kb; have s0 : w.cell? ⟨_, 0, none⟩ = some (.int .i64 m.kind) := Blk.cell kb 0; have s1 : w.cell? ⟨_, 1, none⟩ = some (.int .i64 m.frm) := Blk.cell kb 1; have s2 : w.cell? ⟨_, 2, none⟩ = some (.int .i64 m.dst) := Blk.cell kb 2; have s3 : w.cell? ⟨_, 3, none⟩ = some (.int .u64 (m.term : Int)) := Blk.cell kb 3; have s4 : w.cell? ⟨_, 4, none⟩ = some (.int .u64 (m.index : Int)) := Blk.cell kb 4; have s5 : w.cell? ⟨_, 5, none⟩ = some (.int .u64 (m.logTerm : Int)) := Blk.cell kb 5; have s6 : w.cell? ⟨_, 6, none⟩ = some (.int .u64 (m.commit : Int)) := Blk.cell kb 6; have s7 : w.cell? ⟨_, 7, none⟩ = some (.slice A m.ents.length c) := Blk.cell kb 7; have s8 : w.cell? ⟨_, 8, none⟩ = some (.bool m.ok) := Blk.cell kb 8; have s9 : w.cell? ⟨_, 9, none⟩ = some (.slice none 0 0) := Blk.cell kb 9; clear kw kb; go_simp; try with_reducible rfl
          try simp only [Z1, Z2, Z3, Z4, Z5, Z6, Z7]
          refine wpAnyH_ready (rs := [2]) (by kernel_rfl) (by simp) ?_
          refine AllReadyH.cons rfl (fun K hK => ?_) AllReadyH.nil
          go_simp
          refine (HTP.out w1.drew (N1.below ((Below.refl _ _).drew)) (HM.out.below ((Below.refl _ _).drew))).mono ?_
          rintro en w7 ⟨rfl, b7⟩
          have k7 := kS.1.below b7 kS.1.lt
          have km7 := kS.2.below b7 kS.2.lt
          have b07 := below_step ((Below.refl w1.heap.size w1).drew) b7
          clear HTP HM
          refine hK.out _ _ ⟨k7, km7⟩ (fun hH => ?_)
          clear hK K
          try dsimp only
          try simp only [Z1, Z2, Z3, Z4, Z5, Z6, Z7]
          refine wpAnyH_take (i := 3) (v := ?_) rfl (by kernel_rfl) (by kernel_rfl) (by kernel_rfl) (fun _ _ _ h => h) (Or.inl ⟨by rfl, ?_⟩) hH ?_
          case refine_2 => intro w hSw; go_simp; try with_reducible rfl
          try simp only [Z1, Z2, Z3, Z4, Z5, Z6, Z7]
          refine wpAnyH_take (i := 4) (v := ?_) rfl (by kernel_rfl) (by kernel_rfl) (by kernel_rfl) (fun _ _ _ h => h) (Or.inl ⟨by rfl, ?_⟩) hH ?_
          case refine_2 => intro w hSw; go_simp; try with_reducible rfl
          try simp only [Z1, Z2, Z3, Z4, Z5, Z6, Z7]
          refine wpAnyH_take (i := 5) (v := ?_) rfl (by kernel_rfl) (by kernel_rfl) (by kernel_rfl) (fun _ _ _ h => h) (Or.inl ⟨by rfl, ?_⟩) hH ?_
          case refine_2 => intro w hSw; go_simp; try with_reducible rfl
          try simp only [Z1, Z2, Z3, Z4, Z5, Z6, Z7]
          refine wpAnyH_take (i := 6) (v := ?_) rfl (by kernel_rfl) (by kernel_rfl) (by kernel_rfl) (fun _ _ _ h => h) (Or.inl ⟨by rfl, ?_⟩) hH ?_
          case refine_2 => intro w hSw; obtain ⟨kw, kb⟩ := hSw; replace kw : Blk w g 48 (nodeC (.slice Al d.log.length ec) V M X d) := kw; replace kb : Blk w mb 58 #[.int .i64 m.kind, .int .i64 m.frm, .int .i64 m.dst, .int .u64 (m.term : Int), .int .u64 (m.index : Int), .int .u64 (m.logTerm : Int), .int .u64 (m.commit : Int), .slice A m.ents.length c, .bool m.ok, .slice none 0 0] := kb; have s0 : w.cell? ⟨_, 0, none⟩ = some (.int .i64 m.kind) := Blk.cell kb 0; clear kw kb; go_simp; try with_reducible rfl
          try simp only [Z1, Z2, Z3, Z4, Z5, Z6, Z7]
          refine wpAnyH_take (i := 7) (v := ?_) rfl (by kernel_rfl) (by kernel_rfl) (by kernel_rfl) (fun _ _ _ h => h) (Or.inl ⟨by rfl, ?_⟩) hH ?_
          case refine_2 => intro w hSw; go_simp; try with_reducible rfl
          try simp only [Z1, Z2, Z3, Z4, Z5, Z6, Z7]
          refine wpAnyH_take (i := 8) (v := ?_) rfl (by kernel_rfl) (by kernel_rfl) (by kernel_rfl) (fun _ _ _ h => h) (Or.inl ⟨by rfl, ?_⟩) hH ?_
          case refine_2 => intro w hSw; go_simp; try with_reducible rfl
          try simp only [Z1, Z2, Z3, Z4, Z5, Z6, Z7]
          refine wpAnyH_take (i := 9) (v := ?_) rfl (by kernel_rfl) (by kernel_rfl) (by kernel_rfl) (fun _ _ _ h => h) (Or.inl ⟨by rfl, ?_⟩) hH ?_
          case refine_2 => intro w hSw; go_simp; try with_reducible rfl
          try simp only [Z1, Z2, Z3, Z4, Z5, Z6, Z7]
          refine wpAnyH_take (i := 10) (v := ?_) rfl (by kernel_rfl) (by kernel_rfl) (by kernel_rfl) (fun _ _ _ h => h) (Or.inl ⟨by rfl, ?_⟩) hH ?_
          case refine_2 => intro w hSw; go_simp; try with_reducible rfl
          try simp only [Z1, Z2, Z3, Z4, Z5, Z6, Z7]
          refine wpAnyH_take (i := 11) (v := ?_) rfl (by kernel_rfl) (by kernel_rfl) (by kernel_rfl) (fun _ _ _ h => h) (Or.inl ⟨by rfl, ?_⟩) hH ?_
          case refine_2 => intro w hSw; obtain ⟨kw, kb⟩ := hSw; replace kw : Blk w g 48 (nodeC (.slice Al d.log.length ec) V M X d) := kw; replace kb : Blk w mb 58 #[.int .i64 m.kind, .int .i64 m.frm, .int .i64 m.dst, .int .u64 (m.term : Int), .int .u64 (m.index : Int), .int .u64 (m.logTerm : Int), .int .u64 (m.commit : Int), .slice A m.ents.length c, .bool m.ok, .slice none 0 0] := kb; have s3 : w.cell? ⟨_, 3, none⟩ = some (.int .u64 (m.term : Int)) := Blk.cell kb 3; clear kw kb; go_simp; try with_reducible rfl
          try simp only [Z1, Z2, Z3, Z4, Z5, Z6, Z7]
          refine wpAnyH_take (i := 12) (v := ?_) rfl (by kernel_rfl) (by kernel_rfl) (by kernel_rfl) (fun _ _ _ h => h) (Or.inl ⟨by rfl, ?_⟩) hH ?_
          case refine_2 => intro w hSw; go_simp; try with_reducible rfl
          try simp only [Z1, Z2, Z3, Z4, Z5, Z6, Z7]
          refine wpAnyH_take (i := 13) (v := ?_) rfl (by kernel_rfl) (by kernel_rfl) (by kernel_rfl) (fun _ _ _ h => h) (Or.inl ⟨by rfl, ?_⟩) hH ?_
          case refine_2 => intro w hSw; go_simp; try with_reducible rfl
          try simp only [Z1, Z2, Z3, Z4, Z5, Z6, Z7]
          refine wpAnyH_take (i := 14) (v := ?_) rfl (by kernel_rfl) (by kernel_rfl) (by kernel_rfl) (fun _ _ _ h => h) (Or.inl ⟨by rfl, ?_⟩) hH ?_
          case refine_2 => intro w hSw; go_simp; try with_reducible rfl
          try simp only [Z1, Z2, Z3, Z4, Z5, Z6, Z7]
          refine wpAnyH_take (i := 15) (v := ?_) rfl (by kernel_rfl) (by kernel_rfl) (by kernel_rfl) (fun _ _ _ h => h) (Or.inl ⟨by rfl, ?_⟩) hH ?_
          case refine_2 => intro w hSw; go_simp; try with_reducible rfl
          try simp only [Z1, Z2, Z3, Z4, Z5, Z6, Z7]
          refine wpAnyH_take (i := 16) (v := ?_) rfl (by kernel_rfl) (by kernel_rfl) (by kernel_rfl) (fun _ _ _ h => h) (Or.inl ⟨by rfl, ?_⟩) hH ?_
          case refine_2 => intro w hSw; go_simp; try with_reducible rfl
          try simp only [Z1, Z2, Z3, Z4, Z5, Z6, Z7]
          refine wpAnyH_take (i := 17) (v := ?_) rfl (by kernel_rfl) (by kernel_rfl) (by kernel_rfl) (fun _ _ _ h => h) (Or.inl ⟨by rfl, ?_⟩) hH ?_
          case refine_2 => intro w hSw; obtain ⟨kw, kb⟩ := hSw; replace kw : Blk w g 48 (nodeC (.slice Al d.log.length ec) V M X d) := kw; replace kb : Blk w mb 58 #[.int .i64 m.kind, .int .i64 m.frm, .int .i64 m.dst, .int .u64 (m.term : Int), .int .u64 (m.index : Int), .int .u64 (m.logTerm : Int), .int .u64 (m.commit : Int), .slice A m.ents.length c, .bool m.ok, .slice none 0 0] := kb; have n0 : w.cell? ⟨_, 0, none⟩ = some (.int .u64 (d.term : Int)) := Blk.cell kw 0; clear kw kb; go_simp; try with_reducible rfl
          try simp only [Z1, Z2, Z3, Z4, Z5, Z6, Z7]
          refine wpAnyH_take (i := 18) (v := ?_) rfl (by kernel_rfl) (by kernel_rfl) (by kernel_rfl) (fun _ _ _ h => h) (Or.inl ⟨by rfl, ?_⟩) hH ?_
          case refine_2 => intro w hSw; go_simp; try with_reducible rfl
          try simp only [Z1, Z2, Z3, Z4, Z5, Z6, Z7]
          refine wpAnyH_take (i := 19) (v := ?_) rfl (by kernel_rfl) (by kernel_rfl) (by kernel_rfl) (fun _ _ _ h => h) (Or.inl ⟨by rfl, ?_⟩) hH ?_
          case refine_2 => intro w hSw; go_simp; try with_reducible rfl
          try simp only [Z1, Z2, Z3, Z4, Z5, Z6, Z7]
          refine wpAnyH_take (i := 20) (v := ?_) rfl (by kernel_rfl) (by kernel_rfl) (by kernel_rfl) (fun _ _ _ h => h) (Or.inl ⟨by rfl, ?_⟩) hH ?_
          case refine_2 => intro w hSw; go_simp; try with_reducible rfl
          try simp only [Z1, Z2, Z3, Z4, Z5, Z6, Z7]
          refine wpAnyH_take (i := 21) (v := undef) rfl (by kernel_rfl) (by kernel_rfl) (by kernel_rfl) (fun _ _ _ h => h) (Or.inr ⟨by rfl, rfl⟩) hH ?_
          try simp only [Z1, Z2, Z3, Z4, Z5, Z6, Z7]
          refine wpAnyH_take (i := 22) (v := undef) rfl (by kernel_rfl) (by kernel_rfl) (by kernel_rfl) (fun _ _ _ h => h) (Or.inr ⟨by rfl, rfl⟩) hH ?_
          try simp only [Z1, Z2, Z3, Z4, Z5, Z6, Z7]
          refine wpAnyH_take (i := 23) (v := undef) rfl (by kernel_rfl) (by kernel_rfl) (by kernel_rfl) (fun _ _ _ h => h) (Or.inr ⟨by rfl, rfl⟩) hH ?_
          try simp only [Z1, Z2, Z3, Z4, Z5, Z6, Z7]
          refine wpAnyH_take (i := 24) (v := undef) rfl (by kernel_rfl) (by kernel_rfl) (by kernel_rfl) (fun _ _ _ h => h) (Or.inr ⟨by rfl, rfl⟩) hH ?_
          try simp only [Z1, Z2, Z3, Z4, Z5, Z6, Z7]
          refine wpAnyH_take (i := 25) (v := undef) rfl (by kernel_rfl) (by kernel_rfl) (by kernel_rfl) (fun _ _ _ h => h) (Or.inr ⟨by rfl, rfl⟩) hH ?_
          try simp only [Z1, Z2, Z3, Z4, Z5, Z6, Z7]
          refine wpAnyH_take (i := 26) (v := undef) rfl (by kernel_rfl) (by kernel_rfl) (by kernel_rfl) (fun _ _ _ h => h) (Or.inr ⟨by rfl, rfl⟩) hH ?_
          try simp only [Z1, Z2, Z3, Z4, Z5, Z6, Z7]
          refine wpAnyH_take (i := 27) (v := undef) rfl (by kernel_rfl) (by kernel_rfl) (by kernel_rfl) (fun _ _ _ h => h) (Or.inr ⟨by rfl, rfl⟩) hH ?_
          try simp only [Z1, Z2, Z3, Z4, Z5, Z6, Z7]
          refine wpAnyH_take (i := 28) (v := undef) rfl (by kernel_rfl) (by kernel_rfl) (by kernel_rfl) (fun _ _ _ h => h) (Or.inr ⟨by rfl, rfl⟩) hH ?_
          try simp only [Z1, Z2, Z3, Z4, Z5, Z6, Z7]
          refine wpAnyH_take (i := 29) (v := undef) rfl (by kernel_rfl) (by kernel_rfl) (by kernel_rfl) (fun _ _ _ h => h) (Or.inr ⟨by rfl, rfl⟩) hH ?_
          try simp only [Z1, Z2, Z3, Z4, Z5, Z6, Z7]
          refine wpAnyH_take (i := 30) (v := undef) rfl (by kernel_rfl) (by kernel_rfl) (by kernel_rfl) (fun _ _ _ h => h) (Or.inr ⟨by rfl, rfl⟩) hH ?_
          try simp only [Z1, Z2, Z3, Z4, Z5, Z6, Z7]
          refine wpAnyH_take (i := 31) (v := undef) rfl (by kernel_rfl) (by kernel_rfl) (by kernel_rfl) (fun _ _ _ h => h) (Or.inr ⟨by rfl, rfl⟩) hH ?_
          try simp only [Z1, Z2, Z3, Z4, Z5, Z6, Z7]
          refine wpAnyH_take (i := 32) (v := undef) rfl (by kernel_rfl) (by kernel_rfl) (by kernel_rfl) (fun _ _ _ h => h) (Or.inr ⟨by rfl, rfl⟩) hH ?_
          try simp only [Z1, Z2, Z3, Z4, Z5, Z6, Z7]
          refine wpAnyH_take (i := 33) (v := undef) rfl (by kernel_rfl) (by kernel_rfl) (by kernel_rfl) (fun _ _ _ h => h) (Or.inr ⟨by rfl, rfl⟩) hH ?_
          try simp only [Z1, Z2, Z3, Z4, Z5, Z6, Z7]
          refine wpAnyH_take (i := 34) (v := undef) rfl (by kernel_rfl) (by kernel_rfl) (by kernel_rfl) (fun _ _ _ h => h) (Or.inr ⟨by rfl, rfl⟩) hH ?_
          try simp only [Z1, Z2, Z3, Z4, Z5, Z6, Z7]
          refine wpAnyH_take (i := 35) (v := undef) rfl (by kernel_rfl) (by kernel_rfl) (by kernel_rfl) (fun _ _ _ h => h) (Or.inr ⟨by rfl, rfl⟩) hH ?_
          try simp only [Z1, Z2, Z3, Z4, Z5, Z6, Z7]
          refine wpAnyH_take (i := 36) (v := undef) rfl (by kernel_rfl) (by kernel_rfl) (by kernel_rfl) (fun _ _ _ h => h) (Or.inr ⟨by rfl, rfl⟩) hH ?_
          try simp only [Z1, Z2, Z3, Z4, Z5, Z6, Z7]
          refine wpAnyH_take (i := 37) (v := ?_) rfl (by kernel_rfl) (by kernel_rfl) (by kernel_rfl) (fun _ _ _ h => h) (Or.inl ⟨by rfl, ?_⟩) hH ?_
          case refine_2 => intro w hSw; go_simp; try with_reducible rfl
          try simp only [Z1, Z2, Z3, Z4, Z5, Z6, Z7]
          refine wpAnyH_take (i := 38) (v := ?_) rfl (by kernel_rfl) (by kernel_rfl) (by kernel_rfl) (fun _ _ _ h => h) (Or.inl ⟨by rfl, ?_⟩) hH ?_
          case refine_2 => intro w hSw; go_simp; try with_reducible rfl
          try simp only [Z1, Z2, Z3, Z4, Z5, Z6, Z7]
          refine wpAnyH_take (i := 39) (v := undef) rfl (by kernel_rfl) (by kernel_rfl) (by kernel_rfl) (fun _ _ _ h => h) (Or.inr ⟨by rfl, rfl⟩) hH ?_
          try simp only [Z1, Z2, Z3, Z4, Z5, Z6, Z7]
          refine wpAnyH_take (i := 40) (v := undef) rfl (by kernel_rfl) (by kernel_rfl) (by kernel_rfl) (fun _ _ _ h => h) (Or.inr ⟨by rfl, rfl⟩) hH ?_
          try simp only [Z1, Z2, Z3, Z4, Z5, Z6, Z7]
          refine wpAnyH_take (i := 41) (v := undef) rfl (by kernel_rfl) (by kernel_rfl) (by kernel_rfl) (fun _ _ _ h => h) (Or.inr ⟨by rfl, rfl⟩) hH ?_
          try simp only [Z1, Z2, Z3, Z4, Z5, Z6, Z7]
          refine wpAnyH_take (i := 42) (v := undef) rfl (by kernel_rfl) (by kernel_rfl) (by kernel_rfl) (fun _ _ _ h => h) (Or.inr ⟨by rfl, rfl⟩) hH ?_
          try simp only [Z1, Z2, Z3, Z4, Z5, Z6, Z7]
          refine wpAnyH_take (i := 43) (v := undef) rfl (by kernel_rfl) (by kernel_rfl) (by kernel_rfl) (fun _ _ _ h => h) (Or.inr ⟨by rfl, rfl⟩) hH ?_
          try simp only [Z1, Z2, Z3, Z4, Z5, Z6, Z7]
          refine wpAnyH_take (i := 44) (v := undef) rfl (by kernel_rfl) (by kernel_rfl) (by kernel_rfl) (fun _ _ _ h => h) (Or.inr ⟨by rfl, rfl⟩) hH ?_
          try simp only [Z1, Z2, Z3, Z4, Z5, Z6, Z7]
          refine wpAnyH_take (i := 45) (v := undef) rfl (by kernel_rfl) (by kernel_rfl) (by kernel_rfl) (fun _ _ _ h => h) (Or.inr ⟨by rfl, rfl⟩) hH ?_
          try simp only [Z1, Z2, Z3, Z4, Z5, Z6, Z7]
          refine wpAnyH_take (i := 46) (v := ?_) rfl (by kernel_rfl) (by kernel_rfl) (by kernel_rfl) (fun _ _ _ h => h) (Or.inl ⟨by rfl, ?_⟩) hH ?_
          case refine_2 => intro w hSw; go_simp; try with_reducible rfl
          try simp only [Z1, Z2, Z3, Z4, Z5, Z6, Z7]
          refine wpAnyH_take (i := 47) (v := ?_) rfl (by kernel_rfl) (by kernel_rfl) (by kernel_rfl) (fun _ _ _ h => h) (Or.inl ⟨by rfl, ?_⟩) hH ?_
          case refine_2 => intro w hSw; go_simp; try with_reducible rfl
          try simp only [Z1, Z2, Z3, Z4, Z5, Z6, Z7]
          refine wpAnyH_take (i := 48) (v := undef) rfl (by kernel_rfl) (by kernel_rfl) (by kernel_rfl) (fun _ _ _ h => h) (Or.inr ⟨by rfl, rfl⟩) hH ?_
          try simp only [Z1, Z2, Z3, Z4, Z5, Z6, Z7]
          refine wpAnyH_take (i := 49) (v := undef) rfl (by kernel_rfl) (by kernel_rfl) (by kernel_rfl) (fun _ _ _ h => h) (Or.inr ⟨by rfl, rfl⟩) hH ?_
          try simp only [Z1, Z2, Z3, Z4, Z5, Z6, Z7]
          refine wpAnyH_take (i := 50) (v := undef) rfl (by kernel_rfl) (by kernel_rfl) (by kernel_rfl) (fun _ _ _ h => h) (Or.inr ⟨by rfl, rfl⟩) hH ?_
          try simp only [Z1, Z2, Z3, Z4, Z5, Z6, Z7]
          refine wpAnyH_take (i := 51) (v := undef) rfl (by kernel_rfl) (by kernel_rfl) (by kernel_rfl) (fun _ _ _ h => h) (Or.inr ⟨by rfl, rfl⟩) hH ?_
          try simp only [Z1, Z2, Z3, Z4, Z5, Z6, Z7]
          refine wpAnyH_take (i := 52) (v := undef) rfl (by kernel_rfl) (by kernel_rfl) (by kernel_rfl) (fun _ _ _ h => h) (Or.inr ⟨by rfl, rfl⟩) hH ?_
          try simp only [Z1, Z2, Z3, Z4, Z5, Z6, Z7]
          refine wpAnyH_take (i := 53) (v := ?_) rfl (by kernel_rfl) (by kernel_rfl) (by kernel_rfl) (fun _ _ _ h => h) (Or.inl ⟨by rfl, ?_⟩) hH ?_
          case refine_2 => intro w hSw; go_simp; try with_reducible rfl
          try simp only [Z1, Z2, Z3, Z4, Z5, Z6, Z7]
          refine wpAnyH_done (by kernel_rfl) ?_ _
          refine NoPanic.normal ?_
          go_wp2_with fail
          go_meet
          case rel => exact ⟨_, rfl, HOK, b07⟩
        · have h2i : ¬ (m.term : Int) < (d.term : Int) := by omega
          by_cases h3 : m.term = d.term
          · have h3i : ((m.term : Int) == (d.term : Int)) = true := by rw [beq_iff_eq]; omega
            by_cases h4 : d.role = 3
            · have h4i : (d.role == 3) = true := by rw [beq_iff_eq]; exact h4
              have HOK : Hid (true = (!properP d m || decide (m.kind ≠ 7) || decide (m.term < d.term) || (decide (m.term = d.term) && decide (d.role = 3)) || decide (m.index ≤ d.commit) || decide (m.term < m.logTerm))) := by show _ = _; rw [← HPP.out, decide_eq_false (fun h => h h1), decide_eq_false h2, decide_eq_true h3, decide_eq_true h4]; rfl
              as_aux_lemma =>
              clear h1 h2 h3 h4
              refine wp_region_noPanic ?_
              have kS : Blk w1.drew g 48 (nodeC (.slice Al d.log.length ec) V M X d) ∧ Blk w1.drew mb 58 #[.int .i64 m.kind, .int .i64 m.frm, .int .i64 m.dst, .int .u64 (m.term : Int), .int .u64 (m.index : Int), .int .u64 (m.logTerm : Int), .int .u64 (m.commit : Int), .slice A m.ents.length c, .bool m.ok, .slice none 0 0] := ⟨N1.blk.drew, km.drew⟩
              refine wp_region_held_drew (S := (fun Y => Blk Y g 48 (nodeC (.slice Al d.log.length ec) V M X d) ∧ Blk Y mb 58 #[.int .i64 m.kind, .int .i64 m.frm, .int .i64 m.dst, .int .u64 (m.term : Int), .int .u64 (m.index : Int), .int .u64 (m.logTerm : Int), .int .u64 (m.commit : Int), .slice A m.ents.length c, .bool m.ok, .slice none 0 0])) (by kernel_rfl) kS (fun hH => ?_)
              refine wpAnyH_take (i := 0) (v := ?_) rfl (by kernel_rfl) (by kernel_rfl) (by kernel_rfl) (fun _ _ _ h => h) (Or.inl ⟨by rfl, ?_⟩) hH ?_
              case refine_2 => intro w hSw; go_simp; try with_reducible rfl
              try simp only [Z1, Z2, Z4, Z5, Z6, Z7]
              refine wpAnyH_take (i := 1) (v := ?_) rfl (by kernel_rfl) (by kernel_rfl) (by kernel_rfl) (fun _ _ _ h => h) (Or.inl ⟨by rfl, ?_⟩) hH ?_
              case refine_2 => intro w hSw; obtain ⟨kw, kb⟩ := hSw; replace kw : Blk w g 48 (nodeC (.slice Al d.log.length ec) V M X d) := kw; replace kb : Blk w mb 58 #[.int .i64 m.kind, .int .i64 m.frm, .int .i64 m.dst, .int .u64 (m.term : Int), .int .u64 (m.index : Int), .int .u64 (m.logTerm : Int), .int .u64 (m.commit : Int), .slice A m.ents.length c, .bool m.ok, .slice none 0 0] := kb; have s0 : w.cell? ⟨_, 0, none⟩ = some (.int .i64 m.kind) := Blk.cell kb 0; have s1 : w.cell? ⟨_, 1, none⟩ = some (.int .i64 m.frm) := Blk.cell kb 1; have s2 : w.cell? ⟨_, 2, none⟩ = some (.int .i64 m.dst) := Blk.cell kb 2; have s3 : w.cell? ⟨_, 3, none⟩ = some (.int .u64 (m.term : Int)) := Blk.cell kb 3; have s4 : w.cell? ⟨_, 4, none⟩ = some (.int .u64 (m.index : Int)) := Blk.cell kb 4; have s5 : w.cell? ⟨_, 5, none⟩ = some (.int .u64 (m.logTerm : Int)) := Blk.cell kb 5; have s6 : w.cell? ⟨_, 6, none⟩ = some (.int .u64 (m.commit : Int)) := Blk.cell kb 6; have s7 : w.cell? ⟨_, 7, none⟩ = some (.slice A m.ents.length c) := Blk.cell kb 7; have s8 : w.cell? ⟨_, 8, none⟩ = some (.bool m.ok) := Blk.cell kb 8; have s9 : w.cell? ⟨_, 9, none⟩ = some (.slice none 0 0) := Blk.cell kb 9; clear kw kb; go_simp; try with_reducible rfl
              try simp only [Z1, Z2, Z3, Z4, Z5, Z6, Z7]
              refine wpAnyH_ready (rs := [2]) (by kernel_rfl) (by simp) ?_
              refine AllReadyH.cons rfl (fun K hK => ?_) AllReadyH.nil
              go_simp
              refine (HTP.out w1.drew (N1.below ((Below.refl _ _).drew)) (HM.out.below ((Below.refl _ _).drew))).mono ?_
              rintro en w7 ⟨rfl, b7⟩
              have k7 := kS.1.below b7 kS.1.lt
              have km7 := kS.2.below b7 kS.2.lt
              have b07 := below_step ((Below.refl w1.heap.size w1).drew) b7
              clear HTP HM
              refine hK.out _ _ ⟨k7, km7⟩ (fun hH => ?_)
              clear hK K
              try dsimp only
              try simp only [Z1, Z2, Z3, Z4, Z5, Z6, Z7]
              refine wpAnyH_take (i := 3) (v := ?_) rfl (by kernel_rfl) (by kernel_rfl) (by kernel_rfl) (fun _ _ _ h => h) (Or.inl ⟨by rfl, ?_⟩) hH ?_
              case refine_2 => intro w hSw; go_simp; try with_reducible rfl
              try simp only [Z1, Z2, Z3, Z4, Z5, Z6, Z7]
              refine wpAnyH_take (i := 4) (v := ?_) rfl (by kernel_rfl) (by kernel_rfl) (by kernel_rfl) (fun _ _ _ h => h) (Or.inl ⟨by rfl, ?_⟩) hH ?_
              case refine_2 => intro w hSw; go_simp; try with_reducible rfl
              try simp only [Z1, Z2, Z3, Z4, Z5, Z6, Z7]
              refine wpAnyH_take (i := 5) (v := ?_) rfl (by kernel_rfl) (by kernel_rfl) (by kernel_rfl) (fun _ _ _ h => h) (Or.inl ⟨by rfl, ?_⟩) hH ?_
              case refine_2 => intro w hSw; go_simp; try with_reducible rfl
              try simp only [Z1, Z2, Z3, Z4, Z5, Z6, Z7]
              refine wpAnyH_take (i := 6) (v := ?_) rfl (by kernel_rfl) (by kernel_rfl) (by kernel_rfl) (fun _ _ _ h => h) (Or.inl ⟨by rfl, ?_⟩) hH ?_
              case refine_2 => intro w hSw; obtain ⟨kw, kb⟩ := hSw; replace kw : Blk w g 48 (nodeC (.slice Al d.log.length ec) V M X d) := kw; replace kb : Blk w mb 58 #[.int .i64 m.kind, .int .i64 m.frm, .int .i64 m.dst, .int .u64 (m.term : Int), .int .u64 (m.index : Int), .int .u64 (m.logTerm : Int), .int .u64 (m.commit : Int), .slice A m.ents.length c, .bool m.ok, .slice none 0 0] := kb; have s0 : w.cell? ⟨_, 0, none⟩ = some (.int .i64 m.kind) := Blk.cell kb 0; clear kw kb; go_simp; try with_reducible rfl
              try simp only [Z1, Z2, Z3, Z4, Z5, Z6, Z7]
              refine wpAnyH_take (i := 7) (v := ?_) rfl (by kernel_rfl) (by kernel_rfl) (by kernel_rfl) (fun _ _ _ h => h) (Or.inl ⟨by rfl, ?_⟩) hH ?_
              case refine_2 => intro w hSw; go_simp; try with_reducible rfl
              try simp only [Z1, Z2, Z3, Z4, Z5, Z6, Z7]
              refine wpAnyH_take (i := 8) (v := ?_) rfl (by kernel_rfl) (by kernel_rfl) (by kernel_rfl) (fun _ _ _ h => h) (Or.inl ⟨by rfl, ?_⟩) hH ?_
              case refine_2 => intro w hSw; go_simp; try with_reducible rfl
              try simp only [Z1, Z2, Z3, Z4, Z5, Z6, Z7]
              refine wpAnyH_take (i := 9) (v := ?_) rfl (by kernel_rfl) (by kernel_rfl) (by kernel_rfl) (fun _ _ _ h => h) (Or.inl ⟨by rfl, ?_⟩) hH ?_
              case refine_2 => intro w hSw; go_simp; try with_reducible rfl
              try simp only [Z1, Z2, Z3, Z4, Z5, Z6, Z7]
              refine wpAnyH_take (i := 10) (v := ?_) rfl (by kernel_rfl) (by kernel_rfl) (by kernel_rfl) (fun _ _ _ h => h) (Or.inl ⟨by rfl, ?_⟩) hH ?_
              case refine_2 => intro w hSw; go_simp; try with_reducible rfl
              try simp only [Z1, Z2, Z3, Z4, Z5, Z6, Z7]
              refine wpAnyH_take (i := 11) (v := ?_) rfl (by kernel_rfl) (by kernel_rfl) (by kernel_rfl) (fun _ _ _ h => h) (Or.inl ⟨by rfl, ?_⟩) hH ?_
              case refine_2 => intro w hSw; obtain ⟨kw, kb⟩ := hSw; replace kw : Blk w g 48 (nodeC (.slice Al d.log.length ec) V M X d) := kw; replace kb : Blk w mb 58 #[.int .i64 m.kind, .int .i64 m.frm, .int .i64 m.dst, .int .u64 (m.term : Int), .int .u64 (m.index : Int), .int .u64 (m.logTerm : Int), .int .u64 (m.commit : Int), .slice A m.ents.length c, .bool m.ok, .slice none 0 0] := kb; have s3 : w.cell? ⟨_, 3, none⟩ = some (.int .u64 (m.term : Int)) := Blk.cell kb 3; clear kw kb; go_simp; try with_reducible rfl
              try simp only [Z1, Z2, Z3, Z4, Z5, Z6, Z7]
              refine wpAnyH_take (i := 12) (v := ?_) rfl (by kernel_rfl) (by kernel_rfl) (by kernel_rfl) (fun _ _ _ h => h) (Or.inl ⟨by rfl, ?_⟩) hH ?_
              case refine_2 => intro w hSw; go_simp; try with_reducible rfl
              try simp only [Z1, Z2, Z3, Z4, Z5, Z6, Z7]
              refine wpAnyH_take (i := 13) (v := ?_) rfl (by kernel_rfl) (by kernel_rfl) (by kernel_rfl) (fun _ _ _ h => h) (Or.inl ⟨by rfl, ?_⟩) hH ?_
              case refine_2 => intro w hSw; go_simp; try with_reducible rfl
              try simp only [Z1, Z2, Z3, Z4, Z5, Z6, Z7]
              refine wpAnyH_take (i := 14) (v := ?_) rfl (by kernel_rfl) (by kernel_rfl) (by kernel_rfl) (fun _ _ _ h => h) (Or.inl ⟨by rfl, ?_⟩) hH ?_
              case refine_2 => intro w hSw; go_simp; try with_reducible rfl
              try simp only [Z1, Z2, Z3, Z4, Z5, Z6, Z7]
              refine wpAnyH_take (i := 15) (v := ?_) rfl (by kernel_rfl) (by kernel_rfl) (by kernel_rfl) (fun _ _ _ h => h) (Or.inl ⟨by rfl, ?_⟩) hH ?_
              case refine_2 => intro w hSw; go_simp; try with_reducible rfl
              try simp only [Z1, Z2, Z3, Z4, Z5, Z6, Z7]
              refine wpAnyH_take (i := 16) (v := ?_) rfl (by kernel_rfl) (by kernel_rfl) (by kernel_rfl) (fun _ _ _ h => h) (Or.inl ⟨by rfl, ?_⟩) hH ?_
              case refine_2 => intro w hSw; go_simp; try with_reducible rfl
              try simp only [Z1, Z2, Z3, Z4, Z5, Z6, Z7]
              refine wpAnyH_take (i := 17) (v := ?_) rfl (by kernel_rfl) (by kernel_rfl) (by kernel_rfl) (fun _ _ _ h => h) (Or.inl ⟨by rfl, ?_⟩) hH ?_
              case refine_2 => intro w hSw; obtain ⟨kw, kb⟩ := hSw; replace kw : Blk w g 48 (nodeC (.slice Al d.log.length ec) V M X d) := kw; replace kb : Blk w mb 58 #[.int .i64 m.kind, .int .i64 m.frm, .int .i64 m.dst, .int .u64 (m.term : Int), .int .u64 (m.index : Int), .int .u64 (m.logTerm : Int), .int .u64 (m.commit : Int), .slice A m.ents.length c, .bool m.ok, .slice none 0 0] := kb; have n0 : w.cell? ⟨_, 0, none⟩ = some (.int .u64 (d.term : Int)) := Blk.cell kw 0; clear kw kb; go_simp; try with_reducible rfl
              try simp only [Z1, Z2, Z3, Z4, Z5, Z6, Z7]
              refine wpAnyH_take (i := 18) (v := ?_) rfl (by kernel_rfl) (by kernel_rfl) (by kernel_rfl) (fun _ _ _ h => h) (Or.inl ⟨by rfl, ?_⟩) hH ?_
              case refine_2 => intro w hSw; go_simp; try with_reducible rfl
              try simp only [Z1, Z2, Z3, Z4, Z5, Z6, Z7]
              refine wpAnyH_take (i := 19) (v := ?_) rfl (by kernel_rfl) (by kernel_rfl) (by kernel_rfl) (fun _ _ _ h => h) (Or.inl ⟨by rfl, ?_⟩) hH ?_
              case refine_2 => intro w hSw; go_simp; try with_reducible rfl
              try simp only [Z1, Z2, Z3, Z4, Z5, Z6, Z7]
              refine wpAnyH_take (i := 20) (v := ?_) rfl (by kernel_rfl) (by kernel_rfl) (by kernel_rfl) (fun _ _ _ h => h) (Or.inl ⟨by rfl, ?_⟩) hH ?_
              case refine_2 => intro w hSw; go_simp; try with_reducible rfl
              try simp only [Z1, Z2, Z3, Z4, Z5, Z6, Z7]
              refine wpAnyH_take (i := 21) (v := ?_) rfl (by kernel_rfl) (by kernel_rfl) (by kernel_rfl) (fun _ _ _ h => h) (Or.inl ⟨by rfl, ?_⟩) hH ?_
              case refine_2 => intro w hSw; go_simp; try with_reducible rfl
              try simp only [Z1, Z2, Z3, Z4, Z5, Z6, Z7]
              refine wpAnyH_take (i := 22) (v := ?_) rfl (by kernel_rfl) (by kernel_rfl) (by kernel_rfl) (fun _ _ _ h => h) (Or.inl ⟨by rfl, ?_⟩) hH ?_
              case refine_2 => intro w hSw; obtain ⟨kw, kb⟩ := hSw; replace kw : Blk w g 48 (nodeC (.slice Al d.log.length ec) V M X d) := kw; replace kb : Blk w mb 58 #[.int .i64 m.kind, .int .i64 m.frm, .int .i64 m.dst, .int .u64 (m.term : Int), .int .u64 (m.index : Int), .int .u64 (m.logTerm : Int), .int .u64 (m.commit : Int), .slice A m.ents.length c, .bool m.ok, .slice none 0 0] := kb; have s3 : w.cell? ⟨_, 3, none⟩ = some (.int .u64 (m.term : Int)) := Blk.cell kb 3; clear kw kb; go_simp; try with_reducible rfl
              try simp only [Z1, Z2, Z3, Z4, Z5, Z6, Z7]
              refine wpAnyH_take (i := 23) (v := ?_) rfl (by kernel_rfl) (by kernel_rfl) (by kernel_rfl) (fun _ _ _ h => h) (Or.inl ⟨by rfl, ?_⟩) hH ?_
              case refine_2 => intro w hSw; go_simp; try with_reducible rfl
              try simp only [Z1, Z2, Z3, Z4, Z5, Z6, Z7]
              refine wpAnyH_take (i := 24) (v := ?_) rfl (by kernel_rfl) (by kernel_rfl) (by kernel_rfl) (fun _ _ _ h => h) (Or.inl ⟨by rfl, ?_⟩) hH ?_
              case refine_2 => intro w hSw; go_simp; try with_reducible rfl
              try simp only [Z1, Z2, Z3, Z4, Z5, Z6, Z7]
              refine wpAnyH_take (i := 25) (v := ?_) rfl (by kernel_rfl) (by kernel_rfl) (by kernel_rfl) (fun _ _ _ h => h) (Or.inl ⟨by rfl, ?_⟩) hH ?_
              case refine_2 => intro w hSw; go_simp; try with_reducible rfl
              try simp only [Z1, Z2, Z3, Z4, Z5, Z6, Z7]
              refine wpAnyH_take (i := 26) (v := ?_) rfl (by kernel_rfl) (by kernel_rfl) (by kernel_rfl) (fun _ _ _ h => h) (Or.inl ⟨by rfl, ?_⟩) hH ?_
              case refine_2 => intro w hSw; go_simp; try with_reducible rfl
              try simp only [Z1, Z2, Z3, Z4, Z5, Z6, Z7]
              refine wpAnyH_take (i := 27) (v := ?_) rfl (by kernel_rfl) (by kernel_rfl) (by kernel_rfl) (fun _ _ _ h => h) (Or.inl ⟨by rfl, ?_⟩) hH ?_
              case refine_2 => intro w hSw; go_simp; try with_reducible rfl
              try simp only [Z1, Z2, Z3, Z4, Z5, Z6, Z7]
              refine wpAnyH_take (i := 28) (v := ?_) rfl (by kernel_rfl) (by kernel_rfl) (by kernel_rfl) (fun _ _ _ h => h) (Or.inl ⟨by rfl, ?_⟩) hH ?_
              case refine_2 => intro w hSw; obtain ⟨kw, kb⟩ := hSw; replace kw : Blk w g 48 (nodeC (.slice Al d.log.length ec) V M X d) := kw; replace kb : Blk w mb 58 #[.int .i64 m.kind, .int .i64 m.frm, .int .i64 m.dst, .int .u64 (m.term : Int), .int .u64 (m.index : Int), .int .u64 (m.logTerm : Int), .int .u64 (m.commit : Int), .slice A m.ents.length c, .bool m.ok, .slice none 0 0] := kb; have n0 : w.cell? ⟨_, 0, none⟩ = some (.int .u64 (d.term : Int)) := Blk.cell kw 0; clear kw kb; go_simp; try with_reducible rfl
              try simp only [Z1, Z2, Z3, Z4, Z5, Z6, Z7]
              refine wpAnyH_take (i := 29) (v := ?_) rfl (by kernel_rfl) (by kernel_rfl) (by kernel_rfl) (fun _ _ _ h => h) (Or.inl ⟨by rfl, ?_⟩) hH ?_
              case refine_2 => intro w hSw; go_simp; try with_reducible rfl
              try simp only [Z1, Z2, Z3, Z4, Z5, Z6, Z7]
              refine wpAnyH_take (i := 30) (v := ?_) rfl (by kernel_rfl) (by kernel_rfl) (by kernel_rfl) (fun _ _ _ h => h) (Or.inl ⟨by rfl, ?_⟩) hH ?_
              case refine_2 => intro w hSw; go_simp; try with_reducible rfl
              try simp only [Z1, Z2, Z3, Z4, Z5, Z6, Z7]
              refine wpAnyH_take (i := 31) (v := ?_) rfl (by kernel_rfl) (by kernel_rfl) (by kernel_rfl) (fun _ _ _ h => h) (Or.inl ⟨by rfl, ?_⟩) hH ?_
              case refine_2 => intro w hSw; go_simp; try with_reducible rfl
              try simp only [Z1, Z2, Z3, Z4, Z5, Z6, Z7]
              refine wpAnyH_take (i := 32) (v := ?_) rfl (by kernel_rfl) (by kernel_rfl) (by kernel_rfl) (fun _ _ _ h => h) (Or.inl ⟨by rfl, ?_⟩) hH ?_
              case refine_2 => intro w hSw; go_simp; try with_reducible rfl
              try simp only [Z1, Z2, Z3, Z4, Z5, Z6, Z7]
              refine wpAnyH_take (i := 33) (v := ?_) rfl (by kernel_rfl) (by kernel_rfl) (by kernel_rfl) (fun _ _ _ h => h) (Or.inl ⟨by rfl, ?_⟩) hH ?_
              case refine_2 => intro w hSw; go_simp; try with_reducible rfl
              try simp only [Z1, Z2, Z3, Z4, Z5, Z6, Z7]
              refine wpAnyH_take (i := 34) (v := ?_) rfl (by kernel_rfl) (by kernel_rfl) (by kernel_rfl) (fun _ _ _ h => h) (Or.inl ⟨by rfl, ?_⟩) hH ?_
              case refine_2 => intro w hSw; obtain ⟨kw, kb⟩ := hSw; replace kw : Blk w g 48 (nodeC (.slice Al d.log.length ec) V M X d) := kw; replace kb : Blk w mb 58 #[.int .i64 m.kind, .int .i64 m.frm, .int .i64 m.dst, .int .u64 (m.term : Int), .int .u64 (m.index : Int), .int .u64 (m.logTerm : Int), .int .u64 (m.commit : Int), .slice A m.ents.length c, .bool m.ok, .slice none 0 0] := kb; have n8 : w.cell? ⟨_, 8, none⟩ = some (.int .i64 d.role) := Blk.cell kw 8; clear kw kb; go_simp; try with_reducible rfl
              try simp only [Z1, Z2, Z3, Z4, Z5, Z6, Z7]
              refine wpAnyH_take (i := 35) (v := ?_) rfl (by kernel_rfl) (by kernel_rfl) (by kernel_rfl) (fun _ _ _ h => h) (Or.inl ⟨by rfl, ?_⟩) hH ?_
              case refine_2 => intro w hSw; go_simp; try with_reducible rfl
              try simp only [Z1, Z2, Z3, Z4, Z5, Z6, Z7]
              refine wpAnyH_take (i := 36) (v := ?_) rfl (by kernel_rfl) (by kernel_rfl) (by kernel_rfl) (fun _ _ _ h => h) (Or.inl ⟨by rfl, ?_⟩) hH ?_
              case refine_2 => intro w hSw; go_simp; try with_reducible rfl
              try simp only [Z1, Z2, Z3, Z4, Z5, Z6, Z7]
              refine wpAnyH_take (i := 37) (v := ?_) rfl (by kernel_rfl) (by kernel_rfl) (by kernel_rfl) (fun _ _ _ h => h) (Or.inl ⟨by rfl, ?_⟩) hH ?_
              case refine_2 => intro w hSw; go_simp; try with_reducible rfl
              try simp only [Z1, Z2, Z3, Z4, Z5, Z6, Z7]
              refine wpAnyH_take (i := 38) (v := ?_) rfl (by kernel_rfl) (by kernel_rfl) (by kernel_rfl) (fun _ _ _ h => h) (Or.inl ⟨by rfl, ?_⟩) hH ?_
              case refine_2 => intro w hSw; go_simp; try with_reducible rfl
              try simp only [Z1, Z2, Z3, Z4, Z5, Z6, Z7]
              refine wpAnyH_take (i := 39) (v := undef) rfl (by kernel_rfl) (by kernel_rfl) (by kernel_rfl) (fun _ _ _ h => h) (Or.inr ⟨by rfl, rfl⟩) hH ?_
              try simp only [Z1, Z2, Z3, Z4, Z5, Z6, Z7]
              refine wpAnyH_take (i := 40) (v := undef) rfl (by kernel_rfl) (by kernel_rfl) (by kernel_rfl) (fun _ _ _ h => h) (Or.inr ⟨by rfl, rfl⟩) hH ?_
              try simp only [Z1, Z2, Z3, Z4, Z5, Z6, Z7]
              refine wpAnyH_take (i := 41) (v := undef) rfl (by kernel_rfl) (by kernel_rfl) (by kernel_rfl) (fun _ _ _ h => h) (Or.inr ⟨by rfl, rfl⟩) hH ?_
              try simp only [Z1, Z2, Z3, Z4, Z5, Z6, Z7]
              refine wpAnyH_take (i := 42) (v := undef) rfl (by kernel_rfl) (by kernel_rfl) (by kernel_rfl) (fun _ _ _ h => h) (Or.inr ⟨by rfl, rfl⟩) hH ?_
              try simp only [Z1, Z2, Z3, Z4, Z5, Z6, Z7]
              refine wpAnyH_take (i := 43) (v := undef) rfl (by kernel_rfl) (by kernel_rfl) (by kernel_rfl) (fun _ _ _ h => h) (Or.inr ⟨by rfl, rfl⟩) hH ?_
              try simp only [Z1, Z2, Z3, Z4, Z5, Z6, Z7]
              refine wpAnyH_take (i := 44) (v := undef) rfl (by kernel_rfl) (by kernel_rfl) (by kernel_rfl) (fun _ _ _ h => h) (Or.inr ⟨by rfl, rfl⟩) hH ?_
              try simp only [Z1, Z2, Z3, Z4, Z5, Z6, Z7]
              refine wpAnyH_take (i := 45) (v := undef) rfl (by kernel_rfl) (by kernel_rfl) (by kernel_rfl) (fun _ _ _ h => h) (Or.inr ⟨by rfl, rfl⟩) hH ?_
              try simp only [Z1, Z2, Z3, Z4, Z5, Z6, Z7]
              refine wpAnyH_take (i := 46) (v := ?_) rfl (by kernel_rfl) (by kernel_rfl) (by kernel_rfl) (fun _ _ _ h => h) (Or.inl ⟨by rfl, ?_⟩) hH ?_
              case refine_2 => intro w hSw; go_simp; try with_reducible rfl
              try simp only [Z1, Z2, Z3, Z4, Z5, Z6, Z7]
              refine wpAnyH_take (i := 47) (v := ?_) rfl (by kernel_rfl) (by kernel_rfl) (by kernel_rfl) (fun _ _ _ h => h) (Or.inl ⟨by rfl, ?_⟩) hH ?_
              case refine_2 => intro w hSw; go_simp; try with_reducible rfl
              try simp only [Z1, Z2, Z3, Z4, Z5, Z6, Z7]
              refine wpAnyH_take (i := 48) (v := undef) rfl (by kernel_rfl) (by kernel_rfl) (by kernel_rfl) (fun _ _ _ h => h) (Or.inr ⟨by rfl, rfl⟩) hH ?_
              try simp only [Z1, Z2, Z3, Z4, Z5, Z6, Z7]
              refine wpAnyH_take (i := 49) (v := undef) rfl (by kernel_rfl) (by kernel_rfl) (by kernel_rfl) (fun _ _ _ h => h) (Or.inr ⟨by rfl, rfl⟩) hH ?_
              try simp only [Z1, Z2, Z3, Z4, Z5, Z6, Z7]
              refine wpAnyH_take (i := 50) (v := undef) rfl (by kernel_rfl) (by kernel_rfl) (by kernel_rfl) (fun _ _ _ h => h) (Or.inr ⟨by rfl, rfl⟩) hH ?_
              try simp only [Z1, Z2, Z3, Z4, Z5, Z6, Z7]
              refine wpAnyH_take (i := 51) (v := undef) rfl (by kernel_rfl) (by kernel_rfl) (by kernel_rfl) (fun _ _ _ h => h) (Or.inr ⟨by rfl, rfl⟩) hH ?_
              try simp only [Z1, Z2, Z3, Z4, Z5, Z6, Z7]
              refine wpAnyH_take (i := 52) (v := undef) rfl (by kernel_rfl) (by kernel_rfl) (by kernel_rfl) (fun _ _ _ h => h) (Or.inr ⟨by rfl, rfl⟩) hH ?_
              try simp only [Z1, Z2, Z3, Z4, Z5, Z6, Z7]
              refine wpAnyH_take (i := 53) (v := ?_) rfl (by kernel_rfl) (by kernel_rfl) (by kernel_rfl) (fun _ _ _ h => h) (Or.inl ⟨by rfl, ?_⟩) hH ?_
              case refine_2 => intro w hSw; go_simp; try with_reducible rfl
              try simp only [Z1, Z2, Z3, Z4, Z5, Z6, Z7]
              refine wpAnyH_done (by kernel_rfl) ?_ _
              refine NoPanic.normal ?_
              go_wp2_with fail
              go_meet
              case rel => exact ⟨_, rfl, HOK, b07⟩
            · have h4i : (d.role == 3) = false := by rw [beq_eq_false_iff_ne]; exact h4
              by_cases h5 : m.index ≤ d.commit
              · have h5i : (m.index : Int) ≤ (d.commit : Int) := by omega
                have HOK : Hid (true = (!properP d m || decide (m.kind ≠ 7) || decide (m.term < d.term) || (decide (m.term = d.term) && decide (d.role = 3)) || decide (m.index ≤ d.commit) || decide (m.term < m.logTerm))) := by show _ = _; rw [← HPP.out, decide_eq_false (fun h => h h1), decide_eq_false h2, decide_eq_true h3, decide_eq_false h4, decide_eq_true h5]; rfl
                as_aux_lemma =>
                clear h1 h2 h3 h4 h5
                refine wp_region_noPanic ?_
                have kS : Blk w1.drew g 48 (nodeC (.slice Al d.log.length ec) V M X d) ∧ Blk w1.drew mb 58 #[.int .i64 m.kind, .int .i64 m.frm, .int .i64 m.dst, .int .u64 (m.term : Int), .int .u64 (m.index : Int), .int .u64 (m.logTerm : Int), .int .u64 (m.commit : Int), .slice A m.ents.length c, .bool m.ok, .slice none 0 0] := ⟨N1.blk.drew, km.drew⟩
                refine wp_region_held_drew (S := (fun Y => Blk Y g 48 (nodeC (.slice Al d.log.length ec) V M X d) ∧ Blk Y mb 58 #[.int .i64 m.kind, .int .i64 m.frm, .int .i64 m.dst, .int .u64 (m.term : Int), .int .u64 (m.index : Int), .int .u64 (m.logTerm : Int), .int .u64 (m.commit : Int), .slice A m.ents.length c, .bool m.ok, .slice none 0 0])) (by kernel_rfl) kS (fun hH => ?_)
                refine wpAnyH_take (i := 0) (v := ?_) rfl (by kernel_rfl) (by kernel_rfl) (by kernel_rfl) (fun _ _ _ h => h) (Or.inl ⟨by rfl, ?_⟩) hH ?_
                case refine_2 => intro w hSw; go_simp; try with_reducible rfl
                try simp only [Z1, Z2, Z4, Z5, Z6, Z7]
                refine wpAnyH_take (i := 1) (v := ?_) rfl (by kernel_rfl) (by kernel_rfl) (by kernel_rfl) (fun _ _ _ h => h) (Or.inl ⟨by rfl, ?_⟩) hH ?_
                case refine_2 => intro w hSw; obtain ⟨kw, kb⟩ := hSw; replace kw : Blk w g 48 (nodeC (.slice Al d.log.length ec) V M X d) := kw; replace kb : Blk w mb 58 #[.int .i64 m.kind, .int .i64 m.frm, .int .i64 m.dst, .int .u64 (m.term : Int), .int .u64 (m.index : Int), .int .u64 (m.logTerm : Int), .int .u64 (m.commit : Int), .slice A m.ents.length c, .bool m.ok, .slice none 0 0] := kb; have s0 : w.cell? ⟨_, 0, none⟩ = some (.int .i64 m.kind) := Blk.cell kb 0; have s1 : w.cell? ⟨_, 1, none⟩ = some (.int .i64 m.frm) := Blk.cell kb 1; have s2 : w.cell? ⟨_, 2, none⟩ = some (.int .i64 m.dst) := Blk.cell kb 2; have s3 : w.cell? ⟨_, 3, none⟩ = some (.int .u64 (m.term : Int)) := Blk.cell kb 3; have s4 : w.cell? ⟨_, 4, none⟩ = some (.int .u64 (m.index : Int)) := Blk.cell kb 4; have s5 : w.cell? ⟨_, 5, none⟩ = some (.int .u64 (m.logTerm : Int)) := Blk.cell kb 5; have s6 : w.cell? ⟨_, 6, none⟩ = some (.int .u64 (m.commit : Int)) := Blk.cell kb 6; have s7 : w.cell? ⟨_, 7, none⟩ = some (.slice A m.ents.length c) := Blk.cell kb 7; have s8 : w.cell? ⟨_, 8, none⟩ = some (.bool m.ok) := Blk.cell kb 8; have s9 : w.cell? ⟨_, 9, none⟩ = some (.slice none 0 0) := Blk.cell kb 9; clear kw kb; go_simp; try with_reducible rfl
                try simp only [Z1, Z2, Z3, Z4, Z5, Z6, Z7]
                refine wpAnyH_ready (rs := [2]) (by kernel_rfl) (by simp) ?_
                refine AllReadyH.cons rfl (fun K hK => ?_) AllReadyH.nil
                go_simp
                refine (HTP.out w1.drew (N1.below ((Below.refl _ _).drew)) (HM.out.below ((Below.refl _ _).drew))).mono ?_
                rintro en w7 ⟨rfl, b7⟩
                have k7 := kS.1.below b7 kS.1.lt
                have km7 := kS.2.below b7 kS.2.lt
                have b07 := below_step ((Below.refl w1.heap.size w1).drew) b7
                clear HTP HM
                refine hK.out _ _ ⟨k7, km7⟩ (fun hH => ?_)
                clear hK K
                try dsimp only
                try simp only [Z1, Z2, Z3, Z4, Z5, Z6, Z7]
                refine wpAnyH_take (i := 3) (v := ?_) rfl (by kernel_rfl) (by kernel_rfl) (by kernel_rfl) (fun _ _ _ h => h) (Or.inl ⟨by rfl, ?_⟩) hH ?_
                case refine_2 => intro w hSw; go_simp; try with_reducible rfl
                try simp only [Z1, Z2, Z3, Z4, Z5, Z6, Z7]
                refine wpAnyH_take (i := 4) (v := ?_) rfl (by kernel_rfl) (by kernel_rfl) (by kernel_rfl) (fun _ _ _ h => h) (Or.inl ⟨by rfl, ?_⟩) hH ?_
                case refine_2 => intro w hSw; go_simp; try with_reducible rfl
                try simp only [Z1, Z2, Z3, Z4, Z5, Z6, Z7]
                refine wpAnyH_take (i := 5) (v := ?_) rfl (by kernel_rfl) (by kernel_rfl) (by kernel_rfl) (fun _ _ _ h => h) (Or.inl ⟨by rfl, ?_⟩) hH ?_
                case refine_2 => intro w hSw; go_simp; try with_reducible rfl
                try simp only [Z1, Z2, Z3, Z4, Z5, Z6, Z7]
                refine wpAnyH_take (i := 6) (v := ?_) rfl (by kernel_rfl) (by kernel_rfl) (by kernel_rfl) (fun _ _ _ h => h) (Or.inl ⟨by rfl, ?_⟩) hH ?_
                case refine_2 => intro w hSw; obtain ⟨kw, kb⟩ := hSw; replace kw : Blk w g 48 (nodeC (.slice Al d.log.length ec) V M X d) := kw; replace kb : Blk w mb 58 #[.int .i64 m.kind, .int .i64 m.frm, .int .i64 m.dst, .int .u64 (m.term : Int), .int .u64 (m.index : Int), .int .u64 (m.logTerm : Int), .int .u64 (m.commit : Int), .slice A m.ents.length c, .bool m.ok, .slice none 0 0] := kb; have s0 : w.cell? ⟨_, 0, none⟩ = some (.int .i64 m.kind) := Blk.cell kb 0; clear kw kb; go_simp; try with_reducible rfl
                try simp only [Z1, Z2, Z3, Z4, Z5, Z6, Z7]
                refine wpAnyH_take (i := 7) (v := ?_) rfl (by kernel_rfl) (by kernel_rfl) (by kernel_rfl) (fun _ _ _ h => h) (Or.inl ⟨by rfl, ?_⟩) hH ?_
                case refine_2 => intro w hSw; go_simp; try with_reducible rfl
                try simp only [Z1, Z2, Z3, Z4, Z5, Z6, Z7]
                refine wpAnyH_take (i := 8) (v := ?_) rfl (by kernel_rfl) (by kernel_rfl) (by kernel_rfl) (fun _ _ _ h => h) (Or.inl ⟨by rfl, ?_⟩) hH ?_
                case refine_2 => intro w hSw; go_simp; try with_reducible rfl
                try simp only [Z1, Z2, Z3, Z4, Z5, Z6, Z7]
                refine wpAnyH_take (i := 9) (v := ?_) rfl (by kernel_rfl) (by kernel_rfl) (by kernel_rfl) (fun _ _ _ h => h) (Or.inl ⟨by rfl, ?_⟩) hH ?_
                case refine_2 => intro w hSw; go_simp; try with_reducible rfl
                try simp only [Z1, Z2, Z3, Z4, Z5, Z6, Z7]
                refine wpAnyH_take (i := 10) (v := ?_) rfl (by kernel_rfl) (by kernel_rfl) (by kernel_rfl) (fun _ _ _ h => h) (Or.inl ⟨by rfl, ?_⟩) hH ?_
                case refine_2 => intro w hSw; go_simp; try with_reducible rfl
                try simp only [Z1, Z2, Z3, Z4, Z5, Z6, Z7]
                refine wpAnyH_take (i := 11) (v := ?_) rfl (by kernel_rfl) (by kernel_rfl) (by kernel_rfl) (fun _ _ _ h => h) (Or.inl ⟨by rfl, ?_⟩) hH ?_
                case refine_2 => intro w hSw; obtain ⟨kw, kb⟩ := hSw; replace kw : Blk w g 48 (nodeC (.slice Al d.log.length ec) V M X d) := kw; replace kb : Blk w mb 58 #[.int .i64 m.kind, .int .i64 m.frm, .int .i64 m.dst, .int .u64 (m.term : Int), .int .u64 (m.index : Int), .int .u64 (m.logTerm : Int), .int .u64 (m.commit : Int), .slice A m.ents.length c, .bool m.ok, .slice none 0 0] := kb; have s3 : w.cell? ⟨_, 3, none⟩ = some (.int .u64 (m.term : Int)) := Blk.cell kb 3; clear kw kb; go_simp; try with_reducible rfl
                try simp only [Z1, Z2, Z3, Z4, Z5, Z6, Z7]
                refine wpAnyH_take (i := 12) (v := ?_) rfl (by kernel_rfl) (by kernel_rfl) (by kernel_rfl) (fun _ _ _ h => h) (Or.inl ⟨by rfl, ?_⟩) hH ?_
                case refine_2 => intro w hSw; go_simp; try with_reducible rfl
                try simp only [Z1, Z2, Z3, Z4, Z5, Z6, Z7]
                refine wpAnyH_take (i := 13) (v := ?_) rfl (by kernel_rfl) (by kernel_rfl) (by kernel_rfl) (fun _ _ _ h => h) (Or.inl ⟨by rfl, ?_⟩) hH ?_
                case refine_2 => intro w hSw; go_simp; try with_reducible rfl
                try simp only [Z1, Z2, Z3, Z4, Z5, Z6, Z7]
                refine wpAnyH_take (i := 14) (v := ?_) rfl (by kernel_rfl) (by kernel_rfl) (by kernel_rfl) (fun _ _ _ h => h) (Or.inl ⟨by rfl, ?_⟩) hH ?_
                case refine_2 => intro w hSw; go_simp; try with_reducible rfl
                try simp only [Z1, Z2, Z3, Z4, Z5, Z6, Z7]
                refine wpAnyH_take (i := 15) (v := ?_) rfl (by kernel_rfl) (by kernel_rfl) (by kernel_rfl) (fun _ _ _ h => h) (Or.inl ⟨by rfl, ?_⟩) hH ?_
                case refine_2 => intro w hSw; go_simp; try with_reducible rfl
                try simp only [Z1, Z2, Z3, Z4, Z5, Z6, Z7]
                refine wpAnyH_take (i := 16) (v := ?_) rfl (by kernel_rfl) (by kernel_rfl) (by kernel_rfl) (fun _ _ _ h => h) (Or.inl ⟨by rfl, ?_⟩) hH ?_
                case refine_2 => intro w hSw; go_simp; try with_reducible rfl
                try simp only [Z1, Z2, Z3, Z4, Z5, Z6, Z7]
                refine wpAnyH_take (i := 17) (v := ?_) rfl (by kernel_rfl) (by kernel_rfl) (by kernel_rfl) (fun _ _ _ h => h) (Or.inl ⟨by rfl, ?_⟩) hH ?_
                case refine_2 => intro w hSw; obtain ⟨kw, kb⟩ := hSw; replace kw : Blk w g 48 (nodeC (.slice Al d.log.length ec) V M X d) := kw; replace kb : Blk w mb 58 #[.int .i64 m.kind, .int .i64 m.frm, .int .i64 m.dst, .int .u64 (m.term : Int), .int .u64 (m.index : Int), .int .u64 (m.logTerm : Int), .int .u64 (m.commit : Int), .slice A m.ents.length c, .bool m.ok, .slice none 0 0] := kb; have n0 : w.cell? ⟨_, 0, none⟩ = some (.int .u64 (d.term : Int)) := Blk.cell kw 0; clear kw kb; go_simp; try with_reducible rfl
                try simp only [Z1, Z2, Z3, Z4, Z5, Z6, Z7]
                refine wpAnyH_take (i := 18) (v := ?_) rfl (by kernel_rfl) (by kernel_rfl) (by kernel_rfl) (fun _ _ _ h => h) (Or.inl ⟨by rfl, ?_⟩) hH ?_
                case refine_2 => intro w hSw; go_simp; try with_reducible rfl
                try simp only [Z1, Z2, Z3, Z4, Z5, Z6, Z7]
                refine wpAnyH_take (i := 19) (v := ?_) rfl (by kernel_rfl) (by kernel_rfl) (by kernel_rfl) (fun _ _ _ h => h) (Or.inl ⟨by rfl, ?_⟩) hH ?_
                case refine_2 => intro w hSw; go_simp; try with_reducible rfl
                try simp only [Z1, Z2, Z3, Z4, Z5, Z6, Z7]
                refine wpAnyH_take (i := 20) (v := ?_) rfl (by kernel_rfl) (by kernel_rfl) (by kernel_rfl) (fun _ _ _ h => h) (Or.inl ⟨by rfl, ?_⟩) hH ?_
                case refine_2 => intro w hSw; go_simp; try with_reducible rfl
                try simp only [Z1, Z2, Z3, Z4, Z5, Z6, Z7]
                refine wpAnyH_take (i := 21) (v := ?_) rfl (by kernel_rfl) (by kernel_rfl) (by kernel_rfl) (fun _ _ _ h => h) (Or.inl ⟨by rfl, ?_⟩) hH ?_
                case refine_2 => intro w hSw; go_simp; try with_reducible rfl
                try simp only [Z1, Z2, Z3, Z4, Z5, Z6, Z7]
                refine wpAnyH_take (i := 22) (v := ?_) rfl (by kernel_rfl) (by kernel_rfl) (by kernel_rfl) (fun _ _ _ h => h) (Or.inl ⟨by rfl, ?_⟩) hH ?_
                case refine_2 => intro w hSw; obtain ⟨kw, kb⟩ := hSw; replace kw : Blk w g 48 (nodeC (.slice Al d.log.length ec) V M X d) := kw; replace kb : Blk w mb 58 #[.int .i64 m.kind, .int .i64 m.frm, .int .i64 m.dst, .int .u64 (m.term : Int), .int .u64 (m.index : Int), .int .u64 (m.logTerm : Int), .int .u64 (m.commit : Int), .slice A m.ents.length c, .bool m.ok, .slice none 0 0] := kb; have s3 : w.cell? ⟨_, 3, none⟩ = some (.int .u64 (m.term : Int)) := Blk.cell kb 3; clear kw kb; go_simp; try with_reducible rfl
                try simp only [Z1, Z2, Z3, Z4, Z5, Z6, Z7]
                refine wpAnyH_take (i := 23) (v := ?_) rfl (by kernel_rfl) (by kernel_rfl) (by kernel_rfl) (fun _ _ _ h => h) (Or.inl ⟨by rfl, ?_⟩) hH ?_
                case refine_2 => intro w hSw; go_simp; try with_reducible rfl
                try simp only [Z1, Z2, Z3, Z4, Z5, Z6, Z7]
                refine wpAnyH_take (i := 24) (v := ?_) rfl (by kernel_rfl) (by kernel_rfl) (by kernel_rfl) (fun _ _ _ h => h) (Or.inl ⟨by rfl, ?_⟩) hH ?_
                case refine_2 => intro w hSw; go_simp; try with_reducible rfl
                try simp only [Z1, Z2, Z3, Z4, Z5, Z6, Z7]
                refine wpAnyH_take (i := 25) (v := ?_) rfl (by kernel_rfl) (by kernel_rfl) (by kernel_rfl) (fun _ _ _ h => h) (Or.inl ⟨by rfl, ?_⟩) hH ?_
                case refine_2 => intro w hSw; go_simp; try with_reducible rfl
                try simp only [Z1, Z2, Z3, Z4, Z5, Z6, Z7]
                refine wpAnyH_take (i := 26) (v := ?_) rfl (by kernel_rfl) (by kernel_rfl) (by kernel_rfl) (fun _ _ _ h => h) (Or.inl ⟨by rfl, ?_⟩) hH ?_
                case refine_2 => intro w hSw; go_simp; try with_reducible rfl
                try simp only [Z1, Z2, Z3, Z4, Z5, Z6, Z7]
                refine wpAnyH_take (i := 27) (v := ?_) rfl (by kernel_rfl) (by kernel_rfl) (by kernel_rfl) (fun _ _ _ h => h) (Or.inl ⟨by rfl, ?_⟩) hH ?_
                case refine_2 => intro w hSw; go_simp; try with_reducible rfl
                try simp only [Z1, Z2, Z3, Z4, Z5, Z6, Z7]
                refine wpAnyH_take (i := 28) (v := ?_) rfl (by kernel_rfl) (by kernel_rfl) (by kernel_rfl) (fun _ _ _ h => h) (Or.inl ⟨by rfl, ?_⟩) hH ?_
                case refine_2 => intro w hSw; obtain ⟨kw, kb⟩ := hSw; replace kw : Blk w g 48 (nodeC (.slice Al d.log.length ec) V M X d) := kw; replace kb : Blk w mb 58 #[.int .i64 m.kind, .int .i64 m.frm, .int .i64 m.dst, .int .u64 (m.term : Int), .int .u64 (m.index : Int), .int .u64 (m.logTerm : Int), .int .u64 (m.commit : Int), .slice A m.ents.length c, .bool m.ok, .slice none 0 0] := kb; have n0 : w.cell? ⟨_, 0, none⟩ = some (.int .u64 (d.term : Int)) := Blk.cell kw 0; clear kw kb; go_simp; try with_reducible rfl
                try simp only [Z1, Z2, Z3, Z4, Z5, Z6, Z7]
                refine wpAnyH_take (i := 29) (v := ?_) rfl (by kernel_rfl) (by kernel_rfl) (by kernel_rfl) (fun _ _ _ h => h) (Or.inl ⟨by rfl, ?_⟩) hH ?_
                case refine_2 => intro w hSw; go_simp; try with_reducible rfl
                try simp only [Z1, Z2, Z3, Z4, Z5, Z6, Z7]
                refine wpAnyH_take (i := 30) (v := ?_) rfl (by kernel_rfl) (by kernel_rfl) (by kernel_rfl) (fun _ _ _ h => h) (Or.inl ⟨by rfl, ?_⟩) hH ?_
                case refine_2 => intro w hSw; go_simp; try with_reducible rfl
                try simp only [Z1, Z2, Z3, Z4, Z5, Z6, Z7]
                refine wpAnyH_take (i := 31) (v := ?_) rfl (by kernel_rfl) (by kernel_rfl) (by kernel_rfl) (fun _ _ _ h => h) (Or.inl ⟨by rfl, ?_⟩) hH ?_
                case refine_2 => intro w hSw; go_simp; try with_reducible rfl
                try simp only [Z1, Z2, Z3, Z4, Z5, Z6, Z7]
                refine wpAnyH_take (i := 32) (v := ?_) rfl (by kernel_rfl) (by kernel_rfl) (by kernel_rfl) (fun _ _ _ h => h) (Or.inl ⟨by rfl, ?_⟩) hH ?_
                case refine_2 => intro w hSw; go_simp; try with_reducible rfl
                try simp only [Z1, Z2, Z3, Z4, Z5, Z6, Z7]
                refine wpAnyH_take (i := 33) (v := ?_) rfl (by kernel_rfl) (by kernel_rfl) (by kernel_rfl) (fun _ _ _ h => h) (Or.inl ⟨by rfl, ?_⟩) hH ?_
                case refine_2 => intro w hSw; go_simp; try with_reducible rfl
                try simp only [Z1, Z2, Z3, Z4, Z5, Z6, Z7]
                refine wpAnyH_take (i := 34) (v := ?_) rfl (by kernel_rfl) (by kernel_rfl) (by kernel_rfl) (fun _ _ _ h => h) (Or.inl ⟨by rfl, ?_⟩) hH ?_
                case refine_2 => intro w hSw; obtain ⟨kw, kb⟩ := hSw; replace kw : Blk w g 48 (nodeC (.slice Al d.log.length ec) V M X d) := kw; replace kb : Blk w mb 58 #[.int .i64 m.kind, .int .i64 m.frm, .int .i64 m.dst, .int .u64 (m.term : Int), .int .u64 (m.index : Int), .int .u64 (m.logTerm : Int), .int .u64 (m.commit : Int), .slice A m.ents.length c, .bool m.ok, .slice none 0 0] := kb; have n8 : w.cell? ⟨_, 8, none⟩ = some (.int .i64 d.role) := Blk.cell kw 8; clear kw kb; go_simp; try with_reducible rfl
                try simp only [Z1, Z2, Z3, Z4, Z5, Z6, Z7]
                refine wpAnyH_take (i := 35) (v := ?_) rfl (by kernel_rfl) (by kernel_rfl) (by kernel_rfl) (fun _ _ _ h => h) (Or.inl ⟨by rfl, ?_⟩) hH ?_
                case refine_2 => intro w hSw; go_simp; try with_reducible rfl
                try simp only [Z1, Z2, Z3, Z4, Z5, Z6, Z7]
                refine wpAnyH_take (i := 36) (v := ?_) rfl (by kernel_rfl) (by kernel_rfl) (by kernel_rfl) (fun _ _ _ h => h) (Or.inl ⟨by rfl, ?_⟩) hH ?_
                case refine_2 => intro w hSw; go_simp; try with_reducible rfl
                try simp only [Z1, Z2, Z3, Z4, Z5, Z6, Z7]
                refine wpAnyH_take (i := 37) (v := ?_) rfl (by kernel_rfl) (by kernel_rfl) (by kernel_rfl) (fun _ _ _ h => h) (Or.inl ⟨by rfl, ?_⟩) hH ?_
                case refine_2 => intro w hSw; go_simp; try with_reducible rfl
                try simp only [Z1, Z2, Z3, Z4, Z5, Z6, Z7]
                refine wpAnyH_take (i := 38) (v := ?_) rfl (by kernel_rfl) (by kernel_rfl) (by kernel_rfl) (fun _ _ _ h => h) (Or.inl ⟨by rfl, ?_⟩) hH ?_
                case refine_2 => intro w hSw; go_simp; try with_reducible rfl
                try simp only [Z1, Z2, Z3, Z4, Z5, Z6, Z7]
                refine wpAnyH_take (i := 39) (v := ?_) rfl (by kernel_rfl) (by kernel_rfl) (by kernel_rfl) (fun _ _ _ h => h) (Or.inl ⟨by rfl, ?_⟩) hH ?_
                case refine_2 => intro w hSw; go_simp; try with_reducible rfl
                try simp only [Z1, Z2, Z3, Z4, Z5, Z6, Z7]
                refine wpAnyH_take (i := 40) (v := ?_) rfl (by kernel_rfl) (by kernel_rfl) (by kernel_rfl) (fun _ _ _ h => h) (Or.inl ⟨by rfl, ?_⟩) hH ?_
                case refine_2 => intro w hSw; obtain ⟨kw, kb⟩ := hSw; replace kw : Blk w g 48 (nodeC (.slice Al d.log.length ec) V M X d) := kw; replace kb : Blk w mb 58 #[.int .i64 m.kind, .int .i64 m.frm, .int .i64 m.dst, .int .u64 (m.term : Int), .int .u64 (m.index : Int), .int .u64 (m.logTerm : Int), .int .u64 (m.commit : Int), .slice A m.ents.length c, .bool m.ok, .slice none 0 0] := kb; have s4 : w.cell? ⟨_, 4, none⟩ = some (.int .u64 (m.index : Int)) := Blk.cell kb 4; clear kw kb; go_simp; try with_reducible rfl
                try simp only [Z1, Z2, Z3, Z4, Z5, Z6, Z7]
                refine wpAnyH_take (i := 41) (v := ?_) rfl (by kernel_rfl) (by kernel_rfl) (by kernel_rfl) (fun _ _ _ h => h) (Or.inl ⟨by rfl, ?_⟩) hH ?_
                case refine_2 => intro w hSw; go_simp; try with_reducible rfl
                try simp only [Z1, Z2, Z3, Z4, Z5, Z6, Z7]
                refine wpAnyH_take (i := 42) (v := ?_) rfl (by kernel_rfl) (by kernel_rfl) (by kernel_rfl) (fun _ _ _ h => h) (Or.inl ⟨by rfl, ?_⟩) hH ?_
                case refine_2 => intro w hSw; go_simp; try with_reducible rfl
                try simp only [Z1, Z2, Z3, Z4, Z5, Z6, Z7]
                refine wpAnyH_take (i := 43) (v := ?_) rfl (by kernel_rfl) (by kernel_rfl) (by kernel_rfl) (fun _ _ _ h => h) (Or.inl ⟨by rfl, ?_⟩) hH ?_
                case refine_2 => intro w hSw; go_simp; try with_reducible rfl
                try simp only [Z1, Z2, Z3, Z4, Z5, Z6, Z7]
                refine wpAnyH_take (i := 44) (v := ?_) rfl (by kernel_rfl) (by kernel_rfl) (by kernel_rfl) (fun _ _ _ h => h) (Or.inl ⟨by rfl, ?_⟩) hH ?_
                case refine_2 => intro w hSw; obtain ⟨kw, kb⟩ := hSw; replace kw : Blk w g 48 (nodeC (.slice Al d.log.length ec) V M X d) := kw; replace kb : Blk w mb 58 #[.int .i64 m.kind, .int .i64 m.frm, .int .i64 m.dst, .int .u64 (m.term : Int), .int .u64 (m.index : Int), .int .u64 (m.logTerm : Int), .int .u64 (m.commit : Int), .slice A m.ents.length c, .bool m.ok, .slice none 0 0] := kb; have n10 : w.cell? ⟨_, 10, none⟩ = some (.int .u64 (d.commit : Int)) := Blk.cell kw 10; clear kw kb; go_simp; try with_reducible rfl
                try simp only [Z1, Z2, Z3, Z4, Z5, Z6, Z7]
                refine wpAnyH_take (i := 45) (v := ?_) rfl (by kernel_rfl) (by kernel_rfl) (by kernel_rfl) (fun _ _ _ h => h) (Or.inl ⟨by rfl, ?_⟩) hH ?_
                case refine_2 => intro w hSw; go_simp; try with_reducible rfl
                try simp only [Z1, Z2, Z3, Z4, Z5, Z6, Z7]
                refine wpAnyH_take (i := 46) (v := ?_) rfl (by kernel_rfl) (by kernel_rfl) (by kernel_rfl) (fun _ _ _ h => h) (Or.inl ⟨by rfl, ?_⟩) hH ?_
                case refine_2 => intro w hSw; go_simp; try with_reducible rfl
                try simp only [Z1, Z2, Z3, Z4, Z5, Z6, Z7]
                refine wpAnyH_take (i := 47) (v := ?_) rfl (by kernel_rfl) (by kernel_rfl) (by kernel_rfl) (fun _ _ _ h => h) (Or.inl ⟨by rfl, ?_⟩) hH ?_
                case refine_2 => intro w hSw; go_simp; try with_reducible rfl
                try simp only [Z1, Z2, Z3, Z4, Z5, Z6, Z7]
                refine wpAnyH_take (i := 48) (v := undef) rfl (by kernel_rfl) (by kernel_rfl) (by kernel_rfl) (fun _ _ _ h => h) (Or.inr ⟨by rfl, rfl⟩) hH ?_
                try simp only [Z1, Z2, Z3, Z4, Z5, Z6, Z7]
                refine wpAnyH_take (i := 49) (v := undef) rfl (by kernel_rfl) (by kernel_rfl) (by kernel_rfl) (fun _ _ _ h => h) (Or.inr ⟨by rfl, rfl⟩) hH ?_
                try simp only [Z1, Z2, Z3, Z4, Z5, Z6, Z7]
                refine wpAnyH_take (i := 50) (v := undef) rfl (by kernel_rfl) (by kernel_rfl) (by kernel_rfl) (fun _ _ _ h => h) (Or.inr ⟨by rfl, rfl⟩) hH ?_
                try simp only [Z1, Z2, Z3, Z4, Z5, Z6, Z7]
                refine wpAnyH_take (i := 51) (v := undef) rfl (by kernel_rfl) (by kernel_rfl) (by kernel_rfl) (fun _ _ _ h => h) (Or.inr ⟨by rfl, rfl⟩) hH ?_
                try simp only [Z1, Z2, Z3, Z4, Z5, Z6, Z7]
                refine wpAnyH_take (i := 52) (v := undef) rfl (by kernel_rfl) (by kernel_rfl) (by kernel_rfl) (fun _ _ _ h => h) (Or.inr ⟨by rfl, rfl⟩) hH ?_
                try simp only [Z1, Z2, Z3, Z4, Z5, Z6, Z7]
                refine wpAnyH_take (i := 53) (v := ?_) rfl (by kernel_rfl) (by kernel_rfl) (by kernel_rfl) (fun _ _ _ h => h) (Or.inl ⟨by rfl, ?_⟩) hH ?_
                case refine_2 => intro w hSw; go_simp; try with_reducible rfl
                try simp only [Z1, Z2, Z3, Z4, Z5, Z6, Z7]
                refine wpAnyH_done (by kernel_rfl) ?_ _
                refine NoPanic.normal ?_
                go_wp2_with fail
                go_meet
                case rel => exact ⟨_, rfl, HOK, b07⟩
              · have h5i : ¬ (m.index : Int) ≤ (d.commit : Int) := by omega
                by_cases h6 : m.term < m.logTerm
                · have h6i : (m.term : Int) < (m.logTerm : Int) := by omega
                  have HOK : Hid (true = (!properP d m || decide (m.kind ≠ 7) || decide (m.term < d.term) || (decide (m.term = d.term) && decide (d.role = 3)) || decide (m.index ≤ d.commit) || decide (m.term < m.logTerm))) := by show _ = _; rw [← HPP.out, decide_eq_false (fun h => h h1), decide_eq_false h2, decide_eq_true h3, decide_eq_false h4, decide_eq_false h5, decide_eq_true h6]; rfl
                  as_aux_lemma =>
                  clear h1 h2 h3 h4 h5 h6
                  refine wp_region_noPanic ?_
                  have kS : Blk w1.drew g 48 (nodeC (.slice Al d.log.length ec) V M X d) ∧ Blk w1.drew mb 58 #[.int .i64 m.kind, .int .i64 m.frm, .int .i64 m.dst, .int .u64 (m.term : Int), .int .u64 (m.index : Int), .int .u64 (m.logTerm : Int), .int .u64 (m.commit : Int), .slice A m.ents.length c, .bool m.ok, .slice none 0 0] := ⟨N1.blk.drew, km.drew⟩
                  refine wp_region_held_drew (S := (fun Y => Blk Y g 48 (nodeC (.slice Al d.log.length ec) V M X d) ∧ Blk Y mb 58 #[.int .i64 m.kind, .int .i64 m.frm, .int .i64 m.dst, .int .u64 (m.term : Int), .int .u64 (m.index : Int), .int .u64 (m.logTerm : Int), .int .u64 (m.commit : Int), .slice A m.ents.length c, .bool m.ok, .slice none 0 0])) (by kernel_rfl) kS (fun hH => ?_)
                  refine wpAnyH_take (i := 0) (v := ?_) rfl (by kernel_rfl) (by kernel_rfl) (by kernel_rfl) (fun _ _ _ h => h) (Or.inl ⟨by rfl, ?_⟩) hH ?_
                  case refine_2 => intro w hSw; go_simp; try with_reducible rfl
                  try simp only [Z1, Z2, Z4, Z5, Z6, Z7]
                  refine wpAnyH_take (i := 1) (v := ?_) rfl (by kernel_rfl) (by kernel_rfl) (by kernel_rfl) (fun _ _ _ h => h) (Or.inl ⟨by rfl, ?_⟩) hH ?_
                  case refine_2 => intro w hSw; obtain ⟨kw, kb⟩ := hSw; replace kw : Blk w g 48 (nodeC (.slice Al d.log.length ec) V M X d) := kw; replace kb : Blk w mb 58 #[.int .i64 m.kind, .int .i64 m.frm, .int .i64 m.dst, .int .u64 (m.term : Int), .int .u64 (m.index : Int), .int .u64 (m.logTerm : Int), .int .u64 (m.commit : Int), .slice A m.ents.length c, .bool m.ok, .slice none 0 0] := kb; have s0 : w.cell? ⟨_, 0, none⟩ = some (.int .i64 m.kind) := Blk.cell kb 0; have s1 : w.cell? ⟨_, 1, none⟩ = some (.int .i64 m.frm) := Blk.cell kb 1; have s2 : w.cell? ⟨_, 2, none⟩ = some (.int .i64 m.dst) := Blk.cell kb 2; have s3 : w.cell? ⟨_, 3, none⟩ = some (.int .u64 (m.term : Int)) := Blk.cell kb 3; have s4 : w.cell? ⟨_, 4, none⟩ = some (.int .u64 (m.index : Int)) := Blk.cell kb 4; have s5 : w.cell? ⟨_, 5, none⟩ = some (.int .u64 (m.logTerm : Int)) := Blk.cell kb 5; have s6 : w.cell? ⟨_, 6, none⟩ = some (.int .u64 (m.commit : Int)) := Blk.cell kb 6; have s7 : w.cell? ⟨_, 7, none⟩ = some (.slice A m.ents.length c) := Blk.cell kb 7; have s8 : w.cell? ⟨_, 8, none⟩ = some (.bool m.ok) := Blk.cell kb 8; have s9 : w.cell? ⟨_, 9, none⟩ = some (.slice none 0 0) := Blk.cell kb 9; clear kw kb; go_simp; try with_reducible rfl
                  try simp only [Z1, Z2, Z3, Z4, Z5, Z6, Z7]
                  refine wpAnyH_ready (rs := [2]) (by kernel_rfl) (by simp) ?_
                  refine AllReadyH.cons rfl (fun K hK => ?_) AllReadyH.nil
                  go_simp
                  refine (HTP.out w1.drew (N1.below ((Below.refl _ _).drew)) (HM.out.below ((Below.refl _ _).drew))).mono ?_
                  rintro en w7 ⟨rfl, b7⟩
                  have k7 := kS.1.below b7 kS.1.lt
                  have km7 := kS.2.below b7 kS.2.lt
                  have b07 := below_step ((Below.refl w1.heap.size w1).drew) b7
                  clear HTP HM
                  refine hK.out _ _ ⟨k7, km7⟩ (fun hH => ?_)
                  clear hK K
                  try dsimp only
                  try simp only [Z1, Z2, Z3, Z4, Z5, Z6, Z7]
                  refine wpAnyH_take (i := 3) (v := ?_) rfl (by kernel_rfl) (by kernel_rfl) (by kernel_rfl) (fun _ _ _ h => h) (Or.inl ⟨by rfl, ?_⟩) hH ?_
                  case refine_2 => intro w hSw; go_simp; try with_reducible rfl
                  try simp only [Z1, Z2, Z3, Z4, Z5, Z6, Z7]
                  refine wpAnyH_take (i := 4) (v := ?_) rfl (by kernel_rfl) (by kernel_rfl) (by kernel_rfl) (fun _ _ _ h => h) (Or.inl ⟨by rfl, ?_⟩) hH ?_
                  case refine_2 => intro w hSw; go_simp; try with_reducible rfl
                  try simp only [Z1, Z2, Z3, Z4, Z5, Z6, Z7]
                  refine wpAnyH_take (i := 5) (v := ?_) rfl (by kernel_rfl) (by kernel_rfl) (by kernel_rfl) (fun _ _ _ h => h) (Or.inl ⟨by rfl, ?_⟩) hH ?_
                  case refine_2 => intro w hSw; go_simp; try with_reducible rfl
                  try simp only [Z1, Z2, Z3, Z4, Z5, Z6, Z7]
                  refine wpAnyH_take (i := 6) (v := ?_) rfl (by kernel_rfl) (by kernel_rfl) (by kernel_rfl) (fun _ _ _ h => h) (Or.inl ⟨by rfl, ?_⟩) hH ?_
                  case refine_2 => intro w hSw; obtain ⟨kw, kb⟩ := hSw; replace kw : Blk w g 48 (nodeC (.slice Al d.log.length ec) V M X d) := kw; replace kb : Blk w mb 58 #[.int .i64 m.kind, .int .i64 m.frm, .int .i64 m.dst, .int .u64 (m.term : Int), .int .u64 (m.index : Int), .int .u64 (m.logTerm : Int), .int .u64 (m.commit : Int), .slice A m.ents.length c, .bool m.ok, .slice none 0 0] := kb; have s0 : w.cell? ⟨_, 0, none⟩ = some (.int .i64 m.kind) := Blk.cell kb 0; clear kw kb; go_simp; try with_reducible rfl
                  try simp only [Z1, Z2, Z3, Z4, Z5, Z6, Z7]
                  refine wpAnyH_take (i := 7) (v := ?_) rfl (by kernel_rfl) (by kernel_rfl) (by kernel_rfl) (fun _ _ _ h => h) (Or.inl ⟨by rfl, ?_⟩) hH ?_
                  case refine_2 => intro w hSw; go_simp; try with_reducible rfl
                  try simp only [Z1, Z2, Z3, Z4, Z5, Z6, Z7]
                  refine wpAnyH_take (i := 8) (v := ?_) rfl (by kernel_rfl) (by kernel_rfl) (by kernel_rfl) (fun _ _ _ h => h) (Or.inl ⟨by rfl, ?_⟩) hH ?_
                  case refine_2 => intro w hSw; go_simp; try with_reducible rfl
                  try simp only [Z1, Z2, Z3, Z4, Z5, Z6, Z7]
                  refine wpAnyH_take (i := 9) (v := ?_) rfl (by kernel_rfl) (by kernel_rfl) (by kernel_rfl) (fun _ _ _ h => h) (Or.inl ⟨by rfl, ?_⟩) hH ?_
                  case refine_2 => intro w hSw; go_simp; try with_reducible rfl
                  try simp only [Z1, Z2, Z3, Z4, Z5, Z6, Z7]
                  refine wpAnyH_take (i := 10) (v := ?_) rfl (by kernel_rfl) (by kernel_rfl) (by kernel_rfl) (fun _ _ _ h => h) (Or.inl ⟨by rfl, ?_⟩) hH ?_
                  case refine_2 => intro w hSw; go_simp; try with_reducible rfl
                  try simp only [Z1, Z2, Z3, Z4, Z5, Z6, Z7]
                  refine wpAnyH_take (i := 11) (v := ?_) rfl (by kernel_rfl) (by kernel_rfl) (by kernel_rfl) (fun _ _ _ h => h) (Or.inl ⟨by rfl, ?_⟩) hH ?_
                  case refine_2 => intro w hSw; obtain ⟨kw, kb⟩ := hSw; replace kw : Blk w g 48 (nodeC (.slice Al d.log.length ec) V M X d) := kw; replace kb : Blk w mb 58 #[.int .i64 m.kind, .int .i64 m.frm, .int .i64 m.dst, .int .u64 (m.term : Int), .int .u64 (m.index : Int), .int .u64 (m.logTerm : Int), .int .u64 (m.commit : Int), .slice A m.ents.length c, .bool m.ok, .slice none 0 0] := kb; have s3 : w.cell? ⟨_, 3, none⟩ = some (.int .u64 (m.term : Int)) := Blk.cell kb 3; clear kw kb; go_simp; try with_reducible rfl
                  try simp only [Z1, Z2, Z3, Z4, Z5, Z6, Z7]
                  refine wpAnyH_take (i := 12) (v := ?_) rfl (by kernel_rfl) (by kernel_rfl) (by kernel_rfl) (fun _ _ _ h => h) (Or.inl ⟨by rfl, ?_⟩) hH ?_
                  case refine_2 => intro w hSw; go_simp; try with_reducible rfl
                  try simp only [Z1, Z2, Z3, Z4, Z5, Z6, Z7]
                  refine wpAnyH_take (i := 13) (v := ?_) rfl (by kernel_rfl) (by kernel_rfl) (by kernel_rfl) (fun _ _ _ h => h) (Or.inl ⟨by rfl, ?_⟩) hH ?_
                  case refine_2 => intro w hSw; go_simp; try with_reducible rfl
                  try simp only [Z1, Z2, Z3, Z4, Z5, Z6, Z7]
                  refine wpAnyH_take (i := 14) (v := ?_) rfl (by kernel_rfl) (by kernel_rfl) (by kernel_rfl) (fun _ _ _ h => h) (Or.inl ⟨by rfl, ?_⟩) hH ?_
                  case refine_2 => intro w hSw; go_simp; try with_reducible rfl
                  try simp only [Z1, Z2, Z3, Z4, Z5, Z6, Z7]
                  refine wpAnyH_take (i := 15) (v := ?_) rfl (by kernel_rfl) (by kernel_rfl) (by kernel_rfl) (fun _ _ _ h => h) (Or.inl ⟨by rfl, ?_⟩) hH ?_
                  case refine_2 => intro w hSw; go_simp; try with_reducible rfl
                  try simp only [Z1, Z2, Z3, Z4, Z5, Z6, Z7]
                  refine wpAnyH_take (i := 16) (v := ?_) rfl (by kernel_rfl) (by kernel_rfl) (by kernel_rfl) (fun _ _ _ h => h) (Or.inl ⟨by rfl, ?_⟩) hH ?_
                  case refine_2 => intro w hSw; go_simp; try with_reducible rfl
                  try simp only [Z1, Z2, Z3, Z4, Z5, Z6, Z7]
                  refine wpAnyH_take (i := 17) (v := ?_) rfl (by kernel_rfl) (by kernel_rfl) (by kernel_rfl) (fun _ _ _ h => h) (Or.inl ⟨by rfl, ?_⟩) hH ?_
                  case refine_2 => intro w hSw; obtain ⟨kw, kb⟩ := hSw; replace kw : Blk w g 48 (nodeC (.slice Al d.log.length ec) V M X d) := kw; replace kb : Blk w mb 58 #[.int .i64 m.kind, .int .i64 m.frm, .int .i64 m.dst, .int .u64 (m.term : Int), .int .u64 (m.index : Int), .int .u64 (m.logTerm : Int), .int .u64 (m.commit : Int), .slice A m.ents.length c, .bool m.ok, .slice none 0 0] := kb; have n0 : w.cell? ⟨_, 0, none⟩ = some (.int .u64 (d.term : Int)) := Blk.cell kw 0; clear kw kb; go_simp; try with_reducible rfl
                  try simp only [Z1, Z2, Z3, Z4, Z5, Z6, Z7]
                  refine wpAnyH_take (i := 18) (v := ?_) rfl (by kernel_rfl) (by kernel_rfl) (by kernel_rfl) (fun _ _ _ h => h) (Or.inl ⟨by rfl, ?_⟩) hH ?_
                  case refine_2 => intro w hSw; go_simp; try with_reducible rfl
                  try simp only [Z1, Z2, Z3, Z4, Z5, Z6, Z7]
                  refine wpAnyH_take (i := 19) (v := ?_) rfl (by kernel_rfl) (by kernel_rfl) (by kernel_rfl) (fun _ _ _ h => h) (Or.inl ⟨by rfl, ?_⟩) hH ?_
                  case refine_2 => intro w hSw; go_simp; try with_reducible rfl
                  try simp only [Z1, Z2, Z3, Z4, Z5, Z6, Z7]
                  refine wpAnyH_take (i := 20) (v := ?_) rfl (by kernel_rfl) (by kernel_rfl) (by kernel_rfl) (fun _ _ _ h => h) (Or.inl ⟨by rfl, ?_⟩) hH ?_
                  case refine_2 => intro w hSw; go_simp; try with_reducible rfl
                  try simp only [Z1, Z2, Z3, Z4, Z5, Z6, Z7]
                  refine wpAnyH_take (i := 21) (v := ?_) rfl (by kernel_rfl) (by kernel_rfl) (by kernel_rfl) (fun _ _ _ h => h) (Or.inl ⟨by rfl, ?_⟩) hH ?_
                  case refine_2 => intro w hSw; go_simp; try with_reducible rfl
                  try simp only [Z1, Z2, Z3, Z4, Z5, Z6, Z7]
                  refine wpAnyH_take (i := 22) (v := ?_) rfl (by kernel_rfl) (by kernel_rfl) (by kernel_rfl) (fun _ _ _ h => h) (Or.inl ⟨by rfl, ?_⟩) hH ?_
                  case refine_2 => intro w hSw; obtain ⟨kw, kb⟩ := hSw; replace kw : Blk w g 48 (nodeC (.slice Al d.log.length ec) V M X d) := kw; replace kb : Blk w mb 58 #[.int .i64 m.kind, .int .i64 m.frm, .int .i64 m.dst, .int .u64 (m.term : Int), .int .u64 (m.index : Int), .int .u64 (m.logTerm : Int), .int .u64 (m.commit : Int), .slice A m.ents.length c, .bool m.ok, .slice none 0 0] := kb; have s3 : w.cell? ⟨_, 3, none⟩ = some (.int .u64 (m.term : Int)) := Blk.cell kb 3; clear kw kb; go_simp; try with_reducible rfl
                  try simp only [Z1, Z2, Z3, Z4, Z5, Z6, Z7]
                  refine wpAnyH_take (i := 23) (v := ?_) rfl (by kernel_rfl) (by kernel_rfl) (by kernel_rfl) (fun _ _ _ h => h) (Or.inl ⟨by rfl, ?_⟩) hH ?_
                  case refine_2 => intro w hSw; go_simp; try with_reducible rfl
                  try simp only [Z1, Z2, Z3, Z4, Z5, Z6, Z7]
                  refine wpAnyH_take (i := 24) (v := ?_) rfl (by kernel_rfl) (by kernel_rfl) (by kernel_rfl) (fun _ _ _ h => h) (Or.inl ⟨by rfl, ?_⟩) hH ?_
                  case refine_2 => intro w hSw; go_simp; try with_reducible rfl
                  try simp only [Z1, Z2, Z3, Z4, Z5, Z6, Z7]
                  refine wpAnyH_take (i := 25) (v := ?_) rfl (by kernel_rfl) (by kernel_rfl) (by kernel_rfl) (fun _ _ _ h => h) (Or.inl ⟨by rfl, ?_⟩) hH ?_
                  case refine_2 => intro w hSw; go_simp; try with_reducible rfl
                  try simp only [Z1, Z2, Z3, Z4, Z5, Z6, Z7]
                  refine wpAnyH_take (i := 26) (v := ?_) rfl (by kernel_rfl) (by kernel_rfl) (by kernel_rfl) (fun _ _ _ h => h) (Or.inl ⟨by rfl, ?_⟩) hH ?_
                  case refine_2 => intro w hSw; go_simp; try with_reducible rfl
                  try simp only [Z1, Z2, Z3, Z4, Z5, Z6, Z7]
                  refine wpAnyH_take (i := 27) (v := ?_) rfl (by kernel_rfl) (by kernel_rfl) (by kernel_rfl) (fun _ _ _ h => h) (Or.inl ⟨by rfl, ?_⟩) hH ?_
                  case refine_2 => intro w hSw; go_simp; try with_reducible rfl
                  try simp only [Z1, Z2, Z3, Z4, Z5, Z6, Z7]
                  refine wpAnyH_take (i := 28) (v := ?_) rfl (by kernel_rfl) (by kernel_rfl) (by kernel_rfl) (fun _ _ _ h => h) (Or.inl ⟨by rfl, ?_⟩) hH ?_
                  case refine_2 => intro w hSw; obtain ⟨kw, kb⟩ := hSw; replace kw : Blk w g 48 (nodeC (.slice Al d.log.length ec) V M X d) := kw; replace kb : Blk w mb 58 #[.int .i64 m.kind, .int .i64 m.frm, .int .i64 m.dst, .int .u64 (m.term : Int), .int .u64 (m.index : Int), .int .u64 (m.logTerm : Int), .int .u64 (m.commit : Int), .slice A m.ents.length c, .bool m.ok, .slice none 0 0] := kb; have n0 : w.cell? ⟨_, 0, none⟩ = some (.int .u64 (d.term : Int)) := Blk.cell kw 0; clear kw kb; go_simp; try with_reducible rfl
                  try simp only [Z1, Z2, Z3, Z4, Z5, Z6, Z7]
                  refine wpAnyH_take (i := 29) (v := ?_) rfl (by kernel_rfl) (by kernel_rfl) (by kernel_rfl) (fun _ _ _ h => h) (Or.inl ⟨by rfl, ?_⟩) hH ?_
                  case refine_2 => intro w hSw; go_simp; try with_reducible rfl
                  try simp only [Z1, Z2, Z3, Z4, Z5, Z6, Z7]
                  refine wpAnyH_take (i := 30) (v := ?_) rfl (by kernel_rfl) (by kernel_rfl) (by kernel_rfl) (fun _ _ _ h => h) (Or.inl ⟨by rfl, ?_⟩) hH ?_
                  case refine_2 => intro w hSw; go_simp; try with_reducible rfl
                  try simp only [Z1, Z2, Z3, Z4, Z5, Z6, Z7]
                  refine wpAnyH_take (i := 31) (v := ?_) rfl (by kernel_rfl) (by kernel_rfl) (by kernel_rfl) (fun _ _ _ h => h) (Or.inl ⟨by rfl, ?_⟩) hH ?_
                  case refine_2 => intro w hSw; go_simp; try with_reducible rfl
                  try simp only [Z1, Z2, Z3, Z4, Z5, Z6, Z7]
                  refine wpAnyH_take (i := 32) (v := ?_) rfl (by kernel_rfl) (by kernel_rfl) (by kernel_rfl) (fun _ _ _ h => h) (Or.inl ⟨by rfl, ?_⟩) hH ?_
                  case refine_2 => intro w hSw; go_simp; try with_reducible rfl
                  try simp only [Z1, Z2, Z3, Z4, Z5, Z6, Z7]
                  refine wpAnyH_take (i := 33) (v := ?_) rfl (by kernel_rfl) (by kernel_rfl) (by kernel_rfl) (fun _ _ _ h => h) (Or.inl ⟨by rfl, ?_⟩) hH ?_
                  case refine_2 => intro w hSw; go_simp; try with_reducible rfl
                  try simp only [Z1, Z2, Z3, Z4, Z5, Z6, Z7]
                  refine wpAnyH_take (i := 34) (v := ?_) rfl (by kernel_rfl) (by kernel_rfl) (by kernel_rfl) (fun _ _ _ h => h) (Or.inl ⟨by rfl, ?_⟩) hH ?_
                  case refine_2 => intro w hSw; obtain ⟨kw, kb⟩ := hSw; replace kw : Blk w g 48 (nodeC (.slice Al d.log.length ec) V M X d) := kw; replace kb : Blk w mb 58 #[.int .i64 m.kind, .int .i64 m.frm, .int .i64 m.dst, .int .u64 (m.term : Int), .int .u64 (m.index : Int), .int .u64 (m.logTerm : Int), .int .u64 (m.commit : Int), .slice A m.ents.length c, .bool m.ok, .slice none 0 0] := kb; have n8 : w.cell? ⟨_, 8, none⟩ = some (.int .i64 d.role) := Blk.cell kw 8; clear kw kb; go_simp; try with_reducible rfl
                  try simp only [Z1, Z2, Z3, Z4, Z5, Z6, Z7]
                  refine wpAnyH_take (i := 35) (v := ?_) rfl (by kernel_rfl) (by kernel_rfl) (by kernel_rfl) (fun _ _ _ h => h) (Or.inl ⟨by rfl, ?_⟩) hH ?_
                  case refine_2 => intro w hSw; go_simp; try with_reducible rfl
                  try simp only [Z1, Z2, Z3, Z4, Z5, Z6, Z7]
                  refine wpAnyH_take (i := 36) (v := ?_) rfl (by kernel_rfl) (by kernel_rfl) (by kernel_rfl) (fun _ _ _ h => h) (Or.inl ⟨by rfl, ?_⟩) hH ?_
                  case refine_2 => intro w hSw; go_simp; try with_reducible rfl
                  try simp only [Z1, Z2, Z3, Z4, Z5, Z6, Z7]
                  refine wpAnyH_take (i := 37) (v := ?_) rfl (by kernel_rfl) (by kernel_rfl) (by kernel_rfl) (fun _ _ _ h => h) (Or.inl ⟨by rfl, ?_⟩) hH ?_
                  case refine_2 => intro w hSw; go_simp; try with_reducible rfl
                  try simp only [Z1, Z2, Z3, Z4, Z5, Z6, Z7]
                  refine wpAnyH_take (i := 38) (v := ?_) rfl (by kernel_rfl) (by kernel_rfl) (by kernel_rfl) (fun _ _ _ h => h) (Or.inl ⟨by rfl, ?_⟩) hH ?_
                  case refine_2 => intro w hSw; go_simp; try with_reducible rfl
                  try simp only [Z1, Z2, Z3, Z4, Z5, Z6, Z7]
                  refine wpAnyH_take (i := 39) (v := ?_) rfl (by kernel_rfl) (by kernel_rfl) (by kernel_rfl) (fun _ _ _ h => h) (Or.inl ⟨by rfl, ?_⟩) hH ?_
                  case refine_2 => intro w hSw; go_simp; try with_reducible rfl
                  try simp only [Z1, Z2, Z3, Z4, Z5, Z6, Z7]
                  refine wpAnyH_take (i := 40) (v := ?_) rfl (by kernel_rfl) (by kernel_rfl) (by kernel_rfl) (fun _ _ _ h => h) (Or.inl ⟨by rfl, ?_⟩) hH ?_
                  case refine_2 => intro w hSw; obtain ⟨kw, kb⟩ := hSw; replace kw : Blk w g 48 (nodeC (.slice Al d.log.length ec) V M X d) := kw; replace kb : Blk w mb 58 #[.int .i64 m.kind, .int .i64 m.frm, .int .i64 m.dst, .int .u64 (m.term : Int), .int .u64 (m.index : Int), .int .u64 (m.logTerm : Int), .int .u64 (m.commit : Int), .slice A m.ents.length c, .bool m.ok, .slice none 0 0] := kb; have s4 : w.cell? ⟨_, 4, none⟩ = some (.int .u64 (m.index : Int)) := Blk.cell kb 4; clear kw kb; go_simp; try with_reducible rfl
                  try simp only [Z1, Z2, Z3, Z4, Z5, Z6, Z7]
                  refine wpAnyH_take (i := 41) (v := ?_) rfl (by kernel_rfl) (by kernel_rfl) (by kernel_rfl) (fun _ _ _ h => h) (Or.inl ⟨by rfl, ?_⟩) hH ?_
                  case refine_2 => intro w hSw; go_simp; try with_reducible rfl
                  try simp only [Z1, Z2, Z3, Z4, Z5, Z6, Z7]
                  refine wpAnyH_take (i := 42) (v := ?_) rfl (by kernel_rfl) (by kernel_rfl) (by kernel_rfl) (fun _ _ _ h => h) (Or.inl ⟨by rfl, ?_⟩) hH ?_
                  case refine_2 => intro w hSw; go_simp; try with_reducible rfl
                  try simp only [Z1, Z2, Z3, Z4, Z5, Z6, Z7]
                  refine wpAnyH_take (i := 43) (v := ?_) rfl (by kernel_rfl) (by kernel_rfl) (by kernel_rfl) (fun _ _ _ h => h) (Or.inl ⟨by rfl, ?_⟩) hH ?_
                  case refine_2 => intro w hSw; go_simp; try with_reducible rfl
                  try simp only [Z1, Z2, Z3, Z4, Z5, Z6, Z7]
                  refine wpAnyH_take (i := 44) (v := ?_) rfl (by kernel_rfl) (by kernel_rfl) (by kernel_rfl) (fun _ _ _ h => h) (Or.inl ⟨by rfl, ?_⟩) hH ?_
                  case refine_2 => intro w hSw; obtain ⟨kw, kb⟩ := hSw; replace kw : Blk w g 48 (nodeC (.slice Al d.log.length ec) V M X d) := kw; replace kb : Blk w mb 58 #[.int .i64 m.kind, .int .i64 m.frm, .int .i64 m.dst, .int .u64 (m.term : Int), .int .u64 (m.index : Int), .int .u64 (m.logTerm : Int), .int .u64 (m.commit : Int), .slice A m.ents.length c, .bool m.ok, .slice none 0 0] := kb; have n10 : w.cell? ⟨_, 10, none⟩ = some (.int .u64 (d.commit : Int)) := Blk.cell kw 10; clear kw kb; go_simp; try with_reducible rfl
                  try simp only [Z1, Z2, Z3, Z4, Z5, Z6, Z7]
                  refine wpAnyH_take (i := 45) (v := ?_) rfl (by kernel_rfl) (by kernel_rfl) (by kernel_rfl) (fun _ _ _ h => h) (Or.inl ⟨by rfl, ?_⟩) hH ?_
                  case refine_2 => intro w hSw; go_simp; try with_reducible rfl
                  try simp only [Z1, Z2, Z3, Z4, Z5, Z6, Z7]
                  refine wpAnyH_take (i := 46) (v := ?_) rfl (by kernel_rfl) (by kernel_rfl) (by kernel_rfl) (fun _ _ _ h => h) (Or.inl ⟨by rfl, ?_⟩) hH ?_
                  case refine_2 => intro w hSw; go_simp; try with_reducible rfl
                  try simp only [Z1, Z2, Z3, Z4, Z5, Z6, Z7]
                  refine wpAnyH_take (i := 47) (v := ?_) rfl (by kernel_rfl) (by kernel_rfl) (by kernel_rfl) (fun _ _ _ h => h) (Or.inl ⟨by rfl, ?_⟩) hH ?_
                  case refine_2 => intro w hSw; go_simp; try with_reducible rfl
                  try simp only [Z1, Z2, Z3, Z4, Z5, Z6, Z7]
                  refine wpAnyH_take (i := 48) (v := ?_) rfl (by kernel_rfl) (by kernel_rfl) (by kernel_rfl) (fun _ _ _ h => h) (Or.inl ⟨by rfl, ?_⟩) hH ?_
                  case refine_2 => intro w hSw; go_simp; try with_reducible rfl
                  try simp only [Z1, Z2, Z3, Z4, Z5, Z6, Z7]
                  refine wpAnyH_take (i := 49) (v := ?_) rfl (by kernel_rfl) (by kernel_rfl) (by kernel_rfl) (fun _ _ _ h => h) (Or.inl ⟨by rfl, ?_⟩) hH ?_
                  case refine_2 => intro w hSw; obtain ⟨kw, kb⟩ := hSw; replace kw : Blk w g 48 (nodeC (.slice Al d.log.length ec) V M X d) := kw; replace kb : Blk w mb 58 #[.int .i64 m.kind, .int .i64 m.frm, .int .i64 m.dst, .int .u64 (m.term : Int), .int .u64 (m.index : Int), .int .u64 (m.logTerm : Int), .int .u64 (m.commit : Int), .slice A m.ents.length c, .bool m.ok, .slice none 0 0] := kb; have s5 : w.cell? ⟨_, 5, none⟩ = some (.int .u64 (m.logTerm : Int)) := Blk.cell kb 5; clear kw kb; go_simp; try with_reducible rfl
                  try simp only [Z1, Z2, Z3, Z4, Z5, Z6, Z7]
                  refine wpAnyH_take (i := 50) (v := ?_) rfl (by kernel_rfl) (by kernel_rfl) (by kernel_rfl) (fun _ _ _ h => h) (Or.inl ⟨by rfl, ?_⟩) hH ?_
                  case refine_2 => intro w hSw; go_simp; try with_reducible rfl
                  try simp only [Z1, Z2, Z3, Z4, Z5, Z6, Z7]
                  refine wpAnyH_take (i := 51) (v := ?_) rfl (by kernel_rfl) (by kernel_rfl) (by kernel_rfl) (fun _ _ _ h => h) (Or.inl ⟨by rfl, ?_⟩) hH ?_
                  case refine_2 => intro w hSw; obtain ⟨kw, kb⟩ := hSw; replace kw : Blk w g 48 (nodeC (.slice Al d.log.length ec) V M X d) := kw; replace kb : Blk w mb 58 #[.int .i64 m.kind, .int .i64 m.frm, .int .i64 m.dst, .int .u64 (m.term : Int), .int .u64 (m.index : Int), .int .u64 (m.logTerm : Int), .int .u64 (m.commit : Int), .slice A m.ents.length c, .bool m.ok, .slice none 0 0] := kb; have s3 : w.cell? ⟨_, 3, none⟩ = some (.int .u64 (m.term : Int)) := Blk.cell kb 3; clear kw kb; go_simp; try with_reducible rfl
                  try simp only [Z1, Z2, Z3, Z4, Z5, Z6, Z7]
                  refine wpAnyH_take (i := 52) (v := ?_) rfl (by kernel_rfl) (by kernel_rfl) (by kernel_rfl) (fun _ _ _ h => h) (Or.inl ⟨by rfl, ?_⟩) hH ?_
                  case refine_2 => intro w hSw; go_simp; try with_reducible rfl
                  try simp only [Z1, Z2, Z3, Z4, Z5, Z6, Z7]
                  refine wpAnyH_take (i := 53) (v := ?_) rfl (by kernel_rfl) (by kernel_rfl) (by kernel_rfl) (fun _ _ _ h => h) (Or.inl ⟨by rfl, ?_⟩) hH ?_
                  case refine_2 => intro w hSw; go_simp; try with_reducible rfl
                  try simp only [Z1, Z2, Z3, Z4, Z5, Z6, Z7]
                  refine wpAnyH_done (by kernel_rfl) ?_ _
                  refine NoPanic.normal ?_
                  go_wp2_with fail
                  go_meet
                  case rel => exact ⟨_, rfl, HOK, b07⟩
                · have h6i : ¬ (m.term : Int) < (m.logTerm : Int) := by omega
                  have HOK : Hid (false = (!properP d m || decide (m.kind ≠ 7) || decide (m.term < d.term) || (decide (m.term = d.term) && decide (d.role = 3)) || decide (m.index ≤ d.commit) || decide (m.term < m.logTerm))) := by show _ = _; rw [← HPP.out, decide_eq_false (fun h => h h1), decide_eq_false h2, decide_eq_true h3, decide_eq_false h4, decide_eq_false h5, decide_eq_false h6]; rfl
                  as_aux_lemma =>
                  clear h1 h2 h3 h4 h5 h6
                  refine wp_region_noPanic ?_
                  have kS : Blk w1.drew g 48 (nodeC (.slice Al d.log.length ec) V M X d) ∧ Blk w1.drew mb 58 #[.int .i64 m.kind, .int .i64 m.frm, .int .i64 m.dst, .int .u64 (m.term : Int), .int .u64 (m.index : Int), .int .u64 (m.logTerm : Int), .int .u64 (m.commit : Int), .slice A m.ents.length c, .bool m.ok, .slice none 0 0] := ⟨N1.blk.drew, km.drew⟩
                  refine wp_region_held_drew (S := (fun Y => Blk Y g 48 (nodeC (.slice Al d.log.length ec) V M X d) ∧ Blk Y mb 58 #[.int .i64 m.kind, .int .i64 m.frm, .int .i64 m.dst, .int .u64 (m.term : Int), .int .u64 (m.index : Int), .int .u64 (m.logTerm : Int), .int .u64 (m.commit : Int), .slice A m.ents.length c, .bool m.ok, .slice none 0 0])) (by kernel_rfl) kS (fun hH => ?_)
                  refine wpAnyH_take (i := 0) (v := ?_) rfl (by kernel_rfl) (by kernel_rfl) (by kernel_rfl) (fun _ _ _ h => h) (Or.inl ⟨by rfl, ?_⟩) hH ?_
                  case refine_2 => intro w hSw; go_simp; try with_reducible rfl
                  try simp only [Z1, Z2, Z4, Z5, Z6, Z7]
                  refine wpAnyH_take (i := 1) (v := ?_) rfl (by kernel_rfl) (by kernel_rfl) (by kernel_rfl) (fun _ _ _ h => h) (Or.inl ⟨by rfl, ?_⟩) hH ?_
                  case refine_2 => intro w hSw; obtain ⟨kw, kb⟩ := hSw; replace kw : Blk w g 48 (nodeC (.slice Al d.log.length ec) V M X d) := kw; replace kb : Blk w mb 58 #[.int .i64 m.kind, .int .i64 m.frm, .int .i64 m.dst, .int .u64 (m.term : Int), .int .u64 (m.index : Int), .int .u64 (m.logTerm : Int), .int .u64 (m.commit : Int), .slice A m.ents.length c, .bool m.ok, .slice none 0 0] := kb; have s0 : w.cell? ⟨_, 0, none⟩ = some (.int .i64 m.kind) := Blk.cell kb 0; have s1 : w.cell? ⟨_, 1, none⟩ = some (.int .i64 m.frm) := Blk.cell kb 1; have s2 : w.cell? ⟨_, 2, none⟩ = some (.int .i64 m.dst) := Blk.cell kb 2; have s3 : w.cell? ⟨_, 3, none⟩ = some (.int .u64 (m.term : Int)) := Blk.cell kb 3; have s4 : w.cell? ⟨_, 4, none⟩ = some (.int .u64 (m.index : Int)) := Blk.cell kb 4; have s5 : w.cell? ⟨_, 5, none⟩ = some (.int .u64 (m.logTerm : Int)) := Blk.cell kb 5; have s6 : w.cell? ⟨_, 6, none⟩ = some (.int .u64 (m.commit : Int)) := Blk.cell kb 6; have s7 : w.cell? ⟨_, 7, none⟩ = some (.slice A m.ents.length c) := Blk.cell kb 7; have s8 : w.cell? ⟨_, 8, none⟩ = some (.bool m.ok) := Blk.cell kb 8; have s9 : w.cell? ⟨_, 9, none⟩ = some (.slice none 0 0) := Blk.cell kb 9; clear kw kb; go_simp; try with_reducible rfl
                  try simp only [Z1, Z2, Z3, Z4, Z5, Z6, Z7]
                  refine wpAnyH_ready (rs := [2]) (by kernel_rfl) (by simp) ?_
                  refine AllReadyH.cons rfl (fun K hK => ?_) AllReadyH.nil
                  go_simp
                  refine (HTP.out w1.drew (N1.below ((Below.refl _ _).drew)) (HM.out.below ((Below.refl _ _).drew))).mono ?_
                  rintro en w7 ⟨rfl, b7⟩
                  have k7 := kS.1.below b7 kS.1.lt
                  have km7 := kS.2.below b7 kS.2.lt
                  have b07 := below_step ((Below.refl w1.heap.size w1).drew) b7
                  clear HTP HM
                  refine hK.out _ _ ⟨k7, km7⟩ (fun hH => ?_)
                  clear hK K
                  try dsimp only
                  try simp only [Z1, Z2, Z3, Z4, Z5, Z6, Z7]
                  refine wpAnyH_take (i := 3) (v := ?_) rfl (by kernel_rfl) (by kernel_rfl) (by kernel_rfl) (fun _ _ _ h => h) (Or.inl ⟨by rfl, ?_⟩) hH ?_
                  case refine_2 => intro w hSw; go_simp; try with_reducible rfl
                  try simp only [Z1, Z2, Z3, Z4, Z5, Z6, Z7]
                  refine wpAnyH_take (i := 4) (v := ?_) rfl (by kernel_rfl) (by kernel_rfl) (by kernel_rfl) (fun _ _ _ h => h) (Or.inl ⟨by rfl, ?_⟩) hH ?_
                  case refine_2 => intro w hSw; go_simp; try with_reducible rfl
                  try simp only [Z1, Z2, Z3, Z4, Z5, Z6, Z7]
                  refine wpAnyH_take (i := 5) (v := ?_) rfl (by kernel_rfl) (by kernel_rfl) (by kernel_rfl) (fun _ _ _ h => h) (Or.inl ⟨by rfl, ?_⟩) hH ?_
                  case refine_2 => intro w hSw; go_simp; try with_reducible rfl
                  try simp only [Z1, Z2, Z3, Z4, Z5, Z6, Z7]
                  refine wpAnyH_take (i := 6) (v := ?_) rfl (by kernel_rfl) (by kernel_rfl) (by kernel_rfl) (fun _ _ _ h => h) (Or.inl ⟨by rfl, ?_⟩) hH ?_
                  case refine_2 => intro w hSw; obtain ⟨kw, kb⟩ := hSw; replace kw : Blk w g 48 (nodeC (.slice Al d.log.length ec) V M X d) := kw; replace kb : Blk w mb 58 #[.int .i64 m.kind, .int .i64 m.frm, .int .i64 m.dst, .int .u64 (m.term : Int), .int .u64 (m.index : Int), .int .u64 (m.logTerm : Int), .int .u64 (m.commit : Int), .slice A m.ents.length c, .bool m.ok, .slice none 0 0] := kb; have s0 : w.cell? ⟨_, 0, none⟩ = some (.int .i64 m.kind) := Blk.cell kb 0; clear kw kb; go_simp; try with_reducible rfl
                  try simp only [Z1, Z2, Z3, Z4, Z5, Z6, Z7]
                  refine wpAnyH_take (i := 7) (v := ?_) rfl (by kernel_rfl) (by kernel_rfl) (by kernel_rfl) (fun _ _ _ h => h) (Or.inl ⟨by rfl, ?_⟩) hH ?_
                  case refine_2 => intro w hSw; go_simp; try with_reducible rfl
                  try simp only [Z1, Z2, Z3, Z4, Z5, Z6, Z7]
                  refine wpAnyH_take (i := 8) (v := ?_) rfl (by kernel_rfl) (by kernel_rfl) (by kernel_rfl) (fun _ _ _ h => h) (Or.inl ⟨by rfl, ?_⟩) hH ?_
                  case refine_2 => intro w hSw; go_simp; try with_reducible rfl
                  try simp only [Z1, Z2, Z3, Z4, Z5, Z6, Z7]
                  refine wpAnyH_take (i := 9) (v := ?_) rfl (by kernel_rfl) (by kernel_rfl) (by kernel_rfl) (fun _ _ _ h => h) (Or.inl ⟨by rfl, ?_⟩) hH ?_
                  case refine_2 => intro w hSw; go_simp; try with_reducible rfl
                  try simp only [Z1, Z2, Z3, Z4, Z5, Z6, Z7]
                  refine wpAnyH_take (i := 10) (v := ?_) rfl (by kernel_rfl) (by kernel_rfl) (by kernel_rfl) (fun _ _ _ h => h) (Or.inl ⟨by rfl, ?_⟩) hH ?_
                  case refine_2 => intro w hSw; go_simp; try with_reducible rfl
                  try simp only [Z1, Z2, Z3, Z4, Z5, Z6, Z7]
                  refine wpAnyH_take (i := 11) (v := ?_) rfl (by kernel_rfl) (by kernel_rfl) (by kernel_rfl) (fun _ _ _ h => h) (Or.inl ⟨by rfl, ?_⟩) hH ?_
                  case refine_2 => intro w hSw; obtain ⟨kw, kb⟩ := hSw; replace kw : Blk w g 48 (nodeC (.slice Al d.log.length ec) V M X d) := kw; replace kb : Blk w mb 58 #[.int .i64 m.kind, .int .i64 m.frm, .int .i64 m.dst, .int .u64 (m.term : Int), .int .u64 (m.index : Int), .int .u64 (m.logTerm : Int), .int .u64 (m.commit : Int), .slice A m.ents.length c, .bool m.ok, .slice none 0 0] := kb; have s3 : w.cell? ⟨_, 3, none⟩ = some (.int .u64 (m.term : Int)) := Blk.cell kb 3; clear kw kb; go_simp; try with_reducible rfl
                  try simp only [Z1, Z2, Z3, Z4, Z5, Z6, Z7]
                  refine wpAnyH_take (i := 12) (v := ?_) rfl (by kernel_rfl) (by kernel_rfl) (by kernel_rfl) (fun _ _ _ h => h) (Or.inl ⟨by rfl, ?_⟩) hH ?_
                  case refine_2 => intro w hSw; go_simp; try with_reducible rfl
                  try simp only [Z1, Z2, Z3, Z4, Z5, Z6, Z7]
                  refine wpAnyH_take (i := 13) (v := ?_) rfl (by kernel_rfl) (by kernel_rfl) (by kernel_rfl) (fun _ _ _ h => h) (Or.inl ⟨by rfl, ?_⟩) hH ?_
                  case refine_2 => intro w hSw; go_simp; try with_reducible rfl
                  try simp only [Z1, Z2, Z3, Z4, Z5, Z6, Z7]
                  refine wpAnyH_take (i := 14) (v := ?_) rfl (by kernel_rfl) (by kernel_rfl) (by kernel_rfl) (fun _ _ _ h => h) (Or.inl ⟨by rfl, ?_⟩) hH ?_
                  case refine_2 => intro w hSw; go_simp; try with_reducible rfl
                  try simp only [Z1, Z2, Z3, Z4, Z5, Z6, Z7]
                  refine wpAnyH_take (i := 15) (v := ?_) rfl (by kernel_rfl) (by kernel_rfl) (by kernel_rfl) (fun _ _ _ h => h) (Or.inl ⟨by rfl, ?_⟩) hH ?_
                  case refine_2 => intro w hSw; go_simp; try with_reducible rfl
                  try simp only [Z1, Z2, Z3, Z4, Z5, Z6, Z7]
                  refine wpAnyH_take (i := 16) (v := ?_) rfl (by kernel_rfl) (by kernel_rfl) (by kernel_rfl) (fun _ _ _ h => h) (Or.inl ⟨by rfl, ?_⟩) hH ?_
                  case refine_2 => intro w hSw; go_simp; try with_reducible rfl
                  try simp only [Z1, Z2, Z3, Z4, Z5, Z6, Z7]
                  refine wpAnyH_take (i := 17) (v := ?_) rfl (by kernel_rfl) (by kernel_rfl) (by kernel_rfl) (fun _ _ _ h => h) (Or.inl ⟨by rfl, ?_⟩) hH ?_
                  case refine_2 => intro w hSw; obtain ⟨kw, kb⟩ := hSw; replace kw : Blk w g 48 (nodeC (.slice Al d.log.length ec) V M X d) := kw; replace kb : Blk w mb 58 #[.int .i64 m.kind, .int .i64 m.frm, .int .i64 m.dst, .int .u64 (m.term : Int), .int .u64 (m.index : Int), .int .u64 (m.logTerm : Int), .int .u64 (m.commit : Int), .slice A m.ents.length c, .bool m.ok, .slice none 0 0] := kb; have n0 : w.cell? ⟨_, 0, none⟩ = some (.int .u64 (d.term : Int)) := Blk.cell kw 0; clear kw kb; go_simp; try with_reducible rfl
                  try simp only [Z1, Z2, Z3, Z4, Z5, Z6, Z7]
                  refine wpAnyH_take (i := 18) (v := ?_) rfl (by kernel_rfl) (by kernel_rfl) (by kernel_rfl) (fun _ _ _ h => h) (Or.inl ⟨by rfl, ?_⟩) hH ?_
                  case refine_2 => intro w hSw; go_simp; try with_reducible rfl
                  try simp only [Z1, Z2, Z3, Z4, Z5, Z6, Z7]
                  refine wpAnyH_take (i := 19) (v := ?_) rfl (by kernel_rfl) (by kernel_rfl) (by kernel_rfl) (fun _ _ _ h => h) (Or.inl ⟨by rfl, ?_⟩) hH ?_
                  case refine_2 => intro w hSw; go_simp; try with_reducible rfl
                  try simp only [Z1, Z2, Z3, Z4, Z5, Z6, Z7]
                  refine wpAnyH_take (i := 20) (v := ?_) rfl (by kernel_rfl) (by kernel_rfl) (by kernel_rfl) (fun _ _ _ h => h) (Or.inl ⟨by rfl, ?_⟩) hH ?_
                  case refine_2 => intro w hSw; go_simp; try with_reducible rfl
                  try simp only [Z1, Z2, Z3, Z4, Z5, Z6, Z7]
                  refine wpAnyH_take (i := 21) (v := ?_) rfl (by kernel_rfl) (by kernel_rfl) (by kernel_rfl) (fun _ _ _ h => h) (Or.inl ⟨by rfl, ?_⟩) hH ?_
                  case refine_2 => intro w hSw; go_simp; try with_reducible rfl
                  try simp only [Z1, Z2, Z3, Z4, Z5, Z6, Z7]
                  refine wpAnyH_take (i := 22) (v := ?_) rfl (by kernel_rfl) (by kernel_rfl) (by kernel_rfl) (fun _ _ _ h => h) (Or.inl ⟨by rfl, ?_⟩) hH ?_
                  case refine_2 => intro w hSw; obtain ⟨kw, kb⟩ := hSw; replace kw : Blk w g 48 (nodeC (.slice Al d.log.length ec) V M X d) := kw; replace kb : Blk w mb 58 #[.int .i64 m.kind, .int .i64 m.frm, .int .i64 m.dst, .int .u64 (m.term : Int), .int .u64 (m.index : Int), .int .u64 (m.logTerm : Int), .int .u64 (m.commit : Int), .slice A m.ents.length c, .bool m.ok, .slice none 0 0] := kb; have s3 : w.cell? ⟨_, 3, none⟩ = some (.int .u64 (m.term : Int)) := Blk.cell kb 3; clear kw kb; go_simp; try with_reducible rfl
                  try simp only [Z1, Z2, Z3, Z4, Z5, Z6, Z7]
                  refine wpAnyH_take (i := 23) (v := ?_) rfl (by kernel_rfl) (by kernel_rfl) (by kernel_rfl) (fun _ _ _ h => h) (Or.inl ⟨by rfl, ?_⟩) hH ?_
                  case refine_2 => intro w hSw; go_simp; try with_reducible rfl
                  try simp only [Z1, Z2, Z3, Z4, Z5, Z6, Z7]
                  refine wpAnyH_take (i := 24) (v := ?_) rfl (by kernel_rfl) (by kernel_rfl) (by kernel_rfl) (fun _ _ _ h => h) (Or.inl ⟨by rfl, ?_⟩) hH ?_
                  case refine_2 => intro w hSw; go_simp; try with_reducible rfl
                  try simp only [Z1, Z2, Z3, Z4, Z5, Z6, Z7]
                  refine wpAnyH_take (i := 25) (v := ?_) rfl (by kernel_rfl) (by kernel_rfl) (by kernel_rfl) (fun _ _ _ h => h) (Or.inl ⟨by rfl, ?_⟩) hH ?_
                  case refine_2 => intro w hSw; go_simp; try with_reducible rfl
                  try simp only [Z1, Z2, Z3, Z4, Z5, Z6, Z7]
                  refine wpAnyH_take (i := 26) (v := ?_) rfl (by kernel_rfl) (by kernel_rfl) (by kernel_rfl) (fun _ _ _ h => h) (Or.inl ⟨by rfl, ?_⟩) hH ?_
                  case refine_2 => intro w hSw; go_simp; try with_reducible rfl
                  try simp only [Z1, Z2, Z3, Z4, Z5, Z6, Z7]
                  refine wpAnyH_take (i := 27) (v := ?_) rfl (by kernel_rfl) (by kernel_rfl) (by kernel_rfl) (fun _ _ _ h => h) (Or.inl ⟨by rfl, ?_⟩) hH ?_
                  case refine_2 => intro w hSw; go_simp; try with_reducible rfl
                  try simp only [Z1, Z2, Z3, Z4, Z5, Z6, Z7]
                  refine wpAnyH_take (i := 28) (v := ?_) rfl (by kernel_rfl) (by kernel_rfl) (by kernel_rfl) (fun _ _ _ h => h) (Or.inl ⟨by rfl, ?_⟩) hH ?_
                  case refine_2 => intro w hSw; obtain ⟨kw, kb⟩ := hSw; replace kw : Blk w g 48 (nodeC (.slice Al d.log.length ec) V M X d) := kw; replace kb : Blk w mb 58 #[.int .i64 m.kind, .int .i64 m.frm, .int .i64 m.dst, .int .u64 (m.term : Int), .int .u64 (m.index : Int), .int .u64 (m.logTerm : Int), .int .u64 (m.commit : Int), .slice A m.ents.length c, .bool m.ok, .slice none 0 0] := kb; have n0 : w.cell? ⟨_, 0, none⟩ = some (.int .u64 (d.term : Int)) := Blk.cell kw 0; clear kw kb; go_simp; try with_reducible rfl
                  try simp only [Z1, Z2, Z3, Z4, Z5, Z6, Z7]
                  refine wpAnyH_take (i := 29) (v := ?_) rfl (by kernel_rfl) (by kernel_rfl) (by kernel_rfl) (fun _ _ _ h => h) (Or.inl ⟨by rfl, ?_⟩) hH ?_
                  case refine_2 => intro w hSw; go_simp; try with_reducible rfl
                  try simp only [Z1, Z2, Z3, Z4, Z5, Z6, Z7]
                  refine wpAnyH_take (i := 30) (v := ?_) rfl (by kernel_rfl) (by kernel_rfl) (by kernel_rfl) (fun _ _ _ h => h) (Or.inl ⟨by rfl, ?_⟩) hH ?_
                  case refine_2 => intro w hSw; go_simp; try with_reducible rfl
                  try simp only [Z1, Z2, Z3, Z4, Z5, Z6, Z7]
                  refine wpAnyH_take (i := 31) (v := ?_) rfl (by kernel_rfl) (by kernel_rfl) (by kernel_rfl) (fun _ _ _ h => h) (Or.inl ⟨by rfl, ?_⟩) hH ?_
                  case refine_2 => intro w hSw; go_simp; try with_reducible rfl
                  try simp only [Z1, Z2, Z3, Z4, Z5, Z6, Z7]
                  refine wpAnyH_take (i := 32) (v := ?_) rfl (by kernel_rfl) (by kernel_rfl) (by kernel_rfl) (fun _ _ _ h => h) (Or.inl ⟨by rfl, ?_⟩) hH ?_
                  case refine_2 => intro w hSw; go_simp; try with_reducible rfl
                  try simp only [Z1, Z2, Z3, Z4, Z5, Z6, Z7]
                  refine wpAnyH_take (i := 33) (v := ?_) rfl (by kernel_rfl) (by kernel_rfl) (by kernel_rfl) (fun _ _ _ h => h) (Or.inl ⟨by rfl, ?_⟩) hH ?_
                  case refine_2 => intro w hSw; go_simp; try with_reducible rfl
                  try simp only [Z1, Z2, Z3, Z4, Z5, Z6, Z7]
                  refine wpAnyH_take (i := 34) (v := ?_) rfl (by kernel_rfl) (by kernel_rfl) (by kernel_rfl) (fun _ _ _ h => h) (Or.inl ⟨by rfl, ?_⟩) hH ?_
                  case refine_2 => intro w hSw; obtain ⟨kw, kb⟩ := hSw; replace kw : Blk w g 48 (nodeC (.slice Al d.log.length ec) V M X d) := kw; replace kb : Blk w mb 58 #[.int .i64 m.kind, .int .i64 m.frm, .int .i64 m.dst, .int .u64 (m.term : Int), .int .u64 (m.index : Int), .int .u64 (m.logTerm : Int), .int .u64 (m.commit : Int), .slice A m.ents.length c, .bool m.ok, .slice none 0 0] := kb; have n8 : w.cell? ⟨_, 8, none⟩ = some (.int .i64 d.role) := Blk.cell kw 8; clear kw kb; go_simp; try with_reducible rfl
                  try simp only [Z1, Z2, Z3, Z4, Z5, Z6, Z7]
                  refine wpAnyH_take (i := 35) (v := ?_) rfl (by kernel_rfl) (by kernel_rfl) (by kernel_rfl) (fun _ _ _ h => h) (Or.inl ⟨by rfl, ?_⟩) hH ?_
                  case refine_2 => intro w hSw; go_simp; try with_reducible rfl
                  try simp only [Z1, Z2, Z3, Z4, Z5, Z6, Z7]
                  refine wpAnyH_take (i := 36) (v := ?_) rfl (by kernel_rfl) (by kernel_rfl) (by kernel_rfl) (fun _ _ _ h => h) (Or.inl ⟨by rfl, ?_⟩) hH ?_
                  case refine_2 => intro w hSw; go_simp; try with_reducible rfl
                  try simp only [Z1, Z2, Z3, Z4, Z5, Z6, Z7]
                  refine wpAnyH_take (i := 37) (v := ?_) rfl (by kernel_rfl) (by kernel_rfl) (by kernel_rfl) (fun _ _ _ h => h) (Or.inl ⟨by rfl, ?_⟩) hH ?_
                  case refine_2 => intro w hSw; go_simp; try with_reducible rfl
                  try simp only [Z1, Z2, Z3, Z4, Z5, Z6, Z7]
                  refine wpAnyH_take (i := 38) (v := ?_) rfl (by kernel_rfl) (by kernel_rfl) (by kernel_rfl) (fun _ _ _ h => h) (Or.inl ⟨by rfl, ?_⟩) hH ?_
                  case refine_2 => intro w hSw; go_simp; try with_reducible rfl
                  try simp only [Z1, Z2, Z3, Z4, Z5, Z6, Z7]
                  refine wpAnyH_take (i := 39) (v := ?_) rfl (by kernel_rfl) (by kernel_rfl) (by kernel_rfl) (fun _ _ _ h => h) (Or.inl ⟨by rfl, ?_⟩) hH ?_
                  case refine_2 => intro w hSw; go_simp; try with_reducible rfl
                  try simp only [Z1, Z2, Z3, Z4, Z5, Z6, Z7]
                  refine wpAnyH_take (i := 40) (v := ?_) rfl (by kernel_rfl) (by kernel_rfl) (by kernel_rfl) (fun _ _ _ h => h) (Or.inl ⟨by rfl, ?_⟩) hH ?_
                  case refine_2 => intro w hSw; obtain ⟨kw, kb⟩ := hSw; replace kw : Blk w g 48 (nodeC (.slice Al d.log.length ec) V M X d) := kw; replace kb : Blk w mb 58 #[.int .i64 m.kind, .int .i64 m.frm, .int .i64 m.dst, .int .u64 (m.term : Int), .int .u64 (m.index : Int), .int .u64 (m.logTerm : Int), .int .u64 (m.commit : Int), .slice A m.ents.length c, .bool m.ok, .slice none 0 0] := kb; have s4 : w.cell? ⟨_, 4, none⟩ = some (.int .u64 (m.index : Int)) := Blk.cell kb 4; clear kw kb; go_simp; try with_reducible rfl
                  try simp only [Z1, Z2, Z3, Z4, Z5, Z6, Z7]
                  refine wpAnyH_take (i := 41) (v := ?_) rfl (by kernel_rfl) (by kernel_rfl) (by kernel_rfl) (fun _ _ _ h => h) (Or.inl ⟨by rfl, ?_⟩) hH ?_
                  case refine_2 => intro w hSw; go_simp; try with_reducible rfl
                  try simp only [Z1, Z2, Z3, Z4, Z5, Z6, Z7]
                  refine wpAnyH_take (i := 42) (v := ?_) rfl (by kernel_rfl) (by kernel_rfl) (by kernel_rfl) (fun _ _ _ h => h) (Or.inl ⟨by rfl, ?_⟩) hH ?_
                  case refine_2 => intro w hSw; go_simp; try with_reducible rfl
                  try simp only [Z1, Z2, Z3, Z4, Z5, Z6, Z7]
                  refine wpAnyH_take (i := 43) (v := ?_) rfl (by kernel_rfl) (by kernel_rfl) (by kernel_rfl) (fun _ _ _ h => h) (Or.inl ⟨by rfl, ?_⟩) hH ?_
                  case refine_2 => intro w hSw; go_simp; try with_reducible rfl
                  try simp only [Z1, Z2, Z3, Z4, Z5, Z6, Z7]
                  refine wpAnyH_take (i := 44) (v := ?_) rfl (by kernel_rfl) (by kernel_rfl) (by kernel_rfl) (fun _ _ _ h => h) (Or.inl ⟨by rfl, ?_⟩) hH ?_
                  case refine_2 => intro w hSw; obtain ⟨kw, kb⟩ := hSw; replace kw : Blk w g 48 (nodeC (.slice Al d.log.length ec) V M X d) := kw; replace kb : Blk w mb 58 #[.int .i64 m.kind, .int .i64 m.frm, .int .i64 m.dst, .int .u64 (m.term : Int), .int .u64 (m.index : Int), .int .u64 (m.logTerm : Int), .int .u64 (m.commit : Int), .slice A m.ents.length c, .bool m.ok, .slice none 0 0] := kb; have n10 : w.cell? ⟨_, 10, none⟩ = some (.int .u64 (d.commit : Int)) := Blk.cell kw 10; clear kw kb; go_simp; try with_reducible rfl
                  try simp only [Z1, Z2, Z3, Z4, Z5, Z6, Z7]
                  refine wpAnyH_take (i := 45) (v := ?_) rfl (by kernel_rfl) (by kernel_rfl) (by kernel_rfl) (fun _ _ _ h => h) (Or.inl ⟨by rfl, ?_⟩) hH ?_
                  case refine_2 => intro w hSw; go_simp; try with_reducible rfl
                  try simp only [Z1, Z2, Z3, Z4, Z5, Z6, Z7]
                  refine wpAnyH_take (i := 46) (v := ?_) rfl (by kernel_rfl) (by kernel_rfl) (by kernel_rfl) (fun _ _ _ h => h) (Or.inl ⟨by rfl, ?_⟩) hH ?_
                  case refine_2 => intro w hSw; go_simp; try with_reducible rfl
                  try simp only [Z1, Z2, Z3, Z4, Z5, Z6, Z7]
                  refine wpAnyH_take (i := 47) (v := ?_) rfl (by kernel_rfl) (by kernel_rfl) (by kernel_rfl) (fun _ _ _ h => h) (Or.inl ⟨by rfl, ?_⟩) hH ?_
                  case refine_2 => intro w hSw; go_simp; try with_reducible rfl
                  try simp only [Z1, Z2, Z3, Z4, Z5, Z6, Z7]
                  refine wpAnyH_take (i := 48) (v := ?_) rfl (by kernel_rfl) (by kernel_rfl) (by kernel_rfl) (fun _ _ _ h => h) (Or.inl ⟨by rfl, ?_⟩) hH ?_
                  case refine_2 => intro w hSw; go_simp; try with_reducible rfl
                  try simp only [Z1, Z2, Z3, Z4, Z5, Z6, Z7]
                  refine wpAnyH_take (i := 49) (v := ?_) rfl (by kernel_rfl) (by kernel_rfl) (by kernel_rfl) (fun _ _ _ h => h) (Or.inl ⟨by rfl, ?_⟩) hH ?_
                  case refine_2 => intro w hSw; obtain ⟨kw, kb⟩ := hSw; replace kw : Blk w g 48 (nodeC (.slice Al d.log.length ec) V M X d) := kw; replace kb : Blk w mb 58 #[.int .i64 m.kind, .int .i64 m.frm, .int .i64 m.dst, .int .u64 (m.term : Int), .int .u64 (m.index : Int), .int .u64 (m.logTerm : Int), .int .u64 (m.commit : Int), .slice A m.ents.length c, .bool m.ok, .slice none 0 0] := kb; have s5 : w.cell? ⟨_, 5, none⟩ = some (.int .u64 (m.logTerm : Int)) := Blk.cell kb 5; clear kw kb; go_simp; try with_reducible rfl
                  try simp only [Z1, Z2, Z3, Z4, Z5, Z6, Z7]
                  refine wpAnyH_take (i := 50) (v := ?_) rfl (by kernel_rfl) (by kernel_rfl) (by kernel_rfl) (fun _ _ _ h => h) (Or.inl ⟨by rfl, ?_⟩) hH ?_
                  case refine_2 => intro w hSw; go_simp; try with_reducible rfl
                  try simp only [Z1, Z2, Z3, Z4, Z5, Z6, Z7]
                  refine wpAnyH_take (i := 51) (v := ?_) rfl (by kernel_rfl) (by kernel_rfl) (by kernel_rfl) (fun _ _ _ h => h) (Or.inl ⟨by rfl, ?_⟩) hH ?_
                  case refine_2 => intro w hSw; obtain ⟨kw, kb⟩ := hSw; replace kw : Blk w g 48 (nodeC (.slice Al d.log.length ec) V M X d) := kw; replace kb : Blk w mb 58 #[.int .i64 m.kind, .int .i64 m.frm, .int .i64 m.dst, .int .u64 (m.term : Int), .int .u64 (m.index : Int), .int .u64 (m.logTerm : Int), .int .u64 (m.commit : Int), .slice A m.ents.length c, .bool m.ok, .slice none 0 0] := kb; have s3 : w.cell? ⟨_, 3, none⟩ = some (.int .u64 (m.term : Int)) := Blk.cell kb 3; clear kw kb; go_simp; try with_reducible rfl
                  try simp only [Z1, Z2, Z3, Z4, Z5, Z6, Z7]
                  refine wpAnyH_take (i := 52) (v := ?_) rfl (by kernel_rfl) (by kernel_rfl) (by kernel_rfl) (fun _ _ _ h => h) (Or.inl ⟨by rfl, ?_⟩) hH ?_
                  case refine_2 => intro w hSw; go_simp; try with_reducible rfl
                  try simp only [Z1, Z2, Z3, Z4, Z5, Z6, Z7]
                  refine wpAnyH_take (i := 53) (v := ?_) rfl (by kernel_rfl) (by kernel_rfl) (by kernel_rfl) (fun _ _ _ h => h) (Or.inl ⟨by rfl, ?_⟩) hH ?_
                  case refine_2 => intro w hSw; go_simp; try with_reducible rfl
                  try simp only [Z1, Z2, Z3, Z4, Z5, Z6, Z7]
                  refine wpAnyH_done (by kernel_rfl) ?_ _
                  refine NoPanic.normal ?_
                  go_wp2_with fail
                  go_meet
                  case rel => exact ⟨_, rfl, HOK, b07⟩
          · have h3i : ((m.term : Int) == (d.term : Int)) = false := by rw [beq_eq_false_iff_ne]; omega
            by_cases h5 : m.index ≤ d.commit
            · have h5i : (m.index : Int) ≤ (d.commit : Int) := by omega
              have HOK : Hid (true = (!properP d m || decide (m.kind ≠ 7) || decide (m.term < d.term) || (decide (m.term = d.term) && decide (d.role = 3)) || decide (m.index ≤ d.commit) || decide (m.term < m.logTerm))) := by show _ = _; rw [← HPP.out, decide_eq_false (fun h => h h1), decide_eq_false h2, decide_eq_false h3, decide_eq_true h5]; rfl
              as_aux_lemma =>
              clear h1 h2 h3 h5
              refine wp_region_noPanic ?_
              have kS : Blk w1.drew g 48 (nodeC (.slice Al d.log.length ec) V M X d) ∧ Blk w1.drew mb 58 #[.int .i64 m.kind, .int .i64 m.frm, .int .i64 m.dst, .int .u64 (m.term : Int), .int .u64 (m.index : Int), .int .u64 (m.logTerm : Int), .int .u64 (m.commit : Int), .slice A m.ents.length c, .bool m.ok, .slice none 0 0] := ⟨N1.blk.drew, km.drew⟩
              refine wp_region_held_drew (S := (fun Y => Blk Y g 48 (nodeC (.slice Al d.log.length ec) V M X d) ∧ Blk Y mb 58 #[.int .i64 m.kind, .int .i64 m.frm, .int .i64 m.dst, .int .u64 (m.term : Int), .int .u64 (m.index : Int), .int .u64 (m.logTerm : Int), .int .u64 (m.commit : Int), .slice A m.ents.length c, .bool m.ok, .slice none 0 0])) (by kernel_rfl) kS (fun hH => ?_)
              refine wpAnyH_take (i := 0) (v := ?_) rfl (by kernel_rfl) (by kernel_rfl) (by kernel_rfl) (fun _ _ _ h => h) (Or.inl ⟨by rfl, ?_⟩) hH ?_
              case refine_2 => intro w hSw; go_simp; try with_reducible rfl
              try simp only [Z1, Z2, Z4, Z5, Z6, Z7]
              refine wpAnyH_take (i := 1) (v := ?_) rfl (by kernel_rfl) (by kernel_rfl) (by kernel_rfl) (fun _ _ _ h => h) (Or.inl ⟨by rfl, ?_⟩) hH ?_
              case refine_2 => intro w hSw; obtain ⟨kw, kb⟩ := hSw; replace kw : Blk w g 48 (nodeC (.slice Al d.log.length ec) V M X d) := kw; replace kb : Blk w mb 58 #[.int .i64 m.kind, .int .i64 m.frm, .int .i64 m.dst, .int .u64 (m.term : Int), .int .u64 (m.index : Int), .int .u64 (m.logTerm : Int), .int .u64 (m.commit : Int), .slice A m.ents.length c, .bool m.ok, .slice none 0 0] := kb; have s0 : w.cell? ⟨_, 0, none⟩ = some (.int .i64 m.kind) := Blk.cell kb 0; have s1 : w.cell? ⟨_, 1, none⟩ = some (.int .i64 m.frm) := Blk.cell kb 1; have s2 : w.cell? ⟨_, 2, none⟩ = some (.int .i64 m.dst) := Blk.cell kb 2; have s3 : w.cell? ⟨_, 3, none⟩ = some (.int .u64 (m.term : Int)) := Blk.cell kb 3; have s4 : w.cell? ⟨_, 4, none⟩ = some (.int .u64 (m.index : Int)) := Blk.cell kb 4; have s5 : w.cell? ⟨_, 5, none⟩ = some (.int .u64 (m.logTerm : Int)) := Blk.cell kb 5; have s6 : w.cell? ⟨_, 6, none⟩ = some (.int .u64 (m.commit : Int)) := Blk.cell kb 6; have s7 : w.cell? ⟨_, 7, none⟩ = some (.slice A m.ents.length c) := Blk.cell kb 7; have s8 : w.cell? ⟨_, 8, none⟩ = some (.bool m.ok) := Blk.cell kb 8; have s9 : w.cell? ⟨_, 9, none⟩ = some (.slice none 0 0) := Blk.cell kb 9; clear kw kb; go_simp; try with_reducible rfl
              try simp only [Z1, Z2, Z3, Z4, Z5, Z6, Z7]
              refine wpAnyH_ready (rs := [2]) (by kernel_rfl) (by simp) ?_
              refine AllReadyH.cons rfl (fun K hK => ?_) AllReadyH.nil
              go_simp
              refine (HTP.out w1.drew (N1.below ((Below.refl _ _).drew)) (HM.out.below ((Below.refl _ _).drew))).mono ?_
              rintro en w7 ⟨rfl, b7⟩
              have k7 := kS.1.below b7 kS.1.lt
              have km7 := kS.2.below b7 kS.2.lt
              have b07 := below_step ((Below.refl w1.heap.size w1).drew) b7
              clear HTP HM
              refine hK.out _ _ ⟨k7, km7⟩ (fun hH => ?_)
              clear hK K
              try dsimp only
              try simp only [Z1, Z2, Z3, Z4, Z5, Z6, Z7]
              refine wpAnyH_take (i := 3) (v := ?_) rfl (by kernel_rfl) (by kernel_rfl) (by kernel_rfl) (fun _ _ _ h => h) (Or.inl ⟨by rfl, ?_⟩) hH ?_
              case refine_2 => intro w hSw; go_simp; try with_reducible rfl
              try simp only [Z1, Z2, Z3, Z4, Z5, Z6, Z7]
              refine wpAnyH_take (i := 4) (v := ?_) rfl (by kernel_rfl) (by kernel_rfl) (by kernel_rfl) (fun _ _ _ h => h) (Or.inl ⟨by rfl, ?_⟩) hH ?_
              case refine_2 => intro w hSw; go_simp; try with_reducible rfl
              try simp only [Z1, Z2, Z3, Z4, Z5, Z6, Z7]
              refine wpAnyH_take (i := 5) (v := ?_) rfl (by kernel_rfl) (by kernel_rfl) (by kernel_rfl) (fun _ _ _ h => h) (Or.inl ⟨by rfl, ?_⟩) hH ?_
              case refine_2 => intro w hSw; go_simp; try with_reducible rfl
              try simp only [Z1, Z2, Z3, Z4, Z5, Z6, Z7]
              refine wpAnyH_take (i := 6) (v := ?_) rfl (by kernel_rfl) (by kernel_rfl) (by kernel_rfl) (fun _ _ _ h => h) (Or.inl ⟨by rfl, ?_⟩) hH ?_
              case refine_2 => intro w hSw; obtain ⟨kw, kb⟩ := hSw; replace kw : Blk w g 48 (nodeC (.slice Al d.log.length ec) V M X d) := kw; replace kb : Blk w mb 58 #[.int .i64 m.kind, .int .i64 m.frm, .int .i64 m.dst, .int .u64 (m.term : Int), .int .u64 (m.index : Int), .int .u64 (m.logTerm : Int), .int .u64 (m.commit : Int), .slice A m.ents.length c, .bool m.ok, .slice none 0 0] := kb; have s0 : w.cell? ⟨_, 0, none⟩ = some (.int .i64 m.kind) := Blk.cell kb 0; clear kw kb; go_simp; try with_reducible rfl
              try simp only [Z1, Z2, Z3, Z4, Z5, Z6, Z7]
              refine wpAnyH_take (i := 7) (v := ?_) rfl (by kernel_rfl) (by kernel_rfl) (by kernel_rfl) (fun _ _ _ h => h) (Or.inl ⟨by rfl, ?_⟩) hH ?_
              case refine_2 => intro w hSw; go_simp; try with_reducible rfl
              try simp only [Z1, Z2, Z3, Z4, Z5, Z6, Z7]
              refine wpAnyH_take (i := 8) (v := ?_) rfl (by kernel_rfl) (by kernel_rfl) (by kernel_rfl) (fun _ _ _ h => h) (Or.inl ⟨by rfl, ?_⟩) hH ?_
              case refine_2 => intro w hSw; go_simp; try with_reducible rfl
              try simp only [Z1, Z2, Z3, Z4, Z5, Z6, Z7]
              refine wpAnyH_take (i := 9) (v := ?_) rfl (by kernel_rfl) (by kernel_rfl) (by kernel_rfl) (fun _ _ _ h => h) (Or.inl ⟨by rfl, ?_⟩) hH ?_
              case refine_2 => intro w hSw; go_simp; try with_reducible rfl
              try simp only [Z1, Z2, Z3, Z4, Z5, Z6, Z7]
              refine wpAnyH_take (i := 10) (v := ?_) rfl (by kernel_rfl) (by kernel_rfl) (by kernel_rfl) (fun _ _ _ h => h) (Or.inl ⟨by rfl, ?_⟩) hH ?_
              case refine_2 => intro w hSw; go_simp; try with_reducible rfl
              try simp only [Z1, Z2, Z3, Z4, Z5, Z6, Z7]
              refine wpAnyH_take (i := 11) (v := ?_) rfl (by kernel_rfl) (by kernel_rfl) (by kernel_rfl) (fun _ _ _ h => h) (Or.inl ⟨by rfl, ?_⟩) hH ?_
              case refine_2 => intro w hSw; obtain ⟨kw, kb⟩ := hSw; replace kw : Blk w g 48 (nodeC (.slice Al d.log.length ec) V M X d) := kw; replace kb : Blk w mb 58 #[.int .i64 m.kind, .int .i64 m.frm, .int .i64 m.dst, .int .u64 (m.term : Int), .int .u64 (m.index : Int), .int .u64 (m.logTerm : Int), .int .u64 (m.commit : Int), .slice A m.ents.length c, .bool m.ok, .slice none 0 0] := kb; have s3 : w.cell? ⟨_, 3, none⟩ = some (.int .u64 (m.term : Int)) := Blk.cell kb 3; clear kw kb; go_simp; try with_reducible rfl
              try simp only [Z1, Z2, Z3, Z4, Z5, Z6, Z7]
              refine wpAnyH_take (i := 12) (v := ?_) rfl (by kernel_rfl) (by kernel_rfl) (by kernel_rfl) (fun _ _ _ h => h) (Or.inl ⟨by rfl, ?_⟩) hH ?_
              case refine_2 => intro w hSw; go_simp; try with_reducible rfl
              try simp only [Z1, Z2, Z3, Z4, Z5, Z6, Z7]
              refine wpAnyH_take (i := 13) (v := ?_) rfl (by kernel_rfl) (by kernel_rfl) (by kernel_rfl) (fun _ _ _ h => h) (Or.inl ⟨by rfl, ?_⟩) hH ?_
              case refine_2 => intro w hSw; go_simp; try with_reducible rfl
              try simp only [Z1, Z2, Z3, Z4, Z5, Z6, Z7]
              refine wpAnyH_take (i := 14) (v := ?_) rfl (by kernel_rfl) (by kernel_rfl) (by kernel_rfl) (fun _ _ _ h => h) (Or.inl ⟨by rfl, ?_⟩) hH ?_
              case refine_2 => intro w hSw; go_simp; try with_reducible rfl
              try simp only [Z1, Z2, Z3, Z4, Z5, Z6, Z7]
              refine wpAnyH_take (i := 15) (v := ?_) rfl (by kernel_rfl) (by kernel_rfl) (by kernel_rfl) (fun _ _ _ h => h) (Or.inl ⟨by rfl, ?_⟩) hH ?_
              case refine_2 => intro w hSw; go_simp; try with_reducible rfl
              try simp only [Z1, Z2, Z3, Z4, Z5, Z6, Z7]
              refine wpAnyH_take (i := 16) (v := ?_) rfl (by kernel_rfl) (by kernel_rfl) (by kernel_rfl) (fun _ _ _ h => h) (Or.inl ⟨by rfl, ?_⟩) hH ?_
              case refine_2 => intro w hSw; go_simp; try with_reducible rfl
              try simp only [Z1, Z2, Z3, Z4, Z5, Z6, Z7]
              refine wpAnyH_take (i := 17) (v := ?_) rfl (by kernel_rfl) (by kernel_rfl) (by kernel_rfl) (fun _ _ _ h => h) (Or.inl ⟨by rfl, ?_⟩) hH ?_
              case refine_2 => intro w hSw; obtain ⟨kw, kb⟩ := hSw; replace kw : Blk w g 48 (nodeC (.slice Al d.log.length ec) V M X d) := kw; replace kb : Blk w mb 58 #[.int .i64 m.kind, .int .i64 m.frm, .int .i64 m.dst, .int .u64 (m.term : Int), .int .u64 (m.index : Int), .int .u64 (m.logTerm : Int), .int .u64 (m.commit : Int), .slice A m.ents.length c, .bool m.ok, .slice none 0 0] := kb; have n0 : w.cell? ⟨_, 0, none⟩ = some (.int .u64 (d.term : Int)) := Blk.cell kw 0; clear kw kb; go_simp; try with_reducible rfl
              try simp only [Z1, Z2, Z3, Z4, Z5, Z6, Z7]
              refine wpAnyH_take (i := 18) (v := ?_) rfl (by kernel_rfl) (by kernel_rfl) (by kernel_rfl) (fun _ _ _ h => h) (Or.inl ⟨by rfl, ?_⟩) hH ?_
              case refine_2 => intro w hSw; go_simp; try with_reducible rfl
              try simp only [Z1, Z2, Z3, Z4, Z5, Z6, Z7]
              refine wpAnyH_take (i := 19) (v := ?_) rfl (by kernel_rfl) (by kernel_rfl) (by kernel_rfl) (fun _ _ _ h => h) (Or.inl ⟨by rfl, ?_⟩) hH ?_
              case refine_2 => intro w hSw; go_simp; try with_reducible rfl
              try simp only [Z1, Z2, Z3, Z4, Z5, Z6, Z7]
              refine wpAnyH_take (i := 20) (v := ?_) rfl (by kernel_rfl) (by kernel_rfl) (by kernel_rfl) (fun _ _ _ h => h) (Or.inl ⟨by rfl, ?_⟩) hH ?_
              case refine_2 => intro w hSw; go_simp; try with_reducible rfl
              try simp only [Z1, Z2, Z3, Z4, Z5, Z6, Z7]
              refine wpAnyH_take (i := 21) (v := ?_) rfl (by kernel_rfl) (by kernel_rfl) (by kernel_rfl) (fun _ _ _ h => h) (Or.inl ⟨by rfl, ?_⟩) hH ?_
              case refine_2 => intro w hSw; go_simp; try with_reducible rfl
              try simp only [Z1, Z2, Z3, Z4, Z5, Z6, Z7]
              refine wpAnyH_take (i := 22) (v := ?_) rfl (by kernel_rfl) (by kernel_rfl) (by kernel_rfl) (fun _ _ _ h => h) (Or.inl ⟨by rfl, ?_⟩) hH ?_
              case refine_2 => intro w hSw; obtain ⟨kw, kb⟩ := hSw; replace kw : Blk w g 48 (nodeC (.slice Al d.log.length ec) V M X d) := kw; replace kb : Blk w mb 58 #[.int .i64 m.kind, .int .i64 m.frm, .int .i64 m.dst, .int .u64 (m.term : Int), .int .u64 (m.index : Int), .int .u64 (m.logTerm : Int), .int .u64 (m.commit : Int), .slice A m.ents.length c, .bool m.ok, .slice none 0 0] := kb; have s3 : w.cell? ⟨_, 3, none⟩ = some (.int .u64 (m.term : Int)) := Blk.cell kb 3; clear kw kb; go_simp; try with_reducible rfl
              try simp only [Z1, Z2, Z3, Z4, Z5, Z6, Z7]
              refine wpAnyH_take (i := 23) (v := ?_) rfl (by kernel_rfl) (by kernel_rfl) (by kernel_rfl) (fun _ _ _ h => h) (Or.inl ⟨by rfl, ?_⟩) hH ?_
              case refine_2 => intro w hSw; go_simp; try with_reducible rfl
              try simp only [Z1, Z2, Z3, Z4, Z5, Z6, Z7]
              refine wpAnyH_take (i := 24) (v := ?_) rfl (by kernel_rfl) (by kernel_rfl) (by kernel_rfl) (fun _ _ _ h => h) (Or.inl ⟨by rfl, ?_⟩) hH ?_
              case refine_2 => intro w hSw; go_simp; try with_reducible rfl
              try simp only [Z1, Z2, Z3, Z4, Z5, Z6, Z7]
              refine wpAnyH_take (i := 25) (v := ?_) rfl (by kernel_rfl) (by kernel_rfl) (by kernel_rfl) (fun _ _ _ h => h) (Or.inl ⟨by rfl, ?_⟩) hH ?_
              case refine_2 => intro w hSw; go_simp; try with_reducible rfl
              try simp only [Z1, Z2, Z3, Z4, Z5, Z6, Z7]
              refine wpAnyH_take (i := 26) (v := ?_) rfl (by kernel_rfl) (by kernel_rfl) (by kernel_rfl) (fun _ _ _ h => h) (Or.inl ⟨by rfl, ?_⟩) hH ?_
              case refine_2 => intro w hSw; go_simp; try with_reducible rfl
              try simp only [Z1, Z2, Z3, Z4, Z5, Z6, Z7]
              refine wpAnyH_take (i := 27) (v := ?_) rfl (by kernel_rfl) (by kernel_rfl) (by kernel_rfl) (fun _ _ _ h => h) (Or.inl ⟨by rfl, ?_⟩) hH ?_
              case refine_2 => intro w hSw; go_simp; try with_reducible rfl
              try simp only [Z1, Z2, Z3, Z4, Z5, Z6, Z7]
              refine wpAnyH_take (i := 28) (v := ?_) rfl (by kernel_rfl) (by kernel_rfl) (by kernel_rfl) (fun _ _ _ h => h) (Or.inl ⟨by rfl, ?_⟩) hH ?_
              case refine_2 => intro w hSw; obtain ⟨kw, kb⟩ := hSw; replace kw : Blk w g 48 (nodeC (.slice Al d.log.length ec) V M X d) := kw; replace kb : Blk w mb 58 #[.int .i64 m.kind, .int .i64 m.frm, .int .i64 m.dst, .int .u64 (m.term : Int), .int .u64 (m.index : Int), .int .u64 (m.logTerm : Int), .int .u64 (m.commit : Int), .slice A m.ents.length c, .bool m.ok, .slice none 0 0] := kb; have n0 : w.cell? ⟨_, 0, none⟩ = some (.int .u64 (d.term : Int)) := Blk.cell kw 0; clear kw kb; go_simp; try with_reducible rfl
              try simp only [Z1, Z2, Z3, Z4, Z5, Z6, Z7]
              refine wpAnyH_take (i := 29) (v := ?_) rfl (by kernel_rfl) (by kernel_rfl) (by kernel_rfl) (fun _ _ _ h => h) (Or.inl ⟨by rfl, ?_⟩) hH ?_
              case refine_2 => intro w hSw; go_simp; try with_reducible rfl
              try simp only [Z1, Z2, Z3, Z4, Z5, Z6, Z7]
              refine wpAnyH_take (i := 30) (v := ?_) rfl (by kernel_rfl) (by kernel_rfl) (by kernel_rfl) (fun _ _ _ h => h) (Or.inl ⟨by rfl, ?_⟩) hH ?_
              case refine_2 => intro w hSw; go_simp; try with_reducible rfl
              try simp only [Z1, Z2, Z3, Z4, Z5, Z6, Z7]
              refine wpAnyH_take (i := 31) (v := undef) rfl (by kernel_rfl) (by kernel_rfl) (by kernel_rfl) (fun _ _ _ h => h) (Or.inr ⟨by rfl, rfl⟩) hH ?_
              try simp only [Z1, Z2, Z3, Z4, Z5, Z6, Z7]
              refine wpAnyH_take (i := 32) (v := undef) rfl (by kernel_rfl) (by kernel_rfl) (by kernel_rfl) (fun _ _ _ h => h) (Or.inr ⟨by rfl, rfl⟩) hH ?_
              try simp only [Z1, Z2, Z3, Z4, Z5, Z6, Z7]
              refine wpAnyH_take (i := 33) (v := undef) rfl (by kernel_rfl) (by kernel_rfl) (by kernel_rfl) (fun _ _ _ h => h) (Or.inr ⟨by rfl, rfl⟩) hH ?_
              try simp only [Z1, Z2, Z3, Z4, Z5, Z6, Z7]
              refine wpAnyH_take (i := 34) (v := undef) rfl (by kernel_rfl) (by kernel_rfl) (by kernel_rfl) (fun _ _ _ h => h) (Or.inr ⟨by rfl, rfl⟩) hH ?_
              try simp only [Z1, Z2, Z3, Z4, Z5, Z6, Z7]
              refine wpAnyH_take (i := 35) (v := undef) rfl (by kernel_rfl) (by kernel_rfl) (by kernel_rfl) (fun _ _ _ h => h) (Or.inr ⟨by rfl, rfl⟩) hH ?_
              try simp only [Z1, Z2, Z3, Z4, Z5, Z6, Z7]
              refine wpAnyH_take (i := 36) (v := ?_) rfl (by kernel_rfl) (by kernel_rfl) (by kernel_rfl) (fun _ _ _ h => h) (Or.inl ⟨by rfl, ?_⟩) hH ?_
              case refine_2 => intro w hSw; go_simp; try with_reducible rfl
              try simp only [Z1, Z2, Z3, Z4, Z5, Z6, Z7]
              refine wpAnyH_take (i := 37) (v := ?_) rfl (by kernel_rfl) (by kernel_rfl) (by kernel_rfl) (fun _ _ _ h => h) (Or.inl ⟨by rfl, ?_⟩) hH ?_
              case refine_2 => intro w hSw; go_simp; try with_reducible rfl
              try simp only [Z1, Z2, Z3, Z4, Z5, Z6, Z7]
              refine wpAnyH_take (i := 38) (v := ?_) rfl (by kernel_rfl) (by kernel_rfl) (by kernel_rfl) (fun _ _ _ h => h) (Or.inl ⟨by rfl, ?_⟩) hH ?_
              case refine_2 => intro w hSw; go_simp; try with_reducible rfl
              try simp only [Z1, Z2, Z3, Z4, Z5, Z6, Z7]
              refine wpAnyH_take (i := 39) (v := ?_) rfl (by kernel_rfl) (by kernel_rfl) (by kernel_rfl) (fun _ _ _ h => h) (Or.inl ⟨by rfl, ?_⟩) hH ?_
              case refine_2 => intro w hSw; go_simp; try with_reducible rfl
              try simp only [Z1, Z2, Z3, Z4, Z5, Z6, Z7]
              refine wpAnyH_take (i := 40) (v := ?_) rfl (by kernel_rfl) (by kernel_rfl) (by kernel_rfl) (fun _ _ _ h => h) (Or.inl ⟨by rfl, ?_⟩) hH ?_
              case refine_2 => intro w hSw; obtain ⟨kw, kb⟩ := hSw; replace kw : Blk w g 48 (nodeC (.slice Al d.log.length ec) V M X d) := kw; replace kb : Blk w mb 58 #[.int .i64 m.kind, .int .i64 m.frm, .int .i64 m.dst, .int .u64 (m.term : Int), .int .u64 (m.index : Int), .int .u64 (m.logTerm : Int), .int .u64 (m.commit : Int), .slice A m.ents.length c, .bool m.ok, .slice none 0 0] := kb; have s4 : w.cell? ⟨_, 4, none⟩ = some (.int .u64 (m.index : Int)) := Blk.cell kb 4; clear kw kb; go_simp; try with_reducible rfl
              try simp only [Z1, Z2, Z3, Z4, Z5, Z6, Z7]
              refine wpAnyH_take (i := 41) (v := ?_) rfl (by kernel_rfl) (by kernel_rfl) (by kernel_rfl) (fun _ _ _ h => h) (Or.inl ⟨by rfl, ?_⟩) hH ?_
              case refine_2 => intro w hSw; go_simp; try with_reducible rfl
              try simp only [Z1, Z2, Z3, Z4, Z5, Z6, Z7]
              refine wpAnyH_take (i := 42) (v := ?_) rfl (by kernel_rfl) (by kernel_rfl) (by kernel_rfl) (fun _ _ _ h => h) (Or.inl ⟨by rfl, ?_⟩) hH ?_
              case refine_2 => intro w hSw; go_simp; try with_reducible rfl
              try simp only [Z1, Z2, Z3, Z4, Z5, Z6, Z7]
              refine wpAnyH_take (i := 43) (v := ?_) rfl (by kernel_rfl) (by kernel_rfl) (by kernel_rfl) (fun _ _ _ h => h) (Or.inl ⟨by rfl, ?_⟩) hH ?_
              case refine_2 => intro w hSw; go_simp; try with_reducible rfl
              try simp only [Z1, Z2, Z3, Z4, Z5, Z6, Z7]
              refine wpAnyH_take (i := 44) (v := ?_) rfl (by kernel_rfl) (by kernel_rfl) (by kernel_rfl) (fun _ _ _ h => h) (Or.inl ⟨by rfl, ?_⟩) hH ?_
              case refine_2 => intro w hSw; obtain ⟨kw, kb⟩ := hSw; replace kw : Blk w g 48 (nodeC (.slice Al d.log.length ec) V M X d) := kw; replace kb : Blk w mb 58 #[.int .i64 m.kind, .int .i64 m.frm, .int .i64 m.dst, .int .u64 (m.term : Int), .int .u64 (m.index : Int), .int .u64 (m.logTerm : Int), .int .u64 (m.commit : Int), .slice A m.ents.length c, .bool m.ok, .slice none 0 0] := kb; have n10 : w.cell? ⟨_, 10, none⟩ = some (.int .u64 (d.commit : Int)) := Blk.cell kw 10; clear kw kb; go_simp; try with_reducible rfl
              try simp only [Z1, Z2, Z3, Z4, Z5, Z6, Z7]
              refine wpAnyH_take (i := 45) (v := ?_) rfl (by kernel_rfl) (by kernel_rfl) (by kernel_rfl) (fun _ _ _ h => h) (Or.inl ⟨by rfl, ?_⟩) hH ?_
              case refine_2 => intro w hSw; go_simp; try with_reducible rfl
              try simp only [Z1, Z2, Z3, Z4, Z5, Z6, Z7]
              refine wpAnyH_take (i := 46) (v := ?_) rfl (by kernel_rfl) (by kernel_rfl) (by kernel_rfl) (fun _ _ _ h => h) (Or.inl ⟨by rfl, ?_⟩) hH ?_
              case refine_2 => intro w hSw; go_simp; try with_reducible rfl
              try simp only [Z1, Z2, Z3, Z4, Z5, Z6, Z7]
              refine wpAnyH_take (i := 47) (v := ?_) rfl (by kernel_rfl) (by kernel_rfl) (by kernel_rfl) (fun _ _ _ h => h) (Or.inl ⟨by rfl, ?_⟩) hH ?_
              case refine_2 => intro w hSw; go_simp; try with_reducible rfl
              try simp only [Z1, Z2, Z3, Z4, Z5, Z6, Z7]
              refine wpAnyH_take (i := 48) (v := undef) rfl (by kernel_rfl) (by kernel_rfl) (by kernel_rfl) (fun _ _ _ h => h) (Or.inr ⟨by rfl, rfl⟩) hH ?_
              try simp only [Z1, Z2, Z3, Z4, Z5, Z6, Z7]
              refine wpAnyH_take (i := 49) (v := undef) rfl (by kernel_rfl) (by kernel_rfl) (by kernel_rfl) (fun _ _ _ h => h) (Or.inr ⟨by rfl, rfl⟩) hH ?_
              try simp only [Z1, Z2, Z3, Z4, Z5, Z6, Z7]
              refine wpAnyH_take (i := 50) (v := undef) rfl (by kernel_rfl) (by kernel_rfl) (by kernel_rfl) (fun _ _ _ h => h) (Or.inr ⟨by rfl, rfl⟩) hH ?_
              try simp only [Z1, Z2, Z3, Z4, Z5, Z6, Z7]
              refine wpAnyH_take (i := 51) (v := undef) rfl (by kernel_rfl) (by kernel_rfl) (by kernel_rfl) (fun _ _ _ h => h) (Or.inr ⟨by rfl, rfl⟩) hH ?_
              try simp only [Z1, Z2, Z3, Z4, Z5, Z6, Z7]
              refine wpAnyH_take (i := 52) (v := undef) rfl (by kernel_rfl) (by kernel_rfl) (by kernel_rfl) (fun _ _ _ h => h) (Or.inr ⟨by rfl, rfl⟩) hH ?_
              try simp only [Z1, Z2, Z3, Z4, Z5, Z6, Z7]
              refine wpAnyH_take (i := 53) (v := ?_) rfl (by kernel_rfl) (by kernel_rfl) (by kernel_rfl) (fun _ _ _ h => h) (Or.inl ⟨by rfl, ?_⟩) hH ?_
              case refine_2 => intro w hSw; go_simp; try with_reducible rfl
              try simp only [Z1, Z2, Z3, Z4, Z5, Z6, Z7]
              refine wpAnyH_done (by kernel_rfl) ?_ _
              refine NoPanic.normal ?_
              go_wp2_with fail
              go_meet
              case rel => exact ⟨_, rfl, HOK, b07⟩
            · have h5i : ¬ (m.index : Int) ≤ (d.commit : Int) := by omega
              by_cases h6 : m.term < m.logTerm
              · have h6i : (m.term : Int) < (m.logTerm : Int) := by omega
                have HOK : Hid (true = (!properP d m || decide (m.kind ≠ 7) || decide (m.term < d.term) || (decide (m.term = d.term) && decide (d.role = 3)) || decide (m.index ≤ d.commit) || decide (m.term < m.logTerm))) := by show _ = _; rw [← HPP.out, decide_eq_false (fun h => h h1), decide_eq_false h2, decide_eq_false h3, decide_eq_false h5, decide_eq_true h6]; rfl
                as_aux_lemma =>
                clear h1 h2 h3 h5 h6
                refine wp_region_noPanic ?_
                have kS : Blk w1.drew g 48 (nodeC (.slice Al d.log.length ec) V M X d) ∧ Blk w1.drew mb 58 #[.int .i64 m.kind, .int .i64 m.frm, .int .i64 m.dst, .int .u64 (m.term : Int), .int .u64 (m.index : Int), .int .u64 (m.logTerm : Int), .int .u64 (m.commit : Int), .slice A m.ents.length c, .bool m.ok, .slice none 0 0] := ⟨N1.blk.drew, km.drew⟩
                refine wp_region_held_drew (S := (fun Y => Blk Y g 48 (nodeC (.slice Al d.log.length ec) V M X d) ∧ Blk Y mb 58 #[.int .i64 m.kind, .int .i64 m.frm, .int .i64 m.dst, .int .u64 (m.term : Int), .int .u64 (m.index : Int), .int .u64 (m.logTerm : Int), .int .u64 (m.commit : Int), .slice A m.ents.length c, .bool m.ok, .slice none 0 0])) (by kernel_rfl) kS (fun hH => ?_)
                refine wpAnyH_take (i := 0) (v := ?_) rfl (by kernel_rfl) (by kernel_rfl) (by kernel_rfl) (fun _ _ _ h => h) (Or.inl ⟨by rfl, ?_⟩) hH ?_
                case refine_2 => intro w hSw; go_simp; try with_reducible rfl
                try simp only [Z1, Z2, Z4, Z5, Z6, Z7]
                refine wpAnyH_take (i := 1) (v := ?_) rfl (by kernel_rfl) (by kernel_rfl) (by kernel_rfl) (fun _ _ _ h => h) (Or.inl ⟨by rfl, ?_⟩) hH ?_
                case refine_2 => intro w hSw; obtain ⟨kw, kb⟩ := hSw; replace kw : Blk w g 48 (nodeC (.slice Al d.log.length ec) V M X d) := kw; replace kb : Blk w mb 58 #[.int .i64 m.kind, .int .i64 m.frm, .int .i64 m.dst, .int .u64 (m.term : Int), .int .u64 (m.index : Int), .int .u64 (m.logTerm : Int), .int .u64 (m.commit : Int), .slice A m.ents.length c, .bool m.ok, .slice none 0 0] := kb; have s0 : w.cell? ⟨_, 0, none⟩ = some (.int .i64 m.kind) := Blk.cell kb 0; have s1 : w.cell? ⟨_, 1, none⟩ = some (.int .i64 m.frm) := Blk.cell kb 1; have s2 : w.cell? ⟨_, 2, none⟩ = some (.int .i64 m.dst) := Blk.cell kb 2; have s3 : w.cell? ⟨_, 3, none⟩ = some (.int .u64 (m.term : Int)) := Blk.cell kb 3; have s4 : w.cell? ⟨_, 4, none⟩ = some (.int .u64 (m.index : Int)) := Blk.cell kb 4; have s5 : w.cell? ⟨_, 5, none⟩ = some (.int .u64 (m.logTerm : Int)) := Blk.cell kb 5; have s6 : w.cell? ⟨_, 6, none⟩ = some (.int .u64 (m.commit : Int)) := Blk.cell kb 6; have s7 : w.cell? ⟨_, 7, none⟩ = some (.slice A m.ents.length c) := Blk.cell kb 7; have s8 : w.cell? ⟨_, 8, none⟩ = some (.bool m.ok) := Blk.cell kb 8; have s9 : w.cell? ⟨_, 9, none⟩ = some (.slice none 0 0) := Blk.cell kb 9; clear kw kb; go_simp; try with_reducible rfl
                try simp only [Z1, Z2, Z3, Z4, Z5, Z6, Z7]
                refine wpAnyH_ready (rs := [2]) (by kernel_rfl) (by simp) ?_
                refine AllReadyH.cons rfl (fun K hK => ?_) AllReadyH.nil
                go_simp
                refine (HTP.out w1.drew (N1.below ((Below.refl _ _).drew)) (HM.out.below ((Below.refl _ _).drew))).mono ?_
                rintro en w7 ⟨rfl, b7⟩
                have k7 := kS.1.below b7 kS.1.lt
                have km7 := kS.2.below b7 kS.2.lt
                have b07 := below_step ((Below.refl w1.heap.size w1).drew) b7
                clear HTP HM
                refine hK.out _ _ ⟨k7, km7⟩ (fun hH => ?_)
                clear hK K
                try dsimp only
                try simp only [Z1, Z2, Z3, Z4, Z5, Z6, Z7]
                refine wpAnyH_take (i := 3) (v := ?_) rfl (by kernel_rfl) (by kernel_rfl) (by kernel_rfl) (fun _ _ _ h => h) (Or.inl ⟨by rfl, ?_⟩) hH ?_
                case refine_2 => intro w hSw; go_simp; try with_reducible rfl
                try simp only [Z1, Z2, Z3, Z4, Z5, Z6, Z7]
                refine wpAnyH_take (i := 4) (v := ?_) rfl (by kernel_rfl) (by kernel_rfl) (by kernel_rfl) (fun _ _ _ h => h) (Or.inl ⟨by rfl, ?_⟩) hH ?_
                case refine_2 => intro w hSw; go_simp; try with_reducible rfl
                try simp only [Z1, Z2, Z3, Z4, Z5, Z6, Z7]
                refine wpAnyH_take (i := 5) (v := ?_) rfl (by kernel_rfl) (by kernel_rfl) (by kernel_rfl) (fun _ _ _ h => h) (Or.inl ⟨by rfl, ?_⟩) hH ?_
                case refine_2 => intro w hSw; go_simp; try with_reducible rfl
                try simp only [Z1, Z2, Z3, Z4, Z5, Z6, Z7]
                refine wpAnyH_take (i := 6) (v := ?_) rfl (by kernel_rfl) (by kernel_rfl) (by kernel_rfl) (fun _ _ _ h => h) (Or.inl ⟨by rfl, ?_⟩) hH ?_
                case refine_2 => intro w hSw; obtain ⟨kw, kb⟩ := hSw; replace kw : Blk w g 48 (nodeC (.slice Al d.log.length ec) V M X d) := kw; replace kb : Blk w mb 58 #[.int .i64 m.kind, .int .i64 m.frm, .int .i64 m.dst, .int .u64 (m.term : Int), .int .u64 (m.index : Int), .int .u64 (m.logTerm : Int), .int .u64 (m.commit : Int), .slice A m.ents.length c, .bool m.ok, .slice none 0 0] := kb; have s0 : w.cell? ⟨_, 0, none⟩ = some (.int .i64 m.kind) := Blk.cell kb 0; clear kw kb; go_simp; try with_reducible rfl
                try simp only [Z1, Z2, Z3, Z4, Z5, Z6, Z7]
                refine wpAnyH_take (i := 7) (v := ?_) rfl (by kernel_rfl) (by kernel_rfl) (by kernel_rfl) (fun _ _ _ h => h) (Or.inl ⟨by rfl, ?_⟩) hH ?_
                case refine_2 => intro w hSw; go_simp; try with_reducible rfl
                try simp only [Z1, Z2, Z3, Z4, Z5, Z6, Z7]
                refine wpAnyH_take (i := 8) (v := ?_) rfl (by kernel_rfl) (by kernel_rfl) (by kernel_rfl) (fun _ _ _ h => h) (Or.inl ⟨by rfl, ?_⟩) hH ?_
                case refine_2 => intro w hSw; go_simp; try with_reducible rfl
                try simp only [Z1, Z2, Z3, Z4, Z5, Z6, Z7]
                refine wpAnyH_take (i := 9) (v := ?_) rfl (by kernel_rfl) (by kernel_rfl) (by kernel_rfl) (fun _ _ _ h => h) (Or.inl ⟨by rfl, ?_⟩) hH ?_
                case refine_2 => intro w hSw; go_simp; try with_reducible rfl
                try simp only [Z1, Z2, Z3, Z4, Z5, Z6, Z7]
                refine wpAnyH_take (i := 10) (v := ?_) rfl (by kernel_rfl) (by kernel_rfl) (by kernel_rfl) (fun _ _ _ h => h) (Or.inl ⟨by rfl, ?_⟩) hH ?_
                case refine_2 => intro w hSw; go_simp; try with_reducible rfl
                try simp only [Z1, Z2, Z3, Z4, Z5, Z6, Z7]
                refine wpAnyH_take (i := 11) (v := ?_) rfl (by kernel_rfl) (by kernel_rfl) (by kernel_rfl) (fun _ _ _ h => h) (Or.inl ⟨by rfl, ?_⟩) hH ?_
                case refine_2 => intro w hSw; obtain ⟨kw, kb⟩ := hSw; replace kw : Blk w g 48 (nodeC (.slice Al d.log.length ec) V M X d) := kw; replace kb : Blk w mb 58 #[.int .i64 m.kind, .int .i64 m.frm, .int .i64 m.dst, .int .u64 (m.term : Int), .int .u64 (m.index : Int), .int .u64 (m.logTerm : Int), .int .u64 (m.commit : Int), .slice A m.ents.length c, .bool m.ok, .slice none 0 0] := kb; have s3 : w.cell? ⟨_, 3, none⟩ = some (.int .u64 (m.term : Int)) := Blk.cell kb 3; clear kw kb; go_simp; try with_reducible rfl
                try simp only [Z1, Z2, Z3, Z4, Z5, Z6, Z7]
                refine wpAnyH_take (i := 12) (v := ?_) rfl (by kernel_rfl) (by kernel_rfl) (by kernel_rfl) (fun _ _ _ h => h) (Or.inl ⟨by rfl, ?_⟩) hH ?_
                case refine_2 => intro w hSw; go_simp; try with_reducible rfl
                try simp only [Z1, Z2, Z3, Z4, Z5, Z6, Z7]
                refine wpAnyH_take (i := 13) (v := ?_) rfl (by kernel_rfl) (by kernel_rfl) (by kernel_rfl) (fun _ _ _ h => h) (Or.inl ⟨by rfl, ?_⟩) hH ?_
                case refine_2 => intro w hSw; go_simp; try with_reducible rfl
                try simp only [Z1, Z2, Z3, Z4, Z5, Z6, Z7]
                refine wpAnyH_take (i := 14) (v := ?_) rfl (by kernel_rfl) (by kernel_rfl) (by kernel_rfl) (fun _ _ _ h => h) (Or.inl ⟨by rfl, ?_⟩) hH ?_
                case refine_2 => intro w hSw; go_simp; try with_reducible rfl
                try simp only [Z1, Z2, Z3, Z4, Z5, Z6, Z7]
                refine wpAnyH_take (i := 15) (v := ?_) rfl (by kernel_rfl) (by kernel_rfl) (by kernel_rfl) (fun _ _ _ h => h) (Or.inl ⟨by rfl, ?_⟩) hH ?_
                case refine_2 => intro w hSw; go_simp; try with_reducible rfl
                try simp only [Z1, Z2, Z3, Z4, Z5, Z6, Z7]
                refine wpAnyH_take (i := 16) (v := ?_) rfl (by kernel_rfl) (by kernel_rfl) (by kernel_rfl) (fun _ _ _ h => h) (Or.inl ⟨by rfl, ?_⟩) hH ?_
                case refine_2 => intro w hSw; go_simp; try with_reducible rfl
                try simp only [Z1, Z2, Z3, Z4, Z5, Z6, Z7]
                refine wpAnyH_take (i := 17) (v := ?_) rfl (by kernel_rfl) (by kernel_rfl) (by kernel_rfl) (fun _ _ _ h => h) (Or.inl ⟨by rfl, ?_⟩) hH ?_
                case refine_2 => intro w hSw; obtain ⟨kw, kb⟩ := hSw; replace kw : Blk w g 48 (nodeC (.slice Al d.log.length ec) V M X d) := kw; replace kb : Blk w mb 58 #[.int .i64 m.kind, .int .i64 m.frm, .int .i64 m.dst, .int .u64 (m.term : Int), .int .u64 (m.index : Int), .int .u64 (m.logTerm : Int), .int .u64 (m.commit : Int), .slice A m.ents.length c, .bool m.ok, .slice none 0 0] := kb; have n0 : w.cell? ⟨_, 0, none⟩ = some (.int .u64 (d.term : Int)) := Blk.cell kw 0; clear kw kb; go_simp; try with_reducible rfl
                try simp only [Z1, Z2, Z3, Z4, Z5, Z6, Z7]
                refine wpAnyH_take (i := 18) (v := ?_) rfl (by kernel_rfl) (by kernel_rfl) (by kernel_rfl) (fun _ _ _ h => h) (Or.inl ⟨by rfl, ?_⟩) hH ?_
                case refine_2 => intro w hSw; go_simp; try with_reducible rfl
                try simp only [Z1, Z2, Z3, Z4, Z5, Z6, Z7]
                refine wpAnyH_take (i := 19) (v := ?_) rfl (by kernel_rfl) (by kernel_rfl) (by kernel_rfl) (fun _ _ _ h => h) (Or.inl ⟨by rfl, ?_⟩) hH ?_
                case refine_2 => intro w hSw; go_simp; try with_reducible rfl
                try simp only [Z1, Z2, Z3, Z4, Z5, Z6, Z7]
                refine wpAnyH_take (i := 20) (v := ?_) rfl (by kernel_rfl) (by kernel_rfl) (by kernel_rfl) (fun _ _ _ h => h) (Or.inl ⟨by rfl, ?_⟩) hH ?_
                case refine_2 => intro w hSw; go_simp; try with_reducible rfl
                try simp only [Z1, Z2, Z3, Z4, Z5, Z6, Z7]
                refine wpAnyH_take (i := 21) (v := ?_) rfl (by kernel_rfl) (by kernel_rfl) (by kernel_rfl) (fun _ _ _ h => h) (Or.inl ⟨by rfl, ?_⟩) hH ?_
                case refine_2 => intro w hSw; go_simp; try with_reducible rfl
                try simp only [Z1, Z2, Z3, Z4, Z5, Z6, Z7]
                refine wpAnyH_take (i := 22) (v := ?_) rfl (by kernel_rfl) (by kernel_rfl) (by kernel_rfl) (fun _ _ _ h => h) (Or.inl ⟨by rfl, ?_⟩) hH ?_
                case refine_2 => intro w hSw; obtain ⟨kw, kb⟩ := hSw; replace kw : Blk w g 48 (nodeC (.slice Al d.log.length ec) V M X d) := kw; replace kb : Blk w mb 58 #[.int .i64 m.kind, .int .i64 m.frm, .int .i64 m.dst, .int .u64 (m.term : Int), .int .u64 (m.index : Int), .int .u64 (m.logTerm : Int), .int .u64 (m.commit : Int), .slice A m.ents.length c, .bool m.ok, .slice none 0 0] := kb; have s3 : w.cell? ⟨_, 3, none⟩ = some (.int .u64 (m.term : Int)) := Blk.cell kb 3; clear kw kb; go_simp; try with_reducible rfl
                try simp only [Z1, Z2, Z3, Z4, Z5, Z6, Z7]
                refine wpAnyH_take (i := 23) (v := ?_) rfl (by kernel_rfl) (by kernel_rfl) (by kernel_rfl) (fun _ _ _ h => h) (Or.inl ⟨by rfl, ?_⟩) hH ?_
                case refine_2 => intro w hSw; go_simp; try with_reducible rfl
                try simp only [Z1, Z2, Z3, Z4, Z5, Z6, Z7]
                refine wpAnyH_take (i := 24) (v := ?_) rfl (by kernel_rfl) (by kernel_rfl) (by kernel_rfl) (fun _ _ _ h => h) (Or.inl ⟨by rfl, ?_⟩) hH ?_
                case refine_2 => intro w hSw; go_simp; try with_reducible rfl
                try simp only [Z1, Z2, Z3, Z4, Z5, Z6, Z7]
                refine wpAnyH_take (i := 25) (v := ?_) rfl (by kernel_rfl) (by kernel_rfl) (by kernel_rfl) (fun _ _ _ h => h) (Or.inl ⟨by rfl, ?_⟩) hH ?_
                case refine_2 => intro w hSw; go_simp; try with_reducible rfl
                try simp only [Z1, Z2, Z3, Z4, Z5, Z6, Z7]
                refine wpAnyH_take (i := 26) (v := ?_) rfl (by kernel_rfl) (by kernel_rfl) (by kernel_rfl) (fun _ _ _ h => h) (Or.inl ⟨by rfl, ?_⟩) hH ?_
                case refine_2 => intro w hSw; go_simp; try with_reducible rfl
                try simp only [Z1, Z2, Z3, Z4, Z5, Z6, Z7]
                refine wpAnyH_take (i := 27) (v := ?_) rfl (by kernel_rfl) (by kernel_rfl) (by kernel_rfl) (fun _ _ _ h => h) (Or.inl ⟨by rfl, ?_⟩) hH ?_
                case refine_2 => intro w hSw; go_simp; try with_reducible rfl
                try simp only [Z1, Z2, Z3, Z4, Z5, Z6, Z7]
                refine wpAnyH_take (i := 28) (v := ?_) rfl (by kernel_rfl) (by kernel_rfl) (by kernel_rfl) (fun _ _ _ h => h) (Or.inl ⟨by rfl, ?_⟩) hH ?_
                case refine_2 => intro w hSw; obtain ⟨kw, kb⟩ := hSw; replace kw : Blk w g 48 (nodeC (.slice Al d.log.length ec) V M X d) := kw; replace kb : Blk w mb 58 #[.int .i64 m.kind, .int .i64 m.frm, .int .i64 m.dst, .int .u64 (m.term : Int), .int .u64 (m.index : Int), .int .u64 (m.logTerm : Int), .int .u64 (m.commit : Int), .slice A m.ents.length c, .bool m.ok, .slice none 0 0] := kb; have n0 : w.cell? ⟨_, 0, none⟩ = some (.int .u64 (d.term : Int)) := Blk.cell kw 0; clear kw kb; go_simp; try with_reducible rfl
                try simp only [Z1, Z2, Z3, Z4, Z5, Z6, Z7]
                refine wpAnyH_take (i := 29) (v := ?_) rfl (by kernel_rfl) (by kernel_rfl) (by kernel_rfl) (fun _ _ _ h => h) (Or.inl ⟨by rfl, ?_⟩) hH ?_
                case refine_2 => intro w hSw; go_simp; try with_reducible rfl
                try simp only [Z1, Z2, Z3, Z4, Z5, Z6, Z7]
                refine wpAnyH_take (i := 30) (v := ?_) rfl (by kernel_rfl) (by kernel_rfl) (by kernel_rfl) (fun _ _ _ h => h) (Or.inl ⟨by rfl, ?_⟩) hH ?_
                case refine_2 => intro w hSw; go_simp; try with_reducible rfl
                try simp only [Z1, Z2, Z3, Z4, Z5, Z6, Z7]
                refine wpAnyH_take (i := 31) (v := undef) rfl (by kernel_rfl) (by kernel_rfl) (by kernel_rfl) (fun _ _ _ h => h) (Or.inr ⟨by rfl, rfl⟩) hH ?_
                try simp only [Z1, Z2, Z3, Z4, Z5, Z6, Z7]
                refine wpAnyH_take (i := 32) (v := undef) rfl (by kernel_rfl) (by kernel_rfl) (by kernel_rfl) (fun _ _ _ h => h) (Or.inr ⟨by rfl, rfl⟩) hH ?_
                try simp only [Z1, Z2, Z3, Z4, Z5, Z6, Z7]
                refine wpAnyH_take (i := 33) (v := undef) rfl (by kernel_rfl) (by kernel_rfl) (by kernel_rfl) (fun _ _ _ h => h) (Or.inr ⟨by rfl, rfl⟩) hH ?_
                try simp only [Z1, Z2, Z3, Z4, Z5, Z6, Z7]
                refine wpAnyH_take (i := 34) (v := undef) rfl (by kernel_rfl) (by kernel_rfl) (by kernel_rfl) (fun _ _ _ h => h) (Or.inr ⟨by rfl, rfl⟩) hH ?_
                try simp only [Z1, Z2, Z3, Z4, Z5, Z6, Z7]
                refine wpAnyH_take (i := 35) (v := undef) rfl (by kernel_rfl) (by kernel_rfl) (by kernel_rfl) (fun _ _ _ h => h) (Or.inr ⟨by rfl, rfl⟩) hH ?_
                try simp only [Z1, Z2, Z3, Z4, Z5, Z6, Z7]
                refine wpAnyH_take (i := 36) (v := ?_) rfl (by kernel_rfl) (by kernel_rfl) (by kernel_rfl) (fun _ _ _ h => h) (Or.inl ⟨by rfl, ?_⟩) hH ?_
                case refine_2 => intro w hSw; go_simp; try with_reducible rfl
                try simp only [Z1, Z2, Z3, Z4, Z5, Z6, Z7]
                refine wpAnyH_take (i := 37) (v := ?_) rfl (by kernel_rfl) (by kernel_rfl) (by kernel_rfl) (fun _ _ _ h => h) (Or.inl ⟨by rfl, ?_⟩) hH ?_
                case refine_2 => intro w hSw; go_simp; try with_reducible rfl
                try simp only [Z1, Z2, Z3, Z4, Z5, Z6, Z7]
                refine wpAnyH_take (i := 38) (v := ?_) rfl (by kernel_rfl) (by kernel_rfl) (by kernel_rfl) (fun _ _ _ h => h) (Or.inl ⟨by rfl, ?_⟩) hH ?_
                case refine_2 => intro w hSw; go_simp; try with_reducible rfl
                try simp only [Z1, Z2, Z3, Z4, Z5, Z6, Z7]
                refine wpAnyH_take (i := 39) (v := ?_) rfl (by kernel_rfl) (by kernel_rfl) (by kernel_rfl) (fun _ _ _ h => h) (Or.inl ⟨by rfl, ?_⟩) hH ?_
                case refine_2 => intro w hSw; go_simp; try with_reducible rfl
                try simp only [Z1, Z2, Z3, Z4, Z5, Z6, Z7]
                refine wpAnyH_take (i := 40) (v := ?_) rfl (by kernel_rfl) (by kernel_rfl) (by kernel_rfl) (fun _ _ _ h => h) (Or.inl ⟨by rfl, ?_⟩) hH ?_
                case refine_2 => intro w hSw; obtain ⟨kw, kb⟩ := hSw; replace kw : Blk w g 48 (nodeC (.slice Al d.log.length ec) V M X d) := kw; replace kb : Blk w mb 58 #[.int .i64 m.kind, .int .i64 m.frm, .int .i64 m.dst, .int .u64 (m.term : Int), .int .u64 (m.index : Int), .int .u64 (m.logTerm : Int), .int .u64 (m.commit : Int), .slice A m.ents.length c, .bool m.ok, .slice none 0 0] := kb; have s4 : w.cell? ⟨_, 4, none⟩ = some (.int .u64 (m.index : Int)) := Blk.cell kb 4; clear kw kb; go_simp; try with_reducible rfl
                try simp only [Z1, Z2, Z3, Z4, Z5, Z6, Z7]
                refine wpAnyH_take (i := 41) (v := ?_) rfl (by kernel_rfl) (by kernel_rfl) (by kernel_rfl) (fun _ _ _ h => h) (Or.inl ⟨by rfl, ?_⟩) hH ?_
                case refine_2 => intro w hSw; go_simp; try with_reducible rfl
                try simp only [Z1, Z2, Z3, Z4, Z5, Z6, Z7]
                refine wpAnyH_take (i := 42) (v := ?_) rfl (by kernel_rfl) (by kernel_rfl) (by kernel_rfl) (fun _ _ _ h => h) (Or.inl ⟨by rfl, ?_⟩) hH ?_
                case refine_2 => intro w hSw; go_simp; try with_reducible rfl
                try simp only [Z1, Z2, Z3, Z4, Z5, Z6, Z7]
                refine wpAnyH_take (i := 43) (v := ?_) rfl (by kernel_rfl) (by kernel_rfl) (by kernel_rfl) (fun _ _ _ h => h) (Or.inl ⟨by rfl, ?_⟩) hH ?_
                case refine_2 => intro w hSw; go_simp; try with_reducible rfl
                try simp only [Z1, Z2, Z3, Z4, Z5, Z6, Z7]
                refine wpAnyH_take (i := 44) (v := ?_) rfl (by kernel_rfl) (by kernel_rfl) (by kernel_rfl) (fun _ _ _ h => h) (Or.inl ⟨by rfl, ?_⟩) hH ?_
                case refine_2 => intro w hSw; obtain ⟨kw, kb⟩ := hSw; replace kw : Blk w g 48 (nodeC (.slice Al d.log.length ec) V M X d) := kw; replace kb : Blk w mb 58 #[.int .i64 m.kind, .int .i64 m.frm, .int .i64 m.dst, .int .u64 (m.term : Int), .int .u64 (m.index : Int), .int .u64 (m.logTerm : Int), .int .u64 (m.commit : Int), .slice A m.ents.length c, .bool m.ok, .slice none 0 0] := kb; have n10 : w.cell? ⟨_, 10, none⟩ = some (.int .u64 (d.commit : Int)) := Blk.cell kw 10; clear kw kb; go_simp; try with_reducible rfl
                try simp only [Z1, Z2, Z3, Z4, Z5, Z6, Z7]
                refine wpAnyH_take (i := 45) (v := ?_) rfl (by kernel_rfl) (by kernel_rfl) (by kernel_rfl) (fun _ _ _ h => h) (Or.inl ⟨by rfl, ?_⟩) hH ?_
                case refine_2 => intro w hSw; go_simp; try with_reducible rfl
                try simp only [Z1, Z2, Z3, Z4, Z5, Z6, Z7]
                refine wpAnyH_take (i := 46) (v := ?_) rfl (by kernel_rfl) (by kernel_rfl) (by kernel_rfl) (fun _ _ _ h => h) (Or.inl ⟨by rfl, ?_⟩) hH ?_
                case refine_2 => intro w hSw; go_simp; try with_reducible rfl
                try simp only [Z1, Z2, Z3, Z4, Z5, Z6, Z7]
                refine wpAnyH_take (i := 47) (v := ?_) rfl (by kernel_rfl) (by kernel_rfl) (by kernel_rfl) (fun _ _ _ h => h) (Or.inl ⟨by rfl, ?_⟩) hH ?_
                case refine_2 => intro w hSw; go_simp; try with_reducible rfl
                try simp only [Z1, Z2, Z3, Z4, Z5, Z6, Z7]
                refine wpAnyH_take (i := 48) (v := ?_) rfl (by kernel_rfl) (by kernel_rfl) (by kernel_rfl) (fun _ _ _ h => h) (Or.inl ⟨by rfl, ?_⟩) hH ?_
                case refine_2 => intro w hSw; go_simp; try with_reducible rfl
                try simp only [Z1, Z2, Z3, Z4, Z5, Z6, Z7]
                refine wpAnyH_take (i := 49) (v := ?_) rfl (by kernel_rfl) (by kernel_rfl) (by kernel_rfl) (fun _ _ _ h => h) (Or.inl ⟨by rfl, ?_⟩) hH ?_
                case refine_2 => intro w hSw; obtain ⟨kw, kb⟩ := hSw; replace kw : Blk w g 48 (nodeC (.slice Al d.log.length ec) V M X d) := kw; replace kb : Blk w mb 58 #[.int .i64 m.kind, .int .i64 m.frm, .int .i64 m.dst, .int .u64 (m.term : Int), .int .u64 (m.index : Int), .int .u64 (m.logTerm : Int), .int .u64 (m.commit : Int), .slice A m.ents.length c, .bool m.ok, .slice none 0 0] := kb; have s5 : w.cell? ⟨_, 5, none⟩ = some (.int .u64 (m.logTerm : Int)) := Blk.cell kb 5; clear kw kb; go_simp; try with_reducible rfl
                try simp only [Z1, Z2, Z3, Z4, Z5, Z6, Z7]
                refine wpAnyH_take (i := 50) (v := ?_) rfl (by kernel_rfl) (by kernel_rfl) (by kernel_rfl) (fun _ _ _ h => h) (Or.inl ⟨by rfl, ?_⟩) hH ?_
                case refine_2 => intro w hSw; go_simp; try with_reducible rfl
                try simp only [Z1, Z2, Z3, Z4, Z5, Z6, Z7]
                refine wpAnyH_take (i := 51) (v := ?_) rfl (by kernel_rfl) (by kernel_rfl) (by kernel_rfl) (fun _ _ _ h => h) (Or.inl ⟨by rfl, ?_⟩) hH ?_
                case refine_2 => intro w hSw; obtain ⟨kw, kb⟩ := hSw; replace kw : Blk w g 48 (nodeC (.slice Al d.log.length ec) V M X d) := kw; replace kb : Blk w mb 58 #[.int .i64 m.kind, .int .i64 m.frm, .int .i64 m.dst, .int .u64 (m.term : Int), .int .u64 (m.index : Int), .int .u64 (m.logTerm : Int), .int .u64 (m.commit : Int), .slice A m.ents.length c, .bool m.ok, .slice none 0 0] := kb; have s3 : w.cell? ⟨_, 3, none⟩ = some (.int .u64 (m.term : Int)) := Blk.cell kb 3; clear kw kb; go_simp; try with_reducible rfl
                try simp only [Z1, Z2, Z3, Z4, Z5, Z6, Z7]
                refine wpAnyH_take (i := 52) (v := ?_) rfl (by kernel_rfl) (by kernel_rfl) (by kernel_rfl) (fun _ _ _ h => h) (Or.inl ⟨by rfl, ?_⟩) hH ?_
                case refine_2 => intro w hSw; go_simp; try with_reducible rfl
                try simp only [Z1, Z2, Z3, Z4, Z5, Z6, Z7]
                refine wpAnyH_take (i := 53) (v := ?_) rfl (by kernel_rfl) (by kernel_rfl) (by kernel_rfl) (fun _ _ _ h => h) (Or.inl ⟨by rfl, ?_⟩) hH ?_
                case refine_2 => intro w hSw; go_simp; try with_reducible rfl
                try simp only [Z1, Z2, Z3, Z4, Z5, Z6, Z7]
                refine wpAnyH_done (by kernel_rfl) ?_ _
                refine NoPanic.normal ?_
                go_wp2_with fail
                go_meet
                case rel => exact ⟨_, rfl, HOK, b07⟩
              · have h6i : ¬ (m.term : Int) < (m.logTerm : Int) := by omega
                have HOK : Hid (false = (!properP d m || decide (m.kind ≠ 7) || decide (m.term < d.term) || (decide (m.term = d.term) && decide (d.role = 3)) || decide (m.index ≤ d.commit) || decide (m.term < m.logTerm))) := by show _ = _; rw [← HPP.out, decide_eq_false (fun h => h h1), decide_eq_false h2, decide_eq_false h3, decide_eq_false h5, decide_eq_false h6]; rfl
                as_aux_lemma =>
                clear h1 h2 h3 h5 h6
                refine wp_region_noPanic ?_
                have kS : Blk w1.drew g 48 (nodeC (.slice Al d.log.length ec) V M X d) ∧ Blk w1.drew mb 58 #[.int .i64 m.kind, .int .i64 m.frm, .int .i64 m.dst, .int .u64 (m.term : Int), .int .u64 (m.index : Int), .int .u64 (m.logTerm : Int), .int .u64 (m.commit : Int), .slice A m.ents.length c, .bool m.ok, .slice none 0 0] := ⟨N1.blk.drew, km.drew⟩
                refine wp_region_held_drew (S := (fun Y => Blk Y g 48 (nodeC (.slice Al d.log.length ec) V M X d) ∧ Blk Y mb 58 #[.int .i64 m.kind, .int .i64 m.frm, .int .i64 m.dst, .int .u64 (m.term : Int), .int .u64 (m.index : Int), .int .u64 (m.logTerm : Int), .int .u64 (m.commit : Int), .slice A m.ents.length c, .bool m.ok, .slice none 0 0])) (by kernel_rfl) kS (fun hH => ?_)
                refine wpAnyH_take (i := 0) (v := ?_) rfl (by kernel_rfl) (by kernel_rfl) (by kernel_rfl) (fun _ _ _ h => h) (Or.inl ⟨by rfl, ?_⟩) hH ?_
                case refine_2 => intro w hSw; go_simp; try with_reducible rfl
                try simp only [Z1, Z2, Z4, Z5, Z6, Z7]
                refine wpAnyH_take (i := 1) (v := ?_) rfl (by kernel_rfl) (by kernel_rfl) (by kernel_rfl) (fun _ _ _ h => h) (Or.inl ⟨by rfl, ?_⟩) hH ?_
                case refine_2 => intro w hSw; obtain ⟨kw, kb⟩ := hSw; replace kw : Blk w g 48 (nodeC (.slice Al d.log.length ec) V M X d) := kw; replace kb : Blk w mb 58 #[.int .i64 m.kind, .int .i64 m.frm, .int .i64 m.dst, .int .u64 (m.term : Int), .int .u64 (m.index : Int), .int .u64 (m.logTerm : Int), .int .u64 (m.commit : Int), .slice A m.ents.length c, .bool m.ok, .slice none 0 0] := kb; have s0 : w.cell? ⟨_, 0, none⟩ = some (.int .i64 m.kind) := Blk.cell kb 0; have s1 : w.cell? ⟨_, 1, none⟩ = some (.int .i64 m.frm) := Blk.cell kb 1; have s2 : w.cell? ⟨_, 2, none⟩ = some (.int .i64 m.dst) := Blk.cell kb 2; have s3 : w.cell? ⟨_, 3, none⟩ = some (.int .u64 (m.term : Int)) := Blk.cell kb 3; have s4 : w.cell? ⟨_, 4, none⟩ = some (.int .u64 (m.index : Int)) := Blk.cell kb 4; have s5 : w.cell? ⟨_, 5, none⟩ = some (.int .u64 (m.logTerm : Int)) := Blk.cell kb 5; have s6 : w.cell? ⟨_, 6, none⟩ = some (.int .u64 (m.commit : Int)) := Blk.cell kb 6; have s7 : w.cell? ⟨_, 7, none⟩ = some (.slice A m.ents.length c) := Blk.cell kb 7; have s8 : w.cell? ⟨_, 8, none⟩ = some (.bool m.ok) := Blk.cell kb 8; have s9 : w.cell? ⟨_, 9, none⟩ = some (.slice none 0 0) := Blk.cell kb 9; clear kw kb; go_simp; try with_reducible rfl
                try simp only [Z1, Z2, Z3, Z4, Z5, Z6, Z7]
                refine wpAnyH_ready (rs := [2]) (by kernel_rfl) (by simp) ?_
                refine AllReadyH.cons rfl (fun K hK => ?_) AllReadyH.nil
                go_simp
                refine (HTP.out w1.drew (N1.below ((Below.refl _ _).drew)) (HM.out.below ((Below.refl _ _).drew))).mono ?_
                rintro en w7 ⟨rfl, b7⟩
                have k7 := kS.1.below b7 kS.1.lt
                have km7 := kS.2.below b7 kS.2.lt
                have b07 := below_step ((Below.refl w1.heap.size w1).drew) b7
                clear HTP HM
                refine hK.out _ _ ⟨k7, km7⟩ (fun hH => ?_)
                clear hK K
                try dsimp only
                try simp only [Z1, Z2, Z3, Z4, Z5, Z6, Z7]
                refine wpAnyH_take (i := 3) (v := ?_) rfl (by kernel_rfl) (by kernel_rfl) (by kernel_rfl) (fun _ _ _ h => h) (Or.inl ⟨by rfl, ?_⟩) hH ?_
                case refine_2 => intro w hSw; go_simp; try with_reducible rfl
                try simp only [Z1, Z2, Z3, Z4, Z5, Z6, Z7]
                refine wpAnyH_take (i := 4) (v := ?_) rfl (by kernel_rfl) (by kernel_rfl) (by kernel_rfl) (fun _ _ _ h => h) (Or.inl ⟨by rfl, ?_⟩) hH ?_
                case refine_2 => intro w hSw; go_simp; try with_reducible rfl
                try simp only [Z1, Z2, Z3, Z4, Z5, Z6, Z7]
                refine wpAnyH_take (i := 5) (v := ?_) rfl (by kernel_rfl) (by kernel_rfl) (by kernel_rfl) (fun _ _ _ h => h) (Or.inl ⟨by rfl, ?_⟩) hH ?_
                case refine_2 => intro w hSw; go_simp; try with_reducible rfl
                try simp only [Z1, Z2, Z3, Z4, Z5, Z6, Z7]
                refine wpAnyH_take (i := 6) (v := ?_) rfl (by kernel_rfl) (by kernel_rfl) (by kernel_rfl) (fun _ _ _ h => h) (Or.inl ⟨by rfl, ?_⟩) hH ?_
                case refine_2 => intro w hSw; obtain ⟨kw, kb⟩ := hSw; replace kw : Blk w g 48 (nodeC (.slice Al d.log.length ec) V M X d) := kw; replace kb : Blk w mb 58 #[.int .i64 m.kind, .int .i64 m.frm, .int .i64 m.dst, .int .u64 (m.term : Int), .int .u64 (m.index : Int), .int .u64 (m.logTerm : Int), .int .u64 (m.commit : Int), .slice A m.ents.length c, .bool m.ok, .slice none 0 0] := kb; have s0 : w.cell? ⟨_, 0, none⟩ = some (.int .i64 m.kind) := Blk.cell kb 0; clear kw kb; go_simp; try with_reducible rfl
                try simp only [Z1, Z2, Z3, Z4, Z5, Z6, Z7]
                refine wpAnyH_take (i := 7) (v := ?_) rfl (by kernel_rfl) (by kernel_rfl) (by kernel_rfl) (fun _ _ _ h => h) (Or.inl ⟨by rfl, ?_⟩) hH ?_
                case refine_2 => intro w hSw; go_simp; try with_reducible rfl
                try simp only [Z1, Z2, Z3, Z4, Z5, Z6, Z7]
                refine wpAnyH_take (i := 8) (v := ?_) rfl (by kernel_rfl) (by kernel_rfl) (by kernel_rfl) (fun _ _ _ h => h) (Or.inl ⟨by rfl, ?_⟩) hH ?_
                case refine_2 => intro w hSw; go_simp; try with_reducible rfl
                try simp only [Z1, Z2, Z3, Z4, Z5, Z6, Z7]
                refine wpAnyH_take (i := 9) (v := ?_) rfl (by kernel_rfl) (by kernel_rfl) (by kernel_rfl) (fun _ _ _ h => h) (Or.inl ⟨by rfl, ?_⟩) hH ?_
                case refine_2 => intro w hSw; go_simp; try with_reducible rfl
                try simp only [Z1, Z2, Z3, Z4, Z5, Z6, Z7]
                refine wpAnyH_take (i := 10) (v := ?_) rfl (by kernel_rfl) (by kernel_rfl) (by kernel_rfl) (fun _ _ _ h => h) (Or.inl ⟨by rfl, ?_⟩) hH ?_
                case refine_2 => intro w hSw; go_simp; try with_reducible rfl
                try simp only [Z1, Z2, Z3, Z4, Z5, Z6, Z7]
                refine wpAnyH_take (i := 11) (v := ?_) rfl (by kernel_rfl) (by kernel_rfl) (by kernel_rfl) (fun _ _ _ h => h) (Or.inl ⟨by rfl, ?_⟩) hH ?_
                case refine_2 => intro w hSw; obtain ⟨kw, kb⟩ := hSw; replace kw : Blk w g 48 (nodeC (.slice Al d.log.length ec) V M X d) := kw; replace kb : Blk w mb 58 #[.int .i64 m.kind, .int .i64 m.frm, .int .i64 m.dst, .int .u64 (m.term : Int), .int .u64 (m.index : Int), .int .u64 (m.logTerm : Int), .int .u64 (m.commit : Int), .slice A m.ents.length c, .bool m.ok, .slice none 0 0] := kb; have s3 : w.cell? ⟨_, 3, none⟩ = some (.int .u64 (m.term : Int)) := Blk.cell kb 3; clear kw kb; go_simp; try with_reducible rfl
                try simp only [Z1, Z2, Z3, Z4, Z5, Z6, Z7]
                refine wpAnyH_take (i := 12) (v := ?_) rfl (by kernel_rfl) (by kernel_rfl) (by kernel_rfl) (fun _ _ _ h => h) (Or.inl ⟨by rfl, ?_⟩) hH ?_
                case refine_2 => intro w hSw; go_simp; try with_reducible rfl
                try simp only [Z1, Z2, Z3, Z4, Z5, Z6, Z7]
                refine wpAnyH_take (i := 13) (v := ?_) rfl (by kernel_rfl) (by kernel_rfl) (by kernel_rfl) (fun _ _ _ h => h) (Or.inl ⟨by rfl, ?_⟩) hH ?_
                case refine_2 => intro w hSw; go_simp; try with_reducible rfl
                try simp only [Z1, Z2, Z3, Z4, Z5, Z6, Z7]
                refine wpAnyH_take (i := 14) (v := ?_) rfl (by kernel_rfl) (by kernel_rfl) (by kernel_rfl) (fun _ _ _ h => h) (Or.inl ⟨by rfl, ?_⟩) hH ?_
                case refine_2 => intro w hSw; go_simp; try with_reducible rfl
                try simp only [Z1, Z2, Z3, Z4, Z5, Z6, Z7]
                refine wpAnyH_take (i := 15) (v := ?_) rfl (by kernel_rfl) (by kernel_rfl) (by kernel_rfl) (fun _ _ _ h => h) (Or.inl ⟨by rfl, ?_⟩) hH ?_
                case refine_2 => intro w hSw; go_simp; try with_reducible rfl
                try simp only [Z1, Z2, Z3, Z4, Z5, Z6, Z7]
                refine wpAnyH_take (i := 16) (v := ?_) rfl (by kernel_rfl) (by kernel_rfl) (by kernel_rfl) (fun _ _ _ h => h) (Or.inl ⟨by rfl, ?_⟩) hH ?_
                case refine_2 => intro w hSw; go_simp; try with_reducible rfl
                try simp only [Z1, Z2, Z3, Z4, Z5, Z6, Z7]
                refine wpAnyH_take (i := 17) (v := ?_) rfl (by kernel_rfl) (by kernel_rfl) (by kernel_rfl) (fun _ _ _ h => h) (Or.inl ⟨by rfl, ?_⟩) hH ?_
                case refine_2 => intro w hSw; obtain ⟨kw, kb⟩ := hSw; replace kw : Blk w g 48 (nodeC (.slice Al d.log.length ec) V M X d) := kw; replace kb : Blk w mb 58 #[.int .i64 m.kind, .int .i64 m.frm, .int .i64 m.dst, .int .u64 (m.term : Int), .int .u64 (m.index : Int), .int .u64 (m.logTerm : Int), .int .u64 (m.commit : Int), .slice A m.ents.length c, .bool m.ok, .slice none 0 0] := kb; have n0 : w.cell? ⟨_, 0, none⟩ = some (.int .u64 (d.term : Int)) := Blk.cell kw 0; clear kw kb; go_simp; try with_reducible rfl
                try simp only [Z1, Z2, Z3, Z4, Z5, Z6, Z7]
                refine wpAnyH_take (i := 18) (v := ?_) rfl (by kernel_rfl) (by kernel_rfl) (by kernel_rfl) (fun _ _ _ h => h) (Or.inl ⟨by rfl, ?_⟩) hH ?_
                case refine_2 => intro w hSw; go_simp; try with_reducible rfl
                try simp only [Z1, Z2, Z3, Z4, Z5, Z6, Z7]
                refine wpAnyH_take (i := 19) (v := ?_) rfl (by kernel_rfl) (by kernel_rfl) (by kernel_rfl) (fun _ _ _ h => h) (Or.inl ⟨by rfl, ?_⟩) hH ?_
                case refine_2 => intro w hSw; go_simp; try with_reducible rfl
                try simp only [Z1, Z2, Z3, Z4, Z5, Z6, Z7]
                refine wpAnyH_take (i := 20) (v := ?_) rfl (by kernel_rfl) (by kernel_rfl) (by kernel_rfl) (fun _ _ _ h => h) (Or.inl ⟨by rfl, ?_⟩) hH ?_
                case refine_2 => intro w hSw; go_simp; try with_reducible rfl
                try simp only [Z1, Z2, Z3, Z4, Z5, Z6, Z7]
                refine wpAnyH_take (i := 21) (v := ?_) rfl (by kernel_rfl) (by kernel_rfl) (by kernel_rfl) (fun _ _ _ h => h) (Or.inl ⟨by rfl, ?_⟩) hH ?_
                case refine_2 => intro w hSw; go_simp; try with_reducible rfl
                try simp only [Z1, Z2, Z3, Z4, Z5, Z6, Z7]
                refine wpAnyH_take (i := 22) (v := ?_) rfl (by kernel_rfl) (by kernel_rfl) (by kernel_rfl) (fun _ _ _ h => h) (Or.inl ⟨by rfl, ?_⟩) hH ?_
                case refine_2 => intro w hSw; obtain ⟨kw, kb⟩ := hSw; replace kw : Blk w g 48 (nodeC (.slice Al d.log.length ec) V M X d) := kw; replace kb : Blk w mb 58 #[.int .i64 m.kind, .int .i64 m.frm, .int .i64 m.dst, .int .u64 (m.term : Int), .int .u64 (m.index : Int), .int .u64 (m.logTerm : Int), .int .u64 (m.commit : Int), .slice A m.ents.length c, .bool m.ok, .slice none 0 0] := kb; have s3 : w.cell? ⟨_, 3, none⟩ = some (.int .u64 (m.term : Int)) := Blk.cell kb 3; clear kw kb; go_simp; try with_reducible rfl
                try simp only [Z1, Z2, Z3, Z4, Z5, Z6, Z7]
                refine wpAnyH_take (i := 23) (v := ?_) rfl (by kernel_rfl) (by kernel_rfl) (by kernel_rfl) (fun _ _ _ h => h) (Or.inl ⟨by rfl, ?_⟩) hH ?_
                case refine_2 => intro w hSw; go_simp; try with_reducible rfl
                try simp only [Z1, Z2, Z3, Z4, Z5, Z6, Z7]
                refine wpAnyH_take (i := 24) (v := ?_) rfl (by kernel_rfl) (by kernel_rfl) (by kernel_rfl) (fun _ _ _ h => h) (Or.inl ⟨by rfl, ?_⟩) hH ?_
                case refine_2 => intro w hSw; go_simp; try with_reducible rfl
                try simp only [Z1, Z2, Z3, Z4, Z5, Z6, Z7]
                refine wpAnyH_take (i := 25) (v := ?_) rfl (by kernel_rfl) (by kernel_rfl) (by kernel_rfl) (fun _ _ _ h => h) (Or.inl ⟨by rfl, ?_⟩) hH ?_
                case refine_2 => intro w hSw; go_simp; try with_reducible rfl
                try simp only [Z1, Z2, Z3, Z4, Z5, Z6, Z7]
                refine wpAnyH_take (i := 26) (v := ?_) rfl (by kernel_rfl) (by kernel_rfl) (by kernel_rfl) (fun _ _ _ h => h) (Or.inl ⟨by rfl, ?_⟩) hH ?_
                case refine_2 => intro w hSw; go_simp; try with_reducible rfl
                try simp only [Z1, Z2, Z3, Z4, Z5, Z6, Z7]
                refine wpAnyH_take (i := 27) (v := ?_) rfl (by kernel_rfl) (by kernel_rfl) (by kernel_rfl) (fun _ _ _ h => h) (Or.inl ⟨by rfl, ?_⟩) hH ?_
                case refine_2 => intro w hSw; go_simp; try with_reducible rfl
                try simp only [Z1, Z2, Z3, Z4, Z5, Z6, Z7]
                refine wpAnyH_take (i := 28) (v := ?_) rfl (by kernel_rfl) (by kernel_rfl) (by kernel_rfl) (fun _ _ _ h => h) (Or.inl ⟨by rfl, ?_⟩) hH ?_
                case refine_2 => intro w hSw; obtain ⟨kw, kb⟩ := hSw; replace kw : Blk w g 48 (nodeC (.slice Al d.log.length ec) V M X d) := kw; replace kb : Blk w mb 58 #[.int .i64 m.kind, .int .i64 m.frm, .int .i64 m.dst, .int .u64 (m.term : Int), .int .u64 (m.index : Int), .int .u64 (m.logTerm : Int), .int .u64 (m.commit : Int), .slice A m.ents.length c, .bool m.ok, .slice none 0 0] := kb; have n0 : w.cell? ⟨_, 0, none⟩ = some (.int .u64 (d.term : Int)) := Blk.cell kw 0; clear kw kb; go_simp; try with_reducible rfl
                try simp only [Z1, Z2, Z3, Z4, Z5, Z6, Z7]
                refine wpAnyH_take (i := 29) (v := ?_) rfl (by kernel_rfl) (by kernel_rfl) (by kernel_rfl) (fun _ _ _ h => h) (Or.inl ⟨by rfl, ?_⟩) hH ?_
                case refine_2 => intro w hSw; go_simp; try with_reducible rfl
                try simp only [Z1, Z2, Z3, Z4, Z5, Z6, Z7]
                refine wpAnyH_take (i := 30) (v := ?_) rfl (by kernel_rfl) (by kernel_rfl) (by kernel_rfl) (fun _ _ _ h => h) (Or.inl ⟨by rfl, ?_⟩) hH ?_
                case refine_2 => intro w hSw; go_simp; try with_reducible rfl
                try simp only [Z1, Z2, Z3, Z4, Z5, Z6, Z7]
                refine wpAnyH_take (i := 31) (v := undef) rfl (by kernel_rfl) (by kernel_rfl) (by kernel_rfl) (fun _ _ _ h => h) (Or.inr ⟨by rfl, rfl⟩) hH ?_
                try simp only [Z1, Z2, Z3, Z4, Z5, Z6, Z7]
                refine wpAnyH_take (i := 32) (v := undef) rfl (by kernel_rfl) (by kernel_rfl) (by kernel_rfl) (fun _ _ _ h => h) (Or.inr ⟨by rfl, rfl⟩) hH ?_
                try simp only [Z1, Z2, Z3, Z4, Z5, Z6, Z7]
                refine wpAnyH_take (i := 33) (v := undef) rfl (by kernel_rfl) (by kernel_rfl) (by kernel_rfl) (fun _ _ _ h => h) (Or.inr ⟨by rfl, rfl⟩) hH ?_
                try simp only [Z1, Z2, Z3, Z4, Z5, Z6, Z7]
                refine wpAnyH_take (i := 34) (v := undef) rfl (by kernel_rfl) (by kernel_rfl) (by kernel_rfl) (fun _ _ _ h => h) (Or.inr ⟨by rfl, rfl⟩) hH ?_
                try simp only [Z1, Z2, Z3, Z4, Z5, Z6, Z7]
                refine wpAnyH_take (i := 35) (v := undef) rfl (by kernel_rfl) (by kernel_rfl) (by kernel_rfl) (fun _ _ _ h => h) (Or.inr ⟨by rfl, rfl⟩) hH ?_
                try simp only [Z1, Z2, Z3, Z4, Z5, Z6, Z7]
                refine wpAnyH_take (i := 36) (v := ?_) rfl (by kernel_rfl) (by kernel_rfl) (by kernel_rfl) (fun _ _ _ h => h) (Or.inl ⟨by rfl, ?_⟩) hH ?_
                case refine_2 => intro w hSw; go_simp; try with_reducible rfl
                try simp only [Z1, Z2, Z3, Z4, Z5, Z6, Z7]
                refine wpAnyH_take (i := 37) (v := ?_) rfl (by kernel_rfl) (by kernel_rfl) (by kernel_rfl) (fun _ _ _ h => h) (Or.inl ⟨by rfl, ?_⟩) hH ?_
                case refine_2 => intro w hSw; go_simp; try with_reducible rfl
                try simp only [Z1, Z2, Z3, Z4, Z5, Z6, Z7]
                refine wpAnyH_take (i := 38) (v := ?_) rfl (by kernel_rfl) (by kernel_rfl) (by kernel_rfl) (fun _ _ _ h => h) (Or.inl ⟨by rfl, ?_⟩) hH ?_
                case refine_2 => intro w hSw; go_simp; try with_reducible rfl
                try simp only [Z1, Z2, Z3, Z4, Z5, Z6, Z7]
                refine wpAnyH_take (i := 39) (v := ?_) rfl (by kernel_rfl) (by kernel_rfl) (by kernel_rfl) (fun _ _ _ h => h) (Or.inl ⟨by rfl, ?_⟩) hH ?_
                case refine_2 => intro w hSw; go_simp; try with_reducible rfl
                try simp only [Z1, Z2, Z3, Z4, Z5, Z6, Z7]
                refine wpAnyH_take (i := 40) (v := ?_) rfl (by kernel_rfl) (by kernel_rfl) (by kernel_rfl) (fun _ _ _ h => h) (Or.inl ⟨by rfl, ?_⟩) hH ?_
                case refine_2 => intro w hSw; obtain ⟨kw, kb⟩ := hSw; replace kw : Blk w g 48 (nodeC (.slice Al d.log.length ec) V M X d) := kw; replace kb : Blk w mb 58 #[.int .i64 m.kind, .int .i64 m.frm, .int .i64 m.dst, .int .u64 (m.term : Int), .int .u64 (m.index : Int), .int .u64 (m.logTerm : Int), .int .u64 (m.commit : Int), .slice A m.ents.length c, .bool m.ok, .slice none 0 0] := kb; have s4 : w.cell? ⟨_, 4, none⟩ = some (.int .u64 (m.index : Int)) := Blk.cell kb 4; clear kw kb; go_simp; try with_reducible rfl
                try simp only [Z1, Z2, Z3, Z4, Z5, Z6, Z7]
                refine wpAnyH_take (i := 41) (v := ?_) rfl (by kernel_rfl) (by kernel_rfl) (by kernel_rfl) (fun _ _ _ h => h) (Or.inl ⟨by rfl, ?_⟩) hH ?_
                case refine_2 => intro w hSw; go_simp; try with_reducible rfl
                try simp only [Z1, Z2, Z3, Z4, Z5, Z6, Z7]
                refine wpAnyH_take (i := 42) (v := ?_) rfl (by kernel_rfl) (by kernel_rfl) (by kernel_rfl) (fun _ _ _ h => h) (Or.inl ⟨by rfl, ?_⟩) hH ?_
                case refine_2 => intro w hSw; go_simp; try with_reducible rfl
                try simp only [Z1, Z2, Z3, Z4, Z5, Z6, Z7]
                refine wpAnyH_take (i := 43) (v := ?_) rfl (by kernel_rfl) (by kernel_rfl) (by kernel_rfl) (fun _ _ _ h => h) (Or.inl ⟨by rfl, ?_⟩) hH ?_
                case refine_2 => intro w hSw; go_simp; try with_reducible rfl
                try simp only [Z1, Z2, Z3, Z4, Z5, Z6, Z7]
                refine wpAnyH_take (i := 44) (v := ?_) rfl (by kernel_rfl) (by kernel_rfl) (by kernel_rfl) (fun _ _ _ h => h) (Or.inl ⟨by rfl, ?_⟩) hH ?_
                case refine_2 => intro w hSw; obtain ⟨kw, kb⟩ := hSw; replace kw : Blk w g 48 (nodeC (.slice Al d.log.length ec) V M X d) := kw; replace kb : Blk w mb 58 #[.int .i64 m.kind, .int .i64 m.frm, .int .i64 m.dst, .int .u64 (m.term : Int), .int .u64 (m.index : Int), .int .u64 (m.logTerm : Int), .int .u64 (m.commit : Int), .slice A m.ents.length c, .bool m.ok, .slice none 0 0] := kb; have n10 : w.cell? ⟨_, 10, none⟩ = some (.int .u64 (d.commit : Int)) := Blk.cell kw 10; clear kw kb; go_simp; try with_reducible rfl
                try simp only [Z1, Z2, Z3, Z4, Z5, Z6, Z7]
                refine wpAnyH_take (i := 45) (v := ?_) rfl (by kernel_rfl) (by kernel_rfl) (by kernel_rfl) (fun _ _ _ h => h) (Or.inl ⟨by rfl, ?_⟩) hH ?_
                case refine_2 => intro w hSw; go_simp; try with_reducible rfl
                try simp only [Z1, Z2, Z3, Z4, Z5, Z6, Z7]
                refine wpAnyH_take (i := 46) (v := ?_) rfl (by kernel_rfl) (by kernel_rfl) (by kernel_rfl) (fun _ _ _ h => h) (Or.inl ⟨by rfl, ?_⟩) hH ?_
                case refine_2 => intro w hSw; go_simp; try with_reducible rfl
                try simp only [Z1, Z2, Z3, Z4, Z5, Z6, Z7]
                refine wpAnyH_take (i := 47) (v := ?_) rfl (by kernel_rfl) (by kernel_rfl) (by kernel_rfl) (fun _ _ _ h => h) (Or.inl ⟨by rfl, ?_⟩) hH ?_
                case refine_2 => intro w hSw; go_simp; try with_reducible rfl
                try simp only [Z1, Z2, Z3, Z4, Z5, Z6, Z7]
                refine wpAnyH_take (i := 48) (v := ?_) rfl (by kernel_rfl) (by kernel_rfl) (by kernel_rfl) (fun _ _ _ h => h) (Or.inl ⟨by rfl, ?_⟩) hH ?_
                case refine_2 => intro w hSw; go_simp; try with_reducible rfl
                try simp only [Z1, Z2, Z3, Z4, Z5, Z6, Z7]
                refine wpAnyH_take (i := 49) (v := ?_) rfl (by kernel_rfl) (by kernel_rfl) (by kernel_rfl) (fun _ _ _ h => h) (Or.inl ⟨by rfl, ?_⟩) hH ?_
                case refine_2 => intro w hSw; obtain ⟨kw, kb⟩ := hSw; replace kw : Blk w g 48 (nodeC (.slice Al d.log.length ec) V M X d) := kw; replace kb : Blk w mb 58 #[.int .i64 m.kind, .int .i64 m.frm, .int .i64 m.dst, .int .u64 (m.term : Int), .int .u64 (m.index : Int), .int .u64 (m.logTerm : Int), .int .u64 (m.commit : Int), .slice A m.ents.length c, .bool m.ok, .slice none 0 0] := kb; have s5 : w.cell? ⟨_, 5, none⟩ = some (.int .u64 (m.logTerm : Int)) := Blk.cell kb 5; clear kw kb; go_simp; try with_reducible rfl
                try simp only [Z1, Z2, Z3, Z4, Z5, Z6, Z7]
                refine wpAnyH_take (i := 50) (v := ?_) rfl (by kernel_rfl) (by kernel_rfl) (by kernel_rfl) (fun _ _ _ h => h) (Or.inl ⟨by rfl, ?_⟩) hH ?_
                case refine_2 => intro w hSw; go_simp; try with_reducible rfl
                try simp only [Z1, Z2, Z3, Z4, Z5, Z6, Z7]
                refine wpAnyH_take (i := 51) (v := ?_) rfl (by kernel_rfl) (by kernel_rfl) (by kernel_rfl) (fun _ _ _ h => h) (Or.inl ⟨by rfl, ?_⟩) hH ?_
                case refine_2 => intro w hSw; obtain ⟨kw, kb⟩ := hSw; replace kw : Blk w g 48 (nodeC (.slice Al d.log.length ec) V M X d) := kw; replace kb : Blk w mb 58 #[.int .i64 m.kind, .int .i64 m.frm, .int .i64 m.dst, .int .u64 (m.term : Int), .int .u64 (m.index : Int), .int .u64 (m.logTerm : Int), .int .u64 (m.commit : Int), .slice A m.ents.length c, .bool m.ok, .slice none 0 0] := kb; have s3 : w.cell? ⟨_, 3, none⟩ = some (.int .u64 (m.term : Int)) := Blk.cell kb 3; clear kw kb; go_simp; try with_reducible rfl
                try simp only [Z1, Z2, Z3, Z4, Z5, Z6, Z7]
                refine wpAnyH_take (i := 52) (v := ?_) rfl (by kernel_rfl) (by kernel_rfl) (by kernel_rfl) (fun _ _ _ h => h) (Or.inl ⟨by rfl, ?_⟩) hH ?_
                case refine_2 => intro w hSw; go_simp; try with_reducible rfl
                try simp only [Z1, Z2, Z3, Z4, Z5, Z6, Z7]
                refine wpAnyH_take (i := 53) (v := ?_) rfl (by kernel_rfl) (by kernel_rfl) (by kernel_rfl) (fun _ _ _ h => h) (Or.inl ⟨by rfl, ?_⟩) hH ?_
                case refine_2 => intro w hSw; go_simp; try with_reducible rfl
                try simp only [Z1, Z2, Z3, Z4, Z5, Z6, Z7]
                refine wpAnyH_done (by kernel_rfl) ?_ _
                refine NoPanic.normal ?_
                go_wp2_with fail
                go_meet
                case rel => exact ⟨_, rfl, HOK, b07⟩
      · have h1i : (m.kind != 7) = true := by rw [bne_iff_ne]; exact h1
        have HOK : Hid (true = (!properP d m || decide (m.kind ≠ 7) || decide (m.term < d.term) || (decide (m.term = d.term) && decide (d.role = 3)) || decide (m.index ≤ d.commit) || decide (m.term < m.logTerm))) := by show _ = _; rw [← HPP.out, decide_eq_true h1]; rfl
        as_aux_lemma =>
        clear h1
        refine wp_region_noPanic ?_
        have kS : Blk w1.drew g 48 (nodeC (.slice Al d.log.length ec) V M X d) ∧ Blk w1.drew mb 58 #[.int .i64 m.kind, .int .i64 m.frm, .int .i64 m.dst, .int .u64 (m.term : Int), .int .u64 (m.index : Int), .int .u64 (m.logTerm : Int), .int .u64 (m.commit : Int), .slice A m.ents.length c, .bool m.ok, .slice none 0 0] := ⟨N1.blk.drew, km.drew⟩
        refine wp_region_held_drew (S := (fun Y => Blk Y g 48 (nodeC (.slice Al d.log.length ec) V M X d) ∧ Blk Y mb 58 #[.int .i64 m.kind, .int .i64 m.frm, .int .i64 m.dst, .int .u64 (m.term : Int), .int .u64 (m.index : Int), .int .u64 (m.logTerm : Int), .int .u64 (m.commit : Int), .slice A m.ents.length c, .bool m.ok, .slice none 0 0])) (by kernel_rfl) kS (fun hH => ?_)
        refine wpAnyH_take (i := 0) (v := ?_) rfl (by kernel_rfl) (by kernel_rfl) (by kernel_rfl) (fun _ _ _ h => h) (Or.inl ⟨by rfl, ?_⟩) hH ?_
        case refine_2 => intro w hSw; go_simp; try with_reducible rfl
        try simp only [Z1, Z2, Z4, Z5, Z6, Z7]
        refine wpAnyH_take (i := 1) (v := ?_) rfl (by kernel_rfl) (by kernel_rfl) (by kernel_rfl) (fun _ _ _ h => h) (Or.inl ⟨by rfl, ?_⟩) hH ?_
        case refine_2 => intro w hSw; obtain ⟨kw, kb⟩ := hSw; replace kw : Blk w g 48 (nodeC (.slice Al d.log.length ec) V M X d) := kw; replace kb : Blk w mb 58 #[.int .i64 m.kind, .int .i64 m.frm, .int .i64 m.dst, .int .u64 (m.term : Int), .int .u64 (m.index : Int), .int .u64 (m.logTerm : Int), .int .u64 (m.commit : Int), .slice A m.ents.length c, .bool m.ok, .slice none 0 0] := kb; have s0 : w.cell? ⟨_, 0, none⟩ = some (.int .i64 m.kind) := Blk.cell kb 0; have s1 : w.cell? ⟨_, 1, none⟩ = some (.int .i64 m.frm) := Blk.cell kb 1; have s2 : w.cell? ⟨_, 2, none⟩ = some (.int .i64 m.dst) := Blk.cell kb 2; have s3 : w.cell? ⟨_, 3, none⟩ = some (.int .u64 (m.term : Int)) := Blk.cell kb 3; have s4 : w.cell? ⟨_, 4, none⟩ = some (.int .u64 (m.index : Int)) := Blk.cell kb 4; have s5 : w.cell? ⟨_, 5, none⟩ = some (.int .u64 (m.logTerm : Int)) := Blk.cell kb 5; have s6 : w.cell? ⟨_, 6, none⟩ = some (.int .u64 (m.commit : Int)) := Blk.cell kb 6; have s7 : w.cell? ⟨_, 7, none⟩ = some (.slice A m.ents.length c) := Blk.cell kb 7; have s8 : w.cell? ⟨_, 8, none⟩ = some (.bool m.ok) := Blk.cell kb 8; have s9 : w.cell? ⟨_, 9, none⟩ = some (.slice none 0 0) := Blk.cell kb 9; clear kw kb; go_simp; try with_reducible rfl
        try simp only [Z1, Z2, Z3, Z4, Z5, Z6, Z7]
        refine wpAnyH_ready (rs := [2]) (by kernel_rfl) (by simp) ?_
        refine AllReadyH.cons rfl (fun K hK => ?_) AllReadyH.nil
        go_simp
        refine (HTP.out w1.drew (N1.below ((Below.refl _ _).drew)) (HM.out.below ((Below.refl _ _).drew))).mono ?_
        rintro en w7 ⟨rfl, b7⟩
        have k7 := kS.1.below b7 kS.1.lt
        have km7 := kS.2.below b7 kS.2.lt
        have b07 := below_step ((Below.refl w1.heap.size w1).drew) b7
        clear HTP HM
        refine hK.out _ _ ⟨k7, km7⟩ (fun hH => ?_)
        clear hK K
        try dsimp only
        try simp only [Z1, Z2, Z3, Z4, Z5, Z6, Z7]
        refine wpAnyH_take (i := 3) (v := ?_) rfl (by kernel_rfl) (by kernel_rfl) (by kernel_rfl) (fun _ _ _ h => h) (Or.inl ⟨by rfl, ?_⟩) hH ?_
        case refine_2 => intro w hSw; go_simp; try with_reducible rfl
        try simp only [Z1, Z2, Z3, Z4, Z5, Z6, Z7]
        refine wpAnyH_take (i := 4) (v := ?_) rfl (by kernel_rfl) (by kernel_rfl) (by kernel_rfl) (fun _ _ _ h => h) (Or.inl ⟨by rfl, ?_⟩) hH ?_
        case refine_2 => intro w hSw; go_simp; try with_reducible rfl
        try simp only [Z1, Z2, Z3, Z4, Z5, Z6, Z7]
        refine wpAnyH_take (i := 5) (v := ?_) rfl (by kernel_rfl) (by kernel_rfl) (by kernel_rfl) (fun _ _ _ h => h) (Or.inl ⟨by rfl, ?_⟩) hH ?_
        case refine_2 => intro w hSw; go_simp; try with_reducible rfl
        try simp only [Z1, Z2, Z3, Z4, Z5, Z6, Z7]
        refine wpAnyH_take (i := 6) (v := ?_) rfl (by kernel_rfl) (by kernel_rfl) (by kernel_rfl) (fun _ _ _ h => h) (Or.inl ⟨by rfl, ?_⟩) hH ?_
        case refine_2 => intro w hSw; obtain ⟨kw, kb⟩ := hSw; replace kw : Blk w g 48 (nodeC (.slice Al d.log.length ec) V M X d) := kw; replace kb : Blk w mb 58 #[.int .i64 m.kind, .int .i64 m.frm, .int .i64 m.dst, .int .u64 (m.term : Int), .int .u64 (m.index : Int), .int .u64 (m.logTerm : Int), .int .u64 (m.commit : Int), .slice A m.ents.length c, .bool m.ok, .slice none 0 0] := kb; have s0 : w.cell? ⟨_, 0, none⟩ = some (.int .i64 m.kind) := Blk.cell kb 0; clear kw kb; go_simp; try with_reducible rfl
        try simp only [Z1, Z2, Z3, Z4, Z5, Z6, Z7]
        refine wpAnyH_take (i := 7) (v := ?_) rfl (by kernel_rfl) (by kernel_rfl) (by kernel_rfl) (fun _ _ _ h => h) (Or.inl ⟨by rfl, ?_⟩) hH ?_
        case refine_2 => intro w hSw; go_simp; try with_reducible rfl
        try simp only [Z1, Z2, Z3, Z4, Z5, Z6, Z7]
        refine wpAnyH_take (i := 8) (v := ?_) rfl (by kernel_rfl) (by kernel_rfl) (by kernel_rfl) (fun _ _ _ h => h) (Or.inl ⟨by rfl, ?_⟩) hH ?_
        case refine_2 => intro w hSw; go_simp; try with_reducible rfl
        try simp only [Z1, Z2, Z3, Z4, Z5, Z6, Z7]
        refine wpAnyH_take (i := 9) (v := ?_) rfl (by kernel_rfl) (by kernel_rfl) (by kernel_rfl) (fun _ _ _ h => h) (Or.inl ⟨by rfl, ?_⟩) hH ?_
        case refine_2 => intro w hSw; go_simp; try with_reducible rfl
        try simp only [Z1, Z2, Z3, Z4, Z5, Z6, Z7]
        refine wpAnyH_take (i := 10) (v := undef) rfl (by kernel_rfl) (by kernel_rfl) (by kernel_rfl) (fun _ _ _ h => h) (Or.inr ⟨by rfl, rfl⟩) hH ?_
        try simp only [Z1, Z2, Z3, Z4, Z5, Z6, Z7]
        refine wpAnyH_take (i := 11) (v := undef) rfl (by kernel_rfl) (by kernel_rfl) (by kernel_rfl) (fun _ _ _ h => h) (Or.inr ⟨by rfl, rfl⟩) hH ?_
        try simp only [Z1, Z2, Z3, Z4, Z5, Z6, Z7]
        refine wpAnyH_take (i := 12) (v := undef) rfl (by kernel_rfl) (by kernel_rfl) (by kernel_rfl) (fun _ _ _ h => h) (Or.inr ⟨by rfl, rfl⟩) hH ?_
        try simp only [Z1, Z2, Z3, Z4, Z5, Z6, Z7]
        refine wpAnyH_take (i := 13) (v := undef) rfl (by kernel_rfl) (by kernel_rfl) (by kernel_rfl) (fun _ _ _ h => h) (Or.inr ⟨by rfl, rfl⟩) hH ?_
        try simp only [Z1, Z2, Z3, Z4, Z5, Z6, Z7]
        refine wpAnyH_take (i := 14) (v := undef) rfl (by kernel_rfl) (by kernel_rfl) (by kernel_rfl) (fun _ _ _ h => h) (Or.inr ⟨by rfl, rfl⟩) hH ?_
        try simp only [Z1, Z2, Z3, Z4, Z5, Z6, Z7]
        refine wpAnyH_take (i := 15) (v := undef) rfl (by kernel_rfl) (by kernel_rfl) (by kernel_rfl) (fun _ _ _ h => h) (Or.inr ⟨by rfl, rfl⟩) hH ?_
        try simp only [Z1, Z2, Z3, Z4, Z5, Z6, Z7]
        refine wpAnyH_take (i := 16) (v := undef) rfl (by kernel_rfl) (by kernel_rfl) (by kernel_rfl) (fun _ _ _ h => h) (Or.inr ⟨by rfl, rfl⟩) hH ?_
        try simp only [Z1, Z2, Z3, Z4, Z5, Z6, Z7]
        refine wpAnyH_take (i := 17) (v := undef) rfl (by kernel_rfl) (by kernel_rfl) (by kernel_rfl) (fun _ _ _ h => h) (Or.inr ⟨by rfl, rfl⟩) hH ?_
        try simp only [Z1, Z2, Z3, Z4, Z5, Z6, Z7]
        refine wpAnyH_take (i := 18) (v := undef) rfl (by kernel_rfl) (by kernel_rfl) (by kernel_rfl) (fun _ _ _ h => h) (Or.inr ⟨by rfl, rfl⟩) hH ?_
        try simp only [Z1, Z2, Z3, Z4, Z5, Z6, Z7]
        refine wpAnyH_take (i := 19) (v := ?_) rfl (by kernel_rfl) (by kernel_rfl) (by kernel_rfl) (fun _ _ _ h => h) (Or.inl ⟨by rfl, ?_⟩) hH ?_
        case refine_2 => intro w hSw; go_simp; try with_reducible rfl
        try simp only [Z1, Z2, Z3, Z4, Z5, Z6, Z7]
        refine wpAnyH_take (i := 20) (v := ?_) rfl (by kernel_rfl) (by kernel_rfl) (by kernel_rfl) (fun _ _ _ h => h) (Or.inl ⟨by rfl, ?_⟩) hH ?_
        case refine_2 => intro w hSw; go_simp; try with_reducible rfl
        try simp only [Z1, Z2, Z3, Z4, Z5, Z6, Z7]
        refine wpAnyH_take (i := 21) (v := undef) rfl (by kernel_rfl) (by kernel_rfl) (by kernel_rfl) (fun _ _ _ h => h) (Or.inr ⟨by rfl, rfl⟩) hH ?_
        try simp only [Z1, Z2, Z3, Z4, Z5, Z6, Z7]
        refine wpAnyH_take (i := 22) (v := undef) rfl (by kernel_rfl) (by kernel_rfl) (by kernel_rfl) (fun _ _ _ h => h) (Or.inr ⟨by rfl, rfl⟩) hH ?_
        try simp only [Z1, Z2, Z3, Z4, Z5, Z6, Z7]
        refine wpAnyH_take (i := 23) (v := undef) rfl (by kernel_rfl) (by kernel_rfl) (by kernel_rfl) (fun _ _ _ h => h) (Or.inr ⟨by rfl, rfl⟩) hH ?_
        try simp only [Z1, Z2, Z3, Z4, Z5, Z6, Z7]
        refine wpAnyH_take (i := 24) (v := undef) rfl (by kernel_rfl) (by kernel_rfl) (by kernel_rfl) (fun _ _ _ h => h) (Or.inr ⟨by rfl, rfl⟩) hH ?_
        try simp only [Z1, Z2, Z3, Z4, Z5, Z6, Z7]
        refine wpAnyH_take (i := 25) (v := undef) rfl (by kernel_rfl) (by kernel_rfl) (by kernel_rfl) (fun _ _ _ h => h) (Or.inr ⟨by rfl, rfl⟩) hH ?_
        try simp only [Z1, Z2, Z3, Z4, Z5, Z6, Z7]
        refine wpAnyH_take (i := 26) (v := undef) rfl (by kernel_rfl) (by kernel_rfl) (by kernel_rfl) (fun _ _ _ h => h) (Or.inr ⟨by rfl, rfl⟩) hH ?_
        try simp only [Z1, Z2, Z3, Z4, Z5, Z6, Z7]
        refine wpAnyH_take (i := 27) (v := undef) rfl (by kernel_rfl) (by kernel_rfl) (by kernel_rfl) (fun _ _ _ h => h) (Or.inr ⟨by rfl, rfl⟩) hH ?_
        try simp only [Z1, Z2, Z3, Z4, Z5, Z6, Z7]
        refine wpAnyH_take (i := 28) (v := undef) rfl (by kernel_rfl) (by kernel_rfl) (by kernel_rfl) (fun _ _ _ h => h) (Or.inr ⟨by rfl, rfl⟩) hH ?_
        try simp only [Z1, Z2, Z3, Z4, Z5, Z6, Z7]
        refine wpAnyH_take (i := 29) (v := undef) rfl (by kernel_rfl) (by kernel_rfl) (by kernel_rfl) (fun _ _ _ h => h) (Or.inr ⟨by rfl, rfl⟩) hH ?_
        try simp only [Z1, Z2, Z3, Z4, Z5, Z6, Z7]
        refine wpAnyH_take (i := 30) (v := undef) rfl (by kernel_rfl) (by kernel_rfl) (by kernel_rfl) (fun _ _ _ h => h) (Or.inr ⟨by rfl, rfl⟩) hH ?_
        try simp only [Z1, Z2, Z3, Z4, Z5, Z6, Z7]
        refine wpAnyH_take (i := 31) (v := undef) rfl (by kernel_rfl) (by kernel_rfl) (by kernel_rfl) (fun _ _ _ h => h) (Or.inr ⟨by rfl, rfl⟩) hH ?_
        try simp only [Z1, Z2, Z3, Z4, Z5, Z6, Z7]
        refine wpAnyH_take (i := 32) (v := undef) rfl (by kernel_rfl) (by kernel_rfl) (by kernel_rfl) (fun _ _ _ h => h) (Or.inr ⟨by rfl, rfl⟩) hH ?_
        try simp only [Z1, Z2, Z3, Z4, Z5, Z6, Z7]
        refine wpAnyH_take (i := 33) (v := undef) rfl (by kernel_rfl) (by kernel_rfl) (by kernel_rfl) (fun _ _ _ h => h) (Or.inr ⟨by rfl, rfl⟩) hH ?_
        try simp only [Z1, Z2, Z3, Z4, Z5, Z6, Z7]
        refine wpAnyH_take (i := 34) (v := undef) rfl (by kernel_rfl) (by kernel_rfl) (by kernel_rfl) (fun _ _ _ h => h) (Or.inr ⟨by rfl, rfl⟩) hH ?_
        try simp only [Z1, Z2, Z3, Z4, Z5, Z6, Z7]
        refine wpAnyH_take (i := 35) (v := undef) rfl (by kernel_rfl) (by kernel_rfl) (by kernel_rfl) (fun _ _ _ h => h) (Or.inr ⟨by rfl, rfl⟩) hH ?_
        try simp only [Z1, Z2, Z3, Z4, Z5, Z6, Z7]
        refine wpAnyH_take (i := 36) (v := undef) rfl (by kernel_rfl) (by kernel_rfl) (by kernel_rfl) (fun _ _ _ h => h) (Or.inr ⟨by rfl, rfl⟩) hH ?_
        try simp only [Z1, Z2, Z3, Z4, Z5, Z6, Z7]
        refine wpAnyH_take (i := 37) (v := ?_) rfl (by kernel_rfl) (by kernel_rfl) (by kernel_rfl) (fun _ _ _ h => h) (Or.inl ⟨by rfl, ?_⟩) hH ?_
        case refine_2 => intro w hSw; go_simp; try with_reducible rfl
        try simp only [Z1, Z2, Z3, Z4, Z5, Z6, Z7]
        refine wpAnyH_take (i := 38) (v := ?_) rfl (by kernel_rfl) (by kernel_rfl) (by kernel_rfl) (fun _ _ _ h => h) (Or.inl ⟨by rfl, ?_⟩) hH ?_
        case refine_2 => intro w hSw; go_simp; try with_reducible rfl
        try simp only [Z1, Z2, Z3, Z4, Z5, Z6, Z7]
        refine wpAnyH_take (i := 39) (v := undef) rfl (by kernel_rfl) (by kernel_rfl) (by kernel_rfl) (fun _ _ _ h => h) (Or.inr ⟨by rfl, rfl⟩) hH ?_
        try simp only [Z1, Z2, Z3, Z4, Z5, Z6, Z7]
        refine wpAnyH_take (i := 40) (v := undef) rfl (by kernel_rfl) (by kernel_rfl) (by kernel_rfl) (fun _ _ _ h => h) (Or.inr ⟨by rfl, rfl⟩) hH ?_
        try simp only [Z1, Z2, Z3, Z4, Z5, Z6, Z7]
        refine wpAnyH_take (i := 41) (v := undef) rfl (by kernel_rfl) (by kernel_rfl) (by kernel_rfl) (fun _ _ _ h => h) (Or.inr ⟨by rfl, rfl⟩) hH ?_
        try simp only [Z1, Z2, Z3, Z4, Z5, Z6, Z7]
        refine wpAnyH_take (i := 42) (v := undef) rfl (by kernel_rfl) (by kernel_rfl) (by kernel_rfl) (fun _ _ _ h => h) (Or.inr ⟨by rfl, rfl⟩) hH ?_
        try simp only [Z1, Z2, Z3, Z4, Z5, Z6, Z7]
        refine wpAnyH_take (i := 43) (v := undef) rfl (by kernel_rfl) (by kernel_rfl) (by kernel_rfl) (fun _ _ _ h => h) (Or.inr ⟨by rfl, rfl⟩) hH ?_
        try simp only [Z1, Z2, Z3, Z4, Z5, Z6, Z7]
        refine wpAnyH_take (i := 44) (v := undef) rfl (by kernel_rfl) (by kernel_rfl) (by kernel_rfl) (fun _ _ _ h => h) (Or.inr ⟨by rfl, rfl⟩) hH ?_
        try simp only [Z1, Z2, Z3, Z4, Z5, Z6, Z7]
        refine wpAnyH_take (i := 45) (v := undef) rfl (by kernel_rfl) (by kernel_rfl) (by kernel_rfl) (fun _ _ _ h => h) (Or.inr ⟨by rfl, rfl⟩) hH ?_
        try simp only [Z1, Z2, Z3, Z4, Z5, Z6, Z7]
        refine wpAnyH_take (i := 46) (v := ?_) rfl (by kernel_rfl) (by kernel_rfl) (by kernel_rfl) (fun _ _ _ h => h) (Or.inl ⟨by rfl, ?_⟩) hH ?_
        case refine_2 => intro w hSw; go_simp; try with_reducible rfl
        try simp only [Z1, Z2, Z3, Z4, Z5, Z6, Z7]
        refine wpAnyH_take (i := 47) (v := ?_) rfl (by kernel_rfl) (by kernel_rfl) (by kernel_rfl) (fun _ _ _ h => h) (Or.inl ⟨by rfl, ?_⟩) hH ?_
        case refine_2 => intro w hSw; go_simp; try with_reducible rfl
        try simp only [Z1, Z2, Z3, Z4, Z5, Z6, Z7]
        refine wpAnyH_take (i := 48) (v := undef) rfl (by kernel_rfl) (by kernel_rfl) (by kernel_rfl) (fun _ _ _ h => h) (Or.inr ⟨by rfl, rfl⟩) hH ?_
        try simp only [Z1, Z2, Z3, Z4, Z5, Z6, Z7]
        refine wpAnyH_take (i := 49) (v := undef) rfl (by kernel_rfl) (by kernel_rfl) (by kernel_rfl) (fun _ _ _ h => h) (Or.inr ⟨by rfl, rfl⟩) hH ?_
        try simp only [Z1, Z2, Z3, Z4, Z5, Z6, Z7]
        refine wpAnyH_take (i := 50) (v := undef) rfl (by kernel_rfl) (by kernel_rfl) (by kernel_rfl) (fun _ _ _ h => h) (Or.inr ⟨by rfl, rfl⟩) hH ?_
        try simp only [Z1, Z2, Z3, Z4, Z5, Z6, Z7]
        refine wpAnyH_take (i := 51) (v := undef) rfl (by kernel_rfl) (by kernel_rfl) (by kernel_rfl) (fun _ _ _ h => h) (Or.inr ⟨by rfl, rfl⟩) hH ?_
        try simp only [Z1, Z2, Z3, Z4, Z5, Z6, Z7]
        refine wpAnyH_take (i := 52) (v := undef) rfl (by kernel_rfl) (by kernel_rfl) (by kernel_rfl) (fun _ _ _ h => h) (Or.inr ⟨by rfl, rfl⟩) hH ?_
        try simp only [Z1, Z2, Z3, Z4, Z5, Z6, Z7]
        refine wpAnyH_take (i := 53) (v := ?_) rfl (by kernel_rfl) (by kernel_rfl) (by kernel_rfl) (fun _ _ _ h => h) (Or.inl ⟨by rfl, ?_⟩) hH ?_
        case refine_2 => intro w hSw; go_simp; try with_reducible rfl
        try simp only [Z1, Z2, Z3, Z4, Z5, Z6, Z7]
        refine wpAnyH_done (by kernel_rfl) ?_ _
        refine NoPanic.normal ?_
        go_wp2_with fail
        go_meet
        case rel => exact ⟨_, rfl, HOK, b07⟩
  case rest =>
    obtain ⟨ok, rfl, HOK, bc⟩ := hcut
    clear HTP
    have N2 := N1.below bc
    have b2 := below_step b1 bc
    have km2 := km.below bc km.lt
    clear N1 b1 km bc HM
    have hbad : (!properP d m || decide (m.kind ≠ 7) || decide (m.term < d.term) || (decide (m.term = d.term) && decide (d.role = 3)) || decide (m.index ≤ d.commit) || decide (m.term < m.logTerm)) = true ↔ (properP d m = false ∨ m.kind ≠ 7 ∨ m.term < d.term ∨ (m.term = d.term ∧ d.role = 3) ∨ m.index ≤ d.commit ∨ m.term < m.logTerm) := by
      simp only [Bool.or_eq_true, Bool.and_eq_true, decide_eq_true_eq, Bool.not_eq_true', or_assoc]
    cases ok with
    | true =>
      have HE : Hid (wantsP d m = false) := by show _ = _; rw [HP.out, if_pos (hbad.1 HOK.out.symm)]
      clear HP HOK hbad HPP
      go_wp2_with fail
      go_ret
      rw [HE.out]
      exact ⟨rfl, b2⟩
    | false =>
      have HE : Hid (wantsP d m = decide ((termAt d m.index).2 = false ∨ (termAt d m.index).1 ≠ m.logTerm)) := by show _ = _; rw [HP.out, if_neg (fun h => by have := hbad.2 h; rw [← HOK.out] at this; cases this)]
      have hprop : properP d m = true := by
        cases hq : properP d m with
        | true => rfl
        | false =>
          exfalso
          have h := hbad.2 (.inl hq)
          rw [← HOK.out] at h
          cases h
      have hix := (proper_facts hprop).2.2.2.2.2.2.2.1
      have HIX := Lib.hid hix
      clear HP HOK hbad HPP hprop
      have T := termat_any g Al ec V M X Any d m.index wc N2.blk (N2.slS hb.len32) hb.nb (by omega)
      obtain ⟨q, hq⟩ : ∃ q, q = termAt d m.index := ⟨_, rfl⟩
      rw [← hq] at T HE
      clear hq hix
      obtain ⟨qt, qo⟩ := q
      replace HE : Hid (wantsP d m = decide (qo = false ∨ qt ≠ m.logTerm)) := HE
      have s4 : wc.cell? ⟨mb, 4, none⟩ = some (.int .u64 (m.index : Int)) := km2.cell 4
      go_wp2_with fail
      refine T.mono ?_
      clear T s4
      rintro en w3 ⟨rfl, n3, hw3⟩
      have d3 : Below wc.heap.size wc w3 := by rw [hw3]; exact ⟨rfl, rfl, rfl, Nat.le_refl _, fun _ _ => rfl⟩
      have b3 := below_step b2 d3
      have km3 := km2.below d3 km2.lt
      clear hw3 d3 N2 km2
      have s5 : w3.cell? ⟨mb, 5, none⟩ = some (.int .u64 (m.logTerm : Int)) := km3.cell 5
      cases qo with
      | false =>
        have HE2 : Hid (wantsP d m = true) := by show _ = _; rw [HE.out, decide_eq_true (.inl rfl)]
        clear HE
        go_wp2_with fail
        go_ret
        rw [HE2.out]
        exact ⟨rfl, b3⟩
      | true =>
        by_cases hqt : qt = m.logTerm
        · have hqi : ((qt : Int) != (m.logTerm : Int)) = false := by rw [bne_eq_false_iff_eq]; omega
          have HE2 : Hid (wantsP d m = false) := by show _ = _; rw [HE.out, decide_eq_false (fun h => h.elim (fun h => by cases h) (fun h => h hqt))]
          clear HE hqt
          go_wp2_with fail
          go_ret
          rw [HE2.out]
          exact ⟨rfl, b3⟩
        · have hqi : ((qt : Int) != (m.logTerm : Int)) = true := by rw [bne_iff_ne]; omega
          have HE2 : Hid (wantsP d m = true) := by show _ = _; rw [HE.out, decide_eq_true (.inr hqt)]
          clear HE hqt
          go_wp2_with fail
          go_ret
          rw [HE2.out]
          exact ⟨rfl, b3⟩
end Go.Proofs.Ytjpcekpllfelhaa
