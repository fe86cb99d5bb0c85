/- vote. (Printed by wip/gen_rsn.py.) -/
import Derived.Test.YtjpcekpllfelhaaRsO
namespace Go.Proofs.Ytjpcekpllfelhaa
open Go.RowKit

def okP (d : LNode) (m : LMsg) : Bool := decide (m.term = d.term) && (decide (d.vote = -1) || decide (d.vote = m.frm)) && upP d m
def voteR (d : LNode) (m : LMsg) : LNode × List LMsg :=
  let d2 := if okP d m then { d with vote := m.frm, clock := 0 } else d
  (d2, answerP d2 m { kind := 4, term := d2.term, ok := okP d m })
theorem voteP_eq (d : LNode) (m : LMsg) : voteP d m = voteR (if d.term < m.term then followP d m.term (-1) else d) m := rfl
set_option maxRecDepth 100000 in
set_option maxHeartbeats 4000000 in
theorem vote_any (g : Nat) (F : Nat → Prop) (d : LNode) (A : Option Addr) (c : Nat) (m : LMsg) (w : World) (hd : ND w g F d) (hb : GB d) (htm : m.term ≤ 4611686018427387904) :
    Calls Try.prog 38 #[.pointer (some ⟨g, 0, none⟩), .agg (msgC A c m)] w (RetMs g F (voteP d m) w) := by
  have HVP0 := Lib.hid (voteP_eq d m)
  obtain ⟨S, E, V, M, X, hN, hF⟩ := hd
  have HF := Lib.hid hF
  clear hF
  rw [show msgC A c m = #[.int .i64 m.kind, .int .i64 m.frm, .int .i64 m.dst, .int .u64 (m.term : Int), .int .u64 (m.index : Int), .int .u64 (m.logTerm : Int), .int .u64 (m.commit : Int), .slice A m.ents.length c, .bool m.ok, .slice none 0 0] from rfl]
  have km := Blk.new w 58 #[.int .i64 m.kind, .int .i64 m.frm, .int .i64 m.dst, .int .u64 (m.term : Int), .int .u64 (m.index : Int), .int .u64 (m.logTerm : Int), .int .u64 (m.commit : Int), .slice A m.ents.length c, .bool m.ok, .slice none 0 0]
  have b1 : Below w.heap.size w (w.alloc (.cells #[.int .i64 m.kind, .int .i64 m.frm, .int .i64 m.dst, .int .u64 (m.term : Int), .int .u64 (m.index : Int), .int .u64 (m.logTerm : Int), .int .u64 (m.commit : Int), .slice A m.ents.length c, .bool m.ok, .slice none 0 0] 58)) := (Below.refl _ _).alloc (Nat.le_refl _) _
  have N1 := hN.below b1
  have hgl := hN.blk.lt
  clear hN
  go_enter Try.func38, Try.ntmps38
  go_upto_region 1 with fail
  change Code.wp _ _ _ _ (w.alloc (.cells #[.int .i64 m.kind, .int .i64 m.frm, .int .i64 m.dst, .int .u64 (m.term : Int), .int .u64 (m.index : Int), .int .u64 (m.logTerm : Int), .int .u64 (m.commit : Int), .slice A m.ents.length c, .bool m.ok, .slice none 0 0] 58))
  generalize (w.alloc (.cells #[.int .i64 m.kind, .int .i64 m.frm, .int .i64 m.dst, .int .u64 (m.term : Int), .int .u64 (m.index : Int), .int .u64 (m.logTerm : Int), .int .u64 (m.commit : Int), .slice A m.ents.length c, .bool m.ok, .slice none 0 0] 58)) = w1 at *
  obtain ⟨mb, hmb⟩ : ∃ mb, mb = w.heap.size := ⟨_, rfl⟩
  rw [← hmb] at km ⊢
  have hgm : g < mb := by omega
  have HMB := Lib.hid hmb
  clear hmb
  have s3 : w1.cell? ⟨mb, 3, none⟩ = some (.int .u64 (m.term : Int)) := km.cell 3
  have n0 : w1.cell? ⟨g, 0, none⟩ = some (.int .u64 (d.term : Int)) := N1.blk.cell 0
  by_cases ht : d.term < m.term
  · have hti : (d.term : Int) < (m.term : Int) := by omega
    obtain ⟨d1, hd1⟩ : ∃ d1, d1 = followP d m.term (-1) := ⟨_, rfl⟩
    have HVP : Hid (voteP d m = voteR d1 m) := by show _ = _; rw [HVP0.out, if_pos ht, hd1]
    have hb1 : GB d1 := by rw [hd1]; unfold followP; rw [if_pos ht]; exact ⟨hb.base, hb.bt, hb.len, htm, hb.commit⟩
    clear HVP0 ht
    go_quiet (fail)
    go_upto_region 2 with fail
    have dq : Below w1.heap.size w1 (w1.drewN nq) := below_drewN (Below.refl _ _) nq
    have N2 := N1.below dq
    have b2 := below_step b1 dq
    have km2 := km.drewN nq
    clear N1 b1 km dq s3 n0
    generalize w1.drewN nq = w2 at *
    have s3 : w2.cell? ⟨mb, 3, none⟩ = some (.int .u64 (m.term : Int)) := km2.cell 3
    have T := follow_any g S E V M X d m.term (-1) w2 N2
    go_wp2_with fail
    refine T.mono ?_
    clear T s3
    rintro en w4 ⟨rfl, g4, N4⟩
    have B4 := (BlP.of_below b2).grown (B := F) g4 (fun b e h => (HF.out b h).1 (Option.some.inj e).symm)
    have km4 := km2.grown g4 (fun e => by have := Option.some.inj e; omega)
    rw [← hd1] at N4
    clear N2 b2 km2 g4 hd1
    have n0 : w4.cell? ⟨g, 0, none⟩ = some (.int .u64 (d1.term : Int)) := N4.blk.cell 0
    have n1 : w4.cell? ⟨g, 1, none⟩ = some (.int .i64 d1.vote) := N4.blk.cell 1
    have s3 : w4.cell? ⟨mb, 3, none⟩ = some (.int .u64 (m.term : Int)) := km4.cell 3
    have s1 : w4.cell? ⟨mb, 1, none⟩ = some (.int .i64 m.frm) := km4.cell 1
    go_upto_region 3 with fail
    go_cut [5] (fun v5 wx => ∃ ok, v5 = .bool ok ∧ Hid (okP d1 m = ok) ∧ Below w4.heap.size w4 wx)
    case first =>
      by_cases h1 : m.term = d1.term
      · have h1i : ((m.term : Int) == (d1.term : Int)) = true := by rw [beq_iff_eq]; omega
        by_cases h2 : d1.vote = -1
        · have h2i : (d1.vote == -1) = true := by rw [beq_iff_eq]; exact h2
          have HOK : Hid (okP d1 m = upP d1 m) := by show _ = _; unfold okP; rw [decide_eq_true h1, decide_eq_true h2]; rfl
          clear h1 h2
          refine wp_region_noPanic ?_
          have kS : Blk w4.drew g 48 (nodeC E V M X d1) ∧ Blk w4.drew mb 58 #[.int .i64 m.kind, .int .i64 m.frm, .int .i64 m.dst, .int .u64 (m.term : Int), .int .u64 (m.index : Int), .int .u64 (m.logTerm : Int), .int .u64 (m.commit : Int), .slice A m.ents.length c, .bool m.ok, .slice none 0 0] := ⟨N4.blk.drew, km4.drew⟩
          refine wp_region_held_drew (S := (fun Y => Blk Y g 48 (nodeC E V M X d1) ∧ Blk Y mb 58 #[.int .i64 m.kind, .int .i64 m.frm, .int .i64 m.dst, .int .u64 (m.term : Int), .int .u64 (m.index : Int), .int .u64 (m.logTerm : Int), .int .u64 (m.commit : Int), .slice A m.ents.length c, .bool m.ok, .slice none 0 0])) (by kernel_rfl) kS (fun hH => ?_)
          clear n0 n1 s3 s1
          refine wpAnyH_take (i := 0) (v := ?_) rfl (by kernel_rfl) (by kernel_rfl) (by kernel_rfl) (fun _ _ _ h => h) (Or.inl ⟨by rfl, ?_⟩) hH ?_
          case refine_2 => intro w hSw; go_simp; try with_reducible rfl
          try simp only [Z1, Z2, Z4, Z5, Z6, Z7]
          refine wpAnyH_take (i := 1) (v := ?_) rfl (by kernel_rfl) (by kernel_rfl) (by kernel_rfl) (fun _ _ _ h => h) (Or.inl ⟨by rfl, ?_⟩) hH ?_
          case refine_2 => intro w hSw; obtain ⟨kw, kb⟩ := hSw; replace kw : Blk w g 48 (nodeC E V M X d1) := kw; replace kb : Blk w mb 58 #[.int .i64 m.kind, .int .i64 m.frm, .int .i64 m.dst, .int .u64 (m.term : Int), .int .u64 (m.index : Int), .int .u64 (m.logTerm : Int), .int .u64 (m.commit : Int), .slice A m.ents.length c, .bool m.ok, .slice none 0 0] := kb; have s3 : w.cell? ⟨_, 3, none⟩ = some (.int .u64 (m.term : Int)) := Blk.cell kb 3; clear kw kb; go_simp; try with_reducible rfl
          try simp only [Z1, Z2, Z3, Z4, Z5, Z6, Z7]
          refine wpAnyH_take (i := 2) (v := ?_) rfl (by kernel_rfl) (by kernel_rfl) (by kernel_rfl) (fun _ _ _ h => h) (Or.inl ⟨by rfl, ?_⟩) hH ?_
          case refine_2 => intro w hSw; go_simp; try with_reducible rfl
          try simp only [Z1, Z2, Z3, Z4, Z5, Z6, Z7]
          refine wpAnyH_take (i := 3) (v := ?_) rfl (by kernel_rfl) (by kernel_rfl) (by kernel_rfl) (fun _ _ _ h => h) (Or.inl ⟨by rfl, ?_⟩) hH ?_
          case refine_2 => intro w hSw; go_simp; try with_reducible rfl
          try simp only [Z1, Z2, Z3, Z4, Z5, Z6, Z7]
          refine wpAnyH_take (i := 4) (v := ?_) rfl (by kernel_rfl) (by kernel_rfl) (by kernel_rfl) (fun _ _ _ h => h) (Or.inl ⟨by rfl, ?_⟩) hH ?_
          case refine_2 => intro w hSw; go_simp; try with_reducible rfl
          try simp only [Z1, Z2, Z3, Z4, Z5, Z6, Z7]
          refine wpAnyH_take (i := 5) (v := ?_) rfl (by kernel_rfl) (by kernel_rfl) (by kernel_rfl) (fun _ _ _ h => h) (Or.inl ⟨by rfl, ?_⟩) hH ?_
          case refine_2 => intro w hSw; go_simp; try with_reducible rfl
          try simp only [Z1, Z2, Z3, Z4, Z5, Z6, Z7]
          refine wpAnyH_take (i := 6) (v := ?_) rfl (by kernel_rfl) (by kernel_rfl) (by kernel_rfl) (fun _ _ _ h => h) (Or.inl ⟨by rfl, ?_⟩) hH ?_
          case refine_2 => intro w hSw; go_simp; try with_reducible rfl
          try simp only [Z1, Z2, Z3, Z4, Z5, Z6, Z7]
          refine wpAnyH_take (i := 7) (v := ?_) rfl (by kernel_rfl) (by kernel_rfl) (by kernel_rfl) (fun _ _ _ h => h) (Or.inl ⟨by rfl, ?_⟩) hH ?_
          case refine_2 => intro w hSw; obtain ⟨kw, kb⟩ := hSw; replace kw : Blk w g 48 (nodeC E V M X d1) := kw; replace kb : Blk w mb 58 #[.int .i64 m.kind, .int .i64 m.frm, .int .i64 m.dst, .int .u64 (m.term : Int), .int .u64 (m.index : Int), .int .u64 (m.logTerm : Int), .int .u64 (m.commit : Int), .slice A m.ents.length c, .bool m.ok, .slice none 0 0] := kb; have n0 : w.cell? ⟨_, 0, none⟩ = some (.int .u64 (d1.term : Int)) := Blk.cell kw 0; clear kw kb; go_simp; try with_reducible rfl
          try simp only [Z1, Z2, Z3, Z4, Z5, Z6, Z7]
          refine wpAnyH_take (i := 8) (v := ?_) rfl (by kernel_rfl) (by kernel_rfl) (by kernel_rfl) (fun _ _ _ h => h) (Or.inl ⟨by rfl, ?_⟩) hH ?_
          case refine_2 => intro w hSw; go_simp; try with_reducible rfl
          try simp only [Z1, Z2, Z3, Z4, Z5, Z6, Z7]
          refine wpAnyH_take (i := 9) (v := ?_) rfl (by kernel_rfl) (by kernel_rfl) (by kernel_rfl) (fun _ _ _ h => h) (Or.inl ⟨by rfl, ?_⟩) hH ?_
          case refine_2 => intro w hSw; go_simp; try with_reducible rfl
          try simp only [Z1, Z2, Z3, Z4, Z5, Z6, Z7]
          refine wpAnyH_take (i := 10) (v := ?_) rfl (by kernel_rfl) (by kernel_rfl) (by kernel_rfl) (fun _ _ _ h => h) (Or.inl ⟨by rfl, ?_⟩) hH ?_
          case refine_2 => intro w hSw; go_simp; try with_reducible rfl
          try simp only [Z1, Z2, Z3, Z4, Z5, Z6, Z7]
          refine wpAnyH_take (i := 11) (v := ?_) rfl (by kernel_rfl) (by kernel_rfl) (by kernel_rfl) (fun _ _ _ h => h) (Or.inl ⟨by rfl, ?_⟩) hH ?_
          case refine_2 => intro w hSw; go_simp; try with_reducible rfl
          try simp only [Z1, Z2, Z3, Z4, Z5, Z6, Z7]
          refine wpAnyH_take (i := 12) (v := ?_) rfl (by kernel_rfl) (by kernel_rfl) (by kernel_rfl) (fun _ _ _ h => h) (Or.inl ⟨by rfl, ?_⟩) hH ?_
          case refine_2 => intro w hSw; go_simp; try with_reducible rfl
          try simp only [Z1, Z2, Z3, Z4, Z5, Z6, Z7]
          refine wpAnyH_take (i := 13) (v := ?_) rfl (by kernel_rfl) (by kernel_rfl) (by kernel_rfl) (fun _ _ _ h => h) (Or.inl ⟨by rfl, ?_⟩) hH ?_
          case refine_2 => intro w hSw; go_simp; try with_reducible rfl
          try simp only [Z1, Z2, Z3, Z4, Z5, Z6, Z7]
          refine wpAnyH_take (i := 14) (v := ?_) rfl (by kernel_rfl) (by kernel_rfl) (by kernel_rfl) (fun _ _ _ h => h) (Or.inl ⟨by rfl, ?_⟩) hH ?_
          case refine_2 => intro w hSw; go_simp; try with_reducible rfl
          try simp only [Z1, Z2, Z3, Z4, Z5, Z6, Z7]
          refine wpAnyH_take (i := 15) (v := ?_) rfl (by kernel_rfl) (by kernel_rfl) (by kernel_rfl) (fun _ _ _ h => h) (Or.inl ⟨by rfl, ?_⟩) hH ?_
          case refine_2 => intro w hSw; obtain ⟨kw, kb⟩ := hSw; replace kw : Blk w g 48 (nodeC E V M X d1) := kw; replace kb : Blk w mb 58 #[.int .i64 m.kind, .int .i64 m.frm, .int .i64 m.dst, .int .u64 (m.term : Int), .int .u64 (m.index : Int), .int .u64 (m.logTerm : Int), .int .u64 (m.commit : Int), .slice A m.ents.length c, .bool m.ok, .slice none 0 0] := kb; have n1 : w.cell? ⟨_, 1, none⟩ = some (.int .i64 d1.vote) := Blk.cell kw 1; clear kw kb; go_simp; try with_reducible rfl
          try simp only [Z1, Z2, Z3, Z4, Z5, Z6, Z7]
          refine wpAnyH_take (i := 16) (v := ?_) rfl (by kernel_rfl) (by kernel_rfl) (by kernel_rfl) (fun _ _ _ h => h) (Or.inl ⟨by rfl, ?_⟩) hH ?_
          case refine_2 => intro w hSw; go_simp; try with_reducible rfl
          try simp only [Z1, Z2, Z3, Z4, Z5, Z6, Z7]
          refine wpAnyH_take (i := 17) (v := ?_) rfl (by kernel_rfl) (by kernel_rfl) (by kernel_rfl) (fun _ _ _ h => h) (Or.inl ⟨by rfl, ?_⟩) hH ?_
          case refine_2 => intro w hSw; go_simp; try with_reducible rfl
          try simp only [Z1, Z2, Z3, Z4, Z5, Z6, Z7]
          refine wpAnyH_take (i := 18) (v := undef) rfl (by kernel_rfl) (by kernel_rfl) (by kernel_rfl) (fun _ _ _ h => h) (Or.inr ⟨by rfl, rfl⟩) hH ?_
          try simp only [Z1, Z2, Z3, Z4, Z5, Z6, Z7]
          refine wpAnyH_take (i := 19) (v := undef) rfl (by kernel_rfl) (by kernel_rfl) (by kernel_rfl) (fun _ _ _ h => h) (Or.inr ⟨by rfl, rfl⟩) hH ?_
          try simp only [Z1, Z2, Z3, Z4, Z5, Z6, Z7]
          refine wpAnyH_take (i := 20) (v := undef) rfl (by kernel_rfl) (by kernel_rfl) (by kernel_rfl) (fun _ _ _ h => h) (Or.inr ⟨by rfl, rfl⟩) hH ?_
          try simp only [Z1, Z2, Z3, Z4, Z5, Z6, Z7]
          refine wpAnyH_take (i := 21) (v := undef) rfl (by kernel_rfl) (by kernel_rfl) (by kernel_rfl) (fun _ _ _ h => h) (Or.inr ⟨by rfl, rfl⟩) hH ?_
          try simp only [Z1, Z2, Z3, Z4, Z5, Z6, Z7]
          refine wpAnyH_take (i := 22) (v := undef) rfl (by kernel_rfl) (by kernel_rfl) (by kernel_rfl) (fun _ _ _ h => h) (Or.inr ⟨by rfl, rfl⟩) hH ?_
          try simp only [Z1, Z2, Z3, Z4, Z5, Z6, Z7]
          refine wpAnyH_take (i := 23) (v := undef) rfl (by kernel_rfl) (by kernel_rfl) (by kernel_rfl) (fun _ _ _ h => h) (Or.inr ⟨by rfl, rfl⟩) hH ?_
          try simp only [Z1, Z2, Z3, Z4, Z5, Z6, Z7]
          refine wpAnyH_take (i := 24) (v := undef) rfl (by kernel_rfl) (by kernel_rfl) (by kernel_rfl) (fun _ _ _ h => h) (Or.inr ⟨by rfl, rfl⟩) hH ?_
          try simp only [Z1, Z2, Z3, Z4, Z5, Z6, Z7]
          refine wpAnyH_take (i := 25) (v := undef) rfl (by kernel_rfl) (by kernel_rfl) (by kernel_rfl) (fun _ _ _ h => h) (Or.inr ⟨by rfl, rfl⟩) hH ?_
          try simp only [Z1, Z2, Z3, Z4, Z5, Z6, Z7]
          refine wpAnyH_take (i := 26) (v := undef) rfl (by kernel_rfl) (by kernel_rfl) (by kernel_rfl) (fun _ _ _ h => h) (Or.inr ⟨by rfl, rfl⟩) hH ?_
          try simp only [Z1, Z2, Z3, Z4, Z5, Z6, Z7]
          refine wpAnyH_take (i := 27) (v := ?_) rfl (by kernel_rfl) (by kernel_rfl) (by kernel_rfl) (fun _ _ _ h => h) (Or.inl ⟨by rfl, ?_⟩) hH ?_
          case refine_2 => intro w hSw; go_simp; try with_reducible rfl
          try simp only [Z1, Z2, Z3, Z4, Z5, Z6, Z7]
          refine wpAnyH_take (i := 28) (v := ?_) rfl (by kernel_rfl) (by kernel_rfl) (by kernel_rfl) (fun _ _ _ h => h) (Or.inl ⟨by rfl, ?_⟩) hH ?_
          case refine_2 => intro w hSw; go_simp; try with_reducible rfl
          try simp only [Z1, Z2, Z3, Z4, Z5, Z6, Z7]
          refine wpAnyH_take (i := 29) (v := ?_) rfl (by kernel_rfl) (by kernel_rfl) (by kernel_rfl) (fun _ _ _ h => h) (Or.inl ⟨by rfl, ?_⟩) hH ?_
          case refine_2 => intro w hSw; go_simp; try with_reducible rfl
          try simp only [Z1, Z2, Z3, Z4, Z5, Z6, Z7]
          refine wpAnyH_take (i := 30) (v := ?_) rfl (by kernel_rfl) (by kernel_rfl) (by kernel_rfl) (fun _ _ _ h => h) (Or.inl ⟨by rfl, ?_⟩) hH ?_
          case refine_2 => intro w hSw; go_simp; try with_reducible rfl
          try simp only [Z1, Z2, Z3, Z4, Z5, Z6, Z7]
          refine wpAnyH_take (i := 31) (v := ?_) rfl (by kernel_rfl) (by kernel_rfl) (by kernel_rfl) (fun _ _ _ h => h) (Or.inl ⟨by rfl, ?_⟩) hH ?_
          case refine_2 => intro w hSw; obtain ⟨kw, kb⟩ := hSw; replace kw : Blk w g 48 (nodeC E V M X d1) := kw; replace kb : Blk w mb 58 #[.int .i64 m.kind, .int .i64 m.frm, .int .i64 m.dst, .int .u64 (m.term : Int), .int .u64 (m.index : Int), .int .u64 (m.logTerm : Int), .int .u64 (m.commit : Int), .slice A m.ents.length c, .bool m.ok, .slice none 0 0] := kb; have s0 : w.cell? ⟨_, 0, none⟩ = some (.int .i64 m.kind) := Blk.cell kb 0; have s1 : w.cell? ⟨_, 1, none⟩ = some (.int .i64 m.frm) := Blk.cell kb 1; have s2 : w.cell? ⟨_, 2, none⟩ = some (.int .i64 m.dst) := Blk.cell kb 2; have s3 : w.cell? ⟨_, 3, none⟩ = some (.int .u64 (m.term : Int)) := Blk.cell kb 3; have s4 : w.cell? ⟨_, 4, none⟩ = some (.int .u64 (m.index : Int)) := Blk.cell kb 4; have s5 : w.cell? ⟨_, 5, none⟩ = some (.int .u64 (m.logTerm : Int)) := Blk.cell kb 5; have s6 : w.cell? ⟨_, 6, none⟩ = some (.int .u64 (m.commit : Int)) := Blk.cell kb 6; have s7 : w.cell? ⟨_, 7, none⟩ = some (.slice A m.ents.length c) := Blk.cell kb 7; have s8 : w.cell? ⟨_, 8, none⟩ = some (.bool m.ok) := Blk.cell kb 8; have s9 : w.cell? ⟨_, 9, none⟩ = some (.slice none 0 0) := Blk.cell kb 9; clear kw kb; go_simp; try with_reducible rfl
          try simp only [Z1, Z2, Z3, Z4, Z5, Z6, Z7]
          refine wpAnyH_ready (rs := [32]) (by kernel_rfl) (by simp) ?_
          refine AllReadyH.cons rfl (fun K hK => ?_) AllReadyH.nil
          go_simp
          have TU := up_any g S E V M X d1 A c m w4.drew (N4.below ((Below.refl _ _).drew)) hb1
          rw [show msgC A c m = #[.int .i64 m.kind, .int .i64 m.frm, .int .i64 m.dst, .int .u64 (m.term : Int), .int .u64 (m.index : Int), .int .u64 (m.logTerm : Int), .int .u64 (m.commit : Int), .slice A m.ents.length c, .bool m.ok, .slice none 0 0] from rfl] at TU
          refine TU.mono ?_
          clear TU
          rintro en w7 ⟨rfl, b7⟩
          have k7 := kS.1.below b7 kS.1.lt
          have km7 := kS.2.below b7 kS.2.lt
          have b07 := below_step ((Below.refl w4.heap.size w4).drew) b7
          refine hK.out _ _ ⟨k7, km7⟩ (fun hH => ?_)
          clear hK K
          try dsimp only
          try simp only [Z1, Z2, Z3, Z4, Z5, Z6, Z7]
          refine wpAnyH_take (i := 33) (v := ?_) rfl (by kernel_rfl) (by kernel_rfl) (by kernel_rfl) (fun _ _ _ h => h) (Or.inl ⟨by rfl, ?_⟩) hH ?_
          case refine_2 => intro w hSw; go_simp; try with_reducible rfl
          try simp only [Z1, Z2, Z3, Z4, Z5, Z6, Z7]
          refine wpAnyH_take (i := 34) (v := ?_) rfl (by kernel_rfl) (by kernel_rfl) (by kernel_rfl) (fun _ _ _ h => h) (Or.inl ⟨by rfl, ?_⟩) hH ?_
          case refine_2 => intro w hSw; go_simp; try with_reducible rfl
          try simp only [Z1, Z2, Z3, Z4, Z5, Z6, Z7]
          refine wpAnyH_done (by kernel_rfl) ?_ _
          refine NoPanic.normal ?_
          go_wp2_with fail
          go_meet
          case rel => exact ⟨_, rfl, HOK, b07⟩
        · have h2i : (d1.vote == -1) = false := by rw [beq_eq_false_iff_ne]; exact h2
          by_cases h3 : d1.vote = m.frm
          · have h3i : (d1.vote == m.frm) = true := by rw [beq_iff_eq]; exact h3
            have HOK : Hid (okP d1 m = upP d1 m) := by show _ = _; unfold okP; rw [decide_eq_true h1, decide_eq_false h2, decide_eq_true h3]; rfl
            clear h1 h2 h3
            refine wp_region_noPanic ?_
            have kS : Blk w4.drew g 48 (nodeC E V M X d1) ∧ Blk w4.drew mb 58 #[.int .i64 m.kind, .int .i64 m.frm, .int .i64 m.dst, .int .u64 (m.term : Int), .int .u64 (m.index : Int), .int .u64 (m.logTerm : Int), .int .u64 (m.commit : Int), .slice A m.ents.length c, .bool m.ok, .slice none 0 0] := ⟨N4.blk.drew, km4.drew⟩
            refine wp_region_held_drew (S := (fun Y => Blk Y g 48 (nodeC E V M X d1) ∧ Blk Y mb 58 #[.int .i64 m.kind, .int .i64 m.frm, .int .i64 m.dst, .int .u64 (m.term : Int), .int .u64 (m.index : Int), .int .u64 (m.logTerm : Int), .int .u64 (m.commit : Int), .slice A m.ents.length c, .bool m.ok, .slice none 0 0])) (by kernel_rfl) kS (fun hH => ?_)
            clear n0 n1 s3 s1
            refine wpAnyH_take (i := 0) (v := ?_) rfl (by kernel_rfl) (by kernel_rfl) (by kernel_rfl) (fun _ _ _ h => h) (Or.inl ⟨by rfl, ?_⟩) hH ?_
            case refine_2 => intro w hSw; go_simp; try with_reducible rfl
            try simp only [Z1, Z2, Z4, Z5, Z6, Z7]
            refine wpAnyH_take (i := 1) (v := ?_) rfl (by kernel_rfl) (by kernel_rfl) (by kernel_rfl) (fun _ _ _ h => h) (Or.inl ⟨by rfl, ?_⟩) hH ?_
            case refine_2 => intro w hSw; obtain ⟨kw, kb⟩ := hSw; replace kw : Blk w g 48 (nodeC E V M X d1) := kw; replace kb : Blk w mb 58 #[.int .i64 m.kind, .int .i64 m.frm, .int .i64 m.dst, .int .u64 (m.term : Int), .int .u64 (m.index : Int), .int .u64 (m.logTerm : Int), .int .u64 (m.commit : Int), .slice A m.ents.length c, .bool m.ok, .slice none 0 0] := kb; have s3 : w.cell? ⟨_, 3, none⟩ = some (.int .u64 (m.term : Int)) := Blk.cell kb 3; clear kw kb; go_simp; try with_reducible rfl
            try simp only [Z1, Z2, Z3, Z4, Z5, Z6, Z7]
            refine wpAnyH_take (i := 2) (v := ?_) rfl (by kernel_rfl) (by kernel_rfl) (by kernel_rfl) (fun _ _ _ h => h) (Or.inl ⟨by rfl, ?_⟩) hH ?_
            case refine_2 => intro w hSw; go_simp; try with_reducible rfl
            try simp only [Z1, Z2, Z3, Z4, Z5, Z6, Z7]
            refine wpAnyH_take (i := 3) (v := ?_) rfl (by kernel_rfl) (by kernel_rfl) (by kernel_rfl) (fun _ _ _ h => h) (Or.inl ⟨by rfl, ?_⟩) hH ?_
            case refine_2 => intro w hSw; go_simp; try with_reducible rfl
            try simp only [Z1, Z2, Z3, Z4, Z5, Z6, Z7]
            refine wpAnyH_take (i := 4) (v := ?_) rfl (by kernel_rfl) (by kernel_rfl) (by kernel_rfl) (fun _ _ _ h => h) (Or.inl ⟨by rfl, ?_⟩) hH ?_
            case refine_2 => intro w hSw; go_simp; try with_reducible rfl
            try simp only [Z1, Z2, Z3, Z4, Z5, Z6, Z7]
            refine wpAnyH_take (i := 5) (v := ?_) rfl (by kernel_rfl) (by kernel_rfl) (by kernel_rfl) (fun _ _ _ h => h) (Or.inl ⟨by rfl, ?_⟩) hH ?_
            case refine_2 => intro w hSw; go_simp; try with_reducible rfl
            try simp only [Z1, Z2, Z3, Z4, Z5, Z6, Z7]
            refine wpAnyH_take (i := 6) (v := ?_) rfl (by kernel_rfl) (by kernel_rfl) (by kernel_rfl) (fun _ _ _ h => h) (Or.inl ⟨by rfl, ?_⟩) hH ?_
            case refine_2 => intro w hSw; go_simp; try with_reducible rfl
            try simp only [Z1, Z2, Z3, Z4, Z5, Z6, Z7]
            refine wpAnyH_take (i := 7) (v := ?_) rfl (by kernel_rfl) (by kernel_rfl) (by kernel_rfl) (fun _ _ _ h => h) (Or.inl ⟨by rfl, ?_⟩) hH ?_
            case refine_2 => intro w hSw; obtain ⟨kw, kb⟩ := hSw; replace kw : Blk w g 48 (nodeC E V M X d1) := kw; replace kb : Blk w mb 58 #[.int .i64 m.kind, .int .i64 m.frm, .int .i64 m.dst, .int .u64 (m.term : Int), .int .u64 (m.index : Int), .int .u64 (m.logTerm : Int), .int .u64 (m.commit : Int), .slice A m.ents.length c, .bool m.ok, .slice none 0 0] := kb; have n0 : w.cell? ⟨_, 0, none⟩ = some (.int .u64 (d1.term : Int)) := Blk.cell kw 0; clear kw kb; go_simp; try with_reducible rfl
            try simp only [Z1, Z2, Z3, Z4, Z5, Z6, Z7]
            refine wpAnyH_take (i := 8) (v := ?_) rfl (by kernel_rfl) (by kernel_rfl) (by kernel_rfl) (fun _ _ _ h => h) (Or.inl ⟨by rfl, ?_⟩) hH ?_
            case refine_2 => intro w hSw; go_simp; try with_reducible rfl
            try simp only [Z1, Z2, Z3, Z4, Z5, Z6, Z7]
            refine wpAnyH_take (i := 9) (v := ?_) rfl (by kernel_rfl) (by kernel_rfl) (by kernel_rfl) (fun _ _ _ h => h) (Or.inl ⟨by rfl, ?_⟩) hH ?_
            case refine_2 => intro w hSw; go_simp; try with_reducible rfl
            try simp only [Z1, Z2, Z3, Z4, Z5, Z6, Z7]
            refine wpAnyH_take (i := 10) (v := ?_) rfl (by kernel_rfl) (by kernel_rfl) (by kernel_rfl) (fun _ _ _ h => h) (Or.inl ⟨by rfl, ?_⟩) hH ?_
            case refine_2 => intro w hSw; go_simp; try with_reducible rfl
            try simp only [Z1, Z2, Z3, Z4, Z5, Z6, Z7]
            refine wpAnyH_take (i := 11) (v := ?_) rfl (by kernel_rfl) (by kernel_rfl) (by kernel_rfl) (fun _ _ _ h => h) (Or.inl ⟨by rfl, ?_⟩) hH ?_
            case refine_2 => intro w hSw; go_simp; try with_reducible rfl
            try simp only [Z1, Z2, Z3, Z4, Z5, Z6, Z7]
            refine wpAnyH_take (i := 12) (v := ?_) rfl (by kernel_rfl) (by kernel_rfl) (by kernel_rfl) (fun _ _ _ h => h) (Or.inl ⟨by rfl, ?_⟩) hH ?_
            case refine_2 => intro w hSw; go_simp; try with_reducible rfl
            try simp only [Z1, Z2, Z3, Z4, Z5, Z6, Z7]
            refine wpAnyH_take (i := 13) (v := ?_) rfl (by kernel_rfl) (by kernel_rfl) (by kernel_rfl) (fun _ _ _ h => h) (Or.inl ⟨by rfl, ?_⟩) hH ?_
            case refine_2 => intro w hSw; go_simp; try with_reducible rfl
            try simp only [Z1, Z2, Z3, Z4, Z5, Z6, Z7]
            refine wpAnyH_take (i := 14) (v := ?_) rfl (by kernel_rfl) (by kernel_rfl) (by kernel_rfl) (fun _ _ _ h => h) (Or.inl ⟨by rfl, ?_⟩) hH ?_
            case refine_2 => intro w hSw; go_simp; try with_reducible rfl
            try simp only [Z1, Z2, Z3, Z4, Z5, Z6, Z7]
            refine wpAnyH_take (i := 15) (v := ?_) rfl (by kernel_rfl) (by kernel_rfl) (by kernel_rfl) (fun _ _ _ h => h) (Or.inl ⟨by rfl, ?_⟩) hH ?_
            case refine_2 => intro w hSw; obtain ⟨kw, kb⟩ := hSw; replace kw : Blk w g 48 (nodeC E V M X d1) := kw; replace kb : Blk w mb 58 #[.int .i64 m.kind, .int .i64 m.frm, .int .i64 m.dst, .int .u64 (m.term : Int), .int .u64 (m.index : Int), .int .u64 (m.logTerm : Int), .int .u64 (m.commit : Int), .slice A m.ents.length c, .bool m.ok, .slice none 0 0] := kb; have n1 : w.cell? ⟨_, 1, none⟩ = some (.int .i64 d1.vote) := Blk.cell kw 1; clear kw kb; go_simp; try with_reducible rfl
            try simp only [Z1, Z2, Z3, Z4, Z5, Z6, Z7]
            refine wpAnyH_take (i := 16) (v := ?_) rfl (by kernel_rfl) (by kernel_rfl) (by kernel_rfl) (fun _ _ _ h => h) (Or.inl ⟨by rfl, ?_⟩) hH ?_
            case refine_2 => intro w hSw; go_simp; try with_reducible rfl
            try simp only [Z1, Z2, Z3, Z4, Z5, Z6, Z7]
            refine wpAnyH_take (i := 17) (v := ?_) rfl (by kernel_rfl) (by kernel_rfl) (by kernel_rfl) (fun _ _ _ h => h) (Or.inl ⟨by rfl, ?_⟩) hH ?_
            case refine_2 => intro w hSw; go_simp; try with_reducible rfl
            try simp only [Z1, Z2, Z3, Z4, Z5, Z6, Z7]
            refine wpAnyH_take (i := 18) (v := ?_) rfl (by kernel_rfl) (by kernel_rfl) (by kernel_rfl) (fun _ _ _ h => h) (Or.inl ⟨by rfl, ?_⟩) hH ?_
            case refine_2 => intro w hSw; go_simp; try with_reducible rfl
            try simp only [Z1, Z2, Z3, Z4, Z5, Z6, Z7]
            refine wpAnyH_take (i := 19) (v := ?_) rfl (by kernel_rfl) (by kernel_rfl) (by kernel_rfl) (fun _ _ _ h => h) (Or.inl ⟨by rfl, ?_⟩) hH ?_
            case refine_2 => intro w hSw; go_simp; try with_reducible rfl
            try simp only [Z1, Z2, Z3, Z4, Z5, Z6, Z7]
            refine wpAnyH_take (i := 20) (v := ?_) rfl (by kernel_rfl) (by kernel_rfl) (by kernel_rfl) (fun _ _ _ h => h) (Or.inl ⟨by rfl, ?_⟩) hH ?_
            case refine_2 => intro w hSw; go_simp; try with_reducible rfl
            try simp only [Z1, Z2, Z3, Z4, Z5, Z6, Z7]
            refine wpAnyH_take (i := 21) (v := ?_) rfl (by kernel_rfl) (by kernel_rfl) (by kernel_rfl) (fun _ _ _ h => h) (Or.inl ⟨by rfl, ?_⟩) hH ?_
            case refine_2 => intro w hSw; go_simp; try with_reducible rfl
            try simp only [Z1, Z2, Z3, Z4, Z5, Z6, Z7]
            refine wpAnyH_take (i := 22) (v := ?_) rfl (by kernel_rfl) (by kernel_rfl) (by kernel_rfl) (fun _ _ _ h => h) (Or.inl ⟨by rfl, ?_⟩) hH ?_
            case refine_2 => intro w hSw; go_simp; try with_reducible rfl
            try simp only [Z1, Z2, Z3, Z4, Z5, Z6, Z7]
            refine wpAnyH_take (i := 23) (v := ?_) rfl (by kernel_rfl) (by kernel_rfl) (by kernel_rfl) (fun _ _ _ h => h) (Or.inl ⟨by rfl, ?_⟩) hH ?_
            case refine_2 => intro w hSw; obtain ⟨kw, kb⟩ := hSw; replace kw : Blk w g 48 (nodeC E V M X d1) := kw; replace kb : Blk w mb 58 #[.int .i64 m.kind, .int .i64 m.frm, .int .i64 m.dst, .int .u64 (m.term : Int), .int .u64 (m.index : Int), .int .u64 (m.logTerm : Int), .int .u64 (m.commit : Int), .slice A m.ents.length c, .bool m.ok, .slice none 0 0] := kb; have n1 : w.cell? ⟨_, 1, none⟩ = some (.int .i64 d1.vote) := Blk.cell kw 1; clear kw kb; go_simp; try with_reducible rfl
            try simp only [Z1, Z2, Z3, Z4, Z5, Z6, Z7]
            refine wpAnyH_take (i := 24) (v := ?_) rfl (by kernel_rfl) (by kernel_rfl) (by kernel_rfl) (fun _ _ _ h => h) (Or.inl ⟨by rfl, ?_⟩) hH ?_
            case refine_2 => intro w hSw; go_simp; try with_reducible rfl
            try simp only [Z1, Z2, Z3, Z4, Z5, Z6, Z7]
            refine wpAnyH_take (i := 25) (v := ?_) rfl (by kernel_rfl) (by kernel_rfl) (by kernel_rfl) (fun _ _ _ h => h) (Or.inl ⟨by rfl, ?_⟩) hH ?_
            case refine_2 => intro w hSw; obtain ⟨kw, kb⟩ := hSw; replace kw : Blk w g 48 (nodeC E V M X d1) := kw; replace kb : Blk w mb 58 #[.int .i64 m.kind, .int .i64 m.frm, .int .i64 m.dst, .int .u64 (m.term : Int), .int .u64 (m.index : Int), .int .u64 (m.logTerm : Int), .int .u64 (m.commit : Int), .slice A m.ents.length c, .bool m.ok, .slice none 0 0] := kb; have s1 : w.cell? ⟨_, 1, none⟩ = some (.int .i64 m.frm) := Blk.cell kb 1; clear kw kb; go_simp; try with_reducible rfl
            try simp only [Z1, Z2, Z3, Z4, Z5, Z6, Z7]
            refine wpAnyH_take (i := 26) (v := ?_) rfl (by kernel_rfl) (by kernel_rfl) (by kernel_rfl) (fun _ _ _ h => h) (Or.inl ⟨by rfl, ?_⟩) hH ?_
            case refine_2 => intro w hSw; go_simp; try with_reducible rfl
            try simp only [Z1, Z2, Z3, Z4, Z5, Z6, Z7]
            refine wpAnyH_take (i := 27) (v := ?_) rfl (by kernel_rfl) (by kernel_rfl) (by kernel_rfl) (fun _ _ _ h => h) (Or.inl ⟨by rfl, ?_⟩) hH ?_
            case refine_2 => intro w hSw; go_simp; try with_reducible rfl
            try simp only [Z1, Z2, Z3, Z4, Z5, Z6, Z7]
            refine wpAnyH_take (i := 28) (v := ?_) rfl (by kernel_rfl) (by kernel_rfl) (by kernel_rfl) (fun _ _ _ h => h) (Or.inl ⟨by rfl, ?_⟩) hH ?_
            case refine_2 => intro w hSw; go_simp; try with_reducible rfl
            try simp only [Z1, Z2, Z3, Z4, Z5, Z6, Z7]
            refine wpAnyH_take (i := 29) (v := ?_) rfl (by kernel_rfl) (by kernel_rfl) (by kernel_rfl) (fun _ _ _ h => h) (Or.inl ⟨by rfl, ?_⟩) hH ?_
            case refine_2 => intro w hSw; go_simp; try with_reducible rfl
            try simp only [Z1, Z2, Z3, Z4, Z5, Z6, Z7]
            refine wpAnyH_take (i := 30) (v := ?_) rfl (by kernel_rfl) (by kernel_rfl) (by kernel_rfl) (fun _ _ _ h => h) (Or.inl ⟨by rfl, ?_⟩) hH ?_
            case refine_2 => intro w hSw; go_simp; try with_reducible rfl
            try simp only [Z1, Z2, Z3, Z4, Z5, Z6, Z7]
            refine wpAnyH_take (i := 31) (v := ?_) rfl (by kernel_rfl) (by kernel_rfl) (by kernel_rfl) (fun _ _ _ h => h) (Or.inl ⟨by rfl, ?_⟩) hH ?_
            case refine_2 => intro w hSw; obtain ⟨kw, kb⟩ := hSw; replace kw : Blk w g 48 (nodeC E V M X d1) := kw; replace kb : Blk w mb 58 #[.int .i64 m.kind, .int .i64 m.frm, .int .i64 m.dst, .int .u64 (m.term : Int), .int .u64 (m.index : Int), .int .u64 (m.logTerm : Int), .int .u64 (m.commit : Int), .slice A m.ents.length c, .bool m.ok, .slice none 0 0] := kb; have s0 : w.cell? ⟨_, 0, none⟩ = some (.int .i64 m.kind) := Blk.cell kb 0; have s1 : w.cell? ⟨_, 1, none⟩ = some (.int .i64 m.frm) := Blk.cell kb 1; have s2 : w.cell? ⟨_, 2, none⟩ = some (.int .i64 m.dst) := Blk.cell kb 2; have s3 : w.cell? ⟨_, 3, none⟩ = some (.int .u64 (m.term : Int)) := Blk.cell kb 3; have s4 : w.cell? ⟨_, 4, none⟩ = some (.int .u64 (m.index : Int)) := Blk.cell kb 4; have s5 : w.cell? ⟨_, 5, none⟩ = some (.int .u64 (m.logTerm : Int)) := Blk.cell kb 5; have s6 : w.cell? ⟨_, 6, none⟩ = some (.int .u64 (m.commit : Int)) := Blk.cell kb 6; have s7 : w.cell? ⟨_, 7, none⟩ = some (.slice A m.ents.length c) := Blk.cell kb 7; have s8 : w.cell? ⟨_, 8, none⟩ = some (.bool m.ok) := Blk.cell kb 8; have s9 : w.cell? ⟨_, 9, none⟩ = some (.slice none 0 0) := Blk.cell kb 9; clear kw kb; go_simp; try with_reducible rfl
            try simp only [Z1, Z2, Z3, Z4, Z5, Z6, Z7]
            refine wpAnyH_ready (rs := [32]) (by kernel_rfl) (by simp) ?_
            refine AllReadyH.cons rfl (fun K hK => ?_) AllReadyH.nil
            go_simp
            have TU := up_any g S E V M X d1 A c m w4.drew (N4.below ((Below.refl _ _).drew)) hb1
            rw [show msgC A c m = #[.int .i64 m.kind, .int .i64 m.frm, .int .i64 m.dst, .int .u64 (m.term : Int), .int .u64 (m.index : Int), .int .u64 (m.logTerm : Int), .int .u64 (m.commit : Int), .slice A m.ents.length c, .bool m.ok, .slice none 0 0] from rfl] at TU
            refine TU.mono ?_
            clear TU
            rintro en w7 ⟨rfl, b7⟩
            have k7 := kS.1.below b7 kS.1.lt
            have km7 := kS.2.below b7 kS.2.lt
            have b07 := below_step ((Below.refl w4.heap.size w4).drew) b7
            refine hK.out _ _ ⟨k7, km7⟩ (fun hH => ?_)
            clear hK K
            try dsimp only
            try simp only [Z1, Z2, Z3, Z4, Z5, Z6, Z7]
            refine wpAnyH_take (i := 33) (v := ?_) rfl (by kernel_rfl) (by kernel_rfl) (by kernel_rfl) (fun _ _ _ h => h) (Or.inl ⟨by rfl, ?_⟩) hH ?_
            case refine_2 => intro w hSw; go_simp; try with_reducible rfl
            try simp only [Z1, Z2, Z3, Z4, Z5, Z6, Z7]
            refine wpAnyH_take (i := 34) (v := ?_) rfl (by kernel_rfl) (by kernel_rfl) (by kernel_rfl) (fun _ _ _ h => h) (Or.inl ⟨by rfl, ?_⟩) hH ?_
            case refine_2 => intro w hSw; go_simp; try with_reducible rfl
            try simp only [Z1, Z2, Z3, Z4, Z5, Z6, Z7]
            refine wpAnyH_done (by kernel_rfl) ?_ _
            refine NoPanic.normal ?_
            go_wp2_with fail
            go_meet
            case rel => exact ⟨_, rfl, HOK, b07⟩
          · have h3i : (d1.vote == m.frm) = false := by rw [beq_eq_false_iff_ne]; exact h3
            have HOK : Hid (okP d1 m = false) := by show _ = _; unfold okP; rw [decide_eq_true h1, decide_eq_false h2, decide_eq_false h3]; rfl
            clear h1 h2 h3
            go_quiet (fail)
            go_wp2_with fail
            go_meet
            case rel => exact ⟨_, rfl, HOK, below_drewN (Below.refl _ _) _⟩
      · have h1i : ((m.term : Int) == (d1.term : Int)) = false := by rw [beq_eq_false_iff_ne]; omega
        have HOK : Hid (okP d1 m = false) := by show _ = _; unfold okP; rw [decide_eq_false h1]; rfl
        clear h1
        go_quiet (fail)
        go_wp2_with fail
        go_meet
        case rel => exact ⟨_, rfl, HOK, below_drewN (Below.refl _ _) _⟩
    case rest =>
      obtain ⟨ok, rfl, HOK, bc⟩ := hcut
      have Nc := N4.below bc
      have kmc := km4.below bc km4.lt
      have Bc := B4.trans (.of_below bc)
      clear n0 n1 s3 s1 N4 B4 km4 bc
      cases ok with
      | true =>
        have s1 : wc.cell? ⟨mb, 1, none⟩ = some (.int .i64 m.frm) := kmc.cell 1
        have n1 : wc.cell? ⟨g, 1, none⟩ = some (.int .i64 d1.vote) := Nc.blk.cell 1
        have n11 : wc.cell? ⟨g, 11, none⟩ = some (.int .i64 d1.clock) := Nc.blk.cell 11
        have f1 : wc.frozen? ⟨g, 1, none⟩ = false := Nc.blk.frozen 1
        have f11 : wc.frozen? ⟨g, 11, none⟩ = false := Nc.blk.frozen 11
        have g5 : wc.grownBy ((wc.setCell ⟨g, 1, none⟩ (.int .i64 m.frm)).setCell ⟨g, 11, none⟩ (.int .i64 0)) (some g) := only_setCell (only_setCell (only_of_below (Below.refl _ _) (some g)) (.inl rfl) _) (.inl rfl) _
        have N5 : NodeAt ((wc.setCell ⟨g, 1, none⟩ (.int .i64 m.frm)).setCell ⟨g, 11, none⟩ (.int .i64 0)) g S E V M X { d1 with vote := m.frm, clock := 0 } := Nc.turn g5 ((Nc.blk.set_ 1 (.int .i64 m.frm)).set_ 11 (.int .i64 0)) ⟨rfl, rfl, rfl, rfl⟩
        have B5 := Bc.grown g5 (fun b e h => (HF.out b h).1 (Option.some.inj e).symm)
        have km5 := (kmc.far (p := ⟨g, 1, none⟩) (by show mb ≠ g; omega) (.int .i64 m.frm)).far (p := ⟨g, 11, none⟩) (by show mb ≠ g; omega) (.int .i64 0)
        have HV : Hid (voteP d m = ({ d1 with vote := m.frm, clock := 0 }, answerP { d1 with vote := m.frm, clock := 0 } m { kind := 4, term := d1.term, ok := true })) := by show _ = _; rw [HVP.out]; unfold voteR; rw [HOK.out]; rfl
        clear HVP
        obtain ⟨d2, hd2⟩ : ∃ d2 : LNode, d2 = { d1 with vote := m.frm, clock := 0 } := ⟨_, rfl⟩
        rw [← hd2] at N5 HV
        have ht2 : d1.term = d2.term := by rw [hd2]
        have hb2 : GB d2 := by rw [hd2]; exact ⟨hb1.base, hb1.bt, hb1.len, hb1.term, hb1.commit⟩
        rw [ht2] at HV
        clear hd2 ht2 hb1
        go_upto_region 6 with fail
        clear s1 n1 n11 f1 f11 g5 Nc Bc kmc
        generalize ((wc.setCell ⟨g, 1, none⟩ (.int .i64 m.frm)).setCell ⟨g, 11, none⟩ (.int .i64 0)) = w5 at *
        refine wp_region_noPanic ?_
        have kS : Blk w5.drew g 48 (nodeC E V M X d2) ∧ Blk w5.drew mb 58 #[.int .i64 m.kind, .int .i64 m.frm, .int .i64 m.dst, .int .u64 (m.term : Int), .int .u64 (m.index : Int), .int .u64 (m.logTerm : Int), .int .u64 (m.commit : Int), .slice A m.ents.length c, .bool m.ok, .slice none 0 0] := ⟨N5.blk.drew, km5.drew⟩
        refine wp_region_held_drew (S := fun Y => Blk Y g 48 (nodeC E V M X d2) ∧ Blk Y mb 58 #[.int .i64 m.kind, .int .i64 m.frm, .int .i64 m.dst, .int .u64 (m.term : Int), .int .u64 (m.index : Int), .int .u64 (m.logTerm : Int), .int .u64 (m.commit : Int), .slice A m.ents.length c, .bool m.ok, .slice none 0 0]) (by kernel_rfl) kS (fun hH => ?_)
        refine wpAnyH_take (i := 0) (v := ?_) rfl (by kernel_rfl) (by kernel_rfl) (by kernel_rfl) (fun _ _ _ h => h) (Or.inl ⟨by rfl, ?_⟩) hH ?_
        case refine_2 => intro w hSw; go_simp; try with_reducible rfl
        try simp only [Z1, Z2, Z4, Z5, Z6, Z7]
        refine wpAnyH_take (i := 1) (v := ?_) rfl (by kernel_rfl) (by kernel_rfl) (by kernel_rfl) (fun _ _ _ h => h) (Or.inl ⟨by rfl, ?_⟩) hH ?_
        case refine_2 => intro w hSw; obtain ⟨kw, kb⟩ := hSw; replace kw : Blk w g 48 (nodeC E V M X d2) := kw; replace kb : Blk w mb 58 #[.int .i64 m.kind, .int .i64 m.frm, .int .i64 m.dst, .int .u64 (m.term : Int), .int .u64 (m.index : Int), .int .u64 (m.logTerm : Int), .int .u64 (m.commit : Int), .slice A m.ents.length c, .bool m.ok, .slice none 0 0] := kb; have s0 : w.cell? ⟨_, 0, none⟩ = some (.int .i64 m.kind) := Blk.cell kb 0; have s1 : w.cell? ⟨_, 1, none⟩ = some (.int .i64 m.frm) := Blk.cell kb 1; have s2 : w.cell? ⟨_, 2, none⟩ = some (.int .i64 m.dst) := Blk.cell kb 2; have s3 : w.cell? ⟨_, 3, none⟩ = some (.int .u64 (m.term : Int)) := Blk.cell kb 3; have s4 : w.cell? ⟨_, 4, none⟩ = some (.int .u64 (m.index : Int)) := Blk.cell kb 4; have s5 : w.cell? ⟨_, 5, none⟩ = some (.int .u64 (m.logTerm : Int)) := Blk.cell kb 5; have s6 : w.cell? ⟨_, 6, none⟩ = some (.int .u64 (m.commit : Int)) := Blk.cell kb 6; have s7 : w.cell? ⟨_, 7, none⟩ = some (.slice A m.ents.length c) := Blk.cell kb 7; have s8 : w.cell? ⟨_, 8, none⟩ = some (.bool m.ok) := Blk.cell kb 8; have s9 : w.cell? ⟨_, 9, none⟩ = some (.slice none 0 0) := Blk.cell kb 9; clear kw kb; go_simp; try with_reducible rfl
        try simp only [Z1, Z2, Z3, Z4, Z5, Z6, Z7]
        refine wpAnyH_take (i := 2) (v := ?_) rfl (by kernel_rfl) (by kernel_rfl) (by kernel_rfl) (fun _ _ _ h => h) (Or.inl ⟨by rfl, ?_⟩) hH ?_
        case refine_2 => intro w hSw; go_simp; try with_reducible rfl
        try simp only [Z1, Z2, Z3, Z4, Z5, Z6, Z7]
        refine wpAnyH_take (i := 3) (v := ?_) rfl (by kernel_rfl) (by kernel_rfl) (by kernel_rfl) (fun _ _ _ h => h) (Or.inl ⟨by rfl, ?_⟩) hH ?_
        case refine_2 => intro w hSw; go_simp; try with_reducible rfl
        try simp only [Z1, Z2, Z3, Z4, Z5, Z6, Z7]
        refine wpAnyH_take (i := 4) (v := ?_) rfl (by kernel_rfl) (by kernel_rfl) (by kernel_rfl) (fun _ _ _ h => h) (Or.inl ⟨by rfl, ?_⟩) hH ?_
        case refine_2 => intro w hSw; go_simp; try with_reducible rfl
        try simp only [Z1, Z2, Z3, Z4, Z5, Z6, Z7]
        refine wpAnyH_take (i := 5) (v := ?_) rfl (by kernel_rfl) (by kernel_rfl) (by kernel_rfl) (fun _ _ _ h => h) (Or.inl ⟨by rfl, ?_⟩) hH ?_
        case refine_2 => intro w hSw; go_simp; try with_reducible rfl
        try simp only [Z1, Z2, Z3, Z4, Z5, Z6, Z7]
        refine wpAnyH_take (i := 6) (v := ?_) rfl (by kernel_rfl) (by kernel_rfl) (by kernel_rfl) (fun _ _ _ h => h) (Or.inl ⟨by rfl, ?_⟩) hH ?_
        case refine_2 => intro w hSw; go_simp; try with_reducible rfl
        try simp only [Z1, Z2, Z3, Z4, Z5, Z6, Z7]
        refine wpAnyH_take (i := 7) (v := ?_) rfl (by kernel_rfl) (by kernel_rfl) (by kernel_rfl) (fun _ _ _ h => h) (Or.inl ⟨by rfl, ?_⟩) hH ?_
        case refine_2 => intro w hSw; obtain ⟨kw, kb⟩ := hSw; replace kw : Blk w g 48 (nodeC E V M X d2) := kw; replace kb : Blk w mb 58 #[.int .i64 m.kind, .int .i64 m.frm, .int .i64 m.dst, .int .u64 (m.term : Int), .int .u64 (m.index : Int), .int .u64 (m.logTerm : Int), .int .u64 (m.commit : Int), .slice A m.ents.length c, .bool m.ok, .slice none 0 0] := kb; have n0 : w.cell? ⟨_, 0, none⟩ = some (.int .u64 (d2.term : Int)) := Blk.cell kw 0; clear kw kb; go_simp; try with_reducible rfl
        try simp only [Z1, Z2, Z3, Z4, Z5, Z6, Z7]
        refine wpAnyH_take (i := 8) (v := ?_) rfl (by kernel_rfl) (by kernel_rfl) (by kernel_rfl) (fun _ _ _ h => h) (Or.inl ⟨by rfl, ?_⟩) hH ?_
        case refine_2 => intro w hSw; go_simp; try with_reducible rfl
        try simp only [Z1, Z2, Z3, Z4, Z5, Z6, Z7]
        refine wpAnyH_take (i := 9) (v := ?_) rfl (by kernel_rfl) (by kernel_rfl) (by kernel_rfl) (fun _ _ _ h => h) (Or.inl ⟨by rfl, ?_⟩) hH ?_
        case refine_2 => intro w hSw; go_simp; try with_reducible rfl
        try simp only [Z1, Z2, Z3, Z4, Z5, Z6, Z7]
        refine wpAnyH_ready (rs := [10]) (by kernel_rfl) (by simp) ?_
        refine AllReadyH.cons rfl (fun K hK => ?_) AllReadyH.nil
        go_simp
        have TU := answer_any g E V M X d2 A none c 0 m { kind := 4, term := d2.term, ok := true } (fun _ => False) w5.drew kS.1 (MsgAt.nil_ _ _ _ rfl (by have := hb2.term; show d2.term ≤ _; omega) (Nat.zero_le _) (Nat.zero_le _) (Nat.zero_le _))
        rw [show msgC A c m = #[.int .i64 m.kind, .int .i64 m.frm, .int .i64 m.dst, .int .u64 (m.term : Int), .int .u64 (m.index : Int), .int .u64 (m.logTerm : Int), .int .u64 (m.commit : Int), .slice A m.ents.length c, .bool m.ok, .slice none 0 0] from rfl] at TU
        replace TU : Calls Try.prog 36 #[.pointer (some ⟨g, 0, none⟩), .agg #[.int .i64 m.kind, .int .i64 m.frm, .int .i64 m.dst, .int .u64 (m.term : Int), .int .u64 (m.index : Int), .int .u64 (m.logTerm : Int), .int .u64 (m.commit : Int), .slice A m.ents.length c, .bool m.ok, .slice none 0 0], .agg #[.int .i64 4, .int .i64 0, .int .i64 0, .int .u64 (d2.term : Int), .int .u64 0, .int .u64 0, .int .u64 0, .slice none 0 0, .bool true, .slice none 0 0]] w5.drew _ := TU
        refine TU.mono ?_
        clear TU
        rintro en w7 ⟨gb, rfl, o7, b7⟩
        have k7 := kS.1.below b7 kS.1.lt
        have km7 := kS.2.below b7 kS.2.lt
        refine hK.out _ _ ⟨k7, km7⟩ (fun hH => ?_)
        clear hK K
        try dsimp only
        try simp only [Z1, Z2, Z3, Z4, Z5, Z6, Z7]
        refine wpAnyH_take (i := 11) (v := ?_) rfl (by kernel_rfl) (by kernel_rfl) (by kernel_rfl) (fun _ _ _ h => h) (Or.inl ⟨by rfl, ?_⟩) hH ?_
        case refine_2 => intro w hSw; go_simp; try with_reducible rfl
        try simp only [Z1, Z2, Z3, Z4, Z5, Z6, Z7]
        refine wpAnyH_done (by kernel_rfl) ?_ _
        refine NoPanic.normal ?_
        have D7 : ND w7 g (fun b => F b ∨ w5.heap.size ≤ b) d2 := ND.new (w := w5) ⟨_, _, _, _, _, N5, HF.out⟩ (below_step ((Below.refl _ _).drew) b7)
        have z7 := B5.size
        have o7' := o7.mono (S' := fun b => w5.heap.size ≤ b) (fun b _ _ h => h.elim)
        go_wp2_with fail
        go_ret
        rw [HV.out]
        exact ⟨some ⟨gb, 0, none⟩, 1, w5.heap.size, rfl, z7, o7', D7.mono (fun b h => h.imp (fun h => h.1) id), B5.trans (.of_below (below_step ((Below.refl _ _).drew) b7))⟩
      | false =>
        have HV : Hid (voteP d m = (d1, answerP d1 m { kind := 4, term := d1.term, ok := false })) := by show _ = _; rw [HVP.out]; unfold voteR; rw [HOK.out]; rfl
        have hb2 := hb1
        clear HVP hb1
        go_upto_region 6 with fail
        refine wp_region_noPanic ?_
        have kS : Blk wc.drew g 48 (nodeC E V M X d1) ∧ Blk wc.drew mb 58 #[.int .i64 m.kind, .int .i64 m.frm, .int .i64 m.dst, .int .u64 (m.term : Int), .int .u64 (m.index : Int), .int .u64 (m.logTerm : Int), .int .u64 (m.commit : Int), .slice A m.ents.length c, .bool m.ok, .slice none 0 0] := ⟨Nc.blk.drew, kmc.drew⟩
        refine wp_region_held_drew (S := fun Y => Blk Y g 48 (nodeC E V M X d1) ∧ Blk Y mb 58 #[.int .i64 m.kind, .int .i64 m.frm, .int .i64 m.dst, .int .u64 (m.term : Int), .int .u64 (m.index : Int), .int .u64 (m.logTerm : Int), .int .u64 (m.commit : Int), .slice A m.ents.length c, .bool m.ok, .slice none 0 0]) (by kernel_rfl) kS (fun hH => ?_)
        refine wpAnyH_take (i := 0) (v := ?_) rfl (by kernel_rfl) (by kernel_rfl) (by kernel_rfl) (fun _ _ _ h => h) (Or.inl ⟨by rfl, ?_⟩) hH ?_
        case refine_2 => intro w hSw; go_simp; try with_reducible rfl
        try simp only [Z1, Z2, Z4, Z5, Z6, Z7]
        refine wpAnyH_take (i := 1) (v := ?_) rfl (by kernel_rfl) (by kernel_rfl) (by kernel_rfl) (fun _ _ _ h => h) (Or.inl ⟨by rfl, ?_⟩) hH ?_
        case refine_2 => intro w hSw; obtain ⟨kw, kb⟩ := hSw; replace kw : Blk w g 48 (nodeC E V M X d1) := kw; replace kb : Blk w mb 58 #[.int .i64 m.kind, .int .i64 m.frm, .int .i64 m.dst, .int .u64 (m.term : Int), .int .u64 (m.index : Int), .int .u64 (m.logTerm : Int), .int .u64 (m.commit : Int), .slice A m.ents.length c, .bool m.ok, .slice none 0 0] := kb; have s0 : w.cell? ⟨_, 0, none⟩ = some (.int .i64 m.kind) := Blk.cell kb 0; have s1 : w.cell? ⟨_, 1, none⟩ = some (.int .i64 m.frm) := Blk.cell kb 1; have s2 : w.cell? ⟨_, 2, none⟩ = some (.int .i64 m.dst) := Blk.cell kb 2; have s3 : w.cell? ⟨_, 3, none⟩ = some (.int .u64 (m.term : Int)) := Blk.cell kb 3; have s4 : w.cell? ⟨_, 4, none⟩ = some (.int .u64 (m.index : Int)) := Blk.cell kb 4; have s5 : w.cell? ⟨_, 5, none⟩ = some (.int .u64 (m.logTerm : Int)) := Blk.cell kb 5; have s6 : w.cell? ⟨_, 6, none⟩ = some (.int .u64 (m.commit : Int)) := Blk.cell kb 6; have s7 : w.cell? ⟨_, 7, none⟩ = some (.slice A m.ents.length c) := Blk.cell kb 7; have s8 : w.cell? ⟨_, 8, none⟩ = some (.bool m.ok) := Blk.cell kb 8; have s9 : w.cell? ⟨_, 9, none⟩ = some (.slice none 0 0) := Blk.cell kb 9; clear kw kb; go_simp; try with_reducible rfl
        try simp only [Z1, Z2, Z3, Z4, Z5, Z6, Z7]
        refine wpAnyH_take (i := 2) (v := ?_) rfl (by kernel_rfl) (by kernel_rfl) (by kernel_rfl) (fun _ _ _ h => h) (Or.inl ⟨by rfl, ?_⟩) hH ?_
        case refine_2 => intro w hSw; go_simp; try with_reducible rfl
        try simp only [Z1, Z2, Z3, Z4, Z5, Z6, Z7]
        refine wpAnyH_take (i := 3) (v := ?_) rfl (by kernel_rfl) (by kernel_rfl) (by kernel_rfl) (fun _ _ _ h => h) (Or.inl ⟨by rfl, ?_⟩) hH ?_
        case refine_2 => intro w hSw; go_simp; try with_reducible rfl
        try simp only [Z1, Z2, Z3, Z4, Z5, Z6, Z7]
        refine wpAnyH_take (i := 4) (v := ?_) rfl (by kernel_rfl) (by kernel_rfl) (by kernel_rfl) (fun _ _ _ h => h) (Or.inl ⟨by rfl, ?_⟩) hH ?_
        case refine_2 => intro w hSw; go_simp; try with_reducible rfl
        try simp only [Z1, Z2, Z3, Z4, Z5, Z6, Z7]
        refine wpAnyH_take (i := 5) (v := ?_) rfl (by kernel_rfl) (by kernel_rfl) (by kernel_rfl) (fun _ _ _ h => h) (Or.inl ⟨by rfl, ?_⟩) hH ?_
        case refine_2 => intro w hSw; go_simp; try with_reducible rfl
        try simp only [Z1, Z2, Z3, Z4, Z5, Z6, Z7]
        refine wpAnyH_take (i := 6) (v := ?_) rfl (by kernel_rfl) (by kernel_rfl) (by kernel_rfl) (fun _ _ _ h => h) (Or.inl ⟨by rfl, ?_⟩) hH ?_
        case refine_2 => intro w hSw; go_simp; try with_reducible rfl
        try simp only [Z1, Z2, Z3, Z4, Z5, Z6, Z7]
        refine wpAnyH_take (i := 7) (v := ?_) rfl (by kernel_rfl) (by kernel_rfl) (by kernel_rfl) (fun _ _ _ h => h) (Or.inl ⟨by rfl, ?_⟩) hH ?_
        case refine_2 => intro w hSw; obtain ⟨kw, kb⟩ := hSw; replace kw : Blk w g 48 (nodeC E V M X d1) := kw; replace kb : Blk w mb 58 #[.int .i64 m.kind, .int .i64 m.frm, .int .i64 m.dst, .int .u64 (m.term : Int), .int .u64 (m.index : Int), .int .u64 (m.logTerm : Int), .int .u64 (m.commit : Int), .slice A m.ents.length c, .bool m.ok, .slice none 0 0] := kb; have n0 : w.cell? ⟨_, 0, none⟩ = some (.int .u64 (d1.term : Int)) := Blk.cell kw 0; clear kw kb; go_simp; try with_reducible rfl
        try simp only [Z1, Z2, Z3, Z4, Z5, Z6, Z7]
        refine wpAnyH_take (i := 8) (v := ?_) rfl (by kernel_rfl) (by kernel_rfl) (by kernel_rfl) (fun _ _ _ h => h) (Or.inl ⟨by rfl, ?_⟩) hH ?_
        case refine_2 => intro w hSw; go_simp; try with_reducible rfl
        try simp only [Z1, Z2, Z3, Z4, Z5, Z6, Z7]
        refine wpAnyH_take (i := 9) (v := ?_) rfl (by kernel_rfl) (by kernel_rfl) (by kernel_rfl) (fun _ _ _ h => h) (Or.inl ⟨by rfl, ?_⟩) hH ?_
        case refine_2 => intro w hSw; go_simp; try with_reducible rfl
        try simp only [Z1, Z2, Z3, Z4, Z5, Z6, Z7]
        refine wpAnyH_ready (rs := [10]) (by kernel_rfl) (by simp) ?_
        refine AllReadyH.cons rfl (fun K hK => ?_) AllReadyH.nil
        go_simp
        have TU := answer_any g E V M X d1 A none c 0 m { kind := 4, term := d1.term, ok := false } (fun _ => False) wc.drew kS.1 (MsgAt.nil_ _ _ _ rfl (by have := hb2.term; show d1.term ≤ _; omega) (Nat.zero_le _) (Nat.zero_le _) (Nat.zero_le _))
        rw [show msgC A c m = #[.int .i64 m.kind, .int .i64 m.frm, .int .i64 m.dst, .int .u64 (m.term : Int), .int .u64 (m.index : Int), .int .u64 (m.logTerm : Int), .int .u64 (m.commit : Int), .slice A m.ents.length c, .bool m.ok, .slice none 0 0] from rfl] at TU
        replace TU : Calls Try.prog 36 #[.pointer (some ⟨g, 0, none⟩), .agg #[.int .i64 m.kind, .int .i64 m.frm, .int .i64 m.dst, .int .u64 (m.term : Int), .int .u64 (m.index : Int), .int .u64 (m.logTerm : Int), .int .u64 (m.commit : Int), .slice A m.ents.length c, .bool m.ok, .slice none 0 0], .agg #[.int .i64 4, .int .i64 0, .int .i64 0, .int .u64 (d1.term : Int), .int .u64 0, .int .u64 0, .int .u64 0, .slice none 0 0, .bool false, .slice none 0 0]] wc.drew _ := TU
        refine TU.mono ?_
        clear TU
        rintro en w7 ⟨gb, rfl, o7, b7⟩
        have k7 := kS.1.below b7 kS.1.lt
        have km7 := kS.2.below b7 kS.2.lt
        refine hK.out _ _ ⟨k7, km7⟩ (fun hH => ?_)
        clear hK K
        try dsimp only
        try simp only [Z1, Z2, Z3, Z4, Z5, Z6, Z7]
        refine wpAnyH_take (i := 11) (v := ?_) rfl (by kernel_rfl) (by kernel_rfl) (by kernel_rfl) (fun _ _ _ h => h) (Or.inl ⟨by rfl, ?_⟩) hH ?_
        case refine_2 => intro w hSw; go_simp; try with_reducible rfl
        try simp only [Z1, Z2, Z3, Z4, Z5, Z6, Z7]
        refine wpAnyH_done (by kernel_rfl) ?_ _
        refine NoPanic.normal ?_
        have D7 : ND w7 g (fun b => F b ∨ wc.heap.size ≤ b) d1 := ND.new (w := wc) ⟨_, _, _, _, _, Nc, HF.out⟩ (below_step ((Below.refl _ _).drew) b7)
        have z7 := Bc.size
        have o7' := o7.mono (S' := fun b => wc.heap.size ≤ b) (fun b _ _ h => h.elim)
        go_wp2_with fail
        go_ret
        rw [HV.out]
        exact ⟨some ⟨gb, 0, none⟩, 1, wc.heap.size, rfl, z7, o7', D7.mono (fun b h => h.imp (fun h => h.1) id), Bc.trans (.of_below (below_step ((Below.refl _ _).drew) b7))⟩
  · have hti : ¬ (d.term : Int) < (m.term : Int) := by omega
    obtain ⟨d1, hd1⟩ : ∃ d1, d1 = d := ⟨_, rfl⟩
    have HVP : Hid (voteP d m = voteR d1 m) := by show _ = _; rw [HVP0.out, if_neg ht, hd1]
    have hb1 : GB d1 := by rw [hd1]; exact hb
    clear HVP0 ht
    go_quiet (fail)
    go_upto_region 3 with fail
    have dq : Below w1.heap.size w1 (w1.drewN nq) := below_drewN (Below.refl _ _) nq
    have N2 := N1.below dq
    have b2 := below_step b1 dq
    have km2 := km.drewN nq
    clear N1 b1 km dq s3 n0
    generalize w1.drewN nq = w2 at *
    have B2 : BlP F w w2 := .of_below b2
    rw [← hd1] at N2
    clear b2 hd1
    have n0 : w2.cell? ⟨g, 0, none⟩ = some (.int .u64 (d1.term : Int)) := N2.blk.cell 0
    have n1 : w2.cell? ⟨g, 1, none⟩ = some (.int .i64 d1.vote) := N2.blk.cell 1
    have s3 : w2.cell? ⟨mb, 3, none⟩ = some (.int .u64 (m.term : Int)) := km2.cell 3
    have s1 : w2.cell? ⟨mb, 1, none⟩ = some (.int .i64 m.frm) := km2.cell 1
    go_upto_region 3 with fail
    go_cut [5] (fun v5 wx => ∃ ok, v5 = .bool ok ∧ Hid (okP d1 m = ok) ∧ Below w2.heap.size w2 wx)
    case first =>
      by_cases h1 : m.term = d1.term
      · have h1i : ((m.term : Int) == (d1.term : Int)) = true := by rw [beq_iff_eq]; omega
        by_cases h2 : d1.vote = -1
        · have h2i : (d1.vote == -1) = true := by rw [beq_iff_eq]; exact h2
          have HOK : Hid (okP d1 m = upP d1 m) := by show _ = _; unfold okP; rw [decide_eq_true h1, decide_eq_true h2]; rfl
          clear h1 h2
          refine wp_region_noPanic ?_
          have kS : Blk w2.drew g 48 (nodeC E V M X d1) ∧ Blk w2.drew mb 58 #[.int .i64 m.kind, .int .i64 m.frm, .int .i64 m.dst, .int .u64 (m.term : Int), .int .u64 (m.index : Int), .int .u64 (m.logTerm : Int), .int .u64 (m.commit : Int), .slice A m.ents.length c, .bool m.ok, .slice none 0 0] := ⟨N2.blk.drew, km2.drew⟩
          refine wp_region_held_drew (S := (fun Y => Blk Y g 48 (nodeC E V M X d1) ∧ Blk Y mb 58 #[.int .i64 m.kind, .int .i64 m.frm, .int .i64 m.dst, .int .u64 (m.term : Int), .int .u64 (m.index : Int), .int .u64 (m.logTerm : Int), .int .u64 (m.commit : Int), .slice A m.ents.length c, .bool m.ok, .slice none 0 0])) (by kernel_rfl) kS (fun hH => ?_)
          clear n0 n1 s3 s1
          refine wpAnyH_take (i := 0) (v := ?_) rfl (by kernel_rfl) (by kernel_rfl) (by kernel_rfl) (fun _ _ _ h => h) (Or.inl ⟨by rfl, ?_⟩) hH ?_
          case refine_2 => intro w hSw; go_simp; try with_reducible rfl
          try simp only [Z1, Z2, Z4, Z5, Z6, Z7]
          refine wpAnyH_take (i := 1) (v := ?_) rfl (by kernel_rfl) (by kernel_rfl) (by kernel_rfl) (fun _ _ _ h => h) (Or.inl ⟨by rfl, ?_⟩) hH ?_
          case refine_2 => intro w hSw; obtain ⟨kw, kb⟩ := hSw; replace kw : Blk w g 48 (nodeC E V M X d1) := kw; replace kb : Blk w mb 58 #[.int .i64 m.kind, .int .i64 m.frm, .int .i64 m.dst, .int .u64 (m.term : Int), .int .u64 (m.index : Int), .int .u64 (m.logTerm : Int), .int .u64 (m.commit : Int), .slice A m.ents.length c, .bool m.ok, .slice none 0 0] := kb; have s3 : w.cell? ⟨_, 3, none⟩ = some (.int .u64 (m.term : Int)) := Blk.cell kb 3; clear kw kb; go_simp; try with_reducible rfl
          try simp only [Z1, Z2, Z3, Z4, Z5, Z6, Z7]
          refine wpAnyH_take (i := 2) (v := ?_) rfl (by kernel_rfl) (by kernel_rfl) (by kernel_rfl) (fun _ _ _ h => h) (Or.inl ⟨by rfl, ?_⟩) hH ?_
          case refine_2 => intro w hSw; go_simp; try with_reducible rfl
          try simp only [Z1, Z2, Z3, Z4, Z5, Z6, Z7]
          refine wpAnyH_take (i := 3) (v := ?_) rfl (by kernel_rfl) (by kernel_rfl) (by kernel_rfl) (fun _ _ _ h => h) (Or.inl ⟨by rfl, ?_⟩) hH ?_
          case refine_2 => intro w hSw; go_simp; try with_reducible rfl
          try simp only [Z1, Z2, Z3, Z4, Z5, Z6, Z7]
          refine wpAnyH_take (i := 4) (v := ?_) rfl (by kernel_rfl) (by kernel_rfl) (by kernel_rfl) (fun _ _ _ h => h) (Or.inl ⟨by rfl, ?_⟩) hH ?_
          case refine_2 => intro w hSw; go_simp; try with_reducible rfl
          try simp only [Z1, Z2, Z3, Z4, Z5, Z6, Z7]
          refine wpAnyH_take (i := 5) (v := ?_) rfl (by kernel_rfl) (by kernel_rfl) (by kernel_rfl) (fun _ _ _ h => h) (Or.inl ⟨by rfl, ?_⟩) hH ?_
          case refine_2 => intro w hSw; go_simp; try with_reducible rfl
          try simp only [Z1, Z2, Z3, Z4, Z5, Z6, Z7]
          refine wpAnyH_take (i := 6) (v := ?_) rfl (by kernel_rfl) (by kernel_rfl) (by kernel_rfl) (fun _ _ _ h => h) (Or.inl ⟨by rfl, ?_⟩) hH ?_
          case refine_2 => intro w hSw; go_simp; try with_reducible rfl
          try simp only [Z1, Z2, Z3, Z4, Z5, Z6, Z7]
          refine wpAnyH_take (i := 7) (v := ?_) rfl (by kernel_rfl) (by kernel_rfl) (by kernel_rfl) (fun _ _ _ h => h) (Or.inl ⟨by rfl, ?_⟩) hH ?_
          case refine_2 => intro w hSw; obtain ⟨kw, kb⟩ := hSw; replace kw : Blk w g 48 (nodeC E V M X d1) := kw; replace kb : Blk w mb 58 #[.int .i64 m.kind, .int .i64 m.frm, .int .i64 m.dst, .int .u64 (m.term : Int), .int .u64 (m.index : Int), .int .u64 (m.logTerm : Int), .int .u64 (m.commit : Int), .slice A m.ents.length c, .bool m.ok, .slice none 0 0] := kb; have n0 : w.cell? ⟨_, 0, none⟩ = some (.int .u64 (d1.term : Int)) := Blk.cell kw 0; clear kw kb; go_simp; try with_reducible rfl
          try simp only [Z1, Z2, Z3, Z4, Z5, Z6, Z7]
          refine wpAnyH_take (i := 8) (v := ?_) rfl (by kernel_rfl) (by kernel_rfl) (by kernel_rfl) (fun _ _ _ h => h) (Or.inl ⟨by rfl, ?_⟩) hH ?_
          case refine_2 => intro w hSw; go_simp; try with_reducible rfl
          try simp only [Z1, Z2, Z3, Z4, Z5, Z6, Z7]
          refine wpAnyH_take (i := 9) (v := ?_) rfl (by kernel_rfl) (by kernel_rfl) (by kernel_rfl) (fun _ _ _ h => h) (Or.inl ⟨by rfl, ?_⟩) hH ?_
          case refine_2 => intro w hSw; go_simp; try with_reducible rfl
          try simp only [Z1, Z2, Z3, Z4, Z5, Z6, Z7]
          refine wpAnyH_take (i := 10) (v := ?_) rfl (by kernel_rfl) (by kernel_rfl) (by kernel_rfl) (fun _ _ _ h => h) (Or.inl ⟨by rfl, ?_⟩) hH ?_
          case refine_2 => intro w hSw; go_simp; try with_reducible rfl
          try simp only [Z1, Z2, Z3, Z4, Z5, Z6, Z7]
          refine wpAnyH_take (i := 11) (v := ?_) rfl (by kernel_rfl) (by kernel_rfl) (by kernel_rfl) (fun _ _ _ h => h) (Or.inl ⟨by rfl, ?_⟩) hH ?_
          case refine_2 => intro w hSw; go_simp; try with_reducible rfl
          try simp only [Z1, Z2, Z3, Z4, Z5, Z6, Z7]
          refine wpAnyH_take (i := 12) (v := ?_) rfl (by kernel_rfl) (by kernel_rfl) (by kernel_rfl) (fun _ _ _ h => h) (Or.inl ⟨by rfl, ?_⟩) hH ?_
          case refine_2 => intro w hSw; go_simp; try with_reducible rfl
          try simp only [Z1, Z2, Z3, Z4, Z5, Z6, Z7]
          refine wpAnyH_take (i := 13) (v := ?_) rfl (by kernel_rfl) (by kernel_rfl) (by kernel_rfl) (fun _ _ _ h => h) (Or.inl ⟨by rfl, ?_⟩) hH ?_
          case refine_2 => intro w hSw; go_simp; try with_reducible rfl
          try simp only [Z1, Z2, Z3, Z4, Z5, Z6, Z7]
          refine wpAnyH_take (i := 14) (v := ?_) rfl (by kernel_rfl) (by kernel_rfl) (by kernel_rfl) (fun _ _ _ h => h) (Or.inl ⟨by rfl, ?_⟩) hH ?_
          case refine_2 => intro w hSw; go_simp; try with_reducible rfl
          try simp only [Z1, Z2, Z3, Z4, Z5, Z6, Z7]
          refine wpAnyH_take (i := 15) (v := ?_) rfl (by kernel_rfl) (by kernel_rfl) (by kernel_rfl) (fun _ _ _ h => h) (Or.inl ⟨by rfl, ?_⟩) hH ?_
          case refine_2 => intro w hSw; obtain ⟨kw, kb⟩ := hSw; replace kw : Blk w g 48 (nodeC E V M X d1) := kw; replace kb : Blk w mb 58 #[.int .i64 m.kind, .int .i64 m.frm, .int .i64 m.dst, .int .u64 (m.term : Int), .int .u64 (m.index : Int), .int .u64 (m.logTerm : Int), .int .u64 (m.commit : Int), .slice A m.ents.length c, .bool m.ok, .slice none 0 0] := kb; have n1 : w.cell? ⟨_, 1, none⟩ = some (.int .i64 d1.vote) := Blk.cell kw 1; clear kw kb; go_simp; try with_reducible rfl
          try simp only [Z1, Z2, Z3, Z4, Z5, Z6, Z7]
          refine wpAnyH_take (i := 16) (v := ?_) rfl (by kernel_rfl) (by kernel_rfl) (by kernel_rfl) (fun _ _ _ h => h) (Or.inl ⟨by rfl, ?_⟩) hH ?_
          case refine_2 => intro w hSw; go_simp; try with_reducible rfl
          try simp only [Z1, Z2, Z3, Z4, Z5, Z6, Z7]
          refine wpAnyH_take (i := 17) (v := ?_) rfl (by kernel_rfl) (by kernel_rfl) (by kernel_rfl) (fun _ _ _ h => h) (Or.inl ⟨by rfl, ?_⟩) hH ?_
          case refine_2 => intro w hSw; go_simp; try with_reducible rfl
          try simp only [Z1, Z2, Z3, Z4, Z5, Z6, Z7]
          refine wpAnyH_take (i := 18) (v := undef) rfl (by kernel_rfl) (by kernel_rfl) (by kernel_rfl) (fun _ _ _ h => h) (Or.inr ⟨by rfl, rfl⟩) hH ?_
          try simp only [Z1, Z2, Z3, Z4, Z5, Z6, Z7]
          refine wpAnyH_take (i := 19) (v := undef) rfl (by kernel_rfl) (by kernel_rfl) (by kernel_rfl) (fun _ _ _ h => h) (Or.inr ⟨by rfl, rfl⟩) hH ?_
          try simp only [Z1, Z2, Z3, Z4, Z5, Z6, Z7]
          refine wpAnyH_take (i := 20) (v := undef) rfl (by kernel_rfl) (by kernel_rfl) (by kernel_rfl) (fun _ _ _ h => h) (Or.inr ⟨by rfl, rfl⟩) hH ?_
          try simp only [Z1, Z2, Z3, Z4, Z5, Z6, Z7]
          refine wpAnyH_take (i := 21) (v := undef) rfl (by kernel_rfl) (by kernel_rfl) (by kernel_rfl) (fun _ _ _ h => h) (Or.inr ⟨by rfl, rfl⟩) hH ?_
          try simp only [Z1, Z2, Z3, Z4, Z5, Z6, Z7]
          refine wpAnyH_take (i := 22) (v := undef) rfl (by kernel_rfl) (by kernel_rfl) (by kernel_rfl) (fun _ _ _ h => h) (Or.inr ⟨by rfl, rfl⟩) hH ?_
          try simp only [Z1, Z2, Z3, Z4, Z5, Z6, Z7]
          refine wpAnyH_take (i := 23) (v := undef) rfl (by kernel_rfl) (by kernel_rfl) (by kernel_rfl) (fun _ _ _ h => h) (Or.inr ⟨by rfl, rfl⟩) hH ?_
          try simp only [Z1, Z2, Z3, Z4, Z5, Z6, Z7]
          refine wpAnyH_take (i := 24) (v := undef) rfl (by kernel_rfl) (by kernel_rfl) (by kernel_rfl) (fun _ _ _ h => h) (Or.inr ⟨by rfl, rfl⟩) hH ?_
          try simp only [Z1, Z2, Z3, Z4, Z5, Z6, Z7]
          refine wpAnyH_take (i := 25) (v := undef) rfl (by kernel_rfl) (by kernel_rfl) (by kernel_rfl) (fun _ _ _ h => h) (Or.inr ⟨by rfl, rfl⟩) hH ?_
          try simp only [Z1, Z2, Z3, Z4, Z5, Z6, Z7]
          refine wpAnyH_take (i := 26) (v := undef) rfl (by kernel_rfl) (by kernel_rfl) (by kernel_rfl) (fun _ _ _ h => h) (Or.inr ⟨by rfl, rfl⟩) hH ?_
          try simp only [Z1, Z2, Z3, Z4, Z5, Z6, Z7]
          refine wpAnyH_take (i := 27) (v := ?_) rfl (by kernel_rfl) (by kernel_rfl) (by kernel_rfl) (fun _ _ _ h => h) (Or.inl ⟨by rfl, ?_⟩) hH ?_
          case refine_2 => intro w hSw; go_simp; try with_reducible rfl
          try simp only [Z1, Z2, Z3, Z4, Z5, Z6, Z7]
          refine wpAnyH_take (i := 28) (v := ?_) rfl (by kernel_rfl) (by kernel_rfl) (by kernel_rfl) (fun _ _ _ h => h) (Or.inl ⟨by rfl, ?_⟩) hH ?_
          case refine_2 => intro w hSw; go_simp; try with_reducible rfl
          try simp only [Z1, Z2, Z3, Z4, Z5, Z6, Z7]
          refine wpAnyH_take (i := 29) (v := ?_) rfl (by kernel_rfl) (by kernel_rfl) (by kernel_rfl) (fun _ _ _ h => h) (Or.inl ⟨by rfl, ?_⟩) hH ?_
          case refine_2 => intro w hSw; go_simp; try with_reducible rfl
          try simp only [Z1, Z2, Z3, Z4, Z5, Z6, Z7]
          refine wpAnyH_take (i := 30) (v := ?_) rfl (by kernel_rfl) (by kernel_rfl) (by kernel_rfl) (fun _ _ _ h => h) (Or.inl ⟨by rfl, ?_⟩) hH ?_
          case refine_2 => intro w hSw; go_simp; try with_reducible rfl
          try simp only [Z1, Z2, Z3, Z4, Z5, Z6, Z7]
          refine wpAnyH_take (i := 31) (v := ?_) rfl (by kernel_rfl) (by kernel_rfl) (by kernel_rfl) (fun _ _ _ h => h) (Or.inl ⟨by rfl, ?_⟩) hH ?_
          case refine_2 => intro w hSw; obtain ⟨kw, kb⟩ := hSw; replace kw : Blk w g 48 (nodeC E V M X d1) := kw; replace kb : Blk w mb 58 #[.int .i64 m.kind, .int .i64 m.frm, .int .i64 m.dst, .int .u64 (m.term : Int), .int .u64 (m.index : Int), .int .u64 (m.logTerm : Int), .int .u64 (m.commit : Int), .slice A m.ents.length c, .bool m.ok, .slice none 0 0] := kb; have s0 : w.cell? ⟨_, 0, none⟩ = some (.int .i64 m.kind) := Blk.cell kb 0; have s1 : w.cell? ⟨_, 1, none⟩ = some (.int .i64 m.frm) := Blk.cell kb 1; have s2 : w.cell? ⟨_, 2, none⟩ = some (.int .i64 m.dst) := Blk.cell kb 2; have s3 : w.cell? ⟨_, 3, none⟩ = some (.int .u64 (m.term : Int)) := Blk.cell kb 3; have s4 : w.cell? ⟨_, 4, none⟩ = some (.int .u64 (m.index : Int)) := Blk.cell kb 4; have s5 : w.cell? ⟨_, 5, none⟩ = some (.int .u64 (m.logTerm : Int)) := Blk.cell kb 5; have s6 : w.cell? ⟨_, 6, none⟩ = some (.int .u64 (m.commit : Int)) := Blk.cell kb 6; have s7 : w.cell? ⟨_, 7, none⟩ = some (.slice A m.ents.length c) := Blk.cell kb 7; have s8 : w.cell? ⟨_, 8, none⟩ = some (.bool m.ok) := Blk.cell kb 8; have s9 : w.cell? ⟨_, 9, none⟩ = some (.slice none 0 0) := Blk.cell kb 9; clear kw kb; go_simp; try with_reducible rfl
          try simp only [Z1, Z2, Z3, Z4, Z5, Z6, Z7]
          refine wpAnyH_ready (rs := [32]) (by kernel_rfl) (by simp) ?_
          refine AllReadyH.cons rfl (fun K hK => ?_) AllReadyH.nil
          go_simp
          have TU := up_any g S E V M X d1 A c m w2.drew (N2.below ((Below.refl _ _).drew)) hb1
          rw [show msgC A c m = #[.int .i64 m.kind, .int .i64 m.frm, .int .i64 m.dst, .int .u64 (m.term : Int), .int .u64 (m.index : Int), .int .u64 (m.logTerm : Int), .int .u64 (m.commit : Int), .slice A m.ents.length c, .bool m.ok, .slice none 0 0] from rfl] at TU
          refine TU.mono ?_
          clear TU
          rintro en w7 ⟨rfl, b7⟩
          have k7 := kS.1.below b7 kS.1.lt
          have km7 := kS.2.below b7 kS.2.lt
          have b07 := below_step ((Below.refl w2.heap.size w2).drew) b7
          refine hK.out _ _ ⟨k7, km7⟩ (fun hH => ?_)
          clear hK K
          try dsimp only
          try simp only [Z1, Z2, Z3, Z4, Z5, Z6, Z7]
          refine wpAnyH_take (i := 33) (v := ?_) rfl (by kernel_rfl) (by kernel_rfl) (by kernel_rfl) (fun _ _ _ h => h) (Or.inl ⟨by rfl, ?_⟩) hH ?_
          case refine_2 => intro w hSw; go_simp; try with_reducible rfl
          try simp only [Z1, Z2, Z3, Z4, Z5, Z6, Z7]
          refine wpAnyH_take (i := 34) (v := ?_) rfl (by kernel_rfl) (by kernel_rfl) (by kernel_rfl) (fun _ _ _ h => h) (Or.inl ⟨by rfl, ?_⟩) hH ?_
          case refine_2 => intro w hSw; go_simp; try with_reducible rfl
          try simp only [Z1, Z2, Z3, Z4, Z5, Z6, Z7]
          refine wpAnyH_done (by kernel_rfl) ?_ _
          refine NoPanic.normal ?_
          go_wp2_with fail
          go_meet
          case rel => exact ⟨_, rfl, HOK, b07⟩
        · have h2i : (d1.vote == -1) = false := by rw [beq_eq_false_iff_ne]; exact h2
          by_cases h3 : d1.vote = m.frm
          · have h3i : (d1.vote == m.frm) = true := by rw [beq_iff_eq]; exact h3
            have HOK : Hid (okP d1 m = upP d1 m) := by show _ = _; unfold okP; rw [decide_eq_true h1, decide_eq_false h2, decide_eq_true h3]; rfl
            clear h1 h2 h3
            refine wp_region_noPanic ?_
            have kS : Blk w2.drew g 48 (nodeC E V M X d1) ∧ Blk w2.drew mb 58 #[.int .i64 m.kind, .int .i64 m.frm, .int .i64 m.dst, .int .u64 (m.term : Int), .int .u64 (m.index : Int), .int .u64 (m.logTerm : Int), .int .u64 (m.commit : Int), .slice A m.ents.length c, .bool m.ok, .slice none 0 0] := ⟨N2.blk.drew, km2.drew⟩
            refine wp_region_held_drew (S := (fun Y => Blk Y g 48 (nodeC E V M X d1) ∧ Blk Y mb 58 #[.int .i64 m.kind, .int .i64 m.frm, .int .i64 m.dst, .int .u64 (m.term : Int), .int .u64 (m.index : Int), .int .u64 (m.logTerm : Int), .int .u64 (m.commit : Int), .slice A m.ents.length c, .bool m.ok, .slice none 0 0])) (by kernel_rfl) kS (fun hH => ?_)
            clear n0 n1 s3 s1
            refine wpAnyH_take (i := 0) (v := ?_) rfl (by kernel_rfl) (by kernel_rfl) (by kernel_rfl) (fun _ _ _ h => h) (Or.inl ⟨by rfl, ?_⟩) hH ?_
            case refine_2 => intro w hSw; go_simp; try with_reducible rfl
            try simp only [Z1, Z2, Z4, Z5, Z6, Z7]
            refine wpAnyH_take (i := 1) (v := ?_) rfl (by kernel_rfl) (by kernel_rfl) (by kernel_rfl) (fun _ _ _ h => h) (Or.inl ⟨by rfl, ?_⟩) hH ?_
            case refine_2 => intro w hSw; obtain ⟨kw, kb⟩ := hSw; replace kw : Blk w g 48 (nodeC E V M X d1) := kw; replace kb : Blk w mb 58 #[.int .i64 m.kind, .int .i64 m.frm, .int .i64 m.dst, .int .u64 (m.term : Int), .int .u64 (m.index : Int), .int .u64 (m.logTerm : Int), .int .u64 (m.commit : Int), .slice A m.ents.length c, .bool m.ok, .slice none 0 0] := kb; have s3 : w.cell? ⟨_, 3, none⟩ = some (.int .u64 (m.term : Int)) := Blk.cell kb 3; clear kw kb; go_simp; try with_reducible rfl
            try simp only [Z1, Z2, Z3, Z4, Z5, Z6, Z7]
            refine wpAnyH_take (i := 2) (v := ?_) rfl (by kernel_rfl) (by kernel_rfl) (by kernel_rfl) (fun _ _ _ h => h) (Or.inl ⟨by rfl, ?_⟩) hH ?_
            case refine_2 => intro w hSw; go_simp; try with_reducible rfl
            try simp only [Z1, Z2, Z3, Z4, Z5, Z6, Z7]
            refine wpAnyH_take (i := 3) (v := ?_) rfl (by kernel_rfl) (by kernel_rfl) (by kernel_rfl) (fun _ _ _ h => h) (Or.inl ⟨by rfl, ?_⟩) hH ?_
            case refine_2 => intro w hSw; go_simp; try with_reducible rfl
            try simp only [Z1, Z2, Z3, Z4, Z5, Z6, Z7]
            refine wpAnyH_take (i := 4) (v := ?_) rfl (by kernel_rfl) (by kernel_rfl) (by kernel_rfl) (fun _ _ _ h => h) (Or.inl ⟨by rfl, ?_⟩) hH ?_
            case refine_2 => intro w hSw; go_simp; try with_reducible rfl
            try simp only [Z1, Z2, Z3, Z4, Z5, Z6, Z7]
            refine wpAnyH_take (i := 5) (v := ?_) rfl (by kernel_rfl) (by kernel_rfl) (by kernel_rfl) (fun _ _ _ h => h) (Or.inl ⟨by rfl, ?_⟩) hH ?_
            case refine_2 => intro w hSw; go_simp; try with_reducible rfl
            try simp only [Z1, Z2, Z3, Z4, Z5, Z6, Z7]
            refine wpAnyH_take (i := 6) (v := ?_) rfl (by kernel_rfl) (by kernel_rfl) (by kernel_rfl) (fun _ _ _ h => h) (Or.inl ⟨by rfl, ?_⟩) hH ?_
            case refine_2 => intro w hSw; go_simp; try with_reducible rfl
            try simp only [Z1, Z2, Z3, Z4, Z5, Z6, Z7]
            refine wpAnyH_take (i := 7) (v := ?_) rfl (by kernel_rfl) (by kernel_rfl) (by kernel_rfl) (fun _ _ _ h => h) (Or.inl ⟨by rfl, ?_⟩) hH ?_
            case refine_2 => intro w hSw; obtain ⟨kw, kb⟩ := hSw; replace kw : Blk w g 48 (nodeC E V M X d1) := kw; replace kb : Blk w mb 58 #[.int .i64 m.kind, .int .i64 m.frm, .int .i64 m.dst, .int .u64 (m.term : Int), .int .u64 (m.index : Int), .int .u64 (m.logTerm : Int), .int .u64 (m.commit : Int), .slice A m.ents.length c, .bool m.ok, .slice none 0 0] := kb; have n0 : w.cell? ⟨_, 0, none⟩ = some (.int .u64 (d1.term : Int)) := Blk.cell kw 0; clear kw kb; go_simp; try with_reducible rfl
            try simp only [Z1, Z2, Z3, Z4, Z5, Z6, Z7]
            refine wpAnyH_take (i := 8) (v := ?_) rfl (by kernel_rfl) (by kernel_rfl) (by kernel_rfl) (fun _ _ _ h => h) (Or.inl ⟨by rfl, ?_⟩) hH ?_
            case refine_2 => intro w hSw; go_simp; try with_reducible rfl
            try simp only [Z1, Z2, Z3, Z4, Z5, Z6, Z7]
            refine wpAnyH_take (i := 9) (v := ?_) rfl (by kernel_rfl) (by kernel_rfl) (by kernel_rfl) (fun _ _ _ h => h) (Or.inl ⟨by rfl, ?_⟩) hH ?_
            case refine_2 => intro w hSw; go_simp; try with_reducible rfl
            try simp only [Z1, Z2, Z3, Z4, Z5, Z6, Z7]
            refine wpAnyH_take (i := 10) (v := ?_) rfl (by kernel_rfl) (by kernel_rfl) (by kernel_rfl) (fun _ _ _ h => h) (Or.inl ⟨by rfl, ?_⟩) hH ?_
            case refine_2 => intro w hSw; go_simp; try with_reducible rfl
            try simp only [Z1, Z2, Z3, Z4, Z5, Z6, Z7]
            refine wpAnyH_take (i := 11) (v := ?_) rfl (by kernel_rfl) (by kernel_rfl) (by kernel_rfl) (fun _ _ _ h => h) (Or.inl ⟨by rfl, ?_⟩) hH ?_
            case refine_2 => intro w hSw; go_simp; try with_reducible rfl
            try simp only [Z1, Z2, Z3, Z4, Z5, Z6, Z7]
            refine wpAnyH_take (i := 12) (v := ?_) rfl (by kernel_rfl) (by kernel_rfl) (by kernel_rfl) (fun _ _ _ h => h) (Or.inl ⟨by rfl, ?_⟩) hH ?_
            case refine_2 => intro w hSw; go_simp; try with_reducible rfl
            try simp only [Z1, Z2, Z3, Z4, Z5, Z6, Z7]
            refine wpAnyH_take (i := 13) (v := ?_) rfl (by kernel_rfl) (by kernel_rfl) (by kernel_rfl) (fun _ _ _ h => h) (Or.inl ⟨by rfl, ?_⟩) hH ?_
            case refine_2 => intro w hSw; go_simp; try with_reducible rfl
            try simp only [Z1, Z2, Z3, Z4, Z5, Z6, Z7]
            refine wpAnyH_take (i := 14) (v := ?_) rfl (by kernel_rfl) (by kernel_rfl) (by kernel_rfl) (fun _ _ _ h => h) (Or.inl ⟨by rfl, ?_⟩) hH ?_
            case refine_2 => intro w hSw; go_simp; try with_reducible rfl
            try simp only [Z1, Z2, Z3, Z4, Z5, Z6, Z7]
            refine wpAnyH_take (i := 15) (v := ?_) rfl (by kernel_rfl) (by kernel_rfl) (by kernel_rfl) (fun _ _ _ h => h) (Or.inl ⟨by rfl, ?_⟩) hH ?_
            case refine_2 => intro w hSw; obtain ⟨kw, kb⟩ := hSw; replace kw : Blk w g 48 (nodeC E V M X d1) := kw; replace kb : Blk w mb 58 #[.int .i64 m.kind, .int .i64 m.frm, .int .i64 m.dst, .int .u64 (m.term : Int), .int .u64 (m.index : Int), .int .u64 (m.logTerm : Int), .int .u64 (m.commit : Int), .slice A m.ents.length c, .bool m.ok, .slice none 0 0] := kb; have n1 : w.cell? ⟨_, 1, none⟩ = some (.int .i64 d1.vote) := Blk.cell kw 1; clear kw kb; go_simp; try with_reducible rfl
            try simp only [Z1, Z2, Z3, Z4, Z5, Z6, Z7]
            refine wpAnyH_take (i := 16) (v := ?_) rfl (by kernel_rfl) (by kernel_rfl) (by kernel_rfl) (fun _ _ _ h => h) (Or.inl ⟨by rfl, ?_⟩) hH ?_
            case refine_2 => intro w hSw; go_simp; try with_reducible rfl
            try simp only [Z1, Z2, Z3, Z4, Z5, Z6, Z7]
            refine wpAnyH_take (i := 17) (v := ?_) rfl (by kernel_rfl) (by kernel_rfl) (by kernel_rfl) (fun _ _ _ h => h) (Or.inl ⟨by rfl, ?_⟩) hH ?_
            case refine_2 => intro w hSw; go_simp; try with_reducible rfl
            try simp only [Z1, Z2, Z3, Z4, Z5, Z6, Z7]
            refine wpAnyH_take (i := 18) (v := ?_) rfl (by kernel_rfl) (by kernel_rfl) (by kernel_rfl) (fun _ _ _ h => h) (Or.inl ⟨by rfl, ?_⟩) hH ?_
            case refine_2 => intro w hSw; go_simp; try with_reducible rfl
            try simp only [Z1, Z2, Z3, Z4, Z5, Z6, Z7]
            refine wpAnyH_take (i := 19) (v := ?_) rfl (by kernel_rfl) (by kernel_rfl) (by kernel_rfl) (fun _ _ _ h => h) (Or.inl ⟨by rfl, ?_⟩) hH ?_
            case refine_2 => intro w hSw; go_simp; try with_reducible rfl
            try simp only [Z1, Z2, Z3, Z4, Z5, Z6, Z7]
            refine wpAnyH_take (i := 20) (v := ?_) rfl (by kernel_rfl) (by kernel_rfl) (by kernel_rfl) (fun _ _ _ h => h) (Or.inl ⟨by rfl, ?_⟩) hH ?_
            case refine_2 => intro w hSw; go_simp; try with_reducible rfl
            try simp only [Z1, Z2, Z3, Z4, Z5, Z6, Z7]
            refine wpAnyH_take (i := 21) (v := ?_) rfl (by kernel_rfl) (by kernel_rfl) (by kernel_rfl) (fun _ _ _ h => h) (Or.inl ⟨by rfl, ?_⟩) hH ?_
            case refine_2 => intro w hSw; go_simp; try with_reducible rfl
            try simp only [Z1, Z2, Z3, Z4, Z5, Z6, Z7]
            refine wpAnyH_take (i := 22) (v := ?_) rfl (by kernel_rfl) (by kernel_rfl) (by kernel_rfl) (fun _ _ _ h => h) (Or.inl ⟨by rfl, ?_⟩) hH ?_
            case refine_2 => intro w hSw; go_simp; try with_reducible rfl
            try simp only [Z1, Z2, Z3, Z4, Z5, Z6, Z7]
            refine wpAnyH_take (i := 23) (v := ?_) rfl (by kernel_rfl) (by kernel_rfl) (by kernel_rfl) (fun _ _ _ h => h) (Or.inl ⟨by rfl, ?_⟩) hH ?_
            case refine_2 => intro w hSw; obtain ⟨kw, kb⟩ := hSw; replace kw : Blk w g 48 (nodeC E V M X d1) := kw; replace kb : Blk w mb 58 #[.int .i64 m.kind, .int .i64 m.frm, .int .i64 m.dst, .int .u64 (m.term : Int), .int .u64 (m.index : Int), .int .u64 (m.logTerm : Int), .int .u64 (m.commit : Int), .slice A m.ents.length c, .bool m.ok, .slice none 0 0] := kb; have n1 : w.cell? ⟨_, 1, none⟩ = some (.int .i64 d1.vote) := Blk.cell kw 1; clear kw kb; go_simp; try with_reducible rfl
            try simp only [Z1, Z2, Z3, Z4, Z5, Z6, Z7]
            refine wpAnyH_take (i := 24) (v := ?_) rfl (by kernel_rfl) (by kernel_rfl) (by kernel_rfl) (fun _ _ _ h => h) (Or.inl ⟨by rfl, ?_⟩) hH ?_
            case refine_2 => intro w hSw; go_simp; try with_reducible rfl
            try simp only [Z1, Z2, Z3, Z4, Z5, Z6, Z7]
            refine wpAnyH_take (i := 25) (v := ?_) rfl (by kernel_rfl) (by kernel_rfl) (by kernel_rfl) (fun _ _ _ h => h) (Or.inl ⟨by rfl, ?_⟩) hH ?_
            case refine_2 => intro w hSw; obtain ⟨kw, kb⟩ := hSw; replace kw : Blk w g 48 (nodeC E V M X d1) := kw; replace kb : Blk w mb 58 #[.int .i64 m.kind, .int .i64 m.frm, .int .i64 m.dst, .int .u64 (m.term : Int), .int .u64 (m.index : Int), .int .u64 (m.logTerm : Int), .int .u64 (m.commit : Int), .slice A m.ents.length c, .bool m.ok, .slice none 0 0] := kb; have s1 : w.cell? ⟨_, 1, none⟩ = some (.int .i64 m.frm) := Blk.cell kb 1; clear kw kb; go_simp; try with_reducible rfl
            try simp only [Z1, Z2, Z3, Z4, Z5, Z6, Z7]
            refine wpAnyH_take (i := 26) (v := ?_) rfl (by kernel_rfl) (by kernel_rfl) (by kernel_rfl) (fun _ _ _ h => h) (Or.inl ⟨by rfl, ?_⟩) hH ?_
            case refine_2 => intro w hSw; go_simp; try with_reducible rfl
            try simp only [Z1, Z2, Z3, Z4, Z5, Z6, Z7]
            refine wpAnyH_take (i := 27) (v := ?_) rfl (by kernel_rfl) (by kernel_rfl) (by kernel_rfl) (fun _ _ _ h => h) (Or.inl ⟨by rfl, ?_⟩) hH ?_
            case refine_2 => intro w hSw; go_simp; try with_reducible rfl
            try simp only [Z1, Z2, Z3, Z4, Z5, Z6, Z7]
            refine wpAnyH_take (i := 28) (v := ?_) rfl (by kernel_rfl) (by kernel_rfl) (by kernel_rfl) (fun _ _ _ h => h) (Or.inl ⟨by rfl, ?_⟩) hH ?_
            case refine_2 => intro w hSw; go_simp; try with_reducible rfl
            try simp only [Z1, Z2, Z3, Z4, Z5, Z6, Z7]
            refine wpAnyH_take (i := 29) (v := ?_) rfl (by kernel_rfl) (by kernel_rfl) (by kernel_rfl) (fun _ _ _ h => h) (Or.inl ⟨by rfl, ?_⟩) hH ?_
            case refine_2 => intro w hSw; go_simp; try with_reducible rfl
            try simp only [Z1, Z2, Z3, Z4, Z5, Z6, Z7]
            refine wpAnyH_take (i := 30) (v := ?_) rfl (by kernel_rfl) (by kernel_rfl) (by kernel_rfl) (fun _ _ _ h => h) (Or.inl ⟨by rfl, ?_⟩) hH ?_
            case refine_2 => intro w hSw; go_simp; try with_reducible rfl
            try simp only [Z1, Z2, Z3, Z4, Z5, Z6, Z7]
            refine wpAnyH_take (i := 31) (v := ?_) rfl (by kernel_rfl) (by kernel_rfl) (by kernel_rfl) (fun _ _ _ h => h) (Or.inl ⟨by rfl, ?_⟩) hH ?_
            case refine_2 => intro w hSw; obtain ⟨kw, kb⟩ := hSw; replace kw : Blk w g 48 (nodeC E V M X d1) := kw; replace kb : Blk w mb 58 #[.int .i64 m.kind, .int .i64 m.frm, .int .i64 m.dst, .int .u64 (m.term : Int), .int .u64 (m.index : Int), .int .u64 (m.logTerm : Int), .int .u64 (m.commit : Int), .slice A m.ents.length c, .bool m.ok, .slice none 0 0] := kb; have s0 : w.cell? ⟨_, 0, none⟩ = some (.int .i64 m.kind) := Blk.cell kb 0; have s1 : w.cell? ⟨_, 1, none⟩ = some (.int .i64 m.frm) := Blk.cell kb 1; have s2 : w.cell? ⟨_, 2, none⟩ = some (.int .i64 m.dst) := Blk.cell kb 2; have s3 : w.cell? ⟨_, 3, none⟩ = some (.int .u64 (m.term : Int)) := Blk.cell kb 3; have s4 : w.cell? ⟨_, 4, none⟩ = some (.int .u64 (m.index : Int)) := Blk.cell kb 4; have s5 : w.cell? ⟨_, 5, none⟩ = some (.int .u64 (m.logTerm : Int)) := Blk.cell kb 5; have s6 : w.cell? ⟨_, 6, none⟩ = some (.int .u64 (m.commit : Int)) := Blk.cell kb 6; have s7 : w.cell? ⟨_, 7, none⟩ = some (.slice A m.ents.length c) := Blk.cell kb 7; have s8 : w.cell? ⟨_, 8, none⟩ = some (.bool m.ok) := Blk.cell kb 8; have s9 : w.cell? ⟨_, 9, none⟩ = some (.slice none 0 0) := Blk.cell kb 9; clear kw kb; go_simp; try with_reducible rfl
            try simp only [Z1, Z2, Z3, Z4, Z5, Z6, Z7]
            refine wpAnyH_ready (rs := [32]) (by kernel_rfl) (by simp) ?_
            refine AllReadyH.cons rfl (fun K hK => ?_) AllReadyH.nil
            go_simp
            have TU := up_any g S E V M X d1 A c m w2.drew (N2.below ((Below.refl _ _).drew)) hb1
            rw [show msgC A c m = #[.int .i64 m.kind, .int .i64 m.frm, .int .i64 m.dst, .int .u64 (m.term : Int), .int .u64 (m.index : Int), .int .u64 (m.logTerm : Int), .int .u64 (m.commit : Int), .slice A m.ents.length c, .bool m.ok, .slice none 0 0] from rfl] at TU
            refine TU.mono ?_
            clear TU
            rintro en w7 ⟨rfl, b7⟩
            have k7 := kS.1.below b7 kS.1.lt
            have km7 := kS.2.below b7 kS.2.lt
            have b07 := below_step ((Below.refl w2.heap.size w2).drew) b7
            refine hK.out _ _ ⟨k7, km7⟩ (fun hH => ?_)
            clear hK K
            try dsimp only
            try simp only [Z1, Z2, Z3, Z4, Z5, Z6, Z7]
            refine wpAnyH_take (i := 33) (v := ?_) rfl (by kernel_rfl) (by kernel_rfl) (by kernel_rfl) (fun _ _ _ h => h) (Or.inl ⟨by rfl, ?_⟩) hH ?_
            case refine_2 => intro w hSw; go_simp; try with_reducible rfl
            try simp only [Z1, Z2, Z3, Z4, Z5, Z6, Z7]
            refine wpAnyH_take (i := 34) (v := ?_) rfl (by kernel_rfl) (by kernel_rfl) (by kernel_rfl) (fun _ _ _ h => h) (Or.inl ⟨by rfl, ?_⟩) hH ?_
            case refine_2 => intro w hSw; go_simp; try with_reducible rfl
            try simp only [Z1, Z2, Z3, Z4, Z5, Z6, Z7]
            refine wpAnyH_done (by kernel_rfl) ?_ _
            refine NoPanic.normal ?_
            go_wp2_with fail
            go_meet
            case rel => exact ⟨_, rfl, HOK, b07⟩
          · have h3i : (d1.vote == m.frm) = false := by rw [beq_eq_false_iff_ne]; exact h3
            have HOK : Hid (okP d1 m = false) := by show _ = _; unfold okP; rw [decide_eq_true h1, decide_eq_false h2, decide_eq_false h3]; rfl
            clear h1 h2 h3
            go_quiet (fail)
            go_wp2_with fail
            go_meet
            case rel => exact ⟨_, rfl, HOK, below_drewN (Below.refl _ _) _⟩
      · have h1i : ((m.term : Int) == (d1.term : Int)) = false := by rw [beq_eq_false_iff_ne]; omega
        have HOK : Hid (okP d1 m = false) := by show _ = _; unfold okP; rw [decide_eq_false h1]; rfl
        clear h1
        go_quiet (fail)
        go_wp2_with fail
        go_meet
        case rel => exact ⟨_, rfl, HOK, below_drewN (Below.refl _ _) _⟩
    case rest =>
      obtain ⟨ok, rfl, HOK, bc⟩ := hcut
      have Nc := N2.below bc
      have kmc := km2.below bc km2.lt
      have Bc := B2.trans (.of_below bc)
      clear n0 n1 s3 s1 N2 B2 km2 bc
      cases ok with
      | true =>
        have s1 : wc.cell? ⟨mb, 1, none⟩ = some (.int .i64 m.frm) := kmc.cell 1
        have n1 : wc.cell? ⟨g, 1, none⟩ = some (.int .i64 d1.vote) := Nc.blk.cell 1
        have n11 : wc.cell? ⟨g, 11, none⟩ = some (.int .i64 d1.clock) := Nc.blk.cell 11
        have f1 : wc.frozen? ⟨g, 1, none⟩ = false := Nc.blk.frozen 1
        have f11 : wc.frozen? ⟨g, 11, none⟩ = false := Nc.blk.frozen 11
        have g5 : wc.grownBy ((wc.setCell ⟨g, 1, none⟩ (.int .i64 m.frm)).setCell ⟨g, 11, none⟩ (.int .i64 0)) (some g) := only_setCell (only_setCell (only_of_below (Below.refl _ _) (some g)) (.inl rfl) _) (.inl rfl) _
        have N5 : NodeAt ((wc.setCell ⟨g, 1, none⟩ (.int .i64 m.frm)).setCell ⟨g, 11, none⟩ (.int .i64 0)) g S E V M X { d1 with vote := m.frm, clock := 0 } := Nc.turn g5 ((Nc.blk.set_ 1 (.int .i64 m.frm)).set_ 11 (.int .i64 0)) ⟨rfl, rfl, rfl, rfl⟩
        have B5 := Bc.grown g5 (fun b e h => (HF.out b h).1 (Option.some.inj e).symm)
        have km5 := (kmc.far (p := ⟨g, 1, none⟩) (by show mb ≠ g; omega) (.int .i64 m.frm)).far (p := ⟨g, 11, none⟩) (by show mb ≠ g; omega) (.int .i64 0)
        have HV : Hid (voteP d m = ({ d1 with vote := m.frm, clock := 0 }, answerP { d1 with vote := m.frm, clock := 0 } m { kind := 4, term := d1.term, ok := true })) := by show _ = _; rw [HVP.out]; unfold voteR; rw [HOK.out]; rfl
        clear HVP
        obtain ⟨d2, hd2⟩ : ∃ d2 : LNode, d2 = { d1 with vote := m.frm, clock := 0 } := ⟨_, rfl⟩
        rw [← hd2] at N5 HV
        have ht2 : d1.term = d2.term := by rw [hd2]
        have hb2 : GB d2 := by rw [hd2]; exact ⟨hb1.base, hb1.bt, hb1.len, hb1.term, hb1.commit⟩
        rw [ht2] at HV
        clear hd2 ht2 hb1
        go_upto_region 6 with fail
        clear s1 n1 n11 f1 f11 g5 Nc Bc kmc
        generalize ((wc.setCell ⟨g, 1, none⟩ (.int .i64 m.frm)).setCell ⟨g, 11, none⟩ (.int .i64 0)) = w5 at *
        refine wp_region_noPanic ?_
        have kS : Blk w5.drew g 48 (nodeC E V M X d2) ∧ Blk w5.drew mb 58 #[.int .i64 m.kind, .int .i64 m.frm, .int .i64 m.dst, .int .u64 (m.term : Int), .int .u64 (m.index : Int), .int .u64 (m.logTerm : Int), .int .u64 (m.commit : Int), .slice A m.ents.length c, .bool m.ok, .slice none 0 0] := ⟨N5.blk.drew, km5.drew⟩
        refine wp_region_held_drew (S := fun Y => Blk Y g 48 (nodeC E V M X d2) ∧ Blk Y mb 58 #[.int .i64 m.kind, .int .i64 m.frm, .int .i64 m.dst, .int .u64 (m.term : Int), .int .u64 (m.index : Int), .int .u64 (m.logTerm : Int), .int .u64 (m.commit : Int), .slice A m.ents.length c, .bool m.ok, .slice none 0 0]) (by kernel_rfl) kS (fun hH => ?_)
        refine wpAnyH_take (i := 0) (v := ?_) rfl (by kernel_rfl) (by kernel_rfl) (by kernel_rfl) (fun _ _ _ h => h) (Or.inl ⟨by rfl, ?_⟩) hH ?_
        case refine_2 => intro w hSw; go_simp; try with_reducible rfl
        try simp only [Z1, Z2, Z4, Z5, Z6, Z7]
        refine wpAnyH_take (i := 1) (v := ?_) rfl (by kernel_rfl) (by kernel_rfl) (by kernel_rfl) (fun _ _ _ h => h) (Or.inl ⟨by rfl, ?_⟩) hH ?_
        case refine_2 => intro w hSw; obtain ⟨kw, kb⟩ := hSw; replace kw : Blk w g 48 (nodeC E V M X d2) := kw; replace kb : Blk w mb 58 #[.int .i64 m.kind, .int .i64 m.frm, .int .i64 m.dst, .int .u64 (m.term : Int), .int .u64 (m.index : Int), .int .u64 (m.logTerm : Int), .int .u64 (m.commit : Int), .slice A m.ents.length c, .bool m.ok, .slice none 0 0] := kb; have s0 : w.cell? ⟨_, 0, none⟩ = some (.int .i64 m.kind) := Blk.cell kb 0; have s1 : w.cell? ⟨_, 1, none⟩ = some (.int .i64 m.frm) := Blk.cell kb 1; have s2 : w.cell? ⟨_, 2, none⟩ = some (.int .i64 m.dst) := Blk.cell kb 2; have s3 : w.cell? ⟨_, 3, none⟩ = some (.int .u64 (m.term : Int)) := Blk.cell kb 3; have s4 : w.cell? ⟨_, 4, none⟩ = some (.int .u64 (m.index : Int)) := Blk.cell kb 4; have s5 : w.cell? ⟨_, 5, none⟩ = some (.int .u64 (m.logTerm : Int)) := Blk.cell kb 5; have s6 : w.cell? ⟨_, 6, none⟩ = some (.int .u64 (m.commit : Int)) := Blk.cell kb 6; have s7 : w.cell? ⟨_, 7, none⟩ = some (.slice A m.ents.length c) := Blk.cell kb 7; have s8 : w.cell? ⟨_, 8, none⟩ = some (.bool m.ok) := Blk.cell kb 8; have s9 : w.cell? ⟨_, 9, none⟩ = some (.slice none 0 0) := Blk.cell kb 9; clear kw kb; go_simp; try with_reducible rfl
        try simp only [Z1, Z2, Z3, Z4, Z5, Z6, Z7]
        refine wpAnyH_take (i := 2) (v := ?_) rfl (by kernel_rfl) (by kernel_rfl) (by kernel_rfl) (fun _ _ _ h => h) (Or.inl ⟨by rfl, ?_⟩) hH ?_
        case refine_2 => intro w hSw; go_simp; try with_reducible rfl
        try simp only [Z1, Z2, Z3, Z4, Z5, Z6, Z7]
        refine wpAnyH_take (i := 3) (v := ?_) rfl (by kernel_rfl) (by kernel_rfl) (by kernel_rfl) (fun _ _ _ h => h) (Or.inl ⟨by rfl, ?_⟩) hH ?_
        case refine_2 => intro w hSw; go_simp; try with_reducible rfl
        try simp only [Z1, Z2, Z3, Z4, Z5, Z6, Z7]
        refine wpAnyH_take (i := 4) (v := ?_) rfl (by kernel_rfl) (by kernel_rfl) (by kernel_rfl) (fun _ _ _ h => h) (Or.inl ⟨by rfl, ?_⟩) hH ?_
        case refine_2 => intro w hSw; go_simp; try with_reducible rfl
        try simp only [Z1, Z2, Z3, Z4, Z5, Z6, Z7]
        refine wpAnyH_take (i := 5) (v := ?_) rfl (by kernel_rfl) (by kernel_rfl) (by kernel_rfl) (fun _ _ _ h => h) (Or.inl ⟨by rfl, ?_⟩) hH ?_
        case refine_2 => intro w hSw; go_simp; try with_reducible rfl
        try simp only [Z1, Z2, Z3, Z4, Z5, Z6, Z7]
        refine wpAnyH_take (i := 6) (v := ?_) rfl (by kernel_rfl) (by kernel_rfl) (by kernel_rfl) (fun _ _ _ h => h) (Or.inl ⟨by rfl, ?_⟩) hH ?_
        case refine_2 => intro w hSw; go_simp; try with_reducible rfl
        try simp only [Z1, Z2, Z3, Z4, Z5, Z6, Z7]
        refine wpAnyH_take (i := 7) (v := ?_) rfl (by kernel_rfl) (by kernel_rfl) (by kernel_rfl) (fun _ _ _ h => h) (Or.inl ⟨by rfl, ?_⟩) hH ?_
        case refine_2 => intro w hSw; obtain ⟨kw, kb⟩ := hSw; replace kw : Blk w g 48 (nodeC E V M X d2) := kw; replace kb : Blk w mb 58 #[.int .i64 m.kind, .int .i64 m.frm, .int .i64 m.dst, .int .u64 (m.term : Int), .int .u64 (m.index : Int), .int .u64 (m.logTerm : Int), .int .u64 (m.commit : Int), .slice A m.ents.length c, .bool m.ok, .slice none 0 0] := kb; have n0 : w.cell? ⟨_, 0, none⟩ = some (.int .u64 (d2.term : Int)) := Blk.cell kw 0; clear kw kb; go_simp; try with_reducible rfl
        try simp only [Z1, Z2, Z3, Z4, Z5, Z6, Z7]
        refine wpAnyH_take (i := 8) (v := ?_) rfl (by kernel_rfl) (by kernel_rfl) (by kernel_rfl) (fun _ _ _ h => h) (Or.inl ⟨by rfl, ?_⟩) hH ?_
        case refine_2 => intro w hSw; go_simp; try with_reducible rfl
        try simp only [Z1, Z2, Z3, Z4, Z5, Z6, Z7]
        refine wpAnyH_take (i := 9) (v := ?_) rfl (by kernel_rfl) (by kernel_rfl) (by kernel_rfl) (fun _ _ _ h => h) (Or.inl ⟨by rfl, ?_⟩) hH ?_
        case refine_2 => intro w hSw; go_simp; try with_reducible rfl
        try simp only [Z1, Z2, Z3, Z4, Z5, Z6, Z7]
        refine wpAnyH_ready (rs := [10]) (by kernel_rfl) (by simp) ?_
        refine AllReadyH.cons rfl (fun K hK => ?_) AllReadyH.nil
        go_simp
        have TU := answer_any g E V M X d2 A none c 0 m { kind := 4, term := d2.term, ok := true } (fun _ => False) w5.drew kS.1 (MsgAt.nil_ _ _ _ rfl (by have := hb2.term; show d2.term ≤ _; omega) (Nat.zero_le _) (Nat.zero_le _) (Nat.zero_le _))
        rw [show msgC A c m = #[.int .i64 m.kind, .int .i64 m.frm, .int .i64 m.dst, .int .u64 (m.term : Int), .int .u64 (m.index : Int), .int .u64 (m.logTerm : Int), .int .u64 (m.commit : Int), .slice A m.ents.length c, .bool m.ok, .slice none 0 0] from rfl] at TU
        replace TU : Calls Try.prog 36 #[.pointer (some ⟨g, 0, none⟩), .agg #[.int .i64 m.kind, .int .i64 m.frm, .int .i64 m.dst, .int .u64 (m.term : Int), .int .u64 (m.index : Int), .int .u64 (m.logTerm : Int), .int .u64 (m.commit : Int), .slice A m.ents.length c, .bool m.ok, .slice none 0 0], .agg #[.int .i64 4, .int .i64 0, .int .i64 0, .int .u64 (d2.term : Int), .int .u64 0, .int .u64 0, .int .u64 0, .slice none 0 0, .bool true, .slice none 0 0]] w5.drew _ := TU
        refine TU.mono ?_
        clear TU
        rintro en w7 ⟨gb, rfl, o7, b7⟩
        have k7 := kS.1.below b7 kS.1.lt
        have km7 := kS.2.below b7 kS.2.lt
        refine hK.out _ _ ⟨k7, km7⟩ (fun hH => ?_)
        clear hK K
        try dsimp only
        try simp only [Z1, Z2, Z3, Z4, Z5, Z6, Z7]
        refine wpAnyH_take (i := 11) (v := ?_) rfl (by kernel_rfl) (by kernel_rfl) (by kernel_rfl) (fun _ _ _ h => h) (Or.inl ⟨by rfl, ?_⟩) hH ?_
        case refine_2 => intro w hSw; go_simp; try with_reducible rfl
        try simp only [Z1, Z2, Z3, Z4, Z5, Z6, Z7]
        refine wpAnyH_done (by kernel_rfl) ?_ _
        refine NoPanic.normal ?_
        have D7 : ND w7 g (fun b => F b ∨ w5.heap.size ≤ b) d2 := ND.new (w := w5) ⟨_, _, _, _, _, N5, HF.out⟩ (below_step ((Below.refl _ _).drew) b7)
        have z7 := B5.size
        have o7' := o7.mono (S' := fun b => w5.heap.size ≤ b) (fun b _ _ h => h.elim)
        go_wp2_with fail
        go_ret
        rw [HV.out]
        exact ⟨some ⟨gb, 0, none⟩, 1, w5.heap.size, rfl, z7, o7', D7.mono (fun b h => h.imp (fun h => h.1) id), B5.trans (.of_below (below_step ((Below.refl _ _).drew) b7))⟩
      | false =>
        have HV : Hid (voteP d m = (d1, answerP d1 m { kind := 4, term := d1.term, ok := false })) := by show _ = _; rw [HVP.out]; unfold voteR; rw [HOK.out]; rfl
        have hb2 := hb1
        clear HVP hb1
        go_upto_region 6 with fail
        refine wp_region_noPanic ?_
        have kS : Blk wc.drew g 48 (nodeC E V M X d1) ∧ Blk wc.drew mb 58 #[.int .i64 m.kind, .int .i64 m.frm, .int .i64 m.dst, .int .u64 (m.term : Int), .int .u64 (m.index : Int), .int .u64 (m.logTerm : Int), .int .u64 (m.commit : Int), .slice A m.ents.length c, .bool m.ok, .slice none 0 0] := ⟨Nc.blk.drew, kmc.drew⟩
        refine wp_region_held_drew (S := fun Y => Blk Y g 48 (nodeC E V M X d1) ∧ Blk Y mb 58 #[.int .i64 m.kind, .int .i64 m.frm, .int .i64 m.dst, .int .u64 (m.term : Int), .int .u64 (m.index : Int), .int .u64 (m.logTerm : Int), .int .u64 (m.commit : Int), .slice A m.ents.length c, .bool m.ok, .slice none 0 0]) (by kernel_rfl) kS (fun hH => ?_)
        refine wpAnyH_take (i := 0) (v := ?_) rfl (by kernel_rfl) (by kernel_rfl) (by kernel_rfl) (fun _ _ _ h => h) (Or.inl ⟨by rfl, ?_⟩) hH ?_
        case refine_2 => intro w hSw; go_simp; try with_reducible rfl
        try simp only [Z1, Z2, Z4, Z5, Z6, Z7]
        refine wpAnyH_take (i := 1) (v := ?_) rfl (by kernel_rfl) (by kernel_rfl) (by kernel_rfl) (fun _ _ _ h => h) (Or.inl ⟨by rfl, ?_⟩) hH ?_
        case refine_2 => intro w hSw; obtain ⟨kw, kb⟩ := hSw; replace kw : Blk w g 48 (nodeC E V M X d1) := kw; replace kb : Blk w mb 58 #[.int .i64 m.kind, .int .i64 m.frm, .int .i64 m.dst, .int .u64 (m.term : Int), .int .u64 (m.index : Int), .int .u64 (m.logTerm : Int), .int .u64 (m.commit : Int), .slice A m.ents.length c, .bool m.ok, .slice none 0 0] := kb; have s0 : w.cell? ⟨_, 0, none⟩ = some (.int .i64 m.kind) := Blk.cell kb 0; have s1 : w.cell? ⟨_, 1, none⟩ = some (.int .i64 m.frm) := Blk.cell kb 1; have s2 : w.cell? ⟨_, 2, none⟩ = some (.int .i64 m.dst) := Blk.cell kb 2; have s3 : w.cell? ⟨_, 3, none⟩ = some (.int .u64 (m.term : Int)) := Blk.cell kb 3; have s4 : w.cell? ⟨_, 4, none⟩ = some (.int .u64 (m.index : Int)) := Blk.cell kb 4; have s5 : w.cell? ⟨_, 5, none⟩ = some (.int .u64 (m.logTerm : Int)) := Blk.cell kb 5; have s6 : w.cell? ⟨_, 6, none⟩ = some (.int .u64 (m.commit : Int)) := Blk.cell kb 6; have s7 : w.cell? ⟨_, 7, none⟩ = some (.slice A m.ents.length c) := Blk.cell kb 7; have s8 : w.cell? ⟨_, 8, none⟩ = some (.bool m.ok) := Blk.cell kb 8; have s9 : w.cell? ⟨_, 9, none⟩ = some (.slice none 0 0) := Blk.cell kb 9; clear kw kb; go_simp; try with_reducible rfl
        try simp only [Z1, Z2, Z3, Z4, Z5, Z6, Z7]
        refine wpAnyH_take (i := 2) (v := ?_) rfl (by kernel_rfl) (by kernel_rfl) (by kernel_rfl) (fun _ _ _ h => h) (Or.inl ⟨by rfl, ?_⟩) hH ?_
        case refine_2 => intro w hSw; go_simp; try with_reducible rfl
        try simp only [Z1, Z2, Z3, Z4, Z5, Z6, Z7]
        refine wpAnyH_take (i := 3) (v := ?_) rfl (by kernel_rfl) (by kernel_rfl) (by kernel_rfl) (fun _ _ _ h => h) (Or.inl ⟨by rfl, ?_⟩) hH ?_
        case refine_2 => intro w hSw; go_simp; try with_reducible rfl
        try simp only [Z1, Z2, Z3, Z4, Z5, Z6, Z7]
        refine wpAnyH_take (i := 4) (v := ?_) rfl (by kernel_rfl) (by kernel_rfl) (by kernel_rfl) (fun _ _ _ h => h) (Or.inl ⟨by rfl, ?_⟩) hH ?_
        case refine_2 => intro w hSw; go_simp; try with_reducible rfl
        try simp only [Z1, Z2, Z3, Z4, Z5, Z6, Z7]
        refine wpAnyH_take (i := 5) (v := ?_) rfl (by kernel_rfl) (by kernel_rfl) (by kernel_rfl) (fun _ _ _ h => h) (Or.inl ⟨by rfl, ?_⟩) hH ?_
        case refine_2 => intro w hSw; go_simp; try with_reducible rfl
        try simp only [Z1, Z2, Z3, Z4, Z5, Z6, Z7]
        refine wpAnyH_take (i := 6) (v := ?_) rfl (by kernel_rfl) (by kernel_rfl) (by kernel_rfl) (fun _ _ _ h => h) (Or.inl ⟨by rfl, ?_⟩) hH ?_
        case refine_2 => intro w hSw; go_simp; try with_reducible rfl
        try simp only [Z1, Z2, Z3, Z4, Z5, Z6, Z7]
        refine wpAnyH_take (i := 7) (v := ?_) rfl (by kernel_rfl) (by kernel_rfl) (by kernel_rfl) (fun _ _ _ h => h) (Or.inl ⟨by rfl, ?_⟩) hH ?_
        case refine_2 => intro w hSw; obtain ⟨kw, kb⟩ := hSw; replace kw : Blk w g 48 (nodeC E V M X d1) := kw; replace kb : Blk w mb 58 #[.int .i64 m.kind, .int .i64 m.frm, .int .i64 m.dst, .int .u64 (m.term : Int), .int .u64 (m.index : Int), .int .u64 (m.logTerm : Int), .int .u64 (m.commit : Int), .slice A m.ents.length c, .bool m.ok, .slice none 0 0] := kb; have n0 : w.cell? ⟨_, 0, none⟩ = some (.int .u64 (d1.term : Int)) := Blk.cell kw 0; clear kw kb; go_simp; try with_reducible rfl
        try simp only [Z1, Z2, Z3, Z4, Z5, Z6, Z7]
        refine wpAnyH_take (i := 8) (v := ?_) rfl (by kernel_rfl) (by kernel_rfl) (by kernel_rfl) (fun _ _ _ h => h) (Or.inl ⟨by rfl, ?_⟩) hH ?_
        case refine_2 => intro w hSw; go_simp; try with_reducible rfl
        try simp only [Z1, Z2, Z3, Z4, Z5, Z6, Z7]
        refine wpAnyH_take (i := 9) (v := ?_) rfl (by kernel_rfl) (by kernel_rfl) (by kernel_rfl) (fun _ _ _ h => h) (Or.inl ⟨by rfl, ?_⟩) hH ?_
        case refine_2 => intro w hSw; go_simp; try with_reducible rfl
        try simp only [Z1, Z2, Z3, Z4, Z5, Z6, Z7]
        refine wpAnyH_ready (rs := [10]) (by kernel_rfl) (by simp) ?_
        refine AllReadyH.cons rfl (fun K hK => ?_) AllReadyH.nil
        go_simp
        have TU := answer_any g E V M X d1 A none c 0 m { kind := 4, term := d1.term, ok := false } (fun _ => False) wc.drew kS.1 (MsgAt.nil_ _ _ _ rfl (by have := hb2.term; show d1.term ≤ _; omega) (Nat.zero_le _) (Nat.zero_le _) (Nat.zero_le _))
        rw [show msgC A c m = #[.int .i64 m.kind, .int .i64 m.frm, .int .i64 m.dst, .int .u64 (m.term : Int), .int .u64 (m.index : Int), .int .u64 (m.logTerm : Int), .int .u64 (m.commit : Int), .slice A m.ents.length c, .bool m.ok, .slice none 0 0] from rfl] at TU
        replace TU : Calls Try.prog 36 #[.pointer (some ⟨g, 0, none⟩), .agg #[.int .i64 m.kind, .int .i64 m.frm, .int .i64 m.dst, .int .u64 (m.term : Int), .int .u64 (m.index : Int), .int .u64 (m.logTerm : Int), .int .u64 (m.commit : Int), .slice A m.ents.length c, .bool m.ok, .slice none 0 0], .agg #[.int .i64 4, .int .i64 0, .int .i64 0, .int .u64 (d1.term : Int), .int .u64 0, .int .u64 0, .int .u64 0, .slice none 0 0, .bool false, .slice none 0 0]] wc.drew _ := TU
        refine TU.mono ?_
        clear TU
        rintro en w7 ⟨gb, rfl, o7, b7⟩
        have k7 := kS.1.below b7 kS.1.lt
        have km7 := kS.2.below b7 kS.2.lt
        refine hK.out _ _ ⟨k7, km7⟩ (fun hH => ?_)
        clear hK K
        try dsimp only
        try simp only [Z1, Z2, Z3, Z4, Z5, Z6, Z7]
        refine wpAnyH_take (i := 11) (v := ?_) rfl (by kernel_rfl) (by kernel_rfl) (by kernel_rfl) (fun _ _ _ h => h) (Or.inl ⟨by rfl, ?_⟩) hH ?_
        case refine_2 => intro w hSw; go_simp; try with_reducible rfl
        try simp only [Z1, Z2, Z3, Z4, Z5, Z6, Z7]
        refine wpAnyH_done (by kernel_rfl) ?_ _
        refine NoPanic.normal ?_
        have D7 : ND w7 g (fun b => F b ∨ wc.heap.size ≤ b) d1 := ND.new (w := wc) ⟨_, _, _, _, _, Nc, HF.out⟩ (below_step ((Below.refl _ _).drew) b7)
        have z7 := Bc.size
        have o7' := o7.mono (S' := fun b => wc.heap.size ≤ b) (fun b _ _ h => h.elim)
        go_wp2_with fail
        go_ret
        rw [HV.out]
        exact ⟨some ⟨gb, 0, none⟩, 1, wc.heap.size, rfl, z7, o7', D7.mono (fun b h => h.imp (fun h => h.1) id), Bc.trans (.of_below (below_step ((Below.refl _ _).drew) b7))⟩
end Go.Proofs.Ytjpcekpllfelhaa
