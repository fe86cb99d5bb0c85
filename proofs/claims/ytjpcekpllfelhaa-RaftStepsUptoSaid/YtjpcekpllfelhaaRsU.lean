/- led: a message of a leader. (Printed by wip/gen_rsu.py.) -/
import Derived.Test.YtjpcekpllfelhaaRsT
namespace Go.Proofs.Ytjpcekpllfelhaa
open Go.RowKit

set_option maxRecDepth 100000 in
set_option maxHeartbeats 4000000 in
theorem led_any (g : Nat) (F : Nat → Prop) (d : LNode) (A : Option Addr) (c : Nat) (m : LMsg) (w : World) (hd : ND w g F d) (hM : MsgAt w F A c m) (hb : GB d) (hlen : d.log.length + m.ents.length ≤ 1048576) (hmi : m.index ≤ 4611686018427387904) (htm : m.term ≤ 4611686018427387904) :
    Calls Try.prog 40 #[.pointer (some ⟨g, 0, none⟩), .agg (msgC A c m)] w (RetMs g F (ledP d m) w) := by
  have HP : Hid (ledP d m = if m.term < d.term then (d, answerP d m { kind := 6, term := d.term }) else if m.term = d.term ∧ d.role = 3 then (d, []) else if m.kind = 7 then snapP { followP d m.term m.frm with clock := 0 } m else appendP { followP d m.term m.frm with clock := 0 } m) := rfl
  have HM := Lib.hid hM
  clear hM
  obtain ⟨S, E, V, M, X, hN, hF⟩ := hd
  have HF := Lib.hid hF
  clear hF
  rw [show msgC A c m = #[.int .i64 m.kind, .int .i64 m.frm, .int .i64 m.dst, .int .u64 (m.term : Int), .int .u64 (m.index : Int), .int .u64 (m.logTerm : Int), .int .u64 (m.commit : Int), .slice A m.ents.length c, .bool m.ok, .slice none 0 0] from rfl]
  have km := Blk.new w 58 #[.int .i64 m.kind, .int .i64 m.frm, .int .i64 m.dst, .int .u64 (m.term : Int), .int .u64 (m.index : Int), .int .u64 (m.logTerm : Int), .int .u64 (m.commit : Int), .slice A m.ents.length c, .bool m.ok, .slice none 0 0]
  have b1 : Below w.heap.size w (w.alloc (.cells #[.int .i64 m.kind, .int .i64 m.frm, .int .i64 m.dst, .int .u64 (m.term : Int), .int .u64 (m.index : Int), .int .u64 (m.logTerm : Int), .int .u64 (m.commit : Int), .slice A m.ents.length c, .bool m.ok, .slice none 0 0] 58)) := (Below.refl _ _).alloc (Nat.le_refl _) _
  have N1 := hN.below b1
  have hgl := hN.blk.lt
  clear hN
  go_enter Try.func40, Try.ntmps40
  go_upto_region 1 with fail
  change Code.wp _ _ _ _ (w.alloc (.cells #[.int .i64 m.kind, .int .i64 m.frm, .int .i64 m.dst, .int .u64 (m.term : Int), .int .u64 (m.index : Int), .int .u64 (m.logTerm : Int), .int .u64 (m.commit : Int), .slice A m.ents.length c, .bool m.ok, .slice none 0 0] 58))
  generalize (w.alloc (.cells #[.int .i64 m.kind, .int .i64 m.frm, .int .i64 m.dst, .int .u64 (m.term : Int), .int .u64 (m.index : Int), .int .u64 (m.logTerm : Int), .int .u64 (m.commit : Int), .slice A m.ents.length c, .bool m.ok, .slice none 0 0] 58)) = w1 at *
  obtain ⟨mb, hmb⟩ : ∃ mb, mb = w.heap.size := ⟨_, rfl⟩
  rw [← hmb] at km ⊢
  have hgm : g < mb := by omega
  have HMB := Lib.hid hmb
  clear hmb
  have s3 : w1.cell? ⟨mb, 3, none⟩ = some (.int .u64 (m.term : Int)) := km.cell 3
  have n0 : w1.cell? ⟨g, 0, none⟩ = some (.int .u64 (d.term : Int)) := N1.blk.cell 0
  by_cases ht : m.term < d.term
  · have hti : (m.term : Int) < (d.term : Int) := by omega
    have HV : Hid (ledP d m = (d, answerP d m { kind := 6, term := d.term })) := by show _ = _; rw [HP.out, if_pos ht]
    clear HP ht
    go_quiet (fail)
    go_upto_region 2 with fail
    have dq : Below w1.heap.size w1 (w1.drewN nq) := below_drewN (Below.refl _ _) nq
    have N2 := N1.below dq
    have b2 := below_step b1 dq
    have km2 := km.drewN nq
    clear N1 b1 km dq s3 n0
    generalize w1.drewN nq = w2 at *
    have B2 : BlP F w w2 := .of_below b2
    refine wp_region_noPanic ?_
    have kS : Blk w2.drew g 48 (nodeC E V M X d) ∧ Blk w2.drew mb 58 #[.int .i64 m.kind, .int .i64 m.frm, .int .i64 m.dst, .int .u64 (m.term : Int), .int .u64 (m.index : Int), .int .u64 (m.logTerm : Int), .int .u64 (m.commit : Int), .slice A m.ents.length c, .bool m.ok, .slice none 0 0] := ⟨N2.blk.drew, km2.drew⟩
    refine wp_region_held_drew (S := fun Y => Blk Y g 48 (nodeC E V M X d) ∧ Blk Y mb 58 #[.int .i64 m.kind, .int .i64 m.frm, .int .i64 m.dst, .int .u64 (m.term : Int), .int .u64 (m.index : Int), .int .u64 (m.logTerm : Int), .int .u64 (m.commit : Int), .slice A m.ents.length c, .bool m.ok, .slice none 0 0]) (by kernel_rfl) kS (fun hH => ?_)
    refine wpAnyH_take (i := 0) (v := ?_) rfl (by kernel_rfl) (by kernel_rfl) (by kernel_rfl) (fun _ _ _ h => h) (Or.inl ⟨by rfl, ?_⟩) hH ?_
    case refine_2 => intro w hSw; go_simp; try with_reducible rfl
    try simp only [Z1, Z2, Z4, Z5, Z6, Z7]
    refine wpAnyH_take (i := 1) (v := ?_) rfl (by kernel_rfl) (by kernel_rfl) (by kernel_rfl) (fun _ _ _ h => h) (Or.inl ⟨by rfl, ?_⟩) hH ?_
    case refine_2 => intro w hSw; obtain ⟨kw, kb⟩ := hSw; replace kw : Blk w g 48 (nodeC E V M X d) := kw; replace kb : Blk w mb 58 #[.int .i64 m.kind, .int .i64 m.frm, .int .i64 m.dst, .int .u64 (m.term : Int), .int .u64 (m.index : Int), .int .u64 (m.logTerm : Int), .int .u64 (m.commit : Int), .slice A m.ents.length c, .bool m.ok, .slice none 0 0] := kb; have s0 : w.cell? ⟨_, 0, none⟩ = some (.int .i64 m.kind) := Blk.cell kb 0; have s1 : w.cell? ⟨_, 1, none⟩ = some (.int .i64 m.frm) := Blk.cell kb 1; have s2 : w.cell? ⟨_, 2, none⟩ = some (.int .i64 m.dst) := Blk.cell kb 2; have s3 : w.cell? ⟨_, 3, none⟩ = some (.int .u64 (m.term : Int)) := Blk.cell kb 3; have s4 : w.cell? ⟨_, 4, none⟩ = some (.int .u64 (m.index : Int)) := Blk.cell kb 4; have s5 : w.cell? ⟨_, 5, none⟩ = some (.int .u64 (m.logTerm : Int)) := Blk.cell kb 5; have s6 : w.cell? ⟨_, 6, none⟩ = some (.int .u64 (m.commit : Int)) := Blk.cell kb 6; have s7 : w.cell? ⟨_, 7, none⟩ = some (.slice A m.ents.length c) := Blk.cell kb 7; have s8 : w.cell? ⟨_, 8, none⟩ = some (.bool m.ok) := Blk.cell kb 8; have s9 : w.cell? ⟨_, 9, none⟩ = some (.slice none 0 0) := Blk.cell kb 9; clear kw kb; go_simp; try with_reducible rfl
    try simp only [Z1, Z2, Z3, Z4, Z5, Z6, Z7]
    refine wpAnyH_take (i := 2) (v := ?_) rfl (by kernel_rfl) (by kernel_rfl) (by kernel_rfl) (fun _ _ _ h => h) (Or.inl ⟨by rfl, ?_⟩) hH ?_
    case refine_2 => intro w hSw; go_simp; try with_reducible rfl
    try simp only [Z1, Z2, Z3, Z4, Z5, Z6, Z7]
    refine wpAnyH_take (i := 3) (v := ?_) rfl (by kernel_rfl) (by kernel_rfl) (by kernel_rfl) (fun _ _ _ h => h) (Or.inl ⟨by rfl, ?_⟩) hH ?_
    case refine_2 => intro w hSw; go_simp; try with_reducible rfl
    try simp only [Z1, Z2, Z3, Z4, Z5, Z6, Z7]
    refine wpAnyH_take (i := 4) (v := ?_) rfl (by kernel_rfl) (by kernel_rfl) (by kernel_rfl) (fun _ _ _ h => h) (Or.inl ⟨by rfl, ?_⟩) hH ?_
    case refine_2 => intro w hSw; go_simp; try with_reducible rfl
    try simp only [Z1, Z2, Z3, Z4, Z5, Z6, Z7]
    refine wpAnyH_take (i := 5) (v := ?_) rfl (by kernel_rfl) (by kernel_rfl) (by kernel_rfl) (fun _ _ _ h => h) (Or.inl ⟨by rfl, ?_⟩) hH ?_
    case refine_2 => intro w hSw; go_simp; try with_reducible rfl
    try simp only [Z1, Z2, Z3, Z4, Z5, Z6, Z7]
    refine wpAnyH_take (i := 6) (v := ?_) rfl (by kernel_rfl) (by kernel_rfl) (by kernel_rfl) (fun _ _ _ h => h) (Or.inl ⟨by rfl, ?_⟩) hH ?_
    case refine_2 => intro w hSw; go_simp; try with_reducible rfl
    try simp only [Z1, Z2, Z3, Z4, Z5, Z6, Z7]
    refine wpAnyH_take (i := 7) (v := ?_) rfl (by kernel_rfl) (by kernel_rfl) (by kernel_rfl) (fun _ _ _ h => h) (Or.inl ⟨by rfl, ?_⟩) hH ?_
    case refine_2 => intro w hSw; obtain ⟨kw, kb⟩ := hSw; replace kw : Blk w g 48 (nodeC E V M X d) := kw; replace kb : Blk w mb 58 #[.int .i64 m.kind, .int .i64 m.frm, .int .i64 m.dst, .int .u64 (m.term : Int), .int .u64 (m.index : Int), .int .u64 (m.logTerm : Int), .int .u64 (m.commit : Int), .slice A m.ents.length c, .bool m.ok, .slice none 0 0] := kb; have n0 : w.cell? ⟨_, 0, none⟩ = some (.int .u64 (d.term : Int)) := Blk.cell kw 0; clear kw kb; go_simp; try with_reducible rfl
    try simp only [Z1, Z2, Z3, Z4, Z5, Z6, Z7]
    refine wpAnyH_take (i := 8) (v := ?_) rfl (by kernel_rfl) (by kernel_rfl) (by kernel_rfl) (fun _ _ _ h => h) (Or.inl ⟨by rfl, ?_⟩) hH ?_
    case refine_2 => intro w hSw; go_simp; try with_reducible rfl
    try simp only [Z1, Z2, Z3, Z4, Z5, Z6, Z7]
    refine wpAnyH_ready (rs := [9]) (by kernel_rfl) (by simp) ?_
    refine AllReadyH.cons rfl (fun K hK => ?_) AllReadyH.nil
    go_simp
    have TU := answer_any g E V M X d A none c 0 m { kind := 6, term := d.term } (fun _ => False) w2.drew kS.1 (MsgAt.nil_ _ _ _ rfl (by have := hb.term; show d.term ≤ _; omega) (Nat.zero_le _) (Nat.zero_le _) (Nat.zero_le _))
    rw [show msgC A c m = #[.int .i64 m.kind, .int .i64 m.frm, .int .i64 m.dst, .int .u64 (m.term : Int), .int .u64 (m.index : Int), .int .u64 (m.logTerm : Int), .int .u64 (m.commit : Int), .slice A m.ents.length c, .bool m.ok, .slice none 0 0] from rfl] at TU
    replace TU : Calls Try.prog 36 #[.pointer (some ⟨g, 0, none⟩), .agg #[.int .i64 m.kind, .int .i64 m.frm, .int .i64 m.dst, .int .u64 (m.term : Int), .int .u64 (m.index : Int), .int .u64 (m.logTerm : Int), .int .u64 (m.commit : Int), .slice A m.ents.length c, .bool m.ok, .slice none 0 0], .agg #[.int .i64 6, .int .i64 0, .int .i64 0, .int .u64 (d.term : Int), .int .u64 0, .int .u64 0, .int .u64 0, .slice none 0 0, .bool false, .slice none 0 0]] w2.drew _ := TU
    refine TU.mono ?_
    clear TU
    rintro en w7 ⟨gb, rfl, o7, b7⟩
    have k7 := kS.1.below b7 kS.1.lt
    have km7 := kS.2.below b7 kS.2.lt
    refine hK.out _ _ ⟨k7, km7⟩ (fun hH => ?_)
    clear hK K
    try dsimp only
    try simp only [Z1, Z2, Z3, Z4, Z5, Z6, Z7]
    refine wpAnyH_take (i := 10) (v := ?_) rfl (by kernel_rfl) (by kernel_rfl) (by kernel_rfl) (fun _ _ _ h => h) (Or.inl ⟨by rfl, ?_⟩) hH ?_
    case refine_2 => intro w hSw; go_simp; try with_reducible rfl
    try simp only [Z1, Z2, Z3, Z4, Z5, Z6, Z7]
    refine wpAnyH_done (by kernel_rfl) ?_ _
    refine NoPanic.normal ?_
    have D7 : ND w7 g (fun b => F b ∨ w2.heap.size ≤ b) d := ND.new (w := w2) ⟨_, _, _, _, _, N2, HF.out⟩ (below_step ((Below.refl _ _).drew) b7)
    have z7 := B2.size
    have o7' := o7.mono (S' := fun b => w2.heap.size ≤ b) (fun b _ _ h => h.elim)
    go_wp2_with fail
    go_ret
    rw [HV.out]
    exact ⟨some ⟨gb, 0, none⟩, 1, w2.heap.size, rfl, z7, o7', D7.mono (fun b h => h.imp (fun h => h.1) id), B2.trans (.of_below (below_step ((Below.refl _ _).drew) b7))⟩
  · have hti : ¬ (m.term : Int) < (d.term : Int) := by omega
    have HP2 : Hid (ledP d m = if m.term = d.term ∧ d.role = 3 then (d, []) else if m.kind = 7 then snapP { followP d m.term m.frm with clock := 0 } m else appendP { followP d m.term m.frm with clock := 0 } m) := by show _ = _; rw [HP.out, if_neg ht]
    have htd : d.term ≤ m.term := by omega
    clear HP ht
    go_quiet (fail)
    go_upto_region 3 with fail
    have dq : Below w1.heap.size w1 (w1.drewN nq) := below_drewN (Below.refl _ _) nq
    have N2 := N1.below dq
    have b2 := below_step b1 dq
    have km2 := km.drewN nq
    clear N1 b1 km dq s3 n0
    generalize w1.drewN nq = w2 at *
    have s3 : w2.cell? ⟨mb, 3, none⟩ = some (.int .u64 (m.term : Int)) := km2.cell 3
    have n0 : w2.cell? ⟨g, 0, none⟩ = some (.int .u64 (d.term : Int)) := N2.blk.cell 0
    have n8 : w2.cell? ⟨g, 8, none⟩ = some (.int .i64 d.role) := N2.blk.cell 8
    go_cut [39] (fun v39 wx => ∃ ok, v39 = .bool ok ∧ Hid (ok = decide (m.term = d.term ∧ d.role = 3)) ∧ Below w2.heap.size w2 wx)
    case first =>
      by_cases h1 : m.term = d.term
      · have h1i : ((m.term : Int) == (d.term : Int)) = true := by rw [beq_iff_eq]; omega
        by_cases h2 : d.role = 3
        · have h2i : (d.role == 3) = true := by rw [beq_iff_eq]; exact h2
          have HOK : Hid (true = decide (m.term = d.term ∧ d.role = 3)) := by show _ = _; rw [decide_eq_true ⟨h1, h2⟩]
          clear h1 h2
          go_quiet (fail)
          go_wp2_with fail
          go_meet
          case rel => exact ⟨_, rfl, HOK, below_drewN (Below.refl _ _) _⟩
        · have h2i : (d.role == 3) = false := by rw [beq_eq_false_iff_ne]; exact h2
          have HOK : Hid (false = decide (m.term = d.term ∧ d.role = 3)) := by show _ = _; rw [decide_eq_false (fun h => h2 h.2)]
          clear h1 h2
          go_quiet (fail)
          go_wp2_with fail
          go_meet
          case rel => exact ⟨_, rfl, HOK, below_drewN (Below.refl _ _) _⟩
      · have h1i : ((m.term : Int) == (d.term : Int)) = false := by rw [beq_eq_false_iff_ne]; omega
        have HOK : Hid (false = decide (m.term = d.term ∧ d.role = 3)) := by show _ = _; rw [decide_eq_false (fun h => h1 h.1)]
        clear h1
        go_quiet (fail)
        go_wp2_with fail
        go_meet
        case rel => exact ⟨_, rfl, HOK, below_drewN (Below.refl _ _) _⟩
    case rest =>
      obtain ⟨ok, rfl, HOK, bc⟩ := hcut
      have N3 := N2.below bc
      have b3 := below_step b2 bc
      have km3 := km2.below bc km2.lt
      clear N2 b2 km2 bc s3 n0 n8
      cases ok with
      | true =>
        have HE : Hid (ledP d m = (d, [])) := by show _ = _; rw [HP2.out, if_pos (of_decide_eq_true HOK.out.symm)]
        clear HP2 HOK
        go_wp2_with fail
        go_ret
        rw [HE.out]
        exact RetMs.nil_ (ND.all ⟨_, _, _, _, _, N3, HF.out⟩) (fun b _ h => .inl h) (fun b h => .inr h) (.of_below b3)
      | false =>
        have HP3 : Hid (ledP d m = if m.kind = 7 then snapP { followP d m.term m.frm with clock := 0 } m else appendP { followP d m.term m.frm with clock := 0 } m) := by show _ = _; rw [HP2.out, if_neg (of_decide_eq_false HOK.out.symm)]
        clear HP2 HOK
        obtain ⟨df, hdf⟩ : ∃ df, df = followP d m.term m.frm := ⟨_, rfl⟩
        have hqf : df.term = m.term ∧ df.log = d.log ∧ df.base = d.base ∧ df.baseTerm = d.baseTerm ∧ df.commit = d.commit := by
          rw [hdf]
          unfold followP
          split
          · exact ⟨rfl, rfl, rfl, rfl, rfl⟩
          · exact ⟨by show d.term = _; omega, rfl, rfl, rfl, rfl⟩
        obtain ⟨d1, hd1⟩ : ∃ d1 : LNode, d1 = { df with clock := 0 } := ⟨_, rfl⟩
        have HP4 : Hid (ledP d m = if m.kind = 7 then snapP d1 m else appendP d1 m) := by show _ = _; rw [HP3.out, hd1, hdf]
        have hb1 : GB d1 := by rw [hd1]; exact ⟨by show df.base ≤ _; rw [hqf.2.2.1]; exact hb.base, by show df.baseTerm ≤ _; rw [hqf.2.2.2.1]; exact hb.bt, by show df.log.length ≤ _; rw [hqf.2.1]; exact hb.len, by show df.term ≤ _; rw [hqf.1]; exact htm, by show df.commit ≤ _; rw [hqf.2.2.2.2]; exact hb.commit⟩
        have hl1 : d1.log.length + m.ents.length ≤ 1048576 := by rw [hd1]; show df.log.length + _ ≤ _; rw [hqf.2.1]; exact hlen
        clear HP3 hqf
        have s3 : wc.cell? ⟨mb, 3, none⟩ = some (.int .u64 (m.term : Int)) := km3.cell 3
        have s1 : wc.cell? ⟨mb, 1, none⟩ = some (.int .i64 m.frm) := km3.cell 1
        have T := follow_any g S E V M X d m.term m.frm wc N3
        go_wp2_with fail
        refine T.mono ?_
        clear T s3 s1
        rintro en w4 ⟨rfl, g4, N4⟩
        have B4 := (BlP.of_below b3).grown (B := F) g4 (fun b e h => (HF.out b h).1 (Option.some.inj e).symm)
        have km4 := km3.grown g4 (fun e => by have := Option.some.inj e; omega)
        rw [← hdf] at N4
        clear N3 b3 km3 g4 hdf
        have n11 : w4.cell? ⟨g, 11, none⟩ = some (.int .i64 df.clock) := N4.blk.cell 11
        have f11 : w4.frozen? ⟨g, 11, none⟩ = false := N4.blk.frozen 11
        have g5 : w4.grownBy (w4.setCell ⟨g, 11, none⟩ (.int .i64 0)) (some g) := only_setCell (only_of_below (Below.refl _ _) (some g)) (.inl rfl) _
        have N5 : NodeAt (w4.setCell ⟨g, 11, none⟩ (.int .i64 0)) g S E V M X d1 := by rw [hd1]; exact N4.turn g5 (N4.blk.set_ 11 (.int .i64 0)) ⟨rfl, rfl, rfl, rfl⟩
        have B5 := B4.grown g5 (fun b e h => (HF.out b h).1 (Option.some.inj e).symm)
        have km5 := km4.far (p := ⟨g, 11, none⟩) (by show mb ≠ g; omega) (.int .i64 0)
        go_upto_region 7 with fail
        clear n11 f11 g5 N4 B4 km4 hd1
        generalize (w4.setCell ⟨g, 11, none⟩ (.int .i64 0)) = w5 at *
        have D5 : ND w5 g F d1 := ⟨_, _, _, _, _, N5, HF.out⟩
        have M5 : MsgAt w5 F A c m := HM.out.same B5.same
        clear N5 HM
        have s0 : w5.cell? ⟨mb, 0, none⟩ = some (.int .i64 m.kind) := km5.cell 0
        by_cases hk : m.kind = 7
        · have hki : (m.kind == 7) = true := by rw [beq_iff_eq]; exact hk
          have HE : Hid (ledP d m = snapP d1 m) := by show _ = _; rw [HP4.out, if_pos hk]
          clear HP4 hk M5
          have T := snap_any g F d1 A c m w5 D5 hb1 hmi
          rw [show msgC A c m = #[.int .i64 m.kind, .int .i64 m.frm, .int .i64 m.dst, .int .u64 (m.term : Int), .int .u64 (m.index : Int), .int .u64 (m.logTerm : Int), .int .u64 (m.commit : Int), .slice A m.ents.length c, .bool m.ok, .slice none 0 0] from rfl] at T
          clear D5
          go_wp2_with ((with_reducible refine wpList_load_blk rfl 58 (.tmp 3) rfl mb ?_ 58 _ _ km5 Try.underlying58 ?_ Try.size_Msg ?_ ?_); rfl; rfl; rfl)
          refine T.mono ?_
          clear T s0
          intro en w6 h6
          rw [← HE.out] at h6
          obtain ⟨A5, c5, k5, rfl, h7⟩ := h6.mono B5 (fun b _ h => h)
          go_wp2_with fail
          go_ret
          exact ⟨A5, c5, k5, rfl, h7⟩
        · have hki : (m.kind == 7) = false := by rw [beq_eq_false_iff_ne]; exact hk
          have HE : Hid (ledP d m = appendP d1 m) := by show _ = _; rw [HP4.out, if_neg hk]
          clear HP4 hk
          have T := append_any g F d1 A c m F w5 D5 M5 hb1 hl1 hmi
          rw [show msgC A c m = #[.int .i64 m.kind, .int .i64 m.frm, .int .i64 m.dst, .int .u64 (m.term : Int), .int .u64 (m.index : Int), .int .u64 (m.logTerm : Int), .int .u64 (m.commit : Int), .slice A m.ents.length c, .bool m.ok, .slice none 0 0] from rfl] at T
          clear D5 M5
          go_wp2_with ((with_reducible refine wpList_load_blk rfl 58 (.tmp 3) rfl mb ?_ 58 _ _ km5 Try.underlying58 ?_ Try.size_Msg ?_ ?_); rfl; rfl; rfl)
          refine T.mono ?_
          clear T s0
          intro en w6 h6
          rw [← HE.out] at h6
          obtain ⟨A5, c5, k5, rfl, h7⟩ := h6.mono B5 (fun b _ h => h)
          go_wp2_with fail
          go_ret
          exact ⟨A5, c5, k5, rfl, h7⟩
end Go.Proofs.Ytjpcekpllfelhaa
