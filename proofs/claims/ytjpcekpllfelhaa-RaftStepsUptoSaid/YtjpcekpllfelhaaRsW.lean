/- Step: a message comes in. (Printed by wip/gen_rsw.py.) -/
import Derived.Test.YtjpcekpllfelhaaRsV
namespace Go.Proofs.Ytjpcekpllfelhaa
open Go.RowKit

/-- what a node of a group keeps -/
structure RB (d : LNode) : Prop where
  gb : GB d
  n1 : 1 ≤ d.n
  n5 : d.n ≤ 12
  id : d.id < d.n
  r1 : d.role = 1 → d.votes.length = d.n
  r2 : d.role = 2 → d.votes.length = d.n
  r3 : d.role = 3 → d.mat.length = d.n ∧ d.next.length = d.n
  mx : ∀ i, d.mat.getD i 0 ≤ 9223372036854775807
theorem proper_facts {d : LNode} {m : LMsg} (h : properP d m = true) : 0 ≤ m.frm ∧ m.frm < (d.n : Int) ∧ m.dst = d.id ∧ m.frm ≠ d.id ∧ 1 ≤ m.kind ∧ m.kind ≤ 7 ∧ risingP m.ents 0 m.term = true ∧ m.index ≤ 4611686018427387904 ∧ m.term ≤ 4611686018427387904 := by
  unfold properP at h
  split at h
  · cases h
  · rename_i h0
    rw [Bool.and_eq_true, Bool.and_eq_true, decide_eq_true_eq, decide_eq_true_eq] at h
    exact ⟨by omega, by omega, by omega, by omega, by omega, by omega, h.1.1, h.1.2, h.2⟩
set_option maxRecDepth 100000 in
set_option maxHeartbeats 4000000 in
theorem step_any (g : Nat) (F : Nat → Prop) (d : LNode) (A : Option Addr) (c : Nat) (m : LMsg) (w : World) (hd : ND w g F d) (hM : MsgAt w F A c m) (rb : RB d) (hbl : d.log.length + 1 ≤ 1048576) (hlen : d.log.length + m.ents.length ≤ 1048576) :
    Calls Try.prog 20 #[.pointer (some ⟨g, 0, none⟩), .agg (msgC A c m)] w (RetMs g F (stepP d m) w) := by
  have HP : Hid (stepP d m = if properP d m = false then (d, []) else if m.kind = 1 then (d, answerP d m (if d.term < m.term ∧ upP d m = true ∧ (d.lead = -1 ∨ d.limit ≤ d.clock) then { kind := 2, term := m.term, ok := true } else { kind := 2, term := d.term })) else if m.kind = 2 then preVotedP d m else if m.kind = 3 then voteP d m else if m.kind = 4 then votedP d m else if m.kind = 5 ∨ m.kind = 7 then ledP d m else appendedP d m) := rfl
  have hb := rb.gb
  have HRB := Lib.hid rb
  clear rb
  have HM := Lib.hid (hM.below (w' := w.alloc (.cells #[.int .i64 m.kind, .int .i64 m.frm, .int .i64 m.dst, .int .u64 (m.term : Int), .int .u64 (m.index : Int), .int .u64 (m.logTerm : Int), .int .u64 (m.commit : Int), .slice A m.ents.length c, .bool m.ok, .slice none 0 0] 58)) ((Below.refl _ _).alloc (Nat.le_refl _) _))
  clear hM
  obtain ⟨S, E, V, M, X, hN, hF⟩ := hd
  have HF := Lib.hid hF
  clear hF
  rw [show msgC A c m = #[.int .i64 m.kind, .int .i64 m.frm, .int .i64 m.dst, .int .u64 (m.term : Int), .int .u64 (m.index : Int), .int .u64 (m.logTerm : Int), .int .u64 (m.commit : Int), .slice A m.ents.length c, .bool m.ok, .slice none 0 0] from rfl]
  have km := Blk.new w 58 #[.int .i64 m.kind, .int .i64 m.frm, .int .i64 m.dst, .int .u64 (m.term : Int), .int .u64 (m.index : Int), .int .u64 (m.logTerm : Int), .int .u64 (m.commit : Int), .slice A m.ents.length c, .bool m.ok, .slice none 0 0]
  have b1 : Below w.heap.size w (w.alloc (.cells #[.int .i64 m.kind, .int .i64 m.frm, .int .i64 m.dst, .int .u64 (m.term : Int), .int .u64 (m.index : Int), .int .u64 (m.logTerm : Int), .int .u64 (m.commit : Int), .slice A m.ents.length c, .bool m.ok, .slice none 0 0] 58)) := (Below.refl _ _).alloc (Nat.le_refl _) _
  have N1 := hN.below b1
  have hgl := hN.blk.lt
  clear hN
  go_enter Try.func20, Try.ntmps20
  go_upto_region 1 with fail
  change Code.wp _ _ _ _ (w.alloc (.cells #[.int .i64 m.kind, .int .i64 m.frm, .int .i64 m.dst, .int .u64 (m.term : Int), .int .u64 (m.index : Int), .int .u64 (m.logTerm : Int), .int .u64 (m.commit : Int), .slice A m.ents.length c, .bool m.ok, .slice none 0 0] 58))
  generalize (w.alloc (.cells #[.int .i64 m.kind, .int .i64 m.frm, .int .i64 m.dst, .int .u64 (m.term : Int), .int .u64 (m.index : Int), .int .u64 (m.logTerm : Int), .int .u64 (m.commit : Int), .slice A m.ents.length c, .bool m.ok, .slice none 0 0] 58)) = w1 at *
  obtain ⟨mb, hmb⟩ : ∃ mb, mb = w.heap.size := ⟨_, rfl⟩
  rw [← hmb] at km ⊢
  have hgm : g < mb := by omega
  have HMB := Lib.hid hmb
  clear hmb
  have T := proper_any g S F E V M X d A c m w1 N1 HM.out (by omega)
  rw [show msgC A c m = #[.int .i64 m.kind, .int .i64 m.frm, .int .i64 m.dst, .int .u64 (m.term : Int), .int .u64 (m.index : Int), .int .u64 (m.logTerm : Int), .int .u64 (m.commit : Int), .slice A m.ents.length c, .bool m.ok, .slice none 0 0] from rfl] at T
  obtain ⟨pp, hpp⟩ : ∃ pp, pp = properP d m := ⟨_, rfl⟩
  rw [← hpp] at T
  have HPP := Lib.hid hpp
  clear hpp
  go_wp2_with ((with_reducible refine wpList_load_blk rfl 58 (.tmp 3) rfl mb ?_ 58 _ _ km Try.underlying58 ?_ Try.size_Msg ?_ ?_); rfl; rfl; rfl)
  refine T.mono ?_
  clear T
  rintro en w2 ⟨rfl, bc⟩
  have N2 := N1.below bc
  have b2 := below_step b1 bc
  have km2 := km.below bc km.lt
  have HM2 := Lib.hid (HM.out.below bc)
  clear N1 b1 km bc HM
  cases pp with
  | false =>
    have HE : Hid (stepP d m = (d, [])) := by show _ = _; rw [HP.out, if_pos HPP.out.symm]
    clear HP HPP
    go_wp2_with fail
    go_ret
    rw [HE.out]
    exact RetMs.nil_ (ND.all ⟨_, _, _, _, _, N2, HF.out⟩) (fun b _ h => .inl h) (fun b h => .inr h) (.of_below b2)
  | true =>
    obtain ⟨p1, p2, p3, p4, p5, p6, p7, p8, p9⟩ := proper_facts HPP.out.symm
    have HP2 : Hid (stepP d m = if m.kind = 1 then (d, answerP d m (if d.term < m.term ∧ upP d m = true ∧ (d.lead = -1 ∨ d.limit ≤ d.clock) then { kind := 2, term := m.term, ok := true } else { kind := 2, term := d.term })) else if m.kind = 2 then preVotedP d m else if m.kind = 3 then voteP d m else if m.kind = 4 then votedP d m else if m.kind = 5 ∨ m.kind = 7 then ledP d m else appendedP d m) := by show _ = _; rw [HP.out, if_neg (by rw [← HPP.out]; simp)]
    have HIX := Lib.hid p8
    have HTM := Lib.hid p9
    have HF1 := Lib.hid p1
    have HF2 := Lib.hid p2
    clear HP HPP p3 p4 p5 p6 p7 p1 p2
    have s0 : w2.cell? ⟨mb, 0, none⟩ = some (.int .i64 m.kind) := km2.cell 0
    by_cases hk1 : m.kind = 1
    · have hki : (m.kind == 1) = true := by rw [beq_iff_eq]; exact hk1
      have HE : Hid (stepP d m = (d, answerP d m (if (decide (d.term < m.term) && upP d m && (decide (d.lead = -1) || decide (d.limit ≤ d.clock))) = true then { kind := 2, term := m.term, ok := true } else { kind := 2, term := d.term }))) := by
        show _ = _
        rw [HP2.out, if_pos hk1]
        simp only [Bool.and_eq_true, Bool.or_eq_true, decide_eq_true_eq, and_assoc]
      clear HP2 hk1
      go_upto_region 5 with fail
      clear s0
      have s3 : w2.cell? ⟨mb, 3, none⟩ = some (.int .u64 (m.term : Int)) := km2.cell 3
      have n0 : w2.cell? ⟨g, 0, none⟩ = some (.int .u64 (d.term : Int)) := N2.blk.cell 0
      have n7 : w2.cell? ⟨g, 7, none⟩ = some (.int .i64 d.limit) := N2.blk.cell 7
      have n9 : w2.cell? ⟨g, 9, none⟩ = some (.int .i64 d.lead) := N2.blk.cell 9
      have n11 : w2.cell? ⟨g, 11, none⟩ = some (.int .i64 d.clock) := N2.blk.cell 11
      obtain ⟨u, hu⟩ : ∃ u, u = upP d m := ⟨_, rfl⟩
      have HU := Lib.hid hu
      clear hu
      go_cut [5] (fun v5 wx => ∃ ok, v5 = .bool ok ∧ Hid (ok = (decide (d.term < m.term) && upP d m && (decide (d.lead = -1) || decide (d.limit ≤ d.clock)))) ∧ Below w2.heap.size w2 wx)
      case first =>
        by_cases h1 : d.term < m.term
        · have h1i : (d.term : Int) < (m.term : Int) := by omega
          cases u with
          | false =>
            have HOK : Hid (false = (decide (d.term < m.term) && upP d m && (decide (d.lead = -1) || decide (d.limit ≤ d.clock)))) := by show _ = _; rw [← HU.out, Bool.and_false]; rfl
            clear h1
            refine wp_region_noPanic ?_
            have kS : Blk w2.drew g 48 (nodeC E V M X d) ∧ Blk w2.drew mb 58 #[.int .i64 m.kind, .int .i64 m.frm, .int .i64 m.dst, .int .u64 (m.term : Int), .int .u64 (m.index : Int), .int .u64 (m.logTerm : Int), .int .u64 (m.commit : Int), .slice A m.ents.length c, .bool m.ok, .slice none 0 0] := ⟨N2.blk.drew, km2.drew⟩
            refine wp_region_held_drew (S := (fun Y => Blk Y g 48 (nodeC E V M X d) ∧ Blk Y mb 58 #[.int .i64 m.kind, .int .i64 m.frm, .int .i64 m.dst, .int .u64 (m.term : Int), .int .u64 (m.index : Int), .int .u64 (m.logTerm : Int), .int .u64 (m.commit : Int), .slice A m.ents.length c, .bool m.ok, .slice none 0 0])) (by kernel_rfl) kS (fun hH => ?_)
            clear n0 n7 n9 n11 s3
            refine wpAnyH_take (i := 0) (v := ?_) rfl (by kernel_rfl) (by kernel_rfl) (by kernel_rfl) (fun _ _ _ h => h) (Or.inl ⟨by rfl, ?_⟩) hH ?_
            case refine_2 => intro w hSw; go_simp; try with_reducible rfl
            try simp only [Z1, Z2, Z4, Z5, Z6, Z7]
            refine wpAnyH_take (i := 1) (v := ?_) rfl (by kernel_rfl) (by kernel_rfl) (by kernel_rfl) (fun _ _ _ h => h) (Or.inl ⟨by rfl, ?_⟩) hH ?_
            case refine_2 => intro w hSw; obtain ⟨kw, kb⟩ := hSw; replace kw : Blk w g 48 (nodeC E V M X d) := kw; replace kb : Blk w mb 58 #[.int .i64 m.kind, .int .i64 m.frm, .int .i64 m.dst, .int .u64 (m.term : Int), .int .u64 (m.index : Int), .int .u64 (m.logTerm : Int), .int .u64 (m.commit : Int), .slice A m.ents.length c, .bool m.ok, .slice none 0 0] := kb; have s3 : w.cell? ⟨_, 3, none⟩ = some (.int .u64 (m.term : Int)) := Blk.cell kb 3; clear kw kb; go_simp; try with_reducible rfl
            try simp only [Z1, Z2, Z3, Z4, Z5, Z6, Z7]
            refine wpAnyH_take (i := 2) (v := ?_) rfl (by kernel_rfl) (by kernel_rfl) (by kernel_rfl) (fun _ _ _ h => h) (Or.inl ⟨by rfl, ?_⟩) hH ?_
            case refine_2 => intro w hSw; go_simp; try with_reducible rfl
            try simp only [Z1, Z2, Z3, Z4, Z5, Z6, Z7]
            refine wpAnyH_take (i := 3) (v := ?_) rfl (by kernel_rfl) (by kernel_rfl) (by kernel_rfl) (fun _ _ _ h => h) (Or.inl ⟨by rfl, ?_⟩) hH ?_
            case refine_2 => intro w hSw; go_simp; try with_reducible rfl
            try simp only [Z1, Z2, Z3, Z4, Z5, Z6, Z7]
            refine wpAnyH_take (i := 4) (v := ?_) rfl (by kernel_rfl) (by kernel_rfl) (by kernel_rfl) (fun _ _ _ h => h) (Or.inl ⟨by rfl, ?_⟩) hH ?_
            case refine_2 => intro w hSw; go_simp; try with_reducible rfl
            try simp only [Z1, Z2, Z3, Z4, Z5, Z6, Z7]
            refine wpAnyH_take (i := 5) (v := ?_) rfl (by kernel_rfl) (by kernel_rfl) (by kernel_rfl) (fun _ _ _ h => h) (Or.inl ⟨by rfl, ?_⟩) hH ?_
            case refine_2 => intro w hSw; go_simp; try with_reducible rfl
            try simp only [Z1, Z2, Z3, Z4, Z5, Z6, Z7]
            refine wpAnyH_take (i := 6) (v := ?_) rfl (by kernel_rfl) (by kernel_rfl) (by kernel_rfl) (fun _ _ _ h => h) (Or.inl ⟨by rfl, ?_⟩) hH ?_
            case refine_2 => intro w hSw; go_simp; try with_reducible rfl
            try simp only [Z1, Z2, Z3, Z4, Z5, Z6, Z7]
            refine wpAnyH_take (i := 7) (v := ?_) rfl (by kernel_rfl) (by kernel_rfl) (by kernel_rfl) (fun _ _ _ h => h) (Or.inl ⟨by rfl, ?_⟩) hH ?_
            case refine_2 => intro w hSw; obtain ⟨kw, kb⟩ := hSw; replace kw : Blk w g 48 (nodeC E V M X d) := kw; replace kb : Blk w mb 58 #[.int .i64 m.kind, .int .i64 m.frm, .int .i64 m.dst, .int .u64 (m.term : Int), .int .u64 (m.index : Int), .int .u64 (m.logTerm : Int), .int .u64 (m.commit : Int), .slice A m.ents.length c, .bool m.ok, .slice none 0 0] := kb; have n0 : w.cell? ⟨_, 0, none⟩ = some (.int .u64 (d.term : Int)) := Blk.cell kw 0; clear kw kb; go_simp; try with_reducible rfl
            try simp only [Z1, Z2, Z3, Z4, Z5, Z6, Z7]
            refine wpAnyH_take (i := 8) (v := ?_) rfl (by kernel_rfl) (by kernel_rfl) (by kernel_rfl) (fun _ _ _ h => h) (Or.inl ⟨by rfl, ?_⟩) hH ?_
            case refine_2 => intro w hSw; go_simp; try with_reducible rfl
            try simp only [Z1, Z2, Z3, Z4, Z5, Z6, Z7]
            refine wpAnyH_take (i := 9) (v := ?_) rfl (by kernel_rfl) (by kernel_rfl) (by kernel_rfl) (fun _ _ _ h => h) (Or.inl ⟨by rfl, ?_⟩) hH ?_
            case refine_2 => intro w hSw; go_simp; try with_reducible rfl
            try simp only [Z1, Z2, Z3, Z4, Z5, Z6, Z7]
            refine wpAnyH_take (i := 10) (v := ?_) rfl (by kernel_rfl) (by kernel_rfl) (by kernel_rfl) (fun _ _ _ h => h) (Or.inl ⟨by rfl, ?_⟩) hH ?_
            case refine_2 => intro w hSw; go_simp; try with_reducible rfl
            try simp only [Z1, Z2, Z3, Z4, Z5, Z6, Z7]
            refine wpAnyH_take (i := 11) (v := ?_) rfl (by kernel_rfl) (by kernel_rfl) (by kernel_rfl) (fun _ _ _ h => h) (Or.inl ⟨by rfl, ?_⟩) hH ?_
            case refine_2 => intro w hSw; obtain ⟨kw, kb⟩ := hSw; replace kw : Blk w g 48 (nodeC E V M X d) := kw; replace kb : Blk w mb 58 #[.int .i64 m.kind, .int .i64 m.frm, .int .i64 m.dst, .int .u64 (m.term : Int), .int .u64 (m.index : Int), .int .u64 (m.logTerm : Int), .int .u64 (m.commit : Int), .slice A m.ents.length c, .bool m.ok, .slice none 0 0] := kb; have s0 : w.cell? ⟨_, 0, none⟩ = some (.int .i64 m.kind) := Blk.cell kb 0; have s1 : w.cell? ⟨_, 1, none⟩ = some (.int .i64 m.frm) := Blk.cell kb 1; have s2 : w.cell? ⟨_, 2, none⟩ = some (.int .i64 m.dst) := Blk.cell kb 2; have s3 : w.cell? ⟨_, 3, none⟩ = some (.int .u64 (m.term : Int)) := Blk.cell kb 3; have s4 : w.cell? ⟨_, 4, none⟩ = some (.int .u64 (m.index : Int)) := Blk.cell kb 4; have s5 : w.cell? ⟨_, 5, none⟩ = some (.int .u64 (m.logTerm : Int)) := Blk.cell kb 5; have s6 : w.cell? ⟨_, 6, none⟩ = some (.int .u64 (m.commit : Int)) := Blk.cell kb 6; have s7 : w.cell? ⟨_, 7, none⟩ = some (.slice A m.ents.length c) := Blk.cell kb 7; have s8 : w.cell? ⟨_, 8, none⟩ = some (.bool m.ok) := Blk.cell kb 8; have s9 : w.cell? ⟨_, 9, none⟩ = some (.slice none 0 0) := Blk.cell kb 9; clear kw kb; go_simp; try with_reducible rfl
            try simp only [Z1, Z2, Z3, Z4, Z5, Z6, Z7]
            refine wpAnyH_ready (rs := [12]) (by kernel_rfl) (by simp) ?_
            refine AllReadyH.cons rfl (fun K hK => ?_) AllReadyH.nil
            go_simp
            have TU := up_any g S E V M X d A c m w2.drew (N2.below ((Below.refl _ _).drew)) hb
            rw [show msgC A c m = #[.int .i64 m.kind, .int .i64 m.frm, .int .i64 m.dst, .int .u64 (m.term : Int), .int .u64 (m.index : Int), .int .u64 (m.logTerm : Int), .int .u64 (m.commit : Int), .slice A m.ents.length c, .bool m.ok, .slice none 0 0] from rfl, ← HU.out] at TU
            refine TU.mono ?_
            clear TU
            rintro en w7 ⟨rfl, b7⟩
            have k7 := kS.1.below b7 kS.1.lt
            have km7 := kS.2.below b7 kS.2.lt
            have b07 := below_step ((Below.refl w2.heap.size w2).drew) b7
            refine hK.out _ _ ⟨k7, km7⟩ (fun hH => ?_)
            clear hK K
            try dsimp only
            try simp only [Z1, Z2, Z3, Z4, Z5, Z6, Z7]
            refine wpAnyH_take (i := 13) (v := ?_) rfl (by kernel_rfl) (by kernel_rfl) (by kernel_rfl) (fun _ _ _ h => h) (Or.inl ⟨by rfl, ?_⟩) hH ?_
            case refine_2 => intro w hSw; go_simp; try with_reducible rfl
            try simp only [Z1, Z2, Z3, Z4, Z5, Z6, Z7]
            refine wpAnyH_take (i := 14) (v := ?_) rfl (by kernel_rfl) (by kernel_rfl) (by kernel_rfl) (fun _ _ _ h => h) (Or.inl ⟨by rfl, ?_⟩) hH ?_
            case refine_2 => intro w hSw; go_simp; try with_reducible rfl
            try simp only [Z1, Z2, Z3, Z4, Z5, Z6, Z7]
            refine wpAnyH_take (i := 15) (v := undef) rfl (by kernel_rfl) (by kernel_rfl) (by kernel_rfl) (fun _ _ _ h => h) (Or.inr ⟨by rfl, rfl⟩) hH ?_
            try simp only [Z1, Z2, Z3, Z4, Z5, Z6, Z7]
            refine wpAnyH_take (i := 16) (v := undef) rfl (by kernel_rfl) (by kernel_rfl) (by kernel_rfl) (fun _ _ _ h => h) (Or.inr ⟨by rfl, rfl⟩) hH ?_
            try simp only [Z1, Z2, Z3, Z4, Z5, Z6, Z7]
            refine wpAnyH_take (i := 17) (v := undef) rfl (by kernel_rfl) (by kernel_rfl) (by kernel_rfl) (fun _ _ _ h => h) (Or.inr ⟨by rfl, rfl⟩) hH ?_
            try simp only [Z1, Z2, Z3, Z4, Z5, Z6, Z7]
            refine wpAnyH_take (i := 18) (v := undef) rfl (by kernel_rfl) (by kernel_rfl) (by kernel_rfl) (fun _ _ _ h => h) (Or.inr ⟨by rfl, rfl⟩) hH ?_
            try simp only [Z1, Z2, Z3, Z4, Z5, Z6, Z7]
            refine wpAnyH_take (i := 19) (v := undef) rfl (by kernel_rfl) (by kernel_rfl) (by kernel_rfl) (fun _ _ _ h => h) (Or.inr ⟨by rfl, rfl⟩) hH ?_
            try simp only [Z1, Z2, Z3, Z4, Z5, Z6, Z7]
            refine wpAnyH_take (i := 20) (v := undef) rfl (by kernel_rfl) (by kernel_rfl) (by kernel_rfl) (fun _ _ _ h => h) (Or.inr ⟨by rfl, rfl⟩) hH ?_
            try simp only [Z1, Z2, Z3, Z4, Z5, Z6, Z7]
            refine wpAnyH_take (i := 21) (v := undef) rfl (by kernel_rfl) (by kernel_rfl) (by kernel_rfl) (fun _ _ _ h => h) (Or.inr ⟨by rfl, rfl⟩) hH ?_
            try simp only [Z1, Z2, Z3, Z4, Z5, Z6, Z7]
            refine wpAnyH_take (i := 22) (v := undef) rfl (by kernel_rfl) (by kernel_rfl) (by kernel_rfl) (fun _ _ _ h => h) (Or.inr ⟨by rfl, rfl⟩) hH ?_
            try simp only [Z1, Z2, Z3, Z4, Z5, Z6, Z7]
            refine wpAnyH_take (i := 23) (v := undef) rfl (by kernel_rfl) (by kernel_rfl) (by kernel_rfl) (fun _ _ _ h => h) (Or.inr ⟨by rfl, rfl⟩) hH ?_
            try simp only [Z1, Z2, Z3, Z4, Z5, Z6, Z7]
            refine wpAnyH_take (i := 24) (v := undef) rfl (by kernel_rfl) (by kernel_rfl) (by kernel_rfl) (fun _ _ _ h => h) (Or.inr ⟨by rfl, rfl⟩) hH ?_
            try simp only [Z1, Z2, Z3, Z4, Z5, Z6, Z7]
            refine wpAnyH_take (i := 25) (v := undef) rfl (by kernel_rfl) (by kernel_rfl) (by kernel_rfl) (fun _ _ _ h => h) (Or.inr ⟨by rfl, rfl⟩) hH ?_
            try simp only [Z1, Z2, Z3, Z4, Z5, Z6, Z7]
            refine wpAnyH_take (i := 26) (v := undef) rfl (by kernel_rfl) (by kernel_rfl) (by kernel_rfl) (fun _ _ _ h => h) (Or.inr ⟨by rfl, rfl⟩) hH ?_
            try simp only [Z1, Z2, Z3, Z4, Z5, Z6, Z7]
            refine wpAnyH_take (i := 27) (v := undef) rfl (by kernel_rfl) (by kernel_rfl) (by kernel_rfl) (fun _ _ _ h => h) (Or.inr ⟨by rfl, rfl⟩) hH ?_
            try simp only [Z1, Z2, Z3, Z4, Z5, Z6, Z7]
            refine wpAnyH_take (i := 28) (v := undef) rfl (by kernel_rfl) (by kernel_rfl) (by kernel_rfl) (fun _ _ _ h => h) (Or.inr ⟨by rfl, rfl⟩) hH ?_
            try simp only [Z1, Z2, Z3, Z4, Z5, Z6, Z7]
            refine wpAnyH_take (i := 29) (v := undef) rfl (by kernel_rfl) (by kernel_rfl) (by kernel_rfl) (fun _ _ _ h => h) (Or.inr ⟨by rfl, rfl⟩) hH ?_
            try simp only [Z1, Z2, Z3, Z4, Z5, Z6, Z7]
            refine wpAnyH_take (i := 30) (v := undef) rfl (by kernel_rfl) (by kernel_rfl) (by kernel_rfl) (fun _ _ _ h => h) (Or.inr ⟨by rfl, rfl⟩) hH ?_
            try simp only [Z1, Z2, Z3, Z4, Z5, Z6, Z7]
            refine wpAnyH_take (i := 31) (v := ?_) rfl (by kernel_rfl) (by kernel_rfl) (by kernel_rfl) (fun _ _ _ h => h) (Or.inl ⟨by rfl, ?_⟩) hH ?_
            case refine_2 => intro w hSw; go_simp; try with_reducible rfl
            try simp only [Z1, Z2, Z3, Z4, Z5, Z6, Z7]
            refine wpAnyH_take (i := 32) (v := ?_) rfl (by kernel_rfl) (by kernel_rfl) (by kernel_rfl) (fun _ _ _ h => h) (Or.inl ⟨by rfl, ?_⟩) hH ?_
            case refine_2 => intro w hSw; go_simp; try with_reducible rfl
            try simp only [Z1, Z2, Z3, Z4, Z5, Z6, Z7]
            refine wpAnyH_done (by kernel_rfl) ?_ _
            refine NoPanic.normal ?_
            go_wp2_with fail
            go_meet
            case rel => exact ⟨_, rfl, HOK, b07⟩
          | true =>
            by_cases h2 : d.lead = -1
            · have h2i : (d.lead == -1) = true := by rw [beq_iff_eq]; exact h2
              have HOK : Hid (true = (decide (d.term < m.term) && upP d m && (decide (d.lead = -1) || decide (d.limit ≤ d.clock)))) := by show _ = _; rw [decide_eq_true h1, ← HU.out, decide_eq_true h2]; rfl
              clear h1 h2
              refine wp_region_noPanic ?_
              have kS : Blk w2.drew g 48 (nodeC E V M X d) ∧ Blk w2.drew mb 58 #[.int .i64 m.kind, .int .i64 m.frm, .int .i64 m.dst, .int .u64 (m.term : Int), .int .u64 (m.index : Int), .int .u64 (m.logTerm : Int), .int .u64 (m.commit : Int), .slice A m.ents.length c, .bool m.ok, .slice none 0 0] := ⟨N2.blk.drew, km2.drew⟩
              refine wp_region_held_drew (S := (fun Y => Blk Y g 48 (nodeC E V M X d) ∧ Blk Y mb 58 #[.int .i64 m.kind, .int .i64 m.frm, .int .i64 m.dst, .int .u64 (m.term : Int), .int .u64 (m.index : Int), .int .u64 (m.logTerm : Int), .int .u64 (m.commit : Int), .slice A m.ents.length c, .bool m.ok, .slice none 0 0])) (by kernel_rfl) kS (fun hH => ?_)
              clear n0 n7 n9 n11 s3
              refine wpAnyH_take (i := 0) (v := ?_) rfl (by kernel_rfl) (by kernel_rfl) (by kernel_rfl) (fun _ _ _ h => h) (Or.inl ⟨by rfl, ?_⟩) hH ?_
              case refine_2 => intro w hSw; go_simp; try with_reducible rfl
              try simp only [Z1, Z2, Z4, Z5, Z6, Z7]
              refine wpAnyH_take (i := 1) (v := ?_) rfl (by kernel_rfl) (by kernel_rfl) (by kernel_rfl) (fun _ _ _ h => h) (Or.inl ⟨by rfl, ?_⟩) hH ?_
              case refine_2 => intro w hSw; obtain ⟨kw, kb⟩ := hSw; replace kw : Blk w g 48 (nodeC E V M X d) := kw; replace kb : Blk w mb 58 #[.int .i64 m.kind, .int .i64 m.frm, .int .i64 m.dst, .int .u64 (m.term : Int), .int .u64 (m.index : Int), .int .u64 (m.logTerm : Int), .int .u64 (m.commit : Int), .slice A m.ents.length c, .bool m.ok, .slice none 0 0] := kb; have s3 : w.cell? ⟨_, 3, none⟩ = some (.int .u64 (m.term : Int)) := Blk.cell kb 3; clear kw kb; go_simp; try with_reducible rfl
              try simp only [Z1, Z2, Z3, Z4, Z5, Z6, Z7]
              refine wpAnyH_take (i := 2) (v := ?_) rfl (by kernel_rfl) (by kernel_rfl) (by kernel_rfl) (fun _ _ _ h => h) (Or.inl ⟨by rfl, ?_⟩) hH ?_
              case refine_2 => intro w hSw; go_simp; try with_reducible rfl
              try simp only [Z1, Z2, Z3, Z4, Z5, Z6, Z7]
              refine wpAnyH_take (i := 3) (v := ?_) rfl (by kernel_rfl) (by kernel_rfl) (by kernel_rfl) (fun _ _ _ h => h) (Or.inl ⟨by rfl, ?_⟩) hH ?_
              case refine_2 => intro w hSw; go_simp; try with_reducible rfl
              try simp only [Z1, Z2, Z3, Z4, Z5, Z6, Z7]
              refine wpAnyH_take (i := 4) (v := ?_) rfl (by kernel_rfl) (by kernel_rfl) (by kernel_rfl) (fun _ _ _ h => h) (Or.inl ⟨by rfl, ?_⟩) hH ?_
              case refine_2 => intro w hSw; go_simp; try with_reducible rfl
              try simp only [Z1, Z2, Z3, Z4, Z5, Z6, Z7]
              refine wpAnyH_take (i := 5) (v := ?_) rfl (by kernel_rfl) (by kernel_rfl) (by kernel_rfl) (fun _ _ _ h => h) (Or.inl ⟨by rfl, ?_⟩) hH ?_
              case refine_2 => intro w hSw; go_simp; try with_reducible rfl
              try simp only [Z1, Z2, Z3, Z4, Z5, Z6, Z7]
              refine wpAnyH_take (i := 6) (v := ?_) rfl (by kernel_rfl) (by kernel_rfl) (by kernel_rfl) (fun _ _ _ h => h) (Or.inl ⟨by rfl, ?_⟩) hH ?_
              case refine_2 => intro w hSw; go_simp; try with_reducible rfl
              try simp only [Z1, Z2, Z3, Z4, Z5, Z6, Z7]
              refine wpAnyH_take (i := 7) (v := ?_) rfl (by kernel_rfl) (by kernel_rfl) (by kernel_rfl) (fun _ _ _ h => h) (Or.inl ⟨by rfl, ?_⟩) hH ?_
              case refine_2 => intro w hSw; obtain ⟨kw, kb⟩ := hSw; replace kw : Blk w g 48 (nodeC E V M X d) := kw; replace kb : Blk w mb 58 #[.int .i64 m.kind, .int .i64 m.frm, .int .i64 m.dst, .int .u64 (m.term : Int), .int .u64 (m.index : Int), .int .u64 (m.logTerm : Int), .int .u64 (m.commit : Int), .slice A m.ents.length c, .bool m.ok, .slice none 0 0] := kb; have n0 : w.cell? ⟨_, 0, none⟩ = some (.int .u64 (d.term : Int)) := Blk.cell kw 0; clear kw kb; go_simp; try with_reducible rfl
              try simp only [Z1, Z2, Z3, Z4, Z5, Z6, Z7]
              refine wpAnyH_take (i := 8) (v := ?_) rfl (by kernel_rfl) (by kernel_rfl) (by kernel_rfl) (fun _ _ _ h => h) (Or.inl ⟨by rfl, ?_⟩) hH ?_
              case refine_2 => intro w hSw; go_simp; try with_reducible rfl
              try simp only [Z1, Z2, Z3, Z4, Z5, Z6, Z7]
              refine wpAnyH_take (i := 9) (v := ?_) rfl (by kernel_rfl) (by kernel_rfl) (by kernel_rfl) (fun _ _ _ h => h) (Or.inl ⟨by rfl, ?_⟩) hH ?_
              case refine_2 => intro w hSw; go_simp; try with_reducible rfl
              try simp only [Z1, Z2, Z3, Z4, Z5, Z6, Z7]
              refine wpAnyH_take (i := 10) (v := ?_) rfl (by kernel_rfl) (by kernel_rfl) (by kernel_rfl) (fun _ _ _ h => h) (Or.inl ⟨by rfl, ?_⟩) hH ?_
              case refine_2 => intro w hSw; go_simp; try with_reducible rfl
              try simp only [Z1, Z2, Z3, Z4, Z5, Z6, Z7]
              refine wpAnyH_take (i := 11) (v := ?_) rfl (by kernel_rfl) (by kernel_rfl) (by kernel_rfl) (fun _ _ _ h => h) (Or.inl ⟨by rfl, ?_⟩) hH ?_
              case refine_2 => intro w hSw; obtain ⟨kw, kb⟩ := hSw; replace kw : Blk w g 48 (nodeC E V M X d) := kw; replace kb : Blk w mb 58 #[.int .i64 m.kind, .int .i64 m.frm, .int .i64 m.dst, .int .u64 (m.term : Int), .int .u64 (m.index : Int), .int .u64 (m.logTerm : Int), .int .u64 (m.commit : Int), .slice A m.ents.length c, .bool m.ok, .slice none 0 0] := kb; have s0 : w.cell? ⟨_, 0, none⟩ = some (.int .i64 m.kind) := Blk.cell kb 0; have s1 : w.cell? ⟨_, 1, none⟩ = some (.int .i64 m.frm) := Blk.cell kb 1; have s2 : w.cell? ⟨_, 2, none⟩ = some (.int .i64 m.dst) := Blk.cell kb 2; have s3 : w.cell? ⟨_, 3, none⟩ = some (.int .u64 (m.term : Int)) := Blk.cell kb 3; have s4 : w.cell? ⟨_, 4, none⟩ = some (.int .u64 (m.index : Int)) := Blk.cell kb 4; have s5 : w.cell? ⟨_, 5, none⟩ = some (.int .u64 (m.logTerm : Int)) := Blk.cell kb 5; have s6 : w.cell? ⟨_, 6, none⟩ = some (.int .u64 (m.commit : Int)) := Blk.cell kb 6; have s7 : w.cell? ⟨_, 7, none⟩ = some (.slice A m.ents.length c) := Blk.cell kb 7; have s8 : w.cell? ⟨_, 8, none⟩ = some (.bool m.ok) := Blk.cell kb 8; have s9 : w.cell? ⟨_, 9, none⟩ = some (.slice none 0 0) := Blk.cell kb 9; clear kw kb; go_simp; try with_reducible rfl
              try simp only [Z1, Z2, Z3, Z4, Z5, Z6, Z7]
              refine wpAnyH_ready (rs := [12]) (by kernel_rfl) (by simp) ?_
              refine AllReadyH.cons rfl (fun K hK => ?_) AllReadyH.nil
              go_simp
              have TU := up_any g S E V M X d A c m w2.drew (N2.below ((Below.refl _ _).drew)) hb
              rw [show msgC A c m = #[.int .i64 m.kind, .int .i64 m.frm, .int .i64 m.dst, .int .u64 (m.term : Int), .int .u64 (m.index : Int), .int .u64 (m.logTerm : Int), .int .u64 (m.commit : Int), .slice A m.ents.length c, .bool m.ok, .slice none 0 0] from rfl, ← HU.out] at TU
              refine TU.mono ?_
              clear TU
              rintro en w7 ⟨rfl, b7⟩
              have k7 := kS.1.below b7 kS.1.lt
              have km7 := kS.2.below b7 kS.2.lt
              have b07 := below_step ((Below.refl w2.heap.size w2).drew) b7
              refine hK.out _ _ ⟨k7, km7⟩ (fun hH => ?_)
              clear hK K
              try dsimp only
              try simp only [Z1, Z2, Z3, Z4, Z5, Z6, Z7]
              refine wpAnyH_take (i := 13) (v := ?_) rfl (by kernel_rfl) (by kernel_rfl) (by kernel_rfl) (fun _ _ _ h => h) (Or.inl ⟨by rfl, ?_⟩) hH ?_
              case refine_2 => intro w hSw; go_simp; try with_reducible rfl
              try simp only [Z1, Z2, Z3, Z4, Z5, Z6, Z7]
              refine wpAnyH_take (i := 14) (v := ?_) rfl (by kernel_rfl) (by kernel_rfl) (by kernel_rfl) (fun _ _ _ h => h) (Or.inl ⟨by rfl, ?_⟩) hH ?_
              case refine_2 => intro w hSw; go_simp; try with_reducible rfl
              try simp only [Z1, Z2, Z3, Z4, Z5, Z6, Z7]
              refine wpAnyH_take (i := 15) (v := ?_) rfl (by kernel_rfl) (by kernel_rfl) (by kernel_rfl) (fun _ _ _ h => h) (Or.inl ⟨by rfl, ?_⟩) hH ?_
              case refine_2 => intro w hSw; go_simp; try with_reducible rfl
              try simp only [Z1, Z2, Z3, Z4, Z5, Z6, Z7]
              refine wpAnyH_take (i := 16) (v := ?_) rfl (by kernel_rfl) (by kernel_rfl) (by kernel_rfl) (fun _ _ _ h => h) (Or.inl ⟨by rfl, ?_⟩) hH ?_
              case refine_2 => intro w hSw; go_simp; try with_reducible rfl
              try simp only [Z1, Z2, Z3, Z4, Z5, Z6, Z7]
              refine wpAnyH_take (i := 17) (v := ?_) rfl (by kernel_rfl) (by kernel_rfl) (by kernel_rfl) (fun _ _ _ h => h) (Or.inl ⟨by rfl, ?_⟩) hH ?_
              case refine_2 => intro w hSw; go_simp; try with_reducible rfl
              try simp only [Z1, Z2, Z3, Z4, Z5, Z6, Z7]
              refine wpAnyH_take (i := 18) (v := ?_) rfl (by kernel_rfl) (by kernel_rfl) (by kernel_rfl) (fun _ _ _ h => h) (Or.inl ⟨by rfl, ?_⟩) hH ?_
              case refine_2 => intro w hSw; obtain ⟨kw, kb⟩ := hSw; replace kw : Blk w g 48 (nodeC E V M X d) := kw; replace kb : Blk w mb 58 #[.int .i64 m.kind, .int .i64 m.frm, .int .i64 m.dst, .int .u64 (m.term : Int), .int .u64 (m.index : Int), .int .u64 (m.logTerm : Int), .int .u64 (m.commit : Int), .slice A m.ents.length c, .bool m.ok, .slice none 0 0] := kb; have n9 : w.cell? ⟨_, 9, none⟩ = some (.int .i64 d.lead) := Blk.cell kw 9; clear kw kb; go_simp; try with_reducible rfl
              try simp only [Z1, Z2, Z3, Z4, Z5, Z6, Z7]
              refine wpAnyH_take (i := 19) (v := ?_) rfl (by kernel_rfl) (by kernel_rfl) (by kernel_rfl) (fun _ _ _ h => h) (Or.inl ⟨by rfl, ?_⟩) hH ?_
              case refine_2 => intro w hSw; go_simp; try with_reducible rfl
              try simp only [Z1, Z2, Z3, Z4, Z5, Z6, Z7]
              refine wpAnyH_take (i := 20) (v := ?_) rfl (by kernel_rfl) (by kernel_rfl) (by kernel_rfl) (fun _ _ _ h => h) (Or.inl ⟨by rfl, ?_⟩) hH ?_
              case refine_2 => intro w hSw; go_simp; try with_reducible rfl
              try simp only [Z1, Z2, Z3, Z4, Z5, Z6, Z7]
              refine wpAnyH_take (i := 21) (v := undef) rfl (by kernel_rfl) (by kernel_rfl) (by kernel_rfl) (fun _ _ _ h => h) (Or.inr ⟨by rfl, rfl⟩) hH ?_
              try simp only [Z1, Z2, Z3, Z4, Z5, Z6, Z7]
              refine wpAnyH_take (i := 22) (v := undef) rfl (by kernel_rfl) (by kernel_rfl) (by kernel_rfl) (fun _ _ _ h => h) (Or.inr ⟨by rfl, rfl⟩) hH ?_
              try simp only [Z1, Z2, Z3, Z4, Z5, Z6, Z7]
              refine wpAnyH_take (i := 23) (v := undef) rfl (by kernel_rfl) (by kernel_rfl) (by kernel_rfl) (fun _ _ _ h => h) (Or.inr ⟨by rfl, rfl⟩) hH ?_
              try simp only [Z1, Z2, Z3, Z4, Z5, Z6, Z7]
              refine wpAnyH_take (i := 24) (v := undef) rfl (by kernel_rfl) (by kernel_rfl) (by kernel_rfl) (fun _ _ _ h => h) (Or.inr ⟨by rfl, rfl⟩) hH ?_
              try simp only [Z1, Z2, Z3, Z4, Z5, Z6, Z7]
              refine wpAnyH_take (i := 25) (v := undef) rfl (by kernel_rfl) (by kernel_rfl) (by kernel_rfl) (fun _ _ _ h => h) (Or.inr ⟨by rfl, rfl⟩) hH ?_
              try simp only [Z1, Z2, Z3, Z4, Z5, Z6, Z7]
              refine wpAnyH_take (i := 26) (v := undef) rfl (by kernel_rfl) (by kernel_rfl) (by kernel_rfl) (fun _ _ _ h => h) (Or.inr ⟨by rfl, rfl⟩) hH ?_
              try simp only [Z1, Z2, Z3, Z4, Z5, Z6, Z7]
              refine wpAnyH_take (i := 27) (v := undef) rfl (by kernel_rfl) (by kernel_rfl) (by kernel_rfl) (fun _ _ _ h => h) (Or.inr ⟨by rfl, rfl⟩) hH ?_
              try simp only [Z1, Z2, Z3, Z4, Z5, Z6, Z7]
              refine wpAnyH_take (i := 28) (v := undef) rfl (by kernel_rfl) (by kernel_rfl) (by kernel_rfl) (fun _ _ _ h => h) (Or.inr ⟨by rfl, rfl⟩) hH ?_
              try simp only [Z1, Z2, Z3, Z4, Z5, Z6, Z7]
              refine wpAnyH_take (i := 29) (v := undef) rfl (by kernel_rfl) (by kernel_rfl) (by kernel_rfl) (fun _ _ _ h => h) (Or.inr ⟨by rfl, rfl⟩) hH ?_
              try simp only [Z1, Z2, Z3, Z4, Z5, Z6, Z7]
              refine wpAnyH_take (i := 30) (v := ?_) rfl (by kernel_rfl) (by kernel_rfl) (by kernel_rfl) (fun _ _ _ h => h) (Or.inl ⟨by rfl, ?_⟩) hH ?_
              case refine_2 => intro w hSw; go_simp; try with_reducible rfl
              try simp only [Z1, Z2, Z3, Z4, Z5, Z6, Z7]
              refine wpAnyH_take (i := 31) (v := ?_) rfl (by kernel_rfl) (by kernel_rfl) (by kernel_rfl) (fun _ _ _ h => h) (Or.inl ⟨by rfl, ?_⟩) hH ?_
              case refine_2 => intro w hSw; go_simp; try with_reducible rfl
              try simp only [Z1, Z2, Z3, Z4, Z5, Z6, Z7]
              refine wpAnyH_take (i := 32) (v := ?_) rfl (by kernel_rfl) (by kernel_rfl) (by kernel_rfl) (fun _ _ _ h => h) (Or.inl ⟨by rfl, ?_⟩) hH ?_
              case refine_2 => intro w hSw; go_simp; try with_reducible rfl
              try simp only [Z1, Z2, Z3, Z4, Z5, Z6, Z7]
              refine wpAnyH_done (by kernel_rfl) ?_ _
              refine NoPanic.normal ?_
              go_wp2_with fail
              go_meet
              case rel => exact ⟨_, rfl, HOK, b07⟩
            · have h2i : (d.lead == -1) = false := by rw [beq_eq_false_iff_ne]; exact h2
              by_cases h3 : d.limit ≤ d.clock
              · have h3i : d.limit ≤ d.clock := h3
                have HOK : Hid (true = (decide (d.term < m.term) && upP d m && (decide (d.lead = -1) || decide (d.limit ≤ d.clock)))) := by show _ = _; rw [decide_eq_true h1, ← HU.out, decide_eq_true h3, Bool.or_true]; rfl
                clear h1 h2 h3
                refine wp_region_noPanic ?_
                have kS : Blk w2.drew g 48 (nodeC E V M X d) ∧ Blk w2.drew mb 58 #[.int .i64 m.kind, .int .i64 m.frm, .int .i64 m.dst, .int .u64 (m.term : Int), .int .u64 (m.index : Int), .int .u64 (m.logTerm : Int), .int .u64 (m.commit : Int), .slice A m.ents.length c, .bool m.ok, .slice none 0 0] := ⟨N2.blk.drew, km2.drew⟩
                refine wp_region_held_drew (S := (fun Y => Blk Y g 48 (nodeC E V M X d) ∧ Blk Y mb 58 #[.int .i64 m.kind, .int .i64 m.frm, .int .i64 m.dst, .int .u64 (m.term : Int), .int .u64 (m.index : Int), .int .u64 (m.logTerm : Int), .int .u64 (m.commit : Int), .slice A m.ents.length c, .bool m.ok, .slice none 0 0])) (by kernel_rfl) kS (fun hH => ?_)
                clear n0 n7 n9 n11 s3
                refine wpAnyH_take (i := 0) (v := ?_) rfl (by kernel_rfl) (by kernel_rfl) (by kernel_rfl) (fun _ _ _ h => h) (Or.inl ⟨by rfl, ?_⟩) hH ?_
                case refine_2 => intro w hSw; go_simp; try with_reducible rfl
                try simp only [Z1, Z2, Z4, Z5, Z6, Z7]
                refine wpAnyH_take (i := 1) (v := ?_) rfl (by kernel_rfl) (by kernel_rfl) (by kernel_rfl) (fun _ _ _ h => h) (Or.inl ⟨by rfl, ?_⟩) hH ?_
                case refine_2 => intro w hSw; obtain ⟨kw, kb⟩ := hSw; replace kw : Blk w g 48 (nodeC E V M X d) := kw; replace kb : Blk w mb 58 #[.int .i64 m.kind, .int .i64 m.frm, .int .i64 m.dst, .int .u64 (m.term : Int), .int .u64 (m.index : Int), .int .u64 (m.logTerm : Int), .int .u64 (m.commit : Int), .slice A m.ents.length c, .bool m.ok, .slice none 0 0] := kb; have s3 : w.cell? ⟨_, 3, none⟩ = some (.int .u64 (m.term : Int)) := Blk.cell kb 3; clear kw kb; go_simp; try with_reducible rfl
                try simp only [Z1, Z2, Z3, Z4, Z5, Z6, Z7]
                refine wpAnyH_take (i := 2) (v := ?_) rfl (by kernel_rfl) (by kernel_rfl) (by kernel_rfl) (fun _ _ _ h => h) (Or.inl ⟨by rfl, ?_⟩) hH ?_
                case refine_2 => intro w hSw; go_simp; try with_reducible rfl
                try simp only [Z1, Z2, Z3, Z4, Z5, Z6, Z7]
                refine wpAnyH_take (i := 3) (v := ?_) rfl (by kernel_rfl) (by kernel_rfl) (by kernel_rfl) (fun _ _ _ h => h) (Or.inl ⟨by rfl, ?_⟩) hH ?_
                case refine_2 => intro w hSw; go_simp; try with_reducible rfl
                try simp only [Z1, Z2, Z3, Z4, Z5, Z6, Z7]
                refine wpAnyH_take (i := 4) (v := ?_) rfl (by kernel_rfl) (by kernel_rfl) (by kernel_rfl) (fun _ _ _ h => h) (Or.inl ⟨by rfl, ?_⟩) hH ?_
                case refine_2 => intro w hSw; go_simp; try with_reducible rfl
                try simp only [Z1, Z2, Z3, Z4, Z5, Z6, Z7]
                refine wpAnyH_take (i := 5) (v := ?_) rfl (by kernel_rfl) (by kernel_rfl) (by kernel_rfl) (fun _ _ _ h => h) (Or.inl ⟨by rfl, ?_⟩) hH ?_
                case refine_2 => intro w hSw; go_simp; try with_reducible rfl
                try simp only [Z1, Z2, Z3, Z4, Z5, Z6, Z7]
                refine wpAnyH_take (i := 6) (v := ?_) rfl (by kernel_rfl) (by kernel_rfl) (by kernel_rfl) (fun _ _ _ h => h) (Or.inl ⟨by rfl, ?_⟩) hH ?_
                case refine_2 => intro w hSw; go_simp; try with_reducible rfl
                try simp only [Z1, Z2, Z3, Z4, Z5, Z6, Z7]
                refine wpAnyH_take (i := 7) (v := ?_) rfl (by kernel_rfl) (by kernel_rfl) (by kernel_rfl) (fun _ _ _ h => h) (Or.inl ⟨by rfl, ?_⟩) hH ?_
                case refine_2 => intro w hSw; obtain ⟨kw, kb⟩ := hSw; replace kw : Blk w g 48 (nodeC E V M X d) := kw; replace kb : Blk w mb 58 #[.int .i64 m.kind, .int .i64 m.frm, .int .i64 m.dst, .int .u64 (m.term : Int), .int .u64 (m.index : Int), .int .u64 (m.logTerm : Int), .int .u64 (m.commit : Int), .slice A m.ents.length c, .bool m.ok, .slice none 0 0] := kb; have n0 : w.cell? ⟨_, 0, none⟩ = some (.int .u64 (d.term : Int)) := Blk.cell kw 0; clear kw kb; go_simp; try with_reducible rfl
                try simp only [Z1, Z2, Z3, Z4, Z5, Z6, Z7]
                refine wpAnyH_take (i := 8) (v := ?_) rfl (by kernel_rfl) (by kernel_rfl) (by kernel_rfl) (fun _ _ _ h => h) (Or.inl ⟨by rfl, ?_⟩) hH ?_
                case refine_2 => intro w hSw; go_simp; try with_reducible rfl
                try simp only [Z1, Z2, Z3, Z4, Z5, Z6, Z7]
                refine wpAnyH_take (i := 9) (v := ?_) rfl (by kernel_rfl) (by kernel_rfl) (by kernel_rfl) (fun _ _ _ h => h) (Or.inl ⟨by rfl, ?_⟩) hH ?_
                case refine_2 => intro w hSw; go_simp; try with_reducible rfl
                try simp only [Z1, Z2, Z3, Z4, Z5, Z6, Z7]
                refine wpAnyH_take (i := 10) (v := ?_) rfl (by kernel_rfl) (by kernel_rfl) (by kernel_rfl) (fun _ _ _ h => h) (Or.inl ⟨by rfl, ?_⟩) hH ?_
                case refine_2 => intro w hSw; go_simp; try with_reducible rfl
                try simp only [Z1, Z2, Z3, Z4, Z5, Z6, Z7]
                refine wpAnyH_take (i := 11) (v := ?_) rfl (by kernel_rfl) (by kernel_rfl) (by kernel_rfl) (fun _ _ _ h => h) (Or.inl ⟨by rfl, ?_⟩) hH ?_
                case refine_2 => intro w hSw; obtain ⟨kw, kb⟩ := hSw; replace kw : Blk w g 48 (nodeC E V M X d) := kw; replace kb : Blk w mb 58 #[.int .i64 m.kind, .int .i64 m.frm, .int .i64 m.dst, .int .u64 (m.term : Int), .int .u64 (m.index : Int), .int .u64 (m.logTerm : Int), .int .u64 (m.commit : Int), .slice A m.ents.length c, .bool m.ok, .slice none 0 0] := kb; have s0 : w.cell? ⟨_, 0, none⟩ = some (.int .i64 m.kind) := Blk.cell kb 0; have s1 : w.cell? ⟨_, 1, none⟩ = some (.int .i64 m.frm) := Blk.cell kb 1; have s2 : w.cell? ⟨_, 2, none⟩ = some (.int .i64 m.dst) := Blk.cell kb 2; have s3 : w.cell? ⟨_, 3, none⟩ = some (.int .u64 (m.term : Int)) := Blk.cell kb 3; have s4 : w.cell? ⟨_, 4, none⟩ = some (.int .u64 (m.index : Int)) := Blk.cell kb 4; have s5 : w.cell? ⟨_, 5, none⟩ = some (.int .u64 (m.logTerm : Int)) := Blk.cell kb 5; have s6 : w.cell? ⟨_, 6, none⟩ = some (.int .u64 (m.commit : Int)) := Blk.cell kb 6; have s7 : w.cell? ⟨_, 7, none⟩ = some (.slice A m.ents.length c) := Blk.cell kb 7; have s8 : w.cell? ⟨_, 8, none⟩ = some (.bool m.ok) := Blk.cell kb 8; have s9 : w.cell? ⟨_, 9, none⟩ = some (.slice none 0 0) := Blk.cell kb 9; clear kw kb; go_simp; try with_reducible rfl
                try simp only [Z1, Z2, Z3, Z4, Z5, Z6, Z7]
                refine wpAnyH_ready (rs := [12]) (by kernel_rfl) (by simp) ?_
                refine AllReadyH.cons rfl (fun K hK => ?_) AllReadyH.nil
                go_simp
                have TU := up_any g S E V M X d A c m w2.drew (N2.below ((Below.refl _ _).drew)) hb
                rw [show msgC A c m = #[.int .i64 m.kind, .int .i64 m.frm, .int .i64 m.dst, .int .u64 (m.term : Int), .int .u64 (m.index : Int), .int .u64 (m.logTerm : Int), .int .u64 (m.commit : Int), .slice A m.ents.length c, .bool m.ok, .slice none 0 0] from rfl, ← HU.out] at TU
                refine TU.mono ?_
                clear TU
                rintro en w7 ⟨rfl, b7⟩
                have k7 := kS.1.below b7 kS.1.lt
                have km7 := kS.2.below b7 kS.2.lt
                have b07 := below_step ((Below.refl w2.heap.size w2).drew) b7
                refine hK.out _ _ ⟨k7, km7⟩ (fun hH => ?_)
                clear hK K
                try dsimp only
                try simp only [Z1, Z2, Z3, Z4, Z5, Z6, Z7]
                refine wpAnyH_take (i := 13) (v := ?_) rfl (by kernel_rfl) (by kernel_rfl) (by kernel_rfl) (fun _ _ _ h => h) (Or.inl ⟨by rfl, ?_⟩) hH ?_
                case refine_2 => intro w hSw; go_simp; try with_reducible rfl
                try simp only [Z1, Z2, Z3, Z4, Z5, Z6, Z7]
                refine wpAnyH_take (i := 14) (v := ?_) rfl (by kernel_rfl) (by kernel_rfl) (by kernel_rfl) (fun _ _ _ h => h) (Or.inl ⟨by rfl, ?_⟩) hH ?_
                case refine_2 => intro w hSw; go_simp; try with_reducible rfl
                try simp only [Z1, Z2, Z3, Z4, Z5, Z6, Z7]
                refine wpAnyH_take (i := 15) (v := ?_) rfl (by kernel_rfl) (by kernel_rfl) (by kernel_rfl) (fun _ _ _ h => h) (Or.inl ⟨by rfl, ?_⟩) hH ?_
                case refine_2 => intro w hSw; go_simp; try with_reducible rfl
                try simp only [Z1, Z2, Z3, Z4, Z5, Z6, Z7]
                refine wpAnyH_take (i := 16) (v := ?_) rfl (by kernel_rfl) (by kernel_rfl) (by kernel_rfl) (fun _ _ _ h => h) (Or.inl ⟨by rfl, ?_⟩) hH ?_
                case refine_2 => intro w hSw; go_simp; try with_reducible rfl
                try simp only [Z1, Z2, Z3, Z4, Z5, Z6, Z7]
                refine wpAnyH_take (i := 17) (v := ?_) rfl (by kernel_rfl) (by kernel_rfl) (by kernel_rfl) (fun _ _ _ h => h) (Or.inl ⟨by rfl, ?_⟩) hH ?_
                case refine_2 => intro w hSw; go_simp; try with_reducible rfl
                try simp only [Z1, Z2, Z3, Z4, Z5, Z6, Z7]
                refine wpAnyH_take (i := 18) (v := ?_) rfl (by kernel_rfl) (by kernel_rfl) (by kernel_rfl) (fun _ _ _ h => h) (Or.inl ⟨by rfl, ?_⟩) hH ?_
                case refine_2 => intro w hSw; obtain ⟨kw, kb⟩ := hSw; replace kw : Blk w g 48 (nodeC E V M X d) := kw; replace kb : Blk w mb 58 #[.int .i64 m.kind, .int .i64 m.frm, .int .i64 m.dst, .int .u64 (m.term : Int), .int .u64 (m.index : Int), .int .u64 (m.logTerm : Int), .int .u64 (m.commit : Int), .slice A m.ents.length c, .bool m.ok, .slice none 0 0] := kb; have n9 : w.cell? ⟨_, 9, none⟩ = some (.int .i64 d.lead) := Blk.cell kw 9; clear kw kb; go_simp; try with_reducible rfl
                try simp only [Z1, Z2, Z3, Z4, Z5, Z6, Z7]
                refine wpAnyH_take (i := 19) (v := ?_) rfl (by kernel_rfl) (by kernel_rfl) (by kernel_rfl) (fun _ _ _ h => h) (Or.inl ⟨by rfl, ?_⟩) hH ?_
                case refine_2 => intro w hSw; go_simp; try with_reducible rfl
                try simp only [Z1, Z2, Z3, Z4, Z5, Z6, Z7]
                refine wpAnyH_take (i := 20) (v := ?_) rfl (by kernel_rfl) (by kernel_rfl) (by kernel_rfl) (fun _ _ _ h => h) (Or.inl ⟨by rfl, ?_⟩) hH ?_
                case refine_2 => intro w hSw; go_simp; try with_reducible rfl
                try simp only [Z1, Z2, Z3, Z4, Z5, Z6, Z7]
                refine wpAnyH_take (i := 21) (v := ?_) rfl (by kernel_rfl) (by kernel_rfl) (by kernel_rfl) (fun _ _ _ h => h) (Or.inl ⟨by rfl, ?_⟩) hH ?_
                case refine_2 => intro w hSw; go_simp; try with_reducible rfl
                try simp only [Z1, Z2, Z3, Z4, Z5, Z6, Z7]
                refine wpAnyH_take (i := 22) (v := ?_) rfl (by kernel_rfl) (by kernel_rfl) (by kernel_rfl) (fun _ _ _ h => h) (Or.inl ⟨by rfl, ?_⟩) hH ?_
                case refine_2 => intro w hSw; go_simp; try with_reducible rfl
                try simp only [Z1, Z2, Z3, Z4, Z5, Z6, Z7]
                refine wpAnyH_take (i := 23) (v := ?_) rfl (by kernel_rfl) (by kernel_rfl) (by kernel_rfl) (fun _ _ _ h => h) (Or.inl ⟨by rfl, ?_⟩) hH ?_
                case refine_2 => intro w hSw; go_simp; try with_reducible rfl
                try simp only [Z1, Z2, Z3, Z4, Z5, Z6, Z7]
                refine wpAnyH_take (i := 24) (v := ?_) rfl (by kernel_rfl) (by kernel_rfl) (by kernel_rfl) (fun _ _ _ h => h) (Or.inl ⟨by rfl, ?_⟩) hH ?_
                case refine_2 => intro w hSw; obtain ⟨kw, kb⟩ := hSw; replace kw : Blk w g 48 (nodeC E V M X d) := kw; replace kb : Blk w mb 58 #[.int .i64 m.kind, .int .i64 m.frm, .int .i64 m.dst, .int .u64 (m.term : Int), .int .u64 (m.index : Int), .int .u64 (m.logTerm : Int), .int .u64 (m.commit : Int), .slice A m.ents.length c, .bool m.ok, .slice none 0 0] := kb; have n11 : w.cell? ⟨_, 11, none⟩ = some (.int .i64 d.clock) := Blk.cell kw 11; clear kw kb; go_simp; try with_reducible rfl
                try simp only [Z1, Z2, Z3, Z4, Z5, Z6, Z7]
                refine wpAnyH_take (i := 25) (v := ?_) rfl (by kernel_rfl) (by kernel_rfl) (by kernel_rfl) (fun _ _ _ h => h) (Or.inl ⟨by rfl, ?_⟩) hH ?_
                case refine_2 => intro w hSw; go_simp; try with_reducible rfl
                try simp only [Z1, Z2, Z3, Z4, Z5, Z6, Z7]
                refine wpAnyH_take (i := 26) (v := ?_) rfl (by kernel_rfl) (by kernel_rfl) (by kernel_rfl) (fun _ _ _ h => h) (Or.inl ⟨by rfl, ?_⟩) hH ?_
                case refine_2 => intro w hSw; go_simp; try with_reducible rfl
                try simp only [Z1, Z2, Z3, Z4, Z5, Z6, Z7]
                refine wpAnyH_take (i := 27) (v := ?_) rfl (by kernel_rfl) (by kernel_rfl) (by kernel_rfl) (fun _ _ _ h => h) (Or.inl ⟨by rfl, ?_⟩) hH ?_
                case refine_2 => intro w hSw; go_simp; try with_reducible rfl
                try simp only [Z1, Z2, Z3, Z4, Z5, Z6, Z7]
                refine wpAnyH_take (i := 28) (v := ?_) rfl (by kernel_rfl) (by kernel_rfl) (by kernel_rfl) (fun _ _ _ h => h) (Or.inl ⟨by rfl, ?_⟩) hH ?_
                case refine_2 => intro w hSw; obtain ⟨kw, kb⟩ := hSw; replace kw : Blk w g 48 (nodeC E V M X d) := kw; replace kb : Blk w mb 58 #[.int .i64 m.kind, .int .i64 m.frm, .int .i64 m.dst, .int .u64 (m.term : Int), .int .u64 (m.index : Int), .int .u64 (m.logTerm : Int), .int .u64 (m.commit : Int), .slice A m.ents.length c, .bool m.ok, .slice none 0 0] := kb; have n7 : w.cell? ⟨_, 7, none⟩ = some (.int .i64 d.limit) := Blk.cell kw 7; clear kw kb; go_simp; try with_reducible rfl
                try simp only [Z1, Z2, Z3, Z4, Z5, Z6, Z7]
                refine wpAnyH_take (i := 29) (v := ?_) rfl (by kernel_rfl) (by kernel_rfl) (by kernel_rfl) (fun _ _ _ h => h) (Or.inl ⟨by rfl, ?_⟩) hH ?_
                case refine_2 => intro w hSw; go_simp; try with_reducible rfl
                try simp only [Z1, Z2, Z3, Z4, Z5, Z6, Z7]
                refine wpAnyH_take (i := 30) (v := ?_) rfl (by kernel_rfl) (by kernel_rfl) (by kernel_rfl) (fun _ _ _ h => h) (Or.inl ⟨by rfl, ?_⟩) hH ?_
                case refine_2 => intro w hSw; go_simp; try with_reducible rfl
                try simp only [Z1, Z2, Z3, Z4, Z5, Z6, Z7]
                refine wpAnyH_take (i := 31) (v := ?_) rfl (by kernel_rfl) (by kernel_rfl) (by kernel_rfl) (fun _ _ _ h => h) (Or.inl ⟨by rfl, ?_⟩) hH ?_
                case refine_2 => intro w hSw; go_simp; try with_reducible rfl
                try simp only [Z1, Z2, Z3, Z4, Z5, Z6, Z7]
                refine wpAnyH_take (i := 32) (v := ?_) rfl (by kernel_rfl) (by kernel_rfl) (by kernel_rfl) (fun _ _ _ h => h) (Or.inl ⟨by rfl, ?_⟩) hH ?_
                case refine_2 => intro w hSw; go_simp; try with_reducible rfl
                try simp only [Z1, Z2, Z3, Z4, Z5, Z6, Z7]
                refine wpAnyH_done (by kernel_rfl) ?_ _
                refine NoPanic.normal ?_
                go_wp2_with fail
                go_meet
                case rel => exact ⟨_, rfl, HOK, b07⟩
              · have h3i : ¬ d.limit ≤ d.clock := h3
                have HOK : Hid (false = (decide (d.term < m.term) && upP d m && (decide (d.lead = -1) || decide (d.limit ≤ d.clock)))) := by show _ = _; rw [decide_eq_false h3, decide_eq_false h2, Bool.or_false, Bool.and_false]
                clear h1 h2 h3
                refine wp_region_noPanic ?_
                have kS : Blk w2.drew g 48 (nodeC E V M X d) ∧ Blk w2.drew mb 58 #[.int .i64 m.kind, .int .i64 m.frm, .int .i64 m.dst, .int .u64 (m.term : Int), .int .u64 (m.index : Int), .int .u64 (m.logTerm : Int), .int .u64 (m.commit : Int), .slice A m.ents.length c, .bool m.ok, .slice none 0 0] := ⟨N2.blk.drew, km2.drew⟩
                refine wp_region_held_drew (S := (fun Y => Blk Y g 48 (nodeC E V M X d) ∧ Blk Y mb 58 #[.int .i64 m.kind, .int .i64 m.frm, .int .i64 m.dst, .int .u64 (m.term : Int), .int .u64 (m.index : Int), .int .u64 (m.logTerm : Int), .int .u64 (m.commit : Int), .slice A m.ents.length c, .bool m.ok, .slice none 0 0])) (by kernel_rfl) kS (fun hH => ?_)
                clear n0 n7 n9 n11 s3
                refine wpAnyH_take (i := 0) (v := ?_) rfl (by kernel_rfl) (by kernel_rfl) (by kernel_rfl) (fun _ _ _ h => h) (Or.inl ⟨by rfl, ?_⟩) hH ?_
                case refine_2 => intro w hSw; go_simp; try with_reducible rfl
                try simp only [Z1, Z2, Z4, Z5, Z6, Z7]
                refine wpAnyH_take (i := 1) (v := ?_) rfl (by kernel_rfl) (by kernel_rfl) (by kernel_rfl) (fun _ _ _ h => h) (Or.inl ⟨by rfl, ?_⟩) hH ?_
                case refine_2 => intro w hSw; obtain ⟨kw, kb⟩ := hSw; replace kw : Blk w g 48 (nodeC E V M X d) := kw; replace kb : Blk w mb 58 #[.int .i64 m.kind, .int .i64 m.frm, .int .i64 m.dst, .int .u64 (m.term : Int), .int .u64 (m.index : Int), .int .u64 (m.logTerm : Int), .int .u64 (m.commit : Int), .slice A m.ents.length c, .bool m.ok, .slice none 0 0] := kb; have s3 : w.cell? ⟨_, 3, none⟩ = some (.int .u64 (m.term : Int)) := Blk.cell kb 3; clear kw kb; go_simp; try with_reducible rfl
                try simp only [Z1, Z2, Z3, Z4, Z5, Z6, Z7]
                refine wpAnyH_take (i := 2) (v := ?_) rfl (by kernel_rfl) (by kernel_rfl) (by kernel_rfl) (fun _ _ _ h => h) (Or.inl ⟨by rfl, ?_⟩) hH ?_
                case refine_2 => intro w hSw; go_simp; try with_reducible rfl
                try simp only [Z1, Z2, Z3, Z4, Z5, Z6, Z7]
                refine wpAnyH_take (i := 3) (v := ?_) rfl (by kernel_rfl) (by kernel_rfl) (by kernel_rfl) (fun _ _ _ h => h) (Or.inl ⟨by rfl, ?_⟩) hH ?_
                case refine_2 => intro w hSw; go_simp; try with_reducible rfl
                try simp only [Z1, Z2, Z3, Z4, Z5, Z6, Z7]
                refine wpAnyH_take (i := 4) (v := ?_) rfl (by kernel_rfl) (by kernel_rfl) (by kernel_rfl) (fun _ _ _ h => h) (Or.inl ⟨by rfl, ?_⟩) hH ?_
                case refine_2 => intro w hSw; go_simp; try with_reducible rfl
                try simp only [Z1, Z2, Z3, Z4, Z5, Z6, Z7]
                refine wpAnyH_take (i := 5) (v := ?_) rfl (by kernel_rfl) (by kernel_rfl) (by kernel_rfl) (fun _ _ _ h => h) (Or.inl ⟨by rfl, ?_⟩) hH ?_
                case refine_2 => intro w hSw; go_simp; try with_reducible rfl
                try simp only [Z1, Z2, Z3, Z4, Z5, Z6, Z7]
                refine wpAnyH_take (i := 6) (v := ?_) rfl (by kernel_rfl) (by kernel_rfl) (by kernel_rfl) (fun _ _ _ h => h) (Or.inl ⟨by rfl, ?_⟩) hH ?_
                case refine_2 => intro w hSw; go_simp; try with_reducible rfl
                try simp only [Z1, Z2, Z3, Z4, Z5, Z6, Z7]
                refine wpAnyH_take (i := 7) (v := ?_) rfl (by kernel_rfl) (by kernel_rfl) (by kernel_rfl) (fun _ _ _ h => h) (Or.inl ⟨by rfl, ?_⟩) hH ?_
                case refine_2 => intro w hSw; obtain ⟨kw, kb⟩ := hSw; replace kw : Blk w g 48 (nodeC E V M X d) := kw; replace kb : Blk w mb 58 #[.int .i64 m.kind, .int .i64 m.frm, .int .i64 m.dst, .int .u64 (m.term : Int), .int .u64 (m.index : Int), .int .u64 (m.logTerm : Int), .int .u64 (m.commit : Int), .slice A m.ents.length c, .bool m.ok, .slice none 0 0] := kb; have n0 : w.cell? ⟨_, 0, none⟩ = some (.int .u64 (d.term : Int)) := Blk.cell kw 0; clear kw kb; go_simp; try with_reducible rfl
                try simp only [Z1, Z2, Z3, Z4, Z5, Z6, Z7]
                refine wpAnyH_take (i := 8) (v := ?_) rfl (by kernel_rfl) (by kernel_rfl) (by kernel_rfl) (fun _ _ _ h => h) (Or.inl ⟨by rfl, ?_⟩) hH ?_
                case refine_2 => intro w hSw; go_simp; try with_reducible rfl
                try simp only [Z1, Z2, Z3, Z4, Z5, Z6, Z7]
                refine wpAnyH_take (i := 9) (v := ?_) rfl (by kernel_rfl) (by kernel_rfl) (by kernel_rfl) (fun _ _ _ h => h) (Or.inl ⟨by rfl, ?_⟩) hH ?_
                case refine_2 => intro w hSw; go_simp; try with_reducible rfl
                try simp only [Z1, Z2, Z3, Z4, Z5, Z6, Z7]
                refine wpAnyH_take (i := 10) (v := ?_) rfl (by kernel_rfl) (by kernel_rfl) (by kernel_rfl) (fun _ _ _ h => h) (Or.inl ⟨by rfl, ?_⟩) hH ?_
                case refine_2 => intro w hSw; go_simp; try with_reducible rfl
                try simp only [Z1, Z2, Z3, Z4, Z5, Z6, Z7]
                refine wpAnyH_take (i := 11) (v := ?_) rfl (by kernel_rfl) (by kernel_rfl) (by kernel_rfl) (fun _ _ _ h => h) (Or.inl ⟨by rfl, ?_⟩) hH ?_
                case refine_2 => intro w hSw; obtain ⟨kw, kb⟩ := hSw; replace kw : Blk w g 48 (nodeC E V M X d) := kw; replace kb : Blk w mb 58 #[.int .i64 m.kind, .int .i64 m.frm, .int .i64 m.dst, .int .u64 (m.term : Int), .int .u64 (m.index : Int), .int .u64 (m.logTerm : Int), .int .u64 (m.commit : Int), .slice A m.ents.length c, .bool m.ok, .slice none 0 0] := kb; have s0 : w.cell? ⟨_, 0, none⟩ = some (.int .i64 m.kind) := Blk.cell kb 0; have s1 : w.cell? ⟨_, 1, none⟩ = some (.int .i64 m.frm) := Blk.cell kb 1; have s2 : w.cell? ⟨_, 2, none⟩ = some (.int .i64 m.dst) := Blk.cell kb 2; have s3 : w.cell? ⟨_, 3, none⟩ = some (.int .u64 (m.term : Int)) := Blk.cell kb 3; have s4 : w.cell? ⟨_, 4, none⟩ = some (.int .u64 (m.index : Int)) := Blk.cell kb 4; have s5 : w.cell? ⟨_, 5, none⟩ = some (.int .u64 (m.logTerm : Int)) := Blk.cell kb 5; have s6 : w.cell? ⟨_, 6, none⟩ = some (.int .u64 (m.commit : Int)) := Blk.cell kb 6; have s7 : w.cell? ⟨_, 7, none⟩ = some (.slice A m.ents.length c) := Blk.cell kb 7; have s8 : w.cell? ⟨_, 8, none⟩ = some (.bool m.ok) := Blk.cell kb 8; have s9 : w.cell? ⟨_, 9, none⟩ = some (.slice none 0 0) := Blk.cell kb 9; clear kw kb; go_simp; try with_reducible rfl
                try simp only [Z1, Z2, Z3, Z4, Z5, Z6, Z7]
                refine wpAnyH_ready (rs := [12]) (by kernel_rfl) (by simp) ?_
                refine AllReadyH.cons rfl (fun K hK => ?_) AllReadyH.nil
                go_simp
                have TU := up_any g S E V M X d A c m w2.drew (N2.below ((Below.refl _ _).drew)) hb
                rw [show msgC A c m = #[.int .i64 m.kind, .int .i64 m.frm, .int .i64 m.dst, .int .u64 (m.term : Int), .int .u64 (m.index : Int), .int .u64 (m.logTerm : Int), .int .u64 (m.commit : Int), .slice A m.ents.length c, .bool m.ok, .slice none 0 0] from rfl, ← HU.out] at TU
                refine TU.mono ?_
                clear TU
                rintro en w7 ⟨rfl, b7⟩
                have k7 := kS.1.below b7 kS.1.lt
                have km7 := kS.2.below b7 kS.2.lt
                have b07 := below_step ((Below.refl w2.heap.size w2).drew) b7
                refine hK.out _ _ ⟨k7, km7⟩ (fun hH => ?_)
                clear hK K
                try dsimp only
                try simp only [Z1, Z2, Z3, Z4, Z5, Z6, Z7]
                refine wpAnyH_take (i := 13) (v := ?_) rfl (by kernel_rfl) (by kernel_rfl) (by kernel_rfl) (fun _ _ _ h => h) (Or.inl ⟨by rfl, ?_⟩) hH ?_
                case refine_2 => intro w hSw; go_simp; try with_reducible rfl
                try simp only [Z1, Z2, Z3, Z4, Z5, Z6, Z7]
                refine wpAnyH_take (i := 14) (v := ?_) rfl (by kernel_rfl) (by kernel_rfl) (by kernel_rfl) (fun _ _ _ h => h) (Or.inl ⟨by rfl, ?_⟩) hH ?_
                case refine_2 => intro w hSw; go_simp; try with_reducible rfl
                try simp only [Z1, Z2, Z3, Z4, Z5, Z6, Z7]
                refine wpAnyH_take (i := 15) (v := ?_) rfl (by kernel_rfl) (by kernel_rfl) (by kernel_rfl) (fun _ _ _ h => h) (Or.inl ⟨by rfl, ?_⟩) hH ?_
                case refine_2 => intro w hSw; go_simp; try with_reducible rfl
                try simp only [Z1, Z2, Z3, Z4, Z5, Z6, Z7]
                refine wpAnyH_take (i := 16) (v := ?_) rfl (by kernel_rfl) (by kernel_rfl) (by kernel_rfl) (fun _ _ _ h => h) (Or.inl ⟨by rfl, ?_⟩) hH ?_
                case refine_2 => intro w hSw; go_simp; try with_reducible rfl
                try simp only [Z1, Z2, Z3, Z4, Z5, Z6, Z7]
                refine wpAnyH_take (i := 17) (v := ?_) rfl (by kernel_rfl) (by kernel_rfl) (by kernel_rfl) (fun _ _ _ h => h) (Or.inl ⟨by rfl, ?_⟩) hH ?_
                case refine_2 => intro w hSw; go_simp; try with_reducible rfl
                try simp only [Z1, Z2, Z3, Z4, Z5, Z6, Z7]
                refine wpAnyH_take (i := 18) (v := ?_) rfl (by kernel_rfl) (by kernel_rfl) (by kernel_rfl) (fun _ _ _ h => h) (Or.inl ⟨by rfl, ?_⟩) hH ?_
                case refine_2 => intro w hSw; obtain ⟨kw, kb⟩ := hSw; replace kw : Blk w g 48 (nodeC E V M X d) := kw; replace kb : Blk w mb 58 #[.int .i64 m.kind, .int .i64 m.frm, .int .i64 m.dst, .int .u64 (m.term : Int), .int .u64 (m.index : Int), .int .u64 (m.logTerm : Int), .int .u64 (m.commit : Int), .slice A m.ents.length c, .bool m.ok, .slice none 0 0] := kb; have n9 : w.cell? ⟨_, 9, none⟩ = some (.int .i64 d.lead) := Blk.cell kw 9; clear kw kb; go_simp; try with_reducible rfl
                try simp only [Z1, Z2, Z3, Z4, Z5, Z6, Z7]
                refine wpAnyH_take (i := 19) (v := ?_) rfl (by kernel_rfl) (by kernel_rfl) (by kernel_rfl) (fun _ _ _ h => h) (Or.inl ⟨by rfl, ?_⟩) hH ?_
                case refine_2 => intro w hSw; go_simp; try with_reducible rfl
                try simp only [Z1, Z2, Z3, Z4, Z5, Z6, Z7]
                refine wpAnyH_take (i := 20) (v := ?_) rfl (by kernel_rfl) (by kernel_rfl) (by kernel_rfl) (fun _ _ _ h => h) (Or.inl ⟨by rfl, ?_⟩) hH ?_
                case refine_2 => intro w hSw; go_simp; try with_reducible rfl
                try simp only [Z1, Z2, Z3, Z4, Z5, Z6, Z7]
                refine wpAnyH_take (i := 21) (v := ?_) rfl (by kernel_rfl) (by kernel_rfl) (by kernel_rfl) (fun _ _ _ h => h) (Or.inl ⟨by rfl, ?_⟩) hH ?_
                case refine_2 => intro w hSw; go_simp; try with_reducible rfl
                try simp only [Z1, Z2, Z3, Z4, Z5, Z6, Z7]
                refine wpAnyH_take (i := 22) (v := ?_) rfl (by kernel_rfl) (by kernel_rfl) (by kernel_rfl) (fun _ _ _ h => h) (Or.inl ⟨by rfl, ?_⟩) hH ?_
                case refine_2 => intro w hSw; go_simp; try with_reducible rfl
                try simp only [Z1, Z2, Z3, Z4, Z5, Z6, Z7]
                refine wpAnyH_take (i := 23) (v := ?_) rfl (by kernel_rfl) (by kernel_rfl) (by kernel_rfl) (fun _ _ _ h => h) (Or.inl ⟨by rfl, ?_⟩) hH ?_
                case refine_2 => intro w hSw; go_simp; try with_reducible rfl
                try simp only [Z1, Z2, Z3, Z4, Z5, Z6, Z7]
                refine wpAnyH_take (i := 24) (v := ?_) rfl (by kernel_rfl) (by kernel_rfl) (by kernel_rfl) (fun _ _ _ h => h) (Or.inl ⟨by rfl, ?_⟩) hH ?_
                case refine_2 => intro w hSw; obtain ⟨kw, kb⟩ := hSw; replace kw : Blk w g 48 (nodeC E V M X d) := kw; replace kb : Blk w mb 58 #[.int .i64 m.kind, .int .i64 m.frm, .int .i64 m.dst, .int .u64 (m.term : Int), .int .u64 (m.index : Int), .int .u64 (m.logTerm : Int), .int .u64 (m.commit : Int), .slice A m.ents.length c, .bool m.ok, .slice none 0 0] := kb; have n11 : w.cell? ⟨_, 11, none⟩ = some (.int .i64 d.clock) := Blk.cell kw 11; clear kw kb; go_simp; try with_reducible rfl
                try simp only [Z1, Z2, Z3, Z4, Z5, Z6, Z7]
                refine wpAnyH_take (i := 25) (v := ?_) rfl (by kernel_rfl) (by kernel_rfl) (by kernel_rfl) (fun _ _ _ h => h) (Or.inl ⟨by rfl, ?_⟩) hH ?_
                case refine_2 => intro w hSw; go_simp; try with_reducible rfl
                try simp only [Z1, Z2, Z3, Z4, Z5, Z6, Z7]
                refine wpAnyH_take (i := 26) (v := ?_) rfl (by kernel_rfl) (by kernel_rfl) (by kernel_rfl) (fun _ _ _ h => h) (Or.inl ⟨by rfl, ?_⟩) hH ?_
                case refine_2 => intro w hSw; go_simp; try with_reducible rfl
                try simp only [Z1, Z2, Z3, Z4, Z5, Z6, Z7]
                refine wpAnyH_take (i := 27) (v := ?_) rfl (by kernel_rfl) (by kernel_rfl) (by kernel_rfl) (fun _ _ _ h => h) (Or.inl ⟨by rfl, ?_⟩) hH ?_
                case refine_2 => intro w hSw; go_simp; try with_reducible rfl
                try simp only [Z1, Z2, Z3, Z4, Z5, Z6, Z7]
                refine wpAnyH_take (i := 28) (v := ?_) rfl (by kernel_rfl) (by kernel_rfl) (by kernel_rfl) (fun _ _ _ h => h) (Or.inl ⟨by rfl, ?_⟩) hH ?_
                case refine_2 => intro w hSw; obtain ⟨kw, kb⟩ := hSw; replace kw : Blk w g 48 (nodeC E V M X d) := kw; replace kb : Blk w mb 58 #[.int .i64 m.kind, .int .i64 m.frm, .int .i64 m.dst, .int .u64 (m.term : Int), .int .u64 (m.index : Int), .int .u64 (m.logTerm : Int), .int .u64 (m.commit : Int), .slice A m.ents.length c, .bool m.ok, .slice none 0 0] := kb; have n7 : w.cell? ⟨_, 7, none⟩ = some (.int .i64 d.limit) := Blk.cell kw 7; clear kw kb; go_simp; try with_reducible rfl
                try simp only [Z1, Z2, Z3, Z4, Z5, Z6, Z7]
                refine wpAnyH_take (i := 29) (v := ?_) rfl (by kernel_rfl) (by kernel_rfl) (by kernel_rfl) (fun _ _ _ h => h) (Or.inl ⟨by rfl, ?_⟩) hH ?_
                case refine_2 => intro w hSw; go_simp; try with_reducible rfl
                try simp only [Z1, Z2, Z3, Z4, Z5, Z6, Z7]
                refine wpAnyH_take (i := 30) (v := ?_) rfl (by kernel_rfl) (by kernel_rfl) (by kernel_rfl) (fun _ _ _ h => h) (Or.inl ⟨by rfl, ?_⟩) hH ?_
                case refine_2 => intro w hSw; go_simp; try with_reducible rfl
                try simp only [Z1, Z2, Z3, Z4, Z5, Z6, Z7]
                refine wpAnyH_take (i := 31) (v := ?_) rfl (by kernel_rfl) (by kernel_rfl) (by kernel_rfl) (fun _ _ _ h => h) (Or.inl ⟨by rfl, ?_⟩) hH ?_
                case refine_2 => intro w hSw; go_simp; try with_reducible rfl
                try simp only [Z1, Z2, Z3, Z4, Z5, Z6, Z7]
                refine wpAnyH_take (i := 32) (v := ?_) rfl (by kernel_rfl) (by kernel_rfl) (by kernel_rfl) (fun _ _ _ h => h) (Or.inl ⟨by rfl, ?_⟩) hH ?_
                case refine_2 => intro w hSw; go_simp; try with_reducible rfl
                try simp only [Z1, Z2, Z3, Z4, Z5, Z6, Z7]
                refine wpAnyH_done (by kernel_rfl) ?_ _
                refine NoPanic.normal ?_
                go_wp2_with fail
                go_meet
                case rel => exact ⟨_, rfl, HOK, b07⟩
        · have h1i : ¬ (d.term : Int) < (m.term : Int) := by omega
          have HOK : Hid (false = (decide (d.term < m.term) && upP d m && (decide (d.lead = -1) || decide (d.limit ≤ d.clock)))) := by show _ = _; rw [decide_eq_false h1]; rfl
          clear h1
          go_quiet (fail)
          go_wp2_with fail
          go_meet
          case rel => exact ⟨_, rfl, HOK, below_drewN (Below.refl _ _) _⟩
      case rest =>
        obtain ⟨ok, rfl, HOK, bc⟩ := hcut
        have N3 := N2.below bc
        have b3 := below_step b2 bc
        have B3 : BlP F w wc := .of_below b3
        have km3 := km2.below bc km2.lt
        clear N2 b2 km2 bc s3 n0 n7 n9 n11 b3
        cases ok with
        | true =>
          have HV : Hid (stepP d m = (d, answerP d m { kind := 2, term := m.term, ok := true })) := by show _ = _; rw [HE.out, if_pos HOK.out.symm]
          clear HE HOK
          have TU := answer_any g E V M X d A none c 0 m { kind := 2, term := m.term, ok := true } (fun _ => False) wc N3.blk (MsgAt.nil_ _ _ _ rfl (by show m.term ≤ _; omega) (Nat.zero_le _) (Nat.zero_le _) (Nat.zero_le _))
          rw [show msgC A c m = #[.int .i64 m.kind, .int .i64 m.frm, .int .i64 m.dst, .int .u64 (m.term : Int), .int .u64 (m.index : Int), .int .u64 (m.logTerm : Int), .int .u64 (m.commit : Int), .slice A m.ents.length c, .bool m.ok, .slice none 0 0] from rfl] at TU
          replace TU : Calls Try.prog 36 #[.pointer (some ⟨g, 0, none⟩), .agg #[.int .i64 m.kind, .int .i64 m.frm, .int .i64 m.dst, .int .u64 (m.term : Int), .int .u64 (m.index : Int), .int .u64 (m.logTerm : Int), .int .u64 (m.commit : Int), .slice A m.ents.length c, .bool m.ok, .slice none 0 0], .agg #[.int .i64 2, .int .i64 0, .int .i64 0, .int .u64 (m.term : Int), .int .u64 0, .int .u64 0, .int .u64 0, .slice none 0 0, .bool true, .slice none 0 0]] wc _ := TU
          have s3 : wc.cell? ⟨mb, 3, none⟩ = some (.int .u64 (m.term : Int)) := km3.cell 3
          go_wp2_with ((with_reducible refine wpList_load_blk rfl 58 (.tmp 3) rfl mb ?_ 58 _ _ km3 Try.underlying58 ?_ Try.size_Msg ?_ ?_); rfl; rfl; rfl)
          refine TU.mono ?_
          clear TU
          rintro en w7 ⟨gb, rfl, o7, b7⟩
          have D7 : ND w7 g (fun b => F b ∨ wc.heap.size ≤ b) d := ND.new (w := wc) ⟨_, _, _, _, _, N3, HF.out⟩ b7
          have z7 := B3.size
          have o7' := o7.mono (S' := fun b => wc.heap.size ≤ b) (fun b _ _ h => h.elim)
          clear s3
          go_wp2_with fail
          go_ret
          rw [HV.out]
          exact ⟨some ⟨gb, 0, none⟩, 1, wc.heap.size, rfl, z7, o7', D7.mono (fun b h => h.imp (fun h => h.1) id), B3.trans (.of_below b7)⟩
        | false =>
          have HV : Hid (stepP d m = (d, answerP d m { kind := 2, term := d.term })) := by show _ = _; rw [HE.out, if_neg (by rw [← HOK.out]; simp)]
          clear HE HOK
          go_upto_region 8 with fail
          refine wp_region_noPanic ?_
          have kS : Blk wc.drew g 48 (nodeC E V M X d) ∧ Blk wc.drew mb 58 #[.int .i64 m.kind, .int .i64 m.frm, .int .i64 m.dst, .int .u64 (m.term : Int), .int .u64 (m.index : Int), .int .u64 (m.logTerm : Int), .int .u64 (m.commit : Int), .slice A m.ents.length c, .bool m.ok, .slice none 0 0] := ⟨N3.blk.drew, km3.drew⟩
          refine wp_region_held_drew (S := fun Y => Blk Y g 48 (nodeC E V M X d) ∧ Blk Y mb 58 #[.int .i64 m.kind, .int .i64 m.frm, .int .i64 m.dst, .int .u64 (m.term : Int), .int .u64 (m.index : Int), .int .u64 (m.logTerm : Int), .int .u64 (m.commit : Int), .slice A m.ents.length c, .bool m.ok, .slice none 0 0]) (by kernel_rfl) kS (fun hH => ?_)
          refine wpAnyH_take (i := 0) (v := ?_) rfl (by kernel_rfl) (by kernel_rfl) (by kernel_rfl) (fun _ _ _ h => h) (Or.inl ⟨by rfl, ?_⟩) hH ?_
          case refine_2 => intro w hSw; go_simp; try with_reducible rfl
          try simp only [Z1, Z2, Z4, Z5, Z6, Z7]
          refine wpAnyH_take (i := 1) (v := ?_) rfl (by kernel_rfl) (by kernel_rfl) (by kernel_rfl) (fun _ _ _ h => h) (Or.inl ⟨by rfl, ?_⟩) hH ?_
          case refine_2 => intro w hSw; obtain ⟨kw, kb⟩ := hSw; replace kw : Blk w g 48 (nodeC E V M X d) := kw; replace kb : Blk w mb 58 #[.int .i64 m.kind, .int .i64 m.frm, .int .i64 m.dst, .int .u64 (m.term : Int), .int .u64 (m.index : Int), .int .u64 (m.logTerm : Int), .int .u64 (m.commit : Int), .slice A m.ents.length c, .bool m.ok, .slice none 0 0] := kb; have s0 : w.cell? ⟨_, 0, none⟩ = some (.int .i64 m.kind) := Blk.cell kb 0; have s1 : w.cell? ⟨_, 1, none⟩ = some (.int .i64 m.frm) := Blk.cell kb 1; have s2 : w.cell? ⟨_, 2, none⟩ = some (.int .i64 m.dst) := Blk.cell kb 2; have s3 : w.cell? ⟨_, 3, none⟩ = some (.int .u64 (m.term : Int)) := Blk.cell kb 3; have s4 : w.cell? ⟨_, 4, none⟩ = some (.int .u64 (m.index : Int)) := Blk.cell kb 4; have s5 : w.cell? ⟨_, 5, none⟩ = some (.int .u64 (m.logTerm : Int)) := Blk.cell kb 5; have s6 : w.cell? ⟨_, 6, none⟩ = some (.int .u64 (m.commit : Int)) := Blk.cell kb 6; have s7 : w.cell? ⟨_, 7, none⟩ = some (.slice A m.ents.length c) := Blk.cell kb 7; have s8 : w.cell? ⟨_, 8, none⟩ = some (.bool m.ok) := Blk.cell kb 8; have s9 : w.cell? ⟨_, 9, none⟩ = some (.slice none 0 0) := Blk.cell kb 9; clear kw kb; go_simp; try with_reducible rfl
          try simp only [Z1, Z2, Z3, Z4, Z5, Z6, Z7]
          refine wpAnyH_take (i := 2) (v := ?_) rfl (by kernel_rfl) (by kernel_rfl) (by kernel_rfl) (fun _ _ _ h => h) (Or.inl ⟨by rfl, ?_⟩) hH ?_
          case refine_2 => intro w hSw; go_simp; try with_reducible rfl
          try simp only [Z1, Z2, Z3, Z4, Z5, Z6, Z7]
          refine wpAnyH_take (i := 3) (v := ?_) rfl (by kernel_rfl) (by kernel_rfl) (by kernel_rfl) (fun _ _ _ h => h) (Or.inl ⟨by rfl, ?_⟩) hH ?_
          case refine_2 => intro w hSw; go_simp; try with_reducible rfl
          try simp only [Z1, Z2, Z3, Z4, Z5, Z6, Z7]
          refine wpAnyH_take (i := 4) (v := ?_) rfl (by kernel_rfl) (by kernel_rfl) (by kernel_rfl) (fun _ _ _ h => h) (Or.inl ⟨by rfl, ?_⟩) hH ?_
          case refine_2 => intro w hSw; go_simp; try with_reducible rfl
          try simp only [Z1, Z2, Z3, Z4, Z5, Z6, Z7]
          refine wpAnyH_take (i := 5) (v := ?_) rfl (by kernel_rfl) (by kernel_rfl) (by kernel_rfl) (fun _ _ _ h => h) (Or.inl ⟨by rfl, ?_⟩) hH ?_
          case refine_2 => intro w hSw; go_simp; try with_reducible rfl
          try simp only [Z1, Z2, Z3, Z4, Z5, Z6, Z7]
          refine wpAnyH_take (i := 6) (v := ?_) rfl (by kernel_rfl) (by kernel_rfl) (by kernel_rfl) (fun _ _ _ h => h) (Or.inl ⟨by rfl, ?_⟩) hH ?_
          case refine_2 => intro w hSw; go_simp; try with_reducible rfl
          try simp only [Z1, Z2, Z3, Z4, Z5, Z6, Z7]
          refine wpAnyH_take (i := 7) (v := ?_) rfl (by kernel_rfl) (by kernel_rfl) (by kernel_rfl) (fun _ _ _ h => h) (Or.inl ⟨by rfl, ?_⟩) hH ?_
          case refine_2 => intro w hSw; obtain ⟨kw, kb⟩ := hSw; replace kw : Blk w g 48 (nodeC E V M X d) := kw; replace kb : Blk w mb 58 #[.int .i64 m.kind, .int .i64 m.frm, .int .i64 m.dst, .int .u64 (m.term : Int), .int .u64 (m.index : Int), .int .u64 (m.logTerm : Int), .int .u64 (m.commit : Int), .slice A m.ents.length c, .bool m.ok, .slice none 0 0] := kb; have n0 : w.cell? ⟨_, 0, none⟩ = some (.int .u64 (d.term : Int)) := Blk.cell kw 0; clear kw kb; go_simp; try with_reducible rfl
          try simp only [Z1, Z2, Z3, Z4, Z5, Z6, Z7]
          refine wpAnyH_take (i := 8) (v := ?_) rfl (by kernel_rfl) (by kernel_rfl) (by kernel_rfl) (fun _ _ _ h => h) (Or.inl ⟨by rfl, ?_⟩) hH ?_
          case refine_2 => intro w hSw; go_simp; try with_reducible rfl
          try simp only [Z1, Z2, Z3, Z4, Z5, Z6, Z7]
          refine wpAnyH_ready (rs := [9]) (by kernel_rfl) (by simp) ?_
          refine AllReadyH.cons rfl (fun K hK => ?_) AllReadyH.nil
          go_simp
          have TU := answer_any g E V M X d A none c 0 m { kind := 2, term := d.term } (fun _ => False) wc.drew kS.1 (MsgAt.nil_ _ _ _ rfl (by have := hb.term; show d.term ≤ _; omega) (Nat.zero_le _) (Nat.zero_le _) (Nat.zero_le _))
          rw [show msgC A c m = #[.int .i64 m.kind, .int .i64 m.frm, .int .i64 m.dst, .int .u64 (m.term : Int), .int .u64 (m.index : Int), .int .u64 (m.logTerm : Int), .int .u64 (m.commit : Int), .slice A m.ents.length c, .bool m.ok, .slice none 0 0] from rfl] at TU
          replace TU : Calls Try.prog 36 #[.pointer (some ⟨g, 0, none⟩), .agg #[.int .i64 m.kind, .int .i64 m.frm, .int .i64 m.dst, .int .u64 (m.term : Int), .int .u64 (m.index : Int), .int .u64 (m.logTerm : Int), .int .u64 (m.commit : Int), .slice A m.ents.length c, .bool m.ok, .slice none 0 0], .agg #[.int .i64 2, .int .i64 0, .int .i64 0, .int .u64 (d.term : Int), .int .u64 0, .int .u64 0, .int .u64 0, .slice none 0 0, .bool false, .slice none 0 0]] wc.drew _ := TU
          refine TU.mono ?_
          clear TU
          rintro en w7 ⟨gb, rfl, o7, b7⟩
          have k7 := kS.1.below b7 kS.1.lt
          have km7 := kS.2.below b7 kS.2.lt
          refine hK.out _ _ ⟨k7, km7⟩ (fun hH => ?_)
          clear hK K
          try dsimp only
          try simp only [Z1, Z2, Z3, Z4, Z5, Z6, Z7]
          refine wpAnyH_take (i := 10) (v := ?_) rfl (by kernel_rfl) (by kernel_rfl) (by kernel_rfl) (fun _ _ _ h => h) (Or.inl ⟨by rfl, ?_⟩) hH ?_
          case refine_2 => intro w hSw; go_simp; try with_reducible rfl
          try simp only [Z1, Z2, Z3, Z4, Z5, Z6, Z7]
          refine wpAnyH_done (by kernel_rfl) ?_ _
          refine NoPanic.normal ?_
          have D7 : ND w7 g (fun b => F b ∨ wc.heap.size ≤ b) d := ND.new (w := wc) ⟨_, _, _, _, _, N3, HF.out⟩ (below_step ((Below.refl _ _).drew) b7)
          have z7 := B3.size
          have o7' := o7.mono (S' := fun b => wc.heap.size ≤ b) (fun b _ _ h => h.elim)
          go_wp2_with fail
          go_ret
          rw [HV.out]
          exact ⟨some ⟨gb, 0, none⟩, 1, wc.heap.size, rfl, z7, o7', D7.mono (fun b h => h.imp (fun h => h.1) id), B3.trans (.of_below (below_step ((Below.refl _ _).drew) b7))⟩
    · have hki : (m.kind == 1) = false := by rw [beq_eq_false_iff_ne]; exact hk1
      have HP3 : Hid (stepP d m = if m.kind = 2 then preVotedP d m else if m.kind = 3 then voteP d m else if m.kind = 4 then votedP d m else if m.kind = 5 ∨ m.kind = 7 then ledP d m else appendedP d m) := by show _ = _; rw [HP2.out, if_neg hk1]
      have D2 : ND w2 g F d := ⟨_, _, _, _, _, N2, HF.out⟩
      have B2 : BlP F w w2 := .of_below b2
      have rb := HRB.out
      have HK1 := Lib.hid hk1
      clear HP2 N2 b2 hk1
      by_cases hk2 : m.kind = 2
      · have hki2 : (m.kind == 2) = true := by rw [beq_iff_eq]; exact hk2
        have HE : Hid (stepP d m = preVotedP d m) := by show _ = _; rw [HP3.out, if_pos hk2]
        have T := preVoted_any g F d A c m w2 D2 hb hbl rb.n1 rb.n5 rb.id rb.r1 HF1.out HF2.out HTM.out
        rw [show msgC A c m = #[.int .i64 m.kind, .int .i64 m.frm, .int .i64 m.dst, .int .u64 (m.term : Int), .int .u64 (m.index : Int), .int .u64 (m.logTerm : Int), .int .u64 (m.commit : Int), .slice A m.ents.length c, .bool m.ok, .slice none 0 0] from rfl, ← HE.out] at T
        clear hk2 D2 HE HP3 rb HRB
        go_wp2_with ((with_reducible refine wpList_load_blk rfl 58 (.tmp 3) rfl mb ?_ 58 _ _ km2 Try.underlying58 ?_ Try.size_Msg ?_ ?_); rfl; rfl; rfl)
        refine T.mono ?_
        clear T s0
        intro en w6 h6
        obtain ⟨A5, c5, k5, rfl, h7⟩ := h6.mono B2 (fun b _ h => h)
        go_wp2_with fail
        go_ret
        exact ⟨A5, c5, k5, rfl, h7⟩
      · have hki2 : (m.kind == 2) = false := by rw [beq_eq_false_iff_ne]; exact hk2
        have HK2 := Lib.hid hk2
        clear hk2
        by_cases hk3 : m.kind = 3
        · have hki3 : (m.kind == 3) = true := by rw [beq_iff_eq]; exact hk3
          have HE : Hid (stepP d m = voteP d m) := by show _ = _; rw [HP3.out, if_neg HK2.out, if_pos hk3]
          have T := vote_any g F d A c m w2 D2 hb HTM.out
          rw [show msgC A c m = #[.int .i64 m.kind, .int .i64 m.frm, .int .i64 m.dst, .int .u64 (m.term : Int), .int .u64 (m.index : Int), .int .u64 (m.logTerm : Int), .int .u64 (m.commit : Int), .slice A m.ents.length c, .bool m.ok, .slice none 0 0] from rfl, ← HE.out] at T
          clear hk3 D2 HE HP3 rb HRB
          go_wp2_with ((with_reducible refine wpList_load_blk rfl 58 (.tmp 3) rfl mb ?_ 58 _ _ km2 Try.underlying58 ?_ Try.size_Msg ?_ ?_); rfl; rfl; rfl)
          refine T.mono ?_
          clear T s0
          intro en w6 h6
          obtain ⟨A5, c5, k5, rfl, h7⟩ := h6.mono B2 (fun b _ h => h)
          go_wp2_with fail
          go_ret
          exact ⟨A5, c5, k5, rfl, h7⟩
        · have hki3 : (m.kind == 3) = false := by rw [beq_eq_false_iff_ne]; exact hk3
          have HK3 := Lib.hid hk3
          clear hk3
          by_cases hk4 : m.kind = 4
          · have hki4 : (m.kind == 4) = true := by rw [beq_iff_eq]; exact hk4
            have HE : Hid (stepP d m = votedP d m) := by show _ = _; rw [HP3.out, if_neg HK2.out, if_neg HK3.out, if_pos hk4]
            have T := voted_any g F d A c m w2 D2 hb hbl rb.n1 rb.n5 rb.id rb.r2 HF1.out HF2.out
            rw [show msgC A c m = #[.int .i64 m.kind, .int .i64 m.frm, .int .i64 m.dst, .int .u64 (m.term : Int), .int .u64 (m.index : Int), .int .u64 (m.logTerm : Int), .int .u64 (m.commit : Int), .slice A m.ents.length c, .bool m.ok, .slice none 0 0] from rfl, ← HE.out] at T
            clear hk4 D2 HE HP3 rb HRB
            go_wp2_with ((with_reducible refine wpList_load_blk rfl 58 (.tmp 3) rfl mb ?_ 58 _ _ km2 Try.underlying58 ?_ Try.size_Msg ?_ ?_); rfl; rfl; rfl)
            refine T.mono ?_
            clear T s0
            intro en w6 h6
            obtain ⟨A5, c5, k5, rfl, h7⟩ := h6.mono B2 (fun b _ h => h)
            go_wp2_with fail
            go_ret
            exact ⟨A5, c5, k5, rfl, h7⟩
          · have hki4 : (m.kind == 4) = false := by rw [beq_eq_false_iff_ne]; exact hk4
            have HK4 := Lib.hid hk4
            clear hk4
            by_cases hk5 : m.kind = 5
            · have hki5 : (m.kind == 5) = true := by rw [beq_iff_eq]; exact hk5
              have HE : Hid (stepP d m = ledP d m) := by show _ = _; rw [HP3.out, if_neg HK2.out, if_neg HK3.out, if_neg HK4.out, if_pos (.inl hk5)]
              have T := led_any g F d A c m w2 D2 HM2.out hb hlen HIX.out HTM.out
              rw [show msgC A c m = #[.int .i64 m.kind, .int .i64 m.frm, .int .i64 m.dst, .int .u64 (m.term : Int), .int .u64 (m.index : Int), .int .u64 (m.logTerm : Int), .int .u64 (m.commit : Int), .slice A m.ents.length c, .bool m.ok, .slice none 0 0] from rfl, ← HE.out] at T
              clear hk5 D2 HE HP3 rb HRB
              go_wp2_with ((with_reducible refine wpList_load_blk rfl 58 (.tmp 3) rfl mb ?_ 58 _ _ km2 Try.underlying58 ?_ Try.size_Msg ?_ ?_); rfl; rfl; rfl)
              refine T.mono ?_
              clear T s0
              intro en w6 h6
              obtain ⟨A5, c5, k5, rfl, h7⟩ := h6.mono B2 (fun b _ h => h)
              go_wp2_with fail
              go_ret
              exact ⟨A5, c5, k5, rfl, h7⟩
            · have hki5 : (m.kind == 5) = false := by rw [beq_eq_false_iff_ne]; exact hk5
              have HK5 := Lib.hid hk5
              clear hk5
              by_cases hk7 : m.kind = 7
              · have hki7 : (m.kind == 7) = true := by rw [beq_iff_eq]; exact hk7
                have HE : Hid (stepP d m = ledP d m) := by show _ = _; rw [HP3.out, if_neg HK2.out, if_neg HK3.out, if_neg HK4.out, if_pos (.inr hk7)]
                have T := led_any g F d A c m w2 D2 HM2.out hb hlen HIX.out HTM.out
                rw [show msgC A c m = #[.int .i64 m.kind, .int .i64 m.frm, .int .i64 m.dst, .int .u64 (m.term : Int), .int .u64 (m.index : Int), .int .u64 (m.logTerm : Int), .int .u64 (m.commit : Int), .slice A m.ents.length c, .bool m.ok, .slice none 0 0] from rfl, ← HE.out] at T
                clear hk7 D2 HE HP3 rb HRB
                go_wp2_with ((with_reducible refine wpList_load_blk rfl 58 (.tmp 3) rfl mb ?_ 58 _ _ km2 Try.underlying58 ?_ Try.size_Msg ?_ ?_); rfl; rfl; rfl)
                refine T.mono ?_
                clear T s0
                intro en w6 h6
                obtain ⟨A5, c5, k5, rfl, h7⟩ := h6.mono B2 (fun b _ h => h)
                go_wp2_with fail
                go_ret
                exact ⟨A5, c5, k5, rfl, h7⟩
              · have hki7 : (m.kind == 7) = false := by rw [beq_eq_false_iff_ne]; exact hk7
                have HK7 := Lib.hid hk7
                clear hk7
                have HE : Hid (stepP d m = appendedP d m) := by show _ = _; rw [HP3.out, if_neg HK2.out, if_neg HK3.out, if_neg HK4.out, if_neg (fun h => h.elim HK5.out HK7.out)]
                have T := appended_any g F d A c m w2 D2 hb rb.n1 rb.n5 rb.r3 rb.mx HF1.out HF2.out HIX.out
                rw [show msgC A c m = #[.int .i64 m.kind, .int .i64 m.frm, .int .i64 m.dst, .int .u64 (m.term : Int), .int .u64 (m.index : Int), .int .u64 (m.logTerm : Int), .int .u64 (m.commit : Int), .slice A m.ents.length c, .bool m.ok, .slice none 0 0] from rfl, ← HE.out] at T
                clear D2 HE HP3 rb HRB
                go_wp2_with ((with_reducible refine wpList_load_blk rfl 58 (.tmp 3) rfl mb ?_ 58 _ _ km2 Try.underlying58 ?_ Try.size_Msg ?_ ?_); rfl; rfl; rfl)
                refine T.mono ?_
                clear T s0
                intro en w6 h6
                obtain ⟨A5, c5, k5, rfl, h7⟩ := h6.mono B2 (fun b _ h => h)
                go_wp2_with fail
                go_ret
                exact ⟨A5, c5, k5, rfl, h7⟩
end Go.Proofs.Ytjpcekpllfelhaa
