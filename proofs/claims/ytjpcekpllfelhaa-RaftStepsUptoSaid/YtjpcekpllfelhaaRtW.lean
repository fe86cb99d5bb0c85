/- The law's walk: whatever messages come to a node. (Printed by wip/gen_rtw.py.) -/
import Derived.Test.YtjpcekpllfelhaaRtN
namespace Go.Proofs.Ytjpcekpllfelhaa
open Go.RowKit

theorem Try.size_Fo : (Try.prog.info? 53).map (·.size) = some 5 := by kernel_rfl
set_option maxRecDepth 100000 in
set_option maxHeartbeats 8000000 in
theorem raftsteps_any (n vote : Int) (term base bT : Nat) (TA : Option Addr) (ts : List Nat) (tc : Nat) (NA : Option Addr) (ns : List LNote) (nc : Nat) (w : World) (hT : Sl NE w TA ts) (hN : Sl NoteE w NA ns) (htl : ts.length ≤ 1048576) (htc : ts.length ≤ tc ∧ tc ≤ 140737488351232) (hterm : term ≤ 18446744073709551615) (hbase : base ≤ 18446744073709551615) :
    Calls Try.prog 4 #[.int .i64 n, .agg #[.int .u64 (term : Int), .int .i64 vote, .int .u64 (base : Int), .int .u64 (bT : Int), .slice TA ts.length tc], .slice NA ns.length nc] w (fun en w' => en = .returned (.bool true) ∧ Below w.heap.size w w') := by
  obtain ⟨i0, hi0, hz0, hz1, hz2⟩ := info_parts Try.infoMsg
  have kF := Blk.new w 53 #[.int .u64 (term : Int), .int .i64 vote, .int .u64 (base : Int), .int .u64 (bT : Int), .slice TA ts.length tc]
  have b1 : Below w.heap.size w (w.alloc (.cells #[.int .u64 (term : Int), .int .i64 vote, .int .u64 (base : Int), .int .u64 (bT : Int), .slice TA ts.length tc] 53)) := (Below.refl _ _).alloc (Nat.le_refl _) _
  go_enter Try.func4, Try.ntmps4
  go_upto_region 1 with fail
  generalize (w.alloc (.cells #[.int .u64 (term : Int), .int .i64 vote, .int .u64 (base : Int), .int .u64 (bT : Int), .slice TA ts.length tc] 53)) = w1 at *
  have lF := kF.lt
  go_wp2_with fail
  refine (awake_any w1).mono ?_
  rintro en w2 ⟨rfl, b12⟩
  as_aux_lemma =>
  have kF2 := kF.below b12 lF
  have b2 := below_step b1 b12
  have s4 : w2.cell? ⟨w.heap.size, 4, none⟩ = some (.slice TA ts.length tc) := kF2.cell 4
  have f4 : w2.frozen? ⟨w.heap.size, 4, none⟩ = false := kF2.frozen 4
  have lF2 := kF2.lt
  clear kF b1 b12 lF
  obtain ⟨l2, hl2⟩ : ∃ l2, l2 = ts.take 30 := ⟨_, rfl⟩
  have hll : l2.length ≤ 30 ∧ (ts.length ≤ 30 → l2 = ts) ∧ (30 < ts.length → l2.length = 30) := by
    rw [hl2]
    exact ⟨by rw [List.length_take]; omega, fun h => List.take_of_length_le h, fun h => by rw [List.length_take]; omega⟩
  have hT2 : Sl NE w TA l2 := by
    by_cases h : ts.length ≤ 30
    · rw [hll.2.1 h]; exact hT
    · rw [hl2]; exact hT.take 30 (by omega)
  have HLL := Lib.hid hll
  have hl30 := hll.1
  clear hl2 hll hT
  have HG : Hid ((decide (30 < (ts.length : Int)) = true → 30 < ts.length) ∧ (decide (30 < (ts.length : Int)) = false → ts.length ≤ 30)) := ⟨fun h => by have := of_decide_eq_true h; omega, fun h => by have := of_decide_eq_false h; omega⟩
  go_upto_if 31 with fail
  generalize decide (30 < (ts.length : Int)) = gb at *
  go_cut [31] from 32 to 35 (fun _ wx => Blk wx w.heap.size 53 #[.int .u64 (term : Int), .int .i64 vote, .int .u64 (base : Int), .int .u64 (bT : Int), .slice TA l2.length tc] ∧ Below w.heap.size w wx)
  case first =>
    cases gb with
    | true =>
      have h1 := HG.out.1 rfl
      have h30i : (30 : Int) ≤ (tc : Int) := by omega
      have h2 := HLL.out.2.2 h1
      have HE := Lib.hid h2
      have g9 : w2.grownBy (w2.setCell ⟨w.heap.size, 4, none⟩ (.slice TA 30 tc)) (some w.heap.size) := only_setCell (only_of_below (Below.refl _ _) (some w.heap.size)) (.inl rfl) _
      clear HG h2
      go_wp2_with fail
      go_meet
      case rel => exact ⟨by rw [HE.out]; exact kF2.set_ 4 _, b2.grown g9 b2.size (fun b e => by have := Option.some.inj e; omega)⟩
    | false =>
      have HE := Lib.hid (HLL.out.2.1 (HG.out.2 rfl))
      clear HG
      go_wp2_with fail
      go_meet
      case rel => exact ⟨by rw [HE.out]; exact kF2, b2⟩
  case rest =>
  as_aux_lemma =>
  obtain ⟨kF3, b3⟩ := hcut
  have z3 := b3.size
  have lF3 := kF3.lt
  clear kF2 b2 s4 f4 lF2 HG
  have T := state_any term vote base bT TA l2 tc wc (hT2.below b3) (by omega)
  go_wp2_with ((with_reducible refine wpList_load_blk rfl 53 (.tmp 4) rfl w.heap.size ?_ 53 _ _ kF3 Try.underlying53 ?_ Try.size_Fo ?_ ?_); rfl; rfl; rfl)
  refine T.mono ?_
  rintro en w4 ⟨A4, c4, L, rfl, HLM, oL, b34⟩
  as_aux_lemma =>
  have kF4 := kF3.below b34 lF3
  have b4 := below_step b3 b34
  have hLl : L.length ≤ 30 := by rw [← List.length_map LEnt.term, HLM]; exact hl30
  have hS4 : SlS EntE w4 (fun b => wc.heap.size ≤ b) A4 L := oL.slS rfl (by simp only [EntE]; omega) (fun b h => h) (fun b h => h)
  have T := new_any term vote base bT A4 L c4 _ w4 hS4 n
  rw [HLM] at T
  clear HLM oL hS4 b34 b3 kF3
  go_wp2_with fail
  refine T.mono ?_
  rintro en w5 ⟨P5, ec, rfl, HNO, b45⟩
  as_aux_lemma =>
  have kF5 := kF4.below b45 kF4.lt
  have b5 := below_step b4 b45
  have z4 := b4.size
  have z5 := b5.size
  have HNO := Lib.hid HNO
  clear T b45 b4 kF4
  have s0 : w5.cell? ⟨w.heap.size, 0, none⟩ = some (.int .u64 (term : Int)) := kF5.cell 0
  have s1 : w5.cell? ⟨w.heap.size, 1, none⟩ = some (.int .i64 vote) := kF5.cell 1
  have s2 : w5.cell? ⟨w.heap.size, 2, none⟩ = some (.int .u64 (base : Int)) := kF5.cell 2
  go_upto_region 6 with fail
  obtain ⟨gh, hgh⟩ : ∃ gh, gh = (decide (-1 ≤ vote) && decide (vote < n) && decide (term ≤ 4611686018427387904) && decide (base ≤ 4611686018427387904)) := ⟨_, rfl⟩
  have HGH := Lib.hid hgh
  clear hgh
  go_cut [9] from 43 to 61 (fun s wx => s = .bool gh ∧ wx = w5)
  case first =>
    by_cases h1 : -1 ≤ vote
    · by_cases h2 : vote < n
      · by_cases h3 : term ≤ 4611686018427387904
        · have h3i : (term : Int) ≤ 4611686018427387904 := by omega
          by_cases h4 : base ≤ 4611686018427387904
          · have h4i : (base : Int) ≤ 4611686018427387904 := by omega
            have HE : Hid (gh = true) := by show _ = _; rw [HGH.out, decide_eq_true h1, decide_eq_true h2, decide_eq_true h3, decide_eq_true h4]; rfl
            go_wp2_with fail
            go_meet
            case rel => exact ⟨by rw [HE.out], rfl⟩
          · have h4i : ¬ (base : Int) ≤ 4611686018427387904 := by omega
            have HE : Hid (gh = false) := by show _ = _; rw [HGH.out, decide_eq_false h4, Bool.and_false]
            clear h4
            go_wp2_with fail
            go_meet
            case rel => exact ⟨by rw [HE.out], rfl⟩
        · have h3i : ¬ (term : Int) ≤ 4611686018427387904 := by omega
          have HE : Hid (gh = false) := by show _ = _; rw [HGH.out, decide_eq_false h3, Bool.and_false, Bool.false_and]
          clear h3
          go_wp2_with fail
          go_meet
          case rel => exact ⟨by rw [HE.out], rfl⟩
      · have HE : Hid (gh = false) := by show _ = _; rw [HGH.out, decide_eq_false h2, Bool.and_false, Bool.false_and, Bool.false_and]
        go_wp2_with fail
        go_meet
        case rel => exact ⟨by rw [HE.out], rfl⟩
    · have HE : Hid (gh = false) := by show _ = _; rw [HGH.out, decide_eq_false h1, Bool.false_and, Bool.false_and, Bool.false_and]
      go_wp2_with fail
      go_meet
      case rel => exact ⟨by rw [HE.out], rfl⟩
  case rest =>
  as_aux_lemma =>
  obtain ⟨rfl, hwc⟩ := hcut
  replace hwc := hwc.symm
  subst hwc
  have s3 : w5.cell? ⟨w.heap.size, 3, none⟩ = some (.int .u64 (bT : Int)) := kF5.cell 3
  have s4 : w5.cell? ⟨w.heap.size, 4, none⟩ = some (.slice TA l2.length tc) := kF5.cell 4
  have hT5 := hT2.below b5
  clear s1 s2
  go_wp2_with fail
  obtain ⟨R, hR⟩ : ∃ R, R = (gh && risingT l2 bT term) := ⟨_, rfl⟩
  have HR := Lib.hid hR
  clear hR s3 s4
  go_loopw [9, 10, 12, 67] (fun v9 v10 _ v67 wr => ∃ (k lo : Nat) (g : Bool), k ≤ l2.length ∧ v9 = .bool g ∧ v10 = .int .u64 (lo : Int) ∧ v67 = .int .i64 (k : Int) ∧ Hid ((g && risingT (l2.drop k) lo term) = R) ∧ wr = w5) (fun _ _ _ v67 _ => l2.length - (intOf v67).toNat)
  case atStart => exact ⟨0, bT, gh, Nat.zero_le _, rfl, rfl, rfl, HR.out.symm, rfl⟩
  case round =>
    obtain ⟨k, lo, gx, hk, rfl, rfl, rfl, HX, rfl⟩ := hrel
    by_cases hlt : k < l2.length
    · obtain ⟨ad, vs, rfl, hbl, ⟨rfl, ht⟩, h4, _, _⟩ := SlS.at_ hT5 hlt
      have e0 : wr.cell? (ad.add k) = some (.int .u64 (l2[k] : Int)) := by have h := h4 _ rfl; rwa [show k * NE.size = k from Nat.mul_one k] at h
      clear h4 hbl
      have HST : Hid ((gx && (if l2[k] < lo then false else risingT (l2.drop (k + 1)) l2[k] term)) = R) := by show _ = _; rw [← HX.out, List.drop_eq_getElem_cons hlt]; rfl
      generalize l2[k] = t at *
      clear HX
      cases gx with
      | false =>
        have HE : Hid ((false && risingT (l2.drop (k + 1)) t term) = R) := by show _ = _; rw [← HST.out, Bool.false_and, Bool.false_and]
        go_wp2_with fail
        go_roundw
        case rel => exact ⟨k + 1, t, false, by omega, rfl, rfl, by simp, HE.out, trivial⟩
        case measure => simp [intOf]; omega
      | true =>
        by_cases hf : t < lo
        · have hfi : ¬ (lo : Int) ≤ (t : Int) := by omega
          have HE : Hid ((false && risingT (l2.drop (k + 1)) t term) = R) := by show _ = _; rw [← HST.out, if_pos hf]; rfl
          go_wp2_with fail
          go_roundw
          case rel => exact ⟨k + 1, t, false, by omega, rfl, rfl, by simp, HE.out, trivial⟩
          case measure => simp [intOf]; omega
        · have hfi : (lo : Int) ≤ (t : Int) := by omega
          have HE : Hid ((true && risingT (l2.drop (k + 1)) t term) = R) := by show _ = _; rw [← HST.out, if_neg hf]
          go_wp2_with fail
          go_roundw
          case rel => exact ⟨k + 1, t, true, by omega, rfl, rfl, by simp, HE.out, trivial⟩
          case measure => simp [intOf]; omega
    · obtain rfl : k = l2.length := by omega
      have HE : Hid (R = (gx && decide (lo ≤ term))) := by show _ = _; rw [← HX.out, List.drop_length]; rfl
      have HRG : Hid (R = goodT n vote term base bT l2) := by show _ = _; rw [HR.out, HGH.out]; rfl
      clear HX HR HGH
      have hlti : ¬ (l2.length : Int) < (l2.length : Int) := by omega
      go_upto_region 14 with fail
      go_cut [9] from 79 to 85 (fun s wx => s = .bool R ∧ wx = wr)
      case first =>
        cases gx with
        | false =>
          have HQ : Hid (R = false) := HE.out
          go_wp2_with fail
          go_meet
          case rel => exact ⟨by rw [HQ.out], rfl⟩
        | true =>
          by_cases hf : lo ≤ term
          · have hfi : (lo : Int) ≤ (term : Int) := by omega
            have HQ : Hid (R = true) := by show _ = _; rw [HE.out, decide_eq_true hf]; rfl
            go_wp2_with fail
            go_meet
            case rel => exact ⟨by rw [HQ.out], rfl⟩
          · have hfi : ¬ (lo : Int) ≤ (term : Int) := by omega
            have HQ : Hid (R = false) := by show _ = _; rw [HE.out, decide_eq_false hf]; rfl
            go_wp2_with fail
            go_meet
            case rel => exact ⟨by rw [HQ.out], rfl⟩
      case rest =>
      as_aux_lemma =>
      obtain ⟨rfl, hwc⟩ := hcut
      replace hwc := hwc.symm
      subst hwc
      clear HE hlti s0 hT5 HLL
      rcases HNO.out with ⟨h1, rfl, rfl⟩ | ⟨hn1, hn5, hg, rfl, rfl⟩ | ⟨hn1, hn5, hg, rfl, g, L', rfl, HLM, hg4, hND⟩
      · clear HNO HRG
        by_cases h0 : n < 1
        · go_wp2_with fail
          go_ret
          exact ⟨rfl, b5⟩
        · have h55 : 5 < n := by omega
          go_wp2_with fail
          go_ret
          exact ⟨rfl, b5⟩
      · have HQ := HRG.out
        rw [hg] at HQ
        subst HQ
        have h0 : ¬ n < 1 := by omega
        have h55 : ¬ 5 < n := by omega
        clear HNO HRG hg
        go_wp2_with fail
        go_ret
        exact ⟨rfl, b5⟩
      · have HQ := HRG.out
        rw [hg] at HQ
        subst HQ
        obtain ⟨nn, rfl⟩ : ∃ nn : Nat, n = (nn : Int) := ⟨n.toNat, by omega⟩
        have h0 : ¬ (nn : Int) < 1 := by omega
        have h55 : ¬ 5 < (nn : Int) := by omega
        clear HNO HRG
        have hLl2 : L'.length = l2.length := by rw [← HLM, List.length_map]
        simp only [goodT, Bool.and_eq_true, decide_eq_true_eq] at hg
        obtain ⟨⟨⟨⟨q1, q2⟩, q3⟩, q4⟩, q5⟩ := hg
        have NI0 : NI nn 30 (newP 0 nn 3 term vote base bT L') := NI.new_ (by omega) (by omega) q1 q2 (by rw [rising_map, HLM]; exact q5) q4 q3 (by omega)
        rw [Int.toNat_natCast] at hND
        obtain ⟨d0, hd0⟩ : ∃ d0, d0 = newP 0 nn 3 term vote base bT L' := ⟨_, rfl⟩
        rw [← hd0] at NI0 hND
        have e1 : ((lastN d0 : Nat) : Int) = (base : Int) + (l2.length : Int) := by rw [hd0, ← hLl2]; show ((base + L'.length : Nat) : Int) = _; omega
        have e2 : ((d0.commit : Nat) : Int) = (base : Int) := by rw [hd0]; rfl
        have v1 : IntKind.u64.wrap (l2.length : Int) = (l2.length : Int) := by simp [IntKind.wrap, IntKind.bits, IntKind.signed]; omega
        have v2 : IntKind.u64.wrap ((base : Int) + (l2.length : Int)) = (base : Int) + (l2.length : Int) := by simp [IntKind.wrap, IntKind.bits, IntKind.signed]; omega
        have RB0 := (NI0.rb (by decide)).gb
        clear hd0 HLM q1 q2 q3 q5 hLl2 T hT2
        obtain ⟨S0, E0, V0, M0, X0, hNA, hF0⟩ := hND
        obtain ⟨Al, ec, rfl⟩ := hNA.log.shape
        have T1 := Lib.hid (fun (wz : World) (h : Blk wz g 48 (nodeC (.slice Al d0.log.length ec) V0 M0 X0 d0)) => last_any g Al ec V0 M0 X0 d0 wz h RB0.nb)
        have T2 := Lib.hid (fun (wz : World) (h : Blk wz g 48 (nodeC (.slice Al d0.log.length ec) V0 M0 X0 d0)) => commitk_any g (.slice Al d0.log.length ec) V0 M0 X0 d0 wz h)
        rw [e1] at T1
        rw [e2] at T2
        clear e1 e2
        go_upto_region 19 with fail
        go_cut [130] from 26 to 130 (fun s wx => s = .bool false ∧ ND wx g (fun b => b < w4.heap.size) d0 ∧ Below w.heap.size w wx)
        case first =>
          as_aux_lemma =>
          have kS : Blk wr.drew g 48 (nodeC (.slice Al d0.log.length ec) V0 M0 X0 d0) ∧ Blk wr.drew w.heap.size 53 #[.int .u64 (term : Int), .int .i64 vote, .int .u64 (base : Int), .int .u64 (bT : Int), .slice TA l2.length tc] := ⟨hNA.blk.drew, kF5.drew⟩
          refine wp_region_noPanic ?_
          refine wp_region_held_drew (S := fun Y => Blk Y g 48 (nodeC (.slice Al d0.log.length ec) V0 M0 X0 d0) ∧ Blk Y w.heap.size 53 #[.int .u64 (term : Int), .int .i64 vote, .int .u64 (base : Int), .int .u64 (bT : Int), .slice TA l2.length tc]) (by kernel_rfl) kS (fun hH => ?_)
          refine wpAnyH_take (i := 0) (v := ?_) rfl (by kernel_rfl) (by kernel_rfl) (by kernel_rfl) (fun _ _ _ h => h) (Or.inl ⟨by rfl, ?_⟩) hH ?_
          case refine_2 => intro w hSw; go_simp; try with_reducible rfl
          try simp only [Z1, Z2, Z4, Z5, Z6, Z7]
          refine wpAnyH_take (i := 1) (v := ?_) rfl (by kernel_rfl) (by kernel_rfl) (by kernel_rfl) (fun _ _ _ h => h) (Or.inl ⟨by rfl, ?_⟩) hH ?_
          case refine_2 => intro w hSw; go_simp; try with_reducible rfl
          try simp only [Z1, Z2, Z3, Z4, Z5, Z6, Z7]
          refine wpAnyH_take (i := 2) (v := ?_) rfl (by kernel_rfl) (by kernel_rfl) (by kernel_rfl) (fun _ _ _ h => h) (Or.inl ⟨by rfl, ?_⟩) hH ?_
          case refine_2 => intro w hSw; go_simp; try with_reducible rfl
          try simp only [Z1, Z2, Z3, Z4, Z5, Z6, Z7]
          refine wpAnyH_take (i := 3) (v := ?_) rfl (by kernel_rfl) (by kernel_rfl) (by kernel_rfl) (fun _ _ _ h => h) (Or.inl ⟨by rfl, ?_⟩) hH ?_
          case refine_2 => intro w hSw; go_simp; try with_reducible rfl
          try simp only [Z1, Z2, Z3, Z4, Z5, Z6, Z7]
          refine wpAnyH_take (i := 4) (v := ?_) rfl (by kernel_rfl) (by kernel_rfl) (by kernel_rfl) (fun _ _ _ h => h) (Or.inl ⟨by rfl, ?_⟩) hH ?_
          case refine_2 => intro w hSw; go_simp; try with_reducible rfl
          try simp only [Z1, Z2, Z3, Z4, Z5, Z6, Z7]
          refine wpAnyH_take (i := 5) (v := ?_) rfl (by kernel_rfl) (by kernel_rfl) (by kernel_rfl) (fun _ _ _ h => h) (Or.inl ⟨by rfl, ?_⟩) hH ?_
          case refine_2 => intro w hSw; go_simp; try with_reducible rfl
          try simp only [Z1, Z2, Z3, Z4, Z5, Z6, Z7]
          refine wpAnyH_take (i := 6) (v := ?_) rfl (by kernel_rfl) (by kernel_rfl) (by kernel_rfl) (fun _ _ _ h => h) (Or.inl ⟨by rfl, ?_⟩) hH ?_
          case refine_2 => intro w hSw; go_simp; try with_reducible rfl
          try simp only [Z1, Z2, Z3, Z4, Z5, Z6, Z7]
          refine wpAnyH_take (i := 7) (v := ?_) rfl (by kernel_rfl) (by kernel_rfl) (by kernel_rfl) (fun _ _ _ h => h) (Or.inl ⟨by rfl, ?_⟩) hH ?_
          case refine_2 => intro w hSw; go_simp; try with_reducible rfl
          try simp only [Z1, Z2, Z3, Z4, Z5, Z6, Z7]
          refine wpAnyH_take (i := 9) (v := ?_) rfl (by kernel_rfl) (by kernel_rfl) (by kernel_rfl) (fun _ _ _ h => h) (Or.inl ⟨by rfl, ?_⟩) hH ?_
          case refine_2 => intro w hSw; go_simp; try with_reducible rfl
          try simp only [Z1, Z2, Z3, Z4, Z5, Z6, Z7]
          refine wpAnyH_take (i := 10) (v := ?_) rfl (by kernel_rfl) (by kernel_rfl) (by kernel_rfl) (fun _ _ _ h => h) (Or.inl ⟨by rfl, ?_⟩) hH ?_
          case refine_2 => intro w hSw; have hSw := hSw.2; replace hSw : Blk w _ 53 (#[.int .u64 (term : Int), .int .i64 vote, .int .u64 (base : Int), .int .u64 (bT : Int), .slice TA l2.length tc]) := hSw; have n2 : w.cell? ⟨_, 2, none⟩ = some (.int .u64 (base : Int)) := Blk.cell hSw 2; clear hSw; go_simp; try with_reducible rfl
          try simp only [Z1, Z2, Z3, Z4, Z5, Z6, Z7]
          refine wpAnyH_take (i := 11) (v := ?_) rfl (by kernel_rfl) (by kernel_rfl) (by kernel_rfl) (fun _ _ _ h => h) (Or.inl ⟨by rfl, ?_⟩) hH ?_
          case refine_2 => intro w hSw; go_simp; try with_reducible rfl
          try simp only [Z1, Z2, Z3, Z4, Z5, Z6, Z7]
          refine wpAnyH_take (i := 12) (v := ?_) rfl (by kernel_rfl) (by kernel_rfl) (by kernel_rfl) (fun _ _ _ h => h) (Or.inl ⟨by rfl, ?_⟩) hH ?_
          case refine_2 => intro w hSw; have hSw := hSw.2; replace hSw : Blk w _ 53 (#[.int .u64 (term : Int), .int .i64 vote, .int .u64 (base : Int), .int .u64 (bT : Int), .slice TA l2.length tc]) := hSw; have n4 : w.cell? ⟨_, 4, none⟩ = some (.slice TA l2.length tc) := Blk.cell hSw 4; clear hSw; go_simp; try with_reducible rfl
          try simp only [Z1, Z2, Z3, Z4, Z5, Z6, Z7]
          refine wpAnyH_take (i := 13) (v := ?_) rfl (by kernel_rfl) (by kernel_rfl) (by kernel_rfl) (fun _ _ _ h => h) (Or.inl ⟨by rfl, ?_⟩) hH ?_
          case refine_2 => intro w hSw; go_simp; try with_reducible rfl
          try simp only [Z1, Z2, Z3, Z4, Z5, Z6, Z7]
          refine wpAnyH_take (i := 14) (v := ?_) rfl (by kernel_rfl) (by kernel_rfl) (by kernel_rfl) (fun _ _ _ h => h) (Or.inl ⟨by rfl, ?_⟩) hH ?_
          case refine_2 => intro w hSw; go_simp; try with_reducible rfl
          try simp only [Z1, Z2, Z3, Z4, Z5, Z6, Z7]
          refine wpAnyH_take (i := 15) (v := ?_) rfl (by kernel_rfl) (by kernel_rfl) (by kernel_rfl) (fun _ _ _ h => h) (Or.inl ⟨by rfl, ?_⟩) hH ?_
          case refine_2 => intro w hSw; go_simp; try with_reducible rfl
          try simp only [Z1, Z2, Z3, Z4, Z5, Z6, Z7]
          refine wpAnyH_ready (rs := [8]) (by kernel_rfl) (by simp) ?_
          refine AllReadyH.cons rfl (fun K hK => ?_) AllReadyH.nil
          go_simp
          refine (T1.out wr.drew kS.1).mono ?_
          rintro en w7 ⟨rfl, q7, hw7⟩
          have HW7 := Lib.hid hw7
          have k7 : Blk w7 g 48 (nodeC (.slice Al d0.log.length ec) V0 M0 X0 d0) ∧ Blk w7 w.heap.size 53 #[.int .u64 (term : Int), .int .i64 vote, .int .u64 (base : Int), .int .u64 (bT : Int), .slice TA l2.length tc] := by rw [hw7]; exact ⟨kS.1, kS.2⟩
          clear hw7
          clear hH
          refine hK.out _ _ k7 (fun hH => ?_)
          clear hK K
          try dsimp only
          try simp only [Z1, Z2, Z3, Z4, Z5, Z6, Z7]
          refine wpAnyH_take (i := 16) (v := ?_) rfl (by kernel_rfl) (by kernel_rfl) (by kernel_rfl) (fun _ _ _ h => h) (Or.inl ⟨by rfl, ?_⟩) hH ?_
          case refine_2 => intro w hSw; go_simp; try with_reducible rfl
          try simp only [Z1, Z2, Z3, Z4, Z5, Z6, Z7]
          refine wpAnyH_take (i := 17) (v := ?_) rfl (by kernel_rfl) (by kernel_rfl) (by kernel_rfl) (fun _ _ _ h => h) (Or.inl ⟨by rfl, ?_⟩) hH ?_
          case refine_2 => intro w hSw; go_simp; try with_reducible rfl
          try simp only [Z1, Z2, Z3, Z4, Z5, Z6, Z7]
          refine wpAnyH_take (i := 18) (v := ?_) rfl (by kernel_rfl) (by kernel_rfl) (by kernel_rfl) (fun _ _ _ h => h) (Or.inl ⟨by rfl, ?_⟩) hH ?_
          case refine_2 => intro w hSw; go_simp; try with_reducible rfl
          try simp only [Z1, Z2, Z3, Z4, Z5, Z6, Z7]
          refine wpAnyH_take (i := 19) (v := ?_) rfl (by kernel_rfl) (by kernel_rfl) (by kernel_rfl) (fun _ _ _ h => h) (Or.inl ⟨by rfl, ?_⟩) hH ?_
          case refine_2 => intro w hSw; go_simp; try with_reducible rfl
          try simp only [Z1, Z2, Z3, Z4, Z5, Z6, Z7]
          refine wpAnyH_take (i := 21) (v := ?_) rfl (by kernel_rfl) (by kernel_rfl) (by kernel_rfl) (fun _ _ _ h => h) (Or.inl ⟨by rfl, ?_⟩) hH ?_
          case refine_2 => intro w hSw; go_simp; try with_reducible rfl
          try simp only [Z1, Z2, Z3, Z4, Z5, Z6, Z7]
          refine wpAnyH_take (i := 22) (v := ?_) rfl (by kernel_rfl) (by kernel_rfl) (by kernel_rfl) (fun _ _ _ h => h) (Or.inl ⟨by rfl, ?_⟩) hH ?_
          case refine_2 => intro w hSw; have hSw := hSw.2; replace hSw : Blk w _ 53 (#[.int .u64 (term : Int), .int .i64 vote, .int .u64 (base : Int), .int .u64 (bT : Int), .slice TA l2.length tc]) := hSw; have n2 : w.cell? ⟨_, 2, none⟩ = some (.int .u64 (base : Int)) := Blk.cell hSw 2; clear hSw; go_simp; try with_reducible rfl
          try simp only [Z1, Z2, Z3, Z4, Z5, Z6, Z7]
          refine wpAnyH_ready (rs := [20]) (by kernel_rfl) (by simp) ?_
          refine AllReadyH.cons rfl (fun K hK => ?_) AllReadyH.nil
          go_simp
          refine (T2.out w7 k7.1).mono ?_
          rintro en w8 ⟨rfl, hw8⟩
          replace hw8 := hw8.symm
          subst hw8
          clear hH
          refine hK.out _ _ k7 (fun hH => ?_)
          clear hK K
          try dsimp only
          try simp only [Z1, Z2, Z3, Z4, Z5, Z6, Z7]
          refine wpAnyH_take (i := 23) (v := ?_) rfl (by kernel_rfl) (by kernel_rfl) (by kernel_rfl) (fun _ _ _ h => h) (Or.inl ⟨by rfl, ?_⟩) hH ?_
          case refine_2 => intro w hSw; go_simp; try with_reducible rfl
          try simp only [Z1, Z2, Z3, Z4, Z5, Z6, Z7]
          refine wpAnyH_take (i := 24) (v := ?_) rfl (by kernel_rfl) (by kernel_rfl) (by kernel_rfl) (fun _ _ _ h => h) (Or.inl ⟨by rfl, ?_⟩) hH ?_
          case refine_2 => intro w hSw; go_simp; try with_reducible rfl
          try simp only [Z1, Z2, Z3, Z4, Z5, Z6, Z7]
          refine wpAnyH_done (by kernel_rfl) ?_ _
          refine NoPanic.normal ?_
          clear hH
          have b57 : Below wr.heap.size wr w7 := by rw [HW7.out]; exact below_drewN ((Below.refl _ _).drew) _
          have D7 : ND w7 g (fun b => b < w4.heap.size) d0 := ⟨_, _, _, _, _, hNA.below b57, hF0⟩
          have b7 := below_step b5 b57
          clear hNA hF0 kS k7 T1 T2 HW7 RB0 v1 v2 b57 b5 kF5
          go_wp2_with fail
          go_meet
          case rel => exact ⟨rfl, D7, b7⟩
        case rest =>
        as_aux_lemma =>
        obtain ⟨rfl, D7, b7⟩ := hcut
        clear hNA hF0 T1 T2 RB0 v1 v2 b5 kF5
        replace D7 : ND wc g (fun b => b < w.heap.size) d0 := D7.mono (fun b h => by show b < w4.heap.size; omega)
        clear z3 lF3 z5 hk hlt hg4 HNO
        go_wp2_with fail
        go_loopw [13] (fun v13 wr => ∃ (i : Nat) (d : LNode), i ≤ ns.length ∧ i ≤ 40 ∧ v13 = .int .i64 (i : Int) ∧ NI nn (30 + 31 * i) d ∧ ND wr g (fun b => b < w.heap.size) d ∧ Below w.heap.size w wr) (fun v13 _ => 40 - (intOf v13).toNat)
        case atStart => exact ⟨0, d0, Nat.zero_le _, by decide, rfl, NI0, D7, b7⟩
        case round =>
          clear D7 b7 NI0 d0
          generalize wr = wo at *
          as_aux_lemma =>
          obtain ⟨i, d, hi1, hi2, rfl, NId, D, br⟩ := hrel
          by_cases hlt : i < ns.length
          · by_cases h40 : i < 40
            · have h40i : (i : Int) < 40 := by omega
              have hKi : 30 + 31 * i + 31 ≤ 2000 := by omega
              have RBd := NId.rb (by omega)
              obtain ⟨ad, P9, c9, rfl, e0, e1, e2, e3, e4, e5, e6, e7, e8, hok⟩ := NoteE.at_ (hN.below br) hlt
              generalize ns[i] = x at *
              have T := msg_any x.kind x.frm x.dst x.term x.index x.logTerm x.commit x.ok P9 x.terms c9 wo hok.terms hok.len
              go_wp2_with fail
              refine T.mono ?_
              clear T e0 e1 e2 e3 e4 e5 e6 e7 e8
              rintro en y2 ⟨Am, cm, Le, rfl, HLe, oL, b2⟩
              as_aux_lemma =>
              have hLel : Le.length ≤ 1048576 := by rw [← List.length_map LEnt.term, HLe]; exact hok.len
              have hM0 : MsgAt y2 (fun b => wo.heap.size ≤ b ∧ b < y2.heap.size) Am cm { kind := x.kind, frm := x.frm, dst := x.dst, term := x.term, index := x.index, logTerm := x.logTerm, commit := x.commit, ents := Le, ok := x.ok } := ⟨(oL.slS (S' := fun b => wo.heap.size ≤ b) rfl (by simp only [EntE]; omega) (fun b h => h) (fun b h => h)).mono (fun b h1 h2 => ⟨h2, h1⟩), oL.caps, hok.term, hok.index, hok.logTerm, hok.commit⟩
              have km0 := Blk.new y2 58 #[.int .i64 x.kind, .int .i64 x.frm, .int .i64 x.dst, .int .u64 (x.term : Int), .int .u64 (x.index : Int), .int .u64 (x.logTerm : Int), .int .u64 (x.commit : Int), .slice Am Le.length cm, .bool x.ok, .slice none 0 0]
              have d3 : Below y2.heap.size y2 (y2.alloc (.cells #[.int .i64 x.kind, .int .i64 x.frm, .int .i64 x.dst, .int .u64 (x.term : Int), .int .u64 (x.index : Int), .int .u64 (x.logTerm : Int), .int .u64 (x.commit : Int), .slice Am Le.length cm, .bool x.ok, .slice none 0 0] 58)) := (Below.refl _ _).alloc (Nat.le_refl _) _
              clear HLe oL
              go_upto_region 25 with fail
              change Code.wp _ _ _ _ (y2.alloc (.cells #[.int .i64 x.kind, .int .i64 x.frm, .int .i64 x.dst, .int .u64 (x.term : Int), .int .u64 (x.index : Int), .int .u64 (x.logTerm : Int), .int .u64 (x.commit : Int), .slice Am Le.length cm, .bool x.ok, .slice none 0 0] 58))
              generalize (y2.alloc (.cells #[.int .i64 x.kind, .int .i64 x.frm, .int .i64 x.dst, .int .u64 (x.term : Int), .int .u64 (x.index : Int), .int .u64 (x.logTerm : Int), .int .u64 (x.commit : Int), .slice Am Le.length cm, .bool x.ok, .slice none 0 0] 58)) = y3 at *
              have hM3 := hM0.below d3
              have b3 := below_step b2 d3
              have z2 := b2.size
              have lm := km0.lt
              clear hM0 b2 d3
              have s7 : y3.cell? ⟨y2.heap.size, 7, none⟩ = some (.slice Am Le.length cm) := km0.cell 7
              have f7 : y3.frozen? ⟨y2.heap.size, 7, none⟩ = false := km0.frozen 7
              have HG : Hid ((decide (30 < (Le.length : Int)) = true → 30 < Le.length) ∧ (decide (30 < (Le.length : Int)) = false → Le.length ≤ 30)) := ⟨fun h => by have := of_decide_eq_true h; omega, fun h => by have := of_decide_eq_false h; omega⟩
              go_upto_if 149 with fail
              generalize decide (30 < (Le.length : Int)) = ge at *
              go_cut [149] from 131 to 153 (fun _ wx => ∃ m : LMsg, m.ents.length ≤ 30 ∧ MsgAt wx (fun b => wo.heap.size ≤ b ∧ b < y2.heap.size) Am cm m ∧ Blk wx y2.heap.size 58 #[.int .i64 m.kind, .int .i64 m.frm, .int .i64 m.dst, .int .u64 (m.term : Int), .int .u64 (m.index : Int), .int .u64 (m.logTerm : Int), .int .u64 (m.commit : Int), .slice Am m.ents.length cm, .bool m.ok, .slice none 0 0] ∧ Below wo.heap.size wo wx)
              case first =>
                cases ge with
                | true =>
                  have h1 := HG.out.1 rfl
                  have hcap := hM3.cap
                  have hcap : Le.length ≤ cm ∧ cm ≤ 9223372036854775807 := hcap
                  have h30i : (30 : Int) ≤ (cm : Int) := by omega
                  have h2 : (Le.take 30).length = 30 := by rw [List.length_take]; omega
                  have HE := Lib.hid h2
                  have g9 : y3.grownBy (y3.setCell ⟨y2.heap.size, 7, none⟩ (.slice Am 30 cm)) (some y2.heap.size) := only_setCell (only_of_below (Below.refl _ _) (some y2.heap.size)) (.inl rfl) _
                  have b39 : Below y2.heap.size y3 (y3.setCell ⟨y2.heap.size, 7, none⟩ (.slice Am 30 cm)) := (Below.refl _ _).grown g9 (Nat.le_of_lt lm) (fun b e => by have := Option.some.inj e; omega)
                  clear HG h2
                  go_wp2_with fail
                  go_meet
                  case rel =>
                    refine ⟨{ kind := x.kind, frm := x.frm, dst := x.dst, term := x.term, index := x.index, logTerm := x.logTerm, commit := x.commit, ents := Le.take 30, ok := x.ok }, Nat.le_of_eq HE.out, ?_, ?_, b3.grown g9 b3.size (fun b e => by have := Option.some.inj e; omega)⟩
                    · exact ⟨(hM3.ents.take 30 (Nat.le_of_lt h1)).setCell (fun h => Nat.lt_irrefl _ h.2) _, ⟨Nat.le_trans (Nat.le_of_eq HE.out) (by omega), hcap.2⟩, hM3.term, hM3.index, hM3.logTerm, hM3.commit⟩
                    · show Blk _ _ _ #[.int .i64 x.kind, .int .i64 x.frm, .int .i64 x.dst, .int .u64 (x.term : Int), .int .u64 (x.index : Int), .int .u64 (x.logTerm : Int), .int .u64 (x.commit : Int), .slice Am (Le.take 30).length cm, .bool x.ok, .slice none 0 0]
                      rw [HE.out]
                      exact km0.set_ 7 _
                | false =>
                  have h1 := HG.out.2 rfl
                  clear HG
                  go_wp2_with fail
                  go_meet
                  case rel => exact ⟨{ kind := x.kind, frm := x.frm, dst := x.dst, term := x.term, index := x.index, logTerm := x.logTerm, commit := x.commit, ents := Le, ok := x.ok }, h1, hM3, km0, b3⟩
              case rest =>
              as_aux_lemma =>
              obtain ⟨m, hml, hM4, km, b4⟩ := hcut
              generalize wc = y4 at *
              have D4 := D.new b4
              have lm4 := km.lt
              clear hM3 km0 b3 s7 f7 HG hok lm D
              obtain ⟨S5, E5, V5, M5, X5, hNA, hF5⟩ := D4
              obtain ⟨Ay, ey, rfl⟩ := hNA.log.shape
              have TC := Lib.hid (fun (wz : World) (h : Blk wz g 48 (nodeC (.slice Ay d.log.length ey) V5 M5 X5 d)) => commitk_any g (.slice Ay d.log.length ey) V5 M5 X5 d wz h)
              go_upto_region 27 with fail
              have kS := hNA.blk.drew
              refine wp_region_noPanic ?_
              refine wp_region_held_drew (S := fun Y => Blk Y g 48 (nodeC (.slice Ay d.log.length ey) V5 M5 X5 d)) (by kernel_rfl) kS (fun hH => ?_)
              refine wpAnyH_take (i := 0) (v := ?_) rfl (by kernel_rfl) (by kernel_rfl) (by kernel_rfl) (fun _ _ _ h => h) (Or.inl ⟨by rfl, ?_⟩) hH ?_
              case refine_2 => intro w hSw; go_simp; try with_reducible rfl
              try simp only [Z1, Z2, Z4, Z5, Z6, Z7]
              refine wpAnyH_take (i := 1) (v := ?_) rfl (by kernel_rfl) (by kernel_rfl) (by kernel_rfl) (fun _ _ _ h => h) (Or.inl ⟨by rfl, ?_⟩) hH ?_
              case refine_2 => intro w hSw; go_simp; try with_reducible rfl
              try simp only [Z1, Z2, Z3, Z4, Z5, Z6, Z7]
              refine wpAnyH_take (i := 2) (v := ?_) rfl (by kernel_rfl) (by kernel_rfl) (by kernel_rfl) (fun _ _ _ h => h) (Or.inl ⟨by rfl, ?_⟩) hH ?_
              case refine_2 => intro w hSw; go_simp; try with_reducible rfl
              try simp only [Z1, Z2, Z3, Z4, Z5, Z6, Z7]
              refine wpAnyH_take (i := 3) (v := ?_) rfl (by kernel_rfl) (by kernel_rfl) (by kernel_rfl) (fun _ _ _ h => h) (Or.inl ⟨by rfl, ?_⟩) hH ?_
              case refine_2 => intro w hSw; go_simp; try with_reducible rfl
              try simp only [Z1, Z2, Z3, Z4, Z5, Z6, Z7]
              refine wpAnyH_take (i := 4) (v := ?_) rfl (by kernel_rfl) (by kernel_rfl) (by kernel_rfl) (fun _ _ _ h => h) (Or.inl ⟨by rfl, ?_⟩) hH ?_
              case refine_2 => intro w hSw; go_simp; try with_reducible rfl
              try simp only [Z1, Z2, Z3, Z4, Z5, Z6, Z7]
              refine wpAnyH_take (i := 5) (v := ?_) rfl (by kernel_rfl) (by kernel_rfl) (by kernel_rfl) (fun _ _ _ h => h) (Or.inl ⟨by rfl, ?_⟩) hH ?_
              case refine_2 => intro w hSw; replace hSw : Blk w g 48 (nodeC (.slice Ay d.log.length ey) V5 M5 X5 d) := hSw; have n0 : w.cell? ⟨_, 0, none⟩ = some (.int .u64 (d.term : Int)) := Blk.cell hSw 0; clear hSw; go_simp; try with_reducible rfl
              try simp only [Z1, Z2, Z3, Z4, Z5, Z6, Z7]
              refine wpAnyH_take (i := 6) (v := ?_) rfl (by kernel_rfl) (by kernel_rfl) (by kernel_rfl) (fun _ _ _ h => h) (Or.inl ⟨by rfl, ?_⟩) hH ?_
              case refine_2 => intro w hSw; go_simp; try with_reducible rfl
              try simp only [Z1, Z2, Z3, Z4, Z5, Z6, Z7]
              refine wpAnyH_take (i := 8) (v := ?_) rfl (by kernel_rfl) (by kernel_rfl) (by kernel_rfl) (fun _ _ _ h => h) (Or.inl ⟨by rfl, ?_⟩) hH ?_
              case refine_2 => intro w hSw; go_simp; try with_reducible rfl
              try simp only [Z1, Z2, Z3, Z4, Z5, Z6, Z7]
              refine wpAnyH_take (i := 9) (v := ?_) rfl (by kernel_rfl) (by kernel_rfl) (by kernel_rfl) (fun _ _ _ h => h) (Or.inl ⟨by rfl, ?_⟩) hH ?_
              case refine_2 => intro w hSw; go_simp; try with_reducible rfl
              try simp only [Z1, Z2, Z3, Z4, Z5, Z6, Z7]
              refine wpAnyH_take (i := 10) (v := ?_) rfl (by kernel_rfl) (by kernel_rfl) (by kernel_rfl) (fun _ _ _ h => h) (Or.inl ⟨by rfl, ?_⟩) hH ?_
              case refine_2 => intro w hSw; go_simp; try with_reducible rfl
              try simp only [Z1, Z2, Z3, Z4, Z5, Z6, Z7]
              refine wpAnyH_take (i := 11) (v := ?_) rfl (by kernel_rfl) (by kernel_rfl) (by kernel_rfl) (fun _ _ _ h => h) (Or.inl ⟨by rfl, ?_⟩) hH ?_
              case refine_2 => intro w hSw; go_simp; try with_reducible rfl
              try simp only [Z1, Z2, Z3, Z4, Z5, Z6, Z7]
              refine wpAnyH_take (i := 12) (v := ?_) rfl (by kernel_rfl) (by kernel_rfl) (by kernel_rfl) (fun _ _ _ h => h) (Or.inl ⟨by rfl, ?_⟩) hH ?_
              case refine_2 => intro w hSw; go_simp; try with_reducible rfl
              try simp only [Z1, Z2, Z3, Z4, Z5, Z6, Z7]
              refine wpAnyH_take (i := 13) (v := ?_) rfl (by kernel_rfl) (by kernel_rfl) (by kernel_rfl) (fun _ _ _ h => h) (Or.inl ⟨by rfl, ?_⟩) hH ?_
              case refine_2 => intro w hSw; replace hSw : Blk w g 48 (nodeC (.slice Ay d.log.length ey) V5 M5 X5 d) := hSw; have n1 : w.cell? ⟨_, 1, none⟩ = some (.int .i64 d.vote) := Blk.cell hSw 1; clear hSw; go_simp; try with_reducible rfl
              try simp only [Z1, Z2, Z3, Z4, Z5, Z6, Z7]
              refine wpAnyH_ready (rs := [7]) (by kernel_rfl) (by simp) ?_
              refine AllReadyH.cons rfl (fun K hK => ?_) AllReadyH.nil
              go_simp
              refine (TC.out y4.drew kS).mono ?_
              rintro en w8 ⟨rfl, hw8⟩
              replace hw8 := hw8.symm
              subst hw8
              clear hH
              refine hK.out _ _ kS (fun hH => ?_)
              clear hK K
              try dsimp only
              try simp only [Z1, Z2, Z3, Z4, Z5, Z6, Z7]
              refine wpAnyH_take (i := 14) (v := ?_) rfl (by kernel_rfl) (by kernel_rfl) (by kernel_rfl) (fun _ _ _ h => h) (Or.inl ⟨by rfl, ?_⟩) hH ?_
              case refine_2 => intro w hSw; go_simp; try with_reducible rfl
              try simp only [Z1, Z2, Z3, Z4, Z5, Z6, Z7]
              refine wpAnyH_take (i := 15) (v := ?_) rfl (by kernel_rfl) (by kernel_rfl) (by kernel_rfl) (fun _ _ _ h => h) (Or.inl ⟨by rfl, ?_⟩) hH ?_
              case refine_2 => intro w hSw; go_simp; try with_reducible rfl
              try simp only [Z1, Z2, Z3, Z4, Z5, Z6, Z7]
              refine wpAnyH_take (i := 16) (v := ?_) rfl (by kernel_rfl) (by kernel_rfl) (by kernel_rfl) (fun _ _ _ h => h) (Or.inl ⟨by rfl, ?_⟩) hH ?_
              case refine_2 => intro w hSw; go_simp; try with_reducible rfl
              try simp only [Z1, Z2, Z3, Z4, Z5, Z6, Z7]
              refine wpAnyH_done (by kernel_rfl) ?_ _
              refine NoPanic.normal ?_
              clear hH
              as_aux_lemma =>
              have b5 : Below y4.heap.size y4 y4.drew := (Below.refl _ _).drew
              have hNA5 := hNA.below b5
              have hM5 := hM4.below b5
              have km5 := km.below b5 lm4
              have b05 := below_step b4 b5
              clear hNA hM4 km b5 kS TC b4
              generalize y4.drew = y5 at *
              have TW := wants_any g S5 _ (.slice Ay d.log.length ey) V5 M5 X5 d Am cm m y5 hNA5 hM5 RBd.gb (by omega)
              replace TW : Calls Try.prog 19 #[.pointer (some ⟨g, 0, none⟩), .agg #[.int .i64 m.kind, .int .i64 m.frm, .int .i64 m.dst, .int .u64 (m.term : Int), .int .u64 (m.index : Int), .int .u64 (m.logTerm : Int), .int .u64 (m.commit : Int), .slice Am m.ents.length cm, .bool m.ok, .slice none 0 0]] y5 _ := TW
              obtain ⟨wb, hwb⟩ : ∃ wb, wb = wantsP d m := ⟨_, rfl⟩
              rw [← hwb] at TW
              have HWB := Lib.hid hwb
              clear hwb
              go_wp2_with ((with_reducible refine wpList_load_blk rfl 58 (.tmp 14) rfl y2.heap.size ?_ 58 _ _ km5 Try.underlying58 ?_ Try.size_Msg ?_ ?_); rfl; rfl; rfl)
              refine TW.mono ?_
              clear TW
              rintro en y6 ⟨rfl, b6⟩
              as_aux_lemma =>
              have D6 : ND y6 g (fun b => b < w.heap.size ∨ wo.heap.size ≤ b) d := ⟨_, _, _, _, _, hNA5.below b6, hF5⟩
              have hM6 := hM5.below b6
              have km6 := km5.below b6 km5.lt
              have b06 := below_step b05 b6
              clear hNA5 hF5 hM5 km5 b05 b6
              have TS := step_any g (fun b => b < w.heap.size ∨ wo.heap.size ≤ b) d Am cm m y6 D6 (hM6.mono (fun b _ h => .inr h.1)) RBd (by have := NId.len; omega) (by have := NId.len; omega)
              replace TS : Calls Try.prog 20 #[.pointer (some ⟨g, 0, none⟩), .agg #[.int .i64 m.kind, .int .i64 m.frm, .int .i64 m.dst, .int .u64 (m.term : Int), .int .u64 (m.index : Int), .int .u64 (m.logTerm : Int), .int .u64 (m.commit : Int), .slice Am m.ents.length cm, .bool m.ok, .slice none 0 0]] y6 _ := TS
              go_wp2_with ((with_reducible refine wpList_load_blk rfl 58 (.tmp 14) rfl y2.heap.size ?_ 58 _ _ km6 Try.underlying58 ?_ Try.size_Msg ?_ ?_); rfl; rfl; rfl)
              obtain ⟨r1, hr1⟩ : ∃ r1, r1 = stepP d m := ⟨_, rfl⟩
              rw [← hr1] at TS
              have HR1 := Lib.hid hr1
              clear hr1
              obtain ⟨d1, ms⟩ := r1
              replace TS := (TS.mono (fun _ _ ⟨A, c, k0, h1, h2, h3, h4, h5⟩ => (⟨A, c, k0, h1, h2, h3, h4, h5⟩ : ∃ (A : Option Addr) (c k0 : Nat), _ = Ending.returned (.slice A ms.length c) ∧ y6.heap.size ≤ k0 ∧ Own MsgE 58 _ k0 (fun b => k0 ≤ b) (.slice A ms.length c) ms ∧ ND _ g (fun b => ((b < w.heap.size ∨ wo.heap.size ≤ b) ∧ b < y6.heap.size) ∨ k0 ≤ b) d1 ∧ BlP (fun b => b < w.heap.size ∨ wo.heap.size ≤ b) y6 _)))
              refine TS.mono ?_
              clear TS D6 hM6
              rintro en y7 ⟨A7, c7, k7, rfl, hk7, o7, D7, B7⟩
              as_aux_lemma =>
              have km7 := B7.blk km6 (.inr z2)
              have b07 : Below w.heap.size w y7 := B7.low (below_step br b06) (by have := br.size; have := b06.size; omega) (fun b h => .inl h)
              have lm7 : y2.heap.size < y6.heap.size := km6.lt
              have lm7m : y2.heap.size < y7.heap.size := km7.lt
              have zwo := br.size
              have zo6 := b06.size
              clear km6 b06 B7
              go_upto_if 176 with fail
              generalize ((i : Int) % 3 == 0) = tk at *
              have SK := step_ok NId hml (by omega)
              have hln := step_len d m (by rw [NId.hn]; exact NId.n1)
              rw [← HR1.out] at SK hln
              rw [NId.hn] at hln
              replace hln : ms.length ≤ nn := hln
              have NI1 : NI nn (30 + 31 * i + 30) d1 := SK.1
              clear SK
              go_cut [19] from 131 to 182 (fun v19 wx => ∃ (A : Option Addr) (c : Nat) (d2 : LNode) (ms2 : List LMsg), v19 = .slice A ms2.length c ∧ Hid ((d2, ms2) = roundP d m tk) ∧ SlS MsgE wx Any A ms2 ∧ ND wx g (fun b => b < w.heap.size ∨ b = y2.heap.size) d2 ∧ Blk wx y2.heap.size 58 #[.int .i64 m.kind, .int .i64 m.frm, .int .i64 m.dst, .int .u64 (m.term : Int), .int .u64 (m.index : Int), .int .u64 (m.logTerm : Int), .int .u64 (m.commit : Int), .slice Am m.ents.length cm, .bool m.ok, .slice none 0 0] ∧ Below w.heap.size w wx)
              case first =>
                cases tk with
                | false =>
                  have HE : Hid ((d1, ms) = roundP d m false) := HR1.out
                  clear HR1 HWB
                  go_wp2_with fail
                  go_meet
                  case rel => exact ⟨A7, c7, d1, ms, rfl, HE, o7.slS rfl (by simp only [MsgE]; omega) (fun _ _ => trivial) (fun _ _ => trivial), D7.mono (fun b h => .inl (by rcases h with h | rfl; exact ⟨.inl h, by omega⟩; exact ⟨.inr z2, lm7⟩)), km7, b07⟩
                | true =>
                  as_aux_lemma =>
                  obtain ⟨KK, hK1, hK2, hK3⟩ : ∃ KK, KK ≤ k7 ∧ KK ≤ y7.heap.size ∧ (∀ b, KK ≤ b → k7 ≤ b ∨ y7.heap.size ≤ b) := ⟨min k7 y7.heap.size, Nat.min_le_left _ _, Nat.min_le_right _ _, fun b h => by omega⟩
                  have kE := Blk.new y7 58 #[]
                  have q8 : Below y7.heap.size y7 (y7.alloc (.cells #[] 58)) := (Below.refl _ _).alloc (Nat.le_refl _) _
                  have oE : Own MsgE 58 (y7.alloc (.cells #[] 58)) y7.heap.size (fun b => KK ≤ b ∧ b < y7.heap.size) (.slice (some ⟨y7.heap.size, 0, none⟩) 0 0) [] := Own.empty MsgE kE (Nat.le_refl _)
                  have lE := Own.lt oE
                  have S7 : SlS MsgE y7 (fun b => KK ≤ b ∧ b < y7.heap.size) A7 ms := (o7.slS (S' := fun b => KK ≤ b) rfl (by simp only [MsgE]; omega) (fun b h => Nat.le_trans hK1 h) (fun b h => Nat.le_trans hK1 h)).mono (fun b h1 h2 => ⟨h2, h1⟩)
                  obtain ⟨us, hru, hfl⟩ := (S7.below q8).parts
                  have hrep := ER.flat_mono (S' := fun b => (KK ≤ b ∧ b < y7.heap.size) ∧ (Value.slice (some ⟨y7.heap.size, 0, none⟩) ([] : List LMsg).length 0).ownBlock ≠ some b) (fun b _ hb => ⟨hb, fun e => by have := (lE b e).1; omega⟩) hfl
                  have D8 := D7.new q8
                  have km8 := km7.below q8 lm7m
                  have b08 := below_step b07 q8
                  have zz7 := b07.size
                  have zq8 := q8.size
                  clear kE S7 hfl D7 km7 o7 HWB
                  have HL1 := Lib.hid (show (([] : List LMsg).length + ms.length) * MsgE.bytes ≤ 140737488355328 by simp only [MsgE, List.length_nil]; omega)
                  have HL2 := Lib.hid (show ([] : List LMsg).length + ms.length ≤ maxLen by simp only [maxLen, List.length_nil]; omega)
                  go_wp2_with (at_builtin; refine wpList_appS MsgE y7.heap.size _ rfl (.tmp 177) (.tmp 178) 58 34 rfl i0 _ Try.underlying34 hi0 hz0 hz1 hz2 rfl (fun b => KK ≤ b ∧ b < y7.heap.size) _ [] 0 rfl oE A7 ms c7 rfl us hru hrep HL1.out HL2.out zq8 ?_; intro A9 c9 xs9 y9 H9 o9 g9 t9)
                  have HX9 : Hid (xs9 = ms) := by show _ = _; rw [H9.out, List.nil_append]
                  have D9 : ND y9 g (fun b => (b < w.heap.size ∨ b = y2.heap.size) ∨ KK ≤ b) d1 := (D8.grown g9 (fun b e => .inr (lE b e).1)).mono (fun b h => by
                    rcases h with (h | rfl) | h
                    · exact .inl (.inl ⟨.inl h, by omega⟩)
                    · exact .inl (.inl ⟨.inr z2, by omega⟩)
                    · rcases hK3 b h with h | h
                      · exact .inl (.inr h)
                      · exact .inr h)
                  have km9 := km8.grown g9 (fun e => by have := (lE _ e.symm).1; omega)
                  have b09 := b08.grown g9 b08.size (fun b e => by have := (lE b e).1; omega)
                  have z9 := g9.size
                  clear oE us hru hrep D8 km8 b08 H9 t9
                  have RB1 := NI1.rb (by omega)
                  have ck1 := NI1.ck
                  have lim1 := NI1.lim
                  have TT := tick_any g (fun b => (b < w.heap.size ∨ b = y2.heap.size) ∨ KK ≤ b) d1 y9 D9 RB1.gb (by have := NI1.len; omega) RB1.n1 RB1.n5 RB1.id (fun e => (RB1.r3 e).2) ck1.1 (by omega) (by omega) (by omega)
                  obtain ⟨r2, hr2⟩ : ∃ r2, r2 = tickG d1 := ⟨_, rfl⟩
                  have hl2 := tick_len d1
                  rw [← hr2] at TT hl2
                  rw [NI1.hn] at hl2
                  have HR3 := Lib.hid hr2
                  clear hr2
                  obtain ⟨d2, mt⟩ := r2
                  replace hl2 : mt.length ≤ nn := hl2
                  replace TT := (TT.mono (fun _ _ ⟨A, c, k0, h1, h2, h3, h4, h5⟩ => (⟨A, c, k0, h1, h2, h3, h4, h5⟩ : ∃ (A : Option Addr) (c k0 : Nat), _ = Ending.returned (.slice A mt.length c) ∧ y9.heap.size ≤ k0 ∧ Own MsgE 58 _ k0 (fun b => k0 ≤ b) (.slice A mt.length c) mt ∧ ND _ g (fun b => (((b < w.heap.size ∨ b = y2.heap.size) ∨ KK ≤ b) ∧ b < y9.heap.size) ∨ k0 ≤ b) d2 ∧ BlP (fun b => (b < w.heap.size ∨ b = y2.heap.size) ∨ KK ≤ b) y9 _)))
                  clear D9
                  go_wp2_with fail
                  refine TT.mono ?_
                  clear TT
                  rintro en y10 ⟨A10, c10, k10, rfl, hk10, o10, D10, B10⟩
                  have l9 := Own.lt o9
                  have o9k := o9.keepS (fun b e => B10.block b (l9 b e).2 (.inr (by have := (l9 b e).1; omega))) ⟨B10.size, fun b hb hl => B10.block b hl (.inr hb.1)⟩
                  have o9m := o9k.mono (S' := fun b => (KK ≤ b ∧ b < y7.heap.size) ∨ k10 ≤ b) (fun b _ _ h => .inl h)
                  have km10 := B10.blk km9 (.inl (.inr rfl))
                  have b10 := B10.low b09 b09.size (fun b h => .inl (.inl h))
                  obtain ⟨us2, hru2, hfl2⟩ := (o10.slS (S' := fun b => k10 ≤ b) rfl (by simp only [MsgE]; omega) (fun b h => h) (fun b h => h)).parts
                  have hrep2 := ER.flat_mono (S' := fun b => ((KK ≤ b ∧ b < y7.heap.size) ∨ k10 ≤ b) ∧ (Value.slice A9 xs9.length c9).ownBlock ≠ some b) (fun b _ hb => ⟨.inr hb, fun e => by have := (l9 b e).2; omega⟩) hfl2
                  have zb10 := B10.size
                  have hx9l : xs9.length = ms.length := by rw [HX9.out]
                  have HL3 := Lib.hid (show (xs9.length + mt.length) * MsgE.bytes ≤ 140737488355328 by simp only [MsgE]; omega)
                  have HL4 := Lib.hid (show xs9.length + mt.length ≤ maxLen by simp only [maxLen]; omega)
                  have z710 : y7.heap.size ≤ y10.heap.size := by omega
                  clear o9 o9k km9 b09 o10 hfl2 B10 hx9l
                  go_wp2_with (at_builtin; refine wpList_appS MsgE y7.heap.size _ rfl (.tmp 179) (.tmp 181) 58 34 rfl i0 _ Try.underlying34 hi0 hz0 hz1 hz2 rfl (fun b => (KK ≤ b ∧ b < y7.heap.size) ∨ k10 ≤ b) A9 xs9 c9 rfl o9m A10 mt c10 rfl us2 hru2 hrep2 HL3.out HL4.out z710 ?_; intro A11 c11 xs11 y11 H11 o11 g11 t11)
                  go_meet
                  case rel =>
                    have hx11 : xs11 = ms ++ mt := by rw [H11.out, HX9.out]
                    refine ⟨A11, c11, d2, xs11, rfl, ?_, o11.slS rfl (by rw [hx11, List.length_append]; simp only [MsgE]; omega) (fun _ _ => trivial) (fun _ _ => trivial), (D10.grown g11 (fun b e => .inl ⟨.inr (by have := (l9 b e).1; omega), (l9 b e).2⟩)).mono (fun b h => .inl ⟨.inl h, by rcases h with h | rfl <;> omega⟩), km10.grown g11 (fun e => by have := (l9 _ e.symm).1; omega), b10.grown g11 b10.size (fun b e => by have := (l9 b e).1; omega)⟩
                    show (d2, xs11) = ((tickG (stepP d m).1).1, (stepP d m).2 ++ (tickG (stepP d m).1).2)
                    rw [← HR1.out]
                    show (d2, xs11) = ((tickG d1).1, ms ++ (tickG d1).2)
                    rw [← HR3.out, hx11]
              case rest =>
              as_aux_lemma =>
              obtain ⟨A8, c8, d2, ms2, rfl, HR2, hS8, D8, km8, b08⟩ := hcut
              generalize wc = y8 at *
              have RK := round_ok NId hml (by omega) tk
              rw [← HR2.out] at RK
              obtain ⟨⟨NI2, AF, OU⟩, WO⟩ := RK
              replace NI2 : NI nn (30 + 31 * i + 31) d2 := NI2
              replace AF : After d d2 := AF
              replace OU : Outs nn d2 ms2 := OU
              rw [← HWB.out] at WO
              replace WO : wb = true → d2.log = [] ∧ d2.base = m.index ∧ d2.baseTerm = m.logTerm ∧ m.index ≤ d2.commit := WO
              clear HR2 HWB HR1 o7 D7 km7 b07 NI1 hln lm7 lm7m hk7 zo6 lm4 z2
              have RB2 := NI2.rb (by omega)
              have LO := NI2.last_ok
              have e0 : fromR d2 0 = d2.log := LO.2.2.2.2
              have T := told_any g (fun b => b < w.heap.size ∨ b = y2.heap.size) d2 y8 D8 RB2.gb
              rw [e0] at T
              have hd2n := NI2.hn
              have hlen2 := NI2.len
              have hbas2 := NI2.bas
              have TF := Lib.hid (fun (A : Option Addr) (c : Nat) (S : Nat → Prop) (wz : World) (h : SlS EntE wz S A d2.log) => form_any nn d2 A d2.log c S wz h (by omega) NI2.ris NI2.v1 NI2.v2 NI2.c1 NI2.c2 (by omega))
              have t1 : ¬ d2.term < d.term := by have := AF.1; omega
              have t2 : ¬ d2.commit < d.commit := by have := AF.2.1; omega
              have AF3 := Lib.hid AF.2.2
              go_upto_region 32 with fail
              go_cut [227] from 183 to 227 (fun s wx => s = .bool false ∧ Below y8.heap.size y8 wx)
              case first =>
                as_aux_lemma =>
                by_cases ha : d2.term = d.term
                · have ha1 : ((d2.term : Int) == (d.term : Int)) = true := by rw [beq_iff_eq]; omega
                  by_cases hv : d.vote = -1
                  · have hv1 : (d.vote != -1) = false := by rw [bne_eq_false_iff_eq]; exact hv
                    clear ha hv
                    go_wp2_with fail
                    refine T.mono ?_
                    rintro en y9 ⟨A9, c9, rfl, o9, b9⟩
                    have S9 : SlS EntE y9 (fun b => y8.heap.size ≤ b) A9 d2.log := o9.slS rfl (by simp only [EntE]; omega) (fun b h => h) (fun b h => h)
                    have T3 := TF.out A9 c9 _ y9 S9
                    have D9 : ND y9 g (fun b => b < w.heap.size ∨ b = y2.heap.size) d2 := (D8.new b9).mono (fun b h => .inl h)
                    clear o9 S9
                    go_wp2_with fail
                    refine T3.mono ?_
                    rintro en y10 ⟨rfl, b10⟩
                    have D10 : ND y10 g (fun b => b < w.heap.size ∨ b = y2.heap.size) d2 := (D9.new b10).mono (fun b h => .inl h)
                    have T4 := commit_any D10
                    obtain ⟨S10, E10, V10, M10, X10, N10, _⟩ := D10
                    have n0 : y10.cell? ⟨g, 0, none⟩ = some (.int .u64 (d2.term : Int)) := N10.blk.cell 0
                    have n1 : y10.cell? ⟨g, 1, none⟩ = some (.int .i64 d2.vote) := N10.blk.cell 1
                    have bz := below_step b9 b10
                    clear D9 N10 b9 b10
                    go_wp2_with fail
                    refine T4.mono ?_
                    rintro en y11 ⟨rfl, hy⟩
                    replace hy := hy.symm
                    subst hy
                    go_wp2_with fail
                    go_meet
                    case rel => exact ⟨rfl, bz⟩
                  · have hv1 : (d.vote != -1) = true := by rw [bne_iff_ne]; exact hv
                    have hv2 : (d2.vote != d.vote) = false := by rw [bne_eq_false_iff_eq]; exact AF3.out ha hv
                    clear ha hv
                    go_wp2_with fail
                    refine T.mono ?_
                    rintro en y9 ⟨A9, c9, rfl, o9, b9⟩
                    have S9 : SlS EntE y9 (fun b => y8.heap.size ≤ b) A9 d2.log := o9.slS rfl (by simp only [EntE]; omega) (fun b h => h) (fun b h => h)
                    have T3 := TF.out A9 c9 _ y9 S9
                    have D9 : ND y9 g (fun b => b < w.heap.size ∨ b = y2.heap.size) d2 := (D8.new b9).mono (fun b h => .inl h)
                    clear o9 S9
                    go_wp2_with fail
                    refine T3.mono ?_
                    rintro en y10 ⟨rfl, b10⟩
                    have D10 : ND y10 g (fun b => b < w.heap.size ∨ b = y2.heap.size) d2 := (D9.new b10).mono (fun b h => .inl h)
                    have T4 := commit_any D10
                    obtain ⟨S10, E10, V10, M10, X10, N10, _⟩ := D10
                    have n0 : y10.cell? ⟨g, 0, none⟩ = some (.int .u64 (d2.term : Int)) := N10.blk.cell 0
                    have n1 : y10.cell? ⟨g, 1, none⟩ = some (.int .i64 d2.vote) := N10.blk.cell 1
                    have bz := below_step b9 b10
                    clear D9 N10 b9 b10
                    go_wp2_with fail
                    refine T4.mono ?_
                    rintro en y11 ⟨rfl, hy⟩
                    replace hy := hy.symm
                    subst hy
                    go_wp2_with fail
                    go_meet
                    case rel => exact ⟨rfl, bz⟩
                · have ha1 : ((d2.term : Int) == (d.term : Int)) = false := by rw [beq_eq_false_iff_ne]; omega
                  clear ha
                  go_wp2_with fail
                  refine T.mono ?_
                  rintro en y9 ⟨A9, c9, rfl, o9, b9⟩
                  have S9 : SlS EntE y9 (fun b => y8.heap.size ≤ b) A9 d2.log := o9.slS rfl (by simp only [EntE]; omega) (fun b h => h) (fun b h => h)
                  have T3 := TF.out A9 c9 _ y9 S9
                  have D9 : ND y9 g (fun b => b < w.heap.size ∨ b = y2.heap.size) d2 := (D8.new b9).mono (fun b h => .inl h)
                  clear o9 S9
                  go_wp2_with fail
                  refine T3.mono ?_
                  rintro en y10 ⟨rfl, b10⟩
                  have D10 : ND y10 g (fun b => b < w.heap.size ∨ b = y2.heap.size) d2 := (D9.new b10).mono (fun b h => .inl h)
                  have T4 := commit_any D10
                  obtain ⟨S10, E10, V10, M10, X10, N10, _⟩ := D10
                  have n0 : y10.cell? ⟨g, 0, none⟩ = some (.int .u64 (d2.term : Int)) := N10.blk.cell 0
                  have n1 : y10.cell? ⟨g, 1, none⟩ = some (.int .i64 d2.vote) := N10.blk.cell 1
                  have bz := below_step b9 b10
                  clear D9 N10 b9 b10
                  go_wp2_with fail
                  refine T4.mono ?_
                  rintro en y11 ⟨rfl, hy⟩
                  replace hy := hy.symm
                  subst hy
                  go_wp2_with fail
                  go_meet
                  case rel => exact ⟨rfl, bz⟩
              case rest =>
              as_aux_lemma =>
              obtain ⟨rfl, b89⟩ := hcut
              generalize wc = y9 at *
              have D9 : ND y9 g (fun b => b < w.heap.size ∨ b = y2.heap.size) d2 := (D8.new b89).mono (fun b h => .inl h)
              have km9 := km8.below b89 km8.lt
              have hS9 := hS8.below b89
              have b09 := below_step b08 b89
              have z8 := b08.size
              clear T TF t1 t2 AF3 D8 km8 hS8 b08 b89 e0
              go_upto_region 34 with fail
              go_cut [261] from 183 to 261 (fun s wx => s = .bool false ∧ Below y9.heap.size y9 wx)
              case first =>
                as_aux_lemma =>
                  cases wb with
                  | false =>
                    clear WO
                    refine wp_region_noPanic ?_
                    refine wp_region_held_drew (S := fun _ => True) (by kernel_rfl) trivial (fun hH => ?_)
                    refine wpAnyH_take (i := 0) (v := ?_) rfl (by kernel_rfl) (by kernel_rfl) (by kernel_rfl) (fun _ _ _ h => h) (Or.inl ⟨by rfl, ?_⟩) hH ?_
                    case refine_2 => intro w hSw; go_simp; try with_reducible rfl
                    try simp only [Z1, Z2, Z4, Z5, Z6, Z7]
                    refine wpAnyH_take (i := 1) (v := ?_) rfl (by kernel_rfl) (by kernel_rfl) (by kernel_rfl) (fun _ _ _ h => h) (Or.inl ⟨by rfl, ?_⟩) hH ?_
                    case refine_2 => intro w hSw; go_simp; try with_reducible rfl
                    try simp only [Z1, Z2, Z3, Z4, Z5, Z6, Z7]
                    refine wpAnyH_take (i := 2) (v := undef) rfl (by kernel_rfl) (by kernel_rfl) (by kernel_rfl) (fun _ _ _ h => h) (Or.inr ⟨by rfl, rfl⟩) hH ?_
                    try simp only [Z1, Z2, Z3, Z4, Z5, Z6, Z7]
                    refine wpAnyH_take (i := 3) (v := undef) rfl (by kernel_rfl) (by kernel_rfl) (by kernel_rfl) (fun _ _ _ h => h) (Or.inr ⟨by rfl, rfl⟩) hH ?_
                    try simp only [Z1, Z2, Z3, Z4, Z5, Z6, Z7]
                    refine wpAnyH_take (i := 4) (v := undef) rfl (by kernel_rfl) (by kernel_rfl) (by kernel_rfl) (fun _ _ _ h => h) (Or.inr ⟨by rfl, rfl⟩) hH ?_
                    try simp only [Z1, Z2, Z3, Z4, Z5, Z6, Z7]
                    refine wpAnyH_take (i := 5) (v := undef) rfl (by kernel_rfl) (by kernel_rfl) (by kernel_rfl) (fun _ _ _ h => h) (Or.inr ⟨by rfl, rfl⟩) hH ?_
                    try simp only [Z1, Z2, Z3, Z4, Z5, Z6, Z7]
                    refine wpAnyH_take (i := 6) (v := undef) rfl (by kernel_rfl) (by kernel_rfl) (by kernel_rfl) (fun _ _ _ h => h) (Or.inr ⟨by rfl, rfl⟩) hH ?_
                    try simp only [Z1, Z2, Z3, Z4, Z5, Z6, Z7]
                    refine wpAnyH_take (i := 7) (v := undef) rfl (by kernel_rfl) (by kernel_rfl) (by kernel_rfl) (fun _ _ _ h => h) (Or.inr ⟨by rfl, rfl⟩) hH ?_
                    try simp only [Z1, Z2, Z3, Z4, Z5, Z6, Z7]
                    refine wpAnyH_take (i := 8) (v := undef) rfl (by kernel_rfl) (by kernel_rfl) (by kernel_rfl) (fun _ _ _ h => h) (Or.inr ⟨by rfl, rfl⟩) hH ?_
                    try simp only [Z1, Z2, Z3, Z4, Z5, Z6, Z7]
                    refine wpAnyH_take (i := 9) (v := undef) rfl (by kernel_rfl) (by kernel_rfl) (by kernel_rfl) (fun _ _ _ h => h) (Or.inr ⟨by rfl, rfl⟩) hH ?_
                    try simp only [Z1, Z2, Z3, Z4, Z5, Z6, Z7]
                    refine wpAnyH_take (i := 10) (v := undef) rfl (by kernel_rfl) (by kernel_rfl) (by kernel_rfl) (fun _ _ _ h => h) (Or.inr ⟨by rfl, rfl⟩) hH ?_
                    try simp only [Z1, Z2, Z3, Z4, Z5, Z6, Z7]
                    refine wpAnyH_take (i := 11) (v := undef) rfl (by kernel_rfl) (by kernel_rfl) (by kernel_rfl) (fun _ _ _ h => h) (Or.inr ⟨by rfl, rfl⟩) hH ?_
                    try simp only [Z1, Z2, Z3, Z4, Z5, Z6, Z7]
                    refine wpAnyH_take (i := 12) (v := undef) rfl (by kernel_rfl) (by kernel_rfl) (by kernel_rfl) (fun _ _ _ h => h) (Or.inr ⟨by rfl, rfl⟩) hH ?_
                    try simp only [Z1, Z2, Z3, Z4, Z5, Z6, Z7]
                    refine wpAnyH_take (i := 13) (v := undef) rfl (by kernel_rfl) (by kernel_rfl) (by kernel_rfl) (fun _ _ _ h => h) (Or.inr ⟨by rfl, rfl⟩) hH ?_
                    try simp only [Z1, Z2, Z3, Z4, Z5, Z6, Z7]
                    refine wpAnyH_take (i := 14) (v := undef) rfl (by kernel_rfl) (by kernel_rfl) (by kernel_rfl) (fun _ _ _ h => h) (Or.inr ⟨by rfl, rfl⟩) hH ?_
                    try simp only [Z1, Z2, Z3, Z4, Z5, Z6, Z7]
                    refine wpAnyH_take (i := 15) (v := undef) rfl (by kernel_rfl) (by kernel_rfl) (by kernel_rfl) (fun _ _ _ h => h) (Or.inr ⟨by rfl, rfl⟩) hH ?_
                    try simp only [Z1, Z2, Z3, Z4, Z5, Z6, Z7]
                    refine wpAnyH_take (i := 16) (v := undef) rfl (by kernel_rfl) (by kernel_rfl) (by kernel_rfl) (fun _ _ _ h => h) (Or.inr ⟨by rfl, rfl⟩) hH ?_
                    try simp only [Z1, Z2, Z3, Z4, Z5, Z6, Z7]
                    refine wpAnyH_take (i := 17) (v := undef) rfl (by kernel_rfl) (by kernel_rfl) (by kernel_rfl) (fun _ _ _ h => h) (Or.inr ⟨by rfl, rfl⟩) hH ?_
                    try simp only [Z1, Z2, Z3, Z4, Z5, Z6, Z7]
                    refine wpAnyH_take (i := 18) (v := undef) rfl (by kernel_rfl) (by kernel_rfl) (by kernel_rfl) (fun _ _ _ h => h) (Or.inr ⟨by rfl, rfl⟩) hH ?_
                    try simp only [Z1, Z2, Z3, Z4, Z5, Z6, Z7]
                    refine wpAnyH_take (i := 19) (v := undef) rfl (by kernel_rfl) (by kernel_rfl) (by kernel_rfl) (fun _ _ _ h => h) (Or.inr ⟨by rfl, rfl⟩) hH ?_
                    try simp only [Z1, Z2, Z3, Z4, Z5, Z6, Z7]
                    refine wpAnyH_take (i := 20) (v := undef) rfl (by kernel_rfl) (by kernel_rfl) (by kernel_rfl) (fun _ _ _ h => h) (Or.inr ⟨by rfl, rfl⟩) hH ?_
                    try simp only [Z1, Z2, Z3, Z4, Z5, Z6, Z7]
                    refine wpAnyH_take (i := 21) (v := undef) rfl (by kernel_rfl) (by kernel_rfl) (by kernel_rfl) (fun _ _ _ h => h) (Or.inr ⟨by rfl, rfl⟩) hH ?_
                    try simp only [Z1, Z2, Z3, Z4, Z5, Z6, Z7]
                    refine wpAnyH_take (i := 22) (v := undef) rfl (by kernel_rfl) (by kernel_rfl) (by kernel_rfl) (fun _ _ _ h => h) (Or.inr ⟨by rfl, rfl⟩) hH ?_
                    try simp only [Z1, Z2, Z3, Z4, Z5, Z6, Z7]
                    refine wpAnyH_take (i := 23) (v := undef) rfl (by kernel_rfl) (by kernel_rfl) (by kernel_rfl) (fun _ _ _ h => h) (Or.inr ⟨by rfl, rfl⟩) hH ?_
                    try simp only [Z1, Z2, Z3, Z4, Z5, Z6, Z7]
                    refine wpAnyH_take (i := 24) (v := undef) rfl (by kernel_rfl) (by kernel_rfl) (by kernel_rfl) (fun _ _ _ h => h) (Or.inr ⟨by rfl, rfl⟩) hH ?_
                    try simp only [Z1, Z2, Z3, Z4, Z5, Z6, Z7]
                    refine wpAnyH_take (i := 25) (v := undef) rfl (by kernel_rfl) (by kernel_rfl) (by kernel_rfl) (fun _ _ _ h => h) (Or.inr ⟨by rfl, rfl⟩) hH ?_
                    try simp only [Z1, Z2, Z3, Z4, Z5, Z6, Z7]
                    refine wpAnyH_take (i := 26) (v := undef) rfl (by kernel_rfl) (by kernel_rfl) (by kernel_rfl) (fun _ _ _ h => h) (Or.inr ⟨by rfl, rfl⟩) hH ?_
                    try simp only [Z1, Z2, Z3, Z4, Z5, Z6, Z7]
                    refine wpAnyH_take (i := 27) (v := undef) rfl (by kernel_rfl) (by kernel_rfl) (by kernel_rfl) (fun _ _ _ h => h) (Or.inr ⟨by rfl, rfl⟩) hH ?_
                    try simp only [Z1, Z2, Z3, Z4, Z5, Z6, Z7]
                    refine wpAnyH_take (i := 28) (v := undef) rfl (by kernel_rfl) (by kernel_rfl) (by kernel_rfl) (fun _ _ _ h => h) (Or.inr ⟨by rfl, rfl⟩) hH ?_
                    try simp only [Z1, Z2, Z3, Z4, Z5, Z6, Z7]
                    refine wpAnyH_take (i := 29) (v := undef) rfl (by kernel_rfl) (by kernel_rfl) (by kernel_rfl) (fun _ _ _ h => h) (Or.inr ⟨by rfl, rfl⟩) hH ?_
                    try simp only [Z1, Z2, Z3, Z4, Z5, Z6, Z7]
                    refine wpAnyH_take (i := 30) (v := undef) rfl (by kernel_rfl) (by kernel_rfl) (by kernel_rfl) (fun _ _ _ h => h) (Or.inr ⟨by rfl, rfl⟩) hH ?_
                    try simp only [Z1, Z2, Z3, Z4, Z5, Z6, Z7]
                    refine wpAnyH_take (i := 31) (v := undef) rfl (by kernel_rfl) (by kernel_rfl) (by kernel_rfl) (fun _ _ _ h => h) (Or.inr ⟨by rfl, rfl⟩) hH ?_
                    try simp only [Z1, Z2, Z3, Z4, Z5, Z6, Z7]
                    refine wpAnyH_take (i := 32) (v := undef) rfl (by kernel_rfl) (by kernel_rfl) (by kernel_rfl) (fun _ _ _ h => h) (Or.inr ⟨by rfl, rfl⟩) hH ?_
                    try simp only [Z1, Z2, Z3, Z4, Z5, Z6, Z7]
                    refine wpAnyH_take (i := 33) (v := ?_) rfl (by kernel_rfl) (by kernel_rfl) (by kernel_rfl) (fun _ _ _ h => h) (Or.inl ⟨by rfl, ?_⟩) hH ?_
                    case refine_2 => intro w hSw; go_simp; try with_reducible rfl
                    try simp only [Z1, Z2, Z3, Z4, Z5, Z6, Z7]
                    refine wpAnyH_done (by kernel_rfl) ?_ _
                    refine NoPanic.normal ?_
                    clear hH
                    go_wp2_with fail
                    go_meet
                    case rel => exact ⟨rfl, (Below.refl _ _).drew⟩
                  | true =>
                    obtain ⟨x1, x2, x3, x4⟩ := WO rfl
                    have g2 : ((d2.base : Int) != (m.index : Int)) = false := by rw [bne_eq_false_iff_eq]; omega
                    have g3 : ((d2.baseTerm : Int) != (m.logTerm : Int)) = false := by rw [bne_eq_false_iff_eq]; omega
                    have g4 : ¬ d2.commit < m.index := by omega
                    have g4i : ¬ (d2.commit : Int) < (m.index : Int) := by omega
                    have f0 : fromR d2 0 = [] := LO.2.2.2.2.trans x1
                    obtain ⟨S9, E9, V9, M9, X9, N9, _⟩ := D9
                    obtain ⟨Al, ec, rfl⟩ := N9.log.shape
                    have TFr := Lib.hid (fun (wz : World) (h : NodeAt wz g S9 (.slice Al d2.log.length ec) V9 M9 X9 d2) => from_any g Al ec V9 M9 X9 Any d2 0 wz h.blk (h.slS RB2.gb.len32) h.log.caps.1 RB2.gb.nb)
                    rw [f0] at TFr
                    have b9d : Below y9.heap.size y9 y9.drew := (Below.refl _ _).drew
                    have kS : NodeAt y9.drew g S9 (.slice Al d2.log.length ec) V9 M9 X9 d2 ∧ Blk y9.drew y2.heap.size 58 #[.int .i64 m.kind, .int .i64 m.frm, .int .i64 m.dst, .int .u64 (m.term : Int), .int .u64 (m.index : Int), .int .u64 (m.logTerm : Int), .int .u64 (m.commit : Int), .slice Am m.ents.length cm, .bool m.ok, .slice none 0 0] := ⟨N9.below b9d, km9.drew⟩
                    clear x1 x2 x3 x4 f0 WO N9 km9
                    refine wp_region_noPanic ?_
                    refine wp_region_held_drew (S := fun Y => NodeAt Y g S9 (.slice Al d2.log.length ec) V9 M9 X9 d2 ∧ Blk Y y2.heap.size 58 #[.int .i64 m.kind, .int .i64 m.frm, .int .i64 m.dst, .int .u64 (m.term : Int), .int .u64 (m.index : Int), .int .u64 (m.logTerm : Int), .int .u64 (m.commit : Int), .slice Am m.ents.length cm, .bool m.ok, .slice none 0 0]) (by kernel_rfl) kS (fun hH => ?_)
                    refine wpAnyH_take (i := 0) (v := ?_) rfl (by kernel_rfl) (by kernel_rfl) (by kernel_rfl) (fun _ _ _ h => h) (Or.inl ⟨by rfl, ?_⟩) hH ?_
                    case refine_2 => intro w hSw; go_simp; try with_reducible rfl
                    try simp only [Z1, Z2, Z4, Z5, Z6, Z7]
                    refine wpAnyH_take (i := 1) (v := ?_) rfl (by kernel_rfl) (by kernel_rfl) (by kernel_rfl) (fun _ _ _ h => h) (Or.inl ⟨by rfl, ?_⟩) hH ?_
                    case refine_2 => intro w hSw; go_simp; try with_reducible rfl
                    try simp only [Z1, Z2, Z3, Z4, Z5, Z6, Z7]
                    refine wpAnyH_take (i := 2) (v := ?_) rfl (by kernel_rfl) (by kernel_rfl) (by kernel_rfl) (fun _ _ _ h => h) (Or.inl ⟨by rfl, ?_⟩) hH ?_
                    case refine_2 => intro w hSw; go_simp; try with_reducible rfl
                    try simp only [Z1, Z2, Z3, Z4, Z5, Z6, Z7]
                    refine wpAnyH_ready (rs := [3]) (by kernel_rfl) (by simp) ?_
                    refine AllReadyH.cons rfl (fun K hK => ?_) AllReadyH.nil
                    go_simp
                    refine (TFr.out y9.drew kS.1).mono ?_
                    rintro en y10 ⟨A10, c10, rfl, _, b10⟩
                    have kS2 : NodeAt y10 g S9 (.slice Al d2.log.length ec) V9 M9 X9 d2 ∧ Blk y10 y2.heap.size 58 #[.int .i64 m.kind, .int .i64 m.frm, .int .i64 m.dst, .int .u64 (m.term : Int), .int .u64 (m.index : Int), .int .u64 (m.logTerm : Int), .int .u64 (m.commit : Int), .slice Am m.ents.length cm, .bool m.ok, .slice none 0 0] := ⟨kS.1.below b10, kS.2.below b10 kS.2.lt⟩
                    have bz := below_step b9d b10
                    clear hH
                    refine hK.out _ _ kS2 (fun hH => ?_)
                    clear hK K
                    try dsimp only
                    try simp only [Z1, Z2, Z3, Z4, Z5, Z6, Z7]
                    refine wpAnyH_take (i := 4) (v := ?_) rfl (by kernel_rfl) (by kernel_rfl) (by kernel_rfl) (fun _ _ _ h => h) (Or.inl ⟨by rfl, ?_⟩) hH ?_
                    case refine_2 => intro w hSw; go_simp; try with_reducible rfl
                    try simp only [Z1, Z2, Z3, Z4, Z5, Z6, Z7]
                    refine wpAnyH_take (i := 5) (v := ?_) rfl (by kernel_rfl) (by kernel_rfl) (by kernel_rfl) (fun _ _ _ h => h) (Or.inl ⟨by rfl, ?_⟩) hH ?_
                    case refine_2 => intro w hSw; go_simp; try with_reducible rfl
                    try simp only [Z1, Z2, Z3, Z4, Z5, Z6, Z7]
                    refine wpAnyH_take (i := 6) (v := ?_) rfl (by kernel_rfl) (by kernel_rfl) (by kernel_rfl) (fun _ _ _ h => h) (Or.inl ⟨by rfl, ?_⟩) hH ?_
                    case refine_2 => intro w hSw; go_simp; try with_reducible rfl
                    try simp only [Z1, Z2, Z3, Z4, Z5, Z6, Z7]
                    refine wpAnyH_take (i := 7) (v := ?_) rfl (by kernel_rfl) (by kernel_rfl) (by kernel_rfl) (fun _ _ _ h => h) (Or.inl ⟨by rfl, ?_⟩) hH ?_
                    case refine_2 => intro w hSw; go_simp; try with_reducible rfl
                    try simp only [Z1, Z2, Z3, Z4, Z5, Z6, Z7]
                    refine wpAnyH_take (i := 8) (v := ?_) rfl (by kernel_rfl) (by kernel_rfl) (by kernel_rfl) (fun _ _ _ h => h) (Or.inl ⟨by rfl, ?_⟩) hH ?_
                    case refine_2 => intro w hSw; go_simp; try with_reducible rfl
                    try simp only [Z1, Z2, Z3, Z4, Z5, Z6, Z7]
                    refine wpAnyH_take (i := 9) (v := ?_) rfl (by kernel_rfl) (by kernel_rfl) (by kernel_rfl) (fun _ _ _ h => h) (Or.inl ⟨by rfl, ?_⟩) hH ?_
                    case refine_2 => intro w hSw; go_simp; try with_reducible rfl
                    try simp only [Z1, Z2, Z3, Z4, Z5, Z6, Z7]
                    refine wpAnyH_take (i := 10) (v := ?_) rfl (by kernel_rfl) (by kernel_rfl) (by kernel_rfl) (fun _ _ _ h => h) (Or.inl ⟨by rfl, ?_⟩) hH ?_
                    case refine_2 => intro w hSw; go_simp; try with_reducible rfl
                    try simp only [Z1, Z2, Z3, Z4, Z5, Z6, Z7]
                    refine wpAnyH_take (i := 11) (v := ?_) rfl (by kernel_rfl) (by kernel_rfl) (by kernel_rfl) (fun _ _ _ h => h) (Or.inl ⟨by rfl, ?_⟩) hH ?_
                    case refine_2 => intro w hSw; have hSw1 := hSw.1.blk; replace hSw1 : Blk w g 48 (nodeC (.slice Al d2.log.length ec) V9 M9 X9 d2) := hSw1; have n2 : w.cell? ⟨_, 2, none⟩ = some (.int .u64 (d2.base : Int)) := Blk.cell hSw1 2; clear hSw hSw1; go_simp; try with_reducible rfl
                    try simp only [Z1, Z2, Z3, Z4, Z5, Z6, Z7]
                    refine wpAnyH_take (i := 12) (v := ?_) rfl (by kernel_rfl) (by kernel_rfl) (by kernel_rfl) (fun _ _ _ h => h) (Or.inl ⟨by rfl, ?_⟩) hH ?_
                    case refine_2 => intro w hSw; go_simp; try with_reducible rfl
                    try simp only [Z1, Z2, Z3, Z4, Z5, Z6, Z7]
                    refine wpAnyH_take (i := 13) (v := ?_) rfl (by kernel_rfl) (by kernel_rfl) (by kernel_rfl) (fun _ _ _ h => h) (Or.inl ⟨by rfl, ?_⟩) hH ?_
                    case refine_2 => intro w hSw; have hSw1 := hSw.2; replace hSw1 : Blk w y2.heap.size 58 #[.int .i64 m.kind, .int .i64 m.frm, .int .i64 m.dst, .int .u64 (m.term : Int), .int .u64 (m.index : Int), .int .u64 (m.logTerm : Int), .int .u64 (m.commit : Int), .slice Am m.ents.length cm, .bool m.ok, .slice none 0 0] := hSw1; have n4 : w.cell? ⟨_, 4, none⟩ = some (.int .u64 (m.index : Int)) := Blk.cell hSw1 4; clear hSw hSw1; go_simp; try with_reducible rfl
                    try simp only [Z1, Z2, Z3, Z4, Z5, Z6, Z7]
                    refine wpAnyH_take (i := 14) (v := ?_) rfl (by kernel_rfl) (by kernel_rfl) (by kernel_rfl) (fun _ _ _ h => h) (Or.inl ⟨by rfl, ?_⟩) hH ?_
                    case refine_2 => intro w hSw; go_simp; try with_reducible rfl
                    try simp only [Z1, Z2, Z3, Z4, Z5, Z6, Z7]
                    refine wpAnyH_take (i := 15) (v := ?_) rfl (by kernel_rfl) (by kernel_rfl) (by kernel_rfl) (fun _ _ _ h => h) (Or.inl ⟨by rfl, ?_⟩) hH ?_
                    case refine_2 => intro w hSw; go_simp; try with_reducible rfl
                    try simp only [Z1, Z2, Z3, Z4, Z5, Z6, Z7]
                    refine wpAnyH_take (i := 16) (v := ?_) rfl (by kernel_rfl) (by kernel_rfl) (by kernel_rfl) (fun _ _ _ h => h) (Or.inl ⟨by rfl, ?_⟩) hH ?_
                    case refine_2 => intro w hSw; go_simp; try with_reducible rfl
                    try simp only [Z1, Z2, Z3, Z4, Z5, Z6, Z7]
                    refine wpAnyH_take (i := 17) (v := ?_) rfl (by kernel_rfl) (by kernel_rfl) (by kernel_rfl) (fun _ _ _ h => h) (Or.inl ⟨by rfl, ?_⟩) hH ?_
                    case refine_2 => intro w hSw; go_simp; try with_reducible rfl
                    try simp only [Z1, Z2, Z3, Z4, Z5, Z6, Z7]
                    refine wpAnyH_take (i := 18) (v := ?_) rfl (by kernel_rfl) (by kernel_rfl) (by kernel_rfl) (fun _ _ _ h => h) (Or.inl ⟨by rfl, ?_⟩) hH ?_
                    case refine_2 => intro w hSw; go_simp; try with_reducible rfl
                    try simp only [Z1, Z2, Z3, Z4, Z5, Z6, Z7]
                    refine wpAnyH_take (i := 19) (v := ?_) rfl (by kernel_rfl) (by kernel_rfl) (by kernel_rfl) (fun _ _ _ h => h) (Or.inl ⟨by rfl, ?_⟩) hH ?_
                    case refine_2 => intro w hSw; go_simp; try with_reducible rfl
                    try simp only [Z1, Z2, Z3, Z4, Z5, Z6, Z7]
                    refine wpAnyH_take (i := 20) (v := ?_) rfl (by kernel_rfl) (by kernel_rfl) (by kernel_rfl) (fun _ _ _ h => h) (Or.inl ⟨by rfl, ?_⟩) hH ?_
                    case refine_2 => intro w hSw; go_simp; try with_reducible rfl
                    try simp only [Z1, Z2, Z3, Z4, Z5, Z6, Z7]
                    refine wpAnyH_take (i := 21) (v := ?_) rfl (by kernel_rfl) (by kernel_rfl) (by kernel_rfl) (fun _ _ _ h => h) (Or.inl ⟨by rfl, ?_⟩) hH ?_
                    case refine_2 => intro w hSw; have hSw1 := hSw.1.blk; replace hSw1 : Blk w g 48 (nodeC (.slice Al d2.log.length ec) V9 M9 X9 d2) := hSw1; have n3 : w.cell? ⟨_, 3, none⟩ = some (.int .u64 (d2.baseTerm : Int)) := Blk.cell hSw1 3; clear hSw hSw1; go_simp; try with_reducible rfl
                    try simp only [Z1, Z2, Z3, Z4, Z5, Z6, Z7]
                    refine wpAnyH_take (i := 22) (v := ?_) rfl (by kernel_rfl) (by kernel_rfl) (by kernel_rfl) (fun _ _ _ h => h) (Or.inl ⟨by rfl, ?_⟩) hH ?_
                    case refine_2 => intro w hSw; go_simp; try with_reducible rfl
                    try simp only [Z1, Z2, Z3, Z4, Z5, Z6, Z7]
                    refine wpAnyH_take (i := 23) (v := ?_) rfl (by kernel_rfl) (by kernel_rfl) (by kernel_rfl) (fun _ _ _ h => h) (Or.inl ⟨by rfl, ?_⟩) hH ?_
                    case refine_2 => intro w hSw; have hSw1 := hSw.2; replace hSw1 : Blk w y2.heap.size 58 #[.int .i64 m.kind, .int .i64 m.frm, .int .i64 m.dst, .int .u64 (m.term : Int), .int .u64 (m.index : Int), .int .u64 (m.logTerm : Int), .int .u64 (m.commit : Int), .slice Am m.ents.length cm, .bool m.ok, .slice none 0 0] := hSw1; have n5 : w.cell? ⟨_, 5, none⟩ = some (.int .u64 (m.logTerm : Int)) := Blk.cell hSw1 5; clear hSw hSw1; go_simp; try with_reducible rfl
                    try simp only [Z1, Z2, Z3, Z4, Z5, Z6, Z7]
                    refine wpAnyH_take (i := 24) (v := ?_) rfl (by kernel_rfl) (by kernel_rfl) (by kernel_rfl) (fun _ _ _ h => h) (Or.inl ⟨by rfl, ?_⟩) hH ?_
                    case refine_2 => intro w hSw; go_simp; try with_reducible rfl
                    try simp only [Z1, Z2, Z3, Z4, Z5, Z6, Z7]
                    refine wpAnyH_take (i := 25) (v := ?_) rfl (by kernel_rfl) (by kernel_rfl) (by kernel_rfl) (fun _ _ _ h => h) (Or.inl ⟨by rfl, ?_⟩) hH ?_
                    case refine_2 => intro w hSw; go_simp; try with_reducible rfl
                    try simp only [Z1, Z2, Z3, Z4, Z5, Z6, Z7]
                    refine wpAnyH_take (i := 26) (v := ?_) rfl (by kernel_rfl) (by kernel_rfl) (by kernel_rfl) (fun _ _ _ h => h) (Or.inl ⟨by rfl, ?_⟩) hH ?_
                    case refine_2 => intro w hSw; go_simp; try with_reducible rfl
                    try simp only [Z1, Z2, Z3, Z4, Z5, Z6, Z7]
                    refine wpAnyH_take (i := 27) (v := ?_) rfl (by kernel_rfl) (by kernel_rfl) (by kernel_rfl) (fun _ _ _ h => h) (Or.inl ⟨by rfl, ?_⟩) hH ?_
                    case refine_2 => intro w hSw; go_simp; try with_reducible rfl
                    try simp only [Z1, Z2, Z3, Z4, Z5, Z6, Z7]
                    refine wpAnyH_take (i := 29) (v := ?_) rfl (by kernel_rfl) (by kernel_rfl) (by kernel_rfl) (fun _ _ _ h => h) (Or.inl ⟨by rfl, ?_⟩) hH ?_
                    case refine_2 => intro w hSw; go_simp; try with_reducible rfl
                    try simp only [Z1, Z2, Z3, Z4, Z5, Z6, Z7]
                    refine wpAnyH_take (i := 30) (v := ?_) rfl (by kernel_rfl) (by kernel_rfl) (by kernel_rfl) (fun _ _ _ h => h) (Or.inl ⟨by rfl, ?_⟩) hH ?_
                    case refine_2 => intro w hSw; have hSw1 := hSw.2; replace hSw1 : Blk w y2.heap.size 58 #[.int .i64 m.kind, .int .i64 m.frm, .int .i64 m.dst, .int .u64 (m.term : Int), .int .u64 (m.index : Int), .int .u64 (m.logTerm : Int), .int .u64 (m.commit : Int), .slice Am m.ents.length cm, .bool m.ok, .slice none 0 0] := hSw1; have n4 : w.cell? ⟨_, 4, none⟩ = some (.int .u64 (m.index : Int)) := Blk.cell hSw1 4; clear hSw hSw1; go_simp; try with_reducible rfl
                    try simp only [Z1, Z2, Z3, Z4, Z5, Z6, Z7]
                    refine wpAnyH_ready (rs := [28]) (by kernel_rfl) (by simp) ?_
                    refine AllReadyH.cons rfl (fun K hK => ?_) AllReadyH.nil
                    go_simp
                    refine (commitk_any g _ V9 M9 X9 d2 y10 kS2.1.blk).mono ?_
                    rintro en y11 ⟨rfl, hy⟩
                    replace hy := hy.symm
                    subst hy
                    clear hH
                    refine hK.out _ _ kS2 (fun hH => ?_)
                    clear hK K
                    try dsimp only
                    try simp only [Z1, Z2, Z3, Z4, Z5, Z6, Z7]
                    refine wpAnyH_take (i := 31) (v := ?_) rfl (by kernel_rfl) (by kernel_rfl) (by kernel_rfl) (fun _ _ _ h => h) (Or.inl ⟨by rfl, ?_⟩) hH ?_
                    case refine_2 => intro w hSw; go_simp; try with_reducible rfl
                    try simp only [Z1, Z2, Z3, Z4, Z5, Z6, Z7]
                    refine wpAnyH_take (i := 32) (v := ?_) rfl (by kernel_rfl) (by kernel_rfl) (by kernel_rfl) (fun _ _ _ h => h) (Or.inl ⟨by rfl, ?_⟩) hH ?_
                    case refine_2 => intro w hSw; go_simp; try with_reducible rfl
                    try simp only [Z1, Z2, Z3, Z4, Z5, Z6, Z7]
                    refine wpAnyH_take (i := 33) (v := ?_) rfl (by kernel_rfl) (by kernel_rfl) (by kernel_rfl) (fun _ _ _ h => h) (Or.inl ⟨by rfl, ?_⟩) hH ?_
                    case refine_2 => intro w hSw; go_simp; try with_reducible rfl
                    try simp only [Z1, Z2, Z3, Z4, Z5, Z6, Z7]
                    refine wpAnyH_done (by kernel_rfl) ?_ _
                    refine NoPanic.normal ?_
                    clear hH
                    go_wp2_with fail
                    go_meet
                    case rel => exact ⟨rfl, bz⟩
              case rest =>
              as_aux_lemma =>
              obtain ⟨rfl, b910⟩ := hcut
              generalize wc = y10 at *
              have D10 : ND y10 g (fun b => b < w.heap.size ∨ b = y2.heap.size) d2 := (D9.new b910).mono (fun b h => .inl h)
              have hS10 := hS9.below b910
              have b010 := below_step b09 b910
              clear D9 km9 hS9 b09 b910 WO
              go_wp2_with fail
              go_loopw [264] (fun v264 wr => ∃ k : Nat, k ≤ ms2.length ∧ v264 = .int .i64 (k : Int) ∧ Below y10.heap.size y10 wr) (fun v264 _ => ms2.length - (intOf v264).toNat)
              case atStart => exact ⟨0, Nat.zero_le _, rfl, Below.refl _ _⟩
              case round =>
                as_aux_lemma =>
                obtain ⟨k, hk, rfl, bk⟩ := hrel
                have hmsl := hS10.le
                by_cases hlt : k < ms2.length
                · obtain ⟨ao, Po, co, rfl, f0, f1, f2, f3, f4, f5, f6, f7, f8, f9⟩ := MsgE.at_ (hS10.below bk) hlt
                  have hou := OU ms2[k] (List.getElem_mem hlt)
                  generalize ms2[k] = o at *
                  obtain ⟨h1, h2, h3, h4, h5, h6⟩ := hou
                  have g1 : (o.frm != 0) = false := by rw [bne_eq_false_iff_eq]; exact h1
                  have g2 : ¬ o.dst < 1 := by omega
                  have g3 : ¬ (nn : Int) ≤ o.dst := by omega
                  have g4 : ¬ o.kind < 1 := by omega
                  have g5 : ¬ 7 < o.kind := by omega
                  have h6 := Lib.hid h6
                  clear h1 h2 h3 h4 h5
                  have kO := Blk.new wr 58 #[.int .i64 o.kind, .int .i64 o.frm, .int .i64 o.dst, .int .u64 (o.term : Int), .int .u64 (o.index : Int), .int .u64 (o.logTerm : Int), .int .u64 (o.commit : Int), .slice Po o.ents.length co, .bool o.ok, .slice none 0 0]
                  have dO : Below wr.heap.size wr (wr.alloc (.cells #[.int .i64 o.kind, .int .i64 o.frm, .int .i64 o.dst, .int .u64 (o.term : Int), .int .u64 (o.index : Int), .int .u64 (o.logTerm : Int), .int .u64 (o.commit : Int), .slice Po o.ents.length co, .bool o.ok, .slice none 0 0] 58)) := (Below.refl _ _).alloc (Nat.le_refl _) _
                  obtain ⟨S9, E9, V9, M9, X9, N9, _⟩ := D10.new (below_step bk dO)
                  obtain ⟨Al, ec, rfl⟩ := N9.log.shape
                  go_upto_region 39 with fail
                  change Code.wp _ _ _ _ (wr.alloc (.cells #[.int .i64 o.kind, .int .i64 o.frm, .int .i64 o.dst, .int .u64 (o.term : Int), .int .u64 (o.index : Int), .int .u64 (o.logTerm : Int), .int .u64 (o.commit : Int), .slice Po o.ents.length co, .bool o.ok, .slice none 0 0] 58))
                  generalize (wr.alloc (.cells #[.int .i64 o.kind, .int .i64 o.frm, .int .i64 o.dst, .int .u64 (o.term : Int), .int .u64 (o.index : Int), .int .u64 (o.logTerm : Int), .int .u64 (o.commit : Int), .slice Po o.ents.length co, .bool o.ok, .slice none 0 0] 58)) = yo at *
                  have bo := below_step bk dO
                  have kS : NodeAt yo.drew g S9 (.slice Al d2.log.length ec) V9 M9 X9 d2 ∧ Blk yo.drew wr.heap.size 58 #[.int .i64 o.kind, .int .i64 o.frm, .int .i64 o.dst, .int .u64 (o.term : Int), .int .u64 (o.index : Int), .int .u64 (o.logTerm : Int), .int .u64 (o.commit : Int), .slice Po o.ents.length co, .bool o.ok, .slice none 0 0] := ⟨N9.below ((Below.refl _ _).drew), kO.drew⟩
                  clear f0 f1 f2 f3 f4 f5 f6 f7 f8 f9 N9 kO dO
                  go_cut [308] from 265 to 308 (fun s wx => s = .bool false ∧ Below yo.heap.size yo wx)
                  case first =>
                    as_aux_lemma =>
                      by_cases hk2 : o.kind = 2
                      · have g6 : (o.kind != 2) = false := by rw [bne_eq_false_iff_eq]; exact hk2
                        clear hk2 h6
                        refine wp_region_noPanic ?_
                        refine wp_region_held_drew (S := fun Y => NodeAt Y g S9 (.slice Al d2.log.length ec) V9 M9 X9 d2 ∧ Blk Y wr.heap.size 58 #[.int .i64 o.kind, .int .i64 o.frm, .int .i64 o.dst, .int .u64 (o.term : Int), .int .u64 (o.index : Int), .int .u64 (o.logTerm : Int), .int .u64 (o.commit : Int), .slice Po o.ents.length co, .bool o.ok, .slice none 0 0]) (by kernel_rfl) kS (fun hH => ?_)
                        refine wpAnyH_take (i := 0) (v := ?_) rfl (by kernel_rfl) (by kernel_rfl) (by kernel_rfl) (fun _ _ _ h => h) (Or.inl ⟨by rfl, ?_⟩) hH ?_
                        case refine_2 => intro w hSw; go_simp; try with_reducible rfl
                        try simp only [Z1, Z2, Z4, Z5, Z6, Z7]
                        refine wpAnyH_take (i := 1) (v := ?_) rfl (by kernel_rfl) (by kernel_rfl) (by kernel_rfl) (fun _ _ _ h => h) (Or.inl ⟨by rfl, ?_⟩) hH ?_
                        case refine_2 => intro w hSw; have hSw1 := hSw.2; replace hSw1 : Blk w wr.heap.size 58 #[.int .i64 o.kind, .int .i64 o.frm, .int .i64 o.dst, .int .u64 (o.term : Int), .int .u64 (o.index : Int), .int .u64 (o.logTerm : Int), .int .u64 (o.commit : Int), .slice Po o.ents.length co, .bool o.ok, .slice none 0 0] := hSw1; have n1 : w.cell? ⟨_, 1, none⟩ = some (.int .i64 o.frm) := Blk.cell hSw1 1; clear hSw hSw1; go_simp; try with_reducible rfl
                        try simp only [Z1, Z2, Z3, Z4, Z5, Z6, Z7]
                        refine wpAnyH_take (i := 2) (v := ?_) rfl (by kernel_rfl) (by kernel_rfl) (by kernel_rfl) (fun _ _ _ h => h) (Or.inl ⟨by rfl, ?_⟩) hH ?_
                        case refine_2 => intro w hSw; go_simp; try with_reducible rfl
                        try simp only [Z1, Z2, Z3, Z4, Z5, Z6, Z7]
                        refine wpAnyH_take (i := 3) (v := ?_) rfl (by kernel_rfl) (by kernel_rfl) (by kernel_rfl) (fun _ _ _ h => h) (Or.inl ⟨by rfl, ?_⟩) hH ?_
                        case refine_2 => intro w hSw; go_simp; try with_reducible rfl
                        try simp only [Z1, Z2, Z3, Z4, Z5, Z6, Z7]
                        refine wpAnyH_take (i := 4) (v := ?_) rfl (by kernel_rfl) (by kernel_rfl) (by kernel_rfl) (fun _ _ _ h => h) (Or.inl ⟨by rfl, ?_⟩) hH ?_
                        case refine_2 => intro w hSw; go_simp; try with_reducible rfl
                        try simp only [Z1, Z2, Z3, Z4, Z5, Z6, Z7]
                        refine wpAnyH_take (i := 5) (v := ?_) rfl (by kernel_rfl) (by kernel_rfl) (by kernel_rfl) (fun _ _ _ h => h) (Or.inl ⟨by rfl, ?_⟩) hH ?_
                        case refine_2 => intro w hSw; have hSw1 := hSw.2; replace hSw1 : Blk w wr.heap.size 58 #[.int .i64 o.kind, .int .i64 o.frm, .int .i64 o.dst, .int .u64 (o.term : Int), .int .u64 (o.index : Int), .int .u64 (o.logTerm : Int), .int .u64 (o.commit : Int), .slice Po o.ents.length co, .bool o.ok, .slice none 0 0] := hSw1; have n2 : w.cell? ⟨_, 2, none⟩ = some (.int .i64 o.dst) := Blk.cell hSw1 2; clear hSw hSw1; go_simp; try with_reducible rfl
                        try simp only [Z1, Z2, Z3, Z4, Z5, Z6, Z7]
                        refine wpAnyH_take (i := 6) (v := ?_) rfl (by kernel_rfl) (by kernel_rfl) (by kernel_rfl) (fun _ _ _ h => h) (Or.inl ⟨by rfl, ?_⟩) hH ?_
                        case refine_2 => intro w hSw; go_simp; try with_reducible rfl
                        try simp only [Z1, Z2, Z3, Z4, Z5, Z6, Z7]
                        refine wpAnyH_take (i := 7) (v := ?_) rfl (by kernel_rfl) (by kernel_rfl) (by kernel_rfl) (fun _ _ _ h => h) (Or.inl ⟨by rfl, ?_⟩) hH ?_
                        case refine_2 => intro w hSw; go_simp; try with_reducible rfl
                        try simp only [Z1, Z2, Z3, Z4, Z5, Z6, Z7]
                        refine wpAnyH_take (i := 8) (v := ?_) rfl (by kernel_rfl) (by kernel_rfl) (by kernel_rfl) (fun _ _ _ h => h) (Or.inl ⟨by rfl, ?_⟩) hH ?_
                        case refine_2 => intro w hSw; go_simp; try with_reducible rfl
                        try simp only [Z1, Z2, Z3, Z4, Z5, Z6, Z7]
                        refine wpAnyH_take (i := 9) (v := ?_) rfl (by kernel_rfl) (by kernel_rfl) (by kernel_rfl) (fun _ _ _ h => h) (Or.inl ⟨by rfl, ?_⟩) hH ?_
                        case refine_2 => intro w hSw; go_simp; try with_reducible rfl
                        try simp only [Z1, Z2, Z3, Z4, Z5, Z6, Z7]
                        refine wpAnyH_take (i := 10) (v := ?_) rfl (by kernel_rfl) (by kernel_rfl) (by kernel_rfl) (fun _ _ _ h => h) (Or.inl ⟨by rfl, ?_⟩) hH ?_
                        case refine_2 => intro w hSw; have hSw1 := hSw.2; replace hSw1 : Blk w wr.heap.size 58 #[.int .i64 o.kind, .int .i64 o.frm, .int .i64 o.dst, .int .u64 (o.term : Int), .int .u64 (o.index : Int), .int .u64 (o.logTerm : Int), .int .u64 (o.commit : Int), .slice Po o.ents.length co, .bool o.ok, .slice none 0 0] := hSw1; have n2 : w.cell? ⟨_, 2, none⟩ = some (.int .i64 o.dst) := Blk.cell hSw1 2; clear hSw hSw1; go_simp; try with_reducible rfl
                        try simp only [Z1, Z2, Z3, Z4, Z5, Z6, Z7]
                        refine wpAnyH_take (i := 11) (v := ?_) rfl (by kernel_rfl) (by kernel_rfl) (by kernel_rfl) (fun _ _ _ h => h) (Or.inl ⟨by rfl, ?_⟩) hH ?_
                        case refine_2 => intro w hSw; go_simp; try with_reducible rfl
                        try simp only [Z1, Z2, Z3, Z4, Z5, Z6, Z7]
                        refine wpAnyH_take (i := 12) (v := ?_) rfl (by kernel_rfl) (by kernel_rfl) (by kernel_rfl) (fun _ _ _ h => h) (Or.inl ⟨by rfl, ?_⟩) hH ?_
                        case refine_2 => intro w hSw; go_simp; try with_reducible rfl
                        try simp only [Z1, Z2, Z3, Z4, Z5, Z6, Z7]
                        refine wpAnyH_take (i := 13) (v := ?_) rfl (by kernel_rfl) (by kernel_rfl) (by kernel_rfl) (fun _ _ _ h => h) (Or.inl ⟨by rfl, ?_⟩) hH ?_
                        case refine_2 => intro w hSw; go_simp; try with_reducible rfl
                        try simp only [Z1, Z2, Z3, Z4, Z5, Z6, Z7]
                        refine wpAnyH_take (i := 14) (v := ?_) rfl (by kernel_rfl) (by kernel_rfl) (by kernel_rfl) (fun _ _ _ h => h) (Or.inl ⟨by rfl, ?_⟩) hH ?_
                        case refine_2 => intro w hSw; go_simp; try with_reducible rfl
                        try simp only [Z1, Z2, Z3, Z4, Z5, Z6, Z7]
                        refine wpAnyH_take (i := 15) (v := ?_) rfl (by kernel_rfl) (by kernel_rfl) (by kernel_rfl) (fun _ _ _ h => h) (Or.inl ⟨by rfl, ?_⟩) hH ?_
                        case refine_2 => intro w hSw; go_simp; try with_reducible rfl
                        try simp only [Z1, Z2, Z3, Z4, Z5, Z6, Z7]
                        refine wpAnyH_take (i := 16) (v := ?_) rfl (by kernel_rfl) (by kernel_rfl) (by kernel_rfl) (fun _ _ _ h => h) (Or.inl ⟨by rfl, ?_⟩) hH ?_
                        case refine_2 => intro w hSw; have hSw1 := hSw.2; replace hSw1 : Blk w wr.heap.size 58 #[.int .i64 o.kind, .int .i64 o.frm, .int .i64 o.dst, .int .u64 (o.term : Int), .int .u64 (o.index : Int), .int .u64 (o.logTerm : Int), .int .u64 (o.commit : Int), .slice Po o.ents.length co, .bool o.ok, .slice none 0 0] := hSw1; have n0 : w.cell? ⟨_, 0, none⟩ = some (.int .i64 o.kind) := Blk.cell hSw1 0; clear hSw hSw1; go_simp; try with_reducible rfl
                        try simp only [Z1, Z2, Z3, Z4, Z5, Z6, Z7]
                        refine wpAnyH_take (i := 17) (v := ?_) rfl (by kernel_rfl) (by kernel_rfl) (by kernel_rfl) (fun _ _ _ h => h) (Or.inl ⟨by rfl, ?_⟩) hH ?_
                        case refine_2 => intro w hSw; go_simp; try with_reducible rfl
                        try simp only [Z1, Z2, Z3, Z4, Z5, Z6, Z7]
                        refine wpAnyH_take (i := 18) (v := ?_) rfl (by kernel_rfl) (by kernel_rfl) (by kernel_rfl) (fun _ _ _ h => h) (Or.inl ⟨by rfl, ?_⟩) hH ?_
                        case refine_2 => intro w hSw; go_simp; try with_reducible rfl
                        try simp only [Z1, Z2, Z3, Z4, Z5, Z6, Z7]
                        refine wpAnyH_take (i := 19) (v := ?_) rfl (by kernel_rfl) (by kernel_rfl) (by kernel_rfl) (fun _ _ _ h => h) (Or.inl ⟨by rfl, ?_⟩) hH ?_
                        case refine_2 => intro w hSw; go_simp; try with_reducible rfl
                        try simp only [Z1, Z2, Z3, Z4, Z5, Z6, Z7]
                        refine wpAnyH_take (i := 20) (v := ?_) rfl (by kernel_rfl) (by kernel_rfl) (by kernel_rfl) (fun _ _ _ h => h) (Or.inl ⟨by rfl, ?_⟩) hH ?_
                        case refine_2 => intro w hSw; go_simp; try with_reducible rfl
                        try simp only [Z1, Z2, Z3, Z4, Z5, Z6, Z7]
                        refine wpAnyH_take (i := 21) (v := ?_) rfl (by kernel_rfl) (by kernel_rfl) (by kernel_rfl) (fun _ _ _ h => h) (Or.inl ⟨by rfl, ?_⟩) hH ?_
                        case refine_2 => intro w hSw; have hSw1 := hSw.2; replace hSw1 : Blk w wr.heap.size 58 #[.int .i64 o.kind, .int .i64 o.frm, .int .i64 o.dst, .int .u64 (o.term : Int), .int .u64 (o.index : Int), .int .u64 (o.logTerm : Int), .int .u64 (o.commit : Int), .slice Po o.ents.length co, .bool o.ok, .slice none 0 0] := hSw1; have n0 : w.cell? ⟨_, 0, none⟩ = some (.int .i64 o.kind) := Blk.cell hSw1 0; clear hSw hSw1; go_simp; try with_reducible rfl
                        try simp only [Z1, Z2, Z3, Z4, Z5, Z6, Z7]
                        refine wpAnyH_take (i := 22) (v := ?_) rfl (by kernel_rfl) (by kernel_rfl) (by kernel_rfl) (fun _ _ _ h => h) (Or.inl ⟨by rfl, ?_⟩) hH ?_
                        case refine_2 => intro w hSw; go_simp; try with_reducible rfl
                        try simp only [Z1, Z2, Z3, Z4, Z5, Z6, Z7]
                        refine wpAnyH_take (i := 23) (v := ?_) rfl (by kernel_rfl) (by kernel_rfl) (by kernel_rfl) (fun _ _ _ h => h) (Or.inl ⟨by rfl, ?_⟩) hH ?_
                        case refine_2 => intro w hSw; go_simp; try with_reducible rfl
                        try simp only [Z1, Z2, Z3, Z4, Z5, Z6, Z7]
                        refine wpAnyH_take (i := 24) (v := ?_) rfl (by kernel_rfl) (by kernel_rfl) (by kernel_rfl) (fun _ _ _ h => h) (Or.inl ⟨by rfl, ?_⟩) hH ?_
                        case refine_2 => intro w hSw; go_simp; try with_reducible rfl
                        try simp only [Z1, Z2, Z3, Z4, Z5, Z6, Z7]
                        refine wpAnyH_take (i := 25) (v := ?_) rfl (by kernel_rfl) (by kernel_rfl) (by kernel_rfl) (fun _ _ _ h => h) (Or.inl ⟨by rfl, ?_⟩) hH ?_
                        case refine_2 => intro w hSw; go_simp; try with_reducible rfl
                        try simp only [Z1, Z2, Z3, Z4, Z5, Z6, Z7]
                        refine wpAnyH_take (i := 26) (v := ?_) rfl (by kernel_rfl) (by kernel_rfl) (by kernel_rfl) (fun _ _ _ h => h) (Or.inl ⟨by rfl, ?_⟩) hH ?_
                        case refine_2 => intro w hSw; have hSw1 := hSw.2; replace hSw1 : Blk w wr.heap.size 58 #[.int .i64 o.kind, .int .i64 o.frm, .int .i64 o.dst, .int .u64 (o.term : Int), .int .u64 (o.index : Int), .int .u64 (o.logTerm : Int), .int .u64 (o.commit : Int), .slice Po o.ents.length co, .bool o.ok, .slice none 0 0] := hSw1; have n0 : w.cell? ⟨_, 0, none⟩ = some (.int .i64 o.kind) := Blk.cell hSw1 0; clear hSw hSw1; go_simp; try with_reducible rfl
                        try simp only [Z1, Z2, Z3, Z4, Z5, Z6, Z7]
                        refine wpAnyH_take (i := 27) (v := ?_) rfl (by kernel_rfl) (by kernel_rfl) (by kernel_rfl) (fun _ _ _ h => h) (Or.inl ⟨by rfl, ?_⟩) hH ?_
                        case refine_2 => intro w hSw; go_simp; try with_reducible rfl
                        try simp only [Z1, Z2, Z3, Z4, Z5, Z6, Z7]
                        refine wpAnyH_take (i := 28) (v := ?_) rfl (by kernel_rfl) (by kernel_rfl) (by kernel_rfl) (fun _ _ _ h => h) (Or.inl ⟨by rfl, ?_⟩) hH ?_
                        case refine_2 => intro w hSw; go_simp; try with_reducible rfl
                        try simp only [Z1, Z2, Z3, Z4, Z5, Z6, Z7]
                        refine wpAnyH_take (i := 29) (v := undef) rfl (by kernel_rfl) (by kernel_rfl) (by kernel_rfl) (fun _ _ _ h => h) (Or.inr ⟨by rfl, rfl⟩) hH ?_
                        try simp only [Z1, Z2, Z3, Z4, Z5, Z6, Z7]
                        refine wpAnyH_take (i := 30) (v := undef) rfl (by kernel_rfl) (by kernel_rfl) (by kernel_rfl) (fun _ _ _ h => h) (Or.inr ⟨by rfl, rfl⟩) hH ?_
                        try simp only [Z1, Z2, Z3, Z4, Z5, Z6, Z7]
                        refine wpAnyH_take (i := 31) (v := undef) rfl (by kernel_rfl) (by kernel_rfl) (by kernel_rfl) (fun _ _ _ h => h) (Or.inr ⟨by rfl, rfl⟩) hH ?_
                        try simp only [Z1, Z2, Z3, Z4, Z5, Z6, Z7]
                        refine wpAnyH_take (i := 32) (v := undef) rfl (by kernel_rfl) (by kernel_rfl) (by kernel_rfl) (fun _ _ _ h => h) (Or.inr ⟨by rfl, rfl⟩) hH ?_
                        try simp only [Z1, Z2, Z3, Z4, Z5, Z6, Z7]
                        refine wpAnyH_take (i := 33) (v := undef) rfl (by kernel_rfl) (by kernel_rfl) (by kernel_rfl) (fun _ _ _ h => h) (Or.inr ⟨by rfl, rfl⟩) hH ?_
                        try simp only [Z1, Z2, Z3, Z4, Z5, Z6, Z7]
                        refine wpAnyH_take (i := 34) (v := undef) rfl (by kernel_rfl) (by kernel_rfl) (by kernel_rfl) (fun _ _ _ h => h) (Or.inr ⟨by rfl, rfl⟩) hH ?_
                        try simp only [Z1, Z2, Z3, Z4, Z5, Z6, Z7]
                        refine wpAnyH_take (i := 35) (v := undef) rfl (by kernel_rfl) (by kernel_rfl) (by kernel_rfl) (fun _ _ _ h => h) (Or.inr ⟨by rfl, rfl⟩) hH ?_
                        try simp only [Z1, Z2, Z3, Z4, Z5, Z6, Z7]
                        refine wpAnyH_take (i := 36) (v := undef) rfl (by kernel_rfl) (by kernel_rfl) (by kernel_rfl) (fun _ _ _ h => h) (Or.inr ⟨by rfl, rfl⟩) hH ?_
                        try simp only [Z1, Z2, Z3, Z4, Z5, Z6, Z7]
                        refine wpAnyH_take (i := 37) (v := undef) rfl (by kernel_rfl) (by kernel_rfl) (by kernel_rfl) (fun _ _ _ h => h) (Or.inr ⟨by rfl, rfl⟩) hH ?_
                        try simp only [Z1, Z2, Z3, Z4, Z5, Z6, Z7]
                        refine wpAnyH_take (i := 38) (v := undef) rfl (by kernel_rfl) (by kernel_rfl) (by kernel_rfl) (fun _ _ _ h => h) (Or.inr ⟨by rfl, rfl⟩) hH ?_
                        try simp only [Z1, Z2, Z3, Z4, Z5, Z6, Z7]
                        refine wpAnyH_take (i := 39) (v := ?_) rfl (by kernel_rfl) (by kernel_rfl) (by kernel_rfl) (fun _ _ _ h => h) (Or.inl ⟨by rfl, ?_⟩) hH ?_
                        case refine_2 => intro w hSw; go_simp; try with_reducible rfl
                        try simp only [Z1, Z2, Z3, Z4, Z5, Z6, Z7]
                        refine wpAnyH_take (i := 40) (v := ?_) rfl (by kernel_rfl) (by kernel_rfl) (by kernel_rfl) (fun _ _ _ h => h) (Or.inl ⟨by rfl, ?_⟩) hH ?_
                        case refine_2 => intro w hSw; go_simp; try with_reducible rfl
                        try simp only [Z1, Z2, Z3, Z4, Z5, Z6, Z7]
                        refine wpAnyH_done (by kernel_rfl) ?_ _
                        refine NoPanic.normal ?_
                        clear hH
                        go_wp2_with fail
                        go_meet
                        case rel => exact ⟨rfl, (Below.refl _ _).drew⟩
                      · have g6 : (o.kind != 2) = true := by rw [bne_iff_ne]; exact hk2
                        have g7 := h6.out hk2
                        have g7i : ¬ (d2.term : Int) + 1 < (o.term : Int) := by omega
                        have g7n : ¬ d2.term + 1 < o.term := by omega
                        have vw : IntKind.u64.wrap ((d2.term : Int) + 1) = (d2.term : Int) + 1 := by have := NI2.ter; simp [IntKind.wrap, IntKind.bits, IntKind.signed]; omega
                        clear hk2 h6 g7
                        refine wp_region_noPanic ?_
                        refine wp_region_held_drew (S := fun Y => NodeAt Y g S9 (.slice Al d2.log.length ec) V9 M9 X9 d2 ∧ Blk Y wr.heap.size 58 #[.int .i64 o.kind, .int .i64 o.frm, .int .i64 o.dst, .int .u64 (o.term : Int), .int .u64 (o.index : Int), .int .u64 (o.logTerm : Int), .int .u64 (o.commit : Int), .slice Po o.ents.length co, .bool o.ok, .slice none 0 0]) (by kernel_rfl) kS (fun hH => ?_)
                        refine wpAnyH_take (i := 0) (v := ?_) rfl (by kernel_rfl) (by kernel_rfl) (by kernel_rfl) (fun _ _ _ h => h) (Or.inl ⟨by rfl, ?_⟩) hH ?_
                        case refine_2 => intro w hSw; go_simp; try with_reducible rfl
                        try simp only [Z1, Z2, Z4, Z5, Z6, Z7]
                        refine wpAnyH_take (i := 1) (v := ?_) rfl (by kernel_rfl) (by kernel_rfl) (by kernel_rfl) (fun _ _ _ h => h) (Or.inl ⟨by rfl, ?_⟩) hH ?_
                        case refine_2 => intro w hSw; have hSw1 := hSw.2; replace hSw1 : Blk w wr.heap.size 58 #[.int .i64 o.kind, .int .i64 o.frm, .int .i64 o.dst, .int .u64 (o.term : Int), .int .u64 (o.index : Int), .int .u64 (o.logTerm : Int), .int .u64 (o.commit : Int), .slice Po o.ents.length co, .bool o.ok, .slice none 0 0] := hSw1; have n1 : w.cell? ⟨_, 1, none⟩ = some (.int .i64 o.frm) := Blk.cell hSw1 1; clear hSw hSw1; go_simp; try with_reducible rfl
                        try simp only [Z1, Z2, Z3, Z4, Z5, Z6, Z7]
                        refine wpAnyH_take (i := 2) (v := ?_) rfl (by kernel_rfl) (by kernel_rfl) (by kernel_rfl) (fun _ _ _ h => h) (Or.inl ⟨by rfl, ?_⟩) hH ?_
                        case refine_2 => intro w hSw; go_simp; try with_reducible rfl
                        try simp only [Z1, Z2, Z3, Z4, Z5, Z6, Z7]
                        refine wpAnyH_take (i := 3) (v := ?_) rfl (by kernel_rfl) (by kernel_rfl) (by kernel_rfl) (fun _ _ _ h => h) (Or.inl ⟨by rfl, ?_⟩) hH ?_
                        case refine_2 => intro w hSw; go_simp; try with_reducible rfl
                        try simp only [Z1, Z2, Z3, Z4, Z5, Z6, Z7]
                        refine wpAnyH_take (i := 4) (v := ?_) rfl (by kernel_rfl) (by kernel_rfl) (by kernel_rfl) (fun _ _ _ h => h) (Or.inl ⟨by rfl, ?_⟩) hH ?_
                        case refine_2 => intro w hSw; go_simp; try with_reducible rfl
                        try simp only [Z1, Z2, Z3, Z4, Z5, Z6, Z7]
                        refine wpAnyH_take (i := 5) (v := ?_) rfl (by kernel_rfl) (by kernel_rfl) (by kernel_rfl) (fun _ _ _ h => h) (Or.inl ⟨by rfl, ?_⟩) hH ?_
                        case refine_2 => intro w hSw; have hSw1 := hSw.2; replace hSw1 : Blk w wr.heap.size 58 #[.int .i64 o.kind, .int .i64 o.frm, .int .i64 o.dst, .int .u64 (o.term : Int), .int .u64 (o.index : Int), .int .u64 (o.logTerm : Int), .int .u64 (o.commit : Int), .slice Po o.ents.length co, .bool o.ok, .slice none 0 0] := hSw1; have n2 : w.cell? ⟨_, 2, none⟩ = some (.int .i64 o.dst) := Blk.cell hSw1 2; clear hSw hSw1; go_simp; try with_reducible rfl
                        try simp only [Z1, Z2, Z3, Z4, Z5, Z6, Z7]
                        refine wpAnyH_take (i := 6) (v := ?_) rfl (by kernel_rfl) (by kernel_rfl) (by kernel_rfl) (fun _ _ _ h => h) (Or.inl ⟨by rfl, ?_⟩) hH ?_
                        case refine_2 => intro w hSw; go_simp; try with_reducible rfl
                        try simp only [Z1, Z2, Z3, Z4, Z5, Z6, Z7]
                        refine wpAnyH_take (i := 7) (v := ?_) rfl (by kernel_rfl) (by kernel_rfl) (by kernel_rfl) (fun _ _ _ h => h) (Or.inl ⟨by rfl, ?_⟩) hH ?_
                        case refine_2 => intro w hSw; go_simp; try with_reducible rfl
                        try simp only [Z1, Z2, Z3, Z4, Z5, Z6, Z7]
                        refine wpAnyH_take (i := 8) (v := ?_) rfl (by kernel_rfl) (by kernel_rfl) (by kernel_rfl) (fun _ _ _ h => h) (Or.inl ⟨by rfl, ?_⟩) hH ?_
                        case refine_2 => intro w hSw; go_simp; try with_reducible rfl
                        try simp only [Z1, Z2, Z3, Z4, Z5, Z6, Z7]
                        refine wpAnyH_take (i := 9) (v := ?_) rfl (by kernel_rfl) (by kernel_rfl) (by kernel_rfl) (fun _ _ _ h => h) (Or.inl ⟨by rfl, ?_⟩) hH ?_
                        case refine_2 => intro w hSw; go_simp; try with_reducible rfl
                        try simp only [Z1, Z2, Z3, Z4, Z5, Z6, Z7]
                        refine wpAnyH_take (i := 10) (v := ?_) rfl (by kernel_rfl) (by kernel_rfl) (by kernel_rfl) (fun _ _ _ h => h) (Or.inl ⟨by rfl, ?_⟩) hH ?_
                        case refine_2 => intro w hSw; have hSw1 := hSw.2; replace hSw1 : Blk w wr.heap.size 58 #[.int .i64 o.kind, .int .i64 o.frm, .int .i64 o.dst, .int .u64 (o.term : Int), .int .u64 (o.index : Int), .int .u64 (o.logTerm : Int), .int .u64 (o.commit : Int), .slice Po o.ents.length co, .bool o.ok, .slice none 0 0] := hSw1; have n2 : w.cell? ⟨_, 2, none⟩ = some (.int .i64 o.dst) := Blk.cell hSw1 2; clear hSw hSw1; go_simp; try with_reducible rfl
                        try simp only [Z1, Z2, Z3, Z4, Z5, Z6, Z7]
                        refine wpAnyH_take (i := 11) (v := ?_) rfl (by kernel_rfl) (by kernel_rfl) (by kernel_rfl) (fun _ _ _ h => h) (Or.inl ⟨by rfl, ?_⟩) hH ?_
                        case refine_2 => intro w hSw; go_simp; try with_reducible rfl
                        try simp only [Z1, Z2, Z3, Z4, Z5, Z6, Z7]
                        refine wpAnyH_take (i := 12) (v := ?_) rfl (by kernel_rfl) (by kernel_rfl) (by kernel_rfl) (fun _ _ _ h => h) (Or.inl ⟨by rfl, ?_⟩) hH ?_
                        case refine_2 => intro w hSw; go_simp; try with_reducible rfl
                        try simp only [Z1, Z2, Z3, Z4, Z5, Z6, Z7]
                        refine wpAnyH_take (i := 13) (v := ?_) rfl (by kernel_rfl) (by kernel_rfl) (by kernel_rfl) (fun _ _ _ h => h) (Or.inl ⟨by rfl, ?_⟩) hH ?_
                        case refine_2 => intro w hSw; go_simp; try with_reducible rfl
                        try simp only [Z1, Z2, Z3, Z4, Z5, Z6, Z7]
                        refine wpAnyH_take (i := 14) (v := ?_) rfl (by kernel_rfl) (by kernel_rfl) (by kernel_rfl) (fun _ _ _ h => h) (Or.inl ⟨by rfl, ?_⟩) hH ?_
                        case refine_2 => intro w hSw; go_simp; try with_reducible rfl
                        try simp only [Z1, Z2, Z3, Z4, Z5, Z6, Z7]
                        refine wpAnyH_take (i := 15) (v := ?_) rfl (by kernel_rfl) (by kernel_rfl) (by kernel_rfl) (fun _ _ _ h => h) (Or.inl ⟨by rfl, ?_⟩) hH ?_
                        case refine_2 => intro w hSw; go_simp; try with_reducible rfl
                        try simp only [Z1, Z2, Z3, Z4, Z5, Z6, Z7]
                        refine wpAnyH_take (i := 16) (v := ?_) rfl (by kernel_rfl) (by kernel_rfl) (by kernel_rfl) (fun _ _ _ h => h) (Or.inl ⟨by rfl, ?_⟩) hH ?_
                        case refine_2 => intro w hSw; have hSw1 := hSw.2; replace hSw1 : Blk w wr.heap.size 58 #[.int .i64 o.kind, .int .i64 o.frm, .int .i64 o.dst, .int .u64 (o.term : Int), .int .u64 (o.index : Int), .int .u64 (o.logTerm : Int), .int .u64 (o.commit : Int), .slice Po o.ents.length co, .bool o.ok, .slice none 0 0] := hSw1; have n0 : w.cell? ⟨_, 0, none⟩ = some (.int .i64 o.kind) := Blk.cell hSw1 0; clear hSw hSw1; go_simp; try with_reducible rfl
                        try simp only [Z1, Z2, Z3, Z4, Z5, Z6, Z7]
                        refine wpAnyH_take (i := 17) (v := ?_) rfl (by kernel_rfl) (by kernel_rfl) (by kernel_rfl) (fun _ _ _ h => h) (Or.inl ⟨by rfl, ?_⟩) hH ?_
                        case refine_2 => intro w hSw; go_simp; try with_reducible rfl
                        try simp only [Z1, Z2, Z3, Z4, Z5, Z6, Z7]
                        refine wpAnyH_take (i := 18) (v := ?_) rfl (by kernel_rfl) (by kernel_rfl) (by kernel_rfl) (fun _ _ _ h => h) (Or.inl ⟨by rfl, ?_⟩) hH ?_
                        case refine_2 => intro w hSw; go_simp; try with_reducible rfl
                        try simp only [Z1, Z2, Z3, Z4, Z5, Z6, Z7]
                        refine wpAnyH_take (i := 19) (v := ?_) rfl (by kernel_rfl) (by kernel_rfl) (by kernel_rfl) (fun _ _ _ h => h) (Or.inl ⟨by rfl, ?_⟩) hH ?_
                        case refine_2 => intro w hSw; go_simp; try with_reducible rfl
                        try simp only [Z1, Z2, Z3, Z4, Z5, Z6, Z7]
                        refine wpAnyH_take (i := 20) (v := ?_) rfl (by kernel_rfl) (by kernel_rfl) (by kernel_rfl) (fun _ _ _ h => h) (Or.inl ⟨by rfl, ?_⟩) hH ?_
                        case refine_2 => intro w hSw; go_simp; try with_reducible rfl
                        try simp only [Z1, Z2, Z3, Z4, Z5, Z6, Z7]
                        refine wpAnyH_take (i := 21) (v := ?_) rfl (by kernel_rfl) (by kernel_rfl) (by kernel_rfl) (fun _ _ _ h => h) (Or.inl ⟨by rfl, ?_⟩) hH ?_
                        case refine_2 => intro w hSw; have hSw1 := hSw.2; replace hSw1 : Blk w wr.heap.size 58 #[.int .i64 o.kind, .int .i64 o.frm, .int .i64 o.dst, .int .u64 (o.term : Int), .int .u64 (o.index : Int), .int .u64 (o.logTerm : Int), .int .u64 (o.commit : Int), .slice Po o.ents.length co, .bool o.ok, .slice none 0 0] := hSw1; have n0 : w.cell? ⟨_, 0, none⟩ = some (.int .i64 o.kind) := Blk.cell hSw1 0; clear hSw hSw1; go_simp; try with_reducible rfl
                        try simp only [Z1, Z2, Z3, Z4, Z5, Z6, Z7]
                        refine wpAnyH_take (i := 22) (v := ?_) rfl (by kernel_rfl) (by kernel_rfl) (by kernel_rfl) (fun _ _ _ h => h) (Or.inl ⟨by rfl, ?_⟩) hH ?_
                        case refine_2 => intro w hSw; go_simp; try with_reducible rfl
                        try simp only [Z1, Z2, Z3, Z4, Z5, Z6, Z7]
                        refine wpAnyH_take (i := 23) (v := ?_) rfl (by kernel_rfl) (by kernel_rfl) (by kernel_rfl) (fun _ _ _ h => h) (Or.inl ⟨by rfl, ?_⟩) hH ?_
                        case refine_2 => intro w hSw; go_simp; try with_reducible rfl
                        try simp only [Z1, Z2, Z3, Z4, Z5, Z6, Z7]
                        refine wpAnyH_take (i := 24) (v := ?_) rfl (by kernel_rfl) (by kernel_rfl) (by kernel_rfl) (fun _ _ _ h => h) (Or.inl ⟨by rfl, ?_⟩) hH ?_
                        case refine_2 => intro w hSw; go_simp; try with_reducible rfl
                        try simp only [Z1, Z2, Z3, Z4, Z5, Z6, Z7]
                        refine wpAnyH_take (i := 25) (v := ?_) rfl (by kernel_rfl) (by kernel_rfl) (by kernel_rfl) (fun _ _ _ h => h) (Or.inl ⟨by rfl, ?_⟩) hH ?_
                        case refine_2 => intro w hSw; go_simp; try with_reducible rfl
                        try simp only [Z1, Z2, Z3, Z4, Z5, Z6, Z7]
                        refine wpAnyH_take (i := 26) (v := ?_) rfl (by kernel_rfl) (by kernel_rfl) (by kernel_rfl) (fun _ _ _ h => h) (Or.inl ⟨by rfl, ?_⟩) hH ?_
                        case refine_2 => intro w hSw; have hSw1 := hSw.2; replace hSw1 : Blk w wr.heap.size 58 #[.int .i64 o.kind, .int .i64 o.frm, .int .i64 o.dst, .int .u64 (o.term : Int), .int .u64 (o.index : Int), .int .u64 (o.logTerm : Int), .int .u64 (o.commit : Int), .slice Po o.ents.length co, .bool o.ok, .slice none 0 0] := hSw1; have n0 : w.cell? ⟨_, 0, none⟩ = some (.int .i64 o.kind) := Blk.cell hSw1 0; clear hSw hSw1; go_simp; try with_reducible rfl
                        try simp only [Z1, Z2, Z3, Z4, Z5, Z6, Z7]
                        refine wpAnyH_take (i := 27) (v := ?_) rfl (by kernel_rfl) (by kernel_rfl) (by kernel_rfl) (fun _ _ _ h => h) (Or.inl ⟨by rfl, ?_⟩) hH ?_
                        case refine_2 => intro w hSw; go_simp; try with_reducible rfl
                        try simp only [Z1, Z2, Z3, Z4, Z5, Z6, Z7]
                        refine wpAnyH_take (i := 28) (v := ?_) rfl (by kernel_rfl) (by kernel_rfl) (by kernel_rfl) (fun _ _ _ h => h) (Or.inl ⟨by rfl, ?_⟩) hH ?_
                        case refine_2 => intro w hSw; go_simp; try with_reducible rfl
                        try simp only [Z1, Z2, Z3, Z4, Z5, Z6, Z7]
                        refine wpAnyH_take (i := 29) (v := ?_) rfl (by kernel_rfl) (by kernel_rfl) (by kernel_rfl) (fun _ _ _ h => h) (Or.inl ⟨by rfl, ?_⟩) hH ?_
                        case refine_2 => intro w hSw; go_simp; try with_reducible rfl
                        try simp only [Z1, Z2, Z3, Z4, Z5, Z6, Z7]
                        refine wpAnyH_take (i := 30) (v := ?_) rfl (by kernel_rfl) (by kernel_rfl) (by kernel_rfl) (fun _ _ _ h => h) (Or.inl ⟨by rfl, ?_⟩) hH ?_
                        case refine_2 => intro w hSw; have hSw1 := hSw.2; replace hSw1 : Blk w wr.heap.size 58 #[.int .i64 o.kind, .int .i64 o.frm, .int .i64 o.dst, .int .u64 (o.term : Int), .int .u64 (o.index : Int), .int .u64 (o.logTerm : Int), .int .u64 (o.commit : Int), .slice Po o.ents.length co, .bool o.ok, .slice none 0 0] := hSw1; have n3 : w.cell? ⟨_, 3, none⟩ = some (.int .u64 (o.term : Int)) := Blk.cell hSw1 3; clear hSw hSw1; go_simp; try with_reducible rfl
                        try simp only [Z1, Z2, Z3, Z4, Z5, Z6, Z7]
                        refine wpAnyH_take (i := 31) (v := ?_) rfl (by kernel_rfl) (by kernel_rfl) (by kernel_rfl) (fun _ _ _ h => h) (Or.inl ⟨by rfl, ?_⟩) hH ?_
                        case refine_2 => intro w hSw; go_simp; try with_reducible rfl
                        try simp only [Z1, Z2, Z3, Z4, Z5, Z6, Z7]
                        refine wpAnyH_take (i := 32) (v := ?_) rfl (by kernel_rfl) (by kernel_rfl) (by kernel_rfl) (fun _ _ _ h => h) (Or.inl ⟨by rfl, ?_⟩) hH ?_
                        case refine_2 => intro w hSw; go_simp; try with_reducible rfl
                        try simp only [Z1, Z2, Z3, Z4, Z5, Z6, Z7]
                        refine wpAnyH_take (i := 33) (v := ?_) rfl (by kernel_rfl) (by kernel_rfl) (by kernel_rfl) (fun _ _ _ h => h) (Or.inl ⟨by rfl, ?_⟩) hH ?_
                        case refine_2 => intro w hSw; go_simp; try with_reducible rfl
                        try simp only [Z1, Z2, Z3, Z4, Z5, Z6, Z7]
                        refine wpAnyH_take (i := 34) (v := ?_) rfl (by kernel_rfl) (by kernel_rfl) (by kernel_rfl) (fun _ _ _ h => h) (Or.inl ⟨by rfl, ?_⟩) hH ?_
                        case refine_2 => intro w hSw; go_simp; try with_reducible rfl
                        try simp only [Z1, Z2, Z3, Z4, Z5, Z6, Z7]
                        refine wpAnyH_take (i := 35) (v := ?_) rfl (by kernel_rfl) (by kernel_rfl) (by kernel_rfl) (fun _ _ _ h => h) (Or.inl ⟨by rfl, ?_⟩) hH ?_
                        case refine_2 => intro w hSw; go_simp; try with_reducible rfl
                        try simp only [Z1, Z2, Z3, Z4, Z5, Z6, Z7]
                        refine wpAnyH_take (i := 36) (v := ?_) rfl (by kernel_rfl) (by kernel_rfl) (by kernel_rfl) (fun _ _ _ h => h) (Or.inl ⟨by rfl, ?_⟩) hH ?_
                        case refine_2 => intro w hSw; have hSw1 := hSw.1.blk; replace hSw1 : Blk w g 48 (nodeC (.slice Al d2.log.length ec) V9 M9 X9 d2) := hSw1; have n0 : w.cell? ⟨_, 0, none⟩ = some (.int .u64 (d2.term : Int)) := Blk.cell hSw1 0; clear hSw hSw1; go_simp; try with_reducible rfl
                        try simp only [Z1, Z2, Z3, Z4, Z5, Z6, Z7]
                        refine wpAnyH_take (i := 37) (v := ?_) rfl (by kernel_rfl) (by kernel_rfl) (by kernel_rfl) (fun _ _ _ h => h) (Or.inl ⟨by rfl, ?_⟩) hH ?_
                        case refine_2 => intro w hSw; go_simp; try with_reducible rfl
                        try simp only [Z1, Z2, Z3, Z4, Z5, Z6, Z7]
                        refine wpAnyH_take (i := 38) (v := ?_) rfl (by kernel_rfl) (by kernel_rfl) (by kernel_rfl) (fun _ _ _ h => h) (Or.inl ⟨by rfl, ?_⟩) hH ?_
                        case refine_2 => intro w hSw; go_simp; try with_reducible rfl
                        try simp only [Z1, Z2, Z3, Z4, Z5, Z6, Z7]
                        refine wpAnyH_take (i := 39) (v := ?_) rfl (by kernel_rfl) (by kernel_rfl) (by kernel_rfl) (fun _ _ _ h => h) (Or.inl ⟨by rfl, ?_⟩) hH ?_
                        case refine_2 => intro w hSw; go_simp; try with_reducible rfl
                        try simp only [Z1, Z2, Z3, Z4, Z5, Z6, Z7]
                        refine wpAnyH_take (i := 40) (v := ?_) rfl (by kernel_rfl) (by kernel_rfl) (by kernel_rfl) (fun _ _ _ h => h) (Or.inl ⟨by rfl, ?_⟩) hH ?_
                        case refine_2 => intro w hSw; go_simp; try with_reducible rfl
                        try simp only [Z1, Z2, Z3, Z4, Z5, Z6, Z7]
                        refine wpAnyH_done (by kernel_rfl) ?_ _
                        refine NoPanic.normal ?_
                        clear hH
                        go_wp2_with fail
                        go_meet
                        case rel => exact ⟨rfl, (Below.refl _ _).drew⟩
                  case rest =>
                  as_aux_lemma =>
                  obtain ⟨rfl, bw⟩ := hcut
                  have bz := below_step bo bw
                  clear kS g1 g2 g3 g4 g5 h6 bo bw
                  go_wp2_with fail
                  go_roundw
                  case rel => exact ⟨k + 1, by omega, by simp, bz⟩
                  case measure => simp [intOf]; omega
                · obtain rfl : k = ms2.length := by omega
                  have hlti : ¬ (ms2.length : Int) < (ms2.length : Int) := by omega
                  obtain ⟨S9, E9, V9, M9, X9, N9, hF9⟩ := D10.new bk
                  obtain ⟨Al, ec, rfl⟩ := N9.log.shape
                  have b9 := below_step b010 bk
                  obtain ⟨ln, hln⟩ : ∃ ln, ln = lastN d2 := ⟨_, rfl⟩
                  obtain ⟨tl, htl⟩ : ∃ tl, tl = (termAt d2 ln).1 := ⟨_, rfl⟩
                  obtain ⟨tq, hto⟩ : ∃ tq, tq = (termAt d2 (ln + 1)).1 := ⟨_, rfl⟩
                  have hln2 : ln = d2.base + d2.log.length := hln
                  have l1 : (termAt d2 ln).2 = true := by rw [hln]; exact LO.1
                  have l2x : ¬ d2.term < tl := by have := LO.2.1; rw [← hln, ← htl] at this; omega
                  have l2i : ¬ (d2.term : Int) < (tl : Int) := by omega
                  have l3 : (termAt d2 (ln + 1)).2 = false := by rw [hln]; exact LO.2.2.1
                  have l4 : fromR d2 (ln + 1) = [] := by rw [hln]; exact LO.2.2.2.1
                  have l5 : fromR d2 0 = d2.log := LO.2.2.2.2
                  have TLa := Lib.hid (fun (wz : World) (h : NodeAt wz g S9 (.slice Al d2.log.length ec) V9 M9 X9 d2) => last_any g Al ec V9 M9 X9 d2 wz h.blk RB2.gb.nb)
                  have TT1 := Lib.hid (fun (wz : World) (h : NodeAt wz g S9 (.slice Al d2.log.length ec) V9 M9 X9 d2) => termat_any g Al ec V9 M9 X9 Any d2 ln wz h.blk (h.slS RB2.gb.len32) RB2.gb.nb (by omega))
                  have TT2 := Lib.hid (fun (wz : World) (h : NodeAt wz g S9 (.slice Al d2.log.length ec) V9 M9 X9 d2) => termat_any g Al ec V9 M9 X9 Any d2 (ln + 1) wz h.blk (h.slS RB2.gb.len32) RB2.gb.nb (by omega))
                  have TF1 := Lib.hid (fun (wz : World) (h : NodeAt wz g S9 (.slice Al d2.log.length ec) V9 M9 X9 d2) => from_any g Al ec V9 M9 X9 Any d2 (ln + 1) wz h.blk (h.slS RB2.gb.len32) h.log.caps.1 RB2.gb.nb)
                  have TF0 := Lib.hid (fun (wz : World) (h : NodeAt wz g S9 (.slice Al d2.log.length ec) V9 M9 X9 d2) => from_any g Al ec V9 M9 X9 Any d2 0 wz h.blk (h.slS RB2.gb.len32) h.log.caps.1 RB2.gb.nb)
                  rw [← hln] at TLa
                  rw [← htl, l1] at TT1
                  rw [← hto, l3] at TT2
                  rw [l4] at TF1
                  rw [l5] at TF0
                  have vw1 : IntKind.u64.wrap ((ln : Int) + 1) = (ln : Int) + 1 := by simp [IntKind.wrap, IntKind.bits, IntKind.signed]; omega
                  have vw2 : IntKind.u64.wrap ((ln : Int) - (d2.base : Int)) = (d2.log.length : Int) := by simp [IntKind.wrap, IntKind.bits, IntKind.signed]; omega
                  have vw3 : IntKind.u64.wrap (d2.log.length : Int) = (d2.log.length : Int) := by simp [IntKind.wrap, IntKind.bits, IntKind.signed]; omega
                  clear hln htl hto hln2 l1 l3 l4 l5 LO
                  have T := TLa.out wr N9
                  go_wp2_with fail
                  refine T.mono ?_
                  clear T
                  rintro en y11 ⟨rfl, q11, hq⟩
                  as_aux_lemma =>
                  have b11 : Below wr.heap.size wr y11 := by rw [hq]; exact below_drewN (Below.refl _ _) _
                  have N11 := N9.below b11
                  have T := TT1.out y11 N11
                  clear hq N9
                  go_wp2_with fail
                  refine T.mono ?_
                  clear T
                  rintro en y12 ⟨rfl, q12, hq⟩
                  as_aux_lemma =>
                  have b12 : Below wr.heap.size wr y12 := below_step b11 (by rw [hq]; exact below_drewN (Below.refl _ _) _)
                  have N12 : NodeAt y12 g S9 (.slice Al d2.log.length ec) V9 M9 X9 d2 := N11.below (by rw [hq]; exact below_drewN (Below.refl _ _) _)
                  have T := TLa.out y12 N12
                  clear hq N11 b11
                  go_wp2_with fail
                  refine T.mono ?_
                  clear T
                  rintro en y13 ⟨rfl, q13, hq⟩
                  as_aux_lemma =>
                  have b13 : Below wr.heap.size wr y13 := below_step b12 (by rw [hq]; exact below_drewN (Below.refl _ _) _)
                  have N13 : NodeAt y13 g S9 (.slice Al d2.log.length ec) V9 M9 X9 d2 := N12.below (by rw [hq]; exact below_drewN (Below.refl _ _) _)
                  have T := TT2.out y13 N13
                  replace T : Calls Try.prog 23 #[.pointer (some ⟨g, 0, none⟩), .int .u64 ((ln : Int) + 1)] y13 _ := T
                  clear hq N12 b12
                  go_wp2_with fail
                  refine T.mono ?_
                  clear T
                  rintro en y14 ⟨rfl, q14, hq⟩
                  as_aux_lemma =>
                  have b14 : Below wr.heap.size wr y14 := below_step b13 (by rw [hq]; exact below_drewN (Below.refl _ _) _)
                  have N14 : NodeAt y14 g S9 (.slice Al d2.log.length ec) V9 M9 X9 d2 := N13.below (by rw [hq]; exact below_drewN (Below.refl _ _) _)
                  clear hq N13 b13
                  go_upto_region 44 with fail
                  as_aux_lemma =>
                  have b14d : Below wr.heap.size wr y14.drew := b14.drew
                  have kS := N14.below (w' := y14.drew) ((Below.refl _ _).drew)
                  clear N14 b14
                  refine wp_region_noPanic ?_
                  refine wp_region_held_drew (S := fun Y => NodeAt Y g S9 (.slice Al d2.log.length ec) V9 M9 X9 d2) (by kernel_rfl) kS (fun hH => ?_)
                  refine wpAnyH_take (i := 0) (v := ?_) rfl (by kernel_rfl) (by kernel_rfl) (by kernel_rfl) (fun _ _ _ h => h) (Or.inl ⟨by rfl, ?_⟩) hH ?_
                  case refine_2 => intro w hSw; go_simp; try with_reducible rfl
                  try simp only [Z1, Z2, Z4, Z5, Z6, Z7]
                  refine wpAnyH_take (i := 1) (v := ?_) rfl (by kernel_rfl) (by kernel_rfl) (by kernel_rfl) (fun _ _ _ h => h) (Or.inl ⟨by rfl, ?_⟩) hH ?_
                  case refine_2 => intro w hSw; go_simp; try with_reducible rfl
                  try simp only [Z1, Z2, Z3, Z4, Z5, Z6, Z7]
                  refine wpAnyH_take (i := 2) (v := ?_) rfl (by kernel_rfl) (by kernel_rfl) (by kernel_rfl) (fun _ _ _ h => h) (Or.inl ⟨by rfl, ?_⟩) hH ?_
                  case refine_2 => intro w hSw; go_simp; try with_reducible rfl
                  try simp only [Z1, Z2, Z3, Z4, Z5, Z6, Z7]
                  refine wpAnyH_take (i := 3) (v := ?_) rfl (by kernel_rfl) (by kernel_rfl) (by kernel_rfl) (fun _ _ _ h => h) (Or.inl ⟨by rfl, ?_⟩) hH ?_
                  case refine_2 => intro w hSw; go_simp; try with_reducible rfl
                  try simp only [Z1, Z2, Z3, Z4, Z5, Z6, Z7]
                  refine wpAnyH_take (i := 4) (v := ?_) rfl (by kernel_rfl) (by kernel_rfl) (by kernel_rfl) (fun _ _ _ h => h) (Or.inl ⟨by rfl, ?_⟩) hH ?_
                  case refine_2 => intro w hSw; go_simp; try with_reducible rfl
                  try simp only [Z1, Z2, Z3, Z4, Z5, Z6, Z7]
                  refine wpAnyH_take (i := 5) (v := ?_) rfl (by kernel_rfl) (by kernel_rfl) (by kernel_rfl) (fun _ _ _ h => h) (Or.inl ⟨by rfl, ?_⟩) hH ?_
                  case refine_2 => intro w hSw; go_simp; try with_reducible rfl
                  try simp only [Z1, Z2, Z3, Z4, Z5, Z6, Z7]
                  refine wpAnyH_take (i := 6) (v := ?_) rfl (by kernel_rfl) (by kernel_rfl) (by kernel_rfl) (fun _ _ _ h => h) (Or.inl ⟨by rfl, ?_⟩) hH ?_
                  case refine_2 => intro w hSw; go_simp; try with_reducible rfl
                  try simp only [Z1, Z2, Z3, Z4, Z5, Z6, Z7]
                  refine wpAnyH_take (i := 7) (v := ?_) rfl (by kernel_rfl) (by kernel_rfl) (by kernel_rfl) (fun _ _ _ h => h) (Or.inl ⟨by rfl, ?_⟩) hH ?_
                  case refine_2 => intro w hSw; go_simp; try with_reducible rfl
                  try simp only [Z1, Z2, Z3, Z4, Z5, Z6, Z7]
                  refine wpAnyH_take (i := 8) (v := ?_) rfl (by kernel_rfl) (by kernel_rfl) (by kernel_rfl) (fun _ _ _ h => h) (Or.inl ⟨by rfl, ?_⟩) hH ?_
                  case refine_2 => intro w hSw; go_simp; try with_reducible rfl
                  try simp only [Z1, Z2, Z3, Z4, Z5, Z6, Z7]
                  refine wpAnyH_take (i := 9) (v := ?_) rfl (by kernel_rfl) (by kernel_rfl) (by kernel_rfl) (fun _ _ _ h => h) (Or.inl ⟨by rfl, ?_⟩) hH ?_
                  case refine_2 => intro w hSw; go_simp; try with_reducible rfl
                  try simp only [Z1, Z2, Z3, Z4, Z5, Z6, Z7]
                  refine wpAnyH_take (i := 10) (v := ?_) rfl (by kernel_rfl) (by kernel_rfl) (by kernel_rfl) (fun _ _ _ h => h) (Or.inl ⟨by rfl, ?_⟩) hH ?_
                  case refine_2 => intro w hSw; go_simp; try with_reducible rfl
                  try simp only [Z1, Z2, Z3, Z4, Z5, Z6, Z7]
                  refine wpAnyH_take (i := 11) (v := ?_) rfl (by kernel_rfl) (by kernel_rfl) (by kernel_rfl) (fun _ _ _ h => h) (Or.inl ⟨by rfl, ?_⟩) hH ?_
                  case refine_2 => intro w hSw; go_simp; try with_reducible rfl
                  try simp only [Z1, Z2, Z3, Z4, Z5, Z6, Z7]
                  refine wpAnyH_take (i := 12) (v := ?_) rfl (by kernel_rfl) (by kernel_rfl) (by kernel_rfl) (fun _ _ _ h => h) (Or.inl ⟨by rfl, ?_⟩) hH ?_
                  case refine_2 => intro w hSw; have hSw1 := hSw.blk; replace hSw1 : Blk w g 48 (nodeC (.slice Al d2.log.length ec) V9 M9 X9 d2) := hSw1; have n0 : w.cell? ⟨_, 0, none⟩ = some (.int .u64 (d2.term : Int)) := Blk.cell hSw1 0; clear hSw hSw1; go_simp; try with_reducible rfl
                  try simp only [Z1, Z2, Z3, Z4, Z5, Z6, Z7]
                  refine wpAnyH_take (i := 13) (v := ?_) rfl (by kernel_rfl) (by kernel_rfl) (by kernel_rfl) (fun _ _ _ h => h) (Or.inl ⟨by rfl, ?_⟩) hH ?_
                  case refine_2 => intro w hSw; go_simp; try with_reducible rfl
                  try simp only [Z1, Z2, Z3, Z4, Z5, Z6, Z7]
                  refine wpAnyH_take (i := 14) (v := ?_) rfl (by kernel_rfl) (by kernel_rfl) (by kernel_rfl) (fun _ _ _ h => h) (Or.inl ⟨by rfl, ?_⟩) hH ?_
                  case refine_2 => intro w hSw; go_simp; try with_reducible rfl
                  try simp only [Z1, Z2, Z3, Z4, Z5, Z6, Z7]
                  refine wpAnyH_take (i := 15) (v := ?_) rfl (by kernel_rfl) (by kernel_rfl) (by kernel_rfl) (fun _ _ _ h => h) (Or.inl ⟨by rfl, ?_⟩) hH ?_
                  case refine_2 => intro w hSw; go_simp; try with_reducible rfl
                  try simp only [Z1, Z2, Z3, Z4, Z5, Z6, Z7]
                  refine wpAnyH_take (i := 16) (v := ?_) rfl (by kernel_rfl) (by kernel_rfl) (by kernel_rfl) (fun _ _ _ h => h) (Or.inl ⟨by rfl, ?_⟩) hH ?_
                  case refine_2 => intro w hSw; go_simp; try with_reducible rfl
                  try simp only [Z1, Z2, Z3, Z4, Z5, Z6, Z7]
                  refine wpAnyH_take (i := 17) (v := ?_) rfl (by kernel_rfl) (by kernel_rfl) (by kernel_rfl) (fun _ _ _ h => h) (Or.inl ⟨by rfl, ?_⟩) hH ?_
                  case refine_2 => intro w hSw; go_simp; try with_reducible rfl
                  try simp only [Z1, Z2, Z3, Z4, Z5, Z6, Z7]
                  refine wpAnyH_ready (rs := [18]) (by kernel_rfl) (by simp) ?_
                  refine AllReadyH.cons rfl (fun K hK => ?_) AllReadyH.nil
                  go_simp
                  refine (TLa.out y14.drew kS).mono ?_
                  rintro en z1 ⟨rfl, q1, hq1⟩
                  have bq1 : Below (y14.drew).heap.size (y14.drew) z1 := by rw [hq1]; exact below_drewN (Below.refl _ _) _
                  have kq1 := kS.below bq1
                  have bb1 := below_step b14d bq1
                  clear hq1
                  clear hH
                  refine hK.out _ _ kq1 (fun hH => ?_)
                  clear hK K
                  try dsimp only
                  try simp only [Z1, Z2, Z3, Z4, Z5, Z6, Z7]
                  refine wpAnyH_take (i := 19) (v := ?_) rfl (by kernel_rfl) (by kernel_rfl) (by kernel_rfl) (fun _ _ _ h => h) (Or.inl ⟨by rfl, ?_⟩) hH ?_
                  case refine_2 => intro w hSw; go_simp; try with_reducible rfl
                  try simp only [Z1, Z2, Z3, Z4, Z5, Z6, Z7]
                  refine wpAnyH_ready (rs := [20]) (by kernel_rfl) (by simp) ?_
                  refine AllReadyH.cons rfl (fun K hK => ?_) AllReadyH.nil
                  go_simp
                  refine (TF1.out z1 kq1).mono ?_
                  rintro en z2 ⟨Az2, cz2, rfl, _, bq2⟩
                  have kq2 := kq1.below bq2
                  have bb2 := below_step bb1 bq2
                  clear hH
                  refine hK.out _ _ kq2 (fun hH => ?_)
                  clear hK K
                  try dsimp only
                  try simp only [Z1, Z2, Z3, Z4, Z5, Z6, Z7]
                  refine wpAnyH_take (i := 21) (v := ?_) rfl (by kernel_rfl) (by kernel_rfl) (by kernel_rfl) (fun _ _ _ h => h) (Or.inl ⟨by rfl, ?_⟩) hH ?_
                  case refine_2 => intro w hSw; go_simp; try with_reducible rfl
                  try simp only [Z1, Z2, Z3, Z4, Z5, Z6, Z7]
                  refine wpAnyH_take (i := 22) (v := ?_) rfl (by kernel_rfl) (by kernel_rfl) (by kernel_rfl) (fun _ _ _ h => h) (Or.inl ⟨by rfl, ?_⟩) hH ?_
                  case refine_2 => intro w hSw; go_simp; try with_reducible rfl
                  try simp only [Z1, Z2, Z3, Z4, Z5, Z6, Z7]
                  refine wpAnyH_take (i := 23) (v := ?_) rfl (by kernel_rfl) (by kernel_rfl) (by kernel_rfl) (fun _ _ _ h => h) (Or.inl ⟨by rfl, ?_⟩) hH ?_
                  case refine_2 => intro w hSw; go_simp; try with_reducible rfl
                  try simp only [Z1, Z2, Z3, Z4, Z5, Z6, Z7]
                  refine wpAnyH_take (i := 24) (v := ?_) rfl (by kernel_rfl) (by kernel_rfl) (by kernel_rfl) (fun _ _ _ h => h) (Or.inl ⟨by rfl, ?_⟩) hH ?_
                  case refine_2 => intro w hSw; go_simp; try with_reducible rfl
                  try simp only [Z1, Z2, Z3, Z4, Z5, Z6, Z7]
                  refine wpAnyH_take (i := 25) (v := ?_) rfl (by kernel_rfl) (by kernel_rfl) (by kernel_rfl) (fun _ _ _ h => h) (Or.inl ⟨by rfl, ?_⟩) hH ?_
                  case refine_2 => intro w hSw; go_simp; try with_reducible rfl
                  try simp only [Z1, Z2, Z3, Z4, Z5, Z6, Z7]
                  refine wpAnyH_take (i := 29) (v := ?_) rfl (by kernel_rfl) (by kernel_rfl) (by kernel_rfl) (fun _ _ _ h => h) (Or.inl ⟨by rfl, ?_⟩) hH ?_
                  case refine_2 => intro w hSw; go_simp; try with_reducible rfl
                  try simp only [Z1, Z2, Z3, Z4, Z5, Z6, Z7]
                  refine wpAnyH_take (i := 31) (v := ?_) rfl (by kernel_rfl) (by kernel_rfl) (by kernel_rfl) (fun _ _ _ h => h) (Or.inl ⟨by rfl, ?_⟩) hH ?_
                  case refine_2 => intro w hSw; go_simp; try with_reducible rfl
                  try simp only [Z1, Z2, Z3, Z4, Z5, Z6, Z7]
                  refine wpAnyH_take (i := 32) (v := ?_) rfl (by kernel_rfl) (by kernel_rfl) (by kernel_rfl) (fun _ _ _ h => h) (Or.inl ⟨by rfl, ?_⟩) hH ?_
                  case refine_2 => intro w hSw; go_simp; try with_reducible rfl
                  try simp only [Z1, Z2, Z3, Z4, Z5, Z6, Z7]
                  refine wpAnyH_take (i := 33) (v := ?_) rfl (by kernel_rfl) (by kernel_rfl) (by kernel_rfl) (fun _ _ _ h => h) (Or.inl ⟨by rfl, ?_⟩) hH ?_
                  case refine_2 => intro w hSw; go_simp; try with_reducible rfl
                  try simp only [Z1, Z2, Z3, Z4, Z5, Z6, Z7]
                  refine wpAnyH_take (i := 34) (v := ?_) rfl (by kernel_rfl) (by kernel_rfl) (by kernel_rfl) (fun _ _ _ h => h) (Or.inl ⟨by rfl, ?_⟩) hH ?_
                  case refine_2 => intro w hSw; go_simp; try with_reducible rfl
                  try simp only [Z1, Z2, Z3, Z4, Z5, Z6, Z7]
                  refine wpAnyH_take (i := 35) (v := ?_) rfl (by kernel_rfl) (by kernel_rfl) (by kernel_rfl) (fun _ _ _ h => h) (Or.inl ⟨by rfl, ?_⟩) hH ?_
                  case refine_2 => intro w hSw; have hSw1 := hSw.blk; replace hSw1 : Blk w g 48 (nodeC (.slice Al d2.log.length ec) V9 M9 X9 d2) := hSw1; have n2 : w.cell? ⟨_, 2, none⟩ = some (.int .u64 (d2.base : Int)) := Blk.cell hSw1 2; clear hSw hSw1; go_simp; try with_reducible rfl
                  try simp only [Z1, Z2, Z3, Z4, Z5, Z6, Z7]
                  refine wpAnyH_ready (rs := [26]) (by kernel_rfl) (by simp) ?_
                  refine AllReadyH.cons rfl (fun K hK => ?_) AllReadyH.nil
                  go_simp
                  refine (TF0.out z2 kq2).mono ?_
                  rintro en z3 ⟨Az3, cz3, rfl, _, bq3⟩
                  have kq3 := kq2.below bq3
                  have bb3 := below_step bb2 bq3
                  clear hH
                  refine hK.out _ _ kq3 (fun hH => ?_)
                  clear hK K
                  try dsimp only
                  try simp only [Z1, Z2, Z3, Z4, Z5, Z6, Z7]
                  refine wpAnyH_take (i := 27) (v := ?_) rfl (by kernel_rfl) (by kernel_rfl) (by kernel_rfl) (fun _ _ _ h => h) (Or.inl ⟨by rfl, ?_⟩) hH ?_
                  case refine_2 => intro w hSw; go_simp; try with_reducible rfl
                  try simp only [Z1, Z2, Z3, Z4, Z5, Z6, Z7]
                  refine wpAnyH_take (i := 28) (v := ?_) rfl (by kernel_rfl) (by kernel_rfl) (by kernel_rfl) (fun _ _ _ h => h) (Or.inl ⟨by rfl, ?_⟩) hH ?_
                  case refine_2 => intro w hSw; go_simp; try with_reducible rfl
                  try simp only [Z1, Z2, Z3, Z4, Z5, Z6, Z7]
                  refine wpAnyH_ready (rs := [30]) (by kernel_rfl) (by simp) ?_
                  refine AllReadyH.cons rfl (fun K hK => ?_) AllReadyH.nil
                  go_simp
                  refine (TLa.out z3 kq3).mono ?_
                  rintro en z4 ⟨rfl, q4, hq4⟩
                  have bq4 : Below (z3).heap.size (z3) z4 := by rw [hq4]; exact below_drewN (Below.refl _ _) _
                  have kq4 := kq3.below bq4
                  have bb4 := below_step bb3 bq4
                  clear hq4
                  clear hH
                  refine hK.out _ _ kq4 (fun hH => ?_)
                  clear hK K
                  try dsimp only
                  try simp only [Z1, Z2, Z3, Z4, Z5, Z6, Z7]
                  refine wpAnyH_take (i := 36) (v := ?_) rfl (by kernel_rfl) (by kernel_rfl) (by kernel_rfl) (fun _ _ _ h => h) (Or.inl ⟨by rfl, ?_⟩) hH ?_
                  case refine_2 => intro w hSw; go_simp; try with_reducible rfl
                  try simp only [Z1, Z2, Z3, Z4, Z5, Z6, Z7]
                  refine wpAnyH_take (i := 37) (v := ?_) rfl (by kernel_rfl) (by kernel_rfl) (by kernel_rfl) (fun _ _ _ h => h) (Or.inl ⟨by rfl, ?_⟩) hH ?_
                  case refine_2 => intro w hSw; go_simp; try with_reducible rfl
                  try simp only [Z1, Z2, Z3, Z4, Z5, Z6, Z7]
                  refine wpAnyH_take (i := 38) (v := ?_) rfl (by kernel_rfl) (by kernel_rfl) (by kernel_rfl) (fun _ _ _ h => h) (Or.inl ⟨by rfl, ?_⟩) hH ?_
                  case refine_2 => intro w hSw; go_simp; try with_reducible rfl
                  try simp only [Z1, Z2, Z3, Z4, Z5, Z6, Z7]
                  refine wpAnyH_done (by kernel_rfl) ?_ _
                  refine NoPanic.normal ?_
                  clear hH
                  as_aux_lemma =>
                  have Dz : ND z4 g (fun b => b < w.heap.size) d2 := ⟨_, _, _, _, _, kq4, fun b h => hF9 b (.inl (.inl h))⟩
                  have bz := below_step b9 bb4
                  clear TLa TT1 TT2 TF1 TF0 kq4 bb4 hF9
                  go_wp2_with fail
                  go_roundw
                  case rel => exact ⟨i + 1, d2, by omega, by omega, by simp, NI2.more (by omega), Dz, bz⟩
                  case measure => simp [intOf]; omega
            · have h40i : ¬ (i : Int) < 40 := by omega
              have hlti : (i : Int) < (ns.length : Int) := by omega
              go_wp2_with fail
              go_ret
              exact ⟨rfl, br⟩
          · have hlti : ¬ (i : Int) < (ns.length : Int) := by omega
            go_wp2_with fail
            go_ret
            exact ⟨rfl, br⟩
end Go.Proofs.Ytjpcekpllfelhaa
