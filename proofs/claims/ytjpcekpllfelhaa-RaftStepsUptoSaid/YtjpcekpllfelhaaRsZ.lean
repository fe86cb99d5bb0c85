/- What a node tells of itself. (Printed by wip/gen_rsz.py.) -/
import Derived.Test.YtjpcekpllfelhaaRsY
namespace Go.Proofs.Ytjpcekpllfelhaa
open Go.RowKit

theorem Try.size_RN : (Try.prog.info? 67).map (·.size) = some 7 := by kernel_rfl
theorem Try.infoRE : (Try.prog.info? 81).map (fun i => (i.zero, i.size, i.bytes)) = some (some (.agg #[.int .u64 0, .slice none 0 0]), 2, 32) := by kernel_rfl
set_option maxHeartbeats 1000000 in
theorem rolek_any (g : Nat) (E V M X : Value) (d : LNode) (w : World) (h : Blk w g 48 (nodeC E V M X d)) : Calls Try.prog 25 #[.pointer (some ⟨g, 0, none⟩)] w (fun en w' => en = .returned (.int .i64 d.role) ∧ w' = w) := by
  have q : w.cell? ⟨g, 8, none⟩ = some (.int .i64 d.role) := h.cell 8
  go_enter Try.func25, Try.ntmps25
  go_wp2_with fail
  go_ret
  exact ⟨rfl, rfl⟩
set_option maxHeartbeats 1000000 in
theorem commitk_any (g : Nat) (E V M X : Value) (d : LNode) (w : World) (h : Blk w g 48 (nodeC E V M X d)) : Calls Try.prog 17 #[.pointer (some ⟨g, 0, none⟩)] w (fun en w' => en = .returned (.int .u64 (d.commit : Int)) ∧ w' = w) := by
  have q : w.cell? ⟨g, 10, none⟩ = some (.int .u64 (d.commit : Int)) := h.cell 10
  go_enter Try.func17, Try.ntmps17
  go_wp2_with fail
  go_ret
  exact ⟨rfl, rfl⟩
set_option maxRecDepth 100000 in
set_option maxHeartbeats 4000000 in
theorem told_any (g : Nat) (F : Nat → Prop) (d : LNode) (w : World) (hd : ND w g F d) (hb : GB d) :
    Calls Try.prog 22 #[.pointer (some ⟨g, 0, none⟩)] w (fun en w' => ∃ A c, en = .returned (.agg #[.int .u64 (d.term : Int), .int .i64 d.vote, .int .i64 d.role, .int .u64 (d.base : Int), .int .u64 (d.baseTerm : Int), (.slice A (List.length (fromR d 0)) c), .int .u64 (d.commit : Int)]) ∧ Own EntE 81 w' w.heap.size (fun b => w.heap.size ≤ b) (.slice A (fromR d 0).length c) (fromR d 0) ∧ Below w.heap.size w w') := by
  obtain ⟨i0, hi0, hz0, hz1, hz2⟩ := info_parts Try.infoRE
  obtain ⟨S0, E, V, M, X, hN, hF⟩ := hd
  clear hF
  obtain ⟨Al, ec, rfl⟩ := hN.log.shape
  obtain ⟨L, hL⟩ : ∃ L, L = fromR d 0 := ⟨_, rfl⟩
  have T := Lib.hid (fun (wz : World) (h : NodeAt wz g S0 (.slice Al d.log.length ec) V M X d) => from_any g Al ec V M X Any d 0 wz h.blk (h.slS hb.len32) h.log.caps.1 hb.nb)
  rw [← hL] at T ⊢
  have hLl : L.length ≤ 1048576 := by rw [hL]; unfold fromR; split; exact Nat.zero_le _; rw [List.length_drop]; have := hb.len; omega
  clear hL
  go_enter Try.func22, Try.ntmps22
  have r1 := Blk.new w 67 #[.int .u64 0, .int .i64 0, .int .i64 0, .int .u64 0, .int .u64 0, .slice none 0 0, .int .u64 0]
  have b1 : Below w.heap.size w (w.alloc (.cells #[.int .u64 0, .int .i64 0, .int .i64 0, .int .u64 0, .int .u64 0, .slice none 0 0, .int .u64 0] 67)) := (Below.refl _ _).alloc (Nat.le_refl _) _
  have N1 := hN.below b1
  have hgl := hN.blk.lt
  go_upto_region 1 with fail
  change Code.wp _ _ _ _ (w.alloc (.cells #[.int .u64 0, .int .i64 0, .int .i64 0, .int .u64 0, .int .u64 0, .slice none 0 0, .int .u64 0] 67))
  generalize (w.alloc (.cells #[.int .u64 0, .int .i64 0, .int .i64 0, .int .u64 0, .int .u64 0, .slice none 0 0, .int .u64 0] 67)) = w1 at *
  have lR := r1.lt
  clear hN
  go_cut [3] (fun v3 wx => ∃ b3 : Nat, v3 = .pointer (some ⟨b3, 0, none⟩) ∧ w1.heap.size ≤ b3 ∧ Blk wx b3 67 #[.int .u64 (d.term : Int), .int .i64 d.vote, .int .i64 d.role, .int .u64 (d.base : Int), .int .u64 (d.baseTerm : Int), .slice none 0 0, .int .u64 (d.commit : Int)] ∧ Below w1.heap.size w1 wx)
  case first =>
    have k0 : Blk w1.drew g 48 (nodeC (.slice Al d.log.length ec) V M X d) ∧ True := ⟨N1.blk.drew, trivial⟩
    have lg := N1.blk.lt
    have q0 : Below w1.heap.size w1 w1.drew := (Below.refl _ _).drew
    clear N1 r1 b1 lR T
    refine wp_region_noPanic ?_
    refine wp_region_held_drew (S := fun Y => Blk Y g 48 (nodeC (.slice Al d.log.length ec) V M X d) ∧ True) (by kernel_rfl) k0 (fun hH => ?_)
    generalize w1.drew = u1 at *
    refine wpAnyH_take (i := 0) (v := ?_) rfl (by kernel_rfl) (by kernel_rfl) (by kernel_rfl) (fun _ _ _ h => h) (Or.inl ⟨by rfl, ?_⟩) hH ?_
    case refine_2 => intro w hSw; go_simp; try with_reducible rfl
    try simp only [Z1, Z2, Z4, Z5, Z6, Z7]
    refine wpAnyH_take (i := 1) (v := ?_) rfl (by kernel_rfl) (by kernel_rfl) (by kernel_rfl) (fun _ _ _ h => h) (Or.inl ⟨by rfl, ?_⟩) hH ?_
    case refine_2 => intro w hSw; go_simp; try with_reducible rfl
    try simp only [Z1, Z2, Z3, Z4, Z5, Z6, Z7]
    refine wpAnyH_take (i := 2) (v := ?_) rfl (by kernel_rfl) (by kernel_rfl) (by kernel_rfl) (fun _ _ _ h => h) (Or.inl ⟨by rfl, ?_⟩) hH ?_
    case refine_2 => intro w hSw; go_simp; try with_reducible rfl
    try simp only [Z1, Z2, Z3, Z4, Z5, Z6, Z7]
    refine wpAnyH_take (i := 3) (v := ?_) rfl (by kernel_rfl) (by kernel_rfl) (by kernel_rfl) (fun _ _ _ h => h) (Or.inl ⟨by rfl, ?_⟩) hH ?_
    case refine_2 => intro w hSw; go_simp; try with_reducible rfl
    try simp only [Z1, Z2, Z3, Z4, Z5, Z6, Z7]
    refine wpAnyH_take (i := 4) (v := ?_) rfl (by kernel_rfl) (by kernel_rfl) (by kernel_rfl) (fun _ _ _ h => h) (Or.inl ⟨by rfl, ?_⟩) hH ?_
    case refine_2 => intro w hSw; go_simp; try with_reducible rfl
    try simp only [Z1, Z2, Z3, Z4, Z5, Z6, Z7]
    refine wpAnyH_take (i := 5) (v := ?_) rfl (by kernel_rfl) (by kernel_rfl) (by kernel_rfl) (fun _ _ _ h => h) (Or.inl ⟨by rfl, ?_⟩) hH ?_
    case refine_2 => intro w hSw; replace hSw : Blk w g 48 (nodeC (.slice Al d.log.length ec) V M X d) := hSw.1; have n0 : w.cell? ⟨_, 0, none⟩ = some (.int .u64 (d.term : Int)) := Blk.cell hSw 0; clear hSw; go_simp; try with_reducible rfl
    try simp only [Z1, Z2, Z3, Z4, Z5, Z6, Z7]
    refine wpAnyH_take (i := 6) (v := ?_) rfl (by kernel_rfl) (by kernel_rfl) (by kernel_rfl) (fun _ _ _ h => h) (Or.inl ⟨by rfl, ?_⟩) hH ?_
    case refine_2 => intro w hSw; go_simp; try with_reducible rfl
    try simp only [Z1, Z2, Z3, Z4, Z5, Z6, Z7]
    refine wpAnyH_take (i := 7) (v := ?_) rfl (by kernel_rfl) (by kernel_rfl) (by kernel_rfl) (fun _ _ _ h => h) (Or.inl ⟨by rfl, ?_⟩) hH ?_
    case refine_2 => intro w hSw; go_simp; try with_reducible rfl
    try simp only [Z1, Z2, Z3, Z4, Z5, Z6, Z7]
    refine wpAnyH_take (i := 8) (v := ?_) rfl (by kernel_rfl) (by kernel_rfl) (by kernel_rfl) (fun _ _ _ h => h) (Or.inl ⟨by rfl, ?_⟩) hH ?_
    case refine_2 => intro w hSw; go_simp; try with_reducible rfl
    try simp only [Z1, Z2, Z3, Z4, Z5, Z6, Z7]
    refine wpAnyH_take (i := 9) (v := ?_) rfl (by kernel_rfl) (by kernel_rfl) (by kernel_rfl) (fun _ _ _ h => h) (Or.inl ⟨by rfl, ?_⟩) hH ?_
    case refine_2 => intro w hSw; go_simp; try with_reducible rfl
    try simp only [Z1, Z2, Z3, Z4, Z5, Z6, Z7]
    refine wpAnyH_take (i := 10) (v := ?_) rfl (by kernel_rfl) (by kernel_rfl) (by kernel_rfl) (fun _ _ _ h => h) (Or.inl ⟨by rfl, ?_⟩) hH ?_
    case refine_2 => intro w hSw; go_simp; try with_reducible rfl
    try simp only [Z1, Z2, Z3, Z4, Z5, Z6, Z7]
    refine wpAnyH_take (i := 11) (v := ?_) rfl (by kernel_rfl) (by kernel_rfl) (by kernel_rfl) (fun _ _ _ h => h) (Or.inl ⟨by rfl, ?_⟩) hH ?_
    case refine_2 => intro w hSw; replace hSw : Blk w g 48 (nodeC (.slice Al d.log.length ec) V M X d) := hSw.1; have n1 : w.cell? ⟨_, 1, none⟩ = some (.int .i64 d.vote) := Blk.cell hSw 1; clear hSw; go_simp; try with_reducible rfl
    try simp only [Z1, Z2, Z3, Z4, Z5, Z6, Z7]
    refine wpAnyH_take (i := 12) (v := ?_) rfl (by kernel_rfl) (by kernel_rfl) (by kernel_rfl) (fun _ _ _ h => h) (Or.inl ⟨by rfl, ?_⟩) hH ?_
    case refine_2 => intro w hSw; go_simp; try with_reducible rfl
    try simp only [Z1, Z2, Z3, Z4, Z5, Z6, Z7]
    refine wpAnyH_take (i := 14) (v := ?_) rfl (by kernel_rfl) (by kernel_rfl) (by kernel_rfl) (fun _ _ _ h => h) (Or.inl ⟨by rfl, ?_⟩) hH ?_
    case refine_2 => intro w hSw; go_simp; try with_reducible rfl
    try simp only [Z1, Z2, Z3, Z4, Z5, Z6, Z7]
    refine wpAnyH_take (i := 15) (v := ?_) rfl (by kernel_rfl) (by kernel_rfl) (by kernel_rfl) (fun _ _ _ h => h) (Or.inl ⟨by rfl, ?_⟩) hH ?_
    case refine_2 => intro w hSw; go_simp; try with_reducible rfl
    try simp only [Z1, Z2, Z3, Z4, Z5, Z6, Z7]
    refine wpAnyH_take (i := 16) (v := ?_) rfl (by kernel_rfl) (by kernel_rfl) (by kernel_rfl) (fun _ _ _ h => h) (Or.inl ⟨by rfl, ?_⟩) hH ?_
    case refine_2 => intro w hSw; go_simp; try with_reducible rfl
    try simp only [Z1, Z2, Z3, Z4, Z5, Z6, Z7]
    refine wpAnyH_take (i := 17) (v := ?_) rfl (by kernel_rfl) (by kernel_rfl) (by kernel_rfl) (fun _ _ _ h => h) (Or.inl ⟨by rfl, ?_⟩) hH ?_
    case refine_2 => intro w hSw; go_simp; try with_reducible rfl
    try simp only [Z1, Z2, Z3, Z4, Z5, Z6, Z7]
    refine wpAnyH_take (i := 18) (v := ?_) rfl (by kernel_rfl) (by kernel_rfl) (by kernel_rfl) (fun _ _ _ h => h) (Or.inl ⟨by rfl, ?_⟩) hH ?_
    case refine_2 => intro w hSw; replace hSw : Blk w g 48 (nodeC (.slice Al d.log.length ec) V M X d) := hSw.1; have n2 : w.cell? ⟨_, 2, none⟩ = some (.int .u64 (d.base : Int)) := Blk.cell hSw 2; clear hSw; go_simp; try with_reducible rfl
    try simp only [Z1, Z2, Z3, Z4, Z5, Z6, Z7]
    refine wpAnyH_take (i := 19) (v := ?_) rfl (by kernel_rfl) (by kernel_rfl) (by kernel_rfl) (fun _ _ _ h => h) (Or.inl ⟨by rfl, ?_⟩) hH ?_
    case refine_2 => intro w hSw; go_simp; try with_reducible rfl
    try simp only [Z1, Z2, Z3, Z4, Z5, Z6, Z7]
    refine wpAnyH_take (i := 20) (v := ?_) rfl (by kernel_rfl) (by kernel_rfl) (by kernel_rfl) (fun _ _ _ h => h) (Or.inl ⟨by rfl, ?_⟩) hH ?_
    case refine_2 => intro w hSw; go_simp; try with_reducible rfl
    try simp only [Z1, Z2, Z3, Z4, Z5, Z6, Z7]
    refine wpAnyH_take (i := 21) (v := ?_) rfl (by kernel_rfl) (by kernel_rfl) (by kernel_rfl) (fun _ _ _ h => h) (Or.inl ⟨by rfl, ?_⟩) hH ?_
    case refine_2 => intro w hSw; go_simp; try with_reducible rfl
    try simp only [Z1, Z2, Z3, Z4, Z5, Z6, Z7]
    refine wpAnyH_take (i := 22) (v := ?_) rfl (by kernel_rfl) (by kernel_rfl) (by kernel_rfl) (fun _ _ _ h => h) (Or.inl ⟨by rfl, ?_⟩) hH ?_
    case refine_2 => intro w hSw; go_simp; try with_reducible rfl
    try simp only [Z1, Z2, Z3, Z4, Z5, Z6, Z7]
    refine wpAnyH_take (i := 23) (v := ?_) rfl (by kernel_rfl) (by kernel_rfl) (by kernel_rfl) (fun _ _ _ h => h) (Or.inl ⟨by rfl, ?_⟩) hH ?_
    case refine_2 => intro w hSw; replace hSw : Blk w g 48 (nodeC (.slice Al d.log.length ec) V M X d) := hSw.1; have n3 : w.cell? ⟨_, 3, none⟩ = some (.int .u64 (d.baseTerm : Int)) := Blk.cell hSw 3; clear hSw; go_simp; try with_reducible rfl
    try simp only [Z1, Z2, Z3, Z4, Z5, Z6, Z7]
    refine wpAnyH_take (i := 24) (v := ?_) rfl (by kernel_rfl) (by kernel_rfl) (by kernel_rfl) (fun _ _ _ h => h) (Or.inl ⟨by rfl, ?_⟩) hH ?_
    case refine_2 => intro w hSw; go_simp; try with_reducible rfl
    try simp only [Z1, Z2, Z3, Z4, Z5, Z6, Z7]
    refine wpAnyH_ready (rs := [13, 27]) (by kernel_rfl) (by simp) ?_
    refine AllReadyH.cons rfl (fun K hK => ?_) (AllReadyH.cons rfl (fun K hK => ?_) AllReadyH.nil)
    · go_simp
      refine (rolek_any g _ _ _ _ d u1 k0.1).mono ?_
      rintro en w7 ⟨rfl, hw7⟩
      replace hw7 := hw7.symm
      subst hw7
      refine hK.out _ _ k0 (fun hH => ?_)
      clear hK K
      try dsimp only
      try simp only [Z1, Z2, Z3, Z4, Z5, Z6, Z7]
      refine wpAnyH_ready (rs := [25, 27]) (by kernel_rfl) (by simp) ?_
      refine AllReadyH.cons rfl (fun K hK => ?_) (AllReadyH.cons rfl (fun K hK => ?_) AllReadyH.nil)
      · go_simp
        refine (commitk_any g _ _ _ _ d u1 k0.1).mono ?_
        rintro en w7 ⟨rfl, hw7⟩
        replace hw7 := hw7.symm
        subst hw7
        refine hK.out _ _ k0 (fun hH => ?_)
        clear hK K
        try dsimp only
        try simp only [Z1, Z2, Z3, Z4, Z5, Z6, Z7]
        refine wpAnyH_take (i := 26) (v := ?_) rfl (by kernel_rfl) (by kernel_rfl) (by kernel_rfl) (fun _ _ _ h => h) (Or.inl ⟨by rfl, ?_⟩) hH ?_
        case refine_2 => intro w hSw; go_simp; try with_reducible rfl
        try simp only [Z1, Z2, Z3, Z4, Z5, Z6, Z7]
        refine wpAnyH_ready (rs := [27]) (by kernel_rfl) (by simp) ?_
        refine AllReadyH.cons rfl (fun K hK => ?_) AllReadyH.nil
        go_simp
        have qa : Below w1.heap.size w1 (u1.alloc (.cells #[.int .u64 0, .int .i64 0, .int .i64 0, .int .u64 0, .int .u64 0, .slice none 0 0, .int .u64 0] 67)) := q0.alloc q0.size _
        have ka : Blk (u1.alloc (.cells #[.int .u64 0, .int .i64 0, .int .i64 0, .int .u64 0, .int .u64 0, .slice none 0 0, .int .u64 0] 67)) g 48 (nodeC (.slice Al d.log.length ec) V M X d) ∧ True := ⟨k0.1.alloc _, trivial⟩
        have ra := Blk.new u1 67 #[.int .u64 0, .int .i64 0, .int .i64 0, .int .u64 0, .int .u64 0, .slice none 0 0, .int .u64 0]
        have zB := q0.size
        change K _ (u1.alloc (.cells #[.int .u64 0, .int .i64 0, .int .i64 0, .int .u64 0, .int .u64 0, .slice none 0 0, .int .u64 0] 67))
        generalize (u1.alloc (.cells #[.int .u64 0, .int .i64 0, .int .i64 0, .int .u64 0, .int .u64 0, .slice none 0 0, .int .u64 0] 67)) = wa3 at *
        refine hK.out _ _ ka (fun hH => ?_)
        clear hK K
        try dsimp only
        try simp only [Z1, Z2, Z3, Z4, Z5, Z6, Z7]
        refine wpAnyH_ready (rs := [28]) (by kernel_rfl) (by simp) ?_
        refine AllReadyH.cons rfl (fun K hK => ?_) AllReadyH.nil
        refine step_store_blk rfl 67 (.tmp 3) (.tmp 32) rfl u1.heap.size 67 _ #[.int .u64 (d.term : Int), .int .i64 d.vote, .int .i64 d.role, .int .u64 (d.base : Int), .int .u64 (d.baseTerm : Int), .slice none 0 0, .int .u64 (d.commit : Int)] rfl rfl ra Try.size_RN rfl rfl (by simp [Value.oneCell']) ?_
        intro wz kz gz hz
        have kS : Blk wz g 48 (nodeC (.slice Al d.log.length ec) V M X d) ∧ True := ⟨ka.1.grown gz (fun e => by have := Option.some.inj e; omega), trivial⟩
        have qz := qa.grown gz qa.size (fun j e => by have := Option.some.inj e; omega)
        refine hK.out _ _ kS (fun hH => ?_)
        clear hK K
        try dsimp only
        try simp only [Z1, Z3, Z2, Z4]
        refine wpAnyH_done (by kernel_rfl) ?_ _
        refine NoPanic.normal ?_
        go_wp2_with fail
        go_meet
        case rel => exact ⟨u1.heap.size, rfl, zB, kz, qz⟩
      · go_simp
        have qa : Below w1.heap.size w1 (u1.alloc (.cells #[.int .u64 0, .int .i64 0, .int .i64 0, .int .u64 0, .int .u64 0, .slice none 0 0, .int .u64 0] 67)) := q0.alloc q0.size _
        have ka : Blk (u1.alloc (.cells #[.int .u64 0, .int .i64 0, .int .i64 0, .int .u64 0, .int .u64 0, .slice none 0 0, .int .u64 0] 67)) g 48 (nodeC (.slice Al d.log.length ec) V M X d) ∧ True := ⟨k0.1.alloc _, trivial⟩
        have ra := Blk.new u1 67 #[.int .u64 0, .int .i64 0, .int .i64 0, .int .u64 0, .int .u64 0, .slice none 0 0, .int .u64 0]
        have zB := q0.size
        change K _ (u1.alloc (.cells #[.int .u64 0, .int .i64 0, .int .i64 0, .int .u64 0, .int .u64 0, .slice none 0 0, .int .u64 0] 67))
        generalize (u1.alloc (.cells #[.int .u64 0, .int .i64 0, .int .i64 0, .int .u64 0, .int .u64 0, .slice none 0 0, .int .u64 0] 67)) = wa1 at *
        refine hK.out _ _ ka (fun hH => ?_)
        clear hK K
        try dsimp only
        try simp only [Z1, Z2, Z3, Z4, Z5, Z6, Z7]
        refine wpAnyH_ready (rs := [25]) (by kernel_rfl) (by simp) ?_
        refine AllReadyH.cons rfl (fun K hK => ?_) AllReadyH.nil
        go_simp
        refine (commitk_any g _ _ _ _ d wa1 ka.1).mono ?_
        rintro en w7 ⟨rfl, hw7⟩
        replace hw7 := hw7.symm
        subst hw7
        refine hK.out _ _ ka (fun hH => ?_)
        clear hK K
        try dsimp only
        try simp only [Z1, Z2, Z3, Z4, Z5, Z6, Z7]
        refine wpAnyH_take (i := 26) (v := ?_) rfl (by kernel_rfl) (by kernel_rfl) (by kernel_rfl) (fun _ _ _ h => h) (Or.inl ⟨by rfl, ?_⟩) hH ?_
        case refine_2 => intro w hSw; go_simp; try with_reducible rfl
        try simp only [Z1, Z2, Z3, Z4, Z5, Z6, Z7]
        refine wpAnyH_ready (rs := [28]) (by kernel_rfl) (by simp) ?_
        refine AllReadyH.cons rfl (fun K hK => ?_) AllReadyH.nil
        refine step_store_blk rfl 67 (.tmp 3) (.tmp 32) rfl u1.heap.size 67 _ #[.int .u64 (d.term : Int), .int .i64 d.vote, .int .i64 d.role, .int .u64 (d.base : Int), .int .u64 (d.baseTerm : Int), .slice none 0 0, .int .u64 (d.commit : Int)] rfl rfl ra Try.size_RN rfl rfl (by simp [Value.oneCell']) ?_
        intro wz kz gz hz
        have kS : Blk wz g 48 (nodeC (.slice Al d.log.length ec) V M X d) ∧ True := ⟨ka.1.grown gz (fun e => by have := Option.some.inj e; omega), trivial⟩
        have qz := qa.grown gz qa.size (fun j e => by have := Option.some.inj e; omega)
        refine hK.out _ _ kS (fun hH => ?_)
        clear hK K
        try dsimp only
        try simp only [Z1, Z3, Z2, Z4]
        refine wpAnyH_done (by kernel_rfl) ?_ _
        refine NoPanic.normal ?_
        go_wp2_with fail
        go_meet
        case rel => exact ⟨u1.heap.size, rfl, zB, kz, qz⟩
    · go_simp
      have qa : Below w1.heap.size w1 (u1.alloc (.cells #[.int .u64 0, .int .i64 0, .int .i64 0, .int .u64 0, .int .u64 0, .slice none 0 0, .int .u64 0] 67)) := q0.alloc q0.size _
      have ka : Blk (u1.alloc (.cells #[.int .u64 0, .int .i64 0, .int .i64 0, .int .u64 0, .int .u64 0, .slice none 0 0, .int .u64 0] 67)) g 48 (nodeC (.slice Al d.log.length ec) V M X d) ∧ True := ⟨k0.1.alloc _, trivial⟩
      have ra := Blk.new u1 67 #[.int .u64 0, .int .i64 0, .int .i64 0, .int .u64 0, .int .u64 0, .slice none 0 0, .int .u64 0]
      have zB := q0.size
      change K _ (u1.alloc (.cells #[.int .u64 0, .int .i64 0, .int .i64 0, .int .u64 0, .int .u64 0, .slice none 0 0, .int .u64 0] 67))
      generalize (u1.alloc (.cells #[.int .u64 0, .int .i64 0, .int .i64 0, .int .u64 0, .int .u64 0, .slice none 0 0, .int .u64 0] 67)) = wa0 at *
      refine hK.out _ _ ka (fun hH => ?_)
      clear hK K
      try dsimp only
      try simp only [Z1, Z2, Z3, Z4, Z5, Z6, Z7]
      refine wpAnyH_ready (rs := [13]) (by kernel_rfl) (by simp) ?_
      refine AllReadyH.cons rfl (fun K hK => ?_) AllReadyH.nil
      go_simp
      refine (rolek_any g _ _ _ _ d wa0 ka.1).mono ?_
      rintro en w7 ⟨rfl, hw7⟩
      replace hw7 := hw7.symm
      subst hw7
      refine hK.out _ _ ka (fun hH => ?_)
      clear hK K
      try dsimp only
      try simp only [Z1, Z2, Z3, Z4, Z5, Z6, Z7]
      refine wpAnyH_ready (rs := [25]) (by kernel_rfl) (by simp) ?_
      refine AllReadyH.cons rfl (fun K hK => ?_) AllReadyH.nil
      go_simp
      refine (commitk_any g _ _ _ _ d wa0 ka.1).mono ?_
      rintro en w7 ⟨rfl, hw7⟩
      replace hw7 := hw7.symm
      subst hw7
      refine hK.out _ _ ka (fun hH => ?_)
      clear hK K
      try dsimp only
      try simp only [Z1, Z2, Z3, Z4, Z5, Z6, Z7]
      refine wpAnyH_take (i := 26) (v := ?_) rfl (by kernel_rfl) (by kernel_rfl) (by kernel_rfl) (fun _ _ _ h => h) (Or.inl ⟨by rfl, ?_⟩) hH ?_
      case refine_2 => intro w hSw; go_simp; try with_reducible rfl
      try simp only [Z1, Z2, Z3, Z4, Z5, Z6, Z7]
      refine wpAnyH_ready (rs := [28]) (by kernel_rfl) (by simp) ?_
      refine AllReadyH.cons rfl (fun K hK => ?_) AllReadyH.nil
      refine step_store_blk rfl 67 (.tmp 3) (.tmp 32) rfl u1.heap.size 67 _ #[.int .u64 (d.term : Int), .int .i64 d.vote, .int .i64 d.role, .int .u64 (d.base : Int), .int .u64 (d.baseTerm : Int), .slice none 0 0, .int .u64 (d.commit : Int)] rfl rfl ra Try.size_RN rfl rfl (by simp [Value.oneCell']) ?_
      intro wz kz gz hz
      have kS : Blk wz g 48 (nodeC (.slice Al d.log.length ec) V M X d) ∧ True := ⟨ka.1.grown gz (fun e => by have := Option.some.inj e; omega), trivial⟩
      have qz := qa.grown gz qa.size (fun j e => by have := Option.some.inj e; omega)
      refine hK.out _ _ kS (fun hH => ?_)
      clear hK K
      try dsimp only
      try simp only [Z1, Z3, Z2, Z4]
      refine wpAnyH_done (by kernel_rfl) ?_ _
      refine NoPanic.normal ?_
      go_wp2_with fail
      go_meet
      case rel => exact ⟨u1.heap.size, rfl, zB, kz, qz⟩
  case rest =>
    obtain ⟨b3, rfl, hb3, kT, bc⟩ := hcut
    have N2 := N1.below bc
    have r2 := r1.below bc lR
    have b2 := below_step b1 bc
    have l3 := kT.lt
    have TF := T.out wc N2
    have zb := b1.size
    clear N1 r1 bc T N2
    go_wp2_with fail
    refine TF.mono ?_
    rintro en w5 ⟨A1, c1, rfl, o1, b5⟩
    have hS5 : SlS EntE w5 (fun b => wc.heap.size ≤ b ∧ b < w5.heap.size) A1 L := (o1.ent.slS (S' := fun b => wc.heap.size ≤ b) rfl (by simp only [EntE]; omega) (fun b h => h) (fun b h => h)).mono (fun b h1 h2 => ⟨h2, h1⟩)
    have k5 := kT.below b5 l3
    have r5 := r2.below b5 (by omega)
    have b25 := below_step b2 b5
    have z5 := b5.size
    have z25 := b25.size
    clear TF o1 b5 kT r2 b2
    go_wp2_with fail
    go_loopw [36] (fun v36 wr => ∃ (k : Nat) (A' : Option Addr) (c' : Nat) (xs : List LEnt), k ≤ L.length ∧ v36 = .int .i64 (k : Int) ∧ Hid (xs = L.take k) ∧ Hid (xs.length = k) ∧ Own EntE 81 wr w5.heap.size (fun b => wc.heap.size ≤ b ∧ b < w5.heap.size) (.slice A' xs.length c') xs ∧ SlS EntE wr (fun b => wc.heap.size ≤ b ∧ b < w5.heap.size) A1 L ∧ Blk wr b3 67 #[.int .u64 (d.term : Int), .int .i64 d.vote, .int .i64 d.role, .int .u64 (d.base : Int), .int .u64 (d.baseTerm : Int), (.slice A' xs.length c'), .int .u64 (d.commit : Int)] ∧ Blk wr w.heap.size 67 #[.int .u64 0, .int .i64 0, .int .i64 0, .int .u64 0, .int .u64 0, .slice none 0 0, .int .u64 0] ∧ w5.heap.size ≤ wr.heap.size ∧ Below w.heap.size w wr) (fun v36 _ => L.length - (intOf v36).toNat)
    case atStart => exact ⟨0, none, 0, [], Nat.zero_le _, rfl, rfl, rfl, Own.nil_ _ _ _ _ _, hS5, k5, r5, Nat.le_refl _, b25⟩
    case round =>
      obtain ⟨k, A', c', xs, hk, rfl, HX, HK, oX, hS, eR, rR, zR, br⟩ := hrel
      by_cases hlt : k < L.length
      · obtain ⟨ad, P, pc, rfl, _, e0, e1, ht, hD, hDS, hc1, hc2⟩ := EntE.at_ hS hlt
        have HT : Hid (L.take (k + 1) = L.take k ++ [L[k]]) := List.take_succ_eq_append_getElem hlt
        generalize L[k] = e at *
        have d3 : Below wr.heap.size wr (wr.alloc (.cells #[.int .u64 (e.term : Int), .slice P e.data.length pc] 44)) := (Below.refl _ _).alloc (Nat.le_refl _) _
        have kF := Blk.new wr 44 #[.int .u64 (e.term : Int), .slice P e.data.length pc]
        go_upto_region 5 with fail
        change Code.wp _ _ _ _ (wr.alloc (.cells #[.int .u64 (e.term : Int), .slice P e.data.length pc] 44))
        generalize (wr.alloc (.cells #[.int .u64 (e.term : Int), .slice P e.data.length pc] 44)) = w6 at *
        have lX := Own.lt oX
        have d7 : Below w6.heap.size w6 (w6.alloc (.cells #[.int .u64 (e.term : Int), .slice P e.data.length pc] 81)) := (Below.refl _ _).alloc (Nat.le_refl _) _
        have d37 := below_step d3 d7
        have o7 := oX.below d37
        have hS7 := hS.below d37
        have hD7 := hD.below d37
        have k7 := eR.below d37 eR.lt
        have r7 := rR.below d37 rR.lt
        have b7 := below_step br d37
        have hrN := Reads.newN w6 [.int .u64 (e.term : Int), .slice P e.data.length pc] 81
        have hrep : EntE.rep (w6.alloc (.cells #[.int .u64 (e.term : Int), .slice P e.data.length pc] 81)) (fun b => (wc.heap.size ≤ b ∧ b < w5.heap.size) ∧ (Value.slice A' xs.length c').ownBlock ≠ some b) [.int .u64 (e.term : Int), .slice P e.data.length pc] e :=
          ⟨P, pc, rfl, ht, hD7, fun ad e hn => ⟨hDS ad e hn, fun e2 => by have h1 := (lX _ e2).1; have h2 := (hDS ad e hn).2; omega⟩, hc1, hc2⟩
        have HL1 := Lib.hid (show (xs.length + 1) * EntE.bytes ≤ 140737488355328 by have := HK.out; simp only [EntE]; omega)
        have HL2 := Lib.hid (show xs.length + 1 ≤ maxLen by have := HK.out; simp only [maxLen]; omega)
        have z7 : w5.heap.size ≤ (w6.alloc (.cells #[.int .u64 (e.term : Int), .slice P e.data.length pc] 81)).heap.size := Nat.le_trans zR d37.size
        have eC : w6.cell? ⟨b3, 5, none⟩ = some (.slice A' xs.length c') := (eR.below d3 eR.lt).cell 5
        have eE0 : w6.cell? ⟨wr.heap.size, 0, none⟩ = some (.int .u64 (e.term : Int)) := kF.cell 0
        have eE1 : w6.cell? ⟨wr.heap.size, 1, none⟩ = some (.slice P e.data.length pc) := kF.cell 1
        clear d3 d7 d37 oX hS hD eR rR kF e0 e1
        go_wp2_with (at_builtin; refine wpList_appE EntE w5.heap.size w _ rfl (.tmp 41) (.tmp 47) 81 65 rfl i0 _ Try.underlying65 hi0 hz0 hz1 hz2 rfl (fun b => wc.heap.size ≤ b ∧ b < w5.heap.size) A' xs c' rfl o7 _ [.int .u64 (e.term : Int), .slice P e.data.length pc] e 1 rfl _ hrN hrep HL1.out HL2.out b7 z25 z7 ?_; intro A8 c8 xs8 w8 H8 o8 b8 g8 t8; have k8 := k7.grown g8 (fun e => absurd (lX _ e.symm).1 (by omega)); have r8 := r7.grown g8 (fun e => absurd (lX _ e.symm).1 (by omega)); have fC := k8.frozen 5; have eC : w8.cell? ⟨b3, 5, none⟩ = some (.slice A' xs.length c') := k8.cell 5; have hS8 := hS7.same (Same.of_grown g8 (fun b hs e => by have h1 := (lX b e).1; omega)); clear hrN hrep o7 b7 k7 r7 hS7 hD7)
        have g9 : w8.grownBy (w8.setCell ⟨b3, 5, none⟩ (.slice A8 xs8.length c8)) (some b3) := only_setCell (only_of_below (Below.refl _ _) (some b3)) (.inl rfl) _
        have l8 := Own.lt o8
        have hsz : (w8.setCell ⟨b3, 5, none⟩ (.slice A8 xs8.length c8)).heap.size = w8.heap.size := by simp [World.setCell]
        have z8 : w5.heap.size ≤ w8.heap.size := Nat.le_trans z7 g8.size
        go_roundw
        case rel => exact ⟨k + 1, A8, c8, xs8, by omega, by simp, by show _ = _; rw [H8.out, HX.out, HT.out], by show _ = _; rw [H8.out, List.length_append, HK.out]; rfl, o8.grown g9 (fun b e => ⟨fun e2 => by have h1 := (l8 b e2).1; have h2 := Option.some.inj e; omega, fun h1 => by have h2 := Option.some.inj e; omega⟩), hS8.same (Same.of_grown g9 (fun b h1 e => by have h2 := Option.some.inj e; omega)), k8.set_ 5 _, r8.far (by show w.heap.size ≠ b3; omega) _, by rw [hsz]; exact z8, b8.grown g9 b8.size (fun b e => by have h2 := Option.some.inj e; omega)⟩
        case measure => simp [intOf]; omega
      · obtain rfl : k = L.length := by omega
        have HE : Hid (xs = L) := by show _ = _; rw [HX.out, List.take_length]
        clear HX
        go_wp2_with (first
          | ((with_reducible refine wpList_load_blk rfl 67 (.tmp 3) rfl b3 ?_ 67 _ _ eR Try.underlying67 ?_ Try.size_RN ?_ ?_); rfl; rfl; rfl)
          | ((with_reducible refine wpList_store_blk rfl 67 (.tmp 2) (.tmp 51) rfl w.heap.size 67 _ #[.int .u64 (d.term : Int), .int .i64 d.vote, .int .i64 d.role, .int .u64 (d.base : Int), .int .u64 (d.baseTerm : Int), (.slice A' xs.length c'), .int .u64 (d.commit : Int)] ?_ ?_ rR Try.size_RN ?_ ?_ ?_ ?_); rfl; rfl; rfl; rfl; (simp [Value.oneCell']); intro wz kz gz hz))
        exact bodyPost_ret (results_cell rfl rfl kz Try.underlying67 rfl Try.size_RN) rfl (by
          have h := HE.out
          subst h
          exact ⟨A', c', rfl, (oX.grown gz (fun b e => ⟨fun e2 => by have h1 := (Own.lt oX b e2).1; have h2 := Option.some.inj e; omega, fun h1 => by have h2 := Option.some.inj e; omega⟩)).base (B' := w.heap.size) (by omega) |>.mono (fun b _ _ h => by show w.heap.size ≤ b; omega), br.grown gz br.size (fun b e => by have h2 := Option.some.inj e; omega)⟩)
end Go.Proofs.Ytjpcekpllfelhaa
