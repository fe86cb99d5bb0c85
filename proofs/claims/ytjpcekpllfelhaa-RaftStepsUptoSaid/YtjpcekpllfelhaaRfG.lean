/- A lone node's begin: it leads. (Printed by wip/gen_rfg.py.) -/
import Derived.Test.YtjpcekpllfelhaaRfF
namespace Go.Proofs.Ytjpcekpllfelhaa
open Go.RowKit

section
variable {w w' : World} {g : Nat} {S : Nat → Prop} {E V M X : Value} {d d' : LNode}
/-- match and next are new rows -/
theorem NodeAt.newMX {gm gx : Nat} (h : NodeAt w g S E V M X d) (hg : w.grownBy w' (some g)) (kb : Blk w' g 48 (nodeC E V (.slice (some ⟨gm, 0, none⟩) 1 1) (.slice (some ⟨gx, 0, none⟩) 1 1) d')) (e : d'.log = d.log ∧ d'.votes = d.votes)
    (hm : w.heap.size ≤ gm) (hx : w.heap.size ≤ gx) (hne : gm ≠ gx) (oM : Own NE 28 w' 0 Nil (.slice (some ⟨gm, 0, none⟩) 1 1) d'.mat) (oX : Own NE 28 w' 0 Nil (.slice (some ⟨gx, 0, none⟩) 1 1) d'.next) :
    NodeAt w' g S E V (.slice (some ⟨gm, 0, none⟩) 1 1) (.slice (some ⟨gx, 0, none⟩) 1 1) d' := by
  obtain ⟨e1, e3⟩ := e
  refine ⟨kb, ?_, ?_, oM, oX, fun b e e2 => hne ((Option.some.inj e).trans (Option.some.inj e2).symm), fun b hs => ⟨(h.sd b hs).1, (h.sd b hs).2.1, fun e => ?_, fun e => ?_⟩, fun b hs => Nat.lt_of_lt_of_le (h.sl b hs) hg.size⟩
  · rw [e1]; exact h.log.same hg (.inr (h.log.ne_blk h.blk (by decide))) fun b hs e => (h.sd b hs).1 (Option.some.inj e).symm
  · rw [e3]; exact h.vot.same hg (.inr (h.vot.ne_blk h.blk (by decide))) fun b hs => hs.elim
  · have h1 : gm = b := Option.some.inj e
    have := h.sl b hs
    omega
  · have h1 : gx = b := Option.some.inj e
    have := h.sl b hs
    omega
/-- next[0] turns -/
theorem NodeAt.setX {gx c m x : Nat} (h : NodeAt w g S E V M (.slice (some ⟨gx, 0, none⟩) 1 c) d) (hm : d.next = [m]) (hx : x ≤ 18446744073709551615) :
    NodeAt (w.setCell ⟨gx, 0, none⟩ (.int .u64 (x : Int))) g S E V M (.slice (some ⟨gx, 0, none⟩) 1 c) { d with next := [x] } := by
  have hgm : g ≠ gx := fun e => by subst e; exact h.nxt.ne_blk h.blk (by decide) rfl
  have hnxt := h.nxt
  rw [hm] at hnxt
  have o := Own.turn (E := NE) (k := 0) (j := 0) (u := .int .u64 (x : Int)) (y := x) hnxt (by simp) (by decide) (fun v hv => by
    obtain ⟨rfl, _⟩ := hv
    exact ⟨rfl, hx⟩)
  refine ⟨h.blk.far hgm _, h.log.setCell (fun e => h.log.ne_own h.nxt (by decide) gx e rfl) (fun hs => (h.sd gx hs).2.2.2 rfl) _, h.vot.setCell (fun e => h.vot.ne_own h.nxt (by decide) gx e rfl) (fun hs => hs.elim) _, h.mat.setCell (fun e => h.mx gx e rfl) (fun hs => hs.elim) _, o, h.mx, h.sd, fun b hs => by rw [World.size_setCell]; exact h.sl b hs⟩
theorem NodeAt.nxtCell {gx c m : Nat} (h : NodeAt w g S E V M (.slice (some ⟨gx, 0, none⟩) 1 c) d) (hm : d.next = [m]) : w.cell? ⟨gx, 0, none⟩ = some (.int .u64 (m : Int)) ∧ w.frozen? ⟨gx, 0, none⟩ = false ∧ gx < w.heap.size := by
  obtain ⟨vs, h1, h2⟩ := h.nxt
  rw [hm] at h1 h2
  obtain ⟨v, r, rfl, ⟨rfl, _⟩, rfl⟩ := h2
  refine ⟨?_, h1.frozenAt 0, (h.nxt.lt gx rfl).2⟩
  rw [h1.cellAt 0 (by decide)]
  rfl
end
/-- what begin makes of a lone node -/
def begP (d : LNode) : LNode := addP { d with role := 3, lead := 0, mat := [0], next := [lastN d + 1] } []
set_option maxRecDepth 100000 in
set_option maxHeartbeats 4000000 in
theorem begin_one (g : Nat) (F : Nat → Prop) (d : LNode) (w : World) (hd : ND w g F d) (hn : d.n = 1) (hi : d.id = 0) (ht : d.term ≤ 18446744073709551615)
    (hbl : (d.log.length + 1) * 32 ≤ 140737488351232) (hbb : d.base + d.log.length + 1 ≤ 9223372036854775807) (hbt : d.baseTerm ≤ 18446744073709551615) (hcm : d.commit ≤ lastN d) :
    Calls Try.prog 45 #[.pointer (some ⟨g, 0, none⟩)] w (fun en w' => en = .returned (.slice none 0 0) ∧ NDTo g F (begP d) w w') := by
  obtain ⟨S, E, V, M, X, hN, hF⟩ := hd
  have HN1 := Lib.hid hn
  have HI := Lib.hid hi
  have HF := Lib.hid hF
  clear hn hi hF
  have hgl := hN.blk.lt
  have y5 : w.cell? ⟨g, 5, none⟩ = some (.int .i64 0) := (hN.blk.cell 5).trans (congrArg some (congrArg (Value.int .i64) (congrArg Int.ofNat HI.out)))
  have y8 : w.cell? ⟨g, 8, none⟩ = some (.int .i64 d.role) := hN.blk.cell 8
  have y9 : w.cell? ⟨g, 9, none⟩ = some (.int .i64 d.lead) := hN.blk.cell 9
  have f8 : w.frozen? ⟨g, 8, none⟩ = false := hN.blk.frozen 8
  have f9 : w.frozen? ⟨g, 9, none⟩ = false := hN.blk.frozen 9
  have gA : w.grownBy ((w.setCell ⟨g, 8, none⟩ (.int .i64 3)).setCell ⟨g, 9, none⟩ (.int .i64 0)) (some g) := only_setCell (only_setCell (only_of_below (Below.refl _ _) (some g)) (.inl rfl) _) (.inl rfl) _
  have NA : NodeAt ((w.setCell ⟨g, 8, none⟩ (.int .i64 3)).setCell ⟨g, 9, none⟩ (.int .i64 0)) g S E V M X { d with role := 3, lead := 0 } := hN.turn gA ((hN.blk.set_ 8 (.int .i64 3)).set_ 9 (.int .i64 0)) ⟨rfl, rfl, rfl, rfl⟩
  go_enter Try.func45, Try.ntmps45
  go_upto_region 2 with fail
  have BA : BlP F w ((w.setCell ⟨g, 8, none⟩ (.int .i64 3)).setCell ⟨g, 9, none⟩ (.int .i64 0)) := (BlP.refl F w).grown gA (fun b e h => (HF.out b h).1 (Option.some.inj e).symm)
  clear y5 y8 y9 f8 f9
  generalize ((w.setCell ⟨g, 8, none⟩ (.int .i64 3)).setCell ⟨g, 9, none⟩ (.int .i64 0)) = u at *
  have zu := gA.size
  clear hN gA
  obtain ⟨d1, hd1⟩ : ∃ d1 : LNode, d1 = { d with role := 3, lead := 0 } := ⟨_, rfl⟩
  rw [← hd1] at NA
  replace HN1 : Hid (d1.n = 1) := by show _ = _; rw [hd1]; exact HN1.out
  replace HI : Hid (d1.id = 0) := by show _ = _; rw [hd1]; exact HI.out
  have HD1 := Lib.hid hd1
  clear hd1
  go_cut [14] (fun v14 wx => ∃ gm gx : Nat, v14 = .pointer (some ⟨g, 0, none⟩) ∧ gm ≠ gx ∧ u.heap.size ≤ gm ∧ u.heap.size ≤ gx ∧ Blk wx g 48 (nodeC E V (.slice (some ⟨gm, 0, none⟩) 1 1) (.slice (some ⟨gx, 0, none⟩) 1 1) d1) ∧ Blk wx gm 28 #[.int .u64 0] ∧ Blk wx gx 28 #[.int .u64 0] ∧ u.grownBy wx (some g))
  case first =>
    have k0 := NA.blk
    have hug := NA.blk.lt
    have k1 := k0.drew
    have r1 : u.grownBy u.drew (some g) := only_drew (only_of_below (Below.refl _ _) (some g))
    clear NA BA
    refine wp_region_noPanic ?_
    have hS0 : u.drew.cell? ⟨g, 6, none⟩ = some (.int .i64 1) := (k1.cell 6).trans (congrArg some (congrArg (Value.int .i64) (congrArg Int.ofNat HN1.out)))
    refine wp_region_held_drew (S := fun Y => Y.cell? ⟨g, 6, none⟩ = some (.int .i64 1)) (by kernel_rfl) hS0 (fun hH => ?_)
    generalize hu1 : u.drew = u1 at *
    have HU1 := Lib.hid hu1
    clear hu1
    refine wpAnyH_take (i := 0) (v := ?_) rfl (by kernel_rfl) (by kernel_rfl) (by kernel_rfl) (fun _ _ _ h => h) (Or.inl ⟨by rfl, ?_⟩) hH ?_
    case refine_2 => intro w hSw; go_simp; try with_reducible rfl
    try simp only [Z1, Z2, Z4, Z5, Z6, Z7]
    refine wpAnyH_take (i := 1) (v := ?_) rfl (by kernel_rfl) (by kernel_rfl) (by kernel_rfl) (fun _ _ _ h => h) (Or.inl ⟨by rfl, ?_⟩) hH ?_
    case refine_2 => intro w hSw; go_simp; try with_reducible rfl
    try simp only [Z1, Z2, Z3, Z4, Z5, Z6, Z7]
    refine wpAnyH_take (i := 2) (v := ?_) rfl (by kernel_rfl) (by kernel_rfl) (by kernel_rfl) (fun _ _ _ h => h) (Or.inl ⟨by rfl, ?_⟩) hH ?_
    case refine_2 => intro w hSw; go_simp; try with_reducible rfl
    try simp only [Z1, Z2, Z3, Z4, Z5, Z6, Z7]
    refine wpAnyH_take (i := 3) (v := ?_) rfl (by kernel_rfl) (by kernel_rfl) (by kernel_rfl) (fun _ _ _ h => h) (Or.inl ⟨by rfl, ?_⟩) hH ?_
    case refine_2 => intro w hSw; go_simp; try with_reducible rfl
    try simp only [Z1, Z2, Z3, Z4, Z5, Z6, Z7]
    refine wpAnyH_take (i := 4) (v := ?_) rfl (by kernel_rfl) (by kernel_rfl) (by kernel_rfl) (fun _ _ _ h => h) (Or.inl ⟨by rfl, ?_⟩) hH ?_
    case refine_2 => intro w hSw; go_simp; try with_reducible rfl
    try simp only [Z1, Z2, Z3, Z4, Z5, Z6, Z7]
    refine wpAnyH_take (i := 5) (v := ?_) rfl (by kernel_rfl) (by kernel_rfl) (by kernel_rfl) (fun _ _ _ h => h) (Or.inl ⟨by rfl, ?_⟩) hH ?_
    case refine_2 => intro w hSw; have s6 : w.cell? ⟨_, 6, none⟩ = some (.int .i64 1) := hSw; clear hSw; go_simp; try with_reducible rfl
    try simp only [Z1, Z2, Z3, Z4, Z5, Z6, Z7]
    refine wpAnyH_take (i := 7) (v := ?_) rfl (by kernel_rfl) (by kernel_rfl) (by kernel_rfl) (fun _ _ _ h => h) (Or.inl ⟨by rfl, ?_⟩) hH ?_
    case refine_2 => intro w hSw; go_simp; try with_reducible rfl
    try simp only [Z1, Z2, Z3, Z4, Z5, Z6, Z7]
    refine wpAnyH_take (i := 8) (v := ?_) rfl (by kernel_rfl) (by kernel_rfl) (by kernel_rfl) (fun _ _ _ h => h) (Or.inl ⟨by rfl, ?_⟩) hH ?_
    case refine_2 => intro w hSw; go_simp; try with_reducible rfl
    try simp only [Z1, Z2, Z3, Z4, Z5, Z6, Z7]
    refine wpAnyH_take (i := 9) (v := ?_) rfl (by kernel_rfl) (by kernel_rfl) (by kernel_rfl) (fun _ _ _ h => h) (Or.inl ⟨by rfl, ?_⟩) hH ?_
    case refine_2 => intro w hSw; go_simp; try with_reducible rfl
    try simp only [Z1, Z2, Z3, Z4, Z5, Z6, Z7]
    refine wpAnyH_take (i := 10) (v := ?_) rfl (by kernel_rfl) (by kernel_rfl) (by kernel_rfl) (fun _ _ _ h => h) (Or.inl ⟨by rfl, ?_⟩) hH ?_
    case refine_2 => intro w hSw; have s6 : w.cell? ⟨_, 6, none⟩ = some (.int .i64 1) := hSw; clear hSw; go_simp; try with_reducible rfl
    try simp only [Z1, Z2, Z3, Z4, Z5, Z6, Z7]
    refine wpAnyH_ready (rs := [6, 11]) (by kernel_rfl) (by simp) ?_
    refine AllReadyH.cons rfl (fun K hK => ?_) (AllReadyH.cons rfl (fun K hK => ?_) AllReadyH.nil)
    · have hmk := run_make_u
      go_simp
      clear hmk
      have qM := Blk.new u1 28 #[.int .u64 0]
      have zM := r1.size
      have k2 := k1.alloc (.cells #[.int .u64 0] 28)
      have r2 := only_alloc r1 (.cells #[.int .u64 0] 28)
      change K _ (u1.alloc (.cells #[.int .u64 0] 28))
      generalize (u1.alloc (.cells #[.int .u64 0] 28)) = u2 at *
      refine hK.out _ _ ((k2.cell 6).trans (congrArg some (congrArg (Value.int .i64) (congrArg Int.ofNat HN1.out)))) (fun hH => ?_)
      clear hK K
      try dsimp only
      try simp only [Z1, Z2, Z3, Z4, Z5, Z6, Z7]
      refine wpAnyH_take (i := 12) (v := ?_) rfl (by kernel_rfl) (by kernel_rfl) (by kernel_rfl) (fun _ _ _ h => h) (Or.inl ⟨by rfl, ?_⟩) hH ?_
      case refine_2 => intro w hSw; go_simp; try with_reducible rfl
      try simp only [Z1, Z2, Z3, Z4, Z5, Z6, Z7]
      refine wpAnyH_take (i := 13) (v := ?_) rfl (by kernel_rfl) (by kernel_rfl) (by kernel_rfl) (fun _ _ _ h => h) (Or.inl ⟨by rfl, ?_⟩) hH ?_
      case refine_2 => intro w hSw; go_simp; try with_reducible rfl
      try simp only [Z1, Z2, Z3, Z4, Z5, Z6, Z7]
      refine wpAnyH_ready (rs := [11, 14]) (by kernel_rfl) (by simp) ?_
      refine AllReadyH.cons rfl (fun K hK => ?_) (AllReadyH.cons rfl (fun K hK => ?_) AllReadyH.nil)
      · have hmk := run_make_u
        go_simp
        clear hmk
        have qX := Blk.new u2 28 #[.int .u64 0]
        have zX := r2.size
        have k3 := k2.alloc (.cells #[.int .u64 0] 28)
        have r3 := only_alloc r2 (.cells #[.int .u64 0] 28)
        have eM := qM.lt
        have qM3 := qM.alloc (.cells #[.int .u64 0] 28)
        change K _ (u2.alloc (.cells #[.int .u64 0] 28))
        generalize (u2.alloc (.cells #[.int .u64 0] 28)) = u3 at *
        refine hK.out _ _ ((k3.cell 6).trans (congrArg some (congrArg (Value.int .i64) (congrArg Int.ofNat HN1.out)))) (fun hH => ?_)
        clear hK K
        try dsimp only
        try simp only [Z1, Z2, Z3, Z4, Z5, Z6, Z7]
        refine wpAnyH_ready (rs := [14]) (by kernel_rfl) (by simp) ?_
        refine AllReadyH.cons rfl (fun K hK => ?_) AllReadyH.nil
        have yc := k3.cell 13
        replace yc : u3.cell? ⟨g, 13, none⟩ = some (M) := yc
        have fc : u3.frozen? ⟨g, 13, none⟩ = false := k3.frozen 13
        go_simp
        clear yc fc
        have k4 : Blk (u3.setCell ⟨g, 13, none⟩ (.slice (some ⟨u1.heap.size, 0, none⟩) 1 1)) g 48 (nodeC E V (.slice (some ⟨u1.heap.size, 0, none⟩) 1 1) X d1) := k3.set_ 13 _
        have r4 : u.grownBy (u3.setCell ⟨g, 13, none⟩ (.slice (some ⟨u1.heap.size, 0, none⟩) 1 1)) (some g) := only_setCell r3 (.inl rfl) _
        have qM4 := qM3.far (p := ⟨g, 13, none⟩) (by show u1.heap.size ≠ g; omega) (.slice (some ⟨u1.heap.size, 0, none⟩) 1 1)
        have qX4 := qX.far (p := ⟨g, 13, none⟩) (by show u2.heap.size ≠ g; omega) (.slice (some ⟨u1.heap.size, 0, none⟩) 1 1)
        generalize (u3.setCell ⟨g, 13, none⟩ (.slice (some ⟨u1.heap.size, 0, none⟩) 1 1)) = u4 at *
        refine hK.out _ _ ((k4.cell 6).trans (congrArg some (congrArg (Value.int .i64) (congrArg Int.ofNat HN1.out)))) (fun hH => ?_)
        clear hK K
        try dsimp only
        try simp only [Z1, Z2, Z3, Z4, Z5, Z6, Z7]
        refine wpAnyH_take (i := 15) (v := ?_) rfl (by kernel_rfl) (by kernel_rfl) (by kernel_rfl) (fun _ _ _ h => h) (Or.inl ⟨by rfl, ?_⟩) hH ?_
        case refine_2 => intro w hSw; go_simp; try with_reducible rfl
        try simp only [Z1, Z2, Z3, Z4, Z5, Z6, Z7]
        refine wpAnyH_take (i := 16) (v := ?_) rfl (by kernel_rfl) (by kernel_rfl) (by kernel_rfl) (fun _ _ _ h => h) (Or.inl ⟨by rfl, ?_⟩) hH ?_
        case refine_2 => intro w hSw; go_simp; try with_reducible rfl
        try simp only [Z1, Z2, Z3, Z4, Z5, Z6, Z7]
        refine wpAnyH_ready (rs := [17]) (by kernel_rfl) (by simp) ?_
        refine AllReadyH.cons rfl (fun K hK => ?_) AllReadyH.nil
        have yc := k4.cell 14
        replace yc : u4.cell? ⟨g, 14, none⟩ = some (X) := yc
        have fc : u4.frozen? ⟨g, 14, none⟩ = false := k4.frozen 14
        go_simp
        clear yc fc
        have k5 : Blk (u4.setCell ⟨g, 14, none⟩ (.slice (some ⟨u2.heap.size, 0, none⟩) 1 1)) g 48 (nodeC E V (.slice (some ⟨u1.heap.size, 0, none⟩) 1 1) (.slice (some ⟨u2.heap.size, 0, none⟩) 1 1) d1) := k4.set_ 14 _
        have r5 : u.grownBy (u4.setCell ⟨g, 14, none⟩ (.slice (some ⟨u2.heap.size, 0, none⟩) 1 1)) (some g) := only_setCell r4 (.inl rfl) _
        have qM5 := qM4.far (p := ⟨g, 14, none⟩) (by show u1.heap.size ≠ g; omega) (.slice (some ⟨u2.heap.size, 0, none⟩) 1 1)
        have qX5 := qX4.far (p := ⟨g, 14, none⟩) (by show u2.heap.size ≠ g; omega) (.slice (some ⟨u2.heap.size, 0, none⟩) 1 1)
        generalize (u4.setCell ⟨g, 14, none⟩ (.slice (some ⟨u2.heap.size, 0, none⟩) 1 1)) = u5 at *
        refine hK.out _ _ ((k5.cell 6).trans (congrArg some (congrArg (Value.int .i64) (congrArg Int.ofNat HN1.out)))) (fun hH => ?_)
        clear hK K
        try dsimp only
        try simp only [Z1, Z2, Z3, Z4, Z5, Z6, Z7]
        refine wpAnyH_done (by kernel_rfl) ?_ _
        refine NoPanic.normal ?_
        go_wp2_with fail
        go_meet
        case rel => exact ⟨u1.heap.size, u2.heap.size, rfl, by omega, zM, zX, k5, qM5, qX5, r5⟩
      · have yc := k2.cell 13
        replace yc : u2.cell? ⟨g, 13, none⟩ = some (M) := yc
        have fc : u2.frozen? ⟨g, 13, none⟩ = false := k2.frozen 13
        go_simp
        clear yc fc
        have k3 : Blk (u2.setCell ⟨g, 13, none⟩ (.slice (some ⟨u1.heap.size, 0, none⟩) 1 1)) g 48 (nodeC E V (.slice (some ⟨u1.heap.size, 0, none⟩) 1 1) X d1) := k2.set_ 13 _
        have r3 : u.grownBy (u2.setCell ⟨g, 13, none⟩ (.slice (some ⟨u1.heap.size, 0, none⟩) 1 1)) (some g) := only_setCell r2 (.inl rfl) _
        have qM3 := qM.far (p := ⟨g, 13, none⟩) (by show u1.heap.size ≠ g; omega) (.slice (some ⟨u1.heap.size, 0, none⟩) 1 1)
        generalize (u2.setCell ⟨g, 13, none⟩ (.slice (some ⟨u1.heap.size, 0, none⟩) 1 1)) = u3 at *
        refine hK.out _ _ ((k3.cell 6).trans (congrArg some (congrArg (Value.int .i64) (congrArg Int.ofNat HN1.out)))) (fun hH => ?_)
        clear hK K
        try dsimp only
        try simp only [Z1, Z2, Z3, Z4, Z5, Z6, Z7]
        refine wpAnyH_ready (rs := [11]) (by kernel_rfl) (by simp) ?_
        refine AllReadyH.cons rfl (fun K hK => ?_) AllReadyH.nil
        have hmk := run_make_u
        go_simp
        clear hmk
        have qX := Blk.new u3 28 #[.int .u64 0]
        have zX := r3.size
        have k4 := k3.alloc (.cells #[.int .u64 0] 28)
        have r4 := only_alloc r3 (.cells #[.int .u64 0] 28)
        have eM := qM3.lt
        have qM4 := qM3.alloc (.cells #[.int .u64 0] 28)
        change K _ (u3.alloc (.cells #[.int .u64 0] 28))
        generalize (u3.alloc (.cells #[.int .u64 0] 28)) = u4 at *
        refine hK.out _ _ ((k4.cell 6).trans (congrArg some (congrArg (Value.int .i64) (congrArg Int.ofNat HN1.out)))) (fun hH => ?_)
        clear hK K
        try dsimp only
        try simp only [Z1, Z2, Z3, Z4, Z5, Z6, Z7]
        refine wpAnyH_take (i := 15) (v := ?_) rfl (by kernel_rfl) (by kernel_rfl) (by kernel_rfl) (fun _ _ _ h => h) (Or.inl ⟨by rfl, ?_⟩) hH ?_
        case refine_2 => intro w hSw; go_simp; try with_reducible rfl
        try simp only [Z1, Z2, Z3, Z4, Z5, Z6, Z7]
        refine wpAnyH_take (i := 16) (v := ?_) rfl (by kernel_rfl) (by kernel_rfl) (by kernel_rfl) (fun _ _ _ h => h) (Or.inl ⟨by rfl, ?_⟩) hH ?_
        case refine_2 => intro w hSw; go_simp; try with_reducible rfl
        try simp only [Z1, Z2, Z3, Z4, Z5, Z6, Z7]
        refine wpAnyH_ready (rs := [17]) (by kernel_rfl) (by simp) ?_
        refine AllReadyH.cons rfl (fun K hK => ?_) AllReadyH.nil
        have yc := k4.cell 14
        replace yc : u4.cell? ⟨g, 14, none⟩ = some (X) := yc
        have fc : u4.frozen? ⟨g, 14, none⟩ = false := k4.frozen 14
        go_simp
        clear yc fc
        have k5 : Blk (u4.setCell ⟨g, 14, none⟩ (.slice (some ⟨u3.heap.size, 0, none⟩) 1 1)) g 48 (nodeC E V (.slice (some ⟨u1.heap.size, 0, none⟩) 1 1) (.slice (some ⟨u3.heap.size, 0, none⟩) 1 1) d1) := k4.set_ 14 _
        have r5 : u.grownBy (u4.setCell ⟨g, 14, none⟩ (.slice (some ⟨u3.heap.size, 0, none⟩) 1 1)) (some g) := only_setCell r4 (.inl rfl) _
        have qM5 := qM4.far (p := ⟨g, 14, none⟩) (by show u1.heap.size ≠ g; omega) (.slice (some ⟨u3.heap.size, 0, none⟩) 1 1)
        have qX5 := qX.far (p := ⟨g, 14, none⟩) (by show u3.heap.size ≠ g; omega) (.slice (some ⟨u3.heap.size, 0, none⟩) 1 1)
        generalize (u4.setCell ⟨g, 14, none⟩ (.slice (some ⟨u3.heap.size, 0, none⟩) 1 1)) = u5 at *
        refine hK.out _ _ ((k5.cell 6).trans (congrArg some (congrArg (Value.int .i64) (congrArg Int.ofNat HN1.out)))) (fun hH => ?_)
        clear hK K
        try dsimp only
        try simp only [Z1, Z2, Z3, Z4, Z5, Z6, Z7]
        refine wpAnyH_done (by kernel_rfl) ?_ _
        refine NoPanic.normal ?_
        go_wp2_with fail
        go_meet
        case rel => exact ⟨u1.heap.size, u3.heap.size, rfl, by omega, zM, zX, k5, qM5, qX5, r5⟩
    · have hmk := run_make_u
      go_simp
      clear hmk
      have qX := Blk.new u1 28 #[.int .u64 0]
      have zX := r1.size
      have k2 := k1.alloc (.cells #[.int .u64 0] 28)
      have r2 := only_alloc r1 (.cells #[.int .u64 0] 28)
      change K _ (u1.alloc (.cells #[.int .u64 0] 28))
      generalize (u1.alloc (.cells #[.int .u64 0] 28)) = u2 at *
      refine hK.out _ _ ((k2.cell 6).trans (congrArg some (congrArg (Value.int .i64) (congrArg Int.ofNat HN1.out)))) (fun hH => ?_)
      clear hK K
      try dsimp only
      try simp only [Z1, Z2, Z3, Z4, Z5, Z6, Z7]
      refine wpAnyH_ready (rs := [6]) (by kernel_rfl) (by simp) ?_
      refine AllReadyH.cons rfl (fun K hK => ?_) AllReadyH.nil
      have hmk := run_make_u
      go_simp
      clear hmk
      have qM := Blk.new u2 28 #[.int .u64 0]
      have zM := r2.size
      have k3 := k2.alloc (.cells #[.int .u64 0] 28)
      have r3 := only_alloc r2 (.cells #[.int .u64 0] 28)
      have eX := qX.lt
      have qX3 := qX.alloc (.cells #[.int .u64 0] 28)
      change K _ (u2.alloc (.cells #[.int .u64 0] 28))
      generalize (u2.alloc (.cells #[.int .u64 0] 28)) = u3 at *
      refine hK.out _ _ ((k3.cell 6).trans (congrArg some (congrArg (Value.int .i64) (congrArg Int.ofNat HN1.out)))) (fun hH => ?_)
      clear hK K
      try dsimp only
      try simp only [Z1, Z2, Z3, Z4, Z5, Z6, Z7]
      refine wpAnyH_take (i := 12) (v := ?_) rfl (by kernel_rfl) (by kernel_rfl) (by kernel_rfl) (fun _ _ _ h => h) (Or.inl ⟨by rfl, ?_⟩) hH ?_
      case refine_2 => intro w hSw; go_simp; try with_reducible rfl
      try simp only [Z1, Z2, Z3, Z4, Z5, Z6, Z7]
      refine wpAnyH_take (i := 13) (v := ?_) rfl (by kernel_rfl) (by kernel_rfl) (by kernel_rfl) (fun _ _ _ h => h) (Or.inl ⟨by rfl, ?_⟩) hH ?_
      case refine_2 => intro w hSw; go_simp; try with_reducible rfl
      try simp only [Z1, Z2, Z3, Z4, Z5, Z6, Z7]
      refine wpAnyH_ready (rs := [14]) (by kernel_rfl) (by simp) ?_
      refine AllReadyH.cons rfl (fun K hK => ?_) AllReadyH.nil
      have yc := k3.cell 13
      replace yc : u3.cell? ⟨g, 13, none⟩ = some (M) := yc
      have fc : u3.frozen? ⟨g, 13, none⟩ = false := k3.frozen 13
      go_simp
      clear yc fc
      have k4 : Blk (u3.setCell ⟨g, 13, none⟩ (.slice (some ⟨u2.heap.size, 0, none⟩) 1 1)) g 48 (nodeC E V (.slice (some ⟨u2.heap.size, 0, none⟩) 1 1) X d1) := k3.set_ 13 _
      have r4 : u.grownBy (u3.setCell ⟨g, 13, none⟩ (.slice (some ⟨u2.heap.size, 0, none⟩) 1 1)) (some g) := only_setCell r3 (.inl rfl) _
      have qX4 := qX3.far (p := ⟨g, 13, none⟩) (by show u1.heap.size ≠ g; omega) (.slice (some ⟨u2.heap.size, 0, none⟩) 1 1)
      have qM4 := qM.far (p := ⟨g, 13, none⟩) (by show u2.heap.size ≠ g; omega) (.slice (some ⟨u2.heap.size, 0, none⟩) 1 1)
      generalize (u3.setCell ⟨g, 13, none⟩ (.slice (some ⟨u2.heap.size, 0, none⟩) 1 1)) = u4 at *
      refine hK.out _ _ ((k4.cell 6).trans (congrArg some (congrArg (Value.int .i64) (congrArg Int.ofNat HN1.out)))) (fun hH => ?_)
      clear hK K
      try dsimp only
      try simp only [Z1, Z2, Z3, Z4, Z5, Z6, Z7]
      refine wpAnyH_take (i := 15) (v := ?_) rfl (by kernel_rfl) (by kernel_rfl) (by kernel_rfl) (fun _ _ _ h => h) (Or.inl ⟨by rfl, ?_⟩) hH ?_
      case refine_2 => intro w hSw; go_simp; try with_reducible rfl
      try simp only [Z1, Z2, Z3, Z4, Z5, Z6, Z7]
      refine wpAnyH_take (i := 16) (v := ?_) rfl (by kernel_rfl) (by kernel_rfl) (by kernel_rfl) (fun _ _ _ h => h) (Or.inl ⟨by rfl, ?_⟩) hH ?_
      case refine_2 => intro w hSw; go_simp; try with_reducible rfl
      try simp only [Z1, Z2, Z3, Z4, Z5, Z6, Z7]
      refine wpAnyH_ready (rs := [17]) (by kernel_rfl) (by simp) ?_
      refine AllReadyH.cons rfl (fun K hK => ?_) AllReadyH.nil
      have yc := k4.cell 14
      replace yc : u4.cell? ⟨g, 14, none⟩ = some (X) := yc
      have fc : u4.frozen? ⟨g, 14, none⟩ = false := k4.frozen 14
      go_simp
      clear yc fc
      have k5 : Blk (u4.setCell ⟨g, 14, none⟩ (.slice (some ⟨u1.heap.size, 0, none⟩) 1 1)) g 48 (nodeC E V (.slice (some ⟨u2.heap.size, 0, none⟩) 1 1) (.slice (some ⟨u1.heap.size, 0, none⟩) 1 1) d1) := k4.set_ 14 _
      have r5 : u.grownBy (u4.setCell ⟨g, 14, none⟩ (.slice (some ⟨u1.heap.size, 0, none⟩) 1 1)) (some g) := only_setCell r4 (.inl rfl) _
      have qX5 := qX4.far (p := ⟨g, 14, none⟩) (by show u1.heap.size ≠ g; omega) (.slice (some ⟨u1.heap.size, 0, none⟩) 1 1)
      have qM5 := qM4.far (p := ⟨g, 14, none⟩) (by show u2.heap.size ≠ g; omega) (.slice (some ⟨u1.heap.size, 0, none⟩) 1 1)
      generalize (u4.setCell ⟨g, 14, none⟩ (.slice (some ⟨u1.heap.size, 0, none⟩) 1 1)) = u5 at *
      refine hK.out _ _ ((k5.cell 6).trans (congrArg some (congrArg (Value.int .i64) (congrArg Int.ofNat HN1.out)))) (fun hH => ?_)
      clear hK K
      try dsimp only
      try simp only [Z1, Z2, Z3, Z4, Z5, Z6, Z7]
      refine wpAnyH_done (by kernel_rfl) ?_ _
      refine NoPanic.normal ?_
      go_wp2_with fail
      go_meet
      case rel => exact ⟨u2.heap.size, u1.heap.size, rfl, by omega, zM, zX, k5, qM5, qX5, r5⟩
  case rest =>
    obtain ⟨gm, gx, rfl, hne, hgm, hgx, kB, kM, kX, gB⟩ := hcut
    obtain ⟨d2, hd2⟩ : ∃ d2 : LNode, d2 = { d1 with mat := [0], next := [0] } := ⟨_, rfl⟩
    have NB := NA.newMX (d' := d2) gB (by rw [hd2]; exact kB) (by rw [hd2]; exact ⟨rfl, rfl⟩) hgm hgx hne (by rw [hd2]; exact own_new1 kM rfl (fun _ => ⟨rfl, by decide⟩)) (by rw [hd2]; exact own_new1 kX rfl (fun _ => ⟨rfl, by decide⟩))
    have BB := BA.grown gB (fun b e h => (HF.out b h).1 (Option.some.inj e).symm)
    have HD2 := Lib.hid hd2
    have Hgm := Lib.hid (show w.heap.size ≤ gm by omega)
    have Hgx := Lib.hid (show w.heap.size ≤ gx by omega)
    clear hd2 kB kM kX gB NA BA hgm hgx
    obtain ⟨A, ec, rfl⟩ := NB.log.shape
    have HLN : Hid (lastN d2 = lastN d) := by show _ = _; rw [HD2.out, HD1.out]; rfl
    have HB2 : NodeB d2 := by rw [HD2.out, HD1.out]; exact ⟨by show d.base + d.log.length ≤ _; omega, hbt⟩
    have HBF : BlP (fun b => F b ∧ b < w.heap.size) w wc := ⟨BB.os, BB.tape, BB.output, BB.size, fun b h1 h2 => BB.block b h1 h2.1⟩
    have hx2 : lastN d2 + 1 ≤ 9223372036854775808 := by have := HB2.last; unfold lastN; omega
    clear BB
    go_upto_region 3 with fail
    have y14 : wc.cell? ⟨g, 14, none⟩ = some (.slice (some ⟨gx, 0, none⟩) 1 1) := NB.blk.cell 14
    go_wp2_with fail
    clear y14
    have HN2 : Hid (d2.n = 1) := by show _ = _; rw [HD2.out]; exact HN1.out
    have HI2 : Hid (d2.id = 0) := by show _ = _; rw [HD2.out]; exact HI.out
    go_loopw [35] (fun v wr => ∃ x : Nat, NodeAt wr g S (.slice A d2.log.length ec) V (.slice (some ⟨gm, 0, none⟩) 1 1) (.slice (some ⟨gx, 0, none⟩) 1 1) { d2 with next := [x] } ∧ BlP (fun b => F b ∧ b < w.heap.size) w wr ∧ (v = .int .i64 0 ∨ (v = .int .i64 1 ∧ Hid (x = lastN d2 + 1)))) (fun v _ => 1 - (intOf v).toNat)
    case atStart =>
      refine ⟨0, ?_, HBF, .inl rfl⟩
      rw [show ({ d2 with next := [0] } : LNode) = d2 by rw [HD2.out]]
      exact NB
    case round =>
      obtain ⟨x, N5, B5, rfl | ⟨rfl, HX⟩⟩ := hrel
      · clear NB HBF
        go_upto_region 6 with fail
        refine wp_region_noPanic ?_
        have kd := N5.blk.drew
        refine wp_region_heldK (fun Y => Blk Y g 48 (nodeC (.slice A d2.log.length ec) V (.slice (some ⟨gm, 0, none⟩) 1 1) (.slice (some ⟨gx, 0, none⟩) 1 1) { d2 with next := [x] })) 9 (by kernel_rfl) kd (fun hH => ?_)
        refine wpAnyK_takeY (i := 0) (v := ?_) rfl (by kernel_rfl) (by kernel_rfl) (by kernel_rfl) (by kernel_rfl) (fun _ _ _ h => h) (Or.inl ⟨by rfl, ?_⟩) hH ?_
        case refine_2 => intro w; go_simp; try with_reducible rfl
        try simp only [Z1, Z2, Z4, Z5, Z6, Z7]
        refine wpAnyK_takeY (i := 1) (v := ?_) rfl (by kernel_rfl) (by kernel_rfl) (by kernel_rfl) (by kernel_rfl) (fun _ _ _ h => h) (Or.inl ⟨by rfl, ?_⟩) hH ?_
        case refine_2 => intro w; go_simp; try with_reducible rfl
        try simp only [Z1, Z2, Z3, Z4, Z5, Z6, Z7]
        refine wpAnyK_takeY (i := 2) (v := ?_) rfl (by kernel_rfl) (by kernel_rfl) (by kernel_rfl) (by kernel_rfl) (fun _ _ _ h => h) (Or.inl ⟨by rfl, ?_⟩) hH ?_
        case refine_2 => intro w; go_simp; try with_reducible rfl
        try simp only [Z1, Z2, Z3, Z4, Z5, Z6, Z7]
        refine wpAnyK_take (i := 3) (v := ?_) rfl (by kernel_rfl) (by kernel_rfl) (by kernel_rfl) (by kernel_rfl) (fun _ _ _ h => h) (Or.inl ⟨by rfl, ?_⟩) hH ?_
        case refine_2 => intro w hSw; have kw : Blk w g 48 (nodeC (.slice A d2.log.length ec) V (.slice (some ⟨gm, 0, none⟩) 1 1) (.slice (some ⟨gx, 0, none⟩) 1 1) { d2 with next := [x] }) := hSw; have s14 : w.cell? ⟨_, 14, none⟩ = some (.slice (some ⟨gx, 0, none⟩) 1 1) := Blk.cell kw 14; clear kw hSw; go_simp; try with_reducible rfl
        try simp only [Z1, Z2, Z3, Z4, Z5, Z6, Z7]
        refine wpAnyK_takeY (i := 4) (v := ?_) rfl (by kernel_rfl) (by kernel_rfl) (by kernel_rfl) (by kernel_rfl) (fun _ _ _ h => h) (Or.inl ⟨by rfl, ?_⟩) hH ?_
        case refine_2 => intro w; go_simp; try with_reducible rfl
        try simp only [Z1, Z2, Z3, Z4, Z5, Z6, Z7]
        refine wpAnyK_takeY (i := 5) (v := ?_) rfl (by kernel_rfl) (by kernel_rfl) (by kernel_rfl) (by kernel_rfl) (fun _ _ _ h => h) (Or.inl ⟨by rfl, ?_⟩) hH ?_
        case refine_2 => intro w; go_simp; try with_reducible rfl
        try simp only [Z1, Z2, Z3, Z4, Z5, Z6, Z7]
        refine wpAnyK_ready (rs := [6]) (by kernel_rfl) (by simp) ?_
        refine AllReadyK.cons rfl (by kernel_rfl) (fun K hK => ?_) AllReadyK.nil
        go_simp
        refine (last_any g A ec V (.slice (some ⟨gm, 0, none⟩) 1 1) (.slice (some ⟨gx, 0, none⟩) 1 1) { d2 with next := [x] } wr.drew kd ⟨HB2.last, HB2.bt⟩).mono ?_
        rintro en w6 ⟨rfl, q, hq⟩
        have d6 : Below wr.heap.size wr w6 := by rw [hq]; exact ⟨rfl, rfl, rfl, Nat.le_refl _, fun _ _ => rfl⟩
        have k6 := N5.blk.below d6 N5.blk.lt
        have N6 := N5.below d6
        have B6 := B5.trans (.of_below d6)
        clear kd hq N5 B5 d6
        refine hK.out _ _ k6 ?_
        clear hK K
        try dsimp only
        try simp only [Z1, Z2, Z3, Z4, Z5, Z6, Z7]
        have hwr : IntKind.u64.wrap (((lastN { d2 with next := [x] } : Nat) : Int) + 1) = ((lastN d2 + 1 : Nat) : Int) := by
          have e1 : lastN { d2 with next := [x] } = lastN d2 := rfl
          rw [e1]
          simp [IntKind.wrap, IntKind.bits, IntKind.signed]
          omega
        refine wpAnyK_takeY (i := 7) (v := ?_) rfl (by kernel_rfl) (by kernel_rfl) (by kernel_rfl) (by kernel_rfl) (fun _ _ _ h => h) (Or.inl ⟨by rfl, ?_⟩) k6 ?_
        case refine_2 => intro w; go_simp; try with_reducible rfl
        try simp only [Z1, Z2, Z3, Z4, Z5, Z6, Z7]
        clear hwr
        refine wpAnyK_takeY (i := 8) (v := ?_) rfl (by kernel_rfl) (by kernel_rfl) (by kernel_rfl) (by kernel_rfl) (fun _ _ _ h => h) (Or.inl ⟨by rfl, ?_⟩) k6 ?_
        case refine_2 => intro w; go_simp; try with_reducible rfl
        try simp only [Z1, Z2, Z3, Z4, Z5, Z6, Z7]
        refine wpAnyK_ready (rs := [9]) (by kernel_rfl) (by simp) ?_
        refine AllReadyK.turn rfl (fun K hK => ?_) AllReadyK.nil
        obtain ⟨yx, fx, _⟩ := N6.nxtCell rfl
        have N7 := N6.setX (x := lastN d2 + 1) rfl (by omega)
        have eZ : w6.setCell ⟨gx, 0, none⟩ (.int .u64 ((lastN d2 + 1 : Nat) : Int)) = w6.setCell ⟨gx, 0, none⟩ (.int .u64 ((lastN d2 : Int) + 1)) := rfl
        rw [eZ] at N7
        clear eZ
        have B7 : BlP (fun b => F b ∧ b < w.heap.size) w (w6.setCell ⟨gx, 0, none⟩ (.int .u64 ((lastN d2 : Int) + 1))) := B6.setCell (fun h => by have h1 : gx < w.heap.size := h.2; have := Hgx.out; omega) _
        go_simp
        refine hK.out _ _ ?_
        clear hK K hH
        try simp only [Z1, Z2, Z3, Z4, Z5, Z6, Z7]
        refine wpAny_done (by kernel_rfl) ?_ _
        refine NoPanic.normal ?_
        clear yx fx N6 k6 B6
        go_wp2_with fail
        go_roundw
        case rel => exact ⟨lastN d2 + 1, N7, B7, .inr ⟨rfl, rfl⟩⟩
        case measure => simp [intOf]
      · clear NB HBF
        obtain rfl := HX.out
        have T := add_one g (fun b => F b ∧ b < w.heap.size) { d2 with next := [lastN d2 + 1] } 0 none [] 0 wr
          ⟨_, _, _, _, _, N5, fun b h => by
            obtain ⟨f1, f2, f3, f4, f5, f6⟩ := HF.out b h.1
            exact ⟨f1, f2, f3, f4, (fun e => by have h1 : gm = b := Option.some.inj e; have := Hgm.out; have := h.2; omega), (fun e => by have h1 : gx = b := Option.some.inj e; have := Hgx.out; have := h.2; omega)⟩⟩
          (Bs.nil_ _ _) HN2.out HI2.out (by rw [HD2.out]) (by rw [HD2.out, HD1.out]; exact ht) (by rw [HD2.out, HD1.out]; exact hbl) (by rw [HD2.out, HD1.out]; exact hbb) (by rw [HD2.out, HD1.out]; exact hbt) (by rw [HD2.out, HD1.out]; exact hcm)
        have HBP : Hid (addP { d2 with next := [lastN d2 + 1] } [] = begP d) := by show _ = _; rw [HLN.out, HD2.out, HD1.out]; rfl
        rw [HBP.out] at T
        replace T : Calls Try.prog 32 #[.pointer (some ⟨g, 0, none⟩), .slice none 0 0] wr _ := T
        clear HX N5
        go_wp2_with fail
        refine T.mono ?_
        clear T
        rintro en w9 ⟨rfl, N9, B9⟩
        go_wp2_with fail
        go_ret
        refine ⟨rfl, N9.mono (fun b h => ⟨h, Nat.lt_of_lt_of_le h.2 B5.size⟩), ?_⟩
        have BZ := B5.trans B9
        exact ⟨BZ.os, BZ.tape, BZ.output, BZ.size, fun b h1 h2 => BZ.block b h1 ⟨h2, h1⟩⟩
end Go.Proofs.Ytjpcekpllfelhaa
