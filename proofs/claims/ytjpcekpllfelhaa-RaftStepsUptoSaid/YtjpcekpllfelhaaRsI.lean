/- begin of a node of a group. (Printed by wip/gen_rsi.py.) -/
import Derived.Test.YtjpcekpllfelhaaRsH
namespace Go.Proofs.Ytjpcekpllfelhaa
open Go.RowKit

theorem rep_set (n k a : Nat) (h : k < n) : (List.replicate k a ++ List.replicate (n - k) 0).set k a = List.replicate (k + 1) a ++ List.replicate (n - (k + 1)) 0 := by
  have e : n - k = (n - (k + 1)) + 1 := by omega
  rw [e, List.replicate_succ (n := n - (k + 1)), List.set_append_right _ _ (by rw [List.length_replicate]; exact Nat.le_refl _), List.length_replicate, Nat.sub_self]
  show List.replicate k a ++ (a :: List.replicate (n - (k + 1)) 0) = _
  rw [List.replicate_succ' (n := k), List.append_assoc]
  rfl
theorem rep_len (n k a : Nat) (h : k ≤ n) : (List.replicate k a ++ List.replicate (n - k) 0).length = n := by
  rw [List.length_append, List.length_replicate, List.length_replicate]
  omega
set_option maxRecDepth 100000 in
set_option maxHeartbeats 4000000 in
theorem begin_any (g : Nat) (F : Nat → Prop) (d : LNode) (w : World) (hd : ND w g F d) (hb : GB d) (hbl : d.log.length + 1 ≤ 1048576) (hn1 : 1 ≤ d.n) (hn5 : d.n ≤ 12) (hi : d.id < d.n) :
    Calls Try.prog 45 #[.pointer (some ⟨g, 0, none⟩)] w (RetMs g F (begG d) w) := by
  obtain ⟨S, E, V, M, X, hN, hF⟩ := hd
  have HF := Lib.hid hF
  clear hF
  have hgl := hN.blk.lt
  have y5 : w.cell? ⟨g, 5, none⟩ = some (.int .i64 (d.id : Int)) := hN.blk.cell 5
  have y8 : w.cell? ⟨g, 8, none⟩ = some (.int .i64 d.role) := hN.blk.cell 8
  have y9 : w.cell? ⟨g, 9, none⟩ = some (.int .i64 d.lead) := hN.blk.cell 9
  have f8 : w.frozen? ⟨g, 8, none⟩ = false := hN.blk.frozen 8
  have f9 : w.frozen? ⟨g, 9, none⟩ = false := hN.blk.frozen 9
  have gA : w.grownBy ((w.setCell ⟨g, 8, none⟩ (.int .i64 3)).setCell ⟨g, 9, none⟩ (.int .i64 (d.id : Int))) (some g) := only_setCell (only_setCell (only_of_below (Below.refl _ _) (some g)) (.inl rfl) _) (.inl rfl) _
  have NA : NodeAt ((w.setCell ⟨g, 8, none⟩ (.int .i64 3)).setCell ⟨g, 9, none⟩ (.int .i64 (d.id : Int))) g S E V M X { d with role := 3, lead := d.id } := hN.turn gA ((hN.blk.set_ 8 (.int .i64 3)).set_ 9 (.int .i64 (d.id : Int))) ⟨rfl, rfl, rfl, rfl⟩
  go_enter Try.func45, Try.ntmps45
  go_upto_region 2 with fail
  have BA : BlP F w ((w.setCell ⟨g, 8, none⟩ (.int .i64 3)).setCell ⟨g, 9, none⟩ (.int .i64 (d.id : Int))) := (BlP.refl F w).grown gA (fun b e h => (HF.out b h).1 (Option.some.inj e).symm)
  clear y5 y8 y9 f8 f9
  generalize ((w.setCell ⟨g, 8, none⟩ (.int .i64 3)).setCell ⟨g, 9, none⟩ (.int .i64 (d.id : Int))) = u at *
  have zu := gA.size
  clear hN gA
  obtain ⟨d1, hd1⟩ : ∃ d1 : LNode, d1 = { d with role := 3, lead := d.id } := ⟨_, rfl⟩
  rw [← hd1] at NA
  have hn12 : d1.n ≤ 1000 := by rw [hd1]; show d.n ≤ 1000; omega
  have HD1 := Lib.hid hd1
  clear hd1
  go_cut [14] (fun v14 wx => ∃ gm gx : Nat, v14 = .pointer (some ⟨g, 0, none⟩) ∧ gm ≠ gx ∧ u.heap.size ≤ gm ∧ u.heap.size ≤ gx ∧ Blk wx g 48 (nodeC E V (.slice (some ⟨gm, 0, none⟩) d1.n d1.n) (.slice (some ⟨gx, 0, none⟩) d1.n d1.n) d1) ∧ Blk wx gm 28 (Array.replicate d1.n (.int .u64 0)) ∧ Blk wx gx 28 (Array.replicate d1.n (.int .u64 0)) ∧ u.grownBy wx (some g))
  case first =>
    have k0 := NA.blk
    have hug := NA.blk.lt
    have k1 := k0.drew
    have r1 : u.grownBy u.drew (some g) := only_drew (only_of_below (Below.refl _ _) (some g))
    clear NA BA
    refine wp_region_noPanic ?_
    have hS0 : u.drew.cell? ⟨g, 6, none⟩ = some (.int .i64 (d1.n : Int)) := k1.cell 6
    refine wp_region_held_drew (S := fun Y => Y.cell? ⟨g, 6, none⟩ = some (.int .i64 (d1.n : Int))) (by kernel_rfl) hS0 (fun hH => ?_)
    generalize hu1 : u.drew = u1 at *
    have HU1 := Lib.hid hu1
    clear hu1
    refine wpAnyH_take (i := 0) (v := ?_) rfl (by kernel_rfl) (by kernel_rfl) (by kernel_rfl) (fun _ _ _ h => h) (Or.inl ⟨by rfl, ?_⟩) hH ?_
    case refine_2 => intro w hSw; go_simp; try with_reducible rfl
    try simp only [Z1, Z2, Z4, Z5, Z6, Z7]
    refine wpAnyH_take (i := 1) (v := ?_) rfl (by kernel_rfl) (by kernel_rfl) (by kernel_rfl) (fun _ _ _ h => h) (Or.inl ⟨by rfl, ?_⟩) hH ?_
    case refine_2 => intro w hSw; go_simp; try with_reducible rfl
    try simp only [Z1, Z2, Z3, Z4, Z5, Z6, Z7]
    refine wpAnyH_take (i := 2) (v := ?_) rfl (by kernel_rfl) (by kernel_rfl) (by kernel_rfl) (fun _ _ _ h => h) (Or.inl ⟨by rfl, ?_⟩) hH ?_
    case refine_2 => intro w hSw; go_simp; try with_reducible rfl
    try simp only [Z1, Z2, Z3, Z4, Z5, Z6, Z7]
    refine wpAnyH_take (i := 3) (v := ?_) rfl (by kernel_rfl) (by kernel_rfl) (by kernel_rfl) (fun _ _ _ h => h) (Or.inl ⟨by rfl, ?_⟩) hH ?_
    case refine_2 => intro w hSw; go_simp; try with_reducible rfl
    try simp only [Z1, Z2, Z3, Z4, Z5, Z6, Z7]
    refine wpAnyH_take (i := 4) (v := ?_) rfl (by kernel_rfl) (by kernel_rfl) (by kernel_rfl) (fun _ _ _ h => h) (Or.inl ⟨by rfl, ?_⟩) hH ?_
    case refine_2 => intro w hSw; go_simp; try with_reducible rfl
    try simp only [Z1, Z2, Z3, Z4, Z5, Z6, Z7]
    refine wpAnyH_take (i := 5) (v := ?_) rfl (by kernel_rfl) (by kernel_rfl) (by kernel_rfl) (fun _ _ _ h => h) (Or.inl ⟨by rfl, ?_⟩) hH ?_
    case refine_2 => intro w hSw; have s6 : w.cell? ⟨_, 6, none⟩ = some (.int .i64 (d1.n : Int)) := hSw; clear hSw; go_simp; try with_reducible rfl
    try simp only [Z1, Z2, Z3, Z4, Z5, Z6, Z7]
    refine wpAnyH_take (i := 7) (v := ?_) rfl (by kernel_rfl) (by kernel_rfl) (by kernel_rfl) (fun _ _ _ h => h) (Or.inl ⟨by rfl, ?_⟩) hH ?_
    case refine_2 => intro w hSw; go_simp; try with_reducible rfl
    try simp only [Z1, Z2, Z3, Z4, Z5, Z6, Z7]
    refine wpAnyH_take (i := 8) (v := ?_) rfl (by kernel_rfl) (by kernel_rfl) (by kernel_rfl) (fun _ _ _ h => h) (Or.inl ⟨by rfl, ?_⟩) hH ?_
    case refine_2 => intro w hSw; go_simp; try with_reducible rfl
    try simp only [Z1, Z2, Z3, Z4, Z5, Z6, Z7]
    refine wpAnyH_take (i := 9) (v := ?_) rfl (by kernel_rfl) (by kernel_rfl) (by kernel_rfl) (fun _ _ _ h => h) (Or.inl ⟨by rfl, ?_⟩) hH ?_
    case refine_2 => intro w hSw; go_simp; try with_reducible rfl
    try simp only [Z1, Z2, Z3, Z4, Z5, Z6, Z7]
    refine wpAnyH_take (i := 10) (v := ?_) rfl (by kernel_rfl) (by kernel_rfl) (by kernel_rfl) (fun _ _ _ h => h) (Or.inl ⟨by rfl, ?_⟩) hH ?_
    case refine_2 => intro w hSw; have s6 : w.cell? ⟨_, 6, none⟩ = some (.int .i64 (d1.n : Int)) := hSw; clear hSw; go_simp; try with_reducible rfl
    try simp only [Z1, Z2, Z3, Z4, Z5, Z6, Z7]
    refine wpAnyH_ready (rs := [6, 11]) (by kernel_rfl) (by simp) ?_
    refine AllReadyH.cons rfl (fun K hK => ?_) (AllReadyH.cons rfl (fun K hK => ?_) AllReadyH.nil)
    · have hmk := run_make_un d1.n hn12
      go_simp
      clear hmk
      have qM := Blk.new u1 28 (Array.replicate d1.n (.int .u64 0))
      have zM := r1.size
      have k2 := k1.alloc (.cells (Array.replicate d1.n (.int .u64 0)) 28)
      have r2 := only_alloc r1 (.cells (Array.replicate d1.n (.int .u64 0)) 28)
      change K _ (u1.alloc (.cells (Array.replicate d1.n (.int .u64 0)) 28))
      generalize (u1.alloc (.cells (Array.replicate d1.n (.int .u64 0)) 28)) = u2 at *
      refine hK.out _ _ (k2.cell 6) (fun hH => ?_)
      clear hK K
      try dsimp only
      try simp only [Z1, Z2, Z3, Z4, Z5, Z6, Z7]
      refine wpAnyH_take (i := 12) (v := ?_) rfl (by kernel_rfl) (by kernel_rfl) (by kernel_rfl) (fun _ _ _ h => h) (Or.inl ⟨by rfl, ?_⟩) hH ?_
      case refine_2 => intro w hSw; go_simp; try with_reducible rfl
      try simp only [Z1, Z2, Z3, Z4, Z5, Z6, Z7]
      refine wpAnyH_take (i := 13) (v := ?_) rfl (by kernel_rfl) (by kernel_rfl) (by kernel_rfl) (fun _ _ _ h => h) (Or.inl ⟨by rfl, ?_⟩) hH ?_
      case refine_2 => intro w hSw; go_simp; try with_reducible rfl
      try simp only [Z1, Z2, Z3, Z4, Z5, Z6, Z7]
      refine wpAnyH_ready (rs := [11, 14]) (by kernel_rfl) (by simp) ?_
      refine AllReadyH.cons rfl (fun K hK => ?_) (AllReadyH.cons rfl (fun K hK => ?_) AllReadyH.nil)
      · have hmk := run_make_un d1.n hn12
        go_simp
        clear hmk
        have qX := Blk.new u2 28 (Array.replicate d1.n (.int .u64 0))
        have zX := r2.size
        have k3 := k2.alloc (.cells (Array.replicate d1.n (.int .u64 0)) 28)
        have r3 := only_alloc r2 (.cells (Array.replicate d1.n (.int .u64 0)) 28)
        have eM := qM.lt
        have qM3 := qM.alloc (.cells (Array.replicate d1.n (.int .u64 0)) 28)
        change K _ (u2.alloc (.cells (Array.replicate d1.n (.int .u64 0)) 28))
        generalize (u2.alloc (.cells (Array.replicate d1.n (.int .u64 0)) 28)) = u3 at *
        refine hK.out _ _ (k3.cell 6) (fun hH => ?_)
        clear hK K
        try dsimp only
        try simp only [Z1, Z2, Z3, Z4, Z5, Z6, Z7]
        refine wpAnyH_ready (rs := [14]) (by kernel_rfl) (by simp) ?_
        refine AllReadyH.cons rfl (fun K hK => ?_) AllReadyH.nil
        have yc := k3.cell 13
        replace yc : u3.cell? ⟨g, 13, none⟩ = some (M) := yc
        have fc : u3.frozen? ⟨g, 13, none⟩ = false := k3.frozen 13
        go_simp
        clear yc fc
        have k4 : Blk (u3.setCell ⟨g, 13, none⟩ (.slice (some ⟨u1.heap.size, 0, none⟩) d1.n d1.n)) g 48 (nodeC E V (.slice (some ⟨u1.heap.size, 0, none⟩) d1.n d1.n) X d1) := k3.set_ 13 _
        have r4 : u.grownBy (u3.setCell ⟨g, 13, none⟩ (.slice (some ⟨u1.heap.size, 0, none⟩) d1.n d1.n)) (some g) := only_setCell r3 (.inl rfl) _
        have qM4 := qM3.far (p := ⟨g, 13, none⟩) (by show u1.heap.size ≠ g; omega) (.slice (some ⟨u1.heap.size, 0, none⟩) d1.n d1.n)
        have qX4 := qX.far (p := ⟨g, 13, none⟩) (by show u2.heap.size ≠ g; omega) (.slice (some ⟨u1.heap.size, 0, none⟩) d1.n d1.n)
        generalize (u3.setCell ⟨g, 13, none⟩ (.slice (some ⟨u1.heap.size, 0, none⟩) d1.n d1.n)) = u4 at *
        refine hK.out _ _ (k4.cell 6) (fun hH => ?_)
        clear hK K
        try dsimp only
        try simp only [Z1, Z2, Z3, Z4, Z5, Z6, Z7]
        refine wpAnyH_take (i := 15) (v := ?_) rfl (by kernel_rfl) (by kernel_rfl) (by kernel_rfl) (fun _ _ _ h => h) (Or.inl ⟨by rfl, ?_⟩) hH ?_
        case refine_2 => intro w hSw; go_simp; try with_reducible rfl
        try simp only [Z1, Z2, Z3, Z4, Z5, Z6, Z7]
        refine wpAnyH_take (i := 16) (v := ?_) rfl (by kernel_rfl) (by kernel_rfl) (by kernel_rfl) (fun _ _ _ h => h) (Or.inl ⟨by rfl, ?_⟩) hH ?_
        case refine_2 => intro w hSw; go_simp; try with_reducible rfl
        try simp only [Z1, Z2, Z3, Z4, Z5, Z6, Z7]
        refine wpAnyH_ready (rs := [17]) (by kernel_rfl) (by simp) ?_
        refine AllReadyH.cons rfl (fun K hK => ?_) AllReadyH.nil
        have yc := k4.cell 14
        replace yc : u4.cell? ⟨g, 14, none⟩ = some (X) := yc
        have fc : u4.frozen? ⟨g, 14, none⟩ = false := k4.frozen 14
        go_simp
        clear yc fc
        have k5 : Blk (u4.setCell ⟨g, 14, none⟩ (.slice (some ⟨u2.heap.size, 0, none⟩) d1.n d1.n)) g 48 (nodeC E V (.slice (some ⟨u1.heap.size, 0, none⟩) d1.n d1.n) (.slice (some ⟨u2.heap.size, 0, none⟩) d1.n d1.n) d1) := k4.set_ 14 _
        have r5 : u.grownBy (u4.setCell ⟨g, 14, none⟩ (.slice (some ⟨u2.heap.size, 0, none⟩) d1.n d1.n)) (some g) := only_setCell r4 (.inl rfl) _
        have qM5 := qM4.far (p := ⟨g, 14, none⟩) (by show u1.heap.size ≠ g; omega) (.slice (some ⟨u2.heap.size, 0, none⟩) d1.n d1.n)
        have qX5 := qX4.far (p := ⟨g, 14, none⟩) (by show u2.heap.size ≠ g; omega) (.slice (some ⟨u2.heap.size, 0, none⟩) d1.n d1.n)
        generalize (u4.setCell ⟨g, 14, none⟩ (.slice (some ⟨u2.heap.size, 0, none⟩) d1.n d1.n)) = u5 at *
        refine hK.out _ _ (k5.cell 6) (fun hH => ?_)
        clear hK K
        try dsimp only
        try simp only [Z1, Z2, Z3, Z4, Z5, Z6, Z7]
        refine wpAnyH_done (by kernel_rfl) ?_ _
        refine NoPanic.normal ?_
        go_wp2_with fail
        go_meet
        case rel => exact ⟨u1.heap.size, u2.heap.size, rfl, by omega, zM, zX, k5, qM5, qX5, r5⟩
      · have yc := k2.cell 13
        replace yc : u2.cell? ⟨g, 13, none⟩ = some (M) := yc
        have fc : u2.frozen? ⟨g, 13, none⟩ = false := k2.frozen 13
        go_simp
        clear yc fc
        have k3 : Blk (u2.setCell ⟨g, 13, none⟩ (.slice (some ⟨u1.heap.size, 0, none⟩) d1.n d1.n)) g 48 (nodeC E V (.slice (some ⟨u1.heap.size, 0, none⟩) d1.n d1.n) X d1) := k2.set_ 13 _
        have r3 : u.grownBy (u2.setCell ⟨g, 13, none⟩ (.slice (some ⟨u1.heap.size, 0, none⟩) d1.n d1.n)) (some g) := only_setCell r2 (.inl rfl) _
        have qM3 := qM.far (p := ⟨g, 13, none⟩) (by show u1.heap.size ≠ g; omega) (.slice (some ⟨u1.heap.size, 0, none⟩) d1.n d1.n)
        generalize (u2.setCell ⟨g, 13, none⟩ (.slice (some ⟨u1.heap.size, 0, none⟩) d1.n d1.n)) = u3 at *
        refine hK.out _ _ (k3.cell 6) (fun hH => ?_)
        clear hK K
        try dsimp only
        try simp only [Z1, Z2, Z3, Z4, Z5, Z6, Z7]
        refine wpAnyH_ready (rs := [11]) (by kernel_rfl) (by simp) ?_
        refine AllReadyH.cons rfl (fun K hK => ?_) AllReadyH.nil
        have hmk := run_make_un d1.n hn12
        go_simp
        clear hmk
        have qX := Blk.new u3 28 (Array.replicate d1.n (.int .u64 0))
        have zX := r3.size
        have k4 := k3.alloc (.cells (Array.replicate d1.n (.int .u64 0)) 28)
        have r4 := only_alloc r3 (.cells (Array.replicate d1.n (.int .u64 0)) 28)
        have eM := qM3.lt
        have qM4 := qM3.alloc (.cells (Array.replicate d1.n (.int .u64 0)) 28)
        change K _ (u3.alloc (.cells (Array.replicate d1.n (.int .u64 0)) 28))
        generalize (u3.alloc (.cells (Array.replicate d1.n (.int .u64 0)) 28)) = u4 at *
        refine hK.out _ _ (k4.cell 6) (fun hH => ?_)
        clear hK K
        try dsimp only
        try simp only [Z1, Z2, Z3, Z4, Z5, Z6, Z7]
        refine wpAnyH_take (i := 15) (v := ?_) rfl (by kernel_rfl) (by kernel_rfl) (by kernel_rfl) (fun _ _ _ h => h) (Or.inl ⟨by rfl, ?_⟩) hH ?_
        case refine_2 => intro w hSw; go_simp; try with_reducible rfl
        try simp only [Z1, Z2, Z3, Z4, Z5, Z6, Z7]
        refine wpAnyH_take (i := 16) (v := ?_) rfl (by kernel_rfl) (by kernel_rfl) (by kernel_rfl) (fun _ _ _ h => h) (Or.inl ⟨by rfl, ?_⟩) hH ?_
        case refine_2 => intro w hSw; go_simp; try with_reducible rfl
        try simp only [Z1, Z2, Z3, Z4, Z5, Z6, Z7]
        refine wpAnyH_ready (rs := [17]) (by kernel_rfl) (by simp) ?_
        refine AllReadyH.cons rfl (fun K hK => ?_) AllReadyH.nil
        have yc := k4.cell 14
        replace yc : u4.cell? ⟨g, 14, none⟩ = some (X) := yc
        have fc : u4.frozen? ⟨g, 14, none⟩ = false := k4.frozen 14
        go_simp
        clear yc fc
        have k5 : Blk (u4.setCell ⟨g, 14, none⟩ (.slice (some ⟨u3.heap.size, 0, none⟩) d1.n d1.n)) g 48 (nodeC E V (.slice (some ⟨u1.heap.size, 0, none⟩) d1.n d1.n) (.slice (some ⟨u3.heap.size, 0, none⟩) d1.n d1.n) d1) := k4.set_ 14 _
        have r5 : u.grownBy (u4.setCell ⟨g, 14, none⟩ (.slice (some ⟨u3.heap.size, 0, none⟩) d1.n d1.n)) (some g) := only_setCell r4 (.inl rfl) _
        have qM5 := qM4.far (p := ⟨g, 14, none⟩) (by show u1.heap.size ≠ g; omega) (.slice (some ⟨u3.heap.size, 0, none⟩) d1.n d1.n)
        have qX5 := qX.far (p := ⟨g, 14, none⟩) (by show u3.heap.size ≠ g; omega) (.slice (some ⟨u3.heap.size, 0, none⟩) d1.n d1.n)
        generalize (u4.setCell ⟨g, 14, none⟩ (.slice (some ⟨u3.heap.size, 0, none⟩) d1.n d1.n)) = u5 at *
        refine hK.out _ _ (k5.cell 6) (fun hH => ?_)
        clear hK K
        try dsimp only
        try simp only [Z1, Z2, Z3, Z4, Z5, Z6, Z7]
        refine wpAnyH_done (by kernel_rfl) ?_ _
        refine NoPanic.normal ?_
        go_wp2_with fail
        go_meet
        case rel => exact ⟨u1.heap.size, u3.heap.size, rfl, by omega, zM, zX, k5, qM5, qX5, r5⟩
    · have hmk := run_make_un d1.n hn12
      go_simp
      clear hmk
      have qX := Blk.new u1 28 (Array.replicate d1.n (.int .u64 0))
      have zX := r1.size
      have k2 := k1.alloc (.cells (Array.replicate d1.n (.int .u64 0)) 28)
      have r2 := only_alloc r1 (.cells (Array.replicate d1.n (.int .u64 0)) 28)
      change K _ (u1.alloc (.cells (Array.replicate d1.n (.int .u64 0)) 28))
      generalize (u1.alloc (.cells (Array.replicate d1.n (.int .u64 0)) 28)) = u2 at *
      refine hK.out _ _ (k2.cell 6) (fun hH => ?_)
      clear hK K
      try dsimp only
      try simp only [Z1, Z2, Z3, Z4, Z5, Z6, Z7]
      refine wpAnyH_ready (rs := [6]) (by kernel_rfl) (by simp) ?_
      refine AllReadyH.cons rfl (fun K hK => ?_) AllReadyH.nil
      have hmk := run_make_un d1.n hn12
      go_simp
      clear hmk
      have qM := Blk.new u2 28 (Array.replicate d1.n (.int .u64 0))
      have zM := r2.size
      have k3 := k2.alloc (.cells (Array.replicate d1.n (.int .u64 0)) 28)
      have r3 := only_alloc r2 (.cells (Array.replicate d1.n (.int .u64 0)) 28)
      have eX := qX.lt
      have qX3 := qX.alloc (.cells (Array.replicate d1.n (.int .u64 0)) 28)
      change K _ (u2.alloc (.cells (Array.replicate d1.n (.int .u64 0)) 28))
      generalize (u2.alloc (.cells (Array.replicate d1.n (.int .u64 0)) 28)) = u3 at *
      refine hK.out _ _ (k3.cell 6) (fun hH => ?_)
      clear hK K
      try dsimp only
      try simp only [Z1, Z2, Z3, Z4, Z5, Z6, Z7]
      refine wpAnyH_take (i := 12) (v := ?_) rfl (by kernel_rfl) (by kernel_rfl) (by kernel_rfl) (fun _ _ _ h => h) (Or.inl ⟨by rfl, ?_⟩) hH ?_
      case refine_2 => intro w hSw; go_simp; try with_reducible rfl
      try simp only [Z1, Z2, Z3, Z4, Z5, Z6, Z7]
      refine wpAnyH_take (i := 13) (v := ?_) rfl (by kernel_rfl) (by kernel_rfl) (by kernel_rfl) (fun _ _ _ h => h) (Or.inl ⟨by rfl, ?_⟩) hH ?_
      case refine_2 => intro w hSw; go_simp; try with_reducible rfl
      try simp only [Z1, Z2, Z3, Z4, Z5, Z6, Z7]
      refine wpAnyH_ready (rs := [14]) (by kernel_rfl) (by simp) ?_
      refine AllReadyH.cons rfl (fun K hK => ?_) AllReadyH.nil
      have yc := k3.cell 13
      replace yc : u3.cell? ⟨g, 13, none⟩ = some (M) := yc
      have fc : u3.frozen? ⟨g, 13, none⟩ = false := k3.frozen 13
      go_simp
      clear yc fc
      have k4 : Blk (u3.setCell ⟨g, 13, none⟩ (.slice (some ⟨u2.heap.size, 0, none⟩) d1.n d1.n)) g 48 (nodeC E V (.slice (some ⟨u2.heap.size, 0, none⟩) d1.n d1.n) X d1) := k3.set_ 13 _
      have r4 : u.grownBy (u3.setCell ⟨g, 13, none⟩ (.slice (some ⟨u2.heap.size, 0, none⟩) d1.n d1.n)) (some g) := only_setCell r3 (.inl rfl) _
      have qX4 := qX3.far (p := ⟨g, 13, none⟩) (by show u1.heap.size ≠ g; omega) (.slice (some ⟨u2.heap.size, 0, none⟩) d1.n d1.n)
      have qM4 := qM.far (p := ⟨g, 13, none⟩) (by show u2.heap.size ≠ g; omega) (.slice (some ⟨u2.heap.size, 0, none⟩) d1.n d1.n)
      generalize (u3.setCell ⟨g, 13, none⟩ (.slice (some ⟨u2.heap.size, 0, none⟩) d1.n d1.n)) = u4 at *
      refine hK.out _ _ (k4.cell 6) (fun hH => ?_)
      clear hK K
      try dsimp only
      try simp only [Z1, Z2, Z3, Z4, Z5, Z6, Z7]
      refine wpAnyH_take (i := 15) (v := ?_) rfl (by kernel_rfl) (by kernel_rfl) (by kernel_rfl) (fun _ _ _ h => h) (Or.inl ⟨by rfl, ?_⟩) hH ?_
      case refine_2 => intro w hSw; go_simp; try with_reducible rfl
      try simp only [Z1, Z2, Z3, Z4, Z5, Z6, Z7]
      refine wpAnyH_take (i := 16) (v := ?_) rfl (by kernel_rfl) (by kernel_rfl) (by kernel_rfl) (fun _ _ _ h => h) (Or.inl ⟨by rfl, ?_⟩) hH ?_
      case refine_2 => intro w hSw; go_simp; try with_reducible rfl
      try simp only [Z1, Z2, Z3, Z4, Z5, Z6, Z7]
      refine wpAnyH_ready (rs := [17]) (by kernel_rfl) (by simp) ?_
      refine AllReadyH.cons rfl (fun K hK => ?_) AllReadyH.nil
      have yc := k4.cell 14
      replace yc : u4.cell? ⟨g, 14, none⟩ = some (X) := yc
      have fc : u4.frozen? ⟨g, 14, none⟩ = false := k4.frozen 14
      go_simp
      clear yc fc
      have k5 : Blk (u4.setCell ⟨g, 14, none⟩ (.slice (some ⟨u1.heap.size, 0, none⟩) d1.n d1.n)) g 48 (nodeC E V (.slice (some ⟨u2.heap.size, 0, none⟩) d1.n d1.n) (.slice (some ⟨u1.heap.size, 0, none⟩) d1.n d1.n) d1) := k4.set_ 14 _
      have r5 : u.grownBy (u4.setCell ⟨g, 14, none⟩ (.slice (some ⟨u1.heap.size, 0, none⟩) d1.n d1.n)) (some g) := only_setCell r4 (.inl rfl) _
      have qX5 := qX4.far (p := ⟨g, 14, none⟩) (by show u1.heap.size ≠ g; omega) (.slice (some ⟨u1.heap.size, 0, none⟩) d1.n d1.n)
      have qM5 := qM4.far (p := ⟨g, 14, none⟩) (by show u2.heap.size ≠ g; omega) (.slice (some ⟨u1.heap.size, 0, none⟩) d1.n d1.n)
      generalize (u4.setCell ⟨g, 14, none⟩ (.slice (some ⟨u1.heap.size, 0, none⟩) d1.n d1.n)) = u5 at *
      refine hK.out _ _ (k5.cell 6) (fun hH => ?_)
      clear hK K
      try dsimp only
      try simp only [Z1, Z2, Z3, Z4, Z5, Z6, Z7]
      refine wpAnyH_done (by kernel_rfl) ?_ _
      refine NoPanic.normal ?_
      go_wp2_with fail
      go_meet
      case rel => exact ⟨u2.heap.size, u1.heap.size, rfl, by omega, zM, zX, k5, qM5, qX5, r5⟩
  case rest =>
    obtain ⟨gm, gx, rfl, hne, hgm, hgx, kB, kM, kX, gB⟩ := hcut
    obtain ⟨d2, hd2⟩ : ∃ d2 : LNode, d2 = { d1 with mat := List.replicate d1.n 0, next := List.replicate d1.n 0 } := ⟨_, rfl⟩
    have NB := NA.newMXn (d' := d2) gB (by rw [hd2]; exact kB) (by rw [hd2]; exact ⟨rfl, rfl⟩) hgm hgx hne (by rw [hd2]; exact own_rep kM hn12 rfl (fun _ => ⟨rfl, by decide⟩)) (by rw [hd2]; exact own_rep kX hn12 rfl (fun _ => ⟨rfl, by decide⟩))
    have BB := BA.grown gB (fun b e h => (HF.out b h).1 (Option.some.inj e).symm)
    have HD2 := Lib.hid hd2
    have Hgm := Lib.hid (show w.heap.size ≤ gm by omega)
    have Hgx := Lib.hid (show w.heap.size ≤ gx by omega)
    clear hd2 kB kM kX gB NA BA hgm hgx
    obtain ⟨A, ec, rfl⟩ := NB.log.shape
    have HLN : Hid (lastN d2 = lastN d) := by show _ = _; rw [HD2.out, HD1.out]; rfl
    have HB2 : GB d2 := by rw [HD2.out, HD1.out]; exact ⟨hb.base, hb.bt, hb.len, hb.term, hb.commit⟩
    have HBF : BlP (fun b => F b ∧ b < w.heap.size) w wc := ⟨BB.os, BB.tape, BB.output, BB.size, fun b h1 h2 => BB.block b h1 h2.1⟩
    have hx2 : lastN d2 + 1 ≤ 9223372036854775808 := by have := HB2.last; omega
    have HN1 : Hid (d1.n = d.n) := by show _ = _; rw [HD1.out]
    clear BB
    go_upto_region 3 with fail
    have y14 : wc.cell? ⟨g, 14, none⟩ = some (.slice (some ⟨gx, 0, none⟩) d1.n d1.n) := NB.blk.cell 14
    go_wp2_with fail
    clear y14
    go_loopw [35] (fun v wr => ∃ (k : Nat) (xs : List Nat), k ≤ d1.n ∧ v = .int .i64 (k : Int) ∧ Hid (xs = List.replicate k (lastN d2 + 1) ++ List.replicate (d1.n - k) 0) ∧ Hid (xs.length = d1.n) ∧ NodeAt wr g S (.slice A d2.log.length ec) V (.slice (some ⟨gm, 0, none⟩) d1.n d1.n) (.slice (some ⟨gx, 0, none⟩) d1.n d1.n) { d2 with next := xs } ∧ BlP (fun b => F b ∧ b < w.heap.size) w wr) (fun v _ => d1.n - (intOf v).toNat)
    case atStart =>
      refine ⟨0, List.replicate d1.n 0, Nat.zero_le _, rfl, ?_, ?_, ?_, HBF⟩
      · show _ = _; rw [Nat.sub_zero]; rfl
      · show _ = _; exact List.length_replicate
      · rw [show ({ d2 with next := List.replicate d1.n 0 } : LNode) = d2 by rw [HD2.out]]
        exact NB
    case round =>
      obtain ⟨k, xs, hk, rfl, HXS, HXL, N5, B5⟩ := hrel
      by_cases hlt : k < d1.n
      · clear NB HBF
        have hlti : (k : Int) < (d1.n : Int) := by omega
        go_upto_region 6 with fail
        refine wp_region_noPanic ?_
        have kd := N5.blk.drew
        refine wp_region_heldK (fun Y => Blk Y g 48 (nodeC (.slice A d2.log.length ec) V (.slice (some ⟨gm, 0, none⟩) d1.n d1.n) (.slice (some ⟨gx, 0, none⟩) d1.n d1.n) { d2 with next := xs })) 9 (by kernel_rfl) kd (fun hH => ?_)
        refine wpAnyK_takeY (i := 0) (v := ?_) rfl (by kernel_rfl) (by kernel_rfl) (by kernel_rfl) (by kernel_rfl) (fun _ _ _ h => h) (Or.inl ⟨by rfl, ?_⟩) hH ?_
        case refine_2 => intro w; go_simp; try with_reducible rfl
        try simp only [Z1, Z2, Z4, Z5, Z6, Z7]
        refine wpAnyK_takeY (i := 1) (v := ?_) rfl (by kernel_rfl) (by kernel_rfl) (by kernel_rfl) (by kernel_rfl) (fun _ _ _ h => h) (Or.inl ⟨by rfl, ?_⟩) hH ?_
        case refine_2 => intro w; go_simp; try with_reducible rfl
        try simp only [Z1, Z2, Z3, Z4, Z5, Z6, Z7]
        refine wpAnyK_takeY (i := 2) (v := ?_) rfl (by kernel_rfl) (by kernel_rfl) (by kernel_rfl) (by kernel_rfl) (fun _ _ _ h => h) (Or.inl ⟨by rfl, ?_⟩) hH ?_
        case refine_2 => intro w; go_simp; try with_reducible rfl
        try simp only [Z1, Z2, Z3, Z4, Z5, Z6, Z7]
        refine wpAnyK_take (i := 3) (v := ?_) rfl (by kernel_rfl) (by kernel_rfl) (by kernel_rfl) (by kernel_rfl) (fun _ _ _ h => h) (Or.inl ⟨by rfl, ?_⟩) hH ?_
        case refine_2 => intro w hSw; have kw : Blk w g 48 (nodeC (.slice A d2.log.length ec) V (.slice (some ⟨gm, 0, none⟩) d1.n d1.n) (.slice (some ⟨gx, 0, none⟩) d1.n d1.n) { d2 with next := xs }) := hSw; have s14 : w.cell? ⟨_, 14, none⟩ = some (.slice (some ⟨gx, 0, none⟩) d1.n d1.n) := Blk.cell kw 14; clear kw hSw; go_simp; try with_reducible rfl
        try simp only [Z1, Z2, Z3, Z4, Z5, Z6, Z7]
        refine wpAnyK_takeY (i := 4) (v := ?_) rfl (by kernel_rfl) (by kernel_rfl) (by kernel_rfl) (by kernel_rfl) (fun _ _ _ h => h) (Or.inl ⟨by rfl, ?_⟩) hH ?_
        case refine_2 => intro w; go_simp; try with_reducible rfl
        try simp only [Z1, Z2, Z3, Z4, Z5, Z6, Z7]
        refine wpAnyK_takeY (i := 5) (v := ?_) rfl (by kernel_rfl) (by kernel_rfl) (by kernel_rfl) (by kernel_rfl) (fun _ _ _ h => h) (Or.inl ⟨by rfl, ?_⟩) hH ?_
        case refine_2 => intro w; go_simp; try with_reducible rfl
        try simp only [Z1, Z2, Z3, Z4, Z5, Z6, Z7]
        refine wpAnyK_ready (rs := [6]) (by kernel_rfl) (by simp) ?_
        refine AllReadyK.cons rfl (by kernel_rfl) (fun K hK => ?_) AllReadyK.nil
        go_simp
        have hb6 : GB { d2 with next := xs } := ⟨HB2.base, HB2.bt, HB2.len, HB2.term, HB2.commit⟩
        refine (last_any g A ec V (.slice (some ⟨gm, 0, none⟩) d1.n d1.n) (.slice (some ⟨gx, 0, none⟩) d1.n d1.n) { d2 with next := xs } wr.drew kd hb6.nb).mono ?_
        rintro en w6 ⟨rfl, q, hq⟩
        have d6 : Below wr.heap.size wr w6 := by rw [hq]; exact ⟨rfl, rfl, rfl, Nat.le_refl _, fun _ _ => rfl⟩
        have k6 := N5.blk.below d6 N5.blk.lt
        have N6 := N5.below d6
        have B6 := B5.trans (.of_below d6)
        clear kd hq N5 B5 d6
        refine hK.out _ _ k6 ?_
        clear hK K
        try dsimp only
        try simp only [Z1, Z2, Z3, Z4, Z5, Z6, Z7]
        have hwr : IntKind.u64.wrap (((lastN { d2 with next := xs } : Nat) : Int) + 1) = ((lastN d2 + 1 : Nat) : Int) := by
          have e1 : lastN { d2 with next := xs } = lastN d2 := rfl
          rw [e1]
          simp [IntKind.wrap, IntKind.bits, IntKind.signed]
          omega
        refine wpAnyK_takeY (i := 7) (v := ?_) rfl (by kernel_rfl) (by kernel_rfl) (by kernel_rfl) (by kernel_rfl) (fun _ _ _ h => h) (Or.inl ⟨by rfl, ?_⟩) k6 ?_
        case refine_2 => intro w; go_simp; try with_reducible rfl
        try simp only [Z1, Z2, Z3, Z4, Z5, Z6, Z7]
        clear hwr
        refine wpAnyK_takeY (i := 8) (v := ?_) rfl (by kernel_rfl) (by kernel_rfl) (by kernel_rfl) (by kernel_rfl) (fun _ _ _ h => h) (Or.inl ⟨by rfl, ?_⟩) k6 ?_
        case refine_2 => intro w; go_simp; try with_reducible rfl
        try simp only [Z1, Z2, Z3, Z4, Z5, Z6, Z7]
        refine wpAnyK_ready (rs := [9]) (by kernel_rfl) (by simp) ?_
        refine AllReadyK.turn rfl (fun K hK => ?_) AllReadyK.nil
        have N6' : NodeAt w6 g S (.slice A d2.log.length ec) V (.slice (some ⟨gm, 0, none⟩) d1.n d1.n) (.slice (some ⟨gx, 0, none⟩) xs.length d1.n) { d2 with next := xs } := by rw [HXL.out]; exact N6
        obtain ⟨gx', c', e', yx, _, fx, _⟩ := NE.own_at N6'.nxt (i := k) (by show k < xs.length; rw [HXL.out]; exact hlt)
        obtain rfl : gx = gx' := by injection e' with e1 _ _; injection Option.some.inj e1
        have N7 := NodeAt.setNxt (d := { d2 with next := xs }) (i := k) (x := lastN d2 + 1) N6' (by show k < xs.length; rw [HXL.out]; exact hlt) (by omega)
        replace N7 : NodeAt (w6.setCell ⟨gx, k, none⟩ (.int .u64 ((lastN d2 : Int) + 1))) g S (.slice A d2.log.length ec) V (.slice (some ⟨gm, 0, none⟩) d1.n d1.n) (.slice (some ⟨gx, 0, none⟩) d1.n d1.n) { d2 with next := xs.set k (lastN d2 + 1) } := by
          have h := N7
          rw [show ({ d2 with next := xs } : LNode).next.length = d1.n from HXL.out] at h
          exact h
        have B7 : BlP (fun b => F b ∧ b < w.heap.size) w (w6.setCell ⟨gx, k, none⟩ (.int .u64 ((lastN d2 : Int) + 1))) := B6.setCell (fun h => by have h1 : gx < w.heap.size := h.2; have := Hgx.out; omega) _
        have HX2 : Hid (xs.set k (lastN d2 + 1) = List.replicate (k + 1) (lastN d2 + 1) ++ List.replicate (d1.n - (k + 1)) 0) := by show _ = _; rw [HXS.out]; exact rep_set _ _ _ hlt
        have HX3 : Hid ((xs.set k (lastN d2 + 1)).length = d1.n) := by show _ = _; rw [List.length_set]; exact HXL.out
        clear N6' e'
        go_simp
        refine hK.out _ _ ?_
        clear hK K hH
        try simp only [Z1, Z2, Z3, Z4, Z5, Z6, Z7]
        refine wpAny_done (by kernel_rfl) ?_ _
        refine NoPanic.normal ?_
        clear yx fx N6 k6 B6
        go_wp2_with fail
        go_roundw
        case rel => exact ⟨k + 1, xs.set k (lastN d2 + 1), by omega, by simp, HX2, HX3, N7, B7⟩
        case measure => simp [intOf]; omega
      · clear NB HBF
        obtain rfl : k = d1.n := by omega
        have HXE : Hid (xs = List.replicate d1.n (lastN d2 + 1)) := by show _ = _; rw [HXS.out, Nat.sub_self]; exact List.append_nil _
        have T := add_any g (fun b => F b ∧ b < w.heap.size) { d2 with next := xs } none [] 0 wr
          ⟨_, _, _, _, _, N5, fun b h => by
            obtain ⟨f1, f2, f3, f4, f5, f6⟩ := HF.out b h.1
            exact ⟨f1, f2, f3, f4, (fun e => by have h1 : gm = b := Option.some.inj e; have := Hgm.out; have := h.2; omega), (fun e => by have h1 : gx = b := Option.some.inj e; have := Hgx.out; have := h.2; omega)⟩⟩
          (Bs.nil_ _ _) ⟨HB2.base, HB2.bt, HB2.len, HB2.term, HB2.commit⟩ (by rw [HD2.out, HD1.out]; exact hbl) (by rw [HD2.out, HD1.out]; exact hn1) (by rw [HD2.out, HD1.out]; exact hn5) (by rw [HD2.out, HD1.out]; exact hi) (by rw [HD2.out]; exact List.length_replicate) (by show xs.length = d2.n; rw [HXL.out, HD2.out])
        have HBP : Hid (addM { d2 with next := xs } [] = begG d) := by show _ = _; rw [HXE.out, HLN.out, HD2.out, HD1.out]; rfl
        rw [HBP.out] at T
        replace T : Calls Try.prog 32 #[.pointer (some ⟨g, 0, none⟩), .slice none 0 0] wr _ := T
        clear HXE HXS HXL N5
        go_wp2_with fail
        refine T.mono ?_
        clear T
        rintro en w9 ⟨A9, c9, k9, rfl, z9, o9, N9, B9⟩
        go_wp2_with fail
        go_ret
        have BZ := B5.trans B9
        exact ⟨A9, c9, k9, rfl, Nat.le_trans B5.size z9, o9, N9.mono (fun b h => h.imp (fun h => ⟨h, Nat.lt_of_lt_of_le h.2 B5.size⟩) id), ⟨BZ.os, BZ.tape, BZ.output, BZ.size, fun b h1 h2 => BZ.block b h1 ⟨h2, h1⟩⟩⟩
end Go.Proofs.Ytjpcekpllfelhaa
