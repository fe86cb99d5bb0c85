/- The reference's disk: New, Arm, Read. -/
import Derived.Test.YtnhonjgclbmheaaRdY
namespace Go.Proofs.Ytnhonjgclbmheaa
open Go.RowKit

set_option maxRecDepth 100000 in
set_option maxHeartbeats 2000000 in
theorem rnew_any (room : Int) (S : Nat → Prop) (w : World) : Calls Try.prog 18 #[.int .i64 room] w (RetRD ⟨[], max 0 room, -1, false⟩ S w) := by
  go_enter Try.func18, Try.ntmps18
  have dR : Below w.heap.size w (w.alloc (.cells (rcs none 0 ⟨[], 0, 0, false⟩) 45)) := (Below.refl _ _).alloc (Nat.le_refl _) _
  have kR := Blk.new w 45 (rcs none 0 ⟨[], 0, 0, false⟩)
  go_upto_region 1 with fail
  change Code.wp _ _ _ _ (w.alloc (.cells (rcs none 0 ⟨[], 0, 0, false⟩) 45))
  generalize w.alloc (.cells (rcs none 0 ⟨[], 0, 0, false⟩) 45) = w1 at *
  by_cases h : room < 0
  · have e : max 0 room = 0 := by omega
    have HE := Lib.hid e
    clear e
    go_wp2_with ((with_reducible refine wpList_store_blk rfl 45 (.tmp 2) (.tmp 6) rfl w.heap.size 45 _ (rcs none 0 ⟨[], 0, -1, false⟩) ?_ ?_ kR Try.size_RD ?_ ?_ ?_ ?_); rfl; rfl; rfl; rfl; (simp [rcs, Value.oneCell']); intro w12 kz12 g12 z12)
    have b12 := dR.grown g12 dR.size (fun j hj => by have := Option.some.inj hj; omega)
    exact bodyPost_ret (results_cell rfl rfl kz12 Try.underlying45 rfl Try.size_RD) rfl (by rw [HE.out]; exact ⟨none, 0, rfl, SlS.nil_ _ _ _ _, Nat.le_refl _, by decide, b12⟩)
  · have e : max 0 room = room := by omega
    have HE := Lib.hid e
    clear e
    go_wp2_with ((with_reducible refine wpList_store_blk rfl 45 (.tmp 2) (.tmp 6) rfl w.heap.size 45 _ (rcs none 0 ⟨[], room, -1, false⟩) ?_ ?_ kR Try.size_RD ?_ ?_ ?_ ?_); rfl; rfl; rfl; rfl; (simp [rcs, Value.oneCell']); intro w12 kz12 g12 z12)
    have b12 := dR.grown g12 dR.size (fun j hj => by have := Option.some.inj hj; omega)
    exact bodyPost_ret (results_cell rfl rfl kz12 Try.underlying45 rfl Try.size_RD) rfl (by rw [HE.out]; exact ⟨none, 0, rfl, SlS.nil_ _ _ _ _, Nat.le_refl _, by decide, b12⟩)
/-- armed with n -/
def armR (W : LRD) (n : Int) : LRD := if W.dead then W else { W with armed := if n < 0 then -1 else n }
set_option maxRecDepth 100000 in
set_option maxHeartbeats 2000000 in
theorem rarm_any (A : Option Addr) (c : Nat) (W : LRD) (n : Int) (w : World) :
    Calls Try.prog 35 #[rv A c W, .int .i64 n] w (fun en w' => en = .returned (rv A c (armR W n)) ∧ Below w.heap.size w w') := by
  obtain ⟨fs, room, armed, dead⟩ := W
  go_enter Try.func35, Try.ntmps35
  have dA : Below w.heap.size w (w.alloc (.cells (rcs A c ⟨fs, room, armed, dead⟩) 45)) := (Below.refl _ _).alloc (Nat.le_refl _) _
  have kA := Blk.new w 45 (rcs A c ⟨fs, room, armed, dead⟩)
  have zA : (w.alloc (.cells (rcs A c ⟨fs, room, armed, dead⟩) 45)).heap.size = w.heap.size + 1 := by simp
  go_upto_region 1 with fail
  change Code.wp _ _ _ _ ((w.alloc (.cells (rcs A c ⟨fs, room, armed, dead⟩) 45)).alloc (.cells (rcs none 0 ⟨[], 0, 0, false⟩) 45))
  generalize w.alloc (.cells (rcs A c ⟨fs, room, armed, dead⟩) 45) = wA at *
  have dR : Below wA.heap.size wA (wA.alloc (.cells (rcs none 0 ⟨[], 0, 0, false⟩) 45)) := (Below.refl _ _).alloc (Nat.le_refl _) _
  have kR := Blk.new wA 45 (rcs none 0 ⟨[], 0, 0, false⟩)
  have zR : (wA.alloc (.cells (rcs none 0 ⟨[], 0, 0, false⟩) 45)).heap.size = wA.heap.size + 1 := by simp
  generalize wA.alloc (.cells (rcs none 0 ⟨[], 0, 0, false⟩) 45) = w1 at *
  rw [zA] at kR
  have b1 : Below w.heap.size w w1 := dA.trans (dR.mono (by omega))
  replace kA := kA.below dR (by omega)
  have z1 : w1.heap.size = w.heap.size + 1 + 1 := by omega
  have Z1 := Lib.hid z1
  clear dA dR zA zR z1
  have a3 : w1.cell? ⟨w.heap.size, 3, none⟩ = some (.bool dead) := kA.cell 3
  have a2 : w1.cell? ⟨w.heap.size, 2, none⟩ = some (.int .i64 armed) := kA.cell 2
  have f2 : w1.frozen? ⟨w.heap.size, 2, none⟩ = false := kA.frozen 2
  cases dead with
  | true =>
    go_wp2_with (first
      | ((with_reducible refine wpList_load_blk rfl 45 (.tmp 2) rfl w.heap.size ?_ 45 _ _ kA Try.underlying45 ?_ Try.size_RD ?_ ?_); rfl; rfl; rfl)
      | ((with_reducible refine wpList_store_blk rfl 45 (.tmp 4) (.tmp 13) rfl (w.heap.size + 1) 45 _ (rcs A c ⟨fs, room, armed, true⟩) ?_ ?_ kR Try.size_RD ?_ ?_ ?_ ?_); rfl; rfl; rfl; rfl; (simp [rcs, Value.oneCell']); intro w12 kz12 g12 z12))
    have b12 := b1.grown g12 b1.size (fun j hj => by have := Option.some.inj hj; omega)
    exact bodyPost_ret (results_cell rfl rfl kz12 Try.underlying45 rfl Try.size_RD) rfl (by exact ⟨rfl, b12⟩)
  | false =>
    have g10 : w1.grownBy (w1.setCell ⟨w.heap.size, 2, none⟩ (.int .i64 n)) (some w.heap.size) := only_setCell (World.grownBy.refl _ _) (p := ⟨w.heap.size, 2, none⟩) (.inl rfl) _
    have kA10 : Blk (w1.setCell ⟨w.heap.size, 2, none⟩ (.int .i64 n)) w.heap.size 45 (rcs A c ⟨fs, room, n, false⟩) := kA.set_ 2 (.int .i64 n)
    have kR10 := kR.grown g10 (fun e => by have h1 := Option.some.inj e; omega)
    have b10 := b1.grown g10 b1.size (fun j hj => by have := Option.some.inj hj; omega)
    go_upto_region 3 with fail
    clear a2 f2 a3
    generalize w1.setCell ⟨w.heap.size, 2, none⟩ (.int .i64 n) = w10 at *
    by_cases hn : n < 0
    · have HE : Hid (armR ⟨fs, room, armed, false⟩ n = ⟨fs, room, -1, false⟩) := by show _ = _; unfold armR; rw [if_neg (show ¬ (false = true) by decide), if_pos hn]
      have a2 : w10.cell? ⟨w.heap.size, 2, none⟩ = some (.int .i64 n) := kA10.cell 2
      have f2 : w10.frozen? ⟨w.heap.size, 2, none⟩ = false := kA10.frozen 2
      have g11 : w10.grownBy (w10.setCell ⟨w.heap.size, 2, none⟩ (.int .i64 (-1))) (some w.heap.size) := only_setCell (World.grownBy.refl _ _) (p := ⟨w.heap.size, 2, none⟩) (.inl rfl) _
      have kA11 : Blk (w10.setCell ⟨w.heap.size, 2, none⟩ (.int .i64 (-1))) w.heap.size 45 (rcs A c ⟨fs, room, -1, false⟩) := kA10.set_ 2 (.int .i64 (-1))
      have kR11 := kR10.grown g11 (fun e => by have h1 := Option.some.inj e; omega)
      have b11 := b10.grown g11 b10.size (fun j hj => by have := Option.some.inj hj; omega)
      go_upto_region 5 with fail
      generalize w10.setCell ⟨w.heap.size, 2, none⟩ (.int .i64 (-1)) = w11 at *
      go_wp2_with (first
        | ((with_reducible refine wpList_load_blk rfl 45 (.tmp 2) rfl w.heap.size ?_ 45 _ _ kA11 Try.underlying45 ?_ Try.size_RD ?_ ?_); rfl; rfl; rfl)
        | ((with_reducible refine wpList_store_blk rfl 45 (.tmp 4) (.tmp 13) rfl (w.heap.size + 1) 45 _ (rcs A c ⟨fs, room, -1, false⟩) ?_ ?_ kR11 Try.size_RD ?_ ?_ ?_ ?_); rfl; rfl; rfl; rfl; (simp [rcs, Value.oneCell']); intro w12 kz12 g12 z12))
      have b12 := b11.grown g12 b11.size (fun j hj => by have := Option.some.inj hj; omega)
      exact bodyPost_ret (results_cell rfl rfl kz12 Try.underlying45 rfl Try.size_RD) rfl (by rw [HE.out]; exact ⟨rfl, b12⟩)
    · have HE : Hid (armR ⟨fs, room, armed, false⟩ n = ⟨fs, room, n, false⟩) := by show _ = _; unfold armR; rw [if_neg (show ¬ (false = true) by decide), if_neg hn]
      go_wp2_with (first
        | ((with_reducible refine wpList_load_blk rfl 45 (.tmp 2) rfl w.heap.size ?_ 45 _ _ kA10 Try.underlying45 ?_ Try.size_RD ?_ ?_); rfl; rfl; rfl)
        | ((with_reducible refine wpList_store_blk rfl 45 (.tmp 4) (.tmp 13) rfl (w.heap.size + 1) 45 _ (rcs A c ⟨fs, room, n, false⟩) ?_ ?_ kR10 Try.size_RD ?_ ?_ ?_ ?_); rfl; rfl; rfl; rfl; (simp [rcs, Value.oneCell']); intro w12 kz12 g12 z12))
      have b12 := b10.grown g12 b10.size (fun j hj => by have := Option.some.inj hj; omega)
      exact bodyPost_ret (results_cell rfl rfl kz12 Try.underlying45 rfl Try.size_RD) rfl (by rw [HE.out]; exact ⟨rfl, b12⟩)
/-- what is read under a name -/
def readR (W : LRD) (nm : List UInt8) : List UInt8 × Int :=
  if W.dead then ([], 9) else if (getR W.files nm).2 then ((getR W.files nm).1.safe ++ (getR W.files nm).1.tail, 0) else ([], 6)
set_option maxRecDepth 100000 in
set_option maxHeartbeats 2000000 in
theorem rread_any (A : Option Addr) (c : Nat) (W : LRD) (S : Nat → Prop) (nm : List UInt8) (w : World) (h : SlS RFE w S A W.files) (hn : nm.length ≤ 140737488355328) (hl : W.files.length ≤ 1048576) (hu : (getR W.files nm).1.safe.length + (getR W.files nm).1.tail.length ≤ 70368744177664) :
    Calls Try.prog 37 #[rv A c W, .string ⟨nm.toArray⟩] w (RetRead (readR W nm) w) := by
  obtain ⟨fs, room, armed, dead⟩ := W
  have dA : Below w.heap.size w (w.alloc (.cells (rcs A c ⟨fs, room, armed, dead⟩) 45)) := (Below.refl _ _).alloc (Nat.le_refl _) _
  have kA := Blk.new w 45 (rcs A c ⟨fs, room, armed, dead⟩)
  replace h := h.below dA
  go_enter Try.func37, Try.ntmps37
  go_upto_region 1 with fail
  change Code.wp _ _ _ _ (w.alloc (.cells (rcs A c ⟨fs, room, armed, dead⟩) 45))
  generalize w.alloc (.cells (rcs A c ⟨fs, room, armed, dead⟩) 45) = w1 at *
  have a3 : w1.cell? ⟨w.heap.size, 3, none⟩ = some (.bool dead) := kA.cell 3
  cases dead with
  | true =>
    go_wp2_with fail
    go_ret2
    exact ⟨none, 0, rfl, OwnB.nil_ _ _, dA⟩
  | false =>
    have T := rget_any A c ⟨fs, room, armed, false⟩ S nm w1 h hn hl
    replace hu : (getR fs nm).1.safe.length + (getR fs nm).1.tail.length ≤ 70368744177664 := hu
    have HR : Hid (readR ⟨fs, room, armed, false⟩ nm = if (getR fs nm).2 then ((getR fs nm).1.safe ++ (getR fs nm).1.tail, 0) else ([], 6)) := rfl
    go_wp2_with ((with_reducible refine wpList_load_blk rfl 45 (.tmp 2) rfl w.heap.size ?_ 45 _ _ kA Try.underlying45 ?_ Try.size_RD ?_ ?_); rfl; rfl; rfl)
    refine T.mono ?_
    clear T
    show ∀ (en : Ending) (w' : World), RetRF (getR fs nm) S w1 en w' → _
    generalize getR fs nm = r at *
    obtain ⟨f, ok⟩ := r
    rintro en w2 ⟨P, pc, Q, qc, rfl, hF, b2⟩
    replace hF : FOk w2 S P pc Q qc f := hF
    replace hu : f.safe.length + f.tail.length ≤ 70368744177664 := hu
    replace HR : Hid (readR ⟨fs, room, armed, false⟩ nm = if ok then (f.safe ++ f.tail, 0) else ([], 6)) := HR
    have b02 : Below w.heap.size w w2 := below_step dA b2
    have d3 : Below w2.heap.size w2 (w2.alloc (.cells #[.string ⟨f.name.toArray⟩, .slice P f.safe.length pc, .slice Q f.tail.length qc] 85)) := (Below.refl _ _).alloc (Nat.le_refl _) _
    have kF := Blk.new w2 85 #[.string ⟨f.name.toArray⟩, .slice P f.safe.length pc, .slice Q f.tail.length qc]
    have hF3 := hF.below d3
    have b03 := below_step b02 d3
    clear hF kA a3 h
    dsimp only
    go_upto_region 4 with fail
    generalize (w2.alloc (.cells #[.string ⟨f.name.toArray⟩, .slice P f.safe.length pc, .slice Q f.tail.length qc] 85)) = w3 at *
    cases ok with
    | false =>
      go_wp2_with fail
      go_ret2
      rw [HR.out, if_neg (by decide)]
      exact ⟨none, 0, rfl, OwnB.nil_ _ _, b03⟩
    | true =>
      go_upto_region 6 with fail
      have kd := kF.drew
      refine wp_region_noPanic ?_
      refine wp_region_held_drew (S := fun Y => Y.cell? ⟨w2.heap.size, 1, none⟩ = some (.slice P f.safe.length pc) ∧ Y.cell? ⟨w2.heap.size, 2, none⟩ = some (.slice Q f.tail.length qc)) (by kernel_rfl) ⟨kd.cell 1, kd.cell 2⟩ (fun hH => ?_)
      refine wpAnyH_take (i := 0) (v := ?_) rfl (by kernel_rfl) (by kernel_rfl) (by kernel_rfl) (fun _ _ _ h => h) (Or.inl ⟨by rfl, ?_⟩) hH ?_
      case refine_2 => intro w hSw; go_simp; try with_reducible rfl
      try simp only [List.getElem_toArray, List.getElem_cons_zero, Act.put, List.setIfInBounds_toArray, List.set_cons_zero, List.set_cons_succ]
      refine wpAnyH_take (i := 1) (v := ?_) rfl (by kernel_rfl) (by kernel_rfl) (by kernel_rfl) (fun _ _ _ h => h) (Or.inl ⟨by rfl, ?_⟩) hH ?_
      case refine_2 => intro w hSw; obtain ⟨s0, s1⟩ := hSw; go_simp; try with_reducible rfl
      try simp only [List.getElem_toArray, List.getElem_cons_zero, List.getElem_cons_succ, Act.put, List.setIfInBounds_toArray, List.set_cons_zero, List.set_cons_succ]
      refine wpAnyH_take (i := 3) (v := ?_) rfl (by kernel_rfl) (by kernel_rfl) (by kernel_rfl) (fun _ _ _ h => h) (Or.inl ⟨by rfl, ?_⟩) hH ?_
      case refine_2 => intro w hSw; go_simp; try with_reducible rfl
      try simp only [List.getElem_toArray, List.getElem_cons_zero, List.getElem_cons_succ, Act.put, List.setIfInBounds_toArray, List.set_cons_zero, List.set_cons_succ]
      refine wpAnyH_take (i := 4) (v := ?_) rfl (by kernel_rfl) (by kernel_rfl) (by kernel_rfl) (fun _ _ _ h => h) (Or.inl ⟨by rfl, ?_⟩) hH ?_
      case refine_2 => intro w hSw; obtain ⟨s0, s1⟩ := hSw; go_simp; try with_reducible rfl
      try simp only [List.getElem_toArray, List.getElem_cons_zero, List.getElem_cons_succ, Act.put, List.setIfInBounds_toArray, List.set_cons_zero, List.set_cons_succ]
      refine wpAnyH_ready (rs := [2]) (by kernel_rfl) (by simp) ?_
      refine AllReadyH.cons rfl (fun K hK => ?_) AllReadyH.nil
      go_simp
      refine (copy_any P f.safe pc w3.drew hF3.safe.1.drew).mono ?_
      rintro en w4 ⟨A4, c4, rfl, o4, b4⟩
      replace o4 : OwnB w3.heap.size w4 A4 f.safe c4 := o4
      have b3d : Below w3.heap.size w3 w3.drew := (Below.refl _ _).drew
      have b34 := below_step b3d b4
      have kF4 := kd.below b4 kd.lt
      refine hK.out _ _ ⟨kF4.cell 1, kF4.cell 2⟩ (fun hH => ?_)
      clear hK K
      try dsimp only
      try simp only [List.getElem_toArray, List.getElem_cons_zero, List.getElem_cons_succ, Act.put, List.setIfInBounds_toArray, List.set_cons_zero, List.set_cons_succ]
      refine wpAnyH_ready (rs := [5]) (by kernel_rfl) (by simp) ?_
      refine AllReadyH.cons rfl (fun K hK => ?_) AllReadyH.nil
      refine step_app w3.heap.size w3 w4 rfl (.tmp 20) (.tmp 22) rfl A4 f.safe c4 rfl o4 Q f.tail qc rfl (hF3.tail.1.below b34) (by omega) b34 (Nat.le_refl _) b34.size ?_
      intro A5 c5 acc5 w5 H5 o5 b5 g5 _
      have kF5 := kF4.grown g5 (fun e => by have h1 := (OwnB.lt o4 _ e.symm).1; have := kF.lt; omega)
      refine hK.out _ _ ⟨kF5.cell 1, kF5.cell 2⟩ (fun hH => ?_)
      clear hK K
      try dsimp only
      try simp only [List.getElem_toArray, List.getElem_cons_zero, List.getElem_cons_succ, Act.put, List.setIfInBounds_toArray, List.set_cons_zero, List.set_cons_succ]
      refine wpAnyH_take (i := 6) (v := ?_) rfl (by kernel_rfl) (by kernel_rfl) (by kernel_rfl) (fun _ _ _ h => h) (Or.inl ⟨by rfl, ?_⟩) hH ?_
      case refine_2 => intro w hSw; go_simp; try with_reducible rfl
      try simp only [List.getElem_toArray, List.getElem_cons_zero, List.getElem_cons_succ, Act.put, List.setIfInBounds_toArray, List.set_cons_zero, List.set_cons_succ]
      refine wpAnyH_take (i := 7) (v := ?_) rfl (by kernel_rfl) (by kernel_rfl) (by kernel_rfl) (fun _ _ _ h => h) (Or.inl ⟨by rfl, ?_⟩) hH ?_
      case refine_2 => intro w hSw; go_simp; try with_reducible rfl
      try simp only [List.getElem_toArray, List.getElem_cons_zero, List.getElem_cons_succ, Act.put, List.setIfInBounds_toArray, List.set_cons_zero, List.set_cons_succ]
      refine wpAnyH_done (by kernel_rfl) ?_ _
      refine NoPanic.normal ?_
      clear hH
      have b05 := b03.trans (b5.mono b03.size)
      go_wp2_with fail
      go_ret2
      rw [HR.out, if_pos trivial, ← H5.out]
      exact ⟨A5, c5, rfl, OwnB.base o5 b03.size, b05⟩
end Go.Proofs.Ytnhonjgclbmheaa
