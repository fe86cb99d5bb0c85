/- The reference's disk: New, may, Arm, Read. -/
import Derived.Test.YtnhonjgclbmheaaRdX
namespace Go.Proofs.Ytnhonjgclbmheaa
open Go.RowKit

theorem results_cell4 {P : Program} {fn : Func} {p u v x : Tmp} {ty : TypeId} (h : fn.results = #[.cell p ty, .tmp u, .tmp v, .tmp x]) {tmps : Array Value} {w : World} {g : Nat} {t : TypeId} {cs : Array Value} {d : TypeDesc} {a b c : Value}
    (hp : tmps.getD p undef = .pointer (some ⟨g, 0, none⟩)) (hu' : tmps.getD u undef = a) (hv : tmps.getD v undef = b) (hx : tmps.getD x undef = c) (hb : Blk w g t cs)
    (hu : P.underlying ty = some d) (hd : (match d with | .struct _ | .array _ _ => true | _ => false) = true) (hi : (P.info? ty).map (·.size) = some cs.size) :
    (results fn tmps).run P w = .ok (.tuple #[.agg cs, a, b, c]) w := by
  have e : (results fn tmps).run P w = ((asAddr (tmps.getD p undef)).run P w).andThen fun a w₁ => ((loadVar ty a).run P w₁).andThen fun y w₂ => .ok (.tuple #[y, tmps.getD u undef, tmps.getD v undef, tmps.getD x undef]) w₂ := by
    simp only [results, h]
    simp [Sem.run_bind, Result.andThen]
  rw [e, hp, hu', hv, hx]
  simp [asAddr, run_loadVar_row w g t ty cs (0, 0) d hb hu hd hi, Result.andThen]
/-- may a call be done that would answer e; its answer; did it kill the disk -/
def mayR (W : LRD) (e : Int) : LRD × Bool × Int × Bool :=
  if W.dead then (W, false, 9, false) else if e ≠ 0 then (W, false, e, false) else if W.armed = 0 then ({ W with dead := true }, false, 9, true) else if 0 < W.armed then ({ W with armed := W.armed - 1 }, true, 0, false) else (W, true, 0, false)
def RetMay (r : LRD × Bool × Int × Bool) (A : Option Addr) (c : Nat) (w : World) (en : Ending) (w' : World) : Prop :=
  en = .returned (.tuple #[rv A c r.1, .bool r.2.1, .int .i64 r.2.2.1, .bool r.2.2.2]) ∧ Below w.heap.size w w'
theorem mayR_files (W : LRD) (e : Int) : (mayR W e).1.files = W.files ∧ (mayR W e).1.room = W.room := by
  unfold mayR
  repeat' split
  all_goals exact ⟨rfl, rfl⟩
set_option maxRecDepth 100000 in
set_option maxHeartbeats 2000000 in
theorem rmay_any (A : Option Addr) (c : Nat) (W : LRD) (e : Int) (w : World) (ha : -1 ≤ W.armed ∧ W.armed ≤ 9223372036854775807) :
    Calls Try.prog 43 #[rv A c W, .int .i64 e] w (RetMay (mayR W e) A c w) := by
  obtain ⟨fs, room, armed, dead⟩ := W
  replace ha : -1 ≤ armed ∧ armed ≤ 9223372036854775807 := ha
  go_enter Try.func43, Try.ntmps43
  have dA : Below w.heap.size w (w.alloc (.cells (rcs A c ⟨fs, room, armed, dead⟩) 45)) := (Below.refl _ _).alloc (Nat.le_refl _) _
  have kA := Blk.new w 45 (rcs A c ⟨fs, room, armed, dead⟩)
  have zA : (w.alloc (.cells (rcs A c ⟨fs, room, armed, dead⟩) 45)).heap.size = w.heap.size + 1 := by simp
  go_upto_region 1 with fail
  change Code.wp _ _ _ _ ((w.alloc (.cells (rcs A c ⟨fs, room, armed, dead⟩) 45)).alloc (.cells (rcs none 0 ⟨[], 0, 0, false⟩) 45))
  generalize w.alloc (.cells (rcs A c ⟨fs, room, armed, dead⟩) 45) = wA at *
  have dR : Below wA.heap.size wA (wA.alloc (.cells (rcs none 0 ⟨[], 0, 0, false⟩) 45)) := (Below.refl _ _).alloc (Nat.le_refl _) _
  have kR := Blk.new wA 45 (rcs none 0 ⟨[], 0, 0, false⟩)
  have zR : (wA.alloc (.cells (rcs none 0 ⟨[], 0, 0, false⟩) 45)).heap.size = wA.heap.size + 1 := by simp
  generalize wA.alloc (.cells (rcs none 0 ⟨[], 0, 0, false⟩) 45) = w1 at *
  rw [zA] at kR
  have b1 : Below w.heap.size w w1 := dA.trans (dR.mono (by omega))
  replace kA := kA.below dR (by omega)
  have z1 : w1.heap.size = w.heap.size + 1 + 1 := by omega
  have Z1 := Lib.hid z1
  clear dA dR zA zR z1
  have a3 : w1.cell? ⟨w.heap.size, 3, none⟩ = some (.bool dead) := kA.cell 3
  have a2 : w1.cell? ⟨w.heap.size, 2, none⟩ = some (.int .i64 armed) := kA.cell 2
  cases dead with
  | true =>
    go_wp2_with (first
      | ((with_reducible refine wpList_load_blk rfl 45 (.tmp 2) rfl w.heap.size ?_ 45 _ _ kA Try.underlying45 ?_ Try.size_RD ?_ ?_); rfl; rfl; rfl)
      | ((with_reducible refine wpList_store_blk rfl 45 (.tmp 4) (.tmp 10) rfl (w.heap.size + 1) 45 _ (rcs A c ⟨fs, room, armed, true⟩) ?_ ?_ kR Try.size_RD ?_ ?_ ?_ ?_); rfl; rfl; rfl; rfl; (simp [rcs, Value.oneCell']); intro w12 kz12 g12 z12))
    have b12 := b1.grown g12 b1.size (fun j hj => by have := Option.some.inj hj; omega)
    exact bodyPost_ret (results_cell4 rfl rfl rfl rfl rfl kz12 Try.underlying45 rfl Try.size_RD) rfl (by exact ⟨rfl, b12⟩)
  | false =>
    by_cases he : e ≠ 0
    · have HE : Hid (mayR ⟨fs, room, armed, false⟩ e = (⟨fs, room, armed, false⟩, false, e, false)) := by show _ = _; unfold mayR; rw [if_neg (show ¬ (false = true) by decide), if_pos he]
      have d1 : (e != 0) = true := by rw [bne_iff_ne]; exact he
      clear he
      go_wp2_with (first
        | ((with_reducible refine wpList_load_blk rfl 45 (.tmp 2) rfl w.heap.size ?_ 45 _ _ kA Try.underlying45 ?_ Try.size_RD ?_ ?_); rfl; rfl; rfl)
        | ((with_reducible refine wpList_store_blk rfl 45 (.tmp 4) (.tmp 13) rfl (w.heap.size + 1) 45 _ (rcs A c ⟨fs, room, armed, false⟩) ?_ ?_ kR Try.size_RD ?_ ?_ ?_ ?_); rfl; rfl; rfl; rfl; (simp [rcs, Value.oneCell']); intro w12 kz12 g12 z12))
      have b12 := b1.grown g12 b1.size (fun j hj => by have := Option.some.inj hj; omega)
      exact bodyPost_ret (results_cell4 rfl rfl rfl rfl rfl kz12 Try.underlying45 rfl Try.size_RD) rfl (by rw [HE.out]; exact ⟨rfl, b12⟩)
    obtain rfl : e = 0 := Classical.byContradiction he
    clear he
    rcases (show armed = 0 ∨ 0 < armed ∨ armed < 0 by omega) with rfl | hpos | hneg
    · have f3 : w1.frozen? ⟨w.heap.size, 3, none⟩ = false := kA.frozen 3
      have g10 : w1.grownBy (w1.setCell ⟨w.heap.size, 3, none⟩ (.bool true)) (some w.heap.size) := only_setCell (World.grownBy.refl _ _) (p := ⟨w.heap.size, 3, none⟩) (.inl rfl) _
      have kA10 : Blk (w1.setCell ⟨w.heap.size, 3, none⟩ (.bool true)) w.heap.size 45 (rcs A c ⟨fs, room, 0, true⟩) := kA.set_ 3 (.bool true)
      have kR10 := kR.grown g10 (fun e => by have h1 := Option.some.inj e; omega)
      have b10 := b1.grown g10 b1.size (fun j hj => by have := Option.some.inj hj; omega)
      have d0 : ((0 : Int) == 0) = true := by decide
      go_upto_region 7 with fail
      generalize w1.setCell ⟨w.heap.size, 3, none⟩ (.bool true) = w10 at *
      go_wp2_with (first
        | ((with_reducible refine wpList_load_blk rfl 45 (.tmp 2) rfl w.heap.size ?_ 45 _ _ kA10 Try.underlying45 ?_ Try.size_RD ?_ ?_); rfl; rfl; rfl)
        | ((with_reducible refine wpList_store_blk rfl 45 (.tmp 4) (.tmp 19) rfl (w.heap.size + 1) 45 _ (rcs A c ⟨fs, room, 0, true⟩) ?_ ?_ kR10 Try.size_RD ?_ ?_ ?_ ?_); rfl; rfl; rfl; rfl; (simp [rcs, Value.oneCell']); intro w12 kz12 g12 z12))
      have b12 := b10.grown g12 b10.size (fun j hj => by have := Option.some.inj hj; omega)
      exact bodyPost_ret (results_cell4 rfl rfl rfl rfl rfl kz12 Try.underlying45 rfl Try.size_RD) rfl (by exact ⟨rfl, b12⟩)
    · have HE : Hid (mayR ⟨fs, room, armed, false⟩ 0 = (⟨fs, room, armed - 1, false⟩, true, 0, false)) := by
        show _ = _
        unfold mayR
        rw [if_neg (show ¬ (false = true) by decide), if_neg (show ¬ ((0 : Int) ≠ 0) by decide), if_neg (by show ¬ armed = 0; omega), if_pos (by exact hpos)]
      have d0 : (armed == 0) = false := by rw [beq_eq_false_iff_ne]; omega
      have f2 : w1.frozen? ⟨w.heap.size, 2, none⟩ = false := kA.frozen 2
      have g10 : w1.grownBy (w1.setCell ⟨w.heap.size, 2, none⟩ (.int .i64 (armed - 1))) (some w.heap.size) := only_setCell (World.grownBy.refl _ _) (p := ⟨w.heap.size, 2, none⟩) (.inl rfl) _
      have kA10 : Blk (w1.setCell ⟨w.heap.size, 2, none⟩ (.int .i64 (armed - 1))) w.heap.size 45 (rcs A c ⟨fs, room, armed - 1, false⟩) := kA.set_ 2 (.int .i64 (armed - 1))
      have kR10 := kR.grown g10 (fun e => by have h1 := Option.some.inj e; omega)
      have b10 := b1.grown g10 b1.size (fun j hj => by have := Option.some.inj hj; omega)
      go_upto_region 10 with fail
      generalize w1.setCell ⟨w.heap.size, 2, none⟩ (.int .i64 (armed - 1)) = w10 at *
      go_wp2_with (first
        | ((with_reducible refine wpList_load_blk rfl 45 (.tmp 2) rfl w.heap.size ?_ 45 _ _ kA10 Try.underlying45 ?_ Try.size_RD ?_ ?_); rfl; rfl; rfl)
        | ((with_reducible refine wpList_store_blk rfl 45 (.tmp 4) (.tmp 27) rfl (w.heap.size + 1) 45 _ (rcs A c ⟨fs, room, armed - 1, false⟩) ?_ ?_ kR10 Try.size_RD ?_ ?_ ?_ ?_); rfl; rfl; rfl; rfl; (simp [rcs, Value.oneCell']); intro w12 kz12 g12 z12))
      have b12 := b10.grown g12 b10.size (fun j hj => by have := Option.some.inj hj; omega)
      exact bodyPost_ret (results_cell4 rfl rfl rfl rfl rfl kz12 Try.underlying45 rfl Try.size_RD) rfl (by rw [HE.out]; exact ⟨rfl, b12⟩)
    · have HE : Hid (mayR ⟨fs, room, armed, false⟩ 0 = (⟨fs, room, armed, false⟩, true, 0, false)) := by
        show _ = _
        unfold mayR
        rw [if_neg (show ¬ (false = true) by decide), if_neg (show ¬ ((0 : Int) ≠ 0) by decide), if_neg (by show ¬ armed = 0; omega), if_neg (by show ¬ 0 < armed; omega)]
      have d0 : (armed == 0) = false := by rw [beq_eq_false_iff_ne]; omega
      go_wp2_with (first
        | ((with_reducible refine wpList_load_blk rfl 45 (.tmp 2) rfl w.heap.size ?_ 45 _ _ kA Try.underlying45 ?_ Try.size_RD ?_ ?_); rfl; rfl; rfl)
        | ((with_reducible refine wpList_store_blk rfl 45 (.tmp 4) (.tmp 27) rfl (w.heap.size + 1) 45 _ (rcs A c ⟨fs, room, armed, false⟩) ?_ ?_ kR Try.size_RD ?_ ?_ ?_ ?_); rfl; rfl; rfl; rfl; (simp [rcs, Value.oneCell']); intro w12 kz12 g12 z12))
      have b12 := b1.grown g12 b1.size (fun j hj => by have := Option.some.inj hj; omega)
      exact bodyPost_ret (results_cell4 rfl rfl rfl rfl rfl kz12 Try.underlying45 rfl Try.size_RD) rfl (by rw [HE.out]; exact ⟨rfl, b12⟩)
end Go.Proofs.Ytnhonjgclbmheaa
