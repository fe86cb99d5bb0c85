/- caissonref02.Low, Put, Fold. -/
import Derived.Test.YtfededjcadmpbaaDoorFold
import Derived.Test.YtfededjcadmpbaaDoorRunes
namespace Go.Proofs.YtfededjcadmpbaaDoor
open Go.RowKit

set_option maxRecDepth 100000 in
set_option maxHeartbeats 1000000 in
theorem rlow_any (c : Int) (h0 : 0 ≤ c) (h1 : c ≤ 1114111) (w : World) : Calls Tryd.prog 90 #[.int .i64 c] w fun e w' => e = .returned (.int .i64 (lowZ c)) ∧ w' = w := by
  by_cases ha : c = 215
  · have HL := Lib.hid (lowZ_same (c := c) (.inl ha))
    have d1 : (c == 215) = true := by rw [ha]; rfl
    clear ha
    go_enter Tryd.func90, Tryd.ntmps90
    go_wp2_with fail
    go_ret
    exact ⟨by rw [HL.out]; rfl, rfl⟩
  have d1 : (c == 215) = false := by rw [beq_eq_false_iff_ne]; exact ha
  by_cases hb : c = 930
  · have HL := Lib.hid (lowZ_same (c := c) (.inr (.inl hb)))
    have d2 : (c == 930) = true := by rw [hb]; rfl
    clear ha hb
    go_enter Tryd.func90, Tryd.ntmps90
    go_wp2_with fail
    go_ret
    exact ⟨by rw [HL.out]; rfl, rfl⟩
  have d2 : (c == 930) = false := by rw [beq_eq_false_iff_ne]; exact hb
  by_cases hc : (65 ≤ c ∧ c ≤ 90) ∨ (192 ≤ c ∧ c ≤ 222) ∨ (913 ≤ c ∧ c ≤ 937) ∨ (1040 ≤ c ∧ c ≤ 1071)
  · have HL := Lib.hid (lowZ_up ha hb hc)
    rcases hc with hc | hc | hc | hc
    all_goals
      clear ha hb
      obtain ⟨hc1, hc2⟩ := hc
      go_enter Tryd.func90, Tryd.ntmps90
      go_wp2_with fail
      go_ret
      exact ⟨by rw [HL.out]; rfl, rfl⟩
  · have HL := Lib.hid (lowZ_same (c := c) (.inr (.inr hc)))
    rcases (by omega : c < 65 ∨ (90 < c ∧ c < 192) ∨ (222 < c ∧ c < 913) ∨ (937 < c ∧ c < 1040) ∨ 1071 < c) with hd | hd | hd | hd | hd
    all_goals
      clear ha hb hc
      go_enter Tryd.func90, Tryd.ntmps90
      go_wp2_with fail
      go_ret
      exact ⟨by rw [HL.out]; rfl, rfl⟩

theorem ret_rune {c : Int} {w : World} {zs : List Int} (hz : Lib.encodeRuneZ c = zs) : RetBs (Lib.encodeRune c) w (.returned (.slice (some ⟨w.heap.size, 0, none⟩) zs.length zs.length)) (w.alloc (.cells (zs.map (Value.int .u8)).toArray 5)) := by
  have hl : (Lib.encodeRune c).length = zs.length := by simp [Lib.encodeRune, hz]
  have hm : (Lib.encodeRune c).map bval = zs.map (Value.int .u8) := by
    have := Lib.byteCells_encodeRune c
    unfold Lib.runeCells at this
    rw [hz] at this
    exact this
  have h4 := Lib.encodeRuneZ_length c
  rw [hz] at h4
  refine ⟨some ⟨w.heap.size, 0, none⟩, zs.length, by rw [hl], ?_, (Below.refl _ _).alloc (Nat.le_refl _) _⟩
  rw [hm, hl]
  have o := own_of_blk (w := w.alloc (.cells (zs.map (Value.int .u8)).toArray 5)) (g := w.heap.size) (base := w.heap.size) (t := 5) (xs := zs.map (Value.int .u8)) (Blk.new w _ _) (Nat.le_refl _) (by simp [maxLen]; omega)
  simpa using o

set_option maxRecDepth 100000 in
set_option maxHeartbeats 1000000 in
theorem rput_any (c : Int) (h0 : 0 ≤ c) (h1 : c ≤ 1114111) (w : World) : Calls Tryd.prog 89 #[.int .i64 c] w (RetBs (Lib.encodeRune c) w) := by
  rcases (by omega : c < 128 ∨ (128 ≤ c ∧ c < 2048) ∨ (2048 ≤ c ∧ c < 55296) ∨ (55296 ≤ c ∧ c ≤ 57343) ∨ (57343 < c ∧ c < 65536) ∨ 65536 ≤ c) with ha | ha | ha | ha | ha | ha
  · have HE := Lib.hid (Lib.encodeRuneZ_one h0 (by omega))
    go_enter Tryd.func89, Tryd.ntmps89
    go_wp2_with fail
    go_ret
    exact ret_rune HE.out
  · have HE := Lib.hid (Lib.encodeRuneZ_two (r := c) (by omega) (by omega))
    go_enter Tryd.func89, Tryd.ntmps89
    go_wp2_with fail
    go_ret
    exact ret_rune HE.out
  · have HE := Lib.hid (Lib.encodeRuneZ_three (r := c) (by omega))
    go_enter Tryd.func89, Tryd.ntmps89
    go_wp2_with fail
    go_ret
    exact ret_rune HE.out
  · have HE := Lib.hid (Lib.encodeRuneZ_bad (r := c) (by omega))
    go_enter Tryd.func89, Tryd.ntmps89
    go_wp2_with fail
    go_ret
    exact ret_rune HE.out
  · have HE := Lib.hid (Lib.encodeRuneZ_three (r := c) (by omega))
    go_enter Tryd.func89, Tryd.ntmps89
    go_wp2_with fail
    go_ret
    exact ret_rune HE.out
  · have HE := Lib.hid (Lib.encodeRuneZ_four (r := c) (by omega) (by omega))
    go_enter Tryd.func89, Tryd.ntmps89
    go_wp2_with fail
    go_ret
    exact ret_rune HE.out
end Go.Proofs.YtfededjcadmpbaaDoor
