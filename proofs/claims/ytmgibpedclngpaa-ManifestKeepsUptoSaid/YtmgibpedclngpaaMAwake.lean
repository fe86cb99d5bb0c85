/- The fixed fact at the head of each law: awake of caissonlaw12. -/
import Derived.Test.YtmgibpedclngpaaMApply
import Derived.Test.YtmgibpedclngpaaMSame
namespace Go.Proofs.Ytmgibpedclngpaa
open Go.RowKit

theorem FE.one_ {w' : World} {A : Option Addr} {vs : List Value} {f : LFile} (hr : Reads w' w'.heap.size 6 A 1 vs) (hrep : FE.rep w' Any vs f) : Sl FE w' A [f] := ⟨by simp only [FE, List.length_singleton]; decide, vs, hr, At.any _ _, ER.flat_one_ hrep⟩
theorem nilB (w : World) : Bs w none [] ∧ At Any none ([] : List UInt8).length ∧ ([] : List UInt8).length ≤ 0 ∧ 0 ≤ 9223372036854775807 := ⟨Bs.nil_ _ _, At.any _ _, Nat.le_refl _, Nat.zero_le _⟩
def f3 : LFile := ⟨3, 0, [], [], 0, 0⟩
theorem f3_right : right1 [f3] 4 = true := by decide
set_option maxRecDepth 100000 in
set_option maxHeartbeats 4000000 in
theorem awake_any (w : World) : Calls Try.prog 6 #[] w (RetTrue w) := by
  have b1 : Below w.heap.size w (w.alloc (.cells #[.slice none 0 0, .slice none 0 0, .int .i64 0, .int .i64 0, .int .u64 3, .int .i64 0] 66)) := (Below.refl _ _).alloc (Nat.le_refl _) _
  have hrd : Reads (w.alloc (.cells #[.slice none 0 0, .slice none 0 0, .int .i64 0, .int .i64 0, .int .u64 3, .int .i64 0] 66)) (w.alloc (.cells #[.slice none 0 0, .slice none 0 0, .int .i64 0, .int .i64 0, .int .u64 3, .int .i64 0] 66)).heap.size 6 (some ⟨w.heap.size, 0, none⟩) 1 [.slice none 0 0, .slice none 0 0, .int .i64 0, .int .i64 0, .int .u64 3, .int .i64 0] := by
    have h := Reads.newN w [.slice none 0 0, .slice none 0 0, .int .i64 0, .int .i64 0, .int .u64 3, .int .i64 0] 66
    have hsz : (w.alloc (.cells #[.slice none 0 0, .slice none 0 0, .int .i64 0, .int .i64 0, .int .u64 3, .int .i64 0] 66)).heap.size = w.heap.size + 1 := by simp
    rw [hsz]
    exact h
  have hB : Sl FE (w.alloc (.cells #[.slice none 0 0, .slice none 0 0, .int .i64 0, .int .i64 0, .int .u64 3, .int .i64 0] 66)) (some ⟨w.heap.size, 0, none⟩) [f3] := FE.one_ hrd ⟨none, 0, none, 0, rfl, nilB _, nilB _, by unfold LFile.wf U64 I64 f3; decide⟩
  have T := apply_one [] [f3] 0 0 5 none (some ⟨w.heap.size, 0, none⟩) 0 1 (w.alloc (.cells #[.slice none 0 0, .slice none 0 0, .int .i64 0, .int .i64 0, .int .u64 3, .int .i64 0] 66)) (SlS.nil_ _ _ _ _) hB (by decide) rfl (by intro f hf; rw [List.mem_singleton.1 hf]; decide) (by decide)
  rw [show nextA [f3] 0 = 4 from rfl] at T
  go_enter Try.func6, Try.ntmps6
  go_wp2_with fail
  refine T.mono ?_
  clear T
  rintro en w2 ⟨b2, hor⟩
  rcases hor with ⟨_, R, r, rfl, oX⟩ | ⟨hf, _⟩
  · have b02 := b1.trans (b2.mono b1.size)
    have dz : Below w2.heap.size w2 (w2.alloc (.cells #[.slice R 1 r, .int .u64 4, .int .u64 5] 30)) := (Below.refl _ _).alloc (Nat.le_refl _) _
    have kO := Blk.new w2 30 #[.slice R 1 r, .int .u64 4, .int .u64 5]
    have oX1 := Own.below oX dz
    have b03 := b02.trans (dz.mono b02.size)
    have T := right_one [f3] 4 5 R r (w2.alloc (.cells #[.slice R 1 r, .int .u64 4, .int .u64 5] 30)) (Own.sl (Own.fe oX1) (by simp only [FE]; decide)) (Nat.le_refl _)
    rw [f3_right] at T
    have y0 : (w2.alloc (.cells #[.slice R 1 r, .int .u64 4, .int .u64 5] 30)).cell? ⟨w2.heap.size, 0, none⟩ = some (.slice R 1 r) := kO.cell 0
    have y1 : (w2.alloc (.cells #[.slice R 1 r, .int .u64 4, .int .u64 5] 30)).cell? ⟨w2.heap.size, 1, none⟩ = some (.int .u64 4) := kO.cell 1
    have y2 : (w2.alloc (.cells #[.slice R 1 r, .int .u64 4, .int .u64 5] 30)).cell? ⟨w2.heap.size, 2, none⟩ = some (.int .u64 5) := kO.cell 2
    go_upto_region 2 with fail
    generalize (w2.alloc (.cells #[.slice R 1 r, .int .u64 4, .int .u64 5] 30)) = w3 at *
    go_wp2_with fail
    refine T.mono ?_
    rintro en w4 ⟨rfl, b4⟩
    go_wp2_with fail
    go_ret
    exact ⟨rfl, b03.trans (b4.mono b03.size)⟩
  · rw [show right1 ([] ++ [f3]) 4 = true from f3_right] at hf
    cases hf
end Go.Proofs.Ytmgibpedclngpaa
