/- The fixed table of the row laws: caissonlaw14.plain. -/
import Derived.Test.YtfededjcadmpbaaDoorRFits
namespace Go.Proofs.YtfededjcadmpbaaDoor
open Go.RowKit

def plC : List LCol := [⟨⟨#[105, 100]⟩, 2, false⟩, ⟨⟨#[110, 97, 109, 101]⟩, 3, true⟩]
def plX : List LIx := [⟨⟨#[117]⟩, [1], true⟩, ⟨⟨#[112]⟩, [1], false⟩]
/-- the table is answered -/
def RetPlain (w : World) (en : Ending) (w' : World) : Prop :=
  ∃ A B, en = .returned (.agg #[.int .i64 7, .string ⟨#[116]⟩, .slice A 2 2, .int .i64 1, .slice B 2 2]) ∧ Sl ColE w' A plC ∧ Sl IxE w' B plX ∧ Below w.heap.size w w'
theorem plain_check : checkI 7 1 ⟨#[116]⟩ plC plX = 0 := by decide +kernel

theorem Reads.of_blk {w : World} {g n : Nat} {t : TypeId} {vs : List Value} (h : Blk w g t vs.toArray) (hn : vs.length = n) : Reads w w.heap.size n (some ⟨g, 0, none⟩) 1 vs :=
  ⟨by omega, fun _ => ⟨_, rfl, h.lt, fun j u hu => by rw [add_row, h.cell]; simpa using hu⟩⟩
set_option maxRecDepth 100000 in
set_option maxHeartbeats 2000000 in
theorem plain_any (w : World) : Calls Tryd.prog 29 #[] w (RetPlain w) := by
  have kT := ((((Blk.new w 25 #[.int .i64 7, .string ⟨#[116]⟩, .slice (some ⟨w.heap.size + 1, 0, none⟩) 2 2, .int .i64 1, .slice (some ⟨w.heap.size + 4, 0, none⟩) 2 2]).alloc (.cells #[.string ⟨#[105, 100]⟩, .int .i64 2, .bool false, .string ⟨#[110, 97, 109, 101]⟩, .int .i64 3, .bool true] 91)).alloc (.cells #[.int .i64 1] 3)).alloc (.cells #[.int .i64 1] 3)).alloc (.cells #[.string ⟨#[117]⟩, .slice (some ⟨w.heap.size + 2, 0, none⟩) 1 1, .bool true, .string ⟨#[112]⟩, .slice (some ⟨w.heap.size + 3, 0, none⟩) 1 1, .bool false] 57)
  have kC := (((Blk.new (w.alloc (.cells #[.int .i64 7, .string ⟨#[116]⟩, .slice (some ⟨w.heap.size + 1, 0, none⟩) 2 2, .int .i64 1, .slice (some ⟨w.heap.size + 4, 0, none⟩) 2 2] 25)) 91 #[.string ⟨#[105, 100]⟩, .int .i64 2, .bool false, .string ⟨#[110, 97, 109, 101]⟩, .int .i64 3, .bool true]).alloc (.cells #[.int .i64 1] 3)).alloc (.cells #[.int .i64 1] 3)).alloc (.cells #[.string ⟨#[117]⟩, .slice (some ⟨w.heap.size + 2, 0, none⟩) 1 1, .bool true, .string ⟨#[112]⟩, .slice (some ⟨w.heap.size + 3, 0, none⟩) 1 1, .bool false] 57)
  have k1 := ((Blk.new ((w.alloc (.cells #[.int .i64 7, .string ⟨#[116]⟩, .slice (some ⟨w.heap.size + 1, 0, none⟩) 2 2, .int .i64 1, .slice (some ⟨w.heap.size + 4, 0, none⟩) 2 2] 25)).alloc (.cells #[.string ⟨#[105, 100]⟩, .int .i64 2, .bool false, .string ⟨#[110, 97, 109, 101]⟩, .int .i64 3, .bool true] 91)) 3 #[.int .i64 1]).alloc (.cells #[.int .i64 1] 3)).alloc (.cells #[.string ⟨#[117]⟩, .slice (some ⟨w.heap.size + 2, 0, none⟩) 1 1, .bool true, .string ⟨#[112]⟩, .slice (some ⟨w.heap.size + 3, 0, none⟩) 1 1, .bool false] 57)
  have k2 := (Blk.new (((w.alloc (.cells #[.int .i64 7, .string ⟨#[116]⟩, .slice (some ⟨w.heap.size + 1, 0, none⟩) 2 2, .int .i64 1, .slice (some ⟨w.heap.size + 4, 0, none⟩) 2 2] 25)).alloc (.cells #[.string ⟨#[105, 100]⟩, .int .i64 2, .bool false, .string ⟨#[110, 97, 109, 101]⟩, .int .i64 3, .bool true] 91)).alloc (.cells #[.int .i64 1] 3)) 3 #[.int .i64 1]).alloc (.cells #[.string ⟨#[117]⟩, .slice (some ⟨w.heap.size + 2, 0, none⟩) 1 1, .bool true, .string ⟨#[112]⟩, .slice (some ⟨w.heap.size + 3, 0, none⟩) 1 1, .bool false] 57)
  have kI := Blk.new ((((w.alloc (.cells #[.int .i64 7, .string ⟨#[116]⟩, .slice (some ⟨w.heap.size + 1, 0, none⟩) 2 2, .int .i64 1, .slice (some ⟨w.heap.size + 4, 0, none⟩) 2 2] 25)).alloc (.cells #[.string ⟨#[105, 100]⟩, .int .i64 2, .bool false, .string ⟨#[110, 97, 109, 101]⟩, .int .i64 3, .bool true] 91)).alloc (.cells #[.int .i64 1] 3)).alloc (.cells #[.int .i64 1] 3)) 57 #[.string ⟨#[117]⟩, .slice (some ⟨w.heap.size + 2, 0, none⟩) 1 1, .bool true, .string ⟨#[112]⟩, .slice (some ⟨w.heap.size + 3, 0, none⟩) 1 1, .bool false]
  rw [show (w.alloc (.cells #[.int .i64 7, .string ⟨#[116]⟩, .slice (some ⟨w.heap.size + 1, 0, none⟩) 2 2, .int .i64 1, .slice (some ⟨w.heap.size + 4, 0, none⟩) 2 2] 25)).heap.size = w.heap.size + 1 by simp] at kC
  rw [show ((w.alloc (.cells #[.int .i64 7, .string ⟨#[116]⟩, .slice (some ⟨w.heap.size + 1, 0, none⟩) 2 2, .int .i64 1, .slice (some ⟨w.heap.size + 4, 0, none⟩) 2 2] 25)).alloc (.cells #[.string ⟨#[105, 100]⟩, .int .i64 2, .bool false, .string ⟨#[110, 97, 109, 101]⟩, .int .i64 3, .bool true] 91)).heap.size = w.heap.size + 2 by simp] at k1
  rw [show (((w.alloc (.cells #[.int .i64 7, .string ⟨#[116]⟩, .slice (some ⟨w.heap.size + 1, 0, none⟩) 2 2, .int .i64 1, .slice (some ⟨w.heap.size + 4, 0, none⟩) 2 2] 25)).alloc (.cells #[.string ⟨#[105, 100]⟩, .int .i64 2, .bool false, .string ⟨#[110, 97, 109, 101]⟩, .int .i64 3, .bool true] 91)).alloc (.cells #[.int .i64 1] 3)).heap.size = w.heap.size + 3 by simp] at k2
  rw [show ((((w.alloc (.cells #[.int .i64 7, .string ⟨#[116]⟩, .slice (some ⟨w.heap.size + 1, 0, none⟩) 2 2, .int .i64 1, .slice (some ⟨w.heap.size + 4, 0, none⟩) 2 2] 25)).alloc (.cells #[.string ⟨#[105, 100]⟩, .int .i64 2, .bool false, .string ⟨#[110, 97, 109, 101]⟩, .int .i64 3, .bool true] 91)).alloc (.cells #[.int .i64 1] 3)).alloc (.cells #[.int .i64 1] 3)).heap.size = w.heap.size + 4 by simp] at kI
  have b5 : Below w.heap.size w (((((w.alloc (.cells #[.int .i64 7, .string ⟨#[116]⟩, .slice (some ⟨w.heap.size + 1, 0, none⟩) 2 2, .int .i64 1, .slice (some ⟨w.heap.size + 4, 0, none⟩) 2 2] 25)).alloc (.cells #[.string ⟨#[105, 100]⟩, .int .i64 2, .bool false, .string ⟨#[110, 97, 109, 101]⟩, .int .i64 3, .bool true] 91)).alloc (.cells #[.int .i64 1] 3)).alloc (.cells #[.int .i64 1] 3)).alloc (.cells #[.string ⟨#[117]⟩, .slice (some ⟨w.heap.size + 2, 0, none⟩) 1 1, .bool true, .string ⟨#[112]⟩, .slice (some ⟨w.heap.size + 3, 0, none⟩) 1 1, .bool false] 57)) := (((((Below.refl _ _).alloc (Nat.le_refl _) _).alloc (by simp) _).alloc (by simp; omega) _).alloc (by simp; omega) _).alloc (by simp; omega) _
  go_enter Tryd.func29, Tryd.ntmps29
  go_wp2_with fail
  generalize (((((w.alloc (.cells #[.int .i64 7, .string ⟨#[116]⟩, .slice (some ⟨w.heap.size + 1, 0, none⟩) 2 2, .int .i64 1, .slice (some ⟨w.heap.size + 4, 0, none⟩) 2 2] 25)).alloc (.cells #[.string ⟨#[105, 100]⟩, .int .i64 2, .bool false, .string ⟨#[110, 97, 109, 101]⟩, .int .i64 3, .bool true] 91)).alloc (.cells #[.int .i64 1] 3)).alloc (.cells #[.int .i64 1] 3)).alloc (.cells #[.string ⟨#[117]⟩, .slice (some ⟨w.heap.size + 2, 0, none⟩) 1 1, .bool true, .string ⟨#[112]⟩, .slice (some ⟨w.heap.size + 3, 0, none⟩) 1 1, .bool false] 57)) = W at *
  have hI1 : Is W (some ⟨w.heap.size + 2, 0, none⟩) [1] := ⟨Reads.of_blk k1 rfl, by decide⟩
  have hI2 : Is W (some ⟨w.heap.size + 3, 0, none⟩) [1] := ⟨Reads.of_blk k2 rfl, by decide⟩
  have hC : Sl ColE W (some ⟨w.heap.size + 1, 0, none⟩) plC := by
    refine ⟨by decide, [.string ⟨#[105, 100]⟩, .int .i64 2, .bool false, .string ⟨#[110, 97, 109, 101]⟩, .int .i64 3, .bool true], ⟨rfl, fun _ => ⟨_, rfl, kC.lt, fun j u hu => ?_⟩⟩, fun _ _ _ => trivial, ?_⟩
    · rw [add_row, kC.cell]; simpa using hu
    · exact ⟨[.string ⟨#[105, 100]⟩, .int .i64 2, .bool false], [.string ⟨#[110, 97, 109, 101]⟩, .int .i64 3, .bool true], rfl, ⟨rfl, by decide⟩, ⟨[.string ⟨#[110, 97, 109, 101]⟩, .int .i64 3, .bool true], [], rfl, ⟨rfl, by decide⟩, rfl⟩⟩
  have hX : Sl IxE W (some ⟨w.heap.size + 4, 0, none⟩) plX := by
    refine ⟨by decide, [.string ⟨#[117]⟩, .slice (some ⟨w.heap.size + 2, 0, none⟩) 1 1, .bool true, .string ⟨#[112]⟩, .slice (some ⟨w.heap.size + 3, 0, none⟩) 1 1, .bool false], ⟨rfl, fun _ => ⟨_, rfl, kI.lt, fun j u hu => ?_⟩⟩, fun _ _ _ => trivial, ?_⟩
    · rw [add_row, kI.cell]; simpa using hu
    · refine ⟨[.string ⟨#[117]⟩, .slice (some ⟨w.heap.size + 2, 0, none⟩) 1 1, .bool true], [.string ⟨#[112]⟩, .slice (some ⟨w.heap.size + 3, 0, none⟩) 1 1, .bool false], rfl, ?_, ⟨[.string ⟨#[112]⟩, .slice (some ⟨w.heap.size + 3, 0, none⟩) 1 1, .bool false], [], rfl, ?_, rfl⟩⟩
      · exact ⟨some ⟨w.heap.size + 2, 0, none⟩, 1, rfl, hI1, fun _ _ _ => trivial, by decide, by decide⟩
      · exact ⟨some ⟨w.heap.size + 3, 0, none⟩, 1, rfl, hI2, fun _ _ _ => trivial, by decide, by decide⟩
  exact bodyPost_ret (results_cell rfl rfl kT Tryd.underlying25 rfl Tryd.size_TableV) rfl (by exact ⟨_, _, rfl, hC, hX, b5⟩)
end Go.Proofs.YtfededjcadmpbaaDoor
