/- Eight bytes of five: codec.OrdU and OrdI at the laws' fixed number. -/
import Derived.Test.YtfededjcadmpbaaDoorMem
namespace Go.Proofs.YtfededjcadmpbaaDoor
open Go.RowKit

theorem mk8 (W : World) : (Instr.makeSlice 31 (.int .i64 8) (.int .i64 8)).run Tryd.prog W = .ok (.slice (some ⟨W.heap.size, 0, none⟩) 8 8) (W.alloc (.cells #[.int .u8 0, .int .u8 0, .int .u8 0, .int .u8 0, .int .u8 0, .int .u8 0, .int .u8 0, .int .u8 0] 5)) := by kernel_rfl

set_option maxRecDepth 100000 in
set_option maxHeartbeats 2000000 in
theorem ordU5 (w : World) : Calls Tryd.prog 85 #[.int .u64 9223372036854775813] w (RetBs [128, 0, 0, 0, 0, 0, 0, 5] w) := by
  have hmk := mk8
  have b0 : Below w.heap.size w (w.alloc (.cells #[.int .u8 0, .int .u8 0, .int .u8 0, .int .u8 0, .int .u8 0, .int .u8 0, .int .u8 0, .int .u8 0] 5)) := (Below.refl _ _).alloc (Nat.le_refl _) _
  go_enter Tryd.func85, Tryd.ntmps85
  go_wp2_with fail
  go_loopw [4, 8] (fun _ i wr => (i = .int .i64 0 ∧ wr = w.alloc (.cells #[.int .u8 0, .int .u8 0, .int .u8 0, .int .u8 0, .int .u8 0, .int .u8 0, .int .u8 0, .int .u8 0] 5)) ∨
    (∃ k : Nat, 1 ≤ k ∧ k ≤ 7 ∧ i = .int .i64 (k : Int) ∧ wr = w.alloc (.cells #[.int .u8 128, .int .u8 0, .int .u8 0, .int .u8 0, .int .u8 0, .int .u8 0, .int .u8 0, .int .u8 0] 5)) ∨
    (i = .int .i64 8 ∧ wr = w.alloc (.cells #[.int .u8 128, .int .u8 0, .int .u8 0, .int .u8 0, .int .u8 0, .int .u8 0, .int .u8 0, .int .u8 5] 5))) (fun _ i _ => 8 - (intOf i).toNat)
  case atStart => exact .inl ⟨rfl, rfl⟩
  case round =>
    rcases hrel with ⟨rfl, rfl⟩ | ⟨k, h1, h7, rfl, rfl⟩ | ⟨rfl, rfl⟩
    · go_wp2_with fail
      exact ⟨.inr (.inl ⟨1, by decide, by decide, rfl, trivial⟩), by simp [intOf]⟩
    · rcases (by omega : k = 1 ∨ k = 2 ∨ k = 3 ∨ k = 4 ∨ k = 5 ∨ k = 6 ∨ k = 7) with rfl | rfl | rfl | rfl | rfl | rfl | rfl
      · go_wp2_with fail
        exact ⟨.inr (.inl ⟨2, by decide, by decide, rfl, trivial⟩), by simp [intOf]⟩
      · go_wp2_with fail
        exact ⟨.inr (.inl ⟨3, by decide, by decide, rfl, trivial⟩), by simp [intOf]⟩
      · go_wp2_with fail
        exact ⟨.inr (.inl ⟨4, by decide, by decide, rfl, trivial⟩), by simp [intOf]⟩
      · go_wp2_with fail
        exact ⟨.inr (.inl ⟨5, by decide, by decide, rfl, trivial⟩), by simp [intOf]⟩
      · go_wp2_with fail
        exact ⟨.inr (.inl ⟨6, by decide, by decide, rfl, trivial⟩), by simp [intOf]⟩
      · go_wp2_with fail
        exact ⟨.inr (.inl ⟨7, by decide, by decide, rfl, trivial⟩), by simp [intOf]⟩
      · go_wp2_with fail
        exact ⟨.inr (.inr (by first | exact ⟨rfl, rfl⟩ | exact ⟨rfl, trivial⟩ | exact trivial)), by simp [intOf]⟩
    · go_wp2_with fail
      go_ret
      refine ⟨some ⟨w.heap.size, 0, none⟩, 8, rfl, ⟨rfl, .inr ⟨w.heap.size, 8, #[.int .u8 128, .int .u8 0, .int .u8 0, .int .u8 0, .int .u8 0, .int .u8 0, .int .u8 0, .int .u8 5], rfl, Nat.le_refl _, heap_alloc_new w _, by decide, by simp [maxLen], rfl, ?_⟩⟩, (Below.refl _ _).alloc (Nat.le_refl _) _⟩
      first | rfl | (intro j hj; rfl) | simp [bval]
theorem ordI5 (w : World) : Calls Tryd.prog 62 #[.int .i64 5] w (RetBs [128, 0, 0, 0, 0, 0, 0, 5] w) := by
  go_enter Tryd.func62, Tryd.ntmps62
  go_wp2_with fail
  refine (ordU5 w).mono ?_
  rintro en w2 ⟨A, c, rfl, o, b⟩
  go_wp2_with fail
  go_ret
  exact ⟨A, c, rfl, o, b⟩
end Go.Proofs.YtfededjcadmpbaaDoor
