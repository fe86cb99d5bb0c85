/- cell.truth. -/
import Derived.Test.YtemidaamnldjmaaOrdA
namespace Go.Proofs.Ytemidaamnldjmaa
open Go.RowKit

theorem truth_any (b : Bool) (w : World) : Calls Try.prog 53 #[.bool b] w fun e w' => e = .returned (.int .i64 (if b then 1 else 0)) ∧ w' = w := by
  cases b <;>
  · go_enter Try.func53, Try.ntmps53
    go_wp2_with fail
    go_ret
    exact ⟨rfl, rfl⟩
/-- a key and no error -/
def RetKey (l : List UInt8) (w : World) (en : Ending) (w' : World) : Prop :=
  ∃ B d, en = .returned (.tuple #[.slice B l.length d, .int .i64 0]) ∧ OwnB w.heap.size w' B l d ∧ Below w.heap.size w w'

end Go.Proofs.Ytemidaamnldjmaa
