/- A fresh row of eight bytes. -/
import Derived.Test.YtemidaamnldjmaaMem
import Derived.Test.YtemidaamnldjmaaOrdA
import Derived.Test.YtemidaamnldjmaaBlk
namespace Go.Proofs.Ytemidaamnldjmaa
open Go.RowKit

end Go.Proofs.Ytemidaamnldjmaa

namespace Go.Proofs.Ytemidaamnldjmaa
open Go.RowKit

theorem mk8 (W : World) : (Instr.makeSlice 29 (.int .i64 8) (.int .i64 8)).run Try.prog W = .ok (.slice (some ⟨W.heap.size, 0, none⟩) 8 8) (W.alloc (.cells #[.int .u8 0, .int .u8 0, .int .u8 0, .int .u8 0, .int .u8 0, .int .u8 0, .int .u8 0, .int .u8 0] 5)) := by kernel_rfl

end Go.Proofs.Ytemidaamnldjmaa

namespace Go.Proofs.Ytemidaamnldjmaa
open Go.RowKit

end Go.Proofs.Ytemidaamnldjmaa

namespace Go.Proofs.Ytemidaamnldjmaa
open Go.RowKit

end Go.Proofs.Ytemidaamnldjmaa

namespace Go.Proofs.Ytemidaamnldjmaa
open Go.RowKit

end Go.Proofs.Ytemidaamnldjmaa
