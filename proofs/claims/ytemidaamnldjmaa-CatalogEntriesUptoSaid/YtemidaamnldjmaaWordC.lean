/- Texts as bytes; words for values. -/
import Derived.Test.YtemidaamnldjmaaEqual
import Derived.Test.YtemidaamnldjmaaAnyC
import Derived.Test.YtemidaamnldjmaaOrdA
import Derived.Laws.IdiomStrings
import Derived.Laws.BytesArg
import Derived.Lib.ConvBytes
namespace Go.Proofs.Ytemidaamnldjmaa
open Go.RowKit

/-- a text's bytes -/
def strL (s : ByteArray) : List UInt8 := s.data.toList
theorem strL_len (s : ByteArray) : (strL s).length = s.size := by unfold strL; rw [Array.length_toList]; rfl
theorem strL_mk (l : List UInt8) : strL ⟨l.toArray⟩ = l := by simp [strL]
theorem below_bytes (w : World) (e : TypeId) (s : ByteArray) : Below w.heap.size w (Lib.bytesWorld w e s) :=
  ⟨rfl, rfl, rfl, by rw [Lib.bytesWorld_size]; omega, fun j hj => Lib.bytesWorld_at_old w e s j hj⟩
theorem str_conv (s : ByteArray) (hs : s.size ≤ 140737488355328) (w : World) :
    ∃ D c W, (convert 9 29 (.string s)).run Try.prog w = .ok (.slice D (strL s).length c) W ∧ Bs W D (strL s) ∧ Below w.heap.size w W := by
  refine ⟨_, _, _, by rw [strL_len]; exact Lib.run_convert_string_bytes w 9 29 5 s Try.underlying9 Try.underlying29 Try.underlying5, ⟨⟨by rw [List.length_map, Nat.mul_one], fun _ => ⟨_, rfl, by rw [Lib.bytesWorld_size]; exact Nat.lt_succ_self _, fun j u hu => ?_⟩⟩, by rw [strL_len]; exact hs⟩, below_bytes _ _ _⟩
  have hj : j < s.size := by
    have := (List.getElem?_eq_some_iff.1 hu).1
    rw [List.length_map, strL_len] at this
    exact this
  rw [add_row, Lib.bytesWorld_cell w 5 s j hj, ← hu, List.getElem?_map]
  have h2 : j < (strL s).length := by rw [strL_len]; exact hj
  rw [List.getElem?_eq_getElem h2]
  have h3 : s.data.toList.getD j 0 = (strL s)[j] := by
    show (strL s).getD j 0 = _
    rw [List.getD_eq_getElem?_getD, List.getElem?_eq_getElem h2]; rfl
  rw [h3]; rfl
end Go.Proofs.Ytemidaamnldjmaa

namespace Go.Proofs.Ytemidaamnldjmaa
open Go.RowKit
/-- an int's bytes in a key -/
def okey (n : Int) : List UInt8 := beN 8 (n + 9223372036854775808).toNat
/-- an int in form -/
def LVal.wfv (x : LVal) : Prop := -9223372036854775808 ≤ x.n ∧ x.n < 9223372036854775808
theorem okey_len (n : Int) : (okey n).length = 8 := beN_len _ _
/-- no great text and no great bytes -/
def LVal.sm (x : LVal) : Prop := x.t.size ≤ 1048576 ∧ x.l.length ≤ 1048576
end Go.Proofs.Ytemidaamnldjmaa

namespace Go.Proofs.Ytemidaamnldjmaa
open Go.RowKit
end Go.Proofs.Ytemidaamnldjmaa
