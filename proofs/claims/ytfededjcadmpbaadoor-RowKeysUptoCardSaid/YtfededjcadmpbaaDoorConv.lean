/- Texts and bytes: the two conversions. -/
import Derived.Test.YtfededjcadmpbaaDoorFold
import Derived.Laws.IdiomStrings
import Derived.Laws.BytesArg
import Derived.Lib.ConvBytes
namespace Go.Proofs.YtfededjcadmpbaaDoor
open Go.RowKit

theorem conv_any (A : Option Addr) (l : List UInt8) (c : Nat) (w : World) (hb : Bs w A l) : (convert 31 9 (.slice A l.length c)).run Tryd.prog w = .ok (.string ⟨l.toArray⟩) w := by
  cases A with
  | none =>
    have h0 : l.length = 0 := by
      apply Classical.byContradiction; intro h
      obtain ⟨ad, e, _⟩ := hb.at_ (show 0 < l.length by omega)
      cases e
    obtain rfl : l = [] := List.length_eq_zero_iff.1 h0
    exact run_convert_bytes_nil w 31 5 Tryd.underlying31 Tryd.underlying5 _ _ 9 Tryd.underlying9
  | some ad =>
    refine run_convert_bytes_back w 31 9 5 ad c l Tryd.underlying31 Tryd.underlying5 Tryd.underlying9 fun j hj => ?_
    obtain ⟨ad2, e, _, hc⟩ := hb.at_ hj
    obtain rfl := Option.some.inj e
    exact hc

/-- a text's bytes -/
def strL (s : ByteArray) : List UInt8 := s.data.toList
theorem strL_len (s : ByteArray) : (strL s).length = s.size := by unfold strL; rw [Array.length_toList]; rfl
theorem strL_mk (l : List UInt8) : strL ⟨l.toArray⟩ = l := by simp [strL]
theorem below_bytes (w : World) (e : TypeId) (s : ByteArray) : Below w.heap.size w (Lib.bytesWorld w e s) :=
  ⟨rfl, rfl, rfl, by rw [Lib.bytesWorld_size]; omega, fun j hj => Lib.bytesWorld_at_old w e s j hj⟩
theorem str_conv (s : ByteArray) (hs : s.size ≤ 140737488355328) (w : World) :
    ∃ D c W, (convert 9 31 (.string s)).run Tryd.prog w = .ok (.slice D (strL s).length c) W ∧ Bs W D (strL s) ∧ Below w.heap.size w W := by
  refine ⟨_, _, _, by rw [strL_len]; exact Lib.run_convert_string_bytes w 9 31 5 s Tryd.underlying9 Tryd.underlying31 Tryd.underlying5, ⟨⟨by rw [List.length_map, Nat.mul_one], fun _ => ⟨_, rfl, by rw [Lib.bytesWorld_size]; exact Nat.lt_succ_self _, fun j u hu => ?_⟩⟩, by rw [strL_len]; exact hs⟩, below_bytes _ _ _⟩
  have hj : j < s.size := by
    have := (List.getElem?_eq_some_iff.1 hu).1
    rw [List.length_map, strL_len] at this
    exact this
  rw [add_row, Lib.bytesWorld_cell w 5 s j hj, ← hu, List.getElem?_map]
  have h2 : j < (strL s).length := by rw [strL_len]; exact hj
  rw [List.getElem?_eq_getElem h2]
  have h3 : s.data.toList.getD j 0 = (strL s)[j] := by
    show (strL s).getD j 0 = _
    rw [List.getD_eq_getElem?_getD, List.getElem?_eq_getElem h2]; rfl
  rw [h3]; rfl
end Go.Proofs.YtfededjcadmpbaaDoor
