/- The beginning of a table's rows' keys: the program's row.Prefix and the reference's prefix. -/
import Derived.Test.YtemidaamnldjmaaMem
namespace Go.Proofs.Ytemidaamnldjmaa
open Go.RowKit

theorem mod_u8 (id : Int) : (((UInt8.ofInt id).toNat : Nat) : Int) = id % 256 := by
  unfold UInt8.ofInt
  rw [UInt8.toNat_ofNat']
  omega

/-- a fresh slice of two bytes is answered -/
def RetPfx (id : Int) (w : World) (e : Ending) (w' : World) : Prop :=
  ∃ A, e = .returned (.slice A 2 2) ∧ w'.ownsRow w.heap.size 5 1 (.slice A 2 2) 2 (([114, UInt8.ofInt id] : List UInt8).map bval) ∧ Below w.heap.size w w'

theorem prefix_any (id keys : Int) (tn : ByteArray) (A B : Option Addr) (n cc m ci : Nat) (w : World) :
    Calls Try.prog 33 #[.agg #[.int .i64 id, .string tn, .slice A n cc, .int .i64 keys, .slice B m ci]] w (RetPfx id w) := by
  go_enter Try.func33, Try.ntmps33
  go_wp2_with fail
  go_ret
  have hv : ([114, UInt8.ofInt id] : List UInt8).map bval = [.int .u8 114, .int .u8 (id % 256)] := by
    simp only [List.map_cons, List.map_nil, bval, mod_u8]; rfl
  refine ⟨some ⟨w.heap.size + 1, 0, none⟩, rfl, ?_, ((Below.refl _ _).alloc (Nat.le_refl _) _).alloc (by simp) _⟩
  rw [hv]
  have hb := Blk.new (w.alloc (.cells #[.int .i64 id, .string tn, .slice A n cc, .int .i64 keys, .slice B m ci] 25)) 5 #[.int .u8 114, .int .u8 (id % 256)]
  have := own_of_blk (base := w.heap.size) (xs := [.int .u8 114, .int .u8 (id % 256)]) hb (by simp) (by simp only [maxLen, List.length_cons, List.length_nil]; omega)
  simpa using this

theorem rprefix_any (id keys : Int) (tn : ByteArray) (A B : Option Addr) (n cc m ci : Nat) (w : World) :
    Calls Try.prog 24 #[.agg #[.int .i64 id, .string tn, .slice A n cc, .int .i64 keys, .slice B m ci]] w (RetPfx id w) := by
  go_enter Try.func24, Try.ntmps24
  go_wp2_with fail
  go_ret
  have hv : ([114, UInt8.ofInt id] : List UInt8).map bval = [.int .u8 114, .int .u8 (id % 256)] := by
    simp only [List.map_cons, List.map_nil, bval, mod_u8]; rfl
  refine ⟨some ⟨w.heap.size + 1, 0, none⟩, rfl, ?_, ((Below.refl _ _).alloc (Nat.le_refl _) _).alloc (by simp) _⟩
  rw [hv]
  have hb := Blk.new (w.alloc (.cells #[.int .i64 id, .string tn, .slice A n cc, .int .i64 keys, .slice B m ci] 25)) 5 #[.int .u8 114, .int .u8 (id % 256)]
  have := own_of_blk (base := w.heap.size) (xs := [.int .u8 114, .int .u8 (id % 256)]) hb (by simp) (by simp only [maxLen, List.length_cons, List.length_nil]; omega)
  simpa using this

end Go.Proofs.Ytemidaamnldjmaa
