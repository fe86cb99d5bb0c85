/- What an interface value holds: cell.Cell. -/
import Derived.Test.YtemidaamnldjmaaBClone
import Derived.Test.YtemidaamnldjmaaBlkS
namespace Go.Proofs.Ytemidaamnldjmaa
open Go.RowKit

/-- a value of a column (other: an int, which is none) -/
inductive LVal where
  | null
  | bool (b : Bool)
  | int (n : Int)
  | text (s : ByteArray)
  | bytes (l : List UInt8)
  | other (n : Int)
def LVal.kind : LVal → Int
  | .null => 0 | .bool _ => 1 | .int _ => 2 | .text _ => 3 | .bytes _ => 4 | .other _ => 0
def LVal.b : LVal → Bool
  | .bool b => b | _ => false
def LVal.n : LVal → Int
  | .int n => n | _ => 0
def LVal.t : LVal → ByteArray
  | .text s => s | _ => ⟨#[]⟩
def LVal.l : LVal → List UInt8
  | .bytes l => l | _ => []
def LVal.err : LVal → Int
  | .other _ => 10 | _ => 0
/-- an interface value reads as a column's value -/
def AnyV (w : World) (S : Nat → Prop) (v : Value) : LVal → Prop
  | .null => v = .nilIface
  | .bool b => v = .iface 4 (.bool b)
  | .int n => v = .iface 2 (.int .i64 n)
  | .text s => v = .iface 9 (.string s) ∧ s.size ≤ 140737488351232
  | .bytes l => ∃ D c, v = .iface 29 (.slice D l.length c) ∧ Bs w D l ∧ At S D l.length ∧ l.length ≤ c ∧ c ≤ 9223372036854775807
  | .other n => v = .iface 3 (.int .i64 n)

theorem Try.size_Cell : (Try.prog.info? 95).map (·.size) = some 5 := by kernel_rfl
/-- a cell and an error, written out -/
def RetCell (x : LVal) (w : World) (en : Ending) (w' : World) : Prop :=
  ∃ D c, en = .returned (.tuple #[.agg #[.int .i64 x.kind, .bool x.b, .int .i64 x.n, .string x.t, .slice D x.l.length c], .int .i64 x.err]) ∧ Bs w' D x.l ∧ At (fun b => w.heap.size ≤ b) D x.l.length ∧ Below w.heap.size w w'

theorem Try.taBB (v : Value) (w : World) : (Instr.typeAssert (.iface 4 v) 20 4 true).run Try.prog w = .ok (.tuple #[v, .bool true]) w := by kernel_rfl
theorem Try.taIB (v : Value) (w : World) : (Instr.typeAssert (.iface 2 v) 20 4 true).run Try.prog w = .ok (.tuple #[.bool false, .bool false]) w := by kernel_rfl
theorem Try.taSB (v : Value) (w : World) : (Instr.typeAssert (.iface 9 v) 20 4 true).run Try.prog w = .ok (.tuple #[.bool false, .bool false]) w := by kernel_rfl
theorem Try.taLB (v : Value) (w : World) : (Instr.typeAssert (.iface 29 v) 20 4 true).run Try.prog w = .ok (.tuple #[.bool false, .bool false]) w := by kernel_rfl
theorem Try.taOB (v : Value) (w : World) : (Instr.typeAssert (.iface 3 v) 20 4 true).run Try.prog w = .ok (.tuple #[.bool false, .bool false]) w := by kernel_rfl
theorem Try.taBI (v : Value) (w : World) : (Instr.typeAssert (.iface 4 v) 20 2 true).run Try.prog w = .ok (.tuple #[.int .i64 0, .bool false]) w := by kernel_rfl
theorem Try.taII (v : Value) (w : World) : (Instr.typeAssert (.iface 2 v) 20 2 true).run Try.prog w = .ok (.tuple #[v, .bool true]) w := by kernel_rfl
theorem Try.taSI (v : Value) (w : World) : (Instr.typeAssert (.iface 9 v) 20 2 true).run Try.prog w = .ok (.tuple #[.int .i64 0, .bool false]) w := by kernel_rfl
theorem Try.taLI (v : Value) (w : World) : (Instr.typeAssert (.iface 29 v) 20 2 true).run Try.prog w = .ok (.tuple #[.int .i64 0, .bool false]) w := by kernel_rfl
theorem Try.taOI (v : Value) (w : World) : (Instr.typeAssert (.iface 3 v) 20 2 true).run Try.prog w = .ok (.tuple #[.int .i64 0, .bool false]) w := by kernel_rfl
theorem Try.taBS (v : Value) (w : World) : (Instr.typeAssert (.iface 4 v) 20 9 true).run Try.prog w = .ok (.tuple #[.string ⟨#[]⟩, .bool false]) w := by kernel_rfl
theorem Try.taIS (v : Value) (w : World) : (Instr.typeAssert (.iface 2 v) 20 9 true).run Try.prog w = .ok (.tuple #[.string ⟨#[]⟩, .bool false]) w := by kernel_rfl
theorem Try.taSS (v : Value) (w : World) : (Instr.typeAssert (.iface 9 v) 20 9 true).run Try.prog w = .ok (.tuple #[v, .bool true]) w := by kernel_rfl
theorem Try.taLS (v : Value) (w : World) : (Instr.typeAssert (.iface 29 v) 20 9 true).run Try.prog w = .ok (.tuple #[.string ⟨#[]⟩, .bool false]) w := by kernel_rfl
theorem Try.taOS (v : Value) (w : World) : (Instr.typeAssert (.iface 3 v) 20 9 true).run Try.prog w = .ok (.tuple #[.string ⟨#[]⟩, .bool false]) w := by kernel_rfl
theorem Try.taBL (v : Value) (w : World) : (Instr.typeAssert (.iface 4 v) 20 29 true).run Try.prog w = .ok (.tuple #[.slice none 0 0, .bool false]) w := by kernel_rfl
theorem Try.taIL (v : Value) (w : World) : (Instr.typeAssert (.iface 2 v) 20 29 true).run Try.prog w = .ok (.tuple #[.slice none 0 0, .bool false]) w := by kernel_rfl
theorem Try.taSL (v : Value) (w : World) : (Instr.typeAssert (.iface 9 v) 20 29 true).run Try.prog w = .ok (.tuple #[.slice none 0 0, .bool false]) w := by kernel_rfl
theorem Try.taLL (v : Value) (w : World) : (Instr.typeAssert (.iface 29 v) 20 29 true).run Try.prog w = .ok (.tuple #[v, .bool true]) w := by kernel_rfl
theorem Try.taOL (v : Value) (w : World) : (Instr.typeAssert (.iface 3 v) 20 29 true).run Try.prog w = .ok (.tuple #[.slice none 0 0, .bool false]) w := by kernel_rfl
theorem Try.taNS (w : World) : (Instr.typeAssert .nilIface 20 9 true).run Try.prog w = .ok (.tuple #[.string ⟨#[]⟩, .bool false]) w := by kernel_rfl
theorem Try.taNL (w : World) : (Instr.typeAssert .nilIface 20 29 true).run Try.prog w = .ok (.tuple #[.slice none 0 0, .bool false]) w := by kernel_rfl

set_option maxRecDepth 100000 in
set_option maxHeartbeats 1000000 in
theorem cell_any (v : Value) (x : LVal) (w : World) (h : AnyV w Any v x) : Calls Try.prog 52 #[v] w (RetCell x w) := by
  have b0 : Below w.heap.size w ((w.alloc (.cells #[.int .i64 0, .bool false, .int .i64 0, .string ⟨#[]⟩, .slice none 0 0] 95)).alloc (.cells #[.int .i64 0, .bool false, .int .i64 0, .string ⟨#[]⟩, .slice none 0 0] 95)) := ((Below.refl _ _).alloc (Nat.le_refl _) _).alloc (by simp) _
  have k0 := (Blk.new w 95 #[.int .i64 0, .bool false, .int .i64 0, .string ⟨#[]⟩, .slice none 0 0]).alloc (.cells #[.int .i64 0, .bool false, .int .i64 0, .string ⟨#[]⟩, .slice none 0 0] 95)
  cases x with
  | null =>
    subst h
    go_enter Try.func52, Try.ntmps52
    go_wp2_with fail
    exact bodyPost_ret (results_cell2 rfl rfl rfl k0 Try.underlying95 rfl Try.size_Cell) rfl (by exact ⟨none, 0, rfl, Bs.nil_ _ _, fun ad e _ => (by cases e), b0⟩)
  | bool b =>
    subst h
    have b1 : Below w.heap.size w ((w.alloc (.cells #[.int .i64 1, .bool b, .int .i64 0, .string ⟨#[]⟩, .slice none 0 0] 95)).alloc (.cells #[.int .i64 0, .bool false, .int .i64 0, .string ⟨#[]⟩, .slice none 0 0] 95)) := ((Below.refl _ _).alloc (Nat.le_refl _) _).alloc (by simp) _
    have k1 := (Blk.new w 95 #[.int .i64 1, .bool b, .int .i64 0, .string ⟨#[]⟩, .slice none 0 0]).alloc (.cells #[.int .i64 0, .bool false, .int .i64 0, .string ⟨#[]⟩, .slice none 0 0] 95)
    have aB := Try.taBB
    go_enter Try.func52, Try.ntmps52
    go_wp2_with fail
    exact bodyPost_ret (results_cell2 rfl rfl rfl k1 Try.underlying95 rfl Try.size_Cell) rfl (by exact ⟨none, 0, rfl, Bs.nil_ _ _, fun ad e _ => (by cases e), b1⟩)
  | int n =>
    subst h
    have b1 : Below w.heap.size w ((w.alloc (.cells #[.int .i64 2, .bool false, .int .i64 n, .string ⟨#[]⟩, .slice none 0 0] 95)).alloc (.cells #[.int .i64 0, .bool false, .int .i64 0, .string ⟨#[]⟩, .slice none 0 0] 95)) := ((Below.refl _ _).alloc (Nat.le_refl _) _).alloc (by simp) _
    have k1 := (Blk.new w 95 #[.int .i64 2, .bool false, .int .i64 n, .string ⟨#[]⟩, .slice none 0 0]).alloc (.cells #[.int .i64 0, .bool false, .int .i64 0, .string ⟨#[]⟩, .slice none 0 0] 95)
    have aB := Try.taIB
    have aI := Try.taII
    go_enter Try.func52, Try.ntmps52
    go_wp2_with fail
    exact bodyPost_ret (results_cell2 rfl rfl rfl k1 Try.underlying95 rfl Try.size_Cell) rfl (by exact ⟨none, 0, rfl, Bs.nil_ _ _, fun ad e _ => (by cases e), b1⟩)
  | text s =>
    obtain ⟨rfl, _⟩ := h
    have b1 : Below w.heap.size w ((w.alloc (.cells #[.int .i64 3, .bool false, .int .i64 0, .string s, .slice none 0 0] 95)).alloc (.cells #[.int .i64 0, .bool false, .int .i64 0, .string ⟨#[]⟩, .slice none 0 0] 95)) := ((Below.refl _ _).alloc (Nat.le_refl _) _).alloc (by simp) _
    have k1 := (Blk.new w 95 #[.int .i64 3, .bool false, .int .i64 0, .string s, .slice none 0 0]).alloc (.cells #[.int .i64 0, .bool false, .int .i64 0, .string ⟨#[]⟩, .slice none 0 0] 95)
    have aB := Try.taSB
    have aI := Try.taSI
    have aS := Try.taSS
    go_enter Try.func52, Try.ntmps52
    go_wp2_with fail
    exact bodyPost_ret (results_cell2 rfl rfl rfl k1 Try.underlying95 rfl Try.size_Cell) rfl (by exact ⟨none, 0, rfl, Bs.nil_ _ _, fun ad e _ => (by cases e), b1⟩)
  | bytes l =>
    obtain ⟨D, c, rfl, hb, _, _⟩ := h
    have aB := Try.taLB
    have aI := Try.taLI
    have aS := Try.taLS
    have aL := Try.taLL
    go_enter Try.func52, Try.ntmps52
    go_wp2_with fail
    generalize ((w.alloc (.cells #[.int .i64 0, .bool false, .int .i64 0, .string ⟨#[]⟩, .slice none 0 0] 95)).alloc (.cells #[.int .i64 0, .bool false, .int .i64 0, .string ⟨#[]⟩, .slice none 0 0] 95)) = W0 at *
    refine (bclone_any D l c W0 (hb.below b0)).mono ?_
    rintro en w2 ⟨D2, c2, rfl, o2, b2⟩
    have k2 := k0.below b2 k0.lt
    have b02 := b0.trans (b2.mono b0.size)
    go_wp2_with ((with_reducible refine wpList_store_blk rfl 95 (.tmp 2) (.tmp 49) rfl w.heap.size 95 _ #[.int .i64 4, .bool false, .int .i64 0, .string ⟨#[]⟩, .slice D2 l.length c2] ?_ ?_ k2 Try.size_Cell ?_ ?_ ?_ ?_); rfl; rfl; rfl; rfl; (simp [Value.oneCell']); intro w3 k3 g3 z3)
    have z0 := b0.size
    have l2 := k2.lt
    have hat := own_at o2
    have hbs : Bs w3 D2 l := (Bs.of_own o2 hb.le).sameS (S := fun b => b ≠ w.heap.size) (fun ad e hn => by have := (hat ad e hn).1; have := k0.lt; omega) (.of_grown g3 (fun b hb e => hb (Option.some.inj e).symm))
    exact bodyPost_ret (results_cell2 rfl rfl rfl k3 Try.underlying95 rfl Try.size_Cell) rfl (by exact ⟨D2, c2, rfl, hbs, fun ad e hn => (by have := (hat ad e hn).1; omega), b02.grown g3 b02.size (fun j hj => by have := Option.some.inj hj; omega)⟩)
  | other n =>
    subst h
    have aB := Try.taOB
    have aI := Try.taOI
    have aS := Try.taOS
    have aL := Try.taOL
    go_enter Try.func52, Try.ntmps52
    go_wp2_with fail
    exact bodyPost_ret (results_cell2 rfl rfl rfl k0 Try.underlying95 rfl Try.size_Cell) rfl (by exact ⟨none, 0, rfl, Bs.nil_ _ _, fun ad e _ => (by cases e), b0⟩)

/- cell.Kind -/
/-- cell.TextOf -/
def LVal.isT : LVal → Bool
  | .text _ => true | _ => false
def LVal.isL : LVal → Bool
  | .bytes _ => true | _ => false
end Go.Proofs.Ytemidaamnldjmaa
