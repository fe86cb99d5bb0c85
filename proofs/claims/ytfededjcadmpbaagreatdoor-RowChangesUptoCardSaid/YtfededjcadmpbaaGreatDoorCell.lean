/- What an interface value holds: cell.Cell, Kind, TextOf, BytesOf. -/
import Derived.Test.YtfededjcadmpbaaGreatDoorBClone
import Derived.Test.YtfededjcadmpbaaGreatDoorBlkS
namespace Go.Proofs.YtfededjcadmpbaaGreatDoor
open Go.RowKit

/-- a value of a column (other: an int, which is none) -/
inductive LVal where
  | null
  | bool (b : Bool)
  | int (n : Int)
  | text (s : ByteArray)
  | bytes (l : List UInt8)
  | other (n : Int)
def LVal.kind : LVal → Int
  | .null => 0 | .bool _ => 1 | .int _ => 2 | .text _ => 3 | .bytes _ => 4 | .other _ => 0
def LVal.b : LVal → Bool
  | .bool b => b | _ => false
def LVal.n : LVal → Int
  | .int n => n | _ => 0
def LVal.t : LVal → ByteArray
  | .text s => s | _ => ⟨#[]⟩
def LVal.l : LVal → List UInt8
  | .bytes l => l | _ => []
def LVal.err : LVal → Int
  | .other _ => 10 | _ => 0
/-- an interface value reads as a column's value -/
def AnyV (w : World) (S : Nat → Prop) (v : Value) : LVal → Prop
  | .null => v = .nilIface
  | .bool b => v = .iface 4 (.bool b)
  | .int n => v = .iface 2 (.int .i64 n)
  | .text s => v = .iface 9 (.string s) ∧ s.size ≤ 140737488351232
  | .bytes l => ∃ D c, v = .iface 46 (.slice D l.length c) ∧ Bs w D l ∧ At S D l.length ∧ l.length ≤ c ∧ c ≤ 9223372036854775807
  | .other n => v = .iface 3 (.int .i64 n)

theorem Tryz.size_Cell : (Tryz.prog.info? 48).map (·.size) = some 5 := by kernel_rfl
/-- a cell and an error, written out -/
def RetCell (x : LVal) (w : World) (en : Ending) (w' : World) : Prop :=
  ∃ D c, en = .returned (.tuple #[.agg #[.int .i64 x.kind, .bool x.b, .int .i64 x.n, .string x.t, .slice D x.l.length c], .int .i64 x.err]) ∧ Bs w' D x.l ∧ At (fun b => w.heap.size ≤ b) D x.l.length ∧ Below w.heap.size w w'

theorem Tryz.taBB (v : Value) (w : World) : (Instr.typeAssert (.iface 4 v) 20 4 true).run Tryz.prog w = .ok (.tuple #[v, .bool true]) w := by kernel_rfl
theorem Tryz.taIB (v : Value) (w : World) : (Instr.typeAssert (.iface 2 v) 20 4 true).run Tryz.prog w = .ok (.tuple #[.bool false, .bool false]) w := by kernel_rfl
theorem Tryz.taSB (v : Value) (w : World) : (Instr.typeAssert (.iface 9 v) 20 4 true).run Tryz.prog w = .ok (.tuple #[.bool false, .bool false]) w := by kernel_rfl
theorem Tryz.taLB (v : Value) (w : World) : (Instr.typeAssert (.iface 46 v) 20 4 true).run Tryz.prog w = .ok (.tuple #[.bool false, .bool false]) w := by kernel_rfl
theorem Tryz.taOB (v : Value) (w : World) : (Instr.typeAssert (.iface 3 v) 20 4 true).run Tryz.prog w = .ok (.tuple #[.bool false, .bool false]) w := by kernel_rfl
theorem Tryz.taBI (v : Value) (w : World) : (Instr.typeAssert (.iface 4 v) 20 2 true).run Tryz.prog w = .ok (.tuple #[.int .i64 0, .bool false]) w := by kernel_rfl
theorem Tryz.taII (v : Value) (w : World) : (Instr.typeAssert (.iface 2 v) 20 2 true).run Tryz.prog w = .ok (.tuple #[v, .bool true]) w := by kernel_rfl
theorem Tryz.taSI (v : Value) (w : World) : (Instr.typeAssert (.iface 9 v) 20 2 true).run Tryz.prog w = .ok (.tuple #[.int .i64 0, .bool false]) w := by kernel_rfl
theorem Tryz.taLI (v : Value) (w : World) : (Instr.typeAssert (.iface 46 v) 20 2 true).run Tryz.prog w = .ok (.tuple #[.int .i64 0, .bool false]) w := by kernel_rfl
theorem Tryz.taOI (v : Value) (w : World) : (Instr.typeAssert (.iface 3 v) 20 2 true).run Tryz.prog w = .ok (.tuple #[.int .i64 0, .bool false]) w := by kernel_rfl
theorem Tryz.taBS (v : Value) (w : World) : (Instr.typeAssert (.iface 4 v) 20 9 true).run Tryz.prog w = .ok (.tuple #[.string ⟨#[]⟩, .bool false]) w := by kernel_rfl
theorem Tryz.taIS (v : Value) (w : World) : (Instr.typeAssert (.iface 2 v) 20 9 true).run Tryz.prog w = .ok (.tuple #[.string ⟨#[]⟩, .bool false]) w := by kernel_rfl
theorem Tryz.taSS (v : Value) (w : World) : (Instr.typeAssert (.iface 9 v) 20 9 true).run Tryz.prog w = .ok (.tuple #[v, .bool true]) w := by kernel_rfl
theorem Tryz.taLS (v : Value) (w : World) : (Instr.typeAssert (.iface 46 v) 20 9 true).run Tryz.prog w = .ok (.tuple #[.string ⟨#[]⟩, .bool false]) w := by kernel_rfl
theorem Tryz.taOS (v : Value) (w : World) : (Instr.typeAssert (.iface 3 v) 20 9 true).run Tryz.prog w = .ok (.tuple #[.string ⟨#[]⟩, .bool false]) w := by kernel_rfl
theorem Tryz.taBL (v : Value) (w : World) : (Instr.typeAssert (.iface 4 v) 20 46 true).run Tryz.prog w = .ok (.tuple #[.slice none 0 0, .bool false]) w := by kernel_rfl
theorem Tryz.taIL (v : Value) (w : World) : (Instr.typeAssert (.iface 2 v) 20 46 true).run Tryz.prog w = .ok (.tuple #[.slice none 0 0, .bool false]) w := by kernel_rfl
theorem Tryz.taSL (v : Value) (w : World) : (Instr.typeAssert (.iface 9 v) 20 46 true).run Tryz.prog w = .ok (.tuple #[.slice none 0 0, .bool false]) w := by kernel_rfl
theorem Tryz.taLL (v : Value) (w : World) : (Instr.typeAssert (.iface 46 v) 20 46 true).run Tryz.prog w = .ok (.tuple #[v, .bool true]) w := by kernel_rfl
theorem Tryz.taOL (v : Value) (w : World) : (Instr.typeAssert (.iface 3 v) 20 46 true).run Tryz.prog w = .ok (.tuple #[.slice none 0 0, .bool false]) w := by kernel_rfl
theorem Tryz.taNS (w : World) : (Instr.typeAssert .nilIface 20 9 true).run Tryz.prog w = .ok (.tuple #[.string ⟨#[]⟩, .bool false]) w := by kernel_rfl
theorem Tryz.taNL (w : World) : (Instr.typeAssert .nilIface 20 46 true).run Tryz.prog w = .ok (.tuple #[.slice none 0 0, .bool false]) w := by kernel_rfl

set_option maxRecDepth 100000 in
set_option maxHeartbeats 1000000 in
theorem cell_any (v : Value) (x : LVal) (w : World) (h : AnyV w Any v x) : Calls Tryz.prog 30 #[v] w (RetCell x w) := by
  have b0 : Below w.heap.size w ((w.alloc (.cells #[.int .i64 0, .bool false, .int .i64 0, .string ⟨#[]⟩, .slice none 0 0] 48)).alloc (.cells #[.int .i64 0, .bool false, .int .i64 0, .string ⟨#[]⟩, .slice none 0 0] 48)) := ((Below.refl _ _).alloc (Nat.le_refl _) _).alloc (by simp) _
  have k0 := (Blk.new w 48 #[.int .i64 0, .bool false, .int .i64 0, .string ⟨#[]⟩, .slice none 0 0]).alloc (.cells #[.int .i64 0, .bool false, .int .i64 0, .string ⟨#[]⟩, .slice none 0 0] 48)
  cases x with
  | null =>
    subst h
    go_enter Tryz.func30, Tryz.ntmps30
    go_wp2_with fail
    exact bodyPost_ret (results_cell2 rfl rfl rfl k0 Tryz.underlying48 rfl Tryz.size_Cell) rfl (by exact ⟨none, 0, rfl, Bs.nil_ _ _, fun ad e _ => (by cases e), b0⟩)
  | bool b =>
    subst h
    have b1 : Below w.heap.size w ((w.alloc (.cells #[.int .i64 1, .bool b, .int .i64 0, .string ⟨#[]⟩, .slice none 0 0] 48)).alloc (.cells #[.int .i64 0, .bool false, .int .i64 0, .string ⟨#[]⟩, .slice none 0 0] 48)) := ((Below.refl _ _).alloc (Nat.le_refl _) _).alloc (by simp) _
    have k1 := (Blk.new w 48 #[.int .i64 1, .bool b, .int .i64 0, .string ⟨#[]⟩, .slice none 0 0]).alloc (.cells #[.int .i64 0, .bool false, .int .i64 0, .string ⟨#[]⟩, .slice none 0 0] 48)
    have aB := Tryz.taBB
    go_enter Tryz.func30, Tryz.ntmps30
    go_wp2_with fail
    exact bodyPost_ret (results_cell2 rfl rfl rfl k1 Tryz.underlying48 rfl Tryz.size_Cell) rfl (by exact ⟨none, 0, rfl, Bs.nil_ _ _, fun ad e _ => (by cases e), b1⟩)
  | int n =>
    subst h
    have b1 : Below w.heap.size w ((w.alloc (.cells #[.int .i64 2, .bool false, .int .i64 n, .string ⟨#[]⟩, .slice none 0 0] 48)).alloc (.cells #[.int .i64 0, .bool false, .int .i64 0, .string ⟨#[]⟩, .slice none 0 0] 48)) := ((Below.refl _ _).alloc (Nat.le_refl _) _).alloc (by simp) _
    have k1 := (Blk.new w 48 #[.int .i64 2, .bool false, .int .i64 n, .string ⟨#[]⟩, .slice none 0 0]).alloc (.cells #[.int .i64 0, .bool false, .int .i64 0, .string ⟨#[]⟩, .slice none 0 0] 48)
    have aB := Tryz.taIB
    have aI := Tryz.taII
    go_enter Tryz.func30, Tryz.ntmps30
    go_wp2_with fail
    exact bodyPost_ret (results_cell2 rfl rfl rfl k1 Tryz.underlying48 rfl Tryz.size_Cell) rfl (by exact ⟨none, 0, rfl, Bs.nil_ _ _, fun ad e _ => (by cases e), b1⟩)
  | text s =>
    obtain ⟨rfl, _⟩ := h
    have b1 : Below w.heap.size w ((w.alloc (.cells #[.int .i64 3, .bool false, .int .i64 0, .string s, .slice none 0 0] 48)).alloc (.cells #[.int .i64 0, .bool false, .int .i64 0, .string ⟨#[]⟩, .slice none 0 0] 48)) := ((Below.refl _ _).alloc (Nat.le_refl _) _).alloc (by simp) _
    have k1 := (Blk.new w 48 #[.int .i64 3, .bool false, .int .i64 0, .string s, .slice none 0 0]).alloc (.cells #[.int .i64 0, .bool false, .int .i64 0, .string ⟨#[]⟩, .slice none 0 0] 48)
    have aB := Tryz.taSB
    have aI := Tryz.taSI
    have aS := Tryz.taSS
    go_enter Tryz.func30, Tryz.ntmps30
    go_wp2_with fail
    exact bodyPost_ret (results_cell2 rfl rfl rfl k1 Tryz.underlying48 rfl Tryz.size_Cell) rfl (by exact ⟨none, 0, rfl, Bs.nil_ _ _, fun ad e _ => (by cases e), b1⟩)
  | bytes l =>
    obtain ⟨D, c, rfl, hb, _, _⟩ := h
    have aB := Tryz.taLB
    have aI := Tryz.taLI
    have aS := Tryz.taLS
    have aL := Tryz.taLL
    go_enter Tryz.func30, Tryz.ntmps30
    go_wp2_with fail
    generalize ((w.alloc (.cells #[.int .i64 0, .bool false, .int .i64 0, .string ⟨#[]⟩, .slice none 0 0] 48)).alloc (.cells #[.int .i64 0, .bool false, .int .i64 0, .string ⟨#[]⟩, .slice none 0 0] 48)) = W0 at *
    refine (bclone_any D l c W0 (hb.below b0)).mono ?_
    rintro en w2 ⟨D2, c2, rfl, o2, b2⟩
    have k2 := k0.below b2 k0.lt
    have b02 := b0.trans (b2.mono b0.size)
    go_wp2_with ((with_reducible refine wpList_store_blk rfl 48 (.tmp 2) (.tmp 49) rfl w.heap.size 48 _ #[.int .i64 4, .bool false, .int .i64 0, .string ⟨#[]⟩, .slice D2 l.length c2] ?_ ?_ k2 Tryz.size_Cell ?_ ?_ ?_ ?_); rfl; rfl; rfl; rfl; (simp [Value.oneCell']); intro w3 k3 g3 z3)
    have z0 := b0.size
    have l2 := k2.lt
    have hat := own_at o2
    have hbs : Bs w3 D2 l := (Bs.of_own o2 hb.le).sameS (S := fun b => b ≠ w.heap.size) (fun ad e hn => by have := (hat ad e hn).1; have := k0.lt; omega) (.of_grown g3 (fun b hb e => hb (Option.some.inj e).symm))
    exact bodyPost_ret (results_cell2 rfl rfl rfl k3 Tryz.underlying48 rfl Tryz.size_Cell) rfl (by exact ⟨D2, c2, rfl, hbs, fun ad e hn => (by have := (hat ad e hn).1; omega), b02.grown g3 b02.size (fun j hj => by have := Option.some.inj hj; omega)⟩)
  | other n =>
    subst h
    have aB := Tryz.taOB
    have aI := Tryz.taOI
    have aS := Tryz.taOS
    have aL := Tryz.taOL
    go_enter Tryz.func30, Tryz.ntmps30
    go_wp2_with fail
    exact bodyPost_ret (results_cell2 rfl rfl rfl k0 Tryz.underlying48 rfl Tryz.size_Cell) rfl (by exact ⟨none, 0, rfl, Bs.nil_ _ _, fun ad e _ => (by cases e), b0⟩)

/- cell.Kind -/
set_option maxRecDepth 100000 in
theorem kind_any (v : Value) (x : LVal) (w : World) (h : AnyV w Any v x) : Calls Tryz.prog 73 #[v] w fun en w' => en = .returned (.tuple #[.int .i64 x.kind, .int .i64 x.err]) ∧ Below w.heap.size w w' := by
  go_enter Tryz.func73, Tryz.ntmps73
  go_wp2_with fail
  refine (cell_any v x w h).mono ?_
  rintro en w1 ⟨D, c, rfl, _, _, b1⟩
  go_wp2_with fail
  go_ret2
  exact ⟨rfl, b1.alloc b1.size _⟩
/-- cell.TextOf -/
def LVal.isT : LVal → Bool
  | .text _ => true | _ => false
def LVal.isL : LVal → Bool
  | .bytes _ => true | _ => false
set_option maxRecDepth 100000 in
theorem textOf_any (v : Value) (x : LVal) (w : World) (h : AnyV w Any v x) : Calls Tryz.prog 74 #[v] w fun en w' => en = .returned (.tuple #[.string x.t, .bool x.isT]) ∧ w' = w := by
  cases x with
  | text s =>
    obtain ⟨rfl, _⟩ := h
    have a0 := Tryz.taSS
    go_enter Tryz.func74, Tryz.ntmps74
    go_wp2_with fail
    go_ret2
    exact ⟨rfl, rfl⟩
  | bytes l =>
    obtain ⟨D, c, rfl, hb, _, _⟩ := h
    have a0 := Tryz.taLS
    go_enter Tryz.func74, Tryz.ntmps74
    go_wp2_with fail
    go_ret2
    exact ⟨rfl, rfl⟩
  | _ =>
    subst h
    have a0 := Tryz.taNS
    have a1 := Tryz.taBS
    have a2 := Tryz.taIS
    have a3 := Tryz.taOS
    go_enter Tryz.func74, Tryz.ntmps74
    go_wp2_with fail
    go_ret2
    exact ⟨rfl, rfl⟩
/- cell.BytesOf -/
set_option maxRecDepth 100000 in
theorem bytesOf_any (v : Value) (x : LVal) (w : World) (h : AnyV w Any v x) : Calls Tryz.prog 76 #[v] w fun en w' => ∃ D c, en = .returned (.tuple #[.slice D x.l.length c, .bool x.isL]) ∧ Below w.heap.size w w' := by
  cases x with
  | text s =>
    obtain ⟨rfl, _⟩ := h
    have a0 := Tryz.taSL
    go_enter Tryz.func76, Tryz.ntmps76
    go_wp2_with fail
    refine (bclone_any none [] 0 w (Bs.nil_ _ _)).mono ?_
    rintro en w2 ⟨D2, c2, rfl, o2, b2⟩
    go_wp2_with fail
    go_ret2
    exact ⟨D2, c2, rfl, b2⟩
  | bytes l =>
    obtain ⟨D, c, rfl, hb, _, _⟩ := h
    have a0 := Tryz.taLL
    go_enter Tryz.func76, Tryz.ntmps76
    go_wp2_with fail
    refine (bclone_any D l c w hb).mono ?_
    rintro en w2 ⟨D2, c2, rfl, o2, b2⟩
    go_wp2_with fail
    go_ret2
    exact ⟨D2, c2, rfl, b2⟩
  | _ =>
    subst h
    have a0 := Tryz.taNL
    have a1 := Tryz.taBL
    have a2 := Tryz.taIL
    have a3 := Tryz.taOL
    go_enter Tryz.func76, Tryz.ntmps76
    go_wp2_with fail
    refine (bclone_any none [] 0 w (Bs.nil_ _ _)).mono ?_
    rintro en w2 ⟨D2, c2, rfl, o2, b2⟩
    go_wp2_with fail
    go_ret2
    exact ⟨D2, c2, rfl, b2⟩
end Go.Proofs.YtfededjcadmpbaaGreatDoor
