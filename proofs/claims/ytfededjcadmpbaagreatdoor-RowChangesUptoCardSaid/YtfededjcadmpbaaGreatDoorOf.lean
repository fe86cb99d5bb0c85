/- The value of a cell in form: cell.Of. -/
import Derived.Test.YtfededjcadmpbaaGreatDoorGood
namespace Go.Proofs.YtfededjcadmpbaaGreatDoor
open Go.RowKit

def RetOf (x : LVal) (w : World) (en : Ending) (w' : World) : Prop :=
  ∃ v, en = .returned (.tuple #[v, .int .i64 0]) ∧ AnyV w' (fun b => w.heap.size ≤ b) v x ∧ Below w.heap.size w w'

set_option maxRecDepth 100000 in
set_option maxHeartbeats 2000000 in
theorem of_any (x : LVal) (hx : x.err = 0) (ht : x.t.size ≤ 140737488351232) (D : Option Addr) (c : Nat) (w : World) (hD : Bs w D x.l) :
    Calls Tryz.prog 12 #[.agg #[.int .i64 x.kind, .bool x.b, .int .i64 x.n, .string x.t, .slice D x.l.length c]] w (RetOf x w) := by
  cases x with
  | other n => cases hx
  | bytes l =>
    obtain ⟨i0, hi0, hz0, hz1, hz2⟩ := info_parts Tryz.infoU8
    have hD : Bs w D l := hD
    have hl : l.length ≤ 140737488355328 := hD.le
    have b0 : Below w.heap.size w (w.alloc (.cells #[.int .i64 4, .bool false, .int .i64 0, .string ⟨#[]⟩, .slice D l.length c] 48)) := (Below.refl _ _).alloc (Nat.le_refl _) _
    have k0 := Blk.new w 48 #[.int .i64 4, .bool false, .int .i64 0, .string ⟨#[]⟩, .slice D l.length c]
    show Calls Tryz.prog 12 #[.agg #[.int .i64 4, .bool false, .int .i64 0, .string ⟨#[]⟩, .slice D l.length c]] w _
    have hm1 : 0 + l.length ≤ maxLen := by simp only [maxLen]; omega
    have b1 : Below w.heap.size w ((w.alloc (.cells #[.int .i64 4, .bool false, .int .i64 0, .string ⟨#[]⟩, .slice D l.length c] 48)).alloc (.cells #[] 5)) := b0.alloc (by simp) _
    have hown0 : ((w.alloc (.cells #[.int .i64 4, .bool false, .int .i64 0, .string ⟨#[]⟩, .slice D l.length c] 48)).alloc (.cells #[] 5)).ownsRow w.heap.size 5 1 (.slice (some ⟨w.heap.size + 1, 0, none⟩) 0 0) 0 [] := ⟨by simp, .inr ⟨w.heap.size + 1, 0, #[], rfl, by omega, heap_alloc2_new w _ _, by omega, by simp [maxLen], by simp, by simp⟩⟩
    have hr1 := (hD.below b1).1
    have hone := oneCell_bytes l
    have k1 := k0.alloc (.cells #[] 5)
    have hz3 : w.heap.size ≤ ((w.alloc (.cells #[.int .i64 4, .bool false, .int .i64 0, .string ⟨#[]⟩, .slice D l.length c] 48)).alloc (.cells #[] 5)).heap.size := b1.size
    go_enter Tryz.func12, Tryz.ntmps12
    go_wp2_with (at_builtin; (refine wpList_append_sh _ rfl (.tmp 28) (.tmp 30) _ rfl w.heap.size 5 i0 _ 1 1 Tryz.underlying46 hi0 hz0 hz1 hz2 rfl (by omega) _ 0 [] rfl hown0 _ D l.length c _ rfl hr1 hone hm1 (by omega) hz3 ?_); intro D1 c1 w5 o5 g5 t5; simp only [Nat.zero_add, List.nil_append] at o5)
    have kn : some w.heap.size ≠ (Value.slice (some ⟨w.heap.size + 1, 0, none⟩) 0 0).ownBlock := fun e => by have h : w.heap.size = w.heap.size + 1 := Option.some.inj e; omega
    have k5 := k1.grown g5 kn
    have b5 := b1.grown g5 b1.size (fun j hj => by have h : w.heap.size + 1 = j := Option.some.inj hj; omega)
    have hat := own_at o5
    have hcp := own_caps o5
    have hv : AnyV w5 (fun b => w.heap.size ≤ b) (.iface 46 (.slice D1 l.length c1)) (.bytes l) := ⟨D1, c1, rfl, Bs.of_own o5 hl, fun ad e hn => (hat ad e hn).1, hcp.1, hcp.2⟩
    refine (cell_any _ (.bytes l) w5 (hv.mono fun _ _ _ => trivial)).mono ?_
    rintro en w2 ⟨D2, c2, rfl, _, _, b2⟩
    simp only [LVal.kind, LVal.b, LVal.n, LVal.t, LVal.l, LVal.err]
    have k2 := k5.below b2 k5.lt
    have p1 : w2.cell? ⟨w.heap.size, 1, none⟩ = some (.bool false) := k2.cell 1
    have p2 : w2.cell? ⟨w.heap.size, 2, none⟩ = some (.int .i64 0) := k2.cell 2
    have p3 : w2.cell? ⟨w.heap.size, 3, none⟩ = some (.string ⟨#[]⟩) := k2.cell 3
    have p4 : w2.cell? ⟨w.heap.size, 4, none⟩ = some (.slice D l.length c) := k2.cell 4
    have l2 := k2.lt
    have b02 := b5.trans (b2.mono b5.size)
    go_wp2_with fail
    go_ret2
    exact ⟨_, rfl, (hv.below b2).below ((Below.refl _ _).alloc (Nat.le_refl _) _), b02.alloc b02.size _⟩
  | null =>
    have b0 : Below w.heap.size w (w.alloc (.cells #[.int .i64 0, .bool false, .int .i64 0, .string ⟨#[]⟩, .slice D 0 c] 48)) := (Below.refl _ _).alloc (Nat.le_refl _) _
    have k0 := Blk.new w 48 #[.int .i64 0, .bool false, .int .i64 0, .string ⟨#[]⟩, .slice D 0 c]
    show Calls Tryz.prog 12 #[.agg #[.int .i64 0, .bool false, .int .i64 0, .string ⟨#[]⟩, .slice D 0 c]] w _
    go_enter Tryz.func12, Tryz.ntmps12
    go_wp2_with fail
    generalize (w.alloc (.cells #[.int .i64 0, .bool false, .int .i64 0, .string ⟨#[]⟩, .slice D 0 c] 48)) = W0 at *
    refine (cell_any _ (LVal.null) W0 rfl).mono ?_
    rintro en w2 ⟨D2, c2, rfl, _, _, b2⟩
    simp only [LVal.kind, LVal.b, LVal.n, LVal.t, LVal.l, LVal.err, List.length_nil]
    have k2 := k0.below b2 k0.lt
    have p1 : w2.cell? ⟨w.heap.size, 1, none⟩ = some (.bool false) := k2.cell 1
    have p2 : w2.cell? ⟨w.heap.size, 2, none⟩ = some (.int .i64 0) := k2.cell 2
    have p3 : w2.cell? ⟨w.heap.size, 3, none⟩ = some (.string ⟨#[]⟩) := k2.cell 3
    have p4 : w2.cell? ⟨w.heap.size, 4, none⟩ = some (.slice D 0 c) := k2.cell 4
    have l2 := k2.lt
    have b02 := b0.trans (b2.mono b0.size)
    go_wp2_with fail
    go_ret2
    exact ⟨_, rfl, rfl, b02.alloc b02.size _⟩
  | bool b =>
    have b0 : Below w.heap.size w (w.alloc (.cells #[.int .i64 1, .bool b, .int .i64 0, .string ⟨#[]⟩, .slice D 0 c] 48)) := (Below.refl _ _).alloc (Nat.le_refl _) _
    have k0 := Blk.new w 48 #[.int .i64 1, .bool b, .int .i64 0, .string ⟨#[]⟩, .slice D 0 c]
    show Calls Tryz.prog 12 #[.agg #[.int .i64 1, .bool b, .int .i64 0, .string ⟨#[]⟩, .slice D 0 c]] w _
    go_enter Tryz.func12, Tryz.ntmps12
    go_wp2_with fail
    generalize (w.alloc (.cells #[.int .i64 1, .bool b, .int .i64 0, .string ⟨#[]⟩, .slice D 0 c] 48)) = W0 at *
    refine (cell_any _ (LVal.bool b) W0 rfl).mono ?_
    rintro en w2 ⟨D2, c2, rfl, _, _, b2⟩
    simp only [LVal.kind, LVal.b, LVal.n, LVal.t, LVal.l, LVal.err, List.length_nil]
    have k2 := k0.below b2 k0.lt
    have p1 : w2.cell? ⟨w.heap.size, 1, none⟩ = some (.bool b) := k2.cell 1
    have p2 : w2.cell? ⟨w.heap.size, 2, none⟩ = some (.int .i64 0) := k2.cell 2
    have p3 : w2.cell? ⟨w.heap.size, 3, none⟩ = some (.string ⟨#[]⟩) := k2.cell 3
    have p4 : w2.cell? ⟨w.heap.size, 4, none⟩ = some (.slice D 0 c) := k2.cell 4
    have l2 := k2.lt
    have b02 := b0.trans (b2.mono b0.size)
    go_wp2_with fail
    go_ret2
    exact ⟨_, rfl, rfl, b02.alloc b02.size _⟩
  | int n =>
    have b0 : Below w.heap.size w (w.alloc (.cells #[.int .i64 2, .bool false, .int .i64 n, .string ⟨#[]⟩, .slice D 0 c] 48)) := (Below.refl _ _).alloc (Nat.le_refl _) _
    have k0 := Blk.new w 48 #[.int .i64 2, .bool false, .int .i64 n, .string ⟨#[]⟩, .slice D 0 c]
    show Calls Tryz.prog 12 #[.agg #[.int .i64 2, .bool false, .int .i64 n, .string ⟨#[]⟩, .slice D 0 c]] w _
    go_enter Tryz.func12, Tryz.ntmps12
    go_wp2_with fail
    generalize (w.alloc (.cells #[.int .i64 2, .bool false, .int .i64 n, .string ⟨#[]⟩, .slice D 0 c] 48)) = W0 at *
    refine (cell_any _ (LVal.int n) W0 rfl).mono ?_
    rintro en w2 ⟨D2, c2, rfl, _, _, b2⟩
    simp only [LVal.kind, LVal.b, LVal.n, LVal.t, LVal.l, LVal.err, List.length_nil]
    have k2 := k0.below b2 k0.lt
    have p1 : w2.cell? ⟨w.heap.size, 1, none⟩ = some (.bool false) := k2.cell 1
    have p2 : w2.cell? ⟨w.heap.size, 2, none⟩ = some (.int .i64 n) := k2.cell 2
    have p3 : w2.cell? ⟨w.heap.size, 3, none⟩ = some (.string ⟨#[]⟩) := k2.cell 3
    have p4 : w2.cell? ⟨w.heap.size, 4, none⟩ = some (.slice D 0 c) := k2.cell 4
    have l2 := k2.lt
    have b02 := b0.trans (b2.mono b0.size)
    go_wp2_with fail
    go_ret2
    exact ⟨_, rfl, rfl, b02.alloc b02.size _⟩
  | text s =>
    have b0 : Below w.heap.size w (w.alloc (.cells #[.int .i64 3, .bool false, .int .i64 0, .string s, .slice D 0 c] 48)) := (Below.refl _ _).alloc (Nat.le_refl _) _
    have k0 := Blk.new w 48 #[.int .i64 3, .bool false, .int .i64 0, .string s, .slice D 0 c]
    show Calls Tryz.prog 12 #[.agg #[.int .i64 3, .bool false, .int .i64 0, .string s, .slice D 0 c]] w _
    go_enter Tryz.func12, Tryz.ntmps12
    go_wp2_with fail
    generalize (w.alloc (.cells #[.int .i64 3, .bool false, .int .i64 0, .string s, .slice D 0 c] 48)) = W0 at *
    refine (cell_any _ (LVal.text s) W0 ⟨rfl, ht⟩).mono ?_
    rintro en w2 ⟨D2, c2, rfl, _, _, b2⟩
    simp only [LVal.kind, LVal.b, LVal.n, LVal.t, LVal.l, LVal.err, List.length_nil]
    have k2 := k0.below b2 k0.lt
    have p1 : w2.cell? ⟨w.heap.size, 1, none⟩ = some (.bool false) := k2.cell 1
    have p2 : w2.cell? ⟨w.heap.size, 2, none⟩ = some (.int .i64 0) := k2.cell 2
    have p3 : w2.cell? ⟨w.heap.size, 3, none⟩ = some (.string s) := k2.cell 3
    have p4 : w2.cell? ⟨w.heap.size, 4, none⟩ = some (.slice D 0 c) := k2.cell 4
    have l2 := k2.lt
    have b02 := b0.trans (b2.mono b0.size)
    go_wp2_with fail
    go_ret2
    exact ⟨_, rfl, ⟨rfl, ht⟩, b02.alloc b02.size _⟩

end Go.Proofs.YtfededjcadmpbaaGreatDoor
