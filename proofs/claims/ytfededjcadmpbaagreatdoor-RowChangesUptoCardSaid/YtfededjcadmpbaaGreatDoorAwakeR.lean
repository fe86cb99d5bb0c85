/- The fixed table of the row laws: caissonlaw14.plain. Eight bytes of five: codec.OrdU and OrdI at the laws' fixed number. The key of one value, five: cell.Key at the laws' fixed row; row.Prefix. The beginning of a table's rows' keys: the program's row.Prefix. The row laws' fixed fact: the key of a row of the fixed table, and awake. -/
import Derived.Test.YtfededjcadmpbaaGreatDoorRFits
import Derived.Test.YtfededjcadmpbaaGreatDoorMem
import Derived.Test.YtfededjcadmpbaaGreatDoorOf
import Derived.Test.YtfededjcadmpbaaGreatDoorEqR
namespace Go.Proofs.YtfededjcadmpbaaGreatDoor
open Go.RowKit

def plC : List LCol := [⟨⟨#[105, 100]⟩, 2, false⟩, ⟨⟨#[110, 97, 109, 101]⟩, 3, true⟩]
def plX : List LIx := [⟨⟨#[117]⟩, [1], true⟩, ⟨⟨#[112]⟩, [1], false⟩]
/-- the table is answered -/
def RetPlain (w : World) (en : Ending) (w' : World) : Prop :=
  ∃ A B, en = .returned (.agg #[.int .i64 7, .string ⟨#[116]⟩, .slice A 2 2, .int .i64 1, .slice B 2 2]) ∧ Sl ColE w' A plC ∧ Sl IxE w' B plX ∧ Below w.heap.size w w'
theorem plain_check : checkI 7 1 ⟨#[116]⟩ plC plX = 0 := by decide +kernel

theorem Reads.of_blk {w : World} {g n : Nat} {t : TypeId} {vs : List Value} (h : Blk w g t vs.toArray) (hn : vs.length = n) : Reads w w.heap.size n (some ⟨g, 0, none⟩) 1 vs :=
  ⟨by omega, fun _ => ⟨_, rfl, h.lt, fun j u hu => by rw [add_row, h.cell]; simpa using hu⟩⟩
set_option maxRecDepth 100000 in
set_option maxHeartbeats 2000000 in
theorem plain_any (w : World) : Calls Tryz.prog 14 #[] w (RetPlain w) := by
  have kT := ((((Blk.new w 25 #[.int .i64 7, .string ⟨#[116]⟩, .slice (some ⟨w.heap.size + 1, 0, none⟩) 2 2, .int .i64 1, .slice (some ⟨w.heap.size + 4, 0, none⟩) 2 2]).alloc (.cells #[.string ⟨#[105, 100]⟩, .int .i64 2, .bool false, .string ⟨#[110, 97, 109, 101]⟩, .int .i64 3, .bool true] 78)).alloc (.cells #[.int .i64 1] 3)).alloc (.cells #[.int .i64 1] 3)).alloc (.cells #[.string ⟨#[117]⟩, .slice (some ⟨w.heap.size + 2, 0, none⟩) 1 1, .bool true, .string ⟨#[112]⟩, .slice (some ⟨w.heap.size + 3, 0, none⟩) 1 1, .bool false] 81)
  have kC := (((Blk.new (w.alloc (.cells #[.int .i64 7, .string ⟨#[116]⟩, .slice (some ⟨w.heap.size + 1, 0, none⟩) 2 2, .int .i64 1, .slice (some ⟨w.heap.size + 4, 0, none⟩) 2 2] 25)) 78 #[.string ⟨#[105, 100]⟩, .int .i64 2, .bool false, .string ⟨#[110, 97, 109, 101]⟩, .int .i64 3, .bool true]).alloc (.cells #[.int .i64 1] 3)).alloc (.cells #[.int .i64 1] 3)).alloc (.cells #[.string ⟨#[117]⟩, .slice (some ⟨w.heap.size + 2, 0, none⟩) 1 1, .bool true, .string ⟨#[112]⟩, .slice (some ⟨w.heap.size + 3, 0, none⟩) 1 1, .bool false] 81)
  have k1 := ((Blk.new ((w.alloc (.cells #[.int .i64 7, .string ⟨#[116]⟩, .slice (some ⟨w.heap.size + 1, 0, none⟩) 2 2, .int .i64 1, .slice (some ⟨w.heap.size + 4, 0, none⟩) 2 2] 25)).alloc (.cells #[.string ⟨#[105, 100]⟩, .int .i64 2, .bool false, .string ⟨#[110, 97, 109, 101]⟩, .int .i64 3, .bool true] 78)) 3 #[.int .i64 1]).alloc (.cells #[.int .i64 1] 3)).alloc (.cells #[.string ⟨#[117]⟩, .slice (some ⟨w.heap.size + 2, 0, none⟩) 1 1, .bool true, .string ⟨#[112]⟩, .slice (some ⟨w.heap.size + 3, 0, none⟩) 1 1, .bool false] 81)
  have k2 := (Blk.new (((w.alloc (.cells #[.int .i64 7, .string ⟨#[116]⟩, .slice (some ⟨w.heap.size + 1, 0, none⟩) 2 2, .int .i64 1, .slice (some ⟨w.heap.size + 4, 0, none⟩) 2 2] 25)).alloc (.cells #[.string ⟨#[105, 100]⟩, .int .i64 2, .bool false, .string ⟨#[110, 97, 109, 101]⟩, .int .i64 3, .bool true] 78)).alloc (.cells #[.int .i64 1] 3)) 3 #[.int .i64 1]).alloc (.cells #[.string ⟨#[117]⟩, .slice (some ⟨w.heap.size + 2, 0, none⟩) 1 1, .bool true, .string ⟨#[112]⟩, .slice (some ⟨w.heap.size + 3, 0, none⟩) 1 1, .bool false] 81)
  have kI := Blk.new ((((w.alloc (.cells #[.int .i64 7, .string ⟨#[116]⟩, .slice (some ⟨w.heap.size + 1, 0, none⟩) 2 2, .int .i64 1, .slice (some ⟨w.heap.size + 4, 0, none⟩) 2 2] 25)).alloc (.cells #[.string ⟨#[105, 100]⟩, .int .i64 2, .bool false, .string ⟨#[110, 97, 109, 101]⟩, .int .i64 3, .bool true] 78)).alloc (.cells #[.int .i64 1] 3)).alloc (.cells #[.int .i64 1] 3)) 81 #[.string ⟨#[117]⟩, .slice (some ⟨w.heap.size + 2, 0, none⟩) 1 1, .bool true, .string ⟨#[112]⟩, .slice (some ⟨w.heap.size + 3, 0, none⟩) 1 1, .bool false]
  rw [show (w.alloc (.cells #[.int .i64 7, .string ⟨#[116]⟩, .slice (some ⟨w.heap.size + 1, 0, none⟩) 2 2, .int .i64 1, .slice (some ⟨w.heap.size + 4, 0, none⟩) 2 2] 25)).heap.size = w.heap.size + 1 by simp] at kC
  rw [show ((w.alloc (.cells #[.int .i64 7, .string ⟨#[116]⟩, .slice (some ⟨w.heap.size + 1, 0, none⟩) 2 2, .int .i64 1, .slice (some ⟨w.heap.size + 4, 0, none⟩) 2 2] 25)).alloc (.cells #[.string ⟨#[105, 100]⟩, .int .i64 2, .bool false, .string ⟨#[110, 97, 109, 101]⟩, .int .i64 3, .bool true] 78)).heap.size = w.heap.size + 2 by simp] at k1
  rw [show (((w.alloc (.cells #[.int .i64 7, .string ⟨#[116]⟩, .slice (some ⟨w.heap.size + 1, 0, none⟩) 2 2, .int .i64 1, .slice (some ⟨w.heap.size + 4, 0, none⟩) 2 2] 25)).alloc (.cells #[.string ⟨#[105, 100]⟩, .int .i64 2, .bool false, .string ⟨#[110, 97, 109, 101]⟩, .int .i64 3, .bool true] 78)).alloc (.cells #[.int .i64 1] 3)).heap.size = w.heap.size + 3 by simp] at k2
  rw [show ((((w.alloc (.cells #[.int .i64 7, .string ⟨#[116]⟩, .slice (some ⟨w.heap.size + 1, 0, none⟩) 2 2, .int .i64 1, .slice (some ⟨w.heap.size + 4, 0, none⟩) 2 2] 25)).alloc (.cells #[.string ⟨#[105, 100]⟩, .int .i64 2, .bool false, .string ⟨#[110, 97, 109, 101]⟩, .int .i64 3, .bool true] 78)).alloc (.cells #[.int .i64 1] 3)).alloc (.cells #[.int .i64 1] 3)).heap.size = w.heap.size + 4 by simp] at kI
  have b5 : Below w.heap.size w (((((w.alloc (.cells #[.int .i64 7, .string ⟨#[116]⟩, .slice (some ⟨w.heap.size + 1, 0, none⟩) 2 2, .int .i64 1, .slice (some ⟨w.heap.size + 4, 0, none⟩) 2 2] 25)).alloc (.cells #[.string ⟨#[105, 100]⟩, .int .i64 2, .bool false, .string ⟨#[110, 97, 109, 101]⟩, .int .i64 3, .bool true] 78)).alloc (.cells #[.int .i64 1] 3)).alloc (.cells #[.int .i64 1] 3)).alloc (.cells #[.string ⟨#[117]⟩, .slice (some ⟨w.heap.size + 2, 0, none⟩) 1 1, .bool true, .string ⟨#[112]⟩, .slice (some ⟨w.heap.size + 3, 0, none⟩) 1 1, .bool false] 81)) := (((((Below.refl _ _).alloc (Nat.le_refl _) _).alloc (by simp) _).alloc (by simp; omega) _).alloc (by simp; omega) _).alloc (by simp; omega) _
  go_enter Tryz.func14, Tryz.ntmps14
  go_wp2_with fail
  generalize (((((w.alloc (.cells #[.int .i64 7, .string ⟨#[116]⟩, .slice (some ⟨w.heap.size + 1, 0, none⟩) 2 2, .int .i64 1, .slice (some ⟨w.heap.size + 4, 0, none⟩) 2 2] 25)).alloc (.cells #[.string ⟨#[105, 100]⟩, .int .i64 2, .bool false, .string ⟨#[110, 97, 109, 101]⟩, .int .i64 3, .bool true] 78)).alloc (.cells #[.int .i64 1] 3)).alloc (.cells #[.int .i64 1] 3)).alloc (.cells #[.string ⟨#[117]⟩, .slice (some ⟨w.heap.size + 2, 0, none⟩) 1 1, .bool true, .string ⟨#[112]⟩, .slice (some ⟨w.heap.size + 3, 0, none⟩) 1 1, .bool false] 81)) = W at *
  have hI1 : Is W (some ⟨w.heap.size + 2, 0, none⟩) [1] := ⟨Reads.of_blk k1 rfl, by decide⟩
  have hI2 : Is W (some ⟨w.heap.size + 3, 0, none⟩) [1] := ⟨Reads.of_blk k2 rfl, by decide⟩
  have hC : Sl ColE W (some ⟨w.heap.size + 1, 0, none⟩) plC := by
    refine ⟨by decide, [.string ⟨#[105, 100]⟩, .int .i64 2, .bool false, .string ⟨#[110, 97, 109, 101]⟩, .int .i64 3, .bool true], ⟨rfl, fun _ => ⟨_, rfl, kC.lt, fun j u hu => ?_⟩⟩, fun _ _ _ => trivial, ?_⟩
    · rw [add_row, kC.cell]; simpa using hu
    · exact ⟨[.string ⟨#[105, 100]⟩, .int .i64 2, .bool false], [.string ⟨#[110, 97, 109, 101]⟩, .int .i64 3, .bool true], rfl, ⟨rfl, by decide⟩, ⟨[.string ⟨#[110, 97, 109, 101]⟩, .int .i64 3, .bool true], [], rfl, ⟨rfl, by decide⟩, rfl⟩⟩
  have hX : Sl IxE W (some ⟨w.heap.size + 4, 0, none⟩) plX := by
    refine ⟨by decide, [.string ⟨#[117]⟩, .slice (some ⟨w.heap.size + 2, 0, none⟩) 1 1, .bool true, .string ⟨#[112]⟩, .slice (some ⟨w.heap.size + 3, 0, none⟩) 1 1, .bool false], ⟨rfl, fun _ => ⟨_, rfl, kI.lt, fun j u hu => ?_⟩⟩, fun _ _ _ => trivial, ?_⟩
    · rw [add_row, kI.cell]; simpa using hu
    · refine ⟨[.string ⟨#[117]⟩, .slice (some ⟨w.heap.size + 2, 0, none⟩) 1 1, .bool true], [.string ⟨#[112]⟩, .slice (some ⟨w.heap.size + 3, 0, none⟩) 1 1, .bool false], rfl, ?_, ⟨[.string ⟨#[112]⟩, .slice (some ⟨w.heap.size + 3, 0, none⟩) 1 1, .bool false], [], rfl, ?_, rfl⟩⟩
      · exact ⟨some ⟨w.heap.size + 2, 0, none⟩, 1, rfl, hI1, fun _ _ _ => trivial, by decide, by decide⟩
      · exact ⟨some ⟨w.heap.size + 3, 0, none⟩, 1, rfl, hI2, fun _ _ _ => trivial, by decide, by decide⟩
  exact bodyPost_ret (results_cell rfl rfl kT Tryz.underlying25 rfl Tryz.size_TableV) rfl (by exact ⟨_, _, rfl, hC, hX, b5⟩)
end Go.Proofs.YtfededjcadmpbaaGreatDoor

namespace Go.Proofs.YtfededjcadmpbaaGreatDoor
open Go.RowKit

theorem mk8 (W : World) : (Instr.makeSlice 46 (.int .i64 8) (.int .i64 8)).run Tryz.prog W = .ok (.slice (some ⟨W.heap.size, 0, none⟩) 8 8) (W.alloc (.cells #[.int .u8 0, .int .u8 0, .int .u8 0, .int .u8 0, .int .u8 0, .int .u8 0, .int .u8 0, .int .u8 0] 5)) := by kernel_rfl

set_option maxRecDepth 100000 in
set_option maxHeartbeats 2000000 in
theorem ordU5 (w : World) : Calls Tryz.prog 71 #[.int .u64 9223372036854775813] w (RetBs [128, 0, 0, 0, 0, 0, 0, 5] w) := by
  have hmk := mk8
  have b0 : Below w.heap.size w (w.alloc (.cells #[.int .u8 0, .int .u8 0, .int .u8 0, .int .u8 0, .int .u8 0, .int .u8 0, .int .u8 0, .int .u8 0] 5)) := (Below.refl _ _).alloc (Nat.le_refl _) _
  go_enter Tryz.func71, Tryz.ntmps71
  go_wp2_with fail
  go_loopw [4, 8] (fun _ i wr => (i = .int .i64 0 ∧ wr = w.alloc (.cells #[.int .u8 0, .int .u8 0, .int .u8 0, .int .u8 0, .int .u8 0, .int .u8 0, .int .u8 0, .int .u8 0] 5)) ∨
    (∃ k : Nat, 1 ≤ k ∧ k ≤ 7 ∧ i = .int .i64 (k : Int) ∧ wr = w.alloc (.cells #[.int .u8 128, .int .u8 0, .int .u8 0, .int .u8 0, .int .u8 0, .int .u8 0, .int .u8 0, .int .u8 0] 5)) ∨
    (i = .int .i64 8 ∧ wr = w.alloc (.cells #[.int .u8 128, .int .u8 0, .int .u8 0, .int .u8 0, .int .u8 0, .int .u8 0, .int .u8 0, .int .u8 5] 5))) (fun _ i _ => 8 - (intOf i).toNat)
  case atStart => exact .inl ⟨rfl, rfl⟩
  case round =>
    rcases hrel with ⟨rfl, rfl⟩ | ⟨k, h1, h7, rfl, rfl⟩ | ⟨rfl, rfl⟩
    · go_wp2_with fail
      exact ⟨.inr (.inl ⟨1, by decide, by decide, rfl, trivial⟩), by simp [intOf]⟩
    · rcases (by omega : k = 1 ∨ k = 2 ∨ k = 3 ∨ k = 4 ∨ k = 5 ∨ k = 6 ∨ k = 7) with rfl | rfl | rfl | rfl | rfl | rfl | rfl
      · go_wp2_with fail
        exact ⟨.inr (.inl ⟨2, by decide, by decide, rfl, trivial⟩), by simp [intOf]⟩
      · go_wp2_with fail
        exact ⟨.inr (.inl ⟨3, by decide, by decide, rfl, trivial⟩), by simp [intOf]⟩
      · go_wp2_with fail
        exact ⟨.inr (.inl ⟨4, by decide, by decide, rfl, trivial⟩), by simp [intOf]⟩
      · go_wp2_with fail
        exact ⟨.inr (.inl ⟨5, by decide, by decide, rfl, trivial⟩), by simp [intOf]⟩
      · go_wp2_with fail
        exact ⟨.inr (.inl ⟨6, by decide, by decide, rfl, trivial⟩), by simp [intOf]⟩
      · go_wp2_with fail
        exact ⟨.inr (.inl ⟨7, by decide, by decide, rfl, trivial⟩), by simp [intOf]⟩
      · go_wp2_with fail
        exact ⟨.inr (.inr (by first | exact ⟨rfl, rfl⟩ | exact ⟨rfl, trivial⟩ | exact trivial)), by simp [intOf]⟩
    · go_wp2_with fail
      go_ret
      refine ⟨some ⟨w.heap.size, 0, none⟩, 8, rfl, ⟨rfl, .inr ⟨w.heap.size, 8, #[.int .u8 128, .int .u8 0, .int .u8 0, .int .u8 0, .int .u8 0, .int .u8 0, .int .u8 0, .int .u8 5], rfl, Nat.le_refl _, heap_alloc_new w _, by decide, by simp [maxLen], rfl, ?_⟩⟩, (Below.refl _ _).alloc (Nat.le_refl _) _⟩
      first | rfl | (intro j hj; rfl) | simp [bval]
theorem ordI5 (w : World) : Calls Tryz.prog 48 #[.int .i64 5] w (RetBs [128, 0, 0, 0, 0, 0, 0, 5] w) := by
  go_enter Tryz.func48, Tryz.ntmps48
  go_wp2_with fail
  refine (ordU5 w).mono ?_
  rintro en w2 ⟨A, c, rfl, o, b⟩
  go_wp2_with fail
  go_ret
  exact ⟨A, c, rfl, o, b⟩
end Go.Proofs.YtfededjcadmpbaaGreatDoor

namespace Go.Proofs.YtfededjcadmpbaaGreatDoor
open Go.RowKit

def k5L : List UInt8 := [2, 128, 0, 0, 0, 0, 0, 0, 5]
/-- nine bytes of its own are answered -/
def RetKey5 (w : World) (en : Ending) (w' : World) : Prop :=
  ∃ B d, en = .returned (.tuple #[.slice B 9 d, .int .i64 0]) ∧ w'.ownsRow w.heap.size 5 1 (.slice B 9 d) 9 (k5L.map bval) ∧ Below w.heap.size w w'

set_option maxRecDepth 100000 in
set_option maxHeartbeats 2000000 in
theorem key5 (A : Option Addr) (c : Nat) (w : World) (hA : Sl AnyE w A [.int 5]) : Calls Tryz.prog 32 #[.slice A 1 c] w (RetKey5 w) := by
  obtain ⟨i0, hi0, hz0, hz1, hz2⟩ := info_parts Tryz.infoU8
  obtain ⟨ad, v, rfl, h1, h2, hv⟩ := AnyE.at_ hA (k := 0) (by decide)
  rw [show ad.add 0 = ad by simp [Addr.add]] at h2
  obtain rfl : v = .iface 2 (.int .i64 5) := hv
  go_enter Tryz.func32, Tryz.ntmps32
  go_wp2_with fail
  go_loopw [4, 6, 7, 8, 11] (fun o _ _ _ i wr => (i = .int .i64 0 ∧ o = .slice none 0 0 ∧ wr = w) ∨ (i = .int .i64 1 ∧ ∃ B d, o = .slice B 9 d ∧ wr.ownsRow w.heap.size 5 1 (.slice B 9 d) 9 (k5L.map bval) ∧ Below w.heap.size w wr)) (fun _ _ _ _ i _ => 2 - (intOf i).toNat)
  case atStart => exact .inl ⟨rfl, rfl, rfl⟩
  case round =>
    rcases hrel with ⟨rfl, rfl, rfl⟩ | ⟨rfl, B, d, rfl, o, b⟩
    · go_wp2_with fail
      refine (cell_any _ (.int 5) wr rfl).mono ?_
      rintro en w2 ⟨D2, c2, rfl, _, _, b2⟩
      simp only [LVal.kind, LVal.b, LVal.n, LVal.t, LVal.l, LVal.err, List.length_nil]
      have z2 := b2.size
      have kc0 := (Blk.new w2 48 #[.int .i64 2, .bool false, .int .i64 5, .string ⟨#[]⟩, .slice D2 0 c2]).alloc (.cells #[.int .u8 2] 5)
      have b4 := (b2.alloc z2 (.cells #[.int .i64 2, .bool false, .int .i64 5, .string ⟨#[]⟩, .slice D2 0 c2] 48)).alloc (b2.alloc z2 _).size (.cells #[.int .u8 2] 5)
      have hrr : Reads ((w2.alloc (.cells #[.int .i64 2, .bool false, .int .i64 5, .string ⟨#[]⟩, .slice D2 0 c2] 48)).alloc (.cells #[.int .u8 2] 5)) _ 1 (some ⟨w2.heap.size + 1, 0, none⟩) 1 [.int .u8 2] := Reads.of_blk (t := 5) (vs := [.int .u8 2]) (heap_alloc2_new w2 _ _) rfl
      have m1 : 0 + 1 ≤ maxLen := by simp [maxLen]
      go_wp2_with (at_builtin; (refine wpList_append_sh _ rfl (.tmp 23) (.tmp 27) _ rfl wr.heap.size 5 i0 _ 1 1 Tryz.underlying46 hi0 hz0 hz1 hz2 rfl (by omega) (.slice none 0 0) 0 [] rfl (World.ownsRow_nil _ _ _ _) _ _ 1 1 [.int .u8 2] rfl hrr (by simp [Value.oneCell']) m1 (by omega) b4.size ?_); intro A1 c1 w5 o5 g5 t5; simp only [Nat.zero_add, List.nil_append] at o5; have kc5 := kc0.grown g5 (by simp [Value.ownBlock]); have q0 : w5.cell? ⟨w2.heap.size, 0, none⟩ = some (.int .i64 2) := kc5.cell 0; have q2 : w5.cell? ⟨w2.heap.size, 2, none⟩ = some (.int .i64 5) := kc5.cell 2)
      have b5 := b4.grown g5 b4.size (fun j hj => by simp [Value.ownBlock] at hj)
      refine (ordI5 w5).mono ?_
      rintro en w6 ⟨A6, c6, rfl, o6, b6⟩
      have b06 := b5.trans (b6.mono b5.size)
      have o56 := own_below o5 b6
      have hr6 := Reads.of_own o6
      have m2 : 1 + 8 ≤ maxLen := by simp [maxLen]
      have hone := oneCell_bytes [128, 0, 0, 0, 0, 0, 0, 5]
      clear q0 q2
      have kc6 := kc5.below b6 kc5.lt
      have q0 : w6.cell? ⟨w2.heap.size, 0, none⟩ = some (.int .i64 2) := kc6.cell 0
      have hz6 := b06.size
      go_wp2_with (at_builtin; (refine wpList_append_sh _ rfl (.tmp 42) (.tmp 45) _ rfl wr.heap.size 5 i0 _ 1 1 Tryz.underlying46 hi0 hz0 hz1 hz2 rfl (by omega) (.slice A1 1 c1) 1 [.int .u8 2] rfl o56 _ A6 8 c6 _ rfl hr6 hone m2 (by omega) hz6 ?_); intro B1 d1 w7 o7 g7 t7)
      have b7 := b06.grown g7 hz6 (fun j hj => (o56.lt j hj).1)
      go_roundw
      case rel => exact .inr ⟨by go_num, B1, d1, rfl, o7, b7⟩
      case measure => simp [intOf]
    · go_wp2_with fail
      go_ret2
      exact ⟨B, d, rfl, o, b⟩
end Go.Proofs.YtfededjcadmpbaaGreatDoor

namespace Go.Proofs.YtfededjcadmpbaaGreatDoor
open Go.RowKit

theorem mod_u8 (id : Int) : (((UInt8.ofInt id).toNat : Nat) : Int) = id % 256 := by
  unfold UInt8.ofInt
  rw [UInt8.toNat_ofNat']
  omega

/-- a fresh slice of two bytes is answered -/
def RetPfx (id : Int) (w : World) (e : Ending) (w' : World) : Prop :=
  ∃ A, e = .returned (.slice A 2 2) ∧ w'.ownsRow w.heap.size 5 1 (.slice A 2 2) 2 (([114, UInt8.ofInt id] : List UInt8).map bval) ∧ Below w.heap.size w w'

theorem prefix_any (id keys : Int) (tn : ByteArray) (A B : Option Addr) (n cc m ci : Nat) (w : World) :
    Calls Tryz.prog 33 #[.agg #[.int .i64 id, .string tn, .slice A n cc, .int .i64 keys, .slice B m ci]] w (RetPfx id w) := by
  go_enter Tryz.func33, Tryz.ntmps33
  go_wp2_with fail
  go_ret
  have hv : ([114, UInt8.ofInt id] : List UInt8).map bval = [.int .u8 114, .int .u8 (id % 256)] := by
    simp only [List.map_cons, List.map_nil, bval, mod_u8]; rfl
  refine ⟨some ⟨w.heap.size + 1, 0, none⟩, rfl, ?_, ((Below.refl _ _).alloc (Nat.le_refl _) _).alloc (by simp) _⟩
  rw [hv]
  have hb := Blk.new (w.alloc (.cells #[.int .i64 id, .string tn, .slice A n cc, .int .i64 keys, .slice B m ci] 25)) 5 #[.int .u8 114, .int .u8 (id % 256)]
  have := own_of_blk (base := w.heap.size) (xs := [.int .u8 114, .int .u8 (id % 256)]) hb (by simp) (by simp only [maxLen, List.length_cons, List.length_nil]; omega)
  simpa using this

end Go.Proofs.YtfededjcadmpbaaGreatDoor

namespace Go.Proofs.YtfededjcadmpbaaGreatDoor
open Go.RowKit

def rk5L : List UInt8 := [114, 7, 2, 128, 0, 0, 0, 0, 0, 0, 5]
def RetRk5 (w : World) (en : Ending) (w' : World) : Prop :=
  ∃ D d, en = .returned (.tuple #[.slice D 11 d, .int .i64 0]) ∧ Bs w' D rk5L ∧ Below w.heap.size w w'
theorem vals5 : valuesE [⟨⟨#[105, 100]⟩, 2, false⟩] [.int 5] 0 = 0 := by
  show worse 0 (valErr ⟨⟨#[105, 100]⟩, 2, false⟩ (.int 5)) = 0
  rfl

set_option maxRecDepth 100000 in
set_option maxHeartbeats 2000000 in
theorem rowkey5 (A B C : Option Addr) (cc : Nat) (w : World) (hA : Sl ColE w A plC) (hB : Sl IxE w B plX) (hC : Sl AnyE w C [.int 5]) (hu : U8 w) (hcc : 1 ≤ cc) : Calls Tryz.prog 13 #[.agg #[.int .i64 7, .string ⟨#[116]⟩, .slice A 2 2, .int .i64 1, .slice B 2 2], .slice C 1 cc] w (RetRk5 w) := by
  obtain ⟨i0, hi0, hz0, hz1, hz2⟩ := info_parts Tryz.infoU8
  have b0 : Below w.heap.size w (w.alloc (.cells #[.int .i64 7, .string ⟨#[116]⟩, .slice A 2 2, .int .i64 1, .slice B 2 2] 25)) := (Below.refl _ _).alloc (Nat.le_refl _) _
  have k0 := Blk.new w 25 #[.int .i64 7, .string ⟨#[116]⟩, .slice A 2 2, .int .i64 1, .slice B 2 2]
  obtain ⟨ad, rfl, _⟩ := ColE.at3 hA (k := 0) (by decide)
  obtain ⟨cd, v, rfl, _⟩ := AnyE.at_ hC (k := 0) (by decide)
  have hA0 := hA.below b0
  have hB0 := hB.below b0
  have hA1 : Sl ColE w (some ad) [⟨⟨#[105, 100]⟩, 2, false⟩] := hA.take 1 (by decide)
  go_enter Tryz.func13, Tryz.ntmps13
  go_wp2_with fail
  generalize (w.alloc (.cells #[.int .i64 7, .string ⟨#[116]⟩, .slice (some ad) 2 2, .int .i64 1, .slice B 2 2] 25)) = W0 at *
  refine (check_any 7 1 ⟨#[116]⟩ (some ad) B 2 2 plC plX W0 hA0.cols hB0.ixs (by decide) hA0.cnames hB0.xnames).mono ?_
  rintro en w1 ⟨rfl, b1⟩
  rw [plain_check]
  have b01 := b0.trans (b1.mono b0.size)
  have k1 := k0.below b1 k0.lt
  have q2 : w1.cell? ⟨w.heap.size, 2, none⟩ = some (.slice (some ad) 2 2) := k1.cell 2
  have q3 : w1.cell? ⟨w.heap.size, 3, none⟩ = some (.int .i64 1) := k1.cell 3
  go_wp2_with fail
  refine (values_any [⟨⟨#[105, 100]⟩, 2, false⟩] [.int 5] (some ad) (some cd) 2 cc w1 (hA1.below b01) (hC.below b01) (by decide) (hu.below b01)).mono ?_
  rintro en w2 ⟨rfl, b2⟩
  rw [vals5]
  have b02 := b01.trans (b2.mono b01.size)
  have k2 := k1.below b2 k1.lt
  clear q2 q3
  have q3 : w2.cell? ⟨w.heap.size, 3, none⟩ = some (.int .i64 1) := k2.cell 3
  have hcz : (1 : Int) ≤ (cc : Int) := by omega
  go_wp2_with fail
  refine (key5 (some cd) cc w2 (hC.below b02)).mono ?_
  rintro en w3 ⟨B3, d3, rfl, o3, b3⟩
  have b03 := b02.trans (b3.mono b02.size)
  have k3 := k2.below b3 k2.lt
  clear q3
  go_wp2_with ((with_reducible refine wpList_load_blk rfl 25 (.tmp 2) rfl w.heap.size ?_ 25 _ _ k3 Tryz.underlying25 ?_ Tryz.size_TableV ?_ ?_); rfl; rfl; rfl)
  refine (prefix_any 7 1 ⟨#[116]⟩ (some ad) B 2 2 2 2 w3).mono ?_
  rintro en w4 ⟨A4, rfl, o4, b4⟩
  have b04 := b03.trans (b4.mono b03.size)
  have o34 := own_below o3 b4
  have hr := Reads.of_own o34
  have hone := oneCell_bytes k5L
  have m2 : 2 + 9 ≤ maxLen := by simp [maxLen]
  have hz4 : w3.heap.size ≤ w4.heap.size := b4.size
  go_wp2_with (at_builtin; (refine wpList_append_sh _ rfl (.tmp 47) (.tmp 48) _ rfl w3.heap.size 5 i0 _ 1 1 Tryz.underlying46 hi0 hz0 hz1 hz2 rfl (by omega) (.slice A4 2 2) 2 _ rfl o4 _ B3 9 d3 _ rfl hr hone m2 (by omega) hz4 ?_); intro D5 d5 w5 o5 g5 t5)
  have b5 := b04.grown g5 b04.size (fun j hj => by have h1 := (o4.lt j hj).1; have h2 := b03.size; omega)
  have hbs : Bs w5 D5 rk5L := by
    have o6 : w5.ownsRow w3.heap.size 5 1 (.slice D5 11 d5) 11 (rk5L.map bval) := o5
    exact Bs.of_own o6 (by decide)
  go_ret2
  exact ⟨D5, d5, rfl, hbs, b5⟩

set_option maxRecDepth 100000 in
set_option maxHeartbeats 2000000 in
theorem awake_any (w : World) (hu : U8 w) : Calls Tryz.prog 4 #[] w fun e w' => e = .returned (.bool true) ∧ Below w.heap.size w w' := by
  go_enter Tryz.func4, Tryz.ntmps4
  go_wp2_with fail
  refine (of_any (.int 5) rfl (by decide) none 0 w (Bs.nil_ _ _)).mono ?_
  rintro en w1 ⟨v, rfl, hv, b1⟩
  obtain rfl : v = .iface 2 (.int .i64 5) := hv
  go_wp2_with fail
  refine (plain_any w1).mono ?_
  rintro en w2 ⟨A, B, rfl, hA, hB, b2⟩
  have b02 := b1.trans (b2.mono b1.size)
  have hC : Sl AnyE (w2.alloc (.cells #[.iface 2 (.int .i64 5)] 20)) (some ⟨w2.heap.size, 0, none⟩) [.int 5] :=
    ⟨by decide, [.iface 2 (.int .i64 5)], Reads.of_blk (t := 20) (vs := [.iface 2 (.int .i64 5)]) (Blk.new w2 _ _) rfl, fun _ _ _ => trivial, ⟨[.iface 2 (.int .i64 5)], [], rfl, ⟨_, rfl, rfl⟩, rfl⟩⟩
  have d2 : Below w2.heap.size w2 (w2.alloc (.cells #[.iface 2 (.int .i64 5)] 20)) := (Below.refl _ _).alloc (Nat.le_refl _) _
  have b03 := b02.trans (d2.mono b02.size)
  go_wp2_with fail
  refine (rowkey5 A B _ 1 _ (hA.below d2) (hB.below d2) hC (hu.below b03) (Nat.le_refl _)).mono ?_
  rintro en w4 ⟨D, d, rfl, hD, b4⟩
  have b04 := b03.trans (b4.mono b03.size)
  go_wp2_with fail
  refine (equal_any D _ rk5L rk5L d 11 _ (hD.alloc _) (Bs.lit w4 rk5L 5 (by decide))).mono ?_
  rintro en w5 ⟨rfl, n, rfl⟩
  rw [show (rk5L == rk5L) = true from by decide]
  have b05 := below_drewN (b04.alloc b04.size (.cells (rk5L.map bval).toArray 5)) n
  go_wp2_with fail
  refine (plain_any _).mono ?_
  rintro en w6 ⟨A6, B6, rfl, hA6, hB6, b6⟩
  have b06 := b05.trans (b6.mono b05.size)
  go_wp2_with fail
  refine (check_any 7 1 ⟨#[116]⟩ A6 B6 2 2 plC plX w6 hA6.cols hB6.ixs (by decide) hA6.cnames hB6.xnames).mono ?_
  rintro en w7 ⟨rfl, b7⟩
  rw [plain_check]
  go_wp2_with fail
  go_ret
  exact ⟨rfl, b06.trans (b7.mono b06.size)⟩
end Go.Proofs.YtfededjcadmpbaaGreatDoor
