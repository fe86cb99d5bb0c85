/- The key of one value, five: cell.Key at the laws' fixed row; row.Prefix. -/
import Derived.Test.YtfededjcadmpbaaDoorOrd5
import Derived.Test.YtfededjcadmpbaaDoorPlain
namespace Go.Proofs.YtfededjcadmpbaaDoor
open Go.RowKit

def k5L : List UInt8 := [2, 128, 0, 0, 0, 0, 0, 0, 5]
/-- nine bytes of its own are answered -/
def RetKey5 (w : World) (en : Ending) (w' : World) : Prop :=
  ∃ B d, en = .returned (.tuple #[.slice B 9 d, .int .i64 0]) ∧ w'.ownsRow w.heap.size 5 1 (.slice B 9 d) 9 (k5L.map bval) ∧ Below w.heap.size w w'

set_option maxRecDepth 100000 in
set_option maxHeartbeats 2000000 in
theorem key5 (A : Option Addr) (c : Nat) (w : World) (hA : Sl AnyE w A [.int 5]) : Calls Tryd.prog 37 #[.slice A 1 c] w (RetKey5 w) := by
  obtain ⟨i0, hi0, hz0, hz1, hz2⟩ := info_parts Tryd.infoU8
  obtain ⟨ad, v, rfl, h1, h2, hv⟩ := AnyE.at_ hA (k := 0) (by decide)
  rw [show ad.add 0 = ad by simp [Addr.add]] at h2
  obtain rfl : v = .iface 2 (.int .i64 5) := hv
  go_enter Tryd.func37, Tryd.ntmps37
  go_wp2_with fail
  go_loopw [4, 6, 7, 8, 11] (fun o _ _ _ i wr => (i = .int .i64 0 ∧ o = .slice none 0 0 ∧ wr = w) ∨ (i = .int .i64 1 ∧ ∃ B d, o = .slice B 9 d ∧ wr.ownsRow w.heap.size 5 1 (.slice B 9 d) 9 (k5L.map bval) ∧ Below w.heap.size w wr)) (fun _ _ _ _ i _ => 2 - (intOf i).toNat)
  case atStart => exact .inl ⟨rfl, rfl, rfl⟩
  case round =>
    rcases hrel with ⟨rfl, rfl, rfl⟩ | ⟨rfl, B, d, rfl, o, b⟩
    · go_wp2_with fail
      refine (cell_any _ (.int 5) wr rfl).mono ?_
      rintro en w2 ⟨D2, c2, rfl, _, _, b2⟩
      simp only [LVal.kind, LVal.b, LVal.n, LVal.t, LVal.l, LVal.err, List.length_nil]
      have z2 := b2.size
      have kc0 := (Blk.new w2 42 #[.int .i64 2, .bool false, .int .i64 5, .string ⟨#[]⟩, .slice D2 0 c2]).alloc (.cells #[.int .u8 2] 5)
      have b4 := (b2.alloc z2 (.cells #[.int .i64 2, .bool false, .int .i64 5, .string ⟨#[]⟩, .slice D2 0 c2] 42)).alloc (b2.alloc z2 _).size (.cells #[.int .u8 2] 5)
      have hrr : Reads ((w2.alloc (.cells #[.int .i64 2, .bool false, .int .i64 5, .string ⟨#[]⟩, .slice D2 0 c2] 42)).alloc (.cells #[.int .u8 2] 5)) _ 1 (some ⟨w2.heap.size + 1, 0, none⟩) 1 [.int .u8 2] := Reads.of_blk (t := 5) (vs := [.int .u8 2]) (heap_alloc2_new w2 _ _) rfl
      have m1 : 0 + 1 ≤ maxLen := by simp [maxLen]
      go_wp2_with (at_builtin; (refine wpList_append_sh _ rfl (.tmp 23) (.tmp 27) _ rfl wr.heap.size 5 i0 _ 1 1 Tryd.underlying31 hi0 hz0 hz1 hz2 rfl (by omega) (.slice none 0 0) 0 [] rfl (World.ownsRow_nil _ _ _ _) _ _ 1 1 [.int .u8 2] rfl hrr (by simp [Value.oneCell']) m1 (by omega) b4.size ?_); intro A1 c1 w5 o5 g5 t5; simp only [Nat.zero_add, List.nil_append] at o5; have kc5 := kc0.grown g5 (by simp [Value.ownBlock]); have q0 : w5.cell? ⟨w2.heap.size, 0, none⟩ = some (.int .i64 2) := kc5.cell 0; have q2 : w5.cell? ⟨w2.heap.size, 2, none⟩ = some (.int .i64 5) := kc5.cell 2)
      have b5 := b4.grown g5 b4.size (fun j hj => by simp [Value.ownBlock] at hj)
      refine (ordI5 w5).mono ?_
      rintro en w6 ⟨A6, c6, rfl, o6, b6⟩
      have b06 := b5.trans (b6.mono b5.size)
      have o56 := own_below o5 b6
      have hr6 := Reads.of_own o6
      have m2 : 1 + 8 ≤ maxLen := by simp [maxLen]
      have hone := oneCell_bytes [128, 0, 0, 0, 0, 0, 0, 5]
      clear q0 q2
      have kc6 := kc5.below b6 kc5.lt
      have q0 : w6.cell? ⟨w2.heap.size, 0, none⟩ = some (.int .i64 2) := kc6.cell 0
      have hz6 := b06.size
      go_wp2_with (at_builtin; (refine wpList_append_sh _ rfl (.tmp 42) (.tmp 45) _ rfl wr.heap.size 5 i0 _ 1 1 Tryd.underlying31 hi0 hz0 hz1 hz2 rfl (by omega) (.slice A1 1 c1) 1 [.int .u8 2] rfl o56 _ A6 8 c6 _ rfl hr6 hone m2 (by omega) hz6 ?_); intro B1 d1 w7 o7 g7 t7)
      have b7 := b06.grown g7 hz6 (fun j hj => (o56.lt j hj).1)
      go_roundw
      case rel => exact .inr ⟨by go_num, B1, d1, rfl, o7, b7⟩
      case measure => simp [intOf]
    · go_wp2_with fail
      go_ret2
      exact ⟨B, d, rfl, o, b⟩
end Go.Proofs.YtfededjcadmpbaaDoor
