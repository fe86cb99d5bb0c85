/- The row laws' fixed fact: the key of a row of the fixed table, and awake. -/
import Derived.Test.YtfededjcadmpbaaDoorKey5
import Derived.Test.YtfededjcadmpbaaDoorPfx
import Derived.Test.YtfededjcadmpbaaDoorOf
import Derived.Test.YtfededjcadmpbaaDoorCopy
namespace Go.Proofs.YtfededjcadmpbaaDoor
open Go.RowKit

def rk5L : List UInt8 := [114, 7, 2, 128, 0, 0, 0, 0, 0, 0, 5]
def RetRk5 (w : World) (en : Ending) (w' : World) : Prop :=
  ∃ D d, en = .returned (.tuple #[.slice D 11 d, .int .i64 0]) ∧ Bs w' D rk5L ∧ Below w.heap.size w w'
theorem vals5 : valuesE [⟨⟨#[105, 100]⟩, 2, false⟩] [.int 5] 0 = 0 := by
  show worse 0 (valErr ⟨⟨#[105, 100]⟩, 2, false⟩ (.int 5)) = 0
  rfl

set_option maxRecDepth 100000 in
set_option maxHeartbeats 2000000 in
theorem rowkey5 (A B C : Option Addr) (cc : Nat) (w : World) (hA : Sl ColE w A plC) (hB : Sl IxE w B plX) (hC : Sl AnyE w C [.int 5]) (hu : U8 w) (hcc : 1 ≤ cc) : Calls Tryd.prog 10 #[.agg #[.int .i64 7, .string ⟨#[116]⟩, .slice A 2 2, .int .i64 1, .slice B 2 2], .slice C 1 cc] w (RetRk5 w) := by
  obtain ⟨i0, hi0, hz0, hz1, hz2⟩ := info_parts Tryd.infoU8
  have b0 : Below w.heap.size w (w.alloc (.cells #[.int .i64 7, .string ⟨#[116]⟩, .slice A 2 2, .int .i64 1, .slice B 2 2] 25)) := (Below.refl _ _).alloc (Nat.le_refl _) _
  have k0 := Blk.new w 25 #[.int .i64 7, .string ⟨#[116]⟩, .slice A 2 2, .int .i64 1, .slice B 2 2]
  obtain ⟨ad, rfl, _⟩ := ColE.at3 hA (k := 0) (by decide)
  obtain ⟨cd, v, rfl, _⟩ := AnyE.at_ hC (k := 0) (by decide)
  have hA0 := hA.below b0
  have hB0 := hB.below b0
  have hA1 : Sl ColE w (some ad) [⟨⟨#[105, 100]⟩, 2, false⟩] := hA.take 1 (by decide)
  go_enter Tryd.func10, Tryd.ntmps10
  go_wp2_with fail
  generalize (w.alloc (.cells #[.int .i64 7, .string ⟨#[116]⟩, .slice (some ad) 2 2, .int .i64 1, .slice B 2 2] 25)) = W0 at *
  refine (check_any 7 1 ⟨#[116]⟩ (some ad) B 2 2 plC plX W0 hA0.cols hB0.ixs (by decide) hA0.cnames hB0.xnames).mono ?_
  rintro en w1 ⟨rfl, b1⟩
  rw [plain_check]
  have b01 := b0.trans (b1.mono b0.size)
  have k1 := k0.below b1 k0.lt
  have q2 : w1.cell? ⟨w.heap.size, 2, none⟩ = some (.slice (some ad) 2 2) := k1.cell 2
  have q3 : w1.cell? ⟨w.heap.size, 3, none⟩ = some (.int .i64 1) := k1.cell 3
  go_wp2_with fail
  refine (values_any [⟨⟨#[105, 100]⟩, 2, false⟩] [.int 5] (some ad) (some cd) 2 cc w1 (hA1.below b01) (hC.below b01) (by decide) (hu.below b01)).mono ?_
  rintro en w2 ⟨rfl, b2⟩
  rw [vals5]
  have b02 := b01.trans (b2.mono b01.size)
  have k2 := k1.below b2 k1.lt
  clear q2 q3
  have q3 : w2.cell? ⟨w.heap.size, 3, none⟩ = some (.int .i64 1) := k2.cell 3
  have hcz : (1 : Int) ≤ (cc : Int) := by omega
  go_wp2_with fail
  refine (key5 (some cd) cc w2 (hC.below b02)).mono ?_
  rintro en w3 ⟨B3, d3, rfl, o3, b3⟩
  have b03 := b02.trans (b3.mono b02.size)
  have k3 := k2.below b3 k2.lt
  clear q3
  go_wp2_with ((with_reducible refine wpList_load_blk rfl 25 (.tmp 2) rfl w.heap.size ?_ 25 _ _ k3 Tryd.underlying25 ?_ Tryd.size_TableV ?_ ?_); rfl; rfl; rfl)
  refine (prefix_any 7 1 ⟨#[116]⟩ (some ad) B 2 2 2 2 w3).mono ?_
  rintro en w4 ⟨A4, rfl, o4, b4⟩
  have b04 := b03.trans (b4.mono b03.size)
  have o34 := own_below o3 b4
  have hr := Reads.of_own o34
  have hone := oneCell_bytes k5L
  have m2 : 2 + 9 ≤ maxLen := by simp [maxLen]
  have hz4 : w3.heap.size ≤ w4.heap.size := b4.size
  go_wp2_with (at_builtin; (refine wpList_append_sh _ rfl (.tmp 47) (.tmp 48) _ rfl w3.heap.size 5 i0 _ 1 1 Tryd.underlying31 hi0 hz0 hz1 hz2 rfl (by omega) (.slice A4 2 2) 2 _ rfl o4 _ B3 9 d3 _ rfl hr hone m2 (by omega) hz4 ?_); intro D5 d5 w5 o5 g5 t5)
  have b5 := b04.grown g5 b04.size (fun j hj => by have h1 := (o4.lt j hj).1; have h2 := b03.size; omega)
  have hbs : Bs w5 D5 rk5L := by
    have o6 : w5.ownsRow w3.heap.size 5 1 (.slice D5 11 d5) 11 (rk5L.map bval) := o5
    exact Bs.of_own o6 (by decide)
  go_ret2
  exact ⟨D5, d5, rfl, hbs, b5⟩

set_option maxRecDepth 100000 in
set_option maxHeartbeats 2000000 in
theorem awake_any (w : World) (hu : U8 w) : Calls Tryd.prog 8 #[] w fun e w' => e = .returned (.bool true) ∧ Below w.heap.size w w' := by
  go_enter Tryd.func8, Tryd.ntmps8
  go_wp2_with fail
  refine (of_any (.int 5) rfl (by decide) none 0 w (Bs.nil_ _ _)).mono ?_
  rintro en w1 ⟨v, rfl, hv, b1⟩
  obtain rfl : v = .iface 2 (.int .i64 5) := hv
  go_wp2_with fail
  refine (plain_any w1).mono ?_
  rintro en w2 ⟨A, B, rfl, hA, hB, b2⟩
  have b02 := b1.trans (b2.mono b1.size)
  have hC : Sl AnyE (w2.alloc (.cells #[.iface 2 (.int .i64 5)] 20)) (some ⟨w2.heap.size, 0, none⟩) [.int 5] :=
    ⟨by decide, [.iface 2 (.int .i64 5)], Reads.of_blk (t := 20) (vs := [.iface 2 (.int .i64 5)]) (Blk.new w2 _ _) rfl, fun _ _ _ => trivial, ⟨[.iface 2 (.int .i64 5)], [], rfl, ⟨_, rfl, rfl⟩, rfl⟩⟩
  have d2 : Below w2.heap.size w2 (w2.alloc (.cells #[.iface 2 (.int .i64 5)] 20)) := (Below.refl _ _).alloc (Nat.le_refl _) _
  have b03 := b02.trans (d2.mono b02.size)
  go_wp2_with fail
  refine (rowkey5 A B _ 1 _ (hA.below d2) (hB.below d2) hC (hu.below b03) (Nat.le_refl _)).mono ?_
  rintro en w4 ⟨D, d, rfl, hD, b4⟩
  have b04 := b03.trans (b4.mono b03.size)
  go_wp2_with fail
  refine (equal_any D _ rk5L rk5L d 11 _ (hD.alloc _) (Bs.lit w4 rk5L 5 (by decide))).mono ?_
  rintro en w5 ⟨rfl, n, rfl⟩
  rw [show (rk5L == rk5L) = true from by decide]
  have b05 := below_drewN (b04.alloc b04.size (.cells (rk5L.map bval).toArray 5)) n
  go_wp2_with fail
  refine (plain_any _).mono ?_
  rintro en w6 ⟨A6, B6, rfl, hA6, hB6, b6⟩
  have b06 := b05.trans (b6.mono b05.size)
  go_wp2_with fail
  refine (check_any 7 1 ⟨#[116]⟩ A6 B6 2 2 plC plX w6 hA6.cols hB6.ixs (by decide) hA6.cnames hB6.xnames).mono ?_
  rintro en w7 ⟨rfl, b7⟩
  rw [plain_check]
  go_wp2_with fail
  go_ret
  exact ⟨rfl, b06.trans (b7.mono b06.size)⟩
end Go.Proofs.YtfededjcadmpbaaDoor
