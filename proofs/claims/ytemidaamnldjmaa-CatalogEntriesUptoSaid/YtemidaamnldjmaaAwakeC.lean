/- The catalog laws' fixed fact. -/
import Derived.Test.YtemidaamnldjmaaNew
import Derived.Test.YtemidaamnldjmaaCopy
namespace Go.Proofs.Ytemidaamnldjmaa
open Go.RowKit

def awT : LTab := ⟨7, 1, ⟨#[116]⟩, [⟨⟨#[105, 100]⟩, 2, false⟩], []⟩
def awX : LIx := ⟨⟨#[117]⟩, [0], false⟩
theorem awT_new : newE awT = (⟨awT, []⟩, 0) := by
  unfold newE
  rw [if_neg (by decide +kernel)]
  rfl
theorem awX_add : addE ⟨awT, []⟩ awX = (⟨⟨7, 1, ⟨#[116]⟩, [⟨⟨#[105, 100]⟩, 2, false⟩], [awX]⟩, [⟨1, [114, 7]⟩]⟩, 0) := by
  unfold addE
  rw [if_neg (by decide +kernel), if_neg (by decide +kernel), if_neg (by decide +kernel)]
  rfl

theorem new_aw (w : World) (A : Option Addr) (h : Sl ColE w A [⟨⟨#[105, 100]⟩, 2, false⟩]) :
    Calls Try.prog 5 #[.agg #[.int .i64 7, .string ⟨#[116]⟩, .slice A 1 1, .int .i64 1, .slice none 0 0]] w fun en w' =>
      ∃ A1 B1 S1 ca cb cs, en = .returned (.tuple #[.agg #[.int .i64 7, .string ⟨#[116]⟩, .slice A1 1 ca, .int .i64 1, .slice B1 0 cb, .slice S1 0 cs], .int .i64 0]) ∧ Sl ColE w' A1 [⟨⟨#[105, 100]⟩, 2, false⟩] ∧ Below w.heap.size w w' := by
  refine (new_any 7 1 ⟨#[116]⟩ [⟨⟨#[105, 100]⟩, 2, false⟩] [] A none 1 0 w h (SlS.nil_ _ _ _ _) (by decide)).mono ?_
  rintro en w' ⟨v, he, hv, hb⟩
  rw [show newE ⟨7, 1, ⟨#[116]⟩, [⟨⟨#[105, 100]⟩, 2, false⟩], []⟩ = (⟨awT, []⟩, 0) from awT_new] at he hv
  obtain ⟨A1, B1, S1, ca, cb, cs, rfl, h1, _⟩ := hv
  exact ⟨A1, B1, S1, ca, cb, cs, he, h1, hb⟩
theorem add_aw (w : World) (A B S C : Option Addr) (ca cb cs : Nat) (h : Sl ColE w A [⟨⟨#[105, 100]⟩, 2, false⟩]) (hC : Is w C [0]) :
    Calls Try.prog 19 #[.agg #[.int .i64 7, .string ⟨#[116]⟩, .slice A 1 ca, .int .i64 1, .slice B 0 cb, .slice S 0 cs], .agg #[.string ⟨#[117]⟩, .slice C 1 1, .bool false]] w fun en w' =>
      ∃ A1 B1 S1 ca cb cs, en = .returned (.tuple #[.agg #[.int .i64 7, .string ⟨#[116]⟩, .slice A1 1 ca, .int .i64 1, .slice B1 1 cb, .slice S1 1 cs], .int .i64 0]) ∧ Sl StE w' S1 [⟨1, [114, 7]⟩] ∧ Below w.heap.size w w' := by
  refine (add_any ⟨awT, []⟩ awX A B S C ca cb cs 1 w h (SlS.nil_ _ _ _ _) (SlS.nil_ _ _ _ _) (by decide) hC (by decide) (by decide)).mono ?_
  rintro en w' ⟨v, he, hv, hb⟩
  rw [awX_add] at he hv
  obtain ⟨A1, B1, S1, ca, cb, cs, rfl, _, _, h1, _⟩ := hv
  exact ⟨A1, B1, S1, ca, cb, cs, he, h1, hb⟩

set_option maxRecDepth 100000 in
set_option maxHeartbeats 2000000 in
theorem awake_any (w : World) : Calls Try.prog 4 #[] w fun e w' => e = .returned (.bool true) ∧ Below w.heap.size w w' := by
  have b0 : Below w.heap.size w ((w.alloc (.cells #[.string ⟨#[105, 100]⟩, .int .i64 2, .bool false] 51)).alloc (.cells #[.int .i64 7, .string ⟨#[116]⟩, .slice (some ⟨w.heap.size, 0, none⟩) 1 1, .int .i64 1, .slice none 0 0] 25)) := ((Below.refl _ _).alloc (Nat.le_refl _) _).alloc (by simp) _
  have hc : Sl ColE ((w.alloc (.cells #[.string ⟨#[105, 100]⟩, .int .i64 2, .bool false] 51)).alloc (.cells #[.int .i64 7, .string ⟨#[116]⟩, .slice (some ⟨w.heap.size, 0, none⟩) 1 1, .int .i64 1, .slice none 0 0] 25)) (some ⟨w.heap.size, 0, none⟩) [⟨⟨#[105, 100]⟩, 2, false⟩] := by
    refine SlS.alloc ⟨by decide, [.string ⟨#[105, 100]⟩, .int .i64 2, .bool false], Reads.of_blk (Blk.new _ _ _) rfl, fun _ _ _ => trivial, (by refine ER.flat_one_ ?_; exact ⟨rfl, by decide⟩)⟩ _
  go_enter Try.func4, Try.ntmps4
  go_wp2_with fail
  generalize ((w.alloc (.cells #[.string ⟨#[105, 100]⟩, .int .i64 2, .bool false] 51)).alloc (.cells #[.int .i64 7, .string ⟨#[116]⟩, .slice (some ⟨w.heap.size, 0, none⟩) 1 1, .int .i64 1, .slice none 0 0] 25)) = W0 at *
  refine (new_aw W0 _ hc).mono ?_
  rintro en w1 ⟨A1, B1, S1, ca, cb, cs, rfl, hA1, b1⟩
  have b01 := b0.trans (b1.mono b0.size)
  have kE := (Blk.new w1 33 #[.int .i64 7, .string ⟨#[116]⟩, .slice A1 1 ca, .int .i64 1, .slice B1 0 cb, .slice S1 0 cs]).alloc (.cells #[.int .i64 0] 3)
  have b2 : Below w1.heap.size w1 ((w1.alloc (.cells #[.int .i64 7, .string ⟨#[116]⟩, .slice A1 1 ca, .int .i64 1, .slice B1 0 cb, .slice S1 0 cs] 33)).alloc (.cells #[.int .i64 0] 3)) := ((Below.refl _ _).alloc (Nat.le_refl _) _).alloc (by simp) _
  have hC : Is ((w1.alloc (.cells #[.int .i64 7, .string ⟨#[116]⟩, .slice A1 1 ca, .int .i64 1, .slice B1 0 cb, .slice S1 0 cs] 33)).alloc (.cells #[.int .i64 0] 3)) (some ⟨w1.heap.size + 1, 0, none⟩) [0] :=
    ⟨⟨rfl, fun _ => ⟨_, rfl, by simp, fun j u hu => by rw [add_row, (Blk.new2 _ _ _ _).cell]; simpa using hu⟩⟩, by decide⟩
  go_wp2_with fail
  generalize ((w1.alloc (.cells #[.int .i64 7, .string ⟨#[116]⟩, .slice A1 1 ca, .int .i64 1, .slice B1 0 cb, .slice S1 0 cs] 33)).alloc (.cells #[.int .i64 0] 3)) = W2 at *
  refine (add_aw W2 A1 B1 S1 _ ca cb cs (hA1.below b2) hC).mono ?_
  rintro en w3 ⟨A2, B2, S2, ca2, cb2, cs2, rfl, hS2, b3⟩
  have b03 := b01.trans ((b2.trans (b3.mono b2.size)).mono b01.size)
  have kE3 := (kE.below b3 kE.lt).alloc (.cells #[.int .i64 7, .string ⟨#[116]⟩, .slice A2 1 ca2, .int .i64 1, .slice B2 1 cb2, .slice S2 1 cs2] 33)
  have kF := Blk.new w3 33 #[.int .i64 7, .string ⟨#[116]⟩, .slice A2 1 ca2, .int .i64 1, .slice B2 1 cb2, .slice S2 1 cs2]
  have hS3 := hS2.alloc (.cells #[.int .i64 7, .string ⟨#[116]⟩, .slice A2 1 ca2, .int .i64 1, .slice B2 1 cb2, .slice S2 1 cs2] 33)
  have b4 := b03.alloc b03.size (.cells #[.int .i64 7, .string ⟨#[116]⟩, .slice A2 1 ca2, .int .i64 1, .slice B2 1 cb2, .slice S2 1 cs2] 33)
  go_upto_region 4 with fail
  generalize (w3.alloc (.cells #[.int .i64 7, .string ⟨#[116]⟩, .slice A2 1 ca2, .int .i64 1, .slice B2 1 cb2, .slice S2 1 cs2] 33)) = W4 at *
  obtain ⟨ad, D, d, rfl, h1, h2, h3, hcur, _⟩ := StE.at_ hS3 (k := 0) (by decide)
  rw [show ad.add (0 * 2) = ad by simp [Addr.add]] at h2 h3
  have h2' : W4.cell? ad = some (.int .i64 1) := h2
  have h3' : W4.cell? ⟨ad.block, ad.off + 1, none⟩ = some (.slice D 2 d) := h3
  have q5 : W4.cell? ⟨w1.heap.size, 5, none⟩ = some (.slice S1 0 cs) := kE3.cell 5
  have p5 : W4.cell? ⟨w3.heap.size, 5, none⟩ = some (.slice (some ad) 1 cs2) := kF.cell 5
  clear h2 h3
  go_wp2_with fail
  refine (equal_any D _ [114, 7] [114, 7] d 2 _ ((hcur : Bs W4 D [114, 7]).alloc _) (Bs.lit W4 [114, 7] 5 (by decide))).mono ?_
  rintro en w5 ⟨rfl, n, rfl⟩
  go_wp2_with fail
  go_ret
  exact ⟨rfl, below_drewN (b4.alloc b4.size _) n⟩

end Go.Proofs.Ytemidaamnldjmaa
