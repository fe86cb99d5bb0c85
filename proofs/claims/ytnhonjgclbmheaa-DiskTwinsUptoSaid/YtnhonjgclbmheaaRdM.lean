/- The reference's disk in memory; find, Used. -/
import Derived.Test.YtnhonjgclbmheaaRdP
namespace Go.Proofs.Ytnhonjgclbmheaa
open Go.RowKit

def RFE : ER LRF where
  size := 3
  pos := by omega
  bytes := 64
  bpos := by omega
  rep w S vs f := ∃ A c B d, vs = [.string ⟨f.name.toArray⟩, .slice A f.safe.length c, .slice B f.tail.length d] ∧ f.name.length ≤ 140737488355328 ∧ Bs w A f.safe ∧ At S A f.safe.length ∧ f.safe.length ≤ c ∧ c ≤ 9223372036854775807 ∧ Bs w B f.tail ∧ At S B f.tail.length ∧ f.tail.length ≤ d ∧ d ≤ 9223372036854775807
  len := by rintro w S vs a ⟨A, c, B, d, rfl, _⟩; rfl
  one := by rintro w S vs a ⟨A, c, B, d, rfl, _⟩ v hv; simp at hv; rcases hv with rfl | rfl | rfl <;> rfl
  keep := by rintro w w' S vs a ⟨A, c, B, d, rfl, h0, h1, h2, h3, h4, h5, h6, h7⟩ hs; exact ⟨A, c, B, d, rfl, h0, h1.sameS h2 hs, h2, h3, h4, h5.sameS h6 hs, h6, h7⟩
  mono := by rintro w S S' vs a ⟨A, c, B, d, rfl, h0, h1, h2, h3, h4, h5, h6, h7⟩ hs; exact ⟨A, c, B, d, rfl, h0, h1, h1.atMono h2 hs, h3, h4, h5, h5.atMono h6 hs, h7⟩
/-- the reference's disk as a value -/
abbrev rv (A : Option Addr) (c : Nat) (W : LRD) : Value := .agg #[.slice A W.files.length c, .int .i64 W.room, .int .i64 W.armed, .bool W.dead]
def rcs (A : Option Addr) (c : Nat) (W : LRD) : Array Value := #[.slice A W.files.length c, .int .i64 W.room, .int .i64 W.armed, .bool W.dead]
/-- file i: its cells -/
theorem RFE.at_ {w : World} {A : Option Addr} {S : Nat → Prop} {fs : List LRF} (h : SlS RFE w S A fs) {k : Nat} (hk : k < fs.length) :
    ∃ ad P c Q d, A = some ad ∧ ad.block < w.heap.size ∧ w.cell? (ad.add (k * 3)) = some (.string ⟨fs[k].name.toArray⟩) ∧ w.cell? ⟨(ad.add (k * 3)).block, (ad.add (k * 3)).off + 1, none⟩ = some (.slice P fs[k].safe.length c) ∧
      w.cell? ⟨(ad.add (k * 3)).block, (ad.add (k * 3)).off + 2, none⟩ = some (.slice Q fs[k].tail.length d) ∧ fs[k].name.length ≤ 140737488355328 ∧ Bs w P fs[k].safe ∧ At S P fs[k].safe.length ∧ fs[k].safe.length ≤ c ∧ c ≤ 9223372036854775807 ∧ Bs w Q fs[k].tail ∧ At S Q fs[k].tail.length ∧ fs[k].tail.length ≤ d ∧ d ≤ 9223372036854775807 := by
  obtain ⟨ad, vs, rfl, hb, ⟨P, c, Q, d, rfl, h1⟩, h4, _, h5⟩ := SlS.at_ h hk
  exact ⟨ad, P, c, Q, d, rfl, hb, h4 _ rfl, h5 1 _ (by decide) rfl, h5 2 _ (by decide) rfl, h1⟩
theorem bless (x y : List UInt8) : Op.bytesLess x y = decide (x < y) := bytesLess_eq x y
set_option maxRecDepth 100000 in
set_option maxHeartbeats 2000000 in
theorem rfind_any (A : Option Addr) (c : Nat) (W : LRD) (S : Nat → Prop) (nm : List UInt8) (w : World) (h : SlS RFE w S A W.files) (hl : W.files.length ≤ 1048576) :
    Calls Try.prog 52 #[rv A c W, .string ⟨nm.toArray⟩] w (fun en w' => en = .returned (.tuple #[.int .i64 ((findR W.files nm).1 : Int), .bool (findR W.files nm).2]) ∧ Below w.heap.size w w') := by
  obtain ⟨fs, room, armed, dead⟩ := W
  have d1 : Below w.heap.size w (w.alloc (.cells (rcs A c ⟨fs, room, armed, dead⟩) 45)) := (Below.refl _ _).alloc (Nat.le_refl _) _
  have kp := Blk.new w 45 (rcs A c ⟨fs, room, armed, dead⟩)
  have h1 := h.below d1
  go_enter Try.func52, Try.ntmps52
  go_upto_region 1 with fail
  change Code.wp _ _ _ _ (w.alloc (.cells (rcs A c ⟨fs, room, armed, dead⟩) 45))
  generalize (w.alloc (.cells (rcs A c ⟨fs, room, armed, dead⟩) 45)) = w1 at *
  have p0 : w1.cell? ⟨w.heap.size, 0, none⟩ = some (.slice A fs.length c) := kp.cell 0
  replace h1 : SlS RFE w1 S A fs := h1
  replace hl : fs.length ≤ 1048576 := hl
  clear h
  go_wp2_with fail
  go_loopw [6] (fun i wr => ∃ k : Nat, k ≤ fs.length ∧ i = .int .i64 (k : Int) ∧ Hid (∀ j (hj : j < fs.length), j < k → fs[j].name ≠ nm ∧ ¬ nm < fs[j].name) ∧ wr = w1) (fun i _ => fs.length - (Lib.intOf i).toNat)
  case atStart => exact ⟨0, Nat.zero_le _, rfl, fun j _ hj => absurd hj (by omega), rfl⟩
  case round =>
    obtain ⟨k, hk, rfl, HA, hwr⟩ := hrel
    subst hwr
    by_cases hlt : k < fs.length
    · obtain ⟨ad, P, pc, Q, qc, rfl, hadb, c0, c1, c2, hnl, _⟩ := RFE.at_ h1 hlt
      have HAT := Lib.hid (findR_at hlt HA.out)
      clear c1 c2
      obtain ⟨x, hx⟩ : ∃ x, x = fs[k].name := ⟨_, rfl⟩
      rw [← hx] at c0 hnl HAT
      have HX := Lib.hid hx
      clear hx
      by_cases he : x = nm
      · have hb : (x == nm) = true := by rw [beq_iff_eq]; exact he
        have HE := Lib.hid he
        clear he
        go_wp2_with fail
        go_ret2
        have e := HAT.out.1 HE.out
        exact ⟨by rw [e]; rfl, d1⟩
      · have hb : (x == nm) = false := by rw [beq_eq_false_iff_ne]; exact he
        have HE := Lib.hid he
        clear he
        cases hbl : Op.bytesLess x nm with
        | false =>
          have HL : Hid (nm < x) := by
            rw [bless] at hbl
            have h1 := of_decide_eq_false hbl
            rcases List.le_total x nm with h2 | h2
            · exact absurd (List.le_antisymm h2 (List.not_lt.1 h1)) HE.out
            · exact Classical.byContradiction fun h3 => HE.out (List.le_antisymm (List.not_lt.1 h3) h2)
          go_wp2_with fail
          go_ret2
          have e := HAT.out.2 HE.out HL.out
          exact ⟨by rw [e]; rfl, d1⟩
        | true =>
          have HL : Hid (¬ nm < x) := by
            rw [bless] at hbl
            exact fun h => List.lt_irrefl _ (List.lt_trans h (of_decide_eq_true hbl))
          go_wp2_with fail
          go_roundw
          case rel => exact ⟨k + 1, by omega, by simp, fun j hj h => (by by_cases e : j = k; (subst e; rw [← HX.out]; exact ⟨HE.out, HL.out⟩); exact HA.out j hj (by omega)), trivial⟩
          case measure => simp [Lib.intOf]; omega
    · obtain rfl : k = fs.length := by omega
      have HF := Lib.hid (findR_end (fun j hj => HA.out j hj hj))
      go_wp2_with fail
      go_ret2
      have e := HF.out
      exact ⟨by rw [e]; rfl, d1⟩
end Go.Proofs.Ytnhonjgclbmheaa
