/- Copies of lists of lists: the reference's Copies. -/
import Derived.Test.YtbldfgpnghoigaaCopy
namespace Go.Proofs.Ytbldfgpnghoigaa
open Go.RowKit

theorem mk_bss0 (n : Nat) (hn : n ≤ 5864062014805) (W : World) : (Instr.makeSlice 27 (.int .i64 0) (.int .i64 (n : Int))).run Try.prog W = .ok (.slice (some ⟨W.heap.size, 0, none⟩) 0 n) (W.alloc (.cells (madeCells #[.slice none 0 0] n) 40)) := by
  obtain ⟨i, hi, hz0, hz1, hz2⟩ := info_parts Try.infoBs
  have := run_make_rowN 27 40 i _ Try.underlying27 hi hz0 .i64 .i64 0 n (Nat.zero_le _) (by rw [hz2]; omega) (by omega) W
  rw [hz1, Nat.mul_one] at this
  exact this

set_option maxHeartbeats 400000 in
theorem copies_any (A : Option Addr) (ls : List (List UInt8)) (c : Nat) (w : World) (hb : Bss w A ls) :
    Calls Try.prog 13 #[.slice A ls.length c] w (RetBss ls w) := by
  have hl : ls.length ≤ 5864062014805 := hb.1
  obtain ⟨i0, hi0, hz0, hz1, hz2⟩ := info_parts Try.infoBs
  have hmk := mk_bss0 ls.length hl
  go_enter Try.func13, Try.ntmps13
  go_wp2_with fail
  go_loopw [3, 4] (fun v i wr => ∃ k vs, k ≤ ls.length ∧ i = .int .i64 (k : Nat) ∧ wr.ownsRow w.heap.size 40 1 v k vs ∧ OwnBss wr w.heap.size (ls.take k) vs ∧ Below w.heap.size w wr) (fun _ i _ => ls.length - (intOf i).toNat)
  case atStart => exact ⟨0, [], Nat.zero_le _, rfl, World.ownsRow_made w _ _ (Nat.le_refl _) (by simp only [maxLen]; omega) (by simp [size_madeCells]), ⟨rfl, fun i hi => by simp at hi⟩, (Below.refl _ _).alloc (Nat.le_refl _) _⟩
  case round =>
    obtain ⟨k, vs, hk, rfl, hown, hob, hbel⟩ := hrel
    by_cases hlt : k < ls.length
    · obtain ⟨ad, Ai, ci, rfl, _, hcell, hbs⟩ := (hb.below hbel).at_ hlt
      have hlk := hbs.le
      go_wp2_with fail
      refine (copy_any _ _ _ _ hbs).mono ?_
      rintro e w1 ⟨A1, c1, rfl, hown1, hbel1⟩
      have hrd := Reads.new1 w1 (.slice A1 ls[k].length c1) 40
      have hown' := own_below hown hbel1
      go_wp2_with (at_builtin; (refine wpList_append_any _ rfl (.tmp 14) (.tmp 20) _ rfl w.heap.size 40 i0 _ 1 24 Try.underlying27 hi0 hz0 hz1 hz2 rfl (by omega) _ k vs rfl (hown'.alloc _) _ _ 1 1 [.slice A1 ls[k].length c1] rfl hrd (by simp [Value.oneCell']) (by simp only [maxLen]; omega) (by omega) (by simp; have := hbel.size; have := hbel1.size; omega) ?_); intro v2 w2 hown2 hg2 hat2)
      have hob2 := (((hob.below hbel1).snoc (own_mono hown1 hbel.size) hlk).alloc (.cells #[.slice A1 ls[k].length c1] 40)).kept (hown'.alloc _) hg2
      have hbel2 : Below w.heap.size w w2 := ((hbel.trans (hbel1.mono hbel.size)).alloc (Nat.le_trans hbel.size hbel1.size) _).grown hg2 (by simp; have := hbel.size; have := hbel1.size; omega) (fun g hg => (hown.lt g hg).1)
      go_roundw
      case rel => exact ⟨k + 1, _, by omega, by go_num, hown2, by rw [List.take_succ_eq_append_getElem hlt]; exact hob2, hbel2⟩
      case measure => simp [intOf]; omega
    · obtain rfl : k = ls.length := by omega
      obtain ⟨A1, c1, hv⟩ := own_shape hown
      rw [hv] at hown
      rw [List.take_length] at hob
      go_wp2
      go_ret
      exact ⟨A1, c1, vs, by rw [← hv]; rfl, hown, hob, hbel⟩

end Go.Proofs.Ytbldfgpnghoigaa
