/- Copies and equality of lists of bytes: the references' shared functions. -/
import Derived.Test.YtkgggifliafclaaMem
namespace Go.Proofs.Ytkgggifliafclaa
open Go.RowKit

set_option maxHeartbeats 400000 in
theorem copy_any (A : Option Addr) (l : List UInt8) (c : Nat) (w : World) (hb : Bs w A l) :
    Calls Try.prog 10 #[.slice A l.length c] w (RetBs l w) := by
  have hl := hb.le
  obtain ⟨i0, hi0, hz0, hz1, hz2⟩ := info_parts Try.infoU8
  go_enter Try.func10, Try.ntmps10
  go_wp2_with (at_builtin; refine wpList_append_any _ rfl (.tmp 3) (.tmp 4) _ rfl w.heap.size 5 i0 _ 1 1 Try.underlying23 hi0 hz0 hz1 hz2 rfl (by omega) (.slice (some ⟨w.heap.size, 0, none⟩) 0 0) 0 [] rfl (World.ownsRow_made w #[] 0 (Nat.le_refl _) (by simp [maxLen]) rfl) (w.alloc (.cells #[] 5)).heap.size A l.length c (l.map bval) rfl (hb.alloc _).1 (oneCell_bytes l) (by simp only [maxLen]; omega) (by omega) (by simp) ?_; intro v1 w1 hown1 hg1 hat1)
  have hbel : Below w.heap.size w w1 := ((Below.refl _ _).alloc (Nat.le_refl _) _).grown hg1 (by simp) (by intro k hk; simp [Value.ownBlock] at hk; omega)
  simp only [Nat.zero_add, List.nil_append] at hown1
  obtain ⟨A1, c1, hv⟩ := own_shape hown1
  rw [hv] at hown1
  go_ret
  exact ⟨A1, c1, by rw [← hv]; rfl, hown1, hbel⟩

set_option maxHeartbeats 400000 in
theorem equal_any (A B : Option Addr) (l m : List UInt8) (c d : Nat) (w : World) (hb : Bs w A l) (hb2 : Bs w B m) :
    Calls Try.prog 16 #[.slice A l.length c, .slice B m.length d] w (Quietly (.bool (l == m)) w) := by
  have hl := hb.le
  have hm := hb2.le
  by_cases hlen : l.length = m.length
  · have hlen2 : l.length ≤ m.length := by omega
    have HL := Lib.hid hlen
    have ht : (((l.length : Nat) : Int) != ((m.length : Nat) : Int)) = false := by rw [bne_eq_false_iff_eq]; omega
    clear hlen
    go_enter Try.func16, Try.ntmps16
    go_wp2
    go_loopw [5] (fun i wr => ∃ k : Nat, k ≤ l.length ∧ i = .int .i64 k ∧ l.take k = m.take k ∧ ∃ n, wr = w.drewN n) (fun i _ => l.length - (intOf i).toNat)
    case atStart => exact ⟨0, Nat.zero_le _, rfl, rfl, 0, rfl⟩
    case round =>
      obtain ⟨k, hk, rfl, hpre, n, rfl⟩ := hrel
      have HP := Lib.hid hpre
      clear hpre
      by_cases hlt : k < l.length
      · have hlt2 : k < m.length := by omega
        obtain ⟨ad, rfl, _, hc1⟩ := hb.at_ hlt
        obtain ⟨bd, rfl, _, hc2⟩ := hb2.at_ hlt2
        go_wp2
        go_quiet (fail)
        go_wp2
        · have hne : ((l[k].toNat : Int) != (m[k].toNat : Int)) = true := by assumption
          go_ret
          refine ⟨ret_bool ?_, _, by first | rfl | exact World.drewN_drewN _ _ _⟩
          symm
          rw [beq_eq_false_iff_ne]
          rintro rfl
          simp at hne
        · have he : ((l[k].toNat : Int) != (m[k].toNat : Int)) = false := by assumption
          go_roundw
          case rel =>
            refine ⟨k + 1, by omega, by go_num, ?_, _, by first | rfl | exact World.drewN_drewN _ _ _⟩
            rw [List.take_succ_eq_append_getElem hlt, List.take_succ_eq_append_getElem hlt2, HP.out]
            rw [bne_eq_false_iff_eq] at he
            rw [show l[k] = m[k] from UInt8.toNat_inj.1 (by omega)]
          case measure => simp [intOf]; omega
      · go_wp2
        go_ret
        refine ⟨ret_bool ?_, _, rfl⟩
        have h := HP.out
        have h2 := HL.out
        rw [List.take_of_length_le (by omega), List.take_of_length_le (by omega)] at h
        subst h
        simp
  · have HE : Hid ((l == m) = false) := by show (l == m) = false; rw [beq_eq_false_iff_ne]; intro h; exact hlen (by rw [h])
    have ht : (((l.length : Nat) : Int) != ((m.length : Nat) : Int)) = true := by rw [bne_iff_ne]; omega
    go_enter Try.func16, Try.ntmps16
    go_wp2
    go_ret
    exact ⟨by rw [HE.out]; rfl, 0, rfl⟩

theorem mk_bss0 (n : Nat) (hn : n ≤ 5864062014805) (W : World) : (Instr.makeSlice 22 (.int .i64 0) (.int .i64 (n : Int))).run Try.prog W = .ok (.slice (some ⟨W.heap.size, 0, none⟩) 0 n) (W.alloc (.cells (madeCells #[.slice none 0 0] n) 23)) := by
  obtain ⟨i, hi, hz0, hz1, hz2⟩ := info_parts Try.infoBs
  have := run_make_rowN 22 23 i _ Try.underlying22 hi hz0 .i64 .i64 0 n (Nat.zero_le _) (by rw [hz2]; omega) (by omega) W
  rw [hz1, Nat.mul_one] at this
  exact this

set_option maxHeartbeats 400000 in
theorem copies_any (A : Option Addr) (ls : List (List UInt8)) (c : Nat) (w : World) (hb : Bss w A ls) :
    Calls Try.prog 13 #[.slice A ls.length c] w (RetBss ls w) := by
  have hl : ls.length ≤ 5864062014805 := hb.1
  obtain ⟨i0, hi0, hz0, hz1, hz2⟩ := info_parts Try.infoBs
  have hmk := mk_bss0 ls.length hl
  go_enter Try.func13, Try.ntmps13
  go_wp2_with fail
  go_loopw [3, 4] (fun v i wr => ∃ k vs, k ≤ ls.length ∧ i = .int .i64 (k : Nat) ∧ wr.ownsRow w.heap.size 23 1 v k vs ∧ OwnBss wr w.heap.size (ls.take k) vs ∧ Below w.heap.size w wr) (fun _ i _ => ls.length - (intOf i).toNat)
  case atStart => exact ⟨0, [], Nat.zero_le _, rfl, World.ownsRow_made w _ _ (Nat.le_refl _) (by simp only [maxLen]; omega) (by simp [size_madeCells]), ⟨rfl, fun i hi => by simp at hi⟩, (Below.refl _ _).alloc (Nat.le_refl _) _⟩
  case round =>
    obtain ⟨k, vs, hk, rfl, hown, hob, hbel⟩ := hrel
    by_cases hlt : k < ls.length
    · obtain ⟨ad, Ai, ci, rfl, _, hcell, hbs⟩ := (hb.below hbel).at_ hlt
      have hlk := hbs.le
      go_wp2_with fail
      refine (copy_any _ _ _ _ hbs).mono ?_
      rintro e w1 ⟨A1, c1, rfl, hown1, hbel1⟩
      have hrd := Reads.new1 w1 (.slice A1 ls[k].length c1) 23
      have hown' := own_below hown hbel1
      go_wp2_with (at_builtin; (refine wpList_append_any _ rfl (.tmp 14) (.tmp 20) _ rfl w.heap.size 23 i0 _ 1 24 Try.underlying22 hi0 hz0 hz1 hz2 rfl (by omega) _ k vs rfl (hown'.alloc _) _ _ 1 1 [.slice A1 ls[k].length c1] rfl hrd (by simp [Value.oneCell']) (by simp only [maxLen]; omega) (by omega) (by simp; have := hbel.size; have := hbel1.size; omega) ?_); intro v2 w2 hown2 hg2 hat2)
      have hob2 := (((hob.below hbel1).snoc (own_mono hown1 hbel.size) hlk).alloc (.cells #[.slice A1 ls[k].length c1] 23)).kept (hown'.alloc _) hg2
      have hbel2 : Below w.heap.size w w2 := ((hbel.trans (hbel1.mono hbel.size)).alloc (Nat.le_trans hbel.size hbel1.size) _).grown hg2 (by simp; have := hbel.size; have := hbel1.size; omega) (fun g hg => (hown.lt g hg).1)
      go_roundw
      case rel => exact ⟨k + 1, _, by omega, by go_num, hown2, by rw [List.take_succ_eq_append_getElem hlt]; exact hob2, hbel2⟩
      case measure => simp [intOf]; omega
    · obtain rfl : k = ls.length := by omega
      obtain ⟨A1, c1, hv⟩ := own_shape hown
      rw [hv] at hown
      rw [List.take_length] at hob
      go_wp2
      go_ret
      exact ⟨A1, c1, vs, by rw [← hv]; rfl, hown, hob, hbel⟩

end Go.Proofs.Ytkgggifliafclaa
