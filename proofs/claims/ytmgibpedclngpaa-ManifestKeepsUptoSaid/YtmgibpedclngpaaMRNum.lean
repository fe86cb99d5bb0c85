/- Numbers in the document's words: caissonref12.numbers. (Printed by wip/gen_mrnum.py.) -/
import Derived.Test.YtmgibpedclngpaaMDec
namespace Go.Proofs.Ytmgibpedclngpaa
open Go.RowKit

theorem rgetu_nx (A : Option Addr) (l : List UInt8) (c q : Nat) (w : World) (hb : Bs w A l) (hq : q ≤ l.length) : Calls Try.prog 67 #[.slice A l.length c, .int .i64 (q : Int)] w fun en w' => en = .returned (.tuple #[.int .u64 ((nxtN l q).1 : Int), .int .i64 ((nxtN l q).2.1 : Int), .int .i64 (nxtN l q).2.2]) ∧ w' = w :=
  (rgetu_any A l c q w hb hq).mono fun en w' ⟨h1, h2⟩ => by
    refine ⟨?_, h2⟩
    rw [h1]
    show _ = Ending.returned (.tuple #[_, .int .i64 ((if (getF (l.drop q) 0 0).2.2 = 0 then q + (getF (l.drop q) 0 0).2.1 else 0 : Nat) : Int), _])
    split <;> rfl
theorem rgett_nx (A : Option Addr) (l : List UInt8) (c q : Nat) (w : World) (hb : Bs w A l) (hq : q ≤ l.length) (hl5 : l.length ≤ 1099511627776) : Calls Try.prog 68 #[.slice A l.length c, .int .i64 (q : Int)] w fun en w' => ∃ D d, en = .returned (.tuple #[.slice D (nxtT l q).1.length d, .int .i64 ((nxtT l q).2.1 : Int), .int .i64 (nxtT l q).2.2]) ∧ OwnB w.heap.size w' D (nxtT l q).1 d ∧ Below w.heap.size w w' :=
  (rgettext_any A l c q w hb hq hl5).mono fun en w' ⟨D, d, h1, h2, h3⟩ => by
    refine ⟨D, d, ?_, h2, h3⟩
    rw [h1]
    show _ = Ending.returned (.tuple #[_, .int .i64 ((if (getT (l.drop q)).2.2 = 0 then q + (getT (l.drop q)).2.1 else 0 : Nat) : Int), _])
    split <;> rfl
/-- numbers from place q on: n of them, or all where n is negative -/
def numA : Nat → List UInt8 → Int → Nat → List Nat → List Nat × Nat × Int
  | 0, _, _, q, acc => (acc, q, 0)
  | f + 1, l, n, q, acc => if (n < 0 ∧ q < l.length) ∨ (acc.length : Int) < n then (if (nxtN l q).2.2 ≠ 0 then ([], 0, (nxtN l q).2.2) else numA f l n (nxtN l q).2.1 (acc ++ [(nxtN l q).1])) else (acc, q, 0)
def RetNums (r : List Nat × Nat × Int) (w : World) (en : Ending) (w' : World) : Prop :=
  ∃ D d, en = .returned (.tuple #[.slice D r.1.length d, .int .i64 (r.2.1 : Int), .int .i64 r.2.2]) ∧ Own NE 23 w' w.heap.size (fun _ => False) (.slice D r.1.length d) r.1 ∧ Below w.heap.size w w'
set_option maxRecDepth 100000 in
set_option maxHeartbeats 4000000 in
theorem numbers_any (A : Option Addr) (l : List UInt8) (c at_ : Nat) (n : Int) (w : World) (hb : Bs w A l) (hat : at_ ≤ l.length) (hl5 : l.length ≤ 1048576) : Calls Try.prog 55 #[.slice A l.length c, .int .i64 (at_ : Int), .int .i64 n] w (RetNums (numA (l.length + 1) l n at_ []) w) := by
  obtain ⟨i1, hi1, hy0, hy1, hy2⟩ := info_parts Try.infoU64
  obtain ⟨R, hR⟩ : ∃ R, numA (l.length + 1) l n at_ [] = R := ⟨_, rfl⟩
  rw [hR]
  have HR0 := Lib.hid hR
  clear hR
  go_enter Try.func55, Try.ntmps55
  go_wp2_with fail
  go_loopw [1, 9, 10, 11, 12] (fun a o _ _ _ wr => ∃ (q f : Nat) (acc : List Nat) (D : Option Addr) (d : Nat), a = .int .i64 (q : Int) ∧ o = .slice D acc.length d ∧ q ≤ l.length ∧ acc.length ≤ q ∧ l.length + 1 ≤ q + f ∧ numA f l n q acc = R ∧ Own NE 23 wr w.heap.size (fun _ => False) (.slice D acc.length d) acc ∧ Below w.heap.size w wr) (fun a _ _ _ _ _ => l.length - (intOf a).toNat)
  case atStart => exact ⟨at_, l.length + 1, [], none, 0, rfl, rfl, hat, Nat.zero_le _, by omega, HR0.out, Own.nil_ _ _ _ _ _, Below.refl _ _⟩
  case round =>
    obtain ⟨q, f, acc, D, d, rfl, rfl, hq, haq, hf, hrest, oD, b⟩ := hrel
    obtain ⟨f, rfl⟩ : ∃ g, f = g + 1 := ⟨f - 1, by omega⟩
    have hba := hb.below b
    by_cases hcond : (n < 0 ∧ q < l.length) ∨ (acc.length : Int) < n
    · have HST : Hid ((if (nxtN l q).2.2 ≠ 0 then ([], 0, (nxtN l q).2.2) else numA f l n (nxtN l q).2.1 (acc ++ [(nxtN l q).1])) = R) := by
        show _ = _
        rw [← hrest]
        conv => rhs; unfold numA
        rw [if_pos hcond]
      clear hrest
      have T := rgetu_nx A l c q wr hba hq
      have hle := nxtN_le hq
      have HGT : Hid ((nxtN l q).2.2 = 0 → q < (nxtN l q).2.1) := nxtN_gt
      have hu : U64 (nxtN l q).1 := by have := nN_u64 l q 0; rw [show nN l q 0 = nxtN l q from if_neg (fun h => h rfl)] at this; exact this
      generalize nxtN l q = r at *
      obtain ⟨nn, q', e'⟩ := r
      replace hle : q' ≤ l.length := hle
      replace HGT : Hid (e' = 0 → q < q') := HGT
      replace hu : U64 nn := hu
      replace HST : Hid ((if e' ≠ 0 then ([], 0, e') else numA f l n q' (acc ++ [nn])) = R) := HST
      have hfact : (n < 0 ∧ (q : Int) < (l.length : Int)) ∨ (¬ n < 0 ∧ (acc.length : Int) < n) := by omega
      clear hcond
      by_cases he : e' ≠ 0
      · have de : (e' != 0) = true := by rw [bne_iff_ne]; exact he
        have HE : Hid (R = ([], 0, e')) := by show _ = _; rw [← HST.out]; exact if_pos he
        clear he HST
        rcases hfact with ⟨d1, d2⟩ | ⟨d1, d2⟩
        all_goals
          go_wp2_with (go_at_call 67; refine T.mono ?_; rintro en wv ⟨rfl, rfl⟩)
          go_ret3
          rw [HE.out]
          exact ⟨none, 0, rfl, Own.nil_ _ _ _ _ _, b⟩
      · obtain rfl : e' = 0 := Classical.byContradiction he
        have HN : Hid (numA f l n q' (acc ++ [nn]) = R) := by show _ = _; rw [← HST.out]; exact (if_neg he).symm
        have hgt := HGT.out rfl
        clear he HST
        have dX : Below wr.heap.size wr (wr.alloc (.cells #[.int .u64 (nn : Int)] 23)) := (Below.refl _ _).alloc (Nat.le_refl _) _
        have oX := Own.below oD dX
        have bX := b.trans (dX.mono b.size)
        have hrd := Reads.new1 wr (.int .u64 (nn : Int)) 23
        have hL1 : (acc.length + 1) * NE.bytes ≤ 140737488355328 := by simp only [NE]; omega
        have hL2 : acc.length + 1 ≤ maxLen := by simp only [maxLen]; omega
        have HM : Hid (l.length - q' < l.length - q) := by show _ < _; omega
        have HA9 : Hid (acc.length + 1 ≤ q') := by show _ ≤ _; omega
        have HF9 : Hid (l.length + 1 ≤ q' + f) := by show _ ≤ _; omega
        clear oD b dX
        rcases hfact with ⟨d1, d2⟩ | ⟨d1, d2⟩
        all_goals
          go_wp2_with (first
            | (go_at_call 67; refine T.mono ?_; rintro en wv ⟨rfl, rfl⟩)
            | (at_builtin; refine wpList_appE NE w.heap.size w _ rfl (.tmp 37) (.tmp 39) 23 33 rfl i1 _ Try.underlying33 hi1 hy0 hy1 hy2 rfl (fun _ => False) D acc d rfl oX _ [.int .u64 (nn : Int)] nn 1 rfl _ hrd ⟨rfl, hu⟩ hL1 hL2 bX (Nat.le_refl _) bX.size ?_; intro A9 d9 acc9 w9 H9 o9 b9 g9 t9; skip))
          have hl9 : acc9.length ≤ q' := by rw [H9.out, List.length_append]; exact HA9.out
          have HN9 : Hid (numA f l n q' acc9 = R) := by show _ = _; rw [H9.out]; exact HN.out
          go_roundw
          case rel => exact ⟨q', f, acc9, A9, d9, rfl, rfl, hle, hl9, HF9.out, HN9.out, o9, b9⟩
          case measure => simp only [intOf, Int.toNat_natCast]; exact HM.out
    · have HE : Hid (R = (acc, q, 0)) := by
        show _ = _
        rw [← hrest]
        unfold numA
        rw [if_neg hcond]
      have hfact : (n < 0 ∧ ¬ (q : Int) < (l.length : Int) ∧ ¬ (acc.length : Int) < n) ∨ (¬ n < 0 ∧ ¬ (acc.length : Int) < n) := by omega
      clear hcond hrest
      rcases hfact with ⟨d1, d2, d3⟩ | ⟨d1, d3⟩
      all_goals
        go_wp2_with fail
        go_ret3
        rw [HE.out]
        exact ⟨D, d, rfl, oD, b⟩
end Go.Proofs.Ytmgibpedclngpaa
