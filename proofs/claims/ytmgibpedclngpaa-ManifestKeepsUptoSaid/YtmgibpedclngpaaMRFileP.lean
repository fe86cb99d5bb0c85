/- The document's numbers are the reader's: plain. -/
import Derived.Test.YtmgibpedclngpaaMRNum
namespace Go.Proofs.Ytmgibpedclngpaa
open Go.RowKit

theorem numA_all : ∀ (f : Nat) (l : List UInt8) (q : Nat) (acc : List Nat), (numA f l (-1) q acc).1 = (dropA f l q acc).1 ∧ (numA f l (-1) q acc).2.2 = (dropA f l q acc).2
  | 0, _, _, _ => ⟨rfl, rfl⟩
  | f + 1, l, q, acc => by
    unfold numA dropA
    by_cases hq : q < l.length
    · rw [if_pos (.inl ⟨by omega, hq⟩), if_pos hq]
      by_cases he : (nxtN l q).2.2 ≠ 0
      · rw [if_pos he, if_pos he]; exact ⟨rfl, rfl⟩
      · rw [if_neg he, if_neg he]; exact numA_all f l _ _
    · rw [if_neg (by omega), if_neg hq]; exact ⟨rfl, rfl⟩
theorem numA_more {f : Nat} {l : List UInt8} {n : Int} {q : Nat} {acc : List Nat} (hf : l.length + 1 ≤ q + f) (hq : q ≤ l.length) (hc : (acc.length : Int) < n) :
    ∃ g, numA f l n q acc = (if (nxtN l q).2.2 ≠ 0 then ([], 0, (nxtN l q).2.2) else numA g l n (nxtN l q).2.1 (acc ++ [(nxtN l q).1])) ∧ ((nxtN l q).2.2 = 0 → l.length + 1 ≤ (nxtN l q).2.1 + g ∧ (nxtN l q).2.1 ≤ l.length) := by
  obtain ⟨g, rfl⟩ : ∃ g, f = g + 1 := ⟨f - 1, by omega⟩
  refine ⟨g, ?_, fun h => ⟨by have := nxtN_gt h; omega, nxtN_le hq⟩⟩
  conv => lhs; unfold numA
  rw [if_pos (.inr hc)]
theorem numA_end {f : Nat} {l : List UInt8} {n : Int} {q : Nat} {acc : List Nat} (hn : ¬ n < 0) (hc : ¬ (acc.length : Int) < n) : numA f l n q acc = (acc, q, 0) := by
  cases f with
  | zero => rfl
  | succ f =>
    unfold numA
    rw [if_neg (by omega)]
theorem nN_zero (l : List UInt8) (q : Nat) : nN l q 0 = nxtN l q := if_neg (fun h => h rfl)
theorem nN_bad {l : List UInt8} {q : Nat} {e : Int} (h : e ≠ 0) : nN l q e = (0, q, e) := if_pos h
theorem tN_zero (l : List UInt8) (q : Nat) : tN l q 0 = nxtT l q := if_neg (fun h => h rfl)
theorem tN_bad {l : List UInt8} {q : Nat} {e : Int} (h : e ≠ 0) : tN l q e = ([], q, e) := if_pos h
theorem doneE_bad {l : List UInt8} {q : Nat} {e : Int} (h : e ≠ 0) : doneE l q e = e := if_neg (fun h2 => h h2.1)
/-- one number: the head of an edit -/
theorem numA_one {l : List UInt8} {q : Nat} (hq : q ≤ l.length) : numA (l.length + 1) l 1 q [] = if (nxtN l q).2.2 ≠ 0 then ([], 0, (nxtN l q).2.2) else ([(nxtN l q).1], (nxtN l q).2.1, 0) := by
  obtain ⟨g, h, _⟩ := numA_more (f := l.length + 1) (l := l) (n := 1) (q := q) (acc := []) (by omega) hq (by decide)
  rw [h]
  by_cases he : (nxtN l q).2.2 ≠ 0
  · rw [if_pos he, if_pos he]
  · rw [if_neg he, if_neg he]; exact numA_end (by decide) (by simp)
/-- four numbers: the head of a file -/
theorem numA_four {p : List UInt8} {n1 n2 n3 n4 q1 q2 q3 q4 : Nat} {e1 e2 e3 e4 : Int} (h1 : nN p 0 0 = (n1, q1, e1)) (h2 : nN p q1 e1 = (n2, q2, e2)) (h3 : nN p q2 e2 = (n3, q3, e3)) (h4 : nN p q3 e3 = (n4, q4, e4)) :
    numA (p.length + 1) p 4 0 [] = if e4 ≠ 0 then ([], 0, e4) else ([n1, n2, n3, n4], q4, 0) := by
  rw [nN_zero] at h1
  obtain ⟨g1, k1, m1⟩ := numA_more (f := p.length + 1) (l := p) (n := 4) (q := 0) (acc := []) (by omega) (Nat.zero_le _) (by decide)
  rw [k1]
  rw [h1] at m1 ⊢
  by_cases d1 : e1 ≠ 0
  · rw [nN_bad d1] at h2; cases h2
    rw [nN_bad d1] at h3; cases h3
    rw [nN_bad d1] at h4; cases h4
    rw [if_pos d1, if_pos d1]
  · obtain rfl : e1 = 0 := Classical.byContradiction d1
    rw [if_neg (fun h => h rfl)]
    obtain ⟨a1, b1⟩ := m1 rfl
    rw [nN_zero] at h2
    obtain ⟨g2, k2, m2⟩ := numA_more (n := 4) (acc := [] ++ [n1]) a1 b1 (by show ((1 : Nat) : Int) < 4; decide)
    dsimp only at k2 m2 ⊢
    rw [k2]
    rw [h2] at m2 ⊢
    by_cases d2 : e2 ≠ 0
    · rw [nN_bad d2] at h3; cases h3
      rw [nN_bad d2] at h4; cases h4
      rw [if_pos d2, if_pos d2]
    · obtain rfl : e2 = 0 := Classical.byContradiction d2
      rw [if_neg (fun h => h rfl)]
      obtain ⟨a2, b2⟩ := m2 rfl
      rw [nN_zero] at h3
      obtain ⟨g3, k3, m3⟩ := numA_more (n := 4) (acc := [] ++ [n1] ++ [n2]) a2 b2 (by show ((2 : Nat) : Int) < 4; decide)
      dsimp only at k3 m3 ⊢
      rw [k3]
      rw [h3] at m3 ⊢
      by_cases d3 : e3 ≠ 0
      · rw [nN_bad d3] at h4; cases h4
        rw [if_pos d3, if_pos d3]
      · obtain rfl : e3 = 0 := Classical.byContradiction d3
        rw [if_neg (fun h => h rfl)]
        obtain ⟨a3, b3⟩ := m3 rfl
        rw [nN_zero] at h4
        obtain ⟨g4, k4, m4⟩ := numA_more (n := 4) (acc := [] ++ [n1] ++ [n2] ++ [n3]) a3 b3 (by show ((3 : Nat) : Int) < 4; decide)
        dsimp only at k4 m4 ⊢
        rw [k4]
        rw [h4] at m4 ⊢
        by_cases d4 : e4 ≠ 0
        · rw [if_pos d4, if_pos d4]
        · obtain rfl : e4 = 0 := Classical.byContradiction d4
          rw [if_neg (fun h => h rfl), if_neg (fun h => h rfl)]
          exact numA_end (by decide) (by show ¬ ((4 : Nat) : Int) < 4; decide)
end Go.Proofs.Ytmgibpedclngpaa
