/- The error of a row's key, and the key: plain laws. -/
import Derived.Test.YtfededjcadmpbaaDoorKeyL
import Derived.Test.YtfededjcadmpbaaDoorVals
namespace Go.Proofs.YtfededjcadmpbaaDoor
open Go.RowKit

/-- the error of a row's key -/
def keyE (id keys : Int) (tn : ByteArray) (cols : List LCol) (ixs : List LIx) (xs : List LVal) : Int :=
  if checkI id keys tn cols ixs ≠ 0 then checkI id keys tn cols ixs else if (xs.length : Int) ≠ keys ∧ xs.length ≠ cols.length then 1 else valuesE cols xs 0
/-- a row's key -/
def rowKey (id keys : Int) (xs : List LVal) : List UInt8 := [114, UInt8.ofInt id] ++ keyL (xs.take keys.toNat)
def keyB (id keys : Int) (tn : ByteArray) (cols : List LCol) (ixs : List LIx) (xs : List LVal) : List UInt8 :=
  if keyE id keys tn cols ixs xs = 0 then rowKey id keys xs else []

theorem valuesE_take : ∀ {cols : List LCol} {xs : List LVal} {n : Nat} {a : Int}, xs.length ≤ n → valuesE (cols.take n) xs a = valuesE cols xs a
  | [], xs, n, a, _ => by simp
  | c :: cols, [], n, a, _ => by
    cases n <;> (unfold valuesE; rfl)
  | c :: cols, x :: xs, 0, a, h => by simp at h
  | c :: cols, x :: xs, n + 1, a, h => by
    show valuesE (cols.take n) xs (worse a (valErr c x)) = valuesE cols xs (worse a (valErr c x))
    exact valuesE_take (by simpa using h)
theorem worse_zero {a e : Int} (h : worse a e = 0) : a = 0 ∧ e = 0 := by
  unfold worse at h
  by_cases h1 : e ≠ 0 ∧ (a = 0 ∨ e < a)
  · rw [if_pos h1] at h; exact absurd h h1.1
  · rw [if_neg h1] at h
    exact ⟨h, Classical.byContradiction fun h2 => h1 ⟨h2, .inl h⟩⟩
theorem valuesE_zero : ∀ {cols : List LCol} {xs : List LVal} {a : Int}, xs.length ≤ cols.length → valuesE cols xs a = 0 → a = 0 ∧ ∀ i (h1 : i < cols.length) (h2 : i < xs.length), valErr cols[i] xs[i] = 0
  | cols, [], a, _, h => by
    cases cols <;> (unfold valuesE at h; exact ⟨h, fun i _ h2 => absurd h2 (by simp)⟩)
  | [], x :: xs, a, hl, _ => by simp at hl
  | c :: cols, x :: xs, a, hl, h => by
    obtain ⟨h1, h2⟩ := valuesE_zero (cols := cols) (xs := xs) (a := worse a (valErr c x)) (by simpa using hl) h
    obtain ⟨h3, h4⟩ := worse_zero h1
    refine ⟨h3, fun i hi1 hi2 => ?_⟩
    cases i with
    | zero => exact h4
    | succ i => exact h2 i (by simpa using hi1) (by simpa using hi2)
theorem valErr_len {c : LCol} {x : LVal} (h : valErr c x = 0) : x.l.length ≤ 200 := by
  unfold valErr at h
  by_cases h1 : x.err ≠ 0
  · rw [if_pos h1] at h; cases h
  rw [if_neg h1] at h
  by_cases h2 : x.isT = true ∧ 200 < (runesL x.t).length
  · rw [if_pos h2] at h; cases h
  rw [if_neg h2] at h
  by_cases h3 : x.isL = true ∧ 200 < x.l.length
  · rw [if_pos h3] at h; cases h
  cases x with
  | bytes l => exact Nat.le_of_not_lt fun h4 => h3 ⟨rfl, h4⟩
  | _ => exact Nat.zero_le _
theorem values_small {cols : List LCol} {xs : List LVal} (hl : xs.length ≤ cols.length) (h : valuesE cols xs 0 = 0) : ∀ x ∈ xs, x.l.length ≤ 1048576 := fun x hx => by
  obtain ⟨i, hi, rfl⟩ := List.getElem_of_mem hx
  exact Nat.le_trans (valErr_len ((valuesE_zero hl h).2 i (by omega) hi)) (by decide)
theorem check_head {id keys : Int} {tn : ByteArray} {cols : List LCol} {ixs : List LIx} (h : checkI id keys tn cols ixs = 0) : 1 ≤ id ∧ id ≤ 255 ∧ 1 ≤ keys ∧ keys ≤ (cols.length : Int) ∧ cols.length ≤ 16 := by
  unfold checkI at h
  by_cases h1 : 16 < cols.length
  · rw [if_pos h1] at h; cases h
  rw [if_neg h1] at h
  by_cases h2 : 4 < ixs.length
  · rw [if_pos h2] at h; cases h
  rw [if_neg h2] at h
  by_cases h3 : headB id keys tn cols.length = false
  · rw [if_pos h3] at h; cases h
  have h5 : headB id keys tn cols.length = true := by simpa using h3
  unfold headB at h5
  simp only [Bool.and_eq_true, decide_eq_true_eq] at h5
  omega
end Go.Proofs.YtfededjcadmpbaaDoor
