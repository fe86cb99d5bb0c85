/- Texts and bytes: the two conversions. Keys of values, and their order: plain laws. The error of a row's key, and the key: plain laws. -/
import Derived.Test.YtfededjcadmpbaaGreatDoorFoldA
import Derived.Laws.IdiomStrings
import Derived.Laws.BytesArg
import Derived.Lib.ConvBytes
import Derived.Test.YtfededjcadmpbaaGreatDoorOrdA
import Derived.Test.YtfededjcadmpbaaGreatDoorCell
import Derived.Test.YtfededjcadmpbaaGreatDoorVals
namespace Go.Proofs.YtfededjcadmpbaaGreatDoor
open Go.RowKit

theorem conv_any (A : Option Addr) (l : List UInt8) (c : Nat) (w : World) (hb : Bs w A l) : (convert 46 9 (.slice A l.length c)).run Tryz.prog w = .ok (.string ⟨l.toArray⟩) w := by
  cases A with
  | none =>
    have h0 : l.length = 0 := by
      apply Classical.byContradiction; intro h
      obtain ⟨ad, e, _⟩ := hb.at_ (show 0 < l.length by omega)
      cases e
    obtain rfl : l = [] := List.length_eq_zero_iff.1 h0
    exact run_convert_bytes_nil w 46 5 Tryz.underlying46 Tryz.underlying5 _ _ 9 Tryz.underlying9
  | some ad =>
    refine run_convert_bytes_back w 46 9 5 ad c l Tryz.underlying46 Tryz.underlying5 Tryz.underlying9 fun j hj => ?_
    obtain ⟨ad2, e, _, hc⟩ := hb.at_ hj
    obtain rfl := Option.some.inj e
    exact hc

/-- a text's bytes -/
def strL (s : ByteArray) : List UInt8 := s.data.toList
theorem strL_len (s : ByteArray) : (strL s).length = s.size := by unfold strL; rw [Array.length_toList]; rfl
theorem strL_mk (l : List UInt8) : strL ⟨l.toArray⟩ = l := by simp [strL]
theorem below_bytes (w : World) (e : TypeId) (s : ByteArray) : Below w.heap.size w (Lib.bytesWorld w e s) :=
  ⟨rfl, rfl, rfl, by rw [Lib.bytesWorld_size]; omega, fun j hj => Lib.bytesWorld_at_old w e s j hj⟩
theorem str_conv (s : ByteArray) (hs : s.size ≤ 140737488355328) (w : World) :
    ∃ D c W, (convert 9 46 (.string s)).run Tryz.prog w = .ok (.slice D (strL s).length c) W ∧ Bs W D (strL s) ∧ Below w.heap.size w W := by
  refine ⟨_, _, _, by rw [strL_len]; exact Lib.run_convert_string_bytes w 9 46 5 s Tryz.underlying9 Tryz.underlying46 Tryz.underlying5, ⟨⟨by rw [List.length_map, Nat.mul_one], fun _ => ⟨_, rfl, by rw [Lib.bytesWorld_size]; exact Nat.lt_succ_self _, fun j u hu => ?_⟩⟩, by rw [strL_len]; exact hs⟩, below_bytes _ _ _⟩
  have hj : j < s.size := by
    have := (List.getElem?_eq_some_iff.1 hu).1
    rw [List.length_map, strL_len] at this
    exact this
  rw [add_row, Lib.bytesWorld_cell w 5 s j hj, ← hu, List.getElem?_map]
  have h2 : j < (strL s).length := by rw [strL_len]; exact hj
  rw [List.getElem?_eq_getElem h2]
  have h3 : s.data.toList.getD j 0 = (strL s)[j] := by
    show (strL s).getD j 0 = _
    rw [List.getD_eq_getElem?_getD, List.getElem?_eq_getElem h2]; rfl
  rw [h3]; rfl
end Go.Proofs.YtfededjcadmpbaaGreatDoor

namespace Go.Proofs.YtfededjcadmpbaaGreatDoor
open Go.RowKit

/-- a text's key -/
def tkey (s : ByteArray) : List UInt8 := ordT (foldL s) ++ ordT (strL s)
/-- an int's bytes in a key -/
def okey (n : Int) : List UInt8 := beN 8 (n + 9223372036854775808).toNat
def LVal.key : LVal → List UInt8
  | .null => [0]
  | .bool b => [1, if b then 1 else 0]
  | .int n => 2 :: okey n
  | .text s => 3 :: tkey s
  | .bytes l => 4 :: ordT l
  | .other _ => []
def keyL (xs : List LVal) : List UInt8 := xs.flatMap LVal.key
/-- how two values compare -/
def cmpV (x y : LVal) : Int :=
  if x.kind ≠ y.kind then (if x.kind < y.kind then -1 else 1) else
    match x, y with
    | .bool a, .bool b => if (!a && b) = true then -1 else if (a && !b) = true then 1 else 0
    | .int a, .int b => cmpI a b
    | .text s, .text t => cmpL (tkey s) (tkey t)
    | x, y => cmpL x.l y.l
/-- an int in form -/
def LVal.wfv (x : LVal) : Prop := -9223372036854775808 ≤ x.n ∧ x.n < 9223372036854775808
/-- the first that is none of nought -/
def firstNZ : List LVal → List LVal → Int
  | x :: xs, y :: ys => orI (cmpV x y) (firstNZ xs ys)
  | _, _ => 0

theorem tkey_cmp (a b : ByteArray) : PF (tkey a) (tkey b) := (PF.ordT _ _).append (PF.ordT _ _)
theorem PF.cons {x y : List UInt8} (h : PF x y) (c : UInt8) : PF (c :: x) (c :: y) := fun s t => by
  rw [List.cons_append, List.cons_append, cmpL_cons, cmpL_cons, h]
theorem PF.lt {a b : UInt8} (h : a.toNat < b.toNat) (x y : List UInt8) : PF (a :: x) (b :: y) := fun s t => by
  rw [List.cons_append, List.cons_append, cmpL_lt h, cmpL_lt h]; rfl
theorem PF.gt {a b : UInt8} (h : b.toNat < a.toNat) (x y : List UInt8) : PF (a :: x) (b :: y) := fun s t => by
  rw [List.cons_append, List.cons_append, cmpL_gt h, cmpL_gt h]; rfl
theorem okey_cmp {a b : Int} (ha : -9223372036854775808 ≤ a ∧ a < 9223372036854775808) (hb : -9223372036854775808 ≤ b ∧ b < 9223372036854775808) : cmpL (okey a) (okey b) = cmpI a b := by
  unfold okey
  rw [beN_cmp 8 _ _ (by omega) (by omega)]
  unfold cmpI
  rw [Int.toNat_of_nonneg (by omega), Int.toNat_of_nonneg (by omega)]
  repeat' split
  all_goals omega
theorem key_cmp {x y : LVal} (hx : x.err = 0) (hy : y.err = 0) (wx : x.wfv) (wy : y.wfv) : PF x.key y.key ∧ cmpL x.key y.key = cmpV x y := by
  cases x <;> cases y
  all_goals first
    | exact absurd hx (show ¬ ((10 : Int) = 0) by decide)
    | exact absurd hy (show ¬ ((10 : Int) = 0) by decide)
    | exact ⟨PF.lt (by decide) _ _, cmpL_lt (by decide) _ _⟩
    | exact ⟨PF.gt (by decide) _ _, cmpL_gt (by decide) _ _⟩
    | skip
  · exact ⟨fun _ _ => cmpL_cons _ _ _, rfl⟩
  · rename_i a b
    cases a <;> cases b <;> exact ⟨PF.of_len rfl, rfl⟩
  · rename_i a b
    exact ⟨PF.of_len (by show (2 :: okey a).length = (2 :: okey b).length; unfold okey; simp [beN_len]), by show cmpL (2 :: okey a) (2 :: okey b) = cmpI a b; rw [cmpL_cons]; exact okey_cmp wx wy⟩
  · exact ⟨(tkey_cmp _ _).cons 3, cmpL_cons _ _ _⟩
  · exact ⟨(PF.ordT _ _).cons 4, (cmpL_cons _ _ _).trans (ordT_cmp0 _ _)⟩
theorem keyL_cmp : ∀ {xs ys : List LVal}, xs.length = ys.length → (∀ x ∈ xs, x.err = 0 ∧ x.wfv) → (∀ y ∈ ys, y.err = 0 ∧ y.wfv) → PF (keyL xs) (keyL ys) ∧ cmpL (keyL xs) (keyL ys) = firstNZ xs ys
  | [], [], _, _, _ => ⟨PF.nil_, rfl⟩
  | x :: xs, y :: ys, hl, hx, hy => by
    obtain ⟨i1, i2⟩ := keyL_cmp (xs := xs) (ys := ys) (by simpa using hl) (fun z hz => hx z (List.mem_cons_of_mem _ hz)) (fun z hz => hy z (List.mem_cons_of_mem _ hz))
    have h1 := hx x (List.mem_cons_self ..)
    have h2 := hy y (List.mem_cons_self ..)
    obtain ⟨j1, j2⟩ := key_cmp h1.1 h2.1 h1.2 h2.2
    have e1 : keyL (x :: xs) = x.key ++ keyL xs := rfl
    have e2 : keyL (y :: ys) = y.key ++ keyL ys := rfl
    rw [e1, e2]
    refine ⟨j1.append i1, ?_⟩
    rw [j1, i2, j2]
    rfl
theorem firstNZ_drop {xs ys : List LVal} {k : Nat} (h1 : k < xs.length) (h2 : k < ys.length) : firstNZ (xs.drop k) (ys.drop k) = orI (cmpV xs[k] ys[k]) (firstNZ (xs.drop (k + 1)) (ys.drop (k + 1))) := by
  rw [List.drop_eq_getElem_cons h1, List.drop_eq_getElem_cons h2]; rfl
theorem orI_right {a : Int} : orI a 0 = a := by
  unfold orI
  by_cases h : a = 0
  · subst h; rfl
  · rw [if_pos h]

/-! lengths -/
theorem foldL_len (s : ByteArray) : (foldL s).length ≤ 4 * s.size := by
  have : ∀ l : List (Nat × Nat), (l.flatMap fun p => Lib.encodeRune (lowZ p.1)).length ≤ 4 * l.length := by
    intro l
    induction l with
    | nil => simp
    | cons x l ih =>
      rw [List.flatMap_cons, List.length_append, List.length_cons]
      have h := Lib.runeCells_le (lowZ (x.1 : Int))
      rw [Lib.runeCells_length] at h
      omega
  have h1 := this (runesL s)
  have h2 : (runesL s).length ≤ s.size := by rw [runesL_len]; exact Lib.runeCount_le s
  have h3 : (foldL s).length ≤ 4 * (runesL s).length := h1
  omega
theorem tkey_len (s : ByteArray) : (tkey s).length ≤ 10 * s.size + 4 := by
  have h1 := ordT_len (foldL s)
  have h2 := ordT_len (strL s)
  have h3 := foldL_len s
  rw [strL_len] at h2
  unfold tkey
  rw [List.length_append]
  omega
theorem okey_len (n : Int) : (okey n).length = 8 := beN_len _ _
/-- no great text and no great bytes -/
def LVal.sm (x : LVal) : Prop := x.t.size ≤ 1048576 ∧ x.l.length ≤ 1048576
theorem key_len {x : LVal} (h : x.sm) : x.key.length ≤ 16777216 := by
  obtain ⟨h1, h2⟩ := h
  cases x with
  | null => exact by decide
  | bool b => show 2 ≤ 16777216; decide
  | other n => show 0 ≤ 16777216; decide
  | int n => show (2 :: okey n).length ≤ _; rw [List.length_cons, okey_len]; decide
  | text s => 
    have := tkey_len s
    show (3 :: tkey s).length ≤ _
    have h3 : s.size ≤ 1048576 := h1
    rw [List.length_cons]; omega
  | bytes l =>
    have := ordT_len l
    show (4 :: ordT l).length ≤ _
    have h3 : l.length ≤ 1048576 := h2
    rw [List.length_cons]; omega
theorem keyL_len : ∀ {xs : List LVal}, (∀ x ∈ xs, x.sm) → (keyL xs).length ≤ 16777216 * xs.length
  | [], _ => by simp [keyL]
  | x :: xs, h => by
    have h1 := key_len (h x (List.mem_cons_self ..))
    have h2 := keyL_len (xs := xs) fun y hy => h y (List.mem_cons_of_mem _ hy)
    have e : keyL (x :: xs) = x.key ++ keyL xs := rfl
    rw [e, List.length_append, List.length_cons]
    omega
end Go.Proofs.YtfededjcadmpbaaGreatDoor

namespace Go.Proofs.YtfededjcadmpbaaGreatDoor
open Go.RowKit

/-- the error of a row's key -/
def keyE (id keys : Int) (tn : ByteArray) (cols : List LCol) (ixs : List LIx) (xs : List LVal) : Int :=
  if checkI id keys tn cols ixs ≠ 0 then checkI id keys tn cols ixs else if (xs.length : Int) ≠ keys ∧ xs.length ≠ cols.length then 1 else valuesE cols xs 0
/-- a row's key -/
def rowKey (id keys : Int) (xs : List LVal) : List UInt8 := [114, UInt8.ofInt id] ++ keyL (xs.take keys.toNat)
def keyB (id keys : Int) (tn : ByteArray) (cols : List LCol) (ixs : List LIx) (xs : List LVal) : List UInt8 :=
  if keyE id keys tn cols ixs xs = 0 then rowKey id keys xs else []

theorem valuesE_take : ∀ {cols : List LCol} {xs : List LVal} {n : Nat} {a : Int}, xs.length ≤ n → valuesE (cols.take n) xs a = valuesE cols xs a
  | [], xs, n, a, _ => by simp
  | c :: cols, [], n, a, _ => by
    cases n <;> (unfold valuesE; rfl)
  | c :: cols, x :: xs, 0, a, h => by simp at h
  | c :: cols, x :: xs, n + 1, a, h => by
    show valuesE (cols.take n) xs (worse a (valErr c x)) = valuesE cols xs (worse a (valErr c x))
    exact valuesE_take (by simpa using h)
theorem worse_zero {a e : Int} (h : worse a e = 0) : a = 0 ∧ e = 0 := by
  unfold worse at h
  by_cases h1 : e ≠ 0 ∧ (a = 0 ∨ e < a)
  · rw [if_pos h1] at h; exact absurd h h1.1
  · rw [if_neg h1] at h
    exact ⟨h, Classical.byContradiction fun h2 => h1 ⟨h2, .inl h⟩⟩
theorem valuesE_zero : ∀ {cols : List LCol} {xs : List LVal} {a : Int}, xs.length ≤ cols.length → valuesE cols xs a = 0 → a = 0 ∧ ∀ i (h1 : i < cols.length) (h2 : i < xs.length), valErr cols[i] xs[i] = 0
  | cols, [], a, _, h => by
    cases cols <;> (unfold valuesE at h; exact ⟨h, fun i _ h2 => absurd h2 (by simp)⟩)
  | [], x :: xs, a, hl, _ => by simp at hl
  | c :: cols, x :: xs, a, hl, h => by
    obtain ⟨h1, h2⟩ := valuesE_zero (cols := cols) (xs := xs) (a := worse a (valErr c x)) (by simpa using hl) h
    obtain ⟨h3, h4⟩ := worse_zero h1
    refine ⟨h3, fun i hi1 hi2 => ?_⟩
    cases i with
    | zero => exact h4
    | succ i => exact h2 i (by simpa using hi1) (by simpa using hi2)
theorem valErr_len {c : LCol} {x : LVal} (h : valErr c x = 0) : x.l.length ≤ 200 := by
  unfold valErr at h
  by_cases h1 : x.err ≠ 0
  · rw [if_pos h1] at h; cases h
  rw [if_neg h1] at h
  by_cases h2 : x.isT = true ∧ 200 < (runesL x.t).length
  · rw [if_pos h2] at h; cases h
  rw [if_neg h2] at h
  by_cases h3 : x.isL = true ∧ 200 < x.l.length
  · rw [if_pos h3] at h; cases h
  cases x with
  | bytes l => exact Nat.le_of_not_lt fun h4 => h3 ⟨rfl, h4⟩
  | _ => exact Nat.zero_le _
theorem values_small {cols : List LCol} {xs : List LVal} (hl : xs.length ≤ cols.length) (h : valuesE cols xs 0 = 0) : ∀ x ∈ xs, x.l.length ≤ 1048576 := fun x hx => by
  obtain ⟨i, hi, rfl⟩ := List.getElem_of_mem hx
  exact Nat.le_trans (valErr_len ((valuesE_zero hl h).2 i (by omega) hi)) (by decide)
theorem check_head {id keys : Int} {tn : ByteArray} {cols : List LCol} {ixs : List LIx} (h : checkI id keys tn cols ixs = 0) : 1 ≤ id ∧ id ≤ 255 ∧ 1 ≤ keys ∧ keys ≤ (cols.length : Int) ∧ cols.length ≤ 16 := by
  unfold checkI at h
  by_cases h1 : 16 < cols.length
  · rw [if_pos h1] at h; cases h
  rw [if_neg h1] at h
  by_cases h2 : 4 < ixs.length
  · rw [if_pos h2] at h; cases h
  rw [if_neg h2] at h
  by_cases h3 : headB id keys tn cols.length = false
  · rw [if_pos h3] at h; cases h
  have h5 : headB id keys tn cols.length = true := by simpa using h3
  unfold headB at h5
  simp only [Bool.and_eq_true, decide_eq_true_eq] at h5
  omega
end Go.Proofs.YtfededjcadmpbaaGreatDoor
