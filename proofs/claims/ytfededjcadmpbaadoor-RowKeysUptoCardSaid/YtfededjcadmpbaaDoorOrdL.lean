/- The order of keys: plain laws on lists of bytes. -/
import Derived.Test.YtfededjcadmpbaaDoorMem
namespace Go.Proofs.YtfededjcadmpbaaDoor
open Go.RowKit

/-- how two lists of bytes compare -/
def cmpL : List UInt8 → List UInt8 → Int
  | [], [] => 0
  | [], _ :: _ => -1
  | _ :: _, [] => 1
  | a :: s, b :: t => if a < b then -1 else if b < a then 1 else cmpL s t
/-- a list of bytes with an end, in the lists' order -/
def ordT : List UInt8 → List UInt8
  | [] => [0, 1]
  | x :: l => if x = 0 then 0 :: 255 :: ordT l else x :: ordT l
theorem u8_lt (a b : UInt8) : a < b ↔ a.toNat < b.toNat := UInt8.lt_iff_toNat_lt
theorem cmpL_self : ∀ a : List UInt8, cmpL a a = 0
  | [] => rfl
  | x :: a => by
    unfold cmpL
    rw [if_neg (by rw [u8_lt]; omega), if_neg (by rw [u8_lt]; omega)]
    exact cmpL_self a
theorem cmpL_eq : ∀ {a b : List UInt8}, cmpL a b = 0 → a = b
  | [], [], _ => rfl
  | [], _ :: _, h => by cases h
  | _ :: _, [], h => by cases h
  | x :: a, y :: b, h => by
    unfold cmpL at h
    by_cases h1 : x < y
    · rw [if_pos h1] at h; cases h
    rw [if_neg h1] at h
    by_cases h2 : y < x
    · rw [if_pos h2] at h; cases h
    rw [if_neg h2] at h
    rw [u8_lt] at h1 h2
    rw [cmpL_eq h, UInt8.toNat_inj.1 (show x.toNat = y.toNat by omega)]
theorem cmpL_cons (x : UInt8) (a b : List UInt8) : cmpL (x :: a) (x :: b) = cmpL a b := by
  show (if x < x then (-1 : Int) else if x < x then 1 else cmpL a b) = _
  rw [if_neg (by rw [u8_lt]; omega), if_neg (by rw [u8_lt]; omega)]
theorem cmpL_lt {x y : UInt8} (h : x.toNat < y.toNat) (a b : List UInt8) : cmpL (x :: a) (y :: b) = -1 := by
  show (if x < y then (-1 : Int) else _) = _
  rw [if_pos ((u8_lt x y).2 h)]
theorem cmpL_gt {x y : UInt8} (h : y.toNat < x.toNat) (a b : List UInt8) : cmpL (x :: a) (y :: b) = 1 := by
  show (if x < y then (-1 : Int) else if y < x then 1 else _) = _
  rw [if_neg (by rw [u8_lt]; omega), if_pos ((u8_lt y x).2 h)]
/-- the first that is none of nought -/
def orI (a b : Int) : Int := if a ≠ 0 then a else b
theorem orI_zero (b : Int) : orI 0 b = b := rfl
theorem orI_of {a : Int} (h : a ≠ 0) (b : Int) : orI a b = a := if_pos h
theorem orI_assoc (a b c : Int) : orI (orI a b) c = orI a (orI b c) := by
  unfold orI
  by_cases h : a = 0
  · subst h; rfl
  · rw [if_pos h, if_pos h, if_pos h]
/-- one of two lists, if they differ, differs from the other at a place of both -/
def PF (x y : List UInt8) : Prop := ∀ s t, cmpL (x ++ s) (y ++ t) = orI (cmpL x y) (cmpL s t)
theorem PF.nil_ : PF [] [] := fun _ _ => rfl
theorem PF.append {x y u v : List UInt8} (h : PF x y) (k : PF u v) : PF (x ++ u) (y ++ v) := fun s t => by
  rw [List.append_assoc, List.append_assoc, h, k, h, orI_assoc]
theorem PF.cmp {x y : List UInt8} (h : PF x y) (u v : List UInt8) : cmpL (x ++ u) (y ++ v) = orI (cmpL x y) (cmpL u v) := h u v
theorem PF.of_len : ∀ {x y : List UInt8}, x.length = y.length → PF x y
  | [], [], _ => PF.nil_
  | x :: a, y :: b, h => fun s t => by
    have ih := PF.of_len (x := a) (y := b) (by simpa using h) s t
    by_cases h1 : x.toNat < y.toNat
    · rw [List.cons_append, List.cons_append, cmpL_lt h1, cmpL_lt h1]; rfl
    by_cases h2 : y.toNat < x.toNat
    · rw [List.cons_append, List.cons_append, cmpL_gt h2, cmpL_gt h2]; rfl
    obtain rfl : x = y := UInt8.toNat_inj.1 (by omega)
    rw [List.cons_append, List.cons_append, cmpL_cons, cmpL_cons, ih]
theorem ordT_zero (l : List UInt8) : ordT (0 :: l) = 0 :: 255 :: ordT l := rfl
theorem ordT_pos {x : UInt8} (h : x ≠ 0) (l : List UInt8) : ordT (x :: l) = x :: ordT l := if_neg h
theorem pos_of_ne {x : UInt8} (h : x ≠ 0) : 0 < x.toNat := by
  rcases Nat.eq_zero_or_pos x.toNat with h0 | h0
  · exact absurd (UInt8.toNat_inj.1 (by rw [h0]; rfl)) h
  · exact h0
theorem ordT_cmp : ∀ a b s t : List UInt8, cmpL (ordT a ++ s) (ordT b ++ t) = orI (cmpL a b) (cmpL s t)
  | [], [], s, t => by
    show cmpL (0 :: 1 :: s) (0 :: 1 :: t) = _
    rw [cmpL_cons, cmpL_cons]; rfl
  | [], y :: b, s, t => by
    by_cases h : y = 0
    · subst h
      rw [ordT_zero]
      show cmpL (0 :: 1 :: s) (0 :: 255 :: (ordT b ++ t)) = _
      rw [cmpL_cons, cmpL_lt (by decide)]; rfl
    · rw [ordT_pos h]
      show cmpL (0 :: 1 :: s) (y :: (ordT b ++ t)) = _
      rw [cmpL_lt (by have := pos_of_ne h; simpa using this)]; rfl
  | x :: a, [], s, t => by
    by_cases h : x = 0
    · subst h
      rw [ordT_zero]
      show cmpL (0 :: 255 :: (ordT a ++ s)) (0 :: 1 :: t) = _
      rw [cmpL_cons, cmpL_gt (by decide)]; rfl
    · rw [ordT_pos h]
      show cmpL (x :: (ordT a ++ s)) (0 :: 1 :: t) = _
      rw [cmpL_gt (by have := pos_of_ne h; simpa using this)]; rfl
  | x :: a, y :: b, s, t => by
    have ih := ordT_cmp a b s t
    by_cases hx : x = 0
    · subst hx
      by_cases hy : y = 0
      · subst hy
        rw [ordT_zero, ordT_zero]
        show cmpL (0 :: 255 :: (ordT a ++ s)) (0 :: 255 :: (ordT b ++ t)) = _
        rw [cmpL_cons, cmpL_cons, ih, cmpL_cons]
      · rw [ordT_zero, ordT_pos hy]
        show cmpL (0 :: 255 :: (ordT a ++ s)) (y :: (ordT b ++ t)) = _
        have := pos_of_ne hy
        rw [cmpL_lt (by simpa using this), cmpL_lt (by simpa using this)]; rfl
    · by_cases hy : y = 0
      · subst hy
        rw [ordT_zero, ordT_pos hx]
        show cmpL (x :: (ordT a ++ s)) (0 :: 255 :: (ordT b ++ t)) = _
        have := pos_of_ne hx
        rw [cmpL_gt (by simpa using this), cmpL_gt (by simpa using this)]; rfl
      · rw [ordT_pos hx, ordT_pos hy]
        show cmpL (x :: (ordT a ++ s)) (y :: (ordT b ++ t)) = _
        by_cases h1 : x.toNat < y.toNat
        · rw [cmpL_lt h1, cmpL_lt h1]; rfl
        by_cases h2 : y.toNat < x.toNat
        · rw [cmpL_gt h2, cmpL_gt h2]; rfl
        obtain rfl : x = y := UInt8.toNat_inj.1 (by omega)
        rw [cmpL_cons, cmpL_cons, ih]
theorem ordT_cmp0 (a b : List UInt8) : cmpL (ordT a) (ordT b) = cmpL a b := by
  have := ordT_cmp a b [] []
  rw [List.append_nil, List.append_nil] at this
  rw [this]
  show orI (cmpL a b) 0 = _
  unfold orI
  split <;> simp_all
theorem PF.ordT (a b : List UInt8) : PF (ordT a) (ordT b) := fun s t => by rw [ordT_cmp, ordT_cmp0]
theorem ordT_len : ∀ l : List UInt8, (Go.Proofs.YtfededjcadmpbaaDoor.ordT l).length ≤ 2 * l.length + 2
  | [] => by decide
  | x :: l => by
    have ih := ordT_len l
    by_cases h : x = 0
    · subst h; rw [ordT_zero]; simp only [List.length_cons]; omega
    · rw [ordT_pos h]; simp only [List.length_cons]; omega

/-- a number's bytes, the greatest first -/
def beN : Nat → Nat → List UInt8
  | 0, _ => []
  | k + 1, n => beN k (n / 256) ++ [UInt8.ofNat (n % 256)]
theorem beN_len : ∀ k n, (beN k n).length = k
  | 0, _ => rfl
  | k + 1, n => by unfold beN; rw [List.length_append, beN_len k]; rfl
/-- how two numbers compare -/
def cmpI (a b : Int) : Int := if a < b then -1 else if b < a then 1 else 0
theorem u8_ofNat {n : Nat} (h : n < 256) : (UInt8.ofNat n).toNat = n := by simp [Nat.mod_eq_of_lt h]
theorem beN_cmp : ∀ (k n m : Nat), n < 256 ^ k → m < 256 ^ k → cmpL (beN k n) (beN k m) = cmpI n m
  | 0, n, m, hn, hm => by
    have h1 : n = 0 := by simpa using hn
    have h2 : m = 0 := by simpa using hm
    subst h1; subst h2; rfl
  | k + 1, n, m, hn, hm => by
    have hn2 : n / 256 < 256 ^ k := by rw [Nat.div_lt_iff_lt_mul (by omega), ← Nat.pow_succ]; exact hn
    have hm2 : m / 256 < 256 ^ k := by rw [Nat.div_lt_iff_lt_mul (by omega), ← Nat.pow_succ]; exact hm
    have ih := beN_cmp k (n / 256) (m / 256) hn2 hm2
    show cmpL (beN k (n / 256) ++ _) (beN k (m / 256) ++ _) = _
    rw [PF.of_len (by rw [beN_len, beN_len]) _ _, ih]
    have hx : cmpL [UInt8.ofNat (n % 256)] [UInt8.ofNat (m % 256)] = cmpI (n % 256 : Nat) (m % 256 : Nat) := by
      have a1 := u8_ofNat (n := n % 256) (by omega)
      have a2 := u8_ofNat (n := m % 256) (by omega)
      by_cases h1 : n % 256 < m % 256
      · rw [cmpL_lt (by omega)]; unfold cmpI; rw [if_pos (by omega)]
      by_cases h2 : m % 256 < n % 256
      · rw [cmpL_gt (by omega)]; unfold cmpI; rw [if_neg (by omega), if_pos (by omega)]
      have h3 : n % 256 = m % 256 := by omega
      rw [h3, cmpL_cons]; unfold cmpI; rw [if_neg (by omega), if_neg (by omega)]; rfl
    rw [hx]
    unfold orI cmpI
    repeat' split
    all_goals omega
end Go.Proofs.YtfededjcadmpbaaDoor
