/- A log's segments in plain words: their files' names. A row that is filled from its beginning on. -/
import Derived.Test.YtbldfgpnghoigaaSl
namespace Go.Proofs.Ytbldfgpnghoigaa

/-- a digit -/
def dig (d : Nat) : UInt8 := UInt8.ofNat (if d < 10 then 48 + d else 87 + d)
/-- what a digit says -/
def undig (c : UInt8) : Option Nat := if 48 ≤ c.toNat ∧ c.toNat < 58 then some (c.toNat - 48) else if 97 ≤ c.toNat ∧ c.toNat < 103 then some (c.toNat - 87) else none
theorem dig_nat (d : Nat) (h : d < 16) : (dig d).toNat = if d < 10 then 48 + d else 87 + d := by
  unfold dig
  rw [UInt8.toNat_ofNat']
  split <;> omega
theorem undig_dig (d : Nat) (h : d < 16) : undig (dig d) = some d := by
  unfold undig
  rw [dig_nat d h]
  by_cases h1 : d < 10
  · rw [if_pos h1, if_pos (by omega)]
    congr 1
    omega
  · rw [if_neg h1, if_neg (by omega), if_pos (by omega)]
    congr 1
    omega
theorem dig_lt {a b : Nat} (h : a < b) (hb : b < 16) : dig a < dig b := by
  rw [UInt8.lt_iff_toNat_lt, dig_nat a (by omega), dig_nat b hb]
  split <;> split <;> omega
/-- the last k hexadecimal digits -/
def hexL : Nat → Nat → List UInt8
  | 0, _ => []
  | k + 1, n => dig (n / 16 ^ k % 16) :: hexL k n
/-- what k digits say, behind a -/
def unhex : Nat → List UInt8 → Option Nat
  | a, [] => some a
  | a, c :: r => (undig c).bind fun d => unhex (a * 16 + d) r
theorem hexL_len : ∀ (k n : Nat), (hexL k n).length = k
  | 0, _ => rfl
  | k + 1, n => by simp only [hexL, List.length_cons, hexL_len k n]
theorem pow_split (k n : Nat) : n % 16 ^ (k + 1) = n / 16 ^ k % 16 * 16 ^ k + n % 16 ^ k := by
  rw [Nat.pow_succ, Nat.mod_mul, Nat.mul_comm, Nat.add_comm]
theorem unhex_hex : ∀ (k n a : Nat), unhex a (hexL k n) = some (a * 16 ^ k + n % 16 ^ k)
  | 0, n, a => by simp [hexL, unhex, Nat.mod_one]
  | k + 1, n, a => by
    simp only [hexL, unhex]
    rw [undig_dig _ (Nat.mod_lt _ (by decide)), Option.bind_some, unhex_hex k n, pow_split, Nat.add_mul, Nat.pow_succ, Nat.mul_assoc, Nat.mul_comm 16, Nat.add_assoc]
theorem hexL_lt : ∀ (k n m : Nat), n % 16 ^ k < m % 16 ^ k → hexL k n < hexL k m
  | 0, n, m, h => by rw [Nat.pow_zero, Nat.mod_one, Nat.mod_one] at h; exact absurd h (Nat.lt_irrefl _)
  | k + 1, n, m, h => by
    rw [pow_split, pow_split] at h
    simp only [hexL]
    rw [List.cons_lt_cons_iff]
    have h1 : n % 16 ^ k < 16 ^ k := Nat.mod_lt _ (Nat.pow_pos (by decide))
    have h2 : m % 16 ^ k < 16 ^ k := Nat.mod_lt _ (Nat.pow_pos (by decide))
    rcases Nat.lt_trichotomy (n / 16 ^ k % 16) (m / 16 ^ k % 16) with h3 | h3 | h3
    · exact .inl (dig_lt h3 (Nat.mod_lt _ (by decide)))
    · rw [h3] at h ⊢
      exact .inr ⟨rfl, hexL_lt k n m (by omega)⟩
    · exfalso
      have := Nat.mul_le_mul_right (16 ^ k) (Nat.succ_le_of_lt h3)
      rw [Nat.succ_mul] at this
      omega
/-- a segment's file; what a file's name says -/
def nameW (pre : List UInt8) (n : Nat) : List UInt8 := pre ++ hexL 16 n
def indexW (nm pre : List UInt8) : Option Nat := if pre.isPrefixOf nm = true ∧ (nm.drop pre.length).length = 16 then unhex 0 (nm.drop pre.length) else none
theorem index_name (pre : List UInt8) (n : Nat) (h : n < 18446744073709551616) : indexW (nameW pre n) pre = some n := by
  unfold indexW nameW
  rw [List.drop_left, if_pos ⟨List.isPrefixOf_iff_prefix.2 (List.prefix_append _ _), hexL_len _ _⟩, unhex_hex, Nat.zero_mul, Nat.zero_add, Nat.mod_eq_of_lt (by rw [show (16 : Nat) ^ 16 = 18446744073709551616 by decide]; exact h)]
theorem name_lt (pre : List UInt8) {n m : Nat} (h : n < m) (hm : m < 18446744073709551616) : nameW pre n < nameW pre m := by
  unfold nameW
  have : hexL 16 n < hexL 16 m := hexL_lt 16 n m (by
    rw [show (16 : Nat) ^ 16 = 18446744073709551616 by decide, Nat.mod_eq_of_lt (by omega), Nat.mod_eq_of_lt hm]
    exact h)
  induction pre with
  | nil => exact this
  | cons x r ih => rw [List.cons_append, List.cons_append, List.cons_lt_cons_iff]; exact .inr ⟨rfl, ih⟩
theorem name_inj (pre : List UInt8) {n m : Nat} (hn : n < 18446744073709551616) (hm : m < 18446744073709551616) (h : nameW pre n = nameW pre m) : n = m := by
  have h1 := index_name pre n hn
  rw [h, index_name pre m hm] at h1
  exact (Option.some.inj h1).symm
theorem nameW_len (pre : List UInt8) (n : Nat) : (nameW pre n).length = pre.length + 16 := by
  unfold nameW
  rw [List.length_append, hexL_len]
end Go.Proofs.Ytbldfgpnghoigaa

namespace Go.Proofs.Ytbldfgpnghoigaa

def fillA (f : Nat → Value) (z : Value) (m k : Nat) : Array Value := ((List.range m).map fun i => if i < k then f i else z).toArray
theorem fillA_size (f : Nat → Value) (z : Value) (m k : Nat) : (fillA f z m k).size = m := by simp [fillA]
theorem fillA_get (f : Nat → Value) (z : Value) {m i : Nat} (k : Nat) (h : i < m) : (fillA f z m k)[i]? = some (if i < k then f i else z) := by
  simp only [fillA, List.getElem?_toArray, List.getElem?_map]
  rw [List.getElem?_range h]
  rfl
theorem fillA_set (f : Nat → Value) (z : Value) (m k : Nat) : (fillA f z m k).setIfInBounds k (f k) = fillA f z m (k + 1) := by
  refine Array.ext (by simp [fillA]) fun i h1 h2 => ?_
  rw [fillA_size] at h2
  have e := fillA_get f z (k + 1) h2
  rw [Array.getElem?_eq_getElem (by rw [fillA_size]; exact h2)] at e
  rw [Option.some.inj e, Array.getElem_setIfInBounds (by rw [fillA_size]; exact h2)]
  by_cases hk : k = i
  · subst hk
    rw [if_pos rfl, if_pos (Nat.lt_succ_self _)]
  · rw [if_neg hk]
    have e2 := fillA_get f z k h2
    rw [Array.getElem?_eq_getElem (by rw [fillA_size]; exact h2)] at e2
    rw [Option.some.inj e2]
    by_cases h3 : i < k
    · rw [if_pos h3, if_pos (by omega)]
    · rw [if_neg h3, if_neg (by omega)]
theorem fillA_zero (f : Nat → Value) (z : Value) (m : Nat) : fillA f z m 0 = Array.replicate m z := by
  unfold fillA
  rw [← Array.toList_inj, Array.toList_replicate]
  simp [List.map_const']
theorem fillA_full (f : Nat → Value) (z : Value) (m : Nat) : fillA f z m m = ((List.range m).map f).toArray := by
  unfold fillA
  congr 1
  refine List.map_congr_left fun i hi => ?_
  rw [if_pos (List.mem_range.1 hi)]
/-- the digits of a name, place by place -/
theorem hexL_range (n : Nat) : ∀ k, hexL k n = (List.range k).map fun i => dig (n / 16 ^ (k - 1 - i) % 16)
  | 0 => rfl
  | k + 1 => by
    rw [List.range_succ_eq_map, List.map_cons, List.map_map]
    simp only [hexL]
    congr 1
    rw [hexL_range n k]
    refine List.map_congr_left fun i hi => ?_
    have := List.mem_range.1 hi
    show _ = dig (n / 16 ^ (k + 1 - 1 - (i + 1)) % 16)
    rw [show k + 1 - 1 - (i + 1) = k - 1 - i by omega]
theorem digits_at (d : Nat) (h : d < 16) (h2 : d < (⟨#[48, 49, 50, 51, 52, 53, 54, 55, 56, 57, 97, 98, 99, 100, 101, 102]⟩ : ByteArray).size) : (⟨#[48, 49, 50, 51, 52, 53, 54, 55, 56, 57, 97, 98, 99, 100, 101, 102]⟩ : ByteArray)[d]'h2 = dig d := by
  have h3 : ∀ d : Fin 16, (⟨#[48, 49, 50, 51, 52, 53, 54, 55, 56, 57, 97, 98, 99, 100, 101, 102]⟩ : ByteArray)[d.val]'(d.isLt) = dig d.val := by decide
  exact h3 ⟨d, h⟩
end Go.Proofs.Ytbldfgpnghoigaa
