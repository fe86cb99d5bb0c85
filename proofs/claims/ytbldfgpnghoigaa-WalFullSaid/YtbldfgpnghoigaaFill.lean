/- A row that is filled from its beginning on. -/
import Derived.Test.YtbldfgpnghoigaaWalP
namespace Go.Proofs.Ytbldfgpnghoigaa

def fillA (f : Nat → Value) (z : Value) (m k : Nat) : Array Value := ((List.range m).map fun i => if i < k then f i else z).toArray
theorem fillA_size (f : Nat → Value) (z : Value) (m k : Nat) : (fillA f z m k).size = m := by simp [fillA]
theorem fillA_get (f : Nat → Value) (z : Value) {m i : Nat} (k : Nat) (h : i < m) : (fillA f z m k)[i]? = some (if i < k then f i else z) := by
  simp only [fillA, List.getElem?_toArray, List.getElem?_map]
  rw [List.getElem?_range h]
  rfl
theorem fillA_set (f : Nat → Value) (z : Value) (m k : Nat) : (fillA f z m k).setIfInBounds k (f k) = fillA f z m (k + 1) := by
  refine Array.ext (by simp [fillA]) fun i h1 h2 => ?_
  rw [fillA_size] at h2
  have e := fillA_get f z (k + 1) h2
  rw [Array.getElem?_eq_getElem (by rw [fillA_size]; exact h2)] at e
  rw [Option.some.inj e, Array.getElem_setIfInBounds (by rw [fillA_size]; exact h2)]
  by_cases hk : k = i
  · subst hk
    rw [if_pos rfl, if_pos (Nat.lt_succ_self _)]
  · rw [if_neg hk]
    have e2 := fillA_get f z k h2
    rw [Array.getElem?_eq_getElem (by rw [fillA_size]; exact h2)] at e2
    rw [Option.some.inj e2]
    by_cases h3 : i < k
    · rw [if_pos h3, if_pos (by omega)]
    · rw [if_neg h3, if_neg (by omega)]
theorem fillA_zero (f : Nat → Value) (z : Value) (m : Nat) : fillA f z m 0 = Array.replicate m z := by
  unfold fillA
  rw [← Array.toList_inj, Array.toList_replicate]
  simp [List.map_const']
theorem fillA_full (f : Nat → Value) (z : Value) (m : Nat) : fillA f z m m = ((List.range m).map f).toArray := by
  unfold fillA
  congr 1
  refine List.map_congr_left fun i hi => ?_
  rw [if_pos (List.mem_range.1 hi)]
/-- the digits of a name, place by place -/
theorem hexL_range (n : Nat) : ∀ k, hexL k n = (List.range k).map fun i => dig (n / 16 ^ (k - 1 - i) % 16)
  | 0 => rfl
  | k + 1 => by
    rw [List.range_succ_eq_map, List.map_cons, List.map_map]
    simp only [hexL]
    congr 1
    rw [hexL_range n k]
    refine List.map_congr_left fun i hi => ?_
    have := List.mem_range.1 hi
    show _ = dig (n / 16 ^ (k + 1 - 1 - (i + 1)) % 16)
    rw [show k + 1 - 1 - (i + 1) = k - 1 - i by omega]
theorem digits_at (d : Nat) (h : d < 16) (h2 : d < (⟨#[48, 49, 50, 51, 52, 53, 54, 55, 56, 57, 97, 98, 99, 100, 101, 102]⟩ : ByteArray).size) : (⟨#[48, 49, 50, 51, 52, 53, 54, 55, 56, 57, 97, 98, 99, 100, 101, 102]⟩ : ByteArray)[d]'h2 = dig d := by
  have h3 : ∀ d : Fin 16, (⟨#[48, 49, 50, 51, 52, 53, 54, 55, 56, 57, 97, 98, 99, 100, 101, 102]⟩ : ByteArray)[d.val]'(d.isLt) = dig d.val := by decide
  exact h3 ⟨d, h⟩
end Go.Proofs.Ytbldfgpnghoigaa
