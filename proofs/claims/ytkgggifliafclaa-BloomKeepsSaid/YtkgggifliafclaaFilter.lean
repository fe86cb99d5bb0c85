/- The filter as a list of bytes: the plain law of Build. -/
import Derived.Test.YtkgggifliafclaaMay
namespace Go.Proofs.Ytkgggifliafclaa

def b2n (b : Bool) : Nat := if b then 1 else 0
/-- eight bits as a number, as the reference adds them -/
def byteN (s : Nat → Bool) (i : Nat) : Nat := b2n (s (8 * i)) + 2 * (b2n (s (8 * i + 1)) + 2 * (b2n (s (8 * i + 2)) + 2 * (b2n (s (8 * i + 3)) + 2 * (b2n (s (8 * i + 4)) + 2 * (b2n (s (8 * i + 5)) + 2 * (b2n (s (8 * i + 6)) + 2 * b2n (s (8 * i + 7))))))))
theorem b2n_le (b : Bool) : b2n b ≤ 1 := by cases b <;> decide
theorem byteN_lt (s : Nat → Bool) (i : Nat) : byteN s i < 256 := by
  unfold byteN
  have := b2n_le (s (8 * i)); have := b2n_le (s (8 * i + 1)); have := b2n_le (s (8 * i + 2)); have := b2n_le (s (8 * i + 3))
  have := b2n_le (s (8 * i + 4)); have := b2n_le (s (8 * i + 5)); have := b2n_le (s (8 * i + 6)); have := b2n_le (s (8 * i + 7))
  omega
def bv8 (a b c d e f g h : Bool) : Nat := b2n a + 2 * (b2n b + 2 * (b2n c + 2 * (b2n d + 2 * (b2n e + 2 * (b2n f + 2 * (b2n g + 2 * b2n h))))))
theorem bv8_or : ∀ a b c d e f g h : Bool, bv8 a b c d e f g h ||| 1 = bv8 true b c d e f g h ∧ bv8 a b c d e f g h ||| 2 = bv8 a true c d e f g h ∧
    bv8 a b c d e f g h ||| 4 = bv8 a b true d e f g h ∧ bv8 a b c d e f g h ||| 8 = bv8 a b c true e f g h ∧ bv8 a b c d e f g h ||| 16 = bv8 a b c d true f g h ∧
    bv8 a b c d e f g h ||| 32 = bv8 a b c d e true g h ∧ bv8 a b c d e f g h ||| 64 = bv8 a b c d e f true h ∧ bv8 a b c d e f g h ||| 128 = bv8 a b c d e f g true := by decide
theorem bv8_bit : ∀ a b c d e f g h : Bool, (bv8 a b c d e f g h % 2 = 1 ↔ a = true) ∧ (bv8 a b c d e f g h / 2 % 2 = 1 ↔ b = true) ∧ (bv8 a b c d e f g h / 4 % 2 = 1 ↔ c = true) ∧
    (bv8 a b c d e f g h / 8 % 2 = 1 ↔ d = true) ∧ (bv8 a b c d e f g h / 16 % 2 = 1 ↔ e = true) ∧ (bv8 a b c d e f g h / 32 % 2 = 1 ↔ f = true) ∧ (bv8 a b c d e f g h / 64 % 2 = 1 ↔ g = true) ∧
    (bv8 a b c d e f g h / 128 % 2 = 1 ↔ h = true) := by decide
theorem byteN_bv8 (s : Nat → Bool) (i : Nat) : byteN s i = bv8 (s (8 * i)) (s (8 * i + 1)) (s (8 * i + 2)) (s (8 * i + 3)) (s (8 * i + 4)) (s (8 * i + 5)) (s (8 * i + 6)) (s (8 * i + 7)) := rfl
/-- the set with one more place -/
def putS (s : Nat → Bool) (b : Nat) : Nat → Bool := fun x => x == b || s x
theorem mod8 (b : Nat) : b % 8 = 0 ∨ b % 8 = 1 ∨ b % 8 = 2 ∨ b % 8 = 3 ∨ b % 8 = 4 ∨ b % 8 = 5 ∨ b % 8 = 6 ∨ b % 8 = 7 := by omega
theorem byteN_other (s : Nat → Bool) (b i : Nat) (h : i ≠ b / 8) : byteN (putS s b) i = byteN s i := by
  have hp : ∀ t, t < 8 → putS s b (8 * i + t) = s (8 * i + t) := by
    intro t ht; unfold putS
    rw [show (8 * i + t == b) = false from by rw [beq_eq_false_iff_ne]; omega]; rfl
  unfold byteN
  rw [show putS s b (8 * i) = s (8 * i) from hp 0 (by omega), hp 1 (by omega), hp 2 (by omega), hp 3 (by omega), hp 4 (by omega), hp 5 (by omega), hp 6 (by omega), hp 7 (by omega)]
theorem byteN_put (s : Nat → Bool) (b : Nat) : byteN (putS s b) (b / 8) = byteN s (b / 8) ||| 2 ^ (b % 8) := by
  have hp : ∀ t, t < 8 → putS s b (8 * (b / 8) + t) = (t == b % 8 || s (8 * (b / 8) + t)) := by
    intro t ht; unfold putS
    congr 1
    rw [Bool.eq_iff_iff, beq_iff_eq, beq_iff_eq]; omega
  rw [byteN_bv8, byteN_bv8]
  rw [show putS s b (8 * (b / 8)) = _ from hp 0 (by omega), hp 1 (by omega), hp 2 (by omega), hp 3 (by omega), hp 4 (by omega), hp 5 (by omega), hp 6 (by omega), hp 7 (by omega)]
  have H := bv8_or (s (8 * (b / 8))) (s (8 * (b / 8) + 1)) (s (8 * (b / 8) + 2)) (s (8 * (b / 8) + 3)) (s (8 * (b / 8) + 4)) (s (8 * (b / 8) + 5)) (s (8 * (b / 8) + 6)) (s (8 * (b / 8) + 7))
  rcases mod8 b with h | h | h | h | h | h | h | h <;> rw [h] <;> simp only [Nat.reduceBEq, Bool.true_or, Bool.false_or, Nat.reducePow]
  · exact H.1.symm
  · exact H.2.1.symm
  · exact H.2.2.1.symm
  · exact H.2.2.2.1.symm
  · exact H.2.2.2.2.1.symm
  · exact H.2.2.2.2.2.1.symm
  · exact H.2.2.2.2.2.2.1.symm
  · exact H.2.2.2.2.2.2.2.symm
theorem byteN_bit (s : Nat → Bool) (b : Nat) : (byteN s (b / 8) / 2 ^ (b % 8) % 2 = 1) ↔ s b = true := by
  have hb : b = 8 * (b / 8) + b % 8 := by omega
  have H := bv8_bit (s (8 * (b / 8))) (s (8 * (b / 8) + 1)) (s (8 * (b / 8) + 2)) (s (8 * (b / 8) + 3)) (s (8 * (b / 8) + 4)) (s (8 * (b / 8) + 5)) (s (8 * (b / 8) + 6)) (s (8 * (b / 8) + 7))
  rw [← byteN_bv8] at H
  rcases mod8 b with h | h | h | h | h | h | h | h <;> rw [h] at hb ⊢ <;> (try rw [Nat.add_zero] at hb) <;> rw [show s b = _ from congrArg s hb] <;> simp only [Nat.reducePow, Nat.div_one]
  · exact H.1
  · exact H.2.1
  · exact H.2.2.1
  · exact H.2.2.2.1
  · exact H.2.2.2.2.1
  · exact H.2.2.2.2.2.1
  · exact H.2.2.2.2.2.2.1
  · exact H.2.2.2.2.2.2.2

/-- n bytes of a set of places -/
def bytesOf (s : Nat → Bool) (n : Nat) : List UInt8 := (List.range n).map fun i => UInt8.ofNat (byteN s i)
theorem length_bytesOf (s : Nat → Bool) (n : Nat) : (bytesOf s n).length = n := by simp [bytesOf]
theorem toNat_byteN (s : Nat → Bool) (i : Nat) : (UInt8.ofNat (byteN s i)).toNat = byteN s i := by
  rw [UInt8.toNat_ofNat']; exact Nat.mod_eq_of_lt (byteN_lt s i)
theorem get_bytesOf (s : Nat → Bool) (n i : Nat) (h : i < n) : (bytesOf s n)[i]? = some (UInt8.ofNat (byteN s i)) := by simp [bytesOf, h]

/-- the places of some keys: key by key, the last one's up to j -/
def placesOf (keys : List (List UInt8)) (m k : Nat) : Nat → Bool := fun b => keys.any fun key => (List.range k).any fun j => b == place key m j
def mOf (per n : Nat) : Nat := (max 64 (per * n) + 7) / 8 * 8
def kOf (per : Nat) : Nat := min 30 (max 1 (per * 69 / 100))
/-- the filter -/
def filt (per : Nat) (keys : List (List UInt8)) : List UInt8 := bytesOf (placesOf keys (mOf per keys.length) (kOf per)) (mOf per keys.length / 8) ++ [UInt8.ofNat (kOf per)]
def buildE (per : Int) (n : Nat) : Int := if per < 1 ∨ 100 < per then 1 else if 1048576 < mOf per.toNat n / 8 + 1 then 2 else 0
def buildL (per : Int) (keys : List (List UInt8)) : List UInt8 := if buildE per keys.length = 0 then filt per.toNat keys else []
theorem kOf_le (per : Nat) : 1 ≤ kOf per ∧ kOf per ≤ 30 := by unfold kOf; omega
theorem mOf_ge (per n : Nat) : 64 ≤ mOf per n ∧ mOf per n % 8 = 0 := by unfold mOf; omega
theorem length_filt (per : Nat) (keys : List (List UInt8)) : (filt per keys).length = mOf per keys.length / 8 + 1 := by simp [filt, length_bytesOf]
theorem last_filt (per : Nat) (keys : List (List UInt8)) : ((filt per keys).getD ((filt per keys).length - 1) 0).toNat = kOf per := by
  rw [length_filt, Nat.add_sub_cancel]
  unfold filt
  rw [List.getD_eq_getElem?_getD, List.getElem?_append_right (by rw [length_bytesOf]; exact Nat.le_refl _), length_bytesOf, Nat.sub_self]
  have := kOf_le per
  show (UInt8.ofNat (kOf per)).toNat = _
  rw [UInt8.toNat_ofNat']; exact Nat.mod_eq_of_lt (by omega)
theorem good_filt (per : Nat) (keys : List (List UInt8)) : goodB (filt per keys) = true := by
  have h1 := last_filt per keys
  have h2 := kOf_le per
  have h3 := mOf_ge per keys.length
  unfold goodB
  rw [h1, length_filt]
  simp; omega
theorem bit_filt (per : Nat) (keys : List (List UInt8)) (b : Nat) (hb : b < mOf per keys.length) : bitB (filt per keys) b = placesOf keys (mOf per keys.length) (kOf per) b := by
  have h3 := mOf_ge per keys.length
  unfold bitB
  have : ((filt per keys).getD (b / 8) 0).toNat = byteN (placesOf keys (mOf per keys.length) (kOf per)) (b / 8) := by
    unfold filt
    rw [List.getD_eq_getElem?_getD, List.getElem?_append_left (by rw [length_bytesOf]; omega), get_bytesOf _ _ _ (by omega)]
    exact toNat_byteN _ _
  rw [this, Bool.eq_iff_iff, decide_eq_true_eq]
  exact byteN_bit _ _
/-- A key that was put in is never told to be out. -/
theorem may_filt (per : Nat) (keys : List (List UInt8)) (key : List UInt8) (hk : key ∈ keys) : mayB (filt per keys) key = true := by
  have h3 := mOf_ge per keys.length
  unfold mayB
  rw [last_filt, length_filt, Nat.add_sub_cancel, show 8 * (mOf per keys.length / 8) = mOf per keys.length from by omega]
  rw [List.all_eq_true]
  intro j hj
  rw [bit_filt _ _ _ (place_lt _ (by omega) _)]
  unfold placesOf
  rw [List.any_eq_true]
  exact ⟨key, hk, by rw [List.any_eq_true]; exact ⟨j, hj, by simp⟩⟩

end Go.Proofs.Ytkgggifliafclaa
