/- Sealed records in plain words, over any checksum. -/
import Derived.Test.YtbldfgpnghoigaaSl
namespace Go.Proofs.Ytbldfgpnghoigaa

def put32 (n : Nat) : List UInt8 := [UInt8.ofNat (n / 16777216), UInt8.ofNat (n / 65536), UInt8.ofNat (n / 256), UInt8.ofNat n]
def get32 (b : List UInt8) : Nat := (b.getD 0 0).toNat * 16777216 + (b.getD 1 0).toNat * 65536 + (b.getD 2 0).toNat * 256 + (b.getD 3 0).toNat
theorem get_put (n : Nat) (r : List UInt8) (h : n < 4294967296) : get32 (put32 n ++ r) = n := by
  simp only [get32, put32, List.cons_append, List.nil_append, List.getD_cons_zero, List.getD_cons_succ, UInt8.toNat_ofNat']
  omega
theorem put32_len (n : Nat) : (put32 n).length = 4 := rfl
section
variable (sumF : List UInt8 → Nat)
/-- a record, sealed -/
def sealL (b : List UInt8) : List UInt8 := put32 b.length ++ (put32 (sumF (put32 b.length ++ b)) ++ b)
theorem sealL_len (b : List UInt8) : (sealL sumF b).length = b.length + 8 := by
  simp only [sealL, List.length_append, put32_len]
  omega
/-- the record ahead: what is sealed, how long it was -/
def open1 (b : List UInt8) : Option (List UInt8 × Nat) :=
  if b.length < 8 then none
  else if 1048576 < get32 b then none
  else if b.length < 8 + get32 b then none
  else if sumF (b.take 4 ++ (b.drop 8).take (get32 b)) ≠ get32 (b.drop 4) then none
  else some ((b.drop 8).take (get32 b), 8 + get32 b)
theorem open1_le {b p : List UInt8} {n : Nat} (h : open1 sumF b = some (p, n)) : 8 ≤ n ∧ n ≤ b.length ∧ p.length + 8 = n := by
  unfold open1 at h
  split at h
  · cases h
  · split at h
    · cases h
    · split at h
      · cases h
      · split at h
        · cases h
        · simp only [Option.some.injEq, Prod.mk.injEq] at h
          obtain ⟨rfl, rfl⟩ := h
          rw [List.length_take, List.length_drop]
          omega
theorem open1_seal (hs : ∀ l, sumF l < 4294967296) (r t : List UInt8) (hr : r.length ≤ 1048576) : open1 sumF (sealL sumF r ++ t) = some (r, 8 + r.length) := by
  have e1 : get32 (sealL sumF r ++ t) = r.length := by
    unfold sealL
    rw [List.append_assoc, get_put _ _ (by omega)]
  have e2 : (sealL sumF r ++ t).take 4 = put32 r.length := by
    unfold sealL
    rw [List.append_assoc, List.take_append_of_le_length (by rw [put32_len]; exact Nat.le_refl _), List.take_of_length_le (by rw [put32_len]; exact Nat.le_refl _)]
  have e3 : (sealL sumF r ++ t).drop 4 = put32 (sumF (put32 r.length ++ r)) ++ (r ++ t) := by
    unfold sealL
    rw [List.append_assoc, List.append_assoc, show (4 : Nat) = (put32 r.length).length from rfl, List.drop_left]
  have e4 : (sealL sumF r ++ t).drop 8 = r ++ t := by
    rw [show (8 : Nat) = 4 + 4 from rfl, ← List.drop_drop, e3, show (4 : Nat) = (put32 (sumF (put32 r.length ++ r))).length from rfl, List.drop_left]
  unfold open1
  rw [if_neg (by rw [List.length_append, sealL_len]; omega), e1, if_neg (by omega), if_neg (by rw [List.length_append, sealL_len]; omega), e2, e3, e4, List.take_left, get_put _ _ (hs _), if_neg (by simp)]
/-- the records ahead, up to the first that does not open; how far they reach -/
def openAllL (b : List UInt8) : List (List UInt8) × Nat :=
  match _h : open1 sumF b with
  | none => ([], 0)
  | some (p, n) => (p :: (openAllL (b.drop n)).1, n + (openAllL (b.drop n)).2)
termination_by b.length
decreasing_by
  all_goals
    have := open1_le sumF _h
    rw [List.length_drop]
    omega
theorem openAll_none {b : List UInt8} (h : open1 sumF b = none) : openAllL sumF b = ([], 0) := by
  rw [openAllL]
  split
  · rfl
  · rename_i h2
    rw [h] at h2
    cases h2
theorem openAll_some {b p : List UInt8} {n : Nat} (h : open1 sumF b = some (p, n)) : openAllL sumF b = (p :: (openAllL sumF (b.drop n)).1, n + (openAllL sumF (b.drop n)).2) := by
  rw [openAllL]
  split
  · rename_i h2
    rw [h] at h2
    cases h2
  · rename_i h2
    rw [h] at h2
    cases h2
    rfl
/-- sealed records, then something -/
theorem openAll_seals (hs : ∀ l, sumF l < 4294967296) : ∀ (rs : List (List UInt8)) (t : List UInt8), (∀ r ∈ rs, r.length ≤ 1048576) →
    openAllL sumF (rs.flatMap (sealL sumF) ++ t) = (rs ++ (openAllL sumF t).1, (rs.flatMap (sealL sumF)).length + (openAllL sumF t).2)
  | [], t, _ => by simp
  | r :: rs, t, h => by
    have h1 := open1_seal sumF hs r (rs.flatMap (sealL sumF) ++ t) (h r (by simp))
    rw [List.flatMap_cons, List.append_assoc, openAll_some sumF h1, show 8 + r.length = (sealL sumF r).length by rw [sealL_len]; omega, List.drop_left, openAll_seals hs rs t (fun x hx => h x (by simp [hx]))]
    simp only [List.length_append, List.cons_append]
    rw [Nat.add_assoc]
theorem openAll_short {t : List UInt8} (h : t.length < 8) : openAllL sumF t = ([], 0) := openAll_none sumF (by unfold open1; rw [if_pos h])
end
end Go.Proofs.Ytbldfgpnghoigaa
