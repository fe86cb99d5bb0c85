/- What is written is read back: plain. -/
import Derived.Test.YtmgibpedclngpaaMRFile
namespace Go.Proofs.Ytmgibpedclngpaa
open Go.RowKit

theorem getF_putU64 (n : Nat) : ∀ (i m : Nat) (s : List UInt8), i ≤ 9 → n * 128 ^ i < 18446744073709551616 → (i = 0 ∨ 0 < n) → getF (putU n ++ s) i m = (m + n * 128 ^ i, i + (putU n).length, 0) := by
  induction n using Nat.strongRecOn with
  | ind n ih =>
    intro i m s hi hn h0
    have h9 : i = 9 → n ≤ 1 := fun e => by
      subst e
      have h : n * 9223372036854775808 < 18446744073709551616 := hn
      omega
    by_cases h : n < 128
    · rw [putU_lt h]
      have hb : (UInt8.ofNat n).toNat = n := by simp [Nat.mod_eq_of_lt (show n < 256 by omega)]
      show (if (i = 9 ∧ 1 < (UInt8.ofNat n).toNat) ∨ ((UInt8.ofNat n).toNat = 0 ∧ 0 < i) then _ else if (UInt8.ofNat n).toNat < 128 then (m + (UInt8.ofNat n).toNat % 128 * 128 ^ i, i + 1, (0 : Int)) else _) = _
      rw [hb, if_neg (by omega), if_pos h, Nat.mod_eq_of_lt h]
      rfl
    · rw [putU_ge h]
      have hb : (UInt8.ofNat (n % 128 + 128)).toNat = n % 128 + 128 := by simp [Nat.mod_eq_of_lt (show n % 128 + 128 < 256 by omega)]
      have hi8 : i ≤ 8 := by omega
      have hd : n / 128 * 128 ^ (i + 1) < 18446744073709551616 := by
        refine Nat.lt_of_le_of_lt ?_ hn
        rw [Nat.pow_succ, Nat.mul_comm (128 ^ i) 128, ← Nat.mul_assoc]
        exact Nat.mul_le_mul_right _ (by omega)
      show (if (i = 9 ∧ 1 < (UInt8.ofNat (n % 128 + 128)).toNat) ∨ ((UInt8.ofNat (n % 128 + 128)).toNat = 0 ∧ 0 < i) then _ else if (UInt8.ofNat (n % 128 + 128)).toNat < 128 then _ else getF (putU (n / 128) ++ s) (i + 1) (m + (UInt8.ofNat (n % 128 + 128)).toNat % 128 * 128 ^ i)) = _
      rw [hb, if_neg (by omega), if_neg (by omega), ih (n / 128) (by omega) (i + 1) _ s (by omega) hd (.inr (by omega))]
      have e1 : (n % 128 + 128) % 128 = n % 128 := by omega
      have e2 : n % 128 * 128 ^ i + n / 128 * 128 ^ (i + 1) = n * 128 ^ i := by
        rw [Nat.pow_succ, Nat.mul_comm (128 ^ i) 128, ← Nat.mul_assoc, ← Nat.add_mul]
        congr 1
        omega
      rw [e1, Nat.add_assoc, e2, List.length_cons]
      congr 2
      omega
/-- a number is read back at its place -/
theorem nxtN_put {n : Nat} (hn : U64 n) (a s : List UInt8) : nxtN (a ++ (putU n ++ s)) a.length = (n, a.length + (putU n).length, 0) := by
  have h := getF_putU64 n 0 0 s (by decide) (by rw [Nat.pow_zero, Nat.mul_one]; exact hn) (.inl rfl)
  rw [Nat.zero_add, Nat.zero_add, Nat.pow_zero, Nat.mul_one] at h
  unfold nxtN
  rw [List.drop_left, h]
  rfl
/-- a text is read back at its place -/
theorem nxtT_put (t a s : List UInt8) : nxtT (a ++ (ordT t ++ s)) a.length = (t, a.length + (ordT t).length, 0) := by
  unfold nxtT
  rw [List.drop_left, getT_ordT]
  rfl
theorem nxtN_at {p a s : List UInt8} {n q : Nat} (e : p = a ++ (putU n ++ s)) (hq : q = a.length) (hn : U64 n) : nxtN p q = (n, (a ++ putU n).length, 0) := by
  subst e hq
  rw [nxtN_put hn, List.length_append]
theorem nxtT_at {p a s t : List UInt8} {q : Nat} (e : p = a ++ (ordT t ++ s)) (hq : q = a.length) : nxtT p q = (t, (a ++ ordT t).length, 0) := by
  subst e hq
  rw [nxtT_put, List.length_append]
theorem dropQ_put : ∀ (ds : List Nat) (a : List UInt8) (acc : List Nat), (∀ n ∈ ds, U64 n) → dropQ (a ++ dropL ds) a.length acc = (acc ++ ds, 0)
  | [], a, acc, _ => by
    have h : ¬ a.length < (a ++ dropL []).length := by show ¬ a.length < (a ++ []).length; rw [List.append_nil]; omega
    rw [dropQ_end h, List.append_nil]
  | n :: ds, a, acc, hu => by
    have e : a ++ dropL (n :: ds) = a ++ (putU n ++ dropL ds) := rfl
    have e2 : a ++ (putU n ++ dropL ds) = (a ++ putU n) ++ dropL ds := (List.append_assoc ..).symm
    have hx := nxtN_at (s := dropL ds) e rfl (hu n (List.mem_cons_self ..))
    have hlt : a.length < (a ++ dropL (n :: ds)).length := by rw [e, List.length_append, List.length_append]; have := putU_pos n; omega
    rw [dropQ_step hlt (by rw [hx]), hx, e, e2]
    show dropQ ((a ++ putU n) ++ dropL ds) (a ++ putU n).length (acc ++ [n]) = _
    rw [dropQ_put ds (a ++ putU n) (acc ++ [n]) (fun x hx => hu x (List.mem_cons_of_mem _ hx)), List.append_assoc]
    rfl
theorem dropR_put {ds : List Nat} (h : ∀ n ∈ ds, U64 n) : dropR (dropL ds) = (ds, 0) := dropQ_put ds [] [] h
/-- a file is read back -/
theorem fileR_put {f : LFile} (h : f.wf) : fileR (fileL f) = (f, 0) := by
  obtain ⟨h1, h2, h3, h4⟩ := h
  have k1 := nxtN_at (p := fileL f) (a := []) (q := 0) rfl rfl h1
  have k2 := nxtN_at (p := fileL f) (a := [] ++ putU f.num) rfl rfl (toU_u64 _)
  have k3 := nxtN_at (p := fileL f) (a := [] ++ putU f.num ++ putU (toU f.level)) (s := putU (toU f.size) ++ (ordT f.first ++ ordT f.last)) (n := toU f.count) (by unfold fileL; simp only [List.append_assoc, List.nil_append]) rfl (toU_u64 _)
  have k4 := nxtN_at (p := fileL f) (a := [] ++ putU f.num ++ putU (toU f.level) ++ putU (toU f.count)) (s := ordT f.first ++ ordT f.last) (n := toU f.size) (by unfold fileL; simp only [List.append_assoc, List.nil_append]) rfl (toU_u64 _)
  have k5 := nxtT_at (p := fileL f) (a := [] ++ putU f.num ++ putU (toU f.level) ++ putU (toU f.count) ++ putU (toU f.size)) (s := ordT f.last) (t := f.first) (by unfold fileL; simp only [List.append_assoc, List.nil_append]) rfl
  have k6 := nxtT_at (p := fileL f) (a := [] ++ putU f.num ++ putU (toU f.level) ++ putU (toU f.count) ++ putU (toU f.size) ++ ordT f.first) (s := []) (t := f.last) (by unfold fileL; simp only [List.append_assoc, List.nil_append, List.append_nil]) rfl
  have hh := fileR_eq (p := fileL f) (Lib.hid ((nN_zero _ _).trans k1)) (Lib.hid ((nN_zero _ _).trans k2)) (Lib.hid ((nN_zero _ _).trans k3)) (Lib.hid ((nN_zero _ _).trans k4)) (Lib.hid ((tN_zero _ _).trans k5)) (Lib.hid ((tN_zero _ _).trans k6))
  rw [hh, toI_toU h2, toI_toU h3, toI_toU h4]
  have hd : doneE (fileL f) ([] ++ putU f.num ++ putU (toU f.level) ++ putU (toU f.count) ++ putU (toU f.size) ++ ordT f.first ++ ordT f.last).length 0 = 0 := if_neg (fun h => by
    have := h.2
    unfold fileL at this
    simp only [List.append_assoc, List.nil_append] at this
    omega)
  rw [hd]
theorem filesR_put : ∀ {fs : List LFile}, (∀ f ∈ fs, f.wf) → filesR (fs.map fileL) = (fs, 0)
  | [], _ => rfl
  | f :: fs, h => by
    show filesR (fileL f :: fs.map fileL) = _
    unfold filesR
    rw [fileR_put (h f (List.mem_cons_self ..)), filesR_put (fun x hx => h x (List.mem_cons_of_mem _ hx))]
    rfl
def LEdit.wf (e : LEdit) : Prop := (∀ f ∈ e.add, f.wf) ∧ (∀ n ∈ e.drop, U64 n) ∧ U64 e.seq
/-- an edit is read back -/
theorem decM_edit {e : LEdit} (h : e.wf) (hl : ∀ l ∈ headL e :: dropL e.drop :: e.add.map fileL, l.length < 1099511627776) : decM (editL e) = (e, 0) := by
  obtain ⟨h1, h2, h3⟩ := h
  unfold decM editL
  rw [partsL_frame hl, if_neg (fun h => h rfl)]
  unfold decM1
  have k1 : nN (headL e) 1 0 = (e.seq, (headL e).length, 0) := by
    rw [nN_zero]
    have := nxtN_at (p := headL e) (a := [if e.reset then 1 else 0]) (s := []) (n := e.seq) (q := 1) (by rw [List.append_nil]; rfl) rfl h3
    exact this
  rw [if_neg (by show ¬ _ + 1 + 1 < 2; omega)]
  rw [show (headL e :: dropL e.drop :: e.add.map fileL).getD 0 [] = headL e from rfl, show (headL e :: dropL e.drop :: e.add.map fileL).getD 1 [] = dropL e.drop from rfl, show (headL e :: dropL e.drop :: e.add.map fileL).drop 2 = e.add.map fileL from rfl]
  rw [if_neg (by show ¬ _ + 1 = 0; omega), show (headL e).getD 0 0 = (if e.reset then 1 else 0) from rfl]
  rw [if_neg (by cases e.reset <;> decide)]
  unfold decM2
  rw [k1]
  have hd : doneE (headL e) (headL e).length 0 = 0 := if_neg (fun h => Nat.lt_irrefl _ h.2)
  rw [show doneE (headL e) (e.seq, (headL e).length, (0 : Int)).2.1 (e.seq, (headL e).length, (0 : Int)).2.2 = 0 from hd, if_neg (fun h => h rfl), dropR_put h2, if_neg (fun h => h rfl), filesR_put h1, if_neg (fun h => h rfl), show (headL e).getD 0 0 = (if e.reset then 1 else 0) from rfl]
  cases e with
  | mk r a d s => cases r <;> rfl
end Go.Proofs.Ytmgibpedclngpaa
