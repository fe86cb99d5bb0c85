/- Files and edits of a manifest: how they read, on both sides; what an edit is written as. Plain. -/
import Derived.Test.YtmgibpedclngpaaGetN
import Derived.Test.YtmgibpedclngpaaBlkS
namespace Go.Proofs.Ytmgibpedclngpaa
open Go.RowKit

/-- a number of 64 bits with a sign -/
def I64 (n : Int) : Prop := -9223372036854775808 ≤ n ∧ n < 9223372036854775808
/-- a file -/
structure LFile where
  num : Nat
  level : Int
  first : List UInt8
  last : List UInt8
  count : Int
  size : Int
/-- its numbers are in range -/
def LFile.wf (f : LFile) : Prop := U64 f.num ∧ I64 f.level ∧ I64 f.count ∧ I64 f.size
/-- an edit -/
structure LEdit where
  reset : Bool
  add : List LFile
  drop : List Nat
  seq : Nat
/-- the program's files -/
def FE : ER LFile where
  size := 6
  pos := by omega
  bytes := 80
  bpos := by omega
  rep w S vs f := ∃ A c B d, vs = [.slice A f.first.length c, .slice B f.last.length d, .int .i64 f.count, .int .i64 f.size, .int .u64 (f.num : Int), .int .i64 f.level] ∧ (Bs w A f.first ∧ At S A f.first.length ∧ f.first.length ≤ c ∧ c ≤ 9223372036854775807) ∧ (Bs w B f.last ∧ At S B f.last.length ∧ f.last.length ≤ d ∧ d ≤ 9223372036854775807) ∧ f.wf
  len := by rintro w S vs a ⟨A, c, B, d, rfl, _⟩; rfl
  one := by rintro w S vs a ⟨A, c, B, d, rfl, _⟩ v hv; simp at hv; rcases hv with rfl | rfl | rfl | rfl | rfl | rfl <;> rfl
  keep := by rintro w w' S vs a ⟨A, c, B, d, rfl, ⟨h1, h2, h3⟩, ⟨h4, h5, h6⟩, h7⟩ hs; exact ⟨A, c, B, d, rfl, ⟨h1.sameS h2 hs, h2, h3⟩, ⟨h4.sameS h5 hs, h5, h6⟩, h7⟩
  mono := by rintro w S S' vs a ⟨A, c, B, d, rfl, ⟨h1, h2, h3⟩, ⟨h4, h5, h6⟩, h7⟩ hs; exact ⟨A, c, B, d, rfl, ⟨h1, h1.atMono h2 hs, h3⟩, ⟨h4, h4.atMono h5 hs, h6⟩, h7⟩
/-- the document's files -/
def RFE : ER LFile where
  size := 6
  pos := by omega
  bytes := 80
  bpos := by omega
  rep w S vs f := ∃ A c B d, vs = [.int .u64 (f.num : Int), .int .i64 f.level, .slice A f.first.length c, .slice B f.last.length d, .int .i64 f.count, .int .i64 f.size] ∧ (Bs w A f.first ∧ At S A f.first.length ∧ f.first.length ≤ c ∧ c ≤ 9223372036854775807) ∧ (Bs w B f.last ∧ At S B f.last.length ∧ f.last.length ≤ d ∧ d ≤ 9223372036854775807) ∧ f.wf
  len := by rintro w S vs a ⟨A, c, B, d, rfl, _⟩; rfl
  one := by rintro w S vs a ⟨A, c, B, d, rfl, _⟩ v hv; simp at hv; rcases hv with rfl | rfl | rfl | rfl | rfl | rfl <;> rfl
  keep := by rintro w w' S vs a ⟨A, c, B, d, rfl, ⟨h1, h2, h3⟩, ⟨h4, h5, h6⟩, h7⟩ hs; exact ⟨A, c, B, d, rfl, ⟨h1.sameS h2 hs, h2, h3⟩, ⟨h4.sameS h5 hs, h5, h6⟩, h7⟩
  mono := by rintro w S S' vs a ⟨A, c, B, d, rfl, ⟨h1, h2, h3⟩, ⟨h4, h5, h6⟩, h7⟩ hs; exact ⟨A, c, B, d, rfl, ⟨h1, h1.atMono h2 hs, h3⟩, ⟨h4, h4.atMono h5 hs, h6⟩, h7⟩
/-- numbers of 64 bits -/
def NE : ER Nat where
  size := 1
  pos := by omega
  bytes := 8
  bpos := by omega
  rep _ _ vs n := vs = [.int .u64 (n : Int)] ∧ U64 n
  len := by rintro w S vs a ⟨rfl, _⟩; rfl
  one := by rintro w S vs a ⟨rfl, _⟩ v hv; simp at hv; subst hv; rfl
  keep := by rintro w w' S vs a h _; exact h
  mono := by rintro w S S' vs a h _; exact h
section
variable {w w' : World} {S : Nat → Prop} {A : Option Addr}
theorem FE.at_ {l : List LFile} (h : SlS FE w S A l) {k : Nat} (hk : k < l.length) :
    ∃ ad P p Q q, A = some ad ∧ ad.block < w.heap.size ∧ w.cell? (ad.add (k * 6)) = some (.slice P l[k].first.length p) ∧ w.cell? ⟨(ad.add (k * 6)).block, (ad.add (k * 6)).off + 1, none⟩ = some (.slice Q l[k].last.length q) ∧ w.cell? ⟨(ad.add (k * 6)).block, (ad.add (k * 6)).off + 2, none⟩ = some (.int .i64 l[k].count) ∧ w.cell? ⟨(ad.add (k * 6)).block, (ad.add (k * 6)).off + 3, none⟩ = some (.int .i64 l[k].size) ∧ w.cell? ⟨(ad.add (k * 6)).block, (ad.add (k * 6)).off + 4, none⟩ = some (.int .u64 (l[k].num : Int)) ∧ w.cell? ⟨(ad.add (k * 6)).block, (ad.add (k * 6)).off + 5, none⟩ = some (.int .i64 l[k].level) ∧
      (Bs w P l[k].first ∧ At S P l[k].first.length ∧ l[k].first.length ≤ p ∧ p ≤ 9223372036854775807) ∧ (Bs w Q l[k].last ∧ At S Q l[k].last.length ∧ l[k].last.length ≤ q ∧ q ≤ 9223372036854775807) ∧ l[k].wf := by
  obtain ⟨ad, vs, rfl, hb, ⟨P, p, Q, q, rfl, h1, h2, h3⟩, h4, _, h5⟩ := SlS.at_ h hk
  exact ⟨ad, P, p, Q, q, rfl, hb, h4 _ rfl, h5 1 _ (by omega) rfl, h5 2 _ (by omega) rfl, h5 3 _ (by omega) rfl, h5 4 _ (by omega) rfl, h5 5 _ (by omega) rfl, h1, h2, h3⟩
theorem RFE.at_ {l : List LFile} (h : SlS RFE w S A l) {k : Nat} (hk : k < l.length) :
    ∃ ad P p Q q, A = some ad ∧ ad.block < w.heap.size ∧ w.cell? (ad.add (k * 6)) = some (.int .u64 (l[k].num : Int)) ∧ w.cell? ⟨(ad.add (k * 6)).block, (ad.add (k * 6)).off + 1, none⟩ = some (.int .i64 l[k].level) ∧ w.cell? ⟨(ad.add (k * 6)).block, (ad.add (k * 6)).off + 2, none⟩ = some (.slice P l[k].first.length p) ∧ w.cell? ⟨(ad.add (k * 6)).block, (ad.add (k * 6)).off + 3, none⟩ = some (.slice Q l[k].last.length q) ∧ w.cell? ⟨(ad.add (k * 6)).block, (ad.add (k * 6)).off + 4, none⟩ = some (.int .i64 l[k].count) ∧ w.cell? ⟨(ad.add (k * 6)).block, (ad.add (k * 6)).off + 5, none⟩ = some (.int .i64 l[k].size) ∧
      (Bs w P l[k].first ∧ At S P l[k].first.length ∧ l[k].first.length ≤ p ∧ p ≤ 9223372036854775807) ∧ (Bs w Q l[k].last ∧ At S Q l[k].last.length ∧ l[k].last.length ≤ q ∧ q ≤ 9223372036854775807) ∧ l[k].wf := by
  obtain ⟨ad, vs, rfl, hb, ⟨P, p, Q, q, rfl, h1, h2, h3⟩, h4, _, h5⟩ := SlS.at_ h hk
  exact ⟨ad, P, p, Q, q, rfl, hb, h4 _ rfl, h5 1 _ (by omega) rfl, h5 2 _ (by omega) rfl, h5 3 _ (by omega) rfl, h5 4 _ (by omega) rfl, h5 5 _ (by omega) rfl, h1, h2, h3⟩
theorem NE.at_ {l : List Nat} (h : SlS NE w S A l) {k : Nat} (hk : k < l.length) :
    ∃ ad, A = some ad ∧ ad.block < w.heap.size ∧ w.cell? (ad.add k) = some (.int .u64 (l[k] : Int)) ∧ U64 l[k] := by
  obtain ⟨ad, vs, rfl, hb, ⟨rfl, h1⟩, h4, _, _⟩ := SlS.at_ h hk
  have := h4 _ rfl
  rw [show k * NE.size = k from Nat.mul_one k] at this
  exact ⟨ad, rfl, hb, this, h1⟩
end
/-- a number with a sign, as 64 bits -/
def toU (n : Int) : Nat := (n % 18446744073709551616).toNat
/-- 64 bits, as a number with a sign -/
def toI (n : Nat) : Int := if n < 9223372036854775808 then (n : Int) else (n : Int) - 18446744073709551616
theorem toU_u64 (n : Int) : U64 (toU n) := by unfold toU U64; omega
theorem toI_toU {n : Int} (h : I64 n) : toI (toU n) = n := by
  obtain ⟨h1, h2⟩ := h
  unfold toI toU
  split <;> omega
theorem toI_i64 {n : Nat} (h : U64 n) : I64 (toI n) := by
  unfold U64 at h
  unfold toI I64
  split <;> omega
theorem wrap_toU (n : Int) : IntKind.u64.wrap n = (toU n : Int) := by
  unfold toU
  simp only [IntKind.wrap]
  split <;> simp_all [IntKind.bits, IntKind.signed] <;> omega
theorem wrap_toI {n : Nat} (h : U64 n) : IntKind.i64.wrap (n : Int) = toI n := by
  unfold U64 at h
  unfold toI
  simp only [IntKind.wrap]
  split <;> simp_all [IntKind.bits, IntKind.signed] <;> (split <;> omega)
/-- a file's part of an edit's bytes -/
def fileL (f : LFile) : List UInt8 := putU f.num ++ (putU (toU f.level) ++ (putU (toU f.count) ++ (putU (toU f.size) ++ (ordT f.first ++ ordT f.last))))
def headL (e : LEdit) : List UInt8 := (if e.reset then 1 else 0) :: putU e.seq
def dropL (l : List Nat) : List UInt8 := l.flatMap putU
/-- an edit's bytes -/
def editL (e : LEdit) : List UInt8 := frameL (headL e :: dropL e.drop :: e.add.map fileL)
/-- a text with an end, at the beginning of a row: the text, how wide, the error -/
def getT : List UInt8 → List UInt8 × Nat × Int
  | [] => ([], 0, 5)
  | x :: l => if x ≠ 0 then (match getT l with | (t, k, e) => if e = 0 then (x :: t, k + 1, 0) else ([], 0, e)) else match l with
    | [] => ([], 0, 5)
    | y :: r => if y = 1 then ([], 2, 0) else if y ≠ 255 then ([], 0, 3) else match getT r with | (t, k, e) => if e = 0 then (0 :: t, k + 2, 0) else ([], 0, e)
theorem getT_ne {x : UInt8} (h : x ≠ 0) (l : List UInt8) : getT (x :: l) = (match getT l with | (t, k, e) => if e = 0 then (x :: t, k + 1, 0) else ([], 0, e)) := by
  cases l with
  | nil => unfold getT; rw [if_pos h]; rfl
  | cons y r => conv => lhs; unfold getT
                rw [if_pos h]
theorem getT_ordT : ∀ (t r : List UInt8), getT (ordT t ++ r) = (t, (ordT t).length, 0)
  | [], r => rfl
  | x :: t, r => by
    have ih := getT_ordT t r
    by_cases h : x = 0
    · subst h
      rw [ordT_zero]
      show (if (0 : UInt8) ≠ 0 then _ else match 255 :: (ordT t ++ r) with | [] => ([], 0, 5) | y :: r => if y = 1 then ([], 2, 0) else if y ≠ 255 then ([], 0, 3) else match getT r with | (t, k, e) => if e = 0 then (0 :: t, k + 2, 0) else ([], 0, e)) = _
      rw [if_neg (by decide)]
      show (if (255 : UInt8) = 1 then ([], 2, 0) else if (255 : UInt8) ≠ 255 then ([], 0, 3) else match getT (ordT t ++ r) with | (t, k, e) => if e = 0 then (0 :: t, k + 2, 0) else ([], 0, e)) = _
      rw [if_neg (by decide), if_neg (by decide), ih]
      rfl
    · rw [ordT_pos h, List.cons_append, getT_ne h, ih]
      rfl
theorem getT_ok : ∀ {l : List UInt8} {t : List UInt8} {k : Nat}, getT l = (t, k, 0) → k ≤ l.length ∧ t.length + 2 ≤ k
  | [], t, k, h => by injection h with _ h; injection h with _ h; cases h
  | [x], t, k, h => by
    unfold getT at h
    by_cases hx : x ≠ 0
    · rw [if_pos hx] at h
      simp [getT] at h
    · rw [if_neg hx] at h
      injection h with _ h; injection h with _ h; cases h
  | x :: y :: l, t, k, h => by
    unfold getT at h
    by_cases hx : x ≠ 0
    · rw [if_pos hx] at h
      cases hg : getT (y :: l) with
      | mk t1 q =>
        obtain ⟨k1, e1⟩ := q
        rw [hg] at h
        dsimp only at h
        by_cases he : e1 = 0
        · rw [if_pos he] at h
          subst he
          obtain ⟨h1, h2⟩ := getT_ok hg
          injection h with h3 h4; injection h4 with h4 _
          subst h3 h4
          rw [List.length_cons] at h1
          simp only [List.length_cons]
          omega
        · rw [if_neg he] at h
          injection h with _ h; injection h with _ h; exact absurd h he
    · rw [if_neg hx] at h
      dsimp only at h
      by_cases h1 : y = 1
      · rw [if_pos h1] at h
        injection h with h3 h4; injection h4 with h4 _
        subst h3 h4
        simp
      · rw [if_neg h1] at h
        by_cases h2 : y ≠ 255
        · rw [if_pos h2] at h
          injection h with _ h; injection h with _ h; cases h
        · rw [if_neg h2] at h
          cases hg : getT l with
          | mk t1 q =>
            obtain ⟨k1, e1⟩ := q
            rw [hg] at h
            dsimp only at h
            by_cases he : e1 = 0
            · rw [if_pos he] at h
              subst he
              obtain ⟨h5, h6⟩ := getT_ok hg
              injection h with h3 h4; injection h4 with h4 _
              subst h3 h4
              simp only [List.length_cons]
              omega
            · rw [if_neg he] at h
              injection h with _ h; injection h with _ h; exact absurd h he
end Go.Proofs.Ytmgibpedclngpaa
