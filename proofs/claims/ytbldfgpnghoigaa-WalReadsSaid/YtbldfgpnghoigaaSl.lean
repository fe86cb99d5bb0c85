/- Slices of any kind of element: how an element reads is a parameter; and in which blocks its data lies. -/
import Derived.Test.YtbldfgpnghoigaaMem
namespace Go.Proofs.Ytbldfgpnghoigaa
open Go.RowKit

/-- where a slice's elements lie -/
def At (S : Nat → Prop) (A : Option Addr) (n : Nat) : Prop := ∀ ad, A = some ad → 0 < n → S ad.block
/-- the blocks of S are in w' what they are in w -/
def Same (S : Nat → Prop) (w w' : World) : Prop := w.heap.size ≤ w'.heap.size ∧ ∀ b, S b → b < w.heap.size → w'.heap[b]? = w.heap[b]?
def Any : Nat → Prop := fun _ => True
theorem Same.of_below {S : Nat → Prop} {w w' : World} (h : Below w.heap.size w w') : Same S w w' := ⟨h.size, fun b _ hb => h.block b hb⟩
theorem Same.mono {S S' : Nat → Prop} {w w' : World} (h : Same S w w') (hs : ∀ b, b < w.heap.size → S' b → S b) : Same S' w w' := ⟨h.1, fun b hb hl => h.2 b (hs b hl hb) hl⟩
theorem Same.of_grown {S : Nat → Prop} {w w' : World} {row : Option Nat} (h : w.grownBy w' row) (hs : ∀ b, S b → row ≠ some b) : Same S w w' :=
  ⟨h.size, fun b hb hl => h.block b hl (fun e => hs b hb e.symm)⟩
theorem At.any (A : Option Addr) (n : Nat) : At Any A n := fun _ _ _ => trivial

theorem Reads.sameS {w w' : World} {size n : Nat} {A : Option Addr} {xs : List Value} {S : Nat → Prop} (h : Reads w w.heap.size size A n xs) (ha : At S A n) (hs : Same S w w') : Reads w' w'.heap.size size A n xs :=
  ⟨h.1, fun hn => by
    obtain ⟨ad, e, hb, hc⟩ := h.2 hn
    refine ⟨ad, e, Nat.lt_of_lt_of_le hb hs.1, fun j u hu => ?_⟩
    rw [← hc j u hu]
    exact World.cell?_of_block (by rw [block_of_add]; exact hs.2 _ (ha ad e hn) hb)⟩
theorem Bs.sameS {w w' : World} {A : Option Addr} {l : List UInt8} {S : Nat → Prop} (h : Bs w A l) (ha : At S A l.length) (hs : Same S w w') : Bs w' A l := ⟨Reads.sameS h.1 ha hs, h.2⟩

theorem Reads.atMono {w : World} {size n : Nat} {A : Option Addr} {xs : List Value} {S S' : Nat → Prop} (h : Reads w w.heap.size size A n xs) (ha : At S A n) (hs : ∀ b, b < w.heap.size → S b → S' b) : At S' A n := fun ad e hn => by
  obtain ⟨ad', e', hb, _⟩ := h.2 hn
  obtain rfl : ad = ad' := Option.some.inj (e.symm.trans e')
  exact hs _ hb (ha ad e hn)
theorem Bs.atMono {w : World} {A : Option Addr} {l : List UInt8} {S S' : Nat → Prop} (h : Bs w A l) (ha : At S A l.length) (hs : ∀ b, b < w.heap.size → S b → S' b) : At S' A l.length := Reads.atMono h.1 ha hs

/-- how an element reads: its number of cells; what they are in a world; its data lies in blocks of S -/
structure ER (α : Type) where
  size : Nat
  pos : 0 < size
  bytes : Nat
  bpos : 0 < bytes
  rep : World → (Nat → Prop) → List Value → α → Prop
  len : ∀ {w S vs a}, rep w S vs a → vs.length = size
  one : ∀ {w S vs a}, rep w S vs a → ∀ v ∈ vs, v.oneCell' = true
  keep : ∀ {w w' S vs a}, rep w S vs a → Same S w w' → rep w' S vs a
  mono : ∀ {w S S' vs a}, rep w S vs a → (∀ b, b < w.heap.size → S b → S' b) → rep w S' vs a

section
variable {α : Type} {E : ER α} {w w' : World} {S S' : Nat → Prop}

/-- these cells are the elements' cells, one behind the other -/
def ER.flat (E : ER α) (w : World) (S : Nat → Prop) : List Value → List α → Prop
  | vs, [] => vs = []
  | vs, x :: xs => ∃ v r, vs = v ++ r ∧ E.rep w S v x ∧ ER.flat E w S r xs

theorem ER.flat_len : ∀ {vs : List Value} {xs : List α}, E.flat w S vs xs → vs.length = xs.length * E.size
  | vs, [], h => by rw [show vs = [] from h]; simp
  | vs, x :: xs, ⟨v, r, e, hv, hr⟩ => by rw [e, List.length_append, E.len hv, ER.flat_len hr, List.length_cons, Nat.succ_mul, Nat.add_comm]
theorem ER.flat_one : ∀ {vs : List Value} {xs : List α}, E.flat w S vs xs → ∀ v ∈ vs, v.oneCell' = true
  | vs, [], h, v, hv => by rw [show vs = [] from h] at hv; cases hv
  | vs, x :: xs, ⟨v, r, e, hv, hr⟩, u, hu => by
    rw [e, List.mem_append] at hu
    rcases hu with hu | hu
    · exact E.one hv u hu
    · exact ER.flat_one hr u hu
theorem ER.flat_same (hs : Same S w w') : ∀ {vs : List Value} {xs : List α}, E.flat w S vs xs → E.flat w' S vs xs
  | _, [], h => h
  | _, _ :: _, ⟨v, r, e, hv, hr⟩ => ⟨v, r, e, E.keep hv hs, ER.flat_same hs hr⟩
theorem ER.flat_keep (hb : Below w.heap.size w w') {vs : List Value} {xs : List α} (h : E.flat w S vs xs) : E.flat w' S vs xs := ER.flat_same (.of_below hb) h
theorem ER.flat_mono (hs : ∀ b, b < w.heap.size → S b → S' b) : ∀ {vs : List Value} {xs : List α}, E.flat w S vs xs → E.flat w S' vs xs
  | _, [], h => h
  | _, _ :: _, ⟨v, r, e, hv, hr⟩ => ⟨v, r, e, E.mono hv hs, ER.flat_mono hs hr⟩
theorem ER.flat_at : ∀ {vs : List Value} {xs : List α} {i : Nat}, E.flat w S vs xs → (hi : i < xs.length) → ∃ v, E.rep w S v xs[i] ∧ ∀ j u, v[j]? = some u → vs[i * E.size + j]? = some u
  | vs, [], i, _, hi => by cases hi
  | vs, x :: xs, 0, ⟨v, r, e, hv, hr⟩, _ => ⟨v, hv, fun j u hu => by
      have hj := (List.getElem?_eq_some_iff.1 hu).1
      rw [e, Nat.zero_mul, Nat.zero_add, List.getElem?_append_left hj]; exact hu⟩
  | vs, x :: xs, i + 1, ⟨v, r, e, hv, hr⟩, hi => by
    obtain ⟨v', hv', h⟩ := ER.flat_at (i := i) hr (by simpa using hi)
    refine ⟨v', by simpa using hv', fun j u hu => ?_⟩
    have := E.len hv
    rw [e, Nat.succ_mul, List.getElem?_append_right (by omega), show i * E.size + E.size + j - v.length = i * E.size + j by omega]
    exact h j u hu
theorem ER.flat_append : ∀ {vs us : List Value} {xs ys : List α}, E.flat w S vs xs → E.flat w S us ys → E.flat w S (vs ++ us) (xs ++ ys)
  | vs, us, [], ys, h, hu => by rw [show vs = [] from h]; exact hu
  | vs, us, x :: xs, ys, ⟨v, r, e, hv, hr⟩, hu => ⟨v, r ++ us, by rw [e, List.append_assoc], hv, ER.flat_append hr hu⟩
theorem ER.flat_one_ {v : List Value} {x : α} (h : E.rep w S v x) : E.flat w S v [x] := ⟨v, [], by simp, h, rfl⟩
theorem ER.flat_snoc {vs v : List Value} {xs : List α} {x : α} (h : E.flat w S vs xs) (hx : E.rep w S v x) : E.flat w S (vs ++ v) (xs ++ [x]) := ER.flat_append h (ER.flat_one_ hx)
theorem ER.flat_take : ∀ {vs : List Value} {xs : List α} (n : Nat), E.flat w S vs xs → E.flat w S (vs.take (n * E.size)) (xs.take n)
  | vs, xs, 0, _ => by simp [ER.flat]
  | vs, [], n + 1, h => by rw [show vs = [] from h]; simp [ER.flat]
  | vs, x :: xs, n + 1, ⟨v, r, e, hv, hr⟩ => by
    refine ⟨v, r.take (n * E.size), ?_, hv, ER.flat_take n hr⟩
    have := E.len hv
    rw [e, List.take_append, List.take_of_length_le (by rw [Nat.succ_mul]; omega), Nat.succ_mul]
    congr 2; omega
theorem ER.flat_drop : ∀ {vs : List Value} {xs : List α} (n : Nat), E.flat w S vs xs → E.flat w S (vs.drop (n * E.size)) (xs.drop n)
  | vs, xs, 0, h => by simpa using h
  | vs, [], n + 1, h => by rw [show vs = [] from h]; simp [ER.flat]
  | vs, x :: xs, n + 1, ⟨v, r, e, hv, hr⟩ => by
    have := E.len hv
    have h := ER.flat_drop n hr
    rw [e, List.drop_append, List.drop_eq_nil_of_le (by rw [Nat.succ_mul]; omega), List.nil_append, List.drop_succ_cons]
    rwa [show (n + 1) * E.size - v.length = n * E.size by rw [Nat.succ_mul]; omega]
/-- element i set anew: its cells from i * size on -/
theorem ER.flat_set : ∀ {vs us : List Value} {xs : List α} {x : α} (i : Nat), E.flat w S vs xs → i < xs.length → E.rep w S us x → E.flat w S (vs.take (i * E.size) ++ us ++ vs.drop ((i + 1) * E.size)) (xs.set i x)
  | vs, us, [], x, i, _, hi, _ => by cases hi
  | vs, us, y :: xs, x, 0, ⟨v, r, e, hv, hr⟩, _, hu => by
    refine ⟨us, r, ?_, hu, hr⟩
    have := E.len hv
    rw [e, Nat.zero_mul, List.take_zero, List.nil_append, Nat.zero_add, Nat.one_mul, List.drop_append, List.drop_eq_nil_of_le (by omega), List.nil_append, show E.size - v.length = 0 by omega, List.drop_zero]
  | vs, us, y :: xs, x, i + 1, ⟨v, r, e, hv, hr⟩, hi, hu => by
    have := E.len hv
    refine ⟨v, r.take (i * E.size) ++ us ++ r.drop ((i + 1) * E.size), ?_, hv, ER.flat_set i hr (by simpa using hi) hu⟩
    rw [e, List.take_append, List.take_of_length_le (by rw [Nat.succ_mul]; omega), List.drop_append, List.drop_eq_nil_of_le (by rw [Nat.succ_mul]; omega), List.nil_append]
    rw [show (i + 1) * E.size - v.length = i * E.size by rw [Nat.succ_mul]; omega, show (i + 1 + 1) * E.size - v.length = (i + 1) * E.size by rw [Nat.succ_mul]; omega]
    simp [List.append_assoc]

/-- The slice '.slice A xs.length c' reads as xs; all lies in blocks of S. -/
def SlS (E : ER α) (w : World) (S : Nat → Prop) (A : Option Addr) (xs : List α) : Prop :=
  xs.length * E.bytes ≤ 140737488351232 ∧ ∃ vs, Reads w w.heap.size E.size A xs.length vs ∧ At S A xs.length ∧ E.flat w S vs xs
/-- The slice reads as xs. -/
abbrev Sl (E : ER α) (w : World) (A : Option Addr) (xs : List α) : Prop := SlS E w Any A xs

theorem SlS.leb {A : Option Addr} {xs : List α} (h : SlS E w S A xs) : xs.length * E.bytes ≤ 140737488351232 := h.1
theorem SlS.le {A : Option Addr} {xs : List α} (h : SlS E w S A xs) : xs.length ≤ 140737488351232 := Nat.le_trans (Nat.le_mul_of_pos_right _ E.bpos) h.1
theorem SlS.nil_ (E : ER α) (w : World) (S : Nat → Prop) (A : Option Addr) : SlS E w S A [] := ⟨by simp, [], ⟨by simp, fun h => absurd h (by simp)⟩, fun _ _ h => absurd h (by simp), rfl⟩
theorem SlS.same {A : Option Addr} {xs : List α} (h : SlS E w S A xs) (hs : Same S w w') : SlS E w' S A xs := by
  obtain ⟨h1, vs, h2, h3, h4⟩ := h
  exact ⟨h1, vs, Reads.sameS h2 h3 hs, h3, ER.flat_same hs h4⟩
theorem SlS.below {A : Option Addr} {xs : List α} (h : SlS E w S A xs) (hb : Below w.heap.size w w') : SlS E w' S A xs := h.same (.of_below hb)
theorem SlS.mono {A : Option Addr} {xs : List α} (h : SlS E w S A xs) (hs : ∀ b, b < w.heap.size → S b → S' b) : SlS E w S' A xs := by
  obtain ⟨h1, vs, h2, h3, h4⟩ := h
  refine ⟨h1, vs, h2, fun ad e hn => ?_, ER.flat_mono hs h4⟩
  obtain ⟨ad', e', hb, _⟩ := h2.2 hn
  obtain rfl : ad = ad' := Option.some.inj (e.symm.trans e')
  exact hs _ hb (h3 ad e hn)
theorem SlS.any {A : Option Addr} {xs : List α} (h : SlS E w S A xs) : Sl E w A xs := h.mono fun _ _ _ => trivial
theorem SlS.drewN {A : Option Addr} {xs : List α} (h : SlS E w S A xs) (n : Nat) : SlS E (w.drewN n) S A xs := h.below (below_drewN (Below.refl _ _) n)
theorem SlS.alloc {A : Option Addr} {xs : List α} (h : SlS E w S A xs) (o : Obj) : SlS E (w.alloc o) S A xs := h.below ((Below.refl _ _).alloc (Nat.le_refl _) _)
theorem SlS.all {A : Option Addr} {xs : List α} (h : SlS E w S A xs) : ∀ x ∈ xs, ∃ vs, E.rep w S vs x := by
  obtain ⟨_, vs, _, _, h⟩ := h
  intro x hx
  obtain ⟨i, hi, rfl⟩ := List.getElem_of_mem hx
  obtain ⟨v, hv, _⟩ := ER.flat_at h hi
  exact ⟨v, hv⟩
/-- element i: its address, and its cells -/
theorem SlS.at_ {A : Option Addr} {xs : List α} (h : SlS E w S A xs) {i : Nat} (hi : i < xs.length) :
    ∃ ad vs, A = some ad ∧ ad.block < w.heap.size ∧ E.rep w S vs xs[i] ∧ (∀ u, vs[0]? = some u → w.cell? (ad.add (i * E.size)) = some u) ∧
      (∀ j u, vs[j]? = some u → w.cell? (ad.add (i * E.size + j)) = some u) ∧
      ∀ j u, j ≠ 0 → vs[j]? = some u → w.cell? ⟨(ad.add (i * E.size)).block, (ad.add (i * E.size)).off + j, none⟩ = some u := by
  obtain ⟨_, vs, h2, _, h3⟩ := h
  obtain ⟨v, hv, hc⟩ := ER.flat_at h3 hi
  obtain ⟨ad, rfl, hb, hr⟩ := h2.2 (by omega)
  refine ⟨ad, v, rfl, hb, hv, fun u hu => by simpa using hr _ u (hc 0 u hu), fun j u hu => hr _ u (hc j u hu), fun j u hj hu => ?_⟩
  have := hr _ u (hc j u hu)
  rw [← add_of_add] at this
  unfold Addr.add at this ⊢
  rw [if_neg hj] at this
  exact this
theorem SlS.take {A : Option Addr} {xs : List α} (h : SlS E w S A xs) (n : Nat) (hn : n ≤ xs.length) : SlS E w S A (xs.take n) := by
  obtain ⟨h1, vs, h2, ha, h3⟩ := h
  refine ⟨Nat.le_trans (Nat.mul_le_mul_right _ (by simp; omega)) h1, vs.take (n * E.size), ⟨?_, fun hp => ?_⟩, fun ad e hp => ha ad e (by simp at hp; omega), ER.flat_take n h3⟩
  · have := ER.flat_len (ER.flat_take n h3); exact this
  · have hp' : 0 < n := by simp at hp; omega
    obtain ⟨ad, e, hb, hc⟩ := h2.2 (by omega)
    exact ⟨ad, e, hb, fun j u hu => hc j u (by rw [List.getElem?_take] at hu; split at hu; exact hu; cases hu)⟩
theorem SlS.drop {A : Option Addr} {xs : List α} (h : SlS E w S A xs) {k cap : Nat} (hk : k ≤ xs.length) (hc : xs.length ≤ cap) :
    SlS E w S (if cap = k then A else A.map (·.add (k * E.size))) (xs.drop k) := by
  obtain ⟨h1, vs, h2, ha, h3⟩ := h
  have := h2.cut hk hc
  refine ⟨Nat.le_trans (Nat.mul_le_mul_right _ (by simp)) h1, vs.drop (k * E.size), ?_, fun ad e hp => ?_, ER.flat_drop k h3⟩
  · rw [List.length_drop]; exact this
  · have hp' : k < xs.length := by simp at hp; omega
    rw [if_neg (by omega)] at e
    cases A with
    | none => cases e
    | some a0 =>
      injection e with e
      rw [← e, block_of_add]
      exact ha a0 rfl (by omega)
theorem SlS.reads {A : Option Addr} {xs : List α} (h : SlS E w S A xs) : ∃ vs, Reads w w.heap.size E.size A xs.length vs ∧ E.flat w S vs xs := by
  obtain ⟨_, vs, h2, _, h3⟩ := h
  exact ⟨vs, h2, h3⟩
theorem SlS.of_own {base : Nat} {t : TypeId} {A : Option Addr} {c : Nat} {xs : List α} {vs : List Value} (h : w.ownsRow base t E.size (.slice A xs.length c) xs.length vs) (hf : E.flat w S vs xs)
    (hl : xs.length * E.bytes ≤ 140737488351232) : Sl E w A xs := ⟨hl, vs, Reads.of_own h, At.any _ _, ER.flat_mono (fun _ _ _ => trivial) hf⟩

/-- A row of the call's own, from block B on, in which xs are collected; the elements' data lie in other blocks, of S. -/
def Own (E : ER α) (t : TypeId) (w : World) (B : Nat) (S : Nat → Prop) (v : Value) (xs : List α) : Prop :=
  ∃ vs, w.ownsRow B t E.size v xs.length vs ∧ E.flat w (fun b => S b ∧ v.ownBlock ≠ some b) vs xs
theorem Own.nil_ (E : ER α) (t : TypeId) (w : World) (B : Nat) (S : Nat → Prop) : Own E t w B S (.slice none 0 0) [] := ⟨[], World.ownsRow_nil _ _ _ _, rfl⟩
theorem Own.shape {t : TypeId} {B : Nat} {v : Value} {xs : List α} (h : Own E t w B S v xs) : ∃ A c, v = .slice A xs.length c := by
  obtain ⟨vs, h, _⟩ := h
  exact own_shape h
theorem Own.sl {t : TypeId} {B c : Nat} {A : Option Addr} {xs : List α} (h : Own E t w B S (.slice A xs.length c) xs) (hl : xs.length * E.bytes ≤ 140737488351232) : Sl E w A xs := by
  obtain ⟨vs, h, hf⟩ := h
  exact .of_own h hf hl
theorem Own.slN {t : TypeId} {B c n : Nat} {A : Option Addr} {xs : List α} (h : Own E t w B S (.slice A n c) xs) (hn : n = xs.length) (hl : xs.length * E.bytes ≤ 140737488351232) : Sl E w A xs := by
  subst hn
  exact h.sl hl
theorem Own.below {t : TypeId} {B : Nat} {v : Value} {xs : List α} (h : Own E t w B S v xs) (hb : Below w.heap.size w w') : Own E t w' B S v xs := by
  obtain ⟨vs, h, hf⟩ := h
  exact ⟨vs, own_below h hb, ER.flat_keep hb hf⟩
theorem Own.slS {t : TypeId} {B c n : Nat} {A : Option Addr} {xs : List α} (h : Own E t w B S (.slice A n c) xs) (hn : n = xs.length) (hl : xs.length * E.bytes ≤ 140737488351232) (h1 : ∀ b, S b → S' b) (h2 : ∀ b, B ≤ b → S' b) : SlS E w S' A xs := by
  subst hn
  obtain ⟨vs, h, hf⟩ := h
  refine ⟨hl, vs, Reads.of_own h, fun ad e hn => ?_, ER.flat_mono (fun b _ hb => h1 b hb.1) hf⟩
  obtain ⟨g, cap, e', h3, _⟩ := h.form hn
  injection e' with e1
  rw [e] at e1
  rw [Option.some.inj e1]
  exact h2 g h3
theorem Own.lt {t : TypeId} {B : Nat} {v : Value} {xs : List α} (h : Own E t w B S v xs) : ∀ g, v.ownBlock = some g → B ≤ g ∧ g < w.heap.size := by
  obtain ⟨vs, h, _⟩ := h
  exact fun g hg => h.lt g hg
/-- another row has grown, in whose block nothing of this one lies -/
theorem Own.grown {t : TypeId} {B : Nat} {v : Value} {xs : List α} {row : Option Nat} (h : Own E t w B S v xs) (hg : w.grownBy w' row) (hr : ∀ b, row = some b → v.ownBlock ≠ some b ∧ ¬ S b) : Own E t w' B S v xs := by
  obtain ⟨vs, h, hf⟩ := h
  refine ⟨vs, h.kept hg ?_, ER.flat_same (.of_grown hg fun b hb e => (hr b e).2 hb.1) hf⟩
  cases hv : v.ownBlock with
  | none => exact .inl rfl
  | some g => exact .inr fun e => (hr g e.symm).1 hv
/-- the step of an append of one element -/
theorem Own.step {t : TypeId} {B : Nat} {v v' : Value} {xs : List α} {vs us : List Value} {x : α} (hf : E.flat w (fun b => S b ∧ v.ownBlock ≠ some b) vs xs) (hx : E.rep w (fun b => S b ∧ v.ownBlock ≠ some b) us x)
    (hown : w'.ownsRow B t E.size v' (xs.length + 1) (vs ++ us)) (hg : w.grownBy w' v.ownBlock) (hat : v'.ownBlock = v.ownBlock ∨ v'.ownBlock = some w.heap.size) : Own E t w' B S v' (xs ++ [x]) := by
  refine ⟨vs ++ us, by simpa using hown, ?_⟩
  have h1 := ER.flat_mono (S' := fun b => (S b ∧ v.ownBlock ≠ some b) ∧ b < w.heap.size) (fun b hl hb => ⟨hb, hl⟩) (ER.flat_snoc hf hx)
  have h2 := ER.flat_same (.of_grown hg fun b hb => hb.1.2) h1
  refine ER.flat_mono (fun b _ hb => ⟨hb.1.1, ?_⟩) h2
  rcases hat with e | e <;> rw [e]
  · exact hb.1.2
  · intro e; have := Option.some.inj e; omega

theorem own_at {base t size n c : Nat} {A : Option Addr} {vs : List Value} (h : w.ownsRow base t size (.slice A n c) n vs) : At (fun b => base ≤ b ∧ b < w.heap.size) A n := fun ad e hn => by
  obtain ⟨g, cap, e', h1, h2⟩ := h.form hn
  injection e' with e1
  rw [e] at e1
  rw [Option.some.inj e1]
  exact ⟨h1, h2⟩
theorem own_caps {base t size n c : Nat} {A : Option Addr} {vs : List Value} (h : w.ownsRow base t size (.slice A n c) n vs) : n ≤ c ∧ c ≤ 9223372036854775807 := by
  rcases h.2 with ⟨e, h0⟩ | ⟨g, cap, cur, e, _, _, hnc, hcm, _⟩
  · injection e with e1 e2 e3; subst e3; exact ⟨by omega, by omega⟩
  · injection e with e1 e2 e3; subst e3; exact ⟨hnc, by unfold maxLen at hcm; omega⟩
theorem Own.caps {t : TypeId} {B c : Nat} {A : Option Addr} {xs : List α} (h : Own E t w B S (.slice A xs.length c) xs) : xs.length ≤ c ∧ c ≤ 9223372036854775807 := by
  obtain ⟨vs, h, _⟩ := h
  exact own_caps h
theorem Own.mono {t : TypeId} {B : Nat} {v : Value} {xs : List α} (h : Own E t w B S v xs) (hs : ∀ b, b < w.heap.size → v.ownBlock ≠ some b → S b → S' b) : Own E t w B S' v xs := by
  obtain ⟨vs, h, hf⟩ := h
  exact ⟨vs, h, ER.flat_mono (fun b hl hb => ⟨hs b hl hb.2 hb.1, hb.2⟩) hf⟩
theorem Own.base {t : TypeId} {B B' : Nat} {v : Value} {xs : List α} (h : Own E t w B S v xs) (hb : B' ≤ B) : Own E t w B' S v xs := by
  obtain ⟨vs, h, hf⟩ := h
  exact ⟨vs, own_mono h hb, hf⟩
/-- the elements' data stay where S's blocks stay, and the row's own -/
theorem Own.same {t : TypeId} {B : Nat} {v : Value} {xs : List α} {row : Option Nat} (h : Own E t w B S v xs) (hg : w.grownBy w' row) (hv : v.ownBlock = none ∨ v.ownBlock ≠ row) (hs : ∀ b, S b → row ≠ some b) : Own E t w' B S v xs := by
  obtain ⟨vs, h, hf⟩ := h
  exact ⟨vs, h.kept hg hv, ER.flat_same (.of_grown hg fun b hb => hs b hb.1) hf⟩
theorem Own.form {t : TypeId} {B c : Nat} {A : Option Addr} {xs : List α} (h : Own E t w B S (.slice A xs.length c) xs) (hn : 0 < xs.length) : ∃ g, A = some ⟨g, 0, none⟩ ∧ B ≤ g ∧ g < w.heap.size := by
  obtain ⟨vs, h, _⟩ := h
  obtain ⟨g, cap, e, h1, h2⟩ := h.form hn
  injection e with e1
  exact ⟨g, e1, h1, h2⟩
theorem Own.frozen {t : TypeId} {B c g : Nat} {xs : List α} (h : Own E t w B S (.slice (some ⟨g, 0, none⟩) xs.length c) xs) (j : Nat) : w.frozen? ⟨g, j, none⟩ = false := by
  obtain ⟨vs, h, _⟩ := h
  exact h.frozenAt j
theorem ER.flat_put {u : Value} {j : Nat} (hj : j < E.size) : ∀ {vs : List Value} {xs : List α} (k : Nat) (hk : k < xs.length), E.flat w S vs xs → (∀ v, E.rep w S v xs[k] → E.rep w S (v.set j u) xs[k]) → E.flat w S (vs.set (k * E.size + j) u) xs
  | vs, [], k, hk, _, _ => by cases hk
  | vs, x :: xs, 0, _, ⟨v, r, e, hv, hr⟩, h => by
    have := E.len hv
    refine ⟨v.set j u, r, ?_, h v hv, hr⟩
    rw [e, Nat.zero_mul, Nat.zero_add, List.set_append_left _ _ (by omega)]
  | vs, x :: xs, k + 1, hk, ⟨v, r, e, hv, hr⟩, h => by
    have := E.len hv
    refine ⟨v, r.set (k * E.size + j) u, ?_, hv, ER.flat_put hj k (by simpa using hk) hr (by simpa using h)⟩
    rw [e, List.set_append_right _ _ (by rw [Nat.succ_mul]; omega)]
    congr 2; rw [Nat.succ_mul]; omega
/-- a cell of element k is stored anew; the element reads the same -/
theorem Own.put {t : TypeId} {B c g k j : Nat} {u : Value} {xs : List α} (h : Own E t w B S (.slice (some ⟨g, 0, none⟩) xs.length c) xs) (hk : k < xs.length) (hj : j < E.size)
    (hr : ∀ v, E.rep (w.setCell ⟨g, k * E.size + j, none⟩ u) (fun b => S b ∧ (Value.slice (some ⟨g, 0, none⟩) xs.length c).ownBlock ≠ some b) v xs[k] → E.rep (w.setCell ⟨g, k * E.size + j, none⟩ u) (fun b => S b ∧ (Value.slice (some ⟨g, 0, none⟩) xs.length c).ownBlock ≠ some b) (v.set j u) xs[k]) :
    Own E t (w.setCell ⟨g, k * E.size + j, none⟩ u) B S (.slice (some ⟨g, 0, none⟩) xs.length c) xs := by
  obtain ⟨vs, h, hf⟩ := h
  obtain ⟨h1, h2⟩ := h.stored (k * E.size + j) u
  refine ⟨_, h1, ER.flat_put hj k hk (ER.flat_same (.of_grown h2 fun b hb e => ?_) hf) hr⟩
  exact hb.2 e
/-- element k is another one: one cell of it is stored anew -/
theorem ER.flat_turn {u : Value} {j : Nat} {y : α} (hj : j < E.size) : ∀ {vs : List Value} {xs : List α} (k : Nat) (hk : k < xs.length), E.flat w S vs xs → (∀ v, E.rep w S v xs[k] → E.rep w S (v.set j u) y) → E.flat w S (vs.set (k * E.size + j) u) (xs.set k y)
  | vs, [], k, hk, _, _ => by cases hk
  | vs, x :: xs, 0, _, ⟨v, r, e, hv, hr⟩, h => by
    have := E.len hv
    refine ⟨v.set j u, r, ?_, h v hv, hr⟩
    rw [e, Nat.zero_mul, Nat.zero_add, List.set_append_left _ _ (by omega)]
  | vs, x :: xs, k + 1, hk, ⟨v, r, e, hv, hr⟩, h => by
    have := E.len hv
    refine ⟨v, r.set (k * E.size + j) u, ?_, hv, ER.flat_turn hj k (by simpa using hk) hr (by simpa using h)⟩
    rw [e, List.set_append_right _ _ (by rw [Nat.succ_mul]; omega)]
    congr 2; rw [Nat.succ_mul]; omega
theorem Own.turn {t : TypeId} {B c g k j : Nat} {u : Value} {y : α} {xs : List α} (h : Own E t w B S (.slice (some ⟨g, 0, none⟩) xs.length c) xs) (hk : k < xs.length) (hj : j < E.size)
    (hr : ∀ v, E.rep (w.setCell ⟨g, k * E.size + j, none⟩ u) (fun b => S b ∧ (Value.slice (some ⟨g, 0, none⟩) xs.length c).ownBlock ≠ some b) v xs[k] → E.rep (w.setCell ⟨g, k * E.size + j, none⟩ u) (fun b => S b ∧ (Value.slice (some ⟨g, 0, none⟩) xs.length c).ownBlock ≠ some b) (v.set j u) y) :
    Own E t (w.setCell ⟨g, k * E.size + j, none⟩ u) B S (.slice (some ⟨g, 0, none⟩) xs.length c) (xs.set k y) := by
  obtain ⟨vs, h, hf⟩ := h
  obtain ⟨h1, h2⟩ := h.stored (k * E.size + j) u
  refine ⟨vs.set (k * E.size + j) u, by rw [List.length_set]; exact h1, ER.flat_turn hj k hk (ER.flat_same (.of_grown h2 fun b hb e => ?_) hf) hr⟩
  exact hb.2 e

/-- The call answers a row of its own that reads as xs; what was there stays. -/
def RetSl (E : ER α) (t : TypeId) (xs : List α) (w : World) (e : Ending) (w' : World) : Prop :=
  ∃ A c, e = .returned (.slice A xs.length c) ∧ Own E t w' w.heap.size Any (.slice A xs.length c) xs ∧ Below w.heap.size w w'

/-- .. a copy of what was there: the elements' data stay where they were -/
def RetCl (E : ER α) (t : TypeId) (S : Nat → Prop) (xs : List α) (w : World) (e : Ending) (w' : World) : Prop :=
  ∃ A c, e = .returned (.slice A xs.length c) ∧ Own E t w' w.heap.size S (.slice A xs.length c) xs ∧ Below w.heap.size w w'
theorem SlS.old {A : Option Addr} {xs : List α} (h : SlS E w S A xs) : SlS E w (· < w.heap.size) A xs := h.mono fun _ h _ => h
theorem Own.setCell {t : TypeId} {B : Nat} {v : Value} {xs : List α} {p : Addr} (h : Own E t w B S v xs) (hv : v.ownBlock ≠ some p.block) (hs : ¬ S p.block) (u : Value) : Own E t (w.setCell p u) B S v xs :=
  h.same (row := some p.block) (only_setCell (World.grownBy.refl w _) (.inl rfl) u) (.inr hv) (fun b hb e => hs (by injection e with e; rw [e]; exact hb))
theorem Own.alloc {t : TypeId} {B : Nat} {v : Value} {xs : List α} (h : Own E t w B S v xs) (o : Obj) : Own E t (w.alloc o) B S v xs := h.below ((Below.refl _ _).alloc (Nat.le_refl _) _)
theorem SlS.setCell {A : Option Addr} {xs : List α} {p : Addr} (h : SlS E w S A xs) (hs : ¬ S p.block) (u : Value) : SlS E (w.setCell p u) S A xs :=
  h.same (.of_grown (row := some p.block) (only_setCell (World.grownBy.refl w _) (.inl rfl) u) (fun b hb e => hs (by injection e with e; rw [e]; exact hb)))

end

theorem add_row (g n : Nat) : (⟨g, 0, none⟩ : Addr).add n = ⟨g, n, none⟩ := by unfold Addr.add; split <;> simp_all

/-- an append of one element whose cells lie in a block of their own -/
theorem Reads.newN (w : World) (vs : List Value) (t : TypeId) : Reads (w.alloc (.cells vs.toArray t)) (w.heap.size + 1) vs.length (some ⟨w.heap.size, 0, none⟩) 1 vs :=
  ⟨by simp, fun _ => ⟨_, rfl, by simp, fun j u hu => by
    have hadd : (⟨w.heap.size, 0, none⟩ : Addr).add j = ⟨w.heap.size, j, none⟩ := by unfold Addr.add; split <;> simp_all
    rw [hadd, cell_of_row _ _ _ _ _ _ (heap_alloc_new w _)]
    simpa using hu⟩⟩

theorem bcell {W w1 : World} (hb : Below W.heap.size W w1) : (∀ b o, b < W.heap.size → w1.cell? ⟨b, o, none⟩ = W.cell? ⟨b, o, none⟩) ∧ (∀ b o, b < W.heap.size → w1.frozen? ⟨b, o, none⟩ = W.frozen? ⟨b, o, none⟩) :=
  ⟨fun b o h => hb.cell (p := ⟨b, o, none⟩) h, fun b o h => hb.frozen (p := ⟨b, o, none⟩) h⟩

end Go.Proofs.Ytbldfgpnghoigaa
