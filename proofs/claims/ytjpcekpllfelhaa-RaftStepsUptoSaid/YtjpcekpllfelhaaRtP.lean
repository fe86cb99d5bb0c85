/- A node of a group in plain words: what each call keeps. -/
import Derived.Test.YtjpcekpllfelhaaRsW
namespace Go.Proofs.Ytjpcekpllfelhaa
open Go.RowKit

/-! ## rising logs -/
def lowT : List LEnt → Nat → Nat
  | [], lo => lo
  | e :: r, _ => lowT r e.term
theorem rising_le : ∀ (l : List LEnt) (lo hi : Nat), risingP l lo hi = true → lo ≤ lowT l lo ∧ lowT l lo ≤ hi
  | [], lo, hi, h => ⟨Nat.le_refl _, of_decide_eq_true h⟩
  | e :: r, lo, hi, h => by
    simp only [risingP] at h
    split at h
    · cases h
    · have := rising_le r e.term hi h
      simp only [lowT]
      omega
theorem rising_up : ∀ (l : List LEnt) (lo hi hi' : Nat), risingP l lo hi = true → hi ≤ hi' → risingP l lo hi' = true
  | [], lo, hi, hi', h, h2 => decide_eq_true (Nat.le_trans (of_decide_eq_true h) h2)
  | e :: r, lo, hi, hi', h, h2 => by
    simp only [risingP] at h ⊢
    split at h
    · cases h
    · rename_i h3
      rw [if_neg h3]
      exact rising_up r e.term hi hi' h h2
theorem rising_app : ∀ (l r : List LEnt) (lo hi hi' : Nat), risingP l lo hi = true → risingP r (lowT l lo) hi' = true → risingP (l ++ r) lo hi' = true
  | [], r, lo, hi, hi', _, h2 => h2
  | e :: l, r, lo, hi, hi', h, h2 => by
    simp only [risingP, List.cons_append] at h ⊢
    split at h
    · cases h
    · rename_i h3
      rw [if_neg h3]
      exact rising_app l r e.term hi hi' h h2
theorem rising_take : ∀ (l : List LEnt) (k lo hi : Nat), risingP l lo hi = true → risingP (l.take k) lo hi = true
  | l, 0, lo, hi, h => by
    have := rising_le l lo hi h
    rw [List.take_zero]
    exact decide_eq_true (by omega)
  | [], k + 1, lo, hi, h => h
  | e :: l, k + 1, lo, hi, h => by
    simp only [risingP, List.take_succ_cons] at h ⊢
    split at h
    · cases h
    · rename_i h3
      rw [if_neg h3]
      exact rising_take l k e.term hi h
theorem lowT_take : ∀ (l : List LEnt) (k lo : Nat), k < l.length → lowT (l.take (k + 1)) lo = (l.getD k default).term
  | [], k, lo, h => by cases h
  | e :: l, 0, lo, h => by simp [lowT]
  | e :: l, k + 1, lo, h => by
    rw [List.take_succ_cons]
    show lowT (l.take (k + 1)) e.term = _
    rw [lowT_take l k e.term (by simpa using h)]
    simp
theorem termAt_low {d : LNode} {i : Nat} (h1 : d.base ≤ i) (h2 : i ≤ lastN d) : (termAt d i).1 = lowT (d.log.take (i - d.base)) d.baseTerm ∧ (termAt d i).2 = true := by
  unfold termAt
  rw [if_neg (by omega)]
  by_cases h3 : i = d.base
  · rw [if_pos h3, h3, Nat.sub_self, List.take_zero]
    exact ⟨rfl, rfl⟩
  · rw [if_neg h3]
    refine ⟨?_, rfl⟩
    obtain ⟨k, hk⟩ : ∃ k, i - d.base = k + 1 := ⟨i - d.base - 1, by omega⟩
    rw [hk, lowT_take _ _ _ (by unfold lastN at h2; omega)]
    rfl
theorem termAt_in {d : LNode} {i : Nat} (h : (termAt d i).2 = true) : d.base ≤ i ∧ i ≤ lastN d := by
  unfold termAt at h
  split at h
  · cases h
  · omega
theorem lastT_low (d : LNode) : lastT d = lowT d.log d.baseTerm := by
  unfold lastT
  rw [(termAt_low (d := d) (i := lastN d) (by unfold lastN; omega) (Nat.le_refl _)).1]
  rw [show lastN d - d.base = d.log.length by unfold lastN; omega, List.take_length]
/-! ## the node's facts -/
structure NI (n K : Nat) (d : LNode) : Prop where
  hn : d.n = n
  id0 : d.id = 0
  lim : d.limit = 3
  n1 : 1 ≤ n
  n5 : n ≤ 5
  ter : d.term ≤ 4611686018427387904
  v1 : -1 ≤ d.vote
  v2 : d.vote < (n : Int)
  bas : d.base ≤ 4611686018427387904
  ris : risingP d.log d.baseTerm d.term = true
  c1 : d.base ≤ d.commit
  c2 : d.commit ≤ lastN d
  len : d.log.length ≤ K
  ck : 0 ≤ d.clock ∧ d.clock ≤ 2
  r1 : d.role = 1 → d.votes.length = n
  r2 : d.role = 2 → d.votes.length = n
  r3 : d.role = 3 → d.mat.length = n ∧ d.next.length = n
  mx : ∀ i, d.mat.getD i 0 ≤ 4611686018427389904
/-- nothing falls, and it votes once -/
def After (d d' : LNode) : Prop := d.term ≤ d'.term ∧ d.commit ≤ d'.commit ∧ (d'.term = d.term → d.vote ≠ -1 → d'.vote = d.vote)
/-- messages as they must be -/
def Outs (n : Nat) (d' : LNode) (ms : List LMsg) : Prop := ∀ o ∈ ms, o.frm = 0 ∧ 1 ≤ o.dst ∧ o.dst < (n : Int) ∧ 1 ≤ o.kind ∧ o.kind ≤ 7 ∧ (o.kind ≠ 2 → o.term ≤ d'.term + 1)
theorem After.refl (d : LNode) : After d d := ⟨Nat.le_refl _, Nat.le_refl _, fun _ _ => rfl⟩
theorem After.trans {a b c : LNode} (h : After a b) (k : After b c) : After a c := by
  refine ⟨Nat.le_trans h.1 k.1, Nat.le_trans h.2.1 k.2.1, fun e hv => ?_⟩
  have e1 : b.term = a.term := Nat.le_antisymm (by rw [← e]; exact k.1) h.1
  have h1 := h.2.2 e1 hv
  rw [← h1]
  exact k.2.2 (by rw [e, e1]) (by rw [h1]; exact hv)
theorem Outs.nil_ (n : Nat) (d : LNode) : Outs n d [] := fun _ h => by cases h
theorem Outs.up {n : Nat} {d d' : LNode} {ms : List LMsg} (h : Outs n d ms) (k : d.term ≤ d'.term) : Outs n d' ms := fun o ho => by
  obtain ⟨h1, h2, h3, h4, h5, h6⟩ := h o ho
  exact ⟨h1, h2, h3, h4, h5, fun e => by have := h6 e; omega⟩
theorem Outs.app {n : Nat} {d : LNode} {a b : List LMsg} (h : Outs n d a) (k : Outs n d b) : Outs n d (a ++ b) := fun o ho => (List.mem_append.1 ho).elim (h o) (k o)
theorem NI.more {n K K' : Nat} {d : LNode} (h : NI n K d) (hk : K ≤ K') : NI n K' d := { h with len := Nat.le_trans h.len hk }
/-- from others to others -/
theorem Outs.others {n K : Nat} {d : LNode} (h : NI n K d) {mk : Nat → LMsg} (hk : ∀ i, 1 ≤ (mk i).kind ∧ (mk i).kind ≤ 7 ∧ ((mk i).kind ≠ 2 → (mk i).term ≤ d.term + 1)) {d0 : LNode} (e0 : d0.id = d.id ∧ d0.n = d.n) : Outs n d (othersP d0 mk d0.n) := by
  intro o ho
  unfold othersP at ho
  obtain ⟨i, hi, rfl⟩ := List.mem_map.1 ho
  obtain ⟨h1, h2⟩ := List.mem_filter.1 hi
  have h1 := List.mem_range.1 h1
  have h2 : i ≠ d0.id := by simpa using h2
  rw [e0.2, h.hn] at h1
  rw [e0.1, h.id0] at h2
  refine ⟨?_, ?_, ?_, hk i⟩
  · show (d0.id : Int) = 0
    rw [e0.1, h.id0]; rfl
  · show 1 ≤ (i : Int)
    omega
  · show (i : Int) < (n : Int)
    omega
theorem Outs.answer {n K : Nat} {d : LNode} (h : NI n K d) {m a : LMsg} (hf1 : 0 ≤ m.frm) (hf2 : m.frm < (n : Int)) (hf3 : m.frm ≠ 0) (hk : 1 ≤ a.kind ∧ a.kind ≤ 7 ∧ (a.kind ≠ 2 → a.term ≤ d.term + 1)) {d0 : LNode} (e0 : d0.id = d.id) : Outs n d (answerP d0 m a) := by
  intro o ho
  unfold answerP at ho
  rw [List.mem_singleton] at ho
  subst ho
  refine ⟨?_, ?_, hf2, hk⟩
  · show (d0.id : Int) = 0
    rw [e0, h.id0]; rfl
  · show 1 ≤ m.frm
    omega
theorem sendP_ok (d : LNode) (i : Nat) : 1 ≤ (sendP d i).kind ∧ (sendP d i).kind ≤ 7 ∧ ((sendP d i).kind ≠ 2 → (sendP d i).term ≤ d.term + 1) := by
  unfold sendP
  split
  · exact ⟨(by decide : (1 : Int) ≤ 7), (by decide : (7 : Int) ≤ 7), fun _ => Nat.le_succ _⟩
  · exact ⟨(by decide : (1 : Int) ≤ 5), (by decide : (5 : Int) ≤ 7), fun _ => Nat.le_succ _⟩
/-! ## what each call keeps -/
theorem getD_set_le {l : List Nat} {k v B : Nat} (h : ∀ i, l.getD i 0 ≤ B) (hv : v ≤ B) (i : Nat) : (l.set k v).getD i 0 ≤ B := by
  rw [List.getD_eq_getElem?_getD]
  by_cases h1 : k = i
  · subst h1
    by_cases h2 : k < l.length
    · rw [List.getElem?_set_self h2]; exact hv
    · rw [List.getElem?_eq_none (by rw [List.length_set]; omega)]; exact Nat.zero_le _
  · rw [List.getElem?_set_ne h1, ← List.getD_eq_getElem?_getD]
    exact h i
theorem getD_rep_le (n B i : Nat) : (List.replicate n 0).getD i 0 ≤ B := by
  rw [List.getD_eq_getElem?_getD, List.getElem?_replicate]
  split <;> exact Nat.zero_le _
theorem agree_is (d : LNode) (h : d.commit ≤ lastN d) : ∃ c, agreeP d = { d with commit := c } ∧ d.commit ≤ c ∧ c ≤ lastN d := by
  unfold agreeP
  simp only []
  split
  · rename_i h1
    exact ⟨_, rfl, Nat.le_of_lt h1.2.2, (termAt_in h1.1).2⟩
  · exact ⟨d.commit, rfl, Nat.le_refl _, h⟩
theorem add_ok {n K : Nat} {d : LNode} (h : NI n K d) (hr : d.role = 3) (hK : K + 1 ≤ 2000) : NI n (K + 1) (addM d []).1 ∧ After d (addM d []).1 ∧ (addM d []).1.term = d.term ∧ Outs n (addM d []).1 (addM d []).2 := by
  have hl := h.len
  have hl2 : lastN d = d.base + d.log.length := rfl
  have hb := h.bas
  have h1 : NI n (K + 1) { d with log := d.log ++ [⟨d.term, []⟩], mat := d.mat.set d.id (lastN d + 1) } := by
    have hle := rising_le _ _ _ h.ris
    refine { h with ris := ?_, c2 := ?_, len := ?_, r3 := ?_, mx := ?_ }
    · exact rising_app _ _ _ _ _ h.ris (by simp only [risingP]; rw [if_neg (by omega)]; exact decide_eq_true (Nat.le_refl _))
    · have := h.c2
      show d.commit ≤ d.base + (d.log ++ [_]).length
      rw [List.length_append]
      omega
    · show (d.log ++ [_]).length ≤ K + 1
      rw [List.length_append]
      exact Nat.succ_le_succ hl
    · intro _
      show (d.mat.set _ _).length = n ∧ _
      rw [List.length_set]
      exact h.r3 hr
    · exact getD_set_le h.mx (by omega)
  obtain ⟨c, e, hc1, hc2⟩ := agree_is _ h1.c2
  have h2 : NI n (K + 1) (addG d []) := by
    unfold addG
    rw [e]
    exact { h1 with c1 := Nat.le_trans h1.c1 hc1, c2 := hc2 }
  have e2 : (addG d []).term = d.term := by unfold addG; rw [e]
  refine ⟨h2, ⟨Nat.le_of_eq e2.symm, ?_, fun _ _ => ?_⟩, e2, ?_⟩
  · show d.commit ≤ (addG d []).commit
    unfold addG
    rw [e]
    exact hc1
  · show (addG d []).vote = d.vote
    unfold addG
    rw [e]
  · show Outs n (addG d []) (othersP (addG d []) (sendP (addG d [])) d.n)
    rw [show d.n = (addG d []).n by rw [h2.hn, h.hn]]
    exact Outs.others h2 (fun i => sendP_ok _ _) ⟨rfl, rfl⟩
theorem begin_ok {n K : Nat} {d : LNode} (h : NI n K d) (hK : K + 1 ≤ 2000) : NI n (K + 1) (begG d).1 ∧ After d (begG d).1 ∧ (begG d).1.term = d.term ∧ Outs n (begG d).1 (begG d).2 := by
  have h1 : NI n K { d with role := 3, lead := d.id, mat := List.replicate d.n 0, next := List.replicate d.n (lastN d + 1) } := by
    refine { h with r1 := fun e => ?_, r2 := fun e => ?_, r3 := fun _ => ⟨?_, ?_⟩, mx := ?_ }
    · exact absurd e (by decide : ¬ (3 : Int) = 1)
    · exact absurd e (by decide : ¬ (3 : Int) = 2)
    · show (List.replicate d.n 0).length = n
      rw [List.length_replicate, h.hn]
    · show (List.replicate d.n _).length = n
      rw [List.length_replicate, h.hn]
    · exact getD_rep_le _ _
  exact add_ok h1 rfl hK
theorem call_ok {n K : Nat} {d : LNode} (h : NI n K d) (kd : Int) (tm : Nat) (hk : 1 ≤ kd ∧ kd ≤ 7 ∧ (kd ≠ 2 → tm ≤ d.term + 1)) : NI n K (callP d kd tm).1 ∧ After d (callP d kd tm).1 ∧ (callP d kd tm).1.term = d.term ∧ Outs n (callP d kd tm).1 (callP d kd tm).2 := by
  have hv : ((List.replicate d.n false).set d.id true).length = n := by rw [List.length_set, List.length_replicate, h.hn]
  have h1 : NI n K (callP d kd tm).1 := { h with r1 := fun _ => hv, r2 := fun _ => hv }
  exact ⟨h1, ⟨Nat.le_refl _, Nat.le_refl _, fun _ _ => rfl⟩, rfl, Outs.others h1 (fun i => hk) ⟨rfl, rfl⟩⟩
theorem stand_ok {n K : Nat} {d : LNode} (h : NI n K d) (ht : d.term + 1 ≤ 4611686018427387904) (hK : K + 1 ≤ 2000) : NI n (K + 1) (stG d).1 ∧ After d (stG d).1 ∧ (stG d).1.term = d.term + 1 ∧ Outs n (stG d).1 (stG d).2 := by
  obtain ⟨d1, e1⟩ : ∃ d1 : LNode, d1 = { d with term := d.term + 1, vote := d.id, role := 2, lead := -1, clock := 0 } := ⟨_, rfl⟩
  have hv : ((List.replicate d.n false).set d.id true).length = n := by rw [List.length_set, List.length_replicate, h.hn]
  have hi := h.id0
  have hn1 := h.n1
  have h1 : NI n K (callP d1 3 d1.term).1 := by
    subst e1
    refine { h with ter := ht, v1 := ?_, v2 := ?_, ris := rising_up _ _ _ _ h.ris (Nat.le_succ _), ck := ⟨Int.le_refl _, (by decide : (0 : Int) ≤ 2)⟩, r1 := fun _ => hv, r2 := fun _ => hv, r3 := fun e => absurd e (by decide : ¬ (2 : Int) = 3) }
    · show (-1 : Int) ≤ (d.id : Int)
      omega
    · show (d.id : Int) < (n : Int)
      omega
  have a1 : After d (callP d1 3 d1.term).1 := by
    subst e1
    exact ⟨Nat.le_succ _, Nat.le_refl _, fun e => absurd e (by show ¬ d.term + 1 = d.term; omega)⟩
  have t1 : (callP d1 3 d1.term).1.term = d.term + 1 := by subst e1; rfl
  have hst : stG d = if mostP (callP d1 3 d1.term).1 (callP d1 3 d1.term).1.votes then begG (callP d1 3 d1.term).1 else callP d1 3 d1.term := by rw [e1]; rfl
  rw [hst]
  split
  · obtain ⟨b1, b2, b3, b4⟩ := begin_ok h1 hK
    exact ⟨b1, a1.trans b2, by rw [b3, t1], b4⟩
  · refine ⟨h1.more (Nat.le_succ _), a1, t1, Outs.others h1 (fun i => ⟨(by decide : (1 : Int) ≤ 3), (by decide : (3 : Int) ≤ 7), fun _ => Nat.le_succ _⟩) ⟨rfl, rfl⟩⟩
theorem tick_ok {n K : Nat} {d : LNode} (h : NI n K d) (hK : K + 1 ≤ 2000) : NI n (K + 1) (tickG d).1 ∧ After d (tickG d).1 ∧ Outs n (tickG d).1 (tickG d).2 ∧ (d.role ≠ 3 → d.clock = 0 → (tickG d).1.log = d.log ∧ (tickG d).1.base = d.base ∧ (tickG d).1.baseTerm = d.baseTerm ∧ (tickG d).1.commit = d.commit) := by
  have hlim := h.lim
  have hi := h.id0
  have hck := h.ck
  unfold tickG
  split
  · rename_i h3
    exact ⟨h.more (Nat.le_succ _), After.refl d, Outs.others h (fun i => sendP_ok _ _) ⟨rfl, rfl⟩, fun e => absurd h3 e⟩
  · rename_i h3
    split
    · rename_i h4
      refine ⟨{ h with len := Nat.le_succ_of_le h.len, ck := ⟨?_, ?_⟩ }, ⟨Nat.le_refl _, Nat.le_refl _, fun _ _ => rfl⟩, Outs.nil_ _ _, fun _ _ => ⟨rfl, rfl, rfl, rfl⟩⟩
      · show 0 ≤ d.clock + 1
        omega
      · show d.clock + 1 ≤ 2
        omega
    · rename_i h4
      have hne : ¬ d.clock = 0 := by omega
      have h0 : NI n K { d with clock := 0 } := { h with ck := ⟨Int.le_refl _, (by decide : (0 : Int) ≤ 2)⟩ }
      split
      · exact ⟨h0.more (Nat.le_succ _), ⟨Nat.le_refl _, Nat.le_refl _, fun _ _ => rfl⟩, Outs.nil_ _ _, fun _ e => absurd e hne⟩
      · rename_i h5
        have ht := h.ter
        split
        · obtain ⟨b1, b2, _, b4⟩ := stand_ok h0 (by show d.term + 1 ≤ _; omega) hK
          exact ⟨b1, After.trans (b := { d with clock := 0 }) ⟨Nat.le_refl _, Nat.le_refl _, fun _ _ => rfl⟩ b2, b4, fun _ e => absurd e hne⟩
        · have hv : ((List.replicate d.n false).set d.id true).length = n := by rw [List.length_set, List.length_replicate, h.hn]
          have h1 : NI n K (callP { d with clock := 0, role := 1, lead := -1 } 1 (d.term + 1)).1 := { h0 with r1 := fun _ => hv, r2 := fun _ => hv, r3 := fun e => absurd e (by decide : ¬ (1 : Int) = 3) }
          exact ⟨h1.more (Nat.le_succ _), ⟨Nat.le_refl _, Nat.le_refl _, fun _ _ => rfl⟩, Outs.others h1 (fun i => ⟨(by decide : (1 : Int) ≤ 1), (by decide : (1 : Int) ≤ 7), fun _ => Nat.le_refl _⟩) ⟨rfl, rfl⟩, fun _ e => absurd e hne⟩
theorem follow_is (d : LNode) (t : Nat) (l : Int) : ∃ v, followP d t l = { d with term := max d.term t, vote := v, role := 0, lead := l } ∧ ((v = d.vote ∧ t ≤ d.term) ∨ (v = -1 ∧ d.term < t)) := by
  unfold followP
  split
  · rename_i h1
    exact ⟨-1, by rw [Nat.max_eq_right (Nat.le_of_lt h1)], .inr ⟨rfl, h1⟩⟩
  · rename_i h1
    exact ⟨d.vote, by rw [Nat.max_eq_left (by omega)], .inl ⟨rfl, by omega⟩⟩
theorem follow_ok {n K : Nat} {d : LNode} (h : NI n K d) (t : Nat) (l : Int) (ht : t ≤ 4611686018427387904) : NI n K (followP d t l) ∧ After d (followP d t l) := by
  obtain ⟨v, e, hv⟩ := follow_is d t l
  rw [e]
  have h1 := h.ter
  have h2 := h.v1
  have h3 := h.v2
  refine ⟨{ h with ter := ?_, v1 := ?_, v2 := ?_, ris := rising_up _ _ _ _ h.ris (Nat.le_max_left _ _), r1 := fun e => absurd e (by decide : ¬ (0 : Int) = 1), r2 := fun e => absurd e (by decide : ¬ (0 : Int) = 2), r3 := fun e => absurd e (by decide : ¬ (0 : Int) = 3) }, ⟨Nat.le_max_left _ _, Nat.le_refl _, fun e2 _ => ?_⟩⟩
  · show max d.term t ≤ _
    omega
  · show -1 ≤ v
    omega
  · show v < (n : Int)
    omega
  · show v = d.vote
    have e2 : max d.term t = d.term := e2
    omega
theorem put_is {n K : Nat} {d : LNode} (h : NI n K d) {d1 : LNode} : ∀ (l : List LEnt) (i : Nat), d.base + 1 ≤ i → i ≤ lastN d + 1 → putP d i l = some d1 →
    ∃ L, d1 = { d with log := L } ∧ risingP L d.baseTerm d.term = true ∧ d.commit ≤ d.base + L.length ∧ i - 1 + l.length ≤ d.base + L.length ∧ L.length ≤ d.log.length + l.length
  | [], i, h1, h2, hp => by
    simp only [putP, Option.some.injEq] at hp
    subst hp
    have hc := h.c2
    unfold lastN at h2 hc
    exact ⟨d.log, rfl, h.ris, hc, by simp only [List.length_nil]; omega, Nat.le_add_right _ _⟩
  | e :: r, i, h1, h2, hp => by
    simp only [putP] at hp
    split at hp
    · rename_i h3
      have h4 := (termAt_in h3.1).2
      obtain ⟨L, e1, e2, e3, e4, e5⟩ := put_is h r (i + 1) (by omega) (by omega) hp
      refine ⟨L, e1, e2, e3, ?_, ?_⟩
      · rw [List.length_cons]; omega
      · rw [List.length_cons]; omega
    · split at hp
      · cases hp
      · rename_i h3
        split at hp
        · cases hp
        · rename_i h4
          simp only [Option.some.injEq] at hp
          subst hp
          have h4 : risingP (e :: r) (termAt d (i - 1)).1 d.term = true := by
            cases h5 : risingP (e :: r) (termAt d (i - 1)).1 d.term with
            | true => rfl
            | false => exact absurd h5 h4
          have h6 := (termAt_low (d := d) (i := i - 1) (by omega) (by omega)).1
          rw [h6, show i - 1 - d.base = i - d.base - 1 by omega] at h4
          have hlen : (d.log.take (i - d.base - 1)).length = i - d.base - 1 := by
            rw [List.length_take]
            unfold lastN at h2
            omega
          refine ⟨_, rfl, rising_app _ _ _ _ _ (rising_take _ _ _ _ h.ris) h4, ?_, ?_, ?_⟩
          · rw [List.length_append, hlen, List.length_cons]; omega
          · rw [List.length_append, hlen, List.length_cons]; omega
          · rw [List.length_append, List.length_take]
            omega
/-- what Step keeps -/
def Kept (n K : Nat) (d : LNode) (r : LNode × List LMsg) : Prop := NI n K r.1 ∧ After d r.1 ∧ Outs n r.1 r.2
theorem Kept.same {n K : Nat} {d : LNode} (h : NI n K d) : Kept n K d (d, []) := ⟨h, After.refl _, Outs.nil_ _ _⟩
theorem Kept.ans {n K : Nat} {d : LNode} (h : NI n K d) {m a : LMsg} (hf1 : 0 ≤ m.frm) (hf2 : m.frm < (n : Int)) (hf3 : m.frm ≠ 0) (hk : 1 ≤ a.kind ∧ a.kind ≤ 7 ∧ (a.kind ≠ 2 → a.term ≤ d.term + 1)) : Kept n K d (d, answerP d m a) :=
  ⟨h, After.refl _, Outs.answer h hf1 hf2 hf3 hk rfl⟩
theorem Kept.behind {n K : Nat} {d d1 : LNode} {r : LNode × List LMsg} (a : After d d1) (k : Kept n K d1 r) : Kept n K d r := ⟨k.1, a.trans k.2.1, k.2.2⟩
theorem Kept.more {n K K' : Nat} {d : LNode} {r : LNode × List LMsg} (k : Kept n K d r) (h : K ≤ K') : Kept n K' d r := ⟨k.1.more h, k.2⟩
theorem k6 (t i c : Nat) (ok : Bool) (d : LNode) (h : t ≤ d.term + 1) : 1 ≤ ({ kind := 6, term := t, index := i, commit := c, ok := ok } : LMsg).kind ∧ ({ kind := 6, term := t, index := i, commit := c, ok := ok } : LMsg).kind ≤ 7 ∧ (({ kind := 6, term := t, index := i, commit := c, ok := ok } : LMsg).kind ≠ 2 → ({ kind := 6, term := t, index := i, commit := c, ok := ok } : LMsg).term ≤ d.term + 1) := ⟨(by decide : (1 : Int) ≤ 6), (by decide : (6 : Int) ≤ 7), fun _ => h⟩
theorem append_ok {n K : Nat} {d : LNode} (h : NI n K d) {m : LMsg} (hf1 : 0 ≤ m.frm) (hf2 : m.frm < (n : Int)) (hf3 : m.frm ≠ 0) (hm : m.ents.length ≤ 30) : Kept n (K + 30) d (appendP d m) := by
  have h0 := h.more (Nat.le_add_right K 30)
  unfold appendP
  simp only []
  split
  · exact Kept.ans h0 hf1 hf2 hf3 (k6 _ _ _ _ _ (Nat.le_succ _))
  · rename_i h1
    have hl : ∀ list at_, at_ = (if m.index < d.base then d.base else m.index) → list = (if m.index < d.base then m.ents.drop (min m.ents.length (d.base - m.index)) else m.ents) → d.base ≤ at_ ∧ at_ ≤ lastN d ∧ list.length ≤ 30 ∧ m.index + m.ents.length ≤ at_ + list.length := by
      rintro list at_ rfl rfl
      have hbl : d.base ≤ lastN d := by unfold lastN; omega
      by_cases h2 : m.index < d.base
      · rw [if_pos h2, if_pos h2]
        rw [List.length_drop]
        omega
      · rw [if_neg h2, if_neg h2]
        have h3 : (termAt d m.index).2 = true := by
          cases h4 : (termAt d m.index).2 with
          | true => rfl
          | false => exact absurd ⟨by omega, .inl h4⟩ h1
        have := termAt_in h3
        omega
    obtain ⟨q1, q2, q3, q4⟩ := hl _ _ rfl rfl
    generalize (if m.index < d.base then m.ents.drop (min m.ents.length (d.base - m.index)) else m.ents) = list at *
    generalize (if m.index < d.base then d.base else m.index) = at_ at *
    cases hp : putP d (at_ + 1) list with
    | none => exact Kept.same h0
    | some d1 =>
      obtain ⟨L, e1, e2, e3, e4, e5⟩ := put_is h list (at_ + 1) (by omega) (by omega) hp
      subst e1
      have hlen := h.len
      have hn : NI n (K + 30) { d with log := L, commit := max d.commit (min m.commit (m.index + m.ents.length)) } := by
        refine { h with ris := e2, c1 := ?_, c2 := ?_, len := ?_ }
        · have := h.c1
          show d.base ≤ max _ _
          omega
        · show max d.commit (min m.commit (m.index + m.ents.length)) ≤ d.base + L.length
          omega
        · show L.length ≤ K + 30
          omega
      exact ⟨hn, ⟨Nat.le_refl _, Nat.le_max_left _ _, fun _ _ => rfl⟩, Outs.answer hn hf1 hf2 hf3 (k6 _ _ _ _ _ (Nat.le_succ _)) rfl⟩
theorem snap_ok {n K : Nat} {d : LNode} (h : NI n K d) {m : LMsg} (hf1 : 0 ≤ m.frm) (hf2 : m.frm < (n : Int)) (hf3 : m.frm ≠ 0) (hi : m.index ≤ 4611686018427387904) (ht : m.term ≤ d.term) : Kept n K d (snapP d m) := by
  unfold snapP
  split
  · exact Kept.ans h hf1 hf2 hf3 (k6 _ _ _ _ _ (Nat.le_succ _))
  · rename_i h1
    split
    · exact Kept.same h
    · rename_i h2
      simp only []
      split
      · have hn : NI n K { d with base := m.index, baseTerm := m.logTerm, log := [], commit := m.index } := by
          refine { h with bas := hi, ris := ?_, c1 := Nat.le_refl _, c2 := Nat.le_refl _, len := Nat.zero_le _ }
          show decide (m.logTerm ≤ d.term) = true
          exact decide_eq_true (by omega)
        exact ⟨hn, ⟨Nat.le_refl _, by show d.commit ≤ m.index; omega, fun _ _ => rfl⟩, Outs.answer hn hf1 hf2 hf3 (k6 _ _ _ _ _ (Nat.le_succ _)) rfl⟩
      · rename_i h3
        have h4 : (termAt d m.index).2 = true := by
          cases h5 : (termAt d m.index).2 with
          | true => rfl
          | false => exact absurd (.inl h5) h3
        have h5 := termAt_in h4
        have hn : NI n K { d with commit := m.index } := { h with c1 := h5.1, c2 := h5.2 }
        exact ⟨hn, ⟨Nat.le_refl _, by show d.commit ≤ m.index; omega, fun _ _ => rfl⟩, Outs.answer hn hf1 hf2 hf3 (k6 _ _ _ _ _ (Nat.le_succ _)) rfl⟩
theorem led_ok {n K : Nat} {d : LNode} (h : NI n K d) {m : LMsg} (hf1 : 0 ≤ m.frm) (hf2 : m.frm < (n : Int)) (hf3 : m.frm ≠ 0) (hi : m.index ≤ 4611686018427387904) (ht : m.term ≤ 4611686018427387904) (hm : m.ents.length ≤ 30) : Kept n (K + 30) d (ledP d m) := by
  have h0 := h.more (Nat.le_add_right K 30)
  unfold ledP
  split
  · exact Kept.ans h0 hf1 hf2 hf3 (k6 _ _ _ _ _ (Nat.le_succ _))
  · rename_i h1
    split
    · exact Kept.same h0
    · obtain ⟨f1, f2⟩ := follow_ok h m.term m.frm ht
      have g1 : NI n K { followP d m.term m.frm with clock := 0 } := { f1 with ck := ⟨Int.le_refl _, (by decide : (0 : Int) ≤ 2)⟩ }
      have g2 : After d { followP d m.term m.frm with clock := 0 } := f2
      have g3 : m.term ≤ ({ followP d m.term m.frm with clock := 0 } : LNode).term := by
        obtain ⟨v, e, _⟩ := follow_is d m.term m.frm
        rw [e]
        exact Nat.le_max_right _ _
      generalize ({ followP d m.term m.frm with clock := 0 } : LNode) = d1 at *
      split
      · exact ((snap_ok g1 hf1 hf2 hf3 hi g3).more (Nat.le_add_right K 30)).behind g2
      · exact (append_ok g1 hf1 hf2 hf3 hm).behind g2
theorem preVoted_ok {n K : Nat} {d : LNode} (h : NI n K d) {m : LMsg} (ht : m.term ≤ 4611686018427387904) (hK : K + 1 ≤ 2000) : Kept n (K + 1) d (preVotedP d m) := by
  have h0 := h.more (Nat.le_succ K)
  unfold preVotedP
  split
  · split
    · obtain ⟨f1, f2⟩ := follow_ok h0 m.term (-1) ht
      exact ⟨f1, f2, Outs.nil_ _ _⟩
    · exact Kept.same h0
  · split
    · exact Kept.same h0
    · rename_i h1
      have h2 : d.role = 1 ∧ m.term = d.term + 1 := by
        constructor
        · exact Classical.byContradiction fun e => h1 (.inl e)
        · exact Classical.byContradiction fun e => h1 (.inr e)
      have hv : (d.votes.set m.frm.toNat true).length = n := by rw [List.length_set, h.r1 h2.1]
      have g1 : NI n K { d with votes := d.votes.set m.frm.toNat true } := { h with r1 := fun _ => hv, r2 := fun _ => hv }
      simp only []
      split
      · obtain ⟨b1, b2, _, b4⟩ := stand_ok g1 (by show d.term + 1 ≤ _; omega) hK
        exact ⟨b1, b2, b4⟩
      · exact ⟨g1.more (Nat.le_succ _), ⟨Nat.le_refl _, Nat.le_refl _, fun _ _ => rfl⟩, Outs.nil_ _ _⟩
theorem vote_ok {n K : Nat} {d : LNode} (h : NI n K d) {m : LMsg} (hf1 : 0 ≤ m.frm) (hf2 : m.frm < (n : Int)) (hf3 : m.frm ≠ 0) (ht : m.term ≤ 4611686018427387904) : Kept n K d (voteP d m) := by
  unfold voteP
  simp only []
  obtain ⟨f1, f2⟩ : NI n K (if d.term < m.term then followP d m.term (-1) else d) ∧ After d (if d.term < m.term then followP d m.term (-1) else d) := by
    split
    · exact follow_ok h m.term (-1) ht
    · exact ⟨h, After.refl _⟩
  generalize (if d.term < m.term then followP d m.term (-1) else d) = d1 at *
  refine Kept.behind f2 ?_
  generalize hok : (decide (m.term = d1.term) && (decide (d1.vote = -1) || decide (d1.vote = m.frm)) && upP d1 m) = ok
  have hk : ∀ (d2 : LNode), d2.term = d1.term → 1 ≤ ({ kind := 4, term := d2.term, ok := ok } : LMsg).kind ∧ ({ kind := 4, term := d2.term, ok := ok } : LMsg).kind ≤ 7 ∧ (({ kind := 4, term := d2.term, ok := ok } : LMsg).kind ≠ 2 → ({ kind := 4, term := d2.term, ok := ok } : LMsg).term ≤ d2.term + 1) := fun _ _ => ⟨(by decide : (1 : Int) ≤ 4), (by decide : (4 : Int) ≤ 7), fun _ => Nat.le_succ _⟩
  cases ok with
  | false => exact Kept.ans f1 hf1 hf2 hf3 (hk _ rfl)
  | true =>
    simp only [Bool.and_eq_true, Bool.or_eq_true, decide_eq_true_eq] at hok
    have g1 : NI n K { d1 with vote := m.frm, clock := 0 } := { f1 with v1 := by show -1 ≤ m.frm; omega, v2 := hf2, ck := ⟨Int.le_refl _, (by decide : (0 : Int) ≤ 2)⟩ }
    refine ⟨g1, ⟨Nat.le_refl _, Nat.le_refl _, fun _ hv => ?_⟩, Outs.answer g1 hf1 hf2 hf3 (hk _ rfl) rfl⟩
    show m.frm = d1.vote
    rcases hok.1.2 with e | e
    · exact absurd e hv
    · exact e.symm
theorem voted_ok {n K : Nat} {d : LNode} (h : NI n K d) {m : LMsg} (ht : m.term ≤ 4611686018427387904) (hK : K + 1 ≤ 2000) : Kept n (K + 1) d (votedP d m) := by
  have h0 := h.more (Nat.le_succ K)
  unfold votedP
  split
  · obtain ⟨f1, f2⟩ := follow_ok h0 m.term (-1) ht
    exact ⟨f1, f2, Outs.nil_ _ _⟩
  · split
    · exact Kept.same h0
    · rename_i h1
      have h2 : d.role = 2 := Classical.byContradiction fun e => h1 (.inr (.inl e))
      have hv : (d.votes.set m.frm.toNat true).length = n := by rw [List.length_set, h.r2 h2]
      have g1 : NI n K { d with votes := d.votes.set m.frm.toNat true } := { h with r1 := fun _ => hv, r2 := fun _ => hv }
      simp only []
      split
      · obtain ⟨b1, b2, _, b4⟩ := begin_ok g1 hK
        exact ⟨b1, b2, b4⟩
      · exact ⟨g1.more (Nat.le_succ _), ⟨Nat.le_refl _, Nat.le_refl _, fun _ _ => rfl⟩, Outs.nil_ _ _⟩
theorem appended_ok {n K : Nat} {d : LNode} (h : NI n K d) {m : LMsg} (hf1 : 0 ≤ m.frm) (hf2 : m.frm < (n : Int)) (hf3 : m.frm ≠ 0) (hi : m.index ≤ 4611686018427387904) (ht : m.term ≤ 4611686018427387904) : Kept n K d (appendedP d m) := by
  unfold appendedP
  split
  · obtain ⟨f1, f2⟩ := follow_ok h m.term (-1) ht
    exact ⟨f1, f2, Outs.nil_ _ _⟩
  · split
    · exact Kept.same h
    · rename_i h1
      have h2 : d.role = 3 := Classical.byContradiction fun e => h1 (.inl e)
      obtain ⟨r1, r2⟩ := h.r3 h2
      split
      · split
        · have g1 : NI n K { d with mat := d.mat.set m.frm.toNat m.index, next := d.next.set m.frm.toNat (m.index + 1) } := { h with r3 := fun _ => ⟨by show (d.mat.set _ _).length = n; rw [List.length_set, r1], by show (d.next.set _ _).length = n; rw [List.length_set, r2]⟩, mx := getD_set_le h.mx (by omega) }
          obtain ⟨c, e, hc1, hc2⟩ := agree_is _ g1.c2
          rw [e]
          exact ⟨{ g1 with c1 := Nat.le_trans g1.c1 hc1, c2 := hc2 }, ⟨Nat.le_refl _, hc1, fun _ _ => rfl⟩, Outs.nil_ _ _⟩
        · exact Kept.same h
      · have g1 : NI n K { d with next := d.next.set m.frm.toNat (max (d.mat.getD m.frm.toNat 0) (min m.index (lastN d)) + 1) } := { h with r3 := fun _ => ⟨r1, by show (d.next.set _ _).length = n; rw [List.length_set, r2]⟩ }
        exact ⟨g1, ⟨Nat.le_refl _, Nat.le_refl _, fun _ _ => rfl⟩, Outs.answer g1 hf1 hf2 hf3 (sendP_ok _ _) rfl⟩
theorem step_ok {n K : Nat} {d : LNode} (h : NI n K d) {m : LMsg} (hm : m.ents.length ≤ 30) (hK : K + 1 ≤ 2000) : Kept n (K + 30) d (stepP d m) := by
  unfold stepP
  have h0 := h.more (Nat.le_add_right K 30)
  split
  · exact Kept.same h0
  · rename_i hp
    have hp : properP d m = true := by
      cases e : properP d m with
      | true => rfl
      | false => exact absurd e hp
    obtain ⟨hf1, hf2, _, hf3, _, _, _, hi, ht⟩ := proper_facts hp
    rw [h.hn] at hf2
    have hf3 : m.frm ≠ 0 := by rw [h.id0] at hf3; exact hf3
    split
    · refine Kept.ans h0 hf1 hf2 hf3 ?_
      split
      · exact ⟨(by decide : (1 : Int) ≤ 2), (by decide : (2 : Int) ≤ 7), fun e => absurd rfl e⟩
      · exact ⟨(by decide : (1 : Int) ≤ 2), (by decide : (2 : Int) ≤ 7), fun e => absurd rfl e⟩
    · split
      · exact (preVoted_ok h ht hK).more (by omega)
      · split
        · exact (vote_ok h hf1 hf2 hf3 ht).more (by omega)
        · split
          · exact (voted_ok h ht hK).more (by omega)
          · split
            · exact led_ok h hf1 hf2 hf3 hi ht hm
            · exact (appended_ok h hf1 hf2 hf3 hi ht).more (by omega)
theorem wants_ok {d : LNode} {m : LMsg} (hw : wantsP d m = true) : (stepP d m).1.log = [] ∧ (stepP d m).1.base = m.index ∧ (stepP d m).1.baseTerm = m.logTerm ∧ (stepP d m).1.commit = m.index ∧ (stepP d m).1.role = 0 ∧ (stepP d m).1.clock = 0 := by
  unfold wantsP at hw
  split at hw
  · cases hw
  · rename_i h1
    have h2 : properP d m = true ∧ m.kind = 7 ∧ ¬ m.term < d.term ∧ ¬ (m.term = d.term ∧ d.role = 3) ∧ ¬ m.index ≤ d.commit ∧ ¬ m.term < m.logTerm := by
      refine ⟨?_, ?_, fun e => h1 (.inr (.inr (.inl e))), fun e => h1 (.inr (.inr (.inr (.inl e)))), fun e => h1 (.inr (.inr (.inr (.inr (.inl e))))), fun e => h1 (.inr (.inr (.inr (.inr (.inr e)))))⟩
      · cases e : properP d m with
        | true => rfl
        | false => exact absurd (.inl e) h1
      · exact Classical.byContradiction fun e => h1 (.inr (.inl e))
    obtain ⟨p1, p2, p3, p4, p5, p6⟩ := h2
    have hw := of_decide_eq_true hw
    obtain ⟨v, e, _⟩ := follow_is d m.term m.frm
    have e2 : stepP d m = snapP { followP d m.term m.frm with clock := 0 } m := by
      unfold stepP
      rw [if_neg (by rw [p1]; decide), if_neg (by omega), if_neg (by omega), if_neg (by omega), if_neg (by omega), if_pos (.inr p2)]
      unfold ledP
      rw [if_neg p3, if_neg p4]
      simp only []
      rw [if_pos p2]
    rw [e2, e]
    obtain ⟨d1, hd1⟩ : ∃ d1 : LNode, d1 = { ({ d with term := max d.term m.term, vote := v, role := 0, lead := m.frm } : LNode) with clock := 0 } := ⟨_, rfl⟩
    have hT : termAt d1 m.index = termAt d m.index := by rw [hd1]; rfl
    have hC : d1.commit = d.commit := by rw [hd1]
    have hR : d1.role = 0 ∧ d1.clock = 0 := by rw [hd1]; exact ⟨rfl, rfl⟩
    rw [← hd1]
    unfold snapP
    rw [if_neg (by rw [hC]; exact p5), if_neg p6]
    simp only []
    rw [if_pos (by rw [hT]; exact hw)]
    obtain ⟨r1, r2⟩ := hR
    refine ⟨?_, ?_, ?_, ?_, r1, r2⟩ <;> first | rfl | trivial
/-- a round of the law: a message, then perhaps the clock -/
def roundP (d : LNode) (m : LMsg) (tick : Bool) : LNode × List LMsg := if tick then ((tickG (stepP d m).1).1, (stepP d m).2 ++ (tickG (stepP d m).1).2) else stepP d m
theorem round_ok {n K : Nat} {d : LNode} (h : NI n K d) {m : LMsg} (hm : m.ents.length ≤ 30) (hK : K + 31 ≤ 2000) (t : Bool) : Kept n (K + 31) d (roundP d m t) ∧
    (wantsP d m = true → (roundP d m t).1.log = [] ∧ (roundP d m t).1.base = m.index ∧ (roundP d m t).1.baseTerm = m.logTerm ∧ m.index ≤ (roundP d m t).1.commit) := by
  have k := step_ok h hm (by omega)
  unfold roundP
  cases t with
  | false =>
    refine ⟨k.more (by omega), fun hw => ?_⟩
    obtain ⟨w1, w2, w3, w4, _⟩ := wants_ok hw
    exact ⟨w1, w2, w3, Nat.le_of_eq w4.symm⟩
  | true =>
    obtain ⟨t1, t2, t3, t4⟩ := tick_ok k.1 (by omega)
    refine ⟨⟨t1, k.2.1.trans t2, (k.2.2.up t2.1).app t3⟩, fun hw => ?_⟩
    obtain ⟨w1, w2, w3, w4, w5, w6⟩ := wants_ok hw
    obtain ⟨u1, u2, u3, u4⟩ := t4 (by rw [w5]; decide) w6
    refine ⟨u1.trans w1, u2.trans w2, u3.trans w3, ?_⟩
    show m.index ≤ (tickG (stepP d m).1).1.commit
    rw [u4, w4]
    exact Nat.le_refl _
theorem NI.rb {n K : Nat} {d : LNode} (h : NI n K d) (hK : K ≤ 2000) : RB d := by
  have h1 := h.bas
  have h2 := h.len
  have h3 := h.c2
  have h4 := rising_le _ _ _ h.ris
  have h5 := h.ter
  have h6 := h.n1
  have h7 := h.n5
  have h8 := h.hn
  have h9 := h.id0
  unfold lastN at h3
  exact ⟨⟨by omega, by omega, by omega, h.ter, by omega⟩, by omega, by omega, by omega, fun e => by rw [h.r1 e, h.hn], fun e => by rw [h.r2 e, h.hn], fun e => by rw [(h.r3 e).1, (h.r3 e).2, h.hn]; exact ⟨rfl, rfl⟩, fun i => Nat.le_trans (h.mx i) (by decide)⟩
/-- what the law looks at behind a round -/
theorem NI.last_ok {n K : Nat} {d : LNode} (h : NI n K d) : (termAt d (lastN d)).2 = true ∧ (termAt d (lastN d)).1 ≤ d.term ∧ (termAt d (lastN d + 1)).2 = false ∧ fromR d (lastN d + 1) = [] ∧ fromR d 0 = d.log := by
  refine ⟨(termAt_low (d := d) (i := lastN d) (by unfold lastN; omega) (Nat.le_refl _)).2, ?_, ?_, ?_, ?_⟩
  · show lastT d ≤ d.term
    rw [lastT_low]
    exact (rising_le _ _ _ h.ris).2
  · unfold termAt
    rw [if_pos (.inr (Nat.lt_succ_self _))]
  · unfold fromR
    rw [if_pos (Nat.lt_succ_self _)]
  · unfold fromR
    rw [if_neg (by omega), show max 0 (d.base + 1) - d.base - 1 = 0 by omega]
    rfl
theorem NI.new_ {n : Nat} {term base baseTerm : Nat} {vote : Int} {L : List LEnt} (h1 : 1 ≤ n) (h5 : n ≤ 5) (hv1 : -1 ≤ vote) (hv2 : vote < (n : Int)) (hr : risingP L baseTerm term = true) (hb : base ≤ 4611686018427387904) (ht : term ≤ 4611686018427387904) (hL : L.length ≤ 30) : NI n 30 (newP 0 n 3 term vote base baseTerm L) :=
  ⟨rfl, rfl, rfl, h1, h5, ht, hv1, hv2, hb, hr, Nat.le_refl _, by show base ≤ base + L.length; omega, hL, ⟨Int.le_refl _, (by decide : (0 : Int) ≤ 2)⟩, fun e => absurd e (by decide : ¬ (0 : Int) = 1), fun e => absurd e (by decide : ¬ (0 : Int) = 2), fun e => absurd e (by decide : ¬ (0 : Int) = 3), fun i => by show ([] : List Nat).getD i 0 ≤ _; simp⟩
end Go.Proofs.Ytjpcekpllfelhaa
