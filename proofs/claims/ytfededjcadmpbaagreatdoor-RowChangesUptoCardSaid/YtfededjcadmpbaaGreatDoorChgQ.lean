/- The changes from one row to another, put upon the old one's entries, make just the new one's: plain. -/
import Derived.Test.YtfededjcadmpbaaGreatDoorChgA
namespace Go.Proofs.YtfededjcadmpbaaGreatDoor
open Go.RowKit

/-- a write into a list by rising keys -/
def putL (l : List Wr) (w : Wr) : List Wr :=
  match l with
  | [] => [w]
  | x :: r => if cmpL w.1 x.1 < 0 ∧ ∀ y ∈ r, cmpL w.1 y.1 < 0 then w :: x :: r else x :: putL r w
theorem putL_perm : ∀ (l : List Wr) (w : Wr), (putL l w).Perm (w :: l)
  | [], w => List.Perm.refl _
  | x :: r, w => by
    unfold putL
    split
    · exact List.Perm.refl _
    · exact ((putL_perm r w).cons x).trans (List.Perm.swap w x r)
theorem cmpL_asym {a b : List UInt8} (h : cmpL a b < 0) : ¬ cmpL b a < 0 := by
  have := cmpL_swap a b
  omega
theorem putL_sorted : ∀ {l : List Wr} {w : Wr}, l.Pairwise (fun x y => ¬ cmpL y.1 x.1 < 0) → (putL l w).Pairwise fun x y => ¬ cmpL y.1 x.1 < 0
  | [], w, _ => List.pairwise_singleton _ _
  | x :: r, w, h => by
    obtain ⟨h1, h2⟩ := List.pairwise_cons.1 h
    unfold putL
    split
    · rename_i hc
      refine List.pairwise_cons.2 ⟨fun y hy => ?_, h⟩
      rcases List.mem_cons.1 hy with rfl | hy
      · exact cmpL_asym hc.1
      · exact cmpL_asym (hc.2 y hy)
    · rename_i hc
      refine List.pairwise_cons.2 ⟨fun y hy => ?_, putL_sorted h2⟩
      rcases List.mem_cons.1 ((putL_perm r w).mem_iff.1 hy) with rfl | hy
      · intro hlt
        refine hc ⟨hlt, fun z hz => ?_⟩
        apply Classical.byContradiction
        intro h3
        have h4 := h1 z hz
        have h5 : ¬ cmpL y.1 x.1 < 0 := cmpL_le_trans h3 h4
        exact h5 hlt
      · exact h1 y hy
/-- writes of one key each, by rising keys, are one list -/
theorem sorted_one : ∀ {l m : List Wr}, l.Perm m → (l.map Prod.fst).Nodup → l.Pairwise (fun x y => ¬ cmpL y.1 x.1 < 0) → m.Pairwise (fun x y => ¬ cmpL y.1 x.1 < 0) → l = m
  | [], m, hp, _, _, _ => (hp.symm.eq_nil).symm
  | x :: l, [], hp, _, _, _ => absurd hp.length_eq (by simp)
  | x :: l, y :: m, hp, hn, hl, hm => by
    obtain ⟨h1, h2⟩ := List.pairwise_cons.1 hl
    obtain ⟨h3, h4⟩ := List.pairwise_cons.1 hm
    have hxy : x = y := by
      apply Classical.byContradiction
      intro hne
      have hx : x ∈ m := (List.mem_cons.1 (hp.mem_iff.1 (List.mem_cons_self ..))).resolve_left hne
      have hy : y ∈ l := (List.mem_cons.1 (hp.mem_iff.2 (List.mem_cons_self ..))).resolve_left (Ne.symm hne)
      have h5 := h1 y hy
      have h6 := h3 x hx
      have h7 : cmpL x.1 y.1 = 0 := by have := cmpL_swap x.1 y.1; omega
      rw [List.map_cons, List.nodup_cons] at hn
      exact hn.1 (by rw [cmpL_eq h7]; exact List.mem_map_of_mem hy)
    subst hxy
    rw [List.map_cons, List.nodup_cons] at hn
    rw [sorted_one (List.Perm.cons_inv hp) hn.2 h2 h4]
def goneL (was is : List (List UInt8 × List UInt8)) : List Wr := (was.filter fun p => !(is.any fun q => q.1 == p.1)).map fun p => (p.1, [], true)
/-- the reference's changes -/
def rchgL (was is : List (List UInt8 × List UInt8)) : List Wr := (newL was is ++ goneL was is).foldl putL []
theorem fold_perm : ∀ (l acc : List Wr), (l.foldl putL acc).Perm (acc ++ l)
  | [], acc => by rw [List.append_nil]; exact List.Perm.refl _
  | x :: l, acc => by
    show (l.foldl putL (putL acc x)).Perm _
    refine (fold_perm l _).trans ?_
    refine ((putL_perm acc x).append_right l).trans ?_
    show (x :: (acc ++ l)).Perm _
    exact List.perm_middle.symm
theorem fold_sorted : ∀ (l acc : List Wr), acc.Pairwise (fun x y => ¬ cmpL y.1 x.1 < 0) → (l.foldl putL acc).Pairwise fun x y => ¬ cmpL y.1 x.1 < 0
  | [], _, h => h
  | _ :: l, _, h => fold_sorted l _ (putL_sorted h)
section
variable {was is : List (List UInt8 × List UInt8)}
theorem any_key {l : List (List UInt8 × List UInt8)} {k : List UInt8} : (l.any fun q => q.1 == k) = true ↔ k ∈ l.map Prod.fst := by
  rw [List.any_eq_true, List.mem_map]
  constructor
  · rintro ⟨q, hq, h⟩; exact ⟨q, hq, beq_iff_eq.1 h⟩
  · rintro ⟨q, hq, h⟩; exact ⟨q, hq, beq_iff_eq.2 h⟩
theorem gone_keys : (goneL was is).map Prod.fst = (was.filter fun p => !(is.any fun q => q.1 == p.1)).map Prod.fst := by
  unfold goneL; rw [List.map_map]; rfl
theorem new_keys : (newL was is).map Prod.fst = (is.filter (newB was)).map Prod.fst := by
  unfold newL; rw [List.map_map]; rfl
theorem mem_gone {k : List UInt8} : k ∈ (goneL was is).map Prod.fst ↔ (k ∈ was.map Prod.fst ∧ k ∉ is.map Prod.fst) := by
  rw [gone_keys, List.mem_map]
  constructor
  · rintro ⟨p, hp, rfl⟩
    obtain ⟨h1, h2⟩ := List.mem_filter.1 hp
    refine ⟨List.mem_map_of_mem h1, fun h3 => ?_⟩
    rw [any_key.2 h3] at h2
    cases h2
  · rintro ⟨h1, h2⟩
    obtain ⟨p, hp, rfl⟩ := List.mem_map.1 h1
    refine ⟨p, List.mem_filter.2 ⟨hp, ?_⟩, rfl⟩
    cases hb : (is.any fun q => q.1 == p.1) with
    | false => rfl
    | true => exact absurd (any_key.1 hb) h2
theorem nodup_sub {l m : List (List UInt8 × List UInt8)} (h : (m.map Prod.fst).Nodup) (hs : l.Sublist m) : (l.map Prod.fst).Nodup := h.sublist (hs.map _)
theorem both_nodup (h1 : (was.map Prod.fst).Nodup) (h2 : (is.map Prod.fst).Nodup) : ((newL was is ++ goneL was is).map Prod.fst).Nodup := by
  rw [List.map_append, List.nodup_append]
  refine ⟨by rw [new_keys]; exact nodup_sub h2 List.filter_sublist, by rw [gone_keys]; exact nodup_sub h1 List.filter_sublist, fun a ha b hb e => ?_⟩
  subst e
  rw [new_keys] at ha
  obtain ⟨p, hp, rfl⟩ := List.mem_map.1 ha
  exact (mem_gone.1 hb).2 (List.mem_map_of_mem (List.mem_filter.1 hp).1)
/-- the program's changes are the reference's -/
theorem chg_one {ws : List Wr} (h1 : (was.map Prod.fst).Nodup) (h2 : (is.map Prod.fst).Nodup) (h : ChgOf was is ws) : ws = rchgL was is := by
  obtain ⟨gs, hg, hm, hp, hs⟩ := h
  have hgp : gs.Perm ((goneL was is).map Prod.fst) := by
    refine (List.perm_ext_iff_of_nodup hg (by rw [gone_keys]; exact nodup_sub h1 List.filter_sublist)).2 fun k => ?_
    rw [hm k, mem_gone]
  have hgw : (gs.map fun k => ((k, [], true) : Wr)).Perm (goneL was is) := by
    have h3 := hgp.map fun k => ((k, [], true) : Wr)
    have h4 : (((goneL was is).map Prod.fst).map fun k => ((k, [], true) : Wr)) = goneL was is := by
      unfold goneL
      rw [List.map_map, List.map_map]
      rfl
    rwa [h4] at h3
  have hp2 : ws.Perm (newL was is ++ goneL was is) := hp.trans (List.Perm.append_left _ hgw)
  have hp3 : ws.Perm (rchgL was is) := by
    refine hp2.trans ?_
    have := fold_perm (newL was is ++ goneL was is) []
    rw [List.nil_append] at this
    exact this.symm
  refine sorted_one hp3 ?_ hs (fold_sorted _ _ List.Pairwise.nil)
  exact (hp2.map Prod.fst).nodup_iff.2 (both_nodup h1 h2)
/-- pairs behind writes -/
def putP (l : List (List UInt8 × List UInt8)) (ws : List Wr) : List (List UInt8 × List UInt8) :=
  (l.filter fun p => !(ws.any fun w => w.1 == p.1)) ++ (ws.filter fun w => !w.2.2).map fun w => (w.1, w.2.1)
theorem key_oneP : ∀ {l : List (List UInt8 × List UInt8)}, (l.map Prod.fst).Nodup → ∀ {r q : List UInt8 × List UInt8}, r ∈ l → q ∈ l → r.1 = q.1 → r = q
  | [], _, r, _, h, _, _ => by cases h
  | a :: l, hn, r, q, hr, hq, e => by
    rw [List.map_cons, List.nodup_cons] at hn
    rcases List.mem_cons.1 hr with h1 | h1
    · rcases List.mem_cons.1 hq with h2 | h2
      · rw [h1, h2]
      · exact absurd (by rw [← h1, e]; exact List.mem_map_of_mem h2) hn.1
    · rcases List.mem_cons.1 hq with h2 | h2
      · exact absurd (by rw [← h2, ← e]; exact List.mem_map_of_mem h1) hn.1
      · exact key_oneP hn.2 h1 h2 e
theorem newB_iff {p : List UInt8 × List UInt8} : newB was p = true ↔ p ∉ was := by
  unfold newB
  rw [Bool.not_eq_true', List.any_eq_false]
  constructor
  · intro h hm
    exact h p hm (by simp)
  · intro h q hq hb
    rw [Bool.and_eq_true, beq_iff_eq, beq_iff_eq] at hb
    exact h (by rw [show p = q from Prod.ext hb.1.symm hb.2.symm]; exact hq)
theorem mem_rchg {w : Wr} : w ∈ rchgL was is ↔ (w ∈ newL was is ∨ w ∈ goneL was is) := by
  have := fold_perm (newL was is ++ goneL was is) []
  rw [List.nil_append] at this
  rw [show rchgL was is = (newL was is ++ goneL was is).foldl putL [] from rfl, this.mem_iff, List.mem_append]
theorem new_mem {w : Wr} : w ∈ newL was is ↔ ((w.1, w.2.1) ∈ is ∧ (w.1, w.2.1) ∉ was ∧ w.2.2 = false) := by
  unfold newL
  rw [List.mem_map]
  constructor
  · rintro ⟨p, hp, rfl⟩
    obtain ⟨h1, h2⟩ := List.mem_filter.1 hp
    exact ⟨h1, newB_iff.1 h2, rfl⟩
  · rintro ⟨h1, h2, h3⟩
    refine ⟨(w.1, w.2.1), List.mem_filter.2 ⟨h1, newB_iff.2 h2⟩, ?_⟩
    obtain ⟨a, b, c⟩ := w
    cases h3
    rfl
theorem gone_flag {w : Wr} (h : w ∈ goneL was is) : w.2.2 = true := by
  unfold goneL at h
  obtain ⟨p, _, rfl⟩ := List.mem_map.1 h
  rfl
/-- what is had behind the changes is the new row's entries -/
theorem put_is (h1 : (was.map Prod.fst).Nodup) (h2 : (is.map Prod.fst).Nodup) : (putP was (rchgL was is)).Perm is := by
  have hkeys : ((rchgL was is).map Prod.fst).Nodup := by
    have h3 := fold_perm (newL was is ++ goneL was is) []
    rw [List.nil_append] at h3
    exact (h3.map Prod.fst).nodup_iff.2 (both_nodup h1 h2)
  have hfree : ∀ p : List UInt8 × List UInt8, (!((rchgL was is).any fun w => w.1 == p.1)) = true ↔ p.1 ∉ (rchgL was is).map Prod.fst := fun p => by
    rw [Bool.not_eq_true', List.any_eq_false, List.mem_map]
    constructor
    · rintro h ⟨w, hw, he⟩; exact h w hw (beq_iff_eq.2 he)
    · intro h w hw hb; exact h ⟨w, hw, beq_iff_eq.1 hb⟩
  have hmem : ∀ p, p ∈ putP was (rchgL was is) ↔ p ∈ is := fun p => by
    unfold putP
    rw [List.mem_append, List.mem_filter, hfree]
    constructor
    · rintro (⟨hp, hk⟩ | hpm)
      · have h3 : p.1 ∈ is.map Prod.fst := by
          apply Classical.byContradiction
          intro h4
          obtain ⟨w, hw, he⟩ := List.mem_map.1 (mem_gone.2 ⟨List.mem_map_of_mem hp, h4⟩)
          exact hk (by rw [← he]; exact List.mem_map_of_mem (mem_rchg.2 (.inr hw)))
        obtain ⟨q, hq, hqk⟩ := List.mem_map.1 h3
        have h5 : q ∈ was := by
          apply Classical.byContradiction
          intro h6
          have h7 : ((q.1, q.2, false) : Wr) ∈ rchgL was is := mem_rchg.2 (.inl (new_mem.2 ⟨hq, h6, rfl⟩))
          exact hk (by rw [← hqk]; exact List.mem_map_of_mem (f := Prod.fst) h7)
        rw [← key_oneP h1 h5 hp hqk]
        exact hq
      · obtain ⟨w, hw, rfl⟩ := List.mem_map.1 hpm
        obtain ⟨h3, h4⟩ := List.mem_filter.1 hw
        rcases mem_rchg.1 h3 with h5 | h5
        · exact (new_mem.1 h5).1
        · rw [gone_flag h5] at h4; cases h4
    · intro hp
      by_cases hw : p ∈ was
      · refine .inl ⟨hw, fun hk => ?_⟩
        obtain ⟨w, hw2, he⟩ := List.mem_map.1 hk
        rcases mem_rchg.1 hw2 with h5 | h5
        · obtain ⟨h6, h7, _⟩ := new_mem.1 h5
          have h8 := key_oneP h2 h6 hp he
          exact h7 (by rw [h8]; exact hw)
        · exact (mem_gone.1 (by rw [← he]; exact List.mem_map_of_mem h5)).2 (List.mem_map_of_mem hp)
      · exact .inr (List.mem_map.2 ⟨(p.1, p.2, false), List.mem_filter.2 ⟨mem_rchg.2 (.inl (new_mem.2 ⟨hp, hw, rfl⟩)), rfl⟩, rfl⟩)
  have hnd : ∀ {l : List (List UInt8 × List UInt8)}, (l.map Prod.fst).Nodup → l.Nodup := fun {l} h => by
    rw [List.nodup_iff_pairwise_ne] at h ⊢
    exact (List.pairwise_map.1 h).imp fun h3 h4 => h3 (by rw [h4])
  refine (List.perm_ext_iff_of_nodup (hnd ?_) (hnd h2)).2 hmem
  unfold putP
  rw [List.map_append, List.nodup_append]
  have e : (((rchgL was is).filter fun w => !w.2.2).map fun w => (w.1, w.2.1)).map Prod.fst = ((rchgL was is).filter fun w => !w.2.2).map Prod.fst := by rw [List.map_map]; rfl
  refine ⟨nodup_sub h1 List.filter_sublist, ?_, fun a ha b hb he => ?_⟩
  · rw [e]
    exact hkeys.sublist (List.filter_sublist.map _)
  · subst he
    rw [e] at hb
    obtain ⟨p, hp, rfl⟩ := List.mem_map.1 ha
    obtain ⟨w, hw, he⟩ := List.mem_map.1 hb
    refine (hfree p).1 (List.mem_filter.1 hp).2 ?_
    rw [← he]
    exact List.mem_map_of_mem (List.mem_filter.1 hw).1
end
end Go.Proofs.YtfededjcadmpbaaGreatDoor
