/- Edits cut to size: what some of caissonlaw12 answers; plain. -/
import Derived.Test.YtmgibpedclngpaaMTold
import Derived.Test.YtmgibpedclngpaaAppK
namespace Go.Proofs.Ytmgibpedclngpaa
open Go.RowKit

def cutF (f : LFile) : LFile := { f with first := f.first.take 1024, last := f.last.take 1024 }
def cutE (e : LEdit) : LEdit := ⟨e.reset, (e.add.take 8).map cutF, e.drop.take 8, e.seq⟩
/-- edits as elements -/
def EditE : ER LEdit where
  size := 4
  pos := by omega
  bytes := 64
  bpos := by omega
  rep w S vs e := ∃ A a D d, vs = [.bool e.reset, .slice A e.add.length a, .slice D e.drop.length d, .int .u64 (e.seq : Int)] ∧ (SlS RFE w S A e.add ∧ e.add.length ≤ a ∧ a ≤ 9223372036854775807) ∧ (SlS NE w S D e.drop ∧ e.drop.length ≤ d ∧ d ≤ 9223372036854775807) ∧ U64 e.seq
  len := by rintro w S vs a ⟨A, c, B, d, rfl, _⟩; rfl
  one := by rintro w S vs a ⟨A, c, B, d, rfl, _⟩ v hv; simp at hv; rcases hv with rfl | rfl | rfl | rfl <;> rfl
  keep := by rintro w w' S vs a ⟨A, c, B, d, rfl, ⟨h1, h2⟩, ⟨h4, h5⟩, h7⟩ hs; exact ⟨A, c, B, d, rfl, ⟨h1.same hs, h2⟩, ⟨h4.same hs, h5⟩, h7⟩
  mono := by rintro w S S' vs a ⟨A, c, B, d, rfl, ⟨h1, h2⟩, ⟨h4, h5⟩, h7⟩ hs; exact ⟨A, c, B, d, rfl, ⟨h1.mono hs, h2⟩, ⟨h4.mono hs, h5⟩, h7⟩
theorem EditE.at_ {w : World} {S : Nat → Prop} {A : Option Addr} {l : List LEdit} (h : SlS EditE w S A l) {k : Nat} (hk : k < l.length) :
    ∃ ad P p Q q, A = some ad ∧ ad.block < w.heap.size ∧ w.cell? (ad.add (k * 4)) = some (.bool l[k].reset) ∧ w.cell? ⟨(ad.add (k * 4)).block, (ad.add (k * 4)).off + 1, none⟩ = some (.slice P l[k].add.length p) ∧ w.cell? ⟨(ad.add (k * 4)).block, (ad.add (k * 4)).off + 2, none⟩ = some (.slice Q l[k].drop.length q) ∧ w.cell? ⟨(ad.add (k * 4)).block, (ad.add (k * 4)).off + 3, none⟩ = some (.int .u64 (l[k].seq : Int)) ∧
      (SlS RFE w S P l[k].add ∧ l[k].add.length ≤ p ∧ p ≤ 9223372036854775807) ∧ (SlS NE w S Q l[k].drop ∧ l[k].drop.length ≤ q ∧ q ≤ 9223372036854775807) ∧ U64 l[k].seq := by
  obtain ⟨ad, vs, rfl, hb, ⟨P, p, Q, q, rfl, h1, h2, h3⟩, h4, _, h5⟩ := SlS.at_ h hk
  exact ⟨ad, P, p, Q, q, rfl, hb, h4 _ rfl, h5 1 _ (by omega) rfl, h5 2 _ (by omega) rfl, h5 3 _ (by omega) rfl, h1, h2, h3⟩
/-- an element's cell stored anew through its address -/
theorem Own.turnA {α : Type} {E : ER α} {w : World} {S : Nat → Prop} {t : TypeId} {B c k j : Nat} {ad : Addr} {u : Value} {y : α} {xs : List α} (h : Own E t w B S (.slice (some ad) xs.length c) xs) (hk : k < xs.length) (hj : j < E.size)
    (hr : ∀ v, E.rep (w.setCell ⟨(ad.add (k * E.size)).block, (ad.add (k * E.size)).off + j, none⟩ u) (fun b => S b ∧ (Value.slice (some ad) xs.length c).ownBlock ≠ some b) v xs[k] → E.rep (w.setCell ⟨(ad.add (k * E.size)).block, (ad.add (k * E.size)).off + j, none⟩ u) (fun b => S b ∧ (Value.slice (some ad) xs.length c).ownBlock ≠ some b) (v.set j u) y) :
    Own E t (w.setCell ⟨(ad.add (k * E.size)).block, (ad.add (k * E.size)).off + j, none⟩ u) B S (.slice (some ad) xs.length c) (xs.set k y) := by
  obtain ⟨g, e, _, _⟩ := h.form (by omega)
  cases e
  rw [add_row] at hr ⊢
  exact Own.turn h hk hj hr
theorem Own.turnB {α : Type} {E : ER α} {w : World} {S : Nat → Prop} {t : TypeId} {B c k j : Nat} {ad : Addr} {u : Value} {y : α} {xs : List α} (h : Own E t w B S (.slice (some ad) xs.length c) xs) (hk : k < xs.length) (hj : j < E.size)
    (hr : ∀ v, E.rep (w.setCell ⟨(ad.add (k * E.size)).block, (ad.add (k * E.size)).off + j, none⟩ u) (fun b => S b ∧ (Value.slice (some ad) xs.length c).ownBlock ≠ some b) v xs[k] → E.rep (w.setCell ⟨(ad.add (k * E.size)).block, (ad.add (k * E.size)).off + j, none⟩ u) (fun b => S b ∧ (Value.slice (some ad) xs.length c).ownBlock ≠ some b) (v.set j u) y) (ys : List α) (hy : ys = xs.set k y) :
    Own E t (w.setCell ⟨(ad.add (k * E.size)).block, (ad.add (k * E.size)).off + j, none⟩ u) B S (.slice (some ad) ys.length c) ys := by
  subst hy
  have := Own.turnA h hk hj hr
  rw [List.length_set]
  exact this
theorem Own.frozenA {α : Type} {E : ER α} {w : World} {S : Nat → Prop} {t : TypeId} {B c k : Nat} {ad : Addr} {xs : List α} (h : Own E t w B S (.slice (some ad) xs.length c) xs) (hk : k < xs.length) (j : Nat) : w.frozen? ⟨(ad.add (k * E.size)).block, (ad.add (k * E.size)).off + j, none⟩ = false := by
  obtain ⟨g, e, _, _⟩ := h.form (by omega)
  cases e
  rw [add_row]
  exact Own.frozen h _
theorem RFE.set2 {w : World} {S : Nat → Prop} {v : List Value} {f : LFile} {P : Option Addr} {l : List UInt8} {p : Nat} (h : RFE.rep w S v f) (hP : Bs w P l ∧ At S P l.length ∧ l.length ≤ p ∧ p ≤ 9223372036854775807) : RFE.rep w S (v.set 2 (.slice P l.length p)) { f with first := l } := by
  obtain ⟨A, c, B, d, rfl, h1, h2, h3⟩ := h
  exact ⟨P, p, B, d, rfl, hP, h2, h3⟩
theorem RFE.set3 {w : World} {S : Nat → Prop} {v : List Value} {f : LFile} {P : Option Addr} {l : List UInt8} {p : Nat} (h : RFE.rep w S v f) (hP : Bs w P l ∧ At S P l.length ∧ l.length ≤ p ∧ p ≤ 9223372036854775807) : RFE.rep w S (v.set 3 (.slice P l.length p)) { f with last := l } := by
  obtain ⟨A, c, B, d, rfl, h1, h2, h3⟩ := h
  exact ⟨A, c, P, p, rfl, h1, hP, h3⟩
theorem Own.atA {α : Type} {E : ER α} {w : World} {S : Nat → Prop} {t : TypeId} {B c k : Nat} {ad : Addr} {xs : List α} (h : Own E t w B S (.slice (some ad) xs.length c) xs) (hn : 0 < xs.length) : ∃ g, ad = ⟨g, 0, none⟩ ∧ (Value.slice (some ad) xs.length c).ownBlock = some g ∧ (ad.add (k * E.size)).block = g := by
  obtain ⟨g, e, _, _⟩ := h.form hn
  cases e
  exact ⟨g, rfl, rfl, by rw [add_row]⟩
theorem SlS.takeA {α : Type} {E : ER α} {w : World} {S : Nat → Prop} {A : Option Addr} {xs : List α} (h : SlS E w S A xs) (n : Nat) : SlS E w S A (xs.take n) := by
  by_cases hn : n ≤ xs.length
  · exact h.take n hn
  · rw [List.take_of_length_le (by omega)]; exact h
theorem Bs.takeA {w : World} {A : Option Addr} {l : List UInt8} (h : Bs w A l) (n : Nat) : Bs w A (l.take n) := by
  by_cases hn : n ≤ l.length
  · exact h.take n hn
  · rw [List.take_of_length_le (by omega)]; exact h
theorem Own.file2 {w : World} {S : Nat → Prop} {t : TypeId} {B c k : Nat} {ad : Addr} {xs : List LFile} (h : Own RFE t w B S (.slice (some ad) xs.length c) xs) (hk : k < xs.length) :
    ∃ P p, w.cell? ⟨(ad.add (k * 6)).block, (ad.add (k * 6)).off + 2, none⟩ = some (.slice P xs[k].first.length p) ∧ (Bs w P xs[k].first ∧ At S P xs[k].first.length ∧ xs[k].first.length ≤ p ∧ p ≤ 9223372036854775807) := by
  obtain ⟨vs, ho, hf⟩ := h
  obtain ⟨v, ⟨P, p, Q, q, hv, h1, h2, h3⟩, hc⟩ := ER.flat_at hf hk
  obtain ⟨a2, e2, hb2, hc2⟩ := (Reads.of_own ho).2 (by omega)
  obtain rfl := Option.some.inj e2
  have h5 := hc2 (k * 6 + 2) (.slice P xs[k].first.length p) (hc 2 _ (by rw [hv]; rfl))
  obtain ⟨g, e, _, _⟩ := Own.form (E := RFE) (t := t) (B := B) (S := S) (w := w) (c := c) (A := some ad) (xs := xs) ⟨vs, ho, hf⟩ (by omega)
  cases e
  rw [add_row] at h5 ⊢
  exact ⟨P, p, h5, h1.1, h1.2.1.mono' (fun b hb => hb.1), h1.2.2⟩
theorem Own.file3 {w : World} {S : Nat → Prop} {t : TypeId} {B c k : Nat} {ad : Addr} {xs : List LFile} (h : Own RFE t w B S (.slice (some ad) xs.length c) xs) (hk : k < xs.length) :
    ∃ P p, w.cell? ⟨(ad.add (k * 6)).block, (ad.add (k * 6)).off + 3, none⟩ = some (.slice P xs[k].last.length p) ∧ (Bs w P xs[k].last ∧ At S P xs[k].last.length ∧ xs[k].last.length ≤ p ∧ p ≤ 9223372036854775807) := by
  obtain ⟨vs, ho, hf⟩ := h
  obtain ⟨v, ⟨P, p, Q, q, hv, h1, h2, h3⟩, hc⟩ := ER.flat_at hf hk
  obtain ⟨a2, e2, hb2, hc2⟩ := (Reads.of_own ho).2 (by omega)
  obtain rfl := Option.some.inj e2
  have h5 := hc2 (k * 6 + 3) (.slice Q xs[k].last.length q) (hc 3 _ (by rw [hv]; rfl))
  obtain ⟨g, e, _, _⟩ := Own.form (E := RFE) (t := t) (B := B) (S := S) (w := w) (c := c) (A := some ad) (xs := xs) ⟨vs, ho, hf⟩ (by omega)
  cases e
  rw [add_row] at h5 ⊢
  exact ⟨Q, q, h5, h2.1, h2.2.1.mono' (fun b hb => hb.1), h2.2.2⟩
theorem cut_len (l : List UInt8) : (l.take 1024).length ≤ l.length := by rw [List.length_take]; omega
/-- the files, the first k of them cut -/
def cutK (l : List LFile) (k : Nat) : List LFile := (l.take k).map cutF ++ l.drop k
theorem cutK_len (l : List LFile) {k : Nat} (h : k ≤ l.length) : (cutK l k).length = l.length := by
  unfold cutK
  rw [List.length_append, List.length_map, List.length_take, List.length_drop]
  omega
theorem cutK_at {l : List LFile} {k : Nat} (h : k < l.length) (h2 : k < (cutK l k).length) : (cutK l k)[k] = l[k] := by
  have h3 : (cutK l k)[k]? = some l[k] := by
    unfold cutK
    rw [List.getElem?_append_right (by rw [List.length_map, List.length_take]; omega), List.length_map, List.length_take, show k - min k l.length = 0 by omega, List.getElem?_drop, Nat.add_zero]
    exact List.getElem?_eq_getElem h
  exact Option.some.inj ((List.getElem?_eq_getElem h2).symm.trans h3)
theorem cutK_step {l : List LFile} {k : Nat} (h : k < l.length) (y : LFile) : ((cutK l k).set k y).set k (cutF l[k]) = cutK l (k + 1) := by
  rw [List.set_set]
  unfold cutK
  rw [List.set_append_right _ _ (by rw [List.length_map, List.length_take]; omega)]
  rw [List.length_map, List.length_take, show k - min k l.length = 0 by omega, List.drop_eq_getElem_cons h, List.set_cons_zero, List.take_succ_eq_append_getElem h, List.map_append, List.append_assoc]
  rfl
theorem cutK_zero (l : List LFile) : cutK l 0 = l := rfl
theorem cutK_all (l : List LFile) : cutK l l.length = l.map cutF := by
  unfold cutK
  rw [List.take_length, List.drop_length, List.append_nil]
theorem cutF_wf {f : LFile} (h : f.wf) : (cutF f).wf := h
end Go.Proofs.Ytmgibpedclngpaa
