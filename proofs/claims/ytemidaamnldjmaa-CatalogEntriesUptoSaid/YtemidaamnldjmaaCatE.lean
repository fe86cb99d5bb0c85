/- Rows of columns, of indexes, of states as slices; entries by value; their clones. -/
import Derived.Test.YtemidaamnldjmaaCat

namespace Go.Proofs.Ytemidaamnldjmaa
open Go.RowKit

def ColE : ER LCol where
  size := 3
  pos := by omega
  bytes := 32
  bpos := by omega
  rep _ _ vs c := vs = [.string c.name, .int .i64 c.kind, .bool c.null] ∧ c.name.size ≤ 140737488351232
  len := by rintro w S vs a ⟨rfl, _⟩; rfl
  one := by rintro w S vs a ⟨rfl, _⟩ v hv; simp at hv; rcases hv with rfl | rfl | rfl <;> rfl
  keep := by rintro w w' S vs a h _; exact h
  mono := by rintro w S S' vs a h _; exact h

def IxE : ER LIx where
  size := 3
  pos := by omega
  bytes := 48
  bpos := by omega
  rep w S vs x := ∃ C c, vs = [.string x.name, .slice C x.cols.length c, .bool x.uniq] ∧ Is w C x.cols ∧ At S C x.cols.length ∧ x.cols.length * 8 ≤ 140737488351232 ∧ x.name.size ≤ 140737488351232
  len := by rintro w S vs a ⟨C, c, rfl, _⟩; rfl
  one := by rintro w S vs a ⟨C, c, rfl, _⟩ v hv; simp at hv; rcases hv with rfl | rfl | rfl <;> rfl
  keep := by rintro w w' S vs a ⟨C, c, rfl, h, ha, h2⟩ hs; exact ⟨C, c, rfl, ⟨Reads.sameS h.1 ha hs, h.2⟩, ha, h2⟩
  mono := by rintro w S S' vs a ⟨C, c, rfl, h, ha, h2⟩ hs; exact ⟨C, c, rfl, h, Reads.atMono h.1 ha hs, h2⟩

theorem ColE.flat_eq {w : World} {S : Nat → Prop} : ∀ {vs : List Value} {xs : List LCol}, ColE.flat w S vs xs → vs = xs.flatMap LCol.cells
  | _, [], h => h
  | _, x :: xs, ⟨v, r, e, hv, hr⟩ => by rw [e, ColE.flat_eq hr, List.flatMap_cons, hv.1]; rfl
theorem ColE.flat_any {w : World} {S S' : Nat → Prop} : ∀ {vs : List Value} {xs : List LCol}, ColE.flat w S vs xs → ColE.flat w S' vs xs
  | _, [], h => h
  | _, _ :: _, ⟨v, r, e, hv, hr⟩ => ⟨v, r, e, hv, ColE.flat_any hr⟩
theorem Own.colS {w : World} {t : TypeId} {B : Nat} {S S' : Nat → Prop} {v : Value} {xs : List LCol} (h : Own ColE t w B S v xs) : Own ColE t w B S' v xs := by
  obtain ⟨vs, h1, h2⟩ := h
  exact ⟨vs, h1, ColE.flat_any h2⟩
theorem SlS.cols {w : World} {A : Option Addr} {xs : List LCol} (h : Sl ColE w A xs) : Cols w A xs := by
  obtain ⟨_, vs, h2, _, h3⟩ := h
  rw [ColE.flat_eq h3] at h2
  exact h2
theorem SlS.cnames {w : World} {A : Option Addr} {xs : List LCol} (h : Sl ColE w A xs) : ∀ x ∈ xs, x.name.size ≤ 140737488351232 := by
  intro x hx
  obtain ⟨vs, h⟩ := SlS.all h x hx
  exact h.2
theorem IxE.flat_eq {w : World} {S : Nat → Prop} : ∀ {vs : List Value} {xs : List LIx}, IxE.flat w S vs xs → ∃ us : List Value, us.length = xs.length ∧ vs = (xs.zip us |>.flatMap fun p => [.string p.1.name, p.2, .bool p.1.uniq]) ∧ ∀ i (h : i < xs.length), ∃ C c, us[i]? = some (.slice C xs[i].cols.length c) ∧ Is w C xs[i].cols
  | _, [], h => ⟨[], rfl, h, fun i h => by cases h⟩
  | _, x :: xs, ⟨v, r, e, hv, hr⟩ => by
    obtain ⟨us, h1, h2, h3⟩ := IxE.flat_eq hr
    obtain ⟨C, c, hv, hI, _⟩ := hv
    refine ⟨.slice C x.cols.length c :: us, by simp [h1], by rw [e, h2, hv]; rfl, fun i hi => ?_⟩
    cases i with
    | zero => exact ⟨C, c, rfl, hI⟩
    | succ i => simpa using h3 i (by simpa using hi)
theorem SlS.ixs {w : World} {A : Option Addr} {xs : List LIx} (h : Sl IxE w A xs) : Ixs w A xs := by
  obtain ⟨_, vs, h2, _, h3⟩ := h
  obtain ⟨us, h4, h5, h6⟩ := IxE.flat_eq h3
  rw [h5] at h2
  exact ⟨us, h4, h2, h6⟩
theorem SlS.xnames {w : World} {A : Option Addr} {xs : List LIx} (h : Sl IxE w A xs) : ∀ x ∈ xs, x.name.size ≤ 140737488351232 ∧ x.cols.length ≤ 140737488351232 := by
  intro x hx
  obtain ⟨vs, C, c, _, _, _, h1, h2⟩ := SlS.all h x hx
  exact ⟨h2, by omega⟩
theorem ColE.at_ {w : World} {A : Option Addr} {l : List LCol} (h : Sl ColE w A l) {k : Nat} (hk : k < l.length) :
    ∃ ad, A = some ad ∧ ad.block < w.heap.size ∧ w.cell? (ad.add (k * 3)) = some (.string l[k].name) ∧ w.cell? ⟨(ad.add (k * 3)).block, (ad.add (k * 3)).off + 1, none⟩ = some (.int .i64 l[k].kind) ∧ w.cell? ⟨(ad.add (k * 3)).block, (ad.add (k * 3)).off + 2, none⟩ = some (.bool l[k].null) := by
  obtain ⟨ad, vs, rfl, hb, ⟨rfl, _⟩, h4, _, h5⟩ := SlS.at_ h hk
  exact ⟨ad, rfl, hb, h4 _ rfl, h5 1 _ (by omega) rfl, h5 2 _ (by omega) rfl⟩
theorem IxE.at_ {w : World} {A : Option Addr} {l : List LIx} (h : Sl IxE w A l) {k : Nat} (hk : k < l.length) :
    ∃ ad C c, A = some ad ∧ ad.block < w.heap.size ∧ w.cell? (ad.add (k * 3)) = some (.string l[k].name) ∧ w.cell? ⟨(ad.add (k * 3)).block, (ad.add (k * 3)).off + 1, none⟩ = some (.slice C l[k].cols.length c) ∧ w.cell? ⟨(ad.add (k * 3)).block, (ad.add (k * 3)).off + 2, none⟩ = some (.bool l[k].uniq) ∧
      Is w C l[k].cols ∧ l[k].cols.length * 8 ≤ 140737488351232 ∧ l[k].name.size ≤ 140737488351232 := by
  obtain ⟨ad, vs, rfl, hb, ⟨C, c, rfl, h1, _, h2, h3⟩, h4, _, h5⟩ := SlS.at_ h hk
  exact ⟨ad, C, c, rfl, hb, h4 _ rfl, h5 1 _ (by omega) rfl, h5 2 _ (by omega) rfl, h1, h2, h3⟩

theorem Is.of_own {w : World} {base : Nat} {A : Option Addr} {c : Nat} {l : List Int} (h : w.ownsRow base 3 1 (.slice A l.length c) l.length (l.map (Value.int .i64))) (hw : ∀ n ∈ l, (Lit.int .i64 n).wf = true) : Is w A l := ⟨Reads.of_own h, hw⟩

/-- a table; an entry -/
structure LTab where
  id : Int
  keys : Int
  name : ByteArray
  cols : List LCol
  ixs : List LIx
structure LEnt where
  tab : LTab
  sts : List LSt

/-- a table's value, and what its slices read as -/
def TabV (w : World) (t : LTab) (v : Value) : Prop :=
  ∃ A B ca cb, v = .agg #[.int .i64 t.id, .string t.name, .slice A t.cols.length ca, .int .i64 t.keys, .slice B t.ixs.length cb] ∧ Sl ColE w A t.cols ∧ Sl IxE w B t.ixs ∧ t.name.size ≤ 140737488351232
def EntV (w : World) (e : LEnt) (v : Value) : Prop :=
  ∃ A B S ca cb cs, v = .agg #[.int .i64 e.tab.id, .string e.tab.name, .slice A e.tab.cols.length ca, .int .i64 e.tab.keys, .slice B e.tab.ixs.length cb, .slice S e.sts.length cs] ∧
    Sl ColE w A e.tab.cols ∧ Sl IxE w B e.tab.ixs ∧ Sl StE w S e.sts ∧ e.tab.name.size ≤ 140737488351232
theorem TabV.below {w w' : World} {t : LTab} {v : Value} (h : TabV w t v) (hb : Below w.heap.size w w') : TabV w' t v := by
  obtain ⟨A, B, ca, cb, e, h1, h2, h3⟩ := h
  exact ⟨A, B, ca, cb, e, SlS.below h1 hb, SlS.below h2 hb, h3⟩
theorem EntV.below {w w' : World} {e : LEnt} {v : Value} (h : EntV w e v) (hb : Below w.heap.size w w') : EntV w' e v := by
  obtain ⟨A, B, S, ca, cb, cs, e, h1, h2, h3, h4⟩ := h
  exact ⟨A, B, S, ca, cb, cs, e, SlS.below h1 hb, SlS.below h2 hb, SlS.below h3 hb, h4⟩

def LTab.check (t : LTab) : Int := checkI t.id t.keys t.name t.cols t.ixs
def LEnt.check (e : LEnt) : Int := entryI e.tab.id e.tab.keys e.tab.name e.tab.cols e.tab.ixs e.sts

end Go.Proofs.Ytemidaamnldjmaa
