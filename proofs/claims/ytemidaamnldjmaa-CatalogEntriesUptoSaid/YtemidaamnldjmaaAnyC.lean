/- Rows of values. -/
import Derived.Test.YtemidaamnldjmaaCellC
import Derived.Test.YtemidaamnldjmaaSl
import Derived.Test.YtemidaamnldjmaaBlkS
import Derived.Deep.RegionLaw
namespace Go.Proofs.Ytemidaamnldjmaa
open Go.RowKit

theorem AnyV.same {w w' : World} {S : Nat → Prop} {v : Value} {x : LVal} (h : AnyV w S v x) (hs : Same S w w') : AnyV w' S v x := by
  cases x with
  | bytes l =>
    obtain ⟨D, c, e, h1, h2, h3⟩ := h
    exact ⟨D, c, e, h1.sameS h2 hs, h2, h3⟩
  | _ => exact h
theorem AnyV.mono {w : World} {S S' : Nat → Prop} {v : Value} {x : LVal} (h : AnyV w S v x) (hs : ∀ b, b < w.heap.size → S b → S' b) : AnyV w S' v x := by
  cases x with
  | bytes l =>
    obtain ⟨D, c, e, h1, h2, h3⟩ := h
    exact ⟨D, c, e, h1, h1.atMono h2 hs, h3⟩
  | _ => exact h
theorem AnyV.one {w : World} {S : Nat → Prop} {v : Value} {x : LVal} (h : AnyV w S v x) : v.oneCell' = true := by
  cases x with
  | bytes l => obtain ⟨D, c, rfl, _⟩ := h; rfl
  | text s => obtain ⟨rfl, _⟩ := h; rfl
  | _ => subst h; rfl
/-- a row of values -/
def AnyE : ER LVal where
  size := 1
  pos := by omega
  bytes := 16
  bpos := by omega
  rep w S vs x := ∃ v, vs = [v] ∧ AnyV w S v x
  len := by rintro w S vs a ⟨v, rfl, _⟩; rfl
  one := by rintro w S vs a ⟨v, rfl, h⟩ u hu; simp at hu; subst hu; exact h.one
  keep := by rintro w w' S vs a ⟨v, rfl, h⟩ hs; exact ⟨v, rfl, h.same hs⟩
  mono := by rintro w S S' vs a ⟨v, rfl, h⟩ hs; exact ⟨v, rfl, h.mono hs⟩
theorem AnyE.at_ {w : World} {A : Option Addr} {S : Nat → Prop} {l : List LVal} (h : SlS AnyE w S A l) {k : Nat} (hk : k < l.length) :
    ∃ ad v, A = some ad ∧ ad.block < w.heap.size ∧ w.cell? (ad.add k) = some v ∧ AnyV w S v l[k] := by
  obtain ⟨ad, vs, rfl, hb, ⟨v, rfl, h1⟩, h4, _, _⟩ := SlS.at_ h hk
  have := h4 v rfl
  rw [show k * AnyE.size = k from Nat.mul_one k] at this
  exact ⟨ad, v, rfl, hb, this, h1⟩
end Go.Proofs.Ytemidaamnldjmaa
