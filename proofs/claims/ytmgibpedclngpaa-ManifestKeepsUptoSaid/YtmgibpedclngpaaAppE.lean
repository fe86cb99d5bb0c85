/- An element appended to a row of the own, in one word; lists of bytes as elements. -/
import Derived.Test.YtmgibpedclngpaaOrdA
import Derived.Lib.AppendStr
namespace Go.Proofs.Ytmgibpedclngpaa
open Go.RowKit

theorem wpList_appE {α : Type} (E : ER α) (b : Nat) (w0 w : World) {ops : Array Oper} {rest : List Oper} {o : Oper} {a : Act} {Q : Exit → Act → World → Prop} (hgd : o.guard = none) (s x : Operand) (t ty : TypeId)
    (ho : o.op = .call { callee := .builtin .append, args := #[s, x], argTypes := #[ty, ty] }) (i : TypeInfo) (z : Value) (ht : Try.prog.underlying ty = some (.slice t)) (hi : Try.prog.info? t = some i) (hz : i.zero = some z) (hsize : i.size = E.size) (hby : i.bytes = E.bytes) (hzs : z.cells.size = E.size)
    (S : Nat → Prop) (A : Option Addr) (xs : List α) (c : Nat) (hs : a.eval s = .slice A xs.length c) (hown : Own E t w b S (.slice A xs.length c) xs)
    (B : Option Addr) (us : List Value) (y : α) (d : Nat) (hx : a.eval x = .slice B 1 d) (Bd : Nat) (hr : Reads w Bd E.size B 1 us) (hrep : E.rep w (fun b => S b ∧ (Value.slice A xs.length c).ownBlock ≠ some b) us y)
    (hl : (xs.length + 1) * E.bytes ≤ 140737488355328) (hl2 : xs.length + 1 ≤ maxLen) (hb : Below w0.heap.size w0 w) (hb0 : w0.heap.size ≤ b) (hbw : b ≤ w.heap.size)
    (h : ∀ A' c' xs' w', Hid (xs' = xs ++ [y]) → Own E t w' b S (.slice A' xs'.length c') xs' → Below w0.heap.size w0 w' → w.grownBy w' (Value.slice A xs.length c).ownBlock → ((Value.slice A' xs'.length c').ownBlock = (Value.slice A xs.length c).ownBlock ∨ (Value.slice A' xs'.length c').ownBlock = some w.heap.size) → wpList Try.prog ops Q rest (a.put o.dst (.slice A' xs'.length c')) w') : wpList Try.prog ops Q (o :: rest) a w := by
  have hlt := Own.lt hown
  obtain ⟨vs, hown, hf⟩ := hown
  refine wpList_append_sh w hgd s x ty ho b t i z E.size E.bytes ht hi hz hsize hby hzs E.pos _ _ _ hs hown Bd B 1 d us hx hr (E.one hrep) hl2 hl hbw ?_
  intro A' c' w' o' g' t'
  have e : xs.length + 1 = (xs ++ [y]).length := by rw [List.length_append]; rfl
  have hst := Own.step (S := S) hf hrep o' g' t'
  rw [e] at hst t' ⊢
  exact h A' c' (xs ++ [y]) w' rfl hst (hb.grown g' hb.size fun j hj => by have := (hlt j hj).1; omega) g' t'

/-- lists of bytes as elements -/
def BsE : ER (List UInt8) where
  size := 1
  pos := by omega
  bytes := 24
  bpos := by omega
  rep w S vs x := ∃ D c, vs = [.slice D x.length c] ∧ Bs w D x ∧ At S D x.length ∧ x.length ≤ c ∧ c ≤ 9223372036854775807
  len := by rintro w S vs a ⟨D, c, rfl, _⟩; rfl
  one := by rintro w S vs a ⟨D, c, rfl, _⟩ v hv; simp at hv; subst hv; rfl
  keep := by rintro w w' S vs a ⟨D, c, rfl, h, ha, h2⟩ hs; exact ⟨D, c, rfl, h.sameS ha hs, ha, h2⟩
  mono := by rintro w S S' vs a ⟨D, c, rfl, h, ha, h2⟩ hs; exact ⟨D, c, rfl, h, h.atMono ha hs, h2⟩
theorem BsE.at_ {w : World} {A : Option Addr} {S : Nat → Prop} {l : List (List UInt8)} (h : SlS BsE w S A l) {k : Nat} (hk : k < l.length) :
    ∃ ad D c, A = some ad ∧ ad.block < w.heap.size ∧ w.cell? (ad.add k) = some (.slice D l[k].length c) ∧ Bs w D l[k] ∧ At S D l[k].length ∧ l[k].length ≤ c ∧ c ≤ 9223372036854775807 := by
  obtain ⟨ad, vs, rfl, hb, ⟨D, c, rfl, h1⟩, h4, _, _⟩ := SlS.at_ h hk
  have := h4 _ rfl
  rw [show k * BsE.size = k from Nat.mul_one k] at this
  exact ⟨ad, D, c, rfl, hb, this, h1⟩
theorem OwnB.at_ {b : Nat} {w : World} {A : Option Addr} {l : List UInt8} {c : Nat} (h : OwnB b w A l c) : At (fun g => b ≤ g ∧ g < w.heap.size) A l.length := own_at h
end Go.Proofs.Ytmgibpedclngpaa

namespace Go.Proofs.Ytmgibpedclngpaa
open Go.RowKit
end Go.Proofs.Ytmgibpedclngpaa

namespace Go.Proofs.Ytmgibpedclngpaa
open Go.RowKit

theorem Own.far {α : Type} {E : ER α} {t : TypeId} {w w' : World} {B lo hi : Nat} {v : Value} {xs : List α} {row : Option Nat} (o : Own E t w B (fun b => lo ≤ b ∧ b < hi) v xs) (hv : ∀ g, v.ownBlock = some g → g < hi) (hg : w.grownBy w' row) (hr : ∀ b, row = some b → hi ≤ b) :
    Own E t w' B (fun b => lo ≤ b ∧ b < hi) v xs := Own.grown o hg fun b e => ⟨fun e2 => by have := hv b e2; have := hr b e; omega, fun hs => by have := hr b e; omega⟩
end Go.Proofs.Ytmgibpedclngpaa
