/- Many elements of another slice appended to a row of the own; an empty literal row. -/
import Derived.Test.YtbldfgpnghoigaaSl
import Derived.Test.YtbldfgpnghoigaaBlkS
namespace Go.Proofs.Ytbldfgpnghoigaa
open Go.RowKit

theorem Own.stepsA {α : Type} {E : ER α} {w w' : World} {S : Nat → Prop} {t : TypeId} {B : Nat} {v v' : Value} {xs ys : List α} {vs us : List Value} (hf : E.flat w (fun b => S b ∧ v.ownBlock ≠ some b) vs xs) (hx : E.flat w (fun b => S b ∧ v.ownBlock ≠ some b) us ys)
    (hown : w'.ownsRow B t E.size v' (xs.length + ys.length) (vs ++ us)) (hg : w.grownBy w' v.ownBlock) (hat : v'.ownBlock = v.ownBlock ∨ v'.ownBlock = some w.heap.size) : Own E t w' B S v' (xs ++ ys) := by
  refine ⟨vs ++ us, by rw [List.length_append]; exact hown, ?_⟩
  have h1 := ER.flat_mono (S' := fun b => (S b ∧ v.ownBlock ≠ some b) ∧ b < w.heap.size) (fun b hl hb => ⟨hb, hl⟩) (ER.flat_append hf hx)
  have h2 := ER.flat_same (.of_grown hg fun b hb => hb.1.2) h1
  refine ER.flat_mono (fun b _ hb => ⟨hb.1.1, ?_⟩) h2
  rcases hat with e | e <;> rw [e]
  · exact hb.1.2
  · intro e; have := Option.some.inj e; omega
theorem wpList_appS {α : Type} (E : ER α) (b : Nat) (w : World) {ops : Array Oper} {rest : List Oper} {o : Oper} {a : Act} {Q : Exit → Act → World → Prop} (hgd : o.guard = none) (s x : Operand) (t ty : TypeId)
    (ho : o.op = .call { callee := .builtin .append, args := #[s, x], argTypes := #[ty, ty] }) (i : TypeInfo) (z : Value) (ht : Try.prog.underlying ty = some (.slice t)) (hi : Try.prog.info? t = some i) (hz : i.zero = some z) (hsize : i.size = E.size) (hby : i.bytes = E.bytes) (hzs : z.cells.size = E.size)
    (S : Nat → Prop) (A : Option Addr) (xs : List α) (c : Nat) (hs : a.eval s = .slice A xs.length c) (hown : Own E t w b S (.slice A xs.length c) xs)
    (B : Option Addr) (ys : List α) (d : Nat) (hx : a.eval x = .slice B ys.length d) (us : List Value) (hru : Reads w w.heap.size E.size B ys.length us) (hrep : E.flat w (fun b => S b ∧ (Value.slice A xs.length c).ownBlock ≠ some b) us ys)
    (hl : (xs.length + ys.length) * E.bytes ≤ 140737488355328) (hl2 : xs.length + ys.length ≤ maxLen) (hbw : b ≤ w.heap.size)
    (h : ∀ A' c' xs' w', Hid (xs' = xs ++ ys) → Own E t w' b S (.slice A' xs'.length c') xs' → w.grownBy w' (Value.slice A xs.length c).ownBlock → ((Value.slice A' xs'.length c').ownBlock = (Value.slice A xs.length c).ownBlock ∨ (Value.slice A' xs'.length c').ownBlock = some w.heap.size) → wpList Try.prog ops Q rest (a.put o.dst (.slice A' xs'.length c')) w') : wpList Try.prog ops Q (o :: rest) a w := by
  obtain ⟨vs, hown, hf⟩ := hown
  refine wpList_append_sh w hgd s x ty ho b t i z E.size E.bytes ht hi hz hsize hby hzs E.pos _ _ _ hs hown _ B ys.length d us hx hru (ER.flat_one hrep) hl2 hl hbw ?_
  intro A' c' w' o' g' t'
  have hst := Own.stepsA (S := S) hf hrep o' g' t'
  have e : xs.length + ys.length = (xs ++ ys).length := by rw [List.length_append]
  rw [e] at hst t' ⊢
  exact h A' c' (xs ++ ys) w' rfl hst g' t'
theorem step_appS {α : Type} (E : ER α) (b : Nat) (w : World) {ops : Array Oper} {o : Oper} {a : Act} {K : Act → World → Prop} {Q : Exit → Act → World → Prop} {X : Prop} (hgd : o.guard = none) (s x : Operand) (t ty : TypeId)
    (ho : o.op = .call { callee := .builtin .append, args := #[s, x], argTypes := #[ty, ty] }) (i : TypeInfo) (z : Value) (ht : Try.prog.underlying ty = some (.slice t)) (hi : Try.prog.info? t = some i) (hz : i.zero = some z) (hsize : i.size = E.size) (hby : i.bytes = E.bytes) (hzs : z.cells.size = E.size)
    (S : Nat → Prop) (A : Option Addr) (xs : List α) (c : Nat) (hs : a.eval s = .slice A xs.length c) (hown : Own E t w b S (.slice A xs.length c) xs)
    (B : Option Addr) (ys : List α) (d : Nat) (hx : a.eval x = .slice B ys.length d) (us : List Value) (hru : Reads w w.heap.size E.size B ys.length us) (hrep : E.flat w (fun b => S b ∧ (Value.slice A xs.length c).ownBlock ≠ some b) us ys)
    (hl : (xs.length + ys.length) * E.bytes ≤ 140737488355328) (hl2 : xs.length + ys.length ≤ maxLen) (hbw : b ≤ w.heap.size)
    (h : ∀ A' c' xs' w', Hid (xs' = xs ++ ys) → Own E t w' b S (.slice A' xs'.length c') xs' → w.grownBy w' (Value.slice A xs.length c).ownBlock → ((Value.slice A' xs'.length c').ownBlock = (Value.slice A xs.length c).ownBlock ∨ (Value.slice A' xs'.length c').ownBlock = some w.heap.size) → K (a.put o.dst (.slice A' xs'.length c')) w') :
    if Region.wanted o (yielded ops a.tmps) = true then Oper.wp Try.prog o a w K Q else X := by
  obtain ⟨vs, hown, hf⟩ := hown
  refine step_append_sh w hgd s x ty ho b t i z E.size E.bytes ht hi hz hsize hby hzs E.pos _ _ _ hs hown _ B ys.length d us hx hru (ER.flat_one hrep) hl2 hl hbw ?_
  intro A' c' w' o' g' t'
  have hst := Own.stepsA (S := S) hf hrep o' g' t'
  have e : xs.length + ys.length = (xs ++ ys).length := by rw [List.length_append]
  rw [e] at hst t' ⊢
  exact h A' c' (xs ++ ys) w' rfl hst g' t'
theorem Own.empty {α : Type} (E : ER α) {X : World} {g base : Nat} {t : TypeId} {S : Nat → Prop} (h : Blk X g t #[]) (hb : base ≤ g) : Own E t X base S (.slice (some ⟨g, 0, none⟩) 0 0) [] :=
  ⟨[], ⟨by simp, .inr ⟨g, 0, #[], rfl, hb, h, Nat.le_refl _, Nat.zero_le _, by simp, by simp⟩⟩, rfl⟩
theorem SlS.parts {α : Type} {E : ER α} {w : World} {S : Nat → Prop} {A : Option Addr} {xs : List α} (h : SlS E w S A xs) : ∃ us, Reads w w.heap.size E.size A xs.length us ∧ E.flat w S us xs := by
  obtain ⟨_, us, h1, _, h2⟩ := h
  exact ⟨us, h1, h2⟩
end Go.Proofs.Ytbldfgpnghoigaa
