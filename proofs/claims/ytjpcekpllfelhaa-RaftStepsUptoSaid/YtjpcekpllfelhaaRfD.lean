/- A lone node's add: an entry at the end of its log. (Printed by wip/gen_rfd.py.) -/
import Derived.Test.YtjpcekpllfelhaaRfN
import Derived.Deep.DeepCutAuto
namespace Go.Proofs.Ytjpcekpllfelhaa
open Go.RowKit

theorem step_appN {α : Type} (E : ER α) (w : World) {ops : Array Oper} {o : Oper} {a : Act} {K : Act → World → Prop} {Q : Exit → Act → World → Prop} {X : Prop} (hgd : o.guard = none) (s x : Operand) (t ty : TypeId)
    (ho : o.op = .call { callee := .builtin .append, args := #[s, x], argTypes := #[ty, ty] }) (i : TypeInfo) (z : Value) (ht : Try.prog.underlying ty = some (.slice t)) (hi : Try.prog.info? t = some i) (hz : i.zero = some z) (hsize : i.size = E.size) (hby : i.bytes = E.bytes) (hzs : z.cells.size = E.size)
    (S : Nat → Prop) (A : Option Addr) (xs : List α) (c : Nat) (hs : a.eval s = .slice A xs.length c) (hown : Own E t w 0 S (.slice A xs.length c) xs)
    (B : Option Addr) (us : List Value) (y : α) (d : Nat) (hx : a.eval x = .slice B 1 d) (Bd : Nat) (hr : Reads w Bd E.size B 1 us) (hrep : E.rep w (fun b => S b ∧ (Value.slice A xs.length c).ownBlock ≠ some b) us y)
    (hl : (xs.length + 1) * E.bytes ≤ 140737488355328) (hl2 : xs.length + 1 ≤ maxLen)
    (h : ∀ A' c' xs' w', Hid (xs' = xs ++ [y]) → Own E t w' 0 S (.slice A' xs'.length c') xs' → w.grownBy w' (Value.slice A xs.length c).ownBlock → ((Value.slice A' xs'.length c').ownBlock = (Value.slice A xs.length c).ownBlock ∨ (Value.slice A' xs'.length c').ownBlock = some w.heap.size) → K (a.put o.dst (.slice A' xs'.length c')) w') :
    if Region.wanted o (yielded ops a.tmps) = true then Oper.wp Try.prog o a w K Q else X := by
  have hlt := Own.lt hown
  obtain ⟨vs, hown, hf⟩ := hown
  refine step_append_sh w hgd s x ty ho 0 t i z E.size E.bytes ht hi hz hsize hby hzs E.pos _ _ _ hs hown Bd B 1 d us hx hr (E.one hrep) hl2 hl (Nat.zero_le _) ?_
  intro A' c' w' o' g' t'
  have e : xs.length + 1 = (xs ++ [y]).length := by rw [List.length_append]; rfl
  have hst := Own.step (S := S) hf hrep o' g' t'
  rw [e] at hst t' ⊢
  exact h A' c' (xs ++ [y]) w' rfl hst g' t'
section
variable {w w' : World} {g : Nat} {S : Nat → Prop} {E V M X : Value} {d d' : LNode}
/-- what is new is as good as the node's -/
theorem NodeAt.wide (h : NodeAt w g S E V M X d) (hb : Below w.heap.size w w') : NodeAt w' g (fun b => S b ∨ (w.heap.size ≤ b ∧ b < w'.heap.size)) E V M X d := by
  have h' := h.below hb
  refine ⟨h'.blk, h'.log.mono fun b _ _ hs => .inl hs, h'.vot, h'.mat, h'.nxt, h.mx, fun b hs => ?_, fun b hs => ?_⟩
  · rcases hs with hs | ⟨h1, h2⟩
    · exact h.sd b hs
    · exact ⟨fun e => by have := h.blk.lt; omega, fun e => by have := (h.vot.lt b e).2; omega, fun e => by have := (h.mat.lt b e).2; omega, fun e => by have := (h.nxt.lt b e).2; omega⟩
  · rcases hs with hs | ⟨h1, h2⟩
    · exact h'.sl b hs
    · exact h2
/-- the log has grown, and stands in the node -/
theorem NodeAt.app {E' : Value} {L : List LEnt} (h : NodeAt w g S E V M X d) (hg : w.grownBy w' E.ownBlock) (o : Own EntE 44 w' 0 S E' L) (ha : E'.ownBlock = E.ownBlock ∨ E'.ownBlock = some w.heap.size) :
    NodeAt (w'.setCell ⟨g, 4, none⟩ E') g S E' V M X { d with log := L } := by
  have hgl := h.blk.lt
  have hEg : E.ownBlock ≠ some g := h.log.ne_blk h.blk (by decide)
  have hE'g : E'.ownBlock ≠ some g := by
    rcases ha with e | e <;> rw [e]
    · exact hEg
    · intro e; have := Option.some.inj e; omega
  have k1 := h.blk.grown hg (fun e => hEg e.symm)
  have sd := h.sd
  refine ⟨k1.set_ 4 E', o.setCell hE'g (fun hs => (sd g hs).1 rfl) _, ?_, ?_, ?_, h.mx, h.sd, fun b hs => by rw [World.size_setCell]; exact Nat.lt_of_lt_of_le (h.sl b hs) hg.size⟩
  · refine (h.vot.same hg ?_ fun b hs => hs.elim).setCell (h.vot.ne_blk h.blk (by decide)) (fun hs => hs.elim) _
    cases e : V.ownBlock with
    | none => exact .inl rfl
    | some b => exact .inr fun e2 => h.vot.ne_own h.log (by decide) b e e2.symm
  · refine (h.mat.same hg ?_ fun b hs => hs.elim).setCell (h.mat.ne_blk h.blk (by decide)) (fun hs => hs.elim) _
    cases e : M.ownBlock with
    | none => exact .inl rfl
    | some b => exact .inr fun e2 => h.mat.ne_own h.log (by decide) b e e2.symm
  · refine (h.nxt.same hg ?_ fun b hs => hs.elim).setCell (h.nxt.ne_blk h.blk (by decide)) (fun hs => hs.elim) _
    cases e : X.ownBlock with
    | none => exact .inl rfl
    | some b => exact .inr fun e2 => h.nxt.ne_own h.log (by decide) b e e2.symm
/-- match[0] turns -/
theorem NodeAt.setM {gm c m x : Nat} (h : NodeAt w g S E V (.slice (some ⟨gm, 0, none⟩) 1 c) X d) (hm : d.mat = [m]) (hx : x ≤ 18446744073709551615) :
    NodeAt (w.setCell ⟨gm, 0, none⟩ (.int .u64 (x : Int))) g S E V (.slice (some ⟨gm, 0, none⟩) 1 c) X { d with mat := [x] } := by
  have hmo : (Value.slice (some ⟨gm, 0, none⟩) 1 c).ownBlock = some gm := rfl
  have hgm : g ≠ gm := fun e => by subst e; exact h.mat.ne_blk h.blk (by decide) rfl
  have hmat := h.mat
  rw [hm] at hmat
  have o := Own.turn (E := NE) (k := 0) (j := 0) (u := .int .u64 (x : Int)) (y := x) hmat (by simp) (by decide) (fun v hv => by
    obtain ⟨rfl, _⟩ := hv
    exact ⟨rfl, hx⟩)
  refine ⟨h.blk.far hgm _, h.log.setCell (fun e => h.log.ne_own h.mat (by decide) gm e rfl) (fun hs => (h.sd gm hs).2.2.1 rfl) _, h.vot.setCell (fun e => h.vot.ne_own h.mat (by decide) gm e rfl) (fun hs => hs.elim) _, o, h.nxt.setCell (h.mx gm rfl) (fun hs => hs.elim) _, h.mx, h.sd, fun b hs => by rw [World.size_setCell]; exact h.sl b hs⟩
theorem NodeAt.matCell {gm c m : Nat} (h : NodeAt w g S E V (.slice (some ⟨gm, 0, none⟩) 1 c) X d) (hm : d.mat = [m]) : w.cell? ⟨gm, 0, none⟩ = some (.int .u64 (m : Int)) ∧ w.frozen? ⟨gm, 0, none⟩ = false ∧ gm < w.heap.size := by
  obtain ⟨vs, h1, h2⟩ := h.mat
  rw [hm] at h1 h2
  obtain ⟨v, r, rfl, ⟨rfl, _⟩, rfl⟩ := h2
  refine ⟨?_, h1.frozenAt 0, (h.mat.lt gm rfl).2⟩
  rw [h1.cellAt 0 (by decide)]
  rfl
end
theorem termAt_last (d : LNode) (L : List LEnt) (e : LEnt) (h : d.log = L ++ [e]) : termAt d (lastN d) = (e.term, true) := by
  have hl : d.log.length = L.length + 1 := by rw [h, List.length_append]; rfl
  unfold termAt lastN
  rw [if_neg (by omega), if_neg (by omega)]
  have : d.base + d.log.length - d.base - 1 = L.length := by omega
  rw [this, h, List.getD_eq_getElem?_getD, List.getElem?_append_right (Nat.le_refl _), Nat.sub_self]
  rfl
end Go.Proofs.Ytjpcekpllfelhaa
