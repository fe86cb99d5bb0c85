/- Bytes appended to bytes of the call's own: one word for the step. -/
import Derived.Test.YtfededjcadmpbaaDoorMem
import Derived.Test.YtfededjcadmpbaaDoorBlk
namespace Go.Proofs.YtfededjcadmpbaaDoor
open Go.RowKit

/-- a row of bytes of the call's own, from block b on -/
def OwnB (b : Nat) (w : World) (A : Option Addr) (l : List UInt8) (c : Nat) : Prop := w.ownsRow b 5 1 (.slice A l.length c) l.length (l.map bval)
section
variable {b b' : Nat} {w w' : World} {A : Option Addr} {l : List UInt8} {c : Nat}
theorem OwnB.nil_ (b : Nat) (w : World) : OwnB b w none [] 0 := World.ownsRow_nil _ _ _ _
theorem OwnB.bs (h : OwnB b w A l c) (hl : l.length ≤ 140737488355328) : Bs w A l := Bs.of_own h hl
theorem OwnB.below (h : OwnB b w A l c) (hb : Below w.heap.size w w') : OwnB b w' A l c := own_below h hb
theorem OwnB.base (h : OwnB b w A l c) (hb : b' ≤ b) : OwnB b' w A l c := by
  refine ⟨h.1, ?_⟩
  rcases h.2 with h2 | ⟨g, cap, cur, h1, h2, h3⟩
  · exact .inl h2
  · exact .inr ⟨g, cap, cur, h1, Nat.le_trans hb h2, h3⟩
theorem OwnB.lt (h : OwnB b w A l c) : ∀ g, (Value.slice A l.length c).ownBlock = some g → b ≤ g ∧ g < w.heap.size := World.ownsRow.lt h
theorem OwnB.caps (h : OwnB b w A l c) : l.length ≤ c ∧ c ≤ 9223372036854775807 := by
  exact own_caps h
theorem OwnB.kept {row : Option Nat} (h : OwnB b w A l c) (hg : w.grownBy w' row) (hv : ∀ g, (Value.slice A l.length c).ownBlock = some g → row ≠ some g) : OwnB b w' A l c := by
  refine ⟨h.1, ?_⟩
  rcases h.2 with h2 | ⟨g, cap, cur, h1, h2, h3, h4⟩
  · exact .inl h2
  · have hne := hv g (by rw [h1]; rfl)
    have hlt : g < w.heap.size := by
      rcases Nat.lt_or_ge g w.heap.size with h5 | h5
      · exact h5
      · rw [Array.getElem?_eq_none h5] at h3; cases h3
    exact .inr ⟨g, cap, cur, h1, h2, by rw [hg.block g hlt (fun e => hne e.symm)]; exact h3, h4⟩
theorem Bs.grown {row : Option Nat} (h : Bs w A l) (hg : w.grownBy w' row) (hr : At (fun b => row ≠ some b) A l.length) : Bs w' A l :=
  h.sameS hr (.of_grown hg fun _ hb e => hb e)
end
theorem ret_own {w w' : World} {A : Option Addr} {l : List UInt8} {c : Nat} (o : OwnB w.heap.size w' A l c) (hb : Below w.heap.size w w') : RetBs l w (.returned (.slice A l.length c)) w' := ⟨A, c, rfl, o, hb⟩

theorem wpList_app (b : Nat) (w0 w : World) {ops : Array Oper} {rest : List Oper} {o : Oper} {a : Act} {Q : Exit → Act → World → Prop} (hgd : o.guard = none) (s x : Operand)
    (ho : o.op = .call { callee := .builtin .append, args := #[s, x], argTypes := #[31, 31] })
    (A : Option Addr) (acc : List UInt8) (c : Nat) (hs : a.eval s = .slice A acc.length c) (hown : OwnB b w A acc c)
    (B : Option Addr) (news : List UInt8) (d : Nat) (hx : a.eval x = .slice B news.length d) (hr : Bs w B news) (hl : acc.length + news.length ≤ 140737488355328) (hb : Below w0.heap.size w0 w) (hb0 : w0.heap.size ≤ b) (hbw : b ≤ w.heap.size)
    (h : ∀ A' c' acc' w', Hid (acc' = acc ++ news) → OwnB b w' A' acc' c' → Below w0.heap.size w0 w' → w.grownBy w' (Value.slice A acc.length c).ownBlock → ((Value.slice A' acc'.length c').ownBlock = (Value.slice A acc.length c).ownBlock ∨ (Value.slice A' acc'.length c').ownBlock = some w.heap.size) → wpList Tryd.prog ops Q rest (a.put o.dst (.slice A' acc'.length c')) w') : wpList Tryd.prog ops Q (o :: rest) a w := by
  obtain ⟨i0, hi0, hz0, hz1, hz2⟩ := info_parts Tryd.infoU8
  refine wpList_append_sh w hgd s x _ ho b 5 i0 _ 1 1 Tryd.underlying31 hi0 hz0 hz1 hz2 rfl (by omega) _ _ _ hs hown _ B news.length d (news.map bval) hx hr.1 (oneCell_bytes news) (by simp only [maxLen]; omega) (by omega) hbw ?_
  intro A' c' w' o' g' t'
  have e : acc.length + news.length = (acc ++ news).length := by rw [List.length_append]
  rw [e, ← List.map_append] at o'
  rw [e] at t' ⊢
  exact h A' c' (acc ++ news) w' rfl o' (hb.grown g' hb.size fun j hj => by have := (OwnB.lt hown j hj).1; omega) g' t'
theorem step_app (b : Nat) (w0 w : World) {ops : Array Oper} {o : Oper} {a : Act} {K : Act → World → Prop} {Q : Exit → Act → World → Prop} {E : Prop} (hgd : o.guard = none) (s x : Operand)
    (ho : o.op = .call { callee := .builtin .append, args := #[s, x], argTypes := #[31, 31] })
    (A : Option Addr) (acc : List UInt8) (c : Nat) (hs : a.eval s = .slice A acc.length c) (hown : OwnB b w A acc c)
    (B : Option Addr) (news : List UInt8) (d : Nat) (hx : a.eval x = .slice B news.length d) (hr : Bs w B news) (hl : acc.length + news.length ≤ 140737488355328) (hb : Below w0.heap.size w0 w) (hb0 : w0.heap.size ≤ b) (hbw : b ≤ w.heap.size)
    (h : ∀ A' c' acc' w', Hid (acc' = acc ++ news) → OwnB b w' A' acc' c' → Below w0.heap.size w0 w' → w.grownBy w' (Value.slice A acc.length c).ownBlock → ((Value.slice A' acc'.length c').ownBlock = (Value.slice A acc.length c).ownBlock ∨ (Value.slice A' acc'.length c').ownBlock = some w.heap.size) → K (a.put o.dst (.slice A' acc'.length c')) w') :
    if Region.wanted o (yielded ops a.tmps) = true then Oper.wp Tryd.prog o a w K Q else E := by
  obtain ⟨i0, hi0, hz0, hz1, hz2⟩ := info_parts Tryd.infoU8
  refine step_append_sh w hgd s x _ ho b 5 i0 _ 1 1 Tryd.underlying31 hi0 hz0 hz1 hz2 rfl (by omega) _ _ _ hs hown _ B news.length d (news.map bval) hx hr.1 (oneCell_bytes news) (by simp only [maxLen]; omega) (by omega) hbw ?_
  intro A' c' w' o' g' t'
  have e : acc.length + news.length = (acc ++ news).length := by rw [List.length_append]
  rw [e, ← List.map_append] at o'
  rw [e] at t' ⊢
  exact h A' c' (acc ++ news) w' rfl o' (hb.grown g' hb.size fun j hj => by have := (OwnB.lt hown j hj).1; omega) g' t'
end Go.Proofs.YtfededjcadmpbaaDoor
