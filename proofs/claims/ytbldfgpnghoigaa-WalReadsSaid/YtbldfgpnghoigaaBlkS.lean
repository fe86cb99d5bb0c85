/- A struct in a block of its own, stored or loaded whole inside a region that draws its order. -/
import Derived.Test.YtbldfgpnghoigaaBlk
namespace Go.Proofs.Ytbldfgpnghoigaa
open Go.RowKit
section
variable {P : Program}
theorem step_store_blk {ops : Array Oper} {op : Oper} {a : Act} {w : World} {K : Act → World → Prop} {Q : Exit → Act → World → Prop} {E : Prop} (hgd : op.guard = none) (ty : TypeId) (x y : Operand) (ho : op.op = .store ty x y)
    (g : Nat) (t : TypeId) (cs cs' : Array Value) (hx : a.eval x = .pointer (some ⟨g, 0, none⟩)) (hy : a.eval y = .agg cs') (hb : Blk w g t cs) {n : Nat}
    (hi : (P.info? ty).map (·.size) = some n) (hn1 : cs.size = n) (hn2 : cs'.size = n) (h1 : cs'.all (·.oneCell') = true)
    (h : ∀ w', Blk w' g t cs' → w.grownBy w' (some g) → w'.heap.size = w.heap.size → K (a.put op.dst undef) w') :
    if Region.wanted op (yielded ops a.tmps) = true then Oper.wp P op a w K Q else E := by
  have hw : Region.wanted op (yielded ops a.tmps) = true := by simp [Region.wanted, hgd]
  rw [if_pos hw]
  refine wp_store_mid ty x y ho g 0 cs' hx hy (hb.there (by omega)) (by rw [hi, hn2]) h1 ?_
  obtain ⟨h2, h3⟩ := setCells_grown (g := g) cs'.toList 0 w
  obtain ⟨c2, h4, h5, _, h6⟩ := setCells_blk cs'.toList 0 w cs hb
  refine h _ ?_ h2 h3
  have e : c2 = cs' := by
    apply Array.ext_getElem?
    intro i
    by_cases hi : i < cs'.size
    · have := h6 i (by simpa using hi) (by omega)
      rw [Nat.zero_add] at this
      rw [this]; simp
    · rw [Array.getElem?_eq_none (by omega), Array.getElem?_eq_none (by omega)]
  rw [e] at h4; exact h4

theorem step_load_blk {ops : Array Oper} {o : Oper} {a : Act} {w : World} {K : Act → World → Prop} {Q : Exit → Act → World → Prop} {E : Prop} (hgd : o.guard = none) (ty : TypeId) (x : Operand) (ho : o.op = .load ty x)
    (g : Nat) (hx : a.eval x = .pointer (some ⟨g, 0, none⟩)) (t : TypeId) (cs : Array Value) (d : TypeDesc) (hb : Blk w g t cs)
    (hu : P.underlying ty = some d) (hd : (match d with | .struct _ | .array _ _ => true | _ => false) = true) {n : Nat} (hi : (P.info? ty).map (·.size) = some n) (hn : cs.size = n)
    (h : K (a.put o.dst (.agg cs)) w) : if Region.wanted o (yielded ops a.tmps) = true then Oper.wp P o a w K Q else E := by
  have hw : Region.wanted o (yielded ops a.tmps) = true := by simp [Region.wanted, hgd]
  rw [if_pos hw]
  exact wp_load_row ty x ho g hx t cs (0, 0) d hb hu hd (by rw [hi, hn]) h
end
theorem Blk.drew_ {w : World} {g : Nat} {t : TypeId} {cs : Array Value} (h : Blk w g t cs) : Blk w.drew g t cs := h
theorem Below.drew_ {a w : World} (h : Below a.heap.size a w) : Below a.heap.size a w.drew := h.drew
end Go.Proofs.Ytbldfgpnghoigaa
