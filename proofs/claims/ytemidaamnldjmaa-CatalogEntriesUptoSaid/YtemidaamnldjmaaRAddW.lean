/- Words for memory behind calls, draws and appends. -/
import Derived.Test.YtemidaamnldjmaaAdd
import Derived.Test.YtemidaamnldjmaaRCat
import Derived.Deep.RegionLaw
namespace Go.Proofs.Ytemidaamnldjmaa
open Go.RowKit

theorem own_empty {X : World} {g base size : Nat} {t : TypeId} (h : Blk X g t #[]) (hb : base ≤ g) : X.ownsRow base t size (.slice (some ⟨g, 0, none⟩) 0 0) 0 [] :=
  ⟨by simp, .inr ⟨g, 0, #[], rfl, hb, h, by omega, by simp [maxLen], by simp, by simp⟩⟩
theorem Reads.of_blk {w : World} {g n : Nat} {t : TypeId} {vs : List Value} (h : Blk w g t vs.toArray) (hn : vs.length = n) : Reads w w.heap.size n (some ⟨g, 0, none⟩) 1 vs :=
  ⟨by omega, fun _ => ⟨_, rfl, h.lt, fun j u hu => by rw [add_row, h.cell]; simpa using hu⟩⟩
theorem Blk.new2 (w : World) (A : Obj) (t : TypeId) (cs : Array Value) : Blk ((w.alloc A).alloc (.cells cs t)) (w.heap.size + 1) t cs := heap_alloc2_new w A _
theorem step_append_one {P : Program} (w : World) {ops : Array Oper} {o : Oper} {a : Act} {K : Act → World → Prop} {Q : Exit → Act → World → Prop} {E : Prop} (hgd : o.guard = none) (s x : Operand) (t : TypeId)
    (ho : o.op = .call { callee := .builtin .append, args := #[s, x], argTypes := #[t, t] })
    (base : Nat) (e : TypeId) (i : TypeInfo) (z : Value) (size bytes : Nat) (ht : P.underlying t = some (.slice e)) (hi : P.info? e = some i) (hz : i.zero = some z)
    (hsize : i.size = size) (hby : i.bytes = bytes) (hzs : z.cells.size = size) (hsz : 0 < size)
    (v : Value) (n : Nat) (xs : List Value) (hs : a.eval s = v) (hown : w.ownsRow base e size v n xs)
    (g c : Nat) (t' : TypeId) (news : List Value) (hx : a.eval x = .slice (some ⟨g, 0, none⟩) 1 c) (hr : Blk w g t' news.toArray) (hn : news.length = size) (h1 : ∀ u ∈ news, u.oneCell' = true)
    (h63 : n + 1 ≤ maxLen) (hbytes : (n + 1) * bytes ≤ 140737488355328) (hbase : base ≤ w.heap.size)
    (h : ∀ A' c' w', w'.ownsRow base e size (.slice A' (n + 1) c') (n + 1) (xs ++ news) → w.grownBy w' v.ownBlock → ((Value.slice A' (n + 1) c').ownBlock = v.ownBlock ∨ (Value.slice A' (n + 1) c').ownBlock = some w.heap.size) → K (a.put o.dst (.slice A' (n + 1) c')) w') :
    if Region.wanted o (yielded ops a.tmps) = true then Oper.wp P o a w K Q else E :=
  step_append_sh w hgd s x t ho base e i z size bytes ht hi hz hsize hby hzs hsz v n xs hs hown w.heap.size _ 1 c news hx (Reads.of_blk hr hn) h1 h63 hbytes hbase h
theorem Below.alloc_ {a w : World} (h : Below a.heap.size a w) (o : Obj) : Below a.heap.size a (w.alloc o) := h.alloc h.size o
theorem Below.grown_ {a w w' : World} {row : Option Nat} (h : Below a.heap.size a w) (hg : w.grownBy w' row) (hr : ∀ j, row = some j → a.heap.size ≤ j) : Below a.heap.size a w' := h.grown hg h.size hr
theorem le_own0 {a : World} {g c n : Nat} (h : a.heap.size ≤ g) : ∀ j, (Value.slice (some ⟨g, 0, none⟩) n c).ownBlock = some j → a.heap.size ≤ j := fun j hj => by
  have hq : g = j := Option.some.inj hj
  subst hq
  exact h
theorem ne_own0 {g g0 c n : Nat} (h : g ≠ g0) : some g ≠ (Value.slice (some ⟨g0, 0, none⟩) n c).ownBlock := fun e => h (Option.some.inj e)
theorem Below.call_ {a X w' : World} (h : Below a.heap.size a X) (b : Below X.heap.size X w') : Below a.heap.size a w' := h.trans (b.mono h.size)
theorem own_call {a X w' : World} {e : TypeId} {s n : Nat} {v : Value} {xs : List Value} (h : Below a.heap.size a X) (o : w'.ownsRow X.heap.size e s v n xs) : w'.ownsRow a.heap.size e s v n xs := own_mono o h.size
theorem Below.grownO {a X w' : World} {e : TypeId} {s n : Nat} {v : Value} {xs : List Value} (h : Below a.heap.size a X) (ho : X.ownsRow a.heap.size e s v n xs) (hg : X.grownBy w' v.ownBlock) : Below a.heap.size a w' := h.grown hg h.size (fun j hj => (ho.lt j hj).1)
theorem own_kept2 {X w' : World} {b b' : Nat} {e e' : TypeId} {s n s' n' : Nat} {v v' : Value} {xs xs' : List Value} (h : X.ownsRow b e s v n xs) (h' : X.ownsRow b' e' s' v' n' xs') (hg : X.grownBy w' v'.ownBlock) (hne : e ≠ e') : w'.ownsRow b e s v n xs := h.kept hg (own_own_ne h h' hne)
theorem own_drew {X : World} {b : Nat} {e : TypeId} {s n : Nat} {v : Value} {xs : List Value} (h : X.ownsRow b e s v n xs) : X.drew.ownsRow b e s v n xs := own_below h ((Below.refl _ _).drew)
theorem Blk.call_ {X w' : World} {g : Nat} {t : TypeId} {cs : Array Value} (h : Blk X g t cs) (b : Below X.heap.size X w') : Blk w' g t cs := h.below b h.lt
end Go.Proofs.Ytemidaamnldjmaa
