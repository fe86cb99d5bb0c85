/- Rows of bytes of the call's own, no two in one block; that they are told to be apart. (Printed by wip/gen_sepm.py.) -/
import Derived.Test.YtmgibpedclngpaaAppE
import Derived.Test.YtmgibpedclngpaaSpareA
namespace Go.Proofs.Ytmgibpedclngpaa
open Go.RowKit

/-- a row of bytes: where it lies, what it holds, its room -/
abbrev R3 := Option Addr × List UInt8 × Nat
def R3.v (r : R3) : Value := .slice r.1 r.2.1.length r.2.2
/-- the rows are of the call's own, from block b on; no two of them share a block -/
def Sep (b : Nat) (w : World) (rs : List R3) : Prop :=
  (∀ r ∈ rs, OwnB b w r.1 r.2.1 r.2.2) ∧ rs.Pairwise fun r s => ∀ g, (R3.v r).ownBlock = some g → (R3.v s).ownBlock ≠ some g
section
variable {b b' : Nat} {w w' : World} {rs ss : List R3}
theorem Sep.nil_ (b : Nat) (w : World) : Sep b w [] := ⟨fun _ h => absurd h (by simp), List.Pairwise.nil⟩
theorem Sep.one {A : Option Addr} {l : List UInt8} {c : Nat} (h : OwnB b w A l c) : Sep b w [(A, l, c)] := ⟨fun r hr => by rw [List.mem_singleton.1 hr]; exact h, List.pairwise_singleton _ _⟩
theorem Sep.below (h : Sep b w rs) (hb : Below w.heap.size w w') : Sep b w' rs := ⟨fun r hr => (h.1 r hr).below hb, h.2⟩
theorem Sep.base (h : Sep b w rs) (hb : b' ≤ b) : Sep b' w rs := ⟨fun r hr => (h.1 r hr).base hb, h.2⟩
theorem Sep.kept {row : Option Nat} (h : Sep b w rs) (hg : w.grownBy w' row) (hn : ∀ r ∈ rs, ∀ g, (R3.v r).ownBlock = some g → row ≠ some g) : Sep b w' rs := ⟨fun r hr => (h.1 r hr).kept hg (hn r hr), h.2⟩
theorem Sep.perm (h : Sep b w rs) (hp : rs.Perm ss) : Sep b w ss :=
  ⟨fun r hr => h.1 r (hp.mem_iff.2 hr), (hp.pairwise_iff (fun {_ _} hxy g he he2 => hxy g he2 he)).1 h.2⟩
theorem Sep.sub (h : Sep b w rs) (hs : ss.Sublist rs) : Sep b w ss := ⟨fun r hr => h.1 r (hs.subset hr), h.2.sublist hs⟩
theorem Sep.lt (h : Sep b w rs) : ∀ r ∈ rs, ∀ g, (R3.v r).ownBlock = some g → b ≤ g ∧ g < w.heap.size := fun r hr g he => (h.1 r hr).lt g he
theorem Sep.append (h : Sep b w rs) (k : Sep b w ss) (hd : ∀ r ∈ rs, ∀ s ∈ ss, ∀ g, (R3.v r).ownBlock = some g → (R3.v s).ownBlock ≠ some g) : Sep b w (rs ++ ss) :=
  ⟨fun r hr => (List.mem_append.1 hr).elim (h.1 r) (k.1 r), List.pairwise_append.2 ⟨h.2, k.2, fun r hr s hs g => hd r hr s hs g⟩⟩
/-- new rows behind old ones -/
theorem Sep.more (h : Sep b w rs) (hb : Below w.heap.size w w') (k : Sep w.heap.size w' ss) (hbw : b ≤ w.heap.size) : Sep b w' (rs ++ ss) :=
  (h.below hb).append (k.base hbw) fun r hr s hs g he he2 => by
    have h1 := (h.lt r hr g he).2
    have h2 := (k.lt s hs g he2).1
    omega
theorem Sep.split (h : Sep b w (rs ++ ss)) : Sep b w rs ∧ Sep b w ss ∧ ∀ r ∈ rs, ∀ s ∈ ss, ∀ g, (R3.v r).ownBlock = some g → (R3.v s).ownBlock ≠ some g :=
  ⟨h.sub (List.sublist_append_left _ _), h.sub (List.sublist_append_right _ _), fun r hr s hs g he => (List.pairwise_append.1 h.2).2.2 r hr s hs g he⟩
end
/-- a row of the call's own that holds the rows' slices -/
def RowsIs (b : Nat) (w : World) (A : Option Addr) (c : Nat) (rs : List R3) : Prop := w.ownsRow b 49 1 (.slice A rs.length c) rs.length (rs.map R3.v)
theorem Reads.newK (w : World) (vs : List Value) (t : TypeId) : Reads (w.alloc (.cells vs.toArray t)) (w.heap.size + 1) 1 (some ⟨w.heap.size, 0, none⟩) vs.length vs :=
  ⟨by rw [Nat.mul_one], fun _ => ⟨_, rfl, Nat.lt_succ_self _, fun j u hu => by
    rw [add_row, cell_of_row _ _ _ _ _ _ (heap_alloc_new w _)]
    simpa using hu⟩⟩
theorem wpList_appR (b : Nat) (w0 w : World) {ops : Array Oper} {rest : List Oper} {o : Oper} {a : Act} {Q : Exit → Act → World → Prop} (hgd : o.guard = none) (s x : Operand)
    (ho : o.op = .call { callee := .builtin .append, args := #[s, x], argTypes := #[67, 67] })
    (A : Option Addr) (rs : List R3) (c : Nat) (hs : a.eval s = .slice A rs.length c) (hown : RowsIs b w A c rs)
    (B : Option Addr) (ys : List R3) (d : Nat) (hx : a.eval x = .slice B ys.length d) (Bd : Nat) (hr : Reads w Bd 1 B ys.length (ys.map R3.v)) (hl : rs.length + ys.length ≤ 1000) (hb : Below w0.heap.size w0 w) (hb0 : w0.heap.size ≤ b) (hbw : b ≤ w.heap.size)
    (h : ∀ A' c' rs' w', Hid (rs' = rs ++ ys) → RowsIs b w' A' c' rs' → Below w0.heap.size w0 w' → w.grownBy w' (Value.slice A rs.length c).ownBlock → wpList Try.prog ops Q rest (a.put o.dst (.slice A' rs'.length c')) w') : wpList Try.prog ops Q (o :: rest) a w := by
  obtain ⟨i0, hi0, hz0, hz1, hz2⟩ := info_parts Try.infoBs
  refine wpList_append_sh w hgd s x _ ho b 49 i0 _ 1 24 Try.underlying67 hi0 hz0 hz1 hz2 rfl (by omega) _ _ _ hs hown Bd B ys.length d (ys.map R3.v) hx hr (fun u hu => by obtain ⟨r, _, rfl⟩ := List.mem_map.1 hu; rfl) (by simp only [maxLen]; omega) (by omega) hbw ?_
  intro A' c' w' o' g' _
  have e : rs.length + ys.length = (rs ++ ys).length := by rw [List.length_append]
  rw [e, ← List.map_append] at o'
  rw [e]
  exact h A' c' (rs ++ ys) w' rfl o' (hb.grown g' hb.size fun j hj => by have := (World.ownsRow.lt hown j hj).1; omega) g'
/-- whose a block is -/
def owOf (rs : List R3) (b : Nat) : Nat := rs.findIdx fun r => (R3.v r).ownBlock == some b
theorem owOf_eq {b0 : Nat} {w : World} {rs : List R3} (h : Sep b0 w rs) {i : Nat} (hi : i < rs.length) {b : Nat} (he : (R3.v rs[i]).ownBlock = some b) : owOf rs b = i := by
  unfold owOf
  rw [List.findIdx_eq hi]
  refine ⟨by simp [he], fun j hj => ?_⟩
  have h1 := List.pairwise_iff_getElem.1 h.2 j i (by omega) hi hj
  cases hv : (R3.v rs[j]).ownBlock with
  | none => rfl
  | some g =>
    rw [beq_eq_false_iff_ne]
    intro e
    injection e with e
    subst e
    exact h1 _ hv he
theorem apart_sep (b b0 : Nat) (w : World) (A : Option Addr) (c : Nat) (rs : List R3) (h : RowsIs b w A c rs) (hs : Sep b0 w rs) (h0 : 0 < rs.length) (hl : rs.length ≤ 1000) (hn : ∀ r ∈ rs, r.2.1.length ≤ 140737488355000) (hb : b0 ≤ w.heap.size) :
    Calls Try.prog 26 #[.slice A rs.length c] w fun e w' => e = .returned (.bool true) ∧ Below b0 w w' := by
  obtain ⟨hlen, hcase⟩ := h
  rcases hcase with ⟨_, h1⟩ | ⟨g, cap, cur, hv, hbg, hcur, h2, h3, h4, h5⟩
  · omega
  injection hv with hA hn2 hc
  subst hA hc
  refine apart_any g rs.length c b0 cur (fun i => R3.v (rs.getD i (none, [], 0))) (fun i => (rs.getD i (none, [], 0)).2.1.length) (owOf rs) w hcur (fun i hi => ?_) (by omega) h0 (fun i hi => ?_) (fun i hi => ?_) hb
  · have h6 : (cur.toList.take (rs.length * 1))[i]? = (rs.map R3.v)[i]? := by rw [h5]
    rw [List.getElem?_take_of_lt (by omega), Array.getElem?_toList, List.getElem?_map, List.getElem?_eq_getElem hi] at h6
    rw [h6, List.getD_eq_getElem?_getD, List.getElem?_eq_getElem hi]
    rfl
  · have h6 : rs.getD i (none, [], 0) = rs[i] := by rw [List.getD_eq_getElem?_getD, List.getElem?_eq_getElem hi]; rfl
    show MV w (owOf rs) b0 i (R3.v (rs.getD i (none, [], 0))) (rs.getD i (none, [], 0)).2.1.length 0
    rw [h6]
    exact MV.of_own (hs.1 rs[i] (List.getElem_mem hi)) fun b he => owOf_eq hs hi he
  · have h6 : rs.getD i (none, [], 0) = rs[i] := by rw [List.getD_eq_getElem?_getD, List.getElem?_eq_getElem hi]; rfl
    show (rs.getD i (none, [], 0)).2.1.length ≤ _
    rw [h6]
    exact hn _ (List.getElem_mem hi)
theorem bs_spare {w : World} {g : Nat} {l : List UInt8} (h : Blk w g 5 ((spL l).map bval).toArray) (hl : l.length ≤ 140737488351232) : Bs w (some ⟨g, 0, none⟩) l := by
  refine ⟨⟨by simp, fun _ => ⟨_, rfl, h.lt, fun j u hu => ?_⟩⟩, by omega⟩
  rw [add_row, h.cell, List.getElem?_toArray, List.getElem?_map]
  have hj : j < l.length := by
    have := (List.getElem?_eq_some_iff.1 hu).1
    rwa [List.length_map] at this
  rw [List.getElem?_map] at hu
  rw [spL_lo l j hj, ← hu, List.getElem?_eq_getElem hj]
end Go.Proofs.Ytmgibpedclngpaa
