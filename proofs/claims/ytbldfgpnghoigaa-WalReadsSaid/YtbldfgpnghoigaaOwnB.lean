/- Rows of bytes of the call's own in one word; appends; rows in different blocks. (Printed by wip/gen_ownb.py.) -/
import Derived.Test.YtbldfgpnghoigaaSl
import Derived.Test.YtbldfgpnghoigaaBlk
import Derived.Test.YtbldfgpnghoigaaEqR
import Derived.Lib.AppendStr
namespace Go.Proofs.Ytbldfgpnghoigaa
open Go.RowKit

theorem At.mono' {S S' : Nat → Prop} {A : Option Addr} {n : Nat} (h : At S A n) (hs : ∀ b, S b → S' b) : At S' A n := fun ad e hn => hs _ (h ad e hn)
/-- a row of bytes of the call's own, from block b on -/
def OwnB (b : Nat) (w : World) (A : Option Addr) (l : List UInt8) (c : Nat) : Prop := w.ownsRow b 5 1 (.slice A l.length c) l.length (l.map bval)
section
variable {b b' : Nat} {w w' : World} {A : Option Addr} {l : List UInt8} {c : Nat}
theorem OwnB.nil_ (b : Nat) (w : World) : OwnB b w none [] 0 := World.ownsRow_nil _ _ _ _
theorem OwnB.bs (h : OwnB b w A l c) (hl : l.length ≤ 140737488355328) : Bs w A l := Bs.of_own h hl
theorem OwnB.below (h : OwnB b w A l c) (hb : Below w.heap.size w w') : OwnB b w' A l c := own_below h hb
theorem OwnB.base (h : OwnB b w A l c) (hb : b' ≤ b) : OwnB b' w A l c := by
  refine ⟨h.1, ?_⟩
  rcases h.2 with h2 | ⟨g, cap, cur, h1, h2, h3⟩
  · exact .inl h2
  · exact .inr ⟨g, cap, cur, h1, Nat.le_trans hb h2, h3⟩
theorem OwnB.lt (h : OwnB b w A l c) : ∀ g, (Value.slice A l.length c).ownBlock = some g → b ≤ g ∧ g < w.heap.size := World.ownsRow.lt h
theorem OwnB.caps (h : OwnB b w A l c) : l.length ≤ c ∧ c ≤ 9223372036854775807 := by
  exact own_caps h
theorem OwnB.kept {row : Option Nat} (h : OwnB b w A l c) (hg : w.grownBy w' row) (hv : ∀ g, (Value.slice A l.length c).ownBlock = some g → row ≠ some g) : OwnB b w' A l c := by
  refine ⟨h.1, ?_⟩
  rcases h.2 with h2 | ⟨g, cap, cur, h1, h2, h3, h4⟩
  · exact .inl h2
  · have hne := hv g (by rw [h1]; rfl)
    have hlt : g < w.heap.size := by
      rcases Nat.lt_or_ge g w.heap.size with h5 | h5
      · exact h5
      · rw [Array.getElem?_eq_none h5] at h3; cases h3
    exact .inr ⟨g, cap, cur, h1, h2, by rw [hg.block g hlt (fun e => hne e.symm)]; exact h3, h4⟩
theorem Bs.grown {row : Option Nat} (h : Bs w A l) (hg : w.grownBy w' row) (hr : At (fun b => row ≠ some b) A l.length) : Bs w' A l :=
  h.sameS hr (.of_grown hg fun _ hb e => hb e)
end
theorem ret_own {w w' : World} {A : Option Addr} {l : List UInt8} {c : Nat} (o : OwnB w.heap.size w' A l c) (hb : Below w.heap.size w w') : RetBs l w (.returned (.slice A l.length c)) w' := ⟨A, c, rfl, o, hb⟩

theorem wpList_app (b : Nat) (w0 w : World) {ops : Array Oper} {rest : List Oper} {o : Oper} {a : Act} {Q : Exit → Act → World → Prop} (hgd : o.guard = none) (s x : Operand)
    (ho : o.op = .call { callee := .builtin .append, args := #[s, x], argTypes := #[40, 40] })
    (A : Option Addr) (acc : List UInt8) (c : Nat) (hs : a.eval s = .slice A acc.length c) (hown : OwnB b w A acc c)
    (B : Option Addr) (news : List UInt8) (d : Nat) (hx : a.eval x = .slice B news.length d) (hr : Bs w B news) (hl : acc.length + news.length ≤ 140737488355328) (hb : Below w0.heap.size w0 w) (hb0 : w0.heap.size ≤ b) (hbw : b ≤ w.heap.size)
    (h : ∀ A' c' acc' w', Hid (acc' = acc ++ news) → OwnB b w' A' acc' c' → Below w0.heap.size w0 w' → w.grownBy w' (Value.slice A acc.length c).ownBlock → ((Value.slice A' acc'.length c').ownBlock = (Value.slice A acc.length c).ownBlock ∨ (Value.slice A' acc'.length c').ownBlock = some w.heap.size) → wpList Try.prog ops Q rest (a.put o.dst (.slice A' acc'.length c')) w') : wpList Try.prog ops Q (o :: rest) a w := by
  obtain ⟨i0, hi0, hz0, hz1, hz2⟩ := info_parts Try.infoU8
  refine wpList_append_sh w hgd s x _ ho b 5 i0 _ 1 1 Try.underlying40 hi0 hz0 hz1 hz2 rfl (by omega) _ _ _ hs hown _ B news.length d (news.map bval) hx hr.1 (oneCell_bytes news) (by simp only [maxLen]; omega) (by omega) hbw ?_
  intro A' c' w' o' g' t'
  have e : acc.length + news.length = (acc ++ news).length := by rw [List.length_append]
  rw [e, ← List.map_append] at o'
  rw [e] at t' ⊢
  exact h A' c' (acc ++ news) w' rfl o' (hb.grown g' hb.size fun j hj => by have := (OwnB.lt hown j hj).1; omega) g' t'
theorem step_app (b : Nat) (w0 w : World) {ops : Array Oper} {o : Oper} {a : Act} {K : Act → World → Prop} {Q : Exit → Act → World → Prop} {E : Prop} (hgd : o.guard = none) (s x : Operand)
    (ho : o.op = .call { callee := .builtin .append, args := #[s, x], argTypes := #[40, 40] })
    (A : Option Addr) (acc : List UInt8) (c : Nat) (hs : a.eval s = .slice A acc.length c) (hown : OwnB b w A acc c)
    (B : Option Addr) (news : List UInt8) (d : Nat) (hx : a.eval x = .slice B news.length d) (hr : Bs w B news) (hl : acc.length + news.length ≤ 140737488355328) (hb : Below w0.heap.size w0 w) (hb0 : w0.heap.size ≤ b) (hbw : b ≤ w.heap.size)
    (h : ∀ A' c' acc' w', Hid (acc' = acc ++ news) → OwnB b w' A' acc' c' → Below w0.heap.size w0 w' → w.grownBy w' (Value.slice A acc.length c).ownBlock → ((Value.slice A' acc'.length c').ownBlock = (Value.slice A acc.length c).ownBlock ∨ (Value.slice A' acc'.length c').ownBlock = some w.heap.size) → K (a.put o.dst (.slice A' acc'.length c')) w') :
    if Region.wanted o (yielded ops a.tmps) = true then Oper.wp Try.prog o a w K Q else E := by
  obtain ⟨i0, hi0, hz0, hz1, hz2⟩ := info_parts Try.infoU8
  refine step_append_sh w hgd s x _ ho b 5 i0 _ 1 1 Try.underlying40 hi0 hz0 hz1 hz2 rfl (by omega) _ _ _ hs hown _ B news.length d (news.map bval) hx hr.1 (oneCell_bytes news) (by simp only [maxLen]; omega) (by omega) hbw ?_
  intro A' c' w' o' g' t'
  have e : acc.length + news.length = (acc ++ news).length := by rw [List.length_append]
  rw [e, ← List.map_append] at o'
  rw [e] at t' ⊢
  exact h A' c' (acc ++ news) w' rfl o' (hb.grown g' hb.size fun j hj => by have := (OwnB.lt hown j hj).1; omega) g' t'
theorem wpList_appE {α : Type} (E : ER α) (b : Nat) (w0 w : World) {ops : Array Oper} {rest : List Oper} {o : Oper} {a : Act} {Q : Exit → Act → World → Prop} (hgd : o.guard = none) (s x : Operand) (t ty : TypeId)
    (ho : o.op = .call { callee := .builtin .append, args := #[s, x], argTypes := #[ty, ty] }) (i : TypeInfo) (z : Value) (ht : Try.prog.underlying ty = some (.slice t)) (hi : Try.prog.info? t = some i) (hz : i.zero = some z) (hsize : i.size = E.size) (hby : i.bytes = E.bytes) (hzs : z.cells.size = E.size)
    (S : Nat → Prop) (A : Option Addr) (xs : List α) (c : Nat) (hs : a.eval s = .slice A xs.length c) (hown : Own E t w b S (.slice A xs.length c) xs)
    (B : Option Addr) (us : List Value) (y : α) (d : Nat) (hx : a.eval x = .slice B 1 d) (Bd : Nat) (hr : Reads w Bd E.size B 1 us) (hrep : E.rep w (fun b => S b ∧ (Value.slice A xs.length c).ownBlock ≠ some b) us y)
    (hl : (xs.length + 1) * E.bytes ≤ 140737488355328) (hl2 : xs.length + 1 ≤ maxLen) (hb : Below w0.heap.size w0 w) (hb0 : w0.heap.size ≤ b) (hbw : b ≤ w.heap.size)
    (h : ∀ A' c' xs' w', Hid (xs' = xs ++ [y]) → Own E t w' b S (.slice A' xs'.length c') xs' → Below w0.heap.size w0 w' → w.grownBy w' (Value.slice A xs.length c).ownBlock → ((Value.slice A' xs'.length c').ownBlock = (Value.slice A xs.length c).ownBlock ∨ (Value.slice A' xs'.length c').ownBlock = some w.heap.size) → wpList Try.prog ops Q rest (a.put o.dst (.slice A' xs'.length c')) w') : wpList Try.prog ops Q (o :: rest) a w := by
  have hlt := Own.lt hown
  obtain ⟨vs, hown, hf⟩ := hown
  refine wpList_append_sh w hgd s x ty ho b t i z E.size E.bytes ht hi hz hsize hby hzs E.pos _ _ _ hs hown Bd B 1 d us hx hr (E.one hrep) hl2 hl hbw ?_
  intro A' c' w' o' g' t'
  have e : xs.length + 1 = (xs ++ [y]).length := by rw [List.length_append]; rfl
  have hst := Own.step (S := S) hf hrep o' g' t'
  rw [e] at hst t' ⊢
  exact h A' c' (xs ++ [y]) w' rfl hst (hb.grown g' hb.size fun j hj => by have := (hlt j hj).1; omega) g' t'

/-- lists of bytes as elements -/
def BsE : ER (List UInt8) where
  size := 1
  pos := by omega
  bytes := 24
  bpos := by omega
  rep w S vs x := ∃ D c, vs = [.slice D x.length c] ∧ Bs w D x ∧ At S D x.length ∧ x.length ≤ c ∧ c ≤ 9223372036854775807
  len := by rintro w S vs a ⟨D, c, rfl, _⟩; rfl
  one := by rintro w S vs a ⟨D, c, rfl, _⟩ v hv; simp at hv; subst hv; rfl
  keep := by rintro w w' S vs a ⟨D, c, rfl, h, ha, h2⟩ hs; exact ⟨D, c, rfl, h.sameS ha hs, ha, h2⟩
  mono := by rintro w S S' vs a ⟨D, c, rfl, h, ha, h2⟩ hs; exact ⟨D, c, rfl, h, h.atMono ha hs, h2⟩
theorem BsE.at_ {w : World} {A : Option Addr} {S : Nat → Prop} {l : List (List UInt8)} (h : SlS BsE w S A l) {k : Nat} (hk : k < l.length) :
    ∃ ad D c, A = some ad ∧ ad.block < w.heap.size ∧ w.cell? (ad.add k) = some (.slice D l[k].length c) ∧ Bs w D l[k] ∧ At S D l[k].length ∧ l[k].length ≤ c ∧ c ≤ 9223372036854775807 := by
  obtain ⟨ad, vs, rfl, hb, ⟨D, c, rfl, h1⟩, h4, _, _⟩ := SlS.at_ h hk
  have := h4 _ rfl
  rw [show k * BsE.size = k from Nat.mul_one k] at this
  exact ⟨ad, D, c, rfl, hb, this, h1⟩
theorem OwnB.at_ {b : Nat} {w : World} {A : Option Addr} {l : List UInt8} {c : Nat} (h : OwnB b w A l c) : At (fun g => b ≤ g ∧ g < w.heap.size) A l.length := own_at h
theorem bodyEnd0 {fn : Func} {R : Ending → World → Prop} {a : Act} {w : World} (hr : fn.results = #[]) (hd : a.defers = []) (hR : R (.returned (.tuple #[])) w) : bodyPost Try.prog fn R .normal a w := bodyPost_end (results_none hr _ _ _) hd hR
/-- a text in a row of its own, in blocks of S -/
def OwnS (w : World) (S : Nat → Prop) (A : Option Addr) (l : List UInt8) (c : Nat) : Prop := OwnB 0 w A l c ∧ (∀ b, (Value.slice A l.length c).ownBlock = some b → S b) ∧ l.length ≤ 140737488355328
theorem OwnS.keep {w w' : World} {S : Nat → Prop} {A : Option Addr} {l : List UInt8} {c : Nat} (h : OwnS w S A l c) (hs : Same S w w') : OwnS w' S A l c := by
  obtain ⟨h1, h2, h3⟩ := h
  refine ⟨⟨h1.1, ?_⟩, h2, h3⟩
  rcases h1.2 with h4 | ⟨g, cap, cur, e1, e2, e3, e4⟩
  · exact .inl h4
  · have hg : S g := h2 g (by rw [e1]; rfl)
    have hlt : g < w.heap.size := by
      rcases Nat.lt_or_ge g w.heap.size with h5 | h5
      · exact h5
      · rw [Array.getElem?_eq_none h5] at e3; cases e3
    exact .inr ⟨g, cap, cur, e1, e2, by rw [hs.2 g hg hlt]; exact e3, e4⟩
theorem OwnS.mono {w : World} {S S' : Nat → Prop} {A : Option Addr} {l : List UInt8} {c : Nat} (h : OwnS w S A l c) (hs : ∀ b, b < w.heap.size → S b → S' b) : OwnS w S' A l c := ⟨h.1, fun b hb => hs b (OwnB.lt h.1 b hb).2 (h.2.1 b hb), h.2.2⟩
theorem OwnS.text {w : World} {S : Nat → Prop} {A : Option Addr} {l : List UInt8} {c : Nat} (h : OwnS w S A l c) : Bs w A l ∧ At S A l.length ∧ l.length ≤ c ∧ c ≤ 9223372036854775807 := by
  refine ⟨OwnB.bs h.1 h.2.2, fun ad e hn => ?_, OwnB.caps h.1⟩
  obtain ⟨g, cap, cur, e1, e2, e3, e4⟩ := h.1.2.resolve_left (fun h4 => by have := h4.2; omega)
  injection e1 with e5 e6 e7
  subst e
  injection e5 with e8
  subst e8
  exact h.2.1 g (by rw [e7]; rfl)
theorem OwnS.of {b : Nat} {w : World} {S : Nat → Prop} {A : Option Addr} {l : List UInt8} {c : Nat} (h : OwnB b w A l c) (hl : l.length ≤ 140737488355328) (hs : ∀ g, b ≤ g → g < w.heap.size → S g) : OwnS w S A l c := ⟨OwnB.base h (Nat.zero_le _), fun g hg => hs g (OwnB.lt h g hg).1 (OwnB.lt h g hg).2, hl⟩
/-- a row of bytes: where it lies, what it holds, its room -/
abbrev R3 := Option Addr × List UInt8 × Nat
def R3.v (r : R3) : Value := .slice r.1 r.2.1.length r.2.2
/-- the rows are of the call's own, from block b on; no two of them share a block -/
def Sep (b : Nat) (w : World) (rs : List R3) : Prop :=
  (∀ r ∈ rs, OwnB b w r.1 r.2.1 r.2.2) ∧ rs.Pairwise fun r s => ∀ g, (R3.v r).ownBlock = some g → (R3.v s).ownBlock ≠ some g
section
variable {b b' : Nat} {w w' : World} {rs ss : List R3}
theorem Sep.nil_ (b : Nat) (w : World) : Sep b w [] := ⟨fun _ h => absurd h (by simp), List.Pairwise.nil⟩
theorem Sep.one {A : Option Addr} {l : List UInt8} {c : Nat} (h : OwnB b w A l c) : Sep b w [(A, l, c)] := ⟨fun r hr => by rw [List.mem_singleton.1 hr]; exact h, List.pairwise_singleton _ _⟩
theorem Sep.below (h : Sep b w rs) (hb : Below w.heap.size w w') : Sep b w' rs := ⟨fun r hr => (h.1 r hr).below hb, h.2⟩
theorem Sep.base (h : Sep b w rs) (hb : b' ≤ b) : Sep b' w rs := ⟨fun r hr => (h.1 r hr).base hb, h.2⟩
theorem Sep.kept {row : Option Nat} (h : Sep b w rs) (hg : w.grownBy w' row) (hn : ∀ r ∈ rs, ∀ g, (R3.v r).ownBlock = some g → row ≠ some g) : Sep b w' rs := ⟨fun r hr => (h.1 r hr).kept hg (hn r hr), h.2⟩
theorem Sep.perm (h : Sep b w rs) (hp : rs.Perm ss) : Sep b w ss :=
  ⟨fun r hr => h.1 r (hp.mem_iff.2 hr), (hp.pairwise_iff (fun {_ _} hxy g he he2 => hxy g he2 he)).1 h.2⟩
theorem Sep.sub (h : Sep b w rs) (hs : ss.Sublist rs) : Sep b w ss := ⟨fun r hr => h.1 r (hs.subset hr), h.2.sublist hs⟩
theorem Sep.lt (h : Sep b w rs) : ∀ r ∈ rs, ∀ g, (R3.v r).ownBlock = some g → b ≤ g ∧ g < w.heap.size := fun r hr g he => (h.1 r hr).lt g he
theorem Sep.append (h : Sep b w rs) (k : Sep b w ss) (hd : ∀ r ∈ rs, ∀ s ∈ ss, ∀ g, (R3.v r).ownBlock = some g → (R3.v s).ownBlock ≠ some g) : Sep b w (rs ++ ss) :=
  ⟨fun r hr => (List.mem_append.1 hr).elim (h.1 r) (k.1 r), List.pairwise_append.2 ⟨h.2, k.2, fun r hr s hs g => hd r hr s hs g⟩⟩
/-- new rows behind old ones -/
theorem Sep.more (h : Sep b w rs) (hb : Below w.heap.size w w') (k : Sep w.heap.size w' ss) (hbw : b ≤ w.heap.size) : Sep b w' (rs ++ ss) :=
  (h.below hb).append (k.base hbw) fun r hr s hs g he he2 => by
    have h1 := (h.lt r hr g he).2
    have h2 := (k.lt s hs g he2).1
    omega
theorem Sep.split (h : Sep b w (rs ++ ss)) : Sep b w rs ∧ Sep b w ss ∧ ∀ r ∈ rs, ∀ s ∈ ss, ∀ g, (R3.v r).ownBlock = some g → (R3.v s).ownBlock ≠ some g :=
  ⟨h.sub (List.sublist_append_left _ _), h.sub (List.sublist_append_right _ _), fun r hr s hs g he => (List.pairwise_append.1 h.2).2.2 r hr s hs g he⟩
end
/-- a row of the call's own that holds the rows' slices -/
def RowsIs (b : Nat) (w : World) (A : Option Addr) (c : Nat) (rs : List R3) : Prop := w.ownsRow b 40 1 (.slice A rs.length c) rs.length (rs.map R3.v)
theorem Reads.newK (w : World) (vs : List Value) (t : TypeId) : Reads (w.alloc (.cells vs.toArray t)) (w.heap.size + 1) 1 (some ⟨w.heap.size, 0, none⟩) vs.length vs :=
  ⟨by rw [Nat.mul_one], fun _ => ⟨_, rfl, Nat.lt_succ_self _, fun j u hu => by
    rw [add_row, cell_of_row _ _ _ _ _ _ (heap_alloc_new w _)]
    simpa using hu⟩⟩
theorem wpList_appR (b : Nat) (w0 w : World) {ops : Array Oper} {rest : List Oper} {o : Oper} {a : Act} {Q : Exit → Act → World → Prop} (hgd : o.guard = none) (s x : Operand)
    (ho : o.op = .call { callee := .builtin .append, args := #[s, x], argTypes := #[27, 27] })
    (A : Option Addr) (rs : List R3) (c : Nat) (hs : a.eval s = .slice A rs.length c) (hown : RowsIs b w A c rs)
    (B : Option Addr) (ys : List R3) (d : Nat) (hx : a.eval x = .slice B ys.length d) (Bd : Nat) (hr : Reads w Bd 1 B ys.length (ys.map R3.v)) (hl : rs.length + ys.length ≤ 1000) (hb : Below w0.heap.size w0 w) (hb0 : w0.heap.size ≤ b) (hbw : b ≤ w.heap.size)
    (h : ∀ A' c' rs' w', Hid (rs' = rs ++ ys) → RowsIs b w' A' c' rs' → Below w0.heap.size w0 w' → w.grownBy w' (Value.slice A rs.length c).ownBlock → wpList Try.prog ops Q rest (a.put o.dst (.slice A' rs'.length c')) w') : wpList Try.prog ops Q (o :: rest) a w := by
  obtain ⟨i0, hi0, hz0, hz1, hz2⟩ := info_parts Try.infoBs
  refine wpList_append_sh w hgd s x _ ho b 40 i0 _ 1 24 Try.underlying27 hi0 hz0 hz1 hz2 rfl (by omega) _ _ _ hs hown Bd B ys.length d (ys.map R3.v) hx hr (fun u hu => by obtain ⟨r, _, rfl⟩ := List.mem_map.1 hu; rfl) (by simp only [maxLen]; omega) (by omega) hbw ?_
  intro A' c' w' o' g' _
  have e : rs.length + ys.length = (rs ++ ys).length := by rw [List.length_append]
  rw [e, ← List.map_append] at o'
  rw [e]
  exact h A' c' (rs ++ ys) w' rfl o' (hb.grown g' hb.size fun j hj => by have := (World.ownsRow.lt hown j hj).1; omega) g'
/-- whose a block is -/
def owOf (rs : List R3) (b : Nat) : Nat := rs.findIdx fun r => (R3.v r).ownBlock == some b
theorem owOf_eq {b0 : Nat} {w : World} {rs : List R3} (h : Sep b0 w rs) {i : Nat} (hi : i < rs.length) {b : Nat} (he : (R3.v rs[i]).ownBlock = some b) : owOf rs b = i := by
  unfold owOf
  rw [List.findIdx_eq hi]
  refine ⟨by simp [he], fun j hj => ?_⟩
  have h1 := List.pairwise_iff_getElem.1 h.2 j i (by omega) hi hj
  cases hv : (R3.v rs[j]).ownBlock with
  | none => rfl
  | some g =>
    rw [beq_eq_false_iff_ne]
    intro e
    injection e with e
    subst e
    exact h1 _ hv he
end Go.Proofs.Ytbldfgpnghoigaa
