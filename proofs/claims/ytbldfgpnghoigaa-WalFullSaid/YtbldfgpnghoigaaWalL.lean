/- A log in memory: its block, its segments' row (maybe cut at its beginning), its disk. -/
import Derived.Test.YtbldfgpnghoigaaWalQ
import Derived.Deep.AppendSrc
namespace Go.Proofs.Ytbldfgpnghoigaa
open Go.RowKit

def segV (n : Nat) : Value := .int .u64 (n : Int)
/-- the row of a log's segments -/
def SegAt (w : World) (v : Value) (sg : List Nat) : Prop :=
  (∀ n ∈ sg, n < 18446744073709551616) ∧ ((v = .slice none 0 0 ∧ sg = []) ∨ ∃ g k cap cur, v = .slice (some ⟨g, k, none⟩) sg.length cap ∧ Blk w g 82 cur ∧ sg.length ≤ cap ∧ k + cap = cur.size ∧ cap ≤ maxLen ∧ ∀ i (h : i < sg.length), cur[k + i]? = some (segV sg[i]))
section
variable {w w' : World} {v : Value} {sg : List Nat}
theorem SegAt.nil_ (w : World) : SegAt w (.slice none 0 0) [] := ⟨fun _ h => (by cases h), Or.inl ⟨rfl, rfl⟩⟩
theorem SegAt.shape (h : SegAt w v sg) : ∃ A c, v = .slice A sg.length c := by
  rcases h.2 with ⟨rfl, rfl⟩ | ⟨g, k, cap, cur, rfl, _⟩
  · exact ⟨_, _, rfl⟩
  · exact ⟨_, _, rfl⟩
theorem SegAt.lt (h : SegAt w v sg) {g : Nat} (hg : v.ownBlock = some g) : g < w.heap.size := by
  rcases h.2 with ⟨rfl, _⟩ | ⟨g', k, cap, cur, rfl, hb, _⟩
  · cases hg
  · obtain rfl : g' = g := Option.some.inj hg
    exact hb.lt
theorem SegAt.same (h : SegAt w v sg) (hb : ∀ g, v.ownBlock = some g → w'.heap[g]? = w.heap[g]?) : SegAt w' v sg := by
  refine ⟨h.1, ?_⟩
  rcases h.2 with h | ⟨g, k, cap, cur, rfl, h1, h2⟩
  · exact .inl h
  · exact .inr ⟨g, k, cap, cur, rfl, (hb g rfl).trans h1, h2⟩
theorem SegAt.below (h : SegAt w v sg) (hb : Below w.heap.size w w') : SegAt w' v sg := h.same fun g hg => hb.block g (h.lt hg)
theorem SegAt.blp {F : Nat → Prop} (h : SegAt w v sg) (hb : BlP F w w') (hF : ∀ g, v.ownBlock = some g → F g) : SegAt w' v sg := h.same fun g hg => hb.block g (h.lt hg) (hF g hg)
theorem SegAt.grown {row : Option Nat} (h : SegAt w v sg) (hg : w.grownBy w' row) (hr : ∀ g, v.ownBlock = some g → row ≠ some g) : SegAt w' v sg := h.same fun g e => hg.block g (h.lt e) fun e' => hr g e e'.symm
theorem SegAt.setCell {p : Addr} (h : SegAt w v sg) (hp : v.ownBlock ≠ some p.block) (u : Value) : SegAt (w.setCell p u) v sg := h.same fun g e => Below.heap_setCell w p u g (fun e' => hp (e' ▸ e))
theorem SegAt.reads {A : Option Addr} {c : Nat} (h : SegAt w (.slice A sg.length c) sg) : Reads w w.heap.size 1 A sg.length (sg.map segV) := by
  refine ⟨by simp, fun hn => ?_⟩
  rcases h.2 with ⟨_, rfl⟩ | ⟨g, k, cap, cur, e, hb, h1, h2, h3, h4⟩
  · exact absurd hn (Nat.lt_irrefl _)
  · have e' : A = some ⟨g, k, none⟩ := by injection e
    refine ⟨_, e', hb.lt, fun j u hu => ?_⟩
    rw [List.getElem?_map] at hu
    by_cases hj : j < sg.length
    · rw [List.getElem?_eq_getElem hj] at hu
      have hu : segV sg[j] = u := Option.some.inj hu
      subst hu
      have : (⟨g, k, none⟩ : Addr).add j = ⟨g, k + j, none⟩ := by unfold Addr.add; split <;> simp_all
      rw [this, hb.cell]
      exact h4 j hj
    · rw [List.getElem?_eq_none (by omega)] at hu
      cases hu
theorem SegAt.at_ {A : Option Addr} {c i : Nat} (h : SegAt w (.slice A sg.length c) sg) (hi : i < sg.length) : ∃ ad, A = some ad ∧ w.cell? (ad.add i) = some (.int .u64 (sg[i] : Int)) := by
  obtain ⟨ad, u, e, _, hu, hc⟩ := h.reads.at_ hi
  rw [List.getElem?_map, List.getElem?_eq_getElem hi] at hu
  have hu : segV sg[i] = u := Option.some.inj hu
  subst hu
  exact ⟨ad, e, hc⟩
end
theorem run_append_seg (w : World) (v : Value) (sg : List Nat) (ty : TypeId) (h : SegAt w v sg) (X : Option Addr) (d Bd n : Nat) (hr : Reads w Bd 1 X 1 [segV n]) (hn : n < 18446744073709551616) (hl : sg.length ≤ 1048576) :
    ∃ A' c' w', (Builtin.append_ #[75, 75] ty #[v, .slice X 1 d]).run Try.prog w = .ok (.slice A' (sg ++ [n]).length c') w' ∧ SegAt w' (.slice A' (sg ++ [n]).length c') (sg ++ [n]) ∧ w.grownBy w' v.ownBlock ∧ ((Value.slice A' (sg ++ [n]).length c').ownBlock = v.ownBlock ∨ (Value.slice A' (sg ++ [n]).length c').ownBlock = some w.heap.size) := by
  obtain ⟨i0, hi0, hz0, hz1, hz2⟩ := info_parts Try.infoSeg
  have hmem : ∀ m ∈ sg ++ [n], m < 18446744073709551616 := by
    intro m hm
    rcases List.mem_append.1 hm with hm | hm
    · exact h.1 m hm
    · rw [List.mem_singleton.1 hm]; exact hn
  have hlen : (sg ++ [n]).length = sg.length + 1 := by simp
  obtain ⟨ax, rfl, hxb, hxc⟩ := hr.2 (by omega)
  have hs : Src Try.prog i0.size 75 (.slice (some ax) 1 d) 1 [segV n] w := Src.ofSlice w Try.underlying75 ax 1 d [segV n] (by rw [hz1]; rfl) hxc (by intro u hu; rw [List.mem_singleton.1 hu]; rfl)
  have hfit : ∀ cap, cap < sg.length + 1 → Builtin.nextslicecap (sg.length + 1) cap * i0.bytes ≤ 281474976710656 := fun cap hc => growslice_fits hc (by rw [hz2]; omega)
  have hsmall : sg.length + 1 ≤ maxLen := by simp only [maxLen]; omega
  have grow : ∀ (bs : Option Addr) (cap : Nat), v = .slice bs sg.length cap → cap < sg.length + 1 → (Builtin.firstCells i0.size sg.length (.slice bs sg.length cap)).run Try.prog w.drew = .ok (sg.map segV).toArray w.drew →
      ∃ A' c' w', (Builtin.append_ #[75, 75] ty #[v, .slice (some ax) 1 d]).run Try.prog w = .ok (.slice A' (sg ++ [n]).length c') w' ∧ SegAt w' (.slice A' (sg ++ [n]).length c') (sg ++ [n]) ∧ w.grownBy w' v.ownBlock ∧ ((Value.slice A' (sg ++ [n]).length c').ownBlock = v.ownBlock ∨ (Value.slice A' (sg ++ [n]).length c').ownBlock = some w.heap.size) := by
    rintro bs cap rfl hc hold
    have hrun := run_append_grow_src (P := Try.prog) w 75 75 ty 82 i0 _ Try.underlying75 hi0 hz0 bs sg.length cap (sg.map segV) hold _ 1 [segV n] hs hc (by simp only [maxLen] at hsmall; omega) (hfit cap hc)
    have hge := grownCap_ge w (sg.length + 1) cap 82
    have hcm := grownCap_le_maxLen w (sg.length + 1) cap 82 hsmall
    generalize grownCap w (sg.length + 1) cap 82 = G at *
    rw [← hlen] at hrun
    refine ⟨_, _, _, hrun, ⟨hmem, .inr ⟨w.heap.size, 0, G, _, rfl, Blk.new w.drew _ _, by omega, ?_, hcm, fun i hi => ?_⟩⟩, ⟨rfl, rfl, rfl, by simp, fun k hk _ => heap_alloc_old w.drew _ hk⟩, .inr rfl⟩
    · simp only [Array.size_append, List.size_toArray, size_zeroCells, List.length_append, List.length_map, List.length_singleton, Value.cells]
      omega
    · rw [Nat.zero_add, Array.getElem?_append_left (by simp; rw [hlen] at hi; omega), List.getElem?_toArray, ← List.map_singleton (f := segV), ← List.map_append, List.getElem?_map, List.getElem?_eq_getElem hi]
      rfl
  have h0 := h
  rcases h.2 with ⟨rfl, rfl⟩ | ⟨g, k, cap, cur, rfl, hb, h1, h2, h3, h4⟩
  · exact grow none 0 rfl (by decide) (run_firstCells_none w.drew i0.size 0 0 0)
  · by_cases hroom : sg.length + 1 ≤ cap
    · have hrun := run_append_room_src (P := Try.prog) w 75 75 ty 82 i0 Try.underlying75 hi0 g k sg.length cap _ 1 [segV n] hs hroom
        (fun j hj => by
          have hj : j < 1 := hj
          obtain rfl : j = 0 := by omega
          rw [hz1, Nat.mul_one, Nat.add_zero, hb.cell, Array.getElem?_eq_getElem (by omega)]; rfl)
        (fun j hj => hb.frozen _)
      rw [hz1, Nat.mul_one] at hrun
      have hsc : w.setCells g (k + sg.length) [segV n] = w.setCell ⟨g, k + sg.length, none⟩ (segV n) := rfl
      rw [hsc, ← hlen] at hrun
      refine ⟨_, _, _, hrun, ⟨hmem, .inr ⟨g, k, cap, _, rfl, hb.set_ (k + sg.length) (segV n), by omega, by rw [Array.size_setIfInBounds]; exact h2, h3, fun i hi => ?_⟩⟩, only_setCell (only_of_below (Below.refl _ _) (some g)) (.inl rfl) _, .inl rfl⟩
      rw [Array.getElem?_setIfInBounds]
      by_cases hi2 : i = sg.length
      · subst hi2
        rw [if_pos rfl, if_pos (by omega), List.getElem_append_right (Nat.le_refl _)]
        simp
      · have hi3 : i < sg.length := by rw [hlen] at hi; omega
        rw [if_neg (by omega), h4 i hi3, List.getElem_append_left hi3]
    · refine grow _ _ rfl (by omega) (run_firstCells_some w.drew i0.size sg.length ⟨g, k, none⟩ _ _ _ (by rw [hz1]; simp) fun j u hu => ?_)
      by_cases hj : j < sg.length
      · obtain ⟨ad, u', e, _, hu', hc⟩ := h0.reads.at_ hj
        obtain rfl := Option.some.inj e
        rw [hu'] at hu
        rw [← Option.some.inj hu]
        exact hc
      · rw [List.getElem?_eq_none (by simp; omega)] at hu
        cases hu
section
variable {w : World} {ops : Array Oper} {o : Oper} {a : Act} {Q : Exit → Act → World → Prop}
theorem wp_append_seg {K : Act → World → Prop} (s x : Operand) (ho : o.op = .call { callee := .builtin .append, args := #[s, x], argTypes := #[75, 75] })
    (v : Value) (sg : List Nat) (hs : a.eval s = v) (h : SegAt w v sg) (X : Option Addr) (d Bd n : Nat) (hx : a.eval x = .slice X 1 d) (hr : Reads w Bd 1 X 1 [segV n]) (hn : n < 18446744073709551616) (hl : sg.length ≤ 1048576)
    (hK : ∀ A' c' sg' w', Hid (sg' = sg ++ [n]) → SegAt w' (.slice A' sg'.length c') sg' → w.grownBy w' v.ownBlock → ((Value.slice A' sg'.length c').ownBlock = v.ownBlock ∨ (Value.slice A' sg'.length c').ownBlock = some w.heap.size) → K (a.put o.dst (.slice A' sg'.length c')) w') : o.wp Try.prog a w K Q := by
  obtain ⟨A', c', w', hrun, h1, h2, h3⟩ := run_append_seg w v sg o.type h X d Bd n hr hn hl
  unfold Oper.wp execOp
  simp only [ho, resolve, invoke, builtin, Sem.run_bind, Sem.run_pure, Result.andThen_ok, List.map_toArray, List.map_cons, List.map_nil, hs, hx, hrun]
  exact hK A' c' _ w' rfl h1 h2 h3
theorem step_append_seg {K : Act → World → Prop} {E : Prop} (hgd : o.guard = none) (s x : Operand) (ho : o.op = .call { callee := .builtin .append, args := #[s, x], argTypes := #[75, 75] })
    (v : Value) (sg : List Nat) (hs : a.eval s = v) (h : SegAt w v sg) (X : Option Addr) (d Bd n : Nat) (hx : a.eval x = .slice X 1 d) (hr : Reads w Bd 1 X 1 [segV n]) (hn : n < 18446744073709551616) (hl : sg.length ≤ 1048576)
    (hK : ∀ A' c' sg' w', Hid (sg' = sg ++ [n]) → SegAt w' (.slice A' sg'.length c') sg' → w.grownBy w' v.ownBlock → ((Value.slice A' sg'.length c').ownBlock = v.ownBlock ∨ (Value.slice A' sg'.length c').ownBlock = some w.heap.size) → K (a.put o.dst (.slice A' sg'.length c')) w') :
    if Region.wanted o (yielded ops a.tmps) = true then Oper.wp Try.prog o a w K Q else E := by
  have hw : Region.wanted o (yielded ops a.tmps) = true := by simp [Region.wanted, hgd]
  rw [if_pos hw]
  exact wp_append_seg s x ho v sg hs h X d Bd n hx hr hn hl hK
end
/-- a log in memory; what lies in the blocks of F is none of its -/
def LD (w : World) (g : Nat) (F : Nat → Prop) (l : LLog) (sg : List Nat) (d : LDisk) (ps : List PFile) : Prop :=
  ∃ A c, Blk w g 77 (logC (.slice A sg.length c) l) ∧ SegAt w (.slice A sg.length c) sg ∧ DD w l.disk (fun x => F x ∨ x = g ∨ (Value.slice A sg.length c).ownBlock = some x) d ps ∧ (∀ x, F x → x ≠ g ∧ (Value.slice A sg.length c).ownBlock ≠ some x) ∧ l.pre.length ≤ 1048576
/-- behind a call of the log -/
def LDTo (g : Nat) (F : Nat → Prop) (l : LLog) (sg : List Nat) (d : LDisk) (ps : List PFile) (w w' : World) : Prop :=
  LD w' g (fun x => F x ∧ x < w.heap.size) l sg d ps ∧ BlP F w w'
section
variable {w w' : World} {g : Nat} {F F' : Nat → Prop} {l : LLog} {sg : List Nat} {d : LDisk} {ps : List PFile}
theorem LD.mono (h : LD w g F l sg d ps) (hf : ∀ x, F' x → F x) : LD w g F' l sg d ps := by
  obtain ⟨A, c, h1, h2, h3, h4, h5⟩ := h
  exact ⟨A, c, h1, h2, h3.mono fun x hx => hx.imp (hf x) id, fun x hx => h4 x (hf x hx), h5⟩
theorem LD.below (h : LD w g F l sg d ps) (hb : Below w.heap.size w w') : LD w' g (fun x => F x ∨ w.heap.size ≤ x) l sg d ps := by
  obtain ⟨A, c, h1, h2, h3, h4, h5⟩ := h
  refine ⟨A, c, h1.below hb h1.lt, h2.below hb, (h3.below hb).mono fun x hx => ?_, fun x hx => ?_, h5⟩
  · rcases hx with (hx | hx) | hx
    · exact .inl (.inl hx)
    · exact .inr hx
    · exact .inl (.inr hx)
  · rcases hx with hx | hx
    · exact h4 x hx
    · exact ⟨fun e => by have := h1.lt; omega, fun e => by have := h2.lt e; omega⟩
theorem LD.lt (h : LD w g F l sg d ps) : g < w.heap.size := by
  obtain ⟨A, c, h1, _⟩ := h
  exact h1.lt
/-- all blocks have stayed but some of F -/
theorem LD.blp {B : Nat → Prop} (h : LD w g F l sg d ps) (hg : BlP B w w') (hr : ∀ x, x < w.heap.size → ¬ B x → F x) : LD w' g (fun x => F x ∨ w.heap.size ≤ x) l sg d ps := by
  obtain ⟨A, c, h1, h2, h3, h4, h5⟩ := h
  have hB : ∀ x, x < w.heap.size → (x = g ∨ (Value.slice A sg.length c).ownBlock = some x) → B x := fun x hx h => Classical.byContradiction fun hn => by
    have := h4 x (hr x hx hn)
    rcases h with h | h
    · exact this.1 h
    · exact this.2 h
  refine ⟨A, c, (hg.block g h1.lt (hB g h1.lt (.inl rfl))).trans h1, h2.blp hg fun x e => hB x (h2.lt e) (.inr e), (h3.blp hg fun x hx hn => .inl (hr x hx hn)).mono fun x hx => ?_, fun x hx => ?_, h5⟩
  · rcases hx with (hx | hx) | hx
    · exact .inl (.inl hx)
    · exact .inr hx
    · exact .inl (.inr hx)
  · rcases hx with hx | hx
    · exact h4 x hx
    · exact ⟨fun e => by have := h1.lt; omega, fun e => by have := h2.lt e; omega⟩
end
end Go.Proofs.Ytbldfgpnghoigaa
