/- Opening slices of any kind of element (ER), structs' fields, strings, ints; weights handed down. -/
import Derived.Test.YtemidaamnldjmaaOpen
import Derived.Test.YtemidaamnldjmaaSl
import Derived.Deep.Fields
namespace Go.Proofs.Ytemidaamnldjmaa
open Go.ChangeShapes Go.WideShapes Go.ChangeAt Go.RowKit Go.Deep

section
variable {H : Type} {enc : TypeId × Value → H} {W : World}

/-- an element of type e reads as something -/
def Opens {α : Type} (enc : TypeId × Value → H) (W : World) (e : TypeId) (R : List Value → α → Prop) : Prop :=
  ∀ {fuel : Nat} {cs : List Value} {d : DataW H} {pl : List MemPlace}, DataW.trod enc Try.prog W 0 (fun _ => true) true fuel e cs = some (d, pl) → (∀ n ∈ d.weights Try.prog e, n ≤ reachBytes) → ∃ x, R cs x

theorem flat_range {α : Type} {E : ER α} {S : Nat → Prop} {a : Addr} {f : Nat → α} {V : Nat → List Value} : ∀ n, (∀ i, i < n → E.rep W S (V i) (f i) ∧ ∀ j u, (V i)[j]? = some u → W.cell? (a.add (i * E.size + j)) = some u) →
    E.flat W S ((List.range n).flatMap V) ((List.range n).map f) ∧ ∀ j u, ((List.range n).flatMap V)[j]? = some u → W.cell? (a.add j) = some u
  | 0, _ => ⟨rfl, fun j u hu => by simp at hu⟩
  | n + 1, h => by
    obtain ⟨h1, h2⟩ := flat_range n (fun i hi => h i (by omega))
    obtain ⟨h3, h4⟩ := h n (by omega)
    rw [List.range_succ, List.flatMap_append, List.map_append]
    have e : [n].flatMap V = V n := by simp
    rw [e]
    refine ⟨ER.flat_snoc h1 h3, fun j u hu => ?_⟩
    have hl := ER.flat_len h1
    simp only [List.length_map, List.length_range] at hl
    rw [List.getElem?_append] at hu
    split at hu
    · exact h2 j u hu
    · have := h4 _ u hu
      rwa [hl, show n * E.size + (j - n * E.size) = j by omega] at this

theorem opn_sl {α : Type} [Inhabited α] (E : ER α) {t e : TypeId} (ht : Try.prog.underlying t = some (.slice e)) (hc : Try.prog.cellsOf e = E.size) (hb : Try.prog.bytesOf e = E.bytes)
    (hel : Opens enc W e (E.rep W Any)) {fuel : Nat} {cs : List Value} {d : DataW H} {pl : List MemPlace}
    (h : DataW.trod enc Try.prog W 0 (fun _ => true) true fuel t cs = some (d, pl)) (hs : ∀ n ∈ d.weights Try.prog t, n ≤ reachBytes) :
    ∃ A xs c, cs = [.slice A xs.length c] ∧ Sl E W A xs ∧ xs.length ≤ c ∧ c * E.bytes ≤ 140737488351232 := by
  rcases open_slice ht h with ⟨hcs, hx⟩ | ⟨a, len, cap, m, n, D, Pl, hcs, _, hl, hm, hmm, hx, hi⟩
  · exact ⟨none, [], 0, hcs, SlS.nil_ _ _ _ _, Nat.le_refl _, by rw [Nat.zero_mul]; exact Nat.zero_le _⟩
  · simp only [if_true] at hmm
    subst hmm
    have hd : d = _ := congrArg Prod.fst hx
    subst hd
    have hr : m * E.bytes ≤ reachBytes := hs (m * E.bytes) (by
        simp only [DataW.weights, ht, hb, List.mem_cons, List.length_map, List.length_range]
        rw [Nat.add_sub_cancel' hl]; exact .inl rfl)
    unfold reachBytes at hr
    have hel' : ∀ i, i < len → ∃ x : List Value × α, E.rep W Any x.1 x.2 ∧ ∀ j u, x.1[j]? = some u → W.cell? (a.add (i * E.size + j)) = some u := by
      intro i hil
      obtain ⟨cs', hcell, htr⟩ := hi i (by omega)
      obtain ⟨x, hx⟩ := hel htr (fun k hk => hs k (by
        simp only [DataW.weights, ht, List.mem_cons, List.mem_append]
        exact .inr (.inl (weights_elem (j := i) (by simp [hil]) k hk))))
      obtain ⟨_, hcl, hat⟩ := World.cells?_some hcell
      refine ⟨(cs', x), hx, fun j u hu => ?_⟩
      have hj : j < cs'.length := (List.getElem?_eq_some_iff.1 hu).1
      have := hat j (by omega)
      rw [hc, add_add] at this
      rw [this]; exact hu
    obtain ⟨f, hf⟩ := choose_lt hel'
    obtain ⟨h1, h2⟩ := flat_range (E := E) (S := Any) (a := a) (f := fun i => (f i).2) (V := fun i => (f i).1) len hf
    have hlen : ((List.range len).map fun i => (f i).2).length = len := by simp
    refine ⟨some a, (List.range len).map fun i => (f i).2, m, by rw [hlen]; exact hcs, ⟨?_, _, ⟨?_, fun hp => ?_⟩, At.any _ _, h1⟩, by rw [hlen]; exact hl, hr⟩
    · rw [hlen]; exact Nat.le_trans (Nat.mul_le_mul_right _ hl) hr
    · rw [ER.flat_len h1]
    · rw [hlen] at hp
      refine ⟨a, rfl, ?_, h2⟩
      obtain ⟨cs', hcell, htr⟩ := hi 0 (by omega)
      obtain ⟨_, hcl, hat⟩ := World.cells?_some hcell
      have hpos := E.pos
      have h0 := hat 0 (by omega)
      rw [List.getElem?_eq_getElem (by omega)] at h0
      have := World.block_lt_of_cell? W _ h0
      simpa [block_of_add] using this

theorem weights_each_get : ∀ {ts : List TypeId} {ds : List (DataW H)} {j : Nat} {t : TypeId} {d : DataW H}, ts[j]? = some t → ds[j]? = some d → ∀ n ∈ d.weights Try.prog t, n ∈ DataW.weightsEach Try.prog ts ds
  | t0 :: ts, d0 :: ds, 0, t, d, ht, hd, n, hn => by
    simp only [List.getElem?_cons_zero, Option.some.injEq] at ht hd
    subst ht hd
    simp only [DataW.weightsEach, List.mem_append]
    exact .inl hn
  | t0 :: ts, d0 :: ds, j + 1, t, d, ht, hd, n, hn => by
    simp only [List.getElem?_cons_succ] at ht hd
    simp only [DataW.weightsEach, List.mem_append]
    exact .inr (weights_each_get ht hd n hn)
  | [], _, _, _, _, ht, _, _, _ => by simp at ht
  | _ :: _, [], _, _, _, _, hd, _, _ => by simp at hd

/-- a struct's fields, each opened in its own right -/
theorem opn_struct {t : TypeId} {fs : Array Field} (ht : Try.prog.underlying t = some (.struct fs)) {fuel : Nat} {cs : List Value} {d : DataW H} {pl : List MemPlace}
    (h : DataW.trod enc Try.prog W 0 (fun _ => true) true fuel t cs = some (d, pl)) (hs : ∀ n ∈ d.weights Try.prog t, n ≤ reachBytes) :
    cs.length = Try.prog.cellsOf t ∧ ∃ m, ∀ (i : Nat) (f : Field), fs[i]? = some f → ∃ (y : DataW H × List MemPlace),
      DataW.trod enc Try.prog W 0 (fun _ => true) true m f.type ((cs.drop f.offset).take (Try.prog.cellsOf f.type)) = some y ∧ ∀ n ∈ y.1.weights Try.prog f.type, n ≤ reachBytes := by
  obtain ⟨xs, m, _, hx, hl, hlen, hg⟩ := DataW.trod_struct ht h
  obtain ⟨rfl, rfl⟩ : d = _ ∧ pl = _ := by simpa using hx
  refine ⟨hl, m, fun i f hf => ?_⟩
  have hi : i < xs.length := by rw [hlen]; exact (Array.getElem?_eq_some_iff.1 hf).1
  have hxi : xs[i]? = some xs[i] := List.getElem?_eq_getElem hi
  refine ⟨xs[i], (hg i f hf).trans hxi, fun n hn => hs n ?_⟩
  simp only [DataW.weights, ht]
  exact weights_each_get (j := i) (t := f.type) (d := xs[i].1) (by simp [hf]) (by simp [hi]) n hn

theorem opn_int {e : TypeId} {k : IntKind} (ht : Try.prog.underlying e = some (.int k)) : Opens enc W e (fun cs n => cs = [.int k n] ∧ (Lit.int k n).wf = true) := fun h _ => by
  obtain ⟨n, h1, _, h2⟩ := DataW.trod_int ht h
  exact ⟨n, h1, h2⟩
theorem opn_bool {e : TypeId} (ht : Try.prog.underlying e = some .bool) : Opens enc W e (fun cs (b : Bool) => cs = [.bool b]) := fun h _ => by
  obtain ⟨n, h1, _⟩ := DataW.trod_bool ht h
  exact ⟨n, h1⟩
theorem opn_string {e : TypeId} (ht : Try.prog.underlying e = some .string) : Opens enc W e (fun cs (s : ByteArray) => cs = [.string s] ∧ s.size ≤ 140737488351232) := fun h hs => by
  obtain ⟨s, h1, h2, _⟩ := DataW.trod_string ht h
  obtain ⟨rfl, rfl⟩ : _ = _ ∧ _ = _ := by simpa using h2
  have := hs s.data.toList.length (by simp [DataW.weights])
  refine ⟨s, h1, ?_⟩
  rw [Array.length_toList] at this
  unfold reachBytes at this
  exact this
end

end Go.Proofs.Ytemidaamnldjmaa
