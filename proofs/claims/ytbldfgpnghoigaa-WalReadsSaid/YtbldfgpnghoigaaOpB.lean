/- Opening a law's arguments: rows of rows of bytes. (Printed by wip/gen_opb.py.) -/
import Derived.Test.YtbldfgpnghoigaaOpen
import Derived.Test.YtbldfgpnghoigaaSl
import Derived.Test.YtbldfgpnghoigaaOwnB
import Derived.Deep.Fields
import Derived.Test.YtbldfgpnghoigaaRows
namespace Go.Proofs.Ytbldfgpnghoigaa
open Go.ChangeShapes Go.WideShapes Go.ChangeAt Go.RowKit Go.Deep

/-- no more came in than the form lets -/
def SmallW {H : Type} (t : TypeId) (d : DataW H) : Prop := ∀ n ∈ d.weights Try.prog t, n ≤ reachBytes
/-- rows of bytes as elements -/
def BssE : ER (List (List UInt8)) where
  size := 1
  pos := by omega
  bytes := 24
  bpos := by omega
  rep w S vs x := ∃ D c, vs = [.slice D x.length c] ∧ SlS BsE w S D x ∧ x.length ≤ c ∧ c ≤ 9223372036854775807
  len := by rintro w S vs a ⟨D, c, rfl, _⟩; rfl
  one := by rintro w S vs a ⟨D, c, rfl, _⟩ v hv; simp at hv; subst hv; rfl
  keep := by rintro w w' S vs a ⟨D, c, rfl, h, h2⟩ hs; exact ⟨D, c, rfl, h.same hs, h2⟩
  mono := by rintro w S S' vs a ⟨D, c, rfl, h, h2⟩ hs; exact ⟨D, c, rfl, h.mono hs, h2⟩
theorem BssE.at_ {w : World} {A : Option Addr} {S : Nat → Prop} {l : List (List (List UInt8))} (h : SlS BssE w S A l) {k : Nat} (hk : k < l.length) :
    ∃ ad D c, A = some ad ∧ w.cell? (ad.add k) = some (.slice D l[k].length c) ∧ SlS BsE w S D l[k] ∧ l[k].length ≤ c ∧ c ≤ 9223372036854775807 := by
  obtain ⟨ad, vs, rfl, hb, ⟨D, c, rfl, h1⟩, h4, _, _⟩ := SlS.at_ h hk
  have h5 := h4 _ rfl
  rw [show k * BssE.size = k from Nat.mul_one k] at h5
  exact ⟨ad, D, c, rfl, h5, h1⟩
section
variable {H : Type} {enc : TypeId × Value → H} {W : World}
/-- an element of type e reads as something -/
def OpensW {α : Type} (enc : TypeId × Value → H) (W : World) (e : TypeId) (R : List Value → α → Prop) : Prop :=
  ∀ {fuel : Nat} {cs : List Value} {d : DataW H} {pl : List MemPlace}, DataW.trod enc Try.prog W 0 (fun _ => true) true fuel e cs = some (d, pl) → SmallW e d → ∃ x, R cs x
theorem flat_range {α : Type} {E : ER α} {S : Nat → Prop} {a : Addr} {f : Nat → α} {V : Nat → List Value} : ∀ n, (∀ i, i < n → E.rep W S (V i) (f i) ∧ ∀ j u, (V i)[j]? = some u → W.cell? (a.add (i * E.size + j)) = some u) →
    E.flat W S ((List.range n).flatMap V) ((List.range n).map f) ∧ ∀ j u, ((List.range n).flatMap V)[j]? = some u → W.cell? (a.add j) = some u
  | 0, _ => ⟨rfl, fun j u hu => by simp at hu⟩
  | n + 1, h => by
    obtain ⟨h1, h2⟩ := flat_range n (fun i hi => h i (by omega))
    obtain ⟨h3, h4⟩ := h n (by omega)
    rw [List.range_succ, List.flatMap_append, List.map_append]
    have e : [n].flatMap V = V n := by simp
    rw [e]
    refine ⟨ER.flat_snoc h1 h3, fun j u hu => ?_⟩
    have hl := ER.flat_len h1
    simp only [List.length_map, List.length_range] at hl
    rw [List.getElem?_append] at hu
    split at hu
    · exact h2 j u hu
    · have := h4 _ u hu
      rwa [hl, show n * E.size + (j - n * E.size) = j by omega] at this

theorem opn_slW {α : Type} [Inhabited α] (E : ER α) {t e : TypeId} (ht : Try.prog.underlying t = some (.slice e)) (hc : Try.prog.cellsOf e = E.size) (hb : Try.prog.bytesOf e = E.bytes)
    (hel : OpensW enc W e (E.rep W Any)) {fuel : Nat} {cs : List Value} {d : DataW H} {pl : List MemPlace}
    (h : DataW.trod enc Try.prog W 0 (fun _ => true) true fuel t cs = some (d, pl)) (hs : SmallW t d) :
    ∃ A xs c, cs = [.slice A xs.length c] ∧ Sl E W A xs ∧ xs.length ≤ c ∧ c * E.bytes ≤ 140737488351232 := by
  rcases open_slice ht h with ⟨hcs, hx⟩ | ⟨a, len, cap, m, n, D, Pl, hcs, _, hl, hm, hmm, hx, hi⟩
  · exact ⟨none, [], 0, hcs, SlS.nil_ _ _ _ _, Nat.le_refl _, by rw [Nat.zero_mul]; exact Nat.zero_le _⟩
  · simp only [if_true] at hmm
    subst hmm
    have hd : d = _ := congrArg Prod.fst hx
    subst hd
    have hr : m * E.bytes ≤ reachBytes := hs (m * E.bytes) (by
        simp only [DataW.weights, ht, hb, List.mem_cons, List.length_map, List.length_range]
        rw [Nat.add_sub_cancel' hl]; exact .inl rfl)
    unfold reachBytes at hr
    have hel' : ∀ i, i < len → ∃ x : List Value × α, E.rep W Any x.1 x.2 ∧ ∀ j u, x.1[j]? = some u → W.cell? (a.add (i * E.size + j)) = some u := by
      intro i hil
      obtain ⟨cs', hcell, htr⟩ := hi i (by omega)
      obtain ⟨x, hx⟩ := hel htr (fun k hk => hs k (by
        simp only [DataW.weights, ht, List.mem_cons, List.mem_append]
        exact .inr (.inl (weights_elem (j := i) (by simp [hil]) k hk))))
      obtain ⟨_, hcl, hat⟩ := World.cells?_some hcell
      refine ⟨(cs', x), hx, fun j u hu => ?_⟩
      have hj : j < cs'.length := (List.getElem?_eq_some_iff.1 hu).1
      have := hat j (by omega)
      rw [hc, add_add] at this
      rw [this]; exact hu
    obtain ⟨f, hf⟩ := choose_lt hel'
    obtain ⟨h1, h2⟩ := flat_range (E := E) (S := Any) (a := a) (f := fun i => (f i).2) (V := fun i => (f i).1) len hf
    have hlen : ((List.range len).map fun i => (f i).2).length = len := by simp
    refine ⟨some a, (List.range len).map fun i => (f i).2, m, by rw [hlen]; exact hcs, ⟨?_, _, ⟨?_, fun hp => ?_⟩, At.any _ _, h1⟩, by rw [hlen]; exact hl, hr⟩
    · rw [hlen]; exact Nat.le_trans (Nat.mul_le_mul_right _ hl) hr
    · rw [ER.flat_len h1]
    · rw [hlen] at hp
      refine ⟨a, rfl, ?_, h2⟩
      obtain ⟨cs', hcell, htr⟩ := hi 0 (by omega)
      obtain ⟨_, hcl, hat⟩ := World.cells?_some hcell
      have hpos := E.pos
      have h0 := hat 0 (by omega)
      rw [List.getElem?_eq_getElem (by omega)] at h0
      have := World.block_lt_of_cell? W _ h0
      simpa [block_of_add] using this
theorem Try.ceU8s : Try.prog.cellsOf 40 = 1 := by kernel_rfl
theorem Try.beU8s : Try.prog.bytesOf 40 = 24 := by kernel_rfl
theorem Try.ceU8ss : Try.prog.cellsOf 27 = 1 := by kernel_rfl
theorem Try.beU8ss : Try.prog.bytesOf 27 = 24 := by kernel_rfl
theorem cs_one {t e : TypeId} (ht : Try.prog.underlying t = some (.slice e)) {fuel : Nat} {cs : List Value} {d : DataW H} {pl : List MemPlace} (h : DataW.trod enc Try.prog W 0 (fun _ => true) true fuel t cs = some (d, pl)) : ∃ v, cs = [v] := by
  rcases open_slice ht h with ⟨hcs, hx⟩ | ⟨a, len, cap, m, n, D, Pl, hcs, _⟩
  · exact ⟨_, hcs⟩
  · exact ⟨_, hcs⟩
theorem opn_bs : OpensW enc W 40 (BsE.rep W Any) := fun h hs => by
  obtain ⟨v, rfl⟩ := cs_one Try.underlying40 h
  obtain ⟨A, l, c, rfl, hb, hc1, hc2⟩ := opn_bytes h hs
  exact ⟨l, A, c, rfl, hb, At.any _ _, hc1, by omega⟩
theorem opn_bss : OpensW enc W 27 (BssE.rep W Any) := fun h hs => by
  obtain ⟨A, xs, c, e, hb, hc1, hc2⟩ := opn_slW BsE Try.underlying27 Try.ceU8s Try.beU8s opn_bs h hs
  exact ⟨xs, A, c, e, hb, hc1, by have : c * 24 ≤ 140737488351232 := hc2; omega⟩
theorem opn_bytesss {fuel : Nat} {v : Value} {d : DataW H} {pl : List MemPlace} (h : DataW.trod enc Try.prog W 0 (fun _ => true) true fuel 22 [v] = some (d, pl)) (hs : SmallW 22 d) :
    ∃ A xss c, v = .slice A (List.length xss) c ∧ Sl BssE W A xss ∧ List.length xss ≤ c ∧ c ≤ 9223372036854775807 := by
  obtain ⟨A, xs, c, e, hb, hc1, hc2⟩ := opn_slW BssE Try.underlying22 Try.ceU8ss Try.beU8ss opn_bss h hs
  exact ⟨A, xs, c, by simpa using e, hb, hc1, by have : c * 24 ≤ 140737488351232 := hc2; omega⟩
end
end Go.Proofs.Ytbldfgpnghoigaa
