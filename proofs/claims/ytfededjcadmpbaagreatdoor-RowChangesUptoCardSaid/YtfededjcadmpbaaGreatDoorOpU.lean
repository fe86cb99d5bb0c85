/- Opening a law's arguments where what came in is of bulk at most 1048576: slices of any kind of element, structs' fields, strings, ints; a table, cells. -/
import Derived.Test.YtfededjcadmpbaaGreatDoorOpen
import Derived.Test.YtfededjcadmpbaaGreatDoorSl
import Derived.Deep.Fields
import Derived.Test.YtfededjcadmpbaaGreatDoorValsOf
import Derived.Test.YtfededjcadmpbaaGreatDoorRows
namespace Go.Proofs.YtfededjcadmpbaaGreatDoor
open Go.ChangeShapes Go.WideShapes Go.ChangeAt Go.RowKit Go.Deep

/-- no more came in than the form lets, and of bulk at most the bound -/
def Small {H : Type} (t : TypeId) (d : DataW H) : Prop := (∀ n ∈ d.weights Tryz.prog t, n ≤ reachBytes) ∧ Rows.uptoBulk d ≤ 1048576

theorem bulk_mem {H : Type} {d : DataW H} {l : List (DataW H)} (h : d ∈ l) : Rows.uptoBulk d ≤ Rows.uptoBulkAll l := by
  induction l with
  | nil => cases h
  | cons x r ih =>
    simp only [Rows.uptoBulkAll]
    cases List.mem_cons.1 h with
    | inl e => subst e; omega
    | inr e => have := ih e; omega
theorem bulk_get {H : Type} {l : List (DataW H)} {i : Nat} {d : DataW H} (h : l[i]? = some d) : Rows.uptoBulk d ≤ Rows.uptoBulkAll l := bulk_mem (List.mem_of_getElem? h)

section
variable {H : Type} {enc : TypeId × Value → H} {W : World}

/-- an element of type e reads as something -/
def Opens {α : Type} (enc : TypeId × Value → H) (W : World) (e : TypeId) (R : List Value → α → Prop) : Prop :=
  ∀ {fuel : Nat} {cs : List Value} {d : DataW H} {pl : List MemPlace}, DataW.trod enc Tryz.prog W 0 (fun _ => true) true fuel e cs = some (d, pl) → Small e d → ∃ x, R cs x

theorem flat_range {α : Type} {E : ER α} {S : Nat → Prop} {a : Addr} {f : Nat → α} {V : Nat → List Value} : ∀ n, (∀ i, i < n → E.rep W S (V i) (f i) ∧ ∀ j u, (V i)[j]? = some u → W.cell? (a.add (i * E.size + j)) = some u) →
    E.flat W S ((List.range n).flatMap V) ((List.range n).map f) ∧ ∀ j u, ((List.range n).flatMap V)[j]? = some u → W.cell? (a.add j) = some u
  | 0, _ => ⟨rfl, fun j u hu => by simp at hu⟩
  | n + 1, h => by
    obtain ⟨h1, h2⟩ := flat_range n (fun i hi => h i (by omega))
    obtain ⟨h3, h4⟩ := h n (by omega)
    rw [List.range_succ, List.flatMap_append, List.map_append]
    have e : [n].flatMap V = V n := by simp
    rw [e]
    refine ⟨ER.flat_snoc h1 h3, fun j u hu => ?_⟩
    have hl := ER.flat_len h1
    simp only [List.length_map, List.length_range] at hl
    rw [List.getElem?_append] at hu
    split at hu
    · exact h2 j u hu
    · have := h4 _ u hu
      rwa [hl, show n * E.size + (j - n * E.size) = j by omega] at this

theorem opn_sl {α : Type} [Inhabited α] (E : ER α) {t e : TypeId} (ht : Tryz.prog.underlying t = some (.slice e)) (hc : Tryz.prog.cellsOf e = E.size) (hb : Tryz.prog.bytesOf e = E.bytes)
    (hel : Opens enc W e (E.rep W Any)) {fuel : Nat} {cs : List Value} {d : DataW H} {pl : List MemPlace}
    (h : DataW.trod enc Tryz.prog W 0 (fun _ => true) true fuel t cs = some (d, pl)) (hs : Small t d) :
    ∃ A xs c, cs = [.slice A xs.length c] ∧ Sl E W A xs ∧ xs.length ≤ c ∧ c * E.bytes ≤ 140737488351232 := by
  rcases open_slice ht h with ⟨hcs, hx⟩ | ⟨a, len, cap, m, n, D, Pl, hcs, _, hl, hm, hmm, hx, hi⟩
  · exact ⟨none, [], 0, hcs, SlS.nil_ _ _ _ _, Nat.le_refl _, by rw [Nat.zero_mul]; exact Nat.zero_le _⟩
  · simp only [if_true] at hmm
    subst hmm
    have hd : d = _ := congrArg Prod.fst hx
    subst hd
    have hr : m * E.bytes ≤ reachBytes := hs.1 (m * E.bytes) (by
        simp only [DataW.weights, ht, hb, List.mem_cons, List.length_map, List.length_range]
        rw [Nat.add_sub_cancel' hl]; exact .inl rfl)
    unfold reachBytes at hr
    have hel' : ∀ i, i < len → ∃ x : List Value × α, E.rep W Any x.1 x.2 ∧ ∀ j u, x.1[j]? = some u → W.cell? (a.add (i * E.size + j)) = some u := by
      intro i hil
      obtain ⟨cs', hcell, htr⟩ := hi i (by omega)
      obtain ⟨x, hx⟩ := hel htr ⟨fun k hk => hs.1 k (by
        simp only [DataW.weights, ht, List.mem_cons, List.mem_append]
        exact .inr (.inl (weights_elem (j := i) (by simp [hil]) k hk))), by
        have h1 := hs.2
        simp only [Rows.uptoBulk] at h1
        have h2 : Rows.uptoBulk (D i) ≤ Rows.uptoBulkAll ((List.range len).map D) := bulk_get (i := i) (by simp [hil])
        omega⟩
      obtain ⟨_, hcl, hat⟩ := World.cells?_some hcell
      refine ⟨(cs', x), hx, fun j u hu => ?_⟩
      have hj : j < cs'.length := (List.getElem?_eq_some_iff.1 hu).1
      have := hat j (by omega)
      rw [hc, add_add] at this
      rw [this]; exact hu
    obtain ⟨f, hf⟩ := choose_lt hel'
    obtain ⟨h1, h2⟩ := flat_range (E := E) (S := Any) (a := a) (f := fun i => (f i).2) (V := fun i => (f i).1) len hf
    have hlen : ((List.range len).map fun i => (f i).2).length = len := by simp
    refine ⟨some a, (List.range len).map fun i => (f i).2, m, by rw [hlen]; exact hcs, ⟨?_, _, ⟨?_, fun hp => ?_⟩, At.any _ _, h1⟩, by rw [hlen]; exact hl, hr⟩
    · rw [hlen]; exact Nat.le_trans (Nat.mul_le_mul_right _ hl) hr
    · rw [ER.flat_len h1]
    · rw [hlen] at hp
      refine ⟨a, rfl, ?_, h2⟩
      obtain ⟨cs', hcell, htr⟩ := hi 0 (by omega)
      obtain ⟨_, hcl, hat⟩ := World.cells?_some hcell
      have hpos := E.pos
      have h0 := hat 0 (by omega)
      rw [List.getElem?_eq_getElem (by omega)] at h0
      have := World.block_lt_of_cell? W _ h0
      simpa [block_of_add] using this

theorem weights_each_get : ∀ {ts : List TypeId} {ds : List (DataW H)} {j : Nat} {t : TypeId} {d : DataW H}, ts[j]? = some t → ds[j]? = some d → ∀ n ∈ d.weights Tryz.prog t, n ∈ DataW.weightsEach Tryz.prog ts ds
  | t0 :: ts, d0 :: ds, 0, t, d, ht, hd, n, hn => by
    simp only [List.getElem?_cons_zero, Option.some.injEq] at ht hd
    subst ht hd
    simp only [DataW.weightsEach, List.mem_append]
    exact .inl hn
  | t0 :: ts, d0 :: ds, j + 1, t, d, ht, hd, n, hn => by
    simp only [List.getElem?_cons_succ] at ht hd
    simp only [DataW.weightsEach, List.mem_append]
    exact .inr (weights_each_get ht hd n hn)
  | [], _, _, _, _, ht, _, _, _ => by simp at ht
  | _ :: _, [], _, _, _, _, hd, _, _ => by simp at hd

/-- a struct's fields, each opened in its own right -/
theorem opn_struct {t : TypeId} {fs : Array Field} (ht : Tryz.prog.underlying t = some (.struct fs)) {fuel : Nat} {cs : List Value} {d : DataW H} {pl : List MemPlace}
    (h : DataW.trod enc Tryz.prog W 0 (fun _ => true) true fuel t cs = some (d, pl)) (hs : Small t d) :
    cs.length = Tryz.prog.cellsOf t ∧ ∃ m, ∀ (i : Nat) (f : Field), fs[i]? = some f → ∃ (y : DataW H × List MemPlace),
      DataW.trod enc Tryz.prog W 0 (fun _ => true) true m f.type ((cs.drop f.offset).take (Tryz.prog.cellsOf f.type)) = some y ∧ Small f.type y.1 := by
  obtain ⟨xs, m, _, hx, hl, hlen, hg⟩ := DataW.trod_struct ht h
  obtain ⟨rfl, rfl⟩ : d = _ ∧ pl = _ := by simpa using hx
  refine ⟨hl, m, fun i f hf => ?_⟩
  have hi : i < xs.length := by rw [hlen]; exact (Array.getElem?_eq_some_iff.1 hf).1
  have hxi : xs[i]? = some xs[i] := List.getElem?_eq_getElem hi
  refine ⟨xs[i], (hg i f hf).trans hxi, fun n hn => hs.1 n ?_, ?_⟩
  · simp only [DataW.weights, ht]
    exact weights_each_get (j := i) (t := f.type) (d := xs[i].1) (by simp [hf]) (by simp [hi]) n hn
  · have h1 := hs.2
    simp only [Rows.uptoBulk] at h1
    have h2 : Rows.uptoBulk xs[i].1 ≤ Rows.uptoBulkAll (xs.map fun x => x.1) := bulk_get (i := i) (by simp [hi])
    omega

theorem opn_int {e : TypeId} {k : IntKind} (ht : Tryz.prog.underlying e = some (.int k)) : Opens enc W e (fun cs n => cs = [.int k n] ∧ (Lit.int k n).wf = true) := fun h _ => by
  obtain ⟨n, h1, _, h2⟩ := DataW.trod_int ht h
  exact ⟨n, h1, h2⟩
theorem opn_bool {e : TypeId} (ht : Tryz.prog.underlying e = some .bool) : Opens enc W e (fun cs (b : Bool) => cs = [.bool b]) := fun h _ => by
  obtain ⟨n, h1, _⟩ := DataW.trod_bool ht h
  exact ⟨n, h1⟩
theorem opn_string {e : TypeId} (ht : Tryz.prog.underlying e = some .string) : Opens enc W e (fun cs (s : ByteArray) => cs = [.string s] ∧ s.size ≤ 1048576) := fun h hs => by
  obtain ⟨s, h1, h2, _⟩ := DataW.trod_string ht h
  obtain ⟨rfl, rfl⟩ : _ = _ ∧ _ = _ := by simpa using h2
  have := hs.2
  simp only [Rows.uptoBulk, Array.length_toList] at this
  refine ⟨s, h1, ?_⟩
  have e : s.size = s.data.size := rfl
  omega
end
theorem Tryz.ceS : Tryz.prog.cellsOf 9 = 1 := by kernel_rfl
theorem Tryz.ceI : Tryz.prog.cellsOf 3 = 1 := by kernel_rfl
theorem Tryz.beI : Tryz.prog.bytesOf 3 = 8 := by kernel_rfl
theorem Tryz.ceB : Tryz.prog.cellsOf 4 = 1 := by kernel_rfl
theorem Tryz.ceIs : Tryz.prog.cellsOf 79 = 1 := by kernel_rfl
theorem Tryz.ceU8s : Tryz.prog.cellsOf 46 = 1 := by kernel_rfl
theorem Tryz.ceCols : Tryz.prog.cellsOf 22 = 1 := by kernel_rfl
theorem Tryz.ceIxs : Tryz.prog.cellsOf 23 = 1 := by kernel_rfl
theorem Tryz.ceCol : Tryz.prog.cellsOf 78 = 3 := by kernel_rfl
theorem Tryz.beCol : Tryz.prog.bytesOf 78 = 32 := by kernel_rfl
theorem Tryz.ceIx : Tryz.prog.cellsOf 81 = 3 := by kernel_rfl
theorem Tryz.beIx : Tryz.prog.bytesOf 81 = 48 := by kernel_rfl

theorem Tryz.cePair : Tryz.prog.cellsOf 57 = 2 := by kernel_rfl
theorem Tryz.ceI6 : Tryz.prog.cellsOf 2 = 1 := by kernel_rfl
theorem Tryz.ceTab : Tryz.prog.cellsOf 25 = 5 := by kernel_rfl
theorem Tryz.ceCel : Tryz.prog.cellsOf 48 = 5 := by kernel_rfl
theorem Tryz.beCel : Tryz.prog.bytesOf 48 = 64 := by kernel_rfl

/-- a list of whole numbers as elements -/
def IntE : ER Int where
  size := 1
  pos := by omega
  bytes := 8
  bpos := by omega
  rep _ _ vs n := vs = [.int .i64 n] ∧ (Lit.int .i64 n).wf = true
  len := by rintro w S vs a ⟨rfl, _⟩; rfl
  one := by rintro w S vs a ⟨rfl, _⟩ v hv; simp at hv; subst hv; rfl
  keep := by rintro w w' S vs a h _; exact h
  mono := by rintro w S S' vs a h _; exact h
theorem IntE.flat_eq {w : World} {S : Nat → Prop} : ∀ {vs : List Value} {xs : List Int}, IntE.flat w S vs xs → vs = xs.map (Value.int .i64) ∧ ∀ n ∈ xs, (Lit.int .i64 n).wf = true
  | _, [], h => ⟨h, by simp⟩
  | _, x :: xs, ⟨v, r, e, ⟨h1, h2⟩, h3⟩ => by
    obtain ⟨h4, h5⟩ := IntE.flat_eq h3
    subst e h1 h4
    refine ⟨rfl, fun n hn => ?_⟩
    rcases List.mem_cons.1 hn with rfl | h
    · exact h2
    · exact h5 n h
theorem IntE.ints {w : World} {A : Option Addr} {xs : List Int} (h : Sl IntE w A xs) : Is w A xs := by
  obtain ⟨_, vs, h2, _, h3⟩ := h
  obtain ⟨rfl, h5⟩ := IntE.flat_eq h3
  exact ⟨h2, h5⟩

theorem three {α : Type} : ∀ {l : List α}, l.length = 3 → ∃ a b c, l = [a, b, c]
  | [a, b, c], _ => ⟨a, b, c, rfl⟩
theorem two {α : Type} : ∀ {l : List α}, l.length = 2 → ∃ a b, l = [a, b]
  | [a, b], _ => ⟨a, b, rfl⟩
theorem five {α : Type} : ∀ {l : List α}, l.length = 5 → ∃ a b c d e, l = [a, b, c, d, e]
  | [a, b, c, d, e], _ => ⟨a, b, c, d, e, rfl⟩
theorem six {α : Type} : ∀ {l : List α}, l.length = 6 → ∃ a b c d e f, l = [a, b, c, d, e, f]
  | [a, b, c, d, e, f], _ => ⟨a, b, c, d, e, f, rfl⟩

/-- cells as they came, their numbers in form -/
def CrwE : ER LCel where
  size := 5
  pos := by omega
  bytes := 64
  bpos := by omega
  rep w S vs x := CraE.rep w S vs x ∧ (Lit.int .i64 x.kind).wf = true ∧ (Lit.int .i64 x.n).wf = true ∧ x.t.size ≤ 1048576 ∧ x.l.length ≤ 140737488351232
  len h := CraE.len h.1
  one h := CraE.one h.1
  keep h hs := ⟨CraE.keep h.1 hs, h.2⟩
  mono h hs := ⟨CraE.mono h.1 hs, h.2⟩
theorem CrwE.cra_flat {w : World} {S : Nat → Prop} : ∀ {vs : List Value} {xs : List LCel}, CrwE.flat w S vs xs → CraE.flat w S vs xs
  | _, [], h => h
  | _, _ :: _, ⟨v, r, e, h1, h2⟩ => ⟨v, r, e, h1.1, CrwE.cra_flat h2⟩
theorem CrwE.cra {w : World} {A : Option Addr} {S : Nat → Prop} {l : List LCel} (h : SlS CrwE w S A l) : SlS CraE w S A l := by
  obtain ⟨h1, vs, h2, h3, h4⟩ := h
  exact ⟨h1, vs, h2, h3, CrwE.cra_flat h4⟩
theorem CrwE.wf_flat {w : World} {S : Nat → Prop} : ∀ {vs : List Value} {xs : List LCel}, CrwE.flat w S vs xs → ∀ x ∈ xs, (Lit.int .i64 x.kind).wf = true ∧ (Lit.int .i64 x.n).wf = true ∧ x.t.size ≤ 1048576 ∧ x.l.length ≤ 140737488351232
  | _, [], _ => by simp
  | _, _ :: _, ⟨v, r, e, h1, h2⟩ => fun y hy => by
    rcases List.mem_cons.1 hy with rfl | hy
    · exact h1.2
    · exact CrwE.wf_flat h2 y hy
theorem CrwE.wf {w : World} {A : Option Addr} {S : Nat → Prop} {l : List LCel} (h : SlS CrwE w S A l) : ∀ x ∈ l, (Lit.int .i64 x.kind).wf = true ∧ (Lit.int .i64 x.n).wf = true ∧ x.t.size ≤ 1048576 ∧ x.l.length ≤ 140737488351232 := by
  obtain ⟨h1, vs, h2, h3, h4⟩ := h
  exact CrwE.wf_flat h4
instance : Inhabited LCel := ⟨⟨0, false, 0, ⟨#[]⟩, []⟩⟩

section
variable {H : Type} {enc : TypeId × Value → H} {W : World}

theorem opn_part {t : TypeId} {fs : Array Field} (ht : Tryz.prog.underlying t = some (.struct fs)) {fuel : Nat} {cs : List Value} {d : DataW H} {pl : List MemPlace}
    (h : DataW.trod enc Tryz.prog W 0 (fun _ => true) true fuel t cs = some (d, pl)) (hs : Small t d) (i : Nat) (e : TypeId) (o n : Nat)
    (hi : (fs[i]?).map (fun f => (f.type, f.offset)) = some (e, o)) (hn : Tryz.prog.cellsOf e = n) :
    ∃ m y p, DataW.trod enc Tryz.prog W 0 (fun _ => true) true m e ((cs.drop o).take n) = some (y, p) ∧ Small e y := by
  obtain ⟨_, m, hf⟩ := opn_struct ht h hs
  cases hfi : fs[i]? with
  | none => rw [hfi] at hi; simp at hi
  | some f =>
    rw [hfi] at hi
    simp only [Option.map_some, Option.some.injEq, Prod.mk.injEq] at hi
    obtain ⟨y, h1, h2⟩ := hf i f hfi
    rw [hi.1, hi.2, hn] at h1
    rw [hi.1] at h2
    exact ⟨m, y.1, y.2, h1, h2⟩

theorem opn_col : Opens enc W 78 (ColE.rep W Any) := by
  intro fuel cs d pl h hs
  have hl := (opn_struct Tryz.underlying78 h hs).1
  rw [Tryz.ceCol] at hl
  obtain ⟨a, b, c, rfl⟩ := three hl
  obtain ⟨m0, y0, p0, h0, s0⟩ := opn_part Tryz.underlying78 h hs 0 9 0 1 rfl Tryz.ceS
  obtain ⟨m1, y1, p1, h1, s1⟩ := opn_part Tryz.underlying78 h hs 1 3 1 1 rfl Tryz.ceI
  obtain ⟨m2, y2, p2, h2, s2⟩ := opn_part Tryz.underlying78 h hs 2 4 2 1 rfl Tryz.ceB
  obtain ⟨x0, e0, l0⟩ := opn_string Tryz.underlying9 h0 s0
  obtain ⟨x1, e1, l1⟩ := opn_int Tryz.underlying3 h1 s1
  obtain ⟨x2, e2⟩ := opn_bool Tryz.underlying4 h2 s2
  simp at e0 e1 e2
  subst e0 e1 e2
  exact ⟨⟨x0, x1, x2⟩, rfl, Nat.le_trans l0 (by decide)⟩
theorem opn_intE : Opens enc W 3 (IntE.rep W Any) := opn_int Tryz.underlying3
instance : Inhabited LCol := ⟨⟨⟨#[]⟩, 0, false⟩⟩
instance : Inhabited LIx := ⟨⟨⟨#[]⟩, [], false⟩⟩
theorem opn_ix : Opens enc W 81 (IxE.rep W Any) := by
  intro fuel cs d pl h hs
  have hl := (opn_struct Tryz.underlying81 h hs).1
  rw [Tryz.ceIx] at hl
  obtain ⟨a, b, c, rfl⟩ := three hl
  obtain ⟨m0, y0, p0, h0, s0⟩ := opn_part Tryz.underlying81 h hs 0 9 0 1 rfl Tryz.ceS
  obtain ⟨m1, y1, p1, h1, s1⟩ := opn_part Tryz.underlying81 h hs 1 79 1 1 rfl Tryz.ceIs
  obtain ⟨m2, y2, p2, h2, s2⟩ := opn_part Tryz.underlying81 h hs 2 4 2 1 rfl Tryz.ceB
  obtain ⟨x0, e0, l0⟩ := opn_string Tryz.underlying9 h0 s0
  obtain ⟨A, xs, cc, e1, hx, hc1, hc2⟩ := opn_sl IntE Tryz.underlying79 Tryz.ceI Tryz.beI opn_intE h1 s1
  obtain ⟨x2, e2⟩ := opn_bool Tryz.underlying4 h2 s2
  simp at e0 e1 e2
  subst e0 e1 e2
  exact ⟨⟨x0, xs, x2⟩, A, cc, rfl, IntE.ints hx, At.any _ _, hx.leb, Nat.le_trans l0 (by decide)⟩
/-- a table -/
theorem opn_table {fuel : Nat} {cs : List Value} {d : DataW H} {pl : List MemPlace} (h : DataW.trod enc Tryz.prog W 0 (fun _ => true) true fuel 25 cs = some (d, pl)) (hs : Small 25 d) :
    ∃ (id keys : Int) (tn : ByteArray) (A B : Option Addr) (cols : List LCol) (ixs : List LIx) (ca cb : Nat), cs = [.int .i64 id, .string tn, .slice A cols.length ca, .int .i64 keys, .slice B ixs.length cb] ∧ Sl ColE W A cols ∧ Sl IxE W B ixs ∧ tn.size ≤ 1048576 ∧ cols.length ≤ ca ∧ ca ≤ 9223372036854775807 := by
  have hl := (opn_struct Tryz.underlying25 h hs).1
  rw [Tryz.ceTab] at hl
  obtain ⟨a, b, c, d, e, rfl⟩ := five hl
  obtain ⟨m0, y0, p0, h0, s0⟩ := opn_part Tryz.underlying25 h hs 0 3 0 1 rfl Tryz.ceI
  obtain ⟨m1, y1, p1, h1, s1⟩ := opn_part Tryz.underlying25 h hs 1 9 1 1 rfl Tryz.ceS
  obtain ⟨m2, y2, p2, h2, s2⟩ := opn_part Tryz.underlying25 h hs 2 22 2 1 rfl Tryz.ceCols
  obtain ⟨m3, y3, p3, h3, s3⟩ := opn_part Tryz.underlying25 h hs 3 3 3 1 rfl Tryz.ceI
  obtain ⟨m4, y4, p4, h4, s4⟩ := opn_part Tryz.underlying25 h hs 4 23 4 1 rfl Tryz.ceIxs
  obtain ⟨x0, e0, l0⟩ := opn_int Tryz.underlying3 h0 s0
  obtain ⟨x1, e1, l1⟩ := opn_string Tryz.underlying9 h1 s1
  obtain ⟨A, cols, ca, e2, hA, hc1, hc2⟩ := opn_sl ColE Tryz.underlying22 Tryz.ceCol Tryz.beCol opn_col h2 s2
  obtain ⟨x3, e3, l3⟩ := opn_int Tryz.underlying3 h3 s3
  obtain ⟨B, ixs, cb, e4, hB, _, _⟩ := opn_sl IxE Tryz.underlying23 Tryz.ceIx Tryz.beIx opn_ix h4 s4
  simp at e0 e1 e2 e3 e4
  subst e0 e1 e2 e3 e4
  exact ⟨x0, x3, x1, A, B, cols, ixs, ca, cb, rfl, hA, hB, l1, hc1, Nat.le_trans (Nat.le_mul_of_pos_right ca ColE.bpos) (Nat.le_trans hc2 (by decide))⟩


theorem opn_cel : Opens enc W 48 (CrwE.rep W Any) := by
  intro fuel cs d pl h hs
  have hl := (opn_struct Tryz.underlying48 h hs).1
  rw [Tryz.ceCel] at hl
  obtain ⟨a, b, c, d, e, rfl⟩ := five hl
  obtain ⟨m0, y0, p0, h0, s0⟩ := opn_part Tryz.underlying48 h hs 0 3 0 1 rfl Tryz.ceI
  obtain ⟨m1, y1, p1, h1, s1⟩ := opn_part Tryz.underlying48 h hs 1 4 1 1 rfl Tryz.ceB
  obtain ⟨m2, y2, p2, h2, s2⟩ := opn_part Tryz.underlying48 h hs 2 2 2 1 rfl Tryz.ceI6
  obtain ⟨m3, y3, p3, h3, s3⟩ := opn_part Tryz.underlying48 h hs 3 9 3 1 rfl Tryz.ceS
  obtain ⟨m4, y4, p4, h4, s4⟩ := opn_part Tryz.underlying48 h hs 4 46 4 1 rfl Tryz.ceU8s
  obtain ⟨x0, e0, l0⟩ := opn_int Tryz.underlying3 h0 s0
  obtain ⟨x1, e1⟩ := opn_bool Tryz.underlying4 h1 s1
  obtain ⟨x2, e2, l2⟩ := opn_int Tryz.underlying2 h2 s2
  obtain ⟨x3, e3, l3⟩ := opn_string Tryz.underlying9 h3 s3
  obtain ⟨A, l, cc, e4, hb, hc1, hc2⟩ := opn_bytes (v := e) h4 s4.1
  simp at e0 e1 e2 e3
  subst e0 e1 e2 e3 e4
  exact ⟨⟨x0, x1, x2, x3, l⟩, ⟨A, cc, rfl, hb, At.any _ _, hc1, Nat.le_trans hc2 (by decide), Nat.le_trans l3 (by decide)⟩, l0, l2, l3, Nat.le_trans hc1 hc2⟩
theorem opn_cels {fuel : Nat} {cs : List Value} {d : DataW H} {pl : List MemPlace} (h : DataW.trod enc Tryz.prog W 0 (fun _ => true) true fuel 26 cs = some (d, pl)) (hs : Small 26 d) :
    ∃ A xs c, cs = [.slice A xs.length c] ∧ Sl CrwE W A xs ∧ xs.length ≤ c ∧ c * 64 ≤ 140737488351232 := opn_sl CrwE Tryz.underlying26 Tryz.ceCel Tryz.beCel opn_cel h hs
theorem one_bulk {H : Type} (d : DataW H) : 1 ≤ Rows.uptoBulk d := by
  cases d with
  | lit l => cases l <;> simp [Rows.uptoBulk]
  | nil => simp [Rows.uptoBulk]
  | ptr d => simp [Rows.uptoBulk]
  | slice elems spare => simp [Rows.uptoBulk]
  | agg parts => simp [Rows.uptoBulk]
  | iface t d => simp [Rows.uptoBulk]
  | map entries => simp [Rows.uptoBulk]
  | held h => simp [Rows.uptoBulk]
theorem length_bulk {H : Type} : ∀ l : List (DataW H), l.length ≤ Rows.uptoBulkAll l
  | [] => by simp [Rows.uptoBulkAll]
  | x :: r => by
    have h1 := length_bulk r
    have h2 := one_bulk x
    simp only [Rows.uptoBulkAll, List.length_cons]
    omega
/-- bytes -/
theorem opn_bytesU {fuel : Nat} {v : Value} {d : DataW H} {pl : List MemPlace} (h : DataW.trod enc Tryz.prog W 0 (fun _ => true) true fuel 46 [v] = some (d, pl)) (hs : Small 46 d) :
    ∃ A l c, v = .slice A l.length c ∧ (Bs W A l ∧ l.length ≤ c ∧ c ≤ 140737488351232) ∧ l.length ≤ 1048576 := by
  obtain ⟨A, l, c, e, hb, hc1, hc2⟩ := opn_bytes h hs.1
  refine ⟨A, l, c, e, ⟨hb, hc1, hc2⟩, ?_⟩
  rcases open_ints Tryz.underlying46 Tryz.underlying5 Tryz.cellsU8 h with ⟨hcs, hx⟩ | ⟨a, len, cap, zs, hcs, _, hl, hm, hz, hx, hcell, hwz⟩
  · simp only [List.cons.injEq, and_true] at hcs
    rw [hcs] at e
    injection e with _ e2
    omega
  · simp only [List.cons.injEq, and_true] at hcs
    simp only [if_true] at hz
    obtain ⟨rfl, rfl⟩ : d = _ ∧ pl = _ := by simpa using hx
    rw [hcs] at e
    injection e with _ e2
    have h1 := hs.2
    simp only [Rows.uptoBulk] at h1
    have h2 := length_bulk (lits (H := H) .u8 (zs.take len))
    have h3 : (lits (H := H) .u8 (zs.take len)).length = len := by simp only [lits, List.length_map, List.length_take]; omega
    omega
/-- a pair -/
theorem opn_pair {fuel : Nat} {cs : List Value} {d : DataW H} {pl : List MemPlace} (h : DataW.trod enc Tryz.prog W 0 (fun _ => true) true fuel 57 cs = some (d, pl)) (hs : Small 57 d) :
    ∃ (A B : Option Addr) (la lb : List UInt8) (ca cb : Nat), cs = [.slice A la.length ca, .slice B lb.length cb] ∧ (Bs W A la ∧ la.length ≤ ca ∧ ca ≤ 140737488351232) ∧ (Bs W B lb ∧ lb.length ≤ cb ∧ cb ≤ 140737488351232) ∧ la.length ≤ 1048576 ∧ lb.length ≤ 1048576 := by
  have hl := (opn_struct Tryz.underlying57 h hs).1
  rw [Tryz.cePair] at hl
  obtain ⟨a, b, rfl⟩ := two hl
  obtain ⟨m0, y0, p0, h0, s0⟩ := opn_part Tryz.underlying57 h hs 0 46 0 1 rfl Tryz.ceU8s
  obtain ⟨m1, y1, p1, h1, s1⟩ := opn_part Tryz.underlying57 h hs 1 46 1 1 rfl Tryz.ceU8s
  obtain ⟨A, l, cc, e0, hA, hla⟩ := opn_bytesU (v := a) h0 s0
  obtain ⟨B, m, dd, e1, hB, hmb⟩ := opn_bytesU (v := b) h1 s1
  subst e0 e1
  exact ⟨A, B, l, m, cc, dd, rfl, hA, hB, hla, hmb⟩
end
end Go.Proofs.YtfededjcadmpbaaGreatDoor
