/- Opening a law's arguments where what came in is of bulk at most 1048576: a state and a row of notes. (Printed by wip/gen_opn.py.) -/
import Derived.Test.YtjpcekpllfelhaaOpen
import Derived.Test.YtjpcekpllfelhaaSl
import Derived.Deep.Fields
import Derived.Test.YtjpcekpllfelhaaRtN
import Derived.Test.YtjpcekpllfelhaaRows
namespace Go.Proofs.Ytjpcekpllfelhaa
open Go.ChangeShapes Go.WideShapes Go.ChangeAt Go.RowKit Go.Deep

/-- no more came in than the form lets, and of bulk at most the bound -/
def Small {H : Type} (t : TypeId) (d : DataW H) : Prop := (∀ n ∈ d.weights Try.prog t, n ≤ reachBytes) ∧ Rows.uptoBulk d ≤ 1048576

theorem bulk_mem {H : Type} {d : DataW H} {l : List (DataW H)} (h : d ∈ l) : Rows.uptoBulk d ≤ Rows.uptoBulkAll l := by
  induction l with
  | nil => cases h
  | cons x r ih =>
    simp only [Rows.uptoBulkAll]
    cases List.mem_cons.1 h with
    | inl e => subst e; omega
    | inr e => have := ih e; omega
theorem bulk_get {H : Type} {l : List (DataW H)} {i : Nat} {d : DataW H} (h : l[i]? = some d) : Rows.uptoBulk d ≤ Rows.uptoBulkAll l := bulk_mem (List.mem_of_getElem? h)

section
variable {H : Type} {enc : TypeId × Value → H} {W : World}

/-- an element of type e reads as something -/
def Opens {α : Type} (enc : TypeId × Value → H) (W : World) (e : TypeId) (R : List Value → α → Prop) : Prop :=
  ∀ {fuel : Nat} {cs : List Value} {d : DataW H} {pl : List MemPlace}, DataW.trod enc Try.prog W 0 (fun _ => true) true fuel e cs = some (d, pl) → Small e d → ∃ x, R cs x

theorem flat_range {α : Type} {E : ER α} {S : Nat → Prop} {a : Addr} {f : Nat → α} {V : Nat → List Value} : ∀ n, (∀ i, i < n → E.rep W S (V i) (f i) ∧ ∀ j u, (V i)[j]? = some u → W.cell? (a.add (i * E.size + j)) = some u) →
    E.flat W S ((List.range n).flatMap V) ((List.range n).map f) ∧ ∀ j u, ((List.range n).flatMap V)[j]? = some u → W.cell? (a.add j) = some u
  | 0, _ => ⟨rfl, fun j u hu => by simp at hu⟩
  | n + 1, h => by
    obtain ⟨h1, h2⟩ := flat_range n (fun i hi => h i (by omega))
    obtain ⟨h3, h4⟩ := h n (by omega)
    rw [List.range_succ, List.flatMap_append, List.map_append]
    have e : [n].flatMap V = V n := by simp
    rw [e]
    refine ⟨ER.flat_snoc h1 h3, fun j u hu => ?_⟩
    have hl := ER.flat_len h1
    simp only [List.length_map, List.length_range] at hl
    rw [List.getElem?_append] at hu
    split at hu
    · exact h2 j u hu
    · have := h4 _ u hu
      rwa [hl, show n * E.size + (j - n * E.size) = j by omega] at this

theorem opn_sl {α : Type} [Inhabited α] (E : ER α) {t e : TypeId} (ht : Try.prog.underlying t = some (.slice e)) (hc : Try.prog.cellsOf e = E.size) (hb : Try.prog.bytesOf e = E.bytes)
    (hel : Opens enc W e (E.rep W Any)) {fuel : Nat} {cs : List Value} {d : DataW H} {pl : List MemPlace}
    (h : DataW.trod enc Try.prog W 0 (fun _ => true) true fuel t cs = some (d, pl)) (hs : Small t d) :
    ∃ A xs c, cs = [.slice A xs.length c] ∧ Sl E W A xs ∧ xs.length ≤ c ∧ c * E.bytes ≤ 140737488351232 := by
  rcases open_slice ht h with ⟨hcs, hx⟩ | ⟨a, len, cap, m, n, D, Pl, hcs, _, hl, hm, hmm, hx, hi⟩
  · exact ⟨none, [], 0, hcs, SlS.nil_ _ _ _ _, Nat.le_refl _, by rw [Nat.zero_mul]; exact Nat.zero_le _⟩
  · simp only [if_true] at hmm
    subst hmm
    have hd : d = _ := congrArg Prod.fst hx
    subst hd
    have hr : m * E.bytes ≤ reachBytes := hs.1 (m * E.bytes) (by
        simp only [DataW.weights, ht, hb, List.mem_cons, List.length_map, List.length_range]
        rw [Nat.add_sub_cancel' hl]; exact .inl rfl)
    unfold reachBytes at hr
    have hel' : ∀ i, i < len → ∃ x : List Value × α, E.rep W Any x.1 x.2 ∧ ∀ j u, x.1[j]? = some u → W.cell? (a.add (i * E.size + j)) = some u := by
      intro i hil
      obtain ⟨cs', hcell, htr⟩ := hi i (by omega)
      obtain ⟨x, hx⟩ := hel htr ⟨fun k hk => hs.1 k (by
        simp only [DataW.weights, ht, List.mem_cons, List.mem_append]
        exact .inr (.inl (weights_elem (j := i) (by simp [hil]) k hk))), by
        have h1 := hs.2
        simp only [Rows.uptoBulk] at h1
        have h2 : Rows.uptoBulk (D i) ≤ Rows.uptoBulkAll ((List.range len).map D) := bulk_get (i := i) (by simp [hil])
        omega⟩
      obtain ⟨_, hcl, hat⟩ := World.cells?_some hcell
      refine ⟨(cs', x), hx, fun j u hu => ?_⟩
      have hj : j < cs'.length := (List.getElem?_eq_some_iff.1 hu).1
      have := hat j (by omega)
      rw [hc, add_add] at this
      rw [this]; exact hu
    obtain ⟨f, hf⟩ := choose_lt hel'
    obtain ⟨h1, h2⟩ := flat_range (E := E) (S := Any) (a := a) (f := fun i => (f i).2) (V := fun i => (f i).1) len hf
    have hlen : ((List.range len).map fun i => (f i).2).length = len := by simp
    refine ⟨some a, (List.range len).map fun i => (f i).2, m, by rw [hlen]; exact hcs, ⟨?_, _, ⟨?_, fun hp => ?_⟩, At.any _ _, h1⟩, by rw [hlen]; exact hl, hr⟩
    · rw [hlen]; exact Nat.le_trans (Nat.mul_le_mul_right _ hl) hr
    · rw [ER.flat_len h1]
    · rw [hlen] at hp
      refine ⟨a, rfl, ?_, h2⟩
      obtain ⟨cs', hcell, htr⟩ := hi 0 (by omega)
      obtain ⟨_, hcl, hat⟩ := World.cells?_some hcell
      have hpos := E.pos
      have h0 := hat 0 (by omega)
      rw [List.getElem?_eq_getElem (by omega)] at h0
      have := World.block_lt_of_cell? W _ h0
      simpa [block_of_add] using this

theorem weights_each_get : ∀ {ts : List TypeId} {ds : List (DataW H)} {j : Nat} {t : TypeId} {d : DataW H}, ts[j]? = some t → ds[j]? = some d → ∀ n ∈ d.weights Try.prog t, n ∈ DataW.weightsEach Try.prog ts ds
  | t0 :: ts, d0 :: ds, 0, t, d, ht, hd, n, hn => by
    simp only [List.getElem?_cons_zero, Option.some.injEq] at ht hd
    subst ht hd
    simp only [DataW.weightsEach, List.mem_append]
    exact .inl hn
  | t0 :: ts, d0 :: ds, j + 1, t, d, ht, hd, n, hn => by
    simp only [List.getElem?_cons_succ] at ht hd
    simp only [DataW.weightsEach, List.mem_append]
    exact .inr (weights_each_get ht hd n hn)
  | [], _, _, _, _, ht, _, _, _ => by simp at ht
  | _ :: _, [], _, _, _, _, hd, _, _ => by simp at hd

/-- a struct's fields, each opened in its own right -/
theorem opn_struct {t : TypeId} {fs : Array Field} (ht : Try.prog.underlying t = some (.struct fs)) {fuel : Nat} {cs : List Value} {d : DataW H} {pl : List MemPlace}
    (h : DataW.trod enc Try.prog W 0 (fun _ => true) true fuel t cs = some (d, pl)) (hs : Small t d) :
    cs.length = Try.prog.cellsOf t ∧ ∃ m, ∀ (i : Nat) (f : Field), fs[i]? = some f → ∃ (y : DataW H × List MemPlace),
      DataW.trod enc Try.prog W 0 (fun _ => true) true m f.type ((cs.drop f.offset).take (Try.prog.cellsOf f.type)) = some y ∧ Small f.type y.1 := by
  obtain ⟨xs, m, _, hx, hl, hlen, hg⟩ := DataW.trod_struct ht h
  obtain ⟨rfl, rfl⟩ : d = _ ∧ pl = _ := by simpa using hx
  refine ⟨hl, m, fun i f hf => ?_⟩
  have hi : i < xs.length := by rw [hlen]; exact (Array.getElem?_eq_some_iff.1 hf).1
  have hxi : xs[i]? = some xs[i] := List.getElem?_eq_getElem hi
  refine ⟨xs[i], (hg i f hf).trans hxi, fun n hn => hs.1 n ?_, ?_⟩
  · simp only [DataW.weights, ht]
    exact weights_each_get (j := i) (t := f.type) (d := xs[i].1) (by simp [hf]) (by simp [hi]) n hn
  · have h1 := hs.2
    simp only [Rows.uptoBulk] at h1
    have h2 : Rows.uptoBulk xs[i].1 ≤ Rows.uptoBulkAll (xs.map fun x => x.1) := bulk_get (i := i) (by simp [hi])
    omega

theorem opn_int {e : TypeId} {k : IntKind} (ht : Try.prog.underlying e = some (.int k)) : Opens enc W e (fun cs n => cs = [.int k n] ∧ (Lit.int k n).wf = true) := fun h _ => by
  obtain ⟨n, h1, _, h2⟩ := DataW.trod_int ht h
  exact ⟨n, h1, h2⟩
theorem opn_bool {e : TypeId} (ht : Try.prog.underlying e = some .bool) : Opens enc W e (fun cs (b : Bool) => cs = [.bool b]) := fun h _ => by
  obtain ⟨n, h1, _⟩ := DataW.trod_bool ht h
  exact ⟨n, h1⟩
theorem opn_string {e : TypeId} (ht : Try.prog.underlying e = some .string) : Opens enc W e (fun cs (s : ByteArray) => cs = [.string s] ∧ s.size ≤ 1048576) := fun h hs => by
  obtain ⟨s, h1, h2, _⟩ := DataW.trod_string ht h
  obtain ⟨rfl, rfl⟩ : _ = _ ∧ _ = _ := by simpa using h2
  have := hs.2
  simp only [Rows.uptoBulk, Array.length_toList] at this
  refine ⟨s, h1, ?_⟩
  have e : s.size = s.data.size := rfl
  omega
end

theorem Try.ceU64 : Try.prog.cellsOf 28 = 1 := by kernel_rfl
theorem Try.beU64 : Try.prog.bytesOf 28 = 8 := by kernel_rfl
theorem Try.ceI : Try.prog.cellsOf 3 = 1 := by kernel_rfl
theorem Try.ceBo : Try.prog.cellsOf 4 = 1 := by kernel_rfl
theorem Try.ceU64s : Try.prog.cellsOf 46 = 1 := by kernel_rfl
theorem Try.ceFo : Try.prog.cellsOf 53 = 5 := by kernel_rfl
theorem Try.ceNo : Try.prog.cellsOf 61 = 9 := by kernel_rfl
theorem Try.beNo : Try.prog.bytesOf 61 = 88 := by kernel_rfl
theorem len_5 {α : Type} : ∀ {l : List α}, l.length = 5 → ∃ a0 a1 a2 a3 a4, l = [a0, a1, a2, a3, a4]
  | [a0, a1, a2, a3, a4], _ => ⟨a0, a1, a2, a3, a4, rfl⟩
theorem len_9 {α : Type} : ∀ {l : List α}, l.length = 9 → ∃ a0 a1 a2 a3 a4 a5 a6 a7 a8, l = [a0, a1, a2, a3, a4, a5, a6, a7, a8]
  | [a0, a1, a2, a3, a4, a5, a6, a7, a8], _ => ⟨a0, a1, a2, a3, a4, a5, a6, a7, a8, rfl⟩
theorem wf_i64 {n : Int} (h : (Lit.int .i64 n).wf = true) : -9223372036854775808 ≤ n ∧ n ≤ 9223372036854775807 := by
  have h1 : IntKind.i64.min = -9223372036854775808 := rfl
  have h2 : IntKind.i64.max = 9223372036854775807 := rfl
  simp only [Lit.wf, Bool.and_eq_true, decide_eq_true_eq, h1, h2] at h
  omega
theorem wf_natU {n : Int} (h : (Lit.int .u64 n).wf = true) : ∃ m : Nat, n = (m : Int) ∧ m ≤ 18446744073709551615 := by
  have h1 : IntKind.u64.min = 0 := rfl
  have h2 : IntKind.u64.max = 18446744073709551615 := rfl
  simp only [Lit.wf, Bool.and_eq_true, decide_eq_true_eq, h1, h2] at h
  exact ⟨n.toNat, by omega, by omega⟩
section
variable {H : Type} {enc : TypeId × Value → H} {W : World}
theorem opn_part {t : TypeId} {fs : Array Field} (ht : Try.prog.underlying t = some (.struct fs)) {fuel : Nat} {cs : List Value} {d : DataW H} {pl : List MemPlace}
    (h : DataW.trod enc Try.prog W 0 (fun _ => true) true fuel t cs = some (d, pl)) (hs : Small t d) (i : Nat) (e : TypeId) (o n : Nat)
    (hi : (fs[i]?).map (fun f => (f.type, f.offset)) = some (e, o)) (hn : Try.prog.cellsOf e = n) :
    ∃ m y p, DataW.trod enc Try.prog W 0 (fun _ => true) true m e ((cs.drop o).take n) = some (y, p) ∧ Small e y := by
  obtain ⟨_, m, hf⟩ := opn_struct ht h hs
  cases hfi : fs[i]? with
  | none => rw [hfi] at hi; simp at hi
  | some f =>
    rw [hfi] at hi
    simp only [Option.map_some, Option.some.injEq, Prod.mk.injEq] at hi
    obtain ⟨y, h1, h2⟩ := hf i f hfi
    rw [hi.1, hi.2, hn] at h1
    rw [hi.1] at h2
    exact ⟨m, y.1, y.2, h1, h2⟩


theorem one_bulk {H : Type} (d : DataW H) : 1 ≤ Rows.uptoBulk d := by
  cases d with
  | lit l => cases l <;> simp [Rows.uptoBulk]
  | nil => simp [Rows.uptoBulk]
  | ptr d => simp [Rows.uptoBulk]
  | slice elems spare => simp [Rows.uptoBulk]
  | agg parts => simp [Rows.uptoBulk]
  | iface t d => simp [Rows.uptoBulk]
  | map entries => simp [Rows.uptoBulk]
  | held h => simp [Rows.uptoBulk]
theorem length_bulk {H : Type} : ∀ l : List (DataW H), l.length ≤ Rows.uptoBulkAll l
  | [] => by simp [Rows.uptoBulkAll]
  | x :: r => by
    have h1 := length_bulk r
    have h2 := one_bulk x
    simp only [Rows.uptoBulkAll, List.length_cons]
    omega

theorem sl_small {t e : TypeId} (ht : Try.prog.underlying t = some (.slice e)) {fuel : Nat} {A : Option Addr} {n c : Nat} {d : DataW H} {pl : List MemPlace}
    (h : DataW.trod enc Try.prog W 0 (fun _ => true) true fuel t [.slice A n c] = some (d, pl)) (hs : Small t d) : n ≤ 1048576 := by
  rcases open_slice ht h with ⟨hcs, hx⟩ | ⟨a, len, cap, m, n', D, Pl, hcs, _, hl, hm, hmm, hx, hi⟩
  · simp only [List.cons.injEq, and_true] at hcs
    injection hcs with _ e2
    omega
  · have hd : d = _ := congrArg Prod.fst hx
    subst hd
    simp only [List.cons.injEq, and_true] at hcs
    injection hcs with _ e2
    have h1 := hs.2
    simp only [Rows.uptoBulk] at h1
    have h2 := length_bulk ((List.range len).map D)
    rw [List.length_map, List.length_range] at h2
    omega
theorem opn_u64 : Opens enc W 28 (fun cs (n : Nat) => cs = [.int .u64 (n : Int)] ∧ n ≤ 18446744073709551615) := fun h hs => by
  obtain ⟨n, h1, h2⟩ := opn_int Try.underlying28 h hs
  obtain ⟨m, rfl, hu⟩ := wf_natU h2
  exact ⟨m, h1, hu⟩
/-- a state -/
theorem opn_form {fuel : Nat} {cs : List Value} {d : DataW H} {pl : List MemPlace} (h : DataW.trod enc Try.prog W 0 (fun _ => true) true fuel 53 cs = some (d, pl)) (hs : Small 53 d) :
    ∃ (term : Nat) (vote : Int) (base bT : Nat) (A : Option Addr) (ts : List Nat) (c : Nat), cs = [.int .u64 (term : Int), .int .i64 vote, .int .u64 (base : Int), .int .u64 (bT : Int), .slice A ts.length c] ∧ Sl NE W A ts ∧ ts.length ≤ 1048576 ∧ (ts.length ≤ c ∧ c ≤ 140737488351232) ∧ term ≤ 18446744073709551615 ∧ base ≤ 18446744073709551615 := by
  have hl := (opn_struct Try.underlying53 h hs).1
  rw [Try.ceFo] at hl
  obtain ⟨a0, a1, a2, a3, a4, rfl⟩ := len_5 hl
  obtain ⟨m0, y0, p0, h0, s0⟩ := opn_part Try.underlying53 h hs 0 28 0 1 rfl Try.ceU64
  obtain ⟨m1, y1, p1, h1, s1⟩ := opn_part Try.underlying53 h hs 1 3 1 1 rfl Try.ceI
  obtain ⟨m2, y2, p2, h2, s2⟩ := opn_part Try.underlying53 h hs 2 28 2 1 rfl Try.ceU64
  obtain ⟨m3, y3, p3, h3, s3⟩ := opn_part Try.underlying53 h hs 3 28 3 1 rfl Try.ceU64
  obtain ⟨m4, y4, p4, h4, s4⟩ := opn_part Try.underlying53 h hs 4 46 4 1 rfl Try.ceU64s
  obtain ⟨x0, e0, l0⟩ := opn_u64 h0 s0
  obtain ⟨x1, e1, l1⟩ := opn_int Try.underlying3 h1 s1
  obtain ⟨x2, e2, l2⟩ := opn_u64 h2 s2
  obtain ⟨x3, e3, l3⟩ := opn_u64 h3 s3
  obtain ⟨K, x4, c4, e4, hK, hc4, hd4⟩ := opn_sl NE Try.underlying46 Try.ceU64 Try.beU64 opn_u64 h4 s4
  rw [e4] at h4
  have b4 := sl_small Try.underlying46 h4 s4
  simp at e0 e1 e2 e3 e4
  subst e0 e1 e2 e3 e4
  exact ⟨x0, x1, x2, x3, K, x4, c4, rfl, hK, b4, ⟨hc4, by simp only [NE] at hd4; omega⟩, l0, l2⟩
theorem opn_note : Opens enc W 61 (NoteE.rep W Any) := by
  intro fuel cs d pl h hs
  have hl := (opn_struct Try.underlying61 h hs).1
  rw [Try.ceNo] at hl
  obtain ⟨a0, a1, a2, a3, a4, a5, a6, a7, a8, rfl⟩ := len_9 hl
  obtain ⟨m0, y0, p0, h0, s0⟩ := opn_part Try.underlying61 h hs 0 3 0 1 rfl Try.ceI
  obtain ⟨m1, y1, p1, h1, s1⟩ := opn_part Try.underlying61 h hs 1 3 1 1 rfl Try.ceI
  obtain ⟨m2, y2, p2, h2, s2⟩ := opn_part Try.underlying61 h hs 2 3 2 1 rfl Try.ceI
  obtain ⟨m3, y3, p3, h3, s3⟩ := opn_part Try.underlying61 h hs 3 28 3 1 rfl Try.ceU64
  obtain ⟨m4, y4, p4, h4, s4⟩ := opn_part Try.underlying61 h hs 4 28 4 1 rfl Try.ceU64
  obtain ⟨m5, y5, p5, h5, s5⟩ := opn_part Try.underlying61 h hs 5 28 5 1 rfl Try.ceU64
  obtain ⟨m6, y6, p6, h6, s6⟩ := opn_part Try.underlying61 h hs 6 28 6 1 rfl Try.ceU64
  obtain ⟨m7, y7, p7, h7, s7⟩ := opn_part Try.underlying61 h hs 7 46 7 1 rfl Try.ceU64s
  obtain ⟨m8, y8, p8, h8, s8⟩ := opn_part Try.underlying61 h hs 8 4 8 1 rfl Try.ceBo
  obtain ⟨x0, e0, l0⟩ := opn_int Try.underlying3 h0 s0
  obtain ⟨x1, e1, l1⟩ := opn_int Try.underlying3 h1 s1
  obtain ⟨x2, e2, l2⟩ := opn_int Try.underlying3 h2 s2
  obtain ⟨x3, e3, l3⟩ := opn_u64 h3 s3
  obtain ⟨x4, e4, l4⟩ := opn_u64 h4 s4
  obtain ⟨x5, e5, l5⟩ := opn_u64 h5 s5
  obtain ⟨x6, e6, l6⟩ := opn_u64 h6 s6
  obtain ⟨K, x7, c7, e7, hK, hc7, hd7⟩ := opn_sl NE Try.underlying46 Try.ceU64 Try.beU64 opn_u64 h7 s7
  rw [e7] at h7
  have b7 := sl_small Try.underlying46 h7 s7
  obtain ⟨x8, e8⟩ := opn_bool Try.underlying4 h8 s8
  simp at e0 e1 e2 e3 e4 e5 e6 e7 e8
  subst e0 e1 e2 e3 e4 e5 e6 e7 e8
  exact ⟨⟨x0, x1, x2, x3, x4, x5, x6, x7, x8⟩, K, c7, rfl, ⟨hK, b7, l3, l4, l5, l6⟩⟩
/-- a row of notes -/
theorem opn_notes {fuel : Nat} {v : Value} {d : DataW H} {pl : List MemPlace} (h : DataW.trod enc Try.prog W 0 (fun _ => true) true fuel 54 [v] = some (d, pl)) (hs : Small 54 d) :
    ∃ (A : Option Addr) (l : List LNote) (c : Nat), v = .slice A l.length c ∧ Sl NoteE W A l := by
  obtain ⟨A, l, c, e, hA, hc, hd⟩ := opn_sl NoteE Try.underlying54 Try.ceNo Try.beNo opn_note h hs
  exact ⟨A, l, c, by simpa using e, hA⟩
end
end Go.Proofs.Ytjpcekpllfelhaa
