/- Opening a law's arguments of the catalog's kinds: a document's entry, an index, a string. -/
import Derived.Test.YtemidaamnldjmaaOpS
import Derived.Test.YtemidaamnldjmaaCatE
namespace Go.Proofs.Ytemidaamnldjmaa
open Go.ChangeShapes Go.WideShapes Go.ChangeAt Go.RowKit Go.Deep

theorem Try.ceS : Try.prog.cellsOf 9 = 1 := by kernel_rfl
theorem Try.ceI : Try.prog.cellsOf 3 = 1 := by kernel_rfl
theorem Try.beI : Try.prog.bytesOf 3 = 8 := by kernel_rfl
theorem Try.ceB : Try.prog.cellsOf 4 = 1 := by kernel_rfl
theorem Try.ceIs : Try.prog.cellsOf 53 = 1 := by kernel_rfl
theorem Try.ceU8s : Try.prog.cellsOf 29 = 1 := by kernel_rfl
theorem Try.ceCols : Try.prog.cellsOf 22 = 1 := by kernel_rfl
theorem Try.ceIxs : Try.prog.cellsOf 23 = 1 := by kernel_rfl
theorem Try.ceSts : Try.prog.cellsOf 26 = 1 := by kernel_rfl
theorem Try.ceCol : Try.prog.cellsOf 51 = 3 := by kernel_rfl
theorem Try.beCol : Try.prog.bytesOf 51 = 32 := by kernel_rfl
theorem Try.ceIx : Try.prog.cellsOf 55 = 3 := by kernel_rfl
theorem Try.beIx : Try.prog.bytesOf 55 = 48 := by kernel_rfl
theorem Try.ceSt : Try.prog.cellsOf 62 = 2 := by kernel_rfl
theorem Try.beSt : Try.prog.bytesOf 62 = 32 := by kernel_rfl
theorem Try.ceTab : Try.prog.cellsOf 25 = 5 := by kernel_rfl
theorem Try.ceEnt : Try.prog.cellsOf 28 = 6 := by kernel_rfl

/-- a list of whole numbers as elements -/
def IntE : ER Int where
  size := 1
  pos := by omega
  bytes := 8
  bpos := by omega
  rep _ _ vs n := vs = [.int .i64 n] ∧ (Lit.int .i64 n).wf = true
  len := by rintro w S vs a ⟨rfl, _⟩; rfl
  one := by rintro w S vs a ⟨rfl, _⟩ v hv; simp at hv; subst hv; rfl
  keep := by rintro w w' S vs a h _; exact h
  mono := by rintro w S S' vs a h _; exact h
theorem IntE.flat_eq {w : World} {S : Nat → Prop} : ∀ {vs : List Value} {xs : List Int}, IntE.flat w S vs xs → vs = xs.map (Value.int .i64) ∧ ∀ n ∈ xs, (Lit.int .i64 n).wf = true
  | _, [], h => ⟨h, by simp⟩
  | _, x :: xs, ⟨v, r, e, ⟨h1, h2⟩, h3⟩ => by
    obtain ⟨h4, h5⟩ := IntE.flat_eq h3
    subst e h1 h4
    refine ⟨rfl, fun n hn => ?_⟩
    rcases List.mem_cons.1 hn with rfl | h
    · exact h2
    · exact h5 n h
theorem IntE.ints {w : World} {A : Option Addr} {xs : List Int} (h : Sl IntE w A xs) : Is w A xs := by
  obtain ⟨_, vs, h2, _, h3⟩ := h
  obtain ⟨rfl, h5⟩ := IntE.flat_eq h3
  exact ⟨h2, h5⟩

theorem three {α : Type} : ∀ {l : List α}, l.length = 3 → ∃ a b c, l = [a, b, c]
  | [a, b, c], _ => ⟨a, b, c, rfl⟩
theorem two {α : Type} : ∀ {l : List α}, l.length = 2 → ∃ a b, l = [a, b]
  | [a, b], _ => ⟨a, b, rfl⟩
theorem five {α : Type} : ∀ {l : List α}, l.length = 5 → ∃ a b c d e, l = [a, b, c, d, e]
  | [a, b, c, d, e], _ => ⟨a, b, c, d, e, rfl⟩
theorem six {α : Type} : ∀ {l : List α}, l.length = 6 → ∃ a b c d e f, l = [a, b, c, d, e, f]
  | [a, b, c, d, e, f], _ => ⟨a, b, c, d, e, f, rfl⟩

section
variable {H : Type} {enc : TypeId × Value → H} {W : World}

theorem opn_part {t : TypeId} {fs : Array Field} (ht : Try.prog.underlying t = some (.struct fs)) {fuel : Nat} {cs : List Value} {d : DataW H} {pl : List MemPlace}
    (h : DataW.trod enc Try.prog W 0 (fun _ => true) true fuel t cs = some (d, pl)) (hs : ∀ n ∈ d.weights Try.prog t, n ≤ reachBytes) (i : Nat) (e : TypeId) (o n : Nat)
    (hi : (fs[i]?).map (fun f => (f.type, f.offset)) = some (e, o)) (hn : Try.prog.cellsOf e = n) :
    ∃ m y p, DataW.trod enc Try.prog W 0 (fun _ => true) true m e ((cs.drop o).take n) = some (y, p) ∧ ∀ k ∈ y.weights Try.prog e, k ≤ reachBytes := by
  obtain ⟨_, m, hf⟩ := opn_struct ht h hs
  cases hfi : fs[i]? with
  | none => rw [hfi] at hi; simp at hi
  | some f =>
    rw [hfi] at hi
    simp only [Option.map_some, Option.some.injEq, Prod.mk.injEq] at hi
    obtain ⟨y, h1, h2⟩ := hf i f hfi
    rw [hi.1, hi.2, hn] at h1
    rw [hi.1] at h2
    exact ⟨m, y.1, y.2, h1, h2⟩

theorem opn_col : Opens enc W 51 (ColE.rep W Any) := by
  intro fuel cs d pl h hs
  have hl := (opn_struct Try.underlying51 h hs).1
  rw [Try.ceCol] at hl
  obtain ⟨a, b, c, rfl⟩ := three hl
  obtain ⟨m0, y0, p0, h0, s0⟩ := opn_part Try.underlying51 h hs 0 9 0 1 rfl Try.ceS
  obtain ⟨m1, y1, p1, h1, s1⟩ := opn_part Try.underlying51 h hs 1 3 1 1 rfl Try.ceI
  obtain ⟨m2, y2, p2, h2, s2⟩ := opn_part Try.underlying51 h hs 2 4 2 1 rfl Try.ceB
  obtain ⟨x0, e0, l0⟩ := opn_string Try.underlying9 h0 s0
  obtain ⟨x1, e1, l1⟩ := opn_int Try.underlying3 h1 s1
  obtain ⟨x2, e2⟩ := opn_bool Try.underlying4 h2 s2
  simp at e0 e1 e2
  subst e0 e1 e2
  exact ⟨⟨x0, x1, x2⟩, rfl, l0⟩
theorem opn_intE : Opens enc W 3 (IntE.rep W Any) := opn_int Try.underlying3
instance : Inhabited LCol := ⟨⟨⟨#[]⟩, 0, false⟩⟩
instance : Inhabited LIx := ⟨⟨⟨#[]⟩, [], false⟩⟩
instance : Inhabited LSt := ⟨⟨0, []⟩⟩
theorem opn_ix : Opens enc W 55 (IxE.rep W Any) := by
  intro fuel cs d pl h hs
  have hl := (opn_struct Try.underlying55 h hs).1
  rw [Try.ceIx] at hl
  obtain ⟨a, b, c, rfl⟩ := three hl
  obtain ⟨m0, y0, p0, h0, s0⟩ := opn_part Try.underlying55 h hs 0 9 0 1 rfl Try.ceS
  obtain ⟨m1, y1, p1, h1, s1⟩ := opn_part Try.underlying55 h hs 1 53 1 1 rfl Try.ceIs
  obtain ⟨m2, y2, p2, h2, s2⟩ := opn_part Try.underlying55 h hs 2 4 2 1 rfl Try.ceB
  obtain ⟨x0, e0, l0⟩ := opn_string Try.underlying9 h0 s0
  obtain ⟨A, xs, cc, e1, hx, hc1, hc2⟩ := opn_sl IntE Try.underlying53 Try.ceI Try.beI opn_intE h1 s1
  obtain ⟨x2, e2⟩ := opn_bool Try.underlying4 h2 s2
  simp at e0 e1 e2
  subst e0 e1 e2
  exact ⟨⟨x0, xs, x2⟩, A, cc, rfl, IntE.ints hx, At.any _ _, hx.leb, l0⟩
theorem opn_st : Opens enc W 62 (StE.rep W Any) := by
  intro fuel cs d pl h hs
  have hl := (opn_struct Try.underlying62 h hs).1
  rw [Try.ceSt] at hl
  obtain ⟨a, b, rfl⟩ := two hl
  obtain ⟨m0, y0, p0, h0, s0⟩ := opn_part Try.underlying62 h hs 0 3 0 1 rfl Try.ceI
  obtain ⟨m1, y1, p1, h1, s1⟩ := opn_part Try.underlying62 h hs 1 29 1 1 rfl Try.ceU8s
  obtain ⟨x0, e0, l0⟩ := opn_int Try.underlying3 h0 s0
  obtain ⟨A, l, cc, e1, hb, hc1, hc2⟩ := opn_bytes (v := b) h1 s1
  simp at e0
  subst e0 e1
  exact ⟨⟨x0, l⟩, A, cc, rfl, hb, At.any _ _, hc1, Nat.le_trans hc2 (by decide)⟩

/-- a table -/
theorem opn_table {fuel : Nat} {cs : List Value} {d : DataW H} {pl : List MemPlace} (h : DataW.trod enc Try.prog W 0 (fun _ => true) true fuel 25 cs = some (d, pl)) (hs : ∀ n ∈ d.weights Try.prog 25, n ≤ reachBytes) :
    ∃ (id keys : Int) (tn : ByteArray) (A B : Option Addr) (cols : List LCol) (ixs : List LIx) (ca cb : Nat), cs = [.int .i64 id, .string tn, .slice A cols.length ca, .int .i64 keys, .slice B ixs.length cb] ∧ Sl ColE W A cols ∧ Sl IxE W B ixs ∧ tn.size ≤ 140737488351232 := by
  have hl := (opn_struct Try.underlying25 h hs).1
  rw [Try.ceTab] at hl
  obtain ⟨a, b, c, d, e, rfl⟩ := five hl
  obtain ⟨m0, y0, p0, h0, s0⟩ := opn_part Try.underlying25 h hs 0 3 0 1 rfl Try.ceI
  obtain ⟨m1, y1, p1, h1, s1⟩ := opn_part Try.underlying25 h hs 1 9 1 1 rfl Try.ceS
  obtain ⟨m2, y2, p2, h2, s2⟩ := opn_part Try.underlying25 h hs 2 22 2 1 rfl Try.ceCols
  obtain ⟨m3, y3, p3, h3, s3⟩ := opn_part Try.underlying25 h hs 3 3 3 1 rfl Try.ceI
  obtain ⟨m4, y4, p4, h4, s4⟩ := opn_part Try.underlying25 h hs 4 23 4 1 rfl Try.ceIxs
  obtain ⟨x0, e0, l0⟩ := opn_int Try.underlying3 h0 s0
  obtain ⟨x1, e1, l1⟩ := opn_string Try.underlying9 h1 s1
  obtain ⟨A, cols, ca, e2, hA, _, _⟩ := opn_sl ColE Try.underlying22 Try.ceCol Try.beCol opn_col h2 s2
  obtain ⟨x3, e3, l3⟩ := opn_int Try.underlying3 h3 s3
  obtain ⟨B, ixs, cb, e4, hB, _, _⟩ := opn_sl IxE Try.underlying23 Try.ceIx Try.beIx opn_ix h4 s4
  simp at e0 e1 e2 e3 e4
  subst e0 e1 e2 e3 e4
  exact ⟨x0, x3, x1, A, B, cols, ixs, ca, cb, rfl, hA, hB, l1⟩

/-- the document's entry -/
theorem opn_rent {fuel : Nat} {cs : List Value} {d : DataW H} {pl : List MemPlace} (h : DataW.trod enc Try.prog W 0 (fun _ => true) true fuel 28 cs = some (d, pl)) (hs : ∀ n ∈ d.weights Try.prog 28, n ≤ reachBytes) :
    ∃ (id keys : Int) (tn : ByteArray) (A B S : Option Addr) (cols : List LCol) (ixs : List LIx) (sts : List LSt) (ca cb cc : Nat), cs = [.int .i64 id, .string tn, .slice A cols.length ca, .int .i64 keys, .slice B ixs.length cb, .slice S sts.length cc] ∧ Sl ColE W A cols ∧ Sl IxE W B ixs ∧ Sl StE W S sts ∧ tn.size ≤ 140737488351232 ∧ sts.length ≤ cc := by
  have hl := (opn_struct Try.underlying28 h hs).1
  rw [Try.ceEnt] at hl
  obtain ⟨a, b, c, d, e, f, rfl⟩ := six hl
  obtain ⟨m0, y0, p0, h0, s0⟩ := opn_part Try.underlying28 h hs 0 25 0 5 rfl Try.ceTab
  obtain ⟨m1, y1, p1, h1, s1⟩ := opn_part Try.underlying28 h hs 1 26 5 1 rfl Try.ceSts
  obtain ⟨id, keys, tn, A, B, cols, ixs, ca, cb, e0, hA, hB, hn⟩ := opn_table h0 s0
  obtain ⟨S, sts, cc, e1, hS, hc, _⟩ := opn_sl StE Try.underlying26 Try.ceSt Try.beSt opn_st h1 s1
  simp at e0 e1
  obtain ⟨rfl, rfl, rfl, rfl, rfl⟩ := e0
  subst e1
  exact ⟨id, keys, tn, A, B, S, cols, ixs, sts, ca, cb, cc, rfl, hA, hB, hS, hn, hc⟩

/-- an index -/
theorem opn_index {fuel : Nat} {cs : List Value} {d : DataW H} {pl : List MemPlace} (h : DataW.trod enc Try.prog W 0 (fun _ => true) true fuel 55 cs = some (d, pl)) (hs : ∀ n ∈ d.weights Try.prog 55, n ≤ reachBytes) :
    ∃ (xn : ByteArray) (C : Option Addr) (xc : List Int) (xu : Bool) (c : Nat), cs = [.string xn, .slice C xc.length c, .bool xu] ∧ Is W C xc ∧ xc.length * 8 ≤ 140737488351232 ∧ xn.size ≤ 140737488351232 := by
  obtain ⟨x, C, c, rfl, h1, _, h2, h3⟩ := opn_ix h hs
  exact ⟨x.name, C, x.cols, x.uniq, c, rfl, h1, h2, h3⟩
end
end Go.Proofs.Ytemidaamnldjmaa
