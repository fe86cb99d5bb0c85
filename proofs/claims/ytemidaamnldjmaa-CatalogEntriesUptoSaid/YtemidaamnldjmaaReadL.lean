/- What an entry is written as, value by value, and what is read back: plain. -/
import Derived.Test.YtemidaamnldjmaaCatE
import Derived.Test.YtemidaamnldjmaaCellC
namespace Go.Proofs.Ytemidaamnldjmaa
open Go.RowKit

def rdI : List LVal → Option (Int × List LVal)
  | .int n :: r => some (n, r)
  | _ => none
def rdT : List LVal → Option (ByteArray × List LVal)
  | .text s :: r => some (s, r)
  | _ => none
def rdB : List LVal → Option (Bool × List LVal)
  | .bool b :: r => some (b, r)
  | _ => none
def rdY : List LVal → Option (List UInt8 × List LVal)
  | .bytes l :: r => some (l, r)
  | _ => none
/-- a column -/
def rdC (l : List LVal) : Option (LCol × List LVal) :=
  (rdT l).bind fun a => (rdI a.2).bind fun b => (rdB b.2).bind fun c => some (⟨a.1, b.1, c.1⟩, c.2)
def rdCs : Nat → List LVal → Option (List LCol × List LVal)
  | 0, l => some ([], l)
  | n + 1, l => (rdC l).bind fun a => (rdCs n a.2).bind fun b => some (a.1 :: b.1, b.2)
def rdNs : Nat → List LVal → Option (List Int × List LVal)
  | 0, l => some ([], l)
  | n + 1, l => (rdI l).bind fun a => (rdNs n a.2).bind fun b => some (a.1 :: b.1, b.2)
/-- an index and its state -/
def rdX (l : List LVal) : Option ((LIx × LSt) × List LVal) :=
  (rdT l).bind fun a => (rdB a.2).bind fun b => (rdI b.2).bind fun c => (rdNs c.1.toNat c.2).bind fun d => (rdI d.2).bind fun e => (rdY e.2).bind fun f => some ((⟨a.1, d.1, b.1⟩, ⟨e.1, f.1⟩), f.2)
def rdXs : Nat → List LVal → Option (List LIx × List LSt)
  | _, [] => some ([], [])
  | 0, _ :: _ => none
  | f + 1, x :: l => (rdX (x :: l)).bind fun a => (rdXs f a.2).bind fun b => some (a.1.1 :: b.1, a.1.2 :: b.2)
/-- an entry -/
def rdE (l : List LVal) : Option LEnt :=
  (rdI l).bind fun a => (rdT a.2).bind fun b => (rdI b.2).bind fun c => (rdI c.2).bind fun d => (rdCs d.1.toNat d.2).bind fun e => (rdXs e.2.length e.2).bind fun f => some ⟨⟨a.1, c.1, b.1, e.1, f.1⟩, f.2⟩
theorem rdI_lt {l : List LVal} {a : Int × List LVal} (h : rdI l = some a) : l = .int a.1 :: a.2 := by
  unfold rdI at h
  split at h
  · cases h; rfl
  · cases h
theorem rdT_lt {l : List LVal} {a : ByteArray × List LVal} (h : rdT l = some a) : l = .text a.1 :: a.2 := by
  unfold rdT at h
  split at h
  · cases h; rfl
  · cases h
theorem rdB_lt {l : List LVal} {a : Bool × List LVal} (h : rdB l = some a) : l = .bool a.1 :: a.2 := by
  unfold rdB at h
  split at h
  · cases h; rfl
  · cases h
theorem rdY_lt {l : List LVal} {a : List UInt8 × List LVal} (h : rdY l = some a) : l = .bytes a.1 :: a.2 := by
  unfold rdY at h
  split at h
  · cases h; rfl
  · cases h
theorem rdNs_le : ∀ {n : Nat} {l : List LVal} {a : List Int × List LVal}, rdNs n l = some a → a.2.length ≤ l.length
  | 0, l, a, h => by cases h; exact Nat.le_refl _
  | n + 1, l, a, h => by
    unfold rdNs at h
    obtain ⟨b, hb, h⟩ := Option.bind_eq_some_iff.1 h
    obtain ⟨c, hc, h⟩ := Option.bind_eq_some_iff.1 h
    cases h
    have h1 := rdI_lt hb
    have h2 := rdNs_le hc
    rw [h1, List.length_cons]
    exact Nat.le_succ_of_le h2
theorem rdX_lt {l : List LVal} {a : (LIx × LSt) × List LVal} (h : rdX l = some a) : a.2.length < l.length := by
  unfold rdX at h
  obtain ⟨b, hb, h⟩ := Option.bind_eq_some_iff.1 h
  obtain ⟨c, hc, h⟩ := Option.bind_eq_some_iff.1 h
  obtain ⟨d, hd, h⟩ := Option.bind_eq_some_iff.1 h
  obtain ⟨e, he, h⟩ := Option.bind_eq_some_iff.1 h
  obtain ⟨f, hf, h⟩ := Option.bind_eq_some_iff.1 h
  obtain ⟨g, hg, h⟩ := Option.bind_eq_some_iff.1 h
  cases h
  have h1 := congrArg List.length (rdT_lt hb)
  have h2 := congrArg List.length (rdB_lt hc)
  have h3 := congrArg List.length (rdI_lt hd)
  have h4 := rdNs_le he
  have h5 := congrArg List.length (rdI_lt hf)
  have h6 := congrArg List.length (rdY_lt hg)
  rw [List.length_cons] at h1 h2 h3 h5 h6
  show g.2.length < _
  omega
theorem rdXs_fuel : ∀ {f g : Nat} {l : List LVal}, l.length ≤ f → l.length ≤ g → rdXs f l = rdXs g l
  | f, g, [], _, _ => by cases f <;> cases g <;> rfl
  | f + 1, g + 1, x :: l, h1, h2 => by
    unfold rdXs
    cases hx : rdX (x :: l) with
    | none => rfl
    | some a =>
      have := rdX_lt hx
      rw [List.length_cons] at this h1 h2
      show (rdXs f a.2).bind _ = (rdXs g a.2).bind _
      rw [rdXs_fuel (f := f) (g := g) (by omega) (by omega)]
theorem rdXs_cons {f : Nat} {l : List LVal} (h : l.length ≤ f) (hl : l ≠ []) : rdXs f l = (rdX l).bind fun a => (rdXs f a.2).bind fun b => some (a.1.1 :: b.1, a.1.2 :: b.2) := by
  cases l with
  | nil => exact absurd rfl hl
  | cons x l =>
    cases f with
    | zero => rw [List.length_cons] at h; omega
    | succ f =>
      show (rdX (x :: l)).bind _ = _
      cases hx : rdX (x :: l) with
      | none => rfl
      | some a =>
        have := rdX_lt hx
        rw [List.length_cons] at this h
        show (rdXs f a.2).bind _ = (rdXs (f + 1) a.2).bind _
        rw [rdXs_fuel (f := f) (g := f + 1) (by omega) (by omega)]
/-- what is written -/
def wrC (c : LCol) : List LVal := [.text c.name, .int c.kind, .bool c.null]
def wrX (x : LIx) : List LVal := [.text x.name, .bool x.uniq, .int (x.cols.length : Int)] ++ x.cols.map LVal.int
def wrS (s : LSt) : List LVal := [.int s.phase, .bytes s.cur]
def wrXs : List LIx → List LSt → List LVal
  | x :: xs, s :: ss => wrX x ++ wrS s ++ wrXs xs ss
  | x :: xs, [] => wrX x ++ wrXs xs []
  | [], _ => []
def wrE (e : LEnt) : List LVal := [.int e.tab.id, .text e.tab.name, .int e.tab.keys, .int (e.tab.cols.length : Int)] ++ e.tab.cols.flatMap wrC ++ wrXs e.tab.ixs e.sts
theorem rdCs_wr : ∀ (cs : List LCol) (r : List LVal), rdCs cs.length (cs.flatMap wrC ++ r) = some (cs, r)
  | [], r => rfl
  | c :: cs, r => by
    rw [List.flatMap_cons, List.append_assoc, List.length_cons]
    show ((rdCs cs.length (cs.flatMap wrC ++ r)).bind fun b => some (c :: b.1, b.2)) = _
    rw [rdCs_wr cs r]
    rfl
theorem rdNs_wr : ∀ (ns : List Int) (r : List LVal), rdNs ns.length (ns.map LVal.int ++ r) = some (ns, r)
  | [], r => rfl
  | n :: ns, r => by
    show ((rdNs ns.length (ns.map LVal.int ++ r)).bind fun b => some (n :: b.1, b.2)) = _
    rw [rdNs_wr ns r]
    rfl
theorem rdX_wr (x : LIx) (s : LSt) (r : List LVal) : rdX (wrX x ++ wrS s ++ r) = some ((x, s), r) := by
  show ((rdNs ((x.cols.length : Int).toNat) (x.cols.map LVal.int ++ (wrS s) ++ r)).bind fun d => (rdI d.2).bind fun e => (rdY e.2).bind fun f => some (((⟨x.name, d.1, x.uniq⟩ : LIx), (⟨e.1, f.1⟩ : LSt)), f.2)) = _
  rw [List.append_assoc, Int.toNat_natCast, rdNs_wr]
  rfl
theorem rdXs_wr : ∀ (xs : List LIx) (ss : List LSt) (f : Nat), xs.length = ss.length → (wrXs xs ss).length ≤ f → rdXs f (wrXs xs ss) = some (xs, ss)
  | [], [], f, _, _ => by cases f <;> rfl
  | x :: xs, s :: ss, f, hl, hf => by
    have hl2 : xs.length = ss.length := by simpa using hl
    have hlen : (wrXs xs ss).length ≤ f := by
      have : (wrXs (x :: xs) (s :: ss)).length = (wrX x ++ wrS s).length + (wrXs xs ss).length := by
        show (wrX x ++ wrS s ++ wrXs xs ss).length = _
        rw [List.length_append]
      omega
    rw [rdXs_cons hf (by show wrX x ++ wrS s ++ wrXs xs ss ≠ []; simp [wrX])]
    show (rdX (wrX x ++ wrS s ++ wrXs xs ss)).bind _ = _
    rw [rdX_wr]
    show (rdXs f (wrXs xs ss)).bind _ = _
    rw [rdXs_wr xs ss f hl2 hlen]
    rfl
  | [], s :: ss, f, hl, _ => by simp at hl
  | x :: xs, [], f, hl, _ => by simp at hl
/-- what was written is read back -/
theorem rdE_wr (e : LEnt) (h : e.tab.ixs.length = e.sts.length) : rdE (wrE e) = some e := by
  obtain ⟨⟨id, keys, tn, cols, ixs⟩, sts⟩ := e
  show ((rdCs ((cols.length : Int).toNat) (cols.flatMap wrC ++ wrXs ixs sts)).bind fun e => (rdXs e.2.length e.2).bind fun f => some (⟨⟨id, keys, tn, e.1, f.1⟩, f.2⟩ : LEnt)) = _
  rw [Int.toNat_natCast, rdCs_wr]
  show ((rdXs (wrXs ixs sts).length (wrXs ixs sts)).bind fun f => some (⟨⟨id, keys, tn, cols, f.1⟩, f.2⟩ : LEnt)) = _
  rw [rdXs_wr ixs sts _ h (Nat.le_refl _)]
  rfl
end Go.Proofs.Ytemidaamnldjmaa
