/- A node of the group in plain words and in memory. -/
import Derived.Test.YtjpcekpllfelhaaSl
import Derived.Test.YtjpcekpllfelhaaBlk
import Derived.Test.YtjpcekpllfelhaaOwnB
namespace Go.Proofs.Ytjpcekpllfelhaa
open Go.RowKit

theorem below_step {a b c : World} (h : Below a.heap.size a b) (k : Below b.heap.size b c) : Below a.heap.size a c := h.trans (k.mono h.size)
/-- an entry of a log: its term, its data -/
structure LEnt where
  term : Nat
  data : List UInt8
instance : Inhabited LEnt := ⟨⟨0, []⟩⟩
/-- a node -/
structure LNode where
  term : Nat
  vote : Int
  base : Nat
  baseTerm : Nat
  log : List LEnt
  id : Nat
  n : Nat
  limit : Int
  role : Int
  lead : Int
  commit : Nat
  clock : Int
  votes : List Bool
  mat : List Nat
  next : List Nat
/-- an entry in memory -/
def EntE : ER LEnt where
  size := 2
  pos := by omega
  bytes := 32
  bpos := by omega
  rep w S vs e := ∃ A c, vs = [.int .u64 (e.term : Int), .slice A e.data.length c] ∧ e.term ≤ 18446744073709551615 ∧ Bs w A e.data ∧ At S A e.data.length ∧ e.data.length ≤ c ∧ c ≤ 9223372036854775807
  len := by rintro w S vs a ⟨A, c, rfl, _⟩; rfl
  one := by rintro w S vs a ⟨A, c, rfl, _⟩ v hv; simp at hv; rcases hv with rfl | rfl <;> rfl
  keep := by rintro w w' S vs a ⟨A, c, rfl, h0, h1, h2, h3⟩ hs; exact ⟨A, c, rfl, h0, h1.sameS h2 hs, h2, h3⟩
  mono := by rintro w S S' vs a ⟨A, c, rfl, h0, h1, h2, h3⟩ hs; exact ⟨A, c, rfl, h0, h1, h1.atMono h2 hs, h3⟩
theorem OwnB.sameS {b : Nat} {S : Nat → Prop} {w w' : World} {A : Option Addr} {l : List UInt8} {c : Nat} (h : OwnB b w A l c) (ha : ∀ g, (Value.slice A l.length c).ownBlock = some g → S g) (hs : Same S w w') : OwnB b w' A l c := by
  refine ⟨h.1, ?_⟩
  rcases h.2 with h4 | ⟨g, cap, cur, e1, e2, e3, e4⟩
  · exact .inl h4
  · have hg : S g := ha g (by rw [e1]; rfl)
    have hlt : g < w.heap.size := by
      rcases Nat.lt_or_ge g w.heap.size with h5 | h5
      · exact h5
      · rw [Array.getElem?_eq_none h5] at e3; cases e3
    exact .inr ⟨g, cap, cur, e1, e2, by rw [hs.2 g hg hlt]; exact e3, e4⟩
/-- .. whose data is a row of its own -/
def EntO : ER LEnt where
  size := 2
  pos := by omega
  bytes := 32
  bpos := by omega
  rep w S vs e := ∃ A c, vs = [.int .u64 (e.term : Int), .slice A e.data.length c] ∧ e.term ≤ 18446744073709551615 ∧ OwnB 0 w A e.data c ∧ (∀ g, (Value.slice A e.data.length c).ownBlock = some g → S g) ∧ e.data.length ≤ 140737488355328
  len := by rintro w S vs a ⟨A, c, rfl, _⟩; rfl
  one := by rintro w S vs a ⟨A, c, rfl, _⟩ v hv; simp at hv; rcases hv with rfl | rfl <;> rfl
  keep := by rintro w w' S vs a ⟨A, c, rfl, h0, h1, h2, h3⟩ hs; exact ⟨A, c, rfl, h0, h1.sameS h2 hs, h2, h3⟩
  mono := by rintro w S S' vs a ⟨A, c, rfl, h0, h1, h2, h3⟩ hs; exact ⟨A, c, rfl, h0, h1, fun g e => hs g (OwnB.lt h1 g e).2 (h2 g e), h3⟩
theorem EntO.flat {w : World} {S : Nat → Prop} : ∀ {vs : List Value} {xs : List LEnt}, EntO.flat w S vs xs → EntE.flat w S vs xs
  | _, [], h => h
  | _, x :: xs, ⟨v, r, e, ⟨A, c, e1, h0, h1, h2, h3⟩, hr⟩ => ⟨v, r, e, ⟨A, c, e1, h0, OwnB.bs h1 h3, fun ad e hn => by
      obtain ⟨g, cap, e', _⟩ := World.ownsRow.form h1 hn
      injection e' with e2
      rw [e] at e2
      rw [Option.some.inj e2]
      exact h2 g (by rw [e, e2]; rfl), (OwnB.caps h1).1, (OwnB.caps h1).2⟩, EntO.flat hr⟩
theorem Own.ent {t : TypeId} {w : World} {B : Nat} {S : Nat → Prop} {v : Value} {xs : List LEnt} (h : Own EntO t w B S v xs) : Own EntE t w B S v xs := by
  obtain ⟨vs, h, hf⟩ := h
  exact ⟨vs, h, EntO.flat hf⟩
/-- entry k: its cells -/
theorem EntE.at_ {w : World} {A : Option Addr} {S : Nat → Prop} {l : List LEnt} (h : SlS EntE w S A l) {k : Nat} (hk : k < l.length) :
    ∃ ad P c, A = some ad ∧ ad.block < w.heap.size ∧ w.cell? (ad.add (k * 2)) = some (.int .u64 (l[k].term : Int)) ∧ w.cell? ⟨(ad.add (k * 2)).block, (ad.add (k * 2)).off + 1, none⟩ = some (.slice P l[k].data.length c) ∧
      l[k].term ≤ 18446744073709551615 ∧ Bs w P l[k].data ∧ At S P l[k].data.length ∧ l[k].data.length ≤ c ∧ c ≤ 9223372036854775807 := by
  obtain ⟨ad, vs, rfl, hb, ⟨P, c, rfl, h1⟩, h4, _, h5⟩ := SlS.at_ h hk
  exact ⟨ad, P, c, rfl, hb, h4 _ rfl, h5 1 _ (by decide) rfl, h1⟩
/-- numbers, truths in memory -/
def NE : ER Nat where
  size := 1
  pos := by omega
  bytes := 8
  bpos := by omega
  rep _ _ vs n := vs = [.int .u64 (n : Int)] ∧ n ≤ 18446744073709551615
  len := by rintro w S vs a ⟨rfl, _⟩; rfl
  one := by rintro w S vs a ⟨rfl, _⟩ v hv; simp at hv; subst hv; rfl
  keep := by rintro w w' S vs a h _; exact h
  mono := by rintro w S S' vs a h _; exact h
def BoE : ER Bool where
  size := 1
  pos := by omega
  bytes := 1
  bpos := by omega
  rep _ _ vs n := vs = [.bool n]
  len := by rintro w S vs a rfl; rfl
  one := by rintro w S vs a rfl v hv; simp at hv; subst hv; rfl
  keep := by rintro w w' S vs a h _; exact h
  mono := by rintro w S S' vs a h _; exact h
def lastN (d : LNode) : Nat := d.base + d.log.length
/-- the node's cells -/
def nodeC (E V M X : Value) (d : LNode) : Array Value :=
  #[.int .u64 (d.term : Int), .int .i64 d.vote, .int .u64 (d.base : Int), .int .u64 (d.baseTerm : Int), E, .int .i64 (d.id : Int), .int .i64 (d.n : Int), .int .i64 d.limit, .int .i64 d.role, .int .i64 d.lead, .int .u64 (d.commit : Int), .int .i64 d.clock, V, M, X]
end Go.Proofs.Ytjpcekpllfelhaa
