/- A node of a group in plain words: what each call makes of it, and the messages that it answers. -/
import Derived.Test.YtjpcekpllfelhaaRfK
namespace Go.Proofs.Ytjpcekpllfelhaa
open Go.RowKit

/-- a message -/
structure LMsg where
  kind : Int := 0
  frm : Int := 0
  dst : Int := 0
  term : Nat := 0
  index : Nat := 0
  logTerm : Nat := 0
  commit : Nat := 0
  ents : List LEnt := []
  ok : Bool := false
/-- its cells; A, c: where its entries lie -/
def msgC (A : Option Addr) (c : Nat) (m : LMsg) : Array Value :=
  #[.int .i64 m.kind, .int .i64 m.frm, .int .i64 m.dst, .int .u64 (m.term : Int), .int .u64 (m.index : Int), .int .u64 (m.logTerm : Int), .int .u64 (m.commit : Int), .slice A m.ents.length c, .bool m.ok, .slice none 0 0]
/-- its entries lie in blocks of S -/
structure MsgAt (w : World) (S : Nat → Prop) (A : Option Addr) (c : Nat) (m : LMsg) : Prop where
  ents : SlS EntE w S A m.ents
  cap : m.ents.length ≤ c ∧ c ≤ 9223372036854775807
  term : m.term ≤ 18446744073709551615
  index : m.index ≤ 18446744073709551615
  logTerm : m.logTerm ≤ 18446744073709551615
  commit : m.commit ≤ 18446744073709551615
theorem MsgAt.same {w w' : World} {S : Nat → Prop} {A : Option Addr} {c : Nat} {m : LMsg} (h : MsgAt w S A c m) (hs : Same S w w') : MsgAt w' S A c m := ⟨h.ents.same hs, h.cap, h.term, h.index, h.logTerm, h.commit⟩
theorem MsgAt.below {w w' : World} {S : Nat → Prop} {A : Option Addr} {c : Nat} {m : LMsg} (h : MsgAt w S A c m) (hb : Below w.heap.size w w') : MsgAt w' S A c m := h.same (.of_below hb)
theorem MsgAt.mono {w : World} {S S' : Nat → Prop} {A : Option Addr} {c : Nat} {m : LMsg} (h : MsgAt w S A c m) (hs : ∀ b, b < w.heap.size → S b → S' b) : MsgAt w S' A c m := ⟨h.ents.mono hs, h.cap, h.term, h.index, h.logTerm, h.commit⟩
def MsgE : ER LMsg where
  size := 10
  pos := by omega
  bytes := 112
  bpos := by omega
  rep w S vs m := ∃ A c, vs = (msgC A c m).toList ∧ MsgAt w S A c m
  len := by rintro w S vs a ⟨A, c, rfl, _⟩; rfl
  one := by
    rintro w S vs a ⟨A, c, rfl, _⟩ v hv
    simp [msgC] at hv
    rcases hv with rfl | rfl | rfl | rfl | rfl | rfl | rfl | rfl | rfl | rfl <;> rfl
  keep := by rintro w w' S vs a ⟨A, c, rfl, h⟩ hs; exact ⟨A, c, rfl, h.same hs⟩
  mono := by rintro w S S' vs a ⟨A, c, rfl, h⟩ hs; exact ⟨A, c, rfl, h.mono hs⟩
/-- what goes to one that lacks something -/
def sendP (d : LNode) (i : Nat) : LMsg :=
  if d.next.getD i 0 ≤ d.base then { kind := 7, term := d.term, index := d.base, logTerm := d.baseTerm }
  else { kind := 5, term := d.term, index := d.next.getD i 0 - 1, logTerm := (termAt d (d.next.getD i 0 - 1)).1, commit := d.commit, ents := (fromR d (d.next.getD i 0)).take 16 }
/-- a message to each other one of the first k -/
def othersP (d : LNode) (mk : Nat → LMsg) (k : Nat) : List LMsg := ((List.range k).filter (· ≠ d.id)).map fun i => { mk i with frm := d.id, dst := i }
theorem othersP_succ (d : LNode) (mk : Nat → LMsg) (k : Nat) : othersP d mk (k + 1) = othersP d mk k ++ (if k = d.id then [] else [{ mk k with frm := d.id, dst := k }]) := by
  unfold othersP
  rw [List.range_succ, List.filter_append, List.map_append]
  congr 1
  by_cases h : k = d.id <;> simp [h]
/-- asking for votes -/
def askP (d : LNode) (kind : Int) (term : Nat) : LMsg := { kind := kind, term := term, index := lastN d, logTerm := lastT d }
def callP (d : LNode) (kind : Int) (term : Nat) : LNode × List LMsg :=
  ({ d with votes := (List.replicate d.n false).set d.id true }, othersP d (fun _ => askP d kind term) d.n)
def countT (l : List Bool) : Nat := l.foldl (fun n b => if b then n + 1 else n) 0
def mostP (d : LNode) (l : List Bool) : Bool := decide (d.n < 2 * countT l)
/-- insertion sort, as it goes -/
def bubP : Nat → List Nat → List Nat
  | 0, l => l
  | j + 1, l => if l.getD (j + 1) 0 < l.getD j 0 then bubP j ((l.set (j + 1) (l.getD j 0)).set j (l.getD (j + 1) 0)) else l
def insP (l : List Nat) (i : Nat) : Nat → List Nat
  | 0 => l
  | k + 1 => insP (bubP i l) (i + 1) k
def sortP (l : List Nat) : List Nat := insP l 1 (l.length - 1)
/-- agreeing -/
def agreeP (d : LNode) : LNode :=
  let i := (sortP d.mat).getD ((d.n - 1) / 2) 0
  if (termAt d i).2 = true ∧ (termAt d i).1 = d.term ∧ d.commit < i then { d with commit := i } else d
def addG (d : LNode) (data : List UInt8) : LNode := agreeP { d with log := d.log ++ [⟨d.term, data⟩], mat := d.mat.set d.id (lastN d + 1) }
def addM (d : LNode) (data : List UInt8) : LNode × List LMsg := (addG d data, othersP (addG d data) (sendP (addG d data)) d.n)
def begG (d : LNode) : LNode × List LMsg := addM { d with role := 3, lead := d.id, mat := List.replicate d.n 0, next := List.replicate d.n (lastN d + 1) } []
def stG (d : LNode) : LNode × List LMsg :=
  let d1 := { d with term := d.term + 1, vote := d.id, role := 2, lead := -1, clock := 0 }
  let r := callP d1 3 d1.term
  if mostP r.1 r.1.votes then begG r.1 else r
def tickG (d : LNode) : LNode × List LMsg :=
  if d.role = 3 then (d, othersP d (sendP d) d.n)
  else if d.clock + 1 < d.limit + d.id then ({ d with clock := d.clock + 1 }, [])
  else if d.term = 4611686018427387904 then ({ d with clock := 0 }, [])
  else if d.n = 1 then stG { d with clock := 0 }
  else callP { d with clock := 0, role := 1, lead := -1 } 1 (d.term + 1)
/-! ## messages that come in -/
def followP (d : LNode) (term : Nat) (lead : Int) : LNode := if d.term < term then { d with term := term, vote := -1, role := 0, lead := lead } else { d with role := 0, lead := lead }
def answerP (d : LNode) (m a : LMsg) : List LMsg := [{ a with frm := d.id, dst := m.frm }]
def upP (d : LNode) (m : LMsg) : Bool := decide (lastT d < m.logTerm) || (decide (m.logTerm = lastT d) && decide (lastN d ≤ m.index))
def properP (d : LNode) (m : LMsg) : Bool :=
  if m.frm < 0 ∨ (d.n : Int) ≤ m.frm ∨ m.dst ≠ d.id ∨ m.frm = d.id ∨ m.kind < 1 ∨ 7 < m.kind then false
  else risingP m.ents 0 m.term && decide (m.index ≤ 4611686018427387904) && decide (m.term ≤ 4611686018427387904)
def preVotedP (d : LNode) (m : LMsg) : LNode × List LMsg :=
  if m.ok = false then (if d.term < m.term then followP d m.term (-1) else d, [])
  else if d.role ≠ 1 ∨ m.term ≠ d.term + 1 then (d, [])
  else
    let d1 := { d with votes := d.votes.set m.frm.toNat true }
    if mostP d1 d1.votes then stG d1 else (d1, [])
def voteP (d : LNode) (m : LMsg) : LNode × List LMsg :=
  let d1 := if d.term < m.term then followP d m.term (-1) else d
  let ok := decide (m.term = d1.term) && (decide (d1.vote = -1) || decide (d1.vote = m.frm)) && upP d1 m
  let d2 := if ok then { d1 with vote := m.frm, clock := 0 } else d1
  (d2, answerP d2 m { kind := 4, term := d2.term, ok := ok })
def votedP (d : LNode) (m : LMsg) : LNode × List LMsg :=
  if d.term < m.term then (followP d m.term (-1), [])
  else if m.ok = false ∨ d.role ≠ 2 ∨ m.term ≠ d.term then (d, [])
  else
    let d1 := { d with votes := d.votes.set m.frm.toNat true }
    if mostP d1 d1.votes then begG d1 else (d1, [])
def snapP (d : LNode) (m : LMsg) : LNode × List LMsg :=
  if m.index ≤ d.commit then (d, answerP d m { kind := 6, term := d.term, ok := true, index := d.commit })
  else if m.term < m.logTerm then (d, [])
  else
    let d1 := if (termAt d m.index).2 = false ∨ (termAt d m.index).1 ≠ m.logTerm then { d with base := m.index, baseTerm := m.logTerm, log := [] } else d
    let d2 := { d1 with commit := m.index }
    (d2, answerP d2 m { kind := 6, term := d2.term, ok := true, index := m.index })
/-- the loop over a leader's entries: none = refused without an answer -/
def putP (d : LNode) : Nat → List LEnt → Option LNode
  | _, [] => some d
  | index, e :: r =>
    if (termAt d index).2 = true ∧ (termAt d index).1 = e.term then putP d (index + 1) r
    else if index ≤ d.commit then none
    else if risingP (e :: r) (termAt d (index - 1)).1 d.term = false then none
    else some { d with log := d.log.take (index - d.base - 1) ++ (e :: r) }
def appendP (d : LNode) (m : LMsg) : LNode × List LMsg :=
  let refuse := (d, answerP d m { kind := 6, term := d.term, index := d.commit })
  if d.base ≤ m.index ∧ ((termAt d m.index).2 = false ∨ (termAt d m.index).1 ≠ m.logTerm) then refuse
  else
    let list := if m.index < d.base then m.ents.drop (min m.ents.length (d.base - m.index)) else m.ents
    let at_ := if m.index < d.base then d.base else m.index
    match putP d (at_ + 1) list with
    | none => (d, [])
    | some d1 =>
      let d2 := { d1 with commit := max d1.commit (min m.commit (m.index + m.ents.length)) }
      (d2, answerP d2 m { kind := 6, term := d2.term, ok := true, index := m.index + m.ents.length })
def ledP (d : LNode) (m : LMsg) : LNode × List LMsg :=
  if m.term < d.term then (d, answerP d m { kind := 6, term := d.term })
  else if m.term = d.term ∧ d.role = 3 then (d, [])
  else
    let d1 := { followP d m.term m.frm with clock := 0 }
    if m.kind = 7 then snapP d1 m else appendP d1 m
def appendedP (d : LNode) (m : LMsg) : LNode × List LMsg :=
  if d.term < m.term then (followP d m.term (-1), [])
  else if d.role ≠ 3 ∨ m.term ≠ d.term then (d, [])
  else if m.ok then
    (if m.index ≤ lastN d ∧ d.mat.getD m.frm.toNat 0 < m.index then agreeP { d with mat := d.mat.set m.frm.toNat m.index, next := d.next.set m.frm.toNat (m.index + 1) } else d, [])
  else
    let d1 := { d with next := d.next.set m.frm.toNat (max (d.mat.getD m.frm.toNat 0) (min m.index (lastN d)) + 1) }
    (d1, answerP d1 m (sendP d1 m.frm.toNat))
def stepP (d : LNode) (m : LMsg) : LNode × List LMsg :=
  if properP d m = false then (d, [])
  else if m.kind = 1 then
    (d, answerP d m (if d.term < m.term ∧ upP d m = true ∧ (d.lead = -1 ∨ d.limit ≤ d.clock) then { kind := 2, term := m.term, ok := true } else { kind := 2, term := d.term }))
  else if m.kind = 2 then preVotedP d m
  else if m.kind = 3 then voteP d m
  else if m.kind = 4 then votedP d m
  else if m.kind = 5 ∨ m.kind = 7 then ledP d m
  else appendedP d m
def wantsP (d : LNode) (m : LMsg) : Bool :=
  if properP d m = false ∨ m.kind ≠ 7 ∨ m.term < d.term ∨ (m.term = d.term ∧ d.role = 3) ∨ m.index ≤ d.commit ∨ m.term < m.logTerm then false
  else decide ((termAt d m.index).2 = false ∨ (termAt d m.index).1 ≠ m.logTerm)
end Go.Proofs.Ytjpcekpllfelhaa
