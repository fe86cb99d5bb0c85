/- A row of notes in memory; New of any state. Many elements of another slice appended to a row of the own; an empty literal row. -/
import Derived.Test.YtjpcekpllfelhaaRtA
import Derived.Test.YtjpcekpllfelhaaRtB
import Derived.Test.YtjpcekpllfelhaaRtP
import Derived.Test.YtjpcekpllfelhaaRsX
namespace Go.Proofs.Ytjpcekpllfelhaa
open Go.RowKit

structure LNote where
  kind : Int
  frm : Int
  dst : Int
  term : Nat
  index : Nat
  logTerm : Nat
  commit : Nat
  terms : List Nat
  ok : Bool
instance : Inhabited LNote := ⟨⟨0, 0, 0, 0, 0, 0, 0, [], false⟩⟩
/-- a note's parts -/
structure NOk (w : World) (S : Nat → Prop) (A : Option Addr) (x : LNote) : Prop where
  terms : SlS NE w S A x.terms
  len : x.terms.length ≤ 1048576
  term : x.term ≤ 18446744073709551615
  index : x.index ≤ 18446744073709551615
  logTerm : x.logTerm ≤ 18446744073709551615
  commit : x.commit ≤ 18446744073709551615
def NoteE : ER LNote where
  size := 9
  pos := by omega
  bytes := 88
  bpos := by omega
  rep w S vs x := ∃ A c, vs = [.int .i64 x.kind, .int .i64 x.frm, .int .i64 x.dst, .int .u64 (x.term : Int), .int .u64 (x.index : Int), .int .u64 (x.logTerm : Int), .int .u64 (x.commit : Int), .slice A x.terms.length c, .bool x.ok] ∧ NOk w S A x
  len := by rintro w S vs a ⟨A, c, rfl, _⟩; rfl
  one := by rintro w S vs a ⟨A, c, rfl, _⟩ v hv; simp at hv; rcases hv with rfl | rfl | rfl | rfl | rfl | rfl | rfl | rfl | rfl <;> rfl
  keep := by rintro w w' S vs a ⟨A, c, rfl, h⟩ hs; exact ⟨A, c, rfl, h.terms.same hs, h.len, h.term, h.index, h.logTerm, h.commit⟩
  mono := by rintro w S S' vs a ⟨A, c, rfl, h⟩ hs; exact ⟨A, c, rfl, h.terms.mono hs, h.len, h.term, h.index, h.logTerm, h.commit⟩
/-- note k: its cells -/
theorem NoteE.at_ {w : World} {A : Option Addr} {S : Nat → Prop} {l : List LNote} (h : SlS NoteE w S A l) {k : Nat} (hk : k < l.length) :
    ∃ ad P c, A = some ad ∧ w.cell? (ad.add (k * 9)) = some (.int .i64 l[k].kind) ∧ w.cell? ⟨(ad.add (k * 9)).block, (ad.add (k * 9)).off + 1, none⟩ = some (.int .i64 l[k].frm) ∧ w.cell? ⟨(ad.add (k * 9)).block, (ad.add (k * 9)).off + 2, none⟩ = some (.int .i64 l[k].dst) ∧
      w.cell? ⟨(ad.add (k * 9)).block, (ad.add (k * 9)).off + 3, none⟩ = some (.int .u64 (l[k].term : Int)) ∧ w.cell? ⟨(ad.add (k * 9)).block, (ad.add (k * 9)).off + 4, none⟩ = some (.int .u64 (l[k].index : Int)) ∧ w.cell? ⟨(ad.add (k * 9)).block, (ad.add (k * 9)).off + 5, none⟩ = some (.int .u64 (l[k].logTerm : Int)) ∧
      w.cell? ⟨(ad.add (k * 9)).block, (ad.add (k * 9)).off + 6, none⟩ = some (.int .u64 (l[k].commit : Int)) ∧ w.cell? ⟨(ad.add (k * 9)).block, (ad.add (k * 9)).off + 7, none⟩ = some (.slice P l[k].terms.length c) ∧ w.cell? ⟨(ad.add (k * 9)).block, (ad.add (k * 9)).off + 8, none⟩ = some (.bool l[k].ok) ∧ NOk w S P l[k] := by
  obtain ⟨ad, vs, rfl, hb, ⟨P, c, rfl, h1⟩, h4, _, h5⟩ := SlS.at_ h hk
  exact ⟨ad, P, c, rfl, h4 _ rfl, h5 1 _ (by decide) rfl, h5 2 _ (by decide) rfl, h5 3 _ (by decide) rfl, h5 4 _ (by decide) rfl, h5 5 _ (by decide) rfl, h5 6 _ (by decide) rfl, h5 7 _ (by decide) rfl, h5 8 _ (by decide) rfl, h1⟩
/-- rising numbers -/
def risingT : List Nat → Nat → Nat → Bool
  | [], low, high => decide (low ≤ high)
  | t :: r, low, high => if t < low then false else risingT r t high
theorem rising_map : ∀ (L : List LEnt) (lo hi : Nat), risingP L lo hi = risingT (L.map LEnt.term) lo hi
  | [], _, _ => rfl
  | e :: r, lo, hi => by
    simp only [risingP, risingT, List.map_cons]
    rw [rising_map r e.term hi]
/-- is it a good state? as the law reckons it -/
def goodT (n vote : Int) (term base bT : Nat) (ts : List Nat) : Bool := decide (-1 ≤ vote) && decide (vote < n) && decide (term ≤ 4611686018427387904) && decide (base ≤ 4611686018427387904) && risingT ts bT term
/-- what New answers of any state -/
def NewOut (n vote : Int) (term base bT : Nat) (ts : List Nat) (w w' : World) (P : Value) (ec : Int) : Prop :=
  ((n < 1 ∨ 5 < n) ∧ P = .pointer none ∧ ec = 1) ∨ (1 ≤ n ∧ n ≤ 5 ∧ goodT n vote term base bT ts = false ∧ P = .pointer none ∧ ec = 3) ∨
  (1 ≤ n ∧ n ≤ 5 ∧ goodT n vote term base bT ts = true ∧ ec = 0 ∧ ∃ (g : Nat) (L : List LEnt), P = .pointer (some ⟨g, 0, none⟩) ∧ L.map LEnt.term = ts ∧ w.heap.size ≤ g ∧ ND w' g (fun b => b < w.heap.size) (newP 0 n.toNat 3 term vote base bT L))
theorem new_any (term : Nat) (vote : Int) (base baseTerm : Nat) (A : Option Addr) (L : List LEnt) (c : Nat) (S : Nat → Prop) (w : World) (hl : SlS EntE w S A L) (n : Int) :
    Calls Try.prog 6 #[.int .i64 0, .int .i64 n, .int .i64 3, .agg #[.int .u64 (term : Int), .int .i64 vote, .int .u64 (base : Int), .int .u64 (baseTerm : Int), .slice A L.length c]] w
      (fun en w' => ∃ P ec, en = .returned (.tuple #[P, .int .i64 ec]) ∧ NewOut n vote term base baseTerm (L.map LEnt.term) w w' P ec ∧ Below w.heap.size w w') := by
  by_cases h1 : n < 1
  · exact (new_arg1 term vote base baseTerm A L c w n h1).mono fun en w' ⟨e, b⟩ => ⟨_, _, e, .inl ⟨.inl h1, rfl, rfl⟩, b⟩
  by_cases h5 : 5 < n
  · exact (new_arg5 term vote base baseTerm A L c w n h5).mono fun en w' ⟨e, b⟩ => ⟨_, _, e, .inl ⟨.inr h5, rfl, rfl⟩, b⟩
  obtain ⟨k, rfl⟩ : ∃ k : Nat, n = (k : Int) := ⟨n.toNat, by omega⟩
  have hg : goodT (k : Int) vote term base baseTerm (L.map LEnt.term) = goodP k term vote base baseTerm L := by
    unfold goodT goodP
    rw [rising_map]
  cases h : goodP k term vote base baseTerm L with
  | false => exact (new_form term vote base baseTerm A L c S w hl k (by omega) (by omega) h).mono fun en w' ⟨e, b⟩ => ⟨_, _, e, .inr (.inl ⟨by omega, by omega, hg.trans h, rfl, rfl⟩), b⟩
  | true =>
    have h2 := h
    simp only [goodP, Bool.and_eq_true, decide_eq_true_eq] at h2
    obtain ⟨⟨⟨⟨q1, q2⟩, q3⟩, q4⟩, q5⟩ := h2
    have T := new_ok 0 k 3 term vote base baseTerm A L c S w hl (by omega) (by omega) (by omega) (by decide) (by decide) q1 q2 q5 q4 q3
    exact T.mono fun en w' ⟨g, e, hgg, hN, b⟩ => ⟨_, _, e, .inr (.inr ⟨by omega, by omega, hg.trans h, rfl, g, L, rfl, rfl, hgg, by rw [Int.toNat_natCast]; exact hN⟩), b⟩
end Go.Proofs.Ytjpcekpllfelhaa

namespace Go.Proofs.Ytjpcekpllfelhaa
open Go.RowKit

theorem Own.stepsA {α : Type} {E : ER α} {w w' : World} {S : Nat → Prop} {t : TypeId} {B : Nat} {v v' : Value} {xs ys : List α} {vs us : List Value} (hf : E.flat w (fun b => S b ∧ v.ownBlock ≠ some b) vs xs) (hx : E.flat w (fun b => S b ∧ v.ownBlock ≠ some b) us ys)
    (hown : w'.ownsRow B t E.size v' (xs.length + ys.length) (vs ++ us)) (hg : w.grownBy w' v.ownBlock) (hat : v'.ownBlock = v.ownBlock ∨ v'.ownBlock = some w.heap.size) : Own E t w' B S v' (xs ++ ys) := by
  refine ⟨vs ++ us, by rw [List.length_append]; exact hown, ?_⟩
  have h1 := ER.flat_mono (S' := fun b => (S b ∧ v.ownBlock ≠ some b) ∧ b < w.heap.size) (fun b hl hb => ⟨hb, hl⟩) (ER.flat_append hf hx)
  have h2 := ER.flat_same (.of_grown hg fun b hb => hb.1.2) h1
  refine ER.flat_mono (fun b _ hb => ⟨hb.1.1, ?_⟩) h2
  rcases hat with e | e <;> rw [e]
  · exact hb.1.2
  · intro e; have := Option.some.inj e; omega
theorem wpList_appS {α : Type} (E : ER α) (b : Nat) (w : World) {ops : Array Oper} {rest : List Oper} {o : Oper} {a : Act} {Q : Exit → Act → World → Prop} (hgd : o.guard = none) (s x : Operand) (t ty : TypeId)
    (ho : o.op = .call { callee := .builtin .append, args := #[s, x], argTypes := #[ty, ty] }) (i : TypeInfo) (z : Value) (ht : Try.prog.underlying ty = some (.slice t)) (hi : Try.prog.info? t = some i) (hz : i.zero = some z) (hsize : i.size = E.size) (hby : i.bytes = E.bytes) (hzs : z.cells.size = E.size)
    (S : Nat → Prop) (A : Option Addr) (xs : List α) (c : Nat) (hs : a.eval s = .slice A xs.length c) (hown : Own E t w b S (.slice A xs.length c) xs)
    (B : Option Addr) (ys : List α) (d : Nat) (hx : a.eval x = .slice B ys.length d) (us : List Value) (hru : Reads w w.heap.size E.size B ys.length us) (hrep : E.flat w (fun b => S b ∧ (Value.slice A xs.length c).ownBlock ≠ some b) us ys)
    (hl : (xs.length + ys.length) * E.bytes ≤ 140737488355328) (hl2 : xs.length + ys.length ≤ maxLen) (hbw : b ≤ w.heap.size)
    (h : ∀ A' c' xs' w', Hid (xs' = xs ++ ys) → Own E t w' b S (.slice A' xs'.length c') xs' → w.grownBy w' (Value.slice A xs.length c).ownBlock → ((Value.slice A' xs'.length c').ownBlock = (Value.slice A xs.length c).ownBlock ∨ (Value.slice A' xs'.length c').ownBlock = some w.heap.size) → wpList Try.prog ops Q rest (a.put o.dst (.slice A' xs'.length c')) w') : wpList Try.prog ops Q (o :: rest) a w := by
  obtain ⟨vs, hown, hf⟩ := hown
  refine wpList_append_sh w hgd s x ty ho b t i z E.size E.bytes ht hi hz hsize hby hzs E.pos _ _ _ hs hown _ B ys.length d us hx hru (ER.flat_one hrep) hl2 hl hbw ?_
  intro A' c' w' o' g' t'
  have hst := Own.stepsA (S := S) hf hrep o' g' t'
  have e : xs.length + ys.length = (xs ++ ys).length := by rw [List.length_append]
  rw [e] at hst t' ⊢
  exact h A' c' (xs ++ ys) w' rfl hst g' t'
theorem Own.empty {α : Type} (E : ER α) {X : World} {g base : Nat} {t : TypeId} {S : Nat → Prop} (h : Blk X g t #[]) (hb : base ≤ g) : Own E t X base S (.slice (some ⟨g, 0, none⟩) 0 0) [] :=
  ⟨[], ⟨by simp, .inr ⟨g, 0, #[], rfl, hb, h, Nat.le_refl _, Nat.zero_le _, by simp, by simp⟩⟩, rfl⟩
theorem SlS.parts {α : Type} {E : ER α} {w : World} {S : Nat → Prop} {A : Option Addr} {xs : List α} (h : SlS E w S A xs) : ∃ us, Reads w w.heap.size E.size A xs.length us ∧ E.flat w S us xs := by
  obtain ⟨_, us, h1, _, h2⟩ := h
  exact ⟨us, h1, h2⟩
/-- message k: its cells -/
theorem MsgE.at_ {w : World} {A : Option Addr} {S : Nat → Prop} {l : List LMsg} (h : SlS MsgE w S A l) {k : Nat} (hk : k < l.length) :
    ∃ ad P c, A = some ad ∧ w.cell? (ad.add (k * 10)) = some (.int .i64 l[k].kind) ∧ w.cell? ⟨(ad.add (k * 10)).block, (ad.add (k * 10)).off + 1, none⟩ = some (.int .i64 l[k].frm) ∧ w.cell? ⟨(ad.add (k * 10)).block, (ad.add (k * 10)).off + 2, none⟩ = some (.int .i64 l[k].dst) ∧
      w.cell? ⟨(ad.add (k * 10)).block, (ad.add (k * 10)).off + 3, none⟩ = some (.int .u64 (l[k].term : Int)) ∧ w.cell? ⟨(ad.add (k * 10)).block, (ad.add (k * 10)).off + 4, none⟩ = some (.int .u64 (l[k].index : Int)) ∧ w.cell? ⟨(ad.add (k * 10)).block, (ad.add (k * 10)).off + 5, none⟩ = some (.int .u64 (l[k].logTerm : Int)) ∧
      w.cell? ⟨(ad.add (k * 10)).block, (ad.add (k * 10)).off + 6, none⟩ = some (.int .u64 (l[k].commit : Int)) ∧ w.cell? ⟨(ad.add (k * 10)).block, (ad.add (k * 10)).off + 7, none⟩ = some (.slice P l[k].ents.length c) ∧ w.cell? ⟨(ad.add (k * 10)).block, (ad.add (k * 10)).off + 8, none⟩ = some (.bool l[k].ok) ∧ w.cell? ⟨(ad.add (k * 10)).block, (ad.add (k * 10)).off + 9, none⟩ = some (.slice none 0 0) := by
  obtain ⟨ad, vs, rfl, hb, ⟨P, c, rfl, h1⟩, h4, _, h5⟩ := SlS.at_ h hk
  exact ⟨ad, P, c, rfl, h4 _ rfl, h5 1 _ (by decide) rfl, h5 2 _ (by decide) rfl, h5 3 _ (by decide) rfl, h5 4 _ (by decide) rfl, h5 5 _ (by decide) rfl, h5 6 _ (by decide) rfl, h5 7 _ (by decide) rfl, h5 8 _ (by decide) rfl, h5 9 _ (by decide) rfl⟩
/-! ## how many messages -/
theorem answer_len (d : LNode) (m a : LMsg) : (answerP d m a).length = 1 := rfl
theorem begin_len (d : LNode) : (begG d).2.length ≤ d.n := othersP_len _ _ _
theorem stand_len (d : LNode) : (stG d).2.length ≤ d.n := by
  unfold stG
  simp only []
  split
  · exact begin_len _
  · exact othersP_len _ _ _
theorem tick_len (d : LNode) : (tickG d).2.length ≤ d.n := by
  unfold tickG
  split
  · exact othersP_len _ _ _
  · split
    · exact Nat.zero_le _
    · split
      · exact Nat.zero_le _
      · split
        · exact stand_len _
        · exact othersP_len _ _ _
theorem snap_len (d : LNode) (m : LMsg) (k : Nat) (h : 1 ≤ k) : (snapP d m).2.length ≤ k := by
  unfold snapP
  split
  · exact h
  · split
    · exact Nat.zero_le _
    · exact h
theorem append_len (d : LNode) (m : LMsg) (k : Nat) (h : 1 ≤ k) : (appendP d m).2.length ≤ k := by
  unfold appendP
  simp only []
  split
  · exact h
  · split
    · exact Nat.zero_le _
    · exact h
theorem step_len (d : LNode) (m : LMsg) (h : 1 ≤ d.n) : (stepP d m).2.length ≤ d.n := by
  unfold stepP
  split
  · exact Nat.zero_le _
  · split
    · exact h
    · split
      · unfold preVotedP
        split
        · exact Nat.zero_le _
        · split
          · exact Nat.zero_le _
          · simp only []
            split
            · exact stand_len _
            · exact Nat.zero_le _
      · split
        · exact h
        · split
          · unfold votedP
            split
            · exact Nat.zero_le _
            · split
              · exact Nat.zero_le _
              · simp only []
                split
                · exact begin_len _
                · exact Nat.zero_le _
          · split
            · unfold ledP
              split
              · exact h
              · split
                · exact Nat.zero_le _
                · simp only []
                  split
                  · exact snap_len _ _ _ h
                  · exact append_len _ _ _ h
            · unfold appendedP
              split
              · exact Nat.zero_le _
              · split
                · exact Nat.zero_le _
                · split
                  · split
                    · show ([] : List LMsg).length ≤ _
                      exact Nat.zero_le _
                    · exact Nat.zero_le _
                  · exact h
end Go.Proofs.Ytjpcekpllfelhaa
