/- A node in memory with its rows; others, most, agree of a node that is alone. -/
import Derived.Test.YtjpcekpllfelhaaRfC
import Derived.Test.YtjpcekpllfelhaaRfS
import Derived.Test.YtjpcekpllfelhaaBlP
namespace Go.Proofs.Ytjpcekpllfelhaa
open Go.RowKit

def Nil : Nat → Prop := fun _ => False
/-- the node at block g, its rows; the entries' data lie in blocks of S -/
structure NodeAt (w : World) (g : Nat) (S : Nat → Prop) (E V M X : Value) (d : LNode) : Prop where
  blk : Blk w g 48 (nodeC E V M X d)
  log : Own EntE 44 w 0 S E d.log
  vot : Own BoE 4 w 0 Nil V d.votes
  mat : Own NE 28 w 0 Nil M d.mat
  nxt : Own NE 28 w 0 Nil X d.next
  mx : ∀ b, M.ownBlock = some b → X.ownBlock ≠ some b
  sd : ∀ b, S b → b ≠ g ∧ V.ownBlock ≠ some b ∧ M.ownBlock ≠ some b ∧ X.ownBlock ≠ some b
  sl : ∀ b, S b → b < w.heap.size
/-- none of the node's blocks -/
def Foreign (g : Nat) (S : Nat → Prop) (E V M X : Value) (b : Nat) : Prop := b ≠ g ∧ ¬ S b ∧ E.ownBlock ≠ some b ∧ V.ownBlock ≠ some b ∧ M.ownBlock ≠ some b ∧ X.ownBlock ≠ some b
section
variable {w w' : World} {g : Nat} {S : Nat → Prop} {E V M X : Value} {d d' : LNode}
theorem Own.ne_blk {α : Type} {R : ER α} {t t' : TypeId} {B : Nat} {v : Value} {xs : List α} {cs : Array Value} (h : Own R t w B S v xs) (hb : Blk w g t' cs) (hne : t ≠ t') : v.ownBlock ≠ some g := by
  obtain ⟨vs, h, _⟩ := h
  exact own_blk_ne h hb hne
theorem Own.ne_own {α β : Type} {R : ER α} {R' : ER β} {S' : Nat → Prop} {t t' : TypeId} {B B' : Nat} {v v' : Value} {xs : List α} {ys : List β} (h : Own R t w B S v xs) (h' : Own R' t' w B' S' v' ys) (hne : t ≠ t') (b : Nat) (hb : v.ownBlock = some b) : v'.ownBlock ≠ some b := by
  obtain ⟨vs, h, _⟩ := h
  obtain ⟨us, h', _⟩ := h'
  rcases own_own_ne h h' hne with e | e
  · rw [e] at hb; cases hb
  · rw [← hb]; exact fun h => e h.symm
theorem NodeAt.below (h : NodeAt w g S E V M X d) (hb : Below w.heap.size w w') : NodeAt w' g S E V M X d :=
  ⟨h.blk.below hb h.blk.lt, h.log.below hb, h.vot.below hb, h.mat.below hb, h.nxt.below hb, h.mx, h.sd, fun b hs => Nat.lt_of_lt_of_le (h.sl b hs) hb.size⟩
/-- cells of the node's own block have turned -/
theorem NodeAt.turn (h : NodeAt w g S E V M X d) (hg : w.grownBy w' (some g)) (hb : Blk w' g 48 (nodeC E V M X d')) (e : d'.log = d.log ∧ d'.votes = d.votes ∧ d'.mat = d.mat ∧ d'.next = d.next) : NodeAt w' g S E V M X d' := by
  obtain ⟨e1, e2, e3, e4⟩ := e
  refine ⟨hb, ?_, ?_, ?_, ?_, h.mx, h.sd, fun b hs => Nat.lt_of_lt_of_le (h.sl b hs) hg.size⟩
  · rw [e1]; exact h.log.same hg (.inr (h.log.ne_blk h.blk (by decide))) fun b hs e => (h.sd b hs).1 (Option.some.inj e).symm
  · rw [e2]; exact h.vot.same hg (.inr (h.vot.ne_blk h.blk (by decide))) fun b hs => hs.elim
  · rw [e3]; exact h.mat.same hg (.inr (h.mat.ne_blk h.blk (by decide))) fun b hs => hs.elim
  · rw [e4]; exact h.nxt.same hg (.inr (h.nxt.ne_blk h.blk (by decide))) fun b hs => hs.elim
theorem NodeAt.slS {A : Option Addr} {c : Nat} (h : NodeAt w g S (.slice A d.log.length c) V M X d) (hl : d.log.length * 32 ≤ 140737488351232) : SlS EntE w Any A d.log :=
  h.log.slS rfl hl (fun _ _ => trivial) (fun _ _ => trivial)
end
/-- a node of which the blocks of F are none -/
def ND (w : World) (g : Nat) (F : Nat → Prop) (d : LNode) : Prop := ∃ S E V M X, NodeAt w g S E V M X d ∧ ∀ b, F b → Foreign g S E V M X b
/-- behind a call of the node -/
def NDTo (g : Nat) (F : Nat → Prop) (d : LNode) (w w' : World) : Prop := ND w' g (fun b => F b ∧ b < w.heap.size) d ∧ BlP F w w'
set_option maxRecDepth 100000 in
set_option maxHeartbeats 1000000 in
/-- others: there are none -/
theorem others_one (g : Nat) (E V M X fv : Value) (d : LNode) (w : World) (hk : Blk w g 48 (nodeC E V M X d)) (hn : d.n = 1) (hi : d.id = 0) :
    Calls Try.prog 28 #[.pointer (some ⟨g, 0, none⟩), fv] w (fun en w' => en = .returned (.slice none 0 0) ∧ w' = w) := by
  have c1 : w.cell? ⟨g, 5, none⟩ = some (.int .i64 0) := by have := hk.cell 5; rw [this]; show some (Value.int .i64 (d.id : Int)) = _; rw [hi]; rfl
  have c2 : w.cell? ⟨g, 6, none⟩ = some (.int .i64 1) := by have := hk.cell 6; rw [this]; show some (Value.int .i64 (d.n : Int)) = _; rw [hn]; rfl
  go_enter Try.func28, Try.ntmps28
  go_wp2_with fail
  go_loopw [5, 12] (fun u v wr => u = .slice none 0 0 ∧ (v = .int .i64 0 ∨ v = .int .i64 1) ∧ wr = w) (fun _ v _ => 1 - (intOf v).toNat)
  case atStart => exact ⟨rfl, .inl rfl, rfl⟩
  case round =>
    obtain ⟨rfl, rfl | rfl, rfl⟩ := hrel
    · go_wp2_with fail
      go_roundw
      case rel => exact ⟨rfl, .inr rfl, trivial⟩
      case measure => simp [intOf]
    · go_wp2_with fail
      go_ret
      exact ⟨rfl, rfl⟩
set_option maxRecDepth 100000 in
set_option maxHeartbeats 1000000 in
/-- most: its own vote is a majority -/
theorem most_one (g gv c : Nat) (E V M X : Value) (d : LNode) (w : World) (hk : Blk w g 48 (nodeC E V M X d)) (hn : d.n = 1) (hv : w.cell? ⟨gv, 0, none⟩ = some (.bool true)) :
    Calls Try.prog 44 #[.pointer (some ⟨g, 0, none⟩), .slice (some ⟨gv, 0, none⟩) 1 c] w (fun en w' => en = .returned (.bool true) ∧ w' = w) := by
  have c2 : w.cell? ⟨g, 6, none⟩ = some (.int .i64 1) := by have := hk.cell 6; rw [this]; show some (Value.int .i64 (d.n : Int)) = _; rw [hn]; rfl
  go_enter Try.func44, Try.ntmps44
  go_wp2_with fail
  go_loopw [5, 10] (fun u v wr => ((u = .int .i64 0 ∧ v = .int .i64 0) ∨ (u = .int .i64 1 ∧ v = .int .i64 1)) ∧ wr = w) (fun _ v _ => 1 - (intOf v).toNat)
  case atStart => exact ⟨.inl ⟨rfl, rfl⟩, rfl⟩
  case round =>
    obtain ⟨⟨rfl, rfl⟩ | ⟨rfl, rfl⟩, rfl⟩ := hrel
    · go_wp2_with fail
      go_roundw
      case rel => exact ⟨.inr ⟨rfl, rfl⟩, trivial⟩
      case measure => simp [intOf]
    · go_wp2_with fail
      go_ret
      exact ⟨rfl, rfl⟩
set_option maxRecDepth 100000 in
set_option maxHeartbeats 1000000 in
/-- agree: what it has itself is agreed on -/
theorem agree_one (g gm c ec : Nat) (A : Option Addr) (V X : Value) (S : Nat → Prop) (d : LNode) (x : Nat) (w : World) (hk : Blk w g 48 (nodeC (.slice A d.log.length ec) V (.slice (some ⟨gm, 0, none⟩) 1 c) X d)) (hl : SlS EntE w S A d.log) (hb : NodeB d)
    (hm : w.cell? ⟨gm, 0, none⟩ = some (.int .u64 (x : Int))) (hml : gm < w.heap.size) (hn : d.n = 1) (hx : x ≤ 18446744073709551615) (ht : termAt d x = (d.term, true)) (hcx : d.commit < x) :
    Calls Try.prog 48 #[.pointer (some ⟨g, 0, none⟩)] w (fun en w' => en = .returned (.tuple #[]) ∧ w.grownBy w' (some g) ∧ Blk w' g 48 (nodeC (.slice A d.log.length ec) V (.slice (some ⟨gm, 0, none⟩) 1 c) X { d with commit := x })) := by
  have c9 : w.cell? ⟨g, 13, none⟩ = some (.slice (some ⟨gm, 0, none⟩) 1 c) := hk.cell 13
  have T := Go.callsIn_wide.1 (valuesU_in Fence.wide 3 trivial rfl (some ⟨gm, 0, none⟩) 1 c w)
  go_enter Try.func48, Try.ntmps48
  go_wp2_with fail
  refine T.mono ?_
  clear T
  rintro en w1 ⟨rfl, rfl⟩
  have d1 : Below w.heap.size w (w.alloc (.cells #[.slice (some ⟨gm, 0, none⟩) 1 c] 46)) := (Below.refl _ _).alloc (Nat.le_refl _) _
  have T := sortedU_one w.heap.size (.slice (some ⟨gm, 0, none⟩) 1 c) (x : Int) (w.alloc (.cells #[.slice (some ⟨gm, 0, none⟩) 1 c] 46)) (by simp) ((Blk.new w 46 #[.slice (some ⟨gm, 0, none⟩) 1 c]).cell 0)
    ⟨gm, 0, c, rfl, by simp; omega, fun j hj => by
      obtain rfl : j = 0 := by simp at hj; omega
      exact (d1.cell (p := ⟨gm, 0, none⟩) hml).trans hm⟩
  go_wp2_with fail
  refine T.mono ?_
  clear T
  rintro en w2 ⟨gs, cs, rfl, hgs, d2⟩
  have d02 := below_step d1 d2
  have k2 := hk.below d02 hk.lt
  have hl2 := hl.below d02
  have c2 : w2.cell? ⟨g, 6, none⟩ = some (.int .i64 1) := by have := k2.cell 6; rw [this]; show some (Value.int .i64 (d.n : Int)) = _; rw [hn]; rfl
  have T := termat_any g A ec V (.slice (some ⟨gm, 0, none⟩) 1 c) X S d x w2 k2 hl2 hb hx
  rw [ht] at T
  clear ht hl hl2 d1 d2 c9 hm
  go_wp2_with fail
  refine T.mono ?_
  clear T
  rintro en w3 ⟨rfl, q, hq⟩
  have d3 : Below w2.heap.size w2 w3 := by rw [hq]; exact ⟨rfl, rfl, rfl, Nat.le_refl _, fun _ _ => rfl⟩
  have d03 := below_step d02 d3
  have k3 := k2.below d3 k2.lt
  clear hq d02 d3 k2 c2 hgs
  have y0 : w3.cell? ⟨g, 0, none⟩ = some (.int .u64 (d.term : Int)) := k3.cell 0
  have y10 : w3.cell? ⟨g, 10, none⟩ = some (.int .u64 (d.commit : Int)) := k3.cell 10
  have f10 : w3.frozen? ⟨g, 10, none⟩ = false := k3.frozen 10
  have e1 : ((d.term : Int) == (d.term : Int)) = true := by simp
  have e2 : (d.commit : Int) < (x : Int) := by omega
  have k4 := k3.set_ 10 (.int .u64 (x : Int))
  have g4 : w.grownBy (w3.setCell ⟨g, 10, none⟩ (.int .u64 (x : Int))) (some g) := only_setCell (only_of_below d03 (some g)) (.inl rfl) _
  clear d03 k3
  go_wp2_with fail
  exact bodyEnd0 rfl rfl ⟨rfl, g4, k4⟩
end Go.Proofs.Ytjpcekpllfelhaa
