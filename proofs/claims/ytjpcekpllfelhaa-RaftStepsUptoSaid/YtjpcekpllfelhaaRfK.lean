/- A node as a law sees it; awake. -/
import Derived.Test.YtjpcekpllfelhaaRfH
import Derived.Test.YtjpcekpllfelhaaEqR
import Derived.Lib.SlBytesConst
import Derived.Laws.BitsAllLaws
import Derived.Deep.LoopGhost
namespace Go.Proofs.Ytjpcekpllfelhaa
open Go.RowKit

theorem Own.keepS {α : Type} {R : ER α} {t : TypeId} {w w' : World} {B : Nat} {S : Nat → Prop} {v : Value} {xs : List α} (h : Own R t w B S v xs) (hv : ∀ b, v.ownBlock = some b → w'.heap[b]? = w.heap[b]?) (hS : Same S w w') : Own R t w' B S v xs := by
  obtain ⟨vs, h, hf⟩ := h
  refine ⟨vs, ⟨h.1, ?_⟩, ER.flat_same (hS.mono fun b _ hb => hb.1) hf⟩
  rcases h.2 with h4 | ⟨g, cap, cur, e1, e2, e3, e4⟩
  · exact .inl h4
  · exact .inr ⟨g, cap, cur, e1, e2, by rw [hv g (by rw [e1]; rfl)]; exact e3, e4⟩
section
variable {w w' : World} {g : Nat} {S : Nat → Prop} {E V M X : Value} {F : Nat → Prop} {d : LNode}
/-- the node's blocks have stayed -/
theorem NodeAt.keep (h : NodeAt w g S E V M X d) (hs : w.heap.size ≤ w'.heap.size) (hk : ∀ b, b < w.heap.size → ¬ Foreign g S E V M X b → w'.heap[b]? = w.heap[b]?) : NodeAt w' g S E V M X d := by
  refine ⟨(hk g h.blk.lt fun f => f.1 rfl).trans h.blk, ?_, ?_, ?_, ?_, h.mx, h.sd, fun b hb => Nat.lt_of_lt_of_le (h.sl b hb) hs⟩
  · exact h.log.keepS (fun b e => hk b (h.log.lt b e).2 fun f => f.2.2.1 e) ⟨hs, fun b hb hl => hk b hl fun f => f.2.1 hb⟩
  · exact h.vot.keepS (fun b e => hk b (h.vot.lt b e).2 fun f => f.2.2.2.1 e) ⟨hs, fun b hb _ => hb.elim⟩
  · exact h.mat.keepS (fun b e => hk b (h.mat.lt b e).2 fun f => f.2.2.2.2.1 e) ⟨hs, fun b hb _ => hb.elim⟩
  · exact h.nxt.keepS (fun b e => hk b (h.nxt.lt b e).2 fun f => f.2.2.2.2.2 e) ⟨hs, fun b hb _ => hb.elim⟩
theorem NodeAt.fresh (h : NodeAt w g S E V M X d) {b : Nat} (hb : w.heap.size ≤ b) : Foreign g S E V M X b :=
  ⟨fun e => by have := h.blk.lt; omega, fun hs => by have := h.sl b hs; omega, fun e => by have := (h.log.lt b e).2; omega, fun e => by have := (h.vot.lt b e).2; omega, fun e => by have := (h.mat.lt b e).2; omega, fun e => by have := (h.nxt.lt b e).2; omega⟩
/-- what is new is none of the node's -/
theorem ND.new (h : ND w g F d) (hb : Below w.heap.size w w') : ND w' g (fun b => F b ∨ w.heap.size ≤ b) d := by
  obtain ⟨S, E, V, M, X, h1, h2⟩ := h
  exact ⟨S, E, V, M, X, h1.below hb, fun b h => h.elim (h2 b) (fun h => h1.fresh h)⟩
/-- another row has turned -/
theorem ND.grown {row : Option Nat} (h : ND w g F d) (hg : w.grownBy w' row) (hr : ∀ b, row = some b → F b) : ND w' g F d := by
  obtain ⟨S, E, V, M, X, h1, h2⟩ := h
  exact ⟨S, E, V, M, X, h1.keep hg.size fun b hb hf => hg.block b hb fun e => hf (h2 b (hr b e.symm)), h2⟩
/-- all blocks have stayed but some of F -/
theorem ND.blp {B : Nat → Prop} (h : ND w g F d) (hp : BlP B w w') (hr : ∀ b, b < w.heap.size → ¬ B b → F b) : ND w' g F d := by
  obtain ⟨S, E, V, M, X, h1, h2⟩ := h
  exact ⟨S, E, V, M, X, h1.keep hp.size fun b hb hf => hp.block b hb (Classical.byContradiction fun e => hf (h2 b (hr b hb e))), h2⟩
theorem ND.lt (h : ND w g F d) : g < w.heap.size := by
  obtain ⟨S, E, V, M, X, h1, h2⟩ := h
  exact h1.blk.lt
end
theorem BlP.low {B : Nat} {F : Nat → Prop} {w0 w w' : World} (h : BlP F w w') (hb : Below B w0 w) (hB : B ≤ w.heap.size) (hF : ∀ g, g < B → F g) : Below B w0 w' :=
  hb.trans ⟨h.os, h.tape, h.output, h.size, fun k hk => h.block k (Nat.lt_of_lt_of_le hk hB) (hF k hk)⟩
theorem BlP.blk {F : Nat → Prop} {w w' : World} {g : Nat} {t : TypeId} {cs : Array Value} (h : BlP F w w') (hb : Blk w g t cs) (hF : F g) : Blk w' g t cs := (h.block g hb.lt hF).trans hb
theorem BlP.same {F : Nat → Prop} {w w' : World} (h : BlP F w w') : Same F w w' := ⟨h.size, fun b hb hl => h.block b hl hb⟩
section
variable {w : World} {g : Nat} {F : Nat → Prop} {d : LNode}
set_option maxHeartbeats 1000000 in
theorem lead_any (h : ND w g F d) : Calls Try.prog 24 #[.pointer (some ⟨g, 0, none⟩)] w (fun en w' => en = .returned (.int .i64 d.lead) ∧ w' = w) := by
  obtain ⟨S, E, V, M, X, h1, _⟩ := h
  have q : w.cell? ⟨g, 9, none⟩ = some (.int .i64 d.lead) := h1.blk.cell 9
  go_enter Try.func24, Try.ntmps24
  go_wp2_with fail
  go_ret
  exact ⟨rfl, rfl⟩
set_option maxHeartbeats 1000000 in
theorem role_any (h : ND w g F d) : Calls Try.prog 25 #[.pointer (some ⟨g, 0, none⟩)] w (fun en w' => en = .returned (.int .i64 d.role) ∧ w' = w) := by
  obtain ⟨S, E, V, M, X, h1, _⟩ := h
  have q : w.cell? ⟨g, 8, none⟩ = some (.int .i64 d.role) := h1.blk.cell 8
  go_enter Try.func25, Try.ntmps25
  go_wp2_with fail
  go_ret
  exact ⟨rfl, rfl⟩
set_option maxHeartbeats 1000000 in
theorem commit_any (h : ND w g F d) : Calls Try.prog 17 #[.pointer (some ⟨g, 0, none⟩)] w (fun en w' => en = .returned (.int .u64 (d.commit : Int)) ∧ w' = w) := by
  obtain ⟨S, E, V, M, X, h1, _⟩ := h
  have q : w.cell? ⟨g, 10, none⟩ = some (.int .u64 (d.commit : Int)) := h1.blk.cell 10
  go_enter Try.func17, Try.ntmps17
  go_wp2_with fail
  go_ret
  exact ⟨rfl, rfl⟩
theorem fromD_any (h : ND w g F d) (i : Nat) (hl : d.log.length * 32 ≤ 140737488351232) (hb : NodeB d) : Calls Try.prog 12 #[.pointer (some ⟨g, 0, none⟩), .int .u64 (i : Int)] w (RetEnts (fromR d i) w) := by
  obtain ⟨S, E, V, M, X, h1, _⟩ := h
  obtain ⟨A, c, rfl⟩ := h1.log.shape
  exact from_any g A c V M X Any d i w h1.blk (h1.slS hl) h1.log.caps.1 hb
end
theorem newZ (k : Nat) (hk : 1 ≤ k ∧ k ≤ 1000) (w : World) : Calls Try.prog 6 #[.int .i64 0, .int .i64 1, .int .i64 (k : Int), .agg #[.int .u64 0, .int .i64 (-1), .int .u64 0, .int .u64 0, .slice none 0 0]] w
      (fun en w' => ∃ g, en = .returned (.tuple #[.pointer (some ⟨g, 0, none⟩), .int .i64 0]) ∧ w.heap.size ≤ g ∧ ND w' g (fun b => b < w.heap.size) (newP 0 1 k 0 (-1) 0 0 []) ∧ Below w.heap.size w w') :=
  new_ok 0 1 k 0 (-1) 0 0 none [] 0 Any w (SlS.nil_ _ _ _ _) (by decide) (by decide) (by decide) (by omega) (by omega) (by decide) (by decide) rfl (by decide) (by decide)
theorem bs_x (w : World) : Bs (w.alloc (.cells #[.int .u8 120] 5 (1, 2))) (some ⟨w.heap.size, 0, none⟩) [120] := by
  refine ⟨⟨rfl, fun _ => ⟨_, rfl, by simp, fun j u hu => ?_⟩⟩, by decide⟩
  rw [add_row, cell_of_row _ _ _ _ _ _ (heap_alloc_new w _)]
  cases j with
  | zero => simpa [bval] using hu
  | succ j => simp at hu
set_option maxRecDepth 100000 in
set_option maxHeartbeats 2000000 in
theorem awake_any (w : World) : Calls Try.prog 5 #[] w (fun en w' => en = .returned (.bool true) ∧ Below w.heap.size w w') := by
  have T := newZ 2 (by decide) w
  replace T : Calls Try.prog 6 #[.int .i64 0, .int .i64 1, .int .i64 2, .agg #[.int .u64 0, .int .i64 (-1), .int .u64 0, .int .u64 0, .slice none 0 0]] w _ := T
  go_enter Try.func5, Try.ntmps5
  go_wp2_with fail
  refine T.mono ?_
  clear T
  rintro en w1 ⟨g, rfl, hg, D1, b1⟩
  have T := lead_any D1
  replace T : Calls Try.prog 24 #[.pointer (some ⟨g, 0, none⟩)] w1 (fun en w' => en = .returned (.int .i64 (-1)) ∧ w' = w1) := T
  go_wp2_with fail
  refine T.mono ?_
  clear T
  rintro en wz ⟨rfl, rfl⟩
  have T := tick_one g (fun b => b < w.heap.size) _ wz D1 rfl rfl (by decide) rfl (by decide) (by decide) (by decide) (by decide) (by decide) (by decide) (by decide) (by decide)
  rw [show tickP (newP 0 1 ((2 : Nat) : Int) 0 (-1) 0 0 []) = ⟨0, -1, 0, 0, [], 0, 1, 2, 0, -1, 0, 1, [], [], []⟩ from rfl] at T
  go_wp2_with fail
  refine T.mono ?_
  clear T
  rintro en w2 ⟨rfl, D2, p2⟩
  have b2 := p2.low b1 b1.size (fun g h => h)
  replace D2 := D2.mono (F' := fun b => b < w.heap.size) (fun b h => ⟨h, by have := b1.size; omega⟩)
  clear p2 D1 b1
  have T := tick_one g (fun b => b < w.heap.size) _ w2 D2 rfl rfl (by decide) rfl (by decide) (by decide) (by decide) (by decide) (by decide) (by decide) (by decide) (by decide)
  rw [show tickP ⟨0, -1, 0, 0, [], 0, 1, 2, 0, -1, 0, 1, [], [], []⟩ = ⟨1, 0, 0, 0, [⟨1, []⟩], 0, 1, 2, 3, 0, 1, 0, [true], [1], [1]⟩ from rfl] at T
  go_wp2_with fail
  refine T.mono ?_
  clear T
  rintro en w3 ⟨rfl, D3, p3⟩
  have b3 := p3.low b2 b2.size (fun g h => h)
  replace D3 := D3.mono (F' := fun b => b < w.heap.size) (fun b h => ⟨h, by have := b2.size; omega⟩)
  clear p3 D2 b2
  have dl : Below w3.heap.size w3 (w3.alloc (.cells #[.int .u8 120] 5 (1, 2))) := (Below.refl _ _).alloc (Nat.le_refl _) _
  have hbs : Bs (w3.alloc (.cells #[.int .u8 120] 5 (1, 2))) (some ⟨w3.heap.size, 0, none⟩) [120] := bs_x w3
  have b4 : Below w.heap.size w (w3.alloc (.cells #[.int .u8 120] 5 (1, 2))) := b3.trans (dl.mono b3.size)
  have D4 := D3.below dl
  have z3 := b3.size
  clear D3 b3 dl
  have hcs := fun (w : World) (C : Array Value) (n c : Nat) => Lib.run_convert_bytes_const (P := Try.prog) w 22 5 C n c Try.underlying22 Try.underlying5
  go_wp2_with fail
  clear hcs
  generalize (w3.alloc (.cells #[.int .u8 120] 5 (1, 2))) = w4 at *
  have T := propose_one g (fun b => b < w.heap.size) _ 1 _ [120] 1 w4 D4 hbs rfl rfl rfl rfl (by decide) (by decide) (by decide) (by decide) (by decide)
  rw [show addP ⟨1, 0, 0, 0, [⟨1, []⟩], 0, 1, 2, 3, 0, 1, 0, [true], [1], [1]⟩ [120] = ⟨1, 0, 0, 0, [⟨1, []⟩, ⟨1, [120]⟩], 0, 1, 2, 3, 0, 2, 0, [true], [2], [1]⟩ from rfl] at T
  replace T : Calls Try.prog 9 #[.pointer (some ⟨g, 0, none⟩), .slice (some ⟨w3.heap.size, 0, none⟩) 1 1] w4 (fun en w' => en = .returned (.tuple #[.int .u64 2, .slice none 0 0, .int .i64 0]) ∧ NDTo g (fun b => b < w.heap.size) ⟨1, 0, 0, 0, [⟨1, []⟩, ⟨1, [120]⟩], 0, 1, 2, 3, 0, 2, 0, [true], [2], [1]⟩ w4 w') := T
  refine T.mono ?_
  clear T
  rintro en w5 ⟨rfl, D5, p5⟩
  have b5 := p5.low b4 b4.size (fun g h => h)
  clear p5 D4 b4 hbs
  have T := role_any D5
  replace T : Calls Try.prog 25 #[.pointer (some ⟨g, 0, none⟩)] w5 (fun en w' => en = .returned (.int .i64 3) ∧ w' = w5) := T
  go_wp2_with fail
  refine T.mono ?_
  clear T
  rintro en wz ⟨rfl, rfl⟩
  have T := commit_any D5
  replace T : Calls Try.prog 17 #[.pointer (some ⟨g, 0, none⟩)] wz (fun en w' => en = .returned (.int .u64 2) ∧ w' = wz) := T
  have q0 : wz.cell? ⟨g, 0, none⟩ = some (.int .u64 1) := by
    obtain ⟨S, E, V, M, X, h1, _⟩ := D5
    exact h1.blk.cell 0
  go_wp2_with fail
  refine T.mono ?_
  clear T
  rintro en wy ⟨rfl, rfl⟩
  go_wp2_with fail
  go_ret
  exact ⟨rfl, b5⟩
end Go.Proofs.Ytjpcekpllfelhaa
