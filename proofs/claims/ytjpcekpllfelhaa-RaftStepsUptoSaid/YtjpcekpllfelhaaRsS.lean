/- A log that is cut and goes on with other entries (r.Entries[:k:k], list...). -/
import Derived.Test.YtjpcekpllfelhaaRsR
import Derived.Deep.RegionLawGrows
namespace Go.Proofs.Ytjpcekpllfelhaa
open Go.RowKit

theorem run_lowK (kd : IntKind) (A : Option Addr) (n c k : Nat) (l : Int) (hl : l = (k : Int)) (hk : k ≤ n) (w : World) :
    (Instr.slice 31 (.slice A n c) (some (.int kd l)) none none).run Try.prog w = .ok (.slice (if c = k then A else A.map (·.add (k * 2))) (n - k) (c - k)) w := by
  subst hl
  have h1 : (0 : Int) ≤ (k : Int) := by omega
  have h2 : (k : Int) ≤ (n : Int) := by omega
  have hs : (sizeOf (Try.prog.elem 31)).run Try.prog w = .ok 2 w := by kernel_rfl
  rw [run_slice_l w 31 A n c (by kernel_rfl) kd (k : Int) h1 h2, hs]
  simp [Result.andThen, sliced]
theorem SlS.dropK {w : World} {S : Nat → Prop} {A : Option Addr} {l : List LEnt} {c : Nat} (kd : IntKind) (h : SlS EntE w S A l) (hc : l.length ≤ c) (k : Nat) (hk : k ≤ l.length) :
    ∃ R, SlS EntE w S R (l.drop k) ∧ ∀ W, (Instr.slice 31 (.slice A l.length c) (some (.int kd (k : Int))) none none).run Try.prog W = .ok (.slice R (l.drop k).length (c - k)) W :=
  ⟨_, h.drop hk hc, fun W => by rw [run_lowK kd A _ c k (k : Int) rfl hk, List.length_drop]; rfl⟩
theorem step_cut (w : World) {ops : Array Oper} {o : Oper} {a : Act} {K : Act → World → Prop} {Q : Exit → Act → World → Prop} {X : Prop} (hgd : o.guard = none) (s x : Operand)
    (ho : o.op = Op.call { callee := Callee.builtin Builtin.append, args := #[s, x], argTypes := #[31, 31] })
    (A : Option Addr) (ec : Nat) (L0 : List LEnt) (hh : Nat) (S S9 : Nat → Prop) (hs : a.eval s = .slice A hh hh) (hown : Own EntE 44 w 0 S (.slice A L0.length ec) L0) (hhl : hh ≤ L0.length)
    (B : Option Addr) (D : List LEnt) (dc b9 : Nat) (hx : a.eval x = .slice B D.length dc) (hD : Own EntE 44 w b9 S9 (.slice B D.length dc) D) (hD0 : 0 < D.length) (hl : hh + D.length ≤ 1048576)
    (h : ∀ A' c' xs' w', Hid (xs' = L0.take hh ++ D) → Own EntE 44 w' w.heap.size (fun b => S b ∨ (S9 b ∧ b < w.heap.size)) (.slice A' xs'.length c') xs' → Below w.heap.size w w' → K (a.put o.dst (.slice A' xs'.length c')) w') :
    if Region.wanted o (yielded ops a.tmps) = true then Oper.wp Try.prog o a w K Q else X := by
  obtain ⟨i0, hi0, hz0, hz1, hz2⟩ := info_parts Try.infoEnt
  obtain ⟨vs, hr, hf⟩ := hown
  obtain ⟨us, hr9, hf9⟩ := hD
  obtain ⟨gB, capB, eB, hgB1, hgB2⟩ := World.ownsRow.form hr9 hD0
  obtain rfl : B = some ⟨gB, 0, none⟩ := by injection eB
  have hft : EntE.flat w (fun b => S b) (vs.take (hh * 2)) (L0.take hh) := ER.flat_take hh (ER.flat_mono (fun b _ hb => hb.1) hf)
  have hu9 := ER.flat_len hf9
  have hvt : (vs.take (hh * 2)).length = hh * 2 := by
    have h1 := ER.flat_len hft
    rw [List.length_take (l := L0), Nat.min_eq_left hhl] at h1
    exact h1
  refine step_append_grows hgd s x 31 ho 44 i0 _ 2 32 Try.underlying31 hi0 hz0 hz1 hz2 rfl (by decide) A hh hh (vs.take (hh * 2)) hs (fun e => ?_) hvt (fun b e j u hj => ?_) ⟨gB, 0, none⟩ D.length dc us hx hu9 (fun j u hj => hr9.cells (g := gB) rfl j u hj) (ER.flat_one hf9) (by omega) (by simp only [maxLen]; omega) (by omega) ?_
  · have h0 : L0.length = 0 := by
      rcases Nat.eq_zero_or_pos L0.length with h0 | h0
      · exact h0
      · obtain ⟨g', _, e', _⟩ := World.ownsRow.form hr h0
        have e2 : A = some ⟨g', 0, none⟩ := by injection e'
        rw [e] at e2
        cases e2
    omega
  · rw [List.getElem?_take] at hj
    split at hj
    · rename_i hjl
      have h0 : 0 < L0.length := by omega
      obtain ⟨g', c', e', _, _⟩ := World.ownsRow.form hr h0
      have e1 : A = some ⟨g', 0, none⟩ := by injection e'
      have e2 : b = ⟨g', 0, none⟩ := Option.some.inj (e.symm.trans e1)
      rw [e2]
      exact hr.cells (g := g') (by rw [e1]; rfl) j u hj
    · cases hj
  · intro v' w' hw' hgw
    obtain ⟨A', c', rfl⟩ := own_shape hw'
    have hbw : Below w.heap.size w w' := ⟨hgw.os, hgw.tape, hgw.output, hgw.size, fun k hk => hgw.block k hk (by simp)⟩
    have hlen : (L0.take hh ++ D).length = hh + D.length := by rw [List.length_append, List.length_take, Nat.min_eq_left hhl]
    have hlt := World.ownsRow.lt hw'
    have hall : EntE.flat w' (fun b => (S b ∨ (S9 b ∧ b < w.heap.size)) ∧ (Value.slice A' (hh + D.length) c').ownBlock ≠ some b) (vs.take (hh * 2) ++ us) (L0.take hh ++ D) := by
      refine ER.flat_keep hbw (ER.flat_append (ER.flat_mono (fun b hb hs => ⟨.inl hs, fun e => by have := (hlt b e).1; omega⟩) hft) (ER.flat_mono (fun b hb hs => ⟨.inr ⟨hs.1, hb⟩, fun e => by have := (hlt b e).1; omega⟩) hf9))
    have hown' : Own EntE 44 w' w.heap.size (fun b => S b ∨ (S9 b ∧ b < w.heap.size)) (.slice A' (L0.take hh ++ D).length c') (L0.take hh ++ D) := by
      rw [hlen]
      refine ⟨vs.take (hh * 2) ++ us, ?_, hall⟩
      rw [hlen]
      exact hw'
    rw [← hlen]
    exact h A' c' (L0.take hh ++ D) w' rfl hown' hbw
/-- another log stands in the node -/
theorem NodeAt.newE {w w' : World} {g : Nat} {S S' : Nat → Prop} {E E' V M X : Value} {d : LNode} {L : List LEnt} (h : NodeAt w g S E V M X d) (hb : Below w.heap.size w w') (o : Own EntE 44 w' w.heap.size S' E' L) (hS : ∀ b, S' b → S b) :
    NodeAt (w'.setCell ⟨g, 4, none⟩ E') g S' E' V M X { d with log := L } := by
  have hgl := h.blk.lt
  have h' := h.below hb
  have hE'g : E'.ownBlock ≠ some g := fun e => by have := (o.lt g e).1; omega
  refine ⟨h'.blk.set_ 4 E', (o.base (Nat.zero_le _)).setCell hE'g (fun hs => (h.sd g (hS g hs)).1 rfl) _, h'.vot.setCell (h'.vot.ne_blk h'.blk (by decide)) (fun hs => hs.elim) _, h'.mat.setCell (h'.mat.ne_blk h'.blk (by decide)) (fun hs => hs.elim) _, h'.nxt.setCell (h'.nxt.ne_blk h'.blk (by decide)) (fun hs => hs.elim) _, h.mx, fun b hs => h.sd b (hS b hs), fun b hs => by rw [World.size_setCell]; exact h'.sl b (hS b hs)⟩
end Go.Proofs.Ytjpcekpllfelhaa
