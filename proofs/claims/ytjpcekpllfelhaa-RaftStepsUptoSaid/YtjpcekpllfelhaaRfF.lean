/- A lone node's call: its own vote. (Printed by wip/gen_rff.py.) -/
import Derived.Test.YtjpcekpllfelhaaRfE
namespace Go.Proofs.Ytjpcekpllfelhaa
open Go.RowKit

theorem Try.infoBo : (Try.prog.info? 4).map (fun i => (i.zero, i.size, i.bytes)) = some (some (.bool false), 1, 1) := by kernel_rfl
theorem run_make_bo (W : World) : (Instr.makeSlice 45 (.int .i64 1) (.int .i64 1)).run Try.prog W = .ok (.slice (some ⟨W.heap.size, 0, none⟩) 1 1) (W.alloc (.cells #[.bool false] 4)) := by
  obtain ⟨i, hi, hz0, hz1, hz2⟩ := info_parts Try.infoBo
  exact run_make_rep 45 4 i _ Try.underlying45 hi hz0 hz1 rfl _ _ 1 (by rw [hz2]; omega) (by omega) W
theorem run_make_u (W : World) : (Instr.makeSlice 46 (.int .i64 1) (.int .i64 1)).run Try.prog W = .ok (.slice (some ⟨W.heap.size, 0, none⟩) 1 1) (W.alloc (.cells #[.int .u64 0] 28)) := by
  obtain ⟨i, hi, hz0, hz1, hz2⟩ := info_parts Try.infoU64i
  exact run_make_rep 46 28 i _ Try.underlying46 hi hz0 hz1 rfl _ _ 1 (by rw [hz2]; omega) (by omega) W
theorem own_new1 {α : Type} {R : ER α} {w : World} {b : Nat} {t : TypeId} {v : Value} {x : α} (h : Blk w b t #[v]) (hs : R.size = 1) (hr : ∀ S, R.rep w S [v] x) : Own R t w 0 Nil (.slice (some ⟨b, 0, none⟩) 1 1) [x] := by
  have h1 := own_of_blk (base := 0) (xs := [v]) h (Nat.zero_le _) (by simp [maxLen])
  refine ⟨[v], ?_, ?_⟩
  · rw [hs]; exact h1
  · exact ER.flat_one_ (hr _)
section
variable {w w' : World} {g : Nat} {S : Nat → Prop} {E V M X : Value} {d d' : LNode}
/-- votes are a new row -/
theorem NodeAt.newV {gv : Nat} (h : NodeAt w g S E V M X d) (hg : w.grownBy w' (some g)) (kb : Blk w' g 48 (nodeC E (.slice (some ⟨gv, 0, none⟩) 1 1) M X d')) (e : d'.log = d.log ∧ d'.mat = d.mat ∧ d'.next = d.next)
    (hv : w.heap.size ≤ gv) (o : Own BoE 4 w' 0 Nil (.slice (some ⟨gv, 0, none⟩) 1 1) d'.votes) : NodeAt w' g S E (.slice (some ⟨gv, 0, none⟩) 1 1) M X d' := by
  obtain ⟨e1, e3, e4⟩ := e
  refine ⟨kb, ?_, o, ?_, ?_, h.mx, fun b hs => ⟨(h.sd b hs).1, fun e => ?_, (h.sd b hs).2.2⟩, fun b hs => Nat.lt_of_lt_of_le (h.sl b hs) hg.size⟩
  · rw [e1]; exact h.log.same hg (.inr (h.log.ne_blk h.blk (by decide))) fun b hs e => (h.sd b hs).1 (Option.some.inj e).symm
  · rw [e3]; exact h.mat.same hg (.inr (h.mat.ne_blk h.blk (by decide))) fun b hs => hs.elim
  · rw [e4]; exact h.nxt.same hg (.inr (h.nxt.ne_blk h.blk (by decide))) fun b hs => hs.elim
  · have h1 : gv = b := Option.some.inj e
    have := h.sl b hs
    omega
/-- votes[0] turns -/
theorem NodeAt.setV {gv c : Nat} {v : Bool} (h : NodeAt w g S E (.slice (some ⟨gv, 0, none⟩) 1 c) M X d) (hv : d.votes = [v]) (x : Bool) :
    NodeAt (w.setCell ⟨gv, 0, none⟩ (.bool x)) g S E (.slice (some ⟨gv, 0, none⟩) 1 c) M X { d with votes := [x] } := by
  have hgm : g ≠ gv := fun e => by subst e; exact h.vot.ne_blk h.blk (by decide) rfl
  have hvot := h.vot
  rw [hv] at hvot
  have o := Own.turn (E := BoE) (k := 0) (j := 0) (u := .bool x) (y := x) hvot (by simp) (by decide) (fun v hv => by
    have hv : v = _ := hv
    subst hv
    exact rfl)
  refine ⟨h.blk.far hgm _, h.log.setCell (fun e => h.log.ne_own h.vot (by decide) gv e rfl) (fun hs => (h.sd gv hs).2.1 rfl) _, o, h.mat.setCell (fun e => h.mat.ne_own h.vot (by decide) gv e rfl) (fun hs => hs.elim) _, h.nxt.setCell (fun e => h.nxt.ne_own h.vot (by decide) gv e rfl) (fun hs => hs.elim) _, h.mx, h.sd, fun b hs => by rw [World.size_setCell]; exact h.sl b hs⟩
theorem NodeAt.votCell {gv c : Nat} {v : Bool} (h : NodeAt w g S E (.slice (some ⟨gv, 0, none⟩) 1 c) M X d) (hv : d.votes = [v]) : w.cell? ⟨gv, 0, none⟩ = some (.bool v) ∧ w.frozen? ⟨gv, 0, none⟩ = false ∧ gv < w.heap.size := by
  obtain ⟨vs, h1, h2⟩ := h.vot
  rw [hv] at h1 h2
  obtain ⟨u, r, rfl, hu, rfl⟩ := h2
  have hu : u = _ := hu
  subst hu
  refine ⟨?_, h1.frozenAt 0, (h.vot.lt gv rfl).2⟩
  rw [h1.cellAt 0 (by decide)]
  rfl
end
theorem ND.below {w w' : World} {g : Nat} {F : Nat → Prop} {d : LNode} (h : ND w g F d) (hb : Below w.heap.size w w') : ND w' g F d := by
  obtain ⟨S, E, V, M, X, h1, h2⟩ := h
  exact ⟨S, E, V, M, X, h1.below hb, h2⟩
theorem ND.mono {w : World} {g : Nat} {F F' : Nat → Prop} {d : LNode} (h : ND w g F d) (hf : ∀ b, F' b → F b) : ND w g F' d := by
  obtain ⟨S, E, V, M, X, h1, h2⟩ := h
  exact ⟨S, E, V, M, X, h1, fun b hb => h2 b (hf b hb)⟩
set_option maxRecDepth 100000 in
set_option maxHeartbeats 2000000 in
theorem call_one (g : Nat) (F : Nat → Prop) (d : LNode) (kd : Int) (tm : Nat) (w : World) (hd : ND w g F d) (hn : d.n = 1) (hi : d.id = 0) :
    Calls Try.prog 31 #[.pointer (some ⟨g, 0, none⟩), .int .i64 kd, .int .u64 (tm : Int)] w (fun en w' => en = .returned (.slice none 0 0) ∧ NDTo g F { d with votes := [true] } w w') := by
  obtain ⟨S, E, V, M, X, hN, hF⟩ := hd
  have HN1 := Lib.hid hn
  have HI := Lib.hid hi
  have HF := Lib.hid hF
  clear hn hi hF
  go_enter Try.func31, Try.ntmps31
  go_upto_region 1 with fail
  have b3 : Below w.heap.size w (((w.alloc (.cells #[.pointer (some ⟨g, 0, none⟩)] 24)).alloc (.cells #[.int .i64 kd] 3)).alloc (.cells #[.int .u64 (tm : Int)] 28)) := (((Below.refl _ _).alloc (Nat.le_refl _) _).alloc (by simp) _).alloc (by simp; omega) _
  have kb : (((w.alloc (.cells #[.pointer (some ⟨g, 0, none⟩)] 24)).alloc (.cells #[.int .i64 kd] 3)).alloc (.cells #[.int .u64 (tm : Int)] 28)).cell? ⟨w.heap.size, 0, none⟩ = some (.pointer (some ⟨g, 0, none⟩)) :=
    (((Blk.new w 24 #[.pointer (some ⟨g, 0, none⟩)]).alloc _).alloc _).cell 0
  generalize (((w.alloc (.cells #[.pointer (some ⟨g, 0, none⟩)] 24)).alloc (.cells #[.int .i64 kd] 3)).alloc (.cells #[.int .u64 (tm : Int)] 28)) = w3 at *
  have N3 := hN.below b3
  have B3 : BlP F w w3 := .of_below b3
  have z3 := b3.size
  have hgl := hN.blk.lt
  clear hN b3
  refine wp_region_noPanic ?_
  have kd3 : Blk w3.drew g 48 (nodeC E V M X d) ∧ w3.drew.cell? ⟨w.heap.size, 0, none⟩ = some (.pointer (some ⟨g, 0, none⟩)) := ⟨N3.blk.drew, kb⟩
  have hbl : w.heap.size < w3.heap.size := by
    rcases Nat.lt_or_ge w.heap.size w3.heap.size with h | h
    · exact h
    · exfalso
      have h1 := kb
      unfold World.cell? at h1
      rw [Array.getElem?_eq_none h] at h1
      cases h1
  refine wp_region_heldK (fun Y => Blk Y g 48 (nodeC E V M X d) ∧ Y.cell? ⟨w.heap.size, 0, none⟩ = some (.pointer (some ⟨g, 0, none⟩))) 8 (by kernel_rfl) kd3 (fun hH => ?_)
  refine wpAnyK_take (i := 0) (v := ?_) rfl (by kernel_rfl) (by kernel_rfl) (by kernel_rfl) (by kernel_rfl) (fun _ _ _ h => h) (Or.inl ⟨by rfl, ?_⟩) hH ?_
  case refine_2 => intro w hSw; obtain ⟨kw, kb⟩ := hSw; replace kw : Blk w g 48 (nodeC E V M X d) := kw; clear kw; go_simp; try with_reducible rfl
  try simp only [Z1, Z2, Z4, Z5, Z6, Z7]
  refine wpAnyK_take (i := 1) (v := ?_) rfl (by kernel_rfl) (by kernel_rfl) (by kernel_rfl) (by kernel_rfl) (fun _ _ _ h => h) (Or.inl ⟨by rfl, ?_⟩) hH ?_
  case refine_2 => intro w hSw; obtain ⟨kw, kb⟩ := hSw; replace kw : Blk w g 48 (nodeC E V M X d) := kw; clear kw; go_simp; try with_reducible rfl
  try simp only [Z1, Z2, Z3, Z4, Z5, Z6, Z7]
  refine wpAnyK_takeY (i := 2) (v := ?_) rfl (by kernel_rfl) (by kernel_rfl) (by kernel_rfl) (by kernel_rfl) (fun _ _ _ h => h) (Or.inl ⟨by rfl, ?_⟩) hH ?_
  case refine_2 => intro w; go_simp; try with_reducible rfl
  try simp only [Z1, Z2, Z3, Z4, Z5, Z6, Z7]
  refine wpAnyK_takeY (i := 3) (v := ?_) rfl (by kernel_rfl) (by kernel_rfl) (by kernel_rfl) (by kernel_rfl) (fun _ _ _ h => h) (Or.inl ⟨by rfl, ?_⟩) hH ?_
  case refine_2 => intro w; go_simp; try with_reducible rfl
  try simp only [Z1, Z2, Z3, Z4, Z5, Z6, Z7]
  refine wpAnyK_take (i := 4) (v := ?_) rfl (by kernel_rfl) (by kernel_rfl) (by kernel_rfl) (by kernel_rfl) (fun _ _ _ h => h) (Or.inl ⟨by rfl, ?_⟩) hH ?_
  case refine_2 => intro w hSw; obtain ⟨kw, kb⟩ := hSw; replace kw : Blk w g 48 (nodeC E V M X d) := kw; have s6 : w.cell? ⟨_, 6, none⟩ = some (.int .i64 1) := (Blk.cell kw 6).trans (congrArg some (congrArg (Value.int .i64) (congrArg Int.ofNat HN1.out))); clear kw; go_simp; try with_reducible rfl
  try simp only [Z1, Z2, Z3, Z4, Z5, Z6, Z7]
  refine wpAnyK_ready (rs := [5]) (by kernel_rfl) (by simp) ?_
  refine AllReadyK.cons rfl (by kernel_rfl) (fun K hK => ?_) AllReadyK.nil
  have hmk := run_make_bo
  go_simp
  clear hmk
  have d5 : Below w3.heap.size w3 (w3.drew.alloc (.cells #[.bool false] 4)) := ((Below.refl _ _).drew).alloc (Nat.le_refl _) _
  have k5 := N3.blk.below d5 N3.blk.lt
  have kv : Blk (w3.drew.alloc (.cells #[.bool false] 4)) w3.heap.size 4 #[.bool false] := Blk.new w3.drew _ _
  have kb5 : (w3.drew.alloc (.cells #[.bool false] 4)).cell? ⟨w.heap.size, 0, none⟩ = some (.pointer (some ⟨g, 0, none⟩)) := (d5.cell (p := ⟨w.heap.size, 0, none⟩) hbl).trans kb
  change K _ (w3.drew.alloc (.cells #[.bool false] 4))
  generalize (w3.drew.alloc (.cells #[.bool false] 4)) = w5 at *
  have kk : Blk w5 g 48 (nodeC E V M X d) ∧ w5.cell? ⟨w.heap.size, 0, none⟩ = some (.pointer (some ⟨g, 0, none⟩)) := ⟨k5, kb5⟩
  clear kd3
  refine hK.out _ _ kk ?_
  clear hK K
  try dsimp only
  try simp only [Z1, Z2, Z3, Z4, Z5, Z6, Z7]
  refine wpAnyK_takeY (i := 6) (v := ?_) rfl (by kernel_rfl) (by kernel_rfl) (by kernel_rfl) (by kernel_rfl) (fun _ _ _ h => h) (Or.inl ⟨by rfl, ?_⟩) kk ?_
  case refine_2 => intro w; go_simp; try with_reducible rfl
  try simp only [Z1, Z2, Z3, Z4, Z5, Z6, Z7]
  refine wpAnyK_takeY (i := 7) (v := ?_) rfl (by kernel_rfl) (by kernel_rfl) (by kernel_rfl) (by kernel_rfl) (fun _ _ _ h => h) (Or.inl ⟨by rfl, ?_⟩) kk ?_
  case refine_2 => intro w; go_simp; try with_reducible rfl
  try simp only [Z1, Z2, Z3, Z4, Z5, Z6, Z7]
  refine wpAnyK_ready (rs := [8]) (by kernel_rfl) (by simp) ?_
  refine AllReadyK.turn rfl (fun K hK => ?_) AllReadyK.nil
  have y12 : w5.cell? ⟨g, 12, none⟩ = some V := k5.cell 12
  have f12 : w5.frozen? ⟨g, 12, none⟩ = false := k5.frozen 12
  go_simp
  refine hK.out _ _ ?_
  clear hK K hH
  try simp only [Z1, Z2, Z3, Z4, Z5, Z6, Z7]
  refine wpAny_done (by kernel_rfl) ?_ _
  refine NoPanic.normal ?_
  have g6 : w3.grownBy (w5.setCell ⟨g, 12, none⟩ (.slice (some ⟨w3.heap.size, 0, none⟩) 1 1)) (some g) := only_setCell (only_of_below d5 (some g)) (.inl rfl) _
  have N6 : NodeAt (w5.setCell ⟨g, 12, none⟩ (.slice (some ⟨w3.heap.size, 0, none⟩) 1 1)) g S E (.slice (some ⟨w3.heap.size, 0, none⟩) 1 1) M X { d with votes := [false] } :=
    N3.newV g6 (k5.set_ 12 _) ⟨rfl, rfl, rfl⟩ (Nat.le_refl _) (own_new1 (kv.far (fun e => by have : w3.heap.size = g := e; have := N3.blk.lt; omega) _) rfl (fun _ => rfl))
  have kb6 : (w5.setCell ⟨g, 12, none⟩ (.slice (some ⟨w3.heap.size, 0, none⟩) 1 1)).cell? ⟨w.heap.size, 0, none⟩ = some (.pointer (some ⟨g, 0, none⟩)) := by
    rw [World.cell?_setCell_far _ _ _ _ (by show g ≠ w.heap.size; omega)]
    exact kb5
  have B6 := B3.grown g6 (fun b e h => (HF.out b h).1 (Option.some.inj e).symm)
  clear y12 f12 kk k5 kv kb5 d5 g6 N3 B3
  generalize (w5.setCell ⟨g, 12, none⟩ (.slice (some ⟨w3.heap.size, 0, none⟩) 1 1)) = w6 at *
  go_upto_region 2 with fail
  have q5 : w6.cell? ⟨g, 5, none⟩ = some (.int .i64 0) := (N6.blk.cell 5).trans (congrArg some (congrArg (Value.int .i64) (congrArg Int.ofNat HI.out)))
  have q12 : w6.cell? ⟨g, 12, none⟩ = some (.slice (some ⟨w3.heap.size, 0, none⟩) 1 1) := N6.blk.cell 12
  go_still_tail 9, (by kernel_rfl)
  clear q5 q12
  have B7 := B6.drew
  have N7 := N6.below ((Below.refl _ _).drew)
  have kb7 : w6.drew.cell? ⟨w.heap.size, 0, none⟩ = some (.pointer (some ⟨g, 0, none⟩)) := kb6
  clear B6 N6 kb6
  change wpList _ _ _ _ _ w6.drew
  generalize w6.drew = w7 at *
  obtain ⟨yv, fv, hvl⟩ := N7.votCell rfl
  have N8 := N7.setV rfl true
  have kb8 : (w7.setCell ⟨w3.heap.size, 0, none⟩ (.bool true)).cell? ⟨w.heap.size, 0, none⟩ = some (.pointer (some ⟨g, 0, none⟩)) := by
    rw [World.cell?_setCell_far _ _ _ _ (by show w3.heap.size ≠ w.heap.size; omega)]
    exact kb7
  have B8 : BlP (fun b => F b ∧ b < w.heap.size) w (w7.setCell ⟨w3.heap.size, 0, none⟩ (.bool true)) := by
    have B7' : BlP (fun b => F b ∧ b < w.heap.size) w w7 := ⟨B7.os, B7.tape, B7.output, B7.size, fun b h1 h2 => B7.block b h1 h2.1⟩
    exact B7'.setCell (fun h => by have : w3.heap.size < w.heap.size := h.2; omega) _
  go_upto_region 3 with fail
  clear yv fv hvl kb7 N7 B7
  generalize (w7.setCell ⟨w3.heap.size, 0, none⟩ (.bool true)) = w8 at *
  have T := fun fv => others_one g E (.slice (some ⟨w3.heap.size, 0, none⟩) 1 1) M X fv _ w8 N8.blk HN1.out HI.out
  go_wp2_with fail
  refine (T _).mono ?_
  clear T
  rintro en w13 ⟨rfl, rfl⟩
  go_wp2_with fail
  go_ret
  refine ⟨rfl, ⟨_, _, _, _, _, N8, fun b h => ?_⟩, ⟨B8.os, B8.tape, B8.output, B8.size, fun b h1 h2 => B8.block b h1 ⟨h2, h1⟩⟩⟩
  obtain ⟨f1, f2, f3, f4, f5, f6⟩ := HF.out b h.1
  exact ⟨f1, f2, f3, fun e => by have h1 : w3.heap.size = b := Option.some.inj e; have := h.2; omega, f5, f6⟩
end Go.Proofs.Ytjpcekpllfelhaa
