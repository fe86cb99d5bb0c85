/- call of a node of a group. (Printed by wip/gen_rsh.py.) -/
import Derived.Test.YtjpcekpllfelhaaRsG
namespace Go.Proofs.Ytjpcekpllfelhaa
open Go.RowKit

theorem run_make_bon (n : Nat) (h : n ≤ 1000) (W : World) : (Instr.makeSlice 45 (.int .i64 (n : Int)) (.int .i64 (n : Int))).run Try.prog W = .ok (.slice (some ⟨W.heap.size, 0, none⟩) n n) (W.alloc (.cells (Array.replicate n (.bool false)) 4)) := by
  obtain ⟨i, hi, hz0, hz1, hz2⟩ := info_parts Try.infoBo
  exact run_make_rep 45 4 i _ Try.underlying45 hi hz0 hz1 rfl _ _ n (by rw [hz2]; omega) (by omega) W
theorem run_make_un (n : Nat) (h : n ≤ 1000) (W : World) : (Instr.makeSlice 46 (.int .i64 (n : Int)) (.int .i64 (n : Int))).run Try.prog W = .ok (.slice (some ⟨W.heap.size, 0, none⟩) n n) (W.alloc (.cells (Array.replicate n (.int .u64 0)) 28)) := by
  obtain ⟨i, hi, hz0, hz1, hz2⟩ := info_parts Try.infoU64i
  exact run_make_rep 46 28 i _ Try.underlying46 hi hz0 hz1 rfl _ _ n (by rw [hz2]; omega) (by omega) W
theorem flat_rep {α : Type} {R : ER α} {w : World} {v : Value} {x : α} (S : Nat → Prop) (hr : R.rep w S [v] x) : ∀ n : Nat, R.flat w S (List.replicate n v) (List.replicate n x)
  | 0 => rfl
  | n + 1 => ⟨[v], List.replicate n v, rfl, hr, flat_rep S hr n⟩
theorem own_rep {α : Type} {R : ER α} {w : World} {b n : Nat} {t : TypeId} {v : Value} {x : α} (h : Blk w b t (Array.replicate n v)) (hn : n ≤ 1000) (hs : R.size = 1) (hr : ∀ S, R.rep w S [v] x) : Own R t w 0 Nil (.slice (some ⟨b, 0, none⟩) n n) (List.replicate n x) := by
  have h1 := own_of_blk (base := 0) (xs := List.replicate n v) (g := b) (t := t) (w := w) (by rw [List.toArray_replicate]; exact h) (Nat.zero_le _) (by rw [List.length_replicate]; simp only [maxLen]; omega)
  rw [List.length_replicate] at h1
  refine ⟨List.replicate n v, ?_, ?_⟩
  · rw [hs, List.length_replicate]; exact h1
  · exact flat_rep _ (hr _) n
section
variable {w w' : World} {g : Nat} {S : Nat → Prop} {E V M X : Value} {d d' : LNode}
theorem NodeAt.newVn {gv n : Nat} (h : NodeAt w g S E V M X d) (hg : w.grownBy w' (some g)) (kb : Blk w' g 48 (nodeC E (.slice (some ⟨gv, 0, none⟩) n n) M X d')) (e : d'.log = d.log ∧ d'.mat = d.mat ∧ d'.next = d.next)
    (hv : w.heap.size ≤ gv) (o : Own BoE 4 w' 0 Nil (.slice (some ⟨gv, 0, none⟩) n n) d'.votes) : NodeAt w' g S E (.slice (some ⟨gv, 0, none⟩) n n) M X d' := by
  obtain ⟨e1, e3, e4⟩ := e
  refine ⟨kb, ?_, o, ?_, ?_, h.mx, fun b hs => ⟨(h.sd b hs).1, fun e => ?_, (h.sd b hs).2.2⟩, fun b hs => Nat.lt_of_lt_of_le (h.sl b hs) hg.size⟩
  · rw [e1]; exact h.log.same hg (.inr (h.log.ne_blk h.blk (by decide))) fun b hs e => (h.sd b hs).1 (Option.some.inj e).symm
  · rw [e3]; exact h.mat.same hg (.inr (h.mat.ne_blk h.blk (by decide))) fun b hs => hs.elim
  · rw [e4]; exact h.nxt.same hg (.inr (h.nxt.ne_blk h.blk (by decide))) fun b hs => hs.elim
  · have h1 : gv = b := Option.some.inj e
    have := h.sl b hs
    omega
theorem NodeAt.newMXn {gm gx n : Nat} (h : NodeAt w g S E V M X d) (hg : w.grownBy w' (some g)) (kb : Blk w' g 48 (nodeC E V (.slice (some ⟨gm, 0, none⟩) n n) (.slice (some ⟨gx, 0, none⟩) n n) d')) (e : d'.log = d.log ∧ d'.votes = d.votes)
    (hm : w.heap.size ≤ gm) (hx : w.heap.size ≤ gx) (hne : gm ≠ gx) (oM : Own NE 28 w' 0 Nil (.slice (some ⟨gm, 0, none⟩) n n) d'.mat) (oX : Own NE 28 w' 0 Nil (.slice (some ⟨gx, 0, none⟩) n n) d'.next) :
    NodeAt w' g S E V (.slice (some ⟨gm, 0, none⟩) n n) (.slice (some ⟨gx, 0, none⟩) n n) d' := by
  obtain ⟨e1, e3⟩ := e
  refine ⟨kb, ?_, ?_, oM, oX, fun b e e2 => hne ((Option.some.inj e).trans (Option.some.inj e2).symm), fun b hs => ⟨(h.sd b hs).1, (h.sd b hs).2.1, fun e => ?_, fun e => ?_⟩, fun b hs => Nat.lt_of_lt_of_le (h.sl b hs) hg.size⟩
  · rw [e1]; exact h.log.same hg (.inr (h.log.ne_blk h.blk (by decide))) fun b hs e => (h.sd b hs).1 (Option.some.inj e).symm
  · rw [e3]; exact h.vot.same hg (.inr (h.vot.ne_blk h.blk (by decide))) fun b hs => hs.elim
  · have h1 : gm = b := Option.some.inj e
    have := h.sl b hs
    omega
  · have h1 : gx = b := Option.some.inj e
    have := h.sl b hs
    omega
end
set_option maxRecDepth 100000 in
set_option maxHeartbeats 4000000 in
theorem call_any (g : Nat) (F : Nat → Prop) (d : LNode) (kd : Int) (tm : Nat) (w : World) (hd : ND w g F d) (hb : GB d) (hn1 : 1 ≤ d.n) (hn5 : d.n ≤ 12) (hi : d.id < d.n) (htm : tm ≤ 18446744073709551615) :
    Calls Try.prog 31 #[.pointer (some ⟨g, 0, none⟩), .int .i64 kd, .int .u64 (tm : Int)] w (RetMs g F (callP d kd tm) w) := by
  obtain ⟨S, E, V, M, X, hN, hF⟩ := hd
  have HF := Lib.hid hF
  clear hF
  go_enter Try.func31, Try.ntmps31
  go_upto_region 1 with fail
  have b3 : Below w.heap.size w (((w.alloc (.cells #[.pointer (some ⟨g, 0, none⟩)] 24)).alloc (.cells #[.int .i64 kd] 3)).alloc (.cells #[.int .u64 (tm : Int)] 28)) := (((Below.refl _ _).alloc (Nat.le_refl _) _).alloc (by simp) _).alloc (by simp; omega) _
  have kb : (((w.alloc (.cells #[.pointer (some ⟨g, 0, none⟩)] 24)).alloc (.cells #[.int .i64 kd] 3)).alloc (.cells #[.int .u64 (tm : Int)] 28)).cell? ⟨w.heap.size, 0, none⟩ = some (.pointer (some ⟨g, 0, none⟩)) :=
    (((Blk.new w 24 #[.pointer (some ⟨g, 0, none⟩)]).alloc _).alloc _).cell 0
  have kk : (((w.alloc (.cells #[.pointer (some ⟨g, 0, none⟩)] 24)).alloc (.cells #[.int .i64 kd] 3)).alloc (.cells #[.int .u64 (tm : Int)] 28)).cell? ⟨w.heap.size + 1, 0, none⟩ = some (.int .i64 kd) := by
    have h := ((Blk.new (w.alloc (.cells #[.pointer (some ⟨g, 0, none⟩)] 24)) 3 #[.int .i64 kd]).alloc (.cells #[.int .u64 (tm : Int)] 28)).cell 0
    rw [World.size_alloc] at h
    exact h
  have kt : (((w.alloc (.cells #[.pointer (some ⟨g, 0, none⟩)] 24)).alloc (.cells #[.int .i64 kd] 3)).alloc (.cells #[.int .u64 (tm : Int)] 28)).cell? ⟨w.heap.size + 1 + 1, 0, none⟩ = some (.int .u64 (tm : Int)) := by
    have h := (Blk.new ((w.alloc (.cells #[.pointer (some ⟨g, 0, none⟩)] 24)).alloc (.cells #[.int .i64 kd] 3)) 28 #[.int .u64 (tm : Int)]).cell 0
    rw [World.size_alloc, World.size_alloc] at h
    exact h
  have z3 : (((w.alloc (.cells #[.pointer (some ⟨g, 0, none⟩)] 24)).alloc (.cells #[.int .i64 kd] 3)).alloc (.cells #[.int .u64 (tm : Int)] 28)).heap.size = w.heap.size + 1 + 1 + 1 := by simp
  have HZ3 := Lib.hid z3
  clear z3
  generalize (((w.alloc (.cells #[.pointer (some ⟨g, 0, none⟩)] 24)).alloc (.cells #[.int .i64 kd] 3)).alloc (.cells #[.int .u64 (tm : Int)] 28)) = w3 at *
  have N3 := hN.below b3
  have B3 : BlP F w w3 := .of_below b3
  have hgl := hN.blk.lt
  have hbl : w.heap.size < w3.heap.size := by have := HZ3.out; omega
  clear hN b3
  refine wp_region_noPanic ?_
  have kd3 : Blk w3.drew g 48 (nodeC E V M X d) ∧ w3.drew.cell? ⟨w.heap.size, 0, none⟩ = some (.pointer (some ⟨g, 0, none⟩)) := ⟨N3.blk.drew, kb⟩
  refine wp_region_heldK (fun Y => Blk Y g 48 (nodeC E V M X d) ∧ Y.cell? ⟨w.heap.size, 0, none⟩ = some (.pointer (some ⟨g, 0, none⟩))) 8 (by kernel_rfl) kd3 (fun hH => ?_)
  refine wpAnyK_take (i := 0) (v := ?_) rfl (by kernel_rfl) (by kernel_rfl) (by kernel_rfl) (by kernel_rfl) (fun _ _ _ h => h) (Or.inl ⟨by rfl, ?_⟩) hH ?_
  case refine_2 => intro w hSw; obtain ⟨kw, kb⟩ := hSw; go_simp; try with_reducible rfl
  try simp only [Z1, Z2, Z4, Z5, Z6, Z7]
  refine wpAnyK_take (i := 1) (v := ?_) rfl (by kernel_rfl) (by kernel_rfl) (by kernel_rfl) (by kernel_rfl) (fun _ _ _ h => h) (Or.inl ⟨by rfl, ?_⟩) hH ?_
  case refine_2 => intro w hSw; obtain ⟨kw, kb⟩ := hSw; go_simp; try with_reducible rfl
  try simp only [Z1, Z2, Z3, Z4, Z5, Z6, Z7]
  refine wpAnyK_takeY (i := 2) (v := ?_) rfl (by kernel_rfl) (by kernel_rfl) (by kernel_rfl) (by kernel_rfl) (fun _ _ _ h => h) (Or.inl ⟨by rfl, ?_⟩) hH ?_
  case refine_2 => intro w; go_simp; try with_reducible rfl
  try simp only [Z1, Z2, Z3, Z4, Z5, Z6, Z7]
  refine wpAnyK_takeY (i := 3) (v := ?_) rfl (by kernel_rfl) (by kernel_rfl) (by kernel_rfl) (by kernel_rfl) (fun _ _ _ h => h) (Or.inl ⟨by rfl, ?_⟩) hH ?_
  case refine_2 => intro w; go_simp; try with_reducible rfl
  try simp only [Z1, Z2, Z3, Z4, Z5, Z6, Z7]
  refine wpAnyK_take (i := 4) (v := ?_) rfl (by kernel_rfl) (by kernel_rfl) (by kernel_rfl) (by kernel_rfl) (fun _ _ _ h => h) (Or.inl ⟨by rfl, ?_⟩) hH ?_
  case refine_2 => intro w hSw; obtain ⟨kw, kb⟩ := hSw; replace kw : Blk w g 48 (nodeC E V M X d) := kw; have s6 : w.cell? ⟨_, 6, none⟩ = some (.int .i64 (d.n : Int)) := Blk.cell kw 6; clear kw; go_simp; try with_reducible rfl
  try simp only [Z1, Z2, Z3, Z4, Z5, Z6, Z7]
  refine wpAnyK_ready (rs := [5]) (by kernel_rfl) (by simp) ?_
  refine AllReadyK.cons rfl (by kernel_rfl) (fun K hK => ?_) AllReadyK.nil
  have hmk := run_make_bon d.n (by omega)
  go_simp
  clear hmk
  have d5 : Below w3.heap.size w3 (w3.drew.alloc (.cells (Array.replicate d.n (.bool false)) 4)) := ((Below.refl _ _).drew).alloc (Nat.le_refl _) _
  have k5 := N3.blk.below d5 N3.blk.lt
  have kv : Blk (w3.drew.alloc (.cells (Array.replicate d.n (.bool false)) 4)) w3.heap.size 4 (Array.replicate d.n (.bool false)) := Blk.new w3.drew _ _
  have kb5 := (d5.cell (p := ⟨w.heap.size, 0, none⟩) hbl).trans kb
  change K _ (w3.drew.alloc (.cells (Array.replicate d.n (.bool false)) 4))
  generalize (w3.drew.alloc (.cells (Array.replicate d.n (.bool false)) 4)) = w5 at *
  have kS5 : Blk w5 g 48 (nodeC E V M X d) ∧ w5.cell? ⟨w.heap.size, 0, none⟩ = some (.pointer (some ⟨g, 0, none⟩)) := ⟨k5, kb5⟩
  clear kd3
  refine hK.out _ _ kS5 ?_
  clear hK K
  try dsimp only
  try simp only [Z1, Z2, Z3, Z4, Z5, Z6, Z7]
  refine wpAnyK_takeY (i := 6) (v := ?_) rfl (by kernel_rfl) (by kernel_rfl) (by kernel_rfl) (by kernel_rfl) (fun _ _ _ h => h) (Or.inl ⟨by rfl, ?_⟩) kS5 ?_
  case refine_2 => intro w; go_simp; try with_reducible rfl
  try simp only [Z1, Z2, Z3, Z4, Z5, Z6, Z7]
  refine wpAnyK_takeY (i := 7) (v := ?_) rfl (by kernel_rfl) (by kernel_rfl) (by kernel_rfl) (by kernel_rfl) (fun _ _ _ h => h) (Or.inl ⟨by rfl, ?_⟩) kS5 ?_
  case refine_2 => intro w; go_simp; try with_reducible rfl
  try simp only [Z1, Z2, Z3, Z4, Z5, Z6, Z7]
  refine wpAnyK_ready (rs := [8]) (by kernel_rfl) (by simp) ?_
  refine AllReadyK.turn rfl (fun K hK => ?_) AllReadyK.nil
  have y12 : w5.cell? ⟨g, 12, none⟩ = some V := k5.cell 12
  have f12 : w5.frozen? ⟨g, 12, none⟩ = false := k5.frozen 12
  go_simp
  refine hK.out _ _ ?_
  clear hK K hH
  try simp only [Z1, Z2, Z3, Z4, Z5, Z6, Z7]
  refine wpAny_done (by kernel_rfl) ?_ _
  refine NoPanic.normal ?_
  have g6 : w3.grownBy (w5.setCell ⟨g, 12, none⟩ (.slice (some ⟨w3.heap.size, 0, none⟩) d.n d.n)) (some g) := only_setCell (only_of_below d5 (some g)) (.inl rfl) _
  have N6 : NodeAt (w5.setCell ⟨g, 12, none⟩ (.slice (some ⟨w3.heap.size, 0, none⟩) d.n d.n)) g S E (.slice (some ⟨w3.heap.size, 0, none⟩) d.n d.n) M X { d with votes := List.replicate d.n false } :=
    N3.newVn g6 (k5.set_ 12 _) ⟨rfl, rfl, rfl⟩ (Nat.le_refl _) (own_rep (kv.far (fun e => by have : w3.heap.size = g := e; have := N3.blk.lt; omega) _) (by omega) rfl (fun _ => rfl))
  have kb6 : (w5.setCell ⟨g, 12, none⟩ (.slice (some ⟨w3.heap.size, 0, none⟩) d.n d.n)).cell? ⟨w.heap.size, 0, none⟩ = some (.pointer (some ⟨g, 0, none⟩)) := by
    rw [World.cell?_setCell_far _ _ _ _ (by show g ≠ w.heap.size; omega)]
    exact kb5
  have kk6 : (w5.setCell ⟨g, 12, none⟩ (.slice (some ⟨w3.heap.size, 0, none⟩) d.n d.n)).cell? ⟨w.heap.size + 1, 0, none⟩ = some (.int .i64 kd) := by
    rw [World.cell?_setCell_far _ _ _ _ (by show g ≠ w.heap.size + 1; omega)]
    exact (d5.cell (p := ⟨w.heap.size + 1, 0, none⟩) (by show w.heap.size + 1 < _; have := HZ3.out; omega)).trans kk
  have kt6 : (w5.setCell ⟨g, 12, none⟩ (.slice (some ⟨w3.heap.size, 0, none⟩) d.n d.n)).cell? ⟨w.heap.size + 1 + 1, 0, none⟩ = some (.int .u64 (tm : Int)) := by
    rw [World.cell?_setCell_far _ _ _ _ (by show g ≠ w.heap.size + 1 + 1; omega)]
    exact (d5.cell (p := ⟨w.heap.size + 1 + 1, 0, none⟩) (by show w.heap.size + 1 + 1 < _; have := HZ3.out; omega)).trans kt
  have B6 := B3.grown g6 (fun b e h => (HF.out b h).1 (Option.some.inj e).symm)
  have z6 := g6.size
  clear y12 f12 kS5 k5 kv kb5 d5 g6 N3 B3 kk kt
  generalize (w5.setCell ⟨g, 12, none⟩ (.slice (some ⟨w3.heap.size, 0, none⟩) d.n d.n)) = w6 at *
  go_upto_region 2 with fail
  have q5 : w6.cell? ⟨g, 5, none⟩ = some (.int .i64 (d.id : Int)) := N6.blk.cell 5
  have q12 : w6.cell? ⟨g, 12, none⟩ = some (.slice (some ⟨w3.heap.size, 0, none⟩) d.n d.n) := N6.blk.cell 12
  have hidi : (d.id : Int) < (d.n : Int) := by omega
  go_still_tail 9, (by kernel_rfl)
  clear q5 q12
  have B7 := B6.drew
  have N7 := N6.below ((Below.refl _ _).drew)
  have kb7 : w6.drew.cell? ⟨w.heap.size, 0, none⟩ = some (.pointer (some ⟨g, 0, none⟩)) := kb6
  have kk7 : w6.drew.cell? ⟨w.heap.size + 1, 0, none⟩ = some (.int .i64 kd) := kk6
  have kt7 : w6.drew.cell? ⟨w.heap.size + 1 + 1, 0, none⟩ = some (.int .u64 (tm : Int)) := kt6
  have z7 : w3.heap.size ≤ w6.drew.heap.size := z6
  clear B6 N6 kb6 kk6 kt6 z6
  change wpList _ _ _ _ _ w6.drew
  generalize w6.drew = w7 at *
  have N7' : NodeAt w7 g S E (.slice (some ⟨w3.heap.size, 0, none⟩) (List.replicate d.n false).length d.n) M X { d with votes := List.replicate d.n false } := by rw [List.length_replicate]; exact N7
  obtain ⟨gv', c', e', yv, fv, hvl⟩ := BoE.own_at N7'.vot (i := d.id) (by show _ < (List.replicate d.n false).length; rw [List.length_replicate]; exact hi)
  obtain rfl : w3.heap.size = gv' := by injection e' with e1 _ _; injection Option.some.inj e1
  have N8 := NodeAt.setVot (d := { d with votes := List.replicate d.n false }) (i := d.id) N7' (by show _ < (List.replicate d.n false).length; rw [List.length_replicate]; exact hi) true
  have kb8 : (w7.setCell ⟨w3.heap.size, d.id, none⟩ (.bool true)).cell? ⟨w.heap.size, 0, none⟩ = some (.pointer (some ⟨g, 0, none⟩)) := by
    rw [World.cell?_setCell_far _ _ _ _ (by show w3.heap.size ≠ w.heap.size; omega)]
    exact kb7
  have kk8 : (w7.setCell ⟨w3.heap.size, d.id, none⟩ (.bool true)).cell? ⟨w.heap.size + 1, 0, none⟩ = some (.int .i64 kd) := by
    rw [World.cell?_setCell_far _ _ _ _ (by show w3.heap.size ≠ w.heap.size + 1; have := HZ3.out; omega)]
    exact kk7
  have kt8 : (w7.setCell ⟨w3.heap.size, d.id, none⟩ (.bool true)).cell? ⟨w.heap.size + 1 + 1, 0, none⟩ = some (.int .u64 (tm : Int)) := by
    rw [World.cell?_setCell_far _ _ _ _ (by show w3.heap.size ≠ w.heap.size + 1 + 1; have := HZ3.out; omega)]
    exact kt7
  have B8 : BlP (fun b => F b ∧ b < w.heap.size) w (w7.setCell ⟨w3.heap.size, d.id, none⟩ (.bool true)) := by
    have B7' : BlP (fun b => F b ∧ b < w.heap.size) w w7 := ⟨B7.os, B7.tape, B7.output, B7.size, fun b h1 h2 => B7.block b h1 h2.1⟩
    exact B7'.setCell (fun h => by have : w3.heap.size < w.heap.size := h.2; omega) _
  have z8 : w3.heap.size ≤ (w7.setCell ⟨w3.heap.size, d.id, none⟩ (.bool true)).heap.size := by rw [World.size_setCell]; exact z7
  go_upto_region 3 with fail
  clear yv fv hvl kb7 kk7 kt7 N7 N7' B7 hidi
  generalize (w7.setCell ⟨w3.heap.size, d.id, none⟩ (.bool true)) = w8 at *
  obtain ⟨d1, hd1⟩ : ∃ d1 : LNode, d1 = { d with votes := (List.replicate d.n false).set d.id true } := ⟨_, rfl⟩
  replace N8 : NodeAt w8 g S E (.slice (some ⟨w3.heap.size, 0, none⟩) (List.replicate d.n false).length d.n) M X { d with votes := (List.replicate d.n false).set d.id true } := N8
  rw [← hd1] at N8
  have hCP : Hid (callP d kd tm = (d1, othersP d1 (fun _ => askP d1 kd tm) d1.n)) := by show _ = _; rw [hd1]; rfl
  have hb1 : GB d1 := by rw [hd1]; exact ⟨hb.base, hb.bt, hb.len, hb.term, hb.commit⟩
  have hn1' : d1.n ≤ 1000 := by rw [hd1]; show d.n ≤ 1000; omega
  have hlv := List.length_replicate (n := d.n) (a := false)
  rw [hlv] at N8
  clear hd1 hlv
  obtain ⟨A8, c8, e8⟩ := N8.log.shape
  rw [e8] at N8
  have HSZ := HZ3.out
  have T := othersC_any g A8 c8 _ M X S d1 kd tm (w.heap.size + 1) (w.heap.size + 1 + 1) w.heap.size w8 N8 hb1 hn1' htm (by omega) (by omega) (by omega) kk8 kt8 kb8
  clear HSZ
  have D8 : ND w8 g (fun b => F b ∧ b < w.heap.size) d1 := by
    refine ⟨_, _, _, _, _, N8, fun b h => ?_⟩
    obtain ⟨f1, f2, f3, f4, f5, f6⟩ := HF.out b h.1
    exact ⟨f1, f2, by rw [← e8]; exact f3, fun e => by have h1 : w3.heap.size = b := Option.some.inj e; have := h.2; omega, f5, f6⟩
  clear N8 e8
  go_wp2_with fail
  refine T.mono ?_
  clear T
  rintro en w13 ⟨A13, c13, rfl, o13, b13⟩
  go_wp2_with fail
  go_ret
  rw [hCP.out]
  have BZ := B8.trans (.of_below b13)
  exact ⟨A13, c13, w8.heap.size, rfl, by omega, o13, D8.new b13, ⟨BZ.os, BZ.tape, BZ.output, BZ.size, fun b h1 h2 => BZ.block b h1 ⟨h2, h1⟩⟩⟩
end Go.Proofs.Ytjpcekpllfelhaa
