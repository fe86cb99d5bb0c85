/- add of a node of a group. (Printed by wip/gen_rsg.py.) -/
import Derived.Test.YtjpcekpllfelhaaRsD
namespace Go.Proofs.Ytjpcekpllfelhaa
open Go.RowKit

section
variable {w w' : World} {g : Nat} {S : Nat → Prop} {E V M X : Value} {d d' : LNode}
theorem NodeAt.setMat {gm c i x : Nat} (h : NodeAt w g S E V (.slice (some ⟨gm, 0, none⟩) d.mat.length c) X d) (hi : i < d.mat.length) (hx : x ≤ 18446744073709551615) :
    NodeAt (w.setCell ⟨gm, i, none⟩ (.int .u64 (x : Int))) g S E V (.slice (some ⟨gm, 0, none⟩) d.mat.length c) X { d with mat := d.mat.set i x } := by
  have hgm : g ≠ gm := fun e => by subst e; exact h.mat.ne_blk h.blk (by decide) rfl
  have o := NE.set_ h.mat hi hx
  rw [List.length_set] at o
  exact ⟨h.blk.far hgm _, h.log.setCell (fun e => h.log.ne_own h.mat (by decide) gm e rfl) (fun hs => (h.sd gm hs).2.2.1 rfl) _, h.vot.setCell (fun e => h.vot.ne_own h.mat (by decide) gm e rfl) (fun hs => hs.elim) _, o, h.nxt.setCell (h.mx gm rfl) (fun hs => hs.elim) _, h.mx, h.sd, fun b hs => by rw [World.size_setCell]; exact h.sl b hs⟩
theorem NodeAt.setNxt {gx c i x : Nat} (h : NodeAt w g S E V M (.slice (some ⟨gx, 0, none⟩) d.next.length c) d) (hi : i < d.next.length) (hx : x ≤ 18446744073709551615) :
    NodeAt (w.setCell ⟨gx, i, none⟩ (.int .u64 (x : Int))) g S E V M (.slice (some ⟨gx, 0, none⟩) d.next.length c) { d with next := d.next.set i x } := by
  have hgm : g ≠ gx := fun e => by subst e; exact h.nxt.ne_blk h.blk (by decide) rfl
  have o := NE.set_ h.nxt hi hx
  rw [List.length_set] at o
  exact ⟨h.blk.far hgm _, h.log.setCell (fun e => h.log.ne_own h.nxt (by decide) gx e rfl) (fun hs => (h.sd gx hs).2.2.2 rfl) _, h.vot.setCell (fun e => h.vot.ne_own h.nxt (by decide) gx e rfl) (fun hs => hs.elim) _, h.mat.setCell (fun e => h.mx gx e rfl) (fun hs => hs.elim) _, o, h.mx, h.sd, fun b hs => by rw [World.size_setCell]; exact h.sl b hs⟩
theorem BoE.set_ {B k c gv : Nat} {x : Bool} {l : List Bool} (h : Own BoE 4 w B Nil (.slice (some ⟨gv, 0, none⟩) l.length c) l) (hk : k < l.length) :
    Own BoE 4 (w.setCell ⟨gv, k, none⟩ (.bool x)) B Nil (.slice (some ⟨gv, 0, none⟩) (l.set k x).length c) (l.set k x) := by
  have o := Own.turn (E := BoE) (k := k) (j := 0) (u := .bool x) (y := x) h hk (by decide) (fun v hv => by
    have hv : v = _ := hv
    subst hv
    exact rfl)
  rw [List.length_set]
  have e : k * BoE.size + 0 = k := Nat.mul_one k
  rw [e] at o
  exact o
theorem NodeAt.setVot {gv c i : Nat} (h : NodeAt w g S E (.slice (some ⟨gv, 0, none⟩) d.votes.length c) M X d) (hi : i < d.votes.length) (x : Bool) :
    NodeAt (w.setCell ⟨gv, i, none⟩ (.bool x)) g S E (.slice (some ⟨gv, 0, none⟩) d.votes.length c) M X { d with votes := d.votes.set i x } := by
  have hgm : g ≠ gv := fun e => by subst e; exact h.vot.ne_blk h.blk (by decide) rfl
  have o := BoE.set_ (x := x) h.vot hi
  rw [List.length_set] at o
  exact ⟨h.blk.far hgm _, h.log.setCell (fun e => h.log.ne_own h.vot (by decide) gv e rfl) (fun hs => (h.sd gv hs).2.1 rfl) _, o, h.mat.setCell (fun e => h.mat.ne_own h.vot (by decide) gv e rfl) (fun hs => hs.elim) _, h.nxt.setCell (fun e => h.nxt.ne_own h.vot (by decide) gv e rfl) (fun hs => hs.elim) _, h.mx, h.sd, fun b hs => by rw [World.size_setCell]; exact h.sl b hs⟩
end
/-- a node turned, and messages answered whose memory is new, from block k0 on -/
def RetMs (g : Nat) (F : Nat → Prop) (r : LNode × List LMsg) (w : World) (en : Ending) (w' : World) : Prop :=
  ∃ A c k0, en = .returned (.slice A r.2.length c) ∧ w.heap.size ≤ k0 ∧ Own MsgE 58 w' k0 (fun b => k0 ≤ b) (.slice A r.2.length c) r.2 ∧ ND w' g (fun b => (F b ∧ b < w.heap.size) ∨ k0 ≤ b) r.1 ∧ BlP F w w'
set_option maxRecDepth 100000 in
set_option maxHeartbeats 4000000 in
theorem add_any (g : Nat) (F : Nat → Prop) (d : LNode) (D : Option Addr) (data : List UInt8) (dc : Nat) (w : World) (hd : ND w g F d) (hD : Bs w D data) (hb : GB d) (hbl : d.log.length + 1 ≤ 1048576) (hn1 : 1 ≤ d.n) (hn5 : d.n ≤ 12) (hi : d.id < d.n) (hm : d.mat.length = d.n) (hx : d.next.length = d.n) :
    Calls Try.prog 32 #[.pointer (some ⟨g, 0, none⟩), .slice D data.length dc] w (RetMs g F (addM d data) w) := by
  obtain ⟨i0, hi0, hz0, hz1, hz2⟩ := info_parts Try.infoEnt
  obtain ⟨S, E, V, M, X, hN, hF⟩ := hd
  obtain ⟨A, ec, rfl⟩ := hN.log.shape
  obtain ⟨A0, c, rfl⟩ := hN.mat.shape
  obtain ⟨gm, rfl, _, hgm⟩ := Own.form hN.mat (by omega)
  have hidm : (d.id : Int) < (d.mat.length : Int) := by omega
  have hidn : d.id < d.mat.length := by omega
  have HM := Lib.hid hm
  have HXN := Lib.hid hx
  have HF := Lib.hid hF
  clear hm hx hF
  go_enter Try.func32, Try.ntmps32
  go_upto_region 1 with fail
  have kd := hN.blk.drew
  refine wp_region_noPanic ?_
  refine wp_region_heldK (fun Y => Blk Y g 48 (nodeC (.slice A d.log.length ec) V (.slice (some ⟨gm, 0, none⟩) d.mat.length c) X d)) 20 (by kernel_rfl) kd (fun hH => ?_)
  refine wpAnyK_takeY (i := 0) (v := ?_) rfl (by kernel_rfl) (by kernel_rfl) (by kernel_rfl) (by kernel_rfl) (fun _ _ _ h => h) (Or.inl ⟨by rfl, ?_⟩) hH ?_
  case refine_2 => intro w; go_simp; try with_reducible rfl
  try simp only [Z1, Z2, Z4, Z5, Z6, Z7]
  refine wpAnyK_takeY (i := 1) (v := ?_) rfl (by kernel_rfl) (by kernel_rfl) (by kernel_rfl) (by kernel_rfl) (fun _ _ _ h => h) (Or.inl ⟨by rfl, ?_⟩) hH ?_
  case refine_2 => intro w; go_simp; try with_reducible rfl
  try simp only [Z1, Z2, Z3, Z4, Z5, Z6, Z7]
  refine wpAnyK_takeY (i := 2) (v := ?_) rfl (by kernel_rfl) (by kernel_rfl) (by kernel_rfl) (by kernel_rfl) (fun _ _ _ h => h) (Or.inl ⟨by rfl, ?_⟩) hH ?_
  case refine_2 => intro w; go_simp; try with_reducible rfl
  try simp only [Z1, Z2, Z3, Z4, Z5, Z6, Z7]
  refine wpAnyK_takeY (i := 3) (v := ?_) rfl (by kernel_rfl) (by kernel_rfl) (by kernel_rfl) (by kernel_rfl) (fun _ _ _ h => h) (Or.inl ⟨by rfl, ?_⟩) hH ?_
  case refine_2 => intro w; go_simp; try with_reducible rfl
  try simp only [Z1, Z2, Z3, Z4, Z5, Z6, Z7]
  refine wpAnyK_takeY (i := 4) (v := ?_) rfl (by kernel_rfl) (by kernel_rfl) (by kernel_rfl) (by kernel_rfl) (fun _ _ _ h => h) (Or.inl ⟨by rfl, ?_⟩) hH ?_
  case refine_2 => intro w; go_simp; try with_reducible rfl
  try simp only [Z1, Z2, Z3, Z4, Z5, Z6, Z7]
  refine wpAnyK_take (i := 5) (v := ?_) rfl (by kernel_rfl) (by kernel_rfl) (by kernel_rfl) (by kernel_rfl) (fun _ _ _ h => h) (Or.inl ⟨by rfl, ?_⟩) hH ?_
  case refine_2 => intro w hSw; have kw : Blk w g 48 (nodeC (.slice A d.log.length ec) V (.slice (some ⟨gm, 0, none⟩) d.mat.length c) X d) := hSw; have s4 : w.cell? ⟨_, 4, none⟩ = some (.slice A d.log.length ec) := Blk.cell kw 4; clear kw hSw; go_simp; try with_reducible rfl
  try simp only [Z1, Z2, Z3, Z4, Z5, Z6, Z7]
  refine wpAnyK_takeY (i := 6) (v := ?_) rfl (by kernel_rfl) (by kernel_rfl) (by kernel_rfl) (by kernel_rfl) (fun _ _ _ h => h) (Or.inl ⟨by rfl, ?_⟩) hH ?_
  case refine_2 => intro w; go_simp; try with_reducible rfl
  try simp only [Z1, Z2, Z3, Z4, Z5, Z6, Z7]
  refine wpAnyK_takeY (i := 7) (v := ?_) rfl (by kernel_rfl) (by kernel_rfl) (by kernel_rfl) (by kernel_rfl) (fun _ _ _ h => h) (Or.inl ⟨by rfl, ?_⟩) hH ?_
  case refine_2 => intro w; go_simp; try with_reducible rfl
  try simp only [Z1, Z2, Z3, Z4, Z5, Z6, Z7]
  refine wpAnyK_takeY (i := 8) (v := ?_) rfl (by kernel_rfl) (by kernel_rfl) (by kernel_rfl) (by kernel_rfl) (fun _ _ _ h => h) (Or.inl ⟨by rfl, ?_⟩) hH ?_
  case refine_2 => intro w; go_simp; try with_reducible rfl
  try simp only [Z1, Z2, Z3, Z4, Z5, Z6, Z7]
  refine wpAnyK_takeY (i := 9) (v := ?_) rfl (by kernel_rfl) (by kernel_rfl) (by kernel_rfl) (by kernel_rfl) (fun _ _ _ h => h) (Or.inl ⟨by rfl, ?_⟩) hH ?_
  case refine_2 => intro w; go_simp; try with_reducible rfl
  try simp only [Z1, Z2, Z3, Z4, Z5, Z6, Z7]
  refine wpAnyK_takeY (i := 10) (v := ?_) rfl (by kernel_rfl) (by kernel_rfl) (by kernel_rfl) (by kernel_rfl) (fun _ _ _ h => h) (Or.inl ⟨by rfl, ?_⟩) hH ?_
  case refine_2 => intro w; go_simp; try with_reducible rfl
  try simp only [Z1, Z2, Z3, Z4, Z5, Z6, Z7]
  refine wpAnyK_take (i := 11) (v := ?_) rfl (by kernel_rfl) (by kernel_rfl) (by kernel_rfl) (by kernel_rfl) (fun _ _ _ h => h) (Or.inl ⟨by rfl, ?_⟩) hH ?_
  case refine_2 => intro w hSw; have kw : Blk w g 48 (nodeC (.slice A d.log.length ec) V (.slice (some ⟨gm, 0, none⟩) d.mat.length c) X d) := hSw; have s0 : w.cell? ⟨_, 0, none⟩ = some (.int .u64 (d.term : Int)) := Blk.cell kw 0; clear kw hSw; go_simp; try with_reducible rfl
  try simp only [Z1, Z2, Z3, Z4, Z5, Z6, Z7]
  refine wpAnyK_takeY (i := 12) (v := ?_) rfl (by kernel_rfl) (by kernel_rfl) (by kernel_rfl) (by kernel_rfl) (fun _ _ _ h => h) (Or.inl ⟨by rfl, ?_⟩) hH ?_
  case refine_2 => intro w; go_simp; try with_reducible rfl
  try simp only [Z1, Z2, Z3, Z4, Z5, Z6, Z7]
  refine wpAnyK_ready (rs := [13]) (by kernel_rfl) (by simp) ?_
  refine AllReadyK.cons rfl (by kernel_rfl) (fun K hK => ?_) AllReadyK.nil
  go_simp
  refine (bclone_any D data dc w.drew hD.drew).mono ?_
  rintro en w4 ⟨Q, qc, rfl, oQ, b4⟩
  replace oQ : OwnB w.heap.size w4 Q data qc := oQ
  have b34 : Below w.heap.size w w4 := below_step (b := w.drew) ((Below.refl _ _).drew) b4
  have kF4 := kd.below b4 kd.lt
  clear kd
  refine hK.out _ _ kF4 ?_
  clear hK K
  try dsimp only
  try simp only [Z1, Z2, Z3, Z4, Z5, Z6, Z7]
  refine wpAnyK_takeY (i := 14) (v := ?_) rfl (by kernel_rfl) (by kernel_rfl) (by kernel_rfl) (by kernel_rfl) (fun _ _ _ h => h) (Or.inl ⟨by rfl, ?_⟩) kF4 ?_
  case refine_2 => intro w; go_simp; try with_reducible rfl
  try simp only [Z1, Z2, Z3, Z4, Z5, Z6, Z7]
  refine wpAnyK_ready (rs := [15]) (by kernel_rfl) (by simp) ?_
  refine AllReadyK.cons rfl (by kernel_rfl) (fun K hK => ?_) AllReadyK.nil
  go_simp
  change K _ (w4.alloc (.cells #[.int .u64 (d.term : Int), .slice Q data.length qc] 44))
  have d5 : Below w4.heap.size w4 (w4.alloc (.cells #[.int .u64 (d.term : Int), .slice Q data.length qc] 44)) := (Below.refl _ _).alloc (Nat.le_refl _) _
  have kF5 := kF4.below d5 kF4.lt
  have hrN := Reads.newN w4 [.int .u64 (d.term : Int), .slice Q data.length qc] 44
  have b35 := below_step b34 d5
  have hNW := hN.wide b35
  have hlX := hN.log.lt
  have hdl := hD.le
  have s4 := b34.size
  have s5 := d5.size
  have htm := hb.term
  have hQl := (OwnB.at_ oQ).mono' (S' := fun b => w.heap.size ≤ b ∧ b < w4.heap.size) fun b h => h
  have hrep : EntE.rep (w4.alloc (.cells #[.int .u64 (d.term : Int), .slice Q data.length qc] 44)) (fun b => (S b ∨ (w.heap.size ≤ b ∧ b < (w4.alloc (.cells #[.int .u64 (d.term : Int), .slice Q data.length qc] 44)).heap.size)) ∧ (Value.slice A d.log.length ec).ownBlock ≠ some b) [.int .u64 (d.term : Int), .slice Q data.length qc] ⟨d.term, data⟩ :=
    ⟨Q, qc, rfl, by show d.term ≤ _; omega, (OwnB.bs oQ (by omega)).below d5, hQl.mono' fun b h => ⟨.inr ⟨h.1, Nat.lt_of_lt_of_le h.2 s5⟩, fun e => by have := (hlX b e).2; omega⟩, OwnB.caps oQ⟩
  clear hN hQl oQ hlX kF4 d5
  generalize (w4.alloc (.cells #[.int .u64 (d.term : Int), .slice Q data.length qc] 44)) = w5 at *
  refine hK.out _ _ kF5 ?_
  clear hK K
  try dsimp only
  try simp only [Z1, Z2, Z3, Z4, Z5, Z6, Z7]
  refine wpAnyK_ready (rs := [16]) (by kernel_rfl) (by simp) ?_
  refine AllReadyK.cons rfl (by kernel_rfl) (fun K hK => ?_) AllReadyK.nil
  refine step_appN EntE w5 rfl (.tmp 10) (.tmp 20) 44 31 rfl i0 _ Try.underlying31 hi0 hz0 hz1 hz2 rfl (fun b => S b ∨ (w.heap.size ≤ b ∧ b < w5.heap.size)) A d.log ec rfl hNW.log _ [.int .u64 (d.term : Int), .slice Q data.length qc] ⟨d.term, data⟩ 1 rfl _ hrN hrep (by simp only [EntE]; omega) (by simp only [maxLen]; omega) ?_
  intro A8 c8 xs8 w8 H8 o8 g8 t8
  have kF8 := kF5.grown g8 (fun e => hNW.log.ne_blk hNW.blk (by decide) e.symm)
  have hNA := hNW.app g8 o8 t8
  have f4 : w8.frozen? ⟨g, 4, none⟩ = false := kF8.frozen 4
  clear kF5 hrep hrN
  refine hK.out _ _ kF8 ?_
  clear hK K
  try dsimp only
  try simp only [Z1, Z2, Z3, Z4, Z5, Z6, Z7]
  refine wpAnyK_takeY (i := 17) (v := ?_) rfl (by kernel_rfl) (by kernel_rfl) (by kernel_rfl) (by kernel_rfl) (fun _ _ _ h => h) (Or.inl ⟨by rfl, ?_⟩) kF8 ?_
  case refine_2 => intro w; go_simp; try with_reducible rfl
  try simp only [Z1, Z2, Z3, Z4, Z5, Z6, Z7]
  refine wpAnyK_takeY (i := 18) (v := ?_) rfl (by kernel_rfl) (by kernel_rfl) (by kernel_rfl) (by kernel_rfl) (fun _ _ _ h => h) (Or.inl ⟨by rfl, ?_⟩) kF8 ?_
  case refine_2 => intro w; go_simp; try with_reducible rfl
  try simp only [Z1, Z2, Z3, Z4, Z5, Z6, Z7]
  refine wpAnyK_takeY (i := 19) (v := ?_) rfl (by kernel_rfl) (by kernel_rfl) (by kernel_rfl) (by kernel_rfl) (fun _ _ _ h => h) (Or.inl ⟨by rfl, ?_⟩) kF8 ?_
  case refine_2 => intro w; go_simp; try with_reducible rfl
  try simp only [Z1, Z2, Z3, Z4, Z5, Z6, Z7]
  refine wpAnyK_ready (rs := [20]) (by kernel_rfl) (by simp) ?_
  refine AllReadyK.turn rfl (fun K hK => ?_) AllReadyK.nil
  have y4 : w8.cell? ⟨g, 4, none⟩ = some (.slice A d.log.length ec) := kF8.cell 4
  go_simp
  refine hK.out _ _ ?_
  clear hK K hH
  try simp only [Z1, Z2, Z3, Z4, Z5, Z6, Z7]
  refine wpAny_done (by kernel_rfl) ?_ _
  refine NoPanic.normal ?_
  have g9 : w.heap.size ≤ (w8.setCell ⟨g, 4, none⟩ (.slice A8 xs8.length c8)).heap.size := by rw [World.size_setCell]; exact Nat.le_trans b35.size g8.size
  have B9 : BlP F w (w8.setCell ⟨g, 4, none⟩ (.slice A8 xs8.length c8)) := ((BlP.of_below b35).grown g8 fun b e h => (HF.out b h).2.2.1 e).setCell (fun h => (HF.out g h).1 rfl) _
  have HT8 := Lib.hid t8
  have HZ5 := Lib.hid b35.size
  clear y4 f4 kF8 hNW o8 g8 t8 b35 s5 s4 b34 b4
  generalize (w8.setCell ⟨g, 4, none⟩ (.slice A8 xs8.length c8)) = w9 at *
  go_upto_region 2 with fail
  refine wp_region_noPanic ?_
  have kd := hNA.blk.drew
  refine wp_region_heldK (fun Y => Blk Y g 48 (nodeC (.slice A8 xs8.length c8) V (.slice (some ⟨gm, 0, none⟩) d.mat.length c) X { d with log := xs8 })) 11 (by kernel_rfl) kd (fun hH => ?_)
  refine wpAnyK_takeY (i := 0) (v := ?_) rfl (by kernel_rfl) (by kernel_rfl) (by kernel_rfl) (by kernel_rfl) (fun _ _ _ h => h) (Or.inl ⟨by rfl, ?_⟩) hH ?_
  case refine_2 => intro w; go_simp; try with_reducible rfl
  try simp only [Z1, Z2, Z4, Z5, Z6, Z7]
  refine wpAnyK_takeY (i := 1) (v := ?_) rfl (by kernel_rfl) (by kernel_rfl) (by kernel_rfl) (by kernel_rfl) (fun _ _ _ h => h) (Or.inl ⟨by rfl, ?_⟩) hH ?_
  case refine_2 => intro w; go_simp; try with_reducible rfl
  try simp only [Z1, Z2, Z3, Z4, Z5, Z6, Z7]
  refine wpAnyK_takeY (i := 2) (v := ?_) rfl (by kernel_rfl) (by kernel_rfl) (by kernel_rfl) (by kernel_rfl) (fun _ _ _ h => h) (Or.inl ⟨by rfl, ?_⟩) hH ?_
  case refine_2 => intro w; go_simp; try with_reducible rfl
  try simp only [Z1, Z2, Z3, Z4, Z5, Z6, Z7]
  refine wpAnyK_take (i := 3) (v := ?_) rfl (by kernel_rfl) (by kernel_rfl) (by kernel_rfl) (by kernel_rfl) (fun _ _ _ h => h) (Or.inl ⟨by rfl, ?_⟩) hH ?_
  case refine_2 => intro w hSw; have kw : Blk w g 48 (nodeC (.slice A8 xs8.length c8) V (.slice (some ⟨gm, 0, none⟩) d.mat.length c) X { d with log := xs8 }) := hSw; have s13 : w.cell? ⟨_, 13, none⟩ = some (.slice (some ⟨gm, 0, none⟩) d.mat.length c) := Blk.cell kw 13; clear kw hSw; go_simp; try with_reducible rfl
  try simp only [Z1, Z2, Z3, Z4, Z5, Z6, Z7]
  refine wpAnyK_takeY (i := 4) (v := ?_) rfl (by kernel_rfl) (by kernel_rfl) (by kernel_rfl) (by kernel_rfl) (fun _ _ _ h => h) (Or.inl ⟨by rfl, ?_⟩) hH ?_
  case refine_2 => intro w; go_simp; try with_reducible rfl
  try simp only [Z1, Z2, Z3, Z4, Z5, Z6, Z7]
  refine wpAnyK_takeY (i := 5) (v := ?_) rfl (by kernel_rfl) (by kernel_rfl) (by kernel_rfl) (by kernel_rfl) (fun _ _ _ h => h) (Or.inl ⟨by rfl, ?_⟩) hH ?_
  case refine_2 => intro w; go_simp; try with_reducible rfl
  try simp only [Z1, Z2, Z3, Z4, Z5, Z6, Z7]
  refine wpAnyK_takeY (i := 6) (v := ?_) rfl (by kernel_rfl) (by kernel_rfl) (by kernel_rfl) (by kernel_rfl) (fun _ _ _ h => h) (Or.inl ⟨by rfl, ?_⟩) hH ?_
  case refine_2 => intro w; go_simp; try with_reducible rfl
  try simp only [Z1, Z2, Z3, Z4, Z5, Z6, Z7]
  refine wpAnyK_take (i := 7) (v := ?_) rfl (by kernel_rfl) (by kernel_rfl) (by kernel_rfl) (by kernel_rfl) (fun _ _ _ h => h) (Or.inl ⟨by rfl, ?_⟩) hH ?_
  case refine_2 => intro w hSw; have kw : Blk w g 48 (nodeC (.slice A8 xs8.length c8) V (.slice (some ⟨gm, 0, none⟩) d.mat.length c) X { d with log := xs8 }) := hSw; have s5 : w.cell? ⟨_, 5, none⟩ = some (.int .i64 (d.id : Int)) := Blk.cell kw 5; clear kw hSw; go_simp; try with_reducible rfl
  try simp only [Z1, Z2, Z3, Z4, Z5, Z6, Z7]
  refine wpAnyK_takeY (i := 8) (v := ?_) rfl (by kernel_rfl) (by kernel_rfl) (by kernel_rfl) (by kernel_rfl) (fun _ _ _ h => h) (Or.inl ⟨by rfl, ?_⟩) hH ?_
  case refine_2 => intro w; go_simp; try with_reducible rfl
  try simp only [Z1, Z2, Z3, Z4, Z5, Z6, Z7]
  refine wpAnyK_ready (rs := [9]) (by kernel_rfl) (by simp) ?_
  refine AllReadyK.cons rfl (by kernel_rfl) (fun K hK => ?_) AllReadyK.nil
  go_simp
  have hll : xs8.length = d.log.length + 1 := by rw [H8.out, List.length_append]; rfl
  have hb8 : GB { d with log := xs8 } := ⟨hb.base, hb.bt, by show xs8.length ≤ _; rw [hll]; exact hbl, hb.term, hb.commit⟩
  refine (last_any g A8 c8 V (.slice (some ⟨gm, 0, none⟩) d.mat.length c) X { d with log := xs8 } w9.drew kd hb8.nb).mono ?_
  have hxl : lastN { d with log := xs8 } = lastN d + 1 := by show d.base + xs8.length = _; rw [hll]; rfl
  rw [hxl]
  rintro en w10 ⟨rfl, q, hq⟩
  have d10 : Below w9.heap.size w9 w10 := by rw [hq]; exact ⟨rfl, rfl, rfl, Nat.le_refl _, fun _ _ => rfl⟩
  have k10 := hNA.blk.below d10 hNA.blk.lt
  have N10 := hNA.below d10
  have HLL := Lib.hid hll
  have HXL := Lib.hid hxl
  have hlb := hb.last
  clear kd hq hll hxl
  refine hK.out _ _ k10 ?_
  clear hK K
  try dsimp only
  try simp only [Z1, Z2, Z3, Z4, Z5, Z6, Z7]
  refine wpAnyK_takeY (i := 10) (v := ?_) rfl (by kernel_rfl) (by kernel_rfl) (by kernel_rfl) (by kernel_rfl) (fun _ _ _ h => h) (Or.inl ⟨by rfl, ?_⟩) k10 ?_
  case refine_2 => intro w; go_simp; try with_reducible rfl
  try simp only [Z1, Z2, Z3, Z4, Z5, Z6, Z7]
  refine wpAnyK_ready (rs := [11]) (by kernel_rfl) (by simp) ?_
  refine AllReadyK.turn rfl (fun K hK => ?_) AllReadyK.nil
  obtain ⟨gm', c', e', ym, _, fm, hml⟩ := NE.own_at N10.mat hidn
  obtain rfl : gm = gm' := by injection e' with e1 _ _; injection Option.some.inj e1
  have hM11 := NodeAt.setMat (d := { d with log := xs8 }) (x := lastN d + 1) N10 hidn (by omega)
  have eZ : w10.setCell ⟨gm, d.id, none⟩ (.int .u64 ((lastN d + 1 : Nat) : Int)) = w10.setCell ⟨gm, d.id, none⟩ (.int .u64 ((lastN d : Int) + 1)) := rfl
  rw [eZ] at hM11
  clear eZ e'
  go_simp
  refine hK.out _ _ ?_
  clear hK K hH
  try simp only [Z1, Z2, Z3, Z4, Z5, Z6, Z7]
  refine wpAny_done (by kernel_rfl) ?_ _
  refine NoPanic.normal ?_
  have hgmF : ∀ b, F b → b ≠ gm := fun b h e => (HF.out b h).2.2.2.2.1 (by rw [e]; rfl)
  have B11 : BlP F w (w10.setCell ⟨gm, d.id, none⟩ (.int .u64 ((lastN d : Int) + 1))) := (B9.trans (.of_below d10)).setCell (fun h => hgmF gm h rfl) _
  have Z11 : w.heap.size ≤ (w10.setCell ⟨gm, d.id, none⟩ (.int .u64 ((lastN d : Int) + 1))).heap.size := B11.size
  clear ym fm N10 k10 d10 B9 hNA
  generalize (w10.setCell ⟨gm, d.id, none⟩ (.int .u64 ((lastN d : Int) + 1))) = w11 at *
  obtain ⟨d1, hd1⟩ : ∃ d1 : LNode, d1 = { d with log := xs8, mat := d.mat.set d.id (lastN d + 1) } := ⟨_, rfl⟩
  rw [← hd1] at hM11
  have hb1 : GB d1 := by rw [hd1]; exact ⟨hb8.base, hb8.bt, hb8.len, hb8.term, hb8.commit⟩
  have T := agree_any g _ _ V _ X d1 w11 hM11 hb1 (by rw [hd1]; exact hn1) (by rw [hd1]; exact hn5) (by rw [hd1]; show (d.mat.set _ _).length = _; rw [List.length_set]; exact HM.out)
  have HAG : Hid (addG d data = agreeP d1) := by show _ = _; unfold addG; rw [hd1, H8.out]
  have HD1 := Lib.hid hd1
  clear hd1
  have agb : ∀ e : LNode, (agreeP e).n = e.n ∧ (agreeP e).next = e.next ∧ ((agreeP e).commit = e.commit ∨ (agreeP e).commit ≤ lastN e) ∧ (agreeP e).base = e.base ∧ (agreeP e).baseTerm = e.baseTerm ∧ (agreeP e).log = e.log ∧ (agreeP e).term = e.term := by
    intro e
    unfold agreeP
    simp only
    split
    · rename_i h
      refine ⟨rfl, rfl, .inr ?_, rfl, rfl, rfl, rfl⟩
      have h1 := h.1
      unfold termAt at h1
      split at h1
      · cases h1
      · rename_i h2
        show (sortP e.mat).getD ((e.n - 1) / 2) 0 ≤ _
        omega
    · exact ⟨rfl, rfl, .inl rfl, rfl, rfl, rfl, rfl⟩
  obtain ⟨a1, a2, a3, a4, a5, a6, a7⟩ := agb d1
  have hb2 : GB (agreeP d1) := ⟨by rw [a4]; exact hb1.base, by rw [a5]; exact hb1.bt, by rw [a6]; exact hb1.len, by rw [a7]; exact hb1.term, by have := hb1.last; have := hb1.commit; omega⟩
  have hn2 : Hid ((agreeP d1).n = d.n) := by show _ = _; rw [a1, HD1.out]
  have hx2 : Hid ((agreeP d1).next = d.next) := by show _ = _; rw [a2, HD1.out]
  clear agb a1 a2 a3 a4 a5 a6 a7
  go_wp2_with fail
  refine T.mono ?_
  clear T
  rintro en w12 ⟨rfl, g12, N12⟩
  have B12 := B11.grown g12 (fun b e h => (HF.out b h).1 (Option.some.inj e).symm)
  obtain ⟨A12, c12, e12⟩ := N12.log.shape
  rw [e12] at N12
  have T := othersS_any g A12 c12 V _ X _ (agreeP d1) w12 N12 hb2 (by rw [hn2.out]; omega) (by rw [hx2.out, hn2.out]; exact HXN.out)
  rw [← HAG.out, show (addG d data).n = d.n by rw [HAG.out]; exact hn2.out] at T
  have D12 : ND w12 g (fun b => F b ∧ b < w.heap.size) (addG d data) := by
    rw [HAG.out]
    refine ⟨_, _, _, _, _, N12, fun b h => ?_⟩
    obtain ⟨f1, f2, f3, f4, f5, f6⟩ := HF.out b h.1
    refine ⟨f1, fun h2 => ?_, ?_, f4, f5, f6⟩
    · rcases h2 with h2 | h2
      · exact f2 h2
      · omega
    · rw [← e12]
      rcases HT8.out with e | e <;> rw [e]
      · exact f3
      · intro e; have := Option.some.inj e; have := HZ5.out; omega
  have Z12 := B12.size
  clear hM11 g12 B11 N12 e12
  go_wp2_with fail
  refine T.mono ?_
  clear T
  rintro en w13 ⟨A13, c13, rfl, o13, b13⟩
  go_wp2_with fail
  go_ret
  exact ⟨A13, c13, w12.heap.size, rfl, Z12, o13, (D12.new b13), B12.trans (.of_below b13)⟩
end Go.Proofs.Ytjpcekpllfelhaa
