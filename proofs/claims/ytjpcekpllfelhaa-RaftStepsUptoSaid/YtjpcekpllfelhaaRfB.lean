/- Entries of their own: raft.twins. (Printed by wip/gen_rfb.py.) -/
import Derived.Test.YtjpcekpllfelhaaRfA
import Derived.Test.YtjpcekpllfelhaaBClonN
import Derived.Test.YtjpcekpllfelhaaHeldK
import Derived.Test.YtjpcekpllfelhaaBlkS
import Derived.Deep.RegionHeld3
namespace Go.Proofs.Ytjpcekpllfelhaa
open Go.RowKit

theorem step_appE {α : Type} (E : ER α) (b : Nat) (w0 w : World) {ops : Array Oper} {o : Oper} {a : Act} {K : Act → World → Prop} {Q : Exit → Act → World → Prop} {X : Prop} (hgd : o.guard = none) (s x : Operand) (t ty : TypeId)
    (ho : o.op = .call { callee := .builtin .append, args := #[s, x], argTypes := #[ty, ty] }) (i : TypeInfo) (z : Value) (ht : Try.prog.underlying ty = some (.slice t)) (hi : Try.prog.info? t = some i) (hz : i.zero = some z) (hsize : i.size = E.size) (hby : i.bytes = E.bytes) (hzs : z.cells.size = E.size)
    (S : Nat → Prop) (A : Option Addr) (xs : List α) (c : Nat) (hs : a.eval s = .slice A xs.length c) (hown : Own E t w b S (.slice A xs.length c) xs)
    (B : Option Addr) (us : List Value) (y : α) (d : Nat) (hx : a.eval x = .slice B 1 d) (Bd : Nat) (hr : Reads w Bd E.size B 1 us) (hrep : E.rep w (fun b => S b ∧ (Value.slice A xs.length c).ownBlock ≠ some b) us y)
    (hl : (xs.length + 1) * E.bytes ≤ 140737488355328) (hl2 : xs.length + 1 ≤ maxLen) (hb : Below w0.heap.size w0 w) (hb0 : w0.heap.size ≤ b) (hbw : b ≤ w.heap.size)
    (h : ∀ A' c' xs' w', Hid (xs' = xs ++ [y]) → Own E t w' b S (.slice A' xs'.length c') xs' → Below w0.heap.size w0 w' → w.grownBy w' (Value.slice A xs.length c).ownBlock → ((Value.slice A' xs'.length c').ownBlock = (Value.slice A xs.length c).ownBlock ∨ (Value.slice A' xs'.length c').ownBlock = some w.heap.size) → K (a.put o.dst (.slice A' xs'.length c')) w') :
    if Region.wanted o (yielded ops a.tmps) = true then Oper.wp Try.prog o a w K Q else X := by
  have hlt := Own.lt hown
  obtain ⟨vs, hown, hf⟩ := hown
  refine step_append_sh w hgd s x ty ho b t i z E.size E.bytes ht hi hz hsize hby hzs E.pos _ _ _ hs hown Bd B 1 d us hx hr (E.one hrep) hl2 hl hbw ?_
  intro A' c' w' o' g' t'
  have e : xs.length + 1 = (xs ++ [y]).length := by rw [List.length_append]; rfl
  have hst := Own.step (S := S) hf hrep o' g' t'
  rw [e] at hst t' ⊢
  exact h A' c' (xs ++ [y]) w' rfl hst (hb.grown g' hb.size fun j hj => by have := (hlt j hj).1; omega) g' t'


theorem Try.infoEnt : (Try.prog.info? 44).map (fun i => (i.zero, i.size, i.bytes)) = some (some (.agg #[.int .u64 0, .slice none 0 0]), 2, 32) := by kernel_rfl
/-- entries answered, all memory new -/
def RetEnts (l : List LEnt) (w : World) (en : Ending) (w' : World) : Prop :=
  ∃ A c, en = .returned (.slice A l.length c) ∧ Own EntO 44 w' w.heap.size (fun g => w.heap.size ≤ g) (.slice A l.length c) l ∧ Below w.heap.size w w'
set_option maxRecDepth 100000 in
set_option maxHeartbeats 4000000 in
theorem twins_any (A : Option Addr) (l : List LEnt) (c : Nat) (S : Nat → Prop) (w : World) (hl : SlS EntE w S A l) :
    Calls Try.prog 27 #[.slice A l.length c] w (RetEnts l w) := by
  have hb : l.length * 32 ≤ 140737488351232 := hl.1
  obtain ⟨i0, hi0, hz0, hz1, hz2⟩ := info_parts Try.infoEnt
  go_enter Try.func27, Try.ntmps27
  go_wp2_with fail
  go_loopw [3, 8] (fun v3 v8 wr => ∃ (k : Nat) (A' : Option Addr) (c' : Nat) (xs : List LEnt), k ≤ l.length ∧ v3 = .slice A' xs.length c' ∧ v8 = .int .i64 (k : Int) ∧ Hid (xs = l.take k) ∧ xs.length ≤ k ∧ Own EntO 44 wr w.heap.size (fun g => w.heap.size ≤ g) (.slice A' xs.length c') xs ∧ Below w.heap.size w wr) (fun _ v8 _ => l.length - (intOf v8).toNat)
  case atStart => exact ⟨0, none, 0, [], Nat.zero_le _, rfl, rfl, rfl, Nat.le_refl _, Own.nil_ _ _ _ _ _, Below.refl _ _⟩
  case round =>
    obtain ⟨k, A', c', xs, hk, rfl, rfl, HX, hxk, oX, br⟩ := hrel
    by_cases hlt : k < l.length
    · obtain ⟨ad, P, pc, rfl, _, e0, e1, ht, hD, hDS, hc1, hc2⟩ := EntE.at_ (hl.below br) hlt
      have HT : Hid (l.take (k + 1) = l.take k ++ [l[k]]) := List.take_succ_eq_append_getElem hlt
      generalize l[k] = e at *
      have d3 : Below wr.heap.size wr (wr.alloc (.cells #[.int .u64 (e.term : Int), .slice P e.data.length pc] 44)) := (Below.refl _ _).alloc (Nat.le_refl _) _
      have kF := Blk.new wr 44 #[.int .u64 (e.term : Int), .slice P e.data.length pc]
      go_upto_region 5 with fail
      change Code.wp _ _ _ _ (wr.alloc (.cells #[.int .u64 (e.term : Int), .slice P e.data.length pc] 44))
      generalize (wr.alloc (.cells #[.int .u64 (e.term : Int), .slice P e.data.length pc] 44)) = w3 at *
      have o3 := oX.below d3
      have hD3 := hD.below d3
      have b3 := below_step br d3
      have hlX0 := Own.lt oX
      have hlXh := Lib.hid hlX0
      clear hlX0 oX hD e0 e1 d3
      generalize hfb : wr.heap.size = fb at *
      have kd := kF.drew
      refine wp_region_noPanic ?_
      refine wp_region_held_drew (S := fun Y => Blk Y fb 44 #[.int .u64 (e.term : Int), .slice P e.data.length pc]) (by kernel_rfl) kd (fun hH => ?_)
      refine wpAnyH_take (i := 0) (v := ?_) rfl (by kernel_rfl) (by kernel_rfl) (by kernel_rfl) (fun _ _ _ h => h) (Or.inl ⟨by rfl, ?_⟩) hH ?_
      case refine_2 => intro w hSw; go_simp; try with_reducible rfl
      try simp only [Z1, Z2, Z4, Z5, Z6, Z7]
      refine wpAnyH_take (i := 1) (v := ?_) rfl (by kernel_rfl) (by kernel_rfl) (by kernel_rfl) (fun _ _ _ h => h) (Or.inl ⟨by rfl, ?_⟩) hH ?_
      case refine_2 => intro w hSw; go_simp; try with_reducible rfl
      try simp only [Z1, Z2, Z3, Z4, Z5, Z6, Z7]
      refine wpAnyH_take (i := 2) (v := ?_) rfl (by kernel_rfl) (by kernel_rfl) (by kernel_rfl) (fun _ _ _ h => h) (Or.inl ⟨by rfl, ?_⟩) hH ?_
      case refine_2 => intro w hSw; have s0 : w.cell? ⟨_, 0, none⟩ = some (.int .u64 (e.term : Int)) := Blk.cell hSw 0; have s1 : w.cell? ⟨_, 1, none⟩ = some (.slice P e.data.length pc) := Blk.cell hSw 1; clear hSw; go_simp; try with_reducible rfl
      try simp only [Z1, Z2, Z3, Z4, Z5, Z6, Z7]
      refine wpAnyH_take (i := 3) (v := ?_) rfl (by kernel_rfl) (by kernel_rfl) (by kernel_rfl) (fun _ _ _ h => h) (Or.inl ⟨by rfl, ?_⟩) hH ?_
      case refine_2 => intro w hSw; go_simp; try with_reducible rfl
      try simp only [Z1, Z2, Z3, Z4, Z5, Z6, Z7]
      refine wpAnyH_take (i := 4) (v := ?_) rfl (by kernel_rfl) (by kernel_rfl) (by kernel_rfl) (fun _ _ _ h => h) (Or.inl ⟨by rfl, ?_⟩) hH ?_
      case refine_2 => intro w hSw; have s0 : w.cell? ⟨_, 0, none⟩ = some (.int .u64 (e.term : Int)) := Blk.cell hSw 0; have s1 : w.cell? ⟨_, 1, none⟩ = some (.slice P e.data.length pc) := Blk.cell hSw 1; clear hSw; go_simp; try with_reducible rfl
      try simp only [Z1, Z2, Z3, Z4, Z5, Z6, Z7]
      refine wpAnyH_ready (rs := [5]) (by kernel_rfl) (by simp) ?_
      refine AllReadyH.cons rfl (fun K hK => ?_) AllReadyH.nil
      go_simp
      refine (bclone_any P e.data pc w3.drew hD3.drew).mono ?_
      rintro en w4 ⟨Q, qc, rfl, oQ, b4⟩
      replace oQ : OwnB w3.heap.size w4 Q e.data qc := oQ
      have b34 : Below w3.heap.size w3 w4 := below_step (b := w3.drew) ((Below.refl _ _).drew) b4
      have kF4 := kd.below b4 kd.lt
      refine hK.out _ _ kF4 (fun hH => ?_)
      clear hK K
      try dsimp only
      try simp only [Z1, Z2, Z3, Z4, Z5, Z6, Z7]
      refine wpAnyH_take (i := 6) (v := ?_) rfl (by kernel_rfl) (by kernel_rfl) (by kernel_rfl) (fun _ _ _ h => h) (Or.inl ⟨by rfl, ?_⟩) hH ?_
      case refine_2 => intro w hSw; go_simp; try with_reducible rfl
      try simp only [Z1, Z2, Z3, Z4, Z5, Z6, Z7]
      refine wpAnyH_ready (rs := [7]) (by kernel_rfl) (by simp) ?_
      refine AllReadyH.cons rfl (fun K hK => ?_) AllReadyH.nil
      go_simp
      change K _ (w4.alloc (.cells #[.int .u64 (e.term : Int), .slice Q e.data.length qc] 44))
      have d5 : Below w4.heap.size w4 (w4.alloc (.cells #[.int .u64 (e.term : Int), .slice Q e.data.length qc] 44)) := (Below.refl _ _).alloc (Nat.le_refl _) _
      have kF5 := kF4.below d5 kF4.lt
      have hrN := Reads.newN w4 [.int .u64 (e.term : Int), .slice Q e.data.length qc] 44
      have hlX := Own.lt o3
      have s3 := b3.size
      have s34 := b34.size
      have hrep : EntO.rep (w4.alloc (.cells #[.int .u64 (e.term : Int), .slice Q e.data.length qc] 44)) (fun g => w.heap.size ≤ g ∧ (Value.slice A' xs.length c').ownBlock ≠ some g) [.int .u64 (e.term : Int), .slice Q e.data.length qc] e :=
        ⟨Q, qc, rfl, ht, OwnB.base (OwnB.below oQ d5) (Nat.zero_le _), fun g e => ⟨by have h1 := (OwnB.lt oQ g e).1; omega, fun e2 => by have h1 := (hlX g e2).2; have h2 := (OwnB.lt oQ g e).1; omega⟩, hD3.le⟩
      have o5 := (o3.below b34).below d5
      have b5 := below_step (below_step b3 b34) d5
      have s5 := b5.size
      have lF := kF.lt
      generalize (w4.alloc (.cells #[.int .u64 (e.term : Int), .slice Q e.data.length qc] 44)) = w5 at *
      refine hK.out _ _ kF5 (fun hH => ?_)
      clear hK K
      try dsimp only
      try simp only [Z1, Z2, Z3, Z4, Z5, Z6, Z7]
      refine wpAnyH_ready (rs := [8]) (by kernel_rfl) (by simp) ?_
      refine AllReadyH.cons rfl (fun K hK => ?_) AllReadyH.nil
      refine step_appE EntO w.heap.size w w5 rfl (.tmp 12) (.tmp 19) 44 31 rfl i0 _ Try.underlying31 hi0 hz0 hz1 hz2 rfl (fun g => w.heap.size ≤ g) A' xs c' rfl o5 _ [.int .u64 (e.term : Int), .slice Q e.data.length qc] e 1 rfl _ hrN hrep (by simp only [EntO]; omega) (by simp only [maxLen]; omega) b5 (Nat.le_refl _) s5 ?_
      intro A8 c8 xs8 w8 H8 o8 b8 g8 t8
      have kF8 := kF5.grown g8 (fun e => by have h1 := (hlXh.out _ e.symm).2; omega)
      refine hK.out _ _ kF8 (fun hH => ?_)
      clear hK K
      try dsimp only
      try simp only [Z1, Z2, Z3, Z4, Z5, Z6, Z7]
      refine wpAnyH_take (i := 9) (v := ?_) rfl (by kernel_rfl) (by kernel_rfl) (by kernel_rfl) (fun _ _ _ h => h) (Or.inl ⟨by rfl, ?_⟩) hH ?_
      case refine_2 => intro w hSw; go_simp; try with_reducible rfl
      try simp only [Z1, Z2, Z3, Z4, Z5, Z6, Z7]
      refine wpAnyH_done (by kernel_rfl) ?_ _
      refine NoPanic.normal ?_
      go_wp2_with fail
      go_roundw
      case rel => exact ⟨k + 1, A8, c8, xs8, by omega, rfl, by simp, by show _ = _; rw [H8.out, HT.out, HX.out], by rw [H8.out, List.length_append]; show xs.length + 1 ≤ _; omega, o8, b8⟩
      case measure => simp [intOf]; omega
    · obtain rfl : k = l.length := by omega
      have HE : Hid (l = xs) := by show _ = _; rw [HX.out, List.take_length]
      go_wp2_with fail
      go_ret
      rw [HE.out]
      exact ⟨A', c', rfl, oX, br⟩
end Go.Proofs.Ytjpcekpllfelhaa
