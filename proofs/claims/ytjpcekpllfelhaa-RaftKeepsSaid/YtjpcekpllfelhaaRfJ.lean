/- New: a node with a state. -/
import Derived.Test.YtjpcekpllfelhaaRfI
namespace Go.Proofs.Ytjpcekpllfelhaa
open Go.RowKit

theorem Try.size_St : (Try.prog.info? 33).map (·.size) = some 5 := by kernel_rfl
/-- the node that New makes -/
def newP (id n : Nat) (limit : Int) (term : Nat) (vote : Int) (base baseTerm : Nat) (L : List LEnt) : LNode := ⟨term, vote, base, baseTerm, L, id, n, limit, 0, -1, base, 0, [], [], []⟩
set_option maxRecDepth 100000 in
set_option maxHeartbeats 2000000 in
theorem new_ok (id n : Nat) (limit : Int) (term : Nat) (vote : Int) (base baseTerm : Nat) (A : Option Addr) (L : List LEnt) (c : Nat) (S : Nat → Prop) (w : World) (hl : SlS EntE w S A L)
    (hn1 : 1 ≤ n) (hn2 : n ≤ 5) (hid : id < n) (hl1 : 1 ≤ limit) (hl2 : limit ≤ 1000) (hv1 : -1 ≤ vote) (hv2 : vote < n) (hr : risingP L baseTerm term = true) (hb : base ≤ 4611686018427387904) (ht : term ≤ 4611686018427387904) :
    Calls Try.prog 6 #[.int .i64 (id : Int), .int .i64 (n : Int), .int .i64 limit, .agg #[.int .u64 (term : Int), .int .i64 vote, .int .u64 (base : Int), .int .u64 (baseTerm : Int), .slice A L.length c]] w
      (fun en w' => ∃ g, en = .returned (.tuple #[.pointer (some ⟨g, 0, none⟩), .int .i64 0]) ∧ w.heap.size ≤ g ∧ ND w' g (fun b => b < w.heap.size) (newP id n limit term vote base baseTerm L) ∧ Below w.heap.size w w') := by
  have hL := hl.1
  have h1 : ¬ (n : Int) < 1 := by omega
  have h2 : ¬ (5 : Int) < (n : Int) := by omega
  have h3 : ¬ (id : Int) < 0 := by omega
  have h4 : ¬ (n : Int) ≤ (id : Int) := by omega
  have h5 : ¬ limit < 1 := by omega
  have h6 : ¬ (1000 : Int) < limit := by omega
  have h7 : ¬ vote < -1 := by omega
  have h8 : ¬ (n : Int) ≤ vote := by omega
  have h9 : ¬ (4611686018427387904 : Int) < (base : Int) := by omega
  have h10 : ¬ (4611686018427387904 : Int) < (term : Int) := by omega
  have kB := Blk.new w 33 #[.int .u64 (term : Int), .int .i64 vote, .int .u64 (base : Int), .int .u64 (baseTerm : Int), .slice A L.length c]
  have dB : Below w.heap.size w (w.alloc (.cells #[.int .u64 (term : Int), .int .i64 vote, .int .u64 (base : Int), .int .u64 (baseTerm : Int), .slice A L.length c] 33)) := (Below.refl _ _).alloc (Nat.le_refl _) _
  go_enter Try.func6, Try.ntmps6
  go_upto_region 1 with fail
  generalize (w.alloc (.cells #[.int .u64 (term : Int), .int .i64 vote, .int .u64 (base : Int), .int .u64 (baseTerm : Int), .slice A L.length c] 33)) = w1 at *
  have s0 : w1.cell? ⟨w.heap.size, 0, none⟩ = some (.int .u64 (term : Int)) := kB.cell 0
  have s1 : w1.cell? ⟨w.heap.size, 1, none⟩ = some (.int .i64 vote) := kB.cell 1
  have s3 : w1.cell? ⟨w.heap.size, 3, none⟩ = some (.int .u64 (baseTerm : Int)) := kB.cell 3
  have s4 : w1.cell? ⟨w.heap.size, 4, none⟩ = some (.slice A L.length c) := kB.cell 4
  have T := rising_any A L c S baseTerm term w1 (hl.below dB) (by simp only [EntE] at hL; omega)
  rw [hr] at T
  clear hr
  go_wp2_with fail
  refine T.mono ?_
  clear T s0 s1 s3 s4
  rintro en w2 ⟨rfl, b2⟩
  have k2 := kB.below b2 kB.lt
  have b02 := below_step dB b2
  have l2 := hl.below b02
  have lB := kB.lt
  clear b2 kB dB hl
  have s0 : w2.cell? ⟨w.heap.size, 0, none⟩ = some (.int .u64 (term : Int)) := k2.cell 0
  have s2 : w2.cell? ⟨w.heap.size, 2, none⟩ = some (.int .u64 (base : Int)) := k2.cell 2
  have s4 : w2.cell? ⟨w.heap.size, 4, none⟩ = some (.slice A L.length c) := k2.cell 4
  have T := twins_any A L c S w2 l2
  go_wp2_with fail
  refine T.mono ?_
  clear T s0 s2 s4
  rintro en w3 ⟨A3, c3, rfl, o3, b3⟩
  have k3 := k2.below b3 k2.lt
  have b03 := below_step b02 b3
  have z2 : w.heap.size < w2.heap.size := k2.lt
  have hk4 := k3.set_ 4 (.slice A3 L.length c3)
  have k4 : Blk (w3.setCell ⟨w.heap.size, 4, none⟩ (.slice A3 L.length c3)) w.heap.size 33 #[.int .u64 (term : Int), .int .i64 vote, .int .u64 (base : Int), .int .u64 (baseTerm : Int), .slice A3 L.length c3] := hk4
  have g4 : w3.grownBy (w3.setCell ⟨w.heap.size, 4, none⟩ (.slice A3 L.length c3)) (some w.heap.size) := only_setCell (only_of_below (Below.refl _ _) (some w.heap.size)) (.inl rfl) _
  have b04 := b03.grown g4 b03.size (fun j e => by have := Option.some.inj e; omega)
  replace o3 := Own.ent o3
  have o4 := o3.same g4 (by
    cases e : (Value.slice A3 L.length c3).ownBlock with
    | none => exact .inl rfl
    | some b => exact .inr fun e2 => by have h1 := Option.some.inj e2; have := (o3.lt b e).1; omega) (fun b h e => by have h1 := Option.some.inj e; have h : w2.heap.size ≤ b := h; omega)
  have y4 : w3.cell? ⟨w.heap.size, 4, none⟩ = some (.slice A L.length c) := k3.cell 4
  have f4 : w3.frozen? ⟨w.heap.size, 4, none⟩ = false := k3.frozen 4
  have z3 := b3.size
  clear hk4 k2 b02 l2 b3 k3 b03 o3
  go_upto_region 6 with fail
  have ZG := Lib.hid g4.size
  clear y4 f4 g4
  generalize (w3.setCell ⟨w.heap.size, 4, none⟩ (.slice A3 L.length c3)) = w4 at *
  have s2 : w4.cell? ⟨w.heap.size, 2, none⟩ = some (.int .u64 (base : Int)) := k4.cell 2
  go_wp2_with ((with_reducible refine wpList_load_blk rfl 33 (.tmp 7) rfl w.heap.size ?_ 33 _ _ k4 Try.underlying33 ?_ Try.size_St ?_ ?_); rfl; rfl; rfl)
  have d5 : Below w4.heap.size w4 (w4.alloc (.cells (nodeC (.slice A3 L.length c3) (.slice none 0 0) (.slice none 0 0) (.slice none 0 0) (newP id n limit term vote base baseTerm L)) 48)) := (Below.refl _ _).alloc (Nat.le_refl _) _
  have k5 := Blk.new w4 48 (nodeC (.slice A3 L.length c3) (.slice none 0 0) (.slice none 0 0) (.slice none 0 0) (newP id n limit term vote base baseTerm L))
  have z4 := b04.size
  have zz : w2.heap.size ≤ w4.heap.size := Nat.le_trans z3 ZG.out
  go_ret2
  refine ⟨w4.heap.size, rfl, z4, ?_, below_step b04 d5⟩
  refine ⟨fun b => w2.heap.size ≤ b ∧ b < w4.heap.size, .slice A3 L.length c3, .slice none 0 0, .slice none 0 0, .slice none 0 0, ⟨k5, ?_, Own.nil_ _ _ _ _ _, Own.nil_ _ _ _ _ _, Own.nil_ _ _ _ _ _, (fun _ e => by cases e), fun b h => ⟨by omega, (fun e => by cases e), (fun e => by cases e), (fun e => by cases e)⟩, fun b h => Nat.lt_of_lt_of_le h.2 d5.size⟩, fun b h => ⟨by omega, (fun e => by omega), fun e => ?_, (fun e => by cases e), (fun e => by cases e), (fun e => by cases e)⟩⟩
  · exact ((o4.base (Nat.zero_le _)).mono fun b h1 _ h2 => ⟨h2, h1⟩).below d5
  · have := (o4.lt b e).1
    omega
end Go.Proofs.Ytjpcekpllfelhaa
