/- New: what it refuses. (Printed by wip/gen_rtb.py.) -/
import Derived.Test.YtjpcekpllfelhaaRfH
namespace Go.Proofs.Ytjpcekpllfelhaa
open Go.RowKit

set_option maxRecDepth 100000 in
set_option maxHeartbeats 2000000 in
theorem new_arg1 (term : Nat) (vote : Int) (base baseTerm : Nat) (A : Option Addr) (L : List LEnt) (c : Nat) (w : World) (n : Int) (h1 : n < 1) :
    Calls Try.prog 6 #[.int .i64 0, .int .i64 n, .int .i64 3, .agg #[.int .u64 (term : Int), .int .i64 vote, .int .u64 (base : Int), .int .u64 (baseTerm : Int), .slice A L.length c]] w (fun en w' => en = .returned (.tuple #[.pointer none, .int .i64 1]) ∧ Below w.heap.size w w') := by
  have kB := Blk.new w 33 #[.int .u64 (term : Int), .int .i64 vote, .int .u64 (base : Int), .int .u64 (baseTerm : Int), .slice A L.length c]
  have dB : Below w.heap.size w (w.alloc (.cells #[.int .u64 (term : Int), .int .i64 vote, .int .u64 (base : Int), .int .u64 (baseTerm : Int), .slice A L.length c] 33)) := (Below.refl _ _).alloc (Nat.le_refl _) _
  go_enter Try.func6, Try.ntmps6
  go_upto_region 1 with fail
  generalize (w.alloc (.cells #[.int .u64 (term : Int), .int .i64 vote, .int .u64 (base : Int), .int .u64 (baseTerm : Int), .slice A L.length c] 33)) = w1 at *
  go_wp2_with fail
  go_ret2
  exact ⟨rfl, dB⟩
set_option maxRecDepth 100000 in
set_option maxHeartbeats 2000000 in
theorem new_arg5 (term : Nat) (vote : Int) (base baseTerm : Nat) (A : Option Addr) (L : List LEnt) (c : Nat) (w : World) (n : Int) (h2 : 5 < n) :
    Calls Try.prog 6 #[.int .i64 0, .int .i64 n, .int .i64 3, .agg #[.int .u64 (term : Int), .int .i64 vote, .int .u64 (base : Int), .int .u64 (baseTerm : Int), .slice A L.length c]] w (fun en w' => en = .returned (.tuple #[.pointer none, .int .i64 1]) ∧ Below w.heap.size w w') := by
  have h1 : ¬ n < 1 := by omega
  have kB := Blk.new w 33 #[.int .u64 (term : Int), .int .i64 vote, .int .u64 (base : Int), .int .u64 (baseTerm : Int), .slice A L.length c]
  have dB : Below w.heap.size w (w.alloc (.cells #[.int .u64 (term : Int), .int .i64 vote, .int .u64 (base : Int), .int .u64 (baseTerm : Int), .slice A L.length c] 33)) := (Below.refl _ _).alloc (Nat.le_refl _) _
  go_enter Try.func6, Try.ntmps6
  go_upto_region 1 with fail
  generalize (w.alloc (.cells #[.int .u64 (term : Int), .int .i64 vote, .int .u64 (base : Int), .int .u64 (baseTerm : Int), .slice A L.length c] 33)) = w1 at *
  go_wp2_with fail
  go_ret2
  exact ⟨rfl, dB⟩
set_option maxRecDepth 100000 in
set_option maxHeartbeats 2000000 in
theorem new_form1 (term : Nat) (vote : Int) (base baseTerm : Nat) (A : Option Addr) (L : List LEnt) (c : Nat) (w : World) (n : Nat) (hn1 : 1 ≤ n) (hn5 : n ≤ 5) (h7 : vote < -1) :
    Calls Try.prog 6 #[.int .i64 0, .int .i64 (n : Int), .int .i64 3, .agg #[.int .u64 (term : Int), .int .i64 vote, .int .u64 (base : Int), .int .u64 (baseTerm : Int), .slice A L.length c]] w (fun en w' => en = .returned (.tuple #[.pointer none, .int .i64 3]) ∧ Below w.heap.size w w') := by
  have h1 : ¬ (n : Int) < 1 := by omega
  have h2 : ¬ (5 : Int) < (n : Int) := by omega
  have h4 : ¬ (n : Int) ≤ 0 := by omega
  have kB := Blk.new w 33 #[.int .u64 (term : Int), .int .i64 vote, .int .u64 (base : Int), .int .u64 (baseTerm : Int), .slice A L.length c]
  have dB : Below w.heap.size w (w.alloc (.cells #[.int .u64 (term : Int), .int .i64 vote, .int .u64 (base : Int), .int .u64 (baseTerm : Int), .slice A L.length c] 33)) := (Below.refl _ _).alloc (Nat.le_refl _) _
  go_enter Try.func6, Try.ntmps6
  go_upto_region 1 with fail
  generalize (w.alloc (.cells #[.int .u64 (term : Int), .int .i64 vote, .int .u64 (base : Int), .int .u64 (baseTerm : Int), .slice A L.length c] 33)) = w1 at *
  have s0 : w1.cell? ⟨w.heap.size, 0, none⟩ = some (.int .u64 (term : Int)) := kB.cell 0
  have s1 : w1.cell? ⟨w.heap.size, 1, none⟩ = some (.int .i64 vote) := kB.cell 1
  have s2 : w1.cell? ⟨w.heap.size, 2, none⟩ = some (.int .u64 (base : Int)) := kB.cell 2
  have s3 : w1.cell? ⟨w.heap.size, 3, none⟩ = some (.int .u64 (baseTerm : Int)) := kB.cell 3
  have s4 : w1.cell? ⟨w.heap.size, 4, none⟩ = some (.slice A L.length c) := kB.cell 4
  go_wp2_with fail
  go_ret2
  exact ⟨rfl, dB⟩
set_option maxRecDepth 100000 in
set_option maxHeartbeats 2000000 in
theorem new_form2 (term : Nat) (vote : Int) (base baseTerm : Nat) (A : Option Addr) (L : List LEnt) (c : Nat) (w : World) (n : Nat) (hn1 : 1 ≤ n) (hn5 : n ≤ 5) (h8 : (n : Int) ≤ vote) :
    Calls Try.prog 6 #[.int .i64 0, .int .i64 (n : Int), .int .i64 3, .agg #[.int .u64 (term : Int), .int .i64 vote, .int .u64 (base : Int), .int .u64 (baseTerm : Int), .slice A L.length c]] w (fun en w' => en = .returned (.tuple #[.pointer none, .int .i64 3]) ∧ Below w.heap.size w w') := by
  have h1 : ¬ (n : Int) < 1 := by omega
  have h2 : ¬ (5 : Int) < (n : Int) := by omega
  have h4 : ¬ (n : Int) ≤ 0 := by omega
  have h7 : ¬ vote < -1 := by omega
  have kB := Blk.new w 33 #[.int .u64 (term : Int), .int .i64 vote, .int .u64 (base : Int), .int .u64 (baseTerm : Int), .slice A L.length c]
  have dB : Below w.heap.size w (w.alloc (.cells #[.int .u64 (term : Int), .int .i64 vote, .int .u64 (base : Int), .int .u64 (baseTerm : Int), .slice A L.length c] 33)) := (Below.refl _ _).alloc (Nat.le_refl _) _
  go_enter Try.func6, Try.ntmps6
  go_upto_region 1 with fail
  generalize (w.alloc (.cells #[.int .u64 (term : Int), .int .i64 vote, .int .u64 (base : Int), .int .u64 (baseTerm : Int), .slice A L.length c] 33)) = w1 at *
  have s0 : w1.cell? ⟨w.heap.size, 0, none⟩ = some (.int .u64 (term : Int)) := kB.cell 0
  have s1 : w1.cell? ⟨w.heap.size, 1, none⟩ = some (.int .i64 vote) := kB.cell 1
  have s2 : w1.cell? ⟨w.heap.size, 2, none⟩ = some (.int .u64 (base : Int)) := kB.cell 2
  have s3 : w1.cell? ⟨w.heap.size, 3, none⟩ = some (.int .u64 (baseTerm : Int)) := kB.cell 3
  have s4 : w1.cell? ⟨w.heap.size, 4, none⟩ = some (.slice A L.length c) := kB.cell 4
  go_wp2_with fail
  go_ret2
  exact ⟨rfl, dB⟩
set_option maxRecDepth 100000 in
set_option maxHeartbeats 2000000 in
theorem new_form3 (term : Nat) (vote : Int) (base baseTerm : Nat) (A : Option Addr) (L : List LEnt) (c : Nat) (S : Nat → Prop) (w : World) (hl : SlS EntE w S A L) (n : Nat) (hn1 : 1 ≤ n) (hn5 : n ≤ 5) (hv1 : -1 ≤ vote) (hv2 : vote < (n : Int)) (hr : risingP L baseTerm term = false) :
    Calls Try.prog 6 #[.int .i64 0, .int .i64 (n : Int), .int .i64 3, .agg #[.int .u64 (term : Int), .int .i64 vote, .int .u64 (base : Int), .int .u64 (baseTerm : Int), .slice A L.length c]] w (fun en w' => en = .returned (.tuple #[.pointer none, .int .i64 3]) ∧ Below w.heap.size w w') := by
  have h1 : ¬ (n : Int) < 1 := by omega
  have h2 : ¬ (5 : Int) < (n : Int) := by omega
  have h4 : ¬ (n : Int) ≤ 0 := by omega
  have hL := hl.1
  have h7 : ¬ vote < -1 := by omega
  have h8 : ¬ (n : Int) ≤ vote := by omega
  have kB := Blk.new w 33 #[.int .u64 (term : Int), .int .i64 vote, .int .u64 (base : Int), .int .u64 (baseTerm : Int), .slice A L.length c]
  have dB : Below w.heap.size w (w.alloc (.cells #[.int .u64 (term : Int), .int .i64 vote, .int .u64 (base : Int), .int .u64 (baseTerm : Int), .slice A L.length c] 33)) := (Below.refl _ _).alloc (Nat.le_refl _) _
  go_enter Try.func6, Try.ntmps6
  go_upto_region 1 with fail
  generalize (w.alloc (.cells #[.int .u64 (term : Int), .int .i64 vote, .int .u64 (base : Int), .int .u64 (baseTerm : Int), .slice A L.length c] 33)) = w1 at *
  have s0 : w1.cell? ⟨w.heap.size, 0, none⟩ = some (.int .u64 (term : Int)) := kB.cell 0
  have s1 : w1.cell? ⟨w.heap.size, 1, none⟩ = some (.int .i64 vote) := kB.cell 1
  have s2 : w1.cell? ⟨w.heap.size, 2, none⟩ = some (.int .u64 (base : Int)) := kB.cell 2
  have s3 : w1.cell? ⟨w.heap.size, 3, none⟩ = some (.int .u64 (baseTerm : Int)) := kB.cell 3
  have s4 : w1.cell? ⟨w.heap.size, 4, none⟩ = some (.slice A L.length c) := kB.cell 4
  have T := rising_any A L c S baseTerm term w1 (hl.below dB) (by simp only [EntE] at hL; omega)
  rw [hr] at T
  clear hr
  go_wp2_with fail
  refine T.mono ?_
  clear T s0 s1 s2 s3 s4
  rintro en w2 ⟨rfl, b2⟩
  have k2 := kB.below b2 kB.lt
  have b02 := below_step dB b2
  have s0 : w2.cell? ⟨w.heap.size, 0, none⟩ = some (.int .u64 (term : Int)) := k2.cell 0
  have s2 : w2.cell? ⟨w.heap.size, 2, none⟩ = some (.int .u64 (base : Int)) := k2.cell 2
  go_wp2_with fail
  go_ret2
  exact ⟨rfl, b02⟩
set_option maxRecDepth 100000 in
set_option maxHeartbeats 2000000 in
theorem new_form4 (term : Nat) (vote : Int) (base baseTerm : Nat) (A : Option Addr) (L : List LEnt) (c : Nat) (S : Nat → Prop) (w : World) (hl : SlS EntE w S A L) (n : Nat) (hn1 : 1 ≤ n) (hn5 : n ≤ 5) (hv1 : -1 ≤ vote) (hv2 : vote < (n : Int)) (hr : risingP L baseTerm term = true) (hb : 4611686018427387904 < base) :
    Calls Try.prog 6 #[.int .i64 0, .int .i64 (n : Int), .int .i64 3, .agg #[.int .u64 (term : Int), .int .i64 vote, .int .u64 (base : Int), .int .u64 (baseTerm : Int), .slice A L.length c]] w (fun en w' => en = .returned (.tuple #[.pointer none, .int .i64 3]) ∧ Below w.heap.size w w') := by
  have h1 : ¬ (n : Int) < 1 := by omega
  have h2 : ¬ (5 : Int) < (n : Int) := by omega
  have h4 : ¬ (n : Int) ≤ 0 := by omega
  have hL := hl.1
  have h7 : ¬ vote < -1 := by omega
  have h8 : ¬ (n : Int) ≤ vote := by omega
  have h9 : (4611686018427387904 : Int) < (base : Int) := by omega
  have kB := Blk.new w 33 #[.int .u64 (term : Int), .int .i64 vote, .int .u64 (base : Int), .int .u64 (baseTerm : Int), .slice A L.length c]
  have dB : Below w.heap.size w (w.alloc (.cells #[.int .u64 (term : Int), .int .i64 vote, .int .u64 (base : Int), .int .u64 (baseTerm : Int), .slice A L.length c] 33)) := (Below.refl _ _).alloc (Nat.le_refl _) _
  go_enter Try.func6, Try.ntmps6
  go_upto_region 1 with fail
  generalize (w.alloc (.cells #[.int .u64 (term : Int), .int .i64 vote, .int .u64 (base : Int), .int .u64 (baseTerm : Int), .slice A L.length c] 33)) = w1 at *
  have s0 : w1.cell? ⟨w.heap.size, 0, none⟩ = some (.int .u64 (term : Int)) := kB.cell 0
  have s1 : w1.cell? ⟨w.heap.size, 1, none⟩ = some (.int .i64 vote) := kB.cell 1
  have s2 : w1.cell? ⟨w.heap.size, 2, none⟩ = some (.int .u64 (base : Int)) := kB.cell 2
  have s3 : w1.cell? ⟨w.heap.size, 3, none⟩ = some (.int .u64 (baseTerm : Int)) := kB.cell 3
  have s4 : w1.cell? ⟨w.heap.size, 4, none⟩ = some (.slice A L.length c) := kB.cell 4
  have T := rising_any A L c S baseTerm term w1 (hl.below dB) (by simp only [EntE] at hL; omega)
  rw [hr] at T
  clear hr
  go_wp2_with fail
  refine T.mono ?_
  clear T s0 s1 s2 s3 s4
  rintro en w2 ⟨rfl, b2⟩
  have k2 := kB.below b2 kB.lt
  have b02 := below_step dB b2
  have s0 : w2.cell? ⟨w.heap.size, 0, none⟩ = some (.int .u64 (term : Int)) := k2.cell 0
  have s2 : w2.cell? ⟨w.heap.size, 2, none⟩ = some (.int .u64 (base : Int)) := k2.cell 2
  go_wp2_with fail
  go_ret2
  exact ⟨rfl, b02⟩
set_option maxRecDepth 100000 in
set_option maxHeartbeats 2000000 in
theorem new_form5 (term : Nat) (vote : Int) (base baseTerm : Nat) (A : Option Addr) (L : List LEnt) (c : Nat) (S : Nat → Prop) (w : World) (hl : SlS EntE w S A L) (n : Nat) (hn1 : 1 ≤ n) (hn5 : n ≤ 5) (hv1 : -1 ≤ vote) (hv2 : vote < (n : Int)) (hr : risingP L baseTerm term = true) (hb : base ≤ 4611686018427387904) (ht : 4611686018427387904 < term) :
    Calls Try.prog 6 #[.int .i64 0, .int .i64 (n : Int), .int .i64 3, .agg #[.int .u64 (term : Int), .int .i64 vote, .int .u64 (base : Int), .int .u64 (baseTerm : Int), .slice A L.length c]] w (fun en w' => en = .returned (.tuple #[.pointer none, .int .i64 3]) ∧ Below w.heap.size w w') := by
  have h1 : ¬ (n : Int) < 1 := by omega
  have h2 : ¬ (5 : Int) < (n : Int) := by omega
  have h4 : ¬ (n : Int) ≤ 0 := by omega
  have hL := hl.1
  have h7 : ¬ vote < -1 := by omega
  have h8 : ¬ (n : Int) ≤ vote := by omega
  have h9 : ¬ (4611686018427387904 : Int) < (base : Int) := by omega
  have h10 : (4611686018427387904 : Int) < (term : Int) := by omega
  have kB := Blk.new w 33 #[.int .u64 (term : Int), .int .i64 vote, .int .u64 (base : Int), .int .u64 (baseTerm : Int), .slice A L.length c]
  have dB : Below w.heap.size w (w.alloc (.cells #[.int .u64 (term : Int), .int .i64 vote, .int .u64 (base : Int), .int .u64 (baseTerm : Int), .slice A L.length c] 33)) := (Below.refl _ _).alloc (Nat.le_refl _) _
  go_enter Try.func6, Try.ntmps6
  go_upto_region 1 with fail
  generalize (w.alloc (.cells #[.int .u64 (term : Int), .int .i64 vote, .int .u64 (base : Int), .int .u64 (baseTerm : Int), .slice A L.length c] 33)) = w1 at *
  have s0 : w1.cell? ⟨w.heap.size, 0, none⟩ = some (.int .u64 (term : Int)) := kB.cell 0
  have s1 : w1.cell? ⟨w.heap.size, 1, none⟩ = some (.int .i64 vote) := kB.cell 1
  have s2 : w1.cell? ⟨w.heap.size, 2, none⟩ = some (.int .u64 (base : Int)) := kB.cell 2
  have s3 : w1.cell? ⟨w.heap.size, 3, none⟩ = some (.int .u64 (baseTerm : Int)) := kB.cell 3
  have s4 : w1.cell? ⟨w.heap.size, 4, none⟩ = some (.slice A L.length c) := kB.cell 4
  have T := rising_any A L c S baseTerm term w1 (hl.below dB) (by simp only [EntE] at hL; omega)
  rw [hr] at T
  clear hr
  go_wp2_with fail
  refine T.mono ?_
  clear T s0 s1 s2 s3 s4
  rintro en w2 ⟨rfl, b2⟩
  have k2 := kB.below b2 kB.lt
  have b02 := below_step dB b2
  have s0 : w2.cell? ⟨w.heap.size, 0, none⟩ = some (.int .u64 (term : Int)) := k2.cell 0
  have s2 : w2.cell? ⟨w.heap.size, 2, none⟩ = some (.int .u64 (base : Int)) := k2.cell 2
  go_wp2_with fail
  go_ret2
  exact ⟨rfl, b02⟩
/-- is it a good state? -/
def goodP (n : Nat) (term : Nat) (vote : Int) (base baseTerm : Nat) (L : List LEnt) : Bool := decide (-1 ≤ vote) && decide (vote < (n : Int)) && decide (term ≤ 4611686018427387904) && decide (base ≤ 4611686018427387904) && risingP L baseTerm term
theorem new_form (term : Nat) (vote : Int) (base baseTerm : Nat) (A : Option Addr) (L : List LEnt) (c : Nat) (S : Nat → Prop) (w : World) (hl : SlS EntE w S A L) (n : Nat) (hn1 : 1 ≤ n) (hn5 : n ≤ 5) (hg : goodP n term vote base baseTerm L = false) :
    Calls Try.prog 6 #[.int .i64 0, .int .i64 (n : Int), .int .i64 3, .agg #[.int .u64 (term : Int), .int .i64 vote, .int .u64 (base : Int), .int .u64 (baseTerm : Int), .slice A L.length c]] w (fun en w' => en = .returned (.tuple #[.pointer none, .int .i64 3]) ∧ Below w.heap.size w w') := by
  by_cases h1 : vote < -1
  · exact new_form1 term vote base baseTerm A L c w n hn1 hn5 h1
  by_cases h2 : (n : Int) ≤ vote
  · exact new_form2 term vote base baseTerm A L c w n hn1 hn5 h2
  cases hr : risingP L baseTerm term with
  | false => exact new_form3 term vote base baseTerm A L c S w hl n hn1 hn5 (by omega) (by omega) hr
  | true =>
    by_cases h3 : 4611686018427387904 < base
    · exact new_form4 term vote base baseTerm A L c S w hl n hn1 hn5 (by omega) (by omega) hr h3
    by_cases h4 : 4611686018427387904 < term
    · exact new_form5 term vote base baseTerm A L c S w hl n hn1 hn5 (by omega) (by omega) hr (by omega) h4
    exfalso
    unfold goodP at hg
    rw [hr, decide_eq_true (by omega : -1 ≤ vote), decide_eq_true (by omega : vote < (n : Int)), decide_eq_true (by omega : term ≤ 4611686018427387904), decide_eq_true (by omega : base ≤ 4611686018427387904)] at hg
    cases hg
end Go.Proofs.Ytjpcekpllfelhaa
