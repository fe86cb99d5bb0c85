/- A node's reading calls: Last, TermAt, lastTerm. -/
import Derived.Test.YtjpcekpllfelhaaRfP
import Derived.Deep.QuietTactic
import Derived.BigQuiet
import Derived.Deep.DeepCutAuto
namespace Go.Proofs.Ytjpcekpllfelhaa
open Go.RowKit

/-- within bounds -/
structure NodeB (d : LNode) : Prop where
  last : d.base + d.log.length ≤ 9223372036854775807
  bt : d.baseTerm ≤ 18446744073709551615
/-- the term at an index -/
def termAt (d : LNode) (i : Nat) : Nat × Bool :=
  if i < d.base ∨ lastN d < i then (0, false) else if i = d.base then (d.baseTerm, true) else ((d.log.getD (i - d.base - 1) default).term, true)
set_option maxRecDepth 100000 in
set_option maxHeartbeats 2000000 in
theorem last_any (g : Nat) (A : Option Addr) (c : Nat) (V M X : Value) (d : LNode) (w : World) (hk : Blk w g 48 (nodeC (.slice A d.log.length c) V M X d)) (hb : NodeB d) :
    Calls Try.prog 16 #[.pointer (some ⟨g, 0, none⟩)] w (Quietly (.int .u64 (lastN d : Int)) w) := by
  have c2 : w.cell? ⟨g, 2, none⟩ = some (.int .u64 (d.base : Int)) := hk.cell 2
  have c4 : w.cell? ⟨g, 4, none⟩ = some (.slice A d.log.length c) := hk.cell 4
  have hl := hb.last
  go_enter Try.func16, Try.ntmps16
  go_wp2_with fail
  go_quiet (fail)
  go_wp2_with fail
  go_ret
  exact ⟨ret_int (by unfold lastN; rw [Int.natCast_add]), _, rfl⟩
set_option maxRecDepth 100000 in
set_option maxHeartbeats 2000000 in
theorem termat_any (g : Nat) (A : Option Addr) (c : Nat) (V M X : Value) (S : Nat → Prop) (d : LNode) (i : Nat) (w : World) (hk : Blk w g 48 (nodeC (.slice A d.log.length c) V M X d)) (hl : SlS EntE w S A d.log) (hb : NodeB d) (hi : i ≤ 18446744073709551615) :
    Calls Try.prog 23 #[.pointer (some ⟨g, 0, none⟩), .int .u64 (i : Int)] w (Quietly (.tuple #[.int .u64 ((termAt d i).1 : Int), .bool (termAt d i).2]) w) := by
  have c2 : w.cell? ⟨g, 2, none⟩ = some (.int .u64 (d.base : Int)) := hk.cell 2
  have c3 : w.cell? ⟨g, 3, none⟩ = some (.int .u64 (d.baseTerm : Int)) := hk.cell 3
  have c4 : w.cell? ⟨g, 4, none⟩ = some (.slice A d.log.length c) := hk.cell 4
  have hbl := hb.last
  have T := last_any g A c V M X d w hk hb
  have hln : lastN d = d.base + d.log.length := rfl
  have HTA : Hid (termAt d i = if i < d.base ∨ lastN d < i then (0, false) else if i = d.base then (d.baseTerm, true) else ((d.log.getD (i - d.base - 1) default).term, true)) := rfl
  by_cases h1 : i < d.base
  · have e : Hid (termAt d i = (0, false)) := by show _ = _; rw [HTA.out, if_pos (.inl h1)]
    have h1i : (i : Int) < (d.base : Int) := by omega
    clear HTA hln
    go_enter Try.func23, Try.ntmps23
    go_wp2_with fail
    go_ret2
    rw [e.out]
    exact ⟨rfl, 0, rfl⟩
  · have h1i : ¬ (i : Int) < (d.base : Int) := by omega
    have TW := fun n => last_any g A c V M X d (w.drewN n)
    clear TW
    go_enter Try.func23, Try.ntmps23
    go_wp2_with fail
    refine T.mono ?_
    clear T
    rintro en w1 ⟨rfl, q, hq⟩
    have hd : Below w.heap.size w w1 := by rw [hq]; exact ⟨rfl, rfl, rfl, Nat.le_refl _, fun _ _ => rfl⟩
    have HQ := Lib.hid hq
    have y2 : w1.cell? ⟨g, 2, none⟩ = some (.int .u64 (d.base : Int)) := (hk.below hd hk.lt).cell 2
    have y3 : w1.cell? ⟨g, 3, none⟩ = some (.int .u64 (d.baseTerm : Int)) := (hk.below hd hk.lt).cell 3
    have y4 : w1.cell? ⟨g, 4, none⟩ = some (.slice A d.log.length c) := (hk.below hd hk.lt).cell 4
    have hl1 := hl.below hd
    clear c2 c3 c4 hq hd hk hl
    by_cases h2 : lastN d < i
    · have e : Hid (termAt d i = (0, false)) := by show _ = _; rw [HTA.out, if_pos (.inr h2)]
      have h2i : (lastN d : Int) < (i : Int) := by omega
      clear HTA hln
      go_wp2_with fail
      go_ret2
      rw [e.out]
      exact ⟨rfl, q, HQ.out⟩
    · have h2i : ¬ (lastN d : Int) < (i : Int) := by omega
      by_cases h3 : i = d.base
      · have e : Hid (termAt d i = (d.baseTerm, true)) := by show _ = _; rw [HTA.out, if_neg (by omega), if_pos h3]
        have h3i : ((i : Int) == (d.base : Int)) = true := by rw [beq_iff_eq]; omega
        clear HTA hln h3
        go_wp2_with fail
        go_ret2
        rw [e.out]
        exact ⟨rfl, q, HQ.out⟩
      · have hk : i - d.base - 1 < d.log.length := by omega
        have e : Hid (termAt d i = ((d.log[i - d.base - 1]).term, true)) := by show _ = _; rw [HTA.out, if_neg (by omega), if_neg h3, List.getD_eq_getElem?_getD, List.getElem?_eq_getElem hk]; rfl
        have h3i : ((i : Int) == (d.base : Int)) = false := by rw [beq_eq_false_iff_ne]; omega
        obtain ⟨ad, P, pc, rfl, _, e0, _⟩ := EntE.at_ hl1 hk
        have s1 : (i : Int) - (d.base : Int) - 1 = ((i - d.base - 1 : Nat) : Int) := by omega
        generalize d.log[i - d.base - 1] = en0 at *
        generalize i - d.base - 1 = j at *
        have HS1 := Lib.hid s1
        have lo1 : (0 : Int) ≤ (i : Int) - (d.base : Int) := by omega
        have lo2 : (0 : Int) ≤ (i : Int) - (d.base : Int) - 1 := by omega
        clear HTA hln h3
        go_wp2_with fail
        go_quiet (fail)
        go_wp2_with fail
        go_ret2
        rw [e.out]
        exact ⟨rfl, _, by rw [HQ.out]; first | rfl | exact World.drewN_drewN _ _ _⟩
/-- the last entry's term -/
def lastT (d : LNode) : Nat := (termAt d (lastN d)).1
theorem Quietly.below {v : Value} {w : World} {en : Ending} {w' : World} (h : Quietly v w en w') : en = .returned v ∧ Below w.heap.size w w' := by
  obtain ⟨rfl, n, rfl⟩ := h
  exact ⟨rfl, ⟨rfl, rfl, rfl, Nat.le_refl _, fun _ _ => rfl⟩⟩
set_option maxRecDepth 100000 in
set_option maxHeartbeats 2000000 in
theorem lastterm_any (g : Nat) (A : Option Addr) (c : Nat) (V M X : Value) (S : Nat → Prop) (d : LNode) (w : World) (hk : Blk w g 48 (nodeC (.slice A d.log.length c) V M X d)) (hl : SlS EntE w S A d.log) (hb : NodeB d) :
    Calls Try.prog 47 #[.pointer (some ⟨g, 0, none⟩)] w (Quietly (.int .u64 (lastT d : Int)) w) := by
  have T := last_any g A c V M X d w hk hb
  go_enter Try.func47, Try.ntmps47
  go_wp2_with fail
  refine T.mono ?_
  clear T
  rintro en w1 ⟨rfl, q, hq⟩
  have hd : Below w.heap.size w w1 := by rw [hq]; exact ⟨rfl, rfl, rfl, Nat.le_refl _, fun _ _ => rfl⟩
  have T := termat_any g A c V M X S d (lastN d) w1 (hk.below hd hk.lt) (hl.below hd) hb (by have := hb.last; unfold lastN; omega)
  have HQ := Lib.hid hq
  clear hq hd
  go_wp2_with fail
  refine T.mono ?_
  clear T
  rintro en w2 ⟨rfl, q2, hq2⟩
  have HQ2 := Lib.hid hq2
  clear hq2
  go_wp2_with fail
  go_ret
  exact ⟨rfl, q + q2, by rw [HQ2.out, HQ.out]; exact World.drewN_drewN _ _ _⟩
/-- do the terms never fall, from low on and up to high? -/
def risingP : List LEnt → Nat → Nat → Bool
  | [], low, high => decide (low ≤ high)
  | e :: r, low, high => if e.term < low then false else risingP r e.term high
set_option maxRecDepth 100000 in
set_option maxHeartbeats 2000000 in
theorem rising_any (A : Option Addr) (l : List LEnt) (c : Nat) (S : Nat → Prop) (low high : Nat) (w : World) (hl : SlS EntE w S A l) (hlen : l.length ≤ 4611686018427387904) :
    Calls Try.prog 26 #[.slice A l.length c, .int .u64 (low : Int), .int .u64 (high : Int)] w (fun en w' => en = .returned (.bool (risingP l low high)) ∧ Below w.heap.size w w') := by
  generalize hR : risingP l low high = R
  have HR := Lib.hid hR
  clear hR
  go_enter Try.func26, Try.ntmps26
  go_wp2_with fail
  go_loopw [1, 11] (fun v1 v11 wr => ∃ (k lo : Nat), k ≤ l.length ∧ v1 = .int .u64 (lo : Int) ∧ v11 = .int .i64 (k : Int) ∧ Hid (risingP (l.drop k) lo high = R) ∧ Below w.heap.size w wr) (fun _ v11 _ => l.length - (intOf v11).toNat)
  case atStart => exact ⟨0, low, Nat.zero_le _, rfl, rfl, HR.out, Below.refl _ _⟩
  case round =>
    obtain ⟨k, lo, hk, rfl, rfl, HX, br⟩ := hrel
    by_cases hlt : k < l.length
    · obtain ⟨ad, P, pc, rfl, _, e0, e1, _⟩ := EntE.at_ (hl.below br) hlt
      have HST : Hid ((if l[k].term < lo then false else risingP (l.drop (k + 1)) l[k].term high) = R) := by show _ = _; rw [← HX.out, List.drop_eq_getElem_cons hlt]; rfl
      generalize l[k] = en0 at *
      have dA : Below wr.heap.size wr (wr.alloc (.cells #[.int .u64 (en0.term : Int), .slice P en0.data.length pc] 44)) := (Below.refl _ _).alloc (Nat.le_refl _) _
      have bA := below_step br dA
      clear dA HX
      by_cases hf : en0.term < lo
      · have hfi : (en0.term : Int) < (lo : Int) := by omega
        have HE : Hid (false = R) := by show _ = _; rw [← HST.out, if_pos hf]
        clear HST
        go_wp2_with fail
        go_ret
        exact ⟨ret_bool HE.out, bA⟩
      · have hfi : ¬ (en0.term : Int) < (lo : Int) := by omega
        have HE : Hid (risingP (l.drop (k + 1)) en0.term high = R) := by show _ = _; rw [← HST.out, if_neg hf]
        clear HST
        go_wp2_with fail
        go_roundw
        case rel => exact ⟨k + 1, en0.term, by omega, rfl, by simp, HE.out, bA⟩
        case measure => simp [intOf]; omega
    · obtain rfl : k = l.length := by omega
      have HE : Hid (decide (lo ≤ high) = R) := by show _ = _; rw [← HX.out, List.drop_length]; rfl
      clear HX
      go_wp2_with fail
      go_ret
      exact ⟨ret_bool (by rw [← HE.out]), br⟩
end Go.Proofs.Ytjpcekpllfelhaa
