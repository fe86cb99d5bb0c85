/- Bytes with an end, in their order: codec.OrdText, caissonref01.OrdText; and caissonref01.Cmp. -/
import Derived.Test.YtfededjcadmpbaaDoorOrdL
import Derived.Test.YtfededjcadmpbaaDoorApB
namespace Go.Proofs.YtfededjcadmpbaaDoor
open Go.RowKit

theorem mk_cap2 (n : Nat) (hn : n ≤ 35184372088832) (W : World) : (Instr.makeSlice 31 (.int .i64 0) (.int .i64 ((n : Int) + 2))).run Tryd.prog W = .ok (.slice (some ⟨W.heap.size, 0, none⟩) 0 (n + 2)) (W.alloc (.cells (madeCells #[.int .u8 0] (n + 2)) 5)) := by
  obtain ⟨i, hi, hz0, hz1, hz2⟩ := info_parts Tryd.infoU8
  have := run_make_rowN 31 5 i _ Tryd.underlying31 hi hz0 .i64 .i64 0 (n + 2) (Nat.zero_le _) (by rw [hz2]; omega) (by omega) W
  rw [hz1, Nat.mul_one] at this
  have e : (((n + 2 : Nat)) : Int) = (n : Int) + 2 := by omega
  rw [e] at this
  exact this

theorem ordT_drop {l : List UInt8} {k : Nat} (h : k < l.length) : ordT (l.drop k) = (if l[k] = 0 then [l[k], 255] else [l[k]]) ++ ordT (l.drop (k + 1)) := by
  rw [List.drop_eq_getElem_cons h]
  show (if l[k] = 0 then _ else _) = _
  by_cases hz : l[k] = 0
  · rw [if_pos hz, if_pos hz, hz]; rfl
  · rw [if_neg hz, if_neg hz]; rfl

set_option maxRecDepth 100000 in
set_option maxHeartbeats 2000000 in
theorem ordtext_any (A : Option Addr) (l : List UInt8) (c : Nat) (w : World) (hb : Bs w A l) (hl : l.length ≤ 35184372088832) :
    Calls Tryd.prog 64 #[.slice A l.length c] w (RetBs (ordT l) w) := by
  have hmk := mk_cap2 l.length hl
  have b0 : Below w.heap.size w (w.alloc (.cells (madeCells #[.int .u8 0] (l.length + 2)) 5)) := (Below.refl _ _).alloc (Nat.le_refl _) _
  have hown : OwnB w.heap.size (w.alloc (.cells (madeCells #[.int .u8 0] (l.length + 2)) 5)) (some ⟨w.heap.size, 0, none⟩) [] (l.length + 2) := World.ownsRow_made w _ _ (Nat.le_refl _) (by simp only [maxLen]; omega) (by simp [size_madeCells])
  go_enter Tryd.func64, Tryd.ntmps64
  go_wp2_with fail
  clear hmk
  generalize (w.alloc (.cells (madeCells #[.int .u8 0] (l.length + 2)) 5)) = W0 at *
  go_loopw [3, 5, 12] (fun o _ i wr => ∃ (k : Nat) (acc : List UInt8) (B : Option Addr) (d : Nat), k ≤ l.length ∧ i = .int .i64 (k : Int) ∧ o = .slice B acc.length d ∧ OwnB w.heap.size wr B acc d ∧ acc ++ ordT (l.drop k) = ordT l ∧ acc.length ≤ 2 * k ∧ Below w.heap.size w wr) (fun _ _ i _ => l.length - (intOf i).toNat)
  case atStart => exact ⟨0, [], _, _, Nat.zero_le _, rfl, rfl, hown, rfl, by simp, b0⟩
  case round =>
    clear hown b0
    obtain ⟨k, acc, B, d, hk, rfl, rfl, o, ha, hal, br⟩ := hrel
    have HA := Lib.hid ha
    clear ha
    have zr := br.size
    by_cases hlt : k < l.length
    · have HD := Lib.hid (ordT_drop hlt)
      obtain ⟨ad, rfl, hadb, hc⟩ := (hb.below br).at_ hlt
      have hlt' : (k : Int) < (l.length : Int) := by omega
      generalize l[k] = x at *
      have dX : Below wr.heap.size wr (wr.alloc (.cells #[.int .u8 (x.toNat : Int)] 5)) := (Below.refl _ _).alloc (Nat.le_refl _) _
      have bX := br.trans (dX.mono zr)
      have oX := o.below dX
      by_cases hx : x = 0
      · have d1 : ((x.toNat : Int) == 0) = true := by rw [hx]; rfl
        have HE : Hid ((acc ++ [x]) ++ [255] ++ ordT (l.drop (k + 1)) = ordT l) := by show _ = _; rw [← HA.out, HD.out, if_pos hx]; simp
        clear hx HA HD
        go_wp2_with (at_builtin; first
          | (refine wpList_app w.heap.size w _ rfl (.tmp 16) (.tmp 18) rfl B acc d rfl oX _ [x] 1 rfl (Bs.lit wr [x] _ (by simp)) (by simp; omega) bX (Nat.le_refl _) bX.size ?_; intro B1 d1 acc1 w1 H1 o1 b1 g1 t1; have dY : Below w1.heap.size w1 (w1.alloc (.cells #[.int .u8 255] 5)) := (Below.refl _ _).alloc (Nat.le_refl _) _; have L1 : acc1.length ≤ acc.length + 1 := (by rw [H1.out]; simp); have bY := b1.trans (dY.mono b1.size))
          | (refine wpList_app w.heap.size w _ rfl (.tmp 22) (.tmp 23) rfl B1 acc1 d1 rfl (o1.below dY) _ [255] 1 rfl (Bs.lit w1 [255] _ (by simp)) (by simp; omega) bY (Nat.le_refl _) bY.size ?_; intro B2 d2 acc2 w2 H2 o2 b2 g2 t2))
        go_roundw
        case rel => exact ⟨k + 1, acc2, B2, d2, by omega, by go_num, rfl, o2, by rw [H2.out, H1.out]; exact HE.out, by rw [H2.out]; simp; omega, b2⟩
        case measure => simp [intOf]; omega
      · have d1 : ((x.toNat : Int) == 0) = false := by have := pos_of_ne hx; rw [beq_eq_false_iff_ne]; omega
        have HE : Hid ((acc ++ [x]) ++ ordT (l.drop (k + 1)) = ordT l) := by show _ = _; rw [← HA.out, HD.out, if_neg hx]; simp
        clear hx HA HD
        go_wp2_with (at_builtin; (refine wpList_app w.heap.size w _ rfl (.tmp 16) (.tmp 18) rfl B acc d rfl oX _ [x] 1 rfl (Bs.lit wr [x] _ (by simp)) (by simp; omega) bX (Nat.le_refl _) bX.size ?_); intro B1 d1 acc1 w1 H1 o1 b1 g1 t1)
        go_roundw
        case rel => exact ⟨k + 1, acc1, B1, d1, by omega, by go_num, rfl, o1, by rw [H1.out]; exact HE.out, by rw [H1.out]; simp; omega, b1⟩
        case measure => simp [intOf]; omega
    · obtain rfl : k = l.length := by omega
      have HE : Hid (acc ++ [0, 1] = ordT l) := by show _ = _; rw [← HA.out, List.drop_length]; rfl
      have dX : Below wr.heap.size wr (wr.alloc (.cells #[.int .u8 0, .int .u8 1] 5)) := (Below.refl _ _).alloc (Nat.le_refl _) _
      have bX := br.trans (dX.mono zr)
      clear HA
      go_wp2_with (at_builtin; (refine wpList_app w.heap.size w _ rfl (.tmp 26) (.tmp 27) rfl B acc d rfl (o.below dX) _ [0, 1] 2 rfl (Bs.lit wr [0, 1] _ (by simp)) (by simp; omega) bX (Nat.le_refl _) bX.size ?_); intro B1 d1 acc1 w1 H1 o1 b1 g1 t1)
      go_ret
      rw [← HE.out, ← H1.out]
      exact ret_own o1 b1

set_option maxRecDepth 100000 in
set_option maxHeartbeats 2000000 in
theorem rordtext_any (A : Option Addr) (l : List UInt8) (c : Nat) (w : World) (hb : Bs w A l) (hl : l.length ≤ 35184372088832) :
    Calls Tryd.prog 68 #[.slice A l.length c] w (RetBs (ordT l) w) := by
  go_enter Tryd.func68, Tryd.ntmps68
  go_wp2_with fail
  go_loopw [3, 4] (fun o i wr => ∃ (k : Nat) (acc : List UInt8) (B : Option Addr) (d : Nat), k ≤ l.length ∧ i = .int .i64 (k : Int) ∧ o = .slice B acc.length d ∧ OwnB w.heap.size wr B acc d ∧ acc ++ ordT (l.drop k) = ordT l ∧ acc.length ≤ 2 * k ∧ Below w.heap.size w wr) (fun _ i _ => l.length - (intOf i).toNat)
  case atStart => exact ⟨0, [], _, _, Nat.zero_le _, rfl, rfl, OwnB.nil_ _ _, rfl, by simp, Below.refl _ _⟩
  case round =>
    obtain ⟨k, acc, B, d, hk, rfl, rfl, o, ha, hal, br⟩ := hrel
    have HA := Lib.hid ha
    clear ha
    have zr := br.size
    by_cases hlt : k < l.length
    · have HD := Lib.hid (ordT_drop hlt)
      obtain ⟨ad, rfl, hadb, hc⟩ := (hb.below br).at_ hlt
      have hlt' : (k : Int) < (l.length : Int) := by omega
      generalize l[k] = x at *
      by_cases hx : x = 0
      · have d1 : ((x.toNat : Int) == 0) = true := by rw [hx]; rfl
        have dX : Below wr.heap.size wr (wr.alloc (.cells #[.int .u8 0, .int .u8 255] 5)) := (Below.refl _ _).alloc (Nat.le_refl _) _
        have bX := br.trans (dX.mono zr)
        have HE : Hid ((acc ++ [0, 255]) ++ ordT (l.drop (k + 1)) = ordT l) := by show _ = _; rw [← HA.out, HD.out, if_pos hx, hx]; simp
        clear hx HA HD
        go_wp2_with (at_builtin; (refine wpList_app w.heap.size w _ rfl (.tmp 16) (.tmp 17) rfl B acc d rfl (o.below dX) _ [0, 255] 2 rfl (Bs.lit wr [0, 255] _ (by simp)) (by simp; omega) bX (Nat.le_refl _) bX.size ?_); intro B1 d1 acc1 w1 H1 o1 b1 g1 t1)
        go_roundw
        case rel => exact ⟨k + 1, acc1, B1, d1, by omega, by go_num, rfl, o1, by rw [H1.out]; exact HE.out, by rw [H1.out]; simp; omega, b1⟩
        case measure => simp [intOf]; omega
      · have d1 : ((x.toNat : Int) == 0) = false := by have := pos_of_ne hx; rw [beq_eq_false_iff_ne]; omega
        have dX : Below wr.heap.size wr (wr.alloc (.cells #[.int .u8 (x.toNat : Int)] 5)) := (Below.refl _ _).alloc (Nat.le_refl _) _
        have bX := br.trans (dX.mono zr)
        have HE : Hid ((acc ++ [x]) ++ ordT (l.drop (k + 1)) = ordT l) := by show _ = _; rw [← HA.out, HD.out, if_neg hx]; simp
        clear hx HA HD
        go_wp2_with (at_builtin; (refine wpList_app w.heap.size w _ rfl (.tmp 19) (.tmp 24) rfl B acc d rfl (o.below dX) _ [x] 1 rfl (Bs.lit wr [x] _ (by simp)) (by simp; omega) bX (Nat.le_refl _) bX.size ?_); intro B1 d1 acc1 w1 H1 o1 b1 g1 t1)
        go_roundw
        case rel => exact ⟨k + 1, acc1, B1, d1, by omega, by go_num, rfl, o1, by rw [H1.out]; exact HE.out, by rw [H1.out]; simp; omega, b1⟩
        case measure => simp [intOf]; omega
    · obtain rfl : k = l.length := by omega
      have HE : Hid (acc ++ [0, 1] = ordT l) := by show _ = _; rw [← HA.out, List.drop_length]; rfl
      have dX : Below wr.heap.size wr (wr.alloc (.cells #[.int .u8 0, .int .u8 1] 5)) := (Below.refl _ _).alloc (Nat.le_refl _) _
      have bX := br.trans (dX.mono zr)
      clear HA
      go_wp2_with (at_builtin; (refine wpList_app w.heap.size w _ rfl (.tmp 26) (.tmp 27) rfl B acc d rfl (o.below dX) _ [0, 1] 2 rfl (Bs.lit wr [0, 1] _ (by simp)) (by simp; omega) bX (Nat.le_refl _) bX.size ?_); intro B1 d1 acc1 w1 H1 o1 b1 g1 t1)
      go_ret
      rw [← HE.out, ← H1.out]
      exact ret_own o1 b1
end Go.Proofs.YtfededjcadmpbaaDoor
