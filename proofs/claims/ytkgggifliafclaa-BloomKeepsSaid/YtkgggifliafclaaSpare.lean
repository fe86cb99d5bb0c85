/- Spare and Kept: a copy with marked spare room, and the look whether it is as it was. -/
import Derived.Test.YtkgggifliafclaaApart
namespace Go.Proofs.Ytkgggifliafclaa
open Go.RowKit

/-- the list with forty marked bytes behind it -/
def spL (l : List UInt8) : List UInt8 := l ++ (List.range 40).map fun t => UInt8.ofNat (160 + (l.length + t) % 31)
theorem spL_length (l : List UInt8) : (spL l).length = l.length + 40 := by simp [spL]
theorem spL_lo (l : List UInt8) (j : Nat) (h : j < l.length) : (spL l)[j]? = some l[j] := by
  unfold spL; rw [List.getElem?_append_left h, List.getElem?_eq_getElem h]
theorem spL_hi (l : List UInt8) (j : Nat) (h : l.length ≤ j) (h2 : j < l.length + 40) : (spL l)[j]? = some (UInt8.ofNat (160 + j % 31)) := by
  unfold spL
  rw [List.getElem?_append_right h]
  simp only [List.getElem?_map]
  rw [List.getElem?_range (by omega)]
  simp only [Option.map_some]
  rw [show l.length + (j - l.length) = j from by omega]
theorem sp_nat (j : Nat) : (UInt8.ofNat (160 + j % 31)).toNat = 160 + j % 31 := by
  rw [UInt8.toNat_ofNat']; omega

/-- n zero cells -/
def zl (n : Nat) : List Value := List.replicate n (.int .u8 0)
/-- the cells of a spare copy in the making: the list, marks up to k, zeros -/
def spA (l : List UInt8) (k : Nat) : List Value := (List.range (l.length + 40)).map fun j => if j < k then bval ((spL l).getD j 0) else .int .u8 0
theorem spA_length (l : List UInt8) (k : Nat) : (spA l k).length = l.length + 40 := by simp [spA]
theorem spA_get (l : List UInt8) (k j : Nat) (h : j < l.length + 40) : (spA l k)[j]? = some (if j < k then bval ((spL l).getD j 0) else .int .u8 0) := by simp [spA, h]
theorem spA_start (l : List UInt8) : splice (zl (l.length + 40)) 0 (l.map bval) = spA l l.length := by
  apply List.ext_getElem?
  intro j
  unfold splice zl
  by_cases hj : j < l.length + 40
  · rw [spA_get _ _ _ hj]
    simp only [List.take_zero, List.nil_append, Nat.zero_add, List.length_map]
    by_cases hl : j < l.length
    · rw [List.getElem?_append_left (by simpa using hl), if_pos hl, List.getElem?_map, List.getElem?_eq_getElem hl, List.getD_eq_getElem?_getD, spL_lo _ _ hl]; rfl
    · rw [List.getElem?_append_right (by simp; omega), if_neg hl, List.getElem?_drop, List.getElem?_replicate, if_pos (by simp; omega)]
  · rw [List.getElem?_eq_none (by simp; omega), List.getElem?_eq_none (by rw [spA_length]; omega)]
theorem spA_put (l : List UInt8) (k : Nat) (h1 : l.length ≤ k) (h2 : k < l.length + 40) : (spA l k).toArray.setIfInBounds k (.int .u8 ((160 + k % 31 : Nat) : Int)) = (spA l (k + 1)).toArray := by
  apply Array.ext_getElem?
  intro j
  rw [Array.getElem?_setIfInBounds, List.getElem?_toArray, List.getElem?_toArray]
  by_cases hj : j < l.length + 40
  · rw [spA_get _ _ _ hj, spA_get _ _ _ hj]
    by_cases hkj : k = j
    · subst hkj
      rw [if_pos rfl, if_pos (by simp [spA_length]; omega), if_pos (by omega), List.getD_eq_getElem?_getD, spL_hi _ _ h1 h2]
      show some (Value.int _ _) = some (Value.int _ ((UInt8.ofNat (160 + k % 31)).toNat : Int))
      rw [sp_nat]
    · rw [if_neg hkj]
      have : (j < k ↔ j < k + 1) := by omega
      simp [this]
  · rw [if_neg (by omega), List.getElem?_eq_none (by rw [spA_length]; omega), List.getElem?_eq_none (by rw [spA_length]; omega)]
theorem spA_end (l : List UInt8) : spA l (l.length + 40) = (spL l).map bval := by
  apply List.ext_getElem?
  intro j
  by_cases hj : j < l.length + 40
  · rw [spA_get _ _ _ hj, if_pos hj, List.getElem?_map, List.getD_eq_getElem?_getD, List.getElem?_eq_getElem (by rw [spL_length]; exact hj)]; rfl
  · rw [List.getElem?_eq_none (by rw [spA_length]; omega), List.getElem?_eq_none (by rw [List.length_map, spL_length]; omega)]

/-- A spare copy of l in a new block. -/
def RetSpare (l : List UInt8) (w : World) (e : Ending) (w' : World) : Prop :=
  e = .returned (.tuple #[.slice (some ⟨w.heap.size, 0, none⟩) l.length (l.length + 40), .slice (some ⟨w.heap.size, 0, none⟩) (l.length + 40) (l.length + 40)]) ∧
    Blk w' w.heap.size 5 ((spL l).map bval).toArray ∧ Below w.heap.size w w'

set_option maxRecDepth 100000 in
set_option maxHeartbeats 1000000 in
theorem spare_any (A : Option Addr) (l : List UInt8) (c : Nat) (w : World) (hb : Bs w A l) (hl : l.length ≤ 140737488351232) :
    Calls Try.prog 21 #[.slice A l.length c] w (RetSpare l w) := by
  have hmk : ∀ W, (Instr.makeSlice 23 (.int .i64 ((l.length : Int) + 40)) (.int .i64 ((l.length : Int) + 40))).run Try.prog W = .ok (.slice (some ⟨W.heap.size, 0, none⟩) (l.length + 40) (l.length + 40)) (W.alloc (.cells (zl (l.length + 40)).toArray 5)) := fun W => by
    have := mk_u8' (l.length + 40) (by omega) W
    rw [show (zl (l.length + 40)).toArray = Array.replicate (l.length + 40) (.int .u8 0) from by unfold zl; rw [List.toArray_replicate]]
    exact this
  have hsz1 : (Try.prog.info? 5).map (·.size) = some 1 := by kernel_rfl
  have HSZ := Lib.hid hsz1
  clear hsz1
  obtain ⟨X, hX⟩ : ∃ X, X = l.map bval := ⟨_, rfl⟩
  have hXl : X.length = l.length := by rw [hX]; simp
  have hRd := (hb.alloc (.cells (zl (l.length + 40)).toArray 5)).1
  rw [← hX] at hRd
  have hX1 : ∀ v ∈ X, v.oneCell' = true := by rw [hX]; exact oneCell_bytes l
  have HX := Lib.hid hX
  have HXl := Lib.hid hXl
  have HX1 := Lib.hid hX1
  have HRd := Lib.hid hRd
  clear hX hXl hX1 hRd
  go_enter Try.func21, Try.ntmps21
  go_wp2_with (with_reducible refine wpList_copy_splice rfl (.tmp 10) (.tmp 11) 23 23 rfl 5 Try.underlying23 HSZ.out (some ⟨w.heap.size, 0, none⟩) A (l.length + 40) (l.length + 40) l.length c rfl rfl w.heap.size 0 (zl (l.length + 40)) 5 (heap_alloc_new w _) X ?c1 ?c2 ?c3 HX1.out w.heap.size w ((Below.refl _ _).alloc (Nat.le_refl _) _) (Nat.le_refl _) ?_)
  case c1 => rw [HXl.out]; exact (Nat.min_eq_left (by omega)).symm
  case c2 =>
    intro hp
    obtain ⟨ad, h1, _, h2⟩ := HRd.out.2 (by rw [← HXl.out]; exact hp)
    first | exact ⟨rfl, ad, h1, h2⟩ | exact ⟨ad, h1, h2⟩
  case c3 => rw [HXl.out]; simp [zl]
  intro w1 hg1 hb1
  have hblk : Blk w1 w.heap.size 5 (spA l l.length).toArray := by rw [← spA_start, ← HX.out]; exact hg1.out
  clear hg1
  go_wp2_with fail
  go_loopw [5] (fun i wr => ∃ k : Nat, l.length ≤ k ∧ k ≤ l.length + 40 ∧ i = .int .i64 k ∧ Blk wr w.heap.size 5 (spA l k).toArray ∧ Below w.heap.size w wr) (fun i _ => l.length + 40 - (intOf i).toNat)
  case atStart => exact ⟨l.length, Nat.le_refl _, by omega, rfl, hblk, hb1⟩
  case round =>
    obtain ⟨k, hk0, hk, rfl, hblk2, hb2⟩ := hrel
    by_cases hlt : k < l.length + 40
    · have hcl : wr.cell? ⟨w.heap.size, k, none⟩ = some (.int .u8 0) := by
        rw [hblk2.cell, List.getElem?_toArray, spA_get _ _ _ hlt, if_neg (by omega)]
      have hfr := hblk2.frozen k
      have HP := Lib.hid (spA_put l k hk0 hlt)
      have hix : (k : Int) < (l.length : Int) + 40 := by omega
      go_wp2_with fail
      go_roundw
      case rel => exact ⟨k + 1, by omega, by omega, by go_num, by rw [← HP.out]; exact hblk2.set_ _ _, hb2.setCell (Nat.le_refl _) _⟩
      case measure => simp [intOf]; omega
    · obtain rfl : k = l.length + 40 := by omega
      have hE := spA_end l
      rw [hE] at hblk2
      have hge : ¬ (((l.length + 40 : Nat) : Int) < (l.length : Int) + 40) := by omega
      clear hE
      go_wp2_with fail
      go_ret2
      exact ⟨rfl, hblk2, hb2⟩

set_option maxRecDepth 100000 in
set_option maxHeartbeats 1000000 in
theorem kept_any (A B : Option Addr) (l : List UInt8) (c d : Nat) (w : World) (hf : Bs w A (spL l)) (hb : Bs w B l) :
    Calls Try.prog 22 #[.slice A (l.length + 40) c, .slice B l.length d] w (Quietly (.bool true) w) := by
  have hl := hb.le
  have hsl := spL_length l
  have HSL := Lib.hid hsl
  clear hsl
  have t0 : (((l.length + 40 : Nat) : Int) != (l.length : Int) + 40) = false := by rw [bne_eq_false_iff_eq]; omega
  have t0' : ((l.length : Int) + 40 != (l.length : Int) + 40) = false := by simp
  go_enter Try.func22, Try.ntmps22
  go_wp2_with fail
  go_loopw [5] (fun i wr => ∃ k : Nat, k ≤ l.length + 40 ∧ i = .int .i64 k ∧ ∃ n, wr = w.drewN n) (fun i _ => l.length + 40 - (intOf i).toNat)
  case atStart => exact ⟨0, Nat.zero_le _, rfl, 0, rfl⟩
  case round =>
    obtain ⟨k, hk, rfl, n, hwn⟩ := hrel
    have HW := Lib.hid hwn
    by_cases hlt : k < l.length + 40
    · have hks : k < (spL l).length := by rw [HSL.out]; exact hlt
      obtain ⟨ad, rfl, _, hc1⟩ := hf.at_ hks
      have hc2 : wr.cell? (ad.add k) = some (.int .u8 ((spL l)[k].toNat : Int)) := by rw [hwn]; exact hc1
      have hix : (k : Int) < (l.length : Int) + 40 := by omega
      by_cases hlo : k < l.length
      · obtain ⟨bd, rfl, _, hc3⟩ := hb.at_ hlo
        have hc4 : wr.cell? (bd.add k) = some (.int .u8 (l[k].toNat : Int)) := by rw [hwn]; exact hc3
        have e : (spL l)[k] = l[k] := by
          have := spL_lo l k hlo
          rw [List.getElem?_eq_getElem hks] at this
          exact Option.some.inj this
        rw [e] at hc2
        have t1 : ((l[k].toNat : Int) != (l[k].toNat : Int)) = false := by simp
        have hd1 : decide (l.length ≤ k) = false := by simp; omega
        have hd2 : decide (k < l.length) = true := by simp; omega
        clear hc1 hc3 hwn e
        go_wp2_with fail
        go_quiet (fail)
        go_wp2_with fail
        go_roundw
        case rel => exact ⟨k + 1, by omega, by go_num, n + nq, by rw [HW.out, World.drewN_drewN]⟩
        case measure => simp [intOf]; omega
      · have e : (spL l)[k] = UInt8.ofNat (160 + k % 31) := by
          have := spL_hi l k (by omega) hlt
          rw [List.getElem?_eq_getElem hks] at this
          exact Option.some.inj this
        rw [e, sp_nat] at hc2
        have t1 : (((160 + k % 31 : Nat) : Int) != 160 + (k : Int) % 31) = false := by rw [bne_eq_false_iff_eq]; omega
        have t2 : (160 + (k : Int) % 31 != 160 + (k : Int) % 31) = false := by simp
        have hd1 : decide (l.length ≤ k) = true := by simp; omega
        have hd2 : decide (k < l.length) = false := by simp; omega
        clear hc1 hwn e
        go_wp2_with fail
        go_quiet (fail)
        go_wp2_with fail
        go_roundw
        case rel => exact ⟨k + 1, by omega, by go_num, n + nq, by rw [HW.out, World.drewN_drewN]⟩
        case measure => simp [intOf]; omega
    · clear hwn
      have hge : ¬ ((k : Int) < (l.length : Int) + 40) := by omega
      go_wp2_with fail
      go_ret
      exact ⟨rfl, n, HW.out⟩

end Go.Proofs.Ytkgggifliafclaa
