/- Names in form: the program's named and the reference's Named. -/
import Derived.Test.YtemidaamnldjmaaMem
import Derived.Lib.OthersKept
namespace Go.Proofs.Ytemidaamnldjmaa
open Go.RowKit

theorem toList_empty {s : ByteArray} : s.toList.isEmpty = true ↔ s.size = 0 := by
  rw [ByteArray.toList_eq, List.isEmpty_iff, ← List.length_eq_zero_iff, Array.length_toList]
  exact Iff.rfl
/-- is the byte at place i fit for a name? -/
def chB (s : ByteArray) (i : Nat) : Bool := (decide (97 ≤ (s.data.getD i 0).toNat) && decide ((s.data.getD i 0).toNat ≤ 122)) || (decide (i ≠ 0) && decide (48 ≤ (s.data.getD i 0).toNat) && decide ((s.data.getD i 0).toNat ≤ 57))
/-- is a name in form? -/
def namedB (s : ByteArray) : Bool := decide (1 ≤ s.size) && decide (s.size ≤ 16) && (List.range s.size).all (chB s)
theorem chB_at {s : ByteArray} {i : Nat} (h : i < s.size) : chB s i = ((decide (97 ≤ (s[i].toNat : Int)) && decide ((s[i].toNat : Int) ≤ 122)) || (decide (i ≠ 0) && decide (48 ≤ (s[i].toNat : Int)) && decide ((s[i].toNat : Int) ≤ 57))) := by
  have e : s.data.getD i 0 = s[i] := by unfold Array.getD; rw [dif_pos (show i < s.data.size from h)]; rfl
  unfold chB; rw [e]
  congr 1
  · congr 1 <;> exact decide_eq_decide.2 (by omega)
  · congr 1
    · congr 1; exact decide_eq_decide.2 (by omega)
    · exact decide_eq_decide.2 (by omega)
theorem all_range_succ (n : Nat) (p : Nat → Bool) : (List.range (n + 1)).all p = ((List.range n).all p && p n) := by
  rw [List.range_succ, List.all_append]; simp
theorem all_range_false {n j : Nat} {p : Nat → Bool} (hj : j < n) (hp : p j = false) : (List.range n).all p = false := by
  rw [Bool.eq_false_iff]; intro h
  rw [List.all_eq_true] at h
  have := h j (List.mem_range.2 hj)
  rw [hp] at this; cases this
theorem named_bad {s : ByteArray} {i : Nat} (h : i < s.size) (hc : chB s i = false) : namedB s = false := by
  unfold namedB; rw [all_range_false h hc, Bool.and_false]

set_option maxRecDepth 100000 in
set_option maxHeartbeats 1000000 in
theorem rnamed_any (s : ByteArray) (w : World) (hs : s.size ≤ 140737488351232) :
    Calls Try.prog 22 #[.string s] w fun e w' => e = .returned (.bool (namedB s)) ∧ w = w' := by
  go_enter Try.func22, Try.ntmps22
  go_wp2_with fail
  go_loop [3] (fun i => ∃ k : Nat, k ≤ s.size ∧ i = .int .i64 k ∧ (List.range k).all (chB s) = true) (fun i => s.size - (intOf i).toNat)
  case atStart => exact ⟨0, Nat.zero_le _, rfl, rfl⟩
  case round =>
    obtain ⟨k, hk, rfl, hall⟩ := hrel
    have HA := Lib.hid hall
    clear hall
    by_cases hlt : k < s.size
    · have hc := chB_at hlt
      have hb8 : (s[k].toNat : Int) < 256 := by have := s[k].toNat_lt; omega
      have bad : chB s k = false → Hid (namedB s = false) := fun h => named_bad hlt h
      have good : chB s k = true → Hid ((List.range (k + 1)).all (chB s) = true) := fun h => by show _ = _; rw [all_range_succ, HA.out, h]; rfl
      rcases (show (s[k].toNat : Int) < 48 ∨ (48 ≤ (s[k].toNat : Int) ∧ (s[k].toNat : Int) ≤ 57) ∨ (57 < (s[k].toNat : Int) ∧ (s[k].toNat : Int) < 97) ∨ (97 ≤ (s[k].toNat : Int) ∧ (s[k].toNat : Int) ≤ 122) ∨ 122 < (s[k].toNat : Int) by omega) with h | h | h | h | h
      · have HB := bad (by rw [hc]; simp; omega)
        clear bad good hc
        by_cases h0 : k = 0
        · have ht : ((k : Int) == 0) = true := by rw [beq_iff_eq]; omega
          clear h0
          go_wp2_with fail
          go_ret
          exact ⟨by rw [HB.out]; rfl, rfl⟩
        · have ht : ((k : Int) == 0) = false := by rw [beq_eq_false_iff_ne]; omega
          go_wp2_with fail
          go_ret
          exact ⟨by rw [HB.out]; rfl, rfl⟩
      · by_cases h0 : k = 0
        · have ht : ((k : Int) == 0) = true := by rw [beq_iff_eq]; omega
          have HB := bad (by rw [hc]; simp; omega)
          clear h0 bad good hc
          go_wp2_with fail
          go_ret
          exact ⟨by rw [HB.out]; rfl, rfl⟩
        · have ht : ((k : Int) == 0) = false := by rw [beq_eq_false_iff_ne]; omega
          have HG := good (by rw [hc]; simp; omega)
          have d1 : decide ((s[k].toNat : Int) ≤ 57) = true := by simp; omega
          clear bad good hc
          go_wp2_with fail
          all_goals go_round
          all_goals first
            | exact ⟨k + 1, by omega, by go_num, HG.out⟩
            | (simp [intOf]; omega)
      · have HB := bad (by rw [hc]; simp; omega)
        have d1 : decide ((s[k].toNat : Int) ≤ 57) = false := by simp; omega
        clear bad good hc
        by_cases h0 : k = 0
        · have ht : ((k : Int) == 0) = true := by rw [beq_iff_eq]; omega
          clear h0
          go_wp2_with fail
          go_ret
          exact ⟨by rw [HB.out]; rfl, rfl⟩
        · have ht : ((k : Int) == 0) = false := by rw [beq_eq_false_iff_ne]; omega
          go_wp2_with fail
          go_ret
          exact ⟨by rw [HB.out]; rfl, rfl⟩
      · have HG := good (by rw [hc]; simp; omega)
        have d2 : decide ((s[k].toNat : Int) ≤ 122) = true := by simp; omega
        clear bad good hc
        go_wp2_with fail
        all_goals go_round
        all_goals first
          | exact ⟨k + 1, by omega, by go_num, HG.out⟩
          | (simp [intOf]; omega)
      · have HB := bad (by rw [hc]; simp; omega)
        have d1 : decide ((s[k].toNat : Int) ≤ 57) = false := by simp; omega
        have d2 : decide ((s[k].toNat : Int) ≤ 122) = false := by simp; omega
        clear bad good hc
        by_cases h0 : k = 0
        · have ht : ((k : Int) == 0) = true := by rw [beq_iff_eq]; omega
          clear h0
          go_wp2_with fail
          go_ret
          exact ⟨by rw [HB.out]; rfl, rfl⟩
        · have ht : ((k : Int) == 0) = false := by rw [beq_eq_false_iff_ne]; omega
          go_wp2_with fail
          go_ret
          exact ⟨by rw [HB.out]; rfl, rfl⟩
    · obtain rfl : k = s.size := by omega
      have hE : namedB s = (decide (1 ≤ (s.size : Int)) && decide ((s.size : Int) ≤ 16)) := by
        unfold namedB; rw [HA.out, Bool.and_true]
        congr 1 <;> exact decide_eq_decide.2 (by omega)
      by_cases h1 : (s.size : Int) < 1
      · have HE := Lib.hid (hE.trans (c := false) (by simp; omega))
        clear hE
        go_wp2_with fail
        go_ret
        exact ⟨by rw [HE.out]; rfl, rfl⟩
      · have HE := Lib.hid (hE.trans (c := decide ((s.size : Int) ≤ 16)) (by rw [show decide (1 ≤ (s.size : Int)) = true from by simp; omega, Bool.true_and]))
        clear hE
        go_wp2_with fail
        go_ret
        exact ⟨by rw [HE.out]; rfl, rfl⟩

set_option maxRecDepth 100000 in
set_option maxHeartbeats 1000000 in
theorem named_any (s : ByteArray) (w : World) (hs : s.size ≤ 140737488351232) :
    Calls Try.prog 35 #[.string s] w fun e w' => e = .returned (.bool (namedB s)) ∧ Below w.heap.size w w' := by
  by_cases h1 : s.size < 1
  · have HE : Hid (namedB s = false) := by show _ = _; unfold namedB; simp; omega
    have ht : s.toList.isEmpty = true := toList_empty.2 (by omega)
    go_enter Try.func35, Try.ntmps35
    go_wp2_with fail
    go_ret
    exact ⟨by rw [HE.out]; rfl, Below.refl _ _⟩
  have ht : s.toList.isEmpty = false := by
    rw [Bool.eq_false_iff]; intro h; exact h1 (by have := toList_empty.1 h; omega)
  by_cases h2 : (16 : Int) < (s.size : Int)
  · have HE : Hid (namedB s = false) := by show _ = _; unfold namedB; rw [show decide (s.size ≤ 16) = false from by simp; omega]; simp
    go_enter Try.func35, Try.ntmps35
    go_wp2_with fail
    go_ret
    exact ⟨by rw [HE.out]; rfl, Below.refl _ _⟩
  have hbw : ∀ p, Below w.heap.size w (w.iter s p) := fun p => (Below.refl _ _).alloc (Nat.le_refl _) _
  have HBW := Lib.hid hbw
  clear hbw
  go_enter Try.func35, Try.ntmps35
  go_wp2_with fail
  go_loopw [3] (fun i wr => ∃ k : Nat, k ≤ s.size ∧ wr = w.iter s k ∧ (List.range k).all (chB s) = true) (fun _ wr => s.size - wr.iterPos w.heap.size)
  case atStart => exact ⟨0, Nat.zero_le _, rfl, rfl⟩
  case round =>
    obtain ⟨k, hk, rfl, hall⟩ := hrel
    have HA := Lib.hid hall
    clear hall
    by_cases hlt : k < s.size
    · have hc := chB_at hlt
      have hb8 : (s[k].toNat : Int) < 256 := by have := s[k].toNat_lt; omega
      have bad : chB s k = false → Hid (namedB s = false) := fun h => named_bad hlt h
      have good : chB s k = true → Hid ((List.range (k + 1)).all (chB s) = true) := fun h => by show _ = _; rw [all_range_succ, HA.out, h]; rfl
      by_cases ha : s[k].toNat < 128
      · have hnx : ∀ ty, (Instr.next (.pointer (some ⟨w.heap.size, 0, none⟩)) true ty).run Try.prog (w.iter s k) = _ := fun ty => run_next_ascii w s k ty hlt ha
        rcases (show (s[k].toNat : Int) < 48 ∨ (48 ≤ (s[k].toNat : Int) ∧ (s[k].toNat : Int) ≤ 57) ∨ (57 < (s[k].toNat : Int) ∧ (s[k].toNat : Int) < 97) ∨ (97 ≤ (s[k].toNat : Int) ∧ (s[k].toNat : Int) ≤ 122) ∨ 122 < (s[k].toNat : Int) by omega) with h | h | h | h | h
        · have HB := bad (by rw [hc]; simp; omega)
          clear bad good hc
          by_cases h0 : k = 0
          · have ht0 : ((k : Int) == 0) = true := by rw [beq_iff_eq]; omega
            clear h0
            go_wp2_with fail
            go_ret
            exact ⟨by rw [HB.out]; rfl, HBW.out _⟩
          · have ht0 : ((k : Int) == 0) = false := by rw [beq_eq_false_iff_ne]; omega
            go_wp2_with fail
            go_ret
            exact ⟨by rw [HB.out]; rfl, HBW.out _⟩
        · by_cases h0 : k = 0
          · have ht0 : ((k : Int) == 0) = true := by rw [beq_iff_eq]; omega
            have HB := bad (by rw [hc]; simp; omega)
            clear h0 bad good hc
            go_wp2_with fail
            go_ret
            exact ⟨by rw [HB.out]; rfl, HBW.out _⟩
          · have ht0 : ((k : Int) == 0) = false := by rw [beq_eq_false_iff_ne]; omega
            have HG := good (by rw [hc]; simp; omega)
            have d1 : decide ((57 : Int) < (s[k].toNat : Int)) = false := by simp; omega
            clear bad good hc
            go_wp2_with fail
            go_roundw
            case rel => exact ⟨k + 1, by omega, rfl, HG.out⟩
            case measure => simp; omega
        · have HB := bad (by rw [hc]; simp; omega)
          have d1 : decide ((57 : Int) < (s[k].toNat : Int)) = true := by simp; omega
          clear bad good hc
          by_cases h0 : k = 0
          · have ht0 : ((k : Int) == 0) = true := by rw [beq_iff_eq]; omega
            clear h0
            go_wp2_with fail
            go_ret
            exact ⟨by rw [HB.out]; rfl, HBW.out _⟩
          · have ht0 : ((k : Int) == 0) = false := by rw [beq_eq_false_iff_ne]; omega
            go_wp2_with fail
            go_ret
            exact ⟨by rw [HB.out]; rfl, HBW.out _⟩
        · have HG := good (by rw [hc]; simp; omega)
          have d2 : decide ((s[k].toNat : Int) ≤ 122) = true := by simp; omega
          clear bad good hc
          go_wp2_with fail
          go_roundw
          case rel => exact ⟨k + 1, by omega, rfl, HG.out⟩
          case measure => simp; omega
        · have HB := bad (by rw [hc]; simp; omega)
          have d1 : decide ((57 : Int) < (s[k].toNat : Int)) = true := by simp; omega
          have d2 : decide ((s[k].toNat : Int) ≤ 122) = false := by simp; omega
          clear bad good hc
          by_cases h0 : k = 0
          · have ht0 : ((k : Int) == 0) = true := by rw [beq_iff_eq]; omega
            clear h0
            go_wp2_with fail
            go_ret
            exact ⟨by rw [HB.out]; rfl, HBW.out _⟩
          · have ht0 : ((k : Int) == 0) = false := by rw [beq_eq_false_iff_ne]; omega
            go_wp2_with fail
            go_ret
            exact ⟨by rw [HB.out]; rfl, HBW.out _⟩
      · have hnx : ∀ ty, (Instr.next (.pointer (some ⟨w.heap.size, 0, none⟩)) true ty).run Try.prog (w.iter s k) = _ := fun ty => run_next_any w s k ty hlt
        have hd := (decode_high s k hlt (by omega)).1
        have hd2 := decode_le s k
        generalize Utf8.decode s k = dd at hnx hd hd2
        have hdi : (128 : Int) ≤ (dd.1 : Int) := by omega
        have HB := bad (by rw [hc]; simp; omega)
        have d1 : decide ((57 : Int) < (dd.1 : Int)) = true := by simp; omega
        have d2 : decide ((dd.1 : Int) ≤ 122) = false := by simp; omega
        clear bad good hc hd2
        by_cases h0 : k = 0
        · have ht0 : ((k : Int) == 0) = true := by rw [beq_iff_eq]; omega
          clear h0
          go_wp2_with fail
          go_ret
          exact ⟨by rw [HB.out]; rfl, HBW.out _⟩
        · have ht0 : ((k : Int) == 0) = false := by rw [beq_eq_false_iff_ne]; omega
          go_wp2_with fail
          go_ret
          exact ⟨by rw [HB.out]; rfl, HBW.out _⟩
    · have hnx : ∀ ty, (Instr.next (.pointer (some ⟨w.heap.size, 0, none⟩)) true ty).run Try.prog (w.iter s k) = _ := fun ty => run_next_end w s k ty hlt
      obtain rfl : k = s.size := by omega
      have HE : Hid (namedB s = true) := by show _ = _; unfold namedB; rw [HA.out]; simp; omega
      go_wp2_with fail
      go_ret
      exact ⟨by rw [HE.out]; rfl, HBW.out _⟩

end Go.Proofs.Ytemidaamnldjmaa
