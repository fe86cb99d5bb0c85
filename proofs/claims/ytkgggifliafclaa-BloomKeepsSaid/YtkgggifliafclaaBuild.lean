/- Building a filter: the program's Build. -/
import Derived.Test.YtkgggifliafclaaFilter
import Derived.Test.YtkgggifliafclaaCopy
import Derived.Deep.DeepCutAuto
import Derived.Deep.LoopGhost
namespace Go.Proofs.Ytkgggifliafclaa
open Go.RowKit

theorem mk_u8 (n : Nat) (hn : n ≤ 281474976710656) (W : World) : (Instr.makeSlice 23 (.int .i64 (n : Int)) (.int .i64 (n : Int))).run Try.prog W = .ok (.slice (some ⟨W.heap.size, 0, none⟩) n n) (W.alloc (.cells (Array.replicate n (.int .u8 0)) 5)) := by
  obtain ⟨i, hi, hz0, hz1, hz2⟩ := info_parts Try.infoU8
  exact run_make_rep 23 5 i _ Try.underlying23 hi hz0 hz1 rfl _ _ n (by rw [hz2]; omega) (by omega) W

/-- The call answers a row of its own with the bytes l, and an errno. -/
def RetBsE (l : List UInt8) (er : Int) (w : World) (e : Ending) (w' : World) : Prop :=
  ∃ A c, e = .returned (.tuple #[.slice A l.length c, .int .i64 er]) ∧ w'.ownsRow w.heap.size 5 1 (.slice A l.length c) l.length (l.map bval) ∧ Below w.heap.size w w'

theorem RetBsE.nil_ (er : Int) (w : World) : RetBsE [] er w (.returned (.tuple #[.slice none 0 0, .int .i64 er])) w :=
  ⟨none, 0, rfl, World.ownsRow_nil _ _ _ _, Below.refl _ _⟩

/-- the cells of the filter in the making: n bytes of places, and one byte -/
def fArr (s : Nat → Bool) (n : Nat) : Array Value := ((bytesOf s n ++ [0]).map bval).toArray
theorem fArr_zero' (n : Nat) : fArr (fun _ => false) n = Array.replicate (n + 1) (.int .u8 0) := by
  have h : ∀ i, byteN (fun _ => false) i = 0 := fun i => rfl
  unfold fArr bytesOf
  rw [← Array.toList_inj, Array.toList_replicate, List.replicate_succ']
  simp [h, List.map_const']
theorem fArr_get (s : Nat → Bool) (n i : Nat) (h : i < n) : (fArr s n)[i]? = some (.int .u8 ((byteN s i : Nat) : Int)) := by
  unfold fArr
  rw [List.getElem?_toArray, List.getElem?_map, List.getElem?_append_left (by rw [length_bytesOf]; exact h), get_bytesOf _ _ _ h]
  simp only [Option.map_some, bval, toNat_byteN]
theorem fArr_put (s : Nat → Bool) (n b : Nat) (h : b / 8 < n) : (fArr s n).setIfInBounds (b / 8) (.int .u8 ((byteN (putS s b) (b / 8) : Nat) : Int)) = fArr (putS s b) n := by
  apply Array.ext_getElem?
  intro i
  rw [Array.getElem?_setIfInBounds]
  by_cases hi : i < n
  · rw [fArr_get _ _ _ hi, fArr_get _ _ _ hi]
    by_cases hji : b / 8 = i
    · subst hji; simp [fArr, length_bytesOf]; omega
    · rw [if_neg hji, byteN_other _ _ _ (fun h => hji h.symm)]
  · rw [if_neg (by omega)]
    unfold fArr
    rw [List.getElem?_toArray, List.getElem?_toArray, List.getElem?_map, List.getElem?_map, List.getElem?_append_right (by rw [length_bytesOf]; omega), List.getElem?_append_right (by rw [length_bytesOf]; omega), length_bytesOf, length_bytesOf]
theorem fArr_last (s : Nat → Bool) (n : Nat) : (fArr s n)[n]? = some (.int .u8 0) := by
  unfold fArr
  rw [List.getElem?_toArray, List.getElem?_map, List.getElem?_append_right (by rw [length_bytesOf]; exact Nat.le_refl _), length_bytesOf, Nat.sub_self]
  rfl
theorem fArr_end (s : Nat → Bool) (n k : Nat) (hk : k < 256) : (fArr s n).setIfInBounds n (.int .u8 (k : Int)) = ((bytesOf s n ++ [UInt8.ofNat k]).map bval).toArray := by
  unfold fArr
  apply Array.ext_getElem?
  intro i
  rw [Array.getElem?_setIfInBounds, List.getElem?_toArray, List.getElem?_toArray, List.getElem?_map, List.getElem?_map]
  have e : (UInt8.ofNat k).toNat = k := by rw [UInt8.toNat_ofNat']; exact Nat.mod_eq_of_lt hk
  by_cases hi : n = i
  · subst hi
    simp [length_bytesOf, e]
  · rw [if_neg hi]
    by_cases hl : i < n
    · rw [List.getElem?_append_left (by rw [length_bytesOf]; exact hl), List.getElem?_append_left (by rw [length_bytesOf]; exact hl)]
    · rw [List.getElem?_eq_none (by simp [length_bytesOf]; omega), List.getElem?_eq_none (by simp [length_bytesOf]; omega)]
theorem or_raw (x t : Nat) (hx : x < 256) (ht : t < 8) : bits .or .u8 (x : Int) (2 ^ t % 256) = ((x ||| 2 ^ t : Nat) : Int) := by
  have h2 : 2 ^ t < 256 := by
    have : 2 ^ t ≤ 2 ^ 7 := Nat.pow_le_pow_right (by omega) (by omega)
    omega
  have e : ((2 : Int) ^ t % 256) = ((2 ^ t : Nat) : Int) := by
    have : ((2 : Int) ^ t) = ((2 ^ t : Nat) : Int) := by rw [Int.natCast_pow]; rfl
    rw [this]; exact Int.emod_eq_of_lt (Int.natCast_nonneg _) (Int.ofNat_lt.2 h2)
  rw [e]
  exact u8_or_nat x (2 ^ t) hx h2
def inS (keys : List (List UInt8)) (m k t j : Nat) : Nat → Bool := fun b => placesOf (keys.take t) m k b || (List.range j).any fun x => b == place (keys.getD t []) m x
theorem inS_zero (keys : List (List UInt8)) (m k : Nat) : inS keys m k 0 0 = fun _ => false := by
  funext b; simp [inS, placesOf]
theorem fArr_zero (keys : List (List UInt8)) (m k n : Nat) : fArr (inS keys m k 0 0) n = Array.replicate (n + 1) (.int .u8 0) := by rw [inS_zero, fArr_zero']
theorem inS_succ (keys : List (List UInt8)) (m k t j : Nat) (ht : t < keys.length) : inS keys m k t (j + 1) = putS (inS keys m k t j) (place keys[t] m j) := by
  funext b
  have e : keys.getD t [] = keys[t] := by simp [List.getD, ht]
  unfold inS putS
  rw [e, List.range_succ, List.any_append]
  simp only [List.any_cons, List.any_nil, Bool.or_false]
  rw [Bool.or_comm (b == _), Bool.or_assoc]
theorem inS_next (keys : List (List UInt8)) (m k t : Nat) (ht : t < keys.length) : inS keys m k t k = inS keys m k (t + 1) 0 := by
  funext b
  have e : keys.getD t [] = keys[t] := by simp [List.getD, ht]
  unfold inS placesOf
  rw [e, List.take_succ_eq_append_getElem ht, List.any_append]
  simp
theorem inS_all (keys : List (List UInt8)) (m k : Nat) : inS keys m k keys.length 0 = placesOf keys m k := by
  funext b; simp [inS]

set_option maxRecDepth 100000 in
set_option maxHeartbeats 1000000 in
theorem build_any (per : Int) (A : Option Addr) (keys : List (List UInt8)) (c : Nat) (w : World) (hb : Bss w A keys) :
    Calls Try.prog 12 #[.int .i64 per, .slice A keys.length c] w (RetBsE (buildL per keys) (buildE per keys.length) w) := by
  have hn : keys.length ≤ 5864062014805 := hb.1
  by_cases h1 : per < 1
  · have HE : Hid (buildE per keys.length = 1) := by show _ = _; unfold buildE; rw [if_pos (.inl h1)]
    have HL : Hid (buildL per keys = []) := by show _ = _; unfold buildL; rw [HE.out]; rfl
    rw [HE.out, HL.out]
    go_enter Try.func12, Try.ntmps12
    go_wp2
    go_ret2
    exact RetBsE.nil_ _ _
  by_cases h2 : 100 < per
  · have HE : Hid (buildE per keys.length = 1) := by show _ = _; unfold buildE; rw [if_pos (.inr h2)]
    have HL : Hid (buildL per keys = []) := by show _ = _; unfold buildL; rw [HE.out]; rfl
    rw [HE.out, HL.out]
    go_enter Try.func12, Try.ntmps12
    go_wp2
    go_ret2
    exact RetBsE.nil_ _ _
  obtain ⟨p, rfl⟩ := Int.eq_ofNat_of_zero_le (show 0 ≤ per by omega)
  have hpn : p * keys.length ≤ 100 * keys.length := Nat.mul_le_mul (by omega) (Nat.le_refl _)
  have hpn0 : (0 : Int) ≤ (p : Int) * (keys.length : Int) := by rw [← Int.natCast_mul]; omega
  have hpn1 : (p : Int) * (keys.length : Int) ≤ 586406201480500 := by rw [← Int.natCast_mul]; omega
  go_enter Try.func12, Try.ntmps12
  go_upto_region 3 with fail
  go_cut [6] (fun m w' => m = .int .i64 ((mOf p keys.length : Nat) : Int) ∧ w = w')
  case first =>
    have hm1 : (p : Int) * (keys.length : Int) = ((p * keys.length : Nat) : Int) := (Int.natCast_mul _ _).symm
    generalize hpq : p * keys.length = pq at hm1
    have HQ := Lib.hid hpq
    have HQ1 := Lib.hid hm1
    clear hpq hm1
    by_cases q1 : (p : Int) * (keys.length : Int) ≤ 64
    · go_wp2_with fail
      go_meet
      exact ⟨congrArg (Value.int .i64) (by have e1 := HQ.out; have e2 := HQ1.out; unfold mOf; rw [e1]; omega), rfl⟩
    · go_wp2_with fail
      go_meet
      exact ⟨congrArg (Value.int .i64) (by have e1 := HQ.out; have e2 := HQ1.out; unfold mOf; rw [e1, e2]; omega), rfl⟩
  case rest =>
    obtain ⟨rfl, rfl⟩ := hcut
    obtain ⟨M, hMe⟩ : ∃ M, M = mOf p keys.length := ⟨_, rfl⟩
    rw [← hMe]
    have hM := mOf_ge p keys.length
    rw [← hMe] at hM
    have hM2 : M ≤ 586406201480564 := by rw [hMe]; unfold mOf; omega
    have HM := Lib.hid hMe
    clear hMe
    have hM1 := hM.1
    have HM8 := Lib.hid hM.2
    clear hM
    clear hpn hpn0 hpn1
    by_cases hbig : (1048576 : Int) < (M : Int) / 8 + 1
    · have HE : Hid (buildE (p : Int) keys.length = 2) := by show _ = _; unfold buildE; rw [if_neg (by omega), Int.toNat_natCast, ← HM.out, if_pos (by omega)]
      have HL : Hid (buildL (p : Int) keys = []) := by show _ = _; unfold buildL; rw [HE.out]; rfl
      go_wp2_with fail
      go_ret2
      rw [HE.out, HL.out]
      exact RetBsE.nil_ 2 w
    · have HB := Lib.hid hbig
      have hbig2 : ¬ (1048576 : Int) < (M : Int) / 8 + 1 := hbig
      go_upto_region 6 with fail
      go_cut [7] (fun m w' => m = .int .i64 ((kOf p : Nat) : Int) ∧ w = w')
      case first =>
        clear hM2 hM1 hbig hbig2 hn
        by_cases q1 : (p : Int) * 69 / 100 ≤ 1
        · go_wp2_with fail
          go_meet
          exact ⟨congrArg (Value.int .i64) (by unfold kOf; omega), rfl⟩
        · by_cases q2 : (p : Int) * 69 / 100 < 30
          · go_wp2_with fail
            go_meet
            exact ⟨congrArg (Value.int .i64) (by unfold kOf; omega), rfl⟩
          · go_wp2_with fail
            go_meet
            exact ⟨congrArg (Value.int .i64) (by unfold kOf; omega), rfl⟩
      case rest =>
        obtain ⟨rfl, rfl⟩ := hcut
        have hk := kOf_le p
        obtain ⟨k, hke⟩ : ∃ k, k = kOf p := ⟨_, rfl⟩
        rw [← hke] at hk ⊢
        have HK := Lib.hid hke
        clear hke
        have hmk : ∀ W, (Instr.makeSlice 23 (.int .i64 ((M : Int) / 8 + 1)) (.int .i64 ((M : Int) / 8 + 1))).run Try.prog W = .ok (.slice (some ⟨W.heap.size, 0, none⟩) (M / 8 + 1) (M / 8 + 1)) (W.alloc (.cells (Array.replicate (M / 8 + 1) (.int .u8 0)) 5)) := fun W => mk_u8 (M / 8 + 1) (by omega) W
        go_wp2_with fail
        go_loopw [42] (fun i wr => ∃ t : Nat, t ≤ keys.length ∧ i = .int .i64 t ∧ Blk wr w.heap.size 5 (fArr (inS keys M k t 0) (M / 8)) ∧ Below w.heap.size w wr) (fun i _ => keys.length - (intOf i).toNat)
        case atStart => exact ⟨0, Nat.zero_le _, rfl, by rw [fArr_zero]; exact Blk.new _ _ _, (Below.refl _ _).alloc (Nat.le_refl _) _⟩
        case round =>
          obtain ⟨t, ht, rfl, hblk, hbel⟩ := hrel
          obtain ⟨wo, rfl⟩ : ∃ wo : World, wo = wr := ⟨_, rfl⟩
          by_cases hlt : t < keys.length
          · obtain ⟨ad, Ai, ci, rfl, _, hcell, hbs⟩ := (hb.below hbel).at_ hlt
            go_wp2_with fail
            refine (places_any _ _ _ _ _ _ hbs (by omega) (by omega) (by omega) (by omega)).mono ?_
            rintro e w2 ⟨rfl, hpb, hbel2⟩
            simp only [Int.toNat_natCast] at hpb ⊢
            go_wp2_with fail
            go_loopw [51] (fun i wr => ∃ j : Nat, j ≤ k ∧ i = .int .i64 j ∧ Blk wr w.heap.size 5 (fArr (inS keys M k t j) (M / 8)) ∧ Blk wr wo.heap.size 3 (parr keys[t] M k k) ∧ Below w.heap.size w wr) (fun i _ => k - (intOf i).toNat)
            case atStart => exact ⟨0, Nat.zero_le _, rfl, hblk.below hbel2 hblk.lt, hpb, hbel.trans (hbel2.mono hbel.size)⟩
            case round =>
              obtain ⟨j, hj, rfl, hblk3, hpb3, hbel3⟩ := hrel
              by_cases hlj : j < k
              · have hcl : wr.cell? ⟨wo.heap.size, j, none⟩ = some (.int .i64 ((place keys[t] M j : Nat) : Int)) := by rw [hpb3.cell, parr_get _ _ _ _ _ hlj, if_pos hlj]
                have hpl := place_lt keys[t] (m := M) (by omega) j
                generalize hbe : place keys[t] M j = b at hcl hpl
                have HB2 := Lib.hid hbe
                clear hbe
                have hfc : wr.cell? ⟨w.heap.size, b / 8, none⟩ = some (.int .u8 ((byteN (inS keys M k t j) (b / 8) : Nat) : Int)) := by rw [hblk3.cell, fArr_get _ _ _ (by have := HM8.out; omega)]
                have hfr := hblk3.frozen (b / 8)
                have HO := Lib.hid (or_raw (byteN (inS keys M k t j) (b / 8)) (b % 8) (byteN_lt _ _) (by omega))
                have HP := Lib.hid (byteN_put (inS keys M k t j) b)
                have HF := Lib.hid (fArr_put (inS keys M k t j) (M / 8) b (by have := HM8.out; omega))
                have HI := Lib.hid (inS_succ keys M k t j hlt)
                have hne := hpb3.ne_ hblk3 (by decide)
                go_wp2_with fail
                go_region
                go_wp2
                go_roundw
                case rel =>
                  refine ⟨j + 1, by omega, by go_num, ?_, ((hpb3.far (p := ⟨w.heap.size, b / 8, none⟩) hne _).drew), (hbel3.setCell (Nat.le_refl _) _).drew⟩
                  rw [HO.out, ← HP.out, HI.out, HB2.out, ← HF.out]
                  exact (hblk3.set_ _ _).drew
                case measure => simp [intOf]; omega
              · have HI := Lib.hid (inS_next keys M k t hlt)
                obtain rfl : j = k := by omega
                go_wp2_with fail
                go_roundw
                case rel => exact ⟨t + 1, by omega, by go_num, by rw [← HI.out]; exact hblk3, hbel3⟩
                case measure => simp [intOf]; omega
          · obtain rfl : t = keys.length := by omega
            have hfr := hblk.frozen (M / 8)
            have hcl : wo.cell? ⟨w.heap.size, M / 8, none⟩ = some (.int .u8 0) := by rw [hblk.cell, fArr_last]
            have hi1 : (M : Int) / 8 < (M : Int) / 8 + 1 := by omega
            go_wp2_with fail
            go_ret2
            have hM8 := HM8.out
            have hk2 := HK.out
            have hm2 := HM.out
            have hE : buildE (p : Int) keys.length = 0 := by unfold buildE; rw [if_neg (by omega), Int.toNat_natCast, ← hm2, if_neg (by omega)]
            have hL : buildL (p : Int) keys = bytesOf (placesOf keys M k) (M / 8) ++ [UInt8.ofNat k] := by unfold buildL filt; rw [if_pos hE, Int.toNat_natCast, ← hm2, ← hk2]
            have hlen : (buildL (p : Int) keys).length = M / 8 + 1 := by rw [hL]; simp [length_bytesOf]
            have hB2 : Blk (wo.setCell ⟨w.heap.size, M / 8, none⟩ (.int .u8 (k : Int))) w.heap.size 5 ((buildL (p : Int) keys).map bval).toArray := by
              have := hblk.set_ (M / 8) (.int .u8 (k : Int))
              rw [inS_all, fArr_end _ _ _ (by omega), ← hL] at this
              exact this
            have hown := own_of_blk (base := w.heap.size) hB2 (Nat.le_refl _) (by simp only [List.length_map, hlen, maxLen]; omega)
            simp only [List.length_map] at hown
            exact ⟨some ⟨w.heap.size, 0, none⟩, (buildL (p : Int) keys).length, by rw [hlen, hE]; rfl, hown, hbel.setCell (Nat.le_refl _) _⟩

end Go.Proofs.Ytkgggifliafclaa
