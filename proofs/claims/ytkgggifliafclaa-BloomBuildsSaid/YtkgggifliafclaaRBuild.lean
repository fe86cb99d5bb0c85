/- Building a filter: the reference's Build. -/
import Derived.Test.YtkgggifliafclaaBuild
namespace Go.Proofs.Ytkgggifliafclaa
open Go.RowKit

theorem Try.infoBool : (Try.prog.info? 4).map (fun i => (i.zero, i.size, i.bytes)) = some (some (.bool false), 1, 1) := by kernel_rfl
theorem mk_bools (n : Nat) (hn : n ≤ 281474976710656) (W : World) : (Instr.makeSlice 50 (.int .i64 (n : Int)) (.int .i64 (n : Int))).run Try.prog W = .ok (.slice (some ⟨W.heap.size, 0, none⟩) n n) (W.alloc (.cells (Array.replicate n (.bool false)) 4)) := by
  obtain ⟨i, hi, hz0, hz1, hz2⟩ := info_parts Try.infoBool
  exact run_make_rep 50 4 i _ Try.underlying50 hi hz0 hz1 rfl _ _ n (by rw [hz2]; omega) (by omega) W

theorem own_own_ne' {w : World} {b s n g : Nat} {e t : TypeId} {v : Value} {xs : List Value} {cs : Array Value} (h : w.ownsRow b e s v n xs) (h' : Blk w g t cs) (hne : e ≠ t) : v.ownBlock = none ∨ v.ownBlock ≠ some g := by
  rcases hv : v.ownBlock with _ | k
  · exact .inl rfl
  · exact .inr (hv ▸ own_blk_ne h h' hne)
def sArr (s : Nat → Bool) (m : Nat) : Array Value := ((List.range m).map fun b => Value.bool (s b)).toArray
theorem sArr_get (s : Nat → Bool) (m b : Nat) (h : b < m) : (sArr s m)[b]? = some (.bool (s b)) := by simp [sArr, h]
theorem sArr_zero (keys : List (List UInt8)) (m k n : Nat) : sArr (inS keys m k 0 0) n = Array.replicate n (.bool false) := by
  rw [inS_zero]; unfold sArr; rw [← Array.toList_inj, Array.toList_replicate]; simp [List.map_const']
theorem sArr_put (s : Nat → Bool) (m b : Nat) (h : b < m) : (sArr s m).setIfInBounds b (.bool true) = sArr (putS s b) m := by
  apply Array.ext_getElem?
  intro i
  rw [Array.getElem?_setIfInBounds]
  by_cases hi : i < m
  · rw [sArr_get _ _ _ hi, sArr_get _ _ _ hi]
    by_cases hbi : b = i
    · subst hbi; simp [sArr, h, putS]
    · rw [if_neg hbi]; simp [putS, show ¬ i = b from fun e => hbi e.symm]
  · rw [if_neg (by omega)]; simp [sArr, hi]
def partB (s : Nat → Bool) (i : Nat) : Nat → Nat
  | 0 => 0
  | n + 1 => 2 * partB s i n + b2n (s (i + (7 - n)))
theorem partB_lt (s : Nat → Bool) (i : Nat) : ∀ n, partB s i n < 2 ^ n
  | 0 => by simp [partB]
  | n + 1 => by have := partB_lt s i n; have := b2n_le (s (i + (7 - n))); unfold partB; rw [Nat.pow_succ]; omega
theorem partB_all (s : Nat → Bool) (q : Nat) : partB s (8 * q) 8 = byteN s q := by
  simp only [partB, byteN, Nat.reduceSub, Nat.add_zero]; omega

set_option maxRecDepth 100000 in
set_option maxHeartbeats 2000000 in
theorem rbuild_any (per : Int) (A : Option Addr) (keys : List (List UInt8)) (c : Nat) (w : World) (hb : Bss w A keys) (hn2 : keys.length ≤ 1000000) :
    Calls Try.prog 15 #[.int .i64 per, .slice A keys.length c] w (RetBsE (buildL per keys) (buildE per keys.length) w) := by
  by_cases h1 : per < 1
  · have HE : Hid (buildE per keys.length = 1) := by show _ = _; unfold buildE; rw [if_pos (.inl h1)]
    have HL : Hid (buildL per keys = []) := by show _ = _; unfold buildL; rw [HE.out]; rfl
    rw [HE.out, HL.out]
    go_enter Try.func15, Try.ntmps15
    go_wp2
    go_ret2
    exact RetBsE.nil_ _ _
  by_cases h2 : 100 < per
  · have HE : Hid (buildE per keys.length = 1) := by show _ = _; unfold buildE; rw [if_pos (.inr h2)]
    have HL : Hid (buildL per keys = []) := by show _ = _; unfold buildL; rw [HE.out]; rfl
    rw [HE.out, HL.out]
    go_enter Try.func15, Try.ntmps15
    go_wp2
    go_ret2
    exact RetBsE.nil_ _ _
  obtain ⟨p, rfl⟩ := Int.eq_ofNat_of_zero_le (show 0 ≤ per by omega)
  have hpn : p * keys.length ≤ 100 * keys.length := Nat.mul_le_mul (by omega) (Nat.le_refl _)
  have hpn0 : (0 : Int) ≤ (p : Int) * (keys.length : Int) := by rw [← Int.natCast_mul]; omega
  have hpn1 : (p : Int) * (keys.length : Int) ≤ 100000000 := by rw [← Int.natCast_mul]; omega
  obtain ⟨i0, hi0, hz0, hz1, hz2⟩ := info_parts Try.infoU8
  go_enter Try.func15, Try.ntmps15
  go_upto_if 26 with fail
  go_cut [6] (fun m w' => m = .int .i64 ((max 64 (p * keys.length) : Nat) : Int) ∧ w = w')
  case first =>
    have hm1 : (p : Int) * (keys.length : Int) = ((p * keys.length : Nat) : Int) := (Int.natCast_mul _ _).symm
    generalize hpq : p * keys.length = pq at hm1
    have HQ1 := Lib.hid hm1
    clear hpq hm1
    by_cases q1 : (p : Int) * (keys.length : Int) < 64
    · go_wp2_with fail
      go_meet
      exact ⟨congrArg (Value.int .i64) (by have e2 := HQ1.out; omega), rfl⟩
    · go_wp2_with fail
      go_meet
      exact ⟨congrArg (Value.int .i64) (by have e2 := HQ1.out; omega), rfl⟩
  case rest =>
    obtain ⟨rfl, rfl⟩ := hcut
    obtain ⟨M, hMe⟩ : ∃ M, M = mOf p keys.length := ⟨_, rfl⟩
    have hM := mOf_ge p keys.length
    rw [← hMe] at hM
    obtain ⟨m0, hm0e⟩ : ∃ m0, m0 = max 64 (p * keys.length) := ⟨_, rfl⟩
    have hm0 : M = (m0 + 7) / 8 * 8 := by rw [hm0e, hMe]; rfl
    have hm1 : m0 ≤ 100000064 := by omega
    have hm64 : 64 ≤ m0 := by omega
    rw [← hm0e]
    clear hm0e hpn hpn0 hpn1
    have HM := Lib.hid hMe
    have HM0 := Lib.hid hm0
    have HM8 := Lib.hid hM
    clear hMe hm0 hM
    go_wp2_with fail
    go_loop [6] (fun m => ∃ mm : Nat, m = .int .i64 mm ∧ m0 ≤ mm ∧ mm ≤ M) (fun m => M - (intOf m).toNat)
    case atStart => exact ⟨m0, rfl, Nat.le_refl _, by have := HM0.out; omega⟩
    case round =>
      obtain ⟨mm, rfl, hmm0, hmm1⟩ := hrel
      have hMle : M ≤ 100000071 := by have := HM0.out; omega
      by_cases ht : mm % 8 = 0
      · have hmM : mm = M := by have := HM0.out; omega
        subst hmM
        have ht2 : ((mm : Int) % 8 != 0) = false := by rw [bne_eq_false_iff_eq]; omega
        clear ht
        by_cases hbig : (1048576 : Int) < (mm : Int) / 8 + 1
        · have HE : Hid (buildE (p : Int) keys.length = 2) := by show _ = _; unfold buildE; rw [if_neg (by omega), Int.toNat_natCast, ← HM.out, if_pos (by omega)]
          have HL : Hid (buildL (p : Int) keys = []) := by show _ = _; unfold buildL; rw [HE.out]; rfl
          go_wp2_with fail
          go_ret2
          rw [HE.out, HL.out]
          exact RetBsE.nil_ 2 w
        · have hmk := mk_bools mm (by omega)
          have hmm64 : 64 ≤ mm := by omega
          go_upto_if 40 with fail
          go_cut [7] (fun m w' => m = .int .i64 ((max 1 (p * 69 / 100) : Nat) : Int) ∧ w = w')
          case first =>
            clear hmk
            by_cases q1 : (p : Int) * 69 / 100 < 1
            · go_wp2_with fail
              go_meet
              exact ⟨congrArg (Value.int .i64) (by omega), rfl⟩
            · go_wp2_with fail
              go_meet
              exact ⟨congrArg (Value.int .i64) (by omega), rfl⟩
          case rest =>
            obtain ⟨rfl, rfl⟩ := hcut
            obtain ⟨k1, hk1⟩ : ∃ k1, k1 = max 1 (p * 69 / 100) := ⟨_, rfl⟩
            rw [← hk1]
            have HK1 := Lib.hid hk1
            have hk1b : k1 ≤ 100 := by omega
            clear hk1
            go_upto_if 42 with fail
            go_cut [7] (fun m w' => m = .int .i64 ((kOf p : Nat) : Int) ∧ w = w')
            case first =>
              clear hmk
              by_cases q1 : (30 : Int) < k1
              · go_wp2_with fail
                go_meet
                exact ⟨congrArg (Value.int .i64) (by have := HK1.out; unfold kOf; omega), rfl⟩
              · go_wp2_with fail
                go_meet
                exact ⟨congrArg (Value.int .i64) (by have := HK1.out; unfold kOf; omega), rfl⟩
            case rest =>
              obtain ⟨rfl, rfl⟩ := hcut
              have hk := kOf_le p
              obtain ⟨k, hke⟩ : ∃ k, k = kOf p := ⟨_, rfl⟩
              rw [← hke] at hk ⊢
              have HK := Lib.hid hke
              clear hke
              go_wp2_with fail
              go_loopw [9] (fun i wr => ∃ t : Nat, t ≤ keys.length ∧ i = .int .i64 t ∧ Blk wr w.heap.size 4 (sArr (inS keys mm k t 0) mm) ∧ Below w.heap.size w wr) (fun i _ => keys.length - (intOf i).toNat)
              case atStart => exact ⟨0, Nat.zero_le _, rfl, by rw [sArr_zero]; exact Blk.new _ _ _, (Below.refl _ _).alloc (Nat.le_refl _) _⟩
              case round =>
                obtain ⟨t, ht, rfl, hblk, hbel⟩ := hrel
                obtain ⟨wo, rfl⟩ : ∃ wo : World, wo = wr := ⟨_, rfl⟩
                by_cases hlt : t < keys.length
                · obtain ⟨ad, Ai, ci, rfl, _, hcell, hbs⟩ := (hb.below hbel).at_ hlt
                  go_wp2_with fail
                  go_loopw [10] (fun i wr => ∃ j : Nat, j ≤ k ∧ i = .int .i64 j ∧ Blk wr w.heap.size 4 (sArr (inS keys mm k t j) mm) ∧ Below w.heap.size w wr) (fun i _ => k - (intOf i).toNat)
                  case atStart => exact ⟨0, Nat.zero_le _, rfl, hblk, hbel⟩
                  case round =>
                    obtain ⟨j, hj, rfl, hblk3, hbel3⟩ := hrel
                    obtain ⟨ad', Ai2, ci2, he, _, hcell2, hbs2⟩ := (hb.below hbel3).at_ hlt
                    obtain rfl : ad = ad' := by injection he
                    clear he
                    by_cases hlj : j < k
                    · go_wp2_with fail
                      refine (bit_any _ _ _ _ _ _ hbs2 (by omega) (by omega) (by omega) (by omega)).mono ?_
                      rintro e w2 ⟨rfl, rfl⟩
                      simp only [Int.toNat_natCast]
                      have hpl := place_lt keys[t] (m := mm) (by omega) j
                      generalize hbe : place keys[t] mm j = b at hpl
                      have HB2 := Lib.hid hbe
                      clear hbe
                      have hfc : wr.cell? ⟨w.heap.size, b, none⟩ = some (.bool (inS keys mm k t j b)) := by rw [hblk3.cell, sArr_get _ _ _ hpl]
                      have hfr := hblk3.frozen b
                      have HF := Lib.hid (sArr_put (inS keys mm k t j) mm b hpl)
                      have HI := Lib.hid (inS_succ keys mm k t j hlt)
                      go_wp2_with fail
                      go_roundw
                      case rel =>
                        refine ⟨j + 1, by omega, by go_num, ?_, hbel3.setCell (Nat.le_refl _) _⟩
                        rw [HI.out, HB2.out, ← HF.out]
                        exact hblk3.set_ _ _
                      case measure => simp [intOf]; omega
                    · have HI := Lib.hid (inS_next keys mm k t hlt)
                      obtain rfl : j = k := by omega
                      go_wp2_with fail
                      go_roundw
                      case rel => exact ⟨t + 1, by omega, by go_num, by rw [← HI.out]; exact hblk3, hbel3⟩
                      case measure => simp [intOf]; omega
                · obtain rfl : t = keys.length := by omega
                  rw [inS_all] at hblk
                  obtain ⟨s, hse⟩ : ∃ s, s = placesOf keys mm k := ⟨_, rfl⟩
                  rw [← hse] at hblk
                  have HS := Lib.hid hse
                  clear hse hlt ht
                  go_wp2_with fail
                  go_loopw [11, 12] (fun v i wr => ∃ q : Nat, q ≤ mm / 8 ∧ i = .int .i64 (8 * (q : Int)) ∧ wr.ownsRow w.heap.size 5 1 v q ((bytesOf s q).map bval) ∧ Blk wr w.heap.size 4 (sArr s mm) ∧ Below w.heap.size w wr) (fun _ i _ => mm - (intOf i).toNat)
                  case atStart => exact ⟨0, Nat.zero_le _, rfl, World.ownsRow_nil _ _ _ _, hblk, hbel⟩
                  case round =>
                    obtain ⟨q, hq, rfl, hown, hblk2, hbel2⟩ := hrel
                    have hm8 : mm / 8 * 8 = mm := by have := HM8.out; omega
                    have HM8' := Lib.hid hm8
                    clear hm8
                    by_cases hlq : q < mm / 8
                    · have hq8 : 8 * (q : Int) + 8 ≤ mm := by omega
                      have hq9 : 8 * (q : Int) < mm := by omega
                      go_wp2_with fail
                      go_loop [13, 14] (fun b j => ∃ n : Nat, n ≤ 8 ∧ j = .int .i64 (7 - (n : Int)) ∧ b = .int .i64 ((partB s (8 * q) n : Nat) : Int)) (fun _ j => (intOf j + 1).toNat)
                      case atStart => exact ⟨0, by omega, rfl, rfl⟩
                      case round =>
                        obtain ⟨n, hn, rfl, rfl⟩ := hrel
                        by_cases hn8 : n < 8
                        · have hcl : wr.cell? ⟨w.heap.size, 8 * q + (7 - n), none⟩ = some (.bool (s (8 * q + (7 - n)))) := by rw [hblk2.cell, sArr_get _ _ _ (by omega)]
                          have hpb := partB_lt s (8 * q) n
                          have hp2 : 2 ^ n ≤ 2 ^ 7 := Nat.pow_le_pow_right (by omega) (by omega)
                          have HP : Hid (partB s (8 * q) (n + 1) = 2 * partB s (8 * q) n + b2n (s (8 * q + (7 - n)))) := rfl
                          have hpb2 : partB s (8 * q) n ≤ 128 := by omega
                          clear hpb hp2
                          generalize partB s (8 * q) n = P at hpb2 HP
                          have hix : 8 * (q : Int) + (7 - (n : Int)) < mm := by omega
                          have hi0 : 0 ≤ 8 * (q : Int) + (7 - (n : Int)) := by omega
                          have hMi : (mm : Int) ≤ 100000071 := by omega
                          clear hMle hm1 hn2 hmm1 hbig
                          generalize s (8 * q + (7 - n)) = sb at hcl HP
                          cases sb
                          · go_wp2_with fail
                            go_round
                            case rel => exact ⟨n + 1, by omega, congrArg (Value.int .i64) (by omega), congrArg (Value.int .i64) (by rw [HP.out]; simp [b2n])⟩
                            case measure => simp only [intOf]; omega
                          · go_wp2_with fail
                            go_round
                            case rel => exact ⟨n + 1, by omega, congrArg (Value.int .i64) (by omega), congrArg (Value.int .i64) (by rw [HP.out]; simp [b2n])⟩
                            case measure => simp only [intOf]; omega
                        · obtain rfl : n = 8 := by omega
                          have hbl := byteN_lt s q
                          have HPA := Lib.hid (partB_all s q)
                          generalize partB s (8 * q) 8 = P at HPA
                          have hPl : P < 256 := by have := HPA.out; omega
                          have HTN := Lib.hid (toNat_byteN s q)
                          have hrd := Reads.new1 wr (.int .u8 (P : Int)) 5
                          have hMi : (mm : Int) ≤ 100000071 := by omega
                          have hq1 : (q : Int) + 1 ≤ 100000071 := by omega
                          have hsz := hbel2.size
                          have hqn : q + 1 ≤ 100000071 := by omega
                          have HQN := Lib.hid hqn
                          clear hMle hm1 hn2 hmm1 hbig hbl hqn
                          go_wp2_with (at_builtin; (refine wpList_append_any _ rfl (.tmp 84) (.tmp 87) _ rfl w.heap.size 5 i0 _ 1 1 Try.underlying23 hi0 hz0 hz1 hz2 rfl (by omega) _ q _ rfl (hown.alloc _) _ _ 1 1 [.int .u8 (P : Int)] rfl hrd (by simp [Value.oneCell']) (by have := HQN.out; simp only [maxLen]; omega) (by have := HQN.out; omega) (by simp; omega) ?_); intro v2 w2 hown2 hg2 hat2)
                          have hbel3 : Below w.heap.size w w2 := (hbel2.alloc hsz _).grown hg2 (by simp; omega) (fun g hg => (hown.lt g hg).1)
                          have hne : some w.heap.size ≠ u11.ownBlock := by
                            rcases own_own_ne' hown hblk2 (by decide) with h | h
                            · rw [h]; simp
                            · exact fun e => h e.symm
                          go_roundw
                          case rel =>
                            refine ⟨q + 1, by omega, congrArg (Value.int .i64) (by omega), ?_, (hblk2.alloc _).grown hg2 hne, hbel3⟩
                            have e : (bytesOf s (q + 1)).map bval = (bytesOf s q).map bval ++ [.int .u8 (P : Int)] := by
                              unfold bytesOf
                              rw [List.range_succ, List.map_append, List.map_append]
                              simp only [List.map_cons, List.map_nil, bval, HTN.out, HPA.out]
                            rw [e]; exact hown2
                          case measure => simp [intOf]; omega
                    · obtain rfl : q = mm / 8 := by omega
                      have hge9 : ¬ (8 * ((mm / 8 : Nat) : Int) < (mm : Int)) := by have := HM8'.out; omega
                      have hrd := Reads.new1 wr (.int .u8 (k : Int)) 5
                      have hsz := hbel2.size
                      have hqn : mm / 8 + 1 ≤ 100000071 := by omega
                      have HQN := Lib.hid hqn
                      have hE : buildE (p : Int) keys.length = 0 := by unfold buildE; rw [if_neg (by omega), Int.toNat_natCast, ← HM.out, if_neg (by omega)]
                      have hL : buildL (p : Int) keys = bytesOf s (mm / 8) ++ [UInt8.ofNat k] := by unfold buildL filt; rw [if_pos hE, Int.toNat_natCast, ← HM.out, ← HK.out, HS.out]
                      have hlen : (buildL (p : Int) keys).length = mm / 8 + 1 := by rw [hL]; simp [length_bytesOf]
                      have HE := Lib.hid hE
                      have HL := Lib.hid hL
                      have HLen := Lib.hid hlen
                      clear hMle hm1 hn2 hmm1 hbig hqn hE hL hlen
                      go_wp2_with (at_builtin; (refine wpList_append_any _ rfl (.tmp 89) (.tmp 92) _ rfl w.heap.size 5 i0 _ 1 1 Try.underlying23 hi0 hz0 hz1 hz2 rfl (by omega) u11 (mm / 8) _ rfl (hown.alloc _) _ _ 1 1 [.int .u8 (k : Int)] rfl hrd (by simp [Value.oneCell']) (by have := HQN.out; simp only [maxLen]; omega) (by have := HQN.out; omega) (by simp; omega) ?_); intro v2 w2 hown2 hg2 hat2)
                      have hbel3 : Below w.heap.size w w2 := (hbel2.alloc hsz _).grown hg2 (by simp; omega) (fun g hg => (hown.lt g hg).1)
                      obtain ⟨A1, c1, hv⟩ := own_shape hown2
                      rw [hv] at hown2
                      go_ret2
                      refine ⟨A1, c1, ?_, ?_, hbel3⟩
                      · rw [HLen.out, ← hv, HE.out]; rfl
                      · rw [HLen.out, HL.out, List.map_append]
                        simpa [bval, show (UInt8.ofNat k).toNat = k from by rw [UInt8.toNat_ofNat']; exact Nat.mod_eq_of_lt (by omega)] using hown2
      · have ht2 : ((mm : Int) % 8 != 0) = true := by rw [bne_iff_ne]; omega
        go_wp2_with fail
        go_round
        case rel => exact ⟨mm + 1, by go_num, by omega, by have := HM0.out; omega⟩
        case measure => simp [intOf]; have := HM0.out; omega

end Go.Proofs.Ytkgggifliafclaa
