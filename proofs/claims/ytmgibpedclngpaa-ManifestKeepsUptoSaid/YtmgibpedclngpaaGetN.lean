/- Numbers out of bytes and the parts of a frame, both sides: codec.GetU, codec.Parts, caissonref01.GetU, Parts. -/
import Derived.Test.YtmgibpedclngpaaPutN
import Derived.Test.YtmgibpedclngpaaBClonN
import Derived.Test.YtmgibpedclngpaaCopy
import Derived.BigQuiet
namespace Go.Proofs.Ytmgibpedclngpaa
open Go.RowKit

/-- a number in groups of seven bits: what it is, how wide, and the error -/
def getF : List UInt8 → Nat → Nat → Nat × Nat × Int
  | [], _, _ => (0, 0, 5)
  | x :: l, i, n =>
    if (i = 9 ∧ 1 < x.toNat) ∨ (x.toNat = 0 ∧ 0 < i) then (0, 0, 3)
    else if x.toNat < 128 then (n + x.toNat % 128 * 128 ^ i, i + 1, 0) else getF l (i + 1) (n + x.toNat % 128 * 128 ^ i)
theorem or_nat {n y k : Nat} (h : n < 2 ^ k) : n ||| (y * 2 ^ k) = n + y * 2 ^ k := by
  rw [Nat.or_comm, Nat.mul_comm, ← Nat.two_pow_add_eq_or_of_lt h, Nat.add_comm]
theorem or_u64 {n y k P : Nat} (hP : P = 2 ^ k) (h : n < P) (h2 : n + y * P < 18446744073709551616) : bits .or .u64 (n : Int) ((y : Int) * (P : Int)) = ((n + y * P : Nat) : Int) := by
  have e : (y : Int) * (P : Int) = ((y * P : Nat) : Int) := by rw [Int.natCast_mul]
  have ho : n ||| (y * P) = n + y * P := by
    rw [hP] at h ⊢
    exact or_nat h
  rw [e]
  generalize y * P = q at *
  show IntKind.u64.wrap ((BitVec.ofInt 64 (n : Int) ||| BitVec.ofInt 64 (q : Int)).toNat : Int) = _
  rw [BitVec.toNat_or]
  have e1 : ∀ m : Nat, m < 18446744073709551616 → (BitVec.ofInt 64 (m : Int)).toNat = m := fun m hm => by
    rw [BitVec.toNat_ofInt]; omega
  rw [e1 n (by omega), e1 q (by omega), ho]
  simp only [IntKind.wrap]
  split <;> simp_all [IntKind.bits, IntKind.signed] <;> omega
set_option maxRecDepth 100000 in
theorem andNot_nat : ∀ a : Nat, a < 256 → a &&& 127 = a % 128 := by decide
theorem andNot_u64 {x : Nat} (h : x < 256) : bits .andNot .u64 (x : Int) 128 = ((x % 128 : Nat) : Int) := by
  show IntKind.u64.wrap ((BitVec.ofInt 64 (x : Int) &&& ~~~(BitVec.ofInt 64 128)).toNat : Int) = _
  have e1 : (BitVec.ofInt 64 (x : Int)).toNat = x := by rw [BitVec.toNat_ofInt]; omega
  have e2 : BitVec.ofInt 64 (x : Int) &&& ~~~(BitVec.ofInt 64 128) = BitVec.ofInt 64 (x : Int) &&& 127 := by
    apply BitVec.eq_of_toNat_eq
    rw [BitVec.toNat_and, BitVec.toNat_and, e1]
    have h3 : (~~~(BitVec.ofInt 64 128)).toNat = 18446744073709551487 := by decide
    have h4 : (127 : BitVec 64).toNat = 127 := by decide
    rw [h3, h4]
    have h5 : ∀ a : Nat, a < 256 → a &&& 18446744073709551487 = a &&& 127 := by
      intro a ha
      apply Nat.eq_of_testBit_eq
      intro i
      rw [Nat.testBit_and, Nat.testBit_and]
      by_cases hi : i < 8
      · have : i = 0 ∨ i = 1 ∨ i = 2 ∨ i = 3 ∨ i = 4 ∨ i = 5 ∨ i = 6 ∨ i = 7 := by omega
        rcases this with rfl | rfl | rfl | rfl | rfl | rfl | rfl | rfl <;> rfl
      · have : a.testBit i = false := Nat.testBit_lt_two_pow (Nat.lt_of_lt_of_le ha (by
          have : 2 ^ 8 ≤ 2 ^ i := Nat.pow_le_pow_right (by decide) (by omega)
          omega))
        rw [this]; rfl
    exact h5 x h
  rw [e2, BitVec.toNat_and, e1, show (127 : BitVec 64).toNat = 127 from by decide, andNot_nat x h]
  simp only [IntKind.wrap]
  split <;> simp_all [IntKind.bits, IntKind.signed] <;> omega
theorem inside_any (A : Option Addr) (n c : Nat) (at_ : Nat) (h : at_ ≤ n) (w : World) : Calls Try.prog 74 #[.slice A n c, .int .i64 (at_ : Int)] w fun e w' => e = .returned (.bool true) ∧ w' = w := by
  have h1 : (0 : Int) ≤ (at_ : Int) := by omega
  have h2 : (at_ : Int) ≤ (n : Int) := by omega
  go_enter Try.func74, Try.ntmps74
  go_wp2_with fail
  go_ret
  exact ⟨rfl, rfl⟩

theorem or_step {n x i : Nat} (hn : n < 128 ^ i) (hi : i ≤ 9) (h9 : i = 9 → x ≤ 1) : bits .or .u64 (n : Int) (IntKind.u64.wrap ((x : Int) % 128 * 2 ^ (7 * i))) = ((n + x % 128 * 128 ^ i : Nat) : Int) ∧ (i ≤ 8 → n + x % 128 * 128 ^ i < 128 ^ (i + 1)) := by
  have hp : 128 ^ i = 2 ^ (7 * i) := by rw [Nat.pow_mul]
  have hc : (x : Int) % 128 * 2 ^ (7 * i) = ((x % 128 : Nat) : Int) * ((128 ^ i : Nat) : Int) := by
    rw [hp, Int.natCast_emod, Int.natCast_pow]; rfl
  have hs : 128 ^ (i + 1) = 128 ^ i * 128 := Nat.pow_succ ..
  have hy : x % 128 ≤ 127 := by omega
  have hyP : x % 128 * 128 ^ i ≤ 127 * 128 ^ i := Nat.mul_le_mul_right _ hy
  have hlt : n + x % 128 * 128 ^ i < 18446744073709551616 := by
    by_cases h : i = 9
    · have h1 := h9 h
      subst h
      have h2 : x % 128 * 128 ^ 9 ≤ 1 * 128 ^ 9 := Nat.mul_le_mul_right _ (by omega)
      have h3 : (128 : Nat) ^ 9 = 9223372036854775808 := by decide
      rw [h3] at hn h2 ⊢
      omega
    · have h2 : 128 ^ i ≤ 128 ^ 8 := Nat.pow_le_pow_right (by decide) (by omega)
      have h3 : (128 : Nat) ^ 8 = 72057594037927936 := by decide
      omega
  refine ⟨?_, fun _ => by omega⟩
  have hw : IntKind.u64.wrap ((x : Int) % 128 * 2 ^ (7 * i)) = ((x % 128 : Nat) : Int) * ((128 ^ i : Nat) : Int) := by
    rw [hc, ← Int.natCast_mul]
    have : x % 128 * 128 ^ i < 18446744073709551616 := by omega
    generalize x % 128 * 128 ^ i = q at *
    simp only [IntKind.wrap]
    split <;> simp_all [IntKind.bits, IntKind.signed] <;> omega
  rw [hw]
  exact or_u64 hp hn hlt

/-- a number, the place behind it and the error are answered -/
def RetU (at_ : Nat) (r : Nat × Nat × Int) (w : World) (en : Ending) (w' : World) : Prop :=
  en = .returned (.tuple #[.int .u64 (r.1 : Int), .int .i64 (if r.2.2 = 0 then ((at_ + r.2.1 : Nat) : Int) else 0), .int .i64 r.2.2]) ∧ w' = w
set_option maxRecDepth 100000 in
set_option maxHeartbeats 4000000 in
theorem getu_any (A : Option Addr) (l : List UInt8) (c at_ : Nat) (w : World) (hb : Bs w A l) (hat : at_ ≤ l.length) : Calls Try.prog 65 #[.slice A l.length c, .int .i64 (at_ : Int)] w (RetU at_ (getF (l.drop at_) 0 0) w) := by
  have hl := hb.le
  go_enter Try.func65, Try.ntmps65
  go_wp2_with (go_at_call 74; refine (inside_any A l.length c at_ hat w).mono ?_; rintro en wv ⟨rfl, rfl⟩)
  go_loopw [7, 8, 9] (fun m j _ wr => wr = wv ∧ ∃ (i n : Nat), i ≤ 9 ∧ at_ + i ≤ l.length ∧ n < 128 ^ i ∧ j = .int .i64 (i : Int) ∧ m = .int .u64 (n : Int) ∧ getF (l.drop (at_ + i)) i n = getF (l.drop at_) 0 0) (fun _ j _ _ => 10 - (intOf j).toNat)
  case atStart => exact ⟨rfl, 0, 0, by omega, by omega, by decide, rfl, rfl, rfl⟩
  case round =>
    obtain ⟨rfl, i, n, hi, hai, hn, rfl, rfl, hg⟩ := hrel
    have HG := Lib.hid hg
    clear hg
    by_cases hlt : at_ + i < l.length
    · obtain ⟨ad, rfl, hadb, hc⟩ := hb.at_ hlt
      have HD : Hid (getF (l.drop (at_ + i)) i n = if (i = 9 ∧ 1 < (l[at_ + i]).toNat) ∨ ((l[at_ + i]).toNat = 0 ∧ 0 < i) then (0, 0, 3) else if (l[at_ + i]).toNat < 128 then (n + (l[at_ + i]).toNat % 128 * 128 ^ i, i + 1, 0) else getF (l.drop (at_ + (i + 1))) (i + 1) (n + (l[at_ + i]).toNat % 128 * 128 ^ i)) := by
        show _ = _
        rw [List.drop_eq_getElem_cons hlt]
        rfl
      have hx8 : (l[at_ + i]).toNat < 256 := (l[at_ + i]).toNat_lt
      generalize (l[at_ + i]).toNat = x at *
      have hz : (at_ : Int) + (i : Int) < (l.length : Int) := by omega
      rw [show ad.add (at_ + i) = ad.add (at_ + i) from rfl] at hc
      by_cases hbad : (i = 9 ∧ 1 < x) ∨ (x = 0 ∧ 0 < i)
      · have HE : Hid (getF (l.drop at_) 0 0 = (0, 0, 3)) := by show _ = _; rw [← HG.out, HD.out, if_pos hbad]
        rcases hbad with ⟨h9, h1⟩ | ⟨h0, hi0⟩
        · have d1_ : (1 : Int) < (x : Int) := by omega
          have d0_ : ((i : Int) == 9) = true := by rw [beq_iff_eq]; omega
          clear h9 h1
          go_wp2_with fail
          go_ret3
          rw [HE.out]
          exact ⟨rfl, rfl⟩
        · have d2_ : (0 : Int) < (i : Int) := by omega
          have d3_ : ((x : Int) == 0) = true := by rw [beq_iff_eq]; omega
          have d5_ : ¬ (1 : Int) < (x : Int) := by omega
          clear h0
          by_cases h9 : i = 9
          · have d1_ : ((i : Int) == 9) = true := by rw [beq_iff_eq]; omega
            clear h9
            go_wp2_with fail
            go_ret3
            rw [HE.out]
            exact ⟨rfl, rfl⟩
          · have d1_ : ((i : Int) == 9) = false := by rw [beq_eq_false_iff_ne]; omega
            clear h9
            go_wp2_with fail
            go_ret3
            rw [HE.out]
            exact ⟨rfl, rfl⟩
      · have hA := andNot_u64 hx8
        have hxi : ∀ h : i = 9, x ≤ 1 := fun h => by
          apply Classical.byContradiction
          intro h2
          exact hbad (.inl ⟨h, by omega⟩)
        obtain ⟨hO, hm⟩ := or_step (x := x) hn hi hxi
        have HM := Lib.hid hm
        clear hm
        generalize hmm : n + x % 128 * 128 ^ i = m at *
        have HMM := Lib.hid hmm
        clear hmm
        by_cases hs : x < 128
        · have HE : Hid (getF (l.drop at_) 0 0 = (m, i + 1, 0)) := by show _ = _; rw [← HG.out, HD.out, if_neg hbad, if_pos hs]
          have d0_ : (x : Int) < 128 := by omega
          by_cases h9 : i = 9
          · have d1_ : ((i : Int) == 9) = true := by rw [beq_iff_eq]; omega
            have d2_ : ¬ (1 : Int) < (x : Int) := by have := hxi h9; omega
            by_cases h0 : x = 0
            · exact absurd (.inr ⟨h0, by omega⟩) hbad
            · have d3_ : ((x : Int) == 0) = false := by rw [beq_eq_false_iff_ne]; omega
              clear hbad hs h0 h9
              go_wp2_with fail
              go_ret3
              rw [HE.out]
              exact ⟨by show _ = Ending.returned (.tuple #[.int .u64 (m : Int), .int .i64 ((at_ + (i + 1) : Nat) : Int), .int .i64 0]); congr 4; first | rfl | (go_num) | skip, rfl⟩
          · have d1_ : ((i : Int) == 9) = false := by rw [beq_eq_false_iff_ne]; omega
            by_cases h0 : x = 0
            · have d3_ : ((x : Int) == 0) = true := by rw [beq_iff_eq]; omega
              have hi0 : i = 0 := by
                apply Classical.byContradiction
                intro h2
                exact hbad (.inr ⟨h0, by omega⟩)
              have d4_ : ¬ (0 : Int) < (i : Int) := by omega
              clear hbad hs h0 h9 hi0
              go_wp2_with fail
              go_ret3
              rw [HE.out]
              exact ⟨by show _ = Ending.returned (.tuple #[.int .u64 (m : Int), .int .i64 ((at_ + (i + 1) : Nat) : Int), .int .i64 0]); congr 4; first | rfl | (go_num) | skip, rfl⟩
            · have d3_ : ((x : Int) == 0) = false := by rw [beq_eq_false_iff_ne]; omega
              clear hbad hs h0 h9
              go_wp2_with fail
              go_ret3
              rw [HE.out]
              exact ⟨by show _ = Ending.returned (.tuple #[.int .u64 (m : Int), .int .i64 ((at_ + (i + 1) : Nat) : Int), .int .i64 0]); congr 4; first | rfl | (go_num) | skip, rfl⟩
        · have HE : Hid (getF (l.drop (at_ + (i + 1))) (i + 1) m = getF (l.drop at_) 0 0) := by show _ = _; rw [← HG.out, HD.out, if_neg hbad, if_neg hs]
          have h9 : i ≠ 9 := fun h => by have := hxi h; omega
          have d0_ : ¬ (x : Int) < 128 := by omega
          have d1_ : ((i : Int) == 9) = false := by rw [beq_eq_false_iff_ne]; omega
          have d3_ : ((x : Int) == 0) = false := by rw [beq_eq_false_iff_ne]; omega
          clear hbad hs
          go_wp2_with fail
          go_roundw
          case rel => exact ⟨by first | rfl | trivial, i + 1, m, by omega, by omega, HM.out (by omega), by go_num, rfl, HE.out⟩
          case measure => simp [intOf]; omega
    · have HE : Hid (getF (l.drop at_) 0 0 = (0, 0, 5)) := by show _ = _; rw [← HG.out, List.drop_of_length_le (by omega)]; rfl
      have hz : ¬ (at_ : Int) + (i : Int) < (l.length : Int) := by omega
      go_wp2_with fail
      go_ret3
      rw [HE.out]
      exact ⟨rfl, rfl⟩
theorem mul_step {n x i P : Nat} (hn : n < P) (hP : P = 128 ^ i) (hi : i ≤ 9) (h9 : i = 9 → x ≤ 1) : IntKind.u64.wrap ((P : Int) * ((x : Int) % 128)) = (P : Int) * ((x : Int) % 128) ∧ IntKind.u64.wrap ((n : Int) + (P : Int) * ((x : Int) % 128)) = ((n + P * (x % 128) : Nat) : Int) ∧ (i ≤ 8 → n + P * (x % 128) < P * 128) ∧ (i ≤ 8 → IntKind.u64.wrap ((P : Int) * 128) = ((P * 128 : Nat) : Int)) := by
  have hy : x % 128 ≤ 127 := by omega
  have hyP : P * (x % 128) ≤ P * 127 := Nat.mul_le_mul_left _ hy
  have hP8 : i ≤ 8 → P ≤ 72057594037927936 := fun h => by
    rw [hP]
    exact Nat.le_trans (Nat.pow_le_pow_right (by decide) h) (by decide)
  have hlt : n + P * (x % 128) < 18446744073709551616 := by
    by_cases h : i = 9
    · have h1 := h9 h
      subst h
      have h2 : P * (x % 128) ≤ P * 1 := Nat.mul_le_mul_left _ (by omega)
      have h3 : (128 : Nat) ^ 9 = 9223372036854775808 := by decide
      rw [h3] at hP
      omega
    · have := hP8 (by omega)
      omega
  have hw : ∀ q : Nat, q < 18446744073709551616 → IntKind.u64.wrap (q : Int) = (q : Int) := fun q hq => by
    simp only [IntKind.wrap]
    split <;> simp_all [IntKind.bits, IntKind.signed] <;> omega
  refine ⟨?_, ?_, fun _ => by omega, fun h => ?_⟩
  · have e : (P : Int) * ((x : Int) % 128) = ((P * (x % 128) : Nat) : Int) := by rw [Int.natCast_mul, Int.natCast_emod]; rfl
    rw [e]
    exact hw _ (by omega)
  · have e : (n : Int) + (P : Int) * ((x : Int) % 128) = ((n + P * (x % 128) : Nat) : Int) := by rw [Int.natCast_add, Int.natCast_mul, Int.natCast_emod]; rfl
    rw [e]
    exact hw _ hlt
  · have e : (P : Int) * 128 = ((P * 128 : Nat) : Int) := by rw [Int.natCast_mul]; rfl
    rw [e]
    have := hP8 h
    exact hw _ (by omega)
set_option maxRecDepth 100000 in
set_option maxHeartbeats 4000000 in
theorem rgetu_any (A : Option Addr) (l : List UInt8) (c at_ : Nat) (w : World) (hb : Bs w A l) (hat : at_ ≤ l.length) : Calls Try.prog 67 #[.slice A l.length c, .int .i64 (at_ : Int)] w (RetU at_ (getF (l.drop at_) 0 0) w) := by
  have hl := hb.le
  have ha0 : ¬ (at_ : Int) < 0 := by omega
  have ha1 : ¬ (l.length : Int) < (at_ : Int) := by omega
  go_enter Try.func67, Try.ntmps67
  go_wp2_with fail
  go_loopw [7, 8, 9, 10] (fun m v j _ wr => wr = w ∧ ∃ (q i n P : Nat), q = at_ + i ∧ i ≤ 9 ∧ q ≤ l.length ∧ n < P ∧ P = 128 ^ i ∧ j = .int .i64 (q : Int) ∧ m = .int .u64 (n : Int) ∧ v = .int .u64 (P : Int) ∧ getF (l.drop q) i n = getF (l.drop at_) 0 0) (fun _ _ j _ _ => l.length + 1 - (intOf j).toNat)
  case atStart => exact ⟨rfl, at_, 0, 0, 1, rfl, by omega, hat, by decide, rfl, rfl, rfl, rfl, rfl⟩
  case round =>
    obtain ⟨rfl, q, i, n, P, hq, hi, hql, hn, hP, rfl, rfl, rfl, hg⟩ := hrel
    have HG := Lib.hid hg
    have HQ := Lib.hid hq
    have HP := Lib.hid hP
    have hki : (q : Int) - (at_ : Int) = (i : Int) := by omega
    clear hg hP hq
    by_cases hlt : q < l.length
    · obtain ⟨ad, rfl, hadb, hc⟩ := hb.at_ hlt
      have HD : Hid (getF (l.drop q) i n = if (i = 9 ∧ 1 < (l[q]).toNat) ∨ ((l[q]).toNat = 0 ∧ 0 < i) then (0, 0, 3) else if (l[q]).toNat < 128 then (n + (l[q]).toNat % 128 * 128 ^ i, i + 1, 0) else getF (l.drop (q + 1)) (i + 1) (n + (l[q]).toNat % 128 * 128 ^ i)) := by
        show _ = _
        rw [List.drop_eq_getElem_cons hlt]
        rfl
      have hx8 : (l[q]).toNat < 256 := (l[q]).toNat_lt
      generalize (l[q]).toNat = x at *
      have hz : (q : Int) < (l.length : Int) := by omega
      by_cases hbad : (i = 9 ∧ 1 < x) ∨ (x = 0 ∧ 0 < i)
      · have HE : Hid (getF (l.drop at_) 0 0 = (0, 0, 3)) := by show _ = _; rw [← HG.out, HD.out, if_pos hbad]
        rcases hbad with ⟨h9, h1⟩ | ⟨h0, hi0⟩
        · have d1_ : (1 : Int) < (x : Int) := by omega
          have d0_ : ((i : Int) == 9) = true := by rw [beq_iff_eq]; omega
          clear h9 h1
          go_wp2_with fail
          go_ret3
          rw [HE.out]
          exact ⟨rfl, rfl⟩
        · have d2_ : (0 : Int) < (i : Int) := by omega
          have d3_ : ((x : Int) == 0) = true := by rw [beq_iff_eq]; omega
          have d5_ : ¬ (1 : Int) < (x : Int) := by omega
          clear h0
          by_cases h9 : i = 9
          · have d1_ : ((i : Int) == 9) = true := by rw [beq_iff_eq]; omega
            clear h9
            go_wp2_with fail
            go_ret3
            rw [HE.out]
            exact ⟨rfl, rfl⟩
          · have d1_ : ((i : Int) == 9) = false := by rw [beq_eq_false_iff_ne]; omega
            clear h9
            go_wp2_with fail
            go_ret3
            rw [HE.out]
            exact ⟨rfl, rfl⟩
      · have hxi : ∀ h : i = 9, x ≤ 1 := fun h => by
          apply Classical.byContradiction
          intro h2
          exact hbad (.inl ⟨h, by omega⟩)
        obtain ⟨hM1, hM2, hm, hP2⟩ := mul_step (x := x) hn HP.out hi hxi
        have HM := Lib.hid hm
        have HP2 := Lib.hid hP2
        clear hm hP2
        have hmm0 : n + x % 128 * 128 ^ i = n + P * (x % 128) := by rw [HP.out, Nat.mul_comm]
        rw [hmm0] at HD
        clear hmm0
        generalize hmm : n + P * (x % 128) = m at *
        have HMM := Lib.hid hmm
        clear hmm
        by_cases hs : x < 128
        · have HE : Hid (getF (l.drop at_) 0 0 = (m, i + 1, 0)) := by show _ = _; rw [← HG.out, HD.out, if_neg hbad, if_pos hs]
          have d0_ : (x : Int) < 128 := by omega
          by_cases h9 : i = 9
          · have d1_ : ((i : Int) == 9) = true := by rw [beq_iff_eq]; omega
            have d2_ : ¬ (1 : Int) < (x : Int) := by have := hxi h9; omega
            by_cases h0 : x = 0
            · exact absurd (.inr ⟨h0, by omega⟩) hbad
            · have d3_ : ((x : Int) == 0) = false := by rw [beq_eq_false_iff_ne]; omega
              have d4_ : (0 : Int) < (i : Int) := by omega
              clear hbad hs h0 h9
              go_wp2_with fail
              go_ret3
              rw [HE.out]
              exact ⟨by show _ = Ending.returned (.tuple #[.int .u64 (m : Int), .int .i64 ((at_ + (i + 1) : Nat) : Int), .int .i64 0]); rw [show ((at_ + (i + 1) : Nat) : Int) = (q : Int) + 1 from by have := HQ.out; omega]; rfl, rfl⟩
          · have d1_ : ((i : Int) == 9) = false := by rw [beq_eq_false_iff_ne]; omega
            by_cases h0 : x = 0
            · have d3_ : ((x : Int) == 0) = true := by rw [beq_iff_eq]; omega
              have hi0 : i = 0 := by
                apply Classical.byContradiction
                intro h2
                exact hbad (.inr ⟨h0, by omega⟩)
              have d4_ : ¬ (0 : Int) < (i : Int) := by omega
              clear hi0
              clear hbad hs h0 h9
              go_wp2_with fail
              go_ret3
              rw [HE.out]
              exact ⟨by show _ = Ending.returned (.tuple #[.int .u64 (m : Int), .int .i64 ((at_ + (i + 1) : Nat) : Int), .int .i64 0]); rw [show ((at_ + (i + 1) : Nat) : Int) = (q : Int) + 1 from by have := HQ.out; omega]; rfl, rfl⟩
            · have d3_ : ((x : Int) == 0) = false := by rw [beq_eq_false_iff_ne]; omega
              by_cases hi0 : 0 < i
              · have d4_ : (0 : Int) < (i : Int) := by omega
                clear hbad hs h0 h9
                go_wp2_with fail
                go_ret3
                rw [HE.out]
                exact ⟨by show _ = Ending.returned (.tuple #[.int .u64 (m : Int), .int .i64 ((at_ + (i + 1) : Nat) : Int), .int .i64 0]); rw [show ((at_ + (i + 1) : Nat) : Int) = (q : Int) + 1 from by have := HQ.out; omega]; rfl, rfl⟩
              · have d4_ : ¬ (0 : Int) < (i : Int) := by omega
                clear hbad hs h0 h9
                go_wp2_with fail
                go_ret3
                rw [HE.out]
                exact ⟨by show _ = Ending.returned (.tuple #[.int .u64 (m : Int), .int .i64 ((at_ + (i + 1) : Nat) : Int), .int .i64 0]); rw [show ((at_ + (i + 1) : Nat) : Int) = (q : Int) + 1 from by have := HQ.out; omega]; rfl, rfl⟩
        · have HE : Hid (getF (l.drop (q + 1)) (i + 1) m = getF (l.drop at_) 0 0) := by show _ = _; rw [← HG.out, HD.out, if_neg hbad, if_neg hs]
          have h9 : i ≠ 9 := fun h => by have := hxi h; omega
          have d0_ : ¬ (x : Int) < 128 := by omega
          have d1_ : ((i : Int) == 9) = false := by rw [beq_eq_false_iff_ne]; omega
          have d3_ : ((x : Int) == 0) = false := by rw [beq_eq_false_iff_ne]; omega
          have hi8 : i ≤ 8 := by omega
          have HQ2 := HQ.out
          clear hbad hs h9 HQ2
          by_cases hi0 : 0 < i
          · have d4_ : (0 : Int) < (i : Int) := by omega
            go_wp2_with fail
            go_roundw
            case rel => exact ⟨by first | rfl | trivial, q + 1, i + 1, m, P * 128, by rw [HQ.out]; omega, by omega, by omega, HM.out hi8, by rw [HP.out]; exact (Nat.pow_succ ..).symm, by go_num, rfl, by rw [HP2.out hi8], HE.out⟩
            case measure => simp [intOf]; omega
          · have d4_ : ¬ (0 : Int) < (i : Int) := by omega
            go_wp2_with fail
            go_roundw
            case rel => exact ⟨by first | rfl | trivial, q + 1, i + 1, m, P * 128, by rw [HQ.out]; omega, by omega, by omega, HM.out hi8, by rw [HP.out]; exact (Nat.pow_succ ..).symm, by go_num, rfl, by rw [HP2.out hi8], HE.out⟩
            case measure => simp [intOf]; omega
    · have HE : Hid (getF (l.drop at_) 0 0 = (0, 0, 5)) := by show _ = _; rw [← HG.out, List.drop_of_length_le (by omega)]; rfl
      have hz : ¬ (q : Int) < (l.length : Int) := by omega
      go_wp2_with fail
      go_ret3
      rw [HE.out]
      exact ⟨rfl, rfl⟩
end Go.Proofs.Ytmgibpedclngpaa

namespace Go.Proofs.Ytmgibpedclngpaa
open Go.RowKit

theorem getF_ok : ∀ {l : List UInt8} {i n m k : Nat}, getF l i n = (m, k, 0) → i < k ∧ k ≤ i + l.length
  | [], i, n, m, k, h => by
    have h2 : ((0, 0, 5) : Nat × Nat × Int) = (m, k, 0) := h
    injection h2 with _ h2
    injection h2 with _ h2
    exact absurd h2 (by decide)
  | x :: l, i, n, m, k, h => by
    unfold getF at h
    by_cases h1 : (i = 9 ∧ 1 < x.toNat) ∨ (x.toNat = 0 ∧ 0 < i)
    · rw [if_pos h1] at h
      injection h with _ h
      injection h with _ h
      exact absurd h (by decide)
    rw [if_neg h1] at h
    by_cases h2 : x.toNat < 128
    · rw [if_pos h2] at h
      injection h with _ h
      injection h with h _
      rw [List.length_cons]
      omega
    · rw [if_neg h2] at h
      have := getF_ok h
      rw [List.length_cons]
      omega
/-- the parts of a frame, and the error -/
def partsA : Nat → List UInt8 → List (List UInt8) → List (List UInt8) × Int
  | 0, _, acc => (acc, 0)
  | f + 1, l, acc =>
    if l.length = 0 then (acc, 0) else
    if (getF l 0 0).2.2 ≠ 0 then ([], (getF l 0 0).2.2) else if l.length - (getF l 0 0).2.1 < (getF l 0 0).1 then ([], 5)
    else partsA f (l.drop ((getF l 0 0).2.1 + (getF l 0 0).1)) (acc ++ [(l.drop (getF l 0 0).2.1).take (getF l 0 0).1])
def partsL (l : List UInt8) : List (List UInt8) × Int := partsA l.length l []
theorem partsA_end (f : Nat) (acc : List (List UInt8)) : partsA f [] acc = (acc, 0) := by
  cases f <;> rfl
theorem Bs.cut {w : World} {A : Option Addr} {l : List UInt8} (h : Bs w A l) {k cap : Nat} (hk : k ≤ l.length) (hc : l.length ≤ cap) : Bs w (if cap = k then A else A.map (·.add k)) (l.drop k) := by
  have h1 := Reads.cut h.1 hk hc
  rw [Nat.mul_one, ← List.map_drop] at h1
  refine ⟨?_, by rw [List.length_drop]; have := h.2; omega⟩
  rw [List.length_drop]
  exact h1
theorem Bs.take {w : World} {A : Option Addr} {l : List UInt8} (h : Bs w A l) (n : Nat) (hn : n ≤ l.length) : Bs w A (l.take n) := by
  refine ⟨⟨by rw [List.length_map, Nat.mul_one], fun h0 => ?_⟩, by rw [List.length_take]; have := h.2; omega⟩
  rw [List.length_take] at h0
  obtain ⟨ad, e, hb, hc⟩ := h.1.2 (by omega)
  refine ⟨ad, e, hb, fun j u hu => hc j u ?_⟩
  rw [List.map_take, List.getElem?_take] at hu
  split at hu
  · exact hu
  · cases hu
/-- parts of the call's own, and an error -/
def RetParts (r : List (List UInt8) × Int) (w : World) (en : Ending) (w' : World) : Prop :=
  ∃ D d, en = .returned (.tuple #[.slice D r.1.length d, .int .i64 r.2]) ∧ Own BsE 49 w' w.heap.size (fun b => w.heap.size ≤ b ∧ b < w'.heap.size) (.slice D r.1.length d) r.1 ∧ Below w.heap.size w w'

set_option maxRecDepth 100000 in
set_option maxHeartbeats 4000000 in
theorem parts_any (A : Option Addr) (l : List UInt8) (c : Nat) (w : World) (hb : Bs w A l) (hc : l.length ≤ c ∧ c ≤ 9223372036854775807) (hl5 : l.length ≤ 1099511627776) : Calls Try.prog 47 #[.slice A l.length c] w (RetParts (partsL l) w) := by
  obtain ⟨i1, hi1, hy0, hy1, hy2⟩ := info_parts Try.infoBs
  go_enter Try.func47, Try.ntmps47
  go_wp2_with fail
  go_loopw [4, 5, 6, 7, 8] (fun o p _ _ _ wr => ∃ (pos f : Nat) (ps : List (List UInt8)) (B : Option Addr) (d : Nat), pos ≤ l.length ∧ p = .int .i64 (pos : Int) ∧ o = .slice B ps.length d ∧ Own BsE 49 wr w.heap.size (fun b => w.heap.size ≤ b ∧ b < wr.heap.size) (.slice B ps.length d) ps ∧ partsA f (l.drop pos) ps = partsL l ∧ l.length ≤ pos + f ∧ ps.length ≤ pos ∧ Below w.heap.size w wr) (fun _ p _ _ _ _ => l.length - (intOf p).toNat)
  case atStart => exact ⟨0, l.length, [], none, 0, Nat.zero_le _, rfl, rfl, Own.nil_ BsE _ _ _ _, rfl, by omega, Nat.le_refl _, Below.refl _ _⟩
  case round =>
    obtain ⟨pos, f, ps, B, d, hp, rfl, rfl, o, hg, hf, hps, br⟩ := hrel
    have HG := Lib.hid hg
    clear hg
    have zr := br.size
    by_cases hlt : pos < l.length
    · have hlt' : (pos : Int) < (l.length : Int) := by omega
      obtain ⟨f, rfl⟩ : ∃ f', f = f' + 1 := ⟨f - 1, by omega⟩
      have hdl : (l.drop pos).length = l.length - pos := List.length_drop ..
      have T := getu_any A l c pos wr (hb.below br) hp
      obtain ⟨r, hr⟩ : ∃ r, getF (l.drop pos) 0 0 = r := ⟨_, rfl⟩
      have HU : Hid (partsA (f + 1) (l.drop pos) ps = if r.2.2 ≠ 0 then ([], r.2.2) else if (l.drop pos).length - r.2.1 < r.1 then ([], 5) else partsA f ((l.drop pos).drop (r.2.1 + r.1)) (ps ++ [((l.drop pos).drop r.2.1).take r.1])) := by
        show _ = _
        rw [← hr]
        exact if_neg (by rw [hdl]; omega)
      rw [hr] at T
      obtain ⟨n, k, e⟩ := r
      by_cases he : e = 0
      · subst he
        obtain ⟨hk0, hk1⟩ := getF_ok hr
        rw [hdl] at hk1
        have HR := Lib.hid hr
        have HDL := Lib.hid hdl
        clear hr hdl
        have T2 : Calls Try.prog 65 #[.slice A l.length c, .int .i64 (pos : Int)] wr fun en w' => en = .returned (.tuple #[.int .u64 (n : Int), .int .i64 ((pos + k : Nat) : Int), .int .i64 0]) ∧ w' = wr := T
        clear T
        obtain ⟨q, hq⟩ : ∃ q, pos + k = q := ⟨_, rfl⟩
        rw [hq] at T2
        have hq1 : pos < q := by omega
        have hq2 : q ≤ l.length := by omega
        have HQ := Lib.hid hq
        clear hq
        go_wp2_with fail
        refine T2.mono ?_
        rintro en w2 ⟨rfl, rfl⟩
        have hz : ∃ s : Nat, l.length - q = s := ⟨_, rfl⟩
        obtain ⟨s, hs⟩ := hz
        have hcv : IntKind.u64.wrap ((l.length : Int) - (q : Int)) = (s : Int) := by
          rw [show (l.length : Int) - (q : Int) = (s : Int) by omega]
          simp only [IntKind.wrap]
          split <;> simp_all [IntKind.bits, IntKind.signed] <;> omega
        by_cases hbig : s < n
        · have HE : Hid (partsL l = ([], 5)) := by
            show _ = _
            rw [← HG.out, HU.out, if_neg (fun h => h rfl), if_pos (by show (l.drop pos).length - k < n; rw [HDL.out]; have := HQ.out; omega)]
          have d1_ : (s : Int) < (n : Int) := by omega
          go_wp2_with fail
          go_ret2
          rw [HE.out]
          exact ⟨none, 0, rfl, Own.nil_ BsE _ _ _ _, br⟩
        · have d1_ : ¬ (s : Int) < (n : Int) := by omega
          have hnq : q + n ≤ l.length := by omega
          have hpl : ((l.drop q).take n).length = n := by rw [List.length_take, List.length_drop]; omega
          have HN : Hid (partsA f (l.drop (q + n)) (ps ++ [(l.drop q).take n]) = partsL l) := by
            show _ = _
            rw [← HG.out, HU.out, if_neg (fun h => h rfl), if_neg (by show ¬ (l.drop pos).length - k < n; rw [HDL.out]; have := HQ.out; omega), List.drop_drop, List.drop_drop, ← HQ.out, Nat.add_assoc]
          have hwc : (q : Int) + (n : Int) ≤ (c : Int) := by omega
          by_cases hcq : c = q
          · have HCQ := Lib.hid hcq
            subst hcq
            obtain rfl : n = 0 := by omega
            go_wp2_with fail
            have hcut : Bs w2 (A) ((l.drop c).take 0) := by
              have h1 := Bs.cut (hb.below br) hq2 hc.1
              rw [if_pos rfl] at h1
              exact Bs.take h1 0 (by rw [List.length_drop]; omega)
            have T3 := bclone_any (A) ((l.drop c).take 0) (0) w2 hcut
            rw [hpl] at T3
            refine T3.mono ?_
            rintro en w3 ⟨D3, d3, rfl, o3, b3⟩
            have hpl2 : ((l.drop c).take 0).length ≤ 0 := Nat.le_of_eq hpl
            clear hpl
            have o3b : OwnB w2.heap.size w3 D3 ((l.drop c).take 0) d3 := o3
            generalize (l.drop c).take 0 = part at *
            have dZ : Below w3.heap.size w3 (w3.alloc (.cells #[.slice D3 part.length d3] 49)) := (Below.refl _ _).alloc (Nat.le_refl _) _
            have b3w := br.trans (b3.mono zr)
            have bwZ := b3w.trans (dZ.mono b3w.size)
            have zz3 := b3.size
            have oZ := Own.below (Own.mono (Own.below o b3) (S' := fun b => w.heap.size ≤ b ∧ b < w3.heap.size) (fun b hb _ hs => ⟨hs.1, hb⟩)) dZ
            have hat1 : At (fun b => (w.heap.size ≤ b ∧ b < w3.heap.size) ∧ (Value.slice B ps.length d).ownBlock ≠ some b) D3 part.length := fun ad e hn => by
              have h1 := OwnB.at_ o3b ad e hn
              refine ⟨⟨by omega, h1.2⟩, fun e2 => ?_⟩
              have := (Own.lt o _ e2).2
              omega
            have hb1 := (o3b.bs (by omega)).below dZ
            have c1 := o3b.caps
            clear o3 o3b T3 T2
            go_wp2_with (at_builtin; refine wpList_appE BsE w.heap.size w _ rfl (.tmp 34) (.tmp 40) 49 67 rfl i1 _ Try.underlying67 hi1 hy0 hy1 hy2 rfl _ B ps d rfl oZ _ [.slice D3 part.length d3] part 1 rfl _ (Reads.new1 _ _ _) ⟨D3, d3, rfl, hb1, hat1, c1⟩ (by simp only [BsE]; omega) (by simp only [maxLen]; omega) bwZ (Nat.le_refl _) bwZ.size ?_; intro B9 d9 ps9 w9 H9 o9 b9 g9 t9)
            go_roundw
            case rel => exact ⟨c, f, ps9, B9, d9, by omega, by go_num, rfl, Own.mono o9 (fun b hb _ hs => ⟨hs.1, hb⟩), by rw [H9.out]; have := HN.out; rw [Nat.add_zero] at this; exact this, by omega, by rw [H9.out, List.length_append, List.length_singleton]; omega, b9⟩
            case measure => simp [intOf]; omega
          · have hcq2 : ((c : Int) == (q : Int)) = false := by rw [beq_eq_false_iff_ne]; omega
            go_wp2_with fail
            have hcut : Bs w2 (A.map (·.add q)) ((l.drop q).take n) := by
              have h1 := Bs.cut (hb.below br) hq2 hc.1
              rw [if_neg hcq] at h1
              exact Bs.take h1 n (by rw [List.length_drop]; omega)
            have T3 := bclone_any (A.map (·.add q)) ((l.drop q).take n) (c - q) w2 hcut
            rw [hpl] at T3
            refine T3.mono ?_
            rintro en w3 ⟨D3, d3, rfl, o3, b3⟩
            have hpl2 : ((l.drop q).take n).length ≤ n := Nat.le_of_eq hpl
            clear hpl
            have o3b : OwnB w2.heap.size w3 D3 ((l.drop q).take n) d3 := o3
            generalize (l.drop q).take n = part at *
            have dZ : Below w3.heap.size w3 (w3.alloc (.cells #[.slice D3 part.length d3] 49)) := (Below.refl _ _).alloc (Nat.le_refl _) _
            have b3w := br.trans (b3.mono zr)
            have bwZ := b3w.trans (dZ.mono b3w.size)
            have zz3 := b3.size
            have oZ := Own.below (Own.mono (Own.below o b3) (S' := fun b => w.heap.size ≤ b ∧ b < w3.heap.size) (fun b hb _ hs => ⟨hs.1, hb⟩)) dZ
            have hat1 : At (fun b => (w.heap.size ≤ b ∧ b < w3.heap.size) ∧ (Value.slice B ps.length d).ownBlock ≠ some b) D3 part.length := fun ad e hn => by
              have h1 := OwnB.at_ o3b ad e hn
              refine ⟨⟨by omega, h1.2⟩, fun e2 => ?_⟩
              have := (Own.lt o _ e2).2
              omega
            have hb1 := (o3b.bs (by omega)).below dZ
            have c1 := o3b.caps
            clear o3 o3b T3 T2
            go_wp2_with (at_builtin; refine wpList_appE BsE w.heap.size w _ rfl (.tmp 34) (.tmp 40) 49 67 rfl i1 _ Try.underlying67 hi1 hy0 hy1 hy2 rfl _ B ps d rfl oZ _ [.slice D3 part.length d3] part 1 rfl _ (Reads.new1 _ _ _) ⟨D3, d3, rfl, hb1, hat1, c1⟩ (by simp only [BsE]; omega) (by simp only [maxLen]; omega) bwZ (Nat.le_refl _) bwZ.size ?_; intro B9 d9 ps9 w9 H9 o9 b9 g9 t9)
            go_roundw
            case rel => exact ⟨q + n, f, ps9, B9, d9, by omega, by go_num, rfl, Own.mono o9 (fun b hb _ hs => ⟨hs.1, hb⟩), by rw [H9.out]; exact HN.out, by omega, by rw [H9.out, List.length_append, List.length_singleton]; omega, b9⟩
            case measure => simp [intOf]; omega
      · have HE : Hid (partsL l = ([], e)) := by show _ = _; rw [← HG.out, HU.out, if_pos he]
        have d1_ : (e != 0) = true := by rw [bne_iff_ne]; exact he
        have T2 : Calls Try.prog 65 #[.slice A l.length c, .int .i64 (pos : Int)] wr fun en w' => (∃ z, en = .returned (.tuple #[.int .u64 (n : Int), .int .i64 z, .int .i64 e])) ∧ w' = wr := T.mono fun en w' h => ⟨⟨_, h.1⟩, h.2⟩
        clear T he
        go_wp2_with fail
        refine T2.mono ?_
        rintro en w2 ⟨⟨z, rfl⟩, rfl⟩
        go_wp2_with fail
        go_ret2
        rw [HE.out]
        exact ⟨none, 0, rfl, Own.nil_ BsE _ _ _ _, br⟩
    · obtain rfl : pos = l.length := by omega
      have HE : Hid (partsL l = (ps, 0)) := by show _ = _; rw [← HG.out, List.drop_length, partsA_end]
      go_wp2_with fail
      go_ret2
      rw [HE.out]
      exact ⟨B, d, rfl, o, br⟩
end Go.Proofs.Ytmgibpedclngpaa

namespace Go.Proofs.Ytmgibpedclngpaa
open Go.RowKit

set_option maxRecDepth 100000 in
set_option maxHeartbeats 4000000 in
theorem rparts_any (A : Option Addr) (l : List UInt8) (c : Nat) (w : World) (hb : Bs w A l) (hc : l.length ≤ c ∧ c ≤ 9223372036854775807) (hl5 : l.length ≤ 1099511627776) : Calls Try.prog 54 #[.slice A l.length c] w (RetParts (partsL l) w) := by
  obtain ⟨i1, hi1, hy0, hy1, hy2⟩ := info_parts Try.infoBs
  go_enter Try.func54, Try.ntmps54
  go_wp2_with fail
  go_loopw [4, 5, 6, 7, 8] (fun o p _ _ _ wr => ∃ (pos f : Nat) (ps : List (List UInt8)) (B : Option Addr) (d : Nat), pos ≤ l.length ∧ p = .int .i64 (pos : Int) ∧ o = .slice B ps.length d ∧ Own BsE 49 wr w.heap.size (fun b => w.heap.size ≤ b ∧ b < wr.heap.size) (.slice B ps.length d) ps ∧ partsA f (l.drop pos) ps = partsL l ∧ l.length ≤ pos + f ∧ ps.length ≤ pos ∧ Below w.heap.size w wr) (fun _ p _ _ _ _ => l.length - (intOf p).toNat)
  case atStart => exact ⟨0, l.length, [], none, 0, Nat.zero_le _, rfl, rfl, Own.nil_ BsE _ _ _ _, rfl, by omega, Nat.le_refl _, Below.refl _ _⟩
  case round =>
    obtain ⟨pos, f, ps, B, d, hp, rfl, rfl, o, hg, hf, hps, br⟩ := hrel
    have HG := Lib.hid hg
    clear hg
    have zr := br.size
    by_cases hlt : pos < l.length
    · have hlt' : (pos : Int) < (l.length : Int) := by omega
      obtain ⟨f, rfl⟩ : ∃ f', f = f' + 1 := ⟨f - 1, by omega⟩
      have hdl : (l.drop pos).length = l.length - pos := List.length_drop ..
      have T := rgetu_any A l c pos wr (hb.below br) hp
      obtain ⟨r, hr⟩ : ∃ r, getF (l.drop pos) 0 0 = r := ⟨_, rfl⟩
      have HU : Hid (partsA (f + 1) (l.drop pos) ps = if r.2.2 ≠ 0 then ([], r.2.2) else if (l.drop pos).length - r.2.1 < r.1 then ([], 5) else partsA f ((l.drop pos).drop (r.2.1 + r.1)) (ps ++ [((l.drop pos).drop r.2.1).take r.1])) := by
        show _ = _
        rw [← hr]
        exact if_neg (by rw [hdl]; omega)
      rw [hr] at T
      obtain ⟨n, k, e⟩ := r
      by_cases he : e = 0
      · subst he
        obtain ⟨hk0, hk1⟩ := getF_ok hr
        rw [hdl] at hk1
        have HR := Lib.hid hr
        have HDL := Lib.hid hdl
        clear hr hdl
        have T2 : Calls Try.prog 67 #[.slice A l.length c, .int .i64 (pos : Int)] wr fun en w' => en = .returned (.tuple #[.int .u64 (n : Int), .int .i64 ((pos + k : Nat) : Int), .int .i64 0]) ∧ w' = wr := T
        clear T
        obtain ⟨q, hq⟩ : ∃ q, pos + k = q := ⟨_, rfl⟩
        rw [hq] at T2
        have hq1 : pos < q := by omega
        have hq2 : q ≤ l.length := by omega
        have HQ := Lib.hid hq
        clear hq
        go_wp2_with fail
        refine T2.mono ?_
        rintro en w2 ⟨rfl, rfl⟩
        have hz : ∃ s : Nat, l.length - q = s := ⟨_, rfl⟩
        obtain ⟨s, hs⟩ := hz
        have hcv : IntKind.u64.wrap ((l.length : Int) - (q : Int)) = (s : Int) := by
          rw [show (l.length : Int) - (q : Int) = (s : Int) by omega]
          simp only [IntKind.wrap]
          split <;> simp_all [IntKind.bits, IntKind.signed] <;> omega
        by_cases hbig : s < n
        · have HE : Hid (partsL l = ([], 5)) := by
            show _ = _
            rw [← HG.out, HU.out, if_neg (fun h => h rfl), if_pos (by show (l.drop pos).length - k < n; rw [HDL.out]; have := HQ.out; omega)]
          have d1_ : (s : Int) < (n : Int) := by omega
          go_wp2_with fail
          go_ret2
          rw [HE.out]
          exact ⟨none, 0, rfl, Own.nil_ BsE _ _ _ _, br⟩
        · have d1_ : ¬ (s : Int) < (n : Int) := by omega
          have hnq : q + n ≤ l.length := by omega
          have hpl : ((l.drop q).take n).length = n := by rw [List.length_take, List.length_drop]; omega
          have HN : Hid (partsA f (l.drop (q + n)) (ps ++ [(l.drop q).take n]) = partsL l) := by
            show _ = _
            rw [← HG.out, HU.out, if_neg (fun h => h rfl), if_neg (by show ¬ (l.drop pos).length - k < n; rw [HDL.out]; have := HQ.out; omega), List.drop_drop, List.drop_drop, ← HQ.out, Nat.add_assoc]
          have hwc : (q : Int) + (n : Int) ≤ (c : Int) := by omega
          by_cases hcq : c = q
          · have HCQ := Lib.hid hcq
            subst hcq
            obtain rfl : n = 0 := by omega
            go_wp2_with fail
            have hcut : Bs w2 (A) ((l.drop c).take 0) := by
              have h1 := Bs.cut (hb.below br) hq2 hc.1
              rw [if_pos rfl] at h1
              exact Bs.take h1 0 (by rw [List.length_drop]; omega)
            have T3 := copy_any (A) ((l.drop c).take 0) (0) w2 hcut
            rw [hpl] at T3
            refine T3.mono ?_
            rintro en w3 ⟨D3, d3, rfl, o3, b3⟩
            have hpl2 : ((l.drop c).take 0).length ≤ 0 := Nat.le_of_eq hpl
            clear hpl
            have o3b : OwnB w2.heap.size w3 D3 ((l.drop c).take 0) d3 := o3
            generalize (l.drop c).take 0 = part at *
            have dZ : Below w3.heap.size w3 (w3.alloc (.cells #[.slice D3 part.length d3] 49)) := (Below.refl _ _).alloc (Nat.le_refl _) _
            have b3w := br.trans (b3.mono zr)
            have bwZ := b3w.trans (dZ.mono b3w.size)
            have zz3 := b3.size
            have oZ := Own.below (Own.mono (Own.below o b3) (S' := fun b => w.heap.size ≤ b ∧ b < w3.heap.size) (fun b hb _ hs => ⟨hs.1, hb⟩)) dZ
            have hat1 : At (fun b => (w.heap.size ≤ b ∧ b < w3.heap.size) ∧ (Value.slice B ps.length d).ownBlock ≠ some b) D3 part.length := fun ad e hn => by
              have h1 := OwnB.at_ o3b ad e hn
              refine ⟨⟨by omega, h1.2⟩, fun e2 => ?_⟩
              have := (Own.lt o _ e2).2
              omega
            have hb1 := (o3b.bs (by omega)).below dZ
            have c1 := o3b.caps
            clear o3 o3b T3 T2
            go_wp2_with (at_builtin; refine wpList_appE BsE w.heap.size w _ rfl (.tmp 30) (.tmp 39) 49 67 rfl i1 _ Try.underlying67 hi1 hy0 hy1 hy2 rfl _ B ps d rfl oZ _ [.slice D3 part.length d3] part 1 rfl _ (Reads.new1 _ _ _) ⟨D3, d3, rfl, hb1, hat1, c1⟩ (by simp only [BsE]; omega) (by simp only [maxLen]; omega) bwZ (Nat.le_refl _) bwZ.size ?_; intro B9 d9 ps9 w9 H9 o9 b9 g9 t9)
            go_roundw
            case rel => exact ⟨c, f, ps9, B9, d9, by omega, by go_num, rfl, Own.mono o9 (fun b hb _ hs => ⟨hs.1, hb⟩), by rw [H9.out]; have := HN.out; rw [Nat.add_zero] at this; exact this, by omega, by rw [H9.out, List.length_append, List.length_singleton]; omega, b9⟩
            case measure => simp [intOf]; omega
          · have hcq2 : ((c : Int) == (q : Int)) = false := by rw [beq_eq_false_iff_ne]; omega
            go_wp2_with fail
            have hcut : Bs w2 (A.map (·.add q)) ((l.drop q).take n) := by
              have h1 := Bs.cut (hb.below br) hq2 hc.1
              rw [if_neg hcq] at h1
              exact Bs.take h1 n (by rw [List.length_drop]; omega)
            have T3 := copy_any (A.map (·.add q)) ((l.drop q).take n) (c - q) w2 hcut
            rw [hpl] at T3
            refine T3.mono ?_
            rintro en w3 ⟨D3, d3, rfl, o3, b3⟩
            have hpl2 : ((l.drop q).take n).length ≤ n := Nat.le_of_eq hpl
            clear hpl
            have o3b : OwnB w2.heap.size w3 D3 ((l.drop q).take n) d3 := o3
            generalize (l.drop q).take n = part at *
            have dZ : Below w3.heap.size w3 (w3.alloc (.cells #[.slice D3 part.length d3] 49)) := (Below.refl _ _).alloc (Nat.le_refl _) _
            have b3w := br.trans (b3.mono zr)
            have bwZ := b3w.trans (dZ.mono b3w.size)
            have zz3 := b3.size
            have oZ := Own.below (Own.mono (Own.below o b3) (S' := fun b => w.heap.size ≤ b ∧ b < w3.heap.size) (fun b hb _ hs => ⟨hs.1, hb⟩)) dZ
            have hat1 : At (fun b => (w.heap.size ≤ b ∧ b < w3.heap.size) ∧ (Value.slice B ps.length d).ownBlock ≠ some b) D3 part.length := fun ad e hn => by
              have h1 := OwnB.at_ o3b ad e hn
              refine ⟨⟨by omega, h1.2⟩, fun e2 => ?_⟩
              have := (Own.lt o _ e2).2
              omega
            have hb1 := (o3b.bs (by omega)).below dZ
            have c1 := o3b.caps
            clear o3 o3b T3 T2
            go_wp2_with (at_builtin; refine wpList_appE BsE w.heap.size w _ rfl (.tmp 30) (.tmp 39) 49 67 rfl i1 _ Try.underlying67 hi1 hy0 hy1 hy2 rfl _ B ps d rfl oZ _ [.slice D3 part.length d3] part 1 rfl _ (Reads.new1 _ _ _) ⟨D3, d3, rfl, hb1, hat1, c1⟩ (by simp only [BsE]; omega) (by simp only [maxLen]; omega) bwZ (Nat.le_refl _) bwZ.size ?_; intro B9 d9 ps9 w9 H9 o9 b9 g9 t9)
            go_roundw
            case rel => exact ⟨q + n, f, ps9, B9, d9, by omega, by go_num, rfl, Own.mono o9 (fun b hb _ hs => ⟨hs.1, hb⟩), by rw [H9.out]; exact HN.out, by omega, by rw [H9.out, List.length_append, List.length_singleton]; omega, b9⟩
            case measure => simp [intOf]; omega
      · have HE : Hid (partsL l = ([], e)) := by show _ = _; rw [← HG.out, HU.out, if_pos he]
        have d1_ : (e != 0) = true := by rw [bne_iff_ne]; exact he
        have T2 : Calls Try.prog 67 #[.slice A l.length c, .int .i64 (pos : Int)] wr fun en w' => (∃ z, en = .returned (.tuple #[.int .u64 (n : Int), .int .i64 z, .int .i64 e])) ∧ w' = wr := T.mono fun en w' h => ⟨⟨_, h.1⟩, h.2⟩
        clear T he
        go_wp2_with fail
        refine T2.mono ?_
        rintro en w2 ⟨⟨z, rfl⟩, rfl⟩
        go_wp2_with fail
        go_ret2
        rw [HE.out]
        exact ⟨none, 0, rfl, Own.nil_ BsE _ _ _ _, br⟩
    · obtain rfl : pos = l.length := by omega
      have HE : Hid (partsL l = (ps, 0)) := by show _ = _; rw [← HG.out, List.drop_length, partsA_end]
      go_wp2_with fail
      go_ret2
      rw [HE.out]
      exact ⟨B, d, rfl, o, br⟩
end Go.Proofs.Ytmgibpedclngpaa

namespace Go.Proofs.Ytmgibpedclngpaa
open Go.RowKit
end Go.Proofs.Ytmgibpedclngpaa

namespace Go.Proofs.Ytmgibpedclngpaa
open Go.RowKit

theorem add_zero_ (a : Addr) : a.add 0 = a := by simp [Addr.add]
end Go.Proofs.Ytmgibpedclngpaa

namespace Go.Proofs.Ytmgibpedclngpaa
open Go.RowKit

theorem partsA_small : ∀ {f : Nat} {l : List UInt8} {acc : List (List UInt8)}, (partsA f l acc).1.length ≤ acc.length + l.length ∧ ∀ p ∈ (partsA f l acc).1, p ∈ acc ∨ p.length ≤ l.length
  | 0, l, acc => ⟨Nat.le_add_right _ _, fun p hp => .inl hp⟩
  | f + 1, l, acc => by
    unfold partsA
    by_cases h0 : l.length = 0
    · rw [if_pos h0]; exact ⟨Nat.le_add_right _ _, fun p hp => .inl hp⟩
    rw [if_neg h0]
    by_cases h1 : (getF l 0 0).2.2 ≠ 0
    · rw [if_pos h1]; exact ⟨Nat.zero_le _, fun p hp => by cases hp⟩
    rw [if_neg h1]
    by_cases h2 : l.length - (getF l 0 0).2.1 < (getF l 0 0).1
    · rw [if_pos h2]; exact ⟨Nat.zero_le _, fun p hp => by cases hp⟩
    rw [if_neg h2]
    have hk : 0 < (getF l 0 0).2.1 := by
      have : getF l 0 0 = ((getF l 0 0).1, (getF l 0 0).2.1, 0) := by
        have h3 : (getF l 0 0).2.2 = 0 := Classical.byContradiction h1
        rw [← h3]
      exact (getF_ok this).1
    obtain ⟨i1, i2⟩ := partsA_small (f := f) (l := l.drop ((getF l 0 0).2.1 + (getF l 0 0).1)) (acc := acc ++ [(l.drop (getF l 0 0).2.1).take (getF l 0 0).1])
    rw [List.length_append, List.length_singleton, List.length_drop] at i1
    refine ⟨by omega, fun p hp => ?_⟩
    rcases i2 p hp with h | h
    · rcases List.mem_append.1 h with h | h
      · exact .inl h
      · have : p = (l.drop (getF l 0 0).2.1).take (getF l 0 0).1 := by simpa using h
        rw [this, List.length_take, List.length_drop]
        exact .inr (by omega)
    · rw [List.length_drop] at h
      exact .inr (by omega)
end Go.Proofs.Ytmgibpedclngpaa

namespace Go.Proofs.Ytmgibpedclngpaa
open Go.RowKit

theorem getF_putU (n : Nat) : ∀ (i m : Nat) (s : List UInt8), i ≤ 8 → n < 128 ^ (9 - i) → (i = 0 ∨ 0 < n) → getF (putU n ++ s) i m = (m + n * 128 ^ i, i + (putU n).length, 0) := by
  induction n using Nat.strongRecOn with
  | ind n ih =>
    intro i m s hi hn h0
    by_cases h : n < 128
    · rw [putU_lt h]
      have hb : (UInt8.ofNat n).toNat = n := by simp [Nat.mod_eq_of_lt (show n < 256 by omega)]
      show (if (i = 9 ∧ 1 < (UInt8.ofNat n).toNat) ∨ ((UInt8.ofNat n).toNat = 0 ∧ 0 < i) then _ else if (UInt8.ofNat n).toNat < 128 then (m + (UInt8.ofNat n).toNat % 128 * 128 ^ i, i + 1, (0 : Int)) else _) = _
      rw [hb, if_neg (by omega), if_pos h, Nat.mod_eq_of_lt h]
      rfl
    · rw [putU_ge h]
      have hb : (UInt8.ofNat (n % 128 + 128)).toNat = n % 128 + 128 := by simp [Nat.mod_eq_of_lt (show n % 128 + 128 < 256 by omega)]
      have hi7 : i ≤ 7 := by
        apply Classical.byContradiction
        intro h2
        have : i = 8 := by omega
        subst this
        have : n < 128 ^ 1 := hn
        omega
      have hd : n / 128 < 128 ^ (9 - (i + 1)) := by
        rw [Nat.div_lt_iff_lt_mul (by decide), ← Nat.pow_succ, show (9 - (i + 1)).succ = 9 - i by omega]
        exact hn
      show (if (i = 9 ∧ 1 < (UInt8.ofNat (n % 128 + 128)).toNat) ∨ ((UInt8.ofNat (n % 128 + 128)).toNat = 0 ∧ 0 < i) then _ else if (UInt8.ofNat (n % 128 + 128)).toNat < 128 then _ else getF (putU (n / 128) ++ s) (i + 1) (m + (UInt8.ofNat (n % 128 + 128)).toNat % 128 * 128 ^ i)) = _
      rw [hb, if_neg (by omega), if_neg (by omega), ih (n / 128) (by omega) (i + 1) _ s (by omega) hd (.inr (by omega))]
      have e1 : (n % 128 + 128) % 128 = n % 128 := by omega
      have e2 : n % 128 * 128 ^ i + n / 128 * 128 ^ (i + 1) = n * 128 ^ i := by
        rw [Nat.pow_succ, Nat.mul_comm (128 ^ i) 128, ← Nat.mul_assoc, ← Nat.add_mul]
        congr 1
        omega
      rw [e1, Nat.add_assoc, e2, List.length_cons]
      congr 2
      omega
theorem putU_pos (n : Nat) : 0 < (putU n).length := by
  by_cases h : n < 128
  · rw [putU_lt h]; exact Nat.one_pos
  · rw [putU_ge h]; simp
theorem partsA_frame : ∀ {ls : List (List UInt8)} {f : Nat} {acc : List (List UInt8)}, (∀ l ∈ ls, l.length < 1099511627776) → ls.length ≤ f → partsA f (frameL ls) acc = (acc ++ ls, 0)
  | [], f, acc, _, _ => by rw [List.append_nil]; exact partsA_end f acc
  | l :: ls, 0, acc, _, h => by simp at h
  | l :: ls, f + 1, acc, hs, hf => by
    have hl := hs l (List.mem_cons_self ..)
    have hfr : frameL (l :: ls) = putU l.length ++ (l ++ frameL ls) := by
      show (putU l.length ++ l) ++ frameL ls = _
      rw [List.append_assoc]
    have hg := getF_putU l.length 0 0 (l ++ frameL ls) (by decide) (Nat.lt_trans hl (by decide)) (.inl rfl)
    rw [Nat.zero_add, Nat.zero_add, Nat.pow_zero, Nat.mul_one] at hg
    unfold partsA
    rw [hfr, hg]
    have hp := putU_pos l.length
    have hln : (putU l.length ++ (l ++ frameL ls)).length = (putU l.length).length + (l.length + (frameL ls).length) := by rw [List.length_append, List.length_append]
    rw [if_neg (by rw [hln]; omega), if_neg (fun h => h rfl), if_neg (by rw [hln]; show ¬ _ - (putU l.length).length < l.length; omega)]
    show partsA f ((putU l.length ++ (l ++ frameL ls)).drop ((putU l.length).length + l.length)) (acc ++ [((putU l.length ++ (l ++ frameL ls)).drop (putU l.length).length).take l.length]) = _
    have h5 : (putU l.length ++ (l ++ frameL ls)).drop ((putU l.length).length + l.length) = frameL ls := by rw [← List.drop_drop, List.drop_left, List.drop_left]
    rw [h5, List.drop_left, List.take_left, partsA_frame (fun x hx => hs x (List.mem_cons_of_mem _ hx)) (by simpa using hf), List.append_assoc]
    rfl
theorem frameL_ge : ∀ ls : List (List UInt8), ls.length ≤ (frameL ls).length
  | [] => Nat.le_refl _
  | l :: ls => by
    have := frameL_ge ls
    have hp := putU_pos l.length
    show ls.length + 1 ≤ ((putU l.length ++ l) ++ frameL ls).length
    rw [List.length_append, List.length_append]
    omega
theorem partsL_frame {ls : List (List UInt8)} (h : ∀ l ∈ ls, l.length < 1099511627776) : partsL (frameL ls) = (ls, 0) := by
  have := partsA_frame (acc := []) h (frameL_ge ls)
  rw [List.nil_append] at this
  exact this
end Go.Proofs.Ytmgibpedclngpaa
