/- Numbers out of bytes: codec.GetU, GetOrdU, GetOrdI. The parts of a frame: codec.Parts. The value of a part: cell.part. Values read back: cell.Decode. What was written is read back. -/
import Derived.Test.YtemidaamnldjmaaOrdA
import Derived.Test.YtemidaamnldjmaaEncC
import Derived.Test.YtemidaamnldjmaaBClone
import Derived.Test.YtemidaamnldjmaaAnyC
import Derived.BigQuiet
namespace Go.Proofs.Ytemidaamnldjmaa
open Go.RowKit
theorem AnyV.shape {w : World} {S : Nat → Prop} {v : Value} {x : LVal} (h : AnyV w S v x) : v = .nilIface ∨ ∃ T u, v = .iface T u := by
  cases x with
  | null => exact .inl h
  | bytes l => obtain ⟨D, c, e, _⟩ := h; exact .inr ⟨_, _, e⟩
  | text s => exact .inr ⟨_, _, h.1⟩
  | _ => exact .inr ⟨_, _, h⟩
theorem Try.infoAny : (Try.prog.info? 20).map (fun i => (i.zero, i.size, i.bytes)) = some (some .nilIface, 1, 16) := by kernel_rfl

/-- a number in groups of seven bits: what it is, how wide, and the error -/
def getF : List UInt8 → Nat → Nat → Nat × Nat × Int
  | [], _, _ => (0, 0, 5)
  | x :: l, i, n =>
    if (i = 9 ∧ 1 < x.toNat) ∨ (x.toNat = 0 ∧ 0 < i) then (0, 0, 3)
    else if x.toNat < 128 then (n + x.toNat % 128 * 128 ^ i, i + 1, 0) else getF l (i + 1) (n + x.toNat % 128 * 128 ^ i)
theorem or_nat {n y k : Nat} (h : n < 2 ^ k) : n ||| (y * 2 ^ k) = n + y * 2 ^ k := by
  rw [Nat.or_comm, Nat.mul_comm, ← Nat.two_pow_add_eq_or_of_lt h, Nat.add_comm]
theorem or_u64 {n y k P : Nat} (hP : P = 2 ^ k) (h : n < P) (h2 : n + y * P < 18446744073709551616) : bits .or .u64 (n : Int) ((y : Int) * (P : Int)) = ((n + y * P : Nat) : Int) := by
  have e : (y : Int) * (P : Int) = ((y * P : Nat) : Int) := by rw [Int.natCast_mul]
  have ho : n ||| (y * P) = n + y * P := by
    rw [hP] at h ⊢
    exact or_nat h
  rw [e]
  generalize y * P = q at *
  show IntKind.u64.wrap ((BitVec.ofInt 64 (n : Int) ||| BitVec.ofInt 64 (q : Int)).toNat : Int) = _
  rw [BitVec.toNat_or]
  have e1 : ∀ m : Nat, m < 18446744073709551616 → (BitVec.ofInt 64 (m : Int)).toNat = m := fun m hm => by
    rw [BitVec.toNat_ofInt]; omega
  rw [e1 n (by omega), e1 q (by omega), ho]
  simp only [IntKind.wrap]
  split <;> simp_all [IntKind.bits, IntKind.signed] <;> omega
set_option maxRecDepth 100000 in
theorem andNot_nat : ∀ a : Nat, a < 256 → a &&& 127 = a % 128 := by decide
theorem andNot_u64 {x : Nat} (h : x < 256) : bits .andNot .u64 (x : Int) 128 = ((x % 128 : Nat) : Int) := by
  show IntKind.u64.wrap ((BitVec.ofInt 64 (x : Int) &&& ~~~(BitVec.ofInt 64 128)).toNat : Int) = _
  have e1 : (BitVec.ofInt 64 (x : Int)).toNat = x := by rw [BitVec.toNat_ofInt]; omega
  have e2 : BitVec.ofInt 64 (x : Int) &&& ~~~(BitVec.ofInt 64 128) = BitVec.ofInt 64 (x : Int) &&& 127 := by
    apply BitVec.eq_of_toNat_eq
    rw [BitVec.toNat_and, BitVec.toNat_and, e1]
    have h3 : (~~~(BitVec.ofInt 64 128)).toNat = 18446744073709551487 := by decide
    have h4 : (127 : BitVec 64).toNat = 127 := by decide
    rw [h3, h4]
    have h5 : ∀ a : Nat, a < 256 → a &&& 18446744073709551487 = a &&& 127 := by
      intro a ha
      apply Nat.eq_of_testBit_eq
      intro i
      rw [Nat.testBit_and, Nat.testBit_and]
      by_cases hi : i < 8
      · have : i = 0 ∨ i = 1 ∨ i = 2 ∨ i = 3 ∨ i = 4 ∨ i = 5 ∨ i = 6 ∨ i = 7 := by omega
        rcases this with rfl | rfl | rfl | rfl | rfl | rfl | rfl | rfl <;> rfl
      · have : a.testBit i = false := Nat.testBit_lt_two_pow (Nat.lt_of_lt_of_le ha (by
          have : 2 ^ 8 ≤ 2 ^ i := Nat.pow_le_pow_right (by decide) (by omega)
          omega))
        rw [this]; rfl
    exact h5 x h
  rw [e2, BitVec.toNat_and, e1, show (127 : BitVec 64).toNat = 127 from by decide, andNot_nat x h]
  simp only [IntKind.wrap]
  split <;> simp_all [IntKind.bits, IntKind.signed] <;> omega
theorem inside_any (A : Option Addr) (n c : Nat) (at_ : Nat) (h : at_ ≤ n) (w : World) : Calls Try.prog 65 #[.slice A n c, .int .i64 (at_ : Int)] w fun e w' => e = .returned (.bool true) ∧ w' = w := by
  have h1 : (0 : Int) ≤ (at_ : Int) := by omega
  have h2 : (at_ : Int) ≤ (n : Int) := by omega
  go_enter Try.func65, Try.ntmps65
  go_wp2_with fail
  go_ret
  exact ⟨rfl, rfl⟩

theorem or_step {n x i : Nat} (hn : n < 128 ^ i) (hi : i ≤ 9) (h9 : i = 9 → x ≤ 1) : bits .or .u64 (n : Int) (IntKind.u64.wrap ((x : Int) % 128 * 2 ^ (7 * i))) = ((n + x % 128 * 128 ^ i : Nat) : Int) ∧ (i ≤ 8 → n + x % 128 * 128 ^ i < 128 ^ (i + 1)) := by
  have hp : 128 ^ i = 2 ^ (7 * i) := by rw [Nat.pow_mul]
  have hc : (x : Int) % 128 * 2 ^ (7 * i) = ((x % 128 : Nat) : Int) * ((128 ^ i : Nat) : Int) := by
    rw [hp, Int.natCast_emod, Int.natCast_pow]; rfl
  have hs : 128 ^ (i + 1) = 128 ^ i * 128 := Nat.pow_succ ..
  have hy : x % 128 ≤ 127 := by omega
  have hyP : x % 128 * 128 ^ i ≤ 127 * 128 ^ i := Nat.mul_le_mul_right _ hy
  have hlt : n + x % 128 * 128 ^ i < 18446744073709551616 := by
    by_cases h : i = 9
    · have h1 := h9 h
      subst h
      have h2 : x % 128 * 128 ^ 9 ≤ 1 * 128 ^ 9 := Nat.mul_le_mul_right _ (by omega)
      have h3 : (128 : Nat) ^ 9 = 9223372036854775808 := by decide
      rw [h3] at hn h2 ⊢
      omega
    · have h2 : 128 ^ i ≤ 128 ^ 8 := Nat.pow_le_pow_right (by decide) (by omega)
      have h3 : (128 : Nat) ^ 8 = 72057594037927936 := by decide
      omega
  refine ⟨?_, fun _ => by omega⟩
  have hw : IntKind.u64.wrap ((x : Int) % 128 * 2 ^ (7 * i)) = ((x % 128 : Nat) : Int) * ((128 ^ i : Nat) : Int) := by
    rw [hc, ← Int.natCast_mul]
    have : x % 128 * 128 ^ i < 18446744073709551616 := by omega
    generalize x % 128 * 128 ^ i = q at *
    simp only [IntKind.wrap]
    split <;> simp_all [IntKind.bits, IntKind.signed] <;> omega
  rw [hw]
  exact or_u64 hp hn hlt

/-- a number, the place behind it and the error are answered -/
def RetU (at_ : Nat) (r : Nat × Nat × Int) (w : World) (en : Ending) (w' : World) : Prop :=
  en = .returned (.tuple #[.int .u64 (r.1 : Int), .int .i64 (if r.2.2 = 0 then ((at_ + r.2.1 : Nat) : Int) else 0), .int .i64 r.2.2]) ∧ w' = w
set_option maxRecDepth 100000 in
set_option maxHeartbeats 4000000 in
theorem getu_any (A : Option Addr) (l : List UInt8) (c at_ : Nat) (w : World) (hb : Bs w A l) (hat : at_ ≤ l.length) : Calls Try.prog 56 #[.slice A l.length c, .int .i64 (at_ : Int)] w (RetU at_ (getF (l.drop at_) 0 0) w) := by
  have hl := hb.le
  go_enter Try.func56, Try.ntmps56
  go_wp2_with (go_at_call 65; refine (inside_any A l.length c at_ hat w).mono ?_; rintro en wv ⟨rfl, rfl⟩)
  go_loopw [7, 8, 9] (fun m j _ wr => wr = wv ∧ ∃ (i n : Nat), i ≤ 9 ∧ at_ + i ≤ l.length ∧ n < 128 ^ i ∧ j = .int .i64 (i : Int) ∧ m = .int .u64 (n : Int) ∧ getF (l.drop (at_ + i)) i n = getF (l.drop at_) 0 0) (fun _ j _ _ => 10 - (intOf j).toNat)
  case atStart => exact ⟨rfl, 0, 0, by omega, by omega, by decide, rfl, rfl, rfl⟩
  case round =>
    obtain ⟨rfl, i, n, hi, hai, hn, rfl, rfl, hg⟩ := hrel
    have HG := Lib.hid hg
    clear hg
    by_cases hlt : at_ + i < l.length
    · obtain ⟨ad, rfl, hadb, hc⟩ := hb.at_ hlt
      have HD : Hid (getF (l.drop (at_ + i)) i n = if (i = 9 ∧ 1 < (l[at_ + i]).toNat) ∨ ((l[at_ + i]).toNat = 0 ∧ 0 < i) then (0, 0, 3) else if (l[at_ + i]).toNat < 128 then (n + (l[at_ + i]).toNat % 128 * 128 ^ i, i + 1, 0) else getF (l.drop (at_ + (i + 1))) (i + 1) (n + (l[at_ + i]).toNat % 128 * 128 ^ i)) := by
        show _ = _
        rw [List.drop_eq_getElem_cons hlt]
        rfl
      have hx8 : (l[at_ + i]).toNat < 256 := (l[at_ + i]).toNat_lt
      generalize (l[at_ + i]).toNat = x at *
      have hz : (at_ : Int) + (i : Int) < (l.length : Int) := by omega
      rw [show ad.add (at_ + i) = ad.add (at_ + i) from rfl] at hc
      by_cases hbad : (i = 9 ∧ 1 < x) ∨ (x = 0 ∧ 0 < i)
      · have HE : Hid (getF (l.drop at_) 0 0 = (0, 0, 3)) := by show _ = _; rw [← HG.out, HD.out, if_pos hbad]
        rcases hbad with ⟨h9, h1⟩ | ⟨h0, hi0⟩
        · have d1_ : (1 : Int) < (x : Int) := by omega
          have d0_ : ((i : Int) == 9) = true := by rw [beq_iff_eq]; omega
          clear h9 h1
          go_wp2_with fail
          go_ret3
          rw [HE.out]
          exact ⟨rfl, rfl⟩
        · have d2_ : (0 : Int) < (i : Int) := by omega
          have d3_ : ((x : Int) == 0) = true := by rw [beq_iff_eq]; omega
          have d5_ : ¬ (1 : Int) < (x : Int) := by omega
          clear h0
          by_cases h9 : i = 9
          · have d1_ : ((i : Int) == 9) = true := by rw [beq_iff_eq]; omega
            clear h9
            go_wp2_with fail
            go_ret3
            rw [HE.out]
            exact ⟨rfl, rfl⟩
          · have d1_ : ((i : Int) == 9) = false := by rw [beq_eq_false_iff_ne]; omega
            clear h9
            go_wp2_with fail
            go_ret3
            rw [HE.out]
            exact ⟨rfl, rfl⟩
      · have hA := andNot_u64 hx8
        have hxi : ∀ h : i = 9, x ≤ 1 := fun h => by
          apply Classical.byContradiction
          intro h2
          exact hbad (.inl ⟨h, by omega⟩)
        obtain ⟨hO, hm⟩ := or_step (x := x) hn hi hxi
        have HM := Lib.hid hm
        clear hm
        generalize hmm : n + x % 128 * 128 ^ i = m at *
        have HMM := Lib.hid hmm
        clear hmm
        by_cases hs : x < 128
        · have HE : Hid (getF (l.drop at_) 0 0 = (m, i + 1, 0)) := by show _ = _; rw [← HG.out, HD.out, if_neg hbad, if_pos hs]
          have d0_ : (x : Int) < 128 := by omega
          by_cases h9 : i = 9
          · have d1_ : ((i : Int) == 9) = true := by rw [beq_iff_eq]; omega
            have d2_ : ¬ (1 : Int) < (x : Int) := by have := hxi h9; omega
            by_cases h0 : x = 0
            · exact absurd (.inr ⟨h0, by omega⟩) hbad
            · have d3_ : ((x : Int) == 0) = false := by rw [beq_eq_false_iff_ne]; omega
              clear hbad hs h0 h9
              go_wp2_with fail
              go_ret3
              rw [HE.out]
              exact ⟨by show _ = Ending.returned (.tuple #[.int .u64 (m : Int), .int .i64 ((at_ + (i + 1) : Nat) : Int), .int .i64 0]); congr 4; first | rfl | (go_num) | skip, rfl⟩
          · have d1_ : ((i : Int) == 9) = false := by rw [beq_eq_false_iff_ne]; omega
            by_cases h0 : x = 0
            · have d3_ : ((x : Int) == 0) = true := by rw [beq_iff_eq]; omega
              have hi0 : i = 0 := by
                apply Classical.byContradiction
                intro h2
                exact hbad (.inr ⟨h0, by omega⟩)
              have d4_ : ¬ (0 : Int) < (i : Int) := by omega
              clear hbad hs h0 h9 hi0
              go_wp2_with fail
              go_ret3
              rw [HE.out]
              exact ⟨by show _ = Ending.returned (.tuple #[.int .u64 (m : Int), .int .i64 ((at_ + (i + 1) : Nat) : Int), .int .i64 0]); congr 4; first | rfl | (go_num) | skip, rfl⟩
            · have d3_ : ((x : Int) == 0) = false := by rw [beq_eq_false_iff_ne]; omega
              clear hbad hs h0 h9
              go_wp2_with fail
              go_ret3
              rw [HE.out]
              exact ⟨by show _ = Ending.returned (.tuple #[.int .u64 (m : Int), .int .i64 ((at_ + (i + 1) : Nat) : Int), .int .i64 0]); congr 4; first | rfl | (go_num) | skip, rfl⟩
        · have HE : Hid (getF (l.drop (at_ + (i + 1))) (i + 1) m = getF (l.drop at_) 0 0) := by show _ = _; rw [← HG.out, HD.out, if_neg hbad, if_neg hs]
          have h9 : i ≠ 9 := fun h => by have := hxi h; omega
          have d0_ : ¬ (x : Int) < 128 := by omega
          have d1_ : ((i : Int) == 9) = false := by rw [beq_eq_false_iff_ne]; omega
          have d3_ : ((x : Int) == 0) = false := by rw [beq_eq_false_iff_ne]; omega
          clear hbad hs
          go_wp2_with fail
          go_roundw
          case rel => exact ⟨by first | rfl | trivial, i + 1, m, by omega, by omega, HM.out (by omega), by go_num, rfl, HE.out⟩
          case measure => simp [intOf]; omega
    · have HE : Hid (getF (l.drop at_) 0 0 = (0, 0, 5)) := by show _ = _; rw [← HG.out, List.drop_of_length_le (by omega)]; rfl
      have hz : ¬ (at_ : Int) + (i : Int) < (l.length : Int) := by omega
      go_wp2_with fail
      go_ret3
      rw [HE.out]
      exact ⟨rfl, rfl⟩
theorem mul_step {n x i P : Nat} (hn : n < P) (hP : P = 128 ^ i) (hi : i ≤ 9) (h9 : i = 9 → x ≤ 1) : IntKind.u64.wrap ((P : Int) * ((x : Int) % 128)) = (P : Int) * ((x : Int) % 128) ∧ IntKind.u64.wrap ((n : Int) + (P : Int) * ((x : Int) % 128)) = ((n + P * (x % 128) : Nat) : Int) ∧ (i ≤ 8 → n + P * (x % 128) < P * 128) ∧ (i ≤ 8 → IntKind.u64.wrap ((P : Int) * 128) = ((P * 128 : Nat) : Int)) := by
  have hy : x % 128 ≤ 127 := by omega
  have hyP : P * (x % 128) ≤ P * 127 := Nat.mul_le_mul_left _ hy
  have hP8 : i ≤ 8 → P ≤ 72057594037927936 := fun h => by
    rw [hP]
    exact Nat.le_trans (Nat.pow_le_pow_right (by decide) h) (by decide)
  have hlt : n + P * (x % 128) < 18446744073709551616 := by
    by_cases h : i = 9
    · have h1 := h9 h
      subst h
      have h2 : P * (x % 128) ≤ P * 1 := Nat.mul_le_mul_left _ (by omega)
      have h3 : (128 : Nat) ^ 9 = 9223372036854775808 := by decide
      rw [h3] at hP
      omega
    · have := hP8 (by omega)
      omega
  have hw : ∀ q : Nat, q < 18446744073709551616 → IntKind.u64.wrap (q : Int) = (q : Int) := fun q hq => by
    simp only [IntKind.wrap]
    split <;> simp_all [IntKind.bits, IntKind.signed] <;> omega
  refine ⟨?_, ?_, fun _ => by omega, fun h => ?_⟩
  · have e : (P : Int) * ((x : Int) % 128) = ((P * (x % 128) : Nat) : Int) := by rw [Int.natCast_mul, Int.natCast_emod]; rfl
    rw [e]
    exact hw _ (by omega)
  · have e : (n : Int) + (P : Int) * ((x : Int) % 128) = ((n + P * (x % 128) : Nat) : Int) := by rw [Int.natCast_add, Int.natCast_mul, Int.natCast_emod]; rfl
    rw [e]
    exact hw _ hlt
  · have e : (P : Int) * 128 = ((P * 128 : Nat) : Int) := by rw [Int.natCast_mul]; rfl
    rw [e]
    have := hP8 h
    exact hw _ (by omega)
end Go.Proofs.Ytemidaamnldjmaa

namespace Go.Proofs.Ytemidaamnldjmaa
open Go.RowKit

theorem getF_ok : ∀ {l : List UInt8} {i n m k : Nat}, getF l i n = (m, k, 0) → i < k ∧ k ≤ i + l.length
  | [], i, n, m, k, h => by
    have h2 : ((0, 0, 5) : Nat × Nat × Int) = (m, k, 0) := h
    injection h2 with _ h2
    injection h2 with _ h2
    exact absurd h2 (by decide)
  | x :: l, i, n, m, k, h => by
    unfold getF at h
    by_cases h1 : (i = 9 ∧ 1 < x.toNat) ∨ (x.toNat = 0 ∧ 0 < i)
    · rw [if_pos h1] at h
      injection h with _ h
      injection h with _ h
      exact absurd h (by decide)
    rw [if_neg h1] at h
    by_cases h2 : x.toNat < 128
    · rw [if_pos h2] at h
      injection h with _ h
      injection h with h _
      rw [List.length_cons]
      omega
    · rw [if_neg h2] at h
      have := getF_ok h
      rw [List.length_cons]
      omega
/-- the parts of a frame, and the error -/
def partsA : Nat → List UInt8 → List (List UInt8) → List (List UInt8) × Int
  | 0, _, acc => (acc, 0)
  | f + 1, l, acc =>
    if l.length = 0 then (acc, 0) else
    if (getF l 0 0).2.2 ≠ 0 then ([], (getF l 0 0).2.2) else if l.length - (getF l 0 0).2.1 < (getF l 0 0).1 then ([], 5)
    else partsA f (l.drop ((getF l 0 0).2.1 + (getF l 0 0).1)) (acc ++ [(l.drop (getF l 0 0).2.1).take (getF l 0 0).1])
def partsL (l : List UInt8) : List (List UInt8) × Int := partsA l.length l []
theorem partsA_end (f : Nat) (acc : List (List UInt8)) : partsA f [] acc = (acc, 0) := by
  cases f <;> rfl
theorem Bs.cut {w : World} {A : Option Addr} {l : List UInt8} (h : Bs w A l) {k cap : Nat} (hk : k ≤ l.length) (hc : l.length ≤ cap) : Bs w (if cap = k then A else A.map (·.add k)) (l.drop k) := by
  have h1 := Reads.cut h.1 hk hc
  rw [Nat.mul_one, ← List.map_drop] at h1
  refine ⟨?_, by rw [List.length_drop]; have := h.2; omega⟩
  rw [List.length_drop]
  exact h1
/-- parts of the call's own, and an error -/
def RetParts (r : List (List UInt8) × Int) (w : World) (en : Ending) (w' : World) : Prop :=
  ∃ D d, en = .returned (.tuple #[.slice D r.1.length d, .int .i64 r.2]) ∧ Own BsE 29 w' w.heap.size (fun b => w.heap.size ≤ b ∧ b < w'.heap.size) (.slice D r.1.length d) r.1 ∧ Below w.heap.size w w'

set_option maxRecDepth 100000 in
set_option maxHeartbeats 4000000 in
theorem parts_any (A : Option Addr) (l : List UInt8) (c : Nat) (w : World) (hb : Bs w A l) (hc : l.length ≤ c ∧ c ≤ 9223372036854775807) (hl5 : l.length ≤ 1099511627776) : Calls Try.prog 46 #[.slice A l.length c] w (RetParts (partsL l) w) := by
  obtain ⟨i1, hi1, hy0, hy1, hy2⟩ := info_parts Try.infoBs
  go_enter Try.func46, Try.ntmps46
  go_wp2_with fail
  go_loopw [4, 5, 6, 7, 8] (fun o p _ _ _ wr => ∃ (pos f : Nat) (ps : List (List UInt8)) (B : Option Addr) (d : Nat), pos ≤ l.length ∧ p = .int .i64 (pos : Int) ∧ o = .slice B ps.length d ∧ Own BsE 29 wr w.heap.size (fun b => w.heap.size ≤ b ∧ b < wr.heap.size) (.slice B ps.length d) ps ∧ partsA f (l.drop pos) ps = partsL l ∧ l.length ≤ pos + f ∧ ps.length ≤ pos ∧ Below w.heap.size w wr) (fun _ p _ _ _ _ => l.length - (intOf p).toNat)
  case atStart => exact ⟨0, l.length, [], none, 0, Nat.zero_le _, rfl, rfl, Own.nil_ BsE _ _ _ _, rfl, by omega, Nat.le_refl _, Below.refl _ _⟩
  case round =>
    obtain ⟨pos, f, ps, B, d, hp, rfl, rfl, o, hg, hf, hps, br⟩ := hrel
    have HG := Lib.hid hg
    clear hg
    have zr := br.size
    by_cases hlt : pos < l.length
    · have hlt' : (pos : Int) < (l.length : Int) := by omega
      obtain ⟨f, rfl⟩ : ∃ f', f = f' + 1 := ⟨f - 1, by omega⟩
      have hdl : (l.drop pos).length = l.length - pos := List.length_drop ..
      have T := getu_any A l c pos wr (hb.below br) hp
      obtain ⟨r, hr⟩ : ∃ r, getF (l.drop pos) 0 0 = r := ⟨_, rfl⟩
      have HU : Hid (partsA (f + 1) (l.drop pos) ps = if r.2.2 ≠ 0 then ([], r.2.2) else if (l.drop pos).length - r.2.1 < r.1 then ([], 5) else partsA f ((l.drop pos).drop (r.2.1 + r.1)) (ps ++ [((l.drop pos).drop r.2.1).take r.1])) := by
        show _ = _
        rw [← hr]
        exact if_neg (by rw [hdl]; omega)
      rw [hr] at T
      obtain ⟨n, k, e⟩ := r
      by_cases he : e = 0
      · subst he
        obtain ⟨hk0, hk1⟩ := getF_ok hr
        rw [hdl] at hk1
        have HR := Lib.hid hr
        have HDL := Lib.hid hdl
        clear hr hdl
        have T2 : Calls Try.prog 56 #[.slice A l.length c, .int .i64 (pos : Int)] wr fun en w' => en = .returned (.tuple #[.int .u64 (n : Int), .int .i64 ((pos + k : Nat) : Int), .int .i64 0]) ∧ w' = wr := T
        clear T
        obtain ⟨q, hq⟩ : ∃ q, pos + k = q := ⟨_, rfl⟩
        rw [hq] at T2
        have hq1 : pos < q := by omega
        have hq2 : q ≤ l.length := by omega
        have HQ := Lib.hid hq
        clear hq
        go_wp2_with fail
        refine T2.mono ?_
        rintro en w2 ⟨rfl, rfl⟩
        have hz : ∃ s : Nat, l.length - q = s := ⟨_, rfl⟩
        obtain ⟨s, hs⟩ := hz
        have hcv : IntKind.u64.wrap ((l.length : Int) - (q : Int)) = (s : Int) := by
          rw [show (l.length : Int) - (q : Int) = (s : Int) by omega]
          simp only [IntKind.wrap]
          split <;> simp_all [IntKind.bits, IntKind.signed] <;> omega
        by_cases hbig : s < n
        · have HE : Hid (partsL l = ([], 5)) := by
            show _ = _
            rw [← HG.out, HU.out, if_neg (fun h => h rfl), if_pos (by show (l.drop pos).length - k < n; rw [HDL.out]; have := HQ.out; omega)]
          have d1_ : (s : Int) < (n : Int) := by omega
          go_wp2_with fail
          go_ret2
          rw [HE.out]
          exact ⟨none, 0, rfl, Own.nil_ BsE _ _ _ _, br⟩
        · have d1_ : ¬ (s : Int) < (n : Int) := by omega
          have hnq : q + n ≤ l.length := by omega
          have hpl : ((l.drop q).take n).length = n := by rw [List.length_take, List.length_drop]; omega
          have HN : Hid (partsA f (l.drop (q + n)) (ps ++ [(l.drop q).take n]) = partsL l) := by
            show _ = _
            rw [← HG.out, HU.out, if_neg (fun h => h rfl), if_neg (by show ¬ (l.drop pos).length - k < n; rw [HDL.out]; have := HQ.out; omega), List.drop_drop, List.drop_drop, ← HQ.out, Nat.add_assoc]
          have hwc : (q : Int) + (n : Int) ≤ (c : Int) := by omega
          by_cases hcq : c = q
          · have HCQ := Lib.hid hcq
            subst hcq
            obtain rfl : n = 0 := by omega
            go_wp2_with fail
            have hcut : Bs w2 (A) ((l.drop c).take 0) := by
              have h1 := Bs.cut (hb.below br) hq2 hc.1
              rw [if_pos rfl] at h1
              exact Bs.take h1 0 (by rw [List.length_drop]; omega)
            have T3 := bclone_any (A) ((l.drop c).take 0) (0) w2 hcut
            rw [hpl] at T3
            refine T3.mono ?_
            rintro en w3 ⟨D3, d3, rfl, o3, b3⟩
            have hpl2 : ((l.drop c).take 0).length ≤ 0 := Nat.le_of_eq hpl
            clear hpl
            have o3b : OwnB w2.heap.size w3 D3 ((l.drop c).take 0) d3 := o3
            generalize (l.drop c).take 0 = part at *
            have dZ : Below w3.heap.size w3 (w3.alloc (.cells #[.slice D3 part.length d3] 29)) := (Below.refl _ _).alloc (Nat.le_refl _) _
            have b3w := br.trans (b3.mono zr)
            have bwZ := b3w.trans (dZ.mono b3w.size)
            have zz3 := b3.size
            have oZ := Own.below (Own.mono (Own.below o b3) (S' := fun b => w.heap.size ≤ b ∧ b < w3.heap.size) (fun b hb _ hs => ⟨hs.1, hb⟩)) dZ
            have hat1 : At (fun b => (w.heap.size ≤ b ∧ b < w3.heap.size) ∧ (Value.slice B ps.length d).ownBlock ≠ some b) D3 part.length := fun ad e hn => by
              have h1 := OwnB.at_ o3b ad e hn
              refine ⟨⟨by omega, h1.2⟩, fun e2 => ?_⟩
              have := (Own.lt o _ e2).2
              omega
            have hb1 := (o3b.bs (by omega)).below dZ
            have c1 := o3b.caps
            clear o3 o3b T3 T2
            go_wp2_with (at_builtin; refine wpList_appE BsE w.heap.size w _ rfl (.tmp 34) (.tmp 40) 29 84 rfl i1 _ Try.underlying84 hi1 hy0 hy1 hy2 rfl _ B ps d rfl oZ _ [.slice D3 part.length d3] part 1 rfl _ (Reads.new1 _ _ _) ⟨D3, d3, rfl, hb1, hat1, c1⟩ (by simp only [BsE]; omega) (by simp only [maxLen]; omega) bwZ (Nat.le_refl _) bwZ.size ?_; intro B9 d9 ps9 w9 H9 o9 b9 g9 t9)
            go_roundw
            case rel => exact ⟨c, f, ps9, B9, d9, by omega, by go_num, rfl, Own.mono o9 (fun b hb _ hs => ⟨hs.1, hb⟩), by rw [H9.out]; have := HN.out; rw [Nat.add_zero] at this; exact this, by omega, by rw [H9.out, List.length_append, List.length_singleton]; omega, b9⟩
            case measure => simp [intOf]; omega
          · have hcq2 : ((c : Int) == (q : Int)) = false := by rw [beq_eq_false_iff_ne]; omega
            go_wp2_with fail
            have hcut : Bs w2 (A.map (·.add q)) ((l.drop q).take n) := by
              have h1 := Bs.cut (hb.below br) hq2 hc.1
              rw [if_neg hcq] at h1
              exact Bs.take h1 n (by rw [List.length_drop]; omega)
            have T3 := bclone_any (A.map (·.add q)) ((l.drop q).take n) (c - q) w2 hcut
            rw [hpl] at T3
            refine T3.mono ?_
            rintro en w3 ⟨D3, d3, rfl, o3, b3⟩
            have hpl2 : ((l.drop q).take n).length ≤ n := Nat.le_of_eq hpl
            clear hpl
            have o3b : OwnB w2.heap.size w3 D3 ((l.drop q).take n) d3 := o3
            generalize (l.drop q).take n = part at *
            have dZ : Below w3.heap.size w3 (w3.alloc (.cells #[.slice D3 part.length d3] 29)) := (Below.refl _ _).alloc (Nat.le_refl _) _
            have b3w := br.trans (b3.mono zr)
            have bwZ := b3w.trans (dZ.mono b3w.size)
            have zz3 := b3.size
            have oZ := Own.below (Own.mono (Own.below o b3) (S' := fun b => w.heap.size ≤ b ∧ b < w3.heap.size) (fun b hb _ hs => ⟨hs.1, hb⟩)) dZ
            have hat1 : At (fun b => (w.heap.size ≤ b ∧ b < w3.heap.size) ∧ (Value.slice B ps.length d).ownBlock ≠ some b) D3 part.length := fun ad e hn => by
              have h1 := OwnB.at_ o3b ad e hn
              refine ⟨⟨by omega, h1.2⟩, fun e2 => ?_⟩
              have := (Own.lt o _ e2).2
              omega
            have hb1 := (o3b.bs (by omega)).below dZ
            have c1 := o3b.caps
            clear o3 o3b T3 T2
            go_wp2_with (at_builtin; refine wpList_appE BsE w.heap.size w _ rfl (.tmp 34) (.tmp 40) 29 84 rfl i1 _ Try.underlying84 hi1 hy0 hy1 hy2 rfl _ B ps d rfl oZ _ [.slice D3 part.length d3] part 1 rfl _ (Reads.new1 _ _ _) ⟨D3, d3, rfl, hb1, hat1, c1⟩ (by simp only [BsE]; omega) (by simp only [maxLen]; omega) bwZ (Nat.le_refl _) bwZ.size ?_; intro B9 d9 ps9 w9 H9 o9 b9 g9 t9)
            go_roundw
            case rel => exact ⟨q + n, f, ps9, B9, d9, by omega, by go_num, rfl, Own.mono o9 (fun b hb _ hs => ⟨hs.1, hb⟩), by rw [H9.out]; exact HN.out, by omega, by rw [H9.out, List.length_append, List.length_singleton]; omega, b9⟩
            case measure => simp [intOf]; omega
      · have HE : Hid (partsL l = ([], e)) := by show _ = _; rw [← HG.out, HU.out, if_pos he]
        have d1_ : (e != 0) = true := by rw [bne_iff_ne]; exact he
        have T2 : Calls Try.prog 56 #[.slice A l.length c, .int .i64 (pos : Int)] wr fun en w' => (∃ z, en = .returned (.tuple #[.int .u64 (n : Int), .int .i64 z, .int .i64 e])) ∧ w' = wr := T.mono fun en w' h => ⟨⟨_, h.1⟩, h.2⟩
        clear T he
        go_wp2_with fail
        refine T2.mono ?_
        rintro en w2 ⟨⟨z, rfl⟩, rfl⟩
        go_wp2_with fail
        go_ret2
        rw [HE.out]
        exact ⟨none, 0, rfl, Own.nil_ BsE _ _ _ _, br⟩
    · obtain rfl : pos = l.length := by omega
      have HE : Hid (partsL l = (ps, 0)) := by show _ = _; rw [← HG.out, List.drop_length, partsA_end]
      go_wp2_with fail
      go_ret2
      rw [HE.out]
      exact ⟨B, d, rfl, o, br⟩
end Go.Proofs.Ytemidaamnldjmaa

namespace Go.Proofs.Ytemidaamnldjmaa
open Go.RowKit
end Go.Proofs.Ytemidaamnldjmaa

namespace Go.Proofs.Ytemidaamnldjmaa
open Go.RowKit

/-- bytes as a number, the greatest first -/
def beF (n : Nat) (l : List UInt8) : Nat := l.foldl (fun n x => n * 256 + x.toNat) n
theorem beF_snoc (n : Nat) (l : List UInt8) (x : UInt8) : beF n (l ++ [x]) = beF n l * 256 + x.toNat := by
  unfold beF; rw [List.foldl_append]; rfl
theorem or8_u64 {n x : Nat} (h : n < 72057594037927936) (hx : x < 256) : bits .or .u64 ((n : Int) * 256) (x : Int) = ((n * 256 + x : Nat) : Int) := by
  have e : (n : Int) * 256 = ((n * 256 : Nat) : Int) := by rw [Int.natCast_mul]; rfl
  have ho : n * 256 ||| x = n * 256 + x := by
    have := or_nat (n := x) (y := n) (k := 8) hx
    rw [Nat.or_comm, show n * 256 = n * 2 ^ 8 from rfl, this, Nat.add_comm]
  rw [e]
  show IntKind.u64.wrap ((BitVec.ofInt 64 ((n * 256 : Nat) : Int) ||| BitVec.ofInt 64 (x : Int)).toNat : Int) = _
  rw [BitVec.toNat_or]
  have e1 : ∀ m : Nat, m < 18446744073709551616 → (BitVec.ofInt 64 (m : Int)).toNat = m := fun m hm => by
    rw [BitVec.toNat_ofInt]; omega
  rw [e1 _ (by omega), e1 x (by omega), ho]
  generalize hq : n * 256 + x = q at *
  simp only [IntKind.wrap]
  split <;> simp_all [IntKind.bits, IntKind.signed] <;> omega
/-- the number at a place: eight bytes -/
def ordF (l : List UInt8) : Nat × Int := if l.length < 8 then (0, 5) else (beF 0 (l.take 8), 0)
def RetO (at_ : Nat) (r : Nat × Int) (w : World) (en : Ending) (w' : World) : Prop :=
  en = .returned (.tuple #[.int .u64 (r.1 : Int), .int .i64 (if r.2 = 0 then ((at_ + 8 : Nat) : Int) else 0), .int .i64 r.2]) ∧ w' = w
theorem beF_lt : ∀ (l : List UInt8) (n k : Nat), n < 256 ^ k → beF n l < 256 ^ (k + l.length)
  | [], n, k, h => h
  | x :: l, n, k, h => by
    have hx := x.toNat_lt
    have h2 : n * 256 + x.toNat < 256 ^ (k + 1) := by rw [Nat.pow_succ]; omega
    have := beF_lt l (n * 256 + x.toNat) (k + 1) h2
    rw [List.length_cons, show k + (l.length + 1) = k + 1 + l.length by omega]
    exact this

set_option maxRecDepth 100000 in
set_option maxHeartbeats 4000000 in
theorem getordu_any (A : Option Addr) (l : List UInt8) (c at_ : Nat) (w : World) (hb : Bs w A l) (hat : at_ ≤ l.length) (hc : l.length ≤ c ∧ c ≤ 9223372036854775807) : Calls Try.prog 66 #[.slice A l.length c, .int .i64 (at_ : Int)] w (RetO at_ (ordF (l.drop at_)) w) := by
  have hl := hb.le
  have hdl : (l.drop at_).length = l.length - at_ := List.length_drop ..
  by_cases h8 : l.length - at_ < 8
  · have HE : Hid (ordF (l.drop at_) = (0, 5)) := by show _ = _; unfold ordF; rw [if_pos (by omega)]
    have hz : (l.length : Int) - (at_ : Int) < 8 := by omega
    clear hdl
    go_enter Try.func66, Try.ntmps66
    go_wp2_with (go_at_call 65; refine (inside_any A l.length c at_ hat w).mono ?_; rintro en wv ⟨rfl, rfl⟩)
    go_ret3
    rw [HE.out]
    exact ⟨rfl, rfl⟩
  · have HE : Hid (ordF (l.drop at_) = (beF 0 ((l.drop at_).take 8), 0)) := by show _ = _; unfold ordF; rw [if_neg (by omega)]
    have hz : ¬ (l.length : Int) - (at_ : Int) < 8 := by omega
    have hac : (at_ : Int) + 8 ≤ (c : Int) := by omega
    have hne : ((c : Int) == (at_ : Int)) = false := by rw [beq_eq_false_iff_ne]; omega
    obtain ⟨ad, rfl, -⟩ := hb.at_ (show at_ < l.length by omega)
    have hct : Bs w (some (ad.add at_)) (l.drop at_) := by
      have := Bs.cut hb hat hc.1
      rw [if_neg (by omega)] at this
      exact this
    have hlen : 8 ≤ (l.drop at_).length := by omega
    obtain ⟨d, hd⟩ : ∃ d, l.drop at_ = d := ⟨_, rfl⟩
    rw [hd] at HE hct hlen ⊢
    clear hdl hd
    go_enter Try.func66, Try.ntmps66
    go_wp2_with (go_at_call 65; refine (inside_any (some ad) l.length c at_ hat w).mono ?_; rintro en wv ⟨rfl, rfl⟩)
    go_loopw [7, 9, 25] (fun m _ j wr => wr = wv ∧ ∃ (k n : Nat), k ≤ 8 ∧ n < 256 ^ k ∧ n = beF 0 (d.take k) ∧ j = .int .i64 (k : Int) ∧ m = .int .u64 (n : Int)) (fun _ _ j _ => 8 - (intOf j).toNat)
    case atStart => exact ⟨rfl, 0, 0, by omega, by decide, rfl, rfl, rfl⟩
    case round =>
      obtain ⟨rfl, k, n, hk, hn, hnb, rfl, rfl⟩ := hrel
      have HN := Lib.hid hnb
      clear hnb
      by_cases hlt : k < 8
      · have hlt' : (k : Int) < 8 := by omega
        have hkd : k < d.length := by omega
        obtain ⟨bd, e1, hbb, hcc⟩ := hct.at_ hkd
        obtain rfl := Option.some.inj e1
        have hx8 : (d[k]).toNat < 256 := (d[k]).toNat_lt
        have HS : Hid (beF 0 (d.take (k + 1)) = n * 256 + (d[k]).toNat) := by show _ = _; rw [List.take_succ_eq_append_getElem hkd, beF_snoc, HN.out]
        generalize (d[k]).toNat = x at *
        have hn7 : n < 72057594037927936 := Nat.lt_of_lt_of_le hn (Nat.le_trans (Nat.pow_le_pow_right (by decide) (show k ≤ 7 by omega)) (by decide))
        have hO := or8_u64 hn7 hx8
        have hm : n * 256 + x < 256 ^ (k + 1) := by rw [Nat.pow_succ]; omega
        have HM := Lib.hid hm
        clear hm e1
        generalize n * 256 + x = m at *
        go_wp2_with fail
        go_roundw
        case rel => exact ⟨by first | rfl | trivial, k + 1, m, by omega, HM.out, HS.out.symm, by go_num, rfl⟩
        case measure => simp [intOf]; omega
      · obtain rfl : k = 8 := by omega
        go_wp2_with fail
        go_ret3
        rw [HE.out, ← HN.out]
        exact ⟨rfl, rfl⟩

end Go.Proofs.Ytemidaamnldjmaa

namespace Go.Proofs.Ytemidaamnldjmaa
open Go.RowKit

theorem xor_back {n : Nat} (h : n < 18446744073709551616) : IntKind.i64.wrap (bits .xor .u64 (n : Int) 9223372036854775808) = (n : Int) - 9223372036854775808 := by
  have hx : ∀ a : Nat, a < 18446744073709551616 → a ^^^ 9223372036854775808 = if a < 9223372036854775808 then a + 9223372036854775808 else a - 9223372036854775808 := by
    intro a ha
    have hm : (a ^^^ 9223372036854775808) % 2 ^ 63 = a % 2 ^ 63 := by
      rw [Nat.xor_mod_two_pow]
      show (a % 2 ^ 63) ^^^ 0 = _
      rw [Nat.xor_zero]
    have hd : (a ^^^ 9223372036854775808) / 2 ^ 63 = (a / 2 ^ 63) ^^^ 1 := by
      rw [Nat.xor_div_two_pow]
    have hd2 : a / 2 ^ 63 < 2 := by omega
    split
    · have : a / 2 ^ 63 = 0 := by omega
      rw [this] at hd
      have : (0 ^^^ 1 : Nat) = 1 := by decide
      omega
    · have : a / 2 ^ 63 = 1 := by omega
      rw [this] at hd
      have : (1 ^^^ 1 : Nat) = 0 := by decide
      omega
  have hb : bits .xor .u64 (n : Int) 9223372036854775808 = ((n ^^^ 9223372036854775808 : Nat) : Int) := by
    show IntKind.u64.wrap ((BitVec.ofInt 64 (n : Int) ^^^ BitVec.ofInt 64 9223372036854775808).toNat : Int) = _
    rw [BitVec.toNat_xor]
    have e1 : (BitVec.ofInt 64 (n : Int)).toNat = n := by rw [BitVec.toNat_ofInt]; omega
    have e2 : (BitVec.ofInt 64 9223372036854775808).toNat = 9223372036854775808 := by decide
    rw [e1, e2, hx n h]
    simp only [IntKind.wrap]
    split <;> split <;> simp_all [IntKind.bits, IntKind.signed] <;> omega
  rw [hb, hx n h]
  simp only [IntKind.wrap]
  split <;> split <;> simp_all [IntKind.bits, IntKind.signed] <;> omega
/-- a number, the place behind it and the error -/
def RetOI (at_ : Nat) (r : Nat × Int) (w : World) (en : Ending) (w' : World) : Prop :=
  en = .returned (.tuple #[.int .i64 (if r.2 = 0 then (r.1 : Int) - 9223372036854775808 else 0), .int .i64 (if r.2 = 0 then ((at_ + 8 : Nat) : Int) else 0), .int .i64 r.2]) ∧ w' = w
theorem ordF_lt (l : List UInt8) : (ordF l).1 < 18446744073709551616 := by
  unfold ordF
  split
  · show (0 : Nat) < _; decide
  · have := beF_lt (l.take 8) 0 0 (by decide)
    have h2 : (l.take 8).length ≤ 8 := by rw [List.length_take]; omega
    have h3 : 256 ^ (0 + (l.take 8).length) ≤ 256 ^ 8 := Nat.pow_le_pow_right (by decide) (by omega)
    exact Nat.lt_of_lt_of_le this (Nat.le_trans h3 (by decide))
set_option maxRecDepth 100000 in
theorem getordi_any (A : Option Addr) (l : List UInt8) (c at_ : Nat) (w : World) (hb : Bs w A l) (hat : at_ ≤ l.length) (hc : l.length ≤ c ∧ c ≤ 9223372036854775807) : Calls Try.prog 57 #[.slice A l.length c, .int .i64 (at_ : Int)] w (RetOI at_ (ordF (l.drop at_)) w) := by
  have hlt := ordF_lt (l.drop at_)
  have T := getordu_any A l c at_ w hb hat hc
  generalize ordF (l.drop at_) = r at *
  obtain ⟨n, e⟩ := r
  have hlt2 : n < 18446744073709551616 := hlt
  have hx := xor_back hlt2
  clear hlt
  by_cases he : e = 0
  · subst he
    have T2 : Calls Try.prog 66 #[.slice A l.length c, .int .i64 (at_ : Int)] w fun en w' => en = .returned (.tuple #[.int .u64 (n : Int), .int .i64 ((at_ + 8 : Nat) : Int), .int .i64 0]) ∧ w' = w := T
    go_enter Try.func57, Try.ntmps57
    go_wp2_with fail
    refine T2.mono ?_
    rintro en w2 ⟨rfl, rfl⟩
    go_wp2_with fail
    go_ret3
    exact ⟨rfl, rfl⟩
  · have d1_ : (e != 0) = true := by rw [bne_iff_ne]; exact he
    have HZ : Hid (RetOI at_ (n, e) w (.returned (.tuple #[.int .i64 0, .int .i64 0, .int .i64 e])) w) := by
      refine ⟨?_, rfl⟩
      show _ = Ending.returned (.tuple #[.int .i64 (if e = 0 then _ else 0), .int .i64 (if e = 0 then _ else 0), .int .i64 e])
      rw [if_neg he, if_neg he]
    have T2 : Calls Try.prog 66 #[.slice A l.length c, .int .i64 (at_ : Int)] w fun en w' => (∃ z, en = .returned (.tuple #[.int .u64 (n : Int), .int .i64 z, .int .i64 e])) ∧ w' = w := T.mono fun en w' h => ⟨⟨_, h.1⟩, h.2⟩
    clear he T
    go_enter Try.func57, Try.ntmps57
    go_wp2_with fail
    refine T2.mono ?_
    rintro en w2 ⟨⟨z, rfl⟩, rfl⟩
    go_wp2_with fail
    go_ret3
    exact HZ.out

theorem add_zero_ (a : Addr) : a.add 0 = a := by simp [Addr.add]
/-- the value of a part -/
def partV : List UInt8 → Option LVal
  | [] => none
  | k :: r =>
    if k = 0 then (if r.length = 0 then some .null else none)
    else if k = 1 then (if r = [0] then some (.bool false) else if r = [1] then some (.bool true) else none)
    else if k = 2 then (if r.length = 8 then some (.int ((beF 0 r : Int) - 9223372036854775808)) else none)
    else if k = 3 then some (.text ⟨r.toArray⟩) else if k = 4 then some (.bytes r) else none
/-- a value, if it is one -/
def RetPart (o : Option LVal) (w : World) (en : Ending) (w' : World) : Prop :=
  ∃ v, en = .returned (.tuple #[v, .bool o.isSome]) ∧ (∀ x, o = some x → AnyV w' (fun b => w.heap.size ≤ b) v x) ∧ Below w.heap.size w w'
set_option maxRecDepth 100000 in
set_option maxHeartbeats 4000000 in
theorem part_any (A : Option Addr) (p : List UInt8) (c : Nat) (w : World) (hb : Bs w A p) (hc : p.length ≤ c ∧ c ≤ 9223372036854775807) (hpl : p.length ≤ 1099511627776) : Calls Try.prog 47 #[.slice A p.length c] w (RetPart (partV p) w) := by
  cases p with
  | nil =>
    go_enter Try.func47, Try.ntmps47
    go_wp2_with fail
    go_ret2
    exact ⟨.nilIface, rfl, fun x hx => (by cases hx), Below.refl _ _⟩
  | cons kb r =>
    obtain ⟨ad, rfl, hadb, hc0⟩ := hb.at_ (k := 0) (by simp)
    rw [show ad.add 0 = ad by simp [Addr.add]] at hc0
    have hc0b : w.cell? ad = some (.int .u8 (kb.toNat : Int)) := hc0
    clear hc0
    have hl1 : (kb :: r).length = r.length + 1 := rfl
    rw [hl1] at hc hpl ⊢
    have hcut := Bs.cut hb (k := 1) (by rw [hl1]; omega) (show (kb :: r).length ≤ c by rw [hl1]; omega)
    have hdr : (kb :: r).drop 1 = r := rfl
    rw [hdr] at hcut
    clear hl1 hdr hb
    have g0_ : ((r.length : Int) + 1 == 0) = false := by rw [beq_eq_false_iff_ne]; omega
    have hk6 : kb.toNat = 0 ∨ kb.toNat = 1 ∨ kb.toNat = 2 ∨ kb.toNat = 3 ∨ kb.toNat = 4 ∨ 5 ≤ kb.toNat := by omega
    by_cases hc1 : c = 1
    · subst hc1
      obtain rfl : r = [] := List.length_eq_zero_iff.1 (by omega)
      have hR : Bs w (some ad) [] := Bs.nil_ _ _
      clear hcut
      go_enter Try.func47, Try.ntmps47
      go_upto_region 4 with fail
      rcases hk6 with hk | hk | hk | hk | hk | hk
      · have hkb : kb = 0 := UInt8.toNat_inj.1 (by rw [hk]; rfl)
        have HV : Hid (partV [kb] = some .null) := by show _ = _; subst hkb; rfl
        have e0_ : ((kb.toNat : Int) == 0) = true := by rw [beq_iff_eq]; omega
        clear hk hkb
        go_wp2_with fail
        go_ret2
        rw [HV.out]
        exact ⟨.nilIface, rfl, fun x hx => (by cases hx; rfl), Below.refl _ _⟩
      · have hkb : kb = 1 := UInt8.toNat_inj.1 (by rw [hk]; rfl)
        have HV : Hid (partV [kb] = none) := by show _ = _; subst hkb; rfl
        have e0_ : ((kb.toNat : Int) == 0) = false := by rw [beq_eq_false_iff_ne]; omega
        have e1_ : ((kb.toNat : Int) == 1) = true := by rw [beq_iff_eq]; omega
        clear hk hkb
        go_upto_region 8 with fail
        go_quiet (fail)
        go_wp2_with fail
        go_ret2
        rw [HV.out]
        exact ⟨_, rfl, fun x hx => (by cases hx), below_drewN (Below.refl _ _) _⟩
      · have hkb : kb = 2 := UInt8.toNat_inj.1 (by rw [hk]; rfl)
        have HV : Hid (partV [kb] = none) := by show _ = _; subst hkb; rfl
        have e0_ : ((kb.toNat : Int) == 0) = false := by rw [beq_eq_false_iff_ne]; omega
        have e1_ : ((kb.toNat : Int) == 1) = false := by rw [beq_eq_false_iff_ne]; omega
        have e2_ : ((kb.toNat : Int) == 2) = true := by rw [beq_iff_eq]; omega
        clear hk hkb
        have T2 : Calls Try.prog 57 #[.slice (some ad) 0 0, .int .i64 0] w fun en w' => en = .returned (.tuple #[.int .i64 0, .int .i64 0, .int .i64 5]) ∧ w' = w := getordi_any (some ad) [] 0 0 w hR (Nat.zero_le _) ⟨Nat.le_refl _, by decide⟩
        go_wp2_with fail
        refine T2.mono ?_
        rintro en w2 ⟨rfl, rfl⟩
        go_wp2_with fail
        go_ret2
        rw [HV.out]
        exact ⟨_, rfl, fun x hx => (by cases hx), Below.refl _ _⟩
      · have hkb : kb = 3 := UInt8.toNat_inj.1 (by rw [hk]; rfl)
        have HV : Hid (partV [kb] = some (.text ⟨#[]⟩)) := by show _ = _; subst hkb; rfl
        have e0_ : ((kb.toNat : Int) == 0) = false := by rw [beq_eq_false_iff_ne]; omega
        have e1_ : ((kb.toNat : Int) == 1) = false := by rw [beq_eq_false_iff_ne]; omega
        have e2_ : ((kb.toNat : Int) == 2) = false := by rw [beq_eq_false_iff_ne]; omega
        have e3_ : ((kb.toNat : Int) == 3) = true := by rw [beq_iff_eq]; omega
        have hcv : (convert 29 9 (.slice (some ad) 0 0)).run Try.prog w = .ok (.string ⟨#[]⟩) w := conv_any (some ad) [] 0 w hR
        clear hk hkb
        go_wp2_with fail
        go_ret2
        rw [HV.out]
        exact ⟨_, rfl, fun x hx => (by cases hx; exact ⟨rfl, by decide⟩), Below.refl _ _⟩
      · have hkb : kb = 4 := UInt8.toNat_inj.1 (by rw [hk]; rfl)
        have HV : Hid (partV [kb] = some (.bytes [])) := by show _ = _; subst hkb; rfl
        have e0_ : ((kb.toNat : Int) == 0) = false := by rw [beq_eq_false_iff_ne]; omega
        have e1_ : ((kb.toNat : Int) == 1) = false := by rw [beq_eq_false_iff_ne]; omega
        have e2_ : ((kb.toNat : Int) == 2) = false := by rw [beq_eq_false_iff_ne]; omega
        have e3_ : ((kb.toNat : Int) == 3) = false := by rw [beq_eq_false_iff_ne]; omega
        have e4_ : ((kb.toNat : Int) == 4) = true := by rw [beq_iff_eq]; omega
        clear hk hkb
        have dX : Below w.heap.size w (w.alloc (.cells #[] 5)) := (Below.refl _ _).alloc (Nat.le_refl _) _
        have oX : OwnB w.heap.size (w.alloc (.cells #[] 5)) (some ⟨w.heap.size, 0, none⟩) [] 0 := World.ownsRow_made w #[] 0 (Nat.le_refl _) (by simp [maxLen]) rfl
        go_wp2_with (at_builtin; refine wpList_app w.heap.size w _ rfl (.tmp 67) (.tmp 68) rfl (some ⟨w.heap.size, 0, none⟩) [] 0 rfl oX (some ad) [] 0 rfl (hR.below dX) (by decide) dX (Nat.le_refl _) dX.size ?_; intro B1 d1 acc1 w1 H1 o1 b1 g1 t1)
        go_ret2
        have HA : acc1 = [] := by rw [H1.out]; rfl
        subst HA
        rw [HV.out]
        refine ⟨_, rfl, fun x hx => ?_, b1⟩
        cases hx
        have hcp := o1.caps
        exact ⟨B1, d1, rfl, o1.bs (by decide), fun ad e hn => (OwnB.at_ o1 ad e hn).1, hcp.1, hcp.2⟩
      · have HV : Hid (partV [kb] = none) := by
          show _ = _
          have hne : ∀ j : UInt8, j.toNat ≤ 4 → ¬ kb = j := fun j hj h => by rw [h] at hk; omega
          show (if kb = 0 then _ else if kb = 1 then _ else if kb = 2 then _ else if kb = 3 then _ else if kb = 4 then _ else none) = _
          rw [if_neg (hne 0 (by decide)), if_neg (hne 1 (by decide)), if_neg (hne 2 (by decide)), if_neg (hne 3 (by decide)), if_neg (hne 4 (by decide))]
        have e0_ : ((kb.toNat : Int) == 0) = false := by rw [beq_eq_false_iff_ne]; omega
        have e1_ : ((kb.toNat : Int) == 1) = false := by rw [beq_eq_false_iff_ne]; omega
        have e2_ : ((kb.toNat : Int) == 2) = false := by rw [beq_eq_false_iff_ne]; omega
        have e3_ : ((kb.toNat : Int) == 3) = false := by rw [beq_eq_false_iff_ne]; omega
        have e4_ : ((kb.toNat : Int) == 4) = false := by rw [beq_eq_false_iff_ne]; omega
        clear hk
        go_wp2_with fail
        go_ret2
        rw [HV.out]
        exact ⟨_, rfl, fun x hx => (by cases hx), Below.refl _ _⟩
    · have hR : Bs w (some ⟨ad.block, ad.off + 1, none⟩) r := by rw [if_neg hc1] at hcut; exact hcut
      have hcr : r.length ≤ c - 1 ∧ c - 1 ≤ 9223372036854775807 := by omega
      have hc2 : ((c : Int) == 1) = false := by rw [beq_eq_false_iff_ne]; omega
      clear hcut
      go_enter Try.func47, Try.ntmps47
      go_upto_region 4 with fail
      rcases hk6 with hk | hk | hk | hk | hk | hk
      · have hkb : kb = 0 := UInt8.toNat_inj.1 (by rw [hk]; rfl)
        have HV : Hid (partV (kb :: r) = if r.length = 0 then some .null else none) := by show _ = _; subst hkb; rfl
        have e0_ : ((kb.toNat : Int) == 0) = true := by rw [beq_iff_eq]; omega
        clear hk hkb
        by_cases h0 : r.length = 0
        · have HV2 : Hid (partV (kb :: r) = some .null) := by show _ = _; rw [HV.out, if_pos h0]
          have g0 : ((r.length : Int) == 0) = true := by rw [beq_iff_eq]; omega
          clear h0
          go_wp2_with fail
          go_ret2
          rw [HV2.out]
          exact ⟨.nilIface, rfl, fun x hx => (by cases hx; rfl), Below.refl _ _⟩
        · have HV2 : Hid (partV (kb :: r) = none) := by show _ = _; rw [HV.out, if_neg h0]
          have g0 : ((r.length : Int) == 0) = false := by rw [beq_eq_false_iff_ne]; omega
          clear h0
          go_wp2_with fail
          go_ret2
          rw [HV2.out]
          exact ⟨.nilIface, rfl, fun x hx => (by cases hx), Below.refl _ _⟩
      · have hkb : kb = 1 := UInt8.toNat_inj.1 (by rw [hk]; rfl)
        have HV : Hid (partV (kb :: r) = if r = [0] then some (.bool false) else if r = [1] then some (.bool true) else none) := by show _ = _; subst hkb; rfl
        have e0_ : ((kb.toNat : Int) == 0) = false := by rw [beq_eq_false_iff_ne]; omega
        have e1_ : ((kb.toNat : Int) == 1) = true := by rw [beq_iff_eq]; omega
        clear hk hkb
        by_cases h1 : r.length = 1
        · obtain ⟨b, rfl⟩ : ∃ b, r = [b] := by
            match r, h1 with
            | [b], _ => exact ⟨b, rfl⟩
          obtain ⟨rd, e1, hrb, hrc⟩ := hR.at_ (k := 0) (by simp)
          obtain rfl := Option.some.inj e1
          rw [add_zero_] at hrc
          have hrc2 : _ = some (Value.int .u8 (b.toNat : Int)) := hrc
          clear h1 e1 hrc
          rcases (by omega : b.toNat = 0 ∨ b.toNat = 1 ∨ 2 ≤ b.toNat) with hb0 | hb1 | hb2
          · have hbb : b = 0 := UInt8.toNat_inj.1 (by rw [hb0]; rfl)
            have HV2 : Hid (partV (kb :: [b]) = some (.bool false)) := by show _ = _; rw [HV.out, hbb]; rfl
            have g1 : ((b.toNat : Int) == 1) = false := by rw [beq_eq_false_iff_ne]; omega
            have g2 : (b.toNat : Int) < 2 := by omega
            clear hb0 hbb
            go_upto_region 8 with fail
            go_quiet (fail)
            go_wp2_with fail
            go_ret2
            rw [HV2.out]
            exact ⟨_, rfl, fun x hx => (by cases hx; rfl), below_drewN (Below.refl _ _) _⟩
          · have hbb : b = 1 := UInt8.toNat_inj.1 (by rw [hb1]; rfl)
            have HV2 : Hid (partV (kb :: [b]) = some (.bool true)) := by show _ = _; rw [HV.out, hbb]; rfl
            have g1 : ((b.toNat : Int) == 1) = true := by rw [beq_iff_eq]; omega
            have g2 : (b.toNat : Int) < 2 := by omega
            clear hb1 hbb
            go_upto_region 8 with fail
            go_quiet (fail)
            go_wp2_with fail
            go_ret2
            rw [HV2.out]
            exact ⟨_, rfl, fun x hx => (by cases hx; rfl), below_drewN (Below.refl _ _) _⟩
          · have HV2 : Hid (partV (kb :: [b]) = none) := by
              show _ = _
              rw [HV.out, if_neg (fun h => by injection h with h _; rw [h] at hb2; exact absurd hb2 (by decide)), if_neg (fun h => by injection h with h _; rw [h] at hb2; exact absurd hb2 (by decide))]
            have g1 : ((b.toNat : Int) == 1) = false := by rw [beq_eq_false_iff_ne]; omega
            have g2 : ¬ (b.toNat : Int) < 2 := by omega
            clear hb2
            go_upto_region 8 with fail
            go_quiet (fail)
            go_wp2_with fail
            go_ret2
            rw [HV2.out]
            exact ⟨_, rfl, fun x hx => (by cases hx), below_drewN (Below.refl _ _) _⟩
        · have HV2 : Hid (partV (kb :: r) = none) := by
            show _ = _
            rw [HV.out, if_neg (fun h => h1 (by rw [h]; rfl)), if_neg (fun h => h1 (by rw [h]; rfl))]
          have g0 : ((r.length : Int) == 1) = false := by rw [beq_eq_false_iff_ne]; omega
          clear h1
          go_upto_region 8 with fail
          go_quiet (fail)
          go_wp2_with fail
          go_ret2
          rw [HV2.out]
          exact ⟨_, rfl, fun x hx => (by cases hx), below_drewN (Below.refl _ _) _⟩
      · have hkb : kb = 2 := UInt8.toNat_inj.1 (by rw [hk]; rfl)
        have HV : Hid (partV (kb :: r) = if r.length = 8 then some (.int ((beF 0 r : Int) - 9223372036854775808)) else none) := by show _ = _; subst hkb; rfl
        have e0_ : ((kb.toNat : Int) == 0) = false := by rw [beq_eq_false_iff_ne]; omega
        have e1_ : ((kb.toNat : Int) == 1) = false := by rw [beq_eq_false_iff_ne]; omega
        have e2_ : ((kb.toNat : Int) == 2) = true := by rw [beq_iff_eq]; omega
        clear hk hkb
        have T := getordi_any (some ⟨ad.block, ad.off + 1, none⟩) r (c - 1) 0 w hR (Nat.zero_le _) hcr
        rw [List.drop_zero] at T
        by_cases h8 : r.length < 8
        · have HV2 : Hid (partV (kb :: r) = none) := by show _ = _; rw [HV.out, if_neg (by omega)]
          rw [show ordF r = (0, 5) from by unfold ordF; rw [if_pos h8]] at T
          have T2 : Calls Try.prog 57 #[.slice (some ⟨ad.block, ad.off + 1, none⟩) r.length (c - 1), .int .i64 0] w fun en w' => en = .returned (.tuple #[.int .i64 0, .int .i64 0, .int .i64 5]) ∧ w' = w := T
          clear T
          go_wp2_with fail
          refine T2.mono ?_
          rintro en w2 ⟨rfl, rfl⟩
          go_wp2_with fail
          go_ret2
          rw [HV2.out]
          exact ⟨_, rfl, fun x hx => (by cases hx), Below.refl _ _⟩
        · rw [show ordF r = (beF 0 (r.take 8), 0) from by unfold ordF; rw [if_neg h8]] at T
          have T2 : Calls Try.prog 57 #[.slice (some ⟨ad.block, ad.off + 1, none⟩) r.length (c - 1), .int .i64 0] w fun en w' => en = .returned (.tuple #[.int .i64 ((beF 0 (r.take 8) : Int) - 9223372036854775808), .int .i64 8, .int .i64 0]) ∧ w' = w := T
          clear T
          by_cases h9 : r.length = 8
          · have HV2 : Hid (partV (kb :: r) = some (.int ((beF 0 (r.take 8) : Int) - 9223372036854775808))) := by show _ = _; rw [HV.out, if_pos h9, List.take_of_length_le (Nat.le_of_eq h9)]
            have g0 : ((8 : Int) == (r.length : Int)) = true := by rw [beq_iff_eq]; omega
            generalize beF 0 (r.take 8) = n at *
            clear h9 h8
            go_wp2_with fail
            refine T2.mono ?_
            rintro en w2 ⟨rfl, rfl⟩
            go_wp2_with fail
            go_ret2
            rw [HV2.out]
            exact ⟨_, rfl, fun x hx => (by cases hx; rfl), Below.refl _ _⟩
          · have HV2 : Hid (partV (kb :: r) = none) := by show _ = _; rw [HV.out, if_neg h9]
            have g0 : ((8 : Int) == (r.length : Int)) = false := by rw [beq_eq_false_iff_ne]; omega
            generalize beF 0 (r.take 8) = n at *
            clear h9 h8
            go_wp2_with fail
            refine T2.mono ?_
            rintro en w2 ⟨rfl, rfl⟩
            go_wp2_with fail
            go_ret2
            rw [HV2.out]
            exact ⟨_, rfl, fun x hx => (by cases hx), Below.refl _ _⟩
      · have hkb : kb = 3 := UInt8.toNat_inj.1 (by rw [hk]; rfl)
        have HV : Hid (partV (kb :: r) = some (.text ⟨r.toArray⟩)) := by show _ = _; subst hkb; rfl
        have e0_ : ((kb.toNat : Int) == 0) = false := by rw [beq_eq_false_iff_ne]; omega
        have e1_ : ((kb.toNat : Int) == 1) = false := by rw [beq_eq_false_iff_ne]; omega
        have e2_ : ((kb.toNat : Int) == 2) = false := by rw [beq_eq_false_iff_ne]; omega
        have e3_ : ((kb.toNat : Int) == 3) = true := by rw [beq_iff_eq]; omega
        have hcv := conv_any (some ⟨ad.block, ad.off + 1, none⟩) r (c - 1) w hR
        clear hk hkb
        go_wp2_with fail
        go_ret2
        rw [HV.out]
        exact ⟨_, rfl, fun x hx => (by cases hx; exact ⟨rfl, by show r.toArray.size ≤ _; rw [List.size_toArray]; omega⟩), Below.refl _ _⟩
      · have hkb : kb = 4 := UInt8.toNat_inj.1 (by rw [hk]; rfl)
        have HV : Hid (partV (kb :: r) = some (.bytes r)) := by show _ = _; subst hkb; rfl
        have e0_ : ((kb.toNat : Int) == 0) = false := by rw [beq_eq_false_iff_ne]; omega
        have e1_ : ((kb.toNat : Int) == 1) = false := by rw [beq_eq_false_iff_ne]; omega
        have e2_ : ((kb.toNat : Int) == 2) = false := by rw [beq_eq_false_iff_ne]; omega
        have e3_ : ((kb.toNat : Int) == 3) = false := by rw [beq_eq_false_iff_ne]; omega
        have e4_ : ((kb.toNat : Int) == 4) = true := by rw [beq_iff_eq]; omega
        clear hk hkb
        have dX : Below w.heap.size w (w.alloc (.cells #[] 5)) := (Below.refl _ _).alloc (Nat.le_refl _) _
        have oX : OwnB w.heap.size (w.alloc (.cells #[] 5)) (some ⟨w.heap.size, 0, none⟩) [] 0 := World.ownsRow_made w #[] 0 (Nat.le_refl _) (by simp [maxLen]) rfl
        go_wp2_with (at_builtin; refine wpList_app w.heap.size w _ rfl (.tmp 67) (.tmp 68) rfl (some ⟨w.heap.size, 0, none⟩) [] 0 rfl oX (some ⟨ad.block, ad.off + 1, none⟩) r (c - 1) rfl (hR.below dX) (by rw [List.length_nil]; omega) dX (Nat.le_refl _) dX.size ?_; intro B1 d1 acc1 w1 H1 o1 b1 g1 t1)
        go_ret2
        have HA : acc1 = r := by rw [H1.out]; rfl
        subst HA
        rw [HV.out]
        refine ⟨_, rfl, fun x hx => ?_, b1⟩
        cases hx
        have hcp := o1.caps
        exact ⟨B1, d1, rfl, o1.bs (by omega), fun ad e hn => (OwnB.at_ o1 ad e hn).1, hcp.1, hcp.2⟩
      · have HV : Hid (partV (kb :: r) = none) := by
          show _ = _
          have hne : ∀ j : UInt8, j.toNat ≤ 4 → ¬ kb = j := fun j hj h => by rw [h] at hk; omega
          show (if kb = 0 then _ else if kb = 1 then _ else if kb = 2 then _ else if kb = 3 then _ else if kb = 4 then _ else none) = _
          rw [if_neg (hne 0 (by decide)), if_neg (hne 1 (by decide)), if_neg (hne 2 (by decide)), if_neg (hne 3 (by decide)), if_neg (hne 4 (by decide))]
        have e0_ : ((kb.toNat : Int) == 0) = false := by rw [beq_eq_false_iff_ne]; omega
        have e1_ : ((kb.toNat : Int) == 1) = false := by rw [beq_eq_false_iff_ne]; omega
        have e2_ : ((kb.toNat : Int) == 2) = false := by rw [beq_eq_false_iff_ne]; omega
        have e3_ : ((kb.toNat : Int) == 3) = false := by rw [beq_eq_false_iff_ne]; omega
        have e4_ : ((kb.toNat : Int) == 4) = false := by rw [beq_eq_false_iff_ne]; omega
        clear hk
        go_wp2_with fail
        go_ret2
        rw [HV.out]
        exact ⟨_, rfl, fun x hx => (by cases hx), Below.refl _ _⟩
end Go.Proofs.Ytemidaamnldjmaa

namespace Go.Proofs.Ytemidaamnldjmaa
open Go.RowKit

def mapV : List (List UInt8) → Option (List LVal)
  | [] => some []
  | p :: ps => match partV p, mapV ps with
    | some x, some xs => some (x :: xs)
    | _, _ => none
theorem mapV_snoc : ∀ {l : List (List UInt8)} {p : List UInt8} {xs : List LVal} {x : LVal}, mapV l = some xs → partV p = some x → mapV (l ++ [p]) = some (xs ++ [x])
  | [], p, xs, x, h, hx => by
    have h2 : (some [] : Option (List LVal)) = some xs := h
    injection h2 with h2
    subst h2
    show (match partV p, mapV [] with | some x, some xs => some (x :: xs) | _, _ => none) = _
    rw [hx]; rfl
  | q :: l, p, xs, x, h, hx => by
    unfold mapV at h
    cases hq : partV q with
    | none => rw [hq] at h; cases h
    | some y =>
      cases hl : mapV l with
      | none => rw [hq, hl] at h; cases h
      | some ys =>
        rw [hq, hl] at h
        injection h with h
        subst h
        show (match partV q, mapV (l ++ [p]) with | some x, some xs => some (x :: xs) | _, _ => none) = _
        rw [hq, mapV_snoc hl hx]; rfl
theorem mapV_none : ∀ {l : List (List UInt8)} {p : List UInt8}, p ∈ l → partV p = none → mapV l = none
  | q :: l, p, hp, hn => by
    unfold mapV
    rcases List.mem_cons.1 hp with rfl | hp
    · rw [hn]
    · rw [mapV_none hp hn]
      cases partV q <;> rfl
theorem mapV_len : ∀ {l : List (List UInt8)} {xs : List LVal}, mapV l = some xs → xs.length = l.length
  | [], xs, h => by
    have h2 : (some [] : Option (List LVal)) = some xs := h
    injection h2 with h2
    subst h2; rfl
  | q :: l, xs, h => by
    unfold mapV at h
    cases hq : partV q with
    | none => rw [hq] at h; cases h
    | some y =>
      cases hl : mapV l with
      | none => rw [hq, hl] at h; cases h
      | some ys =>
        rw [hq, hl] at h
        injection h with h
        subst h
        rw [List.length_cons, List.length_cons, mapV_len hl]
/-- a row's bytes read back, and the error -/
def decL (l : List UInt8) : List LVal × Int :=
  if (partsL l).2 ≠ 0 then ([], (partsL l).2) else match mapV (partsL l).1 with
    | some xs => (xs, 0)
    | none => ([], 3)
theorem partsA_small : ∀ {f : Nat} {l : List UInt8} {acc : List (List UInt8)}, (partsA f l acc).1.length ≤ acc.length + l.length ∧ ∀ p ∈ (partsA f l acc).1, p ∈ acc ∨ p.length ≤ l.length
  | 0, l, acc => ⟨Nat.le_add_right _ _, fun p hp => .inl hp⟩
  | f + 1, l, acc => by
    unfold partsA
    by_cases h0 : l.length = 0
    · rw [if_pos h0]; exact ⟨Nat.le_add_right _ _, fun p hp => .inl hp⟩
    rw [if_neg h0]
    by_cases h1 : (getF l 0 0).2.2 ≠ 0
    · rw [if_pos h1]; exact ⟨Nat.zero_le _, fun p hp => by cases hp⟩
    rw [if_neg h1]
    by_cases h2 : l.length - (getF l 0 0).2.1 < (getF l 0 0).1
    · rw [if_pos h2]; exact ⟨Nat.zero_le _, fun p hp => by cases hp⟩
    rw [if_neg h2]
    have hk : 0 < (getF l 0 0).2.1 := by
      have : getF l 0 0 = ((getF l 0 0).1, (getF l 0 0).2.1, 0) := by
        have h3 : (getF l 0 0).2.2 = 0 := Classical.byContradiction h1
        rw [← h3]
      exact (getF_ok this).1
    obtain ⟨i1, i2⟩ := partsA_small (f := f) (l := l.drop ((getF l 0 0).2.1 + (getF l 0 0).1)) (acc := acc ++ [(l.drop (getF l 0 0).2.1).take (getF l 0 0).1])
    rw [List.length_append, List.length_singleton, List.length_drop] at i1
    refine ⟨by omega, fun p hp => ?_⟩
    rcases i2 p hp with h | h
    · rcases List.mem_append.1 h with h | h
      · exact .inl h
      · have : p = (l.drop (getF l 0 0).2.1).take (getF l 0 0).1 := by simpa using h
        rw [this, List.length_take, List.length_drop]
        exact .inr (by omega)
    · rw [List.length_drop] at h
      exact .inr (by omega)
/-- values of the call's own, and an error -/
def RetDec (r : List LVal × Int) (w : World) (en : Ending) (w' : World) : Prop :=
  ∃ D d, en = .returned (.tuple #[.slice D r.1.length d, .int .i64 r.2]) ∧ Own AnyE 20 w' w.heap.size (fun b => w.heap.size ≤ b ∧ b < w'.heap.size) (.slice D r.1.length d) r.1 ∧ Below w.heap.size w w'

set_option maxRecDepth 100000 in
set_option maxHeartbeats 4000000 in
theorem decode_any (A : Option Addr) (l : List UInt8) (c : Nat) (w : World) (hb : Bs w A l) (hc : l.length ≤ c ∧ c ≤ 9223372036854775807) (hl5 : l.length ≤ 1099511627776) : Calls Try.prog 26 #[.slice A l.length c] w (RetDec (decL l) w) := by
  obtain ⟨i1, hi1, hy0, hy1, hy2⟩ := info_parts Try.infoAny
  obtain ⟨ps1, ps2⟩ := partsA_small (f := l.length) (l := l) (acc := [])
  have T := parts_any A l c w hb hc hl5
  have hps : partsA l.length l [] = partsL l := rfl
  rw [hps] at ps1 ps2
  have HDL : Hid (decL l = if (partsL l).2 ≠ 0 then ([], (partsL l).2) else match mapV (partsL l).1 with | some xs => (xs, 0) | none => ([], 3)) := rfl
  generalize partsL l = r at *
  obtain ⟨ps, e⟩ := r
  have ps1' : ps.length ≤ l.length := by have : ps.length ≤ [].length + l.length := ps1; simpa using this
  have ps2' : ∀ p ∈ ps, p.length ≤ l.length := fun p hp => (ps2 p hp).resolve_left (by simp)
  have HPS := Lib.hid ps2'
  have T2 : Calls Try.prog 46 #[.slice A l.length c] w fun en w' => ∃ D d, en = .returned (.tuple #[.slice D ps.length d, .int .i64 e]) ∧ Own BsE 29 w' w.heap.size (fun b => w.heap.size ≤ b ∧ b < w'.heap.size) (.slice D ps.length d) ps ∧ Below w.heap.size w w' := T
  clear T hps ps1 ps2 ps2'
  go_enter Try.func26, Try.ntmps26
  go_wp2_with fail
  refine T2.mono ?_
  rintro en w1 ⟨P, dp, rfl, oP, b1⟩
  have z1 := b1.size
  have sP : Sl BsE w1 P ps := Own.sl oP (by simp only [BsE]; omega)
  clear T2 oP
  by_cases he : e = 0
  · have d0_ : (e != 0) = false := by rw [he]; rfl
    have HD : Hid (decL l = match mapV ps with | some xs => (xs, 0) | none => ([], 3)) := by show _ = _; rw [HDL.out, if_neg (fun h => h he)]
    clear he HDL
    go_wp2_with fail
    go_loopw [6, 8, 9, 10, 21] (fun o _ _ _ j wr => ∃ (k : Nat) (xs : List LVal) (B : Option Addr) (d : Nat), k ≤ ps.length ∧ j = .int .i64 (k : Int) ∧ o = .slice B xs.length d ∧ Own AnyE 20 wr w1.heap.size (fun b => w.heap.size ≤ b ∧ b < wr.heap.size) (.slice B xs.length d) xs ∧ mapV (ps.take k) = some xs ∧ Below w1.heap.size w1 wr) (fun _ _ _ _ j _ => ps.length - (intOf j).toNat)
    case atStart => exact ⟨0, [], none, 0, Nat.zero_le _, rfl, rfl, Own.nil_ AnyE _ _ _ _, rfl, Below.refl _ _⟩
    case round =>
      obtain ⟨k, xs, B, d, hk, rfl, rfl, o, hm, br⟩ := hrel
      have hxk : xs.length ≤ k := by have := mapV_len hm; rw [List.length_take] at this; omega
      have HM := Lib.hid hm
      clear hm
      have zr := br.size
      by_cases hlt : k < ps.length
      · have hlt' : (k : Int) < (ps.length : Int) := by omega
        obtain ⟨ad, D, c0, rfl, ha, hcell, hD, -, hcp⟩ := BsE.at_ (sP.below br) hlt
        have hpl : ps[k].length ≤ l.length := HPS.out _ (List.getElem_mem hlt)
        have T3 := part_any D ps[k] c0 wr hD hcp (by omega)
        cases hv : partV ps[k] with
        | none =>
          have HN : Hid (decL l = ([], 3)) := by show _ = _; rw [HD.out, mapV_none (List.getElem_mem hlt) hv]
          rw [hv] at T3
          generalize ps[k] = p at *
          clear hv
          go_wp2_with fail
          refine T3.mono ?_
          rintro en w2 ⟨v, rfl, _, b2⟩
          simp only [Option.isSome_none]
          go_wp2_with fail
          go_ret2
          rw [HN.out]
          exact ⟨none, 0, rfl, Own.nil_ AnyE _ _ _ _, (b1.trans (br.mono z1)).trans (b2.mono (b1.trans (br.mono z1)).size)⟩
        | some x =>
          have HS : Hid (mapV (ps.take (k + 1)) = some (xs ++ [x])) := by show _ = _; rw [List.take_succ_eq_append_getElem hlt]; exact mapV_snoc HM.out hv
          rw [hv] at T3
          generalize ps[k] = p at *
          clear hv
          go_wp2_with fail
          refine T3.mono ?_
          rintro en w2 ⟨v, rfl, hv2, b2⟩
          simp only [Option.isSome_some]
          have hv3 := hv2 x rfl
          clear hv2
          have b12 := br.trans (b2.mono zr)
          have z2 := b2.size
          rcases hv3.shape with rfl | ⟨T0, u0, rfl⟩
          · have dX : Below w2.heap.size w2 (w2.alloc (.cells #[.nilIface] 20)) := (Below.refl _ _).alloc (Nat.le_refl _) _
            have bX := b12.trans (dX.mono b12.size)
            have oX := Own.below (Own.mono (Own.below o b2) (S' := fun b => w.heap.size ≤ b ∧ b < w2.heap.size) (fun b hb _ hs => ⟨hs.1, hb⟩)) dX
            have hvX : AnyV (w2.alloc (.cells #[.nilIface] 20)) (fun b => (w.heap.size ≤ b ∧ b < w2.heap.size) ∧ (Value.slice B xs.length d).ownBlock ≠ some b) (.nilIface) x := AnyV.same (AnyV.mono hv3 (fun b hlt2 hb => ⟨⟨by omega, hlt2⟩, fun e => by have := (Own.lt o b e).2; omega⟩)) (.of_below dX)
            go_wp2_with (at_builtin; refine wpList_appE AnyE w1.heap.size w1 _ rfl (.tmp 32) (.tmp 34) 20 64 rfl i1 _ Try.underlying64 hi1 hy0 hy1 hy2 rfl _ B xs d rfl oX _ [.nilIface] x 1 rfl _ (Reads.new1 _ _ _) ⟨_, rfl, hvX⟩ (by simp only [AnyE]; omega) (by simp only [maxLen]; omega) bX (Nat.le_refl _) bX.size ?_; intro B9 d9 xs9 w9 H9 o9 b9 g9 t9)
            go_roundw
            case rel => exact ⟨k + 1, xs9, B9, d9, by omega, by go_num, rfl, Own.mono o9 (fun b hb _ hs => ⟨hs.1, hb⟩), by rw [H9.out]; exact HS.out, b9⟩
            case measure => simp [intOf]; omega
          · have dX : Below w2.heap.size w2 (w2.alloc (.cells #[.iface T0 u0] 20)) := (Below.refl _ _).alloc (Nat.le_refl _) _
            have bX := b12.trans (dX.mono b12.size)
            have oX := Own.below (Own.mono (Own.below o b2) (S' := fun b => w.heap.size ≤ b ∧ b < w2.heap.size) (fun b hb _ hs => ⟨hs.1, hb⟩)) dX
            have hvX : AnyV (w2.alloc (.cells #[.iface T0 u0] 20)) (fun b => (w.heap.size ≤ b ∧ b < w2.heap.size) ∧ (Value.slice B xs.length d).ownBlock ≠ some b) (.iface T0 u0) x := AnyV.same (AnyV.mono hv3 (fun b hlt2 hb => ⟨⟨by omega, hlt2⟩, fun e => by have := (Own.lt o b e).2; omega⟩)) (.of_below dX)
            go_wp2_with (at_builtin; refine wpList_appE AnyE w1.heap.size w1 _ rfl (.tmp 32) (.tmp 34) 20 64 rfl i1 _ Try.underlying64 hi1 hy0 hy1 hy2 rfl _ B xs d rfl oX _ [.iface T0 u0] x 1 rfl _ (Reads.new1 _ _ _) ⟨_, rfl, hvX⟩ (by simp only [AnyE]; omega) (by simp only [maxLen]; omega) bX (Nat.le_refl _) bX.size ?_; intro B9 d9 xs9 w9 H9 o9 b9 g9 t9)
            go_roundw
            case rel => exact ⟨k + 1, xs9, B9, d9, by omega, by go_num, rfl, Own.mono o9 (fun b hb _ hs => ⟨hs.1, hb⟩), by rw [H9.out]; exact HS.out, b9⟩
            case measure => simp [intOf]; omega
      · obtain rfl : k = ps.length := by omega
        have HN : Hid (decL l = (xs, 0)) := by
          show _ = _
          have h := HM.out
          rw [List.take_length] at h
          rw [HD.out, h]
        go_wp2_with fail
        go_ret2
        rw [HN.out]
        exact ⟨B, d, rfl, Own.base o z1, b1.trans (br.mono z1)⟩
  · have d0_ : (e != 0) = true := by rw [bne_iff_ne]; exact he
    have HN : Hid (decL l = ([], e)) := by show _ = _; rw [HDL.out, if_pos he]
    clear he HDL
    go_wp2_with fail
    go_ret2
    rw [HN.out]
    exact ⟨none, 0, rfl, Own.nil_ AnyE _ _ _ _, b1⟩
end Go.Proofs.Ytemidaamnldjmaa

namespace Go.Proofs.Ytemidaamnldjmaa
open Go.RowKit

theorem getF_putU (n : Nat) : ∀ (i m : Nat) (s : List UInt8), i ≤ 8 → n < 128 ^ (9 - i) → (i = 0 ∨ 0 < n) → getF (putU n ++ s) i m = (m + n * 128 ^ i, i + (putU n).length, 0) := by
  induction n using Nat.strongRecOn with
  | ind n ih =>
    intro i m s hi hn h0
    by_cases h : n < 128
    · rw [putU_lt h]
      have hb : (UInt8.ofNat n).toNat = n := by simp [Nat.mod_eq_of_lt (show n < 256 by omega)]
      show (if (i = 9 ∧ 1 < (UInt8.ofNat n).toNat) ∨ ((UInt8.ofNat n).toNat = 0 ∧ 0 < i) then _ else if (UInt8.ofNat n).toNat < 128 then (m + (UInt8.ofNat n).toNat % 128 * 128 ^ i, i + 1, (0 : Int)) else _) = _
      rw [hb, if_neg (by omega), if_pos h, Nat.mod_eq_of_lt h]
      rfl
    · rw [putU_ge h]
      have hb : (UInt8.ofNat (n % 128 + 128)).toNat = n % 128 + 128 := by simp [Nat.mod_eq_of_lt (show n % 128 + 128 < 256 by omega)]
      have hi7 : i ≤ 7 := by
        apply Classical.byContradiction
        intro h2
        have : i = 8 := by omega
        subst this
        have : n < 128 ^ 1 := hn
        omega
      have hd : n / 128 < 128 ^ (9 - (i + 1)) := by
        rw [Nat.div_lt_iff_lt_mul (by decide), ← Nat.pow_succ, show (9 - (i + 1)).succ = 9 - i by omega]
        exact hn
      show (if (i = 9 ∧ 1 < (UInt8.ofNat (n % 128 + 128)).toNat) ∨ ((UInt8.ofNat (n % 128 + 128)).toNat = 0 ∧ 0 < i) then _ else if (UInt8.ofNat (n % 128 + 128)).toNat < 128 then _ else getF (putU (n / 128) ++ s) (i + 1) (m + (UInt8.ofNat (n % 128 + 128)).toNat % 128 * 128 ^ i)) = _
      rw [hb, if_neg (by omega), if_neg (by omega), ih (n / 128) (by omega) (i + 1) _ s (by omega) hd (.inr (by omega))]
      have e1 : (n % 128 + 128) % 128 = n % 128 := by omega
      have e2 : n % 128 * 128 ^ i + n / 128 * 128 ^ (i + 1) = n * 128 ^ i := by
        rw [Nat.pow_succ, Nat.mul_comm (128 ^ i) 128, ← Nat.mul_assoc, ← Nat.add_mul]
        congr 1
        omega
      rw [e1, Nat.add_assoc, e2, List.length_cons]
      congr 2
      omega
theorem putU_pos (n : Nat) : 0 < (putU n).length := by
  by_cases h : n < 128
  · rw [putU_lt h]; exact Nat.one_pos
  · rw [putU_ge h]; simp
theorem partsA_frame : ∀ {ls : List (List UInt8)} {f : Nat} {acc : List (List UInt8)}, (∀ l ∈ ls, l.length < 1099511627776) → ls.length ≤ f → partsA f (frameL ls) acc = (acc ++ ls, 0)
  | [], f, acc, _, _ => by rw [List.append_nil]; exact partsA_end f acc
  | l :: ls, 0, acc, _, h => by simp at h
  | l :: ls, f + 1, acc, hs, hf => by
    have hl := hs l (List.mem_cons_self ..)
    have hfr : frameL (l :: ls) = putU l.length ++ (l ++ frameL ls) := by
      show (putU l.length ++ l) ++ frameL ls = _
      rw [List.append_assoc]
    have hg := getF_putU l.length 0 0 (l ++ frameL ls) (by decide) (Nat.lt_trans hl (by decide)) (.inl rfl)
    rw [Nat.zero_add, Nat.zero_add, Nat.pow_zero, Nat.mul_one] at hg
    unfold partsA
    rw [hfr, hg]
    have hp := putU_pos l.length
    have hln : (putU l.length ++ (l ++ frameL ls)).length = (putU l.length).length + (l.length + (frameL ls).length) := by rw [List.length_append, List.length_append]
    rw [if_neg (by rw [hln]; omega), if_neg (fun h => h rfl), if_neg (by rw [hln]; show ¬ _ - (putU l.length).length < l.length; omega)]
    show partsA f ((putU l.length ++ (l ++ frameL ls)).drop ((putU l.length).length + l.length)) (acc ++ [((putU l.length ++ (l ++ frameL ls)).drop (putU l.length).length).take l.length]) = _
    have h5 : (putU l.length ++ (l ++ frameL ls)).drop ((putU l.length).length + l.length) = frameL ls := by rw [← List.drop_drop, List.drop_left, List.drop_left]
    rw [h5, List.drop_left, List.take_left, partsA_frame (fun x hx => hs x (List.mem_cons_of_mem _ hx)) (by simpa using hf), List.append_assoc]
    rfl
theorem frameL_ge : ∀ ls : List (List UInt8), ls.length ≤ (frameL ls).length
  | [] => Nat.le_refl _
  | l :: ls => by
    have := frameL_ge ls
    have hp := putU_pos l.length
    show ls.length + 1 ≤ ((putU l.length ++ l) ++ frameL ls).length
    rw [List.length_append, List.length_append]
    omega
theorem partsL_frame {ls : List (List UInt8)} (h : ∀ l ∈ ls, l.length < 1099511627776) : partsL (frameL ls) = (ls, 0) := by
  have := partsA_frame (acc := []) h (frameL_ge ls)
  rw [List.nil_append] at this
  exact this
/-- bytes as a number, and back -/
theorem beN_beF : ∀ (k : Nat) (l : List UInt8), l.length = k → beN k (beF 0 l) = l
  | 0, l, h => by rw [List.length_eq_zero_iff.1 h]; rfl
  | k + 1, l, h => by
    have hne : l ≠ [] := fun h2 => by rw [h2] at h; cases h
    obtain ⟨l', x, rfl⟩ : ∃ l' x, l = l' ++ [x] := ⟨l.dropLast, l.getLast hne, (List.dropLast_concat_getLast hne).symm⟩
    rw [List.length_append, List.length_singleton] at h
    have hx := x.toNat_lt
    rw [beF_snoc]
    show beN k ((beF 0 l' * 256 + x.toNat) / 256) ++ [UInt8.ofNat ((beF 0 l' * 256 + x.toNat) % 256)] = _
    rw [show (beF 0 l' * 256 + x.toNat) / 256 = beF 0 l' by omega, show (beF 0 l' * 256 + x.toNat) % 256 = x.toNat by omega, beN_beF k l' (by omega)]
    congr 2
    exact UInt8.toNat_inj.1 (by simp)
theorem okey_beF {l : List UInt8} (h : l.length = 8) : okey ((beF 0 l : Int) - 9223372036854775808) = l := by
  unfold okey
  rw [show ((beF 0 l : Int) - 9223372036854775808 + 9223372036854775808).toNat = beF 0 l by omega]
  exact beN_beF 8 l h
theorem beF_beN : ∀ (k n : Nat), n < 256 ^ k → beF 0 (beN k n) = n
  | 0, n, h => by
    have : n = 0 := by simpa using h
    subst this; rfl
  | k + 1, n, h => by
    show beF 0 (beN k (n / 256) ++ [UInt8.ofNat (n % 256)]) = n
    rw [beF_snoc, beF_beN k (n / 256) (by rw [Nat.div_lt_iff_lt_mul (by decide), ← Nat.pow_succ]; exact h), u8_ofNat (by omega)]
    omega
/-- a value in form is read back from its part -/
theorem partV_part {x : LVal} (he : x.err = 0) (hw : x.wfv) : partV x.part = some x := by
  cases x with
  | other n => exact absurd he (show ¬ ((10 : Int) = 0) by decide)
  | null => rfl
  | bool b => cases b <;> rfl
  | int n =>
    obtain ⟨h1, h2⟩ := hw
    have h1' : -9223372036854775808 ≤ n := h1
    have h2' : n < 9223372036854775808 := h2
    show (if (okey n).length = 8 then some (LVal.int ((beF 0 (okey n) : Int) - 9223372036854775808)) else none) = _
    rw [if_pos (okey_len n)]
    have h3 : beF 0 (okey n) = (n + 9223372036854775808).toNat := by
      unfold okey
      exact beF_beN 8 _ (by show _ < 18446744073709551616; omega)
    rw [h3]
    congr 2
    omega
  | text s =>
    show some (LVal.text ⟨(strL s).toArray⟩) = _
    congr 2
  | bytes l => rfl
theorem mapV_parts : ∀ {xs : List LVal}, (∀ x ∈ xs, x.err = 0 ∧ x.wfv) → mapV (xs.map LVal.part) = some xs
  | [], _ => rfl
  | x :: xs, h => by
    have h1 := h x (List.mem_cons_self ..)
    show (match partV x.part, mapV (xs.map LVal.part) with | some x, some xs => some (x :: xs) | _, _ => none) = _
    rw [partV_part h1.1 h1.2, mapV_parts fun y hy => h y (List.mem_cons_of_mem _ hy)]
/-- a row is read back from its bytes -/
theorem decL_encL {xs : List LVal} (h : ∀ x ∈ xs, x.err = 0 ∧ x.wfv) (hs : ∀ x ∈ xs, x.sm) : decL (encL xs) = (xs, 0) := by
  have hp : partsL (encL xs) = (xs.map LVal.part, 0) := partsL_frame fun l hl => by
    obtain ⟨x, hx, rfl⟩ := List.mem_map.1 hl
    exact Nat.lt_of_le_of_lt (part_len (hs x hx)) (by decide)
  unfold decL
  rw [hp]
  show (if (0 : Int) ≠ 0 then _ else match mapV (xs.map LVal.part) with | some xs => (xs, (0 : Int)) | none => ([], 3)) = _
  rw [if_neg (fun h => h rfl), mapV_parts h]
end Go.Proofs.Ytemidaamnldjmaa
