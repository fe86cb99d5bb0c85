/- Numbers and lists as bytes: codec.PutU (every number), codec.Frame, and the reference of both. -/
import Derived.Test.YtmgibpedclngpaaAppE
namespace Go.Proofs.Ytmgibpedclngpaa
open Go.RowKit

end Go.Proofs.Ytmgibpedclngpaa

namespace Go.Proofs.Ytmgibpedclngpaa
open Go.RowKit

/-- a number in groups of seven bits -/
def putU (n : Nat) : List UInt8 := if h : n < 128 then [UInt8.ofNat n] else UInt8.ofNat (n % 128 + 128) :: putU (n / 128)
termination_by n
decreasing_by omega
theorem putU_lt {n : Nat} (h : n < 128) : putU n = [UInt8.ofNat n] := by rw [putU, dif_pos h]
theorem putU_ge {n : Nat} (h : ¬ n < 128) : putU n = UInt8.ofNat (n % 128 + 128) :: putU (n / 128) := by rw [putU, dif_neg h]
set_option maxRecDepth 100000 in
theorem or_top : ∀ a : Nat, a < 256 → a ||| 128 = a % 128 + 128 := by decide
theorem or_top8 {z : Nat} : bits .or .u8 ((z : Int) % 256) 128 = ((z % 128 + 128 : Nat) : Int) := by
  have hw : (z : Int) % 256 = ((z % 256 : Nat) : Int) := by omega
  rw [hw]
  show IntKind.u8.wrap ((BitVec.ofInt 8 ((z % 256 : Nat) : Int) ||| BitVec.ofInt 8 128).toNat : Int) = _
  rw [BitVec.toNat_or]
  have e1 : (BitVec.ofInt 8 ((z % 256 : Nat) : Int)).toNat = z % 256 := by
    rw [BitVec.toNat_ofInt]; omega
  have e2 : (BitVec.ofInt 8 128).toNat = 128 := by decide
  rw [e1, e2, or_top _ (by omega)]
  simp only [IntKind.wrap]
  split <;> simp_all [IntKind.bits, IntKind.signed] <;> omega
theorem ofNat8 {n : Nat} (h : n < 256) : ((UInt8.ofNat n).toNat : Int) = (n : Int) := by
  have : (UInt8.ofNat n).toNat = n := by simp [Nat.mod_eq_of_lt h]
  rw [this]

/-- a number of 64 bits -/
def U64 (n : Nat) : Prop := n < 18446744073709551616
theorem U64.of {n : Nat} (h : n ≤ 35184372088832) : U64 n := Nat.lt_of_le_of_lt h (by decide)
theorem putU_lenk : ∀ (k n : Nat), n < 128 ^ (k + 1) → (putU n).length ≤ k + 1
  | 0, n, h => by rw [putU_lt (by simpa using h)]; exact Nat.le_refl _
  | k + 1, n, h => by
    by_cases h1 : n < 128
    · rw [putU_lt h1]; simp
    · rw [putU_ge h1, List.length_cons]
      have h2 : n / 128 < 128 ^ (k + 1) := by
        rw [Nat.div_lt_iff_lt_mul (by omega)]
        rw [Nat.pow_succ] at h
        exact h
      have := putU_lenk k (n / 128) h2
      omega
theorem putU_lb (n : Nat) : n < 128 ^ (putU n).length := by
  induction n using Nat.strongRecOn with
  | ind n ih =>
    by_cases h : n < 128
    · rw [putU_lt h]; simpa using h
    · rw [putU_ge h, List.length_cons, Nat.pow_succ]
      have := ih (n / 128) (by omega)
      rw [Nat.div_lt_iff_lt_mul (by omega)] at this
      exact this
theorem wrap_div {k : Nat} (h : (putU k).length ≤ 10) : IntKind.u64.wrap ((k : Int) / 128) = (k : Int) / 128 := by
  have h1 : k < 128 ^ 10 := Nat.lt_of_lt_of_le (putU_lb k) (Nat.pow_le_pow_right (by omega) h)
  have h2 : k < 1180591620717411303424 := h1
  simp only [IntKind.wrap]
  split <;> simp_all [IntKind.bits, IntKind.signed] <;> omega
theorem putU_len10 {n : Nat} (h : U64 n) : (putU n).length ≤ 10 := putU_lenk 9 n (Nat.lt_trans h (by decide))
set_option maxRecDepth 100000 in
set_option maxHeartbeats 2000000 in
theorem putu_any (n : Nat) (hn : U64 n) (w : World) : Calls Try.prog 44 #[.int .u64 (n : Int)] w (RetBs (putU n) w) := by
  have HN := Lib.hid (putU_len10 hn)
  clear hn
  go_enter Try.func44, Try.ntmps44
  go_wp2_with fail
  go_loopw [0, 3] (fun z o wr => ∃ (k : Nat) (acc : List UInt8) (B : Option Addr) (d : Nat), z = .int .u64 (k : Int) ∧ o = .slice B acc.length d ∧ OwnB w.heap.size wr B acc d ∧ acc ++ putU k = putU n ∧ Below w.heap.size w wr) (fun z _ _ => (intOf z).toNat)
  case atStart => exact ⟨n, [], _, _, rfl, rfl, OwnB.nil_ _ _, rfl, Below.refl _ _⟩
  case round =>
    obtain ⟨k, acc, B, d, rfl, rfl, o, ha, br⟩ := hrel
    have hal : acc.length ≤ 10 := by have h1 := congrArg List.length ha; rw [List.length_append] at h1; have := HN.out; omega
    have HA := Lib.hid ha
    clear ha
    have zr := br.size
    by_cases hlt : k < 128
    · have z1 : (k : Int) < 128 := by omega
      have HE : Hid (acc ++ [UInt8.ofNat k] = putU n) := by show _ = _; rw [← HA.out, putU_lt hlt]
      have hl := Bs.lit wr [UInt8.ofNat k] 5 (by simp)
      rw [show ([UInt8.ofNat k] : List UInt8).map bval = [.int .u8 (k : Int)] from by simp only [List.map_cons, List.map_nil, bval, ofNat8 (show k < 256 by omega)]] at hl
      have dX : Below wr.heap.size wr (wr.alloc (.cells #[.int .u8 (k : Int)] 5)) := (Below.refl _ _).alloc (Nat.le_refl _) _
      have bX := br.trans (dX.mono zr)
      have oX := o.below dX
      clear HA
      go_wp2_with (at_builtin; refine wpList_app w.heap.size w _ rfl (.tmp 14) (.tmp 17) rfl B acc d rfl oX _ [UInt8.ofNat k] 1 rfl hl (by rw [List.length_singleton]; omega) bX (Nat.le_refl _) bX.size ?_; intro B1 d1 acc1 w1 H1 o1 b1 g1 t1)
      go_ret
      rw [← HE.out, ← H1.out]
      exact ret_own o1 b1
    · have z1 : ¬ (k : Int) < 128 := by omega
      have HE : Hid ((acc ++ [UInt8.ofNat (k % 128 + 128)]) ++ putU (k / 128) = putU n) := by show _ = _; rw [← HA.out, putU_ge hlt]; simp
      have hor := or_top8 (z := k)
      have hl := Bs.lit wr [UInt8.ofNat (k % 128 + 128)] 5 (by simp)
      rw [show ([UInt8.ofNat (k % 128 + 128)] : List UInt8).map bval = [.int .u8 ((k % 128 + 128 : Nat) : Int)] from by simp only [List.map_cons, List.map_nil, bval, ofNat8 (show k % 128 + 128 < 256 by omega)]] at hl
      generalize hq : ((k % 128 + 128 : Nat) : Int) = q at hl hor
      have HQ := Lib.hid hq
      clear hq
      have dX : Below wr.heap.size wr (wr.alloc (.cells #[.int .u8 q] 5)) := (Below.refl _ _).alloc (Nat.le_refl _) _
      have bX := br.trans (dX.mono zr)
      have oX := o.below dX
      clear HA
      go_wp2_with (at_builtin; refine wpList_app w.heap.size w _ rfl (.tmp 6) (.tmp 10) rfl B acc d rfl oX _ [UInt8.ofNat (k % 128 + 128)] 1 rfl hl (by rw [List.length_singleton]; omega) bX (Nat.le_refl _) bX.size ?_; intro B1 d1 acc1 w1 H1 o1 b1 g1 t1)
      go_roundw
      case rel => exact ⟨k / 128, acc1, B1, d1, by simp, rfl, o1, by rw [H1.out]; exact HE.out, b1⟩
      case measure => simp [intOf]; omega
theorem putU_len (n : Nat) (hn : n ≤ 35184372088832) : (putU n).length ≤ n + 1 := by
  induction n using Nat.strongRecOn with
  | ind n ih =>
    by_cases h : n < 128
    · rw [putU_lt h]; simp
    · rw [putU_ge h, List.length_cons]
      have := ih (n / 128) (by omega) (by omega)
      omega
/-- each part with its length -/
def frameL (ls : List (List UInt8)) : List UInt8 := ls.flatMap fun p => putU p.length ++ p
theorem frameL_drop {ls : List (List UInt8)} {k : Nat} (h : k < ls.length) : frameL (ls.drop k) = putU ls[k].length ++ (ls[k] ++ frameL (ls.drop (k + 1))) := by
  rw [List.drop_eq_getElem_cons h]
  show (putU ls[k].length ++ ls[k]) ++ frameL (ls.drop (k + 1)) = _
  rw [List.append_assoc]

set_option maxRecDepth 100000 in
set_option maxHeartbeats 2000000 in
theorem frame_any (ls : List (List UInt8)) (A : Option Addr) (c : Nat) (w : World) (hA : Sl BsE w A ls) (hsm : ∀ l ∈ ls, l.length ≤ 16777216) (hlen : ls.length ≤ 4096) : Calls Try.prog 46 #[.slice A ls.length c] w (RetBs (frameL ls) w) := by
  have HSM := Lib.hid hsm
  clear hsm
  go_enter Try.func46, Try.ntmps46
  go_wp2_with fail
  go_loopw [3, 5, 8] (fun o _ i wr => ∃ (k : Nat) (acc : List UInt8) (B : Option Addr) (d : Nat), k ≤ ls.length ∧ i = .int .i64 (k : Int) ∧ o = .slice B acc.length d ∧ OwnB w.heap.size wr B acc d ∧ acc ++ frameL (ls.drop k) = frameL ls ∧ acc.length ≤ 67108864 * k ∧ Below w.heap.size w wr) (fun _ _ i _ => ls.length - (intOf i).toNat)
  case atStart => exact ⟨0, [], _, _, Nat.zero_le _, rfl, rfl, OwnB.nil_ _ _, rfl, by simp, Below.refl _ _⟩
  case round =>
    obtain ⟨k, acc, B, d, hk, rfl, rfl, o, ha, hal, br⟩ := hrel
    have HA := Lib.hid ha
    clear ha
    have zr := br.size
    by_cases hlt : k < ls.length
    · have hlt' : (k : Int) < (ls.length : Int) := by omega
      have HD := Lib.hid (frameL_drop hlt)
      have hll : ls[k].length ≤ 16777216 := HSM.out _ (List.getElem_mem hlt)
      obtain ⟨ad, D, c0, rfl, h1, hc, hD, hat, _, _⟩ := BsE.at_ (hA.old.below br) hlt
      have HE : Hid ((acc ++ putU ls[k].length) ++ ls[k] ++ frameL (ls.drop (k + 1)) = frameL ls) := by show _ = _; rw [← HA.out, HD.out]; simp only [List.append_assoc]
      generalize ls[k] = l at *
      clear HA HD
      go_wp2_with fail
      refine (putu_any l.length (U64.of (by omega)) wr).mono ?_
      rintro en w2 ⟨A2, c2, rfl, o2, b2⟩
      have hpl := putU_len l.length (by omega)
      have b02 := br.trans (b2.mono zr)
      have oX := o.below b2
      have hD2 := hD.below b2
      have hP : Bs w2 A2 (putU l.length) := Bs.of_own o2 (by omega)
      have hnr : At (fun b => (Value.slice B acc.length d).ownBlock ≠ some b) D l.length := fun ad e hn hr => by have h1 := hat ad e hn; have h2 := (OwnB.lt o _ hr).1; omega
      generalize putU l.length = P at *
      go_wp2_with (at_builtin; first
        | (refine wpList_app w.heap.size w _ rfl (.tmp 12) (.tmp 16) rfl B acc d rfl oX _ P _ rfl hP (by omega) b02 (Nat.le_refl _) b02.size ?_; intro B1 d1 acc1 w3 H1 o1 b1 g1 t1; have L1 : acc1.length ≤ acc.length + P.length := (by rw [H1.out, List.length_append]; exact Nat.le_refl _); have hD3 := hD2.grown g1 hnr)
        | (refine wpList_app w.heap.size w _ rfl (.tmp 17) (.tmp 18) rfl B1 acc1 d1 rfl o1 _ l _ rfl hD3 (by omega) b1 (Nat.le_refl _) b1.size ?_; intro B2 d2 acc2 w4 H2 o2' b4 g2 t2))
      go_roundw
      case rel => exact ⟨k + 1, acc2, B2, d2, by omega, by go_num, rfl, o2', by rw [H2.out, H1.out]; exact HE.out, by rw [H2.out, List.length_append]; omega, b4⟩
      case measure => simp [intOf]; omega
    · obtain rfl : k = ls.length := by omega
      have HE : Hid (acc = frameL ls) := by show _ = _; rw [← HA.out, List.drop_length]; simp [frameL]
      clear HA
      go_wp2_with fail
      go_ret
      rw [← HE.out]
      exact ret_own o br
end Go.Proofs.Ytmgibpedclngpaa

namespace Go.Proofs.Ytmgibpedclngpaa
open Go.RowKit

set_option maxRecDepth 100000 in
set_option maxHeartbeats 2000000 in
theorem rputu_any (n : Nat) (hn : U64 n) (w : World) : Calls Try.prog 51 #[.int .u64 (n : Int)] w (RetBs (putU n) w) := by
  have HN := Lib.hid (putU_len10 hn)
  clear hn
  go_enter Try.func51, Try.ntmps51
  go_wp2_with fail
  go_loopw [0, 3] (fun z o wr => ∃ (k : Nat) (acc : List UInt8) (B : Option Addr) (d : Nat), z = .int .u64 (k : Int) ∧ o = .slice B acc.length d ∧ OwnB w.heap.size wr B acc d ∧ acc ++ putU k = putU n ∧ Below w.heap.size w wr) (fun z _ _ => (intOf z).toNat)
  case atStart => exact ⟨n, [], _, _, rfl, rfl, OwnB.nil_ _ _, rfl, Below.refl _ _⟩
  case round =>
    obtain ⟨k, acc, B, d, rfl, rfl, o, ha, br⟩ := hrel
    have hwk := wrap_div (k := k) (by have h1 := congrArg List.length ha; rw [List.length_append] at h1; have := HN.out; omega)
    have hal : acc.length ≤ 10 := by have h1 := congrArg List.length ha; rw [List.length_append] at h1; have := HN.out; omega
    have HA := Lib.hid ha
    clear ha
    have zr := br.size
    by_cases hlt : k < 128
    · have z1 : ¬ (127 : Int) < (k : Int) := by omega
      have HE : Hid (acc ++ [UInt8.ofNat k] = putU n) := by show _ = _; rw [← HA.out, putU_lt hlt]
      have hl := Bs.lit wr [UInt8.ofNat k] 5 (by simp)
      rw [show ([UInt8.ofNat k] : List UInt8).map bval = [.int .u8 (k : Int)] from by simp only [List.map_cons, List.map_nil, bval, ofNat8 (show k < 256 by omega)]] at hl
      have dX : Below wr.heap.size wr (wr.alloc (.cells #[.int .u8 (k : Int)] 5)) := (Below.refl _ _).alloc (Nat.le_refl _) _
      have bX := br.trans (dX.mono zr)
      have oX := o.below dX
      clear HA
      go_wp2_with (at_builtin; refine wpList_app w.heap.size w _ rfl (.tmp 15) (.tmp 18) rfl B acc d rfl oX _ [UInt8.ofNat k] 1 rfl hl (by rw [List.length_singleton]; omega) bX (Nat.le_refl _) bX.size ?_; intro B1 d1 acc1 w1 H1 o1 b1 g1 t1)
      go_ret
      rw [← HE.out, ← H1.out]
      exact ret_own o1 b1
    · have z1 : (127 : Int) < (k : Int) := by omega
      have HE : Hid ((acc ++ [UInt8.ofNat (k % 128 + 128)]) ++ putU (k / 128) = putU n) := by show _ = _; rw [← HA.out, putU_ge hlt]; simp
      have hl := Bs.lit wr [UInt8.ofNat (k % 128 + 128)] 5 (by simp)
      rw [show ([UInt8.ofNat (k % 128 + 128)] : List UInt8).map bval = [.int .u8 ((k % 128 + 128 : Nat) : Int)] from by simp only [List.map_cons, List.map_nil, bval, ofNat8 (show k % 128 + 128 < 256 by omega)]] at hl
      rw [show ((k % 128 + 128 : Nat) : Int) = (k : Int) % 128 + 128 from by omega] at hl
      have dX : Below wr.heap.size wr (wr.alloc (.cells #[.int .u8 ((k : Int) % 128 + 128)] 5)) := (Below.refl _ _).alloc (Nat.le_refl _) _
      have bX := br.trans (dX.mono zr)
      have oX := o.below dX
      clear HA
      go_wp2_with (at_builtin; refine wpList_app w.heap.size w _ rfl (.tmp 6) (.tmp 11) rfl B acc d rfl oX _ [UInt8.ofNat (k % 128 + 128)] 1 rfl hl (by rw [List.length_singleton]; omega) bX (Nat.le_refl _) bX.size ?_; intro B1 d1 acc1 w1 H1 o1 b1 g1 t1)
      go_roundw
      case rel => exact ⟨k / 128, acc1, B1, d1, by simp, rfl, o1, by rw [H1.out]; exact HE.out, b1⟩
      case measure => simp [intOf]; omega
set_option maxRecDepth 100000 in
set_option maxHeartbeats 2000000 in
theorem rframe_any (ls : List (List UInt8)) (A : Option Addr) (c : Nat) (w : World) (hA : Sl BsE w A ls) (hsm : ∀ l ∈ ls, l.length ≤ 16777216) (hlen : ls.length ≤ 4096) : Calls Try.prog 53 #[.slice A ls.length c] w (RetBs (frameL ls) w) := by
  have HSM := Lib.hid hsm
  clear hsm
  go_enter Try.func53, Try.ntmps53
  go_wp2_with fail
  go_loopw [3, 4] (fun o i wr => ∃ (k : Nat) (acc : List UInt8) (B : Option Addr) (d : Nat), k ≤ ls.length ∧ i = .int .i64 (k : Int) ∧ o = .slice B acc.length d ∧ OwnB w.heap.size wr B acc d ∧ acc ++ frameL (ls.drop k) = frameL ls ∧ acc.length ≤ 67108864 * k ∧ Below w.heap.size w wr) (fun _ i _ => ls.length - (intOf i).toNat)
  case atStart => exact ⟨0, [], _, _, Nat.zero_le _, rfl, rfl, OwnB.nil_ _ _, rfl, by simp, Below.refl _ _⟩
  case round =>
    obtain ⟨k, acc, B, d, hk, rfl, rfl, o, ha, hal, br⟩ := hrel
    have HA := Lib.hid ha
    clear ha
    have zr := br.size
    by_cases hlt : k < ls.length
    · have hlt' : (k : Int) < (ls.length : Int) := by omega
      have HD := Lib.hid (frameL_drop hlt)
      have hll : ls[k].length ≤ 16777216 := HSM.out _ (List.getElem_mem hlt)
      obtain ⟨ad, D, c0, rfl, had0, hc0, hD0, hat, _, _⟩ := BsE.at_ hA.old hlt
      have hc := (br.cell (p := ad.add k) (by rw [block_of_add]; exact had0)).trans hc0
      have hD := hD0.below br
      have HE : Hid ((acc ++ putU ls[k].length) ++ ls[k] ++ frameL (ls.drop (k + 1)) = frameL ls) := by show _ = _; rw [← HA.out, HD.out]; simp only [List.append_assoc]
      generalize ls[k] = l at *
      clear HA HD
      go_wp2_with fail
      refine (rputu_any l.length (U64.of (by omega)) wr).mono ?_
      rintro en w2 ⟨A2, c2, rfl, o2, b2⟩
      have hpl := putU_len l.length (by omega)
      have b02 := br.trans (b2.mono zr)
      have oX := o.below b2
      have hD2 := hD.below b2
      have hP : Bs w2 A2 (putU l.length) := Bs.of_own o2 (by omega)
      have hnr : At (fun b => (Value.slice B acc.length d).ownBlock ≠ some b) D l.length := fun ad e hn hr => by have h1 := hat ad e hn; have h2 := (OwnB.lt o _ hr).1; omega
      generalize putU l.length = P at *
      go_wp2_with (at_builtin; first
        | (refine wpList_app w.heap.size w _ rfl (.tmp 11) (.tmp 18) rfl B acc d rfl oX _ P _ rfl hP (by omega) b02 (Nat.le_refl _) b02.size ?_; intro B1 d1 acc1 w3 H1 o1 b1 g1 t1; have L1 : acc1.length ≤ acc.length + P.length := (by rw [H1.out, List.length_append]; exact Nat.le_refl _); have hD3 := hD2.grown g1 hnr; have hc3 := (b1.cell (p := ad.add k) (by rw [block_of_add]; exact had0)).trans hc0)
        | (refine wpList_app w.heap.size w _ rfl (.tmp 20) (.tmp 24) rfl B1 acc1 d1 rfl o1 _ l _ rfl hD3 (by omega) b1 (Nat.le_refl _) b1.size ?_; intro B2 d2 acc2 w4 H2 o2' b4 g2 t2))
      go_roundw
      case rel => exact ⟨k + 1, acc2, B2, d2, by omega, by go_num, rfl, o2', by rw [H2.out, H1.out]; exact HE.out, by rw [H2.out, List.length_append]; omega, b4⟩
      case measure => simp [intOf]; omega
    · obtain rfl : k = ls.length := by omega
      have HE : Hid (acc = frameL ls) := by show _ = _; rw [← HA.out, List.drop_length]; simp [frameL]
      clear HA
      go_wp2_with fail
      go_ret
      rw [← HE.out]
      exact ret_own o br

end Go.Proofs.Ytmgibpedclngpaa
