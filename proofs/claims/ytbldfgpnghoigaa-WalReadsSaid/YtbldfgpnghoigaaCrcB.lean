/- Checksums: step, eight, Table, put, get. Checksums: get, Sum. -/
import Derived.Test.YtbldfgpnghoigaaOwnB
import Derived.Test.YtbldfgpnghoigaaBlkS
import Derived.Test.YtbldfgpnghoigaaCrcP
import Derived.BigQuiet
import Derived.Deep.DeepCutAuto
import Derived.Deep.QuietTactic
import Derived.Laws.BitsAllLaws
namespace Go.Proofs.Ytbldfgpnghoigaa
open Go.RowKit

def stepN (x : Nat) : Nat := if x % 2 = 1 then (x / 2) ^^^ 3988292384 else x / 2
theorem stepN_lt (x : Nat) (h : x < 4294967296) : stepN x < 4294967296 := by
  unfold stepN
  split
  · exact Nat.xor_lt_two_pow (n := 32) (by omega) (by decide)
  · omega
def iterN : Nat → Nat → Nat
  | 0, x => x
  | n + 1, x => iterN n (stepN x)
theorem iterN_lt : ∀ (n x : Nat), x < 4294967296 → iterN n x < 4294967296
  | 0, _, h => h
  | n + 1, x, h => iterN_lt n (stepN x) (stepN_lt x h)
/-- the table: what eight steps make of a byte -/
def tblN (i : Nat) : Nat := iterN 8 i
theorem tblN_lt (i : Nat) (h : i < 256) : tblN i < 4294967296 := iterN_lt 8 i (by omega)
def tabA (k : Nat) : Array Value := ((List.range 256).map fun i => Value.int .u32 (if i < k then ((tblN i : Nat) : Int) else 0)).toArray
theorem tabA_size (k : Nat) : (tabA k).size = 256 := by simp [tabA]
theorem tabA_get (k i : Nat) (h : i < 256) : (tabA k)[i]? = some (.int .u32 (if i < k then ((tblN i : Nat) : Int) else 0)) := by
  simp only [tabA, List.getElem?_toArray, List.getElem?_map]
  rw [List.getElem?_range h]
  rfl
theorem tabA_set (k : Nat) : (tabA k).setIfInBounds k (.int .u32 ((tblN k : Nat) : Int)) = tabA (k + 1) := by
  refine Array.ext (by simp [tabA]) fun i h1 h2 => ?_
  rw [tabA_size] at h2
  have e := tabA_get (k + 1) i h2
  rw [Array.getElem?_eq_getElem (by rw [tabA_size]; exact h2)] at e
  rw [Option.some.inj e, Array.getElem_setIfInBounds (by rw [tabA_size]; exact h2)]
  by_cases hk : k = i
  · subst hk
    rw [if_pos rfl, if_pos (Nat.lt_succ_self _)]
  · rw [if_neg hk]
    have e2 := tabA_get k i h2
    rw [Array.getElem?_eq_getElem (by rw [tabA_size]; exact h2)] at e2
    rw [Option.some.inj e2]
    by_cases h3 : i < k
    · rw [if_pos h3, if_pos (by omega)]
    · rw [if_neg h3, if_neg (by omega)]
theorem tabA_one (k : Nat) : (tabA k).all (·.oneCell') = true := by
  rw [Array.all_eq_true]
  intro i h
  have h2 : i < 256 := by rwa [tabA_size] at h
  have e := tabA_get k i h2
  rw [Array.getElem?_eq_getElem h] at e
  rw [Option.some.inj e]
  rfl
theorem Try.zero122 : Try.zeroCells122 = tabA 0 := by kernel_rfl
theorem Try.size122 : (Try.prog.info? 122).map (·.size) = some 256 := by kernel_rfl
set_option maxRecDepth 100000 in
set_option maxHeartbeats 1000000 in
theorem step_any (k : Nat) (h : k < 4294967296) (w : World) : Calls Try.prog 89 #[.int .u32 (k : Int)] w (fun en w' => en = .returned (.int .u32 ((stepN k : Nat) : Int)) ∧ w' = w) := by
  have hA : bits .and .u32 (k : Int) 1 = ((k % 2 : Nat) : Int) := by
    have e := u32_and_nat k 1 h (by decide)
    rw [Nat.and_one_is_mod] at e
    exact e
  by_cases h1 : k % 2 = 1
  · have hA1 : bits .and .u32 (k : Int) 1 = 1 := by rw [hA, h1]; rfl
    have hX : bits .xor .u32 ((k : Int) / 2) 3988292384 = ((stepN k : Nat) : Int) := by
      have e := u32_xor_nat (k / 2) 3988292384 (by omega) (by decide)
      unfold stepN
      rw [if_pos h1, ← e]
      rfl
    clear hA
    go_enter Try.func89, Try.ntmps89
    go_wp2_with fail
    go_ret
    exact ⟨rfl, rfl⟩
  · have hA0 : bits .and .u32 (k : Int) 1 = 0 := by rw [hA, show k % 2 = 0 by omega]; rfl
    have hX : (k : Int) / 2 = ((stepN k : Nat) : Int) := by unfold stepN; rw [if_neg h1]; rfl
    clear hA
    go_enter Try.func89, Try.ntmps89
    go_wp2_with fail
    go_ret
    exact ⟨rfl, rfl⟩
set_option maxRecDepth 100000 in
set_option maxHeartbeats 1000000 in
theorem eight_any (k : Nat) (h : k < 4294967296) (w : World) : Calls Try.prog 80 #[.int .u32 (k : Int)] w (fun en w' => en = .returned (.int .u32 ((iterN 8 k : Nat) : Int)) ∧ w' = w) := by
  go_enter Try.func80, Try.ntmps80
  go_wp2_with fail
  go_loopw [0, 3] (fun v0 v3 wr => ∃ i x : Nat, i ≤ 8 ∧ v0 = .int .u32 (x : Int) ∧ v3 = .int .i64 (i : Int) ∧ x < 4294967296 ∧ Hid (iterN (8 - i) x = iterN 8 k) ∧ wr = w) (fun _ v3 _ => 8 - (intOf v3).toNat)
  case atStart => exact ⟨0, k, by decide, rfl, rfl, h, rfl, rfl⟩
  case round =>
    obtain ⟨i, x, hi, rfl, rfl, hx, HX, rfl⟩ := hrel
    by_cases hlt : i < 8
    · have hlti : (i : Int) < 8 := by omega
      have T := step_any x hx wr
      go_wp2_with fail
      refine T.mono ?_
      clear T
      rintro en w2 ⟨rfl, rfl⟩
      have HY : Hid (iterN (8 - (i + 1)) (stepN x) = iterN 8 k) := by
        show _ = _
        rw [← HX.out, show 8 - i = (8 - (i + 1)) + 1 by omega]
        rfl
      go_wp2_with fail
      go_roundw
      case rel => exact ⟨i + 1, stepN x, by omega, rfl, by simp, stepN_lt x hx, HY.out, trivial⟩
      case measure => simp [intOf]; omega
    · obtain rfl : i = 8 := by omega
      have HY : Hid (x = iterN 8 k) := HX.out
      go_wp2_with fail
      go_ret
      exact ⟨by rw [← HY.out]; rfl, rfl⟩
set_option maxRecDepth 100000 in
set_option maxHeartbeats 2000000 in
theorem table_any (w : World) : Calls Try.prog 73 #[] w (fun en w' => en = .returned (.agg (tabA 256)) ∧ Below w.heap.size w w') := by
  go_enter Try.func73, Try.ntmps73
  go_upto_region 2 with fail
  rw [Try.zero122]
  have k1 : Blk ((w.alloc (.cells (tabA 0) 122)).alloc (.cells (tabA 0) 122)) w.heap.size 122 (tabA 0) := (Blk.new w _ _).alloc _
  have k2 : Blk ((w.alloc (.cells (tabA 0) 122)).alloc (.cells (tabA 0) 122)) (w.heap.size + 1) 122 (tabA 0) := heap_alloc2_new w _ _
  have b1 : Below w.heap.size w ((w.alloc (.cells (tabA 0) 122)).alloc (.cells (tabA 0) 122)) := ((Below.refl _ _).alloc (Nat.le_refl _) _).alloc (by simp) _
  generalize ((w.alloc (.cells (tabA 0) 122)).alloc (.cells (tabA 0) 122)) = w1 at *
  go_wp2_with fail
  go_loopw [2, 3] (fun _ v3 wr => ∃ k : Nat, k ≤ 256 ∧ v3 = .int .i64 (k : Int) ∧ Blk wr w.heap.size 122 (tabA 0) ∧ Blk wr (w.heap.size + 1) 122 (tabA k) ∧ Below w.heap.size w wr) (fun _ v3 _ => 256 - (intOf v3).toNat)
  case atStart => exact ⟨0, by decide, rfl, k1, k2, b1⟩
  case round =>
    clear k1 k2 b1
    obtain ⟨k, hk, rfl, k1, k2, br⟩ := hrel
    by_cases hlt : k < 256
    · have hlti : (k : Int) < 256 := by omega
      have vw : IntKind.u32.wrap (k : Int) = (k : Int) := by simp [IntKind.wrap, IntKind.bits, IntKind.signed]; omega
      have T := eight_any k (by omega) wr
      have y : wr.cell? ⟨w.heap.size + 1, k, none⟩ = some (.int .u32 0) := by rw [k2.cell, tabA_get _ _ hlt, if_neg (Nat.lt_irrefl _)]
      have f : wr.frozen? ⟨w.heap.size + 1, k, none⟩ = false := k2.frozen k
      go_wp2_with fail
      refine T.mono ?_
      clear T
      rintro en w2 ⟨rfl, rfl⟩
      have g9 : w2.grownBy (w2.setCell ⟨w.heap.size + 1, k, none⟩ (.int .u32 ((iterN 8 k : Nat) : Int))) (some (w.heap.size + 1)) := only_setCell (only_of_below (Below.refl _ _) (some (w.heap.size + 1))) (.inl rfl) _
      go_wp2_with fail
      go_roundw
      case rel =>
        refine ⟨k + 1, by omega, by simp, k1.far (by show w.heap.size ≠ w.heap.size + 1; omega) _, ?_, br.grown g9 br.size (fun j e => by have := Option.some.inj e; omega)⟩
        have h := k2.set_ k (.int .u32 ((iterN 8 k : Nat) : Int))
        rw [show (tabA k).setIfInBounds k (.int .u32 ((iterN 8 k : Nat) : Int)) = tabA (k + 1) from tabA_set k] at h
        exact h
      case measure => simp [intOf]; omega
    · obtain rfl : k = 256 := by omega
      go_wp2_with (first
        | ((with_reducible refine wpList_load_blk rfl 122 (.tmp 1) rfl (w.heap.size + 1) ?_ 122 _ _ k2 Try.underlying122 ?_ Try.size122 ?_ ?_); rfl; rfl; exact tabA_size _)
        | ((with_reducible refine wpList_store_blk rfl 122 (.tmp 0) (.tmp 12) rfl w.heap.size 122 _ (tabA 256) ?_ ?_ k1 Try.size122 ?_ ?_ ?_ ?_); rfl; rfl; exact tabA_size _; exact tabA_size _; exact tabA_one _; intro wz kz gz hz))
      exact bodyPost_ret (results_cell rfl rfl kz Try.underlying122 rfl (by rw [tabA_size]; exact Try.size122)) rfl ⟨rfl, br.grown gz br.size (fun j e => by have := Option.some.inj e; omega)⟩
set_option maxRecDepth 100000 in
set_option maxHeartbeats 1000000 in
theorem cput_any (k : Nat) (h : k < 4294967296) (w : World) : Calls Try.prog 63 #[.int .u32 (k : Int)] w (fun en w' => ∃ c, en = .returned (.slice (some ⟨w.heap.size, 0, none⟩) 4 c) ∧ OwnB w.heap.size w' (some ⟨w.heap.size, 0, none⟩) (put32 k) c ∧ Below w.heap.size w w') := by
  go_enter Try.func63, Try.ntmps63
  go_wp2_with fail
  go_ret
  refine ⟨4, rfl, ?_, (Below.refl _ _).alloc (Nat.le_refl _) _⟩
  have e : #[Value.int IntKind.u8 ((k : Int) / 16777216), .int .u8 ((k : Int) / 65536 % 256), .int .u8 ((k : Int) / 256 % 256), .int .u8 ((k : Int) % 256)] = ((put32 k).map bval).toArray := by
    simp only [put32, List.map_cons, List.map_nil, bval, UInt8.toNat_ofNat']
    rw [show ((k / 16777216 % 2 ^ 8 : Nat) : Int) = (k : Int) / 16777216 by omega, show ((k / 65536 % 2 ^ 8 : Nat) : Int) = (k : Int) / 65536 % 256 by omega, show ((k / 256 % 2 ^ 8 : Nat) : Int) = (k : Int) / 256 % 256 by omega, show ((k % 2 ^ 8 : Nat) : Int) = (k : Int) % 256 by omega]
  rw [e]
  have := own_of_blk (base := w.heap.size) (xs := (put32 k).map bval) (Blk.new w 5 ((put32 k).map bval).toArray) (Nat.le_refl _) (by rw [List.length_map]; simp only [maxLen, put32_len]; omega)
  rw [List.length_map] at this
  exact this
theorem or32 (a b : Nat) (k : Nat) (hb : b < 2 ^ k) (h : a * 2 ^ k + b < 4294967296) : bits .or .u32 ((a * 2 ^ k : Nat) : Int) (b : Int) = ((a * 2 ^ k + b : Nat) : Int) := by
  rw [u32_or_nat _ _ (by omega) (by omega), ← Nat.shiftLeft_eq, ← Nat.shiftLeft_add_eq_or_of_lt hb]
theorem get_val (b0 b1 b2 b3 : Nat) (h0 : b0 < 256) (h1 : b1 < 256) (h2 : b2 < 256) (h3 : b3 < 256) :
    bits .or .u32 (bits .or .u32 (bits .or .u32 ((b0 : Int) * 16777216) ((b1 : Int) * 65536)) ((b2 : Int) * 256)) (b3 : Int) = ((b0 * 16777216 + b1 * 65536 + b2 * 256 + b3 : Nat) : Int) := by
  have e1 : bits .or .u32 ((b0 : Int) * 16777216) ((b1 : Int) * 65536) = (((b0 * 256 + b1) * 65536 : Nat) : Int) := by
    have e := or32 b0 (b1 * 65536) 24 (by omega) (by omega)
    rw [show ((b0 : Int) * 16777216) = ((b0 * 2 ^ 24 : Nat) : Int) by omega, show ((b1 : Int) * 65536) = ((b1 * 65536 : Nat) : Int) by omega, e]
    omega
  have e2 : bits .or .u32 (((b0 * 256 + b1) * 65536 : Nat) : Int) ((b2 : Int) * 256) = ((((b0 * 256 + b1) * 256 + b2) * 256 : Nat) : Int) := by
    have e := or32 (b0 * 256 + b1) (b2 * 256) 16 (by omega) (by omega)
    rw [show (((b0 * 256 + b1) * 65536 : Nat) : Int) = (((b0 * 256 + b1) * 2 ^ 16 : Nat) : Int) by omega, show ((b2 : Int) * 256) = ((b2 * 256 : Nat) : Int) by omega, e]
    omega
  have e3 := or32 ((b0 * 256 + b1) * 256 + b2) b3 8 (by omega) (by omega)
  rw [e1, e2, show ((((b0 * 256 + b1) * 256 + b2) * 256 : Nat) : Int) = ((((b0 * 256 + b1) * 256 + b2) * 2 ^ 8 : Nat) : Int) by omega, e3]
  omega
end Go.Proofs.Ytbldfgpnghoigaa

namespace Go.Proofs.Ytbldfgpnghoigaa
open Go.RowKit

set_option maxRecDepth 100000 in
set_option maxHeartbeats 1000000 in
theorem get_cells (A : Addr) (n c : Nat) (b0 b1 b2 b3 : Nat) (w : World) (h0 : b0 < 256) (h1 : b1 < 256) (h2 : b2 < 256) (h3 : b3 < 256) (e0 : w.cell? A = some (.int .u8 (b0 : Int))) (e1 : w.cell? ⟨A.block, A.off + 1, none⟩ = some (.int .u8 (b1 : Int))) (e2 : w.cell? ⟨A.block, A.off + 2, none⟩ = some (.int .u8 (b2 : Int))) (e3 : w.cell? ⟨A.block, A.off + 3, none⟩ = some (.int .u8 (b3 : Int))) (hl : 4 ≤ n) :
    Calls Try.prog 79 #[.slice (some A) n c] w (Quietly (.int .u32 ((b0 * 16777216 + b1 * 65536 + b2 * 256 + b3 : Nat) : Int)) w) := by
  have g0 : (0 : Int) < (n : Int) := by omega
  have v0 : IntKind.u32.wrap (b0 : Int) = (b0 : Int) := by simp [IntKind.wrap, IntKind.bits, IntKind.signed]; omega
  have v1 : IntKind.u32.wrap (b1 : Int) = (b1 : Int) := by simp [IntKind.wrap, IntKind.bits, IntKind.signed]; omega
  have v2 : IntKind.u32.wrap (b2 : Int) = (b2 : Int) := by simp [IntKind.wrap, IntKind.bits, IntKind.signed]; omega
  have v3 : IntKind.u32.wrap (b3 : Int) = (b3 : Int) := by simp [IntKind.wrap, IntKind.bits, IntKind.signed]; omega
  have x0 : IntKind.u32.wrap ((b0 : Int) * 16777216) = (b0 : Int) * 16777216 := by simp [IntKind.wrap, IntKind.bits, IntKind.signed]; omega
  have x1 : IntKind.u32.wrap ((b1 : Int) * 65536) = (b1 : Int) * 65536 := by simp [IntKind.wrap, IntKind.bits, IntKind.signed]; omega
  have x2 : IntKind.u32.wrap ((b2 : Int) * 256) = (b2 : Int) * 256 := by simp [IntKind.wrap, IntKind.bits, IntKind.signed]; omega
  have g0n : 0 < n := by omega
  have g1n : 1 < n := by omega
  have g1 : (1 : Int) < (n : Int) := by omega
  have g2 : (2 : Int) < (n : Int) := by omega
  have g3 : (3 : Int) < (n : Int) := by omega
  have HV := Lib.hid (get_val b0 b1 b2 b3 h0 h1 h2 h3)
  go_enter Try.func79, Try.ntmps79
  go_upto_region 1 with fail
  go_quiet (fail)
  go_wp2_with fail
  go_ret
  refine ⟨?_, _, rfl⟩
  rw [← HV.out]
  rfl
theorem add_pos (a : Addr) (n : Nat) (h : n ≠ 0) : a.add n = ⟨a.block, a.off + n, none⟩ := by
  unfold Addr.add
  split <;> simp_all
theorem add_zero_ (a : Addr) : a.add 0 = a := by
  unfold Addr.add
  simp
/-- get of bytes in memory -/
theorem cget_any (A : Option Addr) (l : List UInt8) (n c : Nat) (w : World) (h : Bs w A l) (hl : 4 ≤ l.length) (hn : n = l.length) : Calls Try.prog 79 #[.slice A n c] w (Quietly (.int .u32 ((get32 l : Nat) : Int)) w) := by
  subst hn
  obtain ⟨ad, rfl, _, e0⟩ := h.at_ (k := 0) (by omega)
  obtain ⟨_, f1, _, e1⟩ := h.at_ (k := 1) (by omega)
  obtain ⟨_, f2, _, e2⟩ := h.at_ (k := 2) (by omega)
  obtain ⟨_, f3, _, e3⟩ := h.at_ (k := 3) (by omega)
  injection f1 with f1
  injection f2 with f2
  injection f3 with f3
  subst f1 f2 f3
  rw [add_zero_] at e0
  rw [add_pos _ _ (by decide)] at e1 e2 e3
  have T := get_cells ad l.length c _ _ _ _ w (l[0].toNat_lt) (l[1].toNat_lt) (l[2].toNat_lt) (l[3].toNat_lt) e0 e1 e2 e3 hl
  have e : get32 l = l[0].toNat * 16777216 + l[1].toNat * 65536 + l[2].toNat * 256 + l[3].toNat := by
    unfold get32
    simp only [List.getD_eq_getElem?_getD, List.getElem?_eq_getElem (show 0 < l.length by omega), List.getElem?_eq_getElem (show 1 < l.length by omega), List.getElem?_eq_getElem (show 2 < l.length by omega), List.getElem?_eq_getElem (show 3 < l.length by omega), Option.getD_some]
  rw [e]
  exact T
theorem below_step' {a b c : World} (h : Below a.heap.size a b) (k : Below b.heap.size b c) : Below a.heap.size a c := h.trans (k.mono h.size)
/-! ## Sum -/
def sumStep (x b : Nat) : Nat := (x / 256) ^^^ tblN ((x % 256) ^^^ b)
theorem sumStep_lt (x b : Nat) (h : x < 4294967296) (hb : b < 256) : sumStep x b < 4294967296 := by
  unfold sumStep
  refine Nat.xor_lt_two_pow (n := 32) (by omega) (tblN_lt _ ?_)
  exact Nat.xor_lt_two_pow (n := 8) (by omega) (by omega)
def crcL (x : Nat) (l : List UInt8) : Nat := l.foldl (fun x b => sumStep x b.toNat) x
theorem crcL_lt : ∀ (l : List UInt8) (x : Nat), x < 4294967296 → crcL x l < 4294967296
  | [], _, h => h
  | b :: r, x, h => crcL_lt r (sumStep x b.toNat) (sumStep_lt x _ h b.toNat_lt)
def sumN (l : List UInt8) : Nat := 4294967295 ^^^ crcL 4294967295 l
theorem sumN_lt (l : List UInt8) : sumN l < 4294967296 := Nat.xor_lt_two_pow (n := 32) (by decide) (crcL_lt l _ (by decide))
set_option maxRecDepth 100000 in
set_option maxHeartbeats 2000000 in
theorem sum_any (A : Option Addr) (ps : List (List UInt8)) (c : Nat) (w : World) (h : Sl BsE w A ps) : Calls Try.prog 64 #[.slice A ps.length c] w (fun en w' => en = .returned (.int .u32 ((sumN ps.flatten : Nat) : Int)) ∧ Below w.heap.size w w') := by
  go_enter Try.func64, Try.ntmps64
  go_wp2_with fail
  refine (table_any w).mono ?_
  rintro en w1 ⟨rfl, b1⟩
  have kZ := Blk.new w1 122 Try.zeroCells122
  have b2 : Below w1.heap.size w1 (w1.alloc (.cells Try.zeroCells122 122)) := (Below.refl _ _).alloc (Nat.le_refl _) _
  go_upto_region 2 with ((with_reducible refine wpList_store_blk rfl 122 (.tmp 3) (.tmp 9) rfl w1.heap.size 122 _ (tabA 256) ?_ ?_ kZ Try.size122 ?_ ?_ ?_ ?_); rfl; rfl; (rw [Try.zero122]; exact tabA_size _); exact tabA_size _; exact tabA_one _; intro w2 k2 g2 hz2)
  have b02 := below_step' b1 (b2.grown g2 b2.size (fun j e => by have := Option.some.inj e; omega))
  have l2 := k2.lt
  clear kZ b2 g2 hz2
  go_wp2_with fail
  go_loopw [4, 6, 8, 12] (fun v4 _ _ v12 wr => ∃ (k x : Nat), k ≤ ps.length ∧ v4 = .int .u32 (x : Int) ∧ v12 = .int .i64 (k : Int) ∧ x < 4294967296 ∧ Hid (crcL x (ps.drop k).flatten = crcL 4294967295 ps.flatten) ∧ wr = w2) (fun _ _ _ v12 _ => ps.length - (intOf v12).toNat)
  case atStart => exact ⟨0, 4294967295, Nat.zero_le _, rfl, rfl, by decide, rfl, rfl⟩
  case round =>
    obtain ⟨k, x, hk, rfl, rfl, hx, HX, rfl⟩ := hrel
    have hpl := h.le
    by_cases hlt : k < ps.length
    · obtain ⟨ad, D, dc, rfl, _, e0, hD, _⟩ := BsE.at_ (h.below b02) hlt
      have HT : Hid (crcL (crcL x ps[k]) (ps.drop (k + 1)).flatten = crcL 4294967295 ps.flatten) := by
        show _ = _
        rw [← HX.out, List.drop_eq_getElem_cons hlt, List.flatten_cons]
        unfold crcL
        rw [List.foldl_append]
      generalize ps[k] = p at *
      clear HX
      generalize wr = wo at *
      go_wp2_with fail
      go_loopw [4, 8, 18] (fun v4 _ v18 wr => ∃ (j y : Nat), j ≤ p.length ∧ v4 = .int .u32 (y : Int) ∧ v18 = .int .i64 (j : Int) ∧ y < 4294967296 ∧ Hid (crcL y (p.drop j) = crcL x p) ∧ wr = wo) (fun _ _ v18 _ => p.length - (intOf v18).toNat)
      case atStart => exact ⟨0, x, Nat.zero_le _, rfl, rfl, hx, rfl, rfl⟩
      case round =>
        obtain ⟨j, y, hj, rfl, rfl, hy, HY, rfl⟩ := hrel
        by_cases hlj : j < p.length
        · obtain ⟨bd, rfl, _, eb⟩ := hD.at_ hlj
          have HZ : Hid (crcL (sumStep y p[j].toNat) (p.drop (j + 1)) = crcL x p) := by
            show _ = _
            rw [← HY.out, List.drop_eq_getElem_cons hlj]
            rfl
          have hb := p[j].toNat_lt
          generalize p[j].toNat = b at *
          have hB : b < 256 := hb
          have q1 : bits .xor .u8 ((y : Int) % 256) (b : Int) = (((y % 256) ^^^ b : Nat) : Int) := u8_xor_nat (y % 256) b (by omega) hB
          have hI : (y % 256) ^^^ b < 256 := Nat.xor_lt_two_pow (n := 8) (by omega) (by omega)
          have q2 : bits .xor .u32 ((y : Int) / 256) ((tblN ((y % 256) ^^^ b) : Nat) : Int) = ((sumStep y b : Nat) : Int) := u32_xor_nat (y / 256) (tblN ((y % 256) ^^^ b)) (by omega) (tblN_lt _ hI)
          have hS := sumStep_lt y b hy hB
          generalize hii : (y % 256) ^^^ b = ii at *
          have q3 : wr.cell? ⟨w1.heap.size, ii, none⟩ = some (.int .u32 ((tblN ii : Nat) : Int)) := by rw [k2.cell, tabA_get _ _ hI, if_pos hI]
          have hIi : (ii : Int) < 256 := by omega
          clear hii HY
          go_wp2_with fail
          go_roundw
          case rel => exact ⟨j + 1, sumStep y b, by omega, rfl, by simp, hS, HZ.out, trivial⟩
          case measure => simp [intOf]; omega
        · obtain rfl : j = p.length := by omega
          have HZ : Hid (y = crcL x p) := by show _ = _; rw [← HY.out, List.drop_length]; rfl
          clear HY
          go_wp2_with fail
          go_roundw
          case rel => exact ⟨k + 1, y, by omega, rfl, by simp, hy, by show _ = _; rw [HZ.out]; exact HT.out, trivial⟩
          case measure => simp [intOf]; omega
    · obtain rfl : k = ps.length := by omega
      have HZ : Hid (x = crcL 4294967295 ps.flatten) := by show _ = _; rw [← HX.out, List.drop_length]; rfl
      clear HX
      go_wp2_with fail
      go_ret
      have hQ : bits .xor .u32 IntKind.u32.max (x : Int) = ((4294967295 ^^^ x : Nat) : Int) := u32_xor_nat 4294967295 x (by decide) hx
      refine ⟨?_, b02⟩
      show Ending.returned (.int .u32 (bits .xor .u32 IntKind.u32.max (x : Int))) = _
      rw [hQ, HZ.out]
      rfl
end Go.Proofs.Ytbldfgpnghoigaa
