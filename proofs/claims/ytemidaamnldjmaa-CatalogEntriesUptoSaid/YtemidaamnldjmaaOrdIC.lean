/- Eight bytes of a number, the greatest first: codec.OrdU, OrdI. -/
import Derived.Test.YtemidaamnldjmaaWordC
import Derived.Test.YtemidaamnldjmaaMk8
import Derived.Test.YtemidaamnldjmaaOrdA
namespace Go.Proofs.Ytemidaamnldjmaa
open Go.RowKit

theorem bval_ofNat {n : Nat} (h : n < 256) : bval (UInt8.ofNat n) = .int .u8 (n : Int) := by
  show Value.int .u8 (((UInt8.ofNat n).toNat : Nat) : Int) = _
  rw [u8_ofNat h]
theorem be8 (n : Nat) : (beN 8 n).map bval = [.int .u8 ((n : Int) / 256 / 256 / 256 / 256 / 256 / 256 / 256 % 256), .int .u8 ((n : Int) / 256 / 256 / 256 / 256 / 256 / 256 % 256), .int .u8 ((n : Int) / 256 / 256 / 256 / 256 / 256 % 256), .int .u8 ((n : Int) / 256 / 256 / 256 / 256 % 256), .int .u8 ((n : Int) / 256 / 256 / 256 % 256), .int .u8 ((n : Int) / 256 / 256 % 256), .int .u8 ((n : Int) / 256 % 256), .int .u8 ((n : Int) % 256)] := by
  simp only [beN, List.nil_append, List.cons_append, List.map_cons, List.map_nil]
  repeat rw [bval_ofNat (Nat.mod_lt _ (by decide))]
  simp only [Int.natCast_emod, Int.natCast_ediv]
  rfl
theorem ret_be8 {z : Int} {n : Nat} {w w' : World} (e : z = (n : Int)) (hb : Blk w' w.heap.size 5 #[.int .u8 (z / 256 / 256 / 256 / 256 / 256 / 256 / 256 % 256), .int .u8 (z / 256 / 256 / 256 / 256 / 256 / 256 % 256), .int .u8 (z / 256 / 256 / 256 / 256 / 256 % 256), .int .u8 (z / 256 / 256 / 256 / 256 % 256), .int .u8 (z / 256 / 256 / 256 % 256), .int .u8 (z / 256 / 256 % 256), .int .u8 (z / 256 % 256), .int .u8 (z % 256)]) (b : Below w.heap.size w w') : RetBs (beN 8 n) w (.returned (.slice (some ⟨w.heap.size, 0, none⟩) 8 8)) w' := by
  subst e
  refine ⟨some ⟨w.heap.size, 0, none⟩, 8, by rw [beN_len], ?_, b⟩
  rw [be8, beN_len]
  exact own_of_blk (xs := [_, _, _, _, _, _, _, _]) hb (Nat.le_refl _) (by simp [maxLen])
theorem wrap_u64 (n : Int) : IntKind.u64.wrap n = n % 18446744073709551616 := by
  simp only [IntKind.wrap]
  split <;> simp_all [IntKind.bits, IntKind.signed]
theorem xor_top {n : Int} (h1 : -9223372036854775808 ≤ n) (h2 : n < 9223372036854775808) : bits .xor .u64 (IntKind.u64.wrap n) 9223372036854775808 = n + 9223372036854775808 := by
  rw [wrap_u64]
  have hx : ∀ a : Nat, a < 18446744073709551616 → a ^^^ 9223372036854775808 = if a < 9223372036854775808 then a + 9223372036854775808 else a - 9223372036854775808 := by
    intro a ha
    have hm : (a ^^^ 9223372036854775808) % 2 ^ 63 = a % 2 ^ 63 := by
      rw [Nat.xor_mod_two_pow]
      show (a % 2 ^ 63) ^^^ 0 = _
      rw [Nat.xor_zero]
    have hd : (a ^^^ 9223372036854775808) / 2 ^ 63 = (a / 2 ^ 63) ^^^ 1 := by
      rw [Nat.xor_div_two_pow]
    have hd2 : a / 2 ^ 63 < 2 := by omega
    split
    · have : a / 2 ^ 63 = 0 := by omega
      rw [this] at hd
      have : (0 ^^^ 1 : Nat) = 1 := by decide
      omega
    · have : a / 2 ^ 63 = 1 := by omega
      rw [this] at hd
      have : (1 ^^^ 1 : Nat) = 0 := by decide
      omega
  show IntKind.u64.wrap ((BitVec.ofInt 64 (n % 18446744073709551616) ^^^ BitVec.ofInt 64 9223372036854775808).toNat : Int) = _
  rw [BitVec.toNat_xor]
  have e1 : (BitVec.ofInt 64 (n % 18446744073709551616)).toNat = (n % 18446744073709551616).toNat := by
    rw [BitVec.toNat_ofInt]; congr 1; omega
  have e2 : (BitVec.ofInt 64 9223372036854775808).toNat = 9223372036854775808 := by decide
  rw [e1, e2, hx _ (by omega)]
  rw [wrap_u64]
  split <;> omega

set_option maxRecDepth 100000 in
set_option maxHeartbeats 4000000 in
theorem ordu_any (z : Int) (h0 : 0 ≤ z) (h1 : z < 18446744073709551616) (w : World) : Calls Try.prog 63 #[.int .u64 z] w (RetBs (beN 8 z.toNat) w) := by
  have hmk := mk8
  have b0 : ∀ cs : Array Value, Below w.heap.size w (w.alloc (.cells cs 5)) := fun cs => (Below.refl _ _).alloc (Nat.le_refl _) _
  have B0 := Lib.hid b0
  clear b0
  go_enter Try.func63, Try.ntmps63
  go_wp2_with fail
  go_loopw [4, 8] (fun _ i wr => (i = .int .i64 0 ∧ wr = w.alloc (.cells #[.int .u8 0, .int .u8 0, .int .u8 0, .int .u8 0, .int .u8 0, .int .u8 0, .int .u8 0, .int .u8 0] 5)) ∨
    (i = .int .i64 1 ∧ wr = w.alloc (.cells #[.int .u8 (z / 72057594037927936), .int .u8 0, .int .u8 0, .int .u8 0, .int .u8 0, .int .u8 0, .int .u8 0, .int .u8 0] 5)) ∨
    (i = .int .i64 2 ∧ wr = w.alloc (.cells #[.int .u8 (z / 72057594037927936), .int .u8 (z / 281474976710656 % 256), .int .u8 0, .int .u8 0, .int .u8 0, .int .u8 0, .int .u8 0, .int .u8 0] 5)) ∨
    (i = .int .i64 3 ∧ wr = w.alloc (.cells #[.int .u8 (z / 72057594037927936), .int .u8 (z / 281474976710656 % 256), .int .u8 (z / 1099511627776 % 256), .int .u8 0, .int .u8 0, .int .u8 0, .int .u8 0, .int .u8 0] 5)) ∨
    (i = .int .i64 4 ∧ wr = w.alloc (.cells #[.int .u8 (z / 72057594037927936), .int .u8 (z / 281474976710656 % 256), .int .u8 (z / 1099511627776 % 256), .int .u8 (z / 4294967296 % 256), .int .u8 0, .int .u8 0, .int .u8 0, .int .u8 0] 5)) ∨
    (i = .int .i64 5 ∧ wr = w.alloc (.cells #[.int .u8 (z / 72057594037927936), .int .u8 (z / 281474976710656 % 256), .int .u8 (z / 1099511627776 % 256), .int .u8 (z / 4294967296 % 256), .int .u8 (z / 16777216 % 256), .int .u8 0, .int .u8 0, .int .u8 0] 5)) ∨
    (i = .int .i64 6 ∧ wr = w.alloc (.cells #[.int .u8 (z / 72057594037927936), .int .u8 (z / 281474976710656 % 256), .int .u8 (z / 1099511627776 % 256), .int .u8 (z / 4294967296 % 256), .int .u8 (z / 16777216 % 256), .int .u8 (z / 65536 % 256), .int .u8 0, .int .u8 0] 5)) ∨
    (i = .int .i64 7 ∧ wr = w.alloc (.cells #[.int .u8 (z / 72057594037927936), .int .u8 (z / 281474976710656 % 256), .int .u8 (z / 1099511627776 % 256), .int .u8 (z / 4294967296 % 256), .int .u8 (z / 16777216 % 256), .int .u8 (z / 65536 % 256), .int .u8 (z / 256 % 256), .int .u8 0] 5)) ∨
    (i = .int .i64 8 ∧ wr = w.alloc (.cells #[.int .u8 (z / 72057594037927936), .int .u8 (z / 281474976710656 % 256), .int .u8 (z / 1099511627776 % 256), .int .u8 (z / 4294967296 % 256), .int .u8 (z / 16777216 % 256), .int .u8 (z / 65536 % 256), .int .u8 (z / 256 % 256), .int .u8 (z % 256)] 5))) (fun _ i _ => 8 - (intOf i).toNat)
  case atStart => exact .inl ⟨rfl, rfl⟩
  case round =>
    rcases hrel with ⟨rfl, rfl⟩ | ⟨rfl, rfl⟩ | ⟨rfl, rfl⟩ | ⟨rfl, rfl⟩ | ⟨rfl, rfl⟩ | ⟨rfl, rfl⟩ | ⟨rfl, rfl⟩ | ⟨rfl, rfl⟩ | ⟨rfl, rfl⟩
    · go_wp2_with fail
      exact ⟨.inr (.inl (by first | exact ⟨rfl, rfl⟩ | exact ⟨rfl, trivial⟩ | exact trivial)), by simp [intOf]⟩
    · go_wp2_with fail
      exact ⟨.inr (.inr (.inl (by first | exact ⟨rfl, rfl⟩ | exact ⟨rfl, trivial⟩ | exact trivial))), by simp [intOf]⟩
    · go_wp2_with fail
      exact ⟨.inr (.inr (.inr (.inl (by first | exact ⟨rfl, rfl⟩ | exact ⟨rfl, trivial⟩ | exact trivial)))), by simp [intOf]⟩
    · go_wp2_with fail
      exact ⟨.inr (.inr (.inr (.inr (.inl (by first | exact ⟨rfl, rfl⟩ | exact ⟨rfl, trivial⟩ | exact trivial))))), by simp [intOf]⟩
    · go_wp2_with fail
      exact ⟨.inr (.inr (.inr (.inr (.inr (.inl (by first | exact ⟨rfl, rfl⟩ | exact ⟨rfl, trivial⟩ | exact trivial)))))), by simp [intOf]⟩
    · go_wp2_with fail
      exact ⟨.inr (.inr (.inr (.inr (.inr (.inr (.inl (by first | exact ⟨rfl, rfl⟩ | exact ⟨rfl, trivial⟩ | exact trivial))))))), by simp [intOf]⟩
    · go_wp2_with fail
      exact ⟨.inr (.inr (.inr (.inr (.inr (.inr (.inr (.inl (by first | exact ⟨rfl, rfl⟩ | exact ⟨rfl, trivial⟩ | exact trivial)))))))), by simp [intOf]⟩
    · go_wp2_with fail
      exact ⟨.inr (.inr (.inr (.inr (.inr (.inr (.inr (.inr ((by first | exact ⟨rfl, rfl⟩ | exact ⟨rfl, trivial⟩ | exact trivial))))))))), by simp [intOf]⟩
    · go_wp2_with fail
      go_ret
      refine ret_be8 (z := z) (by omega) ?_ (B0.out _)
      have k := Blk.new w 5 #[.int .u8 (z / 72057594037927936), .int .u8 (z / 281474976710656 % 256), .int .u8 (z / 1099511627776 % 256), .int .u8 (z / 4294967296 % 256), .int .u8 (z / 16777216 % 256), .int .u8 (z / 65536 % 256), .int .u8 (z / 256 % 256), .int .u8 (z % 256)]

      have e0 : z / 72057594037927936 = z / 256 / 256 / 256 / 256 / 256 / 256 / 256 % 256 := by omega
      have e1 : z / 281474976710656 % 256 = z / 256 / 256 / 256 / 256 / 256 / 256 % 256 := by omega
      have e2 : z / 1099511627776 % 256 = z / 256 / 256 / 256 / 256 / 256 % 256 := by omega
      have e3 : z / 4294967296 % 256 = z / 256 / 256 / 256 / 256 % 256 := by omega
      have e4 : z / 16777216 % 256 = z / 256 / 256 / 256 % 256 := by omega
      have e5 : z / 65536 % 256 = z / 256 / 256 % 256 := by omega
      unfold Blk at k ⊢
      rw [k, e0, e1, e2, e3, e4, e5]
theorem ordi_any (n : Int) (h0 : -9223372036854775808 ≤ n) (h1 : n < 9223372036854775808) (w : World) : Calls Try.prog 54 #[.int .i64 n] w (RetBs (okey n) w) := by
  have hx := xor_top h0 h1
  go_enter Try.func54, Try.ntmps54
  go_wp2_with fail
  refine (ordu_any (n + 9223372036854775808) (by omega) (by omega) w).mono ?_
  rintro en w2 ⟨A, c, rfl, o, b⟩
  go_wp2_with fail
  go_ret
  exact ⟨A, c, rfl, o, b⟩

end Go.Proofs.Ytemidaamnldjmaa
