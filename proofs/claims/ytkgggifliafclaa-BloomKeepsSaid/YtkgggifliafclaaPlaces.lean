/- The bits of a key: what places and the reference's Bit come to. -/
import Derived.Test.YtkgggifliafclaaHash
namespace Go.Proofs.Ytkgggifliafclaa
open Go.RowKit

theorem Try.infoInt : (Try.prog.info? 3).map (fun i => (i.zero, i.size, i.bytes)) = some (some (.int .i64 0), 1, 8) := by kernel_rfl

theorem mk_ints (n : Nat) (hn : n ≤ 17592186044416) (W : World) : (Instr.makeSlice 48 (.int .i64 (n : Int)) (.int .i64 (n : Int))).run Try.prog W = .ok (.slice (some ⟨W.heap.size, 0, none⟩) n n) (W.alloc (.cells (Array.replicate n (.int .i64 0)) 3)) := by
  obtain ⟨i, hi, hz0, hz1, hz2⟩ := info_parts Try.infoInt
  exact run_make_rep 48 3 i _ Try.underlying48 hi hz0 hz1 rfl _ _ n (by rw [hz2]; omega) (by omega) W

def hN (l : List UInt8) : Nat := (hashOf l).toNat
theorem hN_eq (l : List UInt8) : hashOf l = (hN l : Int) := by have := hash_bounds l; unfold hN; omega
theorem hN_lt (l : List UInt8) : hN l < 18446744073709551616 := by have := hash_bounds l; unfold hN; omega
/-- the odd step of a key -/
def cN (l : List UInt8) : Nat := hN l / 4294967296 ||| 1
theorem or_one (n : Nat) : n ||| 1 = if n % 2 = 0 then n + 1 else n := by
  have h := Nat.div_add_mod n 2
  apply Nat.eq_of_testBit_eq
  intro i
  rw [Nat.testBit_or]
  split
  · rename_i h0
    cases i with
    | zero => simp [Nat.testBit_zero]; omega
    | succ i => rw [Nat.testBit_succ, Nat.testBit_succ, Nat.testBit_succ, show (n + 1) / 2 = n / 2 from by omega]; simp
  · rename_i h0
    cases i with
    | zero => simp [Nat.testBit_zero]; omega
    | succ i => rw [Nat.testBit_succ, Nat.testBit_succ]; simp
theorem cN_lt (l : List UInt8) : cN l < 4294967296 := by
  have := hN_lt l
  unfold cN; rw [or_one]; split <;> omega
/-- bit j of a key in a filter of m bits -/
def place (l : List UInt8) (m j : Nat) : Nat := (hN l % 4294967296 + j * cN l) % m
theorem place_lt (l : List UInt8) {m : Nat} (hm : 0 < m) (j : Nat) : place l m j < m := Nat.mod_lt _ hm

theorem place_raw (l : List UInt8) (m j : Nat) (hm0 : 0 < m) (hm : m ≤ 4503599627370496) (hj : j ≤ 1000) :
    wrap64 ((IntKind.u64.wrap (bits BinOp.and IntKind.u64 (hashOf l) 4294967295 + IntKind.u64.wrap ((j : Int) * bits BinOp.or IntKind.u64 (hashOf l / 4294967296) 1))).tmod (m : Int)) = ((place l m j : Nat) : Int) := by
  have h1 := hN_lt l
  have h2 := cN_lt l
  have ha : bits BinOp.and IntKind.u64 (hashOf l) 4294967295 = ((hN l % 4294967296 : Nat) : Int) := by
    rw [hN_eq]
    have := u64_and_nat (hN l) 4294967295 h1 (by omega)
    rw [show (4294967295 : Nat) = 2 ^ 32 - 1 from rfl, Nat.and_two_pow_sub_one_eq_mod] at this
    exact this
  have hc : bits BinOp.or IntKind.u64 (hashOf l / 4294967296) 1 = ((cN l : Nat) : Int) := by
    rw [hN_eq]
    exact u64_or_nat (hN l / 4294967296) 1 (by omega) (by omega)
  have h3 : j * cN l ≤ 1000 * 4294967296 := Nat.mul_le_mul hj (by omega)
  rw [ha, hc, ← Int.natCast_mul]
  have e1 : IntKind.u64.wrap ((j * cN l : Nat) : Int) = ((j * cN l : Nat) : Int) := by rw [IntKind.wrap_u64]; omega
  rw [e1, ← Int.natCast_add]
  have e2 : IntKind.u64.wrap ((hN l % 4294967296 + j * cN l : Nat) : Int) = ((hN l % 4294967296 + j * cN l : Nat) : Int) := by rw [IntKind.wrap_u64]; omega
  rw [e2]
  have e3 : (((hN l % 4294967296 + j * cN l : Nat) : Int)).tmod (m : Int) = ((place l m j : Nat) : Int) := by
    rw [Int.tmod_eq_emod_of_nonneg (by omega)]; rfl
  rw [e3]
  have h4 := place_lt l hm0 j
  exact IntWalk.wrap64_in _ ⟨by omega, by omega⟩

def parr (l : List UInt8) (m n j : Nat) : Array Value := ((List.range n).map fun i => Value.int .i64 (if i < j then ((place l m i : Nat) : Int) else 0)).toArray
theorem parr_zero (l : List UInt8) (m n : Nat) : parr l m n 0 = Array.replicate n (.int .i64 0) := by
  unfold parr
  rw [← Array.toList_inj]
  simp [List.map_const']
theorem parr_get (l : List UInt8) (m n j i : Nat) (h : i < n) : (parr l m n j)[i]? = some (.int .i64 (if i < j then ((place l m i : Nat) : Int) else 0)) := by
  simp [parr, h]
theorem parr_set (l : List UInt8) (m n j : Nat) (h : j < n) : (parr l m n j).setIfInBounds j (.int .i64 ((place l m j : Nat) : Int)) = parr l m n (j + 1) := by
  apply Array.ext_getElem?
  intro i
  rw [Array.getElem?_setIfInBounds]
  by_cases hi : i < n
  · rw [parr_get _ _ _ _ _ hi, parr_get _ _ _ _ _ hi]
    by_cases hji : j = i
    · subst hji; simp [parr, h]
    · rw [if_neg hji]
      have : (i < j ↔ i < j + 1) := by omega
      simp [this]
  · have hs : ∀ j, (parr l m n j)[i]? = none := fun j => by simp [parr]; omega
    rw [hs, hs]
    split
    · omega
    · rfl

/-- The places of a key, in new memory. -/
def PlacesPost (l : List UInt8) (m k : Nat) (w : World) (e : Ending) (w' : World) : Prop :=
  e = .returned (.slice (some ⟨w.heap.size, 0, none⟩) k k) ∧ Blk w' w.heap.size 3 (parr l m k k) ∧ Below w.heap.size w w'

set_option maxHeartbeats 400000 in
theorem places_any (A : Option Addr) (l : List UInt8) (c : Nat) (m n : Int) (w : World) (hb : Bs w A l) (hm0 : 0 < m) (hm : m ≤ 4503599627370496) (hn0 : 0 ≤ n) (hn : n ≤ 100) :
    Calls Try.prog 24 #[.slice A l.length c, .int .i64 m, .int .i64 n] w (PlacesPost l m.toNat n.toNat w) := by
  obtain ⟨k, rfl⟩ := Int.eq_ofNat_of_zero_le hn0
  obtain ⟨m, rfl⟩ := Int.eq_ofNat_of_zero_le (Int.le_of_lt hm0)
  have hmk := mk_ints k (by omega)
  simp only [Int.toNat_natCast]
  go_enter Try.func24, Try.ntmps24
  go_wp2_with (go_at_call 9; refine (hash_any _ _ _ _ hb).mono ?_; rintro e w' ⟨rfl, rfl⟩)
  go_loopw [11, 23] (fun _ i wr => ∃ j : Nat, j ≤ k ∧ i = .int .i64 j ∧ Blk wr w.heap.size 3 (parr l m k j) ∧ Below w.heap.size w wr) (fun _ i _ => k - (intOf i).toNat)
  case atStart => exact ⟨0, Nat.zero_le _, rfl, by rw [parr_zero]; exact Blk.new _ _ _, (Below.refl _ _).alloc (Nat.le_refl _) _⟩
  case round =>
    obtain ⟨j, hj, rfl, hblk, hbel⟩ := hrel
    by_cases hlt : j < k
    · have hcell : wr.cell? ⟨w.heap.size, j, none⟩ = some (.int .i64 0) := by rw [hblk.cell, parr_get _ _ _ _ _ hlt]; simp
      have hfr := hblk.frozen j
      have HP := Lib.hid (place_raw l m j (by omega) (by omega) (by omega))
      have HS := Lib.hid (parr_set l m k j hlt)
      go_wp2
      go_roundw
      case rel => exact ⟨j + 1, by omega, by go_num, by rw [HP.out, ← HS.out]; exact hblk.set_ _ _, hbel.setCell (Nat.le_refl _) _⟩
      case measure => simp [intOf]; omega
    · obtain rfl : j = k := by omega
      go_wp2
      go_ret
      exact ⟨rfl, hblk, hbel⟩

end Go.Proofs.Ytkgggifliafclaa
