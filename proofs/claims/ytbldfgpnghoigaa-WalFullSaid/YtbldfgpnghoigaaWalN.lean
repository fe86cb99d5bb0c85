/- A segment's file's name. (Printed by wip/gen_waln.py.) -/
import Derived.Test.YtbldfgpnghoigaaCrcL
import Derived.Test.YtbldfgpnghoigaaFill
import Derived.Test.YtbldfgpnghoigaaSpareA
import Derived.Laws.IdiomStrings
import Derived.Laws.BytesArg
import Derived.Laws.Bits64b
namespace Go.Proofs.Ytbldfgpnghoigaa
open Go.RowKit

theorem conv_any (A : Option Addr) (l : List UInt8) (c : Nat) (w : World) (hb : Bs w A l) : (convert 40 9 (.slice A l.length c)).run Try.prog w = .ok (.string ⟨l.toArray⟩) w := by
  cases A with
  | none =>
    have h0 : l.length = 0 := by
      apply Classical.byContradiction; intro h
      obtain ⟨ad, e, _⟩ := hb.at_ (show 0 < l.length by omega)
      cases e
    obtain rfl : l = [] := List.length_eq_zero_iff.1 h0
    exact run_convert_bytes_nil w 40 5 Try.underlying40 Try.underlying5 _ _ 9 Try.underlying9
  | some ad =>
    refine run_convert_bytes_back w 40 9 5 ad c l Try.underlying40 Try.underlying5 Try.underlying9 fun j hj => ?_
    obtain ⟨ad2, e, _, hc⟩ := hb.at_ hj
    obtain rfl := Option.some.inj e
    exact hc

theorem app_lit (p s : List UInt8) : (⟨p.toArray⟩ : ByteArray) ++ ⟨s.toArray⟩ = ⟨(p ++ s).toArray⟩ := by
  apply ByteArray.ext
  simp
/-- a log in memory -/
structure LLog where
  disk : Nat
  pre : List UInt8
  most : Int
  next : Nat
  size : Int
  rot : Bool
def logC (S : Value) (l : LLog) : Array Value := #[.pointer (some ⟨l.disk, 0, none⟩), .string ⟨l.pre.toArray⟩, .int .i64 l.most, S, .int .u64 (l.next : Int), .int .i64 l.size, .bool l.rot]
set_option maxRecDepth 100000 in
set_option maxHeartbeats 1000000 in
theorem path_any (b : Value) (p s : List UInt8) (w : World) (_hl : p.length + s.length ≤ 140737488355328) : Calls Try.prog 66 #[.agg #[b, .string ⟨p.toArray⟩], .string ⟨s.toArray⟩] w (fun en w' => en = .returned (.string ⟨(p ++ s).toArray⟩) ∧ Below w.heap.size w w') := by
  have b1 : Below w.heap.size w (w.alloc (.cells #[b, .string ⟨p.toArray⟩] 74)) := (Below.refl _ _).alloc (Nat.le_refl _) _
  go_enter Try.func66, Try.ntmps66
  go_wp2_with fail
  go_ret
  refine ⟨?_, b1⟩
  show Ending.returned (.string ((⟨p.toArray⟩ : ByteArray) ++ ⟨s.toArray⟩)) = _
  rw [app_lit]
set_option maxRecDepth 100000 in
set_option maxHeartbeats 2000000 in
theorem name_any (g : Nat) (S : Value) (l : LLog) (n : Nat) (hn : n < 18446744073709551616) (w : World) (hk : Blk w g 77 (logC S l)) (hp : l.pre.length ≤ 1048576) :
    Calls Try.prog 42 #[.pointer (some ⟨g, 0, none⟩), .agg #[.int .u64 (n : Int)]] w (fun en w' => en = .returned (.string ⟨(nameW l.pre n).toArray⟩) ∧ Below w.heap.size w w') := by
  have hmk : ∀ W : World, (Instr.makeSlice 40 (.int .i64 16) (.int .i64 16)).run Try.prog W = _ := fun W => mk_u8' 16 (by decide) W
  have k0 : Blk ((w.alloc (.cells #[.int .u64 (n : Int)] 82)).alloc (.cells (Array.replicate 16 (.int .u8 0)) 5)) w.heap.size 82 #[.int .u64 (n : Int)] := (Blk.new w _ _).alloc _
  have k1 : Blk ((w.alloc (.cells #[.int .u64 (n : Int)] 82)).alloc (.cells (Array.replicate 16 (.int .u8 0)) 5)) (w.heap.size + 1) 5 (Array.replicate 16 (.int .u8 0)) := heap_alloc2_new w _ _
  have b1 : Below w.heap.size w ((w.alloc (.cells #[.int .u64 (n : Int)] 82)).alloc (.cells (Array.replicate 16 (.int .u8 0)) 5)) := ((Below.refl _ _).alloc (Nat.le_refl _) _).alloc (by simp) _
  have lg := hk.lt
  go_enter Try.func42, Try.ntmps42
  go_wp2_with fail
  clear hmk
  generalize ((w.alloc (.cells #[.int .u64 (n : Int)] 82)).alloc (.cells (Array.replicate 16 (.int .u8 0)) 5)) = w1 at *
  rw [← fillA_zero (fun i => bval (dig (n / 16 ^ (15 - i) % 16)))] at k1
  go_loopw [6, 10] (fun _ v10 wr => ∃ k : Nat, k ≤ 16 ∧ v10 = .int .i64 (k : Int) ∧ Blk wr w.heap.size 82 #[.int .u64 (n : Int)] ∧ Blk wr (w.heap.size + 1) 5 (fillA (fun i => bval (dig (n / 16 ^ (15 - i) % 16))) (.int .u8 0) 16 k) ∧ Below w.heap.size w wr) (fun _ v10 _ => 16 - (intOf v10).toNat)
  case atStart => exact ⟨0, by decide, rfl, k0, k1, b1⟩
  case round =>
    clear k0 k1 b1
    obtain ⟨k, hk16, rfl, k0, k1, br⟩ := hrel
    by_cases hlt : k < 16
    · have hlti : (k : Int) < 16 := by omega
      have e0 : wr.cell? ⟨w.heap.size, 0, none⟩ = some (.int .u64 (n : Int)) := k0.cell 0
      obtain ⟨d, hd⟩ : ∃ d, d = n / 16 ^ (15 - k) % 16 := ⟨_, rfl⟩
      have hd16 : d < 16 := by rw [hd]; exact Nat.mod_lt _ (by decide)
      have hB : bits .and .u64 ((n : Int) / 2 ^ (4 * (15 - k))) 15 = ((d : Nat) : Int) := by
        have h1 : n / 2 ^ (4 * (15 - k)) < 18446744073709551616 := Nat.lt_of_le_of_lt (Nat.div_le_self _ _) hn
        have e := bits_and_u64_nat (n / 2 ^ (4 * (15 - k))) 15 h1 (by decide)
        rw [show (15 : Nat) = 2 ^ 4 - 1 from rfl, Nat.and_two_pow_sub_one_eq_mod] at e
        rw [hd, show (16 : Nat) ^ (15 - k) = 2 ^ (4 * (15 - k)) by rw [Nat.pow_mul]]
        rw [← show ((n / 2 ^ (4 * (15 - k)) : Nat) : Int) = (n : Int) / 2 ^ (4 * (15 - k)) by simp]
        exact e
      have HD := Lib.hid hd
      clear hd
      have y : wr.cell? ⟨w.heap.size + 1, k, none⟩ = some (.int .u8 0) := by rw [k1.cell, fillA_get _ _ _ hlt, if_neg (Nat.lt_irrefl _)]
      have f : wr.frozen? ⟨w.heap.size + 1, k, none⟩ = false := k1.frozen k
      have hdi : (d : Int) < 16 := by omega
      have g9 : wr.grownBy (wr.setCell ⟨w.heap.size + 1, k, none⟩ (.int .u8 ((dig d).toNat : Int))) (some (w.heap.size + 1)) := only_setCell (only_of_below (Below.refl _ _) (some (w.heap.size + 1))) (.inl rfl) _
      go_wp2_with fail
      go_roundw
      case rel =>
        rw [digits_at d hd16]
        refine ⟨k + 1, by omega, by simp, k0.far (by show w.heap.size ≠ w.heap.size + 1; omega) _, ?_, br.grown g9 br.size (fun j e => by have := Option.some.inj e; omega)⟩
        have h := k1.set_ k (bval (dig (n / 16 ^ (15 - k) % 16)))
        rw [show (fillA (fun i => bval (dig (n / 16 ^ (15 - i) % 16))) (.int .u8 0) 16 k).setIfInBounds k (bval (dig (n / 16 ^ (15 - k) % 16))) = (fillA (fun i => bval (dig (n / 16 ^ (15 - i) % 16))) (.int .u8 0) 16 (k + 1)) from fillA_set _ _ _ _, ← HD.out] at h
        exact h
      case measure => simp [intOf]; omega
    · obtain rfl : k = 16 := by omega
      have hB : Bs wr (some ⟨w.heap.size + 1, 0, none⟩) (hexL 16 n) := by
        rw [fillA_full] at k1
        have e : (List.range 16).map (fun i => bval (dig (n / 16 ^ (15 - i) % 16))) = (hexL 16 n).map bval := by rw [hexL_range, List.map_map]; rfl
        rw [e] at k1
        have := own_of_blk (base := 0) (xs := (hexL 16 n).map bval) k1 (Nat.zero_le _) (by rw [List.length_map, hexL_len]; decide)
        rw [List.length_map] at this
        exact Bs.of_own this (by rw [hexL_len]; decide)
      have hlen : (hexL 16 n).length = 16 := hexL_len _ _
      have hk2 := hk.below br lg
      have T := path_any (.pointer (some ⟨l.disk, 0, none⟩)) l.pre (hexL 16 n)
      have HT := Lib.hid (fun W => T W (by omega))
      have HLEN := Lib.hid hlen
      obtain ⟨hx, hhx⟩ : ∃ hx, hx = hexL 16 n := ⟨_, rfl⟩
      rw [← hhx] at hB HT HLEN
      have HN : Hid (nameW l.pre n = l.pre ++ hx) := by show _ = _; rw [hhx]; rfl
      clear T hlen hhx k0 k1
      go_upto_region 7 with fail
      have kS : Blk wr.drew g 77 (logC S l) ∧ Bs wr.drew (some ⟨w.heap.size + 1, 0, none⟩) hx := ⟨hk2.drew, hB.drew⟩
      refine wp_region_noPanic ?_
      refine wp_region_held_drew (S := fun Y => Blk Y g 77 (logC S l) ∧ Bs Y (some ⟨w.heap.size + 1, 0, none⟩) hx) (by kernel_rfl) kS (fun hH => ?_)
      have bd : Below wr.heap.size wr wr.drew := (Below.refl _ _).drew
      generalize wr.drew = wd at *
      refine wpAnyH_take (i := 0) (v := ?_) rfl (by kernel_rfl) (by kernel_rfl) (by kernel_rfl) (fun _ _ _ h => h) (Or.inl ⟨by rfl, ?_⟩) hH ?_
      case refine_2 => intro w hSw; go_simp; try with_reducible rfl
      try simp only [Z1, Z2, Z4, Z5, Z6, Z7]
      refine wpAnyH_take (i := 1) (v := ?_) rfl (by kernel_rfl) (by kernel_rfl) (by kernel_rfl) (fun _ _ _ h => h) (Or.inl ⟨by rfl, ?_⟩) hH ?_
      case refine_2 => intro w hSw; go_simp; try with_reducible rfl
      try simp only [Z1, Z2, Z3, Z4, Z5, Z6, Z7]
      refine wpAnyH_take (i := 2) (v := ?_) rfl (by kernel_rfl) (by kernel_rfl) (by kernel_rfl) (fun _ _ _ h => h) (Or.inl ⟨by rfl, ?_⟩) hH ?_
      case refine_2 => intro w hSw; go_simp; try with_reducible rfl
      try simp only [Z1, Z2, Z3, Z4, Z5, Z6, Z7]
      refine wpAnyH_take (i := 3) (v := ?_) rfl (by kernel_rfl) (by kernel_rfl) (by kernel_rfl) (fun _ _ _ h => h) (Or.inl ⟨by rfl, ?_⟩) hH ?_
      case refine_2 => intro w hSw; have h1 := hSw.1; replace h1 : Blk w g 77 (logC S l) := h1; have n0 : w.cell? ⟨_, 0, none⟩ = some (.pointer (some ⟨l.disk, 0, none⟩)) := Blk.cell h1 0; have n1 : w.cell? ⟨_, 1, none⟩ = some (.string ⟨l.pre.toArray⟩) := Blk.cell h1 1; clear h1 hSw; go_simp; try with_reducible rfl
      try simp only [Z1, Z2, Z3, Z4, Z5, Z6, Z7]
      refine wpAnyH_take (i := 4) (v := ?_) rfl (by kernel_rfl) (by kernel_rfl) (by kernel_rfl) (fun _ _ _ h => h) (Or.inl ⟨by rfl, ?_⟩) hH ?_
      case refine_2 => intro w hSw; go_simp; try with_reducible rfl
      try simp only [Z1, Z2, Z3, Z4, Z5, Z6, Z7]
      refine wpAnyH_take (i := 5) (v := ?_) rfl (by kernel_rfl) (by kernel_rfl) (by kernel_rfl) (fun _ _ _ h => h) (Or.inl ⟨by rfl, ?_⟩) hH ?_
      case refine_2 => intro w hSw; have hcv := conv_any _ _ 16 w hSw.2; rw [HLEN.out] at hcv; clear hSw; go_simp; try with_reducible rfl
      try simp only [Z1, Z2, Z3, Z4, Z5, Z6, Z7]
      refine wpAnyH_ready (rs := [6]) (by kernel_rfl) (by simp) ?_
      refine AllReadyH.cons rfl (fun K hK => ?_) AllReadyH.nil
      go_simp
      refine (HT.out wd).mono ?_
      rintro en w5 ⟨rfl, b5⟩
      have kS5 : Blk w5 g 77 (logC S l) ∧ Bs w5 (some ⟨w.heap.size + 1, 0, none⟩) hx := ⟨kS.1.below b5 kS.1.lt, kS.2.below b5⟩
      refine hK.out _ _ kS5 (fun hH => ?_)
      clear hK K
      try dsimp only
      try simp only [Z1, Z2, Z3, Z4, Z5, Z6, Z7]
      refine wpAnyH_take (i := 7) (v := ?_) rfl (by kernel_rfl) (by kernel_rfl) (by kernel_rfl) (fun _ _ _ h => h) (Or.inl ⟨by rfl, ?_⟩) hH ?_
      case refine_2 => intro w hSw; go_simp; try with_reducible rfl
      try simp only [Z1, Z2, Z3, Z4, Z5, Z6, Z7]
      refine wpAnyH_done (by kernel_rfl) ?_ _
      refine NoPanic.normal ?_
      go_wp2_with fail
      go_ret
      rw [HN.out]
      exact ⟨rfl, below_step' (below_step' br bd) b5⟩
end Go.Proofs.Ytbldfgpnghoigaa
