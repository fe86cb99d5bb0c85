/- A segment's file's name. (Printed by wip/gen_waln.py.) What a file's name says: wal.index. -/
import Derived.Test.YtbldfgpnghoigaaCrcL
import Derived.Test.YtbldfgpnghoigaaWalP
import Derived.Test.YtbldfgpnghoigaaSpareA
import Derived.Laws.IdiomStrings
import Derived.Laws.BytesArg
import Derived.Laws.Bits64b
import Derived.Test.YtbldfgpnghoigaaShelfW
import Derived.Laws.RangeString
namespace Go.Proofs.Ytbldfgpnghoigaa
open Go.RowKit

theorem conv_any (A : Option Addr) (l : List UInt8) (c : Nat) (w : World) (hb : Bs w A l) : (convert 40 9 (.slice A l.length c)).run Try.prog w = .ok (.string ⟨l.toArray⟩) w := by
  cases A with
  | none =>
    have h0 : l.length = 0 := by
      apply Classical.byContradiction; intro h
      obtain ⟨ad, e, _⟩ := hb.at_ (show 0 < l.length by omega)
      cases e
    obtain rfl : l = [] := List.length_eq_zero_iff.1 h0
    exact run_convert_bytes_nil w 40 5 Try.underlying40 Try.underlying5 _ _ 9 Try.underlying9
  | some ad =>
    refine run_convert_bytes_back w 40 9 5 ad c l Try.underlying40 Try.underlying5 Try.underlying9 fun j hj => ?_
    obtain ⟨ad2, e, _, hc⟩ := hb.at_ hj
    obtain rfl := Option.some.inj e
    exact hc

theorem app_lit (p s : List UInt8) : (⟨p.toArray⟩ : ByteArray) ++ ⟨s.toArray⟩ = ⟨(p ++ s).toArray⟩ := by
  apply ByteArray.ext
  simp
/-- a log in memory -/
structure LLog where
  disk : Nat
  pre : List UInt8
  most : Int
  next : Nat
  size : Int
  rot : Bool
def logC (S : Value) (l : LLog) : Array Value := #[.pointer (some ⟨l.disk, 0, none⟩), .string ⟨l.pre.toArray⟩, .int .i64 l.most, S, .int .u64 (l.next : Int), .int .i64 l.size, .bool l.rot]
set_option maxRecDepth 100000 in
set_option maxHeartbeats 1000000 in
theorem path_any (b : Value) (p s : List UInt8) (w : World) (_hl : p.length + s.length ≤ 140737488355328) : Calls Try.prog 66 #[.agg #[b, .string ⟨p.toArray⟩], .string ⟨s.toArray⟩] w (fun en w' => en = .returned (.string ⟨(p ++ s).toArray⟩) ∧ Below w.heap.size w w') := by
  have b1 : Below w.heap.size w (w.alloc (.cells #[b, .string ⟨p.toArray⟩] 74)) := (Below.refl _ _).alloc (Nat.le_refl _) _
  go_enter Try.func66, Try.ntmps66
  go_wp2_with fail
  go_ret
  refine ⟨?_, b1⟩
  show Ending.returned (.string ((⟨p.toArray⟩ : ByteArray) ++ ⟨s.toArray⟩)) = _
  rw [app_lit]
set_option maxRecDepth 100000 in
set_option maxHeartbeats 2000000 in
theorem name_any (g : Nat) (S : Value) (l : LLog) (n : Nat) (hn : n < 18446744073709551616) (w : World) (hk : Blk w g 77 (logC S l)) (hp : l.pre.length ≤ 1048576) :
    Calls Try.prog 42 #[.pointer (some ⟨g, 0, none⟩), .agg #[.int .u64 (n : Int)]] w (fun en w' => en = .returned (.string ⟨(nameW l.pre n).toArray⟩) ∧ Below w.heap.size w w') := by
  have hmk : ∀ W : World, (Instr.makeSlice 40 (.int .i64 16) (.int .i64 16)).run Try.prog W = _ := fun W => mk_u8' 16 (by decide) W
  have k0 : Blk ((w.alloc (.cells #[.int .u64 (n : Int)] 82)).alloc (.cells (Array.replicate 16 (.int .u8 0)) 5)) w.heap.size 82 #[.int .u64 (n : Int)] := (Blk.new w _ _).alloc _
  have k1 : Blk ((w.alloc (.cells #[.int .u64 (n : Int)] 82)).alloc (.cells (Array.replicate 16 (.int .u8 0)) 5)) (w.heap.size + 1) 5 (Array.replicate 16 (.int .u8 0)) := heap_alloc2_new w _ _
  have b1 : Below w.heap.size w ((w.alloc (.cells #[.int .u64 (n : Int)] 82)).alloc (.cells (Array.replicate 16 (.int .u8 0)) 5)) := ((Below.refl _ _).alloc (Nat.le_refl _) _).alloc (by simp) _
  have lg := hk.lt
  go_enter Try.func42, Try.ntmps42
  go_wp2_with fail
  clear hmk
  generalize ((w.alloc (.cells #[.int .u64 (n : Int)] 82)).alloc (.cells (Array.replicate 16 (.int .u8 0)) 5)) = w1 at *
  rw [← fillA_zero (fun i => bval (dig (n / 16 ^ (15 - i) % 16)))] at k1
  go_loopw [6, 10] (fun _ v10 wr => ∃ k : Nat, k ≤ 16 ∧ v10 = .int .i64 (k : Int) ∧ Blk wr w.heap.size 82 #[.int .u64 (n : Int)] ∧ Blk wr (w.heap.size + 1) 5 (fillA (fun i => bval (dig (n / 16 ^ (15 - i) % 16))) (.int .u8 0) 16 k) ∧ Below w.heap.size w wr) (fun _ v10 _ => 16 - (intOf v10).toNat)
  case atStart => exact ⟨0, by decide, rfl, k0, k1, b1⟩
  case round =>
    clear k0 k1 b1
    obtain ⟨k, hk16, rfl, k0, k1, br⟩ := hrel
    by_cases hlt : k < 16
    · have hlti : (k : Int) < 16 := by omega
      have e0 : wr.cell? ⟨w.heap.size, 0, none⟩ = some (.int .u64 (n : Int)) := k0.cell 0
      obtain ⟨d, hd⟩ : ∃ d, d = n / 16 ^ (15 - k) % 16 := ⟨_, rfl⟩
      have hd16 : d < 16 := by rw [hd]; exact Nat.mod_lt _ (by decide)
      have hB : bits .and .u64 ((n : Int) / 2 ^ (4 * (15 - k))) 15 = ((d : Nat) : Int) := by
        have h1 : n / 2 ^ (4 * (15 - k)) < 18446744073709551616 := Nat.lt_of_le_of_lt (Nat.div_le_self _ _) hn
        have e := bits_and_u64_nat (n / 2 ^ (4 * (15 - k))) 15 h1 (by decide)
        rw [show (15 : Nat) = 2 ^ 4 - 1 from rfl, Nat.and_two_pow_sub_one_eq_mod] at e
        rw [hd, show (16 : Nat) ^ (15 - k) = 2 ^ (4 * (15 - k)) by rw [Nat.pow_mul]]
        rw [← show ((n / 2 ^ (4 * (15 - k)) : Nat) : Int) = (n : Int) / 2 ^ (4 * (15 - k)) by simp]
        exact e
      have HD := Lib.hid hd
      clear hd
      have y : wr.cell? ⟨w.heap.size + 1, k, none⟩ = some (.int .u8 0) := by rw [k1.cell, fillA_get _ _ _ hlt, if_neg (Nat.lt_irrefl _)]
      have f : wr.frozen? ⟨w.heap.size + 1, k, none⟩ = false := k1.frozen k
      have hdi : (d : Int) < 16 := by omega
      have g9 : wr.grownBy (wr.setCell ⟨w.heap.size + 1, k, none⟩ (.int .u8 ((dig d).toNat : Int))) (some (w.heap.size + 1)) := only_setCell (only_of_below (Below.refl _ _) (some (w.heap.size + 1))) (.inl rfl) _
      go_wp2_with fail
      go_roundw
      case rel =>
        rw [digits_at d hd16]
        refine ⟨k + 1, by omega, by simp, k0.far (by show w.heap.size ≠ w.heap.size + 1; omega) _, ?_, br.grown g9 br.size (fun j e => by have := Option.some.inj e; omega)⟩
        have h := k1.set_ k (bval (dig (n / 16 ^ (15 - k) % 16)))
        rw [show (fillA (fun i => bval (dig (n / 16 ^ (15 - i) % 16))) (.int .u8 0) 16 k).setIfInBounds k (bval (dig (n / 16 ^ (15 - k) % 16))) = (fillA (fun i => bval (dig (n / 16 ^ (15 - i) % 16))) (.int .u8 0) 16 (k + 1)) from fillA_set _ _ _ _, ← HD.out] at h
        exact h
      case measure => simp [intOf]; omega
    · obtain rfl : k = 16 := by omega
      have hB : Bs wr (some ⟨w.heap.size + 1, 0, none⟩) (hexL 16 n) := by
        rw [fillA_full] at k1
        have e : (List.range 16).map (fun i => bval (dig (n / 16 ^ (15 - i) % 16))) = (hexL 16 n).map bval := by rw [hexL_range, List.map_map]; rfl
        rw [e] at k1
        have := own_of_blk (base := 0) (xs := (hexL 16 n).map bval) k1 (Nat.zero_le _) (by rw [List.length_map, hexL_len]; decide)
        rw [List.length_map] at this
        exact Bs.of_own this (by rw [hexL_len]; decide)
      have hlen : (hexL 16 n).length = 16 := hexL_len _ _
      have hk2 := hk.below br lg
      have T := path_any (.pointer (some ⟨l.disk, 0, none⟩)) l.pre (hexL 16 n)
      have HT := Lib.hid (fun W => T W (by omega))
      have HLEN := Lib.hid hlen
      obtain ⟨hx, hhx⟩ : ∃ hx, hx = hexL 16 n := ⟨_, rfl⟩
      rw [← hhx] at hB HT HLEN
      have HN : Hid (nameW l.pre n = l.pre ++ hx) := by show _ = _; rw [hhx]; rfl
      clear T hlen hhx k0 k1
      go_upto_region 7 with fail
      have kS : Blk wr.drew g 77 (logC S l) ∧ Bs wr.drew (some ⟨w.heap.size + 1, 0, none⟩) hx := ⟨hk2.drew, hB.drew⟩
      refine wp_region_noPanic ?_
      refine wp_region_held_drew (S := fun Y => Blk Y g 77 (logC S l) ∧ Bs Y (some ⟨w.heap.size + 1, 0, none⟩) hx) (by kernel_rfl) kS (fun hH => ?_)
      have bd : Below wr.heap.size wr wr.drew := (Below.refl _ _).drew
      generalize wr.drew = wd at *
      refine wpAnyH_take (i := 0) (v := ?_) rfl (by kernel_rfl) (by kernel_rfl) (by kernel_rfl) (fun _ _ _ h => h) (Or.inl ⟨by rfl, ?_⟩) hH ?_
      case refine_2 => intro w hSw; go_simp; try with_reducible rfl
      try simp only [Z1, Z2, Z4, Z5, Z6, Z7]
      refine wpAnyH_take (i := 1) (v := ?_) rfl (by kernel_rfl) (by kernel_rfl) (by kernel_rfl) (fun _ _ _ h => h) (Or.inl ⟨by rfl, ?_⟩) hH ?_
      case refine_2 => intro w hSw; go_simp; try with_reducible rfl
      try simp only [Z1, Z2, Z3, Z4, Z5, Z6, Z7]
      refine wpAnyH_take (i := 2) (v := ?_) rfl (by kernel_rfl) (by kernel_rfl) (by kernel_rfl) (fun _ _ _ h => h) (Or.inl ⟨by rfl, ?_⟩) hH ?_
      case refine_2 => intro w hSw; go_simp; try with_reducible rfl
      try simp only [Z1, Z2, Z3, Z4, Z5, Z6, Z7]
      refine wpAnyH_take (i := 3) (v := ?_) rfl (by kernel_rfl) (by kernel_rfl) (by kernel_rfl) (fun _ _ _ h => h) (Or.inl ⟨by rfl, ?_⟩) hH ?_
      case refine_2 => intro w hSw; have h1 := hSw.1; replace h1 : Blk w g 77 (logC S l) := h1; have n0 : w.cell? ⟨_, 0, none⟩ = some (.pointer (some ⟨l.disk, 0, none⟩)) := Blk.cell h1 0; have n1 : w.cell? ⟨_, 1, none⟩ = some (.string ⟨l.pre.toArray⟩) := Blk.cell h1 1; clear h1 hSw; go_simp; try with_reducible rfl
      try simp only [Z1, Z2, Z3, Z4, Z5, Z6, Z7]
      refine wpAnyH_take (i := 4) (v := ?_) rfl (by kernel_rfl) (by kernel_rfl) (by kernel_rfl) (fun _ _ _ h => h) (Or.inl ⟨by rfl, ?_⟩) hH ?_
      case refine_2 => intro w hSw; go_simp; try with_reducible rfl
      try simp only [Z1, Z2, Z3, Z4, Z5, Z6, Z7]
      refine wpAnyH_take (i := 5) (v := ?_) rfl (by kernel_rfl) (by kernel_rfl) (by kernel_rfl) (fun _ _ _ h => h) (Or.inl ⟨by rfl, ?_⟩) hH ?_
      case refine_2 => intro w hSw; have hcv := conv_any _ _ 16 w hSw.2; rw [HLEN.out] at hcv; clear hSw; go_simp; try with_reducible rfl
      try simp only [Z1, Z2, Z3, Z4, Z5, Z6, Z7]
      refine wpAnyH_ready (rs := [6]) (by kernel_rfl) (by simp) ?_
      refine AllReadyH.cons rfl (fun K hK => ?_) AllReadyH.nil
      go_simp
      refine (HT.out wd).mono ?_
      rintro en w5 ⟨rfl, b5⟩
      have kS5 : Blk w5 g 77 (logC S l) ∧ Bs w5 (some ⟨w.heap.size + 1, 0, none⟩) hx := ⟨kS.1.below b5 kS.1.lt, kS.2.below b5⟩
      refine hK.out _ _ kS5 (fun hH => ?_)
      clear hK K
      try dsimp only
      try simp only [Z1, Z2, Z3, Z4, Z5, Z6, Z7]
      refine wpAnyH_take (i := 7) (v := ?_) rfl (by kernel_rfl) (by kernel_rfl) (by kernel_rfl) (fun _ _ _ h => h) (Or.inl ⟨by rfl, ?_⟩) hH ?_
      case refine_2 => intro w hSw; go_simp; try with_reducible rfl
      try simp only [Z1, Z2, Z3, Z4, Z5, Z6, Z7]
      refine wpAnyH_done (by kernel_rfl) ?_ _
      refine NoPanic.normal ?_
      go_wp2_with fail
      go_ret
      rw [HN.out]
      exact ⟨rfl, below_step' (below_step' br bd) b5⟩
end Go.Proofs.Ytbldfgpnghoigaa

namespace Go.Proofs.Ytbldfgpnghoigaa
open Go.RowKit

def digL : List UInt8 := [48, 49, 50, 51, 52, 53, 54, 55, 56, 57, 97, 98, 99, 100, 101, 102]
theorem index_dig (c : UInt8) : Lib.indexByte digL c = match undig c with | some d => (d : Int) | none => -1 := by
  have h : ∀ c : Fin 256, Lib.indexByte digL (UInt8.ofNat c.val) = match undig (UInt8.ofNat c.val) with | some d => (d : Int) | none => -1 := by decide +kernel
  have e : UInt8.ofNat c.toNat = c := UInt8.ofNat_toNat
  have := h ⟨c.toNat, c.toNat_lt⟩
  rwa [e] at this
theorem undig_lt {c : UInt8} {d : Nat} (h : undig c = some d) : d < 16 := by
  unfold undig at h
  split at h
  · injection h with h; omega
  · split at h
    · injection h with h; omega
    · cases h
theorem or4 (x d : Nat) (hd : d < 16) (h : x * 16 + d < 18446744073709551616) : bits .or .u64 ((x * 16 : Nat) : Int) (d : Int) = ((x * 16 + d : Nat) : Int) := by
  rw [bits_or_u64_nat _ _ (by omega) (by omega), show x * 16 = x <<< 4 by rw [Nat.shiftLeft_eq], Nat.shiftLeft_add_eq_or_of_lt (by omega)]
theorem cutp_no (nm pre : List UInt8) (h : pre.isPrefixOf nm = false) (w : World) : Calls Try.prog 77 #[.string ⟨nm.toArray⟩, .string ⟨pre.toArray⟩] w (fun en w' => en = .returned (.tuple #[.string ⟨nm.toArray⟩, .bool false]) ∧ w' = w) := by
  have T := Try.strings_CutPrefix ⟨nm.toArray⟩ ⟨pre.toArray⟩ w
  have e1 : Lib.hasPrefix (⟨nm.toArray⟩ : ByteArray).data.toList (⟨pre.toArray⟩ : ByteArray).data.toList = false := h
  have e2 : Lib.trimPrefix (⟨nm.toArray⟩ : ByteArray).data.toList (⟨pre.toArray⟩ : ByteArray).data.toList = nm := by unfold Lib.trimPrefix; rw [if_neg (by rw [e1]; decide)]
  rw [e1, e2] at T
  exact T
theorem cutp_yes (nm pre : List UInt8) (h : pre.isPrefixOf nm = true) (w : World) : Calls Try.prog 77 #[.string ⟨nm.toArray⟩, .string ⟨pre.toArray⟩] w (fun en w' => en = .returned (.tuple #[.string ⟨(nm.drop pre.length).toArray⟩, .bool true]) ∧ w' = w) := by
  have T := Try.strings_CutPrefix ⟨nm.toArray⟩ ⟨pre.toArray⟩ w
  have e1 : Lib.hasPrefix (⟨nm.toArray⟩ : ByteArray).data.toList (⟨pre.toArray⟩ : ByteArray).data.toList = true := h
  have e2 : Lib.trimPrefix (⟨nm.toArray⟩ : ByteArray).data.toList (⟨pre.toArray⟩ : ByteArray).data.toList = nm.drop pre.length := by unfold Lib.trimPrefix; rw [if_pos e1]
  rw [e1, e2] at T
  exact T
set_option maxRecDepth 100000 in
set_option maxHeartbeats 2000000 in
theorem index_any (nm pre : List UInt8) (ha : ∀ b ∈ nm, b.toNat < 128) (w : World) :
    Calls Try.prog 71 #[.string ⟨nm.toArray⟩, .string ⟨pre.toArray⟩] w (fun en w' => en = .returned (.tuple #[.int .u64 (((indexW nm pre).getD 0 : Nat) : Int), .bool (indexW nm pre).isSome]) ∧ Below w.heap.size w w') := by
  obtain ⟨Z, hZ⟩ : ∃ Z, Z = indexW nm pre := ⟨_, rfl⟩
  rw [← hZ]
  have HZ : Hid (Z = if pre.isPrefixOf nm = true ∧ (nm.drop pre.length).length = 16 then unhex 0 (nm.drop pre.length) else none) := hZ
  clear hZ
  cases hp : pre.isPrefixOf nm with
  | false =>
    have HN : Hid (Z = none) := by show _ = _; rw [HZ.out, hp]; simp
    have T := cutp_no nm pre hp w
    go_enter Try.func71, Try.ntmps71
    go_wp2_with fail
    refine T.mono ?_
    clear T
    rintro en w1 ⟨rfl, rfl⟩
    go_wp2_with fail
    go_ret2
    rw [HN.out]
    exact ⟨rfl, Below.refl _ _⟩
  | true =>
    have T := cutp_yes nm pre hp w
    have hax : ∀ b ∈ nm.drop pre.length, b.toNat < 128 := fun b hb => ha b (List.mem_of_mem_drop hb)
    have HA := Lib.hid hax
    by_cases hl : (nm.drop pre.length).length = 16
    · have HU : Hid (Z = unhex 0 (nm.drop pre.length)) := by show _ = _; rw [HZ.out, if_pos ⟨hp, hl⟩]
      clear hax ha HZ hp
      generalize nm.drop pre.length = h at *
      have hsz : (⟨h.toArray⟩ : ByteArray).size = 16 := hl
      have hli : ((⟨h.toArray⟩ : ByteArray).size : Int) = 16 := by rw [hsz]; rfl
      go_enter Try.func71, Try.ntmps71
      go_wp2_with fail
      refine T.mono ?_
      clear T
      rintro en w1 ⟨rfl, rfl⟩
      have hbw : ∀ p, Below w1.heap.size w1 (w1.iter ⟨h.toArray⟩ p) := fun p => (Below.refl _ _).alloc (Nat.le_refl _) _
      go_wp2_with fail
      go_loopw [8, 10, 11] (fun v8 _ _ wr => ∃ k x : Nat, k ≤ 16 ∧ v8 = .int .u64 (x : Int) ∧ x < 16 ^ k ∧ Hid (unhex x (h.drop k) = Z) ∧ wr = w1.iter ⟨h.toArray⟩ k) (fun _ _ _ wr => 16 - wr.iterPos w1.heap.size)
      case atStart => exact ⟨0, 0, by decide, rfl, by decide, HU.out.symm, rfl⟩
      case round =>
        obtain ⟨k, x, hk, rfl, hx, HX, rfl⟩ := hrel
        by_cases hlt : k < 16
        · have hks : k < (⟨h.toArray⟩ : ByteArray).size := by rw [hsz]; exact hlt
          have hkl : k < h.length := by omega
          have hget : (⟨h.toArray⟩ : ByteArray)[k]'hks = h[k] := rfl
          have hc := HA.out h[k] (List.getElem_mem hkl)
          have hnx : ∀ ty, (Instr.next (.pointer (some ⟨w1.heap.size, 0, none⟩)) true ty).run Try.prog (w1.iter ⟨h.toArray⟩ k) = _ := fun ty => run_next_ascii w1 ⟨h.toArray⟩ k ty hks (by rw [hget]; exact hc)
          simp only [hget] at hnx
          have HD : Hid (unhex x (h.drop k) = (undig h[k]).bind fun d => unhex (x * 16 + d) (h.drop (k + 1))) := by show _ = _; rw [List.drop_eq_getElem_cons hkl]; rfl
          clear hget
          generalize h[k] = c at *
          have T := Try.strings_IndexRune_ascii ⟨digL.toArray⟩ (c.toNat : Int) (w1.iter ⟨h.toArray⟩ (k + 1)) (by omega) (by omega)
          have e1 : Lib.indexByte (⟨digL.toArray⟩ : ByteArray).data.toList ((c.toNat : Int).toNat.toUInt8) = Lib.indexByte digL c := by
            show Lib.indexByte digL (UInt8.ofNat (c.toNat : Int).toNat) = _
            rw [Int.toNat_natCast, UInt8.ofNat_toNat]
          rw [e1, index_dig] at T
          cases hu : undig c with
          | none =>
            rw [hu] at T HD
            have HN : Hid (Z = none) := by show _ = _; rw [← HX.out, HD.out]; rfl
            clear HX HD
            replace T : Calls Try.prog 78 #[.string ⟨#[48, 49, 50, 51, 52, 53, 54, 55, 56, 57, 97, 98, 99, 100, 101, 102]⟩, .int .i32 (c.toNat : Int)] (w1.iter ⟨h.toArray⟩ (k + 1)) (fun e w' => e = .returned (.int .i64 (-1)) ∧ w' = w1.iter ⟨h.toArray⟩ (k + 1)) := T
            go_wp2_with fail
            refine T.mono ?_
            clear T
            rintro en w2 ⟨rfl, rfl⟩
            go_wp2_with fail
            go_ret2
            rw [HN.out]
            exact ⟨rfl, hbw _⟩
          | some d =>
            rw [hu] at T HD
            have hd := undig_lt hu
            have HY : Hid (unhex (x * 16 + d) (h.drop (k + 1)) = Z) := by show _ = _; rw [← HX.out, HD.out]; rfl
            have hp1 : 16 ^ (k + 1) ≤ 16 ^ 16 := Nat.pow_le_pow_right (by decide) (by omega)
            rw [show (16 : Nat) ^ 16 = 18446744073709551616 by decide] at hp1
            have hp2 : x * 16 + d < 16 ^ (k + 1) := by rw [Nat.pow_succ]; omega
            have hO := or4 x d hd (by omega)
            have vw : IntKind.u64.wrap ((x : Int) * 16) = (x : Int) * 16 := by simp [IntKind.wrap, IntKind.bits, IntKind.signed]; omega
            have vd : IntKind.u64.wrap (d : Int) = (d : Int) := by simp [IntKind.wrap, IntKind.bits, IntKind.signed]; omega
            have hO2 : bits .or .u64 ((x : Int) * 16) (d : Int) = ((x * 16 + d : Nat) : Int) := by rw [← hO]; rfl
            have hd0 : ¬ (d : Int) < 0 := by omega
            clear HX HD hO hp1 hu
            replace T : Calls Try.prog 78 #[.string ⟨#[48, 49, 50, 51, 52, 53, 54, 55, 56, 57, 97, 98, 99, 100, 101, 102]⟩, .int .i32 (c.toNat : Int)] (w1.iter ⟨h.toArray⟩ (k + 1)) (fun e w' => e = .returned (.int .i64 (d : Int)) ∧ w' = w1.iter ⟨h.toArray⟩ (k + 1)) := T
            go_wp2_with fail
            refine T.mono ?_
            clear T hnx
            rintro en w2 ⟨rfl, rfl⟩
            go_wp2_with fail
            go_roundw
            case rel => exact ⟨k + 1, x * 16 + d, by omega, rfl, hp2, HY.out, rfl⟩
            case measure => simp [World.iterPos, World.iter_heap]; omega
        · have hke : k = 16 := by omega
          subst hke
          have HE : Hid (Z = some x) := by
            show _ = _
            rw [← HX.out, List.drop_of_length_le (by omega)]
            rfl
          have hnx : ∀ ty, (Instr.next (.pointer (some ⟨w1.heap.size, 0, none⟩)) true ty).run Try.prog (w1.iter ⟨h.toArray⟩ 16) = _ := fun ty => run_next_end w1 ⟨h.toArray⟩ 16 ty (by rw [hsz]; decide)
          clear HX
          go_wp2_with fail
          go_ret2
          rw [HE.out]
          exact ⟨rfl, hbw _⟩
    · have HN : Hid (Z = none) := by show _ = _; rw [HZ.out, if_neg (fun e => hl e.2)]
      generalize nm.drop pre.length = h at *
      have hsz : (⟨h.toArray⟩ : ByteArray).size = h.length := rfl
      have hli : ((⟨h.toArray⟩ : ByteArray).size : Int) ≠ 16 := by rw [hsz]; omega
      have hlb : (((⟨h.toArray⟩ : ByteArray).size : Int) != 16) = true := by rw [bne_iff_ne]; exact hli
      go_enter Try.func71, Try.ntmps71
      go_wp2_with fail
      refine T.mono ?_
      clear T
      rintro en w1 ⟨rfl, rfl⟩
      go_wp2_with fail
      go_ret2
      rw [HN.out]
      exact ⟨rfl, Below.refl _ _⟩
end Go.Proofs.Ytbldfgpnghoigaa
