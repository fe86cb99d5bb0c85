/- What a file's name says: wal.index. -/
import Derived.Test.YtbldfgpnghoigaaWalN
import Derived.Test.YtbldfgpnghoigaaShelfW
import Derived.Laws.RangeString
namespace Go.Proofs.Ytbldfgpnghoigaa
open Go.RowKit

def digL : List UInt8 := [48, 49, 50, 51, 52, 53, 54, 55, 56, 57, 97, 98, 99, 100, 101, 102]
theorem index_dig (c : UInt8) : Lib.indexByte digL c = match undig c with | some d => (d : Int) | none => -1 := by
  have h : ∀ c : Fin 256, Lib.indexByte digL (UInt8.ofNat c.val) = match undig (UInt8.ofNat c.val) with | some d => (d : Int) | none => -1 := by decide +kernel
  have e : UInt8.ofNat c.toNat = c := UInt8.ofNat_toNat
  have := h ⟨c.toNat, c.toNat_lt⟩
  rwa [e] at this
theorem undig_lt {c : UInt8} {d : Nat} (h : undig c = some d) : d < 16 := by
  unfold undig at h
  split at h
  · injection h with h; omega
  · split at h
    · injection h with h; omega
    · cases h
theorem or4 (x d : Nat) (hd : d < 16) (h : x * 16 + d < 18446744073709551616) : bits .or .u64 ((x * 16 : Nat) : Int) (d : Int) = ((x * 16 + d : Nat) : Int) := by
  rw [bits_or_u64_nat _ _ (by omega) (by omega), show x * 16 = x <<< 4 by rw [Nat.shiftLeft_eq], Nat.shiftLeft_add_eq_or_of_lt (by omega)]
theorem cutp_no (nm pre : List UInt8) (h : pre.isPrefixOf nm = false) (w : World) : Calls Try.prog 77 #[.string ⟨nm.toArray⟩, .string ⟨pre.toArray⟩] w (fun en w' => en = .returned (.tuple #[.string ⟨nm.toArray⟩, .bool false]) ∧ w' = w) := by
  have T := Try.strings_CutPrefix ⟨nm.toArray⟩ ⟨pre.toArray⟩ w
  have e1 : Lib.hasPrefix (⟨nm.toArray⟩ : ByteArray).data.toList (⟨pre.toArray⟩ : ByteArray).data.toList = false := h
  have e2 : Lib.trimPrefix (⟨nm.toArray⟩ : ByteArray).data.toList (⟨pre.toArray⟩ : ByteArray).data.toList = nm := by unfold Lib.trimPrefix; rw [if_neg (by rw [e1]; decide)]
  rw [e1, e2] at T
  exact T
theorem cutp_yes (nm pre : List UInt8) (h : pre.isPrefixOf nm = true) (w : World) : Calls Try.prog 77 #[.string ⟨nm.toArray⟩, .string ⟨pre.toArray⟩] w (fun en w' => en = .returned (.tuple #[.string ⟨(nm.drop pre.length).toArray⟩, .bool true]) ∧ w' = w) := by
  have T := Try.strings_CutPrefix ⟨nm.toArray⟩ ⟨pre.toArray⟩ w
  have e1 : Lib.hasPrefix (⟨nm.toArray⟩ : ByteArray).data.toList (⟨pre.toArray⟩ : ByteArray).data.toList = true := h
  have e2 : Lib.trimPrefix (⟨nm.toArray⟩ : ByteArray).data.toList (⟨pre.toArray⟩ : ByteArray).data.toList = nm.drop pre.length := by unfold Lib.trimPrefix; rw [if_pos e1]
  rw [e1, e2] at T
  exact T
set_option maxRecDepth 100000 in
set_option maxHeartbeats 2000000 in
theorem index_any (nm pre : List UInt8) (ha : ∀ b ∈ nm, b.toNat < 128) (w : World) :
    Calls Try.prog 71 #[.string ⟨nm.toArray⟩, .string ⟨pre.toArray⟩] w (fun en w' => en = .returned (.tuple #[.int .u64 (((indexW nm pre).getD 0 : Nat) : Int), .bool (indexW nm pre).isSome]) ∧ Below w.heap.size w w') := by
  obtain ⟨Z, hZ⟩ : ∃ Z, Z = indexW nm pre := ⟨_, rfl⟩
  rw [← hZ]
  have HZ : Hid (Z = if pre.isPrefixOf nm = true ∧ (nm.drop pre.length).length = 16 then unhex 0 (nm.drop pre.length) else none) := hZ
  clear hZ
  cases hp : pre.isPrefixOf nm with
  | false =>
    have HN : Hid (Z = none) := by show _ = _; rw [HZ.out, hp]; simp
    have T := cutp_no nm pre hp w
    go_enter Try.func71, Try.ntmps71
    go_wp2_with fail
    refine T.mono ?_
    clear T
    rintro en w1 ⟨rfl, rfl⟩
    go_wp2_with fail
    go_ret2
    rw [HN.out]
    exact ⟨rfl, Below.refl _ _⟩
  | true =>
    have T := cutp_yes nm pre hp w
    have hax : ∀ b ∈ nm.drop pre.length, b.toNat < 128 := fun b hb => ha b (List.mem_of_mem_drop hb)
    have HA := Lib.hid hax
    by_cases hl : (nm.drop pre.length).length = 16
    · have HU : Hid (Z = unhex 0 (nm.drop pre.length)) := by show _ = _; rw [HZ.out, if_pos ⟨hp, hl⟩]
      clear hax ha HZ hp
      generalize nm.drop pre.length = h at *
      have hsz : (⟨h.toArray⟩ : ByteArray).size = 16 := hl
      have hli : ((⟨h.toArray⟩ : ByteArray).size : Int) = 16 := by rw [hsz]; rfl
      go_enter Try.func71, Try.ntmps71
      go_wp2_with fail
      refine T.mono ?_
      clear T
      rintro en w1 ⟨rfl, rfl⟩
      have hbw : ∀ p, Below w1.heap.size w1 (w1.iter ⟨h.toArray⟩ p) := fun p => (Below.refl _ _).alloc (Nat.le_refl _) _
      go_wp2_with fail
      go_loopw [8, 10, 11] (fun v8 _ _ wr => ∃ k x : Nat, k ≤ 16 ∧ v8 = .int .u64 (x : Int) ∧ x < 16 ^ k ∧ Hid (unhex x (h.drop k) = Z) ∧ wr = w1.iter ⟨h.toArray⟩ k) (fun _ _ _ wr => 16 - wr.iterPos w1.heap.size)
      case atStart => exact ⟨0, 0, by decide, rfl, by decide, HU.out.symm, rfl⟩
      case round =>
        obtain ⟨k, x, hk, rfl, hx, HX, rfl⟩ := hrel
        by_cases hlt : k < 16
        · have hks : k < (⟨h.toArray⟩ : ByteArray).size := by rw [hsz]; exact hlt
          have hkl : k < h.length := by omega
          have hget : (⟨h.toArray⟩ : ByteArray)[k]'hks = h[k] := rfl
          have hc := HA.out h[k] (List.getElem_mem hkl)
          have hnx : ∀ ty, (Instr.next (.pointer (some ⟨w1.heap.size, 0, none⟩)) true ty).run Try.prog (w1.iter ⟨h.toArray⟩ k) = _ := fun ty => run_next_ascii w1 ⟨h.toArray⟩ k ty hks (by rw [hget]; exact hc)
          simp only [hget] at hnx
          have HD : Hid (unhex x (h.drop k) = (undig h[k]).bind fun d => unhex (x * 16 + d) (h.drop (k + 1))) := by show _ = _; rw [List.drop_eq_getElem_cons hkl]; rfl
          clear hget
          generalize h[k] = c at *
          have T := Try.strings_IndexRune_ascii ⟨digL.toArray⟩ (c.toNat : Int) (w1.iter ⟨h.toArray⟩ (k + 1)) (by omega) (by omega)
          have e1 : Lib.indexByte (⟨digL.toArray⟩ : ByteArray).data.toList ((c.toNat : Int).toNat.toUInt8) = Lib.indexByte digL c := by
            show Lib.indexByte digL (UInt8.ofNat (c.toNat : Int).toNat) = _
            rw [Int.toNat_natCast, UInt8.ofNat_toNat]
          rw [e1, index_dig] at T
          cases hu : undig c with
          | none =>
            rw [hu] at T HD
            have HN : Hid (Z = none) := by show _ = _; rw [← HX.out, HD.out]; rfl
            clear HX HD
            replace T : Calls Try.prog 78 #[.string ⟨#[48, 49, 50, 51, 52, 53, 54, 55, 56, 57, 97, 98, 99, 100, 101, 102]⟩, .int .i32 (c.toNat : Int)] (w1.iter ⟨h.toArray⟩ (k + 1)) (fun e w' => e = .returned (.int .i64 (-1)) ∧ w' = w1.iter ⟨h.toArray⟩ (k + 1)) := T
            go_wp2_with fail
            refine T.mono ?_
            clear T
            rintro en w2 ⟨rfl, rfl⟩
            go_wp2_with fail
            go_ret2
            rw [HN.out]
            exact ⟨rfl, hbw _⟩
          | some d =>
            rw [hu] at T HD
            have hd := undig_lt hu
            have HY : Hid (unhex (x * 16 + d) (h.drop (k + 1)) = Z) := by show _ = _; rw [← HX.out, HD.out]; rfl
            have hp1 : 16 ^ (k + 1) ≤ 16 ^ 16 := Nat.pow_le_pow_right (by decide) (by omega)
            rw [show (16 : Nat) ^ 16 = 18446744073709551616 by decide] at hp1
            have hp2 : x * 16 + d < 16 ^ (k + 1) := by rw [Nat.pow_succ]; omega
            have hO := or4 x d hd (by omega)
            have vw : IntKind.u64.wrap ((x : Int) * 16) = (x : Int) * 16 := by simp [IntKind.wrap, IntKind.bits, IntKind.signed]; omega
            have vd : IntKind.u64.wrap (d : Int) = (d : Int) := by simp [IntKind.wrap, IntKind.bits, IntKind.signed]; omega
            have hO2 : bits .or .u64 ((x : Int) * 16) (d : Int) = ((x * 16 + d : Nat) : Int) := by rw [← hO]; rfl
            have hd0 : ¬ (d : Int) < 0 := by omega
            clear HX HD hO hp1 hu
            replace T : Calls Try.prog 78 #[.string ⟨#[48, 49, 50, 51, 52, 53, 54, 55, 56, 57, 97, 98, 99, 100, 101, 102]⟩, .int .i32 (c.toNat : Int)] (w1.iter ⟨h.toArray⟩ (k + 1)) (fun e w' => e = .returned (.int .i64 (d : Int)) ∧ w' = w1.iter ⟨h.toArray⟩ (k + 1)) := T
            go_wp2_with fail
            refine T.mono ?_
            clear T hnx
            rintro en w2 ⟨rfl, rfl⟩
            go_wp2_with fail
            go_roundw
            case rel => exact ⟨k + 1, x * 16 + d, by omega, rfl, hp2, HY.out, rfl⟩
            case measure => simp [World.iterPos, World.iter_heap]; omega
        · have hke : k = 16 := by omega
          subst hke
          have HE : Hid (Z = some x) := by
            show _ = _
            rw [← HX.out, List.drop_of_length_le (by omega)]
            rfl
          have hnx : ∀ ty, (Instr.next (.pointer (some ⟨w1.heap.size, 0, none⟩)) true ty).run Try.prog (w1.iter ⟨h.toArray⟩ 16) = _ := fun ty => run_next_end w1 ⟨h.toArray⟩ 16 ty (by rw [hsz]; decide)
          clear HX
          go_wp2_with fail
          go_ret2
          rw [HE.out]
          exact ⟨rfl, hbw _⟩
    · have HN : Hid (Z = none) := by show _ = _; rw [HZ.out, if_neg (fun e => hl e.2)]
      generalize nm.drop pre.length = h at *
      have hsz : (⟨h.toArray⟩ : ByteArray).size = h.length := rfl
      have hli : ((⟨h.toArray⟩ : ByteArray).size : Int) ≠ 16 := by rw [hsz]; omega
      have hlb : (((⟨h.toArray⟩ : ByteArray).size : Int) != 16) = true := by rw [bne_iff_ne]; exact hli
      go_enter Try.func71, Try.ntmps71
      go_wp2_with fail
      refine T.mono ?_
      clear T
      rintro en w1 ⟨rfl, rfl⟩
      go_wp2_with fail
      go_ret2
      rw [HN.out]
      exact ⟨rfl, Below.refl _ _⟩
end Go.Proofs.Ytbldfgpnghoigaa
