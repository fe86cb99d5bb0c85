/- caissonref02.wide and First: the rune at a place is the model's own decoding. -/
import Derived.Test.YtfededjcadmpbaaGreatDoorUtf
import Derived.Lib.OthersKept
namespace Go.Proofs.YtfededjcadmpbaaGreatDoor
open Go.RowKit Go.Lib

/-- how many bytes follow a first byte, and what it says -/
def wideE (b : Nat) : Int × Int :=
  if b < 128 then (0, b) else if 194 ≤ b ∧ b ≤ 223 then (1, (b : Int) - 192) else if 224 ≤ b ∧ b ≤ 239 then (2, (b : Int) - 224) else if 240 ≤ b ∧ b ≤ 244 then (3, (b : Int) - 240) else (-1, 0)
theorem wide_any (b : Nat) (hb : b < 256) (w : World) : Calls Tryz.prog 101 #[.int .u8 (b : Int)] w fun e w' => e = .returned (.tuple #[.int .i64 (wideE b).1, .int .i64 (wideE b).2]) ∧ w' = w := by
  have hb' : (b : Int) < 256 := by omega
  rcases (by omega : b < 128 ∨ (128 ≤ b ∧ b < 194) ∨ (194 ≤ b ∧ b ≤ 223) ∨ (224 ≤ b ∧ b ≤ 239) ∨ (240 ≤ b ∧ b ≤ 244) ∨ 244 < b) with h | h | h | h | h | h
  · have he : wideE b = (0, (b : Int)) := by unfold wideE; rw [if_pos h]
    rw [he]
    have h1 : (b : Int) < 128 := by omega
    clear he h
    go_enter Tryz.func101, Tryz.ntmps101
    go_wp2_with fail
    go_ret2
    exact ⟨rfl, rfl⟩
  · have he : wideE b = (-1, 0) := by unfold wideE; rw [if_neg (by omega), if_neg (by omega), if_neg (by omega), if_neg (by omega)]
    rw [he]
    have h1 : ¬ (b : Int) < 128 := by omega
    have h2 : ¬ 194 ≤ (b : Int) := by omega
    have h3 : ¬ 224 ≤ (b : Int) := by omega
    have h4 : ¬ 240 ≤ (b : Int) := by omega
    clear he h
    go_enter Tryz.func101, Tryz.ntmps101
    go_wp2_with fail
    go_ret2
    exact ⟨rfl, rfl⟩
  · have he : wideE b = (1, (b : Int) - 192) := by unfold wideE; rw [if_neg (by omega), if_pos h]
    rw [he]
    have h1 : ¬ (b : Int) < 128 := by omega
    have h2 : 194 ≤ (b : Int) := by omega
    have h3 : (b : Int) ≤ 223 := by omega
    clear he h
    go_enter Tryz.func101, Tryz.ntmps101
    go_wp2_with fail
    go_ret2
    exact ⟨rfl, rfl⟩
  · have he : wideE b = (2, (b : Int) - 224) := by unfold wideE; rw [if_neg (by omega), if_neg (by omega), if_pos h]
    rw [he]
    have h1 : ¬ (b : Int) < 128 := by omega
    have h2 : 194 ≤ (b : Int) := by omega
    have h3 : ¬ (b : Int) ≤ 223 := by omega
    have h4 : 224 ≤ (b : Int) := by omega
    have h5 : (b : Int) ≤ 239 := by omega
    clear he h
    go_enter Tryz.func101, Tryz.ntmps101
    go_wp2_with fail
    go_ret2
    exact ⟨rfl, rfl⟩
  · have he : wideE b = (3, (b : Int) - 240) := by unfold wideE; rw [if_neg (by omega), if_neg (by omega), if_neg (by omega), if_pos h]
    rw [he]
    have h1 : ¬ (b : Int) < 128 := by omega
    have h2 : 194 ≤ (b : Int) := by omega
    have h3 : ¬ (b : Int) ≤ 223 := by omega
    have h4 : 224 ≤ (b : Int) := by omega
    have h5 : ¬ (b : Int) ≤ 239 := by omega
    have h6 : 240 ≤ (b : Int) := by omega
    have h7 : (b : Int) ≤ 244 := by omega
    clear he h
    go_enter Tryz.func101, Tryz.ntmps101
    go_wp2_with fail
    go_ret2
    exact ⟨rfl, rfl⟩
  · have he : wideE b = (-1, 0) := by unfold wideE; rw [if_neg (by omega), if_neg (by omega), if_neg (by omega), if_neg (by omega)]
    rw [he]
    have h1 : ¬ (b : Int) < 128 := by omega
    have h2 : 194 ≤ (b : Int) := by omega
    have h3 : ¬ (b : Int) ≤ 223 := by omega
    have h4 : 224 ≤ (b : Int) := by omega
    have h5 : ¬ (b : Int) ≤ 239 := by omega
    have h6 : 240 ≤ (b : Int) := by omega
    have h7 : ¬ (b : Int) ≤ 244 := by omega
    clear he h
    go_enter Tryz.func101, Tryz.ntmps101
    go_wp2_with fail
    go_ret2
    exact ⟨rfl, rfl⟩

/-- what First answers -/
def RetFirst (s : ByteArray) (i : Nat) (w : World) (en : Ending) (w' : World) : Prop :=
  en = .returned (.tuple #[.int .i64 ((Utf8.decode s i).1 : Int), .int .i64 ((Utf8.decode s i).2 : Int), .bool (okAt s i)]) ∧ w' = w
theorem RetFirst.of {s : ByteArray} {i c n : Nat} {z m : Int} {w : World} (hz : z = (c : Int)) (hm : m = (n : Int)) (hd : Utf8.decode s i = (c, n)) (hn : 2 ≤ n ∨ c < 128) : RetFirst s i w (.returned (.tuple #[.int .i64 z, .int .i64 m, .bool true])) w := by
  subst hz hm
  unfold RetFirst okAt
  rw [hd]
  have h2 : (c, n) ≠ (65533, 1) := by
    intro e
    have h1 := congrArg Prod.fst e
    have h2 := congrArg Prod.snd e
    simp only at h1 h2
    omega
  exact ⟨by rw [decide_eq_true h2], rfl⟩
theorem RetFirst.bad {s : ByteArray} {i : Nat} {w : World} (hd : Utf8.decode s i = (65533, 1)) : RetFirst s i w (.returned (.tuple #[.int .i64 65533, .int .i64 1, .bool false])) w := by
  unfold RetFirst okAt
  rw [hd]
  exact ⟨rfl, rfl⟩
theorem get_at (s : ByteArray) (i : Nat) (h : i < s.size) : s.get! i = s[i] := by
  show s.data[i]! = s.data[i]
  exact getElem!_pos s.data i h

set_option maxRecDepth 100000 in
set_option maxHeartbeats 8000000 in
theorem first_any (s : ByteArray) (i0 : Nat) (h : i0 < s.size) (hs : s.size ≤ 140737488351232) (w : World) : Calls Tryz.prog 94 #[.string s, .int .i64 (i0 : Int)] w (RetFirst s i0 w) := by
  have hd := Lib.decode_at s i0
  rw [get_at s i0 h] at hd
  have l0 := s[i0].toNat_lt
  have lb : ∀ j, (s.get! j).toNat < 256 := fun j => (s.get! j).toNat_lt
  have l1 := lb (i0 + 1)
  have l2 := lb (i0 + 2)
  have l3 := lb (i0 + 3)
  rcases (by omega : s[i0].toNat < 128 ∨ (128 ≤ s[i0].toNat ∧ (s[i0].toNat < 194 ∨ 244 < s[i0].toNat)) ∨ (194 ≤ s[i0].toNat ∧ s[i0].toNat ≤ 223) ∨ (224 ≤ s[i0].toNat ∧ s[i0].toNat ≤ 239) ∨ (240 ≤ s[i0].toNat ∧ s[i0].toNat ≤ 244)) with hc | hc | hc | hc | hc
  · rw [dec1 hc] at hd
    have HD := Lib.hid hd
    have he : wideE s[i0].toNat = (0, (s[i0].toNat : Int)) := by unfold wideE; rw [if_pos hc]
    have HE := Lib.hid he
    clear hd he l1 l2 l3 lb
    go_enter Tryz.func94, Tryz.ntmps94
    go_wp2_with fail
    refine (wide_any s[i0].toNat (by omega) w).mono ?_
    rintro en w1 ⟨rfl, rfl⟩
    rw [HE.out]
    go_wp2_with fail
    go_loop [8, 9, 10] (fun c i _ => c = .int .i64 (s[i0].toNat : Int) ∧ i = .int .i64 1) (fun _ _ _ => 0)
    case atStart => exact ⟨rfl, rfl⟩
    case round =>
      obtain ⟨rfl, rfl⟩ := hrel
      go_wp2_with fail
      go_ret3
      exact RetFirst.of rfl rfl HD.out (.inr hc)
  · rw [dec_lead hc.1 hc.2 l0] at hd
    have HD := Lib.hid hd
    have he : wideE s[i0].toNat = (-1, 0) := by unfold wideE; rw [if_neg (by omega), if_neg (by omega), if_neg (by omega), if_neg (by omega)]
    have HE := Lib.hid he
    clear hd he l1 l2 l3 lb
    go_enter Tryz.func94, Tryz.ntmps94
    go_wp2_with fail
    refine (wide_any s[i0].toNat (by omega) w).mono ?_
    rintro en w1 ⟨rfl, rfl⟩
    rw [HE.out]
    go_wp2_with fail
    go_ret3
    exact RetFirst.bad HD.out
  · have he : wideE s[i0].toNat = (1, (s[i0].toNat : Int) - 192) := by unfold wideE; rw [if_neg (by omega), if_pos hc]
    have HE := Lib.hid he
    have HD := Lib.hid hd
    clear hd he lb
    by_cases hn : i0 + 1 < s.size
    · have hi1 : (i0 : Int) + 1 < (s.size : Int) := by omega
      have hm1 : i0 + 1 < s.size := by omega
      have hz1 : ((i0 : Int) + 1).toNat = i0 + 1 := by omega
      rw [get_at s (i0 + 1) hm1] at HD l1
      rcases (by omega : s[i0 + 1].toNat < 128 ∨ 191 < s[i0 + 1].toNat ∨ (128 ≤ s[i0 + 1].toNat ∧ s[i0 + 1].toNat ≤ 191)) with g1 | g1 | g1
      · have b1_1 : (s[i0 + 1].toNat : Int) < 128 := by omega
        have HD2 : Hid (Utf8.decode s i0 = (65533, 1)) := by show _ = _; rw [HD.out, dec2_bad hc.1 hc.2 (.inr (.inl g1)) l1]
        clear HD
        go_enter Tryz.func94, Tryz.ntmps94
        go_wp2_with fail
        refine (wide_any s[i0].toNat (by omega) w).mono ?_
        rintro en w1 ⟨rfl, rfl⟩
        rw [HE.out]
        go_wp2_with fail
        go_loop [8, 9, 10] (fun c i _ => (c = .int .i64 ((s[i0].toNat : Int) - 192) ∧ i = .int .i64 1)) (fun _ i _ => 5 - (intOf i).toNat)
        case atStart => exact ⟨rfl, rfl⟩
        case round =>
          rcases hrel with ⟨rfl, rfl⟩
          · go_wp2_with fail
            go_ret3
            exact RetFirst.bad HD2.out
      · have b1_1 : ¬ (s[i0 + 1].toNat : Int) < 128 := by omega
        have b2_1 : 191 < (s[i0 + 1].toNat : Int) := by omega
        have HD2 : Hid (Utf8.decode s i0 = (65533, 1)) := by show _ = _; rw [HD.out, dec2_bad hc.1 hc.2 (.inr (.inr (g1))) l1]
        clear HD
        go_enter Tryz.func94, Tryz.ntmps94
        go_wp2_with fail
        refine (wide_any s[i0].toNat (by omega) w).mono ?_
        rintro en w1 ⟨rfl, rfl⟩
        rw [HE.out]
        go_wp2_with fail
        go_loop [8, 9, 10] (fun c i _ => (c = .int .i64 ((s[i0].toNat : Int) - 192) ∧ i = .int .i64 1)) (fun _ i _ => 5 - (intOf i).toNat)
        case atStart => exact ⟨rfl, rfl⟩
        case round =>
          rcases hrel with ⟨rfl, rfl⟩
          · go_wp2_with fail
            go_ret3
            exact RetFirst.bad HD2.out
      · have b1_1 : ¬ (s[i0 + 1].toNat : Int) < 128 := by omega
        have b2_1 : ¬ 191 < (s[i0 + 1].toNat : Int) := by omega
        have HD2 : Hid (Utf8.decode s i0 = (((s[i0].toNat - 192) * 64 + (s[i0 + 1].toNat - 128)), 2)) := by
          show _ = _; rw [HD.out, dec2_ok hc.1 hc.2 (by omega) g1.1 g1.2]
        clear HD
        go_enter Tryz.func94, Tryz.ntmps94
        go_wp2_with fail
        refine (wide_any s[i0].toNat (by omega) w).mono ?_
        rintro en w1 ⟨rfl, rfl⟩
        rw [HE.out]
        go_wp2_with fail
        go_loop [8, 9, 10] (fun c i _ => (c = .int .i64 ((s[i0].toNat : Int) - 192) ∧ i = .int .i64 1) ∨ (c = .int .i64 (((s[i0].toNat : Int) - 192) * 64 + (s[i0 + 1].toNat : Int) - 128) ∧ i = .int .i64 2)) (fun _ i _ => 5 - (intOf i).toNat)
        case atStart => exact .inl ⟨rfl, rfl⟩
        case round =>
          rcases hrel with ⟨rfl, rfl⟩ | ⟨rfl, rfl⟩
          · go_wp2_with fail
            go_round
            case rel => exact .inr (⟨by go_num, rfl⟩)
            case measure => simp [intOf]
          · go_wp2_with fail
            go_ret3
            exact RetFirst.of (by omega) rfl HD2.out (.inl (by decide))
    · have hi1 : (s.size : Int) ≤ (i0 : Int) + 1 := by omega
      have HD2 : Hid (Utf8.decode s i0 = (65533, 1)) := by show _ = _; rw [HD.out, dec2_bad hc.1 hc.2 (.inl (by omega)) l1]
      clear HD
      go_enter Tryz.func94, Tryz.ntmps94
      go_wp2_with fail
      refine (wide_any s[i0].toNat (by omega) w).mono ?_
      rintro en w1 ⟨rfl, rfl⟩
      rw [HE.out]
      go_wp2_with fail
      go_ret3
      exact RetFirst.bad HD2.out
  · have he : wideE s[i0].toNat = (2, (s[i0].toNat : Int) - 224) := by unfold wideE; rw [if_neg (by omega), if_neg (by omega), if_pos hc]
    have HE := Lib.hid he
    have HD := Lib.hid hd
    clear hd he lb
    by_cases hn : i0 + 2 < s.size
    · have hi2 : (i0 : Int) + 2 < (s.size : Int) := by omega
      have hi1 : (i0 : Int) + 1 < (s.size : Int) := by omega
      have hm1 : i0 + 1 < s.size := by omega
      have hz1 : ((i0 : Int) + 1).toNat = i0 + 1 := by omega
      rw [get_at s (i0 + 1) hm1] at HD l1
      have hm2 : i0 + 2 < s.size := by omega
      have hz2 : ((i0 : Int) + 2).toNat = i0 + 2 := by omega
      rw [get_at s (i0 + 2) hm2] at HD l2
      rcases (by omega : s[i0 + 1].toNat < 128 ∨ 191 < s[i0 + 1].toNat ∨ (128 ≤ s[i0 + 1].toNat ∧ s[i0 + 1].toNat ≤ 191)) with g1 | g1 | g1
      · have b1_1 : (s[i0 + 1].toNat : Int) < 128 := by omega
        have HD2 : Hid (Utf8.decode s i0 = (65533, 1)) := by show _ = _; rw [HD.out, dec3_bad hc.1 hc.2 (.inr (.inl g1)) l1 l2]
        clear HD
        go_enter Tryz.func94, Tryz.ntmps94
        go_wp2_with fail
        refine (wide_any s[i0].toNat (by omega) w).mono ?_
        rintro en w1 ⟨rfl, rfl⟩
        rw [HE.out]
        go_wp2_with fail
        go_loop [8, 9, 10] (fun c i _ => (c = .int .i64 ((s[i0].toNat : Int) - 224) ∧ i = .int .i64 1)) (fun _ i _ => 5 - (intOf i).toNat)
        case atStart => exact ⟨rfl, rfl⟩
        case round =>
          rcases hrel with ⟨rfl, rfl⟩
          · go_wp2_with fail
            go_ret3
            exact RetFirst.bad HD2.out
      · have b1_1 : ¬ (s[i0 + 1].toNat : Int) < 128 := by omega
        have b2_1 : 191 < (s[i0 + 1].toNat : Int) := by omega
        have HD2 : Hid (Utf8.decode s i0 = (65533, 1)) := by show _ = _; rw [HD.out, dec3_bad hc.1 hc.2 (.inr (.inr (.inl g1))) l1 l2]
        clear HD
        go_enter Tryz.func94, Tryz.ntmps94
        go_wp2_with fail
        refine (wide_any s[i0].toNat (by omega) w).mono ?_
        rintro en w1 ⟨rfl, rfl⟩
        rw [HE.out]
        go_wp2_with fail
        go_loop [8, 9, 10] (fun c i _ => (c = .int .i64 ((s[i0].toNat : Int) - 224) ∧ i = .int .i64 1)) (fun _ i _ => 5 - (intOf i).toNat)
        case atStart => exact ⟨rfl, rfl⟩
        case round =>
          rcases hrel with ⟨rfl, rfl⟩
          · go_wp2_with fail
            go_ret3
            exact RetFirst.bad HD2.out
      · have b1_1 : ¬ (s[i0 + 1].toNat : Int) < 128 := by omega
        have b2_1 : ¬ 191 < (s[i0 + 1].toNat : Int) := by omega
        rcases (by omega : s[i0 + 2].toNat < 128 ∨ 191 < s[i0 + 2].toNat ∨ (128 ≤ s[i0 + 2].toNat ∧ s[i0 + 2].toNat ≤ 191)) with g2 | g2 | g2
        · have b1_2 : (s[i0 + 2].toNat : Int) < 128 := by omega
          have HD2 : Hid (Utf8.decode s i0 = (65533, 1)) := by show _ = _; rw [HD.out, dec3_bad hc.1 hc.2 (.inr (.inr (.inr (.inl g2)))) l1 l2]
          clear HD
          go_enter Tryz.func94, Tryz.ntmps94
          go_wp2_with fail
          refine (wide_any s[i0].toNat (by omega) w).mono ?_
          rintro en w1 ⟨rfl, rfl⟩
          rw [HE.out]
          go_wp2_with fail
          go_loop [8, 9, 10] (fun c i _ => (c = .int .i64 ((s[i0].toNat : Int) - 224) ∧ i = .int .i64 1) ∨ (c = .int .i64 (((s[i0].toNat : Int) - 224) * 64 + (s[i0 + 1].toNat : Int) - 128) ∧ i = .int .i64 2)) (fun _ i _ => 5 - (intOf i).toNat)
          case atStart => exact .inl ⟨rfl, rfl⟩
          case round =>
            rcases hrel with ⟨rfl, rfl⟩ | ⟨rfl, rfl⟩
            · go_wp2_with fail
              go_round
              case rel => exact .inr (⟨by go_num, rfl⟩)
              case measure => simp [intOf]
            · go_wp2_with fail
              go_ret3
              exact RetFirst.bad HD2.out
        · have b1_2 : ¬ (s[i0 + 2].toNat : Int) < 128 := by omega
          have b2_2 : 191 < (s[i0 + 2].toNat : Int) := by omega
          have HD2 : Hid (Utf8.decode s i0 = (65533, 1)) := by show _ = _; rw [HD.out, dec3_bad hc.1 hc.2 (.inr (.inr (.inr (.inr (g2))))) l1 l2]
          clear HD
          go_enter Tryz.func94, Tryz.ntmps94
          go_wp2_with fail
          refine (wide_any s[i0].toNat (by omega) w).mono ?_
          rintro en w1 ⟨rfl, rfl⟩
          rw [HE.out]
          go_wp2_with fail
          go_loop [8, 9, 10] (fun c i _ => (c = .int .i64 ((s[i0].toNat : Int) - 224) ∧ i = .int .i64 1) ∨ (c = .int .i64 (((s[i0].toNat : Int) - 224) * 64 + (s[i0 + 1].toNat : Int) - 128) ∧ i = .int .i64 2)) (fun _ i _ => 5 - (intOf i).toNat)
          case atStart => exact .inl ⟨rfl, rfl⟩
          case round =>
            rcases hrel with ⟨rfl, rfl⟩ | ⟨rfl, rfl⟩
            · go_wp2_with fail
              go_round
              case rel => exact .inr (⟨by go_num, rfl⟩)
              case measure => simp [intOf]
            · go_wp2_with fail
              go_ret3
              exact RetFirst.bad HD2.out
        · have b1_2 : ¬ (s[i0 + 2].toNat : Int) < 128 := by omega
          have b2_2 : ¬ 191 < (s[i0 + 2].toNat : Int) := by omega
          obtain ⟨cc, hcc⟩ : ∃ cc, cc = (((s[i0].toNat - 224) * 64 + (s[i0 + 1].toNat - 128)) * 64 + (s[i0 + 2].toNat - 128)) := ⟨_, rfl⟩
          have hcz : (((s[i0].toNat : Int) - 224) * 64 + (s[i0 + 1].toNat : Int) - 128) * 64 + (s[i0 + 2].toNat : Int) - 128 = (cc : Int) := by omega
          rcases (by omega : cc < 2048 ∨ (2048 ≤ cc ∧ cc < 55296) ∨ (55296 ≤ cc ∧ cc ≤ 57343) ∨ 57343 < cc) with hr | hr | hr | hr
          · have hf0 : (((s[i0].toNat : Int) - 224) * 64 + (s[i0 + 1].toNat : Int) - 128) * 64 + (s[i0 + 2].toNat : Int) - 128 < 2048 := by omega
            have HD2 : Hid (Utf8.decode s i0 = (65533, 1)) := by show _ = _; rw [HD.out, dec3_out hc.1 hc.2 (by omega) g1.1 g1.2 g2.1 g2.2 hcc (.inl hr)]
            clear HD hcz hcc
            go_enter Tryz.func94, Tryz.ntmps94
            go_wp2_with fail
            refine (wide_any s[i0].toNat (by omega) w).mono ?_
            rintro en w1 ⟨rfl, rfl⟩
            rw [HE.out]
            go_wp2_with fail
            go_loop [8, 9, 10] (fun c i _ => (c = .int .i64 ((s[i0].toNat : Int) - 224) ∧ i = .int .i64 1) ∨ (c = .int .i64 (((s[i0].toNat : Int) - 224) * 64 + (s[i0 + 1].toNat : Int) - 128) ∧ i = .int .i64 2) ∨ (c = .int .i64 ((((s[i0].toNat : Int) - 224) * 64 + (s[i0 + 1].toNat : Int) - 128) * 64 + (s[i0 + 2].toNat : Int) - 128) ∧ i = .int .i64 3)) (fun _ i _ => 5 - (intOf i).toNat)
            case atStart => exact .inl ⟨rfl, rfl⟩
            case round =>
              rcases hrel with ⟨rfl, rfl⟩ | ⟨rfl, rfl⟩ | ⟨rfl, rfl⟩
              · go_wp2_with fail
                go_round
                case rel => exact .inr (.inl ⟨by go_num, rfl⟩)
                case measure => simp [intOf]
              · go_wp2_with fail
                go_round
                case rel => exact .inr (.inr (⟨by go_num, rfl⟩))
                case measure => simp [intOf]
              · go_wp2_with fail
                go_ret3
                exact RetFirst.bad HD2.out
          · have hf0 : ¬ (((s[i0].toNat : Int) - 224) * 64 + (s[i0 + 1].toNat : Int) - 128) * 64 + (s[i0 + 2].toNat : Int) - 128 < 2048 := by omega
            have hf1 : ¬ 55296 ≤ (((s[i0].toNat : Int) - 224) * 64 + (s[i0 + 1].toNat : Int) - 128) * 64 + (s[i0 + 2].toNat : Int) - 128 := by omega
            have HD2 : Hid (Utf8.decode s i0 = (cc, 3)) := by show _ = _; rw [HD.out, dec3_ok hc.1 hc.2 (by omega) g1.1 g1.2 g2.1 g2.2 hcc hr.1 (.inl hr.2)]
            have HZ := Lib.hid hcz
            clear HD hcz hcc
            go_enter Tryz.func94, Tryz.ntmps94
            go_wp2_with fail
            refine (wide_any s[i0].toNat (by omega) w).mono ?_
            rintro en w1 ⟨rfl, rfl⟩
            rw [HE.out]
            go_wp2_with fail
            go_loop [8, 9, 10] (fun c i _ => (c = .int .i64 ((s[i0].toNat : Int) - 224) ∧ i = .int .i64 1) ∨ (c = .int .i64 (((s[i0].toNat : Int) - 224) * 64 + (s[i0 + 1].toNat : Int) - 128) ∧ i = .int .i64 2) ∨ (c = .int .i64 ((((s[i0].toNat : Int) - 224) * 64 + (s[i0 + 1].toNat : Int) - 128) * 64 + (s[i0 + 2].toNat : Int) - 128) ∧ i = .int .i64 3)) (fun _ i _ => 5 - (intOf i).toNat)
            case atStart => exact .inl ⟨rfl, rfl⟩
            case round =>
              rcases hrel with ⟨rfl, rfl⟩ | ⟨rfl, rfl⟩ | ⟨rfl, rfl⟩
              · go_wp2_with fail
                go_round
                case rel => exact .inr (.inl ⟨by go_num, rfl⟩)
                case measure => simp [intOf]
              · go_wp2_with fail
                go_round
                case rel => exact .inr (.inr (⟨by go_num, rfl⟩))
                case measure => simp [intOf]
              · go_wp2_with fail
                go_ret3
                exact RetFirst.of HZ.out rfl HD2.out (.inl (by decide))
          · have hf0 : ¬ (((s[i0].toNat : Int) - 224) * 64 + (s[i0 + 1].toNat : Int) - 128) * 64 + (s[i0 + 2].toNat : Int) - 128 < 2048 := by omega
            have hf1 : 55296 ≤ (((s[i0].toNat : Int) - 224) * 64 + (s[i0 + 1].toNat : Int) - 128) * 64 + (s[i0 + 2].toNat : Int) - 128 := by omega
            have hf2 : (((s[i0].toNat : Int) - 224) * 64 + (s[i0 + 1].toNat : Int) - 128) * 64 + (s[i0 + 2].toNat : Int) - 128 ≤ 57343 := by omega
            have HD2 : Hid (Utf8.decode s i0 = (65533, 1)) := by show _ = _; rw [HD.out, dec3_out hc.1 hc.2 (by omega) g1.1 g1.2 g2.1 g2.2 hcc (.inr hr)]
            clear HD hcz hcc
            go_enter Tryz.func94, Tryz.ntmps94
            go_wp2_with fail
            refine (wide_any s[i0].toNat (by omega) w).mono ?_
            rintro en w1 ⟨rfl, rfl⟩
            rw [HE.out]
            go_wp2_with fail
            go_loop [8, 9, 10] (fun c i _ => (c = .int .i64 ((s[i0].toNat : Int) - 224) ∧ i = .int .i64 1) ∨ (c = .int .i64 (((s[i0].toNat : Int) - 224) * 64 + (s[i0 + 1].toNat : Int) - 128) ∧ i = .int .i64 2) ∨ (c = .int .i64 ((((s[i0].toNat : Int) - 224) * 64 + (s[i0 + 1].toNat : Int) - 128) * 64 + (s[i0 + 2].toNat : Int) - 128) ∧ i = .int .i64 3)) (fun _ i _ => 5 - (intOf i).toNat)
            case atStart => exact .inl ⟨rfl, rfl⟩
            case round =>
              rcases hrel with ⟨rfl, rfl⟩ | ⟨rfl, rfl⟩ | ⟨rfl, rfl⟩
              · go_wp2_with fail
                go_round
                case rel => exact .inr (.inl ⟨by go_num, rfl⟩)
                case measure => simp [intOf]
              · go_wp2_with fail
                go_round
                case rel => exact .inr (.inr (⟨by go_num, rfl⟩))
                case measure => simp [intOf]
              · go_wp2_with fail
                go_ret3
                exact RetFirst.bad HD2.out
          · have hf0 : ¬ (((s[i0].toNat : Int) - 224) * 64 + (s[i0 + 1].toNat : Int) - 128) * 64 + (s[i0 + 2].toNat : Int) - 128 < 2048 := by omega
            have hf1 : 55296 ≤ (((s[i0].toNat : Int) - 224) * 64 + (s[i0 + 1].toNat : Int) - 128) * 64 + (s[i0 + 2].toNat : Int) - 128 := by omega
            have hf2 : ¬ (((s[i0].toNat : Int) - 224) * 64 + (s[i0 + 1].toNat : Int) - 128) * 64 + (s[i0 + 2].toNat : Int) - 128 ≤ 57343 := by omega
            have HD2 : Hid (Utf8.decode s i0 = (cc, 3)) := by show _ = _; rw [HD.out, dec3_ok hc.1 hc.2 (by omega) g1.1 g1.2 g2.1 g2.2 hcc (by omega) (.inr hr)]
            have HZ := Lib.hid hcz
            clear HD hcz hcc
            go_enter Tryz.func94, Tryz.ntmps94
            go_wp2_with fail
            refine (wide_any s[i0].toNat (by omega) w).mono ?_
            rintro en w1 ⟨rfl, rfl⟩
            rw [HE.out]
            go_wp2_with fail
            go_loop [8, 9, 10] (fun c i _ => (c = .int .i64 ((s[i0].toNat : Int) - 224) ∧ i = .int .i64 1) ∨ (c = .int .i64 (((s[i0].toNat : Int) - 224) * 64 + (s[i0 + 1].toNat : Int) - 128) ∧ i = .int .i64 2) ∨ (c = .int .i64 ((((s[i0].toNat : Int) - 224) * 64 + (s[i0 + 1].toNat : Int) - 128) * 64 + (s[i0 + 2].toNat : Int) - 128) ∧ i = .int .i64 3)) (fun _ i _ => 5 - (intOf i).toNat)
            case atStart => exact .inl ⟨rfl, rfl⟩
            case round =>
              rcases hrel with ⟨rfl, rfl⟩ | ⟨rfl, rfl⟩ | ⟨rfl, rfl⟩
              · go_wp2_with fail
                go_round
                case rel => exact .inr (.inl ⟨by go_num, rfl⟩)
                case measure => simp [intOf]
              · go_wp2_with fail
                go_round
                case rel => exact .inr (.inr (⟨by go_num, rfl⟩))
                case measure => simp [intOf]
              · go_wp2_with fail
                go_ret3
                exact RetFirst.of HZ.out rfl HD2.out (.inl (by decide))
    · have hi2 : (s.size : Int) ≤ (i0 : Int) + 2 := by omega
      have HD2 : Hid (Utf8.decode s i0 = (65533, 1)) := by show _ = _; rw [HD.out, dec3_bad hc.1 hc.2 (.inl (by omega)) l1 l2]
      clear HD
      go_enter Tryz.func94, Tryz.ntmps94
      go_wp2_with fail
      refine (wide_any s[i0].toNat (by omega) w).mono ?_
      rintro en w1 ⟨rfl, rfl⟩
      rw [HE.out]
      go_wp2_with fail
      go_ret3
      exact RetFirst.bad HD2.out
  · have he : wideE s[i0].toNat = (3, (s[i0].toNat : Int) - 240) := by unfold wideE; rw [if_neg (by omega), if_neg (by omega), if_neg (by omega), if_pos hc]
    have HE := Lib.hid he
    have HD := Lib.hid hd
    clear hd he lb
    by_cases hn : i0 + 3 < s.size
    · have hi3 : (i0 : Int) + 3 < (s.size : Int) := by omega
      have hi1 : (i0 : Int) + 1 < (s.size : Int) := by omega
      have hm1 : i0 + 1 < s.size := by omega
      have hz1 : ((i0 : Int) + 1).toNat = i0 + 1 := by omega
      rw [get_at s (i0 + 1) hm1] at HD l1
      have hi2 : (i0 : Int) + 2 < (s.size : Int) := by omega
      have hm2 : i0 + 2 < s.size := by omega
      have hz2 : ((i0 : Int) + 2).toNat = i0 + 2 := by omega
      rw [get_at s (i0 + 2) hm2] at HD l2
      have hm3 : i0 + 3 < s.size := by omega
      have hz3 : ((i0 : Int) + 3).toNat = i0 + 3 := by omega
      rw [get_at s (i0 + 3) hm3] at HD l3
      rcases (by omega : s[i0 + 1].toNat < 128 ∨ 191 < s[i0 + 1].toNat ∨ (128 ≤ s[i0 + 1].toNat ∧ s[i0 + 1].toNat ≤ 191)) with g1 | g1 | g1
      · have b1_1 : (s[i0 + 1].toNat : Int) < 128 := by omega
        have HD2 : Hid (Utf8.decode s i0 = (65533, 1)) := by show _ = _; rw [HD.out, dec4_bad hc.1 hc.2 (.inr (.inl g1)) l1 l2 l3]
        clear HD
        go_enter Tryz.func94, Tryz.ntmps94
        go_wp2_with fail
        refine (wide_any s[i0].toNat (by omega) w).mono ?_
        rintro en w1 ⟨rfl, rfl⟩
        rw [HE.out]
        go_wp2_with fail
        go_loop [8, 9, 10] (fun c i _ => (c = .int .i64 ((s[i0].toNat : Int) - 240) ∧ i = .int .i64 1)) (fun _ i _ => 5 - (intOf i).toNat)
        case atStart => exact ⟨rfl, rfl⟩
        case round =>
          rcases hrel with ⟨rfl, rfl⟩
          · go_wp2_with fail
            go_ret3
            exact RetFirst.bad HD2.out
      · have b1_1 : ¬ (s[i0 + 1].toNat : Int) < 128 := by omega
        have b2_1 : 191 < (s[i0 + 1].toNat : Int) := by omega
        have HD2 : Hid (Utf8.decode s i0 = (65533, 1)) := by show _ = _; rw [HD.out, dec4_bad hc.1 hc.2 (.inr (.inr (.inl g1))) l1 l2 l3]
        clear HD
        go_enter Tryz.func94, Tryz.ntmps94
        go_wp2_with fail
        refine (wide_any s[i0].toNat (by omega) w).mono ?_
        rintro en w1 ⟨rfl, rfl⟩
        rw [HE.out]
        go_wp2_with fail
        go_loop [8, 9, 10] (fun c i _ => (c = .int .i64 ((s[i0].toNat : Int) - 240) ∧ i = .int .i64 1)) (fun _ i _ => 5 - (intOf i).toNat)
        case atStart => exact ⟨rfl, rfl⟩
        case round =>
          rcases hrel with ⟨rfl, rfl⟩
          · go_wp2_with fail
            go_ret3
            exact RetFirst.bad HD2.out
      · have b1_1 : ¬ (s[i0 + 1].toNat : Int) < 128 := by omega
        have b2_1 : ¬ 191 < (s[i0 + 1].toNat : Int) := by omega
        rcases (by omega : s[i0 + 2].toNat < 128 ∨ 191 < s[i0 + 2].toNat ∨ (128 ≤ s[i0 + 2].toNat ∧ s[i0 + 2].toNat ≤ 191)) with g2 | g2 | g2
        · have b1_2 : (s[i0 + 2].toNat : Int) < 128 := by omega
          have HD2 : Hid (Utf8.decode s i0 = (65533, 1)) := by show _ = _; rw [HD.out, dec4_bad hc.1 hc.2 (.inr (.inr (.inr (.inl g2)))) l1 l2 l3]
          clear HD
          go_enter Tryz.func94, Tryz.ntmps94
          go_wp2_with fail
          refine (wide_any s[i0].toNat (by omega) w).mono ?_
          rintro en w1 ⟨rfl, rfl⟩
          rw [HE.out]
          go_wp2_with fail
          go_loop [8, 9, 10] (fun c i _ => (c = .int .i64 ((s[i0].toNat : Int) - 240) ∧ i = .int .i64 1) ∨ (c = .int .i64 (((s[i0].toNat : Int) - 240) * 64 + (s[i0 + 1].toNat : Int) - 128) ∧ i = .int .i64 2)) (fun _ i _ => 5 - (intOf i).toNat)
          case atStart => exact .inl ⟨rfl, rfl⟩
          case round =>
            rcases hrel with ⟨rfl, rfl⟩ | ⟨rfl, rfl⟩
            · go_wp2_with fail
              go_round
              case rel => exact .inr (⟨by go_num, rfl⟩)
              case measure => simp [intOf]
            · go_wp2_with fail
              go_ret3
              exact RetFirst.bad HD2.out
        · have b1_2 : ¬ (s[i0 + 2].toNat : Int) < 128 := by omega
          have b2_2 : 191 < (s[i0 + 2].toNat : Int) := by omega
          have HD2 : Hid (Utf8.decode s i0 = (65533, 1)) := by show _ = _; rw [HD.out, dec4_bad hc.1 hc.2 (.inr (.inr (.inr (.inr (.inl g2))))) l1 l2 l3]
          clear HD
          go_enter Tryz.func94, Tryz.ntmps94
          go_wp2_with fail
          refine (wide_any s[i0].toNat (by omega) w).mono ?_
          rintro en w1 ⟨rfl, rfl⟩
          rw [HE.out]
          go_wp2_with fail
          go_loop [8, 9, 10] (fun c i _ => (c = .int .i64 ((s[i0].toNat : Int) - 240) ∧ i = .int .i64 1) ∨ (c = .int .i64 (((s[i0].toNat : Int) - 240) * 64 + (s[i0 + 1].toNat : Int) - 128) ∧ i = .int .i64 2)) (fun _ i _ => 5 - (intOf i).toNat)
          case atStart => exact .inl ⟨rfl, rfl⟩
          case round =>
            rcases hrel with ⟨rfl, rfl⟩ | ⟨rfl, rfl⟩
            · go_wp2_with fail
              go_round
              case rel => exact .inr (⟨by go_num, rfl⟩)
              case measure => simp [intOf]
            · go_wp2_with fail
              go_ret3
              exact RetFirst.bad HD2.out
        · have b1_2 : ¬ (s[i0 + 2].toNat : Int) < 128 := by omega
          have b2_2 : ¬ 191 < (s[i0 + 2].toNat : Int) := by omega
          rcases (by omega : s[i0 + 3].toNat < 128 ∨ 191 < s[i0 + 3].toNat ∨ (128 ≤ s[i0 + 3].toNat ∧ s[i0 + 3].toNat ≤ 191)) with g3 | g3 | g3
          · have b1_3 : (s[i0 + 3].toNat : Int) < 128 := by omega
            have HD2 : Hid (Utf8.decode s i0 = (65533, 1)) := by show _ = _; rw [HD.out, dec4_bad hc.1 hc.2 (.inr (.inr (.inr (.inr (.inr (.inl g3)))))) l1 l2 l3]
            clear HD
            go_enter Tryz.func94, Tryz.ntmps94
            go_wp2_with fail
            refine (wide_any s[i0].toNat (by omega) w).mono ?_
            rintro en w1 ⟨rfl, rfl⟩
            rw [HE.out]
            go_wp2_with fail
            go_loop [8, 9, 10] (fun c i _ => (c = .int .i64 ((s[i0].toNat : Int) - 240) ∧ i = .int .i64 1) ∨ (c = .int .i64 (((s[i0].toNat : Int) - 240) * 64 + (s[i0 + 1].toNat : Int) - 128) ∧ i = .int .i64 2) ∨ (c = .int .i64 ((((s[i0].toNat : Int) - 240) * 64 + (s[i0 + 1].toNat : Int) - 128) * 64 + (s[i0 + 2].toNat : Int) - 128) ∧ i = .int .i64 3)) (fun _ i _ => 5 - (intOf i).toNat)
            case atStart => exact .inl ⟨rfl, rfl⟩
            case round =>
              rcases hrel with ⟨rfl, rfl⟩ | ⟨rfl, rfl⟩ | ⟨rfl, rfl⟩
              · go_wp2_with fail
                go_round
                case rel => exact .inr (.inl ⟨by go_num, rfl⟩)
                case measure => simp [intOf]
              · go_wp2_with fail
                go_round
                case rel => exact .inr (.inr (⟨by go_num, rfl⟩))
                case measure => simp [intOf]
              · go_wp2_with fail
                go_ret3
                exact RetFirst.bad HD2.out
          · have b1_3 : ¬ (s[i0 + 3].toNat : Int) < 128 := by omega
            have b2_3 : 191 < (s[i0 + 3].toNat : Int) := by omega
            have HD2 : Hid (Utf8.decode s i0 = (65533, 1)) := by show _ = _; rw [HD.out, dec4_bad hc.1 hc.2 (.inr (.inr (.inr (.inr (.inr (.inr (g3))))))) l1 l2 l3]
            clear HD
            go_enter Tryz.func94, Tryz.ntmps94
            go_wp2_with fail
            refine (wide_any s[i0].toNat (by omega) w).mono ?_
            rintro en w1 ⟨rfl, rfl⟩
            rw [HE.out]
            go_wp2_with fail
            go_loop [8, 9, 10] (fun c i _ => (c = .int .i64 ((s[i0].toNat : Int) - 240) ∧ i = .int .i64 1) ∨ (c = .int .i64 (((s[i0].toNat : Int) - 240) * 64 + (s[i0 + 1].toNat : Int) - 128) ∧ i = .int .i64 2) ∨ (c = .int .i64 ((((s[i0].toNat : Int) - 240) * 64 + (s[i0 + 1].toNat : Int) - 128) * 64 + (s[i0 + 2].toNat : Int) - 128) ∧ i = .int .i64 3)) (fun _ i _ => 5 - (intOf i).toNat)
            case atStart => exact .inl ⟨rfl, rfl⟩
            case round =>
              rcases hrel with ⟨rfl, rfl⟩ | ⟨rfl, rfl⟩ | ⟨rfl, rfl⟩
              · go_wp2_with fail
                go_round
                case rel => exact .inr (.inl ⟨by go_num, rfl⟩)
                case measure => simp [intOf]
              · go_wp2_with fail
                go_round
                case rel => exact .inr (.inr (⟨by go_num, rfl⟩))
                case measure => simp [intOf]
              · go_wp2_with fail
                go_ret3
                exact RetFirst.bad HD2.out
          · have b1_3 : ¬ (s[i0 + 3].toNat : Int) < 128 := by omega
            have b2_3 : ¬ 191 < (s[i0 + 3].toNat : Int) := by omega
            obtain ⟨cc, hcc⟩ : ∃ cc, cc = ((((s[i0].toNat - 240) * 64 + (s[i0 + 1].toNat - 128)) * 64 + (s[i0 + 2].toNat - 128)) * 64 + (s[i0 + 3].toNat - 128)) := ⟨_, rfl⟩
            have hcz : ((((s[i0].toNat : Int) - 240) * 64 + (s[i0 + 1].toNat : Int) - 128) * 64 + (s[i0 + 2].toNat : Int) - 128) * 64 + (s[i0 + 3].toNat : Int) - 128 = (cc : Int) := by omega
            rcases (by omega : cc < 65536 ∨ (65536 ≤ cc ∧ cc ≤ 1114111) ∨ 1114111 < cc) with hr | hr | hr
            · have hf0 : ((((s[i0].toNat : Int) - 240) * 64 + (s[i0 + 1].toNat : Int) - 128) * 64 + (s[i0 + 2].toNat : Int) - 128) * 64 + (s[i0 + 3].toNat : Int) - 128 < 65536 := by omega
              have HD2 : Hid (Utf8.decode s i0 = (65533, 1)) := by show _ = _; rw [HD.out, dec4_out hc.1 hc.2 (by omega) g1.1 g1.2 g2.1 g2.2 g3.1 g3.2 hcc (.inl hr)]
              clear HD hcz hcc
              go_enter Tryz.func94, Tryz.ntmps94
              go_wp2_with fail
              refine (wide_any s[i0].toNat (by omega) w).mono ?_
              rintro en w1 ⟨rfl, rfl⟩
              rw [HE.out]
              go_wp2_with fail
              go_loop [8, 9, 10] (fun c i _ => (c = .int .i64 ((s[i0].toNat : Int) - 240) ∧ i = .int .i64 1) ∨ (c = .int .i64 (((s[i0].toNat : Int) - 240) * 64 + (s[i0 + 1].toNat : Int) - 128) ∧ i = .int .i64 2) ∨ (c = .int .i64 ((((s[i0].toNat : Int) - 240) * 64 + (s[i0 + 1].toNat : Int) - 128) * 64 + (s[i0 + 2].toNat : Int) - 128) ∧ i = .int .i64 3) ∨ (c = .int .i64 (((((s[i0].toNat : Int) - 240) * 64 + (s[i0 + 1].toNat : Int) - 128) * 64 + (s[i0 + 2].toNat : Int) - 128) * 64 + (s[i0 + 3].toNat : Int) - 128) ∧ i = .int .i64 4)) (fun _ i _ => 5 - (intOf i).toNat)
              case atStart => exact .inl ⟨rfl, rfl⟩
              case round =>
                rcases hrel with ⟨rfl, rfl⟩ | ⟨rfl, rfl⟩ | ⟨rfl, rfl⟩ | ⟨rfl, rfl⟩
                · go_wp2_with fail
                  go_round
                  case rel => exact .inr (.inl ⟨by go_num, rfl⟩)
                  case measure => simp [intOf]
                · go_wp2_with fail
                  go_round
                  case rel => exact .inr (.inr (.inl ⟨by go_num, rfl⟩))
                  case measure => simp [intOf]
                · go_wp2_with fail
                  go_round
                  case rel => exact .inr (.inr (.inr (⟨by go_num, rfl⟩)))
                  case measure => simp [intOf]
                · go_wp2_with fail
                  go_ret3
                  exact RetFirst.bad HD2.out
            · have hf0 : ¬ ((((s[i0].toNat : Int) - 240) * 64 + (s[i0 + 1].toNat : Int) - 128) * 64 + (s[i0 + 2].toNat : Int) - 128) * 64 + (s[i0 + 3].toNat : Int) - 128 < 65536 := by omega
              have hf1 : ¬ 1114111 < ((((s[i0].toNat : Int) - 240) * 64 + (s[i0 + 1].toNat : Int) - 128) * 64 + (s[i0 + 2].toNat : Int) - 128) * 64 + (s[i0 + 3].toNat : Int) - 128 := by omega
              have HD2 : Hid (Utf8.decode s i0 = (cc, 4)) := by show _ = _; rw [HD.out, dec4_ok hc.1 hc.2 (by omega) g1.1 g1.2 g2.1 g2.2 g3.1 g3.2 hcc hr.1 hr.2]
              have HZ := Lib.hid hcz
              clear HD hcz hcc
              go_enter Tryz.func94, Tryz.ntmps94
              go_wp2_with fail
              refine (wide_any s[i0].toNat (by omega) w).mono ?_
              rintro en w1 ⟨rfl, rfl⟩
              rw [HE.out]
              go_wp2_with fail
              go_loop [8, 9, 10] (fun c i _ => (c = .int .i64 ((s[i0].toNat : Int) - 240) ∧ i = .int .i64 1) ∨ (c = .int .i64 (((s[i0].toNat : Int) - 240) * 64 + (s[i0 + 1].toNat : Int) - 128) ∧ i = .int .i64 2) ∨ (c = .int .i64 ((((s[i0].toNat : Int) - 240) * 64 + (s[i0 + 1].toNat : Int) - 128) * 64 + (s[i0 + 2].toNat : Int) - 128) ∧ i = .int .i64 3) ∨ (c = .int .i64 (((((s[i0].toNat : Int) - 240) * 64 + (s[i0 + 1].toNat : Int) - 128) * 64 + (s[i0 + 2].toNat : Int) - 128) * 64 + (s[i0 + 3].toNat : Int) - 128) ∧ i = .int .i64 4)) (fun _ i _ => 5 - (intOf i).toNat)
              case atStart => exact .inl ⟨rfl, rfl⟩
              case round =>
                rcases hrel with ⟨rfl, rfl⟩ | ⟨rfl, rfl⟩ | ⟨rfl, rfl⟩ | ⟨rfl, rfl⟩
                · go_wp2_with fail
                  go_round
                  case rel => exact .inr (.inl ⟨by go_num, rfl⟩)
                  case measure => simp [intOf]
                · go_wp2_with fail
                  go_round
                  case rel => exact .inr (.inr (.inl ⟨by go_num, rfl⟩))
                  case measure => simp [intOf]
                · go_wp2_with fail
                  go_round
                  case rel => exact .inr (.inr (.inr (⟨by go_num, rfl⟩)))
                  case measure => simp [intOf]
                · go_wp2_with fail
                  go_ret3
                  exact RetFirst.of HZ.out rfl HD2.out (.inl (by decide))
            · have hf0 : ¬ ((((s[i0].toNat : Int) - 240) * 64 + (s[i0 + 1].toNat : Int) - 128) * 64 + (s[i0 + 2].toNat : Int) - 128) * 64 + (s[i0 + 3].toNat : Int) - 128 < 65536 := by omega
              have hf1 : 1114111 < ((((s[i0].toNat : Int) - 240) * 64 + (s[i0 + 1].toNat : Int) - 128) * 64 + (s[i0 + 2].toNat : Int) - 128) * 64 + (s[i0 + 3].toNat : Int) - 128 := by omega
              have HD2 : Hid (Utf8.decode s i0 = (65533, 1)) := by show _ = _; rw [HD.out, dec4_out hc.1 hc.2 (by omega) g1.1 g1.2 g2.1 g2.2 g3.1 g3.2 hcc (.inr hr)]
              clear HD hcz hcc
              go_enter Tryz.func94, Tryz.ntmps94
              go_wp2_with fail
              refine (wide_any s[i0].toNat (by omega) w).mono ?_
              rintro en w1 ⟨rfl, rfl⟩
              rw [HE.out]
              go_wp2_with fail
              go_loop [8, 9, 10] (fun c i _ => (c = .int .i64 ((s[i0].toNat : Int) - 240) ∧ i = .int .i64 1) ∨ (c = .int .i64 (((s[i0].toNat : Int) - 240) * 64 + (s[i0 + 1].toNat : Int) - 128) ∧ i = .int .i64 2) ∨ (c = .int .i64 ((((s[i0].toNat : Int) - 240) * 64 + (s[i0 + 1].toNat : Int) - 128) * 64 + (s[i0 + 2].toNat : Int) - 128) ∧ i = .int .i64 3) ∨ (c = .int .i64 (((((s[i0].toNat : Int) - 240) * 64 + (s[i0 + 1].toNat : Int) - 128) * 64 + (s[i0 + 2].toNat : Int) - 128) * 64 + (s[i0 + 3].toNat : Int) - 128) ∧ i = .int .i64 4)) (fun _ i _ => 5 - (intOf i).toNat)
              case atStart => exact .inl ⟨rfl, rfl⟩
              case round =>
                rcases hrel with ⟨rfl, rfl⟩ | ⟨rfl, rfl⟩ | ⟨rfl, rfl⟩ | ⟨rfl, rfl⟩
                · go_wp2_with fail
                  go_round
                  case rel => exact .inr (.inl ⟨by go_num, rfl⟩)
                  case measure => simp [intOf]
                · go_wp2_with fail
                  go_round
                  case rel => exact .inr (.inr (.inl ⟨by go_num, rfl⟩))
                  case measure => simp [intOf]
                · go_wp2_with fail
                  go_round
                  case rel => exact .inr (.inr (.inr (⟨by go_num, rfl⟩)))
                  case measure => simp [intOf]
                · go_wp2_with fail
                  go_ret3
                  exact RetFirst.bad HD2.out
    · have hi3 : (s.size : Int) ≤ (i0 : Int) + 3 := by omega
      have HD2 : Hid (Utf8.decode s i0 = (65533, 1)) := by show _ = _; rw [HD.out, dec4_bad hc.1 hc.2 (.inl (by omega)) l1 l2 l3]
      clear HD
      go_enter Tryz.func94, Tryz.ntmps94
      go_wp2_with fail
      refine (wide_any s[i0].toNat (by omega) w).mono ?_
      rintro en w1 ⟨rfl, rfl⟩
      rw [HE.out]
      go_wp2_with fail
      go_ret3
      exact RetFirst.bad HD2.out

end Go.Proofs.YtfededjcadmpbaaGreatDoor
