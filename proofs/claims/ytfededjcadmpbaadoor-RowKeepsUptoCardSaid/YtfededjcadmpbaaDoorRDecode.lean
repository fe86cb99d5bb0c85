/- A row's bytes read back, the reference's: caissonref06.Decode. (Printed by wip/gen_rdec.py.) -/
import Derived.Test.YtfededjcadmpbaaDoorPartA
import Derived.Test.YtfededjcadmpbaaDoorREncA
import Derived.Test.YtfededjcadmpbaaDoorCompare
import Derived.Test.YtfededjcadmpbaaDoorEntA
namespace Go.Proofs.YtfededjcadmpbaaDoor
open Go.RowKit

theorem eq_b2 (A B : Option Addr) (l m : List UInt8) (c d : Nat) (w : World) (hb : Bs w A l) (hb2 : Bs w B m) : Calls Tryd.prog 12 #[.slice A l.length c, .slice B m.length d] w fun e w' => e = .returned (.bool (l == m)) ∧ Below w.heap.size w w' := by
  refine (equal_any A B l m c d w hb hb2).mono ?_
  rintro en w2 ⟨rfl, n, rfl⟩
  exact ⟨rfl, below_drewN (Below.refl _ _) n⟩
/-- cells of the call's own, and an error -/
def RetDecC (r : List LVal × Int) (w : World) (en : Ending) (w' : World) : Prop :=
  ∃ D d, en = .returned (.tuple #[.slice D r.1.length d, .int .i64 r.2]) ∧ Own CelE 42 w' w.heap.size (fun b => w.heap.size ≤ b ∧ b < w'.heap.size) (.slice D r.1.length d) r.1 ∧ Below w.heap.size w w'
theorem partsL_enc1 {x : LVal} (h : x.sm) : partsL (encL [x]) = ([x.part], 0) := partsL_frame (ls := [x.part]) fun l hl => by
  have : l = x.part := by simpa using hl
  rw [this]
  exact Nat.lt_of_le_of_lt (part_len h) (by decide)
theorem wrap_back {n : Nat} (h : n < 18446744073709551616) : IntKind.i64.wrap (IntKind.u64.wrap ((n : Int) + 9223372036854775808)) = (n : Int) - 9223372036854775808 := by
  simp only [IntKind.wrap]
  split <;> split <;> simp_all [IntKind.bits, IntKind.signed] <;> omega
theorem wfv_back {n : Nat} (h : n < 18446744073709551616) : LVal.wfv (.int ((n : Int) - 9223372036854775808)) := by
  have e : ∀ m, (LVal.int m).n = m := fun _ => rfl
  unfold LVal.wfv
  rw [e]
  omega
/-- what is written anew is the part, just if the part is a value -/
theorem part_nil : partV [] = none := rfl
theorem part_big {kb : UInt8} {r : List UInt8} (h : 4 < kb.toNat) : partV (kb :: r) = none := by
  have hne : ∀ j : UInt8, j.toNat ≤ 4 → ¬ kb = j := fun j hj h2 => by rw [h2] at h; omega
  show (if kb = 0 then _ else if kb = 1 then _ else if kb = 2 then _ else if kb = 3 then _ else if kb = 4 then _ else none) = _
  rw [if_neg (hne 0 (by decide)), if_neg (hne 1 (by decide)), if_neg (hne 2 (by decide)), if_neg (hne 3 (by decide)), if_neg (hne 4 (by decide))]
theorem part_again {p : List UInt8} {x : LVal} (he : x.err = 0) (hw : x.wfv) (h : ∀ y, partV p = some y → x.part = p) : partV p = if (x.part == p) = true then some x else none := by
  by_cases h1 : x.part = p
  · rw [if_pos (beq_iff_eq.2 h1), ← h1]
    exact partV_part he hw
  · rw [if_neg (fun h2 => h1 (beq_iff_eq.1 h2))]
    cases hp : partV p with
    | none => rfl
    | some y => exact absurd (h y hp) h1
set_option maxRecDepth 100000 in
set_option maxHeartbeats 40000000 in
theorem rdecode_any (A : Option Addr) (l : List UInt8) (c : Nat) (w : World) (hb : Bs w A l) (hc : l.length ≤ c ∧ c ≤ 9223372036854775807) (hl5 : l.length ≤ 1048576) : Calls Tryd.prog 54 #[.slice A l.length c] w (RetDecC (decL l) w) := by
  obtain ⟨i1, hi1, hy0, hy1, hy2⟩ := info_parts Tryd.infoCell
  obtain ⟨ps1, ps2⟩ := partsA_small (f := l.length) (l := l) (acc := [])
  have T := rparts_any A l c w hb hc (by omega)
  have hps : partsA l.length l [] = partsL l := rfl
  rw [hps] at ps1 ps2
  have HDL : Hid (decL l = if (partsL l).2 ≠ 0 then ([], (partsL l).2) else match mapV (partsL l).1 with | some xs => (xs, 0) | none => ([], 3)) := rfl
  generalize partsL l = r at *
  obtain ⟨ps, e⟩ := r
  have ps1' : ps.length ≤ l.length := by have : ps.length ≤ [].length + l.length := ps1; simpa using this
  have ps2' : ∀ p ∈ ps, p.length ≤ l.length := fun p hp => (ps2 p hp).resolve_left (by simp)
  have HPS := Lib.hid ps2'
  have T2 : Calls Tryd.prog 75 #[.slice A l.length c] w fun en w' => ∃ D d, en = .returned (.tuple #[.slice D ps.length d, .int .i64 e]) ∧ Own BsE 31 w' w.heap.size (fun b => w.heap.size ≤ b ∧ b < w'.heap.size) (.slice D ps.length d) ps ∧ Below w.heap.size w w' := T
  clear T hps ps1 ps2 ps2'
  go_enter Tryd.func54, Tryd.ntmps54
  go_wp2_with fail
  refine T2.mono ?_
  rintro en w1 ⟨P, dp, rfl, oP, b1⟩
  have z1 := b1.size
  have sP : Sl BsE w1 P ps := Own.sl oP (by simp only [BsE]; omega)
  clear T2 oP
  by_cases he : e = 0
  · have d0_ : (e != 0) = false := by rw [he]; rfl
    have HD : Hid (decL l = match mapV ps with | some xs => (xs, 0) | none => ([], 3)) := by show _ = _; rw [HDL.out, if_neg (fun h => h he)]
    clear he HDL
    go_wp2_with fail
    go_loopw [6, 7, 8, 9, 10, 11, 12, 13, 14] (fun o j _ _ _ _ _ _ _ wr => ∃ (k : Nat) (xs : List LVal) (B : Option Addr) (d : Nat), k ≤ ps.length ∧ j = .int .i64 (k : Int) ∧ o = .slice B xs.length d ∧ Own CelE 42 wr w1.heap.size (fun b => w.heap.size ≤ b ∧ b < wr.heap.size) (.slice B xs.length d) xs ∧ mapV (ps.take k) = some xs ∧ Below w1.heap.size w1 wr) (fun _ j _ _ _ _ _ _ _ _ => ps.length - (intOf j).toNat)
    case atStart => exact ⟨0, [], none, 0, Nat.zero_le _, rfl, rfl, Own.nil_ CelE _ _ _ _, rfl, Below.refl _ _⟩
    case round =>
      obtain ⟨k, xs, B, d, hk, rfl, rfl, o, hm, br⟩ := hrel
      have hxk : xs.length ≤ k := by have := mapV_len hm; rw [List.length_take] at this; omega
      have HM := Lib.hid hm
      clear hm
      have zr := br.size
      by_cases hlt : k < ps.length
      · have hlt' : (k : Int) < (ps.length : Int) := by omega
        obtain ⟨pd, D, c0, rfl, ha, hcell, hD, -, hcp⟩ := BsE.at_ (sP.below br) hlt
        have hpl : ps[k].length ≤ 1048576 := Nat.le_trans (HPS.out _ (List.getElem_mem hlt)) hl5
        have HPM := Lib.hid (List.getElem_mem hlt)
        have HTK : Hid (ps.take (k + 1) = ps.take k ++ [ps[k]]) := List.take_succ_eq_append_getElem hlt
        generalize ps[k] = p at *
        cases p with
        | nil =>
          have HN : Hid (decL l = ([], 3)) := by show _ = _; rw [HD.out, mapV_none HPM.out part_nil]
          go_wp2_with fail
          go_ret2
          rw [HN.out]
          exact ⟨none, 0, rfl, Own.nil_ CelE _ _ _ _, b1.trans (br.mono z1)⟩
        | cons kb r =>
          obtain ⟨ad, rfl, hadb, hc0⟩ := hD.at_ (k := 0) (by simp)
          rw [add_zero_] at hc0
          have hc0b : wr.cell? ad = some (.int .u8 (kb.toNat : Int)) := hc0
          clear hc0
          have hz0 : (((kb :: r).length : Int) == 0) = false := by rw [beq_eq_false_iff_ne]; simp only [List.length_cons]; omega
          have hz1 : ((r.length : Int) + 1 == 0) = false := by rw [beq_eq_false_iff_ne]; omega
          by_cases h5 : 4 < kb.toNat
          · have HN : Hid (decL l = ([], 3)) := by show _ = _; rw [HD.out, mapV_none HPM.out (part_big h5)]
            have h5' : (4 : Int) < (kb.toNat : Int) := by omega
            clear h5
            go_wp2_with fail
            go_ret2
            rw [HN.out]
            exact ⟨none, 0, rfl, Own.nil_ CelE _ _ _ _, b1.trans (br.mono z1)⟩
          · have h5' : ¬ (4 : Int) < (kb.toNat : Int) := by omega
            have hk5 : kb.toNat = 0 ∨ kb.toNat = 1 ∨ kb.toNat = 2 ∨ kb.toNat = 3 ∨ kb.toNat = 4 := by omega
            clear h5
            obtain ⟨g0, hg0⟩ : ∃ g, wr.heap.size = g := ⟨_, rfl⟩
            rcases hk5 with hkz | hkz | hkz | hkz | hkz
            · have hkb : kb = 0 := UInt8.toNat_inj.1 (by rw [hkz]; rfl)
              subst hkb
              clear hkz
              have kS := Blk.new wr 42 #[.int .i64 0, .bool false, .int .i64 0, .string ⟨#[]⟩, .slice none 0 0]
              rw [hg0] at kS
              have dW : Below wr.heap.size wr (wr.alloc (.cells #[.int .i64 0, .bool false, .int .i64 0, .string ⟨#[]⟩, .slice none 0 0] 42)) := (Below.refl _ _).alloc (Nat.le_refl _) _
              have bS := br.trans (dW.mono zr)
              have oS := Own.below o dW
              have pS := hD.below dW
              go_upto_region 24 with fail
              generalize (wr.alloc (.cells #[.int .i64 0, .bool false, .int .i64 0, .string ⟨#[]⟩, .slice none 0 0] 42)) = wS at *
              have hbx : Bs wS none [] := Bs.nil_ _ _
              have atx : At (fun b => wr.heap.size ≤ b ∧ b < wS.heap.size) none ([] : List UInt8).length := fun ad e => by cases e
              have capx : ([] : List UInt8).length ≤ 0 ∧ 0 ≤ 9223372036854775807 := ⟨Nat.le_refl _, by decide⟩
              have hH : ∀ y, partV (0 :: r) = some y → LVal.part .null = 0 :: r := fun y hy => by
                have h2 : (if r.length = 0 then some LVal.null else none) = some y := hy
                by_cases h3 : r.length = 0
                · rw [List.length_eq_zero_iff.1 h3]; rfl
                · rw [if_neg h3] at h2; cases h2
              have HX : Hid (partV (0 :: r) = if (LVal.part (.null) == 0 :: r) = true then some (.null) else none) := part_again rfl ⟨by decide, by decide⟩ hH
              have hsx : LVal.sm (.null) := ⟨by decide, by decide⟩
              have vsx : CelE.rep wS Any [.int .i64 0, .bool false, .int .i64 0, .string ⟨#[]⟩, .slice none 0 0] (.null) := ⟨none, 0, rfl, hbx, At.any _ _, capx.1, capx.2, by decide⟩
              have dA : Below wS.heap.size wS (wS.alloc (.cells #[.int .i64 0, .bool false, .int .i64 0, .string ⟨#[]⟩, .slice none 0 0] 42)) := (Below.refl _ _).alloc (Nat.le_refl _) _
              have hsl : Sl CelE (wS.alloc (.cells #[.int .i64 0, .bool false, .int .i64 0, .string ⟨#[]⟩, .slice none 0 0] 42)) (some ⟨wS.heap.size, 0, none⟩) [.null] := ⟨(by show 1 * CelE.bytes ≤ _; decide), [.int .i64 0, .bool false, .int .i64 0, .string ⟨#[]⟩, .slice none 0 0], (Reads.newN wS [.int .i64 0, .bool false, .int .i64 0, .string ⟨#[]⟩, .slice none 0 0] 42).more (by simp), At.any _ _, ER.flat_keep dA (ER.flat_one_ vsx)⟩
              have T5 := renc_any [.null] (some ⟨wS.heap.size, 0, none⟩) 1 _ hsl (fun y hy => by have : y = .null := (by simpa using hy); rw [this]; exact hsx) (fun y hy => by have : y = .null := (by simpa using hy); rw [this]; exact ⟨rfl, ⟨by decide, by decide⟩⟩) (by show 1 ≤ _; decide)
              have hel := encL_len (xs := [.null]) (fun y hy => by have : y = .null := (by simpa using hy); rw [this]; exact hsx)
              have hpe := partsL_enc1 hsx
              generalize encL [.null] = eb at *
              have hel2 : eb.length ≤ 67108864 := by simpa using hel
              clear hel
              have HPE := Lib.hid hpe
              clear hpe
              go_upto_region 24 with fail
              go_wp2_with ((with_reducible refine wpList_load_blk rfl 42 (.tmp 9) rfl g0 ?_ 42 _ _ kS Tryd.underlying42 ?_ Tryd.size_Cell ?_ ?_); rfl; rfl; rfl)
              refine T5.mono ?_
              rintro en w5 ⟨E5, e5, rfl, o5, b5⟩
              have o5b : OwnB (wS.alloc (.cells #[.int .i64 0, .bool false, .int .i64 0, .string ⟨#[]⟩, .slice none 0 0] 42)).heap.size w5 E5 eb e5 := o5
              have bS5 := bS.trans ((dA.trans (b5.mono dA.size)).mono bS.size)
              have T6 := rparts_any E5 eb e5 w5 (o5b.bs (by omega)) o5b.caps (by omega)
              rw [HPE.out] at T6
              have dS5 := dA.trans (b5.mono dA.size)
              go_wp2_with fail
              refine T6.mono ?_
              rintro en w6 ⟨G6, g6, rfl, o6, b6⟩
              have bS6 := bS5.trans (b6.mono bS5.size)
              have dS6 := dS5.trans (b6.mono dS5.size)
              have s6 : Sl BsE w6 G6 [LVal.part (.null)] := Own.sl o6 (by show 1 * BsE.bytes ≤ _; decide)
              obtain ⟨ad6, D6, c6, rfl, ha6, hc6, hD6, -, -⟩ := BsE.at_ s6 (k := 0) (by show 0 < 1; decide)
              rw [add_zero_] at hc6
              have hc6b : w6.cell? ad6 = some (.slice D6 (LVal.part (.null)).length c6) := hc6
              clear hc6
              have T7 := eq_b2 D6 (some ad) (LVal.part (.null)) (0 :: r) c6 c0 w6 hD6 (pS.below dS6)
              obtain ⟨eqv, heqv⟩ : ∃ b, (LVal.part (.null) == 0 :: r) = b := ⟨_, rfl⟩
              rw [heqv] at T7 HX
              clear heqv o6 o5 o5b b5 b6 hsl T5
              have k6 := kS.below dS6 kS.lt
              generalize LVal.part (.null) = pt at *
              simp only [List.length_singleton]
              go_wp2_with fail
              refine T7.mono ?_
              rintro en w7 ⟨rfl, b7⟩
              have bS7 := bS6.trans (b7.mono bS6.size)
              have dS7 := dS6.trans (b7.mono dS6.size)
              have k7 := k6.below b7 k6.lt
              cases eqv with
              | false =>
                have HN : Hid (decL l = ([], 3)) := by show _ = _; rw [HD.out, mapV_none HPM.out (HX.out.trans (if_neg (by decide)))]
                go_wp2_with fail
                go_ret2
                rw [HN.out]
                exact ⟨none, 0, rfl, Own.nil_ CelE _ _ _ _, b1.trans (bS7.mono z1)⟩
              | true =>
                have HS : Hid (mapV (ps.take (k + 1)) = some (xs ++ [.null])) := by show _ = _; rw [HTK.out]; exact mapV_snoc HM.out (HX.out.trans (if_pos rfl))
                have dZ : Below w7.heap.size w7 (w7.alloc (.cells #[.int .i64 0, .bool false, .int .i64 0, .string ⟨#[]⟩, .slice none 0 0] 42)) := (Below.refl _ _).alloc (Nat.le_refl _) _
                have bZ := bS7.trans (dZ.mono bS7.size)
                have zS7 := dS7.size
                have oZ := Own.below (Own.mono (Own.below oS dS7) (S' := fun b => w.heap.size ≤ b ∧ b < w7.heap.size) (fun b hb _ hs => ⟨hs.1, hb⟩)) dZ
                have vsZ : CelE.rep (w7.alloc (.cells #[.int .i64 0, .bool false, .int .i64 0, .string ⟨#[]⟩, .slice none 0 0] 42)) (fun b => (w.heap.size ≤ b ∧ b < w7.heap.size) ∧ (Value.slice B xs.length d).ownBlock ≠ some b) [.int .i64 0, .bool false, .int .i64 0, .string ⟨#[]⟩, .slice none 0 0] (.null) := ⟨none, 0, rfl, (hbx.below dS7).below dZ, fun a2 e2 hn2 => (by have h1 := atx a2 e2 hn2; refine ⟨⟨by omega, by omega⟩, fun e3 => ?_⟩; have := (Own.lt o _ e3).2; omega), capx.1, capx.2, by decide⟩
                go_wp2_with (first | ((with_reducible refine wpList_load_blk rfl 42 (.tmp 9) rfl g0 ?_ 42 _ _ k7 Tryd.underlying42 ?_ Tryd.size_Cell ?_ ?_); rfl; rfl; rfl) | (at_builtin; refine wpList_appE CelE w1.heap.size w1 _ rfl (.tmp 105) (.tmp 107) 42 26 rfl i1 _ Tryd.underlying26 hi1 hy0 hy1 hy2 rfl _ B xs d rfl oZ _ [.int .i64 0, .bool false, .int .i64 0, .string ⟨#[]⟩, .slice none 0 0] (.null) 1 rfl _ (Reads.newN w7 [.int .i64 0, .bool false, .int .i64 0, .string ⟨#[]⟩, .slice none 0 0] 42) vsZ (by simp only [CelE]; omega) (by simp only [maxLen]; omega) bZ (Nat.le_refl _) bZ.size ?_; intro B9 d9 xs9 w9 H9 o9 b9 g9 t9))
                go_roundw
                case rel => exact ⟨k + 1, xs9, B9, d9, by omega, by go_num, rfl, Own.mono o9 (fun b hb _ hs => ⟨hs.1, hb⟩), by rw [H9.out]; exact HS.out, b9⟩
                case measure => simp [intOf]; omega
            · have hkb : kb = 1 := UInt8.toNat_inj.1 (by rw [hkz]; rfl)
              subst hkb
              clear hkz
              cases r with
              | nil =>
                have kS := Blk.new wr 42 #[.int .i64 1, .bool false, .int .i64 0, .string ⟨#[]⟩, .slice none 0 0]
                rw [hg0] at kS
                have dW : Below wr.heap.size wr (wr.alloc (.cells #[.int .i64 1, .bool false, .int .i64 0, .string ⟨#[]⟩, .slice none 0 0] 42)) := (Below.refl _ _).alloc (Nat.le_refl _) _
                have bS := br.trans (dW.mono zr)
                have oS := Own.below o dW
                have pS := hD.below dW
                go_upto_region 24 with fail
                generalize (wr.alloc (.cells #[.int .i64 1, .bool false, .int .i64 0, .string ⟨#[]⟩, .slice none 0 0] 42)) = wS at *
                have hbx : Bs wS none [] := Bs.nil_ _ _
                have atx : At (fun b => wr.heap.size ≤ b ∧ b < wS.heap.size) none ([] : List UInt8).length := fun ad e => by cases e
                have capx : ([] : List UInt8).length ≤ 0 ∧ 0 ≤ 9223372036854775807 := ⟨Nat.le_refl _, by decide⟩
                have hH : ∀ y, partV [1] = some y → LVal.part (.bool false) = [1] := fun y hy => by cases hy
                have HX : Hid (partV ([1]) = if (LVal.part (.bool false) == [1]) = true then some (.bool false) else none) := part_again rfl ⟨by decide, by decide⟩ hH
                have hsx : LVal.sm (.bool false) := ⟨by decide, by decide⟩
                have vsx : CelE.rep wS Any [.int .i64 1, .bool false, .int .i64 0, .string ⟨#[]⟩, .slice none 0 0] (.bool false) := ⟨none, 0, rfl, hbx, At.any _ _, capx.1, capx.2, by decide⟩
                have dA : Below wS.heap.size wS (wS.alloc (.cells #[.int .i64 1, .bool false, .int .i64 0, .string ⟨#[]⟩, .slice none 0 0] 42)) := (Below.refl _ _).alloc (Nat.le_refl _) _
                have hsl : Sl CelE (wS.alloc (.cells #[.int .i64 1, .bool false, .int .i64 0, .string ⟨#[]⟩, .slice none 0 0] 42)) (some ⟨wS.heap.size, 0, none⟩) [.bool false] := ⟨(by show 1 * CelE.bytes ≤ _; decide), [.int .i64 1, .bool false, .int .i64 0, .string ⟨#[]⟩, .slice none 0 0], (Reads.newN wS [.int .i64 1, .bool false, .int .i64 0, .string ⟨#[]⟩, .slice none 0 0] 42).more (by simp), At.any _ _, ER.flat_keep dA (ER.flat_one_ vsx)⟩
                have T5 := renc_any [.bool false] (some ⟨wS.heap.size, 0, none⟩) 1 _ hsl (fun y hy => by have : y = .bool false := (by simpa using hy); rw [this]; exact hsx) (fun y hy => by have : y = .bool false := (by simpa using hy); rw [this]; exact ⟨rfl, ⟨by decide, by decide⟩⟩) (by show 1 ≤ _; decide)
                have hel := encL_len (xs := [.bool false]) (fun y hy => by have : y = .bool false := (by simpa using hy); rw [this]; exact hsx)
                have hpe := partsL_enc1 hsx
                generalize encL [.bool false] = eb at *
                have hel2 : eb.length ≤ 67108864 := by simpa using hel
                clear hel
                have HPE := Lib.hid hpe
                clear hpe
                go_upto_region 24 with fail
                go_wp2_with ((with_reducible refine wpList_load_blk rfl 42 (.tmp 9) rfl g0 ?_ 42 _ _ kS Tryd.underlying42 ?_ Tryd.size_Cell ?_ ?_); rfl; rfl; rfl)
                refine T5.mono ?_
                rintro en w5 ⟨E5, e5, rfl, o5, b5⟩
                have o5b : OwnB (wS.alloc (.cells #[.int .i64 1, .bool false, .int .i64 0, .string ⟨#[]⟩, .slice none 0 0] 42)).heap.size w5 E5 eb e5 := o5
                have bS5 := bS.trans ((dA.trans (b5.mono dA.size)).mono bS.size)
                have T6 := rparts_any E5 eb e5 w5 (o5b.bs (by omega)) o5b.caps (by omega)
                rw [HPE.out] at T6
                have dS5 := dA.trans (b5.mono dA.size)
                go_wp2_with fail
                refine T6.mono ?_
                rintro en w6 ⟨G6, g6, rfl, o6, b6⟩
                have bS6 := bS5.trans (b6.mono bS5.size)
                have dS6 := dS5.trans (b6.mono dS5.size)
                have s6 : Sl BsE w6 G6 [LVal.part (.bool false)] := Own.sl o6 (by show 1 * BsE.bytes ≤ _; decide)
                obtain ⟨ad6, D6, c6, rfl, ha6, hc6, hD6, -, -⟩ := BsE.at_ s6 (k := 0) (by show 0 < 1; decide)
                rw [add_zero_] at hc6
                have hc6b : w6.cell? ad6 = some (.slice D6 (LVal.part (.bool false)).length c6) := hc6
                clear hc6
                have T7 := eq_b2 D6 (some ad) (LVal.part (.bool false)) ([1]) c6 c0 w6 hD6 (pS.below dS6)
                obtain ⟨eqv, heqv⟩ : ∃ b, (LVal.part (.bool false) == [1]) = b := ⟨_, rfl⟩
                rw [heqv] at T7 HX
                clear heqv o6 o5 o5b b5 b6 hsl T5
                have k6 := kS.below dS6 kS.lt
                generalize LVal.part (.bool false) = pt at *
                simp only [List.length_singleton]
                go_wp2_with fail
                refine T7.mono ?_
                rintro en w7 ⟨rfl, b7⟩
                have bS7 := bS6.trans (b7.mono bS6.size)
                have dS7 := dS6.trans (b7.mono dS6.size)
                have k7 := k6.below b7 k6.lt
                cases eqv with
                | false =>
                  have HN : Hid (decL l = ([], 3)) := by show _ = _; rw [HD.out, mapV_none HPM.out (HX.out.trans (if_neg (by decide)))]
                  go_wp2_with fail
                  go_ret2
                  rw [HN.out]
                  exact ⟨none, 0, rfl, Own.nil_ CelE _ _ _ _, b1.trans (bS7.mono z1)⟩
                | true =>
                  have HS : Hid (mapV (ps.take (k + 1)) = some (xs ++ [.bool false])) := by show _ = _; rw [HTK.out]; exact mapV_snoc HM.out (HX.out.trans (if_pos rfl))
                  have dZ : Below w7.heap.size w7 (w7.alloc (.cells #[.int .i64 1, .bool false, .int .i64 0, .string ⟨#[]⟩, .slice none 0 0] 42)) := (Below.refl _ _).alloc (Nat.le_refl _) _
                  have bZ := bS7.trans (dZ.mono bS7.size)
                  have zS7 := dS7.size
                  have oZ := Own.below (Own.mono (Own.below oS dS7) (S' := fun b => w.heap.size ≤ b ∧ b < w7.heap.size) (fun b hb _ hs => ⟨hs.1, hb⟩)) dZ
                  have vsZ : CelE.rep (w7.alloc (.cells #[.int .i64 1, .bool false, .int .i64 0, .string ⟨#[]⟩, .slice none 0 0] 42)) (fun b => (w.heap.size ≤ b ∧ b < w7.heap.size) ∧ (Value.slice B xs.length d).ownBlock ≠ some b) [.int .i64 1, .bool false, .int .i64 0, .string ⟨#[]⟩, .slice none 0 0] (.bool false) := ⟨none, 0, rfl, (hbx.below dS7).below dZ, fun a2 e2 hn2 => (by have h1 := atx a2 e2 hn2; refine ⟨⟨by omega, by omega⟩, fun e3 => ?_⟩; have := (Own.lt o _ e3).2; omega), capx.1, capx.2, by decide⟩
                  go_wp2_with (first | ((with_reducible refine wpList_load_blk rfl 42 (.tmp 9) rfl g0 ?_ 42 _ _ k7 Tryd.underlying42 ?_ Tryd.size_Cell ?_ ?_); rfl; rfl; rfl) | (at_builtin; refine wpList_appE CelE w1.heap.size w1 _ rfl (.tmp 105) (.tmp 107) 42 26 rfl i1 _ Tryd.underlying26 hi1 hy0 hy1 hy2 rfl _ B xs d rfl oZ _ [.int .i64 1, .bool false, .int .i64 0, .string ⟨#[]⟩, .slice none 0 0] (.bool false) 1 rfl _ (Reads.newN w7 [.int .i64 1, .bool false, .int .i64 0, .string ⟨#[]⟩, .slice none 0 0] 42) vsZ (by simp only [CelE]; omega) (by simp only [maxLen]; omega) bZ (Nat.le_refl _) bZ.size ?_; intro B9 d9 xs9 w9 H9 o9 b9 g9 t9))
                  go_roundw
                  case rel => exact ⟨k + 1, xs9, B9, d9, by omega, by go_num, rfl, Own.mono o9 (fun b hb _ hs => ⟨hs.1, hb⟩), by rw [H9.out]; exact HS.out, b9⟩
                  case measure => simp [intOf]; omega
              | cons q1 r2 =>
                have dW0 : Below wr.heap.size wr (wr.alloc (.cells #[.int .i64 1, .bool false, .int .i64 0, .string ⟨#[]⟩, .slice none 0 0] 42)) := (Below.refl _ _).alloc (Nat.le_refl _) _
                obtain ⟨ad2, e2, _, hcb⟩ := (hD.below dW0).at_ (k := 1) (by simp)
                obtain rfl := Option.some.inj e2
                have hcb2 : (wr.alloc (.cells #[.int .i64 1, .bool false, .int .i64 0, .string ⟨#[]⟩, .slice none 0 0] 42)).cell? ⟨ad.block, ad.off + 1, none⟩ = some (.int .u8 (q1.toNat : Int)) := hcb
                clear hcb e2
                by_cases hb1 : q1.toNat = 1
                · have hbb : q1 = 1 := UInt8.toNat_inj.1 (by rw [hb1]; rfl)
                  have eb_ : ((q1.toNat : Int) == 1) = true := by rw [beq_iff_eq]; omega
                  have hH : ∀ y, partV (1 :: q1 :: r2) = some y → LVal.part (.bool true) = 1 :: q1 :: r2 := fun y hy => by
                    have h2 : (if q1 :: r2 = [0] then some (LVal.bool false) else if q1 :: r2 = [1] then some (LVal.bool true) else none) = some y := hy
                    rw [hbb] at h2 ⊢
                    rw [if_neg (fun h => by injection h with h _; exact absurd h (by decide))] at h2
                    by_cases h3 : (1 : UInt8) :: r2 = [1]
                    · rw [h3]; rfl
                    · rw [if_neg h3] at h2; cases h2
                  clear hb1 hbb
                  have kS := Blk.new wr 42 #[.int .i64 1, .bool true, .int .i64 0, .string ⟨#[]⟩, .slice none 0 0]
                  rw [hg0] at kS
                  have dW : Below wr.heap.size wr (wr.alloc (.cells #[.int .i64 1, .bool true, .int .i64 0, .string ⟨#[]⟩, .slice none 0 0] 42)) := (Below.refl _ _).alloc (Nat.le_refl _) _
                  have bS := br.trans (dW.mono zr)
                  have oS := Own.below o dW
                  have pS := hD.below dW
                  go_upto_region 24 with fail
                  generalize (wr.alloc (.cells #[.int .i64 1, .bool true, .int .i64 0, .string ⟨#[]⟩, .slice none 0 0] 42)) = wS at *
                  have hbx : Bs wS none [] := Bs.nil_ _ _
                  have atx : At (fun b => wr.heap.size ≤ b ∧ b < wS.heap.size) none ([] : List UInt8).length := fun ad e => by cases e
                  have capx : ([] : List UInt8).length ≤ 0 ∧ 0 ≤ 9223372036854775807 := ⟨Nat.le_refl _, by decide⟩
                  have HX : Hid (partV (1 :: q1 :: r2) = if (LVal.part (.bool true) == 1 :: q1 :: r2) = true then some (.bool true) else none) := part_again rfl ⟨by decide, by decide⟩ hH
                  have hsx : LVal.sm (.bool true) := ⟨by decide, by decide⟩
                  have vsx : CelE.rep wS Any [.int .i64 1, .bool true, .int .i64 0, .string ⟨#[]⟩, .slice none 0 0] (.bool true) := ⟨none, 0, rfl, hbx, At.any _ _, capx.1, capx.2, by decide⟩
                  have dA : Below wS.heap.size wS (wS.alloc (.cells #[.int .i64 1, .bool true, .int .i64 0, .string ⟨#[]⟩, .slice none 0 0] 42)) := (Below.refl _ _).alloc (Nat.le_refl _) _
                  have hsl : Sl CelE (wS.alloc (.cells #[.int .i64 1, .bool true, .int .i64 0, .string ⟨#[]⟩, .slice none 0 0] 42)) (some ⟨wS.heap.size, 0, none⟩) [.bool true] := ⟨(by show 1 * CelE.bytes ≤ _; decide), [.int .i64 1, .bool true, .int .i64 0, .string ⟨#[]⟩, .slice none 0 0], (Reads.newN wS [.int .i64 1, .bool true, .int .i64 0, .string ⟨#[]⟩, .slice none 0 0] 42).more (by simp), At.any _ _, ER.flat_keep dA (ER.flat_one_ vsx)⟩
                  have T5 := renc_any [.bool true] (some ⟨wS.heap.size, 0, none⟩) 1 _ hsl (fun y hy => by have : y = .bool true := (by simpa using hy); rw [this]; exact hsx) (fun y hy => by have : y = .bool true := (by simpa using hy); rw [this]; exact ⟨rfl, ⟨by decide, by decide⟩⟩) (by show 1 ≤ _; decide)
                  have hel := encL_len (xs := [.bool true]) (fun y hy => by have : y = .bool true := (by simpa using hy); rw [this]; exact hsx)
                  have hpe := partsL_enc1 hsx
                  generalize encL [.bool true] = eb at *
                  have hel2 : eb.length ≤ 67108864 := by simpa using hel
                  clear hel
                  have HPE := Lib.hid hpe
                  clear hpe
                  go_upto_region 24 with fail
                  go_wp2_with ((with_reducible refine wpList_load_blk rfl 42 (.tmp 9) rfl g0 ?_ 42 _ _ kS Tryd.underlying42 ?_ Tryd.size_Cell ?_ ?_); rfl; rfl; rfl)
                  refine T5.mono ?_
                  rintro en w5 ⟨E5, e5, rfl, o5, b5⟩
                  have o5b : OwnB (wS.alloc (.cells #[.int .i64 1, .bool true, .int .i64 0, .string ⟨#[]⟩, .slice none 0 0] 42)).heap.size w5 E5 eb e5 := o5
                  have bS5 := bS.trans ((dA.trans (b5.mono dA.size)).mono bS.size)
                  have T6 := rparts_any E5 eb e5 w5 (o5b.bs (by omega)) o5b.caps (by omega)
                  rw [HPE.out] at T6
                  have dS5 := dA.trans (b5.mono dA.size)
                  go_wp2_with fail
                  refine T6.mono ?_
                  rintro en w6 ⟨G6, g6, rfl, o6, b6⟩
                  have bS6 := bS5.trans (b6.mono bS5.size)
                  have dS6 := dS5.trans (b6.mono dS5.size)
                  have s6 : Sl BsE w6 G6 [LVal.part (.bool true)] := Own.sl o6 (by show 1 * BsE.bytes ≤ _; decide)
                  obtain ⟨ad6, D6, c6, rfl, ha6, hc6, hD6, -, -⟩ := BsE.at_ s6 (k := 0) (by show 0 < 1; decide)
                  rw [add_zero_] at hc6
                  have hc6b : w6.cell? ad6 = some (.slice D6 (LVal.part (.bool true)).length c6) := hc6
                  clear hc6
                  have T7 := eq_b2 D6 (some ad) (LVal.part (.bool true)) (1 :: q1 :: r2) c6 c0 w6 hD6 (pS.below dS6)
                  obtain ⟨eqv, heqv⟩ : ∃ b, (LVal.part (.bool true) == 1 :: q1 :: r2) = b := ⟨_, rfl⟩
                  rw [heqv] at T7 HX
                  clear heqv o6 o5 o5b b5 b6 hsl T5
                  have k6 := kS.below dS6 kS.lt
                  generalize LVal.part (.bool true) = pt at *
                  simp only [List.length_singleton]
                  go_wp2_with fail
                  refine T7.mono ?_
                  rintro en w7 ⟨rfl, b7⟩
                  have bS7 := bS6.trans (b7.mono bS6.size)
                  have dS7 := dS6.trans (b7.mono dS6.size)
                  have k7 := k6.below b7 k6.lt
                  cases eqv with
                  | false =>
                    have HN : Hid (decL l = ([], 3)) := by show _ = _; rw [HD.out, mapV_none HPM.out (HX.out.trans (if_neg (by decide)))]
                    go_wp2_with fail
                    go_ret2
                    rw [HN.out]
                    exact ⟨none, 0, rfl, Own.nil_ CelE _ _ _ _, b1.trans (bS7.mono z1)⟩
                  | true =>
                    have HS : Hid (mapV (ps.take (k + 1)) = some (xs ++ [.bool true])) := by show _ = _; rw [HTK.out]; exact mapV_snoc HM.out (HX.out.trans (if_pos rfl))
                    have dZ : Below w7.heap.size w7 (w7.alloc (.cells #[.int .i64 1, .bool true, .int .i64 0, .string ⟨#[]⟩, .slice none 0 0] 42)) := (Below.refl _ _).alloc (Nat.le_refl _) _
                    have bZ := bS7.trans (dZ.mono bS7.size)
                    have zS7 := dS7.size
                    have oZ := Own.below (Own.mono (Own.below oS dS7) (S' := fun b => w.heap.size ≤ b ∧ b < w7.heap.size) (fun b hb _ hs => ⟨hs.1, hb⟩)) dZ
                    have vsZ : CelE.rep (w7.alloc (.cells #[.int .i64 1, .bool true, .int .i64 0, .string ⟨#[]⟩, .slice none 0 0] 42)) (fun b => (w.heap.size ≤ b ∧ b < w7.heap.size) ∧ (Value.slice B xs.length d).ownBlock ≠ some b) [.int .i64 1, .bool true, .int .i64 0, .string ⟨#[]⟩, .slice none 0 0] (.bool true) := ⟨none, 0, rfl, (hbx.below dS7).below dZ, fun a2 e2 hn2 => (by have h1 := atx a2 e2 hn2; refine ⟨⟨by omega, by omega⟩, fun e3 => ?_⟩; have := (Own.lt o _ e3).2; omega), capx.1, capx.2, by decide⟩
                    go_wp2_with (first | ((with_reducible refine wpList_load_blk rfl 42 (.tmp 9) rfl g0 ?_ 42 _ _ k7 Tryd.underlying42 ?_ Tryd.size_Cell ?_ ?_); rfl; rfl; rfl) | (at_builtin; refine wpList_appE CelE w1.heap.size w1 _ rfl (.tmp 105) (.tmp 107) 42 26 rfl i1 _ Tryd.underlying26 hi1 hy0 hy1 hy2 rfl _ B xs d rfl oZ _ [.int .i64 1, .bool true, .int .i64 0, .string ⟨#[]⟩, .slice none 0 0] (.bool true) 1 rfl _ (Reads.newN w7 [.int .i64 1, .bool true, .int .i64 0, .string ⟨#[]⟩, .slice none 0 0] 42) vsZ (by simp only [CelE]; omega) (by simp only [maxLen]; omega) bZ (Nat.le_refl _) bZ.size ?_; intro B9 d9 xs9 w9 H9 o9 b9 g9 t9))
                    go_roundw
                    case rel => exact ⟨k + 1, xs9, B9, d9, by omega, by go_num, rfl, Own.mono o9 (fun b hb _ hs => ⟨hs.1, hb⟩), by rw [H9.out]; exact HS.out, b9⟩
                    case measure => simp [intOf]; omega
                · have eb_ : ((q1.toNat : Int) == 1) = false := by rw [beq_eq_false_iff_ne]; omega
                  have hH : ∀ y, partV (1 :: q1 :: r2) = some y → LVal.part (.bool false) = 1 :: q1 :: r2 := fun y hy => by
                    have h2 : (if q1 :: r2 = [0] then some (LVal.bool false) else if q1 :: r2 = [1] then some (LVal.bool true) else none) = some y := hy
                    by_cases h3 : q1 :: r2 = [0]
                    · rw [h3]; rfl
                    · rw [if_neg h3, if_neg (fun h => by injection h with h _; exact hb1 (by rw [h]; rfl))] at h2; cases h2
                  clear hb1
                  have kS := Blk.new wr 42 #[.int .i64 1, .bool false, .int .i64 0, .string ⟨#[]⟩, .slice none 0 0]
                  rw [hg0] at kS
                  have dW : Below wr.heap.size wr (wr.alloc (.cells #[.int .i64 1, .bool false, .int .i64 0, .string ⟨#[]⟩, .slice none 0 0] 42)) := (Below.refl _ _).alloc (Nat.le_refl _) _
                  have bS := br.trans (dW.mono zr)
                  have oS := Own.below o dW
                  have pS := hD.below dW
                  go_upto_region 24 with fail
                  generalize (wr.alloc (.cells #[.int .i64 1, .bool false, .int .i64 0, .string ⟨#[]⟩, .slice none 0 0] 42)) = wS at *
                  have hbx : Bs wS none [] := Bs.nil_ _ _
                  have atx : At (fun b => wr.heap.size ≤ b ∧ b < wS.heap.size) none ([] : List UInt8).length := fun ad e => by cases e
                  have capx : ([] : List UInt8).length ≤ 0 ∧ 0 ≤ 9223372036854775807 := ⟨Nat.le_refl _, by decide⟩
                  have HX : Hid (partV (1 :: q1 :: r2) = if (LVal.part (.bool false) == 1 :: q1 :: r2) = true then some (.bool false) else none) := part_again rfl ⟨by decide, by decide⟩ hH
                  have hsx : LVal.sm (.bool false) := ⟨by decide, by decide⟩
                  have vsx : CelE.rep wS Any [.int .i64 1, .bool false, .int .i64 0, .string ⟨#[]⟩, .slice none 0 0] (.bool false) := ⟨none, 0, rfl, hbx, At.any _ _, capx.1, capx.2, by decide⟩
                  have dA : Below wS.heap.size wS (wS.alloc (.cells #[.int .i64 1, .bool false, .int .i64 0, .string ⟨#[]⟩, .slice none 0 0] 42)) := (Below.refl _ _).alloc (Nat.le_refl _) _
                  have hsl : Sl CelE (wS.alloc (.cells #[.int .i64 1, .bool false, .int .i64 0, .string ⟨#[]⟩, .slice none 0 0] 42)) (some ⟨wS.heap.size, 0, none⟩) [.bool false] := ⟨(by show 1 * CelE.bytes ≤ _; decide), [.int .i64 1, .bool false, .int .i64 0, .string ⟨#[]⟩, .slice none 0 0], (Reads.newN wS [.int .i64 1, .bool false, .int .i64 0, .string ⟨#[]⟩, .slice none 0 0] 42).more (by simp), At.any _ _, ER.flat_keep dA (ER.flat_one_ vsx)⟩
                  have T5 := renc_any [.bool false] (some ⟨wS.heap.size, 0, none⟩) 1 _ hsl (fun y hy => by have : y = .bool false := (by simpa using hy); rw [this]; exact hsx) (fun y hy => by have : y = .bool false := (by simpa using hy); rw [this]; exact ⟨rfl, ⟨by decide, by decide⟩⟩) (by show 1 ≤ _; decide)
                  have hel := encL_len (xs := [.bool false]) (fun y hy => by have : y = .bool false := (by simpa using hy); rw [this]; exact hsx)
                  have hpe := partsL_enc1 hsx
                  generalize encL [.bool false] = eb at *
                  have hel2 : eb.length ≤ 67108864 := by simpa using hel
                  clear hel
                  have HPE := Lib.hid hpe
                  clear hpe
                  go_upto_region 24 with fail
                  go_wp2_with ((with_reducible refine wpList_load_blk rfl 42 (.tmp 9) rfl g0 ?_ 42 _ _ kS Tryd.underlying42 ?_ Tryd.size_Cell ?_ ?_); rfl; rfl; rfl)
                  refine T5.mono ?_
                  rintro en w5 ⟨E5, e5, rfl, o5, b5⟩
                  have o5b : OwnB (wS.alloc (.cells #[.int .i64 1, .bool false, .int .i64 0, .string ⟨#[]⟩, .slice none 0 0] 42)).heap.size w5 E5 eb e5 := o5
                  have bS5 := bS.trans ((dA.trans (b5.mono dA.size)).mono bS.size)
                  have T6 := rparts_any E5 eb e5 w5 (o5b.bs (by omega)) o5b.caps (by omega)
                  rw [HPE.out] at T6
                  have dS5 := dA.trans (b5.mono dA.size)
                  go_wp2_with fail
                  refine T6.mono ?_
                  rintro en w6 ⟨G6, g6, rfl, o6, b6⟩
                  have bS6 := bS5.trans (b6.mono bS5.size)
                  have dS6 := dS5.trans (b6.mono dS5.size)
                  have s6 : Sl BsE w6 G6 [LVal.part (.bool false)] := Own.sl o6 (by show 1 * BsE.bytes ≤ _; decide)
                  obtain ⟨ad6, D6, c6, rfl, ha6, hc6, hD6, -, -⟩ := BsE.at_ s6 (k := 0) (by show 0 < 1; decide)
                  rw [add_zero_] at hc6
                  have hc6b : w6.cell? ad6 = some (.slice D6 (LVal.part (.bool false)).length c6) := hc6
                  clear hc6
                  have T7 := eq_b2 D6 (some ad) (LVal.part (.bool false)) (1 :: q1 :: r2) c6 c0 w6 hD6 (pS.below dS6)
                  obtain ⟨eqv, heqv⟩ : ∃ b, (LVal.part (.bool false) == 1 :: q1 :: r2) = b := ⟨_, rfl⟩
                  rw [heqv] at T7 HX
                  clear heqv o6 o5 o5b b5 b6 hsl T5
                  have k6 := kS.below dS6 kS.lt
                  generalize LVal.part (.bool false) = pt at *
                  simp only [List.length_singleton]
                  go_wp2_with fail
                  refine T7.mono ?_
                  rintro en w7 ⟨rfl, b7⟩
                  have bS7 := bS6.trans (b7.mono bS6.size)
                  have dS7 := dS6.trans (b7.mono dS6.size)
                  have k7 := k6.below b7 k6.lt
                  cases eqv with
                  | false =>
                    have HN : Hid (decL l = ([], 3)) := by show _ = _; rw [HD.out, mapV_none HPM.out (HX.out.trans (if_neg (by decide)))]
                    go_wp2_with fail
                    go_ret2
                    rw [HN.out]
                    exact ⟨none, 0, rfl, Own.nil_ CelE _ _ _ _, b1.trans (bS7.mono z1)⟩
                  | true =>
                    have HS : Hid (mapV (ps.take (k + 1)) = some (xs ++ [.bool false])) := by show _ = _; rw [HTK.out]; exact mapV_snoc HM.out (HX.out.trans (if_pos rfl))
                    have dZ : Below w7.heap.size w7 (w7.alloc (.cells #[.int .i64 1, .bool false, .int .i64 0, .string ⟨#[]⟩, .slice none 0 0] 42)) := (Below.refl _ _).alloc (Nat.le_refl _) _
                    have bZ := bS7.trans (dZ.mono bS7.size)
                    have zS7 := dS7.size
                    have oZ := Own.below (Own.mono (Own.below oS dS7) (S' := fun b => w.heap.size ≤ b ∧ b < w7.heap.size) (fun b hb _ hs => ⟨hs.1, hb⟩)) dZ
                    have vsZ : CelE.rep (w7.alloc (.cells #[.int .i64 1, .bool false, .int .i64 0, .string ⟨#[]⟩, .slice none 0 0] 42)) (fun b => (w.heap.size ≤ b ∧ b < w7.heap.size) ∧ (Value.slice B xs.length d).ownBlock ≠ some b) [.int .i64 1, .bool false, .int .i64 0, .string ⟨#[]⟩, .slice none 0 0] (.bool false) := ⟨none, 0, rfl, (hbx.below dS7).below dZ, fun a2 e2 hn2 => (by have h1 := atx a2 e2 hn2; refine ⟨⟨by omega, by omega⟩, fun e3 => ?_⟩; have := (Own.lt o _ e3).2; omega), capx.1, capx.2, by decide⟩
                    go_wp2_with (first | ((with_reducible refine wpList_load_blk rfl 42 (.tmp 9) rfl g0 ?_ 42 _ _ k7 Tryd.underlying42 ?_ Tryd.size_Cell ?_ ?_); rfl; rfl; rfl) | (at_builtin; refine wpList_appE CelE w1.heap.size w1 _ rfl (.tmp 105) (.tmp 107) 42 26 rfl i1 _ Tryd.underlying26 hi1 hy0 hy1 hy2 rfl _ B xs d rfl oZ _ [.int .i64 1, .bool false, .int .i64 0, .string ⟨#[]⟩, .slice none 0 0] (.bool false) 1 rfl _ (Reads.newN w7 [.int .i64 1, .bool false, .int .i64 0, .string ⟨#[]⟩, .slice none 0 0] 42) vsZ (by simp only [CelE]; omega) (by simp only [maxLen]; omega) bZ (Nat.le_refl _) bZ.size ?_; intro B9 d9 xs9 w9 H9 o9 b9 g9 t9))
                    go_roundw
                    case rel => exact ⟨k + 1, xs9, B9, d9, by omega, by go_num, rfl, Own.mono o9 (fun b hb _ hs => ⟨hs.1, hb⟩), by rw [H9.out]; exact HS.out, b9⟩
                    case measure => simp [intOf]; omega
            · have hkb : kb = 2 := UInt8.toNat_inj.1 (by rw [hkz]; rfl)
              subst hkb
              clear hkz
              have dW0 : Below wr.heap.size wr (wr.alloc (.cells #[.int .i64 2, .bool false, .int .i64 0, .string ⟨#[]⟩, .slice none 0 0] 42)) := (Below.refl _ _).alloc (Nat.le_refl _) _
              have TO := rgetordu_any (some ad) (2 :: r) c0 1 (wr.alloc (.cells #[.int .i64 2, .bool false, .int .i64 0, .string ⟨#[]⟩, .slice none 0 0] 42)) (hD.below dW0) (by simp)
              have hdr : (2 :: r).drop 1 = r := rfl
              rw [hdr] at TO
              clear hdr
              by_cases h8 : r.length < 8
              · have hor : ordF r = (0, 5) := if_pos h8
                rw [hor] at TO
                have TO2 : Calls Tryd.prog 76 #[.slice (some ad) (2 :: r).length c0, .int .i64 1] (wr.alloc (.cells #[.int .i64 2, .bool false, .int .i64 0, .string ⟨#[]⟩, .slice none 0 0] 42)) fun en w2 => en = .returned (.tuple #[.int .u64 0, .int .i64 0, .int .i64 5]) ∧ w2 = (wr.alloc (.cells #[.int .i64 2, .bool false, .int .i64 0, .string ⟨#[]⟩, .slice none 0 0] 42)) := TO
                have HN : Hid (decL l = ([], 3)) := by
                  have h9 : partV (2 :: r) = none := if_neg (show ¬ r.length = 8 by omega)
                  show _ = _; rw [HD.out, mapV_none HPM.out h9]
                have bS := br.trans (dW0.mono zr)
                clear h8 hor TO
                go_wp2_with fail
                refine TO2.mono ?_
                rintro en w2 ⟨rfl, rfl⟩
                go_wp2_with fail
                go_ret2
                rw [HN.out]
                exact ⟨none, 0, rfl, Own.nil_ CelE _ _ _ _, b1.trans (bS.mono z1)⟩
              · have hor : ordF r = (beF 0 (r.take 8), 0) := if_neg h8
                rw [hor] at TO
                have hlt2 : beF 0 (r.take 8) < 18446744073709551616 := by
                  have h9 := ordF_lt r
                  rw [hor] at h9
                  exact h9
                have hH1 : ∀ y, partV (2 :: r) = some y → LVal.part (.int ((beF 0 (r.take 8) : Int) - 9223372036854775808)) = 2 :: r := fun y hy => by
                  have h2 : (if r.length = 8 then some (.int ((beF 0 r : Int) - 9223372036854775808)) else none) = some y := hy
                  by_cases h3 : r.length = 8
                  · show 2 :: okey _ = _
                    rw [List.take_of_length_le (by omega), okey_beF h3]
                  · rw [if_neg h3] at h2; cases h2
                generalize beF 0 (r.take 8) = n at *
                have HH := Lib.hid hH1
                have TO2 : Calls Tryd.prog 76 #[.slice (some ad) (2 :: r).length c0, .int .i64 1] (wr.alloc (.cells #[.int .i64 2, .bool false, .int .i64 0, .string ⟨#[]⟩, .slice none 0 0] 42)) fun en w2 => en = .returned (.tuple #[.int .u64 (n : Int), .int .i64 9, .int .i64 0]) ∧ w2 = (wr.alloc (.cells #[.int .i64 2, .bool false, .int .i64 0, .string ⟨#[]⟩, .slice none 0 0] 42)) := TO
                have hwrp : IntKind.i64.wrap (IntKind.u64.wrap ((n : Int) + 9223372036854775808)) = (n : Int) - 9223372036854775808 := wrap_back hlt2
                have hwfi : LVal.wfv (.int ((n : Int) - 9223372036854775808)) := wfv_back hlt2
                clear h8 hor TO hH1
                go_wp2_with fail
                refine TO2.mono ?_
                rintro en w2 ⟨rfl, rfl⟩
                clear TO2
                have kS := Blk.new wr 42 #[.int .i64 2, .bool false, .int .i64 ((n : Int) - 9223372036854775808), .string ⟨#[]⟩, .slice none 0 0]
                rw [hg0] at kS
                have dW : Below wr.heap.size wr (wr.alloc (.cells #[.int .i64 2, .bool false, .int .i64 ((n : Int) - 9223372036854775808), .string ⟨#[]⟩, .slice none 0 0] 42)) := (Below.refl _ _).alloc (Nat.le_refl _) _
                have bS := br.trans (dW.mono zr)
                have oS := Own.below o dW
                have pS := hD.below dW
                go_upto_region 24 with fail
                generalize (wr.alloc (.cells #[.int .i64 2, .bool false, .int .i64 ((n : Int) - 9223372036854775808), .string ⟨#[]⟩, .slice none 0 0] 42)) = wS at *
                have hbx : Bs wS none [] := Bs.nil_ _ _
                have atx : At (fun b => wr.heap.size ≤ b ∧ b < wS.heap.size) none ([] : List UInt8).length := fun ad e => by cases e
                have capx : ([] : List UInt8).length ≤ 0 ∧ 0 ≤ 9223372036854775807 := ⟨Nat.le_refl _, by decide⟩
                have HX : Hid (partV (2 :: r) = if (LVal.part (.int ((n : Int) - 9223372036854775808)) == 2 :: r) = true then some (.int ((n : Int) - 9223372036854775808)) else none) := part_again rfl hwfi HH.out
                have hsx : LVal.sm (.int ((n : Int) - 9223372036854775808)) := ⟨Nat.zero_le _, Nat.zero_le _⟩
                have vsx : CelE.rep wS Any [.int .i64 2, .bool false, .int .i64 ((n : Int) - 9223372036854775808), .string ⟨#[]⟩, .slice none 0 0] (.int ((n : Int) - 9223372036854775808)) := ⟨none, 0, rfl, hbx, At.any _ _, capx.1, capx.2, Nat.zero_le _⟩
                have dA : Below wS.heap.size wS (wS.alloc (.cells #[.int .i64 2, .bool false, .int .i64 ((n : Int) - 9223372036854775808), .string ⟨#[]⟩, .slice none 0 0] 42)) := (Below.refl _ _).alloc (Nat.le_refl _) _
                have hsl : Sl CelE (wS.alloc (.cells #[.int .i64 2, .bool false, .int .i64 ((n : Int) - 9223372036854775808), .string ⟨#[]⟩, .slice none 0 0] 42)) (some ⟨wS.heap.size, 0, none⟩) [.int ((n : Int) - 9223372036854775808)] := ⟨(by show 1 * CelE.bytes ≤ _; decide), [.int .i64 2, .bool false, .int .i64 ((n : Int) - 9223372036854775808), .string ⟨#[]⟩, .slice none 0 0], (Reads.newN wS [.int .i64 2, .bool false, .int .i64 ((n : Int) - 9223372036854775808), .string ⟨#[]⟩, .slice none 0 0] 42).more (by simp), At.any _ _, ER.flat_keep dA (ER.flat_one_ vsx)⟩
                have T5 := renc_any [.int ((n : Int) - 9223372036854775808)] (some ⟨wS.heap.size, 0, none⟩) 1 _ hsl (fun y hy => by have : y = .int ((n : Int) - 9223372036854775808) := (by simpa using hy); rw [this]; exact hsx) (fun y hy => by have : y = .int ((n : Int) - 9223372036854775808) := (by simpa using hy); rw [this]; exact ⟨rfl, hwfi⟩) (by show 1 ≤ _; decide)
                have hel := encL_len (xs := [.int ((n : Int) - 9223372036854775808)]) (fun y hy => by have : y = .int ((n : Int) - 9223372036854775808) := (by simpa using hy); rw [this]; exact hsx)
                have hpe := partsL_enc1 hsx
                generalize encL [.int ((n : Int) - 9223372036854775808)] = eb at *
                have hel2 : eb.length ≤ 67108864 := by simpa using hel
                clear hel
                have HPE := Lib.hid hpe
                clear hpe
                go_upto_region 24 with fail
                go_wp2_with ((with_reducible refine wpList_load_blk rfl 42 (.tmp 9) rfl g0 ?_ 42 _ _ kS Tryd.underlying42 ?_ Tryd.size_Cell ?_ ?_); rfl; rfl; rfl)
                refine T5.mono ?_
                rintro en w5 ⟨E5, e5, rfl, o5, b5⟩
                have o5b : OwnB (wS.alloc (.cells #[.int .i64 2, .bool false, .int .i64 ((n : Int) - 9223372036854775808), .string ⟨#[]⟩, .slice none 0 0] 42)).heap.size w5 E5 eb e5 := o5
                have bS5 := bS.trans ((dA.trans (b5.mono dA.size)).mono bS.size)
                have T6 := rparts_any E5 eb e5 w5 (o5b.bs (by omega)) o5b.caps (by omega)
                rw [HPE.out] at T6
                have dS5 := dA.trans (b5.mono dA.size)
                go_wp2_with fail
                refine T6.mono ?_
                rintro en w6 ⟨G6, g6, rfl, o6, b6⟩
                have bS6 := bS5.trans (b6.mono bS5.size)
                have dS6 := dS5.trans (b6.mono dS5.size)
                have s6 : Sl BsE w6 G6 [LVal.part (.int ((n : Int) - 9223372036854775808))] := Own.sl o6 (by show 1 * BsE.bytes ≤ _; decide)
                obtain ⟨ad6, D6, c6, rfl, ha6, hc6, hD6, -, -⟩ := BsE.at_ s6 (k := 0) (by show 0 < 1; decide)
                rw [add_zero_] at hc6
                have hc6b : w6.cell? ad6 = some (.slice D6 (LVal.part (.int ((n : Int) - 9223372036854775808))).length c6) := hc6
                clear hc6
                have T7 := eq_b2 D6 (some ad) (LVal.part (.int ((n : Int) - 9223372036854775808))) (2 :: r) c6 c0 w6 hD6 (pS.below dS6)
                obtain ⟨eqv, heqv⟩ : ∃ b, (LVal.part (.int ((n : Int) - 9223372036854775808)) == 2 :: r) = b := ⟨_, rfl⟩
                rw [heqv] at T7 HX
                clear heqv o6 o5 o5b b5 b6 hsl T5
                have k6 := kS.below dS6 kS.lt
                generalize LVal.part (.int ((n : Int) - 9223372036854775808)) = pt at *
                simp only [List.length_singleton]
                go_wp2_with fail
                refine T7.mono ?_
                rintro en w7 ⟨rfl, b7⟩
                have bS7 := bS6.trans (b7.mono bS6.size)
                have dS7 := dS6.trans (b7.mono dS6.size)
                have k7 := k6.below b7 k6.lt
                cases eqv with
                | false =>
                  have HN : Hid (decL l = ([], 3)) := by show _ = _; rw [HD.out, mapV_none HPM.out (HX.out.trans (if_neg (by decide)))]
                  go_wp2_with fail
                  go_ret2
                  rw [HN.out]
                  exact ⟨none, 0, rfl, Own.nil_ CelE _ _ _ _, b1.trans (bS7.mono z1)⟩
                | true =>
                  have HS : Hid (mapV (ps.take (k + 1)) = some (xs ++ [.int ((n : Int) - 9223372036854775808)])) := by show _ = _; rw [HTK.out]; exact mapV_snoc HM.out (HX.out.trans (if_pos rfl))
                  have dZ : Below w7.heap.size w7 (w7.alloc (.cells #[.int .i64 2, .bool false, .int .i64 ((n : Int) - 9223372036854775808), .string ⟨#[]⟩, .slice none 0 0] 42)) := (Below.refl _ _).alloc (Nat.le_refl _) _
                  have bZ := bS7.trans (dZ.mono bS7.size)
                  have zS7 := dS7.size
                  have oZ := Own.below (Own.mono (Own.below oS dS7) (S' := fun b => w.heap.size ≤ b ∧ b < w7.heap.size) (fun b hb _ hs => ⟨hs.1, hb⟩)) dZ
                  have vsZ : CelE.rep (w7.alloc (.cells #[.int .i64 2, .bool false, .int .i64 ((n : Int) - 9223372036854775808), .string ⟨#[]⟩, .slice none 0 0] 42)) (fun b => (w.heap.size ≤ b ∧ b < w7.heap.size) ∧ (Value.slice B xs.length d).ownBlock ≠ some b) [.int .i64 2, .bool false, .int .i64 ((n : Int) - 9223372036854775808), .string ⟨#[]⟩, .slice none 0 0] (.int ((n : Int) - 9223372036854775808)) := ⟨none, 0, rfl, (hbx.below dS7).below dZ, fun a2 e2 hn2 => (by have h1 := atx a2 e2 hn2; refine ⟨⟨by omega, by omega⟩, fun e3 => ?_⟩; have := (Own.lt o _ e3).2; omega), capx.1, capx.2, Nat.zero_le _⟩
                  go_wp2_with (first | ((with_reducible refine wpList_load_blk rfl 42 (.tmp 9) rfl g0 ?_ 42 _ _ k7 Tryd.underlying42 ?_ Tryd.size_Cell ?_ ?_); rfl; rfl; rfl) | (at_builtin; refine wpList_appE CelE w1.heap.size w1 _ rfl (.tmp 105) (.tmp 107) 42 26 rfl i1 _ Tryd.underlying26 hi1 hy0 hy1 hy2 rfl _ B xs d rfl oZ _ [.int .i64 2, .bool false, .int .i64 ((n : Int) - 9223372036854775808), .string ⟨#[]⟩, .slice none 0 0] (.int ((n : Int) - 9223372036854775808)) 1 rfl _ (Reads.newN w7 [.int .i64 2, .bool false, .int .i64 ((n : Int) - 9223372036854775808), .string ⟨#[]⟩, .slice none 0 0] 42) vsZ (by simp only [CelE]; omega) (by simp only [maxLen]; omega) bZ (Nat.le_refl _) bZ.size ?_; intro B9 d9 xs9 w9 H9 o9 b9 g9 t9))
                  go_roundw
                  case rel => exact ⟨k + 1, xs9, B9, d9, by omega, by go_num, rfl, Own.mono o9 (fun b hb _ hs => ⟨hs.1, hb⟩), by rw [H9.out]; exact HS.out, b9⟩
                  case measure => simp [intOf]; omega
            · have hkb : kb = 3 := UInt8.toNat_inj.1 (by rw [hkz]; rfl)
              subst hkb
              clear hkz
              have hcut := Bs.cut hD (k := 1) (by simp) (show (3 :: r).length ≤ c0 from hcp.1)
              have hdr : (3 :: r).drop 1 = r := rfl
              rw [hdr] at hcut
              clear hdr
              have hrl : r.length ≤ 1048575 := by simp only [List.length_cons] at hpl; omega
              have hrc : r.length + 1 ≤ c0 := by have := hcp.1; simp only [List.length_cons] at this; omega
              have hcc : c0 ≤ 9223372036854775807 := hcp.2
              have dW0 : Below wr.heap.size wr (wr.alloc (.cells #[.int .i64 3, .bool false, .int .i64 0, .string ⟨#[]⟩, .slice none 0 0] 42)) := (Below.refl _ _).alloc (Nat.le_refl _) _
              by_cases hc1 : c0 = 1
              · subst hc1
                obtain rfl : r = [] := List.length_eq_zero_iff.1 (by omega)
                have hR : Bs wr (some ad) [] := Bs.nil_ _ _
                clear hcut
                have hcv : (convert 31 9 (.slice (some ad) 0 0)).run Tryd.prog (wr.alloc (.cells #[.int .i64 3, .bool false, .int .i64 0, .string ⟨#[]⟩, .slice none 0 0] 42)) = .ok (.string ⟨#[]⟩) (wr.alloc (.cells #[.int .i64 3, .bool false, .int .i64 0, .string ⟨#[]⟩, .slice none 0 0] 42)) := conv_any (some ad) [] 0 _ (hR.below dW0)
                have hts : (⟨#[]⟩ : ByteArray).size ≤ 1048576 := by decide
                have hH : ∀ y, partV (3 :: []) = some y → LVal.part (.text ⟨#[]⟩) = 3 :: [] := fun y _ => rfl
                have kS := Blk.new wr 42 #[.int .i64 3, .bool false, .int .i64 0, .string ⟨#[]⟩, .slice none 0 0]
                rw [hg0] at kS
                have dW : Below wr.heap.size wr (wr.alloc (.cells #[.int .i64 3, .bool false, .int .i64 0, .string ⟨#[]⟩, .slice none 0 0] 42)) := (Below.refl _ _).alloc (Nat.le_refl _) _
                have bS := br.trans (dW.mono zr)
                have oS := Own.below o dW
                have pS := hD.below dW
                go_upto_region 24 with fail
                generalize (wr.alloc (.cells #[.int .i64 3, .bool false, .int .i64 0, .string ⟨#[]⟩, .slice none 0 0] 42)) = wS at *
                have hbx : Bs wS none [] := Bs.nil_ _ _
                have atx : At (fun b => wr.heap.size ≤ b ∧ b < wS.heap.size) none ([] : List UInt8).length := fun ad e => by cases e
                have capx : ([] : List UInt8).length ≤ 0 ∧ 0 ≤ 9223372036854775807 := ⟨Nat.le_refl _, by decide⟩
                have HX : Hid (partV (3 :: []) = if (LVal.part (.text ⟨#[]⟩) == 3 :: []) = true then some (.text ⟨#[]⟩) else none) := part_again rfl ⟨by show (-9223372036854775808 : Int) ≤ 0; decide, by show (0 : Int) < 9223372036854775808; decide⟩ hH
                have hsx : LVal.sm (.text ⟨#[]⟩) := ⟨hts, Nat.zero_le _⟩
                have vsx : CelE.rep wS Any [.int .i64 3, .bool false, .int .i64 0, .string ⟨#[]⟩, .slice none 0 0] (.text ⟨#[]⟩) := ⟨none, 0, rfl, hbx, At.any _ _, capx.1, capx.2, Nat.le_trans hts (by decide)⟩
                have dA : Below wS.heap.size wS (wS.alloc (.cells #[.int .i64 3, .bool false, .int .i64 0, .string ⟨#[]⟩, .slice none 0 0] 42)) := (Below.refl _ _).alloc (Nat.le_refl _) _
                have hsl : Sl CelE (wS.alloc (.cells #[.int .i64 3, .bool false, .int .i64 0, .string ⟨#[]⟩, .slice none 0 0] 42)) (some ⟨wS.heap.size, 0, none⟩) [.text ⟨#[]⟩] := ⟨(by show 1 * CelE.bytes ≤ _; decide), [.int .i64 3, .bool false, .int .i64 0, .string ⟨#[]⟩, .slice none 0 0], (Reads.newN wS [.int .i64 3, .bool false, .int .i64 0, .string ⟨#[]⟩, .slice none 0 0] 42).more (by simp), At.any _ _, ER.flat_keep dA (ER.flat_one_ vsx)⟩
                have T5 := renc_any [.text ⟨#[]⟩] (some ⟨wS.heap.size, 0, none⟩) 1 _ hsl (fun y hy => by have : y = .text ⟨#[]⟩ := (by simpa using hy); rw [this]; exact hsx) (fun y hy => by have : y = .text ⟨#[]⟩ := (by simpa using hy); rw [this]; exact ⟨rfl, ⟨by show (-9223372036854775808 : Int) ≤ 0; decide, by show (0 : Int) < 9223372036854775808; decide⟩⟩) (by show 1 ≤ _; decide)
                have hel := encL_len (xs := [.text ⟨#[]⟩]) (fun y hy => by have : y = .text ⟨#[]⟩ := (by simpa using hy); rw [this]; exact hsx)
                have hpe := partsL_enc1 hsx
                generalize encL [.text ⟨#[]⟩] = eb at *
                have hel2 : eb.length ≤ 67108864 := by simpa using hel
                clear hel
                have HPE := Lib.hid hpe
                clear hpe
                go_upto_region 24 with fail
                go_wp2_with ((with_reducible refine wpList_load_blk rfl 42 (.tmp 9) rfl g0 ?_ 42 _ _ kS Tryd.underlying42 ?_ Tryd.size_Cell ?_ ?_); rfl; rfl; rfl)
                refine T5.mono ?_
                rintro en w5 ⟨E5, e5, rfl, o5, b5⟩
                have o5b : OwnB (wS.alloc (.cells #[.int .i64 3, .bool false, .int .i64 0, .string ⟨#[]⟩, .slice none 0 0] 42)).heap.size w5 E5 eb e5 := o5
                have bS5 := bS.trans ((dA.trans (b5.mono dA.size)).mono bS.size)
                have T6 := rparts_any E5 eb e5 w5 (o5b.bs (by omega)) o5b.caps (by omega)
                rw [HPE.out] at T6
                have dS5 := dA.trans (b5.mono dA.size)
                go_wp2_with fail
                refine T6.mono ?_
                rintro en w6 ⟨G6, g6, rfl, o6, b6⟩
                have bS6 := bS5.trans (b6.mono bS5.size)
                have dS6 := dS5.trans (b6.mono dS5.size)
                have s6 : Sl BsE w6 G6 [LVal.part (.text ⟨#[]⟩)] := Own.sl o6 (by show 1 * BsE.bytes ≤ _; decide)
                obtain ⟨ad6, D6, c6, rfl, ha6, hc6, hD6, -, -⟩ := BsE.at_ s6 (k := 0) (by show 0 < 1; decide)
                rw [add_zero_] at hc6
                have hc6b : w6.cell? ad6 = some (.slice D6 (LVal.part (.text ⟨#[]⟩)).length c6) := hc6
                clear hc6
                have T7 := eq_b2 D6 (some ad) (LVal.part (.text ⟨#[]⟩)) (3 :: []) c6 1 w6 hD6 (pS.below dS6)
                obtain ⟨eqv, heqv⟩ : ∃ b, (LVal.part (.text ⟨#[]⟩) == 3 :: []) = b := ⟨_, rfl⟩
                rw [heqv] at T7 HX
                clear heqv o6 o5 o5b b5 b6 hsl T5
                have k6 := kS.below dS6 kS.lt
                generalize LVal.part (.text ⟨#[]⟩) = pt at *
                simp only [List.length_singleton]
                go_wp2_with fail
                refine T7.mono ?_
                rintro en w7 ⟨rfl, b7⟩
                have bS7 := bS6.trans (b7.mono bS6.size)
                have dS7 := dS6.trans (b7.mono dS6.size)
                have k7 := k6.below b7 k6.lt
                cases eqv with
                | false =>
                  have HN : Hid (decL l = ([], 3)) := by show _ = _; rw [HD.out, mapV_none HPM.out (HX.out.trans (if_neg (by decide)))]
                  go_wp2_with fail
                  go_ret2
                  rw [HN.out]
                  exact ⟨none, 0, rfl, Own.nil_ CelE _ _ _ _, b1.trans (bS7.mono z1)⟩
                | true =>
                  have HS : Hid (mapV (ps.take (k + 1)) = some (xs ++ [.text ⟨#[]⟩])) := by show _ = _; rw [HTK.out]; exact mapV_snoc HM.out (HX.out.trans (if_pos rfl))
                  have dZ : Below w7.heap.size w7 (w7.alloc (.cells #[.int .i64 3, .bool false, .int .i64 0, .string ⟨#[]⟩, .slice none 0 0] 42)) := (Below.refl _ _).alloc (Nat.le_refl _) _
                  have bZ := bS7.trans (dZ.mono bS7.size)
                  have zS7 := dS7.size
                  have oZ := Own.below (Own.mono (Own.below oS dS7) (S' := fun b => w.heap.size ≤ b ∧ b < w7.heap.size) (fun b hb _ hs => ⟨hs.1, hb⟩)) dZ
                  have vsZ : CelE.rep (w7.alloc (.cells #[.int .i64 3, .bool false, .int .i64 0, .string ⟨#[]⟩, .slice none 0 0] 42)) (fun b => (w.heap.size ≤ b ∧ b < w7.heap.size) ∧ (Value.slice B xs.length d).ownBlock ≠ some b) [.int .i64 3, .bool false, .int .i64 0, .string ⟨#[]⟩, .slice none 0 0] (.text ⟨#[]⟩) := ⟨none, 0, rfl, (hbx.below dS7).below dZ, fun a2 e2 hn2 => (by have h1 := atx a2 e2 hn2; refine ⟨⟨by omega, by omega⟩, fun e3 => ?_⟩; have := (Own.lt o _ e3).2; omega), capx.1, capx.2, Nat.le_trans hts (by decide)⟩
                  go_wp2_with (first | ((with_reducible refine wpList_load_blk rfl 42 (.tmp 9) rfl g0 ?_ 42 _ _ k7 Tryd.underlying42 ?_ Tryd.size_Cell ?_ ?_); rfl; rfl; rfl) | (at_builtin; refine wpList_appE CelE w1.heap.size w1 _ rfl (.tmp 105) (.tmp 107) 42 26 rfl i1 _ Tryd.underlying26 hi1 hy0 hy1 hy2 rfl _ B xs d rfl oZ _ [.int .i64 3, .bool false, .int .i64 0, .string ⟨#[]⟩, .slice none 0 0] (.text ⟨#[]⟩) 1 rfl _ (Reads.newN w7 [.int .i64 3, .bool false, .int .i64 0, .string ⟨#[]⟩, .slice none 0 0] 42) vsZ (by simp only [CelE]; omega) (by simp only [maxLen]; omega) bZ (Nat.le_refl _) bZ.size ?_; intro B9 d9 xs9 w9 H9 o9 b9 g9 t9))
                  go_roundw
                  case rel => exact ⟨k + 1, xs9, B9, d9, by omega, by go_num, rfl, Own.mono o9 (fun b hb _ hs => ⟨hs.1, hb⟩), by rw [H9.out]; exact HS.out, b9⟩
                  case measure => simp [intOf]; omega
              · have hR : Bs wr (some ⟨ad.block, ad.off + 1, none⟩) r := by rw [if_neg hc1] at hcut; exact hcut
                have hc2 : ((c0 : Int) == 1) = false := by rw [beq_eq_false_iff_ne]; omega
                clear hcut
                have hcv : (convert 31 9 (.slice (some ⟨ad.block, ad.off + 1, none⟩) r.length (c0 - 1))).run Tryd.prog (wr.alloc (.cells #[.int .i64 3, .bool false, .int .i64 0, .string ⟨#[]⟩, .slice none 0 0] 42)) = .ok (.string ⟨r.toArray⟩) (wr.alloc (.cells #[.int .i64 3, .bool false, .int .i64 0, .string ⟨#[]⟩, .slice none 0 0] 42)) := conv_any (some ⟨ad.block, ad.off + 1, none⟩) r (c0 - 1) _ (hR.below dW0)
                have hts : (⟨r.toArray⟩ : ByteArray).size ≤ 1048576 := by show r.toArray.size ≤ _; rw [List.size_toArray]; omega
                have hH : ∀ y, partV (3 :: r) = some y → LVal.part (.text ⟨r.toArray⟩) = 3 :: r := fun y _ => rfl
                have kS := Blk.new wr 42 #[.int .i64 3, .bool false, .int .i64 0, .string ⟨r.toArray⟩, .slice none 0 0]
                rw [hg0] at kS
                have dW : Below wr.heap.size wr (wr.alloc (.cells #[.int .i64 3, .bool false, .int .i64 0, .string ⟨r.toArray⟩, .slice none 0 0] 42)) := (Below.refl _ _).alloc (Nat.le_refl _) _
                have bS := br.trans (dW.mono zr)
                have oS := Own.below o dW
                have pS := hD.below dW
                go_upto_region 24 with fail
                generalize (wr.alloc (.cells #[.int .i64 3, .bool false, .int .i64 0, .string ⟨r.toArray⟩, .slice none 0 0] 42)) = wS at *
                have hbx : Bs wS none [] := Bs.nil_ _ _
                have atx : At (fun b => wr.heap.size ≤ b ∧ b < wS.heap.size) none ([] : List UInt8).length := fun ad e => by cases e
                have capx : ([] : List UInt8).length ≤ 0 ∧ 0 ≤ 9223372036854775807 := ⟨Nat.le_refl _, by decide⟩
                have HX : Hid (partV (3 :: r) = if (LVal.part (.text ⟨r.toArray⟩) == 3 :: r) = true then some (.text ⟨r.toArray⟩) else none) := part_again rfl ⟨by show (-9223372036854775808 : Int) ≤ 0; decide, by show (0 : Int) < 9223372036854775808; decide⟩ hH
                have hsx : LVal.sm (.text ⟨r.toArray⟩) := ⟨hts, Nat.zero_le _⟩
                have vsx : CelE.rep wS Any [.int .i64 3, .bool false, .int .i64 0, .string ⟨r.toArray⟩, .slice none 0 0] (.text ⟨r.toArray⟩) := ⟨none, 0, rfl, hbx, At.any _ _, capx.1, capx.2, Nat.le_trans hts (by decide)⟩
                have dA : Below wS.heap.size wS (wS.alloc (.cells #[.int .i64 3, .bool false, .int .i64 0, .string ⟨r.toArray⟩, .slice none 0 0] 42)) := (Below.refl _ _).alloc (Nat.le_refl _) _
                have hsl : Sl CelE (wS.alloc (.cells #[.int .i64 3, .bool false, .int .i64 0, .string ⟨r.toArray⟩, .slice none 0 0] 42)) (some ⟨wS.heap.size, 0, none⟩) [.text ⟨r.toArray⟩] := ⟨(by show 1 * CelE.bytes ≤ _; decide), [.int .i64 3, .bool false, .int .i64 0, .string ⟨r.toArray⟩, .slice none 0 0], (Reads.newN wS [.int .i64 3, .bool false, .int .i64 0, .string ⟨r.toArray⟩, .slice none 0 0] 42).more (by simp), At.any _ _, ER.flat_keep dA (ER.flat_one_ vsx)⟩
                have T5 := renc_any [.text ⟨r.toArray⟩] (some ⟨wS.heap.size, 0, none⟩) 1 _ hsl (fun y hy => by have : y = .text ⟨r.toArray⟩ := (by simpa using hy); rw [this]; exact hsx) (fun y hy => by have : y = .text ⟨r.toArray⟩ := (by simpa using hy); rw [this]; exact ⟨rfl, ⟨by show (-9223372036854775808 : Int) ≤ 0; decide, by show (0 : Int) < 9223372036854775808; decide⟩⟩) (by show 1 ≤ _; decide)
                have hel := encL_len (xs := [.text ⟨r.toArray⟩]) (fun y hy => by have : y = .text ⟨r.toArray⟩ := (by simpa using hy); rw [this]; exact hsx)
                have hpe := partsL_enc1 hsx
                generalize encL [.text ⟨r.toArray⟩] = eb at *
                have hel2 : eb.length ≤ 67108864 := by simpa using hel
                clear hel
                have HPE := Lib.hid hpe
                clear hpe
                go_upto_region 24 with fail
                go_wp2_with ((with_reducible refine wpList_load_blk rfl 42 (.tmp 9) rfl g0 ?_ 42 _ _ kS Tryd.underlying42 ?_ Tryd.size_Cell ?_ ?_); rfl; rfl; rfl)
                refine T5.mono ?_
                rintro en w5 ⟨E5, e5, rfl, o5, b5⟩
                have o5b : OwnB (wS.alloc (.cells #[.int .i64 3, .bool false, .int .i64 0, .string ⟨r.toArray⟩, .slice none 0 0] 42)).heap.size w5 E5 eb e5 := o5
                have bS5 := bS.trans ((dA.trans (b5.mono dA.size)).mono bS.size)
                have T6 := rparts_any E5 eb e5 w5 (o5b.bs (by omega)) o5b.caps (by omega)
                rw [HPE.out] at T6
                have dS5 := dA.trans (b5.mono dA.size)
                go_wp2_with fail
                refine T6.mono ?_
                rintro en w6 ⟨G6, g6, rfl, o6, b6⟩
                have bS6 := bS5.trans (b6.mono bS5.size)
                have dS6 := dS5.trans (b6.mono dS5.size)
                have s6 : Sl BsE w6 G6 [LVal.part (.text ⟨r.toArray⟩)] := Own.sl o6 (by show 1 * BsE.bytes ≤ _; decide)
                obtain ⟨ad6, D6, c6, rfl, ha6, hc6, hD6, -, -⟩ := BsE.at_ s6 (k := 0) (by show 0 < 1; decide)
                rw [add_zero_] at hc6
                have hc6b : w6.cell? ad6 = some (.slice D6 (LVal.part (.text ⟨r.toArray⟩)).length c6) := hc6
                clear hc6
                have T7 := eq_b2 D6 (some ad) (LVal.part (.text ⟨r.toArray⟩)) (3 :: r) c6 c0 w6 hD6 (pS.below dS6)
                obtain ⟨eqv, heqv⟩ : ∃ b, (LVal.part (.text ⟨r.toArray⟩) == 3 :: r) = b := ⟨_, rfl⟩
                rw [heqv] at T7 HX
                clear heqv o6 o5 o5b b5 b6 hsl T5
                have k6 := kS.below dS6 kS.lt
                generalize LVal.part (.text ⟨r.toArray⟩) = pt at *
                simp only [List.length_singleton]
                go_wp2_with fail
                refine T7.mono ?_
                rintro en w7 ⟨rfl, b7⟩
                have bS7 := bS6.trans (b7.mono bS6.size)
                have dS7 := dS6.trans (b7.mono dS6.size)
                have k7 := k6.below b7 k6.lt
                cases eqv with
                | false =>
                  have HN : Hid (decL l = ([], 3)) := by show _ = _; rw [HD.out, mapV_none HPM.out (HX.out.trans (if_neg (by decide)))]
                  go_wp2_with fail
                  go_ret2
                  rw [HN.out]
                  exact ⟨none, 0, rfl, Own.nil_ CelE _ _ _ _, b1.trans (bS7.mono z1)⟩
                | true =>
                  have HS : Hid (mapV (ps.take (k + 1)) = some (xs ++ [.text ⟨r.toArray⟩])) := by show _ = _; rw [HTK.out]; exact mapV_snoc HM.out (HX.out.trans (if_pos rfl))
                  have dZ : Below w7.heap.size w7 (w7.alloc (.cells #[.int .i64 3, .bool false, .int .i64 0, .string ⟨r.toArray⟩, .slice none 0 0] 42)) := (Below.refl _ _).alloc (Nat.le_refl _) _
                  have bZ := bS7.trans (dZ.mono bS7.size)
                  have zS7 := dS7.size
                  have oZ := Own.below (Own.mono (Own.below oS dS7) (S' := fun b => w.heap.size ≤ b ∧ b < w7.heap.size) (fun b hb _ hs => ⟨hs.1, hb⟩)) dZ
                  have vsZ : CelE.rep (w7.alloc (.cells #[.int .i64 3, .bool false, .int .i64 0, .string ⟨r.toArray⟩, .slice none 0 0] 42)) (fun b => (w.heap.size ≤ b ∧ b < w7.heap.size) ∧ (Value.slice B xs.length d).ownBlock ≠ some b) [.int .i64 3, .bool false, .int .i64 0, .string ⟨r.toArray⟩, .slice none 0 0] (.text ⟨r.toArray⟩) := ⟨none, 0, rfl, (hbx.below dS7).below dZ, fun a2 e2 hn2 => (by have h1 := atx a2 e2 hn2; refine ⟨⟨by omega, by omega⟩, fun e3 => ?_⟩; have := (Own.lt o _ e3).2; omega), capx.1, capx.2, Nat.le_trans hts (by decide)⟩
                  go_wp2_with (first | ((with_reducible refine wpList_load_blk rfl 42 (.tmp 9) rfl g0 ?_ 42 _ _ k7 Tryd.underlying42 ?_ Tryd.size_Cell ?_ ?_); rfl; rfl; rfl) | (at_builtin; refine wpList_appE CelE w1.heap.size w1 _ rfl (.tmp 105) (.tmp 107) 42 26 rfl i1 _ Tryd.underlying26 hi1 hy0 hy1 hy2 rfl _ B xs d rfl oZ _ [.int .i64 3, .bool false, .int .i64 0, .string ⟨r.toArray⟩, .slice none 0 0] (.text ⟨r.toArray⟩) 1 rfl _ (Reads.newN w7 [.int .i64 3, .bool false, .int .i64 0, .string ⟨r.toArray⟩, .slice none 0 0] 42) vsZ (by simp only [CelE]; omega) (by simp only [maxLen]; omega) bZ (Nat.le_refl _) bZ.size ?_; intro B9 d9 xs9 w9 H9 o9 b9 g9 t9))
                  go_roundw
                  case rel => exact ⟨k + 1, xs9, B9, d9, by omega, by go_num, rfl, Own.mono o9 (fun b hb _ hs => ⟨hs.1, hb⟩), by rw [H9.out]; exact HS.out, b9⟩
                  case measure => simp [intOf]; omega
            · have hkb : kb = 4 := UInt8.toNat_inj.1 (by rw [hkz]; rfl)
              subst hkb
              clear hkz
              have hcut := Bs.cut hD (k := 1) (by simp) (show (4 :: r).length ≤ c0 from hcp.1)
              have hdr : (4 :: r).drop 1 = r := rfl
              rw [hdr] at hcut
              clear hdr
              have hrl : r.length ≤ 1048575 := by simp only [List.length_cons] at hpl; omega
              have hrc : r.length + 1 ≤ c0 := by have := hcp.1; simp only [List.length_cons] at this; omega
              have hcc : c0 ≤ 9223372036854775807 := hcp.2
              have dW0 : Below wr.heap.size wr (wr.alloc (.cells #[.int .i64 4, .bool false, .int .i64 0, .string ⟨#[]⟩, .slice none 0 0] 42)) := (Below.refl _ _).alloc (Nat.le_refl _) _
              by_cases hc1 : c0 = 1
              · subst hc1
                obtain rfl : r = [] := List.length_eq_zero_iff.1 (by omega)
                have hR : Bs wr (some ad) [] := Bs.nil_ _ _
                clear hcut
                have TC := copy_any (some ad) [] 0 (wr.alloc (.cells #[.int .i64 4, .bool false, .int .i64 0, .string ⟨#[]⟩, .slice none 0 0] 42)) (hR.below dW0)
                have kA := Blk.new wr 42 #[.int .i64 4, .bool false, .int .i64 0, .string ⟨#[]⟩, .slice none 0 0]
                rw [hg0] at kA
                go_wp2_with fail
                refine TC.mono ?_
                rintro en w3 ⟨X, cx, rfl, oX, bX⟩
                have oX2 : OwnB (wr.alloc (.cells #[.int .i64 4, .bool false, .int .i64 0, .string ⟨#[]⟩, .slice none 0 0] 42)).heap.size w3 X [] cx := oX
                have k3 := kA.below bX kA.lt
                have q4 : w3.cell? ⟨g0, 4, none⟩ = some (.slice none 0 0) := k3.cell 4
                have f4 := k3.frozen 4
                go_upto_region 24 with fail
                clear q4 f4
                have kS : Blk _ _ _ #[.int .i64 4, .bool false, .int .i64 0, .string ⟨#[]⟩, .slice X 0 cx] := k3.set_ 4 (.slice X 0 cx)
                have dW : Below wr.heap.size wr (w3.setCell ⟨g0, 4, none⟩ (.slice X 0 cx)) := (dW0.trans (bX.mono dW0.size)).setCell (p := ⟨g0, 4, none⟩) (by show wr.heap.size ≤ g0; omega) _
                have bS := br.trans (dW.mono zr)
                have oS := Own.below o dW
                have pS := hD.below dW
                have hgz : g0 < (wr.alloc (.cells #[.int .i64 4, .bool false, .int .i64 0, .string ⟨#[]⟩, .slice none 0 0] 42)).heap.size := kA.lt
                have oX3 : OwnB (wr.alloc (.cells #[.int .i64 4, .bool false, .int .i64 0, .string ⟨#[]⟩, .slice none 0 0] 42)).heap.size (w3.setCell ⟨g0, 4, none⟩ (.slice X 0 cx)) X [] cx := OwnB.kept (row := some g0) oX2 (only_setCell (World.grownBy.refl w3 _) (.inl rfl) _) (fun g e h => by have h1 := (OwnB.lt oX2 _ e).1; have h2 := Option.some.inj h; omega)
                have hbx := oX3.bs (by simp only [List.length_nil]; omega)
                have zwa := dW0.size
                generalize w3.setCell ⟨g0, 4, none⟩ (.slice X 0 cx) = wS at *
                have atx : At (fun b => wr.heap.size ≤ b ∧ b < wS.heap.size) X ([] : List UInt8).length := fun ad e hn => ⟨Nat.le_trans zwa (OwnB.at_ oX3 ad e hn).1, (OwnB.at_ oX3 ad e hn).2⟩
                have capx := oX3.caps
                clear oX oX2 oX3 bX TC
                have hH : ∀ y, partV (4 :: []) = some y → LVal.part (.bytes []) = 4 :: [] := fun y _ => rfl
                have HX : Hid (partV (4 :: []) = if (LVal.part (.bytes []) == 4 :: []) = true then some (.bytes []) else none) := part_again rfl ⟨by show (-9223372036854775808 : Int) ≤ 0; decide, by show (0 : Int) < 9223372036854775808; decide⟩ hH
                have hsx : LVal.sm (.bytes []) := ⟨Nat.zero_le _, (by show ([] : List UInt8).length ≤ 1048576; first | omega | decide)⟩
                have vsx : CelE.rep wS Any [.int .i64 4, .bool false, .int .i64 0, .string ⟨#[]⟩, .slice X 0 cx] (.bytes []) := ⟨X, cx, rfl, hbx, At.any _ _, capx.1, capx.2, Nat.zero_le _⟩
                have dA : Below wS.heap.size wS (wS.alloc (.cells #[.int .i64 4, .bool false, .int .i64 0, .string ⟨#[]⟩, .slice X 0 cx] 42)) := (Below.refl _ _).alloc (Nat.le_refl _) _
                have hsl : Sl CelE (wS.alloc (.cells #[.int .i64 4, .bool false, .int .i64 0, .string ⟨#[]⟩, .slice X 0 cx] 42)) (some ⟨wS.heap.size, 0, none⟩) [.bytes []] := ⟨(by show 1 * CelE.bytes ≤ _; decide), [.int .i64 4, .bool false, .int .i64 0, .string ⟨#[]⟩, .slice X 0 cx], (Reads.newN wS [.int .i64 4, .bool false, .int .i64 0, .string ⟨#[]⟩, .slice X 0 cx] 42).more (by simp), At.any _ _, ER.flat_keep dA (ER.flat_one_ vsx)⟩
                have T5 := renc_any [.bytes []] (some ⟨wS.heap.size, 0, none⟩) 1 _ hsl (fun y hy => by have : y = .bytes [] := (by simpa using hy); rw [this]; exact hsx) (fun y hy => by have : y = .bytes [] := (by simpa using hy); rw [this]; exact ⟨rfl, ⟨by show (-9223372036854775808 : Int) ≤ 0; decide, by show (0 : Int) < 9223372036854775808; decide⟩⟩) (by show 1 ≤ _; decide)
                have hel := encL_len (xs := [.bytes []]) (fun y hy => by have : y = .bytes [] := (by simpa using hy); rw [this]; exact hsx)
                have hpe := partsL_enc1 hsx
                generalize encL [.bytes []] = eb at *
                have hel2 : eb.length ≤ 67108864 := by simpa using hel
                clear hel
                have HPE := Lib.hid hpe
                clear hpe
                go_upto_region 24 with fail
                go_wp2_with ((with_reducible refine wpList_load_blk rfl 42 (.tmp 9) rfl g0 ?_ 42 _ _ kS Tryd.underlying42 ?_ Tryd.size_Cell ?_ ?_); rfl; rfl; rfl)
                refine T5.mono ?_
                rintro en w5 ⟨E5, e5, rfl, o5, b5⟩
                have o5b : OwnB (wS.alloc (.cells #[.int .i64 4, .bool false, .int .i64 0, .string ⟨#[]⟩, .slice X 0 cx] 42)).heap.size w5 E5 eb e5 := o5
                have bS5 := bS.trans ((dA.trans (b5.mono dA.size)).mono bS.size)
                have T6 := rparts_any E5 eb e5 w5 (o5b.bs (by omega)) o5b.caps (by omega)
                rw [HPE.out] at T6
                have dS5 := dA.trans (b5.mono dA.size)
                go_wp2_with fail
                refine T6.mono ?_
                rintro en w6 ⟨G6, g6, rfl, o6, b6⟩
                have bS6 := bS5.trans (b6.mono bS5.size)
                have dS6 := dS5.trans (b6.mono dS5.size)
                have s6 : Sl BsE w6 G6 [LVal.part (.bytes [])] := Own.sl o6 (by show 1 * BsE.bytes ≤ _; decide)
                obtain ⟨ad6, D6, c6, rfl, ha6, hc6, hD6, -, -⟩ := BsE.at_ s6 (k := 0) (by show 0 < 1; decide)
                rw [add_zero_] at hc6
                have hc6b : w6.cell? ad6 = some (.slice D6 (LVal.part (.bytes [])).length c6) := hc6
                clear hc6
                have T7 := eq_b2 D6 (some ad) (LVal.part (.bytes [])) (4 :: []) c6 1 w6 hD6 (pS.below dS6)
                obtain ⟨eqv, heqv⟩ : ∃ b, (LVal.part (.bytes []) == 4 :: []) = b := ⟨_, rfl⟩
                rw [heqv] at T7 HX
                clear heqv o6 o5 o5b b5 b6 hsl T5
                have k6 := kS.below dS6 kS.lt
                generalize LVal.part (.bytes []) = pt at *
                simp only [List.length_singleton]
                go_wp2_with fail
                refine T7.mono ?_
                rintro en w7 ⟨rfl, b7⟩
                have bS7 := bS6.trans (b7.mono bS6.size)
                have dS7 := dS6.trans (b7.mono dS6.size)
                have k7 := k6.below b7 k6.lt
                cases eqv with
                | false =>
                  have HN : Hid (decL l = ([], 3)) := by show _ = _; rw [HD.out, mapV_none HPM.out (HX.out.trans (if_neg (by decide)))]
                  go_wp2_with fail
                  go_ret2
                  rw [HN.out]
                  exact ⟨none, 0, rfl, Own.nil_ CelE _ _ _ _, b1.trans (bS7.mono z1)⟩
                | true =>
                  have HS : Hid (mapV (ps.take (k + 1)) = some (xs ++ [.bytes []])) := by show _ = _; rw [HTK.out]; exact mapV_snoc HM.out (HX.out.trans (if_pos rfl))
                  have dZ : Below w7.heap.size w7 (w7.alloc (.cells #[.int .i64 4, .bool false, .int .i64 0, .string ⟨#[]⟩, .slice X 0 cx] 42)) := (Below.refl _ _).alloc (Nat.le_refl _) _
                  have bZ := bS7.trans (dZ.mono bS7.size)
                  have zS7 := dS7.size
                  have oZ := Own.below (Own.mono (Own.below oS dS7) (S' := fun b => w.heap.size ≤ b ∧ b < w7.heap.size) (fun b hb _ hs => ⟨hs.1, hb⟩)) dZ
                  have vsZ : CelE.rep (w7.alloc (.cells #[.int .i64 4, .bool false, .int .i64 0, .string ⟨#[]⟩, .slice X 0 cx] 42)) (fun b => (w.heap.size ≤ b ∧ b < w7.heap.size) ∧ (Value.slice B xs.length d).ownBlock ≠ some b) [.int .i64 4, .bool false, .int .i64 0, .string ⟨#[]⟩, .slice X 0 cx] (.bytes []) := ⟨X, cx, rfl, (hbx.below dS7).below dZ, fun a2 e2 hn2 => (by have h1 := atx a2 e2 hn2; refine ⟨⟨by omega, by omega⟩, fun e3 => ?_⟩; have := (Own.lt o _ e3).2; omega), capx.1, capx.2, Nat.zero_le _⟩
                  go_wp2_with (first | ((with_reducible refine wpList_load_blk rfl 42 (.tmp 9) rfl g0 ?_ 42 _ _ k7 Tryd.underlying42 ?_ Tryd.size_Cell ?_ ?_); rfl; rfl; rfl) | (at_builtin; refine wpList_appE CelE w1.heap.size w1 _ rfl (.tmp 105) (.tmp 107) 42 26 rfl i1 _ Tryd.underlying26 hi1 hy0 hy1 hy2 rfl _ B xs d rfl oZ _ [.int .i64 4, .bool false, .int .i64 0, .string ⟨#[]⟩, .slice X 0 cx] (.bytes []) 1 rfl _ (Reads.newN w7 [.int .i64 4, .bool false, .int .i64 0, .string ⟨#[]⟩, .slice X 0 cx] 42) vsZ (by simp only [CelE]; omega) (by simp only [maxLen]; omega) bZ (Nat.le_refl _) bZ.size ?_; intro B9 d9 xs9 w9 H9 o9 b9 g9 t9))
                  go_roundw
                  case rel => exact ⟨k + 1, xs9, B9, d9, by omega, by go_num, rfl, Own.mono o9 (fun b hb _ hs => ⟨hs.1, hb⟩), by rw [H9.out]; exact HS.out, b9⟩
                  case measure => simp [intOf]; omega
              · have hR : Bs wr (some ⟨ad.block, ad.off + 1, none⟩) r := by rw [if_neg hc1] at hcut; exact hcut
                have hc2 : ((c0 : Int) == 1) = false := by rw [beq_eq_false_iff_ne]; omega
                clear hcut
                have TC := copy_any (some ⟨ad.block, ad.off + 1, none⟩) r (c0 - 1) (wr.alloc (.cells #[.int .i64 4, .bool false, .int .i64 0, .string ⟨#[]⟩, .slice none 0 0] 42)) (hR.below dW0)
                have kA := Blk.new wr 42 #[.int .i64 4, .bool false, .int .i64 0, .string ⟨#[]⟩, .slice none 0 0]
                rw [hg0] at kA
                go_wp2_with fail
                refine TC.mono ?_
                rintro en w3 ⟨X, cx, rfl, oX, bX⟩
                have oX2 : OwnB (wr.alloc (.cells #[.int .i64 4, .bool false, .int .i64 0, .string ⟨#[]⟩, .slice none 0 0] 42)).heap.size w3 X r cx := oX
                have k3 := kA.below bX kA.lt
                have q4 : w3.cell? ⟨g0, 4, none⟩ = some (.slice none 0 0) := k3.cell 4
                have f4 := k3.frozen 4
                go_upto_region 24 with fail
                clear q4 f4
                have kS : Blk _ _ _ #[.int .i64 4, .bool false, .int .i64 0, .string ⟨#[]⟩, .slice X r.length cx] := k3.set_ 4 (.slice X r.length cx)
                have dW : Below wr.heap.size wr (w3.setCell ⟨g0, 4, none⟩ (.slice X r.length cx)) := (dW0.trans (bX.mono dW0.size)).setCell (p := ⟨g0, 4, none⟩) (by show wr.heap.size ≤ g0; omega) _
                have bS := br.trans (dW.mono zr)
                have oS := Own.below o dW
                have pS := hD.below dW
                have hgz : g0 < (wr.alloc (.cells #[.int .i64 4, .bool false, .int .i64 0, .string ⟨#[]⟩, .slice none 0 0] 42)).heap.size := kA.lt
                have oX3 : OwnB (wr.alloc (.cells #[.int .i64 4, .bool false, .int .i64 0, .string ⟨#[]⟩, .slice none 0 0] 42)).heap.size (w3.setCell ⟨g0, 4, none⟩ (.slice X r.length cx)) X r cx := OwnB.kept (row := some g0) oX2 (only_setCell (World.grownBy.refl w3 _) (.inl rfl) _) (fun g e h => by have h1 := (OwnB.lt oX2 _ e).1; have h2 := Option.some.inj h; omega)
                have hbx := oX3.bs (by omega)
                have zwa := dW0.size
                generalize w3.setCell ⟨g0, 4, none⟩ (.slice X r.length cx) = wS at *
                have atx : At (fun b => wr.heap.size ≤ b ∧ b < wS.heap.size) X (r : List UInt8).length := fun ad e hn => ⟨Nat.le_trans zwa (OwnB.at_ oX3 ad e hn).1, (OwnB.at_ oX3 ad e hn).2⟩
                have capx := oX3.caps
                clear oX oX2 oX3 bX TC
                have hH : ∀ y, partV (4 :: r) = some y → LVal.part (.bytes r) = 4 :: r := fun y _ => rfl
                have HX : Hid (partV (4 :: r) = if (LVal.part (.bytes r) == 4 :: r) = true then some (.bytes r) else none) := part_again rfl ⟨by show (-9223372036854775808 : Int) ≤ 0; decide, by show (0 : Int) < 9223372036854775808; decide⟩ hH
                have hsx : LVal.sm (.bytes r) := ⟨Nat.zero_le _, (by show r.length ≤ 1048576; first | omega | decide)⟩
                have vsx : CelE.rep wS Any [.int .i64 4, .bool false, .int .i64 0, .string ⟨#[]⟩, .slice X r.length cx] (.bytes r) := ⟨X, cx, rfl, hbx, At.any _ _, capx.1, capx.2, Nat.zero_le _⟩
                have dA : Below wS.heap.size wS (wS.alloc (.cells #[.int .i64 4, .bool false, .int .i64 0, .string ⟨#[]⟩, .slice X r.length cx] 42)) := (Below.refl _ _).alloc (Nat.le_refl _) _
                have hsl : Sl CelE (wS.alloc (.cells #[.int .i64 4, .bool false, .int .i64 0, .string ⟨#[]⟩, .slice X r.length cx] 42)) (some ⟨wS.heap.size, 0, none⟩) [.bytes r] := ⟨(by show 1 * CelE.bytes ≤ _; decide), [.int .i64 4, .bool false, .int .i64 0, .string ⟨#[]⟩, .slice X r.length cx], (Reads.newN wS [.int .i64 4, .bool false, .int .i64 0, .string ⟨#[]⟩, .slice X r.length cx] 42).more (by simp), At.any _ _, ER.flat_keep dA (ER.flat_one_ vsx)⟩
                have T5 := renc_any [.bytes r] (some ⟨wS.heap.size, 0, none⟩) 1 _ hsl (fun y hy => by have : y = .bytes r := (by simpa using hy); rw [this]; exact hsx) (fun y hy => by have : y = .bytes r := (by simpa using hy); rw [this]; exact ⟨rfl, ⟨by show (-9223372036854775808 : Int) ≤ 0; decide, by show (0 : Int) < 9223372036854775808; decide⟩⟩) (by show 1 ≤ _; decide)
                have hel := encL_len (xs := [.bytes r]) (fun y hy => by have : y = .bytes r := (by simpa using hy); rw [this]; exact hsx)
                have hpe := partsL_enc1 hsx
                generalize encL [.bytes r] = eb at *
                have hel2 : eb.length ≤ 67108864 := by simpa using hel
                clear hel
                have HPE := Lib.hid hpe
                clear hpe
                go_upto_region 24 with fail
                go_wp2_with ((with_reducible refine wpList_load_blk rfl 42 (.tmp 9) rfl g0 ?_ 42 _ _ kS Tryd.underlying42 ?_ Tryd.size_Cell ?_ ?_); rfl; rfl; rfl)
                refine T5.mono ?_
                rintro en w5 ⟨E5, e5, rfl, o5, b5⟩
                have o5b : OwnB (wS.alloc (.cells #[.int .i64 4, .bool false, .int .i64 0, .string ⟨#[]⟩, .slice X r.length cx] 42)).heap.size w5 E5 eb e5 := o5
                have bS5 := bS.trans ((dA.trans (b5.mono dA.size)).mono bS.size)
                have T6 := rparts_any E5 eb e5 w5 (o5b.bs (by omega)) o5b.caps (by omega)
                rw [HPE.out] at T6
                have dS5 := dA.trans (b5.mono dA.size)
                go_wp2_with fail
                refine T6.mono ?_
                rintro en w6 ⟨G6, g6, rfl, o6, b6⟩
                have bS6 := bS5.trans (b6.mono bS5.size)
                have dS6 := dS5.trans (b6.mono dS5.size)
                have s6 : Sl BsE w6 G6 [LVal.part (.bytes r)] := Own.sl o6 (by show 1 * BsE.bytes ≤ _; decide)
                obtain ⟨ad6, D6, c6, rfl, ha6, hc6, hD6, -, -⟩ := BsE.at_ s6 (k := 0) (by show 0 < 1; decide)
                rw [add_zero_] at hc6
                have hc6b : w6.cell? ad6 = some (.slice D6 (LVal.part (.bytes r)).length c6) := hc6
                clear hc6
                have T7 := eq_b2 D6 (some ad) (LVal.part (.bytes r)) (4 :: r) c6 c0 w6 hD6 (pS.below dS6)
                obtain ⟨eqv, heqv⟩ : ∃ b, (LVal.part (.bytes r) == 4 :: r) = b := ⟨_, rfl⟩
                rw [heqv] at T7 HX
                clear heqv o6 o5 o5b b5 b6 hsl T5
                have k6 := kS.below dS6 kS.lt
                generalize LVal.part (.bytes r) = pt at *
                simp only [List.length_singleton]
                go_wp2_with fail
                refine T7.mono ?_
                rintro en w7 ⟨rfl, b7⟩
                have bS7 := bS6.trans (b7.mono bS6.size)
                have dS7 := dS6.trans (b7.mono dS6.size)
                have k7 := k6.below b7 k6.lt
                cases eqv with
                | false =>
                  have HN : Hid (decL l = ([], 3)) := by show _ = _; rw [HD.out, mapV_none HPM.out (HX.out.trans (if_neg (by decide)))]
                  go_wp2_with fail
                  go_ret2
                  rw [HN.out]
                  exact ⟨none, 0, rfl, Own.nil_ CelE _ _ _ _, b1.trans (bS7.mono z1)⟩
                | true =>
                  have HS : Hid (mapV (ps.take (k + 1)) = some (xs ++ [.bytes r])) := by show _ = _; rw [HTK.out]; exact mapV_snoc HM.out (HX.out.trans (if_pos rfl))
                  have dZ : Below w7.heap.size w7 (w7.alloc (.cells #[.int .i64 4, .bool false, .int .i64 0, .string ⟨#[]⟩, .slice X r.length cx] 42)) := (Below.refl _ _).alloc (Nat.le_refl _) _
                  have bZ := bS7.trans (dZ.mono bS7.size)
                  have zS7 := dS7.size
                  have oZ := Own.below (Own.mono (Own.below oS dS7) (S' := fun b => w.heap.size ≤ b ∧ b < w7.heap.size) (fun b hb _ hs => ⟨hs.1, hb⟩)) dZ
                  have vsZ : CelE.rep (w7.alloc (.cells #[.int .i64 4, .bool false, .int .i64 0, .string ⟨#[]⟩, .slice X r.length cx] 42)) (fun b => (w.heap.size ≤ b ∧ b < w7.heap.size) ∧ (Value.slice B xs.length d).ownBlock ≠ some b) [.int .i64 4, .bool false, .int .i64 0, .string ⟨#[]⟩, .slice X r.length cx] (.bytes r) := ⟨X, cx, rfl, (hbx.below dS7).below dZ, fun a2 e2 hn2 => (by have h1 := atx a2 e2 hn2; refine ⟨⟨by omega, by omega⟩, fun e3 => ?_⟩; have := (Own.lt o _ e3).2; omega), capx.1, capx.2, Nat.zero_le _⟩
                  go_wp2_with (first | ((with_reducible refine wpList_load_blk rfl 42 (.tmp 9) rfl g0 ?_ 42 _ _ k7 Tryd.underlying42 ?_ Tryd.size_Cell ?_ ?_); rfl; rfl; rfl) | (at_builtin; refine wpList_appE CelE w1.heap.size w1 _ rfl (.tmp 105) (.tmp 107) 42 26 rfl i1 _ Tryd.underlying26 hi1 hy0 hy1 hy2 rfl _ B xs d rfl oZ _ [.int .i64 4, .bool false, .int .i64 0, .string ⟨#[]⟩, .slice X r.length cx] (.bytes r) 1 rfl _ (Reads.newN w7 [.int .i64 4, .bool false, .int .i64 0, .string ⟨#[]⟩, .slice X r.length cx] 42) vsZ (by simp only [CelE]; omega) (by simp only [maxLen]; omega) bZ (Nat.le_refl _) bZ.size ?_; intro B9 d9 xs9 w9 H9 o9 b9 g9 t9))
                  go_roundw
                  case rel => exact ⟨k + 1, xs9, B9, d9, by omega, by go_num, rfl, Own.mono o9 (fun b hb _ hs => ⟨hs.1, hb⟩), by rw [H9.out]; exact HS.out, b9⟩
                  case measure => simp [intOf]; omega
      · obtain rfl : k = ps.length := by omega
        have HN : Hid (decL l = (xs, 0)) := by
          show _ = _
          have h := HM.out
          rw [List.take_length] at h
          rw [HD.out, h]
        go_wp2_with fail
        go_ret2
        rw [HN.out]
        exact ⟨B, d, rfl, Own.base o z1, b1.trans (br.mono z1)⟩
  · have d0_ : (e != 0) = true := by rw [bne_iff_ne]; exact he
    have HN : Hid (decL l = ([], e)) := by show _ = _; rw [HDL.out, if_pos he]
    clear he HDL
    go_wp2_with fail
    go_ret2
    rw [HN.out]
    exact ⟨none, 0, rfl, Own.nil_ CelE _ _ _ _, b1⟩
end Go.Proofs.YtfededjcadmpbaaDoor
