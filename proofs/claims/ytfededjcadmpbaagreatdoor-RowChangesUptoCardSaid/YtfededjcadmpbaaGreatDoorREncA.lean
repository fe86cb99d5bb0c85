/- Numbers and lists as bytes, the reference's: caissonref01.PutU, Frame. A row of cells as bytes: caissonref06.Encode. (Printed by wip/gen_enc.py.) -/
import Derived.Test.YtfededjcadmpbaaGreatDoorEncA
namespace Go.Proofs.YtfededjcadmpbaaGreatDoor
open Go.RowKit

set_option maxRecDepth 100000 in
set_option maxHeartbeats 2000000 in
theorem rputu_any (n : Nat) (hn : n ≤ 35184372088832) (w : World) : Calls Tryz.prog 87 #[.int .u64 (n : Int)] w (RetBs (putU n) w) := by
  go_enter Tryz.func87, Tryz.ntmps87
  go_wp2_with fail
  go_loopw [0, 3] (fun z o wr => ∃ (k : Nat) (acc : List UInt8) (B : Option Addr) (d : Nat), z = .int .u64 (k : Int) ∧ o = .slice B acc.length d ∧ OwnB w.heap.size wr B acc d ∧ acc ++ putU k = putU n ∧ acc.length + k ≤ n ∧ Below w.heap.size w wr) (fun z _ _ => (intOf z).toNat)
  case atStart => exact ⟨n, [], _, _, rfl, rfl, OwnB.nil_ _ _, rfl, by simp, Below.refl _ _⟩
  case round =>
    obtain ⟨k, acc, B, d, rfl, rfl, o, ha, hal, br⟩ := hrel
    have HA := Lib.hid ha
    clear ha
    have zr := br.size
    by_cases hlt : k < 128
    · have z1 : ¬ (127 : Int) < (k : Int) := by omega
      have HE : Hid (acc ++ [UInt8.ofNat k] = putU n) := by show _ = _; rw [← HA.out, putU_lt hlt]
      have hl := Bs.lit wr [UInt8.ofNat k] 5 (by simp)
      rw [show ([UInt8.ofNat k] : List UInt8).map bval = [.int .u8 (k : Int)] from by simp only [List.map_cons, List.map_nil, bval, ofNat8 (show k < 256 by omega)]] at hl
      have dX : Below wr.heap.size wr (wr.alloc (.cells #[.int .u8 (k : Int)] 5)) := (Below.refl _ _).alloc (Nat.le_refl _) _
      have bX := br.trans (dX.mono zr)
      have oX := o.below dX
      clear HA
      go_wp2_with (at_builtin; refine wpList_app w.heap.size w _ rfl (.tmp 15) (.tmp 18) rfl B acc d rfl oX _ [UInt8.ofNat k] 1 rfl hl (by rw [List.length_singleton]; omega) bX (Nat.le_refl _) bX.size ?_; intro B1 d1 acc1 w1 H1 o1 b1 g1 t1)
      go_ret
      rw [← HE.out, ← H1.out]
      exact ret_own o1 b1
    · have z1 : (127 : Int) < (k : Int) := by omega
      have HE : Hid ((acc ++ [UInt8.ofNat (k % 128 + 128)]) ++ putU (k / 128) = putU n) := by show _ = _; rw [← HA.out, putU_ge hlt]; simp
      have hl := Bs.lit wr [UInt8.ofNat (k % 128 + 128)] 5 (by simp)
      rw [show ([UInt8.ofNat (k % 128 + 128)] : List UInt8).map bval = [.int .u8 ((k % 128 + 128 : Nat) : Int)] from by simp only [List.map_cons, List.map_nil, bval, ofNat8 (show k % 128 + 128 < 256 by omega)]] at hl
      rw [show ((k % 128 + 128 : Nat) : Int) = (k : Int) % 128 + 128 from by omega] at hl
      have dX : Below wr.heap.size wr (wr.alloc (.cells #[.int .u8 ((k : Int) % 128 + 128)] 5)) := (Below.refl _ _).alloc (Nat.le_refl _) _
      have bX := br.trans (dX.mono zr)
      have oX := o.below dX
      clear HA
      go_wp2_with (at_builtin; refine wpList_app w.heap.size w _ rfl (.tmp 6) (.tmp 11) rfl B acc d rfl oX _ [UInt8.ofNat (k % 128 + 128)] 1 rfl hl (by rw [List.length_singleton]; omega) bX (Nat.le_refl _) bX.size ?_; intro B1 d1 acc1 w1 H1 o1 b1 g1 t1)
      go_roundw
      case rel => exact ⟨k / 128, acc1, B1, d1, by simp, rfl, o1, by rw [H1.out]; exact HE.out, by rw [H1.out, List.length_append, List.length_singleton]; omega, b1⟩
      case measure => simp [intOf]; omega
set_option maxRecDepth 100000 in
set_option maxHeartbeats 2000000 in
theorem rframe_any (ls : List (List UInt8)) (A : Option Addr) (c : Nat) (w : World) (hA : Sl BsE w A ls) (hsm : ∀ l ∈ ls, l.length ≤ 16777216) (hlen : ls.length ≤ 4096) : Calls Tryz.prog 68 #[.slice A ls.length c] w (RetBs (frameL ls) w) := by
  have HSM := Lib.hid hsm
  clear hsm
  go_enter Tryz.func68, Tryz.ntmps68
  go_wp2_with fail
  go_loopw [3, 4] (fun o i wr => ∃ (k : Nat) (acc : List UInt8) (B : Option Addr) (d : Nat), k ≤ ls.length ∧ i = .int .i64 (k : Int) ∧ o = .slice B acc.length d ∧ OwnB w.heap.size wr B acc d ∧ acc ++ frameL (ls.drop k) = frameL ls ∧ acc.length ≤ 67108864 * k ∧ Below w.heap.size w wr) (fun _ i _ => ls.length - (intOf i).toNat)
  case atStart => exact ⟨0, [], _, _, Nat.zero_le _, rfl, rfl, OwnB.nil_ _ _, rfl, by simp, Below.refl _ _⟩
  case round =>
    obtain ⟨k, acc, B, d, hk, rfl, rfl, o, ha, hal, br⟩ := hrel
    have HA := Lib.hid ha
    clear ha
    have zr := br.size
    by_cases hlt : k < ls.length
    · have hlt' : (k : Int) < (ls.length : Int) := by omega
      have HD := Lib.hid (frameL_drop hlt)
      have hll : ls[k].length ≤ 16777216 := HSM.out _ (List.getElem_mem hlt)
      obtain ⟨ad, D, c0, rfl, had0, hc0, hD0, hat, _, _⟩ := BsE.at_ hA.old hlt
      have hc := (br.cell (p := ad.add k) (by rw [block_of_add]; exact had0)).trans hc0
      have hD := hD0.below br
      have HE : Hid ((acc ++ putU ls[k].length) ++ ls[k] ++ frameL (ls.drop (k + 1)) = frameL ls) := by show _ = _; rw [← HA.out, HD.out]; simp only [List.append_assoc]
      generalize ls[k] = l at *
      clear HA HD
      go_wp2_with fail
      refine (rputu_any l.length (by omega) wr).mono ?_
      rintro en w2 ⟨A2, c2, rfl, o2, b2⟩
      have hpl := putU_len l.length (by omega)
      have b02 := br.trans (b2.mono zr)
      have oX := o.below b2
      have hD2 := hD.below b2
      have hP : Bs w2 A2 (putU l.length) := Bs.of_own o2 (by omega)
      have hnr : At (fun b => (Value.slice B acc.length d).ownBlock ≠ some b) D l.length := fun ad e hn hr => by have h1 := hat ad e hn; have h2 := (OwnB.lt o _ hr).1; omega
      generalize putU l.length = P at *
      go_wp2_with (at_builtin; first
        | (refine wpList_app w.heap.size w _ rfl (.tmp 11) (.tmp 18) rfl B acc d rfl oX _ P _ rfl hP (by omega) b02 (Nat.le_refl _) b02.size ?_; intro B1 d1 acc1 w3 H1 o1 b1 g1 t1; have L1 : acc1.length ≤ acc.length + P.length := (by rw [H1.out, List.length_append]; exact Nat.le_refl _); have hD3 := hD2.grown g1 hnr; have hc3 := (b1.cell (p := ad.add k) (by rw [block_of_add]; exact had0)).trans hc0)
        | (refine wpList_app w.heap.size w _ rfl (.tmp 20) (.tmp 24) rfl B1 acc1 d1 rfl o1 _ l _ rfl hD3 (by omega) b1 (Nat.le_refl _) b1.size ?_; intro B2 d2 acc2 w4 H2 o2' b4 g2 t2))
      go_roundw
      case rel => exact ⟨k + 1, acc2, B2, d2, by omega, by go_num, rfl, o2', by rw [H2.out, H1.out]; exact HE.out, by rw [H2.out, List.length_append]; omega, b4⟩
      case measure => simp [intOf]; omega
    · obtain rfl : k = ls.length := by omega
      have HE : Hid (acc = frameL ls) := by show _ = _; rw [← HA.out, List.drop_length]; simp [frameL]
      clear HA
      go_wp2_with fail
      go_ret
      rw [← HE.out]
      exact ret_own o br
end Go.Proofs.YtfededjcadmpbaaGreatDoor

namespace Go.Proofs.YtfededjcadmpbaaGreatDoor
open Go.RowKit
set_option maxRecDepth 100000 in
set_option maxHeartbeats 8000000 in
theorem renc_any (xs : List LVal) (A : Option Addr) (c : Nat) (w : World) (hA : Sl CelE w A xs) (hsm : ∀ x ∈ xs, x.sm) (hx : ∀ x ∈ xs, x.err = 0 ∧ x.wfv) (hlen : xs.length ≤ 4096) :
    Calls Tryz.prog 44 #[.slice A xs.length c] w (RetBs (encL xs) w) := by
  obtain ⟨i1, hi1, hy0, hy1, hy2⟩ := info_parts Tryz.infoBs
  have HSM := Lib.hid hsm
  have HX := Lib.hid hx
  clear hsm hx
  go_enter Tryz.func44, Tryz.ntmps44
  go_wp2_with fail
  go_loopw [3, 4, 5, 6] (fun o i _ _ wr => ∃ (k : Nat) (ps : List (List UInt8)) (B : Option Addr) (d : Nat), k ≤ xs.length ∧ i = .int .i64 (k : Int) ∧ o = .slice B ps.length d ∧ Own BsE 46 wr w.heap.size (fun b => w.heap.size ≤ b ∧ b < wr.heap.size) (.slice B ps.length d) ps ∧ ps = (xs.take k).map LVal.part ∧ ps.length ≤ k ∧ Below w.heap.size w wr) (fun _ i _ _ _ => xs.length - (intOf i).toNat)
  case atStart => exact ⟨0, [], none, 0, Nat.zero_le _, rfl, rfl, Own.nil_ BsE _ _ _ _, rfl, Nat.le_refl _, Below.refl _ _⟩
  case round =>
    obtain ⟨k, ps, B, d, hk, rfl, rfl, o, hp, hpl, br⟩ := hrel
    have HP := Lib.hid hp
    clear hp
    have zr := br.size
    by_cases hlt : k < xs.length
    · have hlt' : (k : Int) < (xs.length : Int) := by omega
      have hsmx : LVal.sm xs[k] := HSM.out _ (List.getElem_mem hlt)
      obtain ⟨herr, hwf⟩ := HX.out _ (List.getElem_mem hlt)
      obtain ⟨ad, D2, c2, rfl, h1, f0, f1, f2, f3, f4, hD2, hat2⟩ := CelE.at6 (hA.old.below br) hlt
      obtain ⟨x, hxx⟩ : ∃ x, xs[k] = x := ⟨_, rfl⟩
      rw [hxx] at f0 f1 f2 f3 f4 hD2 hat2 hsmx herr hwf
      have HXX := Lib.hid hxx
      clear hxx
      cases x with
      | other n => exact absurd herr (show ¬ ((10 : Int) = 0) by decide)
      | null =>
        simp only [LVal.kind, LVal.b, LVal.n, LVal.t, LVal.l, List.length_nil] at f0 f1 f2 f3 f4 hD2 hat2
        have z2 := Nat.le_refl wr.heap.size
        have bc := br
        have oc := o
        have dX : Below wr.heap.size wr ((wr.alloc (.cells #[.int .i64 0, .bool false, .int .i64 0, .string ⟨#[]⟩, .slice D2 0 c2] 48)).alloc (.cells #[.int .u8 0] 5)) := ((Below.refl _ _).alloc (Nat.le_refl _) _).alloc (by simp) _
        have bX := bc.trans (dX.mono bc.size)
        have oX := Own.below oc (w' := ((wr.alloc (.cells #[.int .i64 0, .bool false, .int .i64 0, .string ⟨#[]⟩, .slice D2 0 c2] 48)).alloc (.cells #[.int .u8 0] 5))) dX
        have oP0 : OwnB (wr.heap.size + 1) ((wr.alloc (.cells #[.int .i64 0, .bool false, .int .i64 0, .string ⟨#[]⟩, .slice D2 0 c2] 48)).alloc (.cells #[.int .u8 0] 5)) (some ⟨wr.heap.size + 1, 0, none⟩) [0] 1 := ownlit2 wr (.cells #[.int .i64 0, .bool false, .int .i64 0, .string ⟨#[]⟩, .slice D2 0 c2] 48) [0] (by decide)
        have lX := (OwnB.lt oP0 (wr.heap.size + 1) rfl).2
        go_upto_region 18 with fail
        generalize ((wr.alloc (.cells #[.int .i64 0, .bool false, .int .i64 0, .string ⟨#[]⟩, .slice D2 0 c2] 48)).alloc (.cells #[.int .u8 0] 5)) = X at *
        have zE := (bX).size; have dZ : Below X.heap.size X (X.alloc (.cells #[.slice (some ⟨wr.heap.size + 1, 0, none⟩) [0].length 1] 46)) := (Below.refl _ _).alloc (Nat.le_refl _) _; have bZ := (bX).trans (dZ.mono zE); have oZ0 : Own BsE 46 X w.heap.size (fun b => w.heap.size ≤ b ∧ b < X.heap.size) (.slice B ps.length d) ps := Own.mono oX (fun b hb _ hs => ⟨hs.1, hb⟩); have oZ := Own.below oZ0 dZ; have hbsE := (OwnB.bs oP0 (by decide)).below dZ; have capE := OwnB.caps oP0; have hatE : At (fun b => (w.heap.size ≤ b ∧ b < X.heap.size) ∧ (Value.slice B ps.length d).ownBlock ≠ some b) (some ⟨wr.heap.size + 1, 0, none⟩) [0].length := (fun ad e hn => by have h1 := OwnB.at_ oP0 ad e hn; refine ⟨⟨by omega, h1.2⟩, fun e2 => ?_⟩; have := (Own.lt o _ e2).2; omega)
        go_wp2_with (at_builtin; (refine wpList_appE BsE w.heap.size w _ rfl (.tmp 53) (.tmp 55) 46 94 rfl i1 _ Tryz.underlying94 hi1 hy0 hy1 hy2 rfl _ B ps d rfl oZ _ [.slice (some ⟨wr.heap.size + 1, 0, none⟩) [0].length 1] [0] 1 rfl _ (Reads.new1 _ _ _) ⟨(some ⟨wr.heap.size + 1, 0, none⟩), 1, rfl, hbsE, hatE, capE⟩ (by simp only [BsE]; omega) (by simp only [maxLen]; omega) bZ (Nat.le_refl _) bZ.size ?_; intro B9 d9 ps9 w9 H9 o9 b9 g9 t9))
        go_roundw
        case rel => exact ⟨k + 1, ps9, B9, d9, by omega, by go_num, rfl, Own.mono o9 (fun b hb _ hs => ⟨hs.1, hb⟩), by rw [H9.out, HP.out, List.take_succ_eq_append_getElem hlt, List.map_append, HXX.out]; rfl, by rw [H9.out, List.length_append, List.length_singleton]; omega, b9⟩
        case measure => simp [intOf]; omega
      | bool b =>
        cases b with
        | true =>
          simp only [LVal.kind, LVal.b, LVal.n, LVal.t, LVal.l, List.length_nil] at f0 f1 f2 f3 f4 hD2 hat2
          have z2 := Nat.le_refl wr.heap.size
          have bc := br
          have oc := o
          have dX : Below wr.heap.size wr ((wr.alloc (.cells #[.int .i64 1, .bool true, .int .i64 0, .string ⟨#[]⟩, .slice D2 0 c2] 48)).alloc (.cells #[.int .u8 1] 5)) := ((Below.refl _ _).alloc (Nat.le_refl _) _).alloc (by simp) _
          have bX := bc.trans (dX.mono bc.size)
          have oX := Own.below oc (w' := ((wr.alloc (.cells #[.int .i64 1, .bool true, .int .i64 0, .string ⟨#[]⟩, .slice D2 0 c2] 48)).alloc (.cells #[.int .u8 1] 5))) dX
          have oP0 : OwnB (wr.heap.size + 1) ((wr.alloc (.cells #[.int .i64 1, .bool true, .int .i64 0, .string ⟨#[]⟩, .slice D2 0 c2] 48)).alloc (.cells #[.int .u8 1] 5)) (some ⟨wr.heap.size + 1, 0, none⟩) [1] 1 := ownlit2 wr (.cells #[.int .i64 1, .bool true, .int .i64 0, .string ⟨#[]⟩, .slice D2 0 c2] 48) [1] (by decide)
          have lX := (OwnB.lt oP0 (wr.heap.size + 1) rfl).2
          go_upto_region 10 with fail
          generalize ((wr.alloc (.cells #[.int .i64 1, .bool true, .int .i64 0, .string ⟨#[]⟩, .slice D2 0 c2] 48)).alloc (.cells #[.int .u8 1] 5)) = X at *
          have dY : Below X.heap.size X (X.alloc (.cells #[.int .u8 1] 5)) := (Below.refl _ _).alloc (Nat.le_refl _) _
          have bY := bX.trans (dY.mono bX.size)
          have oY := OwnB.below oP0 dY
          have oXY := Own.below oX dY
          go_wp2_with (at_builtin; first | (refine wpList_app (wr.heap.size + 1) w _ rfl (.tmp 27) (.tmp 28) rfl (some ⟨wr.heap.size + 1, 0, none⟩) [1] 1 rfl oY _ [1] 1 rfl (Bs.lit X [1] _ (by decide)) (by decide) bY (by omega) (Nat.le_of_lt (Nat.lt_of_lt_of_le lX dY.size)) ?_; intro A1 d1 acc1 w5 H1 o1 b1 g1 t1; have L1 : acc1.length ≤ 16777216 := (by rw [H1.out]; show 2 ≤ 16777216; decide); have oPE := Own.far oXY (fun g e => (Own.lt o g e).2) g1 (fun b e => by have := (OwnB.lt oP0 b e).1; omega); have zE := (b1).size; have dZ : Below w5.heap.size w5 (w5.alloc (.cells #[.slice A1 acc1.length d1] 46)) := (Below.refl _ _).alloc (Nat.le_refl _) _; have bZ := (b1).trans (dZ.mono zE); have oZ0 : Own BsE 46 w5 w.heap.size (fun b => w.heap.size ≤ b ∧ b < w5.heap.size) (.slice B ps.length d) ps := Own.mono oPE (fun b hb _ hs => ⟨hs.1, hb⟩); have oZ := Own.below oZ0 dZ; have hbsE := (OwnB.bs o1 (by omega)).below dZ; have capE := OwnB.caps o1; have hatE : At (fun b => (w.heap.size ≤ b ∧ b < w5.heap.size) ∧ (Value.slice B ps.length d).ownBlock ≠ some b) A1 acc1.length := (fun ad e hn => by have h1 := OwnB.at_ o1 ad e hn; refine ⟨⟨by omega, h1.2⟩, fun e2 => ?_⟩; have := (Own.lt o _ e2).2; omega); skip) | (refine wpList_appE BsE w.heap.size w _ rfl (.tmp 53) (.tmp 55) 46 94 rfl i1 _ Tryz.underlying94 hi1 hy0 hy1 hy2 rfl _ B ps d rfl oZ _ [.slice A1 acc1.length d1] acc1 1 rfl _ (Reads.new1 _ _ _) ⟨A1, d1, rfl, hbsE, hatE, capE⟩ (by simp only [BsE]; omega) (by simp only [maxLen]; omega) bZ (Nat.le_refl _) bZ.size ?_; intro B9 d9 ps9 w9 H9 o9 b9 g9 t9))
          go_roundw
          case rel => exact ⟨k + 1, ps9, B9, d9, by omega, by go_num, rfl, Own.mono o9 (fun b hb _ hs => ⟨hs.1, hb⟩), by rw [H9.out, HP.out, List.take_succ_eq_append_getElem hlt, List.map_append, HXX.out, H1.out]; rfl, by rw [H9.out, List.length_append, List.length_singleton]; omega, b9⟩
          case measure => simp [intOf]; omega
        | false =>
          simp only [LVal.kind, LVal.b, LVal.n, LVal.t, LVal.l, List.length_nil] at f0 f1 f2 f3 f4 hD2 hat2
          have z2 := Nat.le_refl wr.heap.size
          have bc := br
          have oc := o
          have dX : Below wr.heap.size wr ((wr.alloc (.cells #[.int .i64 1, .bool false, .int .i64 0, .string ⟨#[]⟩, .slice D2 0 c2] 48)).alloc (.cells #[.int .u8 1] 5)) := ((Below.refl _ _).alloc (Nat.le_refl _) _).alloc (by simp) _
          have bX := bc.trans (dX.mono bc.size)
          have oX := Own.below oc (w' := ((wr.alloc (.cells #[.int .i64 1, .bool false, .int .i64 0, .string ⟨#[]⟩, .slice D2 0 c2] 48)).alloc (.cells #[.int .u8 1] 5))) dX
          have oP0 : OwnB (wr.heap.size + 1) ((wr.alloc (.cells #[.int .i64 1, .bool false, .int .i64 0, .string ⟨#[]⟩, .slice D2 0 c2] 48)).alloc (.cells #[.int .u8 1] 5)) (some ⟨wr.heap.size + 1, 0, none⟩) [1] 1 := ownlit2 wr (.cells #[.int .i64 1, .bool false, .int .i64 0, .string ⟨#[]⟩, .slice D2 0 c2] 48) [1] (by decide)
          have lX := (OwnB.lt oP0 (wr.heap.size + 1) rfl).2
          go_upto_region 11 with fail
          generalize ((wr.alloc (.cells #[.int .i64 1, .bool false, .int .i64 0, .string ⟨#[]⟩, .slice D2 0 c2] 48)).alloc (.cells #[.int .u8 1] 5)) = X at *
          have dY : Below X.heap.size X (X.alloc (.cells #[.int .u8 0] 5)) := (Below.refl _ _).alloc (Nat.le_refl _) _
          have bY := bX.trans (dY.mono bX.size)
          have oY := OwnB.below oP0 dY
          have oXY := Own.below oX dY
          go_wp2_with (at_builtin; first | (refine wpList_app (wr.heap.size + 1) w _ rfl (.tmp 30) (.tmp 31) rfl (some ⟨wr.heap.size + 1, 0, none⟩) [1] 1 rfl oY _ [0] 1 rfl (Bs.lit X [0] _ (by decide)) (by decide) bY (by omega) (Nat.le_of_lt (Nat.lt_of_lt_of_le lX dY.size)) ?_; intro A1 d1 acc1 w5 H1 o1 b1 g1 t1; have L1 : acc1.length ≤ 16777216 := (by rw [H1.out]; show 2 ≤ 16777216; decide); have oPE := Own.far oXY (fun g e => (Own.lt o g e).2) g1 (fun b e => by have := (OwnB.lt oP0 b e).1; omega); have zE := (b1).size; have dZ : Below w5.heap.size w5 (w5.alloc (.cells #[.slice A1 acc1.length d1] 46)) := (Below.refl _ _).alloc (Nat.le_refl _) _; have bZ := (b1).trans (dZ.mono zE); have oZ0 : Own BsE 46 w5 w.heap.size (fun b => w.heap.size ≤ b ∧ b < w5.heap.size) (.slice B ps.length d) ps := Own.mono oPE (fun b hb _ hs => ⟨hs.1, hb⟩); have oZ := Own.below oZ0 dZ; have hbsE := (OwnB.bs o1 (by omega)).below dZ; have capE := OwnB.caps o1; have hatE : At (fun b => (w.heap.size ≤ b ∧ b < w5.heap.size) ∧ (Value.slice B ps.length d).ownBlock ≠ some b) A1 acc1.length := (fun ad e hn => by have h1 := OwnB.at_ o1 ad e hn; refine ⟨⟨by omega, h1.2⟩, fun e2 => ?_⟩; have := (Own.lt o _ e2).2; omega); skip) | (refine wpList_appE BsE w.heap.size w _ rfl (.tmp 53) (.tmp 55) 46 94 rfl i1 _ Tryz.underlying94 hi1 hy0 hy1 hy2 rfl _ B ps d rfl oZ _ [.slice A1 acc1.length d1] acc1 1 rfl _ (Reads.new1 _ _ _) ⟨A1, d1, rfl, hbsE, hatE, capE⟩ (by simp only [BsE]; omega) (by simp only [maxLen]; omega) bZ (Nat.le_refl _) bZ.size ?_; intro B9 d9 ps9 w9 H9 o9 b9 g9 t9))
          go_roundw
          case rel => exact ⟨k + 1, ps9, B9, d9, by omega, by go_num, rfl, Own.mono o9 (fun b hb _ hs => ⟨hs.1, hb⟩), by rw [H9.out, HP.out, List.take_succ_eq_append_getElem hlt, List.map_append, HXX.out, H1.out]; rfl, by rw [H9.out, List.length_append, List.length_singleton]; omega, b9⟩
          case measure => simp [intOf]; omega
      | int n =>
        simp only [LVal.kind, LVal.b, LVal.n, LVal.t, LVal.l, List.length_nil] at f0 f1 f2 f3 f4 hD2 hat2
        have z2 := Nat.le_refl wr.heap.size
        have bc := br
        have oc := o
        have dX : Below wr.heap.size wr ((wr.alloc (.cells #[.int .i64 2, .bool false, .int .i64 n, .string ⟨#[]⟩, .slice D2 0 c2] 48)).alloc (.cells #[.int .u8 2] 5)) := ((Below.refl _ _).alloc (Nat.le_refl _) _).alloc (by simp) _
        have bX := bc.trans (dX.mono bc.size)
        have oX := Own.below oc (w' := ((wr.alloc (.cells #[.int .i64 2, .bool false, .int .i64 n, .string ⟨#[]⟩, .slice D2 0 c2] 48)).alloc (.cells #[.int .u8 2] 5))) dX
        have oP0 : OwnB (wr.heap.size + 1) ((wr.alloc (.cells #[.int .i64 2, .bool false, .int .i64 n, .string ⟨#[]⟩, .slice D2 0 c2] 48)).alloc (.cells #[.int .u8 2] 5)) (some ⟨wr.heap.size + 1, 0, none⟩) [2] 1 := ownlit2 wr (.cells #[.int .i64 2, .bool false, .int .i64 n, .string ⟨#[]⟩, .slice D2 0 c2] 48) [2] (by decide)
        have lX := (OwnB.lt oP0 (wr.heap.size + 1) rfl).2
        go_wp2_with fail
        refine (rordi_any n hwf.1 hwf.2 _).mono ?_
        rintro en w6 ⟨A6, c6, rfl, o6, b6⟩
        have hok := okey_len n
        have bs6 : Bs w6 A6 (okey n) := Bs.of_own o6 (by omega)
        have HOK := Lib.hid hok
        have hok2 : (okey n).length ≤ 8 := by omega
        clear hok
        have bY := bX.trans (b6.mono bX.size)
        have oY := OwnB.below oP0 b6
        have oXY := Own.below oX b6
        have lY := Nat.lt_of_lt_of_le lX b6.size
        go_wp2_with (at_builtin; first | (refine wpList_app (wr.heap.size + 1) w _ rfl (.tmp 35) (.tmp 38) rfl (some ⟨wr.heap.size + 1, 0, none⟩) [2] 1 rfl oY A6 (okey n) c6 rfl bs6 (by rw [List.length_singleton]; omega) bY (by omega) (Nat.le_of_lt lY) ?_; intro A1 d1 acc1 w5 H1 o1 b1 g1 t1; have L1 : acc1.length ≤ 16777216 := (by rw [H1.out, List.length_append, List.length_singleton]; omega); have oPE := Own.far oXY (fun g e => (Own.lt o g e).2) g1 (fun b e => by have := (OwnB.lt oP0 b e).1; omega); have zE := (b1).size; have dZ : Below w5.heap.size w5 (w5.alloc (.cells #[.slice A1 acc1.length d1] 46)) := (Below.refl _ _).alloc (Nat.le_refl _) _; have bZ := (b1).trans (dZ.mono zE); have oZ0 : Own BsE 46 w5 w.heap.size (fun b => w.heap.size ≤ b ∧ b < w5.heap.size) (.slice B ps.length d) ps := Own.mono oPE (fun b hb _ hs => ⟨hs.1, hb⟩); have oZ := Own.below oZ0 dZ; have hbsE := (OwnB.bs o1 (by omega)).below dZ; have capE := OwnB.caps o1; have hatE : At (fun b => (w.heap.size ≤ b ∧ b < w5.heap.size) ∧ (Value.slice B ps.length d).ownBlock ≠ some b) A1 acc1.length := (fun ad e hn => by have h1 := OwnB.at_ o1 ad e hn; refine ⟨⟨by omega, h1.2⟩, fun e2 => ?_⟩; have := (Own.lt o _ e2).2; omega); skip) | (refine wpList_appE BsE w.heap.size w _ rfl (.tmp 53) (.tmp 55) 46 94 rfl i1 _ Tryz.underlying94 hi1 hy0 hy1 hy2 rfl _ B ps d rfl oZ _ [.slice A1 acc1.length d1] acc1 1 rfl _ (Reads.new1 _ _ _) ⟨A1, d1, rfl, hbsE, hatE, capE⟩ (by simp only [BsE]; omega) (by simp only [maxLen]; omega) bZ (Nat.le_refl _) bZ.size ?_; intro B9 d9 ps9 w9 H9 o9 b9 g9 t9))
        go_roundw
        case rel => exact ⟨k + 1, ps9, B9, d9, by omega, by go_num, rfl, Own.mono o9 (fun b hb _ hs => ⟨hs.1, hb⟩), by rw [H9.out, HP.out, List.take_succ_eq_append_getElem hlt, List.map_append, HXX.out, H1.out]; rfl, by rw [H9.out, List.length_append, List.length_singleton]; omega, b9⟩
        case measure => simp [intOf]; omega
      | text s =>
        simp only [LVal.kind, LVal.b, LVal.n, LVal.t, LVal.l, List.length_nil] at f0 f1 f2 f3 f4 hD2 hat2
        have z2 := Nat.le_refl wr.heap.size
        have bc := br
        have oc := o
        have dX : Below wr.heap.size wr ((wr.alloc (.cells #[.int .i64 3, .bool false, .int .i64 0, .string s, .slice D2 0 c2] 48)).alloc (.cells #[.int .u8 3] 5)) := ((Below.refl _ _).alloc (Nat.le_refl _) _).alloc (by simp) _
        have bX := bc.trans (dX.mono bc.size)
        have oX := Own.below oc (w' := ((wr.alloc (.cells #[.int .i64 3, .bool false, .int .i64 0, .string s, .slice D2 0 c2] 48)).alloc (.cells #[.int .u8 3] 5))) dX
        have oP0 : OwnB (wr.heap.size + 1) ((wr.alloc (.cells #[.int .i64 3, .bool false, .int .i64 0, .string s, .slice D2 0 c2] 48)).alloc (.cells #[.int .u8 3] 5)) (some ⟨wr.heap.size + 1, 0, none⟩) [3] 1 := ownlit2 wr (.cells #[.int .i64 3, .bool false, .int .i64 0, .string s, .slice D2 0 c2] 48) [3] (by decide)
        have lX := (OwnB.lt oP0 (wr.heap.size + 1) rfl).2
        have h3s : s.size ≤ 1048576 := hsmx.1
        go_upto_region 15 with fail
        have y3 := ((Blk.new wr 48 #[.int .i64 3, .bool false, .int .i64 0, .string s, .slice D2 0 c2]).alloc (.cells #[.int .u8 3] 5)).cell 3
        have y3b : ((wr.alloc (.cells #[.int .i64 3, .bool false, .int .i64 0, .string s, .slice D2 0 c2] 48)).alloc (.cells #[.int .u8 3] 5)).cell? ⟨wr.heap.size, 3, none⟩ = some (.string s) := y3
        clear y3
        generalize ((wr.alloc (.cells #[.int .i64 3, .bool false, .int .i64 0, .string s, .slice D2 0 c2] 48)).alloc (.cells #[.int .u8 3] 5)) = X at *
        obtain ⟨D6, c6, w6, hcv, bs6, b6⟩ := str_conv s (by omega) X
        have hss := strL_len s
        have HSS := Lib.hid hss
        have hok2 : (strL s).length ≤ 1048576 := by rw [hss]; exact hsmx.1
        clear hss
        have bY := bX.trans (b6.mono bX.size)
        have oY := OwnB.below oP0 b6
        have oXY := Own.below oX b6
        have lY := Nat.lt_of_lt_of_le lX b6.size
        go_wp2_with (at_builtin; first | (refine wpList_app (wr.heap.size + 1) w _ rfl (.tmp 42) (.tmp 45) rfl (some ⟨wr.heap.size + 1, 0, none⟩) [3] 1 rfl oY D6 (strL s) c6 rfl bs6 (by rw [List.length_singleton]; omega) bY (by omega) (Nat.le_of_lt lY) ?_; intro A1 d1 acc1 w5 H1 o1 b1 g1 t1; have L1 : acc1.length ≤ 16777216 := (by rw [H1.out, List.length_append, List.length_singleton]; omega); have oPE := Own.far oXY (fun g e => (Own.lt o g e).2) g1 (fun b e => by have := (OwnB.lt oP0 b e).1; omega); have zE := (b1).size; have dZ : Below w5.heap.size w5 (w5.alloc (.cells #[.slice A1 acc1.length d1] 46)) := (Below.refl _ _).alloc (Nat.le_refl _) _; have bZ := (b1).trans (dZ.mono zE); have oZ0 : Own BsE 46 w5 w.heap.size (fun b => w.heap.size ≤ b ∧ b < w5.heap.size) (.slice B ps.length d) ps := Own.mono oPE (fun b hb _ hs => ⟨hs.1, hb⟩); have oZ := Own.below oZ0 dZ; have hbsE := (OwnB.bs o1 (by omega)).below dZ; have capE := OwnB.caps o1; have hatE : At (fun b => (w.heap.size ≤ b ∧ b < w5.heap.size) ∧ (Value.slice B ps.length d).ownBlock ≠ some b) A1 acc1.length := (fun ad e hn => by have h1 := OwnB.at_ o1 ad e hn; refine ⟨⟨by omega, h1.2⟩, fun e2 => ?_⟩; have := (Own.lt o _ e2).2; omega); skip) | (refine wpList_appE BsE w.heap.size w _ rfl (.tmp 53) (.tmp 55) 46 94 rfl i1 _ Tryz.underlying94 hi1 hy0 hy1 hy2 rfl _ B ps d rfl oZ _ [.slice A1 acc1.length d1] acc1 1 rfl _ (Reads.new1 _ _ _) ⟨A1, d1, rfl, hbsE, hatE, capE⟩ (by simp only [BsE]; omega) (by simp only [maxLen]; omega) bZ (Nat.le_refl _) bZ.size ?_; intro B9 d9 ps9 w9 H9 o9 b9 g9 t9))
        go_roundw
        case rel => exact ⟨k + 1, ps9, B9, d9, by omega, by go_num, rfl, Own.mono o9 (fun b hb _ hs => ⟨hs.1, hb⟩), by rw [H9.out, HP.out, List.take_succ_eq_append_getElem hlt, List.map_append, HXX.out, H1.out]; rfl, by rw [H9.out, List.length_append, List.length_singleton]; omega, b9⟩
        case measure => simp [intOf]; omega
      | bytes dl =>
        simp only [LVal.kind, LVal.b, LVal.n, LVal.t, LVal.l] at f0 f1 f2 f3 f4 hD2 hat2
        have z2 := Nat.le_refl wr.heap.size
        have bc := br
        have oc := o
        have dX : Below wr.heap.size wr ((wr.alloc (.cells #[.int .i64 4, .bool false, .int .i64 0, .string ⟨#[]⟩, .slice D2 dl.length c2] 48)).alloc (.cells #[.int .u8 4] 5)) := ((Below.refl _ _).alloc (Nat.le_refl _) _).alloc (by simp) _
        have bX := bc.trans (dX.mono bc.size)
        have oX := Own.below oc (w' := ((wr.alloc (.cells #[.int .i64 4, .bool false, .int .i64 0, .string ⟨#[]⟩, .slice D2 dl.length c2] 48)).alloc (.cells #[.int .u8 4] 5))) dX
        have oP0 : OwnB (wr.heap.size + 1) ((wr.alloc (.cells #[.int .i64 4, .bool false, .int .i64 0, .string ⟨#[]⟩, .slice D2 dl.length c2] 48)).alloc (.cells #[.int .u8 4] 5)) (some ⟨wr.heap.size + 1, 0, none⟩) [4] 1 := ownlit2 wr (.cells #[.int .i64 4, .bool false, .int .i64 0, .string ⟨#[]⟩, .slice D2 dl.length c2] 48) [4] (by decide)
        have lX := (OwnB.lt oP0 (wr.heap.size + 1) rfl).2
        go_upto_region 17 with fail
        have hDX := hD2.below dX
        have y4 := ((Blk.new wr 48 #[.int .i64 4, .bool false, .int .i64 0, .string ⟨#[]⟩, .slice D2 dl.length c2]).alloc (.cells #[.int .u8 4] 5)).cell 4
        have y4b : ((wr.alloc (.cells #[.int .i64 4, .bool false, .int .i64 0, .string ⟨#[]⟩, .slice D2 dl.length c2] 48)).alloc (.cells #[.int .u8 4] 5)).cell? ⟨wr.heap.size, 4, none⟩ = some (.slice D2 dl.length c2) := y4
        clear y4
        generalize ((wr.alloc (.cells #[.int .i64 4, .bool false, .int .i64 0, .string ⟨#[]⟩, .slice D2 dl.length c2] 48)).alloc (.cells #[.int .u8 4] 5)) = X at *
        have hdl : dl.length ≤ 1048576 := hsmx.2
        go_wp2_with (at_builtin; first | (refine wpList_app (wr.heap.size + 1) w _ rfl (.tmp 49) (.tmp 51) rfl (some ⟨wr.heap.size + 1, 0, none⟩) [4] 1 rfl oP0 D2 dl c2 rfl hDX (by rw [List.length_singleton]; omega) bX (by omega) (Nat.le_of_lt lX) ?_; intro A1 d1 acc1 w5 H1 o1 b1 g1 t1; have L1 : acc1.length ≤ 16777216 := (by rw [H1.out, List.length_append, List.length_singleton]; omega); have oPE := Own.far oX (fun g e => (Own.lt o g e).2) g1 (fun b e => by have := (OwnB.lt oP0 b e).1; omega); have zE := (b1).size; have dZ : Below w5.heap.size w5 (w5.alloc (.cells #[.slice A1 acc1.length d1] 46)) := (Below.refl _ _).alloc (Nat.le_refl _) _; have bZ := (b1).trans (dZ.mono zE); have oZ0 : Own BsE 46 w5 w.heap.size (fun b => w.heap.size ≤ b ∧ b < w5.heap.size) (.slice B ps.length d) ps := Own.mono oPE (fun b hb _ hs => ⟨hs.1, hb⟩); have oZ := Own.below oZ0 dZ; have hbsE := (OwnB.bs o1 (by omega)).below dZ; have capE := OwnB.caps o1; have hatE : At (fun b => (w.heap.size ≤ b ∧ b < w5.heap.size) ∧ (Value.slice B ps.length d).ownBlock ≠ some b) A1 acc1.length := (fun ad e hn => by have h1 := OwnB.at_ o1 ad e hn; refine ⟨⟨by omega, h1.2⟩, fun e2 => ?_⟩; have := (Own.lt o _ e2).2; omega); skip) | (refine wpList_appE BsE w.heap.size w _ rfl (.tmp 53) (.tmp 55) 46 94 rfl i1 _ Tryz.underlying94 hi1 hy0 hy1 hy2 rfl _ B ps d rfl oZ _ [.slice A1 acc1.length d1] acc1 1 rfl _ (Reads.new1 _ _ _) ⟨A1, d1, rfl, hbsE, hatE, capE⟩ (by simp only [BsE]; omega) (by simp only [maxLen]; omega) bZ (Nat.le_refl _) bZ.size ?_; intro B9 d9 ps9 w9 H9 o9 b9 g9 t9))
        go_roundw
        case rel => exact ⟨k + 1, ps9, B9, d9, by omega, by go_num, rfl, Own.mono o9 (fun b hb _ hs => ⟨hs.1, hb⟩), by rw [H9.out, HP.out, List.take_succ_eq_append_getElem hlt, List.map_append, HXX.out, H1.out]; rfl, by rw [H9.out, List.length_append, List.length_singleton]; omega, b9⟩
        case measure => simp [intOf]; omega
    · obtain rfl : k = xs.length := by omega
      have HE : Hid (frameL ps = encL xs) := by show _ = _; rw [HP.out, List.take_length]; rfl
      have hpm : ∀ l ∈ ps, l.length ≤ 16777216 := by
        rw [HP.out, List.take_length]
        intro l hl
        obtain ⟨x, hx, rfl⟩ := List.mem_map.1 hl
        exact part_len (HSM.out x hx)
      have hsl : Sl BsE wr B ps := Own.sl o (by simp only [BsE]; omega)
      clear HP
      go_wp2_with fail
      refine (rframe_any ps B d wr hsl hpm (by omega)).mono ?_
      rintro en w2 ⟨A2, c2, rfl, o2, b2⟩
      rw [HE.out] at o2 ⊢
      go_wp2_with fail
      go_ret
      exact ⟨A2, c2, rfl, OwnB.base o2 zr, br.trans (b2.mono zr)⟩
end Go.Proofs.YtfededjcadmpbaaGreatDoor
