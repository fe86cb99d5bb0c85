/- Texts' keys: caissonref02.Fold, Key; text.Key. -/
import Derived.Test.YtfededjcadmpbaaGreatDoorOrdA
import Derived.Test.YtfededjcadmpbaaGreatDoorKeyA
import Derived.Test.YtfededjcadmpbaaGreatDoorFoldA
namespace Go.Proofs.YtfededjcadmpbaaGreatDoor
open Go.RowKit

theorem runes_top (s : ByteArray) : ∀ (f pos : Nat), ∀ p ∈ runesFrom s f pos, p.1 ≤ 1114111
  | 0, _, p, h => by simp [runesFrom] at h
  | f + 1, pos, p, h => by
    by_cases hp : pos < s.size
    · rw [show runesFrom s (f + 1) pos = _ from if_pos hp] at h
      rcases List.mem_cons.1 h with rfl | h
      · exact decode_top s pos
      · exact runes_top s f _ p h
    · rw [runesFrom_end s _ _ hp] at h; cases h

set_option maxRecDepth 100000 in
set_option maxHeartbeats 2000000 in
theorem rfold_any (s : ByteArray) (hs : s.size ≤ 1048576) (w : World) : Calls Tryz.prog 88 #[.string s] w fun e w' => e = .returned (.string ⟨(foldL s).toArray⟩) ∧ Below w.heap.size w w' := by
  have hrl : (runesL s).length ≤ 1048576 := by have := Lib.runeCount_le s; rw [runesL_len]; omega
  have htop : ∀ p ∈ runesL s, p.1 ≤ 1114111 := runes_top s _ _
  have hfe : foldL s = (runesL s).flatMap fun p => Lib.encodeRune (lowZ p.1) := rfl
  have HF := Lib.hid hfe
  clear hfe
  go_enter Tryz.func88, Tryz.ntmps88
  go_wp2_with fail
  refine (runes_any s (by omega) w).mono ?_
  rintro en w1 ⟨A, c, B0, n0, d0, rfl, oR, b1⟩
  generalize runesL s = R at *
  have HT := Lib.hid htop
  clear htop
  go_wp2_with fail
  go_loopw [5, 6] (fun o i wr => ∃ (k : Nat) (acc : List UInt8) (B : Option Addr) (d : Nat), k ≤ R.length ∧ i = .int .i64 (k : Int) ∧ o = .slice B acc.length d ∧ OwnB w1.heap.size wr B acc d ∧ acc ++ ((R.drop k).flatMap fun p => Lib.encodeRune (lowZ p.1)) = foldL s ∧ acc.length ≤ 4 * k ∧ Below w1.heap.size w1 wr) (fun _ i _ => R.length - (intOf i).toNat)
  case atStart => exact ⟨0, [], _, _, Nat.zero_le _, rfl, rfl, OwnB.nil_ _ _, HF.out.symm, by simp, Below.refl _ _⟩
  case round =>
    obtain ⟨k, acc, B, d, hk, rfl, rfl, o, ha, hal, br⟩ := hrel
    have HA := Lib.hid ha
    clear ha
    have zr := br.size
    by_cases hlt : k < R.length
    · have hlt' : (k : Int) < (R.length : Int) := by omega
      obtain ⟨ad, u, rfl, hadb, hu, hc⟩ := Reads.at_ (Reads.of_own oR) hlt
      have hc2 := (br.cell (p := ad.add k) (by rw [block_of_add]; exact hadb)).trans hc
      have hu2 : u = .int .i64 ((R[k].1 : Nat) : Int) := by
        rw [List.getElem?_map, List.getElem?_eq_getElem hlt] at hu
        exact (Option.some.inj hu).symm
      subst hu2
      have ht : R[k].1 ≤ 1114111 := HT.out _ (List.getElem_mem hlt)
      have HE : Hid ((acc ++ Lib.encodeRune (lowZ R[k].1)) ++ ((R.drop (k + 1)).flatMap fun p => Lib.encodeRune (lowZ p.1)) = foldL s) := by
        show _ = _
        rw [← HA.out, List.drop_eq_getElem_cons hlt, List.flatMap_cons, List.append_assoc]
      generalize R[k].1 = r at *
      clear hc hu HA
      go_wp2_with fail
      refine (rlow_any r (by omega) (by omega) wr).mono ?_
      rintro en wx ⟨rfl, rfl⟩
      have hle := lowZ_le (r : Int)
      have hlow : lowZ (r : Int) ≤ 1114111 := by
        unfold lowZ
        split
        · omega
        · split <;> omega
      have h4 := Lib.runeCells_le (lowZ (r : Int))
      rw [Lib.runeCells_length] at h4
      generalize lowZ (r : Int) = q at *
      go_wp2_with fail
      refine (rput_any q (by omega) hlow wx).mono ?_
      rintro en w2 ⟨A2, c2, rfl, o2, b2⟩
      have hbs := Bs.of_own o2 (by omega)
      have b12 := br.trans (b2.mono br.size)
      have o12 := o.below b2
      generalize hnew : Lib.encodeRune q = news at *
      have HN := Lib.hid hnew
      clear hnew
      go_wp2_with (at_builtin; refine wpList_app w1.heap.size w1 _ rfl (.tmp 18) (.tmp 24) rfl B acc d rfl o12 _ news _ rfl hbs (by omega) b12 (Nat.le_refl _) b12.size ?_; intro B1 d1 acc1 w3 H1 o1 b3 g1 t1)
      go_roundw
      case rel => exact ⟨k + 1, acc1, B1, d1, by omega, by go_num, rfl, o1, by rw [H1.out]; exact HE.out, by rw [H1.out, List.length_append]; omega, b3⟩
      case measure => simp [intOf]; omega
    · obtain rfl : k = R.length := by omega
      have HE : Hid (acc = foldL s) := by show _ = _; rw [← HA.out, List.drop_length]; simp
      have hcv := conv_any B acc d wr (o.bs (by omega))
      clear HA
      go_wp2_with fail
      go_ret
      exact ⟨by rw [HE.out]; rfl, b1.trans (br.mono b1.size)⟩

set_option maxRecDepth 100000 in
set_option maxHeartbeats 2000000 in
theorem tkey_any (s : ByteArray) (hs : s.size ≤ 1048576) (w : World) : Calls Tryz.prog 53 #[.string s] w (RetBs (tkey s) w) := by
  have hfl := foldL_len s
  have o1l := ordT_len (foldL s)
  have o2l := ordT_len (strL s)
  have hsl := strL_len s
  have HS := Lib.hid hsl
  have hsl2 : (strL s).length ≤ 1048576 := by omega
  clear hsl
  have HK : Hid (tkey s = ordT (foldL s) ++ ordT (strL s)) := rfl
  go_enter Tryz.func53, Tryz.ntmps53
  go_wp2_with fail
  refine (fold_any s (by omega) w).mono ?_
  rintro en w1 ⟨rfl, b1⟩
  obtain ⟨D, c, w2, hcv, hD, b2⟩ := str_conv ⟨(foldL s).toArray⟩ (by show (foldL s).toArray.size ≤ _; rw [List.size_toArray]; omega) w1
  rw [strL_mk] at hcv hD
  generalize foldL s = F at *
  go_wp2_with fail
  refine (ordtext_any D F c w2 hD (by omega)).mono ?_
  rintro en w3 ⟨A3, c3, rfl, o3, b3⟩
  obtain ⟨D4, c4, w4, hcv4, hD4, b4⟩ := str_conv s (by omega) w3
  have b12 := b1.trans (b2.mono b1.size)
  have b13 := b12.trans (b3.mono b12.size)
  have b14 := b13.trans (b4.mono b13.size)
  generalize strL s = G at *
  go_wp2_with fail
  refine (ordtext_any D4 G c4 w4 hD4 (by omega)).mono ?_
  rintro en w5 ⟨A5, c5, rfl, o5, b5⟩
  have b15 := b14.trans (b5.mono b14.size)
  have o35 : OwnB w.heap.size w5 A3 (ordT F) c3 := (((OwnB.below o3 b4).below b5).base b12.size)
  have h5 : Bs w5 A5 (ordT G) := Bs.of_own o5 (by omega)
  generalize ordT F = OF at *
  generalize ordT G = OG at *
  go_wp2_with (at_builtin; refine wpList_app w.heap.size w _ rfl (.tmp 6) (.tmp 9) rfl A3 OF c3 rfl o35 _ OG _ rfl h5 (by omega) b15 (Nat.le_refl _) b15.size ?_; intro B1 d1 acc1 w6 H1 o6 b6 g1 t1)
  go_ret
  rw [HK.out, ← H1.out]
  exact ret_own o6 b6

set_option maxRecDepth 100000 in
set_option maxHeartbeats 2000000 in
theorem rtkey_any (s : ByteArray) (hs : s.size ≤ 1048576) (w : World) : Calls Tryz.prog 69 #[.string s] w (RetBs (tkey s) w) := by
  have hfl := foldL_len s
  have o1l := ordT_len (foldL s)
  have o2l := ordT_len (strL s)
  have hsl := strL_len s
  have HS := Lib.hid hsl
  have hsl2 : (strL s).length ≤ 1048576 := by omega
  clear hsl
  have HK : Hid (tkey s = ordT (foldL s) ++ ordT (strL s)) := rfl
  go_enter Tryz.func69, Tryz.ntmps69
  go_wp2_with fail
  refine (rfold_any s (by omega) w).mono ?_
  rintro en w1 ⟨rfl, b1⟩
  obtain ⟨D, c, w2, hcv, hD, b2⟩ := str_conv ⟨(foldL s).toArray⟩ (by show (foldL s).toArray.size ≤ _; rw [List.size_toArray]; omega) w1
  rw [strL_mk] at hcv hD
  generalize foldL s = F at *
  go_wp2_with fail
  refine (rordtext_any D F c w2 hD (by omega)).mono ?_
  rintro en w3 ⟨A3, c3, rfl, o3, b3⟩
  obtain ⟨D4, c4, w4, hcv4, hD4, b4⟩ := str_conv s (by omega) w3
  have b12 := b1.trans (b2.mono b1.size)
  have b13 := b12.trans (b3.mono b12.size)
  have b14 := b13.trans (b4.mono b13.size)
  generalize strL s = G at *
  go_wp2_with fail
  refine (rordtext_any D4 G c4 w4 hD4 (by omega)).mono ?_
  rintro en w5 ⟨A5, c5, rfl, o5, b5⟩
  have b15 := b14.trans (b5.mono b14.size)
  have o35 : OwnB w.heap.size w5 A3 (ordT F) c3 := (((OwnB.below o3 b4).below b5).base b12.size)
  have h5 : Bs w5 A5 (ordT G) := Bs.of_own o5 (by omega)
  generalize ordT F = OF at *
  generalize ordT G = OG at *
  go_wp2_with (at_builtin; refine wpList_app w.heap.size w _ rfl (.tmp 6) (.tmp 9) rfl A3 OF c3 rfl o35 _ OG _ rfl h5 (by omega) b15 (Nat.le_refl _) b15.size ?_; intro B1 d1 acc1 w6 H1 o6 b6 g1 t1)
  go_ret
  rw [HK.out, ← H1.out]
  exact ret_own o6 b6
end Go.Proofs.YtfededjcadmpbaaGreatDoor
