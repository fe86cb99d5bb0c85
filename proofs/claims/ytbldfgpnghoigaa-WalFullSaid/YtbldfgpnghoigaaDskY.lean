/- Cut. -/
import Derived.Test.YtbldfgpnghoigaaDskL
namespace Go.Proofs.Ytbldfgpnghoigaa
open Go.RowKit
open Go.Maps

theorem Disk_.delAt {w w9 : World} {b mb n : Nat} {S : Nat → Prop} {d : LDisk} {fs : List DF} {D : DataW Value} {nm : List UInt8} (hd : Disk_ w b S (.map (some mb)) d fs) (hD : DMap D fs) (hT : Tidy D)
    (ho : w9.ownsMap Try.prog 9 rawR mb n (D.del (.string nm))) (hg : w.grownBy w9 (some mb)) : Disk_ w9 b S (.map (some mb)) d (delF fs nm) := by
  obtain ⟨hk, hf, hr, hbm, hS⟩ := hd
  have hD9 := hD.del hT nm
  have ho9 := ownsMap_tight ho
  rw [hD9.2.2.2.2] at ho9
  refine ⟨hk.grown hg (fun e => hbm (by rw [Option.some.inj e])), .inr ⟨mb, _, rfl, ho9, hD9⟩, fun q hq => ?_, hbm, fun g h => ⟨Nat.lt_of_lt_of_le (hS g h).1 hg.size, (hS g h).2⟩⟩
  obtain ⟨h1, h2, h3⟩ := hr q (mem_delF.1 hq).1
  exact ⟨h1.sameS h2 ⟨hg.size, fun g h4 h5 => hg.block g h5 (fun e => (hS g h4).2.2 (by rw [← e]))⟩, h2, h3⟩
theorem FilesAt.map_ {w : World} {mv : Value} {fs : List DF} (h : FilesAt w mv fs) (hne : fs ≠ []) : ∃ mb D, mv = .map (some mb) ∧ w.ownsMap Try.prog 9 rawR mb fs.length D ∧ DMap D fs := by
  rcases h with ⟨_, rfl⟩ | ⟨mb, D, h1, h2, h3⟩
  · exact absurd rfl hne
  · exact ⟨mb, D, h1, h2, h3⟩
theorem bytes_toList (l : List UInt8) : (⟨l.toArray⟩ : ByteArray).toList = l := by simp
/-- cut: the error ahead of the turn; the error, the disk, the files -/
def cutE (ps : List PFile) (nm : List UInt8) (size : Int) : Int := if size < 0 ∨ (hasP ps nm = true ∧ ((getP ps nm).1.length : Int) < size) then 1 else if hasP ps nm then 0 else 6
def cutP (d : LDisk) (ps : List PFile) (nm : List UInt8) (size : Int) : Int × LDisk × List PFile :=
  let r := turnL d (cutE ps nm size)
  if r.1 then (r.2.1, r.2.2, putP ps (nm, (getP ps nm).1.take size.toNat, size.toNat)) else (r.2.1, r.2.2, ps)
theorem turn_ok {d : LDisk} {e : Int} (h : (turnL d e).1 = true) : e = 0 := by
  unfold turnL at h
  split at h
  · cases h
  · split at h
    · cases h
    · rename_i h1
      exact Classical.byContradiction h1
theorem cutE_zero {ps : List PFile} {nm : List UInt8} {size : Int} (h : cutE ps nm size = 0) : hasP ps nm = true ∧ 0 ≤ size ∧ size ≤ ((getP ps nm).1.length : Int) := by
  unfold cutE at h
  split at h
  · cases h
  · rename_i h1
    split at h
    · rename_i h2
      exact ⟨h2, Int.not_lt.1 fun h3 => h1 (.inl h3), Int.not_lt.1 fun h3 => h1 (.inr ⟨h2, h3⟩)⟩
    · cases h
set_option maxRecDepth 100000 in
set_option maxHeartbeats 2000000 in
theorem cut_any (d : LDisk) (mv : Value) (b : Nat) (fs : List DF) (S : Nat → Prop) (nm : List UInt8) (size : Int) (w : World)
    (hd : Disk_ w b S mv d fs) (hn : nm.length ≤ 140737488355328) (hsz : fs.length ≤ 1048576) (hl : d.armed = true → 0 ≤ d.left ∧ d.left ≤ 9223372036854775807) :
    Calls Try.prog 19 #[.pointer (some ⟨b, 0, none⟩), .string ⟨nm.toArray⟩, .int .i64 size] w (RetD b S mv (cutP d (fs.map DF.p) nm size) w) := by
  have hnd := hd.2.1.nodup
  have T := thereD_any d mv b S fs nm w hd hn
  obtain ⟨e0, he0⟩ : ∃ e0 : Int, e0 = (if nm ∈ fs.map DF.name then (0 : Int) else 6) := ⟨_, rfl⟩
  obtain ⟨e1, he1⟩ : ∃ e1 : Int, e1 = cutE (fs.map DF.p) nm size := ⟨_, rfl⟩
  have hP2 : cutP d (fs.map DF.p) nm size = (if (turnL d e1).1 then ((turnL d e1).2.1, (turnL d e1).2.2, putP (fs.map DF.p) (nm, (getP (fs.map DF.p) nm).1.take size.toNat, size.toNat)) else ((turnL d e1).2.1, (turnL d e1).2.2, fs.map DF.p)) := by
    unfold cutP
    rw [← he1]
  rw [← he0] at T
  have HP := Lib.hid hP2
  have HE1 := Lib.hid he1
  have HE0 := Lib.hid he0
  clear hP2 he1 he0
  have lb := hd.1.lt
  go_enter Try.func19, Try.ntmps19
  go_wp2_with fail
  refine T.mono ?_
  clear T
  rintro en w1 ⟨rfl, b01⟩
  have hd1 := hd.below b01
  have y10 : w1.cell? ⟨b, 0, none⟩ = some mv := hd1.1.cell 0
  obtain ⟨gb, hgb⟩ : ∃ gb : Bool, gb = decide (size < 0 ∨ (hasP (fs.map DF.p) nm = true ∧ ((getP (fs.map DF.p) nm).1.length : Int) < size)) := ⟨_, rfl⟩
  have HGB := Lib.hid hgb
  clear hgb
  go_upto_region 2 with fail
  go_cut [29] (fun s wx => s = .bool gb ∧ wx = w1)
  case first =>
    by_cases hneg : size < 0
    · have e : gb = true := by rw [HGB.out, decide_eq_true_iff]; exact .inl hneg
      subst e
      go_wp2_with fail
      go_meet
      case rel => exact ⟨rfl, rfl⟩
    · by_cases hm : nm ∈ fs.map DF.name
      · have e : e0 = 0 := by rw [HE0.out, if_pos hm]
        have hh : hasP (fs.map DF.p) nm = true := hasP_map.2 hm
        subst e
        clear HE0
        rcases hd1.2.1.map_ (by rintro rfl; cases hm) with ⟨mb, D, rfl, hown, hD⟩
        have law : Keyed Try.prog 9 := string_keyed Try.underlying9
        have hkey := key_lit nm hn
        rcases hD.look nm with ⟨q, hq, rfl, ha, _⟩ | ⟨hm2, _, _⟩
        · have hget := getP_some hnd hq
          have hfd := field_data q.A q.data.length q.c (q.safe : Int) w1
          have hG : gb = decide ((q.data.length : Int) < size) := by
            rw [HGB.out, hh, hget]
            simp [hneg]
          subst hG
          clear HGB hh hm
          have hlk : (Instr.lookup 70 (.map (some mb)) (.string ⟨q.name.toArray⟩) false).run Try.prog w1 = .ok (.agg #[.slice q.A q.data.length q.c, .int .i64 (q.safe : Int)]) w1 := by
            obtain ⟨v', ps, hrun, hv'⟩ := hown.lookup law Try.underlying70 (zeroF w1) (zd := .held zF) (zp := []) rfl hkey
            have h1 : some (DataW.held v', ([] : List MemPlace)) = some (D.atKey (.string q.name) (.held zF), ps) := hv'
            rw [ha] at h1
            injection h1 with h1
            injection h1 with h1 h2
            injection h1 with h1
            rw [hrun, h1]
            rfl
          go_wp2_with fail
          go_meet
          case rel => exact ⟨rfl, rfl⟩
        · exact absurd hm hm2
      · have e : e0 = 6 := by rw [HE0.out, if_neg hm]
        have hh : hasP (fs.map DF.p) nm = false := by
          cases hb : hasP (fs.map DF.p) nm with
          | false => rfl
          | true => exact absurd (hasP_map.1 hb) hm
        have hG : gb = false := by rw [HGB.out, hh]; simp [hneg]
        subst e hG
        go_wp2_with fail
        go_meet
        case rel => exact ⟨rfl, rfl⟩
  case rest =>
    obtain ⟨rfl, hwc⟩ := hcut
    replace hwc := hwc.symm
    subst hwc
    go_upto_if 29 with fail
    go_cut [7] (fun s wx => s = .int .i64 e1 ∧ wx = w1)
    case first =>
      cases gb with
      | true =>
        have e : e1 = 1 := by
          rw [HE1.out, cutE, if_pos (of_decide_eq_true HGB.out.symm)]
        subst e
        go_wp2_with fail
        go_meet
        case rel => exact ⟨rfl, rfl⟩
      | false =>
        have e : e1 = e0 := by
          rw [HE1.out, cutE, if_neg (of_decide_eq_false HGB.out.symm), HE0.out]
          simp only [hasP_map]
        subst e
        go_wp2_with fail
        go_meet
        case rel => exact ⟨rfl, rfl⟩
    case rest =>
      obtain ⟨rfl, hwc⟩ := hcut
      replace hwc := hwc.symm
      subst hwc
      clear y10 HGB gb HE0
      have hin : (turnL d e1).1 = true → hasP (fs.map DF.p) nm = true ∧ 0 ≤ size ∧ size ≤ ((getP (fs.map DF.p) nm).1.length : Int) := fun h => cutE_zero (HE1.out.symm.trans (turn_ok h))
      have HI := Lib.hid hin
      clear hin HE1
      go_wp2_with fail
      refine (turnD_any d mv b S fs e1 w1 hd1 hl).mono ?_
      generalize turnL d e1 = r at HP HI ⊢
      obtain ⟨ok, er, d2⟩ := r
      rintro en w2 ⟨rfl, hd2, g2⟩
      have D2 : DKept b mv w w2 := DKept.trans (DKept.of_below b01) (DKept.of_grown g2) (.inl rfl)
      dsimp only at HP HI hd2 ⊢
      clear hd1 g2 b01 hd
      cases ok with
      | false =>
        go_wp2_with fail
        go_ret
        rw [HP.out]
        exact ⟨rfl, mv, S, fs, hd2, rfl, fun g h => .inl h, .inl rfl, D2⟩
      | true =>
        obtain ⟨hm, h0, hle⟩ := HI.out rfl
        obtain ⟨n, rfl⟩ := Int.eq_ofNat_of_zero_le h0
        have y20 : w2.cell? ⟨b, 0, none⟩ = some mv := hd2.1.cell 0
        clear h0 hm
        have hmem : (0 : Int) ≤ (n : Int) := by omega
        go_wp2_with (at_lookup; refine wpList_lookF rfl _ _ rfl mv fs rfl hd2.2.1 nm hn rfl ?_; intro A data c safe hold; obtain ⟨hb, hat, hsafe⟩ := hold.row hd2.2.2.1; have hcp := hold.caps hd2.2.2.1; have hget := hold.get hnd; rw [hget] at hle; dsimp only at hle; have hin2 : (n : Int) ≤ (c : Int) := Int.le_trans hle (by have := hcp.1; omega); have hfd := field_data A data.length c (safe : Int))
        have hnl : n ≤ data.length := by omega
        have hb3d : Bs w2 A (data.take n) := hb.take3 n hnl
        have hlt3 : (data.take n).length = n := by rw [List.length_take]; omega
        have TC := bclone_any A (data.take n) c w2 hb3d
        rw [hlt3] at TC
        obtain ⟨dt, hdt⟩ : ∃ dt, dt = data.take n := ⟨_, rfl⟩
        rw [← hdt] at TC hlt3
        have HDT := Lib.hid hdt
        have HLT := Lib.hid hlt3
        clear hdt hb3d hlt3
        refine TC.mono ?_
        clear TC
        rintro en w4 ⟨A4, c4, rfl, o4, b4⟩
        replace o4 : OwnB w2.heap.size w4 A4 dt c4 := o4
        have hd4 := (hd2.below b4).more (S' := fun g => S g ∨ (w2.heap.size ≤ g ∧ g < w4.heap.size)) (fun g h => .inl h) (fun g h => by
          rcases h with h | h
          · exact (hd2.below b4).2.2.2.2 g h
          · exact ⟨h.2, by have := hd2.1.lt; omega, fun e => by have := hd2.2.1.lt e; omega⟩)
        have T5 := putD_any d2 mv b _ fs ⟨nm, A4, dt, c4, n⟩ w4 hd4 hn hsz ⟨OwnB.bs o4 (by rw [HLT.out]; have := hb.le; omega), fun ad e h => .inr (OwnB.at_ o4 ad e h), (OwnB.caps o4).1, (OwnB.caps o4).2, by show n ≤ dt.length; rw [HLT.out]; omega⟩
        go_wp2_with fail
        refine T5.mono ?_
        clear T5
        rintro en w5 ⟨rfl, mv', hd5, hm5, D5⟩
        go_wp2_with fail
        go_ret
        rw [HP.out, if_pos trivial]
        have s2 := D2.1
        have s4 := b4.size
        refine ⟨rfl, mv', _, _, hd5, ?_, ?_, ?_, DKept.trans D2 (DKept.trans (DKept.of_below b4) D5 (.inl rfl)) (.inl rfl)⟩
        · rw [putP_map, hget]
          show putP _ (nm, dt, n) = putP _ (nm, data.take (n : Int).toNat, (n : Int).toNat)
          rw [Int.toNat_natCast, HDT.out]
        · rintro g (h | h)
          · exact .inl h
          · exact .inr (by omega)
        · rcases hm5 with e | ⟨m, e, hm⟩
          · exact .inl e
          · exact .inr ⟨m, e, by omega⟩
end Go.Proofs.Ytbldfgpnghoigaa
