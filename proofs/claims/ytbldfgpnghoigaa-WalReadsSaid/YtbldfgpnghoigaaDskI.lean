/- Cut. List: the names that begin so. -/
import Derived.Test.YtbldfgpnghoigaaDskL
import Derived.Lib.SliceRun
namespace Go.Proofs.Ytbldfgpnghoigaa
open Go.RowKit
open Go.Maps

theorem Disk_.delAt {w w9 : World} {b mb n : Nat} {S : Nat → Prop} {d : LDisk} {fs : List DF} {D : DataW Value} {nm : List UInt8} (hd : Disk_ w b S (.map (some mb)) d fs) (hD : DMap D fs) (hT : Tidy D)
    (ho : w9.ownsMap Try.prog 9 rawR mb n (D.del (.string nm))) (hg : w.grownBy w9 (some mb)) : Disk_ w9 b S (.map (some mb)) d (delF fs nm) := by
  obtain ⟨hk, hf, hr, hbm, hS⟩ := hd
  have hD9 := hD.del hT nm
  have ho9 := ownsMap_tight ho
  rw [hD9.2.2.2.2] at ho9
  refine ⟨hk.grown hg (fun e => hbm (by rw [Option.some.inj e])), .inr ⟨mb, _, rfl, ho9, hD9⟩, fun q hq => ?_, hbm, fun g h => ⟨Nat.lt_of_lt_of_le (hS g h).1 hg.size, (hS g h).2⟩⟩
  obtain ⟨h1, h2, h3⟩ := hr q (mem_delF.1 hq).1
  exact ⟨h1.sameS h2 ⟨hg.size, fun g h4 h5 => hg.block g h5 (fun e => (hS g h4).2.2 (by rw [← e]))⟩, h2, h3⟩
theorem FilesAt.map_ {w : World} {mv : Value} {fs : List DF} (h : FilesAt w mv fs) (hne : fs ≠ []) : ∃ mb D, mv = .map (some mb) ∧ w.ownsMap Try.prog 9 rawR mb fs.length D ∧ DMap D fs := by
  rcases h with ⟨_, rfl⟩ | ⟨mb, D, h1, h2, h3⟩
  · exact absurd rfl hne
  · exact ⟨mb, D, h1, h2, h3⟩
theorem bytes_toList (l : List UInt8) : (⟨l.toArray⟩ : ByteArray).toList = l := by simp
/-- cut: the error ahead of the turn; the error, the disk, the files -/
def cutE (ps : List PFile) (nm : List UInt8) (size : Int) : Int := if size < 0 ∨ (hasP ps nm = true ∧ ((getP ps nm).1.length : Int) < size) then 1 else if hasP ps nm then 0 else 6
def cutP (d : LDisk) (ps : List PFile) (nm : List UInt8) (size : Int) : Int × LDisk × List PFile :=
  let r := turnL d (cutE ps nm size)
  if r.1 then (r.2.1, r.2.2, putP ps (nm, (getP ps nm).1.take size.toNat, size.toNat)) else (r.2.1, r.2.2, ps)
theorem turn_ok {d : LDisk} {e : Int} (h : (turnL d e).1 = true) : e = 0 := by
  unfold turnL at h
  split at h
  · cases h
  · split at h
    · cases h
    · rename_i h1
      exact Classical.byContradiction h1
theorem cutE_zero {ps : List PFile} {nm : List UInt8} {size : Int} (h : cutE ps nm size = 0) : hasP ps nm = true ∧ 0 ≤ size ∧ size ≤ ((getP ps nm).1.length : Int) := by
  unfold cutE at h
  split at h
  · cases h
  · rename_i h1
    split at h
    · rename_i h2
      exact ⟨h2, Int.not_lt.1 fun h3 => h1 (.inl h3), Int.not_lt.1 fun h3 => h1 (.inr ⟨h2, h3⟩)⟩
    · cases h
set_option maxRecDepth 100000 in
set_option maxHeartbeats 2000000 in
theorem cut_any (d : LDisk) (mv : Value) (b : Nat) (fs : List DF) (S : Nat → Prop) (nm : List UInt8) (size : Int) (w : World)
    (hd : Disk_ w b S mv d fs) (hn : nm.length ≤ 140737488355328) (hsz : fs.length ≤ 1048576) (hl : d.armed = true → 0 ≤ d.left ∧ d.left ≤ 9223372036854775807) :
    Calls Try.prog 19 #[.pointer (some ⟨b, 0, none⟩), .string ⟨nm.toArray⟩, .int .i64 size] w (RetD b S mv (cutP d (fs.map DF.p) nm size) w) := by
  have hnd := hd.2.1.nodup
  have T := thereD_any d mv b S fs nm w hd hn
  obtain ⟨e0, he0⟩ : ∃ e0 : Int, e0 = (if nm ∈ fs.map DF.name then (0 : Int) else 6) := ⟨_, rfl⟩
  obtain ⟨e1, he1⟩ : ∃ e1 : Int, e1 = cutE (fs.map DF.p) nm size := ⟨_, rfl⟩
  have hP2 : cutP d (fs.map DF.p) nm size = (if (turnL d e1).1 then ((turnL d e1).2.1, (turnL d e1).2.2, putP (fs.map DF.p) (nm, (getP (fs.map DF.p) nm).1.take size.toNat, size.toNat)) else ((turnL d e1).2.1, (turnL d e1).2.2, fs.map DF.p)) := by
    unfold cutP
    rw [← he1]
  rw [← he0] at T
  have HP := Lib.hid hP2
  have HE1 := Lib.hid he1
  have HE0 := Lib.hid he0
  clear hP2 he1 he0
  have lb := hd.1.lt
  go_enter Try.func19, Try.ntmps19
  go_wp2_with fail
  refine T.mono ?_
  clear T
  rintro en w1 ⟨rfl, b01⟩
  have hd1 := hd.below b01
  have y10 : w1.cell? ⟨b, 0, none⟩ = some mv := hd1.1.cell 0
  obtain ⟨gb, hgb⟩ : ∃ gb : Bool, gb = decide (size < 0 ∨ (hasP (fs.map DF.p) nm = true ∧ ((getP (fs.map DF.p) nm).1.length : Int) < size)) := ⟨_, rfl⟩
  have HGB := Lib.hid hgb
  clear hgb
  go_upto_region 2 with fail
  go_cut [29] (fun s wx => s = .bool gb ∧ wx = w1)
  case first =>
    by_cases hneg : size < 0
    · have e : gb = true := by rw [HGB.out, decide_eq_true_iff]; exact .inl hneg
      subst e
      go_wp2_with fail
      go_meet
      case rel => exact ⟨rfl, rfl⟩
    · by_cases hm : nm ∈ fs.map DF.name
      · have e : e0 = 0 := by rw [HE0.out, if_pos hm]
        have hh : hasP (fs.map DF.p) nm = true := hasP_map.2 hm
        subst e
        clear HE0
        rcases hd1.2.1.map_ (by rintro rfl; cases hm) with ⟨mb, D, rfl, hown, hD⟩
        have law : Keyed Try.prog 9 := string_keyed Try.underlying9
        have hkey := key_lit nm hn
        rcases hD.look nm with ⟨q, hq, rfl, ha, _⟩ | ⟨hm2, _, _⟩
        · have hget := getP_some hnd hq
          have hfd := field_data q.A q.data.length q.c (q.safe : Int) w1
          have hG : gb = decide ((q.data.length : Int) < size) := by
            rw [HGB.out, hh, hget]
            simp [hneg]
          subst hG
          clear HGB hh hm
          have hlk : (Instr.lookup 70 (.map (some mb)) (.string ⟨q.name.toArray⟩) false).run Try.prog w1 = .ok (.agg #[.slice q.A q.data.length q.c, .int .i64 (q.safe : Int)]) w1 := by
            obtain ⟨v', ps, hrun, hv'⟩ := hown.lookup law Try.underlying70 (zeroF w1) (zd := .held zF) (zp := []) rfl hkey
            have h1 : some (DataW.held v', ([] : List MemPlace)) = some (D.atKey (.string q.name) (.held zF), ps) := hv'
            rw [ha] at h1
            injection h1 with h1
            injection h1 with h1 h2
            injection h1 with h1
            rw [hrun, h1]
            rfl
          go_wp2_with fail
          go_meet
          case rel => exact ⟨rfl, rfl⟩
        · exact absurd hm hm2
      · have e : e0 = 6 := by rw [HE0.out, if_neg hm]
        have hh : hasP (fs.map DF.p) nm = false := by
          cases hb : hasP (fs.map DF.p) nm with
          | false => rfl
          | true => exact absurd (hasP_map.1 hb) hm
        have hG : gb = false := by rw [HGB.out, hh]; simp [hneg]
        subst e hG
        go_wp2_with fail
        go_meet
        case rel => exact ⟨rfl, rfl⟩
  case rest =>
    obtain ⟨rfl, hwc⟩ := hcut
    replace hwc := hwc.symm
    subst hwc
    go_upto_if 29 with fail
    go_cut [7] (fun s wx => s = .int .i64 e1 ∧ wx = w1)
    case first =>
      cases gb with
      | true =>
        have e : e1 = 1 := by
          rw [HE1.out, cutE, if_pos (of_decide_eq_true HGB.out.symm)]
        subst e
        go_wp2_with fail
        go_meet
        case rel => exact ⟨rfl, rfl⟩
      | false =>
        have e : e1 = e0 := by
          rw [HE1.out, cutE, if_neg (of_decide_eq_false HGB.out.symm), HE0.out]
          simp only [hasP_map]
        subst e
        go_wp2_with fail
        go_meet
        case rel => exact ⟨rfl, rfl⟩
    case rest =>
      obtain ⟨rfl, hwc⟩ := hcut
      replace hwc := hwc.symm
      subst hwc
      clear y10 HGB gb HE0
      have hin : (turnL d e1).1 = true → hasP (fs.map DF.p) nm = true ∧ 0 ≤ size ∧ size ≤ ((getP (fs.map DF.p) nm).1.length : Int) := fun h => cutE_zero (HE1.out.symm.trans (turn_ok h))
      have HI := Lib.hid hin
      clear hin HE1
      go_wp2_with fail
      refine (turnD_any d mv b S fs e1 w1 hd1 hl).mono ?_
      generalize turnL d e1 = r at HP HI ⊢
      obtain ⟨ok, er, d2⟩ := r
      rintro en w2 ⟨rfl, hd2, g2⟩
      have D2 : DKept b mv w w2 := DKept.trans (DKept.of_below b01) (DKept.of_grown g2) (.inl rfl)
      dsimp only at HP HI hd2 ⊢
      clear hd1 g2 b01 hd
      cases ok with
      | false =>
        go_wp2_with fail
        go_ret
        rw [HP.out]
        exact ⟨rfl, mv, S, fs, hd2, rfl, fun g h => .inl h, .inl rfl, D2⟩
      | true =>
        obtain ⟨hm, h0, hle⟩ := HI.out rfl
        obtain ⟨n, rfl⟩ := Int.eq_ofNat_of_zero_le h0
        have y20 : w2.cell? ⟨b, 0, none⟩ = some mv := hd2.1.cell 0
        clear h0 hm
        have hmem : (0 : Int) ≤ (n : Int) := by omega
        go_wp2_with (at_lookup; refine wpList_lookF rfl _ _ rfl mv fs rfl hd2.2.1 nm hn rfl ?_; intro A data c safe hold; obtain ⟨hb, hat, hsafe⟩ := hold.row hd2.2.2.1; have hcp := hold.caps hd2.2.2.1; have hget := hold.get hnd; rw [hget] at hle; dsimp only at hle; have hin2 : (n : Int) ≤ (c : Int) := Int.le_trans hle (by have := hcp.1; omega); have hfd := field_data A data.length c (safe : Int))
        have hnl : n ≤ data.length := by omega
        have hb3d : Bs w2 A (data.take n) := hb.take3 n hnl
        have hlt3 : (data.take n).length = n := by rw [List.length_take]; omega
        have TC := bclone_any A (data.take n) c w2 hb3d
        rw [hlt3] at TC
        obtain ⟨dt, hdt⟩ : ∃ dt, dt = data.take n := ⟨_, rfl⟩
        rw [← hdt] at TC hlt3
        have HDT := Lib.hid hdt
        have HLT := Lib.hid hlt3
        clear hdt hb3d hlt3
        refine TC.mono ?_
        clear TC
        rintro en w4 ⟨A4, c4, rfl, o4, b4⟩
        replace o4 : OwnB w2.heap.size w4 A4 dt c4 := o4
        have hd4 := (hd2.below b4).more (S' := fun g => S g ∨ (w2.heap.size ≤ g ∧ g < w4.heap.size)) (fun g h => .inl h) (fun g h => by
          rcases h with h | h
          · exact (hd2.below b4).2.2.2.2 g h
          · exact ⟨h.2, by have := hd2.1.lt; omega, fun e => by have := hd2.2.1.lt e; omega⟩)
        have T5 := putD_any d2 mv b _ fs ⟨nm, A4, dt, c4, n⟩ w4 hd4 hn hsz ⟨OwnB.bs o4 (by rw [HLT.out]; have := hb.le; omega), fun ad e h => .inr (OwnB.at_ o4 ad e h), (OwnB.caps o4).1, (OwnB.caps o4).2, by show n ≤ dt.length; rw [HLT.out]; omega⟩
        go_wp2_with fail
        refine T5.mono ?_
        clear T5
        rintro en w5 ⟨rfl, mv', hd5, hm5, D5⟩
        go_wp2_with fail
        go_ret
        rw [HP.out, if_pos trivial]
        have s2 := D2.1
        have s4 := b4.size
        refine ⟨rfl, mv', _, _, hd5, ?_, ?_, ?_, DKept.trans D2 (DKept.trans (DKept.of_below b4) D5 (.inl rfl)) (.inl rfl)⟩
        · rw [putP_map, hget]
          show putP _ (nm, dt, n) = putP _ (nm, data.take (n : Int).toNat, (n : Int).toNat)
          rw [Int.toNat_natCast, HDT.out]
        · rintro g (h | h)
          · exact .inl h
          · exact .inr (by omega)
        · rcases hm5 with e | ⟨m, e, hm⟩
          · exact .inl e
          · exact .inr ⟨m, e, by omega⟩
end Go.Proofs.Ytbldfgpnghoigaa

namespace Go.Proofs.Ytbldfgpnghoigaa
open Go.RowKit
open Go.Maps

theorem lit_toList (l : List UInt8) : (⟨l.toArray⟩ : ByteArray).toList = l := by simp
theorem take_lit (s : List UInt8) (n : Nat) : ((⟨s.toArray⟩ : ByteArray).extract 0 n).toList = s.take n := by
  rw [ByteArray.toList_eq, ByteArray.data_extract]
  simp
theorem pre_eq (s p : List UInt8) : (((⟨s.toArray⟩ : ByteArray).extract 0 p.length).toList == p) = p.isPrefixOf s := by
  rw [take_lit, Bool.eq_iff_iff, beq_iff_eq, List.isPrefixOf_iff_prefix, List.prefix_iff_eq_take]
  exact eq_comm
theorem pre_long {s p : List UInt8} (h : ¬ p.length ≤ s.length) : p.isPrefixOf s = false := by
  rw [← Bool.not_eq_true, List.isPrefixOf_iff_prefix]
  exact fun h2 => h h2.length_le
set_option maxRecDepth 100000 in
set_option maxHeartbeats 1000000 in
theorem hasp_any (s p : List UInt8) (w : World) (_hs : s.length ≤ 140737488355328) (_hp : p.length ≤ 140737488355328) :
    Calls Try.prog 47 #[.string ⟨s.toArray⟩, .string ⟨p.toArray⟩] w (fun en w' => en = .returned (.bool (p.isPrefixOf s)) ∧ w' = w) := by
  go_enter Try.func47, Try.ntmps47
  by_cases h : p.length ≤ s.length
  · have h2 : (p.length : Int) ≤ (s.length : Int) := by omega
    go_wp2
    go_ret
    exact ⟨by rw [← pre_eq]; rfl, rfl⟩
  · have h2 : ¬ (p.length : Int) ≤ (s.length : Int) := by omega
    have e := Lib.hid (pre_long h)
    go_wp2
    go_ret
    exact ⟨by rw [e.out]; rfl, rfl⟩
theorem listc_any (s p : List UInt8) (g : Nat) (w : World) (hs : s.length ≤ 140737488355328) (hp : p.length ≤ 140737488355328) (hb : w.cell? ⟨g, 0, none⟩ = some (.string ⟨p.toArray⟩)) :
    Calls Try.prog 46 #[.string ⟨s.toArray⟩, .pointer (some ⟨g, 0, none⟩)] w (fun en w' => en = .returned (.bool (!p.isPrefixOf s)) ∧ w' = w) := by
  go_enter Try.func46, Try.ntmps46
  go_wp2_with fail
  refine (hasp_any s p w hs hp).mono ?_
  rintro en w' ⟨rfl, rfl⟩
  go_wp2_with fail
  go_ret
  exact ⟨rfl, rfl⟩
/-- the first one that does not begin so -/
def FirstI (p : List UInt8) (l : List (List UInt8)) (i : Int) : Prop := (i = -1 ∧ ∀ k (h : k < l.length), p.isPrefixOf l[k] = true) ∨ ∃ (k : Nat) (h : k < l.length), i = k ∧ p.isPrefixOf l[k] = false ∧ ∀ j (hj : j < l.length), j < k → p.isPrefixOf l[j] = true
set_option maxHeartbeats 1000000 in
theorem sidx_any (p : List UInt8) (g c base : Nat) (A : Option Addr) (l : List (List UInt8)) (w : World) (ho : w.ownsRow base 9 1 (.slice A l.length c) l.length (l.map encStr)) (hl : l.length ≤ 1048576) (hn : ∀ x ∈ l, x.length ≤ 140737488355328) (hp : p.length ≤ 140737488355328) (hb : w.cell? ⟨g, 0, none⟩ = some (.string ⟨p.toArray⟩)) :
    Calls Try.prog 67 #[.slice A l.length c, .func (.func 46) #[] #[.pointer (some ⟨g, 0, none⟩)]] w (fun en w' => ∃ i, en = .returned (.int .i64 i) ∧ FirstI p l i ∧ w' = w) := by
  have HN := Lib.hid hn
  clear hn
  go_enter Try.func67, Try.ntmps67
  go_wp2_with fail
  go_loopw [5, 8] (fun _ i wr => ∃ k : Nat, k ≤ l.length ∧ i = .int .i64 k ∧ Hid (∀ j (h : j < l.length), j < k → p.isPrefixOf l[j] = true) ∧ wr = w) (fun _ i _ => l.length - (Lib.intOf i).toNat)
  case atStart => exact ⟨0, Nat.zero_le _, rfl, fun j _ h => absurd h (by omega), rfl⟩
  case round =>
    obtain ⟨k, hk, rfl, HNO, hwr⟩ := hrel
    subst hwr
    by_cases hlt : k < l.length
    · obtain ⟨ad, rfl, hc⟩ := names_at ho hlt
      have hx := HN.out _ (List.getElem_mem hlt)
      go_wp2_with fail
      refine (listc_any l[k] p g _ hx hp hb).mono ?_
      rintro en w1 ⟨rfl, rfl⟩
      cases hpb : p.isPrefixOf l[k] with
      | false =>
        have HPB := Lib.hid hpb
        clear hpb
        go_wp2_with fail
        go_ret
        exact ⟨_, rfl, .inr ⟨k, hlt, rfl, HPB.out, HNO.out⟩, rfl⟩
      | true =>
        have HPB := Lib.hid hpb
        clear hpb
        go_wp2_with fail
        go_roundw
        case rel => exact ⟨k + 1, by omega, by simp, fun j hj h => (by by_cases e : j = k; (subst e; exact HPB.out); exact HNO.out j hj (by omega)), trivial⟩
        case measure => simp [Lib.intOf]; omega
    · obtain rfl : k = l.length := by omega
      go_wp2_with fail
      go_ret
      exact ⟨_, rfl, .inl ⟨rfl, fun j hj => HNO.out j hj hj⟩, rfl⟩
theorem zeroS (w : World) : (zeroValue 9).run Try.prog w = .ok (.string ⟨#[]⟩) w := by kernel_rfl
theorem own_len {w : World} {base size n : Nat} {e : TypeId} {v : Value} {xs : List Value} (h : w.ownsRow base e size v n xs) : xs.length = n * size := h.1
/-- cells from o on are stored anew; the beginning of the row reads as it did -/
theorem own_setCells {base c g : Nat} {t : TypeId} : ∀ (vs : List Value) (o : Nat) (w : World) (n : Nat) (xs : List Value), w.ownsRow base t 1 (.slice (some ⟨g, 0, none⟩) n c) n xs →
    ∃ ys, (w.setCells g o vs).ownsRow base t 1 (.slice (some ⟨g, 0, none⟩) n c) n ys ∧ ys.take o = xs.take o ∧ w.grownBy (w.setCells g o vs) (some g)
  | [], _, w, n, xs, h => ⟨xs, h, rfl, World.grownBy.refl _ _⟩
  | v :: r, o, w, n, xs, h => by
    obtain ⟨h1, h2⟩ := h.stored o v
    obtain ⟨ys, h3, h4, h5⟩ := own_setCells r (o + 1) _ n _ h1
    refine ⟨ys, h3, ?_, h2.trans h5⟩
    have h6 : (ys.take (o + 1)).take o = ((xs.set o v).take (o + 1)).take o := by rw [h4]
    rw [List.take_take, List.take_take, Nat.min_eq_left (by omega), List.take_set_of_le (Nat.le_refl _)] at h6
    exact h6
/-- a row's beginning is a row -/
theorem own_cut {w : World} {base c g n k : Nat} {t : TypeId} {xs : List Value} (h : w.ownsRow base t 1 (.slice (some ⟨g, 0, none⟩) n c) n xs) (hk : k ≤ n) : w.ownsRow base t 1 (.slice (some ⟨g, 0, none⟩) k c) k (xs.take k) := by
  rcases h.2 with ⟨h', _⟩ | ⟨g', cap', cur, h', hb, hg, hnc, hcm, hcs, htake⟩
  · simp at h'
  · injection h' with e1 e2 e3
    refine ⟨by rw [List.length_take, h.1]; omega, .inr ⟨g', cap', cur, by rw [e1, e3], hb, hg, by omega, hcm, hcs, ?_⟩⟩
    rw [← htake, List.take_take, Nat.min_eq_left (by omega), Nat.mul_one]
set_option maxRecDepth 100000 in
set_option maxHeartbeats 2000000 in
theorem sdel_any (p : List UInt8) (g c base : Nat) (A : Option Addr) (l : List (List UInt8)) (w : World) (ho : w.ownsRow base 9 1 (.slice A l.length c) l.length (l.map encStr)) (hl : l.length ≤ 1048576) (hn : ∀ x ∈ l, x.length ≤ 140737488355328) (hp : p.length ≤ 140737488355328) (hb : w.cell? ⟨g, 0, none⟩ = some (.string ⟨p.toArray⟩)) (hg : (Value.slice A l.length c).ownBlock ≠ some g) :
    Calls Try.prog 44 #[.slice A l.length c, .func (.func 46) #[] #[.pointer (some ⟨g, 0, none⟩)]] w (fun en w' => en = .returned (.slice A (l.filter (p.isPrefixOf ·)).length c) ∧ w'.ownsRow base 9 1 (.slice A (l.filter (p.isPrefixOf ·)).length c) (l.filter (p.isPrefixOf ·)).length ((l.filter (p.isPrefixOf ·)).map encStr) ∧ w.grownBy w' (Value.slice A l.length c).ownBlock) := by
  have T := sidx_any p g c base A l w ho hl hn hp hb
  have HN := Lib.hid hn
  clear hn
  go_enter Try.func44, Try.ntmps44
  go_wp2_with fail
  refine T.mono ?_
  clear T
  rintro en w1 ⟨i, rfl, hi, hw⟩
  subst hw
  rcases hi with ⟨rfl, hall⟩ | ⟨k, hk, rfl, hno, hyes⟩
  · have hF : l.filter (p.isPrefixOf ·) = l := List.filter_eq_self.2 fun x hx => by
      obtain ⟨j, hj, rfl⟩ := List.getElem_of_mem hx
      exact hall j hj
    have HF := Lib.hid hF
    clear hF hall
    go_wp2_with fail
    go_ret
    rw [HF.out]
    exact ⟨rfl, ho, World.grownBy.refl _ _⟩
  · have ht : (l.take k).filter (p.isPrefixOf ·) = l.take k := List.filter_eq_self.2 fun x hx => by
      obtain ⟨j, hj, rfl⟩ := List.getElem_of_mem hx
      rw [List.length_take] at hj
      rw [List.getElem_take]
      exact hyes j (by omega) (by omega)
    have ht1 : (l.take (k + 1)).filter (p.isPrefixOf ·) = l.take k := by
      rw [List.take_succ_eq_append_getElem hk, List.filter_append, ht, List.filter_cons_of_neg (by rw [hno]; decide), List.filter_nil, List.append_nil]
    have HT1 := Lib.hid ht1
    clear hno hyes ht ht1
    obtain ⟨gA, rfl⟩ : ∃ gA, A = some ⟨gA, 0, none⟩ := by
      obtain ⟨g, cap, e, _⟩ := ho.form (by omega)
      injection e with e
      exact ⟨g, e⟩
    have hgA : gA ≠ g := fun e => hg (by rw [e]; rfl)
    have hne : ((k : Int) == -1) = false := by rw [beq_eq_false_iff_ne]; omega
    go_wp2_with fail
    go_loopw [5, 6] (fun v5 v6 wr => ∃ (i j : Nat) (l' : List (List UInt8)), v5 = .int .i64 (i : Int) ∧ v6 = .int .i64 (j : Int) ∧ i < j ∧ j ≤ l.length ∧ l'.length = l.length ∧ Hid (l'.take i = (l.take j).filter (p.isPrefixOf ·)) ∧ Hid (l'.drop j = l.drop j) ∧ wr.ownsRow base 9 1 (.slice (some ⟨gA, 0, none⟩) l.length c) l.length (l'.map encStr) ∧ w1.grownBy wr (some gA)) (fun _ v6 _ => l.length - (Lib.intOf v6).toNat)
    case atStart => exact ⟨k, k + 1, l, rfl, by simp, by omega, by omega, rfl, HT1.out.symm, rfl, ho, World.grownBy.refl _ _⟩
    case round =>
      obtain ⟨i, j, l', rfl, rfl, hij, hj, hl', H1, H2, ho2, hg2⟩ := hrel
      have HL := Lib.hid hl'
      have hb2 : wr.cell? ⟨g, 0, none⟩ = some (.string ⟨p.toArray⟩) := by
        rw [← hb]
        refine World.cell?_of_block (hg2.block g ?_ (fun e => hgA (Option.some.inj e).symm))
        rcases Nat.lt_or_ge g w1.heap.size with h5 | h5
        · exact h5
        · simp [World.cell?, Array.getElem?_eq_none h5] at hb
      rcases Nat.lt_or_ge j l.length with hlt | hge
      · have hcj : wr.cell? ⟨gA, j, none⟩ = some (.string ⟨(l[j]).toArray⟩) := by
          have h := ho2.cells (g := gA) rfl j (encStr l[j]) (by
            rw [List.getElem?_map]
            have h3 : (l'.drop j)[0]? = (l.drop j)[0]? := by rw [H2.out]
            rw [List.getElem?_drop, List.getElem?_drop, Nat.add_zero, List.getElem?_eq_getElem hlt] at h3
            rw [h3]; rfl)
          rwa [add_row] at h
        have hcA : wr.cell? ((⟨gA, 0, none⟩ : Addr).add j) = some (.string ⟨(l[j]).toArray⟩) := by rw [add_row]; exact hcj
        have hx := HN.out _ (List.getElem_mem hlt)
        have hfz : wr.frozen? ⟨gA, i, none⟩ = false := ho2.frozenAt i
        have hci : ∃ u, wr.cell? ⟨gA, i, none⟩ = some u := by
          have h := ho2.cells (g := gA) rfl i (encStr (l'[i]'(by omega))) (by rw [List.getElem?_map, List.getElem?_eq_getElem (by omega)]; rfl)
          exact ⟨_, by rwa [add_row] at h⟩
        obtain ⟨ui, hci⟩ := hci
        have hst := ho2.stored i (.string ⟨(l[j]).toArray⟩)
        clear hl'
        go_wp2_with fail
        refine (listc_any l[j] p g _ hx hp hb2).mono ?_
        rintro en w2 ⟨rfl, hw2⟩
        subst hw2
        cases hpb : p.isPrefixOf l[j] with
        | false =>
          have HPB := Lib.hid hpb
          clear hpb hst
          go_wp2_with fail
          go_roundw
          case rel =>
            refine ⟨i, j + 1, l', rfl, by simp, by omega, by omega, HL.out, ?_, ?_, ho2, hg2⟩
            · show _ = _
              rw [List.take_succ_eq_append_getElem hlt, List.filter_append, List.filter_cons_of_neg (by rw [HPB.out]; decide), List.filter_nil, List.append_nil]
              exact H1.out
            · show _ = _
              have h3 : (l'.drop j).drop 1 = (l.drop j).drop 1 := by rw [H2.out]
              rwa [List.drop_drop, List.drop_drop] at h3
          case measure => simp [Lib.intOf]; omega
        | true =>
          have HPB := Lib.hid hpb
          clear hpb
          go_wp2_with fail
          go_roundw
          case rel =>
            refine ⟨i + 1, j + 1, l'.set i l[j], by simp, by simp, by omega, by omega, by rw [List.length_set]; exact HL.out, ?_, ?_, ?_, hg2.trans hst.2⟩
            · show _ = _
              have hl' := HL.out
              rw [List.take_succ_eq_append_getElem hlt, List.filter_append, List.filter_cons_of_pos HPB.out, List.filter_nil, ← H1.out, List.take_succ_eq_append_getElem (by rw [List.length_set]; omega), List.getElem_set_self, List.take_set_of_le (Nat.le_refl _)]
            · show _ = _
              rw [List.drop_set_of_lt (by omega)]
              have h3 : (l'.drop j).drop 1 = (l.drop j).drop 1 := by rw [H2.out]
              rwa [List.drop_drop, List.drop_drop] at h3
            · have h4 := hst.1
              rw [List.map_set]
              exact h4
          case measure => simp [Lib.intOf]; omega
      · obtain rfl : j = l.length := by omega
        have hcap := (own_caps ho2).1
        have hrow : ∀ x, x < l.length - i → (wr.cell? ⟨gA, i + x, none⟩).isSome = true := fun x hx => by
          have h := ho2.cells (g := gA) rfl (i + x) (encStr (l'[i + x]'(by omega))) (by rw [List.getElem?_map, List.getElem?_eq_getElem (by omega)]; rfl)
          rw [add_row] at h
          rw [h]; rfl
        have hcl : ∀ ty, (Builtin.clear_ #[38] ty #[.slice (some ⟨gA, i, none⟩) (l.length - i) (c - i)]).run Try.prog wr = .ok (.tuple #[]) (wr.setCells gA i (List.replicate (l.length - i) (.string ⟨#[]⟩))) :=
          fun ty => Lib.run_clear_slice wr _ _ ty _ Try.underlying38 zeroS rfl rfl gA i _ _ (by omega) hrow (fun x _ => ho2.frozenAt (i + x))
        obtain ⟨ys, ho3, hy, hg3⟩ := own_setCells (List.replicate (l.length - i) (.string ⟨#[]⟩)) i wr l.length (l'.map encStr) ho2
        have ho4 := own_cut ho3 (k := i) (by omega)
        rw [hy, ← List.map_take, H1.out, List.take_length] at ho4
        have hfl : i = (l.filter (p.isPrefixOf ·)).length := by
          have h := congrArg List.length H1.out
          rw [List.take_length, List.length_take] at h
          omega
        have HFL := Lib.hid hfl
        have hci : ¬ (c = i) := by omega
        clear hl' hrow hfl hy ho3 ho
        go_wp2_with (simp only [hcl])
        go_ret
        have e := HFL.out
        rw [← e]
        exact ⟨rfl, ho4, hg2.trans hg3⟩
/-- the names that begin so, rising -/
def listP (d : LDisk) (ps : List PFile) (p : List UInt8) : List (List UInt8) := if d.dead then [] else (sortN (ps.map (·.1))).filter (p.isPrefixOf ·)
set_option maxRecDepth 100000 in
set_option maxHeartbeats 2000000 in
theorem listD_any {w : World} {b : Nat} {F : Nat → Prop} {d : LDisk} {ps : List PFile} (hd : DD w b F d ps) (hp : PsOk ps) (p : List UInt8) (hpl : p.length ≤ 140737488355328) :
    Calls Try.prog 16 #[.pointer (some ⟨b, 0, none⟩), .string ⟨p.toArray⟩] w (RetN (listP d ps p) w) := by
  obtain ⟨mv, S, fs, hd1, rfl, _⟩ := hd
  have hnl : ∀ x ∈ sortN (fs.map DF.name), x.length ≤ 140737488355328 := fun x hx => by
    obtain ⟨q, hq, rfl⟩ := List.mem_map.1 ((sortN_perm _).mem_iff.1 hx)
    exact ok_names hp q hq
  have hll : (sortN (fs.map DF.name)).length ≤ 1048576 := by rw [sortN_length, List.length_map]; exact ok_len hp
  have hL : listP d (fs.map DF.p) p = if d.dead then [] else (sortN (fs.map DF.name)).filter (p.isPrefixOf ·) := by
    unfold listP
    rw [List.map_map]
    rfl
  have HL := Lib.hid hL
  have HN := Lib.hid hnl
  clear hL hnl
  have b1 : Below w.heap.size w (w.alloc (.cells #[.string ⟨p.toArray⟩] 9)) := (Below.refl _ _).alloc (Nat.le_refl _) _
  have kg := Blk.new w 9 #[.string ⟨p.toArray⟩]
  have hd2 := hd1.below b1
  have hlen : w.heap.size < (w.alloc (.cells #[.string ⟨p.toArray⟩] 9)).heap.size := kg.lt
  go_enter Try.func16, Try.ntmps16
  go_upto_region 1 with fail
  generalize (w.alloc (.cells #[.string ⟨p.toArray⟩] 9)) = w1 at *
  have y4 : w1.cell? ⟨b, 4, none⟩ = some (.bool d.dead) := hd2.1.cell 4
  cases hdd : d.dead with
  | true =>
    rw [hdd] at y4
    have HDD := Lib.hid hdd
    clear hdd
    go_wp2_with fail
    go_ret
    rw [HL.out, HDD.out]
    exact ⟨none, 0, rfl, World.ownsRow_nil _ _ _ _, b1⟩
  | false =>
    rw [hdd] at y4
    have HDD := Lib.hid hdd
    clear hdd
    have T := names_any d mv b fs w1 hd2.1 hd2.2.1 (ok_len hp)
    go_wp2_with fail
    refine T.mono ?_
    clear T
    rintro en w2 ⟨A, c, rfl, o2, b2⟩
    have hb2 : w2.cell? ⟨w.heap.size, 0, none⟩ = some (.string ⟨p.toArray⟩) := (kg.below b2 kg.lt).cell 0
    have T := sdel_any p w.heap.size c w1.heap.size A (sortN (fs.map DF.name)) w2 o2 hll HN.out hpl hb2 (fun e => by have := (o2.lt _ e).1; omega)
    have hown := o2.lt
    go_wp2_with fail
    refine T.mono ?_
    clear T
    rintro en w3 ⟨rfl, o3, g3⟩
    have b3 : Below w.heap.size w w3 := (b1.trans (b2.mono (by omega))).grown g3 (by have := b2.size; omega) (fun j hj => by have := (hown j hj).1; omega)
    have H4 : Hid (listP d (fs.map DF.p) p = (sortN (fs.map DF.name)).filter (p.isPrefixOf ·)) := by
      show _ = _
      rw [HL.out, HDD.out]
      rfl
    clear hown o2
    go_wp2_with fail
    go_ret
    rw [H4.out]
    exact ⟨A, c, rfl, own_mono o3 (by omega), b3⟩
end Go.Proofs.Ytbldfgpnghoigaa
