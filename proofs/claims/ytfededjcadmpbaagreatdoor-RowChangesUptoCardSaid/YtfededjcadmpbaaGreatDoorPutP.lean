/- Pairs behind writes: caissonlaw14.put; is each of one list of pairs in another: caissonlaw14.within. -/
import Derived.Test.YtfededjcadmpbaaGreatDoorPutR
namespace Go.Proofs.YtfededjcadmpbaaGreatDoor
open Go.RowKit

/-- pairs of bytes -/
def PrE : ER (List UInt8 × List UInt8) where
  size := 2
  pos := by omega
  bytes := 48
  bpos := by omega
  rep w S vs x := ∃ D c F d, vs = [.slice D x.1.length c, .slice F x.2.length d] ∧ (Bs w D x.1 ∧ At S D x.1.length) ∧ Bs w F x.2 ∧ At S F x.2.length
  len := by rintro w S vs a ⟨D, c, F, d, rfl, _⟩; rfl
  one := by rintro w S vs a ⟨D, c, F, d, rfl, _⟩ v hv; simp at hv; rcases hv with rfl | rfl <;> rfl
  keep := by rintro w w' S vs a ⟨D, c, F, d, rfl, ⟨h, ha⟩, k, ka⟩ hs; exact ⟨D, c, F, d, rfl, ⟨h.sameS ha hs, ha⟩, k.sameS ka hs, ka⟩
  mono := by rintro w S S' vs a ⟨D, c, F, d, rfl, ⟨h, ha⟩, k, ka⟩ hs; exact ⟨D, c, F, d, rfl, ⟨h, h.atMono ha hs⟩, k, k.atMono ka hs⟩
theorem PrE.at_ {w : World} {A : Option Addr} {S : Nat → Prop} {l : List (List UInt8 × List UInt8)} (h : SlS PrE w S A l) {k : Nat} (hk : k < l.length) :
    ∃ ad D c F d, A = some ad ∧ ad.block < w.heap.size ∧ w.cell? (ad.add (k * 2)) = some (.slice D l[k].1.length c) ∧ w.cell? ⟨(ad.add (k * 2)).block, (ad.add (k * 2)).off + 1, none⟩ = some (.slice F l[k].2.length d) ∧ (Bs w D l[k].1 ∧ At S D l[k].1.length) ∧ Bs w F l[k].2 ∧ At S F l[k].2.length := by
  obtain ⟨ad, vs, rfl, hb, ⟨D, c, F, d, rfl, h1⟩, h4, _, h5⟩ := SlS.at_ h hk
  exact ⟨ad, D, c, F, d, rfl, hb, h4 _ rfl, h5 1 _ (by omega) rfl, h1⟩
theorem PrE.of_flat {w : World} {S : Nat → Prop} : ∀ {vs : List Value} {xs : List (List UInt8 × List UInt8)}, PairE.flat w S vs xs → PrE.flat w S vs xs
  | _, [], h => h
  | _, _ :: _, ⟨v, r, e, ⟨D, c, F, d, h0, ⟨h1, h2, _⟩, h3, h4, _⟩, h5⟩ => ⟨v, r, e, ⟨D, c, F, d, h0, ⟨h1, h2⟩, h3, h4⟩, PrE.of_flat h5⟩
theorem PrE.of {w : World} {A : Option Addr} {S : Nat → Prop} {l : List (List UInt8 × List UInt8)} (h : SlS PairE w S A l) : SlS PrE w S A l := by
  obtain ⟨h1, vs, h2, h3, h4⟩ := h
  exact ⟨h1, vs, h2, h3, PrE.of_flat h4⟩
/-- a list of pairs in a row -/
def RetPairs (m : List (List UInt8 × List UInt8)) (w : World) (en : Ending) (w' : World) : Prop :=
  ∃ D d, en = .returned (.slice D m.length d) ∧ Sl PrE w' D m ∧ Below w.heap.size w w'
theorem filt_step {α : Type} {F : α → Bool} {l : List α} {k : Nat} (h : k < l.length) : (l.take (k + 1)).filter F = (l.take k).filter F ++ if F l[k] = true then [l[k]] else [] := by
  rw [List.take_succ_eq_append_getElem h, List.filter_append]
  cases hb : F l[k] <;> simp [hb]
theorem any_step {α : Type} {F : α → Bool} {l : List α} {k : Nat} (h : k < l.length) : (l.take (k + 1)).any F = ((l.take k).any F || F l[k]) := by
  rw [List.take_succ_eq_append_getElem h, List.any_append]
  simp
set_option maxRecDepth 100000 in
set_option maxHeartbeats 4000000 in
theorem put_any (l : List (List UInt8 × List UInt8)) (ws : List Wr) (A B : Option Addr) (c d : Nat) (w : World) (hA : Sl PrE w A l) (hB : Sl WrE w B ws) (hl : l.length ≤ 10) (hw : ws.length ≤ 20) :
    Calls Tryz.prog 10 #[.slice A l.length c, .slice B ws.length d] w (RetPairs (putP l ws) w) := by
  obtain ⟨i1, hi1, hy0, hy1, hy2⟩ := info_parts Tryz.infoPair
  have hA0 : SlS PrE w (fun b => b < w.heap.size) A l := hA.mono fun b hlt _ => hlt
  have hB0 : SlS WrE w (fun b => b < w.heap.size) B ws := hB.mono fun b hlt _ => hlt
  clear hA hB
  go_enter Tryz.func10, Tryz.ntmps10
  go_wp2_with fail
  go_loopw [5, 7, 8, 10, 15] (fun o _ _ _ i wr => ∃ (k : Nat) (ps : List (List UInt8 × List UInt8)) (Bp : Option Addr) (dp : Nat), k ≤ l.length ∧ i = .int .i64 (k : Int) ∧ o = .slice Bp ps.length dp ∧ Own PrE 57 wr w.heap.size (fun b => b < w.heap.size) (.slice Bp ps.length dp) ps ∧ ps = (l.take k).filter (fun p => !(ws.any fun w => w.1 == p.1)) ∧ ps.length ≤ k ∧ Below w.heap.size w wr) (fun _ _ _ _ i _ => l.length - (intOf i).toNat)
  case atStart => exact ⟨0, [], none, 0, Nat.zero_le _, rfl, rfl, Own.nil_ PrE _ _ _ _, by rw [List.take_zero]; rfl, Nat.le_refl _, Below.refl _ _⟩
  case round =>
    obtain ⟨k, ps, Bp, dp, hk, rfl, rfl, oP, hp, hpl, bw⟩ := hrel
    generalize wr = wo at *
    have HP := Lib.hid hp
    clear hp
    have zr := bw.size
    by_cases hlt : k < l.length
    · have hlt' : (k : Int) < (l.length : Int) := by omega
      have HST := Lib.hid (filt_step (F := fun p => !(ws.any fun w => w.1 == p.1)) hlt)
      obtain ⟨ad, P, p, Q, q, rfl, ha, f0, f1, ⟨hP, aP⟩, hQ, aQ⟩ := PrE.at_ (hA0.below bw) hlt
      generalize l[k] = pr at *
      have dX : Below wo.heap.size wo (wo.alloc (.cells #[.slice P pr.1.length p, .slice Q pr.2.length q] 57)) := (Below.refl _ _).alloc (Nat.le_refl _) _
      have kp := Blk.new wo 57 #[.slice P pr.1.length p, .slice Q pr.2.length q]
      have bX := bw.trans (dX.mono zr)
      have hPX := hP.below dX
      have hQX := hQ.below dX
      have oPX := Own.below oP dX
      go_upto_region 5 with fail
      clear f0 f1 dX hP hQ oP bw
      generalize (wo.alloc (.cells #[.slice P pr.1.length p, .slice Q pr.2.length q] 57)) = XW at *
      have lX := kp.lt
      go_wp2_with fail
      go_loopw [8, 10, 21] (fun kb _ j w2 => ∃ m : Nat, m ≤ ws.length ∧ j = .int .i64 (m : Int) ∧ kb = .bool (!((ws.take m).any fun x => x.1 == pr.1)) ∧ Below XW.heap.size XW w2) (fun _ _ j _ => ws.length - (intOf j).toNat)
      case atStart => exact ⟨0, Nat.zero_le _, rfl, by rw [List.take_zero]; rfl, Below.refl _ _⟩
      case round =>
        obtain ⟨m, hm, rfl, rfl, b2⟩ := hrel
        generalize wr = w2 at *
        have z2 := b2.size
        have k2 := kp.below b2 lX
        by_cases hmt : m < ws.length
        · have hmt' : (m : Int) < (ws.length : Int) := by omega
          have HAN := Lib.hid (any_step (F := fun x : Wr => x.1 == pr.1) hmt)
          have bw2 := bX.trans (b2.mono bX.size)
          obtain ⟨bd, K, ck, V, cv, rfl, hb, i0, i1', i2, ⟨hK, -⟩, -⟩ := WrE.at_ (hB0.below bw2) hmt
          generalize ws[m] = x at *
          generalize ((ws.take m).any fun x => x.1 == pr.1) = kb at *
          have dY : Below w2.heap.size w2 (w2.alloc (.cells #[.slice K x.1.length ck, .slice V x.2.1.length cv, .bool x.2.2] 61)) := (Below.refl _ _).alloc (Nat.le_refl _) _
          have ky := Blk.new w2 61 #[.slice K x.1.length ck, .slice V x.2.1.length cv, .bool x.2.2]
          have bY := b2.trans (dY.mono z2)
          have kpY := k2.below dY k2.lt
          have hKY := hK.below dY
          have hPY := hPX.below bY
          have T := equal_any K P x.1 pr.1 ck p (w2.alloc (.cells #[.slice K x.1.length ck, .slice V x.2.1.length cv, .bool x.2.2] 61)) hKY hPY
          go_upto_region 9 with fail
          clear i0 i1' i2 dY b2 k2 hK bw2
          generalize (w2.alloc (.cells #[.slice K x.1.length ck, .slice V x.2.1.length cv, .bool x.2.2] 61)) = YW at *
          have y0 : YW.cell? ⟨w2.heap.size, 0, none⟩ = some (.slice K x.1.length ck) := ky.cell 0
          have y1 : YW.cell? ⟨wo.heap.size, 0, none⟩ = some (.slice P pr.1.length p) := kpY.cell 0
          cases kb with
          | true =>
            have HA2 : Hid (((ws.take (m + 1)).any fun x => x.1 == pr.1) = true) := by show _ = _; rw [HAN.out]; rfl
            go_wp2_with fail
            go_roundw
            case rel => exact ⟨m + 1, by omega, by go_num, by rw [HA2.out]; rfl, bY⟩
            case measure => simp [intOf]; omega
          | false =>
            have HA2 : Hid (((ws.take (m + 1)).any fun x => x.1 == pr.1) = (x.1 == pr.1)) := by show _ = _; rw [HAN.out]; rfl
            generalize (x.1 == pr.1) = eb at *
            go_wp2_with fail
            refine T.mono ?_
            rintro en w3 ⟨rfl, n3, rfl⟩
            go_wp2_with fail
            go_roundw
            case rel => exact ⟨m + 1, by omega, by go_num, by rw [HA2.out], below_drewN bY _⟩
            case measure => simp [intOf]; omega
        · obtain rfl : m = ws.length := by omega
          have bw2 := bX.trans (b2.mono bX.size)
          have zw2 := bw2.size
          have oP2 := Own.below oPX b2
          have hP2 := hPX.below b2
          have hQ2 := hQX.below b2
          rw [List.take_length]
          cases hkb : (ws.any fun x => x.1 == pr.1) with
          | true =>
            have HS2 : Hid ((l.take (k + 1)).filter (fun p => !(ws.any fun w => w.1 == p.1)) = ps) := by show _ = _; rw [HST.out, hkb, HP.out]; exact List.append_nil _
            clear hkb
            go_wp2_with fail
            go_roundw
            case rel => exact ⟨k + 1, ps, Bp, dp, by omega, by go_num, rfl, oP2, HS2.out.symm, by omega, bw2⟩
            case measure => simp [intOf]; omega
          | false =>
            have HS2 : Hid ((l.take (k + 1)).filter (fun p => !(ws.any fun w => w.1 == p.1)) = ps ++ [pr]) := by show _ = _; rw [HST.out, hkb, HP.out]; rfl
            clear hkb
            have y0 : w2.cell? ⟨wo.heap.size, 0, none⟩ = some (.slice P pr.1.length p) := k2.cell 0
            have y1 : w2.cell? ⟨wo.heap.size, 1, none⟩ = some (.slice Q pr.2.length q) := k2.cell 1
            have dZ : Below w2.heap.size w2 (w2.alloc (.cells #[.slice P pr.1.length p, .slice Q pr.2.length q] 57)) := (Below.refl _ _).alloc (Nat.le_refl _) _
            have bZ := bw2.trans (dZ.mono zw2)
            have oZ := Own.below oP2 dZ
            have hPZ := hP2.below dZ
            have hQZ := hQ2.below dZ
            have zZ := bZ.size
            have hlo : ∀ g, (Value.slice Bp ps.length dp).ownBlock = some g → w.heap.size ≤ g := fun g e => (Own.lt oPX g e).1
            have HLO := Lib.hid hlo
            clear hlo
            go_wp2_with (at_builtin; refine wpList_appE PrE w.heap.size w _ rfl (.tmp 36) (.tmp 38) 57 38 rfl i1 _ Tryz.underlying38 hi1 hy0 hy1 hy2 rfl _ Bp ps dp rfl oZ _ [.slice P pr.1.length p, .slice Q pr.2.length q] pr 1 rfl _ (Reads.newN w2 [.slice P pr.1.length p, .slice Q pr.2.length q] 57) ⟨P, p, Q, q, rfl, ⟨hPZ, fun ad e hn => ⟨aP ad e hn, fun e2 => by have h1 := HLO.out _ e2; have h2 : ad.block < w.heap.size := aP ad e hn; omega⟩⟩, hQZ, fun ad e hn => ⟨aQ ad e hn, fun e2 => by have h1 := HLO.out _ e2; have h2 : ad.block < w.heap.size := aQ ad e hn; omega⟩⟩ (by simp only [PrE]; omega) (by simp only [maxLen]; omega) bZ (Nat.le_refl _) zZ ?_; intro B9 d9 ps9 w9 H9 o9 b9 g9 t9)
            go_roundw
            case rel => exact ⟨k + 1, ps9, B9, d9, by omega, by go_num, rfl, o9, by rw [H9.out, HS2.out], by rw [H9.out, List.length_append, List.length_singleton]; omega, b9⟩
            case measure => simp [intOf]; omega
    · obtain rfl : k = l.length := by omega
      obtain ⟨m1, hm1⟩ : ∃ m1, m1 = l.filter (fun p => !(ws.any fun w => w.1 == p.1)) := ⟨_, rfl⟩
      have hpm : ps = m1 := by have h := HP.out; rw [List.take_length] at h; rw [h, hm1]
      have HPM := Lib.hid hpm
      have HM1 := Lib.hid hm1
      clear hpm hm1 HP hk hlt
      have hpl2 : ps.length ≤ 10 := by omega
      clear hpl
      go_wp2_with fail
      go_loopw [5, 12, 43] (fun o _ i wr2 => ∃ (k : Nat) (qs : List (List UInt8 × List UInt8)) (Bp : Option Addr) (dp : Nat), k ≤ ws.length ∧ i = .int .i64 (k : Int) ∧ o = .slice Bp qs.length dp ∧ Own PrE 57 wr2 w.heap.size (fun b => b < w.heap.size) (.slice Bp qs.length dp) qs ∧ qs = m1 ++ ((ws.take k).filter (fun w => !w.2.2)).map (fun w => (w.1, w.2.1)) ∧ qs.length ≤ 10 + k ∧ Below w.heap.size w wr2) (fun _ _ i _ => ws.length - (intOf i).toNat)
      case atStart => exact ⟨0, ps, Bp, dp, Nat.zero_le _, rfl, rfl, oP, by rw [List.take_zero]; exact HPM.out.trans (List.append_nil _).symm, by omega, bw⟩
      case round =>
        clear oP HPM hpl2 bw zr
        obtain ⟨k, qs, Bq, dq, hk, rfl, rfl, oP, hp, hpl, bw⟩ := hrel
        generalize wr = w2 at *
        have HP := Lib.hid hp
        clear hp
        have zr := bw.size
        by_cases hlt : k < ws.length
        · have hlt' : (k : Int) < (ws.length : Int) := by omega
          have HST := Lib.hid (filt_step (F := fun w : Wr => !w.2.2) hlt)
          obtain ⟨bd, K, ck, V, cv, rfl, hb, i0, i1', i2, ⟨hK, aK⟩, hV, aV⟩ := WrE.at_ (hB0.below bw) hlt
          generalize ws[k] = x at *
          have dY : Below w2.heap.size w2 (w2.alloc (.cells #[.slice K x.1.length ck, .slice V x.2.1.length cv, .bool x.2.2] 61)) := (Below.refl _ _).alloc (Nat.le_refl _) _
          have ky := Blk.new w2 61 #[.slice K x.1.length ck, .slice V x.2.1.length cv, .bool x.2.2]
          have bY := bw.trans (dY.mono zr)
          have hKY := hK.below dY
          have hVY := hV.below dY
          have oY := Own.below oP dY
          go_upto_region 17 with fail
          clear i0 i1' i2 dY hK hV oP bw
          generalize (w2.alloc (.cells #[.slice K x.1.length ck, .slice V x.2.1.length cv, .bool x.2.2] 61)) = YW at *
          have lY := ky.lt
          have y0 : YW.cell? ⟨w2.heap.size, 0, none⟩ = some (.slice K x.1.length ck) := ky.cell 0
          have y1 : YW.cell? ⟨w2.heap.size, 1, none⟩ = some (.slice V x.2.1.length cv) := ky.cell 1
          have y2 : YW.cell? ⟨w2.heap.size, 2, none⟩ = some (.bool x.2.2) := ky.cell 2
          have zY := bY.size
          cases hg : x.2.2 with
          | true =>
            have HS2 : Hid (((ws.take (k + 1)).filter (fun w => !w.2.2)).map (fun w => (w.1, w.2.1)) = ((ws.take k).filter (fun w => !w.2.2)).map (fun w => (w.1, w.2.1))) := by show _ = _; rw [HST.out, hg]; simp
            rw [hg] at y2
            clear hg
            go_wp2_with fail
            go_roundw
            case rel => exact ⟨k + 1, qs, Bq, dq, by omega, by go_num, rfl, oY, by rw [HS2.out]; exact HP.out, by omega, bY⟩
            case measure => simp [intOf]; omega
          | false =>
            have HS2 : Hid (((ws.take (k + 1)).filter (fun w => !w.2.2)).map (fun w => (w.1, w.2.1)) = ((ws.take k).filter (fun w => !w.2.2)).map (fun w => (w.1, w.2.1)) ++ [(x.1, x.2.1)]) := by show _ = _; rw [HST.out, hg]; simp
            rw [hg] at y2
            clear hg
            have dZ : Below YW.heap.size YW (YW.alloc (.cells #[.slice K x.1.length ck, .slice V x.2.1.length cv] 57)) := (Below.refl _ _).alloc (Nat.le_refl _) _
            have bZ := bY.trans (dZ.mono zY)
            have oZ := Own.below oY dZ
            have hKZ := hKY.below dZ
            have hVZ := hVY.below dZ
            have zZ := bZ.size
            have hlo : ∀ g, (Value.slice Bq qs.length dq).ownBlock = some g → w.heap.size ≤ g := fun g e => (Own.lt oY g e).1
            have HLO := Lib.hid hlo
            clear hlo
            go_wp2_with (at_builtin; refine wpList_appE PrE w.heap.size w _ rfl (.tmp 50) (.tmp 56) 57 38 rfl i1 _ Tryz.underlying38 hi1 hy0 hy1 hy2 rfl _ Bq qs dq rfl oZ _ [.slice K x.1.length ck, .slice V x.2.1.length cv] (x.1, x.2.1) 1 rfl _ (Reads.newN YW [.slice K x.1.length ck, .slice V x.2.1.length cv] 57) ⟨K, ck, V, cv, rfl, ⟨hKZ, fun ad e hn => ⟨aK ad e hn, fun e2 => by have h1 := HLO.out _ e2; have h2 : ad.block < w.heap.size := aK ad e hn; omega⟩⟩, hVZ, fun ad e hn => ⟨aV ad e hn, fun e2 => by have h1 := HLO.out _ e2; have h2 : ad.block < w.heap.size := aV ad e hn; omega⟩⟩ (by simp only [PrE]; omega) (by simp only [maxLen]; omega) bZ (Nat.le_refl _) zZ ?_; intro B9 d9 ps9 w9 H9 o9 b9 g9 t9)
            go_roundw
            case rel => exact ⟨k + 1, ps9, B9, d9, by omega, by go_num, rfl, o9, by rw [H9.out, HS2.out, HP.out, List.append_assoc], by rw [H9.out, List.length_append, List.length_singleton]; omega, b9⟩
            case measure => simp [intOf]; omega
        · obtain rfl : k = ws.length := by omega
          have HE : Hid (putP l ws = qs) := by show _ = _; have h := HP.out; rw [List.take_length] at h; rw [h, HM1.out]; rfl
          clear HP HM1
          go_wp2_with fail
          go_ret
          rw [HE.out]
          exact ⟨Bq, dq, rfl, Own.sl oP (by simp only [PrE]; omega), bw⟩
set_option maxRecDepth 100000 in
set_option maxHeartbeats 4000000 in
theorem within_any (a b : List (List UInt8 × List UInt8)) (A B : Option Addr) (c d : Nat) (w : World) (hA : Sl PrE w A a) (hB : Sl PrE w B b) :
    Calls Tryz.prog 11 #[.slice A a.length c, .slice B b.length d] w fun en w' => en = .returned (.bool (a.all fun p => b.any fun q => p.1 == q.1 && p.2 == q.2)) ∧ Below w.heap.size w w' := by
  have hla := hA.le
  have hlb := hB.le
  go_enter Tryz.func11, Tryz.ntmps11
  go_wp2_with fail
  go_loopw [6, 7, 9, 12] (fun _ _ _ i wr => ∃ k : Nat, k ≤ a.length ∧ i = .int .i64 (k : Int) ∧ ((a.take k).all fun p => b.any fun q => p.1 == q.1 && p.2 == q.2) = true ∧ Below w.heap.size w wr) (fun _ _ _ i _ => a.length - (intOf i).toNat)
  case atStart => exact ⟨0, Nat.zero_le _, rfl, by rw [List.take_zero]; rfl, Below.refl _ _⟩
  case round =>
    obtain ⟨k, hk, rfl, hall, bw⟩ := hrel
    generalize wr = wo at *
    have HALL := Lib.hid hall
    clear hall
    have zr := bw.size
    by_cases hlt : k < a.length
    · have hlt' : (k : Int) < (a.length : Int) := by omega
      have HNX : Hid (((a.take (k + 1)).all fun p => b.any fun q => p.1 == q.1 && p.2 == q.2) = b.any fun q => a[k].1 == q.1 && a[k].2 == q.2) := by
        show _ = _
        rw [List.take_succ_eq_append_getElem hlt, List.all_append, HALL.out]
        simp
      have HNO : Hid ((b.any fun q => a[k].1 == q.1 && a[k].2 == q.2) = false → (a.all fun p => b.any fun q => p.1 == q.1 && p.2 == q.2) = false) := fun h => by
        rw [List.all_eq_false]
        exact ⟨a[k], List.getElem_mem hlt, by rw [h]; decide⟩
      obtain ⟨ad, P, p, Q, q, rfl, ha, f0, f1, ⟨hP, -⟩, hQ, -⟩ := PrE.at_ (hA.below bw) hlt
      generalize a[k] = pr at *
      have dX : Below wo.heap.size wo (wo.alloc (.cells #[.slice P pr.1.length p, .slice Q pr.2.length q] 57)) := (Below.refl _ _).alloc (Nat.le_refl _) _
      have kp := Blk.new wo 57 #[.slice P pr.1.length p, .slice Q pr.2.length q]
      have bX := bw.trans (dX.mono zr)
      have hPX := hP.below dX
      have hQX := hQ.below dX
      go_upto_region 4 with fail
      clear f0 f1 dX hP hQ bw
      generalize (wo.alloc (.cells #[.slice P pr.1.length p, .slice Q pr.2.length q] 57)) = XW at *
      have lX := kp.lt
      go_wp2_with fail
      go_loopw [7, 9, 18] (fun kb _ j w2 => ∃ m : Nat, m ≤ b.length ∧ j = .int .i64 (m : Int) ∧ kb = .bool ((b.take m).any fun x => pr.1 == x.1 && pr.2 == x.2) ∧ Below XW.heap.size XW w2) (fun _ _ j _ => b.length - (intOf j).toNat)
      case atStart => exact ⟨0, Nat.zero_le _, rfl, by rw [List.take_zero]; rfl, Below.refl _ _⟩
      case round =>
        obtain ⟨m, hm, rfl, rfl, b2⟩ := hrel
        generalize wr = w2 at *
        have z2 := b2.size
        have k2 := kp.below b2 lX
        by_cases hmt : m < b.length
        · have hmt' : (m : Int) < (b.length : Int) := by omega
          have HAN := Lib.hid (any_step (F := fun x : List UInt8 × List UInt8 => pr.1 == x.1 && pr.2 == x.2) hmt)
          have bw2 := bX.trans (b2.mono bX.size)
          obtain ⟨bd, K, ck, V, cv, rfl, hb, i0, i1', ⟨hK, -⟩, hV, -⟩ := PrE.at_ (hB.below bw2) hmt
          generalize b[m] = x at *
          generalize ((b.take m).any fun x => pr.1 == x.1 && pr.2 == x.2) = kb at *
          have dY : Below w2.heap.size w2 (w2.alloc (.cells #[.slice K x.1.length ck, .slice V x.2.length cv] 57)) := (Below.refl _ _).alloc (Nat.le_refl _) _
          have ky := Blk.new w2 57 #[.slice K x.1.length ck, .slice V x.2.length cv]
          have bY := b2.trans (dY.mono z2)
          have kpY := k2.below dY k2.lt
          have hKY := hK.below dY
          have hVY := hV.below dY
          have hPY := hPX.below bY
          have hQY := hQX.below bY
          have T1 := equal_any P K pr.1 x.1 p ck (w2.alloc (.cells #[.slice K x.1.length ck, .slice V x.2.length cv] 57)) hPY hKY
          have t2 : ∀ n, Calls Tryz.prog 15 #[.slice Q pr.2.length q, .slice V x.2.length cv] ((w2.alloc (.cells #[.slice K x.1.length ck, .slice V x.2.length cv] 57)).drewN n) (Quietly (.bool (pr.2 == x.2)) ((w2.alloc (.cells #[.slice K x.1.length ck, .slice V x.2.length cv] 57)).drewN n)) := fun n => equal_any Q V pr.2 x.2 q cv _ (hQY.drewN n) (hVY.drewN n)
          have T2 := Lib.hid t2
          clear t2
          go_upto_region 8 with fail
          clear i0 i1' dY b2 k2 hK hV bw2
          generalize (w2.alloc (.cells #[.slice K x.1.length ck, .slice V x.2.length cv] 57)) = YW at *
          have y0 : YW.cell? ⟨w2.heap.size, 0, none⟩ = some (.slice K x.1.length ck) := ky.cell 0
          have y1 : YW.cell? ⟨w2.heap.size, 1, none⟩ = some (.slice V x.2.length cv) := ky.cell 1
          have y2 : YW.cell? ⟨wo.heap.size, 0, none⟩ = some (.slice P pr.1.length p) := kpY.cell 0
          have y3 : YW.cell? ⟨wo.heap.size, 1, none⟩ = some (.slice Q pr.2.length q) := kpY.cell 1
          cases kb with
          | true =>
            have HA2 : Hid (((b.take (m + 1)).any fun x => pr.1 == x.1 && pr.2 == x.2) = true) := by show _ = _; rw [HAN.out]; rfl
            go_wp2_with fail
            go_roundw
            case rel => exact ⟨m + 1, by omega, by go_num, by rw [HA2.out], bY⟩
            case measure => simp [intOf]; omega
          | false =>
            have HA2 : Hid (((b.take (m + 1)).any fun x => pr.1 == x.1 && pr.2 == x.2) = (pr.1 == x.1 && pr.2 == x.2)) := by show _ = _; rw [HAN.out]; rfl
            generalize (pr.1 == x.1) = e1 at *
            generalize (pr.2 == x.2) = e2 at *
            go_wp2_with fail
            refine T1.mono ?_
            rintro en w3 ⟨rfl, n3, rfl⟩
            cases e1 with
            | false =>
              go_wp2_with fail
              go_roundw
              case rel => exact ⟨m + 1, by omega, by go_num, by rw [HA2.out]; rfl, below_drewN bY _⟩
              case measure => simp [intOf]; omega
            | true =>
              go_wp2_with fail
              refine (T2.out n3).mono ?_
              rintro en w4 ⟨rfl, n4, rfl⟩
              go_wp2_with fail
              go_roundw
              case rel => exact ⟨m + 1, by omega, by go_num, by rw [HA2.out]; rfl, below_drewN bY _⟩
              case measure => simp [intOf]; omega
        · obtain rfl : m = b.length := by omega
          have bw2 := bX.trans (b2.mono bX.size)
          rw [List.take_length]
          cases hkb : (b.any fun x => pr.1 == x.1 && pr.2 == x.2) with
          | true =>
            have HS2 : Hid (((a.take (k + 1)).all fun p => b.any fun q => p.1 == q.1 && p.2 == q.2) = true) := by show _ = _; rw [HNX.out]; exact hkb
            clear hkb
            go_wp2_with fail
            go_roundw
            case rel => exact ⟨k + 1, by omega, by go_num, HS2.out, bw2⟩
            case measure => simp [intOf]; omega
          | false =>
            have HF := Lib.hid (HNO.out hkb)
            clear hkb
            go_wp2_with fail
            go_ret
            exact ⟨by rw [HF.out]; rfl, bw2⟩
    · obtain rfl : k = a.length := by omega
      have HF : Hid ((a.all fun p => b.any fun q => p.1 == q.1 && p.2 == q.2) = true) := by show _ = _; have h := HALL.out; rwa [List.take_length] at h
      clear HALL
      go_wp2_with fail
      go_ret
      exact ⟨by rw [HF.out]; rfl, bw⟩
end Go.Proofs.YtfededjcadmpbaaGreatDoor
