/- What a row of cells is stored as, the reference's: caissonref14.Entries; bytes.Equal. -/
import Derived.Test.YtfededjcadmpbaaGreatDoorEntA
import Derived.Test.YtfededjcadmpbaaGreatDoorREncA
import Derived.Test.YtfededjcadmpbaaGreatDoorRRowKey
import Derived.Test.YtfededjcadmpbaaGreatDoorRFits
namespace Go.Proofs.YtfededjcadmpbaaGreatDoor
open Go.RowKit

section
variable {id keys : Int} {ixs : List LIx}
theorem ents_len5 {xs : List LVal} : (entsL id keys ixs xs).length = ixs.length + 1 := by
  unfold entsL
  rw [List.length_cons, List.length_mapIdx]
end
theorem arr_eqR (l m : List UInt8) : ((⟨l.toArray⟩ : ByteArray).toList == (⟨m.toArray⟩ : ByteArray).toList) = (l == m) := by
  rw [ByteArray.toList_eq, ByteArray.toList_eq]
theorem bequalR (A B : Option Addr) (l m : List UInt8) (c d : Nat) (w : World) (ha : Bs w A l) (hb : Bs w B m) :
    Calls Tryz.prog 19 #[.slice A l.length c, .slice B m.length d] w fun e w' => e = .returned (.bool (l == m)) ∧ w' = w := by
  have h1 := conv_any A l c w ha
  have h2 := conv_any B m d w hb
  go_enter Tryz.func19, Tryz.ntmps19
  go_wp2_with fail
  go_ret
  exact ⟨by rw [← arr_eqR]; rfl, rfl⟩
theorem rowKey_le {id keys : Int} {tn : ByteArray} {cols : List LCol} {ixs : List LIx} {xs : List LVal} (h : fitsE id keys tn cols ixs xs = 0) : (rowKey id keys xs).length ≤ 1073741824 := by
  obtain ⟨h0, h1, h2⟩ := fitsE_ok h
  have hs := values_sm (Nat.le_of_eq h1) h2
  obtain ⟨_, _, _, _, hc16⟩ := check_head h0
  have := keyL_len (xs := xs.take keys.toNat) fun x hx => hs x (List.mem_of_mem_take hx)
  have hl : (xs.take keys.toNat).length ≤ 16 := by rw [List.length_take]; omega
  show ([114, UInt8.ofInt id] ++ keyL (xs.take keys.toNat)).length ≤ _
  rw [List.length_append]
  show 2 + _ ≤ _
  omega
theorem BelowT.call {a X w' : World} (h : Below a.heap.size a X) (b : Below X.heap.size X w') : Below a.heap.size a w' := h.trans (b.mono h.size)
theorem CelE.at8 {w : World} {A : Option Addr} {S : Nat → Prop} {l : List LVal} (h : SlS CelE w S A l) {k : Nat} (hk : k < l.length) :
    ∃ ad D c, A = some ad ∧ ad.block < w.heap.size ∧ w.cell? (ad.add (k * 5)) = some (.int .i64 l[k].kind) ∧ w.cell? ⟨(ad.add (k * 5)).block, (ad.add (k * 5)).off + 1, none⟩ = some (.bool l[k].b) ∧ w.cell? ⟨(ad.add (k * 5)).block, (ad.add (k * 5)).off + 2, none⟩ = some (.int .i64 l[k].n) ∧
      w.cell? ⟨(ad.add (k * 5)).block, (ad.add (k * 5)).off + 3, none⟩ = some (.string l[k].t) ∧ w.cell? ⟨(ad.add (k * 5)).block, (ad.add (k * 5)).off + 4, none⟩ = some (.slice D l[k].l.length c) ∧ Bs w D l[k].l ∧ (l[k].l.length ≤ c ∧ c ≤ 9223372036854775807) ∧ l[k].t.size ≤ 17592186043904 := by
  obtain ⟨ad, vs, rfl, hb, ⟨D, c, rfl, h1, h2, h3, h6, h7⟩, h4, _, h5⟩ := SlS.at_ h hk
  exact ⟨ad, D, c, rfl, hb, h4 _ rfl, h5 1 _ (by omega) rfl, h5 2 _ (by omega) rfl, h5 3 _ (by omega) rfl, h5 4 _ (by omega) rfl, h1, ⟨h3, h6⟩, h7⟩
theorem keyL_snoc (l : List LVal) (x : LVal) : keyL (l ++ [x]) = keyL l ++ keyL [x] := by
  unfold keyL
  rw [List.flatMap_append]
theorem cel_one (w : World) (x : LVal) (D : Option Addr) (c : Nat) (hD : Bs w D x.l) (hc : x.l.length ≤ c ∧ c ≤ 9223372036854775807) (ht : x.t.size ≤ 17592186043904) :
    Sl CelE (w.alloc (.cells #[.int .i64 x.kind, .bool x.b, .int .i64 x.n, .string x.t, .slice D x.l.length c] 48)) (some ⟨w.heap.size, 0, none⟩) [x] := by
  have hb : Below w.heap.size w (w.alloc (.cells #[.int .i64 x.kind, .bool x.b, .int .i64 x.n, .string x.t, .slice D x.l.length c] 48)) := (Below.refl _ _).alloc (Nat.le_refl _) _
  refine ⟨by simp [CelE], [.int .i64 x.kind, .bool x.b, .int .i64 x.n, .string x.t, .slice D x.l.length c], ?_, At.any _ _, ER.flat_one_ ⟨D, c, rfl, hD.below hb, At.any _ _, hc.1, hc.2, ht⟩⟩
  have h := Reads.newN w [.int .i64 x.kind, .bool x.b, .int .i64 x.n, .string x.t, .slice D x.l.length c] 48
  rw [show (w.alloc (.cells #[.int .i64 x.kind, .bool x.b, .int .i64 x.n, .string x.t, .slice D x.l.length c] 48)).heap.size = w.heap.size + 1 from by simp]
  exact h
theorem own3 (W : World) (a b c : UInt8) : OwnB W.heap.size (W.alloc (.cells #[.int .u8 (a.toNat : Int), .int .u8 (b.toNat : Int), .int .u8 (c.toNat : Int)] 5)) (some ⟨W.heap.size, 0, none⟩) [a, b, c] 3 := ownB_lit W [a, b, c] (by simp)
theorem own3i (W : World) (id i : Int) (h1 : 0 ≤ id ∧ id < 256) (h2 : 0 ≤ i ∧ i < 256) : OwnB W.heap.size (W.alloc (.cells #[.int .u8 105, .int .u8 id, .int .u8 i] 5)) (some ⟨W.heap.size, 0, none⟩) [105, UInt8.ofInt id, UInt8.ofInt i] 3 := by
  have h := own3 W 105 (UInt8.ofInt id) (UInt8.ofInt i)
  rw [show ((105 : UInt8).toNat : Int) = 105 from rfl, show ((UInt8.ofInt id).toNat : Int) = id from by rw [mod_u8 id, Int.emod_eq_of_lt h1.1 h1.2], show ((UInt8.ofInt i).toNat : Int) = i from by rw [mod_u8 i, Int.emod_eq_of_lt h2.1 h2.2]] at h
  exact h
set_option maxRecDepth 100000 in
set_option maxHeartbeats 8000000 in
theorem rentries_any (id keys : Int) (tn : ByteArray) (cols : List LCol) (ixs : List LIx) (xs : List LVal) (A B C : Option Addr) (ca cb cc : Nat) (w : World) (hA : Sl ColE w A cols) (hB : Sl IxE w B ixs) (hC : Sl CelE w C xs) (hn : tn.size ≤ 140737488351232)
    (hx : ∀ x ∈ xs, x.err = 0 ∧ x.wfv) (hcc : xs.length ≤ cc ∧ cc ≤ 9223372036854775807) :
    Calls Tryz.prog 24 #[.agg #[.int .i64 id, .string tn, .slice A cols.length ca, .int .i64 keys, .slice B ixs.length cb], .slice C xs.length cc] w (RetEnts (fitsE id keys tn cols ixs xs) (entsB id keys tn cols ixs xs) w) := by
  obtain ⟨i1, hi1, hy0, hy1, hy2⟩ := info_parts Tryz.infoPair
  have HX := Lib.hid hx
  clear hx
  have b0 : Below w.heap.size w (w.alloc (.cells #[.int .i64 id, .string tn, .slice A cols.length ca, .int .i64 keys, .slice B ixs.length cb] 25)) := (Below.refl _ _).alloc (Nat.le_refl _) _
  have k0 := Blk.new w 25 #[.int .i64 id, .string tn, .slice A cols.length ca, .int .i64 keys, .slice B ixs.length cb]
  go_enter Tryz.func24, Tryz.ntmps24
  go_wp2_with fail
  generalize (w.alloc (.cells #[.int .i64 id, .string tn, .slice A cols.length ca, .int .i64 keys, .slice B ixs.length cb] 25)) = W0 at *
  refine (rfits_any id keys tn cols ixs xs A B C ca cb cc W0 (hA.below b0) (hB.below b0) (hC.below b0) hn).mono ?_
  rw [rfitsE_eq (fun x hx => (HX.out x hx).1)]
  rintro en w1 ⟨rfl, b1⟩
  have b01 := b0.trans (b1.mono b0.size)
  have k1 := k0.below b1 k0.lt
  clear b0 b1 k0
  by_cases h0 : fitsE id keys tn cols ixs xs = 0
  · have d0 : (fitsE id keys tn cols ixs xs != 0) = false := by rw [h0]; rfl
    obtain ⟨hck, hxl, hve⟩ := fitsE_ok h0
    obtain ⟨hi1_, hi2_, hk1, hk2, hc16⟩ := check_head hck
    obtain ⟨hx4, hxr⟩ := check_ixs hck
    have hsm2 : ∀ x ∈ xs, x.sm := values_sm (Nat.le_of_eq hxl) hve
    have HSM := Lib.hid hsm2
    have HR := Lib.hid hxr
    have hEL : Hid (entsB id keys tn cols ixs xs = entsL id keys ixs xs) := by show _ = _; unfold entsB; rw [if_pos h0]
    have hKE : Hid (keyE id keys tn cols ixs xs = 0) := keyE_of_fits h0
    have hKB : Hid (keyB id keys tn cols ixs xs = rowKey id keys xs) := by show _ = _; unfold keyB; rw [if_pos (keyE_of_fits h0)]
    have HF0 := Lib.hid h0
    have hkn : (rowKey id keys xs).length ≤ 1073741824 := by
      have := keyL_len (xs := xs.take keys.toNat) fun x hx => hsm2 x (List.mem_of_mem_take hx)
      have hl : (xs.take keys.toNat).length ≤ 16 := by rw [List.length_take]; omega
      show ([114, UInt8.ofInt id] ++ keyL (xs.take keys.toNat)).length ≤ _
      rw [List.length_append]
      show 2 + _ ≤ _
      omega
    have hxl1 : xs.length ≤ cols.length := Nat.le_of_eq hxl
    have hxl2 : cols.length ≤ xs.length := Nat.le_of_eq hxl.symm
    clear h0 hve hsm2 hxr hck hxl
    go_wp2_with ((with_reducible refine wpList_load_blk rfl 25 (.tmp 2) rfl w.heap.size ?_ 25 _ _ k1 Tryz.underlying25 ?_ Tryz.size_TableV ?_ ?_); rfl; rfl; rfl)
    refine (rrowkey_any id keys tn cols ixs xs A B C ca cb cc w1 (hA.below b01) (hB.below b01) (hC.below b01) hn (fun x hx => HX.out x hx) hcc).mono ?_
    rintro en w2 ⟨K1, d1, rfl, oK, b2⟩
    rw [hKB.out] at oK ⊢
    rw [hKE.out]
    have HEL : Hid (entsB id keys tn cols ixs xs = (rowKey id keys xs, encL xs) :: ixs.mapIdx fun i x => (entK id (rowKey id keys xs) xs i x, rowKey id keys xs)) := by show _ = _; rw [hEL.out]; rfl
    generalize rowKey id keys xs = key at *
    have b02 := b01.trans (b2.mono b01.size)
    have k2 := k1.below b2 k1.lt
    have zz1 : w.heap.size ≤ w1.heap.size := b01.size
    clear b01 b2 k1
    go_wp2_with fail
    refine (renc_any xs C cc w2 (hC.below b02) (fun x hx => HSM.out x hx) (fun x hx => HX.out x hx) (by omega)).mono ?_
    rintro en w3 ⟨F1, f1, rfl, oE, b3⟩
    have hel := encL_len (xs := xs) (fun x hx => HSM.out x hx)
    generalize encL xs = ebs at *
    have b03 := b02.trans (b3.mono b02.size)
    have k3 := k2.below b3 k2.lt
    have oK3 := oK.below b3
    have oE3 : OwnB w2.heap.size w3 F1 ebs f1 := oE
    have hel2 : ebs.length ≤ 1073741824 := by omega
    have zz2 : w.heap.size ≤ w2.heap.size := b02.size
    have zz3 := b3.size
    have dX : Below w3.heap.size w3 (w3.alloc (.cells #[.slice K1 key.length d1, .slice F1 ebs.length f1] 57)) := (Below.refl _ _).alloc (Nat.le_refl _) _
    have bX := b03.trans (dX.mono b03.size)
    have kX := k3.below dX k3.lt
    have oP : Own PairE 57 (w3.alloc (.cells #[.slice K1 key.length d1, .slice F1 ebs.length f1] 57)) w3.heap.size (fun b => w.heap.size ≤ b ∧ b < w3.heap.size) (.slice (some ⟨w3.heap.size, 0, none⟩) 1 1) [(key, ebs)] := by
      refine ⟨[.slice K1 key.length d1, .slice F1 ebs.length f1], own_pair (Blk.new w3 _ _) (Nat.le_refl _), ER.flat_one_ ⟨K1, d1, F1, f1, rfl, ⟨(oK3.bs (by show key.length ≤ _; omega)).below dX, fun ad e hn => ?_, oK3.caps⟩, (oE3.bs (by show ebs.length ≤ _; omega)).below dX, fun ad e hn => ?_, oE3.caps⟩⟩
      · have h1 := OwnB.at_ oK3 ad e hn
        have h2 := kX.lt
        refine ⟨⟨by omega, h1.2⟩, fun e2 => ?_⟩
        have h3 : w3.heap.size = ad.block := Option.some.inj e2
        have h4 : ad.block < w3.heap.size := h1.2
        omega
      · have h1 := OwnB.at_ oE3 ad e hn
        refine ⟨⟨by omega, h1.2⟩, fun e2 => ?_⟩
        have h3 : w3.heap.size = ad.block := Option.some.inj e2
        have h4 : ad.block < w3.heap.size := h1.2
        omega
    have oKX : OwnB w1.heap.size (w3.alloc (.cells #[.slice K1 key.length d1, .slice F1 ebs.length f1] 57)) K1 key d1 := OwnB.below oK3 dX
    have hFK := fun g e => (OwnB.lt oK3 g e).2
    have FK := Lib.hid hFK
    have hFA := fun ad e hn => (OwnB.at_ oK3 ad e hn).2
    have FKA := Lib.hid hFA
    clear hFA
    clear hFK
    have zw3 := b03.size
    have zlt3 : w.heap.size < w3.heap.size := k3.lt
    have l3 := dX.size
    go_upto_region 6 with fail
    have lX : w3.heap.size < (w3.alloc (.cells #[.slice K1 key.length d1, .slice F1 ebs.length f1] 57)).heap.size := by simp
    generalize (w3.alloc (.cells #[.slice K1 key.length d1, .slice F1 ebs.length f1] 57)) = X at *
    generalize hM : (ixs.mapIdx fun i x => (entK id key xs i x, key)) = M at *
    have hMl : M.length = ixs.length := by rw [← hM, List.length_mapIdx]
    have hMg : ∀ k (h : k < ixs.length), M.take (k + 1) = M.take k ++ [(entK id key xs k ixs[k], key)] := fun k h => by
      have h2 : k < M.length := by omega
      rw [List.take_succ_eq_append_getElem h2]
      congr 2
      subst hM
      rw [List.getElem_mapIdx]
    have HM := Lib.hid hMg
    have HML := Lib.hid hMl
    have q4 : X.cell? ⟨w.heap.size, 4, none⟩ = some (.slice B ixs.length cb) := kX.cell 4
    clear hMg hMl hM dX oK3 oK oE oE3 k3 k2 b3
    have lkX := kX.lt
    go_wp2_with fail
    go_loopw [9, 10, 11, 12, 13] (fun o j _ _ _ wr => ∃ (k : Nat) (ps : List (List UInt8 × List UInt8)) (Bp : Option Addr) (dp : Nat), k ≤ ixs.length ∧ j = .int .i64 (k : Int) ∧ o = .slice Bp ps.length dp ∧ Own PairE 57 wr w3.heap.size (fun b => w.heap.size ≤ b ∧ b < wr.heap.size) (.slice Bp ps.length dp) ps ∧ ps = (key, ebs) :: M.take k ∧ ps.length ≤ k + 1 ∧ OwnB w1.heap.size wr K1 key d1 ∧ Blk wr w.heap.size 25 #[.int .i64 id, .string tn, .slice A cols.length ca, .int .i64 keys, .slice B ixs.length cb] ∧ w3.heap.size ≤ wr.heap.size ∧ Below w.heap.size w wr) (fun _ j _ _ _ _ => ixs.length - (intOf j).toNat)
    case atStart => exact ⟨0, [(key, ebs)], _, _, Nat.zero_le _, rfl, rfl, Own.mono oP (fun b hb _ hs => ⟨hs.1, hb⟩), by rw [List.take_zero], Nat.le_refl _, oKX, kX, l3, bX⟩
    case round =>
      clear q4
      obtain ⟨k, ps, Bp, dp, hk, rfl, rfl, o, hp, hpl, oKr, kr, z3r, bw⟩ := hrel
      generalize wr = wo at *
      have HP := Lib.hid hp
      clear hp
      have zr := bw.size
      have q4r : wo.cell? ⟨w.heap.size, 4, none⟩ = some (.slice B ixs.length cb) := kr.cell 4
      by_cases hlt : k < ixs.length
      · have hlt' : (k : Int) < (ixs.length : Int) := by omega
        have HMG := Lib.hid (HM.out k hlt)
        obtain ⟨hr1, hr2⟩ := HR.out _ (List.getElem_mem hlt)
        have hr3 : ∀ c ∈ ixs[k].cols, 0 ≤ c ∧ c < (xs.length : Int) := fun c hc => by have := hr1 c hc; omega
        have hek : ∀ K : List UInt8, entK id K xs k ixs[k] = ([105, UInt8.ofInt id, UInt8.ofInt (k : Int)] ++ keyL (ixVals xs ixs[k])) ++ (if ixs[k].uniq = true then [] else K) := fun _ => rfl
        obtain ⟨bd, Cx, cx, rfl, g1, f0, f1, f2, hIs, _, _⟩ := IxE.at_ (hB.below bw) hlt
        obtain ⟨x, hxx⟩ : ∃ x, ixs[k] = x := ⟨_, rfl⟩
        rw [hxx] at f0 f1 f2 hIs hr1 hr2 hr3 hek HMG
        clear hxx
        have HEK := Lib.hid (hek key)
        have hvl : (ixVals xs x).length = x.cols.length := by unfold ixVals; rw [List.length_map]
        have hr16 : x.cols.length ≤ 16 := by omega
        have HR3 := Lib.hid hr3
        have HVL := Lib.hid hvl
        generalize entK id key xs k x = ek at *
        clear hr1 hr2 hr3 hek hvl
        have dI : Below wo.heap.size wo (wo.alloc (.cells #[.string x.name, .slice Cx x.cols.length cx, .bool x.uniq] 81)) := (Below.refl _ _).alloc (Nat.le_refl _) _
        have ki := Blk.new wo 81 #[.string x.name, .slice Cx x.cols.length cx, .bool x.uniq]
        have krX := kr.below dI kr.lt
        have y0 : (wo.alloc (.cells #[.string x.name, .slice Cx x.cols.length cx, .bool x.uniq] 81)).cell? ⟨w.heap.size, 0, none⟩ = some (.int .i64 id) := krX.cell 0
        go_upto_region 10 with fail
        generalize (wo.alloc (.cells #[.string x.name, .slice Cx x.cols.length cx, .bool x.uniq] 81)) = X at *
        have liX := ki.lt
        have oY := own3i X id (k : Int) (by omega) (by omega)
        have dY : Below X.heap.size X (X.alloc (.cells #[.int .u8 105, .int .u8 id, .int .u8 (k : Int)] 5)) := (Below.refl _ _).alloc (Nat.le_refl _) _
        have kiY := ki.below dY liX
        go_upto_region 11 with fail
        generalize (X.alloc (.cells #[.int .u8 105, .int .u8 id, .int .u8 (k : Int)] 5)) = Y at *
        obtain ⟨pre, hpre⟩ : ∃ pre, pre = [105, UInt8.ofInt id, UInt8.ofInt (k : Int)] := ⟨_, rfl⟩
        have hprl : pre.length = 3 := by rw [hpre]; rfl
        have oY2 : OwnB X.heap.size Y (some ⟨X.heap.size, 0, none⟩) pre 3 := by rw [hpre]; exact oY
        have HPRE := Lib.hid hpre
        clear hpre oY f0 f1 f2 y0 g1
        have q1 : Y.cell? ⟨wo.heap.size, 1, none⟩ = some (.slice Cx x.cols.length cx) := kiY.cell 1
        have hst : (Value.slice (some ⟨X.heap.size, 0, none⟩) 3 3) = .slice (some ⟨X.heap.size, 0, none⟩) pre.length 3 := by rw [hprl]
        have HST := Lib.hid hst
        clear hst
        go_wp2_with fail
        go_loopw [12, 13] (fun kk j wr => ∃ (m : Nat) (acc : List UInt8) (Bk : Option Addr) (dk : Nat), m ≤ x.cols.length ∧ j = .int .i64 (m : Int) ∧ kk = .slice Bk acc.length dk ∧ OwnB X.heap.size wr Bk acc dk ∧ acc = pre ++ keyL ((ixVals xs x).take m) ∧ acc.length ≤ 3 + m * 16777216 ∧ Below X.heap.size X wr) (fun _ j _ => x.cols.length - (intOf j).toNat)
        case atStart => exact ⟨0, pre, _, 3, Nat.zero_le _, rfl, HST.out, oY2, by rw [List.take_zero]; exact (List.append_nil _).symm, by omega, dY⟩
        case round =>
          clear q1
          obtain ⟨m, acc, Bk, dk, hm, rfl, rfl, ok, hacc, hal, b4⟩ := hrel
          have HACC := Lib.hid hacc
          clear hacc
          have z4 := b4.size
          have ki4 := ki.below b4 liX
          have bI4 := dI.trans (b4.mono dI.size)
          have bw4 := bw.trans (bI4.mono bw.size)
          have q1 : wr.cell? ⟨wo.heap.size, 1, none⟩ = some (.slice Cx x.cols.length cx) := ki4.cell 1
          have hIs4 := hIs.below bI4
          by_cases hlm : m < x.cols.length
          · have hlm' : (m : Int) < (x.cols.length : Int) := by omega
            obtain ⟨xd, rfl, q2, q3⟩ := hIs4.at_ hlm
            obtain ⟨hc0, hc1⟩ := HR3.out _ (List.getElem_mem hlm)
            have HTK : Hid ((ixVals xs x).take (m + 1) = (ixVals xs x).take m ++ [xs.getD (x.cols[m]).toNat .null]) := by
              show _ = _
              rw [List.take_succ_eq_append_getElem (by rw [HVL.out]; exact hlm)]
              unfold ixVals
              rw [List.getElem_map]
            generalize x.cols[m] = cc_ at *
            obtain ⟨cn, rfl⟩ : ∃ cn : Nat, cc_ = (cn : Int) := ⟨cc_.toNat, by omega⟩
            have hcn : cn < xs.length := by omega
            have hcn' : (cn : Int) < (xs.length : Int) := by omega
            have hxg := HX.out xs[cn] (List.getElem_mem hcn)
            have hxs := HSM.out xs[cn] (List.getElem_mem hcn)
            have HG : Hid (xs.getD ((cn : Int)).toNat .null = xs[cn]) := by show _ = _; rw [Int.toNat_natCast, List.getD_eq_getElem?_getD, List.getElem?_eq_getElem hcn]; rfl
            obtain ⟨rd, D0, c0, rfl, g4, e0, e1, e2, e3, e4, hD0, hcp⟩ := CelE.at8 (hC.below bw4) hcn
            generalize xs[cn] = xv at *
            have T := rckey_any [xv] (some ⟨wr.heap.size, 0, none⟩) 1 _ (cel_one wr xv D0 c0 hD0 hcp.1 hcp.2) (fun y hy => by rw [List.mem_singleton.1 hy]; exact hxs) (fun y hy => by rw [List.mem_singleton.1 hy]; exact hxg) (by simp)
            have hkl := keyL_len (xs := [xv]) (fun y hy => by rw [List.mem_singleton.1 hy]; exact hxs)
            rw [List.length_singleton] at hkl
            have HTL : Hid (keyL ((ixVals xs x).take (m + 1)) = keyL ((ixVals xs x).take m) ++ keyL [xv]) := by
              show _ = _
              rw [HTK.out, keyL_snoc, HG.out]
            generalize keyL [xv] = kv at *
            have dV : Below wr.heap.size wr (wr.alloc (.cells #[.int .i64 xv.kind, .bool xv.b, .int .i64 xv.n, .string xv.t, .slice D0 xv.l.length c0] 48)) := (Below.refl _ _).alloc (Nat.le_refl _) _
            go_wp2_with fail
            generalize (wr.alloc (.cells #[.int .i64 xv.kind, .bool xv.b, .int .i64 xv.n, .string xv.t, .slice D0 xv.l.length c0] 48)) = V at *
            refine T.mono ?_
            rintro en w5 ⟨Bq, dq, rfl, oq, b5⟩
            have b45 := dV.trans (b5.mono dV.size)
            have bX5 := b4.trans (b45.mono b4.size)
            have ok5 := ok.below b45
            have hq5 : Bs w5 Bq kv := OwnB.bs oq (by omega)
            go_wp2_with (at_builtin; refine wpList_app X.heap.size X _ rfl (.tmp 56) (.tmp 66) rfl Bk acc dk rfl ok5 Bq kv dq rfl hq5 (by omega) bX5 (Nat.le_refl _) bX5.size ?_; intro B6 d6 acc6 w6 H6 o6 b6 g6 t6; have L6 : acc6.length ≤ acc.length + kv.length := (by rw [H6.out, List.length_append]; exact Nat.le_refl _))
            go_roundw
            case rel => exact ⟨m + 1, acc6, B6, d6, by omega, by go_num, rfl, o6, by rw [H6.out, HTL.out, HACC.out, List.append_assoc], by omega, b6⟩
            case measure => simp [intOf]; omega
          · obtain rfl : m = x.cols.length := by omega
            have HAC2 : Hid (acc = pre ++ keyL (ixVals xs x)) := by show _ = _; rw [HACC.out, ← HVL.out, List.take_length]
            clear HACC
            have q5 : wr.cell? ⟨wo.heap.size, 2, none⟩ = some (.bool x.uniq) := ki4.cell 2
            have oZ0 : Own PairE 57 wr w3.heap.size (fun b => w.heap.size ≤ b ∧ b < wo.heap.size) (.slice Bp ps.length dp) ps := Own.below o bI4
            have oK4 := OwnB.below oKr bI4
            have kr4 := kr.below bI4 kr.lt
            have hK4 : Bs wr K1 key := oK4.bs (by omega)
            have z4w := bI4.size
            have lrx : wo.heap.size ≤ X.heap.size := by omega
            cases hq : x.uniq with
            | false =>
              have HE : Hid (ek = acc ++ key) := by
                show _ = _
                rw [HEK.out, HAC2.out, HPRE.out, hq]; rfl
              rw [hq] at q5
              clear hq
              have eln : ek.length ≤ acc.length + key.length := by rw [HE.out, List.length_append]; exact Nat.le_refl _
              go_upto_region 17 with (at_builtin; refine wpList_app X.heap.size X _ rfl (.tmp 71) (.tmp 72) rfl Bk acc dk rfl ok K1 key d1 rfl hK4 (by omega) b4 (Nat.le_refl _) b4.size ?_; intro D c ek2 W5 H5 ok5_ b5 g5 t5; have ok5 : OwnB X.heap.size W5 D ek2 c := ok5_; clear ok5_)
              obtain rfl : ek = ek2 := HE.out.trans H5.out.symm
              have w5K : OwnB X.heap.size W5 D ek c := ok5
              have z5 := b5.size
              have bI5 := dI.trans (b5.mono dI.size)
              have bw5 := bw.trans (bI5.mono bw.size)
              have oZ5 : Own PairE 57 W5 w3.heap.size (fun b => w.heap.size ≤ b ∧ b < W5.heap.size) (.slice Bp ps.length dp) ps := Own.mono (Own.below o bI5) (fun b hb _ hs => ⟨hs.1, hb⟩)
              have oK5 := OwnB.below oKr bI5
              have kr5 := kr.below bI5 kr.lt
              have hel5 : ek.length ≤ 4294967296 := by omega
              have dZ : Below W5.heap.size W5 (W5.alloc (.cells #[.slice D ek.length c, .slice K1 key.length d1] 57)) := (Below.refl _ _).alloc (Nat.le_refl _) _
              have bwZ := bw5.trans (dZ.mono bw5.size)
              have oZ := Own.below oZ5 dZ
              have oKZ := OwnB.below oK5 dZ
              have krZ := kr5.below dZ kr5.lt
              have zwZ := bwZ.size
              have z5Z := dZ.size
              have hat1 : At (fun b => (w.heap.size ≤ b ∧ b < W5.heap.size) ∧ (Value.slice Bp ps.length dp).ownBlock ≠ some b) D ek.length := fun ad e hn => by
                have h1 := OwnB.at_ w5K ad e hn
                refine ⟨⟨by omega, h1.2⟩, fun e2 => ?_⟩
                have := (Own.lt o _ e2).2
                omega
              have hat2 : At (fun b => (w.heap.size ≤ b ∧ b < W5.heap.size) ∧ (Value.slice Bp ps.length dp).ownBlock ≠ some b) K1 key.length := fun ad e hn => by
                have h1 := OwnB.at_ oK5 ad e hn
                have h3 := OwnB.at_ oKr ad e hn
                refine ⟨⟨by omega, h1.2⟩, fun e2 => ?_⟩
                have h4 := (Own.lt o _ e2).1
                have h5 := FKA.out ad e hn
                omega
              have hb1 := (w5K.bs (by omega)).below dZ
              have hb2 := (oK5.bs (by omega)).below dZ
              have c1 := w5K.caps
              have c2 := oK5.caps
              clear w5K ok5
              go_wp2_with (at_builtin; refine wpList_appE PairE w3.heap.size w _ rfl (.tmp 74) (.tmp 78) 57 38 rfl i1 _ Tryz.underlying38 hi1 hy0 hy1 hy2 rfl _ Bp ps dp rfl oZ _ [.slice D ek.length c, .slice K1 key.length d1] (ek, key) 1 rfl _ (Reads.newN W5 [.slice D ek.length c, .slice K1 key.length d1] 57) ⟨D, c, K1, d1, rfl, ⟨hb1, hat1, c1⟩, hb2, hat2, c2⟩ (by simp only [PairE]; omega) (by simp only [maxLen]; omega) bwZ zw3 (by omega) ?_; intro B9 d9 ps9 w9 H9 o9 b9 g9 t9; have oK9 := OwnB.kept oKZ g9 (fun g e e2 => by have h1 := (Own.lt o g e2).1; have h2 := FK.out g e; omega); have kr9 := krZ.grown g9 (fun e => by have h1 := (Own.lt o _ e.symm).1; have h2 := kX.lt; omega); have z9 := g9.size)
              go_roundw
              case rel => exact ⟨k + 1, ps9, B9, d9, by omega, by go_num, rfl, Own.mono o9 (fun b hb _ hs => ⟨hs.1, hb⟩), by rw [H9.out, HMG.out, HP.out]; rfl, by rw [H9.out, List.length_append, List.length_singleton]; omega, oK9, kr9, by omega, b9⟩
              case measure => simp [intOf]; omega
            | true =>
              have HE : Hid (ek = acc) := by
                show _ = _
                rw [HEK.out, HAC2.out, HPRE.out, hq]
                exact List.append_nil _
              rw [hq] at q5
              clear hq
              obtain ⟨D, hDD⟩ : ∃ D, D = Bk := ⟨_, rfl⟩
              obtain ⟨c, hcd⟩ : ∃ c, c = dk := ⟨_, rfl⟩
              obtain ⟨W5, hW5⟩ : ∃ W, W = wr := ⟨_, rfl⟩
              subst hDD hcd hW5
              obtain rfl : ek = acc := HE.out
              have ok5 := ok
              have b5 := b4
              have w5K : OwnB X.heap.size W5 D ek c := ok5
              have z5 := b5.size
              have bI5 := dI.trans (b5.mono dI.size)
              have bw5 := bw.trans (bI5.mono bw.size)
              have oZ5 : Own PairE 57 W5 w3.heap.size (fun b => w.heap.size ≤ b ∧ b < W5.heap.size) (.slice Bp ps.length dp) ps := Own.mono (Own.below o bI5) (fun b hb _ hs => ⟨hs.1, hb⟩)
              have oK5 := OwnB.below oKr bI5
              have kr5 := kr.below bI5 kr.lt
              have hel5 : ek.length ≤ 4294967296 := by omega
              have dZ : Below W5.heap.size W5 (W5.alloc (.cells #[.slice D ek.length c, .slice K1 key.length d1] 57)) := (Below.refl _ _).alloc (Nat.le_refl _) _
              have bwZ := bw5.trans (dZ.mono bw5.size)
              have oZ := Own.below oZ5 dZ
              have oKZ := OwnB.below oK5 dZ
              have krZ := kr5.below dZ kr5.lt
              have zwZ := bwZ.size
              have z5Z := dZ.size
              have hat1 : At (fun b => (w.heap.size ≤ b ∧ b < W5.heap.size) ∧ (Value.slice Bp ps.length dp).ownBlock ≠ some b) D ek.length := fun ad e hn => by
                have h1 := OwnB.at_ w5K ad e hn
                refine ⟨⟨by omega, h1.2⟩, fun e2 => ?_⟩
                have := (Own.lt o _ e2).2
                omega
              have hat2 : At (fun b => (w.heap.size ≤ b ∧ b < W5.heap.size) ∧ (Value.slice Bp ps.length dp).ownBlock ≠ some b) K1 key.length := fun ad e hn => by
                have h1 := OwnB.at_ oK5 ad e hn
                have h3 := OwnB.at_ oKr ad e hn
                refine ⟨⟨by omega, h1.2⟩, fun e2 => ?_⟩
                have h4 := (Own.lt o _ e2).1
                have h5 := FKA.out ad e hn
                omega
              have hb1 := (w5K.bs (by omega)).below dZ
              have hb2 := (oK5.bs (by omega)).below dZ
              have c1 := w5K.caps
              have c2 := oK5.caps
              clear w5K ok5
              go_wp2_with (at_builtin; refine wpList_appE PairE w3.heap.size w _ rfl (.tmp 74) (.tmp 78) 57 38 rfl i1 _ Tryz.underlying38 hi1 hy0 hy1 hy2 rfl _ Bp ps dp rfl oZ _ [.slice D ek.length c, .slice K1 key.length d1] (ek, key) 1 rfl _ (Reads.newN W5 [.slice D ek.length c, .slice K1 key.length d1] 57) ⟨D, c, K1, d1, rfl, ⟨hb1, hat1, c1⟩, hb2, hat2, c2⟩ (by simp only [PairE]; omega) (by simp only [maxLen]; omega) bwZ zw3 (by omega) ?_; intro B9 d9 ps9 w9 H9 o9 b9 g9 t9; have oK9 := OwnB.kept oKZ g9 (fun g e e2 => by have h1 := (Own.lt o g e2).1; have h2 := FK.out g e; omega); have kr9 := krZ.grown g9 (fun e => by have h1 := (Own.lt o _ e.symm).1; have h2 := kX.lt; omega); have z9 := g9.size)
              go_roundw
              case rel => exact ⟨k + 1, ps9, B9, d9, by omega, by go_num, rfl, Own.mono o9 (fun b hb _ hs => ⟨hs.1, hb⟩), by rw [H9.out, HMG.out, HP.out]; rfl, by rw [H9.out, List.length_append, List.length_singleton]; omega, oK9, kr9, by omega, b9⟩
              case measure => simp [intOf]; omega
      · obtain rfl : k = ixs.length := by omega
        have HE : Hid (entsB id keys tn cols ixs xs = ps) := by show _ = _; rw [HEL.out, HP.out, ← HML.out, List.take_length]
        clear HP
        go_wp2_with fail
        go_ret2
        rw [HE.out, HF0.out]
        exact ⟨Bp, dp, rfl, Own.base o zw3, bw⟩
  · have d0 : (fitsE id keys tn cols ixs xs != 0) = true := by rw [bne_iff_ne]; exact h0
    have HE : Hid (entsB id keys tn cols ixs xs = []) := by show _ = _; unfold entsB; rw [if_neg h0]
    clear h0
    go_wp2_with fail
    go_ret2
    rw [HE.out]
    exact ⟨none, 0, rfl, Own.nil_ PairE _ _ _ _, b01⟩
end Go.Proofs.YtfededjcadmpbaaGreatDoor
