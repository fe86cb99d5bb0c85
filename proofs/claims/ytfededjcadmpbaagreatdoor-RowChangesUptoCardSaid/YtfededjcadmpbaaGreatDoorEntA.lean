/- A row's entries: plain definitions and laws. A row's entry in an index: row.entry. What a row is stored as: row.Entries. -/
import Derived.Test.YtfededjcadmpbaaGreatDoorKeyA
import Derived.Test.YtfededjcadmpbaaGreatDoorEncA
import Derived.Test.YtfededjcadmpbaaGreatDoorRowKey
import Derived.Test.YtfededjcadmpbaaGreatDoorValsOf
namespace Go.Proofs.YtfededjcadmpbaaGreatDoor
open Go.RowKit

/-- the values of an index's columns -/
def ixVals (xs : List LVal) (x : LIx) : List LVal := x.cols.map fun c => xs.getD c.toNat .null
/-- the beginning of an index entry's key -/
def ixKey (id : Int) (i : Nat) (x : LIx) (xs : List LVal) : List UInt8 := [105, UInt8.ofInt id, UInt8.ofInt (i : Int)] ++ keyL (ixVals xs x)
def entK (id : Int) (key : List UInt8) (xs : List LVal) (i : Nat) (x : LIx) : List UInt8 := ixKey id i x xs ++ (if x.uniq = true then [] else key)
/-- all entries of a row -/
def entsL (id keys : Int) (ixs : List LIx) (xs : List LVal) : List (List UInt8 × List UInt8) :=
  (rowKey id keys xs, encL xs) :: ixs.mapIdx fun i x => (entK id (rowKey id keys xs) xs i x, rowKey id keys xs)
theorem nodup_len : ∀ (n : Nat) (l : List Int), l.Nodup → (∀ c ∈ l, 0 ≤ c ∧ c < (n : Int)) → l.length ≤ n
  | 0, l, _, h => by
    cases l with
    | nil => exact Nat.le_refl _
    | cons a l => have := h a (List.mem_cons_self ..); omega
  | n + 1, l, hn, h => by
    have h2 := nodup_len n (l.erase (n : Int)) (hn.erase _) (fun c hc => by
      obtain ⟨h3, h4⟩ := (hn.mem_erase_iff).1 hc
      have := h c h4
      omega)
    have h5 : l.length ≤ (l.erase (n : Int)).length + 1 := by
      rw [List.length_erase]
      split <;> omega
    omega
theorem check_ixs {id keys : Int} {tn : ByteArray} {cols : List LCol} {ixs : List LIx} (h : checkI id keys tn cols ixs = 0) : ixs.length ≤ 4 ∧ ∀ x ∈ ixs, (∀ c ∈ x.cols, 0 ≤ c ∧ c < (cols.length : Int)) ∧ x.cols.length ≤ cols.length := by
  unfold checkI at h
  by_cases h1 : 16 < cols.length
  · rw [if_pos h1] at h; cases h
  rw [if_neg h1] at h
  by_cases h2 : 4 < ixs.length
  · rw [if_pos h2] at h; cases h
  rw [if_neg h2] at h
  by_cases h3 : headB id keys tn cols.length = false
  · rw [if_pos h3] at h; cases h
  rw [if_neg h3] at h
  by_cases h4 : colsB keys cols 0 = false
  · rw [if_pos h4] at h; cases h
  rw [if_neg h4] at h
  by_cases h5 : ixs.all (fun x => idxB cols.length x.name x.cols) = false
  · rw [if_pos h5] at h; cases h
  have h6 : ixs.all (fun x => idxB cols.length x.name x.cols) = true := by simpa using h5
  refine ⟨by omega, fun x hx => ?_⟩
  have h7 := List.all_eq_true.1 h6 x hx
  unfold idxB at h7
  simp only [Bool.and_eq_true, decide_eq_true_eq] at h7
  obtain ⟨⟨⟨h8, _⟩, _⟩, h9⟩ := h7
  have h10 : ∀ c ∈ x.cols, 0 ≤ c ∧ c < (cols.length : Int) := fun c hc => by
    have := List.all_eq_true.1 h8 c hc
    unfold inB at this
    simp only [Bool.and_eq_true, decide_eq_true_eq] at this
    exact this
  exact ⟨h10, nodup_len _ _ h9 h10⟩
theorem ixVals_mem {xs : List LVal} {x : LIx} (h : ∀ c ∈ x.cols, 0 ≤ c ∧ c < (xs.length : Int)) : ∀ v ∈ ixVals xs x, v ∈ xs := by
  intro v hv
  unfold ixVals at hv
  obtain ⟨c, hc, rfl⟩ := List.mem_map.1 hv
  have := h c hc
  rw [List.getD_eq_getElem?_getD, List.getElem?_eq_getElem (by omega)]
  exact List.getElem_mem _
end Go.Proofs.YtfededjcadmpbaaGreatDoor

namespace Go.Proofs.YtfededjcadmpbaaGreatDoor
open Go.RowKit

theorem Tryz.size_Pair : (Tryz.prog.info? 57).map (·.size) = some 2 := by kernel_rfl
theorem Tryz.size_Index : (Tryz.prog.info? 81).map (·.size) = some 3 := by kernel_rfl
/-- a pair, both of the call's own, in different rows -/
def RetPair (k v : List UInt8) (w : World) (en : Ending) (w' : World) : Prop :=
  ∃ D c F d, en = .returned (.agg #[.slice D k.length c, .slice F v.length d]) ∧ OwnB w.heap.size w' D k c ∧ OwnB w.heap.size w' F v d ∧ (∀ g, (Value.slice D k.length c).ownBlock = some g → (Value.slice F v.length d).ownBlock ≠ some g) ∧ Below w.heap.size w w'

set_option maxRecDepth 100000 in
set_option maxHeartbeats 4000000 in
theorem entry_any (id keys : Int) (tn : ByteArray) (nc : Nat) (ixs : List LIx) (xs : List LVal) (A B C K : Option Addr) (ca cb cc ck : Nat) (key : List UInt8) (i : Nat) (w : World) (hi : i < ixs.length) (hB : Sl IxE w B ixs) (hC : Sl AnyE w C xs) (hK : Bs w K key) (hkl : key.length ≤ 1073741824)
    (hx : ∀ x ∈ xs, x.err = 0 ∧ x.wfv) (hsm : ∀ x ∈ xs, x.sm) (hr : ∀ c ∈ ixs[i].cols, 0 ≤ c ∧ c < (xs.length : Int)) (hrl : ixs[i].cols.length ≤ 16) :
    Calls Tryz.prog 29 #[.agg #[.int .i64 id, .string tn, .slice A nc ca, .int .i64 keys, .slice B ixs.length cb], .int .i64 (i : Int), .slice C xs.length cc, .slice K key.length ck] w (RetPair (entK id key xs i ixs[i]) key w) := by
  obtain ⟨i1, hi1, hy0, hy1, hy2⟩ := info_parts Tryz.infoAny
  have HX := Lib.hid hx
  have HSM := Lib.hid hsm
  clear hx hsm
  obtain ⟨bd, Cx, cx, rfl, g1, f0, f1, f2, hIs, _, _⟩ := IxE.at_ hB hi
  have hi' : (i : Int) < (ixs.length : Int) := by omega
  obtain ⟨x, hxx⟩ : ∃ x, ixs[i] = x := ⟨_, rfl⟩
  rw [hxx] at f0 f1 f2 hIs hr hrl ⊢
  clear hxx hB
  have hvm := ixVals_mem hr
  have HVM := Lib.hid hvm
  have HR := Lib.hid hr
  clear hvm hr
  have b0 : Below w.heap.size w ((w.alloc (.cells #[.int .i64 id, .string tn, .slice A nc ca, .int .i64 keys, .slice (some bd) ixs.length cb] 25)).alloc (.cells #[.slice none 0 0, .slice none 0 0] 57)) := ((Below.refl _ _).alloc (Nat.le_refl _) _).alloc (by simp) _
  have kt := (Blk.new w 25 #[.int .i64 id, .string tn, .slice A nc ca, .int .i64 keys, .slice (some bd) ixs.length cb]).alloc (.cells #[.slice none 0 0, .slice none 0 0] 57)
  have kp := Blk.new (w.alloc (.cells #[.int .i64 id, .string tn, .slice A nc ca, .int .i64 keys, .slice (some bd) ixs.length cb] 25)) 57 #[.slice none 0 0, .slice none 0 0]
  rw [show (w.alloc (.cells #[.int .i64 id, .string tn, .slice A nc ca, .int .i64 keys, .slice (some bd) ixs.length cb] 25)).heap.size = w.heap.size + 1 from by simp] at kp
  go_enter Tryz.func29, Tryz.ntmps29
  go_upto_region 1 with fail
  generalize ((w.alloc (.cells #[.int .i64 id, .string tn, .slice A nc ca, .int .i64 keys, .slice (some bd) ixs.length cb] 25)).alloc (.cells #[.slice none 0 0, .slice none 0 0] 57)) = X at *
  have e0 := (b0.cell (p := bd.add (i * 3)) (by rw [block_of_add]; exact g1)).trans f0
  have e1 := (b0.cell (p := ⟨(bd.add (i * 3)).block, (bd.add (i * 3)).off + 1, none⟩) (by simpa [block_of_add] using g1)).trans f1
  have e2 := (b0.cell (p := ⟨(bd.add (i * 3)).block, (bd.add (i * 3)).off + 2, none⟩) (by simpa [block_of_add] using g1)).trans f2
  have y4 : X.cell? ⟨w.heap.size, 4, none⟩ = some (.slice (some bd) ixs.length cb) := kt.cell 4
  go_upto_region 3 with fail
  have dI : Below X.heap.size X (X.alloc (.cells #[.string x.name, .slice Cx x.cols.length cx, .bool x.uniq] 81)) := (Below.refl _ _).alloc (Nat.le_refl _) _
  have ki := Blk.new X 81 #[.string x.name, .slice Cx x.cols.length cx, .bool x.uniq]
  have b1 := b0.trans (dI.mono b0.size)
  have kt1 := kt.below dI kt.lt
  have kp1 := kp.below dI kp.lt
  have lx1 : w.heap.size + 1 < X.heap.size := kp.lt
  clear e0 e1 e2 y4 f0 f1 f2 b0 kt kp dI g1
  --TAIL
  have li := ki.lt
  generalize (X.alloc (.cells #[.string x.name, .slice Cx x.cols.length cx, .bool x.uniq] 81)) = Y at *
  have lx2 : X.heap.size < Y.heap.size := li
  generalize X.heap.size = nX at *
  have u1 : Y.cell? ⟨nX, 1, none⟩ = some (.slice Cx x.cols.length cx) := ki.cell 1
  have hCo := hC.old
  go_wp2_with fail
  go_loopw [10, 12, 23] (fun o _ j wr => ∃ (k : Nat) (vs : List LVal) (Bv : Option Addr) (dv : Nat), k ≤ x.cols.length ∧ j = .int .i64 (k : Int) ∧ o = .slice Bv vs.length dv ∧ Own AnyE 20 wr Y.heap.size (fun b => b < w.heap.size) (.slice Bv vs.length dv) vs ∧ vs = (x.cols.take k).map (fun c => xs.getD c.toNat .null) ∧ vs.length ≤ k ∧ Below Y.heap.size Y wr) (fun _ _ j _ => x.cols.length - (intOf j).toNat)
  case atStart => exact ⟨0, [], none, 0, Nat.zero_le _, rfl, rfl, Own.nil_ AnyE _ _ _ _, rfl, Nat.le_refl _, Below.refl _ _⟩
  case round =>
    clear u1
    obtain ⟨k, vs, Bv, dv, hk, rfl, rfl, o, hp, hpl, br⟩ := hrel
    have HP := Lib.hid hp
    clear hp
    have zr := br.size
    have bw := b1.trans (br.mono b1.size)
    by_cases hlt : k < x.cols.length
    · have hlt' : (k : Int) < (x.cols.length : Int) := by omega
      obtain ⟨xd, rfl, q1, q2⟩ := (hIs.below bw).at_ hlt
      obtain ⟨hc0, hc1⟩ := HR.out _ (List.getElem_mem hlt)
      have HPS : Hid ((x.cols.take (k + 1)).map (fun c => xs.getD c.toNat .null) = (x.cols.take k).map (fun c => xs.getD c.toNat .null) ++ [xs.getD (x.cols[k]).toNat .null]) := by
        show _ = _; rw [List.take_succ_eq_append_getElem hlt, List.map_append]; rfl
      generalize x.cols[k] = cc_ at *
      obtain ⟨cn, rfl⟩ : ∃ cn : Nat, cc_ = (cn : Int) := ⟨cc_.toNat, by omega⟩
      have hcn : cn < xs.length := by omega
      obtain ⟨rd, v, rfl, q3, q4, hv⟩ := AnyE.at_ (hCo.below bw) hcn
      have HG : Hid (xs.getD ((cn : Int)).toNat .null = xs[cn]) := by show _ = _; rw [Int.toNat_natCast, List.getD_eq_getElem?_getD, List.getElem?_eq_getElem hcn]; rfl
      generalize xs[cn] = xv at *
      rcases hv.shape with rfl | ⟨T0, u0, rfl⟩
      · have dX : Below wr.heap.size wr (wr.alloc (.cells #[.nilIface] 20)) := (Below.refl _ _).alloc (Nat.le_refl _) _
        have bX := br.trans (dX.mono zr)
        have oX := Own.below o dX
        have hvX : AnyV (wr.alloc (.cells #[.nilIface] 20)) (fun b => b < w.heap.size ∧ (Value.slice Bv vs.length dv).ownBlock ≠ some b) (.nilIface) xv := AnyV.mono (AnyV.same hv (.of_below dX)) (fun b _ hb => ⟨hb, fun e => by have := (Own.lt o b e).1; have := b1.size; omega⟩)
        go_wp2_with (at_builtin; refine wpList_appE AnyE Y.heap.size Y _ rfl (.tmp 27) (.tmp 32) 20 28 rfl i1 _ Tryz.underlying28 hi1 hy0 hy1 hy2 rfl _ Bv vs dv rfl oX _ [.nilIface] xv 1 rfl _ (Reads.new1 _ _ _) ⟨_, rfl, hvX⟩ (by simp only [AnyE]; omega) (by simp only [maxLen]; omega) bX (Nat.le_refl _) bX.size ?_; intro B9 d9 vs9 w9 H9 o9 b9 g9 t9)
        go_roundw
        case rel => exact ⟨k + 1, vs9, B9, d9, by omega, by go_num, rfl, o9, by rw [H9.out, HPS.out, HP.out, HG.out], by rw [H9.out, List.length_append, List.length_singleton]; omega, b9⟩
        case measure => simp [intOf]; omega
      · have dX : Below wr.heap.size wr (wr.alloc (.cells #[.iface T0 u0] 20)) := (Below.refl _ _).alloc (Nat.le_refl _) _
        have bX := br.trans (dX.mono zr)
        have oX := Own.below o dX
        have hvX : AnyV (wr.alloc (.cells #[.iface T0 u0] 20)) (fun b => b < w.heap.size ∧ (Value.slice Bv vs.length dv).ownBlock ≠ some b) (.iface T0 u0) xv := AnyV.mono (AnyV.same hv (.of_below dX)) (fun b _ hb => ⟨hb, fun e => by have := (Own.lt o b e).1; have := b1.size; omega⟩)
        go_wp2_with (at_builtin; refine wpList_appE AnyE Y.heap.size Y _ rfl (.tmp 27) (.tmp 32) 20 28 rfl i1 _ Tryz.underlying28 hi1 hy0 hy1 hy2 rfl _ Bv vs dv rfl oX _ [.iface T0 u0] xv 1 rfl _ (Reads.new1 _ _ _) ⟨_, rfl, hvX⟩ (by simp only [AnyE]; omega) (by simp only [maxLen]; omega) bX (Nat.le_refl _) bX.size ?_; intro B9 d9 vs9 w9 H9 o9 b9 g9 t9)
        go_roundw
        case rel => exact ⟨k + 1, vs9, B9, d9, by omega, by go_num, rfl, o9, by rw [H9.out, HPS.out, HP.out, HG.out], by rw [H9.out, List.length_append, List.length_singleton]; omega, b9⟩
        case measure => simp [intOf]; omega
    · obtain rfl : k = x.cols.length := by omega
      have HV : Hid (vs = ixVals xs x) := by show _ = _; rw [HP.out, List.take_length]; rfl
      have hvm : ∀ v ∈ vs, v ∈ xs := by rw [HV.out]; exact HVM.out
      have hvl : vs.length ≤ 16 := by omega
      have hsl : Sl AnyE wr Bv vs := Own.sl o (by simp only [AnyE]; omega)
      have hkl2 := keyL_len (xs := vs) (fun v hv => HSM.out v (hvm v hv))
      have T := ckey_any vs Bv dv wr hsl (fun v hv => HSM.out v (hvm v hv)) (fun v hv => HX.out v (hvm v hv)) (by omega)
      have ktr := kt1.below br kt1.lt
      have kir := ki.below br ki.lt
      have kpr := kp1.below br kp1.lt
      clear HP hvm hsl o
      go_wp2_with fail
      refine T.mono ?_
      rintro en w2 ⟨Bk, dk, rfl, o2, b2⟩
      have HKV : Hid (keyL vs = keyL (ixVals xs x)) := by show _ = _; rw [HV.out]
      generalize keyL vs = KV at *
      have z2 := b2.size
      have bw2 := bw.trans (b2.mono bw.size)
      have kt2 := ktr.below b2 ktr.lt
      have ki2 := kir.below b2 kir.lt
      have kp2 := kpr.below b2 kpr.lt
      clear T
      go_wp2_with ((with_reducible refine wpList_load_blk rfl 25 (.tmp 4) rfl w.heap.size ?_ 25 _ _ kt2 Tryz.underlying25 ?_ Tryz.size_TableV ?_ ?_); rfl; rfl; rfl)
      refine (idxprefix_any id keys (i : Int) tn A (some bd) nc ca ixs.length cb w2).mono ?_
      rintro en w3 ⟨A3, c3, rfl, o3, b3⟩
      have o3b : OwnB w2.heap.size w3 A3 [105, UInt8.ofInt id, UInt8.ofInt (i : Int)] c3 := o3
      have bw3 := bw2.trans (b3.mono bw2.size)
      have hKV : Bs w3 Bk KV := (o2.below b3).bs (by omega)
      have ki3 := ki2.below b3 ki2.lt
      have kp3 := kp2.below b3 kp2.lt
      have l3 := ki2.lt
      have zz3 := b3.size
      cases hq : x.uniq with
      | false =>
        have HQ := Lib.hid hq
        clear hq
        go_wp2_with (at_builtin; first
          | (refine wpList_app w2.heap.size w _ rfl (.tmp 42) (.tmp 43) rfl A3 [105, UInt8.ofInt id, UInt8.ofInt (i : Int)] c3 rfl o3b Bk KV dk rfl hKV (by simp only [List.length_cons, List.length_nil]; omega) bw3 bw2.size zz3 ?_; intro A4 d4 acc4 w4 H4 o4 b4 g4 t4; have L4 : acc4.length ≤ 3 + KV.length := (by rw [H4.out, List.length_append]; exact Nat.le_refl _); have ki4 := ki3.grown g4 (fun e => by have := (OwnB.lt o3b _ e.symm).1; omega); have kp4 := kp3.grown g4 (fun e => by have := (OwnB.lt o3b _ e.symm).1; omega); have q42 : w4.cell? ⟨nX, 2, none⟩ = some (.bool false) := (by have h := ki4.cell 2; rw [HQ.out] at h; exact h); have hK4 := hK.below b4)
          | (refine wpList_app w2.heap.size w _ rfl (.tmp 48) (.tmp 49) rfl A4 acc4 d4 rfl o4 K key ck rfl hK4 (by omega) b4 bw2.size (Nat.le_trans zz3 g4.size) ?_; intro A5 d5 acc5 w5 H5 o5 b5 g5 t5; have kpE := kp4.grown g5 (fun e => by have := (OwnB.lt o4 _ e.symm).1; omega)))
        have kp5 : Blk w5 (w.heap.size + 1) 57 #[.slice none 0 0, .slice none 0 0] := kpE
        refine (bclone_any K key ck w5 (hK.below b5)).mono ?_
        rintro en w6 ⟨F, df, rfl, o6, b6⟩
        have o6b : OwnB w5.heap.size w6 F key df := o6
        have b06 := b5.trans (b6.mono b5.size)
        have kp6 := kp5.below b6 kp5.lt
        have oK6 := OwnB.below o5 b6
        have l5 := kp5.lt
        have zz6 := b6.size
        go_wp2_with ((with_reducible refine wpList_store_blk rfl 57 (.tmp 8) (.tmp 54) rfl (w.heap.size + 1) 57 _ #[.slice A5 acc5.length d5, .slice F key.length df] ?_ ?_ kp6 Tryz.size_Pair ?_ ?_ ?_ ?_); rfl; rfl; rfl; rfl; (simp [Value.oneCell']); intro w7 k7 g7 z7)
        have fK := OwnB.kept oK6 g7 (fun g e e2 => by have := (OwnB.lt oK6 g e).1; have := Option.some.inj e2; omega)
        have fF := OwnB.kept o6b g7 (fun g e e2 => by have := (OwnB.lt o6b g e).1; have := Option.some.inj e2; omega)
        have b07 := b06.grown g7 b06.size (fun j hj => by have := Option.some.inj hj; omega)
        have zw2 : w.heap.size ≤ w2.heap.size := by omega
        have zw5 : w.heap.size ≤ w5.heap.size := b5.size
        have hdis : ∀ g, (Value.slice A5 acc5.length d5).ownBlock = some g → (Value.slice F key.length df).ownBlock ≠ some g := fun g e e2 => by have h1 := (OwnB.lt o5 g e).2; have h2 := (OwnB.lt o6b g e2).1; omega
        have HE : Hid (entK id key xs i x = acc5) := by show _ = _; unfold entK ixKey; rw [HQ.out, ← HKV.out, if_neg (by decide), H5.out, H4.out]
        rw [HE.out]
        exact bodyPost_ret (results_cell rfl rfl k7 Tryz.underlying57 rfl Tryz.size_Pair) rfl (by exact ⟨A5, d5, F, df, rfl, fK.base zw2, fF.base zw5, hdis, b07⟩)
      | true =>
        have HQ := Lib.hid hq
        clear hq
        go_wp2_with (at_builtin; (refine wpList_app w2.heap.size w _ rfl (.tmp 42) (.tmp 43) rfl A3 [105, UInt8.ofInt id, UInt8.ofInt (i : Int)] c3 rfl o3b Bk KV dk rfl hKV (by simp only [List.length_cons, List.length_nil]; omega) bw3 bw2.size zz3 ?_; intro A4 d4 acc4 w4 H4 o4 b4 g4 t4; have L4 : acc4.length ≤ 3 + KV.length := (by rw [H4.out, List.length_append]; exact Nat.le_refl _); have ki4 := ki3.grown g4 (fun e => by have := (OwnB.lt o3b _ e.symm).1; omega); have kp4 := kp3.grown g4 (fun e => by have := (OwnB.lt o3b _ e.symm).1; omega); have q42 : w4.cell? ⟨nX, 2, none⟩ = some (.bool true) := (by have h := ki4.cell 2; rw [HQ.out] at h; exact h); have hK4 := hK.below b4))
        have kpE := kp4
        have kp5 : Blk w4 (w.heap.size + 1) 57 #[.slice none 0 0, .slice none 0 0] := kpE
        refine (bclone_any K key ck w4 (hK.below b4)).mono ?_
        rintro en w6 ⟨F, df, rfl, o6, b6⟩
        have o6b : OwnB w4.heap.size w6 F key df := o6
        have b06 := b4.trans (b6.mono b4.size)
        have kp6 := kp5.below b6 kp5.lt
        have oK6 := OwnB.below o4 b6
        have l5 := kp5.lt
        have zz6 := b6.size
        go_wp2_with ((with_reducible refine wpList_store_blk rfl 57 (.tmp 8) (.tmp 54) rfl (w.heap.size + 1) 57 _ #[.slice A4 acc4.length d4, .slice F key.length df] ?_ ?_ kp6 Tryz.size_Pair ?_ ?_ ?_ ?_); rfl; rfl; rfl; rfl; (simp [Value.oneCell']); intro w7 k7 g7 z7)
        have fK := OwnB.kept oK6 g7 (fun g e e2 => by have := (OwnB.lt oK6 g e).1; have := Option.some.inj e2; omega)
        have fF := OwnB.kept o6b g7 (fun g e e2 => by have := (OwnB.lt o6b g e).1; have := Option.some.inj e2; omega)
        have b07 := b06.grown g7 b06.size (fun j hj => by have := Option.some.inj hj; omega)
        have zw2 : w.heap.size ≤ w2.heap.size := by omega
        have zw5 : w.heap.size ≤ w4.heap.size := b4.size
        have hdis : ∀ g, (Value.slice A4 acc4.length d4).ownBlock = some g → (Value.slice F key.length df).ownBlock ≠ some g := fun g e e2 => by have h1 := (OwnB.lt o4 g e).2; have h2 := (OwnB.lt o6b g e2).1; omega
        have HE : Hid (entK id key xs i x = acc4) := by show _ = _; unfold entK ixKey; rw [HQ.out, ← HKV.out, if_pos rfl, List.append_nil, H4.out]
        rw [HE.out]
        exact bodyPost_ret (results_cell rfl rfl k7 Tryz.underlying57 rfl Tryz.size_Pair) rfl (by exact ⟨A4, d4, F, df, rfl, fK.base zw2, fF.base zw5, hdis, b07⟩)
end Go.Proofs.YtfededjcadmpbaaGreatDoor

namespace Go.Proofs.YtfededjcadmpbaaGreatDoor
open Go.RowKit

/-- pairs of the call's own, and an error -/
def RetEnts (E : Int) (L : List (List UInt8 × List UInt8)) (w : World) (en : Ending) (w' : World) : Prop :=
  ∃ D d, en = .returned (.tuple #[.slice D L.length d, .int .i64 E]) ∧ Own PairE 57 w' w.heap.size (fun b => w.heap.size ≤ b ∧ b < w'.heap.size) (.slice D L.length d) L ∧ Below w.heap.size w w'
/-- the entries of a row that fits -/
def entsB (id keys : Int) (tn : ByteArray) (cols : List LCol) (ixs : List LIx) (xs : List LVal) : List (List UInt8 × List UInt8) :=
  if fitsE id keys tn cols ixs xs = 0 then entsL id keys ixs xs else []
theorem fitsE_ok {id keys : Int} {tn : ByteArray} {cols : List LCol} {ixs : List LIx} {xs : List LVal} (h : fitsE id keys tn cols ixs xs = 0) : checkI id keys tn cols ixs = 0 ∧ xs.length = cols.length ∧ valuesE cols xs 0 = 0 := by
  unfold fitsE at h
  by_cases h0 : checkI id keys tn cols ixs ≠ 0
  · rw [if_pos h0] at h; exact absurd h h0
  rw [if_neg h0] at h
  by_cases h1 : xs.length ≠ cols.length
  · rw [if_pos h1] at h; cases h
  rw [if_neg h1] at h
  exact ⟨Classical.byContradiction h0, Classical.byContradiction h1, h⟩
theorem keyE_of_fits {id keys : Int} {tn : ByteArray} {cols : List LCol} {ixs : List LIx} {xs : List LVal} (h : fitsE id keys tn cols ixs xs = 0) : keyE id keys tn cols ixs xs = 0 := by
  obtain ⟨h0, h1, h2⟩ := fitsE_ok h
  rw [keyE_vals h0 (.inr h1), h2]
theorem own_pair {w : World} {g base : Nat} {t : TypeId} {u0 u1 : Value} (h : Blk w g t #[u0, u1]) (hb : base ≤ g) : w.ownsRow base t 2 (.slice (some ⟨g, 0, none⟩) 1 1) 1 [u0, u1] :=
  ⟨rfl, .inr ⟨g, 1, #[u0, u1], rfl, hb, h, Nat.le_refl _, by simp [maxLen], rfl, rfl⟩⟩
theorem Tryz.infoPair : (Tryz.prog.info? 57).map (fun i => (i.zero, i.size, i.bytes)) = some (some (.agg #[.slice none 0 0, .slice none 0 0]), 2, 48) := by kernel_rfl

theorem frameL_len : ∀ {ls : List (List UInt8)}, (∀ l ∈ ls, l.length ≤ 16777216) → (frameL ls).length ≤ 67108864 * ls.length
  | [], _ => by simp [frameL]
  | l :: ls, h => by
    have h1 := h l (List.mem_cons_self ..)
    have h2 := frameL_len (ls := ls) fun x hx => h x (List.mem_cons_of_mem _ hx)
    have h3 := putU_len l.length (by omega)
    have e : frameL (l :: ls) = (putU l.length ++ l) ++ frameL ls := rfl
    rw [e, List.length_append, List.length_append, List.length_cons]
    omega
theorem encL_len {xs : List LVal} (h : ∀ x ∈ xs, x.sm) : (encL xs).length ≤ 67108864 * xs.length := by
  have := frameL_len (ls := xs.map LVal.part) fun l hl => by
    obtain ⟨x, hx, rfl⟩ := List.mem_map.1 hl
    exact part_len (h x hx)
  rw [List.length_map] at this
  exact this
set_option maxRecDepth 100000 in
set_option maxHeartbeats 4000000 in
theorem entries_any (id keys : Int) (tn : ByteArray) (cols : List LCol) (ixs : List LIx) (xs : List LVal) (A B C : Option Addr) (ca cb cc : Nat) (w : World) (hA : Sl ColE w A cols) (hB : Sl IxE w B ixs) (hC : Sl AnyE w C xs) (hn : tn.size ≤ 140737488351232) (hu : U8 w)
    (hx : ∀ x ∈ xs, x.err = 0 ∧ x.wfv) (hca : cols.length ≤ ca ∧ ca ≤ 9223372036854775807) (hcc : xs.length ≤ cc ∧ cc ≤ 9223372036854775807) :
    Calls Tryz.prog 9 #[.agg #[.int .i64 id, .string tn, .slice A cols.length ca, .int .i64 keys, .slice B ixs.length cb], .slice C xs.length cc] w (RetEnts (fitsE id keys tn cols ixs xs) (entsB id keys tn cols ixs xs) w) := by
  obtain ⟨i1, hi1, hy0, hy1, hy2⟩ := info_parts Tryz.infoPair
  have HX := Lib.hid hx
  clear hx
  have b0 : Below w.heap.size w (w.alloc (.cells #[.int .i64 id, .string tn, .slice A cols.length ca, .int .i64 keys, .slice B ixs.length cb] 25)) := (Below.refl _ _).alloc (Nat.le_refl _) _
  have k0 := Blk.new w 25 #[.int .i64 id, .string tn, .slice A cols.length ca, .int .i64 keys, .slice B ixs.length cb]
  go_enter Tryz.func9, Tryz.ntmps9
  go_wp2_with fail
  generalize (w.alloc (.cells #[.int .i64 id, .string tn, .slice A cols.length ca, .int .i64 keys, .slice B ixs.length cb] 25)) = W0 at *
  refine (fits_any id keys tn cols ixs xs A B C ca cb cc W0 (hA.below b0) (hB.below b0) (hC.below b0) hn (hu.below b0)).mono ?_
  rintro en w1 ⟨rfl, b1⟩
  have b01 := b0.trans (b1.mono b0.size)
  have k1 := k0.below b1 k0.lt
  clear b0 b1 k0
  by_cases h0 : fitsE id keys tn cols ixs xs = 0
  · have d0 : (fitsE id keys tn cols ixs xs != 0) = false := by rw [h0]; rfl
    obtain ⟨hck, hxl, hve⟩ := fitsE_ok h0
    obtain ⟨hi1_, hi2_, hk1, hk2, hc16⟩ := check_head hck
    obtain ⟨hx4, hxr⟩ := check_ixs hck
    have hsm2 : ∀ x ∈ xs, x.sm := values_sm (Nat.le_of_eq hxl) hve
    have HSM := Lib.hid hsm2
    have HR := Lib.hid hxr
    have hEL : Hid (entsB id keys tn cols ixs xs = entsL id keys ixs xs) := by show _ = _; unfold entsB; rw [if_pos h0]
    have hKE : Hid (keyE id keys tn cols ixs xs = 0) := keyE_of_fits h0
    have hKB : Hid (keyB id keys tn cols ixs xs = rowKey id keys xs) := by show _ = _; unfold keyB; rw [if_pos (keyE_of_fits h0)]
    have HF0 := Lib.hid h0
    have hkn : (rowKey id keys xs).length ≤ 1073741824 := by
      have := keyL_len (xs := xs.take keys.toNat) fun x hx => hsm2 x (List.mem_of_mem_take hx)
      have hl : (xs.take keys.toNat).length ≤ 16 := by rw [List.length_take]; omega
      show ([114, UInt8.ofInt id] ++ keyL (xs.take keys.toNat)).length ≤ _
      rw [List.length_append]
      show 2 + _ ≤ _
      omega
    have hxl1 : xs.length ≤ cols.length := Nat.le_of_eq hxl
    have hxl2 : cols.length ≤ xs.length := Nat.le_of_eq hxl.symm
    clear h0 hve hsm2 hxr hck hxl
    go_wp2_with ((with_reducible refine wpList_load_blk rfl 25 (.tmp 2) rfl w.heap.size ?_ 25 _ _ k1 Tryz.underlying25 ?_ Tryz.size_TableV ?_ ?_); rfl; rfl; rfl)
    refine (rowkey_any id keys tn cols ixs xs A B C ca cb cc w1 (hA.below b01) (hB.below b01) (hC.below b01) hn (hu.below b01) (fun x hx => HX.out x hx) hca hcc).mono ?_
    rintro en w2 ⟨K1, d1, rfl, oK, b2⟩
    rw [hKB.out] at oK ⊢
    rw [hKE.out]
    have HEL : Hid (entsB id keys tn cols ixs xs = (rowKey id keys xs, encL xs) :: ixs.mapIdx fun i x => (entK id (rowKey id keys xs) xs i x, rowKey id keys xs)) := by show _ = _; rw [hEL.out]; rfl
    generalize rowKey id keys xs = key at *
    have b02 := b01.trans (b2.mono b01.size)
    have k2 := k1.below b2 k1.lt
    have zz1 : w.heap.size ≤ w1.heap.size := b01.size
    clear b01 b2 k1
    go_wp2_with fail
    refine (enc_any xs C cc w2 (hC.below b02) (fun x hx => HSM.out x hx) (fun x hx => HX.out x hx) (by omega)).mono ?_
    rintro en w3 ⟨F1, f1, rfl, oE, b3⟩
    have hel := encL_len (xs := xs) (fun x hx => HSM.out x hx)
    generalize encL xs = ebs at *
    have b03 := b02.trans (b3.mono b02.size)
    have k3 := k2.below b3 k2.lt
    have oK3 := oK.below b3
    have oE3 : OwnB w2.heap.size w3 F1 ebs f1 := oE
    have hel2 : ebs.length ≤ 1073741824 := by omega
    have zz2 : w.heap.size ≤ w2.heap.size := b02.size
    have zz3 := b3.size
    have dX : Below w3.heap.size w3 (w3.alloc (.cells #[.slice K1 key.length d1, .slice F1 ebs.length f1] 57)) := (Below.refl _ _).alloc (Nat.le_refl _) _
    have bX := b03.trans (dX.mono b03.size)
    have kX := k3.below dX k3.lt
    have oP : Own PairE 57 (w3.alloc (.cells #[.slice K1 key.length d1, .slice F1 ebs.length f1] 57)) w3.heap.size (fun b => w.heap.size ≤ b ∧ b < w3.heap.size) (.slice (some ⟨w3.heap.size, 0, none⟩) 1 1) [(key, ebs)] := by
      refine ⟨[.slice K1 key.length d1, .slice F1 ebs.length f1], own_pair (Blk.new w3 _ _) (Nat.le_refl _), ER.flat_one_ ⟨K1, d1, F1, f1, rfl, ⟨(oK3.bs (by show key.length ≤ _; omega)).below dX, fun ad e hn => ?_, oK3.caps⟩, (oE3.bs (by show ebs.length ≤ _; omega)).below dX, fun ad e hn => ?_, oE3.caps⟩⟩
      · have h1 := OwnB.at_ oK3 ad e hn
        have h2 := kX.lt
        refine ⟨⟨by omega, h1.2⟩, fun e2 => ?_⟩
        have h3 : w3.heap.size = ad.block := Option.some.inj e2
        have h4 : ad.block < w3.heap.size := h1.2
        omega
      · have h1 := OwnB.at_ oE3 ad e hn
        refine ⟨⟨by omega, h1.2⟩, fun e2 => ?_⟩
        have h3 : w3.heap.size = ad.block := Option.some.inj e2
        have h4 : ad.block < w3.heap.size := h1.2
        omega
    have oKX : OwnB w1.heap.size (w3.alloc (.cells #[.slice K1 key.length d1, .slice F1 ebs.length f1] 57)) K1 key d1 := OwnB.below oK3 dX
    have hFK := fun g e => (OwnB.lt oK3 g e).2
    have FK := Lib.hid hFK
    clear hFK
    have zw3 := b03.size
    have zlt3 : w.heap.size < w3.heap.size := k3.lt
    have l3 := dX.size
    go_upto_region 7 with fail
    have lX : w3.heap.size < (w3.alloc (.cells #[.slice K1 key.length d1, .slice F1 ebs.length f1] 57)).heap.size := by simp
    generalize (w3.alloc (.cells #[.slice K1 key.length d1, .slice F1 ebs.length f1] 57)) = X at *
    generalize hM : (ixs.mapIdx fun i x => (entK id key xs i x, key)) = M at *
    have hMl : M.length = ixs.length := by rw [← hM, List.length_mapIdx]
    have hMg : ∀ k (h : k < ixs.length), M.take (k + 1) = M.take k ++ [(entK id key xs k ixs[k], key)] := fun k h => by
      have h2 : k < M.length := by omega
      rw [List.take_succ_eq_append_getElem h2]
      congr 2
      subst hM
      rw [List.getElem_mapIdx]
    have HM := Lib.hid hMg
    have HML := Lib.hid hMl
    have q4 : X.cell? ⟨w.heap.size, 4, none⟩ = some (.slice B ixs.length cb) := kX.cell 4
    clear hMg hMl hM dX oK3 oK oE oE3 k3 k2 b3
    have lkX := kX.lt
    go_wp2_with fail
    go_loopw [11, 12, 37] (fun o _ j wr => ∃ (k : Nat) (ps : List (List UInt8 × List UInt8)) (Bp : Option Addr) (dp : Nat), k ≤ ixs.length ∧ j = .int .i64 (k : Int) ∧ o = .slice Bp ps.length dp ∧ Own PairE 57 wr w3.heap.size (fun b => w.heap.size ≤ b ∧ b < wr.heap.size) (.slice Bp ps.length dp) ps ∧ ps = (key, ebs) :: M.take k ∧ ps.length ≤ k + 1 ∧ OwnB w1.heap.size wr K1 key d1 ∧ Blk wr w.heap.size 25 #[.int .i64 id, .string tn, .slice A cols.length ca, .int .i64 keys, .slice B ixs.length cb] ∧ w3.heap.size ≤ wr.heap.size ∧ Below w.heap.size w wr) (fun _ _ j _ => ixs.length - (intOf j).toNat)
    case atStart => exact ⟨0, [(key, ebs)], _, _, Nat.zero_le _, rfl, rfl, Own.mono oP (fun b hb _ hs => ⟨hs.1, hb⟩), by rw [List.take_zero], Nat.le_refl _, oKX, kX, l3, bX⟩
    case round =>
      clear q4
      obtain ⟨k, ps, Bp, dp, hk, rfl, rfl, o, hp, hpl, oKr, kr, z3r, bw⟩ := hrel
      have HP := Lib.hid hp
      clear hp
      have zr := bw.size
      by_cases hlt : k < ixs.length
      · have hlt' : (k : Int) < (ixs.length : Int) := by omega
        have HMG := Lib.hid (HM.out k hlt)
        obtain ⟨hr1, hr2⟩ := HR.out _ (List.getElem_mem hlt)
        have hr3 : ∀ c ∈ ixs[k].cols, 0 ≤ c ∧ c < (xs.length : Int) := fun c hc => by have := hr1 c hc; omega
        have T := entry_any id keys tn cols.length ixs xs A B C K1 ca cb cc d1 key k wr hlt (hB.below bw) (hC.below bw) (oKr.bs (by omega)) hkn (fun x hx => HX.out x hx) (fun x hx => HSM.out x hx) hr3 (by omega)
        have hkl := keyL_len (xs := ixVals xs ixs[k]) (fun v hv => HSM.out v (ixVals_mem hr3 v hv))
        have hvl : (ixVals xs ixs[k]).length ≤ 16 := by unfold ixVals; rw [List.length_map]; omega
        have hekl : (entK id key xs k ixs[k]).length ≤ 4294967296 := by
          have h1 : (ixKey id k ixs[k] xs).length ≤ 3 + (keyL (ixVals xs ixs[k])).length := by unfold ixKey; rw [List.length_append]; exact Nat.le_refl _
          have h2 : (if ixs[k].uniq = true then ([] : List UInt8) else key).length ≤ key.length := by split <;> simp
          unfold entK
          rw [List.length_append]
          omega
        generalize entK id key xs k ixs[k] = ek at *
        clear hr1 hr2 hr3 hkl hvl
        go_wp2_with ((with_reducible refine wpList_load_blk rfl 25 (.tmp 2) rfl w.heap.size ?_ 25 _ _ kr Tryz.underlying25 ?_ Tryz.size_TableV ?_ ?_); rfl; rfl; rfl)
        refine T.mono ?_
        rintro en w5 ⟨D, c, F, d, rfl, oD, oF, _, b5⟩
        have oK5 := OwnB.below oKr b5
        have kr5 := kr.below b5 kr.lt
        have oDb : OwnB wr.heap.size w5 D ek c := oD
        have oFb : OwnB wr.heap.size w5 F key d := oF
        have dZ : Below w5.heap.size w5 (w5.alloc (.cells #[.slice D ek.length c, .slice F key.length d] 57)) := (Below.refl _ _).alloc (Nat.le_refl _) _
        have zz5 := b5.size
        have bwZ := (bw.trans (b5.mono bw.size)).trans (dZ.mono (bw.trans (b5.mono bw.size)).size)
        have oZ0 : Own PairE 57 w5 w3.heap.size (fun b => w.heap.size ≤ b ∧ b < w5.heap.size) (.slice Bp ps.length dp) ps := Own.mono (Own.below o b5) (fun b hb _ hs => ⟨hs.1, hb⟩)
        have oZ := Own.below oZ0 dZ
        have oKZ := OwnB.below oK5 dZ
        have krZ := kr5.below dZ kr5.lt
        have zwZ := bwZ.size
        have z5Z := dZ.size
        have hat1 : At (fun b => (w.heap.size ≤ b ∧ b < w5.heap.size) ∧ (Value.slice Bp ps.length dp).ownBlock ≠ some b) D ek.length := fun ad e hn => by
          have h1 := OwnB.at_ oDb ad e hn
          refine ⟨⟨by omega, h1.2⟩, fun e2 => ?_⟩
          have := (Own.lt o _ e2).2
          omega
        have hat2 : At (fun b => (w.heap.size ≤ b ∧ b < w5.heap.size) ∧ (Value.slice Bp ps.length dp).ownBlock ≠ some b) F key.length := fun ad e hn => by
          have h1 := OwnB.at_ oFb ad e hn
          refine ⟨⟨by omega, h1.2⟩, fun e2 => ?_⟩
          have := (Own.lt o _ e2).2
          omega
        have hb1 := (oDb.bs (by omega)).below dZ
        have hb2 := (oFb.bs (by omega)).below dZ
        have c1 := oDb.caps
        have c2 := oFb.caps
        clear oD oF oDb oFb
        go_wp2_with (at_builtin; refine wpList_appE PairE w3.heap.size w _ rfl (.tmp 40) (.tmp 46) 57 38 rfl i1 _ Tryz.underlying38 hi1 hy0 hy1 hy2 rfl _ Bp ps dp rfl oZ _ [.slice D ek.length c, .slice F key.length d] (ek, key) 1 rfl _ (Reads.newN w5 [.slice D ek.length c, .slice F key.length d] 57) ⟨D, c, F, d, rfl, ⟨hb1, hat1, c1⟩, hb2, hat2, c2⟩ (by simp only [PairE]; omega) (by simp only [maxLen]; omega) bwZ zw3 (by omega) ?_; intro B9 d9 ps9 w9 H9 o9 b9 g9 t9; have oK9 := OwnB.kept oKZ g9 (fun g e e2 => by have h1 := (Own.lt o g e2).1; have h2 := FK.out g e; omega); have kr9 := krZ.grown g9 (fun e => by have h1 := (Own.lt o _ e.symm).1; have h2 := kX.lt; omega); have z9 := g9.size)
        go_roundw
        case rel => exact ⟨k + 1, ps9, B9, d9, by omega, by go_num, rfl, Own.mono o9 (fun b hb _ hs => ⟨hs.1, hb⟩), by rw [H9.out, HMG.out, HP.out]; rfl, by rw [H9.out, List.length_append, List.length_singleton]; omega, oK9, kr9, by omega, b9⟩
        case measure => simp [intOf]; omega
      · obtain rfl : k = ixs.length := by omega
        have HE : Hid (entsB id keys tn cols ixs xs = ps) := by show _ = _; rw [HEL.out, HP.out, ← HML.out, List.take_length]
        clear HP
        go_wp2_with fail
        go_ret2
        rw [HE.out, HF0.out]
        exact ⟨Bp, dp, rfl, Own.base o zw3, bw⟩
  · have d0 : (fitsE id keys tn cols ixs xs != 0) = true := by rw [bne_iff_ne]; exact h0
    have HE : Hid (entsB id keys tn cols ixs xs = []) := by show _ = _; unfold entsB; rw [if_neg h0]
    clear h0
    go_wp2_with fail
    go_ret2
    rw [HE.out]
    exact ⟨none, 0, rfl, Own.nil_ PairE _ _ _ _, b01⟩
end Go.Proofs.YtfededjcadmpbaaGreatDoor
