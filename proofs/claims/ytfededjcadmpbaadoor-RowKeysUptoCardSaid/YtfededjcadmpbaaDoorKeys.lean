/- RowKeys: rows' keys stand in the order of their first values. -/
import Derived.Test.YtfededjcadmpbaaDoorAwakeR
import Derived.Test.YtfededjcadmpbaaDoorValsOf
import Derived.Test.YtfededjcadmpbaaDoorRRowKey
import Derived.Test.YtfededjcadmpbaaDoorCompare
import Derived.Deep.RegionHeld3
namespace Go.Proofs.YtfededjcadmpbaaDoor
open Go.RowKit

theorem vals_good {l : List LCel} (h : ∀ x ∈ l, (Lit.int .i64 x.kind).wf = true ∧ (Lit.int .i64 x.n).wf = true ∧ x.t.size ≤ 1048576 ∧ x.l.length ≤ 140737488351232) : ∀ v ∈ valsOf l, (v.err = 0 ∧ v.wfv) ∧ v.t.size ≤ 1048576 := by
  intro v hv
  unfold valsOf at hv
  obtain ⟨c, hc, rfl⟩ := List.mem_map.1 hv
  obtain ⟨hm, hg⟩ := List.mem_filter.1 hc
  obtain ⟨hce, hx⟩ := LCel.good_cel hg
  obtain ⟨_, h2, h3, _⟩ := h c hm
  rcases c with ⟨kk, b, n, t, dl⟩
  generalize LCel.val ⟨kk, b, n, t, dl⟩ = x at *
  obtain ⟨rfl, rfl, rfl, rfl, rfl⟩ : x.kind = kk ∧ x.b = b ∧ x.n = n ∧ x.t = t ∧ x.l = dl := by
    have h := hce; unfold LVal.cel at h; injection h with a b c d e; exact ⟨a, b, c, d, e⟩
  refine ⟨⟨hx, ?_⟩, h3⟩
  unfold LVal.wfv
  simp [Lit.wf, IntKind.min, IntKind.max, IntKind.signed, IntKind.bits] at h2
  omega
theorem rowKey_cmp {id : Int} {kn : Nat} {xs ys : List LVal} (h1 : kn ≤ xs.length) (h2 : kn ≤ ys.length) (hx : ∀ x ∈ xs, x.err = 0 ∧ x.wfv) (hy : ∀ y ∈ ys, y.err = 0 ∧ y.wfv) :
    cmpL (rowKey id kn xs) (rowKey id kn ys) = firstNZ (xs.take kn) (ys.take kn) := by
  show cmpL (114 :: UInt8.ofInt id :: keyL (xs.take kn)) (114 :: UInt8.ofInt id :: keyL (ys.take kn)) = _
  rw [cmpL_cons, cmpL_cons]
  exact (keyL_cmp (by rw [List.length_take, List.length_take]; omega) (fun x hx' => hx x (List.mem_of_mem_take hx')) (fun y hy' => hy y (List.mem_of_mem_take hy'))).2
/-- a truth is answered, and nothing old is touched -/
def RetT (w : World) (e : Ending) (w' : World) : Prop := e = .returned (.bool true) ∧ Below w.heap.size w w'
theorem eq_same (A B : Option Addr) (l : List UInt8) (n c d : Nat) (w : World) (hn : n = l.length) (hb : Bs w A l) (hb2 : Bs w B l) : Calls Tryd.prog 12 #[.slice A n c, .slice B n d] w (RetT w) := by
  subst hn
  refine (equal_any A B l l c d w hb hb2).mono ?_
  rintro en w2 ⟨rfl, n, rfl⟩
  exact ⟨by simp, below_drewN (Below.refl _ _) n⟩
/-- n bytes are answered -/
def RetN (l : List UInt8) (n : Nat) (w : World) (e : Ending) (w' : World) : Prop := ∃ A c, e = .returned (.slice A n c) ∧ Bs w' A l ∧ Below w.heap.size w w'

theorem keyE_ok {id keys : Int} {tn : ByteArray} {cols : List LCol} {ixs : List LIx} {xs : List LVal} (h : keyE id keys tn cols ixs xs = 0) : (1 ≤ keys ∧ keys ≤ (xs.length : Int) ∧ xs.length ≤ cols.length ∧ cols.length ≤ 16) ∧ valuesE cols xs 0 = 0 := by
  unfold keyE at h
  by_cases h0 : checkI id keys tn cols ixs ≠ 0
  · rw [if_pos h0] at h; exact absurd h h0
  rw [if_neg h0] at h
  have h1 : checkI id keys tn cols ixs = 0 := Classical.byContradiction h0
  obtain ⟨_, _, h2, h3, h4⟩ := check_head h1
  by_cases h5 : (xs.length : Int) ≠ keys ∧ xs.length ≠ cols.length
  · rw [if_pos h5] at h; cases h
  rw [if_neg h5] at h
  refine ⟨?_, h⟩
  by_cases h6 : (xs.length : Int) = keys
  · omega
  · have h7 : xs.length = cols.length := Classical.byContradiction fun h8 => h5 ⟨h6, h8⟩
    omega
theorem keyB_len {id keys : Int} {tn : ByteArray} {cols : List LCol} {ixs : List LIx} {xs : List LVal} (ht : ∀ x ∈ xs, x.t.size ≤ 1048576) : (keyB id keys tn cols ixs xs).length ≤ 1073741824 := by
  unfold keyB
  by_cases h : keyE id keys tn cols ixs xs = 0
  · rw [if_pos h]
    obtain ⟨⟨h1, h2, h3, h4⟩, h5⟩ := keyE_ok h
    have hs := values_small h3 h5
    have := keyL_len (xs := xs.take keys.toNat) fun x hx => ⟨ht x (List.mem_of_mem_take hx), hs x (List.mem_of_mem_take hx)⟩
    have hl : (xs.take keys.toNat).length ≤ 16 := by rw [List.length_take]; omega
    show ([114, UInt8.ofInt id] ++ keyL (xs.take keys.toNat)).length ≤ _
    rw [List.length_append]
    show 2 + _ ≤ _
    omega
  · rw [if_neg h]; exact Nat.zero_le _

set_option maxRecDepth 100000 in
set_option maxHeartbeats 2000000 in
theorem keys_any (id keys : Int) (tn : ByteArray) (cols : List LCol) (ixs : List LIx) (l m : List LCel) (A B C D : Option Addr) (ca cb cc cd : Nat) (w : World) (hA : Sl ColE w A cols) (hB : Sl IxE w B ixs) (hC : Sl CraE w C l) (hD : Sl CraE w D m) (hn : tn.size ≤ 140737488351232) (hu : U8 w)
    (hl : ∀ x ∈ l, (Lit.int .i64 x.kind).wf = true ∧ (Lit.int .i64 x.n).wf = true ∧ x.t.size ≤ 1048576 ∧ x.l.length ≤ 140737488351232) (hm : ∀ x ∈ m, (Lit.int .i64 x.kind).wf = true ∧ (Lit.int .i64 x.n).wf = true ∧ x.t.size ≤ 1048576 ∧ x.l.length ≤ 140737488351232) (hca : cols.length ≤ ca) (hcm : ca ≤ 9223372036854775807) :
    Calls Tryd.prog 3 #[.agg #[.int .i64 id, .string tn, .slice A cols.length ca, .int .i64 keys, .slice B ixs.length cb], .slice C l.length cc, .slice D m.length cd] w fun e w' => e = .returned (.bool true) ∧ Below w.heap.size w w' := by
  have HL := Lib.hid (vals_good hl)
  have HM := Lib.hid (vals_good hm)
  clear hl hm
  have b0 : Below w.heap.size w (w.alloc (.cells #[.int .i64 id, .string tn, .slice A cols.length ca, .int .i64 keys, .slice B ixs.length cb] 25)) := (Below.refl _ _).alloc (Nat.le_refl _) _
  have k0 := Blk.new w 25 #[.int .i64 id, .string tn, .slice A cols.length ca, .int .i64 keys, .slice B ixs.length cb]
  go_enter Tryd.func3, Tryd.ntmps3
  go_wp2_with fail
  generalize (w.alloc (.cells #[.int .i64 id, .string tn, .slice A cols.length ca, .int .i64 keys, .slice B ixs.length cb] 25)) = W0 at *
  refine (awake_any W0 (hu.below b0)).mono ?_
  rintro en w1 ⟨rfl, b1⟩
  have b01 := b0.trans (b1.mono b0.size)
  have k1 := k0.below b1 k0.lt
  go_wp2_with fail
  refine (vals_any l C cc w1 (hC.below b01)).mono ?_
  rintro en w2 ⟨V, X, cv, cx, rfl, sV, sX, capV, capX, b2⟩
  generalize valsOf l = xs at *
  have b02 := b01.trans (b2.mono b01.size)
  have k2 := k1.below b2 k1.lt
  go_wp2_with fail
  refine (vals_any m D cd w2 (hD.below b02)).mono ?_
  rintro en w3 ⟨U, Y, cu, cy, rfl, sU, sY, capU, capY, b3⟩
  generalize valsOf m = ys at *
  have b03 := b02.trans (b3.mono b02.size)
  have k3 := k2.below b3 k2.lt
  have sV3 := sV.below b3
  have sX3 := sX.below b3
  clear b0 b1 b2 k0 k1 b01 sV sX
  go_wp2_with ((with_reducible refine wpList_load_blk rfl 25 (.tmp 3) rfl w.heap.size ?_ 25 _ _ k3 Tryd.underlying25 ?_ Tryd.size_TableV ?_ ?_); rfl; rfl; rfl)
  refine (rowkey_any id keys tn cols ixs xs A B V ca cb cv w3 (hA.below b03) (hB.below b03) sV3 hn (hu.below b03) (fun x hx => (HL.out x hx).1) (fun x hx => (HL.out x hx).2) ⟨hca, hcm⟩ capV).mono ?_
  rintro en w4 ⟨K1, d1, rfl, oK1, b4⟩
  have b04 := b03.trans (b4.mono b03.size)
  have k4 := k3.below b4 k3.lt
  have sX4 := sX3.below b4
  go_wp2_with ((with_reducible refine wpList_load_blk rfl 25 (.tmp 3) rfl w.heap.size ?_ 25 _ _ k4 Tryd.underlying25 ?_ Tryd.size_TableV ?_ ?_); rfl; rfl; rfl)
  refine (rrowkey_any id keys tn cols ixs xs A B X ca cb cx w4 (hA.below b04) (hB.below b04) sX4 hn (fun x hx => (HL.out x hx).1) (fun x hx => (HL.out x hx).2) capX).mono ?_
  have kl1 := keyB_len (id := id) (keys := keys) (tn := tn) (cols := cols) (ixs := ixs) (fun x hx => (HL.out x hx).2)
  obtain ⟨E1, hE1⟩ : ∃ E, keyE id keys tn cols ixs xs = E := ⟨_, rfl⟩
  obtain ⟨KB1, hKB1⟩ : ∃ K, keyB id keys tn cols ixs xs = K := ⟨_, rfl⟩
  rw [hKB1] at oK1 kl1
  rw [hE1, hKB1]
  have HE1 := Lib.hid hE1
  have HK1 := Lib.hid hKB1
  clear hE1 hKB1
  rintro en w5 ⟨K2, d2, rfl, oK2, b5⟩
  have b05 := b04.trans (b5.mono b04.size)
  have k5 := k4.below b5 k4.lt
  have hK1 : Bs w5 K1 KB1 := (oK1.below b5).bs (by omega)
  have hK2 : Bs w5 K2 KB1 := oK2.bs (by omega)
  have sX5 := sX4.below b5
  have sY5 := (sY.below b4).below b5
  have sU5 := (sU.below b4).below b5
  have l5 := k5.lt
  have dE : (E1 != E1) = false := by simp
  clear b3 b4 b5 k2 k3 k4 b02 b03 b04 sV3 sX3 sX4 sU sY oK1 oK2
  go_upto_region 7 with fail
  go_cut [76] (fun s76 wx => s76 = .bool false ∧ Below w5.heap.size w5 wx)
  case first =>
    have y0 : w5.cell? ⟨w.heap.size, 0, none⟩ = some (.int .i64 id) := k5.cell 0
    have y1 : w5.cell? ⟨w.heap.size, 1, none⟩ = some (.string tn) := k5.cell 1
    have y2 : w5.cell? ⟨w.heap.size, 2, none⟩ = some (.slice A cols.length ca) := k5.cell 2
    have y3 : w5.cell? ⟨w.heap.size, 3, none⟩ = some (.int .i64 keys) := k5.cell 3
    have y4 : w5.cell? ⟨w.heap.size, 4, none⟩ = some (.slice B ixs.length cb) := k5.cell 4
    have t1 : ∀ W, Below w5.heap.size w5 W → Calls Tryd.prog 12 #[.slice K1 KB1.length d1, .slice K2 KB1.length d2] W (RetT W) := fun W hW => eq_same K1 K2 KB1 _ d1 d2 W rfl (hK1.below hW) (hK2.below hW)
    have t2 : ∀ W, Calls Tryd.prog 13 #[.agg #[.int .i64 id, .string tn, .slice A cols.length ca, .int .i64 keys, .slice B ixs.length cb]] W (RetN [114, UInt8.ofInt id] 2 W) := fun W => by
      refine (prefix_bs id keys tn A B cols.length ca ixs.length cb W).mono ?_
      rintro en w2 ⟨A2, c2, rfl, o, b⟩
      exact ⟨A2, c2, rfl, Bs.of_own o (by simp), b⟩
    have t3 : ∀ W, Calls Tryd.prog 14 #[.agg #[.int .i64 id, .string tn, .slice A cols.length ca, .int .i64 keys, .slice B ixs.length cb], .int .i64 (l.length : Int)] W (RetN [105, UInt8.ofInt id, UInt8.ofInt (l.length : Int)] 3 W) := fun W => by
      refine (idxprefix_any id keys (l.length : Int) tn A B cols.length ca ixs.length cb W).mono ?_
      rintro en w2 ⟨A2, c2, rfl, o, b⟩
      exact ⟨A2, c2, rfl, Bs.of_own o (by simp), b⟩
    have lit2_ : ∀ W : World, Bs (W.alloc (.cells #[.int .u8 114, .int .u8 (IntKind.u8.wrap id)] 5)) (some ⟨W.heap.size, 0, none⟩) [114, UInt8.ofInt id] := fun W => by
      have := Bs.lit W [114, UInt8.ofInt id] 5 (by simp)
      rw [show ([114, UInt8.ofInt id] : List UInt8).map bval = [.int .u8 114, .int .u8 (IntKind.u8.wrap id)] from by simp only [List.map_cons, List.map_nil, bval, mod_u8, wrap_u8]; rfl] at this
      exact this
    have lit3_ : ∀ W : World, Bs (W.alloc (.cells #[.int .u8 105, .int .u8 (IntKind.u8.wrap id), .int .u8 (IntKind.u8.wrap (l.length : Int))] 5)) (some ⟨W.heap.size, 0, none⟩) [105, UInt8.ofInt id, UInt8.ofInt (l.length : Int)] := fun W => by
      have := Bs.lit W [105, UInt8.ofInt id, UInt8.ofInt (l.length : Int)] 5 (by simp)
      rw [show ([105, UInt8.ofInt id, UInt8.ofInt (l.length : Int)] : List UInt8).map bval = [.int .u8 105, .int .u8 (IntKind.u8.wrap id), .int .u8 (IntKind.u8.wrap (l.length : Int))] from by simp only [List.map_cons, List.map_nil, bval, mod_u8, wrap_u8]; rfl] at this
      exact this
    have t4 : ∀ A B c d W, Bs W A [114, UInt8.ofInt id] → Bs W B [114, UInt8.ofInt id] → Calls Tryd.prog 12 #[.slice A 2 c, .slice B 2 d] W (RetT W) := fun A B c d W h1 h2 => eq_same A B [114, UInt8.ofInt id] 2 c d W rfl h1 h2
    have t5 : ∀ A B c d W, Bs W A [105, UInt8.ofInt id, UInt8.ofInt (l.length : Int)] → Bs W B [105, UInt8.ofInt id, UInt8.ofInt (l.length : Int)] → Calls Tryd.prog 12 #[.slice A 3 c, .slice B 3 d] W (RetT W) := fun A B c d W h1 h2 => eq_same A B _ 3 c d W rfl h1 h2
    have T4 := Lib.hid t4
    have T5 := Lib.hid t5
    have T1 := Lib.hid t1
    have T2 := Lib.hid t2
    have T3 := Lib.hid t3
    have LIT2 := Lib.hid lit2_
    have LIT3 := Lib.hid lit3_
    clear t1 t2 t3 t4 t5 lit2_ lit3_ hA hB hC hD hca hcm capV capX capU capY b05 hK1 hK2 sX5 sY5 sU5 kl1
    have ks : ∀ W, Below w5.heap.size w5 W → W.cell? ⟨w.heap.size, 0, none⟩ = some (.int .i64 id) ∧ W.cell? ⟨w.heap.size, 1, none⟩ = some (.string tn) ∧ W.cell? ⟨w.heap.size, 2, none⟩ = some (.slice A cols.length ca) ∧ W.cell? ⟨w.heap.size, 3, none⟩ = some (.int .i64 keys) ∧ W.cell? ⟨w.heap.size, 4, none⟩ = some (.slice B ixs.length cb) := fun W hW => by
      have kT := k5.below hW l5
      exact ⟨kT.cell 0, kT.cell 1, kT.cell 2, kT.cell 3, kT.cell 4⟩
    have KS := Lib.hid ks
    clear ks y0 y1 y2 y3 y4
    go_region_held3 (fun W : World => W.cell? ⟨w.heap.size, 0, none⟩ = some (.int .i64 id) ∧ W.cell? ⟨w.heap.size, 1, none⟩ = some (.string tn) ∧ W.cell? ⟨w.heap.size, 2, none⟩ = some (.slice A cols.length ca) ∧ W.cell? ⟨w.heap.size, 3, none⟩ = some (.int .i64 keys) ∧ W.cell? ⟨w.heap.size, 4, none⟩ = some (.slice B ixs.length cb)) (with_reducible refine KS.out _ ?_; (focus (repeat (first | (with_reducible exact bx3) | (with_reducible exact bxi) | (with_reducible exact bx2) | (with_reducible exact bxp) | (with_reducible exact bxe) | (with_reducible exact Below.refl _ _) | (with_reducible refine Below.drew_ ?_) | (with_reducible refine Below.allocR ?_))))) (first
        | (go_at_call 12; (with_reducible refine (T1.out _ ?_).mono ?_); (focus (repeat (first | (with_reducible exact bx3) | (with_reducible exact bxi) | (with_reducible exact bx2) | (with_reducible exact bxp) | (with_reducible exact bxe) | (with_reducible exact Below.refl _ _) | (with_reducible refine Below.drew_ ?_) | (with_reducible refine Below.allocR ?_)))); rintro en we ⟨rfl, be⟩; have bxe : Below w5.heap.size w5 we := (by refine Below.call4_ ?_ be; (focus (repeat (first | (with_reducible exact bx3) | (with_reducible exact bxi) | (with_reducible exact bx2) | (with_reducible exact bxp) | (with_reducible exact bxe) | (with_reducible exact Below.refl _ _) | (with_reducible refine Below.drew_ ?_) | (with_reducible refine Below.allocR ?_))))); skip)
        | (go_at_call 13; (with_reducible refine (T2.out _).mono ?_); rintro en wp ⟨AP, cp, rfl, hP, bp⟩; have bxp : Below w5.heap.size w5 wp := (by refine Below.call4_ ?_ bp; (focus (repeat (first | (with_reducible exact bx3) | (with_reducible exact bxi) | (with_reducible exact bx2) | (with_reducible exact bxp) | (with_reducible exact bxe) | (with_reducible exact Below.refl _ _) | (with_reducible refine Below.drew_ ?_) | (with_reducible refine Below.allocR ?_))))); skip)
        | (go_at_call 14; (with_reducible refine (T3.out _).mono ?_); rintro en wi ⟨AI, ci, rfl, hI, bi⟩; have bxi : Below w5.heap.size w5 wi := (by refine Below.call4_ ?_ bi; (focus (repeat (first | (with_reducible exact bx3) | (with_reducible exact bxi) | (with_reducible exact bx2) | (with_reducible exact bxp) | (with_reducible exact bxe) | (with_reducible exact Below.refl _ _) | (with_reducible refine Below.drew_ ?_) | (with_reducible refine Below.allocR ?_))))); skip)
        | (go_at_call 12; (with_reducible refine (T5.out _ _ _ _ _ ?_ ?_).mono ?_); (focus first | (with_reducible exact hI) | (with_reducible exact hI.alloc _)); (focus first | (with_reducible exact LIT3.out _) | (with_reducible exact (LIT3.out _).below bi)); rintro en w3e ⟨rfl, b3e⟩; have bx3 : Below w5.heap.size w5 w3e := (by refine Below.call4_ ?_ b3e; (focus (repeat (first | (with_reducible exact bx3) | (with_reducible exact bxi) | (with_reducible exact bx2) | (with_reducible exact bxp) | (with_reducible exact bxe) | (with_reducible exact Below.refl _ _) | (with_reducible refine Below.drew_ ?_) | (with_reducible refine Below.allocR ?_))))); skip)
        | (go_at_call 12; (with_reducible refine (T4.out _ _ _ _ _ ?_ ?_).mono ?_); (focus first | (with_reducible exact hP) | (with_reducible exact hP.alloc _)); (focus first | (with_reducible exact LIT2.out _) | (with_reducible exact (LIT2.out _).below bp)); rintro en w2e ⟨rfl, b2e⟩; have bx2 : Below w5.heap.size w5 w2e := (by refine Below.call4_ ?_ b2e; (focus (repeat (first | (with_reducible exact bx3) | (with_reducible exact bxi) | (with_reducible exact bx2) | (with_reducible exact bxp) | (with_reducible exact bxe) | (with_reducible exact Below.refl _ _) | (with_reducible refine Below.drew_ ?_) | (with_reducible refine Below.allocR ?_))))); skip))
    all_goals
      go_wp2_with fail
      go_meet
      case rel => exact ⟨rfl, bx3⟩
  case rest =>
    obtain ⟨rfl, bx⟩ := hcut
    have k6 := k5.below bx l5
    have b06 := b05.trans (bx.mono b05.size)
    have sU6 := sU5.below bx
    have sX6 := sX5.below bx
    have sY6 := sY5.below bx
    have hK6 := hK1.below bx
    clear hK1 hK2 sX5 sY5 sU5 bx k5 l5 b05
    have kl2 := keyB_len (id := id) (keys := keys) (tn := tn) (cols := cols) (ixs := ixs) (fun x hx => (HM.out x hx).2)
    go_wp2_with ((with_reducible refine wpList_load_blk rfl 25 (.tmp 3) rfl w.heap.size ?_ 25 _ _ k6 Tryd.underlying25 ?_ Tryd.size_TableV ?_ ?_); rfl; rfl; rfl)
    refine (rowkey_any id keys tn cols ixs ys A B U ca cb cu wc (hA.below b06) (hB.below b06) sU6 hn (hu.below b06) (fun x hx => (HM.out x hx).1) (fun x hx => (HM.out x hx).2) ⟨hca, hcm⟩ capU).mono ?_
    obtain ⟨E2, hE2⟩ : ∃ E, keyE id keys tn cols ixs ys = E := ⟨_, rfl⟩
    obtain ⟨KB2, hKB2⟩ : ∃ K, keyB id keys tn cols ixs ys = K := ⟨_, rfl⟩
    rw [hKB2] at kl2
    rw [hE2, hKB2]
    have HE2 := Lib.hid hE2
    have HK2 := Lib.hid hKB2
    clear hE2 hKB2
    rintro en w7 ⟨K7, d7, rfl, oK7, b7⟩
    have b07 := b06.trans (b7.mono b06.size)
    have k7 := k6.below b7 k6.lt
    have sX7 := sX6.below b7
    have sY7 := sY6.below b7
    have hK17 := hK6.below b7
    have hK7 : Bs w7 K7 KB2 := oK7.bs (by omega)
    clear k6 sX6 sY6 sU6 hK6 b7 oK7 b06
    by_cases h1 : E1 = 0
    · have c1 : (E1 != 0) = false := by rw [h1]; rfl
      by_cases h2 : E2 = 0
      · have c2 : (E2 != 0) = false := by rw [h2]; rfl
        obtain ⟨⟨a1, a2, a3, a4⟩, _⟩ := keyE_ok (HE1.out.trans h1)
        obtain ⟨⟨_, a6, a7, _⟩, _⟩ := keyE_ok (HE2.out.trans h2)
        obtain ⟨kn, rfl⟩ : ∃ kn : Nat, keys = (kn : Int) := ⟨keys.toNat, by omega⟩
        have a2' : kn ≤ xs.length := by omega
        have a6' : kn ≤ ys.length := by omega
        have HC : Hid (cmpL KB1 KB2 = firstNZ (xs.take kn) (ys.take kn)) := by
          show _ = _
          rw [← HK1.out, ← HK2.out]
          unfold keyB
          rw [if_pos (HE1.out.trans h1), if_pos (HE2.out.trans h2)]
          exact rowKey_cmp a2' a6' (fun x hx => (HL.out x hx).1) (fun x hx => (HM.out x hx).1)
        clear h1 h2 HE1 HE2 HK1 HK2 a1 a2 a3 a4 a6 a7
        have l7 := k7.lt
        go_wp2_with fail
        go_loopw [17, 18] (fun wn i wr => ∃ (k : Nat) (v : Int), k ≤ kn ∧ i = .int .i64 (k : Int) ∧ wn = .int .i64 v ∧ orI v (firstNZ ((xs.take kn).drop k) ((ys.take kn).drop k)) = firstNZ (xs.take kn) (ys.take kn) ∧ Below w7.heap.size w7 wr) (fun _ i _ => kn - (intOf i).toNat)
        case atStart => exact ⟨0, 0, Nat.zero_le _, rfl, rfl, rfl, Below.refl _ _⟩
        case round =>
          obtain ⟨k, v, hk, rfl, rfl, hv, br⟩ := hrel
          have HV := Lib.hid hv
          clear hv
          have q3 : wr.cell? ⟨w.heap.size, 3, none⟩ = some (.int .i64 (kn : Int)) := (k7.below br l7).cell 3
          by_cases hgo : v = 0 ∧ k < kn
          · obtain ⟨hv0, hlt⟩ := hgo
            subst hv0
            have z1 : (k : Int) < (kn : Int) := by omega
            have z2 : (k : Int) < (xs.length : Int) := by omega
            have z3 : (k : Int) < (ys.length : Int) := by omega
            have hx := HL.out xs[k] (List.getElem_mem (by omega))
            have hy := HM.out ys[k] (List.getElem_mem (by omega))
            obtain ⟨ad, D0, c0, rfl, g1, f0, f1, f2, f3, f4, hD0, -⟩ := CelE.at6 (sX7.below br) (show k < xs.length by omega)
            obtain ⟨bd, E0, e0, rfl, g2, i0, i1, i2, i3, i4, hE0, -⟩ := CelE.at6 (sY7.below br) (show k < ys.length by omega)
            have HV2 : Hid (orI (cmpV xs[k] ys[k]) (firstNZ ((xs.take kn).drop (k + 1)) ((ys.take kn).drop (k + 1))) = firstNZ (xs.take kn) (ys.take kn)) := by
              show _ = _
              have e1 : k < (xs.take kn).length := by rw [List.length_take]; omega
              have e2 : k < (ys.take kn).length := by rw [List.length_take]; omega
              rw [← HV.out, orI_zero, firstNZ_drop e1 e2, List.getElem_take, List.getElem_take]
            generalize xs[k] = x at *
            generalize ys[k] = y at *
            have t1 : ∀ W, Below wr.heap.size wr W → Calls Tryd.prog 15 #[.agg #[.int .i64 x.kind, .bool x.b, .int .i64 x.n, .string x.t, .slice D0 x.l.length c0], .agg #[.int .i64 y.kind, .bool y.b, .int .i64 y.n, .string y.t, .slice E0 y.l.length e0]] W (RetI (cmpV x y) W) := fun W hW => compare_any x y D0 E0 c0 e0 W hx.1.1 hy.1.1 (hD0.below hW) (hE0.below hW) hx.2 hy.2
            have ks : ∀ W, Below wr.heap.size wr W → W.cell? (ad.add (k * 5)) = some (.int .i64 x.kind) ∧ W.cell? ⟨(ad.add (k * 5)).block, (ad.add (k * 5)).off + 1, none⟩ = some (.bool x.b) ∧ W.cell? ⟨(ad.add (k * 5)).block, (ad.add (k * 5)).off + 2, none⟩ = some (.int .i64 x.n) ∧ W.cell? ⟨(ad.add (k * 5)).block, (ad.add (k * 5)).off + 3, none⟩ = some (.string x.t) ∧ W.cell? ⟨(ad.add (k * 5)).block, (ad.add (k * 5)).off + 4, none⟩ = some (.slice D0 x.l.length c0) ∧ W.cell? (bd.add (k * 5)) = some (.int .i64 y.kind) ∧ W.cell? ⟨(bd.add (k * 5)).block, (bd.add (k * 5)).off + 1, none⟩ = some (.bool y.b) ∧ W.cell? ⟨(bd.add (k * 5)).block, (bd.add (k * 5)).off + 2, none⟩ = some (.int .i64 y.n) ∧ W.cell? ⟨(bd.add (k * 5)).block, (bd.add (k * 5)).off + 3, none⟩ = some (.string y.t) ∧ W.cell? ⟨(bd.add (k * 5)).block, (bd.add (k * 5)).off + 4, none⟩ = some (.slice E0 y.l.length e0) := fun W hW => by
              have h1 : ∀ p : Addr, p.block < wr.heap.size → W.cell? p = wr.cell? p := fun p hp => hW.cell hp
              refine ⟨(h1 _ ?_).trans f0, (h1 _ ?_).trans f1, (h1 _ ?_).trans f2, (h1 _ ?_).trans f3, (h1 _ ?_).trans f4, (h1 _ ?_).trans i0, (h1 _ ?_).trans i1, (h1 _ ?_).trans i2, (h1 _ ?_).trans i3, (h1 _ ?_).trans i4⟩ <;> simpa [block_of_add] using (by assumption)
            have T1 := Lib.hid t1
            have KS := Lib.hid ks
            go_upto_region 16 with fail
            clear t1 ks f0 f1 f2 f3 f4 i0 i1 i2 i3 i4 hx hy hD0 hE0 g1 g2
            generalize cmpV x y = V0 at *
            go_region_held3 (fun W : World => W.cell? (ad.add (k * 5)) = some (.int .i64 x.kind) ∧ W.cell? ⟨(ad.add (k * 5)).block, (ad.add (k * 5)).off + 1, none⟩ = some (.bool x.b) ∧ W.cell? ⟨(ad.add (k * 5)).block, (ad.add (k * 5)).off + 2, none⟩ = some (.int .i64 x.n) ∧ W.cell? ⟨(ad.add (k * 5)).block, (ad.add (k * 5)).off + 3, none⟩ = some (.string x.t) ∧ W.cell? ⟨(ad.add (k * 5)).block, (ad.add (k * 5)).off + 4, none⟩ = some (.slice D0 x.l.length c0) ∧ W.cell? (bd.add (k * 5)) = some (.int .i64 y.kind) ∧ W.cell? ⟨(bd.add (k * 5)).block, (bd.add (k * 5)).off + 1, none⟩ = some (.bool y.b) ∧ W.cell? ⟨(bd.add (k * 5)).block, (bd.add (k * 5)).off + 2, none⟩ = some (.int .i64 y.n) ∧ W.cell? ⟨(bd.add (k * 5)).block, (bd.add (k * 5)).off + 3, none⟩ = some (.string y.t) ∧ W.cell? ⟨(bd.add (k * 5)).block, (bd.add (k * 5)).off + 4, none⟩ = some (.slice E0 y.l.length e0)) (with_reducible refine KS.out _ ?_; (focus (repeat (first | (with_reducible exact bxc) | (with_reducible exact Below.refl _ _) | (with_reducible refine Below.drew_ ?_))))) (first
              | (go_at_call 15; (with_reducible refine (T1.out _ ?_).mono ?_); (focus (repeat (first | (with_reducible exact Below.refl _ _) | (with_reducible refine Below.drew_ ?_)))); rintro en wz ⟨rfl, bz⟩; have bxc : Below wr.heap.size wr wz := (by refine Below.call4_ ?_ bz; (focus (repeat (first | (with_reducible exact Below.refl _ _) | (with_reducible refine Below.drew_ ?_))))); skip))
            all_goals
              go_wp2_with fail
              go_roundw
              case rel => exact ⟨k + 1, V0, by omega, by go_num, rfl, HV2.out, br.trans (bxc.mono br.size)⟩
              case measure => simp [intOf]; omega
          · have HD : Hid (cmpL KB1 KB2 = v) := by
              show _ = _
              rw [HC.out, ← HV.out]
              by_cases hv0 : v = 0
              · subst hv0
                have : k = kn := by
                  have : ¬ k < kn := fun h => hgo ⟨rfl, h⟩
                  omega
                subst this
                rw [List.drop_of_length_le (by rw [List.length_take]; omega)]; rfl
              · exact orI_of hv0 _
            have dd : (cmpL KB1 KB2 == v) = true := by rw [HD.out]; simp
            have hK17r := hK17.below br
            have hK7r := hK7.below br
            have b0r := b07.trans (br.mono b07.size)
            by_cases hv0 : v = 0
            · have z1 : ¬ (k : Int) < (kn : Int) := fun h => hgo ⟨hv0, by omega⟩
              have d1_ : (v == 0) = true := by rw [hv0]; rfl
              clear hgo hv0
              go_wp2_with fail
              refine (cmp_any K1 K7 KB1 KB2 d1 d7 wr hK17r hK7r).mono ?_
              rintro en wz ⟨rfl, n, rfl⟩
              go_wp2_with fail
              go_ret
              exact ⟨rfl, below_drewN b0r n⟩
            · have d1_ : (v == 0) = false := by rw [beq_eq_false_iff_ne]; exact hv0
              clear hgo hv0
              go_wp2_with fail
              refine (cmp_any K1 K7 KB1 KB2 d1 d7 wr hK17r hK7r).mono ?_
              rintro en wz ⟨rfl, n, rfl⟩
              go_wp2_with fail
              go_ret
              exact ⟨rfl, below_drewN b0r n⟩
      · have c2 : (E2 != 0) = true := by rw [bne_iff_ne]; exact h2
        clear h1 h2
        go_wp2_with fail
        go_ret
        exact ⟨rfl, b07⟩
    · have c1 : (E1 != 0) = true := by rw [bne_iff_ne]; exact h1
      clear h1
      go_wp2_with fail
      go_ret
      exact ⟨rfl, b07⟩
end Go.Proofs.YtfededjcadmpbaaDoor
