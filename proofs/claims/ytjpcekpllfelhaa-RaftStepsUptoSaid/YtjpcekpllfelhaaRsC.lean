/- others: a message to each other one. (Printed by wip/gen_rsa.py.) -/
import Derived.Test.YtjpcekpllfelhaaRsB
namespace Go.Proofs.Ytjpcekpllfelhaa
open Go.RowKit

theorem Try.infoMsg : (Try.prog.info? 58).map (fun i => (i.zero, i.size, i.bytes)) = some (some (.agg #[.int .i64 0, .int .i64 0, .int .i64 0, .int .u64 0, .int .u64 0, .int .u64 0, .int .u64 0, .slice none 0 0, .bool false, .slice none 0 0]), 10, 112) := by kernel_rfl
theorem othersP_len (d : LNode) (mk : Nat → LMsg) (k : Nat) : (othersP d mk k).length ≤ k := by
  unfold othersP
  rw [List.length_map]
  exact Nat.le_trans (List.length_filter_le _ _) (by rw [List.length_range]; exact Nat.le_refl _)
set_option maxRecDepth 100000 in
set_option maxHeartbeats 4000000 in
theorem othersS_any (g : Nat) (A : Option Addr) (ec : Nat) (V M X : Value) (S : Nat → Prop) (d : LNode) (w : World) (hN : NodeAt w g S (.slice A d.log.length ec) V M X d) (hb : GB d) (hn : d.n ≤ 1000) (hx : d.next.length = d.n) :
    Calls Try.prog 28 #[.pointer (some ⟨g, 0, none⟩), .func (.func 29) #[.pointer (some ⟨g, 0, none⟩)] #[]] w (RetML (othersP d (sendP d) d.n) w) := by
  obtain ⟨i0, hi0, hz0, hz1, hz2⟩ := info_parts Try.infoMsg
  have c6 : w.cell? ⟨g, 6, none⟩ = some (.int .i64 (d.n : Int)) := hN.blk.cell 6
  go_enter Try.func28, Try.ntmps28
  go_wp2_with fail
  clear c6
  go_loopw [5, 12] (fun v5 v12 wr => ∃ (k : Nat) (A' : Option Addr) (c' : Nat) (xs : List LMsg), k ≤ d.n ∧ v5 = .slice A' xs.length c' ∧ v12 = .int .i64 (k : Int) ∧ Hid (xs = othersP d (sendP d) k) ∧ Own MsgE 58 wr w.heap.size (fun b => w.heap.size ≤ b) (.slice A' xs.length c') xs ∧ Below w.heap.size w wr) (fun _ v12 _ => d.n - (intOf v12).toNat)
  case atStart => exact ⟨0, none, 0, [], Nat.zero_le _, rfl, rfl, rfl, Own.nil_ _ _ _ _ _, Below.refl _ _⟩
  case round =>
    obtain ⟨k, A', c', xs, hk, rfl, rfl, HX, oX, br⟩ := hrel
    have hxl : xs.length ≤ k := by rw [HX.out]; exact othersP_len _ _ _
    by_cases hlt : k < d.n
    · have Nr := hN.below br
      have c5 : wr.cell? ⟨g, 5, none⟩ = some (.int .i64 (d.id : Int)) := Nr.blk.cell 5
      have HST : Hid (othersP d (sendP d) (k + 1) = xs ++ (if k = d.id then [] else [{ (sendP d) k with frm := d.id, dst := k }])) := by show _ = _; rw [HX.out]; exact othersP_succ _ _ _
      by_cases hid : k = d.id
      · have hidi : ((k : Int) != (d.id : Int)) = false := by rw [bne_eq_false_iff_eq]; omega
        have HE : Hid (xs = othersP d (sendP d) (k + 1)) := by show _ = _; rw [HST.out, if_pos hid, List.append_nil]
        clear HST hid
        go_wp2_with fail
        go_roundw
        case rel => exact ⟨k + 1, A', c', xs, by omega, rfl, by simp, HE, oX, br⟩
        case measure => simp [intOf]; omega
      · have hidi : ((k : Int) != (d.id : Int)) = true := by rw [bne_iff_ne]; omega
        obtain ⟨m, hm⟩ : ∃ m, m = (sendP d) k := ⟨_, rfl⟩
        have HE : Hid (othersP d (sendP d) (k + 1) = xs ++ [{ m with frm := d.id, dst := k }]) := by show _ = _; rw [HST.out, if_neg hid, hm]
        clear HST hid
        have TT := send_any g A ec V M X S d k wr Nr hb (by omega)
        rw [show sendP d k = m from hm.symm] at TT
        clear hm
        go_wp2_with fail
        refine TT.mono ?_
        clear TT c5
        rintro en w2 ⟨A2, c2, rfl, hM, b2⟩
        rw [show msgC A2 c2 m = #[.int .i64 m.kind, .int .i64 m.frm, .int .i64 m.dst, .int .u64 (m.term : Int), .int .u64 (m.index : Int), .int .u64 (m.logTerm : Int), .int .u64 (m.commit : Int), .slice A2 m.ents.length c2, .bool m.ok, .slice none 0 0] from rfl]
        have br2 := below_step br b2
        have oX2 := oX.below b2
        have c5 : w2.cell? ⟨g, 5, none⟩ = some (.int .i64 (d.id : Int)) := (hN.below br2).blk.cell 5
        have lX := Own.lt oX
        have z2 := b2.size
        have z0 := br.size
        clear oX br b2 Nr
        go_upto_region 7 with fail
        have kM := Blk.new w2 58 #[.int .i64 m.kind, .int .i64 m.frm, .int .i64 m.dst, .int .u64 (m.term : Int), .int .u64 (m.index : Int), .int .u64 (m.logTerm : Int), .int .u64 (m.commit : Int), .slice A2 m.ents.length c2, .bool m.ok, .slice none 0 0]
        have d3 : Below w2.heap.size w2 (w2.alloc (.cells #[.int .i64 m.kind, .int .i64 m.frm, .int .i64 m.dst, .int .u64 (m.term : Int), .int .u64 (m.index : Int), .int .u64 (m.logTerm : Int), .int .u64 (m.commit : Int), .slice A2 m.ents.length c2, .bool m.ok, .slice none 0 0] 58)) := (Below.refl _ _).alloc (Nat.le_refl _) _
        change Code.wp _ _ _ _ (w2.alloc (.cells #[.int .i64 m.kind, .int .i64 m.frm, .int .i64 m.dst, .int .u64 (m.term : Int), .int .u64 (m.index : Int), .int .u64 (m.logTerm : Int), .int .u64 (m.commit : Int), .slice A2 m.ents.length c2, .bool m.ok, .slice none 0 0] 58))
        generalize (w2.alloc (.cells #[.int .i64 m.kind, .int .i64 m.frm, .int .i64 m.dst, .int .u64 (m.term : Int), .int .u64 (m.index : Int), .int .u64 (m.logTerm : Int), .int .u64 (m.commit : Int), .slice A2 m.ents.length c2, .bool m.ok, .slice none 0 0] 58)) = w3 at *
        have br3 := below_step br2 d3
        have c53 : w3.cell? ⟨g, 5, none⟩ = some (.int .i64 (d.id : Int)) := (hN.below br3).blk.cell 5
        have y1 : w3.cell? ⟨w2.heap.size, 1, none⟩ = some (.int .i64 m.frm) := kM.cell 1
        have y2 : w3.cell? ⟨w2.heap.size, 2, none⟩ = some (.int .i64 m.dst) := kM.cell 2
        have f1 : w3.frozen? ⟨w2.heap.size, 1, none⟩ = false := kM.frozen 1
        have f2 : w3.frozen? ⟨w2.heap.size, 2, none⟩ = false := kM.frozen 2
        obtain ⟨m', hm'⟩ : ∃ m' : LMsg, m' = { m with frm := d.id, dst := k } := ⟨_, rfl⟩
        have kM4 : Blk ((w3.setCell ⟨w2.heap.size, 1, none⟩ (.int .i64 (d.id : Int))).setCell ⟨w2.heap.size, 2, none⟩ (.int .i64 (k : Int))) w2.heap.size 58 (msgC A2 c2 m') := by
          rw [hm']
          exact (kM.set_ 1 (.int .i64 (d.id : Int))).set_ 2 (.int .i64 (k : Int))
        have g4 : w3.grownBy ((w3.setCell ⟨w2.heap.size, 1, none⟩ (.int .i64 (d.id : Int))).setCell ⟨w2.heap.size, 2, none⟩ (.int .i64 (k : Int))) (some w2.heap.size) := only_setCell (g := w2.heap.size) (only_setCell (g := w2.heap.size) (only_of_below (Below.refl _ _) _) (p := ⟨w2.heap.size, 1, none⟩) (.inl rfl) _) (p := ⟨w2.heap.size, 2, none⟩) (.inl rfl) _
        have hM' : MsgAt w2 (fun b => wr.heap.size ≤ b ∧ b < w2.heap.size) A2 c2 m' := by rw [hm']; exact (⟨hM.ents, hM.cap, hM.term, hM.index, hM.logTerm, hM.commit⟩ : MsgAt w2 (fun b => wr.heap.size ≤ b) A2 c2 { m with frm := d.id, dst := k }).mono fun b h1 h2 => ⟨h2, h1⟩
        rw [← hm'] at HE
        have b24 := d3.grown g4 d3.size (fun j e => by have := Option.some.inj e; omega)
        have oX4 := oX2.below b24
        have hM4 := hM'.below b24
        have br4 := below_step br2 b24
        go_upto_region 8 with fail
        clear y1 y2 f1 f2 c53 c5 kM g4 hM hM' hm' oX2
        generalize ((w3.setCell ⟨w2.heap.size, 1, none⟩ (.int .i64 (d.id : Int))).setCell ⟨w2.heap.size, 2, none⟩ (.int .i64 (k : Int))) = w4 at *
        have z4 := br4.size
        have z24 := b24.size
        replace kM4 : Blk w4 w2.heap.size 58 #[.int .i64 m'.kind, .int .i64 m'.frm, .int .i64 m'.dst, .int .u64 (m'.term : Int), .int .u64 (m'.index : Int), .int .u64 (m'.logTerm : Int), .int .u64 (m'.commit : Int), .slice A2 m'.ents.length c2, .bool m'.ok, .slice none 0 0] := kM4
        have d5 : Below w4.heap.size w4 (w4.alloc (.cells #[.int .i64 m'.kind, .int .i64 m'.frm, .int .i64 m'.dst, .int .u64 (m'.term : Int), .int .u64 (m'.index : Int), .int .u64 (m'.logTerm : Int), .int .u64 (m'.commit : Int), .slice A2 m'.ents.length c2, .bool m'.ok, .slice none 0 0] 58)) := (Below.refl _ _).alloc (Nat.le_refl _) _
        have oX5 := oX4.below d5
        have br5 := below_step br4 d5
        have hrep : MsgE.rep (w4.alloc (.cells #[.int .i64 m'.kind, .int .i64 m'.frm, .int .i64 m'.dst, .int .u64 (m'.term : Int), .int .u64 (m'.index : Int), .int .u64 (m'.logTerm : Int), .int .u64 (m'.commit : Int), .slice A2 m'.ents.length c2, .bool m'.ok, .slice none 0 0] 58)) (fun b => w.heap.size ≤ b ∧ (Value.slice A' xs.length c').ownBlock ≠ some b) #[.int .i64 m'.kind, .int .i64 m'.frm, .int .i64 m'.dst, .int .u64 (m'.term : Int), .int .u64 (m'.index : Int), .int .u64 (m'.logTerm : Int), .int .u64 (m'.commit : Int), .slice A2 m'.ents.length c2, .bool m'.ok, .slice none 0 0].toList m' :=
          ⟨A2, c2, rfl, (hM4.below d5).mono fun b _ h => ⟨Nat.le_trans z0 h.1, fun e => by have := (lX b e).2; omega⟩⟩
        have hrN := Reads.newN w4 #[.int .i64 m'.kind, .int .i64 m'.frm, .int .i64 m'.dst, .int .u64 (m'.term : Int), .int .u64 (m'.index : Int), .int .u64 (m'.logTerm : Int), .int .u64 (m'.commit : Int), .slice A2 m'.ents.length c2, .bool m'.ok, .slice none 0 0].toList 58
        rw [Array.toArray_toList] at hrN
        have z5 := br5.size
        have HL1 := Lib.hid (show (xs.length + 1) * MsgE.bytes ≤ 140737488355328 by simp only [MsgE]; omega)
        have HL2 := Lib.hid (show xs.length + 1 ≤ maxLen by simp only [maxLen]; omega)
        clear oX4 hM4 d5 z24 z4
        go_wp2_with (first
          | ((with_reducible refine wpList_load_blk rfl 58 (.tmp 7) rfl w2.heap.size ?_ 58 _ _ kM4 Try.underlying58 ?_ Try.size_Msg ?_ ?_); rfl; rfl; rfl)
          | (at_builtin; refine wpList_appE MsgE w.heap.size w _ rfl (.tmp 31) (.tmp 33) 58 34 rfl i0 _ Try.underlying34 hi0 hz0 hz1 hz2 rfl (fun b => w.heap.size ≤ b) A' xs c' rfl oX5 _ #[.int .i64 m'.kind, .int .i64 m'.frm, .int .i64 m'.dst, .int .u64 (m'.term : Int), .int .u64 (m'.index : Int), .int .u64 (m'.logTerm : Int), .int .u64 (m'.commit : Int), .slice A2 m'.ents.length c2, .bool m'.ok, .slice none 0 0].toList m' 1 rfl _ hrN hrep HL1.out HL2.out br5 (Nat.le_refl _) z5 ?_; intro A8 c8 xs8 w8 H8 o8 b8 g8 t8))
        go_roundw
        case rel => exact ⟨k + 1, A8, c8, xs8, by omega, rfl, by simp, by show _ = _; rw [H8.out, HE.out], o8, b8⟩
        case measure => simp [intOf]; omega
    · obtain rfl : k = d.n := by omega
      have HE : Hid (othersP d (sendP d) d.n = xs) := by show _ = _; rw [HX.out]
      clear HX
      go_wp2_with fail
      go_ret
      rw [HE.out]
      exact ⟨A', c', rfl, oX, br⟩
set_option maxRecDepth 100000 in
set_option maxHeartbeats 4000000 in
theorem othersC_any (g : Nat) (A : Option Addr) (ec : Nat) (V M X : Value) (S : Nat → Prop) (d : LNode) (kd : Int) (tm bk bt bn : Nat) (w : World) (hN : NodeAt w g S (.slice A d.log.length ec) V M X d) (hb : GB d) (hn : d.n ≤ 1000) (htm : tm ≤ 18446744073709551615)
    (h1 : bk < w.heap.size) (h2 : bt < w.heap.size) (h3 : bn < w.heap.size) (c1 : w.cell? ⟨bk, 0, none⟩ = some (.int .i64 kd)) (c2 : w.cell? ⟨bt, 0, none⟩ = some (.int .u64 (tm : Int))) (c3 : w.cell? ⟨bn, 0, none⟩ = some (.pointer (some ⟨g, 0, none⟩))) :
    Calls Try.prog 28 #[.pointer (some ⟨g, 0, none⟩), .func (.func 46) #[] #[.pointer (some ⟨bk, 0, none⟩), .pointer (some ⟨bt, 0, none⟩), .pointer (some ⟨bn, 0, none⟩)]] w (RetML (othersP d (fun _ => askP d kd tm) d.n) w) := by
  obtain ⟨i0, hi0, hz0, hz1, hz2⟩ := info_parts Try.infoMsg
  have c6 : w.cell? ⟨g, 6, none⟩ = some (.int .i64 (d.n : Int)) := hN.blk.cell 6
  go_enter Try.func28, Try.ntmps28
  go_wp2_with fail
  clear c6
  go_loopw [5, 12] (fun v5 v12 wr => ∃ (k : Nat) (A' : Option Addr) (c' : Nat) (xs : List LMsg), k ≤ d.n ∧ v5 = .slice A' xs.length c' ∧ v12 = .int .i64 (k : Int) ∧ Hid (xs = othersP d (fun _ => askP d kd tm) k) ∧ Own MsgE 58 wr w.heap.size (fun b => w.heap.size ≤ b) (.slice A' xs.length c') xs ∧ Below w.heap.size w wr) (fun _ v12 _ => d.n - (intOf v12).toNat)
  case atStart => exact ⟨0, none, 0, [], Nat.zero_le _, rfl, rfl, rfl, Own.nil_ _ _ _ _ _, Below.refl _ _⟩
  case round =>
    obtain ⟨k, A', c', xs, hk, rfl, rfl, HX, oX, br⟩ := hrel
    have hxl : xs.length ≤ k := by rw [HX.out]; exact othersP_len _ _ _
    by_cases hlt : k < d.n
    · have Nr := hN.below br
      have c5 : wr.cell? ⟨g, 5, none⟩ = some (.int .i64 (d.id : Int)) := Nr.blk.cell 5
      have HST : Hid (othersP d (fun _ => askP d kd tm) (k + 1) = xs ++ (if k = d.id then [] else [{ (fun _ => askP d kd tm) k with frm := d.id, dst := k }])) := by show _ = _; rw [HX.out]; exact othersP_succ _ _ _
      by_cases hid : k = d.id
      · have hidi : ((k : Int) != (d.id : Int)) = false := by rw [bne_eq_false_iff_eq]; omega
        have HE : Hid (xs = othersP d (fun _ => askP d kd tm) (k + 1)) := by show _ = _; rw [HST.out, if_pos hid, List.append_nil]
        clear HST hid
        go_wp2_with fail
        go_roundw
        case rel => exact ⟨k + 1, A', c', xs, by omega, rfl, by simp, HE, oX, br⟩
        case measure => simp [intOf]; omega
      · have hidi : ((k : Int) != (d.id : Int)) = true := by rw [bne_iff_ne]; omega
        obtain ⟨m, hm⟩ : ∃ m, m = (fun _ => askP d kd tm) k := ⟨_, rfl⟩
        have HE : Hid (othersP d (fun _ => askP d kd tm) (k + 1) = xs ++ [{ m with frm := d.id, dst := k }]) := by show _ = _; rw [HST.out, if_neg hid, hm]
        clear HST hid
        have TT := callc_any g A ec V M X S d k kd tm bk bt bn wr Nr hb htm (Nat.lt_of_lt_of_le h1 br.size) (Nat.lt_of_lt_of_le h2 br.size) (Nat.lt_of_lt_of_le h3 br.size) ((br.cell (p := ⟨bk, 0, none⟩) h1).trans c1) ((br.cell (p := ⟨bt, 0, none⟩) h2).trans c2) ((br.cell (p := ⟨bn, 0, none⟩) h3).trans c3)
        rw [show askP d kd tm = m from hm.symm] at TT
        clear hm
        go_wp2_with fail
        refine TT.mono ?_
        clear TT c5
        rintro en w2 ⟨A2, c2, rfl, hM, b2⟩
        rw [show msgC A2 c2 m = #[.int .i64 m.kind, .int .i64 m.frm, .int .i64 m.dst, .int .u64 (m.term : Int), .int .u64 (m.index : Int), .int .u64 (m.logTerm : Int), .int .u64 (m.commit : Int), .slice A2 m.ents.length c2, .bool m.ok, .slice none 0 0] from rfl]
        have br2 := below_step br b2
        have oX2 := oX.below b2
        have c5 : w2.cell? ⟨g, 5, none⟩ = some (.int .i64 (d.id : Int)) := (hN.below br2).blk.cell 5
        have lX := Own.lt oX
        have z2 := b2.size
        have z0 := br.size
        clear oX br b2 Nr
        go_upto_region 7 with fail
        have kM := Blk.new w2 58 #[.int .i64 m.kind, .int .i64 m.frm, .int .i64 m.dst, .int .u64 (m.term : Int), .int .u64 (m.index : Int), .int .u64 (m.logTerm : Int), .int .u64 (m.commit : Int), .slice A2 m.ents.length c2, .bool m.ok, .slice none 0 0]
        have d3 : Below w2.heap.size w2 (w2.alloc (.cells #[.int .i64 m.kind, .int .i64 m.frm, .int .i64 m.dst, .int .u64 (m.term : Int), .int .u64 (m.index : Int), .int .u64 (m.logTerm : Int), .int .u64 (m.commit : Int), .slice A2 m.ents.length c2, .bool m.ok, .slice none 0 0] 58)) := (Below.refl _ _).alloc (Nat.le_refl _) _
        change Code.wp _ _ _ _ (w2.alloc (.cells #[.int .i64 m.kind, .int .i64 m.frm, .int .i64 m.dst, .int .u64 (m.term : Int), .int .u64 (m.index : Int), .int .u64 (m.logTerm : Int), .int .u64 (m.commit : Int), .slice A2 m.ents.length c2, .bool m.ok, .slice none 0 0] 58))
        generalize (w2.alloc (.cells #[.int .i64 m.kind, .int .i64 m.frm, .int .i64 m.dst, .int .u64 (m.term : Int), .int .u64 (m.index : Int), .int .u64 (m.logTerm : Int), .int .u64 (m.commit : Int), .slice A2 m.ents.length c2, .bool m.ok, .slice none 0 0] 58)) = w3 at *
        have br3 := below_step br2 d3
        have c53 : w3.cell? ⟨g, 5, none⟩ = some (.int .i64 (d.id : Int)) := (hN.below br3).blk.cell 5
        have y1 : w3.cell? ⟨w2.heap.size, 1, none⟩ = some (.int .i64 m.frm) := kM.cell 1
        have y2 : w3.cell? ⟨w2.heap.size, 2, none⟩ = some (.int .i64 m.dst) := kM.cell 2
        have f1 : w3.frozen? ⟨w2.heap.size, 1, none⟩ = false := kM.frozen 1
        have f2 : w3.frozen? ⟨w2.heap.size, 2, none⟩ = false := kM.frozen 2
        obtain ⟨m', hm'⟩ : ∃ m' : LMsg, m' = { m with frm := d.id, dst := k } := ⟨_, rfl⟩
        have kM4 : Blk ((w3.setCell ⟨w2.heap.size, 1, none⟩ (.int .i64 (d.id : Int))).setCell ⟨w2.heap.size, 2, none⟩ (.int .i64 (k : Int))) w2.heap.size 58 (msgC A2 c2 m') := by
          rw [hm']
          exact (kM.set_ 1 (.int .i64 (d.id : Int))).set_ 2 (.int .i64 (k : Int))
        have g4 : w3.grownBy ((w3.setCell ⟨w2.heap.size, 1, none⟩ (.int .i64 (d.id : Int))).setCell ⟨w2.heap.size, 2, none⟩ (.int .i64 (k : Int))) (some w2.heap.size) := only_setCell (g := w2.heap.size) (only_setCell (g := w2.heap.size) (only_of_below (Below.refl _ _) _) (p := ⟨w2.heap.size, 1, none⟩) (.inl rfl) _) (p := ⟨w2.heap.size, 2, none⟩) (.inl rfl) _
        have hM' : MsgAt w2 (fun b => wr.heap.size ≤ b ∧ b < w2.heap.size) A2 c2 m' := by rw [hm']; exact (⟨hM.ents, hM.cap, hM.term, hM.index, hM.logTerm, hM.commit⟩ : MsgAt w2 (fun b => wr.heap.size ≤ b) A2 c2 { m with frm := d.id, dst := k }).mono fun b h1 h2 => ⟨h2, h1⟩
        rw [← hm'] at HE
        have b24 := d3.grown g4 d3.size (fun j e => by have := Option.some.inj e; omega)
        have oX4 := oX2.below b24
        have hM4 := hM'.below b24
        have br4 := below_step br2 b24
        go_upto_region 8 with fail
        clear y1 y2 f1 f2 c53 c5 kM g4 hM hM' hm' oX2
        generalize ((w3.setCell ⟨w2.heap.size, 1, none⟩ (.int .i64 (d.id : Int))).setCell ⟨w2.heap.size, 2, none⟩ (.int .i64 (k : Int))) = w4 at *
        have z4 := br4.size
        have z24 := b24.size
        replace kM4 : Blk w4 w2.heap.size 58 #[.int .i64 m'.kind, .int .i64 m'.frm, .int .i64 m'.dst, .int .u64 (m'.term : Int), .int .u64 (m'.index : Int), .int .u64 (m'.logTerm : Int), .int .u64 (m'.commit : Int), .slice A2 m'.ents.length c2, .bool m'.ok, .slice none 0 0] := kM4
        have d5 : Below w4.heap.size w4 (w4.alloc (.cells #[.int .i64 m'.kind, .int .i64 m'.frm, .int .i64 m'.dst, .int .u64 (m'.term : Int), .int .u64 (m'.index : Int), .int .u64 (m'.logTerm : Int), .int .u64 (m'.commit : Int), .slice A2 m'.ents.length c2, .bool m'.ok, .slice none 0 0] 58)) := (Below.refl _ _).alloc (Nat.le_refl _) _
        have oX5 := oX4.below d5
        have br5 := below_step br4 d5
        have hrep : MsgE.rep (w4.alloc (.cells #[.int .i64 m'.kind, .int .i64 m'.frm, .int .i64 m'.dst, .int .u64 (m'.term : Int), .int .u64 (m'.index : Int), .int .u64 (m'.logTerm : Int), .int .u64 (m'.commit : Int), .slice A2 m'.ents.length c2, .bool m'.ok, .slice none 0 0] 58)) (fun b => w.heap.size ≤ b ∧ (Value.slice A' xs.length c').ownBlock ≠ some b) #[.int .i64 m'.kind, .int .i64 m'.frm, .int .i64 m'.dst, .int .u64 (m'.term : Int), .int .u64 (m'.index : Int), .int .u64 (m'.logTerm : Int), .int .u64 (m'.commit : Int), .slice A2 m'.ents.length c2, .bool m'.ok, .slice none 0 0].toList m' :=
          ⟨A2, c2, rfl, (hM4.below d5).mono fun b _ h => ⟨Nat.le_trans z0 h.1, fun e => by have := (lX b e).2; omega⟩⟩
        have hrN := Reads.newN w4 #[.int .i64 m'.kind, .int .i64 m'.frm, .int .i64 m'.dst, .int .u64 (m'.term : Int), .int .u64 (m'.index : Int), .int .u64 (m'.logTerm : Int), .int .u64 (m'.commit : Int), .slice A2 m'.ents.length c2, .bool m'.ok, .slice none 0 0].toList 58
        rw [Array.toArray_toList] at hrN
        have z5 := br5.size
        have HL1 := Lib.hid (show (xs.length + 1) * MsgE.bytes ≤ 140737488355328 by simp only [MsgE]; omega)
        have HL2 := Lib.hid (show xs.length + 1 ≤ maxLen by simp only [maxLen]; omega)
        clear oX4 hM4 d5 z24 z4
        go_wp2_with (first
          | ((with_reducible refine wpList_load_blk rfl 58 (.tmp 7) rfl w2.heap.size ?_ 58 _ _ kM4 Try.underlying58 ?_ Try.size_Msg ?_ ?_); rfl; rfl; rfl)
          | (at_builtin; refine wpList_appE MsgE w.heap.size w _ rfl (.tmp 31) (.tmp 33) 58 34 rfl i0 _ Try.underlying34 hi0 hz0 hz1 hz2 rfl (fun b => w.heap.size ≤ b) A' xs c' rfl oX5 _ #[.int .i64 m'.kind, .int .i64 m'.frm, .int .i64 m'.dst, .int .u64 (m'.term : Int), .int .u64 (m'.index : Int), .int .u64 (m'.logTerm : Int), .int .u64 (m'.commit : Int), .slice A2 m'.ents.length c2, .bool m'.ok, .slice none 0 0].toList m' 1 rfl _ hrN hrep HL1.out HL2.out br5 (Nat.le_refl _) z5 ?_; intro A8 c8 xs8 w8 H8 o8 b8 g8 t8))
        go_roundw
        case rel => exact ⟨k + 1, A8, c8, xs8, by omega, rfl, by simp, by show _ = _; rw [H8.out, HE.out], o8, b8⟩
        case measure => simp [intOf]; omega
    · obtain rfl : k = d.n := by omega
      have HE : Hid (othersP d (fun _ => askP d kd tm) d.n = xs) := by show _ = _; rw [HX.out]
      clear HX
      go_wp2_with fail
      go_ret
      rw [HE.out]
      exact ⟨A', c', rfl, oX, br⟩
end Go.Proofs.Ytjpcekpllfelhaa
