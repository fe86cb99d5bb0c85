/- append: a leader's entries. (Printed by wip/gen_rst.py.) -/
import Derived.Test.YtjpcekpllfelhaaRsS
namespace Go.Proofs.Ytjpcekpllfelhaa
open Go.RowKit

def atP (d : LNode) (m : LMsg) : Nat := if m.index < d.base then d.base else m.index
def listP (d : LNode) (m : LMsg) : List LEnt := if m.index < d.base then m.ents.drop (min m.ents.length (d.base - m.index)) else m.ents
def endP (d1 : LNode) (m : LMsg) : LNode × List LMsg :=
  let d2 := { d1 with commit := max d1.commit (min m.commit (m.index + m.ents.length)) }
  (d2, answerP d2 m { kind := 6, term := d2.term, ok := true, index := m.index + m.ents.length })
def putEnd (d : LNode) (m : LMsg) (o : Option LNode) : LNode × List LMsg := match o with | none => (d, []) | some d1 => endP d1 m
theorem appendP_eq (d : LNode) (m : LMsg) : appendP d m = if d.base ≤ m.index ∧ ((termAt d m.index).2 = false ∨ (termAt d m.index).1 ≠ m.logTerm) then (d, answerP d m { kind := 6, term := d.term, index := d.commit }) else putEnd d m (putP d (atP d m + 1) (listP d m)) := by
  unfold appendP putEnd atP listP endP
  split
  · rfl
  · rfl
theorem putP_cons (d : LNode) (i : Nat) (e : LEnt) (r : List LEnt) : putP d i (e :: r) = if (termAt d i).2 = true ∧ (termAt d i).1 = e.term then putP d (i + 1) r else if i ≤ d.commit then none else if risingP (e :: r) (termAt d (i - 1)).1 d.term = false then none else some { d with log := d.log.take (i - d.base - 1) ++ (e :: r) } := rfl
set_option maxRecDepth 100000 in
set_option maxHeartbeats 4000000 in
theorem append_any (g : Nat) (F : Nat → Prop) (d : LNode) (A : Option Addr) (c : Nat) (m : LMsg) (T0 : Nat → Prop) (w : World) (hd : ND w g F d) (hM : MsgAt w T0 A c m) (hb : GB d) (hlen : d.log.length + m.ents.length ≤ 1048576) (hmi : m.index ≤ 4611686018427387904) :
    Calls Try.prog 51 #[.pointer (some ⟨g, 0, none⟩), .agg (msgC A c m)] w (RetMs g F (appendP d m) w) := by
  have HAP := Lib.hid (appendP_eq d m)
  have hM1 := hM.below (w' := w.alloc (.cells #[.int .i64 m.kind, .int .i64 m.frm, .int .i64 m.dst, .int .u64 (m.term : Int), .int .u64 (m.index : Int), .int .u64 (m.logTerm : Int), .int .u64 (m.commit : Int), .slice A m.ents.length c, .bool m.ok, .slice none 0 0] 58)) ((Below.refl _ _).alloc (Nat.le_refl _) _)
  clear hM
  obtain ⟨S, E, V, M, X, hN, hF⟩ := hd
  have HF := Lib.hid hF
  clear hF
  rw [show msgC A c m = #[.int .i64 m.kind, .int .i64 m.frm, .int .i64 m.dst, .int .u64 (m.term : Int), .int .u64 (m.index : Int), .int .u64 (m.logTerm : Int), .int .u64 (m.commit : Int), .slice A m.ents.length c, .bool m.ok, .slice none 0 0] from rfl]
  have km := Blk.new w 58 #[.int .i64 m.kind, .int .i64 m.frm, .int .i64 m.dst, .int .u64 (m.term : Int), .int .u64 (m.index : Int), .int .u64 (m.logTerm : Int), .int .u64 (m.commit : Int), .slice A m.ents.length c, .bool m.ok, .slice none 0 0]
  have b1 : Below w.heap.size w (w.alloc (.cells #[.int .i64 m.kind, .int .i64 m.frm, .int .i64 m.dst, .int .u64 (m.term : Int), .int .u64 (m.index : Int), .int .u64 (m.logTerm : Int), .int .u64 (m.commit : Int), .slice A m.ents.length c, .bool m.ok, .slice none 0 0] 58)) := (Below.refl _ _).alloc (Nat.le_refl _) _
  have N1 := hN.below b1
  have hgl := hN.blk.lt
  clear hN
  have s4 : (w.alloc (.cells #[.int .i64 m.kind, .int .i64 m.frm, .int .i64 m.dst, .int .u64 (m.term : Int), .int .u64 (m.index : Int), .int .u64 (m.logTerm : Int), .int .u64 (m.commit : Int), .slice A m.ents.length c, .bool m.ok, .slice none 0 0] 58)).cell? ⟨w.heap.size, 4, none⟩ = some (.int .u64 (m.index : Int)) := km.cell 4
  have s7 : (w.alloc (.cells #[.int .i64 m.kind, .int .i64 m.frm, .int .i64 m.dst, .int .u64 (m.term : Int), .int .u64 (m.index : Int), .int .u64 (m.logTerm : Int), .int .u64 (m.commit : Int), .slice A m.ents.length c, .bool m.ok, .slice none 0 0] 58)).cell? ⟨w.heap.size, 7, none⟩ = some (.slice A m.ents.length c) := km.cell 7
  go_enter Try.func51, Try.ntmps51
  go_upto_region 2 with fail
  change Code.wp _ _ _ _ (w.alloc (.cells #[.int .i64 m.kind, .int .i64 m.frm, .int .i64 m.dst, .int .u64 (m.term : Int), .int .u64 (m.index : Int), .int .u64 (m.logTerm : Int), .int .u64 (m.commit : Int), .slice A m.ents.length c, .bool m.ok, .slice none 0 0] 58))
  generalize (w.alloc (.cells #[.int .i64 m.kind, .int .i64 m.frm, .int .i64 m.dst, .int .u64 (m.term : Int), .int .u64 (m.index : Int), .int .u64 (m.logTerm : Int), .int .u64 (m.commit : Int), .slice A m.ents.length c, .bool m.ok, .slice none 0 0] 58)) = w1 at *
  obtain ⟨mb, hmb⟩ : ∃ mb, mb = w.heap.size := ⟨_, rfl⟩
  rw [← hmb] at km ⊢
  have hgm : g < mb := by omega
  have HMB := Lib.hid hmb
  clear hmb
  clear s4 s7
  obtain ⟨rf, hrf⟩ : ∃ rf : LMsg, rf = { kind := 6, frm := d.id, dst := m.frm, term := d.term, index := d.commit } := ⟨_, rfl⟩
  have HRF : Hid (answerP d m { kind := 6, term := d.term, index := d.commit } = [rf]) := by show _ = _; rw [hrf]; rfl
  go_cut [6] (fun v6 wx => ∃ gb, v6 = .slice (some ⟨gb, 0, none⟩) 1 1 ∧ Own MsgE 58 wx w1.heap.size (fun b => w1.heap.size ≤ b) (.slice (some ⟨gb, 0, none⟩) 1 1) [rf] ∧ Below w1.heap.size w1 wx)
  case first =>
    refine wp_region_noPanic ?_
    have kS : Blk w1.drew g 48 (nodeC E V M X d) ∧ Blk w1.drew mb 58 #[.int .i64 m.kind, .int .i64 m.frm, .int .i64 m.dst, .int .u64 (m.term : Int), .int .u64 (m.index : Int), .int .u64 (m.logTerm : Int), .int .u64 (m.commit : Int), .slice A m.ents.length c, .bool m.ok, .slice none 0 0] := ⟨N1.blk.drew, km.drew⟩
    refine wp_region_held_drew (S := fun Y => Blk Y g 48 (nodeC E V M X d) ∧ Blk Y mb 58 #[.int .i64 m.kind, .int .i64 m.frm, .int .i64 m.dst, .int .u64 (m.term : Int), .int .u64 (m.index : Int), .int .u64 (m.logTerm : Int), .int .u64 (m.commit : Int), .slice A m.ents.length c, .bool m.ok, .slice none 0 0]) (by kernel_rfl) kS (fun hH => ?_)
    refine wpAnyH_take (i := 0) (v := ?_) rfl (by kernel_rfl) (by kernel_rfl) (by kernel_rfl) (fun _ _ _ h => h) (Or.inl ⟨by rfl, ?_⟩) hH ?_
    case refine_2 => intro w hSw; go_simp; try with_reducible rfl
    try simp only [Z1, Z2, Z4, Z5, Z6, Z7]
    refine wpAnyH_take (i := 1) (v := ?_) rfl (by kernel_rfl) (by kernel_rfl) (by kernel_rfl) (fun _ _ _ h => h) (Or.inl ⟨by rfl, ?_⟩) hH ?_
    case refine_2 => intro w hSw; obtain ⟨kw, kb⟩ := hSw; replace kw : Blk w g 48 (nodeC E V M X d) := kw; replace kb : Blk w mb 58 #[.int .i64 m.kind, .int .i64 m.frm, .int .i64 m.dst, .int .u64 (m.term : Int), .int .u64 (m.index : Int), .int .u64 (m.logTerm : Int), .int .u64 (m.commit : Int), .slice A m.ents.length c, .bool m.ok, .slice none 0 0] := kb; have s0 : w.cell? ⟨_, 0, none⟩ = some (.int .i64 m.kind) := Blk.cell kb 0; have s1 : w.cell? ⟨_, 1, none⟩ = some (.int .i64 m.frm) := Blk.cell kb 1; have s2 : w.cell? ⟨_, 2, none⟩ = some (.int .i64 m.dst) := Blk.cell kb 2; have s3 : w.cell? ⟨_, 3, none⟩ = some (.int .u64 (m.term : Int)) := Blk.cell kb 3; have s4 : w.cell? ⟨_, 4, none⟩ = some (.int .u64 (m.index : Int)) := Blk.cell kb 4; have s5 : w.cell? ⟨_, 5, none⟩ = some (.int .u64 (m.logTerm : Int)) := Blk.cell kb 5; have s6 : w.cell? ⟨_, 6, none⟩ = some (.int .u64 (m.commit : Int)) := Blk.cell kb 6; have s7 : w.cell? ⟨_, 7, none⟩ = some (.slice A m.ents.length c) := Blk.cell kb 7; have s8 : w.cell? ⟨_, 8, none⟩ = some (.bool m.ok) := Blk.cell kb 8; have s9 : w.cell? ⟨_, 9, none⟩ = some (.slice none 0 0) := Blk.cell kb 9; clear kw kb; go_simp; try with_reducible rfl
    try simp only [Z1, Z2, Z3, Z4, Z5, Z6, Z7]
    refine wpAnyH_take (i := 2) (v := ?_) rfl (by kernel_rfl) (by kernel_rfl) (by kernel_rfl) (fun _ _ _ h => h) (Or.inl ⟨by rfl, ?_⟩) hH ?_
    case refine_2 => intro w hSw; go_simp; try with_reducible rfl
    try simp only [Z1, Z2, Z3, Z4, Z5, Z6, Z7]
    refine wpAnyH_take (i := 3) (v := ?_) rfl (by kernel_rfl) (by kernel_rfl) (by kernel_rfl) (fun _ _ _ h => h) (Or.inl ⟨by rfl, ?_⟩) hH ?_
    case refine_2 => intro w hSw; go_simp; try with_reducible rfl
    try simp only [Z1, Z2, Z3, Z4, Z5, Z6, Z7]
    refine wpAnyH_take (i := 4) (v := ?_) rfl (by kernel_rfl) (by kernel_rfl) (by kernel_rfl) (fun _ _ _ h => h) (Or.inl ⟨by rfl, ?_⟩) hH ?_
    case refine_2 => intro w hSw; go_simp; try with_reducible rfl
    try simp only [Z1, Z2, Z3, Z4, Z5, Z6, Z7]
    refine wpAnyH_take (i := 5) (v := ?_) rfl (by kernel_rfl) (by kernel_rfl) (by kernel_rfl) (fun _ _ _ h => h) (Or.inl ⟨by rfl, ?_⟩) hH ?_
    case refine_2 => intro w hSw; go_simp; try with_reducible rfl
    try simp only [Z1, Z2, Z3, Z4, Z5, Z6, Z7]
    refine wpAnyH_take (i := 6) (v := ?_) rfl (by kernel_rfl) (by kernel_rfl) (by kernel_rfl) (fun _ _ _ h => h) (Or.inl ⟨by rfl, ?_⟩) hH ?_
    case refine_2 => intro w hSw; go_simp; try with_reducible rfl
    try simp only [Z1, Z2, Z3, Z4, Z5, Z6, Z7]
    refine wpAnyH_take (i := 7) (v := ?_) rfl (by kernel_rfl) (by kernel_rfl) (by kernel_rfl) (fun _ _ _ h => h) (Or.inl ⟨by rfl, ?_⟩) hH ?_
    case refine_2 => intro w hSw; obtain ⟨kw, kb⟩ := hSw; replace kw : Blk w g 48 (nodeC E V M X d) := kw; replace kb : Blk w mb 58 #[.int .i64 m.kind, .int .i64 m.frm, .int .i64 m.dst, .int .u64 (m.term : Int), .int .u64 (m.index : Int), .int .u64 (m.logTerm : Int), .int .u64 (m.commit : Int), .slice A m.ents.length c, .bool m.ok, .slice none 0 0] := kb; have n0 : w.cell? ⟨_, 0, none⟩ = some (.int .u64 (d.term : Int)) := Blk.cell kw 0; clear kw kb; go_simp; try with_reducible rfl
    try simp only [Z1, Z2, Z3, Z4, Z5, Z6, Z7]
    refine wpAnyH_take (i := 8) (v := ?_) rfl (by kernel_rfl) (by kernel_rfl) (by kernel_rfl) (fun _ _ _ h => h) (Or.inl ⟨by rfl, ?_⟩) hH ?_
    case refine_2 => intro w hSw; go_simp; try with_reducible rfl
    try simp only [Z1, Z2, Z3, Z4, Z5, Z6, Z7]
    refine wpAnyH_take (i := 9) (v := ?_) rfl (by kernel_rfl) (by kernel_rfl) (by kernel_rfl) (fun _ _ _ h => h) (Or.inl ⟨by rfl, ?_⟩) hH ?_
    case refine_2 => intro w hSw; go_simp; try with_reducible rfl
    try simp only [Z1, Z2, Z3, Z4, Z5, Z6, Z7]
    refine wpAnyH_take (i := 10) (v := ?_) rfl (by kernel_rfl) (by kernel_rfl) (by kernel_rfl) (fun _ _ _ h => h) (Or.inl ⟨by rfl, ?_⟩) hH ?_
    case refine_2 => intro w hSw; go_simp; try with_reducible rfl
    try simp only [Z1, Z2, Z3, Z4, Z5, Z6, Z7]
    refine wpAnyH_take (i := 11) (v := ?_) rfl (by kernel_rfl) (by kernel_rfl) (by kernel_rfl) (fun _ _ _ h => h) (Or.inl ⟨by rfl, ?_⟩) hH ?_
    case refine_2 => intro w hSw; obtain ⟨kw, kb⟩ := hSw; replace kw : Blk w g 48 (nodeC E V M X d) := kw; replace kb : Blk w mb 58 #[.int .i64 m.kind, .int .i64 m.frm, .int .i64 m.dst, .int .u64 (m.term : Int), .int .u64 (m.index : Int), .int .u64 (m.logTerm : Int), .int .u64 (m.commit : Int), .slice A m.ents.length c, .bool m.ok, .slice none 0 0] := kb; have n10 : w.cell? ⟨_, 10, none⟩ = some (.int .u64 (d.commit : Int)) := Blk.cell kw 10; clear kw kb; go_simp; try with_reducible rfl
    try simp only [Z1, Z2, Z3, Z4, Z5, Z6, Z7]
    refine wpAnyH_take (i := 12) (v := ?_) rfl (by kernel_rfl) (by kernel_rfl) (by kernel_rfl) (fun _ _ _ h => h) (Or.inl ⟨by rfl, ?_⟩) hH ?_
    case refine_2 => intro w hSw; go_simp; try with_reducible rfl
    try simp only [Z1, Z2, Z3, Z4, Z5, Z6, Z7]
    refine wpAnyH_ready (rs := [13]) (by kernel_rfl) (by simp) ?_
    refine AllReadyH.cons rfl (fun K hK => ?_) AllReadyH.nil
    go_simp
    have TU := answer_any g E V M X d A none c 0 m { kind := 6, term := d.term, index := d.commit } (fun _ => False) w1.drew kS.1 (MsgAt.nil_ _ _ _ rfl (by have := hb.term; show d.term ≤ _; omega) (by have := hb.commit; show d.commit ≤ _; omega) (Nat.zero_le _) (Nat.zero_le _))
    rw [show msgC A c m = #[.int .i64 m.kind, .int .i64 m.frm, .int .i64 m.dst, .int .u64 (m.term : Int), .int .u64 (m.index : Int), .int .u64 (m.logTerm : Int), .int .u64 (m.commit : Int), .slice A m.ents.length c, .bool m.ok, .slice none 0 0] from rfl] at TU
    replace TU : Calls Try.prog 36 #[.pointer (some ⟨g, 0, none⟩), .agg #[.int .i64 m.kind, .int .i64 m.frm, .int .i64 m.dst, .int .u64 (m.term : Int), .int .u64 (m.index : Int), .int .u64 (m.logTerm : Int), .int .u64 (m.commit : Int), .slice A m.ents.length c, .bool m.ok, .slice none 0 0], .agg #[.int .i64 6, .int .i64 0, .int .i64 0, .int .u64 (d.term : Int), .int .u64 (d.commit : Int), .int .u64 0, .int .u64 0, .slice none 0 0, .bool false, .slice none 0 0]] w1.drew _ := TU
    refine TU.mono ?_
    clear TU
    rintro en w7 ⟨gb, rfl, o7, b7⟩
    have k7 := kS.1.below b7 kS.1.lt
    have km7 := kS.2.below b7 kS.2.lt
    refine hK.out _ _ ⟨k7, km7⟩ (fun hH => ?_)
    clear hK K
    try dsimp only
    try simp only [Z1, Z2, Z3, Z4, Z5, Z6, Z7]
    refine wpAnyH_take (i := 14) (v := ?_) rfl (by kernel_rfl) (by kernel_rfl) (by kernel_rfl) (fun _ _ _ h => h) (Or.inl ⟨by rfl, ?_⟩) hH ?_
    case refine_2 => intro w hSw; go_simp; try with_reducible rfl
    try simp only [Z1, Z2, Z3, Z4, Z5, Z6, Z7]
    refine wpAnyH_done (by kernel_rfl) ?_ _
    refine NoPanic.normal ?_
    have o7' := (o7.base (B' := w1.heap.size) (Nat.le_refl _)).mono (S' := fun b => w1.heap.size ≤ b) (fun b _ _ h => h.elim)
    rw [show ({ kind := 6, frm := d.id, dst := m.frm, term := d.term, index := d.commit } : LMsg) = rf from hrf.symm] at o7'
    go_wp2_with fail
    go_meet
    case rel => exact ⟨gb, rfl, o7', below_step ((Below.refl _ _).drew) b7⟩
  case rest =>
    obtain ⟨gb, rfl, oR, bR⟩ := hcut
    clear hrf
    have HD1 := Lib.hid (show ND w1 g F d from ⟨_, _, _, _, _, N1, HF.out⟩)
    have HB1 := Lib.hid bR
    have NR := N1.below bR
    have kmR := km.below bR km.lt
    have bwR := below_step b1 bR
    have hMR := hM1.below bR
    have zR := b1.size
    have zR2 := bR.size
    clear N1 km hM1 bR
    have s7 : wc.cell? ⟨mb, 7, none⟩ = some (.slice A m.ents.length c) := kmR.cell 7
    have s4 : wc.cell? ⟨mb, 4, none⟩ = some (.int .u64 (m.index : Int)) := kmR.cell 4
    go_upto_region 3 with fail
    go_quiet (fail)
    have dq : Below wc.heap.size wc (wc.drewN nq) := below_drewN (Below.refl _ _) nq
    have N3 := NR.below dq
    have b3 := below_step bwR dq
    have km3 := kmR.drewN nq
    have hM3 := hMR.below dq
    have oR3 := oR.below dq
    have z3 : wc.heap.size ≤ (wc.drewN nq).heap.size := Nat.le_refl _
    have HB3 := Lib.hid (below_step HB1.out dq)
    clear HB1
    go_upto_region 4 with fail
    clear s7 s4 NR kmR hMR oR bwR dq
    generalize wc.drewN nq = w3 at *
    have n2 : w3.cell? ⟨g, 2, none⟩ = some (.int .u64 (d.base : Int)) := N3.blk.cell 2
    go_upto_if 49 with fail
    clear n2
    obtain ⟨L, hL⟩ : ∃ L, L = listP d m := ⟨_, rfl⟩
    obtain ⟨t0, ht0⟩ : ∃ t0, t0 = atP d m := ⟨_, rfl⟩
    have HL := Lib.hid hL
    have HT0 := Lib.hid ht0
    clear hL ht0
    go_cut [7, 8] (fun v7 v8 wx => ∃ R cR, v7 = .slice R L.length cR ∧ v8 = .int .u64 (t0 : Int) ∧ SlS EntE wx T0 R L ∧ L.length ≤ cR ∧ Hid (appendP d m = putEnd d m (putP d (t0 + 1) L)) ∧ Below w3.heap.size w3 wx ∧ d.base ≤ t0 ∧ t0 ≤ lastN d)
    case first =>
      by_cases hlt : m.index < d.base
      · have hlti : (m.index : Int) < (d.base : Int) := by omega
        have n2 : w3.cell? ⟨g, 2, none⟩ = some (.int .u64 (d.base : Int)) := N3.blk.cell 2
        have HA : Hid (appendP d m = putEnd d m (putP d (t0 + 1) L)) := by show _ = _; rw [HAP.out, if_neg (by omega), HT0.out, HL.out]
        have hT : t0 = d.base := by rw [HT0.out]; unfold atP; rw [if_pos hlt]
        have hLd : ∀ k, k = min m.ents.length (d.base - m.index) → L = m.ents.drop k := fun k hk => by rw [HL.out, hk]; unfold listP; rw [if_pos hlt]
        have HLD := Lib.hid hLd
        have hTl : t0 ≤ lastN d := by rw [hT]; unfold lastN; omega
        have hTb : d.base ≤ t0 := by rw [hT]; exact Nat.le_refl _
        have hTi : (t0 : Int) = (d.base : Int) := by rw [hT]
        have HTI := Lib.hid hTi
        clear hT hLd hTi HAP
        have hbb := hb.base
        obtain ⟨x, hx⟩ : ∃ x, x = d.base - m.index := ⟨_, rfl⟩
        obtain ⟨k0, hk0⟩ : ∃ k0, k0 = min m.ents.length x := ⟨_, rfl⟩
        have hLe := HLD.out k0 (by rw [hk0, hx])
        have hxi : (d.base : Int) - (m.index : Int) = (x : Int) := by omega
        have hwx : IntKind.u64.wrap (x : Int) = (x : Int) := by simp [IntKind.wrap, IntKind.bits, IntKind.signed]; omega
        have hmin : (if x < m.ents.length then (x : Int) else (m.ents.length : Int)) = (k0 : Int) := by rw [hk0]; split <;> omega
        have hkl : k0 ≤ m.ents.length := by omega
        obtain ⟨R, hR, hrun⟩ := hM3.ents.dropE hM3.cap.1 k0 (k0 : Int) rfl hkl
        rw [← hLe] at hR hrun
        have HXL := Lib.hid hkl
        have HCP := Lib.hid hM3.cap
        have HLE := Lib.hid hLe
        clear hx hLe HLD hkl hk0
        go_wp2_with fail
        go_meet
        case rel => exact ⟨R, _, rfl, by rw [HTI.out], hR, by rw [HLE.out, List.length_drop]; have := HCP.out; have := HXL.out; omega, HA, Below.refl _ _, hTb, hTl⟩
      · have hlti : ¬ (m.index : Int) < (d.base : Int) := by omega
        have hT : t0 = m.index := by rw [HT0.out]; unfold atP; rw [if_neg hlt]
        have hLm : L = m.ents := by rw [HL.out]; unfold listP; rw [if_neg hlt]
        obtain ⟨Al, ec, rfl⟩ := N3.log.shape
        have T := termat_any g Al ec V M X Any d m.index w3 N3.blk (N3.slS hb.len32) hb.nb (by omega)
        have hHQ : (termAt d m.index).2 = true → m.index ≤ lastN d := fun h => by
          unfold termAt at h
          split at h
          · cases h
          · omega
        obtain ⟨q, hq⟩ : ∃ q, q = termAt d m.index := ⟨_, rfl⟩
        have HAQ : Hid (appendP d m = if q.2 = false ∨ q.1 ≠ m.logTerm then (d, [rf]) else putEnd d m (putP d (t0 + 1) L)) := by
          show _ = _
          rw [HAP.out, HRF.out, hq, HT0.out, HL.out]
          by_cases hx : (termAt d m.index).2 = false ∨ (termAt d m.index).1 ≠ m.logTerm
          · rw [if_pos hx, if_pos ⟨by omega, hx⟩]
          · rw [if_neg hx, if_neg (fun h => hx h.2)]
        rw [← hq] at T hHQ
        clear hq HAP
        obtain ⟨qt, qo⟩ := q
        replace HAQ : Hid (appendP d m = if qo = false ∨ qt ≠ m.logTerm then (d, [rf]) else putEnd d m (putP d (t0 + 1) L)) := HAQ
        have HQI := Lib.hid (show qo = true → m.index ≤ lastN d from hHQ)
        have HTE := Lib.hid hT
        have HLM := Lib.hid hLm
        clear hHQ hT hLm
        go_wp2_with fail
        refine T.mono ?_
        clear T
        rintro en w4 ⟨rfl, n4, hw4⟩
        have d4 : Below w3.heap.size w3 w4 := by rw [hw4]; exact ⟨rfl, rfl, rfl, Nat.le_refl _, fun _ _ => rfl⟩
        have km4 := km3.below d4 km3.lt
        have s5 : w4.cell? ⟨mb, 5, none⟩ = some (.int .u64 (m.logTerm : Int)) := km4.cell 5
        clear hw4
        have href : (qo = false ∨ qt ≠ m.logTerm) → RetMs g F (appendP d m) w (.returned (.slice (some ⟨gb, 0, none⟩) 1 1)) w4 := fun h => by
          rw [HAQ.out, if_pos h]
          have D3 : ND w3 g (fun b => F b ∨ w1.heap.size ≤ b) d := by
            exact HD1.out.new HB3.out
          exact ⟨some ⟨gb, 0, none⟩, 1, w1.heap.size, rfl, zR, (oR3.below d4), (D3.below d4).mono (fun b h => h.imp (fun h => h.1) id), .of_below (below_step b3 d4)⟩
        have HREF := Lib.hid href
        clear href
        cases qo with
        | false =>
          go_wp2_with fail
          go_ret
          exact HREF.out (.inl (by simp))
        | true =>
          by_cases hqt : qt = m.logTerm
          · have hqi : ((qt : Int) != (m.logTerm : Int)) = false := by rw [bne_eq_false_iff_eq]; omega
            have HA : Hid (appendP d m = putEnd d m (putP d (t0 + 1) L)) := by show _ = _; rw [HAQ.out, if_neg (by simp; exact hqt)]
            clear HAQ HREF hqt
            go_wp2_with fail
            go_meet
            case rel => exact ⟨A, c, by rw [HLM.out], by rw [HTE.out], by rw [HLM.out]; exact hM3.ents.below d4, by rw [HLM.out]; exact hM3.cap.1, HA, d4, by rw [HTE.out]; omega, by rw [HTE.out]; exact HQI.out (by simp)⟩
          · have hqi : ((qt : Int) != (m.logTerm : Int)) = true := by rw [bne_iff_ne]; omega
            go_wp2_with fail
            go_ret
            exact HREF.out (.inr (by simpa using hqt))
    case rest =>
      obtain ⟨R, cR, rfl, rfl, hR, hcR, HA, bc, hTb, hTl⟩ := hcut
      have N4 := N3.below bc
      have b4 := below_step b3 bc
      have km4 := km3.below bc km3.lt
      have hLl : L.length ≤ m.ents.length := by
        rw [HL.out]
        unfold listP
        split
        · rw [List.length_drop]; omega
        · exact Nat.le_refl _
      have hlb := hb.last
      clear N3 b3 km3 oR3 hM3 bc HT0 HB3 HAP HRF z3 zR zR2
      go_wp2_with fail
      go_loopw [85] (fun v wr => ∃ k, k ≤ L.length ∧ v = .int .i64 (k : Int) ∧ Hid (putP d (t0 + 1) L = putP d (t0 + 1 + k) (L.drop k)) ∧ t0 + k ≤ lastN d ∧ Below wc.heap.size wc wr) (fun v _ => L.length - (intOf v).toNat)
      case atStart => exact ⟨0, Nat.zero_le _, rfl, rfl, hTl, Below.refl _ _⟩
      case round =>
        obtain ⟨k, hk, rfl, HX, hkl, br⟩ := hrel
        by_cases hlt : k < L.length
        · obtain ⟨ad, P0, pc, hRad, _, q0, q1, qrest⟩ := EntE.at_ (hR.below br) hlt
          subst hRad
          clear qrest
          obtain ⟨e, he⟩ : ∃ e, e = L[k] := ⟨_, rfl⟩
          rw [← he] at q0 q1
          have HLK : Hid (L.drop k = e :: L.drop (k + 1)) := by show _ = _; rw [he]; exact List.drop_eq_getElem_cons hlt
          clear he
          have HST : Hid (putP d (t0 + 1) L = if (termAt d (t0 + 1 + k)).2 = true ∧ (termAt d (t0 + 1 + k)).1 = e.term then putP d (t0 + 1 + (k + 1)) (L.drop (k + 1)) else if t0 + 1 + k ≤ d.commit then none else if risingP (L.drop k) (termAt d (t0 + k)).1 d.term = false then none else some { d with log := d.log.take (t0 + 1 + k - d.base - 1) ++ L.drop k }) := by
            show _ = _; rw [HX.out, HLK.out, putP_cons, show t0 + 1 + k + 1 = t0 + 1 + (k + 1) by omega, show t0 + 1 + k - 1 = t0 + k by omega]
          clear HX
          have dA : Below wr.heap.size wr (wr.alloc (.cells #[.int .u64 (e.term : Int), .slice P0 e.data.length pc] 44)) := (Below.refl _ _).alloc (Nat.le_refl _) _
          have kE := Blk.new wr 44 #[.int .u64 (e.term : Int), .slice P0 e.data.length pc]
          go_upto_region 14 with fail
          change Code.wp _ _ _ _ (wr.alloc (.cells #[.int .u64 (e.term : Int), .slice P0 e.data.length pc] 44))
          clear q0 q1
          have b5 := below_step br dA
          have N5 := N4.below b5
          have lE := kE.lt
          generalize (wr.alloc (.cells #[.int .u64 (e.term : Int), .slice P0 e.data.length pc] 44)) = w5 at *
          obtain ⟨Al, ec, rfl⟩ := N5.log.shape
          have T := termat_any g Al ec V M X Any d (t0 + 1 + k) w5 N5.blk (N5.slS hb.len32) hb.nb (by omega)
          have hq2 : (termAt d (t0 + 1 + k)).2 = true → t0 + (k + 1) ≤ lastN d := fun h => by
            unfold termAt at h
            split at h
            · cases h
            · omega
          obtain ⟨q, hq⟩ : ∃ q, q = termAt d (t0 + 1 + k) := ⟨_, rfl⟩
          rw [← hq] at T hq2 HST
          clear hq
          obtain ⟨qt, qo⟩ := q
          replace T : Calls Try.prog 23 #[.pointer (some ⟨g, 0, none⟩), .int .u64 ((t0 : Int) + 1 + (k : Int))] w5 _ := T
          have HQ2 := Lib.hid (show qo = true → t0 + (k + 1) ≤ lastN d from hq2)
          clear hq2
          go_wp2_with fail
          refine T.mono ?_
          clear T
          rintro en w6 ⟨rfl, n6, hw6⟩
          have d6 : Below w5.heap.size w5 w6 := by rw [hw6]; exact ⟨rfl, rfl, rfl, Nat.le_refl _, fun _ _ => rfl⟩
          have b6 := below_step b5 d6
          have kE6 := kE.below d6 kE.lt
          have s0 : w6.cell? ⟨wr.heap.size, 0, none⟩ = some (.int .u64 (e.term : Int)) := kE6.cell 0
          have N6 := N5.below d6
          have n10 : w6.cell? ⟨g, 10, none⟩ = some (.int .u64 (d.commit : Int)) := N6.blk.cell 10
          have hR6 := hR.below (below_step br (below_step dA d6))
          clear hw6 b5 d6 N5 kE dA
          by_cases hgo : qo = true ∧ qt = e.term
          · obtain ⟨rfl, hqt⟩ := hgo
            have hqi : ((qt : Int) == (e.term : Int)) = true := by rw [beq_iff_eq]; omega
            have HX2 : Hid (putP d (t0 + 1) L = putP d (t0 + 1 + (k + 1)) (L.drop (k + 1))) := by show _ = _; rw [HST.out, if_pos ⟨rfl, hqt⟩]
            clear HST hqt
            go_wp2_with fail
            go_roundw
            case rel => exact ⟨k + 1, by omega, by simp, HX2, HQ2.out (by simp), b6⟩
            case measure => simp [intOf]; omega
          · have HST2 : Hid (putP d (t0 + 1) L = if t0 + 1 + k ≤ d.commit then none else if risingP (L.drop k) (termAt d (t0 + k)).1 d.term = false then none else some { d with log := d.log.take (t0 + 1 + k - d.base - 1) ++ L.drop k }) := by show _ = _; rw [HST.out, if_neg hgo]
            have HGO := Lib.hid hgo
            clear HST hgo
            have hgob : (qo && ((qt : Int) == (e.term : Int))) = false := by
              rw [Bool.and_eq_false_iff]
              cases hqo : qo with
              | false => exact .inl rfl
              | true => exact .inr (by rw [beq_eq_false_iff_ne]; exact fun h => HGO.out ⟨hqo, by omega⟩)
            have hpart : qo = false ∨ (qo = true ∧ ((qt : Int) == (e.term : Int)) = false) := by
              cases hqo : qo with
              | false => exact .inl rfl
              | true => exact .inr ⟨rfl, by rw [beq_eq_false_iff_ne]; exact fun h => HGO.out ⟨hqo, by omega⟩⟩
            clear hgob HGO
            go_upto_region 15 with fail
            go_cut [107] (fun v107 wx => v107 = .bool false ∧ wx = w6)
            case first =>
              rcases hpart with rfl | ⟨rfl, hqi⟩
              · go_wp2_with fail
                go_meet
                case rel => exact ⟨rfl, rfl⟩
              · go_wp2_with fail
                go_meet
                case rel => exact ⟨rfl, rfl⟩
            case rest =>
              obtain ⟨rfl, hw⟩ := hcut
              rw [hw]
              clear hw hpart
              have hnil : putP d (t0 + 1) L = none → ∀ W, Below w6.heap.size w6 W → RetMs g F (appendP d m) w (.returned (.slice none 0 0)) W := fun h W hW => by
                rw [HA.out, h]
                exact RetMs.nil_ (ND.all ⟨_, _, _, _, _, N6.below hW, HF.out⟩) (fun b _ h => .inl h) (fun b h => .inr h) (.of_below (below_step (below_step b4 b6) hW))
              have HNIL := Lib.hid hnil
              clear hnil
              by_cases hxc : t0 + 1 + k ≤ d.commit
              · have hxi : (t0 : Int) + 1 + (k : Int) ≤ (d.commit : Int) := by omega
                have HE := HNIL.out (by rw [HST2.out, if_pos hxc])
                have HEH := Lib.hid HE
                clear HE HNIL HST2 hxc
                go_wp2_with fail
                go_ret
                exact HEH.out _ (Below.refl _ _)
              · have hxi : ¬ (t0 : Int) + 1 + (k : Int) ≤ (d.commit : Int) := by omega
                have HST3 : Hid (putP d (t0 + 1) L = if risingP (L.drop k) (termAt d (t0 + k)).1 d.term = false then none else some { d with log := d.log.take (t0 + 1 + k - d.base - 1) ++ L.drop k }) := by show _ = _; rw [HST2.out, if_neg hxc]
                clear HST2 hxc
                have T := termat_any g Al ec V M X Any d (t0 + k) w6 N6.blk (N6.slS hb.len32) hb.nb (by omega)
                obtain ⟨q, hq⟩ : ∃ q, q = termAt d (t0 + k) := ⟨_, rfl⟩
                rw [← hq] at T HST3
                clear hq
                obtain ⟨pt, po⟩ := q
                replace T : Calls Try.prog 23 #[.pointer (some ⟨g, 0, none⟩), .int .u64 ((t0 : Int) + (k : Int))] w6 _ := T
                replace HST3 : Hid (putP d (t0 + 1) L = if risingP (L.drop k) pt d.term = false then none else some { d with log := d.log.take (t0 + 1 + k - d.base - 1) ++ L.drop k }) := HST3
                have hsub : (t0 : Int) + 1 + (k : Int) - 1 = (t0 : Int) + (k : Int) := by omega
                have hwx : IntKind.u64.wrap ((t0 : Int) + (k : Int)) = (t0 : Int) + (k : Int) := by simp [IntKind.wrap, IntKind.bits, IntKind.signed]; omega
                go_wp2_with fail
                refine T.mono ?_
                clear T n10 s0
                rintro en w7 ⟨rfl, n7, hw7⟩
                have d7 : Below w6.heap.size w6 w7 := by rw [hw7]; exact ⟨rfl, rfl, rfl, Nat.le_refl _, fun _ _ => rfl⟩
                have b7 := below_step b6 d7
                have N7 := N6.below d7
                clear hw7
                go_upto_region 19 with fail
                obtain ⟨R2, hR2, hrun⟩ := SlS.dropK .i64 (hR6.below d7) hcR k hk
                obtain ⟨D, hD⟩ : ∃ D, D = L.drop k := ⟨_, rfl⟩
                rw [← hD] at hR2 hrun
                have hDl : D.length ≤ 1048576 := by rw [hD, List.length_drop]; omega
                have hD0 : 0 < D.length := by rw [hD, List.length_drop]; omega
                have hDb : d.log.length + D.length ≤ 1048576 := by rw [hD, List.length_drop]; omega
                have hhl : t0 + k - d.base ≤ d.log.length := by unfold lastN at hkl; omega
                have HDE := Lib.hid hD
                rw [← hD] at HST3
                have HK := Lib.hid hk
                have HLT := Lib.hid hlt
                have HKL := Lib.hid hkl
                have HD0 := Lib.hid hD0
                clear hD hk hlt hD0 hsub
                have n0 : w7.cell? ⟨g, 0, none⟩ = some (.int .u64 (d.term : Int)) := N7.blk.cell 0
                go_cut [132] (fun v132 wx => v132 = .bool (!risingP D pt d.term) ∧ Below w7.heap.size w7 wx)
                case first =>
                  refine wp_region_noPanic ?_
                  have kS : Blk w7.drew g 48 (nodeC (.slice Al d.log.length ec) V M X d) := N7.blk.drew
                  refine wp_region_held_drew (S := fun Y => Blk Y g 48 (nodeC (.slice Al d.log.length ec) V M X d)) (by kernel_rfl) kS (fun hH => ?_)
                  refine wpAnyH_take (i := 0) (v := ?_) rfl (by kernel_rfl) (by kernel_rfl) (by kernel_rfl) (fun _ _ _ h => h) (Or.inl ⟨by rfl, ?_⟩) hH ?_
                  case refine_2 => intro w hSw; go_simp; try with_reducible rfl
                  try simp only [Z1, Z2, Z4, Z5, Z6, Z7]
                  refine wpAnyH_take (i := 1) (v := ?_) rfl (by kernel_rfl) (by kernel_rfl) (by kernel_rfl) (fun _ _ _ h => h) (Or.inl ⟨by rfl, ?_⟩) hH ?_
                  case refine_2 => intro w hSw; go_simp; try with_reducible rfl
                  try simp only [Z1, Z2, Z3, Z4, Z5, Z6, Z7]
                  refine wpAnyH_take (i := 2) (v := ?_) rfl (by kernel_rfl) (by kernel_rfl) (by kernel_rfl) (fun _ _ _ h => h) (Or.inl ⟨by rfl, ?_⟩) hH ?_
                  case refine_2 => intro w hSw; go_simp; try with_reducible rfl
                  try simp only [Z1, Z2, Z3, Z4, Z5, Z6, Z7]
                  refine wpAnyH_take (i := 3) (v := ?_) rfl (by kernel_rfl) (by kernel_rfl) (by kernel_rfl) (fun _ _ _ h => h) (Or.inl ⟨by rfl, ?_⟩) hH ?_
                  case refine_2 => intro w hSw; go_simp; try with_reducible rfl
                  try simp only [Z1, Z2, Z3, Z4, Z5, Z6, Z7]
                  refine wpAnyH_take (i := 4) (v := ?_) rfl (by kernel_rfl) (by kernel_rfl) (by kernel_rfl) (fun _ _ _ h => h) (Or.inl ⟨by rfl, ?_⟩) hH ?_
                  case refine_2 => intro w hSw; go_simp; try with_reducible rfl
                  try simp only [Z1, Z2, Z3, Z4, Z5, Z6, Z7]
                  refine wpAnyH_take (i := 5) (v := ?_) rfl (by kernel_rfl) (by kernel_rfl) (by kernel_rfl) (fun _ _ _ h => h) (Or.inl ⟨by rfl, ?_⟩) hH ?_
                  case refine_2 => intro w hSw; go_simp; try with_reducible rfl
                  try simp only [Z1, Z2, Z3, Z4, Z5, Z6, Z7]
                  refine wpAnyH_take (i := 6) (v := ?_) rfl (by kernel_rfl) (by kernel_rfl) (by kernel_rfl) (fun _ _ _ h => h) (Or.inl ⟨by rfl, ?_⟩) hH ?_
                  case refine_2 => intro w hSw; go_simp; try with_reducible rfl
                  try simp only [Z1, Z2, Z3, Z4, Z5, Z6, Z7]
                  refine wpAnyH_take (i := 7) (v := ?_) rfl (by kernel_rfl) (by kernel_rfl) (by kernel_rfl) (fun _ _ _ h => h) (Or.inl ⟨by rfl, ?_⟩) hH ?_
                  case refine_2 => intro w hSw; go_simp; try with_reducible rfl
                  try simp only [Z1, Z2, Z3, Z4, Z5, Z6, Z7]
                  refine wpAnyH_take (i := 8) (v := ?_) rfl (by kernel_rfl) (by kernel_rfl) (by kernel_rfl) (fun _ _ _ h => h) (Or.inl ⟨by rfl, ?_⟩) hH ?_
                  case refine_2 => intro w hSw; go_simp; try with_reducible rfl
                  try simp only [Z1, Z2, Z3, Z4, Z5, Z6, Z7]
                  refine wpAnyH_take (i := 9) (v := ?_) rfl (by kernel_rfl) (by kernel_rfl) (by kernel_rfl) (fun _ _ _ h => h) (Or.inl ⟨by rfl, ?_⟩) hH ?_
                  case refine_2 => intro w hSw; have kw : Blk w g 48 (nodeC (.slice Al d.log.length ec) V M X d) := hSw; have n0 : w.cell? ⟨_, 0, none⟩ = some (.int .u64 (d.term : Int)) := Blk.cell kw 0; clear kw hSw; go_simp; try with_reducible rfl
                  try simp only [Z1, Z2, Z3, Z4, Z5, Z6, Z7]
                  refine wpAnyH_ready (rs := [10]) (by kernel_rfl) (by simp) ?_
                  refine AllReadyH.cons rfl (fun K hK => ?_) AllReadyH.nil
                  go_simp
                  refine (rising_any R2 D (cR - k) T0 pt d.term w7.drew (hR2.below ((Below.refl _ _).drew)) (by omega)).mono ?_
                  rintro en w8 ⟨rfl, b8⟩
                  have k8 := kS.below b8 kS.lt
                  refine hK.out _ _ k8 (fun hH => ?_)
                  clear hK K
                  try dsimp only
                  try simp only [Z1, Z2, Z3, Z4, Z5, Z6, Z7]
                  refine wpAnyH_take (i := 11) (v := ?_) rfl (by kernel_rfl) (by kernel_rfl) (by kernel_rfl) (fun _ _ _ h => h) (Or.inl ⟨by rfl, ?_⟩) hH ?_
                  case refine_2 => intro w hSw; go_simp; try with_reducible rfl
                  try simp only [Z1, Z2, Z3, Z4, Z5, Z6, Z7]
                  refine wpAnyH_done (by kernel_rfl) ?_ _
                  refine NoPanic.normal ?_
                  go_wp2_with fail
                  go_meet
                  case rel => exact ⟨rfl, below_step ((Below.refl _ _).drew) b8⟩
                case rest =>
                  obtain ⟨rfl, bx⟩ := hcut
                  clear n0
                  have N8 := N7.below bx
                  have b8 := below_step b7 bx
                  have b68 := below_step d7 bx
                  have hR8 := hR2.below bx
                  obtain ⟨rs, hrs⟩ : ∃ rs, rs = risingP D pt d.term := ⟨_, rfl⟩
                  rw [← hrs] at HST3
                  rw [← hrs]
                  clear hrs N6 N7 bx
                  cases rs with
                  | false =>
                    have HE := HNIL.out (by rw [HST3.out, if_pos (by simp)])
                    have HEH := Lib.hid HE
                    clear HE HNIL HST3
                    go_wp2_with fail
                    go_ret
                    exact HEH.out _ b68
                  | true =>
                    obtain ⟨hh, hhe⟩ : ∃ hh, hh = t0 + k - d.base := ⟨_, rfl⟩
                    have HE : Hid (appendP d m = endP { d with log := d.log.take hh ++ D } m) := by
                      show _ = _
                      rw [HA.out, HST3.out, if_neg (by simp), show t0 + 1 + k - d.base - 1 = hh by omega]
                      rfl
                    have hs1 : (t0 : Int) + 1 + (k : Int) - (d.base : Int) = (hh : Int) + 1 := by omega
                    have hw1 : IntKind.u64.wrap ((hh : Int) + 1) = (hh : Int) + 1 := by have := hb.len; simp [IntKind.wrap, IntKind.bits, IntKind.signed]; omega
                    have hw2 : IntKind.u64.wrap (hh : Int) = (hh : Int) := by have := hb.len; simp [IntKind.wrap, IntKind.bits, IntKind.signed]; omega
                    have hhc : (hh : Int) ≤ (ec : Int) := by have := N8.log.caps.1; omega
                    have hhl2 : hh ≤ d.log.length := by omega
                    have hh0 : (0 : Int) ≤ (hh : Int) := by omega
                    have hhD : hh + D.length ≤ 1048576 := by omega
                    clear HST3 HNIL HA hhe hhl
                    go_upto_region 21 with fail
                    refine wp_region_noPanic ?_
                    have kS : Blk wc.drew g 48 (nodeC (.slice Al d.log.length ec) V M X d) := N8.blk.drew
                    refine wp_region_heldK (fun Y => Blk Y g 48 (nodeC (.slice Al d.log.length ec) V M X d)) 31 (by kernel_rfl) kS (fun hH => ?_)
                    refine wpAnyK_takeY (i := 0) (v := ?_) rfl (by kernel_rfl) (by kernel_rfl) (by kernel_rfl) (by kernel_rfl) (fun _ _ _ h => h) (Or.inl ⟨by rfl, ?_⟩) hH ?_
                    case refine_2 => intro w; go_simp; try with_reducible rfl
                    try simp only [Z1, Z2, Z4, Z5, Z6, Z7]
                    refine wpAnyK_takeY (i := 1) (v := ?_) rfl (by kernel_rfl) (by kernel_rfl) (by kernel_rfl) (by kernel_rfl) (fun _ _ _ h => h) (Or.inl ⟨by rfl, ?_⟩) hH ?_
                    case refine_2 => intro w; go_simp; try with_reducible rfl
                    try simp only [Z1, Z2, Z3, Z4, Z5, Z6, Z7]
                    refine wpAnyK_takeY (i := 2) (v := ?_) rfl (by kernel_rfl) (by kernel_rfl) (by kernel_rfl) (by kernel_rfl) (fun _ _ _ h => h) (Or.inl ⟨by rfl, ?_⟩) hH ?_
                    case refine_2 => intro w; go_simp; try with_reducible rfl
                    try simp only [Z1, Z2, Z3, Z4, Z5, Z6, Z7]
                    refine wpAnyK_takeY (i := 3) (v := ?_) rfl (by kernel_rfl) (by kernel_rfl) (by kernel_rfl) (by kernel_rfl) (fun _ _ _ h => h) (Or.inl ⟨by rfl, ?_⟩) hH ?_
                    case refine_2 => intro w; go_simp; try with_reducible rfl
                    try simp only [Z1, Z2, Z3, Z4, Z5, Z6, Z7]
                    refine wpAnyK_takeY (i := 4) (v := ?_) rfl (by kernel_rfl) (by kernel_rfl) (by kernel_rfl) (by kernel_rfl) (fun _ _ _ h => h) (Or.inl ⟨by rfl, ?_⟩) hH ?_
                    case refine_2 => intro w; go_simp; try with_reducible rfl
                    try simp only [Z1, Z2, Z3, Z4, Z5, Z6, Z7]
                    refine wpAnyK_take (i := 5) (v := ?_) rfl (by kernel_rfl) (by kernel_rfl) (by kernel_rfl) (by kernel_rfl) (fun _ _ _ h => h) (Or.inl ⟨by rfl, ?_⟩) hH ?_
                    case refine_2 => intro w hSw; have kw : Blk w g 48 (nodeC (.slice Al d.log.length ec) V M X d) := hSw; have n4 : w.cell? ⟨_, 4, none⟩ = some (.slice Al d.log.length ec) := Blk.cell kw 4; clear kw hSw; go_simp; try with_reducible rfl
                    try simp only [Z1, Z2, Z3, Z4, Z5, Z6, Z7]
                    refine wpAnyK_takeY (i := 6) (v := ?_) rfl (by kernel_rfl) (by kernel_rfl) (by kernel_rfl) (by kernel_rfl) (fun _ _ _ h => h) (Or.inl ⟨by rfl, ?_⟩) hH ?_
                    case refine_2 => intro w; go_simp; try with_reducible rfl
                    try simp only [Z1, Z2, Z3, Z4, Z5, Z6, Z7]
                    refine wpAnyK_takeY (i := 7) (v := ?_) rfl (by kernel_rfl) (by kernel_rfl) (by kernel_rfl) (by kernel_rfl) (fun _ _ _ h => h) (Or.inl ⟨by rfl, ?_⟩) hH ?_
                    case refine_2 => intro w; go_simp; try with_reducible rfl
                    try simp only [Z1, Z2, Z3, Z4, Z5, Z6, Z7]
                    refine wpAnyK_takeY (i := 8) (v := ?_) rfl (by kernel_rfl) (by kernel_rfl) (by kernel_rfl) (by kernel_rfl) (fun _ _ _ h => h) (Or.inl ⟨by rfl, ?_⟩) hH ?_
                    case refine_2 => intro w; go_simp; try with_reducible rfl
                    try simp only [Z1, Z2, Z3, Z4, Z5, Z6, Z7]
                    refine wpAnyK_takeY (i := 9) (v := ?_) rfl (by kernel_rfl) (by kernel_rfl) (by kernel_rfl) (by kernel_rfl) (fun _ _ _ h => h) (Or.inl ⟨by rfl, ?_⟩) hH ?_
                    case refine_2 => intro w; go_simp; try with_reducible rfl
                    try simp only [Z1, Z2, Z3, Z4, Z5, Z6, Z7]
                    refine wpAnyK_takeY (i := 10) (v := ?_) rfl (by kernel_rfl) (by kernel_rfl) (by kernel_rfl) (by kernel_rfl) (fun _ _ _ h => h) (Or.inl ⟨by rfl, ?_⟩) hH ?_
                    case refine_2 => intro w; go_simp; try with_reducible rfl
                    try simp only [Z1, Z2, Z3, Z4, Z5, Z6, Z7]
                    refine wpAnyK_take (i := 11) (v := ?_) rfl (by kernel_rfl) (by kernel_rfl) (by kernel_rfl) (by kernel_rfl) (fun _ _ _ h => h) (Or.inl ⟨by rfl, ?_⟩) hH ?_
                    case refine_2 => intro w hSw; have kw : Blk w g 48 (nodeC (.slice Al d.log.length ec) V M X d) := hSw; have n2 : w.cell? ⟨_, 2, none⟩ = some (.int .u64 (d.base : Int)) := Blk.cell kw 2; clear kw hSw; go_simp; try with_reducible rfl
                    try simp only [Z1, Z2, Z3, Z4, Z5, Z6, Z7]
                    refine wpAnyK_takeY (i := 12) (v := ?_) rfl (by kernel_rfl) (by kernel_rfl) (by kernel_rfl) (by kernel_rfl) (fun _ _ _ h => h) (Or.inl ⟨by rfl, ?_⟩) hH ?_
                    case refine_2 => intro w; go_simp; try with_reducible rfl
                    try simp only [Z1, Z2, Z3, Z4, Z5, Z6, Z7]
                    refine wpAnyK_takeY (i := 13) (v := ?_) rfl (by kernel_rfl) (by kernel_rfl) (by kernel_rfl) (by kernel_rfl) (fun _ _ _ h => h) (Or.inl ⟨by rfl, ?_⟩) hH ?_
                    case refine_2 => intro w; go_simp; try with_reducible rfl
                    try simp only [Z1, Z2, Z3, Z4, Z5, Z6, Z7]
                    refine wpAnyK_takeY (i := 14) (v := ?_) rfl (by kernel_rfl) (by kernel_rfl) (by kernel_rfl) (by kernel_rfl) (fun _ _ _ h => h) (Or.inl ⟨by rfl, ?_⟩) hH ?_
                    case refine_2 => intro w; go_simp; try with_reducible rfl
                    try simp only [Z1, Z2, Z3, Z4, Z5, Z6, Z7]
                    refine wpAnyK_takeY (i := 15) (v := ?_) rfl (by kernel_rfl) (by kernel_rfl) (by kernel_rfl) (by kernel_rfl) (fun _ _ _ h => h) (Or.inl ⟨by rfl, ?_⟩) hH ?_
                    case refine_2 => intro w; go_simp; try with_reducible rfl
                    try simp only [Z1, Z2, Z3, Z4, Z5, Z6, Z7]
                    refine wpAnyK_takeY (i := 16) (v := ?_) rfl (by kernel_rfl) (by kernel_rfl) (by kernel_rfl) (by kernel_rfl) (fun _ _ _ h => h) (Or.inl ⟨by rfl, ?_⟩) hH ?_
                    case refine_2 => intro w; go_simp; try with_reducible rfl
                    try simp only [Z1, Z2, Z3, Z4, Z5, Z6, Z7]
                    refine wpAnyK_takeY (i := 17) (v := ?_) rfl (by kernel_rfl) (by kernel_rfl) (by kernel_rfl) (by kernel_rfl) (fun _ _ _ h => h) (Or.inl ⟨by rfl, ?_⟩) hH ?_
                    case refine_2 => intro w; go_simp; try with_reducible rfl
                    try simp only [Z1, Z2, Z3, Z4, Z5, Z6, Z7]
                    refine wpAnyK_takeY (i := 18) (v := ?_) rfl (by kernel_rfl) (by kernel_rfl) (by kernel_rfl) (by kernel_rfl) (fun _ _ _ h => h) (Or.inl ⟨by rfl, ?_⟩) hH ?_
                    case refine_2 => intro w; go_simp; try with_reducible rfl
                    try simp only [Z1, Z2, Z3, Z4, Z5, Z6, Z7]
                    refine wpAnyK_take (i := 19) (v := ?_) rfl (by kernel_rfl) (by kernel_rfl) (by kernel_rfl) (by kernel_rfl) (fun _ _ _ h => h) (Or.inl ⟨by rfl, ?_⟩) hH ?_
                    case refine_2 => intro w hSw; have kw : Blk w g 48 (nodeC (.slice Al d.log.length ec) V M X d) := hSw; have n2 : w.cell? ⟨_, 2, none⟩ = some (.int .u64 (d.base : Int)) := Blk.cell kw 2; clear kw hSw; go_simp; try with_reducible rfl
                    try simp only [Z1, Z2, Z3, Z4, Z5, Z6, Z7]
                    refine wpAnyK_takeY (i := 20) (v := ?_) rfl (by kernel_rfl) (by kernel_rfl) (by kernel_rfl) (by kernel_rfl) (fun _ _ _ h => h) (Or.inl ⟨by rfl, ?_⟩) hH ?_
                    case refine_2 => intro w; go_simp; try with_reducible rfl
                    try simp only [Z1, Z2, Z3, Z4, Z5, Z6, Z7]
                    refine wpAnyK_takeY (i := 21) (v := ?_) rfl (by kernel_rfl) (by kernel_rfl) (by kernel_rfl) (by kernel_rfl) (fun _ _ _ h => h) (Or.inl ⟨by rfl, ?_⟩) hH ?_
                    case refine_2 => intro w; go_simp; try with_reducible rfl
                    try simp only [Z1, Z2, Z3, Z4, Z5, Z6, Z7]
                    refine wpAnyK_takeY (i := 22) (v := ?_) rfl (by kernel_rfl) (by kernel_rfl) (by kernel_rfl) (by kernel_rfl) (fun _ _ _ h => h) (Or.inl ⟨by rfl, ?_⟩) hH ?_
                    case refine_2 => intro w; go_simp; try with_reducible rfl
                    try simp only [Z1, Z2, Z3, Z4, Z5, Z6, Z7]
                    refine wpAnyK_takeY (i := 23) (v := ?_) rfl (by kernel_rfl) (by kernel_rfl) (by kernel_rfl) (by kernel_rfl) (fun _ _ _ h => h) (Or.inl ⟨by rfl, ?_⟩) hH ?_
                    case refine_2 => intro w; go_simp; try with_reducible rfl
                    try simp only [Z1, Z2, Z3, Z4, Z5, Z6, Z7]
                    refine wpAnyK_takeY (i := 24) (v := ?_) rfl (by kernel_rfl) (by kernel_rfl) (by kernel_rfl) (by kernel_rfl) (fun _ _ _ h => h) (Or.inl ⟨by rfl, ?_⟩) hH ?_
                    case refine_2 => intro w; go_simp; try with_reducible rfl
                    try simp only [Z1, Z2, Z3, Z4, Z5, Z6, Z7]
                    refine wpAnyK_takeY (i := 25) (v := ?_) rfl (by kernel_rfl) (by kernel_rfl) (by kernel_rfl) (by kernel_rfl) (fun _ _ _ h => h) (Or.inl ⟨by rfl, ?_⟩) hH ?_
                    case refine_2 => intro w; go_simp; try with_reducible rfl
                    try simp only [Z1, Z2, Z3, Z4, Z5, Z6, Z7]
                    refine wpAnyK_ready (rs := [26]) (by kernel_rfl) (by simp) ?_
                    refine AllReadyK.cons rfl (by kernel_rfl) (fun K hK => ?_) AllReadyK.nil
                    go_simp
                    refine (twins_any R2 D (cR - k) T0 wc.drew (hR8.below ((Below.refl _ _).drew))).mono ?_
                    rintro en wt ⟨A9, c9, rfl, o9, b9⟩
                    have k9 := kS.below b9 kS.lt
                    have b89 : Below wc.heap.size wc wt := below_step ((Below.refl _ _).drew) b9
                    have N9 := N8.wide b89
                    refine hK.out _ _ k9 ?_
                    clear hK K
                    try dsimp only
                    try simp only [Z1, Z2, Z3, Z4, Z5, Z6, Z7]
                    refine wpAnyK_ready (rs := [27]) (by kernel_rfl) (by simp) ?_
                    refine AllReadyK.cons rfl (by kernel_rfl) (fun K hK => ?_) AllReadyK.nil
                    refine step_cut wt rfl (.tmp 155) (.tmp 159) rfl Al ec d.log hh (fun b => S b ∨ (wc.heap.size ≤ b ∧ b < wt.heap.size)) (fun b => wc.heap.size ≤ b) rfl N9.log hhl2 A9 D c9 wc.heap.size rfl o9.ent HD0.out hhD ?_
                    intro A10 c10 xs10 w10 H10 o10 b10
                    have k10 := k9.below b10 k9.lt
                    have N10 := N9.newE b10 o10 (fun b h => h.elim id (fun h => .inr h))
                    have f10 : w10.frozen? ⟨g, 4, none⟩ = false := k10.frozen 4
                    have lO := Own.lt o10
                    refine hK.out _ _ k10 ?_
                    clear hK K
                    try dsimp only
                    try simp only [Z1, Z2, Z3, Z4, Z5, Z6, Z7]
                    refine wpAnyK_takeY (i := 28) (v := ?_) rfl (by kernel_rfl) (by kernel_rfl) (by kernel_rfl) (by kernel_rfl) (fun _ _ _ h => h) (Or.inl ⟨by rfl, ?_⟩) k10 ?_
                    case refine_2 => intro w; go_simp; try with_reducible rfl
                    try simp only [Z1, Z2, Z3, Z4, Z5, Z6, Z7]
                    refine wpAnyK_takeY (i := 29) (v := ?_) rfl (by kernel_rfl) (by kernel_rfl) (by kernel_rfl) (by kernel_rfl) (fun _ _ _ h => h) (Or.inl ⟨by rfl, ?_⟩) k10 ?_
                    case refine_2 => intro w; go_simp; try with_reducible rfl
                    try simp only [Z1, Z2, Z3, Z4, Z5, Z6, Z7]
                    refine wpAnyK_takeY (i := 30) (v := ?_) rfl (by kernel_rfl) (by kernel_rfl) (by kernel_rfl) (by kernel_rfl) (fun _ _ _ h => h) (Or.inl ⟨by rfl, ?_⟩) k10 ?_
                    case refine_2 => intro w; go_simp; try with_reducible rfl
                    try simp only [Z1, Z2, Z3, Z4, Z5, Z6, Z7]
                    refine wpAnyK_ready (rs := [31]) (by kernel_rfl) (by simp) ?_
                    refine AllReadyK.turn rfl (fun K hK => ?_) AllReadyK.nil
                    have y10 : w10.cell? ⟨g, 4, none⟩ = some (.slice Al d.log.length ec) := k10.cell 4
                    go_simp
                    refine hK.out _ _ ?_
                    clear hK K hH
                    try simp only [Z1, Z2, Z3, Z4, Z5, Z6, Z7]
                    refine wpAny_done (by kernel_rfl) ?_ _
                    refine NoPanic.normal ?_
                    have B10 : BlP F w (w10.setCell ⟨g, 4, none⟩ (.slice A10 xs10.length c10)) := (BlP.of_below (below_step (below_step (below_step b4 b8) b89) b10)).setCell (fun h => (HF.out g h).1 rfl) _
                    have km10 := ((((km4.below b8 km4.lt).below b89 (km4.below b8 km4.lt).lt)).below b10 ((km4.below b8 km4.lt).below b89 (km4.below b8 km4.lt).lt).lt).far (p := ⟨g, 4, none⟩) (by show mb ≠ g; omega) (.slice A10 xs10.length c10)
                    have HF10 : Hid (∀ b, F b ∧ b < w.heap.size → Foreign g (fun b => (fun b => S b ∨ (wc.heap.size ≤ b ∧ b < wt.heap.size)) b ∨ (wc.heap.size ≤ b ∧ b < wt.heap.size)) (.slice A10 xs10.length c10) V M X b) := fun b h => by
                      obtain ⟨f1, f2, f3, f4, f5, f6⟩ := HF.out b h.1
                      have zc := (below_step b4 b8).size
                      have zt := b89.size
                      have h2 := h.2
                      refine ⟨f1, fun hs => ?_, fun e => ?_, f4, f5, f6⟩
                      · rcases hs with (hs | hs) | hs
                        · exact f2 hs
                        · omega
                        · omega
                      · have := (lO b e).1
                        omega
                    have hb10 : GB { d with log := xs10 } := ⟨hb.base, hb.bt, by show xs10.length ≤ _; rw [H10.out, List.length_append, List.length_take]; omega, hb.term, hb.commit⟩
                    have HE10 : Hid (appendP d m = endP { d with log := xs10 } m) := by show _ = _; rw [HE.out, H10.out]
                    clear y10 f10 lO HE k9 k10 N9 N8 o9 o10 b9 b10 hs1 hw1 hw2 hhc hh0 hrun hR8 hR2 HD1 hb HF
                    generalize (w10.setCell ⟨g, 4, none⟩ (.slice A10 xs10.length c10)) = w11 at *
                    generalize hSX : (fun b => (fun b => S b ∨ (wc.heap.size ≤ b ∧ b < wt.heap.size)) b ∨ (wc.heap.size ≤ b ∧ b < wt.heap.size)) = SX at *
                    clear hSX
                    as_aux_lemma =>
                      obtain ⟨d1, hd1⟩ : ∃ d1 : LNode, d1 = { d with log := xs10 } := ⟨_, rfl⟩
                      have HEZ : Hid (appendP d m = endP d1 m) := by show _ = _; rw [HE10.out, hd1]
                      have hbz : GB d1 := by rw [hd1]; exact hb10
                      have NZ := N10
                      rw [← hd1] at NZ
                      clear hd1 HE10
                      go_upto_region 23 with fail
                      have n10 : w11.cell? ⟨g, 10, none⟩ = some (.int .u64 (d1.commit : Int)) := NZ.blk.cell 10
                      have s6 : w11.cell? ⟨mb, 6, none⟩ = some (.int .u64 (m.commit : Int)) := km10.cell 6
                      have f10 : w11.frozen? ⟨g, 10, none⟩ = false := NZ.blk.frozen 10
                      go_cut [165] (fun v165 wx => v165 = .pointer (some ⟨g, 0, none⟩) ∧ w11.grownBy wx (some g) ∧ NodeAt wx g SX (.slice A10 xs10.length c10) V M X { d1 with commit := max d1.commit (min m.commit (m.index + m.ents.length)) })
                      case first =>
                        by_cases h1 : (m.index : Int) + (m.ents.length : Int) < (m.commit : Int)
                        · by_cases h2 : (d1.commit : Int) < (m.index : Int) + (m.ents.length : Int)
                          · have hv : (m.index : Int) + (m.ents.length : Int) = ((max d1.commit (min m.commit (m.index + m.ents.length)) : Nat) : Int) := by omega
                            have HV := Lib.hid hv
                            clear hv
                            go_still_tail 12, (by kernel_rfl)
                            have n10' : w11.drew.cell? ⟨g, 10, none⟩ = some (.int .u64 (d1.commit : Int)) := n10
                            have f10' : w11.drew.frozen? ⟨g, 10, none⟩ = false := f10
                            have gz : w11.grownBy (w11.drew.setCell ⟨g, 10, none⟩ (.int .u64 ((m.index : Int) + (m.ents.length : Int)))) (some g) := only_setCell (only_drew (only_of_below (Below.refl _ _) (some g))) (.inl rfl) _
                            have NY : NodeAt (w11.drew.setCell ⟨g, 10, none⟩ (.int .u64 ((m.index : Int) + (m.ents.length : Int)))) g SX (.slice A10 xs10.length c10) V M X { d1 with commit := max d1.commit (min m.commit (m.index + m.ents.length)) } := NZ.turn gz (by have h := NZ.blk.drew.set_ 10 (.int .u64 ((m.index : Int) + (m.ents.length : Int))); rw [HV.out] at h ⊢; exact h) ⟨rfl, rfl, rfl, rfl⟩
                            change wpList _ _ _ _ _ w11.drew
                            clear n10 f10 s6 NZ
                            generalize w11.drew = wq at *
                            go_wp2_with fail
                            go_meet
                            case rel => exact ⟨rfl, gz, NY⟩
                          · have hv : (d1.commit : Int) = ((max d1.commit (min m.commit (m.index + m.ents.length)) : Nat) : Int) := by omega
                            have HV := Lib.hid hv
                            clear hv
                            go_still_tail 12, (by kernel_rfl)
                            have n10' : w11.drew.cell? ⟨g, 10, none⟩ = some (.int .u64 (d1.commit : Int)) := n10
                            have f10' : w11.drew.frozen? ⟨g, 10, none⟩ = false := f10
                            have gz : w11.grownBy (w11.drew.setCell ⟨g, 10, none⟩ (.int .u64 ((d1.commit : Int)))) (some g) := only_setCell (only_drew (only_of_below (Below.refl _ _) (some g))) (.inl rfl) _
                            have NY : NodeAt (w11.drew.setCell ⟨g, 10, none⟩ (.int .u64 ((d1.commit : Int)))) g SX (.slice A10 xs10.length c10) V M X { d1 with commit := max d1.commit (min m.commit (m.index + m.ents.length)) } := NZ.turn gz (by have h := NZ.blk.drew.set_ 10 (.int .u64 ((d1.commit : Int))); rw [HV.out] at h ⊢; exact h) ⟨rfl, rfl, rfl, rfl⟩
                            change wpList _ _ _ _ _ w11.drew
                            clear n10 f10 s6 NZ
                            generalize w11.drew = wq at *
                            go_wp2_with fail
                            go_meet
                            case rel => exact ⟨rfl, gz, NY⟩
                        · by_cases h2 : (d1.commit : Int) < (m.commit : Int)
                          · have hv : (m.commit : Int) = ((max d1.commit (min m.commit (m.index + m.ents.length)) : Nat) : Int) := by omega
                            have HV := Lib.hid hv
                            clear hv
                            go_still_tail 12, (by kernel_rfl)
                            have n10' : w11.drew.cell? ⟨g, 10, none⟩ = some (.int .u64 (d1.commit : Int)) := n10
                            have f10' : w11.drew.frozen? ⟨g, 10, none⟩ = false := f10
                            have gz : w11.grownBy (w11.drew.setCell ⟨g, 10, none⟩ (.int .u64 ((m.commit : Int)))) (some g) := only_setCell (only_drew (only_of_below (Below.refl _ _) (some g))) (.inl rfl) _
                            have NY : NodeAt (w11.drew.setCell ⟨g, 10, none⟩ (.int .u64 ((m.commit : Int)))) g SX (.slice A10 xs10.length c10) V M X { d1 with commit := max d1.commit (min m.commit (m.index + m.ents.length)) } := NZ.turn gz (by have h := NZ.blk.drew.set_ 10 (.int .u64 ((m.commit : Int))); rw [HV.out] at h ⊢; exact h) ⟨rfl, rfl, rfl, rfl⟩
                            change wpList _ _ _ _ _ w11.drew
                            clear n10 f10 s6 NZ
                            generalize w11.drew = wq at *
                            go_wp2_with fail
                            go_meet
                            case rel => exact ⟨rfl, gz, NY⟩
                          · have hv : (d1.commit : Int) = ((max d1.commit (min m.commit (m.index + m.ents.length)) : Nat) : Int) := by omega
                            have HV := Lib.hid hv
                            clear hv
                            go_still_tail 12, (by kernel_rfl)
                            have n10' : w11.drew.cell? ⟨g, 10, none⟩ = some (.int .u64 (d1.commit : Int)) := n10
                            have f10' : w11.drew.frozen? ⟨g, 10, none⟩ = false := f10
                            have gz : w11.grownBy (w11.drew.setCell ⟨g, 10, none⟩ (.int .u64 ((d1.commit : Int)))) (some g) := only_setCell (only_drew (only_of_below (Below.refl _ _) (some g))) (.inl rfl) _
                            have NY : NodeAt (w11.drew.setCell ⟨g, 10, none⟩ (.int .u64 ((d1.commit : Int)))) g SX (.slice A10 xs10.length c10) V M X { d1 with commit := max d1.commit (min m.commit (m.index + m.ents.length)) } := NZ.turn gz (by have h := NZ.blk.drew.set_ 10 (.int .u64 ((d1.commit : Int))); rw [HV.out] at h ⊢; exact h) ⟨rfl, rfl, rfl, rfl⟩
                            change wpList _ _ _ _ _ w11.drew
                            clear n10 f10 s6 NZ
                            generalize w11.drew = wq at *
                            go_wp2_with fail
                            go_meet
                            case rel => exact ⟨rfl, gz, NY⟩
                      case rest =>
                        obtain ⟨rfl, gz, NY⟩ := hcut
                        obtain ⟨d2, hd2⟩ : ∃ d2 : LNode, d2 = { d1 with commit := max d1.commit (min m.commit (m.index + m.ents.length)) } := ⟨_, rfl⟩
                        rw [← hd2] at NY
                        have HEE : Hid (appendP d m = (d2, answerP d2 m { kind := 6, term := d2.term, ok := true, index := m.index + m.ents.length })) := by show _ = _; rw [HEZ.out, hd2]; rfl
                        have ht2 : d2.term ≤ 18446744073709551615 := by have := hbz.term; rw [hd2]; show d1.term ≤ _; omega
                        have BY : BlP (fun b => F b ∧ b < w.heap.size) w wc := by
                          have BF : BlP (fun b => F b ∧ b < w.heap.size) w w11 := ⟨B10.os, B10.tape, B10.output, B10.size, fun b h1 h2 => B10.block b h1 h2.1⟩
                          exact BF.grown gz (fun b e h => by have h1 := Option.some.inj e; have := h.2; exact (HF10.out b h).1 h1.symm)
                        have kmY := km10.grown gz (fun e => by have := Option.some.inj e; omega)
                        have HFY := HF10
                        clear hd2 HEZ n10 s6 f10 NZ gz N10 B10 km10
                        go_upto_region 24 with fail
                        refine wp_region_noPanic ?_
                        have kS : Blk wc.drew g 48 (nodeC (.slice A10 xs10.length c10) V M X d2) ∧ Blk wc.drew mb 58 #[.int .i64 m.kind, .int .i64 m.frm, .int .i64 m.dst, .int .u64 (m.term : Int), .int .u64 (m.index : Int), .int .u64 (m.logTerm : Int), .int .u64 (m.commit : Int), .slice A m.ents.length c, .bool m.ok, .slice none 0 0] := ⟨NY.blk.drew, kmY.drew⟩
                        refine wp_region_held_drew (S := fun Y => Blk Y g 48 (nodeC (.slice A10 xs10.length c10) V M X d2) ∧ Blk Y mb 58 #[.int .i64 m.kind, .int .i64 m.frm, .int .i64 m.dst, .int .u64 (m.term : Int), .int .u64 (m.index : Int), .int .u64 (m.logTerm : Int), .int .u64 (m.commit : Int), .slice A m.ents.length c, .bool m.ok, .slice none 0 0]) (by kernel_rfl) kS (fun hH => ?_)
                        refine wpAnyH_take (i := 0) (v := ?_) rfl (by kernel_rfl) (by kernel_rfl) (by kernel_rfl) (fun _ _ _ h => h) (Or.inl ⟨by rfl, ?_⟩) hH ?_
                        case refine_2 => intro w hSw; go_simp; try with_reducible rfl
                        try simp only [Z1, Z2, Z4, Z5, Z6, Z7]
                        refine wpAnyH_take (i := 1) (v := ?_) rfl (by kernel_rfl) (by kernel_rfl) (by kernel_rfl) (fun _ _ _ h => h) (Or.inl ⟨by rfl, ?_⟩) hH ?_
                        case refine_2 => intro w hSw; obtain ⟨kw, kb⟩ := hSw; replace kw : Blk w g 48 (nodeC (.slice A10 xs10.length c10) V M X d2) := kw; replace kb : Blk w mb 58 #[.int .i64 m.kind, .int .i64 m.frm, .int .i64 m.dst, .int .u64 (m.term : Int), .int .u64 (m.index : Int), .int .u64 (m.logTerm : Int), .int .u64 (m.commit : Int), .slice A m.ents.length c, .bool m.ok, .slice none 0 0] := kb; have s0 : w.cell? ⟨_, 0, none⟩ = some (.int .i64 m.kind) := Blk.cell kb 0; have s1 : w.cell? ⟨_, 1, none⟩ = some (.int .i64 m.frm) := Blk.cell kb 1; have s2 : w.cell? ⟨_, 2, none⟩ = some (.int .i64 m.dst) := Blk.cell kb 2; have s3 : w.cell? ⟨_, 3, none⟩ = some (.int .u64 (m.term : Int)) := Blk.cell kb 3; have s4 : w.cell? ⟨_, 4, none⟩ = some (.int .u64 (m.index : Int)) := Blk.cell kb 4; have s5 : w.cell? ⟨_, 5, none⟩ = some (.int .u64 (m.logTerm : Int)) := Blk.cell kb 5; have s6 : w.cell? ⟨_, 6, none⟩ = some (.int .u64 (m.commit : Int)) := Blk.cell kb 6; have s7 : w.cell? ⟨_, 7, none⟩ = some (.slice A m.ents.length c) := Blk.cell kb 7; have s8 : w.cell? ⟨_, 8, none⟩ = some (.bool m.ok) := Blk.cell kb 8; have s9 : w.cell? ⟨_, 9, none⟩ = some (.slice none 0 0) := Blk.cell kb 9; clear kw kb; go_simp; try with_reducible rfl
                        try simp only [Z1, Z2, Z3, Z4, Z5, Z6, Z7]
                        refine wpAnyH_take (i := 2) (v := ?_) rfl (by kernel_rfl) (by kernel_rfl) (by kernel_rfl) (fun _ _ _ h => h) (Or.inl ⟨by rfl, ?_⟩) hH ?_
                        case refine_2 => intro w hSw; go_simp; try with_reducible rfl
                        try simp only [Z1, Z2, Z3, Z4, Z5, Z6, Z7]
                        refine wpAnyH_take (i := 3) (v := ?_) rfl (by kernel_rfl) (by kernel_rfl) (by kernel_rfl) (fun _ _ _ h => h) (Or.inl ⟨by rfl, ?_⟩) hH ?_
                        case refine_2 => intro w hSw; go_simp; try with_reducible rfl
                        try simp only [Z1, Z2, Z3, Z4, Z5, Z6, Z7]
                        refine wpAnyH_take (i := 4) (v := ?_) rfl (by kernel_rfl) (by kernel_rfl) (by kernel_rfl) (fun _ _ _ h => h) (Or.inl ⟨by rfl, ?_⟩) hH ?_
                        case refine_2 => intro w hSw; go_simp; try with_reducible rfl
                        try simp only [Z1, Z2, Z3, Z4, Z5, Z6, Z7]
                        refine wpAnyH_take (i := 5) (v := ?_) rfl (by kernel_rfl) (by kernel_rfl) (by kernel_rfl) (fun _ _ _ h => h) (Or.inl ⟨by rfl, ?_⟩) hH ?_
                        case refine_2 => intro w hSw; go_simp; try with_reducible rfl
                        try simp only [Z1, Z2, Z3, Z4, Z5, Z6, Z7]
                        refine wpAnyH_take (i := 6) (v := ?_) rfl (by kernel_rfl) (by kernel_rfl) (by kernel_rfl) (fun _ _ _ h => h) (Or.inl ⟨by rfl, ?_⟩) hH ?_
                        case refine_2 => intro w hSw; go_simp; try with_reducible rfl
                        try simp only [Z1, Z2, Z3, Z4, Z5, Z6, Z7]
                        refine wpAnyH_take (i := 7) (v := ?_) rfl (by kernel_rfl) (by kernel_rfl) (by kernel_rfl) (fun _ _ _ h => h) (Or.inl ⟨by rfl, ?_⟩) hH ?_
                        case refine_2 => intro w hSw; obtain ⟨kw, kb⟩ := hSw; replace kw : Blk w g 48 (nodeC (.slice A10 xs10.length c10) V M X d2) := kw; replace kb : Blk w mb 58 #[.int .i64 m.kind, .int .i64 m.frm, .int .i64 m.dst, .int .u64 (m.term : Int), .int .u64 (m.index : Int), .int .u64 (m.logTerm : Int), .int .u64 (m.commit : Int), .slice A m.ents.length c, .bool m.ok, .slice none 0 0] := kb; have n0 : w.cell? ⟨_, 0, none⟩ = some (.int .u64 (d2.term : Int)) := Blk.cell kw 0; clear kw kb; go_simp; try with_reducible rfl
                        try simp only [Z1, Z2, Z3, Z4, Z5, Z6, Z7]
                        refine wpAnyH_take (i := 8) (v := ?_) rfl (by kernel_rfl) (by kernel_rfl) (by kernel_rfl) (fun _ _ _ h => h) (Or.inl ⟨by rfl, ?_⟩) hH ?_
                        case refine_2 => intro w hSw; go_simp; try with_reducible rfl
                        try simp only [Z1, Z2, Z3, Z4, Z5, Z6, Z7]
                        refine wpAnyH_take (i := 9) (v := ?_) rfl (by kernel_rfl) (by kernel_rfl) (by kernel_rfl) (fun _ _ _ h => h) (Or.inl ⟨by rfl, ?_⟩) hH ?_
                        case refine_2 => intro w hSw; go_simp; try with_reducible rfl
                        try simp only [Z1, Z2, Z3, Z4, Z5, Z6, Z7]
                        refine wpAnyH_ready (rs := [10]) (by kernel_rfl) (by simp) ?_
                        refine AllReadyH.cons rfl (fun K hK => ?_) AllReadyH.nil
                        go_simp
                        have TU := answer_any g (.slice A10 xs10.length c10) V M X d2 A none c 0 m { kind := 6, term := d2.term, ok := true, index := m.index + m.ents.length } (fun _ => False) wc.drew kS.1 (MsgAt.nil_ _ _ _ rfl ht2 (by show m.index + m.ents.length ≤ _; omega) (Nat.zero_le _) (Nat.zero_le _))
                        rw [show msgC A c m = #[.int .i64 m.kind, .int .i64 m.frm, .int .i64 m.dst, .int .u64 (m.term : Int), .int .u64 (m.index : Int), .int .u64 (m.logTerm : Int), .int .u64 (m.commit : Int), .slice A m.ents.length c, .bool m.ok, .slice none 0 0] from rfl] at TU
                        replace TU : Calls Try.prog 36 #[.pointer (some ⟨g, 0, none⟩), .agg #[.int .i64 m.kind, .int .i64 m.frm, .int .i64 m.dst, .int .u64 (m.term : Int), .int .u64 (m.index : Int), .int .u64 (m.logTerm : Int), .int .u64 (m.commit : Int), .slice A m.ents.length c, .bool m.ok, .slice none 0 0], .agg #[.int .i64 6, .int .i64 0, .int .i64 0, .int .u64 (d2.term : Int), .int .u64 ((m.index : Int) + (m.ents.length : Int)), .int .u64 0, .int .u64 0, .slice none 0 0, .bool true, .slice none 0 0]] wc.drew _ := TU
                        refine TU.mono ?_
                        clear TU
                        rintro en w7 ⟨gb, rfl, o7, b7⟩
                        have k7 := kS.1.below b7 kS.1.lt
                        have km7 := kS.2.below b7 kS.2.lt
                        refine hK.out _ _ ⟨k7, km7⟩ (fun hH => ?_)
                        clear hK K
                        try dsimp only
                        try simp only [Z1, Z2, Z3, Z4, Z5, Z6, Z7]
                        refine wpAnyH_take (i := 11) (v := ?_) rfl (by kernel_rfl) (by kernel_rfl) (by kernel_rfl) (fun _ _ _ h => h) (Or.inl ⟨by rfl, ?_⟩) hH ?_
                        case refine_2 => intro w hSw; go_simp; try with_reducible rfl
                        try simp only [Z1, Z2, Z3, Z4, Z5, Z6, Z7]
                        refine wpAnyH_done (by kernel_rfl) ?_ _
                        refine NoPanic.normal ?_
                        have D7 : ND w7 g (fun b => (F b ∧ b < w.heap.size) ∨ wc.heap.size ≤ b) d2 := ND.new (w := wc) ⟨_, _, _, _, _, NY, HFY.out⟩ (below_step ((Below.refl _ _).drew) b7)
                        have z7 := BY.size
                        have o7' := o7.mono (S' := fun b => wc.heap.size ≤ b) (fun b _ _ h => h.elim)
                        go_wp2_with fail
                        go_ret
                        have BZ := BY.trans (.of_below (below_step ((Below.refl _ _).drew) b7))
                        have BYW : BlP F w w7 := ⟨BZ.os, BZ.tape, BZ.output, BZ.size, fun b h1 h2 => BZ.block b h1 ⟨h2, h1⟩⟩
                        rw [HEE.out]
                        exact ⟨some ⟨gb, 0, none⟩, 1, wc.heap.size, rfl, z7, o7', D7, BYW⟩
        · obtain rfl : k = L.length := by omega
          have HE4 : Hid (appendP d m = endP d m) := by
            show _ = _
            rw [HA.out, HX.out, List.drop_length]
            rfl
          have Nr := N4.below br
          have Br : BlP F w wr := .of_below (below_step b4 br)
          have kmr := km4.below br km4.lt
          have HFr : Hid (∀ b, F b ∧ b < w.heap.size → Foreign g S E V M X b) := fun b h => HF.out b h.1
          clear HX HA N4 b4 km4 br hR HF
          as_aux_lemma =>
            obtain ⟨d1, hd1⟩ : ∃ d1 : LNode, d1 = d := ⟨_, rfl⟩
            have HEZ : Hid (appendP d m = endP d1 m) := by show _ = _; rw [HE4.out, hd1]
            have hbz : GB d1 := by rw [hd1]; exact hb
            have NZ := Nr
            rw [← hd1] at NZ
            clear hd1 HE4
            go_upto_region 23 with fail
            have n10 : wr.cell? ⟨g, 10, none⟩ = some (.int .u64 (d1.commit : Int)) := NZ.blk.cell 10
            have s6 : wr.cell? ⟨mb, 6, none⟩ = some (.int .u64 (m.commit : Int)) := kmr.cell 6
            have f10 : wr.frozen? ⟨g, 10, none⟩ = false := NZ.blk.frozen 10
            go_cut [165] (fun v165 wx => v165 = .pointer (some ⟨g, 0, none⟩) ∧ wr.grownBy wx (some g) ∧ NodeAt wx g S E V M X { d1 with commit := max d1.commit (min m.commit (m.index + m.ents.length)) })
            case first =>
              by_cases h1 : (m.index : Int) + (m.ents.length : Int) < (m.commit : Int)
              · by_cases h2 : (d1.commit : Int) < (m.index : Int) + (m.ents.length : Int)
                · have hv : (m.index : Int) + (m.ents.length : Int) = ((max d1.commit (min m.commit (m.index + m.ents.length)) : Nat) : Int) := by omega
                  have HV := Lib.hid hv
                  clear hv
                  go_still_tail 12, (by kernel_rfl)
                  have n10' : wr.drew.cell? ⟨g, 10, none⟩ = some (.int .u64 (d1.commit : Int)) := n10
                  have f10' : wr.drew.frozen? ⟨g, 10, none⟩ = false := f10
                  have gz : wr.grownBy (wr.drew.setCell ⟨g, 10, none⟩ (.int .u64 ((m.index : Int) + (m.ents.length : Int)))) (some g) := only_setCell (only_drew (only_of_below (Below.refl _ _) (some g))) (.inl rfl) _
                  have NY : NodeAt (wr.drew.setCell ⟨g, 10, none⟩ (.int .u64 ((m.index : Int) + (m.ents.length : Int)))) g S E V M X { d1 with commit := max d1.commit (min m.commit (m.index + m.ents.length)) } := NZ.turn gz (by have h := NZ.blk.drew.set_ 10 (.int .u64 ((m.index : Int) + (m.ents.length : Int))); rw [HV.out] at h ⊢; exact h) ⟨rfl, rfl, rfl, rfl⟩
                  change wpList _ _ _ _ _ wr.drew
                  clear n10 f10 s6 NZ
                  generalize wr.drew = wq at *
                  go_wp2_with fail
                  go_meet
                  case rel => exact ⟨rfl, gz, NY⟩
                · have hv : (d1.commit : Int) = ((max d1.commit (min m.commit (m.index + m.ents.length)) : Nat) : Int) := by omega
                  have HV := Lib.hid hv
                  clear hv
                  go_still_tail 12, (by kernel_rfl)
                  have n10' : wr.drew.cell? ⟨g, 10, none⟩ = some (.int .u64 (d1.commit : Int)) := n10
                  have f10' : wr.drew.frozen? ⟨g, 10, none⟩ = false := f10
                  have gz : wr.grownBy (wr.drew.setCell ⟨g, 10, none⟩ (.int .u64 ((d1.commit : Int)))) (some g) := only_setCell (only_drew (only_of_below (Below.refl _ _) (some g))) (.inl rfl) _
                  have NY : NodeAt (wr.drew.setCell ⟨g, 10, none⟩ (.int .u64 ((d1.commit : Int)))) g S E V M X { d1 with commit := max d1.commit (min m.commit (m.index + m.ents.length)) } := NZ.turn gz (by have h := NZ.blk.drew.set_ 10 (.int .u64 ((d1.commit : Int))); rw [HV.out] at h ⊢; exact h) ⟨rfl, rfl, rfl, rfl⟩
                  change wpList _ _ _ _ _ wr.drew
                  clear n10 f10 s6 NZ
                  generalize wr.drew = wq at *
                  go_wp2_with fail
                  go_meet
                  case rel => exact ⟨rfl, gz, NY⟩
              · by_cases h2 : (d1.commit : Int) < (m.commit : Int)
                · have hv : (m.commit : Int) = ((max d1.commit (min m.commit (m.index + m.ents.length)) : Nat) : Int) := by omega
                  have HV := Lib.hid hv
                  clear hv
                  go_still_tail 12, (by kernel_rfl)
                  have n10' : wr.drew.cell? ⟨g, 10, none⟩ = some (.int .u64 (d1.commit : Int)) := n10
                  have f10' : wr.drew.frozen? ⟨g, 10, none⟩ = false := f10
                  have gz : wr.grownBy (wr.drew.setCell ⟨g, 10, none⟩ (.int .u64 ((m.commit : Int)))) (some g) := only_setCell (only_drew (only_of_below (Below.refl _ _) (some g))) (.inl rfl) _
                  have NY : NodeAt (wr.drew.setCell ⟨g, 10, none⟩ (.int .u64 ((m.commit : Int)))) g S E V M X { d1 with commit := max d1.commit (min m.commit (m.index + m.ents.length)) } := NZ.turn gz (by have h := NZ.blk.drew.set_ 10 (.int .u64 ((m.commit : Int))); rw [HV.out] at h ⊢; exact h) ⟨rfl, rfl, rfl, rfl⟩
                  change wpList _ _ _ _ _ wr.drew
                  clear n10 f10 s6 NZ
                  generalize wr.drew = wq at *
                  go_wp2_with fail
                  go_meet
                  case rel => exact ⟨rfl, gz, NY⟩
                · have hv : (d1.commit : Int) = ((max d1.commit (min m.commit (m.index + m.ents.length)) : Nat) : Int) := by omega
                  have HV := Lib.hid hv
                  clear hv
                  go_still_tail 12, (by kernel_rfl)
                  have n10' : wr.drew.cell? ⟨g, 10, none⟩ = some (.int .u64 (d1.commit : Int)) := n10
                  have f10' : wr.drew.frozen? ⟨g, 10, none⟩ = false := f10
                  have gz : wr.grownBy (wr.drew.setCell ⟨g, 10, none⟩ (.int .u64 ((d1.commit : Int)))) (some g) := only_setCell (only_drew (only_of_below (Below.refl _ _) (some g))) (.inl rfl) _
                  have NY : NodeAt (wr.drew.setCell ⟨g, 10, none⟩ (.int .u64 ((d1.commit : Int)))) g S E V M X { d1 with commit := max d1.commit (min m.commit (m.index + m.ents.length)) } := NZ.turn gz (by have h := NZ.blk.drew.set_ 10 (.int .u64 ((d1.commit : Int))); rw [HV.out] at h ⊢; exact h) ⟨rfl, rfl, rfl, rfl⟩
                  change wpList _ _ _ _ _ wr.drew
                  clear n10 f10 s6 NZ
                  generalize wr.drew = wq at *
                  go_wp2_with fail
                  go_meet
                  case rel => exact ⟨rfl, gz, NY⟩
            case rest =>
              obtain ⟨rfl, gz, NY⟩ := hcut
              obtain ⟨d2, hd2⟩ : ∃ d2 : LNode, d2 = { d1 with commit := max d1.commit (min m.commit (m.index + m.ents.length)) } := ⟨_, rfl⟩
              rw [← hd2] at NY
              have HEE : Hid (appendP d m = (d2, answerP d2 m { kind := 6, term := d2.term, ok := true, index := m.index + m.ents.length })) := by show _ = _; rw [HEZ.out, hd2]; rfl
              have ht2 : d2.term ≤ 18446744073709551615 := by have := hbz.term; rw [hd2]; show d1.term ≤ _; omega
              have BY : BlP (fun b => F b ∧ b < w.heap.size) w wc := by
                have BF : BlP (fun b => F b ∧ b < w.heap.size) w wr := ⟨Br.os, Br.tape, Br.output, Br.size, fun b h1 h2 => Br.block b h1 h2.1⟩
                exact BF.grown gz (fun b e h => by have h1 := Option.some.inj e; have := h.2; exact (HFr.out b h).1 h1.symm)
              have kmY := kmr.grown gz (fun e => by have := Option.some.inj e; omega)
              have HFY := HFr
              clear hd2 HEZ n10 s6 f10 NZ gz Nr Br kmr
              go_upto_region 24 with fail
              refine wp_region_noPanic ?_
              have kS : Blk wc.drew g 48 (nodeC E V M X d2) ∧ Blk wc.drew mb 58 #[.int .i64 m.kind, .int .i64 m.frm, .int .i64 m.dst, .int .u64 (m.term : Int), .int .u64 (m.index : Int), .int .u64 (m.logTerm : Int), .int .u64 (m.commit : Int), .slice A m.ents.length c, .bool m.ok, .slice none 0 0] := ⟨NY.blk.drew, kmY.drew⟩
              refine wp_region_held_drew (S := fun Y => Blk Y g 48 (nodeC E V M X d2) ∧ Blk Y mb 58 #[.int .i64 m.kind, .int .i64 m.frm, .int .i64 m.dst, .int .u64 (m.term : Int), .int .u64 (m.index : Int), .int .u64 (m.logTerm : Int), .int .u64 (m.commit : Int), .slice A m.ents.length c, .bool m.ok, .slice none 0 0]) (by kernel_rfl) kS (fun hH => ?_)
              refine wpAnyH_take (i := 0) (v := ?_) rfl (by kernel_rfl) (by kernel_rfl) (by kernel_rfl) (fun _ _ _ h => h) (Or.inl ⟨by rfl, ?_⟩) hH ?_
              case refine_2 => intro w hSw; go_simp; try with_reducible rfl
              try simp only [Z1, Z2, Z4, Z5, Z6, Z7]
              refine wpAnyH_take (i := 1) (v := ?_) rfl (by kernel_rfl) (by kernel_rfl) (by kernel_rfl) (fun _ _ _ h => h) (Or.inl ⟨by rfl, ?_⟩) hH ?_
              case refine_2 => intro w hSw; obtain ⟨kw, kb⟩ := hSw; replace kw : Blk w g 48 (nodeC E V M X d2) := kw; replace kb : Blk w mb 58 #[.int .i64 m.kind, .int .i64 m.frm, .int .i64 m.dst, .int .u64 (m.term : Int), .int .u64 (m.index : Int), .int .u64 (m.logTerm : Int), .int .u64 (m.commit : Int), .slice A m.ents.length c, .bool m.ok, .slice none 0 0] := kb; have s0 : w.cell? ⟨_, 0, none⟩ = some (.int .i64 m.kind) := Blk.cell kb 0; have s1 : w.cell? ⟨_, 1, none⟩ = some (.int .i64 m.frm) := Blk.cell kb 1; have s2 : w.cell? ⟨_, 2, none⟩ = some (.int .i64 m.dst) := Blk.cell kb 2; have s3 : w.cell? ⟨_, 3, none⟩ = some (.int .u64 (m.term : Int)) := Blk.cell kb 3; have s4 : w.cell? ⟨_, 4, none⟩ = some (.int .u64 (m.index : Int)) := Blk.cell kb 4; have s5 : w.cell? ⟨_, 5, none⟩ = some (.int .u64 (m.logTerm : Int)) := Blk.cell kb 5; have s6 : w.cell? ⟨_, 6, none⟩ = some (.int .u64 (m.commit : Int)) := Blk.cell kb 6; have s7 : w.cell? ⟨_, 7, none⟩ = some (.slice A m.ents.length c) := Blk.cell kb 7; have s8 : w.cell? ⟨_, 8, none⟩ = some (.bool m.ok) := Blk.cell kb 8; have s9 : w.cell? ⟨_, 9, none⟩ = some (.slice none 0 0) := Blk.cell kb 9; clear kw kb; go_simp; try with_reducible rfl
              try simp only [Z1, Z2, Z3, Z4, Z5, Z6, Z7]
              refine wpAnyH_take (i := 2) (v := ?_) rfl (by kernel_rfl) (by kernel_rfl) (by kernel_rfl) (fun _ _ _ h => h) (Or.inl ⟨by rfl, ?_⟩) hH ?_
              case refine_2 => intro w hSw; go_simp; try with_reducible rfl
              try simp only [Z1, Z2, Z3, Z4, Z5, Z6, Z7]
              refine wpAnyH_take (i := 3) (v := ?_) rfl (by kernel_rfl) (by kernel_rfl) (by kernel_rfl) (fun _ _ _ h => h) (Or.inl ⟨by rfl, ?_⟩) hH ?_
              case refine_2 => intro w hSw; go_simp; try with_reducible rfl
              try simp only [Z1, Z2, Z3, Z4, Z5, Z6, Z7]
              refine wpAnyH_take (i := 4) (v := ?_) rfl (by kernel_rfl) (by kernel_rfl) (by kernel_rfl) (fun _ _ _ h => h) (Or.inl ⟨by rfl, ?_⟩) hH ?_
              case refine_2 => intro w hSw; go_simp; try with_reducible rfl
              try simp only [Z1, Z2, Z3, Z4, Z5, Z6, Z7]
              refine wpAnyH_take (i := 5) (v := ?_) rfl (by kernel_rfl) (by kernel_rfl) (by kernel_rfl) (fun _ _ _ h => h) (Or.inl ⟨by rfl, ?_⟩) hH ?_
              case refine_2 => intro w hSw; go_simp; try with_reducible rfl
              try simp only [Z1, Z2, Z3, Z4, Z5, Z6, Z7]
              refine wpAnyH_take (i := 6) (v := ?_) rfl (by kernel_rfl) (by kernel_rfl) (by kernel_rfl) (fun _ _ _ h => h) (Or.inl ⟨by rfl, ?_⟩) hH ?_
              case refine_2 => intro w hSw; go_simp; try with_reducible rfl
              try simp only [Z1, Z2, Z3, Z4, Z5, Z6, Z7]
              refine wpAnyH_take (i := 7) (v := ?_) rfl (by kernel_rfl) (by kernel_rfl) (by kernel_rfl) (fun _ _ _ h => h) (Or.inl ⟨by rfl, ?_⟩) hH ?_
              case refine_2 => intro w hSw; obtain ⟨kw, kb⟩ := hSw; replace kw : Blk w g 48 (nodeC E V M X d2) := kw; replace kb : Blk w mb 58 #[.int .i64 m.kind, .int .i64 m.frm, .int .i64 m.dst, .int .u64 (m.term : Int), .int .u64 (m.index : Int), .int .u64 (m.logTerm : Int), .int .u64 (m.commit : Int), .slice A m.ents.length c, .bool m.ok, .slice none 0 0] := kb; have n0 : w.cell? ⟨_, 0, none⟩ = some (.int .u64 (d2.term : Int)) := Blk.cell kw 0; clear kw kb; go_simp; try with_reducible rfl
              try simp only [Z1, Z2, Z3, Z4, Z5, Z6, Z7]
              refine wpAnyH_take (i := 8) (v := ?_) rfl (by kernel_rfl) (by kernel_rfl) (by kernel_rfl) (fun _ _ _ h => h) (Or.inl ⟨by rfl, ?_⟩) hH ?_
              case refine_2 => intro w hSw; go_simp; try with_reducible rfl
              try simp only [Z1, Z2, Z3, Z4, Z5, Z6, Z7]
              refine wpAnyH_take (i := 9) (v := ?_) rfl (by kernel_rfl) (by kernel_rfl) (by kernel_rfl) (fun _ _ _ h => h) (Or.inl ⟨by rfl, ?_⟩) hH ?_
              case refine_2 => intro w hSw; go_simp; try with_reducible rfl
              try simp only [Z1, Z2, Z3, Z4, Z5, Z6, Z7]
              refine wpAnyH_ready (rs := [10]) (by kernel_rfl) (by simp) ?_
              refine AllReadyH.cons rfl (fun K hK => ?_) AllReadyH.nil
              go_simp
              have TU := answer_any g E V M X d2 A none c 0 m { kind := 6, term := d2.term, ok := true, index := m.index + m.ents.length } (fun _ => False) wc.drew kS.1 (MsgAt.nil_ _ _ _ rfl ht2 (by show m.index + m.ents.length ≤ _; omega) (Nat.zero_le _) (Nat.zero_le _))
              rw [show msgC A c m = #[.int .i64 m.kind, .int .i64 m.frm, .int .i64 m.dst, .int .u64 (m.term : Int), .int .u64 (m.index : Int), .int .u64 (m.logTerm : Int), .int .u64 (m.commit : Int), .slice A m.ents.length c, .bool m.ok, .slice none 0 0] from rfl] at TU
              replace TU : Calls Try.prog 36 #[.pointer (some ⟨g, 0, none⟩), .agg #[.int .i64 m.kind, .int .i64 m.frm, .int .i64 m.dst, .int .u64 (m.term : Int), .int .u64 (m.index : Int), .int .u64 (m.logTerm : Int), .int .u64 (m.commit : Int), .slice A m.ents.length c, .bool m.ok, .slice none 0 0], .agg #[.int .i64 6, .int .i64 0, .int .i64 0, .int .u64 (d2.term : Int), .int .u64 ((m.index : Int) + (m.ents.length : Int)), .int .u64 0, .int .u64 0, .slice none 0 0, .bool true, .slice none 0 0]] wc.drew _ := TU
              refine TU.mono ?_
              clear TU
              rintro en w7 ⟨gb, rfl, o7, b7⟩
              have k7 := kS.1.below b7 kS.1.lt
              have km7 := kS.2.below b7 kS.2.lt
              refine hK.out _ _ ⟨k7, km7⟩ (fun hH => ?_)
              clear hK K
              try dsimp only
              try simp only [Z1, Z2, Z3, Z4, Z5, Z6, Z7]
              refine wpAnyH_take (i := 11) (v := ?_) rfl (by kernel_rfl) (by kernel_rfl) (by kernel_rfl) (fun _ _ _ h => h) (Or.inl ⟨by rfl, ?_⟩) hH ?_
              case refine_2 => intro w hSw; go_simp; try with_reducible rfl
              try simp only [Z1, Z2, Z3, Z4, Z5, Z6, Z7]
              refine wpAnyH_done (by kernel_rfl) ?_ _
              refine NoPanic.normal ?_
              have D7 : ND w7 g (fun b => (F b ∧ b < w.heap.size) ∨ wc.heap.size ≤ b) d2 := ND.new (w := wc) ⟨_, _, _, _, _, NY, HFY.out⟩ (below_step ((Below.refl _ _).drew) b7)
              have z7 := BY.size
              have o7' := o7.mono (S' := fun b => wc.heap.size ≤ b) (fun b _ _ h => h.elim)
              go_wp2_with fail
              go_ret
              have BZ := BY.trans (.of_below (below_step ((Below.refl _ _).drew) b7))
              have BYW : BlP F w w7 := ⟨BZ.os, BZ.tape, BZ.output, BZ.size, fun b h1 h2 => BZ.block b h1 ⟨h2, h1⟩⟩
              rw [HEE.out]
              exact ⟨some ⟨gb, 0, none⟩, 1, wc.heap.size, rfl, z7, o7', D7, BYW⟩
end Go.Proofs.Ytjpcekpllfelhaa
