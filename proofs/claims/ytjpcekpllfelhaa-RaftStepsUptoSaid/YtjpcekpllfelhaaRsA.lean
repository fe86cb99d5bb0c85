/- The closures of others: send, call$1. (Printed by wip/gen_rsa.py.) -/
import Derived.Test.YtjpcekpllfelhaaRsP
namespace Go.Proofs.Ytjpcekpllfelhaa
open Go.RowKit

theorem Try.size_Msg : (Try.prog.info? 58).map (·.size) = some 10 := by kernel_rfl
/-- bounds of a node of a group -/
structure GB (d : LNode) : Prop where
  base : d.base ≤ 4611686018427389904
  bt : d.baseTerm ≤ 18446744073709551615
  len : d.log.length ≤ 1048576
  term : d.term ≤ 4611686018427387904
  commit : d.commit ≤ 9223372036854775807
theorem GB.nb {d : LNode} (h : GB d) : NodeB d := ⟨by have := h.base; have := h.len; omega, h.bt⟩
theorem GB.len32 {d : LNode} (h : GB d) : d.log.length * 32 ≤ 140737488351232 := by have := h.len; omega
theorem GB.last {d : LNode} (h : GB d) : lastN d ≤ 4611686018428438480 := by have := h.base; have := h.len; unfold lastN; omega
section
variable {w : World} {B : Nat} {v : Value}
theorem NE.own_at {xs : List Nat} (h : Own NE 28 w B Nil v xs) {i : Nat} (hi : i < xs.length) :
    ∃ g c, v = .slice (some ⟨g, 0, none⟩) xs.length c ∧ w.cell? ⟨g, i, none⟩ = some (.int .u64 ((xs.getD i 0 : Nat) : Int)) ∧ xs.getD i 0 ≤ 18446744073709551615 ∧ w.frozen? ⟨g, i, none⟩ = false ∧ g < w.heap.size := by
  obtain ⟨A, c, rfl⟩ := h.shape
  obtain ⟨g, rfl, h1, h2⟩ := Own.form h (by omega)
  obtain ⟨vs, ho, hf⟩ := h
  obtain ⟨u, ⟨rfl, hu⟩, hc⟩ := ER.flat_at hf hi
  have hg : xs.getD i 0 = xs[i] := by rw [List.getD_eq_getElem?_getD, List.getElem?_eq_getElem hi]; rfl
  refine ⟨g, c, rfl, ?_, by rw [hg]; exact hu, ho.frozenAt i, h2⟩
  rw [ho.cellAt i (by show i < xs.length * 1; omega), hg]
  have := hc 0 _ rfl
  simpa [NE] using this
theorem BoE.own_at {xs : List Bool} (h : Own BoE 4 w B Nil v xs) {i : Nat} (hi : i < xs.length) :
    ∃ g c, v = .slice (some ⟨g, 0, none⟩) xs.length c ∧ w.cell? ⟨g, i, none⟩ = some (.bool xs[i]) ∧ w.frozen? ⟨g, i, none⟩ = false ∧ g < w.heap.size := by
  obtain ⟨A, c, rfl⟩ := h.shape
  obtain ⟨g, rfl, h1, h2⟩ := Own.form h (by omega)
  obtain ⟨vs, ho, hf⟩ := h
  obtain ⟨u, hu, hc⟩ := ER.flat_at hf hi
  have hu : u = _ := hu
  subst hu
  refine ⟨g, c, rfl, ?_, ho.frozenAt i, h2⟩
  rw [ho.cellAt i (by show i < xs.length * 1; omega)]
  have := hc 0 _ rfl
  simpa [BoE] using this
end
/-- a message answered, its entries new -/
def RetMsg (m : LMsg) (w : World) (en : Ending) (w' : World) : Prop :=
  ∃ A c, en = .returned (.agg (msgC A c m)) ∧ MsgAt w' (fun b => w.heap.size ≤ b) A c m ∧ Below w.heap.size w w'
theorem MsgAt.nil_ (w : World) (S : Nat → Prop) (m : LMsg) (h : m.ents = []) (h1 : m.term ≤ 18446744073709551615) (h2 : m.index ≤ 18446744073709551615) (h3 : m.logTerm ≤ 18446744073709551615) (h4 : m.commit ≤ 18446744073709551615) : MsgAt w S none 0 m :=
  ⟨by rw [h]; exact SlS.nil_ _ _ _ _, by rw [h]; exact ⟨Nat.le_refl _, by decide⟩, h1, h2, h3, h4⟩
set_option maxRecDepth 100000 in
set_option maxHeartbeats 4000000 in
theorem send_any (g : Nat) (A : Option Addr) (ec : Nat) (V M X : Value) (S : Nat → Prop) (d : LNode) (i : Nat) (w : World) (hN : NodeAt w g S (.slice A d.log.length ec) V M X d) (hb : GB d) (hi : i < d.next.length) :
    Calls Try.prog 29 #[.pointer (some ⟨g, 0, none⟩), .int .i64 (i : Int)] w (RetMsg (sendP d i) w) := by
  obtain ⟨gx, xc, hX, hxi, hxb, _, hxl⟩ := NE.own_at hN.nxt hi
  obtain ⟨x, hx⟩ : ∃ x, x = d.next.getD i 0 := ⟨_, rfl⟩
  rw [← hx] at hxi hxb
  have HX := Lib.hid hx
  subst hX
  have c14 : w.cell? ⟨g, 14, none⟩ = some (.slice (some ⟨gx, 0, none⟩) d.next.length xc) := hN.blk.cell 14
  have c2 : w.cell? ⟨g, 2, none⟩ = some (.int .u64 (d.base : Int)) := hN.blk.cell 2
  have kR := Blk.new w 58 (msgC none 0 {})
  have dR : Below w.heap.size w (w.alloc (.cells (msgC none 0 {}) 58)) := (Below.refl _ _).alloc (Nat.le_refl _) _
  have hil : (i : Int) < (d.next.length : Int) := by omega
  have hxi2 : (w.alloc (.cells (msgC none 0 {}) 58)).cell? ⟨gx, i, none⟩ = some (.int .u64 (x : Int)) := (dR.cell (p := ⟨gx, i, none⟩) hxl).trans hxi
  have N1 := hN.below dR
  have c14 : (w.alloc (.cells (msgC none 0 {}) 58)).cell? ⟨g, 14, none⟩ = some (.slice (some ⟨gx, 0, none⟩) d.next.length xc) := N1.blk.cell 14
  have c2 : (w.alloc (.cells (msgC none 0 {}) 58)).cell? ⟨g, 2, none⟩ = some (.int .u64 (d.base : Int)) := N1.blk.cell 2
  clear hx hxi hN
  go_enter Try.func29, Try.ntmps29
  go_upto_region 1 with fail
  change Code.wp _ _ _ _ (w.alloc (.cells (msgC none 0 {}) 58))
  generalize (w.alloc (.cells (msgC none 0 {}) 58)) = w1 at *
  have lR := kR.lt
  by_cases hle : x ≤ d.base
  · have hlei : (x : Int) ≤ (d.base : Int) := by omega
    have HS : Hid (sendP d i = { kind := 7, term := d.term, index := d.base, logTerm := d.baseTerm }) := by show _ = _; unfold sendP; rw [if_pos (by rw [← HX.out]; exact hle)]
    go_upto_region 3 with fail
    clear c14 c2 hxi2
    have s0 : w1.cell? ⟨g, 0, none⟩ = some (.int .u64 (d.term : Int)) := N1.blk.cell 0
    have s2 : w1.cell? ⟨g, 2, none⟩ = some (.int .u64 (d.base : Int)) := N1.blk.cell 2
    have s3 : w1.cell? ⟨g, 3, none⟩ = some (.int .u64 (d.baseTerm : Int)) := N1.blk.cell 3
    go_still_tail 17, (by kernel_rfl)
    have d2 := dR.drew
    have k2 := kR.drew
    clear s0 s2 s3 N1 kR dR
    change wpList _ _ _ _ _ w1.drew
    generalize w1.drew = w2 at *
    go_wp2_with ((with_reducible refine wpList_store_blk rfl 58 (.tmp 4) (.tmp 39) rfl w.heap.size 58 _ (msgC none 0 { kind := 7, term := d.term, index := d.base, logTerm := d.baseTerm }) ?_ ?_ k2 Try.size_Msg ?_ ?_ ?_ ?_); rfl; rfl; rfl; rfl; (simp [msgC, Value.oneCell']); intro wz kz gz zz)
    have bz := d2.grown gz d2.size (fun j hj => by have := Option.some.inj hj; omega)
    exact bodyPost_ret (results_cell rfl rfl kz Try.underlying58 rfl Try.size_Msg) rfl (by
      rw [HS.out]
      exact ⟨none, 0, rfl, MsgAt.nil_ _ _ _ rfl (by have := hb.term; show d.term ≤ _; omega) (by have := hb.base; show d.base ≤ _; omega) hb.bt (Nat.zero_le _), bz⟩)
  · have hlei : ¬ (x : Int) ≤ (d.base : Int) := by omega
    obtain ⟨y, rfl⟩ : ∃ y, x = y + 1 := ⟨x - 1, by omega⟩
    obtain ⟨L, hL⟩ : ∃ L, L = fromR d (y + 1) := ⟨_, rfl⟩
    have HS : Hid (sendP d i = { kind := 5, term := d.term, index := y, logTerm := (termAt d y).1, commit := d.commit, ents := L.take 16 }) := by
      show _ = _; unfold sendP; rw [if_neg (by rw [← HX.out]; exact hle), ← HX.out, hL]; rfl
    have HLf := Lib.hid hL
    clear hL
    have hsl := N1.slS hb.len32
    have T := termat_any g A ec V M (.slice (some ⟨gx, 0, none⟩) d.next.length xc) Any d y w1 N1.blk hsl hb.nb (by omega)
    have hTt : (termAt d y).1 ≤ 18446744073709551615 := by
      unfold termAt
      split
      · exact Nat.zero_le _
      · split
        · exact hb.bt
        · rename_i h1 h2
          have hk : y - d.base - 1 < d.log.length := by unfold lastN at h1; omega
          obtain ⟨_, _, _, _, _, _, _, ht, _⟩ := EntE.at_ hsl hk
          show ((d.log.getD (y - d.base - 1) default).term) ≤ _
          rw [List.getD_eq_getElem?_getD, List.getElem?_eq_getElem hk]
          exact ht
    obtain ⟨q, hq⟩ : ∃ q, q = termAt d y := ⟨_, rfl⟩
    rw [← hq] at T hTt HS
    have HQ := Lib.hid hq
    clear hq
    obtain ⟨qt, qo⟩ := q
    replace hTt : qt ≤ 18446744073709551615 := hTt
    go_upto_region 4 with fail
    clear c14 c2 hxi2
    go_wp2_with fail
    refine T.mono ?_
    clear T
    rintro en w2 ⟨rfl, n2, hw2⟩
    have d2 : Below w1.heap.size w1 w2 := by rw [hw2]; exact ⟨rfl, rfl, rfl, Nat.le_refl _, fun _ _ => rfl⟩
    have N2 := N1.below d2
    have k2 := kR.below d2 kR.lt
    have b2 := below_step dR d2
    clear hw2 N1 kR d2
    have T := from_any g A ec V M (.slice (some ⟨gx, 0, none⟩) d.next.length xc) Any d (y + 1) w2 N2.blk (N2.slS hb.len32) N2.log.caps.1 hb.nb
    rw [← HLf.out] at T
    replace T : Calls Try.prog 12 #[.pointer (some ⟨g, 0, none⟩), .int .u64 ((y : Int) + 1)] w2 (RetEnts L w2) := T
    go_wp2_with fail
    refine T.mono ?_
    clear T
    rintro en w3 ⟨A3, c3, rfl, o3, b3⟩
    have N3 := N2.below b3
    have k3 := k2.below b3 k2.lt
    have b03 := below_step b2 b3
    have hLl : L.length ≤ 1048576 := by
      have h1 := hb.len
      rw [HLf.out]
      unfold fromR
      split
      · exact Nat.zero_le _
      · rw [List.length_drop]; omega
    have hsl3 : SlS EntE w3 (fun b => w.heap.size < b) A3 L := (Own.ent o3).slS rfl (by show L.length * 32 ≤ _; omega) (fun b h => Nat.lt_of_lt_of_le k2.lt h) (fun b h => Nat.lt_of_lt_of_le k2.lt h)
    have hcp := o3.caps
    clear N2 k2 b2 b3 o3 hsl
    have HCP := Lib.hid hcp
    clear hcp
    obtain ⟨kk, hkk⟩ : ∃ kk, kk = min 16 L.length := ⟨_, rfl⟩
    have s0 : w3.cell? ⟨g, 0, none⟩ = some (.int .u64 (d.term : Int)) := N3.blk.cell 0
    have s10 : w3.cell? ⟨g, 10, none⟩ = some (.int .u64 (d.commit : Int)) := N3.blk.cell 10
    have hk1 : (0 : Int) ≤ (L.length : Int) := by omega
    have hk2 : (L.length : Int) ≤ (c3 : Int) := by have := HCP.out.1; omega
    have hk3 : (16 : Int) ≤ (L.length : Int) → (16 : Int) ≤ (c3 : Int) := fun h => by omega
    have HTK : Hid ((L.take 16).length = kk) := by show _ = _; rw [List.length_take, hkk]
    have kd3 := k3.drew
    have b3d := b03.drew
    have hs3d : SlS EntE w3.drew (fun b => w.heap.size < b) A3 L := hsl3.below ((Below.refl _ _).drew)
    go_upto_region 6 with fail
    have hwy : IntKind.u64.wrap (y : Int) = (y : Int) := by simp [IntKind.wrap, IntKind.bits, IntKind.signed]; omega
    by_cases h16 : (L.length : Int) < 16
    · obtain rfl : kk = L.length := by omega
      clear hkk hk3
      go_still_tail 19, (by kernel_rfl)
      clear s0 s10 N3 k3 b03 hsl3 hwy
      change wpList _ _ _ _ _ w3.drew
      generalize w3.drew = w4 at *
      go_wp2_with ((with_reducible refine wpList_store_blk rfl 58 (.tmp 4) (.tmp 68) rfl w.heap.size 58 _ #[.int .i64 5, .int .i64 0, .int .i64 0, .int .u64 (d.term : Int), .int .u64 (y : Int), .int .u64 (qt : Int), .int .u64 (d.commit : Int), .slice A3 L.length c3, .bool false, .slice none 0 0] ?_ ?_ kd3 Try.size_Msg ?_ ?_ ?_ ?_); rfl; rfl; rfl; rfl; (simp [Value.oneCell']); intro wz kz gz zz)
      have bz := b3d.grown gz b3d.size (fun j hj => by have := Option.some.inj hj; omega)
      have hs4 := hs3d.same (.of_grown gz fun b h e => by have h1 := Option.some.inj e; have h2 : w.heap.size < b := h; omega)
      have hs5 : SlS EntE wz (fun b => w.heap.size ≤ b) A3 (L.take 16) := ((by rw [List.take_of_length_le (by omega)]; exact hs4 : SlS EntE wz _ A3 (L.take 16))).mono fun b _ h => Nat.le_of_lt h
      exact bodyPost_ret (results_cell rfl rfl kz Try.underlying58 rfl Try.size_Msg) rfl (by
        rw [HS.out]
        refine ⟨A3, c3, ?_, ⟨hs5, ?_, by have := hb.term; show d.term ≤ _; omega, by show y ≤ _; omega, hTt, by have := hb.commit; show d.commit ≤ _; omega⟩, bz⟩
        · unfold msgC
          show _ = Ending.returned (.agg #[_, _, _, _, _, _, _, .slice A3 (L.take 16).length c3, _, _])
          rw [HTK.out]
        · show (L.take 16).length ≤ c3 ∧ _
          have := HCP.out
          rw [HTK.out]
          omega)
    · obtain rfl : kk = 16 := by omega
      have hk4 := hk3 (by omega)
      clear hkk hk3
      go_still_tail 19, (by kernel_rfl)
      clear s0 s10 N3 k3 b03 hsl3 hwy
      change wpList _ _ _ _ _ w3.drew
      generalize w3.drew = w4 at *
      go_wp2_with ((with_reducible refine wpList_store_blk rfl 58 (.tmp 4) (.tmp 68) rfl w.heap.size 58 _ #[.int .i64 5, .int .i64 0, .int .i64 0, .int .u64 (d.term : Int), .int .u64 (y : Int), .int .u64 (qt : Int), .int .u64 (d.commit : Int), .slice A3 16 c3, .bool false, .slice none 0 0] ?_ ?_ kd3 Try.size_Msg ?_ ?_ ?_ ?_); rfl; rfl; rfl; rfl; (simp [Value.oneCell']); intro wz kz gz zz)
      have bz := b3d.grown gz b3d.size (fun j hj => by have := Option.some.inj hj; omega)
      have hs4 := hs3d.same (.of_grown gz fun b h e => by have h1 := Option.some.inj e; have h2 : w.heap.size < b := h; omega)
      have hs5 : SlS EntE wz (fun b => w.heap.size ≤ b) A3 (L.take 16) := (hs4.take 16 (by omega)).mono fun b _ h => Nat.le_of_lt h
      exact bodyPost_ret (results_cell rfl rfl kz Try.underlying58 rfl Try.size_Msg) rfl (by
        rw [HS.out]
        refine ⟨A3, c3, ?_, ⟨hs5, ?_, by have := hb.term; show d.term ≤ _; omega, by show y ≤ _; omega, hTt, by have := hb.commit; show d.commit ≤ _; omega⟩, bz⟩
        · unfold msgC
          show _ = Ending.returned (.agg #[_, _, _, _, _, _, _, .slice A3 (L.take 16).length c3, _, _])
          rw [HTK.out]
        · show (L.take 16).length ≤ c3 ∧ _
          have := HCP.out
          rw [HTK.out]
          omega)
end Go.Proofs.Ytjpcekpllfelhaa
