/- appended: what a leader hears of its entries. (Printed by wip/gen_rsv.py.) -/
import Derived.Test.YtjpcekpllfelhaaRsU
namespace Go.Proofs.Ytjpcekpllfelhaa
open Go.RowKit

set_option maxRecDepth 100000 in
set_option maxHeartbeats 4000000 in
theorem appended_any (g : Nat) (F : Nat → Prop) (d : LNode) (A : Option Addr) (c : Nat) (m : LMsg) (w : World) (hd : ND w g F d) (hb : GB d) (hn1 : 1 ≤ d.n) (hn5 : d.n ≤ 12) (hr : d.role = 3 → d.mat.length = d.n ∧ d.next.length = d.n) (hmx : ∀ i, d.mat.getD i 0 ≤ 9223372036854775807) (hf1 : 0 ≤ m.frm) (hf2 : m.frm < (d.n : Int)) (hmi : m.index ≤ 4611686018427387904) :
    Calls Try.prog 41 #[.pointer (some ⟨g, 0, none⟩), .agg (msgC A c m)] w (RetMs g F (appendedP d m) w) := by
  have HP : Hid (appendedP d m = if d.term < m.term then (followP d m.term (-1), []) else if d.role ≠ 3 ∨ m.term ≠ d.term then (d, []) else if m.ok then (if m.index ≤ lastN d ∧ d.mat.getD m.frm.toNat 0 < m.index then agreeP { d with mat := d.mat.set m.frm.toNat m.index, next := d.next.set m.frm.toNat (m.index + 1) } else d, []) else ({ d with next := d.next.set m.frm.toNat (max (d.mat.getD m.frm.toNat 0) (min m.index (lastN d)) + 1) }, answerP { d with next := d.next.set m.frm.toNat (max (d.mat.getD m.frm.toNat 0) (min m.index (lastN d)) + 1) } m (sendP { d with next := d.next.set m.frm.toNat (max (d.mat.getD m.frm.toNat 0) (min m.index (lastN d)) + 1) } m.frm.toNat))) := rfl
  obtain ⟨S, E, V, M, X, hN, hF⟩ := hd
  have HF := Lib.hid hF
  clear hF
  rw [show msgC A c m = #[.int .i64 m.kind, .int .i64 m.frm, .int .i64 m.dst, .int .u64 (m.term : Int), .int .u64 (m.index : Int), .int .u64 (m.logTerm : Int), .int .u64 (m.commit : Int), .slice A m.ents.length c, .bool m.ok, .slice none 0 0] from rfl]
  have km := Blk.new w 58 #[.int .i64 m.kind, .int .i64 m.frm, .int .i64 m.dst, .int .u64 (m.term : Int), .int .u64 (m.index : Int), .int .u64 (m.logTerm : Int), .int .u64 (m.commit : Int), .slice A m.ents.length c, .bool m.ok, .slice none 0 0]
  have b1 : Below w.heap.size w (w.alloc (.cells #[.int .i64 m.kind, .int .i64 m.frm, .int .i64 m.dst, .int .u64 (m.term : Int), .int .u64 (m.index : Int), .int .u64 (m.logTerm : Int), .int .u64 (m.commit : Int), .slice A m.ents.length c, .bool m.ok, .slice none 0 0] 58)) := (Below.refl _ _).alloc (Nat.le_refl _) _
  have N1 := hN.below b1
  have hgl := hN.blk.lt
  clear hN
  go_enter Try.func41, Try.ntmps41
  go_upto_region 1 with fail
  change Code.wp _ _ _ _ (w.alloc (.cells #[.int .i64 m.kind, .int .i64 m.frm, .int .i64 m.dst, .int .u64 (m.term : Int), .int .u64 (m.index : Int), .int .u64 (m.logTerm : Int), .int .u64 (m.commit : Int), .slice A m.ents.length c, .bool m.ok, .slice none 0 0] 58))
  generalize (w.alloc (.cells #[.int .i64 m.kind, .int .i64 m.frm, .int .i64 m.dst, .int .u64 (m.term : Int), .int .u64 (m.index : Int), .int .u64 (m.logTerm : Int), .int .u64 (m.commit : Int), .slice A m.ents.length c, .bool m.ok, .slice none 0 0] 58)) = w1 at *
  obtain ⟨mb, hmb⟩ : ∃ mb, mb = w.heap.size := ⟨_, rfl⟩
  rw [← hmb] at km ⊢
  have hgm : g < mb := by omega
  have HMB := Lib.hid hmb
  clear hmb
  have s3 : w1.cell? ⟨mb, 3, none⟩ = some (.int .u64 (m.term : Int)) := km.cell 3
  have n0 : w1.cell? ⟨g, 0, none⟩ = some (.int .u64 (d.term : Int)) := N1.blk.cell 0
  by_cases ht : d.term < m.term
  · have hti : (d.term : Int) < (m.term : Int) := by omega
    have HE : Hid (appendedP d m = (followP d m.term (-1), [])) := by show _ = _; rw [HP.out, if_pos ht]
    clear HP ht
    go_quiet (fail)
    go_upto_region 2 with fail
    have dq : Below w1.heap.size w1 (w1.drewN nq) := below_drewN (Below.refl _ _) nq
    have N2 := N1.below dq
    have b2 := below_step b1 dq
    have km2 := km.drewN nq
    clear N1 b1 km dq s3 n0
    generalize w1.drewN nq = w2 at *
    have s3 : w2.cell? ⟨mb, 3, none⟩ = some (.int .u64 (m.term : Int)) := km2.cell 3
    have T := follow_any g S E V M X d m.term (-1) w2 N2
    go_wp2_with fail
    refine T.mono ?_
    clear T
    rintro en w4 ⟨rfl, g4, N4⟩
    have B4 := (BlP.of_below b2).grown g4 (fun b e h => (HF.out b h).1 (Option.some.inj e).symm)
    go_wp2_with fail
    go_ret
    rw [HE.out]
    exact RetMs.nil_ (ND.all ⟨_, _, _, _, _, N4, HF.out⟩) (fun b _ h => .inl h) (fun b h => .inr h) B4
  · have hti : ¬ (d.term : Int) < (m.term : Int) := by omega
    have HP2 : Hid (appendedP d m = if d.role ≠ 3 ∨ m.term ≠ d.term then (d, []) else if m.ok then (if m.index ≤ lastN d ∧ d.mat.getD m.frm.toNat 0 < m.index then agreeP { d with mat := d.mat.set m.frm.toNat m.index, next := d.next.set m.frm.toNat (m.index + 1) } else d, []) else ({ d with next := d.next.set m.frm.toNat (max (d.mat.getD m.frm.toNat 0) (min m.index (lastN d)) + 1) }, answerP { d with next := d.next.set m.frm.toNat (max (d.mat.getD m.frm.toNat 0) (min m.index (lastN d)) + 1) } m (sendP { d with next := d.next.set m.frm.toNat (max (d.mat.getD m.frm.toNat 0) (min m.index (lastN d)) + 1) } m.frm.toNat))) := by show _ = _; rw [HP.out, if_neg ht]
    clear HP ht
    go_quiet (fail)
    go_upto_region 4 with fail
    have dq : Below w1.heap.size w1 (w1.drewN nq) := below_drewN (Below.refl _ _) nq
    have N2 := N1.below dq
    have b2 := below_step b1 dq
    have km2 := km.drewN nq
    clear N1 b1 km dq s3 n0
    generalize w1.drewN nq = w2 at *
    have s3 : w2.cell? ⟨mb, 3, none⟩ = some (.int .u64 (m.term : Int)) := km2.cell 3
    have n0 : w2.cell? ⟨g, 0, none⟩ = some (.int .u64 (d.term : Int)) := N2.blk.cell 0
    have n8 : w2.cell? ⟨g, 8, none⟩ = some (.int .i64 d.role) := N2.blk.cell 8
    have HR := Lib.hid hr
    have HMX := Lib.hid hmx
    clear hr hmx
    go_cut [34] (fun v34 wx => ∃ ok, v34 = .bool ok ∧ Hid (ok = decide (d.role ≠ 3 ∨ m.term ≠ d.term)) ∧ Below w2.heap.size w2 wx)
    case first =>
      by_cases h2 : d.role = 3
      · have h2i : (d.role != 3) = false := by rw [bne_eq_false_iff_eq]; exact h2
        by_cases h1 : m.term = d.term
        · have h1i : ((m.term : Int) != (d.term : Int)) = false := by rw [bne_eq_false_iff_eq]; omega
          have HOK : Hid (false = decide (d.role ≠ 3 ∨ m.term ≠ d.term)) := by show _ = _; rw [decide_eq_false (fun h => h.elim (fun h => h h2) (fun h => h h1))]
          clear h1 h2
          go_quiet (fail)
          go_wp2_with fail
          go_meet
          case rel => exact ⟨_, rfl, HOK, below_drewN (Below.refl _ _) _⟩
        · have h1i : ((m.term : Int) != (d.term : Int)) = true := by rw [bne_iff_ne]; omega
          have HOK : Hid (true = decide (d.role ≠ 3 ∨ m.term ≠ d.term)) := by show _ = _; rw [decide_eq_true (.inr h1)]
          clear h1 h2
          go_quiet (fail)
          go_wp2_with fail
          go_meet
          case rel => exact ⟨_, rfl, HOK, below_drewN (Below.refl _ _) _⟩
      · have h2i : (d.role != 3) = true := by rw [bne_iff_ne]; exact h2
        have HOK : Hid (true = decide (d.role ≠ 3 ∨ m.term ≠ d.term)) := by show _ = _; rw [decide_eq_true (.inl h2)]
        clear h2
        go_quiet (fail)
        go_wp2_with fail
        go_meet
        case rel => exact ⟨_, rfl, HOK, below_drewN (Below.refl _ _) _⟩
    case rest =>
      obtain ⟨bad, rfl, HOK, bc⟩ := hcut
      have N3 := N2.below bc
      have b3 := below_step b2 bc
      have km3 := km2.below bc km2.lt
      clear N2 b2 km2 bc s3 n0 n8
      cases bad with
      | true =>
        have HE : Hid (appendedP d m = (d, [])) := by show _ = _; rw [HP2.out, if_pos (of_decide_eq_true HOK.out.symm)]
        clear HP2 HOK
        go_wp2_with fail
        go_ret
        rw [HE.out]
        exact RetMs.nil_ (ND.all ⟨_, _, _, _, _, N3, HF.out⟩) (fun b _ h => .inl h) (fun b h => .inr h) (.of_below b3)
      | false =>
        obtain ⟨f, hf⟩ : ∃ f : Nat, m.frm = (f : Int) := ⟨m.frm.toNat, by omega⟩
        have hok := of_decide_eq_false HOK.out.symm
        have HP3 : Hid (appendedP d m = if m.ok then (if m.index ≤ lastN d ∧ d.mat.getD f 0 < m.index then agreeP { d with mat := d.mat.set f m.index, next := d.next.set f (m.index + 1) } else d, []) else ({ d with next := d.next.set f (max (d.mat.getD f 0) (min m.index (lastN d)) + 1) }, answerP { d with next := d.next.set f (max (d.mat.getD f 0) (min m.index (lastN d)) + 1) } m (sendP { d with next := d.next.set f (max (d.mat.getD f 0) (min m.index (lastN d)) + 1) } f))) := by show _ = _; rw [HP2.out, if_neg hok, hf, Int.toNat_natCast]
        have hrl : d.role = 3 := Classical.byContradiction fun h => hok (.inl h)
        have hml := (HR.out hrl).1
        have hxl := (HR.out hrl).2
        have hfm : f < d.mat.length := by omega
        have hfx : f < d.next.length := by omega
        have hfmi : (f : Int) < (d.mat.length : Int) := by omega
        have hfxi : (f : Int) < (d.next.length : Int) := by omega
        have hlb := hb.last
        have HML := Lib.hid hml
        have HXL := Lib.hid hxl
        have HFF := Lib.hid hf
        clear HP2 HOK hok hrl HR hml hxl hf
        obtain ⟨Al, ec, rfl⟩ := N3.log.shape
        obtain ⟨gm, mc, hMe, ym0, hqb, _, _⟩ := NE.own_at N3.mat hfm
        obtain ⟨gx, xc, hXe, _, _, _, _⟩ := NE.own_at N3.nxt hfx
        subst hMe
        subst hXe
        obtain ⟨q, hq⟩ : ∃ q, q = d.mat.getD f 0 := ⟨_, rfl⟩
        have hqm := HMX.out f
        rw [← hq] at hqb ym0 hqm
        rw [← hq] at HP3
        clear hq
        have s8 : wc.cell? ⟨mb, 8, none⟩ = some (.bool m.ok) := km3.cell 8
        obtain ⟨ok, hok⟩ : ∃ ok, ok = m.ok := ⟨_, rfl⟩
        rw [← hok] at s8
        have HOK := Lib.hid hok
        clear hok
        have s1 : wc.cell? ⟨mb, 1, none⟩ = some (.int .i64 (f : Int)) := by rw [← HFF.out]; exact km3.cell 1
        have s4 : wc.cell? ⟨mb, 4, none⟩ = some (.int .u64 (m.index : Int)) := km3.cell 4
        have hwr : IntKind.u64.wrap ((m.index : Int) + 1) = (m.index : Int) + 1 := by simp [IntKind.wrap, IntKind.bits, IntKind.signed]; omega
        cases ok with
        | true =>
          have HP4 : Hid (appendedP d m = (if m.index ≤ lastN d ∧ q < m.index then agreeP { d with mat := d.mat.set f m.index, next := d.next.set f (m.index + 1) } else d, [])) := by show _ = _; rw [HP3.out, if_pos HOK.out.symm]
          clear HP3 HOK
          have n13 : wc.cell? ⟨g, 13, none⟩ = some (.slice (some ⟨gm, 0, none⟩) d.mat.length mc) := N3.blk.cell 13
          have HQ2 := Lib.hid (fun n : Nat => last_any g Al ec V _ _ d (wc.drewN n) (N3.blk.drewN n) hb.nb)
          obtain ⟨y, hy⟩ : ∃ y, y = lastN d := ⟨_, rfl⟩
          rw [← hy] at HQ2 HP4 hlb
          clear hy
          go_upto_region 7 with fail
          clear s8
          go_cut [54] (fun v54 wx => ∃ ok, v54 = .bool ok ∧ Hid (ok = decide (m.index ≤ y ∧ q < m.index)) ∧ Below wc.heap.size wc wx)
          case first =>
            by_cases h1 : m.index ≤ y
            · have h1i : (m.index : Int) ≤ (y : Int) := by omega
              by_cases h2 : q < m.index
              · have h2i : (q : Int) < (m.index : Int) := by omega
                have HOK : Hid (true = decide (m.index ≤ y ∧ q < m.index)) := by show _ = _; rw [decide_eq_true ⟨h1, h2⟩]
                clear h1 h2
                go_quiet ((go_at_call 16; exact Calls.quiet_of (HQ2.out _)))
                go_wp2_with fail
                go_meet
                case rel => exact ⟨_, rfl, HOK, below_drewN (Below.refl _ _) _⟩
              · have h2i : ¬ (q : Int) < (m.index : Int) := by omega
                have HOK : Hid (false = decide (m.index ≤ y ∧ q < m.index)) := by show _ = _; rw [decide_eq_false (fun h => h2 h.2)]
                clear h1 h2
                go_quiet ((go_at_call 16; exact Calls.quiet_of (HQ2.out _)))
                go_wp2_with fail
                go_meet
                case rel => exact ⟨_, rfl, HOK, below_drewN (Below.refl _ _) _⟩
            · have h1i : ¬ (m.index : Int) ≤ (y : Int) := by omega
              have HOK : Hid (false = decide (m.index ≤ y ∧ q < m.index)) := by show _ = _; rw [decide_eq_false (fun h => h1 h.1)]
              clear h1
              go_quiet ((go_at_call 16; exact Calls.quiet_of (HQ2.out _)))
              go_wp2_with fail
              go_meet
              case rel => exact ⟨_, rfl, HOK, below_drewN (Below.refl _ _) _⟩
          case rest =>
            obtain ⟨go, rfl, HOK, bc⟩ := hcut
            clear HQ2
            have N4 := N3.below bc
            have b4 := below_step b3 bc
            have km4 := km3.below bc km3.lt
            clear N3 b3 km3 bc s1 s4 n13 ym0
            cases go with
            | false =>
              have HE : Hid (appendedP d m = (d, [])) := by show _ = _; rw [HP4.out, if_neg (of_decide_eq_false HOK.out.symm)]
              clear HP4 HOK
              go_wp2_with fail
              go_ret
              rw [HE.out]
              exact RetMs.nil_ (ND.all ⟨_, _, _, _, _, N4, HF.out⟩) (fun b _ h => .inl h) (fun b h => .inr h) (.of_below b4)
            | true =>
              obtain ⟨d2, hd2⟩ : ∃ d2 : LNode, d2 = { d with mat := d.mat.set f m.index, next := d.next.set f (m.index + 1) } := ⟨_, rfl⟩
              have HE : Hid (appendedP d m = (agreeP d2, [])) := by show _ = _; rw [HP4.out, if_pos (of_decide_eq_true HOK.out.symm), hd2]
              have hb2 : GB d2 := by rw [hd2]; exact ⟨hb.base, hb.bt, hb.len, hb.term, hb.commit⟩
              have hm2 : d2.mat.length = d2.n ∧ 1 ≤ d2.n ∧ d2.n ≤ 12 := by rw [hd2]; exact ⟨by show (d.mat.set f m.index).length = d.n; rw [List.length_set]; exact HML.out, hn1, hn5⟩
              have HM2 := Lib.hid hm2
              have HD2 := Lib.hid hd2
              clear HP4 HOK hm2 hd2
              have s1 : wc.cell? ⟨mb, 1, none⟩ = some (.int .i64 (f : Int)) := by rw [← HFF.out]; exact km4.cell 1
              have s4 : wc.cell? ⟨mb, 4, none⟩ = some (.int .u64 (m.index : Int)) := km4.cell 4
              have n13 : wc.cell? ⟨g, 13, none⟩ = some (.slice (some ⟨gm, 0, none⟩) d.mat.length mc) := N4.blk.cell 13
              go_upto_region 8 with fail
              go_still_tail 9, (by kernel_rfl)
              clear s1 s4 n13
              have N5 := N4.below ((Below.refl _ _).drew)
              have B5 : BlP F w wc.drew := .of_below (b4.drew)
              have km5 := km4.drew
              clear N4 b4 km4
              change wpList _ _ _ _ _ wc.drew
              generalize wc.drew = w5 at *
              obtain ⟨gm', c', e', cv, _, fv, hvl⟩ := NE.own_at N5.mat hfm
              obtain rfl : gm = gm' := by injection e' with e1 _ _; injection Option.some.inj e1
              have N6 := NodeAt.setMat (x := m.index) N5 hfm (by omega)
              have B6 := B5.setCell (p := ⟨gm, f, none⟩) (fun h => (HF.out gm h).2.2.2.2.1 rfl) (.int .u64 (m.index : Int))
              have km6 := km5.far (p := ⟨gm, f, none⟩) (fun e => by have e : mb = gm := e; subst e; exact N5.mat.ne_blk km5 (by decide) rfl) (.int .u64 (m.index : Int))
              go_upto_region 9 with fail
              clear cv fv hvl N5 B5 km5
              generalize (w5.setCell ⟨gm, f, none⟩ (.int .u64 (m.index : Int))) = w6 at *
              have s1 : w6.cell? ⟨mb, 1, none⟩ = some (.int .i64 (f : Int)) := by rw [← HFF.out]; exact km6.cell 1
              have s4 : w6.cell? ⟨mb, 4, none⟩ = some (.int .u64 (m.index : Int)) := km6.cell 4
              have n14 : w6.cell? ⟨g, 14, none⟩ = some (.slice (some ⟨gx, 0, none⟩) d.next.length xc) := N6.blk.cell 14
              go_still_tail 10, (by kernel_rfl)
              clear s1 s4 n14
              have N7 := N6.below ((Below.refl _ _).drew)
              have B7 : BlP F w w6.drew := B6.drew
              clear N6 B6 km6
              change wpList _ _ _ _ _ w6.drew
              generalize w6.drew = w7 at *
              obtain ⟨gx', c', e', cv, _, fv, hvl⟩ := NE.own_at N7.nxt hfx
              obtain rfl : gx = gx' := by injection e' with e1 _ _; injection Option.some.inj e1
              have N8 := NodeAt.setNxt (d := { d with mat := d.mat.set f m.index }) (x := m.index + 1) N7 hfx (by omega)
              have eZ : w7.setCell ⟨gx, f, none⟩ (.int .u64 ((m.index + 1 : Nat) : Int)) = w7.setCell ⟨gx, f, none⟩ (.int .u64 ((m.index : Int) + 1)) := rfl
              rw [eZ] at N8
              clear eZ
              have B8 := B7.setCell (p := ⟨gx, f, none⟩) (fun h => (HF.out gx h).2.2.2.2.2 rfl) (.int .u64 ((m.index : Int) + 1))
              go_upto_region 10 with fail
              clear cv fv hvl N7 B7
              generalize (w7.setCell ⟨gx, f, none⟩ (.int .u64 ((m.index : Int) + 1))) = w8 at *
              have N8' : NodeAt w8 g S (.slice Al d.log.length ec) V (.slice (some ⟨gm, 0, none⟩) d.mat.length mc) (.slice (some ⟨gx, 0, none⟩) d.next.length xc) d2 := by rw [HD2.out]; exact N8
              have T := agree_any g S _ V _ _ d2 w8 N8' hb2 HM2.out.2.1 HM2.out.2.2 HM2.out.1
              clear N8 N8'
              go_wp2_with fail
              refine T.mono ?_
              clear T
              rintro en w9 ⟨rfl, g9, N9⟩
              have B9 := B8.grown g9 (fun b e h => (HF.out b h).1 (Option.some.inj e).symm)
              go_wp2_with fail
              go_ret
              rw [HE.out]
              exact RetMs.nil_ (ND.all ⟨_, _, _, _, _, N9, HF.out⟩) (fun b _ h => .inl h) (fun b h => .inr h) B9
        | false =>
          obtain ⟨y, hy⟩ : ∃ y, y = lastN d := ⟨_, rfl⟩
          have HP4 : Hid (appendedP d m = ({ d with next := d.next.set f (max (q) (min m.index (y)) + 1) }, answerP { d with next := d.next.set f (max (q) (min m.index (y)) + 1) } m (sendP { d with next := d.next.set f (max (q) (min m.index (y)) + 1) } f))) := by show _ = _; rw [HP3.out, if_neg (by rw [← HOK.out]; simp), hy]
          have HQ2 := Lib.hid (fun (wz : World) (h : Blk wz g 48 (nodeC (.slice Al d.log.length ec) V (.slice (some ⟨gm, 0, none⟩) d.mat.length mc) (.slice (some ⟨gx, 0, none⟩) d.next.length xc) d)) => last_any g Al ec V _ _ d wz h hb.nb)
          rw [← hy] at HQ2 hlb
          clear HP3 HOK hy
          obtain ⟨z, hz⟩ : ∃ z, z = min m.index y := ⟨_, rfl⟩
          obtain ⟨v, hv⟩ : ∃ v, v = max q z := ⟨_, rfl⟩
          rw [← hz, ← hv] at HP4
          have hmin : (if y < m.index then (y : Int) else (m.index : Int)) = (z : Int) := by rw [hz]; split <;> omega
          have hmax : (if q < z then (z : Int) else (q : Int)) = (v : Int) := by rw [hv]; split <;> omega
          have hvb : v + 1 ≤ 18446744073709551615 := by rw [hv, hz]; omega
          have hwv : IntKind.u64.wrap ((v : Int) + 1) = (v : Int) + 1 := by simp [IntKind.wrap, IntKind.bits, IntKind.signed]; omega
          clear hz hv hwr
          obtain ⟨d1, hd1⟩ : ∃ d1 : LNode, d1 = { d with next := d.next.set f (v + 1) } := ⟨_, rfl⟩
          rw [← hd1] at HP4
          have hb1 : GB d1 := by rw [hd1]; exact ⟨hb.base, hb.bt, hb.len, hb.term, hb.commit⟩
          have hq1 : d1.log.length = d.log.length ∧ f < d1.next.length ∧ d1.id = d.id := by rw [hd1]; exact ⟨rfl, by show f < (d.next.set f (v + 1)).length; rw [List.length_set]; exact hfx, rfl⟩
          have HQ1 := Lib.hid hq1
          have HD1 := Lib.hid hd1
          clear hd1 hq1 s1 s4
          go_upto_region 12 with fail
          clear s8
          refine wp_region_noPanic ?_
          have kS : Blk wc.drew g 48 (nodeC (.slice Al d.log.length ec) V (.slice (some ⟨gm, 0, none⟩) d.mat.length mc) (.slice (some ⟨gx, 0, none⟩) d.next.length xc) d) ∧ Blk wc.drew mb 58 #[.int .i64 m.kind, .int .i64 m.frm, .int .i64 m.dst, .int .u64 (m.term : Int), .int .u64 (m.index : Int), .int .u64 (m.logTerm : Int), .int .u64 (m.commit : Int), .slice A m.ents.length c, .bool m.ok, .slice none 0 0] ∧ wc.drew.cell? ⟨gm, f, none⟩ = some (.int .u64 (q : Int)) := ⟨N3.blk.drew, km3.drew, ym0⟩
          refine wp_region_held_drew (S := fun Y => Blk Y g 48 (nodeC (.slice Al d.log.length ec) V (.slice (some ⟨gm, 0, none⟩) d.mat.length mc) (.slice (some ⟨gx, 0, none⟩) d.next.length xc) d) ∧ Blk Y mb 58 #[.int .i64 m.kind, .int .i64 m.frm, .int .i64 m.dst, .int .u64 (m.term : Int), .int .u64 (m.index : Int), .int .u64 (m.logTerm : Int), .int .u64 (m.commit : Int), .slice A m.ents.length c, .bool m.ok, .slice none 0 0] ∧ Y.cell? ⟨gm, f, none⟩ = some (.int .u64 (q : Int))) (by kernel_rfl) kS (fun hH => ?_)
          clear ym0
          have ymx : gm < wc.heap.size := (N3.mat.lt gm rfl).2
          refine wpAnyH_take (i := 0) (v := ?_) rfl (by kernel_rfl) (by kernel_rfl) (by kernel_rfl) (fun _ _ _ h => h) (Or.inl ⟨by rfl, ?_⟩) hH ?_
          case refine_2 => intro w hSw; go_simp; try with_reducible rfl
          try simp only [Z1, Z2, Z4, Z5, Z6, Z7]
          refine wpAnyH_take (i := 1) (v := ?_) rfl (by kernel_rfl) (by kernel_rfl) (by kernel_rfl) (fun _ _ _ h => h) (Or.inl ⟨by rfl, ?_⟩) hH ?_
          case refine_2 => intro w hSw; go_simp; try with_reducible rfl
          try simp only [Z1, Z2, Z3, Z4, Z5, Z6, Z7]
          refine wpAnyH_take (i := 2) (v := ?_) rfl (by kernel_rfl) (by kernel_rfl) (by kernel_rfl) (fun _ _ _ h => h) (Or.inl ⟨by rfl, ?_⟩) hH ?_
          case refine_2 => intro w hSw; go_simp; try with_reducible rfl
          try simp only [Z1, Z2, Z3, Z4, Z5, Z6, Z7]
          refine wpAnyH_take (i := 3) (v := ?_) rfl (by kernel_rfl) (by kernel_rfl) (by kernel_rfl) (fun _ _ _ h => h) (Or.inl ⟨by rfl, ?_⟩) hH ?_
          case refine_2 => intro w hSw; obtain ⟨kw, kb, kq⟩ := hSw; replace kw : Blk w g 48 (nodeC (.slice Al d.log.length ec) V (.slice (some ⟨gm, 0, none⟩) d.mat.length mc) (.slice (some ⟨gx, 0, none⟩) d.next.length xc) d) := kw; replace kb : Blk w mb 58 #[.int .i64 m.kind, .int .i64 m.frm, .int .i64 m.dst, .int .u64 (m.term : Int), .int .u64 (m.index : Int), .int .u64 (m.logTerm : Int), .int .u64 (m.commit : Int), .slice A m.ents.length c, .bool m.ok, .slice none 0 0] := kb; replace kq : w.cell? ⟨gm, f, none⟩ = some (.int .u64 (q : Int)) := kq; have n14 : w.cell? ⟨_, 14, none⟩ = some (.slice (some ⟨gx, 0, none⟩) d.next.length xc) := Blk.cell kw 14; clear kw kb kq; go_simp; try with_reducible rfl
          try simp only [Z1, Z2, Z3, Z4, Z5, Z6, Z7]
          refine wpAnyH_take (i := 4) (v := ?_) rfl (by kernel_rfl) (by kernel_rfl) (by kernel_rfl) (fun _ _ _ h => h) (Or.inl ⟨by rfl, ?_⟩) hH ?_
          case refine_2 => intro w hSw; go_simp; try with_reducible rfl
          try simp only [Z1, Z2, Z3, Z4, Z5, Z6, Z7]
          refine wpAnyH_take (i := 5) (v := ?_) rfl (by kernel_rfl) (by kernel_rfl) (by kernel_rfl) (fun _ _ _ h => h) (Or.inl ⟨by rfl, ?_⟩) hH ?_
          case refine_2 => intro w hSw; obtain ⟨kw, kb, kq⟩ := hSw; replace kw : Blk w g 48 (nodeC (.slice Al d.log.length ec) V (.slice (some ⟨gm, 0, none⟩) d.mat.length mc) (.slice (some ⟨gx, 0, none⟩) d.next.length xc) d) := kw; replace kb : Blk w mb 58 #[.int .i64 m.kind, .int .i64 m.frm, .int .i64 m.dst, .int .u64 (m.term : Int), .int .u64 (m.index : Int), .int .u64 (m.logTerm : Int), .int .u64 (m.commit : Int), .slice A m.ents.length c, .bool m.ok, .slice none 0 0] := kb; replace kq : w.cell? ⟨gm, f, none⟩ = some (.int .u64 (q : Int)) := kq; have s1 : w.cell? ⟨mb, 1, none⟩ = some (.int .i64 (f : Int)) := (by rw [← HFF.out]; exact Blk.cell kb 1); clear kw kb kq; go_simp; try with_reducible rfl
          try simp only [Z1, Z2, Z3, Z4, Z5, Z6, Z7]
          refine wpAnyH_take (i := 6) (v := ?_) rfl (by kernel_rfl) (by kernel_rfl) (by kernel_rfl) (fun _ _ _ h => h) (Or.inl ⟨by rfl, ?_⟩) hH ?_
          case refine_2 => intro w hSw; go_simp; try with_reducible rfl
          try simp only [Z1, Z2, Z3, Z4, Z5, Z6, Z7]
          refine wpAnyH_take (i := 7) (v := ?_) rfl (by kernel_rfl) (by kernel_rfl) (by kernel_rfl) (fun _ _ _ h => h) (Or.inl ⟨by rfl, ?_⟩) hH ?_
          case refine_2 => intro w hSw; go_simp; try with_reducible rfl
          try simp only [Z1, Z2, Z3, Z4, Z5, Z6, Z7]
          refine wpAnyH_take (i := 8) (v := ?_) rfl (by kernel_rfl) (by kernel_rfl) (by kernel_rfl) (fun _ _ _ h => h) (Or.inl ⟨by rfl, ?_⟩) hH ?_
          case refine_2 => intro w hSw; go_simp; try with_reducible rfl
          try simp only [Z1, Z2, Z3, Z4, Z5, Z6, Z7]
          refine wpAnyH_take (i := 9) (v := ?_) rfl (by kernel_rfl) (by kernel_rfl) (by kernel_rfl) (fun _ _ _ h => h) (Or.inl ⟨by rfl, ?_⟩) hH ?_
          case refine_2 => intro w hSw; obtain ⟨kw, kb, kq⟩ := hSw; replace kw : Blk w g 48 (nodeC (.slice Al d.log.length ec) V (.slice (some ⟨gm, 0, none⟩) d.mat.length mc) (.slice (some ⟨gx, 0, none⟩) d.next.length xc) d) := kw; replace kb : Blk w mb 58 #[.int .i64 m.kind, .int .i64 m.frm, .int .i64 m.dst, .int .u64 (m.term : Int), .int .u64 (m.index : Int), .int .u64 (m.logTerm : Int), .int .u64 (m.commit : Int), .slice A m.ents.length c, .bool m.ok, .slice none 0 0] := kb; replace kq : w.cell? ⟨gm, f, none⟩ = some (.int .u64 (q : Int)) := kq; have n13 : w.cell? ⟨_, 13, none⟩ = some (.slice (some ⟨gm, 0, none⟩) d.mat.length mc) := Blk.cell kw 13; clear kw kb kq; go_simp; try with_reducible rfl
          try simp only [Z1, Z2, Z3, Z4, Z5, Z6, Z7]
          refine wpAnyH_take (i := 10) (v := ?_) rfl (by kernel_rfl) (by kernel_rfl) (by kernel_rfl) (fun _ _ _ h => h) (Or.inl ⟨by rfl, ?_⟩) hH ?_
          case refine_2 => intro w hSw; go_simp; try with_reducible rfl
          try simp only [Z1, Z2, Z3, Z4, Z5, Z6, Z7]
          refine wpAnyH_take (i := 11) (v := ?_) rfl (by kernel_rfl) (by kernel_rfl) (by kernel_rfl) (fun _ _ _ h => h) (Or.inl ⟨by rfl, ?_⟩) hH ?_
          case refine_2 => intro w hSw; obtain ⟨kw, kb, kq⟩ := hSw; replace kw : Blk w g 48 (nodeC (.slice Al d.log.length ec) V (.slice (some ⟨gm, 0, none⟩) d.mat.length mc) (.slice (some ⟨gx, 0, none⟩) d.next.length xc) d) := kw; replace kb : Blk w mb 58 #[.int .i64 m.kind, .int .i64 m.frm, .int .i64 m.dst, .int .u64 (m.term : Int), .int .u64 (m.index : Int), .int .u64 (m.logTerm : Int), .int .u64 (m.commit : Int), .slice A m.ents.length c, .bool m.ok, .slice none 0 0] := kb; replace kq : w.cell? ⟨gm, f, none⟩ = some (.int .u64 (q : Int)) := kq; have s1 : w.cell? ⟨mb, 1, none⟩ = some (.int .i64 (f : Int)) := (by rw [← HFF.out]; exact Blk.cell kb 1); clear kw kb kq; go_simp; try with_reducible rfl
          try simp only [Z1, Z2, Z3, Z4, Z5, Z6, Z7]
          refine wpAnyH_take (i := 12) (v := ?_) rfl (by kernel_rfl) (by kernel_rfl) (by kernel_rfl) (fun _ _ _ h => h) (Or.inl ⟨by rfl, ?_⟩) hH ?_
          case refine_2 => intro w hSw; go_simp; try with_reducible rfl
          try simp only [Z1, Z2, Z3, Z4, Z5, Z6, Z7]
          refine wpAnyH_take (i := 13) (v := ?_) rfl (by kernel_rfl) (by kernel_rfl) (by kernel_rfl) (fun _ _ _ h => h) (Or.inl ⟨by rfl, ?_⟩) hH ?_
          case refine_2 => intro w hSw; obtain ⟨kw, kb, kq⟩ := hSw; replace kw : Blk w g 48 (nodeC (.slice Al d.log.length ec) V (.slice (some ⟨gm, 0, none⟩) d.mat.length mc) (.slice (some ⟨gx, 0, none⟩) d.next.length xc) d) := kw; replace kb : Blk w mb 58 #[.int .i64 m.kind, .int .i64 m.frm, .int .i64 m.dst, .int .u64 (m.term : Int), .int .u64 (m.index : Int), .int .u64 (m.logTerm : Int), .int .u64 (m.commit : Int), .slice A m.ents.length c, .bool m.ok, .slice none 0 0] := kb; replace kq : w.cell? ⟨gm, f, none⟩ = some (.int .u64 (q : Int)) := kq; clear kw kb; go_simp; try with_reducible rfl
          try simp only [Z1, Z2, Z3, Z4, Z5, Z6, Z7]
          refine wpAnyH_take (i := 14) (v := ?_) rfl (by kernel_rfl) (by kernel_rfl) (by kernel_rfl) (fun _ _ _ h => h) (Or.inl ⟨by rfl, ?_⟩) hH ?_
          case refine_2 => intro w hSw; go_simp; try with_reducible rfl
          try simp only [Z1, Z2, Z3, Z4, Z5, Z6, Z7]
          refine wpAnyH_take (i := 15) (v := ?_) rfl (by kernel_rfl) (by kernel_rfl) (by kernel_rfl) (fun _ _ _ h => h) (Or.inl ⟨by rfl, ?_⟩) hH ?_
          case refine_2 => intro w hSw; obtain ⟨kw, kb, kq⟩ := hSw; replace kw : Blk w g 48 (nodeC (.slice Al d.log.length ec) V (.slice (some ⟨gm, 0, none⟩) d.mat.length mc) (.slice (some ⟨gx, 0, none⟩) d.next.length xc) d) := kw; replace kb : Blk w mb 58 #[.int .i64 m.kind, .int .i64 m.frm, .int .i64 m.dst, .int .u64 (m.term : Int), .int .u64 (m.index : Int), .int .u64 (m.logTerm : Int), .int .u64 (m.commit : Int), .slice A m.ents.length c, .bool m.ok, .slice none 0 0] := kb; replace kq : w.cell? ⟨gm, f, none⟩ = some (.int .u64 (q : Int)) := kq; have s4 : w.cell? ⟨mb, 4, none⟩ = some (.int .u64 (m.index : Int)) := Blk.cell kb 4; clear kw kb kq; go_simp; try with_reducible rfl
          try simp only [Z1, Z2, Z3, Z4, Z5, Z6, Z7]
          refine wpAnyH_take (i := 16) (v := ?_) rfl (by kernel_rfl) (by kernel_rfl) (by kernel_rfl) (fun _ _ _ h => h) (Or.inl ⟨by rfl, ?_⟩) hH ?_
          case refine_2 => intro w hSw; go_simp; try with_reducible rfl
          try simp only [Z1, Z2, Z3, Z4, Z5, Z6, Z7]
          refine wpAnyH_ready (rs := [17]) (by kernel_rfl) (by simp) ?_
          refine AllReadyH.cons rfl (fun K hK => ?_) AllReadyH.nil
          go_simp
          refine (HQ2.out _ kS.1).mono ?_
          rintro en w6 ⟨rfl, n6, hw6⟩
          have b6 : Below wc.drew.heap.size wc.drew w6 := by rw [hw6]; exact ⟨rfl, rfl, rfl, Nat.le_refl _, fun _ _ => rfl⟩
          have bc6 : Below wc.heap.size wc w6 := below_step ((Below.refl wc.heap.size wc).drew) b6
          have k6 := kS.1.below b6 kS.1.lt
          have km6 := kS.2.1.below b6 kS.2.1.lt
          have y6 : w6.cell? ⟨gm, f, none⟩ = some (.int .u64 (q : Int)) := (b6.cell (p := ⟨gm, f, none⟩) ymx).trans kS.2.2
          clear hw6
          refine hK.out _ _ ⟨k6, km6, y6⟩ (fun hH => ?_)
          clear hK K
          try dsimp only
          try simp only [Z1, Z2, Z3, Z4, Z5, Z6, Z7]
          refine wpAnyH_take (i := 18) (v := ?_) rfl (by kernel_rfl) (by kernel_rfl) (by kernel_rfl) (fun _ _ _ h => h) (Or.inl ⟨by rfl, ?_⟩) hH ?_
          case refine_2 => intro w hSw; go_simp; try with_reducible rfl
          try simp only [Z1, Z2, Z3, Z4, Z5, Z6, Z7]
          refine wpAnyH_take (i := 19) (v := ?_) rfl (by kernel_rfl) (by kernel_rfl) (by kernel_rfl) (fun _ _ _ h => h) (Or.inl ⟨by rfl, ?_⟩) hH ?_
          case refine_2 => intro w hSw; go_simp; try with_reducible rfl
          try simp only [Z1, Z2, Z3, Z4, Z5, Z6, Z7]
          refine wpAnyH_take (i := 20) (v := ?_) rfl (by kernel_rfl) (by kernel_rfl) (by kernel_rfl) (fun _ _ _ h => h) (Or.inl ⟨by rfl, ?_⟩) hH ?_
          case refine_2 => intro w hSw; go_simp; try with_reducible rfl
          try simp only [Z1, Z2, Z3, Z4, Z5, Z6, Z7]
          refine wpAnyH_take (i := 21) (v := ?_) rfl (by kernel_rfl) (by kernel_rfl) (by kernel_rfl) (fun _ _ _ h => h) (Or.inl ⟨by rfl, ?_⟩) hH ?_
          case refine_2 => intro w hSw; go_simp; try with_reducible rfl
          try simp only [Z1, Z2, Z3, Z4, Z5, Z6, Z7]
          refine wpAnyH_ready (rs := [22]) (by kernel_rfl) (by simp) ?_
          refine AllReadyH.cons rfl (fun K hK => ?_) AllReadyH.nil
          have N6 := N3.below bc6
          obtain ⟨gx', c', e', cv, _, fv, hvl⟩ := NE.own_at N6.nxt hfx
          obtain rfl : gx = gx' := by injection e' with e1 _ _; injection Option.some.inj e1
          have N7 := NodeAt.setNxt (x := v + 1) N6 hfx hvb
          have eZ : w6.setCell ⟨gx, f, none⟩ (.int .u64 ((v + 1 : Nat) : Int)) = w6.setCell ⟨gx, f, none⟩ (.int .u64 ((v : Int) + 1)) := rfl
          rw [eZ] at N7
          clear eZ
          have B7 := (BlP.of_below (below_step b3 bc6)).setCell (p := ⟨gx, f, none⟩) (fun h => (HF.out gx h).2.2.2.2.2 rfl) (.int .u64 ((v : Int) + 1))
          have k7 := k6.far (p := ⟨gx, f, none⟩) (fun e => by have e : g = gx := e; subst e; exact N6.nxt.ne_blk N6.blk (by decide) rfl) (.int .u64 ((v : Int) + 1))
          have km7 := km6.far (p := ⟨gx, f, none⟩) (fun e => by have e : mb = gx := e; subst e; exact N6.nxt.ne_blk km6 (by decide) rfl) (.int .u64 ((v : Int) + 1))
          have y7 : (w6.setCell ⟨gx, f, none⟩ (.int .u64 ((v : Int) + 1))).cell? ⟨gm, f, none⟩ = some (.int .u64 (q : Int)) := (World.cell?_setCell_other _ ⟨gx, f, none⟩ ⟨gm, f, none⟩ _ (fun e => N6.mx gm rfl (by injection e with e1 _ _; rw [e1]; rfl))).trans y6
          go_simp
          clear cv fv hvl k6 km6 y6 N6 bc6 kS N3 b3 km3 b6
          generalize (w6.setCell ⟨gx, f, none⟩ (.int .u64 ((v : Int) + 1))) = w8 at *
          have N8 : NodeAt w8 g S (.slice Al d.log.length ec) V (.slice (some ⟨gm, 0, none⟩) d.mat.length mc) (.slice (some ⟨gx, 0, none⟩) d.next.length xc) d1 := by rw [HD1.out]; exact N7
          have B8 := B7
          have km8 := km7
          refine hK.out _ _ ⟨k7, km7, y7⟩ (fun hH => ?_)
          clear hK K
          try dsimp only
          try simp only [Z1, Z2, Z3, Z4, Z5, Z6, Z7]
          refine wpAnyH_done (by kernel_rfl) ?_ _
          refine NoPanic.normal ?_
          clear k7 km7 y7 B7 N7 HQ2
          clear hmin hmax hwv hqb hqm
          obtain ⟨m2, hm2⟩ : ∃ m2, m2 = sendP d1 f := ⟨_, rfl⟩
          have T := send_any g Al ec V (.slice (some ⟨gm, 0, none⟩) d.mat.length mc) (.slice (some ⟨gx, 0, none⟩) d.next.length xc) S d1 f w8 (by rw [HQ1.out.1]; exact N8) hb1 HQ1.out.2.1
          rw [← hm2] at T HP4
          clear hm2
          have s1 : w8.cell? ⟨mb, 1, none⟩ = some (.int .i64 (f : Int)) := by rw [← HFF.out]; exact km8.cell 1
          go_wp2_with fail
          refine T.mono ?_
          clear T s1
          rintro en w9 ⟨A2, c2, rfl, hM9, b9⟩
          rw [show msgC A2 c2 m2 = #[.int .i64 m2.kind, .int .i64 m2.frm, .int .i64 m2.dst, .int .u64 (m2.term : Int), .int .u64 (m2.index : Int), .int .u64 (m2.logTerm : Int), .int .u64 (m2.commit : Int), .slice A2 m2.ents.length c2, .bool m2.ok, .slice none 0 0] from rfl]
          go_upto_region 14 with fail
          have kM := Blk.new w9 58 #[.int .i64 m2.kind, .int .i64 m2.frm, .int .i64 m2.dst, .int .u64 (m2.term : Int), .int .u64 (m2.index : Int), .int .u64 (m2.logTerm : Int), .int .u64 (m2.commit : Int), .slice A2 m2.ents.length c2, .bool m2.ok, .slice none 0 0]
          have d3 : Below w9.heap.size w9 (w9.alloc (.cells #[.int .i64 m2.kind, .int .i64 m2.frm, .int .i64 m2.dst, .int .u64 (m2.term : Int), .int .u64 (m2.index : Int), .int .u64 (m2.logTerm : Int), .int .u64 (m2.commit : Int), .slice A2 m2.ents.length c2, .bool m2.ok, .slice none 0 0] 58)) := (Below.refl _ _).alloc (Nat.le_refl _) _
          change Code.wp _ _ _ _ (w9.alloc (.cells #[.int .i64 m2.kind, .int .i64 m2.frm, .int .i64 m2.dst, .int .u64 (m2.term : Int), .int .u64 (m2.index : Int), .int .u64 (m2.logTerm : Int), .int .u64 (m2.commit : Int), .slice A2 m2.ents.length c2, .bool m2.ok, .slice none 0 0] 58))
          have hMA := hM9.below d3
          generalize (w9.alloc (.cells #[.int .i64 m2.kind, .int .i64 m2.frm, .int .i64 m2.dst, .int .u64 (m2.term : Int), .int .u64 (m2.index : Int), .int .u64 (m2.logTerm : Int), .int .u64 (m2.commit : Int), .slice A2 m2.ents.length c2, .bool m2.ok, .slice none 0 0] 58)) = wA at *
          have b8A := below_step b9 d3
          have kA := N8.blk.below b8A N8.blk.lt
          have kmA := km8.below b8A km8.lt
          have D8 : ND w8 g F d1 := ⟨_, _, _, _, _, N8, HF.out⟩
          clear N8 km8 hM9
          have T := answer_any g _ V _ _ d1 A A2 c c2 m m2 (fun b => w8.heap.size ≤ b) wA kA hMA
          rw [show msgC A c m = #[.int .i64 m.kind, .int .i64 m.frm, .int .i64 m.dst, .int .u64 (m.term : Int), .int .u64 (m.index : Int), .int .u64 (m.logTerm : Int), .int .u64 (m.commit : Int), .slice A m.ents.length c, .bool m.ok, .slice none 0 0] from rfl, show msgC A2 c2 m2 = #[.int .i64 m2.kind, .int .i64 m2.frm, .int .i64 m2.dst, .int .u64 (m2.term : Int), .int .u64 (m2.index : Int), .int .u64 (m2.logTerm : Int), .int .u64 (m2.commit : Int), .slice A2 m2.ents.length c2, .bool m2.ok, .slice none 0 0] from rfl] at T
          go_wp2_with ((first | ((with_reducible refine wpList_load_blk rfl 58 (.tmp 3) rfl mb ?_ 58 _ _ kmA Try.underlying58 ?_ Try.size_Msg ?_ ?_); rfl; rfl; rfl) | ((with_reducible refine wpList_load_blk rfl 58 (.tmp 5) rfl w9.heap.size ?_ 58 _ _ kM Try.underlying58 ?_ Try.size_Msg ?_ ?_); rfl; rfl; rfl)))
          refine T.mono ?_
          clear T
          rintro en wB ⟨gb, rfl, o7, bB⟩
          have z8 := B8.size
          have zA := b8A.size
          have b8B := below_step b8A bB
          have o7' := (o7.base (B' := w8.heap.size) zA)
          go_wp2_with fail
          go_ret
          rw [HP4.out]
          exact ⟨some ⟨gb, 0, none⟩, 1, w8.heap.size, rfl, z8, o7', (D8.new b8B).mono (fun b h => h.imp (fun h => h.1) id), B8.trans (.of_below b8B)⟩
end Go.Proofs.Ytjpcekpllfelhaa
