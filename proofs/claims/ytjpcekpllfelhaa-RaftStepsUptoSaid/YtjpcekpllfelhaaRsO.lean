/- voted, vote. (Printed by wip/gen_rsn.py.) -/
import Derived.Test.YtjpcekpllfelhaaRsN
namespace Go.Proofs.Ytjpcekpllfelhaa
open Go.RowKit

set_option maxRecDepth 100000 in
set_option maxHeartbeats 4000000 in
theorem voted_any (g : Nat) (F : Nat → Prop) (d : LNode) (A : Option Addr) (c : Nat) (m : LMsg) (w : World) (hd : ND w g F d) (hb : GB d) (hbl : d.log.length + 1 ≤ 1048576) (hn1 : 1 ≤ d.n) (hn5 : d.n ≤ 12) (hi : d.id < d.n) (hr : d.role = 2 → d.votes.length = d.n) (hf1 : 0 ≤ m.frm) (hf2 : m.frm < (d.n : Int)) :
    Calls Try.prog 39 #[.pointer (some ⟨g, 0, none⟩), .agg (msgC A c m)] w (RetMs g F (votedP d m) w) := by
  have HP : Hid (votedP d m = if d.term < m.term then (followP d m.term (-1), []) else if m.ok = false ∨ d.role ≠ 2 ∨ m.term ≠ d.term then (d, []) else if mostP { d with votes := d.votes.set m.frm.toNat true } (d.votes.set m.frm.toNat true) then begG { d with votes := d.votes.set m.frm.toNat true } else ({ d with votes := d.votes.set m.frm.toNat true }, [])) := rfl
  obtain ⟨S, E, V, M, X, hN, hF⟩ := hd
  have HF := Lib.hid hF
  clear hF
  rw [show msgC A c m = #[.int .i64 m.kind, .int .i64 m.frm, .int .i64 m.dst, .int .u64 (m.term : Int), .int .u64 (m.index : Int), .int .u64 (m.logTerm : Int), .int .u64 (m.commit : Int), .slice A m.ents.length c, .bool m.ok, .slice none 0 0] from rfl]
  have km := Blk.new w 58 #[.int .i64 m.kind, .int .i64 m.frm, .int .i64 m.dst, .int .u64 (m.term : Int), .int .u64 (m.index : Int), .int .u64 (m.logTerm : Int), .int .u64 (m.commit : Int), .slice A m.ents.length c, .bool m.ok, .slice none 0 0]
  have b1 : Below w.heap.size w (w.alloc (.cells #[.int .i64 m.kind, .int .i64 m.frm, .int .i64 m.dst, .int .u64 (m.term : Int), .int .u64 (m.index : Int), .int .u64 (m.logTerm : Int), .int .u64 (m.commit : Int), .slice A m.ents.length c, .bool m.ok, .slice none 0 0] 58)) := (Below.refl _ _).alloc (Nat.le_refl _) _
  have N1 := hN.below b1
  have hgl := hN.blk.lt
  clear hN
  go_enter Try.func39, Try.ntmps39
  go_upto_region 1 with fail
  change Code.wp _ _ _ _ (w.alloc (.cells #[.int .i64 m.kind, .int .i64 m.frm, .int .i64 m.dst, .int .u64 (m.term : Int), .int .u64 (m.index : Int), .int .u64 (m.logTerm : Int), .int .u64 (m.commit : Int), .slice A m.ents.length c, .bool m.ok, .slice none 0 0] 58))
  generalize (w.alloc (.cells #[.int .i64 m.kind, .int .i64 m.frm, .int .i64 m.dst, .int .u64 (m.term : Int), .int .u64 (m.index : Int), .int .u64 (m.logTerm : Int), .int .u64 (m.commit : Int), .slice A m.ents.length c, .bool m.ok, .slice none 0 0] 58)) = w1 at *
  have s8 : w1.cell? ⟨w.heap.size, 8, none⟩ = some (.bool m.ok) := km.cell 8
  have s3 : w1.cell? ⟨w.heap.size, 3, none⟩ = some (.int .u64 (m.term : Int)) := km.cell 3
  have n0 : w1.cell? ⟨g, 0, none⟩ = some (.int .u64 (d.term : Int)) := N1.blk.cell 0
  by_cases ht : d.term < m.term
  · have hti : (d.term : Int) < (m.term : Int) := by omega
    have HE : Hid (votedP d m = (followP d m.term (-1), [])) := by show _ = _; rw [HP.out, if_pos ht]
    clear HP ht
    go_quiet (fail)
    go_upto_region 2 with fail
    have dq : Below w1.heap.size w1 (w1.drewN nq) := below_drewN (Below.refl _ _) nq
    have N2 := N1.below dq
    have b2 := below_step b1 dq
    have km2 := km.drewN nq
    clear N1 b1 km dq s8 s3 n0
    generalize w1.drewN nq = w2 at *
    have s3 : w2.cell? ⟨w.heap.size, 3, none⟩ = some (.int .u64 (m.term : Int)) := km2.cell 3
    have T := follow_any g S E V M X d m.term (-1) w2 N2
    go_wp2_with fail
    refine T.mono ?_
    clear T
    rintro en w4 ⟨rfl, g4, N4⟩
    have B4 := (BlP.of_below b2).grown g4 (fun b e h => (HF.out b h).1 (Option.some.inj e).symm)
    go_wp2_with fail
    go_ret
    rw [HE.out]
    exact RetMs.nil_ (ND.all ⟨_, _, _, _, _, N4, HF.out⟩) (fun b _ h => .inl h) (fun b h => .inr h) B4
  · have hti : ¬ (d.term : Int) < (m.term : Int) := by omega
    have HP2 : Hid (votedP d m = if m.ok = false ∨ d.role ≠ 2 ∨ m.term ≠ d.term then (d, []) else if mostP { d with votes := d.votes.set m.frm.toNat true } (d.votes.set m.frm.toNat true) then begG { d with votes := d.votes.set m.frm.toNat true } else ({ d with votes := d.votes.set m.frm.toNat true }, [])) := by show _ = _; rw [HP.out, if_neg ht]
    clear HP ht
    have n8 : w1.cell? ⟨g, 8, none⟩ = some (.int .i64 d.role) := N1.blk.cell 8
    have hno : votedP d m = (d, []) → ∀ q, RetMs g F (votedP d m) w (.returned (.slice none 0 0)) (w1.drewN q) := fun h q => by
      rw [h]
      exact RetMs.nil_ (ND.all ⟨_, _, _, _, _, N1.below (below_drewN (Below.refl _ _) _), HF.out⟩) (fun b _ h => .inl h) (fun b h => .inr h) (.of_below (below_drewN b1 _))
    have HNO := Lib.hid hno
    clear hno
    obtain ⟨ok, hok⟩ : ∃ ok, ok = m.ok := ⟨_, rfl⟩
    rw [← hok] at s8
    have HOK := Lib.hid hok
    clear hok
    have two : ∀ q1 q2, (w1.drewN q1).drewN q2 = w1.drewN (q1 + q2) := fun q1 q2 => World.drewN_drewN _ _ _
    have HTW := Lib.hid two
    clear two
    cases ok with
    | false =>
      have HE : votedP d m = (d, []) := by rw [HP2.out, if_pos (.inl HOK.out.symm)]
      have HR := Lib.hid (HNO.out HE)
      clear HP2 HE HNO hr
      go_quiet (fail)
      go_upto_region 4 with fail
      go_quiet (fail)
      go_wp2_with fail
      go_ret
      try rw [HTW.out]
      exact HR.out _
    | true =>
      by_cases hrole : d.role = 2
      · have hri : (d.role != 2) = false := by rw [bne_eq_false_iff_eq]; exact hrole
        have hvl := hr hrole
        by_cases htt : m.term = d.term
        · have hti2 : ((m.term : Int) != (d.term : Int)) = false := by rw [bne_eq_false_iff_eq]; omega
          have HP3 : Hid (votedP d m = if mostP { d with votes := d.votes.set m.frm.toNat true } (d.votes.set m.frm.toNat true) then begG { d with votes := d.votes.set m.frm.toNat true } else ({ d with votes := d.votes.set m.frm.toNat true }, [])) := by
            show _ = _; rw [HP2.out, if_neg (by rw [← HOK.out]; simp; omega)]
          clear HP2 htt hrole hr HNO HTW
          go_quiet (fail)
          go_upto_region 4 with fail
          have s8' : (w1.drewN nq).cell? ⟨w.heap.size, 8, none⟩ = some (.bool true) := s8
          have s3' : (w1.drewN nq).cell? ⟨w.heap.size, 3, none⟩ = some (.int .u64 (m.term : Int)) := s3
          have n0' : (w1.drewN nq).cell? ⟨g, 0, none⟩ = some (.int .u64 (d.term : Int)) := n0
          have n8' : (w1.drewN nq).cell? ⟨g, 8, none⟩ = some (.int .i64 d.role) := n8
          have dq0 : Below w1.heap.size w1 (w1.drewN nq) := below_drewN (Below.refl _ _) nq
          have N1' := N1.below dq0
          have b1' := below_step b1 dq0
          have km' := km.drewN nq
          clear s8 s3 n0 n8 N1 b1 km dq0
          generalize w1.drewN nq = wa at *
          go_quiet (fail)
          go_upto_region 6 with fail
          have dq : Below wa.heap.size wa (wa.drewN nq) := below_drewN (Below.refl _ _) nq
          have N2 := N1'.below dq
          have b2 := below_step b1' dq
          have km2 := km'.drewN nq
          clear N1' b1' km' dq s8' s3' n0' n8'
          generalize wa.drewN nq = w2 at *
          clear hri hti2 hti
          obtain ⟨f, hf⟩ : ∃ f : Nat, m.frm = (f : Int) := ⟨m.frm.toNat, by omega⟩
          have hfl : f < d.votes.length := by omega
          have hfi : (f : Int) < (d.votes.length : Int) := by omega
          have s1 : w2.cell? ⟨w.heap.size, 1, none⟩ = some (.int .i64 (f : Int)) := by rw [← hf]; exact km2.cell 1
          obtain ⟨d1, hd1⟩ : ∃ d1 : LNode, d1 = { d with votes := d.votes.set f true } := ⟨_, rfl⟩
          have HPD : Hid (votedP d m = if mostP d1 d1.votes then begG d1 else (d1, [])) := by show _ = _; rw [HP3.out, hf, Int.toNat_natCast, hd1]
          have hb1 : GB d1 := by rw [hd1]; exact ⟨hb.base, hb.bt, hb.len, hb.term, hb.commit⟩
          have hq1 : d1.votes.length = d.n ∧ d1.n = d.n ∧ d1.id = d.id ∧ d1.log = d.log ∧ d1.term = d.term := by rw [hd1]; exact ⟨by show (d.votes.set f true).length = _; rw [List.length_set]; exact hvl, rfl, rfl, rfl, rfl⟩
          have HQ1 := Lib.hid hq1
          have HD1 := Lib.hid hd1
          have HF1 := Lib.hid hf
          have HVL := Lib.hid hvl
          clear hd1 hq1 HP3 hf hvl
          obtain ⟨gv, vc, hV, _, _, _⟩ := BoE.own_at N2.vot hfl
          subst hV
          have n12 : w2.cell? ⟨g, 12, none⟩ = some (.slice (some ⟨gv, 0, none⟩) d.votes.length vc) := N2.blk.cell 12
          go_still_tail 7, (by kernel_rfl)
          clear n12 s1
          have N3 := N2.below ((Below.refl _ _).drew)
          have B3 : BlP F w w2.drew := .of_below (b2.drew)
          clear N2 b2 km2
          change wpList _ _ _ _ _ w2.drew
          generalize w2.drew = w3 at *
          obtain ⟨gv', vc', e', cv, fv, hvl2⟩ := BoE.own_at N3.vot hfl
          obtain rfl : gv = gv' := by injection e' with e1 _ _; injection Option.some.inj e1
          have N4 := N3.setVot hfl true
          rw [← HD1.out] at N4
          have B4 := B3.setCell (p := ⟨gv, f, none⟩) (fun h => (HF.out gv h).2.2.2.1 rfl) (.bool true)
          go_upto_region 7 with fail
          clear cv fv hvl2 N3 B3 hfi
          generalize (w3.setCell ⟨gv, f, none⟩ (.bool true)) = w4 at *
          have N4' : NodeAt w4 g S E (.slice (some ⟨gv, 0, none⟩) d1.votes.length vc) M X d1 := by rw [show d1.votes.length = d.votes.length by rw [HQ1.out.1, HVL.out]]; exact N4
          have T := most_any g E _ M X d1 _ d1.votes w4 N4.blk N4'.vot (by rw [HQ1.out.1]; omega)
          rw [show d1.votes.length = d.votes.length by rw [HQ1.out.1, HVL.out]] at T
          have n12 : w4.cell? ⟨g, 12, none⟩ = some (.slice (some ⟨gv, 0, none⟩) d.votes.length vc) := N4.blk.cell 12
          have D4 : ND w4 g F d1 := ⟨_, _, _, _, _, N4, HF.out⟩
          clear N4 N4'
          go_wp2_with fail
          refine T.mono ?_
          clear T n12
          rintro en w5 ⟨rfl, rfl⟩
          cases hm : mostP d1 d1.votes with
          | true =>
            have HE : Hid (votedP d m = begG d1) := by show _ = _; rw [HPD.out, hm]; rfl
            clear hm HPD
            have T := begin_any g F d1 w5 D4 hb1 (by rw [HQ1.out.2.2.2.1]; exact hbl) (by rw [HQ1.out.2.1]; exact hn1) (by rw [HQ1.out.2.1]; exact hn5) (by rw [HQ1.out.2.1, HQ1.out.2.2.1]; exact hi)
            rw [← HE.out] at T
            clear D4
            go_wp2_with fail
            refine T.mono ?_
            clear T
            intro en w6 h6
            obtain ⟨A5, c5, k5, rfl, h7⟩ := h6.mono B4 (fun b _ h => h)
            go_wp2_with fail
            go_ret
            exact ⟨A5, c5, k5, rfl, h7⟩
          | false =>
            have HE : Hid (votedP d m = (d1, [])) := by show _ = _; rw [HPD.out, hm]; rfl
            clear hm HPD
            go_wp2_with fail
            go_ret
            rw [HE.out]
            exact RetMs.nil_ D4.all (fun b _ h => .inl h) (fun b h => .inr h) B4
        · have hti2 : ((m.term : Int) != (d.term : Int)) = true := by rw [bne_iff_ne]; omega
          have HE : votedP d m = (d, []) := by rw [HP2.out, if_pos (.inr (.inr htt))]
          have HR := Lib.hid (HNO.out HE)
          clear HP2 HE HNO htt hrole hr
          go_quiet (fail)
          go_upto_region 4 with fail
          go_quiet (fail)
          go_wp2_with fail
          go_ret
          try rw [HTW.out]
          exact HR.out _
      · have hri : (d.role != 2) = true := by rw [bne_iff_ne]; exact hrole
        have HE : votedP d m = (d, []) := by rw [HP2.out, if_pos (.inr (.inl hrole))]
        have HR := Lib.hid (HNO.out HE)
        clear HP2 HE HNO hrole hr
        go_quiet (fail)
        go_upto_region 4 with fail
        go_quiet (fail)
        go_wp2_with fail
        go_ret
        try rw [HTW.out]
        exact HR.out _
end Go.Proofs.Ytjpcekpllfelhaa
