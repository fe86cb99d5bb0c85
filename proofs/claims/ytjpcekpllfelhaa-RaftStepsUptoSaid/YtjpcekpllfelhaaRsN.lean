/- preVoted, vote, voted. (Printed by wip/gen_rsn.py.) -/
import Derived.Test.YtjpcekpllfelhaaRsM
namespace Go.Proofs.Ytjpcekpllfelhaa
open Go.RowKit

set_option maxRecDepth 100000 in
set_option maxHeartbeats 4000000 in
theorem preVoted_any (g : Nat) (F : Nat → Prop) (d : LNode) (A : Option Addr) (c : Nat) (m : LMsg) (w : World) (hd : ND w g F d) (hb : GB d) (hbl : d.log.length + 1 ≤ 1048576) (hn1 : 1 ≤ d.n) (hn5 : d.n ≤ 12) (hi : d.id < d.n) (hr : d.role = 1 → d.votes.length = d.n) (hf1 : 0 ≤ m.frm) (hf2 : m.frm < (d.n : Int)) (htm : m.term ≤ 4611686018427387904) :
    Calls Try.prog 37 #[.pointer (some ⟨g, 0, none⟩), .agg (msgC A c m)] w (RetMs g F (preVotedP d m) w) := by
  have HP : Hid (preVotedP d m = if m.ok = false then (if d.term < m.term then followP d m.term (-1) else d, []) else if d.role ≠ 1 ∨ m.term ≠ d.term + 1 then (d, []) else if mostP { d with votes := d.votes.set m.frm.toNat true } (d.votes.set m.frm.toNat true) then stG { d with votes := d.votes.set m.frm.toNat true } else ({ d with votes := d.votes.set m.frm.toNat true }, [])) := rfl
  obtain ⟨S, E, V, M, X, hN, hF⟩ := hd
  have HF := Lib.hid hF
  clear hF
  rw [show msgC A c m = #[.int .i64 m.kind, .int .i64 m.frm, .int .i64 m.dst, .int .u64 (m.term : Int), .int .u64 (m.index : Int), .int .u64 (m.logTerm : Int), .int .u64 (m.commit : Int), .slice A m.ents.length c, .bool m.ok, .slice none 0 0] from rfl]
  have km := Blk.new w 58 #[.int .i64 m.kind, .int .i64 m.frm, .int .i64 m.dst, .int .u64 (m.term : Int), .int .u64 (m.index : Int), .int .u64 (m.logTerm : Int), .int .u64 (m.commit : Int), .slice A m.ents.length c, .bool m.ok, .slice none 0 0]
  have b1 : Below w.heap.size w (w.alloc (.cells #[.int .i64 m.kind, .int .i64 m.frm, .int .i64 m.dst, .int .u64 (m.term : Int), .int .u64 (m.index : Int), .int .u64 (m.logTerm : Int), .int .u64 (m.commit : Int), .slice A m.ents.length c, .bool m.ok, .slice none 0 0] 58)) := (Below.refl _ _).alloc (Nat.le_refl _) _
  have N1 := hN.below b1
  have hgl := hN.blk.lt
  clear hN
  go_enter Try.func37, Try.ntmps37
  go_upto_region 1 with fail
  change Code.wp _ _ _ _ (w.alloc (.cells #[.int .i64 m.kind, .int .i64 m.frm, .int .i64 m.dst, .int .u64 (m.term : Int), .int .u64 (m.index : Int), .int .u64 (m.logTerm : Int), .int .u64 (m.commit : Int), .slice A m.ents.length c, .bool m.ok, .slice none 0 0] 58))
  generalize (w.alloc (.cells #[.int .i64 m.kind, .int .i64 m.frm, .int .i64 m.dst, .int .u64 (m.term : Int), .int .u64 (m.index : Int), .int .u64 (m.logTerm : Int), .int .u64 (m.commit : Int), .slice A m.ents.length c, .bool m.ok, .slice none 0 0] 58)) = w1 at *
  have s8 : w1.cell? ⟨w.heap.size, 8, none⟩ = some (.bool m.ok) := km.cell 8
  have s3 : w1.cell? ⟨w.heap.size, 3, none⟩ = some (.int .u64 (m.term : Int)) := km.cell 3
  have n0 : w1.cell? ⟨g, 0, none⟩ = some (.int .u64 (d.term : Int)) := N1.blk.cell 0
  obtain ⟨ok, hok⟩ : ∃ ok, ok = m.ok := ⟨_, rfl⟩
  rw [← hok] at s8
  have HOK := Lib.hid hok
  clear hok
  cases ok with
  | false =>
    have HP2 : Hid (preVotedP d m = (if d.term < m.term then followP d m.term (-1) else d, [])) := by show _ = _; rw [HP.out, if_pos HOK.out.symm]
    clear HP
    by_cases ht : d.term < m.term
    · have hti : (d.term : Int) < (m.term : Int) := by omega
      have HE : Hid (preVotedP d m = (followP d m.term (-1), [])) := by show _ = _; rw [HP2.out, if_pos ht]
      clear HP2 ht
      go_upto_region 2 with fail
      go_quiet (fail)
      go_upto_region 3 with fail
      have dq : Below w1.heap.size w1 (w1.drewN nq) := below_drewN (Below.refl _ _) nq
      have N2 := N1.below dq
      have b2 := below_step b1 dq
      have km2 := km.drewN nq
      clear N1 b1 km dq s8 s3 n0
      generalize w1.drewN nq = w2 at *
      have s3 : w2.cell? ⟨w.heap.size, 3, none⟩ = some (.int .u64 (m.term : Int)) := km2.cell 3
      have T := follow_any g S E V M X d m.term (-1) w2 N2
      go_wp2_with fail
      refine T.mono ?_
      clear T
      rintro en w4 ⟨rfl, g4, N4⟩
      have B4 := (BlP.of_below b2).grown g4 (fun b e h => (HF.out b h).1 (Option.some.inj e).symm)
      go_wp2_with fail
      go_ret
      rw [HE.out]
      exact RetMs.nil_ (ND.all ⟨_, _, _, _, _, N4, HF.out⟩) (fun b _ h => .inl h) (fun b h => .inr h) B4
    · have hti : ¬ (d.term : Int) < (m.term : Int) := by omega
      have HE : Hid (preVotedP d m = (d, [])) := by show _ = _; rw [HP2.out, if_neg ht]
      clear HP2 ht
      go_upto_region 2 with fail
      go_quiet (fail)
      go_wp2_with fail
      go_ret
      rw [HE.out]
      exact RetMs.nil_ (ND.all ⟨_, _, _, _, _, N1.below (below_drewN (Below.refl _ _) _), HF.out⟩) (fun b _ h => .inl h) (fun b h => .inr h) (.of_below (below_drewN b1 _))
  | true =>
    have HP2 : Hid (preVotedP d m = if d.role ≠ 1 ∨ m.term ≠ d.term + 1 then (d, []) else if mostP { d with votes := d.votes.set m.frm.toNat true } (d.votes.set m.frm.toNat true) then stG { d with votes := d.votes.set m.frm.toNat true } else ({ d with votes := d.votes.set m.frm.toNat true }, [])) := by
      show _ = _; rw [HP.out, if_neg (by rw [← HOK.out]; simp)]
    clear HP
    have n8 : w1.cell? ⟨g, 8, none⟩ = some (.int .i64 d.role) := N1.blk.cell 8
    have htb := hb.term
    have hwr : IntKind.u64.wrap ((d.term : Int) + 1) = (d.term : Int) + 1 := by simp [IntKind.wrap, IntKind.bits, IntKind.signed]; omega
    have hno : preVotedP d m = (d, []) → ∀ q, RetMs g F (preVotedP d m) w (.returned (.slice none 0 0)) (w1.drewN q) := fun h q => by
      rw [h]
      exact RetMs.nil_ (ND.all ⟨_, _, _, _, _, N1.below (below_drewN (Below.refl _ _) _), HF.out⟩) (fun b _ h => .inl h) (fun b h => .inr h) (.of_below (below_drewN b1 _))
    have HNO := Lib.hid hno
    clear hno
    by_cases hrole : d.role = 1
    · have hri : (d.role != 1) = false := by rw [bne_eq_false_iff_eq]; exact hrole
      have hvl := hr hrole
      by_cases htt : m.term = d.term + 1
      · have hti : ((m.term : Int) != (d.term : Int) + 1) = false := by rw [bne_eq_false_iff_eq]; omega
        have HP3 : Hid (preVotedP d m = if mostP { d with votes := d.votes.set m.frm.toNat true } (d.votes.set m.frm.toNat true) then stG { d with votes := d.votes.set m.frm.toNat true } else ({ d with votes := d.votes.set m.frm.toNat true }, [])) := by
          show _ = _; rw [HP2.out, if_neg (by omega)]
        have htg : d.term + 1 ≤ 4611686018427387904 := by omega
        clear HP2 htt hrole hr HNO
        go_upto_region 5 with fail
        go_quiet (fail)
        go_upto_region 7 with fail
        have dq : Below w1.heap.size w1 (w1.drewN nq) := below_drewN (Below.refl _ _) nq
        have N2 := N1.below dq
        have b2 := below_step b1 dq
        have km2 := km.drewN nq
        clear N1 b1 km dq s8 s3 n0 n8
        generalize w1.drewN nq = w2 at *
        clear hwr hri hti
        obtain ⟨f, hf⟩ : ∃ f : Nat, m.frm = (f : Int) := ⟨m.frm.toNat, by omega⟩
        have hfl : f < d.votes.length := by omega
        have hfi : (f : Int) < (d.votes.length : Int) := by omega
        have s1 : w2.cell? ⟨w.heap.size, 1, none⟩ = some (.int .i64 (f : Int)) := by rw [← hf]; exact km2.cell 1
        obtain ⟨d1, hd1⟩ : ∃ d1 : LNode, d1 = { d with votes := d.votes.set f true } := ⟨_, rfl⟩
        have HPD : Hid (preVotedP d m = if mostP d1 d1.votes then stG d1 else (d1, [])) := by show _ = _; rw [HP3.out, hf, Int.toNat_natCast, hd1]
        have hb1 : GB d1 := by rw [hd1]; exact ⟨hb.base, hb.bt, hb.len, hb.term, hb.commit⟩
        have hq1 : d1.votes.length = d.n ∧ d1.n = d.n ∧ d1.id = d.id ∧ d1.log = d.log ∧ d1.term = d.term := by rw [hd1]; exact ⟨by show (d.votes.set f true).length = _; rw [List.length_set]; exact hvl, rfl, rfl, rfl, rfl⟩
        have HQ1 := Lib.hid hq1
        have HD1 := Lib.hid hd1
        have HF1 := Lib.hid hf
        have HVL := Lib.hid hvl
        clear hd1 hq1 HP3 hf hvl
        obtain ⟨gv, vc, hV, _, _, _⟩ := BoE.own_at N2.vot hfl
        subst hV
        have n12 : w2.cell? ⟨g, 12, none⟩ = some (.slice (some ⟨gv, 0, none⟩) d.votes.length vc) := N2.blk.cell 12
        go_still_tail 7, (by kernel_rfl)
        clear n12 s1
        have N3 := N2.below ((Below.refl _ _).drew)
        have B3 : BlP F w w2.drew := .of_below (b2.drew)
        clear N2 b2 km2
        change wpList _ _ _ _ _ w2.drew
        generalize w2.drew = w3 at *
        obtain ⟨gv', vc', e', cv, fv, hvl2⟩ := BoE.own_at N3.vot hfl
        obtain rfl : gv = gv' := by injection e' with e1 _ _; injection Option.some.inj e1
        have N4 := N3.setVot hfl true
        rw [← HD1.out] at N4
        have B4 := B3.setCell (p := ⟨gv, f, none⟩) (fun h => (HF.out gv h).2.2.2.1 rfl) (.bool true)
        go_upto_region 8 with fail
        clear cv fv hvl2 N3 B3 hfi
        generalize (w3.setCell ⟨gv, f, none⟩ (.bool true)) = w4 at *
        have N4' : NodeAt w4 g S E (.slice (some ⟨gv, 0, none⟩) d1.votes.length vc) M X d1 := by rw [show d1.votes.length = d.votes.length by rw [HQ1.out.1, HVL.out]]; exact N4
        have T := most_any g E _ M X d1 _ d1.votes w4 N4.blk N4'.vot (by rw [HQ1.out.1]; omega)
        rw [show d1.votes.length = d.votes.length by rw [HQ1.out.1, HVL.out]] at T
        have n12 : w4.cell? ⟨g, 12, none⟩ = some (.slice (some ⟨gv, 0, none⟩) d.votes.length vc) := N4.blk.cell 12
        have D4 : ND w4 g F d1 := ⟨_, _, _, _, _, N4, HF.out⟩
        clear N4 N4'
        go_wp2_with fail
        refine T.mono ?_
        clear T n12
        rintro en w5 ⟨rfl, rfl⟩
        cases hm : mostP d1 d1.votes with
        | true =>
          have HE : Hid (preVotedP d m = stG d1) := by show _ = _; rw [HPD.out, hm]; rfl
          clear hm HPD
          have T := stand_any g F d1 w5 D4 hb1 (by rw [HQ1.out.2.2.2.1]; exact hbl) (by rw [HQ1.out.2.2.2.2]; exact htg) (by rw [HQ1.out.2.1]; exact hn1) (by rw [HQ1.out.2.1]; exact hn5) (by rw [HQ1.out.2.1, HQ1.out.2.2.1]; exact hi)
          rw [← HE.out] at T
          clear D4
          go_wp2_with fail
          refine T.mono ?_
          clear T
          intro en w6 h6
          obtain ⟨A5, c5, k5, rfl, h7⟩ := h6.mono B4 (fun b _ h => h)
          go_wp2_with fail
          go_ret
          exact ⟨A5, c5, k5, rfl, h7⟩
        | false =>
          have HE : Hid (preVotedP d m = (d1, [])) := by show _ = _; rw [HPD.out, hm]; rfl
          clear hm HPD
          go_wp2_with fail
          go_ret
          rw [HE.out]
          exact RetMs.nil_ D4.all (fun b _ h => .inl h) (fun b h => .inr h) B4
      · have hti : ((m.term : Int) != (d.term : Int) + 1) = true := by rw [bne_iff_ne]; omega
        have HE : preVotedP d m = (d, []) := by rw [HP2.out, if_pos (.inr htt)]
        have HR := Lib.hid (HNO.out HE)
        clear HP2 HE HNO htt hrole hr
        go_upto_region 5 with fail
        go_quiet (fail)
        go_wp2_with fail
        go_ret
        exact HR.out _
    · have hri : (d.role != 1) = true := by rw [bne_iff_ne]; exact hrole
      have HE : preVotedP d m = (d, []) := by rw [HP2.out, if_pos (.inl hrole)]
      have HR := Lib.hid (HNO.out HE)
      clear HP2 HE HNO hrole hr
      go_upto_region 5 with fail
      go_quiet (fail)
      go_wp2_with fail
      go_ret
      exact HR.out _
end Go.Proofs.Ytjpcekpllfelhaa
