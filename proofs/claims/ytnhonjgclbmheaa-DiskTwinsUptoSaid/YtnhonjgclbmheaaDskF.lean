/- The walk of DiskTwins. (Printed by wip/gen_dskf.py.) -/
import Derived.Test.YtnhonjgclbmheaaTwo
namespace Go.Proofs.Ytnhonjgclbmheaa
open Go.RowKit

theorem path_any (P : Option Addr) (w : World) : Calls Try.prog 22 #[.agg #[.pointer P, .string ⟨#[112, 47]⟩], .string ⟨#[120]⟩] w (fun en w' => en = .returned (.string ⟨#[112, 47, 120]⟩) ∧ Below w.heap.size w w') := by
  have dA : Below w.heap.size w (w.alloc (.cells #[.pointer P, .string ⟨#[112, 47]⟩] 56)) := (Below.refl _ _).alloc (Nat.le_refl _) _
  go_enter Try.func22, Try.ntmps22
  go_wp2_with fail
  go_ret
  exact ⟨rfl, dA⟩
set_option maxRecDepth 100000 in
set_option maxHeartbeats 8000000 in
theorem disktwins_any (room : Int) (A0 A9 : Option Addr) (acts more : List LAct) (c0 c9 : Nat) (w : World) (hroom : room ≤ 9223372036854775807) (ha : Sl ActE w A0 acts) (hm : Sl ActE w A9 more) (hlen : acts.length + more.length ≤ 1048573) :
    Calls Try.prog 5 #[.int .i64 room, .slice A0 acts.length c0, .slice A9 more.length c9] w fun e w' => e = .returned (.bool true) ∧ Below w.heap.size w w' := by
  go_enter Try.func5, Try.ntmps5
  go_wp2_with fail
  refine (awake_any _).mono ?_
  rintro e w5 ⟨rfl, b5⟩
  go_wp2_with fail
  refine (newD_any room w5).mono ?_
  rintro e w6 ⟨rfl, hd6, b6⟩
  have b06 := b5.trans (b6.mono b5.size)
  have lb : w5.heap.size < w6.heap.size := hd6.lt
  go_wp2_with fail
  refine (rnew_any room (fun _ => False) w6).mono ?_
  show ∀ (en : Ending) (w' : World), RetRD ⟨[], max 0 room, -1, false⟩ _ w6 en w' → _
  rintro e w7 ⟨A, c, rfl, h7, hc7, hm7, b7⟩
  have b07 := b06.trans (b7.mono b06.size)
  have d8 : Below w7.heap.size w7 (w7.alloc (.cells (rcs A c ⟨[], max 0 room, -1, false⟩) 45)) := (Below.refl _ _).alloc (Nat.le_refl _) _
  have k8 := Blk.new w7 45 (rcs A c ⟨[], max 0 room, -1, false⟩)
  have s57 := b5.size
  have s07 := b07.size
  have s67 := b7.size
  have START : BothAt w w5.heap.size w7.heap.size room 0 (w7.alloc (.cells (rcs A c ⟨[], max 0 room, -1, false⟩) 45)) :=
    ⟨fun g => g ≠ w5.heap.size, _, _, A, c, _, ((hd6.below b7).below d8).mono (fun g h => .inl (.inl h)), fun g h => by omega, by omega,
      ((h7.lo.below d8).mono fun g _ h => by rcases h with ⟨h | h, h2⟩; exact h.elim; exact ⟨by omega, by omega⟩), ⟨hc7, hm7⟩, k8, Rel.new_ room, Sz.new_, rfl, b07.trans (d8.mono s07)⟩
  dsimp only
  go_upto_region 4 with fail
  change Code.wp _ _ _ _ (w7.alloc (.cells (rcs A c ⟨[], max 0 room, -1, false⟩) 45))
  generalize w7.alloc (.cells (rcs A c ⟨[], max 0 room, -1, false⟩) 45) = w8 at *
  have l57 : w5.heap.size < w7.heap.size := by omega
  have l05 : w.heap.size ≤ w5.heap.size := s57
  have hl3 := Lib.hid l57
  have hl4 := Lib.hid l05
  clear d8 k8 h7 hc7 hm7 hd6 b7 b07 b06 b6 b5 lb l57 l05 s57 s07 s67
  generalize w5.heap.size = bd at *
  generalize w7.heap.size = tb at *
  have HS := START
  clear START
  go_wp2_with fail
  go_loopw [29] (fun v29 wr => ∃ k : Nat, k ≤ acts.length ∧ v29 = .int .i64 (k : Int) ∧ BothAt w bd tb room k wr) (fun v29 _ => acts.length - (Lib.intOf v29).toNat)
  case atStart => exact ⟨0, Nat.zero_le _, rfl, HS⟩
  case round =>
    clear HS
    obtain ⟨k, hk, rfl, F, d, ps, A1, c1, W, hd, hF0, hFt, hW, hc, kT, hR, hS, hrm, br⟩ := hrel
    by_cases hlt : k < acts.length
    · obtain ⟨ad, X, xc, K, kc, rfl, hadb, e0, e1, e2, e3, e4, e5, hA⟩ := ActE.at_ ((SlS.lo ha).below br) hlt
      generalize acts[k] = a at *
      have dA : Below wr.heap.size wr (wr.alloc (.cells #[.int .i64 a.kind, .string ⟨a.name.toArray⟩, .string ⟨a.tn.toArray⟩, .slice X a.data.length xc, .int .i64 a.n, .slice K a.keeps.length kc] 49)) := (Below.refl _ _).alloc (Nat.le_refl _) _
      have kA := Blk.new wr 49 #[.int .i64 a.kind, .string ⟨a.name.toArray⟩, .string ⟨a.tn.toArray⟩, .slice X a.data.length xc, .int .i64 a.n, .slice K a.keeps.length kc]
      go_upto_region 7 with fail
      change Code.wp _ _ _ _ (wr.alloc (.cells #[.int .i64 a.kind, .string ⟨a.name.toArray⟩, .string ⟨a.tn.toArray⟩, .slice X a.data.length xc, .int .i64 a.n, .slice K a.keeps.length kc] 49))
      generalize wr.alloc (.cells #[.int .i64 a.kind, .string ⟨a.name.toArray⟩, .string ⟨a.tn.toArray⟩, .slice X a.data.length xc, .int .i64 a.n, .slice K a.keeps.length kc] 49) = wA at *
      have hW' := hW.lo.below dA
      have hA' : AOk wA (fun g => F g ∨ wr.heap.size ≤ g) X xc K kc a := (hA.below dA).mono fun g _ h => .inl (hF0 g h.2)
      have hS0 := hS.rel hR (by omega) (Nat.le_refl _)
      have hSs := hS.step d a hA.name hA.tn
      have hRs := (hR.step a hA.nmax).2
      have hSm : Sz (k + 1) ((k + 1) * 1048576) (doP d ps a).2.2 := hSs.1.more (Nat.le_refl _) (by have := hA.dlen; omega)
      have T := do_any bd _ _ d ps A1 c1 W a X xc K kc wA (hd.below dA) (fun g h => .inl h.1.1) hW' hc hA' hR hS0.2.2 ⟨by rw [hrm]; omega, hR.left⟩ hS0.1 hS0.2.1
      have hrm2 : (doP d ps a).2.1.room = max 0 room := hSs.2.trans hrm
      have kTA := kT.below dA kT.lt
      have sA := dA.size
      have lT := kT.lt
      have lA := kA.lt
      have bA := below_step br dA
      clear hSs hS hR hW hd hS0 hA hA' hW' hrm kT dA e0 e1 e2 e3 e4 e5
      go_wp2_with (first
        | ((with_reducible refine wpList_load_blk rfl 45 (.tmp 8) rfl tb ?_ 45 _ _ kTA Try.underlying45 ?_ Try.size_RD ?_ ?_); rfl; rfl; rfl)
        | ((with_reducible refine wpList_load_blk rfl 49 (.tmp 10) rfl wr.heap.size ?_ 49 _ _ kA Try.underlying49 ?_ Try.size_Act ?_ ?_); rfl; rfl; rfl))
      refine T.mono ?_
      clear T
      generalize doP d ps a = rp at *
      generalize doR W a = rr at *
      obtain ⟨e, d', ps'⟩ := rp
      obtain ⟨W', e'⟩ := rr
      show ∀ (en : Ending) (w' : World), RetDo bd _ _ (e, d', ps') (W', e') wA en w' → _
      rintro en wB ⟨A2, c2, F', rfl, hd2, hF2, h2, hc2, hm2, pB⟩
      replace h2 : SlS RFE wB _ A2 W'.files := h2
      replace hc2 : W'.files.length ≤ c2 := hc2
      replace hRs : Rel d' ps' W' := hRs
      replace hSm : Sz (k + 1) ((k + 1) * 1048576) ps' := hSm
      replace hrm2 : d'.room = max 0 room := hrm2
      have kTB := pB.blk kTA (.inl hFt)
      have bB := pB.low bA bA.size (fun g hg => .inl (hF0 g hg))
      have hFT : F' tb := hF2 tb (.inl hFt) (by omega)
      dsimp only
      go_upto_region 8 with ((with_reducible refine wpList_store_blk rfl 45 (.tmp 8) (.tmp 38) rfl tb 45 _ (rcs A2 c2 W') ?_ ?_ kTB Try.size_RD ?_ ?_ ?_ ?_); rfl; rfl; rfl; rfl; (simp [rcs, Value.oneCell']); intro wC kC gC zC)
      have bC := bB.grown gC bB.size (fun g e => by have h1 := Option.some.inj e; have := hl3.out; have := hl4.out; omega)
      have hdC := hd2.grown gC (fun g e => .inl (by have h1 := Option.some.inj e; subst h1; exact hFT))
      have hWC := h2.same (.of_grown gC fun g hg e => by
        have h1 := Option.some.inj e
        subst h1
        rcases hg with hg | hg
        · exact hg.1.2 rfl
        · omega)
      have HB : BothAt w bd tb room (k + 1) wC := ⟨_, d', ps', A2, c2, W', hdC, fun g hg => .inl (hF2 g (.inl (hF0 g hg)) (by have := br.size; omega)), .inl hFT, hWC.mono (fun g _ hg => by
        rcases hg with hg | hg
        · exact ⟨.inl (hF2 g (.inl hg.1.1) (by have := hg.2; omega)), hg.1.2⟩
        · exact ⟨.inl hg.1, by omega⟩), ⟨hc2, hm2⟩, kC, hRs, hSm, hrm2, bC⟩
      clear kTB kTA kA gC zC hd2 h2 pB bB bA br hSm hF2 hrm2 hRs hdC hWC kC bC hFT
      go_wp2_with fail
      go_roundw
      case rel => exact ⟨k + 1, by omega, by simp, HB⟩
      case measure => simp [Lib.intOf]; omega
    · obtain rfl : k = acts.length := by omega
      have hn1 : ∀ q ∈ ps, q.1.length ≤ 140737488355328 := fun q hq => Nat.le_trans (hS.names q hq) (by decide)
      have T := twinD_any hd (by have := hS.len; omega) hn1
      go_wp2_with fail
      refine T.mono ?_
      clear T hn1
      rintro en wt ⟨rfl, ⟨ps2, hdt, hpm⟩, bt⟩
      have kTt := kT.below bt kT.lt
      have lT := kT.lt
      have st := hdt.lt
      have hdD := hd.below bt
      have hWt := hW.lo.below bt
      have b0t := below_step br bt
      have sr := br.size
      clear hd hW kT bt hlt
      go_upto_region 10 with fail
      generalize wr.heap.size = td at *
      go_cut [12, 13] (fun v12 v13 wx => ∃ g1 g2 : Nat, v12 = .pointer (some ⟨g1, 0, none⟩) ∧ v13 = .pointer (some ⟨g2, 0, none⟩) ∧ g1 ≠ g2 ∧ wt.heap.size ≤ g1 ∧ wt.heap.size ≤ g2 ∧ Blk wx g1 45 (rcs A1 c1 W) ∧ Blk wx g2 45 (rcs A1 c1 W) ∧ Below wt.heap.size wt wx)
      case first =>
        refine wp_region_noPanic ?_
        refine wp_region_held_drew (S := fun Y => Below wt.heap.size wt Y) (by kernel_rfl) ((Below.refl _ _).drew) (fun hH => ?_)
        refine wpAnyH_take (i := 0) (v := ?_) rfl (by kernel_rfl) (by kernel_rfl) (by kernel_rfl) (fun _ _ _ h => h) (Or.inl ⟨by rfl, ?_⟩) hH ?_
        case refine_2 => intro w hSw; have hS2 : Below wt.heap.size wt w := hSw; have k2 := kTt.below hS2 kTt.lt; have s0 : w.cell? ⟨_, 0, none⟩ = some (.slice A1 W.files.length c1) := Blk.cell k2 0; have s1 : w.cell? ⟨_, 1, none⟩ = some (.int .i64 W.room) := Blk.cell k2 1; have s2 : w.cell? ⟨_, 2, none⟩ = some (.int .i64 W.armed) := Blk.cell k2 2; have s3 : w.cell? ⟨_, 3, none⟩ = some (.bool W.dead) := Blk.cell k2 3; clear k2 hS2 hSw; go_simp; try with_reducible rfl
        try simp only [List.getElem_toArray, List.getElem_cons_zero, Act.put, List.setIfInBounds_toArray, List.set_cons_zero, List.set_cons_succ]
        refine wpAnyH_take (i := 1) (v := ?_) rfl (by kernel_rfl) (by kernel_rfl) (by kernel_rfl) (fun _ _ _ h => h) (Or.inl ⟨by rfl, ?_⟩) hH ?_
        case refine_2 => intro w hSw; have hS2 : Below wt.heap.size wt w := hSw; have k2 := kTt.below hS2 kTt.lt; have s0 : w.cell? ⟨_, 0, none⟩ = some (.slice A1 W.files.length c1) := Blk.cell k2 0; have s1 : w.cell? ⟨_, 1, none⟩ = some (.int .i64 W.room) := Blk.cell k2 1; have s2 : w.cell? ⟨_, 2, none⟩ = some (.int .i64 W.armed) := Blk.cell k2 2; have s3 : w.cell? ⟨_, 3, none⟩ = some (.bool W.dead) := Blk.cell k2 3; clear k2 hS2 hSw; go_simp; try with_reducible rfl
        try simp only [List.getElem_toArray, List.getElem_cons_zero, List.getElem_cons_succ, Act.put, List.setIfInBounds_toArray, List.set_cons_zero, List.set_cons_succ]
        refine wpAnyH_ready (rs := [2, 3]) (by kernel_rfl) (by simp) ?_
        refine AllReadyH.cons rfl (fun K hK => ?_) (AllReadyH.cons rfl (fun K hK => ?_) AllReadyH.nil)
        · go_simp
          change K _ (wt.drew.alloc (.cells (rcs none 0 ⟨[], 0, 0, false⟩) 45))
          have k1 : Blk (wt.drew.alloc (.cells (rcs none 0 ⟨[], 0, 0, false⟩) 45)) wt.heap.size 45 (rcs none 0 ⟨[], 0, 0, false⟩) := Blk.new wt.drew 45 _
          have n1 : Below wt.heap.size wt (wt.drew.alloc (.cells (rcs none 0 ⟨[], 0, 0, false⟩) 45)) := below_step (b := wt.drew) hH ((Below.refl _ _).alloc (Nat.le_refl _) _)
          generalize (wt.drew.alloc (.cells (rcs none 0 ⟨[], 0, 0, false⟩) 45)) = wx at *
          refine hK.out _ _ n1 (fun hH2 => ?_)
          clear hK K
          try dsimp only
          try simp only [List.getElem_toArray, List.getElem_cons_zero, List.getElem_cons_succ, Act.put, List.setIfInBounds_toArray, List.set_cons_zero, List.set_cons_succ]
          refine wpAnyH_ready (rs := [3]) (by kernel_rfl) (by simp) ?_
          refine AllReadyH.cons rfl (fun K hK => ?_) AllReadyH.nil
          go_simp
          change K _ (wx.alloc (.cells (rcs none 0 ⟨[], 0, 0, false⟩) 45))
          have dx : Below wx.heap.size wx (wx.alloc (.cells (rcs none 0 ⟨[], 0, 0, false⟩) 45)) := (Below.refl _ _).alloc (Nat.le_refl _) _
          have k2 := Blk.new wx 45 (rcs none 0 ⟨[], 0, 0, false⟩)
          have k1' := k1.below dx k1.lt
          have n2 := below_step n1 dx
          have lx := k1.lt
          have ly := n1.size
          generalize (wx.alloc (.cells (rcs none 0 ⟨[], 0, 0, false⟩) 45)) = wy at *
          refine hK.out _ _ n2 (fun hH3 => ?_)
          clear hK K
          try dsimp only
          try simp only [List.getElem_toArray, List.getElem_cons_zero, List.getElem_cons_succ, Act.put, List.setIfInBounds_toArray, List.set_cons_zero, List.set_cons_succ]
          refine wpAnyH_ready (rs := [4]) (by kernel_rfl) (by simp) ?_
          refine AllReadyH.cons rfl (fun K hK => ?_) AllReadyH.nil
          refine step_store_blk rfl 45 (.tmp 12) (.tmp 43) rfl wt.heap.size 45 _ (rcs A1 c1 W) rfl rfl k1' Try.size_RD rfl rfl (by simp [rcs, Value.oneCell']) ?_
          intro wp kp gp zp
          have n3 := n2.grown gp n2.size (fun g e => by have h1 := Option.some.inj e; omega)
          have kq := k2.grown gp (fun e => by have h1 := Option.some.inj e; omega)
          refine hK.out _ _ n3 (fun hH4 => ?_)
          clear hK K
          try dsimp only
          try simp only [List.getElem_toArray, List.getElem_cons_succ, List.getElem_cons_zero, Act.put]
          refine wpAnyH_ready (rs := [5]) (by kernel_rfl) (by simp) ?_
          refine AllReadyH.cons rfl (fun K hK => ?_) AllReadyH.nil
          refine step_store_blk rfl 45 (.tmp 13) (.tmp 44) rfl wx.heap.size 45 _ (rcs A1 c1 W) rfl rfl kq Try.size_RD rfl rfl (by simp [rcs, Value.oneCell']) ?_
          intro wq kr gr zr
          have n4 := n3.grown gr n3.size (fun g e => by have h1 := Option.some.inj e; omega)
          have ks := kp.grown gr (fun e => by have h1 := Option.some.inj e; omega)
          refine hK.out _ _ n4 (fun hH5 => ?_)
          clear hK K
          try dsimp only
          try simp only [List.getElem_toArray, List.getElem_cons_succ, List.getElem_cons_zero, Act.put]
          refine wpAnyH_done (by kernel_rfl) ?_ _
          refine NoPanic.normal ?_
          go_wp2_with fail
          go_meet
          case rel => exact ⟨wt.heap.size, wx.heap.size, rfl, rfl, by omega, by omega, by omega, ks, kr, n4⟩
        · go_simp
          change K _ (wt.drew.alloc (.cells (rcs none 0 ⟨[], 0, 0, false⟩) 45))
          have k1 : Blk (wt.drew.alloc (.cells (rcs none 0 ⟨[], 0, 0, false⟩) 45)) wt.heap.size 45 (rcs none 0 ⟨[], 0, 0, false⟩) := Blk.new wt.drew 45 _
          have n1 : Below wt.heap.size wt (wt.drew.alloc (.cells (rcs none 0 ⟨[], 0, 0, false⟩) 45)) := below_step (b := wt.drew) hH ((Below.refl _ _).alloc (Nat.le_refl _) _)
          generalize (wt.drew.alloc (.cells (rcs none 0 ⟨[], 0, 0, false⟩) 45)) = wx at *
          refine hK.out _ _ n1 (fun hH2 => ?_)
          clear hK K
          try dsimp only
          try simp only [List.getElem_toArray, List.getElem_cons_zero, List.getElem_cons_succ, Act.put, List.setIfInBounds_toArray, List.set_cons_zero, List.set_cons_succ]
          refine wpAnyH_ready (rs := [2]) (by kernel_rfl) (by simp) ?_
          refine AllReadyH.cons rfl (fun K hK => ?_) AllReadyH.nil
          go_simp
          change K _ (wx.alloc (.cells (rcs none 0 ⟨[], 0, 0, false⟩) 45))
          have dx : Below wx.heap.size wx (wx.alloc (.cells (rcs none 0 ⟨[], 0, 0, false⟩) 45)) := (Below.refl _ _).alloc (Nat.le_refl _) _
          have k2 := Blk.new wx 45 (rcs none 0 ⟨[], 0, 0, false⟩)
          have k1' := k1.below dx k1.lt
          have n2 := below_step n1 dx
          have lx := k1.lt
          have ly := n1.size
          generalize (wx.alloc (.cells (rcs none 0 ⟨[], 0, 0, false⟩) 45)) = wy at *
          refine hK.out _ _ n2 (fun hH3 => ?_)
          clear hK K
          try dsimp only
          try simp only [List.getElem_toArray, List.getElem_cons_zero, List.getElem_cons_succ, Act.put, List.setIfInBounds_toArray, List.set_cons_zero, List.set_cons_succ]
          refine wpAnyH_ready (rs := [4]) (by kernel_rfl) (by simp) ?_
          refine AllReadyH.cons rfl (fun K hK => ?_) AllReadyH.nil
          refine step_store_blk rfl 45 (.tmp 12) (.tmp 43) rfl wx.heap.size 45 _ (rcs A1 c1 W) rfl rfl k2 Try.size_RD rfl rfl (by simp [rcs, Value.oneCell']) ?_
          intro wp kp gp zp
          have n3 := n2.grown gp n2.size (fun g e => by have h1 := Option.some.inj e; omega)
          have kq := k1'.grown gp (fun e => by have h1 := Option.some.inj e; omega)
          refine hK.out _ _ n3 (fun hH4 => ?_)
          clear hK K
          try dsimp only
          try simp only [List.getElem_toArray, List.getElem_cons_succ, List.getElem_cons_zero, Act.put]
          refine wpAnyH_ready (rs := [5]) (by kernel_rfl) (by simp) ?_
          refine AllReadyH.cons rfl (fun K hK => ?_) AllReadyH.nil
          refine step_store_blk rfl 45 (.tmp 13) (.tmp 44) rfl wt.heap.size 45 _ (rcs A1 c1 W) rfl rfl kq Try.size_RD rfl rfl (by simp [rcs, Value.oneCell']) ?_
          intro wq kr gr zr
          have n4 := n3.grown gr n3.size (fun g e => by have h1 := Option.some.inj e; omega)
          have ks := kp.grown gr (fun e => by have h1 := Option.some.inj e; omega)
          refine hK.out _ _ n4 (fun hH5 => ?_)
          clear hK K
          try dsimp only
          try simp only [List.getElem_toArray, List.getElem_cons_succ, List.getElem_cons_zero, Act.put]
          refine wpAnyH_done (by kernel_rfl) ?_ _
          refine NoPanic.normal ?_
          go_wp2_with fail
          go_meet
          case rel => exact ⟨wx.heap.size, wt.heap.size, rfl, rfl, by omega, by omega, by omega, ks, kr, n4⟩
      case rest =>
        obtain ⟨g1, g2, rfl, rfl, hne, l1, l2, kX, kY, bX⟩ := hcut
        have x1 := kX.lt
        have x2 := kY.lt
        have hl3o := hl3.out
        have hl4o := hl4.out
        have sx := bX.size
        obtain ⟨B, bq1, HT, hBt, hB1, hB2, hlo, hbq, hq1, hq2⟩ : ∃ (B bq1 : Nat → Prop), Two w B room td acts.length g1 bd acts.length bq1 wc ∧ B tb ∧ B g1 ∧ B g2 ∧ Hid (∀ g, B g → w.heap.size ≤ g) ∧ Hid (∀ g, bq1 g → B g ∧ g ≠ g1) ∧ bq1 tb ∧ bq1 g2 := by
          refine ⟨fun g => g = tb ∨ g = g1 ∨ g = g2, fun g => g = tb ∨ g = g2, ?_, .inl rfl, .inr (.inl rfl), .inr (.inr rfl), ?_, ?_, .inl rfl, .inr rfl⟩
          · refine ⟨_, _, d, ps2, A1, c1, W, d, ps, A1, c1, W, hdt.below bX, hdD.below bX, fun g => ?_, fun g hg => ⟨.inl (by omega), .inl (.inl (hF0 g hg))⟩, fun g hg => ?_, below_step b0t bX, ⟨(hWt.below bX).mono fun g _ hg => ⟨⟨.inl hg.2, .inl (.inl hg.1.1)⟩, ?_⟩, hc⟩, kX, hR.perm_ hpm, hS.perm_ hpm, hrm, ⟨(hWt.below bX).mono fun g _ hg => ⟨⟨.inl hg.2, .inl (.inl hg.1.1)⟩, ?_⟩, hc⟩, fun g hg => ?_, hR, hS, hrm⟩
            · rcases Nat.lt_or_ge g td with h | h
              · exact .inl (.inl h)
              · exact .inr (.inl (.inr h))
            · rcases hg with rfl | rfl | rfl
              · exact ⟨.inl lT, .inl (.inl hFt), by omega⟩
              · exact ⟨.inr l1, .inr l1, x1⟩
              · exact ⟨.inr l2, .inr l2, x2⟩
            · have := hg.2; have := hg.1.2; rintro (h | h | h) <;> omega
            · have := hg.2; have := hg.1.2; rintro (h | h | h) <;> omega
            · rcases hg with rfl | rfl
              · exact kTt.below bX kTt.lt
              · exact kY
          · intro g hg
            rcases hg with rfl | rfl | rfl <;> omega
          · intro g hg
            rcases hg with rfl | rfl
            · exact ⟨.inl rfl, by omega⟩
            · exact ⟨.inr (.inr rfl), by omega⟩
        have hbq2 : Hid (∀ g, g = g1 → B g ∧ g ≠ g2) := by intro g hg; subst hg; exact ⟨hB1, hne⟩
        clear kX kY bX hdt hdD hWt kTt hR hS hrm hpm b0t lT st sr x1 x2 hl3o hl4o sx hne l1 l2 hF0 hFt hc br hk
        go_wp2_with fail
        go_loopw [47] (fun vi wr => ∃ k : Nat, k ≤ more.length ∧ vi = .int .i64 (k : Int) ∧ Two w B room td (acts.length + k) g1 bd acts.length bq1 wr) (fun vi _ => more.length - (Lib.intOf vi).toNat)
        case atStart => exact ⟨0, Nat.zero_le _, rfl, HT⟩
        case round =>
          clear HT
          obtain ⟨k, hk, rfl, hT⟩ := hrel
          by_cases hlt : k < more.length
          · obtain ⟨ad, X, xc, K, kc, rfl, hadb, e0, e1, e2, e3, e4, e5, hA⟩ := ActE.at_ ((SlS.lo hm).below hT.low) hlt
            generalize more[k] = a at *
            have dA : Below wr.heap.size wr (wr.alloc (.cells #[.int .i64 a.kind, .string ⟨a.name.toArray⟩, .string ⟨a.tn.toArray⟩, .slice X a.data.length xc, .int .i64 a.n, .slice K a.keeps.length kc] 49)) := (Below.refl _ _).alloc (Nat.le_refl _) _
            have kA := Blk.new wr 49 #[.int .i64 a.kind, .string ⟨a.name.toArray⟩, .string ⟨a.tn.toArray⟩, .slice X a.data.length xc, .int .i64 a.n, .slice K a.keeps.length kc]
            go_upto_region 15 with fail
            change Code.wp _ _ _ _ (wr.alloc (.cells #[.int .i64 a.kind, .string ⟨a.name.toArray⟩, .string ⟨a.tn.toArray⟩, .slice X a.data.length xc, .int .i64 a.n, .slice K a.keeps.length kc] 49))
            generalize wr.alloc (.cells #[.int .i64 a.kind, .string ⟨a.name.toArray⟩, .string ⟨a.tn.toArray⟩, .slice X a.data.length xc, .int .i64 a.n, .slice K a.keeps.length kc] 49) = wA at *
            obtain ⟨F, G, d, ps, A1, c1, W, d2, ps2, A2, c2, W2, h1, h2, h3, h4, h5, h6, h7, h8, hR, hS, hrm, h12, h13, h14, h15, h16, hnw⟩ := hT.opn dA
            have hA' : AOk wA F X xc K kc a := (hA.below dA).mono fun g _ h => (h4 g h.2).1
            have hS0 := hS.rel hR (by omega) (Nat.le_refl _)
            have hSs := hS.step d a hA.name hA.tn
            have hRs := (hR.step a hA.nmax).2
            have hSm : Sz (acts.length + k + 1) ((acts.length + k + 1) * 1048576) (doP d ps a).2.2 := hSs.1.more (Nat.le_refl _) (by have := hA.dlen; omega)
            have T := do_any td F _ d ps A1 c1 W a X xc K kc wA h1 (fun g h => h.1.1.1) h7.1.lo h7.2 hA' hR hS0.2.2 ⟨by rw [hrm]; omega, hR.left⟩ hS0.1 hS0.2.1
            have hrm2 : (doP d ps a).2.1.room = max 0 room := hSs.2.trans hrm
            have nA := hA.name
            have nT := hA.tn
            have lA := kA.lt
            have hFA := (hnw wr.heap.size (Nat.le_refl _)).1
            have H3 := Lib.hid h3
            have H4 := Lib.hid h4
            have H5 := Lib.hid h5
            have H13 := Lib.hid h13
            have hbo := (h5 g1 hB1)
            have lbo : g1 < wr.heap.size := by
              have hx := hT
              obtain ⟨_, _, _, _, _, _, _, _, _, _, _, _, _, _, _, _, _, _, _, hx8, _⟩ := hx
              exact hx8.lt
            clear hSs hS hR hS0 hA hA' hrm e0 e1 e2 e3 e4 e5 h1 h7 h3 h4 h5 h13 hnw hT
            go_wp2_with (first
              | ((with_reducible refine wpList_load_blk rfl 45 (.tmp 12) rfl g1 ?_ 45 _ _ h8 Try.underlying45 ?_ Try.size_RD ?_ ?_); rfl; rfl; rfl)
              | ((with_reducible refine wpList_load_blk rfl 49 (.tmp 15) rfl wr.heap.size ?_ 49 _ _ kA Try.underlying49 ?_ Try.size_Act ?_ ?_); rfl; rfl; rfl))
            refine T.mono ?_
            clear T
            generalize doP d ps a = rp at *
            generalize doR W a = rr at *
            obtain ⟨e, d', ps'⟩ := rp
            obtain ⟨W', e'⟩ := rr
            show ∀ (en : Ending) (w' : World), RetDo td F _ (e, d', ps') (W', e') wA en w' → _
            rintro en wB ⟨A', c', F', rfl, hd2, hF2, hr2, hc2, hm2, pB⟩
            replace hr2 : SlS RFE wB _ A' W'.files := hr2
            replace hc2 : W'.files.length ≤ c' := hc2
            replace hRs : Rel d' ps' W' := hRs
            replace hSm : Sz (acts.length + k + 1) ((acts.length + k + 1) * 1048576) ps' := hSm
            replace hrm2 : d'.room = max 0 room := hrm2
            have kTB := pB.blk h8 hbo.1
            have kAB := pB.blk kA hFA
            dsimp only
            go_upto_region 16 with ((with_reducible refine wpList_store_blk rfl 45 (.tmp 12) (.tmp 56) rfl g1 45 _ (rcs A' c' W') ?_ ?_ kTB Try.size_RD ?_ ?_ ?_ ?_); rfl; rfl; rfl; rfl; (simp [rcs, Value.oneCell']); intro wC kC gC zC)
            have kAC := kAB.grown gC (fun e => by have h1 := Option.some.inj e; omega)
            have hTC : Two w B room td (acts.length + k + 1) g1 bd acts.length bq1 wC := Two.step h2 H3.out H4.out H5.out h6 hlo.out h12.1.lo h12.2 H13.out h14 h15 h16 hB1 hbq.out hd2 hF2 hr2 ⟨hc2, hm2⟩ pB gC kC hRs hSm hrm2
            clear kTB kAB kA gC zC kC hd2 hF2 hr2 pB h2 H3 H4 H5 h6 h12 H13 h14 h15 h16 hRs hSm hrm2 hbo h8 hFA
            have hTC2 := hTC
            obtain ⟨F3, G3, d3, ps3, A3, c3, W3, d4, ps4, A4, c4, W4, j1, j2, _, _, _, _, j7, j8, jR, jS, _, j12, j13, j14, j15, _⟩ := hTC2
            have jz := jS.rel jR (by omega) (Nat.le_refl _)
            have jy := j15.rel j14 (by omega) (Nat.le_refl _)
            have kQ := j13 tb hq1
            have q1 : wC.cell? ⟨wr.heap.size, 1, none⟩ = some (.string ⟨a.name.toArray⟩) := kAC.cell 1
            have q2 : wC.cell? ⟨wr.heap.size, 2, none⟩ = some (.string ⟨a.tn.toArray⟩) := kAC.cell 2
            have f0 : wC.cell? ⟨g1, 0, none⟩ = some (.slice A3 W3.files.length c3) := j8.cell 0
            have f1 : wC.cell? ⟨g1, 1, none⟩ = some (.int .i64 W3.room) := j8.cell 1
            have f2 : wC.cell? ⟨g1, 2, none⟩ = some (.int .i64 W3.armed) := j8.cell 2
            have f3 : wC.cell? ⟨g1, 3, none⟩ = some (.bool W3.dead) := j8.cell 3
            have T := same_any td F3 _ d3 ps3 A3 c3 W3 a.name a.tn wC j1 j7.1 jR jz.2.2 nA nT jz.1 jz.2.1
            clear j13
            go_wp2_with fail
            refine T.mono ?_
            clear T q1 q2 f0 f1 f2 f3
            rintro en wD ⟨rfl, bD⟩
            have T := same_any bd _ _ d4 ps4 A4 c4 W4 a.name a.tn wD (j2.below bD) (j12.1.below bD) j14 jy.2.2 nA nT jy.1 jy.2.1
            have kAD := kAC.below bD kAC.lt
            have kQD := kQ.below bD kQ.lt
            have q1 : wD.cell? ⟨wr.heap.size, 1, none⟩ = some (.string ⟨a.name.toArray⟩) := kAD.cell 1
            have q2 : wD.cell? ⟨wr.heap.size, 2, none⟩ = some (.string ⟨a.tn.toArray⟩) := kAD.cell 2
            have f0 : wD.cell? ⟨tb, 0, none⟩ = some (.slice A4 W4.files.length c4) := kQD.cell 0
            have f1 : wD.cell? ⟨tb, 1, none⟩ = some (.int .i64 W4.room) := kQD.cell 1
            have f2 : wD.cell? ⟨tb, 2, none⟩ = some (.int .i64 W4.armed) := kQD.cell 2
            have f3 : wD.cell? ⟨tb, 3, none⟩ = some (.bool W4.dead) := kQD.cell 3
            have hTD := hTC.below bD
            clear kAC kAD kQ kQD j1 j2 j7 j8 jR jS j12 j14 j15 jz jy hTC bD
            go_wp2_with fail
            refine T.mono ?_
            clear T q1 q2 f0 f1 f2 f3
            rintro en wE ⟨rfl, bE⟩
            have hTE := hTD.below bE
            clear hTD bE
            go_wp2_with fail
            go_roundw
            case rel => exact ⟨k + 1, by omega, by simp, hTE⟩
            case measure => simp [Lib.intOf]; omega
          · obtain rfl : k = more.length := by omega
            clear hk hlt
            have HT3 := hT.swap hq2
            have hT0 := hT.low
            clear hT hq1 hq2 hbq
            generalize wr = wo at *
            go_wp2_with fail
            go_loopw [83] (fun vi wr => ∃ k : Nat, k ≤ more.length ∧ vi = .int .i64 (k : Int) ∧ Two w B room bd (acts.length + k) g2 td (acts.length + more.length) (fun g => g = g1) wr) (fun vi _ => more.length - (Lib.intOf vi).toNat)
            case atStart => exact ⟨0, Nat.zero_le _, rfl, HT3⟩
            case round =>
              clear HT3
              obtain ⟨k, hk, rfl, hT⟩ := hrel
              by_cases hlt : k < more.length
              · obtain ⟨ad, X, xc, K, kc, rfl, hadb, e0, e1, e2, e3, e4, e5, hA⟩ := ActE.at_ ((SlS.lo hm).below hT.low) hlt
                generalize more[k] = a at *
                have dA : Below wr.heap.size wr (wr.alloc (.cells #[.int .i64 a.kind, .string ⟨a.name.toArray⟩, .string ⟨a.tn.toArray⟩, .slice X a.data.length xc, .int .i64 a.n, .slice K a.keeps.length kc] 49)) := (Below.refl _ _).alloc (Nat.le_refl _) _
                have kA := Blk.new wr 49 #[.int .i64 a.kind, .string ⟨a.name.toArray⟩, .string ⟨a.tn.toArray⟩, .slice X a.data.length xc, .int .i64 a.n, .slice K a.keeps.length kc]
                go_upto_region 23 with fail
                change Code.wp _ _ _ _ (wr.alloc (.cells #[.int .i64 a.kind, .string ⟨a.name.toArray⟩, .string ⟨a.tn.toArray⟩, .slice X a.data.length xc, .int .i64 a.n, .slice K a.keeps.length kc] 49))
                generalize wr.alloc (.cells #[.int .i64 a.kind, .string ⟨a.name.toArray⟩, .string ⟨a.tn.toArray⟩, .slice X a.data.length xc, .int .i64 a.n, .slice K a.keeps.length kc] 49) = wA at *
                obtain ⟨F, G, d, ps, A1, c1, W, d2, ps2, A2, c2, W2, h1, h2, h3, h4, h5, h6, h7, h8, hR, hS, hrm, h12, h13, h14, h15, h16, hnw⟩ := hT.opn dA
                have hA' : AOk wA F X xc K kc a := (hA.below dA).mono fun g _ h => (h4 g h.2).1
                have hS0 := hS.rel hR (by omega) (Nat.le_refl _)
                have hSs := hS.step d a hA.name hA.tn
                have hRs := (hR.step a hA.nmax).2
                have hSm : Sz (acts.length + k + 1) ((acts.length + k + 1) * 1048576) (doP d ps a).2.2 := hSs.1.more (Nat.le_refl _) (by have := hA.dlen; omega)
                have T := do_any bd F _ d ps A1 c1 W a X xc K kc wA h1 (fun g h => h.1.1.1) h7.1.lo h7.2 hA' hR hS0.2.2 ⟨by rw [hrm]; omega, hR.left⟩ hS0.1 hS0.2.1
                have hrm2 : (doP d ps a).2.1.room = max 0 room := hSs.2.trans hrm
                have nA := hA.name
                have nT := hA.tn
                have lA := kA.lt
                have hFA := (hnw wr.heap.size (Nat.le_refl _)).1
                have H3 := Lib.hid h3
                have H4 := Lib.hid h4
                have H5 := Lib.hid h5
                have H13 := Lib.hid h13
                have hbo := (h5 g2 hB2)
                have lbo : g2 < wr.heap.size := by
                  have hx := hT
                  obtain ⟨_, _, _, _, _, _, _, _, _, _, _, _, _, _, _, _, _, _, _, hx8, _⟩ := hx
                  exact hx8.lt
                clear hSs hS hR hS0 hA hA' hrm e0 e1 e2 e3 e4 e5 h1 h7 h3 h4 h5 h13 hnw hT
                go_wp2_with (first
                  | ((with_reducible refine wpList_load_blk rfl 45 (.tmp 13) rfl g2 ?_ 45 _ _ h8 Try.underlying45 ?_ Try.size_RD ?_ ?_); rfl; rfl; rfl)
                  | ((with_reducible refine wpList_load_blk rfl 49 (.tmp 18) rfl wr.heap.size ?_ 49 _ _ kA Try.underlying49 ?_ Try.size_Act ?_ ?_); rfl; rfl; rfl))
                refine T.mono ?_
                clear T
                generalize doP d ps a = rp at *
                generalize doR W a = rr at *
                obtain ⟨e, d', ps'⟩ := rp
                obtain ⟨W', e'⟩ := rr
                show ∀ (en : Ending) (w' : World), RetDo bd F _ (e, d', ps') (W', e') wA en w' → _
                rintro en wB ⟨A', c', F', rfl, hd2, hF2, hr2, hc2, hm2, pB⟩
                replace hr2 : SlS RFE wB _ A' W'.files := hr2
                replace hc2 : W'.files.length ≤ c' := hc2
                replace hRs : Rel d' ps' W' := hRs
                replace hSm : Sz (acts.length + k + 1) ((acts.length + k + 1) * 1048576) ps' := hSm
                replace hrm2 : d'.room = max 0 room := hrm2
                have kTB := pB.blk h8 hbo.1
                have kAB := pB.blk kA hFA
                dsimp only
                go_upto_region 24 with ((with_reducible refine wpList_store_blk rfl 45 (.tmp 13) (.tmp 92) rfl g2 45 _ (rcs A' c' W') ?_ ?_ kTB Try.size_RD ?_ ?_ ?_ ?_); rfl; rfl; rfl; rfl; (simp [rcs, Value.oneCell']); intro wC kC gC zC)
                have kAC := kAB.grown gC (fun e => by have h1 := Option.some.inj e; omega)
                have hTC : Two w B room bd (acts.length + k + 1) g2 td (acts.length + more.length) (fun g => g = g1) wC := Two.step h2 H3.out H4.out H5.out h6 hlo.out h12.1.lo h12.2 H13.out h14 h15 h16 hB2 hbq2.out hd2 hF2 hr2 ⟨hc2, hm2⟩ pB gC kC hRs hSm hrm2
                clear kTB kAB kA gC zC kC hd2 hF2 hr2 pB h2 H3 H4 H5 h6 h12 H13 h14 h15 h16 hRs hSm hrm2 hbo h8 hFA
                have hTC2 := hTC
                obtain ⟨F3, G3, d3, ps3, A3, c3, W3, d4, ps4, A4, c4, W4, j1, j2, _, _, _, _, j7, j8, jR, jS, _, j12, j13, j14, j15, _⟩ := hTC2
                have jz := jS.rel jR (by omega) (Nat.le_refl _)
                have jy := j15.rel j14 (by omega) (Nat.le_refl _)
                have kQ := j13 g1 rfl
                have q1 : wC.cell? ⟨wr.heap.size, 1, none⟩ = some (.string ⟨a.name.toArray⟩) := kAC.cell 1
                have q2 : wC.cell? ⟨wr.heap.size, 2, none⟩ = some (.string ⟨a.tn.toArray⟩) := kAC.cell 2
                have f0 : wC.cell? ⟨g2, 0, none⟩ = some (.slice A3 W3.files.length c3) := j8.cell 0
                have f1 : wC.cell? ⟨g2, 1, none⟩ = some (.int .i64 W3.room) := j8.cell 1
                have f2 : wC.cell? ⟨g2, 2, none⟩ = some (.int .i64 W3.armed) := j8.cell 2
                have f3 : wC.cell? ⟨g2, 3, none⟩ = some (.bool W3.dead) := j8.cell 3
                have T := same_any bd F3 _ d3 ps3 A3 c3 W3 a.name a.tn wC j1 j7.1 jR jz.2.2 nA nT jz.1 jz.2.1
                clear j13
                go_wp2_with fail
                refine T.mono ?_
                clear T q1 q2 f0 f1 f2 f3
                rintro en wD ⟨rfl, bD⟩
                have T := same_any td _ _ d4 ps4 A4 c4 W4 a.name a.tn wD (j2.below bD) (j12.1.below bD) j14 jy.2.2 nA nT jy.1 jy.2.1
                have kAD := kAC.below bD kAC.lt
                have kQD := kQ.below bD kQ.lt
                have q1 : wD.cell? ⟨wr.heap.size, 1, none⟩ = some (.string ⟨a.name.toArray⟩) := kAD.cell 1
                have q2 : wD.cell? ⟨wr.heap.size, 2, none⟩ = some (.string ⟨a.tn.toArray⟩) := kAD.cell 2
                have f0 : wD.cell? ⟨g1, 0, none⟩ = some (.slice A4 W4.files.length c4) := kQD.cell 0
                have f1 : wD.cell? ⟨g1, 1, none⟩ = some (.int .i64 W4.room) := kQD.cell 1
                have f2 : wD.cell? ⟨g1, 2, none⟩ = some (.int .i64 W4.armed) := kQD.cell 2
                have f3 : wD.cell? ⟨g1, 3, none⟩ = some (.bool W4.dead) := kQD.cell 3
                have hTD := hTC.below bD
                clear kAC kAD kQ kQD j1 j2 j7 j8 jR jS j12 j14 j15 jz jy hTC bD
                go_wp2_with fail
                refine T.mono ?_
                clear T q1 q2 f0 f1 f2 f3
                rintro en wE ⟨rfl, bE⟩
                have hTE := hTD.below bE
                clear hTD bE
                go_wp2_with fail
                go_roundw
                case rel => exact ⟨k + 1, by omega, by simp, hTE⟩
                case measure => simp [Lib.intOf]; omega
              · obtain rfl : k = more.length := by omega
                clear hk hlt
                obtain ⟨F, G, d, ps, A1, c1, W, d2, ps2, A2, c2, W2, h1, _, _, _, _, h6, _, _, hR, hS, _⟩ := hT
                have ok := (hS.rel hR (by omega) (Nat.le_refl _)).2.2
                have dN : Below wr.heap.size wr (wr.alloc (.cells #[.pointer (some ⟨bd, 0, none⟩), .string ⟨#[112, 47]⟩] 56)) := (Below.refl _ _).alloc (Nat.le_refl _) _
                have kN := Blk.new wr 56 #[.pointer (some ⟨bd, 0, none⟩), .string ⟨#[112, 47]⟩]
                go_upto_region 28 with fail
                change Code.wp _ _ _ _ (wr.alloc (.cells #[.pointer (some ⟨bd, 0, none⟩), .string ⟨#[112, 47]⟩] 56))
                generalize wr.alloc (.cells #[.pointer (some ⟨bd, 0, none⟩), .string ⟨#[112, 47]⟩] 56) = wN at *
                have hN := h1.below dN
                have bN := below_step h6 dN
                have n0 : wN.cell? ⟨wr.heap.size, 0, none⟩ = some (.pointer (some ⟨bd, 0, none⟩)) := kN.cell 0
                have n1 : wN.cell? ⟨wr.heap.size, 1, none⟩ = some (.string ⟨#[112, 47]⟩) := kN.cell 1
                clear h1 hR hS dN h6
                go_wp2_with fail
                refine (path_any _ wN).mono ?_
                rintro en wO ⟨rfl, bO⟩
                have T := usedD_any (hN.below bO) ok
                have kO := kN.below bO kN.lt
                have n2 : wO.cell? ⟨wr.heap.size, 0, none⟩ = some (.pointer (some ⟨bd, 0, none⟩)) := kO.cell 0
                clear n0 n1 kN kO
                go_wp2_with fail
                refine T.mono ?_
                clear T n2
                rintro en wP ⟨rfl, bP⟩
                have T := usedD_any ((hN.below bO).below bP) ok
                go_wp2_with fail
                refine T.mono ?_
                clear T
                rintro en wQ ⟨rfl, bQ⟩
                go_wp2_with fail
                go_ret
                exact ⟨rfl, below_step (below_step (below_step bN bO) bP) bQ⟩
end Go.Proofs.Ytnhonjgclbmheaa
