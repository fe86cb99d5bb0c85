/- The walk of DiskCalls. (Printed by wip/gen_dske.py.) -/
import Derived.Test.YtnhonjgclbmheaaActE
import Derived.Test.YtnhonjgclbmheaaDskK
namespace Go.Proofs.Ytnhonjgclbmheaa
open Go.RowKit

/-- both disks behind k calls: the disk at bd, the document's in the box tb; what lies in F is not the disk's -/
def BothAt (w0 : World) (bd tb : Nat) (room : Int) (k : Nat) (wr : World) : Prop :=
  ∃ (F : Nat → Prop) (d : LDisk) (ps : List PFile) (A : Option Addr) (c : Nat) (W : LRD), DD wr bd F d ps ∧ (∀ g, g < w0.heap.size → F g) ∧ F tb ∧ SlS RFE wr (fun g => F g ∧ g ≠ tb) A W.files ∧ (W.files.length ≤ c ∧ c ≤ 9223372036854775807) ∧
    Blk wr tb 45 (rcs A c W) ∧ Rel d ps W ∧ Sz k (k * 1048576) ps ∧ d.room = max 0 room ∧ Below w0.heap.size w0 wr
theorem Sz.rel {k u : Nat} {d : LDisk} {ps : List PFile} {W : LRD} (h : Sz k u ps) (hR : Rel d ps W) (hk : k ≤ 1048575) (hu : u ≤ k * 1048576) : W.files.length ≤ 1048575 ∧ usedR W.files ≤ 35184372088832 ∧ PsOk ps := by
  have h1 := h.len
  have h2 := h.used
  rw [hR.len] at h1
  have h3 := hR.used
  refine ⟨by omega, by omega, h.ok (by omega) (by omega)⟩
theorem BothAt.below {w0 : World} {bd tb : Nat} {room : Int} {k : Nat} {wr w' : World} (h : BothAt w0 bd tb room k wr) (hb : Below wr.heap.size wr w') : BothAt w0 bd tb room k w' := by
  obtain ⟨F, d, ps, A, c, W, h1, h2, h3, h4, h5, h6, h7, h8, h9, h10⟩ := h
  exact ⟨_, d, ps, A, c, W, h1.below hb, fun g hg => .inl (h2 g hg), .inl h3, (h4.below hb).mono fun g _ hg => ⟨.inl hg.1, hg.2⟩, h5, h6.below hb h6.lt, h7, h8, h9, below_step h10 hb⟩
set_option maxRecDepth 100000 in
set_option maxHeartbeats 8000000 in
theorem diskcalls_any (room : Int) (A0 : Option Addr) (acts : List LAct) (c0 : Nat) (w : World) (hroom : room ≤ 9223372036854775807) (ha : Sl ActE w A0 acts) (hlen : acts.length ≤ 1048575) :
    Calls Try.prog 4 #[.int .i64 room, .slice A0 acts.length c0] w fun e w' => e = .returned (.bool true) ∧ Below w.heap.size w w' := by
  go_enter Try.func4, Try.ntmps4
  go_wp2_with fail
  refine (awake_any _).mono ?_
  rintro e w1 ⟨rfl, b1⟩
  have s1 := b1.size
  have dz : Below w1.heap.size w1 (w1.alloc (.cells #[.map none, .int .i64 0, .bool false, .int .i64 0, .bool false] 40)) := (Below.refl _ _).alloc (Nat.le_refl _) _
  have hz := DD.zero w1
  have T := usedD_any hz psok_nil
  go_upto_region 4 with fail
  change Code.wp _ _ _ _ (w1.alloc (.cells #[.map none, .int .i64 0, .bool false, .int .i64 0, .bool false] 40))
  generalize w1.alloc (.cells #[.map none, .int .i64 0, .bool false, .int .i64 0, .bool false] 40) = w2 at *
  have b2 := below_step b1 dz
  go_wp2_with fail
  refine T.mono ?_
  clear T
  rintro e w3 ⟨rfl, b3⟩
  have b03 := below_step b2 b3
  have hz3 := (hz.mono (F' := (· < w1.heap.size)) (fun g h => by omega)).below b3
  have dl : Below w3.heap.size w3 (w3.alloc (.cells #[.int .u8 1] 5)) := (Below.refl _ _).alloc (Nat.le_refl _) _
  have hbs : Bs (w3.alloc (.cells #[.int .u8 1] 5)) (some ⟨w3.heap.size, 0, none⟩) [1] := Bs.lit w3 [1] 5 (by decide)
  have T := appendD_any (hz3.below dl) psok_nil (ldok_new 0 (by decide)) [97] _ [1] 1 hbs (fun ad e _ => .inr (by injection e with e; rw [← e]; exact Nat.le_refl _)) (by decide) (by decide)
  rw [app_zero] at T
  have b3l := below_step b03 dl
  go_wp2_with fail
  refine T.mono ?_
  clear T
  rintro e w4 ⟨rfl, h4⟩
  obtain ⟨b4, hd4⟩ := h4.low (B := w.heap.size) b3l (by have := b3l.size; omega) (fun g h => .inl (.inl (Nat.lt_of_lt_of_le h s1)))
  clear h4 hz hz3 dl hbs b3l dz b3 b2 b03
  have T := syncD_any hd4 psok_nil (ldok_new 0 (by decide)) [97] (by decide)
  rw [sync_zero] at T
  go_wp2_with fail
  refine T.mono ?_
  clear T
  rintro e w5 ⟨rfl, h5⟩
  obtain ⟨b5, _⟩ := h5.low b4 b4.size (fun g h => h)
  clear h5 hd4 b4
  go_wp2_with fail
  refine (newD_any room w5).mono ?_
  rintro e w6 ⟨rfl, hd6, b6⟩
  have b06 := b5.trans (b6.mono b5.size)
  have lb : w5.heap.size < w6.heap.size := hd6.lt
  go_wp2_with fail
  refine (rnew_any room (fun _ => False) w6).mono ?_
  show ∀ (en : Ending) (w' : World), RetRD ⟨[], max 0 room, -1, false⟩ _ w6 en w' → _
  rintro e w7 ⟨A, c, rfl, h7, hc7, hm7, b7⟩
  have b07 := b06.trans (b7.mono b06.size)
  have d8 : Below w7.heap.size w7 (w7.alloc (.cells (rcs A c ⟨[], max 0 room, -1, false⟩) 45)) := (Below.refl _ _).alloc (Nat.le_refl _) _
  have k8 := Blk.new w7 45 (rcs A c ⟨[], max 0 room, -1, false⟩)
  have s57 := b5.size
  have s07 := b07.size
  have s67 := b7.size
  have START : BothAt w w5.heap.size w7.heap.size room 0 (w7.alloc (.cells (rcs A c ⟨[], max 0 room, -1, false⟩) 45)) :=
    ⟨fun g => g ≠ w5.heap.size, _, _, A, c, _, ((hd6.below b7).below d8).mono (fun g h => .inl (.inl h)), fun g h => by omega, by omega,
      ((h7.lo.below d8).mono fun g _ h => by rcases h with ⟨h | h, h2⟩; exact h.elim; exact ⟨by omega, by omega⟩), ⟨hc7, hm7⟩, k8, Rel.new_ room, Sz.new_, rfl, b07.trans (d8.mono s07)⟩
  dsimp only
  go_upto_region 7 with fail
  change Code.wp _ _ _ _ (w7.alloc (.cells (rcs A c ⟨[], max 0 room, -1, false⟩) 45))
  generalize w7.alloc (.cells (rcs A c ⟨[], max 0 room, -1, false⟩) 45) = w8 at *
  have l57 : w5.heap.size < w7.heap.size := by omega
  have l05 : w.heap.size ≤ w5.heap.size := s57
  have hl3 := Lib.hid l57
  have hl4 := Lib.hid l05
  clear d8 k8 h7 hc7 hm7 hd6 b7 b07 b06 b6 b5 b1 s1 lb l57 l05 s57 s07 s67
  generalize w5.heap.size = bd at *
  generalize w7.heap.size = tb at *
  have HS := START
  clear START
  go_wp2_with fail
  go_loopw [8, 30] (fun v8 v30 wr => ∃ k : Nat, k ≤ acts.length ∧ v8 = .bool true ∧ v30 = .int .i64 (k : Int) ∧ BothAt w bd tb room k wr) (fun _ v30 _ => acts.length - (Lib.intOf v30).toNat)
  case atStart => exact ⟨0, Nat.zero_le _, rfl, rfl, HS⟩
  case round =>
    clear HS
    obtain ⟨k, hk, rfl, rfl, F, d, ps, A1, c1, W, hd, hF0, hFt, hW, hc, kT, hR, hS, hrm, br⟩ := hrel
    by_cases hlt : k < acts.length
    · obtain ⟨ad, X, xc, K, kc, rfl, hadb, e0, e1, e2, e3, e4, e5, hA⟩ := ActE.at_ ((SlS.lo ha).below br) hlt
      generalize acts[k] = a at *
      have dA : Below wr.heap.size wr (wr.alloc (.cells #[.int .i64 a.kind, .string ⟨a.name.toArray⟩, .string ⟨a.tn.toArray⟩, .slice X a.data.length xc, .int .i64 a.n, .slice K a.keeps.length kc] 49)) := (Below.refl _ _).alloc (Nat.le_refl _) _
      have kA := Blk.new wr 49 #[.int .i64 a.kind, .string ⟨a.name.toArray⟩, .string ⟨a.tn.toArray⟩, .slice X a.data.length xc, .int .i64 a.n, .slice K a.keeps.length kc]
      go_upto_region 11 with fail
      change Code.wp _ _ _ _ (wr.alloc (.cells #[.int .i64 a.kind, .string ⟨a.name.toArray⟩, .string ⟨a.tn.toArray⟩, .slice X a.data.length xc, .int .i64 a.n, .slice K a.keeps.length kc] 49))
      generalize wr.alloc (.cells #[.int .i64 a.kind, .string ⟨a.name.toArray⟩, .string ⟨a.tn.toArray⟩, .slice X a.data.length xc, .int .i64 a.n, .slice K a.keeps.length kc] 49) = wA at *
      have hW' := hW.lo.below dA
      have hA' : AOk wA (fun g => F g ∨ wr.heap.size ≤ g) X xc K kc a := (hA.below dA).mono fun g _ h => .inl (hF0 g h.2)
      have hS0 := hS.rel hR (by omega) (Nat.le_refl _)
      have hSs := hS.step d a hA.name hA.tn
      have hRs := (hR.step a hA.nmax).2
      have hSm : Sz (k + 1) ((k + 1) * 1048576) (doP d ps a).2.2 := hSs.1.more (Nat.le_refl _) (by have := hA.dlen; omega)
      have T := do_any bd _ _ d ps A1 c1 W a X xc K kc wA (hd.below dA) (fun g h => .inl h.1.1) hW' hc hA' hR hS0.2.2 ⟨by rw [hrm]; omega, hR.left⟩ hS0.1 hS0.2.1
      have hrm2 : (doP d ps a).2.1.room = max 0 room := hSs.2.trans hrm
      have kTA := kT.below dA kT.lt
      have sA := dA.size
      have lT := kT.lt
      have lA := kA.lt
      have bA := below_step br dA
      have nA := hA.name
      have nT := hA.tn
      clear hSs hS hR hW hd hS0 hA hA' hW' hrm kT dA e0 e1 e2 e3 e4 e5
      go_wp2_with (first
        | ((with_reducible refine wpList_load_blk rfl 45 (.tmp 7) rfl tb ?_ 45 _ _ kTA Try.underlying45 ?_ Try.size_RD ?_ ?_); rfl; rfl; rfl)
        | ((with_reducible refine wpList_load_blk rfl 49 (.tmp 10) rfl wr.heap.size ?_ 49 _ _ kA Try.underlying49 ?_ Try.size_Act ?_ ?_); rfl; rfl; rfl))
      refine T.mono ?_
      clear T
      generalize doP d ps a = rp at *
      generalize doR W a = rr at *
      obtain ⟨e, d', ps'⟩ := rp
      obtain ⟨W', e'⟩ := rr
      show ∀ (en : Ending) (w' : World), RetDo bd _ _ (e, d', ps') (W', e') wA en w' → _
      rintro en wB ⟨A2, c2, F', rfl, hd2, hF2, h2, hc2, hm2, pB⟩
      replace h2 : SlS RFE wB _ A2 W'.files := h2
      replace hc2 : W'.files.length ≤ c2 := hc2
      replace hRs : Rel d' ps' W' := hRs
      replace hSm : Sz (k + 1) ((k + 1) * 1048576) ps' := hSm
      replace hrm2 : d'.room = max 0 room := hrm2
      have kTB := pB.blk kTA (.inl hFt)
      have kAB := pB.blk kA (.inr (Nat.le_refl _))
      have bB := pB.low bA bA.size (fun g hg => .inl (hF0 g hg))
      have hFT : F' tb := hF2 tb (.inl hFt) (by omega)
      dsimp only
      go_upto_region 12 with ((with_reducible refine wpList_store_blk rfl 45 (.tmp 7) (.tmp 39) rfl tb 45 _ (rcs A2 c2 W') ?_ ?_ kTB Try.size_RD ?_ ?_ ?_ ?_); rfl; rfl; rfl; rfl; (simp [rcs, Value.oneCell']); intro wC kC gC zC)
      have bC := bB.grown gC bB.size (fun g e => by have h1 := Option.some.inj e; have := hl3.out; have := hl4.out; omega)
      have kAC := kAB.grown gC (fun e => by have h1 := Option.some.inj e; omega)
      have hdC := hd2.grown gC (fun g e => .inl (by have h1 := Option.some.inj e; subst h1; exact hFT))
      have hWC := h2.same (.of_grown gC fun g hg e => by
        have h1 := Option.some.inj e
        subst h1
        rcases hg with hg | hg
        · exact hg.1.2 rfl
        · omega)
      have sz := hSm.rel hRs (by omega) (Nat.le_refl _)
      have HB : BothAt w bd tb room (k + 1) wC := ⟨_, d', ps', A2, c2, W', hdC, fun g hg => .inl (hF2 g (.inl (hF0 g hg)) (by have := br.size; omega)), .inl hFT, hWC.mono (fun g _ hg => by
        rcases hg with hg | hg
        · exact ⟨.inl (hF2 g (.inl hg.1.1) (by have := hg.2; omega)), hg.1.2⟩
        · exact ⟨.inl hg.1, by omega⟩), ⟨hc2, hm2⟩, kC, hRs, hSm, hrm2, bC⟩
      clear kTB kTA kA kAB gC zC hd2 h2 pB bB bA br hSm hF2 hrm2
      have q1 : wC.cell? ⟨wr.heap.size, 1, none⟩ = some (.string ⟨a.name.toArray⟩) := kAC.cell 1
      have q2 : wC.cell? ⟨wr.heap.size, 2, none⟩ = some (.string ⟨a.tn.toArray⟩) := kAC.cell 2
      have T := same_any bd _ _ d' ps' A2 c2 W' a.name a.tn wC hdC hWC hRs sz.2.2 nA nT sz.1 sz.2.1
      have f0 : wC.cell? ⟨tb, 0, none⟩ = some (.slice A2 W'.files.length c2) := kC.cell 0
      have f1 : wC.cell? ⟨tb, 1, none⟩ = some (.int .i64 W'.room) := kC.cell 1
      have f2 : wC.cell? ⟨tb, 2, none⟩ = some (.int .i64 W'.armed) := kC.cell 2
      have f3 : wC.cell? ⟨tb, 3, none⟩ = some (.bool W'.dead) := kC.cell 3
      go_wp2_with fail
      refine T.mono ?_
      clear T
      rintro en wD ⟨rfl, bD⟩
      have T := same_any bd _ _ d' ps' A2 c2 W' a.tn [] wD (hdC.below bD) (hWC.below bD) hRs sz.2.2 nT (by decide) sz.1 sz.2.1
      have q3 : wD.cell? ⟨wr.heap.size, 2, none⟩ = some (.string ⟨a.tn.toArray⟩) := (kAC.below bD kAC.lt).cell 2
      have kCD := kC.below bD kC.lt
      have HBD := HB.below bD
      clear q1 q2 f0 f1 f2 f3 kC kAC hdC hWC hRs HB bD
      have g0 : wD.cell? ⟨tb, 0, none⟩ = some (.slice A2 W'.files.length c2) := kCD.cell 0
      have g1 : wD.cell? ⟨tb, 1, none⟩ = some (.int .i64 W'.room) := kCD.cell 1
      have g2 : wD.cell? ⟨tb, 2, none⟩ = some (.int .i64 W'.armed) := kCD.cell 2
      have g3 : wD.cell? ⟨tb, 3, none⟩ = some (.bool W'.dead) := kCD.cell 3
      clear kCD
      go_wp2_with fail
      refine T.mono ?_
      clear T
      rintro en wE ⟨rfl, bE⟩
      have HBE := HBD.below bE
      clear q3 g0 g1 g2 g3 HBD bE
      go_wp2_with fail
      go_roundw
      case rel => exact ⟨k + 1, by omega, rfl, by simp, HBE⟩
      case measure => simp [Lib.intOf]; omega
    · go_wp2_with fail
      go_ret
      exact ⟨rfl, br⟩
end Go.Proofs.Ytnhonjgclbmheaa
