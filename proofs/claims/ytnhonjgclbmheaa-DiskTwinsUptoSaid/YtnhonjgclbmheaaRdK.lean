/- The reference's disk: Crash. (Printed by wip/gen_rdk.py.) -/
import Derived.Test.YtnhonjgclbmheaaRdT
namespace Go.Proofs.Ytnhonjgclbmheaa
open Go.RowKit

/-- of each tail a beginning stays -/
def crashRF (keeps : List Int) : Nat → List LRF → List LRF
  | _, [] => []
  | k, f :: r => if f.tail.length = 0 then f :: crashRF keeps k r else ⟨f.name, f.safe ++ f.tail.take (keepP keeps k f.tail.length), []⟩ :: crashRF keeps (k + 1) r
theorem crashRF_len (keeps : List Int) : ∀ (k : Nat) (fs : List LRF), (crashRF keeps k fs).length = fs.length
  | _, [] => rfl
  | k, f :: r => by
    unfold crashRF
    split
    · rw [List.length_cons, List.length_cons, crashRF_len]
    · rw [List.length_cons, List.length_cons, crashRF_len]
def crashR (W : LRD) (keeps : List Int) : LRD := ⟨crashRF keeps 0 W.files, W.room, -1, false⟩
set_option maxRecDepth 100000 in
set_option maxHeartbeats 8000000 in
theorem rcrash_any (A : Option Addr) (c : Nat) (W : LRD) (S : Nat → Prop) (K : Option Addr) (keeps : List Int) (kc : Nat) (w : World) (h : SlS RFE w S A W.files) (hk : Sl IntE w K keeps)
    (hl : W.files.length ≤ 1048575) (hu : ∀ f ∈ W.files, f.safe.length + f.tail.length ≤ 70368744177664) :
    Calls Try.prog 36 #[rv A c W, .slice K keeps.length kc] w (RetRD (crashR W keeps) S w) := by
  obtain ⟨fs, room, armed, dead⟩ := W
  replace h : SlS RFE w S A fs := h
  replace h := h.lo
  replace hl : fs.length ≤ 1048575 := hl
  have HU : Hid (∀ f ∈ fs, f.safe.length + f.tail.length ≤ 70368744177664) := hu
  clear hu
  obtain ⟨i0, hi0, hz0, hz1, hz2⟩ := info_parts Try.infoRF
  go_enter Try.func36, Try.ntmps36
  have dA : Below w.heap.size w (w.alloc (.cells (rcs A c ⟨fs, room, armed, dead⟩) 45)) := (Below.refl _ _).alloc (Nat.le_refl _) _
  have kA := Blk.new w 45 (rcs A c ⟨fs, room, armed, dead⟩)
  have zA : (w.alloc (.cells (rcs A c ⟨fs, room, armed, dead⟩) 45)).heap.size = w.heap.size + 1 := by simp
  go_upto_region 1 with fail
  change Code.wp _ _ _ _ ((w.alloc (.cells (rcs A c ⟨fs, room, armed, dead⟩) 45)).alloc (.cells (rcs none 0 ⟨[], 0, 0, false⟩) 45))
  generalize w.alloc (.cells (rcs A c ⟨fs, room, armed, dead⟩) 45) = wA at *
  have dR : Below wA.heap.size wA (wA.alloc (.cells (rcs none 0 ⟨[], 0, 0, false⟩) 45)) := (Below.refl _ _).alloc (Nat.le_refl _) _
  have kR := Blk.new wA 45 (rcs none 0 ⟨[], 0, 0, false⟩)
  have zR : (wA.alloc (.cells (rcs none 0 ⟨[], 0, 0, false⟩) 45)).heap.size = wA.heap.size + 1 := by simp
  generalize wA.alloc (.cells (rcs none 0 ⟨[], 0, 0, false⟩) 45) = w1 at *
  rw [zA] at kR
  have b1 : Below w.heap.size w w1 := dA.trans (dR.mono (by omega))
  replace kA := kA.below dR (by omega)
  have h1 := h.below b1
  have hk1 := hk.below b1
  have z1 : w1.heap.size = w.heap.size + 1 + 1 := by omega
  have Z1 := Lib.hid z1
  have l1 : w.heap.size < w1.heap.size := by omega
  clear dA dR zA zR z1
  have dE : Below w1.heap.size w1 (w1.alloc (.cells #[] 85)) := (Below.refl _ _).alloc (Nat.le_refl _) _
  have kE := Blk.new w1 85 #[]
  have oE : Own RFE 85 (w1.alloc (.cells #[] 85)) w1.heap.size (fun g => (S g ∧ g < w.heap.size) ∨ w1.heap.size ≤ g) (.slice (some ⟨w1.heap.size, 0, none⟩) 0 0) [] := Own.empty RFE kE (Nat.le_refl _)
  generalize hTT : crashRF keeps 0 fs = TT
  have HTT := Lib.hid hTT
  clear hTT
  go_upto_region 3 with fail
  generalize hwE : (w1.alloc (.cells #[] 85)) = wE at *
  clear hwE kE
  go_wp2_with fail
  go_loopw [5, 6, 7] (fun v5 v6 v7 wr => ∃ (i k : Nat) (A' : Option Addr) (c' : Nat) (xs : List LRF), v5 = .int .i64 (k : Int) ∧ v6 = .slice A' xs.length c' ∧ v7 = .int .i64 (i : Int) ∧ i ≤ fs.length ∧ k ≤ i ∧ xs.length = i ∧ Hid (xs ++ crashRF keeps k (fs.drop i) = TT) ∧ Own RFE 85 wr w1.heap.size (fun g => (S g ∧ g < w.heap.size) ∨ w1.heap.size ≤ g) (.slice A' xs.length c') xs ∧ Below w1.heap.size w1 wr) (fun _ _ v7 _ => fs.length - (Lib.intOf v7).toNat)
  case atStart => exact ⟨0, 0, some ⟨w1.heap.size, 0, none⟩, 0, [], rfl, rfl, rfl, Nat.zero_le _, Nat.le_refl _, rfl, HTT.out, oE, dE⟩
  case round =>
    clear oE dE
    obtain ⟨i, k, A', c', xs, rfl, rfl, rfl, hi, hki, hxl, HX, oX, br⟩ := hrel
    have HXL := Lib.hid hxl
    have hxb : xs.length ≤ 1048575 := by omega
    clear hxl
    have kAr := kA.below br kA.lt
    have a0 : wr.cell? ⟨w.heap.size, 0, none⟩ = some (.slice A fs.length c) := kAr.cell 0
    have sr := br.size
    rcases Nat.lt_or_ge i fs.length with hlt | hge
    · obtain ⟨ad, P, pc, Q, qc, rfl, hadb, c0, c1, c2, hF⟩ := RFE.fok (h1.below br) hlt
      have hmu := HU.out _ (List.getElem_mem hlt)
      have HST : Hid (xs ++ crashRF keeps k (fs[i] :: fs.drop (i + 1)) = TT) := by rw [← List.drop_eq_getElem_cons hlt]; exact HX.out
      clear HX
      generalize fs[i] = f at *
      have d3 : Below wr.heap.size wr (wr.alloc (.cells #[.string ⟨f.name.toArray⟩, .slice P f.safe.length pc, .slice Q f.tail.length qc] 85)) := (Below.refl _ _).alloc (Nat.le_refl _) _
      have kF := Blk.new wr 85 #[.string ⟨f.name.toArray⟩, .slice P f.safe.length pc, .slice Q f.tail.length qc]
      have hF3 := hF.below d3
      have b3 := br.trans (d3.mono sr)
      have o3 := oX.below d3
      have oY := (oX.mono (S' := fun g => ((S g ∧ g < w.heap.size) ∨ w1.heap.size ≤ g) ∧ g < wr.heap.size) (fun b h1 _ h2 => ⟨h2, h1⟩)).below d3
      have lF := kF.lt
      have hlX := Own.lt oX
      have hk3 := (hk1.below br).below d3
      go_upto_region 7 with fail
      clear a0 c0 c1 c2 hF kAr oX br d3
      generalize (wr.alloc (.cells #[.string ⟨f.name.toArray⟩, .slice P f.safe.length pc, .slice Q f.tail.length qc] 85)) = w3 at *
      generalize hfb : wr.heap.size = fb at *
      have hlX2 : ∀ g, (Value.slice A' xs.length c').ownBlock = some g → w1.heap.size ≤ g ∧ g < fb := hlX
      have f1 : w3.cell? ⟨fb, 1, none⟩ = some (.slice P f.safe.length pc) := kF.cell 1
      have f2 : w3.cell? ⟨fb, 2, none⟩ = some (.slice Q f.tail.length qc) := kF.cell 2
      have hlX3 := Lib.hid hlX2
      clear hlX hlX2
      by_cases htl : f.tail.length = 0
      · have HS : Hid ((xs ++ [f]) ++ crashRF keeps k (fs.drop (i + 1)) = TT) := by
          show _ = _
          rw [← HST.out, List.append_assoc]
          congr 1
          conv => rhs; unfold crashRF
          rw [if_pos htl]
          rfl
        have d0 : ¬ (0 : Int) < (f.tail.length : Int) := by omega
        have d9 : Below w3.heap.size w3 (w3.alloc (.cells #[.string ⟨f.name.toArray⟩, .slice P f.safe.length pc, .slice Q f.tail.length qc] 85)) := (Below.refl _ _).alloc (Nat.le_refl _) _
        have hrN := Reads.newN w3 [.string ⟨f.name.toArray⟩, .slice P f.safe.length pc, .slice Q f.tail.length qc] 85
        have b9 := b3.trans (d9.mono (by have := b3.size; omega))
        have o9 := o3.below d9
        have hrep : RFE.rep (w3.alloc (.cells #[.string ⟨f.name.toArray⟩, .slice P f.safe.length pc, .slice Q f.tail.length qc] 85)) (fun g => ((S g ∧ g < w.heap.size) ∨ w1.heap.size ≤ g) ∧ (Value.slice A' xs.length c').ownBlock ≠ some g) [.string ⟨f.name.toArray⟩, .slice P f.safe.length pc, .slice Q f.tail.length qc] f :=
          FOk.rep ((hF3.below d9).mono fun g _ h => ⟨.inl h, fun e => by have h1 := (hlX3.out g e).1; omega⟩)
        have hs9 := b9.size
        clear htl HST
        go_wp2_with (first
          | ((with_reducible refine wpList_load_blk rfl 85 (.tmp 8) rfl fb ?_ 85 _ _ kF Try.underlying85 ?_ Try.size_RF ?_ ?_); rfl; rfl; rfl)
          | (at_builtin; refine wpList_appE RFE w1.heap.size w1 _ rfl (.tmp 64) (.tmp 66) 85 43 rfl i0 _ Try.underlying43 hi0 hz0 hz1 hz2 rfl (fun g => (S g ∧ g < w.heap.size) ∨ w1.heap.size ≤ g) A' xs c' rfl o9 _ [.string ⟨f.name.toArray⟩, .slice P f.safe.length pc, .slice Q f.tail.length qc] f 1 rfl _ hrN hrep (by simp only [RFE]; omega) (by simp only [maxLen]; omega) b9 (Nat.le_refl _) hs9 ?_; intro A8 c8 xs8 w8 H8 o8 b8 g8 t8))
        go_roundw
        case rel => exact ⟨i + 1, k, A8, c8, xs8, rfl, rfl, by simp, by omega, by omega, by rw [H8.out, List.length_append, HXL.out]; rfl, by rw [H8.out]; exact HS.out, o8, b8⟩
        case measure => simp [Lib.intOf]; omega
      · obtain ⟨n, hn⟩ : ∃ n, n = keepP keeps k f.tail.length := ⟨_, rfl⟩
        have hnle : n ≤ f.tail.length := by rw [hn]; exact keepP_le _ _ _
        have HS : Hid ((xs ++ [⟨f.name, f.safe ++ f.tail.take n, []⟩]) ++ crashRF keeps (k + 1) (fs.drop (i + 1)) = TT) := by
          show _ = _
          rw [← HST.out, List.append_assoc]
          congr 1
          conv => rhs; unfold crashRF
          rw [if_neg htl, hn]
          rfl
        have HN := Lib.hid hn
        have d0 : (0 : Int) < (f.tail.length : Int) := by omega
        clear hn htl HST
        obtain ⟨gb, hgb⟩ : ∃ gb : Bool, gb = decide (∃ hk : keeps ≠ [], 0 < keeps.getD (k % keeps.length) 0) := ⟨_, rfl⟩
        have HGB := Lib.hid hgb
        clear hgb
        go_upto_region 9 with fail
        go_cut [39] (fun s wx => s = .bool gb ∧ wx = w3)
        case first =>
          by_cases hke : keeps = []
          · have e : gb = false := by rw [HGB.out, decide_eq_false_iff_not]; rintro ⟨h, _⟩; exact h hke
            subst hke e
            go_wp2_with fail
            go_meet
            case rel => exact ⟨rfl, rfl⟩
          · have hkl : 0 < keeps.length := List.length_pos_iff.2 hke
            have hml := Nat.mod_lt k hkl
            obtain ⟨kad, rfl, hkb, hkc, _, _⟩ := IntE.at_ hk3 hml
            have e : gb = decide (0 < keeps[k % keeps.length]'hml) := by
              rw [HGB.out]
              have e2 : keeps.getD (k % keeps.length) 0 = keeps[k % keeps.length]'hml := by rw [List.getD_eq_getElem?_getD, List.getElem?_eq_getElem hml]; rfl
              rw [e2]
              by_cases hp : 0 < keeps[k % keeps.length]'hml
              · rw [decide_eq_true hp, decide_eq_true_iff]; exact ⟨hke, hp⟩
              · rw [decide_eq_false hp, decide_eq_false_iff_not]; rintro ⟨_, h⟩; exact hp h
            clear HGB HN
            generalize keeps[k % keeps.length]'hml = kx at *
            subst e
            go_wp2_with fail
            go_meet
            case rel => exact ⟨rfl, rfl⟩
        case rest =>
          obtain ⟨rfl, hwc⟩ := hcut
          replace hwc := hwc.symm
          subst hwc
          go_upto_if 39 with fail
          go_cut [9] (fun s wx => s = .int .i64 (n : Int) ∧ ∃ m, wx = w3.drewN m)
          case first =>
            cases gb with
            | false =>
              have e : n = 0 := by
                rw [HN.out, keepP]
                split
                · rfl
                · rename_i hke
                  have h1 := of_decide_eq_false HGB.out.symm
                  have h2 : ¬ 0 < keeps.getD (k % keeps.length) 0 := fun h => h1 ⟨hke, h⟩
                  rw [show max 0 (keeps.getD (k % keeps.length) 0) = 0 by omega, Int.zero_emod]
                  rfl
              subst e
              go_wp2_with fail
              go_meet
              case rel => exact ⟨rfl, 0, rfl⟩
            | true =>
              obtain ⟨hke, hpos⟩ := of_decide_eq_true HGB.out.symm
              have hkl : 0 < keeps.length := List.length_pos_iff.2 hke
              have hml := Nat.mod_lt k hkl
              obtain ⟨kad, rfl, hkb, hkc, hk5, hk6⟩ := IntE.at_ hk3 hml
              have e2 : keeps.getD (k % keeps.length) 0 = keeps[k % keeps.length]'hml := by rw [List.getD_eq_getElem?_getD, List.getElem?_eq_getElem hml]; rfl
              rw [e2] at hpos
              have e : (n : Int) = (keeps[k % keeps.length]'hml) % ((f.tail.length : Int) + 1) := by
                rw [HN.out, keepP, if_neg hke, e2, show max 0 (keeps[k % keeps.length]'hml) = keeps[k % keeps.length]'hml by omega]
                exact Int.toNat_of_nonneg (Int.emod_nonneg _ (by omega))
              have HE := Lib.hid e
              clear e e2 HN HGB
              generalize keeps[k % keeps.length]'hml = kx at *
              go_wp2_with fail
              go_quiet (fail)
              go_wp2_with fail
              go_meet
              case rel => exact ⟨by rw [HE.out], _, rfl⟩
          case rest =>
            obtain ⟨rfl, m, hwc⟩ := hcut
            clear HGB HN gb
            subst hwc
            have b4 : Below w1.heap.size w1 (w3.drewN m) := below_drewN b3 m
            have d4 : Below w3.heap.size w3 (w3.drewN m) := below_drewN (Below.refl _ _) m
            have kF4 := kF.below d4 kF.lt
            have hF4 := hF3.below d4
            have o4 := oY.below d4
            have hk4 := hk3.below d4
            have z4 : (w3.drewN m).heap.size = w3.heap.size := rfl
            have lF3 : fb < w3.heap.size := kF.lt
            clear f1 f2 kF hF3 o3 oY hk3 b3 d4
            generalize w3.drewN m = w4 at *
            rw [← z4] at lF3
            clear z4
            have hqc := hF4.tail.2.2
            have hin1 : (0 : Int) ≤ (n : Int) := by omega
            have hin2 : (n : Int) ≤ (qc : Int) := by have := hqc.1; omega
            have htn2 : ((n : Int)).toNat = n := by omega
            go_upto_region 12 with fail
            refine wp_region_noPanic ?_
            have kFd := kF4.drew
            refine wp_region_heldK (fun Y => Blk Y fb 85 #[.string ⟨f.name.toArray⟩, .slice P f.safe.length pc, .slice Q f.tail.length qc]) 9 (by kernel_rfl) kFd (fun hH => ?_)
            refine wpAnyK_takeY (i := 0) (v := ?_) rfl (by kernel_rfl) (by kernel_rfl) (by kernel_rfl) (by kernel_rfl) (fun _ _ _ h => h) (Or.inl ⟨by rfl, ?_⟩) hH ?_
            case refine_2 => intro w; go_simp; try with_reducible rfl
            try simp only [List.getElem_toArray, List.getElem_cons_zero, Act.put, List.setIfInBounds_toArray, List.set_cons_zero, List.set_cons_succ]
            refine wpAnyK_take (i := 1) (v := ?_) rfl (by kernel_rfl) (by kernel_rfl) (by kernel_rfl) (by kernel_rfl) (fun _ _ _ h => h) (Or.inl ⟨by rfl, ?_⟩) hH ?_
            case refine_2 => intro w hSw; have s1 : w.cell? ⟨fb, 1, none⟩ = some (.slice P f.safe.length pc) := Blk.cell hSw 1; have s2 : w.cell? ⟨fb, 2, none⟩ = some (.slice Q f.tail.length qc) := Blk.cell hSw 2; have s0 : w.cell? ⟨fb, 0, none⟩ = some (.string ⟨f.name.toArray⟩) := Blk.cell hSw 0; clear hSw; go_simp; try with_reducible rfl
            try simp only [List.getElem_toArray, List.getElem_cons_zero, List.getElem_cons_succ, Act.put, List.setIfInBounds_toArray, List.set_cons_zero, List.set_cons_succ]
            refine wpAnyK_takeY (i := 3) (v := ?_) rfl (by kernel_rfl) (by kernel_rfl) (by kernel_rfl) (by kernel_rfl) (fun _ _ _ h => h) (Or.inl ⟨by rfl, ?_⟩) hH ?_
            case refine_2 => intro w; go_simp; try with_reducible rfl
            try simp only [List.getElem_toArray, List.getElem_cons_zero, List.getElem_cons_succ, Act.put, List.setIfInBounds_toArray, List.set_cons_zero, List.set_cons_succ]
            refine wpAnyK_take (i := 4) (v := ?_) rfl (by kernel_rfl) (by kernel_rfl) (by kernel_rfl) (by kernel_rfl) (fun _ _ _ h => h) (Or.inl ⟨by rfl, ?_⟩) hH ?_
            case refine_2 => intro w hSw; have s1 : w.cell? ⟨fb, 1, none⟩ = some (.slice P f.safe.length pc) := Blk.cell hSw 1; have s2 : w.cell? ⟨fb, 2, none⟩ = some (.slice Q f.tail.length qc) := Blk.cell hSw 2; have s0 : w.cell? ⟨fb, 0, none⟩ = some (.string ⟨f.name.toArray⟩) := Blk.cell hSw 0; clear hSw; go_simp; try with_reducible rfl
            try simp only [List.getElem_toArray, List.getElem_cons_zero, List.getElem_cons_succ, Act.put, List.setIfInBounds_toArray, List.set_cons_zero, List.set_cons_succ]
            refine wpAnyK_takeY (i := 5) (v := ?_) rfl (by kernel_rfl) (by kernel_rfl) (by kernel_rfl) (by kernel_rfl) (fun _ _ _ h => h) (Or.inl ⟨by rfl, ?_⟩) hH ?_
            case refine_2 => intro w; go_simp; try with_reducible rfl
            try simp only [List.getElem_toArray, List.getElem_cons_zero, List.getElem_cons_succ, Act.put, List.setIfInBounds_toArray, List.set_cons_zero, List.set_cons_succ]
            refine wpAnyK_takeY (i := 6) (v := ?_) rfl (by kernel_rfl) (by kernel_rfl) (by kernel_rfl) (by kernel_rfl) (fun _ _ _ h => h) (Or.inl ⟨by rfl, ?_⟩) hH ?_
            case refine_2 => intro w; go_simp; try with_reducible rfl
            try simp only [List.getElem_toArray, List.getElem_cons_zero, List.getElem_cons_succ, Act.put, List.setIfInBounds_toArray, List.set_cons_zero, List.set_cons_succ]
            refine wpAnyK_ready (rs := [2]) (by kernel_rfl) (by simp) ?_
            refine AllReadyK.cons rfl (by kernel_rfl) (fun K hK => ?_) AllReadyK.nil
            go_simp
            refine (copy_any P f.safe pc w4.drew hF4.safe.1.drew).mono ?_
            rintro en w5 ⟨A5, c5, rfl, o5, b5⟩
            replace o5 : OwnB w4.heap.size w5 A5 f.safe c5 := o5
            have b4d : Below w4.heap.size w4 w4.drew := (Below.refl _ _).drew
            have b45 := below_step b4d b5
            have kF5 := kFd.below b5 kFd.lt
            refine hK.out _ _ kF5 ?_
            clear hK K hH
            try dsimp only
            try simp only [List.getElem_toArray, List.getElem_cons_zero, List.getElem_cons_succ, Act.put, List.setIfInBounds_toArray, List.set_cons_zero, List.set_cons_succ]
            refine wpAnyK_ready (rs := [7]) (by kernel_rfl) (by simp) ?_
            refine AllReadyK.cons rfl (by kernel_rfl) (fun K hK => ?_) AllReadyK.nil
            have hbt : Bs w5 Q (f.tail.take n) := Bs.takeD (hF4.tail.1.below b45) n
            have hlt3 : (f.tail.take n).length = n := by rw [List.length_take]; omega
            have HLT := Lib.hid hlt3
            refine step_app w4.heap.size w4 w5 rfl (.tmp 56) (.tmp 60) rfl A5 f.safe c5 rfl o5 Q (f.tail.take n) qc (by rw [HLT.out]; rfl) hbt (by rw [hlt3]; omega) b45 (Nat.le_refl _) b45.size ?_
            clear hlt3
            intro A6 c6 all w6 H6 o6 b6 g6 _
            have kF6 := kF5.grown g6 (fun e => by have h1 := (OwnB.lt o5 _ e.symm).1; omega)
            refine hK.out _ _ kF6 ?_
            clear hK K
            try dsimp only
            try simp only [List.getElem_toArray, List.getElem_cons_zero, List.getElem_cons_succ, Act.put, List.setIfInBounds_toArray, List.set_cons_zero, List.set_cons_succ]
            refine wpAnyK_takeY (i := 8) (v := ?_) rfl (by kernel_rfl) (by kernel_rfl) (by kernel_rfl) (by kernel_rfl) (fun _ _ _ h => h) (Or.inl ⟨by rfl, ?_⟩) kF6 ?_
            case refine_2 => intro w; go_simp; try with_reducible rfl
            try simp only [List.getElem_toArray, List.getElem_cons_zero, List.getElem_cons_succ, Act.put, List.setIfInBounds_toArray, List.set_cons_zero, List.set_cons_succ]
            refine wpAnyK_ready (rs := [9]) (by kernel_rfl) (by simp) ?_
            refine AllReadyK.turn rfl (fun K hK => ?_) AllReadyK.nil
            have f61 : w6.cell? ⟨fb, 1, none⟩ = some (.slice P f.safe.length pc) := kF6.cell 1
            have ff61 : w6.frozen? ⟨fb, 1, none⟩ = false := kF6.frozen 1
            go_simp
            refine hK.out _ _ ?_
            clear hK K f61 ff61
            try simp only [List.getElem_toArray, List.getElem_cons_succ, List.getElem_cons_zero, Act.put]
            refine wpAny_done (by kernel_rfl) ?_ _
            refine NoPanic.normal ?_
            have g7 : w6.grownBy (w6.setCell ⟨fb, 1, none⟩ (.slice A6 all.length c6)) (some fb) := only_setCell (World.grownBy.refl _ _) (p := ⟨fb, 1, none⟩) (.inl rfl) _
            have kF7 : Blk (w6.setCell ⟨fb, 1, none⟩ (.slice A6 all.length c6)) fb 85 #[.string ⟨f.name.toArray⟩, .slice A6 all.length c6, .slice Q f.tail.length qc] := kF6.set_ 1 (.slice A6 all.length c6)
            have o7 := OwnB.kept o6 g7 (fun g hg e => by have h1 := (OwnB.lt o6 g hg).1; have := Option.some.inj e; omega)
            have oX7 := (o4.below b6).same g7 (.inr (fun e => by have h1 := (hlX3.out _ e).2; omega)) (fun g hg e => by have h1 := Option.some.inj e; have := hg.2; omega)
            have hF7 := (hF4.below b6).grown g7 (fun g hg e => by have h1 := Option.some.inj e; omega)
            have b7 := (b4.trans (b6.mono (by have := b4.size; omega))).grown g7 (by have := b4.size; have := b6.size; omega) (fun j hj => by have := Option.some.inj hj; omega)
            have s46 := b6.size
            have s67 := g7.size
            have hal : all.length ≤ 70368744177664 := by rw [H6.out, List.length_append, HLT.out]; omega
            have HAL : Hid (all = f.safe ++ f.tail.take n) := H6.out
            clear kF4 kF5 kF6 kFd o4 o5 o6 b5 b6 b45 b4d g6 g7 hF4 hbt HLT H6
            have f72 : (w6.setCell ⟨fb, 1, none⟩ (.slice A6 all.length c6)).cell? ⟨fb, 2, none⟩ = some (.slice Q f.tail.length qc) := kF7.cell 2
            have ff72 : (w6.setCell ⟨fb, 1, none⟩ (.slice A6 all.length c6)).frozen? ⟨fb, 2, none⟩ = false := kF7.frozen 2
            generalize (w6.setCell ⟨fb, 1, none⟩ (.slice A6 all.length c6)) = w7 at *
            have g8 : w7.grownBy (w7.setCell ⟨fb, 2, none⟩ (.slice none 0 0)) (some fb) := only_setCell (World.grownBy.refl _ _) (p := ⟨fb, 2, none⟩) (.inl rfl) _
            have kF8 : Blk (w7.setCell ⟨fb, 2, none⟩ (.slice none 0 0)) fb 85 #[.string ⟨f.name.toArray⟩, .slice A6 all.length c6, .slice none 0 0] := kF7.set_ 2 (.slice none 0 0)
            have o8 := OwnB.kept o7 g8 (fun g hg e => by have h1 := (OwnB.lt o7 g hg).1; have := Option.some.inj e; omega)
            have oX8 := oX7.same g8 (.inr (fun e => by have h1 := (hlX3.out _ e).2; omega)) (fun g hg e => by have h1 := Option.some.inj e; have := hg.2; omega)
            have b8 := b7.grown g8 b7.size (fun j hj => by have := Option.some.inj hj; omega)
            have hnmf : f.name.length ≤ 140737488355328 := hF7.name
            have s78 := g8.size
            go_upto_region 14 with fail
            clear f72 ff72 kF7 o7 oX7 g8 b7 hF7
            generalize (w7.setCell ⟨fb, 2, none⟩ (.slice none 0 0)) = w8 at *
            have d9 : Below w8.heap.size w8 (w8.alloc (.cells #[.string ⟨f.name.toArray⟩, .slice A6 all.length c6, .slice none 0 0] 85)) := (Below.refl _ _).alloc (Nat.le_refl _) _
            have hrN := Reads.newN w8 [.string ⟨f.name.toArray⟩, .slice A6 all.length c6, .slice none 0 0] 85
            have b9 := b8.trans (d9.mono (by have := b8.size; omega))
            have oX9 := (oX8.mono (S' := fun g => (S g ∧ g < w.heap.size) ∨ w1.heap.size ≤ g) (fun b _ _ h2 => h2.1)).below d9
            have hFN : FOk w8 (fun g => ((S g ∧ g < w.heap.size) ∨ w1.heap.size ≤ g) ∧ (Value.slice A' xs.length c').ownBlock ≠ some g) A6 c6 none 0 ⟨f.name, all, []⟩ :=
              ⟨hnmf, ⟨OwnB.bs o8 (by show all.length ≤ _; omega), (OwnB.at_ o8).mono' fun g h => ⟨.inr (by omega), fun e => by have h1 := (hlX3.out _ e).2; omega⟩, (OwnB.caps o8).1, (OwnB.caps o8).2⟩, ⟨Bs.nil_ _ _, (fun _ e => by cases e), Nat.le_refl _, by decide⟩⟩
            have hrep := FOk.rep (hFN.below d9)
            have hs9 := b9.size
            clear hFN oX8 b8 o8
            go_wp2_with (first
              | ((with_reducible refine wpList_load_blk rfl 85 (.tmp 8) rfl fb ?_ 85 _ _ kF8 Try.underlying85 ?_ Try.size_RF ?_ ?_); rfl; rfl; rfl)
              | (at_builtin; refine wpList_appE RFE w1.heap.size w1 _ rfl (.tmp 64) (.tmp 66) 85 43 rfl i0 _ Try.underlying43 hi0 hz0 hz1 hz2 rfl (fun g => (S g ∧ g < w.heap.size) ∨ w1.heap.size ≤ g) A' xs c' rfl oX9 _ [.string ⟨f.name.toArray⟩, .slice A6 all.length c6, .slice none 0 0] ⟨f.name, all, []⟩ 1 rfl _ hrN hrep (by simp only [RFE]; omega) (by simp only [maxLen]; omega) b9 (Nat.le_refl _) hs9 ?_; intro A8 c8 xs8 w9 H8 o9 b9' g9 t9))
            go_roundw
            case rel => exact ⟨i + 1, k + 1, A8, c8, xs8, by simp, rfl, by simp, by omega, by omega, by rw [H8.out, List.length_append, HXL.out]; rfl, by rw [H8.out, HAL.out]; exact HS.out, o9, b9'⟩
            case measure => simp [Lib.intOf]; omega
    · obtain rfl : i = fs.length := by omega
      have HE : Hid (xs = TT) := by
        have := HX.out
        rw [List.drop_length] at this
        show _ = _
        rw [← this]
        show xs = xs ++ []
        rw [List.append_nil]
      clear HX
      have b0 : Below w.heap.size w wr := b1.trans (br.mono (by omega))
      have kRr := kR.below br kR.lt
      have hcpX := Own.caps oX
      have hltX := Own.lt oX
      have HC := Lib.hid hcpX
      clear hcpX
      have af0 : wr.frozen? ⟨w.heap.size, 0, none⟩ = false := kAr.frozen 0
      have k1 : Blk (wr.setCell ⟨w.heap.size, 0, none⟩ (.slice A' xs.length c')) w.heap.size 45 (rcs A' c' ⟨xs, room, armed, dead⟩) := kAr.set_ 0 _
      have y3 : (wr.setCell ⟨w.heap.size, 0, none⟩ (.slice A' xs.length c')).cell? ⟨w.heap.size, 3, none⟩ = some (.bool dead) := k1.cell 3
      have f3 : (wr.setCell ⟨w.heap.size, 0, none⟩ (.slice A' xs.length c')).frozen? ⟨w.heap.size, 3, none⟩ = false := k1.frozen 3
      have k2 : Blk ((wr.setCell ⟨w.heap.size, 0, none⟩ (.slice A' xs.length c')).setCell ⟨w.heap.size, 3, none⟩ (.bool false)) w.heap.size 45 (rcs A' c' ⟨xs, room, armed, false⟩) := k1.set_ 3 _
      have y2 : ((wr.setCell ⟨w.heap.size, 0, none⟩ (.slice A' xs.length c')).setCell ⟨w.heap.size, 3, none⟩ (.bool false)).cell? ⟨w.heap.size, 2, none⟩ = some (.int .i64 armed) := k2.cell 2
      have f2 : ((wr.setCell ⟨w.heap.size, 0, none⟩ (.slice A' xs.length c')).setCell ⟨w.heap.size, 3, none⟩ (.bool false)).frozen? ⟨w.heap.size, 2, none⟩ = false := k2.frozen 2
      have k3 : Blk (((wr.setCell ⟨w.heap.size, 0, none⟩ (.slice A' xs.length c')).setCell ⟨w.heap.size, 3, none⟩ (.bool false)).setCell ⟨w.heap.size, 2, none⟩ (.int .i64 (-1))) w.heap.size 45 (rcs A' c' ⟨xs, room, -1, false⟩) := k2.set_ 2 _
      have g3 : wr.grownBy (((wr.setCell ⟨w.heap.size, 0, none⟩ (.slice A' xs.length c')).setCell ⟨w.heap.size, 3, none⟩ (.bool false)).setCell ⟨w.heap.size, 2, none⟩ (.int .i64 (-1))) (some w.heap.size) := only_setCell (only_setCell (only_setCell (World.grownBy.refl _ _) (p := ⟨w.heap.size, 0, none⟩) (.inl rfl) _) (p := ⟨w.heap.size, 3, none⟩) (.inl rfl) _) (p := ⟨w.heap.size, 2, none⟩) (.inl rfl) _
      have kR3 := kRr.grown g3 (fun e => by have h1 := Option.some.inj e; omega)
      have oX3 := oX.same g3 (.inr (fun e => by have h1 := (hltX _ e).1; omega)) (fun g hg e => by have h1 := Option.some.inj e; rcases hg with hg | hg <;> omega)
      have b3 := b0.grown g3 b0.size (fun j hj => by have := Option.some.inj hj; omega)
      go_upto_region 18 with fail
      clear k1 k2 y3 f3 y2 f2 af0 a0 g3 kRr oX kAr b0 br
      generalize (((wr.setCell ⟨w.heap.size, 0, none⟩ (.slice A' xs.length c')).setCell ⟨w.heap.size, 3, none⟩ (.bool false)).setCell ⟨w.heap.size, 2, none⟩ (.int .i64 (-1))) = wX at *
      go_wp2_with (first
        | ((with_reducible refine wpList_load_blk rfl 45 (.tmp 2) rfl w.heap.size ?_ 45 _ _ k3 Try.underlying45 ?_ Try.size_RD ?_ ?_); rfl; rfl; rfl)
        | ((with_reducible refine wpList_store_blk rfl 45 (.tmp 4) (.tmp 72) rfl (w.heap.size + 1) 45 _ (rcs A' c' ⟨xs, room, -1, false⟩) ?_ ?_ kR3 Try.size_RD ?_ ?_ ?_ ?_); rfl; rfl; rfl; rfl; (simp [rcs, Value.oneCell']); intro wz kz gz zz))
      have bz := b3.grown gz b3.size (fun j hj => by have := Option.some.inj hj; omega)
      have oz := oX3.same gz (.inr (fun e => by have h1 := (oX3.lt _ e).1; have := Z1.out; omega)) (fun g hg e => by have h1 := Option.some.inj e; have := Z1.out; rcases hg with hg | hg <;> omega)
      exact bodyPost_ret (results_cell rfl rfl kz Try.underlying45 rfl Try.size_RD) rfl (by
        have hS := oz.slS (S' := fun g => S g ∨ w.heap.size ≤ g) rfl (by show xs.length * 64 ≤ _; omega) (fun g h => by rcases h with h | h; exact .inl h.1; exact .inr (by omega)) (fun g h => .inr (by omega))
        have e := HE.out
        have hc := HC.out
        rw [HTT.out.symm] at e
        show RetRD ⟨crashRF keeps 0 fs, room, -1, false⟩ S w _ _
        rw [← e]
        exact ⟨A', c', rfl, hS, hc.1, hc.2, bz⟩)
end Go.Proofs.Ytnhonjgclbmheaa
