/- The reference's disk: Turn. (Printed by wip/gen_rdt.py.) -/
import Derived.Test.YtnhonjgclbmheaaRdC
import Derived.Test.YtnhonjgclbmheaaHeldK
import Derived.Test.YtnhonjgclbmheaaBlkS
namespace Go.Proofs.Ytnhonjgclbmheaa
open Go.RowKit

/-- the error ahead of the turn -/
def turnE (W : LRD) (kind : Int) (nm : List UInt8) (size : Int) : Int :=
  if kind = 4 ∧ (size < 0 ∨ ((getR W.files nm).2 = true ∧ (((getR W.files nm).1.safe ++ (getR W.files nm).1.tail).length : Int) < size)) then 1 else if (getR W.files nm).2 then 0 else 6
/-- the files behind Sync, Rename, Remove, Cut -/
def turnF (fs : List LRF) (kind : Int) (nm tn : List UInt8) (size : Int) : List LRF :=
  if kind = 1 then withR fs ⟨nm, (getR fs nm).1.safe ++ (getR fs nm).1.tail, []⟩
  else if kind = 2 then withR (outR fs nm) ⟨tn, (getR fs nm).1.safe, (getR fs nm).1.tail⟩
  else if kind = 3 then outR fs nm
  else if kind = 4 then withR fs ⟨nm, ((getR fs nm).1.safe ++ (getR fs nm).1.tail).take size.toNat, []⟩ else fs
def turnR (W : LRD) (kind : Int) (nm tn : List UInt8) (size : Int) : LRD × Int :=
  let r := mayR W (turnE W kind nm size)
  if r.2.1 then ({ r.1 with files := turnF r.1.files kind nm tn size }, r.2.2.1) else (r.1, r.2.2.1)
theorem mayR_ok {W : LRD} {e : Int} (h : (mayR W e).2.1 = true) : e = 0 := by
  unfold mayR at h
  split at h
  · cases h
  · split at h
    · cases h
    · rename_i h1
      exact Classical.byContradiction h1
theorem outR_len (fs : List LRF) (nm : List UInt8) : (outR fs nm).length ≤ fs.length := by
  unfold outR
  split
  · rw [List.length_append, List.length_take, List.length_drop]; omega
  · exact Nat.le_refl _
theorem Bs.takeD {w : World} {A : Option Addr} {l : List UInt8} (h : Bs w A l) (n : Nat) : Bs w A (l.take n) := by
  by_cases hn : n ≤ l.length
  · exact h.take3 n hn
  · rw [List.take_of_length_le (by omega)]; exact h
set_option maxRecDepth 100000 in
set_option maxHeartbeats 8000000 in
theorem rturn_any (A : Option Addr) (c : Nat) (W : LRD) (S : Nat → Prop) (kind : Int) (nm tn : List UInt8) (size : Int) (w : World) (h : SlS RFE w S A W.files) (hc : W.files.length ≤ c ∧ c ≤ 9223372036854775807)
    (hn : nm.length ≤ 140737488355328) (htn : tn.length ≤ 140737488355328) (hl : W.files.length ≤ 1048575) (ha : -1 ≤ W.armed ∧ W.armed ≤ 9223372036854775807) (hfl : (getR W.files nm).1.safe.length + (getR W.files nm).1.tail.length ≤ 70368744177664) :
    Calls Try.prog 30 #[rv A c W, .int .i64 kind, .string ⟨nm.toArray⟩, .string ⟨tn.toArray⟩, .int .i64 size] w (RetRDE (turnR W kind nm tn size) S w) := by
  obtain ⟨fs, room, armed, dead⟩ := W
  replace h : SlS RFE w S A fs := h
  replace h := h.lo
  replace hc : fs.length ≤ c ∧ c ≤ 9223372036854775807 := hc
  replace hl : fs.length ≤ 1048575 := hl
  replace hfl : (getR fs nm).1.safe.length + (getR fs nm).1.tail.length ≤ 70368744177664 := hfl
  go_enter Try.func30, Try.ntmps30
  have dA : Below w.heap.size w (w.alloc (.cells (rcs A c ⟨fs, room, armed, dead⟩) 45)) := (Below.refl _ _).alloc (Nat.le_refl _) _
  have kA := Blk.new w 45 (rcs A c ⟨fs, room, armed, dead⟩)
  have zA : (w.alloc (.cells (rcs A c ⟨fs, room, armed, dead⟩) 45)).heap.size = w.heap.size + 1 := by simp
  go_upto_region 1 with fail
  change Code.wp _ _ _ _ ((w.alloc (.cells (rcs A c ⟨fs, room, armed, dead⟩) 45)).alloc (.cells (rcs none 0 ⟨[], 0, 0, false⟩) 45))
  generalize w.alloc (.cells (rcs A c ⟨fs, room, armed, dead⟩) 45) = wA at *
  have dR : Below wA.heap.size wA (wA.alloc (.cells (rcs none 0 ⟨[], 0, 0, false⟩) 45)) := (Below.refl _ _).alloc (Nat.le_refl _) _
  have kR := Blk.new wA 45 (rcs none 0 ⟨[], 0, 0, false⟩)
  have zR : (wA.alloc (.cells (rcs none 0 ⟨[], 0, 0, false⟩) 45)).heap.size = wA.heap.size + 1 := by simp
  generalize wA.alloc (.cells (rcs none 0 ⟨[], 0, 0, false⟩) 45) = w1 at *
  rw [zA] at kR
  have b1 : Below w.heap.size w w1 := dA.trans (dR.mono (by omega))
  replace kA := kA.below dR (by omega)
  have h1 := h.below b1
  have z1 : w1.heap.size = w.heap.size + 1 + 1 := by omega
  have Z1 := Lib.hid z1
  have l1 : w.heap.size < w1.heap.size := by omega
  clear dA dR zA zR z1
  have T := rget_any A c ⟨fs, room, armed, dead⟩ _ nm w1 h1 hn (by show fs.length ≤ _; omega)
  go_wp2_with ((with_reducible refine wpList_load_blk rfl 45 (.tmp 5) rfl w.heap.size ?_ 45 _ _ kA Try.underlying45 ?_ Try.size_RD ?_ ?_); rfl; rfl; rfl)
  refine T.mono ?_
  clear T
  have HP : Hid (turnR ⟨fs, room, armed, dead⟩ kind nm tn size = (let r := mayR ⟨fs, room, armed, dead⟩ (turnE ⟨fs, room, armed, dead⟩ kind nm size); if r.2.1 then ({ r.1 with files := turnF r.1.files kind nm tn size }, r.2.2.1) else (r.1, r.2.2.1))) := rfl
  have HTE : Hid (turnE ⟨fs, room, armed, dead⟩ kind nm size = if kind = 4 ∧ (size < 0 ∨ ((getR fs nm).2 = true ∧ (((getR fs nm).1.safe ++ (getR fs nm).1.tail).length : Int) < size)) then 1 else if (getR fs nm).2 then 0 else 6) := rfl
  have HTF : Hid (turnF fs kind nm tn size = if kind = 1 then withR fs ⟨nm, (getR fs nm).1.safe ++ (getR fs nm).1.tail, []⟩
    else if kind = 2 then withR (outR fs nm) ⟨tn, (getR fs nm).1.safe, (getR fs nm).1.tail⟩
    else if kind = 3 then outR fs nm
    else if kind = 4 then withR fs ⟨nm, ((getR fs nm).1.safe ++ (getR fs nm).1.tail).take size.toNat, []⟩ else fs) := rfl
  show ∀ (en : Ending) (w' : World), RetRF (getR fs nm) _ w1 en w' → _
  obtain ⟨e1, he1⟩ : ∃ e1, e1 = turnE ⟨fs, room, armed, dead⟩ kind nm size := ⟨_, rfl⟩
  rw [← he1] at HP HTE
  clear he1
  generalize getR fs nm = rg at *
  obtain ⟨f, there⟩ := rg
  replace hfl : f.safe.length + f.tail.length ≤ 70368744177664 := hfl
  replace HTE : Hid (e1 = if kind = 4 ∧ (size < 0 ∨ (there = true ∧ ((f.safe ++ f.tail).length : Int) < size)) then 1 else if there then 0 else 6) := HTE
  replace HTF : Hid (turnF fs kind nm tn size = if kind = 1 then withR fs ⟨nm, f.safe ++ f.tail, []⟩ else if kind = 2 then withR (outR fs nm) ⟨tn, f.safe, f.tail⟩ else if kind = 3 then outR fs nm else if kind = 4 then withR fs ⟨nm, (f.safe ++ f.tail).take size.toNat, []⟩ else fs) := HTF
  rintro en w2 ⟨P, pc, Q, qc, rfl, hF, b2⟩
  replace hF : FOk w2 _ P pc Q qc f := hF
  have b02 := below_step b1 b2
  have kA2 := kA.below b2 kA.lt
  have kR2 := kR.below b2 kR.lt
  have h2 := h1.below b2
  have s2 := b2.size
  have d3 : Below w2.heap.size w2 (w2.alloc (.cells #[.string ⟨f.name.toArray⟩, .slice P f.safe.length pc, .slice Q f.tail.length qc] 85)) := (Below.refl _ _).alloc (Nat.le_refl _) _
  have kF := Blk.new w2 85 #[.string ⟨f.name.toArray⟩, .slice P f.safe.length pc, .slice Q f.tail.length qc]
  have hF3 := hF.below d3
  have b03 := below_step b02 d3
  have kA3 := kA2.below d3 kA2.lt
  have kR3 := kR2.below d3 kR2.lt
  have h3 := h2.below d3
  have lF := kF.lt
  obtain ⟨e0, he0⟩ : ∃ e0 : Int, e0 = if there then 0 else 6 := ⟨_, rfl⟩
  have HE0 := Lib.hid he0
  clear hF kA kR kA2 kR2 h1 h2 b1 b2 he0
  dsimp only
  go_upto_region 2 with fail
  generalize (w2.alloc (.cells #[.string ⟨f.name.toArray⟩, .slice P f.safe.length pc, .slice Q f.tail.length qc] 85)) = w3 at *
  generalize w2.heap.size = fb at *
  go_upto_if 25 with fail
  go_cut [14] (fun s wx => s = .int .i64 e0 ∧ wx = w3)
  case first =>
    cases there with
    | true =>
      go_wp2_with fail
      go_meet
      case rel => exact ⟨by rw [HE0.out]; rfl, rfl⟩
    | false =>
      go_wp2_with fail
      go_meet
      case rel => exact ⟨by rw [HE0.out]; rfl, rfl⟩
  case rest =>
    obtain ⟨rfl, hwc⟩ := hcut
    replace hwc := hwc.symm
    subst hwc
    have kd := kF.drew
    go_upto_region 5 with fail
    refine wp_region_noPanic ?_
    refine wp_region_held_drew (S := fun Y => Y.cell? ⟨fb, 1, none⟩ = some (.slice P f.safe.length pc) ∧ Y.cell? ⟨fb, 2, none⟩ = some (.slice Q f.tail.length qc)) (by kernel_rfl) ⟨kd.cell 1, kd.cell 2⟩ (fun hH => ?_)
    refine wpAnyH_take (i := 0) (v := ?_) rfl (by kernel_rfl) (by kernel_rfl) (by kernel_rfl) (fun _ _ _ h => h) (Or.inl ⟨by rfl, ?_⟩) hH ?_
    case refine_2 => intro w hSw; go_simp; try with_reducible rfl
    try simp only [List.getElem_toArray, List.getElem_cons_zero, Act.put, List.setIfInBounds_toArray, List.set_cons_zero, List.set_cons_succ]
    refine wpAnyH_take (i := 1) (v := ?_) rfl (by kernel_rfl) (by kernel_rfl) (by kernel_rfl) (fun _ _ _ h => h) (Or.inl ⟨by rfl, ?_⟩) hH ?_
    case refine_2 => intro w hSw; obtain ⟨s0, s1⟩ := hSw; go_simp; try with_reducible rfl
    try simp only [List.getElem_toArray, List.getElem_cons_zero, List.getElem_cons_succ, Act.put, List.setIfInBounds_toArray, List.set_cons_zero, List.set_cons_succ]
    refine wpAnyH_take (i := 3) (v := ?_) rfl (by kernel_rfl) (by kernel_rfl) (by kernel_rfl) (fun _ _ _ h => h) (Or.inl ⟨by rfl, ?_⟩) hH ?_
    case refine_2 => intro w hSw; go_simp; try with_reducible rfl
    try simp only [List.getElem_toArray, List.getElem_cons_zero, List.getElem_cons_succ, Act.put, List.setIfInBounds_toArray, List.set_cons_zero, List.set_cons_succ]
    refine wpAnyH_take (i := 4) (v := ?_) rfl (by kernel_rfl) (by kernel_rfl) (by kernel_rfl) (fun _ _ _ h => h) (Or.inl ⟨by rfl, ?_⟩) hH ?_
    case refine_2 => intro w hSw; obtain ⟨s0, s1⟩ := hSw; go_simp; try with_reducible rfl
    try simp only [List.getElem_toArray, List.getElem_cons_zero, List.getElem_cons_succ, Act.put, List.setIfInBounds_toArray, List.set_cons_zero, List.set_cons_succ]
    refine wpAnyH_ready (rs := [2]) (by kernel_rfl) (by simp) ?_
    refine AllReadyH.cons rfl (fun K hK => ?_) AllReadyH.nil
    go_simp
    refine (copy_any P f.safe pc w3.drew hF3.safe.1.drew).mono ?_
    rintro en w4 ⟨A4, c4, rfl, o4, b4⟩
    replace o4 : OwnB w3.heap.size w4 A4 f.safe c4 := o4
    have b3d : Below w3.heap.size w3 w3.drew := (Below.refl _ _).drew
    have b34 := below_step b3d b4
    have kF4 := kd.below b4 kd.lt
    refine hK.out _ _ ⟨kF4.cell 1, kF4.cell 2⟩ (fun hH => ?_)
    clear hK K
    try dsimp only
    try simp only [List.getElem_toArray, List.getElem_cons_zero, List.getElem_cons_succ, Act.put, List.setIfInBounds_toArray, List.set_cons_zero, List.set_cons_succ]
    refine wpAnyH_ready (rs := [5]) (by kernel_rfl) (by simp) ?_
    refine AllReadyH.cons rfl (fun K hK => ?_) AllReadyH.nil
    refine step_app w3.heap.size w3 w4 rfl (.tmp 28) (.tmp 30) rfl A4 f.safe c4 rfl o4 Q f.tail qc rfl (hF3.tail.1.below b34) (by omega) b34 (Nat.le_refl _) b34.size ?_
    intro A5 c5 all w5 H5 o5 b5 g5 _
    have kF5 := kF4.grown g5 (fun e => by have h1 := (OwnB.lt o4 _ e.symm).1; have := kF.lt; omega)
    refine hK.out _ _ ⟨kF5.cell 1, kF5.cell 2⟩ (fun hH => ?_)
    clear hK K
    try dsimp only
    try simp only [List.getElem_toArray, List.getElem_cons_zero, List.getElem_cons_succ, Act.put, List.setIfInBounds_toArray, List.set_cons_zero, List.set_cons_succ]
    refine wpAnyH_take (i := 6) (v := ?_) rfl (by kernel_rfl) (by kernel_rfl) (by kernel_rfl) (fun _ _ _ h => h) (Or.inl ⟨by rfl, ?_⟩) hH ?_
    case refine_2 => intro w hSw; go_simp; try with_reducible rfl
    try simp only [List.getElem_toArray, List.getElem_cons_zero, List.getElem_cons_succ, Act.put, List.setIfInBounds_toArray, List.set_cons_zero, List.set_cons_succ]
    refine wpAnyH_done (by kernel_rfl) ?_ _
    refine NoPanic.normal ?_
    clear hH kd kF4 o4 b4 b34 b3d
    have b05 := b03.trans (b5.mono b03.size)
    have kA5 := kA3.below b5 kA3.lt
    have kR5 := kR3.below b5 kR3.lt
    have h5 := h3.below b5
    have hF5 := hF3.below b5
    have s5 := b5.size
    have s03 := b03.size
    have hall : all.length ≤ 70368744177664 := by rw [H5.out, List.length_append]; omega
    clear kA3 kR3 h3 hF3 b5 g5 kF b03 d3
    obtain ⟨gb, hgb⟩ : ∃ gb : Bool, gb = decide (kind = 4 ∧ (size < 0 ∨ (there = true ∧ (all.length : Int) < size))) := ⟨_, rfl⟩
    have HGB := Lib.hid hgb
    have HE1 : Hid (e1 = if gb then 1 else e0) := by
      show _ = _
      rw [HTE.out, ← H5.out, hgb, HE0.out]
      simp only [decide_eq_true_eq]
    clear hgb HTE
    go_upto_region 6 with fail
    go_cut [46] (fun s wx => s = .bool gb ∧ wx = w5)
    case first =>
      by_cases hk : kind = 4
      · subst hk
        by_cases hneg : size < 0
        · have e : gb = true := by rw [HGB.out, decide_eq_true_iff]; exact ⟨rfl, .inl hneg⟩
          subst e
          go_wp2_with fail
          go_meet
          case rel => exact ⟨rfl, rfl⟩
        · cases there with
          | false =>
            have e : gb = false := by rw [HGB.out, decide_eq_false_iff_not]; rintro ⟨_, h | h⟩; exact hneg h; cases h.1
            subst e
            go_wp2_with fail
            go_meet
            case rel => exact ⟨rfl, rfl⟩
          | true =>
            have e : gb = decide ((all.length : Int) < size) := by rw [HGB.out]; simp [hneg]
            subst e
            clear HGB
            go_wp2_with fail
            go_meet
            case rel => exact ⟨rfl, rfl⟩
      · have e : gb = false := by rw [HGB.out, decide_eq_false_iff_not]; exact fun h => hk h.1
        have hk2 : (kind == 4) = false := by rw [beq_eq_false_iff_ne]; exact hk
        subst e
        clear hk
        go_wp2_with fail
        go_meet
        case rel => exact ⟨rfl, rfl⟩
    case rest =>
      obtain ⟨rfl, hwc⟩ := hcut
      replace hwc := hwc.symm
      subst hwc
      go_upto_if 46 with fail
      go_cut [14] (fun s wx => s = .int .i64 e1 ∧ wx = w5)
      case first =>
        cases gb with
        | true =>
          go_wp2_with fail
          go_meet
          case rel => exact ⟨by rw [HE1.out]; rfl, rfl⟩
        | false =>
          go_wp2_with fail
          go_meet
          case rel => exact ⟨by rw [HE1.out]; rfl, rfl⟩
      case rest =>
        obtain ⟨rfl, hwc⟩ := hcut
        replace hwc := hwc.symm
        subst hwc
        have T := rmay_any A c ⟨fs, room, armed, dead⟩ e1 w5 ha
        have hmf := mayR_files ⟨fs, room, armed, dead⟩ e1
        have hmo : (mayR ⟨fs, room, armed, dead⟩ e1).2.1 = true → e1 = 0 := mayR_ok
        have hsz : e1 = 0 → kind = 4 → 0 ≤ size ∧ size ≤ (all.length : Int) := by
          intro h0 h4
          have hg : gb = false := by
            cases hgb : gb with
            | false => rfl
            | true => have := HE1.out; rw [hgb] at this; rw [h0] at this; cases this
          have h1 := HE1.out
          rw [hg] at h1
          have h1 : e1 = e0 := h1
          have hth : there = true := by
            cases hb : there with
            | true => rfl
            | false => have := HE0.out; rw [hb] at this; rw [h0, this] at h1; cases h1
          have h2 := HGB.out
          rw [hg] at h2
          have h3 := of_decide_eq_false h2.symm
          exact ⟨Int.not_lt.1 fun h5 => h3 ⟨h4, .inl h5⟩, Int.not_lt.1 fun h5 => h3 ⟨h4, .inr ⟨hth, h5⟩⟩⟩
        have HSZ := Lib.hid hsz
        clear hsz HE1 HE0 HGB
        go_wp2_with ((with_reducible refine wpList_load_blk rfl 45 (.tmp 5) rfl w.heap.size ?_ 45 _ _ kA5 Try.underlying45 ?_ Try.size_RD ?_ ?_); rfl; rfl; rfl)
        refine T.mono ?_
        clear T
        generalize mayR ⟨fs, room, armed, dead⟩ e1 = rm at *
        obtain ⟨⟨fs2, room2, armed2, dead2⟩, ok, er, killed⟩ := rm
        obtain ⟨hf1, hr1⟩ := hmf
        replace hf1 : fs2 = fs := hf1
        replace hr1 : room2 = room := hr1
        subst hf1 hr1
        replace HP : Hid (turnR ⟨fs2, room2, armed, dead⟩ kind nm tn size = if ok then (⟨turnF fs2 kind nm tn size, room2, armed2, dead2⟩, er) else (⟨fs2, room2, armed2, dead2⟩, er)) := HP
        have HMO : Hid (ok = true → e1 = 0) := hmo
        clear hmo
        rintro en w6 ⟨rfl, b6⟩
        dsimp only
        have b06 := b05.trans (b6.mono (by omega))
        have kA6 := kA5.below b6 kA5.lt
        have kR6 := kR5.below b6 kR5.lt
        have kF6 := kF5.below b6 kF5.lt
        have h6 := h5.below b6
        have hF6 := hF5.below b6
        have o6 := OwnB.below o5 b6
        have s6 := b6.size
        clear kA5 kR5 kF5 h5 hF5 o5 b6 b05
        go_upto_region 9 with ((with_reducible refine wpList_store_blk rfl 45 (.tmp 5) (.tmp 51) rfl w.heap.size 45 _ (rcs A c ⟨fs2, room2, armed2, dead2⟩) ?_ ?_ kA6 Try.size_RD ?_ ?_ ?_ ?_); rfl; rfl; rfl; rfl; (simp [rcs, Value.oneCell']); intro w7 kA7 g7 z7)
        have b07 := b06.grown g7 b06.size (fun j hj => by have := Option.some.inj hj; omega)
        have kR7 := kR6.grown g7 (fun e => by have h1 := Option.some.inj e; omega)
        have kF7 := kF6.grown g7 (fun e => by have h1 := Option.some.inj e; omega)
        have h7 := h6.same (.of_grown g7 fun g hg e => by have h1 := Option.some.inj e; omega)
        have hF7 := hF6.grown g7 (fun g hg e => by have h1 := Option.some.inj e; omega)
        have o7 := OwnB.kept o6 g7 (fun g hg e => by have h1 := (OwnB.lt o6 g hg).1; have := Option.some.inj e; omega)
        have s7 := g7.size
        clear kA6 kR6 kF6 h6 hF6 o6 g7 z7 b06
        cases ok with
        | false =>
          have hcl := hc.1
          have hcm := hc.2
          go_wp2_with (first
            | ((with_reducible refine wpList_load_blk rfl 45 (.tmp 5) rfl w.heap.size ?_ 45 _ _ kA7 Try.underlying45 ?_ Try.size_RD ?_ ?_); rfl; rfl; rfl)
            | ((with_reducible refine wpList_store_blk rfl 45 (.tmp 10) (.tmp 57) rfl (w.heap.size + 1) 45 _ (rcs A c ⟨fs2, room2, armed2, dead2⟩) ?_ ?_ kR7 Try.size_RD ?_ ?_ ?_ ?_); rfl; rfl; rfl; rfl; (simp [rcs, Value.oneCell']); intro wz kz gz zz))
          have bz := b07.grown gz b07.size (fun j hj => by have := Option.some.inj hj; omega)
          have hz := h7.same (.of_grown gz fun g hg e => by have h1 := Option.some.inj e; have := Z1.out; omega)
          exact bodyPost_ret (results_cell2 rfl rfl rfl kz Try.underlying45 rfl Try.size_RD) rfl (by rw [HP.out, if_neg (by decide)]; exact ⟨A, c, rfl, hz.mono (fun g _ h => .inl h.1), hcl, hcm, bz⟩)
        | true =>
          have he0 : e1 = 0 := HMO.out rfl
          have HPT : Hid (turnR ⟨fs2, room2, armed, dead⟩ kind nm tn size = (⟨turnF fs2 kind nm tn size, room2, armed2, dead2⟩, er)) := by show _ = _; rw [HP.out, if_pos rfl]
          have HSZ4 : Hid (kind = 4 → 0 ≤ size ∧ size ≤ (all.length : Int)) := HSZ.out he0
          clear HP HMO HSZ he0
          have hAN : FOk w7 (fun g => (S g ∧ g < w.heap.size) ∨ (w3.heap.size ≤ g ∧ g < w7.heap.size)) A5 c5 none 0 ⟨nm, all, []⟩ :=
            ⟨hn, ⟨OwnB.bs o7 (by show all.length ≤ _; omega), (OwnB.at_ o7).mono' fun g h => .inr h, (OwnB.caps o7).1, (OwnB.caps o7).2⟩, ⟨Bs.nil_ _ _, (fun _ e => by cases e), Nat.le_refl _, by decide⟩⟩
          have h7N : SlS RFE w7 (fun g => (S g ∧ g < w.heap.size) ∨ (w3.heap.size ≤ g ∧ g < w7.heap.size)) A fs2 := h7.mono fun g _ h => .inl h
          have hF7N : FOk w7 (fun g => (S g ∧ g < w.heap.size) ∨ (w3.heap.size ≤ g ∧ g < w7.heap.size)) P pc Q qc f := hF7.mono fun g _ h => .inl h
          by_cases hk1 : kind = 1
          · subst hk1
            have HTF1 : Hid (turnF fs2 1 nm tn size = withR fs2 ⟨nm, all, []⟩) := by show _ = _; rw [HTF.out, if_pos rfl, H5.out]
            clear HTF HSZ4
            have lw := b07.size
            have T := rwith_any A c ⟨fs2, room2, armed2, dead2⟩ _ A5 none c5 0 ⟨nm, all, []⟩ w7 h7N hc hAN hl
            go_wp2_with (first
              | ((with_reducible refine wpList_load_blk rfl 45 (.tmp 5) rfl w.heap.size ?_ 45 _ _ kA7 Try.underlying45 ?_ Try.size_RD ?_ ?_); rfl; rfl; rfl))
            refine T.mono ?_
            clear T
            show ∀ (en : Ending) (w' : World), RetRD ⟨withR fs2 ⟨nm, all, []⟩, room2, armed2, dead2⟩ _ w7 en w' → _
            obtain ⟨fsB, hfsB⟩ : ∃ fsB, fsB = withR fs2 ⟨nm, all, []⟩ := ⟨_, rfl⟩
            rw [← hfsB]
            have HFB := Lib.hid hfsB
            clear hfsB
            rintro en wA ⟨AB, cB, rfl, hA', hcB, hmB, bA⟩
            replace hcB : fsB.length ≤ cB := hcB
            have bB0 := b07.trans (bA.mono (by omega))
            have kA' := kA7.below bA kA7.lt
            have kR' := kR7.below bA kR7.lt
            have sA := bA.size
            dsimp only
            go_upto_region 22 with ((with_reducible refine wpList_store_blk rfl 45 (.tmp 5) (.tmp 66) rfl w.heap.size 45 _ (rcs AB cB ⟨fsB, room2, armed2, dead2⟩) ?_ ?_ kA' Try.size_RD ?_ ?_ ?_ ?_); rfl; rfl; rfl; rfl; (simp [rcs, Value.oneCell']); intro wB kAB gB zB)
            have bB := bB0.grown gB bB0.size (fun j hj => by have := Option.some.inj hj; omega)
            have kRB := kR'.grown gB (fun e => by have h1 := Option.some.inj e; omega)
            have hB := hA'.same (.of_grown gB fun g hg e => by have h1 := Option.some.inj e; omega)
            clear kA' kR' hA' bB0 bA gB zB
            go_wp2_with (first
              | ((with_reducible refine wpList_load_blk rfl 45 (.tmp 5) rfl w.heap.size ?_ 45 _ _ kAB Try.underlying45 ?_ Try.size_RD ?_ ?_); rfl; rfl; rfl)
              | ((with_reducible refine wpList_store_blk rfl 45 (.tmp 10) (.tmp 92) rfl (w.heap.size + 1) 45 _ (rcs AB cB ⟨fsB, room2, armed2, dead2⟩) ?_ ?_ kRB Try.size_RD ?_ ?_ ?_ ?_); rfl; rfl; rfl; rfl; (simp [rcs, Value.oneCell']); intro wz kz gz zz))
            have bz := bB.grown gz bB.size (fun j hj => by have := Option.some.inj hj; omega)
            have hz := hB.same (.of_grown gz fun g hg e => by have h1 := Option.some.inj e; have := Z1.out; omega)
            exact bodyPost_ret (results_cell2 rfl rfl rfl kz Try.underlying45 rfl Try.size_RD) rfl (by
              rw [HPT.out]
              rw [HTF1.out, ← HFB.out]
              refine ⟨AB, cB, rfl, hz.mono (fun g _ h => ?_), hcB, hmB, bz⟩
              rcases h with (h | h) | h
              · exact .inl h.1
              · exact .inr (by omega)
              · exact .inr (by omega))
          by_cases hk2 : kind = 2
          · subst hk2
            have HTF1 : Hid (turnF fs2 2 nm tn size = withR (outR fs2 nm) ⟨tn, f.safe, f.tail⟩) := by show _ = _; rw [HTF.out, if_neg (by decide), if_pos rfl]
            clear HTF HSZ4 hk1 hAN h7N hF7N
            have lw := b07.size
            have hol := outR_len fs2 nm
            have T := rout_any A c ⟨fs2, room2, armed2, dead2⟩ _ nm w7 h7 hc (by show fs2.length ≤ _; omega)
            go_wp2_with ((with_reducible refine wpList_load_blk rfl 45 (.tmp 5) rfl w.heap.size ?_ 45 _ _ kA7 Try.underlying45 ?_ Try.size_RD ?_ ?_); rfl; rfl; rfl)
            refine T.mono ?_
            clear T
            show ∀ (en : Ending) (w' : World), RetRD ⟨outR fs2 nm, room2, armed2, dead2⟩ _ w7 en w' → _
            generalize outR fs2 nm = fsO at *
            rintro en w8 ⟨A8, c8, rfl, h8, hc8, hm8, b8⟩
            replace hc8 : fsO.length ≤ c8 := hc8
            replace h8 : SlS RFE w8 _ A8 fsO := h8
            have b08 := b07.trans (b8.mono (by omega))
            have kA8 := kA7.below b8 kA7.lt
            have kR8 := kR7.below b8 kR7.lt
            have kF8 := kF7.below b8 kF7.lt
            have hF8 := hF7.below b8
            have s8 := b8.size
            clear kA7 kR7 kF7 hF7 h7 b8 b07
            dsimp only
            go_upto_region 16 with ((with_reducible refine wpList_store_blk rfl 45 (.tmp 5) (.tmp 71) rfl w.heap.size 45 _ (rcs A8 c8 ⟨fsO, room2, armed2, dead2⟩) ?_ ?_ kA8 Try.size_RD ?_ ?_ ?_ ?_); rfl; rfl; rfl; rfl; (simp [rcs, Value.oneCell']); intro w9 kA9 g9 z9)
            have b09 := b08.grown g9 b08.size (fun j hj => by have := Option.some.inj hj; omega)
            have kR9 := kR8.grown g9 (fun e => by have h1 := Option.some.inj e; omega)
            have kF9 := kF8.grown g9 (fun e => by have h1 := Option.some.inj e; omega)
            have h9 := h8.same (.of_grown g9 fun g hg e => by have h1 := Option.some.inj e; omega)
            have hF9 := hF8.grown g9 (fun g hg e => by have h1 := Option.some.inj e; omega)
            have s9 := g9.size
            clear kA8 kR8 kF8 h8 hF8 g9 z9 b08
            have f0 : w9.cell? ⟨fb, 0, none⟩ = some (.string ⟨f.name.toArray⟩) := kF9.cell 0
            have ff0 : w9.frozen? ⟨fb, 0, none⟩ = false := kF9.frozen 0
            have g10 : w9.grownBy (w9.setCell ⟨fb, 0, none⟩ (.string ⟨tn.toArray⟩)) (some fb) := only_setCell (World.grownBy.refl _ _) (p := ⟨fb, 0, none⟩) (.inl rfl) _
            have kF10 : Blk (w9.setCell ⟨fb, 0, none⟩ (.string ⟨tn.toArray⟩)) fb 85 #[.string ⟨tn.toArray⟩, .slice P f.safe.length pc, .slice Q f.tail.length qc] := kF9.set_ 0 (.string ⟨tn.toArray⟩)
            have kA10 := kA9.grown g10 (fun e => by have h1 := Option.some.inj e; omega)
            have kR10 := kR9.grown g10 (fun e => by have h1 := Option.some.inj e; have := Z1.out; omega)
            have h10 := h9.same (.of_grown g10 fun g hg e => by have h1 := Option.some.inj e; omega)
            have hF10 := hF9.grown g10 (fun g hg e => by have h1 := Option.some.inj e; omega)
            have b010 := b09.grown g10 b09.size (fun j hj => by have := Option.some.inj hj; omega)
            have s10 := g10.size
            go_upto_region 17 with fail
            clear f0 ff0 g10 kF9 kA9 kR9 h9 hF9 b09
            generalize w9.setCell ⟨fb, 0, none⟩ (.string ⟨tn.toArray⟩) = w10 at *
            have hFN : FOk w10 (fun g => (S g ∧ g < w.heap.size) ∨ w7.heap.size ≤ g) P pc Q qc ⟨tn, f.safe, f.tail⟩ := ⟨htn, ⟨hF10.safe.1, hF10.safe.2.1.mono' fun g h => .inl h, hF10.safe.2.2⟩, ⟨hF10.tail.1, hF10.tail.2.1.mono' fun g h => .inl h, hF10.tail.2.2⟩⟩
            have T := rwith_any A8 c8 ⟨fsO, room2, armed2, dead2⟩ _ P Q pc qc ⟨tn, f.safe, f.tail⟩ w10 h10 ⟨hc8, hm8⟩ hFN (by show fsO.length ≤ _; omega)
            go_wp2_with (first
              | ((with_reducible refine wpList_load_blk rfl 45 (.tmp 5) rfl w.heap.size ?_ 45 _ _ kA10 Try.underlying45 ?_ Try.size_RD ?_ ?_); rfl; rfl; rfl)
              | ((with_reducible refine wpList_load_blk rfl 85 (.tmp 12) rfl fb ?_ 85 _ _ kF10 Try.underlying85 ?_ Try.size_RF ?_ ?_); rfl; rfl; rfl))
            refine T.mono ?_
            clear T
            show ∀ (en : Ending) (w' : World), RetRD ⟨withR fsO ⟨tn, f.safe, f.tail⟩, room2, armed2, dead2⟩ _ w10 en w' → _
            obtain ⟨fsB, hfsB⟩ : ∃ fsB, fsB = withR fsO ⟨tn, f.safe, f.tail⟩ := ⟨_, rfl⟩
            rw [← hfsB]
            have HFB := Lib.hid hfsB
            clear hfsB
            rintro en wA ⟨AB, cB, rfl, hA', hcB, hmB, bA⟩
            replace hcB : fsB.length ≤ cB := hcB
            have bB0 := b010.trans (bA.mono (by omega))
            have kA' := kA10.below bA kA10.lt
            have kR' := kR10.below bA kR10.lt
            have sA := bA.size
            dsimp only
            go_upto_region 22 with ((with_reducible refine wpList_store_blk rfl 45 (.tmp 5) (.tmp 76) rfl w.heap.size 45 _ (rcs AB cB ⟨fsB, room2, armed2, dead2⟩) ?_ ?_ kA' Try.size_RD ?_ ?_ ?_ ?_); rfl; rfl; rfl; rfl; (simp [rcs, Value.oneCell']); intro wB kAB gB zB)
            have bB := bB0.grown gB bB0.size (fun j hj => by have := Option.some.inj hj; omega)
            have kRB := kR'.grown gB (fun e => by have h1 := Option.some.inj e; omega)
            have hB := hA'.same (.of_grown gB fun g hg e => by have h1 := Option.some.inj e; omega)
            clear kA' kR' hA' bB0 bA gB zB
            go_wp2_with (first
              | ((with_reducible refine wpList_load_blk rfl 45 (.tmp 5) rfl w.heap.size ?_ 45 _ _ kAB Try.underlying45 ?_ Try.size_RD ?_ ?_); rfl; rfl; rfl)
              | ((with_reducible refine wpList_store_blk rfl 45 (.tmp 10) (.tmp 92) rfl (w.heap.size + 1) 45 _ (rcs AB cB ⟨fsB, room2, armed2, dead2⟩) ?_ ?_ kRB Try.size_RD ?_ ?_ ?_ ?_); rfl; rfl; rfl; rfl; (simp [rcs, Value.oneCell']); intro wz kz gz zz))
            have bz := bB.grown gz bB.size (fun j hj => by have := Option.some.inj hj; omega)
            have hz := hB.same (.of_grown gz fun g hg e => by have h1 := Option.some.inj e; have := Z1.out; omega)
            exact bodyPost_ret (results_cell2 rfl rfl rfl kz Try.underlying45 rfl Try.size_RD) rfl (by
              rw [HPT.out]
              rw [HTF1.out, ← HFB.out]
              refine ⟨AB, cB, rfl, hz.mono (fun g _ h => ?_), hcB, hmB, bz⟩
              rcases h with (h | h) | h
              · exact .inl h.1
              · exact .inr (by omega)
              · exact .inr (by omega))
          by_cases hk3 : kind = 3
          · subst hk3
            have HTF1 : Hid (turnF fs2 3 nm tn size = outR fs2 nm) := by show _ = _; rw [HTF.out, if_neg (by decide), if_neg (by decide), if_pos rfl]
            clear HTF HSZ4 hk1 hk2 hAN h7N hF7N
            have lw := b07.size
            have T := rout_any A c ⟨fs2, room2, armed2, dead2⟩ _ nm w7 h7 hc (by show fs2.length ≤ _; omega)
            go_wp2_with ((with_reducible refine wpList_load_blk rfl 45 (.tmp 5) rfl w.heap.size ?_ 45 _ _ kA7 Try.underlying45 ?_ Try.size_RD ?_ ?_); rfl; rfl; rfl)
            refine T.mono ?_
            clear T
            show ∀ (en : Ending) (w' : World), RetRD ⟨outR fs2 nm, room2, armed2, dead2⟩ _ w7 en w' → _
            obtain ⟨fsO, hfsO⟩ : ∃ fsO, fsO = outR fs2 nm := ⟨_, rfl⟩
            rw [← hfsO]
            have HFO := Lib.hid hfsO
            clear hfsO
            rintro en w8 ⟨A8, c8, rfl, h8, hc8, hm8, b8⟩
            replace hc8 : fsO.length ≤ c8 := hc8
            replace h8 : SlS RFE w8 _ A8 fsO := h8
            have b08 := b07.trans (b8.mono (by omega))
            have kA8 := kA7.below b8 kA7.lt
            have kR8 := kR7.below b8 kR7.lt
            clear kA7 kR7 kF7 hF7 h7 b8 b07
            dsimp only
            go_upto_region 22 with ((with_reducible refine wpList_store_blk rfl 45 (.tmp 5) (.tmp 81) rfl w.heap.size 45 _ (rcs A8 c8 ⟨fsO, room2, armed2, dead2⟩) ?_ ?_ kA8 Try.size_RD ?_ ?_ ?_ ?_); rfl; rfl; rfl; rfl; (simp [rcs, Value.oneCell']); intro w9 kA9 g9 z9)
            have b09 := b08.grown g9 b08.size (fun j hj => by have := Option.some.inj hj; omega)
            have kR9 := kR8.grown g9 (fun e => by have h1 := Option.some.inj e; omega)
            have h9 := h8.same (.of_grown g9 fun g hg e => by have h1 := Option.some.inj e; omega)
            clear kA8 kR8 h8 g9 z9 b08
            go_wp2_with (first
              | ((with_reducible refine wpList_load_blk rfl 45 (.tmp 5) rfl w.heap.size ?_ 45 _ _ kA9 Try.underlying45 ?_ Try.size_RD ?_ ?_); rfl; rfl; rfl)
              | ((with_reducible refine wpList_store_blk rfl 45 (.tmp 10) (.tmp 92) rfl (w.heap.size + 1) 45 _ (rcs A8 c8 ⟨fsO, room2, armed2, dead2⟩) ?_ ?_ kR9 Try.size_RD ?_ ?_ ?_ ?_); rfl; rfl; rfl; rfl; (simp [rcs, Value.oneCell']); intro wz kz gz zz))
            have bz := b09.grown gz b09.size (fun j hj => by have := Option.some.inj hj; omega)
            have hz := h9.same (.of_grown gz fun g hg e => by have h1 := Option.some.inj e; have := Z1.out; omega)
            exact bodyPost_ret (results_cell2 rfl rfl rfl kz Try.underlying45 rfl Try.size_RD) rfl (by
              rw [HPT.out]
              rw [HTF1.out, ← HFO.out]
              refine ⟨A8, c8, rfl, hz.mono (fun g _ h => ?_), hc8, hm8, bz⟩
              rcases h with h | h
              · exact .inl h.1
              · exact .inr (by omega))
          by_cases hk4 : kind = 4
          · subst hk4
            obtain ⟨hs0, hs1⟩ := HSZ4.out rfl
            obtain ⟨n, rfl⟩ := Int.eq_ofNat_of_zero_le hs0
            have hs2 : n ≤ all.length := by omega
            have HTF1 : Hid (turnF fs2 4 nm tn (n : Int) = withR fs2 ⟨nm, all.take n, []⟩) := by show _ = _; rw [HTF.out, if_neg (by decide), if_neg (by decide), if_neg (by decide), if_pos rfl, H5.out, Int.toNat_natCast]
            clear HTF HSZ4 hk1 hk2 hk3 hAN hF7N hs0
            have lw := b07.size
            have hcp5 := OwnB.caps o7
            have hin1 : (0 : Int) ≤ (n : Int) := by omega
            have hin2 : (n : Int) ≤ (c5 : Int) := by have := hcp5.1; omega
            have htn2 : ((n : Int)).toNat = n := by omega
            go_upto_region 21 with fail
            refine wp_region_noPanic ?_
            have kAd := kA7.drew
            refine wp_region_heldK (fun Y => Blk Y w.heap.size 45 (rcs A c ⟨fs2, room2, armed2, dead2⟩)) 8 (by kernel_rfl) kAd (fun hH => ?_)
            refine wpAnyK_take (i := 0) (v := ?_) rfl (by kernel_rfl) (by kernel_rfl) (by kernel_rfl) (by kernel_rfl) (fun _ _ _ h => h) (Or.inl ⟨by rfl, ?_⟩) hH ?_
            case refine_2 => intro w hSw; have s0 : w.cell? ⟨_, 0, none⟩ = some (.slice A fs2.length c) := Blk.cell hSw 0; have s1 : w.cell? ⟨_, 1, none⟩ = some (.int .i64 room2) := Blk.cell hSw 1; have s2 : w.cell? ⟨_, 2, none⟩ = some (.int .i64 armed2) := Blk.cell hSw 2; have s3 : w.cell? ⟨_, 3, none⟩ = some (.bool dead2) := Blk.cell hSw 3; clear hSw; go_simp; try with_reducible rfl
            try simp only [List.getElem_toArray, List.getElem_cons_zero, Act.put, List.setIfInBounds_toArray, List.set_cons_zero, List.set_cons_succ]
            refine wpAnyK_takeY (i := 1) (v := ?_) rfl (by kernel_rfl) (by kernel_rfl) (by kernel_rfl) (by kernel_rfl) (fun _ _ _ h => h) (Or.inl ⟨by rfl, ?_⟩) hH ?_
            case refine_2 => intro w; go_simp; try with_reducible rfl
            try simp only [List.getElem_toArray, List.getElem_cons_zero, List.getElem_cons_succ, Act.put, List.setIfInBounds_toArray, List.set_cons_zero, List.set_cons_succ]
            refine wpAnyK_takeY (i := 2) (v := ?_) rfl (by kernel_rfl) (by kernel_rfl) (by kernel_rfl) (by kernel_rfl) (fun _ _ _ h => h) (Or.inl ⟨by rfl, ?_⟩) hH ?_
            case refine_2 => intro w; go_simp; try with_reducible rfl
            try simp only [List.getElem_toArray, List.getElem_cons_zero, List.getElem_cons_succ, Act.put, List.setIfInBounds_toArray, List.set_cons_zero, List.set_cons_succ]
            refine wpAnyK_takeY (i := 3) (v := ?_) rfl (by kernel_rfl) (by kernel_rfl) (by kernel_rfl) (by kernel_rfl) (fun _ _ _ h => h) (Or.inl ⟨by rfl, ?_⟩) hH ?_
            case refine_2 => intro w; go_simp; try with_reducible rfl
            try simp only [List.getElem_toArray, List.getElem_cons_zero, List.getElem_cons_succ, Act.put, List.setIfInBounds_toArray, List.set_cons_zero, List.set_cons_succ]
            refine wpAnyK_takeY (i := 4) (v := ?_) rfl (by kernel_rfl) (by kernel_rfl) (by kernel_rfl) (by kernel_rfl) (fun _ _ _ h => h) (Or.inl ⟨by rfl, ?_⟩) hH ?_
            case refine_2 => intro w; go_simp; try with_reducible rfl
            try simp only [List.getElem_toArray, List.getElem_cons_zero, List.getElem_cons_succ, Act.put, List.setIfInBounds_toArray, List.set_cons_zero, List.set_cons_succ]
            refine wpAnyK_ready (rs := [5]) (by kernel_rfl) (by simp) ?_
            refine AllReadyK.cons rfl (by kernel_rfl) (fun K hK => ?_) AllReadyK.nil
            go_simp
            have hbt : Bs w7.drew A5 (all.take n) := Bs.takeD (OwnB.bs o7 (by omega)) n
            have hlt3 : (all.take n).length = n := by rw [List.length_take]; omega
            have TC := copy_any A5 (all.take n) c5 w7.drew hbt
            rw [hlt3] at TC
            obtain ⟨dt, hdt⟩ : ∃ dt, dt = all.take n := ⟨_, rfl⟩
            rw [← hdt] at TC hlt3
            have HDT := Lib.hid hdt
            have HLT := Lib.hid hlt3
            clear hdt hbt hlt3
            refine TC.mono ?_
            clear TC
            rintro en w8 ⟨A8, c8, rfl, o8, b8⟩
            replace o8 : OwnB w7.heap.size w8 A8 dt c8 := o8
            have b7d : Below w7.heap.size w7 w7.drew := (Below.refl _ _).drew
            have b78 := below_step b7d b8
            have kA8 := kAd.below b8 kAd.lt
            refine hK.out _ _ kA8 ?_
            clear hK K hH
            try dsimp only
            try simp only [List.getElem_toArray, List.getElem_cons_zero, List.getElem_cons_succ, Act.put, List.setIfInBounds_toArray, List.set_cons_zero, List.set_cons_succ]
            refine wpAnyK_takeY (i := 6) (v := ?_) rfl (by kernel_rfl) (by kernel_rfl) (by kernel_rfl) (by kernel_rfl) (fun _ _ _ h => h) (Or.inl ⟨by rfl, ?_⟩) kA8 ?_
            case refine_2 => intro w; go_simp; try with_reducible rfl
            try simp only [List.getElem_toArray, List.getElem_cons_zero, List.getElem_cons_succ, Act.put, List.setIfInBounds_toArray, List.set_cons_zero, List.set_cons_succ]
            refine wpAnyK_ready (rs := [7]) (by kernel_rfl) (by simp) ?_
            refine AllReadyK.cons rfl (by kernel_rfl) (fun K hK => ?_) AllReadyK.nil
            go_simp
            have s78 := b78.size
            have b08 := b07.trans (b78.mono (by omega))
            have kR8 := kR7.below b78 kR7.lt
            have h8N : SlS RFE w8 (fun g => (S g ∧ g < w.heap.size) ∨ w7.heap.size ≤ g) A fs2 := (h7.below b78).mono fun g _ h => .inl h
            have hFN : FOk w8 (fun g => (S g ∧ g < w.heap.size) ∨ w7.heap.size ≤ g) A8 c8 none 0 ⟨nm, dt, []⟩ :=
              ⟨hn, ⟨OwnB.bs o8 (by show dt.length ≤ _; rw [HLT.out]; omega), (OwnB.at_ o8).mono' fun g h => .inr h.1, (OwnB.caps o8).1, (OwnB.caps o8).2⟩, ⟨Bs.nil_ _ _, (fun _ e => by cases e), Nat.le_refl _, by decide⟩⟩
            have T := rwith_any A c ⟨fs2, room2, armed2, dead2⟩ _ A8 none c8 0 ⟨nm, dt, []⟩ w8 h8N hc hFN hl
            refine T.mono ?_
            clear T
            show ∀ (en : Ending) (w' : World), RetRD ⟨withR fs2 ⟨nm, dt, []⟩, room2, armed2, dead2⟩ _ w8 en w' → _
            obtain ⟨fsB, hfsB⟩ : ∃ fsB, fsB = withR fs2 ⟨nm, dt, []⟩ := ⟨_, rfl⟩
            rw [← hfsB]
            have HFB := Lib.hid hfsB
            clear hfsB
            rintro en w9 ⟨AB, cB, rfl, h9, hcB, hmB, b9⟩
            replace hcB : fsB.length ≤ cB := hcB
            replace h9 : SlS RFE w9 _ AB fsB := h9
            have b09 := b08.trans (b9.mono (by omega))
            have kA9 := kA8.below b9 kA8.lt
            have kR9 := kR8.below b9 kR8.lt
            have s9 := b9.size
            refine hK.out _ _ kA9 ?_
            clear hK K
            try dsimp only
            try simp only [List.getElem_toArray, List.getElem_cons_zero, List.getElem_cons_succ, Act.put, List.setIfInBounds_toArray, List.set_cons_zero, List.set_cons_succ]
            refine wpAnyK_ready (rs := [8]) (by kernel_rfl) (by simp) ?_
            refine AllReadyK.turn rfl (fun K hK => ?_) AllReadyK.nil
            refine step_store_blk rfl 45 (.tmp 5) (.tmp 91) rfl w.heap.size 45 _ (rcs AB cB ⟨fsB, room2, armed2, dead2⟩) rfl rfl kA9 Try.size_RD rfl rfl (by simp [rcs, Value.oneCell']) ?_
            intro wB kAB gB zB
            refine hK.out _ _ ?_
            clear hK K
            try simp only [List.getElem_toArray, List.getElem_cons_succ, List.getElem_cons_zero, Act.put]
            refine wpAny_done (by kernel_rfl) ?_ _
            refine NoPanic.normal ?_
            have bB := b09.grown gB b09.size (fun j hj => by have := Option.some.inj hj; omega)
            have kRB := kR9.grown gB (fun e => by have h1 := Option.some.inj e; omega)
            have hB := h9.same (.of_grown gB fun g hg e => by have h1 := Option.some.inj e; omega)
            clear kA8 kA9 kR8 kR9 h9 b09 b9 gB zB kA7 kR7 kF7 hF7 h7 h7N hFN h8N kAd
            go_wp2_with (first
              | ((with_reducible refine wpList_load_blk rfl 45 (.tmp 5) rfl w.heap.size ?_ 45 _ _ kAB Try.underlying45 ?_ Try.size_RD ?_ ?_); rfl; rfl; rfl)
              | ((with_reducible refine wpList_store_blk rfl 45 (.tmp 10) (.tmp 92) rfl (w.heap.size + 1) 45 _ (rcs AB cB ⟨fsB, room2, armed2, dead2⟩) ?_ ?_ kRB Try.size_RD ?_ ?_ ?_ ?_); rfl; rfl; rfl; rfl; (simp [rcs, Value.oneCell']); intro wz kz gz zz))
            have bz := bB.grown gz bB.size (fun j hj => by have := Option.some.inj hj; omega)
            have hz := hB.same (.of_grown gz fun g hg e => by have h1 := Option.some.inj e; have := Z1.out; omega)
            exact bodyPost_ret (results_cell2 rfl rfl rfl kz Try.underlying45 rfl Try.size_RD) rfl (by
              rw [HPT.out]
              rw [HTF1.out, ← HDT.out, ← HFB.out]
              refine ⟨AB, cB, rfl, hz.mono (fun g _ h => ?_), hcB, hmB, bz⟩
              rcases h with (h | h) | h
              · exact .inl h.1
              · exact .inr (by omega)
              · exact .inr (by omega))
          · have d1 : (kind == 1) = false := by rw [beq_eq_false_iff_ne]; exact hk1
            have d2 : (kind == 2) = false := by rw [beq_eq_false_iff_ne]; exact hk2
            have d3 : (kind == 3) = false := by rw [beq_eq_false_iff_ne]; exact hk3
            have d4 : (kind == 4) = false := by rw [beq_eq_false_iff_ne]; exact hk4
            have HTF1 : Hid (turnF fs2 kind nm tn size = fs2) := by show _ = _; rw [HTF.out, if_neg hk1, if_neg hk2, if_neg hk3, if_neg hk4]
            clear HTF HSZ4 hk1 hk2 hk3 hk4
            have hcl := hc.1
            have hcm := hc.2
            have h7x : SlS RFE w7 (fun g => (S g ∧ g < w.heap.size) ∨ w7.heap.size ≤ g) A fs2 := h7.mono fun g _ h => .inl h
            have lw := b07.size
            go_wp2_with (first
              | ((with_reducible refine wpList_load_blk rfl 45 (.tmp 5) rfl w.heap.size ?_ 45 _ _ kA7 Try.underlying45 ?_ Try.size_RD ?_ ?_); rfl; rfl; rfl)
              | ((with_reducible refine wpList_store_blk rfl 45 (.tmp 10) (.tmp 92) rfl (w.heap.size + 1) 45 _ (rcs A c ⟨fs2, room2, armed2, dead2⟩) ?_ ?_ kR7 Try.size_RD ?_ ?_ ?_ ?_); rfl; rfl; rfl; rfl; (simp [rcs, Value.oneCell']); intro wz kz gz zz))
            have bz := b07.grown gz b07.size (fun j hj => by have := Option.some.inj hj; omega)
            have hz := h7x.same (.of_grown gz fun g hg e => by have h1 := Option.some.inj e; have := Z1.out; omega)
            exact bodyPost_ret (results_cell2 rfl rfl rfl kz Try.underlying45 rfl Try.size_RD) rfl (by
              rw [HPT.out]
              rw [HTF1.out]
              refine ⟨A, c, rfl, hz.mono (fun g _ h => ?_), hcl, hcm, bz⟩
              rcases h with h | h
              · exact .inl h.1
              · exact .inr (by omega))
end Go.Proofs.Ytnhonjgclbmheaa
