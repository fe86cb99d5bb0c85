/- The reference's disk: Append. (Printed by wip/gen_rdb.py.) -/
import Derived.Test.YtnhonjgclbmheaaRdA
namespace Go.Proofs.Ytnhonjgclbmheaa
open Go.RowKit

/-- bytes into a file's tail -/
def appE (W : LRD) (b : List UInt8) : Int := if W.room - (usedR W.files : Int) < (b.length : Int) then 8 else 0
def appR (W : LRD) (nm b : List UInt8) : LRD × Int :=
  let r := mayR W (appE W b)
  if r.2.1 || r.2.2.2 then ({ r.1 with files := withR r.1.files ⟨(getR r.1.files nm).1.name, (getR r.1.files nm).1.safe, (getR r.1.files nm).1.tail ++ b⟩ }, r.2.2.1) else (r.1, r.2.2.1)
/-- a disk of the reference answered, and an error -/
def RetRDE (r : LRD × Int) (S : Nat → Prop) (w : World) (en : Ending) (w' : World) : Prop :=
  ∃ A c, en = .returned (.tuple #[rv A c r.1, .int .i64 r.2]) ∧ SlS RFE w' (fun g => S g ∨ w.heap.size ≤ g) A r.1.files ∧ r.1.files.length ≤ c ∧ c ≤ 9223372036854775807 ∧ Below w.heap.size w w'
set_option maxRecDepth 100000 in
set_option maxHeartbeats 2000000 in
theorem rapp_any (A : Option Addr) (c : Nat) (W : LRD) (S : Nat → Prop) (nm : List UInt8) (X : Option Addr) (x : List UInt8) (xc : Nat) (w : World) (h : SlS RFE w S A W.files) (hc : W.files.length ≤ c ∧ c ≤ 9223372036854775807) (hX : Bs w X x)
    (hn : nm.length ≤ 140737488355328) (hl : W.files.length ≤ 1048575) (hu : usedR W.files ≤ 35184372088832) (hxl : x.length ≤ 35184372088832) (hroom : 0 ≤ W.room ∧ W.room ≤ 9223372036854775807) (ha : -1 ≤ W.armed ∧ W.armed ≤ 9223372036854775807) (htl : (getR W.files nm).1.tail.length ≤ 35184372088832) :
    Calls Try.prog 29 #[rv A c W, .string ⟨nm.toArray⟩, .slice X x.length xc] w (RetRDE (appR W nm x) S w) := by
  have hWr : W.room = W.room := rfl
  obtain ⟨fs, room, armed, dead⟩ := W
  clear hWr
  replace h : SlS RFE w S A fs := h
  replace h := h.lo
  replace hc : fs.length ≤ c ∧ c ≤ 9223372036854775807 := hc
  replace hl : fs.length ≤ 1048575 := hl
  replace hu : usedR fs ≤ 35184372088832 := hu
  replace hroom : 0 ≤ room ∧ room ≤ 9223372036854775807 := hroom
  replace htl : (getR fs nm).1.tail.length ≤ 35184372088832 := htl
  go_enter Try.func29, Try.ntmps29
  have dA : Below w.heap.size w (w.alloc (.cells (rcs A c ⟨fs, room, armed, dead⟩) 45)) := (Below.refl _ _).alloc (Nat.le_refl _) _
  have kA := Blk.new w 45 (rcs A c ⟨fs, room, armed, dead⟩)
  have zA : (w.alloc (.cells (rcs A c ⟨fs, room, armed, dead⟩) 45)).heap.size = w.heap.size + 1 := by simp
  go_upto_region 1 with fail
  change Code.wp _ _ _ _ ((w.alloc (.cells (rcs A c ⟨fs, room, armed, dead⟩) 45)).alloc (.cells (rcs none 0 ⟨[], 0, 0, false⟩) 45))
  generalize w.alloc (.cells (rcs A c ⟨fs, room, armed, dead⟩) 45) = wA at *
  have dR : Below wA.heap.size wA (wA.alloc (.cells (rcs none 0 ⟨[], 0, 0, false⟩) 45)) := (Below.refl _ _).alloc (Nat.le_refl _) _
  have kR := Blk.new wA 45 (rcs none 0 ⟨[], 0, 0, false⟩)
  have zR : (wA.alloc (.cells (rcs none 0 ⟨[], 0, 0, false⟩) 45)).heap.size = wA.heap.size + 1 := by simp
  generalize wA.alloc (.cells (rcs none 0 ⟨[], 0, 0, false⟩) 45) = w1 at *
  rw [zA] at kR
  have b1 : Below w.heap.size w w1 := dA.trans (dR.mono (by omega))
  replace kA := kA.below dR (by omega)
  have h1 := h.below b1
  have hX1 := hX.below b1
  have z1 : w1.heap.size = w.heap.size + 1 + 1 := by omega
  have Z1 := Lib.hid z1
  have l1 : w.heap.size < w1.heap.size := by omega
  clear dA dR zA zR z1
  have U := rused_any A c ⟨fs, room, armed, dead⟩ _ w1.drew (h1.drewN 1) (by show fs.length ≤ _; omega) (by show usedR fs ≤ _; omega)
  replace U : Calls Try.prog 40 #[rv A c ⟨fs, room, armed, dead⟩] w1.drew (fun en w' => en = .returned (.int .i64 (usedR fs : Int)) ∧ Below w1.drew.heap.size w1.drew w') := U
  go_upto_region 2 with fail
  refine wp_region_noPanic ?_
  have kAd := kA.drew
  refine wp_region_held_drew (S := fun Y => Blk Y w.heap.size 45 (rcs A c ⟨fs, room, armed, dead⟩)) (by kernel_rfl) kAd (fun hH => ?_)
  refine wpAnyH_take (i := 0) (v := ?_) rfl (by kernel_rfl) (by kernel_rfl) (by kernel_rfl) (fun _ _ _ h => h) (Or.inl ⟨by rfl, ?_⟩) hH ?_
  case refine_2 => intro w hSw; go_simp; try with_reducible rfl
  try simp only [List.getElem_toArray, List.getElem_cons_zero, Act.put, List.setIfInBounds_toArray, List.set_cons_zero, List.set_cons_succ]
  refine wpAnyH_take (i := 1) (v := ?_) rfl (by kernel_rfl) (by kernel_rfl) (by kernel_rfl) (fun _ _ _ h => h) (Or.inl ⟨by rfl, ?_⟩) hH ?_
  case refine_2 => intro w hSw; go_simp; try with_reducible rfl
  try simp only [List.getElem_toArray, List.getElem_cons_zero, List.getElem_cons_succ, Act.put, List.setIfInBounds_toArray, List.set_cons_zero, List.set_cons_succ]
  refine wpAnyH_take (i := 2) (v := ?_) rfl (by kernel_rfl) (by kernel_rfl) (by kernel_rfl) (fun _ _ _ h => h) (Or.inl ⟨by rfl, ?_⟩) hH ?_
  case refine_2 => intro w hSw; go_simp; try with_reducible rfl
  try simp only [List.getElem_toArray, List.getElem_cons_zero, List.getElem_cons_succ, Act.put, List.setIfInBounds_toArray, List.set_cons_zero, List.set_cons_succ]
  refine wpAnyH_take (i := 3) (v := ?_) rfl (by kernel_rfl) (by kernel_rfl) (by kernel_rfl) (fun _ _ _ h => h) (Or.inl ⟨by rfl, ?_⟩) hH ?_
  case refine_2 => intro w hSw; have s0 : w.cell? ⟨_, 0, none⟩ = some (.slice A fs.length c) := hSw.cell 0; have s1 : w.cell? ⟨_, 1, none⟩ = some (.int .i64 room) := hSw.cell 1; have s2 : w.cell? ⟨_, 2, none⟩ = some (.int .i64 armed) := hSw.cell 2; have s3 : w.cell? ⟨_, 3, none⟩ = some (.bool dead) := hSw.cell 3; clear hSw; go_simp; try with_reducible rfl
  try simp only [List.getElem_toArray, List.getElem_cons_zero, List.getElem_cons_succ, Act.put, List.setIfInBounds_toArray, List.set_cons_zero, List.set_cons_succ]
  refine wpAnyH_take (i := 4) (v := ?_) rfl (by kernel_rfl) (by kernel_rfl) (by kernel_rfl) (fun _ _ _ h => h) (Or.inl ⟨by rfl, ?_⟩) hH ?_
  case refine_2 => intro w hSw; have s0 : w.cell? ⟨_, 0, none⟩ = some (.slice A fs.length c) := hSw.cell 0; have s1 : w.cell? ⟨_, 1, none⟩ = some (.int .i64 room) := hSw.cell 1; have s2 : w.cell? ⟨_, 2, none⟩ = some (.int .i64 armed) := hSw.cell 2; have s3 : w.cell? ⟨_, 3, none⟩ = some (.bool dead) := hSw.cell 3; clear hSw; go_simp; try with_reducible rfl
  try simp only [List.getElem_toArray, List.getElem_cons_zero, List.getElem_cons_succ, Act.put, List.setIfInBounds_toArray, List.set_cons_zero, List.set_cons_succ]
  refine wpAnyH_ready (rs := [5]) (by kernel_rfl) (by simp) ?_
  refine AllReadyH.cons rfl (fun K hK => ?_) AllReadyH.nil
  go_simp
  refine U.mono ?_
  clear U
  rintro en w2 ⟨rfl, b2⟩
  have kA2 := kAd.below b2 kAd.lt
  refine hK.out _ _ kA2 (fun hH => ?_)
  clear hK K
  try dsimp only
  try simp only [List.getElem_toArray, List.getElem_cons_zero, List.getElem_cons_succ, Act.put, List.setIfInBounds_toArray, List.set_cons_zero, List.set_cons_succ]
  refine wpAnyH_take (i := 6) (v := ?_) rfl (by kernel_rfl) (by kernel_rfl) (by kernel_rfl) (fun _ _ _ h => h) (Or.inl ⟨by rfl, ?_⟩) hH ?_
  case refine_2 => intro w hSw; go_simp; try with_reducible rfl
  try simp only [List.getElem_toArray, List.getElem_cons_zero, List.getElem_cons_succ, Act.put, List.setIfInBounds_toArray, List.set_cons_zero, List.set_cons_succ]
  refine wpAnyH_take (i := 7) (v := ?_) rfl (by kernel_rfl) (by kernel_rfl) (by kernel_rfl) (fun _ _ _ h => h) (Or.inl ⟨by rfl, ?_⟩) hH ?_
  case refine_2 => intro w hSw; go_simp; try with_reducible rfl
  try simp only [List.getElem_toArray, List.getElem_cons_zero, List.getElem_cons_succ, Act.put, List.setIfInBounds_toArray, List.set_cons_zero, List.set_cons_succ]
  refine wpAnyH_done (by kernel_rfl) ?_ _
  refine NoPanic.normal ?_
  clear hH kAd
  have hw : IntKind.i64.wrap (room - (usedR fs : Int)) = room - (usedR fs : Int) := by rw [IntKind.wrap_i64]; omega
  rw [hw]
  clear hw
  have bd : Below w1.heap.size w1 w1.drew := (Below.refl _ _).drew
  have b12 : Below w1.heap.size w1 w2 := bd.trans (b2.mono bd.size)
  have b02 := below_step b1 b12
  have kR2 := kR.below b12 kR.lt
  have h2 := h1.below b12
  have hX2 := hX1.below b12
  have s2 := b12.size
  have HP : Hid (appR ⟨fs, room, armed, dead⟩ nm x = (let r := mayR ⟨fs, room, armed, dead⟩ (if room - (usedR fs : Int) < (x.length : Int) then 8 else 0); if r.2.1 || r.2.2.2 then ({ r.1 with files := withR r.1.files ⟨(getR r.1.files nm).1.name, (getR r.1.files nm).1.safe, (getR r.1.files nm).1.tail ++ x⟩ }, r.2.2.1) else (r.1, r.2.2.1))) := rfl
  clear b2 bd b1 kA kR h1 hX1
  generalize hfull : decide (room - (usedR fs : Int) < (x.length : Int)) = full
  obtain ⟨e0, he0⟩ : ∃ e0 : Int, e0 = (if room - (usedR fs : Int) < (x.length : Int) then 8 else 0) := ⟨_, rfl⟩
  rw [← he0] at HP
  have HE : Hid (e0 = if full then 8 else 0) := by
    show _ = _
    rw [he0, ← hfull]
    by_cases hb : room - (usedR fs : Int) < (x.length : Int)
    · rw [if_pos hb, decide_eq_true hb]; rfl
    · rw [if_neg hb, decide_eq_false hb]; rfl
  clear he0 hfull hu hroom
  go_upto_if 20 with fail
  go_cut [8] (fun s8 wx => s8 = .int .i64 e0 ∧ wx = w2)
  case first =>
    cases full with
    | true =>
      go_wp2_with fail
      go_meet
      case rel => exact ⟨by rw [HE.out]; rfl, rfl⟩
    | false =>
      go_wp2_with fail
      go_meet
      case rel => exact ⟨by rw [HE.out]; rfl, rfl⟩
  case rest =>
    obtain ⟨rfl, hwc⟩ := hcut
    replace hwc := hwc.symm
    subst hwc
    have T := rmay_any A c ⟨fs, room, armed, dead⟩ e0 w2 ha
    have hmf := mayR_files ⟨fs, room, armed, dead⟩ e0
    go_wp2_with ((with_reducible refine wpList_load_blk rfl 45 (.tmp 3) rfl w.heap.size ?_ 45 _ _ kA2 Try.underlying45 ?_ Try.size_RD ?_ ?_); rfl; rfl; rfl)
    refine T.mono ?_
    clear T
    generalize mayR ⟨fs, room, armed, dead⟩ e0 = r at *
    obtain ⟨⟨fs2, room2, armed2, dead2⟩, ok, er, killed⟩ := r
    obtain ⟨hf1, hr1⟩ := hmf
    replace hf1 : fs2 = fs := hf1
    replace hr1 : room2 = room := hr1
    subst hf1 hr1
    replace HP : Hid (appR ⟨fs2, room2, armed, dead⟩ nm x = if ok || killed then (⟨withR fs2 ⟨(getR fs2 nm).1.name, (getR fs2 nm).1.safe, (getR fs2 nm).1.tail ++ x⟩, room2, armed2, dead2⟩, er) else (⟨fs2, room2, armed2, dead2⟩, er)) := HP
    rintro en w3 ⟨rfl, b3⟩
    dsimp only
    have b03 := below_step b02 b3
    have kA3 := kA2.below b3 kA2.lt
    have kR3 := kR2.below b3 kR2.lt
    have h3 := h2.below b3
    have hX3 := hX2.below b3
    have s3 := b3.size
    clear kA2 kR2 h2 hX2 b3 b12
    go_upto_region 5 with ((with_reducible refine wpList_store_blk rfl 45 (.tmp 3) (.tmp 25) rfl w.heap.size 45 _ (rcs A c ⟨fs2, room2, armed2, dead2⟩) ?_ ?_ kA3 Try.size_RD ?_ ?_ ?_ ?_); rfl; rfl; rfl; rfl; (simp [rcs, Value.oneCell']); intro w4 kA4 g4 z4)
    have b04 := b03.grown g4 b03.size (fun j hj => by have := Option.some.inj hj; omega)
    have kR4 := kR3.grown g4 (fun e => by have h1 := Option.some.inj e; omega)
    have h4 := h3.same (.of_grown g4 fun g hg e => by have h1 := Option.some.inj e; omega)
    have hX4 : Bs w4 X x := hX3.sameS (S := fun g => g < w.heap.size) (hX.at_lt) (.of_grown g4 fun g hg e => by have h1 := Option.some.inj e; omega)
    have s4 := g4.size
    clear kA3 kR3 h3 hX3 b03 g4 z4
    generalize hgb : (ok || killed) = gb at HP
    have HGB := Lib.hid hgb
    clear hgb
    go_cut [32] (fun s wx => s = .bool gb ∧ wx = w4)
    case first =>
      cases ok with
      | true =>
        obtain rfl : gb = true := HGB.out.symm
        go_wp2_with fail
        go_meet
        case rel => exact ⟨rfl, rfl⟩
      | false =>
        obtain rfl : killed = gb := HGB.out
        go_wp2_with fail
        go_meet
        case rel => exact ⟨rfl, rfl⟩
    case rest =>
      obtain ⟨rfl, hwc⟩ := hcut
      replace hwc := hwc.symm
      subst hwc
      clear HGB
      cases gb with
      | false =>
        go_wp2_with (first
          | ((with_reducible refine wpList_load_blk rfl 45 (.tmp 3) rfl w.heap.size ?_ 45 _ _ kA4 Try.underlying45 ?_ Try.size_RD ?_ ?_); rfl; rfl; rfl)
          | ((with_reducible refine wpList_store_blk rfl 45 (.tmp 6) (.tmp 48) rfl (w.heap.size + 1) 45 _ (rcs A c ⟨fs2, room2, armed2, dead2⟩) ?_ ?_ kR4 Try.size_RD ?_ ?_ ?_ ?_); rfl; rfl; rfl; rfl; (simp [rcs, Value.oneCell']); intro w5 kz5 g5 z5))
        have b05 := b04.grown g5 b04.size (fun j hj => by have := Option.some.inj hj; omega)
        have h5 := h4.same (.of_grown g5 fun g hg e => by have h1 := Option.some.inj e; omega)
        exact bodyPost_ret (results_cell2 rfl rfl rfl kz5 Try.underlying45 rfl Try.size_RD) rfl (by rw [HP.out]; exact ⟨A, c, rfl, h5.mono (fun g _ h => .inl h.1), hc.1, hc.2, b05⟩)
      | true =>
        have T := rget_any A c ⟨fs2, room2, armed2, dead2⟩ _ nm w4 h4 hn (by show fs2.length ≤ _; omega)
        go_wp2_with ((with_reducible refine wpList_load_blk rfl 45 (.tmp 3) rfl w.heap.size ?_ 45 _ _ kA4 Try.underlying45 ?_ Try.size_RD ?_ ?_); rfl; rfl; rfl)
        refine T.mono ?_
        clear T
        show ∀ (en : Ending) (w' : World), RetRF (getR fs2 nm) _ w4 en w' → _
        generalize getR fs2 nm = rg at *
        obtain ⟨f, okf⟩ := rg
        replace htl : f.tail.length ≤ 35184372088832 := htl
        rintro en w5 ⟨P, pc, Q, qc, rfl, hF, b5⟩
        replace hF : FOk w5 _ P pc Q qc f := hF
        have b05 := below_step b04 b5
        have kA5 := kA4.below b5 kA4.lt
        have kR5 := kR4.below b5 kR4.lt
        have h5 := h4.below b5
        have hX5 := hX4.below b5
        have s5 := b5.size
        have d6 : Below w5.heap.size w5 (w5.alloc (.cells #[.string ⟨f.name.toArray⟩, .slice P f.safe.length pc, .slice Q f.tail.length qc] 85)) := (Below.refl _ _).alloc (Nat.le_refl _) _
        have kF := Blk.new w5 85 #[.string ⟨f.name.toArray⟩, .slice P f.safe.length pc, .slice Q f.tail.length qc]
        have hF6 := hF.below d6
        have b06 := below_step b05 d6
        have kA6 := kA5.below d6 kA5.lt
        have kR6 := kR5.below d6 kR5.lt
        have h6 := h5.below d6
        have hX6 := hX5.below d6
        clear hF kA4 kA5 kR4 kR5 h4 h5 hX4 hX5 b5
        dsimp only
        go_upto_region 7 with fail
        have s6 := d6.size
        generalize (w5.alloc (.cells #[.string ⟨f.name.toArray⟩, .slice P f.safe.length pc, .slice Q f.tail.length qc] 85)) = w6 at *
        have f2 : w6.cell? ⟨w5.heap.size, 2, none⟩ = some (.slice Q f.tail.length qc) := kF.cell 2
        go_wp2_with fail
        refine (copy_any Q f.tail qc w6 hF6.tail.1).mono ?_
        rintro en w7 ⟨A7, c7, rfl, o7, b7⟩
        replace o7 : OwnB w6.heap.size w7 A7 f.tail c7 := o7
        have lF := kF.lt
        have key : ∀ w8, Below w6.heap.size w6 w8 → Blk w8 w5.heap.size 85 #[.string ⟨f.name.toArray⟩, .slice P f.safe.length pc, .slice Q f.tail.length qc] := fun w8 b8 => kF.below b8 lF
        have KEY := Lib.hid key
        clear key f2
        go_upto_region 8 with (at_builtin; refine wpList_app w6.heap.size w6 _ rfl (.tmp 41) (.tmp 42) rfl A7 f.tail c7 rfl o7 X x xc rfl (hX6.below b7) (by omega) b7 (Nat.le_refl _) b7.size ?_; intro A8 c8 acc8 w8 H8 o8 b8 g8 t8; have kF8 := KEY.out _ b8; have f28 : w8.cell? ⟨w5.heap.size, 2, none⟩ = some (.slice Q f.tail.length qc) := kF8.cell 2; have ff8 : w8.frozen? ⟨w5.heap.size, 2, none⟩ = false := kF8.frozen 2)
        have g9 : w8.grownBy (w8.setCell ⟨w5.heap.size, 2, none⟩ (.slice A8 acc8.length c8)) (some w5.heap.size) := only_setCell (World.grownBy.refl _ _) (p := ⟨w5.heap.size, 2, none⟩) (.inl rfl) _
        have kF9 : Blk (w8.setCell ⟨w5.heap.size, 2, none⟩ (.slice A8 acc8.length c8)) w5.heap.size 85 #[.string ⟨f.name.toArray⟩, .slice P f.safe.length pc, .slice A8 acc8.length c8] := kF8.set_ 2 (.slice A8 acc8.length c8)
        have o9 := OwnB.kept o8 g9 (fun g hg e => by have h1 := (OwnB.lt o8 g hg).1; have := Option.some.inj e; omega)
        have kA9 := (kA6.below b8 kA6.lt).grown g9 (fun e => by have h1 := Option.some.inj e; omega)
        have kR9 := (kR6.below b8 kR6.lt).grown g9 (fun e => by have h1 := Option.some.inj e; have := Z1.out; omega)
        have h9 := (h6.below b8).same (.of_grown g9 fun g hg e => by have h1 := Option.some.inj e; have := b05.size; omega)
        have hF9 := (hF6.below b8).grown g9 (fun g hg e => by have h1 := Option.some.inj e; have := b05.size; omega)
        have b09 := (b06.trans (b8.mono b06.size)).grown g9 (by have := b06.size; have := b8.size; omega) (fun j hj => by have := Option.some.inj hj; have := b05.size; omega)
        have s8 := b8.size
        have s9 := g9.size
        clear f28 ff8 kF8 KEY kA6 kR6 h6 hF6 hX6 g8 t8 o7 b7 b8 g9 kF d6 o8
        generalize (w8.setCell ⟨w5.heap.size, 2, none⟩ (.slice A8 acc8.length c8)) = w9 at *
        have hacl : acc8.length ≤ 70368744177664 := by rw [H8.out, List.length_append]; omega
        have hFN : FOk w9 (fun g => (S g ∧ g < w.heap.size) ∨ (w6.heap.size ≤ g ∧ g < w9.heap.size)) P pc A8 c8 ⟨f.name, f.safe, acc8⟩ :=
          ⟨hF9.name, ⟨hF9.safe.1, hF9.safe.2.1.mono' fun g h => .inl h, hF9.safe.2.2⟩, ⟨OwnB.bs o9 (by show acc8.length ≤ _; omega), (OwnB.at_ o9).mono' fun g h => .inr h, (OwnB.caps o9).1, (OwnB.caps o9).2⟩⟩
        have h9N : SlS RFE w9 (fun g => (S g ∧ g < w.heap.size) ∨ (w6.heap.size ≤ g ∧ g < w9.heap.size)) A fs2 := h9.mono fun g _ h => .inl h
        have T := rwith_any A c ⟨fs2, room2, armed2, dead2⟩ _ P A8 pc c8 ⟨f.name, f.safe, acc8⟩ w9 h9N hc hFN hl
        go_wp2_with (first
          | ((with_reducible refine wpList_load_blk rfl 45 (.tmp 3) rfl w.heap.size ?_ 45 _ _ kA9 Try.underlying45 ?_ Try.size_RD ?_ ?_); rfl; rfl; rfl)
          | ((with_reducible refine wpList_load_blk rfl 85 (.tmp 11) rfl w5.heap.size ?_ 85 _ _ kF9 Try.underlying85 ?_ Try.size_RF ?_ ?_); rfl; rfl; rfl))
        refine T.mono ?_
        clear T
        show ∀ (en : Ending) (w' : World), RetRD ⟨withR fs2 ⟨f.name, f.safe, acc8⟩, room2, armed2, dead2⟩ _ w9 en w' → _
        have HP2 : Hid (appR ⟨fs2, room2, armed, dead⟩ nm x = (⟨withR fs2 ⟨f.name, f.safe, acc8⟩, room2, armed2, dead2⟩, er)) := by show _ = _; rw [HP.out, if_pos trivial, H8.out]
        clear HP hFN h9N hF9 h9 kF9
        generalize withR fs2 ⟨f.name, f.safe, acc8⟩ = fs3 at *
        rintro en w10 ⟨A10, c10, rfl, h10, hc10, hm10, b10⟩
        replace hc10 : fs3.length ≤ c10 := hc10
        have b010 := below_step b09 b10
        have kA10 := kA9.below b10 kA9.lt
        have kR10 := kR9.below b10 kR9.lt
        have s10 := b10.size
        clear kA9 kR9 b10
        dsimp only
        go_upto_region 9 with ((with_reducible refine wpList_store_blk rfl 45 (.tmp 3) (.tmp 47) rfl w.heap.size 45 _ (rcs A10 c10 ⟨fs3, room2, armed2, dead2⟩) ?_ ?_ kA10 Try.size_RD ?_ ?_ ?_ ?_); rfl; rfl; rfl; rfl; (simp [rcs, Value.oneCell']); intro w11 kA11 g11 z11)
        have b011 := b010.grown g11 b010.size (fun j hj => by have := Option.some.inj hj; omega)
        have kR11 := kR10.grown g11 (fun e => by have h1 := Option.some.inj e; omega)
        have h11 := h10.same (.of_grown g11 fun g hg e => by have h1 := Option.some.inj e; have := b05.size; omega)
        clear kA10 kR10 h10 b010
        go_wp2_with (first
          | ((with_reducible refine wpList_load_blk rfl 45 (.tmp 3) rfl w.heap.size ?_ 45 _ _ kA11 Try.underlying45 ?_ Try.size_RD ?_ ?_); rfl; rfl; rfl)
          | ((with_reducible refine wpList_store_blk rfl 45 (.tmp 6) (.tmp 48) rfl (w.heap.size + 1) 45 _ (rcs A10 c10 ⟨fs3, room2, armed2, dead2⟩) ?_ ?_ kR11 Try.size_RD ?_ ?_ ?_ ?_); rfl; rfl; rfl; rfl; (simp [rcs, Value.oneCell']); intro w12 kz12 g12 z12))
        have b012 := b011.grown g12 b011.size (fun j hj => by have := Option.some.inj hj; omega)
        have h12 := h11.same (.of_grown g12 fun g hg e => by have h1 := Option.some.inj e; have := b05.size; have := Z1.out; omega)
        exact bodyPost_ret (results_cell2 rfl rfl rfl kz12 Try.underlying45 rfl Try.size_RD) rfl (by
          rw [HP2.out]
          refine ⟨A10, c10, rfl, h12.mono (fun g _ h => ?_), hc10, hm10, b012⟩
          rcases h with (h | h) | h
          · exact .inl h.1
          · exact .inr (by have := b05.size; omega)
          · exact .inr (by have := b05.size; omega))
end Go.Proofs.Ytnhonjgclbmheaa
