/- The reference's disk: out, get, may, New, Arm. -/
import Derived.Test.YtnhonjgclbmheaaRdW
namespace Go.Proofs.Ytnhonjgclbmheaa
open Go.RowKit

set_option maxRecDepth 100000 in
set_option maxHeartbeats 2000000 in
theorem rout_any (A : Option Addr) (c : Nat) (W : LRD) (S : Nat → Prop) (nm : List UInt8) (w : World) (h : SlS RFE w S A W.files) (hc : W.files.length ≤ c ∧ c ≤ 9223372036854775807) (hl : W.files.length ≤ 1048576) :
    Calls Try.prog 46 #[rv A c W, .string ⟨nm.toArray⟩] w (RetRD { W with files := outR W.files nm } S w) := by
  obtain ⟨fs, room, armed, dead⟩ := W
  replace h : SlS RFE w S A fs := h
  replace hc : fs.length ≤ c ∧ c ≤ 9223372036854775807 := hc
  replace hl : fs.length ≤ 1048576 := hl
  go_enter Try.func46, Try.ntmps46
  replace h := h.lo
  have dA : Below w.heap.size w (w.alloc (.cells (rcs A c ⟨fs, room, armed, dead⟩) 45)) := (Below.refl _ _).alloc (Nat.le_refl _) _
  have kA := Blk.new w 45 (rcs A c ⟨fs, room, armed, dead⟩)
  have zA : (w.alloc (.cells (rcs A c ⟨fs, room, armed, dead⟩) 45)).heap.size = w.heap.size + 1 := by simp
  go_upto_region 1 with fail
  change Code.wp _ _ _ _ ((w.alloc (.cells (rcs A c ⟨fs, room, armed, dead⟩) 45)).alloc (.cells (rcs none 0 ⟨[], 0, 0, false⟩) 45))
  generalize w.alloc (.cells (rcs A c ⟨fs, room, armed, dead⟩) 45) = wA at *
  have dR : Below wA.heap.size wA (wA.alloc (.cells (rcs none 0 ⟨[], 0, 0, false⟩) 45)) := (Below.refl _ _).alloc (Nat.le_refl _) _
  have kR := Blk.new wA 45 (rcs none 0 ⟨[], 0, 0, false⟩)
  have zR : (wA.alloc (.cells (rcs none 0 ⟨[], 0, 0, false⟩) 45)).heap.size = wA.heap.size + 1 := by simp
  generalize wA.alloc (.cells (rcs none 0 ⟨[], 0, 0, false⟩) 45) = w1 at *
  rw [zA] at kR
  have b1 : Below w.heap.size w w1 := dA.trans (dR.mono (by omega))
  replace kA := kA.below dR (by omega)
  have h1 := h.below b1
  have z1 : w1.heap.size = w.heap.size + 1 + 1 := by omega
  have Z1 := Lib.hid z1
  have l1 : w.heap.size < w1.heap.size := by omega
  clear dA dR zA zR z1
  have T := rfind_any A c ⟨fs, room, armed, dead⟩ _ nm w1 h1 (by show fs.length ≤ _; omega)
  go_wp2_with ((with_reducible refine wpList_load_blk rfl 45 (.tmp 2) rfl w.heap.size ?_ 45 _ _ kA Try.underlying45 ?_ Try.size_RD ?_ ?_); rfl; rfl; rfl)
  refine T.mono ?_
  clear T
  have hle := findR_le fs nm
  have hlt := findR_lt fs nm
  have HW : Hid (outR fs nm = if (findR fs nm).2 then fs.take (findR fs nm).1 ++ fs.drop ((findR fs nm).1 + 1) else fs) := rfl
  generalize findR fs nm = r at *
  obtain ⟨i, ok⟩ := r
  replace hle : i ≤ fs.length := hle
  have HLT : Hid (ok = true → i < fs.length) := hlt
  clear hlt
  replace HW : Hid (outR fs nm = if ok then fs.take i ++ fs.drop (i + 1) else fs) := HW
  rintro en w2 ⟨rfl, b2⟩
  have b02 := below_step b1 b2
  have kA2 := kA.below b2 kA.lt
  have kR2 := kR.below b2 kR.lt
  have h2 := h1.below b2
  have s2 := b2.size
  clear kA kR h1 b2
  have a0 : w2.cell? ⟨w.heap.size, 0, none⟩ = some (.slice A fs.length c) := kA2.cell 0
  cases ok with
  | false =>
    go_wp2_with (first
      | ((with_reducible refine wpList_load_blk rfl 45 (.tmp 2) rfl w.heap.size ?_ 45 _ _ kA2 Try.underlying45 ?_ Try.size_RD ?_ ?_); rfl; rfl; rfl)
      | ((with_reducible refine wpList_store_blk rfl 45 (.tmp 4) (.tmp 29) rfl (w.heap.size + 1) 45 _ (rcs A c ⟨fs, room, armed, dead⟩) ?_ ?_ kR2 Try.size_RD ?_ ?_ ?_ ?_); rfl; rfl; rfl; rfl; (simp [rcs, Value.oneCell']); intro w12 kz12 g12 z12))
    have b12 := b02.grown g12 b02.size (fun j hj => by have := Option.some.inj hj; omega)
    have h12 := h2.same (.of_grown g12 fun g hg e => by have h1 := Option.some.inj e; omega)
    refine bodyPost_ret (results_cell rfl rfl kz12 Try.underlying45 rfl Try.size_RD) rfl (by
      show RetRD ⟨outR fs nm, room, armed, dead⟩ S w _ _
      rw [HW.out, if_neg (by decide)]
      exact ⟨A, c, rfl, h12.mono (fun g _ h => .inl h.1), hc.1, hc.2, b12⟩)
  | true =>
    have hlt := HLT.out rfl
    have hTk := h2.take i hle
    have hlen : (fs.take i).length = i := by rw [List.length_take]; omega
    obtain ⟨us1, hr1, hfl1⟩ := hTk.parts
    obtain ⟨R1, hR1, hs1⟩ := h2.dropF hc.1 (i + 1) ((i : Int) + 1) (by omega) (by omega)
    have HS1 := Lib.hid hR1
    have dE : Below w2.heap.size w2 (w2.alloc (.cells #[] 85)) := (Below.refl _ _).alloc (Nat.le_refl _) _
    have kE := Blk.new w2 85 #[]
    have oE : Own RFE 85 (w2.alloc (.cells #[] 85)) w2.heap.size (fun g => S g ∧ g < w.heap.size) (.slice (some ⟨w2.heap.size, 0, none⟩) 0 0) [] := Own.empty RFE kE (Nat.le_refl _)
    have hSb : ∀ g, (S g ∧ g < w.heap.size) → g < w2.heap.size := fun g h => by have := b02.size; omega
    have b0E := b02.trans (dE.mono b02.size)
    have hr1E : Reads (w2.alloc (.cells #[] 85)) (w2.alloc (.cells #[] 85)).heap.size 3 A (fs.take i).length us1 := (Reads.below hr1 dE).more dE.size
    have hfl1E := ER.flat_keep dE hfl1
    have a0E : (w2.alloc (.cells #[] 85)).cell? ⟨w.heap.size, 0, none⟩ = some (.slice A fs.length c) := (kA2.below dE kA2.lt).cell 0
    have hlE : ([] : List LRF).length + (fs.take i).length ≤ 1048577 := by rw [hlen]; show 0 + i ≤ _; omega
    have hw2 : w2.heap.size ≤ (w2.alloc (.cells #[] 85)).heap.size := dE.size
    rw [hlen] at hr1E
    have HHL := Lib.hid hlen
    clear hlen hR1
    go_upto_region 4 with (at_builtin; refine wpList_appF w2.heap.size w _ rfl (.tmp 15) (.tmp 19) rfl (fun g => S g ∧ g < w.heap.size) hSb (some ⟨w2.heap.size, 0, none⟩) [] 0 rfl oE A (fs.take i) c (by rw [HHL.out]; rfl) us1 (by rw [HHL.out]; exact hr1E) hfl1E hlE b0E b02.size hw2 ?_; intro A5 c5 xs5 w5 H5 o5 b5 g5)
    have e5 : xs5 = fs.take i := H5.out
    have hl5 : xs5.length ≤ 1048576 := by rw [e5, HHL.out]; omega
    have kA5 := (kA2.below dE kA2.lt).grown g5 (fun e => by have h1 := Option.some.inj e; have h2 := kA2.lt; change w.heap.size = w2.heap.size at h1; omega)
    have kR5 := (kR2.below dE kR2.lt).grown g5 (fun e => by have h1 := Option.some.inj e; have h2 := kR2.lt; change w.heap.size + 1 = w2.heap.size at h1; omega)
    have hRD7 := (HS1.out.below dE).same (.of_grown g5 fun g hg e => by have h1 := Option.some.inj e; have h2 := hSb g hg; change w2.heap.size = g at h1; omega)
    obtain ⟨us3, hr3, hfl3⟩ := hRD7.parts
    have hlt7 := Own.lt o5
    have s7 := b5.size
    have hw7 : w2.heap.size ≤ w5.heap.size := by have := g5.size; omega
    have hl8 : xs5.length + (fs.drop (i + 1)).length ≤ 1048577 := by rw [e5, List.length_drop]; have := HHL.out; omega
    have HX7 := Lib.hid e5
    have hdl := List.length_drop (i := i + 1) (l := fs)
    have HDL := Lib.hid hdl
    have a05 : w5.cell? ⟨w.heap.size, 0, none⟩ = some (.slice A fs.length c) := kA5.cell 0
    clear e5 H5 hdl a0 a0E hfl1E hr1E oE kE dE b0E hfl1 hr1 hTk kA2 kR2 h2 g5 hlE hw2 HS1
    have key : ∀ w9, w5.grownBy w9 (Value.slice A5 xs5.length c5).ownBlock → Blk w9 w.heap.size 45 (rcs A c ⟨fs, room, armed, dead⟩) := fun w9 g9 => kA5.grown g9 (fun e => by have h1 := (hlt7 _ e.symm).1; omega)
    have KEY := Lib.hid key
    clear key
    go_upto_region 5 with (at_builtin; refine wpList_appF w2.heap.size w _ rfl (.tmp 21) (.tmp 26) rfl (fun g => S g ∧ g < w.heap.size) hSb A5 xs5 c5 rfl o5 R1 (fs.drop (i + 1)) (c - (i + 1)) (by rw [HDL.out]; rfl) us3 hr3 hfl3 hl8 b5 b02.size hw7 ?_; intro A9 c9 xs9 w9 H9 o9 b9 g9; have kA9 := KEY.out _ g9; have a90 : w9.cell? ⟨w.heap.size, 0, none⟩ = some (.slice A fs.length c) := kA9.cell 0; have af9 : w9.frozen? ⟨w.heap.size, 0, none⟩ = false := kA9.frozen 0)
    have e9 : xs9 = outR fs nm := by rw [H9.out, HX7.out, HW.out, if_pos trivial]
    have kR9 := kR5.grown g9 (fun e => by have h1 := (hlt7 _ e.symm).1; have := Z1.out; omega)
    have g10 : w9.grownBy (w9.setCell ⟨w.heap.size, 0, none⟩ (.slice A9 xs9.length c9)) (some w.heap.size) := only_setCell (World.grownBy.refl _ _) (p := ⟨w.heap.size, 0, none⟩) (.inl rfl) _
    have kA10 : Blk (w9.setCell ⟨w.heap.size, 0, none⟩ (.slice A9 xs9.length c9)) w.heap.size 45 (rcs A9 c9 ⟨xs9, room, armed, dead⟩) := kA9.set_ 0 (.slice A9 xs9.length c9)
    have kR10 := kR9.grown g10 (fun e => by have h1 := Option.some.inj e; omega)
    have hlt9 := Own.lt o9
    have hcp9 := Own.caps o9
    have o10 := o9.same g10 (.inr (fun e => by have h1 := (hlt9 _ e).1; omega)) (fun g hg e => by have h1 := Option.some.inj e; omega)
    have b10 : Below w.heap.size w (w9.setCell ⟨w.heap.size, 0, none⟩ (.slice A9 xs9.length c9)) := b9.grown g10 b9.size (fun j hj => by have := Option.some.inj hj; omega)
    have hl9 : xs9.length * 64 ≤ 140737488351232 := by rw [H9.out, List.length_append]; omega
    have HX9 := Lib.hid e9
    have HC9 := Lib.hid hcp9
    have HL9 := Lib.hid hl9
    clear a90 af9 a05 kA9 kR9 g9 g10 e9 H9 hlt9 hcp9 hl9 o9 kA5 kR5 hRD7 hr3 hfl3 hlt7 o5 b9
    generalize (w9.setCell ⟨w.heap.size, 0, none⟩ (.slice A9 xs9.length c9)) = w10 at *
    go_wp2_with (first
      | ((with_reducible refine wpList_load_blk rfl 45 (.tmp 2) rfl w.heap.size ?_ 45 _ _ kA10 Try.underlying45 ?_ Try.size_RD ?_ ?_); rfl; rfl; rfl)
      | ((with_reducible refine wpList_store_blk rfl 45 (.tmp 4) (.tmp 29) rfl (w.heap.size + 1) 45 _ (rcs A9 c9 ⟨xs9, room, armed, dead⟩) ?_ ?_ kR10 Try.size_RD ?_ ?_ ?_ ?_); rfl; rfl; rfl; rfl; (simp [rcs, Value.oneCell']); intro w12 kz12 g12 z12))
    have o12 := o10.same g12 (.inr (fun e => by have h1 := (o10.lt _ e).1; have := Z1.out; omega)) (fun g hg e => by have h1 := Option.some.inj e; omega)
    have b12 := b10.grown g12 b10.size (fun j hj => by have := Option.some.inj hj; omega)
    refine bodyPost_ret (results_cell rfl rfl kz12 Try.underlying45 rfl Try.size_RD) rfl (by
      have hS := o12.slS (S' := fun g => S g ∨ w.heap.size ≤ g) rfl HL9.out (fun g h => .inl h.1) (fun g h => .inr (by have := b02.size; omega))
      have e := HX9.out
      have hc := HC9.out
      subst e
      exact ⟨A9, c9, rfl, hS, hc.1, hc.2, b12⟩)
/-- a file answered, and whether it is there -/
def RetRF (r : LRF × Bool) (S : Nat → Prop) (w : World) (en : Ending) (w' : World) : Prop :=
  ∃ P pc Q qc, en = .returned (.tuple #[fv P pc Q qc r.1, .bool r.2]) ∧ FOk w' S P pc Q qc r.1 ∧ Below w.heap.size w w'
theorem RFE.fok {w : World} {A : Option Addr} {S : Nat → Prop} {fs : List LRF} (h : SlS RFE w S A fs) {k : Nat} (hk : k < fs.length) :
    ∃ ad P c Q d, A = some ad ∧ ad.block < w.heap.size ∧ w.cell? (ad.add (k * 3)) = some (.string ⟨fs[k].name.toArray⟩) ∧ w.cell? ⟨(ad.add (k * 3)).block, (ad.add (k * 3)).off + 1, none⟩ = some (.slice P fs[k].safe.length c) ∧
      w.cell? ⟨(ad.add (k * 3)).block, (ad.add (k * 3)).off + 2, none⟩ = some (.slice Q fs[k].tail.length d) ∧ FOk w S P c Q d fs[k] := by
  obtain ⟨ad, P, c, Q, d, e, hb, c0, c1, c2, h0, h1, h2, h3, h4, h5⟩ := RFE.at_ h hk
  exact ⟨ad, P, c, Q, d, e, hb, c0, c1, c2, ⟨h0, ⟨h1, h2, h3, h4⟩, h5⟩⟩
theorem FOk.grown {w w' : World} {row : Option Nat} {S : Nat → Prop} {P Q : Option Addr} {pc qc : Nat} {f : LRF} (h : FOk w S P pc Q qc f) (hg : w.grownBy w' row) (hr : ∀ g, S g → row ≠ some g) : FOk w' S P pc Q qc f :=
  ⟨h.name, ⟨h.safe.1.sameS h.safe.2.1 (.of_grown hg hr), h.safe.2⟩, ⟨h.tail.1.sameS h.tail.2.1 (.of_grown hg hr), h.tail.2⟩⟩
theorem FOk.zero (w : World) (S : Nat → Prop) (nm : List UInt8) (hn : nm.length ≤ 140737488355328) : FOk w S none 0 none 0 ⟨nm, [], []⟩ :=
  ⟨hn, ⟨Bs.nil_ _ _, (fun _ e => by cases e), Nat.le_refl _, by decide⟩, ⟨Bs.nil_ _ _, (fun _ e => by cases e), Nat.le_refl _, by decide⟩⟩
set_option maxRecDepth 100000 in
set_option maxHeartbeats 2000000 in
theorem rget_any (A : Option Addr) (c : Nat) (W : LRD) (S : Nat → Prop) (nm : List UInt8) (w : World) (h : SlS RFE w S A W.files) (hn : nm.length ≤ 140737488355328) (hl : W.files.length ≤ 1048576) :
    Calls Try.prog 44 #[rv A c W, .string ⟨nm.toArray⟩] w (RetRF (getR W.files nm) S w) := by
  obtain ⟨fs, room, armed, dead⟩ := W
  replace h : SlS RFE w S A fs := h
  replace hl : fs.length ≤ 1048576 := hl
  go_enter Try.func44, Try.ntmps44
  replace h := h.lo
  have dA : Below w.heap.size w (w.alloc (.cells (rcs A c ⟨fs, room, armed, dead⟩) 45)) := (Below.refl _ _).alloc (Nat.le_refl _) _
  have kA := Blk.new w 45 (rcs A c ⟨fs, room, armed, dead⟩)
  have zA : (w.alloc (.cells (rcs A c ⟨fs, room, armed, dead⟩) 45)).heap.size = w.heap.size + 1 := by simp
  go_upto_region 1 with fail
  change Code.wp _ _ _ _ ((w.alloc (.cells (rcs A c ⟨fs, room, armed, dead⟩) 45)).alloc (.cells #[.string ⟨#[]⟩, .slice none 0 0, .slice none 0 0] 85))
  generalize w.alloc (.cells (rcs A c ⟨fs, room, armed, dead⟩) 45) = wA at *
  have dR : Below wA.heap.size wA (wA.alloc (.cells #[.string ⟨#[]⟩, .slice none 0 0, .slice none 0 0] 85)) := (Below.refl _ _).alloc (Nat.le_refl _) _
  have kR := Blk.new wA 85 #[.string ⟨#[]⟩, .slice none 0 0, .slice none 0 0]
  have zR : (wA.alloc (.cells #[.string ⟨#[]⟩, .slice none 0 0, .slice none 0 0] 85)).heap.size = wA.heap.size + 1 := by simp
  generalize wA.alloc (.cells #[.string ⟨#[]⟩, .slice none 0 0, .slice none 0 0] 85) = w1 at *
  rw [zA] at kR
  have b1 : Below w.heap.size w w1 := dA.trans (dR.mono (by omega))
  replace kA := kA.below dR (by omega)
  have h1 := h.below b1
  have z1 : w1.heap.size = w.heap.size + 1 + 1 := by omega
  have Z1 := Lib.hid z1
  have l1 : w.heap.size < w1.heap.size := by omega
  clear dA dR zA zR z1
  have T := rfind_any A c ⟨fs, room, armed, dead⟩ _ nm w1 h1 (by show fs.length ≤ _; omega)
  go_wp2_with ((with_reducible refine wpList_load_blk rfl 45 (.tmp 2) rfl w.heap.size ?_ 45 _ _ kA Try.underlying45 ?_ Try.size_RD ?_ ?_); rfl; rfl; rfl)
  refine T.mono ?_
  clear T
  have hlt := findR_lt fs nm
  have HW : Hid (getR fs nm = if (findR fs nm).2 then (fs.getD (findR fs nm).1 ⟨nm, [], []⟩, true) else (⟨nm, [], []⟩, false)) := rfl
  generalize findR fs nm = r at *
  obtain ⟨i, ok⟩ := r
  have HLT : Hid (ok = true → i < fs.length) := hlt
  clear hlt
  replace HW : Hid (getR fs nm = if ok then (fs.getD i ⟨nm, [], []⟩, true) else (⟨nm, [], []⟩, false)) := HW
  rintro en w2 ⟨rfl, b2⟩
  have b02 := below_step b1 b2
  have kA2 := kA.below b2 kA.lt
  have kR2 := kR.below b2 kR.lt
  have h2 := h1.below b2
  have s2 := b2.size
  clear kA kR h1 b2
  have a0 : w2.cell? ⟨w.heap.size, 0, none⟩ = some (.slice A fs.length c) := kA2.cell 0
  cases ok with
  | false =>
    go_wp2_with ((with_reducible refine wpList_store_blk rfl 85 (.tmp 4) (.tmp 17) rfl (w.heap.size + 1) 85 _ #[.string ⟨nm.toArray⟩, .slice none 0 0, .slice none 0 0] ?_ ?_ kR2 Try.size_RF ?_ ?_ ?_ ?_); rfl; rfl; rfl; rfl; (simp [Value.oneCell']); intro w12 kz12 g12 z12)
    have b12 := b02.grown g12 b02.size (fun j hj => by have := Option.some.inj hj; omega)
    refine bodyPost_ret (results_cell2 rfl rfl rfl kz12 Try.underlying85 rfl Try.size_RF) rfl (by
      show RetRF (getR fs nm) S w _ _
      rw [HW.out, if_neg (by decide)]
      exact ⟨none, 0, none, 0, rfl, FOk.zero _ _ nm hn, b12⟩)
  | true =>
    have hlt := HLT.out rfl
    obtain ⟨ad, P, pc, Q, qc, rfl, hadb, c0, c1, c2, hF⟩ := RFE.fok h2 hlt
    have HG : Hid (getR fs nm = (fs[i], true)) := by
      show _ = _
      rw [HW.out, if_pos rfl, List.getD_eq_getElem?_getD, List.getElem?_eq_getElem hlt]
      rfl
    clear HW
    generalize fs[i] = f at *
    go_wp2_with ((with_reducible refine wpList_store_blk rfl 85 (.tmp 4) (.tmp 22) rfl (w.heap.size + 1) 85 _ #[.string ⟨f.name.toArray⟩, .slice P f.safe.length pc, .slice Q f.tail.length qc] ?_ ?_ kR2 Try.size_RF ?_ ?_ ?_ ?_); rfl; rfl; rfl; rfl; (simp [Value.oneCell']); intro w12 kz12 g12 z12)
    have b12 := b02.grown g12 b02.size (fun j hj => by have := Option.some.inj hj; omega)
    have hF12 := hF.grown g12 (fun g hg e => by have := Option.some.inj e; omega)
    refine bodyPost_ret (results_cell2 rfl rfl rfl kz12 Try.underlying85 rfl Try.size_RF) rfl (by
      show RetRF (getR fs nm) S w _ _
      rw [HG.out]
      exact ⟨P, pc, Q, qc, rfl, hF12.mono (fun g _ h => h.1), b12⟩)
end Go.Proofs.Ytnhonjgclbmheaa
