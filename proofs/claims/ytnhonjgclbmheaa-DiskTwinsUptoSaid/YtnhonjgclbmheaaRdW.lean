/- The reference's disk: Used, with, out, get. -/
import Derived.Test.YtnhonjgclbmheaaRdM
namespace Go.Proofs.Ytnhonjgclbmheaa
open Go.RowKit

theorem Own.stepsA {α : Type} {E : ER α} {w w' : World} {S : Nat → Prop} {t : TypeId} {B : Nat} {v v' : Value} {xs ys : List α} {vs us : List Value} (hf : E.flat w (fun b => S b ∧ v.ownBlock ≠ some b) vs xs) (hx : E.flat w (fun b => S b ∧ v.ownBlock ≠ some b) us ys)
    (hown : w'.ownsRow B t E.size v' (xs.length + ys.length) (vs ++ us)) (hg : w.grownBy w' v.ownBlock) (hat : v'.ownBlock = v.ownBlock ∨ v'.ownBlock = some w.heap.size) : Own E t w' B S v' (xs ++ ys) := by
  refine ⟨vs ++ us, by rw [List.length_append]; exact hown, ?_⟩
  have h1 := ER.flat_mono (S' := fun b => (S b ∧ v.ownBlock ≠ some b) ∧ b < w.heap.size) (fun b hl hb => ⟨hb, hl⟩) (ER.flat_append hf hx)
  have h2 := ER.flat_same (.of_grown hg fun b hb => hb.1.2) h1
  refine ER.flat_mono (fun b _ hb => ⟨hb.1.1, ?_⟩) h2
  rcases hat with e | e <;> rw [e]
  · exact hb.1.2
  · intro e; have := Option.some.inj e; omega
theorem Own.empty {α : Type} (E : ER α) {X : World} {g base : Nat} {t : TypeId} {S : Nat → Prop} (h : Blk X g t #[]) (hb : base ≤ g) : Own E t X base S (.slice (some ⟨g, 0, none⟩) 0 0) [] :=
  ⟨[], ⟨by simp, .inr ⟨g, 0, #[], rfl, hb, h, Nat.le_refl _, Nat.zero_le _, by simp, by simp⟩⟩, rfl⟩
theorem Try.infoRF : (Try.prog.info? 85).map (fun i => (i.zero, i.size, i.bytes)) = some (some (.agg #[.string ⟨#[]⟩, .slice none 0 0, .slice none 0 0]), 3, 64) := by kernel_rfl
/-- files of another slice appended to a row of the own, from block b on; the files' data lie in blocks of S, all below b -/
theorem wpList_appF (b : Nat) (w0 w : World) {ops : Array Oper} {rest : List Oper} {o : Oper} {a : Act} {Q : Exit → Act → World → Prop} (hgd : o.guard = none) (s x : Operand)
    (ho : o.op = .call { callee := .builtin .append, args := #[s, x], argTypes := #[43, 43] })
    (S : Nat → Prop) (hSb : ∀ g, S g → g < b) (A : Option Addr) (xs : List LRF) (c : Nat) (hs : a.eval s = .slice A xs.length c) (hown : Own RFE 85 w b S (.slice A xs.length c) xs)
    (B : Option Addr) (ys : List LRF) (d : Nat) (hx : a.eval x = .slice B ys.length d) (us : List Value) (hru : Reads w w.heap.size 3 B ys.length us) (hrep : RFE.flat w S us ys)
    (hl : xs.length + ys.length ≤ 1048577) (hb : Below w0.heap.size w0 w) (hb0 : w0.heap.size ≤ b) (hbw : b ≤ w.heap.size)
    (h : ∀ A' c' xs' w', Hid (xs' = xs ++ ys) → Own RFE 85 w' b S (.slice A' xs'.length c') xs' → Below w0.heap.size w0 w' → w.grownBy w' (Value.slice A xs.length c).ownBlock → wpList Try.prog ops Q rest (a.put o.dst (.slice A' xs'.length c')) w') : wpList Try.prog ops Q (o :: rest) a w := by
  obtain ⟨i0, hi0, hz0, hz1, hz2⟩ := info_parts Try.infoRF
  have hlt := Own.lt hown
  obtain ⟨vs, hown, hf⟩ := hown
  have hx2 : RFE.flat w (fun g => S g ∧ (Value.slice A xs.length c).ownBlock ≠ some g) us ys := ER.flat_mono (fun g _ hg => ⟨hg, fun e => by have := (hlt g e).1; have := hSb g hg; omega⟩) hrep
  refine wpList_append_sh w hgd s x _ ho b 85 i0 _ 3 64 Try.underlying43 hi0 hz0 hz1 hz2 rfl (by omega) _ _ _ hs hown _ B ys.length d us hx hru (ER.flat_one hrep) (by simp only [maxLen]; omega) (by omega) hbw ?_
  intro A' c' w' o' g' t'
  have hst := Own.stepsA (E := RFE) (S := S) hf hx2 o' g' t'
  have e : xs.length + ys.length = (xs ++ ys).length := by rw [List.length_append]
  rw [e] at hst t' ⊢
  exact h A' c' (xs ++ ys) w' rfl hst (hb.grown g' hb.size fun j hj => by have := (hlt j hj).1; omega) g'
theorem SlS.parts {α : Type} {E : ER α} {w : World} {S : Nat → Prop} {A : Option Addr} {xs : List α} (h : SlS E w S A xs) : ∃ us, Reads w w.heap.size E.size A xs.length us ∧ E.flat w S us xs := by
  obtain ⟨_, us, h1, _, h2⟩ := h
  exact ⟨us, h1, h2⟩
theorem SlS.lo {α : Type} {E : ER α} {w : World} {S : Nat → Prop} {A : Option Addr} {xs : List α} (h : SlS E w S A xs) : SlS E w (fun g => S g ∧ g < w.heap.size) A xs := h.mono fun _ h1 h2 => ⟨h2, h1⟩
/-- a file as a value -/
abbrev fv (P : Option Addr) (pc : Nat) (Q : Option Addr) (qc : Nat) (f : LRF) : Value := .agg #[.string ⟨f.name.toArray⟩, .slice P f.safe.length pc, .slice Q f.tail.length qc]
/-- a file's bytes lie in blocks of S -/
structure FOk (w : World) (S : Nat → Prop) (P : Option Addr) (pc : Nat) (Q : Option Addr) (qc : Nat) (f : LRF) : Prop where
  name : f.name.length ≤ 140737488355328
  safe : Bs w P f.safe ∧ At S P f.safe.length ∧ f.safe.length ≤ pc ∧ pc ≤ 9223372036854775807
  tail : Bs w Q f.tail ∧ At S Q f.tail.length ∧ f.tail.length ≤ qc ∧ qc ≤ 9223372036854775807
theorem FOk.rep {w : World} {S : Nat → Prop} {P Q : Option Addr} {pc qc : Nat} {f : LRF} (h : FOk w S P pc Q qc f) : RFE.rep w S [.string ⟨f.name.toArray⟩, .slice P f.safe.length pc, .slice Q f.tail.length qc] f :=
  ⟨P, pc, Q, qc, rfl, h.name, h.safe.1, h.safe.2.1, h.safe.2.2.1, h.safe.2.2.2, h.tail⟩
theorem FOk.below {w w' : World} {S : Nat → Prop} {P Q : Option Addr} {pc qc : Nat} {f : LRF} (h : FOk w S P pc Q qc f) (hb : Below w.heap.size w w') : FOk w' S P pc Q qc f := ⟨h.name, ⟨h.safe.1.below hb, h.safe.2⟩, ⟨h.tail.1.below hb, h.tail.2⟩⟩
theorem FOk.mono {w : World} {S S' : Nat → Prop} {P Q : Option Addr} {pc qc : Nat} {f : LRF} (h : FOk w S P pc Q qc f) (hs : ∀ g, g < w.heap.size → S g → S' g) : FOk w S' P pc Q qc f := ⟨h.name, ⟨h.safe.1, h.safe.1.atMono h.safe.2.1 hs, h.safe.2.2⟩, ⟨h.tail.1, h.tail.1.atMono h.tail.2.1 hs, h.tail.2.2⟩⟩
theorem FOk.lo {w : World} {S : Nat → Prop} {P Q : Option Addr} {pc qc : Nat} {f : LRF} (h : FOk w S P pc Q qc f) : FOk w (fun g => S g ∧ g < w.heap.size) P pc Q qc f := h.mono fun _ h1 h2 => ⟨h2, h1⟩
theorem Try.size_RD : (Try.prog.info? 45).map (·.size) = some 4 := by kernel_rfl
theorem Try.size_RF : (Try.prog.info? 85).map (·.size) = some 3 := by kernel_rfl
theorem run_lowF (A : Option Addr) (n c k : Nat) (l : Int) (hl : l = (k : Int)) (hk : k ≤ n) (w : World) :
    (Instr.slice 43 (.slice A n c) (some (.int .i64 l)) none none).run Try.prog w = .ok (.slice (if c = k then A else A.map (·.add (k * 3))) (n - k) (c - k)) w := by
  subst hl
  have h1 : (0 : Int) ≤ (k : Int) := by omega
  have h2 : (k : Int) ≤ (n : Int) := by omega
  have hs : (sizeOf (Try.prog.elem 43)).run Try.prog w = .ok 3 w := by kernel_rfl
  rw [run_slice_l w 43 A n c (by kernel_rfl) .i64 (k : Int) h1 h2, hs]
  simp [Result.andThen, sliced]
/-- what stands from place k on -/
theorem SlS.dropF {w : World} {S : Nat → Prop} {A : Option Addr} {fs : List LRF} {c : Nat} (h : SlS RFE w S A fs) (hc : fs.length ≤ c) (k : Nat) (l : Int) (hl : l = (k : Int)) (hk : k ≤ fs.length) :
    ∃ R, SlS RFE w S R (fs.drop k) ∧ ∀ W, (Instr.slice 43 (.slice A fs.length c) (some (.int .i64 l)) none none).run Try.prog W = .ok (.slice R (fs.drop k).length (c - k)) W :=
  ⟨_, h.drop hk hc, fun W => by rw [run_lowF A _ c k l hl hk, List.length_drop]; rfl⟩
/-- a disk of the reference answered -/
def RetRD (W : LRD) (S : Nat → Prop) (w : World) (en : Ending) (w' : World) : Prop :=
  ∃ A c, en = .returned (rv A c W) ∧ SlS RFE w' (fun g => S g ∨ w.heap.size ≤ g) A W.files ∧ W.files.length ≤ c ∧ c ≤ 9223372036854775807 ∧ Below w.heap.size w w'
set_option maxRecDepth 100000 in
set_option maxHeartbeats 2000000 in
theorem rused_any (A : Option Addr) (c : Nat) (W : LRD) (S : Nat → Prop) (w : World) (h : SlS RFE w S A W.files) (hl : W.files.length ≤ 1048576) (hu : usedR W.files ≤ 4611686018427387904) :
    Calls Try.prog 40 #[rv A c W] w (fun en w' => en = .returned (.int .i64 (usedR W.files : Int)) ∧ Below w.heap.size w w') := by
  obtain ⟨fs, room, armed, dead⟩ := W
  have d1 : Below w.heap.size w (w.alloc (.cells (rcs A c ⟨fs, room, armed, dead⟩) 45)) := (Below.refl _ _).alloc (Nat.le_refl _) _
  have kp := Blk.new w 45 (rcs A c ⟨fs, room, armed, dead⟩)
  have h1 := h.below d1
  go_enter Try.func40, Try.ntmps40
  go_upto_region 1 with fail
  change Code.wp _ _ _ _ (w.alloc (.cells (rcs A c ⟨fs, room, armed, dead⟩) 45))
  generalize (w.alloc (.cells (rcs A c ⟨fs, room, armed, dead⟩) 45)) = w1 at *
  have p0 : w1.cell? ⟨w.heap.size, 0, none⟩ = some (.slice A fs.length c) := kp.cell 0
  replace h1 : SlS RFE w1 S A fs := h1
  replace hl : fs.length ≤ 1048576 := hl
  replace hu : usedR fs ≤ 4611686018427387904 := hu
  clear h
  go_wp2_with fail
  go_loopw [3, 4] (fun n i wr => ∃ k acc : Nat, k ≤ fs.length ∧ i = .int .i64 (k : Int) ∧ n = .int .i64 (acc : Int) ∧ acc + usedR (fs.drop k) = usedR fs ∧ Below w1.heap.size w1 wr) (fun _ i _ => fs.length - (Lib.intOf i).toNat)
  case atStart => exact ⟨0, 0, Nat.zero_le _, rfl, rfl, by rw [List.drop_zero, Nat.zero_add], Below.refl _ _⟩
  case round =>
    obtain ⟨k, acc, hk, rfl, rfl, hac, br⟩ := hrel
    have p0r : wr.cell? ⟨w.heap.size, 0, none⟩ = some (.slice A fs.length c) := (kp.below br kp.lt).cell 0
    by_cases hlt : k < fs.length
    · obtain ⟨ad, P, pc, Q, qc, rfl, hadb, c0, c1, c2, _⟩ := RFE.at_ (h1.below br) hlt
      have hdr : usedR (fs.drop k) = fs[k].safe.length + fs[k].tail.length + usedR (fs.drop (k + 1)) := by
        rw [List.drop_eq_getElem_cons hlt]
        unfold usedR
        rw [List.map_cons, List.sum_cons]
      obtain ⟨x, hx⟩ : ∃ x, x = fs[k].safe.length := ⟨_, rfl⟩
      obtain ⟨y, hy⟩ : ∃ y, y = fs[k].tail.length := ⟨_, rfl⟩
      rw [← hx] at c1 hdr
      rw [← hy] at c2 hdr
      have hac2 : acc + x + y + usedR (fs.drop (k + 1)) = usedR fs := by omega
      have hsm : acc + x + y ≤ 4611686018427387904 := by omega
      have HAC := Lib.hid hac2
      clear hac2 hac hdr hx hy
      go_wp2_with fail
      go_quiet (fail)
      go_wp2_with fail
      go_roundw
      case rel => exact ⟨k + 1, acc + x + y, by omega, by simp, by simp, HAC.out, below_drewN br _⟩
      case measure => simp [Lib.intOf]; omega
    · obtain rfl : k = fs.length := by omega
      have HAC : Hid (acc = usedR fs) := by
        rw [List.drop_length] at hac
        exact hac
      clear hac
      go_wp2_with fail
      go_ret
      rw [show usedR (LRD.files ⟨fs, room, armed, dead⟩) = usedR fs from rfl, ← HAC.out]
      exact ⟨rfl, d1.trans (br.mono d1.size)⟩
set_option maxRecDepth 100000 in
set_option maxHeartbeats 2000000 in
theorem rwith_any (A : Option Addr) (c : Nat) (W : LRD) (S : Nat → Prop) (P Q : Option Addr) (pc qc : Nat) (f : LRF) (w : World) (h : SlS RFE w S A W.files) (hc : W.files.length ≤ c ∧ c ≤ 9223372036854775807) (hf : FOk w S P pc Q qc f) (hl : W.files.length ≤ 1048575) :
    Calls Try.prog 45 #[rv A c W, fv P pc Q qc f] w (RetRD { W with files := withR W.files f } S w) := by
  obtain ⟨fs, room, armed, dead⟩ := W
  replace h : SlS RFE w S A fs := h
  replace hc : fs.length ≤ c ∧ c ≤ 9223372036854775807 := hc
  replace hl : fs.length ≤ 1048575 := hl
  go_enter Try.func45, Try.ntmps45
  replace h := h.lo
  replace hf := hf.lo
  have dA : Below w.heap.size w (w.alloc (.cells (rcs A c ⟨fs, room, armed, dead⟩) 45)) := (Below.refl _ _).alloc (Nat.le_refl _) _
  have kA := Blk.new w 45 (rcs A c ⟨fs, room, armed, dead⟩)
  have zA : (w.alloc (.cells (rcs A c ⟨fs, room, armed, dead⟩) 45)).heap.size = w.heap.size + 1 := by simp
  go_upto_region 1 with fail
  change Code.wp _ _ _ _ (((w.alloc (.cells (rcs A c ⟨fs, room, armed, dead⟩) 45)).alloc (.cells #[.string ⟨f.name.toArray⟩, .slice P f.safe.length pc, .slice Q f.tail.length qc] 85)).alloc (.cells (rcs none 0 ⟨[], 0, 0, false⟩) 45))
  generalize w.alloc (.cells (rcs A c ⟨fs, room, armed, dead⟩) 45) = wA at *
  have dF : Below wA.heap.size wA (wA.alloc (.cells #[.string ⟨f.name.toArray⟩, .slice P f.safe.length pc, .slice Q f.tail.length qc] 85)) := (Below.refl _ _).alloc (Nat.le_refl _) _
  have kF := Blk.new wA 85 #[.string ⟨f.name.toArray⟩, .slice P f.safe.length pc, .slice Q f.tail.length qc]
  have zF : (wA.alloc (.cells #[.string ⟨f.name.toArray⟩, .slice P f.safe.length pc, .slice Q f.tail.length qc] 85)).heap.size = wA.heap.size + 1 := by simp
  generalize wA.alloc (.cells #[.string ⟨f.name.toArray⟩, .slice P f.safe.length pc, .slice Q f.tail.length qc] 85) = wF at *
  have dR : Below wF.heap.size wF (wF.alloc (.cells (rcs none 0 ⟨[], 0, 0, false⟩) 45)) := (Below.refl _ _).alloc (Nat.le_refl _) _
  have kR := Blk.new wF 45 (rcs none 0 ⟨[], 0, 0, false⟩)
  have zR : (wF.alloc (.cells (rcs none 0 ⟨[], 0, 0, false⟩) 45)).heap.size = wF.heap.size + 1 := by simp
  generalize wF.alloc (.cells (rcs none 0 ⟨[], 0, 0, false⟩) 45) = w1 at *
  rw [show wF.heap.size = w.heap.size + 1 + 1 by omega] at kR
  rw [zA] at kF
  have b1 : Below w.heap.size w w1 := dA.trans ((dF.mono (by omega)).trans (dR.mono (by omega)))
  replace kA := (kA.below dF (by omega)).below dR (by omega)
  replace kF := kF.below dR (by omega)
  have h1 := h.below b1
  have hf1 := hf.below b1
  have z1 : w1.heap.size = w.heap.size + 1 + 1 + 1 := by omega
  have Z1 := Lib.hid z1
  have l1 : w.heap.size < w1.heap.size := by omega
  clear dA dF dR zA zF zR z1
  have f0 : w1.cell? ⟨w.heap.size + 1, 0, none⟩ = some (.string ⟨f.name.toArray⟩) := kF.cell 0
  have T := rfind_any A c ⟨fs, room, armed, dead⟩ _ f.name w1 h1 (by show fs.length ≤ _; omega)
  go_wp2_with ((with_reducible refine wpList_load_blk rfl 45 (.tmp 2) rfl w.heap.size ?_ 45 _ _ kA Try.underlying45 ?_ Try.size_RD ?_ ?_); rfl; rfl; rfl)
  refine T.mono ?_
  clear T
  have hle := findR_le fs f.name
  have hlt := findR_lt fs f.name
  have HW : Hid (withR fs f = fs.take (findR fs f.name).1 ++ [f] ++ fs.drop (if (findR fs f.name).2 then (findR fs f.name).1 + 1 else (findR fs f.name).1)) := rfl
  generalize findR fs f.name = r at *
  obtain ⟨i, ok⟩ := r
  replace hle : i ≤ fs.length := hle
  have HLT : Hid (ok = true → i < fs.length) := hlt
  clear hlt
  replace HW : Hid (withR fs f = fs.take i ++ [f] ++ fs.drop (if ok then i + 1 else i)) := HW
  rintro en w2 ⟨rfl, b2⟩
  have b02 := below_step b1 b2
  have kA2 := kA.below b2 kA.lt
  have kF2 := kF.below b2 kF.lt
  have kR2 := kR.below b2 kR.lt
  have h2 := h1.below b2
  have hf2 := hf1.below b2
  have s2 := b2.size
  clear kA kF kR h1 hf1 f0 b2
  have a0 : w2.cell? ⟨w.heap.size, 0, none⟩ = some (.slice A fs.length c) := kA2.cell 0
  obtain ⟨R0, hR0, hs0⟩ := h2.dropF hc.1 i (i : Int) rfl hle
  have HS0 := Lib.hid hR0
  clear hR0
  go_upto_if 20 with fail
  obtain ⟨j, hj⟩ : ∃ j, j = if ok then i + 1 else i := ⟨_, rfl⟩
  rw [← hj] at HW
  go_cut [7] (fun s7 wx => (∃ R rc, s7 = .slice R (fs.drop j).length rc ∧ SlS RFE w2 (fun g => S g ∧ g < w.heap.size) R (fs.drop j)) ∧ wx = w2)
  case first =>
    cases ok with
    | true =>
      have hlt := HLT.out rfl
      obtain rfl : j = i + 1 := hj
      obtain ⟨R1, hR1, hs1⟩ := h2.dropF hc.1 (i + 1) ((i : Int) + 1) (by omega) (by omega)
      have HS1 := Lib.hid hR1
      clear hR1
      go_wp2_with fail
      go_meet
      case rel => exact ⟨⟨_, _, by rw [List.length_drop], HS1.out⟩, rfl⟩
    | false =>
      obtain rfl : j = i := hj
      go_wp2_with fail
      go_meet
      case rel => exact ⟨⟨_, _, by rw [List.length_drop], HS0.out⟩, rfl⟩
  case rest =>
    obtain ⟨⟨R, rc, rfl, hRD⟩, hwc⟩ := hcut
    replace hwc := hwc.symm
    subst hwc
    have hjl : i ≤ j ∧ j ≤ i + 1 := by rw [hj]; split <;> omega
    clear hj HLT
    have hTk := h2.take i hle
    have hlen : (fs.take i).length = i := by rw [List.length_take]; omega
    have hld : (fs.drop j).length ≤ 1048575 := by rw [List.length_drop]; omega
    obtain ⟨us1, hr1, hfl1⟩ := hTk.parts
    have dE : Below w2.heap.size w2 (w2.alloc (.cells #[] 85)) := (Below.refl _ _).alloc (Nat.le_refl _) _
    have kE := Blk.new w2 85 #[]
    have oE : Own RFE 85 (w2.alloc (.cells #[] 85)) w2.heap.size (fun g => S g ∧ g < w.heap.size) (.slice (some ⟨w2.heap.size, 0, none⟩) 0 0) [] := Own.empty RFE kE (Nat.le_refl _)
    have hSb : ∀ g, (S g ∧ g < w.heap.size) → g < w2.heap.size := fun g h => by have := b02.size; omega
    have b0E := b02.trans (dE.mono b02.size)
    have hr1E : Reads (w2.alloc (.cells #[] 85)) (w2.alloc (.cells #[] 85)).heap.size 3 A (fs.take i).length us1 := (Reads.below hr1 dE).more dE.size
    have hfl1E := ER.flat_keep dE hfl1
    have a0E : (w2.alloc (.cells #[] 85)).cell? ⟨w.heap.size, 0, none⟩ = some (.slice A fs.length c) := (kA2.below dE kA2.lt).cell 0
    have hlE : ([] : List LRF).length + (fs.take i).length ≤ 1048577 := by rw [hlen]; show 0 + i ≤ _; omega
    have hw2 : w2.heap.size ≤ (w2.alloc (.cells #[] 85)).heap.size := dE.size
    rw [hlen] at hr1E
    have HHL := Lib.hid hlen
    clear hlen
    go_upto_region 6 with (at_builtin; refine wpList_appF w2.heap.size w _ rfl (.tmp 26) (.tmp 30) rfl (fun g => S g ∧ g < w.heap.size) hSb (some ⟨w2.heap.size, 0, none⟩) [] 0 rfl oE A (fs.take i) c (by rw [HHL.out]; rfl) us1 (by rw [HHL.out]; exact hr1E) hfl1E hlE b0E b02.size hw2 ?_; intro A5 c5 xs5 w5 H5 o5 b5 g5)
    have e5 : xs5 = fs.take i := H5.out
    have hl5 : xs5.length ≤ 1048575 := by rw [e5, HHL.out]; omega
    have kA5 := (kA2.below dE kA2.lt).grown g5 (fun e => by have h1 := Option.some.inj e; have h2 := kA2.lt; change w.heap.size = w2.heap.size at h1; omega)
    have kF5 := (kF2.below dE kF2.lt).grown g5 (fun e => by have h1 := Option.some.inj e; have h2 := kF2.lt; change w.heap.size + 1 = w2.heap.size at h1; omega)
    have kR5 := (kR2.below dE kR2.lt).grown g5 (fun e => by have h1 := Option.some.inj e; have h2 := kR2.lt; change w.heap.size + 1 + 1 = w2.heap.size at h1; omega)
    have hRD5 := (hRD.below dE).same (.of_grown g5 fun g hg e => by have h1 := Option.some.inj e; have h2 := hSb g hg; change w2.heap.size = g at h1; omega)
    have hf5 : FOk w5 (fun g => S g ∧ g < w.heap.size) P pc Q qc f := by
      have hfE := hf2.below dE
      have hsm : Same (fun g => S g ∧ g < w.heap.size) _ w5 := .of_grown g5 fun g hg e => by have h1 := Option.some.inj e; have h2 := hSb g hg; change w2.heap.size = g at h1; omega
      exact ⟨hfE.name, ⟨hfE.safe.1.sameS hfE.safe.2.1 hsm, hfE.safe.2⟩, ⟨hfE.tail.1.sameS hfE.tail.2.1 hsm, hfE.tail.2⟩⟩
    have s5 := b5.size
    have s25 : w2.heap.size ≤ w5.heap.size := by have := g5.size; have := dE.size; omega
    clear HS0 hs0 a0 kA2 kF2 kR2 h2 hf2 hTk hr1 hfl1 dE kE oE b0E hr1E hfl1E a0E hlE hw2 hRD
    have HX5 := Lib.hid e5
    clear e5 H5
    have d6 : Below w5.heap.size w5 (w5.alloc (.cells #[.string ⟨f.name.toArray⟩, .slice P f.safe.length pc, .slice Q f.tail.length qc] 85)) := (Below.refl _ _).alloc (Nat.le_refl _) _
    have hrN := Reads.newN w5 [.string ⟨f.name.toArray⟩, .slice P f.safe.length pc, .slice Q f.tail.length qc] 85
    have b6 := b5.trans (d6.mono s5)
    have o6 := o5.below d6
    have hrep6 : RFE.flat (w5.alloc (.cells #[.string ⟨f.name.toArray⟩, .slice P f.safe.length pc, .slice Q f.tail.length qc] 85)) (fun g => S g ∧ g < w.heap.size) [.string ⟨f.name.toArray⟩, .slice P f.safe.length pc, .slice Q f.tail.length qc] [f] := ER.flat_one_ ((hf5.below d6).rep)
    have s6 := d6.size
    have hl6 : xs5.length + [f].length ≤ 1048577 := by show xs5.length + 1 ≤ _; omega
    have hs6 : w2.heap.size ≤ (w5.alloc (.cells #[.string ⟨f.name.toArray⟩, .slice P f.safe.length pc, .slice Q f.tail.length qc] 85)).heap.size := by omega
    go_upto_region 7 with (first
      | ((with_reducible refine wpList_load_blk rfl 85 (.tmp 3) rfl (w.heap.size + 1) ?_ 85 _ _ kF5 Try.underlying85 ?_ Try.size_RF ?_ ?_); rfl; rfl; rfl)
      | (at_builtin; refine wpList_appF w2.heap.size w _ rfl (.tmp 32) (.tmp 34) rfl (fun g => S g ∧ g < w.heap.size) hSb A5 xs5 c5 rfl o6 (some ⟨w5.heap.size, 0, none⟩) [f] 1 rfl [.string ⟨f.name.toArray⟩, .slice P f.safe.length pc, .slice Q f.tail.length qc] (Reads.more hrN (by simp)) hrep6 hl6 b6 b02.size hs6 ?_; intro A7 c7 xs7 w7 H7 o7 b7 g7))
    have e7 : xs7 = fs.take i ++ [f] := by rw [H7.out, HX5.out]
    have hl7 : xs7.length ≤ 1048576 := by rw [e7, List.length_append]; have := HHL.out; show (fs.take i).length + 1 ≤ _; omega
    have hlt5 := Own.lt o6
    have kA7 := (kA5.below d6 kA5.lt).grown g7 (fun e => by have h1 := (hlt5 _ e.symm).1; omega)
    have kR7 := (kR5.below d6 kR5.lt).grown g7 (fun e => by have h1 := (hlt5 _ e.symm).1; have := Z1.out; omega)
    have hRD7 := (hRD5.below d6).same (.of_grown g7 fun g hg e => by have h1 := (hlt5 _ e).1; have h2 := hSb g hg; omega)
    obtain ⟨us3, hr3, hfl3⟩ := hRD7.parts
    have hlt7 := Own.lt o7
    have s7 := b7.size
    have hw7 : w2.heap.size ≤ w7.heap.size := by have := g7.size; omega
    have hl8 : xs7.length + (fs.drop j).length ≤ 1048577 := by rw [e7, List.length_append, List.length_drop]; have := HHL.out; show (fs.take i).length + 1 + _ ≤ _; omega
    have HX7 := Lib.hid e7
    have hdl := List.length_drop (i := j) (l := fs)
    have HDL := Lib.hid hdl
    clear e7 H7 kA5 kF5 kR5 hRD5 hf5 d6 hrN b6 o6 hrep6 s6 hl6 hs6 g7 hlt5 o5 hdl
    have key : ∀ w9, w7.grownBy w9 (Value.slice A7 xs7.length c7).ownBlock → Blk w9 w.heap.size 45 (rcs A c ⟨fs, room, armed, dead⟩) := fun w9 g9 => kA7.grown g9 (fun e => by have h1 := (hlt7 _ e.symm).1; omega)
    have KEY := Lib.hid key
    clear key
    go_upto_region 8 with (at_builtin; refine wpList_appF w2.heap.size w _ rfl (.tmp 36) (.tmp 37) rfl (fun g => S g ∧ g < w.heap.size) hSb A7 xs7 c7 rfl o7 R (fs.drop j) rc (by rw [HDL.out]; rfl) us3 hr3 hfl3 hl8 b7 b02.size hw7 ?_; intro A9 c9 xs9 w9 H9 o9 b9 g9; have kA9 := KEY.out _ g9; have a90 : w9.cell? ⟨w.heap.size, 0, none⟩ = some (.slice A fs.length c) := kA9.cell 0; have af9 : w9.frozen? ⟨w.heap.size, 0, none⟩ = false := kA9.frozen 0)
    have e9 : xs9 = withR fs f := by rw [H9.out, HX7.out, HW.out]
    have kR9 := kR7.grown g9 (fun e => by have h1 := (hlt7 _ e.symm).1; have := Z1.out; omega)
    have g10 : w9.grownBy (w9.setCell ⟨w.heap.size, 0, none⟩ (.slice A9 xs9.length c9)) (some w.heap.size) := only_setCell (World.grownBy.refl _ _) (p := ⟨w.heap.size, 0, none⟩) (.inl rfl) _
    have kA10 : Blk (w9.setCell ⟨w.heap.size, 0, none⟩ (.slice A9 xs9.length c9)) w.heap.size 45 (rcs A9 c9 ⟨xs9, room, armed, dead⟩) := kA9.set_ 0 (.slice A9 xs9.length c9)
    have kR10 := kR9.grown g10 (fun e => by have h1 := Option.some.inj e; omega)
    have hlt9 := Own.lt o9
    have hcp9 := Own.caps o9
    have o10 := o9.same g10 (.inr (fun e => by have h1 := (hlt9 _ e).1; omega)) (fun g hg e => by have h1 := Option.some.inj e; omega)
    have b10 : Below w.heap.size w (w9.setCell ⟨w.heap.size, 0, none⟩ (.slice A9 xs9.length c9)) := b9.grown g10 b9.size (fun j hj => by have := Option.some.inj hj; omega)
    have hl9 : xs9.length * 64 ≤ 140737488351232 := by rw [H9.out, List.length_append]; omega
    have HX9 := Lib.hid e9
    have HC9 := Lib.hid hcp9
    have HL9 := Lib.hid hl9
    clear a90 af9 kA9 kR9 g9 g10 e9 H9 hlt9 hcp9 hl9 o9 kA7 kR7 hRD7 hr3 hfl3 hlt7 o7 b9
    generalize (w9.setCell ⟨w.heap.size, 0, none⟩ (.slice A9 xs9.length c9)) = w10 at *
    go_wp2_with (first
      | ((with_reducible refine wpList_load_blk rfl 45 (.tmp 2) rfl w.heap.size ?_ 45 _ _ kA10 Try.underlying45 ?_ Try.size_RD ?_ ?_); rfl; rfl; rfl)
      | ((with_reducible refine wpList_store_blk rfl 45 (.tmp 4) (.tmp 40) rfl (w.heap.size + 1 + 1) 45 _ (rcs A9 c9 ⟨xs9, room, armed, dead⟩) ?_ ?_ kR10 Try.size_RD ?_ ?_ ?_ ?_); rfl; rfl; rfl; rfl; (simp [rcs, Value.oneCell']); intro w12 kz12 g12 z12))
    have o12 := o10.same g12 (.inr (fun e => by have h1 := (o10.lt _ e).1; have := Z1.out; omega)) (fun g hg e => by have h1 := Option.some.inj e; omega)
    have b12 := b10.grown g12 b10.size (fun j hj => by have := Option.some.inj hj; omega)
    refine bodyPost_ret (results_cell rfl rfl kz12 Try.underlying45 rfl Try.size_RD) rfl (by
      have hS := o12.slS (S' := fun g => S g ∨ w.heap.size ≤ g) rfl HL9.out (fun g h => .inl h.1) (fun g h => .inr (by have := b02.size; omega))
      have e := HX9.out
      have hc := HC9.out
      subst e
      exact ⟨A9, c9, rfl, hS, hc.1, hc.2, b12⟩)
end Go.Proofs.Ytnhonjgclbmheaa
