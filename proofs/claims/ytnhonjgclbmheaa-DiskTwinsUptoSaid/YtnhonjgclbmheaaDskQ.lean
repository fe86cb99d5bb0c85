/- The disk and the document's disk do the same: plain words. -/
import Derived.Test.YtnhonjgclbmheaaRdK
namespace Go.Proofs.Ytnhonjgclbmheaa

/-- names rise strictly -/
def Ris (fs : List LRF) : Prop := fs.Pairwise (fun a b => a.name < b.name)
theorem ris_nodup {fs : List LRF} (h : Ris fs) : (fs.map LRF.name).Nodup := by
  unfold List.Nodup
  rw [List.pairwise_map]
  exact h.imp fun h e => by rw [e] at h; exact List.lt_irrefl _ h
theorem map_p_names (fs : List LRF) : (fs.map LRF.p).map (·.1) = fs.map LRF.name := by rw [List.map_map]; rfl
theorem findR_gt {fs : List LRF} {nm : List UInt8} (h : ∀ f ∈ fs, nm < f.name) : findR fs nm = (0, false) := by
  cases fs with
  | nil => rfl
  | cons f r =>
    have h1 := h f (List.mem_cons_self ..)
    unfold findR
    rw [if_neg (fun e => by rw [e] at h1; exact List.lt_irrefl _ h1), if_pos h1]
/-- what findR tells of rising names -/
theorem findR_spec {fs : List LRF} {nm : List UInt8} (h : Ris fs) : fs.take (findR fs nm).1 = fs.filter (fun f => decide (f.name < nm)) ∧
    fs.drop (if (findR fs nm).2 then (findR fs nm).1 + 1 else (findR fs nm).1) = fs.filter (fun f => decide (nm < f.name)) ∧
    ((findR fs nm).2 = true ↔ nm ∈ fs.map LRF.name) ∧ ∀ f ∈ fs, f.name = nm → fs[(findR fs nm).1]? = some f := by
  induction fs with
  | nil => exact ⟨rfl, rfl, by simp [findR], fun _ h => by cases h⟩
  | cons x r ih =>
    have hx := List.pairwise_cons.1 h
    have ih := ih hx.2
    unfold findR
    by_cases e : x.name = nm
    · rw [if_pos e]
      have hgt : ∀ f ∈ r, nm < f.name := fun f hf => by rw [← e]; exact hx.1 f hf
      refine ⟨?_, ?_, ⟨fun _ => by rw [← e]; exact List.mem_cons_self .., fun _ => rfl⟩, ?_⟩
      · show [] = _
        symm
        rw [List.filter_eq_nil_iff]
        intro f hf
        rw [decide_eq_true_iff]
        rcases List.mem_cons.1 hf with rfl | hf
        · rw [e]; exact List.lt_irrefl _
        · exact fun h2 => List.lt_irrefl _ (List.lt_trans h2 (hgt f hf))
      · show r = _
        rw [List.filter_cons_of_neg (by rw [decide_eq_true_iff, e]; exact List.lt_irrefl _)]
        symm
        rw [List.filter_eq_self]
        exact fun f hf => by rw [decide_eq_true_iff]; exact hgt f hf
      · intro f hf hn
        rcases List.mem_cons.1 hf with rfl | hf
        · rfl
        · have := hgt f hf; rw [hn] at this; exact absurd this (List.lt_irrefl _)
    · rw [if_neg e]
      by_cases h2 : nm < x.name
      · rw [if_pos h2]
        have hgt : ∀ f ∈ x :: r, nm < f.name := fun f hf => by
          rcases List.mem_cons.1 hf with rfl | hf
          · exact h2
          · exact List.lt_trans h2 (hx.1 f hf)
        refine ⟨?_, ?_, ⟨(fun h => by cases h), fun h => ?_⟩, ?_⟩
        · show [] = _
          symm
          rw [List.filter_eq_nil_iff]
          intro f hf
          rw [decide_eq_true_iff]
          exact fun h3 => List.lt_irrefl _ (List.lt_trans h3 (hgt f hf))
        · show x :: r = _
          symm
          rw [List.filter_eq_self]
          exact fun f hf => by rw [decide_eq_true_iff]; exact hgt f hf
        · obtain ⟨f, hf, rfl⟩ := List.mem_map.1 h
          exact absurd (hgt f hf) (List.lt_irrefl _)
        · intro f hf hn
          have := hgt f hf; rw [hn] at this; exact absurd this (List.lt_irrefl _)
      · rw [if_neg h2]
        have hlt : x.name < nm := by
          rcases List.le_total x.name nm with h3 | h3
          · exact Classical.byContradiction fun h4 => e (List.le_antisymm h3 (List.not_lt.1 h4))
          · exact absurd (List.le_antisymm (List.not_lt.1 h2) h3) e
        obtain ⟨i1, i2, i3, i4⟩ := ih
        refine ⟨?_, ?_, ?_, ?_⟩
        · show x :: r.take (findR r nm).1 = _
          rw [List.filter_cons_of_pos (by rw [decide_eq_true_iff]; exact hlt), i1]
        · rw [List.filter_cons_of_neg (by rw [decide_eq_true_iff]; exact h2), ← i2]
          show (x :: r).drop (if (findR r nm).2 then (findR r nm).1 + 1 + 1 else (findR r nm).1 + 1) = _
          cases (findR r nm).2 <;> rfl
        · show (findR r nm).2 = true ↔ nm ∈ x.name :: r.map LRF.name
          rw [i3, List.mem_cons]
          exact ⟨.inr, fun h => h.resolve_left (fun h => e h.symm)⟩
        · intro f hf hn
          show (x :: r)[(findR r nm).1 + 1]? = some f
          rcases List.mem_cons.1 hf with rfl | hf
          · exact absurd hn e
          · rw [List.getElem?_cons_succ]
            exact i4 f hf hn
theorem withR_eq {fs : List LRF} (h : Ris fs) (f : LRF) : withR fs f = fs.filter (fun x => decide (x.name < f.name)) ++ [f] ++ fs.filter (fun x => decide (f.name < x.name)) := by
  obtain ⟨h1, h2, _⟩ := findR_spec (nm := f.name) h
  unfold withR
  rw [h1, h2]
theorem split3 (fs : List LRF) (nm : List UInt8) : (fs.filter (fun x => decide (x.name < nm)) ++ fs.filter (fun x => decide (nm < x.name))).Perm (fs.filter (fun x => x.name != nm)) := by
  induction fs with
  | nil => exact List.Perm.refl _
  | cons x r ih =>
    rcases (show x.name < nm ∨ x.name = nm ∨ nm < x.name from by
      by_cases h1 : x.name < nm
      · exact .inl h1
      · by_cases h2 : nm < x.name
        · exact .inr (.inr h2)
        · exact .inr (.inl (List.le_antisymm (List.not_lt.1 h2) (List.not_lt.1 h1)))) with h | h | h
    · have hn : ¬ nm < x.name := fun h2 => List.lt_irrefl _ (List.lt_trans h h2)
      have hne : x.name ≠ nm := fun e => by rw [e] at h; exact List.lt_irrefl _ h
      rw [List.filter_cons_of_pos (by rw [decide_eq_true_iff]; exact h), List.filter_cons_of_neg (by rw [decide_eq_true_iff]; exact hn), List.filter_cons_of_pos (by rw [bne_iff_ne]; exact hne)]
      exact ih.cons x
    · rw [List.filter_cons_of_neg (by rw [decide_eq_true_iff, h]; exact List.lt_irrefl _), List.filter_cons_of_neg (by rw [decide_eq_true_iff, h]; exact List.lt_irrefl _), List.filter_cons_of_neg (by rw [bne_iff_ne]; exact fun h2 => h2 h)]
      exact ih
    · have hn : ¬ x.name < nm := fun h2 => List.lt_irrefl _ (List.lt_trans h h2)
      have hne : x.name ≠ nm := fun e => by rw [e] at h; exact List.lt_irrefl _ h
      rw [List.filter_cons_of_neg (by rw [decide_eq_true_iff]; exact hn), List.filter_cons_of_pos (by rw [decide_eq_true_iff]; exact h), List.filter_cons_of_pos (by rw [bne_iff_ne]; exact hne)]
      exact List.perm_middle.trans (ih.cons x)
theorem outR_eq {fs : List LRF} (h : Ris fs) (nm : List UInt8) : outR fs nm = fs.filter (fun x => decide (x.name < nm)) ++ fs.filter (fun x => decide (nm < x.name)) := by
  obtain ⟨h1, h2, h3, _⟩ := findR_spec (nm := nm) h
  unfold outR
  by_cases hf : (findR fs nm).2 = true
  · rw [if_pos hf] at h2 ⊢
    rw [h1, h2]
  · rw [if_neg hf] at h2 ⊢
    rw [← h1, ← h2, List.take_append_drop]
theorem ris_with {fs : List LRF} (h : Ris fs) (f : LRF) : Ris (withR fs f) := by
  rw [withR_eq h]
  unfold Ris at *
  rw [List.append_assoc, List.pairwise_append]
  refine ⟨h.sublist (List.filter_sublist ..), ?_, ?_⟩
  · rw [List.singleton_append, List.pairwise_cons]
    exact ⟨fun x hx => of_decide_eq_true (List.mem_filter.1 hx).2, h.sublist (List.filter_sublist ..)⟩
  · intro a ha b hb
    have h1 := of_decide_eq_true (List.mem_filter.1 ha).2
    rw [List.singleton_append] at hb
    rcases List.mem_cons.1 hb with rfl | hb
    · exact h1
    · exact List.lt_trans h1 (of_decide_eq_true (List.mem_filter.1 hb).2)
theorem ris_out {fs : List LRF} (h : Ris fs) (nm : List UInt8) : Ris (outR fs nm) := by
  rw [outR_eq h]
  unfold Ris at *
  rw [List.pairwise_append]
  exact ⟨h.sublist (List.filter_sublist ..), h.sublist (List.filter_sublist ..), fun a ha b hb => List.lt_trans (of_decide_eq_true (List.mem_filter.1 ha).2) (of_decide_eq_true (List.mem_filter.1 hb).2)⟩
theorem delP_p (fs : List LRF) (nm : List UInt8) : (fs.filter (fun x => x.name != nm)).map LRF.p = delP (fs.map LRF.p) nm := by
  unfold delP
  rw [List.filter_map]
  rfl
theorem out_perm {fs : List LRF} (h : Ris fs) (nm : List UInt8) : ((outR fs nm).map LRF.p).Perm (delP (fs.map LRF.p) nm) := by
  rw [outR_eq h, ← delP_p]
  exact (split3 fs nm).map _
theorem with_perm {fs : List LRF} (h : Ris fs) (f : LRF) : ((withR fs f).map LRF.p).Perm (putP (fs.map LRF.p) f.p) := by
  rw [withR_eq h]
  show List.Perm _ (f.p :: delP (fs.map LRF.p) f.name)
  rw [← delP_p, List.append_assoc, List.singleton_append]
  refine (List.perm_middle.map LRF.p).trans ?_
  rw [List.map_cons]
  exact ((split3 fs f.name).map LRF.p).cons _
theorem delP_perm {ps qs : List PFile} (h : ps.Perm qs) (k : List UInt8) : (delP ps k).Perm (delP qs k) := h.filter _
theorem putP_perm {ps qs : List PFile} (h : ps.Perm qs) (q : PFile) : (putP ps q).Perm (putP qs q) := (delP_perm h q.1).cons q
theorem usedP_perm {ps qs : List PFile} (h : ps.Perm qs) : usedP ps = usedP qs := (h.map _).sum_nat
theorem hasP_perm {ps qs : List PFile} (h : ps.Perm qs) (k : List UInt8) : hasP ps k = hasP qs k := by
  unfold hasP
  rw [Bool.eq_iff_iff, List.any_eq_true, List.any_eq_true]
  exact ⟨fun ⟨x, h1, h2⟩ => ⟨x, h.mem_iff.1 h1, h2⟩, fun ⟨x, h1, h2⟩ => ⟨x, h.mem_iff.2 h1, h2⟩⟩
theorem find_mem {ps : List PFile} (hn : (ps.map (·.1)).Nodup) {q : PFile} (hq : q ∈ ps) : ps.find? (fun r => r.1 == q.1) = some q := by
  induction ps with
  | nil => cases hq
  | cons x r ih =>
    rw [List.map_cons, List.nodup_cons] at hn
    rcases List.mem_cons.1 hq with rfl | hq
    · rw [List.find?_cons_of_pos (by simp)]
    · have hne : x.1 ≠ q.1 := fun e => hn.1 (by rw [e]; exact List.mem_map_of_mem hq)
      rw [List.find?_cons_of_neg (by simp [hne])]
      exact ih hn.2 hq
theorem find_none {ps : List PFile} {k : List UInt8} (h : k ∉ ps.map (·.1)) : ps.find? (fun r => r.1 == k) = none := by
  rw [List.find?_eq_none]
  intro x hx e
  rw [beq_iff_eq] at e
  exact h (by rw [← e]; exact List.mem_map_of_mem hx)
theorem find_perm {ps qs : List PFile} (h : ps.Perm qs) (hn : (ps.map (·.1)).Nodup) (k : List UInt8) : ps.find? (fun r => r.1 == k) = qs.find? (fun r => r.1 == k) := by
  have hn2 : (qs.map (·.1)).Nodup := (h.map _).nodup_iff.1 hn
  by_cases hk : k ∈ ps.map (·.1)
  · obtain ⟨q, hq, rfl⟩ := List.mem_map.1 hk
    rw [find_mem hn hq, find_mem hn2 (h.mem_iff.1 hq)]
  · rw [find_none hk, find_none (fun h2 => hk ((h.map _).mem_iff.2 h2))]
/-- what stands under a name in the document's disk -/
theorem getR_find {fs : List LRF} (h : Ris fs) (nm : List UInt8) : (fs.map LRF.p).find? (fun r => r.1 == nm) = if (getR fs nm).2 then some (getR fs nm).1.p else none := by
  obtain ⟨_, _, h3, h4⟩ := findR_spec (nm := nm) h
  unfold getR
  by_cases hf : (findR fs nm).2 = true
  · rw [if_pos hf]
    obtain ⟨f, hf2, rfl⟩ := List.mem_map.1 (h3.1 hf)
    have h5 := h4 f hf2 rfl
    have e : fs.getD (findR fs f.name).1 ⟨f.name, [], []⟩ = f := by rw [List.getD_eq_getElem?_getD, h5]; rfl
    rw [e, if_pos rfl]
    exact find_mem (q := f.p) (by rw [map_p_names]; exact ris_nodup h) (List.mem_map_of_mem hf2)
  · rw [if_neg hf, if_neg (show ¬ (false = true) by decide)]
    exact find_none (by rw [map_p_names]; exact fun h2 => hf (h3.2 h2))
theorem getR_name {fs : List LRF} (h : Ris fs) (nm : List UInt8) : (getR fs nm).1.name = nm := by
  obtain ⟨_, _, h3, h4⟩ := findR_spec (nm := nm) h
  unfold getR
  by_cases hf : (findR fs nm).2 = true
  · rw [if_pos hf]
    obtain ⟨f, hf2, rfl⟩ := List.mem_map.1 (h3.1 hf)
    have h5 := h4 f hf2 rfl
    rw [List.getD_eq_getElem?_getD, h5]
    rfl
  · rw [if_neg hf]
theorem getR_not {fs : List LRF} {nm : List UInt8} (h : (getR fs nm).2 = false) : (getR fs nm).1 = ⟨nm, [], []⟩ := by
  unfold getR at h ⊢
  split at h
  · cases h
  · rename_i h2
    rw [if_neg h2]
/-- the disk d with the files ps is the document's disk W -/
structure Rel (d : LDisk) (ps : List PFile) (W : LRD) : Prop where
  perm : ps.Perm (W.files.map LRF.p)
  ris : Ris W.files
  room : d.room = W.room
  dead : d.dead = W.dead
  armed : d.dead = false → W.armed = if d.armed then d.left else -1
  left : d.armed = true → 0 ≤ d.left ∧ d.left ≤ 9223372036854775807
  rarm : -1 ≤ W.armed ∧ W.armed ≤ 9223372036854775807
section
variable {d : LDisk} {ps : List PFile} {W : LRD}
theorem Rel.nodup (h : Rel d ps W) : (ps.map (·.1)).Nodup := by
  rw [(h.perm.map _).nodup_iff, map_p_names]
  exact ris_nodup h.ris
theorem Rel.used (h : Rel d ps W) : usedP ps = usedR W.files := by
  rw [usedP_perm h.perm]
  unfold usedP usedR
  rw [List.map_map]
  congr 1
  refine List.map_congr_left fun f _ => ?_
  show (f.safe ++ f.tail).length = _
  rw [List.length_append]
theorem Rel.len (h : Rel d ps W) : ps.length = W.files.length := by rw [h.perm.length_eq, List.length_map]
theorem Rel.find (h : Rel d ps W) (nm : List UInt8) : ps.find? (fun r => r.1 == nm) = if (getR W.files nm).2 then some (getR W.files nm).1.p else none := by
  rw [find_perm h.perm h.nodup, getR_find h.ris]
theorem Rel.get (h : Rel d ps W) (nm : List UInt8) : getP ps nm = ((getR W.files nm).1.safe ++ (getR W.files nm).1.tail, (getR W.files nm).1.safe.length) := by
  unfold getP
  rw [h.find]
  cases hb : (getR W.files nm).2 with
  | true => rfl
  | false => rw [getR_not hb]; rfl
theorem Rel.has (h : Rel d ps W) (nm : List UInt8) : hasP ps nm = (getR W.files nm).2 := by
  have h1 : hasP ps nm = (ps.find? (fun r => r.1 == nm)).isSome := by
    unfold hasP
    rw [Bool.eq_iff_iff, List.any_eq_true, List.find?_isSome]
  rw [h1, h.find]
  cases (getR W.files nm).2 <;> rfl
theorem Rel.read (h : Rel d ps W) (nm : List UInt8) : readP d ps nm = readR W nm := by
  unfold readP readR
  rw [h.dead, h.find]
  cases W.dead
  · cases (getR W.files nm).2 <;> rfl
  · rfl
theorem Rel.list (h : Rel d ps W) (p : List UInt8) : listP d ps p = listR W p := by
  unfold listP listR
  rw [h.dead]
  have e : sortN (ps.map (·.1)) = W.files.map LRF.name := by
    have h1 : (ps.map (·.1)).Perm (W.files.map LRF.name) := by rw [← map_p_names]; exact h.perm.map _
    rw [sortN_eq h1]
    refine sortN_of ?_
    rw [List.pairwise_map]
    exact h.ris.imp fun h2 => List.le_of_lt h2
  rw [e]
/-- a call's turn -/
theorem Rel.turn (h : Rel d ps W) (e : Int) : (turnL d e).1 = (mayR W e).2.1 ∧ (turnL d e).2.1 = (mayR W e).2.2.1 ∧ ((mayR W e).2.2.2 = ((turnL d e).2.2.dead && !d.dead)) ∧ Rel (turnL d e).2.2 ps (mayR W e).1 := by
  obtain ⟨h1, h2, h3, h4, h5, h6, h7⟩ := h
  obtain ⟨room, armed, left, dead⟩ := d
  obtain ⟨fs, room2, armed2, dead2⟩ := W
  obtain rfl : room = room2 := h3
  obtain rfl : dead = dead2 := h4
  replace h5 : dead = false → armed2 = if armed then left else -1 := h5
  replace h6 : armed = true → 0 ≤ left ∧ left ≤ 9223372036854775807 := h6
  replace h7 : -1 ≤ armed2 ∧ armed2 ≤ 9223372036854775807 := h7
  unfold turnL mayR
  cases dead with
  | true => exact ⟨rfl, rfl, rfl, ⟨h1, h2, rfl, rfl, (fun h => by cases h), h6, h7⟩⟩
  | false =>
    rw [if_neg (show ¬ (false = true) by decide), if_neg (show ¬ (false = true) by decide)]
    by_cases he : e ≠ 0
    · rw [if_pos he, if_pos he]
      exact ⟨rfl, rfl, rfl, ⟨h1, h2, rfl, rfl, h5, h6, h7⟩⟩
    · rw [if_neg he, if_neg he]
      have ha := h5 rfl
      cases armed with
      | false =>
        obtain rfl : armed2 = -1 := ha
        exact ⟨rfl, rfl, rfl, ⟨h1, h2, rfl, rfl, h5, h6, h7⟩⟩
      | true =>
        obtain rfl : armed2 = left := ha
        obtain ⟨h8, h9⟩ := h6 rfl
        by_cases hz : armed2 = 0
        · subst hz
          exact ⟨rfl, rfl, rfl, ⟨h1, h2, rfl, rfl, (fun h => by cases h), fun _ => ⟨by show (0 : Int) ≤ 0; decide, by show (0 : Int) ≤ 9223372036854775807; decide⟩, h7⟩⟩
        · rw [if_neg (show ¬ ((true && decide (armed2 = 0)) = true) by simp [hz]), if_pos rfl]
          show _ ∧ _ ∧ _ ∧ _
          have e1 : (if (⟨fs, room, armed2, false⟩ : LRD).armed = 0 then ((⟨fs, room, armed2, true⟩ : LRD), false, (9 : Int), true) else if 0 < (⟨fs, room, armed2, false⟩ : LRD).armed then (⟨fs, room, armed2 - 1, false⟩, true, 0, false) else (⟨fs, room, armed2, false⟩, true, 0, false)) = (⟨fs, room, armed2 - 1, false⟩, true, 0, false) := by
            rw [if_neg (by show ¬ armed2 = 0; exact hz), if_pos (by show 0 < armed2; omega)]
          rw [e1]
          exact ⟨rfl, rfl, rfl, ⟨h1, h2, rfl, rfl, fun _ => rfl, fun _ => ⟨by show 0 ≤ armed2 - 1; omega, by show armed2 - 1 ≤ _; omega⟩, ⟨by show -1 ≤ armed2 - 1; omega, by show armed2 - 1 ≤ _; omega⟩⟩⟩
theorem Rel.files {ps' : List PFile} {fs' : List LRF} (h : Rel d ps W) (hp : ps'.Perm (fs'.map LRF.p)) (hr : Ris fs') : Rel d ps' { W with files := fs' } := ⟨hp, hr, h.room, h.dead, h.armed, h.left, h.rarm⟩
theorem Rel.with_ {q : PFile} {f : LRF} (h : Rel d ps W) (hq : q = f.p) : Rel d (putP ps q) { W with files := withR W.files f } := by
  subst hq
  exact h.files ((putP_perm h.perm _).trans (with_perm h.ris f).symm) (ris_with h.ris f)
theorem Rel.out_ (h : Rel d ps W) (nm : List UInt8) : Rel d (delP ps nm) { W with files := outR W.files nm } :=
  h.files ((delP_perm h.perm _).trans (out_perm h.ris nm).symm) (ris_out h.ris nm)
end
theorem mayR_f (W : LRD) (e : Int) : (mayR W e).1.files = W.files := (mayR_files W e).1
/-- Append -/
theorem Rel.app {d : LDisk} {ps : List PFile} {W : LRD} (h : Rel d ps W) (nm x : List UInt8) : (appP d ps nm x).1 = (appR W nm x).2 ∧ Rel (appP d ps nm x).2.1 (appP d ps nm x).2.2 (appR W nm x).1 := by
  have e0 : (if d.room - (usedP ps : Int) < (x.length : Int) then (8 : Int) else 0) = appE W x := by unfold appE; rw [h.room, h.used]
  unfold appP appR
  rw [e0]
  obtain ⟨t1, t2, t3, t4⟩ := h.turn (appE W x)
  have hf := mayR_f W (appE W x)
  dsimp only
  rw [t1, ← t3, t2]
  by_cases hb : ((mayR W (appE W x)).2.1 || (mayR W (appE W x)).2.2.2) = true
  · rw [if_pos hb, if_pos hb]
    refine ⟨rfl, ?_⟩
    have hg := t4.get nm
    have hn := getR_name t4.ris nm
    refine t4.with_ ?_
    rw [hg]
    show (nm, ((getR (mayR W (appE W x)).1.files nm).1.safe ++ (getR (mayR W (appE W x)).1.files nm).1.tail) ++ x, _) = ((getR (mayR W (appE W x)).1.files nm).1.name, (getR (mayR W (appE W x)).1.files nm).1.safe ++ ((getR (mayR W (appE W x)).1.files nm).1.tail ++ x), _)
    rw [hn, List.append_assoc]
  · rw [if_neg hb, if_neg hb]
    exact ⟨rfl, t4⟩
theorem turnE_not4 {W : LRD} {kind : Int} {nm : List UInt8} {size : Int} (h : kind ≠ 4) : turnE W kind nm size = if (getR W.files nm).2 then 0 else 6 := by
  unfold turnE
  rw [if_neg (fun h2 => h h2.1)]
theorem turnF_1 (fs : List LRF) (nm tn : List UInt8) (size : Int) : turnF fs 1 nm tn size = withR fs ⟨nm, (getR fs nm).1.safe ++ (getR fs nm).1.tail, []⟩ := by unfold turnF; rw [if_pos rfl]
theorem turnF_2 (fs : List LRF) (nm tn : List UInt8) (size : Int) : turnF fs 2 nm tn size = withR (outR fs nm) ⟨tn, (getR fs nm).1.safe, (getR fs nm).1.tail⟩ := by unfold turnF; rw [if_neg (show ¬ (2 : Int) = 1 by decide), if_pos rfl]
theorem turnF_3 (fs : List LRF) (nm tn : List UInt8) (size : Int) : turnF fs 3 nm tn size = outR fs nm := by unfold turnF; rw [if_neg (show ¬ (3 : Int) = 1 by decide), if_neg (show ¬ (3 : Int) = 2 by decide), if_pos rfl]
theorem turnF_4 (fs : List LRF) (nm tn : List UInt8) (size : Int) : turnF fs 4 nm tn size = withR fs ⟨nm, ((getR fs nm).1.safe ++ (getR fs nm).1.tail).take size.toNat, []⟩ := by unfold turnF; rw [if_neg (show ¬ (4 : Int) = 1 by decide), if_neg (show ¬ (4 : Int) = 2 by decide), if_neg (show ¬ (4 : Int) = 3 by decide), if_pos rfl]
section
variable {d : LDisk} {ps : List PFile} {W : LRD}
theorem Rel.there (h : Rel d ps W) (nm : List UInt8) : (if hasP ps nm then (0 : Int) else 6) = if (getR W.files nm).2 then 0 else 6 := by rw [h.has]
/-- Sync -/
theorem Rel.sync (h : Rel d ps W) (nm tn : List UInt8) (size : Int) : (syncP d ps nm).1 = (turnR W 1 nm tn size).2 ∧ Rel (syncP d ps nm).2.1 (syncP d ps nm).2.2 (turnR W 1 nm tn size).1 := by
  unfold syncP turnR
  rw [turnE_not4 (by decide), ← h.there]
  obtain ⟨t1, t2, t3, t4⟩ := h.turn (if hasP ps nm then (0 : Int) else 6)
  dsimp only
  rw [t1, t2]
  by_cases hb : (mayR W (if hasP ps nm then (0 : Int) else 6)).2.1 = true
  · rw [if_pos hb, if_pos hb]
    refine ⟨rfl, ?_⟩
    have hg := t4.get nm
    rw [turnF_1]
    refine t4.with_ ?_
    rw [hg]
    show (nm, (_ ++ _), (_ ++ _ : List UInt8).length) = (nm, (_ ++ _) ++ [], _)
    rw [List.append_nil]
  · rw [if_neg hb, if_neg hb]
    exact ⟨rfl, t4⟩
/-- Remove -/
theorem Rel.remove (h : Rel d ps W) (nm tn : List UInt8) (size : Int) : (removeP d ps nm).1 = (turnR W 3 nm tn size).2 ∧ Rel (removeP d ps nm).2.1 (removeP d ps nm).2.2 (turnR W 3 nm tn size).1 := by
  unfold removeP turnR
  rw [turnE_not4 (by decide), ← h.there]
  obtain ⟨t1, t2, t3, t4⟩ := h.turn (if hasP ps nm then (0 : Int) else 6)
  dsimp only
  rw [t1, t2]
  by_cases hb : (mayR W (if hasP ps nm then (0 : Int) else 6)).2.1 = true
  · rw [if_pos hb, if_pos hb]
    refine ⟨rfl, ?_⟩
    rw [turnF_3]
    exact t4.out_ nm
  · rw [if_neg hb, if_neg hb]
    exact ⟨rfl, t4⟩
theorem delP_self {ps : List PFile} {q : PFile} (hn : (ps.map (·.1)).Nodup) (hq : q ∈ ps) : (putP ps q).Perm ps := by
  unfold putP
  induction ps with
  | nil => cases hq
  | cons x r ih =>
    rw [List.map_cons, List.nodup_cons] at hn
    rcases List.mem_cons.1 hq with rfl | hq
    · have h1 : delP (q :: r) q.1 = r := by
        unfold delP
        rw [List.filter_cons_of_neg (by simp), List.filter_eq_self]
        intro y hy
        rw [bne_iff_ne]
        exact fun e => hn.1 (by rw [← e]; exact List.mem_map_of_mem hy)
      rw [h1]
    · have hne : x.1 ≠ q.1 := fun e => hn.1 (by rw [e]; exact List.mem_map_of_mem hq)
      have h1 : delP (x :: r) q.1 = x :: delP r q.1 := by
        unfold delP
        rw [List.filter_cons_of_pos (by rw [bne_iff_ne]; exact hne)]
      rw [h1]
      exact (List.Perm.swap _ _ _).trans ((ih hn.2 hq).cons x)
theorem turn_there {W : LRD} {nm : List UInt8} (h : (mayR W (if (getR W.files nm).2 then (0 : Int) else 6)).2.1 = true) : (getR W.files nm).2 = true := by
  have := mayR_ok h
  cases hb : (getR W.files nm).2 with
  | true => rfl
  | false => rw [hb] at this; cases this
/-- Rename -/
theorem Rel.rename (h : Rel d ps W) (nm tn : List UInt8) (size : Int) : (renameP d ps nm tn).1 = (turnR W 2 nm tn size).2 ∧ Rel (renameP d ps nm tn).2.1 (renameP d ps nm tn).2.2 (turnR W 2 nm tn size).1 := by
  unfold renameP turnR
  rw [turnE_not4 (by decide), h.there]
  obtain ⟨t1, t2, t3, t4⟩ := h.turn (if (getR W.files nm).2 then (0 : Int) else 6)
  have hf := mayR_f W (if (getR W.files nm).2 then (0 : Int) else 6)
  have ht := turn_there (W := W) (nm := nm)
  dsimp only
  rw [t1, t2]
  generalize mayR W (if (getR W.files nm).2 then (0 : Int) else 6) = r at *
  by_cases hb : r.2.1 = true
  · rw [if_pos hb, if_pos hb]
    refine ⟨rfl, ?_⟩
    have hth := ht hb
    rw [← hf] at hth
    have hg := t4.get nm
    have hn := getR_name t4.ris nm
    have hfi := t4.find nm
    rw [hth, if_pos rfl] at hfi
    have hmem := List.mem_of_find?_eq_some hfi
    rw [turnF_2]
    have hris := ris_with (ris_out t4.ris nm) ⟨tn, (getR r.1.files nm).1.safe, (getR r.1.files nm).1.tail⟩
    refine t4.files ?_ hris
    refine List.Perm.trans ?_ (with_perm (ris_out t4.ris nm) _).symm
    have hop : (delP ps nm).Perm ((outR r.1.files nm).map LRF.p) := (delP_perm t4.perm nm).trans (out_perm t4.ris nm).symm
    by_cases he : nm = tn
    · subst he
      rw [if_pos rfl]
      have e1 : LRF.p ⟨nm, (getR r.1.files nm).1.safe, (getR r.1.files nm).1.tail⟩ = (getR r.1.files nm).1.p := by unfold LRF.p; rw [hn]
      rw [e1]
      refine (delP_self t4.nodup hmem).symm.trans ?_
      unfold putP
      refine List.Perm.cons _ ?_
      have e2 : (getR r.1.files nm).1.p.1 = nm := hn
      rw [e2]
      have e3 : delP ps nm = delP (delP ps nm) nm := by unfold delP; rw [List.filter_filter]; simp
      rw [e3]
      exact delP_perm hop nm
    · rw [if_neg he, hg]
      have e1 : delP (putP ps (tn, (getR r.1.files nm).1.safe ++ (getR r.1.files nm).1.tail, (getR r.1.files nm).1.safe.length)) nm = putP (delP ps nm) (LRF.p ⟨tn, (getR r.1.files nm).1.safe, (getR r.1.files nm).1.tail⟩) := by
        unfold delP putP delP
        rw [List.filter_cons_of_pos (by rw [bne_iff_ne]; exact fun e => he e.symm), List.filter_filter, List.filter_filter]
        congr 1
        refine List.filter_congr fun x _ => ?_
        rw [Bool.and_comm]
        rfl
      rw [e1]
      exact putP_perm hop _
  · rw [if_neg hb, if_neg hb]
    exact ⟨rfl, t4⟩
/-- Cut -/
theorem Rel.cut (h : Rel d ps W) (nm tn : List UInt8) (size : Int) : (cutP d ps nm size).1 = (turnR W 4 nm tn size).2 ∧ Rel (cutP d ps nm size).2.1 (cutP d ps nm size).2.2 (turnR W 4 nm tn size).1 := by
  have e : cutE ps nm size = turnE W 4 nm size := by
    unfold cutE turnE
    rw [h.has, h.get]
    simp only [true_and]
  unfold cutP turnR
  rw [e]
  obtain ⟨t1, t2, t3, t4⟩ := h.turn (turnE W 4 nm size)
  have hsz : (mayR W (turnE W 4 nm size)).2.1 = true → size.toNat ≤ ((getP ps nm).1).length := fun hb => by
    have h1 := cutE_zero (e.trans (mayR_ok hb))
    omega
  dsimp only
  rw [t1, t2]
  by_cases hb : (mayR W (turnE W 4 nm size)).2.1 = true
  · rw [if_pos hb, if_pos hb]
    refine ⟨rfl, ?_⟩
    have hg := t4.get nm
    have hle := hsz hb
    rw [turnF_4]
    refine t4.with_ ?_
    rw [hg] at hle ⊢
    show (nm, _, size.toNat) = (nm, (List.take size.toNat _) ++ [], (List.take size.toNat _).length)
    rw [List.append_nil, List.length_take, Nat.min_eq_left hle]
  · rw [if_neg hb, if_neg hb]
    exact ⟨rfl, t4⟩
/-- Arm -/
theorem Rel.arm (h : Rel d ps W) (n : Int) (hn : n ≤ 9223372036854775807) : Rel { d with armed := decide (0 ≤ n), left := n } ps (armR W n) := by
  obtain ⟨h1, h2, h3, h4, h5, h6, h7⟩ := h
  unfold armR
  by_cases hd : W.dead = true
  · rw [if_pos hd]
    exact ⟨h1, h2, h3, h4, fun h => (by have h : d.dead = false := h; rw [h4, hd] at h; cases h), fun h => ⟨of_decide_eq_true h, hn⟩, h7⟩
  · rw [if_neg hd]
    refine ⟨h1, h2, h3, h4, fun _ => ?_, fun h => ⟨of_decide_eq_true h, hn⟩, ?_⟩
    · show (if n < 0 then -1 else n) = if decide (0 ≤ n) = true then n else -1
      by_cases h0 : n < 0
      · rw [if_pos h0, if_neg (by rw [decide_eq_true_iff]; omega)]
      · rw [if_neg h0, if_pos (by rw [decide_eq_true_iff]; omega)]
    · show -1 ≤ (if n < 0 then -1 else n) ∧ (if n < 0 then -1 else n) ≤ 9223372036854775807
      split <;> omega
end
/-- Crash: the files that are left -/
theorem crash_go (keeps : List Int) : ∀ (suf pre : List LRF) (k : Nat) (ps : List PFile), ps.Perm ((pre ++ suf).map LRF.p) → ((pre ++ suf).map LRF.name).Nodup →
    (crashN keeps k (suf.map LRF.name) ps).Perm ((pre ++ crashRF keeps k suf).map LRF.p)
  | [], pre, k, ps, h, _ => h
  | f :: r, pre, k, ps, h, hn => by
    have hnp : (ps.map (·.1)).Nodup := by rw [(h.map _).nodup_iff, map_p_names]; exact hn
    have hmem : f.p ∈ ps := h.mem_iff.2 (List.mem_map_of_mem (List.mem_append_right _ (List.mem_cons_self ..)))
    have hg : getP ps f.name = (f.safe ++ f.tail, f.safe.length) := by
      have h0 : ps.find? (fun r => r.1 == f.name) = some f.p := find_mem (q := f.p) hnp hmem
      unfold getP
      rw [h0]
      rfl
    rw [List.map_cons, crashN, hg]
    dsimp only
    unfold crashRF
    by_cases ht : f.tail.length = 0
    · rw [if_pos (by rw [List.length_append]; omega), if_pos ht]
      have ih := crash_go keeps r (pre ++ [f]) k ps (by rw [List.append_assoc]; exact h) (by rw [List.append_assoc]; exact hn)
      rwa [List.append_assoc] at ih
    · rw [if_neg (by rw [List.length_append]; omega), if_neg ht]
      have e1 : (f.safe ++ f.tail).length - f.safe.length = f.tail.length := by rw [List.length_append]; omega
      rw [e1]
      have hkl := keepP_le keeps k f.tail.length
      generalize keepP keeps k f.tail.length = n at *
      have e2 : (f.safe ++ f.tail).take (f.safe.length + n) = f.safe ++ f.tail.take n := List.take_length_add_append _
      rw [e2]
      have e3 : (f.name, f.safe ++ f.tail.take n, f.safe.length + n) = LRF.p ⟨f.name, f.safe ++ f.tail.take n, []⟩ := by
        show _ = (f.name, (f.safe ++ f.tail.take n) ++ [], (f.safe ++ f.tail.take n).length)
        rw [List.append_nil, List.length_append, List.length_take, Nat.min_eq_left hkl]
      rw [e3]
      have hn' : ((pre ++ [(⟨f.name, f.safe ++ f.tail.take n, []⟩ : LRF)] ++ r).map LRF.name).Nodup := by
        rw [List.append_assoc]
        simp only [List.map_append, List.map_cons, List.singleton_append] at hn ⊢
        exact hn
      have ih := crash_go keeps r (pre ++ [⟨f.name, f.safe ++ f.tail.take n, []⟩]) (k + 1) (putP ps (LRF.p ⟨f.name, f.safe ++ f.tail.take n, []⟩)) ?_ hn'
      · rwa [List.append_assoc] at ih
      · -- the file put anew
        unfold putP
        show (_ :: delP ps f.name).Perm _
        have h1 := delP_perm h f.name
        have h2 : delP ((pre ++ f :: r).map LRF.p) f.name = (pre ++ r).map LRF.p := by
          rw [← delP_p]
          congr 1
          rw [List.map_append, List.map_cons, List.nodup_append, List.nodup_cons] at hn
          obtain ⟨_, ⟨hn2, _⟩, hn3⟩ := hn
          rw [List.filter_append, List.filter_cons_of_neg (by simp)]
          congr 1
          · rw [List.filter_eq_self]
            intro x hx
            rw [bne_iff_ne]
            exact hn3 _ (List.mem_map_of_mem hx) _ (List.mem_cons_self ..)
          · rw [List.filter_eq_self]
            intro x hx
            rw [bne_iff_ne]
            exact fun e => hn2 (by rw [← e]; exact List.mem_map_of_mem hx)
        rw [h2] at h1
        refine (h1.cons _).trans ?_
        rw [List.append_assoc, List.map_append, List.map_append, List.singleton_append, List.map_cons]
        exact List.perm_middle.symm
theorem crash_names (keeps : List Int) : ∀ (k : Nat) (fs : List LRF), (crashRF keeps k fs).map LRF.name = fs.map LRF.name
  | _, [] => rfl
  | k, f :: r => by
    unfold crashRF
    split
    · rw [List.map_cons, List.map_cons, crash_names]
    · rw [List.map_cons, List.map_cons, crash_names]
theorem ris_names {fs : List LRF} : Ris fs ↔ (fs.map LRF.name).Pairwise (fun a b => a < b) := by unfold Ris; rw [List.pairwise_map]
/-- Crash -/
theorem Rel.crash {d : LDisk} {ps : List PFile} {W : LRD} (h : Rel d ps W) (keeps : List Int) : Rel ⟨d.room, false, 0, false⟩ (crashP keeps ps) (crashR W keeps) := by
  have e : sortN (ps.map (·.1)) = W.files.map LRF.name := by
    have h1 : (ps.map (·.1)).Perm (W.files.map LRF.name) := by rw [← map_p_names]; exact h.perm.map _
    rw [sortN_eq h1]
    refine sortN_of ?_
    rw [List.pairwise_map]
    exact h.ris.imp fun h2 => List.le_of_lt h2
  refine ⟨?_, ?_, h.room, rfl, fun _ => rfl, (fun h => by cases h), ⟨by show (-1 : Int) ≤ -1; decide, by show (-1 : Int) ≤ _; decide⟩⟩
  · unfold crashP
    rw [e]
    exact crash_go keeps W.files [] 0 ps h.perm (ris_nodup h.ris)
  · show Ris (crashRF keeps 0 W.files)
    rw [ris_names, crash_names]
    exact ris_names.1 h.ris
end Go.Proofs.Ytnhonjgclbmheaa
