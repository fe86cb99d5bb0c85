/- One call of a disk, as the law makes it: plain words; how great a disk gets. -/
import Derived.Test.YtnhonjgclbmheaaDskQ
namespace Go.Proofs.Ytnhonjgclbmheaa

/-- one call -/
structure LAct where
  kind : Int
  name : List UInt8
  tn : List UInt8
  data : List UInt8
  n : Int
  keeps : List Int
instance : Inhabited LAct := ⟨⟨0, [], [], [], 0, []⟩⟩
def doP (d : LDisk) (ps : List PFile) (a : LAct) : Int × LDisk × List PFile :=
  if a.kind = 1 then appP d ps a.name a.data
  else if a.kind = 2 then syncP d ps a.name
  else if a.kind = 3 then renameP d ps a.name a.tn
  else if a.kind = 4 then removeP d ps a.name
  else if a.kind = 5 then cutP d ps a.name a.n
  else if a.kind = 6 then (0, { d with armed := decide (0 ≤ a.n), left := a.n }, ps)
  else if a.kind = 7 then (0, ⟨d.room, false, 0, false⟩, crashP a.keeps ps)
  else (0, d, ps)
def doR (W : LRD) (a : LAct) : LRD × Int :=
  if a.kind = 1 then appR W a.name a.data
  else if a.kind = 2 then turnR W 1 a.name [] 0
  else if a.kind = 3 then turnR W 2 a.name a.tn 0
  else if a.kind = 4 then turnR W 3 a.name [] 0
  else if a.kind = 5 then turnR W 4 a.name [] a.n
  else if a.kind = 6 then (armR W a.n, 0)
  else if a.kind = 7 then (crashR W a.keeps, 0)
  else (W, 0)
theorem Rel.step {d : LDisk} {ps : List PFile} {W : LRD} (h : Rel d ps W) (a : LAct) (hn : a.n ≤ 9223372036854775807) : (doP d ps a).1 = (doR W a).2 ∧ Rel (doP d ps a).2.1 (doP d ps a).2.2 (doR W a).1 := by
  unfold doP doR
  by_cases h1 : a.kind = 1
  · rw [if_pos h1, if_pos h1]; exact h.app _ _
  rw [if_neg h1, if_neg h1]
  by_cases h2 : a.kind = 2
  · rw [if_pos h2, if_pos h2]; exact h.sync _ _ _
  rw [if_neg h2, if_neg h2]
  by_cases h3 : a.kind = 3
  · rw [if_pos h3, if_pos h3]; exact h.rename _ _ _
  rw [if_neg h3, if_neg h3]
  by_cases h4 : a.kind = 4
  · rw [if_pos h4, if_pos h4]; exact h.remove _ _ _
  rw [if_neg h4, if_neg h4]
  by_cases h5 : a.kind = 5
  · rw [if_pos h5, if_pos h5]; exact h.cut _ _ _
  rw [if_neg h5, if_neg h5]
  by_cases h6 : a.kind = 6
  · rw [if_pos h6, if_pos h6]; exact ⟨rfl, h.arm _ hn⟩
  rw [if_neg h6, if_neg h6]
  by_cases h7 : a.kind = 7
  · rw [if_pos h7, if_pos h7]; exact ⟨rfl, h.crash _⟩
  rw [if_neg h7, if_neg h7]
  exact ⟨rfl, h⟩
/-- how great: so many files, so many bytes, names so long -/
structure Sz (k u : Nat) (ps : List PFile) : Prop where
  nodup : (ps.map (·.1)).Nodup
  len : ps.length ≤ k
  used : usedP ps ≤ u
  names : ∀ q ∈ ps, q.1.length ≤ 1048576
  safe : ∀ q ∈ ps, q.2.2 ≤ q.2.1.length
theorem delP_used {ps : List PFile} (hn : (ps.map (·.1)).Nodup) (k : List UInt8) : usedP (delP ps k) + (getP ps k).1.length = usedP ps := by
  induction ps with
  | nil => rfl
  | cons x r ih =>
    rw [List.map_cons, List.nodup_cons] at hn
    have ih := ih hn.2
    have hc : usedP (x :: r) = x.2.1.length + usedP r := by unfold usedP; rw [List.map_cons, List.sum_cons]
    by_cases e : x.1 = k
    · have h1 : delP (x :: r) k = delP r k := by unfold delP; rw [List.filter_cons_of_neg (by simp [e])]
      have h2 : getP (x :: r) k = x.2 := by unfold getP; rw [List.find?_cons_of_pos (by simp [e])]
      have h3 : delP r k = r := by
        unfold delP
        rw [List.filter_eq_self]
        intro y hy
        rw [bne_iff_ne]
        exact fun e2 => hn.1 (by rw [e, ← e2]; exact List.mem_map_of_mem hy)
      rw [h1, h2, h3, hc]
      omega
    · have h1 : delP (x :: r) k = x :: delP r k := by unfold delP; rw [List.filter_cons_of_pos (by rw [bne_iff_ne]; exact e)]
      have h2 : getP (x :: r) k = getP r k := by unfold getP; rw [List.find?_cons_of_neg (by simp [e])]
      have hc2 : usedP (x :: delP r k) = x.2.1.length + usedP (delP r k) := by unfold usedP; rw [List.map_cons, List.sum_cons]
      rw [h1, h2, hc2, hc]
      omega
theorem delP_len (ps : List PFile) (k : List UInt8) : (delP ps k).length ≤ ps.length := List.length_filter_le _ _
theorem delP_nodup {ps : List PFile} (hn : (ps.map (·.1)).Nodup) (k : List UInt8) : ((delP ps k).map (·.1)).Nodup := hn.sublist ((List.filter_sublist ..).map _)
theorem mem_delP {ps : List PFile} {k : List UInt8} {q : PFile} (h : q ∈ delP ps k) : q ∈ ps ∧ q.1 ≠ k := by
  unfold delP at h
  rw [List.mem_filter, bne_iff_ne] at h
  exact h
section
variable {k u : Nat} {ps : List PFile}
theorem Sz.del (h : Sz k u ps) (nm : List UInt8) : Sz k u (delP ps nm) :=
  ⟨delP_nodup h.nodup nm, Nat.le_trans (delP_len _ _) h.len, by have := delP_used h.nodup nm; have := h.used; omega, fun q hq => h.names q (mem_delP hq).1, fun q hq => h.safe q (mem_delP hq).1⟩
theorem Sz.put (h : Sz k u ps) (nm l : List UInt8) (s x : Nat) (hn : nm.length ≤ 1048576) (hs : s ≤ l.length) (hl : l.length ≤ (getP ps nm).1.length + x) : Sz (k + 1) (u + x) (putP ps (nm, l, s)) := by
  have h1 := delP_used h.nodup nm
  have h2 := h.used
  have h3 := h.len
  have h4 := delP_len ps nm
  refine ⟨?_, ?_, ?_, ?_, ?_⟩
  · show (nm :: (delP ps nm).map (·.1)).Nodup
    rw [List.nodup_cons]
    refine ⟨fun hm => ?_, delP_nodup h.nodup nm⟩
    obtain ⟨q, hq, e⟩ := List.mem_map.1 hm
    exact (mem_delP hq).2 e
  · show (delP ps nm).length + 1 ≤ _; omega
  · show l.length + usedP (delP ps nm) ≤ _; omega
  · intro q hq
    rcases List.mem_cons.1 hq with rfl | hq
    · exact hn
    · exact h.names q (mem_delP hq).1
  · intro q hq
    rcases List.mem_cons.1 hq with rfl | hq
    · exact hs
    · exact h.safe q (mem_delP hq).1
theorem Sz.more {k' u' : Nat} (h : Sz k u ps) (hk : k ≤ k') (hu : u ≤ u') : Sz k' u' ps := ⟨h.nodup, Nat.le_trans h.len hk, Nat.le_trans h.used hu, h.names, h.safe⟩
theorem Sz.getle (h : Sz k u ps) (nm : List UInt8) : (getP ps nm).2 ≤ (getP ps nm).1.length := by
  unfold getP
  split
  · rename_i q hq
    exact h.safe q (List.mem_of_find?_eq_some hq)
  · exact Nat.le_refl _
/-- of a file that is there: no file more -/
theorem Sz.put_same (h : Sz k u ps) (nm l : List UInt8) (s : Nat) (hn : nm.length ≤ 1048576) (hs : s ≤ l.length) (hl : l.length ≤ (getP ps nm).1.length) (hm : nm ∈ ps.map (·.1)) : Sz k u (putP ps (nm, l, s)) := by
  have h1 := h.put nm l s 0 hn hs (by omega)
  refine ⟨h1.nodup, ?_, h1.used, h1.names, h1.safe⟩
  have h5 : (delP ps nm).length + 1 ≤ ps.length := by
    clear h1 hl
    have hnd := h.nodup
    clear h
    induction ps with
    | nil => cases hm
    | cons x r ih =>
      rw [List.map_cons, List.nodup_cons] at hnd
      rw [List.map_cons, List.mem_cons] at hm
      by_cases e : x.1 = nm
      · have h1 : delP (x :: r) nm = delP r nm := by unfold delP; rw [List.filter_cons_of_neg (by simp [e])]
        rw [h1]
        have := delP_len r nm
        show _ ≤ r.length + 1
        omega
      · have h1 : delP (x :: r) nm = x :: delP r nm := by unfold delP; rw [List.filter_cons_of_pos (by rw [bne_iff_ne]; exact e)]
        rw [h1]
        have := ih (hm.resolve_left (fun h => e h.symm)) hnd.2
        show (delP r nm).length + 1 + 1 ≤ r.length + 1
        omega
  have := h.len
  show (delP ps nm).length + 1 ≤ k
  omega
theorem crash_sz (keeps : List Int) : ∀ (ns : List (List UInt8)) (i : Nat) (ps : List PFile), (∀ x ∈ ns, x.length ≤ 1048576) → Sz k u ps → Sz k u (crashN keeps i ns ps)
  | [], _, _, _, h => h
  | nm :: r, i, ps, hn, h => by
    unfold crashN
    have hr : ∀ x ∈ r, x.length ≤ 1048576 := fun x hx => hn x (List.mem_cons_of_mem _ hx)
    split
    · exact crash_sz keeps r i ps hr h
    · rename_i hne
      have h1 := keepP_le keeps i ((getP ps nm).1.length - (getP ps nm).2)
      have h2 := h.getle nm
      refine crash_sz keeps r (i + 1) _ hr (h.put_same nm _ _ (hn nm (List.mem_cons_self ..)) (by rw [List.length_take]; omega) (by rw [List.length_take]; omega) ?_)
      by_cases hm : nm ∈ ps.map (·.1)
      · exact hm
      · exfalso
        apply hne
        unfold getP
        rw [find_none hm]
        rfl
theorem turn_room (d : LDisk) (e : Int) : (turnL d e).2.2.room = d.room := by
  unfold turnL
  repeat' split
  all_goals rfl
theorem getP_ne {ps : List PFile} {nm tn : List UInt8} (X : List UInt8 × Nat) (hne : ¬ nm = tn) : getP (putP ps (tn, X)) nm = getP ps nm := by
  have e1 : (putP ps (tn, X)).find? (fun q => q.1 == nm) = ps.find? (fun q => q.1 == nm) := by
    unfold putP
    rw [List.find?_cons_of_neg (by show ¬ (tn == nm) = true; simp; exact fun e => hne e.symm)]
    unfold delP
    rw [List.find?_filter]
    congr 1
    funext q
    rw [Bool.eq_iff_iff]
    simp only [decide_eq_true_eq, bne_iff_ne, beq_iff_eq]
    exact ⟨fun h => h.2, fun h => ⟨fun e => hne (h.symm.trans e), h⟩⟩
  unfold getP
  rw [e1]
/-- behind a call -/
theorem Sz.step (h : Sz k u ps) (d : LDisk) (a : LAct) (hn : a.name.length ≤ 1048576) (ht : a.tn.length ≤ 1048576) : Sz (k + 1) (u + a.data.length) (doP d ps a).2.2 ∧ (doP d ps a).2.1.room = d.room := by
  have h' : Sz (k + 1) (u + a.data.length) ps := h.more (by omega) (by omega)
  have hgl := h.getle a.name
  unfold doP
  by_cases h1 : a.kind = 1
  · rw [if_pos h1]
    unfold appP
    generalize (if d.room - (usedP ps : Int) < (a.data.length : Int) then (8 : Int) else 0) = e0
    dsimp only
    split
    · exact ⟨h.put _ _ _ a.data.length hn (by rw [List.length_append]; omega) (by rw [List.length_append]; exact Nat.le_refl _), turn_room _ _⟩
    · exact ⟨h', turn_room _ _⟩
  rw [if_neg h1]
  by_cases h2 : a.kind = 2
  · rw [if_pos h2]
    unfold syncP
    generalize (if hasP ps a.name then (0 : Int) else 6) = e0
    dsimp only
    split
    · exact ⟨(h.put _ _ _ 0 hn (Nat.le_refl _) (by omega)).more (Nat.le_refl _) (by omega), turn_room _ _⟩
    · exact ⟨h', turn_room _ _⟩
  rw [if_neg h2]
  by_cases h3 : a.kind = 3
  · rw [if_pos h3]
    unfold renameP
    generalize (if hasP ps a.name then (0 : Int) else 6) = e0
    dsimp only
    split
    · refine ⟨?_, turn_room _ _⟩
      split
      · exact h'
      · rename_i hne
        have hgne := fun X => getP_ne (ps := ps) (nm := a.name) (tn := a.tn) X hne
        generalize getP ps a.name = lp at *
        obtain ⟨l, s⟩ := lp
        have h9 := h.put a.tn l s l.length ht hgl (by omega)
        refine ⟨delP_nodup h9.nodup _, Nat.le_trans (delP_len _ _) h9.len, ?_, fun q hq => h9.names q (mem_delP hq).1, fun q hq => h9.safe q (mem_delP hq).1⟩
        have hu1 := delP_used h9.nodup a.name
        have hu2 := h9.used
        rw [hgne] at hu1
        show usedP (delP (putP ps (a.tn, l, s)) a.name) ≤ _
        have hu1 : usedP (delP (putP ps (a.tn, l, s)) a.name) + l.length = usedP (putP ps (a.tn, l, s)) := hu1
        omega
    · exact ⟨h', turn_room _ _⟩
  rw [if_neg h3]
  by_cases h4 : a.kind = 4
  · rw [if_pos h4]
    unfold removeP
    generalize (if hasP ps a.name then (0 : Int) else 6) = e0
    dsimp only
    split
    · exact ⟨h'.del _, turn_room _ _⟩
    · exact ⟨h', turn_room _ _⟩
  rw [if_neg h4]
  by_cases h5 : a.kind = 5
  · rw [if_pos h5]
    unfold cutP
    have hz : (turnL d (cutE ps a.name a.n)).1 = true → a.n.toNat ≤ (getP ps a.name).1.length := fun hb => by
      have := cutE_zero (turn_ok hb)
      omega
    dsimp only
    split
    · rename_i hb
      have hz := hz hb
      exact ⟨(h.put _ _ _ 0 hn (by rw [List.length_take]; omega) (by rw [List.length_take]; omega)).more (Nat.le_refl _) (by omega), turn_room _ _⟩
    · exact ⟨h', turn_room _ _⟩
  rw [if_neg h5]
  by_cases h6 : a.kind = 6
  · rw [if_pos h6]; exact ⟨h', rfl⟩
  rw [if_neg h6]
  by_cases h7 : a.kind = 7
  · rw [if_pos h7]
    refine ⟨crash_sz _ _ _ _ (fun x hx => ?_) h', rfl⟩
    obtain ⟨q, hq, rfl⟩ := List.mem_map.1 ((sortN_perm _).mem_iff.1 hx)
    exact h.names q hq
  rw [if_neg h7]
  exact ⟨h', rfl⟩
theorem Sz.ok (h : Sz k u ps) (hk : k ≤ 1048576) (hu : u ≤ 35184372088832) : PsOk ps := ⟨Nat.le_trans h.len hk, Nat.le_trans h.used (by omega), fun q hq => Nat.le_trans (h.names q hq) (by decide)⟩
end
end Go.Proofs.Ytnhonjgclbmheaa
