/- The document's log beside the program's: plain words. -/
import Derived.Test.YtbldfgpnghoigaaRlB
namespace Go.Proofs.Ytbldfgpnghoigaa

section
variable {pre : List UInt8} {segs : List Seg} {ps : List PFile} {d : LDisk} {n : Nat}
theorem WL.rm {s : Seg} {r : List Seg} (h : WL pre (s :: r) ps) : WL pre r (delP ps (nameW pre s.1)) := by
  have hp := List.pairwise_cons.1 h.asc
  have hne : ∀ t ∈ r, nameW pre t.1 ≠ nameW pre s.1 := fun t ht e => by
    have h1 := name_inj pre (h.lt64 t (List.mem_cons_of_mem _ ht)) (h.lt64 s (by simp)) e
    have h2 := hp.1 t ht
    omega
  refine ⟨((List.filter_sublist (p := fun q : PFile => q.1 != nameW pre s.1)).map (·.1)).nodup h.nodup, fun nm => ?_, fun t ht => ?_, hp.2, fun t ht => h.lt t (List.mem_cons_of_mem _ ht), fun t ht => h.rl t (List.mem_cons_of_mem _ ht)⟩
  · rw [name_delP, h.mem]
    constructor
    · rintro ⟨h1, h2⟩
      rcases List.mem_cons.1 h1 with e | h1
      · exact absurd e h2
      · exact h1
    · intro h1
      refine ⟨List.mem_cons_of_mem _ h1, ?_⟩
      obtain ⟨t, ht, rfl⟩ := List.mem_map.1 h1
      exact hne t ht
  · rw [getP_del_ne _ (hne t ht)]
    exact h.data t (List.mem_cons_of_mem _ ht)
theorem rm_first {s : Seg} {r : List Seg} (h : WL pre (s :: r) ps) (h1 : d.dead = false) (h2 : d.armed = false) : removeP d ps (nameW pre s.1) = (0, d, delP ps (nameW pre s.1)) := by
  unfold removeP
  rw [if_pos (h.has (s := s) (by simp)), turn_zero h1 h2]
  rfl
theorem drop_good (n : Nat) (h1 : d.dead = false) (h2 : d.armed = false) : ∀ (segs : List Seg) (ps : List PFile), WL pre segs ps → ∃ ps', dropW pre n d ps (segs.map (·.1)) = (0, d, ps', (dropS n segs).map (·.1)) ∧ WL pre (dropS n segs) ps' ∧ usedP ps' ≤ usedP ps
  | [], ps, h => ⟨ps, rfl, h, Nat.le_refl _⟩
  | [s], ps, h => ⟨ps, rfl, h, Nat.le_refl _⟩
  | s :: t :: r, ps, h => by
    by_cases ht : t.1 ≤ n
    · obtain ⟨ps', e1, e2, e3⟩ := drop_good n h1 h2 (t :: r) (delP ps (nameW pre s.1)) h.rm
      have hu := used_del h.nodup (nameW pre s.1)
      refine ⟨ps', ?_, ?_, by omega⟩
      · show (if t.1 ≤ n then _ else _) = _
        rw [if_pos ht, rm_first h h1 h2, if_neg (by simp)]
        show dropW pre n d (delP ps (nameW pre s.1)) ((t :: r).map (·.1)) = (0, d, ps', (if t.1 ≤ n then dropS n (t :: r) else s :: t :: r).map (·.1))
        rw [if_pos ht]
        exact e1
      · show WL pre (if t.1 ≤ n then dropS n (t :: r) else s :: t :: r) ps'
        rw [if_pos ht]
        exact e2
    · refine ⟨ps, ?_, ?_, Nat.le_refl _⟩
      · show (if t.1 ≤ n then _ else _) = (0, d, ps, (if t.1 ≤ n then dropS n (t :: r) else s :: t :: r).map (·.1))
        rw [if_neg ht, if_neg ht]
        rfl
      · show WL pre (if t.1 ≤ n then dropS n (t :: r) else s :: t :: r) ps
        rw [if_neg ht]
        exact h
/-- what stays is an end -/
theorem dropS_end (n : Nat) : ∀ segs : List Seg, ∃ ini, segs = ini ++ dropS n segs ∧ (segs ≠ [] → dropS n segs ≠ [])
  | [] => ⟨[], rfl, fun h => h⟩
  | [s] => ⟨[], rfl, fun h => h⟩
  | s :: t :: r => by
    by_cases ht : t.1 ≤ n
    · obtain ⟨ini, e1, e2⟩ := dropS_end n (t :: r)
      have e : dropS n (s :: t :: r) = dropS n (t :: r) := by show (if t.1 ≤ n then _ else _) = _; rw [if_pos ht]
      rw [e]
      exact ⟨s :: ini, by rw [List.cons_append, ← e1], fun _ => e2 (by simp)⟩
    · have e : dropS n (s :: t :: r) = s :: t :: r := by show (if t.1 ≤ n then _ else _) = _; rw [if_neg ht]
      rw [e]
      exact ⟨[], rfl, fun h => h⟩
theorem chain_end : ∀ {ini r : List Seg}, Chain (ini ++ r) → Chain r
  | [], _, h => h
  | [_], [], _ => trivial
  | [_], _ :: _, h => h.2
  | _ :: t :: ini, r, h => chain_end (ini := t :: ini) (r := r) h.2
theorem chain_first : ∀ {segs : List Seg} {s t : Seg} {ini r : List Seg}, Chain (s :: segs) → s :: segs = ini ++ t :: r → t.1 + (recsOf (t :: r)).length = s.1 + (recsOf (s :: segs)).length
  | _, s, t, [], r, _, e => by
    injection e with e1 e2
    subst e1 e2
    rfl
  | [], s, t, _ :: ini, r, _, e => by
    injection e with _ e2
    cases ini <;> cases e2
  | q :: segs, s, t, _ :: ini, r, h, e => by
    injection e with e1 e2
    have h1 := chain_first (ini := ini) h.2 e2
    rw [recsOf_cons s (q :: segs), List.length_append, h1, h.1]
    omega
theorem last_end {ini r : List Seg} (hr : r ≠ []) (l : LLog) : lastLog l (ini ++ r) = lastLog l r := by
  unfold lastLog
  rw [List.getLast?_append]
  cases h : r.getLast? with
  | none => exact absurd (List.getLast?_eq_none_iff.1 h) hr
  | some s => rfl
theorem Good.drop {l : LLog} (h : Good pre segs l d ps) (n : Nat) : ∃ ps', dropW pre n d ps (segs.map (·.1)) = (0, d, ps', (dropS n segs).map (·.1)) ∧ Good pre (dropS n segs) l d ps' ∧ usedP ps' ≤ usedP ps := by
  obtain ⟨ps', e1, e2, e3⟩ := drop_good n h.alive h.unarmed segs ps h.wl
  obtain ⟨ini, e4, e5⟩ := dropS_end n segs
  refine ⟨ps', e1, ⟨e2, ?_, h.pre, ?_, fun s hs => h.full s (by rw [e4]; exact List.mem_append_right _ hs), h.alive, h.unarmed⟩, e3⟩
  · have h1 := h.chain
    rw [e4] at h1
    exact chain_end h1
  · by_cases hs : segs = []
    · rw [hs]; rfl
    · have h1 := h.self
      rw [e4, last_end (e5 hs)] at h1
      exact h1
end
abbrev dskR : LDisk := ⟨max 0 1073741824, false, 0, false⟩
/-- the document's log is the program's -/
structure RI (k : Nat) (most : Int) (db : Nat) (segs : List Seg) (l : LLog) (W : LRL) (ps : List PFile) : Prop where
  good : Good [119, 46] segs l dskR ps
  most : l.most = most
  disk : l.disk = db
  wrec : W.recs = recsOf segs
  wseg : W.segs = segs.map (·.1)
  wfirst : W.first = (segs.map (·.1)).headD l.next
  wnext : nextR W = l.next
  wsize : W.size = l.size
  wrot : W.rot = l.rot
  empty : segs = [] → l.next = 0 ∧ l.size = 0
  nk : l.next ≤ 12 * k
  uk : usedP ps ≤ 30000 * k
  sk : segs.length ≤ k
  sz : 0 ≤ l.size ∧ l.size ≤ 30000 * (k : Int)
  safe : 0 ≤ W.safe + (W.first : Int) ∧ W.safe ≤ 12 * (k : Int)
  rl : ∀ r ∈ recsOf segs, r.length ≤ 2000
section
variable {k : Nat} {most : Int} {db : Nat} {segs : List Seg} {l : LLog} {W : LRL} {ps : List PFile}
theorem RI.mono (h : RI k most db segs l W ps) : RI (k + 1) most db segs l W ps := by
  obtain ⟨h1, h2, h3, h4, h5, h6, h7, h8, h9, h10, h11, h12, h13, h14, h15, h16⟩ := h
  exact ⟨h1, h2, h3, h4, h5, h6, h7, h8, h9, h10, by omega, by omega, by omega, by omega, by omega, h16⟩
theorem RI.fresh (h : RI k most db segs l W ps) : freshW l (segs.map (·.1)) = freshR W most := by
  unfold freshW freshR
  rw [h.wseg, h.most, h.wsize, h.wrot, h.wnext]
theorem RI.zero (most : Int) (db : Nat) : RI 0 most db [] (log0 db [119, 46] most) ⟨0, [], 0, [], 0, false⟩ [] :=
  ⟨good_nil _ _ _ _ rfl rfl, rfl, rfl, rfl, rfl, rfl, rfl, rfl, rfl, fun _ => ⟨rfl, rfl⟩, Nat.le_refl _, Nat.le_refl _, Nat.le_refl _, ⟨Int.le_refl _, Int.le_refl _⟩, ⟨by decide, by decide⟩, fun r hr => by cases hr⟩
theorem RI.rotate (h : RI k most db segs l W ps) {ps1 : List PFile} (hw : WL [119, 46] segs ps1) (hu : usedP ps1 = usedP ps) : RI k most db segs { l with rot := true } { W with rot := true } ps1 := by
  obtain ⟨⟨g1, g2, g3, g4, g5, g6, g7⟩, h2, h3, h4, h5, h6, h7, h8, h9, h10, h11, h12, h13, h14, h15, h16⟩ := h
  refine ⟨⟨hw, g2, g3, ?_, g5, g6, g7⟩, h2, h3, h4, h5, h6, h7, h8, rfl, h10, h11, by rw [hu]; exact h12, h13, h14, h15, h16⟩
  unfold lastLog at g4 ⊢
  cases hs : segs.getLast? with
  | none => rfl
  | some s =>
    rw [hs] at g4
    have h1 := congrArg LLog.next g4
    have h2 := congrArg LLog.size g4
    dsimp only at h1 h2 ⊢
    rw [h1, h2]
theorem RI.sync (h : RI k most db segs l W ps) {ps1 : List PFile} (hw : WL [119, 46] segs ps1) (hu : usedP ps1 = usedP ps) : RI k most db segs l W ps1 := by
  obtain ⟨⟨g1, g2, g3, g4, g5, g6, g7⟩, h2, h3, h4, h5, h6, h7, h8, h9, h10, h11, h12, h13, h14, h15, h16⟩ := h
  exact ⟨⟨hw, g2, g3, g4, g5, g6, g7⟩, h2, h3, h4, h5, h6, h7, h8, h9, h10, h11, by rw [hu]; exact h12, h13, h14, h15, h16⟩
theorem appSegs_map (l : LLog) (segs : List Seg) (xs : List (List UInt8)) : (appSegs l segs xs).map (·.1) = if freshW l (segs.map (·.1)) = true then segs.map (·.1) ++ [l.next] else segs.map (·.1) := by
  unfold appSegs
  split
  · simp
  · rcases List.eq_nil_or_concat segs with e | ⟨ini, s, e⟩
    · subst e; rfl
    · rw [List.concat_eq_append] at e
      subst e
      simp
theorem data_le {xs : List (List UInt8)} (h1 : xs.length ≤ 12) (h2 : ∀ r ∈ xs, r.length ≤ 2000) : (dataW xs).length ≤ 30000 := by
  rw [data_len]
  have := len_flat_le h2
  have := Nat.mul_le_mul_right 2000 h1
  omega
theorem headD_app {a : List Nat} (x y : Nat) (b : List Nat) (h : a ≠ []) : (a ++ b).headD x = a.headD y := by
  cases a with
  | nil => exact absurd rfl h
  | cons c r => rfl
theorem RI.append (h : RI k most db segs l W ps) (hk : k < 30) (xs : List (List UInt8)) (h1 : xs.length ≤ 12) (h2 : ∀ r ∈ xs, r.length ≤ 2000) :
    ∃ l' segs' ps', appendW l (segs.map (·.1)) dskR ps xs = (l.next, 0, l', segs'.map (·.1), dskR, ps') ∧ RI (k + 1) most db segs' l' (appR W most xs) ps' := by
  by_cases hne : xs = []
  · subst hne
    exact ⟨l, segs, ps, by unfold appendW; rfl, h.mono⟩
  · have hd := data_le h1 h2
    have hnk := h.nk
    have huk := h.uk
    obtain ⟨ps1, e1, e2, e3, e4⟩ := (app_good h.good xs (fun r hr => by have := h2 r hr; omega) hne (by omega)).2 (by show _ ≤ ((max 0 1073741824 : Int)); omega)
    refine ⟨appLog l segs xs, appSegs l segs xs, ps1, e1, ?_⟩
    have hfr := h.fresh
    have hW : appR W most xs = { (if freshR W most = true then beginR W else W) with recs := W.recs ++ xs, size := (if freshR W most = true then beginR W else W).size + ((dataW xs).length : Int) } := by
      unfold appR
      rw [if_neg hne]
    have hnx : W.first + W.recs.length = l.next := h.wnext
    have hfirst : (appR W most xs).first = W.first := by rw [hW]; cases freshR W most <;> rfl
    have hsafe := h.safe
    refine ⟨e2, h.most, h.disk, ?_, ?_, ?_, ?_, ?_, ?_, ?_, ?_, ?_, ?_, ?_, ?_, ?_⟩
    · rw [e4, ← h.wrec, hW]
    · rw [appSegs_map, hfr, hW]
      cases hq : freshR W most
      · exact h.wseg
      · show W.segs ++ [nextR W] = segs.map (·.1) ++ [l.next]
        rw [h.wseg, h.wnext]
    · rw [hfirst, appSegs_map, h.wfirst]
      by_cases hs : segs = []
      · subst hs
        rfl
      · have hm : segs.map (·.1) ≠ [] := fun e => hs (List.map_eq_nil_iff.1 e)
        split
        · exact (headD_app _ _ _ hm).symm
        · have h3 := headD_app (appLog l segs xs).next l.next [] hm
          rw [List.append_nil] at h3
          exact h3.symm
    · show (appR W most xs).first + (appR W most xs).recs.length = l.next + xs.length
      rw [hfirst, hW]
      show W.first + (W.recs ++ xs).length = _
      rw [List.length_append]
      omega
    · rw [hW]
      unfold appLog
      rw [hfr, ← h.wsize]
      cases freshR W most <;> rfl
    · rw [hW]
      unfold appLog
      rw [hfr, ← h.wrot]
      cases freshR W most <;> rfl
    · intro e
      have h3 := congrArg (List.map (·.1)) e
      rw [appSegs_map] at h3
      have hm : ∀ b : Bool, b = freshW l (segs.map (·.1)) → False := fun b hb => by
        cases b with
        | true => rw [← hb] at h3; simp at h3
        | false =>
          rw [← hb] at h3
          have h4 : segs = [] := List.map_eq_nil_iff.1 h3
          rw [h4] at hb
          cases hb
      exact (hm _ rfl).elim
    · show l.next + xs.length ≤ _
      omega
    · omega
    · have := appSegs_len l segs xs
      have := h.sk
      omega
    · have hs := h.sz
      show 0 ≤ (if freshW l (segs.map (·.1)) = true then 0 else l.size) + ((dataW xs).length : Int) ∧ (if freshW l (segs.map (·.1)) = true then 0 else l.size) + ((dataW xs).length : Int) ≤ _
      split <;> omega
    · rw [hfirst, hW]
      cases freshR W most with
      | true =>
        show 0 ≤ ((W.recs.length : Nat) : Int) + (W.first : Int) ∧ ((W.recs.length : Nat) : Int) ≤ _
        omega
      | false =>
        show 0 ≤ W.safe + (W.first : Int) ∧ W.safe ≤ _
        omega
    · rw [e4]
      intro r hr
      rcases List.mem_append.1 hr with hr | hr
      · exact h.rl r hr
      · exact h2 r hr
theorem RI.dropd (h : RI k most db segs l W ps) (n : Nat) : ∃ ps', dropW [119, 46] n dskR ps (segs.map (·.1)) = (0, dskR, ps', (dropS n segs).map (·.1)) ∧ RI (k + 1) most db (dropS n segs) l (dropR W segs n) ps' := by
  obtain ⟨ps', e1, e2, e3⟩ := h.good.drop n
  obtain ⟨ini, e4, e5⟩ := dropS_end n segs
  have hrec : recsOf segs = recsOf ini ++ recsOf (dropS n segs) := by
    have h3 := congrArg recsOf e4
    rw [h3]
    unfold recsOf
    rw [List.flatMap_append]
  have hlen : (recsOf (dropS n segs)).length ≤ (recsOf segs).length := by rw [hrec, List.length_append]; omega
  have hnx : W.first + (recsOf segs).length = l.next := by rw [← h.wrec]; exact h.wnext
  have hfi : W.first + ((recsOf segs).length - (recsOf (dropS n segs)).length) = ((dropS n segs).map (·.1)).headD l.next := by
    by_cases hs : segs = []
    · subst hs
      show W.first + (0 - 0) = l.next
      rw [h.wfirst]
      rfl
    · obtain ⟨t, r, hd⟩ := List.exists_cons_of_ne_nil (e5 hs)
      obtain ⟨s, r2, hs2⟩ := List.exists_cons_of_ne_nil hs
      have hc := h.good.chain
      have hf := h.wfirst
      rw [hs2] at hc hf
      have e6 : s :: r2 = ini ++ t :: r := by rw [← hs2, ← hd]; exact e4
      have h3 := chain_first hc e6
      rw [← hd, ← hs2] at h3
      have h4 : W.first = s.1 := hf
      rw [hd]
      show _ = t.1
      rw [hd] at h3 hlen
      omega
  have hsafe := h.safe
  have huk := h.uk
  refine ⟨ps', by rw [← h.good.pre] at e1 ⊢; exact e1, e2, h.most, h.disk, rfl, rfl, hfi, ?_, h.wsize, h.wrot, fun e => h.empty (Classical.byContradiction fun hs => e5 hs e), by have := h.nk; omega, by omega, ?_, by have := h.sz; omega, ?_, fun r hr => h.rl r (by rw [hrec]; exact List.mem_append_right _ hr)⟩
  · show W.first + ((recsOf segs).length - (recsOf (dropS n segs)).length) + (recsOf (dropS n segs)).length = l.next
    omega
  · have h3 := congrArg List.length e4
    rw [List.length_append] at h3
    have := h.sk
    omega
  · show 0 ≤ W.safe - (((recsOf segs).length - (recsOf (dropS n segs)).length : Nat) : Int) + ((W.first + ((recsOf segs).length - (recsOf (dropS n segs)).length) : Nat) : Int) ∧ W.safe - (((recsOf segs).length - (recsOf (dropS n segs)).length : Nat) : Int) ≤ _
    omega
theorem RI.reopen (h : RI k most db segs l W ps) : RI k most db segs (lastLog (log0 db [119, 46] most) segs) { W with rot := false } ps := by
  obtain ⟨⟨g1, g2, g3, g4, g5, g6, g7⟩, h2, h3, h4, h5, h6, h7, h8, h9, h10, h11, h12, h13, h14, h15, h16⟩ := h
  by_cases hs : segs = []
  · subst hs
    obtain ⟨e1, e2⟩ := h10 rfl
    rw [e1] at h6 h7
    rw [e2] at h8
    exact ⟨⟨g1, g2, rfl, rfl, g5, g6, g7⟩, rfl, rfl, h4, h5, h6, h7, h8, rfl, fun _ => ⟨rfl, rfl⟩, Nat.zero_le _, h12, h13, ⟨Int.le_refl _, by show (0 : Int) ≤ _; omega⟩, h15, h16⟩
  · rcases List.eq_nil_or_concat segs with e | ⟨ini, t, e⟩
    · exact absurd e hs
    · rw [List.concat_eq_append] at e
      subst e
      rw [lastLog_snoc] at g4 ⊢
      have e1 : t.1 + t.2.length = l.next := congrArg LLog.next g4
      have e2 : ((dataW t.2).length : Int) = l.size := congrArg LLog.size g4
      rw [← e1] at h6 h7 h11
      rw [← e2] at h8 h14
      exact ⟨⟨g1, g2, rfl, lastLog_snoc _ _ _, g5, g6, g7⟩, rfl, rfl, h4, h5, h6, h7, h8, rfl, fun e => absurd e hs, h11, h12, h13, h14, h15, h16⟩
end
end Go.Proofs.Ytbldfgpnghoigaa
