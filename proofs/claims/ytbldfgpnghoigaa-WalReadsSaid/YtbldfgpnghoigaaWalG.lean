/- A log whose files are whole: plain words. Open and Append on a log whose files are whole. -/
import Derived.Test.YtbldfgpnghoigaaWalR
import Derived.Test.YtbldfgpnghoigaaWalA
namespace Go.Proofs.Ytbldfgpnghoigaa

abbrev Seg := Nat × List (List UInt8)
/-- a segment's bytes -/
def dataW (rs : List (List UInt8)) : List UInt8 := (rs.map (sealL sumN)).flatten
def namesW (pre : List UInt8) (segs : List Seg) : List (List UInt8) := segs.map fun s => nameW pre s.1
/-- the files are these segments, whole -/
structure WL (pre : List UInt8) (segs : List Seg) (ps : List PFile) : Prop where
  nodup : (ps.map (·.1)).Nodup
  mem : ∀ nm, nm ∈ ps.map (·.1) ↔ nm ∈ namesW pre segs
  data : ∀ s ∈ segs, (getP ps (nameW pre s.1)).1 = dataW s.2
  asc : segs.Pairwise fun s t => s.1 < t.1
  lt : ∀ s ∈ segs, s.1 ≤ 1099511627776
  rl : ∀ s ∈ segs, ∀ r ∈ s.2, r.length ≤ 1048576
/-- each segment begins where the one ahead of it ends -/
def Chain : List Seg → Prop
  | [] => True
  | [_] => True
  | s :: t :: r => t.1 = s.1 + s.2.length ∧ Chain (t :: r)
def lastLog (l : LLog) (segs : List Seg) : LLog := match segs.getLast? with | none => l | some s => { l with next := s.1 + s.2.length, size := ((dataW s.2).length : Int) }
def recsOf (segs : List Seg) : List (List UInt8) := segs.flatMap (·.2)
section
variable {pre : List UInt8} {segs : List Seg} {ps : List PFile} {d : LDisk}
theorem data_open {rs : List (List UInt8)} (h : ∀ r ∈ rs, r.length ≤ 1048576) : openAllL sumN (dataW rs) = (rs, (dataW rs).length) := by
  have h1 := openAll_seals sumN sumN_lt rs [] h
  rw [openAll_short sumN (t := []) (by decide), List.append_nil, List.append_nil, Nat.add_zero] at h1
  unfold dataW
  rw [← List.flatMap_def]
  exact h1
theorem name_delP (ps : List PFile) (k nm : List UInt8) : nm ∈ (delP ps k).map (·.1) ↔ nm ∈ ps.map (·.1) ∧ nm ≠ k := by
  unfold delP
  constructor
  · intro h
    obtain ⟨q, hq, rfl⟩ := List.mem_map.1 h
    rw [List.mem_filter, bne_iff_ne] at hq
    exact ⟨List.mem_map_of_mem hq.1, hq.2⟩
  · rintro ⟨h, h2⟩
    obtain ⟨q, hq, rfl⟩ := List.mem_map.1 h
    exact List.mem_map_of_mem (List.mem_filter.2 ⟨hq, by rw [bne_iff_ne]; exact h2⟩)
theorem getP_put_self (ps : List PFile) (q : PFile) : getP (putP ps q) q.1 = q.2 := by
  unfold getP putP
  rw [List.find?_cons_of_pos (by simp)]
theorem getP_del_ne (ps : List PFile) {k nm : List UInt8} (h : nm ≠ k) : getP (delP ps k) nm = getP ps nm := by
  unfold getP delP
  rw [List.find?_filter]
  congr 2
  funext q
  by_cases e : q.1 = nm
  · simp [e, h]
  · simp [e]
theorem getP_put_ne (ps : List PFile) {q : PFile} {nm : List UInt8} (h : nm ≠ q.1) : getP (putP ps q) nm = getP ps nm := by
  have : getP (putP ps q) nm = getP (delP ps q.1) nm := by
    unfold getP putP
    rw [List.find?_cons_of_neg (by simp; exact fun e => h e.symm)]
  rw [this, getP_del_ne ps h]
theorem used_del {ps : List PFile} (hn : (ps.map (·.1)).Nodup) (k : List UInt8) : usedP (delP ps k) + (getP ps k).1.length = usedP ps := by
  induction ps with
  | nil => rfl
  | cons x r ih =>
    rw [List.map_cons, List.nodup_cons] at hn
    have ih := ih hn.2
    have hc : usedP (x :: r) = x.2.1.length + usedP r := by unfold usedP; rw [List.map_cons, List.sum_cons]
    by_cases e : x.1 = k
    · have e1 : delP (x :: r) k = delP r k := by unfold delP; rw [List.filter_cons, if_neg (by simp [e])]
      have e2 : getP (x :: r) k = x.2 := by unfold getP; rw [List.find?_cons_of_pos (by simp [e])]
      have e3 : delP r k = r := by
        unfold delP
        rw [List.filter_eq_self]
        intro q hq
        rw [bne_iff_ne]
        intro h
        exact hn.1 (by rw [e, ← h]; exact List.mem_map_of_mem hq)
      rw [e1, e2, e3, hc]
      omega
    · have e1 : delP (x :: r) k = x :: delP r k := by unfold delP; rw [List.filter_cons, if_pos (by simp [e])]
      have e2 : getP (x :: r) k = getP r k := by unfold getP; rw [List.find?_cons_of_neg (by simp [e])]
      have hc2 : usedP (x :: delP r k) = x.2.1.length + usedP (delP r k) := by unfold usedP; rw [List.map_cons, List.sum_cons]
      rw [e1, e2, hc, hc2]
      omega
theorem used_put {ps : List PFile} (hn : (ps.map (·.1)).Nodup) (q : PFile) : usedP (putP ps q) + (getP ps q.1).1.length = usedP ps + q.2.1.length := by
  have h1 := used_del hn q.1
  have hc : usedP (putP ps q) = q.2.1.length + usedP (delP ps q.1) := by unfold putP usedP; rw [List.map_cons, List.sum_cons]
  omega
theorem nodup_put {ps : List PFile} (hn : (ps.map (·.1)).Nodup) (q : PFile) : ((putP ps q).map (·.1)).Nodup := by
  unfold putP
  rw [List.map_cons, List.nodup_cons]
  exact ⟨fun h => ((name_delP _ _ _).1 h).2 rfl, hn.sublist ((List.filter_sublist ..).map _)⟩
theorem mem_put (ps : List PFile) (q : PFile) (nm : List UInt8) : nm ∈ (putP ps q).map (·.1) ↔ nm = q.1 ∨ nm ∈ ps.map (·.1) := by
  unfold putP
  rw [List.map_cons, List.mem_cons, name_delP]
  constructor
  · rintro (h | h)
    · exact .inl h
    · exact .inr h.1
  · rintro (h | h)
    · exact .inl h
    · by_cases e : nm = q.1
      · exact .inl e
      · exact .inr ⟨h, e⟩
theorem hasP_iff (ps : List PFile) (nm : List UInt8) : hasP ps nm = true ↔ nm ∈ ps.map (·.1) := by
  unfold hasP
  rw [List.any_eq_true, List.mem_map]
  constructor
  · rintro ⟨q, hq, h⟩; exact ⟨q, hq, by simpa using h⟩
  · rintro ⟨q, hq, h⟩; exact ⟨q, hq, by simpa using h⟩
theorem WL.lt64 (h : WL pre segs ps) : ∀ s ∈ segs, s.1 < 18446744073709551616 := fun s hs => by have := h.lt s hs; omega
theorem WL.namesLt (h : WL pre segs ps) : (namesW pre segs).Pairwise (· < ·) := by
  unfold namesW
  rw [List.pairwise_map]
  exact List.Pairwise.imp_of_mem (fun _ hb hab => name_lt pre hab (h.lt64 _ hb)) h.asc
theorem WL.sorted (h : WL pre segs ps) : sortN (ps.map (·.1)) = namesW pre segs := by
  have hnd : (namesW pre segs).Nodup := h.namesLt.imp fun hab e => by subst e; exact absurd hab (List.lt_irrefl _)
  have hp : (ps.map (·.1)).Perm (namesW pre segs) := (List.perm_ext_iff_of_nodup h.nodup hnd).2 h.mem
  rw [sortN_eq hp]
  exact sortN_of (h.namesLt.imp fun hab => List.le_of_lt hab)
theorem WL.list (h : WL pre segs ps) (hd : d.dead = false) : listP d ps pre = namesW pre segs := by
  unfold listP
  rw [hd, if_neg (by decide), h.sorted]
  rw [List.filter_eq_self]
  intro nm hnm
  obtain ⟨s, hs, rfl⟩ := List.mem_map.1 hnm
  exact List.isPrefixOf_iff_prefix.2 (List.prefix_append _ _)
theorem found_names (h : ∀ s ∈ segs, s.1 < 18446744073709551616) : foundW (namesW pre segs) pre = segs.map (·.1) := by
  induction segs with
  | nil => rfl
  | cons s r ih =>
    have e : foundW (namesW pre (s :: r)) pre = s.1 :: foundW (namesW pre r) pre := by
      unfold foundW namesW
      rw [List.map_cons, List.filterMap_cons, index_name pre s.1 (h s (by simp))]
    rw [e, ih fun t ht => h t (by simp [ht])]
    rfl
theorem WL.has (h : WL pre segs ps) {s : Seg} (hs : s ∈ segs) : hasP ps (nameW pre s.1) = true := (hasP_iff _ _).2 ((h.mem _).2 (List.mem_map_of_mem (f := fun s : Seg => nameW pre s.1) hs))
theorem read_has (hd : d.dead = false) {nm : List UInt8} (h : hasP ps nm = true) : readP d ps nm = ((getP ps nm).1, 0) := by
  unfold readP getP
  rw [hd, if_neg (by decide)]
  unfold hasP at h
  rw [List.any_eq_true] at h
  cases hf : ps.find? (fun q => q.1 == nm) with
  | some q => rfl
  | none =>
    rw [List.find?_eq_none] at hf
    obtain ⟨q, hq, h1⟩ := h
    exact absurd h1 (hf q hq)
theorem dig_ascii (k : Nat) : (dig (k % 16)).toNat < 128 := by
  rw [dig_nat _ (Nat.mod_lt _ (by decide))]
  have := Nat.mod_lt k (show 0 < 16 by decide)
  split <;> omega
theorem hexL_ascii : ∀ (k n : Nat), ∀ b ∈ hexL k n, b.toNat < 128
  | 0, _, b, h => by cases h
  | k + 1, n, b, h => by
    simp only [hexL, List.mem_cons] at h
    rcases h with rfl | h
    · exact dig_ascii _
    · exact hexL_ascii k n b h
theorem names_ascii (hp : ∀ b ∈ pre, b.toNat < 128) : ∀ nm ∈ namesW pre segs, ∀ b ∈ nm, b.toNat < 128 := by
  intro nm hnm b hb
  obtain ⟨s, _, rfl⟩ := List.mem_map.1 hnm
  unfold nameW at hb
  rcases List.mem_append.1 hb with h | h
  · exact hp b h
  · exact hexL_ascii _ _ b h
theorem lastLog_cons (l : LLog) (s : Seg) (r : List Seg) : lastLog l (s :: r) = lastLog { l with next := s.1 + s.2.length, size := ((dataW s.2).length : Int) } r := by
  cases r with
  | nil => rfl
  | cons t r =>
    unfold lastLog
    rw [List.getLast?_cons_cons]
    cases h : (t :: r).getLast? with
    | none => simp at h
    | some q => rfl
/-- replay reads all -/
theorem rep_good (all : List Nat) (hdt : ∀ s ∈ segs, (getP ps (nameW pre s.1)).1 = dataW s.2) (hrl : ∀ s ∈ segs, ∀ r ∈ s.2, r.length ≤ 1048576) (hc : Chain segs) : ∀ (i : Nat) (l : LLog) (sg : List Nat) (recs : List (List UInt8)),
    repW pre all d ps (segs.map (·.1)) i l sg recs = (0, d, ps, lastLog l segs, sg ++ segs.map (·.1), recs ++ recsOf segs) := by
  induction segs with
  | nil => intro i l sg recs; simp [repW, lastLog, recsOf]
  | cons s r ih =>
    intro i l sg recs
    have hD := hdt s (by simp)
    have hO := data_open (hrl s (by simp))
    have hc2 : Chain r := by cases r with | nil => trivial | cons t r => exact hc.2
    rw [List.map_cons]
    unfold repW
    rw [hD]
    dsimp only
    rw [hO]
    dsimp only
    rw [if_neg, ih (fun t ht => hdt t (by simp [ht])) (fun t ht => hrl t (by simp [ht])) hc2, lastLog_cons]
    · simp [recsOf]
    · rintro (h | ⟨h1, h2⟩)
      · exact Nat.lt_irrefl _ h
      · cases r with
        | nil => exact h1 rfl
        | cons t r => exact h2 hc.1

theorem turn_zero (hd : d.dead = false) (ha : d.armed = false) : turnL d 0 = (true, 0, d) := by unfold turnL; rw [hd, ha]; rfl
theorem turn_err (hd : d.dead = false) {e : Int} (he : e ≠ 0) : turnL d e = (false, e, d) := by unfold turnL; rw [hd, if_neg (by decide), if_pos he]
theorem getP_no {ps : List PFile} {nm : List UInt8} (h : nm ∉ ps.map (·.1)) : getP ps nm = ([], 0) := by
  unfold getP
  have : ps.find? (fun q => q.1 == nm) = none := by
    rw [List.find?_eq_none]
    intro q hq e
    exact h (List.mem_map.2 ⟨q, hq, by simpa using e⟩)
  rw [this]
/-- the last segment goes on -/
theorem WL.last {ini : List Seg} {s : Seg} (h : WL pre (ini ++ [s]) ps) (recs : List (List UInt8)) (hr : ∀ r ∈ recs, r.length ≤ 1048576) (safe : Nat) : WL pre (ini ++ [(s.1, s.2 ++ recs)]) (putP ps (nameW pre s.1, dataW (s.2 ++ recs), safe)) := by
  have ha := List.pairwise_append.1 h.asc
  refine ⟨nodup_put h.nodup _, fun nm => ?_, fun t ht => ?_, ?_, fun t ht => ?_, fun t ht r hr2 => ?_⟩
  · have e : namesW pre (ini ++ [(s.1, s.2 ++ recs)]) = namesW pre (ini ++ [s]) := by simp [namesW]
    rw [mem_put, e, h.mem]
    constructor
    · rintro (h1 | h1)
      · rw [h1]; simp [namesW]
      · exact h1
    · exact .inr
  · rcases List.mem_append.1 ht with ht | ht
    · rw [getP_put_ne _ (show nameW pre t.1 ≠ nameW pre s.1 from fun e => by
        have h1 := name_inj pre (h.lt64 t (by simp [ht])) (h.lt64 s (by simp)) e
        have h2 : t.1 < s.1 := ha.2.2 t ht s (by simp)
        omega)]
      exact h.data t (by simp [ht])
    · rw [List.mem_singleton.1 ht]
      exact congrArg (·.1) (getP_put_self ps (nameW pre s.1, dataW (s.2 ++ recs), safe))
  · refine List.pairwise_append.2 ⟨ha.1, List.pairwise_singleton _ _, fun a h1 b hb => ?_⟩
    rw [List.mem_singleton.1 hb]
    exact ha.2.2 a h1 s (by simp)
  · rcases List.mem_append.1 ht with ht | ht
    · exact h.lt t (by simp [ht])
    · rw [List.mem_singleton.1 ht]; exact h.lt s (by simp)
  · rcases List.mem_append.1 ht with ht | ht
    · exact h.rl t (by simp [ht]) r hr2
    · rw [List.mem_singleton.1 ht] at hr2
      rcases List.mem_append.1 hr2 with h1 | h1
      · exact h.rl s (by simp) r h1
      · exact hr r h1
/-- a segment more -/
theorem WL.add (h : WL pre segs ps) (n : Nat) (hn : ∀ s ∈ segs, s.1 < n) (hn2 : n ≤ 1099511627776) (recs : List (List UInt8)) (hr : ∀ r ∈ recs, r.length ≤ 1048576) (safe : Nat) : WL pre (segs ++ [(n, recs)]) (putP ps (nameW pre n, dataW recs, safe)) := by
  refine ⟨nodup_put h.nodup _, fun nm => ?_, fun t ht => ?_, ?_, fun t ht => ?_, fun t ht r hr2 => ?_⟩
  · rw [mem_put, h.mem]
    unfold namesW
    rw [List.map_append, List.mem_append]
    constructor
    · rintro (h1 | h1)
      · exact .inr (by simp [h1])
      · exact .inl h1
    · rintro (h1 | h1)
      · exact .inr h1
      · exact .inl (by simpa using h1)
  · rcases List.mem_append.1 ht with ht | ht
    · rw [getP_put_ne _ (show nameW pre t.1 ≠ nameW pre n from fun e => by
        have h1 := name_inj pre (h.lt64 t ht) (by omega) e
        have h2 := hn t ht
        omega)]
      exact h.data t ht
    · rw [List.mem_singleton.1 ht]
      exact congrArg (·.1) (getP_put_self ps (nameW pre n, dataW recs, safe))
  · refine List.pairwise_append.2 ⟨h.asc, List.pairwise_singleton _ _, fun a h1 b hb => ?_⟩
    rw [List.mem_singleton.1 hb]
    exact hn a h1
  · rcases List.mem_append.1 ht with ht | ht
    · exact h.lt t ht
    · rw [List.mem_singleton.1 ht]; exact hn2
  · rcases List.mem_append.1 ht with ht | ht
    · exact h.rl t ht r hr2
    · rw [List.mem_singleton.1 ht] at hr2; exact hr r hr2
theorem WL.fresh_name (h : WL pre segs ps) (n : Nat) (hn : ∀ s ∈ segs, s.1 < n) (hn2 : n ≤ 1099511627776) : nameW pre n ∉ ps.map (·.1) := fun hm => by
  rw [h.mem] at hm
  obtain ⟨s, hs, e⟩ := List.mem_map.1 hm
  have h1 := name_inj pre (h.lt64 s hs) (by omega) e
  have h2 := hn s hs
  omega
theorem chain_last : ∀ {ini : List Seg} {s : Seg} (rs : List (List UInt8)), Chain (ini ++ [s]) → Chain (ini ++ [(s.1, rs)])
  | [], _, _, _ => trivial
  | [_], _, _, h => ⟨h.1, trivial⟩
  | _ :: t :: r, _, rs, h => ⟨h.1, chain_last (ini := t :: r) rs h.2⟩
theorem chain_add : ∀ {ini : List Seg} {s : Seg} (t : Seg), t.1 = s.1 + s.2.length → Chain (ini ++ [s]) → Chain (ini ++ [s] ++ [t])
  | [], _, _, e, _ => ⟨e, trivial⟩
  | [_], _, _, e, h => ⟨h.1, e, trivial⟩
  | _ :: b :: r, _, t, e, h => ⟨h.1, chain_add (ini := b :: r) t e h.2⟩
theorem lastLog_snoc (l : LLog) (ini : List Seg) (s : Seg) : lastLog l (ini ++ [s]) = { l with next := s.1 + s.2.length, size := ((dataW s.2).length : Int) } := by
  unfold lastLog
  rw [List.getLast?_append]
  rfl
theorem lastW_snoc (ini : List Seg) (s : Seg) : lastW ((ini ++ [s]).map (·.1)) = s.1 := by
  unfold lastW
  simp
theorem data_append (a b : List (List UInt8)) : dataW (a ++ b) = dataW a ++ dataW b := by unfold dataW; rw [List.map_append, List.flatten_append]
/-- a log that is whole, in memory and on its disk -/
structure Good (pre : List UInt8) (segs : List Seg) (l : LLog) (d : LDisk) (ps : List PFile) : Prop where
  wl : WL pre segs ps
  chain : Chain segs
  pre : l.pre = pre
  self : lastLog l segs = l
  full : ∀ s ∈ segs, s.2 ≠ []
  alive : d.dead = false
  unarmed : d.armed = false
theorem Good.lt_next {l : LLog} (h : Good pre segs l d ps) : ∀ s ∈ segs, s.1 < l.next := by
  rcases List.eq_nil_or_concat segs with e | ⟨ini, t, e⟩
  · intro s hs; rw [e] at hs; cases hs
  · rw [List.concat_eq_append] at e
    subst e
    have h1 := h.self
    rw [lastLog_snoc] at h1
    have h2 : t.1 + t.2.length = l.next := congrArg LLog.next h1
    have h3 : 0 < t.2.length := List.length_pos_iff.2 (h.full t (by simp))
    intro s hs
    rcases List.mem_append.1 hs with hs | hs
    · have := (List.pairwise_append.1 h.wl.asc).2.2 s hs t (by simp)
      omega
    · rw [List.mem_singleton.1 hs]; omega
theorem sync_good {l : LLog} (h : Good pre segs l d ps) : ∃ ps1, syncW l (segs.map (·.1)) d ps = (0, d, ps1) ∧ WL pre segs ps1 ∧ usedP ps1 = usedP ps := by
  unfold syncW
  rcases List.eq_nil_or_concat segs with e | ⟨ini, t, e⟩
  · subst e
    exact ⟨ps, by simp, h.wl, rfl⟩
  · rw [List.concat_eq_append] at e
    subst e
    rw [if_neg (by simp), lastW_snoc, h.pre]
    have hh := h.wl.has (s := t) (by simp)
    have hdt := h.wl.data t (by simp)
    unfold syncP
    rw [if_pos hh, turn_zero h.alive h.unarmed]
    dsimp only
    rw [if_pos rfl, hdt]
    have h1 := h.wl.last [] (fun r hr => by cases hr) (dataW t.2).length
    rw [List.append_nil] at h1
    have h2 := used_put h.wl.nodup (nameW pre t.1, dataW t.2, (dataW t.2).length)
    dsimp only at h2
    rw [hdt] at h2
    exact ⟨_, rfl, h1, by omega⟩
/-- the segments behind an Append -/
def appSegs (l : LLog) (segs : List Seg) (recs : List (List UInt8)) : List Seg := if freshW l (segs.map (·.1)) then segs ++ [(l.next, recs)] else segs.dropLast ++ (segs.getLast?.toList.map fun s => (s.1, s.2 ++ recs))
def appLog (l : LLog) (segs : List Seg) (recs : List (List UInt8)) : LLog := { l with next := l.next + recs.length, size := (if freshW l (segs.map (·.1)) then 0 else l.size) + ((dataW recs).length : Int), rot := !freshW l (segs.map (·.1)) && l.rot }
theorem app_good {l : LLog} (h : Good pre segs l d ps) (recs : List (List UInt8)) (hr : ∀ r ∈ recs, r.length ≤ 1048576) (hne : recs ≠ []) (hn : l.next ≤ 1099511627776) :
    (d.room < (usedP ps : Int) + ((dataW recs).length : Int) → ∃ ps1, appendW l (segs.map (·.1)) d ps recs = (0, 8, l, segs.map (·.1), d, ps1) ∧ Good pre segs l d ps1 ∧ usedP ps1 = usedP ps) ∧
    ((usedP ps : Int) + ((dataW recs).length : Int) ≤ d.room → ∃ ps1, appendW l (segs.map (·.1)) d ps recs = (l.next, 0, appLog l segs recs, (appSegs l segs recs).map (·.1), d, ps1) ∧ Good pre (appSegs l segs recs) (appLog l segs recs) d ps1 ∧ usedP ps1 = usedP ps + (dataW recs).length ∧ recsOf (appSegs l segs recs) = recsOf segs ++ recs) := by
  have hany : recs.any (fun r => decide (1048576 < r.length)) = false := by
    rw [List.any_eq_false]
    intro r h1
    have := hr r h1
    simp; omega
  obtain ⟨psS, hS1, hS2, hS3⟩ := sync_good h
  have hlt := h.lt_next
  have key : ∀ fr ps1, freshW l (segs.map (·.1)) = fr → (if fr = true then syncW l (segs.map (·.1)) d ps else (0, d, ps)) = (0, d, ps1) → WL pre segs ps1 → usedP ps1 = usedP ps →
      appendW l (segs.map (·.1)) d ps recs = appEnd l (segs.map (·.1)) recs ((dataW recs).length : Int) fr (0, d, ps1) (appP d ps1 (nameW pre (if fr = true then l.next else lastW (segs.map (·.1)))) (dataW recs)) := by
    intro fr ps1 h1 h2 _ _
    unfold appendW
    rw [hany, if_neg (by decide), if_neg hne, h1, h2, h.pre]
    rfl
  obtain ⟨fr, hfr⟩ : ∃ fr, freshW l (segs.map (·.1)) = fr := ⟨_, rfl⟩
  obtain ⟨ps1, e1, hW1, hU1⟩ : ∃ ps1, (if fr = true then syncW l (segs.map (·.1)) d ps else (0, d, ps)) = (0, d, ps1) ∧ WL pre segs ps1 ∧ usedP ps1 = usedP ps := by
    cases fr with
    | true => exact ⟨psS, hS1, hS2, hS3⟩
    | false => exact ⟨ps, rfl, h.wl, rfl⟩
  have hA := key fr ps1 hfr e1 hW1 hU1
  constructor
  · intro hroom
    refine ⟨ps1, ?_, ⟨hW1, h.chain, h.pre, h.self, h.full, h.alive, h.unarmed⟩, hU1⟩
    rw [hA]
    have e2 : appP d ps1 (nameW pre (if fr = true then l.next else lastW (segs.map (·.1)))) (dataW recs) = (8, d, ps1) := by
      have e0 : (if d.room - (usedP ps1 : Int) < ((dataW recs).length : Int) then (8 : Int) else 0) = 8 := if_pos (by rw [hU1]; omega)
      unfold appP
      rw [e0, turn_err h.alive (by decide)]
      dsimp only
      rw [if_neg (by rw [h.alive]; decide)]
    rw [e2]
    rfl
  · intro hroom
    have e2 := appP_ok (d := d) (ps := ps1) (nm := nameW pre (if fr = true then l.next else lastW (segs.map (·.1)))) (x := dataW recs) h.alive h.unarmed (by rw [hU1]; exact hroom)
    rw [hA, e2]
    unfold appSegs appLog
    rw [hfr]
    cases fr with
    | true =>
      have hnm := hW1.fresh_name l.next hlt hn
      have hg : getP ps1 (nameW pre l.next) = ([], 0) := getP_no hnm
      have h3 := hW1.add l.next hlt hn recs hr (getP ps1 (nameW pre l.next)).2
      have h4 := used_put hW1.nodup (nameW pre l.next, (getP ps1 (nameW pre l.next)).1 ++ dataW recs, (getP ps1 (nameW pre l.next)).2)
      refine ⟨putP ps1 (nameW pre l.next, (getP ps1 (nameW pre l.next)).1 ++ dataW recs, (getP ps1 (nameW pre l.next)).2), ?_, ⟨?_, ?_, h.pre, ?_, ?_, h.alive, h.unarmed⟩, ?_, ?_⟩
      · simp [appEnd]
      · rw [if_pos rfl, hg]; rw [hg] at h3; exact h3
      · rw [if_pos rfl]
        rcases List.eq_nil_or_concat segs with e | ⟨ini, t, e⟩
        · subst e; trivial
        · rw [List.concat_eq_append] at e
          subst e
          refine chain_add _ ?_ h.chain
          have h1 := h.self
          rw [lastLog_snoc] at h1
          exact (congrArg LLog.next h1).symm
      · rw [if_pos rfl, if_pos rfl, lastLog_snoc]
        simp
      · rw [if_pos rfl]
        intro s hs
        rcases List.mem_append.1 hs with hs | hs
        · exact h.full s hs
        · rw [List.mem_singleton.1 hs]; exact hne
      · rw [hg] at h4 ⊢
        simp at h4 ⊢
        omega
      · rw [if_pos rfl]; unfold recsOf; rw [List.flatMap_append]; simp
    | false =>
      rcases List.eq_nil_or_concat segs with e | ⟨ini, t, e⟩
      · subst e; cases hfr
      · rw [List.concat_eq_append] at e
        subst e
        rw [lastW_snoc] at e2 ⊢
        have hdt := hW1.data t (by simp)
        have h3 := hW1.last recs hr (getP ps1 (nameW pre t.1)).2
        rw [data_append] at h3
        have h4 := used_put hW1.nodup (nameW pre t.1, (getP ps1 (nameW pre t.1)).1 ++ dataW recs, (getP ps1 (nameW pre t.1)).2)
        have h1 := h.self
        rw [lastLog_snoc] at h1
        have hnx : t.1 + t.2.length = l.next := congrArg LLog.next h1
        have hsz : ((dataW t.2).length : Int) = l.size := congrArg LLog.size h1
        refine ⟨putP ps1 (nameW pre t.1, (getP ps1 (nameW pre t.1)).1 ++ dataW recs, (getP ps1 (nameW pre t.1)).2), ?_, ⟨?_, ?_, h.pre, ?_, ?_, h.alive, h.unarmed⟩, ?_, ?_⟩
        · simp [appEnd]
        · simp only [Bool.false_eq_true, if_false, List.dropLast_concat, List.getLast?_append, hdt]
          exact h3
        · simp only [Bool.false_eq_true, if_false, List.dropLast_concat, List.getLast?_append]
          exact chain_last _ h.chain
        · simp only [Bool.false_eq_true, if_false, List.dropLast_concat, List.getLast?_append]
          have e5 := lastLog_snoc { l with next := l.next + recs.length, size := l.size + ((dataW recs).length : Int), rot := !false && l.rot } ini (t.1, t.2 ++ recs)
          refine e5.trans ?_
          simp only [List.length_append, data_append, Int.natCast_add, hsz]
          rw [show t.1 + (t.2.length + recs.length) = l.next + recs.length by omega]
        · simp only [Bool.false_eq_true, if_false, List.dropLast_concat, List.getLast?_append]
          intro s hs
          rcases List.mem_append.1 hs with hs | hs
          · exact h.full s (by simp [hs])
          · have e6 : s = (t.1, t.2 ++ recs) := by simpa using hs
            rw [e6]
            simp [hne]
        · rw [hdt] at h4 ⊢
          simp at h4 ⊢
          omega
        · unfold recsOf
          simp
end
end Go.Proofs.Ytbldfgpnghoigaa

namespace Go.Proofs.Ytbldfgpnghoigaa
open Go.RowKit

theorem used_get (ps : List PFile) (hn : (ps.map (·.1)).Nodup) (nm : List UInt8) : (getP ps nm).1.length ≤ usedP ps := by have := used_del hn nm; omega
theorem WL.len {pre : List UInt8} {segs : List Seg} {ps : List PFile} (h : WL pre segs ps) : ps.length = segs.length := by
  have h1 := (sortN_perm (ps.map (·.1))).length_eq
  rw [h.sorted] at h1
  unfold namesW at h1
  rw [List.length_map, List.length_map] at h1
  exact h1.symm
theorem WL.ok {pre : List UInt8} {segs : List Seg} {ps : List PFile} (h : WL pre segs ps) (hp : pre.length ≤ 1048576) (hn : segs.length ≤ 1048576) (hu : usedP ps ≤ 1099511627776) : PsOk ps := by
  refine ⟨by rw [h.len]; exact hn, by omega, fun q hq => ?_⟩
  have h1 := (h.mem q.1).1 (List.mem_map_of_mem hq)
  obtain ⟨s, _, e⟩ := List.mem_map.1 h1
  rw [← e, nameW_len]
  omega
theorem ldok_un {d : LDisk} (ha : d.armed = false) (hr : 0 ≤ d.room ∧ d.room ≤ 9223372036854775807) : LdOk d := ⟨hr, fun h => by rw [ha] at h; cases h⟩
theorem wl_nil (pre : List UInt8) : WL pre [] [] := ⟨List.nodup_nil, (fun nm => by simp [namesW]), (fun _ h => by cases h), List.Pairwise.nil, (fun _ h => by cases h), (fun _ h => by cases h)⟩
theorem good_nil (b : Nat) (pre : List UInt8) (most : Int) (d : LDisk) (h1 : d.dead = false) (h2 : d.armed = false) : Good pre [] (log0 b pre most) d [] := ⟨wl_nil pre, trivial, rfl, rfl, (fun _ h => by cases h), h1, h2⟩
section
variable {w : World} {F : Nat → Prop} {d : LDisk} {ps : List PFile} {pre : List UInt8} {segs : List Seg}
theorem open_good (b : Nat) (hd : DD w b F d ps) (hW : WL pre segs ps) (hC : Chain segs) (h1 : d.dead = false) (h2 : d.armed = false) (hr : 0 ≤ d.room ∧ d.room ≤ 9223372036854775807) (hpa : ∀ b ∈ pre, b.toNat < 128) (hpl : pre.length ≤ 1048576) (hn : segs.length ≤ 1048575) (hu : usedP ps ≤ 1099511627776) (hrn : (recsOf segs).length ≤ 99999) (most : Int) (hm : ¬ most < 1) :
    Calls Try.prog 10 #[.pointer (some ⟨b, 0, none⟩), .string ⟨pre.toArray⟩, .int .i64 most] w (RetOpn F (0, d, ps, lastLog (log0 b pre most) segs, segs.map (·.1), recsOf segs) w) := by
  have e1 := hW.list h1
  have e2 : foundW (listP d ps pre) pre = segs.map (·.1) := by rw [e1]; exact found_names hW.lt64
  have e3 := rep_good (d := d) (segs.map (·.1)) hW.data hW.rl hC 0 (log0 b pre most) [] []
  have e4 : repW pre (foundW (listP d ps pre) pre) d ps (foundW (listP d ps pre) pre) 0 (log0 b pre most) [] [] = (0, d, ps, lastLog (log0 b pre most) segs, segs.map (·.1), recsOf segs) := by rw [e2, e3]; simp
  have T := open_log b F d ps w hd (hW.ok hpl (by omega) hu) (ldok_un h2 hr) h1 pre most hm hpl (by rw [e1]; exact names_ascii hpa) (by rw [e1]; unfold namesW; rw [List.length_map]; omega)
    (fun n hn => by
      rw [e2] at hn
      obtain ⟨s, hs, rfl⟩ := List.mem_map.1 hn
      exact read_has h1 (hW.has hs))
    (fun n hn => by
      rw [e2] at hn
      obtain ⟨s, hs, rfl⟩ := List.mem_map.1 hn
      exact ⟨hW.lt s hs, Nat.le_trans (used_get ps hW.nodup _) hu⟩)
    (by rw [e2, List.length_map]; exact hn)
    (by
      rw [e2, List.map_map]
      have e5 : segs.map ((fun n => (openAllL sumN (getP ps (nameW pre n)).1).1.length) ∘ fun x => x.1) = segs.map fun s => s.2.length := by
        apply List.map_congr_left
        intro s hs
        show (openAllL sumN (getP ps (nameW pre s.1)).1).1.length = _
        rw [hW.data s hs, data_open (hW.rl s hs)]
      rw [e5]
      unfold recsOf at hrn
      rw [List.length_flatMap] at hrn
      exact hrn)
    (by rw [e4])
  rw [e4] at T
  exact T
theorem append_at (g : Nat) {l : LLog} (hd : LD w g F l (segs.map (·.1)) d ps) (hG : Good pre segs l d ps) (hg : ¬ F g) (hr : 0 ≤ d.room ∧ d.room ≤ 9223372036854775807) (hpl : pre.length ≤ 1048576) (hn : segs.length ≤ 1048575) (hu : usedP ps ≤ 1099511627776)
    (X : Option Addr) (recs : List (List UInt8)) (xc : Nat) (S : Nat → Prop) (hx : SlS BsE w S X recs) (hrn : recs.length ≤ 1000) (hb : ∀ r ∈ recs, r.length ≤ 1048577) (hnx : l.next ≤ 1099511627776) (hsz : 0 ≤ l.size ∧ l.size ≤ 1099511627776) :
    Calls Try.prog 12 #[.pointer (some ⟨g, 0, none⟩), .slice X recs.length xc] w (RetApp g F (appendW l (segs.map (·.1)) d ps recs) w) := by
  obtain ⟨ps1, e1, hW1, hU1⟩ := sync_good hG
  exact append_log g F l (segs.map (·.1)) d ps w hd hg (hG.wl.ok hpl (by omega) hu) (ldok_un hG.unarmed hr) (by rw [e1]; exact hW1.ok hpl (by omega) (by rw [hU1]; exact hu)) (by rw [e1]; exact ldok_un hG.unarmed hr) (by rw [List.length_map]; exact hn) X recs xc S hx hrn hb (by omega) hsz
end
theorem data_len (rs : List (List UInt8)) : (dataW rs).length = rs.flatten.length + 8 * rs.length := len_seals rs
end Go.Proofs.Ytbldfgpnghoigaa
