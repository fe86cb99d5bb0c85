/- A log with a torn file: plain words. The log of WalTorn: one segment. -/
import Derived.Test.YtbldfgpnghoigaaWalG
import Derived.Test.YtbldfgpnghoigaaWalT
namespace Go.Proofs.Ytbldfgpnghoigaa

section
variable (f : List UInt8 → Nat)
theorem get32_take (b : List UInt8) {k : Nat} (hk : 4 ≤ k) : get32 (b.take k) = get32 b := by
  unfold get32
  simp only [List.getD_eq_getElem?_getD]
  rw [List.getElem?_take_of_lt (by omega), List.getElem?_take_of_lt (by omega), List.getElem?_take_of_lt (by omega), List.getElem?_take_of_lt (by omega)]
theorem open1_take {b p : List UInt8} {n k : Nat} (h : open1 f b = some (p, n)) (hk : n ≤ k) : open1 f (b.take k) = some (p, n) := by
  obtain ⟨h8, hn, _⟩ := open1_le f h
  unfold open1 at h ⊢
  split at h
  · cases h
  · rename_i c1
    split at h
    · cases h
    · rename_i c2
      split at h
      · cases h
      · rename_i c3
        split at h
        · cases h
        · rename_i c4
          simp only [Option.some.injEq, Prod.mk.injEq] at h
          obtain ⟨rfl, rfl⟩ := h
          have e1 : get32 (b.take k) = get32 b := get32_take b (by omega)
          have e2 : (b.take k).take 4 = b.take 4 := by rw [List.take_take, Nat.min_eq_left (by omega)]
          have e3 : ((b.take k).drop 8).take (get32 b) = (b.drop 8).take (get32 b) := by
            rw [List.drop_take, List.take_take, Nat.min_eq_left (by omega)]
          have e4 : get32 ((b.take k).drop 4) = get32 (b.drop 4) := by rw [List.drop_take]; exact get32_take _ (by omega)
          rw [if_neg (by rw [List.length_take]; omega), e1, if_neg c2, if_neg (by rw [List.length_take]; omega), e2, e3, e4, if_neg c4]
theorem openAll_le : ∀ (m : Nat) (b : List UInt8), b.length ≤ m → (openAllL f b).2 ≤ b.length ∧ 8 * (openAllL f b).1.length ≤ b.length
  | 0, b, h => by
    have : b = [] := List.length_eq_zero_iff.1 (by omega)
    subst this
    rw [openAll_short f (by decide)]
    exact ⟨Nat.le_refl _, Nat.le_refl _⟩
  | m + 1, b, h => by
    cases ho : open1 f b with
    | none => rw [openAll_none f ho]; exact ⟨Nat.zero_le _, Nat.zero_le _⟩
    | some q =>
      obtain ⟨p, n⟩ := q
      have h1 := open1_le f ho
      have h2 := openAll_le m (b.drop n) (by rw [List.length_drop]; omega)
      rw [List.length_drop] at h2
      rw [openAll_some f ho]
      simp only [List.length_cons]
      omega
/-- what is cut behind the last record reads the same -/
theorem openAll_take : ∀ (m : Nat) (b : List UInt8), b.length ≤ m → openAllL f (b.take (openAllL f b).2) = openAllL f b
  | 0, b, h => by
    have : b = [] := List.length_eq_zero_iff.1 (by omega)
    subst this
    rw [List.take_nil]
  | m + 1, b, h => by
    cases ho : open1 f b with
    | none =>
      rw [openAll_none f ho]
      show openAllL f (b.take 0) = _
      rw [List.take_zero]
      exact openAll_short f (by decide)
    | some q =>
      obtain ⟨p, n⟩ := q
      have h1 := open1_le f ho
      have ih := openAll_take m (b.drop n) (by rw [List.length_drop]; omega)
      rw [openAll_some f ho]
      show openAllL f (b.take (n + (openAllL f (b.drop n)).2)) = _
      rw [openAll_some f (open1_take f ho (Nat.le_add_right _ _))]
      have e : (b.take (n + (openAllL f (b.drop n)).2)).drop n = (b.drop n).take (openAllL f (b.drop n)).2 := by
        rw [List.drop_take, Nat.add_sub_cancel_left]
      rw [e, ih]
end
/-- a byte is turned behind the first records -/
theorem torn_open (recs : List (List UInt8)) (hr : ∀ r ∈ recs, r.length ≤ 1048576) (whole at_ : Nat) (v : UInt8) (h : (dataW (recs.take whole)).length ≤ at_) :
    ∃ X Y, openAllL sumN ((dataW recs).set at_ v) = (recs.take whole ++ X, Y) := by
  have e : dataW recs = dataW (recs.take whole) ++ dataW (recs.drop whole) := by rw [← data_append, List.take_append_drop]
  rw [e, List.set_append_right _ _ h]
  have h1 := openAll_seals sumN sumN_lt (recs.take whole) ((dataW (recs.drop whole)).set (at_ - (dataW (recs.take whole)).length) v) (fun r hr' => hr r (List.mem_of_mem_take hr'))
  rw [List.flatMap_def] at h1
  exact ⟨_, _, h1⟩
/-- one file, its name a segment's, its bytes given -/
structure One (pre : List UInt8) (n : Nat) (data : List UInt8) (ps : List PFile) : Prop where
  nodup : (ps.map (·.1)).Nodup
  mem : ∀ nm, nm ∈ ps.map (·.1) ↔ nm = nameW pre n
  data : (getP ps (nameW pre n)).1 = data
theorem One.sorted {pre : List UInt8} {n : Nat} {data : List UInt8} {ps : List PFile} (h : One pre n data ps) : sortN (ps.map (·.1)) = [nameW pre n] := by
  have hp : (ps.map (·.1)).Perm [nameW pre n] := (List.perm_ext_iff_of_nodup h.nodup (List.nodup_cons.2 ⟨List.not_mem_nil, List.nodup_nil⟩)).2 fun nm => by rw [h.mem]; simp
  rw [sortN_eq hp]
  exact sortN_of (List.pairwise_singleton _ _)
theorem One.list {pre : List UInt8} {n : Nat} {data : List UInt8} {ps : List PFile} {d : LDisk} (h : One pre n data ps) (hd : d.dead = false) : listP d ps pre = [nameW pre n] := by
  unfold listP
  rw [hd, if_neg (by decide), h.sorted, List.filter_cons, if_pos (show pre.isPrefixOf (nameW pre n) = true from List.isPrefixOf_iff_prefix.2 (List.prefix_append _ _))]
  rfl
theorem One.has {pre : List UInt8} {n : Nat} {data : List UInt8} {ps : List PFile} (h : One pre n data ps) : hasP ps (nameW pre n) = true := (hasP_iff _ _).2 ((h.mem _).2 rfl)
theorem One.put {pre : List UInt8} {n : Nat} {data : List UInt8} {ps : List PFile} (h : One pre n data ps) (x : List UInt8) (s : Nat) : One pre n x (putP ps (nameW pre n, x, s)) :=
  ⟨nodup_put h.nodup _, fun nm => by rw [mem_put, h.mem]; simp, congrArg (·.1) (getP_put_self ps (nameW pre n, x, s))⟩
theorem cut_ok {pre : List UInt8} {n : Nat} {data : List UInt8} {ps : List PFile} {d : LDisk} (h : One pre n data ps) (hd : d.dead = false) (ha : d.armed = false) (k : Nat) (hk : k ≤ data.length) :
    cutP d ps (nameW pre n) (k : Int) = (0, d, putP ps (nameW pre n, data.take k, k)) := by
  have e : cutE ps (nameW pre n) (k : Int) = 0 := by
    unfold cutE
    rw [if_neg (by rw [h.data]; omega), if_pos h.has]
  unfold cutP
  rw [e, turn_zero hd ha]
  dsimp only
  rw [if_pos rfl, h.data]
  rfl
/-- Open of a log of one file, whatever its bytes: what is read; what is cut -/
theorem rep_one {pre : List UInt8} {n : Nat} {data : List UInt8} {ps : List PFile} {d : LDisk} (h : One pre n data ps) (hd : d.dead = false) (ha : d.armed = false) (l : LLog) :
    ∃ ps1, repW pre [n] d ps [n] 0 l [] [] = (0, d, ps1, { l with next := n + (openAllL sumN data).1.length, size := ((openAllL sumN data).2 : Int) }, [n], (openAllL sumN data).1) ∧ One pre n (data.take (openAllL sumN data).2) ps1 := by
  have hle := (openAll_le sumN data.length data (Nat.le_refl _)).1
  unfold repW
  rw [h.data]
  dsimp only
  by_cases hc : (openAllL sumN data).2 < data.length
  · have e : cleanW pre [n] 0 ((openAllL sumN data).2 : Int) d ps = (0, d, putP ps (nameW pre n, data.take (openAllL sumN data).2, (openAllL sumN data).2)) := by
      unfold cleanW
      show (if (0 : Int) ≠ 0 then _ else cutP d ps (nameW pre n) _) = _
      rw [if_neg (by simp), cut_ok h hd ha _ hle]
    rw [if_pos (Or.inl hc), e]
    exact ⟨_, rfl, h.put _ _⟩
  · rw [if_neg (by rintro (h1 | ⟨h1, _⟩); exact hc h1; exact h1 rfl)]
    exact ⟨ps, rfl, by rw [List.take_of_length_le (by omega)]; exact h⟩
theorem One.ok {pre : List UInt8} {n : Nat} {data : List UInt8} {ps : List PFile} (h : One pre n data ps) (hp : pre.length ≤ 1048576) (hu : usedP ps ≤ 1099511627776) : PsOk ps := by
  refine ⟨?_, by omega, fun q hq => ?_⟩
  · have h1 := (sortN_perm (ps.map (·.1))).length_eq
    rw [h.sorted, List.length_map] at h1
    have h2 : ps.length = 1 := h1.symm
    omega
  · have h1 := (h.mem q.1).1 (List.mem_map_of_mem hq)
    rw [h1, nameW_len]
    omega
theorem One.used {pre : List UInt8} {n : Nat} {data : List UInt8} {ps : List PFile} (h : One pre n data ps) : usedP ps = data.length := by
  have h1 := used_del h.nodup (nameW pre n)
  have h2 : delP ps (nameW pre n) = [] := by
    unfold delP
    rw [List.filter_eq_nil_iff]
    intro q hq
    have h3 := (h.mem q.1).1 (List.mem_map_of_mem hq)
    simp [h3]
  rw [h2, h.data] at h1
  have h3 : usedP [] = 0 := rfl
  omega
/-- wal.Open on a disk of one file -/
theorem open_one {w : World} {F : Nat → Prop} {d : LDisk} {ps : List PFile} {pre : List UInt8} {n : Nat} {data : List UInt8} (b : Nat) (hd : DD w b F d ps) (h : One pre n data ps) (h1 : d.dead = false) (h2 : d.armed = false) (hr : 0 ≤ d.room ∧ d.room ≤ 9223372036854775807) (hpa : ∀ b ∈ pre, b.toNat < 128) (hpl : pre.length ≤ 1048576) (hn : n ≤ 1099511627776) (hu : data.length ≤ 700000) (most : Int) (hm : ¬ most < 1) :
    ∃ ps1, One pre n (data.take (openAllL sumN data).2) ps1 ∧ Calls Try.prog 10 #[.pointer (some ⟨b, 0, none⟩), .string ⟨pre.toArray⟩, .int .i64 most] w (RetOpn F (0, d, ps1, { (log0 b pre most) with next := n + (openAllL sumN data).1.length, size := ((openAllL sumN data).2 : Int) }, [n], (openAllL sumN data).1) w) := by
  have e1 := h.list h1
  have e2 : foundW (listP d ps pre) pre = [n] := by
    rw [e1]
    exact found_names (pre := pre) (segs := [(n, [])]) (fun s hs => by rw [List.mem_singleton.1 hs]; show n < _; omega)
  obtain ⟨ps1, e3, o1⟩ := rep_one h h1 h2 (log0 b pre most)
  have e4 : repW pre (foundW (listP d ps pre) pre) d ps (foundW (listP d ps pre) pre) 0 (log0 b pre most) [] [] = (0, d, ps1, { (log0 b pre most) with next := n + (openAllL sumN data).1.length, size := ((openAllL sumN data).2 : Int) }, [n], (openAllL sumN data).1) := by rw [e2]; exact e3
  have hle := (openAll_le sumN data.length data (Nat.le_refl _)).2
  have T := open_log b F d ps w hd (h.ok hpl (by rw [h.used]; omega)) (ldok_un h2 hr) h1 pre most hm hpl (by
      rw [e1]
      exact names_ascii (segs := [(n, [])]) hpa) (by rw [e1]; show 1 ≤ _; decide)
    (fun m hm => by
      rw [e2] at hm
      rw [List.mem_singleton.1 hm]
      exact read_has h1 h.has)
    (fun m hm => by
      rw [e2] at hm
      rw [List.mem_singleton.1 hm, h.data]
      exact ⟨hn, by omega⟩)
    (by rw [e2]; show 1 ≤ _; decide)
    (by
      rw [e2, List.map_singleton, h.data]
      show (openAllL sumN data).1.length + 0 ≤ _
      omega)
    (by rw [e4])
  rw [e4] at T
  exact ⟨ps1, o1, T⟩
end Go.Proofs.Ytbldfgpnghoigaa

namespace Go.Proofs.Ytbldfgpnghoigaa

def segsT (R : List (List UInt8)) : List Seg := if R = [] then [] else [(0, R)]
/-- both lists in one segment -/
structure TornS (b : Nat) (d : LDisk) (R : List (List UInt8)) (l : LLog) (ps : List PFile) : Prop where
  good : Good [119, 46] (segsT R) l d ps
  most : l.most = 1048576
  rot : l.rot = false
  disk : l.disk = b
  size : l.size = ((dataW R).length : Int)
  next : l.next = R.length
  used : usedP ps = (dataW R).length
theorem data_short {R : List (List UInt8)} (h1 : R.length ≤ 24) (h2 : ∀ r ∈ R, r.length ≤ 2000) : (dataW R).length ≤ 48192 := by
  rw [data_len]
  have := len_flat_le h2
  have := Nat.mul_le_mul_right 2000 h1
  omega
theorem torn_app {b : Nat} {d : LDisk} {R : List (List UInt8)} {l : LLog} {ps : List PFile} (h : TornS b d R l ps) (hroom : d.room = 1073741824) (recs : List (List UInt8)) (h1 : (R ++ recs).length ≤ 24) (h2 : ∀ r ∈ R ++ recs, r.length ≤ 2000) :
    ∃ i l' ps', appendW l ((segsT R).map (·.1)) d ps recs = (i, 0, l', (segsT (R ++ recs)).map (·.1), d, ps') ∧ TornS b d (R ++ recs) l' ps' := by
  have hd := data_short h1 h2
  rw [data_append, List.length_append] at hd
  by_cases hne : recs = []
  · subst hne
    rw [List.append_nil]
    exact ⟨l.next, l, ps, by unfold appendW; rfl, h⟩
  · have hl : l.next ≤ 24 := by rw [h.next]; rw [List.length_append] at h1; omega
    obtain ⟨_, a2⟩ := app_good h.good recs (fun r hr => by have := h2 r (by simp [hr]); omega) hne (by omega)
    obtain ⟨ps1, e1, e2, e3, e4⟩ := a2 (by rw [h.used, hroom]; omega)
    have hseg : appSegs l (segsT R) recs = segsT (R ++ recs) ∧ appLog l (segsT R) recs = { l with next := (R ++ recs).length, size := ((dataW (R ++ recs)).length : Int) } := by
      by_cases hR : R = []
      · subst hR
        have hn : l.next = 0 := h.next
        have hs : l.size = 0 := h.size
        have hr := h.rot
        have e5 : segsT ([] ++ recs) = [(0, recs)] := by unfold segsT; rw [List.nil_append, if_neg hne]
        have e6 : freshW l ((segsT []).map (·.1)) = true := rfl
        refine ⟨?_, ?_⟩
        · unfold appSegs
          rw [e6, e5, if_pos rfl, hn]
          rfl
        · unfold appLog
          rw [e6, hn]
          simp [hr]
      · have e5 : segsT R = [(0, R)] := by unfold segsT; rw [if_neg hR]
        have e6 : segsT (R ++ recs) = [(0, R ++ recs)] := by unfold segsT; rw [if_neg (by simp [hR])]
        have hf : freshW l ((segsT R).map (·.1)) = false := by
          unfold freshW
          rw [e5, h.most, h.size, h.rot]
          simp
          omega
        refine ⟨?_, ?_⟩
        · unfold appSegs
          rw [hf, e5, e6]
          simp
        · unfold appLog
          rw [hf, h.next, h.size, data_append]
          simp [h.rot]
    rw [hseg.1, hseg.2] at e1 e2
    rw [h.used] at e3
    exact ⟨l.next, _, ps1, e1, ⟨e2, h.most, h.rot, h.disk, rfl, rfl, by rw [e3, data_append, List.length_append]⟩⟩
theorem torn_nil (b : Nat) (d : LDisk) (h1 : d.dead = false) (h2 : d.armed = false) : TornS b d [] (log0 b [119, 46] 1048576) [] := ⟨good_nil _ _ _ _ h1 h2, rfl, rfl, rfl, rfl, rfl, rfl⟩
/-- a log with records lies in one file -/
theorem TornS.one {b : Nat} {d : LDisk} {R : List (List UInt8)} {l : LLog} {ps : List PFile} (h : TornS b d R l ps) (hR : R ≠ []) : One [119, 46] 0 (dataW R) ps := by
  have e5 : segsT R = [(0, R)] := by unfold segsT; rw [if_neg hR]
  have hw := h.good.wl
  rw [e5] at hw
  exact ⟨hw.nodup, fun nm => by rw [hw.mem]; simp [namesW], hw.data (0, R) (by simp)⟩
end Go.Proofs.Ytbldfgpnghoigaa
