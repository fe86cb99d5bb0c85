/- An entry in form: how great what it is written as may be. Plain. -/
import Derived.Test.YtemidaamnldjmaaReadL
import Derived.Test.YtemidaamnldjmaaEncC
import Derived.Test.YtemidaamnldjmaaAdd
namespace Go.Proofs.Ytemidaamnldjmaa
open Go.RowKit

theorem nodup_lenW : ∀ (n : Nat) (l : List Int), l.Nodup → (∀ c ∈ l, 0 ≤ c ∧ c < (n : Int)) → l.length ≤ n
  | 0, l, _, h => by
    cases l with
    | nil => exact Nat.le_refl _
    | cons a l => have := h a (List.mem_cons_self ..); omega
  | n + 1, l, hn, h => by
    have h2 := nodup_lenW n (l.erase (n : Int)) (hn.erase _) (fun c hc => by
      obtain ⟨h3, h4⟩ := (hn.mem_erase_iff).1 hc
      have := h c h4
      omega)
    have h5 : l.length ≤ (l.erase (n : Int)).length + 1 := by
      rw [List.length_erase]
      split <;> omega
    omega
/-- a table in form -/
structure TabOk (id keys : Int) (tn : ByteArray) (cols : List LCol) (ixs : List LIx) : Prop where
  id1 : 1 ≤ id
  id2 : id ≤ 255
  keys1 : 1 ≤ keys
  keys2 : keys ≤ (cols.length : Int)
  name : tn.size ≤ 16
  ncols : cols.length ≤ 16
  nixs : ixs.length ≤ 4
  cols : ∀ c ∈ cols, c.name.size ≤ 16 ∧ 1 ≤ c.kind ∧ c.kind ≤ 4
  ixs : ∀ x ∈ ixs, x.name.size ≤ 16 ∧ x.cols.length ≤ 16 ∧ ∀ c ∈ x.cols, 0 ≤ c ∧ c < 16
theorem namedB_size {s : ByteArray} (h : namedB s = true) : s.size ≤ 16 := by
  unfold namedB at h
  simp only [Bool.and_eq_true, decide_eq_true_eq] at h
  exact h.1.2
theorem colsB_all : ∀ {keys : Int} {l : List LCol} {i : Nat}, colsB keys l i = true → ∀ c ∈ l, c.name.size ≤ 16 ∧ 1 ≤ c.kind ∧ c.kind ≤ 4
  | keys, c :: l, i, h, x, hx => by
    unfold colsB at h
    rw [Bool.and_eq_true] at h
    rcases List.mem_cons.1 hx with rfl | hx
    · have h1 := h.1
      unfold colB at h1
      simp only [Bool.and_eq_true, decide_eq_true_eq] at h1
      exact ⟨namedB_size h1.1.1.1, h1.1.1.2, h1.1.2⟩
    · exact colsB_all h.2 x hx
  | keys, [], i, h, x, hx => by cases hx
theorem check_ok {id keys : Int} {tn : ByteArray} {cols : List LCol} {ixs : List LIx} (h : checkI id keys tn cols ixs = 0) : TabOk id keys tn cols ixs := by
  unfold checkI at h
  by_cases h1 : 16 < cols.length
  · rw [if_pos h1] at h; cases h
  rw [if_neg h1] at h
  by_cases h2 : 4 < ixs.length
  · rw [if_pos h2] at h; cases h
  rw [if_neg h2] at h
  by_cases h3 : headB id keys tn cols.length = false
  · rw [if_pos h3] at h; cases h
  rw [if_neg h3] at h
  by_cases h4 : colsB keys cols 0 = false
  · rw [if_pos h4] at h; cases h
  rw [if_neg h4] at h
  by_cases h5 : ixs.all (fun x => idxB cols.length x.name x.cols) = false
  · rw [if_pos h5] at h; cases h
  have h6 : ixs.all (fun x => idxB cols.length x.name x.cols) = true := by simpa using h5
  have h7 : headB id keys tn cols.length = true := by simpa using h3
  have h8 : colsB keys cols 0 = true := by simpa using h4
  unfold headB at h7
  simp only [Bool.and_eq_true, decide_eq_true_eq] at h7
  obtain ⟨⟨⟨⟨i1, i2⟩, i3⟩, i4⟩, i5⟩ := h7
  refine ⟨i1, i2, i4, i5, namedB_size i3, by omega, by omega, colsB_all h8, fun x hx => ?_⟩
  have h7 := List.all_eq_true.1 h6 x hx
  unfold idxB at h7
  simp only [Bool.and_eq_true, decide_eq_true_eq] at h7
  obtain ⟨⟨⟨h8, j2⟩, _⟩, h9⟩ := h7
  have h10 : ∀ c ∈ x.cols, 0 ≤ c ∧ c < (cols.length : Int) := fun c hc => by
    have := List.all_eq_true.1 h8 c hc
    unfold inB at this
    simp only [Bool.and_eq_true, decide_eq_true_eq] at this
    exact this
  have h11 := nodup_lenW _ _ h9 h10
  exact ⟨namedB_size j2, by omega, fun c hc => by have := h10 c hc; omega⟩
theorem statesB_all : ∀ {id : Int} {l : List LSt}, statesB id l = true → ∀ s ∈ l, 0 ≤ s.phase ∧ s.phase ≤ 2 ∧ s.cur.length ≤ 401
  | id, s :: l, h, x, hx => by
    unfold statesB at h
    rw [Bool.and_eq_true, Bool.and_eq_true] at h
    rcases List.mem_cons.1 hx with rfl | hx
    · have h1 := h.1.1
      unfold stB at h1
      rw [Bool.and_eq_true, Bool.and_eq_true, decide_eq_true_eq, decide_eq_true_eq] at h1
      obtain ⟨⟨h2, h3⟩, h4⟩ := h1
      refine ⟨h2, h3, ?_⟩
      unfold cursorB at h4
      split at h4
      · have := of_decide_eq_true h4; omega
      · rw [Bool.and_eq_true] at h4; exact of_decide_eq_true h4.1
    · exact statesB_all h.2 x hx
  | id, [], h, x, hx => by cases hx
theorem entry_states {id keys : Int} {tn : ByteArray} {cols : List LCol} {ixs : List LIx} {sts : List LSt} (h : entryI id keys tn cols ixs sts = 0) : checkI id keys tn cols ixs = 0 ∧ sts.length = ixs.length ∧ statesB id sts = true := by
  unfold entryI at h
  by_cases h1 : checkI id keys tn cols ixs = 0
  · rw [if_neg (by rw [h1]; decide)] at h
    by_cases h2 : sts.length = ixs.length
    · rw [if_neg (by rw [h2]; exact fun h => h rfl)] at h
      refine ⟨h1, h2, ?_⟩
      cases h3 : statesB id sts with
      | true => rfl
      | false => rw [if_pos h3] at h; cases h
    · rw [if_pos h2] at h; cases h
  · rw [if_pos h1] at h; exact absurd h h1
/-- a value that is small, in range and none of another type -/
def LVal.ok (x : LVal) : Prop := x.sm ∧ x.err = 0 ∧ x.wfv
theorem lv_t0 : (ByteArray.empty).size ≤ 1048576 := by decide
theorem lv_l0 : ([] : List UInt8).length ≤ 1048576 := by decide
theorem lv_n0 : (-9223372036854775808 : Int) ≤ 0 ∧ (0 : Int) < 9223372036854775808 := by decide
theorem ok_int {n : Int} (h : -9223372036854775808 ≤ n ∧ n < 9223372036854775808) : LVal.ok (.int n) := ⟨⟨lv_t0, lv_l0⟩, rfl, h⟩
theorem ok_text {s : ByteArray} (h : s.size ≤ 1048576) : LVal.ok (.text s) := ⟨⟨h, lv_l0⟩, rfl, lv_n0⟩
theorem ok_bool (b : Bool) : LVal.ok (.bool b) := ⟨⟨lv_t0, lv_l0⟩, rfl, lv_n0⟩
theorem ok_bytes {l : List UInt8} (h : l.length ≤ 1048576) : LVal.ok (.bytes l) := ⟨⟨lv_t0, h⟩, rfl, lv_n0⟩
theorem wrXs_ok : ∀ {ixs : List LIx} {sts : List LSt}, ixs.length = sts.length → (∀ x ∈ ixs, x.name.size ≤ 16 ∧ x.cols.length ≤ 16 ∧ ∀ c ∈ x.cols, 0 ≤ c ∧ c < 16) → (∀ s ∈ sts, 0 ≤ s.phase ∧ s.phase ≤ 2 ∧ s.cur.length ≤ 401) →
    (∀ v ∈ wrXs ixs sts, v.ok) ∧ (wrXs ixs sts).length ≤ 21 * ixs.length
  | [], [], _, _, _ => ⟨fun v hv => (by cases hv), by decide⟩
  | x :: ixs, s :: sts, hl, hx, hs => by
    obtain ⟨h1, h2⟩ := wrXs_ok (ixs := ixs) (sts := sts) (by simpa using hl) (fun y hy => hx y (List.mem_cons_of_mem _ hy)) (fun y hy => hs y (List.mem_cons_of_mem _ hy))
    obtain ⟨x1, x2, x3⟩ := hx x (List.mem_cons_self ..)
    obtain ⟨s1, s2, s3⟩ := hs s (List.mem_cons_self ..)
    refine ⟨fun v hv => ?_, ?_⟩
    · have hv2 : v ∈ wrX x ++ wrS s ++ wrXs ixs sts := hv
      rcases List.mem_append.1 hv2 with hv2 | hv2
      · rcases List.mem_append.1 hv2 with hv3 | hv3
        · unfold wrX at hv3
          rcases List.mem_append.1 hv3 with hv4 | hv4
          · simp only [List.mem_cons, List.not_mem_nil, or_false] at hv4
            rcases hv4 with rfl | rfl | rfl
            · exact ok_text (by omega)
            · exact ok_bool _
            · exact ok_int (by omega)
          · obtain ⟨c, hc, rfl⟩ := List.mem_map.1 hv4
            exact ok_int (by have := x3 c hc; omega)
        · unfold wrS at hv3
          simp only [List.mem_cons, List.not_mem_nil, or_false] at hv3
          rcases hv3 with rfl | rfl
          · exact ok_int (by omega)
          · exact ok_bytes (by omega)
      · exact h1 v hv2
    · show (wrX x ++ wrS s ++ wrXs ixs sts).length ≤ _
      unfold wrX wrS
      simp only [List.length_append, List.length_cons, List.length_nil, List.length_map]
      omega
theorem flatMap_len3 : ∀ (cols : List LCol), (cols.flatMap wrC).length = 3 * cols.length
  | [] => rfl
  | c :: cols => by rw [List.flatMap_cons, List.length_append, flatMap_len3 cols, List.length_cons]; show 3 + _ = _; omega
theorem wrE_ok {e : LEnt} (h : e.check = 0) : (∀ v ∈ wrE e, v.ok) ∧ (wrE e).length ≤ 4096 := by
  obtain ⟨h1, h2, h3⟩ := entry_states h
  have k := check_ok h1
  obtain ⟨w1, w2⟩ := wrXs_ok h2.symm k.ixs (statesB_all h3)
  have n1 := k.id1
  have n2 := k.id2
  have n3 := k.keys1
  have n4 := k.keys2
  have n5 := k.ncols
  have n6 := k.nixs
  have n7 := k.name
  refine ⟨fun v hv => ?_, ?_⟩
  · unfold wrE at hv
    rcases List.mem_append.1 hv with hv | hv
    · rcases List.mem_append.1 hv with hv | hv
      · simp only [List.mem_cons, List.not_mem_nil, or_false] at hv
        rcases hv with rfl | rfl | rfl | rfl
        · exact ok_int (by omega)
        · exact ok_text (by omega)
        · exact ok_int (by omega)
        · exact ok_int (by omega)
      · obtain ⟨c, hc, hv⟩ := List.mem_flatMap.1 hv
        obtain ⟨c1, c2, c3⟩ := k.cols c hc
        unfold wrC at hv
        simp only [List.mem_cons, List.not_mem_nil, or_false] at hv
        rcases hv with rfl | rfl | rfl
        · exact ok_text (by omega)
        · exact ok_int (by omega)
        · exact ok_bool _
    · exact w1 v hv
  · unfold wrE
    rw [List.length_append, List.length_append, flatMap_len3]
    simp only [List.length_cons, List.length_nil]
    omega
/-- what is written, step by step -/
def wrHead (e : LEnt) : List LVal := [.int e.tab.id, .text e.tab.name, .int e.tab.keys, .int (e.tab.cols.length : Int)]
theorem wrC_step {cols : List LCol} {k : Nat} (h : k < cols.length) : (cols.take (k + 1)).flatMap wrC = (cols.take k).flatMap wrC ++ [.text cols[k].name, .int cols[k].kind, .bool cols[k].null] := by
  rw [List.take_succ_eq_append_getElem h, List.flatMap_append, List.flatMap_singleton]
  rfl
theorem wrXs_step : ∀ {ixs : List LIx} {sts : List LSt} {k : Nat} (h1 : k < ixs.length) (h2 : k < sts.length), wrXs (ixs.take (k + 1)) (sts.take (k + 1)) = wrXs (ixs.take k) (sts.take k) ++ ([.text ixs[k].name, .bool ixs[k].uniq, .int (ixs[k].cols.length : Int)] ++ ixs[k].cols.map LVal.int ++ [.int sts[k].phase, .bytes sts[k].cur])
  | x :: ixs, s :: sts, 0, _, _ => by
    show wrX x ++ wrS s ++ wrXs [] [] = [] ++ _
    show wrX x ++ wrS s ++ [] = _
    rw [List.append_nil]; rfl
  | x :: ixs, s :: sts, k + 1, h1, h2 => by
    show wrX x ++ wrS s ++ wrXs (ixs.take (k + 1)) (sts.take (k + 1)) = (wrX x ++ wrS s ++ wrXs (ixs.take k) (sts.take k)) ++ _
    rw [wrXs_step (by simpa using h1) (by simpa using h2), ← List.append_assoc]
    rfl
  | [], _, _, h1, _ => by cases h1
  | _ :: _, [], _, _, h2 => by cases h2
end Go.Proofs.Ytemidaamnldjmaa
