/- A table in form: the reference's Check answers as the program's. -/
import Derived.Test.YtemidaamnldjmaaForm
import Derived.BigQuiet
namespace Go.Proofs.Ytemidaamnldjmaa
open Go.RowKit Go.Maps

def hasB (l : List ByteArray) (x : ByteArray) : Bool := l.any fun y => decide (y = x)
theorem hasB_nil (x : ByteArray) : hasB [] x = false := rfl
theorem hasB_snoc (l : List ByteArray) (y x : ByteArray) : hasB (l ++ [y]) x = (hasB l x || decide (y = x)) := by
  unfold hasB; rw [List.any_append]; simp
theorem hasB_iff (l : List ByteArray) (x : ByteArray) : hasB l x = true ↔ x ∈ l := by
  unfold hasB; rw [List.any_eq_true]; simp
theorem str_eq (a b : ByteArray) : (a.toList == b.toList) = decide (a = b) := by
  rw [Bool.eq_iff_iff, beq_iff_eq, decide_eq_true_iff, ByteArray.toList_eq, ByteArray.toList_eq]
  exact ⟨fun h => WideShapes.bytes_inj h, fun h => h ▸ rfl⟩
theorem twice_nil : twiceB [] = false := by unfold twiceB; simp
theorem twice_snoc (l : List ByteArray) (x : ByteArray) : twiceB (l ++ [x]) = (twiceB l || hasB l x) := by
  rw [Bool.eq_iff_iff, Bool.or_eq_true, hasB_iff]
  unfold twiceB
  simp only [Bool.not_eq_true', decide_eq_false_iff_not]
  rw [List.nodup_append]
  constructor
  · intro h
    by_cases hl : l.Nodup
    · right
      apply Classical.byContradiction
      intro hx
      exact h ⟨hl, by simp, fun a ha b hb e => by simp only [List.mem_singleton] at hb; exact hx (by rw [← hb, ← e]; exact ha)⟩
    · exact .inl hl
  · rintro (h | h) ⟨h1, _, h2⟩
    · exact h h1
    · exact h2 x h x (by simp) rfl

theorem idx_dup {l : List Int} {a j : Nat} (hj : j < l.length) (ha : a < j) (h : l[a]'(by omega) = l[j]) : decide l.Nodup = false := by
  rw [decide_eq_false_iff_not]
  intro hn
  unfold List.Nodup at hn
  rw [List.pairwise_iff_getElem] at hn
  exact hn a j (by omega) hj ha h
theorem idx_all {l : List Int} {n : Nat} {name : ByteArray} (hn : namedB name = true) (h0 : 0 < l.length) (h : ∀ j, (hj : j < l.length) → inB n l[j] = true ∧ ∀ b, (hb : b < j) → l[b]'(by omega) ≠ l[j]) : idxB n name l = true := by
  unfold idxB
  rw [hn, decide_eq_true h0, Bool.and_true, Bool.and_true, Bool.and_eq_true]
  constructor
  · rw [List.all_eq_true]
    intro x hx
    obtain ⟨j, hj, rfl⟩ := List.getElem_of_mem hx
    exact (h j hj).1
  · rw [decide_eq_true_iff]
    unfold List.Nodup
    rw [List.pairwise_iff_getElem]
    intro i j hi hj hij
    exact (h j hj).2 i hij

set_option maxRecDepth 100000 in
set_option maxHeartbeats 8000000 in
theorem rcheck_any (id keys : Int) (tn : ByteArray) (A B : Option Addr) (cc ci : Nat) (cols : List LCol) (ixs : List LIx) (w : World) (hA : Cols w A cols) (hB : Ixs w B ixs)
    (hs : tn.size ≤ 140737488351232) (hsc : ∀ x ∈ cols, x.name.size ≤ 140737488351232) (hsx : ∀ x ∈ ixs, x.name.size ≤ 140737488351232 ∧ x.cols.length ≤ 140737488351232) :
    Calls Try.prog 6 #[.agg #[.int .i64 id, .string tn, .slice A cols.length cc, .int .i64 keys, .slice B ixs.length ci]] w
      fun e w' => e = .returned (.int .i64 (checkI id keys tn cols ixs)) ∧ Below w.heap.size w w' := by
  have HSC := Lib.hid hsc
  have HSX := Lib.hid hsx
  clear hsc hsx
  go_enter Try.func6, Try.ntmps6
  by_cases g1 : 16 < cols.length
  · have HE : Hid (checkI id keys tn cols ixs = 2) := by show _ = _; unfold checkI; rw [if_pos g1]
    go_wp2_with fail
    go_ret
    exact ⟨by rw [HE.out]; rfl, (Below.refl _ _).alloc (Nat.le_refl _) _⟩
  · by_cases g2 : 4 < ixs.length
    · have HE : Hid (checkI id keys tn cols ixs = 2) := by show _ = _; unfold checkI; rw [if_neg g1, if_pos g2]
      go_wp2_with fail
      go_ret
      exact ⟨by rw [HE.out]; rfl, (Below.refl _ _).alloc (Nat.le_refl _) _⟩
    · have bad : headB id keys tn cols.length = false → Hid (checkI id keys tn cols ixs = 3) := by
        intro h; show _ = _; unfold checkI; rw [if_neg g1, if_neg g2, if_pos h]
      by_cases h1 : id < 1
      · have HE := bad (by unfold headB; rw [decide_eq_false (show ¬ 1 ≤ id by omega)]; simp)
        clear bad
        go_wp2_with fail
        go_ret
        exact ⟨by rw [HE.out]; rfl, (Below.refl _ _).alloc (Nat.le_refl _) _⟩
      · by_cases h2 : 255 < id
        · have HE := bad (by unfold headB; rw [decide_eq_false (show ¬ id ≤ 255 by omega)]; simp)
          clear bad
          go_wp2_with fail
          go_ret
          exact ⟨by rw [HE.out]; rfl, (Below.refl _ _).alloc (Nat.le_refl _) _⟩
        · have BAD := Lib.hid bad
          clear bad
          have hb0 := Blk.new w 25 #[.int .i64 id, .string tn, .slice A cols.length cc, .int .i64 keys, .slice B ixs.length ci]
          have b01 : Below w.heap.size w (w.alloc (.cells #[.int .i64 id, .string tn, .slice A cols.length cc, .int .i64 keys, .slice B ixs.length ci] 25)) := (Below.refl _ _).alloc (Nat.le_refl _) _
          go_wp2_with fail
          refine (rnamed_any _ _ hs).mono ?_
          rintro e w1 ⟨rfl, hw1⟩
          rw [hw1] at hb0 b01
          clear hw1
          have q0 : w1.cell? ⟨w.heap.size, 3, none⟩ = some (.int .i64 keys) := hb0.cell 3
          have q1 : w1.cell? ⟨w.heap.size, 2, none⟩ = some (.slice A cols.length cc) := hb0.cell 2
          cases hn : namedB tn
          · have HE := BAD.out (by unfold headB; rw [hn]; simp)
            clear hn
            go_wp2_with fail
            go_ret
            exact ⟨by rw [HE.out]; rfl, b01⟩
          · by_cases h3 : keys < 1
            · have HE := BAD.out (by unfold headB; rw [decide_eq_false (show ¬ 1 ≤ keys by omega)]; simp)
              clear hn
              go_wp2_with fail
              go_ret
              exact ⟨by rw [HE.out]; rfl, b01⟩
            · by_cases h4 : (cols.length : Int) < keys
              · have HE := BAD.out (by unfold headB; rw [decide_eq_false (show ¬ keys ≤ (cols.length : Int) by omega)]; simp)
                clear hn
                go_wp2_with fail
                go_ret
                exact ⟨by rw [HE.out]; rfl, b01⟩
              · have hh : headB id keys tn cols.length = true := by
                  unfold headB; rw [hn, decide_eq_true (show 1 ≤ id by omega), decide_eq_true (show id ≤ 255 by omega), decide_eq_true (show 1 ≤ keys by omega), decide_eq_true (show keys ≤ (cols.length : Int) by omega)]; rfl
                have HH : Hid (checkI id keys tn cols ixs = if colsB keys cols 0 = false then 3
                    else if ixs.all (fun x => idxB cols.length x.name x.cols) = false then 3
                    else if twiceB (cols.map LCol.name) = true then 7 else if twiceB (ixs.map LIx.name) = true then 7 else 0) := by
                  show _ = _; unfold checkI; rw [if_neg g1, if_neg g2, if_neg (by rw [hh]; decide)]
                clear hh hn BAD
                go_wp2_with fail
                go_loopw [3, 4] (fun v i wr => ∃ (k : Nat), k ≤ cols.length ∧ i = .int .i64 k ∧ v = .bool (twiceB ((cols.take k).map LCol.name)) ∧
                    Blk wr w.heap.size 25 #[.int .i64 id, .string tn, .slice A cols.length cc, .int .i64 keys, .slice B ixs.length ci] ∧ colsB keys cols 0 = colsB keys (cols.drop k) k ∧ Below w.heap.size w wr) (fun _ i _ => cols.length - (intOf i).toNat)
                case atStart => exact ⟨0, Nat.zero_le _, rfl, by rw [List.take_zero, List.map_nil, twice_nil], hb0, rfl, b01⟩
                case round =>
                  obtain ⟨k, hk, rfl, rfl, hb0, hcs, hbel⟩ := hrel
                  have HC := Lib.hid hcs
                  clear hcs
                  have q2 : wr.cell? ⟨w.heap.size, 3, none⟩ = some (.int .i64 keys) := hb0.cell 3
                  have q3 : wr.cell? ⟨w.heap.size, 2, none⟩ = some (.slice A cols.length cc) := hb0.cell 2
                  have q4 : wr.cell? ⟨w.heap.size, 4, none⟩ = some (.slice B ixs.length ci) := hb0.cell 4
                  generalize hT : twiceB ((cols.take k).map LCol.name) = T
                  have HT := Lib.hid hT
                  clear hT
                  by_cases hlt : k < cols.length
                  · obtain ⟨ad, rfl, hadb, c0, c1, c2⟩ := (hA.below hbel).at_ hlt
                    have hsz := HSC.out cols[k] (List.getElem_mem hlt)
                    have hwlt : w.heap.size < wr.heap.size := hb0.lt
                    have hbk := Blk.new wr 51 #[.string cols[k].name, .int .i64 cols[k].kind, .bool cols[k].null]
                    have ba : Below wr.heap.size wr (wr.alloc (.cells #[.string cols[k].name, .int .i64 cols[k].kind, .bool cols[k].null] 51)) := (Below.refl _ _).alloc (Nat.le_refl _) _
                    go_wp2_with fail
                    refine (rnamed_any _ _ hsz).mono ?_
                    rintro e w2 ⟨rfl, hw2⟩
                    rw [hw2] at hbk ba
                    clear hw2
                    have hb2 : Below w.heap.size w w2 := hbel.trans (ba.mono hbel.size)
                    have hb02 := hb0.below ba hwlt
                    have e0 : w2.cell? ⟨wr.heap.size, 0, none⟩ = some (.string cols[k].name) := hbk.cell 0
                    have e1 : w2.cell? ⟨wr.heap.size, 1, none⟩ = some (.int .i64 cols[k].kind) := hbk.cell 1
                    have e2 : w2.cell? ⟨wr.heap.size, 2, none⟩ = some (.bool cols[k].null) := hbk.cell 2
                    have e3 : w2.cell? ⟨w.heap.size, 3, none⟩ = some (.int .i64 keys) := hb02.cell 3
                    have hsplit : cols.drop k = cols[k] :: cols.drop (k + 1) := List.drop_eq_getElem_cons hlt
                    have badc : colB cols[k] (decide ((k : Int) < keys)) = false → Hid (checkI id keys tn cols ixs = 3) := by
                      intro h; show _ = _; rw [HH.out, HC.out, hsplit]; unfold colsB; rw [h, if_pos (by rfl)]
                    have hC2 : colB cols[k] (decide ((k : Int) < keys)) = true → Hid (colsB keys cols 0 = colsB keys (cols.drop (k + 1)) (k + 1)) := by
                      intro h; show _ = _; rw [HC.out, hsplit, colsB, h, Bool.true_and]
                    clear hsplit
                    have BADC := Lib.hid badc
                    have HC2 := Lib.hid hC2
                    clear badc hC2
                    cases hnm : namedB cols[k].name
                    · have HE := BADC.out (by unfold colB; rw [hnm]; rfl)
                      clear hnm BADC HC2
                      go_wp2_with fail
                      go_ret
                      exact ⟨by rw [HE.out]; rfl, hb2⟩
                    · by_cases h5 : cols[k].kind < 1
                      · have HE := BADC.out (by unfold colB; rw [decide_eq_false (show ¬ 1 ≤ cols[k].kind by omega)]; simp)
                        clear hnm BADC HC2
                        go_wp2_with fail
                        go_ret
                        exact ⟨by rw [HE.out]; rfl, hb2⟩
                      · by_cases h6 : 4 < cols[k].kind
                        · have HE := BADC.out (by unfold colB; rw [decide_eq_false (show ¬ cols[k].kind ≤ 4 by omega)]; simp)
                          clear hnm BADC HC2
                          go_wp2_with fail
                          go_ret
                          exact ⟨by rw [HE.out]; rfl, hb2⟩
                        · have hcb : colB cols[k] (decide ((k : Int) < keys)) = !(decide ((k : Int) < keys) && cols[k].null) := by
                            unfold colB; rw [hnm, decide_eq_true (show 1 ≤ cols[k].kind by omega), decide_eq_true (show cols[k].kind ≤ 4 by omega)]; simp
                          clear hnm
                          by_cases h7 : (k : Int) < keys
                          · cases hnl : cols[k].null
                            · have HC3 := HC2.out (by rw [hcb, hnl]; simp)
                              rw [hnl] at e2
                              clear hcb hnl HC2 BADC
                              go_wp2_with fail
                              --TAIL1
                              go_loopw [3, 6] (fun v i xr => ∃ (j n : Nat), j ≤ k ∧ i = .int .i64 j ∧ v = .bool (T || hasB ((cols.take j).map LCol.name) cols[k].name) ∧ xr = w2.drewN n) (fun _ i _ => k - (intOf i).toNat)
                              case atStart => exact ⟨0, 0, Nat.zero_le _, rfl, by rw [List.take_zero, List.map_nil, hasB_nil, Bool.or_false], rfl⟩
                              case round =>
                                obtain ⟨j, n, hj, rfl, rfl, rfl⟩ := hrel
                                generalize hV : (T || hasB ((cols.take j).map LCol.name) cols[k].name) = V
                                by_cases hjk : j < k
                                · obtain ⟨ad2, had, _, d0, _, _⟩ := (hA.below hb2).at_ (show j < cols.length by omega)
                                  obtain rfl := Option.some.inj had
                                  have hstep : (T || hasB ((cols.take (j + 1)).map LCol.name) cols[k].name) = (V || decide (cols[j].name = cols[k].name)) := by
                                    rw [List.take_succ_eq_append_getElem (show j < cols.length by omega), List.map_append, List.map_cons, List.map_nil, hasB_snoc, ← Bool.or_assoc, hV]
                                  have HST := Lib.hid hstep
                                  clear hstep hV
                                  have qq : w2.cell? ⟨w.heap.size, 2, none⟩ = some (.slice (some ad) cols.length cc) := hb02.cell 2
                                  have hjlt : j < cols.length := by omega
                                  cases V
                                  · go_wp2_with fail
                                    go_quiet (fail)
                                    go_wp2_with fail
                                    go_roundw
                                    case rel => exact ⟨j + 1, _, by omega, by go_num, by rw [HST.out, Bool.false_or, ← str_eq], by first | rfl | exact World.drewN_drewN _ _ _⟩
                                    case measure => simp [intOf]; omega
                                  · go_wp2_with fail
                                    go_quiet (fail)
                                    go_wp2_with fail
                                    go_roundw
                                    case rel => exact ⟨j + 1, _, by omega, by go_num, by rw [HST.out, Bool.true_or], by first | rfl | exact World.drewN_drewN _ _ _⟩
                                    case measure => simp [intOf]; omega
                                · obtain rfl : j = k := by omega
                                  have hnew : V = twiceB ((cols.take (j + 1)).map LCol.name) := by
                                    rw [List.take_succ_eq_append_getElem hlt, List.map_append, List.map_cons, List.map_nil, twice_snoc, HT.out, ← hV]
                                  have HN := Lib.hid hnew
                                  clear hnew hV
                                  go_wp2_with fail
                                  go_roundw
                                  case rel => exact ⟨j + 1, by omega, by go_num, by rw [HN.out], hb02, HC3.out, below_drewN hb2 n⟩
                                  case measure => simp [intOf]; omega
                            · have HE := BADC.out (by rw [hcb, hnl, decide_eq_true h7]; rfl)
                              rw [hnl] at e2
                              clear hcb hnl HC2 BADC
                              go_wp2_with fail
                              go_ret
                              exact ⟨by rw [HE.out]; rfl, hb2⟩
                          · have HC3 := HC2.out (by rw [hcb, decide_eq_false h7]; rfl)
                            clear hcb HC2 BADC
                            go_wp2_with fail
                            --TAIL2
                            go_loopw [3, 6] (fun v i xr => ∃ (j n : Nat), j ≤ k ∧ i = .int .i64 j ∧ v = .bool (T || hasB ((cols.take j).map LCol.name) cols[k].name) ∧ xr = w2.drewN n) (fun _ i _ => k - (intOf i).toNat)
                            case atStart => exact ⟨0, 0, Nat.zero_le _, rfl, by rw [List.take_zero, List.map_nil, hasB_nil, Bool.or_false], rfl⟩
                            case round =>
                              obtain ⟨j, n, hj, rfl, rfl, rfl⟩ := hrel
                              generalize hV : (T || hasB ((cols.take j).map LCol.name) cols[k].name) = V
                              by_cases hjk : j < k
                              · obtain ⟨ad2, had, _, d0, _, _⟩ := (hA.below hb2).at_ (show j < cols.length by omega)
                                obtain rfl := Option.some.inj had
                                have hstep : (T || hasB ((cols.take (j + 1)).map LCol.name) cols[k].name) = (V || decide (cols[j].name = cols[k].name)) := by
                                  rw [List.take_succ_eq_append_getElem (show j < cols.length by omega), List.map_append, List.map_cons, List.map_nil, hasB_snoc, ← Bool.or_assoc, hV]
                                have HST := Lib.hid hstep
                                clear hstep hV
                                have qq : w2.cell? ⟨w.heap.size, 2, none⟩ = some (.slice (some ad) cols.length cc) := hb02.cell 2
                                have hjlt : j < cols.length := by omega
                                cases V
                                · go_wp2_with fail
                                  go_quiet (fail)
                                  go_wp2_with fail
                                  go_roundw
                                  case rel => exact ⟨j + 1, _, by omega, by go_num, by rw [HST.out, Bool.false_or, ← str_eq], by first | rfl | exact World.drewN_drewN _ _ _⟩
                                  case measure => simp [intOf]; omega
                                · go_wp2_with fail
                                  go_quiet (fail)
                                  go_wp2_with fail
                                  go_roundw
                                  case rel => exact ⟨j + 1, _, by omega, by go_num, by rw [HST.out, Bool.true_or], by first | rfl | exact World.drewN_drewN _ _ _⟩
                                  case measure => simp [intOf]; omega
                              · obtain rfl : j = k := by omega
                                have hnew : V = twiceB ((cols.take (j + 1)).map LCol.name) := by
                                  rw [List.take_succ_eq_append_getElem hlt, List.map_append, List.map_cons, List.map_nil, twice_snoc, HT.out, ← hV]
                                have HN := Lib.hid hnew
                                clear hnew hV
                                go_wp2_with fail
                                go_roundw
                                case rel => exact ⟨j + 1, by omega, by go_num, by rw [HN.out], hb02, HC3.out, below_drewN hb2 n⟩
                                case measure => simp [intOf]; omega
                  · --PART2
                    obtain rfl : k = cols.length := by omega
                    have hTv : twiceB (cols.map LCol.name) = T := by have := HT.out; rwa [List.take_length] at this
                    have HH2 : Hid (checkI id keys tn cols ixs = if ixs.all (fun x => idxB cols.length x.name x.cols) = false then 3
                        else if T = true then 7 else if twiceB (ixs.map LIx.name) = true then 7 else 0) := by
                      show _ = _
                      rw [HH.out, if_neg, hTv]
                      rw [HC.out, List.drop_length, colsB]; decide
                    clear HC HH HT hTv
                    go_wp2_with fail
                    go_loopw [3, 7] (fun v i xr => ∃ (k : Nat), k ≤ ixs.length ∧ i = .int .i64 k ∧ v = .bool (T || twiceB ((ixs.take k).map LIx.name)) ∧
                        Blk xr w.heap.size 25 #[.int .i64 id, .string tn, .slice A cols.length cc, .int .i64 keys, .slice B ixs.length ci] ∧ ixs.all (fun x => idxB cols.length x.name x.cols) = (ixs.drop k).all (fun x => idxB cols.length x.name x.cols) ∧ Below w.heap.size w xr) (fun _ i _ => ixs.length - (intOf i).toNat)
                    case atStart => exact ⟨0, Nat.zero_le _, rfl, by rw [List.take_zero, List.map_nil, twice_nil, Bool.or_false], hb0, rfl, hbel⟩
                    case round =>
                      clear hb0 hbel q2 q3 q4 q0 q1
                      obtain ⟨k, hk, rfl, rfl, hb0, hcs, hbel⟩ := hrel
                      have HC := Lib.hid hcs
                      clear hcs
                      have q3 : wr.cell? ⟨w.heap.size, 2, none⟩ = some (.slice A cols.length cc) := hb0.cell 2
                      have q4 : wr.cell? ⟨w.heap.size, 4, none⟩ = some (.slice B ixs.length ci) := hb0.cell 4
                      generalize hS : (T || twiceB ((ixs.take k).map LIx.name)) = S
                      have HS := Lib.hid hS
                      clear hS
                      by_cases hlt : k < ixs.length
                      · obtain ⟨ad, C, c, rfl, hadb, c0, c1, c2, hI⟩ := (hB.below hbel).at_ hlt
                        have hsz := HSX.out ixs[k] (List.getElem_mem hlt)
                        have hsplit : ixs.drop k = ixs[k] :: ixs.drop (k + 1) := List.drop_eq_getElem_cons hlt
                        have badc : idxB cols.length ixs[k].name ixs[k].cols = false → Hid (checkI id keys tn cols ixs = 3) := by
                          intro h; show _ = _; rw [HH2.out, HC.out, hsplit, List.all_cons, h, Bool.false_and, if_pos rfl]
                        have hC2 : idxB cols.length ixs[k].name ixs[k].cols = true → Hid (ixs.all (fun x => idxB cols.length x.name x.cols) = (ixs.drop (k + 1)).all (fun x => idxB cols.length x.name x.cols)) := by
                          intro h; show _ = _; rw [HC.out, hsplit, List.all_cons, h, Bool.true_and]
                        have hnew0 : twiceB ((ixs.take (k + 1)).map LIx.name) = (twiceB ((ixs.take k).map LIx.name) || hasB ((ixs.take k).map LIx.name) ixs[k].name) := by
                          rw [List.take_succ_eq_append_getElem hlt, List.map_append, List.map_cons, List.map_nil, twice_snoc]
                        have HNEW := Lib.hid hnew0
                        clear hsplit hnew0
                        generalize ixs[k].name = nm at *
                        generalize ixs[k].cols = xs at *
                        generalize ixs[k].uniq = uq at *
                        have BADC := Lib.hid badc
                        have HC2 := Lib.hid hC2
                        clear badc hC2
                        have hwlt : w.heap.size < wr.heap.size := hb0.lt
                        have hbk := Blk.new wr 55 #[.string nm, .slice C xs.length c, .bool uq]
                        have ba : Below wr.heap.size wr (wr.alloc (.cells #[.string nm, .slice C xs.length c, .bool uq] 55)) := (Below.refl _ _).alloc (Nat.le_refl _) _
                        go_wp2_with fail
                        refine (rnamed_any _ _ hsz.1).mono ?_
                        rintro e w2 ⟨rfl, hw2⟩
                        rw [hw2] at hbk ba
                        clear hw2
                        have hb2 : Below w.heap.size w w2 := hbel.trans (ba.mono hbel.size)
                        have hb02 := hb0.below ba hwlt
                        have e0 : w2.cell? ⟨wr.heap.size, 0, none⟩ = some (.string nm) := hbk.cell 0
                        have e1 : w2.cell? ⟨wr.heap.size, 1, none⟩ = some (.slice C xs.length c) := hbk.cell 1
                        have e3 : w2.cell? ⟨w.heap.size, 2, none⟩ = some (.slice A cols.length cc) := hb02.cell 2
                        have e4 : w2.cell? ⟨w.heap.size, 4, none⟩ = some (.slice (some ad) ixs.length ci) := hb02.cell 4
                        have hI2 := hI.below ba
                        have hxl := hsz.2
                        cases hnm : namedB nm
                        · have HE := BADC.out (by unfold idxB; rw [hnm]; simp)
                          clear hnm BADC HC2
                          go_wp2_with fail
                          go_ret
                          exact ⟨by rw [HE.out]; rfl, hb2⟩
                        · by_cases h0 : xs.length = 0
                          · have HE := BADC.out (by unfold idxB; rw [decide_eq_false (show ¬ 0 < xs.length by omega)]; simp)
                            clear hnm BADC HC2
                            go_wp2_with fail
                            go_ret
                            exact ⟨by rw [HE.out]; rfl, hb2⟩
                          · have HNM := Lib.hid hnm
                            clear hnm
                            have hx0 : ((xs.length : Int) == 0) = false := by rw [beq_eq_false_iff_ne]; omega
                            go_wp2_with fail
                            go_loopw [9] (fun i xr => ∃ (j n : Nat), j ≤ xs.length ∧ i = .int .i64 j ∧ (∀ a, a < j → (ha : a < xs.length) → inB cols.length xs[a] = true ∧ ∀ b, (hb : b < a) → xs[b]'(by omega) ≠ xs[a]) ∧ xr = w2.drewN n) (fun i _ => xs.length - (intOf i).toNat)
                            case atStart => exact ⟨0, 0, Nat.zero_le _, rfl, fun a ha => absurd ha (by omega), rfl⟩
                            case round =>
                              obtain ⟨j, n, hj, rfl, hall, rfl⟩ := hrel
                              have HA := Lib.hid hall
                              clear hall
                              by_cases hjl : j < xs.length
                              · obtain ⟨cd, rfl, _, hcell⟩ := hI2.at_ hjl
                                by_cases hneg : xs[j] < 0
                                · have HE := BADC.out (idxB_bad hjl (by unfold inB; simp; omega))
                                  clear BADC HC2
                                  go_wp2_with fail
                                  go_quiet (fail)
                                  go_wp2_with fail
                                  go_ret
                                  exact ⟨by rw [HE.out]; rfl, by first | exact below_drewN hb2 _ | exact below_drewN (below_drewN hb2 _) _⟩
                                · by_cases hbig : (cols.length : Int) ≤ xs[j]
                                  · have HE := BADC.out (idxB_bad hjl (by unfold inB; simp; omega))
                                    clear BADC HC2
                                    go_wp2_with fail
                                    go_quiet (fail)
                                    go_wp2_with fail
                                    go_ret
                                    exact ⟨by rw [HE.out]; rfl, by first | exact below_drewN hb2 _ | exact below_drewN (below_drewN hb2 _) _⟩
                                  · have hin : inB cols.length xs[j] = true := by unfold inB; simp; omega
                                    have HI := Lib.hid hin
                                    clear hin
                                    go_wp2_with fail
                                    go_quiet (fail)
                                    go_wp2_with fail
                                    go_loopw [10] (fun i xr => ∃ (a n : Nat), a ≤ j ∧ i = .int .i64 a ∧ (∀ b, (hb : b < a) → (hbj : b < xs.length) → xs[b] ≠ xs[j]) ∧ xr = w2.drewN n) (fun i _ => j - (intOf i).toNat)
                                    case atStart => exact ⟨0, _, Nat.zero_le _, rfl, fun b hb => absurd hb (by omega), by first | rfl | exact World.drewN_drewN _ _ _⟩
                                    case round =>
                                      obtain ⟨a, n, haj, rfl, hne, rfl⟩ := hrel
                                      have HN := Lib.hid hne
                                      clear hne
                                      by_cases hlta : a < j
                                      · have hal : a < xs.length := by omega
                                        obtain ⟨cd2, hcd, _, hcell2⟩ := hI2.at_ hal
                                        obtain rfl := Option.some.inj hcd
                                        by_cases heq : xs[a] = xs[j]
                                        · have HE := BADC.out (by unfold idxB; rw [idx_dup hjl hlta heq, Bool.and_false])
                                          clear BADC HC2
                                          go_wp2_with fail
                                          go_quiet (fail)
                                          go_wp2_with fail
                                          go_ret
                                          exact ⟨by rw [HE.out]; rfl, by first | exact below_drewN hb2 _ | exact below_drewN (below_drewN hb2 _) _⟩
                                        · go_wp2_with fail
                                          go_quiet (fail)
                                          go_wp2_with fail
                                          go_roundw
                                          case rel =>
                                            refine ⟨a + 1, _, by omega, by go_num, ?_, by first | rfl | exact World.drewN_drewN _ _ _⟩
                                            intro b hb hbj
                                            by_cases e : b = a
                                            · subst e; exact heq
                                            · exact HN.out b (by omega) hbj
                                          case measure => simp [intOf]; omega
                                      · obtain rfl : a = j := by omega
                                        go_wp2_with fail
                                        go_roundw
                                        case rel =>
                                          have hnx : ∀ d, d < a + 1 → (hdl : d < xs.length) → inB cols.length xs[d] = true ∧ ∀ b, (hb : b < d) → xs[b]'(by omega) ≠ xs[d] := by
                                            intro d hd hdl
                                            by_cases e : d = a
                                            · subst e; exact ⟨HI.out, fun b hb => HN.out b hb (by omega)⟩
                                            · exact HA.out d (by omega) hdl
                                          first
                                            | exact ⟨a + 1, _, by omega, by go_num, hnx, rfl⟩
                                            | ((repeat apply Exists.intro); refine ⟨?_, rfl⟩; exact ⟨a + 1, _, by omega, by go_num, hnx, rfl⟩)
                                        case measure => simp [intOf]; omega
                              · obtain rfl : j = xs.length := by omega
                                have HC3 := HC2.out (idx_all HNM.out (by omega) (fun d hd => HA.out d hd hd))
                                clear HC2 BADC HNM HA
                                go_wp2_with fail
                                go_loopw [3, 11] (fun v i xr => ∃ (j n : Nat), j ≤ k ∧ i = .int .i64 j ∧ v = .bool (S || hasB ((ixs.take j).map LIx.name) nm) ∧ xr = w2.drewN n) (fun _ i _ => k - (intOf i).toNat)
                                case atStart => exact ⟨0, _, Nat.zero_le _, rfl, by rw [List.take_zero, List.map_nil, hasB_nil, Bool.or_false], rfl⟩
                                case round =>
                                  obtain ⟨j, n, hj, rfl, rfl, rfl⟩ := hrel
                                  generalize hV : (S || hasB ((ixs.take j).map LIx.name) nm) = V
                                  by_cases hjk : j < k
                                  · obtain ⟨ad2, C2, c2', had, _, d0, _, _⟩ := (hB.below hb2).at_ (show j < ixs.length by omega)
                                    obtain rfl := Option.some.inj had
                                    have hstep : (S || hasB ((ixs.take (j + 1)).map LIx.name) nm) = (V || decide (ixs[j].name = nm)) := by
                                      rw [List.take_succ_eq_append_getElem (show j < ixs.length by omega), List.map_append, List.map_cons, List.map_nil, hasB_snoc, ← Bool.or_assoc, hV]
                                    have HST := Lib.hid hstep
                                    clear hstep hV
                                    have hjlt : j < ixs.length := by omega
                                    cases V
                                    · go_wp2_with fail
                                      go_quiet (fail)
                                      go_wp2_with fail
                                      go_roundw
                                      case rel => first | exact ⟨j + 1, _, by omega, by go_num, by rw [HST.out, Bool.false_or, ← str_eq], by first | rfl | exact World.drewN_drewN _ _ _⟩ | ((repeat apply Exists.intro); refine ⟨?_, rfl⟩; exact ⟨j + 1, _, by omega, by go_num, by rw [HST.out, Bool.false_or, ← str_eq], by first | rfl | exact World.drewN_drewN _ _ _⟩)
                                      case measure => simp [intOf]; omega
                                    · go_wp2_with fail
                                      go_quiet (fail)
                                      go_wp2_with fail
                                      go_roundw
                                      case rel => first | exact ⟨j + 1, _, by omega, by go_num, by rw [HST.out, Bool.true_or], by first | rfl | exact World.drewN_drewN _ _ _⟩ | ((repeat apply Exists.intro); refine ⟨?_, rfl⟩; exact ⟨j + 1, _, by omega, by go_num, by rw [HST.out, Bool.true_or], by first | rfl | exact World.drewN_drewN _ _ _⟩)
                                      case measure => simp [intOf]; omega
                                  · obtain rfl : j = k := by omega
                                    have hnew : V = (T || twiceB ((ixs.take (j + 1)).map LIx.name)) := by
                                      rw [HNEW.out, ← Bool.or_assoc, HS.out, ← hV]
                                    have HN := Lib.hid hnew
                                    clear hnew hV
                                    go_wp2_with fail
                                    go_roundw
                                    case rel => first | exact ⟨j + 1, by omega, by go_num, by rw [HN.out], hb02, HC3.out, below_drewN hb2 n⟩ | ((repeat apply Exists.intro); refine ⟨?_, rfl⟩; exact ⟨j + 1, by omega, by go_num, by rw [HN.out], hb02, HC3.out, below_drewN hb2 n⟩)
                                    case measure => simp [intOf]; omega
                      · obtain rfl : k = ixs.length := by omega
                        have hSv : S = (T || twiceB (ixs.map LIx.name)) := by have := HS.out; rw [List.take_length] at this; exact this.symm
                        have HE0 : Hid (checkI id keys tn cols ixs = if S = true then 7 else 0) := by
                          show _ = _
                          rw [HH2.out, if_neg (by rw [HC.out, List.drop_length, List.all_nil]; decide), hSv]
                          cases T <;> cases twiceB (ixs.map LIx.name) <;> rfl
                        clear hSv HC HS HH2
                        cases S
                        · have HE : Hid (checkI id keys tn cols ixs = 0) := by show _ = _; rw [HE0.out, if_neg (by decide)]
                          clear HE0
                          go_wp2_with fail
                          go_ret
                          exact ⟨by rw [HE.out]; rfl, hbel⟩
                        · have HE : Hid (checkI id keys tn cols ixs = 7) := by show _ = _; rw [HE0.out, if_pos rfl]
                          clear HE0
                          go_wp2_with fail
                          go_ret
                          exact ⟨by rw [HE.out]; rfl, hbel⟩

end Go.Proofs.Ytemidaamnldjmaa
