/- A table in form: the program's row.Check. -/
import Derived.Test.YtemidaamnldjmaaTable
import Derived.Deep.DeepCutAuto
import Derived.Deep.LoopGhost
namespace Go.Proofs.Ytemidaamnldjmaa
open Go.RowKit Go.Maps

theorem flat_at {α : Type} {cells : α → List Value} {size j : Nat} (hs : ∀ x, (cells x).length = size) (hj : j < size) : ∀ (l : List α) (k : Nat) (hk : k < l.length), (l.flatMap cells)[k * size + j]? = (cells l[k])[j]?
  | [], k, hk => by cases hk
  | x :: l, 0, _ => by
    rw [List.flatMap_cons, List.getElem?_append_left (by rw [hs]; omega)]; simp
  | x :: l, k + 1, hk => by
    have e : (k + 1) * size + j = size + (k * size + j) := by rw [Nat.succ_mul]; omega
    rw [List.flatMap_cons, e, List.getElem?_append_right (by rw [hs]; omega), hs, Nat.add_sub_cancel_left]
    exact flat_at hs hj l k (by simpa using hk)

/-- rows of n cells each: the cells of element k -/
theorem Reads.ats {w : World} {B size n : Nat} {A : Option Addr} {α : Type} {cells : α → List Value} {l : List α} (hs : ∀ x, (cells x).length = size) (h : Reads w B size A n (l.flatMap cells)) {k : Nat} (hk : k < l.length) (hn : 0 < n) :
    ∃ ad, A = some ad ∧ ad.block < B ∧ ∀ j u, (cells l[k])[j]? = some u → w.cell? (ad.add (k * size + j)) = some u := by
  obtain ⟨ad, rfl, hb, hc⟩ := h.2 hn
  refine ⟨ad, rfl, hb, fun j u hu => hc _ _ ?_⟩
  have hj : j < size := by
    rw [← hs l[k]]; exact (List.getElem?_eq_some_iff.1 hu).1
  rw [flat_at hs hj l k hk, hu]

/-- an index: its name, its columns, unique -/
structure LIx where
  name : ByteArray
  cols : List Int
  uniq : Bool

def Cols (w : World) (A : Option Addr) (l : List LCol) : Prop := Reads w w.heap.size 3 A l.length (l.flatMap LCol.cells)
theorem Cols.at_ {w : World} {A : Option Addr} {l : List LCol} (h : Cols w A l) {k : Nat} (hk : k < l.length) :
    ∃ ad, A = some ad ∧ ad.block < w.heap.size ∧ w.cell? (ad.add (k * 3)) = some (.string l[k].name) ∧ w.cell? ⟨(ad.add (k * 3)).block, (ad.add (k * 3)).off + 1, none⟩ = some (.int .i64 l[k].kind) ∧ w.cell? ⟨(ad.add (k * 3)).block, (ad.add (k * 3)).off + 2, none⟩ = some (.bool l[k].null) := by
  obtain ⟨ad, rfl, hb, hc⟩ := Reads.ats (size := 3) (fun _ => rfl) (show Reads w w.heap.size 3 A l.length (l.flatMap LCol.cells) from h) hk (by omega)
  exact ⟨ad, rfl, hb, by simpa using hc 0 _ rfl, (congrArg w.cell? (add_of_add ad (k * 3) 1)).trans (hc 1 _ rfl), (congrArg w.cell? (add_of_add ad (k * 3) 2)).trans (hc 2 _ rfl)⟩
theorem Cols.below {w w' : World} {A : Option Addr} {l : List LCol} (h : Cols w A l) (hb : Below w.heap.size w w') : Cols w' A l := (Reads.below h hb).more hb.size

/-- indexes: each row of 3 cells, its columns read as numbers -/
def Ixs (w : World) (A : Option Addr) (l : List LIx) : Prop :=
  ∃ vs : List Value, vs.length = l.length ∧ Reads w w.heap.size 3 A l.length (l.zip vs |>.flatMap fun p => [.string p.1.name, p.2, .bool p.1.uniq]) ∧
    ∀ i (h : i < l.length), ∃ C c, vs[i]? = some (.slice C l[i].cols.length c) ∧ Is w C l[i].cols
theorem Ixs.at_ {w : World} {A : Option Addr} {l : List LIx} (h : Ixs w A l) {k : Nat} (hk : k < l.length) :
    ∃ ad C c, A = some ad ∧ ad.block < w.heap.size ∧ w.cell? (ad.add (k * 3)) = some (.string l[k].name) ∧ w.cell? ⟨(ad.add (k * 3)).block, (ad.add (k * 3)).off + 1, none⟩ = some (.slice C l[k].cols.length c) ∧ w.cell? ⟨(ad.add (k * 3)).block, (ad.add (k * 3)).off + 2, none⟩ = some (.bool l[k].uniq) ∧ Is w C l[k].cols := by
  obtain ⟨vs, hl, hr, hi⟩ := h
  obtain ⟨C, c, hv, hI⟩ := hi k hk
  have hkz : k < (l.zip vs).length := by rw [List.length_zip, hl, Nat.min_self]; exact hk
  obtain ⟨ad, rfl, hb, hc⟩ := Reads.ats (size := 3) (fun _ => rfl) hr hkz (by omega)
  have hvk : k < vs.length := by omega
  have e : (l.zip vs)[k] = (l[k], .slice C l[k].cols.length c) := by
    rw [List.getElem_zip]; rw [List.getElem?_eq_getElem hvk] at hv; simp only [Option.some.injEq] at hv; rw [hv]
  rw [e] at hc
  exact ⟨ad, C, c, rfl, hb, by simpa using hc 0 _ rfl, (congrArg w.cell? (add_of_add ad (k * 3) 1)).trans (hc 1 _ rfl), (congrArg w.cell? (add_of_add ad (k * 3) 2)).trans (hc 2 _ rfl), hI⟩
theorem Ixs.below {w w' : World} {A : Option Addr} {l : List LIx} (h : Ixs w A l) (hb : Below w.heap.size w w') : Ixs w' A l := by
  obtain ⟨vs, hl, hr, hi⟩ := h
  refine ⟨vs, hl, (Reads.below hr hb).more hb.size, fun i hh => ?_⟩
  obtain ⟨C, c, hv, hI⟩ := hi i hh
  exact ⟨C, c, hv, hI.below hb⟩


theorem Try.infoS : (Try.prog.info? 9).map (fun i => (i.zero, i.size, i.bytes)) = some (some (.string ByteArray.empty), 1, 16) := by kernel_rfl

/-- the form of a table's own: id, name, keys -/
def headB (id keys : Int) (tn : ByteArray) (n : Nat) : Bool := decide (1 ≤ id) && decide (id ≤ 255) && namedB tn && decide (1 ≤ keys) && decide (keys ≤ (n : Int))
def colsB (keys : Int) : List LCol → Nat → Bool
  | [], _ => true
  | c :: l, i => colB c (decide ((i : Int) < keys)) && colsB keys l (i + 1)
def checkI (id keys : Int) (tn : ByteArray) (cols : List LCol) (ixs : List LIx) : Int :=
  if 16 < cols.length then 2 else if 4 < ixs.length then 2 else if headB id keys tn cols.length = false then 3
  else if colsB keys cols 0 = false then 3
  else if ixs.all (fun x => idxB cols.length x.name x.cols) = false then 3
  else if twiceB (cols.map LCol.name) = true then 7 else if twiceB (ixs.map LIx.name) = true then 7 else 0

set_option maxRecDepth 100000 in
set_option maxHeartbeats 2000000 in
theorem check_any (id keys : Int) (tn : ByteArray) (A B : Option Addr) (cc ci : Nat) (cols : List LCol) (ixs : List LIx) (w : World) (hA : Cols w A cols) (hB : Ixs w B ixs)
    (hs : tn.size ≤ 140737488351232) (hsc : ∀ x ∈ cols, x.name.size ≤ 140737488351232) (hsx : ∀ x ∈ ixs, x.name.size ≤ 140737488351232 ∧ x.cols.length ≤ 140737488351232) :
    Calls Try.prog 20 #[.agg #[.int .i64 id, .string tn, .slice A cols.length cc, .int .i64 keys, .slice B ixs.length ci]] w
      fun e w' => e = .returned (.int .i64 (checkI id keys tn cols ixs)) ∧ Below w.heap.size w w' := by
  obtain ⟨i0, hi0, hz0, hz1, hz2⟩ := info_parts Try.infoS
  have HSC := Lib.hid hsc
  have HSX := Lib.hid hsx
  clear hsc hsx
  go_enter Try.func20, Try.ntmps20
  by_cases g1 : 16 < cols.length
  · have HE : Hid (checkI id keys tn cols ixs = 2) := by show _ = _; unfold checkI; rw [if_pos g1]
    go_wp2_with fail
    go_ret
    exact ⟨by rw [HE.out]; rfl, (Below.refl _ _).alloc (Nat.le_refl _) _⟩
  · by_cases g2 : 4 < ixs.length
    · have HE : Hid (checkI id keys tn cols ixs = 2) := by show _ = _; unfold checkI; rw [if_neg g1, if_pos g2]
      go_wp2_with fail
      go_ret
      exact ⟨by rw [HE.out]; rfl, (Below.refl _ _).alloc (Nat.le_refl _) _⟩
    · have bad : headB id keys tn cols.length = false → Hid (checkI id keys tn cols ixs = 3) := by
        intro h; show _ = _; unfold checkI; rw [if_neg g1, if_neg g2, if_pos h]
      by_cases h1 : id < 1
      · have HE := bad (by unfold headB; rw [decide_eq_false (show ¬ 1 ≤ id by omega)]; simp)
        clear bad
        go_wp2_with fail
        go_ret
        exact ⟨by rw [HE.out]; rfl, (Below.refl _ _).alloc (Nat.le_refl _) _⟩
      · by_cases h2 : 255 < id
        · have HE := bad (by unfold headB; rw [decide_eq_false (show ¬ id ≤ 255 by omega)]; simp)
          clear bad
          go_wp2_with fail
          go_ret
          exact ⟨by rw [HE.out]; rfl, (Below.refl _ _).alloc (Nat.le_refl _) _⟩
        · have BAD := Lib.hid bad
          clear bad
          go_wp2_with fail
          refine (named_any _ _ hs).mono ?_
          rintro e w1 ⟨rfl, b1⟩
          have b01 : Below w.heap.size w w1 := ((Below.refl _ _).alloc (Nat.le_refl _) _).trans (b1.mono (by simp))
          have hbk := (Blk.new w 25 #[.int .i64 id, .string tn, .slice A cols.length cc, .int .i64 keys, .slice B ixs.length ci]).below b1 (by simp)
          have q0 : w1.cell? ⟨w.heap.size, 3, none⟩ = some (.int .i64 keys) := hbk.cell 3
          have q1 : w1.cell? ⟨w.heap.size, 2, none⟩ = some (.slice A cols.length cc) := hbk.cell 2
          cases hn : namedB tn
          · have HE := BAD.out (by unfold headB; rw [hn]; simp)
            clear hn
            go_wp2_with fail
            go_ret
            exact ⟨by rw [HE.out]; rfl, b01⟩
          · by_cases h3 : keys < 1
            · have HE := BAD.out (by unfold headB; rw [decide_eq_false (show ¬ 1 ≤ keys by omega)]; simp)
              clear hn
              go_wp2_with fail
              go_ret
              exact ⟨by rw [HE.out]; rfl, b01⟩
            · by_cases h4 : (cols.length : Int) < keys
              · have HE := BAD.out (by unfold headB; rw [decide_eq_false (show ¬ keys ≤ (cols.length : Int) by omega)]; simp)
                clear hn
                go_wp2_with fail
                go_ret
                exact ⟨by rw [HE.out]; rfl, b01⟩
              · have hh : headB id keys tn cols.length = true := by
                  unfold headB; rw [hn, decide_eq_true (show 1 ≤ id by omega), decide_eq_true (show id ≤ 255 by omega), decide_eq_true (show 1 ≤ keys by omega), decide_eq_true (show keys ≤ (cols.length : Int) by omega)]; rfl
                have HH : Hid (checkI id keys tn cols ixs = if colsB keys cols 0 = false then 3
                    else if ixs.all (fun x => idxB cols.length x.name x.cols) = false then 3
                    else if twiceB (cols.map LCol.name) = true then 7 else if twiceB (ixs.map LIx.name) = true then 7 else 0) := by
                  show _ = _; unfold checkI; rw [if_neg g1, if_neg g2, if_neg (by rw [hh]; decide)]
                clear hh hn BAD
                have hbase : w.heap.size + 1 ≤ w1.heap.size := by have := b1.size; simpa using this
                go_wp2_with fail
                go_loopw [3, 49] (fun v i wr => ∃ (k : Nat), k ≤ cols.length ∧ i = .int .i64 k ∧ wr.ownsRow (w.heap.size + 1) 9 1 v k ((cols.take k).map fun c => .string c.name) ∧
                    Blk wr w.heap.size 25 #[.int .i64 id, .string tn, .slice A cols.length cc, .int .i64 keys, .slice B ixs.length ci] ∧ colsB keys cols 0 = colsB keys (cols.drop k) k ∧ Below w.heap.size w wr) (fun _ i _ => cols.length - (intOf i).toNat)
                case atStart => exact ⟨0, Nat.zero_le _, rfl, World.ownsRow_nil _ _ _ _, hbk, rfl, b01⟩
                case round =>
                  obtain ⟨k, hk, rfl, hown, hb0, hcs, hbel⟩ := hrel
                  have HC := Lib.hid hcs
                  clear hcs
                  have q2 : wr.cell? ⟨w.heap.size, 3, none⟩ = some (.int .i64 keys) := hb0.cell 3
                  have q3 : wr.cell? ⟨w.heap.size, 2, none⟩ = some (.slice A cols.length cc) := hb0.cell 2
                  have q4 : wr.cell? ⟨w.heap.size, 4, none⟩ = some (.slice B ixs.length ci) := hb0.cell 4
                  by_cases hlt : k < cols.length
                  · obtain ⟨ad, rfl, hadb, c0, c1, c2⟩ := (hA.below hbel).at_ hlt
                    have hsz := HSC.out cols[k] (List.getElem_mem hlt)
                    have hwlt : w.heap.size < wr.heap.size := hb0.lt
                    go_wp2_with fail
                    refine (column_any _ _ _ _ _ hsz).mono ?_
                    rintro e w2 ⟨rfl, b2⟩
                    have hbk2 := (Blk.new wr 51 #[.string cols[k].name, .int .i64 cols[k].kind, .bool cols[k].null]).below b2 (by simp)
                    have e0 : w2.cell? ⟨wr.heap.size, 0, none⟩ = some (.string cols[k].name) := hbk2.cell 0
                    have ba : Below wr.heap.size wr w2 := ((Below.refl _ _).alloc (Nat.le_refl _) _).trans (b2.mono (by simp))
                    have hb2 : Below w.heap.size w w2 := hbel.trans (ba.mono hbel.size)
                    have hb02 := hb0.below ba hwlt
                    have hown2 := own_below hown ba
                    have hsplit : cols.drop k = cols[k] :: cols.drop (k + 1) := List.drop_eq_getElem_cons hlt
                    cases hc : colB ⟨cols[k].name, cols[k].kind, cols[k].null⟩ (decide ((k : Int) < keys))
                    · have HB : Hid (checkI id keys tn cols ixs = 3) := by
                        show _ = _; rw [HH.out, HC.out, hsplit]; unfold colsB; rw [show colB cols[k] (decide ((k : Int) < keys)) = false from hc, if_pos (by rfl)]
                      clear hc hsplit
                      go_wp2_with fail
                      go_ret
                      exact ⟨by rw [HB.out]; rfl, hb2⟩
                    · have HC2 : Hid (colsB keys cols 0 = colsB keys (cols.drop (k + 1)) (k + 1)) := by
                        show _ = _; rw [HC.out, hsplit, colsB, show colB cols[k] (decide ((k : Int) < keys)) = true from hc, Bool.true_and]
                      clear hc hsplit
                      have hrd := Reads.new1 w2 (.string cols[k].name) 9
                      have hsz2 := hb2.size
                      have hba := ba.size
                      go_wp2_with (at_builtin; (refine wpList_append_any _ rfl (.tmp 61) (.tmp 64) _ rfl (w.heap.size + 1) 9 i0 _ 1 16 Try.underlying77 hi0 hz0 hz1 hz2 rfl (by omega) _ k _ rfl (hown2.alloc _) _ _ 1 1 [.string cols[k].name] rfl hrd (by simp [Value.oneCell']) (by simp only [maxLen]; omega) (by omega) (by simp; omega) ?_); intro v3 w3 hown3 hg3 hat3)
                      have hb3 : Below w.heap.size w w3 := (hb2.alloc hb2.size _).grown hg3 (by simp; omega) (fun g hg => by have := (hown.lt g hg).1; omega)
                      have hb03 := (hb02.alloc (.cells #[.string cols[k].name] 9)).grown hg3 (fun h => by have := (hown.lt _ (Eq.symm h)).1; omega)
                      go_roundw
                      case rel => exact ⟨k + 1, by omega, by go_num, by rw [List.take_succ_eq_append_getElem hlt, List.map_append]; exact hown3, hb03, HC2.out, hb3⟩
                      case measure => simp [intOf]; omega
                  · obtain rfl : k = cols.length := by omega
                    have HC2 : Hid (checkI id keys tn cols ixs = if ixs.all (fun x => idxB cols.length x.name x.cols) = false then 3
                        else if twiceB (cols.map LCol.name) = true then 7 else if twiceB (ixs.map LIx.name) = true then 7 else 0) := by
                      show _ = _
                      rw [HH.out, if_neg]
                      rw [HC.out, List.drop_length, colsB]; decide
                    clear HC HH
                    obtain ⟨A1, c1, hv⟩ := own_shape hown
                    rw [List.take_length] at hown
                    have hss : Ss wr A1 (cols.map LCol.name) := by
                      have h := hown
                      rw [hv] at h
                      have := Reads.of_own h
                      unfold Ss
                      rw [List.length_map, List.map_map]
                      exact this
                    clear hown
                    subst hv
                    have hwlt : w.heap.size < wr.heap.size := hb0.lt
                    have hBr := hB.below hbel
                    obtain ⟨wo, rfl⟩ : ∃ wo : World, wo = wr := ⟨_, rfl⟩
                    go_wp2_with fail
                    go_loopw [4, 70] (fun v i xr => ∃ (k : Nat), k ≤ ixs.length ∧ i = .int .i64 k ∧ xr.ownsRow wo.heap.size 9 1 v k ((ixs.take k).map fun c => .string c.name) ∧
                        Blk xr w.heap.size 25 #[.int .i64 id, .string tn, .slice A cols.length cc, .int .i64 keys, .slice B ixs.length ci] ∧ ixs.all (fun x => idxB cols.length x.name x.cols) = (ixs.drop k).all (fun x => idxB cols.length x.name x.cols) ∧ Below wo.heap.size wo xr) (fun _ i _ => ixs.length - (intOf i).toNat)
                    case atStart => exact ⟨0, Nat.zero_le _, rfl, World.ownsRow_nil _ _ _ _, hb0, rfl, Below.refl _ _⟩
                    case round =>
                      clear hb0 q2 q3 q4
                      obtain ⟨k, hk, rfl, hown, hb0, hcs, hbx⟩ := hrel
                      have HC := Lib.hid hcs
                      clear hcs
                      have x0 : wr.cell? ⟨w.heap.size, 0, none⟩ = some (.int .i64 id) := hb0.cell 0
                      have x1 : wr.cell? ⟨w.heap.size, 1, none⟩ = some (.string tn) := hb0.cell 1
                      have x2 : wr.cell? ⟨w.heap.size, 2, none⟩ = some (.slice A cols.length cc) := hb0.cell 2
                      have x3 : wr.cell? ⟨w.heap.size, 3, none⟩ = some (.int .i64 keys) := hb0.cell 3
                      have x4 : wr.cell? ⟨w.heap.size, 4, none⟩ = some (.slice B ixs.length ci) := hb0.cell 4
                      have hxlt : w.heap.size < wr.heap.size := hb0.lt
                      have hbw : Below w.heap.size w wr := hbel.trans (hbx.mono hbel.size)
                      by_cases hlt : k < ixs.length
                      · obtain ⟨ad, C, c, rfl, hadb, c0, c1, c2, hI⟩ := (hBr.below hbx).at_ hlt
                        have hsz := HSX.out ixs[k] (List.getElem_mem hlt)
                        go_wp2_with fail
                        refine (index_any _ _ _ _ _ _ _ _ _ _ _ _ _ _ _ (hI.below ((Below.refl _ _).alloc (Nat.le_refl _) _)) hsz.2 hsz.1).mono ?_
                        rintro e w2 ⟨rfl, b2⟩
                        have hbk2 := (Blk.new wr 55 #[.string ixs[k].name, .slice C ixs[k].cols.length c, .bool ixs[k].uniq]).below b2 (by simp)
                        have e0 : w2.cell? ⟨wr.heap.size, 0, none⟩ = some (.string ixs[k].name) := hbk2.cell 0
                        have ba : Below wr.heap.size wr w2 := ((Below.refl _ _).alloc (Nat.le_refl _) _).trans (b2.mono (by simp))
                        have hb2 : Below wo.heap.size wo w2 := hbx.trans (ba.mono hbx.size)
                        have hb02 := hb0.below ba hxlt
                        have hown2 := own_below hown ba
                        have hsplit : ixs.drop k = ixs[k] :: ixs.drop (k + 1) := List.drop_eq_getElem_cons hlt
                        cases hc : idxB cols.length ixs[k].name ixs[k].cols
                        · have HB : Hid (checkI id keys tn cols ixs = 3) := by
                            show _ = _; rw [HC2.out, HC.out, hsplit, List.all_cons, hc, Bool.false_and, if_pos rfl]
                          clear hc hsplit
                          go_wp2_with fail
                          go_ret
                          exact ⟨by rw [HB.out]; rfl, hbw.trans (ba.mono hbw.size)⟩
                        · have HC3 : Hid (ixs.all (fun x => idxB cols.length x.name x.cols) = (ixs.drop (k + 1)).all (fun x => idxB cols.length x.name x.cols)) := by
                            show _ = _; rw [HC.out, hsplit, List.all_cons, hc, Bool.true_and]
                          clear hc hsplit
                          have hrd := Reads.new1 w2 (.string ixs[k].name) 9
                          have hsz2 := hb2.size
                          have hba := ba.size
                          go_wp2_with (at_builtin; (refine wpList_append_any _ rfl (.tmp 78) (.tmp 81) _ rfl wo.heap.size 9 i0 _ 1 16 Try.underlying77 hi0 hz0 hz1 hz2 rfl (by omega) _ k _ rfl (hown2.alloc _) _ _ 1 1 [.string ixs[k].name] rfl hrd (by simp [Value.oneCell']) (by simp only [maxLen]; omega) (by omega) (by simp; omega) ?_); intro v3 w3 hown3 hg3 hat3)
                          have hb3 : Below wo.heap.size wo w3 := (hb2.alloc hb2.size _).grown hg3 (by simp; omega) (fun g hg => (hown.lt g hg).1)
                          have hb03 := (hb02.alloc (.cells #[.string ixs[k].name] 9)).grown hg3 (fun h => by have := (hown.lt _ (Eq.symm h)).1; omega)
                          go_roundw
                          case rel => exact ⟨k + 1, by omega, by go_num, by rw [List.take_succ_eq_append_getElem hlt, List.map_append]; exact hown3, hb03, HC3.out, hb3⟩
                          case measure => simp [intOf]; omega
                      · obtain rfl : k = ixs.length := by omega
                        have HE : Hid (checkI id keys tn cols ixs = if twiceB (cols.map LCol.name) = true then 7 else if twiceB (ixs.map LIx.name) = true then 7 else 0) := by
                          show _ = _
                          rw [HC2.out, if_neg]
                          rw [HC.out, List.drop_length, List.all_nil]; decide
                        clear HC HC2
                        obtain ⟨A2, c2, hv⟩ := own_shape hown
                        rw [List.take_length] at hown
                        have hss2 : Ss wr A2 (ixs.map LIx.name) := by
                          have h := hown
                          rw [hv] at h
                          have := Reads.of_own h
                          unfold Ss
                          rw [List.length_map, List.map_map]
                          exact this
                        clear hown
                        subst hv
                        have hss1 := hss.below hbx
                        have hl1 : (cols.map LCol.name).length = cols.length := List.length_map _
                        have hl2 : (ixs.map LIx.name).length = ixs.length := List.length_map _
                        have t1 := twice_any A1 (cols.map LCol.name) c1 wr hss1 (by rw [hl1]; omega) (by intro s hs; obtain ⟨x, hx, rfl⟩ := List.mem_map.1 hs; exact HSC.out x hx)
                        rw [hl1] at t1
                        go_wp2_with fail
                        refine t1.mono ?_
                        rintro e w2 ⟨rfl, b2⟩
                        have hb2 : Below w.heap.size w w2 := hbw.trans (b2.mono hbw.size)
                        have t2 := twice_any A2 (ixs.map LIx.name) c2 w2 (hss2.below b2) (by rw [hl2]; omega) (by intro s hs; obtain ⟨x, hx, rfl⟩ := List.mem_map.1 hs; exact (HSX.out x hx).1)
                        rw [hl2] at t2
                        cases h7 : twiceB (cols.map LCol.name)
                        · have HE2 : Hid (checkI id keys tn cols ixs = if twiceB (ixs.map LIx.name) = true then 7 else 0) := by
                            show _ = _; rw [HE.out, h7, if_neg (by decide)]
                          clear h7 HE t1
                          go_wp2_with fail
                          refine t2.mono ?_
                          rintro e w3 ⟨rfl, b3⟩
                          have hb3 : Below w.heap.size w w3 := hb2.trans (b3.mono hb2.size)
                          cases h8 : twiceB (ixs.map LIx.name)
                          · have HE3 : Hid (checkI id keys tn cols ixs = 0) := by
                              show _ = _; rw [HE2.out, h8, if_neg (by decide)]
                            clear h8 HE2 t2
                            go_wp2_with fail
                            go_ret
                            exact ⟨by rw [HE3.out]; rfl, hb3⟩
                          · have HE3 : Hid (checkI id keys tn cols ixs = 7) := by
                              show _ = _; rw [HE2.out, h8, if_pos rfl]
                            clear h8 HE2 t2
                            go_wp2_with fail
                            go_ret
                            exact ⟨by rw [HE3.out]; rfl, hb3⟩
                        · have HE2 : Hid (checkI id keys tn cols ixs = 7) := by
                            show _ = _; rw [HE.out, h7, if_pos rfl]
                          clear h7 HE t1 t2
                          go_wp2_with fail
                          go_ret
                          exact ⟨by rw [HE2.out]; rfl, hb2⟩

end Go.Proofs.Ytemidaamnldjmaa
