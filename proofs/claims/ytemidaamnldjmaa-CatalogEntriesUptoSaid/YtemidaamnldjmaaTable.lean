/- Tables in form: the program's row.Check and the reference's Check. -/
import Derived.Test.YtemidaamnldjmaaNamed
import Derived.Test.YtemidaamnldjmaaEqR
import Derived.Test.YtemidaamnldjmaaCount
import Derived.Deep.DeepCutAuto
import Derived.Deep.LoopGhost
namespace Go.Proofs.Ytemidaamnldjmaa
open Go.RowKit Go.Maps

/-- a column: name, kind, null -/
structure LCol where
  name : ByteArray
  kind : Int
  null : Bool
def LCol.val (c : LCol) : Value := .agg #[.string c.name, .int .i64 c.kind, .bool c.null]
def LCol.cells (c : LCol) : List Value := [.string c.name, .int .i64 c.kind, .bool c.null]
def colB (c : LCol) (key : Bool) : Bool := namedB c.name && decide (1 ≤ c.kind) && decide (c.kind ≤ 4) && !(key && c.null)

set_option maxRecDepth 100000 in
set_option maxHeartbeats 1000000 in
theorem column_any (nm : ByteArray) (kd : Int) (nl key : Bool) (w : World) (hs : nm.size ≤ 140737488351232) :
    Calls Try.prog 36 #[.agg #[.string nm, .int .i64 kd, .bool nl], .bool key] w fun e w' => e = .returned (.bool (colB ⟨nm, kd, nl⟩ key)) ∧ Below w.heap.size w w' := by
  go_enter Try.func36, Try.ntmps36
  go_wp2_with fail
  refine (named_any _ _ hs).mono ?_
  rintro e w1 ⟨rfl, b1⟩
  have b01 : Below w.heap.size w w1 := ((Below.refl _ _).alloc (Nat.le_refl _) _).trans (b1.mono (by simp))
  have hbk := (Blk.new w 51 #[.string nm, .int .i64 kd, .bool nl]).below b1 (by simp)
  have c1 : w1.cell? ⟨w.heap.size, 1, none⟩ = some (.int .i64 kd) := hbk.cell 1
  have c2 : w1.cell? ⟨w.heap.size, 2, none⟩ = some (.bool nl) := hbk.cell 2
  have hE : colB ⟨nm, kd, nl⟩ key = (namedB nm && decide (1 ≤ kd) && decide (kd ≤ 4) && !(key && nl)) := rfl
  have HE := Lib.hid hE
  clear hE hbk
  generalize namedB nm = b at HE
  cases b
  · go_wp2_with fail
    go_ret
    exact ⟨by rw [HE.out]; rfl, b01⟩
  · by_cases h1 : kd < 1
    · go_wp2_with fail
      go_ret
      exact ⟨by rw [HE.out, show decide (1 ≤ kd) = false from by simp; omega]; rfl, b01⟩
    · have d1 : decide (1 ≤ kd) = true := by simp; omega
      by_cases h2 : 4 < kd
      · have d2 : decide (kd ≤ 4) = false := by simp; omega
        have D := Lib.hid (And.intro d1 d2)
        go_wp2_with fail
        go_ret
        exact ⟨by rw [HE.out, D.out.1, D.out.2]; rfl, b01⟩
      · have d2 : decide (kd ≤ 4) = true := by simp; omega
        have D := Lib.hid (And.intro d1 d2)
        cases key
        · go_wp2_with fail
          go_ret
          exact ⟨by rw [HE.out, D.out.1, D.out.2]; rfl, b01⟩
        · cases nl
          · go_wp2_with fail
            go_ret
            exact ⟨by rw [HE.out, D.out.1, D.out.2]; rfl, b01⟩
          · go_wp2_with fail
            go_ret
            exact ⟨by rw [HE.out, D.out.1, D.out.2]; rfl, b01⟩

/-- The slice reads as the numbers l, each of its kind. -/
def Is (w : World) (A : Option Addr) (l : List Int) : Prop := Reads w w.heap.size 1 A l.length (l.map (Value.int .i64)) ∧ ∀ n ∈ l, (Lit.int .i64 n).wf = true
theorem Is.at_ {w : World} {A : Option Addr} {l : List Int} (h : Is w A l) {k : Nat} (hk : k < l.length) : ∃ ad, A = some ad ∧ ad.block < w.heap.size ∧ w.cell? (ad.add k) = some (.int .i64 l[k]) := by
  obtain ⟨ad, u, rfl, hb, hx, hc⟩ := Reads.at_ h.1 hk
  refine ⟨ad, rfl, hb, ?_⟩
  rw [hc]
  rw [List.getElem?_map, List.getElem?_eq_getElem hk] at hx
  simpa using hx.symm
theorem Is.below {w w' : World} {A : Option Addr} {l : List Int} (h : Is w A l) (hb : Below w.heap.size w w') : Is w' A l := ⟨(Reads.below h.1 hb).more hb.size, h.2⟩

/-- an index's columns in form, of a table of n columns -/
def inB (n : Nat) (c : Int) : Bool := decide (0 ≤ c) && decide (c < (n : Int))
def idxB (n : Nat) (name : ByteArray) (cols : List Int) : Bool := cols.all (inB n) && namedB name && decide (0 < cols.length) && decide cols.Nodup
theorem idxB_bad {n : Nat} {name : ByteArray} {cols : List Int} {k : Nat} (h : k < cols.length) (hc : inB n cols[k] = false) : idxB n name cols = false := by
  have : cols.all (inB n) = false := by
    rw [Bool.eq_false_iff]; intro ha
    have := List.all_eq_true.1 ha _ (List.getElem_mem h)
    rw [hc] at this; cases this
  unfold idxB; rw [this]; rfl

set_option maxRecDepth 100000 in
set_option maxHeartbeats 2000000 in
theorem index_any (id keys : Int) (tn : ByteArray) (A B C : Option Addr) (nc cc ni ci c : Nat) (name : ByteArray) (cols : List Int) (u : Bool) (w : World) (hb : Is w C cols) (hl : cols.length ≤ 140737488351232) (hs : name.size ≤ 140737488351232) :
    Calls Try.prog 37 #[.agg #[.int .i64 id, .string tn, .slice A nc cc, .int .i64 keys, .slice B ni ci], .agg #[.string name, .slice C cols.length c, .bool u]] w
      fun e w' => e = .returned (.bool (idxB nc name cols)) ∧ Below w.heap.size w w' := by
  have hmm := @run_makeMap Try.prog
  have law : Keyed Try.prog 3 := int_keyed Try.underlying3
  have zero3 : ∀ w : World, (zeroValue 3).run Try.prog w = .ok (.int .i64 0) w := fun w => by kernel_rfl
  have Z := Lib.hid zero3
  have HL := Lib.hid hl
  clear zero3
  go_enter Try.func37, Try.ntmps37
  go_wp2_with fail
  go_loopw [12] (fun i wr => ∃ (k : Nat) (D : DataW Unit), k ≤ cols.length ∧ i = .int .i64 k ∧ Blk wr w.heap.size 25 #[.int .i64 id, .string tn, .slice A nc cc, .int .i64 keys, .slice B ni ci] ∧ Blk wr (w.heap.size + 1) 55 #[.string name, .slice C cols.length c, .bool u] ∧
      wr.ownsMap Try.prog 3 (plainElem Try.prog 3) (w.heap.size + 1 + 1) k D ∧ Cnt D ((cols.take k).map (Lit.int .i64)) ∧ (∀ j, j < k → ∀ h : j < cols.length, inB nc cols[j] = true) ∧ Below w.heap.size w wr) (fun i _ => cols.length - (intOf i).toNat)
  case atStart =>
    refine ⟨0, .map [], Nat.zero_le _, rfl, ?_, ?_, ?_, Cnt.nil_, fun j hj => absurd hj (by omega), ((((Below.refl _ _).alloc (Nat.le_refl _) _).alloc (by simp) _).alloc (by simp; omega) _)⟩
    · exact ((Blk.new _ _ _).alloc _).alloc _
    · have := (Blk.new (w.alloc (.cells #[.int .i64 id, .string tn, .slice A nc cc, .int .i64 keys, .slice B ni ci] 25)) 55 #[.string name, .slice C cols.length c, .bool u]).alloc (.map #[] 0)
      simpa using this
    · have := World.ownsMap_made (H := Unit) ((w.alloc (.cells #[.int .i64 id, .string tn, .slice A nc cc, .int .i64 keys, .slice B ni ci] 25)).alloc (.cells #[.string name, .slice C cols.length c, .bool u] 55)) Try.prog 3 (plainElem Try.prog 3)
      simpa using this
  case round =>
    obtain ⟨k, D, hk, rfl, hb0, hb1, hown, hcnt, hall, hbel⟩ := hrel
    have HC := Lib.hid hcnt
    have HA := Lib.hid hall
    clear hcnt hall
    have q0 : wr.cell? ⟨w.heap.size, 2, none⟩ = some (.slice A nc cc) := hb0.cell 2
    have q1 : wr.cell? ⟨w.heap.size + 1, 0, none⟩ = some (.string name) := hb1.cell 0
    have q2 : wr.cell? ⟨w.heap.size + 1, 1, none⟩ = some (.slice C cols.length c) := hb1.cell 1
    by_cases hlt : k < cols.length
    · obtain ⟨ad, rfl, _, hcell⟩ := (hb.below hbel).at_ hlt
      have hwf := hb.2 cols[k] (List.getElem_mem hlt)
      have hkey : keyOf Try.prog 3 (.int .i64 cols[k]) = some (.int .i64 cols[k]) := keyOf_int_mk Try.underlying3 hwf
      have HK := Lib.hid hkey
      have hlk := HL.out
      clear hkey hwf
      by_cases hneg : cols[k] < 0
      · have HB : Hid (idxB nc name cols = false) := idxB_bad hlt (by unfold inB; simp; omega)
        go_wp2_with fail
        go_ret
        exact ⟨by rw [HB.out]; rfl, hbel⟩
      · by_cases hbig : (nc : Int) ≤ cols[k]
        · have HB : Hid (idxB nc name cols = false) := idxB_bad hlt (by unfold inB; simp; omega)
          go_wp2_with fail
          go_ret
          exact ⟨by rw [HB.out]; rfl, hbel⟩
        · have hin : inB nc cols[k] = true := by unfold inB; simp; omega
          have HI := Lib.hid hin
          clear hin
          go_wp2_with (first
            | (at_lookup; refine wpList_lookup_own_int _ rfl _ _ 101 rfl 3 3 .i64 law Try.underlying101 Try.underlying3 (Z.out _) (w.heap.size + 1 + 1) k _ rfl hown _ _ rfl HK.out ?_; intro cc2 hat hwc)
            | (at_mapUpdate; refine wpList_mapUpdate_own _ rfl _ _ _ 101 rfl 3 3 law Try.underlying101 _ (w.heap.size + 1 + 1) k _ rfl hown (by unfold maxLen; omega) _ _ _ rfl rfl HK.out _ [] (plainElem_int Try.underlying3 (wrap64_wf _)) ?_; intro w1 hown1 hgrow1))
          go_roundw
          case rel =>
            refine ⟨k + 1, _, by omega, by go_num, hb0.grown hgrow1 (by simp; omega), hb1.grown hgrow1 (by simp), hown1, ?_, ?_, hbel.grown hgrow1 hbel.size (fun j hj => by cases hj; omega)⟩
            · rw [List.take_succ_eq_append_getElem hlt, List.map_append]
              exact HC.out.put (iKey_lit _ _) _
            · intro j hj h
              by_cases e : j = k
              · subst e; exact HI.out
              · exact HA.out j (by omega) h
          case measure => simp [intOf]; omega
    · obtain rfl : k = cols.length := by omega
      have HT := Lib.hid (Cnt.all (by have := HC.out; rwa [List.take_length] at this))
      have hall2 : cols.all (inB nc) = true := by
        rw [List.all_eq_true]
        intro x hx
        obtain ⟨j, hj, rfl⟩ := List.getElem_of_mem hx
        exact HA.out j hj hj
      have HE : Hid (idxB nc name cols = (namedB name && decide (0 < cols.length) && decide cols.Nodup)) := by
        show _ = _
        unfold idxB; rw [hall2, Bool.true_and]
      clear hall2
      go_wp2_with fail
      refine (named_any _ _ hs).mono ?_
      rintro e w1 ⟨rfl, b1⟩
      have hb11 := hb1.below b1 hb1.lt
      have q11 : w1.cell? ⟨w.heap.size + 1, 1, none⟩ = some (.slice C cols.length c) := hb11.cell 1
      have hown1 := hown.kept (w' := w1) (row := none) ⟨b1.os, b1.tape, b1.output, b1.size, fun k hk _ => b1.block k hk⟩ (by simp)
      have hbel1 := hbel.trans (b1.mono hbel.size)
      cases hn : namedB name
      · have HN := Lib.hid hn
        clear hn
        go_wp2_with fail
        go_ret
        exact ⟨by rw [HE.out, HN.out]; rfl, hbel1⟩
      · have HN := Lib.hid hn
        clear hn
        by_cases h0 : cols.length = 0
        · have d0 : decide (0 < cols.length) = false := decide_eq_false (by omega)
          have D0 := Lib.hid d0
          clear h0
          go_wp2_with fail
          go_ret
          exact ⟨by rw [HE.out, HN.out, D0.out]; rfl, hbel1⟩
        · have d0 : decide (0 < cols.length) = true := decide_eq_true (by omega)
          have D0 := Lib.hid d0
          have hpos : 0 < cols.length := by omega
          have hposd : decide ((0:Int) < (cols.length : Int)) = true := by simp; omega
          clear h0
          have hlr := hown1.len Try.underlying101 3
          go_wp2_with fail
          go_ret
          exact ⟨by rw [HE.out, HN.out, D0.out, ← HT.out]; rfl, hbel1⟩

end Go.Proofs.Ytemidaamnldjmaa
