/- Cells in form: caissonref06.Good; their values: cell.Of. -/
import Derived.Test.YtfededjcadmpbaaGreatDoorRVals
namespace Go.Proofs.YtfededjcadmpbaaGreatDoor
open Go.RowKit

/-- a cell as it came -/
structure LCel where
  kind : Int
  b : Bool
  n : Int
  t : ByteArray
  l : List UInt8
def LVal.cel (x : LVal) : LCel := ⟨x.kind, x.b, x.n, x.t, x.l⟩
/-- the value of a cell in form -/
def LCel.val (c : LCel) : LVal := if c.kind = 1 then .bool c.b else if c.kind = 2 then .int c.n else if c.kind = 3 then .text c.t else if c.kind = 4 then .bytes c.l else .null
/-- is a cell in form? -/
def LCel.good (c : LCel) : Bool :=
  decide (0 ≤ c.kind) && decide (c.kind ≤ 4) && ((decide (c.kind = 1) || !c.b) && (decide (c.kind = 2) || decide (c.n = 0)) && (decide (c.kind = 3) || decide (c.t.size = 0)) && (decide (c.kind = 4) || decide (c.l.length = 0)))
theorem size_zero {s : ByteArray} (h : s.size = 0) : s = ⟨#[]⟩ := by
  cases s with | mk d => congr 1; exact Array.eq_empty_of_size_eq_zero h
theorem LCel.good_cel {c : LCel} (h : c.good = true) : c.val.cel = c ∧ c.val.err = 0 := by
  rcases c with ⟨k, b, n, t, l⟩
  unfold LCel.good at h
  simp only [Bool.and_eq_true, Bool.or_eq_true, decide_eq_true_eq, Bool.not_eq_true'] at h
  obtain ⟨⟨h0, h4⟩, ⟨⟨hb, hn⟩, ht⟩, hl⟩ := h
  rcases (by omega : k = 0 ∨ k = 1 ∨ k = 2 ∨ k = 3 ∨ k = 4) with rfl | rfl | rfl | rfl | rfl
  · obtain rfl := hb.resolve_left (by decide)
    obtain rfl := hn.resolve_left (by decide)
    obtain rfl := size_zero (ht.resolve_left (by decide))
    obtain rfl := List.length_eq_zero_iff.1 (hl.resolve_left (by decide))
    exact ⟨rfl, rfl⟩
  · obtain rfl := hn.resolve_left (by decide)
    obtain rfl := size_zero (ht.resolve_left (by decide))
    obtain rfl := List.length_eq_zero_iff.1 (hl.resolve_left (by decide))
    exact ⟨rfl, rfl⟩
  · obtain rfl := hb.resolve_left (by decide)
    obtain rfl := size_zero (ht.resolve_left (by decide))
    obtain rfl := List.length_eq_zero_iff.1 (hl.resolve_left (by decide))
    exact ⟨rfl, rfl⟩
  · obtain rfl := hb.resolve_left (by decide)
    obtain rfl := hn.resolve_left (by decide)
    obtain rfl := List.length_eq_zero_iff.1 (hl.resolve_left (by decide))
    exact ⟨rfl, rfl⟩
  · obtain rfl := hb.resolve_left (by decide)
    obtain rfl := hn.resolve_left (by decide)
    obtain rfl := size_zero (ht.resolve_left (by decide))
    exact ⟨rfl, rfl⟩

set_option maxRecDepth 100000 in
set_option maxHeartbeats 2000000 in
theorem good_any (k n : Int) (b : Bool) (t : ByteArray) (l : List UInt8) (D : Option Addr) (c : Nat) (w : World) :
    Calls Tryz.prog 17 #[.agg #[.int .i64 k, .bool b, .int .i64 n, .string t, .slice D l.length c]] w fun en w' => en = .returned (.bool (LCel.good ⟨k, b, n, t, l⟩)) ∧ Below w.heap.size w w' := by
  have b0 : Below w.heap.size w (w.alloc (.cells #[.int .i64 k, .bool b, .int .i64 n, .string t, .slice D l.length c] 48)) := (Below.refl _ _).alloc (Nat.le_refl _) _
  have hlen : (t.toList.isEmpty : Bool) = decide (t.size = 0) := by
    cases h : t.toList.isEmpty with
    | true => rw [decide_eq_true (toList_empty.1 h)]
    | false => rw [decide_eq_false (fun h2 => by rw [toList_empty.2 h2] at h; cases h)]
  by_cases h0 : k < 0
  · have HG : Hid (LCel.good ⟨k, b, n, t, l⟩ = false) := by show _ = _; unfold LCel.good; rw [decide_eq_false (by simp only; omega)]; rfl
    clear hlen
    go_enter Tryz.func17, Tryz.ntmps17
    go_wp2_with fail
    go_ret
    exact ⟨by rw [HG.out]; rfl, b0⟩
  · by_cases h4 : 4 < k
    · have HG : Hid (LCel.good ⟨k, b, n, t, l⟩ = false) := by show _ = _; unfold LCel.good; rw [decide_eq_false (show ¬ k ≤ 4 by omega), Bool.and_false]; rfl
      clear hlen
      go_enter Tryz.func17, Tryz.ntmps17
      go_wp2_with fail
      go_ret
      exact ⟨by rw [HG.out]; rfl, b0⟩
    · rcases (by omega : k = 0 ∨ k = 1 ∨ k = 2 ∨ k = 3 ∨ k = 4) with rfl | rfl | rfl | rfl | rfl
      · clear h0 h4
        cases b with
        | true =>
          have HG : Hid (LCel.good ⟨0, true, n, t, l⟩ = false) := by show _ = _; simp [LCel.good]
          clear hlen
          go_enter Tryz.func17, Tryz.ntmps17
          go_wp2_with fail
          go_ret
          exact ⟨by rw [HG.out]; rfl, b0⟩
        | false =>
          by_cases hn : n = 0
          · have dn : (n == 0) = true := by rw [beq_iff_eq]; exact hn
            by_cases ht : t.size = 0
            · have dt : t.toList.isEmpty = true := by rw [hlen]; exact decide_eq_true ht
              by_cases hl : l.length = 0
              · have dl : ((l.length : Int) == 0) = true := by rw [beq_iff_eq]; omega
                have HG : Hid (LCel.good ⟨0, false, n, t, l⟩ = true) := by show _ = _; simp [LCel.good, hn, ht, hl]
                clear hlen hn ht hl
                go_enter Tryz.func17, Tryz.ntmps17
                go_wp2_with fail
                go_ret
                exact ⟨by rw [HG.out]; rfl, b0⟩
              · have dl : ((l.length : Int) == 0) = false := by rw [beq_eq_false_iff_ne]; omega
                have HG : Hid (LCel.good ⟨0, false, n, t, l⟩ = false) := by show _ = _; simp [LCel.good, hn, ht, hl]
                clear hlen hn ht hl
                go_enter Tryz.func17, Tryz.ntmps17
                go_wp2_with fail
                go_ret
                exact ⟨by rw [HG.out]; rfl, b0⟩
            · have dt : t.toList.isEmpty = false := by rw [hlen]; exact decide_eq_false ht
              have HG : Hid (LCel.good ⟨0, false, n, t, l⟩ = false) := by show _ = _; simp [LCel.good, hn, ht]
              clear hlen hn ht
              go_enter Tryz.func17, Tryz.ntmps17
              go_wp2_with fail
              go_ret
              exact ⟨by rw [HG.out]; rfl, b0⟩
          · have dn : (n == 0) = false := by rw [beq_eq_false_iff_ne]; exact hn
            have HG : Hid (LCel.good ⟨0, false, n, t, l⟩ = false) := by show _ = _; simp [LCel.good, hn]
            clear hlen hn
            go_enter Tryz.func17, Tryz.ntmps17
            go_wp2_with fail
            go_ret
            exact ⟨by rw [HG.out]; rfl, b0⟩
      · clear h0 h4
        by_cases hn : n = 0
        · have dn : (n == 0) = true := by rw [beq_iff_eq]; exact hn
          by_cases ht : t.size = 0
          · have dt : t.toList.isEmpty = true := by rw [hlen]; exact decide_eq_true ht
            by_cases hl : l.length = 0
            · have dl : ((l.length : Int) == 0) = true := by rw [beq_iff_eq]; omega
              have HG : Hid (LCel.good ⟨1, b, n, t, l⟩ = true) := by show _ = _; simp [LCel.good, hn, ht, hl]
              clear hlen hn ht hl
              go_enter Tryz.func17, Tryz.ntmps17
              go_wp2_with fail
              go_ret
              exact ⟨by rw [HG.out]; rfl, b0⟩
            · have dl : ((l.length : Int) == 0) = false := by rw [beq_eq_false_iff_ne]; omega
              have HG : Hid (LCel.good ⟨1, b, n, t, l⟩ = false) := by show _ = _; simp [LCel.good, hn, ht, hl]
              clear hlen hn ht hl
              go_enter Tryz.func17, Tryz.ntmps17
              go_wp2_with fail
              go_ret
              exact ⟨by rw [HG.out]; rfl, b0⟩
          · have dt : t.toList.isEmpty = false := by rw [hlen]; exact decide_eq_false ht
            have HG : Hid (LCel.good ⟨1, b, n, t, l⟩ = false) := by show _ = _; simp [LCel.good, hn, ht]
            clear hlen hn ht
            go_enter Tryz.func17, Tryz.ntmps17
            go_wp2_with fail
            go_ret
            exact ⟨by rw [HG.out]; rfl, b0⟩
        · have dn : (n == 0) = false := by rw [beq_eq_false_iff_ne]; exact hn
          have HG : Hid (LCel.good ⟨1, b, n, t, l⟩ = false) := by show _ = _; simp [LCel.good, hn]
          clear hlen hn
          go_enter Tryz.func17, Tryz.ntmps17
          go_wp2_with fail
          go_ret
          exact ⟨by rw [HG.out]; rfl, b0⟩
      · clear h0 h4
        cases b with
        | true =>
          have HG : Hid (LCel.good ⟨2, true, n, t, l⟩ = false) := by show _ = _; simp [LCel.good]
          clear hlen
          go_enter Tryz.func17, Tryz.ntmps17
          go_wp2_with fail
          go_ret
          exact ⟨by rw [HG.out]; rfl, b0⟩
        | false =>
          by_cases ht : t.size = 0
          · have dt : t.toList.isEmpty = true := by rw [hlen]; exact decide_eq_true ht
            by_cases hl : l.length = 0
            · have dl : ((l.length : Int) == 0) = true := by rw [beq_iff_eq]; omega
              have HG : Hid (LCel.good ⟨2, false, n, t, l⟩ = true) := by show _ = _; simp [LCel.good, ht, hl]
              clear hlen ht hl
              go_enter Tryz.func17, Tryz.ntmps17
              go_wp2_with fail
              go_ret
              exact ⟨by rw [HG.out]; rfl, b0⟩
            · have dl : ((l.length : Int) == 0) = false := by rw [beq_eq_false_iff_ne]; omega
              have HG : Hid (LCel.good ⟨2, false, n, t, l⟩ = false) := by show _ = _; simp [LCel.good, ht, hl]
              clear hlen ht hl
              go_enter Tryz.func17, Tryz.ntmps17
              go_wp2_with fail
              go_ret
              exact ⟨by rw [HG.out]; rfl, b0⟩
          · have dt : t.toList.isEmpty = false := by rw [hlen]; exact decide_eq_false ht
            have HG : Hid (LCel.good ⟨2, false, n, t, l⟩ = false) := by show _ = _; simp [LCel.good, ht]
            clear hlen ht
            go_enter Tryz.func17, Tryz.ntmps17
            go_wp2_with fail
            go_ret
            exact ⟨by rw [HG.out]; rfl, b0⟩
      · clear h0 h4
        cases b with
        | true =>
          have HG : Hid (LCel.good ⟨3, true, n, t, l⟩ = false) := by show _ = _; simp [LCel.good]
          clear hlen
          go_enter Tryz.func17, Tryz.ntmps17
          go_wp2_with fail
          go_ret
          exact ⟨by rw [HG.out]; rfl, b0⟩
        | false =>
          by_cases hn : n = 0
          · have dn : (n == 0) = true := by rw [beq_iff_eq]; exact hn
            by_cases hl : l.length = 0
            · have dl : ((l.length : Int) == 0) = true := by rw [beq_iff_eq]; omega
              have HG : Hid (LCel.good ⟨3, false, n, t, l⟩ = true) := by show _ = _; simp [LCel.good, hn, hl]
              clear hlen hn hl
              go_enter Tryz.func17, Tryz.ntmps17
              go_wp2_with fail
              go_ret
              exact ⟨by rw [HG.out]; rfl, b0⟩
            · have dl : ((l.length : Int) == 0) = false := by rw [beq_eq_false_iff_ne]; omega
              have HG : Hid (LCel.good ⟨3, false, n, t, l⟩ = false) := by show _ = _; simp [LCel.good, hn, hl]
              clear hlen hn hl
              go_enter Tryz.func17, Tryz.ntmps17
              go_wp2_with fail
              go_ret
              exact ⟨by rw [HG.out]; rfl, b0⟩
          · have dn : (n == 0) = false := by rw [beq_eq_false_iff_ne]; exact hn
            have HG : Hid (LCel.good ⟨3, false, n, t, l⟩ = false) := by show _ = _; simp [LCel.good, hn]
            clear hlen hn
            go_enter Tryz.func17, Tryz.ntmps17
            go_wp2_with fail
            go_ret
            exact ⟨by rw [HG.out]; rfl, b0⟩
      · clear h0 h4
        cases b with
        | true =>
          have HG : Hid (LCel.good ⟨4, true, n, t, l⟩ = false) := by show _ = _; simp [LCel.good]
          clear hlen
          go_enter Tryz.func17, Tryz.ntmps17
          go_wp2_with fail
          go_ret
          exact ⟨by rw [HG.out]; rfl, b0⟩
        | false =>
          by_cases hn : n = 0
          · have dn : (n == 0) = true := by rw [beq_iff_eq]; exact hn
            by_cases ht : t.size = 0
            · have dt : t.toList.isEmpty = true := by rw [hlen]; exact decide_eq_true ht
              have HG : Hid (LCel.good ⟨4, false, n, t, l⟩ = true) := by show _ = _; simp [LCel.good, hn, ht]
              clear hlen hn ht
              go_enter Tryz.func17, Tryz.ntmps17
              go_wp2_with fail
              go_ret
              exact ⟨by rw [HG.out]; rfl, b0⟩
            · have dt : t.toList.isEmpty = false := by rw [hlen]; exact decide_eq_false ht
              have HG : Hid (LCel.good ⟨4, false, n, t, l⟩ = false) := by show _ = _; simp [LCel.good, hn, ht]
              clear hlen hn ht
              go_enter Tryz.func17, Tryz.ntmps17
              go_wp2_with fail
              go_ret
              exact ⟨by rw [HG.out]; rfl, b0⟩
          · have dn : (n == 0) = false := by rw [beq_eq_false_iff_ne]; exact hn
            have HG : Hid (LCel.good ⟨4, false, n, t, l⟩ = false) := by show _ = _; simp [LCel.good, hn]
            clear hlen hn
            go_enter Tryz.func17, Tryz.ntmps17
            go_wp2_with fail
            go_ret
            exact ⟨by rw [HG.out]; rfl, b0⟩

end Go.Proofs.YtfededjcadmpbaaGreatDoor
