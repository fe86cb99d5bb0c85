/- Byte slices in order: caissonref01.Cmp; cells in form are values in form. -/
import Derived.Test.YtfededjcadmpbaaGreatDoorOrdA
import Derived.Test.YtfededjcadmpbaaGreatDoorVKey
import Derived.Test.YtfededjcadmpbaaGreatDoorAwakeR
import Derived.Test.YtfededjcadmpbaaGreatDoorValsOf
import Derived.Deep.RegionLaw
namespace Go.Proofs.YtfededjcadmpbaaGreatDoor
open Go.RowKit

theorem cmpL_drop {a b : List UInt8} {k : Nat} (h1 : k < a.length) (h2 : k < b.length) : cmpL (a.drop k) (b.drop k) = if a[k].toNat < b[k].toNat then -1 else if b[k].toNat < a[k].toNat then 1 else cmpL (a.drop (k + 1)) (b.drop (k + 1)) := by
  rw [List.drop_eq_getElem_cons h1, List.drop_eq_getElem_cons h2]
  show (if a[k] < b[k] then (-1 : Int) else if b[k] < a[k] then 1 else _) = _
  simp only [u8_lt]
theorem cmpL_end {a b : List UInt8} {k : Nat} (hk : k ≤ a.length) (hk2 : k ≤ b.length) (h : ¬ (k < a.length ∧ k < b.length)) : cmpL (a.drop k) (b.drop k) = if a.length < b.length then -1 else if b.length < a.length then 1 else 0 := by
  by_cases h1 : k < a.length
  · have h2 : b.length ≤ k := by omega
    rw [List.drop_eq_getElem_cons h1, List.drop_of_length_le h2, if_neg (by omega), if_pos (by omega)]; rfl
  · rw [List.drop_of_length_le (show a.length ≤ k by omega)]
    by_cases h2 : k < b.length
    · rw [List.drop_eq_getElem_cons h2, if_pos (by omega)]; rfl
    · rw [List.drop_of_length_le (show b.length ≤ k by omega), if_neg (by omega), if_neg (by omega)]; rfl

set_option maxRecDepth 100000 in
set_option maxHeartbeats 2000000 in
theorem cmp_any (A B : Option Addr) (l m : List UInt8) (c d : Nat) (w : World) (hb : Bs w A l) (hb2 : Bs w B m) :
    Calls Tryz.prog 46 #[.slice A l.length c, .slice B m.length d] w (Quietly (.int .i64 (cmpL l m)) w) := by
  have hl := hb.le
  have hm := hb2.le
  go_enter Tryz.func46, Tryz.ntmps46
  go_wp2_with fail
  go_loopw [5] (fun i wr => ∃ k : Nat, k ≤ l.length ∧ k ≤ m.length ∧ i = .int .i64 k ∧ cmpL (l.drop k) (m.drop k) = cmpL l m ∧ ∃ n, wr = w.drewN n) (fun i _ => l.length - (intOf i).toNat)
  case atStart => exact ⟨0, Nat.zero_le _, Nat.zero_le _, rfl, rfl, 0, rfl⟩
  case round =>
    obtain ⟨k, hk, hk2, rfl, hpre, n, rfl⟩ := hrel
    have HP := Lib.hid hpre
    clear hpre
    by_cases hlt : k < l.length
    · by_cases hlt2 : k < m.length
      · obtain ⟨ad, rfl, _, hc1⟩ := hb.at_ hlt
        obtain ⟨bd, rfl, _, hc2⟩ := hb2.at_ hlt2
        have HD := Lib.hid (cmpL_drop hlt hlt2)
        have z1 : (k : Int) < (l.length : Int) := by omega
        have z2 : (k : Int) < (m.length : Int) := by omega
        generalize l[k] = x at *
        generalize m[k] = y at *
        by_cases h1 : x.toNat < y.toNat
        · have e1 : (x.toNat : Int) < (y.toNat : Int) := by omega
          have HE : Hid (cmpL l m = -1) := by show _ = _; rw [← HP.out, HD.out, if_pos h1]
          clear h1
          go_wp2_with fail
          go_quiet (fail)
          go_wp2_with fail
          go_ret
          exact ⟨by rw [HE.out]; rfl, _, by first | rfl | exact World.drewN_drewN _ _ _ | (rw [World.drewN_drewN, World.drewN_drewN])⟩
        · have e1 : ¬ (x.toNat : Int) < (y.toNat : Int) := by omega
          by_cases h2 : y.toNat < x.toNat
          · have e2 : (y.toNat : Int) < (x.toNat : Int) := by omega
            have HE : Hid (cmpL l m = 1) := by show _ = _; rw [← HP.out, HD.out, if_neg h1, if_pos h2]
            clear h1 h2
            go_wp2_with fail
            go_quiet (fail)
            go_wp2_with fail
            go_quiet (fail)
            go_wp2_with fail
            go_ret
            exact ⟨by rw [HE.out]; rfl, _, by first | rfl | exact World.drewN_drewN _ _ _ | (rw [World.drewN_drewN, World.drewN_drewN])⟩
          · have e2 : ¬ (y.toNat : Int) < (x.toNat : Int) := by omega
            have HE : Hid (cmpL (l.drop (k + 1)) (m.drop (k + 1)) = cmpL l m) := by show _ = _; rw [← HP.out, HD.out, if_neg h1, if_neg h2]
            clear h1 h2
            go_wp2_with fail
            go_quiet (fail)
            go_wp2_with fail
            go_quiet (fail)
            go_wp2_with fail
            go_roundw
            case rel => exact ⟨k + 1, by omega, by omega, by go_num, HE.out, _, by first | rfl | exact World.drewN_drewN _ _ _ | (rw [World.drewN_drewN, World.drewN_drewN])⟩
            case measure => simp [intOf]; omega
      · have z1 : (k : Int) < (l.length : Int) := by omega
        have z2 : ¬ (k : Int) < (m.length : Int) := by omega
        have e1 : ¬ (l.length : Int) < (m.length : Int) := by omega
        have e2 : (m.length : Int) < (l.length : Int) := by omega
        have HE : Hid (cmpL l m = 1) := by show _ = _; rw [← HP.out, cmpL_end hk hk2 (by omega), if_neg (by omega), if_pos (by omega)]
        clear hlt hlt2
        go_wp2_with fail
        go_ret
        exact ⟨by rw [HE.out]; rfl, n, rfl⟩
    · have z1 : ¬ (k : Int) < (l.length : Int) := by omega
      by_cases h1 : l.length < m.length
      · have e1 : (l.length : Int) < (m.length : Int) := by omega
        have HE : Hid (cmpL l m = -1) := by show _ = _; rw [← HP.out, cmpL_end hk hk2 (by omega), if_pos (by omega)]
        clear hlt h1
        go_wp2_with fail
        go_ret
        exact ⟨by rw [HE.out]; rfl, n, rfl⟩
      · have e1 : ¬ (l.length : Int) < (m.length : Int) := by omega
        have e2 : ¬ (m.length : Int) < (l.length : Int) := by omega
        have HE : Hid (cmpL l m = 0) := by show _ = _; rw [← HP.out, cmpL_end hk hk2 (by omega), if_neg (by omega), if_neg (by omega)]
        clear hlt h1
        go_wp2_with fail
        go_ret
        exact ⟨by rw [HE.out]; rfl, n, rfl⟩
end Go.Proofs.YtfededjcadmpbaaGreatDoor

namespace Go.Proofs.YtfededjcadmpbaaGreatDoor
open Go.RowKit

theorem vals_wf {l : List LCel} (h : ∀ x ∈ l, (Lit.int .i64 x.n).wf = true) : ∀ v ∈ valsOf l, v.err = 0 ∧ v.wfv := by
  intro v hv
  unfold valsOf at hv
  obtain ⟨c, hc, rfl⟩ := List.mem_map.1 hv
  obtain ⟨hm, hg⟩ := List.mem_filter.1 hc
  obtain ⟨hce, hx⟩ := LCel.good_cel hg
  have h2 := h c hm
  have h3 : c.val.n = c.n := congrArg LCel.n hce
  refine ⟨hx, ?_⟩
  unfold LVal.wfv
  rw [h3]
  simp [Lit.wf, IntKind.min, IntKind.max, IntKind.signed, IntKind.bits] at h2
  omega
theorem vals_good {l : List LCel} (h : ∀ x ∈ l, (Lit.int .i64 x.kind).wf = true ∧ (Lit.int .i64 x.n).wf = true ∧ x.t.size ≤ 1048576 ∧ x.l.length ≤ 140737488351232) : ∀ v ∈ valsOf l, (v.err = 0 ∧ v.wfv) ∧ v.t.size ≤ 1048576 := by
  intro v hv
  unfold valsOf at hv
  obtain ⟨c, hc, rfl⟩ := List.mem_map.1 hv
  obtain ⟨hm, hg⟩ := List.mem_filter.1 hc
  obtain ⟨hce, hx⟩ := LCel.good_cel hg
  obtain ⟨_, h2, h3, _⟩ := h c hm
  rcases c with ⟨kk, b, n, t, dl⟩
  generalize LCel.val ⟨kk, b, n, t, dl⟩ = x at *
  obtain ⟨rfl, rfl, rfl, rfl, rfl⟩ : x.kind = kk ∧ x.b = b ∧ x.n = n ∧ x.t = t ∧ x.l = dl := by
    have h := hce; unfold LVal.cel at h; injection h with a b c d e; exact ⟨a, b, c, d, e⟩
  refine ⟨⟨hx, ?_⟩, h3⟩
  unfold LVal.wfv
  simp [Lit.wf, IntKind.min, IntKind.max, IntKind.signed, IntKind.bits] at h2
  omega
end Go.Proofs.YtfededjcadmpbaaGreatDoor
