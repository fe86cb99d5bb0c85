/- The least list above all that begin so: codec.Next and the reference's Next. -/
import Derived.Test.YtemidaamnldjmaaClone
import Derived.Test.YtemidaamnldjmaaCopy
import Derived.Deep.LoopGhost
namespace Go.Proofs.Ytemidaamnldjmaa
open Go.RowKit

/-- the least list above all that begin so, looked at from n down -/
def nextN (l : List UInt8) : Nat → List UInt8
  | 0 => []
  | n + 1 => if l.getD n 0 = 255 then nextN l n else l.take n ++ [l.getD n 0 + 1]

theorem Bs.take {w : World} {A : Option Addr} {l : List UInt8} (h : Bs w A l) (n : Nat) (hn : n ≤ l.length) : Bs w A (l.take n) := by
  refine ⟨⟨by simp, fun hp => ?_⟩, by have := h.2; simp; omega⟩
  have hp' : 0 < n := by simp at hp; omega
  obtain ⟨ad, e, hb, hc⟩ := h.1.2 (by omega)
  exact ⟨ad, e, hb, fun j u hu => hc j u (by rw [List.map_take, List.getElem?_take] at hu; split at hu; exact hu; cases hu)⟩

theorem take_set (l : List UInt8) (m : Nat) (h : m < l.length) (b : UInt8) : ((l.take (m + 1)).map bval).set m (bval b) = (l.take m ++ [b]).map bval := by
  rw [List.take_succ_eq_append_getElem h, List.map_append, List.map_append, List.set_append_right _ _ (by simp; omega)]
  simp [Nat.min_eq_left (Nat.le_of_lt h)]

set_option maxHeartbeats 1000000 in
theorem next_any (A : Option Addr) (l : List UInt8) (c : Nat) (w : World) (hb : Bs w A l) (hc : l.length ≤ c ∧ c ≤ 9223372036854775807) :
    Calls Try.prog 45 #[.slice A l.length c] w (RetBs (nextN l l.length) w) := by
  have hl := hb.le
  go_enter Try.func45, Try.ntmps45
  go_wp2_with fail
  go_loopw [3] (fun i wr => ∃ n : Nat, n ≤ l.length ∧ i = .int .i64 n ∧ nextN l l.length = nextN l n ∧ wr = w) (fun i _ => (intOf i).toNat)
  case atStart => exact ⟨l.length, Nat.le_refl _, rfl, rfl, rfl⟩
  case round =>
    obtain ⟨n, hn, rfl, hnx, rfl⟩ := hrel
    have HN := Lib.hid hnx
    clear hnx
    cases n with
    | zero =>
      go_wp2_with fail
      go_ret
      exact ⟨none, 0, by rw [HN.out]; rfl, by rw [HN.out]; exact World.ownsRow_nil _ _ _ _, Below.refl _ _⟩
    | succ m =>
      obtain ⟨ad, rfl, hadb, hcell⟩ := hb.at_ (show m < l.length by omega)
      have hm : m < l.length := by omega
      by_cases heq : l[m] = 255
      · have HN2 : Hid (nextN l l.length = nextN l m) := by
          show _ = _; rw [HN.out, nextN, if_pos (by simp [List.getD, hm, heq])]
        have ht : ((l[m].toNat : Int) == 255) = true := by rw [heq]; rfl
        clear heq
        go_wp2_with fail
        go_roundw
        case rel => exact ⟨m, by omega, by go_num, HN2.out, by first | rfl | trivial⟩
        case measure => simp [intOf]
      · have HN2 : Hid (nextN l l.length = l.take m ++ [l[m] + 1]) := by
          show _ = _; rw [HN.out, nextN, if_neg (by simpa [List.getD, hm] using heq)]; simp [List.getD, hm]
        have ht : ((l[m].toNat : Int) == 255) = false := by
          rw [beq_eq_false_iff_ne]; intro h; exact heq (UInt8.toNat_inj.1 (by rw [show (255 : UInt8).toNat = 255 from rfl]; omega))
        clear heq
        have hbt := hb.take (m + 1) (by omega)
        go_wp2_with fail
        have hlt : (l.take (m + 1)).length = m + 1 := by simp; omega
        have t := bclone_any (some ad) (l.take (m + 1)) c _ hbt
        rw [hlt] at t
        refine t.mono ?_
        rintro e w2 ⟨A2, c2, rfl, o2, b2⟩
        clear t
        rw [hlt] at o2
        obtain ⟨g, cap, hv, hg0, _⟩ := o2.form (by omega)
        obtain ⟨rfl, rfl⟩ : A2 = some ⟨g, 0, none⟩ ∧ c2 = cap := by simpa using hv
        have hgw := hg0
        clear hv hg0
        have hc2 : w2.cell? ⟨g, m, none⟩ = some (.int .u8 (l[m].toNat : Int)) := by
          rw [o2.cellAt m (by omega), List.getElem?_map, List.getElem?_take, if_pos (by omega), List.getElem?_eq_getElem hm]; rfl
        have hfr := o2.frozenAt m
        have HS := Lib.hid (take_set l m hm (l[m] + 1))
        rw [hlt]
        go_wp2_with fail
        have hv : bval (l[m] + 1) = .int .u8 (((l[m].toNat : Int) + 1) % 256) := by
          unfold bval; rw [UInt8.toNat_add]; congr 1
        have hln : (l.take m ++ [l[m] + 1]).length = m + 1 := by simp; omega
        have ho := (o2.stored m (bval (l[m] + 1))).1
        rw [HS.out, hv] at ho
        go_ret
        rw [HN2.out]
        exact ⟨some ⟨g, 0, none⟩, c2, by rw [hln]; rfl, by rw [hln]; exact ho, b2.setCell hgw _⟩

set_option maxHeartbeats 1000000 in
theorem rnext_any (A : Option Addr) (l : List UInt8) (c : Nat) (w : World) (hb : Bs w A l) (hc : l.length ≤ c ∧ c ≤ 9223372036854775807) :
    Calls Try.prog 25 #[.slice A l.length c] w (RetBs (nextN l l.length) w) := by
  have hl := hb.le
  go_enter Try.func25, Try.ntmps25
  go_wp2_with fail
  go_loopw [3] (fun i wr => ∃ n : Nat, n ≤ l.length ∧ i = .int .i64 ((n : Int) - 1) ∧ nextN l l.length = nextN l n ∧ wr = w) (fun i _ => (intOf i + 1).toNat)
  case atStart => exact ⟨l.length, Nat.le_refl _, by go_num, rfl, rfl⟩
  case round =>
    obtain ⟨n, hn, rfl, hnx, rfl⟩ := hrel
    have HN := Lib.hid hnx
    clear hnx
    cases n with
    | zero =>
      go_wp2_with fail
      go_ret
      exact ⟨none, 0, by rw [HN.out]; rfl, by rw [HN.out]; exact World.ownsRow_nil _ _ _ _, Below.refl _ _⟩
    | succ m =>
      obtain ⟨ad, rfl, hadb, hcell⟩ := hb.at_ (show m < l.length by omega)
      have hm : m < l.length := by omega
      have hi : (((m + 1 : Nat) : Int) - 1) = (m : Int) := by omega
      rw [hi]
      by_cases heq : l[m] = 255
      · have HN2 : Hid (nextN l l.length = nextN l m) := by
          show _ = _; rw [HN.out, nextN, if_pos (by simp [List.getD, hm, heq])]
        have ht : ¬ ((l[m].toNat : Int) < 255) := by rw [heq]; decide
        clear heq
        go_wp2_with fail
        go_roundw
        case rel => exact ⟨m, by omega, by go_num, HN2.out, by first | rfl | trivial⟩
        case measure => simp [intOf]
      · have HN2 : Hid (nextN l l.length = l.take m ++ [l[m] + 1]) := by
          show _ = _; rw [HN.out, nextN, if_neg (by simpa [List.getD, hm] using heq)]; simp [List.getD, hm]
        have ht : (l[m].toNat : Int) < 255 := by
          have := UInt8.toNat_lt l[m]
          rcases Nat.lt_or_ge l[m].toNat 255 with h | h
          · omega
          · exact absurd (UInt8.toNat_inj.1 (by rw [show (255 : UInt8).toNat = 255 from rfl]; omega)) heq
        clear heq
        have hbt := hb.take (m + 1) (by omega)
        go_wp2_with fail
        have hlt : (l.take (m + 1)).length = m + 1 := by simp; omega
        have t := copy_any (some ad) (l.take (m + 1)) c _ hbt
        rw [hlt] at t
        refine t.mono ?_
        rintro e w2 ⟨A2, c2, rfl, o2, b2⟩
        clear t
        rw [hlt] at o2
        obtain ⟨g, cap, hv, hg0, _⟩ := o2.form (by omega)
        obtain ⟨rfl, rfl⟩ : A2 = some ⟨g, 0, none⟩ ∧ c2 = cap := by simpa using hv
        have hgw := hg0
        clear hv hg0
        have hc2 : w2.cell? ⟨g, m, none⟩ = some (.int .u8 (l[m].toNat : Int)) := by
          rw [o2.cellAt m (by omega), List.getElem?_map, List.getElem?_take, if_pos (by omega), List.getElem?_eq_getElem hm]; rfl
        have hfr := o2.frozenAt m
        have HS := Lib.hid (take_set l m hm (l[m] + 1))
        rw [hlt]
        go_wp2_with fail
        have hv : bval (l[m] + 1) = .int .u8 ((l[m].toNat : Int) + 1) := by
          unfold bval; rw [UInt8.toNat_add, show (1 : UInt8).toNat = 1 from rfl, Nat.mod_eq_of_lt (by omega)]; congr 1
        have hln : (l.take m ++ [l[m] + 1]).length = m + 1 := by simp; omega
        have ho := (o2.stored m (bval (l[m] + 1))).1
        rw [HS.out, hv] at ho
        go_ret
        rw [HN2.out]
        exact ⟨some ⟨g, 0, none⟩, c2, by rw [hln]; rfl, by rw [hln]; exact ho, b2.setCell hgw _⟩

end Go.Proofs.Ytemidaamnldjmaa
