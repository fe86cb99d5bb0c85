/- Two byte slices are compared: caissonref01.Equal. -/
import Derived.Test.YtbldfgpnghoigaaMem
namespace Go.Proofs.Ytbldfgpnghoigaa
open Go.RowKit

set_option maxHeartbeats 400000 in
theorem equal_any (A B : Option Addr) (l m : List UInt8) (c d : Nat) (w : World) (hb : Bs w A l) (hb2 : Bs w B m) :
    Calls Try.prog 43 #[.slice A l.length c, .slice B m.length d] w (Quietly (.bool (l == m)) w) := by
  have hl := hb.le
  have hm := hb2.le
  by_cases hlen : l.length = m.length
  · have hlen2 : l.length ≤ m.length := by omega
    have HL := Lib.hid hlen
    have ht : (((l.length : Nat) : Int) != ((m.length : Nat) : Int)) = false := by rw [bne_eq_false_iff_eq]; omega
    clear hlen
    go_enter Try.func43, Try.ntmps43
    go_wp2
    go_loopw [5] (fun i wr => ∃ k : Nat, k ≤ l.length ∧ i = .int .i64 k ∧ l.take k = m.take k ∧ ∃ n, wr = w.drewN n) (fun i _ => l.length - (intOf i).toNat)
    case atStart => exact ⟨0, Nat.zero_le _, rfl, rfl, 0, rfl⟩
    case round =>
      obtain ⟨k, hk, rfl, hpre, n, rfl⟩ := hrel
      have HP := Lib.hid hpre
      clear hpre
      by_cases hlt : k < l.length
      · have hlt2 : k < m.length := by omega
        obtain ⟨ad, rfl, _, hc1⟩ := hb.at_ hlt
        obtain ⟨bd, rfl, _, hc2⟩ := hb2.at_ hlt2
        go_wp2
        go_quiet (fail)
        go_wp2
        · have hne : ((l[k].toNat : Int) != (m[k].toNat : Int)) = true := by assumption
          go_ret
          refine ⟨ret_bool ?_, _, by first | rfl | exact World.drewN_drewN _ _ _⟩
          symm
          rw [beq_eq_false_iff_ne]
          rintro rfl
          simp at hne
        · have he : ((l[k].toNat : Int) != (m[k].toNat : Int)) = false := by assumption
          go_roundw
          case rel =>
            refine ⟨k + 1, by omega, by go_num, ?_, _, by first | rfl | exact World.drewN_drewN _ _ _⟩
            rw [List.take_succ_eq_append_getElem hlt, List.take_succ_eq_append_getElem hlt2, HP.out]
            rw [bne_eq_false_iff_eq] at he
            rw [show l[k] = m[k] from UInt8.toNat_inj.1 (by omega)]
          case measure => simp [intOf]; omega
      · go_wp2
        go_ret
        refine ⟨ret_bool ?_, _, rfl⟩
        have h := HP.out
        have h2 := HL.out
        rw [List.take_of_length_le (by omega), List.take_of_length_le (by omega)] at h
        subst h
        simp
  · have HE : Hid ((l == m) = false) := by show (l == m) = false; rw [beq_eq_false_iff_ne]; intro h; exact hlen (by rw [h])
    have ht : (((l.length : Nat) : Int) != ((m.length : Nat) : Int)) = true := by rw [bne_iff_ne]; omega
    go_enter Try.func43, Try.ntmps43
    go_wp2
    go_ret
    exact ⟨by rw [HE.out]; rfl, 0, rfl⟩

end Go.Proofs.Ytbldfgpnghoigaa
