/- Over: each byte of a row of the call's own is turned. -/
import Derived.Test.YtbldfgpnghoigaaOwnB
import Derived.Laws.BitsAllLaws
import Derived.Deep.DeepCutAuto
import Derived.Deep.LoopGhost
import Derived.StillTailTactics
namespace Go.Proofs.Ytbldfgpnghoigaa
open Go.RowKit

/-- a row of the call's own behind Over: as long as before -/
def RetOver (b : Nat) (A : Option Addr) (L : List UInt8) (c : Nat) (w : World) (en : Ending) (w' : World) : Prop :=
  en = .returned (.tuple #[]) ∧ ∃ L' : List UInt8, L'.length = L.length ∧ OwnB b w' A L' c ∧ w.grownBy w' (Value.slice A L.length c).ownBlock
set_option maxRecDepth 100000 in
set_option maxHeartbeats 2000000 in
theorem over_any (b : Nat) (A : Option Addr) (L : List UInt8) (c n c' : Nat) (w : World) (h : OwnB b w A L c) (hn : n ≤ L.length) (hl : L.length ≤ 140737488355328) :
    Calls Try.prog 23 #[.slice A n c'] w (RetOver b A L c w) := by
  go_enter Try.func23, Try.ntmps23
  go_wp2_with fail
  go_loopw [2] (fun i wr => ∃ (k : Nat) (L' : List UInt8), i = .int .i64 (k : Int) ∧ k ≤ n ∧ L'.length = L.length ∧ OwnB b wr A L' c ∧ w.grownBy wr (Value.slice A L.length c).ownBlock) (fun i _ => n - (intOf i).toNat)
  case atStart => exact ⟨0, L, rfl, Nat.zero_le _, rfl, h, World.grownBy.refl _ _⟩
  case round =>
    obtain ⟨k, L', rfl, hk, hL', ho, hg⟩ := hrel
    have HL := Lib.hid hL'
    rcases Nat.lt_or_ge k n with hlt | hge
    · obtain ⟨g, rfl⟩ : ∃ g, A = some ⟨g, 0, none⟩ := by
        obtain ⟨g, cap, e, _⟩ := ho.form (by omega)
        injection e with e
        exact ⟨g, e⟩
      have hkL : k < L'.length := by omega
      have hc := ho.cells (g := g) rfl k (bval L'[k]) (by rw [List.getElem?_map, List.getElem?_eq_getElem hkL]; rfl)
      rw [add_row] at hc
      have hcA : wr.cell? ((⟨g, 0, none⟩ : Addr).add k) = some (.int .u8 (L'[k].toNat : Int)) := by rw [add_row]; exact hc
      have hfz : wr.frozen? ⟨g, k, none⟩ = false := ho.frozenAt k
      have hst := ho.stored (k) (bval (L'[k] ^^^ 90))
      rw [show (bval (L'[k] ^^^ 90)) = Value.int .u8 (bits .xor .u8 (L'[k].toNat : Int) 90) by
        rw [show (90 : Int) = ((90 : Nat) : Int) from rfl, u8_xor_nat _ _ (UInt8.toNat_lt _) (by decide)]
        simp [bval]] at hst
      have HB : Hid (bval (L'[k] ^^^ 90) = Value.int .u8 (bits .xor .u8 (L'[k].toNat : Int) 90)) := by
        show _ = _
        rw [show (90 : Int) = ((90 : Nat) : Int) from rfl, u8_xor_nat _ _ (UInt8.toNat_lt _) (by decide)]
        simp [bval]
      clear hL'
      generalize L'[k] = x at *
      go_wp2_with fail
      go_roundw
      case rel =>
        refine ⟨k + 1, L'.set k (x ^^^ 90), by simp, by omega, by rw [List.length_set]; exact HL.out, ?_, hg.trans hst.2⟩
        have h1 := hst.1
        rw [← HB.out, ← List.map_set] at h1
        show World.ownsRow _ _ _ _ (.slice _ (L'.set k (x ^^^ 90)).length c) _ _
        rw [List.length_set, ← HB.out]
        exact h1
      case measure => simp [intOf]; omega
    · obtain rfl : k = n := by omega
      clear hL'
      go_wp2_with fail
      exact bodyEnd0 rfl rfl ⟨rfl, L', HL.out, ho, hg⟩
end Go.Proofs.Ytbldfgpnghoigaa
