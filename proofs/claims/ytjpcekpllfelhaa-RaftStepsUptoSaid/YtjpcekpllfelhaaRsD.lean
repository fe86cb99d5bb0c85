/- Sorting up to twelve numbers by insertion. (Printed by wip/gen_rsd.py.) slices.Sorted(slices.Values(m)) of up to twelve numbers; agree and most of a node of a group. agree and most of a node of a group. -/
import Derived.Test.YtjpcekpllfelhaaRsC
namespace Go.Proofs.Ytjpcekpllfelhaa
open Go.RowKit

set_option maxHeartbeats 1000000 in
theorem nan_any (a : Int) (w : World) : Calls Try.prog 76 #[.int .u64 a] w (fun en w' => en = .returned (.bool false) ∧ w' = w) := by
  have e : (a != a) = false := by simp
  go_enter Try.func76, Try.ntmps76
  go_wp2_with fail
  go_ret
  exact ⟨rfl, rfl⟩
set_option maxHeartbeats 1000000 in
theorem less_any (a b : Int) (w : World) : Calls Try.prog 66 #[.int .u64 a, .int .u64 b] w (fun en w' => en = .returned (.bool (decide (a < b))) ∧ w' = w) := by
  have T := nan_any a w
  go_enter Try.func66, Try.ntmps66
  go_wp2_with fail
  refine T.mono ?_
  clear T
  rintro en w1 ⟨rfl, rfl⟩
  go_wp2_with fail
  go_ret
  exact ⟨rfl, rfl⟩
theorem bubP_len : ∀ (j : Nat) (l : List Nat), (bubP j l).length = l.length
  | 0, _ => rfl
  | j + 1, l => by
    unfold bubP
    split
    · rw [bubP_len j, List.length_set, List.length_set]
    · rfl
theorem insP_len : ∀ (k i : Nat) (l : List Nat), (insP l i k).length = l.length
  | 0, _, _ => rfl
  | k + 1, i, l => by unfold insP; rw [insP_len k, bubP_len]
theorem sortP_len (l : List Nat) : (sortP l).length = l.length := insP_len _ _ _
theorem NE.set_ {w : World} {B : Nat} {g c k x : Nat} {l : List Nat} (h : Own NE 28 w B Nil (.slice (some ⟨g, 0, none⟩) l.length c) l) (hk : k < l.length) (hx : x ≤ 18446744073709551615) :
    Own NE 28 (w.setCell ⟨g, k, none⟩ (.int .u64 (x : Int))) B Nil (.slice (some ⟨g, 0, none⟩) (l.set k x).length c) (l.set k x) := by
  have o := Own.turn (E := NE) (k := k) (j := 0) (u := .int .u64 (x : Int)) (y := x) h hk (by decide) (fun v hv => by
    obtain ⟨rfl, _⟩ := hv
    exact ⟨rfl, hx⟩)
  rw [List.length_set]
  have e : k * NE.size + 0 = k := Nat.mul_one k
  rw [e] at o
  exact o
set_option maxRecDepth 100000 in
set_option maxHeartbeats 4000000 in
theorem ins_any (g c : Nat) (l0 : List Nat) (w : World) (ho : Own NE 28 w 0 Nil (.slice (some ⟨g, 0, none⟩) l0.length c) l0) (h0 : 0 < l0.length) (h12 : l0.length ≤ 1000) :
    Calls Try.prog 60 #[.slice (some ⟨g, 0, none⟩) l0.length c, .int .i64 0, .int .i64 (l0.length : Int)] w
      (fun en w' => en = .returned (.tuple #[]) ∧ Own NE 28 w' 0 Nil (.slice (some ⟨g, 0, none⟩) l0.length c) (sortP l0) ∧ w.grownBy w' (some g)) := by
  obtain ⟨n, hn⟩ : ∃ n, n = l0.length := ⟨_, rfl⟩
  rw [← hn] at h0 h12 ⊢
  have HN := Lib.hid hn
  obtain ⟨R, hR⟩ : ∃ R, R = sortP l0 := ⟨_, rfl⟩
  rw [← hR]
  have HR : Hid (insP l0 1 (n - 1) = R) := by show _ = _; rw [hR, HN.out]; rfl
  have HL := Lib.hid less_any
  clear hn hR
  go_enter Try.func60, Try.ntmps60
  go_wp2_with fail
  go_loopw [6] (fun v6 wr => ∃ (i : Nat) (l : List Nat), 1 ≤ i ∧ i ≤ n ∧ v6 = .int .i64 (i : Int) ∧ Hid (l.length = n) ∧ Own NE 28 wr 0 Nil (.slice (some ⟨g, 0, none⟩) l.length c) l ∧ w.grownBy wr (some g) ∧ Hid (insP l i (n - i) = R)) (fun v6 _ => n - (intOf v6).toNat)
  case atStart => exact ⟨1, l0, Nat.le_refl _, h0, rfl, HN.out.symm, ho, World.grownBy.refl _ _, HR.out⟩
  case round =>
    clear ho HR
    obtain ⟨i, l, hi1, hi2, rfl, HLn, oL, gL, HI⟩ := hrel
    by_cases hlt : i < n
    · have hlti : (i : Int) < (n : Int) := by omega
      have HI2 : Hid (insP (bubP i l) (i + 1) (n - (i + 1)) = R) := by
        show _ = _
        rw [← HI.out]
        obtain ⟨k, hk⟩ : ∃ k, n - i = k + 1 := ⟨n - i - 1, by omega⟩
        rw [hk, show n - (i + 1) = k by omega]
        rfl
      clear HI
      go_wp2_with fail
      go_loopw [7] (fun v7 wx => ∃ (j : Nat) (l1 : List Nat), j ≤ i ∧ v7 = .int .i64 (j : Int) ∧ Hid (l1.length = n) ∧ Own NE 28 wx 0 Nil (.slice (some ⟨g, 0, none⟩) l1.length c) l1 ∧ w.grownBy wx (some g) ∧ Hid (bubP j l1 = bubP i l)) (fun v7 _ => (intOf v7).toNat)
      case atStart => exact ⟨i, l, Nat.le_refl _, rfl, HLn.out, oL, gL, rfl⟩
      case round =>
        clear oL gL HLn
        obtain ⟨j, l1, hj, rfl, HLn1, o1, g1, HB⟩ := hrel
        cases j with
        | zero =>
          have HE : Hid (l1 = bubP i l) := by show _ = _; rw [← HB.out]; rfl
          clear HB
          go_wp2_with fail
          go_quiet (fail)
          go_wp2_with fail
          go_roundw
          case rel =>
            refine ⟨i + 1, l1, by omega, by omega, by simp, HLn1.out, Own.below o1 (below_drewN (Below.refl _ _) _), only_drewN g1 _, ?_⟩
            show _ = _
            rw [HE.out]
            exact HI2.out
          case measure => simp [intOf]; omega
        | succ j =>
          have hjl : j + 1 < l1.length := by rw [HLn1.out]; omega
          obtain ⟨g', c', e', ca, ha, fa, hgl⟩ := NE.own_at o1 hjl
          obtain ⟨g'', c'', e'', cb, hb, fb, _⟩ := NE.own_at o1 (i := j) (by omega)
          obtain rfl : g = g' := by injection e' with e1 _ _; injection Option.some.inj e1
          obtain rfl : g = g'' := by injection e'' with e1 _ _; injection Option.some.inj e1
          obtain ⟨x, hx⟩ : ∃ x, x = l1.getD (j + 1) 0 := ⟨_, rfl⟩
          obtain ⟨y, hy⟩ : ∃ y, y = l1.getD j 0 := ⟨_, rfl⟩
          rw [← hx] at ca ha
          rw [← hy] at cb hb
          have HST : Hid ((if x < y then bubP j ((l1.set (j + 1) y).set j x) else l1) = bubP i l) := by show _ = _; rw [hx, hy, ← HB.out]; rfl
          clear HB e' e'' hx hy
          have j1 : ((j : Int) + 1) < (n : Int) := by have := HLn1.out; omega
          have j2 : (j : Int) < (n : Int) := by omega
          have j3 : (0 : Int) < (j : Int) + 1 := by omega
          have j4 : (0 : Int) ≤ (j : Int) + 1 := by omega
          have HQ := Lib.hid (fun W : World => HL.out (x : Int) (y : Int) W)
          have ca2 : wr.cell? ⟨g, j + 1, none⟩ = some (.int .u64 (x : Int)) := ca
          go_wp2_with fail
          go_quiet ((go_at_call 66; exact Calls.quiet_of_same (HQ.out _)))
          have o2 := fun q => Own.below o1 (below_drewN (Below.refl _ _) q)
          have g2 := fun q => only_drewN g1 q
          by_cases hxy : x < y
          · have hxyi : (x : Int) < (y : Int) := by omega
            have HB2 : Hid (bubP j ((l1.set (j + 1) y).set j x) = bubP i l) := by show _ = _; rw [← HST.out, if_pos hxy]
            clear HST hxy
            go_upto_region 6 with fail
            have o4 := o2 nq
            have g4 := g2 nq
            have ca4 : (wr.drewN nq).cell? ⟨g, j + 1, none⟩ = some (.int .u64 (x : Int)) := ca
            have cb4 : (wr.drewN nq).cell? ⟨g, j, none⟩ = some (.int .u64 (y : Int)) := cb
            have fa4 : (wr.drewN nq).frozen? ⟨g, j + 1, none⟩ = false := fa
            have fb4 : (wr.drewN nq).frozen? ⟨g, j, none⟩ = false := fb
            clear o1 g1 o2 g2 ca ca2 cb fa fb
            generalize wr.drewN nq = w4 at *
            refine wp_region_noPanic ?_
            have kS : w4.drew.cell? ⟨g, j + 1, none⟩ = some (.int .u64 (x : Int)) ∧ w4.drew.cell? ⟨g, j, none⟩ = some (.int .u64 (y : Int)) := ⟨ca4, cb4⟩
            have o5 := Own.below o4 ((Below.refl _ _).drew)
            have g5 := only_drew g4
            have fa5 : w4.drew.frozen? ⟨g, j + 1, none⟩ = false := fa4
            have fb5 : w4.drew.frozen? ⟨g, j, none⟩ = false := fb4
            refine wp_region_heldK (fun Y => Y.cell? ⟨g, j + 1, none⟩ = some (.int .u64 (x : Int)) ∧ Y.cell? ⟨g, j, none⟩ = some (.int .u64 (y : Int))) 15 (by kernel_rfl) kS (fun hH => ?_)
            clear o4 g4 ca4 cb4 fa4 fb4
            have hwj : IntKind.i64.wrap (j : Int) = (j : Int) := by simp [IntKind.wrap, IntKind.bits, IntKind.signed]; omega
            generalize hw5 : w4.drew = w5 at *
            clear hw5
            refine wpAnyK_takeY (i := 0) (v := ?_) rfl (by kernel_rfl) (by kernel_rfl) (by kernel_rfl) (by kernel_rfl) (fun _ _ _ h => h) (Or.inl ⟨by rfl, ?_⟩) hH ?_
            case refine_2 => intro w; go_simp; try with_reducible rfl
            try simp only [Z1, Z2, Z4, Z5, Z6, Z7]
            refine wpAnyK_takeY (i := 1) (v := ?_) rfl (by kernel_rfl) (by kernel_rfl) (by kernel_rfl) (by kernel_rfl) (fun _ _ _ h => h) (Or.inl ⟨by rfl, ?_⟩) hH ?_
            case refine_2 => intro w; go_simp; try with_reducible rfl
            try simp only [Z1, Z2, Z3, Z4, Z5, Z6, Z7]
            refine wpAnyK_takeY (i := 2) (v := ?_) rfl (by kernel_rfl) (by kernel_rfl) (by kernel_rfl) (by kernel_rfl) (fun _ _ _ h => h) (Or.inl ⟨by rfl, ?_⟩) hH ?_
            case refine_2 => intro w; go_simp; try with_reducible rfl
            try simp only [Z1, Z2, Z3, Z4, Z5, Z6, Z7]
            refine wpAnyK_takeY (i := 3) (v := ?_) rfl (by kernel_rfl) (by kernel_rfl) (by kernel_rfl) (by kernel_rfl) (fun _ _ _ h => h) (Or.inl ⟨by rfl, ?_⟩) hH ?_
            case refine_2 => intro w; go_simp; try with_reducible rfl
            try simp only [Z1, Z2, Z3, Z4, Z5, Z6, Z7]
            refine wpAnyK_takeY (i := 4) (v := ?_) rfl (by kernel_rfl) (by kernel_rfl) (by kernel_rfl) (by kernel_rfl) (fun _ _ _ h => h) (Or.inl ⟨by rfl, ?_⟩) hH ?_
            case refine_2 => intro w; go_simp; try with_reducible rfl
            try simp only [Z1, Z2, Z3, Z4, Z5, Z6, Z7]
            refine wpAnyK_takeY (i := 5) (v := ?_) rfl (by kernel_rfl) (by kernel_rfl) (by kernel_rfl) (by kernel_rfl) (fun _ _ _ h => h) (Or.inl ⟨by rfl, ?_⟩) hH ?_
            case refine_2 => intro w; go_simp; try with_reducible rfl
            try simp only [Z1, Z2, Z3, Z4, Z5, Z6, Z7]
            refine wpAnyK_takeY (i := 6) (v := ?_) rfl (by kernel_rfl) (by kernel_rfl) (by kernel_rfl) (by kernel_rfl) (fun _ _ _ h => h) (Or.inl ⟨by rfl, ?_⟩) hH ?_
            case refine_2 => intro w; go_simp; try with_reducible rfl
            try simp only [Z1, Z2, Z3, Z4, Z5, Z6, Z7]
            refine wpAnyK_takeY (i := 7) (v := ?_) rfl (by kernel_rfl) (by kernel_rfl) (by kernel_rfl) (by kernel_rfl) (fun _ _ _ h => h) (Or.inl ⟨by rfl, ?_⟩) hH ?_
            case refine_2 => intro w; go_simp; try with_reducible rfl
            try simp only [Z1, Z2, Z3, Z4, Z5, Z6, Z7]
            refine wpAnyK_takeY (i := 8) (v := ?_) rfl (by kernel_rfl) (by kernel_rfl) (by kernel_rfl) (by kernel_rfl) (fun _ _ _ h => h) (Or.inl ⟨by rfl, ?_⟩) hH ?_
            case refine_2 => intro w; go_simp; try with_reducible rfl
            try simp only [Z1, Z2, Z3, Z4, Z5, Z6, Z7]
            refine wpAnyK_take (i := 9) (v := ?_) rfl (by kernel_rfl) (by kernel_rfl) (by kernel_rfl) (by kernel_rfl) (fun _ _ _ h => h) (Or.inl ⟨by rfl, ?_⟩) hH ?_
            case refine_2 => intro w hSw; obtain ⟨ka, kb⟩ := hSw; go_simp; try with_reducible rfl
            try simp only [Z1, Z2, Z3, Z4, Z5, Z6, Z7]
            refine wpAnyK_takeY (i := 10) (v := ?_) rfl (by kernel_rfl) (by kernel_rfl) (by kernel_rfl) (by kernel_rfl) (fun _ _ _ h => h) (Or.inl ⟨by rfl, ?_⟩) hH ?_
            case refine_2 => intro w; go_simp; try with_reducible rfl
            try simp only [Z1, Z2, Z3, Z4, Z5, Z6, Z7]
            refine wpAnyK_takeY (i := 11) (v := ?_) rfl (by kernel_rfl) (by kernel_rfl) (by kernel_rfl) (by kernel_rfl) (fun _ _ _ h => h) (Or.inl ⟨by rfl, ?_⟩) hH ?_
            case refine_2 => intro w; go_simp; try with_reducible rfl
            try simp only [Z1, Z2, Z3, Z4, Z5, Z6, Z7]
            refine wpAnyK_takeY (i := 12) (v := ?_) rfl (by kernel_rfl) (by kernel_rfl) (by kernel_rfl) (by kernel_rfl) (fun _ _ _ h => h) (Or.inl ⟨by rfl, ?_⟩) hH ?_
            case refine_2 => intro w; go_simp; try with_reducible rfl
            try simp only [Z1, Z2, Z3, Z4, Z5, Z6, Z7]
            refine wpAnyK_take (i := 13) (v := ?_) rfl (by kernel_rfl) (by kernel_rfl) (by kernel_rfl) (by kernel_rfl) (fun _ _ _ h => h) (Or.inl ⟨by rfl, ?_⟩) hH ?_
            case refine_2 => intro w hSw; obtain ⟨ka, kb⟩ := hSw; go_simp; try with_reducible rfl
            try simp only [Z1, Z2, Z3, Z4, Z5, Z6, Z7]
            refine wpAnyK_takeY (i := 14) (v := ?_) rfl (by kernel_rfl) (by kernel_rfl) (by kernel_rfl) (by kernel_rfl) (fun _ _ _ h => h) (Or.inl ⟨by rfl, ?_⟩) hH ?_
            case refine_2 => intro w; go_simp; try with_reducible rfl
            try simp only [Z1, Z2, Z3, Z4, Z5, Z6, Z7]
            refine wpAnyK_ready (rs := [15]) (by kernel_rfl) (by simp) ?_
            refine AllReadyK.turn rfl (fun K hK => ?_) AllReadyK.nil
            obtain ⟨ya, yb⟩ := kS
            have g6 : w.grownBy (w5.setCell ⟨g, j + 1, none⟩ (.int .u64 (y : Int))) (some g) := only_setCell g5 (.inl rfl) _
            have o6 := NE.set_ o5 hjl hb
            have yb6 : (w5.setCell ⟨g, j + 1, none⟩ (.int .u64 (y : Int))).cell? ⟨g, j, none⟩ = some (.int .u64 (y : Int)) := by
              have hne : (⟨g, j + 1, none⟩ : Addr) ≠ ⟨g, j, none⟩ := by simp
              exact (World.cell?_setCell_other _ _ _ _ hne).trans yb
            have fb6 : (w5.setCell ⟨g, j + 1, none⟩ (.int .u64 (y : Int))).frozen? ⟨g, j, none⟩ = false := by rw [World.frozen?_setCell]; exact fb5
            go_simp
            refine hK.out _ _ ?_
            clear hK K hH ya yb fa5 fb5 o5 g5
            try simp only [Z1, Z2, Z3, Z4, Z5, Z6, Z7]
            generalize (w5.setCell ⟨g, j + 1, none⟩ (.int .u64 (y : Int))) = w6 at *
            refine wpAny_take (i := 16) (v := ?_) rfl (by kernel_rfl) (by kernel_rfl) (by kernel_rfl) (fun _ _ _ h => h) (Or.inl ⟨by rfl, ?_⟩) ?_
            case refine_2 => intro w; go_simp; try with_reducible rfl
            try simp only [Z1, Z2, Z3, Z4, Z5, Z6, Z7]
            refine wpAny_ready (rs := [17]) (by kernel_rfl) (by simp) ?_
            refine AllReady.cons rfl (fun K hK => ?_) AllReady.nil
            have o7 := NE.set_ (k := j) o6 (by rw [List.length_set]; omega) ha
            have g7 : w.grownBy (w6.setCell ⟨g, j, none⟩ (.int .u64 (x : Int))) (some g) := only_setCell g6 (.inl rfl) _
            go_simp
            refine hK _ _ ?_
            clear hK K
            try simp only [Z1, Z2, Z3, Z4, Z5, Z6, Z7]
            refine wpAny_done (by kernel_rfl) ?_ _
            refine NoPanic.normal ?_
            clear yb6 fb6 o6 g6
            go_wp2_with fail
            go_roundw
            case rel => exact ⟨j, (l1.set (j + 1) y).set j x, by omega, by simp, by show _ = _; rw [List.length_set, List.length_set]; exact HLn1.out, o7, g7, HB2.out⟩
            case measure => simp [intOf]
          · have hxyi : ¬ (x : Int) < (y : Int) := by omega
            have HE : Hid (l1 = bubP i l) := by show _ = _; rw [← HST.out, if_neg hxy]
            clear HST
            go_wp2_with fail
            go_roundw
            case rel =>
              refine ⟨i + 1, l1, by omega, by omega, by simp, HLn1.out, o2 _, g2 _, ?_⟩
              show _ = _
              rw [HE.out]
              exact HI2.out
            case measure => simp [intOf]; omega
    · obtain rfl : i = n := by omega
      have HE : Hid (R = l) := by show _ = _; rw [← HI.out, Nat.sub_self]; rfl
      go_wp2_with fail
      go_end0
      rw [HE.out, ← HLn.out]
      exact ⟨rfl, oL, gL⟩
end Go.Proofs.Ytjpcekpllfelhaa

namespace Go.Proofs.Ytjpcekpllfelhaa
open Go.RowKit

set_option maxRecDepth 100000 in
set_option maxHeartbeats 2000000 in
theorem len64_any (x : Nat) (h : x ≤ 255) (w : World) : Calls Try.prog 70 #[.int .u64 (x : Int)] w fun e w' => (∃ k : Int, e = .returned (.int .i64 k)) ∧ w' = w := by
  have h1 : ¬ (4294967296 : Int) ≤ (x : Int) := by omega
  have h2 : ¬ (65536 : Int) ≤ (x : Int) := by omega
  have h3 : ¬ (256 : Int) ≤ (x : Int) := by omega
  have h4 : (x : Int) < 256 := by omega
  have h5 : (0 : Int) ≤ (x : Int) := by omega
  go_enter Try.func70, Try.ntmps70
  go_wp2_with fail
  go_ret
  exact ⟨⟨_, rfl⟩, rfl⟩
set_option maxHeartbeats 1000000 in
theorem len_any (x : Nat) (h : x ≤ 255) (w : World) : Calls Try.prog 59 #[.int .u64 (x : Int)] w fun e w' => (∃ k : Int, e = .returned (.int .i64 k)) ∧ w' = w := by
  have T := len64_any x h w
  go_enter Try.func59, Try.ntmps59
  go_wp2_with fail
  refine T.mono ?_
  rintro e w' ⟨⟨k, rfl⟩, rfl⟩
  go_wp2_with fail
  go_ret
  exact ⟨⟨_, rfl⟩, rfl⟩
/-- behind the sort -/
def SortTo (g c : Nat) (l0 : List Nat) (w : World) (en : Ending) (w' : World) : Prop :=
  en = .returned (.tuple #[]) ∧ Own NE 28 w' 0 Nil (.slice (some ⟨g, 0, none⟩) l0.length c) (sortP l0) ∧ w.grownBy w' (some g)
set_option maxRecDepth 100000 in
set_option maxHeartbeats 1000000 in
theorem pdq_any (g c : Nat) (l0 : List Nat) (k : Int) (w : World) (ho : Own NE 28 w 0 Nil (.slice (some ⟨g, 0, none⟩) l0.length c) l0) (h0 : 0 < l0.length) (h12 : l0.length ≤ 12) :
    Calls Try.prog 58 #[.slice (some ⟨g, 0, none⟩) l0.length c, .int .i64 0, .int .i64 (l0.length : Int), .int .i64 k] w (SortTo g c l0 w) := by
  have T := ins_any g c l0 w ho h0 (by omega)
  have hle : (l0.length : Int) ≤ 12 := by omega
  clear ho
  go_enter Try.func58, Try.ntmps58
  go_wp2_with fail
  go_loopw [1, 2] (fun v u wr => v = .int .i64 0 ∧ u = .int .i64 (l0.length : Int) ∧ wr = w) (fun _ _ _ => 0)
  case atStart => exact ⟨rfl, rfl, rfl⟩
  case round =>
    obtain ⟨rfl, rfl, rfl⟩ := hrel
    go_wp2_with fail
    refine T.mono ?_
    rintro e w' ⟨rfl, h1, h2⟩
    go_wp2_with fail
    refine bodyPost_ret (results_none rfl _ _ _) rfl ?_
    exact ⟨rfl, h1, h2⟩
set_option maxRecDepth 100000 in
set_option maxHeartbeats 1000000 in
theorem sort_any (g c : Nat) (l0 : List Nat) (w : World) (ho : Own NE 28 w 0 Nil (.slice (some ⟨g, 0, none⟩) l0.length c) l0) (h0 : 0 < l0.length) (h12 : l0.length ≤ 12) :
    Calls Try.prog 55 #[.slice (some ⟨g, 0, none⟩) l0.length c] w (SortTo g c l0 w) := by
  have T := len_any l0.length (by omega) w
  have hw : IntKind.u64.wrap (l0.length : Int) = (l0.length : Int) := by simp [IntKind.wrap, IntKind.bits, IntKind.signed]; omega
  go_enter Try.func55, Try.ntmps55
  go_wp2_with fail
  refine T.mono ?_
  clear T
  rintro e w' ⟨⟨k, rfl⟩, rfl⟩
  have T2 := pdq_any g c l0 k w' ho h0 h12
  go_wp2_with fail
  refine T2.mono ?_
  clear T2
  rintro e w2 ⟨rfl, h1, h2⟩
  go_wp2_with fail
  go_end0
  exact ⟨rfl, h1, h2⟩
theorem NE.ints {w : World} {l : List Nat} {v : Value} {B : Nat} (h : Own NE 28 w B Nil v l) (h0 : 0 < l.length) : IntsU w.heap.size w v (l.map (fun (x : Nat) => (x : Int))) := by
  obtain ⟨A, c, rfl⟩ := h.shape
  obtain ⟨g, rfl, _, h2⟩ := Own.form h h0
  refine ⟨g, 0, c, by rw [List.length_map], h2, fun j hj => ?_⟩
  rw [List.length_map] at hj
  obtain ⟨g', c', e, hc, _⟩ := NE.own_at h hj
  obtain rfl : g = g' := by injection e with e1 _ _; injection Option.some.inj e1
  rw [Nat.zero_add, hc]
  simp [List.getD_eq_getElem?_getD, List.getElem?_eq_getElem hj]
theorem NE.of_ints {w : World} {B : Nat} {v : Value} : ∀ (l : List Nat), (∀ x ∈ l, x ≤ 18446744073709551615) → ∀ (S : Nat → Prop), NE.flat w S ((l.map (fun (x : Nat) => (x : Int))).map (Value.int .u64)) l
  | [], _, _ => rfl
  | x :: r, h, S => ⟨[.int .u64 (x : Int)], _, rfl, ⟨rfl, h x (List.mem_cons_self ..)⟩, NE.of_ints (w := w) (B := B) (v := v) r (fun y hy => h y (List.mem_cons_of_mem _ hy)) S⟩
set_option maxRecDepth 100000 in
set_option maxHeartbeats 1000000 in
theorem sorted_any (Bs : Nat) (sv : Value) (l : List Nat) (w : World) (hBs : Bs < w.heap.size) (hsv : w.cell? ⟨Bs, 0, none⟩ = some sv) (ho : Own NE 28 w 0 Nil sv l) (h0 : 0 < l.length) (h12 : l.length ≤ 12) :
    Calls Try.prog 52 #[.func (.func 56) #[] #[.pointer (some ⟨Bs, 0, none⟩)]] w fun e W' => ∃ g c, e = .returned (.slice (some ⟨g, 0, none⟩) l.length c) ∧ Own NE 28 W' 0 Nil (.slice (some ⟨g, 0, none⟩) l.length c) (sortP l) ∧ Below w.heap.size w W' := by
  have hlx : ∀ x ∈ l, x ≤ 18446744073709551615 := fun x hx => by
    obtain ⟨i, hi, rfl⟩ := List.mem_iff_getElem.1 hx
    obtain ⟨_, _, _, _, h, _⟩ := NE.own_at ho hi
    rwa [List.getD_eq_getElem?_getD, List.getElem?_eq_getElem hi] at h
  have T := collectU_any Bs sv (l.map (fun (x : Nat) => (x : Int))) (by rw [List.length_map]; simp [maxLen]; omega) (by rw [List.length_map]; omega) w hBs hsv (NE.ints ho h0)
  rw [List.length_map] at T
  go_enter Try.func52, Try.ntmps52
  go_wp2_with fail
  refine T.mono ?_
  clear T
  rintro e W ⟨v, rfl, hrow, hb⟩
  have oW : Own NE 28 W w.heap.size Nil v l := ⟨_, hrow, NE.of_ints (w := W) (B := 0) (v := v) l hlx _⟩
  obtain ⟨A, c, rfl⟩ := oW.shape
  obtain ⟨g, rfl, hg1, hg2⟩ := Own.form oW h0
  clear hrow
  have T := sort_any g c l W (oW.base (Nat.zero_le _)) h0 h12
  go_wp2_with fail
  refine T.mono ?_
  clear T
  rintro e w2 ⟨rfl, h1, h2⟩
  go_wp2_with fail
  go_ret
  exact ⟨g, c, rfl, h1, hb.grown h2 hb.size fun j e => by have := Option.some.inj e; omega⟩
end Go.Proofs.Ytjpcekpllfelhaa

namespace Go.Proofs.Ytjpcekpllfelhaa
open Go.RowKit

theorem countT_step (l : List Bool) (k : Nat) (h : k < l.length) : countT (l.take (k + 1)) = if l[k] then countT (l.take k) + 1 else countT (l.take k) := by
  unfold countT
  rw [List.take_succ_eq_append_getElem h, List.foldl_append]
  rfl
theorem countT_le : ∀ (l : List Bool) (k : Nat), countT (l.take k) ≤ k
  | l, 0 => by simp [countT]
  | l, k + 1 => by
    by_cases h : k < l.length
    · rw [countT_step l k h]
      have := countT_le l k
      split <;> omega
    · rw [List.take_of_length_le (by omega)]
      have := countT_le l k
      rw [List.take_of_length_le (by omega)] at this
      omega
set_option maxRecDepth 100000 in
set_option maxHeartbeats 1000000 in
theorem most_any (g : Nat) (E V M X : Value) (d : LNode) (v : Value) (l : List Bool) (w : World) (hk : Blk w g 48 (nodeC E V M X d)) (ho : Own BoE 4 w 0 Nil v l) (hl : l.length ≤ 1000) :
    Calls Try.prog 44 #[.pointer (some ⟨g, 0, none⟩), v] w (fun en w' => en = .returned (.bool (mostP d l)) ∧ w' = w) := by
  obtain ⟨A, c, rfl⟩ := ho.shape
  have c6 : w.cell? ⟨g, 6, none⟩ = some (.int .i64 (d.n : Int)) := hk.cell 6
  go_enter Try.func44, Try.ntmps44
  go_wp2_with fail
  go_loopw [5, 10] (fun u v wr => ∃ (k x : Nat), k ≤ l.length ∧ x ≤ k ∧ u = .int .i64 (x : Int) ∧ v = .int .i64 (k : Int) ∧ Hid (x = countT (l.take k)) ∧ wr = w) (fun _ v _ => l.length - (intOf v).toNat)
  case atStart => exact ⟨0, 0, Nat.zero_le _, Nat.le_refl _, rfl, rfl, rfl, rfl⟩
  case round =>
    obtain ⟨k, x, hk, hx, rfl, rfl, HX, rfl⟩ := hrel
    by_cases hlt : k < l.length
    · obtain ⟨g', c', e', ca, _⟩ := BoE.own_at ho hlt
      obtain ⟨rfl, rfl⟩ : A = some ⟨g', 0, none⟩ ∧ c = c' := by injection e' with e1 e2 e3; exact ⟨e1, e3⟩
      have HS : Hid (countT (l.take (k + 1)) = if l[k] then x + 1 else x) := by show _ = _; rw [HX.out]; exact countT_step l k hlt
      generalize l[k] = b at *
      cases b with
      | true =>
        go_wp2_with fail
        go_roundw
        case rel => exact ⟨k + 1, x + 1, by omega, by omega, by simp, by simp, HS.out.symm, trivial⟩
        case measure => simp [intOf]; omega
      | false =>
        go_wp2_with fail
        go_roundw
        case rel => exact ⟨k + 1, x, by omega, by omega, rfl, by simp, HS.out.symm, trivial⟩
        case measure => simp [intOf]; omega
    · obtain rfl : k = l.length := by omega
      have HE : Hid (mostP d l = decide (d.n < 2 * x)) := by show _ = _; unfold mostP; rw [HX.out, List.take_length]
      go_wp2_with fail
      go_ret
      rw [HE.out]
      exact ⟨ret_bool (by rw [decide_eq_decide]; omega), rfl⟩
set_option maxRecDepth 100000 in
set_option maxHeartbeats 2000000 in
theorem agree_any (g : Nat) (S : Nat → Prop) (E V M X : Value) (d : LNode) (w : World) (hN : NodeAt w g S E V M X d) (hb : GB d) (hn1 : 1 ≤ d.n) (hn5 : d.n ≤ 12) (hm : d.mat.length = d.n) :
    Calls Try.prog 48 #[.pointer (some ⟨g, 0, none⟩)] w (fun en w' => en = .returned (.tuple #[]) ∧ w.grownBy w' (some g) ∧ NodeAt w' g S E V M X (agreeP d)) := by
  obtain ⟨A, ec, rfl⟩ := hN.log.shape
  obtain ⟨Am, mc, rfl⟩ := hN.mat.shape
  have c13 : w.cell? ⟨g, 13, none⟩ = some (.slice Am d.mat.length mc) := hN.blk.cell 13
  have hm1 : 0 < d.mat.length := by omega
  have hm2 : d.mat.length ≤ 12 := by omega
  have hm3 : ∀ k, k = (d.n - 1) / 2 → k < d.mat.length := fun k hk => by omega
  have HM3 := Lib.hid hm3
  clear hm hm3
  have T := Go.callsIn_wide.1 (valuesU_in Fence.wide 3 trivial rfl Am d.mat.length mc w)
  go_enter Try.func48, Try.ntmps48
  go_wp2_with fail
  refine T.mono ?_
  clear T
  rintro en w1 ⟨rfl, hw1⟩
  have d1 : Below w.heap.size w w1 := by rw [hw1]; exact (Below.refl _ _).alloc (Nat.le_refl _) _
  have e1 : w1.cell? ⟨w.heap.size, 0, none⟩ = some (.slice Am d.mat.length mc) := by rw [hw1]; exact (Blk.new w 46 #[.slice Am d.mat.length mc]).cell 0
  have l1 : w.heap.size < w1.heap.size := by rw [hw1]; simp
  have T := sorted_any w.heap.size (.slice Am d.mat.length mc) d.mat w1 l1 e1 (hN.mat.below d1) hm1 hm2
  clear hw1
  go_wp2_with fail
  refine T.mono ?_
  clear T e1 c13
  rintro en w2 ⟨gs, cs, rfl, oS, d2⟩
  have d02 := below_step d1 d2
  have N2 := hN.below d02
  have c6 : w2.cell? ⟨g, 6, none⟩ = some (.int .i64 (d.n : Int)) := N2.blk.cell 6
  obtain ⟨k, hk⟩ : ∃ k, k = (d.n - 1) / 2 := ⟨_, rfl⟩
  have hkl : k < (sortP d.mat).length := by rw [sortP_len]; exact HM3.out k hk
  have oS' : Own NE 28 w2 0 Nil (.slice (some ⟨gs, 0, none⟩) d.mat.length cs) (sortP d.mat) := oS
  obtain ⟨gs', cs', e', ck, hx, _⟩ := NE.own_at oS' hkl
  obtain rfl : gs = gs' := by injection e' with e1 _ _; injection Option.some.inj e1
  obtain ⟨x, hxx⟩ : ∃ x, x = (sortP d.mat).getD k 0 := ⟨_, rfl⟩
  rw [← hxx] at ck hx
  have HA : Hid (agreeP d = if (termAt d x).2 = true ∧ (termAt d x).1 = d.term ∧ d.commit < x then { d with commit := x } else d) := by show _ = _; unfold agreeP; rw [hxx, hk]
  have hq : Int.tdiv ((d.n : Int) - 1) 2 = (k : Int) := by
    rw [hk, show (d.n : Int) - 1 = ((d.n - 1 : Nat) : Int) by omega]
    rfl
  have hkm : (k : Int) < (d.mat.length : Int) := by rw [sortP_len] at hkl; omega
  clear oS oS' e' hxx hk d1 d2
  go_upto_region 2 with fail
  clear c6 ck hq hkm
  have T := termat_any g A ec V (.slice Am d.mat.length mc) X Any d x w2 N2.blk (N2.slS hb.len32) hb.nb hx
  obtain ⟨q, hqq⟩ : ∃ q, q = termAt d x := ⟨_, rfl⟩
  rw [← hqq] at T HA
  clear hqq
  obtain ⟨qt, qo⟩ := q
  replace HA : Hid (agreeP d = if qo = true ∧ qt = d.term ∧ d.commit < x then { d with commit := x } else d) := HA
  go_wp2_with fail
  refine T.mono ?_
  clear T
  rintro en w3 ⟨rfl, n3, hw3⟩
  have d3 : Below w2.heap.size w2 w3 := by rw [hw3]; exact ⟨rfl, rfl, rfl, Nat.le_refl _, fun _ _ => rfl⟩
  have d03 := below_step d02 d3
  have N3 := hN.below d03
  have s0 : w3.cell? ⟨g, 0, none⟩ = some (.int .u64 (d.term : Int)) := N3.blk.cell 0
  have s10 : w3.cell? ⟨g, 10, none⟩ = some (.int .u64 (d.commit : Int)) := N3.blk.cell 10
  have f10 : w3.frozen? ⟨g, 10, none⟩ = false := N3.blk.frozen 10
  clear hw3 d3 d02 N2
  have hno : Hid (agreeP d = d) → (w.grownBy w3 (some g) ∧ NodeAt w3 g S (.slice A d.log.length ec) V (.slice Am d.mat.length mc) X (agreeP d)) := fun h => ⟨only_of_below d03 _, by rw [h.out]; exact N3⟩
  have HNO := Lib.hid hno
  clear hno
  cases qo with
  | false =>
    have HE : Hid (agreeP d = d) := by show _ = _; rw [HA.out, if_neg (by simp)]
    clear HA
    go_wp2_with fail
    exact bodyEnd0 rfl rfl ⟨rfl, HNO.out HE⟩
  | true =>
    by_cases ht : qt = d.term
    · have hti : ((qt : Int) == (d.term : Int)) = true := by rw [beq_iff_eq]; omega
      by_cases hc : d.commit < x
      · have hci : (d.commit : Int) < (x : Int) := by omega
        have HE : Hid (agreeP d = { d with commit := x }) := by show _ = _; rw [HA.out, if_pos ⟨rfl, ht, hc⟩]
        have g4 : w3.grownBy (w3.setCell ⟨g, 10, none⟩ (.int .u64 (x : Int))) (some g) := only_setCell (only_of_below (Below.refl _ _) (some g)) (.inl rfl) _
        have N4 : NodeAt (w3.setCell ⟨g, 10, none⟩ (.int .u64 (x : Int))) g S (.slice A d.log.length ec) V (.slice Am d.mat.length mc) X { d with commit := x } := N3.turn g4 (N3.blk.set_ 10 (.int .u64 (x : Int))) ⟨rfl, rfl, rfl, rfl⟩
        have g04 : w.grownBy (w3.setCell ⟨g, 10, none⟩ (.int .u64 (x : Int))) (some g) := only_setCell (only_of_below d03 (some g)) (.inl rfl) _
        clear HA HNO N3 g4 ht
        go_wp2_with fail
        exact bodyEnd0 rfl rfl (by rw [HE.out]; exact ⟨rfl, g04, N4⟩)
      · have hci : ¬ (d.commit : Int) < (x : Int) := by omega
        have HE : Hid (agreeP d = d) := by show _ = _; rw [HA.out, if_neg (by omega)]
        clear HA ht
        go_wp2_with fail
        exact bodyEnd0 rfl rfl ⟨rfl, HNO.out HE⟩
    · have hti : ((qt : Int) == (d.term : Int)) = false := by rw [beq_eq_false_iff_ne]; omega
      have HE : Hid (agreeP d = d) := by show _ = _; rw [HA.out, if_neg (by omega)]
      clear HA ht
      go_wp2_with fail
      exact bodyEnd0 rfl rfl ⟨rfl, HNO.out HE⟩
end Go.Proofs.Ytjpcekpllfelhaa
