/- A node's From. (Printed by wip/gen_rfc.py.) -/
import Derived.Test.YtjpcekpllfelhaaRfB
namespace Go.Proofs.Ytjpcekpllfelhaa
open Go.RowKit

theorem run_lowE (A : Option Addr) (n c k : Nat) (l : Int) (hl : l = (k : Int)) (hk : k ≤ n) (w : World) :
    (Instr.slice 31 (.slice A n c) (some (.int .u64 l)) none none).run Try.prog w = .ok (.slice (if c = k then A else A.map (·.add (k * 2))) (n - k) (c - k)) w := by
  subst hl
  have h1 : (0 : Int) ≤ (k : Int) := by omega
  have h2 : (k : Int) ≤ (n : Int) := by omega
  have hs : (sizeOf (Try.prog.elem 31)).run Try.prog w = .ok 2 w := by kernel_rfl
  rw [run_slice_l w 31 A n c (by kernel_rfl) .u64 (k : Int) h1 h2, hs]
  simp [Result.andThen, sliced]
/-- what stands from place k on -/
theorem SlS.dropE {w : World} {S : Nat → Prop} {A : Option Addr} {l : List LEnt} {c : Nat} (h : SlS EntE w S A l) (hc : l.length ≤ c) (k : Nat) (i : Int) (hi : i = (k : Int)) (hk : k ≤ l.length) :
    ∃ R, SlS EntE w S R (l.drop k) ∧ ∀ W, (Instr.slice 31 (.slice A l.length c) (some (.int .u64 i)) none none).run Try.prog W = .ok (.slice R (l.drop k).length (c - k)) W :=
  ⟨_, h.drop hk hc, fun W => by rw [run_lowE A _ c k i hi hk, List.length_drop]; rfl⟩
/-- the entries from an index on -/
def fromR (d : LNode) (i : Nat) : List LEnt := if lastN d < i then [] else d.log.drop (max i (d.base + 1) - d.base - 1)
set_option maxRecDepth 100000 in
set_option maxHeartbeats 1000000 in
theorem from_any (g : Nat) (A : Option Addr) (c : Nat) (V M X : Value) (S : Nat → Prop) (d : LNode) (i : Nat) (w : World) (hk : Blk w g 48 (nodeC (.slice A d.log.length c) V M X d)) (hl : SlS EntE w S A d.log) (hc : d.log.length ≤ c) (hb : NodeB d) :
    Calls Try.prog 12 #[.pointer (some ⟨g, 0, none⟩), .int .u64 (i : Int)] w (RetEnts (fromR d i) w) := by
  have T := last_any g A c V M X d w hk hb
  have hbl := hb.last
  have hln : lastN d = d.base + d.log.length := rfl
  go_enter Try.func12, Try.ntmps12
  go_wp2_with fail
  refine T.mono ?_
  clear T
  rintro en w1 ⟨rfl, q, hq⟩
  have hd : Below w.heap.size w w1 := by rw [hq]; exact ⟨rfl, rfl, rfl, Nat.le_refl _, fun _ _ => rfl⟩
  replace hk := hk.below hd hk.lt
  replace hl := hl.below hd
  clear hq
  by_cases h2 : lastN d < i
  · have e : Hid (fromR d i = []) := by show _ = _; unfold fromR; rw [if_pos h2]
    have h2i : (lastN d : Int) < (i : Int) := by omega
    clear hln
    go_wp2_with fail
    go_ret
    rw [e.out]
    exact ⟨none, 0, rfl, Own.nil_ _ _ _ _ _, hd⟩
  · have h2i : ¬ (lastN d : Int) < (i : Int) := by omega
    obtain ⟨j, hj⟩ : ∃ j, j = max i (d.base + 1) - d.base - 1 := ⟨_, rfl⟩
    have e : Hid (fromR d i = d.log.drop j) := by show _ = _; unfold fromR; rw [if_neg h2, hj]
    have hjl : j ≤ d.log.length := by omega
    have hwr : IntKind.u64.wrap ((d.base : Int) + 1) = (d.base : Int) + 1 := by simp [IntKind.wrap, IntKind.bits, IntKind.signed]; omega
    have hmx : (if (i : Int) < IntKind.u64.wrap ((d.base : Int) + 1) then IntKind.u64.wrap ((d.base : Int) + 1) else (i : Int)) = (d.base : Int) + 1 + (j : Int) := by rw [hwr]; split <;> omega
    have HMX := Lib.hid hmx
    obtain ⟨R, hR, hrun⟩ := hl.dropE hc j (j : Int) rfl hjl
    obtain ⟨L, hL⟩ : ∃ L, L = d.log.drop j := ⟨_, rfl⟩
    rw [← hL] at hR hrun
    have HL := Lib.hid hL
    clear hL hj hln hmx hwr
    go_upto_region 3 with fail
    have kd := hk.drew
    refine wp_region_noPanic ?_
    refine wp_region_held_drew (S := fun Y => Blk Y g 48 (nodeC (.slice A d.log.length c) V M X d)) (by kernel_rfl) kd (fun hH => ?_)
    refine wpAnyH_take (i := 0) (v := ?_) rfl (by kernel_rfl) (by kernel_rfl) (by kernel_rfl) (fun _ _ _ h => h) (Or.inl ⟨by rfl, ?_⟩) hH ?_
    case refine_2 => intro w hSw; go_simp; try with_reducible rfl
    try simp only [Z1, Z2, Z4, Z5, Z6, Z7]
    refine wpAnyH_take (i := 1) (v := ?_) rfl (by kernel_rfl) (by kernel_rfl) (by kernel_rfl) (fun _ _ _ h => h) (Or.inl ⟨by rfl, ?_⟩) hH ?_
    case refine_2 => intro w hSw; go_simp; try with_reducible rfl
    try simp only [Z1, Z2, Z3, Z4, Z5, Z6, Z7]
    refine wpAnyH_take (i := 2) (v := ?_) rfl (by kernel_rfl) (by kernel_rfl) (by kernel_rfl) (fun _ _ _ h => h) (Or.inl ⟨by rfl, ?_⟩) hH ?_
    case refine_2 => intro w hSw; go_simp; try with_reducible rfl
    try simp only [Z1, Z2, Z3, Z4, Z5, Z6, Z7]
    refine wpAnyH_take (i := 3) (v := ?_) rfl (by kernel_rfl) (by kernel_rfl) (by kernel_rfl) (fun _ _ _ h => h) (Or.inl ⟨by rfl, ?_⟩) hH ?_
    case refine_2 => intro w hSw; go_simp; try with_reducible rfl
    try simp only [Z1, Z2, Z3, Z4, Z5, Z6, Z7]
    refine wpAnyH_take (i := 4) (v := ?_) rfl (by kernel_rfl) (by kernel_rfl) (by kernel_rfl) (fun _ _ _ h => h) (Or.inl ⟨by rfl, ?_⟩) hH ?_
    case refine_2 => intro w hSw; have kw : Blk w g 48 (nodeC (.slice A d.log.length c) V M X d) := hSw; have s2 : w.cell? ⟨_, 2, none⟩ = some (.int .u64 (d.base : Int)) := Blk.cell kw 2; have s4 : w.cell? ⟨_, 4, none⟩ = some (.slice A d.log.length c) := Blk.cell kw 4; clear kw hSw; go_simp; try with_reducible rfl
    try simp only [Z1, Z2, Z3, Z4, Z5, Z6, Z7]
    refine wpAnyH_take (i := 5) (v := ?_) rfl (by kernel_rfl) (by kernel_rfl) (by kernel_rfl) (fun _ _ _ h => h) (Or.inl ⟨by rfl, ?_⟩) hH ?_
    case refine_2 => intro w hSw; go_simp; try with_reducible rfl
    try simp only [Z1, Z2, Z3, Z4, Z5, Z6, Z7]
    refine wpAnyH_take (i := 6) (v := ?_) rfl (by kernel_rfl) (by kernel_rfl) (by kernel_rfl) (fun _ _ _ h => h) (Or.inl ⟨by rfl, ?_⟩) hH ?_
    case refine_2 => intro w hSw; go_simp; try with_reducible rfl
    try simp only [Z1, Z2, Z3, Z4, Z5, Z6, Z7]
    refine wpAnyH_take (i := 7) (v := ?_) rfl (by kernel_rfl) (by kernel_rfl) (by kernel_rfl) (fun _ _ _ h => h) (Or.inl ⟨by rfl, ?_⟩) hH ?_
    case refine_2 => intro w hSw; go_simp; try with_reducible rfl
    try simp only [Z1, Z2, Z3, Z4, Z5, Z6, Z7]
    refine wpAnyH_take (i := 8) (v := ?_) rfl (by kernel_rfl) (by kernel_rfl) (by kernel_rfl) (fun _ _ _ h => h) (Or.inl ⟨by rfl, ?_⟩) hH ?_
    case refine_2 => intro w hSw; go_simp; try with_reducible rfl
    try simp only [Z1, Z2, Z3, Z4, Z5, Z6, Z7]
    refine wpAnyH_take (i := 9) (v := ?_) rfl (by kernel_rfl) (by kernel_rfl) (by kernel_rfl) (fun _ _ _ h => h) (Or.inl ⟨by rfl, ?_⟩) hH ?_
    case refine_2 => intro w hSw; go_simp; try with_reducible rfl
    try simp only [Z1, Z2, Z3, Z4, Z5, Z6, Z7]
    refine wpAnyH_take (i := 10) (v := ?_) rfl (by kernel_rfl) (by kernel_rfl) (by kernel_rfl) (fun _ _ _ h => h) (Or.inl ⟨by rfl, ?_⟩) hH ?_
    case refine_2 => intro w hSw; have kw : Blk w g 48 (nodeC (.slice A d.log.length c) V M X d) := hSw; have s2 : w.cell? ⟨_, 2, none⟩ = some (.int .u64 (d.base : Int)) := Blk.cell kw 2; have s4 : w.cell? ⟨_, 4, none⟩ = some (.slice A d.log.length c) := Blk.cell kw 4; clear kw hSw; go_simp; try with_reducible rfl
    try simp only [Z1, Z2, Z3, Z4, Z5, Z6, Z7]
    refine wpAnyH_take (i := 11) (v := ?_) rfl (by kernel_rfl) (by kernel_rfl) (by kernel_rfl) (fun _ _ _ h => h) (Or.inl ⟨by rfl, ?_⟩) hH ?_
    case refine_2 => intro w hSw; go_simp; try with_reducible rfl
    try simp only [Z1, Z2, Z3, Z4, Z5, Z6, Z7]
    refine wpAnyH_take (i := 12) (v := ?_) rfl (by kernel_rfl) (by kernel_rfl) (by kernel_rfl) (fun _ _ _ h => h) (Or.inl ⟨by rfl, ?_⟩) hH ?_
    case refine_2 => intro w hSw; go_simp; try with_reducible rfl
    try simp only [Z1, Z2, Z3, Z4, Z5, Z6, Z7]
    rw [HMX.out]
    have z1 : (d.base : Int) + 1 + (j : Int) - (d.base : Int) - 1 = (j : Int) := by omega
    refine wpAnyH_take (i := 13) (v := ?_) rfl (by kernel_rfl) (by kernel_rfl) (by kernel_rfl) (fun _ _ _ h => h) (Or.inl ⟨by rfl, ?_⟩) hH ?_
    case refine_2 => intro w hSw; go_simp; try with_reducible rfl
    try simp only [Z1, Z2, Z3, Z4, Z5, Z6, Z7]
    refine wpAnyH_take (i := 14) (v := ?_) rfl (by kernel_rfl) (by kernel_rfl) (by kernel_rfl) (fun _ _ _ h => h) (Or.inl ⟨by rfl, ?_⟩) hH ?_
    case refine_2 => intro w hSw; go_simp; try with_reducible rfl
    try simp only [Z1, Z2, Z3, Z4, Z5, Z6, Z7]
    refine wpAnyH_take (i := 15) (v := ?_) rfl (by kernel_rfl) (by kernel_rfl) (by kernel_rfl) (fun _ _ _ h => h) (Or.inl ⟨by rfl, ?_⟩) hH ?_
    case refine_2 => intro w hSw; go_simp; try with_reducible rfl
    try simp only [Z1, Z2, Z3, Z4, Z5, Z6, Z7]
    refine wpAnyH_take (i := 16) (v := ?_) rfl (by kernel_rfl) (by kernel_rfl) (by kernel_rfl) (fun _ _ _ h => h) (Or.inl ⟨by rfl, ?_⟩) hH ?_
    case refine_2 => intro w hSw; go_simp; try with_reducible rfl
    try simp only [Z1, Z2, Z3, Z4, Z5, Z6, Z7]
    refine wpAnyH_take (i := 17) (v := ?_) rfl (by kernel_rfl) (by kernel_rfl) (by kernel_rfl) (fun _ _ _ h => h) (Or.inl ⟨by rfl, ?_⟩) hH ?_
    case refine_2 => intro w hSw; have kw : Blk w g 48 (nodeC (.slice A d.log.length c) V M X d) := hSw; have s2 : w.cell? ⟨_, 2, none⟩ = some (.int .u64 (d.base : Int)) := Blk.cell kw 2; have s4 : w.cell? ⟨_, 4, none⟩ = some (.slice A d.log.length c) := Blk.cell kw 4; clear kw hSw; go_simp; try with_reducible rfl
    try simp only [Z1, Z2, Z3, Z4, Z5, Z6, Z7]
    refine wpAnyH_take (i := 18) (v := ?_) rfl (by kernel_rfl) (by kernel_rfl) (by kernel_rfl) (fun _ _ _ h => h) (Or.inl ⟨by rfl, ?_⟩) hH ?_
    case refine_2 => intro w hSw; go_simp; try with_reducible rfl
    try simp only [Z1, Z2, Z3, Z4, Z5, Z6, Z7]
    refine wpAnyH_take (i := 19) (v := ?_) rfl (by kernel_rfl) (by kernel_rfl) (by kernel_rfl) (fun _ _ _ h => h) (Or.inl ⟨by rfl, ?_⟩) hH ?_
    case refine_2 => intro w hSw; go_simp; try with_reducible rfl
    try simp only [Z1, Z2, Z3, Z4, Z5, Z6, Z7]
    have hz : IntKind.u64.wrap (IntKind.u64.wrap ((d.base : Int) + 1 + (j : Int) - (d.base : Int)) - 1) = (j : Int) := by simp [IntKind.wrap, IntKind.bits, IntKind.signed]; omega
    rw [hz]
    clear hz
    refine wpAnyH_take (i := 20) (v := ?_) rfl (by kernel_rfl) (by kernel_rfl) (by kernel_rfl) (fun _ _ _ h => h) (Or.inl ⟨by rfl, ?_⟩) hH ?_
    case refine_2 => intro w hSw; go_simp; try with_reducible rfl
    try simp only [Z1, Z2, Z3, Z4, Z5, Z6, Z7]
    refine wpAnyH_ready (rs := [21]) (by kernel_rfl) (by simp) ?_
    refine AllReadyH.cons rfl (fun K hK => ?_) AllReadyH.nil
    go_simp
    refine (twins_any R L (c - j) S w1.drew (hR.below ((Below.refl _ _).drew))).mono ?_
    rintro en w2 ⟨A2, c2, rfl, o2, b2⟩
    refine hK.out _ _ (kd.below b2 kd.lt) (fun hH => ?_)
    clear hK K
    try dsimp only
    try simp only [Z1, Z2, Z3, Z4, Z5, Z6, Z7]
    refine wpAnyH_take (i := 22) (v := ?_) rfl (by kernel_rfl) (by kernel_rfl) (by kernel_rfl) (fun _ _ _ h => h) (Or.inl ⟨by rfl, ?_⟩) hH ?_
    case refine_2 => intro w hSw; go_simp; try with_reducible rfl
    try simp only [Z1, Z2, Z3, Z4, Z5, Z6, Z7]
    refine wpAnyH_done (by kernel_rfl) ?_ _
    refine NoPanic.normal ?_
    go_wp2_with fail
    go_ret
    rw [e.out, ← HL.out]
    have b12 := below_step (below_step hd ((Below.refl _ _).drew)) b2
    exact ⟨A2, c2, rfl, (o2.base hd.size).mono fun g _ _ h => Nat.le_trans hd.size h, b12⟩
end Go.Proofs.Ytjpcekpllfelhaa
