/- Files and edits in the document's words that read the same are told to be the same: SameFile, sameFiles, SameEdit. -/
import Derived.Test.YtmgibpedclngpaaManP
import Derived.Test.YtmgibpedclngpaaEqR
import Derived.Test.YtmgibpedclngpaaHeldK
import Derived.StillTailTactics
import Derived.Test.YtmgibpedclngpaaMRead
namespace Go.Proofs.Ytmgibpedclngpaa
open Go.RowKit

def RetTrue (w : World) (en : Ending) (w' : World) : Prop := en = .returned (.bool true) ∧ Below w.heap.size w w'
set_option maxRecDepth 100000 in
set_option maxHeartbeats 4000000 in
theorem samefile_any (f : LFile) (A B C D : Option Addr) (a b c d : Nat) (w : World) (hA : Bs w A f.first) (hB : Bs w B f.last) (hC : Bs w C f.first) (hD : Bs w D f.last) :
    Calls Try.prog 64 #[.agg #[.int .u64 (f.num : Int), .int .i64 f.level, .slice A f.first.length a, .slice B f.last.length b, .int .i64 f.count, .int .i64 f.size], .agg #[.int .u64 (f.num : Int), .int .i64 f.level, .slice C f.first.length c, .slice D f.last.length d, .int .i64 f.count, .int .i64 f.size]] w (RetTrue w) := by
  have b0 : Below w.heap.size w ((w.alloc (.cells #[.int .u64 (f.num : Int), .int .i64 f.level, .slice A f.first.length a, .slice B f.last.length b, .int .i64 f.count, .int .i64 f.size] 71)).alloc (.cells #[.int .u64 (f.num : Int), .int .i64 f.level, .slice C f.first.length c, .slice D f.last.length d, .int .i64 f.count, .int .i64 f.size] 71)) := ((Below.refl _ _).alloc (Nat.le_refl _) _).alloc (by simp) _
  have k0 : Blk ((w.alloc (.cells #[.int .u64 (f.num : Int), .int .i64 f.level, .slice A f.first.length a, .slice B f.last.length b, .int .i64 f.count, .int .i64 f.size] 71)).alloc (.cells #[.int .u64 (f.num : Int), .int .i64 f.level, .slice C f.first.length c, .slice D f.last.length d, .int .i64 f.count, .int .i64 f.size] 71)) w.heap.size 71 #[.int .u64 (f.num : Int), .int .i64 f.level, .slice A f.first.length a, .slice B f.last.length b, .int .i64 f.count, .int .i64 f.size] := (Blk.new w _ _).alloc _
  have k1 : Blk ((w.alloc (.cells #[.int .u64 (f.num : Int), .int .i64 f.level, .slice A f.first.length a, .slice B f.last.length b, .int .i64 f.count, .int .i64 f.size] 71)).alloc (.cells #[.int .u64 (f.num : Int), .int .i64 f.level, .slice C f.first.length c, .slice D f.last.length d, .int .i64 f.count, .int .i64 f.size] 71)) (w.heap.size + 1) 71 #[.int .u64 (f.num : Int), .int .i64 f.level, .slice C f.first.length c, .slice D f.last.length d, .int .i64 f.count, .int .i64 f.size] := heap_alloc2_new w _ _
  go_enter Try.func64, Try.ntmps64
  go_upto_region 1 with fail
  have hA0 := hA.below b0
  have hB0 := hB.below b0
  have hC0 := hC.below b0
  have hD0 := hD.below b0
  clear hA hB hC hD
  generalize ((w.alloc (.cells #[.int .u64 (f.num : Int), .int .i64 f.level, .slice A f.first.length a, .slice B f.last.length b, .int .i64 f.count, .int .i64 f.size] 71)).alloc (.cells #[.int .u64 (f.num : Int), .int .i64 f.level, .slice C f.first.length c, .slice D f.last.length d, .int .i64 f.count, .int .i64 f.size] 71)) = W at *
  have p0 : W.cell? ⟨w.heap.size, 0, none⟩ = some (.int .u64 (f.num : Int)) := k0.cell 0
  have p1 : W.cell? ⟨w.heap.size, 1, none⟩ = some (.int .i64 f.level) := k0.cell 1
  have p2 : W.cell? ⟨w.heap.size, 2, none⟩ = some (.slice A f.first.length a) := k0.cell 2
  have p3 : W.cell? ⟨w.heap.size, 3, none⟩ = some (.slice B f.last.length b) := k0.cell 3
  have p4 : W.cell? ⟨w.heap.size, 4, none⟩ = some (.int .i64 f.count) := k0.cell 4
  have p5 : W.cell? ⟨w.heap.size, 5, none⟩ = some (.int .i64 f.size) := k0.cell 5
  have q0 : W.cell? ⟨w.heap.size + 1, 0, none⟩ = some (.int .u64 (f.num : Int)) := k1.cell 0
  have q1 : W.cell? ⟨w.heap.size + 1, 1, none⟩ = some (.int .i64 f.level) := k1.cell 1
  have q2 : W.cell? ⟨w.heap.size + 1, 2, none⟩ = some (.slice C f.first.length c) := k1.cell 2
  have q3 : W.cell? ⟨w.heap.size + 1, 3, none⟩ = some (.slice D f.last.length d) := k1.cell 3
  have q4 : W.cell? ⟨w.heap.size + 1, 4, none⟩ = some (.int .i64 f.count) := k1.cell 4
  have q5 : W.cell? ⟨w.heap.size + 1, 5, none⟩ = some (.int .i64 f.size) := k1.cell 5
  have T := equal_any A C f.first f.first a c W hA0 hC0
  rw [beq_self_eq_true] at T
  clear hA0 hC0
  go_wp2_with fail
  refine T.mono ?_
  clear T
  rintro en w1 ⟨rfl, n, rfl⟩
  have b1 := below_drewN b0 n
  have p3 := (k0.drewN n).cell 3
  have q3 := (k1.drewN n).cell 3
  replace p3 : (W.drewN n).cell? ⟨w.heap.size, 3, none⟩ = some (.slice B f.last.length b) := p3
  replace q3 : (W.drewN n).cell? ⟨w.heap.size + 1, 3, none⟩ = some (.slice D f.last.length d) := q3
  have hB1 := hB0.below (below_drewN (Below.refl _ _) n)
  have hD1 := hD0.below (below_drewN (Below.refl _ _) n)
  clear k0 k1 b0 hB0 hD0
  generalize W.drewN n = V at *
  have T := equal_any B D f.last f.last b d V hB1 hD1
  rw [beq_self_eq_true] at T
  go_wp2_with fail
  refine T.mono ?_
  rintro en w1 ⟨rfl, m, rfl⟩
  go_wp2_with fail
  go_ret
  exact ⟨rfl, below_drewN b1 m⟩

set_option maxRecDepth 100000 in
set_option maxHeartbeats 4000000 in
theorem samefiles_any (fs : List LFile) (A B : Option Addr) (a b : Nat) (w : World) (hA : Sl RFE w A fs) (hB : Sl RFE w B fs) (hl : fs.length ≤ 1048576) :
    Calls Try.prog 42 #[.slice A fs.length a, .slice B fs.length b] w (RetTrue w) := by
  have e0 : ((fs.length : Int) != (fs.length : Int)) = false := by rw [bne_self_eq_false]
  go_enter Try.func42, Try.ntmps42
  go_wp2_with fail
  clear e0
  go_loopw [5] (fun i wr => ∃ k : Nat, k ≤ fs.length ∧ i = .int .i64 (k : Int) ∧ Below w.heap.size w wr) (fun i _ => fs.length - (intOf i).toNat)
  case atStart => exact ⟨0, Nat.zero_le _, rfl, Below.refl _ _⟩
  case round =>
    obtain ⟨k, hk, rfl, br⟩ := hrel
    by_cases hlt : k < fs.length
    · have hlt' : (k : Int) < (fs.length : Int) := by omega
      obtain ⟨ad, P, p, Q, q, rfl, h1, x0, x1, x2, x3, x4, x5, hP, hQ, _⟩ := RFE.at_ (hA.below br) hlt
      obtain ⟨ad', P', p', Q', q', rfl, h1', y0, y1, y2, y3, y4, y5, hP', hQ', _⟩ := RFE.at_ (hB.below br) hlt
      generalize fs[k] = f at *
      go_upto_region 6 with fail
      go_still_tail 8, (by kernel_rfl)
      have bd := br.drew
      have hP := hP.1.drewN 1
      have hQ := hQ.1.drewN 1
      have hP' := hP'.1.drewN 1
      have hQ' := hQ'.1.drewN 1
      have T := samefile_any f P Q P' Q' p q p' q' wr.drew hP hQ hP' hQ'
      clear x0 x1 x2 x3 x4 x5 y0 y1 y2 y3 y4 y5 br hP hQ hP' hQ'
      change wpList _ _ _ _ _ wr.drew
      generalize wr.drew = W at *
      go_wp2_with fail
      refine T.mono ?_
      rintro en w2 ⟨rfl, b2⟩
      go_wp2_with fail
      go_roundw
      case rel => exact ⟨k + 1, by omega, by simp, bd.trans (b2.mono bd.size)⟩
      case measure => simp [intOf]; omega
    · have hlt' : ¬ (k : Int) < (fs.length : Int) := by omega
      go_wp2_with fail
      go_ret
      exact ⟨rfl, br⟩
set_option maxRecDepth 100000 in
set_option maxHeartbeats 4000000 in
theorem sameedit_any (e : LEdit) (A D A' D' : Option Addr) (a d a' d' : Nat) (w : World) (hA : Sl RFE w A e.add) (hD : Sl NE w D e.drop) (hA' : Sl RFE w A' e.add) (hD' : Sl NE w D' e.drop) (hl : e.add.length ≤ 1048576) (hl2 : e.drop.length ≤ 1048576) :
    Calls Try.prog 20 #[.agg #[.bool e.reset, .slice A e.add.length a, .slice D e.drop.length d, .int .u64 (e.seq : Int)], .agg #[.bool e.reset, .slice A' e.add.length a', .slice D' e.drop.length d', .int .u64 (e.seq : Int)]] w (RetTrue w) := by
  have b0 : Below w.heap.size w ((w.alloc (.cells #[.bool e.reset, .slice A e.add.length a, .slice D e.drop.length d, .int .u64 (e.seq : Int)] 35)).alloc (.cells #[.bool e.reset, .slice A' e.add.length a', .slice D' e.drop.length d', .int .u64 (e.seq : Int)] 35)) := ((Below.refl _ _).alloc (Nat.le_refl _) _).alloc (by simp) _
  have k0 : Blk ((w.alloc (.cells #[.bool e.reset, .slice A e.add.length a, .slice D e.drop.length d, .int .u64 (e.seq : Int)] 35)).alloc (.cells #[.bool e.reset, .slice A' e.add.length a', .slice D' e.drop.length d', .int .u64 (e.seq : Int)] 35)) w.heap.size 35 #[.bool e.reset, .slice A e.add.length a, .slice D e.drop.length d, .int .u64 (e.seq : Int)] := (Blk.new w _ _).alloc _
  have k1 : Blk ((w.alloc (.cells #[.bool e.reset, .slice A e.add.length a, .slice D e.drop.length d, .int .u64 (e.seq : Int)] 35)).alloc (.cells #[.bool e.reset, .slice A' e.add.length a', .slice D' e.drop.length d', .int .u64 (e.seq : Int)] 35)) (w.heap.size + 1) 35 #[.bool e.reset, .slice A' e.add.length a', .slice D' e.drop.length d', .int .u64 (e.seq : Int)] := heap_alloc2_new w _ _
  have e1 : (e.reset != e.reset) = false := by rw [bne_self_eq_false]
  have e2 : ((e.seq : Int) != (e.seq : Int)) = false := by rw [bne_self_eq_false]
  have e3 : ((e.drop.length : Int) != (e.drop.length : Int)) = false := by rw [bne_self_eq_false]
  go_enter Try.func20, Try.ntmps20
  go_upto_region 1 with fail
  generalize ((w.alloc (.cells #[.bool e.reset, .slice A e.add.length a, .slice D e.drop.length d, .int .u64 (e.seq : Int)] 35)).alloc (.cells #[.bool e.reset, .slice A' e.add.length a', .slice D' e.drop.length d', .int .u64 (e.seq : Int)] 35)) = W at *
  have p0 : W.cell? ⟨w.heap.size, 0, none⟩ = some (.bool e.reset) := k0.cell 0
  have p1 : W.cell? ⟨w.heap.size, 1, none⟩ = some (.slice A e.add.length a) := k0.cell 1
  have p2 : W.cell? ⟨w.heap.size, 2, none⟩ = some (.slice D e.drop.length d) := k0.cell 2
  have p3 : W.cell? ⟨w.heap.size, 3, none⟩ = some (.int .u64 (e.seq : Int)) := k0.cell 3
  have q0 : W.cell? ⟨w.heap.size + 1, 0, none⟩ = some (.bool e.reset) := k1.cell 0
  have q1 : W.cell? ⟨w.heap.size + 1, 1, none⟩ = some (.slice A' e.add.length a') := k1.cell 1
  have q2 : W.cell? ⟨w.heap.size + 1, 2, none⟩ = some (.slice D' e.drop.length d') := k1.cell 2
  have q3 : W.cell? ⟨w.heap.size + 1, 3, none⟩ = some (.int .u64 (e.seq : Int)) := k1.cell 3
  have hD0 := hD.below b0
  have hD1 := hD'.below b0
  go_wp2_with fail
  clear p0 p3 q0 q3
  go_loopw [5] (fun i wr => ∃ (k n : Nat), k ≤ e.drop.length ∧ i = .int .i64 (k : Int) ∧ wr = W.drewN n) (fun i _ => e.drop.length - (intOf i).toNat)
  case atStart => exact ⟨0, 0, Nat.zero_le _, rfl, rfl⟩
  case round =>
    obtain ⟨k, n, hk, rfl, rfl⟩ := hrel
    by_cases hlt : k < e.drop.length
    · have hlt' : (k : Int) < (e.drop.length : Int) := by omega
      obtain ⟨ad, rfl, _, h1, _⟩ := NE.at_ hD0 hlt
      obtain ⟨ad', rfl, _, h1', _⟩ := NE.at_ hD1 hlt
      generalize e.drop[k] = m at *
      have e4 : ((m : Int) != (m : Int)) = false := by rw [bne_self_eq_false]
      go_upto_region 6 with fail
      go_quiet (fail)
      go_wp2_with fail
      go_roundw
      case rel => exact ⟨k + 1, n + nq, by omega, by go_num, rfl⟩
      case measure => simp [intOf]; omega
    · have hlt' : ¬ (k : Int) < (e.drop.length : Int) := by omega
      have bn := below_drewN b0 n
      have T := samefiles_any e.add A A' a a' (W.drewN n) (hA.below bn) (hA'.below bn) hl
      go_wp2_with fail
      refine T.mono ?_
      rintro en w2 ⟨rfl, b2⟩
      go_wp2_with fail
      go_ret
      exact ⟨rfl, bn.trans (b2.mono bn.size)⟩
end Go.Proofs.Ytmgibpedclngpaa
