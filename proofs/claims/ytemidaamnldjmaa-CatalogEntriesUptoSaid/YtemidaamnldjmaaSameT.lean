/- Two tables that read the same are told to be the same: the reference's SameTable. -/
import Derived.Test.YtemidaamnldjmaaCatE
import Derived.Test.YtemidaamnldjmaaBlk
namespace Go.Proofs.Ytemidaamnldjmaa
open Go.RowKit

theorem Blk.two (w : World) (A : Obj) (t : TypeId) (cs : Array Value) : Blk ((w.alloc A).alloc (.cells cs t)) (w.heap.size + 1) t cs := heap_alloc2_new w A _

set_option maxRecDepth 100000 in
set_option maxHeartbeats 4000000 in
theorem sametable_any (id keys : Int) (tn : ByteArray) (A B A' B' : Option Addr) (ca cb ca' cb' : Nat) (cols : List LCol) (ixs : List LIx) (w : World) (hA : Sl ColE w A cols) (hB : Sl IxE w B ixs) (hA' : Sl ColE w A' cols) (hB' : Sl IxE w B' ixs) :
    Calls Try.prog 10 #[.agg #[.int .i64 id, .string tn, .slice A cols.length ca, .int .i64 keys, .slice B ixs.length cb], .agg #[.int .i64 id, .string tn, .slice A' cols.length ca', .int .i64 keys, .slice B' ixs.length cb']] w
      fun e w' => e = .returned (.bool true) ∧ Below w.heap.size w w' := by
  have b0 : Below w.heap.size w ((w.alloc (.cells #[.int .i64 id, .string tn, .slice A cols.length ca, .int .i64 keys, .slice B ixs.length cb] 25)).alloc (.cells #[.int .i64 id, .string tn, .slice A' cols.length ca', .int .i64 keys, .slice B' ixs.length cb'] 25)) :=
    ((Below.refl _ _).alloc (Nat.le_refl _) _).alloc (by simp) _
  have k0 := (Blk.new w 25 #[.int .i64 id, .string tn, .slice A cols.length ca, .int .i64 keys, .slice B ixs.length cb]).alloc (.cells #[.int .i64 id, .string tn, .slice A' cols.length ca', .int .i64 keys, .slice B' ixs.length cb'] 25)
  have k1 := Blk.new (w.alloc (.cells #[.int .i64 id, .string tn, .slice A cols.length ca, .int .i64 keys, .slice B ixs.length cb] 25)) 25 #[.int .i64 id, .string tn, .slice A' cols.length ca', .int .i64 keys, .slice B' ixs.length cb']
  rw [show (w.alloc (.cells #[.int .i64 id, .string tn, .slice A cols.length ca, .int .i64 keys, .slice B ixs.length cb] 25)).heap.size = w.heap.size + 1 by simp] at k1
  go_enter Try.func10, Try.ntmps10
  go_upto_region 1 with fail
  have hA0 := hA.below b0
  have hB0 := hB.below b0
  have hA1 := hA'.below b0
  have hB1 := hB'.below b0
  have la := hA.le
  have lb := hB.le
  have zW : w.heap.size + 2 ≤ ((w.alloc (.cells #[.int .i64 id, .string tn, .slice A cols.length ca, .int .i64 keys, .slice B ixs.length cb] 25)).alloc (.cells #[.int .i64 id, .string tn, .slice A' cols.length ca', .int .i64 keys, .slice B' ixs.length cb'] 25)).heap.size := by simp
  clear hA hB hA' hB'
  generalize ((w.alloc (.cells #[.int .i64 id, .string tn, .slice A cols.length ca, .int .i64 keys, .slice B ixs.length cb] 25)).alloc (.cells #[.int .i64 id, .string tn, .slice A' cols.length ca', .int .i64 keys, .slice B' ixs.length cb'] 25)) = W0 at *
  have p0 : W0.cell? ⟨w.heap.size, 0, none⟩ = some (.int .i64 id) := k0.cell 0
  have p1 : W0.cell? ⟨w.heap.size, 1, none⟩ = some (.string tn) := k0.cell 1
  have p2 : W0.cell? ⟨w.heap.size, 2, none⟩ = some (.slice A cols.length ca) := k0.cell 2
  have p3 : W0.cell? ⟨w.heap.size, 3, none⟩ = some (.int .i64 keys) := k0.cell 3
  have p4 : W0.cell? ⟨w.heap.size, 4, none⟩ = some (.slice B ixs.length cb) := k0.cell 4
  have q0 : W0.cell? ⟨w.heap.size + 1, 0, none⟩ = some (.int .i64 id) := k1.cell 0
  have q1 : W0.cell? ⟨w.heap.size + 1, 1, none⟩ = some (.string tn) := k1.cell 1
  have q2 : W0.cell? ⟨w.heap.size + 1, 2, none⟩ = some (.slice A' cols.length ca') := k1.cell 2
  have q3 : W0.cell? ⟨w.heap.size + 1, 3, none⟩ = some (.int .i64 keys) := k1.cell 3
  have q4 : W0.cell? ⟨w.heap.size + 1, 4, none⟩ = some (.slice B' ixs.length cb') := k1.cell 4
  go_wp2_with fail
  go_loopw [5] (fun i wr => ∃ (k n : Nat), k ≤ cols.length ∧ i = .int .i64 k ∧ wr = W0.drewN n) (fun i _ => cols.length - (intOf i).toNat)
  case atStart => exact ⟨0, 0, Nat.zero_le _, rfl, rfl⟩
  case round =>
    obtain ⟨k, n, hk, rfl, rfl⟩ := hrel
    by_cases hlt : k < cols.length
    · obtain ⟨ad, rfl, h1, h2, h3, h4⟩ := ColE.at_ hA0 hlt
      obtain ⟨ad', rfl, h1', h2', h3', h4'⟩ := ColE.at_ hA1 hlt
      go_upto_region 6 with fail
      go_quiet (fail)
      go_wp2_with fail
      go_roundw
      case rel => exact ⟨k + 1, n + nq, by omega, by go_num, rfl⟩
      case measure => simp [intOf]; omega
    · obtain rfl : k = cols.length := by omega
      clear hA0 hA1
      go_wp2_with fail
      go_loopw [6] (fun i wr => ∃ (k : Nat), k ≤ ixs.length ∧ i = .int .i64 k ∧ Below W0.heap.size W0 wr) (fun i _ => ixs.length - (intOf i).toNat)
      case atStart => exact ⟨0, Nat.zero_le _, rfl, below_drewN (Below.refl _ _) _⟩
      case round =>
        obtain ⟨k, hk, rfl, bl⟩ := hrel
        have l0 := k0.lt
        have l1 := k1.lt
        have lr0 := Nat.lt_of_lt_of_le l0 bl.size
        have lr1 := Nat.lt_of_lt_of_le l1 bl.size
        have p4r := (bl.cell (p := ⟨w.heap.size, 4, none⟩) l0).trans p4
        have q4r := (bl.cell (p := ⟨w.heap.size + 1, 4, none⟩) l1).trans q4
        by_cases hlt : k < ixs.length
        · obtain ⟨ad, C, c, rfl, h1, h2, h3, h4, hI, hI8, hI9⟩ := IxE.at_ (hB0.below bl) hlt
          obtain ⟨ad', C', c', rfl, h1', h2', h3', h4', hI', _, _⟩ := IxE.at_ (hB1.below bl) hlt
          have hb1 : (ad.add (k * 3)).block < wr.heap.size := by rw [block_of_add]; exact h1
          have hb2 : (ad'.add (k * 3)).block < wr.heap.size := by rw [block_of_add]; exact h1'
          go_upto_region 11 with fail
          go_cut [7, 8] (fun s7 s8 wx => ∃ g7 g8, s7 = .pointer (some ⟨g7, 0, none⟩) ∧ s8 = .pointer (some ⟨g8, 0, none⟩) ∧ Blk wx g7 55 #[.string ixs[k].name, .slice C ixs[k].cols.length c, .bool ixs[k].uniq] ∧ Blk wx g8 55 #[.string ixs[k].name, .slice C' ixs[k].cols.length c', .bool ixs[k].uniq] ∧ Below wr.heap.size wr wx)
          case first =>
            go_region
            all_goals
              go_wp2_with fail
              go_meet
              case rel =>
                refine ⟨_, _, rfl, rfl, ?_, ?_, (((Below.refl _ _).alloc (Nat.le_refl _) _).alloc (by simp) _).drew⟩
                · first | with_reducible exact ((Blk.new wr _ _).alloc _).drew | exact (Blk.two wr _ _ _).drew
                · first | with_reducible exact ((Blk.new wr _ _).alloc _).drew | exact (Blk.two wr _ _ _).drew
          case rest =>
            obtain ⟨g7, g8, rfl, rfl, k7, k8, b7⟩ := hcut
            have x0 : wc.cell? ⟨g7, 0, none⟩ = some (.string ixs[k].name) := k7.cell 0
            have x1 : wc.cell? ⟨g7, 1, none⟩ = some (.slice C ixs[k].cols.length c) := k7.cell 1
            have x2 : wc.cell? ⟨g7, 2, none⟩ = some (.bool ixs[k].uniq) := k7.cell 2
            have y0 : wc.cell? ⟨g8, 0, none⟩ = some (.string ixs[k].name) := k8.cell 0
            have y1 : wc.cell? ⟨g8, 1, none⟩ = some (.slice C' ixs[k].cols.length c') := k8.cell 1
            have y2 : wc.cell? ⟨g8, 2, none⟩ = some (.bool ixs[k].uniq) := k8.cell 2
            have hI2 := hI.below b7
            have hI2' := hI'.below b7
            have bl2 := bl.trans (b7.mono bl.size)
            clear h2 h3 h4 h2' h3' h4' hI hI' p4r q4r k7 k8
            generalize ixs[k] = x at *
            go_wp2_with fail
            go_loopw [9] (fun i wq => ∃ (j n : Nat), j ≤ x.cols.length ∧ i = .int .i64 j ∧ wq = wc.drewN n) (fun i _ => x.cols.length - (intOf i).toNat)
            case atStart => exact ⟨0, 0, Nat.zero_le _, rfl, rfl⟩
            case round =>
              obtain ⟨j, n, hj, rfl, rfl⟩ := hrel
              by_cases hjt : j < x.cols.length
              · obtain ⟨ac, rfl, _, hc1⟩ := hI2.at_ hjt
                obtain ⟨ac', rfl, _, hc2⟩ := hI2'.at_ hjt
                go_upto_region 17 with fail
                go_quiet (fail)
                go_wp2_with fail
                go_roundw
                case rel => exact ⟨j + 1, n + nq, by omega, by go_num, rfl⟩
                case measure => simp [intOf]; omega
              · obtain rfl : j = x.cols.length := by omega
                go_wp2_with fail
                go_roundw
                case rel => exact ⟨k + 1, by omega, by go_num, below_drewN bl2 _⟩
                case measure => simp [intOf]; omega
        · obtain rfl : k = ixs.length := by omega
          go_wp2_with fail
          go_ret
          exact ⟨rfl, b0.trans (bl.mono b0.size)⟩

end Go.Proofs.Ytemidaamnldjmaa
