/- Two entries that read the same are told to be the same: the reference's Same. -/
import Derived.Test.YtemidaamnldjmaaSameT
import Derived.Test.YtemidaamnldjmaaCopy
namespace Go.Proofs.Ytemidaamnldjmaa
open Go.RowKit

theorem equal_self (C C' : Option Addr) (l : List UInt8) (c c' : Nat) (w : World) (h : Bs w C l) (h' : Bs w C' l) : Calls Try.prog 16 #[.slice C l.length c, .slice C' l.length c'] w fun e w' => e = .returned (.bool true) ∧ ∃ m, w' = w.drewN m := by
  have t := equal_any C C' l l c c' w h h'
  rwa [show (l == l) = true by simp] at t

set_option maxRecDepth 100000 in
set_option maxHeartbeats 4000000 in
theorem same_any (id keys : Int) (tn : ByteArray) (A B S A' B' S' : Option Addr) (ca cb cs ca' cb' cs' : Nat) (cols : List LCol) (ixs : List LIx) (sts : List LSt) (w : World) (hA : Sl ColE w A cols) (hB : Sl IxE w B ixs) (hS : Sl StE w S sts) (hA' : Sl ColE w A' cols) (hB' : Sl IxE w B' ixs) (hS' : Sl StE w S' sts) :
    Calls Try.prog 13 #[.agg #[.int .i64 id, .string tn, .slice A cols.length ca, .int .i64 keys, .slice B ixs.length cb, .slice S sts.length cs], .agg #[.int .i64 id, .string tn, .slice A' cols.length ca', .int .i64 keys, .slice B' ixs.length cb', .slice S' sts.length cs']] w
      fun e w' => e = .returned (.bool true) ∧ Below w.heap.size w w' := by
  have b0 : Below w.heap.size w ((w.alloc (.cells #[.int .i64 id, .string tn, .slice A cols.length ca, .int .i64 keys, .slice B ixs.length cb, .slice S sts.length cs] 28)).alloc (.cells #[.int .i64 id, .string tn, .slice A' cols.length ca', .int .i64 keys, .slice B' ixs.length cb', .slice S' sts.length cs'] 28)) :=
    ((Below.refl _ _).alloc (Nat.le_refl _) _).alloc (by simp) _
  have k0 := (Blk.new w 28 #[.int .i64 id, .string tn, .slice A cols.length ca, .int .i64 keys, .slice B ixs.length cb, .slice S sts.length cs]).alloc (.cells #[.int .i64 id, .string tn, .slice A' cols.length ca', .int .i64 keys, .slice B' ixs.length cb', .slice S' sts.length cs'] 28)
  have k1 := Blk.new (w.alloc (.cells #[.int .i64 id, .string tn, .slice A cols.length ca, .int .i64 keys, .slice B ixs.length cb, .slice S sts.length cs] 28)) 28 #[.int .i64 id, .string tn, .slice A' cols.length ca', .int .i64 keys, .slice B' ixs.length cb', .slice S' sts.length cs']
  rw [show (w.alloc (.cells #[.int .i64 id, .string tn, .slice A cols.length ca, .int .i64 keys, .slice B ixs.length cb, .slice S sts.length cs] 28)).heap.size = w.heap.size + 1 by simp] at k1
  go_enter Try.func13, Try.ntmps13
  go_wp2_with fail
  have hA0 := hA.below b0
  have hB0 := hB.below b0
  have hS0 := hS.below b0
  have hA1 := hA'.below b0
  have hB1 := hB'.below b0
  have hS1 := hS'.below b0
  have lb := hS.le
  clear hA hB hA' hB' hS hS'
  generalize ((w.alloc (.cells #[.int .i64 id, .string tn, .slice A cols.length ca, .int .i64 keys, .slice B ixs.length cb, .slice S sts.length cs] 28)).alloc (.cells #[.int .i64 id, .string tn, .slice A' cols.length ca', .int .i64 keys, .slice B' ixs.length cb', .slice S' sts.length cs'] 28)) = W0 at *
  refine (sametable_any id keys tn A B A' B' ca cb ca' cb' cols ixs W0 hA0 hB0 hA1 hB1).mono ?_
  rintro en w1 ⟨rfl, b1⟩
  have b01 := b0.trans (b1.mono b0.size)
  have hS2 := hS0.below b1
  have hS3 := hS1.below b1
  have p5 : w1.cell? ⟨w.heap.size, 5, none⟩ = some (.slice S sts.length cs) := (k0.below b1 k0.lt).cell 5
  have q5 : w1.cell? ⟨w.heap.size + 1, 5, none⟩ = some (.slice S' sts.length cs') := (k1.below b1 k1.lt).cell 5
  clear k0 k1 hA0 hB0 hA1 hB1 hS0 hS1
  go_wp2_with fail
  go_loopw [5] (fun i wr => ∃ (k n : Nat), k ≤ sts.length ∧ i = .int .i64 k ∧ wr = w1.drewN n) (fun i _ => sts.length - (intOf i).toNat)
  case atStart => exact ⟨0, 0, Nat.zero_le _, rfl, rfl⟩
  case round =>
    obtain ⟨k, n, hk, rfl, rfl⟩ := hrel
    by_cases hlt : k < sts.length
    · obtain ⟨ad, C, c, rfl, h1, h2, h3, hC, _⟩ := StE.at_ hS2 hlt
      obtain ⟨ad', C', c', rfl, h1', h2', h3', hC', _⟩ := StE.at_ hS3 hlt
      have hq : ∀ m, Calls Try.prog 16 #[.slice C sts[k].cur.length c, .slice C' sts[k].cur.length c'] (w1.drewN (n + m)) fun e w' => e = .returned (.bool true) ∧ ∃ q, w' = w1.drewN (n + q) := fun m =>
        (equal_self C C' sts[k].cur c c' (w1.drewN (n + m)) (hC.drewN _) (hC'.drewN _)).mono fun _ _ ⟨he, q, hm⟩ => ⟨he, m + q, by rw [hm, World.drewN_drewN, Nat.add_assoc]⟩
      have HQ := Lib.hid hq
      clear hq
      go_upto_region 6 with fail
      go_quiet ((go_at_call 16; exact HQ.out _))
      go_wp2_with fail
      go_roundw
      case rel => exact ⟨k + 1, n + nq, by omega, by go_num, rfl⟩
      case measure => simp [intOf]; omega
    · obtain rfl : k = sts.length := by omega
      go_wp2_with fail
      go_ret
      exact ⟨rfl, below_drewN b01 _⟩

end Go.Proofs.Ytemidaamnldjmaa
