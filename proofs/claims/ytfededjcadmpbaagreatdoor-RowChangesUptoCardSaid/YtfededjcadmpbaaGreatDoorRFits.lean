/- The error of a row of cells: the reference's Fits. -/
import Derived.Test.YtfededjcadmpbaaGreatDoorRVals
namespace Go.Proofs.YtfededjcadmpbaaGreatDoor
open Go.RowKit

def rfitsE (id keys : Int) (tn : ByteArray) (cols : List LCol) (ixs : List LIx) (xs : List LVal) : Int :=
  if checkI id keys tn cols ixs ≠ 0 then checkI id keys tn cols ixs else if xs.length ≠ cols.length then 1 else rvaluesE cols xs 0
theorem rfitsE_eq {id keys : Int} {tn : ByteArray} {cols : List LCol} {ixs : List LIx} {xs : List LVal} (h : ∀ x ∈ xs, x.err = 0) : rfitsE id keys tn cols ixs xs = fitsE id keys tn cols ixs xs := by
  unfold rfitsE fitsE; rw [rvaluesE_eq h]

set_option maxRecDepth 100000 in
set_option maxHeartbeats 1000000 in
theorem rfits_any (id keys : Int) (tn : ByteArray) (cols : List LCol) (ixs : List LIx) (xs : List LVal) (A B C : Option Addr) (ca cb cc : Nat) (w : World) (hA : Sl ColE w A cols) (hB : Sl IxE w B ixs) (hC : Sl CelE w C xs) (hn : tn.size ≤ 140737488351232) :
    Calls Tryz.prog 42 #[.agg #[.int .i64 id, .string tn, .slice A cols.length ca, .int .i64 keys, .slice B ixs.length cb], .slice C xs.length cc] w fun en w' => en = .returned (.int .i64 (rfitsE id keys tn cols ixs xs)) ∧ Below w.heap.size w w' := by
  have b0 : Below w.heap.size w (w.alloc (.cells #[.int .i64 id, .string tn, .slice A cols.length ca, .int .i64 keys, .slice B ixs.length cb] 25)) := (Below.refl _ _).alloc (Nat.le_refl _) _
  have k0 := Blk.new w 25 #[.int .i64 id, .string tn, .slice A cols.length ca, .int .i64 keys, .slice B ixs.length cb]
  have hA0 := hA.below b0
  have hB0 := hB.below b0
  go_enter Tryz.func42, Tryz.ntmps42
  go_wp2_with fail
  generalize (w.alloc (.cells #[.int .i64 id, .string tn, .slice A cols.length ca, .int .i64 keys, .slice B ixs.length cb] 25)) = W0 at *
  refine (rcheck_any id keys tn A B ca cb cols ixs W0 hA0.cols hB0.ixs hn hA0.cnames hB0.xnames).mono ?_
  rintro en w1 ⟨rfl, b1⟩
  have b01 := b0.trans (b1.mono b0.size)
  have k1 := k0.below b1 k0.lt
  by_cases h0 : checkI id keys tn cols ixs = 0
  · have d0 : (checkI id keys tn cols ixs != 0) = false := by rw [h0]; rfl
    have HE : Hid (rfitsE id keys tn cols ixs xs = if xs.length ≠ cols.length then 1 else rvaluesE cols xs 0) := by show _ = _; unfold rfitsE; rw [if_neg (by rw [h0]; exact fun h => h rfl)]
    have q2 : w1.cell? ⟨w.heap.size, 2, none⟩ = some (.slice A cols.length ca) := k1.cell 2
    clear h0
    by_cases hl : xs.length = cols.length
    · have d1 : ((xs.length : Int) != (cols.length : Int)) = false := by rw [hl]; simp
      have HE2 : Hid (rfitsE id keys tn cols ixs xs = rvaluesE cols xs 0) := by show _ = _; rw [HE.out, if_neg (fun h => h hl)]
      have T := rvalues_any id keys tn cols xs A B C ca cb cc ixs.length w1 (hA.below b01) (hC.below b01) (Nat.le_of_eq hl)
      clear hl HE
      go_wp2_with ((with_reducible refine wpList_load_blk rfl 25 (.tmp 2) rfl w.heap.size ?_ 25 _ _ k1 Tryz.underlying25 ?_ Tryz.size_TableV ?_ ?_); rfl; rfl; rfl)
      refine T.mono ?_
      rintro en w2 ⟨rfl, b2⟩
      go_wp2_with fail
      go_ret
      exact ⟨by rw [HE2.out]; rfl, b01.trans (b2.mono b01.size)⟩
    · have d1 : ((xs.length : Int) != (cols.length : Int)) = true := by rw [bne_iff_ne]; omega
      have HE2 : Hid (rfitsE id keys tn cols ixs xs = 1) := by show _ = _; rw [HE.out, if_pos hl]
      clear hl HE
      go_wp2_with fail
      go_ret
      exact ⟨by rw [HE2.out]; rfl, b01⟩
  · have d0 : (checkI id keys tn cols ixs != 0) = true := by rw [bne_iff_ne]; exact h0
    have HE : Hid (rfitsE id keys tn cols ixs xs = checkI id keys tn cols ixs) := by show _ = _; unfold rfitsE; rw [if_pos h0]
    clear h0
    go_wp2_with fail
    go_ret
    exact ⟨by rw [HE.out]; rfl, b01⟩
end Go.Proofs.YtfededjcadmpbaaGreatDoor
