/- The disk's names, rising: names. -/
import Derived.Test.YtbldfgpnghoigaaDskW
import Derived.Test.YtbldfgpnghoigaaIter
namespace Go.Proofs.Ytbldfgpnghoigaa
open Go.RowKit
open Go.Maps

/-- bytes, rising -/
def sortN (l : List (List UInt8)) : List (List UInt8) := l.mergeSort (fun x y => decide (x ≤ y))
theorem leB_total (a b : List UInt8) : (decide (a ≤ b) || decide (b ≤ a)) = true := by
  rw [Bool.or_eq_true, decide_eq_true_iff, decide_eq_true_iff]
  exact List.le_total a b
theorem leB_trans (a b c : List UInt8) (h1 : decide (a ≤ b) = true) (h2 : decide (b ≤ c) = true) : decide (a ≤ c) = true := by
  rw [decide_eq_true_iff] at *
  exact List.le_trans h1 h2
theorem sortN_perm (l : List (List UInt8)) : (sortN l).Perm l := List.mergeSort_perm _ _
theorem sortN_sorted (l : List (List UInt8)) : (sortN l).Pairwise (fun x y => x ≤ y) := by
  have h := List.pairwise_mergeSort (le := fun x y : List UInt8 => decide (x ≤ y)) leB_trans leB_total l
  exact h.imp (fun h => of_decide_eq_true h)
theorem sortN_eq {l l' : List (List UInt8)} (h : l.Perm l') : sortN l = sortN l' :=
  List.Perm.eq_of_pairwise (le := fun x y : List UInt8 => x ≤ y) (fun _ _ _ _ h1 h2 => List.le_antisymm h1 h2) (sortN_sorted l) (sortN_sorted l') ((sortN_perm l).trans (h.trans (sortN_perm l').symm))
theorem sortN_length (l : List (List UInt8)) : (sortN l).length = l.length := (sortN_perm l).length_eq
theorem sortN_of {l : List (List UInt8)} (h : l.Pairwise (fun x y => x ≤ y)) : sortN l = l :=
  List.Perm.eq_of_pairwise (le := fun x y : List UInt8 => x ≤ y) (fun _ _ _ _ h1 h2 => List.le_antisymm h1 h2) (sortN_sorted l) h (sortN_perm l)
/-- the map's keys are the files' names -/
theorem DMap.keys {w : World} {D : DataW Value} {fs : List DF} {mb n : Nat} (h : DMap D fs) (hown : w.ownsMap Try.prog 9 rawR mb n D) : (fs.map DF.name).Perm (Go.strKeys D) := by
  have law : Keyed Try.prog 9 := string_keyed Try.underlying9
  exact Go.Collected.perm (left := fun _ => false) ⟨h.2.1, fun x => by rw [h.2.2.1 x]; simp⟩ hown law Try.underlying9 (fun _ => rfl)
/-- names of a disk, in a row of the call's own -/
def RetN (l : List (List UInt8)) (w : World) (en : Ending) (w' : World) : Prop :=
  ∃ A c, en = .returned (.slice A l.length c) ∧ w'.ownsRow w.heap.size 9 1 (.slice A l.length c) l.length (l.map encStr) ∧ Below w.heap.size w w'
set_option maxRecDepth 100000 in
set_option maxHeartbeats 2000000 in
theorem names_any (d : LDisk) (mv : Value) (b : Nat) (fs : List DF) (w : World) (hk : Blk w b 72 (diskC mv d)) (hf : FilesAt w mv fs) (hsz : fs.length ≤ 1048576) :
    Calls Try.prog 45 #[.pointer (some ⟨b, 0, none⟩)] w (RetN (sortN (fs.map DF.name)) w) := by
  have y0 : w.cell? ⟨b, 0, none⟩ = some mv := hk.cell 0
  rcases hf with ⟨rfl, rfl⟩ | ⟨mb, D, rfl, hown, hD⟩
  · have T1 := (callsIn_wide).1 (Try.maps_Keys_69 none w)
    have T2 := (callsIn_wide).1 (Try.slices_Sorted_keys_nil_68_69 w)
    have b1 : Below w.heap.size w (w.alloc (.cells #[.map none] 70)) := (Below.refl _ _).alloc (Nat.le_refl _) _
    go_enter Try.func45, Try.ntmps45
    go_wp2_with fail
    refine T1.mono ?_
    rintro en w1 ⟨rfl, rfl⟩
    go_wp2_with fail
    refine T2.mono ?_
    rintro en w2 ⟨v, ss, rfl, rfl, ho, hv, hb⟩
    obtain rfl := hv.2 rfl
    go_wp2_with fail
    go_ret
    show RetN (sortN []) w _ _
    rw [show sortN ([] : List (List UInt8)) = [] from sortN_of .nil]
    exact ⟨none, 0, rfl, World.ownsRow_nil _ _ _ _, b1.trans (hb.mono (by simp))⟩
  · have T1 := (callsIn_wide).1 (Try.maps_Keys_69 (some mb) w)
    have hsD := hD.2.2.2.2
    have T2 := (callsIn_wide).1 (Try.slices_Sorted_keys_68_69 mb fs.length D rawR w hown (by rw [hsD]; unfold maxLen; omega) (by rw [hsD]; omega))
    have b1 : Below w.heap.size w (w.alloc (.cells #[.map (some mb)] 70)) := (Below.refl _ _).alloc (Nat.le_refl _) _
    have hkeys := hD.keys hown
    go_enter Try.func45, Try.ntmps45
    go_wp2_with fail
    refine T1.mono ?_
    rintro en w1 ⟨rfl, rfl⟩
    go_wp2_with fail
    refine T2.mono ?_
    rintro en w2 ⟨v, ss, rfl, hS, ho, hv, hb⟩
    have e1 : sortN (fs.map DF.name) = sortN ss := sortN_eq (hkeys.trans hS.symm)
    have e2 : ss.length = (sortN ss).length := (sortN_length ss).symm
    have ho2 : w2.ownsRow w.heap.size 9 1 v (sortN ss).length ((sortN ss).map encStr) := by
      rw [← e2]
      exact own_mono ho (by simp)
    rw [← e1] at ho2
    obtain ⟨A, c, rfl⟩ := own_shape ho2
    clear hv ho e1 e2
    go_wp2_with fail
    go_ret
    exact ⟨A, c, rfl, ho2, b1.trans (hb.mono (by simp))⟩
end Go.Proofs.Ytbldfgpnghoigaa
