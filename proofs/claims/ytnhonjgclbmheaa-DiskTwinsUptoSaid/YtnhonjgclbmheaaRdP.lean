/- The reference's disk in plain words: a list of files by rising names. -/
import Derived.Test.YtnhonjgclbmheaaDskT
namespace Go.Proofs.Ytnhonjgclbmheaa
open Go.RowKit

/-- a file of the reference -/
structure LRF where
  name : List UInt8
  safe : List UInt8
  tail : List UInt8
def LRF.p (f : LRF) : PFile := (f.name, f.safe ++ f.tail, f.safe.length)
/-- the reference's disk -/
structure LRD where
  files : List LRF
  room : Int
  armed : Int
  dead : Bool
/-- the place of a name -/
def findR : List LRF → List UInt8 → Nat × Bool
  | [], _ => (0, false)
  | f :: r, nm => if f.name = nm then (0, true) else if nm < f.name then (0, false) else ((findR r nm).1 + 1, (findR r nm).2)
def withR (fs : List LRF) (f : LRF) : List LRF := fs.take (findR fs f.name).1 ++ [f] ++ fs.drop (if (findR fs f.name).2 then (findR fs f.name).1 + 1 else (findR fs f.name).1)
def outR (fs : List LRF) (nm : List UInt8) : List LRF := if (findR fs nm).2 then fs.take (findR fs nm).1 ++ fs.drop ((findR fs nm).1 + 1) else fs
def getR (fs : List LRF) (nm : List UInt8) : LRF × Bool := if (findR fs nm).2 then (fs.getD (findR fs nm).1 ⟨nm, [], []⟩, true) else (⟨nm, [], []⟩, false)
def usedR (fs : List LRF) : Nat := (fs.map (fun f => f.safe.length + f.tail.length)).sum
theorem findR_le : ∀ (fs : List LRF) (nm : List UInt8), (findR fs nm).1 ≤ fs.length
  | [], _ => Nat.le_refl _
  | f :: r, nm => by
    unfold findR
    have := findR_le r nm
    split
    · exact Nat.zero_le _
    · split
      · exact Nat.zero_le _
      · show (findR r nm).1 + 1 ≤ r.length + 1; omega
theorem findR_lt : ∀ (fs : List LRF) (nm : List UInt8), (findR fs nm).2 = true → (findR fs nm).1 < fs.length
  | [], _, h => by cases h
  | f :: r, nm, h => by
    unfold findR at h ⊢
    split
    · exact Nat.zero_lt_succ _
    · rename_i h1
      rw [if_neg h1] at h
      split
      · rename_i h2; rw [if_pos h2] at h; cases h
      · rename_i h2
        rw [if_neg h2] at h
        have := findR_lt r nm h
        show (findR r nm).1 + 1 < r.length + 1; omega
/-- what has been passed by: no place before k -/
theorem findR_at {fs : List LRF} {nm : List UInt8} {k : Nat} (hk : k < fs.length) (h : ∀ j (hj : j < fs.length), j < k → fs[j].name ≠ nm ∧ ¬ nm < fs[j].name) :
    (fs[k].name = nm → findR fs nm = (k, true)) ∧ (fs[k].name ≠ nm → nm < fs[k].name → findR fs nm = (k, false)) := by
  induction fs generalizing k with
  | nil => cases hk
  | cons f r ih =>
    cases k with
    | zero =>
      refine ⟨fun e => ?_, fun e1 e2 => ?_⟩
      · replace e : f.name = nm := e
        unfold findR; rw [if_pos e]
      · replace e1 : f.name ≠ nm := e1
        replace e2 : nm < f.name := e2
        unfold findR; rw [if_neg e1, if_pos e2]
    | succ k =>
      have h0 : f.name ≠ nm ∧ ¬ nm < f.name := h 0 (Nat.zero_lt_succ _) (Nat.zero_lt_succ _)
      have ih := ih (k := k) (by simpa using hk) (fun j hj hjk => h (j + 1) (by simpa using hj) (by omega))
      refine ⟨fun e => ?_, fun e1 e2 => ?_⟩
      · unfold findR; rw [if_neg h0.1, if_neg h0.2, ih.1 e]
      · unfold findR; rw [if_neg h0.1, if_neg h0.2, ih.2 e1 e2]
theorem findR_end {fs : List LRF} {nm : List UInt8} (h : ∀ j (hj : j < fs.length), fs[j].name ≠ nm ∧ ¬ nm < fs[j].name) : findR fs nm = (fs.length, false) := by
  induction fs with
  | nil => rfl
  | cons f r ih =>
    have h0 : f.name ≠ nm ∧ ¬ nm < f.name := h 0 (Nat.zero_lt_succ _)
    unfold findR
    rw [if_neg h0.1, if_neg h0.2, ih (fun j hj => h (j + 1) (by simpa using hj))]
    rfl
end Go.Proofs.Ytnhonjgclbmheaa
