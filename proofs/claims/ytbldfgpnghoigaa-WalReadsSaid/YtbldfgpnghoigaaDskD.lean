/- A disk with its files in memory, and what a call leaves: plain words for all calls. -/
import Derived.Test.YtbldfgpnghoigaaDskA
namespace Go.Proofs.Ytbldfgpnghoigaa
open Go.RowKit
open Go.Maps

/-- a file as it reads: its name, its bytes, how many are safe -/
abbrev PFile := List UInt8 × List UInt8 × Nat
def DF.p (q : DF) : PFile := (q.name, q.data, q.safe)
def delP (fs : List PFile) (k : List UInt8) : List PFile := fs.filter (fun q => q.1 != k)
def putP (fs : List PFile) (q : PFile) : List PFile := q :: delP fs q.1
def getP (fs : List PFile) (k : List UInt8) : List UInt8 × Nat := match fs.find? (fun q => q.1 == k) with | some q => q.2 | none => ([], 0)
def usedP (fs : List PFile) : Nat := (fs.map (fun q => q.2.1.length)).sum
def hasP (fs : List PFile) (k : List UInt8) : Bool := fs.any (fun q => q.1 == k)
theorem delP_map (fs : List DF) (k : List UInt8) : (delF fs k).map DF.p = delP (fs.map DF.p) k := by
  unfold delF delP
  rw [List.filter_map]
  rfl
theorem putP_map (fs : List DF) (q : DF) : (putF fs q).map DF.p = putP (fs.map DF.p) q.p := by
  show q.p :: (delF fs q.name).map DF.p = _
  rw [delP_map]
  rfl
theorem usedP_map (fs : List DF) : usedL fs = usedP (fs.map DF.p) := by
  unfold usedL usedP
  rw [List.map_map]
  rfl
theorem getP_some {fs : List DF} {q : DF} (h : (fs.map DF.name).Nodup) (hq : q ∈ fs) : getP (fs.map DF.p) q.name = (q.data, q.safe) := by
  have : (fs.map DF.p).find? (fun r => r.1 == q.name) = some q.p := by
    induction fs with
    | nil => cases hq
    | cons x r ih =>
      rw [List.map_cons, List.nodup_cons] at h
      rw [List.map_cons]
      rcases List.mem_cons.1 hq with rfl | hq
      · rw [List.find?_cons_of_pos (by simp [DF.p])]
      · have hne : x.name ≠ q.name := fun e => h.1 (by rw [e]; exact List.mem_map_of_mem hq)
        rw [List.find?_cons_of_neg (by simp [DF.p, hne])]
        exact ih h.2 hq
  unfold getP
  rw [this]
  rfl
theorem getP_none {fs : List DF} {k : List UInt8} (h : k ∉ fs.map DF.name) : getP (fs.map DF.p) k = ([], 0) := by
  have : (fs.map DF.p).find? (fun r => r.1 == k) = none := by
    rw [List.find?_eq_none]
    intro x hx e
    obtain ⟨q, hq, rfl⟩ := List.mem_map.1 hx
    rw [beq_iff_eq] at e
    exact h (by rw [← e]; exact List.mem_map_of_mem hq)
  unfold getP
  rw [this]
theorem hasP_map {fs : List DF} {k : List UInt8} : hasP (fs.map DF.p) k = true ↔ k ∈ fs.map DF.name := by
  unfold hasP
  rw [List.any_eq_true]
  constructor
  · rintro ⟨x, hx, e⟩
    obtain ⟨q, hq, rfl⟩ := List.mem_map.1 hx
    rw [beq_iff_eq] at e
    rw [← e]
    exact List.mem_map_of_mem hq
  · intro h
    obtain ⟨q, hq, rfl⟩ := List.mem_map.1 h
    exact ⟨q.p, List.mem_map_of_mem hq, by rw [beq_iff_eq]; rfl⟩
/-- a disk in memory: its block, the map of its files, their rows in S -/
def Disk_ (w : World) (b : Nat) (S : Nat → Prop) (mv : Value) (d : LDisk) (fs : List DF) : Prop :=
  Blk w b 72 (diskC mv d) ∧ FilesAt w mv fs ∧ Rows_ w S fs ∧ mv ≠ .map (some b) ∧ ∀ g, S g → g < w.heap.size ∧ g ≠ b ∧ mv ≠ .map (some g)
/-- behind a call the disk is this one; its rows are the old ones or fresh -/
def DiskTo (b : Nat) (S : Nat → Prop) (mv : Value) (d : LDisk) (ps : List PFile) (w w' : World) : Prop :=
  ∃ mv' S' fs', Disk_ w' b S' mv' d fs' ∧ fs'.map DF.p = ps ∧ (∀ g, S' g → S g ∨ w.heap.size ≤ g) ∧ (mv' = mv ∨ ∃ mb, mv' = .map (some mb) ∧ w.heap.size ≤ mb) ∧ DKept b mv w w'
theorem DKept.refl (b : Nat) (mv : Value) (w : World) : DKept b mv w w := ⟨Nat.le_refl _, fun _ _ _ _ => rfl, OTO.refl _⟩
theorem DKept.trans {b : Nat} {mv mv' : Value} {w w1 w2 : World} (h : DKept b mv w w1) (h2 : DKept b mv' w1 w2) (hm : mv' = mv ∨ ∃ mb, mv' = .map (some mb) ∧ w.heap.size ≤ mb) : DKept b mv w w2 := by
  refine ⟨Nat.le_trans h.1 h2.1, fun g hg hb hmv => ?_, h.3.trans h2.3⟩
  rw [h2.2 g (Nat.lt_of_lt_of_le hg h.1) hb ?_]
  · exact h.2 g hg hb hmv
  · rcases hm with rfl | ⟨mb, rfl, hmb⟩
    · exact hmv
    · intro e
      injection e with e
      have := Option.some.inj e
      omega
theorem DKept.of_below {b : Nat} {mv : Value} {w w' : World} (h : Below w.heap.size w w') : DKept b mv w w' := ⟨h.size, fun g hg _ _ => h.block g hg, OTO.of_below h⟩
theorem DKept.of_grown {b : Nat} {mv : Value} {w w' : World} (h : w.grownBy w' (some b)) : DKept b mv w w' := ⟨h.size, fun g hg hb _ => h.block g hg (fun e => hb (Option.some.inj e)), OTO.of_grown h⟩
/-- append: the error, the disk, the files -/
def appP (d : LDisk) (fs : List PFile) (nm x : List UInt8) : Int × LDisk × List PFile :=
  let r := turnL d (if d.room - (usedP fs : Int) < (x.length : Int) then 8 else 0)
  if r.1 || (r.2.2.dead && !d.dead) then (r.2.1, r.2.2, putP fs (nm, (getP fs nm).1 ++ x, (getP fs nm).2)) else (r.2.1, r.2.2, fs)
end Go.Proofs.Ytbldfgpnghoigaa
