/- The disk of package disk in memory: a map of files by their names. -/
import Derived.Test.YtbldfgpnghoigaaOwnB
import Derived.Maps.Own
import Derived.Maps.OwnOps
import Derived.Maps.OwnSet
import Derived.Maps.Views
import Derived.Maps.RangeWalk
import Derived.StillTailTactics
import Derived.Deep.DeepCutAuto
import Derived.Deep.LoopGhost
import Derived.BigQuiet
namespace Go.Proofs.Ytbldfgpnghoigaa
open Go.RowKit
open Go.Maps

/-- an element of the map, whatever it is -/
def rawR (v : Value) : Option (DataW Value × List MemPlace) := some (.held v, [])
/-- a file: its name, where its bytes lie, how many of them are safe -/
structure DF where
  name : List UInt8
  A : Option Addr
  data : List UInt8
  c : Nat
  safe : Nat
def DF.vv (q : DF) : Value := .agg #[.slice q.A q.data.length q.c, .int .i64 (q.safe : Int)]
def zF : Value := .agg #[.slice none 0 0, .int .i64 0]
/-- the map D holds these files by their names -/
def DMap (D : DataW Value) (fs : List DF) : Prop :=
  IsMap D ∧ (fs.map DF.name).Nodup ∧ (∀ k : List UInt8, has D (.string k) = true ↔ k ∈ fs.map DF.name) ∧ (∀ q ∈ fs, D.atKey (.string q.name) (.held zF) = .held q.vv) ∧ size D = fs.length
theorem lit_ne {a b : List UInt8} (h : a ≠ b) : Lit.string a ≠ Lit.string b := fun e => h (by injection e)
theorem DMap.nil_ : DMap (.map []) [] := ⟨isMap_empty, List.nodup_nil, (fun k => by simp [has]), (fun q hq => by cases hq), rfl⟩
/-- the files without a name; with a file in its place -/
def delF (fs : List DF) (k : List UInt8) : List DF := fs.filter (fun q => q.name != k)
def putF (fs : List DF) (q : DF) : List DF := q :: delF fs q.name
theorem mem_delF {fs : List DF} {k : List UInt8} {q : DF} : q ∈ delF fs k ↔ q ∈ fs ∧ q.name ≠ k := by
  unfold delF
  rw [List.mem_filter, bne_iff_ne]
theorem name_delF {fs : List DF} {k j : List UInt8} : j ∈ (delF fs k).map DF.name ↔ j ∈ fs.map DF.name ∧ j ≠ k := by
  constructor
  · intro h
    obtain ⟨q, hq, rfl⟩ := List.mem_map.1 h
    obtain ⟨h1, h2⟩ := mem_delF.1 hq
    exact ⟨List.mem_map_of_mem h1, h2⟩
  · rintro ⟨h, h2⟩
    obtain ⟨q, hq, rfl⟩ := List.mem_map.1 h
    exact List.mem_map_of_mem (mem_delF.2 ⟨hq, h2⟩)
theorem nodup_delF {fs : List DF} {k : List UInt8} (h : (fs.map DF.name).Nodup) : ((delF fs k).map DF.name).Nodup := by
  unfold delF
  exact h.sublist ((List.filter_sublist).map DF.name)
theorem length_delF {fs : List DF} {k : List UInt8} (h : (fs.map DF.name).Nodup) : (delF fs k).length + (if k ∈ fs.map DF.name then 1 else 0) = fs.length := by
  induction fs with
  | nil => rfl
  | cons x r ih =>
    rw [List.map_cons, List.nodup_cons] at h
    have ih := ih h.2
    by_cases e : x.name = k
    · have h1 : k ∉ r.map DF.name := by rw [← e]; exact h.1
      rw [if_neg h1] at ih
      have h2 : delF (x :: r) k = delF r k := by unfold delF; rw [List.filter_cons, if_neg (by rw [bne_iff_ne]; exact fun h => h e)]
      rw [h2, if_pos (by rw [List.map_cons, e]; exact List.mem_cons_self ..), List.length_cons]
      omega
    · have h2 : delF (x :: r) k = x :: delF r k := by unfold delF; rw [List.filter_cons, if_pos (by rw [bne_iff_ne]; exact e)]
      have h3 : (k ∈ (x :: r).map DF.name) ↔ k ∈ r.map DF.name := by rw [List.map_cons, List.mem_cons]; exact ⟨fun h => h.resolve_left (fun h => e h.symm), .inr⟩
      rw [h2, List.length_cons, List.length_cons]
      by_cases h4 : k ∈ r.map DF.name
      · rw [if_pos h4] at ih; rw [if_pos (h3.2 h4)]; omega
      · rw [if_neg h4] at ih; rw [if_neg (fun h => h4 (h3.1 h))]; omega
theorem ownsMap_tight {P : Program} {k : TypeId} {w : World} {b n : Nat} {D : DataW Value} (h : w.ownsMap P k rawR b n D) : w.ownsMap P k rawR b (size D) D := by
  obtain ⟨es, c, h1, h2, h3, rfl⟩ := h
  exact ⟨es, c, h1, h2, by rw [size_eq, length_read]; exact Nat.le_refl _, rfl⟩
theorem DMap.put {D : DataW Value} {fs : List DF} (h : DMap D fs) (hT : Tidy D) (q : DF) : DMap (D.put (.string q.name) (.held q.vv)) (putF fs q) := by
  obtain ⟨h1, h2, h3, h4, h7⟩ := h
  refine ⟨h1.put _ _, ?_, fun k => ?_, fun r hr => ?_, ?_⟩
  · show (q.name :: (delF fs q.name).map DF.name).Nodup
    rw [List.nodup_cons]
    exact ⟨fun h => (name_delF.1 h).2 rfl, nodup_delF h2⟩
  · show _ ↔ k ∈ q.name :: (delF fs q.name).map DF.name
    rw [List.mem_cons, name_delF]
    by_cases e : k = q.name
    · subst e
      rw [has_put_same (k := .string q.name) h1 trivial]
      simp
    · rw [has_put_other (lit_ne e), h3 k]
      simp [e]
  · rcases List.mem_cons.1 hr with rfl | hr
    · rw [atKey_put_same (k := .string r.name) h1 trivial]
    · obtain ⟨h5, h6⟩ := mem_delF.1 hr
      rw [atKey_put_other (lit_ne h6)]
      exact h4 r h5
  · rw [size_put hT]
    have h9 := length_delF (k := q.name) h2
    show _ = (delF fs q.name).length + 1
    by_cases hm : q.name ∈ fs.map DF.name
    · rw [if_pos ((h3 _).2 hm)]; rw [if_pos hm] at h9; omega
    · rw [if_neg (fun h => hm ((h3 _).1 h))]; rw [if_neg hm] at h9; omega
theorem DMap.del {D : DataW Value} {fs : List DF} (h : DMap D fs) (hT : Tidy D) (k : List UInt8) : DMap (D.del (.string k)) (delF fs k) := by
  obtain ⟨h1, h2, h3, h4, h7⟩ := h
  refine ⟨h1.del _, nodup_delF h2, fun j => ?_, fun r hr => ?_, ?_⟩
  · rw [name_delF]
    by_cases e : j = k
    · subst e
      rw [has_del_same]
      simp
    · rw [has_del_other (lit_ne e), h3 j]
      simp [e]
  · obtain ⟨h5, h6⟩ := mem_delF.1 hr
    rw [atKey_del_other (lit_ne h6)]
    exact h4 r h5
  · have h8 := size_del (k := .string k) hT
    have h9 := length_delF (k := k) h2
    by_cases hm : k ∈ fs.map DF.name
    · rw [if_pos ((h3 k).2 hm)] at h8; rw [if_pos hm] at h9; omega
    · rw [if_neg (fun h => hm ((h3 k).1 h))] at h8; rw [if_neg hm] at h9; omega
/-- what stands under a name -/
theorem DMap.look {D : DataW Value} {fs : List DF} (h : DMap D fs) (k : List UInt8) :
    (∃ q ∈ fs, q.name = k ∧ D.atKey (.string k) (.held zF) = .held q.vv ∧ has D (.string k) = true) ∨ (k ∉ fs.map DF.name ∧ D.atKey (.string k) (.held zF) = .held zF ∧ has D (.string k) = false) := by
  obtain ⟨h1, h2, h3, h4, _⟩ := h
  by_cases hm : k ∈ fs.map DF.name
  · obtain ⟨q, hq, rfl⟩ := List.mem_map.1 hm
    exact .inl ⟨q, hq, rfl, h4 q hq, (h3 _).2 hm⟩
  · have hf : has D (.string k) = false := by
      cases hb : has D (.string k) with
      | false => rfl
      | true => exact absurd ((h3 k).1 hb) hm
    exact .inr ⟨hm, atKey_of_not_has hf _, hf⟩
/-- a disk without its memory -/
structure LDisk where
  room : Int
  armed : Bool
  left : Int
  dead : Bool
/-- the disk's cells -/
def diskC (mv : Value) (d : LDisk) : Array Value := #[mv, .int .i64 d.room, .bool d.armed, .int .i64 d.left, .bool d.dead]
/-- the files' rows -/
def Rows_ (w : World) (S : Nat → Prop) (fs : List DF) : Prop := ∀ q ∈ fs, Bs w q.A q.data ∧ At S q.A q.data.length ∧ q.data.length ≤ q.c ∧ q.c ≤ 9223372036854775807 ∧ q.safe ≤ q.data.length
/-- the map of files -/
def FilesAt (w : World) (mv : Value) (fs : List DF) : Prop := (mv = .map none ∧ fs = []) ∨ ∃ mb D, mv = .map (some mb) ∧ w.ownsMap Try.prog 9 rawR mb fs.length D ∧ DMap D fs
theorem DFs.nil_ (w : World) (S : Nat → Prop) : Rows_ w S [] := fun _ h => by cases h
/-- may a call be done that would answer e, and what it answers, and the disk behind it -/
def turnL (d : LDisk) (e : Int) : Bool × Int × LDisk :=
  if d.dead then (false, 9, d) else if e ≠ 0 then (false, e, d) else if d.armed && decide (d.left = 0) then (false, 9, { d with dead := true }) else if d.armed then (true, 0, { d with left := d.left - 1 }) else (true, 0, d)
end Go.Proofs.Ytbldfgpnghoigaa
