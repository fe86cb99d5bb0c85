/- What both Encodes of an edit share: lengths of the parts, rows of parts; plain. -/
import Derived.Test.YtmgibpedclngpaaManP
import Derived.Test.YtmgibpedclngpaaAppE
import Derived.Test.YtmgibpedclngpaaPutN
namespace Go.Proofs.Ytmgibpedclngpaa
open Go.RowKit

/-- an edit small enough for Frame -/
structure LEdit.sm (e : LEdit) : Prop where
  nadd : e.add.length ≤ 4000
  ndrop : e.drop.length ≤ 100000
  adds : ∀ f ∈ e.add, f.first.length ≤ 4000000 ∧ f.last.length ≤ 4000000
theorem dropL_len : ∀ {l : List Nat}, (∀ n ∈ l, U64 n) → (dropL l).length ≤ 10 * l.length
  | [], _ => Nat.le_refl _
  | n :: l, h => by
    have h1 := putU_len10 (h n (List.mem_cons_self ..))
    have h2 := dropL_len (l := l) (fun m hm => h m (List.mem_cons_of_mem _ hm))
    show (putU n ++ dropL l).length ≤ _
    rw [List.length_append, List.length_cons]
    omega
theorem dropL_snoc {l : List Nat} {k : Nat} (h : k < l.length) : dropL (l.take (k + 1)) = dropL (l.take k) ++ putU l[k] := by
  unfold dropL
  rw [List.take_succ_eq_append_getElem h, List.flatMap_append]
  simp
theorem headL_len {e : LEdit} (h : U64 e.seq) : (headL e).length ≤ 11 := by
  have := putU_len10 h
  show ((if e.reset = true then (1 : UInt8) else 0) :: putU e.seq).length ≤ 11
  rw [List.length_cons]
  omega
theorem fileL_len {f : LFile} (h : f.wf) : (fileL f).length ≤ 44 + 2 * f.first.length + 2 * f.last.length := by
  have h1 := putU_len10 h.1
  have h2 := putU_len10 (toU_u64 f.level)
  have h3 := putU_len10 (toU_u64 f.count)
  have h4 := putU_len10 (toU_u64 f.size)
  have h5 := ordT_len f.first
  have h6 := ordT_len f.last
  unfold fileL
  simp only [List.length_append]
  omega
/-- the parts of an edit, as many as are ready with k files -/
def partsL_ (e : LEdit) (k : Nat) : List (List UInt8) := headL e :: dropL e.drop :: (e.add.take k).map fileL
theorem partsL_snoc {e : LEdit} {k : Nat} (h : k < e.add.length) : partsL_ e (k + 1) = partsL_ e k ++ [fileL e.add[k]] := by
  unfold partsL_
  rw [List.take_succ_eq_append_getElem h, List.map_append]
  rfl
theorem partsL_len (e : LEdit) {k : Nat} (h : k ≤ e.add.length) : (partsL_ e k).length = k + 2 := by
  unfold partsL_
  simp only [List.length_cons, List.length_map, List.length_take]
  omega
theorem partsL_end (e : LEdit) : frameL (partsL_ e e.add.length) = editL e := by
  unfold partsL_ editL
  rw [List.take_length]
theorem partsL_sm {e : LEdit} (h : e.sm) (hs : U64 e.seq) (hd : ∀ n ∈ e.drop, U64 n) (hf : ∀ f ∈ e.add, f.wf) (k : Nat) : ∀ l ∈ partsL_ e k, l.length ≤ 16777216 := by
  intro l hl
  unfold partsL_ at hl
  rcases List.mem_cons.mp hl with rfl | hl
  · have := headL_len hs; omega
  rcases List.mem_cons.mp hl with rfl | hl
  · have := dropL_len hd; have := h.ndrop; omega
  obtain ⟨f, hf1, rfl⟩ := List.mem_map.mp hl
  have hm := List.mem_of_mem_take hf1
  have := fileL_len (hf f hm)
  have := h.adds f hm
  omega
/-- a literal row of bytes' rows -/
theorem BsE.lit {w : World} {base lo : Nat} {t : TypeId} {vs : List Value} {xs : List (List UInt8)} {n : Nat} (hb : base ≤ w.heap.size) (hn : vs.length = n) (h : BsE.flat (w.alloc (.cells vs.toArray t)) (fun b => lo ≤ b ∧ b < w.heap.size) vs xs) (hl : n ≤ 4096) :
    Own BsE t (w.alloc (.cells vs.toArray t)) base (fun b => lo ≤ b) (.slice (some ⟨w.heap.size, 0, none⟩) xs.length n) xs := by
  have hl2 := ER.flat_len h
  rw [show xs.length * BsE.size = xs.length from Nat.mul_one _] at hl2
  subst hn
  rw [← hl2]
  have o := own_of_blk (base := base) (Blk.new w t vs.toArray) hb (by simp only [maxLen]; omega)
  refine ⟨vs, by rw [← hl2]; exact o, ER.flat_mono (fun b _ hb => ⟨hb.1, fun e => ?_⟩) h⟩
  have e2 : w.heap.size = b := Option.some.inj e
  omega
theorem BsE.two {w : World} {S : Nat → Prop} {A B : Option Addr} {a b : Nat} {x y : List UInt8} (h1 : Bs w A x ∧ At S A x.length ∧ x.length ≤ a ∧ a ≤ 9223372036854775807) (h2 : Bs w B y ∧ At S B y.length ∧ y.length ≤ b ∧ b ≤ 9223372036854775807) :
    BsE.flat w S [.slice A x.length a, .slice B y.length b] [x, y] := ⟨[.slice A x.length a], _, rfl, ⟨A, a, rfl, h1⟩, [.slice B y.length b], [], rfl, ⟨B, b, rfl, h2⟩, rfl⟩
/-- the head's first byte -/
theorem head_own {w : World} {g base : Nat} {x : UInt8} (h : Blk w g 5 #[bval x]) (hb : base ≤ g) : OwnB base w (some ⟨g, 0, none⟩) [x] 1 := by
  have := own_of_blk (base := base) (xs := [bval x]) h hb (by show 1 ≤ maxLen; decide)
  exact this
theorem OwnB.bytes {b : Nat} {w : World} {A : Option Addr} {l : List UInt8} {c : Nat} (o : OwnB b w A l c) (hl : l.length ≤ 140737488355328) {S : Nat → Prop} (hS : ∀ g, b ≤ g → g < w.heap.size → S g) : Bs w A l ∧ At S A l.length ∧ l.length ≤ c ∧ c ≤ 9223372036854775807 :=
  ⟨o.bs hl, fun ad e hn => by have h1 := o.at_ ad e hn; exact hS _ h1.1 h1.2, o.caps⟩
theorem OwnB.bytesB {b : Nat} {w w' : World} {A : Option Addr} {l : List UInt8} {c : Nat} (o : OwnB b w A l c) (hl : l.length ≤ 140737488355328) (hb : Below w.heap.size w w') {S : Nat → Prop} (hS : ∀ g, b ≤ g → g < w.heap.size → S g) : Bs w' A l ∧ At S A l.length ∧ l.length ≤ c ∧ c ≤ 9223372036854775807 :=
  ⟨(o.bs hl).below hb, fun ad e hn => by have h1 := o.at_ ad e hn; exact hS _ h1.1 h1.2, o.caps⟩
theorem int_at {w : World} {g : Nat} {t : TypeId} {xs : List Int} (h : Blk w g t (xs.map (fun x => Value.int .i64 x)).toArray) {j : Nat} (hj : j < xs.length) : w.cell? ((⟨g, 0, none⟩ : Addr).add j) = some (.int .i64 xs[j]) := by
  rw [add_row, h.cell j]
  simp [hj]
end Go.Proofs.Ytmgibpedclngpaa
