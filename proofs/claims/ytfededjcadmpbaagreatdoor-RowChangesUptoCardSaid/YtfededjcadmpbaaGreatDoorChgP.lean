/- The reference's changes, write by write: plain. -/
import Derived.Test.YtfededjcadmpbaaGreatDoorPutR
namespace Go.Proofs.YtfededjcadmpbaaGreatDoor
open Go.RowKit

/-- an entry's value by its key -/
def findF (l : List (List UInt8 × List UInt8)) (k : List UInt8) : Option (List UInt8) := (l.find? fun p => p.1 == k).map Prod.snd
theorem newB_find {was : List (List UInt8 × List UInt8)} (h : (was.map Prod.fst).Nodup) (p : List UInt8 × List UInt8) : newB was p = (!(findF was p.1).isSome || !((findF was p.1).getD [] == p.2)) := by
  unfold findF
  cases hf : was.find? fun q => q.1 == p.1 with
  | none =>
    rw [List.find?_eq_none] at hf
    have h1 : p ∉ was := fun hm => hf p hm (by simp)
    rw [newB_iff.2 h1]
    rfl
  | some q =>
    have h1 := List.mem_of_find?_eq_some hf
    have h2 := List.find?_some hf
    replace h2 : (q.1 == p.1) = true := h2
    rw [beq_iff_eq] at h2
    show newB was p = !(q.2 == p.2)
    cases hb : q.2 == p.2 with
    | true =>
      rw [beq_iff_eq] at hb
      have h3 : q = p := Prod.ext h2 hb
      cases hn : newB was p with
      | false => rfl
      | true => exact absurd (by rw [← h3]; exact h1) (newB_iff.1 hn)
    | false =>
      refine newB_iff.2 fun hm => ?_
      rw [key_oneP h h1 hm h2] at hb
      simp at hb
theorem find_any_key {is : List (List UInt8 × List UInt8)} {k : List UInt8} : (findF is k).isSome = (is.any fun q => q.1 == k) := by
  unfold findF
  rw [Option.isSome_map]
  cases hf : is.find? fun q => q.1 == k with
  | none =>
    rw [List.find?_eq_none] at hf
    symm
    show _ = false
    rw [List.any_eq_false]
    exact hf
  | some q =>
    symm
    show _ = true
    exact List.any_eq_true.2 ⟨q, List.mem_of_find?_eq_some hf, by have h := List.find?_some hf; exact h⟩
/-- the writes of the first k of the new entries -/
def newK (was is : List (List UInt8 × List UInt8)) (k : Nat) : List Wr := (newL was (is.take k)).foldl putL []
theorem newK_step {was is : List (List UInt8 × List UInt8)} {k : Nat} (h : k < is.length) : newK was is (k + 1) = if newB was is[k] = true then putL (newK was is k) (is[k].1, is[k].2, false) else newK was is k := by
  unfold newK newL
  rw [List.take_succ_eq_append_getElem h, List.filter_append, List.map_append, List.foldl_append]
  cases hb : newB was is[k] <;> simp [hb]
/-- all new ones, and the first k of the old entries that are gone -/
def gonK (was is : List (List UInt8 × List UInt8)) (k : Nat) : List Wr := (newL was is ++ goneL (was.take k) is).foldl putL []
theorem gonK_step {was is : List (List UInt8 × List UInt8)} {k : Nat} (h : k < was.length) : gonK was is (k + 1) = if (is.any fun q => q.1 == was[k].1) = true then gonK was is k else putL (gonK was is k) (was[k].1, [], true) := by
  unfold gonK goneL
  rw [List.take_succ_eq_append_getElem h, List.filter_append, List.map_append, ← List.append_assoc, List.foldl_append]
  cases hb : (is.any fun q => q.1 == was[k].1) <;> simp [hb]
theorem newK_zero (was is : List (List UInt8 × List UInt8)) : newK was is 0 = [] := by
  unfold newK newL; rw [List.take_zero]; rfl
theorem gonK_zero (was is : List (List UInt8 × List UInt8)) : gonK was is 0 = newK was is is.length := by
  unfold gonK goneL newK; rw [List.take_zero, List.take_length]; simp
theorem gonK_all (was is : List (List UInt8 × List UInt8)) : gonK was is was.length = rchgL was is := by
  unfold gonK; rw [List.take_length]; rfl
theorem fold_len (l : List Wr) : (l.foldl putL []).length = l.length := by
  have := (fold_perm l []).length_eq
  rwa [List.nil_append] at this
theorem newK_len (was is : List (List UInt8 × List UInt8)) (k : Nat) : (newK was is k).length ≤ is.length := by
  unfold newK newL
  rw [fold_len, List.length_map]
  have h1 := List.length_filter_le (newB was) (is.take k)
  have h2 := List.length_take_le' k is
  omega
theorem gonK_len (was is : List (List UInt8 × List UInt8)) (k : Nat) : (gonK was is k).length ≤ is.length + was.length := by
  unfold gonK newL goneL
  rw [fold_len, List.length_append, List.length_map, List.length_map]
  have h1 := List.length_filter_le (newB was) is
  have h2 := List.length_filter_le (fun p : List UInt8 × List UInt8 => !(is.any fun q => q.1 == p.1)) (was.take k)
  have h3 := List.length_take_le' k was
  omega
end Go.Proofs.YtfededjcadmpbaaGreatDoor
