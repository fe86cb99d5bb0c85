/- Opening a law's arguments: what a slice of bytes, and a slice of such, reads as; and that no more came in than the form lets. -/
import Derived.Test.YtbldfgpnghoigaaMem
import Derived.ProofKit
import Derived.OpenShut
import Derived.ShutString
import Derived.ChangeOld
import Derived.SizedLaws
import Derived.Deep.Slices
namespace Go.Proofs.Ytbldfgpnghoigaa
open Go.ChangeShapes Go.WideShapes Go.ChangeAt Go.RowKit Go.Deep

theorem Try.own : ownKnob Try.prog.godebug = none := by kernel_rfl
theorem Try.laidOut : laidOutB Try.prog = true := by kernel_rfl
theorem Try.cellsU8 : Try.prog.cellsOf 5 = 1 := by kernel_rfl
theorem Try.cellsBs : Try.prog.cellsOf 40 = 1 := by kernel_rfl
theorem Try.bytesU8 : Try.prog.bytesOf 5 = 1 := by kernel_rfl
theorem Try.bytesBs : Try.prog.bytesOf 40 = 24 := by kernel_rfl

def toB (z : Int) : UInt8 := UInt8.ofNat z.toNat
theorem toB_toNat {z : Int} (h : (Lit.int .u8 z).wf = true) : ((toB z).toNat : Int) = z := by
  have h1 : IntKind.u8.min = 0 := rfl
  have h2 : IntKind.u8.max = 255 := rfl
  simp only [Lit.wf, Bool.and_eq_true, decide_eq_true_eq, h1, h2] at h
  unfold toB
  rw [UInt8.toNat_ofNat', Nat.mod_eq_of_lt (by omega)]
  omega

theorem weights_elem {H : Type} {P : Program} {e : TypeId} : ∀ {ds : List (DataW H)} {j : Nat} {d : DataW H}, ds[j]? = some d → ∀ n ∈ d.weights P e, n ∈ DataW.weightsAll P e ds
  | d0 :: ds, 0, d, hd, n, hn => by
    simp only [List.getElem?_cons_zero, Option.some.injEq] at hd
    subst hd
    simp only [DataW.weightsAll, List.mem_append]
    exact .inl hn
  | d0 :: ds, j + 1, d, hd, n, hn => by
    simp only [List.getElem?_cons_succ] at hd
    simp only [DataW.weightsAll, List.mem_append]
    exact .inr (weights_elem hd n hn)
  | [], _, _, hd, _, _ => by simp at hd

section
variable {H : Type} {enc : TypeId × Value → H} {W : World}

theorem opn_bytes {fuel : Nat} {v : Value} {d : DataW H} {pl : List MemPlace} (h : DataW.trod enc Try.prog W 0 (fun _ => true) true fuel 40 [v] = some (d, pl))
    (hs : ∀ n ∈ d.weights Try.prog 40, n ≤ reachBytes) : ∃ A l c, v = .slice A l.length c ∧ Bs W A l ∧ l.length ≤ c ∧ c ≤ 140737488351232 := by
  rcases open_ints Try.underlying40 Try.underlying5 Try.cellsU8 h with ⟨hcs, hx⟩ | ⟨a, len, cap, zs, hcs, _, hl, hm, hz, hx, hcell, hwz⟩
  · simp only [List.cons.injEq, and_true] at hcs
    exact ⟨none, [], 0, hcs, Bs.nil_ _ _, by simp, by omega⟩
  · simp only [List.cons.injEq, and_true] at hcs
    simp only [if_true] at hz
    obtain ⟨rfl, rfl⟩ : d = _ ∧ pl = _ := by simpa using hx
    have hr : cap ≤ 140737488351232 := by
      have := hs ((lits (H := H) .u8 (zs.take len)).length * 1 + (lits (H := H) .u8 (zs.drop len)).length * 1) (by
        simp only [DataW.weights, Try.underlying40, Try.bytesU8, List.mem_cons]
        exact .inl (by omega))
      simp only [lits, List.length_map, List.length_take, List.length_drop, reachBytes] at this
      omega
    have hlen : ((zs.take len).map toB).length = len := by simp; omega
    refine ⟨some a, (zs.take len).map toB, cap, by rw [hlen]; exact hcs, ⟨⟨by simp, fun hp => ?_⟩, by rw [hlen]; omega⟩, by rw [hlen]; omega, hr⟩
    rw [hlen] at hp
    refine ⟨a, rfl, ?_, fun j u hu => ?_⟩
    · have := World.block_lt_of_cell? W (a.add 0) (hcell 0 (by omega))
      rwa [block_of_add] at this
    · rw [List.getElem?_map, List.getElem?_map, List.getElem?_take] at hu
      split at hu
      · rename_i hj
        have hjz : j < zs.length := by omega
        rw [List.getElem?_eq_getElem hjz] at hu
        simp only [Option.map_some, Option.some.injEq] at hu
        subst hu
        rw [hcell j hjz, bval, toB_toNat (hwz _ (List.getElem_mem _))]
        simp [List.getD, hjz]
      · simp at hu

theorem opn_bytess {fuel : Nat} {v : Value} {d : DataW H} {pl : List MemPlace} (h : DataW.trod enc Try.prog W 0 (fun _ => true) true fuel 27 [v] = some (d, pl))
    (hs : ∀ n ∈ d.weights Try.prog 27, n ≤ reachBytes) : ∃ A ls c, v = .slice A ls.length c ∧ Bss W A ls ∧ ls.length ≤ c ∧ c * 24 ≤ 140737488351232 ∧ ∀ l ∈ ls, l.length ≤ 140737488351232 := by
  rcases open_slice1 Try.underlying27 Try.cellsBs h with ⟨hcs, hx⟩ | ⟨a, len, cap, m, n, V, D, Pl, hcs, _, hl, hm, hmm, hx, hi⟩
  · simp only [List.cons.injEq, and_true] at hcs
    exact ⟨none, [], 0, hcs, ⟨by simp, [], Reads.none_, fun i hi => absurd hi (by simp)⟩, by simp, by omega, by simp⟩
  · simp only [List.cons.injEq, and_true] at hcs
    simp only [if_true] at hmm
    subst hmm
    obtain ⟨rfl, rfl⟩ : d = _ ∧ pl = _ := by simpa using hx
    have hr : m * 24 ≤ 140737488351232 := by
      have := hs (m * 24) (by
        simp only [DataW.weights, Try.underlying27, Try.bytesBs, List.mem_cons, List.length_map, List.length_range]
        left; congr 1; omega)
      simpa [reachBytes] using this
    have hel : ∀ i, i < len → ∃ A l c, V i = .slice A l.length c ∧ Bs W A l ∧ l.length ≤ c ∧ c ≤ 140737488351232 := by
      intro i hil
      refine opn_bytes (hi i (by omega)).2 (fun k hk => hs k ?_)
      simp only [DataW.weights, Try.underlying27, List.mem_cons, List.mem_append]
      exact .inr (.inl (weights_elem (j := i) (by simp [hil]) k hk))
    obtain ⟨f, hf⟩ : ∃ f : Nat → List UInt8, ∀ i, i < len → ∃ A c, V i = .slice A (f i).length c ∧ Bs W A (f i) ∧ (f i).length ≤ 140737488351232 := by
      refine choose_lt (α := List UInt8) (p := fun i l => ∃ A c, V i = .slice A l.length c ∧ Bs W A l ∧ l.length ≤ 140737488351232) (fun i hil => ?_)
      obtain ⟨A, l, c, h1, h2, h3, h4⟩ := hel i hil
      exact ⟨l, A, c, h1, h2, by omega⟩
    have hlen : ((List.range len).map f).length = len := by simp
    refine ⟨some a, (List.range len).map f, m, by rw [hlen]; exact hcs, ⟨by rw [hlen]; omega, (List.range len).map V, ⟨by simp, fun hp => ?_⟩, fun i hil => ?_⟩, by rw [hlen]; exact hl, hr, fun l hlm => ?_⟩
    · rw [hlen] at hp
      refine ⟨a, rfl, ?_, fun j u hu => ?_⟩
      · have := World.block_lt_of_cell? W (a.add 0) (hi 0 (by omega)).1
        rwa [block_of_add] at this
      · have hj : j < len := by
          rcases Nat.lt_or_ge j len with h | h
          · exact h
          · simp [List.getElem?_eq_none (show ((List.range len).map V).length ≤ j by simp; exact h)] at hu
        simp [hj] at hu
        subst hu
        exact (hi j (by omega)).1
    · rw [hlen] at hil
      obtain ⟨A, c, h1, h2, h3⟩ := hf i hil
      exact ⟨A, c, by simp [hil, h1], by simpa using h2⟩
    · obtain ⟨i, hil, rfl⟩ := List.mem_map.1 hlm
      obtain ⟨A, c, h1, h2, h3⟩ := hf i (by simpa using hil)
      exact h3
end

end Go.Proofs.Ytbldfgpnghoigaa
