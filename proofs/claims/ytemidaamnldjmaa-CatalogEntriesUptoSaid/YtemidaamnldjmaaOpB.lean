/- What is of small bulk: bytes opened with their bound. -/
import Derived.Test.YtemidaamnldjmaaOpS
import Derived.Test.YtemidaamnldjmaaOpE
namespace Go.Proofs.Ytemidaamnldjmaa
open Go.ChangeShapes Go.WideShapes Go.ChangeAt Go.RowKit Go.Deep

/-- no more came in than the form lets, and of bulk at most the bound -/
def Small {H : Type} (t : TypeId) (d : DataW H) : Prop := (∀ n ∈ d.weights Try.prog t, n ≤ reachBytes) ∧ Rows.uptoBulk d ≤ 1048576

theorem bulk_mem {H : Type} {d : DataW H} {l : List (DataW H)} (h : d ∈ l) : Rows.uptoBulk d ≤ Rows.uptoBulkAll l := by
  induction l with
  | nil => cases h
  | cons x r ih =>
    simp only [Rows.uptoBulkAll]
    cases List.mem_cons.1 h with
    | inl e => subst e; omega
    | inr e => have := ih e; omega
theorem bulk_get {H : Type} {l : List (DataW H)} {i : Nat} {d : DataW H} (h : l[i]? = some d) : Rows.uptoBulk d ≤ Rows.uptoBulkAll l := bulk_mem (List.mem_of_getElem? h)

section
variable {H : Type} {enc : TypeId × Value → H} {W : World}
end
section
variable {H : Type} {enc : TypeId × Value → H} {W : World}

theorem one_bulk {H : Type} (d : DataW H) : 1 ≤ Rows.uptoBulk d := by
  cases d with
  | lit l => cases l <;> simp [Rows.uptoBulk]
  | nil => simp [Rows.uptoBulk]
  | ptr d => simp [Rows.uptoBulk]
  | slice elems spare => simp [Rows.uptoBulk]
  | agg parts => simp [Rows.uptoBulk]
  | iface t d => simp [Rows.uptoBulk]
  | map entries => simp [Rows.uptoBulk]
  | held h => simp [Rows.uptoBulk]
theorem length_bulk {H : Type} : ∀ l : List (DataW H), l.length ≤ Rows.uptoBulkAll l
  | [] => by simp [Rows.uptoBulkAll]
  | x :: r => by
    have h1 := length_bulk r
    have h2 := one_bulk x
    simp only [Rows.uptoBulkAll, List.length_cons]
    omega
/-- bytes -/
theorem opn_bytesU {fuel : Nat} {v : Value} {d : DataW H} {pl : List MemPlace} (h : DataW.trod enc Try.prog W 0 (fun _ => true) true fuel 29 [v] = some (d, pl)) (hs : Small 29 d) :
    ∃ A l c, v = .slice A l.length c ∧ (Bs W A l ∧ l.length ≤ c ∧ c ≤ 140737488351232) ∧ l.length ≤ 1048576 := by
  obtain ⟨A, l, c, e, hb, hc1, hc2⟩ := opn_bytes h hs.1
  refine ⟨A, l, c, e, ⟨hb, hc1, hc2⟩, ?_⟩
  rcases open_ints Try.underlying29 Try.underlying5 Try.cellsU8 h with ⟨hcs, hx⟩ | ⟨a, len, cap, zs, hcs, _, hl, hm, hz, hx, hcell, hwz⟩
  · simp only [List.cons.injEq, and_true] at hcs
    rw [hcs] at e
    injection e with _ e2
    omega
  · simp only [List.cons.injEq, and_true] at hcs
    simp only [if_true] at hz
    obtain ⟨rfl, rfl⟩ : d = _ ∧ pl = _ := by simpa using hx
    rw [hcs] at e
    injection e with _ e2
    have h1 := hs.2
    simp only [Rows.uptoBulk] at h1
    have h2 := length_bulk (lits (H := H) .u8 (zs.take len))
    have h3 : (lits (H := H) .u8 (zs.take len)).length = len := by simp only [lits, List.length_map, List.length_take]; omega
    omega
end
end Go.Proofs.Ytemidaamnldjmaa
