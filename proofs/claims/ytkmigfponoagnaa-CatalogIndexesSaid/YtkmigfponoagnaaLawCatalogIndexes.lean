/- The law CatalogIndexes: for every input that the form lets, the call returns true and every argument reads as it did. No condition is added. -/
import Derived.Test.YtkmigfponoagnaaOpen
import Derived.Test.YtkmigfponoagnaaOpE
import Derived.Test.YtkmigfponoagnaaIxs
namespace Go.Proofs.Ytkmigfponoagnaa.catalogIndexes
open Go.ChangeShapes Go.WideShapes Go.ChangeAt Go.RowKit
open Go.ChangeMaps (open_string shut_string)

set_option maxRecDepth 100000 in
theorem lifted (os : Os) (started : os.Started) (H : Type) (enc : TypeId × Value → H) :
    ReturnsInHanded {} Try.checked os 3 .any (Rows.catalogIndexesSpec.pre6 enc Try.prog Try.f3 Rows.catalogIndexesRow.domain false) (Rows.catalogIndexesSpec.post enc Try.prog Try.f3 false true false false) := by
  refine returnsInHanded_of_change_sized (C := Try.checked) Try.own started (by kernel_rfl) Try.func3
    (ChangeSpec.witness6 (enc := enc) (C := Try.checked) false ⟨#[], #[.agg #[.int .i64 0, .string ⟨#[]⟩, .slice none 0 0, .int .i64 0, .slice none 0 0, .slice none 0 0], .agg #[.string ⟨#[]⟩, .slice none 0 0, .bool false], .string ⟨#[]⟩], []⟩ 8 (by kernel_rfl) (by kernel_rfl) (by kernel_rfl) (by kernel_rfl)) ?_
  intro W base args ds gs before hval0 hW _ hsz0 _
  have hsz : (DataW.weightsEach Try.prog (Try.f3.params.toList ++ Rows.catalogIndexesSpec.plain.varTypes Try.prog) (ds ++ gs)).all (· ≤ reachBytes) = true := hsz0
  have hval : ∀ (j : Nat) t v, Try.f3.params[j]? = some t → args[j]? = some v → Value.okWide Try.prog W .any base t v := hval0
  have hW' := hW
  obtain ⟨p, q, hA0, hV, rfl, hfz, hnd⟩ := hW
  have hA : DataW.TrodAll enc Try.prog W 0 (fun _ => true) true Try.f3.params.toList args.toList ds p := hA0
  rw [Try.params3] at hA hval hsz
  obtain ⟨v0, vs0, d0, ds0, p0, q0, hargs, rfl, rfl, h0, r0⟩ := trodAll_cons hA
  obtain ⟨v1, vs1, d1, ds1, p1, q1, rfl, rfl, rfl, h1, r1⟩ := trodAll_cons r0
  obtain ⟨v2, vs2, d2, ds2, p2, q2, rfl, rfl, rfl, h2, r2⟩ := trodAll_cons r1
  obtain ⟨rfl, rfl, rfl⟩ := trodAll_nil r2
  obtain rfl : args = #[v0, v1, v2] := by cases args; simp_all
  obtain ⟨rfl, rfl⟩ := trodVars_none hV
  have k0 := h0
  have lt0 : ∀ x ∈ p0, x.block < W.heap.size := by obtain ⟨m, hm⟩ := k0; exact DataW.trod_lt m _ _ _ hm
  have s0 : ∀ n ∈ d0.weights Try.prog 28, n ≤ reachBytes := fun n hn => by
    have := List.all_eq_true.1 hsz n (DataW.weights_mem_each (j := 0) (t := 28) (d := d0) rfl rfl n hn)
    simpa using this
  obtain ⟨sa0, se0, sz0⟩ := okWide_struct Try.underlying28 (hval 0 28 v0 rfl rfl)
  subst se0
  obtain ⟨fu0, hf0⟩ := h0
  obtain ⟨id0, keys0, tn0, A0, B0, S0, cols0, ixs0, sts0, ca0, cb0, cc0, el0, hA0, hB0, hS0, hn0, hc0⟩ := opn_rent (by simpa [Value.cells] using hf0) s0
  obtain rfl : sa0 = #[.int .i64 id0, .string tn0, .slice A0 cols0.length ca0, .int .i64 keys0, .slice B0 ixs0.length cb0, .slice S0 sts0.length cc0] := by cases sa0; simp_all
  have k1 := h1
  have lt1 : ∀ x ∈ p1, x.block < W.heap.size := by obtain ⟨m, hm⟩ := k1; exact DataW.trod_lt m _ _ _ hm
  have s1 : ∀ n ∈ d1.weights Try.prog 31, n ≤ reachBytes := fun n hn => by
    have := List.all_eq_true.1 hsz n (DataW.weights_mem_each (j := 1) (t := 31) (d := d1) rfl rfl n hn)
    simpa using this
  obtain ⟨sa1, se1, sz1⟩ := okWide_struct Try.underlying31 (hval 1 31 v1 rfl rfl)
  subst se1
  obtain ⟨fu1, hf1⟩ := h1
  obtain ⟨xn1, C1, xc1, xu1, c1, el1, hC1, h81, hn1⟩ := opn_index (by simpa [Value.cells] using hf1) s1
  obtain rfl : sa1 = #[.string xn1, .slice C1 xc1.length c1, .bool xu1] := by cases sa1; simp_all
  have k2 := h2
  have lt2 : ∀ x ∈ p2, x.block < W.heap.size := by obtain ⟨m, hm⟩ := k2; exact DataW.trod_lt m _ _ _ hm
  have s2 : ∀ n ∈ d2.weights Try.prog 9, n ≤ reachBytes := fun n hn => by
    have := List.all_eq_true.1 hsz n (DataW.weights_mem_each (j := 2) (t := 9) (d := d2) rfl rfl n hn)
    simpa using this
  obtain ⟨sn2, se2, _⟩ := open_string Try.underlying9 (hval 2 9 v2 rfl rfl) h2
  subst se2
  clear hA0 hval0 hsz0
  refine (indexes_any id0 keys0 tn0 cols0 ixs0 sts0 xn1 xc1 xu1 sn2 A0 B0 S0 C1 ca0 cb0 cc0 c1 W hA0 hB0 hS0 hn0 hc0 hC1 h81 hn1).mono fun e W' ⟨he, bel⟩ => ?_
  subst he
  exact ⟨_, rfl, _, _, _, [], _, [], hW', trodAll_mk1 (shut_bool Try.underlying4 _), (trodAll_cons_mk (Below.trod Try.laidOut (by kernel_rfl) (of_decide_eq_true (by kernel_rfl)) k0 bel lt0) (trodAll_cons_mk (Below.trod Try.laidOut (by kernel_rfl) (of_decide_eq_true (by kernel_rfl)) k1 bel lt1) (trodAll_cons_mk (Below.trod Try.laidOut (by kernel_rfl) (of_decide_eq_true (by kernel_rfl)) k2 bel lt2) trodAll_mk0))), rfl, bel.frame _, fun h => by cases h⟩

theorem over : Rows.catalogIndexesRow.holds Try.pinned (OpenSpec.ofChange Rows.catalogIndexesSpec) :=
  OpenClaim.holds_of_wide 3 Try.f3 rfl rfl rfl rfl rfl rfl rfl ⟨rfl, rfl, rfl, rfl, rfl⟩ rfl rfl rfl rfl rfl (by kernel_rfl) Try.func3 (by kernel_rfl)
    (of_decide_eq_true (by kernel_rfl)) (by unfold Func.isWrapper; first | (rw [if_pos (by decide +kernel)]; kernel_rfl) | (rw [if_neg (by decide +kernel)]; exact ⟨rfl, rfl⟩))
    (fun os started H enc _ => lifted os started H enc)

/-- The statement. -/
theorem proved : Rows.CatalogIndexesSaid := over
#print axioms proved
end Go.Proofs.Ytkmigfponoagnaa.catalogIndexes
