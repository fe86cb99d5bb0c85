/- Opening a law's arguments: a row of acts. (Printed by wip/gen_opc.py.) -/
import Derived.Test.YtbldfgpnghoigaaOpB
import Derived.Test.YtbldfgpnghoigaaActW
namespace Go.Proofs.Ytbldfgpnghoigaa
open Go.ChangeShapes Go.WideShapes Go.ChangeAt Go.RowKit Go.Deep

theorem Try.ceI : Try.prog.cellsOf 3 = 1 := by kernel_rfl
theorem Try.beI : Try.prog.bytesOf 3 = 8 := by kernel_rfl
theorem Try.ceU : Try.prog.cellsOf 32 = 1 := by kernel_rfl
theorem Try.ceIs : Try.prog.cellsOf 57 = 1 := by kernel_rfl
theorem Try.ceAct : Try.prog.cellsOf 59 = 5 := by kernel_rfl
theorem Try.beAct : Try.prog.bytesOf 59 = 72 := by kernel_rfl
theorem five {α : Type} : ∀ {l : List α}, l.length = 5 → ∃ a b c d e, l = [a, b, c, d, e]
  | [a, b, c, d, e], _ => ⟨a, b, c, d, e, rfl⟩
theorem wf_i64 {n : Int} (h : (Lit.int .i64 n).wf = true) : -9223372036854775808 ≤ n ∧ n ≤ 9223372036854775807 := by
  have h1 : IntKind.i64.min = -9223372036854775808 := rfl
  have h2 : IntKind.i64.max = 9223372036854775807 := rfl
  simp only [Lit.wf, Bool.and_eq_true, decide_eq_true_eq, h1, h2] at h
  omega
theorem wf_u64 {n : Int} (h : (Lit.int .u64 n).wf = true) : 0 ≤ n ∧ n ≤ 18446744073709551615 := by
  have h1 : IntKind.u64.min = 0 := rfl
  have h2 : IntKind.u64.max = 18446744073709551615 := rfl
  simp only [Lit.wf, Bool.and_eq_true, decide_eq_true_eq, h1, h2] at h
  omega
instance : Inhabited LActW := ⟨⟨0, [], 0, 0, []⟩⟩
section
variable {H : Type} {enc : TypeId × Value → H} {W : World}
theorem weights_each_get : ∀ {ts : List TypeId} {ds : List (DataW H)} {j : Nat} {t : TypeId} {d : DataW H}, ts[j]? = some t → ds[j]? = some d → ∀ n ∈ d.weights Try.prog t, n ∈ DataW.weightsEach Try.prog ts ds
  | t0 :: ts, d0 :: ds, 0, t, d, ht, hd, n, hn => by
    simp only [List.getElem?_cons_zero, Option.some.injEq] at ht hd
    subst ht hd
    simp only [DataW.weightsEach, List.mem_append]
    exact .inl hn
  | t0 :: ts, d0 :: ds, j + 1, t, d, ht, hd, n, hn => by
    simp only [List.getElem?_cons_succ] at ht hd
    simp only [DataW.weightsEach, List.mem_append]
    exact .inr (weights_each_get ht hd n hn)
  | [], _, _, _, _, ht, _, _, _ => by simp at ht
  | _ :: _, [], _, _, _, _, hd, _, _ => by simp at hd

theorem opn_struct {t : TypeId} {fs : Array Field} (ht : Try.prog.underlying t = some (.struct fs)) {fuel : Nat} {cs : List Value} {d : DataW H} {pl : List MemPlace}
    (h : DataW.trod enc Try.prog W 0 (fun _ => true) true fuel t cs = some (d, pl)) (hs : ∀ n ∈ d.weights Try.prog t, n ≤ reachBytes) :
    cs.length = Try.prog.cellsOf t ∧ ∃ m, ∀ (i : Nat) (f : Field), fs[i]? = some f → ∃ (y : DataW H × List MemPlace),
      DataW.trod enc Try.prog W 0 (fun _ => true) true m f.type ((cs.drop f.offset).take (Try.prog.cellsOf f.type)) = some y ∧ ∀ n ∈ y.1.weights Try.prog f.type, n ≤ reachBytes := by
  obtain ⟨xs, m, _, hx, hl, hlen, hg⟩ := DataW.trod_struct ht h
  obtain ⟨rfl, rfl⟩ : d = _ ∧ pl = _ := by simpa using hx
  refine ⟨hl, m, fun i f hf => ?_⟩
  have hi : i < xs.length := by rw [hlen]; exact (Array.getElem?_eq_some_iff.1 hf).1
  have hxi : xs[i]? = some xs[i] := List.getElem?_eq_getElem hi
  refine ⟨xs[i], (hg i f hf).trans hxi, fun n hn => hs n ?_⟩
  simp only [DataW.weights, ht]
  exact weights_each_get (j := i) (t := f.type) (d := xs[i].1) (by simp [hf]) (by simp [hi]) n hn

theorem opn_int {e : TypeId} {k : IntKind} (ht : Try.prog.underlying e = some (.int k)) : OpensW enc W e (fun cs n => cs = [.int k n] ∧ (Lit.int k n).wf = true) := fun h _ => by
  obtain ⟨n, h1, _, h2⟩ := DataW.trod_int ht h
  exact ⟨n, h1, h2⟩
theorem opn_part {t : TypeId} {fs : Array Field} (ht : Try.prog.underlying t = some (.struct fs)) {fuel : Nat} {cs : List Value} {d : DataW H} {pl : List MemPlace}
    (h : DataW.trod enc Try.prog W 0 (fun _ => true) true fuel t cs = some (d, pl)) (hs : ∀ n ∈ d.weights Try.prog t, n ≤ reachBytes) (i : Nat) (e : TypeId) (o n : Nat)
    (hi : (fs[i]?).map (fun f => (f.type, f.offset)) = some (e, o)) (hn : Try.prog.cellsOf e = n) :
    ∃ m y p, DataW.trod enc Try.prog W 0 (fun _ => true) true m e ((cs.drop o).take n) = some (y, p) ∧ ∀ k ∈ y.weights Try.prog e, k ≤ reachBytes := by
  obtain ⟨_, m, hf⟩ := opn_struct ht h hs
  cases hfi : fs[i]? with
  | none => rw [hfi] at hi; simp at hi
  | some f =>
    rw [hfi] at hi
    simp only [Option.map_some, Option.some.injEq, Prod.mk.injEq] at hi
    obtain ⟨y, h1, h2⟩ := hf i f hfi
    rw [hi.1, hi.2, hn] at h1
    rw [hi.1] at h2
    exact ⟨m, y.1, y.2, h1, h2⟩

theorem opn_i : OpensW enc W 3 (IntE.rep W Any) := fun h hs => opn_int Try.underlying3 h hs
theorem opn_actw : OpensW enc W 59 (AWE.rep W Any) := by
  intro fuel cs d pl h hs
  have hl := (opn_struct Try.underlying59 h hs).1
  rw [Try.ceAct] at hl
  obtain ⟨a, b, c, d', e, rfl⟩ := five hl
  obtain ⟨m0, y0, p0, h0, s0⟩ := opn_part Try.underlying59 h hs 0 3 0 1 rfl Try.ceI
  obtain ⟨m1, y1, p1, h1, s1⟩ := opn_part Try.underlying59 h hs 1 27 1 1 rfl Try.ceU8ss
  obtain ⟨m2, y2, p2, h2, s2⟩ := opn_part Try.underlying59 h hs 2 32 2 1 rfl Try.ceU
  obtain ⟨m3, y3, p3, h3, s3⟩ := opn_part Try.underlying59 h hs 3 3 3 1 rfl Try.ceI
  obtain ⟨m4, y4, p4, h4, s4⟩ := opn_part Try.underlying59 h hs 4 57 4 1 rfl Try.ceIs
  obtain ⟨x0, e0, l0⟩ := opn_int Try.underlying3 h0 s0
  obtain ⟨A1, x1, c1, e1, hb1, hc1, hd1⟩ := opn_slW BsE Try.underlying27 Try.ceU8s Try.beU8s opn_bs h1 s1
  obtain ⟨x2, e2, l2⟩ := opn_int Try.underlying32 h2 s2
  obtain ⟨x3, e3, l3⟩ := opn_int Try.underlying3 h3 s3
  obtain ⟨A4, x4, c4, e4, hb4, hc4, hd4⟩ := opn_slW IntE Try.underlying57 Try.ceI Try.beI opn_i h4 s4
  have l2' := wf_u64 l2
  obtain ⟨n, rfl⟩ : ∃ n : Nat, x2 = (n : Int) := ⟨x2.toNat, by omega⟩
  simp at e0 e1 e2 e3 e4
  subst e0 e1 e2 e3 e4
  have hd1' : c1 * 24 ≤ 140737488351232 := hd1
  have hd4' : c4 * 8 ≤ 140737488351232 := hd4
  exact ⟨⟨x0, x1, n, x3, x4⟩, A1, c1, A4, c4, rfl, ⟨⟨hb1, hc1, by omega⟩, ⟨hb4, hc4, by omega⟩, by show n < _; omega, (wf_i64 l3).1, (wf_i64 l3).2⟩⟩
/-- a row of acts -/
theorem opn_acts {fuel : Nat} {v : Value} {d : DataW H} {pl : List MemPlace} (h : DataW.trod enc Try.prog W 0 (fun _ => true) true fuel 52 [v] = some (d, pl)) (hs : SmallW 52 d) :
    ∃ A ls c, v = .slice A (List.length ls) c ∧ Sl AWE W A ls ∧ List.length ls ≤ c ∧ c ≤ 9223372036854775807 := by
  obtain ⟨A, xs, c, e, hb, hc1, hc2⟩ := opn_slW AWE Try.underlying52 Try.ceAct Try.beAct opn_actw h hs
  exact ⟨A, xs, c, by simpa using e, hb, hc1, by have : c * 72 ≤ 140737488351232 := hc2; omega⟩
end
end Go.Proofs.Ytbldfgpnghoigaa
