/- bytes.Join without a separator, of any parts. -/
import Derived.Test.YtbldfgpnghoigaaOwnB
import Derived.Test.YtbldfgpnghoigaaShelfW
namespace Go.Proofs.Ytbldfgpnghoigaa
open Go.RowKit

/-- bytes answered, in new blocks -/
def RetBsN (l : List UInt8) (w : World) (en : Ending) (w' : World) : Prop :=
  ∃ A c, en = .returned (.slice A l.length c) ∧ Bs w' A l ∧ At (fun b => w.heap.size ≤ b) A l.length ∧ (l.length ≤ c ∧ c ≤ 9223372036854775807) ∧ Below w.heap.size w w'
theorem getD_bytes {zs : List Int} (hz : ∀ x ∈ zs, 0 ≤ x ∧ x < 256) {l : List UInt8} (n : Nat) (hn : n ≤ zs.length) (h : Lib.bytesOf (zs.take n) = l) {i : Nat} (hi : i < l.length) : zs.getD i 0 = (l[i].toNat : Int) := by
  have hl : l.length = n := by rw [← h, Lib.bytesOf_length, List.length_take]; omega
  have hz2 := hz _ (List.getElem_mem (show i < zs.length by omega))
  have e : l[i] = UInt8.ofNat (zs[i]'(by omega)).toNat := by
    subst h
    simp only [Lib.bytesOf, List.getElem_map, List.getElem_take]
    first | rfl | skip
  rw [List.getD_eq_getElem?_getD, List.getElem?_eq_getElem (show i < zs.length by omega), Option.getD_some, e, UInt8.toNat_ofNat']
  omega
theorem fresh_ret {l : List UInt8} {w w' : World} {v : Value} (h : Lib.FreshBytes w.heap.size w' v l) (hb : Below w.heap.size w w') (hl : l.length ≤ 140737488355328) : RetBsN l w (.returned v) w' := by
  obtain ⟨g, cap, zs, rfl, hg, hc1, hc2, hz1, hz2, hz3, hcell, _⟩ := h
  refine ⟨some ⟨g, 0, none⟩, cap, rfl, ⟨⟨by rw [List.length_map, Nat.mul_one], fun hn => ⟨⟨g, 0, none⟩, rfl, ?_, fun j u hu => ?_⟩⟩, hl⟩, fun ad e _ => by injection e with e; subst e; exact hg, ⟨hc1, by simp only [maxLen] at hc2; omega⟩, hb⟩
  · exact World.block_lt_of_cell? _ _ (hcell 0 (by omega))
  · rw [add_row]
    have hj : j < l.length := by have := (List.getElem?_eq_some_iff.1 hu).1; rwa [List.length_map] at this
    rw [hcell j (by omega), getD_bytes hz2 l.length (by omega) hz3 hj]
    rw [List.getElem?_map, List.getElem?_eq_getElem hj] at hu
    exact hu
theorem bs_holds {w : World} {A : Option Addr} {l : List UInt8} {c : Nat} (h : Bs w A l) : Lib.HoldsBytes w (.slice A l.length c) l := by
  refine ⟨A, c, rfl, fun e => ?_, fun a e i x hx => ?_⟩
  · subst e
    cases l with
    | nil => rfl
    | cons x r =>
      obtain ⟨ad, e, _⟩ := h.at_ (k := 0) (by simp)
      cases e
  · have hi : i < l.length := (List.getElem?_eq_some_iff.1 hx).1
    obtain ⟨ad, e2, _, hc⟩ := h.at_ hi
    rw [e] at e2
    injection e2 with e2
    subst e2
    rw [List.getElem?_eq_getElem hi] at hx
    injection hx with hx
    rw [← hx]
    exact hc
theorem join_nosep (ps : List (List UInt8)) : Lib.join ps [] = ps.flatten := by
  cases ps with
  | nil => rfl
  | cons x r =>
    rw [Lib.join_cons]
    simp [Lib.joinTail]
theorem lens_flat (ps : List (List UInt8)) : Lib.lens ps = ps.flatten.length := by
  unfold Lib.lens
  rw [List.length_flatten]
theorem join_any (b o : Nat) (ps : List (List UInt8)) (c : Nat) (w : World) (h : Sl BsE w (some ⟨b, o, none⟩) ps) (hc : ps.length ≤ c) (hb : ps.flatten.length ≤ 140737488355328) :
    Calls Try.prog 41 #[.slice (some ⟨b, o, none⟩) ps.length c, .slice none 0 0] w (RetBsN ps.flatten w) := by
  match ps, h, hc, hb with
  | [], h, hc, hb =>
    refine (Try.bytes_Join_none (some ⟨b, o, none⟩) c (.slice none 0 0) w).mono ?_
    rintro en w' ⟨rfl, rfl⟩
    exact ⟨_, _, rfl, Bs.nil_ _ _, (fun _ _ h => absurd h (by simp)), ⟨Nat.le_refl _, by decide⟩, (Below.refl _ _).alloc (Nat.le_refl _) _⟩
  | [l0], h, hc, hb =>
    obtain ⟨ad, D, dc, e, _, hcell, hD, _, hd1, hd2⟩ := BsE.at_ h (k := 0) (by simp)
    injection e with e
    subst e
    have hcell : w.cell? ⟨b, o, none⟩ = some (.slice D l0.length dc) := by
      have e : (⟨b, o, none⟩ : Addr).add 0 = ⟨b, o, none⟩ := by unfold Addr.add; simp
      rw [e] at hcell
      exact hcell
    cases hl : l0 with
    | nil =>
      subst hl
      refine (Try.bytes_Join_one_empty b o c D dc (.slice none 0 0) w hcell).mono ?_
      rintro en w' ⟨rfl, rfl⟩
      exact ⟨_, _, rfl, Bs.nil_ _ _, (fun _ _ h => absurd h (by simp)), ⟨Nat.le_refl _, by decide⟩, Below.refl _ _⟩
    | cons x r =>
      rw [← hl]
      have hpos : 0 < l0.length := by rw [hl]; simp
      obtain ⟨a0, rfl, _, _⟩ := hD.at_ (k := 0) hpos
      have hH := bs_holds (c := dc) hD
      obtain ⟨p, cap, e, _, hx⟩ := hH
      injection e with e1 e2 e3
      subst e1
      have hle : l0.length ≤ 140737488355328 := hD.le
      refine (Try.bytes_Join_one b o c a0 dc l0 (.slice none 0 0) w hcell (fun i x hi => hx a0 rfl i x hi) hpos hle).mono ?_
      rintro en w' ⟨v', rfl, hf, hbel⟩
      have := fresh_ret hf hbel hle
      rw [List.flatten_cons, List.flatten_nil, List.append_nil]
      exact this
  | l0 :: l1 :: r, h, hc, hb =>
    have hle := h.le
    have hL : (l0 :: l1 :: r).length ≤ 140737488351232 := hle
    generalize hps : l0 :: l1 :: r = ps at *
    have h2 : 2 ≤ ps.length := by rw [← hps]; simp
    obtain ⟨_, us, hr, _, hf⟩ := h
    obtain ⟨ad, e, _, hcells⟩ := hr.2 (by omega)
    injection e with e
    subst e
    have hlen : us.length = ps.length := by have := hr.1; rwa [show ps.length * BsE.size = ps.length from Nat.mul_one _] at this
    have hP : Lib.PartsAt w ⟨b, o, none⟩ us ps := by
      refine ⟨hlen, hcells, fun i v l hv hl => ?_⟩
      have hi : i < ps.length := (List.getElem?_eq_some_iff.1 hl).1
      obtain ⟨v', ⟨D, dc, rfl, hD, _⟩, h3⟩ := ER.flat_at hf hi
      have h4 := h3 0 _ rfl
      rw [show i * BsE.size + 0 = i from Nat.mul_one i, hv] at h4
      injection h4 with h4
      rw [List.getElem?_eq_getElem hi] at hl
      injection hl with hl
      rw [h4, ← hl]
      exact bs_holds hD
    have hS : Lib.HoldsBytes w (.slice none 0 0) [] := ⟨none, 0, rfl, fun _ => rfl, fun a e => by cases e⟩
    refine (Try.bytes_Join_many b o ps.length c us ps (.slice none 0 0) [] w rfl h2 hP hc hS (by omega) (by rw [lens_flat]; simp only [List.length_nil, Nat.zero_mul, Nat.add_zero]; exact hb)).mono ?_
    rintro en w' ⟨v', rfl, hfr, hbel⟩
    rw [join_nosep] at hfr
    exact fresh_ret hfr hbel hb
end Go.Proofs.Ytbldfgpnghoigaa
