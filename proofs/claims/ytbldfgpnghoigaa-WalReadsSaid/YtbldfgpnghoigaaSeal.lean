/- bytes.Join without a separator, of any parts. crc.Seal. -/
import Derived.Test.YtbldfgpnghoigaaOwnB
import Derived.Test.YtbldfgpnghoigaaShelfW
import Derived.Test.YtbldfgpnghoigaaCrcB
namespace Go.Proofs.Ytbldfgpnghoigaa
open Go.RowKit

/-- bytes answered, in new blocks -/
def RetBsN (l : List UInt8) (w : World) (en : Ending) (w' : World) : Prop :=
  ∃ A c, en = .returned (.slice A l.length c) ∧ Bs w' A l ∧ At (fun b => w.heap.size ≤ b) A l.length ∧ (l.length ≤ c ∧ c ≤ 9223372036854775807) ∧ Below w.heap.size w w'
theorem getD_bytes {zs : List Int} (hz : ∀ x ∈ zs, 0 ≤ x ∧ x < 256) {l : List UInt8} (n : Nat) (hn : n ≤ zs.length) (h : Lib.bytesOf (zs.take n) = l) {i : Nat} (hi : i < l.length) : zs.getD i 0 = (l[i].toNat : Int) := by
  have hl : l.length = n := by rw [← h, Lib.bytesOf_length, List.length_take]; omega
  have hz2 := hz _ (List.getElem_mem (show i < zs.length by omega))
  have e : l[i] = UInt8.ofNat (zs[i]'(by omega)).toNat := by
    subst h
    simp only [Lib.bytesOf, List.getElem_map, List.getElem_take]
    first | rfl | skip
  rw [List.getD_eq_getElem?_getD, List.getElem?_eq_getElem (show i < zs.length by omega), Option.getD_some, e, UInt8.toNat_ofNat']
  omega
theorem fresh_ret {l : List UInt8} {w w' : World} {v : Value} (h : Lib.FreshBytes w.heap.size w' v l) (hb : Below w.heap.size w w') (hl : l.length ≤ 140737488355328) : RetBsN l w (.returned v) w' := by
  obtain ⟨g, cap, zs, rfl, hg, hc1, hc2, hz1, hz2, hz3, hcell, _⟩ := h
  refine ⟨some ⟨g, 0, none⟩, cap, rfl, ⟨⟨by rw [List.length_map, Nat.mul_one], fun hn => ⟨⟨g, 0, none⟩, rfl, ?_, fun j u hu => ?_⟩⟩, hl⟩, fun ad e _ => by injection e with e; subst e; exact hg, ⟨hc1, by simp only [maxLen] at hc2; omega⟩, hb⟩
  · exact World.block_lt_of_cell? _ _ (hcell 0 (by omega))
  · rw [add_row]
    have hj : j < l.length := by have := (List.getElem?_eq_some_iff.1 hu).1; rwa [List.length_map] at this
    rw [hcell j (by omega), getD_bytes hz2 l.length (by omega) hz3 hj]
    rw [List.getElem?_map, List.getElem?_eq_getElem hj] at hu
    exact hu
theorem bs_holds {w : World} {A : Option Addr} {l : List UInt8} {c : Nat} (h : Bs w A l) : Lib.HoldsBytes w (.slice A l.length c) l := by
  refine ⟨A, c, rfl, fun e => ?_, fun a e i x hx => ?_⟩
  · subst e
    cases l with
    | nil => rfl
    | cons x r =>
      obtain ⟨ad, e, _⟩ := h.at_ (k := 0) (by simp)
      cases e
  · have hi : i < l.length := (List.getElem?_eq_some_iff.1 hx).1
    obtain ⟨ad, e2, _, hc⟩ := h.at_ hi
    rw [e] at e2
    injection e2 with e2
    subst e2
    rw [List.getElem?_eq_getElem hi] at hx
    injection hx with hx
    rw [← hx]
    exact hc
theorem join_nosep (ps : List (List UInt8)) : Lib.join ps [] = ps.flatten := by
  cases ps with
  | nil => rfl
  | cons x r =>
    rw [Lib.join_cons]
    simp [Lib.joinTail]
theorem lens_flat (ps : List (List UInt8)) : Lib.lens ps = ps.flatten.length := by
  unfold Lib.lens
  rw [List.length_flatten]
theorem join_any (b o : Nat) (ps : List (List UInt8)) (c : Nat) (w : World) (h : Sl BsE w (some ⟨b, o, none⟩) ps) (hc : ps.length ≤ c) (hb : ps.flatten.length ≤ 140737488355328) :
    Calls Try.prog 41 #[.slice (some ⟨b, o, none⟩) ps.length c, .slice none 0 0] w (RetBsN ps.flatten w) := by
  match ps, h, hc, hb with
  | [], h, hc, hb =>
    refine (Try.bytes_Join_none (some ⟨b, o, none⟩) c (.slice none 0 0) w).mono ?_
    rintro en w' ⟨rfl, rfl⟩
    exact ⟨_, _, rfl, Bs.nil_ _ _, (fun _ _ h => absurd h (by simp)), ⟨Nat.le_refl _, by decide⟩, (Below.refl _ _).alloc (Nat.le_refl _) _⟩
  | [l0], h, hc, hb =>
    obtain ⟨ad, D, dc, e, _, hcell, hD, _, hd1, hd2⟩ := BsE.at_ h (k := 0) (by simp)
    injection e with e
    subst e
    have hcell : w.cell? ⟨b, o, none⟩ = some (.slice D l0.length dc) := by
      have e : (⟨b, o, none⟩ : Addr).add 0 = ⟨b, o, none⟩ := by unfold Addr.add; simp
      rw [e] at hcell
      exact hcell
    cases hl : l0 with
    | nil =>
      subst hl
      refine (Try.bytes_Join_one_empty b o c D dc (.slice none 0 0) w hcell).mono ?_
      rintro en w' ⟨rfl, rfl⟩
      exact ⟨_, _, rfl, Bs.nil_ _ _, (fun _ _ h => absurd h (by simp)), ⟨Nat.le_refl _, by decide⟩, Below.refl _ _⟩
    | cons x r =>
      rw [← hl]
      have hpos : 0 < l0.length := by rw [hl]; simp
      obtain ⟨a0, rfl, _, _⟩ := hD.at_ (k := 0) hpos
      have hH := bs_holds (c := dc) hD
      obtain ⟨p, cap, e, _, hx⟩ := hH
      injection e with e1 e2 e3
      subst e1
      have hle : l0.length ≤ 140737488355328 := hD.le
      refine (Try.bytes_Join_one b o c a0 dc l0 (.slice none 0 0) w hcell (fun i x hi => hx a0 rfl i x hi) hpos hle).mono ?_
      rintro en w' ⟨v', rfl, hf, hbel⟩
      have := fresh_ret hf hbel hle
      rw [List.flatten_cons, List.flatten_nil, List.append_nil]
      exact this
  | l0 :: l1 :: r, h, hc, hb =>
    have hle := h.le
    have hL : (l0 :: l1 :: r).length ≤ 140737488351232 := hle
    generalize hps : l0 :: l1 :: r = ps at *
    have h2 : 2 ≤ ps.length := by rw [← hps]; simp
    obtain ⟨_, us, hr, _, hf⟩ := h
    obtain ⟨ad, e, _, hcells⟩ := hr.2 (by omega)
    injection e with e
    subst e
    have hlen : us.length = ps.length := by have := hr.1; rwa [show ps.length * BsE.size = ps.length from Nat.mul_one _] at this
    have hP : Lib.PartsAt w ⟨b, o, none⟩ us ps := by
      refine ⟨hlen, hcells, fun i v l hv hl => ?_⟩
      have hi : i < ps.length := (List.getElem?_eq_some_iff.1 hl).1
      obtain ⟨v', ⟨D, dc, rfl, hD, _⟩, h3⟩ := ER.flat_at hf hi
      have h4 := h3 0 _ rfl
      rw [show i * BsE.size + 0 = i from Nat.mul_one i, hv] at h4
      injection h4 with h4
      rw [List.getElem?_eq_getElem hi] at hl
      injection hl with hl
      rw [h4, ← hl]
      exact bs_holds hD
    have hS : Lib.HoldsBytes w (.slice none 0 0) [] := ⟨none, 0, rfl, fun _ => rfl, fun a e => by cases e⟩
    refine (Try.bytes_Join_many b o ps.length c us ps (.slice none 0 0) [] w rfl h2 hP hc hS (by omega) (by rw [lens_flat]; simp only [List.length_nil, Nat.zero_mul, Nat.add_zero]; exact hb)).mono ?_
    rintro en w' ⟨v', rfl, hfr, hbel⟩
    rw [join_nosep] at hfr
    exact fresh_ret hfr hbel hb
end Go.Proofs.Ytbldfgpnghoigaa

namespace Go.Proofs.Ytbldfgpnghoigaa
open Go.RowKit

theorem R3.flat {w : World} {S : Nat → Prop} : ∀ (rs : List R3), (∀ r ∈ rs, Bs w r.1 r.2.1 ∧ At S r.1 r.2.1.length ∧ r.2.1.length ≤ r.2.2 ∧ r.2.2 ≤ 9223372036854775807) → BsE.flat w S (rs.map R3.v) (rs.map (·.2.1))
  | [], _ => rfl
  | r :: rs, h => ⟨[R3.v r], rs.map R3.v, rfl, ⟨r.1, r.2.2, rfl, h r (by simp)⟩, R3.flat rs (fun x hx => h x (by simp [hx]))⟩
/-- a literal row of bytes -/
theorem lit_sl (w : World) (rs : List R3) (t : TypeId) (S : Nat → Prop) (h : ∀ r ∈ rs, Bs w r.1 r.2.1 ∧ At S r.1 r.2.1.length ∧ r.2.1.length ≤ r.2.2 ∧ r.2.2 ≤ 9223372036854775807) (hS : S w.heap.size) (hl : rs.length ≤ 1048576) :
    SlS BsE (w.alloc (.cells (rs.map R3.v).toArray t)) S (some ⟨w.heap.size, 0, none⟩) (rs.map (·.2.1)) := by
  have hb : Below w.heap.size w (w.alloc (.cells (rs.map R3.v).toArray t)) := (Below.refl _ _).alloc (Nat.le_refl _) _
  have hr := Reads.newK w (rs.map R3.v) t
  rw [List.length_map] at hr
  have hf := ER.flat_keep hb (R3.flat rs h)
  refine ⟨by rw [List.length_map]; simp only [BsE]; omega, rs.map R3.v, ?_, ?_, hf⟩
  · rw [List.length_map]
    exact hr.more (by simp)
  · intro ad e _
    injection e with e
    subst e
    exact hS
/-- what Seal answers -/
def RetSeal (l : List UInt8) (w : World) (en : Ending) (w' : World) : Prop :=
  Below w.heap.size w w' ∧ if 1048576 < l.length then en = .returned (.tuple #[.slice none 0 0, .int .i64 2]) else
      ∃ A c', en = .returned (.tuple #[.slice A (sealL sumN l).length c', .int .i64 0]) ∧ Bs w' A (sealL sumN l) ∧ At (fun b => w.heap.size ≤ b) A (sealL sumN l).length ∧ ((sealL sumN l).length ≤ c' ∧ c' ≤ 9223372036854775807)
set_option maxRecDepth 100000 in
set_option maxHeartbeats 2000000 in
theorem seal_any (b o : Nat) (ps : List (List UInt8)) (c : Nat) (w : World) (h : Sl BsE w (some ⟨b, o, none⟩) ps) (hc : ps.length ≤ c) (hb : ps.flatten.length ≤ 140737488355328) :
    Calls Try.prog 38 #[.slice (some ⟨b, o, none⟩) ps.length c] w (RetSeal ps.flatten w) := by
  have T := join_any b o ps c w h hc hb
  generalize ps.flatten = l at *
  go_enter Try.func38, Try.ntmps38
  go_wp2_with fail
  refine T.mono ?_
  clear T
  rintro en w1 ⟨A1, c1, rfl, h1, a1, ⟨hc1, hc2⟩, b1⟩
  by_cases hbig : 1048576 < l.length
  · have hbi : (1048576 : Int) < (l.length : Int) := by omega
    go_wp2_with fail
    go_ret2
    refine ⟨b1, ?_⟩
    rw [if_pos hbig]
    rfl
  · have hbi : ¬ (1048576 : Int) < (l.length : Int) := by omega
    have vw : IntKind.u32.wrap (l.length : Int) = (l.length : Int) := by simp [IntKind.wrap, IntKind.bits, IntKind.signed]; omega
    have T := cput_any l.length (by omega) w1
    go_wp2_with fail
    refine T.mono ?_
    clear T
    rintro en w2 ⟨c2, rfl, o2, b2⟩
    have h2 := h1.below b2
    have hp2 : Bs w2 (some ⟨w1.heap.size, 0, none⟩) (put32 l.length) := OwnB.bs o2 (by rw [put32_len]; decide)
    have b12 := below_step' b1 b2
    have hcp := OwnB.caps o2
    clear h1 vw
    have rr : ∀ r ∈ ([(some ⟨w1.heap.size, 0, none⟩, put32 l.length, c2), (A1, l, c1)] : List R3), Bs w2 r.1 r.2.1 ∧ At Any r.1 r.2.1.length ∧ r.2.1.length ≤ r.2.2 ∧ r.2.2 ≤ 9223372036854775807 := by
      intro r hr
      simp only [List.mem_cons, List.not_mem_nil, or_false] at hr
      rcases hr with rfl | rfl
      · exact ⟨hp2, At.any _ _, hcp⟩
      · exact ⟨h2, At.any _ _, hc1, hc2⟩
    have hl3 : Sl BsE (w2.alloc (.cells #[.slice (some ⟨w1.heap.size, 0, none⟩) 4 c2, .slice A1 l.length c1] 40)) (some ⟨w2.heap.size, 0, none⟩) [put32 l.length, l] := lit_sl w2 _ 40 Any rr trivial (by simp)
    have b3 : Below w2.heap.size w2 (w2.alloc (.cells #[.slice (some ⟨w1.heap.size, 0, none⟩) 4 c2, .slice A1 l.length c1] 40)) := (Below.refl _ _).alloc (Nat.le_refl _) _
    have hp3 := hp2.below b3
    have h3 := h2.below b3
    have b13 := below_step' b12 b3
    have T := sum_any (some ⟨w2.heap.size, 0, none⟩) [put32 l.length, l] 2 _ hl3
    rw [show ([put32 l.length, l] : List (List UInt8)).flatten = put32 l.length ++ l by simp] at T
    clear h2 hp2 b12 rr b2 o2 hl3 b3
    go_wp2_with fail
    refine T.mono ?_
    clear T
    generalize (w2.alloc (.cells #[.slice (some ⟨w1.heap.size, 0, none⟩) 4 c2, .slice A1 l.length c1] 40)) = w3 at *
    rintro en w4 ⟨rfl, b4⟩
    have hp4 := hp3.below b4
    have h4 := h3.below b4
    have b14 := below_step' b13 b4
    obtain ⟨sn, hsn⟩ : ∃ sn, sn = sumN (put32 l.length ++ l) := ⟨_, rfl⟩
    have HSN := Lib.hid hsn
    rw [← hsn]
    have T := cput_any sn (by rw [hsn]; exact sumN_lt _) w4
    clear hp3 h3 b13 b4 hsn
    go_wp2_with fail
    refine T.mono ?_
    clear T
    rintro en w5 ⟨c5, rfl, o5, b5⟩
    have hp5 := hp4.below b5
    have h5 := h4.below b5
    have hq5 : Bs w5 (some ⟨w4.heap.size, 0, none⟩) (put32 sn) := OwnB.bs o5 (by rw [put32_len]; decide)
    have hcq := OwnB.caps o5
    have b15 := below_step' b14 b5
    have rr : ∀ r ∈ ([(some ⟨w1.heap.size, 0, none⟩, put32 l.length, c2), (some ⟨w4.heap.size, 0, none⟩, put32 sn, c5), (A1, l, c1)] : List R3), Bs w5 r.1 r.2.1 ∧ At Any r.1 r.2.1.length ∧ r.2.1.length ≤ r.2.2 ∧ r.2.2 ≤ 9223372036854775807 := by
      intro r hr
      simp only [List.mem_cons, List.not_mem_nil, or_false] at hr
      rcases hr with rfl | rfl | rfl
      · exact ⟨hp5, At.any _ _, hcp⟩
      · exact ⟨hq5, At.any _ _, hcq⟩
      · exact ⟨h5, At.any _ _, hc1, hc2⟩
    have hl6 : Sl BsE (w5.alloc (.cells #[.slice (some ⟨w1.heap.size, 0, none⟩) 4 c2, .slice (some ⟨w4.heap.size, 0, none⟩) 4 c5, .slice A1 l.length c1] 40)) (some ⟨w5.heap.size, 0, none⟩) [put32 l.length, put32 sn, l] := lit_sl w5 _ 40 Any rr trivial (by simp)
    have b6 : Below w5.heap.size w5 (w5.alloc (.cells #[.slice (some ⟨w1.heap.size, 0, none⟩) 4 c2, .slice (some ⟨w4.heap.size, 0, none⟩) 4 c5, .slice A1 l.length c1] 40)) := (Below.refl _ _).alloc (Nat.le_refl _) _
    have b16 := below_step' b15 b6
    have T := join_any w5.heap.size 0 [put32 l.length, put32 sn, l] 3 _ hl6 (Nat.le_refl _) (by simp only [List.flatten_cons, List.flatten_nil, List.length_append, put32_len, List.length_nil]; omega)
    have HE : Hid (([put32 l.length, put32 sn, l] : List (List UInt8)).flatten = sealL sumN l) := by
      show _ = _
      rw [HSN.out]
      simp [sealL]
    rw [HE.out] at T
    clear rr hl6 hp4 h4 hp5 h5 hq5 o5 b5 b14 b15 b6 hcp hcq
    go_wp2_with fail
    refine T.mono ?_
    clear T
    rintro en w7 ⟨A7, c7, rfl, h7, a7, k7, b7⟩
    have b17 := below_step' b16 b7
    have z16 := b16.size
    go_wp2_with fail
    go_ret2
    refine ⟨b17, ?_⟩
    rw [if_neg hbig]
    exact ⟨A7, c7, rfl, h7, a7.mono' (fun b h => Nat.le_trans z16 h), k7⟩
end Go.Proofs.Ytbldfgpnghoigaa
