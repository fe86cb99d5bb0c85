/- crc.Seal. -/
import Derived.Test.YtbldfgpnghoigaaJoin
import Derived.Test.YtbldfgpnghoigaaCrcB
namespace Go.Proofs.Ytbldfgpnghoigaa
open Go.RowKit

theorem R3.flat {w : World} {S : Nat → Prop} : ∀ (rs : List R3), (∀ r ∈ rs, Bs w r.1 r.2.1 ∧ At S r.1 r.2.1.length ∧ r.2.1.length ≤ r.2.2 ∧ r.2.2 ≤ 9223372036854775807) → BsE.flat w S (rs.map R3.v) (rs.map (·.2.1))
  | [], _ => rfl
  | r :: rs, h => ⟨[R3.v r], rs.map R3.v, rfl, ⟨r.1, r.2.2, rfl, h r (by simp)⟩, R3.flat rs (fun x hx => h x (by simp [hx]))⟩
/-- a literal row of bytes -/
theorem lit_sl (w : World) (rs : List R3) (t : TypeId) (S : Nat → Prop) (h : ∀ r ∈ rs, Bs w r.1 r.2.1 ∧ At S r.1 r.2.1.length ∧ r.2.1.length ≤ r.2.2 ∧ r.2.2 ≤ 9223372036854775807) (hS : S w.heap.size) (hl : rs.length ≤ 1048576) :
    SlS BsE (w.alloc (.cells (rs.map R3.v).toArray t)) S (some ⟨w.heap.size, 0, none⟩) (rs.map (·.2.1)) := by
  have hb : Below w.heap.size w (w.alloc (.cells (rs.map R3.v).toArray t)) := (Below.refl _ _).alloc (Nat.le_refl _) _
  have hr := Reads.newK w (rs.map R3.v) t
  rw [List.length_map] at hr
  have hf := ER.flat_keep hb (R3.flat rs h)
  refine ⟨by rw [List.length_map]; simp only [BsE]; omega, rs.map R3.v, ?_, ?_, hf⟩
  · rw [List.length_map]
    exact hr.more (by simp)
  · intro ad e _
    injection e with e
    subst e
    exact hS
/-- what Seal answers -/
def RetSeal (l : List UInt8) (w : World) (en : Ending) (w' : World) : Prop :=
  Below w.heap.size w w' ∧ if 1048576 < l.length then en = .returned (.tuple #[.slice none 0 0, .int .i64 2]) else
      ∃ A c', en = .returned (.tuple #[.slice A (sealL sumN l).length c', .int .i64 0]) ∧ Bs w' A (sealL sumN l) ∧ At (fun b => w.heap.size ≤ b) A (sealL sumN l).length ∧ ((sealL sumN l).length ≤ c' ∧ c' ≤ 9223372036854775807)
set_option maxRecDepth 100000 in
set_option maxHeartbeats 2000000 in
theorem seal_any (b o : Nat) (ps : List (List UInt8)) (c : Nat) (w : World) (h : Sl BsE w (some ⟨b, o, none⟩) ps) (hc : ps.length ≤ c) (hb : ps.flatten.length ≤ 140737488355328) :
    Calls Try.prog 38 #[.slice (some ⟨b, o, none⟩) ps.length c] w (RetSeal ps.flatten w) := by
  have T := join_any b o ps c w h hc hb
  generalize ps.flatten = l at *
  go_enter Try.func38, Try.ntmps38
  go_wp2_with fail
  refine T.mono ?_
  clear T
  rintro en w1 ⟨A1, c1, rfl, h1, a1, ⟨hc1, hc2⟩, b1⟩
  by_cases hbig : 1048576 < l.length
  · have hbi : (1048576 : Int) < (l.length : Int) := by omega
    go_wp2_with fail
    go_ret2
    refine ⟨b1, ?_⟩
    rw [if_pos hbig]
    rfl
  · have hbi : ¬ (1048576 : Int) < (l.length : Int) := by omega
    have vw : IntKind.u32.wrap (l.length : Int) = (l.length : Int) := by simp [IntKind.wrap, IntKind.bits, IntKind.signed]; omega
    have T := cput_any l.length (by omega) w1
    go_wp2_with fail
    refine T.mono ?_
    clear T
    rintro en w2 ⟨c2, rfl, o2, b2⟩
    have h2 := h1.below b2
    have hp2 : Bs w2 (some ⟨w1.heap.size, 0, none⟩) (put32 l.length) := OwnB.bs o2 (by rw [put32_len]; decide)
    have b12 := below_step' b1 b2
    have hcp := OwnB.caps o2
    clear h1 vw
    have rr : ∀ r ∈ ([(some ⟨w1.heap.size, 0, none⟩, put32 l.length, c2), (A1, l, c1)] : List R3), Bs w2 r.1 r.2.1 ∧ At Any r.1 r.2.1.length ∧ r.2.1.length ≤ r.2.2 ∧ r.2.2 ≤ 9223372036854775807 := by
      intro r hr
      simp only [List.mem_cons, List.not_mem_nil, or_false] at hr
      rcases hr with rfl | rfl
      · exact ⟨hp2, At.any _ _, hcp⟩
      · exact ⟨h2, At.any _ _, hc1, hc2⟩
    have hl3 : Sl BsE (w2.alloc (.cells #[.slice (some ⟨w1.heap.size, 0, none⟩) 4 c2, .slice A1 l.length c1] 40)) (some ⟨w2.heap.size, 0, none⟩) [put32 l.length, l] := lit_sl w2 _ 40 Any rr trivial (by simp)
    have b3 : Below w2.heap.size w2 (w2.alloc (.cells #[.slice (some ⟨w1.heap.size, 0, none⟩) 4 c2, .slice A1 l.length c1] 40)) := (Below.refl _ _).alloc (Nat.le_refl _) _
    have hp3 := hp2.below b3
    have h3 := h2.below b3
    have b13 := below_step' b12 b3
    have T := sum_any (some ⟨w2.heap.size, 0, none⟩) [put32 l.length, l] 2 _ hl3
    rw [show ([put32 l.length, l] : List (List UInt8)).flatten = put32 l.length ++ l by simp] at T
    clear h2 hp2 b12 rr b2 o2 hl3 b3
    go_wp2_with fail
    refine T.mono ?_
    clear T
    generalize (w2.alloc (.cells #[.slice (some ⟨w1.heap.size, 0, none⟩) 4 c2, .slice A1 l.length c1] 40)) = w3 at *
    rintro en w4 ⟨rfl, b4⟩
    have hp4 := hp3.below b4
    have h4 := h3.below b4
    have b14 := below_step' b13 b4
    obtain ⟨sn, hsn⟩ : ∃ sn, sn = sumN (put32 l.length ++ l) := ⟨_, rfl⟩
    have HSN := Lib.hid hsn
    rw [← hsn]
    have T := cput_any sn (by rw [hsn]; exact sumN_lt _) w4
    clear hp3 h3 b13 b4 hsn
    go_wp2_with fail
    refine T.mono ?_
    clear T
    rintro en w5 ⟨c5, rfl, o5, b5⟩
    have hp5 := hp4.below b5
    have h5 := h4.below b5
    have hq5 : Bs w5 (some ⟨w4.heap.size, 0, none⟩) (put32 sn) := OwnB.bs o5 (by rw [put32_len]; decide)
    have hcq := OwnB.caps o5
    have b15 := below_step' b14 b5
    have rr : ∀ r ∈ ([(some ⟨w1.heap.size, 0, none⟩, put32 l.length, c2), (some ⟨w4.heap.size, 0, none⟩, put32 sn, c5), (A1, l, c1)] : List R3), Bs w5 r.1 r.2.1 ∧ At Any r.1 r.2.1.length ∧ r.2.1.length ≤ r.2.2 ∧ r.2.2 ≤ 9223372036854775807 := by
      intro r hr
      simp only [List.mem_cons, List.not_mem_nil, or_false] at hr
      rcases hr with rfl | rfl | rfl
      · exact ⟨hp5, At.any _ _, hcp⟩
      · exact ⟨hq5, At.any _ _, hcq⟩
      · exact ⟨h5, At.any _ _, hc1, hc2⟩
    have hl6 : Sl BsE (w5.alloc (.cells #[.slice (some ⟨w1.heap.size, 0, none⟩) 4 c2, .slice (some ⟨w4.heap.size, 0, none⟩) 4 c5, .slice A1 l.length c1] 40)) (some ⟨w5.heap.size, 0, none⟩) [put32 l.length, put32 sn, l] := lit_sl w5 _ 40 Any rr trivial (by simp)
    have b6 : Below w5.heap.size w5 (w5.alloc (.cells #[.slice (some ⟨w1.heap.size, 0, none⟩) 4 c2, .slice (some ⟨w4.heap.size, 0, none⟩) 4 c5, .slice A1 l.length c1] 40)) := (Below.refl _ _).alloc (Nat.le_refl _) _
    have b16 := below_step' b15 b6
    have T := join_any w5.heap.size 0 [put32 l.length, put32 sn, l] 3 _ hl6 (Nat.le_refl _) (by simp only [List.flatten_cons, List.flatten_nil, List.length_append, put32_len, List.length_nil]; omega)
    have HE : Hid (([put32 l.length, put32 sn, l] : List (List UInt8)).flatten = sealL sumN l) := by
      show _ = _
      rw [HSN.out]
      simp [sealL]
    rw [HE.out] at T
    clear rr hl6 hp4 h4 hp5 h5 hq5 o5 b5 b14 b15 b6 hcp hcq
    go_wp2_with fail
    refine T.mono ?_
    clear T
    rintro en w7 ⟨A7, c7, rfl, h7, a7, k7, b7⟩
    have b17 := below_step' b16 b7
    have z16 := b16.size
    go_wp2_with fail
    go_ret2
    refine ⟨b17, ?_⟩
    rw [if_neg hbig]
    exact ⟨A7, c7, rfl, h7, a7.mono' (fun b h => Nat.le_trans z16 h), k7⟩
end Go.Proofs.Ytbldfgpnghoigaa
