/- Texts with an end out of bytes, both sides: codec.GetOrdText, caissonref01.GetOrdText. -/
import Derived.Test.YtmgibpedclngpaaManP
namespace Go.Proofs.Ytmgibpedclngpaa
open Go.RowKit

theorem getT_err : ∀ {l : List UInt8}, (getT l).2.2 ≠ 0 → getT l = ([], 0, (getT l).2.2)
  | [], _ => rfl
  | [x], h => by
    by_cases hx : x ≠ 0
    · rw [getT_ne hx]; rfl
    · have hx0 : x = 0 := Classical.byContradiction hx
      subst hx0; rfl
  | x :: y :: l, h => by
    by_cases hx : x ≠ 0
    · rw [getT_ne hx] at h ⊢
      cases hg : getT (y :: l) with
      | mk t q =>
        obtain ⟨k, e⟩ := q
        rw [hg] at h
        dsimp only at h ⊢
        by_cases he : e = 0
        · rw [if_pos he] at h; exact absurd rfl h
        · rw [if_neg he]
    · have hx0 : x = 0 := Classical.byContradiction hx
      subst hx0
      unfold getT at h ⊢
      rw [if_neg (by decide)] at h ⊢
      dsimp only at h ⊢
      by_cases h1 : y = 1
      · rw [if_pos h1] at h; exact absurd rfl h
      · rw [if_neg h1] at h ⊢
        by_cases h2 : y ≠ 255
        · rw [if_pos h2]
        · rw [if_neg h2] at h ⊢
          cases hg : getT l with
          | mk t q =>
            obtain ⟨k, e⟩ := q
            rw [hg] at h
            dsimp only at h ⊢
            by_cases he : e = 0
            · rw [if_pos he] at h; exact absurd rfl h
            · rw [if_neg he]
/-- what is got with acc and k places ahead of it -/
def joinT (acc : List UInt8) (k : Nat) (r : List UInt8 × Nat × Int) : List UInt8 × Nat × Int := if r.2.2 = 0 then (acc ++ r.1, k + r.2.1, 0) else ([], 0, r.2.2)
theorem joinT_start (l : List UInt8) : joinT [] 0 (getT l) = getT l := by
  unfold joinT
  by_cases h : (getT l).2.2 = 0
  · rw [if_pos h]
    cases hg : getT l with
    | mk t q =>
      obtain ⟨k, e⟩ := q
      rw [hg] at h
      have h0 : e = 0 := h
      subst h0
      show ([] ++ t, 0 + k, (0 : Int)) = _
      rw [List.nil_append, Nat.zero_add]
  · rw [if_neg h, ← getT_err h]
theorem joinT_ne {x : UInt8} (h : x ≠ 0) (acc : List UInt8) (k : Nat) (l : List UInt8) : joinT acc k (getT (x :: l)) = joinT (acc ++ [x]) (k + 1) (getT l) := by
  rw [getT_ne h]
  cases hg : getT l with
  | mk t q =>
    obtain ⟨k1, e⟩ := q
    dsimp only
    by_cases he : e = 0
    · subst he
      rw [if_pos rfl]
      show (acc ++ x :: t, k + (k1 + 1), (0 : Int)) = ((acc ++ [x]) ++ t, k + 1 + k1, 0)
      rw [List.append_assoc, show k + (k1 + 1) = k + 1 + k1 by omega]; rfl
    · rw [if_neg he]
      show (if e = 0 then _ else ([], 0, e)) = (if e = 0 then _ else ([], 0, e))
      rw [if_neg he, if_neg he]
theorem joinT_esc (acc : List UInt8) (k : Nat) (l : List UInt8) : joinT acc k (getT (0 :: 255 :: l)) = joinT (acc ++ [0]) (k + 2) (getT l) := by
  have e : getT (0 :: 255 :: l) = (match getT l with | (t, k, e) => if e = 0 then (0 :: t, k + 2, 0) else ([], 0, e)) := by
    conv => lhs; unfold getT
    rw [if_neg (by decide)]
    dsimp only
    rw [if_neg (by decide), if_neg (by decide)]
  rw [e]
  cases hg : getT l with
  | mk t q =>
    obtain ⟨k1, e⟩ := q
    dsimp only
    by_cases he : e = 0
    · subst he
      rw [if_pos rfl]
      show (acc ++ 0 :: t, k + (k1 + 2), (0 : Int)) = ((acc ++ [0]) ++ t, k + 2 + k1, 0)
      rw [List.append_assoc, show k + (k1 + 2) = k + 2 + k1 by omega]; rfl
    · rw [if_neg he]
      show (if e = 0 then _ else ([], 0, e)) = (if e = 0 then _ else ([], 0, e))
      rw [if_neg he, if_neg he]
theorem joinT_end (acc : List UInt8) (k : Nat) (l : List UInt8) : joinT acc k (getT (0 :: 1 :: l)) = (acc, k + 2, 0) := by
  show (acc ++ [], k + 2, (0 : Int)) = _
  rw [List.append_nil]
theorem joinT_form {y : UInt8} (h1 : y ≠ 1) (h2 : y ≠ 255) (acc : List UInt8) (k : Nat) (l : List UInt8) : joinT acc k (getT (0 :: y :: l)) = ([], 0, 3) := by
  have e : getT (0 :: y :: l) = ([], 0, 3) := by
    conv => lhs; unfold getT
    rw [if_neg (by decide)]
    dsimp only
    rw [if_neg h1, if_pos h2]
  rw [e]
  rfl
/-- a text of the call's own, the place behind it and the error -/
def RetT (at_ : Nat) (r : List UInt8 × Nat × Int) (w : World) (en : Ending) (w' : World) : Prop :=
  ∃ D d, en = .returned (.tuple #[.slice D r.1.length d, .int .i64 (if r.2.2 = 0 then ((at_ + r.2.1 : Nat) : Int) else 0), .int .i64 r.2.2]) ∧ OwnB w.heap.size w' D r.1 d ∧ Below w.heap.size w w'
theorem RetT.bad {at_ : Nat} {r : List UInt8 × Nat × Int} {e : Int} (h : Hid (r = ([], 0, e))) (he : e ≠ 0) {w w' : World} (hb : Below w.heap.size w w') : RetT at_ r w (.returned (.tuple #[.slice none 0 0, .int .i64 0, .int .i64 e])) w' := by
  rw [h.out]
  refine ⟨none, 0, ?_, OwnB.nil_ _ _, hb⟩
  show _ = Ending.returned (.tuple #[_, .int .i64 (if e = 0 then _ else 0), _])
  rw [if_neg he]; rfl
theorem RetT.good {at_ k p : Nat} {r : List UInt8 × Nat × Int} {acc : List UInt8} (h : Hid (r = (acc, k, 0))) (hp : p = at_ + k) {D : Option Addr} {d : Nat} {w w' : World} (ho : OwnB w.heap.size w' D acc d) (hb : Below w.heap.size w w') : RetT at_ r w (.returned (.tuple #[.slice D acc.length d, .int .i64 (p : Int), .int .i64 0])) w' := by
  rw [h.out, hp]
  exact ⟨D, d, rfl, ho, hb⟩
set_option maxRecDepth 100000 in
set_option maxHeartbeats 4000000 in
theorem gettext_any (A : Option Addr) (l : List UInt8) (c at_ : Nat) (w : World) (hb : Bs w A l) (hat : at_ ≤ l.length) (hl5 : l.length ≤ 1099511627776) : Calls Try.prog 75 #[.slice A l.length c, .int .i64 (at_ : Int)] w (RetT at_ (getT (l.drop at_)) w) := by
  have hz0 : ¬ (at_ : Int) < 0 := by omega
  have hz1 : ¬ (l.length : Int) < (at_ : Int) := by omega
  go_enter Try.func75, Try.ntmps75
  go_wp2_with (go_at_call 74; refine (inside_any A l.length c at_ hat w).mono ?_; rintro en wv ⟨rfl, rfl⟩)
  generalize wv = w at *
  clear hz0 hz1
  go_loopw [7, 8] (fun o j wr => ∃ (q : Nat) (acc : List UInt8) (B : Option Addr) (d : Nat), at_ ≤ q ∧ q ≤ l.length ∧ j = .int .i64 (q : Int) ∧ o = .slice B acc.length d ∧ OwnB w.heap.size wr B acc d ∧ acc.length ≤ q ∧ joinT acc (q - at_) (getT (l.drop q)) = getT (l.drop at_) ∧ Below w.heap.size w wr) (fun _ j _ => l.length - (intOf j).toNat)
  case atStart => exact ⟨at_, [], none, 0, Nat.le_refl _, hat, rfl, rfl, OwnB.nil_ _ _, Nat.zero_le _, by rw [Nat.sub_self]; exact joinT_start _, Below.refl _ _⟩
  case round =>
    obtain ⟨q, acc, B, d, hq, hql, rfl, rfl, o, hal, hj, br⟩ := hrel
    have HJ := Lib.hid hj
    clear hj
    have zr := br.size
    by_cases hlt : q < l.length
    · have hlt' : (q : Int) < (l.length : Int) := by omega
      obtain ⟨ad, rfl, h0, hc⟩ := (hb.below br).at_ hlt
      have HD := Lib.hid (List.drop_eq_getElem_cons hlt)
      by_cases hx : l[q] = 0
      · have hc0 : wr.cell? (ad.add q) = some (.int .u8 0) := by rw [hc, hx]; rfl
        rw [hx] at HD
        clear hx hc
        have hw1 : IntKind.i64.wrap ((q : Int) + 1) = (q : Int) + 1 := by
          simp only [IntKind.wrap]
          split <;> simp_all [IntKind.bits, IntKind.signed] <;> omega
        by_cases h2 : q + 1 < l.length
        · have h2' : (q : Int) + 1 < (l.length : Int) := by omega
          have h2n : (0 : Int) ≤ (q : Int) + 1 := by omega
          have h2t : ((q : Int) + 1).toNat = q + 1 := by omega
          have h2e : ((q : Int) + 1 == (l.length : Int)) = false := by rw [beq_eq_false_iff_ne]; omega
          have h2g : ¬ (l.length : Int) ≤ (q : Int) + 1 := by omega
          obtain ⟨ad2, e2, _, hc2⟩ := (hb.below br).at_ h2
          obtain rfl : ad = ad2 := Option.some.inj e2
          unfold Addr.add at hc2
          rw [if_neg (by omega)] at hc2
          have HD2 := Lib.hid (List.drop_eq_getElem_cons h2)
          clear e2
          by_cases hy1 : l[q + 1] = 1
          · have hc1 : wr.cell? ⟨ad.block, ad.off + (q + 1), none⟩ = some (.int .u8 1) := by rw [hc2, hy1]; rfl
            have HE : Hid (getT (l.drop at_) = (acc, q - at_ + 2, 0)) := by show _ = _; rw [← HJ.out, HD.out, HD2.out, hy1]; exact joinT_end _ _ _
            clear hy1 hc2 HD HD2 HJ
            go_wp2_with fail
            go_ret3
            first | exact RetT.good (p := q + 1 + 1) HE (by omega) o br | exact RetT.good (p := q + 2) HE (by omega) o br
          · by_cases hy2 : l[q + 1] = 255
            · have hc1 : wr.cell? ⟨ad.block, ad.off + (q + 1), none⟩ = some (.int .u8 255) := by rw [hc2, hy2]; rfl
              have HE : Hid (joinT (acc ++ [0]) (q + 2 - at_) (getT (l.drop (q + 2))) = getT (l.drop at_)) := by show _ = _; rw [← HJ.out, HD.out, HD2.out, hy2, joinT_esc, show q - at_ + 2 = q + 2 - at_ by omega]
              have hl0 := Bs.lit wr [0] 5 (by decide)
              have dX : Below wr.heap.size wr (wr.alloc (.cells #[.int .u8 0] 5)) := (Below.refl _ _).alloc (Nat.le_refl _) _
              have bX := br.trans (dX.mono zr)
              have oX := o.below dX
              clear hy1 hy2 hc2 HD HD2 HJ
              go_wp2_with (at_builtin; refine wpList_app w.heap.size w _ rfl (.tmp 54) (.tmp 55) rfl B acc d rfl oX _ [0] 1 rfl hl0 (by rw [List.length_singleton]; omega) bX (Nat.le_refl _) bX.size ?_; intro B1 d1 acc1 w1 H1 o1 b1 g1 t1)
              go_roundw
              case rel => exact ⟨q + 2, acc1, B1, d1, by omega, by omega, by go_num, rfl, o1, by rw [H1.out, List.length_append, List.length_singleton]; omega, by rw [H1.out]; exact HE.out, b1⟩
              case measure => simp [intOf]; omega
            · have HE : Hid (getT (l.drop at_) = ([], 0, 3)) := by show _ = _; rw [← HJ.out, HD.out, HD2.out]; exact joinT_form hy1 hy2 _ _ _
              have n1 : (((l[q + 1]).toNat : Int) == 1) = false := by
                rw [beq_eq_false_iff_ne]; intro h; exact hy1 (UInt8.toNat_inj.1 (by show _ = 1; omega))
              have n2 : (((l[q + 1]).toNat : Int) != 255) = true := by
                rw [bne_iff_ne]; intro h; exact hy2 (UInt8.toNat_inj.1 (by show _ = 255; omega))
              clear hy1 hy2 HD HD2 HJ
              generalize ((l[q + 1]).toNat : Int) = y at *
              go_wp2_with fail
              go_ret3
              exact RetT.bad HE (by decide) br
        · have h2e : ((q : Int) + 1 == (l.length : Int)) = true := by rw [beq_iff_eq]; omega
          have h2g : (l.length : Int) ≤ (q : Int) + 1 := by omega
          have HE : Hid (getT (l.drop at_) = ([], 0, 5)) := by show _ = _; rw [← HJ.out, HD.out, List.drop_of_length_le (show l.length ≤ q + 1 by omega)]; rfl
          clear HD HJ
          go_wp2_with fail
          go_ret3
          exact RetT.bad HE (by decide) br
      · have HE : Hid (joinT (acc ++ [l[q]]) (q + 1 - at_) (getT (l.drop (q + 1))) = getT (l.drop at_)) := by show _ = _; rw [← HJ.out, HD.out, joinT_ne hx, show q - at_ + 1 = q + 1 - at_ by omega]
        have n1 : (((l[q]).toNat : Int) != 0) = true := by
          rw [bne_iff_ne]; intro h; exact hx (UInt8.toNat_inj.1 (by show _ = 0; omega))
        clear hx HD HJ
        generalize l[q] = x at *
        have hl0 := Bs.lit wr [x] 5 (by simp)
        have dX : Below wr.heap.size wr (wr.alloc (.cells #[.int .u8 (x.toNat : Int)] 5)) := (Below.refl _ _).alloc (Nat.le_refl _) _
        have bX := br.trans (dX.mono zr)
        have oX := o.below dX
        go_wp2_with (at_builtin; refine wpList_app w.heap.size w _ rfl (.tmp 25) (.tmp 30) rfl B acc d rfl oX _ [x] 1 rfl hl0 (by rw [List.length_singleton]; omega) bX (Nat.le_refl _) bX.size ?_; intro B1 d1 acc1 w1 H1 o1 b1 g1 t1)
        go_roundw
        case rel => exact ⟨q + 1, acc1, B1, d1, by omega, by omega, by go_num, rfl, o1, by rw [H1.out, List.length_append, List.length_singleton]; omega, by rw [H1.out]; exact HE.out, b1⟩
        case measure => simp [intOf]; omega
    · obtain rfl : q = l.length := by omega
      have HE : Hid (getT (l.drop at_) = ([], 0, 5)) := by show _ = _; rw [← HJ.out, List.drop_length]; rfl
      clear HJ
      go_wp2_with fail
      go_ret3
      exact RetT.bad HE (by decide) br
set_option maxRecDepth 100000 in
set_option maxHeartbeats 4000000 in
theorem rgettext_any (A : Option Addr) (l : List UInt8) (c at_ : Nat) (w : World) (hb : Bs w A l) (hat : at_ ≤ l.length) (hl5 : l.length ≤ 1099511627776) : Calls Try.prog 68 #[.slice A l.length c, .int .i64 (at_ : Int)] w (RetT at_ (getT (l.drop at_)) w) := by
  have hz0 : ¬ (at_ : Int) < 0 := by omega
  have hz1 : ¬ (l.length : Int) < (at_ : Int) := by omega
  go_enter Try.func68, Try.ntmps68
  go_wp2_with fail
  clear hz0 hz1
  go_loopw [7, 8] (fun o j wr => ∃ (q : Nat) (acc : List UInt8) (B : Option Addr) (d : Nat), at_ ≤ q ∧ q ≤ l.length ∧ j = .int .i64 (q : Int) ∧ o = .slice B acc.length d ∧ OwnB w.heap.size wr B acc d ∧ acc.length ≤ q ∧ joinT acc (q - at_) (getT (l.drop q)) = getT (l.drop at_) ∧ Below w.heap.size w wr) (fun _ j _ => l.length - (intOf j).toNat)
  case atStart => exact ⟨at_, [], none, 0, Nat.le_refl _, hat, rfl, rfl, OwnB.nil_ _ _, Nat.zero_le _, by rw [Nat.sub_self]; exact joinT_start _, Below.refl _ _⟩
  case round =>
    obtain ⟨q, acc, B, d, hq, hql, rfl, rfl, o, hal, hj, br⟩ := hrel
    have HJ := Lib.hid hj
    clear hj
    have zr := br.size
    by_cases hlt : q < l.length
    · have hlt' : (q : Int) < (l.length : Int) := by omega
      obtain ⟨ad, rfl, h0, hc⟩ := (hb.below br).at_ hlt
      have HD := Lib.hid (List.drop_eq_getElem_cons hlt)
      by_cases hx : l[q] = 0
      · have hc0 : wr.cell? (ad.add q) = some (.int .u8 0) := by rw [hc, hx]; rfl
        rw [hx] at HD
        clear hx hc
        have hw1 : IntKind.i64.wrap ((q : Int) + 1) = (q : Int) + 1 := by
          simp only [IntKind.wrap]
          split <;> simp_all [IntKind.bits, IntKind.signed] <;> omega
        by_cases h2 : q + 1 < l.length
        · have h2' : (q : Int) + 1 < (l.length : Int) := by omega
          have h2n : (0 : Int) ≤ (q : Int) + 1 := by omega
          have h2t : ((q : Int) + 1).toNat = q + 1 := by omega
          have h2e : ((q : Int) + 1 == (l.length : Int)) = false := by rw [beq_eq_false_iff_ne]; omega
          have h2g : ¬ (l.length : Int) ≤ (q : Int) + 1 := by omega
          obtain ⟨ad2, e2, _, hc2⟩ := (hb.below br).at_ h2
          obtain rfl : ad = ad2 := Option.some.inj e2
          unfold Addr.add at hc2
          rw [if_neg (by omega)] at hc2
          have HD2 := Lib.hid (List.drop_eq_getElem_cons h2)
          clear e2
          by_cases hy1 : l[q + 1] = 1
          · have hc1 : wr.cell? ⟨ad.block, ad.off + (q + 1), none⟩ = some (.int .u8 1) := by rw [hc2, hy1]; rfl
            have HE : Hid (getT (l.drop at_) = (acc, q - at_ + 2, 0)) := by show _ = _; rw [← HJ.out, HD.out, HD2.out, hy1]; exact joinT_end _ _ _
            clear hy1 hc2 HD HD2 HJ
            go_wp2_with fail
            go_ret3
            first | exact RetT.good (p := q + 1 + 1) HE (by omega) o br | exact RetT.good (p := q + 2) HE (by omega) o br
          · by_cases hy2 : l[q + 1] = 255
            · have hc1 : wr.cell? ⟨ad.block, ad.off + (q + 1), none⟩ = some (.int .u8 255) := by rw [hc2, hy2]; rfl
              have HE : Hid (joinT (acc ++ [0]) (q + 2 - at_) (getT (l.drop (q + 2))) = getT (l.drop at_)) := by show _ = _; rw [← HJ.out, HD.out, HD2.out, hy2, joinT_esc, show q - at_ + 2 = q + 2 - at_ by omega]
              have hl0 := Bs.lit wr [0] 5 (by decide)
              have dX : Below wr.heap.size wr (wr.alloc (.cells #[.int .u8 0] 5)) := (Below.refl _ _).alloc (Nat.le_refl _) _
              have bX := br.trans (dX.mono zr)
              have oX := o.below dX
              clear hy1 hy2 hc2 HD HD2 HJ
              go_wp2_with (at_builtin; refine wpList_app w.heap.size w _ rfl (.tmp 56) (.tmp 57) rfl B acc d rfl oX _ [0] 1 rfl hl0 (by rw [List.length_singleton]; omega) bX (Nat.le_refl _) bX.size ?_; intro B1 d1 acc1 w1 H1 o1 b1 g1 t1)
              go_roundw
              case rel => exact ⟨q + 2, acc1, B1, d1, by omega, by omega, by go_num, rfl, o1, by rw [H1.out, List.length_append, List.length_singleton]; omega, by rw [H1.out]; exact HE.out, b1⟩
              case measure => simp [intOf]; omega
            · have HE : Hid (getT (l.drop at_) = ([], 0, 3)) := by show _ = _; rw [← HJ.out, HD.out, HD2.out]; exact joinT_form hy1 hy2 _ _ _
              have n1 : (((l[q + 1]).toNat : Int) == 1) = false := by
                rw [beq_eq_false_iff_ne]; intro h; exact hy1 (UInt8.toNat_inj.1 (by show _ = 1; omega))
              have n2 : (((l[q + 1]).toNat : Int) != 255) = true := by
                rw [bne_iff_ne]; intro h; exact hy2 (UInt8.toNat_inj.1 (by show _ = 255; omega))
              clear hy1 hy2 HD HD2 HJ
              generalize ((l[q + 1]).toNat : Int) = y at *
              go_wp2_with fail
              go_ret3
              exact RetT.bad HE (by decide) br
        · have h2e : ((q : Int) + 1 == (l.length : Int)) = true := by rw [beq_iff_eq]; omega
          have h2g : (l.length : Int) ≤ (q : Int) + 1 := by omega
          have HE : Hid (getT (l.drop at_) = ([], 0, 5)) := by show _ = _; rw [← HJ.out, HD.out, List.drop_of_length_le (show l.length ≤ q + 1 by omega)]; rfl
          clear HD HJ
          go_wp2_with fail
          go_ret3
          exact RetT.bad HE (by decide) br
      · have HE : Hid (joinT (acc ++ [l[q]]) (q + 1 - at_) (getT (l.drop (q + 1))) = getT (l.drop at_)) := by show _ = _; rw [← HJ.out, HD.out, joinT_ne hx, show q - at_ + 1 = q + 1 - at_ by omega]
        have n1 : (((l[q]).toNat : Int) != 0) = true := by
          rw [bne_iff_ne]; intro h; exact hx (UInt8.toNat_inj.1 (by show _ = 0; omega))
        clear hx HD HJ
        generalize l[q] = x at *
        have hl0 := Bs.lit wr [x] 5 (by simp)
        have dX : Below wr.heap.size wr (wr.alloc (.cells #[.int .u8 (x.toNat : Int)] 5)) := (Below.refl _ _).alloc (Nat.le_refl _) _
        have bX := br.trans (dX.mono zr)
        have oX := o.below dX
        go_wp2_with (at_builtin; refine wpList_app w.heap.size w _ rfl (.tmp 27) (.tmp 32) rfl B acc d rfl oX _ [x] 1 rfl hl0 (by rw [List.length_singleton]; omega) bX (Nat.le_refl _) bX.size ?_; intro B1 d1 acc1 w1 H1 o1 b1 g1 t1)
        go_roundw
        case rel => exact ⟨q + 1, acc1, B1, d1, by omega, by omega, by go_num, rfl, o1, by rw [H1.out, List.length_append, List.length_singleton]; omega, by rw [H1.out]; exact HE.out, b1⟩
        case measure => simp [intOf]; omega
    · obtain rfl : q = l.length := by omega
      have HE : Hid (getT (l.drop at_) = ([], 0, 5)) := by show _ = _; rw [← HJ.out, List.drop_length]; rfl
      clear HJ
      go_wp2_with fail
      go_ret3
      exact RetT.bad HE (by decide) br
end Go.Proofs.Ytmgibpedclngpaa
