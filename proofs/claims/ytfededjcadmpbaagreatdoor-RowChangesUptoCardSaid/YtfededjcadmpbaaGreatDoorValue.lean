/- The error of a column's value: row.value. -/
import Derived.Test.YtfededjcadmpbaaGreatDoorCell
import Derived.Test.YtfededjcadmpbaaGreatDoorText
import Derived.Test.YtfededjcadmpbaaGreatDoorTable
namespace Go.Proofs.YtfededjcadmpbaaGreatDoor
open Go.RowKit Go.Lib

theorem AnyV.below {w w' : World} {S : Nat → Prop} {v : Value} {x : LVal} (h : AnyV w S v x) (hb : Below w.heap.size w w') : AnyV w' S v x := by
  cases x with
  | bytes l =>
    obtain ⟨D, c, e, h1, h2, h3⟩ := h
    exact ⟨D, c, e, h1.below hb, h2, h3⟩
  | _ => exact h
/-- does a kind fit a column? -/
def kindErr (c : LCol) (k : Int) : Int := if (k != c.kind && !(k == 0 && c.null)) = true then 10 else 0
/-- the error of a column's value -/
def valErr (c : LCol) (x : LVal) : Int :=
  if x.err ≠ 0 then 10 else if x.isT = true ∧ 200 < (runesL x.t).length then 2 else if x.isL = true ∧ 200 < x.l.length then 2 else if x.isT = true ∧ (badAt x.t).isSome = true then 3 else kindErr c x.kind

set_option maxRecDepth 100000 in
set_option maxHeartbeats 2000000 in
theorem value_any (c : LCol) (v : Value) (x : LVal) (w : World) (hx : AnyV w Any v x) (hu : U8 w) :
    Calls Tryz.prog 52 #[c.val, v] w fun en w' => en = .returned (.int .i64 (valErr c x)) ∧ Below w.heap.size w w' := by
  rcases c with ⟨cn, ck, cb⟩
  have b0 : Below w.heap.size w (w.alloc (.cells #[.string cn, .int .i64 ck, .bool cb] 78)) := (Below.refl _ _).alloc (Nat.le_refl _) _
  have k0 := Blk.new w 78 #[.string cn, .int .i64 ck, .bool cb]
  show Calls Tryz.prog 52 #[.agg #[.string cn, .int .i64 ck, .bool cb], v] w _
  go_enter Tryz.func52, Tryz.ntmps52
  go_wp2_with fail
  generalize (w.alloc (.cells #[.string cn, .int .i64 ck, .bool cb] 78)) = W0 at *
  refine (kind_any v x W0 (hx.below b0)).mono ?_
  rintro en w1 ⟨rfl, b1⟩
  have b01 := b0.trans (b1.mono b0.size)
  have k1 := k0.below b1 k0.lt
  have hx1 := hx.below b01
  by_cases he : x.err = 0
  · have d0 : (x.err != 0) = false := by rw [he]; rfl
    have HV : Hid (valErr ⟨cn, ck, cb⟩ x = if x.isT = true ∧ 200 < (runesL x.t).length then 2 else if x.isL = true ∧ 200 < x.l.length then 2 else if x.isT = true ∧ (badAt x.t).isSome = true then 3 else kindErr ⟨cn, ck, cb⟩ x.kind) := by
      show _ = _; unfold valErr; rw [if_neg (fun h => h he)]
    clear he b0 b1 k0
    go_wp2_with fail
    refine (textOf_any v x w1 hx1).mono ?_
    rintro en w2 ⟨rfl, rfl⟩
    cases hT : x.isT with
    | false =>
      have HV2 : Hid (valErr ⟨cn, ck, cb⟩ x = if x.isL = true ∧ 200 < x.l.length then 2 else kindErr ⟨cn, ck, cb⟩ x.kind) := by
        show _ = _; rw [HV.out, hT]; simp
      clear HV
      go_wp2_with fail
      refine (bytesOf_any v x w2 hx1).mono ?_
      rintro en w3 ⟨D, c, rfl, b3⟩
      have b03 := b01.trans (b3.mono b01.size)
      have k3 := k1.below b3 k1.lt
      have hx3 := hx1.below b3
      have q1 : w3.cell? ⟨w.heap.size, 1, none⟩ = some (.int .i64 ck) := k3.cell 1
      have q2 : w3.cell? ⟨w.heap.size, 2, none⟩ = some (.bool cb) := k3.cell 2
      cases hL : x.isL with
      | false =>
        have HV3 : Hid (valErr ⟨cn, ck, cb⟩ x = kindErr ⟨cn, ck, cb⟩ x.kind) := by show _ = _; rw [HV2.out, hL]; simp
        clear HV2
        go_wp2_with fail
        refine (textOf_any v x w3 hx3).mono ?_
        rintro en w4 ⟨rfl, rfl⟩
        rw [hT]
        clear hT hL hx hx1 hx3
        (obtain ⟨bk, hbk⟩ : ∃ b, ((x.kind : Int) != ck) = b := ⟨_, rfl⟩); (obtain ⟨bz, hbz⟩ : ∃ b, ((x.kind : Int) == 0) = b := ⟨_, rfl⟩); (have HK : Hid (kindErr ⟨cn, ck, cb⟩ x.kind = if (bk && !(bz && cb)) = true then 10 else 0) := (by show _ = _; unfold kindErr; rw [hbk, hbz])); (cases bk <;> cases bz <;> cases cb <;> (go_wp2_with fail; go_ret; exact ⟨by rw [HV3.out, HK.out]; rfl, b03⟩))
      | true =>
        by_cases hn : 200 < x.l.length
        · have HV3 : Hid (valErr ⟨cn, ck, cb⟩ x = 2) := by show _ = _; rw [HV2.out, hL, if_pos ⟨rfl, hn⟩]
          have hz : (200 : Int) < (x.l.length : Int) := by omega
          clear HV2 hn
          go_wp2_with fail
          go_ret
          exact ⟨by rw [HV3.out]; rfl, b03⟩
        · have HV3 : Hid (valErr ⟨cn, ck, cb⟩ x = kindErr ⟨cn, ck, cb⟩ x.kind) := by show _ = _; rw [HV2.out, hL, if_neg (fun h => hn h.2)]
          have hz : ¬ (200 : Int) < (x.l.length : Int) := by omega
          clear HV2 hn
          go_wp2_with fail
          refine (textOf_any v x w3 hx3).mono ?_
          rintro en w4 ⟨rfl, rfl⟩
          rw [hT]
          clear hT hL hx hx1 hx3
          (obtain ⟨bk, hbk⟩ : ∃ b, ((x.kind : Int) != ck) = b := ⟨_, rfl⟩); (obtain ⟨bz, hbz⟩ : ∃ b, ((x.kind : Int) == 0) = b := ⟨_, rfl⟩); (have HK : Hid (kindErr ⟨cn, ck, cb⟩ x.kind = if (bk && !(bz && cb)) = true then 10 else 0) := (by show _ = _; unfold kindErr; rw [hbk, hbz])); (cases bk <;> cases bz <;> cases cb <;> (go_wp2_with fail; go_ret; exact ⟨by rw [HV3.out, HK.out]; rfl, b03⟩))
    | true =>
      obtain ⟨s, rfl⟩ : ∃ s, x = .text s := by cases x <;> simp_all [LVal.isT]
      obtain ⟨rfl, hs⟩ := hx1
      have HV2 : Hid (valErr ⟨cn, ck, cb⟩ (.text s) = if 200 < (runesL s).length then 2 else if (badAt s).isSome = true then 3 else kindErr ⟨cn, ck, cb⟩ 3) := by
        show _ = _; rw [HV.out]; simp [LVal.isT, LVal.isL, LVal.t, LVal.kind]
      clear HV hT d0
      go_wp2_with fail
      refine (len_any s hs w2).mono ?_
      rintro en w3 ⟨rfl, b3⟩
      have b03 := b01.trans (b3.mono b01.size)
      have k3 := k1.below b3 k1.lt
      by_cases hn : 200 < (runesL s).length
      · have HV3 : Hid (valErr ⟨cn, ck, cb⟩ (.text s) = 2) := by show _ = _; rw [HV2.out, if_pos hn]
        have hz : (200 : Int) < ((runesL s).length : Int) := by omega
        clear HV2 hn
        go_wp2_with fail
        go_ret
        exact ⟨by rw [HV3.out]; rfl, b03⟩
      · have HV3 : Hid (valErr ⟨cn, ck, cb⟩ (.text s) = if (badAt s).isSome = true then 3 else kindErr ⟨cn, ck, cb⟩ 3) := by show _ = _; rw [HV2.out, if_neg hn]
        have hz : ¬ (200 : Int) < ((runesL s).length : Int) := by omega
        clear HV2 hn
        go_wp2_with fail
        refine (bytesOf_any (.iface 9 (.string s)) (.text s) w3 ⟨rfl, hs⟩).mono ?_
        rintro en w4 ⟨D, c, rfl, b4⟩
        have b04 := b03.trans (b4.mono b03.size)
        have k4 := k3.below b4 k3.lt
        go_wp2_with fail
        refine (textOf_any (.iface 9 (.string s)) (.text s) w4 ⟨rfl, hs⟩).mono ?_
        rintro en w5 ⟨rfl, rfl⟩
        go_wp2_with fail
        refine (bad_any s w5 (hu.below b04)).mono ?_
        rintro en w6 ⟨rfl, b6⟩
        have b06 := b04.trans (b6.mono b04.size)
        have k6 := k4.below b6 k4.lt
        have q1 : w6.cell? ⟨w.heap.size, 1, none⟩ = some (.int .i64 ck) := k6.cell 1
        have q2 : w6.cell? ⟨w.heap.size, 2, none⟩ = some (.bool cb) := k6.cell 2
        cases hb : (badAt s).isSome with
        | true =>
          have HV4 : Hid (valErr ⟨cn, ck, cb⟩ (.text s) = 3) := by show _ = _; rw [HV3.out, hb]; rfl
          clear HV3 hb
          go_wp2_with fail
          go_ret
          exact ⟨by rw [HV4.out]; rfl, b06⟩
        | false =>
          have HV4 : Hid (valErr ⟨cn, ck, cb⟩ (.text s) = kindErr ⟨cn, ck, cb⟩ 3) := by show _ = _; rw [HV3.out, hb]; rfl
          clear HV3 hb
          obtain ⟨bk, hbk⟩ : ∃ b, (((LVal.text s).kind : Int) != ck) = b := ⟨_, rfl⟩
          have hbz : (((LVal.text s).kind : Int) == 0) = false := rfl
          have HK : Hid (kindErr ⟨cn, ck, cb⟩ 3 = if bk = true then 10 else 0) := by show kindErr _ (LVal.text s).kind = _; unfold kindErr; rw [hbk, hbz]; simp
          cases bk <;> (go_wp2_with fail; go_ret; exact ⟨by rw [HV4.out, HK.out]; rfl, b06⟩)
  · have d0 : (x.err != 0) = true := by rw [bne_iff_ne]; exact he
    have HV : Hid (valErr ⟨cn, ck, cb⟩ x = 10) := by show _ = _; unfold valErr; rw [if_pos he]
    clear he
    go_wp2_with fail
    go_ret
    exact ⟨by rw [HV.out]; rfl, b01⟩
end Go.Proofs.YtfededjcadmpbaaGreatDoor
