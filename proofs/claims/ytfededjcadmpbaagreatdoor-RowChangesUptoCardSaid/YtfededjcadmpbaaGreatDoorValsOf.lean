/- The values of the cells in form, and these cells: caissonlaw14.vals. -/
import Derived.Test.YtfededjcadmpbaaGreatDoorOf
import Derived.Test.YtfededjcadmpbaaGreatDoorRVals
namespace Go.Proofs.YtfededjcadmpbaaGreatDoor
open Go.RowKit

/-- cells as they came -/
def CraO : ER LCel where
  size := 5
  pos := by omega
  bytes := 64
  bpos := by omega
  rep w S vs x := ∃ D c, vs = [.int .i64 x.kind, .bool x.b, .int .i64 x.n, .string x.t, .slice D x.l.length c] ∧ Bs w D x.l ∧ At S D x.l.length ∧ x.l.length ≤ c ∧ c ≤ 9223372036854775807 ∧ x.t.size ≤ 140737488351232
  len := by rintro w S vs a ⟨D, c, rfl, _⟩; rfl
  one := by rintro w S vs a ⟨D, c, rfl, _⟩ v hv; simp at hv; rcases hv with rfl | rfl | rfl | rfl | rfl <;> rfl
  keep := by rintro w w' S vs a ⟨D, c, rfl, h, ha, h2⟩ hs; exact ⟨D, c, rfl, h.sameS ha hs, ha, h2⟩
  mono := by rintro w S S' vs a ⟨D, c, rfl, h, ha, h2⟩ hs; exact ⟨D, c, rfl, h, h.atMono ha hs, h2⟩
theorem CraO.at5 {w : World} {A : Option Addr} {S : Nat → Prop} {l : List LCel} (h : SlS CraO w S A l) {k : Nat} (hk : k < l.length) :
    ∃ ad D c, A = some ad ∧ ad.block < w.heap.size ∧ w.cell? (ad.add (k * 5)) = some (.int .i64 l[k].kind) ∧ w.cell? ⟨(ad.add (k * 5)).block, (ad.add (k * 5)).off + 1, none⟩ = some (.bool l[k].b) ∧ w.cell? ⟨(ad.add (k * 5)).block, (ad.add (k * 5)).off + 2, none⟩ = some (.int .i64 l[k].n) ∧
      w.cell? ⟨(ad.add (k * 5)).block, (ad.add (k * 5)).off + 3, none⟩ = some (.string l[k].t) ∧ w.cell? ⟨(ad.add (k * 5)).block, (ad.add (k * 5)).off + 4, none⟩ = some (.slice D l[k].l.length c) ∧ Bs w D l[k].l ∧ At S D l[k].l.length ∧ l[k].l.length ≤ c ∧ c ≤ 9223372036854775807 ∧ l[k].t.size ≤ 140737488351232 := by
  obtain ⟨ad, vs, rfl, hb, ⟨D, c, rfl, h1, h2, h3, h6, h7⟩, h4, _, h5⟩ := SlS.at_ h hk
  exact ⟨ad, D, c, rfl, hb, h4 _ rfl, h5 1 _ (by omega) rfl, h5 2 _ (by omega) rfl, h5 3 _ (by omega) rfl, h5 4 _ (by omega) rfl, h1, h2, h3, h6, h7⟩

/-- cells as they came -/
def CraE : ER LCel where
  size := 5
  pos := by omega
  bytes := 64
  bpos := by omega
  rep w S vs x := ∃ D c, vs = [.int .i64 x.kind, .bool x.b, .int .i64 x.n, .string x.t, .slice D x.l.length c] ∧ Bs w D x.l ∧ At S D x.l.length ∧ x.l.length ≤ c ∧ c ≤ 9223372036854775807 ∧ x.t.size ≤ 17592186043904
  len := by rintro w S vs a ⟨D, c, rfl, _⟩; rfl
  one := by rintro w S vs a ⟨D, c, rfl, _⟩ v hv; simp at hv; rcases hv with rfl | rfl | rfl | rfl | rfl <;> rfl
  keep := by rintro w w' S vs a ⟨D, c, rfl, h, ha, h2⟩ hs; exact ⟨D, c, rfl, h.sameS ha hs, ha, h2⟩
  mono := by rintro w S S' vs a ⟨D, c, rfl, h, ha, h2⟩ hs; exact ⟨D, c, rfl, h, h.atMono ha hs, h2⟩
/-- a row of cells, each the cell of a value -/
def CelO : ER LVal where
  size := 5
  pos := by omega
  bytes := 64
  bpos := by omega
  rep w S vs x := ∃ D c, vs = [.int .i64 x.kind, .bool x.b, .int .i64 x.n, .string x.t, .slice D x.l.length c] ∧ Bs w D x.l ∧ At S D x.l.length ∧ x.l.length ≤ c ∧ c ≤ 9223372036854775807 ∧ x.t.size ≤ 140737488351232
  len := by rintro w S vs a ⟨D, c, rfl, _⟩; rfl
  one := by rintro w S vs a ⟨D, c, rfl, _⟩ v hv; simp at hv; rcases hv with rfl | rfl | rfl | rfl | rfl <;> rfl
  keep := by rintro w w' S vs a ⟨D, c, rfl, h, ha, h2⟩ hs; exact ⟨D, c, rfl, h.sameS ha hs, ha, h2⟩
  mono := by rintro w S S' vs a ⟨D, c, rfl, h, ha, h2⟩ hs; exact ⟨D, c, rfl, h, h.atMono ha hs, h2⟩
theorem CelO.at6 {w : World} {A : Option Addr} {S : Nat → Prop} {l : List LVal} (h : SlS CelO w S A l) {k : Nat} (hk : k < l.length) :
    ∃ ad D c, A = some ad ∧ ad.block < w.heap.size ∧ w.cell? (ad.add (k * 5)) = some (.int .i64 l[k].kind) ∧ w.cell? ⟨(ad.add (k * 5)).block, (ad.add (k * 5)).off + 1, none⟩ = some (.bool l[k].b) ∧ w.cell? ⟨(ad.add (k * 5)).block, (ad.add (k * 5)).off + 2, none⟩ = some (.int .i64 l[k].n) ∧
      w.cell? ⟨(ad.add (k * 5)).block, (ad.add (k * 5)).off + 3, none⟩ = some (.string l[k].t) ∧ w.cell? ⟨(ad.add (k * 5)).block, (ad.add (k * 5)).off + 4, none⟩ = some (.slice D l[k].l.length c) ∧ Bs w D l[k].l ∧ At S D l[k].l.length := by
  obtain ⟨ad, vs, rfl, hb, ⟨D, c, rfl, h1, h2, h3, h6, h7⟩, h4, _, h5⟩ := SlS.at_ h hk
  exact ⟨ad, D, c, rfl, hb, h4 _ rfl, h5 1 _ (by omega) rfl, h5 2 _ (by omega) rfl, h5 3 _ (by omega) rfl, h5 4 _ (by omega) rfl, h1, h2⟩
def valsOf (l : List LCel) : List LVal := (l.filter LCel.good).map LCel.val
theorem valsOf_take {l : List LCel} {k : Nat} (h : k < l.length) : valsOf (l.take (k + 1)) = valsOf (l.take k) ++ (if l[k].good = true then [l[k].val] else []) := by
  unfold valsOf
  rw [List.take_succ_eq_append_getElem h, List.filter_append, List.map_append]
  congr 1
  cases hg : l[k].good <;> simp [hg]
theorem valsOf_err {l : List LCel} : ∀ x ∈ valsOf l, x.err = 0 := by
  intro x hx
  unfold valsOf at hx
  obtain ⟨c, hc, rfl⟩ := List.mem_map.1 hx
  exact (LCel.good_cel (List.mem_filter.1 hc).2).2
theorem valsOf_le (l : List LCel) : (valsOf l).length ≤ l.length := by unfold valsOf; rw [List.length_map]; exact List.length_filter_le _ _
theorem valsOf_take_le (l : List LCel) (k : Nat) (h : k ≤ l.length) : (valsOf (l.take k)).length ≤ k := by
  have := valsOf_le (l.take k); rw [List.length_take, Nat.min_eq_left h] at this; exact this

theorem AnyV.shape {w : World} {S : Nat → Prop} {v : Value} {x : LVal} (h : AnyV w S v x) : v = .nilIface ∨ ∃ T u, v = .iface T u := by
  cases x with
  | null => exact .inl h
  | bytes l => obtain ⟨D, c, e, _⟩ := h; exact .inr ⟨_, _, e⟩
  | text s => exact .inr ⟨_, _, h.1⟩
  | _ => exact .inr ⟨_, _, h⟩
theorem Tryz.infoAny : (Tryz.prog.info? 20).map (fun i => (i.zero, i.size, i.bytes)) = some (some .nilIface, 1, 16) := by kernel_rfl
theorem Tryz.infoCell : (Tryz.prog.info? 48).map (fun i => (i.zero, i.size, i.bytes)) = some (some (.agg #[.int .i64 0, .bool false, .int .i64 0, .string ⟨#[]⟩, .slice none 0 0]), 5, 64) := by kernel_rfl

/-- the values and the cells are answered -/
def RetValsO (xs : List LVal) (w : World) (en : Ending) (w' : World) : Prop :=
  ∃ A B ca cb, en = .returned (.tuple #[.slice A xs.length ca, .slice B xs.length cb]) ∧ Sl AnyE w' A xs ∧ Sl CelO w' B xs ∧ (xs.length ≤ ca ∧ ca ≤ 9223372036854775807) ∧ (xs.length ≤ cb ∧ cb ≤ 9223372036854775807) ∧ Below w.heap.size w w'

set_option maxRecDepth 100000 in
set_option maxHeartbeats 4000000 in
theorem valsO_any (l : List LCel) (C : Option Addr) (cc : Nat) (w : World) (hC : Sl CraO w C l) : Calls Tryz.prog 5 #[.slice C l.length cc] w (RetValsO (valsOf l) w) := by
  obtain ⟨i0, hi0, hz0, hz1, hz2⟩ := info_parts Tryz.infoAny
  obtain ⟨i1, hi1, hy0, hy1, hy2⟩ := info_parts Tryz.infoCell
  have hCl := hC.leb
  simp only [CraO] at hCl
  go_enter Tryz.func5, Tryz.ntmps5
  go_wp2_with fail
  go_loopw [4, 5, 7, 8, 9, 12] (fun v p _ _ _ i wr => ∃ (k : Nat) (A B : Option Addr) (ca cb : Nat), k ≤ l.length ∧ i = .int .i64 (k : Int) ∧ v = .slice A (valsOf (l.take k)).length ca ∧ p = .slice B (valsOf (l.take k)).length cb ∧ Own AnyE 20 wr w.heap.size (fun b => w.heap.size ≤ b ∧ (Value.slice B (valsOf (l.take k)).length cb).ownBlock ≠ some b) (.slice A (valsOf (l.take k)).length ca) (valsOf (l.take k)) ∧ Own CelO 48 wr w.heap.size (fun b => b < w.heap.size) (.slice B (valsOf (l.take k)).length cb) (valsOf (l.take k)) ∧ Below w.heap.size w wr) (fun _ _ _ _ _ i _ => l.length - (intOf i).toNat)
  case atStart => exact ⟨0, none, none, 0, 0, Nat.zero_le _, rfl, rfl, rfl, Own.nil_ AnyE _ _ _ _, Own.nil_ CelO _ _ _ _, Below.refl _ _⟩
  case round =>
    obtain ⟨k, A, B, ca, cb, hk, rfl, rfl, rfl, oA, oB, br⟩ := hrel
    have zr := br.size
    by_cases hlt : k < l.length
    · obtain ⟨ad, D, c, rfl, h1, f0, f1, f2, f3, f4, hD, hat, hc1, hc2, ht⟩ := CraO.at5 (hC.old.below br) hlt
      have HT := Lib.hid (valsOf_take hlt)
      have hle := valsOf_take_le l k hk
      have hkn : (k : Int) < (l.length : Int) := by omega
      generalize hxs : valsOf (l.take k) = xs at *
      generalize hcx : l[k] = cl at *
      clear hcx hxs
      rcases cl with ⟨kk, b, n, t, dl⟩
      simp only at f0 f1 f2 f3 f4 hD hat hc1 hc2 ht
      have kX := Blk.new wr 48 #[.int .i64 kk, .bool b, .int .i64 n, .string t, .slice D dl.length c]
      have dX : Below wr.heap.size wr (wr.alloc (.cells #[.int .i64 kk, .bool b, .int .i64 n, .string t, .slice D dl.length c] 48)) := (Below.refl _ _).alloc (Nat.le_refl _) _
      have bX := br.trans (dX.mono zr)
      have oAX := oA.below dX
      have oBX := oB.below dX
      have hDX := hD.below dX
      go_upto_region 6 with fail
      clear f0 f1 f2 f3 f4 dX oA oB hD br zr h1
      generalize (wr.alloc (.cells #[.int .i64 kk, .bool b, .int .i64 n, .string t, .slice D dl.length c] 48)) = X at *
      go_wp2_with ((with_reducible refine wpList_load_blk rfl 48 (.tmp 7) rfl wr.heap.size ?_ 48 _ _ kX Tryz.underlying48 ?_ Tryz.size_Cell ?_ ?_); rfl; rfl; rfl)
      refine (good_any kk n b t dl D c X).mono ?_
      rintro en w2 ⟨rfl, b2⟩
      have k2 := kX.below b2 kX.lt
      have b02 := bX.trans (b2.mono bX.size)
      have oA2 := oAX.below b2
      have oB2 := oBX.below b2
      have hD2 := hDX.below b2
      clear kX bX oAX oBX hDX
      cases hg : LCel.good ⟨kk, b, n, t, dl⟩ with
      | false =>
        have HT2 : Hid (valsOf (l.take (k + 1)) = xs) := by show _ = _; rw [HT.out, if_neg (by rw [hg]; decide), List.append_nil]
        clear hg HT
        go_wp2_with fail
        go_roundw
        case rel =>
          refine ⟨k + 1, A, B, ca, cb, by omega, by go_num, ?_⟩
          rw [HT2.out]
          exact ⟨rfl, rfl, oA2, oB2, b02⟩
        case measure => simp [intOf]; omega
      | true =>
        obtain ⟨hce, hx⟩ := LCel.good_cel hg
        have HT2 : Hid (valsOf (l.take (k + 1)) = xs ++ [LCel.val ⟨kk, b, n, t, dl⟩]) := by show _ = _; rw [HT.out, if_pos hg]
        clear hg HT
        generalize LCel.val ⟨kk, b, n, t, dl⟩ = x at *
        obtain ⟨rfl, rfl, rfl, rfl, rfl⟩ : x.kind = kk ∧ x.b = b ∧ x.n = n ∧ x.t = t ∧ x.l = dl := by
          have h := hce; unfold LVal.cel at h; injection h with a b c d e; exact ⟨a, b, c, d, e⟩
        have HX := Lib.hid hx
        clear hce hx
        go_wp2_with ((with_reducible refine wpList_load_blk rfl 48 (.tmp 7) rfl wr.heap.size ?_ 48 _ _ k2 Tryz.underlying48 ?_ Tryz.size_Cell ?_ ?_); rfl; rfl; rfl)
        refine (of_any x HX.out (by omega) D c w2 hD2).mono ?_
        rintro en w3 ⟨v, rfl, hv, b3⟩
        rcases hv.shape with rfl | ⟨T0, u0, rfl⟩
        · have b03 := b02.trans (b3.mono b02.size)
          have k3 := k2.below b3 k2.lt
          have oA3 := oA2.below b3
          have oB3 := oB2.below b3
          have hD3 := hD2.below b3
          have z23 := b3.size
          have z02 := b02.size
          have hAlt2 := fun g e => (oA2.lt g e).2
          have hBlt2 := fun g e => (oB2.lt g e).2
          clear k2 oA2 oB2 hD2 b2 b3
          obtain ⟨vsA, hoA, hfA⟩ := oA3
          obtain ⟨vsB, hoB, hfB⟩ := oB3
          have d1 : Below w3.heap.size w3 (w3.alloc (.cells #[.nilIface] 20)) := (Below.refl _ _).alloc (Nat.le_refl _) _
          have hoA1 : (w3.alloc (.cells #[.nilIface] 20)).ownsRow w.heap.size 20 1 (.slice A xs.length ca) xs.length vsA := hoA.alloc _
          have hoB1 : (w3.alloc (.cells #[.nilIface] 20)).ownsRow w.heap.size 48 5 (.slice B xs.length cb) xs.length vsB := hoB.alloc _
          have k3a := k3.alloc (.cells #[.nilIface] 20)
          have hr1 := Reads.new1 w3 .nilIface 20
          have hone1 : ∀ u ∈ [Value.nilIface], u.oneCell' = true := by intro u hu; simp at hu; subst hu; exact hv.one
          have m1 : xs.length + 1 ≤ maxLen := by simp only [maxLen]; omega
          have m2 : (xs.length + 1) * 16 ≤ 140737488355328 := by omega
          have m3 : (xs.length + 1) * 64 ≤ 140737488355328 := by omega
          have m4 : w.heap.size ≤ (w3.alloc (.cells #[.nilIface] 20)).heap.size := by simp; omega
          have hneB := own_own_ne hoB1 hoA1 (by decide)
          have hneX := own_blk_ne hoA1 k3a (by decide)
          have hone2 : ∀ u ∈ ([.int .i64 x.kind, .bool x.b, .int .i64 x.n, .string x.t, .slice D x.l.length c] : List Value), u.oneCell' = true := by intro u hu; simp at hu; rcases hu with rfl | rfl | rfl | rfl | rfl <;> rfl
          go_wp2_with (first
            | (at_builtin; (refine wpList_append_sh _ rfl (.tmp 23) (.tmp 25) _ rfl w.heap.size 20 i0 _ 1 16 Tryz.underlying28 hi0 hz0 hz1 hz2 rfl (by omega) _ xs.length vsA rfl hoA1 _ _ 1 1 [.nilIface] rfl hr1 hone1 m1 m2 m4 ?_); intro A1 c1 w5 o5 g5 t5; have k5 := k3a.grown g5 (Ne.symm hneX); have hoB5 := hoB1.kept g5 hneB; have hoB5a := hoB5.alloc (.cells #[.int .i64 x.kind, .bool x.b, .int .i64 x.n, .string x.t, .slice D x.l.length c] 48); have z5 := g5.size; have m5 : w.heap.size ≤ (w5.alloc (.cells #[.int .i64 x.kind, .bool x.b, .int .i64 x.n, .string x.t, .slice D x.l.length c] 48)).heap.size := (by simp at z5; simp; omega); have hr2 := Reads.newN w5 [.int .i64 x.kind, .bool x.b, .int .i64 x.n, .string x.t, .slice D x.l.length c] 48)
            | ((with_reducible refine wpList_load_blk rfl 48 (.tmp 7) rfl wr.heap.size ?_ 48 _ _ k5 Tryz.underlying48 ?_ Tryz.size_Cell ?_ ?_); rfl; rfl; rfl)
            | (at_builtin; (refine wpList_append_sh _ rfl (.tmp 27) (.tmp 29) _ rfl w.heap.size 48 i1 _ 5 64 Tryz.underlying26 hi1 hy0 hy1 hy2 rfl (by omega) _ xs.length vsB rfl hoB5a (w5.heap.size + 1) _ 1 1 [.int .i64 x.kind, .bool x.b, .int .i64 x.n, .string x.t, .slice D x.l.length c] rfl hr2 hone2 m1 m3 m5 ?_); intro B1 c2 w7 o7 g7 t7))
          have d2 : Below w5.heap.size w5 (w5.alloc (.cells #[.int .i64 x.kind, .bool x.b, .int .i64 x.n, .string x.t, .slice D x.l.length c] 48)) := (Below.refl _ _).alloc (Nat.le_refl _) _
          have oA5 : Own AnyE 20 w5 w.heap.size (fun b => w.heap.size ≤ b ∧ (Value.slice B xs.length cb).ownBlock ≠ some b) (.slice A1 (xs.length + 1) c1) (xs ++ [x]) :=
            Own.step (S := fun b => w.heap.size ≤ b ∧ (Value.slice B xs.length cb).ownBlock ≠ some b) (ER.flat_keep d1 hfA)
              (by
                refine ⟨_, rfl, (hv.below d1).mono (fun b _ hb => ⟨⟨by omega, fun e => ?_⟩, fun e => ?_⟩)⟩
                · have := hBlt2 b e; omega
                · have := hAlt2 b e; omega) o5 g5 t5
          have oB5 : Own CelO 48 w5 w.heap.size (fun b => b < w.heap.size) (.slice B xs.length cb) xs := Own.same ⟨vsB, hoB1, ER.flat_keep d1 hfB⟩ g5 hneB (fun b hb e => by have := (hoA1.lt b e).1; omega)
          have b5 := (b03.alloc b03.size (.cells #[.nilIface] 20)).grown g5 (b03.alloc b03.size _).size (fun j hj => (hoA1.lt j hj).1)
          have b7 := (b5.alloc b5.size (.cells #[.int .i64 x.kind, .bool x.b, .int .i64 x.n, .string x.t, .slice D x.l.length c] 48)).grown g7 (b5.alloc b5.size _).size (fun j hj => (hoB5a.lt j hj).1)
          have oA7 : Own AnyE 20 w7 w.heap.size (fun b => w.heap.size ≤ b ∧ (Value.slice B1 (xs.length + 1) c2).ownBlock ≠ some b) (.slice A1 (xs.length + 1) c1) (xs ++ [x]) := by
            have q := (oA5.mono (S' := fun b => (w.heap.size ≤ b ∧ (Value.slice B xs.length cb).ownBlock ≠ some b) ∧ b < w5.heap.size) (fun b hl _ h => ⟨h, hl⟩)).below d2
            have q2 := q.same g7 (by
              obtain ⟨_, h1, _⟩ := q
              have h1 : _root_.Go.World.ownsRow _ w.heap.size 20 1 _ _ _ := h1
              exact own_own_ne h1 hoB5a (by decide)) (fun b hb => hb.1.2)
            refine q2.mono (fun b _ _ h => ⟨h.1.1, fun e => ?_⟩)
            rcases t7 with t | t
            · exact h.1.2 (t.symm.trans e)
            · have := Option.some.inj (e.symm.trans t)
              have h2 := h.2
              simp at this
              omega
          have hfB5 : ∃ vs, w5.ownsRow w.heap.size 48 5 (.slice B xs.length cb) xs.length vs ∧ CelO.flat w5 (fun b => b < w.heap.size ∧ (Value.slice B xs.length cb).ownBlock ≠ some b) vs xs := oB5
          have oB7 : Own CelO 48 w7 w.heap.size (fun b => b < w.heap.size) (.slice B1 (xs.length + 1) c2) (xs ++ [x]) := by
            have hD5 : Bs (w5.alloc (.cells #[.int .i64 x.kind, .bool x.b, .int .i64 x.n, .string x.t, .slice D x.l.length c] 48)) D x.l := ((hD3.below d1).sameS (S := fun b => b < w.heap.size) hat (.of_grown g5 (fun b hb e => by have := (hoA1.lt b e).1; omega))).below d2
            have hfl : CelO.flat w5 (fun b => b < w.heap.size ∧ (Value.slice B xs.length cb).ownBlock ≠ some b) vsB xs := by
              have h0 : CelO.flat w3 (fun b => b < w.heap.size ∧ (Value.slice B xs.length cb).ownBlock ≠ some b) vsB xs := hfB
              exact ER.flat_same (.of_grown g5 (fun b hb e => by have := (hoA1.lt b e).1; omega)) (ER.flat_keep d1 h0)
            exact Own.step (S := fun b => b < w.heap.size) (ER.flat_keep d2 hfl) ⟨D, c, rfl, hD5, fun ad e hn => ⟨hat ad e hn, fun e2 => by have := (hoB5a.lt _ e2).1; have := hat ad e hn; omega⟩, hc1, hc2, ht⟩ o7 g7 t7
          clear hoA hoB hfA hfB hoA1 hoB1 k3a hr1 hneB hneX oA5 oB5 hfB5 o5 g5 t5 o7 g7 t7 k5 hoB5 hoB5a hr2 k3 hD3 hAlt2 hBlt2 d1 d2
          go_wp2_with fail
          go_roundw
          case rel =>
            refine ⟨k + 1, A1, B1, c1, c2, by omega, by go_num, ?_⟩
            rw [HT2.out, List.length_append]
            exact ⟨rfl, rfl, oA7, oB7, b7⟩
          case measure => simp [intOf]; omega
        · have b03 := b02.trans (b3.mono b02.size)
          have k3 := k2.below b3 k2.lt
          have oA3 := oA2.below b3
          have oB3 := oB2.below b3
          have hD3 := hD2.below b3
          have z23 := b3.size
          have z02 := b02.size
          have hAlt2 := fun g e => (oA2.lt g e).2
          have hBlt2 := fun g e => (oB2.lt g e).2
          clear k2 oA2 oB2 hD2 b2 b3
          obtain ⟨vsA, hoA, hfA⟩ := oA3
          obtain ⟨vsB, hoB, hfB⟩ := oB3
          have d1 : Below w3.heap.size w3 (w3.alloc (.cells #[.iface T0 u0] 20)) := (Below.refl _ _).alloc (Nat.le_refl _) _
          have hoA1 : (w3.alloc (.cells #[.iface T0 u0] 20)).ownsRow w.heap.size 20 1 (.slice A xs.length ca) xs.length vsA := hoA.alloc _
          have hoB1 : (w3.alloc (.cells #[.iface T0 u0] 20)).ownsRow w.heap.size 48 5 (.slice B xs.length cb) xs.length vsB := hoB.alloc _
          have k3a := k3.alloc (.cells #[.iface T0 u0] 20)
          have hr1 := Reads.new1 w3 (.iface T0 u0) 20
          have hone1 : ∀ u ∈ [Value.iface T0 u0], u.oneCell' = true := by intro u hu; simp at hu; subst hu; exact hv.one
          have m1 : xs.length + 1 ≤ maxLen := by simp only [maxLen]; omega
          have m2 : (xs.length + 1) * 16 ≤ 140737488355328 := by omega
          have m3 : (xs.length + 1) * 64 ≤ 140737488355328 := by omega
          have m4 : w.heap.size ≤ (w3.alloc (.cells #[.iface T0 u0] 20)).heap.size := by simp; omega
          have hneB := own_own_ne hoB1 hoA1 (by decide)
          have hneX := own_blk_ne hoA1 k3a (by decide)
          have hone2 : ∀ u ∈ ([.int .i64 x.kind, .bool x.b, .int .i64 x.n, .string x.t, .slice D x.l.length c] : List Value), u.oneCell' = true := by intro u hu; simp at hu; rcases hu with rfl | rfl | rfl | rfl | rfl <;> rfl
          go_wp2_with (first
            | (at_builtin; (refine wpList_append_sh _ rfl (.tmp 23) (.tmp 25) _ rfl w.heap.size 20 i0 _ 1 16 Tryz.underlying28 hi0 hz0 hz1 hz2 rfl (by omega) _ xs.length vsA rfl hoA1 _ _ 1 1 [.iface T0 u0] rfl hr1 hone1 m1 m2 m4 ?_); intro A1 c1 w5 o5 g5 t5; have k5 := k3a.grown g5 (Ne.symm hneX); have hoB5 := hoB1.kept g5 hneB; have hoB5a := hoB5.alloc (.cells #[.int .i64 x.kind, .bool x.b, .int .i64 x.n, .string x.t, .slice D x.l.length c] 48); have z5 := g5.size; have m5 : w.heap.size ≤ (w5.alloc (.cells #[.int .i64 x.kind, .bool x.b, .int .i64 x.n, .string x.t, .slice D x.l.length c] 48)).heap.size := (by simp at z5; simp; omega); have hr2 := Reads.newN w5 [.int .i64 x.kind, .bool x.b, .int .i64 x.n, .string x.t, .slice D x.l.length c] 48)
            | ((with_reducible refine wpList_load_blk rfl 48 (.tmp 7) rfl wr.heap.size ?_ 48 _ _ k5 Tryz.underlying48 ?_ Tryz.size_Cell ?_ ?_); rfl; rfl; rfl)
            | (at_builtin; (refine wpList_append_sh _ rfl (.tmp 27) (.tmp 29) _ rfl w.heap.size 48 i1 _ 5 64 Tryz.underlying26 hi1 hy0 hy1 hy2 rfl (by omega) _ xs.length vsB rfl hoB5a (w5.heap.size + 1) _ 1 1 [.int .i64 x.kind, .bool x.b, .int .i64 x.n, .string x.t, .slice D x.l.length c] rfl hr2 hone2 m1 m3 m5 ?_); intro B1 c2 w7 o7 g7 t7))
          have d2 : Below w5.heap.size w5 (w5.alloc (.cells #[.int .i64 x.kind, .bool x.b, .int .i64 x.n, .string x.t, .slice D x.l.length c] 48)) := (Below.refl _ _).alloc (Nat.le_refl _) _
          have oA5 : Own AnyE 20 w5 w.heap.size (fun b => w.heap.size ≤ b ∧ (Value.slice B xs.length cb).ownBlock ≠ some b) (.slice A1 (xs.length + 1) c1) (xs ++ [x]) :=
            Own.step (S := fun b => w.heap.size ≤ b ∧ (Value.slice B xs.length cb).ownBlock ≠ some b) (ER.flat_keep d1 hfA)
              (by
                refine ⟨_, rfl, (hv.below d1).mono (fun b _ hb => ⟨⟨by omega, fun e => ?_⟩, fun e => ?_⟩)⟩
                · have := hBlt2 b e; omega
                · have := hAlt2 b e; omega) o5 g5 t5
          have oB5 : Own CelO 48 w5 w.heap.size (fun b => b < w.heap.size) (.slice B xs.length cb) xs := Own.same ⟨vsB, hoB1, ER.flat_keep d1 hfB⟩ g5 hneB (fun b hb e => by have := (hoA1.lt b e).1; omega)
          have b5 := (b03.alloc b03.size (.cells #[.iface T0 u0] 20)).grown g5 (b03.alloc b03.size _).size (fun j hj => (hoA1.lt j hj).1)
          have b7 := (b5.alloc b5.size (.cells #[.int .i64 x.kind, .bool x.b, .int .i64 x.n, .string x.t, .slice D x.l.length c] 48)).grown g7 (b5.alloc b5.size _).size (fun j hj => (hoB5a.lt j hj).1)
          have oA7 : Own AnyE 20 w7 w.heap.size (fun b => w.heap.size ≤ b ∧ (Value.slice B1 (xs.length + 1) c2).ownBlock ≠ some b) (.slice A1 (xs.length + 1) c1) (xs ++ [x]) := by
            have q := (oA5.mono (S' := fun b => (w.heap.size ≤ b ∧ (Value.slice B xs.length cb).ownBlock ≠ some b) ∧ b < w5.heap.size) (fun b hl _ h => ⟨h, hl⟩)).below d2
            have q2 := q.same g7 (by
              obtain ⟨_, h1, _⟩ := q
              have h1 : _root_.Go.World.ownsRow _ w.heap.size 20 1 _ _ _ := h1
              exact own_own_ne h1 hoB5a (by decide)) (fun b hb => hb.1.2)
            refine q2.mono (fun b _ _ h => ⟨h.1.1, fun e => ?_⟩)
            rcases t7 with t | t
            · exact h.1.2 (t.symm.trans e)
            · have := Option.some.inj (e.symm.trans t)
              have h2 := h.2
              simp at this
              omega
          have hfB5 : ∃ vs, w5.ownsRow w.heap.size 48 5 (.slice B xs.length cb) xs.length vs ∧ CelO.flat w5 (fun b => b < w.heap.size ∧ (Value.slice B xs.length cb).ownBlock ≠ some b) vs xs := oB5
          have oB7 : Own CelO 48 w7 w.heap.size (fun b => b < w.heap.size) (.slice B1 (xs.length + 1) c2) (xs ++ [x]) := by
            have hD5 : Bs (w5.alloc (.cells #[.int .i64 x.kind, .bool x.b, .int .i64 x.n, .string x.t, .slice D x.l.length c] 48)) D x.l := ((hD3.below d1).sameS (S := fun b => b < w.heap.size) hat (.of_grown g5 (fun b hb e => by have := (hoA1.lt b e).1; omega))).below d2
            have hfl : CelO.flat w5 (fun b => b < w.heap.size ∧ (Value.slice B xs.length cb).ownBlock ≠ some b) vsB xs := by
              have h0 : CelO.flat w3 (fun b => b < w.heap.size ∧ (Value.slice B xs.length cb).ownBlock ≠ some b) vsB xs := hfB
              exact ER.flat_same (.of_grown g5 (fun b hb e => by have := (hoA1.lt b e).1; omega)) (ER.flat_keep d1 h0)
            exact Own.step (S := fun b => b < w.heap.size) (ER.flat_keep d2 hfl) ⟨D, c, rfl, hD5, fun ad e hn => ⟨hat ad e hn, fun e2 => by have := (hoB5a.lt _ e2).1; have := hat ad e hn; omega⟩, hc1, hc2, ht⟩ o7 g7 t7
          clear hoA hoB hfA hfB hoA1 hoB1 k3a hr1 hneB hneX oA5 oB5 hfB5 o5 g5 t5 o7 g7 t7 k5 hoB5 hoB5a hr2 k3 hD3 hAlt2 hBlt2 d1 d2
          go_wp2_with fail
          go_roundw
          case rel =>
            refine ⟨k + 1, A1, B1, c1, c2, by omega, by go_num, ?_⟩
            rw [HT2.out, List.length_append]
            exact ⟨rfl, rfl, oA7, oB7, b7⟩
          case measure => simp [intOf]; omega
    · obtain rfl : k = l.length := by omega
      rw [List.take_of_length_le (Nat.le_refl _)] at oA oB ⊢
      have hle := valsOf_le l
      have capA := oA.caps
      have capB := oB.caps
      have hA9 : Sl AnyE wr A (valsOf l) := oA.sl (by simp only [AnyE]; omega)
      have hB9 : Sl CelO wr B (valsOf l) := oB.sl (by simp only [CelO]; omega)
      generalize valsOf l = xs at *
      go_wp2_with fail
      go_ret2
      exact ⟨A, B, ca, cb, rfl, hA9, hB9, capA, capB, br⟩
theorem CraE.o_flat {w : World} {S : Nat → Prop} : ∀ {vs : List Value} {xs : List LCel}, CraE.flat w S vs xs → CraO.flat w S vs xs
  | _, [], h => h
  | _, _ :: _, ⟨v, r, e, ⟨D, c, e2, h1, h2, h3, h4, h5⟩, h6⟩ => ⟨v, r, e, ⟨D, c, e2, h1, h2, h3, h4, Nat.le_trans h5 (by decide)⟩, CraE.o_flat h6⟩
theorem CraE.o {w : World} {A : Option Addr} {S : Nat → Prop} {l : List LCel} (h : SlS CraE w S A l) : SlS CraO w S A l := by
  obtain ⟨h1, vs, h2, h3, h4⟩ := h
  exact ⟨h1, vs, h2, h3, CraE.o_flat h4⟩
theorem CelO.e_flat {w : World} {S : Nat → Prop} : ∀ {vs : List Value} {xs : List LVal}, CelO.flat w S vs xs → (∀ x ∈ xs, x.t.size ≤ 17592186043904) → CelE.flat w S vs xs
  | _, [], h, _ => h
  | _, x :: _, ⟨v, r, e, ⟨D, c, e2, h1, h2, h3, h4, _⟩, h6⟩, ht => ⟨v, r, e, ⟨D, c, e2, h1, h2, h3, h4, ht x (List.mem_cons_self ..)⟩, CelO.e_flat h6 fun y hy => ht y (List.mem_cons_of_mem _ hy)⟩
theorem CelO.e {w : World} {A : Option Addr} {S : Nat → Prop} {l : List LVal} (h : SlS CelO w S A l) (ht : ∀ x ∈ l, x.t.size ≤ 17592186043904) : SlS CelE w S A l := by
  obtain ⟨h1, vs, h2, h3, h4⟩ := h
  exact ⟨h1, vs, h2, h3, CelO.e_flat h4 ht⟩
/-- the values and the cells are answered -/
def RetVals (xs : List LVal) (w : World) (en : Ending) (w' : World) : Prop :=
  ∃ A B ca cb, en = .returned (.tuple #[.slice A xs.length ca, .slice B xs.length cb]) ∧ Sl AnyE w' A xs ∧ Sl CelE w' B xs ∧ (xs.length ≤ ca ∧ ca ≤ 9223372036854775807) ∧ (xs.length ≤ cb ∧ cb ≤ 9223372036854775807) ∧ Below w.heap.size w w'
theorem valsOf_t {l : List LCel} {M : Nat} (h : ∀ c ∈ l, c.t.size ≤ M) : ∀ x ∈ valsOf l, x.t.size ≤ M := by
  intro x hx
  unfold valsOf at hx
  obtain ⟨c, hc, rfl⟩ := List.mem_map.1 hx
  obtain ⟨hm, hg⟩ := List.mem_filter.1 hc
  have h2 : c.val.t = c.t := congrArg LCel.t (LCel.good_cel hg).1
  rw [h2]
  exact h c hm
theorem vals_any (l : List LCel) (C : Option Addr) (cc : Nat) (w : World) (hC : Sl CraE w C l) : Calls Tryz.prog 5 #[.slice C l.length cc] w (RetVals (valsOf l) w) := by
  have ht : ∀ c ∈ l, c.t.size ≤ 17592186043904 := fun c hc => by
    obtain ⟨vs, D, e, _, _, _, _, _, h⟩ := SlS.all hC c hc
    exact h
  refine (valsO_any l C cc w (CraE.o hC)).mono ?_
  rintro en w2 ⟨V, D, cv, cd, rfl, sV, sD, c1, c2, b⟩
  exact ⟨V, D, cv, cd, rfl, sV, CelO.e sD (valsOf_t ht), c1, c2, b⟩
end Go.Proofs.YtfededjcadmpbaaGreatDoor
