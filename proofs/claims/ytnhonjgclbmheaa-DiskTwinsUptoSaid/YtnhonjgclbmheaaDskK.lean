/- awake, and the walk of DiskKeeps. -/
import Derived.Test.YtnhonjgclbmheaaDskL
import Derived.Test.YtnhonjgclbmheaaEqR
namespace Go.Proofs.Ytnhonjgclbmheaa
open Go.RowKit
open Go.Maps

theorem psok_one {nm l : List UInt8} {s : Nat} (h1 : nm.length ≤ 140737488355328) (h2 : l.length ≤ 70368744177664) : PsOk [(nm, l, s)] :=
  ⟨by show 1 ≤ 1048576; decide, by show l.length + 0 ≤ _; omega, fun q hq => by rw [List.mem_singleton.1 hq]; exact h1⟩
theorem psok_nil : PsOk [] := ⟨by decide, by decide, fun _ h => by cases h⟩
theorem ldok_new (n : Nat) (h : n ≤ 9223372036854775807) : LdOk ⟨max 0 (n : Int), false, 0, false⟩ := ⟨⟨by show (0 : Int) ≤ max 0 (n : Int); omega, by show max 0 (n : Int) ≤ _; omega⟩, fun h => by cases h⟩
theorem crash_fix : crashP [2] [([97], [1, 2, 3, 4, 5], 2)] = [([97], [1, 2, 3, 4], 4)] := by
  unfold crashP
  rw [show ([([97], [1, 2, 3, 4, 5], 2)] : List PFile).map (·.1) = [[97]] from rfl, sortN_of (List.pairwise_singleton _ _)]
  rfl
theorem IntE.lit (w : World) (l : List Int) (t : TypeId) (F : Nat → Prop) (hl : l.length * 8 ≤ 140737488351232) (hw : ∀ n ∈ l, (Lit.int .i64 n).wf = true) (hF : ∀ g, w.heap.size ≤ g → F g) : SlS IntE (w.alloc (.cells (l.map (Value.int .i64)).toArray t)) F (some ⟨w.heap.size, 0, none⟩) l := by
  refine ⟨hl, l.map (Value.int .i64), ⟨by rw [List.length_map]; exact (Nat.mul_one _).symm, fun _ => ⟨_, rfl, by simp, fun j u hu => ?_⟩⟩, fun ad e _ => by injection e with e; rw [← e]; exact hF _ (Nat.le_refl _), ?_⟩
  · rw [add_row, cell_of_row _ _ _ _ _ _ (heap_alloc_new w _)]
    simpa using hu
  · clear hl
    generalize w.alloc (.cells (l.map (Value.int .i64)).toArray t) = W
    induction l with
    | nil => rfl
    | cons x r ih => exact ⟨[.int .i64 x], r.map (Value.int .i64), rfl, ⟨rfl, hw x (List.mem_cons_self ..)⟩, ih (fun n hn => hw n (List.mem_cons_of_mem _ hn))⟩
set_option maxRecDepth 100000 in
set_option maxHeartbeats 2000000 in
theorem awake_any (w : World) : Calls Try.prog 6 #[] w (fun en w' => en = .returned (.bool true) ∧ Below w.heap.size w w') := by
  go_enter Try.func6, Try.ntmps6
  go_wp2_with fail
  refine (newD_any 10 w).mono ?_
  rintro en w1 ⟨rfl, hd1, b1⟩
  have ho : LdOk ⟨max 0 10, false, 0, false⟩ := ldok_new 10 (by decide)
  replace hd1 := hd1.mono (F' := (· < w.heap.size)) (fun g h => by omega)
  generalize hB : w.heap.size = B at *
  have dl : Below w1.heap.size w1 (w1.alloc (.cells #[.int .u8 1, .int .u8 2] 5)) := (Below.refl _ _).alloc (Nat.le_refl _) _
  have hbs : Bs (w1.alloc (.cells #[.int .u8 1, .int .u8 2] 5)) (some ⟨w1.heap.size, 0, none⟩) [1, 2] := Bs.lit w1 [1, 2] 5 (by decide)
  have hd2 := hd1.below dl
  have T := appendD_any hd2 psok_nil ho [97] _ [1, 2] 2 hbs (fun ad e _ => .inr (by injection e with e; rw [← e]; exact Nat.le_refl _)) (by decide) (by decide)
  have b1l : Below B w (w1.alloc (.cells #[.int .u8 1, .int .u8 2] 5)) := b1.trans (dl.mono (by have := b1.size; omega))
  have l1 : B ≤ w1.heap.size := by have := b1.size; omega
  go_wp2_with fail
  refine T.mono ?_
  rintro en w2 ⟨rfl, h2⟩
  obtain ⟨b2, hd2⟩ := h2.low b1l (by simp; omega) (fun g h => .inl h)
  replace hd2 : DD w2 B (· < B) ⟨10, false, 0, false⟩ [([97], [1, 2], 0)] := hd2
  clear T h2 hd1 dl hbs b1l b1
  have T := syncD_any hd2 (psok_one (by decide) (by decide)) ho [97] (by decide)
  go_wp2_with fail
  refine T.mono ?_
  rintro en w3 ⟨rfl, h3⟩
  have l2 : B ≤ w2.heap.size := by have := b2.size; omega
  obtain ⟨b3, hd3⟩ := h3.low b2 l2 (fun g h => h)
  replace hd3 : DD w3 B (· < B) ⟨10, false, 0, false⟩ [([97], [1, 2], 2)] := hd3
  clear T h3 hd2 b2 l2
  have dl : Below w3.heap.size w3 (w3.alloc (.cells #[.int .u8 3, .int .u8 4, .int .u8 5] 5)) := (Below.refl _ _).alloc (Nat.le_refl _) _
  have hbs : Bs (w3.alloc (.cells #[.int .u8 3, .int .u8 4, .int .u8 5] 5)) (some ⟨w3.heap.size, 0, none⟩) [3, 4, 5] := Bs.lit w3 [3, 4, 5] 5 (by decide)
  have hd4 := hd3.below dl
  have T := appendD_any hd4 (psok_one (by decide) (by decide)) ho [97] _ [3, 4, 5] 3 hbs (fun ad e _ => .inr (by injection e with e; rw [← e]; exact Nat.le_refl _)) (by decide) (by decide)
  have l3 : B ≤ w3.heap.size := by have := b3.size; omega
  have b3l : Below B w (w3.alloc (.cells #[.int .u8 3, .int .u8 4, .int .u8 5] 5)) := b3.trans (dl.mono l3)
  go_wp2_with fail
  refine T.mono ?_
  rintro en w4 ⟨rfl, h4⟩
  obtain ⟨b4, hd5⟩ := h4.low b3l (by simp; omega) (fun g h => .inl h)
  replace hd5 : DD w4 B (· < B) ⟨10, false, 0, false⟩ [([97], [1, 2, 3, 4, 5], 2)] := hd5
  clear T h4 hd3 hd4 dl hbs b3l b3
  have l4 : B ≤ w4.heap.size := by have := b4.size; omega
  have dl : Below w4.heap.size w4 (w4.alloc (.cells #[.int .i64 2] 3)) := (Below.refl _ _).alloc (Nat.le_refl _) _
  have hk : SlS IntE (w4.alloc (.cells #[.int .i64 2] 3)) (fun g => g < B ∨ w4.heap.size ≤ g) (some ⟨w4.heap.size, 0, none⟩) [2] := IntE.lit w4 [2] 3 _ (by decide) (by decide) (fun g h => .inr h)
  have T := crashD_any (hd5.below dl) (psok_one (by decide) (by decide)) _ [2] 1 hk
  rw [crash_fix] at T
  have b4l : Below B w (w4.alloc (.cells #[.int .i64 2] 3)) := b4.trans (dl.mono l4)
  go_wp2_with fail
  refine T.mono ?_
  rintro en w5 ⟨rfl, h5⟩
  obtain ⟨b5, hd6⟩ := h5.low b4l (by simp; omega) (fun g h => .inl h)
  clear T h5 hd5 dl hk b4l b4
  have T := readD_any hd6 [97] (by decide)
  have l5 : B ≤ w5.heap.size := by have := b5.size; omega
  go_wp2_with fail
  refine T.mono ?_
  rintro en w6 ⟨A6, c6, rfl, o6, b6⟩
  replace o6 : OwnB w5.heap.size w6 A6 [1, 2, 3, 4] c6 := o6
  have b06 : Below B w w6 := b5.trans (b6.mono l5)
  have dl : Below w6.heap.size w6 (w6.alloc (.cells #[.int .u8 1, .int .u8 2, .int .u8 3, .int .u8 4] 5)) := (Below.refl _ _).alloc (Nat.le_refl _) _
  have hbs : Bs (w6.alloc (.cells #[.int .u8 1, .int .u8 2, .int .u8 3, .int .u8 4] 5)) (some ⟨w6.heap.size, 0, none⟩) [1, 2, 3, 4] := Bs.lit w6 [1, 2, 3, 4] 5 (by decide)
  have T2 := equal_any A6 _ [1, 2, 3, 4] [1, 2, 3, 4] c6 4 _ ((OwnB.bs o6 (by decide)).below dl) hbs
  have b6l : Below B w (w6.alloc (.cells #[.int .u8 1, .int .u8 2, .int .u8 3, .int .u8 4] 5)) := b06.trans (dl.mono (by have := b06.size; omega))
  clear T o6 hbs dl b06
  go_wp2_with fail
  refine T2.mono ?_
  rintro en w7 ⟨rfl, n7, rfl⟩
  go_wp2_with fail
  go_ret
  rw [hB]
  exact ⟨rfl, below_drewN b6l _⟩
theorem At.own {b : Nat} {w : World} {A : Option Addr} {l : List UInt8} {c : Nat} {F : Nat → Prop} (h : OwnB b w A l c) (hF : ∀ g, b ≤ g → g < w.heap.size → F g) : At F A l.length := (OwnB.at_ h).mono' fun g hg => hF g hg.1 hg.2
set_option maxRecDepth 100000 in
set_option maxHeartbeats 4000000 in
theorem diskkeeps_any (A : Option Addr) (a : List UInt8) (c : Nat) (B : Option Addr) (b : List UInt8) (d : Nat) (w : World)
    (ha : Bs w A a) (hac : a.length ≤ c ∧ c ≤ 140737488351232) (hb : Bs w B b) (hbc : b.length ≤ d ∧ d ≤ 140737488351232) :
    Calls Try.prog 3 #[.slice A a.length c, .slice B b.length d] w fun e w' => e = .returned (.bool true) ∧ Below w.heap.size w w' := by
  have hal : a.length ≤ 140737488351232 := by omega
  have hbl : b.length ≤ 140737488351232 := by omega
  clear hac hbc
  go_enter Try.func3, Try.ntmps3
  go_wp2_with fail
  refine (awake_any _).mono ?_
  rintro e w1 ⟨rfl, b1⟩
  go_wp2_with fail
  refine (spare_any _ _ _ _ (ha.below b1) hal).mono ?_
  rintro e w2 ⟨rfl, s2, b2⟩
  have b02 := below_step b1 b2
  go_wp2_with fail
  refine (newD_any 1048576 _).mono ?_
  rintro en w3 ⟨rfl, hd3, b3⟩
  have b03 := below_step b02 b3
  have s3 := s2.below b3 s2.lt
  have lS : w1.heap.size < w2.heap.size := s2.lt
  have l3 : w2.heap.size < w3.heap.size := hd3.lt
  by_cases hbig : 262144 < a.length + b.length
  · have hbg : (262144 : Int) < (a.length : Int) + (b.length : Int) := by omega
    go_wp2_with fail
    go_ret
    exact ⟨rfl, b03⟩
  have hbg : ¬ (262144 : Int) < (a.length : Int) + (b.length : Int) := by omega
  have hX : Bs w3 (some ⟨w1.heap.size, 0, none⟩) a := bs_spare s3 hal
  have ho : LdOk ⟨max 0 1048576, false, 0, false⟩ := ldok_new 1048576 (by decide)
  have hw1 := b1.size
  have e1 : appP ⟨max 0 1048576, false, 0, false⟩ [] [102] a = (0, ⟨max 0 1048576, false, 0, false⟩, [([102], a, 0)]) := by
    rw [appP_ok rfl rfl (by show (0 : Int) + (a.length : Int) ≤ 1048576; omega)]
    rfl
  have T := appendD_any hd3 psok_nil ho [102] _ a (a.length + 40) hX (fun ad e _ => by injection e with e; rw [← e]; show w1.heap.size ≠ w2.heap.size; omega) (by decide) (by omega)
  rw [e1] at T
  clear e1
  generalize hdb : w2.heap.size = db at *
  go_wp2_with fail
  refine T.mono ?_
  rintro en w4 ⟨rfl, hd4, p4⟩
  clear T
  have b04 := p4.low b03 b03.size (fun g h => by omega)
  have s4 := p4.blk s3 (by omega)
  have hb4 : Bs w4 B b := hb.below b04
  have l4 := p4.size
  have hbA := hb.at_lt
  replace hd4 := hd4.mono (F' := fun g => g < w.heap.size ∨ g = w1.heap.size) (fun g h => by omega)
  have e1 : appP ⟨max 0 1048576, false, 0, false⟩ [([102], a, 0)] [102] b = (0, ⟨max 0 1048576, false, 0, false⟩, [([102], a ++ b, 0)]) := by
    rw [appP_ok rfl rfl (by show ((a.length + 0 : Nat) : Int) + (b.length : Int) ≤ 1048576; omega)]
    rfl
  have T := appendD_any hd4 (psok_one (by decide) (by omega)) ho [102] B b d hb4 (hbA.mono' fun g h => .inl h) (by decide) (by omega)
  rw [e1] at T
  clear e1
  go_wp2_with fail
  refine T.mono ?_
  rintro en w5 ⟨rfl, hd5, p5⟩
  clear T
  have b05 := p5.low b04 b04.size (fun g h => .inl h)
  have s5 := p5.blk s4 (.inr rfl)
  have l5 := p5.size
  replace hd5 := hd5.mono (F' := fun g => g < w.heap.size ∨ g = w1.heap.size) (fun g h => ⟨h, by omega⟩)
  have hab : (a ++ b).length ≤ 262144 := by rw [List.length_append]; omega
  obtain ⟨ab, hab2⟩ : ∃ ab, ab = a ++ b := ⟨_, rfl⟩
  rw [← hab2] at hab hd5
  have HAB := Lib.hid hab2
  clear hab2
  have T := readD_any hd5 [102] (by decide)
  rw [show readP ⟨max 0 1048576, false, 0, false⟩ [([102], ab, 0)] [102] = (ab, 0) from rfl] at T
  go_wp2_with fail
  refine T.mono ?_
  clear T
  rintro en w6 ⟨A6, c6, rfl, o6, b6⟩
  replace o6 : OwnB w5.heap.size w6 A6 ab c6 := o6
  have U6 : Hid (∀ g, (Value.slice A6 ab.length c6).ownBlock = some g → w5.heap.size ≤ g ∧ g < w6.heap.size) := OwnB.lt o6
  have b06 := below_step b05 b6
  have s6 := s5.below b6 s5.lt
  have l6 := b6.size
  have hd6 := (hd5.below b6).mono (F' := fun g => g < w.heap.size ∨ g = w1.heap.size ∨ w5.heap.size ≤ g) (fun g h => by omega)
  have T := readD_any hd6 [102] (by decide)
  rw [show readP ⟨max 0 1048576, false, 0, false⟩ [([102], ab, 0)] [102] = (ab, 0) from rfl] at T
  go_wp2_with fail
  refine T.mono ?_
  clear T
  rintro en w7 ⟨A7, c7, rfl, o7, b7⟩
  replace o7 : OwnB w6.heap.size w7 A7 ab c7 := o7
  have b07 := below_step b06 b7
  have s7 := s6.below b7 s6.lt
  have l7 := b7.size
  have hd7 := (hd6.below b7).mono (F' := fun g => g < w.heap.size ∨ g = w1.heap.size ∨ w5.heap.size ≤ g) (fun g h => .inl h)
  have o67 := OwnB.below o6 b7
  have T := kept_any (some ⟨w1.heap.size, 0, none⟩) A a (a.length + 40) c w7 (by
    have := own_of_spare s7 hal (Nat.le_refl _)
    rw [← spL_length] at this
    exact Bs.of_own this (by rw [spL_length]; omega)) (ha.below b07)
  have fS : OwnB w1.heap.size w7 (some ⟨w1.heap.size, 0, none⟩) (spL a) (a.length + 40) := by
    have h := own_of_spare s7 hal (Nat.le_refl w1.heap.size)
    show w7.ownsRow _ _ _ (.slice _ (spL a).length _) (spL a).length _
    rw [spL_length]
    exact h
  clear hd3 hd4 hd5 hd6 s2 s3 s4 s5 s6 s7 p4 p5 b02 b03 b04 b05 b06 o6 hX hb4
  go_wp2_with fail
  refine T.mono ?_
  clear T
  rintro en w7' ⟨rfl, n7, rfl⟩
  have hd8 : DD (w7.drewN n7) db (fun g => g < w.heap.size ∨ g = w1.heap.size ∨ w5.heap.size ≤ g) ⟨max 0 1048576, false, 0, false⟩ [([102], ab, 0)] :=
    (hd7.below (below_drewN (Below.refl _ _) n7)).mono (fun g h => .inl h)
  have b08 : Below w.heap.size w (w7.drewN n7) := below_drewN b07 _
  have fS8 : OwnB w1.heap.size (w7.drewN n7) (some ⟨w1.heap.size, 0, none⟩) (spL a) (a.length + 40) := fS
  have o68 : OwnB w5.heap.size (w7.drewN n7) A6 ab c6 := o67
  have o78 : OwnB w6.heap.size (w7.drewN n7) A7 ab c7 := o7
  have U7 : Hid (∀ g, (Value.slice A7 ab.length c7).ownBlock = some g → w6.heap.size ≤ g ∧ g < (w7.drewN n7).heap.size) := OwnB.lt o78
  have l8 : w6.heap.size ≤ (w7.drewN n7).heap.size := l7
  clear hd7 b07 fS o67 o7 b6 b7 l7
  generalize w7.drewN n7 = w8 at *
  have T := over_any w1.heap.size (some ⟨w1.heap.size, 0, none⟩) (spL a) (a.length + 40) a.length (a.length + 40) w8 fS8 (by rw [spL_length]; omega) (by rw [spL_length]; omega)
  go_wp2_with fail
  refine T.mono ?_
  clear T
  rintro en w9 ⟨rfl, L', hL', fS9, g9⟩
  rw [spL_length] at hL'
  replace g9 : w8.grownBy w9 (some w1.heap.size) := g9
  have l9 := g9.size
  have b09 : Below w.heap.size w w9 := b08.grown g9 b08.size (fun j hj => by have := Option.some.inj hj; omega)
  have hd9 := (hd8.grown g9 (fun g e => .inl (.inr (.inl (Option.some.inj e).symm)))).mono (F' := fun g => g < w.heap.size ∨ g = w1.heap.size ∨ w5.heap.size ≤ g) (fun g h => .inl h)
  have o69 := OwnB.kept o68 g9 (fun g h e => by have := (OwnB.lt o68 g h).1; have := Option.some.inj e; omega)
  have o79 := OwnB.kept o78 g9 (fun g h e => by have := (OwnB.lt o78 g h).1; have := Option.some.inj e; omega)
  have hx9 : Bs w9 (some ⟨w1.heap.size, 0, none⟩) (L'.take a.length) := (OwnB.bs fS9 (by omega)).take3 a.length (by omega)
  have hxl : (L'.take a.length).length = a.length := by rw [List.length_take]; omega
  have e1 : appP ⟨max 0 1048576, false, 0, false⟩ [([102], ab, 0)] [103] (L'.take a.length) = (0, ⟨max 0 1048576, false, 0, false⟩, [([103], L'.take a.length, 0), ([102], ab, 0)]) := by
    rw [appP_ok rfl rfl (by show ((ab.length + 0 : Nat) : Int) + ((L'.take a.length).length : Int) ≤ 1048576; rw [hxl]; omega)]
    rfl
  have T := appendD_any hd9 (psok_one (by decide) (by omega)) ho [103] _ (L'.take a.length) (a.length + 40) hx9 (fun ad e _ => .inr (.inl (by injection e with e; rw [← e]))) (by decide) (by omega)
  rw [e1, hxl] at T
  clear e1
  have HL := Lib.hid hL'
  clear hd8 fS8 o68 o78 hL' hxl hx9 g9 b08
  go_wp2_with fail
  refine T.mono ?_
  clear T
  rintro en w10 ⟨rfl, hd10, p10⟩
  have b010 := p10.low b09 b09.size (fun g h => .inl h)
  have l10 := p10.size
  have fS10 := p10.own fS9 (fun g h => .inr (.inl (by injection h with h; exact h.symm)))
  have o610 := p10.own o69 (fun g h => .inr (.inr (OwnB.lt o69 g h).1))
  have o710 := p10.own o79 (fun g h => .inr (.inr (by have := (OwnB.lt o79 g h).1; omega)))
  replace hd10 := hd10.mono (F' := fun g => g < w.heap.size ∨ g = w1.heap.size ∨ (w5.heap.size ≤ g ∧ g < w9.heap.size)) (fun g h => by have := b09.size; omega)
  clear p10 hd9 fS9 o69 o79 b09
  have T := copy_any A a c w10 (ha.below b010)
  go_wp2_with fail
  refine T.mono ?_
  clear T
  rintro en w11 ⟨A11, c11, rfl, o11, b11⟩
  replace o11 : OwnB w10.heap.size w11 A11 a c11 := o11
  have hb11 := hb.below (below_step b010 b11)
  go_upto_region 16 with (at_builtin; refine wpList_app w10.heap.size w10 _ rfl (.tmp 57) (.tmp 58) rfl A11 a c11 rfl o11 B b d rfl hb11 (by omega) b11 (Nat.le_refl _) b11.size ?_; intro A12 c12 wt w12 HW o12 b12 g12 t12)
  have hwt : wt = ab := HW.out.trans HAB.out.symm
  subst hwt
  have b012 := below_step b010 b12
  have hd12 := (hd10.below b12).mono (F' := fun g => g < w.heap.size ∨ g = w1.heap.size ∨ (w5.heap.size ≤ g ∧ g < w9.heap.size) ∨ w10.heap.size ≤ g) (fun g h => by omega)
  have fS12 := OwnB.below fS10 b12
  have o612 := OwnB.below o610 b12
  have o712 := OwnB.below o710 b12
  have l12 := b12.size
  have U12 : Hid (∀ g, (Value.slice A12 wt.length c12).ownBlock = some g → w10.heap.size ≤ g ∧ g < w12.heap.size) := OwnB.lt o12
  clear hd10 fS10 o610 o710 HW HAB o11 b11 hb11 g12 t12 b010 b12
  have T := readD_any hd12 [102] (by decide)
  rw [show readP ⟨max 0 1048576, false, 0, false⟩ [([103], L'.take a.length, 0), ([102], wt, 0)] [102] = (wt, 0) from rfl] at T
  go_wp2_with fail
  refine T.mono ?_
  clear T
  rintro en w13 ⟨A13, c13, rfl, o13, b13⟩
  replace o13 : OwnB w12.heap.size w13 A13 wt c13 := o13
  have U13 : Hid (∀ g, (Value.slice A13 wt.length c13).ownBlock = some g → w12.heap.size ≤ g ∧ g < w13.heap.size) := OwnB.lt o13
  have b013 := below_step b012 b13
  have hd13 := (hd12.below b13).mono (F' := fun g => g < w.heap.size ∨ g = w1.heap.size ∨ (w5.heap.size ≤ g ∧ g < w9.heap.size) ∨ w10.heap.size ≤ g) (fun g h => .inl h)
  have fS13 := OwnB.below fS12 b13
  have o613 := OwnB.below o612 b13
  have o713 := OwnB.below o712 b13
  have o123 := OwnB.below o12 b13
  have l13 := b13.size
  clear hd12 fS12 o612 o712 o12 b012 b13
  have hrf : (wt == wt) = true := by simp
  have T1 := fun (W : World) (A B : Option Addr) (c d : Nat) (h1 : Bs W A wt) (h2 : Bs W B wt) => equal_any A B wt wt c d W h1 h2
  rw [hrf] at T1
  clear hrf
  have HT1 := Lib.hid T1
  clear T1
  go_wp2_with fail
  refine (HT1.out _ _ _ _ _ (OwnB.bs o613 (by omega)) (OwnB.bs o123 (by omega))).mono ?_
  rintro en wz ⟨rfl, n1, rfl⟩
  go_wp2_with fail
  refine (HT1.out (w13.drewN n1) _ _ _ _ (OwnB.bs o13 (by omega)) (OwnB.bs o123 (by omega))).mono ?_
  rintro en wz ⟨rfl, n2, rfl⟩
  have be : Below w13.heap.size w13 ((w13.drewN n1).drewN n2) := below_drewN (below_drewN (Below.refl _ _) _) _
  have b014 := below_step b013 be
  have hd14 := (hd13.below be).mono (F' := fun g => g < w.heap.size ∨ g = w1.heap.size ∨ (w5.heap.size ≤ g ∧ g < w9.heap.size) ∨ w10.heap.size ≤ g) (fun g h => .inl h)
  have fS14 := OwnB.below fS13 be
  have o614 := OwnB.below o613 be
  have o714 := OwnB.below o713 be
  have o124 := OwnB.below o123 be
  have o134 := OwnB.below o13 be
  have l14 := be.size
  clear hd13 fS13 o613 o713 o123 o13 b013 be
  try simp only [World.drewN_drewN] at b014 hd14 fS14 o614 o714 o124 o134 l14 ⊢
  generalize w13.drewN (n1 + n2) = w14 at *
  obtain ⟨ROW, hROW⟩ : ∃ ROW : Array Value, ROW = #[.slice (some ⟨w1.heap.size, 0, none⟩) (a.length + 40) (a.length + 40), .slice A6 wt.length c6, .slice A7 wt.length c7, .slice A13 wt.length c13] := ⟨_, rfl⟩
  have d15 : Below w14.heap.size w14 (w14.alloc (.cells #[.slice (some ⟨w1.heap.size, 0, none⟩) (a.length + 40) (a.length + 40), .slice A6 wt.length c6, .slice A7 wt.length c7, .slice A13 wt.length c13] 22)) := (Below.refl _ _).alloc (Nat.le_refl _) _
  have b015 := below_step b014 d15
  have hd15 := (hd14.below d15).mono (F' := fun g => g < w.heap.size ∨ g = w1.heap.size ∨ (w5.heap.size ≤ g ∧ g < w9.heap.size) ∨ w10.heap.size ≤ g) (fun g h => .inl h)
  have fS15 := OwnB.below fS14 d15
  have o615 := OwnB.below o614 d15
  have o715 := OwnB.below o714 d15
  have o125 := OwnB.below o124 d15
  have o135 := OwnB.below o134 d15
  have kR := Blk.new w14 22 #[.slice (some ⟨w1.heap.size, 0, none⟩) (a.length + 40) (a.length + 40), .slice A6 wt.length c6, .slice A7 wt.length c7, .slice A13 wt.length c13]
  clear hd14 fS14 o614 o714 o124 o134 b014 hROW ROW
  have l15 := d15.size
  go_wp2_with fail
  generalize (w14.alloc (.cells #[.slice (some ⟨w1.heap.size, 0, none⟩) (a.length + 40) (a.length + 40), .slice A6 wt.length c6, .slice A7 wt.length c7, .slice A13 wt.length c13] 22)) = w15 at *
  obtain ⟨rs, hrs⟩ : ∃ rs : List R3, rs = [(some ⟨w1.heap.size, 0, none⟩, L', a.length + 40), (A6, wt, c6), (A7, wt, c7), (A13, wt, c13)] := ⟨_, rfl⟩
  have hR : RowsIs w14.heap.size w15 (some ⟨w14.heap.size, 0, none⟩) 4 rs := by
    unfold RowsIs
    rw [hrs]
    show w15.ownsRow _ _ 1 (.slice _ 4 4) 4 [.slice _ L'.length _, .slice _ _ _, .slice _ _ _, .slice _ _ _]
    rw [HL.out]
    exact own_of_blk (xs := [.slice (some ⟨w1.heap.size, 0, none⟩) (a.length + 40) (a.length + 40), .slice A6 wt.length c6, .slice A7 wt.length c7, .slice A13 wt.length c13]) kR (Nat.le_refl _) (by show 4 ≤ maxLen; unfold maxLen; decide)
  have hv0 : ∀ g, (R3.v (some ⟨w1.heap.size, 0, none⟩, L', a.length + 40)).ownBlock = some g → g = w1.heap.size := fun g e => (Option.some.inj e).symm
  have hS : Sep 0 w15 rs := by
    rw [hrs]
    refine ⟨fun r hr => ?_, ?_⟩
    · simp only [List.mem_cons, List.not_mem_nil, or_false] at hr
      rcases hr with rfl | rfl | rfl | rfl
      · exact OwnB.base fS15 (Nat.zero_le _)
      · exact OwnB.base o615 (Nat.zero_le _)
      · exact OwnB.base o715 (Nat.zero_le _)
      · exact OwnB.base o135 (Nat.zero_le _)
    · have k1 : w1.heap.size < w5.heap.size := by omega
      refine List.pairwise_cons.2 ⟨fun s hs g h1 h2 => ?_, List.pairwise_cons.2 ⟨fun s hs g h1 h2 => ?_, List.pairwise_cons.2 ⟨fun s hs g h1 h2 => ?_, List.pairwise_singleton _ _⟩⟩⟩
      · have h3 := hv0 g h1
        simp only [List.mem_cons, List.not_mem_nil, or_false] at hs
        rcases hs with rfl | rfl | rfl
        · have := U6.out g h2; omega
        · have := U7.out g h2; omega
        · have := U13.out g h2; omega
      · have h3 := U6.out g h1
        simp only [List.mem_cons, List.not_mem_nil, or_false] at hs
        rcases hs with rfl | rfl
        · have := U7.out g h2; omega
        · have := U13.out g h2; omega
      · have h3 := U7.out g h1
        simp only [List.mem_cons, List.not_mem_nil, or_false] at hs
        rcases hs with rfl
        have := U13.out g h2; omega
  have hcase : ∀ g, (∃ r ∈ rs, (R3.v r).ownBlock = some g) → g = w1.heap.size ∨ (w5.heap.size ≤ g ∧ g < w9.heap.size) ∨ (w12.heap.size ≤ g ∧ g < w13.heap.size) := by
    rintro g ⟨r, hr, he⟩
    rw [hrs] at hr
    simp only [List.mem_cons, List.not_mem_nil, or_false] at hr
    rcases hr with rfl | rfl | rfl | rfl
    · exact .inl (hv0 g he)
    · have := U6.out g he; exact .inr (.inl (by omega))
    · have := U7.out g he; exact .inr (.inl (by omega))
    · exact .inr (.inr (U13.out g he))
  have hrl : rs.length = 4 := by rw [hrs]; rfl
  have hrn : ∀ r ∈ rs, r.2.1.length ≤ 140737488355000 := by
    intro r hr
    rw [hrs] at hr
    simp only [List.mem_cons, List.not_mem_nil, or_false] at hr
    have h1 := HL.out
    rcases hr with rfl | rfl | rfl | rfl
    · show L'.length ≤ _; omega
    · show wt.length ≤ _; omega
    · show wt.length ≤ _; omega
    · show wt.length ≤ _; omega
  have T := apartP_sep w14.heap.size 0 (fun k => k < w15.heap.size ∧ ∀ r ∈ rs, (R3.v r).ownBlock ≠ some k) w15 _ 4 rs hR hS (by omega) (by omega) hrn (fun k h => h.1) (fun r hr g he h => h.2 r hr he)
  rw [hrl] at T
  have key : ∀ g, g < w15.heap.size → (g < w.heap.size ∨ (w10.heap.size ≤ g ∧ g < w12.heap.size)) → g < w15.heap.size ∧ ∀ r ∈ rs, (R3.v r).ownBlock ≠ some g := fun g h1 h2 => ⟨h1, fun r hr he => by have := hcase g ⟨r, hr, he⟩; have := b015.size; omega⟩
  have hF : ∀ g, g < w15.heap.size → ¬ (g < w15.heap.size ∧ ∀ r ∈ rs, (R3.v r).ownBlock ≠ some g) → g < w.heap.size ∨ g = w1.heap.size ∨ (w5.heap.size ≤ g ∧ g < w9.heap.size) ∨ w10.heap.size ≤ g := fun g h1 h2 => by
    have h3 : ∃ r ∈ rs, (R3.v r).ownBlock = some g := Classical.byContradiction fun h => h2 ⟨h1, fun r hr he => h ⟨r, hr, he⟩⟩
    have := hcase g h3
    omega
  have KEY := Lib.hid key
  have HFF := Lib.hid hF
  clear hcase key hF hv0 hR hS hrn hrl hrs kR fS15 o615 o715 o135
  refine T.mono ?_
  clear T
  rintro en w16 ⟨rfl, p16⟩
  have b016 : Below w.heap.size w w16 := b015.trans ⟨p16.os, p16.tape, p16.output, p16.size, fun k hk => p16.block k (by have := b015.size; omega) (KEY.out k (by have := b015.size; omega) (.inl hk))⟩
  have hd16 := hd15.blp p16 (fun g h1 h2 => HFF.out g h1 h2)
  have o1216 := p16.own o125 (fun g h => KEY.out g (OwnB.lt o125 g h).2 (.inr (U12.out g h)))
  clear KEY HFF p16 hd15 o125 b015
  have T := readD_any hd16 [102] (by decide)
  rw [show readP ⟨max 0 1048576, false, 0, false⟩ [([103], L'.take a.length, 0), ([102], wt, 0)] [102] = (wt, 0) from rfl] at T
  go_wp2_with fail
  refine T.mono ?_
  clear T
  rintro en w17 ⟨A17, c17, rfl, o17, b17⟩
  replace o17 : OwnB w16.heap.size w17 A17 wt c17 := o17
  have b017 := below_step b016 b17
  have o1217 := OwnB.below o1216 b17
  go_wp2_with fail
  refine (HT1.out _ _ _ _ _ (OwnB.bs o17 (by omega)) (OwnB.bs o1217 (by omega))).mono ?_
  rintro en wz ⟨rfl, n3, rfl⟩
  go_wp2_with fail
  go_ret
  exact ⟨rfl, below_drewN b017 _⟩
end Go.Proofs.Ytnhonjgclbmheaa
