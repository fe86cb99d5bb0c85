/- The law BloomKeeps: the walk. -/
import Derived.Test.YtkgggifliafclaaUnions
import Derived.Test.YtkgggifliafclaaSpare
namespace Go.Proofs.Ytkgggifliafclaa
open Go.RowKit

/-- the union of a filter and itself -/
theorem union_same {f : List UInt8} (hg : goodB f = true) : unionE f f = 0 ∧ unionL f f = f := by
  have hE : unionE f f = 0 := by unfold unionE; rw [hg]; simp
  refine ⟨hE, ?_⟩
  unfold unionL
  rw [if_pos hE]
  apply List.ext_getElem?
  intro j
  by_cases hj : j < f.length
  · rw [orTo_get _ _ _ _ hj, List.getElem?_eq_getElem hj]
    have e : f.getD j 0 = f[j] := by simp [List.getD, hj]
    rw [e]
    split
    · rw [show f[j] ||| f[j] = f[j] from by rw [← UInt8.toNat_inj, UInt8.toNat_or, Nat.or_self]]
    · rfl
  · rw [List.getElem?_eq_none (by rw [orTo_length]; omega), List.getElem?_eq_none (by omega)]

theorem bs_of_blk {w : World} {g n : Nat} {l : List UInt8} {t : TypeId} (h : Blk w g t (l.map bval).toArray) (hl : l.length ≤ 140737488355328) (k : Nat) (hk : k ≤ l.length) (hn : n = k) : Bs w (some ⟨g, 0, none⟩) (l.take k) ∧ n = (l.take k).length := by
  subst hn
  have e : (l.take n).length = n := by simp; omega
  refine ⟨⟨⟨by simp, fun _ => ⟨_, rfl, h.lt, fun j u hu => ?_⟩⟩, by omega⟩, e.symm⟩
  have hadd : (⟨g, 0, none⟩ : Addr).add j = ⟨g, j, none⟩ := by unfold Addr.add; split <;> simp_all
  rw [hadd, h.cell]
  rw [List.getElem?_map, List.getElem?_take] at hu
  split at hu
  · rw [List.getElem?_toArray, List.getElem?_map]; exact hu
  · simp at hu

theorem own_of_spare {w : World} {g B : Nat} {l : List UInt8} (h : Blk w g 5 ((spL l).map bval).toArray) (hl : l.length ≤ 140737488351232) (hB : B ≤ g) : w.ownsRow B 5 1 (.slice (some ⟨g, 0, none⟩) (l.length + 40) (l.length + 40)) (l.length + 40) ((spL l).map bval) := by
  have := own_of_blk h hB (by rw [List.length_map, spL_length]; simp only [maxLen]; omega)
  rwa [List.length_map, spL_length] at this
theorem kept_go {w : World} {g : Nat} {A : Option Addr} {l : List UInt8} {d : Nat} (h : Blk w g 5 ((spL l).map bval).toArray) (hb : Bs w A l) (hl : l.length ≤ 140737488351232) :
    Calls Try.prog 22 #[.slice (some ⟨g, 0, none⟩) (l.length + 40) (l.length + 40), .slice A l.length d] w (Quietly (.bool true) w) := by
  refine kept_any _ _ l _ _ w ?_ hb
  have := own_of_spare h hl (Nat.le_refl _)
  rw [← spL_length] at this
  exact Bs.of_own this (by rw [spL_length]; omega)
def V6 (a b c d e f : Value) : Nat → Value
  | 0 => a | 1 => b | 2 => c | 3 => d | 4 => e | _ => f
def N6 (a b c d e f : Nat) : Nat → Nat
  | 0 => a | 1 => b | 2 => c | 3 => d | 4 => e | _ => f
theorem six {p : Nat → Prop} (h0 : p 0) (h1 : p 1) (h2 : p 2) (h3 : p 3) (h4 : p 4) (h5 : p 5) : ∀ i, i < 6 → p i := by
  intro i hi
  rcases (show i = 0 ∨ i = 1 ∨ i = 2 ∨ i = 3 ∨ i = 4 ∨ i = 5 by omega) with rfl | rfl | rfl | rfl | rfl | rfl <;> assumption
theorem apart_six {w : World} {B n0 n1 n2 n3 n4 n5 : Nat} {v0 v1 v2 v3 v4 v5 : Value} {x0 x1 x2 x3 x4 x5 : List Value} (h0 : w.ownsRow B 5 1 v0 n0 x0) (h1 : w.ownsRow B 5 1 v1 n1 x1) (h2 : w.ownsRow B 5 1 v2 n2 x2)
    (h3 : w.ownsRow B 5 1 v3 n3 x3) (h4 : w.ownsRow B 5 1 v4 n4 x4) (h5 : w.ownsRow B 5 1 v5 n5 x5) (ow : Nat → Nat)
    (o0 : ∀ b, v0.ownBlock = some b → ow b = 0) (o1 : ∀ b, v1.ownBlock = some b → ow b = 1) (o2 : ∀ b, v2.ownBlock = some b → ow b = 2) (o3 : ∀ b, v3.ownBlock = some b → ow b = 3) (o4 : ∀ b, v4.ownBlock = some b → ow b = 4) (o5 : ∀ b, v5.ownBlock = some b → ow b = 5)
    (l0 : n0 ≤ 140737488355000) (l1 : n1 ≤ 140737488355000) (l2 : n2 ≤ 140737488355000) (l3 : n3 ≤ 140737488355000) (l4 : n4 ≤ 140737488355000) (l5 : n5 ≤ 140737488355000) (hB : B ≤ w.heap.size) :
    Calls Try.prog 23 #[.slice (some ⟨w.heap.size, 0, none⟩) 6 6] (w.alloc (.cells #[v0, v1, v2, v3, v4, v5] 23)) fun e w' => e = .returned (.bool true) ∧ Below B (w.alloc (.cells #[v0, v1, v2, v3, v4, v5] 23)) w' := by
  refine apart_any w.heap.size 6 6 B #[v0, v1, v2, v3, v4, v5] (V6 v0 v1 v2 v3 v4 v5) (N6 n0 n1 n2 n3 n4 n5) ow _ (Blk.new _ _ _) (six rfl rfl rfl rfl rfl rfl) (by omega) (by omega) ?_ (six l0 l1 l2 l3 l4 l5) (by simp; omega)
  exact six (MV.of_own (h0.alloc _) o0) (MV.of_own (h1.alloc _) o1) (MV.of_own (h2.alloc _) o2) (MV.of_own (h3.alloc _) o3) (MV.of_own (h4.alloc _) o4) (MV.of_own (h5.alloc _) o5)
theorem buildE_9 (a b : List UInt8) : buildE 9 ([a, b] : List (List UInt8)).length = 0 := by
  show buildE 9 2 = 0
  decide
theorem bss_two {w : World} {A B : Option Addr} {a b : List UInt8} {c d : Nat} (ha : Bs w A a) (hb : Bs w B b) (t : TypeId) :
    Bss (w.alloc (.cells #[.slice A a.length c, .slice B b.length d] t)) (some ⟨w.heap.size, 0, none⟩) [a, b] := by
  refine ⟨by simp, [.slice A a.length c, .slice B b.length d], ⟨rfl, fun _ => ⟨_, rfl, by simp, fun j u hu => ?_⟩⟩, fun i hi => ?_⟩
  · have hadd : (⟨w.heap.size, 0, none⟩ : Addr).add j = ⟨w.heap.size, j, none⟩ := by unfold Addr.add; split <;> simp_all
    rw [hadd, cell_of_row _ _ _ _ _ _ (heap_alloc_new w _)]
    simpa using hu
  · match i, hi with
    | 0, _ => exact ⟨A, c, rfl, ha.alloc _⟩
    | 1, _ => exact ⟨B, d, rfl, hb.alloc _⟩

set_option maxRecDepth 100000 in
set_option maxHeartbeats 2000000 in
theorem keeps_walk (A : Option Addr) (a : List UInt8) (c : Nat) (B : Option Addr) (b : List UInt8) (d : Nat) (w : World)
    (ha : Bs w A a) (hac : a.length ≤ c ∧ c ≤ 140737488351232) (hb : Bs w B b) (hbc : b.length ≤ d ∧ d ≤ 140737488351232) :
    Calls Try.prog 7 #[.slice A a.length c, .slice B b.length d] w fun e w' => e = .returned (.bool true) ∧ Below w.heap.size w w' := by
  have hal : a.length ≤ 140737488351232 := by omega
  have hbl : b.length ≤ 140737488351232 := by omega
  clear hac hbc
  go_enter Try.func7, Try.ntmps7
  go_wp2_with fail
  refine (awake_any _).mono ?_
  rintro e w1 ⟨rfl, b1⟩
  go_wp2_with fail
  refine (spare_any _ _ _ _ (ha.below b1) hal).mono ?_
  rintro e w2 ⟨rfl, s2, b2⟩
  have b02 := below_step b1 b2
  go_wp2_with fail
  refine (spare_any _ _ _ _ (hb.below b02) hbl).mono ?_
  rintro e w3 ⟨rfl, s3, b3⟩
  have b03 := below_step b02 b3
  have s2' := s2.below b3 s2.lt
  have hx : Bs w3 (some ⟨w1.heap.size, 0, none⟩) a := by
    have h := (bs_of_blk (n := a.length) s2' (by rw [spL_length]; omega) a.length (by rw [spL_length]; omega) rfl).1
    rwa [show (spL a).take a.length = a from by simp [spL]] at h
  have hy : Bs w3 (some ⟨w2.heap.size, 0, none⟩) b := by
    have h := (bs_of_blk (n := b.length) s3 (by rw [spL_length]; omega) b.length (by rw [spL_length]; omega) rfl).1
    rwa [show (spL b).take b.length = b from by simp [spL]] at h
  have F1 := buildE_9 a b
  obtain ⟨F, hF, hFg, hFl⟩ : ∃ F, buildL 9 [a, b] = F ∧ goodB F = true ∧ F.length ≤ 1048577 := ⟨_, rfl, by unfold buildL; rw [if_pos (by exact F1)]; exact good_filt _ _, build_len _ _⟩
  go_wp2_with fail
  refine (build_any 9 _ [a, b] _ _ (bss_two hx hy _)).mono ?_
  rintro e w4 ⟨A4, c4, rfl, o4, b4⟩
  rw [show buildE 9 ([a, b] : List (List UInt8)).length = 0 from F1, hF]
  rw [hF] at o4
  have b34 : Below w3.heap.size w3 w4 := below_step ((Below.refl _ _).alloc (Nat.le_refl _) _) b4
  have b04 := below_step b03 b34
  have hx4 := hx.below b34
  have hy4 := hy.below b34
  go_wp2_with fail
  refine (build_any 9 _ [a, b] _ _ (bss_two hx4 hy4 _)).mono ?_
  rintro e w5 ⟨A5, c5, rfl, o5, b5⟩
  rw [show buildE 9 ([a, b] : List (List UInt8)).length = 0 from F1, hF]
  rw [hF] at o5
  have b45 : Below w4.heap.size w4 w5 := below_step ((Below.refl _ _).alloc (Nat.le_refl _) _) b5
  have b05 := below_step b04 b45
  have hx5 := hx4.below b45
  have hy5 := hy4.below b45
  have o4' := own_below o4 b45
  go_wp2_with fail
  refine (union_any _ _ _ _ _ _ _ hx5 hy5).mono ?_
  rintro e w6 ⟨A6, c6, rfl, o6, b6⟩
  have b06 := below_step b05 b6
  have o4'' := own_below o4' b6
  have o5' := own_below o5 b6
  have hUl : (unionL a b).length ≤ 140737488351232 := by
    unfold unionL; split
    · rw [orTo_length]; exact hal
    · simp
  generalize unionE a b = EU
  generalize unionL a b = U at o6 hUl
  have HF := Lib.hid hF
  have HFg := Lib.hid hFg
  clear hF hFg
  go_wp2_with fail
  refine (union_any _ _ _ _ _ _ _ (Bs.of_own o4'' (by omega)) (Bs.of_own o5' (by omega))).mono ?_
  rintro e w7 ⟨A7, c7, rfl, o7, b7⟩
  have hU := union_same HFg.out
  rw [hU.1, hU.2]
  rw [hU.2] at o7
  clear hU
  have b07 := below_step b06 b7
  have b57 := below_step b6 b7
  go_wp2_with fail
  refine (may_any _ _ _ _ _ _ _ (hx5.below b57) (hy5.below b57)).mono ?_
  rintro e w8 ⟨rfl, b8⟩
  have b08 := below_step b07 b8
  have b78 := b8
  have b18 := below_step b2 (below_step b3 (below_step b34 (below_step b45 (below_step b57 b8))))
  generalize mayR a b = MR
  have s2'' := s2.below (below_step b3 (below_step b34 (below_step b45 (below_step b57 b8)))) s2.lt
  have s3'' := s3.below (below_step b34 (below_step b45 (below_step b57 b8))) s3.lt
  have o48 := own_below o4 (below_step b45 (below_step b57 b8))
  have o58 := own_below o5 (below_step b57 b8)
  have o68 := own_below o6 (below_step b7 b8)
  have o78 := own_below o7 b8
  have r4 := o4.lt
  have r5 := o5.lt
  have r6 := o6.lt
  have r7 := o7.lt
  have z1 := b2.size
  have z2 := b3.size
  have z3 := b34.size
  have z4 := b45.size
  have z5 := b6.size
  have z6 := b7.size
  have z7 := b8.size
  have y2 := s2.lt
  have y3 := s3.lt
  go_wp2_with fail
  refine (kept_go s2'' (ha.below b08) hal).mono ?_
  rintro e w9 ⟨rfl, n9, hw9⟩
  have b9 : Below w8.heap.size w8 w9 := by rw [hw9]; exact below_drewN (Below.refl _ _) _
  clear hw9
  have b09 := below_step b08 b9
  go_wp2_with fail
  refine (kept_go (s3''.below b9 s3''.lt) (hb.below b09) hbl).mono ?_
  rintro e w10 ⟨rfl, n10, hw10⟩
  have b10 : Below w9.heap.size w9 w10 := by rw [hw10]; exact below_drewN (Below.refl _ _) _
  clear hw10
  have b810 := below_step b9 b10
  go_wp2_with fail
  refine (equal_any _ _ F F _ _ _ (Bs.of_own (own_below o48 b810) (by omega)) (Bs.of_own (own_below o58 b810) (by omega))).mono ?_
  rintro e w11 ⟨rfl, n11, hw11⟩
  rw [show (F == F) = true from by simp]
  have b11 : Below w10.heap.size w10 w11 := by rw [hw11]; exact below_drewN (Below.refl _ _) _
  clear hw11
  have b811 := below_step b810 b11
  go_wp2_with fail
  refine (equal_any _ _ F F _ _ _ (Bs.of_own (own_below o78 b811) (by omega)) (Bs.of_own (own_below o48 b811) (by omega))).mono ?_
  rintro e w12 ⟨rfl, n12, hw12⟩
  rw [show (F == F) = true from by simp]
  have b12 : Below w11.heap.size w11 w12 := by rw [hw12]; exact below_drewN (Below.refl _ _) _
  clear hw12
  have b812 := below_step b811 b12
  have b112 := below_step b18 b812
  have b012 := below_step b08 b812
  have p0 := own_of_spare s2'' hal (Nat.le_refl _)
  have p1 := own_of_spare s3'' hbl (show w1.heap.size ≤ w2.heap.size by omega)
  have q0 := own_below p0 b812
  have q1 := own_below p1 b812
  have q4 := own_mono (own_below o48 b812) (show w1.heap.size ≤ _ by simp; omega)
  have q5 := own_mono (own_below o58 b812) (show w1.heap.size ≤ _ by simp; omega)
  have q6 := own_mono (own_below o68 b812) (show w1.heap.size ≤ _ by omega)
  have q7 := own_mono (own_below o78 b812) (show w1.heap.size ≤ _ by omega)
  go_wp2_with fail
  refine (apart_six q0 q1 q4 q5 q6 q7 (fun b => if b < w2.heap.size then 0 else if b < w3.heap.size then 1 else if b < w4.heap.size then 2 else if b < w5.heap.size then 3 else if b < w6.heap.size then 4 else 5) ?_ ?_ ?_ ?_ ?_ ?_ (by omega) (by omega) (by omega) (by omega) (by omega) (by omega) b112.size).mono ?_
  · intro b hb
    obtain rfl : w1.heap.size = b := by simpa [Value.ownBlock] using hb
    exact if_pos y2
  · intro b hb
    obtain rfl : w2.heap.size = b := by simpa [Value.ownBlock] using hb
    show (if _ then _ else _) = _
    rw [if_neg (by omega), if_pos y3]
  · intro b hb
    have := r4 b hb
    simp at this
    show (if _ then _ else _) = _
    rw [if_neg (by omega), if_neg (by omega), if_pos (by omega)]
  · intro b hb
    have := r5 b hb
    simp at this
    show (if _ then _ else _) = _
    rw [if_neg (by omega), if_neg (by omega), if_neg (by omega), if_pos (by omega)]
  · intro b hb
    have := r6 b hb
    show (if _ then _ else _) = _
    rw [if_neg (by omega), if_neg (by omega), if_neg (by omega), if_neg (by omega), if_pos (by omega)]
  · intro b hb
    have := r7 b hb
    show (if _ then _ else _) = _
    rw [if_neg (by omega), if_neg (by omega), if_neg (by omega), if_neg (by omega), if_neg (by omega)]
  · rintro e w13 ⟨rfl, b13⟩
    go_wp2_with fail
    go_ret
    refine ⟨rfl, b012.trans ?_⟩
    exact ((Below.refl _ _).alloc b012.size _).trans (b13.mono b1.size)

end Go.Proofs.Ytkgggifliafclaa
