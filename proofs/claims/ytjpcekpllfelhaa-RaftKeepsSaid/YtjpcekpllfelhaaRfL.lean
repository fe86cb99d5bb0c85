/- The walk of RaftKeeps. (Printed by wip/gen_rfl.py.) -/
import Derived.Test.YtjpcekpllfelhaaRfK
namespace Go.Proofs.Ytjpcekpllfelhaa
open Go.RowKit

theorem apart3_any (w : World) (g : Nat) (A1 A2 A3 : Option Addr) (l1 l2 l3 : List UInt8) (c1 c2 c3 : Nat) (h1 : OwnB 0 w A1 l1 c1) (h2 : OwnB 0 w A2 l2 c2) (h3 : OwnB 0 w A3 l3 c3)
    (hg : Blk w g 22 #[.slice A1 l1.length c1, .slice A2 l2.length c2, .slice A3 l3.length c3])
    (n12 : ∀ b, (Value.slice A1 l1.length c1).ownBlock = some b → (Value.slice A2 l2.length c2).ownBlock ≠ some b) (n13 : ∀ b, (Value.slice A1 l1.length c1).ownBlock = some b → (Value.slice A3 l3.length c3).ownBlock ≠ some b) (n23 : ∀ b, (Value.slice A2 l2.length c2).ownBlock = some b → (Value.slice A3 l3.length c3).ownBlock ≠ some b)
    (hl1 : l1.length ≤ 140737488355000) (hl2 : l2.length ≤ 140737488355000) (hl3 : l3.length ≤ 140737488355000) :
    Calls Try.prog 14 #[.slice (some ⟨g, 0, none⟩) 3 3] w fun e w' => e = .returned (.bool true) ∧ BlP (fun k => k < w.heap.size ∧ (Value.slice A1 l1.length c1).ownBlock ≠ some k ∧ (Value.slice A2 l2.length c2).ownBlock ≠ some k ∧ (Value.slice A3 l3.length c3).ownBlock ≠ some k) w w' := by
  obtain ⟨rs, hrs⟩ : ∃ rs : List R3, rs = [(A1, l1, c1), (A2, l2, c2), (A3, l3, c3)] := ⟨_, rfl⟩
  have hR : RowsIs 0 w (some ⟨g, 0, none⟩) 3 rs := by
    unfold RowsIs
    rw [hrs]
    show w.ownsRow _ _ 1 (.slice _ 3 3) 3 [.slice A1 l1.length c1, .slice A2 l2.length c2, .slice A3 l3.length c3]
    exact own_of_blk (xs := [.slice A1 l1.length c1, .slice A2 l2.length c2, .slice A3 l3.length c3]) hg (Nat.zero_le _) (by show 3 ≤ maxLen; unfold maxLen; decide)
  have hS : Sep 0 w rs := by
    rw [hrs]
    refine ⟨fun r hr => ?_, List.pairwise_cons.2 ⟨fun s hs b e1 e2 => ?_, List.pairwise_cons.2 ⟨fun s hs b e1 e2 => ?_, List.pairwise_singleton _ _⟩⟩⟩
    · simp only [List.mem_cons, List.not_mem_nil, or_false] at hr
      rcases hr with rfl | rfl | rfl
      · exact h1
      · exact h2
      · exact h3
    · simp only [List.mem_cons, List.not_mem_nil, or_false] at hs
      rcases hs with rfl | rfl
      · exact n12 b e1 e2
      · exact n13 b e1 e2
    · simp only [List.mem_cons, List.not_mem_nil, or_false] at hs
      rcases hs with rfl
      exact n23 b e1 e2
  have hrl : rs.length = 3 := by rw [hrs]; rfl
  have T := apartP_sep 0 0 (fun k => k < w.heap.size ∧ (Value.slice A1 l1.length c1).ownBlock ≠ some k ∧ (Value.slice A2 l2.length c2).ownBlock ≠ some k ∧ (Value.slice A3 l3.length c3).ownBlock ≠ some k) w _ 3 rs hR hS (by omega) (by omega) (fun r hr => by
    rw [hrs] at hr
    simp only [List.mem_cons, List.not_mem_nil, or_false] at hr
    rcases hr with rfl | rfl | rfl
    · exact hl1
    · exact hl2
    · exact hl3) (fun k h => h.1) (fun r hr b e h => by
    rw [hrs] at hr
    simp only [List.mem_cons, List.not_mem_nil, or_false] at hr
    rcases hr with rfl | rfl | rfl
    · exact h.2.1 e
    · exact h.2.2.1 e
    · exact h.2.2.2 e)
  rw [hrl] at T
  exact T
/-- one entry answered: its cells, its data's row -/
theorem one_ent {w : World} {B : Nat} {A : Option Addr} {c : Nat} {e : LEnt} (h : Own EntO 44 w B (fun g => B ≤ g) (.slice A 1 c) [e]) :
    ∃ ga P pc, A = some ⟨ga, 0, none⟩ ∧ B ≤ ga ∧ ga < w.heap.size ∧ w.cell? ⟨ga, 1, none⟩ = some (.slice P e.data.length pc) ∧ OwnB 0 w P e.data pc ∧ ∀ b, (Value.slice P e.data.length pc).ownBlock = some b → B ≤ b ∧ b < w.heap.size ∧ b ≠ ga := by
  obtain ⟨ga, rfl, h1, h2⟩ := Own.form h (Nat.le_refl 1)
  obtain ⟨vs, ho, hf⟩ := h
  obtain ⟨v, r, rfl, ⟨P, pc, rfl, _, h3, h4, _⟩, rfl⟩ := hf
  refine ⟨ga, P, pc, rfl, h1, h2, ?_, h3, fun b hb => ⟨(h4 b hb).1, (OwnB.lt h3 b hb).2, fun e => (h4 b hb).2 (by rw [e]; rfl)⟩⟩
  rw [ho.cellAt 1 (by decide)]
  rfl
set_option maxRecDepth 100000 in
set_option maxHeartbeats 4000000 in
theorem raftkeeps_any (A : Option Addr) (data : List UInt8) (c : Nat) (w : World) (ha : Bs w A data) (hac : data.length ≤ c ∧ c ≤ 140737488351232) :
    Calls Try.prog 3 #[.slice A data.length c] w fun e w' => e = .returned (.bool true) ∧ Below w.heap.size w w' := by
  have hal : data.length ≤ 140737488351232 := by omega
  clear hac
  go_enter Try.func3, Try.ntmps3
  go_wp2_with fail
  refine (awake_any _).mono ?_
  rintro e w1 ⟨rfl, b1⟩
  have T := newZ 1 (by decide) w1
  replace T : Calls Try.prog 6 #[.int .i64 0, .int .i64 1, .int .i64 1, .agg #[.int .u64 0, .int .i64 (-1), .int .u64 0, .int .u64 0, .slice none 0 0]] w1 _ := T
  go_wp2_with fail
  refine T.mono ?_
  clear T
  rintro en w2 ⟨g, rfl, hg, D2, b2⟩
  have b02 := below_step b1 b2
  have z1 := b1.size
  replace D2 := D2.mono (F' := fun b => b < w.heap.size) (fun b h => by omega)
  have T := tick_one g (fun b => b < w.heap.size) _ w2 D2 rfl rfl (by decide) rfl (by decide) (by decide) (by decide) (by decide) (by decide) (by decide) (by decide) (by decide)
  rw [show tickP (newP 0 1 ((1 : Nat) : Int) 0 (-1) 0 0 []) = (⟨1, 0, 0, 0, [⟨1, []⟩], 0, 1, 1, 3, 0, 1, 0, [true], [1], [1]⟩ : LNode) from rfl] at T
  go_wp2_with fail
  refine T.mono ?_
  clear T
  rintro en w3 ⟨rfl, D3, p3⟩
  have b03 := p3.low b02 b02.size (fun g h => h)
  replace D3 := D3.mono (F' := fun b => b < w.heap.size) (fun b h => ⟨h, by have := b02.size; omega⟩)
  clear p3 D2 b02 b1 b2
  have z3 := b03.size
  go_wp2_with fail
  refine (spare_any A data c w3 (ha.below b03) hal).mono ?_
  rintro e w4 ⟨rfl, s4, b4⟩
  have b04 := below_step b03 b4
  have D4 := (D3.new b4).mono (F' := fun b => b < w.heap.size ∨ b = w3.heap.size) (fun b h => by omega)
  have hspl : w3.heap.size < w4.heap.size := s4.lt
  generalize hsp : w3.heap.size = sp at *
  have HSP := Lib.hid hsp
  have z4 := b04.size
  clear D3 b03 b4 hsp
  have T := propose_one g (fun b => b < w.heap.size ∨ b = sp) _ 1 _ data (data.length + 40) w4 D4 (bs_spare s4 hal) rfl rfl rfl rfl (by decide) (by decide) (by decide) (by decide) (by decide)
  rw [show addP (⟨1, 0, 0, 0, [⟨1, []⟩], 0, 1, 1, 3, 0, 1, 0, [true], [1], [1]⟩ : LNode) data = (⟨1, 0, 0, 0, [⟨1, []⟩, ⟨1, data⟩], 0, 1, 1, 3, 0, 2, 0, [true], [2], [1]⟩ : LNode) from rfl] at T
  replace T : Calls Try.prog 9 #[.pointer (some ⟨g, 0, none⟩), .slice (some ⟨sp, 0, none⟩) data.length (data.length + 40)] w4 (fun en w' => en = .returned (.tuple #[.int .u64 2, .slice none 0 0, .int .i64 0]) ∧ NDTo g (fun b => b < w.heap.size ∨ b = sp) (⟨1, 0, 0, 0, [⟨1, []⟩, ⟨1, data⟩], 0, 1, 1, 3, 0, 2, 0, [true], [2], [1]⟩ : LNode) w4 w') := T
  go_wp2_with fail
  refine T.mono ?_
  clear T
  rintro en w5 ⟨rfl, D5, p5⟩
  have b05 := p5.low b04 z4 (fun g h => .inl h)
  have s5 := p5.blk s4 (.inr rfl)
  have z5 := p5.size
  replace D5 := D5.mono (F' := fun b => b < w.heap.size ∨ b = sp) (fun b h => ⟨h, by omega⟩)
  have T := kept_any (some ⟨sp, 0, none⟩) A data (data.length + 40) c w5 (OwnB.bs (own_of_spare s5 hal (Nat.le_refl _)) (by rw [spL_length]; omega)) (ha.below b05)
  clear D4 s4 b04 p5
  go_wp2_with fail
  refine T.mono ?_
  clear T
  rintro en wz ⟨rfl, n6, rfl⟩
  have d6 : Below w5.heap.size w5 (w5.drewN n6) := below_drewN (Below.refl _ _) _
  have D6 := D5.below d6
  have b06 := below_step b05 d6
  have f6 : OwnB sp (w5.drewN n6) (some ⟨sp, 0, none⟩) (spL data) (data.length + 40) := own_of_spare (s5.drewN n6) hal (Nat.le_refl _)
  have z6 : sp < (w5.drewN n6).heap.size := (s5.drewN n6).lt
  clear D5 b05 s5 d6
  generalize w5.drewN n6 = w6 at *
  have T := over_any sp (some ⟨sp, 0, none⟩) (spL data) (data.length + 40) data.length (data.length + 40) w6 f6 (by rw [spL_length]; omega) (by rw [spL_length]; omega)
  go_wp2_with fail
  refine T.mono ?_
  clear T
  rintro en w7 ⟨rfl, L', hL', f7, g7⟩
  rw [spL_length] at hL'
  replace g7 : w6.grownBy w7 (some sp) := g7
  have z7 := g7.size
  have b07 : Below w.heap.size w w7 := b06.grown g7 b06.size (fun j hj => by have := Option.some.inj hj; omega)
  have D7 := D6.grown g7 (fun b e => .inr (Option.some.inj e).symm)
  have HL := Lib.hid hL'
  clear D6 b06 f6 g7 hL'
  have T := fromD_any D7 2 (by show 2 * 32 ≤ _; decide) ⟨by show 0 + 2 ≤ _; decide, by show 0 ≤ _; decide⟩
  rw [show fromR (⟨1, 0, 0, 0, [⟨1, []⟩, ⟨1, data⟩], 0, 1, 1, 3, 0, 2, 0, [true], [2], [1]⟩ : LNode) 2 = [⟨1, data⟩] from rfl] at T
  replace T : Calls Try.prog 12 #[.pointer (some ⟨g, 0, none⟩), .int .u64 2] w7 (RetEnts [⟨1, data⟩] w7) := T
  go_wp2_with fail
  refine T.mono ?_
  clear T
  rintro en w8 ⟨A8, c8, rfl, o8, b8⟩
  obtain ⟨ga, P1, pc1, rfl, ga1, ga2, e8, oP1, uP1⟩ := one_ent o8
  replace e8 : w8.cell? ⟨ga, 1, none⟩ = some (.slice P1 data.length pc1) := e8
  replace oP1 : OwnB 0 w8 P1 data pc1 := oP1
  have UP1 : Hid (∀ b, (Value.slice P1 data.length pc1).ownBlock = some b → w7.heap.size ≤ b ∧ b < w8.heap.size ∧ b ≠ ga) := uP1
  have b08 := below_step b07 b8
  have D8 := (D7.new b8).mono (F' := fun b => b < w.heap.size ∨ b = sp ∨ w7.heap.size ≤ b) (fun b h => by omega)
  have f8 := OwnB.below f7 b8
  have z8 := b8.size
  clear o8 D7 f7 b07 b8 uP1
  have T := fromD_any D8 2 (by show 2 * 32 ≤ _; decide) ⟨by show 0 + 2 ≤ _; decide, by show 0 ≤ _; decide⟩
  rw [show fromR (⟨1, 0, 0, 0, [⟨1, []⟩, ⟨1, data⟩], 0, 1, 1, 3, 0, 2, 0, [true], [2], [1]⟩ : LNode) 2 = [⟨1, data⟩] from rfl] at T
  replace T : Calls Try.prog 12 #[.pointer (some ⟨g, 0, none⟩), .int .u64 2] w8 (RetEnts [⟨1, data⟩] w8) := T
  go_wp2_with fail
  refine T.mono ?_
  clear T
  rintro en w9 ⟨A9, c9, rfl, o9, b9⟩
  obtain ⟨gb, P2, pc2, rfl, gb1, gb2, e9, oP2, uP2⟩ := one_ent o9
  replace e9 : w9.cell? ⟨gb, 1, none⟩ = some (.slice P2 data.length pc2) := e9
  replace oP2 : OwnB 0 w9 P2 data pc2 := oP2
  have UP2 : Hid (∀ b, (Value.slice P2 data.length pc2).ownBlock = some b → w8.heap.size ≤ b ∧ b < w9.heap.size ∧ b ≠ gb) := uP2
  have b09 := below_step b08 b9
  have D9 := (D8.new b9).mono (F' := fun b => b < w.heap.size ∨ b = sp ∨ w7.heap.size ≤ b) (fun b h => .inl h)
  have f9 := OwnB.below f8 b9
  have z9 := b9.size
  have oP19 := OwnB.below oP1 b9
  have e89 : w9.cell? ⟨ga, 1, none⟩ = some (.slice P1 data.length pc1) := (b9.cell (p := ⟨ga, 1, none⟩) ga2).trans e8
  clear o9 D8 f8 b08 b9 uP2 oP1 e8
  have hrf : (data == data) = true := by simp
  have T1 := fun (W : World) (A B : Option Addr) (c d : Nat) (h1 : Bs W A data) (h2 : Bs W B data) => equal_any A B data data c d W h1 h2
  rw [hrf] at T1
  clear hrf
  have HT1 := Lib.hid T1
  clear T1
  go_wp2_with fail
  refine (HT1.out _ _ _ _ _ (OwnB.bs oP19 (by omega)) (ha.below b09)).mono ?_
  rintro en wz ⟨rfl, n1, rfl⟩
  have be : Below w9.heap.size w9 (w9.drewN n1) := below_drewN (Below.refl _ _) _
  have b10 := below_step b09 be
  have D10 := (D9.below be)
  have f10 := OwnB.below f9 be
  have oP110 := OwnB.below oP19 be
  have oP210 := OwnB.below oP2 be
  have e110 : (w9.drewN n1).cell? ⟨ga, 1, none⟩ = some (.slice P1 data.length pc1) := e89
  have e210 : (w9.drewN n1).cell? ⟨gb, 1, none⟩ = some (.slice P2 data.length pc2) := e9
  have z10 := be.size
  clear D9 f9 b09 oP19 oP2 e89 e9 be
  generalize w9.drewN n1 = w10 at *
  have DS := D10
  obtain ⟨S, E, V, M, X, n10, _⟩ := DS
  obtain ⟨A10, c10, rfl⟩ := n10.log.shape
  have hsl := n10.slS (by show 2 * 32 ≤ _; decide)
  have q0 : w10.cell? ⟨g, 0, none⟩ = some (.int .u64 1) := n10.blk.cell 0
  have q1 : w10.cell? ⟨g, 1, none⟩ = some (.int .i64 0) := n10.blk.cell 1
  have q2 : w10.cell? ⟨g, 2, none⟩ = some (.int .u64 0) := n10.blk.cell 2
  have q3 : w10.cell? ⟨g, 3, none⟩ = some (.int .u64 0) := n10.blk.cell 3
  have q4 : w10.cell? ⟨g, 4, none⟩ = some (.slice A10 2 c10) := n10.blk.cell 4
  have T := new_ok 0 1 1 1 0 0 0 A10 [⟨1, []⟩, ⟨1, data⟩] c10 Any w10 hsl (by decide) (by decide) (by decide) (by decide) (by decide) (by decide) (by decide) rfl (by decide) (by decide)
  replace T : Calls Try.prog 6 #[.int .i64 0, .int .i64 1, .int .i64 1, .agg #[.int .u64 1, .int .i64 0, .int .u64 0, .int .u64 0, .slice A10 2 c10]] w10 _ := T
  clear n10 hsl
  go_wp2_with fail
  refine T.mono ?_
  clear T q0 q1 q2 q3 q4
  rintro en w11 ⟨h, rfl, hh, DM11, b11⟩
  have b011 := below_step b10 b11
  have D11 := D10.below b11
  have f11 := OwnB.below f10 b11
  have oP111 := OwnB.below oP110 b11
  have oP211 := OwnB.below oP210 b11
  have e111 : w11.cell? ⟨ga, 1, none⟩ = some (.slice P1 data.length pc1) := (b11.cell (p := ⟨ga, 1, none⟩) (by show ga < _; omega)).trans e110
  have e211 : w11.cell? ⟨gb, 1, none⟩ = some (.slice P2 data.length pc2) := (b11.cell (p := ⟨gb, 1, none⟩) (by show gb < _; omega)).trans e210
  have z11 := b11.size
  clear D10 f10 b10 oP110 oP210 e110 e210 b11
  go_upto_region 16 with fail
  refine wp_region_noPanic ?_
  have kS : w11.drew.cell? ⟨ga, 1, none⟩ = some (.slice P1 data.length pc1) ∧ w11.drew.cell? ⟨gb, 1, none⟩ = some (.slice P2 data.length pc2) := ⟨e111, e211⟩
  refine wp_region_heldK (fun Y => Y.cell? ⟨ga, 1, none⟩ = some (.slice P1 data.length pc1) ∧ Y.cell? ⟨gb, 1, none⟩ = some (.slice P2 data.length pc2)) 17 (by kernel_rfl) kS (fun hH => ?_)
  refine wpAnyK_takeY (i := 0) (v := ?_) rfl (by kernel_rfl) (by kernel_rfl) (by kernel_rfl) (by kernel_rfl) (fun _ _ _ h => h) (Or.inl ⟨by rfl, ?_⟩) hH ?_
  case refine_2 => intro w; go_simp; try with_reducible rfl
  try simp only [List.getElem_toArray, List.getElem_cons_zero, Act.put, List.setIfInBounds_toArray, List.set_cons_zero, List.set_cons_succ]
  refine wpAnyK_takeY (i := 1) (v := ?_) rfl (by kernel_rfl) (by kernel_rfl) (by kernel_rfl) (by kernel_rfl) (fun _ _ _ h => h) (Or.inl ⟨by rfl, ?_⟩) hH ?_
  case refine_2 => intro w; go_simp; try with_reducible rfl
  try simp only [List.getElem_toArray, List.getElem_cons_zero, List.getElem_cons_succ, Act.put, List.setIfInBounds_toArray, List.set_cons_zero, List.set_cons_succ]
  refine wpAnyK_takeY (i := 2) (v := ?_) rfl (by kernel_rfl) (by kernel_rfl) (by kernel_rfl) (by kernel_rfl) (fun _ _ _ h => h) (Or.inl ⟨by rfl, ?_⟩) hH ?_
  case refine_2 => intro w; go_simp; try with_reducible rfl
  try simp only [List.getElem_toArray, List.getElem_cons_zero, List.getElem_cons_succ, Act.put, List.setIfInBounds_toArray, List.set_cons_zero, List.set_cons_succ]
  refine wpAnyK_takeY (i := 3) (v := ?_) rfl (by kernel_rfl) (by kernel_rfl) (by kernel_rfl) (by kernel_rfl) (fun _ _ _ h => h) (Or.inl ⟨by rfl, ?_⟩) hH ?_
  case refine_2 => intro w; go_simp; try with_reducible rfl
  try simp only [List.getElem_toArray, List.getElem_cons_zero, List.getElem_cons_succ, Act.put, List.setIfInBounds_toArray, List.set_cons_zero, List.set_cons_succ]
  refine wpAnyK_takeY (i := 4) (v := ?_) rfl (by kernel_rfl) (by kernel_rfl) (by kernel_rfl) (by kernel_rfl) (fun _ _ _ h => h) (Or.inl ⟨by rfl, ?_⟩) hH ?_
  case refine_2 => intro w; go_simp; try with_reducible rfl
  try simp only [List.getElem_toArray, List.getElem_cons_zero, List.getElem_cons_succ, Act.put, List.setIfInBounds_toArray, List.set_cons_zero, List.set_cons_succ]
  refine wpAnyK_takeY (i := 5) (v := ?_) rfl (by kernel_rfl) (by kernel_rfl) (by kernel_rfl) (by kernel_rfl) (fun _ _ _ h => h) (Or.inl ⟨by rfl, ?_⟩) hH ?_
  case refine_2 => intro w; go_simp; try with_reducible rfl
  try simp only [List.getElem_toArray, List.getElem_cons_zero, List.getElem_cons_succ, Act.put, List.setIfInBounds_toArray, List.set_cons_zero, List.set_cons_succ]
  refine wpAnyK_takeY (i := 6) (v := ?_) rfl (by kernel_rfl) (by kernel_rfl) (by kernel_rfl) (by kernel_rfl) (fun _ _ _ h => h) (Or.inl ⟨by rfl, ?_⟩) hH ?_
  case refine_2 => intro w; go_simp; try with_reducible rfl
  try simp only [List.getElem_toArray, List.getElem_cons_zero, List.getElem_cons_succ, Act.put, List.setIfInBounds_toArray, List.set_cons_zero, List.set_cons_succ]
  refine wpAnyK_takeY (i := 7) (v := ?_) rfl (by kernel_rfl) (by kernel_rfl) (by kernel_rfl) (by kernel_rfl) (fun _ _ _ h => h) (Or.inl ⟨by rfl, ?_⟩) hH ?_
  case refine_2 => intro w; go_simp; try with_reducible rfl
  try simp only [List.getElem_toArray, List.getElem_cons_zero, List.getElem_cons_succ, Act.put, List.setIfInBounds_toArray, List.set_cons_zero, List.set_cons_succ]
  refine wpAnyK_takeY (i := 8) (v := ?_) rfl (by kernel_rfl) (by kernel_rfl) (by kernel_rfl) (by kernel_rfl) (fun _ _ _ h => h) (Or.inl ⟨by rfl, ?_⟩) hH ?_
  case refine_2 => intro w; go_simp; try with_reducible rfl
  try simp only [List.getElem_toArray, List.getElem_cons_zero, List.getElem_cons_succ, Act.put, List.setIfInBounds_toArray, List.set_cons_zero, List.set_cons_succ]
  refine wpAnyK_takeY (i := 9) (v := ?_) rfl (by kernel_rfl) (by kernel_rfl) (by kernel_rfl) (by kernel_rfl) (fun _ _ _ h => h) (Or.inl ⟨by rfl, ?_⟩) hH ?_
  case refine_2 => intro w; go_simp; try with_reducible rfl
  try simp only [List.getElem_toArray, List.getElem_cons_zero, List.getElem_cons_succ, Act.put, List.setIfInBounds_toArray, List.set_cons_zero, List.set_cons_succ]
  refine wpAnyK_takeY (i := 10) (v := ?_) rfl (by kernel_rfl) (by kernel_rfl) (by kernel_rfl) (by kernel_rfl) (fun _ _ _ h => h) (Or.inl ⟨by rfl, ?_⟩) hH ?_
  case refine_2 => intro w; go_simp; try with_reducible rfl
  try simp only [List.getElem_toArray, List.getElem_cons_zero, List.getElem_cons_succ, Act.put, List.setIfInBounds_toArray, List.set_cons_zero, List.set_cons_succ]
  refine wpAnyK_take (i := 11) (v := ?_) rfl (by kernel_rfl) (by kernel_rfl) (by kernel_rfl) (by kernel_rfl) (fun _ _ _ h => h) (Or.inl ⟨by rfl, ?_⟩) hH ?_
  case refine_2 => intro w hSw; obtain ⟨ka, kb⟩ := hSw; go_simp; try with_reducible rfl
  try simp only [List.getElem_toArray, List.getElem_cons_zero, List.getElem_cons_succ, Act.put, List.setIfInBounds_toArray, List.set_cons_zero, List.set_cons_succ]
  refine wpAnyK_takeY (i := 12) (v := ?_) rfl (by kernel_rfl) (by kernel_rfl) (by kernel_rfl) (by kernel_rfl) (fun _ _ _ h => h) (Or.inl ⟨by rfl, ?_⟩) hH ?_
  case refine_2 => intro w; go_simp; try with_reducible rfl
  try simp only [List.getElem_toArray, List.getElem_cons_zero, List.getElem_cons_succ, Act.put, List.setIfInBounds_toArray, List.set_cons_zero, List.set_cons_succ]
  refine wpAnyK_takeY (i := 13) (v := ?_) rfl (by kernel_rfl) (by kernel_rfl) (by kernel_rfl) (by kernel_rfl) (fun _ _ _ h => h) (Or.inl ⟨by rfl, ?_⟩) hH ?_
  case refine_2 => intro w; go_simp; try with_reducible rfl
  try simp only [List.getElem_toArray, List.getElem_cons_zero, List.getElem_cons_succ, Act.put, List.setIfInBounds_toArray, List.set_cons_zero, List.set_cons_succ]
  refine wpAnyK_takeY (i := 14) (v := ?_) rfl (by kernel_rfl) (by kernel_rfl) (by kernel_rfl) (by kernel_rfl) (fun _ _ _ h => h) (Or.inl ⟨by rfl, ?_⟩) hH ?_
  case refine_2 => intro w; go_simp; try with_reducible rfl
  try simp only [List.getElem_toArray, List.getElem_cons_zero, List.getElem_cons_succ, Act.put, List.setIfInBounds_toArray, List.set_cons_zero, List.set_cons_succ]
  refine wpAnyK_take (i := 15) (v := ?_) rfl (by kernel_rfl) (by kernel_rfl) (by kernel_rfl) (by kernel_rfl) (fun _ _ _ h => h) (Or.inl ⟨by rfl, ?_⟩) hH ?_
  case refine_2 => intro w hSw; obtain ⟨ka, kb⟩ := hSw; go_simp; try with_reducible rfl
  try simp only [List.getElem_toArray, List.getElem_cons_zero, List.getElem_cons_succ, Act.put, List.setIfInBounds_toArray, List.set_cons_zero, List.set_cons_succ]
  refine wpAnyK_ready (rs := [16]) (by kernel_rfl) (by simp) ?_
  refine AllReadyK.cons rfl (by kernel_rfl) (fun K hK => ?_) AllReadyK.nil
  go_simp
  change K _ (w11.drew.alloc (.cells #[.slice (some ⟨sp, 0, none⟩) (data.length + 40) (data.length + 40), .slice P1 data.length pc1, .slice P2 data.length pc2] 22))
  have kR : Blk (w11.drew.alloc (.cells #[.slice (some ⟨sp, 0, none⟩) (data.length + 40) (data.length + 40), .slice P1 data.length pc1, .slice P2 data.length pc2] 22)) w11.heap.size 22 #[.slice (some ⟨sp, 0, none⟩) (data.length + 40) (data.length + 40), .slice P1 data.length pc1, .slice P2 data.length pc2] := Blk.new w11.drew _ _
  have d12 : Below w11.heap.size w11 (w11.drew.alloc (.cells #[.slice (some ⟨sp, 0, none⟩) (data.length + 40) (data.length + 40), .slice P1 data.length pc1, .slice P2 data.length pc2] 22)) := ((Below.refl _ _).drew).alloc (Nat.le_refl _) _
  generalize (w11.drew.alloc (.cells #[.slice (some ⟨sp, 0, none⟩) (data.length + 40) (data.length + 40), .slice P1 data.length pc1, .slice P2 data.length pc2] 22)) = w12 at *
  have b012 := below_step b011 d12
  have D12 := D11.below d12
  have DM12 := DM11.below d12
  have f12 := OwnB.below f11 d12
  have oP112 := OwnB.below oP111 d12
  have oP212 := OwnB.below oP211 d12
  have k12 : w12.cell? ⟨ga, 1, none⟩ = some (.slice P1 data.length pc1) ∧ w12.cell? ⟨gb, 1, none⟩ = some (.slice P2 data.length pc2) := ⟨(d12.cell (p := ⟨ga, 1, none⟩) (by show ga < _; omega)).trans e111, (d12.cell (p := ⟨gb, 1, none⟩) (by show gb < _; omega)).trans e211⟩
  have z12 := d12.size
  clear D11 DM11 f11 oP111 oP211 e111 e211 b011 d12 hH kS
  refine hK.out _ _ k12 ?_
  clear hK K
  try dsimp only
  try simp only [List.getElem_toArray, List.getElem_cons_zero, List.getElem_cons_succ, Act.put, List.setIfInBounds_toArray, List.set_cons_zero, List.set_cons_succ]
  refine wpAnyK_ready (rs := [17]) (by kernel_rfl) (by simp) ?_
  refine AllReadyK.turn rfl (fun K hK => ?_) AllReadyK.nil
  go_simp
  have hLl := HL.out
  have T := apart3_any w12 w11.heap.size (some ⟨sp, 0, none⟩) P1 P2 L' data data (data.length + 40) pc1 pc2 (OwnB.base f12 (Nat.zero_le _)) oP112 oP212 (by rw [hLl]; exact kR)
    (fun b e e2 => by have h1 : sp = b := Option.some.inj e; have := UP1.out b e2; omega) (fun b e e2 => by have h1 : sp = b := Option.some.inj e; have := UP2.out b e2; omega) (fun b e e2 => by have h1 := UP1.out b e; have := UP2.out b e2; omega) (by omega) (by omega) (by omega)
  clear hLl
  refine T.mono ?_
  clear T
  rintro en w13 ⟨rfl, p13⟩
  have key : ∀ b, b < w12.heap.size → (b < w.heap.size ∨ (w10.heap.size ≤ b)) → b < w12.heap.size ∧ (Value.slice (some ⟨sp, 0, none⟩) L'.length (data.length + 40)).ownBlock ≠ some b ∧ (Value.slice P1 data.length pc1).ownBlock ≠ some b ∧ (Value.slice P2 data.length pc2).ownBlock ≠ some b := fun b h1 h2 =>
    ⟨h1, fun e => by have h3 : sp = b := Option.some.inj e; omega, fun e => by have := UP1.out b e; omega, fun e => by have := UP2.out b e; omega⟩
  have b013 := p13.low b012 b012.size (fun b h => key b (by have := b012.size; omega) (.inl h))
  have row : ∀ b, b < w12.heap.size → ¬ (b < w12.heap.size ∧ (Value.slice (some ⟨sp, 0, none⟩) L'.length (data.length + 40)).ownBlock ≠ some b ∧ (Value.slice P1 data.length pc1).ownBlock ≠ some b ∧ (Value.slice P2 data.length pc2).ownBlock ≠ some b) → (b = sp ∨ w7.heap.size ≤ b) ∧ b < w10.heap.size := fun b h1 h2 => by
    rcases Classical.em ((Value.slice (some ⟨sp, 0, none⟩) L'.length (data.length + 40)).ownBlock = some b) with e | e
    · have h3 : sp = b := Option.some.inj e
      exact ⟨.inl h3.symm, by omega⟩
    · rcases Classical.em ((Value.slice P1 data.length pc1).ownBlock = some b) with e2 | e2
      · have := UP1.out b e2; exact ⟨.inr (by omega), by omega⟩
      · rcases Classical.em ((Value.slice P2 data.length pc2).ownBlock = some b) with e3 | e3
        · have := UP2.out b e3; exact ⟨.inr (by omega), by omega⟩
        · exact absurd ⟨h1, e, e2, e3⟩ h2
  have D13 := D12.blp p13 (fun b h1 h2 => by have := (row b h1 h2).1; omega)
  have DM13 := DM12.blp p13 (fun b h1 h2 => (row b h1 h2).2)
  clear key row p13 D12 DM12 f12 oP112 oP212 k12 kR b012
  refine hK.out _ _ ?_
  clear hK K
  try simp only [List.getElem_toArray, List.getElem_cons_zero, List.getElem_cons_succ, Act.put, List.setIfInBounds_toArray, List.set_cons_zero, List.set_cons_succ]
  refine wpAny_take (i := 18) (v := ?_) rfl (by kernel_rfl) (by kernel_rfl) (by kernel_rfl) (fun _ _ _ h => h) (Or.inl ⟨by rfl, ?_⟩) ?_
  case refine_2 => intro w; go_simp; try with_reducible rfl
  try simp only [List.getElem_toArray, List.getElem_cons_zero, List.getElem_cons_succ, Act.put, List.setIfInBounds_toArray, List.set_cons_zero, List.set_cons_succ]
  refine wpAny_take (i := 19) (v := ?_) rfl (by kernel_rfl) (by kernel_rfl) (by kernel_rfl) (fun _ _ _ h => h) (Or.inl ⟨by rfl, ?_⟩) ?_
  case refine_2 => intro w; go_simp; try with_reducible rfl
  try simp only [List.getElem_toArray, List.getElem_cons_zero, List.getElem_cons_succ, Act.put, List.setIfInBounds_toArray, List.set_cons_zero, List.set_cons_succ]
  refine wpAny_done (by kernel_rfl) ?_ _
  refine NoPanic.normal ?_
  have T := fromD_any D13 2 (by show 2 * 32 ≤ _; decide) ⟨by show 0 + 2 ≤ _; decide, by show 0 ≤ _; decide⟩
  rw [show fromR (⟨1, 0, 0, 0, [⟨1, []⟩, ⟨1, data⟩], 0, 1, 1, 3, 0, 2, 0, [true], [2], [1]⟩ : LNode) 2 = [⟨1, data⟩] from rfl] at T
  replace T : Calls Try.prog 12 #[.pointer (some ⟨g, 0, none⟩), .int .u64 2] w13 (RetEnts [⟨1, data⟩] w13) := T
  go_wp2_with fail
  refine T.mono ?_
  clear T D13
  rintro en w14 ⟨A14, c14, rfl, o14, b14⟩
  obtain ⟨gc, P3, pc3, rfl, gc1, gc2, e14, oP3, _⟩ := one_ent o14
  replace e14 : w14.cell? ⟨gc, 1, none⟩ = some (.slice P3 data.length pc3) := e14
  replace oP3 : OwnB 0 w14 P3 data pc3 := oP3
  have b014 := below_step b013 b14
  have DM14 := DM13.below b14
  clear o14 b013 b14 DM13
  have T := fromD_any DM14 2 (by show 2 * 32 ≤ _; decide) ⟨by show 0 + 2 ≤ _; decide, by show 0 ≤ _; decide⟩
  rw [show fromR (newP 0 1 1 1 0 0 0 [⟨1, []⟩, ⟨1, data⟩]) 2 = [⟨1, data⟩] from rfl] at T
  replace T : Calls Try.prog 12 #[.pointer (some ⟨h, 0, none⟩), .int .u64 2] w14 (RetEnts [⟨1, data⟩] w14) := T
  go_wp2_with fail
  refine T.mono ?_
  clear T DM14
  rintro en w15 ⟨A15, c15, rfl, o15, b15⟩
  obtain ⟨gd, P4, pc4, rfl, gd1, gd2, e15, oP4, _⟩ := one_ent o15
  replace e15 : w15.cell? ⟨gd, 1, none⟩ = some (.slice P4 data.length pc4) := e15
  replace oP4 : OwnB 0 w15 P4 data pc4 := oP4
  have b015 := below_step b014 b15
  have e145 : w15.cell? ⟨gc, 1, none⟩ = some (.slice P3 data.length pc3) := (b15.cell (p := ⟨gc, 1, none⟩) gc2).trans e14
  have oP35 := OwnB.below oP3 b15
  clear o15 b014 b15 e14 oP3
  go_wp2_with fail
  refine (HT1.out _ _ _ _ _ (OwnB.bs oP35 (by omega)) (ha.below b015)).mono ?_
  rintro en wz ⟨rfl, n2, rfl⟩
  have be : Below w15.heap.size w15 (w15.drewN n2) := below_drewN (Below.refl _ _) _
  have b016 := below_step b015 be
  have oP46 := OwnB.below oP4 be
  have e156 : (w15.drewN n2).cell? ⟨gd, 1, none⟩ = some (.slice P4 data.length pc4) := e15
  clear be oP4 e15 b015
  generalize w15.drewN n2 = w16 at *
  go_wp2_with fail
  refine (HT1.out _ _ _ _ _ (OwnB.bs oP46 (by omega)) (ha.below b016)).mono ?_
  rintro en wz ⟨rfl, n3, rfl⟩
  go_wp2_with fail
  go_ret
  exact ⟨rfl, below_drewN b016 _⟩
end Go.Proofs.Ytjpcekpllfelhaa
