/- The walk of ManifestCodes. (Printed by wip/gen_mcodes.py.) -/
import Derived.Test.YtmgibpedclngpaaMAwake
import Derived.Test.YtmgibpedclngpaaMSome
import Derived.Test.YtmgibpedclngpaaMChg
import Derived.Test.YtmgibpedclngpaaMEnc
import Derived.Test.YtmgibpedclngpaaMREnc
import Derived.Test.YtmgibpedclngpaaMRDec
import Derived.Test.YtmgibpedclngpaaMBack
namespace Go.Proofs.Ytmgibpedclngpaa
open Go.RowKit

theorem cutE_sm (e : LEdit) : (cutE e).add.length ≤ 8 ∧ (cutE e).drop.length ≤ 8 ∧ ∀ f ∈ (cutE e).add, f.first.length ≤ 1024 ∧ f.last.length ≤ 1024 := by
  refine ⟨?_, ?_, ?_⟩
  · show ((e.add.take 8).map cutF).length ≤ 8
    rw [List.length_map, List.length_take]
    omega
  · show (e.drop.take 8).length ≤ 8
    rw [List.length_take]
    omega
  · intro f hf
    obtain ⟨g, _, rfl⟩ := List.mem_map.1 hf
    exact ⟨by show (g.first.take 1024).length ≤ 1024; rw [List.length_take]; omega, by show (g.last.take 1024).length ≤ 1024; rw [List.length_take]; omega⟩
theorem frameL_len : ∀ {ls : List (List UInt8)}, (∀ l ∈ ls, l.length ≤ 8192) → (frameL ls).length ≤ 8202 * ls.length
  | [], _ => Nat.le_refl _
  | x :: r, h => by
    have h1 := h x (List.mem_cons_self ..)
    have h2 := frameL_len (ls := r) (fun l hl => h l (List.mem_cons_of_mem _ hl))
    have h3 := putU_len10 (show U64 x.length by unfold U64; omega)
    show ((putU x.length ++ x) ++ frameL r).length ≤ _
    rw [List.length_append, List.length_append, List.length_cons]
    omega
theorem part_le {e : LEdit} (hs : U64 e.seq) (hd : ∀ n ∈ e.drop, U64 n) (hf : ∀ f ∈ e.add, f.wf) (h2 : e.drop.length ≤ 8) (h3 : ∀ f ∈ e.add, f.first.length ≤ 1024 ∧ f.last.length ≤ 1024) : ∀ l ∈ headL e :: dropL e.drop :: e.add.map fileL, l.length ≤ 8192 := by
  intro l hl
  rcases List.mem_cons.mp hl with rfl | hl
  · have := headL_len hs; omega
  rcases List.mem_cons.mp hl with rfl | hl
  · have := dropL_len hd; omega
  obtain ⟨f, hf1, rfl⟩ := List.mem_map.mp hl
  have := fileL_len (hf f hf1)
  have := h3 f hf1
  omega
theorem editL_le {e : LEdit} (hs : U64 e.seq) (hd : ∀ n ∈ e.drop, U64 n) (hf : ∀ f ∈ e.add, f.wf) (h1 : e.add.length ≤ 8) (h2 : e.drop.length ≤ 8) (h3 : ∀ f ∈ e.add, f.first.length ≤ 1024 ∧ f.last.length ≤ 1024) : (editL e).length ≤ 1048576 := by
  have h := frameL_len (part_le hs hd hf h2 h3)
  simp only [List.length_cons, List.length_map] at h
  show (frameL _).length ≤ _
  omega
theorem dropA_len : ∀ (f : Nat) (l : List UInt8) (q : Nat) (acc : List Nat), (dropA f l q acc).1.length ≤ acc.length + (l.length - q)
  | 0, l, q, acc => by show acc.length ≤ _; omega
  | f + 1, l, q, acc => by
    unfold dropA
    by_cases h : q < l.length
    · rw [if_pos h]
      by_cases h2 : (nxtN l q).2.2 ≠ 0
      · rw [if_pos h2]; exact Nat.zero_le _
      · rw [if_neg h2]
        have h3 := dropA_len f l (nxtN l q).2.1 (acc ++ [(nxtN l q).1])
        have h4 := nxtN_gt (l := l) (q := q) (Classical.byContradiction h2)
        rw [List.length_append, List.length_singleton] at h3
        omega
    · rw [if_neg h]; show acc.length ≤ _; omega
theorem filesR_len : ∀ ps : List (List UInt8), (filesR ps).1.length ≤ ps.length
  | [] => Nat.le_refl _
  | p :: ps => by
    have ih := filesR_len ps
    unfold filesR
    by_cases h : (fileR p).2 ≠ 0
    · rw [if_pos h]; exact Nat.zero_le _
    · rw [if_neg h]
      by_cases h2 : (filesR ps).2 ≠ 0
      · rw [if_pos h2]; exact Nat.zero_le _
      · rw [if_neg h2]
        show ((fileR p).1 :: (filesR ps).1).length ≤ _
        rw [List.length_cons, List.length_cons]
        omega
theorem decM_len (l : List UInt8) : (decM l).1.add.length ≤ l.length ∧ (decM l).1.drop.length ≤ l.length := by
  have hz : LEdit.zero.add.length ≤ l.length ∧ LEdit.zero.drop.length ≤ l.length := ⟨Nat.zero_le _, Nat.zero_le _⟩
  have hps := partsA_small (f := l.length) (l := l) (acc := [])
  have h1 : (partsL l).1.length ≤ l.length := by have := hps.1; rw [List.length_nil] at this; show (partsA l.length l []).1.length ≤ _; omega
  have h2 : ∀ p ∈ (partsL l).1, p.length ≤ l.length := fun p hp => (hps.2 p hp).resolve_left (by simp)
  unfold decM
  generalize partsL l = r at *
  obtain ⟨ps, e⟩ := r
  show (if e ≠ 0 then ((LEdit.zero, e) : LEdit × Int) else decM1 ps).1.add.length ≤ _ ∧ (if e ≠ 0 then ((LEdit.zero, e) : LEdit × Int) else decM1 ps).1.drop.length ≤ _
  by_cases c0 : e ≠ 0
  · rw [if_pos c0]; exact hz
  rw [if_neg c0]
  unfold decM1
  by_cases c1 : ps.length < 2
  · rw [if_pos c1]; exact hz
  rw [if_neg c1]
  by_cases c2 : (ps.getD 0 []).length = 0
  · rw [if_pos c2]; exact hz
  rw [if_neg c2]
  by_cases c3 : 1 < ((ps.getD 0 []).getD 0 0).toNat
  · rw [if_pos c3]; exact hz
  rw [if_neg c3]
  have h3 := filesR_len (ps.drop 2)
  rw [List.length_drop] at h3
  have h4 : (dropR (ps.getD 1 [])).1.length ≤ (ps.getD 1 []).length := by have := dropA_len ((ps.getD 1 []).length + 1) (ps.getD 1 []) 0 []; rw [List.length_nil] at this; show (dropA _ _ _ _).1.length ≤ _; omega
  have h5 : (ps.getD 1 []).length ≤ l.length := by
    rw [getD_getElem (show 1 < ps.length by omega)]
    exact h2 _ (List.getElem_mem _)
  replace h1 : ps.length ≤ l.length := h1
  unfold decM2
  by_cases c4 : doneE (ps.getD 0 []) (nN (ps.getD 0 []) 1 0).2.1 (nN (ps.getD 0 []) 1 0).2.2 ≠ 0
  · rw [if_pos c4]; exact hz
  rw [if_neg c4]
  by_cases c5 : (dropR (ps.getD 1 [])).2 ≠ 0
  · rw [if_pos c5]; exact hz
  rw [if_neg c5]
  by_cases c6 : (filesR (ps.drop 2)).2 ≠ 0
  · rw [if_pos c6]; exact hz
  rw [if_neg c6]
  exact ⟨by show (filesR (ps.drop 2)).1.length ≤ _; omega, by show (dropR (ps.getD 1 [])).1.length ≤ _; omega⟩

set_option maxRecDepth 100000 in
set_option maxHeartbeats 8000000 in
theorem codes_any (e : LEdit) (l : List UInt8) (A D B : Option Addr) (a d c : Nat) (w : World) (hA : Sl RFE w A e.add ∧ e.add.length ≤ a ∧ a ≤ 9223372036854775807) (hD : Sl NE w D e.drop ∧ e.drop.length ≤ d ∧ d ≤ 9223372036854775807) (hu : U64 e.seq) (hn1 : e.add.length ≤ 1048576) (hn2 : e.drop.length ≤ 1048576) (hB : Bs w B l) (hc : l.length ≤ c ∧ c ≤ 9223372036854775807) (hl : l.length ≤ 1048576) : Calls Try.prog 4 #[.agg #[.bool e.reset, .slice A e.add.length a, .slice D e.drop.length d, .int .u64 (e.seq : Int)], .slice B l.length c] w (RetTrue w) := by
  obtain ⟨he1, he2, he3⟩ := cutE_sm e
  have b1 : Below w.heap.size w (w.alloc (.cells #[.bool e.reset, .slice A e.add.length a, .slice D e.drop.length d, .int .u64 (e.seq : Int)] 35)) := (Below.refl _ _).alloc (Nat.le_refl _) _
  have k1 := Blk.new w 35 #[.bool e.reset, .slice A e.add.length a, .slice D e.drop.length d, .int .u64 (e.seq : Int)]
  go_enter Try.func4, Try.ntmps4
  go_upto_region 1 with fail
  generalize Value.agg #[.bool e.reset, .slice A e.add.length a, .slice D e.drop.length d, .int .u64 (e.seq : Int)] = av
  generalize (w.alloc (.cells #[.bool e.reset, .slice A e.add.length a, .slice D e.drop.length d, .int .u64 (e.seq : Int)] 35)) = w1 at *
  have T := awake_any w1
  go_wp2_with fail
  refine T.mono ?_
  clear T
  rintro en w2 ⟨rfl, b2⟩
  have k2 := k1.below b2 k1.lt
  have b02 := b1.trans (b2.mono b1.size)
  have lk1 := k1.lt
  have z12 := b2.size
  clear k1 b1 b2
  have d3 : Below w2.heap.size w2 (w2.alloc (.cells #[.bool e.reset, .slice A e.add.length a, .slice D e.drop.length d, .int .u64 (e.seq : Int)] 35)) := (Below.refl _ _).alloc (Nat.le_refl _) _
  have k3 := k2.below d3 k2.lt
  have b03 := b02.trans (d3.mono b02.size)
  have hsz3 : (w2.alloc (.cells #[.bool e.reset, .slice A e.add.length a, .slice D e.drop.length d, .int .u64 (e.seq : Int)] 35)).heap.size = w2.heap.size + 1 := by simp
  have hSl : SlS EditE (w2.alloc (.cells #[.bool e.reset, .slice A e.add.length a, .slice D e.drop.length d, .int .u64 (e.seq : Int)] 35)) (fun b => b ≠ w.heap.size) (some ⟨w2.heap.size, 0, none⟩) [e] := by
    have h1 : SlS RFE w (fun b => b < w.heap.size) A e.add := SlS.mono hA.1 (fun b h _ => h)
    have h2 : SlS NE w (fun b => b < w.heap.size) D e.drop := SlS.mono hD.1 (fun b h _ => h)
    refine ⟨by simp only [EditE, List.length_singleton]; decide, [.bool e.reset, .slice A e.add.length a, .slice D e.drop.length d, .int .u64 (e.seq : Int)], ?_, ?_, ER.flat_one_ ⟨A, a, D, d, rfl, ⟨SlS.mono (h1.below b03) (fun b _ h => ?_), hA.2⟩, ⟨SlS.mono (h2.below b03) (fun b _ h => ?_), hD.2⟩, hu⟩⟩
    · rw [hsz3]; exact Reads.newN w2 _ _
    · intro ad e1 _; obtain rfl := Option.some.inj e1; show w2.heap.size ≠ w.heap.size; omega
    · have h3 : b < w.heap.size := h; show b ≠ w.heap.size; omega
    · have h3 : b < w.heap.size := h; show b ≠ w.heap.size; omega
  have T := some_any (fun b => b ≠ w.heap.size) [e] (some ⟨w2.heap.size, 0, none⟩) 1 1 (w2.alloc (.cells #[.bool e.reset, .slice A e.add.length a, .slice D e.drop.length d, .int .u64 (e.seq : Int)] 35)) hSl (by decide) (by show 1 ≤ 1048576; decide) (by intro x hx; rw [List.mem_singleton.1 hx]; exact ⟨hn1, hn2⟩)
  rw [show ([e].take 1).map cutE = [cutE e] from rfl] at T
  have hue : U64 (cutE e).seq := hu
  have hfw : ∀ f ∈ (cutE e).add, f.wf := by
    intro f hf
    obtain ⟨g, hg, rfl⟩ := List.mem_map.1 hf
    obtain ⟨j, hj, rfl⟩ := List.getElem_of_mem (List.mem_of_mem_take hg)
    obtain ⟨_, _, _, _, _, _, _, _, _, _, _, _, _, _, _, h⟩ := RFE.at_ hA.1 hj
    exact h
  have hdu : ∀ n ∈ (cutE e).drop, U64 n := by
    intro n hn
    obtain ⟨j, hj, rfl⟩ := List.getElem_of_mem (List.mem_of_mem_take hn)
    obtain ⟨_, _, _, _, h⟩ := NE.at_ hD.1 hj
    exact h
  clear hA hD hn1 hn2 hsz3
  go_wp2_with ((with_reducible refine wpList_load_blk rfl 35 (.tmp 2) rfl w.heap.size ?_ 35 _ _ k2 Try.underlying35 ?_ Try.size_RMEdit ?_ ?_); rfl; rfl; rfl)
  generalize (w2.alloc (.cells #[.bool e.reset, .slice A e.add.length a, .slice D e.drop.length d, .int .u64 (e.seq : Int)] 35)) = w3 at *
  refine T.mono ?_
  clear T hSl k2
  generalize cutE e = e1 at *
  rintro en w4 ⟨R, r, rfl, oR, b4⟩
  have k4 := k3.below b4 k3.lt
  have b04 := b03.trans (b4.mono b03.size)
  have z34 := b4.size
  have lk3 := k3.lt
  have hS4 : SlS EditE w4 (fun b => b ≠ w.heap.size) R [e1] := Own.slS oR rfl (by simp only [EditE, List.length_singleton]; decide) (fun b h => h.elim id (fun h2 => by omega)) (fun b h => by omega)
  obtain ⟨ad, P, pp, Q, qq, rfl, hab, y0, y1, y2, y3, ⟨hP, hPc⟩, ⟨hQ, hQc⟩, _⟩ := EditE.at_ hS4 (k := 0) (by show 0 < 1; decide)
  simp only [Nat.zero_mul, add_zero_, List.getElem_cons_zero] at y0 y1 y2 y3 hP hPc hQ hQc
  clear hS4 oR k3 b03 d3 b4
  go_upto_region 4 with ((with_reducible refine wpList_store_blk rfl 35 (.tmp 2) (.tmp 17) rfl w.heap.size 35 _ #[.bool e1.reset, .slice P e1.add.length pp, .slice Q e1.drop.length qq, .int .u64 (e1.seq : Int)] ?_ ?_ k4 Try.size_RMEdit ?_ ?_ ?_ ?_); rfl; rfl; rfl; rfl; (simp [Value.oneCell']); intro w5 k5 g5 z5)
  clear y0 y1 y2 y3 hab
  have hne : ∀ b, b ≠ w.heap.size → some w.heap.size ≠ some b := fun b h e => h (Option.some.inj e).symm
  have hP5 : SlS RFE w5 (fun b => b ≠ w.heap.size) P e1.add := hP.same (.of_grown g5 hne)
  have hQ5 : SlS NE w5 (fun b => b ≠ w.heap.size) Q e1.drop := hQ.same (.of_grown g5 hne)
  have b05 := b04.grown g5 b04.size (fun j e => by have := Option.some.inj e; omega)
  have z45 := g5.size
  clear hP hQ g5 z5 k4 b04 hne
  have T := change_any e1 P Q pp qq w5 (hP5.mono (fun _ _ _ => trivial)) (hQ5.mono (fun _ _ _ => trivial)) (by omega) (by omega) (fun f hf => ⟨Nat.le_trans (he3 f hf).1 (by decide), Nat.le_trans (he3 f hf).2 (by decide)⟩)
  have hsm : e1.sm := ⟨by omega, by omega, fun f hf => ⟨Nat.le_trans (he3 f hf).1 (by decide), Nat.le_trans (he3 f hf).2 (by decide)⟩⟩
  have HEL := Lib.hid (editL_le hue hdu hfw he1 he2 he3)
  have HDE := Lib.hid (decM_edit ⟨hfw, hdu, hue⟩ (fun l hl => Nat.lt_of_le_of_lt (part_le hue hdu hfw he2 he3 l hl) (by decide)))
  clear he3
  go_wp2_with ((with_reducible refine wpList_load_blk rfl 35 (.tmp 2) rfl w.heap.size ?_ 35 _ _ k5 Try.underlying35 ?_ Try.size_RMEdit ?_ ?_); rfl; rfl; rfl)
  refine T.mono ?_
  clear T
  rintro en w6 ⟨R6, r6, D6, d6, rfl, oA6, oD6, b6⟩
  have k6 := k5.below b6 k5.lt
  have hP6 := hP5.below b6
  have hQ6 := hQ5.below b6
  have b06 := b05.trans (b6.mono b05.size)
  have lk5 := k5.lt
  have z56 := b6.size
  clear k5 hP5 hQ5 b05 b6
  have T := mencode_any e1 R6 D6 r6 d6 w6 (Own.sl oA6 (by simp only [FE]; omega)) (Own.sl oD6 (by simp only [NE]; omega)) hue hsm
  go_wp2_with fail
  refine T.mono ?_
  clear T oA6 oD6
  rintro en w7 ⟨C, cc, rfl, oC0, b7⟩
  have oC : OwnB w6.heap.size w7 C (editL e1) cc := oC0
  have k7 := k6.below b7 k6.lt
  have hP7 := hP6.below b7
  have hQ7 := hQ6.below b7
  have b07 := b06.trans (b7.mono b06.size)
  have lk6 := k6.lt
  have z67 := b7.size
  have hC7 : Bs w7 C (editL e1) := OwnB.bs oC (by have := HEL.out; omega)
  have cC := OwnB.caps oC
  clear k6 hP6 hQ6 b06 b7 oC0 oC
  have T := mdecode_any C (editL e1) cc w7 hC7 cC HEL.out
  rw [HDE.out] at T
  go_wp2_with fail
  refine T.mono ?_
  clear T
  rintro en w8 ⟨A8, a8, D8, d8, rfl, oA8, oD8, _, b8⟩
  replace oA8 : Own FE 66 w8 w7.heap.size (fun b => w7.heap.size ≤ b) (.slice A8 e1.add.length a8) e1.add := oA8
  replace oD8 : Own NE 23 w8 w7.heap.size (fun _ => False) (.slice D8 e1.drop.length d8) e1.drop := oD8
  have k8 := k7.below b8 k7.lt
  have hP8 := hP7.below b8
  have hQ8 := hQ7.below b8
  have hC8 := hC7.below b8
  have b08 := b07.trans (b8.mono b07.size)
  have lk7 := k7.lt
  have z78 := b8.size
  clear k7 hP7 hQ7 hC7 b07 b8
  have d9 : Below w8.heap.size w8 (w8.alloc (.cells #[.bool e1.reset, .slice A8 e1.add.length a8, .slice D8 e1.drop.length d8, .int .u64 (e1.seq : Int)] 42)) := (Below.refl _ _).alloc (Nat.le_refl _) _
  have kB := Blk.new w8 42 #[.bool e1.reset, .slice A8 e1.add.length a8, .slice D8 e1.drop.length d8, .int .u64 (e1.seq : Int)]
  have k9 := k8.below d9 k8.lt
  have hP9 := (hP8.below d9).mono (S' := Any) (fun _ _ _ => trivial)
  have hQ9 := (hQ8.below d9).mono (S' := Any) (fun _ _ _ => trivial)
  have hC9 := hC8.below d9
  have hA9 := Own.sl (Own.below oA8 d9) (by simp only [FE]; omega)
  have hD9 := Own.sl (Own.below oD8 d9) (by simp only [NE]; omega)
  have b09 := b08.trans (d9.mono b08.size)
  have lk8 := k8.lt
  have z89 := d9.size
  clear k8 hP8 hQ8 hC8 b08 oA8 oD8 d9
  try dsimp only
  go_upto_region 6 with fail
  generalize (w8.alloc (.cells #[.bool e1.reset, .slice A8 e1.add.length a8, .slice D8 e1.drop.length d8, .int .u64 (e1.seq : Int)] 42)) = w9 at *
  refine wp_region_noPanic ?_
  have hS : ∀ X, Below w9.heap.size w9 X → X.cell? ⟨w.heap.size, 0, none⟩ = some (.bool e1.reset) ∧ X.cell? ⟨w.heap.size, 1, none⟩ = some (.slice P e1.add.length pp) ∧ X.cell? ⟨w.heap.size, 2, none⟩ = some (.slice Q e1.drop.length qq) ∧ X.cell? ⟨w.heap.size, 3, none⟩ = some (.int .u64 (e1.seq : Int)) ∧ X.cell? ⟨w8.heap.size, 0, none⟩ = some (.bool e1.reset) ∧ X.cell? ⟨w8.heap.size, 1, none⟩ = some (.slice A8 e1.add.length a8) ∧ X.cell? ⟨w8.heap.size, 2, none⟩ = some (.slice D8 e1.drop.length d8) ∧ X.cell? ⟨w8.heap.size, 3, none⟩ = some (.int .u64 (e1.seq : Int)) := fun X h => ⟨(k9.below h k9.lt).cell 0, (k9.below h k9.lt).cell 1, (k9.below h k9.lt).cell 2, (k9.below h k9.lt).cell 3, (kB.below h kB.lt).cell 0, (kB.below h kB.lt).cell 1, (kB.below h kB.lt).cell 2, (kB.below h kB.lt).cell 3⟩
  have HS := Lib.hid hS
  clear hS
  have bd : Below w9.heap.size w9 w9.drew := (Below.refl _ _).drew
  refine wp_region_held_drew (S := fun X => X.cell? ⟨w.heap.size, 0, none⟩ = some (.bool e1.reset) ∧ X.cell? ⟨w.heap.size, 1, none⟩ = some (.slice P e1.add.length pp) ∧ X.cell? ⟨w.heap.size, 2, none⟩ = some (.slice Q e1.drop.length qq) ∧ X.cell? ⟨w.heap.size, 3, none⟩ = some (.int .u64 (e1.seq : Int)) ∧ X.cell? ⟨w8.heap.size, 0, none⟩ = some (.bool e1.reset) ∧ X.cell? ⟨w8.heap.size, 1, none⟩ = some (.slice A8 e1.add.length a8) ∧ X.cell? ⟨w8.heap.size, 2, none⟩ = some (.slice D8 e1.drop.length d8) ∧ X.cell? ⟨w8.heap.size, 3, none⟩ = some (.int .u64 (e1.seq : Int))) (by kernel_rfl) (HS.out _ bd) (fun hH => ?_)
  generalize w9.drew = V at *
  refine wpAnyH_take (i := 0) (v := ?_) rfl (by kernel_rfl) (by kernel_rfl) (by kernel_rfl) (fun _ _ _ h => h) (Or.inl ⟨by rfl, ?_⟩) hH ?_
  case refine_2 => intro w hSw; go_simp; try with_reducible rfl
  try simp only [List.getElem_toArray, List.getElem_cons_zero, Act.put, List.setIfInBounds_toArray, List.set_cons_zero, List.set_cons_succ]
  refine wpAnyH_take (i := 1) (v := ?_) rfl (by kernel_rfl) (by kernel_rfl) (by kernel_rfl) (fun _ _ _ h => h) (Or.inl ⟨by rfl, ?_⟩) hH ?_
  case refine_2 => intro w hSw; obtain ⟨s0, s1, s2, s3, s4, s5, s6, s7⟩ := hSw; go_simp; try with_reducible rfl
  try simp only [List.getElem_toArray, List.getElem_cons_succ, List.getElem_cons_zero, Act.put, List.setIfInBounds_toArray, List.set_cons_zero, List.set_cons_succ]
  refine wpAnyH_ready (rs := [2]) (by kernel_rfl) (by simp) ?_
  refine AllReadyH.cons rfl (fun K hK => ?_) AllReadyH.nil
  go_simp
  refine (rmencode_any e1 P Q pp qq V (hP9.below bd) (hQ9.below bd) hue hsm).mono ?_
  rintro en v1 ⟨G, gg, rfl, oG, c1⟩
  have bv1 := bd.trans (c1.mono bd.size)
  have hG := Bs.of_own oG (by have := HEL.out; omega)
  refine hK.out _ _ (HS.out _ bv1) (fun hH => ?_)
  clear hK K
  try dsimp only
  try simp only [List.getElem_toArray, List.getElem_cons_succ, List.getElem_cons_zero, Act.put, List.setIfInBounds_toArray, List.set_cons_zero, List.set_cons_succ]
  refine wpAnyH_ready (rs := [3]) (by kernel_rfl) (by simp) ?_
  refine AllReadyH.cons rfl (fun K hK => ?_) AllReadyH.nil
  go_simp
  have T := equal_any C G (editL e1) (editL e1) cc gg v1 (hC9.below bv1) hG
  rw [beq_self_eq_true] at T
  refine T.mono ?_
  clear T
  rintro en v2_ ⟨rfl, m, rfl⟩
  have bv2 := below_drewN bv1 m
  refine hK.out _ _ (HS.out _ bv2) (fun hH => ?_)
  clear hK K
  try dsimp only
  try simp only [List.getElem_toArray, List.getElem_cons_succ, List.getElem_cons_zero, Act.put, List.setIfInBounds_toArray, List.set_cons_zero, List.set_cons_succ]
  generalize v1.drewN m = v2 at *
  refine wpAnyH_take (i := 4) (v := ?_) rfl (by kernel_rfl) (by kernel_rfl) (by kernel_rfl) (fun _ _ _ h => h) (Or.inl ⟨by rfl, ?_⟩) hH ?_
  case refine_2 => intro w hSw; go_simp; try with_reducible rfl
  try simp only [List.getElem_toArray, List.getElem_cons_succ, List.getElem_cons_zero, Act.put, List.setIfInBounds_toArray, List.set_cons_zero, List.set_cons_succ]
  refine wpAnyH_take (i := 5) (v := ?_) rfl (by kernel_rfl) (by kernel_rfl) (by kernel_rfl) (fun _ _ _ h => h) (Or.inl ⟨by rfl, ?_⟩) hH ?_
  case refine_2 => intro w hSw; go_simp; try with_reducible rfl
  try simp only [List.getElem_toArray, List.getElem_cons_succ, List.getElem_cons_zero, Act.put, List.setIfInBounds_toArray, List.set_cons_zero, List.set_cons_succ]
  refine wpAnyH_take (i := 6) (v := ?_) rfl (by kernel_rfl) (by kernel_rfl) (by kernel_rfl) (fun _ _ _ h => h) (Or.inl ⟨by rfl, ?_⟩) hH ?_
  case refine_2 => intro w hSw; go_simp; try with_reducible rfl
  try simp only [List.getElem_toArray, List.getElem_cons_succ, List.getElem_cons_zero, Act.put, List.setIfInBounds_toArray, List.set_cons_zero, List.set_cons_succ]
  refine wpAnyH_take (i := 7) (v := ?_) rfl (by kernel_rfl) (by kernel_rfl) (by kernel_rfl) (fun _ _ _ h => h) (Or.inl ⟨by rfl, ?_⟩) hH ?_
  case refine_2 => intro w hSw; go_simp; try with_reducible rfl
  try simp only [List.getElem_toArray, List.getElem_cons_succ, List.getElem_cons_zero, Act.put, List.setIfInBounds_toArray, List.set_cons_zero, List.set_cons_succ]
  refine wpAnyH_take (i := 8) (v := ?_) rfl (by kernel_rfl) (by kernel_rfl) (by kernel_rfl) (fun _ _ _ h => h) (Or.inl ⟨by rfl, ?_⟩) hH ?_
  case refine_2 => intro w hSw; go_simp; try with_reducible rfl
  try simp only [List.getElem_toArray, List.getElem_cons_succ, List.getElem_cons_zero, Act.put, List.setIfInBounds_toArray, List.set_cons_zero, List.set_cons_succ]
  refine wpAnyH_take (i := 9) (v := ?_) rfl (by kernel_rfl) (by kernel_rfl) (by kernel_rfl) (fun _ _ _ h => h) (Or.inl ⟨by rfl, ?_⟩) hH ?_
  case refine_2 => intro w hSw; go_simp; try with_reducible rfl
  try simp only [List.getElem_toArray, List.getElem_cons_succ, List.getElem_cons_zero, Act.put, List.setIfInBounds_toArray, List.set_cons_zero, List.set_cons_succ]
  refine wpAnyH_take (i := 10) (v := ?_) rfl (by kernel_rfl) (by kernel_rfl) (by kernel_rfl) (fun _ _ _ h => h) (Or.inl ⟨by rfl, ?_⟩) hH ?_
  case refine_2 => intro w hSw; obtain ⟨s0, s1, s2, s3, s4, s5, s6, s7⟩ := hSw; go_simp; try with_reducible rfl
  try simp only [List.getElem_toArray, List.getElem_cons_succ, List.getElem_cons_zero, Act.put, List.setIfInBounds_toArray, List.set_cons_zero, List.set_cons_succ]
  refine wpAnyH_take (i := 12) (v := ?_) rfl (by kernel_rfl) (by kernel_rfl) (by kernel_rfl) (fun _ _ _ h => h) (Or.inl ⟨by rfl, ?_⟩) hH ?_
  case refine_2 => intro w hSw; obtain ⟨s0, s1, s2, s3, s4, s5, s6, s7⟩ := hSw; go_simp; try with_reducible rfl
  try simp only [List.getElem_toArray, List.getElem_cons_succ, List.getElem_cons_zero, Act.put, List.setIfInBounds_toArray, List.set_cons_zero, List.set_cons_succ]
  refine wpAnyH_ready (rs := [11]) (by kernel_rfl) (by simp) ?_
  refine AllReadyH.cons rfl (fun K hK => ?_) AllReadyH.nil
  go_simp
  refine (toldedit_any e1 A8 D8 a8 d8 v2 (hA9.below bv2) (by omega)).mono ?_
  rintro en v3 ⟨R3, r3, rfl, o3, c3⟩
  have bv3 := bv2.trans (c3.mono bv2.size)
  refine hK.out _ _ (HS.out _ bv3) (fun hH => ?_)
  clear hK K
  try dsimp only
  try simp only [List.getElem_toArray, List.getElem_cons_succ, List.getElem_cons_zero, Act.put, List.setIfInBounds_toArray, List.set_cons_zero, List.set_cons_succ]
  refine wpAnyH_ready (rs := [13]) (by kernel_rfl) (by simp) ?_
  refine AllReadyH.cons rfl (fun K hK => ?_) AllReadyH.nil
  go_simp
  refine (sameedit_any e1 R3 D8 P Q r3 d8 pp qq v3 (Own.sl (Own.mono o3 (fun _ _ _ _ => trivial)) (by simp only [RFE]; omega)) (hD9.below bv3) (hP9.below bv3) (hQ9.below bv3) (by omega) (by omega)).mono ?_
  rintro en v4 ⟨rfl, c4⟩
  have bv4 := bv3.trans (c4.mono bv3.size)
  refine hK.out _ _ (HS.out _ bv4) (fun hH => ?_)
  clear hK K
  try dsimp only
  try simp only [List.getElem_toArray, List.getElem_cons_succ, List.getElem_cons_zero, Act.put, List.setIfInBounds_toArray, List.set_cons_zero, List.set_cons_succ]
  refine wpAnyH_take (i := 14) (v := ?_) rfl (by kernel_rfl) (by kernel_rfl) (by kernel_rfl) (fun _ _ _ h => h) (Or.inl ⟨by rfl, ?_⟩) hH ?_
  case refine_2 => intro w hSw; go_simp; try with_reducible rfl
  try simp only [List.getElem_toArray, List.getElem_cons_succ, List.getElem_cons_zero, Act.put, List.setIfInBounds_toArray, List.set_cons_zero, List.set_cons_succ]
  refine wpAnyH_take (i := 15) (v := ?_) rfl (by kernel_rfl) (by kernel_rfl) (by kernel_rfl) (fun _ _ _ h => h) (Or.inl ⟨by rfl, ?_⟩) hH ?_
  case refine_2 => intro w hSw; go_simp; try with_reducible rfl
  try simp only [List.getElem_toArray, List.getElem_cons_succ, List.getElem_cons_zero, Act.put, List.setIfInBounds_toArray, List.set_cons_zero, List.set_cons_succ]
  refine wpAnyH_done (by kernel_rfl) ?_ _
  refine NoPanic.normal ?_
  have b10 := b09.trans (bv4.mono b09.size)
  have hB10 := hB.below b10
  clear hH HS bd bv1 bv2 bv3 bv4 oG hG o3 c1 c3 c4 hC9 hP9 hQ9 hA9 hD9 k9 kB hsm HEL HDE hue hdu hfw b09 hB cC
  generalize v4 = w10 at *
  go_wp2_with fail
  refine (copy_any B l c w10 hB10).mono ?_
  rintro en w11 ⟨C2, c2, rfl, oC2, b11⟩
  have hC11 := Bs.of_own oC2 (by omega)
  have cC2 := own_caps oC2
  have hB11 := hB10.below b11
  have b011 := b10.trans (b11.mono b10.size)
  clear hB10 b10 oC2 b11
  go_wp2_with fail
  refine (mdecode_any C2 l c2 w11 hC11 cC2 hl).mono ?_
  rintro en w12 ⟨A9, a9, D9, d9, rfl, oA9, oD9, _, b12⟩
  have hB12 := hB11.below b12
  have b012 := b011.trans (b12.mono b011.size)
  clear hB11 b011 b12 hC11 cC2
  have hdl1 := decM_len l
  obtain ⟨⟨e2, f2⟩, hde⟩ : ∃ z, decM l = z := ⟨_, rfl⟩
  rw [hde] at oA9 oD9 hdl1 ⊢
  have HDE := Lib.hid hde
  clear hde
  replace oA9 : Own FE 66 w12 w11.heap.size (fun b => w11.heap.size ≤ b) (.slice A9 e2.add.length a9) e2.add := oA9
  replace oD9 : Own NE 23 w12 w11.heap.size (fun _ => False) (.slice D9 e2.drop.length d9) e2.drop := oD9
  obtain ⟨hl2, hl3⟩ : e2.add.length ≤ l.length ∧ e2.drop.length ≤ l.length := hdl1
  try dsimp only
  have d13 : Below w12.heap.size w12 (w12.alloc (.cells #[.bool e2.reset, .slice A9 e2.add.length a9, .slice D9 e2.drop.length d9, .int .u64 (e2.seq : Int)] 42)) := (Below.refl _ _).alloc (Nat.le_refl _) _
  have kB := Blk.new w12 42 #[.bool e2.reset, .slice A9 e2.add.length a9, .slice D9 e2.drop.length d9, .int .u64 (e2.seq : Int)]
  have hA13 := Own.sl (Own.below oA9 d13) (by simp only [FE]; omega)
  have hD13 := Own.sl (Own.below oD9 d13) (by simp only [NE]; omega)
  have hB13 := hB12.below d13
  have b013 := b012.trans (d13.mono b012.size)
  clear oA9 oD9 d13 hB12 b012
  go_upto_region 9 with fail
  generalize (w12.alloc (.cells #[.bool e2.reset, .slice A9 e2.add.length a9, .slice D9 e2.drop.length d9, .int .u64 (e2.seq : Int)] 42)) = w13 at *
  have T := rmdecode_any B l c w13 hB13 hc hl
  rw [HDE.out] at T
  go_wp2_with fail
  refine T.mono ?_
  clear T
  rintro en w14 ⟨A14, a14, D14, d14, rfl, oA14, oD14, _, b14⟩
  replace oA14 : Own RFE 71 w14 w13.heap.size (fun b => w13.heap.size ≤ b) (.slice A14 e2.add.length a14) e2.add := oA14
  replace oD14 : Own NE 23 w14 w13.heap.size (fun _ => False) (.slice D14 e2.drop.length d14) e2.drop := oD14
  have kB14 := kB.below b14 kB.lt
  have hA14 := hA13.below b14
  have hD14 := hD13.below b14
  have b014 := b013.trans (b14.mono b013.size)
  clear kB hA13 hD13 hB13 b013 b14
  try dsimp only
  have d15 : Below w14.heap.size w14 (w14.alloc (.cells #[.bool e2.reset, .slice A14 e2.add.length a14, .slice D14 e2.drop.length d14, .int .u64 (e2.seq : Int)] 35)) := (Below.refl _ _).alloc (Nat.le_refl _) _
  have kX := Blk.new w14 35 #[.bool e2.reset, .slice A14 e2.add.length a14, .slice D14 e2.drop.length d14, .int .u64 (e2.seq : Int)]
  have kB15 := kB14.below d15 kB14.lt
  have hA15 := hA14.below d15
  have hD15 := hD14.below d15
  have hR15 := (Own.sl (Own.below (Own.mono oA14 (S' := Any) (fun _ _ _ _ => trivial)) d15) (by simp only [RFE]; omega))
  have hE15 := Own.sl (Own.below oD14 d15) (by simp only [NE]; omega)
  have b015 := b014.trans (d15.mono b014.size)
  clear oA14 oD14 d15 kB14 hA14 hD14 b014
  have d7 : (f2 == f2) = true := by rw [beq_self_eq_true]
  go_upto_region 10 with fail
  generalize (w14.alloc (.cells #[.bool e2.reset, .slice A14 e2.add.length a14, .slice D14 e2.drop.length d14, .int .u64 (e2.seq : Int)] 35)) = w15 at *
  refine wp_region_noPanic ?_
  have hS : ∀ X, Below w15.heap.size w15 X → X.cell? ⟨w12.heap.size, 0, none⟩ = some (.bool e2.reset) ∧ X.cell? ⟨w12.heap.size, 1, none⟩ = some (.slice A9 e2.add.length a9) ∧ X.cell? ⟨w12.heap.size, 2, none⟩ = some (.slice D9 e2.drop.length d9) ∧ X.cell? ⟨w12.heap.size, 3, none⟩ = some (.int .u64 (e2.seq : Int)) ∧ X.cell? ⟨w14.heap.size, 0, none⟩ = some (.bool e2.reset) ∧ X.cell? ⟨w14.heap.size, 1, none⟩ = some (.slice A14 e2.add.length a14) ∧ X.cell? ⟨w14.heap.size, 2, none⟩ = some (.slice D14 e2.drop.length d14) ∧ X.cell? ⟨w14.heap.size, 3, none⟩ = some (.int .u64 (e2.seq : Int)) := fun X h => ⟨(kB15.below h kB15.lt).cell 0, (kB15.below h kB15.lt).cell 1, (kB15.below h kB15.lt).cell 2, (kB15.below h kB15.lt).cell 3, (kX.below h kX.lt).cell 0, (kX.below h kX.lt).cell 1, (kX.below h kX.lt).cell 2, (kX.below h kX.lt).cell 3⟩
  have HS := Lib.hid hS
  clear hS
  have bd : Below w15.heap.size w15 w15.drew := (Below.refl _ _).drew
  refine wp_region_held_drew (S := fun X => X.cell? ⟨w12.heap.size, 0, none⟩ = some (.bool e2.reset) ∧ X.cell? ⟨w12.heap.size, 1, none⟩ = some (.slice A9 e2.add.length a9) ∧ X.cell? ⟨w12.heap.size, 2, none⟩ = some (.slice D9 e2.drop.length d9) ∧ X.cell? ⟨w12.heap.size, 3, none⟩ = some (.int .u64 (e2.seq : Int)) ∧ X.cell? ⟨w14.heap.size, 0, none⟩ = some (.bool e2.reset) ∧ X.cell? ⟨w14.heap.size, 1, none⟩ = some (.slice A14 e2.add.length a14) ∧ X.cell? ⟨w14.heap.size, 2, none⟩ = some (.slice D14 e2.drop.length d14) ∧ X.cell? ⟨w14.heap.size, 3, none⟩ = some (.int .u64 (e2.seq : Int))) (by kernel_rfl) (HS.out _ bd) (fun hH => ?_)
  generalize w15.drew = V at *
  refine wpAnyH_take (i := 0) (v := ?_) rfl (by kernel_rfl) (by kernel_rfl) (by kernel_rfl) (fun _ _ _ h => h) (Or.inl ⟨by rfl, ?_⟩) hH ?_
  case refine_2 => intro w hSw; go_simp; try with_reducible rfl
  try simp only [List.getElem_toArray, List.getElem_cons_zero, Act.put, List.setIfInBounds_toArray, List.set_cons_zero, List.set_cons_succ]
  refine wpAnyH_take (i := 1) (v := ?_) rfl (by kernel_rfl) (by kernel_rfl) (by kernel_rfl) (fun _ _ _ h => h) (Or.inl ⟨by rfl, ?_⟩) hH ?_
  case refine_2 => intro w hSw; go_simp; try with_reducible rfl
  try simp only [List.getElem_toArray, List.getElem_cons_succ, List.getElem_cons_zero, Act.put, List.setIfInBounds_toArray, List.set_cons_zero, List.set_cons_succ]
  refine wpAnyH_take (i := 2) (v := ?_) rfl (by kernel_rfl) (by kernel_rfl) (by kernel_rfl) (fun _ _ _ h => h) (Or.inl ⟨by rfl, ?_⟩) hH ?_
  case refine_2 => intro w hSw; go_simp; try with_reducible rfl
  try simp only [List.getElem_toArray, List.getElem_cons_succ, List.getElem_cons_zero, Act.put, List.setIfInBounds_toArray, List.set_cons_zero, List.set_cons_succ]
  refine wpAnyH_take (i := 3) (v := ?_) rfl (by kernel_rfl) (by kernel_rfl) (by kernel_rfl) (fun _ _ _ h => h) (Or.inl ⟨by rfl, ?_⟩) hH ?_
  case refine_2 => intro w hSw; go_simp; try with_reducible rfl
  try simp only [List.getElem_toArray, List.getElem_cons_succ, List.getElem_cons_zero, Act.put, List.setIfInBounds_toArray, List.set_cons_zero, List.set_cons_succ]
  refine wpAnyH_take (i := 4) (v := ?_) rfl (by kernel_rfl) (by kernel_rfl) (by kernel_rfl) (fun _ _ _ h => h) (Or.inl ⟨by rfl, ?_⟩) hH ?_
  case refine_2 => intro w hSw; obtain ⟨s0, s1, s2, s3, s4, s5, s6, s7⟩ := hSw; go_simp; try with_reducible rfl
  try simp only [List.getElem_toArray, List.getElem_cons_succ, List.getElem_cons_zero, Act.put, List.setIfInBounds_toArray, List.set_cons_zero, List.set_cons_succ]
  refine wpAnyH_take (i := 6) (v := ?_) rfl (by kernel_rfl) (by kernel_rfl) (by kernel_rfl) (fun _ _ _ h => h) (Or.inl ⟨by rfl, ?_⟩) hH ?_
  case refine_2 => intro w hSw; obtain ⟨s0, s1, s2, s3, s4, s5, s6, s7⟩ := hSw; go_simp; try with_reducible rfl
  try simp only [List.getElem_toArray, List.getElem_cons_succ, List.getElem_cons_zero, Act.put, List.setIfInBounds_toArray, List.set_cons_zero, List.set_cons_succ]
  refine wpAnyH_ready (rs := [5]) (by kernel_rfl) (by simp) ?_
  refine AllReadyH.cons rfl (fun K hK => ?_) AllReadyH.nil
  go_simp
  refine (toldedit_any e2 A9 D9 a9 d9 V (hA15.below bd) (by omega)).mono ?_
  rintro en v3 ⟨R3, r3, rfl, o3, c3⟩
  have bv3 := bd.trans (c3.mono bd.size)
  refine hK.out _ _ (HS.out _ bv3) (fun hH => ?_)
  clear hK K
  try dsimp only
  try simp only [List.getElem_toArray, List.getElem_cons_succ, List.getElem_cons_zero, Act.put, List.setIfInBounds_toArray, List.set_cons_zero, List.set_cons_succ]
  refine wpAnyH_ready (rs := [7]) (by kernel_rfl) (by simp) ?_
  refine AllReadyH.cons rfl (fun K hK => ?_) AllReadyH.nil
  go_simp
  refine (sameedit_any e2 R3 D9 A14 D14 r3 d9 a14 d14 v3 (Own.sl (Own.mono o3 (fun _ _ _ _ => trivial)) (by simp only [RFE]; omega)) (hD15.below bv3) (hR15.below bv3) (hE15.below bv3) (by omega) (by omega)).mono ?_
  rintro en v4 ⟨rfl, c4⟩
  have bv4 := bv3.trans (c4.mono bv3.size)
  refine hK.out _ _ (HS.out _ bv4) (fun hH => ?_)
  clear hK K
  try dsimp only
  try simp only [List.getElem_toArray, List.getElem_cons_succ, List.getElem_cons_zero, Act.put, List.setIfInBounds_toArray, List.set_cons_zero, List.set_cons_succ]
  refine wpAnyH_take (i := 8) (v := ?_) rfl (by kernel_rfl) (by kernel_rfl) (by kernel_rfl) (fun _ _ _ h => h) (Or.inl ⟨by rfl, ?_⟩) hH ?_
  case refine_2 => intro w hSw; go_simp; try with_reducible rfl
  try simp only [List.getElem_toArray, List.getElem_cons_succ, List.getElem_cons_zero, Act.put, List.setIfInBounds_toArray, List.set_cons_zero, List.set_cons_succ]
  refine wpAnyH_take (i := 9) (v := ?_) rfl (by kernel_rfl) (by kernel_rfl) (by kernel_rfl) (fun _ _ _ h => h) (Or.inl ⟨by rfl, ?_⟩) hH ?_
  case refine_2 => intro w hSw; go_simp; try with_reducible rfl
  try simp only [List.getElem_toArray, List.getElem_cons_succ, List.getElem_cons_zero, Act.put, List.setIfInBounds_toArray, List.set_cons_zero, List.set_cons_succ]
  refine wpAnyH_done (by kernel_rfl) ?_ _
  refine NoPanic.normal ?_
  go_wp2_with fail
  go_ret
  exact ⟨rfl, b015.trans (bv4.mono b015.size)⟩
end Go.Proofs.Ytmgibpedclngpaa
