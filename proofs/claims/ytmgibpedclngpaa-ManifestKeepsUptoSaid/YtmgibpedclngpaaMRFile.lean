/- A file out of bytes in the document's words: caissonref12.file. (Printed by wip/gen_mrfile.py.) -/
import Derived.Test.YtmgibpedclngpaaMRFileP
namespace Go.Proofs.Ytmgibpedclngpaa
open Go.RowKit

def LFile.zero : LFile := ⟨0, 0, [], [], 0, 0⟩
def fileQ (p : List UInt8) : LFile × Int := if (fileR p).2 ≠ 0 then (.zero, (fileR p).2) else fileR p
def RetRFile (r : LFile × Int) (w : World) (en : Ending) (w' : World) : Prop :=
  ∃ A c B d, en = .returned (.tuple #[.agg #[.int .u64 (r.1.num : Int), .int .i64 r.1.level, .slice A r.1.first.length c, .slice B r.1.last.length d, .int .i64 r.1.count, .int .i64 r.1.size], .int .i64 r.2]) ∧ OwnB w.heap.size w' A r.1.first c ∧ OwnB w.heap.size w' B r.1.last d ∧ Below w.heap.size w w'
theorem RetRFile.bad {r : LFile × Int} {e : Int} (h : Hid (r = (.zero, e))) {w w' : World} (hb : Below w.heap.size w w') : RetRFile r w (.returned (.tuple #[.agg #[.int .u64 0, .int .i64 0, .slice none 0 0, .slice none 0 0, .int .i64 0, .int .i64 0], .int .i64 e])) w' := by
  rw [h.out]
  exact ⟨none, 0, none, 0, rfl, OwnB.nil_ _ _, OwnB.nil_ _ _, hb⟩
theorem Try.size_RFile : (Try.prog.info? 71).map (·.size) = some 6 := by kernel_rfl
set_option maxRecDepth 100000 in
set_option maxHeartbeats 8000000 in
theorem rmfile_any (A : Option Addr) (p : List UInt8) (c : Nat) (w : World) (hb : Bs w A p) (hp : p.length ≤ 1048576) : Calls Try.prog 56 #[.slice A p.length c] w (RetRFile (fileQ p) w) := by
  have b0 : Below w.heap.size w (w.alloc (.cells #[.int .u64 0, .int .i64 0, .slice none 0 0, .slice none 0 0, .int .i64 0, .int .i64 0] 71)) := (Below.refl _ _).alloc (Nat.le_refl _) _
  have kP := Blk.new w 71 #[.int .u64 0, .int .i64 0, .slice none 0 0, .slice none 0 0, .int .i64 0, .int .i64 0]
  have hb0 := hb.below b0
  have T := numbers_any A p c 0 4 (w.alloc (.cells #[.int .u64 0, .int .i64 0, .slice none 0 0, .slice none 0 0, .int .i64 0, .int .i64 0] 71)) hb0 (Nat.zero_le _) hp
  obtain ⟨⟨n1, q1, e1⟩, h1⟩ : ∃ r, nN p 0 0 = r := ⟨_, rfl⟩
  obtain ⟨⟨n2, q2, e2⟩, h2⟩ : ∃ r, nN p q1 e1 = r := ⟨_, rfl⟩
  obtain ⟨⟨n3, q3, e3⟩, h3⟩ : ∃ r, nN p q2 e2 = r := ⟨_, rfl⟩
  obtain ⟨⟨n4, q4, e4⟩, h4⟩ : ∃ r, nN p q3 e3 = r := ⟨_, rfl⟩
  obtain ⟨⟨t1, q5, e5⟩, h5⟩ : ∃ r, tN p q4 e4 = r := ⟨_, rfl⟩
  obtain ⟨⟨t2, q6, e6⟩, h6⟩ : ∃ r, tN p q5 e5 = r := ⟨_, rfl⟩
  have hu1 : U64 n1 := by have := nN_u64 p 0 0; rw [h1] at this; exact this
  have hu2 : U64 n2 := by have := nN_u64 p q1 e1; rw [h2] at this; exact this
  have hu3 : U64 n3 := by have := nN_u64 p q2 e2; rw [h3] at this; exact this
  have hu4 : U64 n4 := by have := nN_u64 p q3 e3; rw [h4] at this; exact this
  have hq1 : q1 ≤ p.length := by have := nN_le (e := 0) (Nat.zero_le p.length); rw [h1] at this; exact this
  have hq2 : q2 ≤ p.length := by have := nN_le (e := e1) hq1; rw [h2] at this; exact this
  have hq3 : q3 ≤ p.length := by have := nN_le (e := e2) hq2; rw [h3] at this; exact this
  have hq4 : q4 ≤ p.length := by have := nN_le (e := e3) hq3; rw [h4] at this; exact this
  have hq5 : q5 ≤ p.length := by have := tN_le (e := e4) hq4; rw [h5] at this; exact this
  have hq6 : q6 ≤ p.length := by have := tN_le (e := e5) hq5; rw [h6] at this; exact this
  rw [numA_four h1 h2 h3 h4] at T
  have HF : Hid (fileR p = (⟨n1, toI n2, t1, t2, toI n3, toI n4⟩, doneE p q6 e6)) := fileR_eq (Lib.hid h1) (Lib.hid h2) (Lib.hid h3) (Lib.hid h4) (Lib.hid h5) (Lib.hid h6)
  have H5 := Lib.hid h5
  have H6 := Lib.hid h6
  have hw2 := wrap_toI hu2
  have hw3 := wrap_toI hu3
  have hw4 := wrap_toI hu4
  have hbS : At (fun b => b < w.heap.size) A p.length := fun ad e hn => by obtain ⟨a2, e2, h1, _⟩ := hb.1.2 hn; obtain rfl := Option.some.inj (e.symm.trans e2); exact h1
  clear h1 h2 h3 h4 h5 h6 hb
  go_enter Try.func56, Try.ntmps56
  go_wp2_with fail
  generalize (w.alloc (.cells #[.int .u64 0, .int .i64 0, .slice none 0 0, .slice none 0 0, .int .i64 0, .int .i64 0] 71)) = W0 at *
  refine T.mono ?_
  clear T
  rintro en w1 ⟨D, d, rfl, oD0, b1⟩
  have k1 := kP.below b1 kP.lt
  have z0 := kP.lt
  have z1 := b1.size
  have b01 := b0.trans (b1.mono b0.size)
  have hb1 := hb0.below b1
  clear kP b0 hb0
  by_cases he4 : e4 ≠ 0
  · have HE : Hid (fileQ p = (.zero, e4)) := by
      have h5 := H5.out
      have h6 := H6.out
      rw [tN_bad he4] at h5
      cases h5
      rw [tN_bad he4] at h6
      cases h6
      show _ = _
      unfold fileQ
      rw [HF.out]
      show (if doneE p q4 e4 ≠ 0 then (LFile.zero, doneE p q4 e4) else _) = _
      rw [doneE_bad he4, if_pos he4]
    have d0 : (e4 != 0) = true := by rw [bne_iff_ne]; exact he4
    rw [if_pos he4] at oD0 ⊢
    clear he4 HF H5 H6 oD0
    try dsimp only
    go_wp2_with ((with_reducible refine wpList_store_blk rfl 71 (.tmp 2) (.tmp 18) rfl w.heap.size 71 _ #[.int .u64 0, .int .i64 0, .slice none 0 0, .slice none 0 0, .int .i64 0, .int .i64 0] ?_ ?_ k1 Try.size_RFile ?_ ?_ ?_ ?_); rfl; rfl; rfl; rfl; (simp [Value.oneCell']); intro w9 kz9 g9 z9)
    exact bodyPost_ret (results_cell2 rfl rfl rfl kz9 Try.underlying71 rfl Try.size_RFile) rfl (by exact RetRFile.bad HE (b01.grown g9 b01.size (fun j e => by have := Option.some.inj e; omega)))
  · obtain rfl : e4 = 0 := Classical.byContradiction he4
    rw [if_neg (fun h => h rfl)] at oD0 ⊢
    replace oD0 : Own NE 23 w1 W0.heap.size (fun _ => False) (.slice D 4 d) [n1, n2, n3, n4] := oD0
    clear he4
    try dsimp only
    go_upto_region 4 with fail
    have sD : Sl NE w1 D [n1, n2, n3, n4] := Own.sl (show Own NE 23 w1 W0.heap.size (fun _ => False) (.slice D [n1, n2, n3, n4].length d) [n1, n2, n3, n4] from oD0) (by show 4 * 8 ≤ 140737488351232; decide)
    obtain ⟨ad, rfl, hab, x0, _⟩ := NE.at_ sD (k := 0) (by show 0 < 4; decide)
    obtain ⟨ad1, e1_, _, x1, _⟩ := NE.at_ sD (k := 1) (by show 1 < 4; decide)
    obtain rfl := Option.some.inj e1_
    obtain ⟨ad2, e2_, _, x2, _⟩ := NE.at_ sD (k := 2) (by show 2 < 4; decide)
    obtain rfl := Option.some.inj e2_
    obtain ⟨ad3, e3_, _, x3, _⟩ := NE.at_ sD (k := 3) (by show 3 < 4; decide)
    obtain rfl := Option.some.inj e3_
    rw [add_zero_] at x0
    unfold Addr.add at x1 x2 x3
    rw [if_neg (by decide)] at x1 x2 x3
    replace x0 : w1.cell? ad = some (.int .u64 (n1 : Int)) := x0
    replace x1 : w1.cell? ⟨ad.block, ad.off + 1, none⟩ = some (.int .u64 (n2 : Int)) := x1
    replace x2 : w1.cell? ⟨ad.block, ad.off + 2, none⟩ = some (.int .u64 (n3 : Int)) := x2
    replace x3 : w1.cell? ⟨ad.block, ad.off + 3, none⟩ = some (.int .u64 (n4 : Int)) := x3
    clear sD oD0 e1_ e2_ e3_
    refine wp_region_noPanic ?_
    have kPd := k1.drew
    have bd := b01.drew
    have hbd := hb1.drew
    refine wp_region_held_drew (S := fun W => W.cell? ad = some (.int .u64 (n1 : Int)) ∧ W.cell? ⟨ad.block, ad.off + 1, none⟩ = some (.int .u64 (n2 : Int)) ∧ W.cell? ⟨ad.block, ad.off + 2, none⟩ = some (.int .u64 (n3 : Int)) ∧ W.cell? ⟨ad.block, ad.off + 3, none⟩ = some (.int .u64 (n4 : Int))) (by kernel_rfl) ⟨x0, x1, x2, x3⟩ (fun hH => ?_)
    have hab2 : ad.block < w1.drew.heap.size := hab
    have zW : w1.heap.size ≤ w1.drew.heap.size := Nat.le_refl _
    clear x0 x1 x2 x3 k1 b01 hb1 hab
    generalize w1.drew = V at *
    refine wpAnyH_take (i := 0) (v := ?_) rfl (by kernel_rfl) (by kernel_rfl) (by kernel_rfl) (fun _ _ _ h => h) (Or.inl ⟨by rfl, ?_⟩) hH ?_
    case refine_2 => intro w hSw; go_simp; try with_reducible rfl
    try simp only [List.getElem_toArray, List.getElem_cons_zero, Act.put, List.setIfInBounds_toArray, List.set_cons_zero, List.set_cons_succ]
    refine wpAnyH_take (i := 1) (v := ?_) rfl (by kernel_rfl) (by kernel_rfl) (by kernel_rfl) (fun _ _ _ h => h) (Or.inl ⟨by rfl, ?_⟩) hH ?_
    case refine_2 => intro w hSw; go_simp; try with_reducible rfl
    try simp only [List.getElem_toArray, List.getElem_cons_succ, List.getElem_cons_zero, Act.put, List.setIfInBounds_toArray, List.set_cons_zero, List.set_cons_succ]
    refine wpAnyH_take (i := 2) (v := ?_) rfl (by kernel_rfl) (by kernel_rfl) (by kernel_rfl) (fun _ _ _ h => h) (Or.inl ⟨by rfl, ?_⟩) hH ?_
    case refine_2 => intro w hSw; obtain ⟨s0, s1, s2, s3⟩ := hSw; go_simp; try with_reducible rfl
    try simp only [List.getElem_toArray, List.getElem_cons_succ, List.getElem_cons_zero, Act.put, List.setIfInBounds_toArray, List.set_cons_zero, List.set_cons_succ]
    refine wpAnyH_take (i := 3) (v := ?_) rfl (by kernel_rfl) (by kernel_rfl) (by kernel_rfl) (fun _ _ _ h => h) (Or.inl ⟨by rfl, ?_⟩) hH ?_
    case refine_2 => intro w hSw; go_simp; try with_reducible rfl
    try simp only [List.getElem_toArray, List.getElem_cons_succ, List.getElem_cons_zero, Act.put, List.setIfInBounds_toArray, List.set_cons_zero, List.set_cons_succ]
    refine wpAnyH_take (i := 4) (v := ?_) rfl (by kernel_rfl) (by kernel_rfl) (by kernel_rfl) (fun _ _ _ h => h) (Or.inl ⟨by rfl, ?_⟩) hH ?_
    case refine_2 => intro w hSw; go_simp; try with_reducible rfl
    try simp only [List.getElem_toArray, List.getElem_cons_succ, List.getElem_cons_zero, Act.put, List.setIfInBounds_toArray, List.set_cons_zero, List.set_cons_succ]
    refine wpAnyH_take (i := 5) (v := ?_) rfl (by kernel_rfl) (by kernel_rfl) (by kernel_rfl) (fun _ _ _ h => h) (Or.inl ⟨by rfl, ?_⟩) hH ?_
    case refine_2 => intro w hSw; obtain ⟨s0, s1, s2, s3⟩ := hSw; go_simp; try with_reducible rfl
    try simp only [List.getElem_toArray, List.getElem_cons_succ, List.getElem_cons_zero, Act.put, List.setIfInBounds_toArray, List.set_cons_zero, List.set_cons_succ]
    refine wpAnyH_take (i := 6) (v := ?_) rfl (by kernel_rfl) (by kernel_rfl) (by kernel_rfl) (fun _ _ _ h => h) (Or.inl ⟨by rfl, ?_⟩) hH ?_
    case refine_2 => intro w hSw; go_simp; try with_reducible rfl
    try simp only [List.getElem_toArray, List.getElem_cons_succ, List.getElem_cons_zero, Act.put, List.setIfInBounds_toArray, List.set_cons_zero, List.set_cons_succ]
    refine wpAnyH_take (i := 7) (v := ?_) rfl (by kernel_rfl) (by kernel_rfl) (by kernel_rfl) (fun _ _ _ h => h) (Or.inl ⟨by rfl, ?_⟩) hH ?_
    case refine_2 => intro w hSw; go_simp; try with_reducible rfl
    try simp only [List.getElem_toArray, List.getElem_cons_succ, List.getElem_cons_zero, Act.put, List.setIfInBounds_toArray, List.set_cons_zero, List.set_cons_succ]
    refine wpAnyH_take (i := 8) (v := ?_) rfl (by kernel_rfl) (by kernel_rfl) (by kernel_rfl) (fun _ _ _ h => h) (Or.inl ⟨by rfl, ?_⟩) hH ?_
    case refine_2 => intro w hSw; go_simp; try with_reducible rfl
    try simp only [List.getElem_toArray, List.getElem_cons_succ, List.getElem_cons_zero, Act.put, List.setIfInBounds_toArray, List.set_cons_zero, List.set_cons_succ]
    refine wpAnyH_take (i := 9) (v := ?_) rfl (by kernel_rfl) (by kernel_rfl) (by kernel_rfl) (fun _ _ _ h => h) (Or.inl ⟨by rfl, ?_⟩) hH ?_
    case refine_2 => intro w hSw; obtain ⟨s0, s1, s2, s3⟩ := hSw; go_simp; try with_reducible rfl
    try simp only [List.getElem_toArray, List.getElem_cons_succ, List.getElem_cons_zero, Act.put, List.setIfInBounds_toArray, List.set_cons_zero, List.set_cons_succ]
    refine wpAnyH_take (i := 10) (v := ?_) rfl (by kernel_rfl) (by kernel_rfl) (by kernel_rfl) (fun _ _ _ h => h) (Or.inl ⟨by rfl, ?_⟩) hH ?_
    case refine_2 => intro w hSw; go_simp; try with_reducible rfl
    try simp only [List.getElem_toArray, List.getElem_cons_succ, List.getElem_cons_zero, Act.put, List.setIfInBounds_toArray, List.set_cons_zero, List.set_cons_succ]
    refine wpAnyH_take (i := 11) (v := ?_) rfl (by kernel_rfl) (by kernel_rfl) (by kernel_rfl) (fun _ _ _ h => h) (Or.inl ⟨by rfl, ?_⟩) hH ?_
    case refine_2 => intro w hSw; go_simp; try with_reducible rfl
    try simp only [List.getElem_toArray, List.getElem_cons_succ, List.getElem_cons_zero, Act.put, List.setIfInBounds_toArray, List.set_cons_zero, List.set_cons_succ]
    refine wpAnyH_take (i := 12) (v := ?_) rfl (by kernel_rfl) (by kernel_rfl) (by kernel_rfl) (fun _ _ _ h => h) (Or.inl ⟨by rfl, ?_⟩) hH ?_
    case refine_2 => intro w hSw; go_simp; try with_reducible rfl
    try simp only [List.getElem_toArray, List.getElem_cons_succ, List.getElem_cons_zero, Act.put, List.setIfInBounds_toArray, List.set_cons_zero, List.set_cons_succ]
    refine wpAnyH_take (i := 13) (v := ?_) rfl (by kernel_rfl) (by kernel_rfl) (by kernel_rfl) (fun _ _ _ h => h) (Or.inl ⟨by rfl, ?_⟩) hH ?_
    case refine_2 => intro w hSw; obtain ⟨s0, s1, s2, s3⟩ := hSw; go_simp; try with_reducible rfl
    try simp only [List.getElem_toArray, List.getElem_cons_succ, List.getElem_cons_zero, Act.put, List.setIfInBounds_toArray, List.set_cons_zero, List.set_cons_succ]
    refine wpAnyH_take (i := 14) (v := ?_) rfl (by kernel_rfl) (by kernel_rfl) (by kernel_rfl) (fun _ _ _ h => h) (Or.inl ⟨by rfl, ?_⟩) hH ?_
    case refine_2 => intro w hSw; go_simp; try with_reducible rfl
    try simp only [List.getElem_toArray, List.getElem_cons_succ, List.getElem_cons_zero, Act.put, List.setIfInBounds_toArray, List.set_cons_zero, List.set_cons_succ]
    refine wpAnyH_take (i := 15) (v := ?_) rfl (by kernel_rfl) (by kernel_rfl) (by kernel_rfl) (fun _ _ _ h => h) (Or.inl ⟨by rfl, ?_⟩) hH ?_
    case refine_2 => intro w hSw; go_simp; try with_reducible rfl
    try simp only [List.getElem_toArray, List.getElem_cons_succ, List.getElem_cons_zero, Act.put, List.setIfInBounds_toArray, List.set_cons_zero, List.set_cons_succ]
    refine wpAnyH_ready (rs := [16]) (by kernel_rfl) (by simp) ?_
    refine AllReadyH.cons rfl (fun K hK => ?_) AllReadyH.nil
    go_simp
    have a3 : Below V.heap.size V (V.alloc (.cells #[.int .u64 0, .int .i64 0, .slice none 0 0, .slice none 0 0, .int .i64 0, .int .i64 0] 71)) := (Below.refl _ _).alloc (Nat.le_refl _) _
    have kz3 := Blk.new V 71 #[.int .u64 0, .int .i64 0, .slice none 0 0, .slice none 0 0, .int .i64 0, .int .i64 0]
    have kP3 := kPd.below a3 kPd.lt
    have hb3 := hbd.below a3
    have b3 := bd.trans (a3.mono bd.size)
    have hS3 := And.intro ((a3.cell (by omega)).trans hH.1) (And.intro ((a3.cell (p := ⟨ad.block, ad.off + 1, none⟩) (by show ad.block < _; omega)).trans hH.2.1) (And.intro ((a3.cell (p := ⟨ad.block, ad.off + 2, none⟩) (by show ad.block < _; omega)).trans hH.2.2.1) ((a3.cell (p := ⟨ad.block, ad.off + 3, none⟩) (by show ad.block < _; omega)).trans hH.2.2.2)))
    refine hK.out _ _ hS3 (fun hH3 => ?_)
    clear hK K hH kPd hbd
    try dsimp only
    try simp only [List.getElem_toArray, List.getElem_cons_succ, List.getElem_cons_zero, Act.put, List.setIfInBounds_toArray, List.set_cons_zero, List.set_cons_succ]
    have zz := a3.size
    have zV := kz3.lt
    have zw : w.heap.size < V.heap.size := by omega
    clear a3 bd
    generalize (V.alloc (.cells #[.int .u64 0, .int .i64 0, .slice none 0 0, .slice none 0 0, .int .i64 0, .int .i64 0] 71)) = V3 at *
    refine wpAnyH_ready (rs := [17]) (by kernel_rfl) (by simp) ?_
    refine AllReadyH.cons rfl (fun K hK => ?_) AllReadyH.nil
    refine step_store_blk rfl 71 (.tmp 7) (.tmp 35) rfl V.heap.size 71 #[.int .u64 0, .int .i64 0, .slice none 0 0, .slice none 0 0, .int .i64 0, .int .i64 0] #[.int .u64 (n1 : Int), .int .i64 (toI n2), .slice none 0 0, .slice none 0 0, .int .i64 (toI n3), .int .i64 (toI n4)] rfl rfl kz3 Try.size_RFile rfl rfl (by simp [Value.oneCell']) ?_
    intro w4 kF4 g4 z4
    have kP4 := kP3.grown g4 (fun e => by have := Option.some.inj e; omega)
    have b4 := b3.grown g4 b3.size (fun j e => by have := Option.some.inj e; omega)
    have hb4 := hb3.sameS hbS (.of_grown g4 (fun b hb e => by have := Option.some.inj e; omega))
    refine hK.out _ _ ⟨(g4.cell_far ad (by omega) (fun e => by have h : ad.block = V.heap.size := Option.some.inj e; omega)).trans hS3.1, (g4.cell_far ⟨ad.block, ad.off + 1, none⟩ (by show ad.block < _; omega) (fun e => by have h : ad.block = V.heap.size := Option.some.inj e; omega)).trans hS3.2.1, (g4.cell_far ⟨ad.block, ad.off + 2, none⟩ (by show ad.block < _; omega) (fun e => by have h : ad.block = V.heap.size := Option.some.inj e; omega)).trans hS3.2.2.1, (g4.cell_far ⟨ad.block, ad.off + 3, none⟩ (by show ad.block < _; omega) (fun e => by have h : ad.block = V.heap.size := Option.some.inj e; omega)).trans hS3.2.2.2⟩ (fun hH9 => ?_)
    clear hK K hH3 hS3 kP3 hb3 b3 kz3
    try simp only [List.getElem_toArray, List.getElem_cons_succ, List.getElem_cons_zero, Act.put]
    refine wpAnyH_done (by kernel_rfl) ?_ _
    refine NoPanic.normal ?_
    clear hH9
    have T := rgett_nx A p c q4 w4 hb4 hq4 (by omega)
    have h5 := H5.out
    rw [tN_zero] at h5
    rw [h5] at T
    clear h5
    have zz4 := kF4.lt
    go_wp2_with fail
    refine T.mono ?_
    clear T
    rintro en w5 ⟨D1, c1, rfl, oA0, b5⟩
    have oA5 : OwnB w4.heap.size w5 D1 t1 c1 := oA0
    have z45 := b5.size
    have kF5 := kF4.below b5 kF4.lt
    have kP5 := kP4.below b5 kP4.lt
    have hb5 := hb4.below b5
    have b05 := b4.trans (b5.mono b4.size)
    clear kF4 kP4 hb4 b4 b5 oA0
    try dsimp only
    by_cases he5 : e5 ≠ 0
    · have HE : Hid (fileQ p = (.zero, e5)) := by
        have h6 := H6.out
        rw [tN_bad he5] at h6
        cases h6
        show _ = _
        unfold fileQ
        rw [HF.out]
        show (if doneE p q5 e5 ≠ 0 then (LFile.zero, doneE p q5 e5) else _) = _
        rw [doneE_bad he5, if_pos he5]
      have d0 : (e5 != 0) = true := by rw [bne_iff_ne]; exact he5
      clear he5 HF H5 H6
      go_wp2_with ((with_reducible refine wpList_store_blk rfl 71 (.tmp 2) (.tmp 45) rfl w.heap.size 71 _ #[.int .u64 0, .int .i64 0, .slice none 0 0, .slice none 0 0, .int .i64 0, .int .i64 0] ?_ ?_ kP5 Try.size_RFile ?_ ?_ ?_ ?_); rfl; rfl; rfl; rfl; (simp [Value.oneCell']); intro w9 kz9 g9 z9)
      exact bodyPost_ret (results_cell2 rfl rfl rfl kz9 Try.underlying71 rfl Try.size_RFile) rfl (by exact RetRFile.bad HE (b05.grown g9 b05.size (fun j e => by have := Option.some.inj e; omega)))
    · obtain rfl : e5 = 0 := Classical.byContradiction he5
      clear he5
      have T := rgett_nx A p c q5 w5 hb5 hq5 (by omega)
      have h6 := H6.out
      rw [tN_zero] at h6
      rw [h6] at T
      clear h6
      go_wp2_with fail
      refine T.mono ?_
      clear T
      rintro en w6 ⟨D2, c2, rfl, oB0, b6⟩
      have oB6 : OwnB w5.heap.size w6 D2 t2 c2 := oB0
      have z56 := b6.size
      have kF6 := kF5.below b6 kF5.lt
      have kP6 := kP5.below b6 kP5.lt
      have oA6 := OwnB.below oA5 b6
      have b06 := b05.trans (b6.mono b05.size)
      clear kF5 kP5 hb5 b05 b6 oB0 oA5
      try dsimp only
      by_cases he6 : e6 ≠ 0
      · have HE : Hid (fileQ p = (.zero, e6)) := by
          show _ = _
          unfold fileQ
          rw [HF.out]
          show (if doneE p q6 e6 ≠ 0 then (LFile.zero, doneE p q6 e6) else _) = _
          rw [doneE_bad he6, if_pos he6]
        have d0 : (e6 != 0) = true := by rw [bne_iff_ne]; exact he6
        clear he6 HF H5 H6
        go_wp2_with ((with_reducible refine wpList_store_blk rfl 71 (.tmp 2) (.tmp 56) rfl w.heap.size 71 _ #[.int .u64 0, .int .i64 0, .slice none 0 0, .slice none 0 0, .int .i64 0, .int .i64 0] ?_ ?_ kP6 Try.size_RFile ?_ ?_ ?_ ?_); rfl; rfl; rfl; rfl; (simp [Value.oneCell']); intro w9 kz9 g9 z9)
        exact bodyPost_ret (results_cell2 rfl rfl rfl kz9 Try.underlying71 rfl Try.size_RFile) rfl (by exact RetRFile.bad HE (b06.grown g9 b06.size (fun j e => by have := Option.some.inj e; omega)))
      · obtain rfl : e6 = 0 := Classical.byContradiction he6
        clear he6
        by_cases hql : q6 < p.length
        · have HE : Hid (fileQ p = (.zero, 3)) := by
            show _ = _
            unfold fileQ
            rw [HF.out]
            show (if doneE p q6 0 ≠ 0 then (LFile.zero, doneE p q6 0) else _) = _
            rw [show doneE p q6 0 = 3 from if_pos ⟨rfl, hql⟩]
            exact if_pos (by decide)
          have d1 : ((q6 : Int) != (p.length : Int)) = true := by rw [bne_iff_ne]; omega
          clear HF H5 H6 hql
          go_wp2_with ((with_reducible refine wpList_store_blk rfl 71 (.tmp 2) (.tmp 62) rfl w.heap.size 71 _ #[.int .u64 0, .int .i64 0, .slice none 0 0, .slice none 0 0, .int .i64 0, .int .i64 0] ?_ ?_ kP6 Try.size_RFile ?_ ?_ ?_ ?_); rfl; rfl; rfl; rfl; (simp [Value.oneCell']); intro w9 kz9 g9 z9)
          exact bodyPost_ret (results_cell2 rfl rfl rfl kz9 Try.underlying71 rfl Try.size_RFile) rfl (by exact RetRFile.bad HE (b06.grown g9 b06.size (fun j e => by have := Option.some.inj e; omega)))
        · have HE : Hid (fileQ p = (⟨n1, toI n2, t1, t2, toI n3, toI n4⟩, 0)) := by
            show _ = _
            unfold fileQ
            rw [HF.out]
            show (if doneE p q6 0 ≠ 0 then (LFile.zero, doneE p q6 0) else (_, doneE p q6 0)) = _
            rw [show doneE p q6 0 = 0 from if_neg (fun h => hql h.2)]
            exact if_neg (fun h => h rfl)
          have d1 : ((q6 : Int) != (p.length : Int)) = false := by rw [bne_eq_false_iff_eq]; omega
          clear HF H5 H6 hql
          have x2 : w6.cell? ⟨V.heap.size, 2, none⟩ = some (.slice none 0 0) := kF6.cell 2
          have f2 : w6.frozen? ⟨V.heap.size, 2, none⟩ = false := kF6.frozen 2
          have x3 : (w6.setCell ⟨V.heap.size, 2, none⟩ (.slice D1 t1.length c1)).cell? ⟨V.heap.size, 3, none⟩ = some (.slice none 0 0) := (kF6.set_ 2 (.slice D1 t1.length c1)).cell 3
          have f3 : (w6.setCell ⟨V.heap.size, 2, none⟩ (.slice D1 t1.length c1)).frozen? ⟨V.heap.size, 3, none⟩ = false := (kF6.set_ 2 (.slice D1 t1.length c1)).frozen 3
          have kF8 : Blk ((w6.setCell ⟨V.heap.size, 2, none⟩ (.slice D1 t1.length c1)).setCell ⟨V.heap.size, 3, none⟩ (.slice D2 t2.length c2)) V.heap.size 71 #[.int .u64 (n1 : Int), .int .i64 (toI n2), .slice D1 t1.length c1, .slice D2 t2.length c2, .int .i64 (toI n3), .int .i64 (toI n4)] := (kF6.set_ 2 (.slice D1 t1.length c1)).set_ 3 (.slice D2 t2.length c2)
          have g8 : w6.grownBy ((w6.setCell ⟨V.heap.size, 2, none⟩ (.slice D1 t1.length c1)).setCell ⟨V.heap.size, 3, none⟩ (.slice D2 t2.length c2)) (some V.heap.size) := only_setCell (only_setCell (World.grownBy.refl w6 _) (p := ⟨V.heap.size, 2, none⟩) (.inl rfl) _) (p := ⟨V.heap.size, 3, none⟩) (.inl rfl) _
          have kP8 := kP6.grown g8 (by intro e; have := Option.some.inj e; omega)
          have b8 := b06.grown g8 b06.size (fun j e => by have := Option.some.inj e; omega)
          have oA8 := OwnB.kept oA6 g8 (fun b hb e => by have h1 := (OwnB.lt oA6 b hb).1; have h2 := Option.some.inj e; omega)
          have oB8 := OwnB.kept oB6 g8 (fun b hb e => by have h1 := (OwnB.lt oB6 b hb).1; have h2 := Option.some.inj e; omega)
          clear kF6 g8 kP6 b06 oA6 oB6
          go_wp2_with (first
            | ((with_reducible refine wpList_load_blk rfl 71 (.tmp 7) rfl V.heap.size ?_ 71 _ _ kF8 Try.underlying71 ?_ Try.size_RFile ?_ ?_); rfl; rfl; rfl)
            | ((with_reducible refine wpList_store_blk rfl 71 (.tmp 2) (.tmp 67) rfl w.heap.size 71 _ #[.int .u64 (n1 : Int), .int .i64 (toI n2), .slice D1 t1.length c1, .slice D2 t2.length c2, .int .i64 (toI n3), .int .i64 (toI n4)] ?_ ?_ kP8 Try.size_RFile ?_ ?_ ?_ ?_); rfl; rfl; rfl; rfl; (simp [Value.oneCell']); intro w9 kz9 g9 z9))
          have oA9 := OwnB.kept oA8 g9 (fun b hb e => by have h1 := (OwnB.lt oA8 b hb).1; have h2 := Option.some.inj e; omega)
          have oB9 := OwnB.kept oB8 g9 (fun b hb e => by have h1 := (OwnB.lt oB8 b hb).1; have h2 := Option.some.inj e; omega)
          have b9 := b8.grown g9 b8.size (fun j e => by have := Option.some.inj e; omega)
          exact bodyPost_ret (results_cell2 rfl rfl rfl kz9 Try.underlying71 rfl Try.size_RFile) rfl (by rw [HE.out]; exact ⟨D1, c1, D2, c2, rfl, oA9.base (by omega), oB9.base (by omega), b9⟩)
end Go.Proofs.Ytmgibpedclngpaa
