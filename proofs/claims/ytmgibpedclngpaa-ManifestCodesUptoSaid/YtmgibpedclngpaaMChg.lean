/- Files and edits of the program's out of the document's words: file, change of caissonlaw12. (Printed by wip/gen_mtold.py.) -/
import Derived.Test.YtmgibpedclngpaaMTold
import Derived.Test.YtmgibpedclngpaaAppK
namespace Go.Proofs.Ytmgibpedclngpaa
open Go.RowKit

/-- a file with texts of its own is answered -/
def RetFileC (f : LFile) (w : World) (en : Ending) (w' : World) : Prop :=
  ∃ A a B b, en = .returned (.agg #[.slice A f.first.length a, .slice B f.last.length b, .int .i64 f.count, .int .i64 f.size, .int .u64 (f.num : Int), .int .i64 f.level]) ∧ OwnB w.heap.size w' A f.first a ∧ OwnB w.heap.size w' B f.last b ∧ Below w.heap.size w w'

set_option maxRecDepth 100000 in
set_option maxHeartbeats 8000000 in
theorem lawfile_any (f : LFile) (A B : Option Addr) (a b : Nat) (w : World) (hA : Bs w A f.first) (hB : Bs w B f.last) : Calls Try.prog 27 #[.agg #[.int .u64 (f.num : Int), .int .i64 f.level, .slice A f.first.length a, .slice B f.last.length b, .int .i64 f.count, .int .i64 f.size]] w (RetFileC f w) := by
  have b0 : Below w.heap.size w ((w.alloc (.cells #[.int .u64 (f.num : Int), .int .i64 f.level, .slice A f.first.length a, .slice B f.last.length b, .int .i64 f.count, .int .i64 f.size] 71)).alloc (.cells #[.slice none 0 0, .slice none 0 0, .int .i64 0, .int .i64 0, .int .u64 0, .int .i64 0] 66)) := ((Below.refl _ _).alloc (Nat.le_refl _) _).alloc (by simp) _
  have k0 : Blk ((w.alloc (.cells #[.int .u64 (f.num : Int), .int .i64 f.level, .slice A f.first.length a, .slice B f.last.length b, .int .i64 f.count, .int .i64 f.size] 71)).alloc (.cells #[.slice none 0 0, .slice none 0 0, .int .i64 0, .int .i64 0, .int .u64 0, .int .i64 0] 66)) w.heap.size 71 #[.int .u64 (f.num : Int), .int .i64 f.level, .slice A f.first.length a, .slice B f.last.length b, .int .i64 f.count, .int .i64 f.size] := (Blk.new w _ _).alloc _
  have k1 : Blk ((w.alloc (.cells #[.int .u64 (f.num : Int), .int .i64 f.level, .slice A f.first.length a, .slice B f.last.length b, .int .i64 f.count, .int .i64 f.size] 71)).alloc (.cells #[.slice none 0 0, .slice none 0 0, .int .i64 0, .int .i64 0, .int .u64 0, .int .i64 0] 66)) (w.heap.size + 1) 66 #[.slice none 0 0, .slice none 0 0, .int .i64 0, .int .i64 0, .int .u64 0, .int .i64 0] := heap_alloc2_new w _ _
  have hA0 := hA.below b0
  have hB0 := hB.below b0
  have hal := hA.le
  have hbl := hB.le
  go_enter Try.func27, Try.ntmps27
  go_upto_region 1 with fail
  generalize Value.agg #[.int .u64 (f.num : Int), .int .i64 f.level, .slice A f.first.length a, .slice B f.last.length b, .int .i64 f.count, .int .i64 f.size] = av
  generalize ((w.alloc (.cells #[.int .u64 (f.num : Int), .int .i64 f.level, .slice A f.first.length a, .slice B f.last.length b, .int .i64 f.count, .int .i64 f.size] 71)).alloc (.cells #[.slice none 0 0, .slice none 0 0, .int .i64 0, .int .i64 0, .int .u64 0, .int .i64 0] 66)) = W at *
  refine wp_region_noPanic ?_
  have k0d := k0.drew
  have k1d := k1.drew
  have bd := b0.drew
  have hAd := hA0.below ((Below.refl W.heap.size W).drew)
  have hBd := hB0.below ((Below.refl W.heap.size W).drew)
  have hS : ∀ X, Blk X w.heap.size 71 #[.int .u64 (f.num : Int), .int .i64 f.level, .slice A f.first.length a, .slice B f.last.length b, .int .i64 f.count, .int .i64 f.size] → X.cell? ⟨w.heap.size, 0, none⟩ = some (.int .u64 (f.num : Int)) ∧ X.cell? ⟨w.heap.size, 1, none⟩ = some (.int .i64 f.level) ∧ X.cell? ⟨w.heap.size, 2, none⟩ = some (.slice A f.first.length a) ∧ X.cell? ⟨w.heap.size, 3, none⟩ = some (.slice B f.last.length b) ∧ X.cell? ⟨w.heap.size, 4, none⟩ = some (.int .i64 f.count) ∧ X.cell? ⟨w.heap.size, 5, none⟩ = some (.int .i64 f.size) := fun X h => ⟨h.cell 0, h.cell 1, h.cell 2, h.cell 3, h.cell 4, h.cell 5⟩
  have HS := Lib.hid hS
  clear hS
  refine wp_region_held_drew (S := fun X => X.cell? ⟨w.heap.size, 0, none⟩ = some (.int .u64 (f.num : Int)) ∧ X.cell? ⟨w.heap.size, 1, none⟩ = some (.int .i64 f.level) ∧ X.cell? ⟨w.heap.size, 2, none⟩ = some (.slice A f.first.length a) ∧ X.cell? ⟨w.heap.size, 3, none⟩ = some (.slice B f.last.length b) ∧ X.cell? ⟨w.heap.size, 4, none⟩ = some (.int .i64 f.count) ∧ X.cell? ⟨w.heap.size, 5, none⟩ = some (.int .i64 f.size)) (by kernel_rfl) (HS.out _ k0) (fun hH => ?_)
  clear k0 k1 b0 hA0 hB0 hA hB
  generalize W.drew = V at *
  refine wpAnyH_take (i := 0) (v := ?_) rfl (by kernel_rfl) (by kernel_rfl) (by kernel_rfl) (fun _ _ _ h => h) (Or.inl ⟨by rfl, ?_⟩) hH ?_
  case refine_2 => intro w hSw; go_simp; try with_reducible rfl
  try simp only [List.getElem_toArray, List.getElem_cons_zero, Act.put, List.setIfInBounds_toArray, List.set_cons_zero, List.set_cons_succ]
  refine wpAnyH_take (i := 1) (v := ?_) rfl (by kernel_rfl) (by kernel_rfl) (by kernel_rfl) (fun _ _ _ h => h) (Or.inl ⟨by rfl, ?_⟩) hH ?_
  case refine_2 => intro w hSw; obtain ⟨s0, s1, s2, s3, s4, s5⟩ := hSw; go_simp; try with_reducible rfl
  try simp only [List.getElem_toArray, List.getElem_cons_succ, List.getElem_cons_zero, Act.put, List.setIfInBounds_toArray, List.set_cons_zero, List.set_cons_succ]
  refine wpAnyH_take (i := 2) (v := ?_) rfl (by kernel_rfl) (by kernel_rfl) (by kernel_rfl) (fun _ _ _ h => h) (Or.inl ⟨by rfl, ?_⟩) hH ?_
  case refine_2 => intro w hSw; go_simp; try with_reducible rfl
  try simp only [List.getElem_toArray, List.getElem_cons_succ, List.getElem_cons_zero, Act.put, List.setIfInBounds_toArray, List.set_cons_zero, List.set_cons_succ]
  refine wpAnyH_take (i := 3) (v := ?_) rfl (by kernel_rfl) (by kernel_rfl) (by kernel_rfl) (fun _ _ _ h => h) (Or.inl ⟨by rfl, ?_⟩) hH ?_
  case refine_2 => intro w hSw; obtain ⟨s0, s1, s2, s3, s4, s5⟩ := hSw; go_simp; try with_reducible rfl
  try simp only [List.getElem_toArray, List.getElem_cons_succ, List.getElem_cons_zero, Act.put, List.setIfInBounds_toArray, List.set_cons_zero, List.set_cons_succ]
  refine wpAnyH_take (i := 4) (v := ?_) rfl (by kernel_rfl) (by kernel_rfl) (by kernel_rfl) (fun _ _ _ h => h) (Or.inl ⟨by rfl, ?_⟩) hH ?_
  case refine_2 => intro w hSw; go_simp; try with_reducible rfl
  try simp only [List.getElem_toArray, List.getElem_cons_succ, List.getElem_cons_zero, Act.put, List.setIfInBounds_toArray, List.set_cons_zero, List.set_cons_succ]
  refine wpAnyH_take (i := 5) (v := ?_) rfl (by kernel_rfl) (by kernel_rfl) (by kernel_rfl) (fun _ _ _ h => h) (Or.inl ⟨by rfl, ?_⟩) hH ?_
  case refine_2 => intro w hSw; obtain ⟨s0, s1, s2, s3, s4, s5⟩ := hSw; go_simp; try with_reducible rfl
  try simp only [List.getElem_toArray, List.getElem_cons_succ, List.getElem_cons_zero, Act.put, List.setIfInBounds_toArray, List.set_cons_zero, List.set_cons_succ]
  refine wpAnyH_take (i := 7) (v := ?_) rfl (by kernel_rfl) (by kernel_rfl) (by kernel_rfl) (fun _ _ _ h => h) (Or.inl ⟨by rfl, ?_⟩) hH ?_
  case refine_2 => intro w hSw; go_simp; try with_reducible rfl
  try simp only [List.getElem_toArray, List.getElem_cons_succ, List.getElem_cons_zero, Act.put, List.setIfInBounds_toArray, List.set_cons_zero, List.set_cons_succ]
  refine wpAnyH_take (i := 8) (v := ?_) rfl (by kernel_rfl) (by kernel_rfl) (by kernel_rfl) (fun _ _ _ h => h) (Or.inl ⟨by rfl, ?_⟩) hH ?_
  case refine_2 => intro w hSw; obtain ⟨s0, s1, s2, s3, s4, s5⟩ := hSw; go_simp; try with_reducible rfl
  try simp only [List.getElem_toArray, List.getElem_cons_succ, List.getElem_cons_zero, Act.put, List.setIfInBounds_toArray, List.set_cons_zero, List.set_cons_succ]
  refine wpAnyH_take (i := 10) (v := ?_) rfl (by kernel_rfl) (by kernel_rfl) (by kernel_rfl) (fun _ _ _ h => h) (Or.inl ⟨by rfl, ?_⟩) hH ?_
  case refine_2 => intro w hSw; go_simp; try with_reducible rfl
  try simp only [List.getElem_toArray, List.getElem_cons_succ, List.getElem_cons_zero, Act.put, List.setIfInBounds_toArray, List.set_cons_zero, List.set_cons_succ]
  refine wpAnyH_take (i := 11) (v := ?_) rfl (by kernel_rfl) (by kernel_rfl) (by kernel_rfl) (fun _ _ _ h => h) (Or.inl ⟨by rfl, ?_⟩) hH ?_
  case refine_2 => intro w hSw; obtain ⟨s0, s1, s2, s3, s4, s5⟩ := hSw; go_simp; try with_reducible rfl
  try simp only [List.getElem_toArray, List.getElem_cons_succ, List.getElem_cons_zero, Act.put, List.setIfInBounds_toArray, List.set_cons_zero, List.set_cons_succ]
  refine wpAnyH_take (i := 12) (v := ?_) rfl (by kernel_rfl) (by kernel_rfl) (by kernel_rfl) (fun _ _ _ h => h) (Or.inl ⟨by rfl, ?_⟩) hH ?_
  case refine_2 => intro w hSw; go_simp; try with_reducible rfl
  try simp only [List.getElem_toArray, List.getElem_cons_succ, List.getElem_cons_zero, Act.put, List.setIfInBounds_toArray, List.set_cons_zero, List.set_cons_succ]
  refine wpAnyH_take (i := 13) (v := ?_) rfl (by kernel_rfl) (by kernel_rfl) (by kernel_rfl) (fun _ _ _ h => h) (Or.inl ⟨by rfl, ?_⟩) hH ?_
  case refine_2 => intro w hSw; obtain ⟨s0, s1, s2, s3, s4, s5⟩ := hSw; go_simp; try with_reducible rfl
  try simp only [List.getElem_toArray, List.getElem_cons_succ, List.getElem_cons_zero, Act.put, List.setIfInBounds_toArray, List.set_cons_zero, List.set_cons_succ]
  refine wpAnyH_ready (rs := [6]) (by kernel_rfl) (by simp) ?_
  refine AllReadyH.cons rfl (fun K hK => ?_) AllReadyH.nil
  go_simp
  refine (copy_any A f.first a V hAd).mono ?_
  rintro en w2 ⟨A5, a5, rfl, oA0, b2⟩
  have oA : OwnB V.heap.size w2 A5 f.first a5 := oA0
  have k02 := k0d.below b2 k0d.lt
  have k12 := k1d.below b2 k1d.lt
  have hB2 := hBd.below b2
  have b02 := bd.trans (b2.mono bd.size)
  have zV := k1d.lt
  have z2 := b2.size
  refine hK.out _ _ (HS.out _ k02) (fun hH => ?_)
  clear hK K hAd hBd k0d k1d bd b2 oA0
  try dsimp only
  try simp only [List.getElem_toArray, List.getElem_cons_succ, List.getElem_cons_zero, Act.put, List.setIfInBounds_toArray, List.set_cons_zero, List.set_cons_succ]
  refine wpAnyH_ready (rs := [9]) (by kernel_rfl) (by simp) ?_
  refine AllReadyH.cons rfl (fun K hK => ?_) AllReadyH.nil
  go_simp
  refine (copy_any B f.last b w2 hB2).mono ?_
  rintro en w3 ⟨B5, c5, rfl, oB0, b3⟩
  have oB : OwnB w2.heap.size w3 B5 f.last c5 := oB0
  have k03 := k02.below b3 k02.lt
  have k13 := k12.below b3 k12.lt
  have oA3 := OwnB.below oA b3
  have b03 := b02.trans (b3.mono b02.size)
  refine hK.out _ _ (HS.out _ k03) (fun hH => ?_)
  clear hK K hB2 k02 k12 b02 b3 oB0 oA
  try dsimp only
  try simp only [List.getElem_toArray, List.getElem_cons_succ, List.getElem_cons_zero, Act.put, List.setIfInBounds_toArray, List.set_cons_zero, List.set_cons_succ]
  refine wpAnyH_take (i := 14) (v := ?_) rfl (by kernel_rfl) (by kernel_rfl) (by kernel_rfl) (fun _ _ _ h => h) (Or.inl ⟨by rfl, ?_⟩) hH ?_
  case refine_2 => intro w hSw; go_simp; try with_reducible rfl
  try simp only [List.getElem_toArray, List.getElem_cons_succ, List.getElem_cons_zero, Act.put, List.setIfInBounds_toArray, List.set_cons_zero, List.set_cons_succ]
  refine wpAnyH_take (i := 15) (v := ?_) rfl (by kernel_rfl) (by kernel_rfl) (by kernel_rfl) (fun _ _ _ h => h) (Or.inl ⟨by rfl, ?_⟩) hH ?_
  case refine_2 => intro w hSw; go_simp; try with_reducible rfl
  try simp only [List.getElem_toArray, List.getElem_cons_succ, List.getElem_cons_zero, Act.put, List.setIfInBounds_toArray, List.set_cons_zero, List.set_cons_succ]
  refine wpAnyH_ready (rs := [16]) (by kernel_rfl) (by simp) ?_
  refine AllReadyH.cons rfl (fun K hK => ?_) AllReadyH.nil
  refine step_store_blk rfl 66 (.tmp 2) (.tmp 18) rfl (w.heap.size + 1) 66 #[.slice none 0 0, .slice none 0 0, .int .i64 0, .int .i64 0, .int .u64 0, .int .i64 0] #[.slice A5 f.first.length a5, .slice B5 f.last.length c5, .int .i64 f.count, .int .i64 f.size, .int .u64 (f.num : Int), .int .i64 f.level] rfl rfl k13 Try.size_File rfl rfl (by simp [Value.oneCell']) ?_
  intro w4 k4 g4 z4
  have k04 := k03.grown g4 (fun e => by have := Option.some.inj e; omega)
  refine hK.out _ _ (HS.out _ k04) (fun hH => ?_)
  clear hK K
  try simp only [List.getElem_toArray, List.getElem_cons_succ, List.getElem_cons_zero, Act.put]
  refine wpAnyH_done (by kernel_rfl) ?_ _
  refine NoPanic.normal ?_
  clear hH
  have oA4 := OwnB.kept oA3 g4 (fun b hb e => by have h1 := (OwnB.lt oA3 b hb).1; have := Option.some.inj e; omega)
  have oB4 := OwnB.kept oB g4 (fun b hb e => by have h1 := (OwnB.lt oB b hb).1; have := Option.some.inj e; omega)
  have b4 := b03.grown g4 b03.size (fun j e => by have := Option.some.inj e; omega)
  go_wp2_with fail
  exact bodyPost_ret (results_cell rfl rfl k4 Try.underlying66 rfl Try.size_File) rfl ⟨A5, a5, B5, c5, rfl, OwnB.base oA4 (by omega), OwnB.base oB4 (by omega), b4⟩
theorem NE.flat_any {w : World} {S S' : Nat → Prop} : ∀ {vs : List Value} {l : List Nat}, NE.flat w S vs l → NE.flat w S' vs l
  | _, [], h => h
  | _, _ :: _, ⟨v, r, e, hv, hr⟩ => ⟨v, r, e, hv, NE.flat_any hr⟩
/-- an edit of the program's is answered, all of it new -/
def RetChg (e : LEdit) (w : World) (en : Ending) (w' : World) : Prop :=
  ∃ R r D1 d1, en = .returned (.agg #[.bool e.reset, .slice R e.add.length r, .slice D1 e.drop.length d1, .int .u64 (e.seq : Int)]) ∧ Own FE 66 w' w.heap.size (fun b => w.heap.size ≤ b) (.slice R e.add.length r) e.add ∧ Own NE 23 w' w.heap.size (fun _ => False) (.slice D1 e.drop.length d1) e.drop ∧ Below w.heap.size w w'
set_option maxRecDepth 100000 in
set_option maxHeartbeats 8000000 in
theorem change_any (e : LEdit) (A D : Option Addr) (a d : Nat) (w : World) (hA : Sl RFE w A e.add) (hD : Sl NE w D e.drop) (hl : e.add.length ≤ 1048576) (hl2 : e.drop.length ≤ 1048576) (hPle : ∀ f ∈ e.add, f.first.length ≤ 1048576 ∧ f.last.length ≤ 1048576) : Calls Try.prog 12 #[.agg #[.bool e.reset, .slice A e.add.length a, .slice D e.drop.length d, .int .u64 (e.seq : Int)]] w (RetChg e w) := by
  obtain ⟨i1, hi1, hy0, hy1, hy2⟩ := info_parts Try.infoU64
  have HPL := Lib.hid hPle
  clear hPle
  have b0 : Below w.heap.size w ((w.alloc (.cells #[.bool e.reset, .slice A e.add.length a, .slice D e.drop.length d, .int .u64 (e.seq : Int)] 35)).alloc (.cells #[.bool false, .slice none 0 0, .slice none 0 0, .int .u64 0] 42)) := ((Below.refl _ _).alloc (Nat.le_refl _) _).alloc (by simp) _
  have kI : Blk ((w.alloc (.cells #[.bool e.reset, .slice A e.add.length a, .slice D e.drop.length d, .int .u64 (e.seq : Int)] 35)).alloc (.cells #[.bool false, .slice none 0 0, .slice none 0 0, .int .u64 0] 42)) w.heap.size 35 #[.bool e.reset, .slice A e.add.length a, .slice D e.drop.length d, .int .u64 (e.seq : Int)] := (Blk.new w _ _).alloc _
  have kR : Blk ((w.alloc (.cells #[.bool e.reset, .slice A e.add.length a, .slice D e.drop.length d, .int .u64 (e.seq : Int)] 35)).alloc (.cells #[.bool false, .slice none 0 0, .slice none 0 0, .int .u64 0] 42)) (w.heap.size + 1) 42 #[.bool false, .slice none 0 0, .slice none 0 0, .int .u64 0] := heap_alloc2_new w _ _
  go_enter Try.func12, Try.ntmps12
  go_upto_region 1 with fail
  generalize Value.agg #[.bool e.reset, .slice A e.add.length a, .slice D e.drop.length d, .int .u64 (e.seq : Int)] = av
  generalize ((w.alloc (.cells #[.bool e.reset, .slice A e.add.length a, .slice D e.drop.length d, .int .u64 (e.seq : Int)] 35)).alloc (.cells #[.bool false, .slice none 0 0, .slice none 0 0, .int .u64 0] 42)) = W at *
  go_cut [3] (fun s wx => ∃ (ob : Nat) (D1 : Option Addr) (d1 : Nat), s = .pointer (some ⟨ob, 0, none⟩) ∧ Blk wx ob 42 #[.bool e.reset, .slice none 0 0, .slice D1 e.drop.length d1, .int .u64 (e.seq : Int)] ∧ Blk wx (w.heap.size + 1) 42 #[.bool false, .slice none 0 0, .slice none 0 0, .int .u64 0] ∧ Blk wx w.heap.size 35 #[.bool e.reset, .slice A e.add.length a, .slice D e.drop.length d, .int .u64 (e.seq : Int)] ∧ Own NE 23 wx w.heap.size (fun _ => False) (.slice D1 e.drop.length d1) e.drop ∧ (∀ b, (Value.slice D1 e.drop.length d1).ownBlock = some b → b ≠ ob ∧ b < wx.heap.size ∧ w.heap.size + 1 < b) ∧ w.heap.size + 1 < ob ∧ Below w.heap.size w wx)
  case first =>
    refine wp_region_noPanic ?_
    have kId := kI.drew
    have kRd := kR.drew
    have bd := b0.drew
    have hS : ∀ X, Blk X w.heap.size 35 #[.bool e.reset, .slice A e.add.length a, .slice D e.drop.length d, .int .u64 (e.seq : Int)] → X.cell? ⟨w.heap.size, 0, none⟩ = some (.bool e.reset) ∧ X.cell? ⟨w.heap.size, 2, none⟩ = some (.slice D e.drop.length d) ∧ X.cell? ⟨w.heap.size, 3, none⟩ = some (.int .u64 (e.seq : Int)) := fun X h => ⟨h.cell 0, h.cell 2, h.cell 3⟩
    have HS := Lib.hid hS
    clear hS
    refine wp_region_held_drew (S := fun X => X.cell? ⟨w.heap.size, 0, none⟩ = some (.bool e.reset) ∧ X.cell? ⟨w.heap.size, 2, none⟩ = some (.slice D e.drop.length d) ∧ X.cell? ⟨w.heap.size, 3, none⟩ = some (.int .u64 (e.seq : Int))) (by kernel_rfl) (HS.out _ kI) (fun hH => ?_)
    clear kI kR b0
    generalize W.drew = V0 at *
    refine wpAnyH_take (i := 0) (v := ?_) rfl (by kernel_rfl) (by kernel_rfl) (by kernel_rfl) (fun _ _ _ h => h) (Or.inl ⟨by rfl, ?_⟩) hH ?_
    case refine_2 => intro w hSw; go_simp; try with_reducible rfl
    try simp only [List.getElem_toArray, List.getElem_cons_zero, Act.put, List.setIfInBounds_toArray, List.set_cons_zero, List.set_cons_succ]
    refine wpAnyH_take (i := 1) (v := ?_) rfl (by kernel_rfl) (by kernel_rfl) (by kernel_rfl) (fun _ _ _ h => h) (Or.inl ⟨by rfl, ?_⟩) hH ?_
    case refine_2 => intro w hSw; obtain ⟨s0, s1, s2⟩ := hSw; go_simp; try with_reducible rfl
    try simp only [List.getElem_toArray, List.getElem_cons_succ, List.getElem_cons_zero, Act.put, List.setIfInBounds_toArray, List.set_cons_zero, List.set_cons_succ]
    refine wpAnyH_take (i := 2) (v := ?_) rfl (by kernel_rfl) (by kernel_rfl) (by kernel_rfl) (fun _ _ _ h => h) (Or.inl ⟨by rfl, ?_⟩) hH ?_
    case refine_2 => intro w hSw; go_simp; try with_reducible rfl
    try simp only [List.getElem_toArray, List.getElem_cons_succ, List.getElem_cons_zero, Act.put, List.setIfInBounds_toArray, List.set_cons_zero, List.set_cons_succ]
    refine wpAnyH_take (i := 3) (v := ?_) rfl (by kernel_rfl) (by kernel_rfl) (by kernel_rfl) (fun _ _ _ h => h) (Or.inl ⟨by rfl, ?_⟩) hH ?_
    case refine_2 => intro w hSw; obtain ⟨s0, s1, s2⟩ := hSw; go_simp; try with_reducible rfl
    try simp only [List.getElem_toArray, List.getElem_cons_succ, List.getElem_cons_zero, Act.put, List.setIfInBounds_toArray, List.set_cons_zero, List.set_cons_succ]
    refine wpAnyH_take (i := 5) (v := ?_) rfl (by kernel_rfl) (by kernel_rfl) (by kernel_rfl) (fun _ _ _ h => h) (Or.inl ⟨by rfl, ?_⟩) hH ?_
    case refine_2 => intro w hSw; go_simp; try with_reducible rfl
    try simp only [List.getElem_toArray, List.getElem_cons_succ, List.getElem_cons_zero, Act.put, List.setIfInBounds_toArray, List.set_cons_zero, List.set_cons_succ]
    refine wpAnyH_take (i := 6) (v := ?_) rfl (by kernel_rfl) (by kernel_rfl) (by kernel_rfl) (fun _ _ _ h => h) (Or.inl ⟨by rfl, ?_⟩) hH ?_
    case refine_2 => intro w hSw; obtain ⟨s0, s1, s2⟩ := hSw; go_simp; try with_reducible rfl
    try simp only [List.getElem_toArray, List.getElem_cons_succ, List.getElem_cons_zero, Act.put, List.setIfInBounds_toArray, List.set_cons_zero, List.set_cons_succ]
    have zR := kRd.lt
    refine wpAnyH_ready (rs := [4, 9]) (by kernel_rfl) (by simp) ?_
    refine AllReadyH.cons rfl (fun K hK => ?_) (AllReadyH.cons rfl (fun K hK => ?_) AllReadyH.nil)
    · -- 4 next
      go_simp
      have d3 : Below V0.heap.size V0 (V0.alloc (.cells #[] 23)) := (Below.refl _ _).alloc (Nat.le_refl _) _
      have kG : Blk (V0.alloc (.cells #[] 23)) V0.heap.size 23 #[] := Blk.new V0 _ _
      replace kId := kId.below d3 kId.lt
      replace kRd := kRd.below d3 kRd.lt
      replace bd := bd.trans (d3.mono bd.size)
      have z3 := d3.size
      refine hK.out _ _ (HS.out _ kId) (fun hH => ?_)
      clear hK K d3
      try dsimp only
      try simp only [List.getElem_toArray, List.getElem_cons_succ, List.getElem_cons_zero, Act.put, List.setIfInBounds_toArray, List.set_cons_zero, List.set_cons_succ]
      generalize (V0.alloc (.cells #[] 23)) = V1 at *
      refine wpAnyH_ready (rs := [7, 9]) (by kernel_rfl) (by simp) ?_
      refine AllReadyH.cons rfl (fun K hK => ?_) (AllReadyH.cons rfl (fun K hK => ?_) AllReadyH.nil)
      · -- 7 next
        have oG : Own NE 23 V1 (w.heap.size + 2) (fun _ => False) (.slice (some ⟨V0.heap.size, 0, none⟩) ([] : List Nat).length 0) [] := Own.empty NE kG (by omega)
        obtain ⟨us, hru, hfl⟩ := SlS.parts (hD.below bd)
        have hlD : (([] : List Nat).length + e.drop.length) * NE.bytes ≤ 140737488355328 := by simp only [NE, List.length_nil]; omega
        have hlM : ([] : List Nat).length + e.drop.length ≤ maxLen := by simp only [maxLen, List.length_nil]; omega
        have hsz2 : w.heap.size + 2 ≤ V1.heap.size := by have := kG.lt; omega
        refine step_appS NE (w.heap.size + 2) V1 rfl (.tmp 10) (.tmp 12) 23 33 rfl i1 _ Try.underlying33 hi1 hy0 hy1 hy2 rfl (fun _ => False) (some ⟨V0.heap.size, 0, none⟩) [] 0 rfl oG D e.drop d rfl us hru (NE.flat_any hfl) hlD hlM hsz2 ?_
        intro D1 d1 ds V2 HH oD g6 t6
        obtain rfl : ds = e.drop := by rw [HH.out]; rfl
        replace g6 : V1.grownBy V2 (some V0.heap.size) := g6
        replace t6 : (Value.slice D1 e.drop.length d1).ownBlock = some V0.heap.size ∨ (Value.slice D1 e.drop.length d1).ownBlock = some V1.heap.size := t6
        have hlG := kG.lt
        replace kId := kId.grown g6 (fun e => by have := Option.some.inj e; omega)
        replace kRd := kRd.grown g6 (fun e => by have := Option.some.inj e; omega)
        replace bd := bd.grown g6 bd.size (fun j e => by have := Option.some.inj e; omega)
        have z6 := g6.size
        have HDO : Hid (∀ b, (Value.slice D1 e.drop.length d1).ownBlock = some b → b < V2.heap.size ∧ w.heap.size + 1 < b) := fun b h => by
          have h1 := (Own.lt oD b h)
          rcases t6 with t | t
          · have h2 : V0.heap.size = b := Option.some.inj (t.symm.trans h); exact ⟨by omega, by omega⟩
          · have h2 : V1.heap.size = b := Option.some.inj (t.symm.trans h); exact ⟨by omega, by omega⟩
        replace oD := Own.base oD (show w.heap.size ≤ w.heap.size + 2 by omega)
        refine hK.out _ _ (HS.out _ kId) (fun hH => ?_)
        clear hK K g6 t6 oG hru hfl kG
        try dsimp only
        try simp only [List.getElem_toArray, List.getElem_cons_succ, List.getElem_cons_zero, Act.put, List.setIfInBounds_toArray, List.set_cons_zero, List.set_cons_succ]
        refine wpAnyH_take (i := 8) (v := ?_) rfl (by kernel_rfl) (by kernel_rfl) (by kernel_rfl) (fun _ _ _ h => h) (Or.inl ⟨by rfl, ?_⟩) hH ?_
        case refine_2 => intro w hSw; go_simp; try with_reducible rfl
        try simp only [List.getElem_toArray, List.getElem_cons_succ, List.getElem_cons_zero, Act.put, List.setIfInBounds_toArray, List.set_cons_zero, List.set_cons_succ]
        refine wpAnyH_ready (rs := [9]) (by kernel_rfl) (by simp) ?_
        refine AllReadyH.cons rfl (fun K hK => ?_) AllReadyH.nil
        go_simp
        have d3 : Below V2.heap.size V2 (V2.alloc (.cells #[.bool false, .slice none 0 0, .slice none 0 0, .int .u64 0] 42)) := (Below.refl _ _).alloc (Nat.le_refl _) _
        have kO' : Blk (V2.alloc (.cells #[.bool false, .slice none 0 0, .slice none 0 0, .int .u64 0] 42)) V2.heap.size 42 #[.bool false, .slice none 0 0, .slice none 0 0, .int .u64 0] := Blk.new V2 _ _
        replace kId := kId.below d3 kId.lt
        replace kRd := kRd.below d3 kRd.lt
        replace HDO : Hid (∀ b, (Value.slice D1 e.drop.length d1).ownBlock = some b → b ≠ V2.heap.size ∧ b < (V2.alloc (.cells #[.bool false, .slice none 0 0, .slice none 0 0, .int .u64 0] 42)).heap.size ∧ w.heap.size + 1 < b) := fun b h => by have h1 := HDO.out b h; have h2 := d3.size; exact ⟨by omega, by omega, h1.2⟩
        replace oD := Own.below oD d3
        have kO := kO'
        replace bd := bd.trans (d3.mono bd.size)
        have z3 := d3.size
        refine hK.out _ _ (HS.out _ kId) (fun hH => ?_)
        clear hK K d3 kO'
        try dsimp only
        try simp only [List.getElem_toArray, List.getElem_cons_succ, List.getElem_cons_zero, Act.put, List.setIfInBounds_toArray, List.set_cons_zero, List.set_cons_succ]
        generalize (V2.alloc (.cells #[.bool false, .slice none 0 0, .slice none 0 0, .int .u64 0] 42)) = V3 at *
        refine wpAnyH_ready (rs := [10]) (by kernel_rfl) (by simp) ?_
        refine AllReadyH.cons rfl (fun K hK => ?_) AllReadyH.nil
        refine step_store_blk rfl 42 (.tmp 3) (.tmp 14) rfl V2.heap.size 42 #[.bool false, .slice none 0 0, .slice none 0 0, .int .u64 0] #[.bool e.reset, .slice none 0 0, .slice D1 e.drop.length d1, .int .u64 (e.seq : Int)] rfl rfl kO Try.size_MEdit rfl rfl (by simp [Value.oneCell']) ?_
        intro w9 k9 g9 z9
        have kI9 := kId.grown g9 (fun e => by have := Option.some.inj e; omega)
        have kR9 := kRd.grown g9 (fun e => by have := Option.some.inj e; omega)
        have oD9 := Own.same oD g9 (ownNe (fun b h1 h2 => (HDO.out b h1).1 (Option.some.inj h2).symm)) (fun _ h => h.elim)
        have b9 := bd.grown g9 bd.size (fun j e => by have := Option.some.inj e; omega)
        have hdo : ∀ b, (Value.slice D1 e.drop.length d1).ownBlock = some b → b ≠ V2.heap.size ∧ b < w9.heap.size ∧ w.heap.size + 1 < b := fun b h => ⟨(HDO.out b h).1, Nat.lt_of_lt_of_le (HDO.out b h).2.1 g9.size, (HDO.out b h).2.2⟩
        refine hK.out _ _ (HS.out _ kI9) (fun hH => ?_)
        clear hK K
        try simp only [List.getElem_toArray, List.getElem_cons_succ, List.getElem_cons_zero, Act.put]
        refine wpAnyH_done (by kernel_rfl) ?_ _
        refine NoPanic.normal ?_
        clear hH
        go_wp2_with fail
        go_meet
        case rel => exact ⟨V2.heap.size, D1, d1, rfl, k9, kR9, kI9, oD9, hdo, by omega, b9⟩
      · -- 9 next
        go_simp
        have d3 : Below V1.heap.size V1 (V1.alloc (.cells #[.bool false, .slice none 0 0, .slice none 0 0, .int .u64 0] 42)) := (Below.refl _ _).alloc (Nat.le_refl _) _
        have kO' : Blk (V1.alloc (.cells #[.bool false, .slice none 0 0, .slice none 0 0, .int .u64 0] 42)) V1.heap.size 42 #[.bool false, .slice none 0 0, .slice none 0 0, .int .u64 0] := Blk.new V1 _ _
        have hne : V1.heap.size ≠ V0.heap.size := by have := kG.lt; omega
        replace kId := kId.below d3 kId.lt
        replace kRd := kRd.below d3 kRd.lt
        replace kG := kG.below d3 kG.lt
        have kO := kO'
        replace bd := bd.trans (d3.mono bd.size)
        have z3 := d3.size
        refine hK.out _ _ (HS.out _ kId) (fun hH => ?_)
        clear hK K d3 kO'
        try dsimp only
        try simp only [List.getElem_toArray, List.getElem_cons_succ, List.getElem_cons_zero, Act.put, List.setIfInBounds_toArray, List.set_cons_zero, List.set_cons_succ]
        generalize (V1.alloc (.cells #[.bool false, .slice none 0 0, .slice none 0 0, .int .u64 0] 42)) = V2 at *
        refine wpAnyH_ready (rs := [7]) (by kernel_rfl) (by simp) ?_
        refine AllReadyH.cons rfl (fun K hK => ?_) AllReadyH.nil
        have oG : Own NE 23 V2 (w.heap.size + 2) (fun _ => False) (.slice (some ⟨V0.heap.size, 0, none⟩) ([] : List Nat).length 0) [] := Own.empty NE kG (by omega)
        obtain ⟨us, hru, hfl⟩ := SlS.parts (hD.below bd)
        have hlD : (([] : List Nat).length + e.drop.length) * NE.bytes ≤ 140737488355328 := by simp only [NE, List.length_nil]; omega
        have hlM : ([] : List Nat).length + e.drop.length ≤ maxLen := by simp only [maxLen, List.length_nil]; omega
        have hsz2 : w.heap.size + 2 ≤ V2.heap.size := by have := kG.lt; omega
        refine step_appS NE (w.heap.size + 2) V2 rfl (.tmp 10) (.tmp 12) 23 33 rfl i1 _ Try.underlying33 hi1 hy0 hy1 hy2 rfl (fun _ => False) (some ⟨V0.heap.size, 0, none⟩) [] 0 rfl oG D e.drop d rfl us hru (NE.flat_any hfl) hlD hlM hsz2 ?_
        intro D1 d1 ds V3 HH oD g6 t6
        obtain rfl : ds = e.drop := by rw [HH.out]; rfl
        replace g6 : V2.grownBy V3 (some V0.heap.size) := g6
        replace t6 : (Value.slice D1 e.drop.length d1).ownBlock = some V0.heap.size ∨ (Value.slice D1 e.drop.length d1).ownBlock = some V2.heap.size := t6
        have hlG := kG.lt
        replace kId := kId.grown g6 (fun e => by have := Option.some.inj e; omega)
        replace kRd := kRd.grown g6 (fun e => by have := Option.some.inj e; omega)
        have hlO := kO.lt
        replace kO := kO.grown g6 (fun e => hne (Option.some.inj e))
        replace bd := bd.grown g6 bd.size (fun j e => by have := Option.some.inj e; omega)
        have z6 := g6.size
        have HDO : Hid (∀ b, (Value.slice D1 e.drop.length d1).ownBlock = some b → b ≠ V1.heap.size ∧ b < V3.heap.size ∧ w.heap.size + 1 < b) := fun b h => by
          have h1 := (Own.lt oD b h)
          rcases t6 with t | t
          · have h2 : V0.heap.size = b := Option.some.inj (t.symm.trans h); exact ⟨by omega, by omega, by omega⟩
          · have h2 : V2.heap.size = b := Option.some.inj (t.symm.trans h); exact ⟨by omega, by omega, by omega⟩
        replace oD := Own.base oD (show w.heap.size ≤ w.heap.size + 2 by omega)
        refine hK.out _ _ (HS.out _ kId) (fun hH => ?_)
        clear hK K g6 t6 oG hru hfl kG
        try dsimp only
        try simp only [List.getElem_toArray, List.getElem_cons_succ, List.getElem_cons_zero, Act.put, List.setIfInBounds_toArray, List.set_cons_zero, List.set_cons_succ]
        refine wpAnyH_take (i := 8) (v := ?_) rfl (by kernel_rfl) (by kernel_rfl) (by kernel_rfl) (fun _ _ _ h => h) (Or.inl ⟨by rfl, ?_⟩) hH ?_
        case refine_2 => intro w hSw; go_simp; try with_reducible rfl
        try simp only [List.getElem_toArray, List.getElem_cons_succ, List.getElem_cons_zero, Act.put, List.setIfInBounds_toArray, List.set_cons_zero, List.set_cons_succ]
        refine wpAnyH_ready (rs := [10]) (by kernel_rfl) (by simp) ?_
        refine AllReadyH.cons rfl (fun K hK => ?_) AllReadyH.nil
        refine step_store_blk rfl 42 (.tmp 3) (.tmp 14) rfl V1.heap.size 42 #[.bool false, .slice none 0 0, .slice none 0 0, .int .u64 0] #[.bool e.reset, .slice none 0 0, .slice D1 e.drop.length d1, .int .u64 (e.seq : Int)] rfl rfl kO Try.size_MEdit rfl rfl (by simp [Value.oneCell']) ?_
        intro w9 k9 g9 z9
        have kI9 := kId.grown g9 (fun e => by have := Option.some.inj e; omega)
        have kR9 := kRd.grown g9 (fun e => by have := Option.some.inj e; omega)
        have oD9 := Own.same oD g9 (ownNe (fun b h1 h2 => (HDO.out b h1).1 (Option.some.inj h2).symm)) (fun _ h => h.elim)
        have b9 := bd.grown g9 bd.size (fun j e => by have := Option.some.inj e; omega)
        have hdo : ∀ b, (Value.slice D1 e.drop.length d1).ownBlock = some b → b ≠ V1.heap.size ∧ b < w9.heap.size ∧ w.heap.size + 1 < b := fun b h => ⟨(HDO.out b h).1, Nat.lt_of_lt_of_le (HDO.out b h).2.1 g9.size, (HDO.out b h).2.2⟩
        refine hK.out _ _ (HS.out _ kI9) (fun hH => ?_)
        clear hK K
        try simp only [List.getElem_toArray, List.getElem_cons_succ, List.getElem_cons_zero, Act.put]
        refine wpAnyH_done (by kernel_rfl) ?_ _
        refine NoPanic.normal ?_
        clear hH
        go_wp2_with fail
        go_meet
        case rel => exact ⟨V1.heap.size, D1, d1, rfl, k9, kR9, kI9, oD9, hdo, by omega, b9⟩
    · -- 9 next
      go_simp
      have d3 : Below V0.heap.size V0 (V0.alloc (.cells #[.bool false, .slice none 0 0, .slice none 0 0, .int .u64 0] 42)) := (Below.refl _ _).alloc (Nat.le_refl _) _
      have kO' : Blk (V0.alloc (.cells #[.bool false, .slice none 0 0, .slice none 0 0, .int .u64 0] 42)) V0.heap.size 42 #[.bool false, .slice none 0 0, .slice none 0 0, .int .u64 0] := Blk.new V0 _ _
      replace kId := kId.below d3 kId.lt
      replace kRd := kRd.below d3 kRd.lt
      have kO := kO'
      replace bd := bd.trans (d3.mono bd.size)
      have z3 := d3.size
      refine hK.out _ _ (HS.out _ kId) (fun hH => ?_)
      clear hK K d3 kO'
      try dsimp only
      try simp only [List.getElem_toArray, List.getElem_cons_succ, List.getElem_cons_zero, Act.put, List.setIfInBounds_toArray, List.set_cons_zero, List.set_cons_succ]
      generalize (V0.alloc (.cells #[.bool false, .slice none 0 0, .slice none 0 0, .int .u64 0] 42)) = V1 at *
      refine wpAnyH_ready (rs := [4]) (by kernel_rfl) (by simp) ?_
      refine AllReadyH.cons rfl (fun K hK => ?_) AllReadyH.nil
      go_simp
      have d3 : Below V1.heap.size V1 (V1.alloc (.cells #[] 23)) := (Below.refl _ _).alloc (Nat.le_refl _) _
      have kG : Blk (V1.alloc (.cells #[] 23)) V1.heap.size 23 #[] := Blk.new V1 _ _
      have hne : V0.heap.size ≠ V1.heap.size := by have := kO.lt; omega
      replace kId := kId.below d3 kId.lt
      replace kRd := kRd.below d3 kRd.lt
      replace kO := kO.below d3 kO.lt
      replace bd := bd.trans (d3.mono bd.size)
      have z3 := d3.size
      refine hK.out _ _ (HS.out _ kId) (fun hH => ?_)
      clear hK K d3
      try dsimp only
      try simp only [List.getElem_toArray, List.getElem_cons_succ, List.getElem_cons_zero, Act.put, List.setIfInBounds_toArray, List.set_cons_zero, List.set_cons_succ]
      generalize (V1.alloc (.cells #[] 23)) = V2 at *
      refine wpAnyH_ready (rs := [7]) (by kernel_rfl) (by simp) ?_
      refine AllReadyH.cons rfl (fun K hK => ?_) AllReadyH.nil
      have oG : Own NE 23 V2 (w.heap.size + 2) (fun _ => False) (.slice (some ⟨V1.heap.size, 0, none⟩) ([] : List Nat).length 0) [] := Own.empty NE kG (by omega)
      obtain ⟨us, hru, hfl⟩ := SlS.parts (hD.below bd)
      have hlD : (([] : List Nat).length + e.drop.length) * NE.bytes ≤ 140737488355328 := by simp only [NE, List.length_nil]; omega
      have hlM : ([] : List Nat).length + e.drop.length ≤ maxLen := by simp only [maxLen, List.length_nil]; omega
      have hsz2 : w.heap.size + 2 ≤ V2.heap.size := by have := kG.lt; omega
      refine step_appS NE (w.heap.size + 2) V2 rfl (.tmp 10) (.tmp 12) 23 33 rfl i1 _ Try.underlying33 hi1 hy0 hy1 hy2 rfl (fun _ => False) (some ⟨V1.heap.size, 0, none⟩) [] 0 rfl oG D e.drop d rfl us hru (NE.flat_any hfl) hlD hlM hsz2 ?_
      intro D1 d1 ds V3 HH oD g6 t6
      obtain rfl : ds = e.drop := by rw [HH.out]; rfl
      replace g6 : V2.grownBy V3 (some V1.heap.size) := g6
      replace t6 : (Value.slice D1 e.drop.length d1).ownBlock = some V1.heap.size ∨ (Value.slice D1 e.drop.length d1).ownBlock = some V2.heap.size := t6
      have hlG := kG.lt
      replace kId := kId.grown g6 (fun e => by have := Option.some.inj e; omega)
      replace kRd := kRd.grown g6 (fun e => by have := Option.some.inj e; omega)
      have hlO := kO.lt
      replace kO := kO.grown g6 (fun e => hne (Option.some.inj e))
      replace bd := bd.grown g6 bd.size (fun j e => by have := Option.some.inj e; omega)
      have z6 := g6.size
      have HDO : Hid (∀ b, (Value.slice D1 e.drop.length d1).ownBlock = some b → b ≠ V0.heap.size ∧ b < V3.heap.size ∧ w.heap.size + 1 < b) := fun b h => by
        have h1 := (Own.lt oD b h)
        rcases t6 with t | t
        · have h2 : V1.heap.size = b := Option.some.inj (t.symm.trans h); exact ⟨by omega, by omega, by omega⟩
        · have h2 : V2.heap.size = b := Option.some.inj (t.symm.trans h); exact ⟨by omega, by omega, by omega⟩
      replace oD := Own.base oD (show w.heap.size ≤ w.heap.size + 2 by omega)
      refine hK.out _ _ (HS.out _ kId) (fun hH => ?_)
      clear hK K g6 t6 oG hru hfl kG
      try dsimp only
      try simp only [List.getElem_toArray, List.getElem_cons_succ, List.getElem_cons_zero, Act.put, List.setIfInBounds_toArray, List.set_cons_zero, List.set_cons_succ]
      refine wpAnyH_take (i := 8) (v := ?_) rfl (by kernel_rfl) (by kernel_rfl) (by kernel_rfl) (fun _ _ _ h => h) (Or.inl ⟨by rfl, ?_⟩) hH ?_
      case refine_2 => intro w hSw; go_simp; try with_reducible rfl
      try simp only [List.getElem_toArray, List.getElem_cons_succ, List.getElem_cons_zero, Act.put, List.setIfInBounds_toArray, List.set_cons_zero, List.set_cons_succ]
      refine wpAnyH_ready (rs := [10]) (by kernel_rfl) (by simp) ?_
      refine AllReadyH.cons rfl (fun K hK => ?_) AllReadyH.nil
      refine step_store_blk rfl 42 (.tmp 3) (.tmp 14) rfl V0.heap.size 42 #[.bool false, .slice none 0 0, .slice none 0 0, .int .u64 0] #[.bool e.reset, .slice none 0 0, .slice D1 e.drop.length d1, .int .u64 (e.seq : Int)] rfl rfl kO Try.size_MEdit rfl rfl (by simp [Value.oneCell']) ?_
      intro w9 k9 g9 z9
      have kI9 := kId.grown g9 (fun e => by have := Option.some.inj e; omega)
      have kR9 := kRd.grown g9 (fun e => by have := Option.some.inj e; omega)
      have oD9 := Own.same oD g9 (ownNe (fun b h1 h2 => (HDO.out b h1).1 (Option.some.inj h2).symm)) (fun _ h => h.elim)
      have b9 := bd.grown g9 bd.size (fun j e => by have := Option.some.inj e; omega)
      have hdo : ∀ b, (Value.slice D1 e.drop.length d1).ownBlock = some b → b ≠ V0.heap.size ∧ b < w9.heap.size ∧ w.heap.size + 1 < b := fun b h => ⟨(HDO.out b h).1, Nat.lt_of_lt_of_le (HDO.out b h).2.1 g9.size, (HDO.out b h).2.2⟩
      refine hK.out _ _ (HS.out _ kI9) (fun hH => ?_)
      clear hK K
      try simp only [List.getElem_toArray, List.getElem_cons_succ, List.getElem_cons_zero, Act.put]
      refine wpAnyH_done (by kernel_rfl) ?_ _
      refine NoPanic.normal ?_
      clear hH
      go_wp2_with fail
      go_meet
      case rel => exact ⟨V0.heap.size, D1, d1, rfl, k9, kR9, kI9, oD9, hdo, by omega, b9⟩
  case rest =>
  obtain ⟨ob, D1, d1, rfl, kO, kR, kI, oD, hdo, hob, b0'⟩ := hcut
  clear b0
  have b0 := b0'
  clear b0'
  generalize wc = W0 at *
  have y1 : W0.cell? ⟨w.heap.size, 1, none⟩ = some (.slice A e.add.length a) := kI.cell 1
  go_wp2_with fail
  clear y1 kI
  have hor : ob ≠ w.heap.size + 1 := by omega
  have zob : w.heap.size ≤ ob := by omega
  have zrb : w.heap.size ≤ w.heap.size + 1 := by omega
  have HDO : Hid (∀ b, (Value.slice D1 e.drop.length d1).ownBlock = some b → b ≠ ob ∧ b < W0.heap.size) := fun b h => ⟨(hdo b h).1, (hdo b h).2.1⟩
  have HDO2 : Hid (∀ b, (Value.slice D1 e.drop.length d1).ownBlock = some b → b ≠ w.heap.size + 1) := fun b h => by have := (hdo b h).2.2; omega
  clear hdo hob
  generalize w.heap.size + 1 = rb at *
  obtain ⟨i2, hi2, hx0, hx1, hx2⟩ := info_parts Try.infoFile
  have lO := kO.lt
  have lR := kR.lt
  have z0 := b0.size
  go_loopw [5, 18] (fun _ i wr => ∃ (n : Nat) (fs : List LFile) (R : Option Addr) (r : Nat), n ≤ e.add.length ∧ i = .int .i64 (n : Int) ∧ fs = e.add.take n ∧ fs.length = n ∧ Own FE 66 wr W0.heap.size (fun b => W0.heap.size ≤ b) (.slice R fs.length r) fs ∧ Blk wr ob 42 #[.bool e.reset, .slice R fs.length r, .slice D1 e.drop.length d1, .int .u64 (e.seq : Int)] ∧ Blk wr rb 42 #[.bool false, .slice none 0 0, .slice none 0 0, .int .u64 0] ∧ Below w.heap.size w wr ∧ W0.heap.size ≤ wr.heap.size ∧ Own NE 23 wr w.heap.size (fun _ => False) (.slice D1 e.drop.length d1) e.drop) (fun _ i _ => e.add.length - (intOf i).toNat)
  case atStart => exact ⟨0, [], none, 0, Nat.zero_le _, rfl, rfl, rfl, Own.nil_ _ _ _ _ _, kO, kR, b0, Nat.le_refl _, oD⟩
  case round =>
    clear kO kR b0 oD
    obtain ⟨n, fs, R, r, hn, rfl, hfs, hfl, oF, kO, kR, br, zr, oD⟩ := hrel
    have HFS := Lib.hid hfs
    have HFL := Lib.hid hfl
    have hfn : fs.length ≤ n := Nat.le_of_eq hfl
    clear hfs hfl
    by_cases hlt : n < e.add.length
    · have hlt' : (n : Int) < (e.add.length : Int) := by omega
      obtain ⟨ad, P, q, Q, t, rfl, hab, y0, y1, y2, y3, y4, y5, hP, hQ, hwf⟩ := RFE.at_ (hA.below br) hlt
      have HST : Hid (e.add.take (n + 1) = fs ++ [e.add[n]]) := by show _ = _; rw [List.take_succ_eq_append_getElem hlt, HFS.out]
      have HPF := Lib.hid (HPL.out e.add[n] (List.getElem_mem _))
      generalize e.add[n] = f at *
      have dz : Below wr.heap.size wr (wr.alloc (.cells #[.int .u64 (f.num : Int), .int .i64 f.level, .slice P f.first.length q, .slice Q f.last.length t, .int .i64 f.count, .int .i64 f.size] 71)) := (Below.refl _ _).alloc (Nat.le_refl _) _
      have kF := Blk.new wr 71 #[.int .u64 (f.num : Int), .int .i64 f.level, .slice P f.first.length q, .slice Q f.last.length t, .int .i64 f.count, .int .i64 f.size]
      have kO1 := kO.below dz kO.lt
      have kR1 := kR.below dz kR.lt
      have oF1 := Own.below oF dz
      have b1 := br.trans (dz.mono br.size)
      have oD1 := Own.below oD dz
      have hFL := Own.lt oF
      go_upto_region 5 with fail
      clear y0 y1 y2 y3 y4 y5 kO kR oF oD
      have hP1 := hP.1.below dz
      have hQ1 := hQ.1.below dz
      have z1 := dz.size
      generalize (wr.alloc (.cells #[.int .u64 (f.num : Int), .int .i64 f.level, .slice P f.first.length q, .slice Q f.last.length t, .int .i64 f.count, .int .i64 f.size] 71)) = w1 at *
      refine wp_region_noPanic ?_
      have kFd := kF.drew
      have kOd := kO1.drew
      have kRd := kR1.drew
      have oFd := Own.below oF1 ((Below.refl w1.heap.size w1).drew)
      have oDd := Own.below oD1 ((Below.refl w1.heap.size w1).drew)
      have bd := b1.drew
      have hPd := hP1.below ((Below.refl w1.heap.size w1).drew)
      have hQd := hQ1.below ((Below.refl w1.heap.size w1).drew)
      have hS : ∀ W, Blk W ob 42 #[.bool e.reset, .slice R fs.length r, .slice D1 e.drop.length d1, .int .u64 (e.seq : Int)] → Blk W wr.heap.size 71 #[.int .u64 (f.num : Int), .int .i64 f.level, .slice P f.first.length q, .slice Q f.last.length t, .int .i64 f.count, .int .i64 f.size] → W.cell? ⟨ob, 1, none⟩ = some (.slice R fs.length r) ∧ W.cell? ⟨wr.heap.size, 0, none⟩ = some (.int .u64 (f.num : Int)) ∧ W.cell? ⟨wr.heap.size, 1, none⟩ = some (.int .i64 f.level) ∧ W.cell? ⟨wr.heap.size, 2, none⟩ = some (.slice P f.first.length q) ∧ W.cell? ⟨wr.heap.size, 3, none⟩ = some (.slice Q f.last.length t) ∧ W.cell? ⟨wr.heap.size, 4, none⟩ = some (.int .i64 f.count) ∧ W.cell? ⟨wr.heap.size, 5, none⟩ = some (.int .i64 f.size) := fun W h1 h2 => ⟨h1.cell 1, h2.cell 0, h2.cell 1, h2.cell 2, h2.cell 3, h2.cell 4, h2.cell 5⟩
      have HS := Lib.hid hS
      clear hS
      refine wp_region_heldK (fun W => W.cell? ⟨ob, 1, none⟩ = some (.slice R fs.length r) ∧ W.cell? ⟨wr.heap.size, 0, none⟩ = some (.int .u64 (f.num : Int)) ∧ W.cell? ⟨wr.heap.size, 1, none⟩ = some (.int .i64 f.level) ∧ W.cell? ⟨wr.heap.size, 2, none⟩ = some (.slice P f.first.length q) ∧ W.cell? ⟨wr.heap.size, 3, none⟩ = some (.slice Q f.last.length t) ∧ W.cell? ⟨wr.heap.size, 4, none⟩ = some (.int .i64 f.count) ∧ W.cell? ⟨wr.heap.size, 5, none⟩ = some (.int .i64 f.size)) 7 (by kernel_rfl) (HS.out _ kOd kFd) (fun hH => ?_)
      clear kF kO1 kR1 oF1 b1 hP1 hQ1 oD1
      have z1d : w1.heap.size ≤ w1.drew.heap.size := Nat.le_refl _
      generalize w1.drew = W at *
      refine wpAnyK_takeY (i := 0) (v := ?_) rfl (by kernel_rfl) (by kernel_rfl) (by kernel_rfl) (by kernel_rfl) (fun _ _ _ h => h) (Or.inl ⟨by rfl, ?_⟩) hH ?_
      case refine_2 => intro w; go_simp; try with_reducible rfl
      try simp only [List.getElem_toArray, List.getElem_cons_zero, Act.put, List.setIfInBounds_toArray, List.set_cons_zero, List.set_cons_succ]
      refine wpAnyK_take (i := 1) (v := ?_) rfl (by kernel_rfl) (by kernel_rfl) (by kernel_rfl) (by kernel_rfl) (fun _ _ _ h => h) (Or.inl ⟨by rfl, ?_⟩) hH ?_
      case refine_2 => intro w hSw; obtain ⟨s0, s1, s2, s3, s4, s5, s6⟩ := hSw; go_simp; try with_reducible rfl
      try simp only [List.getElem_toArray, List.getElem_cons_succ, List.getElem_cons_zero, Act.put, List.setIfInBounds_toArray, List.set_cons_zero, List.set_cons_succ]
      refine wpAnyK_take (i := 2) (v := ?_) rfl (by kernel_rfl) (by kernel_rfl) (by kernel_rfl) (by kernel_rfl) (fun _ _ _ h => h) (Or.inl ⟨by rfl, ?_⟩) hH ?_
      case refine_2 => intro w hSw; obtain ⟨s0, s1, s2, s3, s4, s5, s6⟩ := hSw; go_simp; try with_reducible rfl
      try simp only [List.getElem_toArray, List.getElem_cons_succ, List.getElem_cons_zero, Act.put, List.setIfInBounds_toArray, List.set_cons_zero, List.set_cons_succ]
      refine wpAnyK_ready (rs := [3]) (by kernel_rfl) (by simp) ?_
      refine AllReadyK.cons rfl (by kernel_rfl) (fun K hK => ?_) AllReadyK.nil
      go_simp
      refine (lawfile_any f P Q q t W hPd hQd).mono ?_
      rintro en w2 ⟨A5, a5, B5, c5, rfl, oA5, oB5, b2⟩
      have kF2 := kFd.below b2 kFd.lt
      have kO2 := kOd.below b2 kOd.lt
      have kR2 := kRd.below b2 kRd.lt
      have oF2 := Own.below oFd b2
      have oD2 := Own.below oDd b2
      have b02 := bd.trans (b2.mono bd.size)
      have z2 := b2.size
      refine hK.out _ _ (HS.out _ kO2 kF2) ?_
      clear hK K hH kFd kOd kRd oFd bd hPd hQd oDd
      try dsimp only
      try simp only [List.getElem_toArray, List.getElem_cons_succ, List.getElem_cons_zero, Act.put, List.setIfInBounds_toArray, List.set_cons_zero, List.set_cons_succ]
      refine wpAnyK_ready (rs := [4]) (by kernel_rfl) (by simp) ?_
      refine AllReadyK.cons rfl (by kernel_rfl) (fun K hK => ?_) AllReadyK.nil
      go_simp
      have d3 : Below w2.heap.size w2 (w2.alloc (.cells #[.slice A5 f.first.length a5, .slice B5 f.last.length c5, .int .i64 f.count, .int .i64 f.size, .int .u64 (f.num : Int), .int .i64 f.level] 66)) := (Below.refl _ _).alloc (Nat.le_refl _) _
      have kF3 := kF2.below d3 kF2.lt
      have kO3 := kO2.below d3 kO2.lt
      have kR3 := kR2.below d3 kR2.lt
      have oF3 := Own.below oF2 d3
      have b03 := b02.trans (d3.mono b02.size)
      have oD3 := Own.below oD2 d3
      have hrd : Reads (w2.alloc (.cells #[.slice A5 f.first.length a5, .slice B5 f.last.length c5, .int .i64 f.count, .int .i64 f.size, .int .u64 (f.num : Int), .int .i64 f.level] 66)) (w2.heap.size + 1) 6 (some ⟨w2.heap.size, 0, none⟩) 1 [.slice A5 f.first.length a5, .slice B5 f.last.length c5, .int .i64 f.count, .int .i64 f.size, .int .u64 (f.num : Int), .int .i64 f.level] := Reads.newN w2 _ 66
      obtain ⟨hle1, hle2⟩ := HPF.out
      have hrep : FE.rep (w2.alloc (.cells #[.slice A5 f.first.length a5, .slice B5 f.last.length c5, .int .i64 f.count, .int .i64 f.size, .int .u64 (f.num : Int), .int .i64 f.level] 66)) (fun b => (fun b => W0.heap.size ≤ b) b ∧ (Value.slice R fs.length r).ownBlock ≠ some b) [.slice A5 f.first.length a5, .slice B5 f.last.length c5, .int .i64 f.count, .int .i64 f.size, .int .u64 (f.num : Int), .int .i64 f.level] f := ⟨A5, a5, B5, c5, rfl, OwnB.bytesB oA5 (by omega) d3 (fun g h1 h2 => ⟨by omega, fun e => by have := (hFL g e).2; omega⟩), OwnB.bytesB oB5 (by omega) d3 (fun g h1 h2 => ⟨by omega, fun e => by have := (hFL g e).2; omega⟩), hwf⟩
      refine hK.out _ _ (HS.out _ kO3 kF3) ?_
      clear hK K kF2 kO2 kR2 oF2 b02 oD2
      try dsimp only
      try simp only [List.getElem_toArray, List.getElem_cons_succ, List.getElem_cons_zero, Act.put, List.setIfInBounds_toArray, List.set_cons_zero, List.set_cons_succ]
      have z3 := d3.size
      generalize (w2.alloc (.cells #[.slice A5 f.first.length a5, .slice B5 f.last.length c5, .int .i64 f.count, .int .i64 f.size, .int .u64 (f.num : Int), .int .i64 f.level] 66)) = w3 at *
      have hL1 : (fs.length + 1) * FE.bytes ≤ 140737488355328 := by simp only [FE]; omega
      have hL2 : fs.length + 1 ≤ maxLen := by simp only [maxLen]; omega
      refine wpAnyK_ready (rs := [5]) (by kernel_rfl) (by simp) ?_
      refine AllReadyK.cons rfl (by kernel_rfl) (fun K hK => ?_) AllReadyK.nil
      refine step_appE FE W0.heap.size w3 rfl (.tmp 23) (.tmp 26) 66 28 rfl i2 _ Try.underlying28 hi2 hx0 hx1 hx2 rfl (fun b => W0.heap.size ≤ b) R fs r rfl oF3 _ [.slice A5 f.first.length a5, .slice B5 f.last.length c5, .int .i64 f.count, .int .i64 f.size, .int .u64 (f.num : Int), .int .i64 f.level] f 1 rfl _ hrd hrep hL1 hL2 (by omega) ?_
      intro R6 r6 fs6 w6 H6 o6 g6 t6
      have kO6 := kO3.grown g6 (fun e => by have := (hFL _ e.symm).1; omega)
      have kR6 := kR3.grown g6 (fun e => by have := (hFL _ e.symm).1; omega)
      have kF6 := kF3.grown g6 (fun e => by have := (hFL _ e.symm).2; omega)
      have b06 := b03.grown g6 b03.size (fun j e => by have := (hFL _ e).1; omega)
      have oD6 := Own.same oD3 g6 (ownNe (fun b h1 h2 => by have h3 := (hFL b h2).1; have h4 := (HDO.out b h1).2; omega)) (fun _ h => h.elim)
      have z6 := g6.size
      refine hK.out _ _ (HS.out _ kO6 kF6) ?_
      clear hK K t6 hrd hrep kF3 kO3 kR3 b03 oF3 g6 oD3
      try dsimp only
      try simp only [List.getElem_toArray, List.getElem_cons_succ, List.getElem_cons_zero, Act.put, List.setIfInBounds_toArray, List.set_cons_zero, List.set_cons_succ]
      have f6 : w6.frozen? ⟨ob, 1, none⟩ = false := kO6.frozen 1
      have x6 := HS.out _ kO6 kF6
      refine wpAnyK_takeY (i := 6) (v := ?_) rfl (by kernel_rfl) (by kernel_rfl) (by kernel_rfl) (by kernel_rfl) (fun _ _ _ h => h) (Or.inl ⟨by rfl, ?_⟩) x6 ?_
      case refine_2 => intro w; go_simp; try with_reducible rfl
      try simp only [List.getElem_toArray, List.getElem_cons_succ, List.getElem_cons_zero, Act.put, List.setIfInBounds_toArray, List.set_cons_zero, List.set_cons_succ]
      refine wpAnyK_ready (rs := [7]) (by kernel_rfl) (by simp) ?_
      refine AllReadyK.turn rfl (fun K hK => ?_) AllReadyK.nil
      obtain ⟨x6', -, -, -, -, -, -⟩ := x6
      go_simp
      have kO7 := kO6.set_ 1 (.slice R6 fs6.length r6)
      have g7 : w6.grownBy (w6.setCell ⟨ob, 1, none⟩ (.slice R6 fs6.length r6)) (some ob) := only_setCell (World.grownBy.refl w6 _) (p := ⟨ob, 1, none⟩) (.inl rfl) _
      have kR7 := kR6.grown g7 (fun e => hor (Option.some.inj e).symm)
      have o7 := Own.same o6 g7 (.inr fun e => by have := (Own.lt o6 _ e).1; omega) (fun b hb e => by have h1 : W0.heap.size ≤ b := hb; have := Option.some.inj e; omega)
      have oD7 := Own.same oD6 g7 (ownNe (fun b h1 h2 => (HDO.out b h1).1 (Option.some.inj h2).symm)) (fun _ h => h.elim)
      have b7 := b06.grown g7 b06.size (fun j e => by have := Option.some.inj e; omega)
      have z7 := g7.size
      refine hK.out _ _ ?_
      clear hK K x6' f6 kF6 kO6 kR6 o6 g7 b06 oD6
      try dsimp only
      refine wpAny_done (by kernel_rfl) ?_ _
      refine NoPanic.normal ?_
      have HF6 : Hid (fs6 = e.add.take (n + 1)) := by show _ = _; rw [HST.out, H6.out]
      have HL6 : Hid (fs6.length = n + 1) := by show _ = _; rw [H6.out, List.length_append, HFL.out]; rfl
      go_wp2_with fail
      go_roundw
      case rel => exact ⟨n + 1, fs6, R6, r6, by omega, by simp, HF6.out, HL6.out, o7, kO7, kR7, b7, by omega, oD7⟩
      case measure => simp [intOf]; omega
    · have hlt' : ¬ (n : Int) < (e.add.length : Int) := by omega
      have HE : Hid (fs = e.add) := by show _ = _; rw [HFS.out]; exact List.take_of_length_le (by omega)
      clear HFS HFL
      go_wp2_with (first
        | ((with_reducible refine wpList_load_blk rfl 42 (.tmp 3) rfl ob ?_ 42 _ _ kO Try.underlying42 ?_ Try.size_MEdit ?_ ?_); rfl; rfl; rfl)
        | ((with_reducible refine wpList_store_blk rfl 42 (.tmp 2) (.tmp 30) rfl rb 42 _ #[.bool e.reset, .slice R fs.length r, .slice D1 e.drop.length d1, .int .u64 (e.seq : Int)] ?_ ?_ kR Try.size_MEdit ?_ ?_ ?_ ?_); rfl; rfl; rfl; rfl; (simp [Value.oneCell']); intro w9 kz9 g9 z9))
      have o9 := Own.same oF g9 (.inr fun e => by have := (Own.lt oF _ e).1; omega) (fun b hb e => by have h1 : W0.heap.size ≤ b := hb; have := Option.some.inj e; omega)
      have oD9 := Own.same oD g9 (ownNe (fun b h1 h2 => (HDO2.out b h1) (Option.some.inj h2).symm)) (fun _ h => h.elim)
      have b9 := br.grown g9 br.size (fun j e => by have := Option.some.inj e; omega)
      exact bodyPost_ret (results_cell rfl rfl kz9 Try.underlying42 rfl Try.size_MEdit) rfl (by rw [HE.out] at o9 ⊢; exact ⟨R, r, D1, d1, rfl, Own.mono (Own.base o9 (by omega)) (fun b _ _ hb => by have h1 : W0.heap.size ≤ b := hb; show w.heap.size ≤ b; omega), oD9, b9⟩)
end Go.Proofs.Ytmgibpedclngpaa
