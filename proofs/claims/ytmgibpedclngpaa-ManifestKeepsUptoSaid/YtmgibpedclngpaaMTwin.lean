/- Files with texts of their own: twin, twins of manifest; searching none, sorting one. (Printed by wip/gen_mtwin.py.) -/
import Derived.Test.YtmgibpedclngpaaMTold
import Derived.Test.YtmgibpedclngpaaBClonN
namespace Go.Proofs.Ytmgibpedclngpaa
open Go.RowKit

theorem bodyEnd0 {fn : Func} {R : Ending → World → Prop} {a : Act} {w : World} (hr : fn.results = #[]) (hd : a.defers = []) (hR : R (.returned (.tuple #[])) w) : bodyPost Try.prog fn R .normal a w := bodyPost_end (results_none hr _ _ _) hd hR
/-- a text in a row of its own, in blocks of S -/
def OwnS (w : World) (S : Nat → Prop) (A : Option Addr) (l : List UInt8) (c : Nat) : Prop := OwnB 0 w A l c ∧ (∀ b, (Value.slice A l.length c).ownBlock = some b → S b) ∧ l.length ≤ 140737488355328
theorem OwnS.keep {w w' : World} {S : Nat → Prop} {A : Option Addr} {l : List UInt8} {c : Nat} (h : OwnS w S A l c) (hs : Same S w w') : OwnS w' S A l c := by
  obtain ⟨h1, h2, h3⟩ := h
  refine ⟨⟨h1.1, ?_⟩, h2, h3⟩
  rcases h1.2 with h4 | ⟨g, cap, cur, e1, e2, e3, e4⟩
  · exact .inl h4
  · have hg : S g := h2 g (by rw [e1]; rfl)
    have hlt : g < w.heap.size := by
      rcases Nat.lt_or_ge g w.heap.size with h5 | h5
      · exact h5
      · rw [Array.getElem?_eq_none h5] at e3; cases e3
    exact .inr ⟨g, cap, cur, e1, e2, by rw [hs.2 g hg hlt]; exact e3, e4⟩
theorem OwnS.mono {w : World} {S S' : Nat → Prop} {A : Option Addr} {l : List UInt8} {c : Nat} (h : OwnS w S A l c) (hs : ∀ b, b < w.heap.size → S b → S' b) : OwnS w S' A l c := ⟨h.1, fun b hb => hs b (OwnB.lt h.1 b hb).2 (h.2.1 b hb), h.2.2⟩
theorem OwnS.text {w : World} {S : Nat → Prop} {A : Option Addr} {l : List UInt8} {c : Nat} (h : OwnS w S A l c) : Bs w A l ∧ At S A l.length ∧ l.length ≤ c ∧ c ≤ 9223372036854775807 := by
  refine ⟨OwnB.bs h.1 h.2.2, fun ad e hn => ?_, OwnB.caps h.1⟩
  obtain ⟨g, cap, cur, e1, e2, e3, e4⟩ := h.1.2.resolve_left (fun h4 => by have := h4.2; omega)
  injection e1 with e5 e6 e7
  subst e
  injection e5 with e8
  subst e8
  exact h.2.1 g (by rw [e7]; rfl)
theorem OwnS.of {b : Nat} {w : World} {S : Nat → Prop} {A : Option Addr} {l : List UInt8} {c : Nat} (h : OwnB b w A l c) (hl : l.length ≤ 140737488355328) (hs : ∀ g, b ≤ g → g < w.heap.size → S g) : OwnS w S A l c := ⟨OwnB.base h (Nat.zero_le _), fun g hg => hs g (OwnB.lt h g hg).1 (OwnB.lt h g hg).2, hl⟩
/-- the program's files with texts of their own -/
def FEO : ER LFile where
  size := 6
  pos := by omega
  bytes := 80
  bpos := by omega
  rep w S vs f := ∃ A c B d, vs = [.slice A f.first.length c, .slice B f.last.length d, .int .i64 f.count, .int .i64 f.size, .int .u64 (f.num : Int), .int .i64 f.level] ∧ OwnS w S A f.first c ∧ OwnS w S B f.last d ∧ (∀ b, (Value.slice A f.first.length c).ownBlock = some b → (Value.slice B f.last.length d).ownBlock ≠ some b) ∧ f.wf
  len := by rintro w S vs a ⟨A, c, B, d, rfl, _⟩; rfl
  one := by rintro w S vs a ⟨A, c, B, d, rfl, _⟩ v hv; simp at hv; rcases hv with rfl | rfl | rfl | rfl | rfl | rfl <;> rfl
  keep := by rintro w w' S vs a ⟨A, c, B, d, rfl, h1, h2, h3, h4⟩ hs; exact ⟨A, c, B, d, rfl, h1.keep hs, h2.keep hs, h3, h4⟩
  mono := by rintro w S S' vs a ⟨A, c, B, d, rfl, h1, h2, h3, h4⟩ hs; exact ⟨A, c, B, d, rfl, h1.mono hs, h2.mono hs, h3, h4⟩
theorem FEO.fe {w : World} {S : Nat → Prop} : ∀ {vs : List Value} {l : List LFile}, FEO.flat w S vs l → FE.flat w S vs l
  | _, [], h => h
  | _, _ :: _, ⟨v, r, e, ⟨A, c, B, d, e2, h1, h2, _, h4⟩, hr⟩ => ⟨v, r, e, ⟨A, c, B, d, e2, h1.text, h2.text, h4⟩, FEO.fe hr⟩
theorem Own.fe {w : World} {t : TypeId} {B : Nat} {S : Nat → Prop} {v : Value} {l : List LFile} (h : Own FEO t w B S v l) : Own FE t w B S v l := by
  obtain ⟨vs, h1, h2⟩ := h
  exact ⟨vs, h1, FEO.fe h2⟩
/-- a file with texts of its own is answered -/
def RetTwinF (f : LFile) (w : World) (en : Ending) (w' : World) : Prop :=
  ∃ A a B b, en = .returned (.agg #[.slice A f.first.length a, .slice B f.last.length b, .int .i64 f.count, .int .i64 f.size, .int .u64 (f.num : Int), .int .i64 f.level]) ∧ OwnB w.heap.size w' A f.first a ∧ OwnB w.heap.size w' B f.last b ∧ (∀ g, (Value.slice A f.first.length a).ownBlock = some g → (Value.slice B f.last.length b).ownBlock ≠ some g) ∧ Below w.heap.size w w'

set_option maxRecDepth 100000 in
set_option maxHeartbeats 8000000 in
theorem twin_any (f : LFile) (A B : Option Addr) (a b : Nat) (w : World) (hA : Bs w A f.first) (hB : Bs w B f.last) : Calls Try.prog 40 #[.agg #[.slice A f.first.length a, .slice B f.last.length b, .int .i64 f.count, .int .i64 f.size, .int .u64 (f.num : Int), .int .i64 f.level]] w (RetTwinF f w) := by
  have b0 : Below w.heap.size w ((w.alloc (.cells #[.slice A f.first.length a, .slice B f.last.length b, .int .i64 f.count, .int .i64 f.size, .int .u64 (f.num : Int), .int .i64 f.level] 66)).alloc (.cells #[.slice none 0 0, .slice none 0 0, .int .i64 0, .int .i64 0, .int .u64 0, .int .i64 0] 66)) := ((Below.refl _ _).alloc (Nat.le_refl _) _).alloc (by simp) _
  have k0 : Blk ((w.alloc (.cells #[.slice A f.first.length a, .slice B f.last.length b, .int .i64 f.count, .int .i64 f.size, .int .u64 (f.num : Int), .int .i64 f.level] 66)).alloc (.cells #[.slice none 0 0, .slice none 0 0, .int .i64 0, .int .i64 0, .int .u64 0, .int .i64 0] 66)) w.heap.size 66 #[.slice A f.first.length a, .slice B f.last.length b, .int .i64 f.count, .int .i64 f.size, .int .u64 (f.num : Int), .int .i64 f.level] := (Blk.new w _ _).alloc _
  have k1 : Blk ((w.alloc (.cells #[.slice A f.first.length a, .slice B f.last.length b, .int .i64 f.count, .int .i64 f.size, .int .u64 (f.num : Int), .int .i64 f.level] 66)).alloc (.cells #[.slice none 0 0, .slice none 0 0, .int .i64 0, .int .i64 0, .int .u64 0, .int .i64 0] 66)) (w.heap.size + 1) 66 #[.slice none 0 0, .slice none 0 0, .int .i64 0, .int .i64 0, .int .u64 0, .int .i64 0] := heap_alloc2_new w _ _
  have hA0 := hA.below b0
  have hB0 := hB.below b0
  have hal := hA.le
  have hbl := hB.le
  go_enter Try.func40, Try.ntmps40
  go_upto_region 1 with fail
  generalize Value.agg #[.slice A f.first.length a, .slice B f.last.length b, .int .i64 f.count, .int .i64 f.size, .int .u64 (f.num : Int), .int .i64 f.level] = av
  generalize ((w.alloc (.cells #[.slice A f.first.length a, .slice B f.last.length b, .int .i64 f.count, .int .i64 f.size, .int .u64 (f.num : Int), .int .i64 f.level] 66)).alloc (.cells #[.slice none 0 0, .slice none 0 0, .int .i64 0, .int .i64 0, .int .u64 0, .int .i64 0] 66)) = W at *
  refine wp_region_noPanic ?_
  have k0d := k0.drew
  have k1d := k1.drew
  have bd := b0.drew
  have hAd := hA0.below ((Below.refl W.heap.size W).drew)
  have hBd := hB0.below ((Below.refl W.heap.size W).drew)
  have hS : ∀ X, Blk X w.heap.size 66 #[.slice A f.first.length a, .slice B f.last.length b, .int .i64 f.count, .int .i64 f.size, .int .u64 (f.num : Int), .int .i64 f.level] → X.cell? ⟨w.heap.size, 0, none⟩ = some (.slice A f.first.length a) ∧ X.cell? ⟨w.heap.size, 1, none⟩ = some (.slice B f.last.length b) := fun X h => ⟨h.cell 0, h.cell 1⟩
  have HS := Lib.hid hS
  clear hS
  refine wp_region_heldK (fun X => X.cell? ⟨w.heap.size, 0, none⟩ = some (.slice A f.first.length a) ∧ X.cell? ⟨w.heap.size, 1, none⟩ = some (.slice B f.last.length b)) 10 (by kernel_rfl) (HS.out _ k0d) (fun hH => ?_)
  clear k0 k1 b0 hA0 hB0 hA hB
  generalize W.drew = V at *
  refine wpAnyK_takeY (i := 0) (v := ?_) rfl (by kernel_rfl) (by kernel_rfl) (by kernel_rfl) (by kernel_rfl) (fun _ _ _ h => h) (Or.inl ⟨by rfl, ?_⟩) hH ?_
  case refine_2 => intro w; go_simp; try with_reducible rfl
  try simp only [List.getElem_toArray, List.getElem_cons_zero, Act.put, List.setIfInBounds_toArray, List.set_cons_zero, List.set_cons_succ]
  refine wpAnyK_takeY (i := 1) (v := ?_) rfl (by kernel_rfl) (by kernel_rfl) (by kernel_rfl) (by kernel_rfl) (fun _ _ _ h => h) (Or.inl ⟨by rfl, ?_⟩) hH ?_
  case refine_2 => intro w; go_simp; try with_reducible rfl
  try simp only [List.getElem_toArray, List.getElem_cons_succ, List.getElem_cons_zero, Act.put, List.setIfInBounds_toArray, List.set_cons_zero, List.set_cons_succ]
  refine wpAnyK_take (i := 2) (v := ?_) rfl (by kernel_rfl) (by kernel_rfl) (by kernel_rfl) (by kernel_rfl) (fun _ _ _ h => h) (Or.inl ⟨by rfl, ?_⟩) hH ?_
  case refine_2 => intro w hSw; obtain ⟨s0, s1⟩ := hSw; go_simp; try with_reducible rfl
  try simp only [List.getElem_toArray, List.getElem_cons_succ, List.getElem_cons_zero, Act.put, List.setIfInBounds_toArray, List.set_cons_zero, List.set_cons_succ]
  refine wpAnyK_takeY (i := 4) (v := ?_) rfl (by kernel_rfl) (by kernel_rfl) (by kernel_rfl) (by kernel_rfl) (fun _ _ _ h => h) (Or.inl ⟨by rfl, ?_⟩) hH ?_
  case refine_2 => intro w; go_simp; try with_reducible rfl
  try simp only [List.getElem_toArray, List.getElem_cons_succ, List.getElem_cons_zero, Act.put, List.setIfInBounds_toArray, List.set_cons_zero, List.set_cons_succ]
  refine wpAnyK_takeY (i := 5) (v := ?_) rfl (by kernel_rfl) (by kernel_rfl) (by kernel_rfl) (by kernel_rfl) (fun _ _ _ h => h) (Or.inl ⟨by rfl, ?_⟩) hH ?_
  case refine_2 => intro w; go_simp; try with_reducible rfl
  try simp only [List.getElem_toArray, List.getElem_cons_succ, List.getElem_cons_zero, Act.put, List.setIfInBounds_toArray, List.set_cons_zero, List.set_cons_succ]
  refine wpAnyK_take (i := 6) (v := ?_) rfl (by kernel_rfl) (by kernel_rfl) (by kernel_rfl) (by kernel_rfl) (fun _ _ _ h => h) (Or.inl ⟨by rfl, ?_⟩) hH ?_
  case refine_2 => intro w hSw; obtain ⟨s0, s1⟩ := hSw; go_simp; try with_reducible rfl
  try simp only [List.getElem_toArray, List.getElem_cons_succ, List.getElem_cons_zero, Act.put, List.setIfInBounds_toArray, List.set_cons_zero, List.set_cons_succ]
  refine wpAnyK_ready (rs := [3]) (by kernel_rfl) (by simp) ?_
  refine AllReadyK.cons rfl (by kernel_rfl) (fun K hK => ?_) AllReadyK.nil
  go_simp
  refine (bclone_any A f.first a V hAd).mono ?_
  rintro en w2 ⟨A5, a5, rfl, oA0, b2⟩
  have oA : OwnB V.heap.size w2 A5 f.first a5 := oA0
  have k02 := k0d.below b2 k0d.lt
  have k12 := k1d.below b2 k1d.lt
  have hB2 := hBd.below b2
  have b02 := bd.trans (b2.mono bd.size)
  have zV := k1d.lt
  have z2 := b2.size
  refine hK.out _ _ (HS.out _ k02) ?_
  clear hK K hH hAd hBd k0d k1d bd b2 oA0
  try dsimp only
  try simp only [List.getElem_toArray, List.getElem_cons_succ, List.getElem_cons_zero, Act.put, List.setIfInBounds_toArray, List.set_cons_zero, List.set_cons_succ]
  have hS2 := HS.out _ k02
  refine wpAnyK_takeY (i := 8) (v := ?_) rfl (by kernel_rfl) (by kernel_rfl) (by kernel_rfl) (by kernel_rfl) (fun _ _ _ h => h) (Or.inl ⟨by rfl, ?_⟩) hS2 ?_
  case refine_2 => intro w; go_simp; try with_reducible rfl
  try simp only [List.getElem_toArray, List.getElem_cons_succ, List.getElem_cons_zero, Act.put, List.setIfInBounds_toArray, List.set_cons_zero, List.set_cons_succ]
  refine wpAnyK_takeY (i := 9) (v := ?_) rfl (by kernel_rfl) (by kernel_rfl) (by kernel_rfl) (by kernel_rfl) (fun _ _ _ h => h) (Or.inl ⟨by rfl, ?_⟩) hS2 ?_
  case refine_2 => intro w; go_simp; try with_reducible rfl
  try simp only [List.getElem_toArray, List.getElem_cons_succ, List.getElem_cons_zero, Act.put, List.setIfInBounds_toArray, List.set_cons_zero, List.set_cons_succ]
  clear hS2
  refine wpAnyK_ready (rs := [7]) (by kernel_rfl) (by simp) ?_
  refine AllReadyK.cons rfl (by kernel_rfl) (fun K hK => ?_) AllReadyK.nil
  go_simp
  refine (bclone_any B f.last b w2 hB2).mono ?_
  rintro en w3 ⟨B5, c5, rfl, oB0, b3⟩
  have oB : OwnB w2.heap.size w3 B5 f.last c5 := oB0
  have k03 := k02.below b3 k02.lt
  have k13 := k12.below b3 k12.lt
  have oA3 := OwnB.below oA b3
  have b03 := b02.trans (b3.mono b02.size)
  have hAL := Lib.hid (OwnB.lt oA)
  refine hK.out _ _ (HS.out _ k03) ?_
  clear hK K hB2 k02 k12 b02 b3 oB0 oA
  try dsimp only
  try simp only [List.getElem_toArray, List.getElem_cons_succ, List.getElem_cons_zero, Act.put, List.setIfInBounds_toArray, List.set_cons_zero, List.set_cons_succ]
  have hS3 := HS.out _ k03
  refine wpAnyK_ready (rs := [10]) (by kernel_rfl) (by simp) ?_
  refine AllReadyK.turn rfl (fun K hK => ?_) AllReadyK.nil
  obtain ⟨x0, x1⟩ := hS3
  have f0 : w3.frozen? ⟨w.heap.size, 0, none⟩ = false := k03.frozen 0
  go_simp
  clear x0 x1 f0
  have k04 := k03.set_ 0 (.slice A5 f.first.length a5)
  have g4 : w3.grownBy (w3.setCell ⟨w.heap.size, 0, none⟩ (.slice A5 f.first.length a5)) (some w.heap.size) := only_setCell (World.grownBy.refl w3 _) (p := ⟨w.heap.size, 0, none⟩) (.inl rfl) _
  have k14 := k13.grown g4 (fun e => by have := Option.some.inj e; omega)
  have oA4 := OwnB.kept oA3 g4 (fun b hb e => by have h1 := (OwnB.lt oA3 b hb).1; have := Option.some.inj e; omega)
  have oB4 := OwnB.kept oB g4 (fun b hb e => by have h1 := (OwnB.lt oB b hb).1; have := Option.some.inj e; omega)
  have b04 := b03.grown g4 b03.size (fun j e => by have := Option.some.inj e; omega)
  have hOB := Lib.hid (OwnB.lt oB)
  refine hK.out _ _ ?_
  clear hK K k03 g4 k13 oA3 oB b03
  try dsimp only
  try simp only [List.getElem_toArray, List.getElem_cons_succ, List.getElem_cons_zero, Act.put, List.setIfInBounds_toArray, List.set_cons_zero, List.set_cons_succ]
  generalize (w3.setCell ⟨w.heap.size, 0, none⟩ (.slice A5 f.first.length a5)) = w4 at *
  refine wpAny_take (i := 11) (v := ?_) rfl (by kernel_rfl) (by kernel_rfl) (by kernel_rfl) (fun _ _ _ h => h) (Or.inl ⟨by rfl, ?_⟩) ?_
  case refine_2 => intro w; go_simp; try with_reducible rfl
  try simp only [List.getElem_toArray, List.getElem_cons_succ, List.getElem_cons_zero, Act.put, List.setIfInBounds_toArray, List.set_cons_zero, List.set_cons_succ]
  refine wpAny_take (i := 12) (v := ?_) rfl (by kernel_rfl) (by kernel_rfl) (by kernel_rfl) (fun _ _ _ h => h) (Or.inl ⟨by rfl, ?_⟩) ?_
  case refine_2 => intro w; go_simp; try with_reducible rfl
  try simp only [List.getElem_toArray, List.getElem_cons_succ, List.getElem_cons_zero, Act.put, List.setIfInBounds_toArray, List.set_cons_zero, List.set_cons_succ]
  refine wpAny_ready (rs := [13]) (by kernel_rfl) (by simp) ?_
  refine AllReady.cons rfl (fun K hK => ?_) AllReady.nil
  have x1 : w4.cell? ⟨w.heap.size, 1, none⟩ = some (.slice B f.last.length b) := k04.cell 1
  have f1 : w4.frozen? ⟨w.heap.size, 1, none⟩ = false := k04.frozen 1
  go_simp
  refine hK _ _ ?_
  clear hK K x1 f1
  refine wpAny_done (by kernel_rfl) ?_ _
  refine NoPanic.normal ?_
  have k05 : Blk (w4.setCell ⟨w.heap.size, 1, none⟩ (.slice B5 f.last.length c5)) w.heap.size 66 #[.slice A5 f.first.length a5, .slice B5 f.last.length c5, .int .i64 f.count, .int .i64 f.size, .int .u64 (f.num : Int), .int .i64 f.level] := k04.set_ 1 (.slice B5 f.last.length c5)
  have g5 : w4.grownBy (w4.setCell ⟨w.heap.size, 1, none⟩ (.slice B5 f.last.length c5)) (some w.heap.size) := only_setCell (World.grownBy.refl w4 _) (p := ⟨w.heap.size, 1, none⟩) (.inl rfl) _
  have k15 := k14.grown g5 (fun e => by have := Option.some.inj e; omega)
  have oA5 := OwnB.kept oA4 g5 (fun b hb e => by have h1 := (OwnB.lt oA4 b hb).1; have := Option.some.inj e; omega)
  have oB5 := OwnB.kept oB4 g5 (fun b hb e => by have h1 := (OwnB.lt oB4 b hb).1; have := Option.some.inj e; omega)
  have b05 := b04.grown g5 b04.size (fun j e => by have := Option.some.inj e; omega)
  generalize (w4.setCell ⟨w.heap.size, 1, none⟩ (.slice B5 f.last.length c5)) = w5 at *
  clear k04 g5 k14 oA4 oB4 b04
  go_wp2_with (first
    | ((with_reducible refine wpList_load_blk rfl 66 (.tmp 1) rfl w.heap.size ?_ 66 _ _ k05 Try.underlying66 ?_ Try.size_File ?_ ?_); rfl; rfl; rfl)
    | ((with_reducible refine wpList_store_blk rfl 66 (.tmp 2) (.tmp 15) rfl (w.heap.size + 1) 66 _ #[.slice A5 f.first.length a5, .slice B5 f.last.length c5, .int .i64 f.count, .int .i64 f.size, .int .u64 (f.num : Int), .int .i64 f.level] ?_ ?_ k15 Try.size_File ?_ ?_ ?_ ?_); rfl; rfl; rfl; rfl; (simp [Value.oneCell']); intro w9 kz9 g9 z9))
  have oA9 := OwnB.kept oA5 g9 (fun b hb e => by have h1 := (OwnB.lt oA5 b hb).1; have := Option.some.inj e; omega)
  have oB9 := OwnB.kept oB5 g9 (fun b hb e => by have h1 := (OwnB.lt oB5 b hb).1; have := Option.some.inj e; omega)
  have b9 := b05.grown g9 b05.size (fun j e => by have := Option.some.inj e; omega)
  exact bodyPost_ret (results_cell rfl rfl kz9 Try.underlying66 rfl Try.size_File) rfl ⟨A5, a5, B5, c5, rfl, OwnB.base oA9 (by omega), OwnB.base oB9 (by omega), fun g h1 h2 => by have h3 := (hAL.out g h1).2; have h4 := (hOB.out g h2).1; omega, b9⟩
set_option maxRecDepth 100000 in
set_option maxHeartbeats 8000000 in
theorem twins_any (fs : List LFile) (A : Option Addr) (a : Nat) (w : World) (hA' : Sl FE w A fs) (hl : fs.length ≤ 1048576) : Calls Try.prog 34 #[.slice A fs.length a] w (fun en w' => ∃ R r, en = .returned (.slice R fs.length r) ∧ Own FEO 66 w' w.heap.size (fun b => w.heap.size ≤ b) (.slice R fs.length r) fs ∧ Below w.heap.size w w') := by
  have hA : SlS FE w (fun b => b < w.heap.size) A fs := SlS.mono hA' (fun b h _ => h)
  clear hA'
  obtain ⟨i2, hi2, hx0, hx1, hx2⟩ := info_parts Try.infoFile
  go_enter Try.func34, Try.ntmps34
  go_wp2_with fail
  go_loopw [3, 5, 8] (fun v _ i wr => ∃ (n : Nat) (xs : List LFile) (R : Option Addr) (r : Nat), n ≤ fs.length ∧ i = .int .i64 (n : Int) ∧ v = .slice R n r ∧ xs = fs.take n ∧ Own FEO 66 wr w.heap.size (fun b => w.heap.size ≤ b) (.slice R n r) xs ∧ Below w.heap.size w wr) (fun _ _ i _ => fs.length - (intOf i).toNat)
  case atStart => exact ⟨0, [], none, 0, Nat.zero_le _, rfl, rfl, rfl, Own.nil_ _ _ _ _ _, Below.refl _ _⟩
  case round =>
    obtain ⟨n, xs, R, r, hn, rfl, rfl, hxs, oX, br⟩ := hrel
    have hxl : xs.length = n := by rw [hxs, List.length_take]; omega
    have HXS := Lib.hid hxs
    clear hxs
    have zr := br.size
    rw [← hxl] at oX
    by_cases hlt : n < fs.length
    · have hlt' : (n : Int) < (fs.length : Int) := by omega
      obtain ⟨ad, P, q, Q, t, rfl, hab, y0, y1, y2, y3, y4, y5, hP, hQ, hwf⟩ := FE.at_ (hA.below br) hlt
      have HST : Hid (fs.take (n + 1) = xs ++ [fs[n]]) := by show _ = _; rw [List.take_succ_eq_append_getElem hlt, HXS.out]
      generalize fs[n] = f at *
      have dz : Below wr.heap.size wr (wr.alloc (.cells #[.slice P f.first.length q, .slice Q f.last.length t, .int .i64 f.count, .int .i64 f.size, .int .u64 (f.num : Int), .int .i64 f.level] 66)) := (Below.refl _ _).alloc (Nat.le_refl _) _
      have kF := Blk.new wr 66 #[.slice P f.first.length q, .slice Q f.last.length t, .int .i64 f.count, .int .i64 f.size, .int .u64 (f.num : Int), .int .i64 f.level]
      have oX1 := Own.below oX dz
      have b1 := br.trans (dz.mono zr)
      have hXL := Lib.hid (Own.lt oX)
      have hP1 := hP.1.below dz
      have hQ1 := hQ.1.below dz
      have z1 := dz.size
      go_upto_region 5 with fail
      clear y0 y1 y2 y3 y4 y5 oX br hP hQ
      generalize (wr.alloc (.cells #[.slice P f.first.length q, .slice Q f.last.length t, .int .i64 f.count, .int .i64 f.size, .int .u64 (f.num : Int), .int .i64 f.level] 66)) = w1 at *
      have T := twin_any f P Q q t w1 hP1 hQ1
      have hle1 := hP1.le
      have hle2 := hQ1.le
      go_wp2_with ((with_reducible refine wpList_load_blk rfl 66 (.tmp 5) rfl wr.heap.size ?_ 66 _ _ kF Try.underlying66 ?_ Try.size_File ?_ ?_); rfl; rfl; rfl)
      refine T.mono ?_
      clear T
      rintro en w2 ⟨A5, a5, B5, c5, rfl, oA5, oB5, hne, b2⟩
      have z2 := b2.size
      have d3 : Below w2.heap.size w2 (w2.alloc (.cells #[.slice A5 f.first.length a5, .slice B5 f.last.length c5, .int .i64 f.count, .int .i64 f.size, .int .u64 (f.num : Int), .int .i64 f.level] 66)) := (Below.refl _ _).alloc (Nat.le_refl _) _
      have oX3 := Own.below (Own.below oX1 b2) d3
      have b03 := (b1.trans (b2.mono b1.size)).trans (d3.mono (Nat.le_trans b1.size z2))
      have hrd : Reads (w2.alloc (.cells #[.slice A5 f.first.length a5, .slice B5 f.last.length c5, .int .i64 f.count, .int .i64 f.size, .int .u64 (f.num : Int), .int .i64 f.level] 66)) (w2.heap.size + 1) 6 (some ⟨w2.heap.size, 0, none⟩) 1 [.slice A5 f.first.length a5, .slice B5 f.last.length c5, .int .i64 f.count, .int .i64 f.size, .int .u64 (f.num : Int), .int .i64 f.level] := Reads.newN w2 _ 66
      have hrep : FEO.rep (w2.alloc (.cells #[.slice A5 f.first.length a5, .slice B5 f.last.length c5, .int .i64 f.count, .int .i64 f.size, .int .u64 (f.num : Int), .int .i64 f.level] 66)) (fun b => w.heap.size ≤ b ∧ (Value.slice R xs.length r).ownBlock ≠ some b) [.slice A5 f.first.length a5, .slice B5 f.last.length c5, .int .i64 f.count, .int .i64 f.size, .int .u64 (f.num : Int), .int .i64 f.level] f := ⟨A5, a5, B5, c5, rfl, OwnS.of (OwnB.below oA5 d3) (by omega) (fun g h1 _ => ⟨by omega, fun e => by have := (hXL.out g e).2; omega⟩), OwnS.of (OwnB.below oB5 d3) (by omega) (fun g h1 _ => ⟨by omega, fun e => by have := (hXL.out g e).2; omega⟩), hne, hwf⟩
      have hL1 : (xs.length + 1) * FEO.bytes ≤ 140737488355328 := by simp only [FEO]; omega
      have hL2 : xs.length + 1 ≤ maxLen := by simp only [maxLen]; omega
      have hW3 : w.heap.size ≤ (w2.alloc (.cells #[.slice A5 f.first.length a5, .slice B5 f.last.length c5, .int .i64 f.count, .int .i64 f.size, .int .u64 (f.num : Int), .int .i64 f.level] 66)).heap.size := by have := d3.size; omega
      go_wp2_with (at_builtin; refine wpList_appE FEO w.heap.size w _ rfl (.tmp 12) (.tmp 15) 66 28 rfl i2 _ Try.underlying28 hi2 hx0 hx1 hx2 rfl (fun b => w.heap.size ≤ b) R xs r (congrArg (fun m => Value.slice R m r) hxl.symm) oX3 _ [.slice A5 f.first.length a5, .slice B5 f.last.length c5, .int .i64 f.count, .int .i64 f.size, .int .u64 (f.num : Int), .int .i64 f.level] f 1 rfl _ hrd hrep hL1 hL2 b03 (Nat.le_refl _) hW3 ?_; intro R9 r9 xs9 w9 H9 o9 b9 g9 t9)
      have hx9 : xs9.length = n + 1 := by rw [H9.out, List.length_append, hxl]; rfl
      have HX9 : Hid (xs9 = fs.take (n + 1)) := by show _ = _; rw [HST.out, H9.out]
      rw [hx9] at o9
      go_roundw
      case rel => exact ⟨n + 1, xs9, R9, r9, by omega, by simp, by rw [hx9], HX9.out, o9, b9⟩
      case measure => simp [intOf]; omega
    · have hlt' : ¬ (n : Int) < (fs.length : Int) := by omega
      obtain rfl : n = fs.length := by omega
      have HE : Hid (xs = fs) := by show _ = _; rw [HXS.out, List.take_length]
      clear HXS
      go_wp2_with fail
      go_ret
      rw [hxl, HE.out] at oX
      exact ⟨R, r, rfl, oX, br⟩
set_option maxRecDepth 100000 in
set_option maxHeartbeats 8000000 in
theorem ifunc_none (A : Option Addr) (a : Nat) (fn : Value) (w : World) : Calls Try.prog 35 #[.slice A 0 a, fn] w (fun en w' => en = .returned (.int .i64 (-1)) ∧ w' = w) := by
  go_enter Try.func35, Try.ntmps35
  go_wp2_with fail
  go_loopw [5, 8] (fun _ i wr => i = .int .i64 0 ∧ wr = w) (fun _ _ _ => 0)
  case atStart => exact ⟨rfl, rfl⟩
  case round =>
    obtain ⟨rfl, rfl⟩ := hrel
    go_wp2_with fail
    go_ret
    exact ⟨rfl, rfl⟩
set_option maxRecDepth 100000 in
set_option maxHeartbeats 8000000 in
theorem contains_none (A : Option Addr) (a : Nat) (fn : Value) (w : World) : Calls Try.prog 38 #[.slice A 0 a, fn] w (fun en w' => en = .returned (.bool false) ∧ w' = w) := by
  have T := ifunc_none A a fn w
  go_enter Try.func38, Try.ntmps38
  go_wp2_with fail
  refine T.mono ?_
  rintro en w2 ⟨rfl, rfl⟩
  go_wp2_with fail
  go_ret
  exact ⟨rfl, rfl⟩
set_option maxRecDepth 100000 in
set_option maxHeartbeats 8000000 in
theorem isort_one (A : Option Addr) (m a : Nat) (fn : Value) (w : World) (hm : m ≤ 1) : Calls Try.prog 72 #[.slice A m a, .int .i64 0, .int .i64 (m : Int), fn] w (fun en w' => en = .returned (.tuple #[]) ∧ w' = w) := by
  have h0 : ¬ (1 : Int) < (m : Int) := by omega
  go_enter Try.func72, Try.ntmps72
  go_wp2_with fail
  go_loopw [8, 9] (fun i _ wr => i = .int .i64 1 ∧ wr = w) (fun _ _ _ => 0)
  case atStart => exact ⟨rfl, rfl⟩
  case round =>
    obtain ⟨rfl, rfl⟩ := hrel
    go_wp2_with fail
    exact bodyEnd0 rfl rfl ⟨rfl, rfl⟩
set_option maxRecDepth 100000 in
set_option maxHeartbeats 8000000 in
theorem stable_one (A : Option Addr) (m a : Nat) (fn : Value) (w : World) (hm : m ≤ 1) : Calls Try.prog 63 #[.slice A m a, .int .i64 (m : Int), fn] w (fun en w' => en = .returned (.tuple #[]) ∧ w' = w) := by
  have h0 : ¬ (20 : Int) ≤ (m : Int) := by omega
  have h1 : ¬ (20 : Int) < (m : Int) := by omega
  have T := isort_one A m a fn w hm
  go_enter Try.func63, Try.ntmps63
  go_wp2_with fail
  go_loopw [7, 8] (fun i j wr => i = .int .i64 0 ∧ j = .int .i64 20 ∧ wr = w) (fun _ _ _ => 0)
  case atStart => exact ⟨rfl, rfl, rfl⟩
  case round =>
    obtain ⟨rfl, rfl, rfl⟩ := hrel
    go_wp2_with fail
    refine T.mono ?_
    rintro en w2 ⟨rfl, rfl⟩
    go_wp2_with fail
    go_loopw [6, 7, 8, 9] (fun i _ _ _ wr => i = .int .i64 20 ∧ wr = w2) (fun _ _ _ _ _ => 0)
    case atStart => exact ⟨rfl, rfl⟩
    case round =>
      obtain ⟨rfl, rfl⟩ := hrel
      go_wp2_with fail
      exact bodyEnd0 rfl rfl ⟨rfl, rfl⟩
set_option maxRecDepth 100000 in
set_option maxHeartbeats 8000000 in
theorem sort_one (A : Option Addr) (m a : Nat) (fn : Value) (w : World) (hm : m ≤ 1) : Calls Try.prog 41 #[.slice A m a, fn] w (fun en w' => en = .returned (.tuple #[]) ∧ w' = w) := by
  have T := stable_one A m a fn w hm
  go_enter Try.func41, Try.ntmps41
  go_wp2_with fail
  refine T.mono ?_
  rintro en w2 ⟨rfl, rfl⟩
  go_wp2_with fail
  exact bodyEnd0 rfl rfl ⟨rfl, rfl⟩
end Go.Proofs.Ytmgibpedclngpaa
