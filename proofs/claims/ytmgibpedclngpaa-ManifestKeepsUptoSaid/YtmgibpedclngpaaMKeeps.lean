/- The walk of ManifestKeeps. (Printed by wip/gen_mkeeps.py.) -/
import Derived.Test.YtmgibpedclngpaaMAwake
import Derived.Test.YtmgibpedclngpaaMDecO
import Derived.Test.YtmgibpedclngpaaMEnc
import Derived.Test.YtmgibpedclngpaaMBack
import Derived.Test.YtmgibpedclngpaaSepM
namespace Go.Proofs.Ytmgibpedclngpaa
open Go.RowKit

theorem OwnS.own {w : World} {S : Nat → Prop} {B : Nat} {A : Option Addr} {l : List UInt8} {c : Nat} (h : OwnS w S A l c) (hs : ∀ b, S b → B ≤ b) : OwnB B w A l c := by
  refine ⟨h.1.1, ?_⟩
  rcases h.1.2 with h4 | ⟨g, cap, cur, e1, e2, e3, e4⟩
  · exact .inl h4
  · exact .inr ⟨g, cap, cur, e1, hs g (h.2.1 g (by rw [e1]; rfl)), e3, e4⟩
theorem FEO.at_ {w : World} {S : Nat → Prop} {t : TypeId} {B c : Nat} {A : Option Addr} {f : LFile} (h : Own FEO t w B S (.slice A 1 c) [f]) :
    ∃ ad P p Q q, A = some ad ∧ ad.block < w.heap.size ∧ w.cell? ad = some (.slice P f.first.length p) ∧ w.cell? ⟨ad.block, ad.off + 1, none⟩ = some (.slice Q f.last.length q) ∧ OwnS w S P f.first p ∧ OwnS w S Q f.last q ∧ (∀ b, (Value.slice P f.first.length p).ownBlock = some b → (Value.slice Q f.last.length q).ownBlock ≠ some b) := by
  obtain ⟨vs, ho, hf⟩ := h
  obtain ⟨v, ⟨P, p, Q, q, hv, h1, h2, h3, h4⟩, hc⟩ := ER.flat_at hf (i := 0) (by show 0 < 1; decide)
  have hrd : Reads w w.heap.size 6 A 1 vs := Reads.of_own (A := A) (xs := vs) ho
  obtain ⟨ad, e2, hb2, hc2⟩ := hrd.2 (by decide)
  subst e2
  obtain ⟨g, e, _, _⟩ := Own.form (E := FEO) (t := t) (B := B) (S := S) (w := w) (c := c) (A := some ad) (xs := [f]) ⟨vs, ho, hf⟩ (by show 0 < 1; decide)
  cases e
  have h5 := hc2 0 (.slice P f.first.length p) (hc 0 _ (by rw [hv]; rfl))
  have h6 := hc2 1 (.slice Q f.last.length q) (hc 1 _ (by rw [hv]; rfl))
  rw [add_row] at h5 h6
  exact ⟨_, P, p, Q, q, rfl, hb2, h5, h6, h1.mono (fun b _ hb => hb.1), h2.mono (fun b _ hb => hb.1), h3⟩
theorem FEO.sep {w : World} {S : Nat → Prop} {b0 : Nat} {P Q : Option Addr} {x y : List UInt8} {p q : Nat} (h1 : OwnS w S P x p) (h2 : OwnS w S Q y q) (h3 : ∀ b, (Value.slice P x.length p).ownBlock = some b → (Value.slice Q y.length q).ownBlock ≠ some b) (hs : ∀ b, S b → b0 ≤ b) : Sep b0 w [(P, x, p), (Q, y, q)] :=
  ⟨fun r hr => by
    rcases List.mem_cons.1 hr with rfl | hr
    · exact h1.own hs
    · rw [List.mem_singleton.1 hr]; exact h2.own hs, List.pairwise_cons.2 ⟨fun s hs2 g hg => by rw [List.mem_singleton.1 hs2]; exact h3 g hg, List.pairwise_singleton _ _⟩⟩
theorem spare_own {w : World} {g b : Nat} {l : List UInt8} (h : Blk w g 5 ((spL l).map bval).toArray) (hb : b ≤ g) (hl : l.length ≤ 1048576) : OwnB b w (some ⟨g, 0, none⟩) (spL l) (l.length + 40) := by
  have h1 := spL_length l
  have := own_of_blk (base := b) (xs := (spL l).map bval) h hb (by rw [List.length_map, h1]; simp only [maxLen]; omega)
  rw [List.length_map, h1] at this
  show w.ownsRow b 5 1 (.slice (some ⟨g, 0, none⟩) (spL l).length (l.length + 40)) (spL l).length ((spL l).map bval)
  rw [h1]
  exact this
theorem perm9 (a b c d e f g h i : R3) : List.Perm (((([a, b] ++ [c, d]) ++ [e]) ++ [f, g]) ++ [h, i]) ([a, b, e, f, g] ++ [c, d, h, i]) := List.Perm.cons _ (List.Perm.cons _ (List.perm_append_comm_assoc [c, d] [e, f, g] [h, i]))
theorem step_appR (b : Nat) (w0 w : World) {ops : Array Oper} {o : Oper} {a : Act} {K : Act → World → Prop} {Q : Exit → Act → World → Prop} {E : Prop} (hgd : o.guard = none) (s x : Operand)
    (ho : o.op = .call { callee := .builtin .append, args := #[s, x], argTypes := #[67, 67] })
    (A : Option Addr) (rs : List R3) (c : Nat) (hs : a.eval s = .slice A rs.length c) (hown : RowsIs b w A c rs)
    (B : Option Addr) (ys : List R3) (d : Nat) (hx : a.eval x = .slice B ys.length d) (Bd : Nat) (hr : Reads w Bd 1 B ys.length (ys.map R3.v)) (hl : rs.length + ys.length ≤ 1000) (hb : Below w0.heap.size w0 w) (hb0 : w0.heap.size ≤ b) (hbw : b ≤ w.heap.size)
    (h : ∀ A' c' rs' w', Hid (rs' = rs ++ ys) → RowsIs b w' A' c' rs' → Below w0.heap.size w0 w' → w.grownBy w' (Value.slice A rs.length c).ownBlock → K (a.put o.dst (.slice A' rs'.length c')) w') :
    if Region.wanted o (yielded ops a.tmps) = true then Oper.wp Try.prog o a w K Q else E := by
  obtain ⟨i0, hi0, hz0, hz1, hz2⟩ := info_parts Try.infoBs
  refine step_append_sh w hgd s x _ ho b 49 i0 _ 1 24 Try.underlying67 hi0 hz0 hz1 hz2 rfl (by omega) _ _ _ hs hown Bd B ys.length d (ys.map R3.v) hx hr (fun u hu => by obtain ⟨r, _, rfl⟩ := List.mem_map.1 hu; rfl) (by simp only [maxLen]; omega) (by omega) hbw ?_
  intro A' c' w' o' g' _
  have e : rs.length + ys.length = (rs ++ ys).length := by rw [List.length_append]
  rw [e, ← List.map_append] at o'
  rw [e]
  exact h A' c' (rs ++ ys) w' rfl o' (hb.grown g' hb.size fun j hj => by have := (World.ownsRow.lt hown j hj).1; omega) g'
def fK (x y : List UInt8) : LFile := ⟨1, 0, x, y, 0, 0⟩
theorem fK_wf (x y : List UInt8) : (fK x y).wf := ⟨by show (1 : Nat) < 18446744073709551616; decide, by show (-9223372036854775808 : Int) ≤ 0 ∧ (0 : Int) < 9223372036854775808; decide, by show (-9223372036854775808 : Int) ≤ 0 ∧ (0 : Int) < 9223372036854775808; decide, by show (-9223372036854775808 : Int) ≤ 0 ∧ (0 : Int) < 9223372036854775808; decide⟩
def eK (x y : List UInt8) : LEdit := ⟨false, [fK x y], [], 2⟩
/-- what the first Apply answers, in one word -/
theorem RetApply.one {x y : List UInt8} {w : World} {en : Ending} {w' : World} (h : RetApply ([] ++ [fK x y]) 2 2 w en w') :
    ∃ (xs : List LFile) (R : Option Addr) (r nx sq : Nat) (ec : Int) (rsV : List R3), en = .returned (.tuple #[.agg #[.slice R xs.length r, .int .u64 (nx : Int), .int .u64 (sq : Int)], .int .i64 ec]) ∧ Own FEO 66 w' w.heap.size (fun b => w.heap.size ≤ b) (.slice R xs.length r) xs ∧ Sep w.heap.size w' rsV ∧ Below w.heap.size w w' ∧ (ec = 0 ∨ ec = 3) ∧ (ec ≠ 0 → rsV = []) ∧
      (ec = 0 → xs = [fK x y] ∧ nx = 2 ∧ sq = 2 ∧ right1 [fK x y] 2 = true ∧ ∃ ad P p Q q, R = some ad ∧ ad.block < w'.heap.size ∧ w'.cell? ad = some (.slice P x.length p) ∧ w'.cell? ⟨ad.block, ad.off + 1, none⟩ = some (.slice Q y.length q) ∧ rsV = [(P, x, p), (Q, y, q)]) := by
  obtain ⟨hb, h⟩ := h
  rcases h with ⟨hr, R, r, rfl, oX⟩ | ⟨_, rfl⟩
  · obtain ⟨ad, P, p, Q, q, rfl, hab, c0, c1, h1, h2, h3⟩ := FEO.at_ oX
    exact ⟨[fK x y], some ad, r, 2, 2, 0, [(P, x, p), (Q, y, q)], rfl, oX, FEO.sep h1 h2 h3 (fun b hb => hb), hb, .inl rfl, fun h => absurd rfl h, fun _ => ⟨rfl, rfl, rfl, hr, ad, P, p, Q, q, rfl, hab, c0, c1, rfl⟩⟩
  · exact ⟨[], none, 0, 0, 0, 3, [], rfl, Own.nil_ _ _ _ _ _, Sep.nil_ _ _, hb, .inr rfl, fun _ => rfl, fun h => absurd h (by decide)⟩
theorem editK_parts {x y : List UInt8} (h : (fileL (fK x y)).length ≤ 44 + 2 * x.length + 2 * y.length) (hl : x.length + y.length ≤ 4194304) : ∀ l ∈ headL (eK x y) :: dropL (eK x y).drop :: (eK x y).add.map fileL, l.length < 1099511627776 := by
  intro l hl2
  rcases List.mem_cons.mp hl2 with rfl | hl2
  · have := headL_len (e := eK x y) (by show (2 : Nat) < _; decide); omega
  rcases List.mem_cons.mp hl2 with rfl | hl2
  · show ([] : List UInt8).length < _; decide
  obtain ⟨f, hf, rfl⟩ := List.mem_map.mp hl2
  rw [List.mem_singleton.1 hf]
  omega
theorem editK_len {x y : List UInt8} (h : (fileL (fK x y)).length ≤ 44 + 2 * x.length + 2 * y.length) (hl : x.length + y.length ≤ 4194304) : (editL (eK x y)).length ≤ 100 + 2 * x.length + 2 * y.length := by
  have h1 := headL_len (e := eK x y) (by show (2 : Nat) < _; decide)
  have h2 := putU_len10 (show U64 (headL (eK x y)).length by unfold U64; omega)
  have h3 := putU_len10 (show U64 (fileL (fK x y)).length by unfold U64; omega)
  have h4 := putU_len10 (show U64 (dropL (eK x y).drop).length by show (0 : Nat) < _; decide)
  show ((putU (headL (eK x y)).length ++ headL (eK x y)) ++ ((putU (dropL (eK x y).drop).length ++ []) ++ ((putU (fileL (fK x y)).length ++ fileL (fK x y)) ++ []))).length ≤ _
  simp only [List.length_append, List.length_nil]
  omega

set_option maxRecDepth 100000 in
set_option maxHeartbeats 8000000 in
theorem mkeeps_any (e : LEdit) (A D : Option Addr) (a d : Nat) (x y : List UInt8) (X Y : Option Addr) (cx cy : Nat) (w : World) (hX : Bs w X x) (hY : Bs w Y y) (hx : x.length ≤ 1048576) (hy : y.length ≤ 1048576) : Calls Try.prog 5 #[.agg #[.bool e.reset, .slice A e.add.length a, .slice D e.drop.length d, .int .u64 (e.seq : Int)], .slice X x.length cx, .slice Y y.length cy] w (RetTrue w) := by
  have b1 : Below w.heap.size w (w.alloc (.cells #[.bool e.reset, .slice A e.add.length a, .slice D e.drop.length d, .int .u64 (e.seq : Int)] 35)) := (Below.refl _ _).alloc (Nat.le_refl _) _
  go_enter Try.func5, Try.ntmps5
  go_upto_region 1 with fail
  generalize Value.agg #[.bool e.reset, .slice A e.add.length a, .slice D e.drop.length d, .int .u64 (e.seq : Int)] = av
  generalize (w.alloc (.cells #[.bool e.reset, .slice A e.add.length a, .slice D e.drop.length d, .int .u64 (e.seq : Int)] 35)) = w1 at *
  have T := awake_any w1
  go_wp2_with fail
  refine T.mono ?_
  clear T
  rintro en w2 ⟨rfl, b2⟩
  have b02 := b1.trans (b2.mono b1.size)
  clear b1 b2
  have z02 := b02.size
  have hX2 := hX.below b02
  have hY2 := hY.below b02
  go_wp2_with fail
  refine (spare_any X x cx w2 hX2 (by omega)).mono ?_
  rintro en w3 ⟨rfl, kX3, b3⟩
  have hY3 := hY2.below b3
  have hX3 := hX2.below b3
  have b03 := b02.trans (b3.mono b02.size)
  have z23 := b3.size
  have lX := kX3.lt
  go_wp2_with fail
  refine (spare_any Y y cy w3 hY3 (by omega)).mono ?_
  rintro en w4 ⟨rfl, kY4, b4⟩
  have kX4 := kX3.below b4 kX3.lt
  have hX4 := hX3.below b4
  have hY4 := hY3.below b4
  have b04 := b03.trans (b4.mono b03.size)
  have z34 := b4.size
  have lY := kY4.lt
  have S4 : Sep w2.heap.size w4 [(some ⟨w2.heap.size, 0, none⟩, spL x, x.length + 40), (some ⟨w3.heap.size, 0, none⟩, spL y, y.length + 40)] := Sep.more (Sep.one (spare_own kX3 (Nat.le_refl _) hx)) b4 (Sep.one (spare_own kY4 (Nat.le_refl _) hy)) z23
  clear kX3 hX2 hY2 hX3 hY3 b02 b03 b3 b4
  have dF : Below w4.heap.size w4 (w4.alloc (.cells #[.slice (some ⟨w2.heap.size, 0, none⟩) x.length (x.length + 40), .slice (some ⟨w3.heap.size, 0, none⟩) y.length (y.length + 40), .int .i64 0, .int .i64 0, .int .u64 1, .int .i64 0] 66)) := (Below.refl _ _).alloc (Nat.le_refl _) _
  have dE : Below (w4.alloc (.cells #[.slice (some ⟨w2.heap.size, 0, none⟩) x.length (x.length + 40), .slice (some ⟨w3.heap.size, 0, none⟩) y.length (y.length + 40), .int .i64 0, .int .i64 0, .int .u64 1, .int .i64 0] 66)).heap.size (w4.alloc (.cells #[.slice (some ⟨w2.heap.size, 0, none⟩) x.length (x.length + 40), .slice (some ⟨w3.heap.size, 0, none⟩) y.length (y.length + 40), .int .i64 0, .int .i64 0, .int .u64 1, .int .i64 0] 66)) ((w4.alloc (.cells #[.slice (some ⟨w2.heap.size, 0, none⟩) x.length (x.length + 40), .slice (some ⟨w3.heap.size, 0, none⟩) y.length (y.length + 40), .int .i64 0, .int .i64 0, .int .u64 1, .int .i64 0] 66)).alloc (.cells #[.bool false, .slice (some ⟨w4.heap.size, 0, none⟩) 1 1, .slice none 0 0, .int .u64 2] 42)) := (Below.refl _ _).alloc (Nat.le_refl _) _
  have hszF : (w4.alloc (.cells #[.slice (some ⟨w2.heap.size, 0, none⟩) x.length (x.length + 40), .slice (some ⟨w3.heap.size, 0, none⟩) y.length (y.length + 40), .int .i64 0, .int .i64 0, .int .u64 1, .int .i64 0] 66)).heap.size = w4.heap.size + 1 := by simp
  have hF4 : Sl FE (w4.alloc (.cells #[.slice (some ⟨w2.heap.size, 0, none⟩) x.length (x.length + 40), .slice (some ⟨w3.heap.size, 0, none⟩) y.length (y.length + 40), .int .i64 0, .int .i64 0, .int .u64 1, .int .i64 0] 66)) (some ⟨w4.heap.size, 0, none⟩) [fK x y] := FE.one_ (vs := [.slice (some ⟨w2.heap.size, 0, none⟩) x.length (x.length + 40), .slice (some ⟨w3.heap.size, 0, none⟩) y.length (y.length + 40), .int .i64 0, .int .i64 0, .int .u64 1, .int .i64 0]) (by rw [hszF]; exact Reads.newN w4 _ _) ⟨some ⟨w2.heap.size, 0, none⟩, x.length + 40, some ⟨w3.heap.size, 0, none⟩, y.length + 40, rfl, ⟨bs_spare (l := x) (kX4.below dF kX4.lt) (by omega), At.any _ _, by show x.length ≤ x.length + 40; omega, by omega⟩, ⟨bs_spare (l := y) (kY4.below dF kY4.lt) (by omega), At.any _ _, by show y.length ≤ y.length + 40; omega, by omega⟩, fK_wf x y⟩
  have hF5 := hF4.below dE
  have kE5 : Blk ((w4.alloc (.cells #[.slice (some ⟨w2.heap.size, 0, none⟩) x.length (x.length + 40), .slice (some ⟨w3.heap.size, 0, none⟩) y.length (y.length + 40), .int .i64 0, .int .i64 0, .int .u64 1, .int .i64 0] 66)).alloc (.cells #[.bool false, .slice (some ⟨w4.heap.size, 0, none⟩) 1 1, .slice none 0 0, .int .u64 2] 42)) (w4.heap.size + 1) 42 #[.bool false, .slice (some ⟨w4.heap.size, 0, none⟩) 1 1, .slice none 0 0, .int .u64 2] := heap_alloc2_new w4 _ _
  have kX5 := (kX4.below dF kX4.lt).below dE (Nat.lt_of_lt_of_le kX4.lt dF.size)
  have kY5 := (kY4.below dF kY4.lt).below dE (Nat.lt_of_lt_of_le kY4.lt dF.size)
  have S5 := (S4.below dF).below dE
  have b05 := (b04.trans (dF.mono b04.size)).trans (dE.mono (Nat.le_trans b04.size dF.size))
  have z45 := Nat.le_trans dF.size dE.size
  have hX5 := (hX4.below dF).below dE
  have hY5 := (hY4.below dF).below dE
  clear kX4 kY4 S4 hF4 dF dE hszF b04 hX4 hY4
  go_upto_region 6 with fail
  generalize ((w4.alloc (.cells #[.slice (some ⟨w2.heap.size, 0, none⟩) x.length (x.length + 40), .slice (some ⟨w3.heap.size, 0, none⟩) y.length (y.length + 40), .int .i64 0, .int .i64 0, .int .u64 1, .int .i64 0] 66)).alloc (.cells #[.bool false, .slice (some ⟨w4.heap.size, 0, none⟩) 1 1, .slice none 0 0, .int .u64 2] 42)) = w5 at *
  have T := apply_one [] [fK x y] 0 0 2 none (some ⟨w4.heap.size, 0, none⟩) 0 1 w5 (SlS.nil_ _ _ _ _) hF5 (Nat.le_refl _) rfl (by intro f hf; rw [List.mem_singleton.1 hf]; show 1 < 18446744073709551615; decide) (Nat.zero_le _)
  rw [show nextA [fK x y] 0 = 2 from rfl] at T
  have lE5 := kE5.lt
  go_wp2_with ((with_reducible refine wpList_load_blk rfl 42 (.tmp 11) rfl (w4.heap.size + 1) ?_ 42 _ _ kE5 Try.underlying42 ?_ Try.size_MEdit ?_ ?_); rfl; rfl; rfl)
  refine T.mono ?_
  clear T
  rintro en w6 hra
  obtain ⟨xs, R, r, nx, sq, ec, rsV, rfl, oV, sV, b6, hec, hec1, hec0⟩ := RetApply.one hra
  clear hra
  have HEC := Lib.hid hec0
  have HEC1 := Lib.hid hec1
  clear hec0 hec1
  have S6 := Sep.more S5 b6 sV (by omega)
  have kE6 := kE5.below b6 lE5
  have kX6 := kX5.below b6 kX5.lt
  have kY6 := kY5.below b6 kY5.lt
  have hF6 := hF5.below b6
  have hX6 := hX5.below b6
  have hY6 := hY5.below b6
  have b06 := b05.trans (b6.mono b05.size)
  have z56 := b6.size
  clear S5 sV kE5 kX5 kY5 hF5 hX5 hY5 b05 b6
  try dsimp only
  have d7 : Below w6.heap.size w6 (w6.alloc (.cells #[.slice R xs.length r, .int .u64 (nx : Int), .int .u64 (sq : Int)] 30)) := (Below.refl _ _).alloc (Nat.le_refl _) _
  have kV7 := Blk.new w6 30 #[.slice R xs.length r, .int .u64 (nx : Int), .int .u64 (sq : Int)]
  have S7 := S6.below d7
  have oV7 := Own.below oV d7
  have kE7 := kE6.below d7 kE6.lt
  have kX7 := kX6.below d7 kX6.lt
  have kY7 := kY6.below d7 kY6.lt
  have hF7 := hF6.below d7
  have hX7 := hX6.below d7
  have hY7 := hY6.below d7
  have b07 := b06.trans (d7.mono b06.size)
  have z67 := d7.size
  have HB6 := Lib.hid d7
  clear S6 oV kE6 kX6 kY6 hF6 hX6 hY6 b06 d7
  go_upto_region 7 with fail
  generalize (w6.alloc (.cells #[.slice R xs.length r, .int .u64 (nx : Int), .int .u64 (sq : Int)] 30)) = w7 at *
  have hsm : (eK x y).sm := ⟨by show 1 ≤ 4000; decide, Nat.zero_le _, fun f hf => by rw [List.mem_singleton.1 hf]; exact ⟨by show x.length ≤ _; omega, by show y.length ≤ _; omega⟩⟩
  have hfw := fK_wf x y
  have hwf : (eK x y).wf := ⟨fun f hf => by rw [List.mem_singleton.1 hf]; exact hfw, fun n hn => (nomatch hn), by show (2 : Nat) < _; decide⟩
  have hfl := fileL_len hfw
  replace hfl : (fileL (fK x y)).length ≤ 44 + 2 * x.length + 2 * y.length := hfl
  have HDE := Lib.hid (decM_edit hwf (editK_parts hfl (by omega)))
  have HEL := Lib.hid (editK_len hfl (by omega))
  have T := mencode_any (eK x y) (some ⟨w4.heap.size, 0, none⟩) none 1 0 w7 hF7 (SlS.nil_ _ _ _ _) hwf.2.2 hsm
  clear hsm hwf hfw
  go_wp2_with ((with_reducible refine wpList_load_blk rfl 42 (.tmp 11) rfl (w4.heap.size + 1) ?_ 42 _ _ kE7 Try.underlying42 ?_ Try.size_MEdit ?_ ?_); rfl; rfl; rfl)
  refine T.mono ?_
  clear T
  rintro en w8 ⟨C, cc, rfl, oC0, b8⟩
  have oC : OwnB w7.heap.size w8 C (editL (eK x y)) cc := oC0
  have S8 := Sep.more S7 b8 (Sep.one oC) (by omega)
  have oV8 := Own.below oV7 b8
  have kV8 := kV7.below b8 kV7.lt
  have kX8 := kX7.below b8 kX7.lt
  have kY8 := kY7.below b8 kY7.lt
  have hX8 := hX7.below b8
  have hY8 := hY7.below b8
  have b08 := b07.trans (b8.mono b07.size)
  have z78 := b8.size
  have hC8 : Bs w8 C (editL (eK x y)) := OwnB.bs oC (by have := HEL.out; omega)
  have cC := OwnB.caps oC
  have HB7 := Lib.hid b8
  clear S7 oV7 kV7 kX7 kY7 hX7 hY7 b07 b8 oC0 oC kE7 hF7
  have T := mdecodeO_any C (editL (eK x y)) cc w8 hC8 cC (by have := HEL.out; omega)
  rw [HDE.out] at T
  go_wp2_with fail
  refine T.mono ?_
  clear T
  rintro en w9 ⟨A9, a9, D9, d9, rfl, oA9, _, _, b9⟩
  replace oA9 : Own FEO 66 w9 w8.heap.size (fun b => w8.heap.size ≤ b) (.slice A9 1 a9) [fK x y] := oA9
  obtain ⟨ad9, P9, p9, Q9, q9, rfl, hab9, c90, c91, hs1, hs2, hs3⟩ := FEO.at_ oA9
  replace c90 : w9.cell? ad9 = some (.slice P9 x.length p9) := c90
  replace c91 : w9.cell? ⟨ad9.block, ad9.off + 1, none⟩ = some (.slice Q9 y.length q9) := c91
  have S9 := Sep.more S8 b9 (FEO.sep hs1 hs2 hs3 (fun b hb => hb)) (by omega)
  replace S9 : Sep w2.heap.size w9 ((([(some ⟨w2.heap.size, 0, none⟩, spL x, x.length + 40), (some ⟨w3.heap.size, 0, none⟩, spL y, y.length + 40)] ++ rsV) ++ [(C, editL (eK x y), cc)]) ++ [(P9, x, p9), (Q9, y, q9)]) := S9
  have oV9 := Own.below oV8 b9
  have kV9 := kV8.below b9 kV8.lt
  have kX9 := kX8.below b9 kX8.lt
  have kY9 := kY8.below b9 kY8.lt
  have hX9 := hX8.below b9
  have hY9 := hY8.below b9
  have b09 := b08.trans (b9.mono b08.size)
  have z89 := b9.size
  have HB8 := Lib.hid b9
  clear S8 oV8 kV8 kX8 kY8 hX8 hY8 b08 b9 hC8 cC oA9 hs1 hs2 hs3
  try dsimp only
  have d10 : Below w9.heap.size w9 (w9.alloc (.cells #[.bool (eK x y).reset, .slice (some ad9) (eK x y).add.length a9, .slice D9 (eK x y).drop.length d9, .int .u64 ((eK x y).seq : Int)] 42)) := (Below.refl _ _).alloc (Nat.le_refl _) _
  have kB10 := Blk.new w9 42 #[.bool (eK x y).reset, .slice (some ad9) (eK x y).add.length a9, .slice D9 (eK x y).drop.length d9, .int .u64 ((eK x y).seq : Int)]
  have S10 := S9.below d10
  have oV10 := Own.below oV9 d10
  have kV10 := kV9.below d10 kV9.lt
  have kX10 := kX9.below d10 kX9.lt
  have kY10 := kY9.below d10 kY9.lt
  have hX10 := hX9.below d10
  have hY10 := hY9.below d10
  have c100 := (d10.cell hab9).trans c90
  have c101 := (d10.cell (p := ⟨ad9.block, ad9.off + 1, none⟩) hab9).trans c91
  have b010 := b09.trans (d10.mono b09.size)
  have z910 := d10.size
  have HB9 := Lib.hid d10
  clear S9 oV9 kV9 kX9 kY9 hX9 hY9 c90 c91 b09 d10
  go_upto_region 9 with fail
  generalize (w9.alloc (.cells #[.bool (eK x y).reset, .slice (some ad9) (eK x y).add.length a9, .slice D9 (eK x y).drop.length d9, .int .u64 ((eK x y).seq : Int)] 42)) = w10 at *
  have hfX := OwnB.bs (spare_own (b := 0) kX10 (Nat.zero_le _) hx) (by rw [spL_length]; omega)
  have hfY := OwnB.bs (spare_own (b := 0) kY10 (Nat.zero_le _) hy) (by rw [spL_length]; omega)
  go_wp2_with fail
  refine (kept_any (some ⟨w2.heap.size, 0, none⟩) X x (x.length + 40) cx w10 hfX hX10).mono ?_
  rintro en w11_ ⟨rfl, m1, rfl⟩
  have bn1 := below_drewN (Below.refl w10.heap.size w10) m1
  have hfY1 := hfY.below bn1
  have hY11 := hY10.below bn1
  go_wp2_with fail
  refine (kept_any (some ⟨w3.heap.size, 0, none⟩) Y y (y.length + 40) cy (w10.drewN m1) hfY1 hY11).mono ?_
  rintro en w12_ ⟨rfl, m2, rfl⟩
  have bn2 := below_drewN bn1 m2
  have S12 := S10.below bn2
  have oV12 := Own.below oV10 bn2
  have kV12 := kV10.below bn2 kV10.lt
  have kB12 := kB10.below bn2 kB10.lt
  have c120 := (bn2.cell (Nat.lt_of_lt_of_le hab9 z910)).trans c100
  have c121 := (bn2.cell (p := ⟨ad9.block, ad9.off + 1, none⟩) (Nat.lt_of_lt_of_le hab9 z910)).trans c101
  have b012 := b010.trans (bn2.mono b010.size)
  have z1012 := bn2.size
  have HB10 := Lib.hid bn2
  clear S10 oV10 kV10 kB10 kX10 kY10 hX10 hY10 c100 c101 b010 hfX hfY hfY1 hY11 bn1 bn2
  generalize (w10.drewN m1).drewN m2 = w12 at *
  have xB1 : w12.cell? ⟨w9.heap.size, 1, none⟩ = some (.slice (some ad9) 1 a9) := kB12.cell 1
  go_upto_region 11 with fail
  go_still_tail 15, (by kernel_rfl)
  clear xB1 c120 c121
  have bdr : Below w12.heap.size w12 w12.drew := (Below.refl _ _).drew
  have S12d := S12.below bdr
  have oV12d := Own.below oV12 bdr
  have kV12d := kV12.below bdr kV12.lt
  have b012d := b012.trans (bdr.mono b012.size)
  have z12d := bdr.size
  have HB12 := Lib.hid bdr
  clear S12 oV12 kV12 b012 bdr kB12
  change wpList _ _ _ _ _ w12.drew
  generalize w12.drew = wd at *
  have d13 : Below wd.heap.size wd (wd.alloc (.cells #[.slice (some ⟨w2.heap.size, 0, none⟩) (x.length + 40) (x.length + 40), .slice (some ⟨w3.heap.size, 0, none⟩) (y.length + 40) (y.length + 40), .slice C (editL (eK x y)).length cc, .slice P9 x.length p9, .slice Q9 y.length q9] 49)) := (Below.refl _ _).alloc (Nat.le_refl _) _
  have kL := Blk.new wd 49 #[.slice (some ⟨w2.heap.size, 0, none⟩) (x.length + 40) (x.length + 40), .slice (some ⟨w3.heap.size, 0, none⟩) (y.length + 40) (y.length + 40), .slice C (editL (eK x y)).length cc, .slice P9 x.length p9, .slice Q9 y.length q9]
  have S13 := S12d.below d13
  have oV13 := Own.below oV12d d13
  have kV13 := kV12d.below d13 kV12d.lt
  have b013 := b012d.trans (d13.mono b012d.size)
  have z13 := d13.size
  have HB13 := Lib.hid d13
  have HS12 := Lib.hid (Sep.lt S12d)
  clear S12d oV12d kV12d b012d d13
  obtain ⟨rs5, hrs5⟩ : ∃ rs5 : List R3, rs5 = [(some ⟨w2.heap.size, 0, none⟩, spL x, x.length + 40), (some ⟨w3.heap.size, 0, none⟩, spL y, y.length + 40), (C, editL (eK x y), cc), (P9, x, p9), (Q9, y, q9)] := ⟨_, rfl⟩
  have hrv : rs5.map R3.v = [.slice (some ⟨w2.heap.size, 0, none⟩) (x.length + 40) (x.length + 40), .slice (some ⟨w3.heap.size, 0, none⟩) (y.length + 40) (y.length + 40), .slice C (editL (eK x y)).length cc, .slice P9 x.length p9, .slice Q9 y.length q9] := by rw [hrs5]; simp only [List.map_cons, List.map_nil, R3.v, spL_length]
  have hrI : RowsIs (wd.heap.size) (wd.alloc (.cells #[.slice (some ⟨w2.heap.size, 0, none⟩) (x.length + 40) (x.length + 40), .slice (some ⟨w3.heap.size, 0, none⟩) (y.length + 40) (y.length + 40), .slice C (editL (eK x y)).length cc, .slice P9 x.length p9, .slice Q9 y.length q9] 49)) (some ⟨wd.heap.size, 0, none⟩) 5 rs5 := by
    have h := own_of_blk (base := wd.heap.size) (xs := [.slice (some ⟨w2.heap.size, 0, none⟩) (x.length + 40) (x.length + 40), .slice (some ⟨w3.heap.size, 0, none⟩) (y.length + 40) (y.length + 40), .slice C (editL (eK x y)).length cc, .slice P9 x.length p9, .slice Q9 y.length q9]) kL (Nat.le_refl _) (by show 5 ≤ maxLen; decide)
    unfold RowsIs
    rw [hrv, show rs5.length = 5 by rw [hrs5]; rfl]
    exact h
  have hl5 : rs5.length = 5 := by rw [hrs5]; rfl
  have lL := kL.lt
  have HRS5 := Lib.hid hrs5
  clear hrs5 hrv kL
  go_upto_region 12 with fail
  generalize (wd.alloc (.cells #[.slice (some ⟨w2.heap.size, 0, none⟩) (x.length + 40) (x.length + 40), .slice (some ⟨w3.heap.size, 0, none⟩) (y.length + 40) (y.length + 40), .slice C (editL (eK x y)).length cc, .slice P9 x.length p9, .slice Q9 y.length q9] 49)) = w13 at *
  have hn5 : ∀ rr ∈ rs5, rr.2.1.length ≤ 140737488355000 := by
    have he := HEL.out
    have hsx := spL_length x
    have hsy := spL_length y
    intro rr hrr
    rw [HRS5.out] at hrr
    simp only [List.mem_cons, List.not_mem_nil, or_false] at hrr
    rcases hrr with rfl | rfl | rfl | rfl | rfl
    · show (spL x).length ≤ _; omega
    · show (spL y).length ≤ _; omega
    · show (editL (eK x y)).length ≤ _; omega
    · show x.length ≤ _; omega
    · show y.length ≤ _; omega
  by_cases he0 : ec = 0
  case neg =>
    have d0 : (ec == 0) = false := by rw [beq_eq_false_iff_ne]; exact he0
    have hrs := HEC1.out he0
    subst hrs
    have hS : Sep w2.heap.size w13 rs5 := by rw [HRS5.out]; exact S13
    have T := apart_sep wd.heap.size w2.heap.size w13 _ 5 rs5 hrI hS (by omega) (by omega) hn5 (by omega)
    rw [hl5] at T
    clear HEC HEC1 he0 hec HRS5 HDE HEL hrI hn5
    go_wp2_with fail
    refine T.mono ?_
    rintro en w14 ⟨rfl, b14⟩
    go_wp2_with fail
    go_ret
    exact ⟨rfl, b013.trans (b14.mono z02)⟩
  case pos =>
    have d0 : (ec == 0) = true := by rw [beq_iff_eq]; exact he0
    obtain ⟨rfl, rfl, rfl, hr1, ad, P, pp, Q, qq, rfl, hab, c0, c1, rfl⟩ := HEC.out he0
    subst he0
    have b613 := (((((HB6.out.trans (HB7.out.mono (by omega))).trans (HB8.out.mono (by omega))).trans (HB9.out.mono (by omega))).trans (HB10.out.mono (by omega))).trans (HB12.out.mono (by omega))).trans (HB13.out.mono (by omega))
    have c130 := (b613.cell hab).trans c0
    have c131 := (b613.cell (p := ⟨ad.block, ad.off + 1, none⟩) hab).trans c1
    have b913 := ((HB9.out.trans (HB10.out.mono (by omega))).trans (HB12.out.mono (by omega))).trans (HB13.out.mono (by omega))
    have hS5 : Sep w2.heap.size w13 (((([(some ⟨w2.heap.size, 0, none⟩, spL x, x.length + 40), (some ⟨w3.heap.size, 0, none⟩, spL y, y.length + 40)] ++ [(P, x, pp), (Q, y, qq)]) ++ [(C, editL (eK x y), cc)]) ++ [(P9, x, p9), (Q9, y, q9)])) := S13
    clear HEC HEC1 hec c0 c1 HDE HB6 HB7 HB8 HB9 HB10 HB12 HB13 S13
    have hab13 := Nat.lt_of_lt_of_le hab b613.size
    have hSl := Own.sl (Own.fe oV13) (by show 1 * 80 ≤ 140737488351232; decide)
    have T := apply_one [fK x y] [] 2 2 3 (some ad) none r 0 w13 hSl (SlS.nil_ _ _ _ _) (Nat.le_refl _) hr1 (by intro f hf; nomatch hf) (by decide)
    rw [show nextA [] 2 = 2 from rfl] at T
    go_wp2_with ((with_reducible refine wpList_load_blk rfl 30 (.tmp 12) rfl w6.heap.size ?_ 30 _ _ kV13 Try.underlying30 ?_ Try.size_MVer ?_ ?_); rfl; rfl; rfl)
    refine T.mono ?_
    clear T
    rintro en w14 ⟨b14, hor⟩
    rcases hor with ⟨_, R2, r2, rfl, oU⟩ | ⟨hf, _⟩
    case inr =>
      rw [show [fK x y] ++ [] = [fK x y] from rfl, hr1] at hf
      cases hf
    replace oU : Own FEO 66 w14 w13.heap.size (fun b => w13.heap.size ≤ b) (.slice R2 1 r2) [fK x y] := oU
    obtain ⟨adU, P2, p2, Q2, q2, rfl, habU, cU0, cU1, hu1, hu2, hu3⟩ := FEO.at_ oU
    replace cU0 : w14.cell? adU = some (.slice P2 x.length p2) := cU0
    replace cU1 : w14.cell? ⟨adU.block, adU.off + 1, none⟩ = some (.slice Q2 y.length q2) := cU1
    have SU := FEO.sep (b0 := w13.heap.size) hu1 hu2 hu3 (fun b hb => hb)
    have HSU := Lib.hid (Sep.lt SU)
    have S14 := Sep.more hS5 b14 SU (by omega)
    have kV14 := kV13.below b14 kV13.lt
    have c140 := (b14.cell hab13).trans c130
    have c141 := (b14.cell (p := ⟨ad.block, ad.off + 1, none⟩) hab13).trans c131
    have hrI14 : RowsIs wd.heap.size w14 (some ⟨wd.heap.size, 0, none⟩) 5 rs5 := own_below hrI b14
    have b014 := b013.trans (b14.mono (by omega))
    have z1314 := b14.size
    clear hS5 kV13 c130 c131 hrI b013 b14 hu1 hu2 hu3 SU oU oV13 b613 b913 hSl
    try dsimp only
    have d15 : Below w14.heap.size w14 (w14.alloc (.cells #[.slice (some adU) 1 r2, .int .u64 2, .int .u64 3] 30)) := (Below.refl _ _).alloc (Nat.le_refl _) _
    have kU := Blk.new w14 30 #[.slice (some adU) 1 r2, .int .u64 2, .int .u64 3]
    have S15 := S14.below d15
    have kV15 := kV14.below d15 kV14.lt
    have c150 := (d15.cell (Nat.lt_of_lt_of_le hab13 z1314)).trans c140
    have c151 := (d15.cell (p := ⟨ad.block, ad.off + 1, none⟩) (Nat.lt_of_lt_of_le hab13 z1314)).trans c141
    have e150 := (d15.cell habU).trans cU0
    have e151 := (d15.cell (p := ⟨adU.block, adU.off + 1, none⟩) habU).trans cU1
    have hrI15 : RowsIs wd.heap.size (w14.alloc (.cells #[.slice (some adU) 1 r2, .int .u64 2, .int .u64 3] 30)) (some ⟨wd.heap.size, 0, none⟩) 5 rs5 := own_below hrI14 d15
    have b015 := b014.trans (d15.mono (by omega))
    have z1415 := d15.size
    clear S14 kV14 c140 c141 cU0 cU1 hrI14 b014 d15
    go_upto_region 14 with fail
    generalize (w14.alloc (.cells #[.slice (some adU) 1 r2, .int .u64 2, .int .u64 3] 30)) = w15 at *
    have xV : w15.cell? ⟨w6.heap.size, 0, none⟩ = some (.slice (some ad) 1 r) := kV15.cell 0
    have xU : w15.cell? ⟨w14.heap.size, 0, none⟩ = some (.slice (some adU) 1 r2) := kU.cell 0
    go_upto_region 16 with fail
    refine wp_region_noPanic ?_
    have hS : ∀ X, Below w15.heap.size w15 X → X.cell? ⟨w6.heap.size, 0, none⟩ = some (.slice (some ad) 1 r) ∧ X.cell? ⟨w14.heap.size, 0, none⟩ = some (.slice (some adU) 1 r2) ∧ X.cell? ad = some (.slice P x.length pp) ∧ X.cell? ⟨ad.block, ad.off + 1, none⟩ = some (.slice Q y.length qq) ∧ X.cell? adU = some (.slice P2 x.length p2) ∧ X.cell? ⟨adU.block, adU.off + 1, none⟩ = some (.slice Q2 y.length q2) := fun X h => ⟨(h.cell (p := ⟨w6.heap.size, 0, none⟩) (by show w6.heap.size < _; omega)).trans xV, (h.cell (p := ⟨w14.heap.size, 0, none⟩) kU.lt).trans xU, (h.cell (by omega)).trans c150, (h.cell (p := ⟨ad.block, ad.off + 1, none⟩) (by show ad.block < _; omega)).trans c151, (h.cell (by omega)).trans e150, (h.cell (p := ⟨adU.block, adU.off + 1, none⟩) (by show adU.block < _; omega)).trans e151⟩
    have HS := Lib.hid hS
    have bdr : Below w15.heap.size w15 w15.drew := (Below.refl _ _).drew
    refine wp_region_heldK (fun X => X.cell? ⟨w6.heap.size, 0, none⟩ = some (.slice (some ad) 1 r) ∧ X.cell? ⟨w14.heap.size, 0, none⟩ = some (.slice (some adU) 1 r2) ∧ X.cell? ad = some (.slice P x.length pp) ∧ X.cell? ⟨ad.block, ad.off + 1, none⟩ = some (.slice Q y.length qq) ∧ X.cell? adU = some (.slice P2 x.length p2) ∧ X.cell? ⟨adU.block, adU.off + 1, none⟩ = some (.slice Q2 y.length q2)) 26 (by kernel_rfl) (HS.out _ bdr) (fun hH => ?_)
    clear hS xV xU c150 c151 e150 e151 kV15 kU
    have Sd := S15.below bdr
    have hrId : RowsIs wd.heap.size w15.drew (some ⟨wd.heap.size, 0, none⟩) 5 rs5 := own_below hrI15 bdr
    have b0d := b015.trans (bdr.mono (by omega))
    have zd := bdr.size
    clear S15 hrI15 b015
    generalize w15.drew = we at *
    refine wpAnyK_takeY (i := 0) (v := ?_) rfl (by kernel_rfl) (by kernel_rfl) (by kernel_rfl) (by kernel_rfl) (fun _ _ _ h => h) (Or.inl ⟨by rfl, ?_⟩) hH ?_
    case refine_2 => intro w; go_simp; try with_reducible rfl
    try simp only [List.getElem_toArray, List.getElem_cons_zero, Act.put, List.setIfInBounds_toArray, List.set_cons_zero, List.set_cons_succ]
    refine wpAnyK_takeY (i := 1) (v := ?_) rfl (by kernel_rfl) (by kernel_rfl) (by kernel_rfl) (by kernel_rfl) (fun _ _ _ h => h) (Or.inl ⟨by rfl, ?_⟩) hH ?_
    case refine_2 => intro w; go_simp; try with_reducible rfl
    try simp only [List.getElem_toArray, List.getElem_cons_succ, List.getElem_cons_zero, Act.put, List.setIfInBounds_toArray, List.set_cons_zero, List.set_cons_succ]
    refine wpAnyK_take (i := 2) (v := ?_) rfl (by kernel_rfl) (by kernel_rfl) (by kernel_rfl) (by kernel_rfl) (fun _ _ _ h => h) (Or.inl ⟨by rfl, ?_⟩) hH ?_
    case refine_2 => intro w hSw; obtain ⟨s0, s1, s2, s3, s4, s5⟩ := hSw; go_simp; try with_reducible rfl
    try simp only [List.getElem_toArray, List.getElem_cons_succ, List.getElem_cons_zero, Act.put, List.setIfInBounds_toArray, List.set_cons_zero, List.set_cons_succ]
    refine wpAnyK_takeY (i := 3) (v := ?_) rfl (by kernel_rfl) (by kernel_rfl) (by kernel_rfl) (by kernel_rfl) (fun _ _ _ h => h) (Or.inl ⟨by rfl, ?_⟩) hH ?_
    case refine_2 => intro w; go_simp; try with_reducible rfl
    try simp only [List.getElem_toArray, List.getElem_cons_succ, List.getElem_cons_zero, Act.put, List.setIfInBounds_toArray, List.set_cons_zero, List.set_cons_succ]
    refine wpAnyK_takeY (i := 4) (v := ?_) rfl (by kernel_rfl) (by kernel_rfl) (by kernel_rfl) (by kernel_rfl) (fun _ _ _ h => h) (Or.inl ⟨by rfl, ?_⟩) hH ?_
    case refine_2 => intro w; go_simp; try with_reducible rfl
    try simp only [List.getElem_toArray, List.getElem_cons_succ, List.getElem_cons_zero, Act.put, List.setIfInBounds_toArray, List.set_cons_zero, List.set_cons_succ]
    refine wpAnyK_takeY (i := 5) (v := ?_) rfl (by kernel_rfl) (by kernel_rfl) (by kernel_rfl) (by kernel_rfl) (fun _ _ _ h => h) (Or.inl ⟨by rfl, ?_⟩) hH ?_
    case refine_2 => intro w; go_simp; try with_reducible rfl
    try simp only [List.getElem_toArray, List.getElem_cons_succ, List.getElem_cons_zero, Act.put, List.setIfInBounds_toArray, List.set_cons_zero, List.set_cons_succ]
    refine wpAnyK_take (i := 6) (v := ?_) rfl (by kernel_rfl) (by kernel_rfl) (by kernel_rfl) (by kernel_rfl) (fun _ _ _ h => h) (Or.inl ⟨by rfl, ?_⟩) hH ?_
    case refine_2 => intro w hSw; obtain ⟨s0, s1, s2, s3, s4, s5⟩ := hSw; go_simp; try with_reducible rfl
    try simp only [List.getElem_toArray, List.getElem_cons_succ, List.getElem_cons_zero, Act.put, List.setIfInBounds_toArray, List.set_cons_zero, List.set_cons_succ]
    refine wpAnyK_takeY (i := 7) (v := ?_) rfl (by kernel_rfl) (by kernel_rfl) (by kernel_rfl) (by kernel_rfl) (fun _ _ _ h => h) (Or.inl ⟨by rfl, ?_⟩) hH ?_
    case refine_2 => intro w; go_simp; try with_reducible rfl
    try simp only [List.getElem_toArray, List.getElem_cons_succ, List.getElem_cons_zero, Act.put, List.setIfInBounds_toArray, List.set_cons_zero, List.set_cons_succ]
    refine wpAnyK_take (i := 8) (v := ?_) rfl (by kernel_rfl) (by kernel_rfl) (by kernel_rfl) (by kernel_rfl) (fun _ _ _ h => h) (Or.inl ⟨by rfl, ?_⟩) hH ?_
    case refine_2 => intro w hSw; obtain ⟨s0, s1, s2, s3, s4, s5⟩ := hSw; go_simp; try with_reducible rfl
    try simp only [List.getElem_toArray, List.getElem_cons_succ, List.getElem_cons_zero, Act.put, List.setIfInBounds_toArray, List.set_cons_zero, List.set_cons_succ]
    refine wpAnyK_takeY (i := 9) (v := ?_) rfl (by kernel_rfl) (by kernel_rfl) (by kernel_rfl) (by kernel_rfl) (fun _ _ _ h => h) (Or.inl ⟨by rfl, ?_⟩) hH ?_
    case refine_2 => intro w; go_simp; try with_reducible rfl
    try simp only [List.getElem_toArray, List.getElem_cons_succ, List.getElem_cons_zero, Act.put, List.setIfInBounds_toArray, List.set_cons_zero, List.set_cons_succ]
    refine wpAnyK_takeY (i := 10) (v := ?_) rfl (by kernel_rfl) (by kernel_rfl) (by kernel_rfl) (by kernel_rfl) (fun _ _ _ h => h) (Or.inl ⟨by rfl, ?_⟩) hH ?_
    case refine_2 => intro w; go_simp; try with_reducible rfl
    try simp only [List.getElem_toArray, List.getElem_cons_succ, List.getElem_cons_zero, Act.put, List.setIfInBounds_toArray, List.set_cons_zero, List.set_cons_succ]
    refine wpAnyK_takeY (i := 11) (v := ?_) rfl (by kernel_rfl) (by kernel_rfl) (by kernel_rfl) (by kernel_rfl) (fun _ _ _ h => h) (Or.inl ⟨by rfl, ?_⟩) hH ?_
    case refine_2 => intro w; go_simp; try with_reducible rfl
    try simp only [List.getElem_toArray, List.getElem_cons_succ, List.getElem_cons_zero, Act.put, List.setIfInBounds_toArray, List.set_cons_zero, List.set_cons_succ]
    refine wpAnyK_take (i := 12) (v := ?_) rfl (by kernel_rfl) (by kernel_rfl) (by kernel_rfl) (by kernel_rfl) (fun _ _ _ h => h) (Or.inl ⟨by rfl, ?_⟩) hH ?_
    case refine_2 => intro w hSw; obtain ⟨s0, s1, s2, s3, s4, s5⟩ := hSw; go_simp; try with_reducible rfl
    try simp only [List.getElem_toArray, List.getElem_cons_succ, List.getElem_cons_zero, Act.put, List.setIfInBounds_toArray, List.set_cons_zero, List.set_cons_succ]
    refine wpAnyK_takeY (i := 13) (v := ?_) rfl (by kernel_rfl) (by kernel_rfl) (by kernel_rfl) (by kernel_rfl) (fun _ _ _ h => h) (Or.inl ⟨by rfl, ?_⟩) hH ?_
    case refine_2 => intro w; go_simp; try with_reducible rfl
    try simp only [List.getElem_toArray, List.getElem_cons_succ, List.getElem_cons_zero, Act.put, List.setIfInBounds_toArray, List.set_cons_zero, List.set_cons_succ]
    refine wpAnyK_take (i := 14) (v := ?_) rfl (by kernel_rfl) (by kernel_rfl) (by kernel_rfl) (by kernel_rfl) (fun _ _ _ h => h) (Or.inl ⟨by rfl, ?_⟩) hH ?_
    case refine_2 => intro w hSw; obtain ⟨s0, s1, s2, s3, s4, s5⟩ := hSw; go_simp; try with_reducible rfl
    try simp only [List.getElem_toArray, List.getElem_cons_succ, List.getElem_cons_zero, Act.put, List.setIfInBounds_toArray, List.set_cons_zero, List.set_cons_succ]
    refine wpAnyK_takeY (i := 15) (v := ?_) rfl (by kernel_rfl) (by kernel_rfl) (by kernel_rfl) (by kernel_rfl) (fun _ _ _ h => h) (Or.inl ⟨by rfl, ?_⟩) hH ?_
    case refine_2 => intro w; go_simp; try with_reducible rfl
    try simp only [List.getElem_toArray, List.getElem_cons_succ, List.getElem_cons_zero, Act.put, List.setIfInBounds_toArray, List.set_cons_zero, List.set_cons_succ]
    refine wpAnyK_takeY (i := 16) (v := ?_) rfl (by kernel_rfl) (by kernel_rfl) (by kernel_rfl) (by kernel_rfl) (fun _ _ _ h => h) (Or.inl ⟨by rfl, ?_⟩) hH ?_
    case refine_2 => intro w; go_simp; try with_reducible rfl
    try simp only [List.getElem_toArray, List.getElem_cons_succ, List.getElem_cons_zero, Act.put, List.setIfInBounds_toArray, List.set_cons_zero, List.set_cons_succ]
    refine wpAnyK_takeY (i := 17) (v := ?_) rfl (by kernel_rfl) (by kernel_rfl) (by kernel_rfl) (by kernel_rfl) (fun _ _ _ h => h) (Or.inl ⟨by rfl, ?_⟩) hH ?_
    case refine_2 => intro w; go_simp; try with_reducible rfl
    try simp only [List.getElem_toArray, List.getElem_cons_succ, List.getElem_cons_zero, Act.put, List.setIfInBounds_toArray, List.set_cons_zero, List.set_cons_succ]
    refine wpAnyK_take (i := 18) (v := ?_) rfl (by kernel_rfl) (by kernel_rfl) (by kernel_rfl) (by kernel_rfl) (fun _ _ _ h => h) (Or.inl ⟨by rfl, ?_⟩) hH ?_
    case refine_2 => intro w hSw; obtain ⟨s0, s1, s2, s3, s4, s5⟩ := hSw; go_simp; try with_reducible rfl
    try simp only [List.getElem_toArray, List.getElem_cons_succ, List.getElem_cons_zero, Act.put, List.setIfInBounds_toArray, List.set_cons_zero, List.set_cons_succ]
    refine wpAnyK_takeY (i := 19) (v := ?_) rfl (by kernel_rfl) (by kernel_rfl) (by kernel_rfl) (by kernel_rfl) (fun _ _ _ h => h) (Or.inl ⟨by rfl, ?_⟩) hH ?_
    case refine_2 => intro w; go_simp; try with_reducible rfl
    try simp only [List.getElem_toArray, List.getElem_cons_succ, List.getElem_cons_zero, Act.put, List.setIfInBounds_toArray, List.set_cons_zero, List.set_cons_succ]
    refine wpAnyK_take (i := 20) (v := ?_) rfl (by kernel_rfl) (by kernel_rfl) (by kernel_rfl) (by kernel_rfl) (fun _ _ _ h => h) (Or.inl ⟨by rfl, ?_⟩) hH ?_
    case refine_2 => intro w hSw; obtain ⟨s0, s1, s2, s3, s4, s5⟩ := hSw; go_simp; try with_reducible rfl
    try simp only [List.getElem_toArray, List.getElem_cons_succ, List.getElem_cons_zero, Act.put, List.setIfInBounds_toArray, List.set_cons_zero, List.set_cons_succ]
    refine wpAnyK_takeY (i := 21) (v := ?_) rfl (by kernel_rfl) (by kernel_rfl) (by kernel_rfl) (by kernel_rfl) (fun _ _ _ h => h) (Or.inl ⟨by rfl, ?_⟩) hH ?_
    case refine_2 => intro w; go_simp; try with_reducible rfl
    try simp only [List.getElem_toArray, List.getElem_cons_succ, List.getElem_cons_zero, Act.put, List.setIfInBounds_toArray, List.set_cons_zero, List.set_cons_succ]
    refine wpAnyK_takeY (i := 22) (v := ?_) rfl (by kernel_rfl) (by kernel_rfl) (by kernel_rfl) (by kernel_rfl) (fun _ _ _ h => h) (Or.inl ⟨by rfl, ?_⟩) hH ?_
    case refine_2 => intro w; go_simp; try with_reducible rfl
    try simp only [List.getElem_toArray, List.getElem_cons_succ, List.getElem_cons_zero, Act.put, List.setIfInBounds_toArray, List.set_cons_zero, List.set_cons_succ]
    refine wpAnyK_takeY (i := 23) (v := ?_) rfl (by kernel_rfl) (by kernel_rfl) (by kernel_rfl) (by kernel_rfl) (fun _ _ _ h => h) (Or.inl ⟨by rfl, ?_⟩) hH ?_
    case refine_2 => intro w; go_simp; try with_reducible rfl
    try simp only [List.getElem_toArray, List.getElem_cons_succ, List.getElem_cons_zero, Act.put, List.setIfInBounds_toArray, List.set_cons_zero, List.set_cons_succ]
    refine wpAnyK_take (i := 24) (v := ?_) rfl (by kernel_rfl) (by kernel_rfl) (by kernel_rfl) (by kernel_rfl) (fun _ _ _ h => h) (Or.inl ⟨by rfl, ?_⟩) hH ?_
    case refine_2 => intro w hSw; obtain ⟨s0, s1, s2, s3, s4, s5⟩ := hSw; go_simp; try with_reducible rfl
    try simp only [List.getElem_toArray, List.getElem_cons_succ, List.getElem_cons_zero, Act.put, List.setIfInBounds_toArray, List.set_cons_zero, List.set_cons_succ]
    refine wpAnyK_ready (rs := [25]) (by kernel_rfl) (by simp) ?_
    refine AllReadyK.cons rfl (by kernel_rfl) (fun K hK => ?_) AllReadyK.nil
    go_simp
    have d16 : Below we.heap.size we (we.alloc (.cells #[.slice P x.length pp, .slice Q y.length qq, .slice P2 x.length p2, .slice Q2 y.length q2] 49)) := (Below.refl _ _).alloc (Nat.le_refl _) _
    have S16 := Sd.below d16
    have hrI16 : RowsIs wd.heap.size (we.alloc (.cells #[.slice P x.length pp, .slice Q y.length qq, .slice P2 x.length p2, .slice Q2 y.length q2] 49)) (some ⟨wd.heap.size, 0, none⟩) 5 rs5 := own_below hrId d16
    have b016 := b0d.trans (d16.mono (by omega))
    have hrd : Reads (we.alloc (.cells #[.slice P x.length pp, .slice Q y.length qq, .slice P2 x.length p2, .slice Q2 y.length q2] 49)) (we.heap.size + 1) 1 (some ⟨we.heap.size, 0, none⟩) 4 ([(P, x, pp), (Q, y, qq), (P2, x, p2), (Q2, y, q2)].map R3.v) := Reads.newK we [.slice P x.length pp, .slice Q y.length qq, .slice P2 x.length p2, .slice Q2 y.length q2] 49
    have hW16 : wd.heap.size ≤ (we.alloc (.cells #[.slice P x.length pp, .slice Q y.length qq, .slice P2 x.length p2, .slice Q2 y.length q2] 49)).heap.size := by have := d16.size; omega
    have hLA : rs5.length + ([(P, x, pp), (Q, y, qq), (P2, x, p2), (Q2, y, q2)] : List R3).length ≤ 1000 := by rw [hl5]; show (5 : Nat) + 4 ≤ 1000; decide
    refine hK.out _ _ (HS.out _ (bdr.trans (d16.mono zd))) ?_
    clear hK K hH Sd hrId b0d d16 HS bdr
    try dsimp only
    try simp only [List.getElem_toArray, List.getElem_cons_succ, List.getElem_cons_zero, Act.put, List.setIfInBounds_toArray, List.set_cons_zero, List.set_cons_succ]
    generalize (we.alloc (.cells #[.slice P x.length pp, .slice Q y.length qq, .slice P2 x.length p2, .slice Q2 y.length q2] 49)) = wf at *
    refine wpAnyK_ready (rs := [26]) (by kernel_rfl) (by simp) ?_
    refine AllReadyK.turn rfl (fun K hK => ?_) AllReadyK.nil
    refine step_appR wd.heap.size w wf rfl (.tmp 101) (.tmp 126) rfl (some ⟨wd.heap.size, 0, none⟩) rs5 5 (congrArg (fun m => Value.slice (some ⟨wd.heap.size, 0, none⟩) m 5) hl5.symm) hrI16 (some ⟨we.heap.size, 0, none⟩) [(P, x, pp), (Q, y, qq), (P2, x, p2), (Q2, y, q2)] 4 rfl _ hrd hLA b016 (by omega) hW16 ?_
    intro A9_ c9_ rs9 w16 H9 hrI9 b9_ g9_
    refine hK _ _ ?_
    clear hK K
    try dsimp only
    try simp only [List.getElem_toArray, List.getElem_cons_succ, List.getElem_cons_zero, Act.put, List.setIfInBounds_toArray, List.set_cons_zero, List.set_cons_succ]
    refine wpAny_take (i := 27) (v := ?_) rfl (by kernel_rfl) (by kernel_rfl) (by kernel_rfl) (fun _ _ _ h => h) (Or.inl ⟨by rfl, ?_⟩) ?_
    case refine_2 => intro w; go_simp; try with_reducible rfl
    try simp only [List.getElem_toArray, List.getElem_cons_succ, List.getElem_cons_zero, Act.put, List.setIfInBounds_toArray, List.set_cons_zero, List.set_cons_succ]
    refine wpAny_done (by kernel_rfl) ?_ _
    refine NoPanic.normal ?_
    have HP : Hid (List.Perm ((((([(some ⟨w2.heap.size, 0, none⟩, spL x, x.length + 40), (some ⟨w3.heap.size, 0, none⟩, spL y, y.length + 40)] ++ [(P, x, pp), (Q, y, qq)]) ++ [(C, editL (eK x y), cc)]) ++ [(P9, x, p9), (Q9, y, q9)])) ++ [(P2, x, p2), (Q2, y, q2)]) rs9) := by
      show List.Perm _ rs9
      rw [H9.out, HRS5.out]
      exact perm9 _ _ _ _ _ _ _ _ _
    have hS9 : Sep w2.heap.size w16 rs9 := Sep.perm (Sep.kept S16 g9_ (fun rr hrr g hg e => by
      have he : wd.heap.size = g := Option.some.inj e
      rcases List.mem_append.1 hrr with h1 | h1
      · have := (HS12.out rr h1 g hg).2; omega
      · have := (HSU.out rr h1 g hg).1; omega)) HP.out
    have hl9 : rs9.length = 9 := by rw [H9.out, List.length_append, hl5]; rfl
    have hn9 : ∀ rr ∈ rs9, rr.2.1.length ≤ 140737488355000 := by
      intro rr hrr
      rw [H9.out] at hrr
      rcases List.mem_append.1 hrr with h1 | h1
      · exact hn5 rr h1
      · simp only [List.mem_cons, List.not_mem_nil, or_false] at h1
        rcases h1 with rfl | rfl | rfl | rfl
        · show x.length ≤ _; omega
        · show y.length ≤ _; omega
        · show x.length ≤ _; omega
        · show y.length ≤ _; omega
    have z16 := b9_.size
    have T := apart_sep wd.heap.size w2.heap.size w16 A9_ c9_ rs9 hrI9 hS9 (by omega) (by omega) hn9 (by have := g9_.size; omega)
    clear HP H9 hS9 hn9 hn5 HRS5 HS12 HSU hrd S16 hrI16 HEL hl9 hl5 hLA
    go_wp2_with fail
    refine T.mono ?_
    rintro en w17 ⟨rfl, b17⟩
    go_wp2_with fail
    go_ret
    exact ⟨rfl, b9_.trans (b17.mono z02)⟩
end Go.Proofs.Ytmgibpedclngpaa
