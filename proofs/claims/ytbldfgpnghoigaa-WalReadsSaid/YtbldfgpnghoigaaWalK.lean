/- The walk of WalKeeps. -/
import Derived.Test.YtbldfgpnghoigaaWalW
import Derived.Test.YtbldfgpnghoigaaCopy
namespace Go.Proofs.Ytbldfgpnghoigaa
open Go.RowKit

def logK (b : Nat) (nx : Nat) (sz : Int) : LLog := ⟨b, [119, 46], 64, nx, sz, false⟩
theorem keeps1 (b : Nat) (x y : List UInt8) (h : x.length + y.length ≤ 100000) : ∃ ps1, appendW (log0 b [119, 46] 64) [] dskA [] [x, y] = (0, 0, logK b 2 (((x.length + y.length + 16 : Nat)) : Int), [0], dskA, ps1) ∧ Good [119, 46] [(0, [x, y])] (logK b 2 (((x.length + y.length + 16 : Nat)) : Int)) dskA ps1 ∧ usedP ps1 = x.length + y.length + 16 := by
  have hd : (dataW [x, y]).length = x.length + y.length + 16 := by rw [data_len]; simp
  obtain ⟨ps1, h1, h2, h3, _⟩ := (app_good (good_nil b [119, 46] 64 dskA rfl rfl) [x, y] (fun r hr => by
    simp only [List.mem_cons, List.not_mem_nil, or_false] at hr
    rcases hr with rfl | rfl <;> omega) (by simp) (by show (0 : Nat) ≤ _; decide)).2 (by rw [hd]; show ((0 : Nat) : Int) + _ ≤ (1048576 : Int); omega)
  have e1 : appLog (log0 b [119, 46] 64) [] [x, y] = logK b 2 (((x.length + y.length + 16 : Nat)) : Int) := by
    unfold appLog
    rw [hd]
    show logK b 2 (0 + _) = _
    rw [Int.zero_add]
  have e2 : appSegs (log0 b [119, 46] 64) [] [x, y] = [(0, [x, y])] := rfl
  rw [e1, e2] at h1 h2
  exact ⟨ps1, h1, h2, by rw [h3, hd]; exact Nat.zero_add _⟩
theorem app_big (l : LLog) (sg : List Nat) (d : LDisk) (ps : List PFile) (recs : List (List UInt8)) {r : List UInt8} (hr : r ∈ recs) (h : 1048576 < r.length) : appendW l sg d ps recs = (0, 2, l, sg, d, ps) := by
  unfold appendW
  rw [if_pos]
  rw [List.any_eq_true]
  exact ⟨r, hr, decide_eq_true h⟩
theorem two_of {rs : List R3} {x y : List UInt8} (h : rs.map (·.2.1) = [x, y]) : ∃ P p Q q, rs = [(P, x, p), (Q, y, q)] := by
  match rs, h with
  | [(P, a, p), (Q, b, q)], h =>
    injection h with h1 h2
    injection h2 with h2 _
    have h1 : a = x := h1
    have h2 : b = y := h2
    subst h1 h2
    exact ⟨P, p, Q, q, rfl⟩
theorem mk_row (n : Nat) (hn : n ≤ 281474976710656) : ∃ y : List UInt8, y.length = n ∧ ∀ W : World, (Instr.makeSlice 40 (.int .i64 (n : Int)) (.int .i64 (n : Int))).run Try.prog W = .ok (.slice (some ⟨W.heap.size, 0, none⟩) y.length y.length) (W.alloc (.cells (y.map bval).toArray 5)) := by
  refine ⟨List.replicate n 0, List.length_replicate, fun W => ?_⟩
  rw [List.length_replicate, List.map_replicate]
  have e : (List.replicate n (bval 0)).toArray = Array.replicate n (.int .u8 0) := by rw [List.toArray_replicate]; rfl
  rw [e]
  exact mk_u8' n hn W
theorem big_row : ∃ y : List UInt8, 1048576 < y.length ∧ y.length ≤ 1048577 ∧ y.length ≤ 140737488355328 ∧ ∀ W : World, (Instr.makeSlice 40 (.int .i64 1048577) (.int .i64 1048577)).run Try.prog W = .ok (.slice (some ⟨W.heap.size, 0, none⟩) y.length y.length) (W.alloc (.cells (y.map bval).toArray 5)) := by
  obtain ⟨y, hy, h⟩ := mk_row 1048577 (by decide)
  exact ⟨y, by omega, by omega, by omega, h⟩
theorem two_le {x y : List UInt8} {n : Nat} (hx : x.length ≤ n) (hy : y.length ≤ n) : ∀ r ∈ [x, y], r.length ≤ n := fun r hr => by
  simp only [List.mem_cons, List.not_mem_nil, or_false] at hr
  rcases hr with rfl | rfl
  · exact hx
  · exact hy
theorem two_rl {x y : List UInt8} (P Q : Option Addr) (p q : Nat) {n : Nat} (hx : x.length ≤ n) (hy : y.length ≤ n) : ∀ r ∈ ([(P, x, p), (Q, y, q)] : List R3), r.2.1.length ≤ n := fun r hr => by
  simp only [List.mem_cons, List.not_mem_nil, or_false] at hr
  rcases hr with rfl | rfl
  · exact hx
  · exact hy
/-- two rows as a row of bytes -/
theorem two_sl (w : World) (P Q : Option Addr) (x y : List UInt8) (p q : Nat) (hP : Bs w P x) (hQ : Bs w Q y) (h1 : x.length ≤ p ∧ p ≤ 9223372036854775807) (h2 : y.length ≤ q ∧ q ≤ 9223372036854775807) :
    SlS BsE (w.alloc (.cells #[.slice P x.length p, .slice Q y.length q] 40)) Any (some ⟨w.heap.size, 0, none⟩) [x, y] :=
  lit_sl w [(P, x, p), (Q, y, q)] 40 Any (fun r hr => by
    simp only [List.mem_cons, List.not_mem_nil, or_false] at hr
    rcases hr with rfl | rfl
    · exact ⟨hP, fun _ _ _ => trivial, h1⟩
    · exact ⟨hQ, fun _ _ _ => trivial, h2⟩) trivial (by show 2 ≤ 1048576; decide)
/-- an answered row as a row of bytes -/
theorem rows_sl {w : World} {b b0 : Nat} {A : Option Addr} {c : Nat} {rs : List R3} (h : RowsIs b w A c rs) (hS : Sep b0 w rs) (hn : ∀ r ∈ rs, r.2.1.length ≤ 140737488355328) (hl : rs.length ≤ 1048576) : SlS BsE w Any A (rs.map (·.2.1)) := by
  refine ⟨by rw [List.length_map]; simp only [BsE]; omega, rs.map R3.v, ?_, fun _ _ _ => trivial, R3.flat rs fun r hr => ⟨OwnB.bs (hS.1 r hr) (hn r hr), fun _ _ _ => trivial, OwnB.caps (hS.1 r hr)⟩⟩
  rw [List.length_map]
  exact Reads.of_own h
/-- rows behind rows, where a guard is met -/
theorem wpList_appRGw (b : Nat) (w : World) {ops : Array Oper} {rest : List Oper} {o : Oper} {a : Act} {Q : Exit → Act → World → Prop} (hw : Region.wanted o (yielded ops a.tmps) = true) (s x : Operand)
    (ho : o.op = .call { callee := .builtin .append, args := #[s, x], argTypes := #[27, 27] })
    (A : Option Addr) (rs : List R3) (c : Nat) (hs : a.eval s = .slice A rs.length c) (hown : RowsIs b w A c rs)
    (B : Option Addr) (ys : List R3) (d : Nat) (hx : a.eval x = .slice B ys.length d) (Bd : Nat) (hr : Reads w Bd 1 B ys.length (ys.map R3.v)) (hl : rs.length + ys.length ≤ 1000000) (hbw : b ≤ w.heap.size)
    (h : ∀ A' c' rs' w', Hid (rs' = rs ++ ys) → RowsIs b w' A' c' rs' → w.grownBy w' (Value.slice A rs.length c).ownBlock → wpList Try.prog ops Q rest (a.put o.dst (.slice A' rs'.length c')) w') : wpList Try.prog ops Q (o :: rest) a w := by
  obtain ⟨i0, hi0, hz0, hz1, hz2⟩ := info_parts Try.infoBs
  refine wpList_step fun K hK => ?_
  simp only [hw, if_true]
  refine wp_append_any w s x _ ho b 40 i0 _ 1 24 Try.underlying27 hi0 hz0 hz1 hz2 rfl (by omega) _ _ _ hs hown Bd B ys.length d (ys.map R3.v) hx hr (fun u hu => by obtain ⟨r, _, rfl⟩ := List.mem_map.1 hu; rfl) (by simp only [maxLen]; omega) (by omega) hbw ?_
  intro v' w' o' g' _
  obtain ⟨A', c', rfl⟩ := own_shape o'
  have e : rs.length + ys.length = (rs ++ ys).length := by rw [List.length_append]
  rw [e, ← List.map_append] at o'
  have hh := hK _ _ (h A' c' (rs ++ ys) w' rfl o' g')
  rw [← e] at hh
  exact hh
set_option maxRecDepth 100000 in
set_option maxHeartbeats 8000000 in
theorem walkeeps_any (A : Option Addr) (a : List UInt8) (c : Nat) (B : Option Addr) (b : List UInt8) (d : Nat) (w : World)
    (ha : Bs w A a) (hac : a.length ≤ c ∧ c ≤ 140737488351232) (hb : Bs w B b) (hbc : b.length ≤ d ∧ d ≤ 140737488351232) :
    Calls Try.prog 5 #[.slice A a.length c, .slice B b.length d] w fun e w' => e = .returned (.bool true) ∧ Below w.heap.size w w' := by
  have hal : a.length ≤ 140737488351232 := by omega
  have hbl : b.length ≤ 140737488351232 := by omega
  have HAC : Hid (a.length ≤ c ∧ c ≤ 9223372036854775807) := ⟨hac.1, by omega⟩
  have HBC : Hid (b.length ≤ d ∧ d ≤ 9223372036854775807) := ⟨hbc.1, by omega⟩
  clear hac hbc
  go_enter Try.func5, Try.ntmps5
  go_wp2_with fail
  refine (awake_any _).mono ?_
  rintro e w1 ⟨rfl, b1⟩
  have hv : wrap64 ((a.length : Int) + (b.length : Int)) = (a.length : Int) + (b.length : Int) := by unfold wrap64; omega
  by_cases hbig : 100000 < a.length + b.length
  · have hbg : (100000 : Int) < (a.length : Int) + (b.length : Int) := by omega
    go_wp2_with fail
    go_ret
    exact ⟨rfl, b1⟩
  have hbg : ¬ (100000 : Int) < (a.length : Int) + (b.length : Int) := by omega
  have z1 := b1.size
  go_wp2_with fail
  refine (newD_any 1048576 _).mono ?_
  rintro en w2 ⟨rfl, hd2, b2⟩
  have b02 := below_step' b1 b2
  have l2 := hd2.lt
  have T := open_good (segs := []) (pre := [119, 46]) w1.heap.size (hd2.mono (F' := (· < w1.heap.size)) (fun g h => by omega)) (wl_nil _) trivial rfl rfl (by decide) (by decide) (by decide) (by decide) (by decide) (by decide) 64 (by decide)
  clear hd2
  go_wp2_with fail
  refine T.mono ?_
  clear T
  rintro en w3 ⟨g, A3, c3, rs, h1, hg1, hR, hS, hm, hL, hb3⟩
  have hrs : rs = [] := List.map_eq_nil_iff.1 hm
  subst hrs
  obtain rfl : en = .returned (.tuple #[.pointer (some ⟨g, 0, none⟩), .slice A3 0 c3, .int .i64 0]) := h1
  replace hL : LD w3 g (fun x => (x < w1.heap.size ∧ x < w2.heap.size) ∨ RowsB A3 c3 [] x) (log0 w1.heap.size [119, 46] 64) [] dskA [] := hL
  have L3 : LD w3 g (· < w.heap.size) (log0 w1.heap.size [119, 46] 64) [] dskA [] := hL.mono fun x hx => .inl ⟨by omega, by omega⟩
  have b03 : Below w.heap.size w w3 := hb3.low b02 (by omega) (fun x h => by omega)
  have z3 := hb3.size
  clear hL hR hS hm hb3 b1 b2 b02
  have hgl := L3.lt
  go_wp2_with fail
  refine (spare_any _ _ _ _ (ha.below b03) hal).mono ?_
  rintro e w4 ⟨rfl, s4, b4⟩
  have l4 := s4.lt
  have b04 := below_step' b03 b4
  have X4 : Bs w4 (some ⟨w3.heap.size, 0, none⟩) a := bs_spare s4 hal
  obtain ⟨ps1, e1, G1, U1⟩ := keeps1 w1.heap.size a b (by omega)
  have HE1 := Lib.hid e1
  clear e1
  have HA1 : Hid (a.length ≤ 1048577) := Nat.le_trans (show a.length ≤ 100000 by omega) (by decide)
  have SX := two_sl w4 (some ⟨w3.heap.size, 0, none⟩) B a b (a.length + 40) d X4 (hb.below b04) ⟨by omega, by omega⟩ HBC.out
  have d5 : Below w4.heap.size w4 (w4.alloc (.cells #[.slice (some ⟨w3.heap.size, 0, none⟩) a.length (a.length + 40), .slice B b.length d] 40)) := (Below.refl _ _).alloc (Nat.le_refl _) _
  have L5 := ((L3.below b4).below d5).mono (F' := fun x => x < w.heap.size ∨ w3.heap.size ≤ x) (fun x hx => .inl hx)
  have hsp : a.length + b.length + 16 ≤ 1099511627776 := by omega
  have T := append_at g (segs := []) (pre := [119, 46]) L5 (good_nil _ _ _ _ rfl rfl) (fun h => by rcases h with h | h <;> omega) (by decide) (by decide) (by decide) (by decide) (some ⟨w4.heap.size, 0, none⟩) [a, b] 2 Any SX (by show 2 ≤ 1000; decide) (fun r hr => by
    simp only [List.mem_cons, List.not_mem_nil, or_false] at hr
    rcases hr with rfl | rfl <;> omega) (by show (0 : Nat) ≤ _; decide) ⟨by show (0 : Int) ≤ 0; decide, by show (0 : Int) ≤ _; decide⟩
  rw [show (([] : List Seg).map (·.1)) = [] from rfl, HE1.out] at T
  have z5 := d5.size
  have s5 := s4.below d5 s4.lt
  have b05 := below_step' b04 d5
  clear L3 X4 s4 b4 b03 SX HE1
  go_wp2_with fail
  generalize (w4.alloc (.cells #[.slice (some ⟨w3.heap.size, 0, none⟩) a.length (a.length + 40), .slice B b.length d] 40)) = w5 at *
  refine T.mono ?_
  clear T L5 d5
  rintro en w6 ⟨h1, L6, B6⟩
  obtain rfl : en = .returned (.tuple #[.int .u64 0, .int .i64 0]) := h1
  replace L6 : LD w6 g (fun x => (x < w.heap.size ∨ w3.heap.size ≤ x) ∧ x < w5.heap.size) (logK w1.heap.size 2 (((a.length + b.length + 16 : Nat)) : Int)) [0] dskA ps1 := L6
  have b06 : Below w.heap.size w w6 := B6.low b05 (by omega) (fun x h => .inl h)
  have s6 : Blk w6 w3.heap.size 5 ((spL a).map bval).toArray := B6.blk s5 (.inr (Nat.le_refl _))
  replace L6 := L6.mono (F' := fun x => x < w.heap.size ∨ x = w3.heap.size) fun x hx => ⟨by omega, by omega⟩
  have z6 := B6.size
  clear B6 b05 s5
  obtain ⟨y, hy1, hy2, hy3, hmk⟩ := big_row
  have HY1 := Lib.hid hy1
  have HY2 := Lib.hid hy2
  have HY3 := Lib.hid hy3
  clear hy1 hy2 hy3
  have k7 : Bs (w6.alloc (.cells (y.map bval).toArray 5)) (some ⟨w6.heap.size, 0, none⟩) y := Bs.lit w6 y 5 HY3.out
  have d7 : Below w6.heap.size w6 (w6.alloc (.cells (y.map bval).toArray 5)) := (Below.refl _ _).alloc (Nat.le_refl _) _
  have s7z : (w6.alloc (.cells (y.map bval).toArray 5)).heap.size = w6.heap.size + 1 := by simp
  have b07 := below_step' b06 d7
  have SX := two_sl (w6.alloc (.cells (y.map bval).toArray 5)) A (some ⟨w6.heap.size, 0, none⟩) a y c y.length (ha.below b07) k7 HAC.out ⟨Nat.le_refl _, Nat.le_trans HY3.out (by decide)⟩
  rw [s7z] at SX
  have d8 : Below (w6.alloc (.cells (y.map bval).toArray 5)).heap.size (w6.alloc (.cells (y.map bval).toArray 5)) ((w6.alloc (.cells (y.map bval).toArray 5)).alloc (.cells #[.slice A a.length c, .slice (some ⟨w6.heap.size, 0, none⟩) y.length y.length] 40)) := (Below.refl _ _).alloc (Nat.le_refl _) _
  have L7 := ((L6.below d7).below d8).mono (F' := fun x => x < w.heap.size ∨ x = w3.heap.size) (fun x hx => .inl (.inl hx))
  have T := append_at g (segs := [(0, [a, b])]) (pre := [119, 46]) L7 G1 (fun h => by rcases h with h | h <;> omega) (by decide) (by decide) (by show 1 ≤ 1048575; decide) (by rw [U1]; omega) (some ⟨w6.heap.size + 1, 0, none⟩) [a, y] 2 Any SX (by show 2 ≤ 1000; decide) (two_le HA1.out HY2.out) (by show (2 : Nat) ≤ _; decide) ⟨by show (0 : Int) ≤ ((_ : Nat) : Int); omega, by show ((_ : Nat) : Int) ≤ _; omega⟩
  rw [app_big _ _ _ _ [a, y] (r := y) (by simp) HY1.out] at T
  have s7 := (s6.below d7 s6.lt).below d8 (by rw [s7z]; have := s6.lt; omega)
  have b08 := below_step' b07 d8
  have z7 := d7.size
  have z8 := d8.size
  have l6 := s6.lt
  clear L6 k7 d7 s7z SX s6 b06 b07 d8
  go_wp2_with fail
  generalize ((w6.alloc (.cells (y.map bval).toArray 5)).alloc (.cells #[.slice A a.length c, .slice (some ⟨w6.heap.size, 0, none⟩) y.length y.length] 40)) = w7 at *
  generalize (w6.alloc (.cells (y.map bval).toArray 5)) = w6' at *
  clear hmk HY1 HY2 HY3
  refine T.mono ?_
  clear T L7
  rintro en w8 ⟨h1, L8, B8⟩
  obtain rfl : en = .returned (.tuple #[.int .u64 0, .int .i64 2]) := h1
  replace L8 : LD w8 g (fun x => (x < w.heap.size ∨ x = w3.heap.size) ∧ x < w7.heap.size) (logK w1.heap.size 2 (((a.length + b.length + 16 : Nat)) : Int)) [0] dskA ps1 := L8
  have b09 : Below w.heap.size w w8 := B8.low b08 (by omega) (fun x h => .inl h)
  have s8 : Blk w8 w3.heap.size 5 ((spL a).map bval).toArray := B8.blk s7 (.inr rfl)
  have zz8 := B8.size
  obtain ⟨A8, c8, hk8, _, hd8, _⟩ := L8
  replace hd8 : DD w8 w1.heap.size (fun x => x < w.heap.size ∨ x = w3.heap.size) dskA ps1 := hd8.mono fun x hx => .inl ⟨hx, by omega⟩
  have T := nextW_any g _ _ w8 hk8
  replace T : Calls Try.prog 15 #[.pointer (some ⟨g, 0, none⟩)] w8 (fun en w' => en = .returned (.int .u64 2) ∧ w' = w8) := T
  clear B8 hk8 b08 s7
  go_wp2_with fail
  refine T.mono ?_
  clear T
  rintro en w9 ⟨rfl, hw9⟩
  obtain rfl : w8 = w9 := hw9.symm
  have T := kept_any (some ⟨w3.heap.size, 0, none⟩) A a (a.length + 40) c w8 (by
    have := own_of_spare s8 hal (Nat.le_refl _)
    rw [← spL_length] at this
    exact Bs.of_own this (by rw [spL_length]; omega)) (ha.below b09)
  have fS : OwnB w3.heap.size w8 (some ⟨w3.heap.size, 0, none⟩) (spL a) (a.length + 40) := by
    have h := own_of_spare s8 hal (Nat.le_refl w3.heap.size)
    show w8.ownsRow _ _ _ (.slice _ (spL a).length _) (spL a).length _
    rw [spL_length]
    exact h
  go_wp2_with fail
  refine T.mono ?_
  clear T
  rintro en w8' ⟨rfl, n8, rfl⟩
  have hd9 : DD (w8.drewN n8) w1.heap.size (fun x => x < w.heap.size ∨ x = w3.heap.size) dskA ps1 := (hd8.below (below_drewN (Below.refl _ _) n8)).mono (fun x h => .inl h)
  have b010 : Below w.heap.size w (w8.drewN n8) := below_drewN b09 _
  have fS9 : OwnB w3.heap.size (w8.drewN n8) (some ⟨w3.heap.size, 0, none⟩) (spL a) (a.length + 40) := fS
  have z9 : w7.heap.size ≤ (w8.drewN n8).heap.size := zz8
  clear hd8 b09 fS s8
  generalize w8.drewN n8 = w9 at *
  have T := over_any w3.heap.size (some ⟨w3.heap.size, 0, none⟩) (spL a) (a.length + 40) a.length (a.length + 40) w9 fS9 (by rw [spL_length]; omega) (by rw [spL_length]; omega)
  go_wp2_with fail
  refine T.mono ?_
  clear T
  rintro en w10 ⟨rfl, L', hL', fS10, g10⟩
  rw [spL_length] at hL'
  replace g10 : w9.grownBy w10 (some w3.heap.size) := g10
  have z10 := g10.size
  have b011 : Below w.heap.size w w10 := b010.grown g10 b010.size (fun j hj => by have := Option.some.inj hj; omega)
  have hd10 := (hd9.grown g10 (fun g e => .inl (.inr (Option.some.inj e).symm))).mono (F' := fun x => x < w.heap.size ∨ x = w3.heap.size) (fun x h => .inl h)
  have HL := Lib.hid hL'
  clear hd9 fS9 b010 g10 hL'
  have hrs2 : (recsOf ([(0, [a, b])] : List Seg)) = [a, b] := rfl
  have T := open_good (segs := [(0, [a, b])]) (pre := [119, 46]) w1.heap.size hd10 G1.wl G1.chain rfl rfl (by decide) (by decide) (by decide) (by show 1 ≤ 1048575; decide) (by rw [U1]; omega) (by show 2 ≤ 99999; decide) 64 (by decide)
  go_wp2_with fail
  refine T.mono ?_
  clear T
  rintro en w11 ⟨g11, A11, c11, rs11, h1, hg11, hR11, hS11, hm11, L11, B11⟩
  obtain ⟨P1, p1, Q1, q1, hrs11⟩ := two_of (hm11 : rs11.map (·.2.1) = [a, b])
  have h11 : en = .returned (.tuple #[.pointer (some ⟨g11, 0, none⟩), .slice A11 2 c11, .int .i64 0]) := by rw [h1, hrs11]; rfl
  subst h11
  have b012 : Below w.heap.size w w11 := B11.low b011 (by omega) (fun x h => .inl h)
  obtain ⟨A12, c12, _, _, hd11, _⟩ := L11
  replace hd11 : DD w11 w1.heap.size (fun x => (x < w.heap.size ∨ x = w3.heap.size) ∨ RowsB A11 c11 rs11 x) dskA ps1 := hd11.mono fun x hx => .inl (hx.imp (fun h => ⟨h, by omega⟩) id)
  have fS11 := B11.own fS10 (fun x h => .inr (Option.some.inj h).symm)
  have z11 := B11.size
  clear B11 hd10 fS10 b011 h1
  have T := open_good (segs := [(0, [a, b])]) (pre := [119, 46]) w1.heap.size hd11 G1.wl G1.chain rfl rfl (by decide) (by decide) (by decide) (by show 1 ≤ 1048575; decide) (by rw [U1]; omega) (by show 2 ≤ 99999; decide) 64 (by decide)
  go_wp2_with fail
  refine T.mono ?_
  clear T
  rintro en w12 ⟨g12, A13, c13, rs12, h1, hg12, hR12, hS12, hm12, L12, B12⟩
  obtain ⟨P2, p2, Q2, q2, hrs12⟩ := two_of (hm12 : rs12.map (·.2.1) = [a, b])
  have h11 : en = .returned (.tuple #[.pointer (some ⟨g12, 0, none⟩), .slice A13 2 c13, .int .i64 0]) := by rw [h1, hrs12]; rfl
  subst h11
  have b013 : Below w.heap.size w w12 := B12.low b012 (by omega) (fun x h => .inl (.inl h))
  obtain ⟨hR1, hS1⟩ := rows_same (w' := w12) hR11 hS11 (fun x hx => B12.block x (rows_lt hR11 hS11 hx).2 (.inr hx))
  have fS12 := B12.own fS11 (fun x h => .inl (.inr (Option.some.inj h).symm))
  have z12 := B12.size
  have HR1 : Hid (∀ x, RowsB A11 c11 rs11 x → w10.heap.size ≤ x ∧ x < w11.heap.size) := fun x hx => rows_lt hR11 hS11 hx
  clear B12 hd11 fS11 b012 h1 hR11 hS11 L12 hm11 hm12 hg11 hg12
  subst hrs11
  subst hrs12
  have S1 : SlS BsE w12 Any A11 [a, b] := rows_sl hR1 hS1 (two_rl P1 Q1 p1 q1 (by omega) (by omega)) (by show 2 ≤ 1048576; decide)
  have S2 : SlS BsE w12 Any A13 [a, b] := rows_sl hR12 hS12 (two_rl P2 Q2 p2 q2 (by omega) (by omega)) (by show 2 ≤ 1048576; decide)
  have SX := two_sl w12 A B a b c d (ha.below b013) (hb.below b013) HAC.out HBC.out
  have d13 : Below w12.heap.size w12 (w12.alloc (.cells #[.slice A a.length c, .slice B b.length d] 40)) := (Below.refl _ _).alloc (Nat.le_refl _) _
  have T := equals_same A11 (some ⟨w12.heap.size, 0, none⟩) [a, b] c11 2 Any Any _ (S1.below d13) SX
  replace T : Calls Try.prog 14 #[.slice A11 2 c11, .slice (some ⟨w12.heap.size, 0, none⟩) 2 2] (w12.alloc (.cells #[.slice A a.length c, .slice B b.length d] 40)) (Quietly (.bool true) (w12.alloc (.cells #[.slice A a.length c, .slice B b.length d] 40))) := T
  have T2 : ∀ n, Calls Try.prog 14 #[.slice A13 2 c13, .slice A11 2 c11] ((w12.alloc (.cells #[.slice A a.length c, .slice B b.length d] 40)).drewN n) (Quietly (.bool true) ((w12.alloc (.cells #[.slice A a.length c, .slice B b.length d] 40)).drewN n)) := fun n => equals_same A13 A11 [a, b] c13 c11 Any Any _ ((S2.below d13).drewN n) ((S1.below d13).drewN n)
  have HT2 := Lib.hid T2
  clear T2 S1 S2 SX
  go_wp2_with fail
  generalize (w12.alloc (.cells #[.slice A a.length c, .slice B b.length d] 40)) = w13 at *
  refine T.mono ?_
  clear T
  rintro en wz ⟨rfl, n1, rfl⟩
  go_wp2_with fail
  refine (HT2.out n1).mono ?_
  clear HT2
  rintro en wz ⟨rfl, n2, rfl⟩
  have be : Below w12.heap.size w12 ((w13.drewN n1).drewN n2) := below_drewN (below_drewN d13 n1) n2
  obtain ⟨hRa, hSa⟩ := rows_below hR1 hS1 be
  obtain ⟨hRb, hSb⟩ := rows_below hR12 hS12 be
  have HR2 : Hid (∀ x, RowsB A13 c13 [(P2, a, p2), (Q2, b, q2)] x → w11.heap.size ≤ x ∧ x < w12.heap.size) := fun x hx => rows_lt hR12 hS12 hx
  have fS14 := OwnB.below fS12 be
  have b014 := below_step' b013 be
  have z14 := be.size
  clear hR1 hS1 hR12 hS12 fS12 b013 d13 be ha hb
  try simp only [World.drewN_drewN] at hRa hSa hRb hSb fS14 b014 z14 ⊢
  generalize w13.drewN (n1 + n2) = w14 at *
  have SF : Sep w.heap.size w14 [(some ⟨w3.heap.size, 0, none⟩, L', a.length + 40)] := Sep.one (OwnB.base fS14 (by omega))
  have HF : Hid (∀ g, (R3.v (some ⟨w3.heap.size, 0, none⟩, L', a.length + 40)).ownBlock = some g → g = w3.heap.size) := fun g e => (Option.some.inj e).symm
  have SA : Sep w.heap.size w14 ([(some ⟨w3.heap.size, 0, none⟩, L', a.length + 40)] ++ [(P1, a, p1), (Q1, b, q1)]) := SF.append (hSa.base (by omega)) fun r hr s hs g h1 h2 => by
    rw [List.mem_singleton.1 hr] at h1
    have h3 := HF.out g h1
    have h4 := HR1.out g (.inr ⟨s, hs, h2⟩)
    omega
  have SB : Sep w.heap.size w14 (([(some ⟨w3.heap.size, 0, none⟩, L', a.length + 40)] ++ [(P1, a, p1), (Q1, b, q1)]) ++ [(P2, a, p2), (Q2, b, q2)]) := SA.append (hSb.base (by omega)) fun r hr s hs g h1 h2 => by
    have h4 := HR2.out g (.inr ⟨s, hs, h2⟩)
    rcases List.mem_append.1 hr with hr | hr
    · rw [List.mem_singleton.1 hr] at h1
      have h3 := HF.out g h1
      omega
    · have h3 := HR1.out g (.inr ⟨r, hr, h1⟩)
      omega
  have d15 : Below w14.heap.size w14 (w14.alloc (.cells #[.slice (some ⟨w3.heap.size, 0, none⟩) (a.length + 40) (a.length + 40)] 40)) := (Below.refl _ _).alloc (Nat.le_refl _) _
  have hRF : RowsIs w14.heap.size (w14.alloc (.cells #[.slice (some ⟨w3.heap.size, 0, none⟩) (a.length + 40) (a.length + 40)] 40)) (some ⟨w14.heap.size, 0, none⟩) 1 [(some ⟨w3.heap.size, 0, none⟩, L', a.length + 40)] := by
    unfold RowsIs
    show World.ownsRow _ _ _ 1 (.slice _ 1 1) 1 [.slice _ L'.length _]
    rw [HL.out]
    exact own_of_blk (xs := [.slice (some ⟨w3.heap.size, 0, none⟩) (a.length + 40) (a.length + 40)]) (Blk.new w14 40 _) (Nat.le_refl _) (by show 1 ≤ maxLen; unfold maxLen; decide)
  have b015 := below_step' b014 d15
  have S15 := SB.below d15
  obtain ⟨hRa5, hSa5⟩ := rows_below hRa hSa d15
  obtain ⟨hRb5, hSb5⟩ := rows_below hRb hSb d15
  have z15 := d15.size
  have hra := Reads.of_own hRa5
  clear SF SA SB fS14 hRa hSa hRb hSb d15 b014
  have HRB := Lib.hid (fun (W : World) (hg : World.grownBy _ W (Value.slice (some ⟨w14.heap.size, 0, none⟩) 1 1).ownBlock) => rows_grown hRb5 hSb5 hg (fun x hx e => by have h1 := HR2.out x hx; have h2 : w14.heap.size = x := Option.some.inj e; omega))
  clear hRb5 hSb5 hRa5 hSa5
  go_wp2_with (at_builtin; first | (refine wpList_appRGw w14.heap.size _ (by rfl) (.tmp 99) (.tmp 100) rfl (some ⟨w14.heap.size, 0, none⟩) [(some ⟨w3.heap.size, 0, none⟩, L', a.length + 40)] 1 rfl hRF A11 [(P1, a, p1), (Q1, b, q1)] c11 rfl _ hra (by show 3 ≤ 1000000; decide) z15 ?_; intro A16 c16 rs16 w16 H16 o16 g16; have z16 := g16.size; have hrb := Reads.of_own (HRB.out w16 g16).1; have hc16 : rs16.length + 2 ≤ 1000000 := (by rw [H16.out]; show 3 + 2 ≤ 1000000; decide); have z166 : w14.heap.size ≤ w16.heap.size := Nat.le_trans z15 z16; have S16 := S15.rowO g16 hRF (by decide)) | (refine wpList_appRGw w14.heap.size _ (by rfl) (.tmp 101) (.tmp 102) rfl A16 rs16 c16 rfl o16 A13 [(P2, a, p2), (Q2, b, q2)] c13 rfl _ hrb hc16 z166 ?_; intro A17 c17 rs17 w17 H17 o17 g17; have z17 := g17.size; have S17 := S16.rowO g17 o16 (by decide)))
  have hrs : rs17 = ([(some ⟨w3.heap.size, 0, none⟩, L', a.length + 40)] ++ [(P1, a, p1), (Q1, b, q1)]) ++ [(P2, a, p2), (Q2, b, q2)] := by rw [H17.out, H16.out]
  have hlen : rs17.length = 5 := by rw [hrs]; rfl
  have hrow16 : ∀ x, (Value.slice A16 rs16.length c16).ownBlock = some x → w14.heap.size ≤ x := fun x e => (World.ownsRow.lt o16 x e).1
  have b016 : Below w.heap.size w w16 := b015.grown g16 b015.size (fun x e => by have h2 : w14.heap.size = x := Option.some.inj e; omega)
  have b017 : Below w.heap.size w w17 := b016.grown g17 b016.size (fun x e => by have := hrow16 x e; omega)
  have hLl := HL.out
  have T := apart_sep w14.heap.size w.heap.size w17 A17 c17 rs17 o17 (by rw [hrs]; exact S17) (by rw [hlen]; decide) (by rw [hlen]; decide) (fun r hr => by
    rw [hrs] at hr
    simp only [List.cons_append, List.nil_append, List.mem_cons, List.not_mem_nil, or_false] at hr
    rcases hr with rfl | rfl | rfl | rfl | rfl
    · show L'.length ≤ _; omega
    · show a.length ≤ _; omega
    · show b.length ≤ _; omega
    · show a.length ≤ _; omega
    · show b.length ≤ _; omega) b017.size
  clear hLl hlen hrs S17 S16 S15
  refine T.mono ?_
  clear T
  rintro en w18 ⟨rfl, b18⟩
  have b018 := b017.trans b18
  go_wp2_with fail
  go_ret
  exact ⟨rfl, b018⟩
end Go.Proofs.Ytbldfgpnghoigaa
