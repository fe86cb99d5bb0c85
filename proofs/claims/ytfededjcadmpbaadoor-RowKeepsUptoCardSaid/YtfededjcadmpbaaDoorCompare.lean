/- How two lists of bytes compare: caissonref01.Cmp. How two cells compare: caissonref06.Compare; row.IndexPrefix. -/
import Derived.Test.YtfededjcadmpbaaDoorOrdA
import Derived.Test.YtfededjcadmpbaaDoorVKey
import Derived.Test.YtfededjcadmpbaaDoorAwakeR
import Derived.Test.YtfededjcadmpbaaDoorValsOf
import Derived.Deep.RegionLaw
namespace Go.Proofs.YtfededjcadmpbaaDoor
open Go.RowKit

theorem cmpL_drop {a b : List UInt8} {k : Nat} (h1 : k < a.length) (h2 : k < b.length) : cmpL (a.drop k) (b.drop k) = if a[k].toNat < b[k].toNat then -1 else if b[k].toNat < a[k].toNat then 1 else cmpL (a.drop (k + 1)) (b.drop (k + 1)) := by
  rw [List.drop_eq_getElem_cons h1, List.drop_eq_getElem_cons h2]
  show (if a[k] < b[k] then (-1 : Int) else if b[k] < a[k] then 1 else _) = _
  simp only [u8_lt]
theorem cmpL_end {a b : List UInt8} {k : Nat} (hk : k ≤ a.length) (hk2 : k ≤ b.length) (h : ¬ (k < a.length ∧ k < b.length)) : cmpL (a.drop k) (b.drop k) = if a.length < b.length then -1 else if b.length < a.length then 1 else 0 := by
  by_cases h1 : k < a.length
  · have h2 : b.length ≤ k := by omega
    rw [List.drop_eq_getElem_cons h1, List.drop_of_length_le h2, if_neg (by omega), if_pos (by omega)]; rfl
  · rw [List.drop_of_length_le (show a.length ≤ k by omega)]
    by_cases h2 : k < b.length
    · rw [List.drop_eq_getElem_cons h2, if_pos (by omega)]; rfl
    · rw [List.drop_of_length_le (show b.length ≤ k by omega), if_neg (by omega), if_neg (by omega)]; rfl

set_option maxRecDepth 100000 in
set_option maxHeartbeats 2000000 in
theorem cmp_any (A B : Option Addr) (l m : List UInt8) (c d : Nat) (w : World) (hb : Bs w A l) (hb2 : Bs w B m) :
    Calls Tryd.prog 16 #[.slice A l.length c, .slice B m.length d] w (Quietly (.int .i64 (cmpL l m)) w) := by
  have hl := hb.le
  have hm := hb2.le
  go_enter Tryd.func16, Tryd.ntmps16
  go_wp2_with fail
  go_loopw [5] (fun i wr => ∃ k : Nat, k ≤ l.length ∧ k ≤ m.length ∧ i = .int .i64 k ∧ cmpL (l.drop k) (m.drop k) = cmpL l m ∧ ∃ n, wr = w.drewN n) (fun i _ => l.length - (intOf i).toNat)
  case atStart => exact ⟨0, Nat.zero_le _, Nat.zero_le _, rfl, rfl, 0, rfl⟩
  case round =>
    obtain ⟨k, hk, hk2, rfl, hpre, n, rfl⟩ := hrel
    have HP := Lib.hid hpre
    clear hpre
    by_cases hlt : k < l.length
    · by_cases hlt2 : k < m.length
      · obtain ⟨ad, rfl, _, hc1⟩ := hb.at_ hlt
        obtain ⟨bd, rfl, _, hc2⟩ := hb2.at_ hlt2
        have HD := Lib.hid (cmpL_drop hlt hlt2)
        have z1 : (k : Int) < (l.length : Int) := by omega
        have z2 : (k : Int) < (m.length : Int) := by omega
        generalize l[k] = x at *
        generalize m[k] = y at *
        by_cases h1 : x.toNat < y.toNat
        · have e1 : (x.toNat : Int) < (y.toNat : Int) := by omega
          have HE : Hid (cmpL l m = -1) := by show _ = _; rw [← HP.out, HD.out, if_pos h1]
          clear h1
          go_wp2_with fail
          go_quiet (fail)
          go_wp2_with fail
          go_ret
          exact ⟨by rw [HE.out]; rfl, _, by first | rfl | exact World.drewN_drewN _ _ _ | (rw [World.drewN_drewN, World.drewN_drewN])⟩
        · have e1 : ¬ (x.toNat : Int) < (y.toNat : Int) := by omega
          by_cases h2 : y.toNat < x.toNat
          · have e2 : (y.toNat : Int) < (x.toNat : Int) := by omega
            have HE : Hid (cmpL l m = 1) := by show _ = _; rw [← HP.out, HD.out, if_neg h1, if_pos h2]
            clear h1 h2
            go_wp2_with fail
            go_quiet (fail)
            go_wp2_with fail
            go_quiet (fail)
            go_wp2_with fail
            go_ret
            exact ⟨by rw [HE.out]; rfl, _, by first | rfl | exact World.drewN_drewN _ _ _ | (rw [World.drewN_drewN, World.drewN_drewN])⟩
          · have e2 : ¬ (y.toNat : Int) < (x.toNat : Int) := by omega
            have HE : Hid (cmpL (l.drop (k + 1)) (m.drop (k + 1)) = cmpL l m) := by show _ = _; rw [← HP.out, HD.out, if_neg h1, if_neg h2]
            clear h1 h2
            go_wp2_with fail
            go_quiet (fail)
            go_wp2_with fail
            go_quiet (fail)
            go_wp2_with fail
            go_roundw
            case rel => exact ⟨k + 1, by omega, by omega, by go_num, HE.out, _, by first | rfl | exact World.drewN_drewN _ _ _ | (rw [World.drewN_drewN, World.drewN_drewN])⟩
            case measure => simp [intOf]; omega
      · have z1 : (k : Int) < (l.length : Int) := by omega
        have z2 : ¬ (k : Int) < (m.length : Int) := by omega
        have e1 : ¬ (l.length : Int) < (m.length : Int) := by omega
        have e2 : (m.length : Int) < (l.length : Int) := by omega
        have HE : Hid (cmpL l m = 1) := by show _ = _; rw [← HP.out, cmpL_end hk hk2 (by omega), if_neg (by omega), if_pos (by omega)]
        clear hlt hlt2
        go_wp2_with fail
        go_ret
        exact ⟨by rw [HE.out]; rfl, n, rfl⟩
    · have z1 : ¬ (k : Int) < (l.length : Int) := by omega
      by_cases h1 : l.length < m.length
      · have e1 : (l.length : Int) < (m.length : Int) := by omega
        have HE : Hid (cmpL l m = -1) := by show _ = _; rw [← HP.out, cmpL_end hk hk2 (by omega), if_pos (by omega)]
        clear hlt h1
        go_wp2_with fail
        go_ret
        exact ⟨by rw [HE.out]; rfl, n, rfl⟩
      · have e1 : ¬ (l.length : Int) < (m.length : Int) := by omega
        have e2 : ¬ (m.length : Int) < (l.length : Int) := by omega
        have HE : Hid (cmpL l m = 0) := by show _ = _; rw [← HP.out, cmpL_end hk hk2 (by omega), if_neg (by omega), if_neg (by omega)]
        clear hlt h1
        go_wp2_with fail
        go_ret
        exact ⟨by rw [HE.out]; rfl, n, rfl⟩
end Go.Proofs.YtfededjcadmpbaaDoor

namespace Go.Proofs.YtfededjcadmpbaaDoor
open Go.RowKit

theorem vals_wf {l : List LCel} (h : ∀ x ∈ l, (Lit.int .i64 x.n).wf = true) : ∀ v ∈ valsOf l, v.err = 0 ∧ v.wfv := by
  intro v hv
  unfold valsOf at hv
  obtain ⟨c, hc, rfl⟩ := List.mem_map.1 hv
  obtain ⟨hm, hg⟩ := List.mem_filter.1 hc
  obtain ⟨hce, hx⟩ := LCel.good_cel hg
  have h2 := h c hm
  have h3 : c.val.n = c.n := congrArg LCel.n hce
  refine ⟨hx, ?_⟩
  unfold LVal.wfv
  rw [h3]
  simp [Lit.wf, IntKind.min, IntKind.max, IntKind.signed, IntKind.bits] at h2
  omega
theorem vals_good {l : List LCel} (h : ∀ x ∈ l, (Lit.int .i64 x.kind).wf = true ∧ (Lit.int .i64 x.n).wf = true ∧ x.t.size ≤ 1048576 ∧ x.l.length ≤ 140737488351232) : ∀ v ∈ valsOf l, (v.err = 0 ∧ v.wfv) ∧ v.t.size ≤ 1048576 := by
  intro v hv
  unfold valsOf at hv
  obtain ⟨c, hc, rfl⟩ := List.mem_map.1 hv
  obtain ⟨hm, hg⟩ := List.mem_filter.1 hc
  obtain ⟨hce, hx⟩ := LCel.good_cel hg
  obtain ⟨_, h2, h3, _⟩ := h c hm
  rcases c with ⟨kk, b, n, t, dl⟩
  generalize LCel.val ⟨kk, b, n, t, dl⟩ = x at *
  obtain ⟨rfl, rfl, rfl, rfl, rfl⟩ : x.kind = kk ∧ x.b = b ∧ x.n = n ∧ x.t = t ∧ x.l = dl := by
    have h := hce; unfold LVal.cel at h; injection h with a b c d e; exact ⟨a, b, c, d, e⟩
  refine ⟨⟨hx, ?_⟩, h3⟩
  unfold LVal.wfv
  simp [Lit.wf, IntKind.min, IntKind.max, IntKind.signed, IntKind.bits] at h2
  omega
theorem less_any (a b : Bool) (w : World) : Calls Tryd.prog 40 #[.bool a, .bool b] w fun e w' => e = .returned (.int .i64 (if a then -1 else if b then 1 else 0)) ∧ w' = w := by
  cases a <;> cases b <;>
  · go_enter Tryd.func40, Tryd.ntmps40
    go_wp2_with fail
    go_ret
    exact ⟨rfl, rfl⟩
/-- a whole number is answered, and nothing old is touched -/
def RetI (n : Int) (w : World) (e : Ending) (w' : World) : Prop := e = .returned (.int .i64 n) ∧ Below w.heap.size w w'
theorem cmpV_ne {x y : LVal} (h : x.kind ≠ y.kind) : cmpV x y = if x.kind < y.kind then -1 else 1 := if_pos h
theorem Below.call3_ {a X w' : World} (h : Below a.heap.size a X) (b : Below X.heap.size X w') : Below a.heap.size a w' := h.trans (b.mono h.size)

set_option maxRecDepth 100000 in
set_option maxHeartbeats 4000000 in
theorem compare_any (x y : LVal) (D E : Option Addr) (c d : Nat) (w : World) (hx : x.err = 0) (hy : y.err = 0) (hD : Bs w D x.l) (hE : Bs w E y.l) (hs : x.t.size ≤ 1048576) (ht : y.t.size ≤ 1048576) :
    Calls Tryd.prog 15 #[.agg #[.int .i64 x.kind, .bool x.b, .int .i64 x.n, .string x.t, .slice D x.l.length c], .agg #[.int .i64 y.kind, .bool y.b, .int .i64 y.n, .string y.t, .slice E y.l.length d]] w (RetI (cmpV x y) w) := by
  have bX : Below w.heap.size w ((w.alloc (.cells #[.int .i64 x.kind, .bool x.b, .int .i64 x.n, .string x.t, .slice D x.l.length c] 42)).alloc (.cells #[.int .i64 y.kind, .bool y.b, .int .i64 y.n, .string y.t, .slice E y.l.length d] 42)) := ((Below.refl _ _).alloc (Nat.le_refl _) _).alloc (by simp) _
  have kx := (Blk.new w 42 #[.int .i64 x.kind, .bool x.b, .int .i64 x.n, .string x.t, .slice D x.l.length c]).alloc (.cells #[.int .i64 y.kind, .bool y.b, .int .i64 y.n, .string y.t, .slice E y.l.length d] 42)
  have ky := Blk.new (w.alloc (.cells #[.int .i64 x.kind, .bool x.b, .int .i64 x.n, .string x.t, .slice D x.l.length c] 42)) 42 #[.int .i64 y.kind, .bool y.b, .int .i64 y.n, .string y.t, .slice E y.l.length d]
  rw [show (w.alloc (.cells #[.int .i64 x.kind, .bool x.b, .int .i64 x.n, .string x.t, .slice D x.l.length c] 42)).heap.size = w.heap.size + 1 from by simp] at ky
  have hDX := hD.below bX
  have hEX := hE.below bX
  by_cases hk : x.kind = y.kind
  · cases x <;> cases y
    all_goals first
      | exact absurd hx (show ¬ ((10 : Int) = 0) by decide)
      | exact absurd hy (show ¬ ((10 : Int) = 0) by decide)
      | (exfalso; simp [LVal.kind] at hk; done)
      | skip
    all_goals clear hk hx hy
    all_goals simp only [LVal.kind, LVal.b, LVal.n, LVal.t, LVal.l] at *
    · go_enter Tryd.func15, Tryd.ntmps15
      go_wp2_with fail
      refine (cmp_any D E [] [] c d _ hDX hEX).mono ?_
      rintro en W1 ⟨rfl, n, rfl⟩
      go_wp2_with fail
      go_ret
      exact ⟨rfl, below_drewN bX n⟩
    · rename_i a b
      cases a <;> cases b <;>
      · go_enter Tryd.func15, Tryd.ntmps15
        go_wp2_with (go_at_call 40; (refine (less_any _ _ _).mono ?_); rintro en wv ⟨rfl, rfl⟩)
        go_ret
        exact ⟨rfl, bX⟩
    · rename_i a b
      have H : Hid (cmpV (.int a) (.int b) = cmpI a b) := rfl
      by_cases h1 : a < b
      · have HE : Hid (cmpV (.int a) (.int b) = -1) := by show _ = _; rw [H.out]; unfold cmpI; rw [if_pos h1]
        have h2 : ¬ b < a := by omega
        go_enter Tryd.func15, Tryd.ntmps15
        go_wp2_with (go_at_call 40; (refine (less_any _ _ _).mono ?_); rintro en wv ⟨rfl, rfl⟩)
        go_ret
        exact ⟨by rw [HE.out]; rfl, bX⟩
      · by_cases h2 : b < a
        · have HE : Hid (cmpV (.int a) (.int b) = 1) := by show _ = _; rw [H.out]; unfold cmpI; rw [if_neg h1, if_pos h2]
          go_enter Tryd.func15, Tryd.ntmps15
          go_wp2_with (go_at_call 40; (refine (less_any _ _ _).mono ?_); rintro en wv ⟨rfl, rfl⟩)
          go_ret
          exact ⟨by rw [HE.out]; rfl, bX⟩
        · have HE : Hid (cmpV (.int a) (.int b) = 0) := by show _ = _; rw [H.out]; unfold cmpI; rw [if_neg h1, if_neg h2]
          go_enter Tryd.func15, Tryd.ntmps15
          go_wp2_with (go_at_call 40; (refine (less_any _ _ _).mono ?_); rintro en wv ⟨rfl, rfl⟩)
          go_ret
          exact ⟨by rw [HE.out]; rfl, bX⟩
    · rename_i s t
      have H : Hid (cmpV (.text s) (.text t) = cmpL (tkey s) (tkey t)) := rfl
      have ls := tkey_len s
      have lt := tkey_len t
      go_enter Tryd.func15, Tryd.ntmps15
      go_upto_region 9 with fail
      simp only [List.length_nil] at kx ky bX
      clear hD hE hDX hEX
      generalize ((w.alloc (.cells #[.int .i64 3, .bool false, .int .i64 0, .string s, .slice D 0 c] 42)).alloc (.cells #[.int .i64 3, .bool false, .int .i64 0, .string t, .slice E 0 d] 42)) = X at *
      have lx := kx.lt
      have ly := ky.lt
      have y0 : X.cell? ⟨w.heap.size, 3, none⟩ = some (.string s) := kx.cell 3
      have y1 : X.cell? ⟨w.heap.size + 1, 3, none⟩ = some (.string t) := ky.cell 3
      obtain ⟨KS, hKS⟩ : ∃ K, tkey s = K := ⟨_, rfl⟩
      obtain ⟨KT, hKT⟩ : ∃ K, tkey t = K := ⟨_, rfl⟩
      have t1 : ∀ W, Calls Tryd.prog 41 #[.string s] W (RetBs KS W) := fun W => by rw [← hKS]; exact rtkey_any s hs W
      have t2 : ∀ W, Calls Tryd.prog 41 #[.string t] W (RetBs KT W) := fun W => by rw [← hKT]; exact rtkey_any t ht W
      have T1 := Lib.hid t1
      have T2 := Lib.hid t2
      have HF : Hid (cmpV (.text s) (.text t) = cmpL KS KT) := by show _ = _; rw [H.out, hKS, hKT]
      rw [hKS] at ls
      rw [hKT] at lt
      clear t1 t2 hKS hKT H
      have bX0 : Below X.heap.size X X := Below.refl _ _
      go_region_law
        (first
          | (go_simp; go_at_call 41; (with_reducible refine (T1.out _).mono ?_); rintro en wa ⟨A1, c1, rfl, o1, ba⟩; have bxa : Below X.heap.size X wa := (by refine Below.call3_ ?_ ba; (focus (repeat (first | (with_reducible exact bxa) | (with_reducible exact bxb) | (with_reducible exact bX0) | (with_reducible refine Below.drew_ ?_))))); have bb1 : Bs wa A1 KS := (Bs.of_own o1 (by omega)); (first | (have bb2 : Bs wa A2 KT := Bs.below bb2 ba; skip) | skip); have y0 : wa.cell? ⟨w.heap.size, 3, none⟩ = some (.string s) := (kx.below bxa lx).cell 3; have y1 : wa.cell? ⟨w.heap.size + 1, 3, none⟩ = some (.string t) := (ky.below bxa ly).cell 3; skip)
          | (go_simp; go_at_call 41; (with_reducible refine (T2.out _).mono ?_); rintro en wb ⟨A2, c2, rfl, o2, bb⟩; have bxb : Below X.heap.size X wb := (by refine Below.call3_ ?_ bb; (focus (repeat (first | (with_reducible exact bxa) | (with_reducible exact bxb) | (with_reducible exact bX0) | (with_reducible refine Below.drew_ ?_))))); have bb2 : Bs wb A2 KT := (Bs.of_own o2 (by omega)); (first | (have bb1 : Bs wb A1 KS := Bs.below bb1 bb; skip) | skip); have y0 : wb.cell? ⟨w.heap.size, 3, none⟩ = some (.string s) := (kx.below bxb lx).cell 3; have y1 : wb.cell? ⟨w.heap.size + 1, 3, none⟩ = some (.string t) := (ky.below bxb ly).cell 3; skip)
          | (go_simp; go_at_call 16; (with_reducible refine (cmp_any A1 A2 KS KT c1 c2 _ bb1 bb2).mono ?_); rintro en wd ⟨rfl, n, rfl⟩; skip))
      all_goals
        go_wp2_with fail
        go_ret
        refine ⟨by rw [HF.out]; rfl, ?_⟩
        first | exact below_drewN (Below.call3_ bX bxa) n | exact below_drewN (Below.call3_ bX bxb) n
    · rename_i l m
      have H : Hid (cmpV (.bytes l) (.bytes m) = cmpL l m) := rfl
      go_enter Tryd.func15, Tryd.ntmps15
      go_wp2_with fail
      refine (cmp_any D E l m c d _ hDX hEX).mono ?_
      rintro en W1 ⟨rfl, n, rfl⟩
      go_wp2_with fail
      go_ret
      exact ⟨by rw [H.out]; rfl, below_drewN bX n⟩
  · have H := Lib.hid (cmpV_ne hk)
    by_cases hlt : x.kind < y.kind
    · have HE : Hid (cmpV x y = -1) := by show _ = _; rw [H.out, if_pos hlt]
      have d1 : (x.kind != y.kind) = true := by rw [bne_iff_ne]; exact hk
      clear hk
      go_enter Tryd.func15, Tryd.ntmps15
      go_wp2_with (go_at_call 40; (refine (less_any _ _ _).mono ?_); rintro en wv ⟨rfl, rfl⟩)
      go_ret
      exact ⟨by rw [HE.out]; rfl, bX⟩
    · have HE : Hid (cmpV x y = 1) := by show _ = _; rw [H.out, if_neg hlt]
      have d1 : (x.kind != y.kind) = true := by rw [bne_iff_ne]; exact hk
      clear hk
      go_enter Tryd.func15, Tryd.ntmps15
      go_wp2_with (go_at_call 40; (refine (less_any _ _ _).mono ?_); rintro en wv ⟨rfl, rfl⟩)
      go_ret
      exact ⟨by rw [HE.out]; rfl, bX⟩
end Go.Proofs.YtfededjcadmpbaaDoor
