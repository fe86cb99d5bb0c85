/- How two cells compare: caissonref06.Compare; row.IndexPrefix. -/
import Derived.Test.YtfededjcadmpbaaDoorVKey
import Derived.Test.YtfededjcadmpbaaDoorCmp
import Derived.Test.YtfededjcadmpbaaDoorPfx
import Derived.Deep.RegionLaw
namespace Go.Proofs.YtfededjcadmpbaaDoor
open Go.RowKit

theorem less_any (a b : Bool) (w : World) : Calls Tryd.prog 40 #[.bool a, .bool b] w fun e w' => e = .returned (.int .i64 (if a then -1 else if b then 1 else 0)) ∧ w' = w := by
  cases a <;> cases b <;>
  · go_enter Tryd.func40, Tryd.ntmps40
    go_wp2_with fail
    go_ret
    exact ⟨rfl, rfl⟩
/-- a whole number is answered, and nothing old is touched -/
def RetI (n : Int) (w : World) (e : Ending) (w' : World) : Prop := e = .returned (.int .i64 n) ∧ Below w.heap.size w w'
theorem cmpV_ne {x y : LVal} (h : x.kind ≠ y.kind) : cmpV x y = if x.kind < y.kind then -1 else 1 := if_pos h
theorem Below.call3_ {a X w' : World} (h : Below a.heap.size a X) (b : Below X.heap.size X w') : Below a.heap.size a w' := h.trans (b.mono h.size)

set_option maxRecDepth 100000 in
set_option maxHeartbeats 4000000 in
theorem compare_any (x y : LVal) (D E : Option Addr) (c d : Nat) (w : World) (hx : x.err = 0) (hy : y.err = 0) (hD : Bs w D x.l) (hE : Bs w E y.l) (hs : x.t.size ≤ 1048576) (ht : y.t.size ≤ 1048576) :
    Calls Tryd.prog 15 #[.agg #[.int .i64 x.kind, .bool x.b, .int .i64 x.n, .string x.t, .slice D x.l.length c], .agg #[.int .i64 y.kind, .bool y.b, .int .i64 y.n, .string y.t, .slice E y.l.length d]] w (RetI (cmpV x y) w) := by
  have bX : Below w.heap.size w ((w.alloc (.cells #[.int .i64 x.kind, .bool x.b, .int .i64 x.n, .string x.t, .slice D x.l.length c] 42)).alloc (.cells #[.int .i64 y.kind, .bool y.b, .int .i64 y.n, .string y.t, .slice E y.l.length d] 42)) := ((Below.refl _ _).alloc (Nat.le_refl _) _).alloc (by simp) _
  have kx := (Blk.new w 42 #[.int .i64 x.kind, .bool x.b, .int .i64 x.n, .string x.t, .slice D x.l.length c]).alloc (.cells #[.int .i64 y.kind, .bool y.b, .int .i64 y.n, .string y.t, .slice E y.l.length d] 42)
  have ky := Blk.new (w.alloc (.cells #[.int .i64 x.kind, .bool x.b, .int .i64 x.n, .string x.t, .slice D x.l.length c] 42)) 42 #[.int .i64 y.kind, .bool y.b, .int .i64 y.n, .string y.t, .slice E y.l.length d]
  rw [show (w.alloc (.cells #[.int .i64 x.kind, .bool x.b, .int .i64 x.n, .string x.t, .slice D x.l.length c] 42)).heap.size = w.heap.size + 1 from by simp] at ky
  have hDX := hD.below bX
  have hEX := hE.below bX
  by_cases hk : x.kind = y.kind
  · cases x <;> cases y
    all_goals first
      | exact absurd hx (show ¬ ((10 : Int) = 0) by decide)
      | exact absurd hy (show ¬ ((10 : Int) = 0) by decide)
      | (exfalso; simp [LVal.kind] at hk; done)
      | skip
    all_goals clear hk hx hy
    all_goals simp only [LVal.kind, LVal.b, LVal.n, LVal.t, LVal.l] at *
    · go_enter Tryd.func15, Tryd.ntmps15
      go_wp2_with fail
      refine (cmp_any D E [] [] c d _ hDX hEX).mono ?_
      rintro en W1 ⟨rfl, n, rfl⟩
      go_wp2_with fail
      go_ret
      exact ⟨rfl, below_drewN bX n⟩
    · rename_i a b
      cases a <;> cases b <;>
      · go_enter Tryd.func15, Tryd.ntmps15
        go_wp2_with (go_at_call 40; (refine (less_any _ _ _).mono ?_); rintro en wv ⟨rfl, rfl⟩)
        go_ret
        exact ⟨rfl, bX⟩
    · rename_i a b
      have H : Hid (cmpV (.int a) (.int b) = cmpI a b) := rfl
      by_cases h1 : a < b
      · have HE : Hid (cmpV (.int a) (.int b) = -1) := by show _ = _; rw [H.out]; unfold cmpI; rw [if_pos h1]
        have h2 : ¬ b < a := by omega
        go_enter Tryd.func15, Tryd.ntmps15
        go_wp2_with (go_at_call 40; (refine (less_any _ _ _).mono ?_); rintro en wv ⟨rfl, rfl⟩)
        go_ret
        exact ⟨by rw [HE.out]; rfl, bX⟩
      · by_cases h2 : b < a
        · have HE : Hid (cmpV (.int a) (.int b) = 1) := by show _ = _; rw [H.out]; unfold cmpI; rw [if_neg h1, if_pos h2]
          go_enter Tryd.func15, Tryd.ntmps15
          go_wp2_with (go_at_call 40; (refine (less_any _ _ _).mono ?_); rintro en wv ⟨rfl, rfl⟩)
          go_ret
          exact ⟨by rw [HE.out]; rfl, bX⟩
        · have HE : Hid (cmpV (.int a) (.int b) = 0) := by show _ = _; rw [H.out]; unfold cmpI; rw [if_neg h1, if_neg h2]
          go_enter Tryd.func15, Tryd.ntmps15
          go_wp2_with (go_at_call 40; (refine (less_any _ _ _).mono ?_); rintro en wv ⟨rfl, rfl⟩)
          go_ret
          exact ⟨by rw [HE.out]; rfl, bX⟩
    · rename_i s t
      have H : Hid (cmpV (.text s) (.text t) = cmpL (tkey s) (tkey t)) := rfl
      have ls := tkey_len s
      have lt := tkey_len t
      go_enter Tryd.func15, Tryd.ntmps15
      go_upto_region 9 with fail
      simp only [List.length_nil] at kx ky bX
      clear hD hE hDX hEX
      generalize ((w.alloc (.cells #[.int .i64 3, .bool false, .int .i64 0, .string s, .slice D 0 c] 42)).alloc (.cells #[.int .i64 3, .bool false, .int .i64 0, .string t, .slice E 0 d] 42)) = X at *
      have lx := kx.lt
      have ly := ky.lt
      have y0 : X.cell? ⟨w.heap.size, 3, none⟩ = some (.string s) := kx.cell 3
      have y1 : X.cell? ⟨w.heap.size + 1, 3, none⟩ = some (.string t) := ky.cell 3
      obtain ⟨KS, hKS⟩ : ∃ K, tkey s = K := ⟨_, rfl⟩
      obtain ⟨KT, hKT⟩ : ∃ K, tkey t = K := ⟨_, rfl⟩
      have t1 : ∀ W, Calls Tryd.prog 41 #[.string s] W (RetBs KS W) := fun W => by rw [← hKS]; exact rtkey_any s hs W
      have t2 : ∀ W, Calls Tryd.prog 41 #[.string t] W (RetBs KT W) := fun W => by rw [← hKT]; exact rtkey_any t ht W
      have T1 := Lib.hid t1
      have T2 := Lib.hid t2
      have HF : Hid (cmpV (.text s) (.text t) = cmpL KS KT) := by show _ = _; rw [H.out, hKS, hKT]
      rw [hKS] at ls
      rw [hKT] at lt
      clear t1 t2 hKS hKT H
      have bX0 : Below X.heap.size X X := Below.refl _ _
      go_region_law
        (first
          | (go_simp; go_at_call 41; (with_reducible refine (T1.out _).mono ?_); rintro en wa ⟨A1, c1, rfl, o1, ba⟩; have bxa : Below X.heap.size X wa := (by refine Below.call3_ ?_ ba; (focus (repeat (first | (with_reducible exact bxa) | (with_reducible exact bxb) | (with_reducible exact bX0) | (with_reducible refine Below.drew_ ?_))))); have bb1 : Bs wa A1 KS := (Bs.of_own o1 (by omega)); (first | (have bb2 : Bs wa A2 KT := Bs.below bb2 ba; skip) | skip); have y0 : wa.cell? ⟨w.heap.size, 3, none⟩ = some (.string s) := (kx.below bxa lx).cell 3; have y1 : wa.cell? ⟨w.heap.size + 1, 3, none⟩ = some (.string t) := (ky.below bxa ly).cell 3; skip)
          | (go_simp; go_at_call 41; (with_reducible refine (T2.out _).mono ?_); rintro en wb ⟨A2, c2, rfl, o2, bb⟩; have bxb : Below X.heap.size X wb := (by refine Below.call3_ ?_ bb; (focus (repeat (first | (with_reducible exact bxa) | (with_reducible exact bxb) | (with_reducible exact bX0) | (with_reducible refine Below.drew_ ?_))))); have bb2 : Bs wb A2 KT := (Bs.of_own o2 (by omega)); (first | (have bb1 : Bs wb A1 KS := Bs.below bb1 bb; skip) | skip); have y0 : wb.cell? ⟨w.heap.size, 3, none⟩ = some (.string s) := (kx.below bxb lx).cell 3; have y1 : wb.cell? ⟨w.heap.size + 1, 3, none⟩ = some (.string t) := (ky.below bxb ly).cell 3; skip)
          | (go_simp; go_at_call 16; (with_reducible refine (cmp_any A1 A2 KS KT c1 c2 _ bb1 bb2).mono ?_); rintro en wd ⟨rfl, n, rfl⟩; skip))
      all_goals
        go_wp2_with fail
        go_ret
        refine ⟨by rw [HF.out]; rfl, ?_⟩
        first | exact below_drewN (Below.call3_ bX bxa) n | exact below_drewN (Below.call3_ bX bxb) n
    · rename_i l m
      have H : Hid (cmpV (.bytes l) (.bytes m) = cmpL l m) := rfl
      go_enter Tryd.func15, Tryd.ntmps15
      go_wp2_with fail
      refine (cmp_any D E l m c d _ hDX hEX).mono ?_
      rintro en W1 ⟨rfl, n, rfl⟩
      go_wp2_with fail
      go_ret
      exact ⟨by rw [H.out]; rfl, below_drewN bX n⟩
  · have H := Lib.hid (cmpV_ne hk)
    by_cases hlt : x.kind < y.kind
    · have HE : Hid (cmpV x y = -1) := by show _ = _; rw [H.out, if_pos hlt]
      have d1 : (x.kind != y.kind) = true := by rw [bne_iff_ne]; exact hk
      clear hk
      go_enter Tryd.func15, Tryd.ntmps15
      go_wp2_with (go_at_call 40; (refine (less_any _ _ _).mono ?_); rintro en wv ⟨rfl, rfl⟩)
      go_ret
      exact ⟨by rw [HE.out]; rfl, bX⟩
    · have HE : Hid (cmpV x y = 1) := by show _ = _; rw [H.out, if_neg hlt]
      have d1 : (x.kind != y.kind) = true := by rw [bne_iff_ne]; exact hk
      clear hk
      go_enter Tryd.func15, Tryd.ntmps15
      go_wp2_with (go_at_call 40; (refine (less_any _ _ _).mono ?_); rintro en wv ⟨rfl, rfl⟩)
      go_ret
      exact ⟨by rw [HE.out]; rfl, bX⟩
end Go.Proofs.YtfededjcadmpbaaDoor
