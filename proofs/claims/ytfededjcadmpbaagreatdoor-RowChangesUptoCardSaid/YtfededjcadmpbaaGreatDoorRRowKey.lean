/- Rows' keys of the reference: caissonref14.Key. -/
import Derived.Test.YtfededjcadmpbaaGreatDoorRowKey
namespace Go.Proofs.YtfededjcadmpbaaGreatDoor
open Go.RowKit

theorem rcheckT2 (id keys : Int) (tn : ByteArray) (cols : List LCol) (ixs : List LIx) (A B : Option Addr) (ca cb : Nat) (w : World) (hA : Sl ColE w A cols) (hB : Sl IxE w B ixs) (hn : tn.size ≤ 140737488351232) :
    Calls Tryz.prog 23 #[.agg #[.int .i64 id, .string tn, .slice A cols.length ca, .int .i64 keys, .slice B ixs.length cb]] w fun en w' => en = .returned (.int .i64 (checkI id keys tn cols ixs)) ∧ Below w.heap.size w w' := rcheck_any id keys tn A B ca cb cols ixs w hA.cols hB.ixs hn hA.cnames hB.xnames
theorem rvalues2 (id keys : Int) (tn : ByteArray) (cols : List LCol) (xs : List LVal) (A B C : Option Addr) (ca cb cc n : Nat) (w : World) (hA : Sl ColE w A cols) (hC : Sl CelE w C xs) (hl : xs.length ≤ cols.length) (hx : ∀ x ∈ xs, x.err = 0) :
    Calls Tryz.prog 66 #[.agg #[.int .i64 id, .string tn, .slice A cols.length ca, .int .i64 keys, .slice B n cb], .slice C xs.length cc] w fun en w' => en = .returned (.int .i64 (valuesE cols xs 0)) ∧ Below w.heap.size w w' := by
  rw [← rvaluesE_eq hx]
  exact rvalues_any id keys tn cols xs A B C ca cb cc n w hA hC hl
theorem Below.call4_ {a X w' : World} (h : Below a.heap.size a X) (b : Below X.heap.size X w') : Below a.heap.size a w' := h.trans (b.mono h.size)
theorem Below.allocR {a X : World} {o : Obj} (h : Below a.heap.size a X) : Below a.heap.size a (X.alloc o) := h.alloc h.size _
theorem wrap_u8 (n : Int) : IntKind.u8.wrap n = n % 256 := by
  simp only [IntKind.wrap]
  split <;> simp_all [IntKind.bits, IntKind.signed]
theorem ownB_lit (w : World) (l : List UInt8) (hl : l.length ≤ 140737488355328) : OwnB w.heap.size (w.alloc (.cells (l.map bval).toArray 5)) (some ⟨w.heap.size, 0, none⟩) l l.length := by
  have := own_of_blk (base := w.heap.size) (xs := l.map bval) (Blk.new w 5 (l.map bval).toArray) (Nat.le_refl _) (by rw [List.length_map]; simp only [maxLen]; omega)
  rw [List.length_map] at this
  exact this

set_option maxRecDepth 100000 in
set_option maxHeartbeats 8000000 in
theorem rrowkey_any (id keys : Int) (tn : ByteArray) (cols : List LCol) (ixs : List LIx) (xs : List LVal) (A B C : Option Addr) (ca cb cc : Nat) (w : World) (hA : Sl ColE w A cols) (hB : Sl IxE w B ixs) (hC : Sl CelE w C xs) (hn : tn.size ≤ 140737488351232)
    (hx : ∀ x ∈ xs, x.err = 0 ∧ x.wfv) (hcc : xs.length ≤ cc ∧ cc ≤ 9223372036854775807) :
    Calls Tryz.prog 43 #[.agg #[.int .i64 id, .string tn, .slice A cols.length ca, .int .i64 keys, .slice B ixs.length cb], .slice C xs.length cc] w (RetKeyE (keyE id keys tn cols ixs xs) (keyB id keys tn cols ixs xs) w) := by
  have HX := Lib.hid hx
  clear hx
  have b0 : Below w.heap.size w (w.alloc (.cells #[.int .i64 id, .string tn, .slice A cols.length ca, .int .i64 keys, .slice B ixs.length cb] 25)) := (Below.refl _ _).alloc (Nat.le_refl _) _
  have k0 := Blk.new w 25 #[.int .i64 id, .string tn, .slice A cols.length ca, .int .i64 keys, .slice B ixs.length cb]
  go_enter Tryz.func43, Tryz.ntmps43
  go_wp2_with fail
  generalize (w.alloc (.cells #[.int .i64 id, .string tn, .slice A cols.length ca, .int .i64 keys, .slice B ixs.length cb] 25)) = W0 at *
  refine (rcheckT2 id keys tn cols ixs A B ca cb W0 (hA.below b0) (hB.below b0) hn).mono ?_
  rintro en w1 ⟨rfl, b1⟩
  have b01 := b0.trans (b1.mono b0.size)
  have k1 := k0.below b1 k0.lt
  clear b0 b1 k0
  by_cases h0 : checkI id keys tn cols ixs = 0
  · obtain ⟨hi1, hi2, hk1, hk2, hc16⟩ := check_head h0
    have d0 : (checkI id keys tn cols ixs != 0) = false := by rw [h0]; rfl
    have q2 : w1.cell? ⟨w.heap.size, 2, none⟩ = some (.slice A cols.length ca) := k1.cell 2
    have q3 : w1.cell? ⟨w.heap.size, 3, none⟩ = some (.int .i64 keys) := k1.cell 3
    by_cases hor : (xs.length : Int) = keys ∨ xs.length = cols.length
    · have HE := Lib.hid (keyE_vals (tn := tn) (ixs := ixs) (id := id) h0 hor)
      obtain ⟨kn, rfl⟩ : ∃ kn : Nat, keys = (kn : Int) := ⟨keys.toNat, by omega⟩
      have hxl : xs.length ≤ cols.length := by omega
      have hkx : kn ≤ xs.length := by omega
      obtain ⟨cd, D0, c0, rfl, -⟩ := CelE.at6 hC (k := 0) (by omega)
      have T := rvalues2 id kn tn cols xs A B (some cd) ca cb cc ixs.length w1 (hA.below b01) (hC.below b01) hxl (fun x hx => (HX.out x hx).1)
      have z2 : (kn : Int) ≤ (cc : Int) := by omega
      have hor2 : (((xs.length : Int) != (kn : Int)) = false) ∨ (((xs.length : Int) != (kn : Int)) = true ∧ ((xs.length : Int) != (cols.length : Int)) = false) := by
        by_cases h1 : (xs.length : Int) = (kn : Int)
        · exact .inl (by rw [h1]; simp)
        · exact .inr ⟨by rw [bne_iff_ne]; exact h1, by rw [bne_eq_false_iff_eq]; omega⟩
      have H0 := Lib.hid h0
      clear h0 hor
      generalize hV : valuesE cols xs 0 = V at *
      have HV := Lib.hid hV
      clear hV
      rcases hor2 with d1 | ⟨d1, d2⟩
      all_goals
        go_wp2_with ((with_reducible refine wpList_load_blk rfl 25 (.tmp 2) rfl w.heap.size ?_ 25 _ _ k1 Tryz.underlying25 ?_ Tryz.size_TableV ?_ ?_); rfl; rfl; rfl)
        refine T.mono ?_
        rintro en w2 ⟨rfl, b2⟩
        clear T q2 q3
        have b02 := b01.trans (b2.mono b01.size)
        have k2 := k1.below b2 k1.lt
        by_cases hv0 : V = 0
        · have d3 : (V != 0) = false := by rw [hv0]; rfl
          have HK : Hid (keyB id kn tn cols ixs xs = [114, UInt8.ofInt id] ++ keyL (xs.take kn)) := by
            show _ = _; unfold keyB; rw [HE.out, if_pos hv0]; rfl
          have hsm := values_sm hxl (HV.out.trans hv0)
          have hsm2 : ∀ x ∈ xs.take kn, x.sm := fun x hx => hsm x (List.mem_of_mem_take hx)
          have hkl := keyL_len hsm2
          have hlt : (xs.take kn).length = kn := by rw [List.length_take]; omega
          have t2 : ∀ W, Below w2.heap.size w2 W → Calls Tryz.prog 45 #[.slice (some cd) (xs.take kn).length cc] W (RetBs (keyL (xs.take kn)) W) := fun W hW => rckey_any (xs.take kn) (some cd) cc W (((hC.below b02).below hW).take kn hkx) hsm2 (fun x hx => HX.out x (List.mem_of_mem_take hx)) (by rw [hlt]; omega)
          rw [hlt] at t2 hkl
          have HE0 : Hid (keyE id kn tn cols ixs xs = 0) := by show _ = _; rw [HE.out, hv0]
          generalize keyL (xs.take kn) = KL at *
          have T2 := Lib.hid t2
          clear hv0 hlt hsm hsm2 HX HE H0 t2
          go_upto_region 9 with fail
          have lk := k2.lt
          have y0 : w2.cell? ⟨w.heap.size, 0, none⟩ = some (.int .i64 id) := k2.cell 0
          have y3 : w2.cell? ⟨w.heap.size, 3, none⟩ = some (.int .i64 (kn : Int)) := k2.cell 3
          have bX0 : Below w2.heap.size w2 w2 := Below.refl _ _
          have own : ∀ W : World, OwnB W.heap.size (W.alloc (.cells #[.int .u8 114, .int .u8 (IntKind.u8.wrap id)] 5)) (some ⟨W.heap.size, 0, none⟩) [114, UInt8.ofInt id] 2 := fun W => by
            have := ownB_lit W [114, UInt8.ofInt id] (by simp)
            rw [show ([114, UInt8.ofInt id] : List UInt8).map bval = [.int .u8 114, .int .u8 (IntKind.u8.wrap id)] from by simp only [List.map_cons, List.map_nil, bval, mod_u8, wrap_u8]; rfl] at this
            exact this
          have OWN := Lib.hid own
          clear own hi1 hi2
          go_region_law
            (first
              | (go_simp; go_at_call 45; (with_reducible refine (T2.out _ ?_).mono ?_); (focus (repeat (first | (with_reducible exact bxa) | (with_reducible exact bX0) | (with_reducible refine Below.drew_ ?_) | (with_reducible refine Below.allocR ?_)))); rintro en wa ⟨B3, d3, rfl, o3, ba⟩; have bxa : Below w2.heap.size w2 wa := (by refine Below.call4_ ?_ ba; (focus (repeat (first | (with_reducible exact bxa) | (with_reducible exact bX0) | (with_reducible refine Below.drew_ ?_) | (with_reducible refine Below.allocR ?_))))); have h3 : Bs wa B3 KL := (Bs.of_own o3 (by omega)); have y0 : wa.cell? ⟨w.heap.size, 0, none⟩ = some (.int .i64 id) := (k2.below bxa lk).cell 0; skip)
              | (refine step_app w2.heap.size w2 _ rfl (.tmp 34) (.tmp 39) rfl (some ⟨_, 0, none⟩) [114, UInt8.ofInt id] 2 rfl (OwnB.base (OwnB.below (OWN.out w2) ba) (Nat.le_refl w2.heap.size)) B3 KL d3 rfl h3 (by simp only [List.length_cons, List.length_nil]; omega) bxa (Nat.le_refl _) (bxa).size ?_; intro B5 d5 acc5 w5 H5 o5 b5 g5 t5)
              | (refine step_app w2.heap.size w2 _ rfl (.tmp 34) (.tmp 39) rfl (some ⟨_, 0, none⟩) [114, UInt8.ofInt id] 2 rfl (OwnB.base (OwnB.below (OWN.out w2.drew) ba) (Nat.le_refl w2.heap.size)) B3 KL d3 rfl h3 (by simp only [List.length_cons, List.length_nil]; omega) bxa (Nat.le_refl _) (bxa).size ?_; intro B5 d5 acc5 w5 H5 o5 b5 g5 t5)
              | (refine step_app w2.heap.size w2 _ rfl (.tmp 34) (.tmp 39) rfl (some ⟨_, 0, none⟩) [114, UInt8.ofInt id] 2 rfl (OwnB.base (OWN.out wa) bxa.size) B3 KL d3 rfl (h3.alloc _) (by simp only [List.length_cons, List.length_nil]; omega) (bxa.alloc bxa.size _) (Nat.le_refl _) ((bxa.alloc bxa.size _)).size ?_; intro B5 d5 acc5 w5 H5 o5 b5 g5 t5)
              | (refine step_app w2.heap.size w2 _ rfl (.tmp 34) (.tmp 39) rfl (some ⟨_, 0, none⟩) [114, UInt8.ofInt id] 2 rfl (OwnB.base (OWN.out wa.drew) bxa.size) B3 KL d3 rfl (h3.alloc _) (by simp only [List.length_cons, List.length_nil]; omega) (bxa.drew.alloc bxa.size _) (Nat.le_refl _) ((bxa.drew.alloc bxa.size _)).size ?_; intro B5 d5 acc5 w5 H5 o5 b5 g5 t5))
          all_goals
            go_wp2_with fail
            go_ret2
            rw [HK.out, HE0.out, ← H5.out]
            exact ⟨B5, d5, rfl, OwnB.base o5 b02.size, b02.trans (b5.mono b02.size)⟩
        · have d3 : (V != 0) = true := by rw [bne_iff_ne]; exact hv0
          have HK := Lib.hid (keyB_ne HE.out hv0)
          clear hv0
          go_wp2_with fail
          go_ret2
          exact RetKeyE.none HE HK b02
    · have d1 : ((xs.length : Int) != keys) = true := by rw [bne_iff_ne]; exact fun h => hor (.inl h)
      have d2 : ((xs.length : Int) != (cols.length : Int)) = true := by rw [bne_iff_ne]; exact fun h => hor (.inr (by omega))
      have HE := Lib.hid (keyE_arg (tn := tn) (ixs := ixs) (id := id) h0 (fun h => hor (.inl h)) (fun h => hor (.inr h)))
      have HK := Lib.hid (keyB_ne HE.out (by decide))
      clear h0 hor
      go_wp2_with fail
      go_ret2
      exact RetKeyE.none HE HK b01
  · have d0 : (checkI id keys tn cols ixs != 0) = true := by rw [bne_iff_ne]; exact h0
    have HE := Lib.hid (keyE_check (xs := xs) h0)
    have HK := Lib.hid (keyB_ne HE.out h0)
    clear h0
    go_wp2_with fail
    go_ret2
    exact RetKeyE.none HE HK b01
end Go.Proofs.YtfededjcadmpbaaGreatDoor
