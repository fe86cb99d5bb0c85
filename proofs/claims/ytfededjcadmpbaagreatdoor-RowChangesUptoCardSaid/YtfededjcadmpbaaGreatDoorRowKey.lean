/- Rows' keys: row.Key, caissonref14.Key, row.IndexPrefix. -/
import Derived.Test.YtfededjcadmpbaaGreatDoorVKey
import Derived.Test.YtfededjcadmpbaaGreatDoorKeyA
import Derived.Test.YtfededjcadmpbaaGreatDoorAwakeR
import Derived.Test.YtfededjcadmpbaaGreatDoorRFits
import Derived.Deep.RegionLaw
namespace Go.Proofs.YtfededjcadmpbaaGreatDoor
open Go.RowKit

theorem size_runes (s : ByteArray) : ∀ f pos, s.size ≤ pos + f → s.size ≤ pos + 4 * (runesFrom s f pos).length
  | 0, pos, h => by omega
  | f + 1, pos, h => by
    by_cases hp : pos < s.size
    · have hw := Lib.decode_width_pos s pos hp
      have h4 := width_le s pos
      have ih := size_runes s f (pos + (Utf8.decode s pos).2) (by omega)
      rw [show runesFrom s (f + 1) pos = _ from if_pos hp, List.length_cons]
      omega
    · omega
theorem valErr_sm {c : LCol} {x : LVal} (h : valErr c x = 0) : x.sm := by
  refine ⟨?_, Nat.le_trans (valErr_len h) (by decide)⟩
  unfold valErr at h
  by_cases h1 : x.err ≠ 0
  · rw [if_pos h1] at h; cases h
  rw [if_neg h1] at h
  by_cases h2 : x.isT = true ∧ 200 < (runesL x.t).length
  · rw [if_pos h2] at h; cases h
  cases x with
  | text s =>
    have h3 : (runesL s).length ≤ 200 := Nat.le_of_not_lt fun h4 => h2 ⟨rfl, h4⟩
    have h4 := size_runes s s.size 0 (by omega)
    have h5 : (runesFrom s s.size 0).length = (runesL s).length := rfl
    show s.size ≤ 1048576
    omega
  | _ => exact Nat.zero_le _
theorem values_sm {cols : List LCol} {xs : List LVal} (hl : xs.length ≤ cols.length) (h : valuesE cols xs 0 = 0) : ∀ x ∈ xs, x.sm := fun x hx => by
  obtain ⟨i, hi, rfl⟩ := List.getElem_of_mem hx
  exact valErr_sm ((valuesE_zero hl h).2 i (by omega) hi)
/-- a key and an error -/
def RetKeyE (E : Int) (K : List UInt8) (w : World) (en : Ending) (w' : World) : Prop :=
  ∃ D d, en = .returned (.tuple #[.slice D K.length d, .int .i64 E]) ∧ OwnB w.heap.size w' D K d ∧ Below w.heap.size w w'
theorem RetKeyE.none {E E' : Int} {K : List UInt8} {w w' : World} (hE : Hid (E = E')) (hK : Hid (K = [])) (b : Below w.heap.size w w') : RetKeyE E K w (.returned (.tuple #[.slice none 0 0, .int .i64 E'])) w' := by
  rw [hE.out, hK.out]
  exact ⟨Option.none, 0, rfl, OwnB.nil_ _ _, b⟩
theorem keyB_ne {id keys : Int} {tn : ByteArray} {cols : List LCol} {ixs : List LIx} {xs : List LVal} {E : Int} (h : keyE id keys tn cols ixs xs = E) (h2 : E ≠ 0) : keyB id keys tn cols ixs xs = [] := by
  unfold keyB; rw [h, if_neg h2]
theorem keyE_check {id keys : Int} {tn : ByteArray} {cols : List LCol} {ixs : List LIx} {xs : List LVal} (h : checkI id keys tn cols ixs ≠ 0) : keyE id keys tn cols ixs xs = checkI id keys tn cols ixs := if_pos h
theorem keyE_arg {id keys : Int} {tn : ByteArray} {cols : List LCol} {ixs : List LIx} {xs : List LVal} (h : checkI id keys tn cols ixs = 0) (h1 : (xs.length : Int) ≠ keys) (h2 : xs.length ≠ cols.length) : keyE id keys tn cols ixs xs = 1 := by
  unfold keyE; rw [if_neg (fun h3 => h3 h), if_pos ⟨h1, h2⟩]
theorem keyE_vals {id keys : Int} {tn : ByteArray} {cols : List LCol} {ixs : List LIx} {xs : List LVal} (h : checkI id keys tn cols ixs = 0) (h1 : (xs.length : Int) = keys ∨ xs.length = cols.length) : keyE id keys tn cols ixs xs = valuesE cols xs 0 := by
  unfold keyE; rw [if_neg (fun h3 => h3 h), if_neg (fun h3 => h1.elim h3.1 h3.2)]
theorem prefix_bs (id keys : Int) (tn : ByteArray) (A B : Option Addr) (n cc m ci : Nat) (w : World) :
    Calls Tryz.prog 33 #[.agg #[.int .i64 id, .string tn, .slice A n cc, .int .i64 keys, .slice B m ci]] w (RetBs [114, UInt8.ofInt id] w) := by
  refine (prefix_any id keys tn A B n cc m ci w).mono ?_
  rintro en w2 ⟨A2, rfl, o, b⟩
  exact ⟨A2, 2, rfl, o, b⟩
theorem idxprefix_any (id keys i : Int) (tn : ByteArray) (A B : Option Addr) (n cc m ci : Nat) (w : World) :
    Calls Tryz.prog 50 #[.agg #[.int .i64 id, .string tn, .slice A n cc, .int .i64 keys, .slice B m ci], .int .i64 i] w (RetBs [105, UInt8.ofInt id, UInt8.ofInt i] w) := by
  go_enter Tryz.func50, Tryz.ntmps50
  go_wp2_with fail
  go_ret
  have hv : ([105, UInt8.ofInt id, UInt8.ofInt i] : List UInt8).map bval = [.int .u8 105, .int .u8 (id % 256), .int .u8 (i % 256)] := by
    simp only [List.map_cons, List.map_nil, bval, mod_u8]; rfl
  refine ⟨some ⟨w.heap.size + 1, 0, none⟩, 3, rfl, ?_, ((Below.refl _ _).alloc (Nat.le_refl _) _).alloc (by simp) _⟩
  rw [hv]
  have hb := Blk.new (w.alloc (.cells #[.int .i64 id, .string tn, .slice A n cc, .int .i64 keys, .slice B m ci] 25)) 5 #[.int .u8 105, .int .u8 (id % 256), .int .u8 (i % 256)]
  have := own_of_blk (base := w.heap.size) (xs := [.int .u8 105, .int .u8 (id % 256), .int .u8 (i % 256)]) hb (by simp) (by simp only [maxLen, List.length_cons, List.length_nil]; omega)
  simpa using this

set_option maxRecDepth 100000 in
set_option maxHeartbeats 4000000 in
theorem rowkey_any (id keys : Int) (tn : ByteArray) (cols : List LCol) (ixs : List LIx) (xs : List LVal) (A B C : Option Addr) (ca cb cc : Nat) (w : World) (hA : Sl ColE w A cols) (hB : Sl IxE w B ixs) (hC : Sl AnyE w C xs) (hn : tn.size ≤ 140737488351232) (hu : U8 w)
    (hx : ∀ x ∈ xs, x.err = 0 ∧ x.wfv) (hca : cols.length ≤ ca ∧ ca ≤ 9223372036854775807) (hcc : xs.length ≤ cc ∧ cc ≤ 9223372036854775807) :
    Calls Tryz.prog 13 #[.agg #[.int .i64 id, .string tn, .slice A cols.length ca, .int .i64 keys, .slice B ixs.length cb], .slice C xs.length cc] w (RetKeyE (keyE id keys tn cols ixs xs) (keyB id keys tn cols ixs xs) w) := by
  have HX := Lib.hid hx
  clear hx
  have b0 : Below w.heap.size w (w.alloc (.cells #[.int .i64 id, .string tn, .slice A cols.length ca, .int .i64 keys, .slice B ixs.length cb] 25)) := (Below.refl _ _).alloc (Nat.le_refl _) _
  have k0 := Blk.new w 25 #[.int .i64 id, .string tn, .slice A cols.length ca, .int .i64 keys, .slice B ixs.length cb]
  have hA0 := hA.below b0
  have hB0 := hB.below b0
  go_enter Tryz.func13, Tryz.ntmps13
  go_wp2_with fail
  generalize (w.alloc (.cells #[.int .i64 id, .string tn, .slice A cols.length ca, .int .i64 keys, .slice B ixs.length cb] 25)) = W0 at *
  refine (check_any id keys tn A B ca cb cols ixs W0 hA0.cols hB0.ixs hn hA0.cnames hB0.xnames).mono ?_
  rintro en w1 ⟨rfl, b1⟩
  have b01 := b0.trans (b1.mono b0.size)
  have k1 := k0.below b1 k0.lt
  clear hA0 hB0 b0 b1 k0
  by_cases h0 : checkI id keys tn cols ixs = 0
  · obtain ⟨hi1, hi2, hk1, hk2, hc16⟩ := check_head h0
    have d0 : (checkI id keys tn cols ixs != 0) = false := by rw [h0]; rfl
    have q2 : w1.cell? ⟨w.heap.size, 2, none⟩ = some (.slice A cols.length ca) := k1.cell 2
    have q3 : w1.cell? ⟨w.heap.size, 3, none⟩ = some (.int .i64 keys) := k1.cell 3
    by_cases hor : (xs.length : Int) = keys ∨ xs.length = cols.length
    · have HE := Lib.hid (keyE_vals (tn := tn) (ixs := ixs) (id := id) h0 hor)
      obtain ⟨kn, rfl⟩ : ∃ kn : Nat, keys = (kn : Int) := ⟨keys.toNat, by omega⟩
      have hxl : xs.length ≤ cols.length := by omega
      have hkx : kn ≤ xs.length := by omega
      obtain ⟨ad, rfl, _⟩ := ColE.at3 hA (k := 0) (by omega)
      obtain ⟨cd, v, rfl, _⟩ := AnyE.at_ hC (k := 0) (by omega)
      have hA1 : Sl ColE w (some ad) (cols.take xs.length) := hA.take xs.length hxl
      have T := values_any (cols.take xs.length) xs (some ad) (some cd) ca cc w1 (hA1.below b01) (hC.below b01) (by rw [List.length_take]; omega) (hu.below b01)
      rw [List.length_take, Nat.min_eq_left hxl, valuesE_take (Nat.le_refl _)] at T
      have z1 : (xs.length : Int) ≤ (ca : Int) := by omega
      have z2 : (kn : Int) ≤ (cc : Int) := by omega
      have hor2 : (((xs.length : Int) != (kn : Int)) = false) ∨ (((xs.length : Int) != (kn : Int)) = true ∧ ((xs.length : Int) != (cols.length : Int)) = false) := by
        by_cases h1 : (xs.length : Int) = (kn : Int)
        · exact .inl (by rw [h1]; simp)
        · exact .inr ⟨by rw [bne_iff_ne]; exact h1, by rw [bne_eq_false_iff_eq]; omega⟩
      have H0 := Lib.hid h0
      clear h0 hor hA1
      generalize hV : valuesE cols xs 0 = V at *
      have HV := Lib.hid hV
      clear hV
      rcases hor2 with d1 | ⟨d1, d2⟩
      all_goals
        go_wp2_with fail
        refine T.mono ?_
        rintro en w2 ⟨rfl, b2⟩
        clear T q2 q3
        have b02 := b01.trans (b2.mono b01.size)
        have k2 := k1.below b2 k1.lt
        by_cases hv0 : V = 0
        · have d3 : (V != 0) = false := by rw [hv0]; rfl
          have HK : Hid (keyB id kn tn cols ixs xs = [114, UInt8.ofInt id] ++ keyL (xs.take kn)) := by
            show _ = _; unfold keyB; rw [HE.out, if_pos hv0]; rfl
          have hsm := values_sm hxl (HV.out.trans hv0)
          have hsm2 : ∀ x ∈ xs.take kn, x.sm := fun x hx => hsm x (List.mem_of_mem_take hx)
          have hkl := keyL_len hsm2
          have q3 : w2.cell? ⟨w.heap.size, 3, none⟩ = some (.int .i64 (kn : Int)) := k2.cell 3
          have hlt : (xs.take kn).length = kn := by rw [List.length_take]; omega
          have T2 := ckey_any (xs.take kn) (some cd) cc w2 ((hC.below b02).take kn hkx) hsm2 (fun x hx => HX.out x (List.mem_of_mem_take hx)) (by rw [hlt]; omega)
          rw [hlt] at T2 hkl
          have HE0 : Hid (keyE id kn tn cols ixs xs = 0) := by show _ = _; rw [HE.out, hv0]
          generalize keyL (xs.take kn) = KL at *
          clear hv0 hlt hsm hsm2 HX HE H0
          go_wp2_with fail
          refine T2.mono ?_
          rintro en w3 ⟨B3, d3_, rfl, o3, b3⟩
          have b03 := b02.trans (b3.mono b02.size)
          have k3 := k2.below b3 k2.lt
          clear q3 T2
          go_wp2_with ((with_reducible refine wpList_load_blk rfl 25 (.tmp 2) rfl w.heap.size ?_ 25 _ _ k3 Tryz.underlying25 ?_ Tryz.size_TableV ?_ ?_); rfl; rfl; rfl)
          refine (prefix_bs id kn tn (some ad) B cols.length ca ixs.length cb w3).mono ?_
          rintro en w4 ⟨A4, c4, rfl, o4, b4⟩
          have b04 := b03.trans (b4.mono b03.size)
          have h34 : Bs w4 B3 KL := (o3.below b4).bs (by omega)
          have o4b : OwnB w.heap.size w4 A4 [114, UInt8.ofInt id] c4 := OwnB.base o4 b03.size
          go_wp2_with (at_builtin; refine wpList_app w.heap.size w _ rfl (.tmp 47) (.tmp 48) rfl A4 [114, UInt8.ofInt id] c4 rfl o4b _ KL _ rfl h34 (by simp only [List.length_cons, List.length_nil]; omega) b04 (Nat.le_refl _) b04.size ?_; intro B5 d5 acc5 w5 H5 o5 b5 g5 t5)
          go_ret2
          rw [HK.out, HE0.out, ← H5.out]
          exact ⟨B5, d5, rfl, o5, b5⟩
        · have d3 : (V != 0) = true := by rw [bne_iff_ne]; exact hv0
          have HK := Lib.hid (keyB_ne HE.out hv0)
          clear hv0
          go_wp2_with fail
          go_ret2
          exact RetKeyE.none HE HK b02
    · have d1 : ((xs.length : Int) != keys) = true := by rw [bne_iff_ne]; exact fun h => hor (.inl h)
      have d2 : ((xs.length : Int) != (cols.length : Int)) = true := by rw [bne_iff_ne]; exact fun h => hor (.inr (by omega))
      have HE := Lib.hid (keyE_arg (tn := tn) (ixs := ixs) (id := id) h0 (fun h => hor (.inl h)) (fun h => hor (.inr h)))
      have HK := Lib.hid (keyB_ne HE.out (by decide))
      clear h0 hor
      go_wp2_with fail
      go_ret2
      exact RetKeyE.none HE HK b01
  · have d0 : (checkI id keys tn cols ixs != 0) = true := by rw [bne_iff_ne]; exact h0
    have HE := Lib.hid (keyE_check (xs := xs) h0)
    have HK := Lib.hid (keyB_ne HE.out h0)
    clear h0
    go_wp2_with fail
    go_ret2
    exact RetKeyE.none HE HK b01
end Go.Proofs.YtfededjcadmpbaaGreatDoor
