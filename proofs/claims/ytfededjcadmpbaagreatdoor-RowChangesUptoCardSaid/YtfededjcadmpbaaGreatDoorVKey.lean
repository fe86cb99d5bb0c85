/- Keys of values: cell.Key and caissonref06.Key. (Printed by wip/gen_vkey.py.) -/
import Derived.Test.YtfededjcadmpbaaGreatDoorTKey
import Derived.Test.YtfededjcadmpbaaGreatDoorOrdI
import Derived.Test.YtfededjcadmpbaaGreatDoorRVals
namespace Go.Proofs.YtfededjcadmpbaaGreatDoor
open Go.RowKit

theorem CelE.at6 {w : World} {A : Option Addr} {S : Nat → Prop} {l : List LVal} (h : SlS CelE w S A l) {k : Nat} (hk : k < l.length) :
    ∃ ad D c, A = some ad ∧ ad.block < w.heap.size ∧ w.cell? (ad.add (k * 5)) = some (.int .i64 l[k].kind) ∧ w.cell? ⟨(ad.add (k * 5)).block, (ad.add (k * 5)).off + 1, none⟩ = some (.bool l[k].b) ∧ w.cell? ⟨(ad.add (k * 5)).block, (ad.add (k * 5)).off + 2, none⟩ = some (.int .i64 l[k].n) ∧
      w.cell? ⟨(ad.add (k * 5)).block, (ad.add (k * 5)).off + 3, none⟩ = some (.string l[k].t) ∧ w.cell? ⟨(ad.add (k * 5)).block, (ad.add (k * 5)).off + 4, none⟩ = some (.slice D l[k].l.length c) ∧ Bs w D l[k].l ∧ At S D l[k].l.length := by
  obtain ⟨ad, vs, rfl, hb, ⟨D, c, rfl, h1, h2, h3, h6, h7⟩, h4, _, h5⟩ := SlS.at_ h hk
  exact ⟨ad, D, c, rfl, hb, h4 _ rfl, h5 1 _ (by omega) rfl, h5 2 _ (by omega) rfl, h5 3 _ (by omega) rfl, h5 4 _ (by omega) rfl, h1, h2⟩
theorem keyL_drop {xs : List LVal} {k : Nat} (h : k < xs.length) : keyL (xs.drop k) = (xs[k]).key ++ keyL (xs.drop (k + 1)) := by
  rw [List.drop_eq_getElem_cons h]; rfl
theorem truth_any (b : Bool) (w : World) : Calls Tryz.prog 47 #[.bool b] w fun e w' => e = .returned (.int .i64 (if b then 1 else 0)) ∧ w' = w := by
  cases b <;>
  · go_enter Tryz.func47, Tryz.ntmps47
    go_wp2_with fail
    go_ret
    exact ⟨rfl, rfl⟩
theorem lit2 (w : World) (o : Obj) (l : List UInt8) (t : TypeId) (hl : l.length ≤ 140737488355328) : Bs ((w.alloc o).alloc (.cells (l.map bval).toArray t)) (some ⟨w.heap.size + 1, 0, none⟩) l := by
  have := Bs.lit (w.alloc o) l t hl
  rw [show (w.alloc o).heap.size = w.heap.size + 1 from by simp] at this
  exact this
/-- a key and no error -/
def RetKey (l : List UInt8) (w : World) (en : Ending) (w' : World) : Prop :=
  ∃ B d, en = .returned (.tuple #[.slice B l.length d, .int .i64 0]) ∧ OwnB w.heap.size w' B l d ∧ Below w.heap.size w w'

set_option maxRecDepth 100000 in
set_option maxHeartbeats 8000000 in
theorem ckey_any (xs : List LVal) (A : Option Addr) (c : Nat) (w : World) (hA : Sl AnyE w A xs) (hsm : ∀ x ∈ xs, x.sm) (hx : ∀ x ∈ xs, x.err = 0 ∧ x.wfv) (hlen : xs.length ≤ 4096) :
    Calls Tryz.prog 32 #[.slice A xs.length c] w (RetKey (keyL xs) w) := by
  have HSM := Lib.hid hsm
  have HX := Lib.hid hx
  clear hsm hx
  go_enter Tryz.func32, Tryz.ntmps32
  go_wp2_with fail
  go_loopw [4, 6, 7, 8, 11] (fun o _ _ _ i wr => ∃ (k : Nat) (acc : List UInt8) (B : Option Addr) (d : Nat), k ≤ xs.length ∧ i = .int .i64 (k : Int) ∧ o = .slice B acc.length d ∧ OwnB w.heap.size wr B acc d ∧ acc ++ keyL (xs.drop k) = keyL xs ∧ acc.length ≤ 16777216 * k ∧ Below w.heap.size w wr) (fun _ _ _ _ i _ => xs.length - (intOf i).toNat)
  case atStart => exact ⟨0, [], none, 0, Nat.zero_le _, rfl, rfl, OwnB.nil_ _ _, rfl, by simp, Below.refl _ _⟩
  case round =>
    obtain ⟨k, acc, B, d, hk, rfl, rfl, o, ha, hal, br⟩ := hrel
    have HA := Lib.hid ha
    clear ha
    have zr := br.size
    by_cases hlt : k < xs.length
    · have hlt' : (k : Int) < (xs.length : Int) := by omega
      have HD := Lib.hid (keyL_drop hlt)
      have hsmx : LVal.sm xs[k] := HSM.out _ (List.getElem_mem hlt)
      have hkl := key_len hsmx
      obtain ⟨herr, hwf⟩ := HX.out _ (List.getElem_mem hlt)
      obtain ⟨ad, v, rfl, h1, h2, hv0⟩ := AnyE.at_ (hA.below br) hlt
      obtain ⟨x, hxx⟩ : ∃ x, xs[k] = x := ⟨_, rfl⟩
      rw [hxx] at hv0 hsmx hkl herr hwf HD
      clear hxx
      have hv : AnyV wr Any v x := hv0
      clear hv0
      cases x with
      | other n => exact absurd herr (show ¬ ((10 : Int) = 0) by decide)
      | null =>
        go_wp2_with fail
        refine (cell_any v .null wr hv).mono ?_
        rintro en w2 ⟨D2, c2, rfl, hD2, hat2, b2⟩
        simp only [LVal.kind, LVal.b, LVal.n, LVal.t, LVal.l, LVal.err, List.length_nil]
        have z2 := b2.size
        have bc := br.trans (b2.mono zr)
        have oc := o.below b2
        have kc0 := (Blk.new w2 48 #[.int .i64 0, .bool false, .int .i64 0, .string ⟨#[]⟩, .slice D2 0 c2]).alloc (.cells #[.int .u8 0] 5)
        have dX : Below w2.heap.size w2 ((w2.alloc (.cells #[.int .i64 0, .bool false, .int .i64 0, .string ⟨#[]⟩, .slice D2 0 c2] 48)).alloc (.cells #[.int .u8 0] 5)) := ((Below.refl _ _).alloc (Nat.le_refl _) _).alloc (by simp) _
        have bX := bc.trans (dX.mono bc.size)
        have oX := oc.below dX
        have hlit := lit2 w2 (.cells #[.int .i64 0, .bool false, .int .i64 0, .string ⟨#[]⟩, .slice D2 0 c2] 48) [0] 5 (by decide)
        have hrow : some w2.heap.size ≠ (Value.slice B acc.length d).ownBlock := fun e => by have := OwnB.lt oc _ e.symm; omega
        have HE : Hid ((acc ++ [0]) ++ keyL (xs.drop (k + 1)) = keyL xs) := by show _ = _; rw [← HA.out, HD.out, List.append_assoc]; rfl
        clear HA HD
        go_wp2_with (at_builtin; (refine wpList_app w.heap.size w _ rfl (.tmp 23) (.tmp 27) rfl B acc d rfl oX _ [0] 1 rfl hlit (by rw [List.length_singleton]; omega) bX (Nat.le_refl _) bX.size ?_; intro B1 d1 acc1 w5 H1 o1 b1 g1 t1; have L1 : acc1.length ≤ acc.length + 1 := (by rw [H1.out, List.length_append]; exact Nat.le_refl _); have kc5 := kc0.grown g1 hrow; have q0 : w5.cell? ⟨w2.heap.size, 0, none⟩ = some (.int .i64 0) := kc5.cell 0))
        go_roundw
        case rel => exact ⟨k + 1, acc1, B1, d1, by omega, by go_num, rfl, o1, by rw [H1.out]; exact HE.out, by rw [H1.out, List.length_append, List.length_singleton]; omega, b1⟩
        case measure => simp [intOf]; omega
      | bool b =>
        cases b with
        | true =>
          go_wp2_with fail
          refine (cell_any v (.bool true) wr hv).mono ?_
          rintro en w2 ⟨D2, c2, rfl, hD2, hat2, b2⟩
          simp only [LVal.kind, LVal.b, LVal.n, LVal.t, LVal.l, LVal.err, List.length_nil]
          have z2 := b2.size
          have bc := br.trans (b2.mono zr)
          have oc := o.below b2
          have kc0 := (Blk.new w2 48 #[.int .i64 1, .bool true, .int .i64 0, .string ⟨#[]⟩, .slice D2 0 c2]).alloc (.cells #[.int .u8 1] 5)
          have dX : Below w2.heap.size w2 ((w2.alloc (.cells #[.int .i64 1, .bool true, .int .i64 0, .string ⟨#[]⟩, .slice D2 0 c2] 48)).alloc (.cells #[.int .u8 1] 5)) := ((Below.refl _ _).alloc (Nat.le_refl _) _).alloc (by simp) _
          have bX := bc.trans (dX.mono bc.size)
          have oX := oc.below dX
          have hlit := lit2 w2 (.cells #[.int .i64 1, .bool true, .int .i64 0, .string ⟨#[]⟩, .slice D2 0 c2] 48) [1] 5 (by decide)
          have hrow : some w2.heap.size ≠ (Value.slice B acc.length d).ownBlock := fun e => by have := OwnB.lt oc _ e.symm; omega
          have HE : Hid ((acc ++ [1]) ++ [1] ++ keyL (xs.drop (k + 1)) = keyL xs) := by show _ = _; rw [← HA.out, HD.out]; simp only [List.append_assoc]; rfl
          clear HA HD
          go_wp2_with (at_builtin; (refine wpList_app w.heap.size w _ rfl (.tmp 23) (.tmp 27) rfl B acc d rfl oX _ [1] 1 rfl hlit (by rw [List.length_singleton]; omega) bX (Nat.le_refl _) bX.size ?_; intro B1 d1 acc1 w5 H1 o1 b1 g1 t1; have L1 : acc1.length ≤ acc.length + 1 := (by rw [H1.out, List.length_append]; exact Nat.le_refl _); have kc5 := kc0.grown g1 hrow; have q0 : w5.cell? ⟨w2.heap.size, 0, none⟩ = some (.int .i64 1) := kc5.cell 0; have q1 : w5.cell? ⟨w2.heap.size, 1, none⟩ = some (.bool true) := kc5.cell 1))
          refine (truth_any true w5).mono ?_
          rintro en wt ⟨rfl, rfl⟩
          simp only [if_true]
          have dY : Below wt.heap.size wt (wt.alloc (.cells #[.int .u8 1] 5)) := (Below.refl _ _).alloc (Nat.le_refl _) _
          have bY := b1.trans (dY.mono b1.size)
          have oY := o1.below dY
          go_wp2_with (at_builtin; (refine wpList_app w.heap.size w _ rfl (.tmp 33) (.tmp 38) rfl B1 acc1 d1 rfl oY _ [1] 1 rfl (Bs.lit wt [1] _ (by decide)) (by rw [List.length_singleton]; omega) bY (Nat.le_refl _) bY.size ?_; intro B2 d2 acc2 w7 H2 o2 b7 g2 t2))
          go_roundw
          case rel => exact ⟨k + 1, acc2, B2, d2, by omega, by go_num, rfl, o2, by rw [H2.out, H1.out]; exact HE.out, by rw [H2.out, List.length_append]; first | omega | (rw [List.length_singleton]; omega), b7⟩
          case measure => simp [intOf]; omega
        | false =>
          go_wp2_with fail
          refine (cell_any v (.bool false) wr hv).mono ?_
          rintro en w2 ⟨D2, c2, rfl, hD2, hat2, b2⟩
          simp only [LVal.kind, LVal.b, LVal.n, LVal.t, LVal.l, LVal.err, List.length_nil]
          have z2 := b2.size
          have bc := br.trans (b2.mono zr)
          have oc := o.below b2
          have kc0 := (Blk.new w2 48 #[.int .i64 1, .bool false, .int .i64 0, .string ⟨#[]⟩, .slice D2 0 c2]).alloc (.cells #[.int .u8 1] 5)
          have dX : Below w2.heap.size w2 ((w2.alloc (.cells #[.int .i64 1, .bool false, .int .i64 0, .string ⟨#[]⟩, .slice D2 0 c2] 48)).alloc (.cells #[.int .u8 1] 5)) := ((Below.refl _ _).alloc (Nat.le_refl _) _).alloc (by simp) _
          have bX := bc.trans (dX.mono bc.size)
          have oX := oc.below dX
          have hlit := lit2 w2 (.cells #[.int .i64 1, .bool false, .int .i64 0, .string ⟨#[]⟩, .slice D2 0 c2] 48) [1] 5 (by decide)
          have hrow : some w2.heap.size ≠ (Value.slice B acc.length d).ownBlock := fun e => by have := OwnB.lt oc _ e.symm; omega
          have HE : Hid ((acc ++ [1]) ++ [0] ++ keyL (xs.drop (k + 1)) = keyL xs) := by show _ = _; rw [← HA.out, HD.out]; simp only [List.append_assoc]; rfl
          clear HA HD
          go_wp2_with (at_builtin; (refine wpList_app w.heap.size w _ rfl (.tmp 23) (.tmp 27) rfl B acc d rfl oX _ [1] 1 rfl hlit (by rw [List.length_singleton]; omega) bX (Nat.le_refl _) bX.size ?_; intro B1 d1 acc1 w5 H1 o1 b1 g1 t1; have L1 : acc1.length ≤ acc.length + 1 := (by rw [H1.out, List.length_append]; exact Nat.le_refl _); have kc5 := kc0.grown g1 hrow; have q0 : w5.cell? ⟨w2.heap.size, 0, none⟩ = some (.int .i64 1) := kc5.cell 0; have q1 : w5.cell? ⟨w2.heap.size, 1, none⟩ = some (.bool false) := kc5.cell 1))
          refine (truth_any false w5).mono ?_
          rintro en wt ⟨rfl, rfl⟩
          simp only [if_false, Bool.false_eq_true]
          have dY : Below wt.heap.size wt (wt.alloc (.cells #[.int .u8 0] 5)) := (Below.refl _ _).alloc (Nat.le_refl _) _
          have bY := b1.trans (dY.mono b1.size)
          have oY := o1.below dY
          go_wp2_with (at_builtin; (refine wpList_app w.heap.size w _ rfl (.tmp 33) (.tmp 38) rfl B1 acc1 d1 rfl oY _ [0] 1 rfl (Bs.lit wt [0] _ (by decide)) (by rw [List.length_singleton]; omega) bY (Nat.le_refl _) bY.size ?_; intro B2 d2 acc2 w7 H2 o2 b7 g2 t2))
          go_roundw
          case rel => exact ⟨k + 1, acc2, B2, d2, by omega, by go_num, rfl, o2, by rw [H2.out, H1.out]; exact HE.out, by rw [H2.out, List.length_append]; first | omega | (rw [List.length_singleton]; omega), b7⟩
          case measure => simp [intOf]; omega
      | int n =>
        go_wp2_with fail
        refine (cell_any v (.int n) wr hv).mono ?_
        rintro en w2 ⟨D2, c2, rfl, hD2, hat2, b2⟩
        simp only [LVal.kind, LVal.b, LVal.n, LVal.t, LVal.l, LVal.err, List.length_nil]
        have z2 := b2.size
        have bc := br.trans (b2.mono zr)
        have oc := o.below b2
        have kc0 := (Blk.new w2 48 #[.int .i64 2, .bool false, .int .i64 n, .string ⟨#[]⟩, .slice D2 0 c2]).alloc (.cells #[.int .u8 2] 5)
        have dX : Below w2.heap.size w2 ((w2.alloc (.cells #[.int .i64 2, .bool false, .int .i64 n, .string ⟨#[]⟩, .slice D2 0 c2] 48)).alloc (.cells #[.int .u8 2] 5)) := ((Below.refl _ _).alloc (Nat.le_refl _) _).alloc (by simp) _
        have bX := bc.trans (dX.mono bc.size)
        have oX := oc.below dX
        have hlit := lit2 w2 (.cells #[.int .i64 2, .bool false, .int .i64 n, .string ⟨#[]⟩, .slice D2 0 c2] 48) [2] 5 (by decide)
        have hrow : some w2.heap.size ≠ (Value.slice B acc.length d).ownBlock := fun e => by have := OwnB.lt oc _ e.symm; omega
        have HE : Hid ((acc ++ [2]) ++ okey n ++ keyL (xs.drop (k + 1)) = keyL xs) := by show _ = _; rw [← HA.out, HD.out]; simp only [List.append_assoc]; rfl
        have hK : (okey n).length + 1 ≤ 16777216 := hkl
        clear HA HD
        go_wp2_with (at_builtin; (refine wpList_app w.heap.size w _ rfl (.tmp 23) (.tmp 27) rfl B acc d rfl oX _ [2] 1 rfl hlit (by rw [List.length_singleton]; omega) bX (Nat.le_refl _) bX.size ?_; intro B1 d1 acc1 w5 H1 o1 b1 g1 t1; have L1 : acc1.length ≤ acc.length + 1 := (by rw [H1.out, List.length_append]; exact Nat.le_refl _); have kc5 := kc0.grown g1 hrow; have q0 : w5.cell? ⟨w2.heap.size, 0, none⟩ = some (.int .i64 2) := kc5.cell 0; have q2 : w5.cell? ⟨w2.heap.size, 2, none⟩ = some (.int .i64 n) := kc5.cell 2))
        refine (ordi_any n hwf.1 hwf.2 w5).mono ?_
        rintro en w6 ⟨A6, c6, rfl, o6, b6⟩
        have bs6 : Bs w6 A6 (okey n) := Bs.of_own o6 (by omega)
        have b16 := b1.trans (b6.mono b1.size)
        have o16 := o1.below b6
        generalize okey n = K at *
        go_wp2_with (at_builtin; (refine wpList_app w.heap.size w _ rfl (.tmp 42) (.tmp 45) rfl B1 acc1 d1 rfl o16 _ K _ rfl bs6 (by omega) b16 (Nat.le_refl _) b16.size ?_; intro B2 d2 acc2 w7 H2 o2 b7 g2 t2))
        go_roundw
        case rel => exact ⟨k + 1, acc2, B2, d2, by omega, by go_num, rfl, o2, by rw [H2.out, H1.out]; exact HE.out, by rw [H2.out, List.length_append]; first | omega | (rw [List.length_singleton]; omega), b7⟩
        case measure => simp [intOf]; omega
      | text s =>
        go_wp2_with fail
        refine (cell_any v (.text s) wr hv).mono ?_
        rintro en w2 ⟨D2, c2, rfl, hD2, hat2, b2⟩
        simp only [LVal.kind, LVal.b, LVal.n, LVal.t, LVal.l, LVal.err, List.length_nil]
        have z2 := b2.size
        have bc := br.trans (b2.mono zr)
        have oc := o.below b2
        have kc0 := (Blk.new w2 48 #[.int .i64 3, .bool false, .int .i64 0, .string s, .slice D2 0 c2]).alloc (.cells #[.int .u8 3] 5)
        have dX : Below w2.heap.size w2 ((w2.alloc (.cells #[.int .i64 3, .bool false, .int .i64 0, .string s, .slice D2 0 c2] 48)).alloc (.cells #[.int .u8 3] 5)) := ((Below.refl _ _).alloc (Nat.le_refl _) _).alloc (by simp) _
        have bX := bc.trans (dX.mono bc.size)
        have oX := oc.below dX
        have hlit := lit2 w2 (.cells #[.int .i64 3, .bool false, .int .i64 0, .string s, .slice D2 0 c2] 48) [3] 5 (by decide)
        have hrow : some w2.heap.size ≠ (Value.slice B acc.length d).ownBlock := fun e => by have := OwnB.lt oc _ e.symm; omega
        have HE : Hid ((acc ++ [3]) ++ tkey s ++ keyL (xs.drop (k + 1)) = keyL xs) := by show _ = _; rw [← HA.out, HD.out]; simp only [List.append_assoc]; rfl
        have hK : (tkey s).length + 1 ≤ 16777216 := hkl
        clear HA HD
        go_wp2_with (at_builtin; (refine wpList_app w.heap.size w _ rfl (.tmp 23) (.tmp 27) rfl B acc d rfl oX _ [3] 1 rfl hlit (by rw [List.length_singleton]; omega) bX (Nat.le_refl _) bX.size ?_; intro B1 d1 acc1 w5 H1 o1 b1 g1 t1; have L1 : acc1.length ≤ acc.length + 1 := (by rw [H1.out, List.length_append]; exact Nat.le_refl _); have kc5 := kc0.grown g1 hrow; have q0 : w5.cell? ⟨w2.heap.size, 0, none⟩ = some (.int .i64 3) := kc5.cell 0; have q3 : w5.cell? ⟨w2.heap.size, 3, none⟩ = some (.string s) := kc5.cell 3))
        refine (tkey_any s hsmx.1 w5).mono ?_
        rintro en w6 ⟨A6, c6, rfl, o6, b6⟩
        have bs6 : Bs w6 A6 (tkey s) := Bs.of_own o6 (by omega)
        have b16 := b1.trans (b6.mono b1.size)
        have o16 := o1.below b6
        generalize tkey s = K at *
        go_wp2_with (at_builtin; (refine wpList_app w.heap.size w _ rfl (.tmp 49) (.tmp 52) rfl B1 acc1 d1 rfl o16 _ K _ rfl bs6 (by omega) b16 (Nat.le_refl _) b16.size ?_; intro B2 d2 acc2 w7 H2 o2 b7 g2 t2))
        go_roundw
        case rel => exact ⟨k + 1, acc2, B2, d2, by omega, by go_num, rfl, o2, by rw [H2.out, H1.out]; exact HE.out, by rw [H2.out, List.length_append]; first | omega | (rw [List.length_singleton]; omega), b7⟩
        case measure => simp [intOf]; omega
      | bytes dl =>
        go_wp2_with fail
        refine (cell_any v (.bytes dl) wr hv).mono ?_
        rintro en w2 ⟨D2, c2, rfl, hD2, hat2, b2⟩
        simp only [LVal.kind, LVal.b, LVal.n, LVal.t, LVal.l, LVal.err]
        have z2 := b2.size
        have bc := br.trans (b2.mono zr)
        have oc := o.below b2
        have kc0 := (Blk.new w2 48 #[.int .i64 4, .bool false, .int .i64 0, .string ⟨#[]⟩, .slice D2 dl.length c2]).alloc (.cells #[.int .u8 4] 5)
        have dX : Below w2.heap.size w2 ((w2.alloc (.cells #[.int .i64 4, .bool false, .int .i64 0, .string ⟨#[]⟩, .slice D2 dl.length c2] 48)).alloc (.cells #[.int .u8 4] 5)) := ((Below.refl _ _).alloc (Nat.le_refl _) _).alloc (by simp) _
        have bX := bc.trans (dX.mono bc.size)
        have oX := oc.below dX
        have hlit := lit2 w2 (.cells #[.int .i64 4, .bool false, .int .i64 0, .string ⟨#[]⟩, .slice D2 dl.length c2] 48) [4] 5 (by decide)
        have hrow : some w2.heap.size ≠ (Value.slice B acc.length d).ownBlock := fun e => by have := OwnB.lt oc _ e.symm; omega
        have hDX := hD2.below dX
        have hnr : At (fun b => (Value.slice B acc.length d).ownBlock ≠ some b) D2 dl.length := fun ad e hn hr => by have h1 := hat2 ad e hn; have h2 := OwnB.lt o _ hr; omega
        have HE : Hid ((acc ++ [4]) ++ ordT dl ++ keyL (xs.drop (k + 1)) = keyL xs) := by show _ = _; rw [← HA.out, HD.out]; simp only [List.append_assoc]; rfl
        have hK : (ordT dl).length + 1 ≤ 16777216 := hkl
        clear HA HD
        go_wp2_with (at_builtin; (refine wpList_app w.heap.size w _ rfl (.tmp 23) (.tmp 27) rfl B acc d rfl oX _ [4] 1 rfl hlit (by rw [List.length_singleton]; omega) bX (Nat.le_refl _) bX.size ?_; intro B1 d1 acc1 w5 H1 o1 b1 g1 t1; have L1 : acc1.length ≤ acc.length + 1 := (by rw [H1.out, List.length_append]; exact Nat.le_refl _); have kc5 := kc0.grown g1 hrow; have q0 : w5.cell? ⟨w2.heap.size, 0, none⟩ = some (.int .i64 4) := kc5.cell 0; have q4 : w5.cell? ⟨w2.heap.size, 4, none⟩ = some (.slice D2 dl.length c2) := kc5.cell 4; have hD5 := hDX.grown g1 hnr))
        refine (ordtext_any D2 dl c2 w5 hD5 (Nat.le_trans hsmx.2 (by decide))).mono ?_
        rintro en w6 ⟨A6, c6, rfl, o6, b6⟩
        have bs6 : Bs w6 A6 (ordT dl) := Bs.of_own o6 (by omega)
        have b16 := b1.trans (b6.mono b1.size)
        have o16 := o1.below b6
        generalize ordT dl = K at *
        go_wp2_with (at_builtin; (refine wpList_app w.heap.size w _ rfl (.tmp 56) (.tmp 59) rfl B1 acc1 d1 rfl o16 _ K _ rfl bs6 (by omega) b16 (Nat.le_refl _) b16.size ?_; intro B2 d2 acc2 w7 H2 o2 b7 g2 t2))
        go_roundw
        case rel => exact ⟨k + 1, acc2, B2, d2, by omega, by go_num, rfl, o2, by rw [H2.out, H1.out]; exact HE.out, by rw [H2.out, List.length_append]; first | omega | (rw [List.length_singleton]; omega), b7⟩
        case measure => simp [intOf]; omega
    · obtain rfl : k = xs.length := by omega
      have HE : Hid (acc = keyL xs) := by show _ = _; rw [← HA.out, List.drop_length]; simp [keyL]
      clear HA
      go_wp2_with fail
      go_ret2
      rw [← HE.out]
      exact ⟨B, d, rfl, o, br⟩

set_option maxRecDepth 100000 in
set_option maxHeartbeats 8000000 in
theorem rckey_any (xs : List LVal) (A : Option Addr) (c : Nat) (w : World) (hA : Sl CelE w A xs) (hsm : ∀ x ∈ xs, x.sm) (hx : ∀ x ∈ xs, x.err = 0 ∧ x.wfv) (hlen : xs.length ≤ 4096) :
    Calls Tryz.prog 45 #[.slice A xs.length c] w (RetBs (keyL xs) w) := by
  have HSM := Lib.hid hsm
  have HX := Lib.hid hx
  clear hsm hx
  go_enter Tryz.func45, Tryz.ntmps45
  go_wp2_with fail
  go_loopw [3, 4, 5, 6] (fun o i _ _ wr => ∃ (k : Nat) (acc : List UInt8) (B : Option Addr) (d : Nat), k ≤ xs.length ∧ i = .int .i64 (k : Int) ∧ o = .slice B acc.length d ∧ OwnB w.heap.size wr B acc d ∧ acc ++ keyL (xs.drop k) = keyL xs ∧ acc.length ≤ 16777216 * k ∧ Below w.heap.size w wr) (fun _ i _ _ _ => xs.length - (intOf i).toNat)
  case atStart => exact ⟨0, [], none, 0, Nat.zero_le _, rfl, rfl, OwnB.nil_ _ _, rfl, by simp, Below.refl _ _⟩
  case round =>
    obtain ⟨k, acc, B, d, hk, rfl, rfl, o, ha, hal, br⟩ := hrel
    have HA := Lib.hid ha
    clear ha
    have zr := br.size
    by_cases hlt : k < xs.length
    · have hlt' : (k : Int) < (xs.length : Int) := by omega
      have HD := Lib.hid (keyL_drop hlt)
      have hsmx : LVal.sm xs[k] := HSM.out _ (List.getElem_mem hlt)
      have hkl := key_len hsmx
      obtain ⟨herr, hwf⟩ := HX.out _ (List.getElem_mem hlt)
      obtain ⟨ad, D2, c2, rfl, h1, f0, f1, f2, f3, f4, hD2, hat2⟩ := CelE.at6 (hA.old.below br) hlt
      obtain ⟨x, hxx⟩ : ∃ x, xs[k] = x := ⟨_, rfl⟩
      rw [hxx] at f0 f1 f2 f3 f4 hD2 hat2 hsmx hkl herr hwf HD
      clear hxx
      cases x with
      | other n => exact absurd herr (show ¬ ((10 : Int) = 0) by decide)
      | null =>
        simp only [LVal.kind, LVal.b, LVal.n, LVal.t, LVal.l, List.length_nil] at f0 f1 f2 f3 f4 hD2 hat2
        have bc := br
        have oc := o
        have kc0 := (Blk.new wr 48 #[.int .i64 0, .bool false, .int .i64 0, .string ⟨#[]⟩, .slice D2 0 c2]).alloc (.cells #[.int .u8 0] 5)
        have dX : Below wr.heap.size wr ((wr.alloc (.cells #[.int .i64 0, .bool false, .int .i64 0, .string ⟨#[]⟩, .slice D2 0 c2] 48)).alloc (.cells #[.int .u8 0] 5)) := ((Below.refl _ _).alloc (Nat.le_refl _) _).alloc (by simp) _
        have bX := bc.trans (dX.mono bc.size)
        have oX := oc.below dX
        have hlit := lit2 wr (.cells #[.int .i64 0, .bool false, .int .i64 0, .string ⟨#[]⟩, .slice D2 0 c2] 48) [0] 5 (by decide)
        have hrow : some wr.heap.size ≠ (Value.slice B acc.length d).ownBlock := fun e => by have := OwnB.lt oc _ e.symm; omega
        have HE : Hid ((acc ++ [0]) ++ keyL (xs.drop (k + 1)) = keyL xs) := by show _ = _; rw [← HA.out, HD.out, List.append_assoc]; rfl
        clear HA HD
        go_wp2_with (at_builtin; (refine wpList_app w.heap.size w _ rfl (.tmp 17) (.tmp 21) rfl B acc d rfl oX _ [0] 1 rfl hlit (by rw [List.length_singleton]; omega) bX (Nat.le_refl _) bX.size ?_; intro B1 d1 acc1 w5 H1 o1 b1 g1 t1; have L1 : acc1.length ≤ acc.length + 1 := (by rw [H1.out, List.length_append]; exact Nat.le_refl _); have kc5 := kc0.grown g1 hrow; have q0 : w5.cell? ⟨wr.heap.size, 0, none⟩ = some (.int .i64 0) := kc5.cell 0))
        go_roundw
        case rel => exact ⟨k + 1, acc1, B1, d1, by omega, by go_num, rfl, o1, by rw [H1.out]; exact HE.out, by rw [H1.out, List.length_append, List.length_singleton]; omega, b1⟩
        case measure => simp [intOf]; omega
      | bool b =>
        cases b with
        | true =>
          simp only [LVal.kind, LVal.b, LVal.n, LVal.t, LVal.l, List.length_nil] at f0 f1 f2 f3 f4 hD2 hat2
          have bc := br
          have oc := o
          have kc0 := (Blk.new wr 48 #[.int .i64 1, .bool true, .int .i64 0, .string ⟨#[]⟩, .slice D2 0 c2]).alloc (.cells #[.int .u8 1] 5)
          have dX : Below wr.heap.size wr ((wr.alloc (.cells #[.int .i64 1, .bool true, .int .i64 0, .string ⟨#[]⟩, .slice D2 0 c2] 48)).alloc (.cells #[.int .u8 1] 5)) := ((Below.refl _ _).alloc (Nat.le_refl _) _).alloc (by simp) _
          have bX := bc.trans (dX.mono bc.size)
          have oX := oc.below dX
          have hlit := lit2 wr (.cells #[.int .i64 1, .bool true, .int .i64 0, .string ⟨#[]⟩, .slice D2 0 c2] 48) [1] 5 (by decide)
          have hrow : some wr.heap.size ≠ (Value.slice B acc.length d).ownBlock := fun e => by have := OwnB.lt oc _ e.symm; omega
          have HE : Hid ((acc ++ [1]) ++ [1] ++ keyL (xs.drop (k + 1)) = keyL xs) := by show _ = _; rw [← HA.out, HD.out]; simp only [List.append_assoc]; rfl
          clear HA HD
          go_wp2_with (at_builtin; first | (refine wpList_app w.heap.size w _ rfl (.tmp 17) (.tmp 21) rfl B acc d rfl oX _ [1] 1 rfl hlit (by rw [List.length_singleton]; omega) bX (Nat.le_refl _) bX.size ?_; intro B1 d1 acc1 w5 H1 o1 b1 g1 t1; have L1 : acc1.length ≤ acc.length + 1 := (by rw [H1.out, List.length_append]; exact Nat.le_refl _); have kc5 := kc0.grown g1 hrow; have q0 : w5.cell? ⟨wr.heap.size, 0, none⟩ = some (.int .i64 1) := kc5.cell 0; have q1 : w5.cell? ⟨wr.heap.size, 1, none⟩ = some (.bool true) := kc5.cell 1; have dY : Below w5.heap.size w5 (w5.alloc (.cells #[.int .u8 1] 5)) := (Below.refl _ _).alloc (Nat.le_refl _) _; have bY := b1.trans (dY.mono b1.size); have oY := o1.below dY) | (refine wpList_app w.heap.size w _ rfl (.tmp 29) (.tmp 31) rfl B1 acc1 d1 rfl oY _ [1] 1 rfl (Bs.lit w5 [1] _ (by decide)) (by rw [List.length_singleton]; omega) bY (Nat.le_refl _) bY.size ?_; intro B2 d2 acc2 w7 H2 o2 b7 g2 t2))
          go_roundw
          case rel => exact ⟨k + 1, acc2, B2, d2, by omega, by go_num, rfl, o2, by rw [H2.out, H1.out]; exact HE.out, by rw [H2.out, List.length_append]; first | omega | (rw [List.length_singleton]; omega), b7⟩
          case measure => simp [intOf]; omega
        | false =>
          simp only [LVal.kind, LVal.b, LVal.n, LVal.t, LVal.l, List.length_nil] at f0 f1 f2 f3 f4 hD2 hat2
          have bc := br
          have oc := o
          have kc0 := (Blk.new wr 48 #[.int .i64 1, .bool false, .int .i64 0, .string ⟨#[]⟩, .slice D2 0 c2]).alloc (.cells #[.int .u8 1] 5)
          have dX : Below wr.heap.size wr ((wr.alloc (.cells #[.int .i64 1, .bool false, .int .i64 0, .string ⟨#[]⟩, .slice D2 0 c2] 48)).alloc (.cells #[.int .u8 1] 5)) := ((Below.refl _ _).alloc (Nat.le_refl _) _).alloc (by simp) _
          have bX := bc.trans (dX.mono bc.size)
          have oX := oc.below dX
          have hlit := lit2 wr (.cells #[.int .i64 1, .bool false, .int .i64 0, .string ⟨#[]⟩, .slice D2 0 c2] 48) [1] 5 (by decide)
          have hrow : some wr.heap.size ≠ (Value.slice B acc.length d).ownBlock := fun e => by have := OwnB.lt oc _ e.symm; omega
          have HE : Hid ((acc ++ [1]) ++ [0] ++ keyL (xs.drop (k + 1)) = keyL xs) := by show _ = _; rw [← HA.out, HD.out]; simp only [List.append_assoc]; rfl
          clear HA HD
          go_wp2_with (at_builtin; first | (refine wpList_app w.heap.size w _ rfl (.tmp 17) (.tmp 21) rfl B acc d rfl oX _ [1] 1 rfl hlit (by rw [List.length_singleton]; omega) bX (Nat.le_refl _) bX.size ?_; intro B1 d1 acc1 w5 H1 o1 b1 g1 t1; have L1 : acc1.length ≤ acc.length + 1 := (by rw [H1.out, List.length_append]; exact Nat.le_refl _); have kc5 := kc0.grown g1 hrow; have q0 : w5.cell? ⟨wr.heap.size, 0, none⟩ = some (.int .i64 1) := kc5.cell 0; have q1 : w5.cell? ⟨wr.heap.size, 1, none⟩ = some (.bool false) := kc5.cell 1; have dY : Below w5.heap.size w5 (w5.alloc (.cells #[.int .u8 0] 5)) := (Below.refl _ _).alloc (Nat.le_refl _) _; have bY := b1.trans (dY.mono b1.size); have oY := o1.below dY) | (refine wpList_app w.heap.size w _ rfl (.tmp 29) (.tmp 31) rfl B1 acc1 d1 rfl oY _ [0] 1 rfl (Bs.lit w5 [0] _ (by decide)) (by rw [List.length_singleton]; omega) bY (Nat.le_refl _) bY.size ?_; intro B2 d2 acc2 w7 H2 o2 b7 g2 t2))
          go_roundw
          case rel => exact ⟨k + 1, acc2, B2, d2, by omega, by go_num, rfl, o2, by rw [H2.out, H1.out]; exact HE.out, by rw [H2.out, List.length_append]; first | omega | (rw [List.length_singleton]; omega), b7⟩
          case measure => simp [intOf]; omega
      | int n =>
        simp only [LVal.kind, LVal.b, LVal.n, LVal.t, LVal.l, List.length_nil] at f0 f1 f2 f3 f4 hD2 hat2
        have bc := br
        have oc := o
        have kc0 := (Blk.new wr 48 #[.int .i64 2, .bool false, .int .i64 n, .string ⟨#[]⟩, .slice D2 0 c2]).alloc (.cells #[.int .u8 2] 5)
        have dX : Below wr.heap.size wr ((wr.alloc (.cells #[.int .i64 2, .bool false, .int .i64 n, .string ⟨#[]⟩, .slice D2 0 c2] 48)).alloc (.cells #[.int .u8 2] 5)) := ((Below.refl _ _).alloc (Nat.le_refl _) _).alloc (by simp) _
        have bX := bc.trans (dX.mono bc.size)
        have oX := oc.below dX
        have hlit := lit2 wr (.cells #[.int .i64 2, .bool false, .int .i64 n, .string ⟨#[]⟩, .slice D2 0 c2] 48) [2] 5 (by decide)
        have hrow : some wr.heap.size ≠ (Value.slice B acc.length d).ownBlock := fun e => by have := OwnB.lt oc _ e.symm; omega
        have HE : Hid ((acc ++ [2]) ++ okey n ++ keyL (xs.drop (k + 1)) = keyL xs) := by show _ = _; rw [← HA.out, HD.out]; simp only [List.append_assoc]; rfl
        have hK : (okey n).length + 1 ≤ 16777216 := hkl
        clear HA HD
        go_wp2_with (at_builtin; (refine wpList_app w.heap.size w _ rfl (.tmp 17) (.tmp 21) rfl B acc d rfl oX _ [2] 1 rfl hlit (by rw [List.length_singleton]; omega) bX (Nat.le_refl _) bX.size ?_; intro B1 d1 acc1 w5 H1 o1 b1 g1 t1; have L1 : acc1.length ≤ acc.length + 1 := (by rw [H1.out, List.length_append]; exact Nat.le_refl _); have kc5 := kc0.grown g1 hrow; have q0 : w5.cell? ⟨wr.heap.size, 0, none⟩ = some (.int .i64 2) := kc5.cell 0; have q2 : w5.cell? ⟨wr.heap.size, 2, none⟩ = some (.int .i64 n) := kc5.cell 2))
        refine (rordi_any n hwf.1 hwf.2 w5).mono ?_
        rintro en w6 ⟨A6, c6, rfl, o6, b6⟩
        have bs6 : Bs w6 A6 (okey n) := Bs.of_own o6 (by omega)
        have b16 := b1.trans (b6.mono b1.size)
        have o16 := o1.below b6
        generalize okey n = K at *
        go_wp2_with (at_builtin; (refine wpList_app w.heap.size w _ rfl (.tmp 35) (.tmp 38) rfl B1 acc1 d1 rfl o16 _ K _ rfl bs6 (by omega) b16 (Nat.le_refl _) b16.size ?_; intro B2 d2 acc2 w7 H2 o2 b7 g2 t2))
        go_roundw
        case rel => exact ⟨k + 1, acc2, B2, d2, by omega, by go_num, rfl, o2, by rw [H2.out, H1.out]; exact HE.out, by rw [H2.out, List.length_append]; first | omega | (rw [List.length_singleton]; omega), b7⟩
        case measure => simp [intOf]; omega
      | text s =>
        simp only [LVal.kind, LVal.b, LVal.n, LVal.t, LVal.l, List.length_nil] at f0 f1 f2 f3 f4 hD2 hat2
        have bc := br
        have oc := o
        have kc0 := (Blk.new wr 48 #[.int .i64 3, .bool false, .int .i64 0, .string s, .slice D2 0 c2]).alloc (.cells #[.int .u8 3] 5)
        have dX : Below wr.heap.size wr ((wr.alloc (.cells #[.int .i64 3, .bool false, .int .i64 0, .string s, .slice D2 0 c2] 48)).alloc (.cells #[.int .u8 3] 5)) := ((Below.refl _ _).alloc (Nat.le_refl _) _).alloc (by simp) _
        have bX := bc.trans (dX.mono bc.size)
        have oX := oc.below dX
        have hlit := lit2 wr (.cells #[.int .i64 3, .bool false, .int .i64 0, .string s, .slice D2 0 c2] 48) [3] 5 (by decide)
        have hrow : some wr.heap.size ≠ (Value.slice B acc.length d).ownBlock := fun e => by have := OwnB.lt oc _ e.symm; omega
        have HE : Hid ((acc ++ [3]) ++ tkey s ++ keyL (xs.drop (k + 1)) = keyL xs) := by show _ = _; rw [← HA.out, HD.out]; simp only [List.append_assoc]; rfl
        have hK : (tkey s).length + 1 ≤ 16777216 := hkl
        clear HA HD
        go_wp2_with (at_builtin; (refine wpList_app w.heap.size w _ rfl (.tmp 17) (.tmp 21) rfl B acc d rfl oX _ [3] 1 rfl hlit (by rw [List.length_singleton]; omega) bX (Nat.le_refl _) bX.size ?_; intro B1 d1 acc1 w5 H1 o1 b1 g1 t1; have L1 : acc1.length ≤ acc.length + 1 := (by rw [H1.out, List.length_append]; exact Nat.le_refl _); have kc5 := kc0.grown g1 hrow; have q0 : w5.cell? ⟨wr.heap.size, 0, none⟩ = some (.int .i64 3) := kc5.cell 0; have q3 : w5.cell? ⟨wr.heap.size, 3, none⟩ = some (.string s) := kc5.cell 3))
        refine (rtkey_any s hsmx.1 w5).mono ?_
        rintro en w6 ⟨A6, c6, rfl, o6, b6⟩
        have bs6 : Bs w6 A6 (tkey s) := Bs.of_own o6 (by omega)
        have b16 := b1.trans (b6.mono b1.size)
        have o16 := o1.below b6
        generalize tkey s = K at *
        go_wp2_with (at_builtin; (refine wpList_app w.heap.size w _ rfl (.tmp 42) (.tmp 45) rfl B1 acc1 d1 rfl o16 _ K _ rfl bs6 (by omega) b16 (Nat.le_refl _) b16.size ?_; intro B2 d2 acc2 w7 H2 o2 b7 g2 t2))
        go_roundw
        case rel => exact ⟨k + 1, acc2, B2, d2, by omega, by go_num, rfl, o2, by rw [H2.out, H1.out]; exact HE.out, by rw [H2.out, List.length_append]; first | omega | (rw [List.length_singleton]; omega), b7⟩
        case measure => simp [intOf]; omega
      | bytes dl =>
        simp only [LVal.kind, LVal.b, LVal.n, LVal.t, LVal.l] at f0 f1 f2 f3 f4 hD2 hat2
        have bc := br
        have oc := o
        have kc0 := (Blk.new wr 48 #[.int .i64 4, .bool false, .int .i64 0, .string ⟨#[]⟩, .slice D2 dl.length c2]).alloc (.cells #[.int .u8 4] 5)
        have dX : Below wr.heap.size wr ((wr.alloc (.cells #[.int .i64 4, .bool false, .int .i64 0, .string ⟨#[]⟩, .slice D2 dl.length c2] 48)).alloc (.cells #[.int .u8 4] 5)) := ((Below.refl _ _).alloc (Nat.le_refl _) _).alloc (by simp) _
        have bX := bc.trans (dX.mono bc.size)
        have oX := oc.below dX
        have hlit := lit2 wr (.cells #[.int .i64 4, .bool false, .int .i64 0, .string ⟨#[]⟩, .slice D2 dl.length c2] 48) [4] 5 (by decide)
        have hrow : some wr.heap.size ≠ (Value.slice B acc.length d).ownBlock := fun e => by have := OwnB.lt oc _ e.symm; omega
        have hDX := hD2.below dX
        have hnr : At (fun b => (Value.slice B acc.length d).ownBlock ≠ some b) D2 dl.length := fun ad e hn hr => by have h1 := hat2 ad e hn; have h2 := OwnB.lt o _ hr; omega
        have HE : Hid ((acc ++ [4]) ++ ordT dl ++ keyL (xs.drop (k + 1)) = keyL xs) := by show _ = _; rw [← HA.out, HD.out]; simp only [List.append_assoc]; rfl
        have hK : (ordT dl).length + 1 ≤ 16777216 := hkl
        clear HA HD
        go_wp2_with (at_builtin; (refine wpList_app w.heap.size w _ rfl (.tmp 17) (.tmp 21) rfl B acc d rfl oX _ [4] 1 rfl hlit (by rw [List.length_singleton]; omega) bX (Nat.le_refl _) bX.size ?_; intro B1 d1 acc1 w5 H1 o1 b1 g1 t1; have L1 : acc1.length ≤ acc.length + 1 := (by rw [H1.out, List.length_append]; exact Nat.le_refl _); have kc5 := kc0.grown g1 hrow; have q0 : w5.cell? ⟨wr.heap.size, 0, none⟩ = some (.int .i64 4) := kc5.cell 0; have q4 : w5.cell? ⟨wr.heap.size, 4, none⟩ = some (.slice D2 dl.length c2) := kc5.cell 4; have hD5 := hDX.grown g1 hnr))
        refine (rordtext_any D2 dl c2 w5 hD5 (Nat.le_trans hsmx.2 (by decide))).mono ?_
        rintro en w6 ⟨A6, c6, rfl, o6, b6⟩
        have bs6 : Bs w6 A6 (ordT dl) := Bs.of_own o6 (by omega)
        have b16 := b1.trans (b6.mono b1.size)
        have o16 := o1.below b6
        generalize ordT dl = K at *
        go_wp2_with (at_builtin; (refine wpList_app w.heap.size w _ rfl (.tmp 49) (.tmp 52) rfl B1 acc1 d1 rfl o16 _ K _ rfl bs6 (by omega) b16 (Nat.le_refl _) b16.size ?_; intro B2 d2 acc2 w7 H2 o2 b7 g2 t2))
        go_roundw
        case rel => exact ⟨k + 1, acc2, B2, d2, by omega, by go_num, rfl, o2, by rw [H2.out, H1.out]; exact HE.out, by rw [H2.out, List.length_append]; first | omega | (rw [List.length_singleton]; omega), b7⟩
        case measure => simp [intOf]; omega
    · obtain rfl : k = xs.length := by omega
      have HE : Hid (acc = keyL xs) := by show _ = _; rw [← HA.out, List.drop_length]; simp [keyL]
      clear HA
      go_wp2_with fail
      go_ret
      rw [← HE.out]
      exact ret_own o br

end Go.Proofs.YtfededjcadmpbaaGreatDoor
