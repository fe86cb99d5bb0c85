/- Rows of cells: the reference's values and Fits. -/
import Derived.Test.YtfededjcadmpbaaGreatDoorVals
import Derived.Test.YtfededjcadmpbaaGreatDoorRForm
import Derived.BigQuiet
namespace Go.Proofs.YtfededjcadmpbaaGreatDoor
open Go.RowKit

theorem Blk.drewN_ {w : World} {g : Nat} {t : TypeId} {cs : Array Value} (h : Blk w g t cs) (n : Nat) : Blk (w.drewN n) g t cs := h
/-- a row of cells, each the cell of a value -/
def CelE : ER LVal where
  size := 5
  pos := by omega
  bytes := 64
  bpos := by omega
  rep w S vs x := ∃ D c, vs = [.int .i64 x.kind, .bool x.b, .int .i64 x.n, .string x.t, .slice D x.l.length c] ∧ Bs w D x.l ∧ At S D x.l.length ∧ x.l.length ≤ c ∧ c ≤ 9223372036854775807 ∧ x.t.size ≤ 17592186043904
  len := by rintro w S vs a ⟨D, c, rfl, _⟩; rfl
  one := by rintro w S vs a ⟨D, c, rfl, _⟩ v hv; simp at hv; rcases hv with rfl | rfl | rfl | rfl | rfl <;> rfl
  keep := by rintro w w' S vs a ⟨D, c, rfl, h, ha, h2⟩ hs; exact ⟨D, c, rfl, h.sameS ha hs, ha, h2⟩
  mono := by rintro w S S' vs a ⟨D, c, rfl, h, ha, h2⟩ hs; exact ⟨D, c, rfl, h, h.atMono ha hs, h2⟩
theorem CelE.at5 {w : World} {A : Option Addr} {S : Nat → Prop} {l : List LVal} (h : SlS CelE w S A l) {k : Nat} (hk : k < l.length) :
    ∃ ad D c, A = some ad ∧ ad.block < w.heap.size ∧ w.cell? (ad.add (k * 5)) = some (.int .i64 l[k].kind) ∧ w.cell? ⟨(ad.add (k * 5)).block, (ad.add (k * 5)).off + 1, none⟩ = some (.bool l[k].b) ∧ w.cell? ⟨(ad.add (k * 5)).block, (ad.add (k * 5)).off + 2, none⟩ = some (.int .i64 l[k].n) ∧
      w.cell? ⟨(ad.add (k * 5)).block, (ad.add (k * 5)).off + 3, none⟩ = some (.string l[k].t) ∧ w.cell? ⟨(ad.add (k * 5)).block, (ad.add (k * 5)).off + 4, none⟩ = some (.slice D l[k].l.length c) ∧ Bs w D l[k].l ∧ l[k].t.size ≤ 17592186043904 := by
  obtain ⟨ad, vs, rfl, hb, ⟨D, c, rfl, h1, h2, h3, h6, h7⟩, h4, _, h5⟩ := SlS.at_ h hk
  exact ⟨ad, D, c, rfl, hb, h4 _ rfl, h5 1 _ (by omega) rfl, h5 2 _ (by omega) rfl, h5 3 _ (by omega) rfl, h5 4 _ (by omega) rfl, h1, h7⟩

/-- the error of a column's cell -/
def rvalErr (c : LCol) (x : LVal) : Int :=
  if x.isT = true ∧ 200 < (runesL x.t).length then 2 else if x.isL = true ∧ 200 < x.l.length then 2 else if x.isT = true ∧ (badAt x.t).isSome = true then 3 else kindErr c x.kind
theorem valErr_ok {c : LCol} {x : LVal} (h : x.err = 0) : valErr c x = rvalErr c x := by unfold valErr; rw [if_neg (fun h2 => h2 h)]; rfl
def rvaluesE : List LCol → List LVal → Int → Int
  | c :: cs, x :: xs, a => rvaluesE cs xs (worse a (rvalErr c x))
  | _, _, a => a
theorem rvaluesE_eq : ∀ {cols : List LCol} {xs : List LVal} {a : Int}, (∀ x ∈ xs, x.err = 0) → rvaluesE cols xs a = valuesE cols xs a
  | [], xs, a, _ => by unfold rvaluesE valuesE; rfl
  | c :: cs, [], a, _ => by unfold rvaluesE valuesE; rfl
  | c :: cs, x :: xs, a, h => by
    show rvaluesE cs xs (worse a (rvalErr c x)) = valuesE cs xs (worse a (valErr c x))
    rw [valErr_ok (h x List.mem_cons_self), rvaluesE_eq fun y hy => h y (List.mem_cons_of_mem _ hy)]
theorem rvaluesE_step {cols : List LCol} {xs : List LVal} {k : Nat} {a : Int} (h1 : k < cols.length) (h2 : k < xs.length) : rvaluesE (cols.drop k) (xs.drop k) a = rvaluesE (cols.drop (k + 1)) (xs.drop (k + 1)) (worse a (rvalErr cols[k] xs[k])) := by
  rw [List.drop_eq_getElem_cons h1, List.drop_eq_getElem_cons h2]; rfl
theorem rvaluesE_end {cols : List LCol} {xs : List LVal} {a : Int} : rvaluesE (cols.drop xs.length) (xs.drop xs.length) a = a := by
  rw [List.drop_length]; unfold rvaluesE; cases cols.drop xs.length <;> rfl

/-- the length that a cell is measured by -/
def LVal.len (x : LVal) : Nat := if x.isT = true then (runesL x.t).length else if x.isL = true then x.l.length else 0
def LVal.bad (x : LVal) : Bool := x.isT && (badAt x.t).isSome
theorem rvalErr_len (c : LCol) (x : LVal) : rvalErr c x = if 200 < x.len then 2 else if x.bad = true then 3 else kindErr c x.kind := by
  unfold rvalErr LVal.len LVal.bad
  cases x <;> simp [LVal.isT, LVal.isL]

set_option maxRecDepth 100000 in
set_option maxHeartbeats 4000000 in
theorem rvalues_any (id keys : Int) (tn : ByteArray) (cols : List LCol) (xs : List LVal) (A B C : Option Addr) (ca cb cc n : Nat) (w : World) (hA : Sl ColE w A cols) (hC : Sl CelE w C xs) (hl : xs.length ≤ cols.length) :
    Calls Tryz.prog 66 #[.agg #[.int .i64 id, .string tn, .slice A cols.length ca, .int .i64 keys, .slice B n cb], .slice C xs.length cc] w fun en w' => en = .returned (.int .i64 (rvaluesE cols xs 0)) ∧ Below w.heap.size w w' := by
  have b0 : Below w.heap.size w (w.alloc (.cells #[.int .i64 id, .string tn, .slice A cols.length ca, .int .i64 keys, .slice B n cb] 25)) := (Below.refl _ _).alloc (Nat.le_refl _) _
  have k0 := Blk.new w 25 #[.int .i64 id, .string tn, .slice A cols.length ca, .int .i64 keys, .slice B n cb]
  have hAl := hA.le
  have hCl := hC.le
  go_enter Tryz.func66, Tryz.ntmps66
  go_wp2_with fail
  go_loopw [5, 6, 7, 8, 9, 10, 11, 12] (fun a i _ _ _ _ _ _ wr => ∃ (k : Nat) (e : Int), k ≤ xs.length ∧ i = .int .i64 (k : Int) ∧ a = .int .i64 e ∧ rvaluesE (cols.drop k) (xs.drop k) e = rvaluesE cols xs 0 ∧ Blk wr w.heap.size 25 #[.int .i64 id, .string tn, .slice A cols.length ca, .int .i64 keys, .slice B n cb] ∧ Below w.heap.size w wr) (fun _ i _ _ _ _ _ _ _ => xs.length - (intOf i).toNat)
  case atStart => exact ⟨0, 0, Nat.zero_le _, rfl, rfl, rfl, k0, b0⟩
  case round =>
    clear k0 b0
    obtain ⟨k, e, hk, rfl, rfl, hv, kr, br⟩ := hrel
    have HV := Lib.hid hv
    clear hv
    have zr := br.size
    by_cases hlt : k < xs.length
    · have hlc : k < cols.length := by omega
      obtain ⟨ad, rfl, h1, c0, c1, c2⟩ := ColE.at3 (hA.below br) hlc
      obtain ⟨bd, D, c, rfl, h2, f0, f1, f2, f3, f4, hD, ht⟩ := CelE.at5 (hC.below br) hlt
      have HV2 : Hid (rvaluesE (cols.drop (k + 1)) (xs.drop (k + 1)) (worse e (rvalErr cols[k] xs[k])) = rvaluesE cols xs 0) := by
        show _ = _; rw [← HV.out, rvaluesE_step hlc hlt]
      have hkn : (k : Int) < (xs.length : Int) := by omega
      have hkc : (k : Int) < (cols.length : Int) := by omega
      have r2 : wr.cell? ⟨w.heap.size, 2, none⟩ = some (.slice (some ad) cols.length ca) := kr.cell 2
      have kX := Blk.new wr 78 #[.string cols[k].name, .int .i64 cols[k].kind, .bool cols[k].null]
      have dX : Below wr.heap.size wr (wr.alloc (.cells #[.string cols[k].name, .int .i64 cols[k].kind, .bool cols[k].null] 78)) := (Below.refl _ _).alloc (Nat.le_refl _) _
      go_upto_region 8 with fail
      clear c0 c1 c2 r2 HV
      generalize hcc : cols[k] = cl at *
      generalize hxx : xs[k] = x at *
      rcases cl with ⟨cn, ck, cb⟩
      clear hcc hxx
      have hkT : (x.kind == 3) = x.isT := by cases x <;> rfl
      have hkL : (x.kind == 4) = x.isL := by cases x <;> rfl
      have bX := br.trans (dX.mono zr)
      have krX := kr.below dX kr.lt
      have g0 := (dX.cell (p := bd.add (k * 5)) (by simpa [block_of_add] using h2)).trans f0
      have g3 := (dX.cell (p := ⟨(bd.add (k * 5)).block, (bd.add (k * 5)).off + 3, none⟩) (by simpa [block_of_add] using h2)).trans f3
      have g4 := (dX.cell (p := ⟨(bd.add (k * 5)).block, (bd.add (k * 5)).off + 4, none⟩) (by simpa [block_of_add] using h2)).trans f4
      have hlb : (bd.add (k * 5)).block < (wr.alloc (.cells #[.string cn, .int .i64 ck, .bool cb] 78)).heap.size := by
        have := dX.size; simp [block_of_add]; omega
      clear dX f0 f1 f2 f3 f4 kr br h1 h2 hD
      generalize (wr.alloc (.cells #[.string cn, .int .i64 ck, .bool cb] 78)) = X at *
      have zX := bX.size
      obtain ⟨N1, hN1⟩ : ∃ N1 : Nat, N1 = if x.isT = true then (runesL x.t).length else 0 := ⟨_, rfl⟩
      obtain ⟨N2, hN2⟩ : ∃ N2 : Nat, N2 = if x.isL = true then x.l.length else N1 := ⟨_, rfl⟩
      obtain ⟨bb, hbb⟩ : ∃ bb : Bool, bb = x.bad := ⟨_, rfl⟩
      have HN1 := Lib.hid hN1
      have HN2 := Lib.hid hN2
      have HBB := Lib.hid hbb
      have HLEN : Hid (rvalErr ⟨cn, ck, cb⟩ x = if 200 < N2 then 2 else if bb = true then 3 else kindErr ⟨cn, ck, cb⟩ x.kind) := by
        show _ = _
        have e : N2 = x.len := by rw [hN2, hN1]; cases x <;> simp [LVal.len, LVal.isT, LVal.isL]
        rw [rvalErr_len, e, hbb]
      clear hN1 hN2 hbb
      go_upto_if 29 with fail
      go_cut [8, 9] (fun s8 s9 wx => s8 = .int .i64 (N1 : Int) ∧ s9 = .bool bb ∧ Below X.heap.size X wx)
      case first =>
        cases hT : x.isT with
        | true =>
          have HN : Hid (N1 = (runesL x.t).length) := by show _ = _; rw [HN1.out, if_pos hT]
          have HB : Hid (bb = (badAt x.t).isSome) := by show _ = _; rw [HBB.out]; show (x.isT && _) = _; rw [hT]; rfl
          clear hT
          go_wp2_with fail
          refine (runes_any x.t ht X).mono ?_
          rintro en w2 ⟨A2, c2, B2, n2, d2, rfl, _, b2⟩
          have g32 := (b2.cell (p := ⟨(bd.add (k * 5)).block, (bd.add (k * 5)).off + 3, none⟩) hlb).trans g3
          clear g0 g3 g4
          go_wp2_with fail
          refine (wrong_any x.t (by omega) w2).mono ?_
          rintro en w3 ⟨rfl, b3⟩
          go_wp2_with fail
          go_meet
          case rel => exact ⟨by rw [HN.out], congrArg Value.bool HB.out.symm, b2.trans (b3.mono b2.size)⟩
        | false =>
          have HN : Hid (N1 = 0) := by show _ = _; rw [HN1.out, if_neg (by rw [hT]; decide)]
          have HB : Hid (bb = false) := by show _ = _; rw [HBB.out]; show (x.isT && _) = _; rw [hT]; rfl
          clear hT
          go_wp2_with fail
          go_meet
          case rel => exact ⟨by rw [HN.out]; rfl, congrArg Value.bool HB.out.symm, Below.refl _ _⟩
      case rest =>
        obtain ⟨rfl, rfl, b2⟩ := hcut
        have z2 := b2.size
        have g02 := (b2.cell (p := bd.add (k * 5)) (by simpa [block_of_add] using hlb)).trans g0
        have g42 := (b2.cell (p := ⟨(bd.add (k * 5)).block, (bd.add (k * 5)).off + 4, none⟩) hlb).trans g4
        have kX2 := kX.below b2 kX.lt
        have kr2 := krX.below b2 krX.lt
        have b02 := bX.trans (b2.mono bX.size)
        clear g0 g3 g4 kX krX bX b2 hkT ht hlb zX
        go_upto_if 55 with fail
        go_cut [8] (fun s8 wx => s8 = .int .i64 (N2 : Int) ∧ wx = wc)
        case first =>
          cases hL : x.isL with
          | true =>
            have HN : Hid (N2 = x.l.length) := by show _ = _; rw [HN2.out, if_pos hL]
            clear hL
            go_wp2_with fail
            go_meet
            case rel => exact ⟨by rw [HN.out], rfl⟩
          | false =>
            have HN : Hid (N2 = N1) := by show _ = _; rw [HN2.out, if_neg (by rw [hL]; decide)]
            clear hL
            go_wp2_with fail
            go_meet
            case rel => exact ⟨by rw [HN.out], rfl⟩
        case rest =>
          obtain ⟨rfl, rfl⟩ := hcut
          clear hkL g42
          by_cases hn : 200 < N2
          · have hz : (200 : Int) < (N2 : Int) := by omega
            have HF : Hid (rvalErr ⟨cn, ck, cb⟩ x = 2) := by show _ = _; rw [HLEN.out, if_pos hn]
            clear hn HLEN
            (rcases (by omega : e = 0 ∨ (e ≠ 0 ∧ 2 < e) ∨ (e ≠ 0 ∧ ¬ 2 < e)) with he | ⟨he, hle⟩ | ⟨he, hle⟩) <;> (first | ((have d2 : (e == 0) = true := (by rw [he]; rfl)); (have HW : Hid (worse e 2 = 2) := (by show _ = _; unfold worse; rw [if_pos ⟨by decide, .inl he⟩])); clear he; go_wp2_with fail; go_roundw; (case rel => exact ⟨k + 1, 2, by omega, by go_num, rfl, (by have h := HV2.out; rw [HF.out, HW.out] at h; exact h), (by first | exact kr2 | exact Blk.drewN_ kr2 _), (by first | exact b02 | exact below_drewN b02 _)⟩); (case measure => (simp [intOf]; omega))) | ((have d2 : (e == 0) = false := (by rw [beq_eq_false_iff_ne]; exact he)); (have hle2 : 2 < e := hle); (have HW : Hid (worse e 2 = 2) := (by show _ = _; unfold worse; rw [if_pos ⟨by decide, .inr hle⟩])); clear he; go_wp2_with fail; go_roundw; (case rel => exact ⟨k + 1, 2, by omega, by go_num, rfl, (by have h := HV2.out; rw [HF.out, HW.out] at h; exact h), (by first | exact kr2 | exact Blk.drewN_ kr2 _), (by first | exact b02 | exact below_drewN b02 _)⟩); (case measure => (simp [intOf]; omega))) | ((have d2 : (e == 0) = false := (by rw [beq_eq_false_iff_ne]; exact he)); (have hle2 : ¬ 2 < e := hle); (have HW : Hid (worse e 2 = e) := (by show _ = _; unfold worse; rw [if_neg (fun h => h.2.elim he hle)])); clear he; go_wp2_with fail; go_roundw; (case rel => exact ⟨k + 1, e, by omega, by go_num, rfl, (by have h := HV2.out; rw [HF.out, HW.out] at h; exact h), (by first | exact kr2 | exact Blk.drewN_ kr2 _), (by first | exact b02 | exact below_drewN b02 _)⟩); (case measure => (simp [intOf]; omega))))
          · have hz : ¬ (200 : Int) < (N2 : Int) := by omega
            have HF0 : Hid (rvalErr ⟨cn, ck, cb⟩ x = if bb = true then 3 else kindErr ⟨cn, ck, cb⟩ x.kind) := by show _ = _; rw [HLEN.out, if_neg hn]
            clear hn HLEN
            cases bb with
            | true =>
              have HF : Hid (rvalErr ⟨cn, ck, cb⟩ x = 3) := by show _ = _; rw [HF0.out]; rfl
              (rcases (by omega : e = 0 ∨ (e ≠ 0 ∧ 3 < e) ∨ (e ≠ 0 ∧ ¬ 3 < e)) with he | ⟨he, hle⟩ | ⟨he, hle⟩) <;> (first | ((have d2 : (e == 0) = true := (by rw [he]; rfl)); (have HW : Hid (worse e 3 = 3) := (by show _ = _; unfold worse; rw [if_pos ⟨by decide, .inl he⟩])); clear he; go_wp2_with fail; go_roundw; (case rel => exact ⟨k + 1, 3, by omega, by go_num, rfl, (by have h := HV2.out; rw [HF.out, HW.out] at h; exact h), (by first | exact kr2 | exact Blk.drewN_ kr2 _), (by first | exact b02 | exact below_drewN b02 _)⟩); (case measure => (simp [intOf]; omega))) | ((have d2 : (e == 0) = false := (by rw [beq_eq_false_iff_ne]; exact he)); (have hle2 : 3 < e := hle); (have HW : Hid (worse e 3 = 3) := (by show _ = _; unfold worse; rw [if_pos ⟨by decide, .inr hle⟩])); clear he; go_wp2_with fail; go_roundw; (case rel => exact ⟨k + 1, 3, by omega, by go_num, rfl, (by have h := HV2.out; rw [HF.out, HW.out] at h; exact h), (by first | exact kr2 | exact Blk.drewN_ kr2 _), (by first | exact b02 | exact below_drewN b02 _)⟩); (case measure => (simp [intOf]; omega))) | ((have d2 : (e == 0) = false := (by rw [beq_eq_false_iff_ne]; exact he)); (have hle2 : ¬ 3 < e := hle); (have HW : Hid (worse e 3 = e) := (by show _ = _; unfold worse; rw [if_neg (fun h => h.2.elim he hle)])); clear he; go_wp2_with fail; go_roundw; (case rel => exact ⟨k + 1, e, by omega, by go_num, rfl, (by have h := HV2.out; rw [HF.out, HW.out] at h; exact h), (by first | exact kr2 | exact Blk.drewN_ kr2 _), (by first | exact b02 | exact below_drewN b02 _)⟩); (case measure => (simp [intOf]; omega))))
            | false =>
              have q1 : wc.cell? ⟨wr.heap.size, 1, none⟩ = some (.int .i64 ck) := kX2.cell 1
              have q2 : wc.cell? ⟨wr.heap.size, 2, none⟩ = some (.bool cb) := kX2.cell 2
              obtain ⟨bk, hbk⟩ : ∃ b, ((x.kind : Int) != ck) = b := ⟨_, rfl⟩
              obtain ⟨bz, hbz⟩ : ∃ b, ((x.kind : Int) != 0) = b := ⟨_, rfl⟩
              have HK : Hid (rvalErr ⟨cn, ck, cb⟩ x = if (bk && (bz || !cb)) = true then 10 else 0) := by
                show _ = _
                rw [HF0.out]
                show kindErr ⟨cn, ck, cb⟩ x.kind = _
                unfold kindErr
                rw [hbk, ← hbz]
                simp [bne, Bool.not_and]
              clear HF0
              cases bk <;> cases bz <;> cases cb <;> (go_upto_region 19 with fail; go_quiet (fail); first | (have HF : Hid (rvalErr _ x = 10) := (by show _ = _; rw [HK.out]; rfl); ((rcases (by omega : e = 0 ∨ (e ≠ 0 ∧ 10 < e) ∨ (e ≠ 0 ∧ ¬ 10 < e)) with he | ⟨he, hle⟩ | ⟨he, hle⟩) <;> (first | ((have d2 : (e == 0) = true := (by rw [he]; rfl)); (have HW : Hid (worse e 10 = 10) := (by show _ = _; unfold worse; rw [if_pos ⟨by decide, .inl he⟩])); clear he; go_wp2_with fail; go_roundw; (case rel => exact ⟨k + 1, 10, by omega, by go_num, rfl, (by have h := HV2.out; rw [HF.out, HW.out] at h; exact h), (by first | exact kr2 | exact Blk.drewN_ kr2 _), (by first | exact b02 | exact below_drewN b02 _)⟩); (case measure => (simp [intOf]; omega))) | ((have d2 : (e == 0) = false := (by rw [beq_eq_false_iff_ne]; exact he)); (have hle2 : 10 < e := hle); (have HW : Hid (worse e 10 = 10) := (by show _ = _; unfold worse; rw [if_pos ⟨by decide, .inr hle⟩])); clear he; go_wp2_with fail; go_roundw; (case rel => exact ⟨k + 1, 10, by omega, by go_num, rfl, (by have h := HV2.out; rw [HF.out, HW.out] at h; exact h), (by first | exact kr2 | exact Blk.drewN_ kr2 _), (by first | exact b02 | exact below_drewN b02 _)⟩); (case measure => (simp [intOf]; omega))) | ((have d2 : (e == 0) = false := (by rw [beq_eq_false_iff_ne]; exact he)); (have hle2 : ¬ 10 < e := hle); (have HW : Hid (worse e 10 = e) := (by show _ = _; unfold worse; rw [if_neg (fun h => h.2.elim he hle)])); clear he; go_wp2_with fail; go_roundw; (case rel => exact ⟨k + 1, e, by omega, by go_num, rfl, (by have h := HV2.out; rw [HF.out, HW.out] at h; exact h), (by first | exact kr2 | exact Blk.drewN_ kr2 _), (by first | exact b02 | exact below_drewN b02 _)⟩); (case measure => (simp [intOf]; omega)))))) | (have HF : Hid (rvalErr _ x = 0) := (by show _ = _; rw [HK.out]; rfl); ((have HW : Hid (worse e 0 = e) := (by show _ = _; unfold worse; rw [if_neg (fun h => h.1 rfl)])); go_wp2_with fail; go_roundw; (case rel => exact ⟨k + 1, e, by omega, by go_num, rfl, (by have h := HV2.out; rw [HF.out, HW.out] at h; exact h), (by first | exact kr2 | exact Blk.drewN_ kr2 _), (by first | exact b02 | exact below_drewN b02 _)⟩); (case measure => (simp [intOf]; omega)))))
    · obtain rfl : k = xs.length := by omega
      have HV2 : Hid (rvaluesE cols xs 0 = e) := by show _ = _; rw [← HV.out, rvaluesE_end]
      clear HV
      go_wp2_with fail
      go_ret
      exact ⟨by rw [HV2.out]; rfl, br⟩
end Go.Proofs.YtfededjcadmpbaaGreatDoor
