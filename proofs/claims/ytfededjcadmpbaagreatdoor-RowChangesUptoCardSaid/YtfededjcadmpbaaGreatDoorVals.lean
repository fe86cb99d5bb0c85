/- Rows of values: row.values, row.Fits. -/
import Derived.Test.YtfededjcadmpbaaGreatDoorValue
import Derived.Test.YtfededjcadmpbaaGreatDoorColE
import Derived.Test.YtfededjcadmpbaaGreatDoorBlkS
import Derived.Deep.RegionLaw
namespace Go.Proofs.YtfededjcadmpbaaGreatDoor
open Go.RowKit

theorem AnyV.same {w w' : World} {S : Nat → Prop} {v : Value} {x : LVal} (h : AnyV w S v x) (hs : Same S w w') : AnyV w' S v x := by
  cases x with
  | bytes l =>
    obtain ⟨D, c, e, h1, h2, h3⟩ := h
    exact ⟨D, c, e, h1.sameS h2 hs, h2, h3⟩
  | _ => exact h
theorem AnyV.mono {w : World} {S S' : Nat → Prop} {v : Value} {x : LVal} (h : AnyV w S v x) (hs : ∀ b, b < w.heap.size → S b → S' b) : AnyV w S' v x := by
  cases x with
  | bytes l =>
    obtain ⟨D, c, e, h1, h2, h3⟩ := h
    exact ⟨D, c, e, h1, h1.atMono h2 hs, h3⟩
  | _ => exact h
theorem AnyV.one {w : World} {S : Nat → Prop} {v : Value} {x : LVal} (h : AnyV w S v x) : v.oneCell' = true := by
  cases x with
  | bytes l => obtain ⟨D, c, rfl, _⟩ := h; rfl
  | text s => obtain ⟨rfl, _⟩ := h; rfl
  | _ => subst h; rfl
/-- a row of values -/
def AnyE : ER LVal where
  size := 1
  pos := by omega
  bytes := 16
  bpos := by omega
  rep w S vs x := ∃ v, vs = [v] ∧ AnyV w S v x
  len := by rintro w S vs a ⟨v, rfl, _⟩; rfl
  one := by rintro w S vs a ⟨v, rfl, h⟩ u hu; simp at hu; subst hu; exact h.one
  keep := by rintro w w' S vs a ⟨v, rfl, h⟩ hs; exact ⟨v, rfl, h.same hs⟩
  mono := by rintro w S S' vs a ⟨v, rfl, h⟩ hs; exact ⟨v, rfl, h.mono hs⟩
theorem AnyE.at_ {w : World} {A : Option Addr} {S : Nat → Prop} {l : List LVal} (h : SlS AnyE w S A l) {k : Nat} (hk : k < l.length) :
    ∃ ad v, A = some ad ∧ ad.block < w.heap.size ∧ w.cell? (ad.add k) = some v ∧ AnyV w S v l[k] := by
  obtain ⟨ad, vs, rfl, hb, ⟨v, rfl, h1⟩, h4, _, _⟩ := SlS.at_ h hk
  have := h4 v rfl
  rw [show k * AnyE.size = k from Nat.mul_one k] at this
  exact ⟨ad, v, rfl, hb, this, h1⟩
theorem ColE.at3 {w : World} {A : Option Addr} {S : Nat → Prop} {l : List LCol} (h : SlS ColE w S A l) {k : Nat} (hk : k < l.length) :
    ∃ ad, A = some ad ∧ ad.block < w.heap.size ∧ w.cell? (ad.add (k * 3)) = some (.string l[k].name) ∧ w.cell? ⟨(ad.add (k * 3)).block, (ad.add (k * 3)).off + 1, none⟩ = some (.int .i64 l[k].kind) ∧ w.cell? ⟨(ad.add (k * 3)).block, (ad.add (k * 3)).off + 2, none⟩ = some (.bool l[k].null) := by
  obtain ⟨ad, vs, rfl, hb, ⟨rfl, _⟩, h4, _, h5⟩ := SlS.at_ h hk
  exact ⟨ad, rfl, hb, h4 _ rfl, h5 1 _ (by omega) rfl, h5 2 _ (by omega) rfl⟩

/-- the worse of two errors: the least that is one -/
def worse (a e : Int) : Int := if e ≠ 0 ∧ (a = 0 ∨ e < a) then e else a
def valuesE : List LCol → List LVal → Int → Int
  | c :: cs, x :: xs, a => valuesE cs xs (worse a (valErr c x))
  | _, _, a => a
theorem valuesE_step {cols : List LCol} {xs : List LVal} {k : Nat} {a : Int} (h1 : k < cols.length) (h2 : k < xs.length) : valuesE (cols.drop k) (xs.drop k) a = valuesE (cols.drop (k + 1)) (xs.drop (k + 1)) (worse a (valErr cols[k] xs[k])) := by
  rw [List.drop_eq_getElem_cons h1, List.drop_eq_getElem_cons h2]; rfl
theorem valuesE_end {cols : List LCol} {xs : List LVal} {a : Int} : valuesE (cols.drop cols.length) (xs.drop cols.length) a = a := by
  rw [List.drop_length]; unfold valuesE; rfl

set_option maxRecDepth 100000 in
set_option maxHeartbeats 2000000 in
theorem values_any (cols : List LCol) (xs : List LVal) (A B : Option Addr) (ca cb : Nat) (w : World) (hA : Sl ColE w A cols) (hB : Sl AnyE w B xs) (hl : cols.length ≤ xs.length) (hu : U8 w) :
    Calls Tryz.prog 31 #[.slice A cols.length ca, .slice B xs.length cb] w fun en w' => en = .returned (.int .i64 (valuesE cols xs 0)) ∧ Below w.heap.size w w' := by
  have hAl := hA.le
  have hBl := hB.le
  go_enter Tryz.func31, Tryz.ntmps31
  go_wp2_with fail
  go_loopw [5, 6, 7, 8, 11] (fun a _ _ _ i wr => ∃ (k : Nat) (e : Int), k ≤ cols.length ∧ i = .int .i64 (k : Int) ∧ a = .int .i64 e ∧ valuesE (cols.drop k) (xs.drop k) e = valuesE cols xs 0 ∧ Below w.heap.size w wr) (fun _ _ _ _ i _ => cols.length - (intOf i).toNat)
  case atStart => exact ⟨0, 0, Nat.zero_le _, rfl, rfl, rfl, Below.refl _ _⟩
  case round =>
    obtain ⟨k, e, hk, rfl, rfl, hv, br⟩ := hrel
    have HV := Lib.hid hv
    clear hv
    have zr := br.size
    by_cases hlt : k < cols.length
    · obtain ⟨ad, rfl, h1, c0, c1, c2⟩ := ColE.at3 (hA.below br) hlt
      obtain ⟨bd, v, rfl, h2, c3, hx⟩ := AnyE.at_ (hB.below br) (show k < xs.length by omega)
      have HV2 : Hid (valuesE (cols.drop (k + 1)) (xs.drop (k + 1)) (worse e (valErr cols[k] (xs[k]'(by omega)))) = valuesE cols xs 0) := by
        show _ = _; rw [← HV.out, valuesE_step hlt (by omega)]
      have hkn : (k : Int) < (xs.length : Int) := by omega
      have hub := hu.below br
      have kX := Blk.new wr 78 #[.string cols[k].name, .int .i64 cols[k].kind, .bool cols[k].null]
      have dX : Below wr.heap.size wr (wr.alloc (.cells #[.string cols[k].name, .int .i64 cols[k].kind, .bool cols[k].null] 78)) := (Below.refl _ _).alloc (Nat.le_refl _) _
      have bX := br.trans (dX.mono zr)
      have hxX := hx.below dX
      have huX := hub.below dX
      have c3X := (dX.cell (p := bd.add k) (by simpa [block_of_add] using h2)).trans c3
      go_upto_region 5 with fail
      clear c0 c1 c2 c3 h1 h2 dX hx hub HV br zr
      generalize (wr.alloc (.cells #[.string cols[k].name, .int .i64 cols[k].kind, .bool cols[k].null] 78)) = X at *
      have q0 : X.cell? ⟨wr.heap.size, 0, none⟩ = some (.string cols[k].name) := kX.cell 0
      have q1 : X.cell? ⟨wr.heap.size, 1, none⟩ = some (.int .i64 cols[k].kind) := kX.cell 1
      have q2 : X.cell? ⟨wr.heap.size, 2, none⟩ = some (.bool cols[k].null) := kX.cell 2
      have T : Calls Tryz.prog 52 #[.agg #[.string cols[k].name, .int .i64 cols[k].kind, .bool cols[k].null], v] X.drew _ := value_any cols[k] v (xs[k]'(by omega)) X.drew (hxX.below (Below.refl _ _).drew) (huX.below (Below.refl _ _).drew)
      go_cut [8] (fun s8 wx => s8 = .int .i64 (valErr cols[k] (xs[k]'(by omega))) ∧ Below w.heap.size w wx)
      case first =>
        go_region_law (go_simp; go_at_call 52; refine T.mono ?_; rintro en w2 ⟨rfl, b2⟩; have bb2 := bX.drew.trans (b2.mono bX.drew.size))
        all_goals
          go_wp2_with fail
          go_meet
          case rel => exact ⟨rfl, bb2⟩
      case rest =>
        obtain ⟨rfl, bc⟩ := hcut
        clear T q0 q1 q2 kX bX hxX huX c3X
        generalize valErr cols[k] (xs[k]'(by omega)) = E at *
        by_cases hE : E = 0
        · have d1 : (E != 0) = false := by rw [hE]; rfl
          have HW : Hid (worse e E = e) := by show _ = _; unfold worse; rw [if_neg (fun h => h.1 hE)]
          rw [HW.out] at HV2
          clear hE
          go_wp2_with fail
          go_roundw
          case rel => exact ⟨k + 1, e, by omega, by go_num, rfl, HV2.out, bc⟩
          case measure => simp [intOf]; omega
        · have d1 : (E != 0) = true := by rw [bne_iff_ne]; exact hE
          by_cases he : e = 0
          · have d2 : (e == 0) = true := by rw [he]; rfl
            have HW : Hid (worse e E = E) := by show _ = _; unfold worse; rw [if_pos ⟨hE, .inl he⟩]
            rw [HW.out] at HV2
            clear hE he
            go_wp2_with fail
            go_roundw
            case rel => exact ⟨k + 1, E, by omega, by go_num, rfl, HV2.out, bc⟩
            case measure => simp [intOf]; omega
          · have d2 : (e == 0) = false := by rw [beq_eq_false_iff_ne]; exact he
            by_cases hle : E < e
            · have HW : Hid (worse e E = E) := by show _ = _; unfold worse; rw [if_pos ⟨hE, .inr hle⟩]
              rw [HW.out] at HV2
              clear hE he
              go_wp2_with fail
              go_roundw
              case rel => exact ⟨k + 1, E, by omega, by go_num, rfl, HV2.out, bc⟩
              case measure => simp [intOf]; omega
            · have HW : Hid (worse e E = e) := by show _ = _; unfold worse; rw [if_neg (fun h => h.2.elim he hle)]
              rw [HW.out] at HV2
              clear hE he
              go_wp2_with fail
              go_roundw
              case rel => exact ⟨k + 1, e, by omega, by go_num, rfl, HV2.out, bc⟩
              case measure => simp [intOf]; omega
    · obtain rfl : k = cols.length := by omega
      have HV2 : Hid (valuesE cols xs 0 = e) := by show _ = _; rw [← HV.out, valuesE_end]
      clear HV
      go_wp2_with fail
      go_ret
      exact ⟨by rw [HV2.out]; rfl, br⟩

/-- the error of a row -/
def fitsE (id keys : Int) (tn : ByteArray) (cols : List LCol) (ixs : List LIx) (xs : List LVal) : Int :=
  if checkI id keys tn cols ixs ≠ 0 then checkI id keys tn cols ixs else if xs.length ≠ cols.length then 1 else valuesE cols xs 0
theorem Tryz.size_TableV : (Tryz.prog.info? 25).map (·.size) = some 5 := by kernel_rfl

set_option maxRecDepth 100000 in
set_option maxHeartbeats 1000000 in
theorem fits_any (id keys : Int) (tn : ByteArray) (cols : List LCol) (ixs : List LIx) (xs : List LVal) (A B C : Option Addr) (ca cb cc : Nat) (w : World) (hA : Sl ColE w A cols) (hB : Sl IxE w B ixs) (hC : Sl AnyE w C xs) (hn : tn.size ≤ 140737488351232) (hu : U8 w) :
    Calls Tryz.prog 27 #[.agg #[.int .i64 id, .string tn, .slice A cols.length ca, .int .i64 keys, .slice B ixs.length cb], .slice C xs.length cc] w fun en w' => en = .returned (.int .i64 (fitsE id keys tn cols ixs xs)) ∧ Below w.heap.size w w' := by
  have b0 : Below w.heap.size w (w.alloc (.cells #[.int .i64 id, .string tn, .slice A cols.length ca, .int .i64 keys, .slice B ixs.length cb] 25)) := (Below.refl _ _).alloc (Nat.le_refl _) _
  have k0 := Blk.new w 25 #[.int .i64 id, .string tn, .slice A cols.length ca, .int .i64 keys, .slice B ixs.length cb]
  have hA0 := hA.below b0
  have hB0 := hB.below b0
  go_enter Tryz.func27, Tryz.ntmps27
  go_wp2_with fail
  generalize (w.alloc (.cells #[.int .i64 id, .string tn, .slice A cols.length ca, .int .i64 keys, .slice B ixs.length cb] 25)) = W0 at *
  refine (check_any id keys tn A B ca cb cols ixs W0 hA0.cols hB0.ixs hn hA0.cnames hB0.xnames).mono ?_
  rintro en w1 ⟨rfl, b1⟩
  have b01 := b0.trans (b1.mono b0.size)
  have k1 := k0.below b1 k0.lt
  by_cases h0 : checkI id keys tn cols ixs = 0
  · have d0 : (checkI id keys tn cols ixs != 0) = false := by rw [h0]; rfl
    have HE : Hid (fitsE id keys tn cols ixs xs = if xs.length ≠ cols.length then 1 else valuesE cols xs 0) := by show _ = _; unfold fitsE; rw [if_neg (by rw [h0]; exact fun h => h rfl)]
    have q2 : w1.cell? ⟨w.heap.size, 2, none⟩ = some (.slice A cols.length ca) := k1.cell 2
    clear h0
    by_cases hl : xs.length = cols.length
    · have d1 : ((xs.length : Int) != (cols.length : Int)) = false := by rw [hl]; simp
      have HE2 : Hid (fitsE id keys tn cols ixs xs = valuesE cols xs 0) := by show _ = _; rw [HE.out, if_neg (fun h => h hl)]
      have T := values_any cols xs A C ca cc w1 (hA.below b01) (hC.below b01) (Nat.le_of_eq hl.symm) (hu.below b01)
      clear hl HE
      go_wp2_with fail
      refine T.mono ?_
      rintro en w2 ⟨rfl, b2⟩
      go_wp2_with fail
      go_ret
      exact ⟨by rw [HE2.out]; rfl, b01.trans (b2.mono b01.size)⟩
    · have d1 : ((xs.length : Int) != (cols.length : Int)) = true := by rw [bne_iff_ne]; omega
      have HE2 : Hid (fitsE id keys tn cols ixs xs = 1) := by show _ = _; rw [HE.out, if_pos hl]
      clear hl HE
      go_wp2_with fail
      go_ret
      exact ⟨by rw [HE2.out]; rfl, b01⟩
  · have d0 : (checkI id keys tn cols ixs != 0) = true := by rw [bne_iff_ne]; exact h0
    have HE : Hid (fitsE id keys tn cols ixs xs = checkI id keys tn cols ixs) := by show _ = _; unfold fitsE; rw [if_pos h0]
    clear h0
    go_wp2_with fail
    go_ret
    exact ⟨by rw [HE.out]; rfl, b01⟩
end Go.Proofs.YtfededjcadmpbaaGreatDoor
