/- What a stored pair is read back as: plain. The cells of values: caissonlaw14.told; lists that read the same are told to be the same: caissonref06.Same, SameList, caissonref13.Same. What a row of cells is stored as, the reference's: caissonref14.Entries. The row of a stored pair: row.Row; the reference's: caissonref14.Row. RowEntries: a row is stored as the document says, and read back, and anything else is no row. -/
import Derived.Test.YtfededjcadmpbaaDoorPartA
import Derived.Test.YtfededjcadmpbaaDoorEntA
import Derived.Test.YtfededjcadmpbaaDoorRVals
import Derived.Test.YtfededjcadmpbaaDoorCell
import Derived.Test.YtfededjcadmpbaaDoorCompare
import Derived.Test.YtfededjcadmpbaaDoorEncA
import Derived.Deep.RegionHeld3
import Derived.Test.YtfededjcadmpbaaDoorREncA
import Derived.Test.YtfededjcadmpbaaDoorRRowKey
import Derived.Test.YtfededjcadmpbaaDoorRFits
import Derived.Test.YtfededjcadmpbaaDoorRDecode
import Derived.BigQuiet
import Derived.Test.YtfededjcadmpbaaDoorAwakeR
import Derived.Test.YtfededjcadmpbaaDoorValsOf
namespace Go.Proofs.YtfededjcadmpbaaDoor
open Go.RowKit

theorem partV_good {p : List UInt8} {x : LVal} (h : partV p = some x) : x.err = 0 ∧ x.wfv := by
  have w0 : ∀ y : LVal, y.n = 0 → y.wfv := fun y hy => by unfold LVal.wfv; rw [hy]; decide
  cases p with
  | nil => cases h
  | cons k r =>
    replace h : (if k = 0 then (if r.length = 0 then some .null else none)
      else if k = 1 then (if r = [0] then some (.bool false) else if r = [1] then some (.bool true) else none)
      else if k = 2 then (if r.length = 8 then some (.int ((beF 0 r : Int) - 9223372036854775808)) else none)
      else if k = 3 then some (.text ⟨r.toArray⟩) else if k = 4 then some (.bytes r) else none) = some x := h
    by_cases h0 : k = 0
    · rw [if_pos h0] at h
      split at h
      · injection h with h; subst h; exact ⟨rfl, w0 _ rfl⟩
      · cases h
    rw [if_neg h0] at h
    by_cases h1 : k = 1
    · rw [if_pos h1] at h
      split at h
      · injection h with h; subst h; exact ⟨rfl, w0 _ rfl⟩
      · split at h
        · injection h with h; subst h; exact ⟨rfl, w0 _ rfl⟩
        · cases h
    rw [if_neg h1] at h
    by_cases h2 : k = 2
    · rw [if_pos h2] at h
      split at h
      · rename_i hl
        injection h with h
        subst h
        refine ⟨rfl, ?_⟩
        have hb := beF_lt r 0 0 (by decide)
        rw [hl] at hb
        have e : ∀ m, (LVal.int m).n = m := fun _ => rfl
        unfold LVal.wfv
        rw [e]
        have h3 : (256 : Nat) ^ (0 + 8) = 18446744073709551616 := by decide
        omega
      · cases h
    rw [if_neg h2] at h
    by_cases h3 : k = 3
    · rw [if_pos h3] at h
      injection h with h; subst h; exact ⟨rfl, w0 _ rfl⟩
    rw [if_neg h3] at h
    by_cases h4 : k = 4
    · rw [if_pos h4] at h
      injection h with h; subst h; exact ⟨rfl, w0 _ rfl⟩
    rw [if_neg h4] at h
    cases h
theorem mapV_good : ∀ {l : List (List UInt8)} {xs : List LVal}, mapV l = some xs → ∀ x ∈ xs, x.err = 0 ∧ x.wfv
  | [], xs, h => by
    have h2 : (some [] : Option (List LVal)) = some xs := h
    injection h2 with h2
    subst h2
    intro x hx; cases hx
  | q :: l, xs, h => by
    unfold mapV at h
    cases hq : partV q with
    | none => rw [hq] at h; cases h
    | some y =>
      cases hl : mapV l with
      | none => rw [hq, hl] at h; cases h
      | some ys =>
        rw [hq, hl] at h
        injection h with h
        subst h
        intro x hx
        rcases List.mem_cons.1 hx with rfl | hx
        · exact partV_good hq
        · exact mapV_good hl x hx
theorem decL_good (l : List UInt8) : (∀ x ∈ (decL l).1, x.err = 0 ∧ x.wfv) ∧ (decL l).1.length ≤ l.length := by
  unfold decL
  by_cases he : (partsL l).2 ≠ 0
  · rw [if_pos he]; exact ⟨fun x hx => absurd hx (by simp), Nat.zero_le _⟩
  · rw [if_neg he]
    cases hm : mapV (partsL l).1 with
    | none => exact ⟨fun x hx => absurd hx (by simp), Nat.zero_le _⟩
    | some xs =>
      refine ⟨mapV_good hm, ?_⟩
      have h1 := mapV_len hm
      have h2 := (partsA_small (f := l.length) (l := l) (acc := [])).1
      have h3 : partsA l.length l [] = partsL l := rfl
      rw [h3, List.length_nil] at h2
      show xs.length ≤ _
      omega
/-- what a stored pair is read back as, and the error -/
def rowR (id keys : Int) (tn : ByteArray) (cols : List LCol) (ixs : List LIx) (k v : List UInt8) : List LVal × Int :=
  if checkI id keys tn cols ixs ≠ 0 then ([], checkI id keys tn cols ixs) else
  if (decL v).2 ≠ 0 then ([], 3) else
  if fitsE id keys tn cols ixs (decL v).1 ≠ 0 then ([], 3) else
  if (rowKey id keys (decL v).1 == k) = true then ((decL v).1, 0) else ([], 3)
section
variable {id keys : Int} {tn : ByteArray} {cols : List LCol} {ixs : List LIx} {k v : List UInt8}
theorem rowR_check (h : checkI id keys tn cols ixs ≠ 0) : rowR id keys tn cols ixs k v = ([], checkI id keys tn cols ixs) := if_pos h
theorem rowR_dec (h : checkI id keys tn cols ixs = 0) (h1 : (decL v).2 ≠ 0) : rowR id keys tn cols ixs k v = ([], 3) := by
  unfold rowR; rw [if_neg (fun h2 => h2 h), if_pos h1]
theorem rowR_fits (h : checkI id keys tn cols ixs = 0) (h1 : (decL v).2 = 0) (h2 : fitsE id keys tn cols ixs (decL v).1 ≠ 0) : rowR id keys tn cols ixs k v = ([], 3) := by
  unfold rowR; rw [if_neg (fun h2 => h2 h), if_neg (fun h2 => h2 h1), if_pos h2]
theorem rowR_key (h : checkI id keys tn cols ixs = 0) (h1 : (decL v).2 = 0) (h2 : fitsE id keys tn cols ixs (decL v).1 = 0) : rowR id keys tn cols ixs k v = if (rowKey id keys (decL v).1 == k) = true then ((decL v).1, 0) else ([], 3) := by
  unfold rowR; rw [if_neg (fun h2 => h2 h), if_neg (fun h2 => h2 h1), if_neg (fun h3 => h3 h2)]
theorem rowR_back {xs : List LVal} (hf : fitsE id keys tn cols ixs xs = 0) (hx : ∀ x ∈ xs, x.err = 0 ∧ x.wfv) : rowR id keys tn cols ixs (rowKey id keys xs) (encL xs) = (xs, 0) := by
  obtain ⟨h0, h1, h2⟩ := fitsE_ok hf
  have hs := values_sm (Nat.le_of_eq h1) h2
  have hd := decL_encL hx hs
  rw [rowR_key h0 (by rw [hd]) (by rw [hd]; exact hf), hd, if_pos (by simp)]
theorem ents_len5 {xs : List LVal} : (entsL id keys ixs xs).length = ixs.length + 1 := by
  unfold entsL
  rw [List.length_cons, List.length_mapIdx]
end
theorem rowR_len (id keys : Int) (tn : ByteArray) (cols : List LCol) (ixs : List LIx) (k v : List UInt8) : (rowR id keys tn cols ixs k v).1.length ≤ v.length := by
  have h := (decL_good v).2
  unfold rowR
  split
  · exact Nat.zero_le _
  split
  · exact Nat.zero_le _
  split
  · exact Nat.zero_le _
  split
  · exact h
  · exact Nat.zero_le _
end Go.Proofs.YtfededjcadmpbaaDoor

namespace Go.Proofs.YtfededjcadmpbaaDoor
open Go.RowKit

/-- a row of cells, each the cell of a value, their data's room not told -/
def CelW : ER LVal where
  size := 5
  pos := by omega
  bytes := 64
  bpos := by omega
  rep w S vs x := ∃ D c, vs = [.int .i64 x.kind, .bool x.b, .int .i64 x.n, .string x.t, .slice D x.l.length c] ∧ Bs w D x.l ∧ At S D x.l.length
  len := by rintro w S vs a ⟨D, c, rfl, _⟩; rfl
  one := by rintro w S vs a ⟨D, c, rfl, _⟩ v hv; simp at hv; rcases hv with rfl | rfl | rfl | rfl | rfl <;> rfl
  keep := by rintro w w' S vs a ⟨D, c, rfl, h, ha⟩ hs; exact ⟨D, c, rfl, h.sameS ha hs, ha⟩
  mono := by rintro w S S' vs a ⟨D, c, rfl, h, ha⟩ hs; exact ⟨D, c, rfl, h, h.atMono ha hs⟩
theorem CelW.at6 {w : World} {A : Option Addr} {S : Nat → Prop} {l : List LVal} (h : SlS CelW w S A l) {k : Nat} (hk : k < l.length) :
    ∃ ad D c, A = some ad ∧ ad.block < w.heap.size ∧ w.cell? (ad.add (k * 5)) = some (.int .i64 l[k].kind) ∧ w.cell? ⟨(ad.add (k * 5)).block, (ad.add (k * 5)).off + 1, none⟩ = some (.bool l[k].b) ∧ w.cell? ⟨(ad.add (k * 5)).block, (ad.add (k * 5)).off + 2, none⟩ = some (.int .i64 l[k].n) ∧
      w.cell? ⟨(ad.add (k * 5)).block, (ad.add (k * 5)).off + 3, none⟩ = some (.string l[k].t) ∧ w.cell? ⟨(ad.add (k * 5)).block, (ad.add (k * 5)).off + 4, none⟩ = some (.slice D l[k].l.length c) ∧ Bs w D l[k].l ∧ At S D l[k].l.length := by
  obtain ⟨ad, vs, rfl, hb, ⟨D, c, rfl, h1, h2⟩, h4, _, h5⟩ := SlS.at_ h hk
  exact ⟨ad, D, c, rfl, hb, h4 _ rfl, h5 1 _ (by omega) rfl, h5 2 _ (by omega) rfl, h5 3 _ (by omega) rfl, h5 4 _ (by omega) rfl, h1, h2⟩
theorem CelW.of_flat {w : World} {S : Nat → Prop} : ∀ {vs : List Value} {xs : List LVal}, CelE.flat w S vs xs → CelW.flat w S vs xs
  | _, [], h => h
  | _, _ :: _, ⟨v, r, e, ⟨D, c, h1, h2, h3, _⟩, h4⟩ => ⟨v, r, e, ⟨D, c, h1, h2, h3⟩, CelW.of_flat h4⟩
theorem CelW.of {w : World} {A : Option Addr} {S : Nat → Prop} {l : List LVal} (h : SlS CelE w S A l) : SlS CelW w S A l := by
  obtain ⟨h1, vs, h2, h3, h4⟩ := h
  exact ⟨h1, vs, h2, h3, CelW.of_flat h4⟩
theorem bs_lt {w : World} {A : Option Addr} {l : List UInt8} (h : Bs w A l) (ad : Addr) (e : A = some ad) (hn : 0 < l.length) : ad.block < w.heap.size := by
  obtain ⟨a2, h1, h2, _⟩ := h.1.2 hn
  rw [e] at h1
  injection h1 with h1
  subst h1
  exact h2
theorem eq_sameT (A B : Option Addr) (l : List UInt8) (c d : Nat) (w : World) (hb : Bs w A l) (hb2 : Bs w B l) : Calls Tryd.prog 12 #[.slice A l.length c, .slice B l.length d] w fun e w' => e = .returned (.bool true) ∧ ∃ n, w' = w.drewN n := by
  refine (equal_any A B l l c d w hb hb2).mono ?_
  rintro en w2 ⟨rfl, h⟩
  exact ⟨by simp, h⟩
/-- cells of the call's own -/
def RetTold (xs : List LVal) (w : World) (en : Ending) (w' : World) : Prop :=
  ∃ D d, en = .returned (.slice D xs.length d) ∧ Sl CelW w' D xs ∧ Below w.heap.size w w'
set_option maxRecDepth 100000 in
set_option maxHeartbeats 4000000 in
theorem told_any (xs : List LVal) (A : Option Addr) (c : Nat) (w : World) (hA : Sl AnyE w A xs) (hlen : xs.length ≤ 1099511627776) : Calls Tryd.prog 26 #[.slice A xs.length c] w (RetTold xs w) := by
  obtain ⟨i1, hi1, hy0, hy1, hy2⟩ := info_parts Tryd.infoCell
  go_enter Tryd.func26, Tryd.ntmps26
  go_wp2_with fail
  go_loopw [3, 5, 6, 7, 10] (fun o _ _ _ j wr => ∃ (k : Nat) (ys : List LVal) (B : Option Addr) (d : Nat), k ≤ xs.length ∧ ys.length ≤ k ∧ j = .int .i64 (k : Int) ∧ o = .slice B ys.length d ∧ Own CelW 42 wr w.heap.size (fun b => w.heap.size ≤ b ∧ b < wr.heap.size) (.slice B ys.length d) ys ∧ ys = xs.take k ∧ Below w.heap.size w wr) (fun _ _ _ _ j _ => xs.length - (intOf j).toNat)
  case atStart => exact ⟨0, [], none, 0, Nat.zero_le _, Nat.le_refl _, rfl, rfl, Own.nil_ CelW _ _ _ _, rfl, Below.refl _ _⟩
  case round =>
    obtain ⟨k, ys, B, d, hk, hyk, rfl, rfl, o, hys, br⟩ := hrel
    have HY := Lib.hid hys
    clear hys
    have zr := br.size
    by_cases hlt : k < xs.length
    · have hlt' : (k : Int) < (xs.length : Int) := by omega
      obtain ⟨ad, v, rfl, q3, q4, hv⟩ := AnyE.at_ (hA.below br) hlt
      have HS : Hid (xs.take (k + 1) = ys ++ [xs[k]]) := by show _ = _; rw [HY.out, List.take_succ_eq_append_getElem hlt]
      generalize xs[k] = x at *
      have T := cell_any v x wr (hv.mono fun _ _ _ => trivial)
      rcases hv.shape with rfl | ⟨T0, u0, rfl⟩
      all_goals
        go_wp2_with fail
        refine T.mono ?_
        rintro en w2 ⟨D, c2, rfl, hD, hat, b2⟩
        have z2 := b2.size
        have dX : Below w2.heap.size w2 (w2.alloc (.cells #[.int .i64 x.kind, .bool x.b, .int .i64 x.n, .string x.t, .slice D x.l.length c2] 42)) := (Below.refl _ _).alloc (Nat.le_refl _) _
        have b12 := br.trans (b2.mono zr)
        have bX := b12.trans (dX.mono b12.size)
        have kX := Blk.new w2 42 #[.int .i64 x.kind, .bool x.b, .int .i64 x.n, .string x.t, .slice D x.l.length c2]
        have o2 : Own CelW 42 w2 w.heap.size (fun b => w.heap.size ≤ b ∧ b < w2.heap.size) (.slice B ys.length d) ys := Own.mono (Own.below o b2) (fun b hb _ hs => ⟨hs.1, hb⟩)
        have oX := Own.below o2 dX
        have hDX := hD.below dX
        go_upto_region 6 with fail
        have lX := kX.lt
        generalize (w2.alloc (.cells #[.int .i64 x.kind, .bool x.b, .int .i64 x.n, .string x.t, .slice D x.l.length c2] 42)) = X at *
        have dZ : Below X.heap.size X (X.alloc (.cells #[.int .i64 x.kind, .bool x.b, .int .i64 x.n, .string x.t, .slice D x.l.length c2] 42)) := (Below.refl _ _).alloc (Nat.le_refl _) _
        have bZ := bX.trans (dZ.mono bX.size)
        have oZ : Own CelW 42 (X.alloc (.cells #[.int .i64 x.kind, .bool x.b, .int .i64 x.n, .string x.t, .slice D x.l.length c2] 42)) w.heap.size (fun b => w.heap.size ≤ b ∧ b < w2.heap.size) (.slice B ys.length d) ys := Own.below oX dZ
        have hat1 : At (fun b => (w.heap.size ≤ b ∧ b < w2.heap.size) ∧ (Value.slice B ys.length d).ownBlock ≠ some b) D x.l.length := fun ad e hn => by
          have h1 := hat ad e hn
          have h2 := bs_lt hD ad e hn
          refine ⟨⟨by omega, h2⟩, fun e2 => ?_⟩
          have := (Own.lt o _ e2).2
          omega
        have hDZ := hDX.below dZ
        go_wp2_with (first
          | ((with_reducible refine wpList_load_blk rfl 42 (.tmp 6) rfl w2.heap.size ?_ 42 _ _ kX Tryd.underlying42 ?_ Tryd.size_Cell ?_ ?_); rfl; rfl; rfl)
          | (at_builtin; refine wpList_appE CelW w.heap.size w _ rfl (.tmp 19) (.tmp 21) 42 26 rfl i1 _ Tryd.underlying26 hi1 hy0 hy1 hy2 rfl _ B ys d rfl oZ _ [.int .i64 x.kind, .bool x.b, .int .i64 x.n, .string x.t, .slice D x.l.length c2] x 1 rfl _ (Reads.newN X [.int .i64 x.kind, .bool x.b, .int .i64 x.n, .string x.t, .slice D x.l.length c2] 42) ⟨D, c2, rfl, hDZ, hat1⟩ (by simp only [CelW]; omega) (by simp only [maxLen]; omega) bZ (Nat.le_refl _) bZ.size ?_; intro B9 d9 ys9 w9 H9 o9 b9 g9 t9; have z9 := g9.size))
        go_roundw
        case rel => exact ⟨k + 1, ys9, B9, d9, by omega, by rw [H9.out, List.length_append, List.length_singleton]; omega, by go_num, rfl, Own.mono o9 (fun b hb _ hs => ⟨hs.1, hb⟩), by rw [H9.out, HS.out], b9⟩
        case measure => simp [intOf]; omega
    · obtain rfl : k = xs.length := by omega
      have HE : Hid (ys = xs) := by show _ = _; rw [HY.out, List.take_length]
      go_wp2_with fail
      go_ret
      rw [← HE.out]
      exact ⟨B, d, rfl, Own.sl o (by simp only [CelW]; omega), br⟩
theorem BelowT.call {a X w' : World} (h : Below a.heap.size a X) (b : Below X.heap.size X w') : Below a.heap.size a w' := h.trans (b.mono h.size)
set_option maxRecDepth 100000 in
set_option maxHeartbeats 4000000 in
theorem csame_any (x : LVal) (D E : Option Addr) (c d : Nat) (w : World) (hD : Bs w D x.l) (hE : Bs w E x.l) : Calls Tryd.prog 52 #[.agg #[.int .i64 x.kind, .bool x.b, .int .i64 x.n, .string x.t, .slice D x.l.length c], .agg #[.int .i64 x.kind, .bool x.b, .int .i64 x.n, .string x.t, .slice E x.l.length d]] w fun en w' => en = .returned (.bool true) ∧ Below w.heap.size w w' := by
  have bX : Below w.heap.size w ((w.alloc (.cells #[.int .i64 x.kind, .bool x.b, .int .i64 x.n, .string x.t, .slice D x.l.length c] 42)).alloc (.cells #[.int .i64 x.kind, .bool x.b, .int .i64 x.n, .string x.t, .slice E x.l.length d] 42)) := ((Below.refl _ _).alloc (Nat.le_refl _) _).alloc (by simp) _
  have kx := (Blk.new w 42 #[.int .i64 x.kind, .bool x.b, .int .i64 x.n, .string x.t, .slice D x.l.length c]).alloc (.cells #[.int .i64 x.kind, .bool x.b, .int .i64 x.n, .string x.t, .slice E x.l.length d] 42)
  have ky := Blk.new (w.alloc (.cells #[.int .i64 x.kind, .bool x.b, .int .i64 x.n, .string x.t, .slice D x.l.length c] 42)) 42 #[.int .i64 x.kind, .bool x.b, .int .i64 x.n, .string x.t, .slice E x.l.length d]
  rw [show (w.alloc (.cells #[.int .i64 x.kind, .bool x.b, .int .i64 x.n, .string x.t, .slice D x.l.length c] 42)).heap.size = w.heap.size + 1 from by simp] at ky
  have hDX := hD.below bX
  have hEX := hE.below bX
  go_enter Tryd.func52, Tryd.ntmps52
  go_upto_region 1 with fail
  generalize ((w.alloc (.cells #[.int .i64 x.kind, .bool x.b, .int .i64 x.n, .string x.t, .slice D x.l.length c] 42)).alloc (.cells #[.int .i64 x.kind, .bool x.b, .int .i64 x.n, .string x.t, .slice E x.l.length d] 42)) = X at *
  have x0 : X.cell? ⟨w.heap.size, 0, none⟩ = some (.int .i64 x.kind) := kx.cell 0
  have x1 : X.cell? ⟨w.heap.size, 1, none⟩ = some (.bool x.b) := kx.cell 1
  have x2 : X.cell? ⟨w.heap.size, 2, none⟩ = some (.int .i64 x.n) := kx.cell 2
  have x3 : X.cell? ⟨w.heap.size, 3, none⟩ = some (.string x.t) := kx.cell 3
  have x4 : X.cell? ⟨w.heap.size, 4, none⟩ = some (.slice D x.l.length c) := kx.cell 4
  have y0 : X.cell? ⟨w.heap.size + 1, 0, none⟩ = some (.int .i64 x.kind) := ky.cell 0
  have y1 : X.cell? ⟨w.heap.size + 1, 1, none⟩ = some (.bool x.b) := ky.cell 1
  have y2 : X.cell? ⟨w.heap.size + 1, 2, none⟩ = some (.int .i64 x.n) := ky.cell 2
  have y3 : X.cell? ⟨w.heap.size + 1, 3, none⟩ = some (.string x.t) := ky.cell 3
  have y4 : X.cell? ⟨w.heap.size + 1, 4, none⟩ = some (.slice E x.l.length d) := ky.cell 4
  have t0_ : (x.kind == x.kind) = true := by simp
  have t1_ : (x.b == x.b) = true := by simp
  have t2_ : (x.n == x.n) = true := by simp
  have t3_ : (x.t.toList == x.t.toList) = true := by simp
  go_wp2_with fail
  refine (eq_sameT D E x.l c d X hDX hEX).mono ?_
  rintro en w2 ⟨rfl, n, rfl⟩
  go_wp2_with fail
  go_ret
  exact ⟨rfl, below_drewN bX n⟩
set_option maxRecDepth 100000 in
set_option maxHeartbeats 4000000 in
theorem samelist_any (xs : List LVal) (A B : Option Addr) (c d : Nat) (w : World) (hA : Sl CelW w A xs) (hB : Sl CelW w B xs) : Calls Tryd.prog 25 #[.slice A xs.length c, .slice B xs.length d] w fun en w' => en = .returned (.bool true) ∧ Below w.heap.size w w' := by
  have hl := hA.le
  go_enter Tryd.func25, Tryd.ntmps25
  go_wp2_with fail
  go_loopw [5] (fun i wr => ∃ k : Nat, k ≤ xs.length ∧ i = .int .i64 (k : Int) ∧ Below w.heap.size w wr) (fun i _ => xs.length - (intOf i).toNat)
  case atStart => exact ⟨0, Nat.zero_le _, rfl, by first | exact Below.refl _ _ | exact below_drewN (Below.refl _ _) _⟩
  case round =>
    obtain ⟨k, hk, rfl, br⟩ := hrel
    by_cases hlt : k < xs.length
    · have z1 : (k : Int) < (xs.length : Int) := by omega
      obtain ⟨ad, D0, c0, rfl, g1, f0, f1, f2, f3, f4, hD0, -⟩ := CelW.at6 (hA.below br) hlt
      obtain ⟨bd, E0, e0, rfl, g2, i0, i1, i2, i3, i4, hE0, -⟩ := CelW.at6 (hB.below br) hlt
      generalize xs[k] = x at *
      have t1 : ∀ W, Below wr.heap.size wr W → Calls Tryd.prog 52 #[.agg #[.int .i64 x.kind, .bool x.b, .int .i64 x.n, .string x.t, .slice D0 x.l.length c0], .agg #[.int .i64 x.kind, .bool x.b, .int .i64 x.n, .string x.t, .slice E0 x.l.length e0]] W fun en w' => en = .returned (.bool true) ∧ Below W.heap.size W w' := fun W hW => csame_any x D0 E0 c0 e0 W (hD0.below hW) (hE0.below hW)
      have ks : ∀ W, Below wr.heap.size wr W → W.cell? (ad.add (k * 5)) = some (.int .i64 x.kind) ∧ W.cell? ⟨(ad.add (k * 5)).block, (ad.add (k * 5)).off + 1, none⟩ = some (.bool x.b) ∧ W.cell? ⟨(ad.add (k * 5)).block, (ad.add (k * 5)).off + 2, none⟩ = some (.int .i64 x.n) ∧ W.cell? ⟨(ad.add (k * 5)).block, (ad.add (k * 5)).off + 3, none⟩ = some (.string x.t) ∧ W.cell? ⟨(ad.add (k * 5)).block, (ad.add (k * 5)).off + 4, none⟩ = some (.slice D0 x.l.length c0) ∧ W.cell? (bd.add (k * 5)) = some (.int .i64 x.kind) ∧ W.cell? ⟨(bd.add (k * 5)).block, (bd.add (k * 5)).off + 1, none⟩ = some (.bool x.b) ∧ W.cell? ⟨(bd.add (k * 5)).block, (bd.add (k * 5)).off + 2, none⟩ = some (.int .i64 x.n) ∧ W.cell? ⟨(bd.add (k * 5)).block, (bd.add (k * 5)).off + 3, none⟩ = some (.string x.t) ∧ W.cell? ⟨(bd.add (k * 5)).block, (bd.add (k * 5)).off + 4, none⟩ = some (.slice E0 x.l.length e0) := fun W hW => by
        have h1 : ∀ p : Addr, p.block < wr.heap.size → W.cell? p = wr.cell? p := fun p hp => hW.cell hp
        refine ⟨(h1 _ ?_).trans f0, (h1 _ ?_).trans f1, (h1 _ ?_).trans f2, (h1 _ ?_).trans f3, (h1 _ ?_).trans f4, (h1 _ ?_).trans i0, (h1 _ ?_).trans i1, (h1 _ ?_).trans i2, (h1 _ ?_).trans i3, (h1 _ ?_).trans i4⟩ <;> simpa [block_of_add] using (by assumption)
      have T1 := Lib.hid t1
      have KS := Lib.hid ks
      go_upto_region 6 with fail
      clear t1 ks f0 f1 f2 f3 f4 i0 i1 i2 i3 i4 hD0 hE0 g1 g2
      go_region_held3 (fun W : World => W.cell? (ad.add (k * 5)) = some (.int .i64 x.kind) ∧ W.cell? ⟨(ad.add (k * 5)).block, (ad.add (k * 5)).off + 1, none⟩ = some (.bool x.b) ∧ W.cell? ⟨(ad.add (k * 5)).block, (ad.add (k * 5)).off + 2, none⟩ = some (.int .i64 x.n) ∧ W.cell? ⟨(ad.add (k * 5)).block, (ad.add (k * 5)).off + 3, none⟩ = some (.string x.t) ∧ W.cell? ⟨(ad.add (k * 5)).block, (ad.add (k * 5)).off + 4, none⟩ = some (.slice D0 x.l.length c0) ∧ W.cell? (bd.add (k * 5)) = some (.int .i64 x.kind) ∧ W.cell? ⟨(bd.add (k * 5)).block, (bd.add (k * 5)).off + 1, none⟩ = some (.bool x.b) ∧ W.cell? ⟨(bd.add (k * 5)).block, (bd.add (k * 5)).off + 2, none⟩ = some (.int .i64 x.n) ∧ W.cell? ⟨(bd.add (k * 5)).block, (bd.add (k * 5)).off + 3, none⟩ = some (.string x.t) ∧ W.cell? ⟨(bd.add (k * 5)).block, (bd.add (k * 5)).off + 4, none⟩ = some (.slice E0 x.l.length e0)) (with_reducible refine KS.out _ ?_; (focus (repeat (first | (with_reducible exact bxc) | (with_reducible exact Below.refl _ _) | (with_reducible refine Below.drew_ ?_))))) (first
        | (go_at_call 52; (with_reducible refine (T1.out _ ?_).mono ?_); (focus (repeat (first | (with_reducible exact Below.refl _ _) | (with_reducible refine Below.drew_ ?_)))); rintro en wz ⟨rfl, bz⟩; have bxc : Below wr.heap.size wr wz := (by refine BelowT.call ?_ bz; (focus (repeat (first | (with_reducible exact Below.refl _ _) | (with_reducible refine Below.drew_ ?_))))); skip))
      all_goals
        go_wp2_with fail
        go_roundw
        case rel => exact ⟨k + 1, by omega, by go_num, br.trans (bxc.mono br.size)⟩
        case measure => simp [intOf]; omega
    · obtain rfl : k = xs.length := by omega
      go_wp2_with fail
      go_ret
      exact ⟨rfl, br⟩
set_option maxRecDepth 100000 in
set_option maxHeartbeats 4000000 in
theorem psame_any (ps : List (List UInt8 × List UInt8)) (A B : Option Addr) (c d : Nat) (w : World) (hA : Sl PairE w A ps) (hB : Sl PairE w B ps) : Calls Tryd.prog 23 #[.slice A ps.length c, .slice B ps.length d] w fun en w' => en = .returned (.bool true) ∧ ∃ n, w' = w.drewN n := by
  have hl := hA.le
  go_enter Tryd.func23, Tryd.ntmps23
  go_wp2_with fail
  go_loopw [5] (fun i wr => ∃ k n : Nat, k ≤ ps.length ∧ i = .int .i64 (k : Int) ∧ wr = w.drewN n) (fun i _ => ps.length - (intOf i).toNat)
  case atStart => exact ⟨0, 0, Nat.zero_le _, rfl, rfl⟩
  case round =>
    obtain ⟨k, n, hk, rfl, rfl⟩ := hrel
    by_cases hlt : k < ps.length
    · have z1 : (k : Int) < (ps.length : Int) := by omega
      obtain ⟨ad, P, p, Q, q, rfl, ha, f0, f1, ⟨hP, -⟩, ⟨hQ, -⟩⟩ := PairE.at_ hA hlt
      obtain ⟨bd, R, r, O, o, rfl, hb, i0, i1, ⟨hR, -⟩, ⟨hO, -⟩⟩ := PairE.at_ hB hlt
      generalize ps[k] = pr at *
      have t1 : ∀ m, Calls Tryd.prog 12 #[.slice P pr.1.length p, .slice R pr.1.length r] (w.drewN (n + m)) fun e w' => e = .returned (.bool true) ∧ ∃ q, w' = w.drewN (n + q) := fun m =>
        (eq_sameT P R pr.1 p r (w.drewN (n + m)) (hP.drewN _) (hR.drewN _)).mono fun _ _ ⟨he, q, hm⟩ => ⟨he, m + q, by rw [hm, World.drewN_drewN, Nat.add_assoc]⟩
      have t2 : ∀ m, Calls Tryd.prog 12 #[.slice Q pr.2.length q, .slice O pr.2.length o] (w.drewN (n + m)) fun e w' => e = .returned (.bool true) ∧ ∃ q, w' = w.drewN (n + q) := fun m =>
        (eq_sameT Q O pr.2 q o (w.drewN (n + m)) (hQ.drewN _) (hO.drewN _)).mono fun _ _ ⟨he, q, hm⟩ => ⟨he, m + q, by rw [hm, World.drewN_drewN, Nat.add_assoc]⟩
      have T1 := Lib.hid t1
      have T2 := Lib.hid t2
      clear t1 t2
      go_upto_region 6 with fail
      go_quiet (first | (go_at_call 12; with_reducible exact T1.out _) | (go_at_call 12; with_reducible exact T2.out _))
      go_wp2_with fail
      go_roundw
      case rel => exact ⟨k + 1, n + nq, by omega, by go_num, rfl⟩
      case measure => simp [intOf]; omega
    · obtain rfl : k = ps.length := by omega
      go_wp2_with fail
      go_ret
      exact ⟨rfl, n, rfl⟩
end Go.Proofs.YtfededjcadmpbaaDoor

namespace Go.Proofs.YtfededjcadmpbaaDoor
open Go.RowKit

theorem CelE.at8 {w : World} {A : Option Addr} {S : Nat → Prop} {l : List LVal} (h : SlS CelE w S A l) {k : Nat} (hk : k < l.length) :
    ∃ ad D c, A = some ad ∧ ad.block < w.heap.size ∧ w.cell? (ad.add (k * 5)) = some (.int .i64 l[k].kind) ∧ w.cell? ⟨(ad.add (k * 5)).block, (ad.add (k * 5)).off + 1, none⟩ = some (.bool l[k].b) ∧ w.cell? ⟨(ad.add (k * 5)).block, (ad.add (k * 5)).off + 2, none⟩ = some (.int .i64 l[k].n) ∧
      w.cell? ⟨(ad.add (k * 5)).block, (ad.add (k * 5)).off + 3, none⟩ = some (.string l[k].t) ∧ w.cell? ⟨(ad.add (k * 5)).block, (ad.add (k * 5)).off + 4, none⟩ = some (.slice D l[k].l.length c) ∧ Bs w D l[k].l ∧ (l[k].l.length ≤ c ∧ c ≤ 9223372036854775807) ∧ l[k].t.size ≤ 17592186043904 := by
  obtain ⟨ad, vs, rfl, hb, ⟨D, c, rfl, h1, h2, h3, h6, h7⟩, h4, _, h5⟩ := SlS.at_ h hk
  exact ⟨ad, D, c, rfl, hb, h4 _ rfl, h5 1 _ (by omega) rfl, h5 2 _ (by omega) rfl, h5 3 _ (by omega) rfl, h5 4 _ (by omega) rfl, h1, ⟨h3, h6⟩, h7⟩
theorem keyL_snoc (l : List LVal) (x : LVal) : keyL (l ++ [x]) = keyL l ++ keyL [x] := by
  unfold keyL
  rw [List.flatMap_append]
theorem cel_one (w : World) (x : LVal) (D : Option Addr) (c : Nat) (hD : Bs w D x.l) (hc : x.l.length ≤ c ∧ c ≤ 9223372036854775807) (ht : x.t.size ≤ 17592186043904) :
    Sl CelE (w.alloc (.cells #[.int .i64 x.kind, .bool x.b, .int .i64 x.n, .string x.t, .slice D x.l.length c] 42)) (some ⟨w.heap.size, 0, none⟩) [x] := by
  have hb : Below w.heap.size w (w.alloc (.cells #[.int .i64 x.kind, .bool x.b, .int .i64 x.n, .string x.t, .slice D x.l.length c] 42)) := (Below.refl _ _).alloc (Nat.le_refl _) _
  refine ⟨by simp [CelE], [.int .i64 x.kind, .bool x.b, .int .i64 x.n, .string x.t, .slice D x.l.length c], ?_, At.any _ _, ER.flat_one_ ⟨D, c, rfl, hD.below hb, At.any _ _, hc.1, hc.2, ht⟩⟩
  have h := Reads.newN w [.int .i64 x.kind, .bool x.b, .int .i64 x.n, .string x.t, .slice D x.l.length c] 42
  rw [show (w.alloc (.cells #[.int .i64 x.kind, .bool x.b, .int .i64 x.n, .string x.t, .slice D x.l.length c] 42)).heap.size = w.heap.size + 1 from by simp]
  exact h
theorem own3 (W : World) (a b c : UInt8) : OwnB W.heap.size (W.alloc (.cells #[.int .u8 (a.toNat : Int), .int .u8 (b.toNat : Int), .int .u8 (c.toNat : Int)] 5)) (some ⟨W.heap.size, 0, none⟩) [a, b, c] 3 := ownB_lit W [a, b, c] (by simp)
theorem own3i (W : World) (id i : Int) (h1 : 0 ≤ id ∧ id < 256) (h2 : 0 ≤ i ∧ i < 256) : OwnB W.heap.size (W.alloc (.cells #[.int .u8 105, .int .u8 id, .int .u8 i] 5)) (some ⟨W.heap.size, 0, none⟩) [105, UInt8.ofInt id, UInt8.ofInt i] 3 := by
  have h := own3 W 105 (UInt8.ofInt id) (UInt8.ofInt i)
  rw [show ((105 : UInt8).toNat : Int) = 105 from rfl, show ((UInt8.ofInt id).toNat : Int) = id from by rw [mod_u8 id, Int.emod_eq_of_lt h1.1 h1.2], show ((UInt8.ofInt i).toNat : Int) = i from by rw [mod_u8 i, Int.emod_eq_of_lt h2.1 h2.2]] at h
  exact h
set_option maxRecDepth 100000 in
set_option maxHeartbeats 8000000 in
theorem rentries_any (id keys : Int) (tn : ByteArray) (cols : List LCol) (ixs : List LIx) (xs : List LVal) (A B C : Option Addr) (ca cb cc : Nat) (w : World) (hA : Sl ColE w A cols) (hB : Sl IxE w B ixs) (hC : Sl CelE w C xs) (hn : tn.size ≤ 140737488351232)
    (hx : ∀ x ∈ xs, x.err = 0 ∧ x.wfv) (hcc : xs.length ≤ cc ∧ cc ≤ 9223372036854775807) :
    Calls Tryd.prog 22 #[.agg #[.int .i64 id, .string tn, .slice A cols.length ca, .int .i64 keys, .slice B ixs.length cb], .slice C xs.length cc] w (RetEnts (fitsE id keys tn cols ixs xs) (entsB id keys tn cols ixs xs) w) := by
  obtain ⟨i1, hi1, hy0, hy1, hy2⟩ := info_parts Tryd.infoPair
  have HX := Lib.hid hx
  clear hx
  have b0 : Below w.heap.size w (w.alloc (.cells #[.int .i64 id, .string tn, .slice A cols.length ca, .int .i64 keys, .slice B ixs.length cb] 25)) := (Below.refl _ _).alloc (Nat.le_refl _) _
  have k0 := Blk.new w 25 #[.int .i64 id, .string tn, .slice A cols.length ca, .int .i64 keys, .slice B ixs.length cb]
  go_enter Tryd.func22, Tryd.ntmps22
  go_wp2_with fail
  generalize (w.alloc (.cells #[.int .i64 id, .string tn, .slice A cols.length ca, .int .i64 keys, .slice B ixs.length cb] 25)) = W0 at *
  refine (rfits_any id keys tn cols ixs xs A B C ca cb cc W0 (hA.below b0) (hB.below b0) (hC.below b0) hn).mono ?_
  rw [rfitsE_eq (fun x hx => (HX.out x hx).1)]
  rintro en w1 ⟨rfl, b1⟩
  have b01 := b0.trans (b1.mono b0.size)
  have k1 := k0.below b1 k0.lt
  clear b0 b1 k0
  by_cases h0 : fitsE id keys tn cols ixs xs = 0
  · have d0 : (fitsE id keys tn cols ixs xs != 0) = false := by rw [h0]; rfl
    obtain ⟨hck, hxl, hve⟩ := fitsE_ok h0
    obtain ⟨hi1_, hi2_, hk1, hk2, hc16⟩ := check_head hck
    obtain ⟨hx4, hxr⟩ := check_ixs hck
    have hsm2 : ∀ x ∈ xs, x.sm := values_sm (Nat.le_of_eq hxl) hve
    have HSM := Lib.hid hsm2
    have HR := Lib.hid hxr
    have hEL : Hid (entsB id keys tn cols ixs xs = entsL id keys ixs xs) := by show _ = _; unfold entsB; rw [if_pos h0]
    have hKE : Hid (keyE id keys tn cols ixs xs = 0) := keyE_of_fits h0
    have hKB : Hid (keyB id keys tn cols ixs xs = rowKey id keys xs) := by show _ = _; unfold keyB; rw [if_pos (keyE_of_fits h0)]
    have HF0 := Lib.hid h0
    have hkn : (rowKey id keys xs).length ≤ 1073741824 := by
      have := keyL_len (xs := xs.take keys.toNat) fun x hx => hsm2 x (List.mem_of_mem_take hx)
      have hl : (xs.take keys.toNat).length ≤ 16 := by rw [List.length_take]; omega
      show ([114, UInt8.ofInt id] ++ keyL (xs.take keys.toNat)).length ≤ _
      rw [List.length_append]
      show 2 + _ ≤ _
      omega
    have hxl1 : xs.length ≤ cols.length := Nat.le_of_eq hxl
    have hxl2 : cols.length ≤ xs.length := Nat.le_of_eq hxl.symm
    clear h0 hve hsm2 hxr hck hxl
    go_wp2_with ((with_reducible refine wpList_load_blk rfl 25 (.tmp 2) rfl w.heap.size ?_ 25 _ _ k1 Tryd.underlying25 ?_ Tryd.size_TableV ?_ ?_); rfl; rfl; rfl)
    refine (rrowkey_any id keys tn cols ixs xs A B C ca cb cc w1 (hA.below b01) (hB.below b01) (hC.below b01) hn (fun x hx => HX.out x hx) hcc).mono ?_
    rintro en w2 ⟨K1, d1, rfl, oK, b2⟩
    rw [hKB.out] at oK ⊢
    rw [hKE.out]
    have HEL : Hid (entsB id keys tn cols ixs xs = (rowKey id keys xs, encL xs) :: ixs.mapIdx fun i x => (entK id (rowKey id keys xs) xs i x, rowKey id keys xs)) := by show _ = _; rw [hEL.out]; rfl
    generalize rowKey id keys xs = key at *
    have b02 := b01.trans (b2.mono b01.size)
    have k2 := k1.below b2 k1.lt
    have zz1 : w.heap.size ≤ w1.heap.size := b01.size
    clear b01 b2 k1
    go_wp2_with fail
    refine (renc_any xs C cc w2 (hC.below b02) (fun x hx => HSM.out x hx) (fun x hx => HX.out x hx) (by omega)).mono ?_
    rintro en w3 ⟨F1, f1, rfl, oE, b3⟩
    have hel := encL_len (xs := xs) (fun x hx => HSM.out x hx)
    generalize encL xs = ebs at *
    have b03 := b02.trans (b3.mono b02.size)
    have k3 := k2.below b3 k2.lt
    have oK3 := oK.below b3
    have oE3 : OwnB w2.heap.size w3 F1 ebs f1 := oE
    have hel2 : ebs.length ≤ 1073741824 := by omega
    have zz2 : w.heap.size ≤ w2.heap.size := b02.size
    have zz3 := b3.size
    have dX : Below w3.heap.size w3 (w3.alloc (.cells #[.slice K1 key.length d1, .slice F1 ebs.length f1] 54)) := (Below.refl _ _).alloc (Nat.le_refl _) _
    have bX := b03.trans (dX.mono b03.size)
    have kX := k3.below dX k3.lt
    have oP : Own PairE 54 (w3.alloc (.cells #[.slice K1 key.length d1, .slice F1 ebs.length f1] 54)) w3.heap.size (fun b => w.heap.size ≤ b ∧ b < w3.heap.size) (.slice (some ⟨w3.heap.size, 0, none⟩) 1 1) [(key, ebs)] := by
      refine ⟨[.slice K1 key.length d1, .slice F1 ebs.length f1], own_pair (Blk.new w3 _ _) (Nat.le_refl _), ER.flat_one_ ⟨K1, d1, F1, f1, rfl, ⟨(oK3.bs (by show key.length ≤ _; omega)).below dX, fun ad e hn => ?_, oK3.caps⟩, (oE3.bs (by show ebs.length ≤ _; omega)).below dX, fun ad e hn => ?_, oE3.caps⟩⟩
      · have h1 := OwnB.at_ oK3 ad e hn
        have h2 := kX.lt
        refine ⟨⟨by omega, h1.2⟩, fun e2 => ?_⟩
        have h3 : w3.heap.size = ad.block := Option.some.inj e2
        have h4 : ad.block < w3.heap.size := h1.2
        omega
      · have h1 := OwnB.at_ oE3 ad e hn
        refine ⟨⟨by omega, h1.2⟩, fun e2 => ?_⟩
        have h3 : w3.heap.size = ad.block := Option.some.inj e2
        have h4 : ad.block < w3.heap.size := h1.2
        omega
    have oKX : OwnB w1.heap.size (w3.alloc (.cells #[.slice K1 key.length d1, .slice F1 ebs.length f1] 54)) K1 key d1 := OwnB.below oK3 dX
    have hFK := fun g e => (OwnB.lt oK3 g e).2
    have FK := Lib.hid hFK
    have hFA := fun ad e hn => (OwnB.at_ oK3 ad e hn).2
    have FKA := Lib.hid hFA
    clear hFA
    clear hFK
    have zw3 := b03.size
    have zlt3 : w.heap.size < w3.heap.size := k3.lt
    have l3 := dX.size
    go_upto_region 6 with fail
    have lX : w3.heap.size < (w3.alloc (.cells #[.slice K1 key.length d1, .slice F1 ebs.length f1] 54)).heap.size := by simp
    generalize (w3.alloc (.cells #[.slice K1 key.length d1, .slice F1 ebs.length f1] 54)) = X at *
    generalize hM : (ixs.mapIdx fun i x => (entK id key xs i x, key)) = M at *
    have hMl : M.length = ixs.length := by rw [← hM, List.length_mapIdx]
    have hMg : ∀ k (h : k < ixs.length), M.take (k + 1) = M.take k ++ [(entK id key xs k ixs[k], key)] := fun k h => by
      have h2 : k < M.length := by omega
      rw [List.take_succ_eq_append_getElem h2]
      congr 2
      subst hM
      rw [List.getElem_mapIdx]
    have HM := Lib.hid hMg
    have HML := Lib.hid hMl
    have q4 : X.cell? ⟨w.heap.size, 4, none⟩ = some (.slice B ixs.length cb) := kX.cell 4
    clear hMg hMl hM dX oK3 oK oE oE3 k3 k2 b3
    have lkX := kX.lt
    go_wp2_with fail
    go_loopw [9, 10, 11, 12, 13] (fun o j _ _ _ wr => ∃ (k : Nat) (ps : List (List UInt8 × List UInt8)) (Bp : Option Addr) (dp : Nat), k ≤ ixs.length ∧ j = .int .i64 (k : Int) ∧ o = .slice Bp ps.length dp ∧ Own PairE 54 wr w3.heap.size (fun b => w.heap.size ≤ b ∧ b < wr.heap.size) (.slice Bp ps.length dp) ps ∧ ps = (key, ebs) :: M.take k ∧ ps.length ≤ k + 1 ∧ OwnB w1.heap.size wr K1 key d1 ∧ Blk wr w.heap.size 25 #[.int .i64 id, .string tn, .slice A cols.length ca, .int .i64 keys, .slice B ixs.length cb] ∧ w3.heap.size ≤ wr.heap.size ∧ Below w.heap.size w wr) (fun _ j _ _ _ _ => ixs.length - (intOf j).toNat)
    case atStart => exact ⟨0, [(key, ebs)], _, _, Nat.zero_le _, rfl, rfl, Own.mono oP (fun b hb _ hs => ⟨hs.1, hb⟩), by rw [List.take_zero], Nat.le_refl _, oKX, kX, l3, bX⟩
    case round =>
      clear q4
      obtain ⟨k, ps, Bp, dp, hk, rfl, rfl, o, hp, hpl, oKr, kr, z3r, bw⟩ := hrel
      generalize wr = wo at *
      have HP := Lib.hid hp
      clear hp
      have zr := bw.size
      have q4r : wo.cell? ⟨w.heap.size, 4, none⟩ = some (.slice B ixs.length cb) := kr.cell 4
      by_cases hlt : k < ixs.length
      · have hlt' : (k : Int) < (ixs.length : Int) := by omega
        have HMG := Lib.hid (HM.out k hlt)
        obtain ⟨hr1, hr2⟩ := HR.out _ (List.getElem_mem hlt)
        have hr3 : ∀ c ∈ ixs[k].cols, 0 ≤ c ∧ c < (xs.length : Int) := fun c hc => by have := hr1 c hc; omega
        have hek : ∀ K : List UInt8, entK id K xs k ixs[k] = ([105, UInt8.ofInt id, UInt8.ofInt (k : Int)] ++ keyL (ixVals xs ixs[k])) ++ (if ixs[k].uniq = true then [] else K) := fun _ => rfl
        obtain ⟨bd, Cx, cx, rfl, g1, f0, f1, f2, hIs, _, _⟩ := IxE.at_ (hB.below bw) hlt
        obtain ⟨x, hxx⟩ : ∃ x, ixs[k] = x := ⟨_, rfl⟩
        rw [hxx] at f0 f1 f2 hIs hr1 hr2 hr3 hek HMG
        clear hxx
        have HEK := Lib.hid (hek key)
        have hvl : (ixVals xs x).length = x.cols.length := by unfold ixVals; rw [List.length_map]
        have hr16 : x.cols.length ≤ 16 := by omega
        have HR3 := Lib.hid hr3
        have HVL := Lib.hid hvl
        generalize entK id key xs k x = ek at *
        clear hr1 hr2 hr3 hek hvl
        have dI : Below wo.heap.size wo (wo.alloc (.cells #[.string x.name, .slice Cx x.cols.length cx, .bool x.uniq] 57)) := (Below.refl _ _).alloc (Nat.le_refl _) _
        have ki := Blk.new wo 57 #[.string x.name, .slice Cx x.cols.length cx, .bool x.uniq]
        have krX := kr.below dI kr.lt
        have y0 : (wo.alloc (.cells #[.string x.name, .slice Cx x.cols.length cx, .bool x.uniq] 57)).cell? ⟨w.heap.size, 0, none⟩ = some (.int .i64 id) := krX.cell 0
        go_upto_region 10 with fail
        generalize (wo.alloc (.cells #[.string x.name, .slice Cx x.cols.length cx, .bool x.uniq] 57)) = X at *
        have liX := ki.lt
        have oY := own3i X id (k : Int) (by omega) (by omega)
        have dY : Below X.heap.size X (X.alloc (.cells #[.int .u8 105, .int .u8 id, .int .u8 (k : Int)] 5)) := (Below.refl _ _).alloc (Nat.le_refl _) _
        have kiY := ki.below dY liX
        go_upto_region 11 with fail
        generalize (X.alloc (.cells #[.int .u8 105, .int .u8 id, .int .u8 (k : Int)] 5)) = Y at *
        obtain ⟨pre, hpre⟩ : ∃ pre, pre = [105, UInt8.ofInt id, UInt8.ofInt (k : Int)] := ⟨_, rfl⟩
        have hprl : pre.length = 3 := by rw [hpre]; rfl
        have oY2 : OwnB X.heap.size Y (some ⟨X.heap.size, 0, none⟩) pre 3 := by rw [hpre]; exact oY
        have HPRE := Lib.hid hpre
        clear hpre oY f0 f1 f2 y0 g1
        have q1 : Y.cell? ⟨wo.heap.size, 1, none⟩ = some (.slice Cx x.cols.length cx) := kiY.cell 1
        have hst : (Value.slice (some ⟨X.heap.size, 0, none⟩) 3 3) = .slice (some ⟨X.heap.size, 0, none⟩) pre.length 3 := by rw [hprl]
        have HST := Lib.hid hst
        clear hst
        go_wp2_with fail
        go_loopw [12, 13] (fun kk j wr => ∃ (m : Nat) (acc : List UInt8) (Bk : Option Addr) (dk : Nat), m ≤ x.cols.length ∧ j = .int .i64 (m : Int) ∧ kk = .slice Bk acc.length dk ∧ OwnB X.heap.size wr Bk acc dk ∧ acc = pre ++ keyL ((ixVals xs x).take m) ∧ acc.length ≤ 3 + m * 16777216 ∧ Below X.heap.size X wr) (fun _ j _ => x.cols.length - (intOf j).toNat)
        case atStart => exact ⟨0, pre, _, 3, Nat.zero_le _, rfl, HST.out, oY2, by rw [List.take_zero]; exact (List.append_nil _).symm, by omega, dY⟩
        case round =>
          clear q1
          obtain ⟨m, acc, Bk, dk, hm, rfl, rfl, ok, hacc, hal, b4⟩ := hrel
          have HACC := Lib.hid hacc
          clear hacc
          have z4 := b4.size
          have ki4 := ki.below b4 liX
          have bI4 := dI.trans (b4.mono dI.size)
          have bw4 := bw.trans (bI4.mono bw.size)
          have q1 : wr.cell? ⟨wo.heap.size, 1, none⟩ = some (.slice Cx x.cols.length cx) := ki4.cell 1
          have hIs4 := hIs.below bI4
          by_cases hlm : m < x.cols.length
          · have hlm' : (m : Int) < (x.cols.length : Int) := by omega
            obtain ⟨xd, rfl, q2, q3⟩ := hIs4.at_ hlm
            obtain ⟨hc0, hc1⟩ := HR3.out _ (List.getElem_mem hlm)
            have HTK : Hid ((ixVals xs x).take (m + 1) = (ixVals xs x).take m ++ [xs.getD (x.cols[m]).toNat .null]) := by
              show _ = _
              rw [List.take_succ_eq_append_getElem (by rw [HVL.out]; exact hlm)]
              unfold ixVals
              rw [List.getElem_map]
            generalize x.cols[m] = cc_ at *
            obtain ⟨cn, rfl⟩ : ∃ cn : Nat, cc_ = (cn : Int) := ⟨cc_.toNat, by omega⟩
            have hcn : cn < xs.length := by omega
            have hcn' : (cn : Int) < (xs.length : Int) := by omega
            have hxg := HX.out xs[cn] (List.getElem_mem hcn)
            have hxs := HSM.out xs[cn] (List.getElem_mem hcn)
            have HG : Hid (xs.getD ((cn : Int)).toNat .null = xs[cn]) := by show _ = _; rw [Int.toNat_natCast, List.getD_eq_getElem?_getD, List.getElem?_eq_getElem hcn]; rfl
            obtain ⟨rd, D0, c0, rfl, g4, e0, e1, e2, e3, e4, hD0, hcp⟩ := CelE.at8 (hC.below bw4) hcn
            generalize xs[cn] = xv at *
            have T := rckey_any [xv] (some ⟨wr.heap.size, 0, none⟩) 1 _ (cel_one wr xv D0 c0 hD0 hcp.1 hcp.2) (fun y hy => by rw [List.mem_singleton.1 hy]; exact hxs) (fun y hy => by rw [List.mem_singleton.1 hy]; exact hxg) (by simp)
            have hkl := keyL_len (xs := [xv]) (fun y hy => by rw [List.mem_singleton.1 hy]; exact hxs)
            rw [List.length_singleton] at hkl
            have HTL : Hid (keyL ((ixVals xs x).take (m + 1)) = keyL ((ixVals xs x).take m) ++ keyL [xv]) := by
              show _ = _
              rw [HTK.out, keyL_snoc, HG.out]
            generalize keyL [xv] = kv at *
            have dV : Below wr.heap.size wr (wr.alloc (.cells #[.int .i64 xv.kind, .bool xv.b, .int .i64 xv.n, .string xv.t, .slice D0 xv.l.length c0] 42)) := (Below.refl _ _).alloc (Nat.le_refl _) _
            go_wp2_with fail
            generalize (wr.alloc (.cells #[.int .i64 xv.kind, .bool xv.b, .int .i64 xv.n, .string xv.t, .slice D0 xv.l.length c0] 42)) = V at *
            refine T.mono ?_
            rintro en w5 ⟨Bq, dq, rfl, oq, b5⟩
            have b45 := dV.trans (b5.mono dV.size)
            have bX5 := b4.trans (b45.mono b4.size)
            have ok5 := ok.below b45
            have hq5 : Bs w5 Bq kv := OwnB.bs oq (by omega)
            go_wp2_with (at_builtin; refine wpList_app X.heap.size X _ rfl (.tmp 56) (.tmp 66) rfl Bk acc dk rfl ok5 Bq kv dq rfl hq5 (by omega) bX5 (Nat.le_refl _) bX5.size ?_; intro B6 d6 acc6 w6 H6 o6 b6 g6 t6; have L6 : acc6.length ≤ acc.length + kv.length := (by rw [H6.out, List.length_append]; exact Nat.le_refl _))
            go_roundw
            case rel => exact ⟨m + 1, acc6, B6, d6, by omega, by go_num, rfl, o6, by rw [H6.out, HTL.out, HACC.out, List.append_assoc], by omega, b6⟩
            case measure => simp [intOf]; omega
          · obtain rfl : m = x.cols.length := by omega
            have HAC2 : Hid (acc = pre ++ keyL (ixVals xs x)) := by show _ = _; rw [HACC.out, ← HVL.out, List.take_length]
            clear HACC
            have q5 : wr.cell? ⟨wo.heap.size, 2, none⟩ = some (.bool x.uniq) := ki4.cell 2
            have oZ0 : Own PairE 54 wr w3.heap.size (fun b => w.heap.size ≤ b ∧ b < wo.heap.size) (.slice Bp ps.length dp) ps := Own.below o bI4
            have oK4 := OwnB.below oKr bI4
            have kr4 := kr.below bI4 kr.lt
            have hK4 : Bs wr K1 key := oK4.bs (by omega)
            have z4w := bI4.size
            have lrx : wo.heap.size ≤ X.heap.size := by omega
            cases hq : x.uniq with
            | false =>
              have HE : Hid (ek = acc ++ key) := by
                show _ = _
                rw [HEK.out, HAC2.out, HPRE.out, hq]; rfl
              rw [hq] at q5
              clear hq
              have eln : ek.length ≤ acc.length + key.length := by rw [HE.out, List.length_append]; exact Nat.le_refl _
              go_upto_region 17 with (at_builtin; refine wpList_app X.heap.size X _ rfl (.tmp 71) (.tmp 72) rfl Bk acc dk rfl ok K1 key d1 rfl hK4 (by omega) b4 (Nat.le_refl _) b4.size ?_; intro D c ek2 W5 H5 ok5_ b5 g5 t5; have ok5 : OwnB X.heap.size W5 D ek2 c := ok5_; clear ok5_)
              obtain rfl : ek = ek2 := HE.out.trans H5.out.symm
              have w5K : OwnB X.heap.size W5 D ek c := ok5
              have z5 := b5.size
              have bI5 := dI.trans (b5.mono dI.size)
              have bw5 := bw.trans (bI5.mono bw.size)
              have oZ5 : Own PairE 54 W5 w3.heap.size (fun b => w.heap.size ≤ b ∧ b < W5.heap.size) (.slice Bp ps.length dp) ps := Own.mono (Own.below o bI5) (fun b hb _ hs => ⟨hs.1, hb⟩)
              have oK5 := OwnB.below oKr bI5
              have kr5 := kr.below bI5 kr.lt
              have hel5 : ek.length ≤ 4294967296 := by omega
              have dZ : Below W5.heap.size W5 (W5.alloc (.cells #[.slice D ek.length c, .slice K1 key.length d1] 54)) := (Below.refl _ _).alloc (Nat.le_refl _) _
              have bwZ := bw5.trans (dZ.mono bw5.size)
              have oZ := Own.below oZ5 dZ
              have oKZ := OwnB.below oK5 dZ
              have krZ := kr5.below dZ kr5.lt
              have zwZ := bwZ.size
              have z5Z := dZ.size
              have hat1 : At (fun b => (w.heap.size ≤ b ∧ b < W5.heap.size) ∧ (Value.slice Bp ps.length dp).ownBlock ≠ some b) D ek.length := fun ad e hn => by
                have h1 := OwnB.at_ w5K ad e hn
                refine ⟨⟨by omega, h1.2⟩, fun e2 => ?_⟩
                have := (Own.lt o _ e2).2
                omega
              have hat2 : At (fun b => (w.heap.size ≤ b ∧ b < W5.heap.size) ∧ (Value.slice Bp ps.length dp).ownBlock ≠ some b) K1 key.length := fun ad e hn => by
                have h1 := OwnB.at_ oK5 ad e hn
                have h3 := OwnB.at_ oKr ad e hn
                refine ⟨⟨by omega, h1.2⟩, fun e2 => ?_⟩
                have h4 := (Own.lt o _ e2).1
                have h5 := FKA.out ad e hn
                omega
              have hb1 := (w5K.bs (by omega)).below dZ
              have hb2 := (oK5.bs (by omega)).below dZ
              have c1 := w5K.caps
              have c2 := oK5.caps
              clear w5K ok5
              go_wp2_with (at_builtin; refine wpList_appE PairE w3.heap.size w _ rfl (.tmp 74) (.tmp 78) 54 50 rfl i1 _ Tryd.underlying50 hi1 hy0 hy1 hy2 rfl _ Bp ps dp rfl oZ _ [.slice D ek.length c, .slice K1 key.length d1] (ek, key) 1 rfl _ (Reads.newN W5 [.slice D ek.length c, .slice K1 key.length d1] 54) ⟨D, c, K1, d1, rfl, ⟨hb1, hat1, c1⟩, hb2, hat2, c2⟩ (by simp only [PairE]; omega) (by simp only [maxLen]; omega) bwZ zw3 (by omega) ?_; intro B9 d9 ps9 w9 H9 o9 b9 g9 t9; have oK9 := OwnB.kept oKZ g9 (fun g e e2 => by have h1 := (Own.lt o g e2).1; have h2 := FK.out g e; omega); have kr9 := krZ.grown g9 (fun e => by have h1 := (Own.lt o _ e.symm).1; have h2 := kX.lt; omega); have z9 := g9.size)
              go_roundw
              case rel => exact ⟨k + 1, ps9, B9, d9, by omega, by go_num, rfl, Own.mono o9 (fun b hb _ hs => ⟨hs.1, hb⟩), by rw [H9.out, HMG.out, HP.out]; rfl, by rw [H9.out, List.length_append, List.length_singleton]; omega, oK9, kr9, by omega, b9⟩
              case measure => simp [intOf]; omega
            | true =>
              have HE : Hid (ek = acc) := by
                show _ = _
                rw [HEK.out, HAC2.out, HPRE.out, hq]
                exact List.append_nil _
              rw [hq] at q5
              clear hq
              obtain ⟨D, hDD⟩ : ∃ D, D = Bk := ⟨_, rfl⟩
              obtain ⟨c, hcd⟩ : ∃ c, c = dk := ⟨_, rfl⟩
              obtain ⟨W5, hW5⟩ : ∃ W, W = wr := ⟨_, rfl⟩
              subst hDD hcd hW5
              obtain rfl : ek = acc := HE.out
              have ok5 := ok
              have b5 := b4
              have w5K : OwnB X.heap.size W5 D ek c := ok5
              have z5 := b5.size
              have bI5 := dI.trans (b5.mono dI.size)
              have bw5 := bw.trans (bI5.mono bw.size)
              have oZ5 : Own PairE 54 W5 w3.heap.size (fun b => w.heap.size ≤ b ∧ b < W5.heap.size) (.slice Bp ps.length dp) ps := Own.mono (Own.below o bI5) (fun b hb _ hs => ⟨hs.1, hb⟩)
              have oK5 := OwnB.below oKr bI5
              have kr5 := kr.below bI5 kr.lt
              have hel5 : ek.length ≤ 4294967296 := by omega
              have dZ : Below W5.heap.size W5 (W5.alloc (.cells #[.slice D ek.length c, .slice K1 key.length d1] 54)) := (Below.refl _ _).alloc (Nat.le_refl _) _
              have bwZ := bw5.trans (dZ.mono bw5.size)
              have oZ := Own.below oZ5 dZ
              have oKZ := OwnB.below oK5 dZ
              have krZ := kr5.below dZ kr5.lt
              have zwZ := bwZ.size
              have z5Z := dZ.size
              have hat1 : At (fun b => (w.heap.size ≤ b ∧ b < W5.heap.size) ∧ (Value.slice Bp ps.length dp).ownBlock ≠ some b) D ek.length := fun ad e hn => by
                have h1 := OwnB.at_ w5K ad e hn
                refine ⟨⟨by omega, h1.2⟩, fun e2 => ?_⟩
                have := (Own.lt o _ e2).2
                omega
              have hat2 : At (fun b => (w.heap.size ≤ b ∧ b < W5.heap.size) ∧ (Value.slice Bp ps.length dp).ownBlock ≠ some b) K1 key.length := fun ad e hn => by
                have h1 := OwnB.at_ oK5 ad e hn
                have h3 := OwnB.at_ oKr ad e hn
                refine ⟨⟨by omega, h1.2⟩, fun e2 => ?_⟩
                have h4 := (Own.lt o _ e2).1
                have h5 := FKA.out ad e hn
                omega
              have hb1 := (w5K.bs (by omega)).below dZ
              have hb2 := (oK5.bs (by omega)).below dZ
              have c1 := w5K.caps
              have c2 := oK5.caps
              clear w5K ok5
              go_wp2_with (at_builtin; refine wpList_appE PairE w3.heap.size w _ rfl (.tmp 74) (.tmp 78) 54 50 rfl i1 _ Tryd.underlying50 hi1 hy0 hy1 hy2 rfl _ Bp ps dp rfl oZ _ [.slice D ek.length c, .slice K1 key.length d1] (ek, key) 1 rfl _ (Reads.newN W5 [.slice D ek.length c, .slice K1 key.length d1] 54) ⟨D, c, K1, d1, rfl, ⟨hb1, hat1, c1⟩, hb2, hat2, c2⟩ (by simp only [PairE]; omega) (by simp only [maxLen]; omega) bwZ zw3 (by omega) ?_; intro B9 d9 ps9 w9 H9 o9 b9 g9 t9; have oK9 := OwnB.kept oKZ g9 (fun g e e2 => by have h1 := (Own.lt o g e2).1; have h2 := FK.out g e; omega); have kr9 := krZ.grown g9 (fun e => by have h1 := (Own.lt o _ e.symm).1; have h2 := kX.lt; omega); have z9 := g9.size)
              go_roundw
              case rel => exact ⟨k + 1, ps9, B9, d9, by omega, by go_num, rfl, Own.mono o9 (fun b hb _ hs => ⟨hs.1, hb⟩), by rw [H9.out, HMG.out, HP.out]; rfl, by rw [H9.out, List.length_append, List.length_singleton]; omega, oK9, kr9, by omega, b9⟩
              case measure => simp [intOf]; omega
      · obtain rfl : k = ixs.length := by omega
        have HE : Hid (entsB id keys tn cols ixs xs = ps) := by show _ = _; rw [HEL.out, HP.out, ← HML.out, List.take_length]
        clear HP
        go_wp2_with fail
        go_ret2
        rw [HE.out, HF0.out]
        exact ⟨Bp, dp, rfl, Own.base o zw3, bw⟩
  · have d0 : (fitsE id keys tn cols ixs xs != 0) = true := by rw [bne_iff_ne]; exact h0
    have HE : Hid (entsB id keys tn cols ixs xs = []) := by show _ = _; unfold entsB; rw [if_neg h0]
    clear h0
    go_wp2_with fail
    go_ret2
    rw [HE.out]
    exact ⟨none, 0, rfl, Own.nil_ PairE _ _ _ _, b01⟩
end Go.Proofs.YtfededjcadmpbaaDoor

namespace Go.Proofs.YtfededjcadmpbaaDoor
open Go.RowKit

theorem arr_eqR (l m : List UInt8) : ((⟨l.toArray⟩ : ByteArray).toList == (⟨m.toArray⟩ : ByteArray).toList) = (l == m) := by
  rw [ByteArray.toList_eq, ByteArray.toList_eq]
theorem bequalR (A B : Option Addr) (l m : List UInt8) (c d : Nat) (w : World) (ha : Bs w A l) (hb : Bs w B m) :
    Calls Tryd.prog 51 #[.slice A l.length c, .slice B m.length d] w fun e w' => e = .returned (.bool (l == m)) ∧ w' = w := by
  have h1 := conv_any A l c w ha
  have h2 := conv_any B m d w hb
  go_enter Tryd.func51, Tryd.ntmps51
  go_wp2_with fail
  go_ret
  exact ⟨by rw [← arr_eqR]; rfl, rfl⟩
theorem rowKey_le {id keys : Int} {tn : ByteArray} {cols : List LCol} {ixs : List LIx} {xs : List LVal} (h : fitsE id keys tn cols ixs xs = 0) : (rowKey id keys xs).length ≤ 1073741824 := by
  obtain ⟨h0, h1, h2⟩ := fitsE_ok h
  have hs := values_sm (Nat.le_of_eq h1) h2
  obtain ⟨_, _, _, _, hc16⟩ := check_head h0
  have := keyL_len (xs := xs.take keys.toNat) fun x hx => hs x (List.mem_of_mem_take hx)
  have hl : (xs.take keys.toNat).length ≤ 16 := by rw [List.length_take]; omega
  show ([114, UInt8.ofInt id] ++ keyL (xs.take keys.toNat)).length ≤ _
  rw [List.length_append]
  show 2 + _ ≤ _
  omega
set_option maxRecDepth 100000 in
set_option maxHeartbeats 8000000 in
theorem row_any (id keys : Int) (tn : ByteArray) (cols : List LCol) (ixs : List LIx) (pk pv : List UInt8) (A B P V : Option Addr) (ca cb p q : Nat) (w : World) (hA : Sl ColE w A cols) (hB : Sl IxE w B ixs) (hP : Bs w P pk) (hV : Bs w V pv) (hq : pv.length ≤ q ∧ q ≤ 9223372036854775807)
    (hn : tn.size ≤ 140737488351232) (hu : U8 w) (hca : cols.length ≤ ca ∧ ca ≤ 9223372036854775807) (hvl : pv.length ≤ 1099511627776) :
    Calls Tryd.prog 24 #[.agg #[.int .i64 id, .string tn, .slice A cols.length ca, .int .i64 keys, .slice B ixs.length cb], .agg #[.slice P pk.length p, .slice V pv.length q]] w (RetDec (rowR id keys tn cols ixs pk pv) w) := by
  have b0 : Below w.heap.size w ((w.alloc (.cells #[.int .i64 id, .string tn, .slice A cols.length ca, .int .i64 keys, .slice B ixs.length cb] 25)).alloc (.cells #[.slice P pk.length p, .slice V pv.length q] 54)) := ((Below.refl _ _).alloc (Nat.le_refl _) _).alloc (by simp) _
  have k0 := (Blk.new w 25 #[.int .i64 id, .string tn, .slice A cols.length ca, .int .i64 keys, .slice B ixs.length cb]).alloc (.cells #[.slice P pk.length p, .slice V pv.length q] 54)
  have p0 := Blk.new (w.alloc (.cells #[.int .i64 id, .string tn, .slice A cols.length ca, .int .i64 keys, .slice B ixs.length cb] 25)) 54 #[.slice P pk.length p, .slice V pv.length q]
  rw [show (w.alloc (.cells #[.int .i64 id, .string tn, .slice A cols.length ca, .int .i64 keys, .slice B ixs.length cb] 25)).heap.size = w.heap.size + 1 from by simp] at p0
  obtain ⟨hg, hgl⟩ := decL_good pv
  have HG := Lib.hid hg
  clear hg
  go_enter Tryd.func24, Tryd.ntmps24
  go_upto_region 1 with fail
  generalize ((w.alloc (.cells #[.int .i64 id, .string tn, .slice A cols.length ca, .int .i64 keys, .slice B ixs.length cb] 25)).alloc (.cells #[.slice P pk.length p, .slice V pv.length q] 54)) = W0 at *
  go_wp2_with ((with_reducible refine wpList_load_blk rfl 25 (.tmp 2) rfl w.heap.size ?_ 25 _ _ k0 Tryd.underlying25 ?_ Tryd.size_TableV ?_ ?_); rfl; rfl; rfl)
  have hA0 := hA.below b0
  have hB0 := hB.below b0
  refine (check_any id keys tn A B ca cb cols ixs W0 hA0.cols hB0.ixs hn hA0.cnames hB0.xnames).mono ?_
  clear hA0 hB0
  rintro en w1 ⟨rfl, b1⟩
  have b01 := b0.trans (b1.mono b0.size)
  have k1 := k0.below b1 k0.lt
  have p1 := p0.below b1 p0.lt
  clear k0 p0 b0 b1
  by_cases h0 : checkI id keys tn cols ixs = 0
  · have d0 : (checkI id keys tn cols ixs != 0) = false := by rw [h0]; rfl
    have H0 := Lib.hid h0
    clear h0
    have q1 : w1.cell? ⟨w.heap.size + 1, 1, none⟩ = some (.slice V pv.length q) := p1.cell 1
    go_wp2_with fail
    have T := decode_any V pv q w1 (hV.below b01) hq hvl
    have HR0 := fun h1 : (decL pv).2 ≠ 0 => rowR_dec (tn := tn) (cols := cols) (ixs := ixs) (id := id) (keys := keys) (k := pk) (v := pv) H0.out h1
    have HR1 := fun (h1 : (decL pv).2 = 0) h2 => rowR_fits (tn := tn) (cols := cols) (ixs := ixs) (id := id) (keys := keys) (k := pk) (v := pv) H0.out h1 h2
    have HR2 := fun (h1 : (decL pv).2 = 0) h2 => rowR_key (tn := tn) (cols := cols) (ixs := ixs) (id := id) (keys := keys) (k := pk) (v := pv) H0.out h1 h2
    generalize decL pv = r at *
    obtain ⟨ys, e⟩ := r
    have hgl2 : ys.length ≤ pv.length := hgl
    have HGY : Hid (∀ x ∈ ys, x.err = 0 ∧ x.wfv) := HG.out
    have HS0 : Hid (e ≠ 0 → rowR id keys tn cols ixs pk pv = ([], 3)) := HR0
    have HS1 : Hid (e = 0 → fitsE id keys tn cols ixs ys ≠ 0 → rowR id keys tn cols ixs pk pv = ([], 3)) := HR1
    have HS2 : Hid (e = 0 → fitsE id keys tn cols ixs ys = 0 → rowR id keys tn cols ixs pk pv = if (rowKey id keys ys == pk) = true then (ys, 0) else ([], 3)) := HR2
    clear HR0 HR1 HR2 HG hgl
    refine T.mono ?_
    clear T
    rintro en w2 ⟨D, d, rfl, oD, b2⟩
    have oD2 : Own AnyE 20 w2 w1.heap.size (fun b => w1.heap.size ≤ b ∧ b < w2.heap.size) (.slice D ys.length d) ys := oD
    have b02 := b01.trans (b2.mono b01.size)
    have k2 := k1.below b2 k1.lt
    have p2 := p1.below b2 p1.lt
    have z01 := b01.size
    clear k1 p1 oD q1
    by_cases he : e = 0
    · have d1 : (e != 0) = false := by rw [he]; rfl
      have hcd := Own.caps oD2
      have sD : Sl AnyE w2 D ys := Own.sl oD2 (by simp only [AnyE]; omega)
      have HE := Lib.hid he
      clear he
      have y0 : w2.cell? ⟨w.heap.size, 0, none⟩ = some (.int .i64 id) := k2.cell 0
      have y1 : w2.cell? ⟨w.heap.size, 1, none⟩ = some (.string tn) := k2.cell 1
      have y2 : w2.cell? ⟨w.heap.size, 2, none⟩ = some (.slice A cols.length ca) := k2.cell 2
      have y3 : w2.cell? ⟨w.heap.size, 3, none⟩ = some (.int .i64 keys) := k2.cell 3
      have y4 : w2.cell? ⟨w.heap.size, 4, none⟩ = some (.slice B ixs.length cb) := k2.cell 4
      go_wp2_with fail
      clear y0 y1 y2 y3 y4
      refine (fits_any id keys tn cols ixs ys A B D ca cb d w2 (hA.below b02) (hB.below b02) sD hn (hu.below b02)).mono ?_
      rintro en w3 ⟨rfl, b3⟩
      have b03 := b02.trans (b3.mono b02.size)
      have k3 := k2.below b3 k2.lt
      have p3 := p2.below b3 p2.lt
      clear k2 p2
      by_cases hf : fitsE id keys tn cols ixs ys = 0
      · have d2 : (fitsE id keys tn cols ixs ys != 0) = false := by rw [hf]; rfl
        have hkl := rowKey_le hf
        have HKE : Hid (keyE id keys tn cols ixs ys = 0) := keyE_of_fits hf
        have HKB : Hid (keyB id keys tn cols ixs ys = rowKey id keys ys) := by show _ = _; unfold keyB; rw [if_pos (keyE_of_fits hf)]
        have HRR : Hid (rowR id keys tn cols ixs pk pv = if (rowKey id keys ys == pk) = true then (ys, 0) else ([], 3)) := HS2.out HE.out hf
        clear hf
        go_wp2_with ((with_reducible refine wpList_load_blk rfl 25 (.tmp 2) rfl w.heap.size ?_ 25 _ _ k3 Tryd.underlying25 ?_ Tryd.size_TableV ?_ ?_); rfl; rfl; rfl)
        refine (rowkey_any id keys tn cols ixs ys A B D ca cb d w3 (hA.below b03) (hB.below b03) (sD.below b3) hn (hu.below b03) (fun x hx => HGY.out x hx) hca hcd).mono ?_
        rintro en w4 ⟨K, dk, rfl, oK, b4⟩
        rw [HKB.out] at oK ⊢
        rw [HKE.out]
        generalize rowKey id keys ys = key at *
        have b04 := b03.trans (b4.mono b03.size)
        have p4 := p3.below b4 p3.lt
        have q0 : w4.cell? ⟨w.heap.size + 1, 0, none⟩ = some (.slice P pk.length p) := p4.cell 0
        have oD4 := Own.below (Own.below oD2 b3) b4
        have z3 := b3.size
        have z4 := b4.size
        have hK4 : Bs w4 K key := oK.bs (by omega)
        go_wp2_with fail
        refine (bequalR K P key pk dk p w4 hK4 (hP.below b04)).mono ?_
        rintro en w5 ⟨rfl, rfl⟩
        cases hbq : (key == pk) with
        | true =>
          have HR : Hid (rowR id keys tn cols ixs pk pv = (ys, 0)) := by show _ = _; rw [HRR.out, if_pos hbq]
          clear hbq
          go_wp2_with fail
          go_ret2
          rw [HR.out]
          exact ⟨D, d, rfl, Own.base (Own.mono oD4 (fun b hb _ hs => ⟨by omega, hb⟩)) z01, b04⟩
        | false =>
          have HR : Hid (rowR id keys tn cols ixs pk pv = ([], 3)) := by show _ = _; rw [HRR.out, if_neg (by rw [hbq]; decide)]
          clear hbq
          go_wp2_with fail
          go_ret2
          rw [HR.out]
          exact ⟨none, 0, rfl, Own.nil_ AnyE _ _ _ _, b04⟩
      · have d2 : (fitsE id keys tn cols ixs ys != 0) = true := by rw [bne_iff_ne]; exact hf
        have HR : Hid (rowR id keys tn cols ixs pk pv = ([], 3)) := HS1.out HE.out hf
        clear hf
        go_wp2_with fail
        go_ret2
        rw [HR.out]
        exact ⟨none, 0, rfl, Own.nil_ AnyE _ _ _ _, b03⟩
    · have d1 : (e != 0) = true := by rw [bne_iff_ne]; exact he
      have HR : Hid (rowR id keys tn cols ixs pk pv = ([], 3)) := HS0.out he
      clear he
      go_wp2_with fail
      go_ret2
      rw [HR.out]
      exact ⟨none, 0, rfl, Own.nil_ AnyE _ _ _ _, b02⟩
  · have d0 : (checkI id keys tn cols ixs != 0) = true := by rw [bne_iff_ne]; exact h0
    have HR : Hid (rowR id keys tn cols ixs pk pv = ([], checkI id keys tn cols ixs)) := rowR_check h0
    clear h0
    go_wp2_with fail
    go_ret2
    rw [HR.out]
    exact ⟨none, 0, rfl, Own.nil_ AnyE _ _ _ _, b01⟩
set_option maxRecDepth 100000 in
set_option maxHeartbeats 8000000 in
theorem rrow_any (id keys : Int) (tn : ByteArray) (cols : List LCol) (ixs : List LIx) (pk pv : List UInt8) (A B P V : Option Addr) (ca cb p q : Nat) (w : World) (hA : Sl ColE w A cols) (hB : Sl IxE w B ixs) (hP : Bs w P pk) (hV : Bs w V pv) (hq : pv.length ≤ q ∧ q ≤ 9223372036854775807)
    (hn : tn.size ≤ 140737488351232) (hvl : pv.length ≤ 1048576) :
    Calls Tryd.prog 28 #[.agg #[.int .i64 id, .string tn, .slice A cols.length ca, .int .i64 keys, .slice B ixs.length cb], .agg #[.slice P pk.length p, .slice V pv.length q]] w (RetDecC (rowR id keys tn cols ixs pk pv) w) := by
  have b0 : Below w.heap.size w ((w.alloc (.cells #[.int .i64 id, .string tn, .slice A cols.length ca, .int .i64 keys, .slice B ixs.length cb] 25)).alloc (.cells #[.slice P pk.length p, .slice V pv.length q] 54)) := ((Below.refl _ _).alloc (Nat.le_refl _) _).alloc (by simp) _
  have k0 := (Blk.new w 25 #[.int .i64 id, .string tn, .slice A cols.length ca, .int .i64 keys, .slice B ixs.length cb]).alloc (.cells #[.slice P pk.length p, .slice V pv.length q] 54)
  have p0 := Blk.new (w.alloc (.cells #[.int .i64 id, .string tn, .slice A cols.length ca, .int .i64 keys, .slice B ixs.length cb] 25)) 54 #[.slice P pk.length p, .slice V pv.length q]
  rw [show (w.alloc (.cells #[.int .i64 id, .string tn, .slice A cols.length ca, .int .i64 keys, .slice B ixs.length cb] 25)).heap.size = w.heap.size + 1 from by simp] at p0
  obtain ⟨hg, hgl⟩ := decL_good pv
  have HG := Lib.hid hg
  clear hg
  go_enter Tryd.func28, Tryd.ntmps28
  go_upto_region 1 with fail
  generalize ((w.alloc (.cells #[.int .i64 id, .string tn, .slice A cols.length ca, .int .i64 keys, .slice B ixs.length cb] 25)).alloc (.cells #[.slice P pk.length p, .slice V pv.length q] 54)) = W0 at *
  go_wp2_with ((with_reducible refine wpList_load_blk rfl 25 (.tmp 2) rfl w.heap.size ?_ 25 _ _ k0 Tryd.underlying25 ?_ Tryd.size_TableV ?_ ?_); rfl; rfl; rfl)
  have hA0 := hA.below b0
  have hB0 := hB.below b0
  refine (rcheck_any id keys tn A B ca cb cols ixs W0 hA0.cols hB0.ixs hn hA0.cnames hB0.xnames).mono ?_
  clear hA0 hB0
  rintro en w1 ⟨rfl, b1⟩
  have b01 := b0.trans (b1.mono b0.size)
  have k1 := k0.below b1 k0.lt
  have p1 := p0.below b1 p0.lt
  clear k0 p0 b0 b1
  by_cases h0 : checkI id keys tn cols ixs = 0
  · have d0 : (checkI id keys tn cols ixs != 0) = false := by rw [h0]; rfl
    have H0 := Lib.hid h0
    clear h0
    have q1 : w1.cell? ⟨w.heap.size + 1, 1, none⟩ = some (.slice V pv.length q) := p1.cell 1
    go_wp2_with fail
    have T := rdecode_any V pv q w1 (hV.below b01) hq hvl
    have HR0 := fun h1 : (decL pv).2 ≠ 0 => rowR_dec (tn := tn) (cols := cols) (ixs := ixs) (id := id) (keys := keys) (k := pk) (v := pv) H0.out h1
    have HR1 := fun (h1 : (decL pv).2 = 0) h2 => rowR_fits (tn := tn) (cols := cols) (ixs := ixs) (id := id) (keys := keys) (k := pk) (v := pv) H0.out h1 h2
    have HR2 := fun (h1 : (decL pv).2 = 0) h2 => rowR_key (tn := tn) (cols := cols) (ixs := ixs) (id := id) (keys := keys) (k := pk) (v := pv) H0.out h1 h2
    generalize decL pv = r at *
    obtain ⟨ys, e⟩ := r
    have hgl2 : ys.length ≤ pv.length := hgl
    have HGY : Hid (∀ x ∈ ys, x.err = 0 ∧ x.wfv) := HG.out
    have HS0 : Hid (e ≠ 0 → rowR id keys tn cols ixs pk pv = ([], 3)) := HR0
    have HS1 : Hid (e = 0 → fitsE id keys tn cols ixs ys ≠ 0 → rowR id keys tn cols ixs pk pv = ([], 3)) := HR1
    have HS2 : Hid (e = 0 → fitsE id keys tn cols ixs ys = 0 → rowR id keys tn cols ixs pk pv = if (rowKey id keys ys == pk) = true then (ys, 0) else ([], 3)) := HR2
    clear HR0 HR1 HR2 HG hgl
    refine T.mono ?_
    clear T
    rintro en w2 ⟨D, d, rfl, oD, b2⟩
    have oD2 : Own CelE 42 w2 w1.heap.size (fun b => w1.heap.size ≤ b ∧ b < w2.heap.size) (.slice D ys.length d) ys := oD
    have b02 := b01.trans (b2.mono b01.size)
    have k2 := k1.below b2 k1.lt
    have p2 := p1.below b2 p1.lt
    have z01 := b01.size
    clear k1 p1 oD q1
    by_cases he : e = 0
    · have d1 : (e != 0) = false := by rw [he]; rfl
      have hcd := Own.caps oD2
      have sD : Sl CelE w2 D ys := Own.sl oD2 (by simp only [CelE]; omega)
      have HE := Lib.hid he
      clear he
      go_wp2_with ((with_reducible refine wpList_load_blk rfl 25 (.tmp 2) rfl w.heap.size ?_ 25 _ _ k2 Tryd.underlying25 ?_ Tryd.size_TableV ?_ ?_); rfl; rfl; rfl)
      refine (rentries_any id keys tn cols ixs ys A B D ca cb d w2 (hA.below b02) (hB.below b02) sD hn (fun x hx => HGY.out x hx) hcd).mono ?_
      rintro en w3 ⟨R, dr, rfl, oR, b3⟩
      have b03 := b02.trans (b3.mono b02.size)
      have p3 := p2.below b3 p2.lt
      have oD3 := Own.below oD2 b3
      have z3 := b3.size
      clear k2 p2
      by_cases hf : fitsE id keys tn cols ixs ys = 0
      · have d2 : (fitsE id keys tn cols ixs ys != 0) = false := by rw [hf]; rfl
        have HRR : Hid (rowR id keys tn cols ixs pk pv = if (rowKey id keys ys == pk) = true then (ys, 0) else ([], 3)) := HS2.out HE.out hf
        have heq : entsB id keys tn cols ixs ys = (rowKey id keys ys, encL ys) :: ixs.mapIdx (fun i x => (entK id (rowKey id keys ys) ys i x, rowKey id keys ys)) := by unfold entsB; rw [if_pos hf]; rfl
        have hi4 := (check_ixs H0.out).1
        have hel : (entsB id keys tn cols ixs ys).length ≤ 5 := by rw [heq, List.length_cons, List.length_mapIdx]; omega
        have sR : Sl PairE w3 R (entsB id keys tn cols ixs ys) := Own.sl oR (by simp only [PairE]; omega)
        have hpos : 0 < (entsB id keys tn cols ixs ys).length := by rw [heq, List.length_cons]; omega
        obtain ⟨a1, P1, c1, Q1, c2, e1, ha1, z1, -, ⟨hP1, -⟩, -⟩ := PairE.at_ sR hpos
        have hk0 : (entsB id keys tn cols ixs ys)[0].1 = rowKey id keys ys := by simp only [heq]; rfl
        rw [hk0] at z1 hP1
        rw [show a1.add (0 * 2) = a1 by simp [Addr.add]] at z1
        subst e1
        have q0 : w3.cell? ⟨w.heap.size + 1, 0, none⟩ = some (.slice P pk.length p) := p3.cell 0
        obtain ⟨bb, hbb⟩ : ∃ b, (rowKey id keys ys == pk) = b := ⟨_, rfl⟩
        have hP3 := hP.below b03
        have t1 : ∀ n, Calls Tryd.prog 12 #[.slice P1 (rowKey id keys ys).length c1, .slice P pk.length p] (w3.drewN n) fun e w' => e = .returned (.bool bb) ∧ ∃ m, w' = (w3.drewN n).drewN m := fun n => by
          rw [← hbb]; exact equal_any P1 P _ _ c1 p _ (hP1.drewN n) (hP3.drewN n)
        have T1 := Lib.hid t1
        have HBB := Lib.hid hbb
        clear hf heq hk0 t1 hbb sR hP1 hP3 oR
        generalize entsB id keys tn cols ixs ys = L at *
        generalize rowKey id keys ys = key at *
        cases bb with
        | true =>
          have HR : Hid (rowR id keys tn cols ixs pk pv = (ys, 0)) := by show _ = _; rw [HRR.out, if_pos HBB.out]
          go_upto_region 8 with fail
          go_quiet ((go_at_call 12; exact Calls.quiet_of (T1.out _)))
          go_wp2_with fail
          go_ret2
          rw [HR.out]
          exact ⟨D, d, rfl, Own.base (Own.mono (Own.below oD3 (below_drewN (Below.refl _ _) _)) (fun b hb _ hs => ⟨by omega, hb⟩)) z01, below_drewN b03 _⟩
        | false =>
          have HR : Hid (rowR id keys tn cols ixs pk pv = ([], 3)) := by show _ = _; rw [HRR.out, if_neg (by rw [HBB.out]; decide)]
          go_upto_region 8 with fail
          go_quiet ((go_at_call 12; exact Calls.quiet_of (T1.out _)))
          go_wp2_with fail
          go_ret2
          rw [HR.out]
          exact ⟨none, 0, rfl, Own.nil_ CelE _ _ _ _, below_drewN b03 _⟩
      · have d2 : (fitsE id keys tn cols ixs ys != 0) = true := by rw [bne_iff_ne]; exact hf
        have HR : Hid (rowR id keys tn cols ixs pk pv = ([], 3)) := HS1.out HE.out hf
        clear hf oR
        generalize entsB id keys tn cols ixs ys = L at *
        go_upto_region 8 with fail
        go_quiet (fail)
        go_wp2_with fail
        go_ret2
        rw [HR.out]
        exact ⟨none, 0, rfl, Own.nil_ CelE _ _ _ _, below_drewN b03 _⟩
    · have d1 : (e != 0) = true := by rw [bne_iff_ne]; exact he
      have HR : Hid (rowR id keys tn cols ixs pk pv = ([], 3)) := HS0.out he
      clear he
      go_wp2_with fail
      go_ret2
      rw [HR.out]
      exact ⟨none, 0, rfl, Own.nil_ CelE _ _ _ _, b02⟩
  · have d0 : (checkI id keys tn cols ixs != 0) = true := by rw [bne_iff_ne]; exact h0
    have HR : Hid (rowR id keys tn cols ixs pk pv = ([], checkI id keys tn cols ixs)) := rowR_check h0
    clear h0
    go_wp2_with fail
    go_ret2
    rw [HR.out]
    exact ⟨none, 0, rfl, Own.nil_ CelE _ _ _ _, b01⟩
end Go.Proofs.YtfededjcadmpbaaDoor

namespace Go.Proofs.YtfededjcadmpbaaDoor
open Go.RowKit

/-- a row read back, given as the list xs and the error e -/
def RetDec2 (xs : List LVal) (e : Int) (w : World) (en : Ending) (w' : World) : Prop :=
  ∃ D d, en = .returned (.tuple #[.slice D xs.length d, .int .i64 e]) ∧ Sl AnyE w' D xs ∧ Below w.heap.size w w'
theorem RetDec2.of {r : List LVal × Int} {xs : List LVal} {e : Int} {w w' : World} {en : Ending} (h : RetDec r w en w') (hr : r = (xs, e)) (hl : xs.length ≤ 1099511627776) : RetDec2 xs e w en w' := by
  subst hr
  obtain ⟨D, d, h1, h2, h3⟩ := h
  exact ⟨D, d, h1, Own.sl h2 (by simp only [AnyE]; show xs.length * 16 ≤ _; omega), h3⟩
set_option maxRecDepth 100000 in
set_option maxHeartbeats 4000000 in
theorem rowents_any (id keys : Int) (tn : ByteArray) (cols : List LCol) (ixs : List LIx) (l : List LCel) (pk pv : List UInt8) (A B C P Q : Option Addr) (ca cb cc p q : Nat) (w : World) (hA : Sl ColE w A cols) (hB : Sl IxE w B ixs) (hC : Sl CraE w C l) (hP : Bs w P pk) (hQ : Bs w Q pv) (hq : pv.length ≤ q ∧ q ≤ 9223372036854775807) (hn : tn.size ≤ 140737488351232) (hu : U8 w)
    (hl : ∀ x ∈ l, (Lit.int .i64 x.kind).wf = true ∧ (Lit.int .i64 x.n).wf = true ∧ x.t.size ≤ 1048576 ∧ x.l.length ≤ 140737488351232) (hca : cols.length ≤ ca ∧ ca ≤ 9223372036854775807) (hvl : pv.length ≤ 1048576) :
    Calls Tryd.prog 6 #[.agg #[.int .i64 id, .string tn, .slice A cols.length ca, .int .i64 keys, .slice B ixs.length cb], .slice C l.length cc, .agg #[.slice P pk.length p, .slice Q pv.length q]] w fun e w' => e = .returned (.bool true) ∧ Below w.heap.size w w' := by
  have HL := Lib.hid (vals_good hl)
  have hvle := valsOf_le l
  have hlb := hC.leb
  simp only [CraE] at hlb
  clear hl
  have b0 : Below w.heap.size w ((w.alloc (.cells #[.int .i64 id, .string tn, .slice A cols.length ca, .int .i64 keys, .slice B ixs.length cb] 25)).alloc (.cells #[.slice P pk.length p, .slice Q pv.length q] 54)) := ((Below.refl _ _).alloc (Nat.le_refl _) _).alloc (by simp) _
  have k0 := (Blk.new w 25 #[.int .i64 id, .string tn, .slice A cols.length ca, .int .i64 keys, .slice B ixs.length cb]).alloc (.cells #[.slice P pk.length p, .slice Q pv.length q] 54)
  have p0 := Blk.new (w.alloc (.cells #[.int .i64 id, .string tn, .slice A cols.length ca, .int .i64 keys, .slice B ixs.length cb] 25)) 54 #[.slice P pk.length p, .slice Q pv.length q]
  rw [show (w.alloc (.cells #[.int .i64 id, .string tn, .slice A cols.length ca, .int .i64 keys, .slice B ixs.length cb] 25)).heap.size = w.heap.size + 1 from by simp] at p0
  go_enter Tryd.func6, Tryd.ntmps6
  go_upto_region 1 with fail
  generalize ((w.alloc (.cells #[.int .i64 id, .string tn, .slice A cols.length ca, .int .i64 keys, .slice B ixs.length cb] 25)).alloc (.cells #[.slice P pk.length p, .slice Q pv.length q] 54)) = W0 at *
  go_wp2_with fail
  refine (awake_any W0 (hu.below b0)).mono ?_
  rintro en w1 ⟨rfl, b1⟩
  have b01 := b0.trans (b1.mono b0.size)
  have k1 := k0.below b1 k0.lt
  have p1 := p0.below b1 p0.lt
  go_wp2_with fail
  refine (vals_any l C cc w1 (hC.below b01)).mono ?_
  rintro en w2 ⟨V, X, cv, cx, rfl, sV, sX, capV, capX, b2⟩
  generalize valsOf l = xs at *
  have hxl : xs.length ≤ 1099511627776 * 2 := by omega
  have b02 := b01.trans (b2.mono b01.size)
  have k2 := k1.below b2 k1.lt
  have p2 := p1.below b2 p1.lt
  clear b0 b1 b2 k0 k1 p0 p1 b01
  go_wp2_with ((with_reducible refine wpList_load_blk rfl 25 (.tmp 3) rfl w.heap.size ?_ 25 _ _ k2 Tryd.underlying25 ?_ Tryd.size_TableV ?_ ?_); rfl; rfl; rfl)
  refine (entries_any id keys tn cols ixs xs A B V ca cb cv w2 (hA.below b02) (hB.below b02) sV hn (hu.below b02) (fun x hx => (HL.out x hx).1) hca capV).mono ?_
  rintro en w3 ⟨R1, r1, rfl, oR1, b3⟩
  have b03 := b02.trans (b3.mono b02.size)
  have k3 := k2.below b3 k2.lt
  have p3 := p2.below b3 p2.lt
  have sX3 := sX.below b3
  go_wp2_with ((with_reducible refine wpList_load_blk rfl 25 (.tmp 3) rfl w.heap.size ?_ 25 _ _ k3 Tryd.underlying25 ?_ Tryd.size_TableV ?_ ?_); rfl; rfl; rfl)
  refine (rentries_any id keys tn cols ixs xs A B X ca cb cx w3 (hA.below b03) (hB.below b03) sX3 hn (fun x hx => (HL.out x hx).1) capX).mono ?_
  have hE5 : (entsB id keys tn cols ixs xs).length ≤ 5 := by
    unfold entsB
    by_cases h : fitsE id keys tn cols ixs xs = 0
    · rw [if_pos h, ents_len5]
      have := (check_ixs (fitsE_ok h).1).1
      omega
    · rw [if_neg h]; exact Nat.zero_le _
  have hENT : fitsE id keys tn cols ixs xs = 0 → ∃ hp : 0 < (entsB id keys tn cols ixs xs).length, (entsB id keys tn cols ixs xs)[0] = (rowKey id keys xs, encL xs) := fun h => by
    have e : entsB id keys tn cols ixs xs = entsL id keys ixs xs := by unfold entsB; rw [if_pos h]
    have e2 : entsL id keys ixs xs = (rowKey id keys xs, encL xs) :: ixs.mapIdx fun i x => (entK id (rowKey id keys xs) xs i x, rowKey id keys xs) := rfl
    refine ⟨by rw [e, e2, List.length_cons]; omega, ?_⟩
    simp only [e, e2]
    rfl
  have hENC : fitsE id keys tn cols ixs xs = 0 → (encL xs).length ≤ 1099511627776 ∧ xs.length ≤ 16 := fun h => by
    obtain ⟨h0, h1, h2⟩ := fitsE_ok h
    obtain ⟨_, _, _, _, hc16⟩ := check_head h0
    have := encL_len (values_sm (Nat.le_of_eq h1) h2)
    omega
  have hBK : fitsE id keys tn cols ixs xs = 0 → rowR id keys tn cols ixs (rowKey id keys xs) (encL xs) = (xs, 0) := fun h => rowR_back h (fun x hx => (HL.out x hx).1)
  have HENT := Lib.hid hENT
  have HENC := Lib.hid hENC
  have HBK := Lib.hid hBK
  clear hENT hENC hBK
  obtain ⟨E, hE⟩ : ∃ E, fitsE id keys tn cols ixs xs = E := ⟨_, rfl⟩
  rw [hE] at HENT HENC HBK ⊢
  clear hE
  generalize entsB id keys tn cols ixs xs = L at *
  generalize encL xs = enc at *
  generalize rowKey id keys xs = key at *
  rintro en w4 ⟨R2, r2, rfl, oR2, b4⟩
  have b04 := b03.trans (b4.mono b03.size)
  have k4 := k3.below b4 k3.lt
  have p4 := p3.below b4 p3.lt
  have sX4 := sX3.below b4
  have sR1 : Sl PairE w4 R1 L := Own.sl (Own.below oR1 b4) (by simp only [PairE]; omega)
  have sR2 : Sl PairE w4 R2 L := Own.sl oR2 (by simp only [PairE]; omega)
  have dE : (E != E) = false := by simp
  clear b3 b4 k2 k3 p2 p3 b02 b03 sV sX sX3 oR1 oR2
  go_wp2_with fail
  refine (psame_any L R1 R2 r1 r2 w4 sR1 sR2).mono ?_
  rintro en w5 ⟨rfl, nd, rfl⟩
  have b5 : Below w4.heap.size w4 (w4.drewN nd) := below_drewN (Below.refl _ _) nd
  have b05 := b04.trans (b5.mono b04.size)
  have k5 := k4.below b5 k4.lt
  have p5 := p4.below b5 p4.lt
  have sX5 := sX4.below b5
  have sR5 := sR1.below b5
  generalize w4.drewN nd = w5 at *
  clear b5 k4 p4 b04 sX4 sR1 sR2
  have l5 := k5.lt
  have lp5 := p5.lt
  go_upto_if 46 with fail
  go_cut [13, 14] (fun _ _ wx => Below w5.heap.size w5 wx)
  case first =>
    by_cases h0 : E = 0
    · have d1 : (E == 0) = true := by rw [beq_iff_eq]; exact h0
      obtain ⟨hpos, hL0⟩ := HENT.out h0
      obtain ⟨hel, hx16⟩ := HENC.out h0
      have hbk := HBK.out h0
      obtain ⟨a1, P1, c1, Q1, c2, e1, ha1, z1, z2, ⟨hP1, -, -⟩, hQ1, -, hc2⟩ := PairE.at_ sR5 hpos
      rw [show L[0].1 = key from by rw [hL0]] at z1 hP1
      rw [show L[0].2 = enc from by rw [hL0]] at z2 hQ1 hc2
      rw [show a1.add (0 * 2) = a1 by simp [Addr.add]] at z1 z2
      subst e1
      have hpos' : (0 : Int) < (L.length : Int) := by omega
      have t1 : ∀ W, Below w5.heap.size w5 W → Calls Tryd.prog 24 #[.agg #[.int .i64 id, .string tn, .slice A cols.length ca, .int .i64 keys, .slice B ixs.length cb], .agg #[.slice P1 key.length c1, .slice Q1 enc.length c2]] W (RetDec2 xs 0 W) := fun W hW => by
        have b := b05.trans (hW.mono b05.size)
        exact (row_any id keys tn cols ixs key enc A B P1 Q1 ca cb c1 c2 W (hA.below b) (hB.below b) (hP1.below hW) (hQ1.below hW) hc2 hn (hu.below b) hca hel).mono fun en w' h => RetDec2.of h hbk (by omega)
      have ks : ∀ W, Below w5.heap.size w5 W → (W.cell? ⟨w.heap.size, 0, none⟩ = some (.int .i64 id) ∧ W.cell? ⟨w.heap.size, 1, none⟩ = some (.string tn) ∧ W.cell? ⟨w.heap.size, 2, none⟩ = some (.slice A cols.length ca) ∧ W.cell? ⟨w.heap.size, 3, none⟩ = some (.int .i64 keys) ∧ W.cell? ⟨w.heap.size, 4, none⟩ = some (.slice B ixs.length cb)) ∧ W.cell? a1 = some (.slice P1 key.length c1) ∧ W.cell? ⟨a1.block, a1.off + 1, none⟩ = some (.slice Q1 enc.length c2) := fun W hW => by
        have kT := k5.below hW l5
        exact ⟨⟨kT.cell 0, kT.cell 1, kT.cell 2, kT.cell 3, kT.cell 4⟩, (hW.cell ha1).trans z1, (hW.cell (p := ⟨a1.block, a1.off + 1, none⟩) ha1).trans z2⟩
      have T1 := Lib.hid t1
      have KS := Lib.hid ks
      clear t1 ks z1 z2 hP1 hQ1 hc2 hL0 hbk h0 sR5
      go_upto_region 9 with fail
      go_cut [13, 14] (fun s13 s14 wx => ∃ D d, s13 = .slice D xs.length d ∧ s14 = .int .i64 0 ∧ Sl AnyE wx D xs ∧ Below w5.heap.size w5 wx)
      case first =>
        go_region_held3 (fun W : World => (W.cell? ⟨w.heap.size, 0, none⟩ = some (.int .i64 id) ∧ W.cell? ⟨w.heap.size, 1, none⟩ = some (.string tn) ∧ W.cell? ⟨w.heap.size, 2, none⟩ = some (.slice A cols.length ca) ∧ W.cell? ⟨w.heap.size, 3, none⟩ = some (.int .i64 keys) ∧ W.cell? ⟨w.heap.size, 4, none⟩ = some (.slice B ixs.length cb)) ∧ W.cell? a1 = some (.slice P1 key.length c1) ∧ W.cell? ⟨a1.block, a1.off + 1, none⟩ = some (.slice Q1 enc.length c2)) (with_reducible refine KS.out _ ?_; (focus (repeat (first | (with_reducible exact bxr) | (with_reducible exact Below.refl _ _) | (with_reducible refine Below.drew_ ?_))))) (first
          | (go_at_call 24; (with_reducible refine (T1.out _ ?_).mono ?_); (focus (repeat (first | (with_reducible exact bxr) | (with_reducible exact Below.refl _ _) | (with_reducible refine Below.drew_ ?_)))); rintro en wr ⟨D, d, rfl, sD, br⟩; have bxr : Below w5.heap.size w5 wr := (by refine BelowT.call ?_ br; (focus (repeat (first | (with_reducible exact bxr) | (with_reducible exact Below.refl _ _) | (with_reducible refine Below.drew_ ?_))))); skip))
        all_goals
          go_wp2_with fail
          go_meet
          case rel => exact ⟨D, d, rfl, rfl, sD, bxr⟩
      case rest =>
        obtain ⟨D, d, rfl, rfl, sD, bx⟩ := hcut
        go_wp2_with fail
        refine (told_any xs D d wc sD (by omega)).mono ?_
        rintro en w6 ⟨F, f, rfl, sF, b6⟩
        have b56 := bx.trans (b6.mono bx.size)
        go_wp2_with fail
        refine (samelist_any xs F X f cx w6 sF (CelW.of (sX5.below b56))).mono ?_
        rintro en w7 ⟨rfl, b7⟩
        go_wp2_with fail
        go_meet
        case rel => exact b56.trans (b7.mono b56.size)
    · have d1 : (E == 0) = false := by rw [beq_eq_false_iff_ne]; exact h0
      clear h0
      go_wp2_with fail
      go_meet
      case rel => exact Below.refl _ _
  case rest =>
    have b6 : Below w5.heap.size w5 wc := hcut
    generalize wc = w6 at *
    have b06 := b05.trans (b6.mono b05.size)
    have k6 := k5.below b6 l5
    have p6 := p5.below b6 lp5
    clear hcut HENT HENC HBK hE5 sR5 sX5 k5 p5 b05 l5 lp5 b6
    have l6 := k6.lt
    have lp6 := p6.lt
    have hrl := (decL_good pv).2
    have hrr : (rowR id keys tn cols ixs pk pv).1.length ≤ pv.length := rowR_len id keys tn cols ixs pk pv
    have T0 : ∀ (P' Q' : Option Addr) (p' q' : Nat) W, Below w6.heap.size w6 W → Bs W P' pk → Bs W Q' pv → (pv.length ≤ q' ∧ q' ≤ 9223372036854775807) → Calls Tryd.prog 24 #[.agg #[.int .i64 id, .string tn, .slice A cols.length ca, .int .i64 keys, .slice B ixs.length cb], .agg #[.slice P' pk.length p', .slice Q' pv.length q']] W (RetDec2 (rowR id keys tn cols ixs pk pv).1 (rowR id keys tn cols ixs pk pv).2 W) := fun P' Q' p' q' W hW h1 h2 h3 => by
      have b := b06.trans (hW.mono b06.size)
      exact (row_any id keys tn cols ixs pk pv A B P' Q' ca cb p' q' W (hA.below b) (hB.below b) h1 h2 h3 hn (hu.below b) hca (by omega)).mono fun en w' h => RetDec2.of h rfl (by omega)
    have T2 : ∀ W, Below w6.heap.size w6 W → Calls Tryd.prog 28 #[.agg #[.int .i64 id, .string tn, .slice A cols.length ca, .int .i64 keys, .slice B ixs.length cb], .agg #[.slice P pk.length p, .slice Q pv.length q]] W (RetDecC (rowR id keys tn cols ixs pk pv) W) := fun W hW => by
      have b := b06.trans (hW.mono b06.size)
      exact rrow_any id keys tn cols ixs pk pv A B P Q ca cb p q W (hA.below b) (hB.below b) (hP.below b) (hQ.below b) hq hn hvl
    generalize rowR id keys tn cols ixs pk pv = r at *
    obtain ⟨ys, e⟩ := r
    have hyl : ys.length ≤ pv.length := hrr
    have T0b : Hid (∀ (P' Q' : Option Addr) (p' q' : Nat) W, Below w6.heap.size w6 W → Bs W P' pk → Bs W Q' pv → (pv.length ≤ q' ∧ q' ≤ 9223372036854775807) → Calls Tryd.prog 24 #[.agg #[.int .i64 id, .string tn, .slice A cols.length ca, .int .i64 keys, .slice B ixs.length cb], .agg #[.slice P' pk.length p', .slice Q' pv.length q']] W (RetDec2 ys e W)) := T0
    have T2b := Lib.hid T2
    have t3 : ∀ W, Below w6.heap.size w6 W → Calls Tryd.prog 27 #[.slice P pk.length p] W (RetBs pk W) := fun W hW => copy_any P pk p W ((hP.below b06).below hW)
    have t4 : ∀ W, Below w6.heap.size w6 W → Calls Tryd.prog 27 #[.slice Q pv.length q] W (RetBs pv W) := fun W hW => copy_any Q pv q W ((hQ.below b06).below hW)
    have T3 := Lib.hid t3
    have T4 := Lib.hid t4
    have ks : ∀ W, Below w6.heap.size w6 W → (W.cell? ⟨w.heap.size, 0, none⟩ = some (.int .i64 id) ∧ W.cell? ⟨w.heap.size, 1, none⟩ = some (.string tn) ∧ W.cell? ⟨w.heap.size, 2, none⟩ = some (.slice A cols.length ca) ∧ W.cell? ⟨w.heap.size, 3, none⟩ = some (.int .i64 keys) ∧ W.cell? ⟨w.heap.size, 4, none⟩ = some (.slice B ixs.length cb)) ∧ W.cell? ⟨w.heap.size + 1, 0, none⟩ = some (.slice P pk.length p) ∧ W.cell? ⟨w.heap.size + 1, 1, none⟩ = some (.slice Q pv.length q) := fun W hW => by
      have kT := k6.below hW l6
      have pT := p6.below hW lp6
      exact ⟨⟨kT.cell 0, kT.cell 1, kT.cell 2, kT.cell 3, kT.cell 4⟩, pT.cell 0, pT.cell 1⟩
    have KS := Lib.hid ks
    clear T0 T2 t3 t4 ks hrr hrl
    go_upto_region 12 with fail
    go_cut [15, 10] (fun s15 s10 wx => ∃ D d, s15 = .slice D ys.length d ∧ s10 = .int .i64 e ∧ Sl AnyE wx D ys ∧ Below w6.heap.size w6 wx)
    case first =>
      have hpl := hP.le
      go_region_held3 (fun W : World => (W.cell? ⟨w.heap.size, 0, none⟩ = some (.int .i64 id) ∧ W.cell? ⟨w.heap.size, 1, none⟩ = some (.string tn) ∧ W.cell? ⟨w.heap.size, 2, none⟩ = some (.slice A cols.length ca) ∧ W.cell? ⟨w.heap.size, 3, none⟩ = some (.int .i64 keys) ∧ W.cell? ⟨w.heap.size, 4, none⟩ = some (.slice B ixs.length cb)) ∧ W.cell? ⟨w.heap.size + 1, 0, none⟩ = some (.slice P pk.length p) ∧ W.cell? ⟨w.heap.size + 1, 1, none⟩ = some (.slice Q pv.length q)) (with_reducible refine KS.out _ ?_; (focus (repeat (first | (with_reducible exact bxr) | (with_reducible exact bxv) | (with_reducible exact bxk) | (with_reducible exact Below.refl _ _) | (with_reducible refine Below.drew_ ?_))))) (first
        | (go_at_call 27; (with_reducible refine (T3.out _ ?_).mono ?_); (focus (repeat (first | (with_reducible exact bxr) | (with_reducible exact bxv) | (with_reducible exact bxk) | (with_reducible exact Below.refl _ _) | (with_reducible refine Below.drew_ ?_)))); rintro en wk ⟨Pk, ck, rfl, ok, bk⟩; have bxk : Below w6.heap.size w6 wk := (by refine BelowT.call ?_ bk; (focus (repeat (first | (with_reducible exact bxr) | (with_reducible exact bxv) | (with_reducible exact bxk) | (with_reducible exact Below.refl _ _) | (with_reducible refine Below.drew_ ?_))))); skip)
        | (go_at_call 27; (with_reducible refine (T4.out _ ?_).mono ?_); (focus (repeat (first | (with_reducible exact bxr) | (with_reducible exact bxv) | (with_reducible exact bxk) | (with_reducible exact Below.refl _ _) | (with_reducible refine Below.drew_ ?_)))); rintro en wv ⟨Pv, cv_, rfl, ov, bv⟩; have bxv : Below w6.heap.size w6 wv := (by refine BelowT.call ?_ bv; (focus (repeat (first | (with_reducible exact bxr) | (with_reducible exact bxv) | (with_reducible exact bxk) | (with_reducible exact Below.refl _ _) | (with_reducible refine Below.drew_ ?_))))); skip)
        | (go_at_call 24; (with_reducible refine (T0b.out _ _ _ _ _ ?_ ?_ ?_ ?_).mono ?_); (focus (repeat (first | (with_reducible exact bxr) | (with_reducible exact bxv) | (with_reducible exact bxk) | (with_reducible exact Below.refl _ _) | (with_reducible refine Below.drew_ ?_)))); (focus first | exact (OwnB.below ok bv).bs hpl | exact (OwnB.below ok bv.drew).bs hpl | exact OwnB.bs ok hpl); (focus first | exact OwnB.bs ov (by omega) | exact (OwnB.below ov bk).bs (by omega)); (focus exact OwnB.caps ov); rintro en wr ⟨D, d, rfl, sD, br⟩; have bxr : Below w6.heap.size w6 wr := (by refine BelowT.call ?_ br; (focus (repeat (first | (with_reducible exact bxr) | (with_reducible exact bxv) | (with_reducible exact bxk) | (with_reducible exact Below.refl _ _) | (with_reducible refine Below.drew_ ?_))))); skip))
      all_goals
        go_wp2_with fail
        go_meet
        case rel => exact ⟨D, d, rfl, rfl, sD, bxr⟩
    case rest =>
      obtain ⟨D, d, rfl, rfl, sD, bx⟩ := hcut
      have k7 := k6.below bx l6
      have p7 := p6.below bx lp6
      have b07 := b06.trans (bx.mono b06.size)
      go_wp2_with (first
        | ((with_reducible refine wpList_load_blk rfl 25 (.tmp 3) rfl w.heap.size ?_ 25 _ _ k7 Tryd.underlying25 ?_ Tryd.size_TableV ?_ ?_); rfl; rfl; rfl)
        | ((with_reducible refine wpList_load_blk rfl 54 (.tmp 5) rfl (w.heap.size + 1) ?_ 54 _ _ p7 Tryd.underlying54 ?_ Tryd.size_Pair ?_ ?_); rfl; rfl; rfl))
      refine (T2b.out wc bx).mono ?_
      rintro en w8 ⟨F, f, rfl, oF, b8⟩
      have oF2 : Own CelE 42 w8 wc.heap.size (fun b => wc.heap.size ≤ b ∧ b < w8.heap.size) (.slice F ys.length f) ys := oF
      have dee : (e == e) = true := by simp
      have sF : Sl CelE w8 F ys := Own.sl oF2 (by simp only [CelE]; omega)
      have b08 := b07.trans (b8.mono b07.size)
      clear k7 p7 oF oF2
      go_wp2_with fail
      refine (told_any ys D d w8 (sD.below b8) (by omega)).mono ?_
      rintro en w9 ⟨G, g, rfl, sG, b9⟩
      have b09 := b08.trans (b9.mono b08.size)
      go_wp2_with fail
      refine (samelist_any ys G F g f w9 sG (CelW.of (sF.below b9))).mono ?_
      rintro en w10 ⟨rfl, b10⟩
      go_wp2_with fail
      go_ret
      exact ⟨rfl, b09.trans (b10.mono b09.size)⟩
end Go.Proofs.YtfededjcadmpbaaDoor
