/- Rows of bytes of the call's own, no two of them in one block. What a row is stored as, in memory of the call's own, no two rows of it in one block: row.Entries once more. What one row's change to another is: plain; a map of slices of bytes by its keys. What a row, or no row, is stored as: row.stored. The writes that turn one row into another: row.Changes. -/
import Derived.Test.YtfededjcadmpbaaGreatDoorEncA
import Derived.Test.YtfededjcadmpbaaGreatDoorEntA
import Derived.Test.YtfededjcadmpbaaGreatDoorSort
import Derived.Maps.OwnSet
import Derived.Maps.RangeWalk
import Derived.Sort.KeysCollected
import Derived.StringKeys
import Derived.BigQuiet
import Derived.Test.YtfededjcadmpbaaGreatDoorREntB
import Derived.Sort.OwnSorted
namespace Go.Proofs.YtfededjcadmpbaaGreatDoor
open Go.RowKit

/-- a row of bytes: where it lies, what it holds, its room -/
abbrev R3 := Option Addr × List UInt8 × Nat
def R3.v (r : R3) : Value := .slice r.1 r.2.1.length r.2.2
/-- the rows are of the call's own, from block b on; no two of them share a block -/
def Sep (b : Nat) (w : World) (rs : List R3) : Prop :=
  (∀ r ∈ rs, OwnB b w r.1 r.2.1 r.2.2) ∧ rs.Pairwise fun r s => ∀ g, (R3.v r).ownBlock = some g → (R3.v s).ownBlock ≠ some g
section
variable {b b' : Nat} {w w' : World} {rs ss : List R3}
theorem Sep.nil_ (b : Nat) (w : World) : Sep b w [] := ⟨fun _ h => absurd h (by simp), List.Pairwise.nil⟩
theorem Sep.one {A : Option Addr} {l : List UInt8} {c : Nat} (h : OwnB b w A l c) : Sep b w [(A, l, c)] := ⟨fun r hr => by rw [List.mem_singleton.1 hr]; exact h, List.pairwise_singleton _ _⟩
theorem Sep.below (h : Sep b w rs) (hb : Below w.heap.size w w') : Sep b w' rs := ⟨fun r hr => (h.1 r hr).below hb, h.2⟩
theorem Sep.base (h : Sep b w rs) (hb : b' ≤ b) : Sep b' w rs := ⟨fun r hr => (h.1 r hr).base hb, h.2⟩
theorem Sep.kept {row : Option Nat} (h : Sep b w rs) (hg : w.grownBy w' row) (hn : ∀ r ∈ rs, ∀ g, (R3.v r).ownBlock = some g → row ≠ some g) : Sep b w' rs := ⟨fun r hr => (h.1 r hr).kept hg (hn r hr), h.2⟩
theorem Sep.perm (h : Sep b w rs) (hp : rs.Perm ss) : Sep b w ss :=
  ⟨fun r hr => h.1 r (hp.mem_iff.2 hr), (hp.pairwise_iff (fun {_ _} hxy g he he2 => hxy g he2 he)).1 h.2⟩
theorem Sep.sub (h : Sep b w rs) (hs : ss.Sublist rs) : Sep b w ss := ⟨fun r hr => h.1 r (hs.subset hr), h.2.sublist hs⟩
theorem Sep.lt (h : Sep b w rs) : ∀ r ∈ rs, ∀ g, (R3.v r).ownBlock = some g → b ≤ g ∧ g < w.heap.size := fun r hr g he => (h.1 r hr).lt g he
theorem Sep.append (h : Sep b w rs) (k : Sep b w ss) (hd : ∀ r ∈ rs, ∀ s ∈ ss, ∀ g, (R3.v r).ownBlock = some g → (R3.v s).ownBlock ≠ some g) : Sep b w (rs ++ ss) :=
  ⟨fun r hr => (List.mem_append.1 hr).elim (h.1 r) (k.1 r), List.pairwise_append.2 ⟨h.2, k.2, fun r hr s hs g => hd r hr s hs g⟩⟩
/-- new rows behind old ones -/
theorem Sep.more (h : Sep b w rs) (hb : Below w.heap.size w w') (k : Sep w.heap.size w' ss) (hbw : b ≤ w.heap.size) : Sep b w' (rs ++ ss) :=
  (h.below hb).append (k.base hbw) fun r hr s hs g he he2 => by
    have h1 := (h.lt r hr g he).2
    have h2 := (k.lt s hs g he2).1
    omega
theorem Sep.split (h : Sep b w (rs ++ ss)) : Sep b w rs ∧ Sep b w ss ∧ ∀ r ∈ rs, ∀ s ∈ ss, ∀ g, (R3.v r).ownBlock = some g → (R3.v s).ownBlock ≠ some g :=
  ⟨h.sub (List.sublist_append_left _ _), h.sub (List.sublist_append_right _ _), fun r hr s hs g he => (List.pairwise_append.1 h.2).2.2 r hr s hs g he⟩
end
end Go.Proofs.YtfededjcadmpbaaGreatDoor

namespace Go.Proofs.YtfededjcadmpbaaGreatDoor
open Go.RowKit

/-- a pair as its cells have it -/
structure RP where
  K : Option Addr
  k : List UInt8
  c : Nat
  V : Option Addr
  v : List UInt8
  d : Nat
def RP.enc (x : RP) : List Value := [.slice x.K x.k.length x.c, .slice x.V x.v.length x.d]
def RP.p (x : RP) : List UInt8 × List UInt8 := (x.k, x.v)
def RP.rows (x : RP) : List R3 := [(x.K, x.k, x.c), (x.V, x.v, x.d)]
instance : Inhabited RP := ⟨⟨none, [], 0, none, [], 0⟩⟩
/-- pairs, their cells written out -/
def RPE : ER RP where
  size := 2
  pos := by omega
  bytes := 48
  bpos := by omega
  rep w S vs x := vs = x.enc ∧ (Bs w x.K x.k ∧ At S x.K x.k.length ∧ x.k.length ≤ x.c ∧ x.c ≤ 9223372036854775807) ∧ Bs w x.V x.v ∧ At S x.V x.v.length ∧ x.v.length ≤ x.d ∧ x.d ≤ 9223372036854775807
  len := by rintro w S vs a ⟨rfl, _⟩; rfl
  one := by rintro w S vs a ⟨rfl, _⟩ v hv; simp [RP.enc] at hv; rcases hv with rfl | rfl <;> rfl
  keep := by rintro w w' S vs a ⟨rfl, ⟨h, ha, h2⟩, k, ka, k2⟩ hs; exact ⟨rfl, ⟨h.sameS ha hs, ha, h2⟩, k.sameS ka hs, ka, k2⟩
  mono := by rintro w S S' vs a ⟨rfl, ⟨h, ha, h2⟩, k, ka, k2⟩ hs; exact ⟨rfl, ⟨h, h.atMono ha hs, h2⟩, k, k.atMono ka hs, k2⟩
theorem RPE.at_ {w : World} {A : Option Addr} {S : Nat → Prop} {l : List RP} (h : SlS RPE w S A l) {k : Nat} (hk : k < l.length) :
    ∃ ad, A = some ad ∧ ad.block < w.heap.size ∧ w.cell? (ad.add (k * 2)) = some (.slice l[k].K l[k].k.length l[k].c) ∧ w.cell? ⟨(ad.add (k * 2)).block, (ad.add (k * 2)).off + 1, none⟩ = some (.slice l[k].V l[k].v.length l[k].d) ∧
      (Bs w l[k].K l[k].k ∧ At S l[k].K l[k].k.length ∧ l[k].k.length ≤ l[k].c ∧ l[k].c ≤ 9223372036854775807) ∧ Bs w l[k].V l[k].v ∧ At S l[k].V l[k].v.length ∧ l[k].v.length ≤ l[k].d ∧ l[k].d ≤ 9223372036854775807 := by
  obtain ⟨ad, vs, rfl, hb, ⟨rfl, h1⟩, h4, _, h5⟩ := SlS.at_ h hk
  exact ⟨ad, rfl, hb, h4 _ rfl, h5 1 _ (by omega) rfl, h1⟩
theorem Sep.row {t : TypeId} {b b' size n : Nat} {w w' : World} {v : Value} {xs : List Value} {rs : List R3} (h : Sep b w rs) (hg : w.grownBy w' v.ownBlock) (ho : w.ownsRow b' t size v n xs) (ht : t ≠ 5) : Sep b w' rs :=
  h.kept hg fun r hr g he he2 => by
    rcases own_own_ne ho (h.1 r hr) ht with h1 | h1
    · rw [h1] at he2; cases he2
    · exact h1 (he2.trans he.symm)
/-- pairs of the call's own, no two of their rows in one block, and an error -/
def RetEntO (E : Int) (L : List (List UInt8 × List UInt8)) (w : World) (en : Ending) (w' : World) : Prop :=
  ∃ D d, ∃ rs : List RP, en = .returned (.tuple #[.slice D rs.length d, .int .i64 E]) ∧ Own RPE 57 w' w.heap.size (fun b => w.heap.size ≤ b ∧ b < w'.heap.size) (.slice D rs.length d) rs ∧ rs.map RP.p = L ∧ Sep w.heap.size w' (rs.flatMap RP.rows) ∧ Below w.heap.size w w'

set_option maxRecDepth 100000 in
set_option maxHeartbeats 4000000 in
theorem entrieso_any (id keys : Int) (tn : ByteArray) (cols : List LCol) (ixs : List LIx) (xs : List LVal) (A B C : Option Addr) (ca cb cc : Nat) (w : World) (hA : Sl ColE w A cols) (hB : Sl IxE w B ixs) (hC : Sl AnyE w C xs) (hn : tn.size ≤ 140737488351232) (hu : U8 w)
    (hx : ∀ x ∈ xs, x.err = 0 ∧ x.wfv) (hca : cols.length ≤ ca ∧ ca ≤ 9223372036854775807) (hcc : xs.length ≤ cc ∧ cc ≤ 9223372036854775807) :
    Calls Tryz.prog 9 #[.agg #[.int .i64 id, .string tn, .slice A cols.length ca, .int .i64 keys, .slice B ixs.length cb], .slice C xs.length cc] w (RetEntO (fitsE id keys tn cols ixs xs) (entsB id keys tn cols ixs xs) w) := by
  obtain ⟨i1, hi1, hy0, hy1, hy2⟩ := info_parts Tryz.infoPair
  have HX := Lib.hid hx
  clear hx
  have b0 : Below w.heap.size w (w.alloc (.cells #[.int .i64 id, .string tn, .slice A cols.length ca, .int .i64 keys, .slice B ixs.length cb] 25)) := (Below.refl _ _).alloc (Nat.le_refl _) _
  have k0 := Blk.new w 25 #[.int .i64 id, .string tn, .slice A cols.length ca, .int .i64 keys, .slice B ixs.length cb]
  go_enter Tryz.func9, Tryz.ntmps9
  go_wp2_with fail
  generalize (w.alloc (.cells #[.int .i64 id, .string tn, .slice A cols.length ca, .int .i64 keys, .slice B ixs.length cb] 25)) = W0 at *
  refine (fits_any id keys tn cols ixs xs A B C ca cb cc W0 (hA.below b0) (hB.below b0) (hC.below b0) hn (hu.below b0)).mono ?_
  rintro en w1 ⟨rfl, b1⟩
  have b01 := b0.trans (b1.mono b0.size)
  have k1 := k0.below b1 k0.lt
  clear b0 b1 k0
  by_cases h0 : fitsE id keys tn cols ixs xs = 0
  · have d0 : (fitsE id keys tn cols ixs xs != 0) = false := by rw [h0]; rfl
    obtain ⟨hck, hxl, hve⟩ := fitsE_ok h0
    obtain ⟨hi1_, hi2_, hk1, hk2, hc16⟩ := check_head hck
    obtain ⟨hx4, hxr⟩ := check_ixs hck
    have hsm2 : ∀ x ∈ xs, x.sm := values_sm (Nat.le_of_eq hxl) hve
    have HSM := Lib.hid hsm2
    have HR := Lib.hid hxr
    have hEL : Hid (entsB id keys tn cols ixs xs = entsL id keys ixs xs) := by show _ = _; unfold entsB; rw [if_pos h0]
    have hKE : Hid (keyE id keys tn cols ixs xs = 0) := keyE_of_fits h0
    have hKB : Hid (keyB id keys tn cols ixs xs = rowKey id keys xs) := by show _ = _; unfold keyB; rw [if_pos (keyE_of_fits h0)]
    have HF0 := Lib.hid h0
    have hkn : (rowKey id keys xs).length ≤ 1073741824 := by
      have := keyL_len (xs := xs.take keys.toNat) fun x hx => hsm2 x (List.mem_of_mem_take hx)
      have hl : (xs.take keys.toNat).length ≤ 16 := by rw [List.length_take]; omega
      show ([114, UInt8.ofInt id] ++ keyL (xs.take keys.toNat)).length ≤ _
      rw [List.length_append]
      show 2 + _ ≤ _
      omega
    have hxl1 : xs.length ≤ cols.length := Nat.le_of_eq hxl
    have hxl2 : cols.length ≤ xs.length := Nat.le_of_eq hxl.symm
    clear h0 hve hsm2 hxr hck hxl
    go_wp2_with ((with_reducible refine wpList_load_blk rfl 25 (.tmp 2) rfl w.heap.size ?_ 25 _ _ k1 Tryz.underlying25 ?_ Tryz.size_TableV ?_ ?_); rfl; rfl; rfl)
    refine (rowkey_any id keys tn cols ixs xs A B C ca cb cc w1 (hA.below b01) (hB.below b01) (hC.below b01) hn (hu.below b01) (fun x hx => HX.out x hx) hca hcc).mono ?_
    rintro en w2 ⟨K1, d1, rfl, oK, b2⟩
    rw [hKB.out] at oK ⊢
    rw [hKE.out]
    have HEL : Hid (entsB id keys tn cols ixs xs = (rowKey id keys xs, encL xs) :: ixs.mapIdx fun i x => (entK id (rowKey id keys xs) xs i x, rowKey id keys xs)) := by show _ = _; rw [hEL.out]; rfl
    generalize rowKey id keys xs = key at *
    have b02 := b01.trans (b2.mono b01.size)
    have k2 := k1.below b2 k1.lt
    have zz1 : w.heap.size ≤ w1.heap.size := b01.size
    have zz12 := b2.size
    clear b01 b2 k1
    go_wp2_with fail
    refine (enc_any xs C cc w2 (hC.below b02) (fun x hx => HSM.out x hx) (fun x hx => HX.out x hx) (by omega)).mono ?_
    rintro en w3 ⟨F1, f1, rfl, oE, b3⟩
    have hel := encL_len (xs := xs) (fun x hx => HSM.out x hx)
    generalize encL xs = ebs at *
    have b03 := b02.trans (b3.mono b02.size)
    have k3 := k2.below b3 k2.lt
    have oK3 := oK.below b3
    have oE3 : OwnB w2.heap.size w3 F1 ebs f1 := oE
    have hel2 : ebs.length ≤ 1073741824 := by omega
    have zz2 : w.heap.size ≤ w2.heap.size := b02.size
    have zz3 := b3.size
    have dX : Below w3.heap.size w3 (w3.alloc (.cells #[.slice K1 key.length d1, .slice F1 ebs.length f1] 57)) := (Below.refl _ _).alloc (Nat.le_refl _) _
    have bX := b03.trans (dX.mono b03.size)
    have kX := k3.below dX k3.lt
    have oP : Own RPE 57 (w3.alloc (.cells #[.slice K1 key.length d1, .slice F1 ebs.length f1] 57)) w3.heap.size (fun b => w.heap.size ≤ b ∧ b < w3.heap.size) (.slice (some ⟨w3.heap.size, 0, none⟩) 1 1) [⟨K1, key, d1, F1, ebs, f1⟩] := by
      refine ⟨[.slice K1 key.length d1, .slice F1 ebs.length f1], own_pair (Blk.new w3 _ _) (Nat.le_refl _), ER.flat_one_ ⟨rfl, ⟨(oK3.bs (by show key.length ≤ _; omega)).below dX, fun ad e hn => ?_, oK3.caps⟩, (oE3.bs (by show ebs.length ≤ _; omega)).below dX, fun ad e hn => ?_, oE3.caps⟩⟩
      · have h1 := OwnB.at_ oK3 ad e hn
        have h2 := kX.lt
        refine ⟨⟨by omega, h1.2⟩, fun e2 => ?_⟩
        have h3 : w3.heap.size = ad.block := Option.some.inj e2
        have h4 : ad.block < w3.heap.size := h1.2
        omega
      · have h1 := OwnB.at_ oE3 ad e hn
        refine ⟨⟨by omega, h1.2⟩, fun e2 => ?_⟩
        have h3 : w3.heap.size = ad.block := Option.some.inj e2
        have h4 : ad.block < w3.heap.size := h1.2
        omega
    have sP : Sep w.heap.size (w3.alloc (.cells #[.slice K1 key.length d1, .slice F1 ebs.length f1] 57)) (RP.rows ⟨K1, key, d1, F1, ebs, f1⟩) := by
      have h1 : Sep w1.heap.size w2 [(K1, key, d1)] := Sep.one oK
      have h2 : Sep w2.heap.size w3 [(F1, ebs, f1)] := Sep.one oE3
      exact ((h1.more b3 h2 (by omega)).below dX).base (by omega)
    have oKX : OwnB w1.heap.size (w3.alloc (.cells #[.slice K1 key.length d1, .slice F1 ebs.length f1] 57)) K1 key d1 := OwnB.below oK3 dX
    have hFK := fun g e => (OwnB.lt oK3 g e).2
    have FK := Lib.hid hFK
    clear hFK
    have zw3 := b03.size
    have zlt3 : w.heap.size < w3.heap.size := k3.lt
    have l3 := dX.size
    go_upto_region 7 with fail
    have lX : w3.heap.size < (w3.alloc (.cells #[.slice K1 key.length d1, .slice F1 ebs.length f1] 57)).heap.size := by simp
    generalize (w3.alloc (.cells #[.slice K1 key.length d1, .slice F1 ebs.length f1] 57)) = X at *
    generalize hM : (ixs.mapIdx fun i x => (entK id key xs i x, key)) = M at *
    have hMl : M.length = ixs.length := by rw [← hM, List.length_mapIdx]
    have hMg : ∀ k (h : k < ixs.length), M.take (k + 1) = M.take k ++ [(entK id key xs k ixs[k], key)] := fun k h => by
      have h2 : k < M.length := by omega
      rw [List.take_succ_eq_append_getElem h2]
      congr 2
      subst hM
      rw [List.getElem_mapIdx]
    have HM := Lib.hid hMg
    have HML := Lib.hid hMl
    have q4 : X.cell? ⟨w.heap.size, 4, none⟩ = some (.slice B ixs.length cb) := kX.cell 4
    clear hMg hMl hM dX oK3 oK oE oE3 k3 k2 b3
    have lkX := kX.lt
    go_wp2_with fail
    go_loopw [11, 12, 37] (fun o _ j wr => ∃ (k : Nat) (ps : List RP) (Bp : Option Addr) (dp : Nat), k ≤ ixs.length ∧ j = .int .i64 (k : Int) ∧ o = .slice Bp ps.length dp ∧ Own RPE 57 wr w3.heap.size (fun b => w.heap.size ≤ b ∧ b < wr.heap.size) (.slice Bp ps.length dp) ps ∧ ps.map RP.p = (key, ebs) :: M.take k ∧ Sep w.heap.size wr (ps.flatMap RP.rows) ∧ ps.length ≤ k + 1 ∧ OwnB w1.heap.size wr K1 key d1 ∧ Blk wr w.heap.size 25 #[.int .i64 id, .string tn, .slice A cols.length ca, .int .i64 keys, .slice B ixs.length cb] ∧ w3.heap.size ≤ wr.heap.size ∧ Below w.heap.size w wr) (fun _ _ j _ => ixs.length - (intOf j).toNat)
    case atStart => exact ⟨0, [⟨K1, key, d1, F1, ebs, f1⟩], _, _, Nat.zero_le _, rfl, rfl, Own.mono oP (fun b hb _ hs => ⟨hs.1, hb⟩), by rw [List.take_zero]; rfl, by rw [List.flatMap_cons, List.flatMap_nil, List.append_nil]; exact sP, Nat.le_refl _, oKX, kX, l3, bX⟩
    case round =>
      clear q4 sP
      obtain ⟨k, ps, Bp, dp, hk, rfl, rfl, o, hp, sPs, hpl, oKr, kr, z3r, bw⟩ := hrel
      have HP := Lib.hid hp
      clear hp
      have zr := bw.size
      by_cases hlt : k < ixs.length
      · have hlt' : (k : Int) < (ixs.length : Int) := by omega
        have HMG := Lib.hid (HM.out k hlt)
        obtain ⟨hr1, hr2⟩ := HR.out _ (List.getElem_mem hlt)
        have hr3 : ∀ c ∈ ixs[k].cols, 0 ≤ c ∧ c < (xs.length : Int) := fun c hc => by have := hr1 c hc; omega
        have T := entry_any id keys tn cols.length ixs xs A B C K1 ca cb cc d1 key k wr hlt (hB.below bw) (hC.below bw) (oKr.bs (by omega)) hkn (fun x hx => HX.out x hx) (fun x hx => HSM.out x hx) hr3 (by omega)
        have hkl := keyL_len (xs := ixVals xs ixs[k]) (fun v hv => HSM.out v (ixVals_mem hr3 v hv))
        have hvl : (ixVals xs ixs[k]).length ≤ 16 := by unfold ixVals; rw [List.length_map]; omega
        have hekl : (entK id key xs k ixs[k]).length ≤ 4294967296 := by
          have h1 : (ixKey id k ixs[k] xs).length ≤ 3 + (keyL (ixVals xs ixs[k])).length := by unfold ixKey; rw [List.length_append]; exact Nat.le_refl _
          have h2 : (if ixs[k].uniq = true then ([] : List UInt8) else key).length ≤ key.length := by split <;> simp
          unfold entK
          rw [List.length_append]
          omega
        generalize entK id key xs k ixs[k] = ek at *
        clear hr1 hr2 hr3 hkl hvl
        go_wp2_with ((with_reducible refine wpList_load_blk rfl 25 (.tmp 2) rfl w.heap.size ?_ 25 _ _ kr Tryz.underlying25 ?_ Tryz.size_TableV ?_ ?_); rfl; rfl; rfl)
        refine T.mono ?_
        rintro en w5 ⟨D, c, F, d, rfl, oD, oF, hDF, b5⟩
        have oK5 := OwnB.below oKr b5
        have kr5 := kr.below b5 kr.lt
        have oDb : OwnB wr.heap.size w5 D ek c := oD
        have oFb : OwnB wr.heap.size w5 F key d := oF
        have dZ : Below w5.heap.size w5 (w5.alloc (.cells #[.slice D ek.length c, .slice F key.length d] 57)) := (Below.refl _ _).alloc (Nat.le_refl _) _
        have zz5 := b5.size
        have bwZ := (bw.trans (b5.mono bw.size)).trans (dZ.mono (bw.trans (b5.mono bw.size)).size)
        have oZ0 : Own RPE 57 w5 w3.heap.size (fun b => w.heap.size ≤ b ∧ b < w5.heap.size) (.slice Bp ps.length dp) ps := Own.mono (Own.below o b5) (fun b hb _ hs => ⟨hs.1, hb⟩)
        have oZ := Own.below oZ0 dZ
        have oKZ := OwnB.below oK5 dZ
        have krZ := kr5.below dZ kr5.lt
        have zwZ := bwZ.size
        have z5Z := dZ.size
        have hat1 : At (fun b => (w.heap.size ≤ b ∧ b < w5.heap.size) ∧ (Value.slice Bp ps.length dp).ownBlock ≠ some b) D ek.length := fun ad e hn => by
          have h1 := OwnB.at_ oDb ad e hn
          refine ⟨⟨by omega, h1.2⟩, fun e2 => ?_⟩
          have := (Own.lt o _ e2).2
          omega
        have hat2 : At (fun b => (w.heap.size ≤ b ∧ b < w5.heap.size) ∧ (Value.slice Bp ps.length dp).ownBlock ≠ some b) F key.length := fun ad e hn => by
          have h1 := OwnB.at_ oFb ad e hn
          refine ⟨⟨by omega, h1.2⟩, fun e2 => ?_⟩
          have := (Own.lt o _ e2).2
          omega
        have hb1 := (oDb.bs (by omega)).below dZ
        have hb2 := (oFb.bs (by omega)).below dZ
        have c1 := oDb.caps
        have c2 := oFb.caps
        have sNew : Sep wr.heap.size w5 (RP.rows ⟨D, ek, c, F, key, d⟩) := (Sep.one oDb).append (Sep.one oFb) fun r hr s hs g he => by
          rw [List.mem_singleton.1 hr] at he
          rw [List.mem_singleton.1 hs]
          exact hDF g he
        have sZ : Sep w.heap.size (w5.alloc (.cells #[.slice D ek.length c, .slice F key.length d] 57)) (ps.flatMap RP.rows ++ RP.rows ⟨D, ek, c, F, key, d⟩) := (sPs.more b5 sNew bw.size).below dZ
        obtain ⟨vsZ, hoZ, _⟩ : ∃ vs, (w5.alloc (.cells #[.slice D ek.length c, .slice F key.length d] 57)).ownsRow w3.heap.size 57 2 (.slice Bp ps.length dp) ps.length vs ∧ True := by
          obtain ⟨vs, h1, _⟩ := oZ
          exact ⟨vs, h1, trivial⟩
        clear oD oF oDb oFb sNew
        go_wp2_with (at_builtin; refine wpList_appE RPE w3.heap.size w _ rfl (.tmp 40) (.tmp 46) 57 38 rfl i1 _ Tryz.underlying38 hi1 hy0 hy1 hy2 rfl _ Bp ps dp rfl oZ _ [.slice D ek.length c, .slice F key.length d] ⟨D, ek, c, F, key, d⟩ 1 rfl _ (Reads.newN w5 [.slice D ek.length c, .slice F key.length d] 57) ⟨rfl, ⟨hb1, hat1, c1⟩, hb2, hat2, c2⟩ (by simp only [RPE]; omega) (by simp only [maxLen]; omega) bwZ zw3 (by omega) ?_; intro B9 d9 ps9 w9 H9 o9 b9 g9 t9; have oK9 := OwnB.kept oKZ g9 (fun g e e2 => by have h1 := (Own.lt o g e2).1; have h2 := FK.out g e; omega); have kr9 := krZ.grown g9 (fun e => by have h1 := (Own.lt o _ e.symm).1; have h2 := kX.lt; omega); have z9 := g9.size; have s9 := sZ.row g9 hoZ (by decide))
        go_roundw
        case rel => exact ⟨k + 1, ps9, B9, d9, by omega, by go_num, rfl, Own.mono o9 (fun b hb _ hs => ⟨hs.1, hb⟩), by rw [H9.out, HMG.out, List.map_append, HP.out]; rfl, by rw [H9.out, List.flatMap_append, List.flatMap_cons, List.flatMap_nil, List.append_nil]; exact s9, by rw [H9.out, List.length_append, List.length_singleton]; omega, oK9, kr9, by omega, b9⟩
        case measure => simp [intOf]; omega
      · obtain rfl : k = ixs.length := by omega
        have HE : Hid (ps.map RP.p = entsB id keys tn cols ixs xs) := by show _ = _; rw [HEL.out, HP.out, ← HML.out, List.take_length]
        clear HP
        go_wp2_with fail
        go_ret2
        rw [HF0.out]
        exact ⟨Bp, dp, ps, rfl, Own.base o zw3, HE.out, sPs, bw⟩
  · have d0 : (fitsE id keys tn cols ixs xs != 0) = true := by rw [bne_iff_ne]; exact h0
    have HE : Hid (entsB id keys tn cols ixs xs = []) := by show _ = _; unfold entsB; rw [if_neg h0]
    clear h0
    go_wp2_with fail
    go_ret2
    rw [HE.out]
    exact ⟨none, 0, [], rfl, Own.nil_ RPE _ _ _ _, rfl, Sep.nil_ _ _, b01⟩
end Go.Proofs.YtfededjcadmpbaaGreatDoor

namespace Go.Proofs.YtfededjcadmpbaaGreatDoor
open Go.RowKit Go.Maps

abbrev Wr := List UInt8 × List UInt8 × Bool
def storE (id keys : Int) (tn : ByteArray) (cols : List LCol) (ixs : List LIx) (xs : List LVal) : Int :=
  if xs.length = 0 then checkI id keys tn cols ixs else fitsE id keys tn cols ixs xs
def storL (id keys : Int) (tn : ByteArray) (cols : List LCol) (ixs : List LIx) (xs : List LVal) : List (List UInt8 × List UInt8) :=
  if xs.length = 0 then [] else entsB id keys tn cols ixs xs
/-- do the rows stand under two keys? -/
def clashB : List (List UInt8 × List UInt8) → List (List UInt8 × List UInt8) → Bool
  | p :: _, q :: _ => !(p.1 == q.1)
  | _, _ => false
def chgE (e1 e2 : Int) (was is : List (List UInt8 × List UInt8)) : Int :=
  if e1 ≠ 0 then e1 else if e2 ≠ 0 then e2 else if clashB was is = true then 1 else 0
/-- is an entry new, or another one than it was? -/
def newB (was : List (List UInt8 × List UInt8)) (p : List UInt8 × List UInt8) : Bool := !(was.any fun q => q.1 == p.1 && q.2 == p.2)
def newL (was is : List (List UInt8 × List UInt8)) : List Wr := (is.filter (newB was)).map fun p => (p.1, p.2, false)
/-- the writes ws, by rising keys, turn was into is -/
def ChgOf (was is : List (List UInt8 × List UInt8)) (ws : List Wr) : Prop :=
  ∃ gs : List (List UInt8), gs.Nodup ∧ (∀ k, k ∈ gs ↔ (k ∈ was.map Prod.fst ∧ k ∉ is.map Prod.fst)) ∧ ws.Perm (newL was is ++ gs.map fun k => (k, [], true)) ∧ ws.Pairwise fun x y => ¬ cmpL y.1 x.1 < 0
def RP.toW (x : RP) : RW := ⟨x.K, x.k, x.c, x.V, x.v, x.d, false⟩
def RW.rows (x : RW) : List R3 := [(x.K, x.k, x.c), (x.V, x.v, x.d)]
def newR (was is : List RP) : List RW := (is.filter fun p => newB (was.map RP.p) p.p).map RP.toW
theorem newR_w (was is : List RP) : (newR was is).map RW.w = newL (was.map RP.p) (is.map RP.p) := by
  unfold newR newL
  rw [List.filter_map, List.map_map, List.map_map]
  rfl
theorem newR_take (was : List RP) {is : List RP} {m : Nat} (h : m < is.length) : newR was (is.take (m + 1)) = newR was (is.take m) ++ (if newB (was.map RP.p) is[m].p = true then [is[m].toW] else []) := by
  unfold newR
  rw [List.take_succ_eq_append_getElem h, List.filter_append, List.map_append]
  congr 1
  cases hb : newB (was.map RP.p) is[m].p <;> simp [hb]
theorem sub_flat {α β : Type} (f : α → List β) : ∀ {l m : List α}, l.Sublist m → (l.flatMap f).Sublist (m.flatMap f)
  | _, _, .slnil => List.Sublist.refl _
  | _, _, .cons a h => by rw [List.flatMap_cons]; exact (sub_flat f h).trans (List.sublist_append_right _ _)
  | _, _, .cons_cons a h => by rw [List.flatMap_cons, List.flatMap_cons]; exact (List.Sublist.refl _).append (sub_flat f h)
theorem newR_rows (was is : List RP) : ((newR was is).flatMap RW.rows).Sublist (is.flatMap RP.rows) := by
  unfold newR
  rw [List.flatMap_map]
  exact sub_flat RP.rows List.filter_sublist
theorem key_one : ∀ {was : List RP}, (was.map RP.k).Nodup → ∀ {r q : RP}, r ∈ was → q ∈ was → r.k = q.k → r = q
  | [], _, r, _, h, _, _ => by cases h
  | a :: l, hn, r, q, hr, hq, e => by
    rw [List.map_cons, List.nodup_cons] at hn
    rcases List.mem_cons.1 hr with h1 | h1
    · rcases List.mem_cons.1 hq with h2 | h2
      · rw [h1, h2]
      · exact absurd (by rw [← h1, e]; exact List.mem_map_of_mem h2) hn.1
    · rcases List.mem_cons.1 hq with h2 | h2
      · exact absurd (by rw [← h2, ← e]; exact List.mem_map_of_mem h1) hn.1
      · exact key_one hn.2 h1 h2 e
theorem newB_found {was : List RP} {p q : RP} (hn : (was.map RP.k).Nodup) (hq : q ∈ was) (hk : q.k = p.k) : newB (was.map RP.p) p.p = !(q.v == p.v) := by
  unfold newB
  congr 1
  rw [List.any_map]
  cases hv : (q.v == p.v) with
  | true => exact List.any_eq_true.2 ⟨q, hq, by show (q.k == p.k && q.v == p.v) = true; rw [hk, hv]; simp⟩
  | false =>
    rw [List.any_eq_false]
    intro r hr
    show ¬ (r.k == p.k && r.v == p.v) = true
    intro h
    rw [Bool.and_eq_true, beq_iff_eq, beq_iff_eq] at h
    have : r = q := by
      exact key_one hn hr hq (h.1.trans hk.symm)
    rw [this] at h
    rw [h.2] at hv
    simp at hv
theorem newB_none {was : List RP} {p : RP} (hk : p.k ∉ was.map RP.k) : newB (was.map RP.p) p.p = true := by
  unfold newB
  rw [List.any_map]
  have : (was.any ((fun q : List UInt8 × List UInt8 => q.1 == p.p.1 && q.2 == p.p.2) ∘ RP.p)) = false := by
    rw [List.any_eq_false]
    intro r hr h
    replace h : (r.k == p.k && r.v == p.v) = true := h
    rw [Bool.and_eq_true, beq_iff_eq] at h
    exact hk (by rw [← h.1]; exact List.mem_map_of_mem hr)
  rw [this]; rfl

/-- an element of the map, whatever it is -/
def rawR (v : Value) : Option (DataW Value × List MemPlace) := some (.held v, [])
def RP.vv (x : RP) : Value := .slice x.V x.v.length x.d
/-- the map D holds the pairs' values by their keys, but for the keys del -/
def MapIs (D : DataW Value) (was : List RP) (del : List (List UInt8)) : Prop :=
  IsMap D ∧ (∀ k : List UInt8, has D (.string k) = true ↔ (k ∈ was.map RP.k ∧ k ∉ del)) ∧ ∀ q ∈ was, q.k ∉ del → D.atKey (.string q.k) (.held (.slice none 0 0)) = .held q.vv
theorem lit_ne {a b : List UInt8} (h : a ≠ b) : Lit.string a ≠ Lit.string b := fun e => h (by injection e)
theorem MapIs.nil_ : MapIs (.map []) [] [] := ⟨isMap_empty, fun k => by simp [has], fun q hq => by cases hq⟩
theorem MapIs.put {D : DataW Value} {was : List RP} {r : RP} (h : MapIs D was []) (hr : r.k ∉ was.map RP.k) : MapIs (D.put (.string r.k) (.held r.vv)) (was ++ [r]) [] := by
  obtain ⟨h1, h2, h3⟩ := h
  refine ⟨h1.put _ _, fun k => ?_, fun q hq hd => ?_⟩
  · rw [List.map_append, List.mem_append]
    by_cases e : k = r.k
    · subst e
      rw [has_put_same (k := .string r.k) h1 trivial]
      simp
    · rw [has_put_other (lit_ne e), h2 k]
      simp [e]
  · rcases List.mem_append.1 hq with hq | hq
    · have hne : q.k ≠ r.k := fun e => hr (by rw [← e]; exact List.mem_map_of_mem hq)
      rw [atKey_put_other (lit_ne hne)]
      exact h3 q hq hd
    · rw [List.mem_singleton.1 hq, atKey_put_same (k := .string r.k) h1 trivial]
theorem MapIs.del {D : DataW Value} {was : List RP} {ks : List (List UInt8)} (h : MapIs D was ks) (k : List UInt8) : MapIs (D.del (.string k)) was (ks ++ [k]) := by
  obtain ⟨h1, h2, h3⟩ := h
  refine ⟨h1.del _, fun j => ?_, fun q hq hd => ?_⟩
  · by_cases e : j = k
    · subst e
      rw [has_del_same]
      simp
    · rw [has_del_other (lit_ne e), h2 j]
      simp [e]
  · rw [List.mem_append, List.mem_singleton] at hd
    rw [atKey_del_other (lit_ne fun e => hd (.inr e))]
    exact h3 q hq fun h => hd (.inl h)
theorem MapIs.look {D : DataW Value} {was : List RP} {ks : List (List UInt8)} (h : MapIs D was ks) {k : List UInt8} (hk : k ∉ ks) :
    (∃ q ∈ was, q.k = k ∧ D.atKey (.string k) (.held (.slice none 0 0)) = .held q.vv ∧ has D (.string k) = true) ∨ (k ∉ was.map RP.k ∧ D.atKey (.string k) (.held (.slice none 0 0)) = .held (.slice none 0 0) ∧ has D (.string k) = false) := by
  obtain ⟨h1, h2, h3⟩ := h
  by_cases hm : k ∈ was.map RP.k
  · obtain ⟨q, hq, rfl⟩ := List.mem_map.1 hm
    exact .inl ⟨q, hq, rfl, h3 q hq hk, (h2 _).2 ⟨hm, hk⟩⟩
  · have hf : has D (.string k) = false := by
      cases hb : has D (.string k) with
      | false => rfl
      | true => exact absurd ((h2 k).1 hb).1 hm
    exact .inr ⟨hm, atKey_of_not_has hf _, hf⟩
/-- 'v, ok := m[k]', its answer known ahead -/
theorem wpList_lookup_raw {P : Program} (w : World) {ops : Array Oper} {rest : List Oper} {o : Oper} {a : Act} {Q : Exit → Act → World → Prop} (hg : o.guard = none) (m x : Operand) (t : TypeId) (hop : o.op = Op.lookup t m x true)
    (k e : TypeId) (K : Keyed P k) (ht : P.underlying t = some (.map k e)) (hz : (zeroValue e).run P w = .ok (.slice none 0 0) w) (b n : Nat) (D : DataW Value)
    (hm : a.eval m = .map (some b)) (hown : w.ownsMap P k rawR b n D) (key : Value) (kl : Lit) (hx : a.eval x = key) (hkey : keyOf P k key = some kl) (v : Value) (bb : Bool) (hv : D.atKey kl (.held (.slice none 0 0)) = .held v) (hb : has D kl = bb)
    (hK : wpList P ops Q rest (a.put o.dst (.tuple #[v, .bool bb])) w) : wpList P ops Q (o :: rest) a w := by
  refine wpList_lookup_own_ok w hg m x t hop k e K ht rawR hz (.held (.slice none 0 0)) [] rfl b n D hm hown key kl hx hkey (fun v' ps hv' => ?_)
  have h1 : some (DataW.held v', ([] : List MemPlace)) = some (D.atKey kl (.held (.slice none 0 0)), ps) := hv'
  rw [hv] at h1
  injection h1 with h1
  injection h1 with h1 h2
  injection h1 with h1
  subst h1
  rw [hb]
  exact hK

theorem ofInt_inj {i j : Nat} (hi : i < 256) (hj : j < 256) (h : UInt8.ofInt (i : Int) = UInt8.ofInt (j : Int)) : i = j := by
  have h1 := mod_u8 (i : Int)
  have h2 := mod_u8 (j : Int)
  rw [h] at h1
  omega
theorem ents_nodup {id : Int} {key v : List UInt8} {ixs : List LIx} {xs : List LVal} {r : List UInt8} (hk : key = 114 :: r) (hi : ixs.length ≤ 4) : (((key, v) :: ixs.mapIdx fun i x => (entK id key xs i x, key)).map Prod.fst).Nodup := by
  rw [List.map_cons, List.nodup_cons]
  have hent : ∀ (i : Nat) (x : LIx), ∃ s, entK id key xs i x = 105 :: UInt8.ofInt id :: UInt8.ofInt (i : Int) :: s := fun i x => ⟨_, rfl⟩
  constructor
  · intro h
    obtain ⟨p, hp, he⟩ := List.mem_map.1 h
    obtain ⟨i, hi2, rfl⟩ := List.mem_mapIdx.1 hp
    obtain ⟨s, hs⟩ := hent i ixs[i]
    have h2 : entK id key xs i ixs[i] = key := he
    rw [hs, hk] at h2
    injection h2 with h2
    exact absurd h2 (by decide)
  · rw [List.nodup_iff_pairwise_ne, List.pairwise_map, List.pairwise_iff_getElem]
    intro i j h1 h2 hij he
    rw [List.length_mapIdx] at h1 h2
    rw [List.getElem_mapIdx, List.getElem_mapIdx] at he
    obtain ⟨s, hs⟩ := hent i ixs[i]
    obtain ⟨t, ht⟩ := hent j ixs[j]
    replace he : entK id key xs i ixs[i] = entK id key xs j ixs[j] := he
    rw [hs, ht] at he
    injection he with _ he
    injection he with _ he
    injection he with he
    have := ofInt_inj (by omega) (by omega) he
    omega
theorem storL_nodup (id keys : Int) (tn : ByteArray) (cols : List LCol) (ixs : List LIx) (xs : List LVal) : ((storL id keys tn cols ixs xs).map Prod.fst).Nodup ∧ (storL id keys tn cols ixs xs).length ≤ 5 := by
  unfold storL
  by_cases h0 : xs.length = 0
  · rw [if_pos h0]; exact ⟨List.nodup_nil, Nat.zero_le _⟩
  rw [if_neg h0]
  unfold entsB
  by_cases h : fitsE id keys tn cols ixs xs = 0
  · rw [if_pos h]
    have h4 := (check_ixs (fitsE_ok h).1).1
    refine ⟨ents_nodup rfl h4, ?_⟩
    show (_ :: _).length ≤ 5
    rw [List.length_cons, List.length_mapIdx]
    omega
  · rw [if_neg h]; exact ⟨List.nodup_nil, Nat.zero_le _⟩
theorem str_conv2 (l : List UInt8) (hl : l.length ≤ 140737488355328) (w : World) : ∃ c W, (convert 9 46 (.string ⟨l.toArray⟩)).run Tryz.prog w = .ok (.slice (some ⟨w.heap.size, 0, none⟩) l.length c) W ∧ Bs W (some ⟨w.heap.size, 0, none⟩) l ∧ Below w.heap.size w W ∧ W.heap.size = w.heap.size + 1 := by
  have hs : (⟨l.toArray⟩ : ByteArray).size = l.length := by show l.toArray.size = _; simp
  refine ⟨_, _, by rw [← hs]; exact Lib.run_convert_string_bytes w 9 46 5 ⟨l.toArray⟩ Tryz.underlying9 Tryz.underlying46 Tryz.underlying5, ⟨⟨by rw [List.length_map, Nat.mul_one], fun _ => ⟨_, rfl, by rw [Lib.bytesWorld_size]; exact Nat.lt_succ_self _, fun j u hu => ?_⟩⟩, hl⟩, below_bytes w 5 _, Lib.bytesWorld_size w 5 _⟩
  have hj : j < l.length := by
    have := (List.getElem?_eq_some_iff.1 hu).1
    rwa [List.length_map] at this
  rw [add_row, Lib.bytesWorld_cell w 5 _ j (by rw [hs]; exact hj), ← hu, List.getElem?_map, List.getElem?_eq_getElem hj]
  show some (Value.int .u8 ((l.getD j 0).toNat : Int)) = some (bval l[j])
  rw [List.getD_eq_getElem?_getD, List.getElem?_eq_getElem hj]
  rfl
theorem not_take {α : Type} {l : List α} (h : l.Nodup) {k : Nat} (hk : k < l.length) : l[k] ∉ l.take k := by
  intro hm
  obtain ⟨i, hi, he⟩ := List.getElem_of_mem hm
  rw [List.length_take] at hi
  rw [List.getElem_take] at he
  have := (List.pairwise_iff_getElem.1 h) i k (by omega) hk (by omega)
  exact this he
theorem key_lit (l : List UInt8) (hl : l.length ≤ 140737488355328) : keyOf Tryz.prog 9 (.string ⟨l.toArray⟩) = some (.string l) := by
  have h := WideMaps.keyOf_string_mk (P := Tryz.prog) Tryz.underlying9 (s := ⟨l.toArray⟩) (by
    have e : (⟨l.toArray⟩ : ByteArray).size = l.length := by show l.toArray.size = _; simp
    rw [e]
    simp only [maxLen]
    omega)
  exact h
set_option maxRecDepth 100000 in
set_option maxHeartbeats 1000000 in
theorem stored_any (id keys : Int) (tn : ByteArray) (cols : List LCol) (ixs : List LIx) (xs : List LVal) (A B C : Option Addr) (ca cb cc : Nat) (w : World) (hA : Sl ColE w A cols) (hB : Sl IxE w B ixs) (hC : Sl AnyE w C xs) (hn : tn.size ≤ 140737488351232) (hu : U8 w)
    (hx : ∀ x ∈ xs, x.err = 0 ∧ x.wfv) (hca : cols.length ≤ ca ∧ ca ≤ 9223372036854775807) (hcc : xs.length ≤ cc ∧ cc ≤ 9223372036854775807) :
    Calls Tryz.prog 18 #[.agg #[.int .i64 id, .string tn, .slice A cols.length ca, .int .i64 keys, .slice B ixs.length cb], .slice C xs.length cc] w (RetEntO (storE id keys tn cols ixs xs) (storL id keys tn cols ixs xs) w) := by
  have b0 : Below w.heap.size w (w.alloc (.cells #[.int .i64 id, .string tn, .slice A cols.length ca, .int .i64 keys, .slice B ixs.length cb] 25)) := (Below.refl _ _).alloc (Nat.le_refl _) _
  have hA0 := hA.below b0
  have hB0 := hB.below b0
  have T1 := check_any id keys tn A B ca cb cols ixs _ hA0.cols hB0.ixs hn hA0.cnames hB0.xnames
  have T2 := entrieso_any id keys tn cols ixs xs A B C ca cb cc _ hA0 hB0 (hC.below b0) hn (hu.below b0) hx hca hcc
  clear hx
  by_cases h0 : xs.length = 0
  · have HE : Hid (storE id keys tn cols ixs xs = checkI id keys tn cols ixs) := if_pos h0
    have HL : Hid (storL id keys tn cols ixs xs = []) := if_pos h0
    have d0 : ((xs.length : Int) == 0) = true := by rw [beq_iff_eq]; omega
    clear h0 T2
    go_enter Tryz.func18, Tryz.ntmps18
    go_wp2_with fail
    refine T1.mono ?_
    rintro en w1 ⟨rfl, b1⟩
    go_wp2_with fail
    go_ret2
    rw [HE.out, HL.out]
    exact ⟨none, 0, [], rfl, Own.nil_ RPE _ _ _ _, rfl, Sep.nil_ _ _, b0.trans (b1.mono b0.size)⟩
  · have HE : Hid (storE id keys tn cols ixs xs = fitsE id keys tn cols ixs xs) := if_neg h0
    have HL : Hid (storL id keys tn cols ixs xs = entsB id keys tn cols ixs xs) := if_neg h0
    have d0 : ((xs.length : Int) == 0) = false := by rw [beq_eq_false_iff_ne]; omega
    clear h0 T1
    go_enter Tryz.func18, Tryz.ntmps18
    go_wp2_with fail
    refine T2.mono ?_
    rintro en w1 ⟨D, d, rs, rfl, o, hr, hs, b1⟩
    go_wp2_with fail
    go_ret2
    rw [HE.out, HL.out]
    exact ⟨D, d, rs, rfl, Own.base (Own.mono o (fun b hb _ h => ⟨Nat.le_trans b0.size h.1, hb⟩)) b0.size, hr, hs.base b0.size, b0.trans (b1.mono b0.size)⟩
end Go.Proofs.YtfededjcadmpbaaGreatDoor

namespace Go.Proofs.YtfededjcadmpbaaGreatDoor
open Go.RowKit Go.Maps

/-- writes of the call's own, by rising keys, and an error -/
def RetChg (E : Int) (was is : List (List UInt8 × List UInt8)) (w : World) (en : Ending) (w' : World) : Prop :=
  ∃ D d, ∃ ws : List RW, en = .returned (.tuple #[.slice D ws.length d, .int .i64 E]) ∧ Own RWE 61 w' w.heap.size (fun b => w.heap.size ≤ b ∧ b < w'.heap.size) (.slice D ws.length d) ws ∧
    (E = 0 → ChgOf was is (ws.map RW.w)) ∧ (E ≠ 0 → ws = []) ∧ (was = [] → Sep w.heap.size w' (ws.flatMap RW.rows)) ∧ Below w.heap.size w w'
theorem RetChg.none_ {E : Int} {was is : List (List UInt8 × List UInt8)} {w w' : World} (h : E ≠ 0) (b : Below w.heap.size w w') : RetChg E was is w (.returned (.tuple #[.slice none 0 0, .int .i64 E])) w' :=
  ⟨none, 0, [], rfl, Own.nil_ RWE _ _ _ _, fun h2 => absurd h2 h, fun _ => rfl, fun _ => Sep.nil_ _ _, b⟩
/-- the keys that are gone, as far as the range has come -/
def GoneIs (D : DataW Value) (left : Lit → Bool) (gs : List RW) : Prop :=
  (∀ k : List UInt8, k ∈ gs.map RW.k ↔ (has D (.string k) = true ∧ left (.string k) = false)) ∧ (gs.map RW.k).Nodup ∧ ∀ g ∈ gs, g.v = [] ∧ g.g = true
theorem GoneIs.nil_ (D : DataW Value) : GoneIs D (has D) [] := ⟨fun k => by simp, List.nodup_nil, fun g hg => absurd hg (by simp)⟩
theorem GoneIs.snoc {D : DataW Value} {left : Lit → Bool} {gs : List RW} {y : RW} (h : GoneIs D left gs) (hl : left (.string y.k) = true) (hh : has D (.string y.k) = true) (hv : y.v = []) (hg : y.g = true) : GoneIs D (fun z => left z && !z.sameKey (.string y.k)) (gs ++ [y]) := by
  obtain ⟨h1, h2, h3⟩ := h
  refine ⟨fun k => ?_, ?_, fun g hgm => ?_⟩
  · rw [List.map_append, List.mem_append, h1 k]
    show _ ↔ (has D (.string k) = true ∧ (left (.string k) && !(Lit.string k).sameKey (.string y.k)) = false)
    by_cases e : k = y.k
    · subst e
      rw [WideAt.sameKey_self (a := .string y.k) trivial, hl, hh]
      simp
    · rw [sameKey_ne (lit_ne e)]
      simp [e]
  · rw [List.map_append]
    refine List.nodup_append.2 ⟨h2, by simp, fun a ha b hb e => ?_⟩
    have hb2 : b = y.k := by simpa using hb
    rw [e, hb2] at ha
    have := ((h1 _).1 ha).2
    rw [hl] at this
    cases this
  · rcases List.mem_append.1 hgm with hgm | hgm
    · exact h3 g hgm
    · rw [List.mem_singleton.1 hgm]; exact ⟨hv, hg⟩
theorem GoneIs.w {D : DataW Value} {left : Lit → Bool} {gs : List RW} (h : GoneIs D left gs) : gs.map RW.w = (gs.map RW.k).map fun k => (k, [], true) := by
  rw [List.map_map]
  refine List.map_congr_left fun g hg => ?_
  obtain ⟨h1, h2⟩ := h.2.2 g hg
  show (g.k, g.v, g.g) = (g.k, [], true)
  rw [h1, h2]
theorem below_grown {w w' : World} (h : Below w.heap.size w w') (row : Option Nat) : w.grownBy w' row := ⟨h.os, h.tape, h.output, h.size, fun _ hi _ => h.block _ hi⟩
theorem clash_cons {p q : RP} {l m : List RP} : clashB ((p :: l).map RP.p) ((q :: m).map RP.p) = !(p.k == q.k) := rfl
theorem Tryz.zeroMapV (w : World) : (zeroValue 46).run Tryz.prog w = .ok (.slice none 0 0) w := by kernel_rfl
theorem Tryz.infoWrite : (Tryz.prog.info? 61).map (fun i => (i.zero, i.size, i.bytes)) = some (some (.agg #[.slice none 0 0, .slice none 0 0, .bool false]), 3, 56) := by kernel_rfl
set_option maxRecDepth 100000 in
set_option maxHeartbeats 8000000 in
theorem changes_any (id keys : Int) (tn : ByteArray) (cols : List LCol) (ixs : List LIx) (xs ys : List LVal) (A B X Y : Option Addr) (ca cb cx cy : Nat) (w : World) (hA : Sl ColE w A cols) (hB : Sl IxE w B ixs) (hX : Sl AnyE w X xs) (hY : Sl AnyE w Y ys) (hn : tn.size ≤ 140737488351232) (hu : U8 w)
    (hx : ∀ x ∈ xs, x.err = 0 ∧ x.wfv) (hy : ∀ y ∈ ys, y.err = 0 ∧ y.wfv) (hca : cols.length ≤ ca ∧ ca ≤ 9223372036854775807) (hcx : xs.length ≤ cx ∧ cx ≤ 9223372036854775807) (hcy : ys.length ≤ cy ∧ cy ≤ 9223372036854775807) :
    Calls Tryz.prog 6 #[.agg #[.int .i64 id, .string tn, .slice A cols.length ca, .int .i64 keys, .slice B ixs.length cb], .slice X xs.length cx, .slice Y ys.length cy] w
      (RetChg (chgE (storE id keys tn cols ixs xs) (storE id keys tn cols ixs ys) (storL id keys tn cols ixs xs) (storL id keys tn cols ixs ys)) (storL id keys tn cols ixs xs) (storL id keys tn cols ixs ys) w) := by
  obtain ⟨i1, hi1, hy0, hy1, hy2⟩ := info_parts Tryz.infoWrite
  have law : Keyed Tryz.prog 9 := string_keyed Tryz.underlying9
  have hmm := @run_makeMap Tryz.prog
  have t1 : ∀ W, Below w.heap.size w W → Calls Tryz.prog 18 #[.agg #[.int .i64 id, .string tn, .slice A cols.length ca, .int .i64 keys, .slice B ixs.length cb], .slice X xs.length cx] W (RetEntO (storE id keys tn cols ixs xs) (storL id keys tn cols ixs xs) W) := fun W hW => stored_any id keys tn cols ixs xs A B X ca cb cx W (hA.below hW) (hB.below hW) (hX.below hW) hn (hu.below hW) hx hca hcx
  have t2 : ∀ W, Below w.heap.size w W → Calls Tryz.prog 18 #[.agg #[.int .i64 id, .string tn, .slice A cols.length ca, .int .i64 keys, .slice B ixs.length cb], .slice Y ys.length cy] W (RetEntO (storE id keys tn cols ixs ys) (storL id keys tn cols ixs ys) W) := fun W hW => stored_any id keys tn cols ixs ys A B Y ca cb cy W (hA.below hW) (hB.below hW) (hY.below hW) hn (hu.below hW) hy hca hcy
  obtain ⟨nd1, ln1⟩ := storL_nodup id keys tn cols ixs xs
  obtain ⟨nd2, ln2⟩ := storL_nodup id keys tn cols ixs ys
  generalize storE id keys tn cols ixs xs = E1 at *
  generalize storL id keys tn cols ixs xs = L1 at *
  generalize storE id keys tn cols ixs ys = E2 at *
  generalize storL id keys tn cols ixs ys = L2 at *
  have T1 := Lib.hid t1
  have T2 := Lib.hid t2
  have ND1 := Lib.hid nd1
  have ND2 := Lib.hid nd2
  clear hx hy t1 t2 nd1 nd2 hA hB hX hY
  have b0 : Below w.heap.size w (w.alloc (.cells #[.int .i64 id, .string tn, .slice A cols.length ca, .int .i64 keys, .slice B ixs.length cb] 25)) := (Below.refl _ _).alloc (Nat.le_refl _) _
  have k0 := Blk.new w 25 #[.int .i64 id, .string tn, .slice A cols.length ca, .int .i64 keys, .slice B ixs.length cb]
  go_enter Tryz.func6, Tryz.ntmps6
  go_wp2_with fail
  generalize (w.alloc (.cells #[.int .i64 id, .string tn, .slice A cols.length ca, .int .i64 keys, .slice B ixs.length cb] 25)) = W0 at *
  refine (T1.out W0 b0).mono ?_
  rintro en w1 ⟨D1, d1, rs1, rfl, o1, hm1, s1, b1⟩
  subst hm1
  rw [List.length_map] at ln1
  have b01 := b0.trans (b1.mono b0.size)
  have k1 := k0.below b1 k0.lt
  clear k0 b1
  by_cases e1 : E1 = 0
  · have c1 : (E1 != 0) = false := by rw [e1]; rfl
    have HE1 := Lib.hid e1
    clear e1
    go_wp2_with ((with_reducible refine wpList_load_blk rfl 25 (.tmp 3) rfl w.heap.size ?_ 25 _ _ k1 Tryz.underlying25 ?_ Tryz.size_TableV ?_ ?_); rfl; rfl; rfl)
    refine (T2.out w1 b01).mono ?_
    rintro en w2 ⟨D2, d2, rs2, rfl, o2, hm2, s2, b2⟩
    subst hm2
    rw [List.length_map] at ln2
    have b02 := b01.trans (b2.mono b01.size)
    have q1 : Sl RPE w2 D1 rs1 := Own.sl (Own.below o1 b2) (by simp only [RPE]; omega)
    have q2 : Sl RPE w2 D2 rs2 := Own.sl o2 (by simp only [RPE]; omega)
    have z0 := b0.size
    have z1 := b01.size
    have z2 := b2.size
    by_cases e2 : E2 = 0
    · have c2 : (E2 != 0) = false := by rw [e2]; rfl
      have HE2 : Hid (chgE E1 E2 (rs1.map RP.p) (rs2.map RP.p) = if clashB (rs1.map RP.p) (rs2.map RP.p) = true then 1 else 0) := by
        show _ = _
        unfold chgE
        rw [if_neg (fun h => h HE1.out), if_neg (fun h => h e2)]
      clear e2
      go_upto_region 7 with fail
      go_cut [57] (fun s57 wx => s57 = .bool (clashB (rs1.map RP.p) (rs2.map RP.p)) ∧ ∃ n, wx = w2.drewN n)
      case first =>
        clear HE2 T1 T2 ND1 ND2 hmm
        by_cases n1 : rs1 = []
        · have f1 : decide (0 < rs1.length) = false := by rw [n1]; rfl
          have HC : Hid (clashB (rs1.map RP.p) (rs2.map RP.p) = false) := by show _ = _; rw [n1]; rfl
          clear n1
          go_quiet (fail)
          go_wp2_with fail
          go_meet
          case rel => exact ⟨by rw [HC.out], _, rfl⟩
        · have f1 : decide (0 < rs1.length) = true := by cases rs1 with | nil => exact absurd rfl n1 | cons => rw [decide_eq_true_eq, List.length_cons]; omega
          by_cases n2 : rs2 = []
          · have f2 : decide (0 < rs2.length) = false := by rw [n2]; rfl
            have HC : Hid (clashB (rs1.map RP.p) (rs2.map RP.p) = false) := by show _ = _; rw [n2]; cases rs1 <;> rfl
            clear n1 n2
            go_quiet (fail)
            go_wp2_with fail
            go_meet
            case rel => exact ⟨by rw [HC.out], _, rfl⟩
          · have f2 : decide (0 < rs2.length) = true := by cases rs2 with | nil => exact absurd rfl n2 | cons => rw [decide_eq_true_eq, List.length_cons]; omega
            have p1 : 0 < rs1.length := of_decide_eq_true f1
            have p2 : 0 < rs2.length := of_decide_eq_true f2
            have g1 : (0 : Int) < (rs1.length : Int) := by omega
            have g2 : (0 : Int) < (rs2.length : Int) := by omega
            obtain ⟨a1, rfl, _, y1, _, ⟨hP1, _⟩, _⟩ := RPE.at_ q1 p1
            obtain ⟨a2, rfl, _, y2, _, ⟨hP2, _⟩, _⟩ := RPE.at_ q2 p2
            rw [show a1.add (0 * 2) = a1 by simp [Addr.add]] at y1
            rw [show a2.add (0 * 2) = a2 by simp [Addr.add]] at y2
            have HC : Hid (clashB (rs1.map RP.p) (rs2.map RP.p) = !(rs1[0].k == rs2[0].k)) := by
              show _ = _
              cases rs1 with
              | nil => exact absurd rfl n1
              | cons r1 l1 => cases rs2 with
                | nil => exact absurd rfl n2
                | cons r2 l2 => rfl
            have t3 : ∀ n, Calls Tryz.prog 19 #[.slice rs1[0].K rs1[0].k.length rs1[0].c, .slice rs2[0].K rs2[0].k.length rs2[0].c] (w2.drewN n) fun e w' => e = .returned (.bool (rs1[0].k == rs2[0].k)) ∧ w' = w2.drewN n := fun n => bequalR _ _ _ _ _ _ _ (hP1.drewN n) (hP2.drewN n)
            generalize rs1[0] = r1 at *
            generalize rs2[0] = r2 at *
            have T3 := Lib.hid t3
            clear t3 n1 n2 hP1 hP2
            generalize (r1.k == r2.k) = eb at *
            go_quiet ((go_at_call 19; exact Calls.quiet_of_same (T3.out _)))
            go_wp2_with fail
            go_meet
            case rel => exact ⟨by rw [HC.out], _, rfl⟩
      case rest =>
        obtain ⟨rfl, nq, rfl⟩ := hcut
        have bq : Below w2.heap.size w2 (w2.drewN nq) := below_drewN (Below.refl _ _) nq
        have b04 := b02.trans (bq.mono b02.size)
        have z4 : w2.heap.size ≤ (w2.drewN nq).heap.size := bq.size
        have r1 := q1.below bq
        have r2 : SlS RPE (w2.drewN nq) (fun b => w.heap.size ≤ b ∧ b < w2.heap.size) D2 rs2 := by
          have h1 : SlS RPE w2 (fun b => w.heap.size ≤ b) D2 rs2 := Own.slS o2 rfl (by simp only [RPE]; omega) (fun b hb => by omega) (fun b hb => by omega)
          exact (h1.mono fun b hlt hb => ⟨hb, hlt⟩).below bq
        have s4 : Sep w.heap.size (w2.drewN nq) (rs2.flatMap RP.rows) := (s2.below bq).base z1
        clear q1 q2 o1 o2 s1 s2 b2 T1 T2 k1 b0 b01 b02 bq
        generalize w2.drewN nq = w4 at *
        cases hcl : clashB (rs1.map RP.p) (rs2.map RP.p) with
        | true =>
          have HE : Hid (chgE E1 E2 (rs1.map RP.p) (rs2.map RP.p) = 1) := by show _ = _; rw [HE2.out, if_pos hcl]
          clear hcl
          go_wp2_with fail
          go_ret2
          rw [HE.out]
          exact RetChg.none_ (by decide) b04
        | false =>
          have HE : Hid (chgE E1 E2 (rs1.map RP.p) (rs2.map RP.p) = 0) := by show _ = _; rw [HE2.out, if_neg (by rw [hcl]; decide)]
          have hnk1 : (rs1.map RP.k).Nodup := by have h := ND1.out; rwa [List.map_map] at h
          have hnk2 : (rs2.map RP.k).Nodup := by have h := ND2.out; rwa [List.map_map] at h
          have NK1 := Lib.hid hnk1
          have NK2 := Lib.hid hnk2
          clear hcl HE2 ND1 ND2 hnk1 hnk2
          go_wp2_with fail
          go_loopw [13, 61] (fun _ i wr => ∃ (k : Nat) (D : DataW Value), k ≤ rs1.length ∧ i = .int .i64 (k : Int) ∧ wr.ownsMap Tryz.prog 9 rawR w4.heap.size k D ∧ MapIs D (rs1.take k) [] ∧ Below w4.heap.size w4 wr) (fun _ i _ => rs1.length - (intOf i).toNat)
          case atStart => exact ⟨0, .map [], Nat.zero_le _, rfl, World.ownsMap_made _ _ _ _, MapIs.nil_, (Below.refl _ _).alloc (Nat.le_refl _) _⟩
          case round =>
            obtain ⟨k, D, hk, rfl, hown, hM, br⟩ := hrel
            have HM := Lib.hid hM
            clear hM
            have zr := br.size
            by_cases hlt : k < rs1.length
            · have hlt' : (k : Int) < (rs1.length : Int) := by omega
              obtain ⟨ad, rfl, ha, f0, f1, ⟨hK, _⟩, _⟩ := RPE.at_ (r1.below br) hlt
              have HNT : Hid (rs1[k].k ∉ (rs1.take k).map RP.k) := by
                show _
                have h := not_take (l := rs1.map RP.k) NK1.out (k := k) (by rw [List.length_map]; exact hlt)
                rwa [List.getElem_map, ← List.map_take] at h
              have HTK : Hid (rs1.take (k + 1) = rs1.take k ++ [rs1[k]]) := List.take_succ_eq_append_getElem hlt
              generalize rs1[k] = r at *
              have dX : Below wr.heap.size wr (wr.alloc (.cells #[.slice r.K r.k.length r.c, .slice r.V r.v.length r.d] 57)) := (Below.refl _ _).alloc (Nat.le_refl _) _
              have kp := Blk.new wr 57 #[.slice r.K r.k.length r.c, .slice r.V r.v.length r.d]
              have bX := br.trans (dX.mono zr)
              have hownX := hown.alloc (.cells #[.slice r.K r.k.length r.c, .slice r.V r.v.length r.d] 57)
              have hKX := hK.below dX
              go_upto_region 13 with fail
              clear f0 f1 dX hown hK ha br
              generalize (wr.alloc (.cells #[.slice r.K r.k.length r.c, .slice r.V r.v.length r.d] 57)) = XW at *
              have y0 : XW.cell? ⟨wr.heap.size, 0, none⟩ = some (.slice r.K r.k.length r.c) := kp.cell 0
              have y1 : XW.cell? ⟨wr.heap.size, 1, none⟩ = some (.slice r.V r.v.length r.d) := kp.cell 1
              have hcv := conv_any r.K r.k r.c XW hKX
              have hkey := key_lit r.k hKX.le
              go_wp2_with (at_mapUpdate; refine wpList_mapUpdate_own _ rfl _ _ _ 58 rfl 9 46 law Tryz.underlying58 rawR w4.heap.size k D rfl hownX (by unfold maxLen; omega) _ _ (.string r.k) rfl rfl hkey (.held r.vv) [] rfl ?_; intro w9 hown9 hg9)
              go_roundw
              case rel => exact ⟨k + 1, _, by omega, by go_num, hown9, by rw [HTK.out]; exact MapIs.put HM.out HNT.out, bX.grown hg9 bX.size (fun j hj => by cases hj; exact Nat.le_refl _)⟩
              case measure => simp [intOf]; omega
            · obtain rfl : k = rs1.length := by omega
              have hM1 : MapIs D rs1 [] := by have h := HM.out; rwa [List.take_length] at h
              have HM1 := Lib.hid hM1
              have hw5 : w4.heap.size < wr.heap.size := hown.lt
              clear HM hM1 hk hlt
              generalize wr = w5 at *
              go_wp2_with fail
              have b05 := b04.trans (br.mono b04.size)
              go_loopw [14, 16, 17, 18, 74] (fun o _ _ _ i wr => ∃ (m : Nat) (D : DataW Value) (os : List RW) (Bo : Option Addr) (dO : Nat), m ≤ rs2.length ∧ i = .int .i64 (m : Int) ∧ o = .slice Bo os.length dO ∧ Own RWE 61 wr (w4.heap.size + 1) (fun b => w.heap.size ≤ b ∧ b < w4.heap.size) (.slice Bo os.length dO) os ∧ os = newR rs1 (rs2.take m) ∧ os.length ≤ m ∧
                wr.ownsMap Tryz.prog 9 rawR w4.heap.size rs1.length D ∧ MapIs D rs1 ((rs2.take m).map RP.k) ∧ Below w4.heap.size w4 wr ∧ w4.heap.size + 1 ≤ wr.heap.size) (fun _ _ _ _ i _ => rs2.length - (intOf i).toNat)
              case atStart => exact ⟨0, D, [], none, 0, Nat.zero_le _, rfl, rfl, Own.nil_ RWE _ _ _ _, rfl, Nat.le_refl _, hown, by rw [List.take_zero]; exact HM1.out, br, hw5⟩
              case round =>
                clear hown HM1
                obtain ⟨m, D, os, Bo, dO, hm, rfl, rfl, oO, hos, hol, hown, hM, bm, z1m⟩ := hrel
                have HM := Lib.hid hM
                have HOS := Lib.hid hos
                clear hM hos
                have zr := bm.size
                by_cases hlt : m < rs2.length
                · have hlt' : (m : Int) < (rs2.length : Int) := by omega
                  obtain ⟨ad, rfl, ha, f0, f1, ⟨hK, aK, _⟩, hV, aV, _⟩ := RPE.at_ (r2.below bm) hlt
                  have HNT : Hid (rs2[m].k ∉ (rs2.take m).map RP.k) := by
                    show _
                    have h := not_take (l := rs2.map RP.k) NK2.out (k := m) (by rw [List.length_map]; exact hlt)
                    rwa [List.getElem_map, ← List.map_take] at h
                  have HTK : Hid ((rs2.take (m + 1)).map RP.k = (rs2.take m).map RP.k ++ [rs2[m].k]) := by show _ = _; rw [List.take_succ_eq_append_getElem hlt, List.map_append]; rfl
                  have HTN : Hid (newR rs1 (rs2.take (m + 1)) = newR rs1 (rs2.take m) ++ (if newB (rs1.map RP.p) rs2[m].p = true then [rs2[m].toW] else [])) := newR_take rs1 hlt
                  generalize rs2[m] = r at *
                  have dX : Below wr.heap.size wr (wr.alloc (.cells #[.slice r.K r.k.length r.c, .slice r.V r.v.length r.d] 57)) := (Below.refl _ _).alloc (Nat.le_refl _) _
                  have kp := Blk.new wr 57 #[.slice r.K r.k.length r.c, .slice r.V r.v.length r.d]
                  have bX := bm.trans (dX.mono zr)
                  have hownX := hown.alloc (.cells #[.slice r.K r.k.length r.c, .slice r.V r.v.length r.d] 57)
                  have hKX := hK.below dX
                  have hVX := hV.below dX
                  have oX := Own.below oO dX
                  have zX := dX.size
                  go_upto_region 19 with fail
                  clear f0 f1 dX hown hK hV ha bm oO
                  generalize (wr.alloc (.cells #[.slice r.K r.k.length r.c, .slice r.V r.v.length r.d] 57)) = XW at *
                  have lX := kp.lt
                  have y0 : XW.cell? ⟨wr.heap.size, 0, none⟩ = some (.slice r.K r.k.length r.c) := kp.cell 0
                  have y1 : XW.cell? ⟨wr.heap.size, 1, none⟩ = some (.slice r.V r.v.length r.d) := kp.cell 1
                  have hcv := conv_any r.K r.k r.c XW hKX
                  have hkey := key_lit r.k hKX.le
                  have hzv := Tryz.zeroMapV XW
                  generalize wr.heap.size = pX at *
                  -- the append of this write, where it is one
                  have dZ : Below XW.heap.size XW (XW.alloc (.cells #[.slice r.K r.k.length r.c, .slice r.V r.v.length r.d, .bool false] 61)) := (Below.refl _ _).alloc (Nat.le_refl _) _
                  have bZ := bX.trans (dZ.mono bX.size)
                  have oZ := Own.below oX dZ
                  have kpZ := kp.below dZ lX
                  have hownZ := hownX.alloc (.cells #[.slice r.K r.k.length r.c, .slice r.V r.v.length r.d, .bool false] 61)
                  have hKZ := hKX.below dZ
                  have hVZ := hVX.below dZ
                  have zZ := dZ.size
                  have aK2 : At (fun b => (w.heap.size ≤ b ∧ b < w4.heap.size) ∧ (Value.slice Bo os.length dO).ownBlock ≠ some b) r.K r.k.length := fun ad e hn => by
                    have h1 := aK ad e hn
                    exact ⟨⟨h1.1, by omega⟩, fun e2 => by have := (Own.lt oX _ e2).1; omega⟩
                  have aV2 : At (fun b => (w.heap.size ≤ b ∧ b < w4.heap.size) ∧ (Value.slice Bo os.length dO).ownBlock ≠ some b) r.V r.v.length := fun ad e hn => by
                    have h1 := aV ad e hn
                    exact ⟨⟨h1.1, by omega⟩, fun e2 => by have := (Own.lt oX _ e2).1; omega⟩
                  have hnb : ∀ g, (Value.slice Bo os.length dO).ownBlock = some g → w4.heap.size + 1 ≤ g ∧ g < XW.heap.size := fun g e => Own.lt oX g e
                  have HNB := Lib.hid hnb
                  clear hnb
                  rcases HM.out.look HNT.out with ⟨q, hqm, hqk, hqv, hqh⟩ | ⟨hqn, hqv, hqh⟩
                  · obtain ⟨vsq, hvq, -, hVq, -⟩ := (r1.below bX).all q hqm
                    have hNB := newB_found NK1.out hqm hqk
                    have HB0 := Lib.hid hNB
                    clear hNB hvq hqk hqm
                    go_wp2_with (at_lookup; refine wpList_lookup_raw _ rfl _ _ 58 rfl 9 46 law Tryz.underlying58 hzv w4.heap.size rs1.length D rfl hownX _ (.string r.k) rfl hkey q.vv true hqv hqh ?_; unfold RP.vv)
                    refine (bequalR q.V r.V q.v r.v q.d r.d XW hVq hVX).mono ?_
                    rintro en wx ⟨rfl, hwx⟩
                    obtain rfl : XW = wx := hwx.symm
                    cases hb : (q.v == r.v) with
                    | true =>
                      have HB : Hid (newB (rs1.map RP.p) r.p = false) := by show _ = _; rw [HB0.out, hb]; rfl
                      clear hb
                      go_wp2_with (at_delete; refine wpList_delete_own _ rfl _ _ 58 9 rfl 46 law Tryz.underlying58 rawR w4.heap.size rs1.length D rfl hownX _ (.string r.k) rfl hkey ?_; intro w9 hownD hturn; have hg9 := hturn.grown; have z9 := hg9.size)
                      go_roundw
                      case rel => exact ⟨m + 1, _, os, Bo, dO, by omega, by go_num, rfl, Own.grown oX hg9 (fun b e => by cases e; exact ⟨fun e2 => by have := (HNB.out _ e2).1; omega, fun h => by omega⟩), by rw [HTN.out, HOS.out, if_neg (by rw [HB.out]; decide), List.append_nil], by omega, hownD, by rw [HTK.out]; exact MapIs.del HM.out r.k, bX.grown hg9 bX.size (fun j hj => by cases hj; exact Nat.le_refl _), by omega⟩
                      case measure => simp [intOf]; omega
                    | false =>
                      have HB : Hid (newB (rs1.map RP.p) r.p = true) := by show _ = _; rw [HB0.out, hb]; rfl
                      clear hb
                      go_wp2_with (first
                        | (at_builtin; refine wpList_appE RWE (w4.heap.size + 1) w4 _ rfl (.tmp 95) (.tmp 101) 61 31 rfl i1 _ Tryz.underlying31 hi1 hy0 hy1 hy2 rfl _ Bo os dO rfl oZ _ r.toW.enc r.toW 1 rfl _ (Reads.newN XW r.toW.enc 61) ⟨rfl, ⟨hKZ, aK2⟩, hVZ, aV2⟩ (by simp only [RWE]; omega) (by simp only [maxLen]; omega) bZ (Nat.le_succ _) (by omega) ?_; intro B8 d8 os8 w8 H8 o8 b8 g8 t8; have z8 := g8.size; have hn8 : (Value.slice Bo os.length dO).ownBlock ≠ some pX := (fun e => by obtain ⟨vsO, hoO, _⟩ := oZ; exact own_blk_ne hoO kpZ (by decide) e); have kp8 := kpZ.grown g8 (Ne.symm hn8); have y8 : w8.cell? ⟨pX, 0, none⟩ = some (.slice r.K r.k.length r.c) := kp8.cell 0; have hK8 : Bs w8 r.K r.k := hKZ.sameS (S := fun b => (Value.slice Bo os.length dO).ownBlock ≠ some b) (fun ad e hn => (aK2 ad e hn).2) (.of_grown g8 (fun _ hb e => hb e)); have hcv8 := conv_any r.K r.k r.c w8 hK8; have hown8 := hownZ.kept g8 (fun e => by have := (HNB.out _ e.symm).1; omega))
                        | (at_delete; refine wpList_delete_own _ rfl _ _ 58 9 rfl 46 law Tryz.underlying58 rawR w4.heap.size rs1.length D rfl hown8 _ (.string r.k) rfl hkey ?_; intro w9 hownD hturn; have hg9 := hturn.grown; have z9 := hg9.size))
                      go_roundw
                      case rel => exact ⟨m + 1, _, os8, B8, d8, by omega, by go_num, rfl, Own.grown o8 hg9 (fun b e => by cases e; exact ⟨fun e2 => by have := (Own.lt o8 _ e2).1; omega, fun h => by omega⟩), by rw [HTN.out, H8.out, HOS.out, if_pos HB.out], by rw [H8.out, List.length_append, List.length_singleton]; omega, hownD, by rw [HTK.out]; exact MapIs.del HM.out r.k, b8.grown hg9 b8.size (fun j hj => by cases hj; exact Nat.le_refl _), by omega⟩
                      case measure => simp [intOf]; omega
                  · have HB : Hid (newB (rs1.map RP.p) r.p = true) := newB_none hqn
                    clear hqn
                    go_upto_region 20 with (at_lookup; refine wpList_lookup_raw _ rfl _ _ 58 rfl 9 46 law Tryz.underlying58 hzv w4.heap.size rs1.length D rfl hownX _ (.string r.k) rfl hkey (.slice none 0 0) false hqv hqh ?_)
                    go_wp2_with (first
                      | (at_builtin; refine wpList_appE RWE (w4.heap.size + 1) w4 _ rfl (.tmp 95) (.tmp 101) 61 31 rfl i1 _ Tryz.underlying31 hi1 hy0 hy1 hy2 rfl _ Bo os dO rfl oZ _ r.toW.enc r.toW 1 rfl _ (Reads.newN XW r.toW.enc 61) ⟨rfl, ⟨hKZ, aK2⟩, hVZ, aV2⟩ (by simp only [RWE]; omega) (by simp only [maxLen]; omega) bZ (Nat.le_succ _) (by omega) ?_; intro B8 d8 os8 w8 H8 o8 b8 g8 t8; have z8 := g8.size; have hn8 : (Value.slice Bo os.length dO).ownBlock ≠ some pX := (fun e => by obtain ⟨vsO, hoO, _⟩ := oZ; exact own_blk_ne hoO kpZ (by decide) e); have kp8 := kpZ.grown g8 (Ne.symm hn8); have y8 : w8.cell? ⟨pX, 0, none⟩ = some (.slice r.K r.k.length r.c) := kp8.cell 0; have hK8 : Bs w8 r.K r.k := hKZ.sameS (S := fun b => (Value.slice Bo os.length dO).ownBlock ≠ some b) (fun ad e hn => (aK2 ad e hn).2) (.of_grown g8 (fun _ hb e => hb e)); have hcv8 := conv_any r.K r.k r.c w8 hK8; have hown8 := hownZ.kept g8 (fun e => by have := (HNB.out _ e.symm).1; omega))
                      | (at_delete; refine wpList_delete_own _ rfl _ _ 58 9 rfl 46 law Tryz.underlying58 rawR w4.heap.size rs1.length D rfl hown8 _ (.string r.k) rfl hkey ?_; intro w9 hownD hturn; have hg9 := hturn.grown; have z9 := hg9.size))
                    go_roundw
                    case rel => exact ⟨m + 1, _, os8, B8, d8, by omega, by go_num, rfl, Own.grown o8 hg9 (fun b e => by cases e; exact ⟨fun e2 => by have := (Own.lt o8 _ e2).1; omega, fun h => by omega⟩), by rw [HTN.out, H8.out, HOS.out, if_pos HB.out], by rw [H8.out, List.length_append, List.length_singleton]; omega, hownD, by rw [HTK.out]; exact MapIs.del HM.out r.k, b8.grown hg9 b8.size (fun j hj => by cases hj; exact Nat.le_refl _), by omega⟩
                    case measure => simp [intOf]; omega
                · obtain rfl : m = rs2.length := by omega
                  have hM2 : MapIs D rs1 (rs2.map RP.k) := by have h := HM.out; rwa [List.take_length] at h
                  have hOS2 : os = newR rs1 rs2 := by have h := HOS.out; rwa [List.take_length] at h
                  have HM2 := Lib.hid hM2
                  have HOS2 := Lib.hid hOS2
                  clear HM HOS hM2 hOS2 hm hlt br b05
                  generalize wr = w6 at *
                  have hsz := hown.size_le
                  go_wp2_with (first
                    | (at_range; refine wpList_range_own _ rfl _ 58 rfl 9 46 law Tryz.underlying58 rawR w4.heap.size rs1.length D rfl hown ?_; intro w7 hrg7 hg7 hs7)
                    | go_in)
                  go_frame
                  have b7 : Below w4.heap.size w4 w7 := bm.grown hg7 bm.size (fun j hj => by cases hj)
                  have l7 : w6.heap.size < w7.heap.size := by omega
                  have o7 : Own RWE 61 w7 (w4.heap.size + 1) (fun b => w.heap.size ≤ b ∧ b < w7.heap.size ∧ b ≠ w4.heap.size ∧ b ≠ w6.heap.size) (.slice Bo os.length dO) os := Own.mono (Own.grown oO hg7 (fun b e => by cases e)) (fun b hlt _ hs => ⟨hs.1, hlt, by omega, by omega⟩)
                  have invK : ∀ key kl, keyOf Tryz.prog 9 key = some kl → ∃ x, key = encStr x := fun key kl hk => by obtain ⟨x, hx, _⟩ := Maps.keyOf_str Tryz.underlying9 hk; exact ⟨x, hx⟩
                  have invV : ∀ v y, rawR v = some y → ∃ c, v = (_root_.id : Value → Value) c := fun v y _ => ⟨v, rfl⟩
                  have IK := Lib.hid invK
                  have IV := Lib.hid invV
                  clear hs7 invK invV bm oO hg7 hown
                  go_loopw [14, 19] (fun o _ wr => ∃ (left : Lit → Bool) (cnt : Nat) (us gs : List RW) (Bo : Option Addr) (dO : Nat), wr.ranges Tryz.prog 9 rawR w4.heap.size w6.heap.size rs1.length D left cnt ∧ o = .slice Bo us.length dO ∧
                    Own RWE 61 wr (w4.heap.size + 1) (fun b => w.heap.size ≤ b ∧ b < wr.heap.size ∧ b ≠ w4.heap.size ∧ b ≠ w6.heap.size) (.slice Bo us.length dO) us ∧ us = os ++ gs ∧ us.length + cnt ≤ 10 ∧ GoneIs D left gs ∧ Below w4.heap.size w4 wr ∧ w6.heap.size < wr.heap.size) (fun _ _ wr => wr.rangeLeft w4.heap.size w6.heap.size)
                  case atStart => exact ⟨_, _, os, [], Bo, dO, hrg7, rfl, o7, (List.append_nil _).symm, by omega, GoneIs.nil_ D, b7, l7⟩
                  case round =>
                    clear hrg7 o7 b7 l7
                    obtain ⟨left, cnt, us, gs, Bu, dU, hrg, rfl, oU, hus, hcn, hgn, bm, l7⟩ := hrel
                    have HUS := Lib.hid hus
                    have HGN := Lib.hid hgn
                    clear hus hgn
                    have zr := bm.size
                    go_wp2_with (first
                      | (at_next; refine wpList_next_ranges _ rfl _ rfl 9 law rawR encStr (_root_.id : Value → Value) IK.out IV.out w4.heap.size w6.heap.size rs1.length D left cnt rfl hrg ?_ ?_)
                      | go_in)
                    · intro _ hl0
                      have HL0 := Lib.hid hl0
                      clear hl0 hrg
                      have T := Lib.hid (sort_own us Bu dU _ _ wr oU (by omega))
                      go_wp2_with fail
                      refine T.out.mono ?_
                      rintro en w9 ⟨rfl, vs, hp, hpl, hpw, oY, hg9⟩
                      clear T
                      have z9 := hg9.size
                      have hub := fun g e => (Own.lt oU g e).1
                      have b9 : Below w4.heap.size w4 w9 := bm.grown hg9 bm.size (fun j hj => by have := hub j hj; omega)
                      have b09 := b04.trans (b9.mono b04.size)
                      have HP := Lib.hid hp
                      have HPW := Lib.hid hpw
                      clear hp hpw
                      go_wp2_with fail
                      go_ret2
                      rw [HE.out, ← hpl]
                      have hm1 : (rs1.map RP.p).map Prod.fst = rs1.map RP.k := by rw [List.map_map]; rfl
                      have hm2 : (rs2.map RP.p).map Prod.fst = rs2.map RP.k := by rw [List.map_map]; rfl
                      refine ⟨Bu, dU, vs, rfl, Own.base (Own.mono oY (fun b hb _ hs => ⟨hs.1, hb⟩)) (by omega), fun _ => ⟨gs.map RW.k, HGN.out.2.1, fun k => ?_, ?_, ?_⟩, fun h => absurd rfl h, fun h => ?_, b09⟩
                      · rw [HGN.out.1 k, HL0.out, HM2.out.2.1 k, hm1, hm2]
                        simp
                      · refine (HP.out.map RW.w).trans ?_
                        rw [HUS.out, List.map_append, HGN.out.w, HOS2.out, newR_w]
                      · rw [List.pairwise_map]
                        refine HPW.out.imp fun {a b} h => ?_
                        show ¬ cmpL b.k a.k < 0
                        omega
                      · have hr1 : rs1 = [] := List.map_eq_nil_iff.1 h
                        have hgs : gs = [] := by
                          cases gs with
                          | nil => rfl
                          | cons g gl =>
                            have h1 := ((HGN.out.1 g.k).1 (by simp)).1
                            have h2 := ((HM2.out.2.1 g.k).1 h1).1
                            rw [hr1] at h2
                            cases h2
                        have hs9 := (s4.below b9).sub (newR_rows rs1 rs2)
                        refine hs9.perm ?_
                        have hp2 : vs.Perm (newR rs1 rs2) := by
                          have h3 := HP.out
                          rw [HUS.out, hgs, List.append_nil, HOS2.out] at h3
                          exact h3
                        exact (hp2.flatMap_right RW.rows).symm
                    · intro x c kl yd yp w8 cnt8 hkey hlk hv hat hrg8 hlt8 hg8 hs8 hen
                      obtain ⟨x', ex, rfl, hxl⟩ := Maps.keyOf_str Tryz.underlying9 hkey
                      obtain rfl : x = x' := encStr_inj ex
                      have hen2 : (Instr.entry (.pointer (some ⟨w6.heap.size, 0, none⟩))).run Tryz.prog w8 = .ok (.tuple #[.string ⟨x.toArray⟩, c]) w8 := hen
                      have hhas : has D (.string x) = true := has_true_of_atKey hat
                      have hxb : x.length ≤ 140737488355328 := by
                        obtain ⟨q, hq, hqk⟩ := List.mem_map.1 ((HM2.out.2.1 x).1 hhas).1
                        obtain ⟨_, _, ⟨hb, _⟩, _⟩ := r1.all q hq
                        rw [← hqk]
                        exact hb.le
                      have hlk2 : left (.string x) = true := hlk
                      have b8 : Below w4.heap.size w4 w8 := bm.grown hg8 bm.size (fun j hj => by cases hj; omega)
                      have oU2 := oU
                      obtain ⟨vsU, hoU, _⟩ := oU2
                      have hni : some w6.heap.size ≠ (Value.slice Bu us.length dU).ownBlock := row_ne_iter hoU hrg
                      have o8 : Own RWE 61 w8 (w4.heap.size + 1) (fun b => w.heap.size ≤ b ∧ b < wr.heap.size ∧ b ≠ w4.heap.size ∧ b ≠ w6.heap.size) (.slice Bu us.length dU) us := Own.grown oU hg8 (fun b e => by cases e; exact ⟨fun e2 => hni e2.symm, fun h => h.2.2.2 rfl⟩)
                      obtain ⟨ck, W8, hcv, hbs, hbel, hws⟩ := str_conv2 x hxb w8
                      have l8a : wr.heap.size ≤ w8.heap.size := by omega
                      have l8b : w8.heap.size ≤ wr.heap.size := by omega
                      have hws1 : w8.heap.size < W8.heap.size := by omega
                      have HLQ := Lib.hid hrg.left_eq
                      clear hs8 hws hen hkey hv hat ex hg8 hrg hoU bm hlk oU
                      have bW := b8.trans (hbel.mono b8.size)
                      have oW := Own.below o8 hbel
                      have hrgW := hrg8.kept (below_grown hbel none) (by simp) (by simp)
                      have hlo := fun g e => Own.lt o8 g e
                      have HLO := Lib.hid hlo
                      clear hlo
                      obtain ⟨y, hyd⟩ : ∃ y : RW, y = ⟨some ⟨w8.heap.size, 0, none⟩, x, ck, none, [], 0, true⟩ := ⟨_, rfl⟩
                      have dZ : Below W8.heap.size W8 (W8.alloc (.cells #[.slice (some ⟨w8.heap.size, 0, none⟩) x.length ck, .slice none 0 0, .bool true] 61)) := (Below.refl _ _).alloc (Nat.le_refl _) _
                      have bZ := bW.trans (dZ.mono bW.size)
                      have oZ : Own RWE 61 (W8.alloc (.cells #[.slice (some ⟨w8.heap.size, 0, none⟩) x.length ck, .slice none 0 0, .bool true] 61)) (w4.heap.size + 1) (fun b => w.heap.size ≤ b ∧ b < W8.heap.size ∧ b ≠ w4.heap.size ∧ b ≠ w6.heap.size) (.slice Bu us.length dU) us := Own.mono (Own.below oW dZ) (fun b _ _ hs => ⟨hs.1, by omega, hs.2.2⟩)
                      have hrgZ := hrgW.alloc (.cells #[.slice (some ⟨w8.heap.size, 0, none⟩) x.length ck, .slice none 0 0, .bool true] 61)
                      have hbZ := hbs.below dZ
                      have hrep : RWE.rep (W8.alloc (.cells #[.slice (some ⟨w8.heap.size, 0, none⟩) x.length ck, .slice none 0 0, .bool true] 61)) (fun b => (w.heap.size ≤ b ∧ b < W8.heap.size ∧ b ≠ w4.heap.size ∧ b ≠ w6.heap.size) ∧ (Value.slice Bu us.length dU).ownBlock ≠ some b) [.slice (some ⟨w8.heap.size, 0, none⟩) x.length ck, .slice none 0 0, .bool true] y := by
                        rw [hyd]
                        refine ⟨rfl, ⟨hbZ, fun ad e hn => ?_⟩, Bs.nil_ _ _, fun ad e hn => by cases e⟩
                        have h1 : w8.heap.size = ad.block := by injection e with e; rw [← e]
                        refine ⟨⟨by omega, by omega, by omega, by omega⟩, fun e2 => ?_⟩
                        have := (HLO.out _ e2).2
                        omega
                      have zZ := dZ.size
                      have hyk : y.k = x := by rw [hyd]
                      have hyv : y.v = [] := by rw [hyd]
                      have hyg : y.g = true := by rw [hyd]
                      have HYK := Lib.hid hyk
                      have HGN2 : Hid (GoneIs D (fun z => left z && !z.sameKey (.string x)) (gs ++ [y])) := by
                        show _
                        have h := HGN.out.snoc (y := y) (by rw [hyk]; exact hlk2) (by rw [hyk]; exact hhas) hyv hyg
                        rwa [hyk] at h
                      clear hyd hyk hyv hyg hbs hbZ hlk2 hhas o8 oW hrg8 hrgW hbel HGN
                      go_wp2_with (first
                        | (at_builtin; refine wpList_appE RWE (w4.heap.size + 1) w4 _ rfl (.tmp 114) (.tmp 118) 61 31 rfl i1 _ Tryz.underlying31 hi1 hy0 hy1 hy2 rfl _ Bu us dU rfl oZ _ [.slice (some ⟨w8.heap.size, 0, none⟩) x.length ck, .slice none 0 0, .bool true] y 1 rfl _ (Reads.newN W8 [.slice (some ⟨w8.heap.size, 0, none⟩) x.length ck, .slice none 0 0, .bool true] 61) hrep (by simp only [RWE]; omega) (by simp only [maxLen]; omega) bZ (Nat.le_succ _) (by omega) ?_; intro B9 d9 us9 w9 H9 o9 b9 g9 t9; have z9 := g9.size; have hni9 : some w6.heap.size ≠ (Value.slice Bu us.length dU).ownBlock := (fun e => hni e); have hrg9 := hrgZ.kept g9 (fun e => by have := (HLO.out _ e.symm).1; omega) hni9)
                        | go_in)
                      go_roundw
                      case rel => exact ⟨_, cnt8, us9, gs ++ [y], B9, d9, hrg9, rfl, Own.mono o9 (fun b hb _ hs => ⟨hs.1, hb, hs.2.2⟩), by rw [H9.out, HUS.out, List.append_assoc], by rw [H9.out, List.length_append, List.length_singleton]; omega, HGN2.out, b9, by omega⟩
                      case measure => rw [hrg9.left_eq, HLQ.out]; exact hlt8
    · have c2 : (E2 != 0) = true := by rw [bne_iff_ne]; exact e2
      have HE2 : Hid (chgE E1 E2 (rs1.map RP.p) (rs2.map RP.p) = E2) := by show _ = _; unfold chgE; rw [if_neg (fun h => h HE1.out), if_pos e2]
      have HN := Lib.hid e2
      clear e2
      go_wp2_with fail
      go_ret2
      rw [HE2.out]
      exact RetChg.none_ HN.out b02
  · have c1 : (E1 != 0) = true := by rw [bne_iff_ne]; exact e1
    have HE1 : Hid (chgE E1 E2 (rs1.map RP.p) L2 = E1) := if_pos e1
    have HN := Lib.hid e1
    clear e1
    go_wp2_with fail
    go_ret2
    rw [HE1.out]
    exact RetChg.none_ HN.out b01
end Go.Proofs.YtfededjcadmpbaaGreatDoor
