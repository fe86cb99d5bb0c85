/- A row of acts in memory; the law's small. (Printed by wip/gen_acts.py.) -/
import Derived.Test.YtbldfgpnghoigaaWalT
import Derived.Test.YtbldfgpnghoigaaAppK
import Derived.Test.YtbldfgpnghoigaaDskC
namespace Go.Proofs.Ytbldfgpnghoigaa
open Go.RowKit

structure LActW where
  kind : Int
  recs : List (List UInt8)
  n : Nat
  arm : Int
  keeps : List Int
structure AWk (w : World) (S : Nat → Prop) (D : Option Addr) (c : Nat) (K : Option Addr) (kc : Nat) (a : LActW) : Prop where
  recs : SlS BsE w S D a.recs ∧ a.recs.length ≤ c ∧ c ≤ 9223372036854775807
  keeps : SlS IntE w S K a.keeps ∧ a.keeps.length ≤ kc ∧ kc ≤ 9223372036854775807
  nlt : a.n < 18446744073709551616
  armlo : -9223372036854775808 ≤ a.arm
  armhi : a.arm ≤ 9223372036854775807
def awC (D : Option Addr) (c : Nat) (K : Option Addr) (kc : Nat) (a : LActW) : List Value := [.int .i64 a.kind, .slice D a.recs.length c, .int .u64 (a.n : Int), .int .i64 a.arm, .slice K a.keeps.length kc]
def AWE : ER LActW where
  size := 5
  pos := by omega
  bytes := 72
  bpos := by omega
  rep w S vs a := ∃ D c K kc, vs = awC D c K kc a ∧ AWk w S D c K kc a
  len := by rintro w S vs a ⟨D, c, K, kc, rfl, _⟩; rfl
  one := by rintro w S vs a ⟨D, c, K, kc, rfl, _⟩ v hv; simp [awC] at hv; rcases hv with rfl | rfl | rfl | rfl | rfl <;> rfl
  keep := by rintro w w' S vs a ⟨D, c, K, kc, rfl, h⟩ hs; exact ⟨D, c, K, kc, rfl, ⟨⟨h.recs.1.same hs, h.recs.2⟩, ⟨h.keeps.1.same hs, h.keeps.2⟩, h.nlt, h.armlo, h.armhi⟩⟩
  mono := by rintro w S S' vs a ⟨D, c, K, kc, rfl, h⟩ hs; exact ⟨D, c, K, kc, rfl, ⟨⟨h.recs.1.mono hs, h.recs.2⟩, ⟨h.keeps.1.mono hs, h.keeps.2⟩, h.nlt, h.armlo, h.armhi⟩⟩
theorem AWE.at_ {w : World} {A : Option Addr} {S : Nat → Prop} {l : List LActW} (h : SlS AWE w S A l) {k : Nat} (hk : k < l.length) :
    ∃ ad D c K kc, A = some ad ∧ ad.block < w.heap.size ∧ w.cell? (ad.add (k * 5)) = some (.int .i64 l[k].kind) ∧ w.cell? ⟨(ad.add (k * 5)).block, (ad.add (k * 5)).off + 1, none⟩ = some (.slice D l[k].recs.length c) ∧
      w.cell? ⟨(ad.add (k * 5)).block, (ad.add (k * 5)).off + 2, none⟩ = some (.int .u64 (l[k].n : Int)) ∧ w.cell? ⟨(ad.add (k * 5)).block, (ad.add (k * 5)).off + 3, none⟩ = some (.int .i64 l[k].arm) ∧
      w.cell? ⟨(ad.add (k * 5)).block, (ad.add (k * 5)).off + 4, none⟩ = some (.slice K l[k].keeps.length kc) ∧ AWk w S D c K kc l[k] := by
  obtain ⟨ad, vs, rfl, hb, ⟨D, c, K, kc, rfl, h1⟩, h4, _, h5⟩ := SlS.at_ h hk
  exact ⟨ad, D, c, K, kc, rfl, hb, h4 _ rfl, h5 1 _ (by decide) rfl, h5 2 _ (by decide) rfl, h5 3 _ (by decide) rfl, h5 4 _ (by decide) rfl, h1⟩
def shortA (a : LActW) : LActW := { a with recs := shortW a.recs }
def smallW (l : List LActW) : List LActW := (l.take 30).map shortA
theorem RowsOk.slS {w : World} {S : Nat → Prop} {b : Nat} {A : Option Addr} {c : Nat} {rs : List R3} (h : RowsOk w S rs) (hR : RowsIs b w A c rs) (hl : rs.length ≤ 1048576) : SlS BsE w (fun x => S x ∨ b ≤ x) A (rs.map (·.2.1)) := by
  refine ⟨by rw [List.length_map]; simp only [BsE]; omega, rs.map R3.v, ?_, ?_, R3.flat rs fun r hr => ⟨(h r hr).1, (h r hr).2.1.mono' (fun _ h => .inl h), (h r hr).2.2⟩⟩
  · rw [List.length_map]
    exact Reads.of_own hR
  · rw [List.length_map]
    exact (own_at hR).mono' fun _ h => .inr h.1
theorem ms30 {k : Nat} (h : k < 30) : 30 - (intOf (Value.int .i64 ((k : Int) + 1))).toNat < 30 - (intOf (Value.int .i64 (k : Int))).toNat := by
  simp only [intOf]
  omega
theorem Try.infoAct : (Try.prog.info? 59).map (fun i => (i.zero, i.size, i.bytes)) = some (some (.agg #[.int .i64 0, .slice none 0 0, .int .u64 0, .int .i64 0, .slice none 0 0]), 5, 72) := by kernel_rfl
theorem Try.size_Act : (Try.prog.info? 59).map (·.size) = some 5 := by kernel_rfl
/-- what small answers -/
def RetSmall (S : Nat → Prop) (l : List LActW) (w : World) (en : Ending) (w' : World) : Prop :=
  ∃ A c, en = .returned (.slice A l.length c) ∧ SlS AWE w' (fun x => S x ∨ w.heap.size ≤ x) A l ∧ Below w.heap.size w w'
set_option maxRecDepth 100000 in
set_option maxHeartbeats 4000000 in
theorem small_any (A : Option Addr) (ls : List LActW) (c : Nat) (S : Nat → Prop) (w : World) (h : SlS AWE w S A ls) :
    Calls Try.prog 25 #[.slice A ls.length c] w (RetSmall S (smallW ls) w) := by
  obtain ⟨i0, hi0, hz0, hz1, hz2⟩ := info_parts Try.infoAct
  have hll := h.le
  go_enter Try.func25, Try.ntmps25
  go_wp2_with fail
  go_loopw [3, 4, 5] (fun v3 v4 _ wr => ∃ (k : Nat) (A' : Option Addr) (c' : Nat) (xs : List LActW), k ≤ ls.length ∧ k ≤ 30 ∧ v3 = .slice A' xs.length c' ∧ v4 = .int .i64 (k : Int) ∧ Hid (xs = (ls.take k).map shortA) ∧ Own AWE 59 wr w.heap.size (fun x => S x ∨ w.heap.size ≤ x) (.slice A' xs.length c') xs ∧ Below w.heap.size w wr) (fun _ v4 _ _ => 30 - (intOf v4).toNat)
  case atStart => exact ⟨0, none, 0, [], Nat.zero_le _, by decide, rfl, rfl, rfl, Own.nil_ _ _ _ _ _, Below.refl _ _⟩
  case round =>
    obtain ⟨k, A', c', xs, hk, hk30, rfl, rfl, HX, hO, br⟩ := hrel
    have hvw : wrap64 ((k : Int) + 1) = ((k + 1 : Nat) : Int) := by unfold wrap64; omega
    have HVW := Lib.hid hvw
    clear hvw
    have hxl : xs.length ≤ 30 := by rw [HX.out, List.length_map, List.length_take]; omega
    have HXL := Lib.hid hxl
    clear hxl
    by_cases hlt : k < ls.length
    · by_cases h30 : k < 30
      · have h30i : (k : Int) < 30 := by omega
        have hlti : (k : Int) < (ls.length : Int) := by omega
        obtain ⟨ad, D, cD, K, kc, rfl, hab, y0, y1, y2, y3, y4, hW⟩ := AWE.at_ ((SlS.mono (S' := fun x => S x ∧ x < w.heap.size) h (fun b h1 h2 => ⟨h2, h1⟩)).below br) hlt
        have HT : Hid ((ls.take (k + 1)).map shortA = (ls.take k).map shortA ++ [shortA ls[k]]) := by show _ = _; rw [List.take_succ_eq_append_getElem hlt, List.map_append]; rfl
        generalize ls[k] = x at *
        have HWk := Lib.hid hW
        have dz : Below wr.heap.size wr (wr.alloc (.cells #[.int .i64 x.kind, .slice D x.recs.length cD, .int .u64 (x.n : Int), .int .i64 x.arm, .slice K x.keeps.length kc] 59)) := (Below.refl _ _).alloc (Nat.le_refl _) _
        have kX := Blk.new wr 59 #[.int .i64 x.kind, .slice D x.recs.length cD, .int .u64 (x.n : Int), .int .i64 x.arm, .slice K x.keeps.length kc]
        have hOx := (hO.mono (S' := fun b => (S b ∨ w.heap.size ≤ b) ∧ b < wr.heap.size) (fun b h1 _ h2 => ⟨h2, h1⟩)).below dz
        have HOL : Hid (∀ g, (Value.slice A' xs.length c').ownBlock = some g → g < wr.heap.size) := fun g e => (hO.lt g e).2
        have T := short_any D x.recs cD (fun x => S x ∧ x < w.heap.size) _ (hW.recs.1.below dz)
        have bz := below_step' br dz
        go_upto_region 6 with fail
        generalize (wr.alloc (.cells #[.int .i64 x.kind, .slice D x.recs.length cD, .int .u64 (x.n : Int), .int .i64 x.arm, .slice K x.keeps.length kc] 59)) = w1 at *
        clear y0 y1 y2 y3 y4 hW hO
        have y1 : w1.cell? ⟨wr.heap.size, 1, none⟩ = some (.slice D x.recs.length cD) := kX.cell 1
        go_wp2_with fail
        refine T.mono ?_
        clear T y1
        rintro en w2 ⟨A2, c2, rs2, rfl, hR2, hm2, hO2, b2⟩
        have k2 := kX.below b2 kX.lt
        have y1 : w2.cell? ⟨wr.heap.size, 1, none⟩ = some (.slice D x.recs.length cD) := k2.cell 1
        have f1 : w2.frozen? ⟨wr.heap.size, 1, none⟩ = false := k2.frozen 1
        have k3 : Blk (w2.setCell ⟨wr.heap.size, 1, none⟩ (.slice A2 rs2.length c2)) wr.heap.size 59 #[.int .i64 x.kind, .slice A2 rs2.length c2, .int .u64 (x.n : Int), .int .i64 x.arm, .slice K x.keeps.length kc] := k2.set_ 1 _
        have g3 : w2.grownBy (w2.setCell ⟨wr.heap.size, 1, none⟩ (.slice A2 rs2.length c2)) (some wr.heap.size) := only_setCell (only_of_below (Below.refl _ _) _) (.inl rfl) _
        have zw := br.size
        have z2 := b2.size
        have z1 := dz.size
        have hlt1 : wr.heap.size < w1.heap.size := kX.lt
        have hsl := short_len x.recs
        have hrl : rs2.length ≤ 12 := by have h := congrArg List.length hm2; rw [List.length_map] at h; rw [h]; exact hsl.1
        have hRec : SlS BsE w2 (fun y => (S y ∧ y < w.heap.size) ∨ w1.heap.size ≤ y) A2 (shortW x.recs) := by
          have h := hO2.slS hR2 (Nat.le_trans hrl (by decide))
          rwa [hm2] at h
        have hcp := own_caps hR2
        have hlen : rs2.length = (shortW x.recs).length := by rw [← hm2, List.length_map]
        have hO3 := (hOx.below b2).setCell (p := ⟨wr.heap.size, 1, none⟩) (fun e => by have h1 := (hOx.lt _ e).2; have h2 := HOL.out _ e; have h3 : wr.heap.size < wr.heap.size := h2; omega) (fun h => by have h3 : wr.heap.size < wr.heap.size := h.2; omega) (.slice A2 rs2.length c2)
        have b03 : Below w.heap.size w (w2.setCell ⟨wr.heap.size, 1, none⟩ (.slice A2 rs2.length c2)) := (below_step' bz b2).grown g3 (below_step' bz b2).size (fun y e => by have := Option.some.inj e; omega)
        have hK : AWk (w2.setCell ⟨wr.heap.size, 1, none⟩ (.slice A2 rs2.length c2)) (fun y => (S y ∧ y < w.heap.size) ∨ w1.heap.size ≤ y) A2 c2 K kc (shortA x) := by
          have hn : ∀ y, ((S y ∧ y < w.heap.size) ∨ w1.heap.size ≤ y) → some wr.heap.size ≠ some y := fun y h e => by have := Option.some.inj e; omega
          refine ⟨⟨hRec.same (.of_grown g3 hn), by show (shortW x.recs).length ≤ _; rw [← hlen]; exact hcp.1, hcp.2⟩, ⟨((HWk.out.keeps.1.below (dz.trans (b2.mono dz.size))).mono (fun y _ h => .inl h)).same (.of_grown g3 hn), HWk.out.keeps.2⟩, HWk.out.nlt, HWk.out.armlo, HWk.out.armhi⟩
        clear hRec hOx hR2 hO2 hm2 k2 kX b2 bz HWk
        have HKX : Hid (∀ (W : World), Below (w2.setCell ⟨wr.heap.size, 1, none⟩ (.slice A2 rs2.length c2)).heap.size (w2.setCell ⟨wr.heap.size, 1, none⟩ (.slice A2 rs2.length c2)) W → ∀ v : Value, (∀ g, v.ownBlock = some g → w.heap.size ≤ g ∧ g < wr.heap.size) → AWE.flat W (fun b => (S b ∨ w.heap.size ≤ b) ∧ v.ownBlock ≠ some b) [.int .i64 x.kind, .slice A2 rs2.length c2, .int .u64 (x.n : Int), .int .i64 x.arm, .slice K x.keeps.length kc] [shortA x]) := fun W hW v hv => by
          refine ER.flat_one_ ⟨A2, c2, K, kc, by unfold awC; rw [hlen]; rfl, ?_⟩
          have h1 : AWE.rep _ _ _ _ := ⟨A2, c2, K, kc, rfl, hK⟩
          have h2 := AWE.mono (S' := fun b => (S b ∨ w.heap.size ≤ b) ∧ v.ownBlock ≠ some b) (AWE.keep h1 (.of_below hW)) (fun b _ h => ⟨by rcases h with h | h; exact .inl h.1; exact .inr (by omega), fun e => by have := hv b e; rcases h with h | h <;> omega⟩)
          obtain ⟨D', c'', K', kc', e, h3⟩ := h2
          unfold awC at e
          injection e with _ e
          injection e with e1 e
          injection e with _ e
          injection e with _ e
          injection e with e2 _
          injection e1 with q1 _ q3
          injection e2 with q4 _ q6
          subst q1 q3 q4 q6
          exact h3
        clear hK hcp hlen hsl hrl g3
        go_upto_region 7 with fail
        generalize (w2.setCell ⟨wr.heap.size, 1, none⟩ (.slice A2 rs2.length c2)) = w3 at *
        clear y1 f1
        have dl : Below w3.heap.size w3 (w3.alloc (.cells #[.int .i64 x.kind, .slice A2 rs2.length c2, .int .u64 (x.n : Int), .int .i64 x.arm, .slice K x.keeps.length kc] 59)) := (Below.refl _ _).alloc (Nat.le_refl _) _
        have hO4 := (hO3.mono (S' := fun b => S b ∨ w.heap.size ≤ b) (fun b _ _ h => h.1)).below dl
        have b04 := below_step' b03 dl
        have hru : Reads (w3.alloc (.cells #[.int .i64 x.kind, .slice A2 rs2.length c2, .int .u64 (x.n : Int), .int .i64 x.arm, .slice K x.keeps.length kc] 59)) (w3.alloc (.cells #[.int .i64 x.kind, .slice A2 rs2.length c2, .int .u64 (x.n : Int), .int .i64 x.arm, .slice K x.keeps.length kc] 59)).heap.size 5 (some ⟨w3.heap.size, 0, none⟩) 1 [.int .i64 x.kind, .slice A2 rs2.length c2, .int .u64 (x.n : Int), .int .i64 x.arm, .slice K x.keeps.length kc] := by
          have h := Reads.newN w3 [.int .i64 x.kind, .slice A2 rs2.length c2, .int .u64 (x.n : Int), .int .i64 x.arm, .slice K x.keeps.length kc] 59
          simpa using h
        have hfl := HKX.out _ dl (.slice A' xs.length c') (fun g e => ⟨(hO3.lt g e).1, HOL.out g e⟩)
        have hl1 : (xs.length + 1) * 72 ≤ 140737488355328 := by have := HXL.out; omega
        have hl2 : xs.length + 1 ≤ maxLen := by have := HXL.out; simp only [maxLen]; omega
        have hlo : ∀ g, (Value.slice A' xs.length c').ownBlock = some g → w.heap.size ≤ g := fun g e => (hO3.lt g e).1
        clear HKX hO3 b03 dl
        go_wp2_with (first | ((with_reducible refine wpList_load_blk rfl 59 (.tmp 5) rfl wr.heap.size ?_ 59 _ _ k3 Try.underlying59 ?_ Try.size_Act ?_ ?_); rfl; rfl; rfl) | (at_builtin; refine wpList_appS AWE w.heap.size _ rfl (.tmp 24) (.tmp 26) 59 52 rfl i0 _ Try.underlying52 hi0 hz0 hz1 hz2 rfl (fun b => S b ∨ w.heap.size ≤ b) A' xs c' rfl hO4 (some ⟨w3.heap.size, 0, none⟩) [shortA x] 1 rfl _ hru hfl hl1 hl2 b04.size ?_; intro A9 c9 xs9 w9 H9 o9 g9 t9))
        have b9 := b04.grown g9 b04.size hlo
        have HX9 : Hid (xs9 = (ls.take (k + 1)).map shortA) := by show _ = _; rw [H9.out, HX.out, HT.out]
        have hvw := HVW.out
        go_roundw
        case rel => exact ⟨k + 1, A9, c9, xs9, hlt, h30, rfl, (by first | rfl | exact congrArg (Value.int .i64) hvw), HX9.out, o9, b9⟩
        case measure => exact ms30 h30
      · obtain rfl : k = 30 := by omega
        have h30i : ¬ ((30 : Nat) : Int) < 30 := by omega
        have hlti : (30 : Int) < (ls.length : Int) := by omega
        have HE : Hid (xs = smallW ls) := HX.out
        have hsl := hO.slS (S' := fun x => S x ∨ w.heap.size ≤ x) rfl (by simp only [AWE]; have := HXL.out; omega) (fun _ h => h) (fun _ h => .inr h)
        go_wp2_with fail
        go_ret
        rw [← HE.out]
        exact ⟨A', c', rfl, hsl, br⟩
    · obtain rfl : k = ls.length := by omega
      have hlti : ¬ (ls.length : Int) < (ls.length : Int) := by omega
      have HE : Hid (xs = smallW ls) := by
        show _ = _
        rw [HX.out, List.take_length]
        unfold smallW
        rw [List.take_of_length_le hk30]
      have hsl := hO.slS (S' := fun x => S x ∨ w.heap.size ≤ x) rfl (by simp only [AWE]; have := HXL.out; omega) (fun _ h => h) (fun _ h => .inr h)
      go_wp2_with fail
      go_ret
      rw [← HE.out]
      exact ⟨A', c', rfl, hsl, br⟩
end Go.Proofs.Ytbldfgpnghoigaa
