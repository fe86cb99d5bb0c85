/- The law's state and message out of plain data. (Printed by wip/gen_rsy.py.) -/
import Derived.Test.YtjpcekpllfelhaaRsR
namespace Go.Proofs.Ytjpcekpllfelhaa
open Go.RowKit

theorem Try.size_St' : (Try.prog.info? 33).map (·.size) = some 5 := by kernel_rfl

set_option maxRecDepth 100000 in
set_option maxHeartbeats 4000000 in
theorem state_any (term : Nat) (vote : Int) (base bT : Nat) (TA : Option Addr) (ts : List Nat) (tc : Nat) (w : World) (hT : Sl NE w TA ts) (hl : ts.length ≤ 1048576) :
    Calls Try.prog 15 #[.agg #[.int .u64 (term : Int), .int .i64 vote, .int .u64 (base : Int), .int .u64 (bT : Int), .slice TA ts.length tc]] w (fun en w' => ∃ A c L, en = .returned (.agg #[.int .u64 (term : Int), .int .i64 vote, .int .u64 (base : Int), .int .u64 (bT : Int), (.slice A (List.length L) c)]) ∧ L.map LEnt.term = ts ∧ Own EntE 44 w' w.heap.size (fun b => w.heap.size ≤ b) (.slice A L.length c) L ∧ Below w.heap.size w w') := by
  obtain ⟨i0, hi0, hz0, hz1, hz2⟩ := info_parts Try.infoEnt
  go_enter Try.func15, Try.ntmps15
  have k1 := Blk.new w 53 #[.int .u64 (term : Int), .int .i64 vote, .int .u64 (base : Int), .int .u64 (bT : Int), .slice TA ts.length tc]
  have b1 : Below w.heap.size w (w.alloc (.cells #[.int .u64 (term : Int), .int .i64 vote, .int .u64 (base : Int), .int .u64 (bT : Int), .slice TA ts.length tc] 53)) := (Below.refl _ _).alloc (Nat.le_refl _) _
  go_upto_region 1 with fail
  have r2 : Blk ((w.alloc (.cells #[.int .u64 (term : Int), .int .i64 vote, .int .u64 (base : Int), .int .u64 (bT : Int), .slice TA ts.length tc] 53)).alloc (.cells #[.int .u64 0, .int .i64 0, .int .u64 0, .int .u64 0, .slice none 0 0] 33)) (w.heap.size + 1) 33 #[.int .u64 0, .int .i64 0, .int .u64 0, .int .u64 0, .slice none 0 0] := heap_alloc2_new w _ _
  generalize (w.alloc (.cells #[.int .u64 (term : Int), .int .i64 vote, .int .u64 (base : Int), .int .u64 (bT : Int), .slice TA ts.length tc] 53)) = w1 at *
  have k2 : Blk (w1.alloc (.cells #[.int .u64 0, .int .i64 0, .int .u64 0, .int .u64 0, .slice none 0 0] 33)) w.heap.size 53 #[.int .u64 (term : Int), .int .i64 vote, .int .u64 (base : Int), .int .u64 (bT : Int), .slice TA ts.length tc] := k1.alloc _
  have b2 : Below w.heap.size w (w1.alloc (.cells #[.int .u64 0, .int .i64 0, .int .u64 0, .int .u64 0, .slice none 0 0] 33)) := b1.alloc b1.size _
  have z1 := b1.size
  have b1z := Lib.hid (show w.heap.size ≤ w1.heap.size from z1)
  change Code.wp _ _ _ _ (w1.alloc (.cells #[.int .u64 0, .int .i64 0, .int .u64 0, .int .u64 0, .slice none 0 0] 33))
  generalize (w1.alloc (.cells #[.int .u64 0, .int .i64 0, .int .u64 0, .int .u64 0, .slice none 0 0] 33)) = w2 at *
  have z2 := r2.lt
  have s0 : w2.cell? ⟨w.heap.size, 0, none⟩ = some (.int .u64 (term : Int)) := k2.cell 0
  have s1 : w2.cell? ⟨w.heap.size, 1, none⟩ = some (.int .i64 vote) := k2.cell 1
  have s2 : w2.cell? ⟨w.heap.size, 2, none⟩ = some (.int .u64 (base : Int)) := k2.cell 2
  have s3 : w2.cell? ⟨w.heap.size, 3, none⟩ = some (.int .u64 (bT : Int)) := k2.cell 3
  have k3 : Blk (w2.alloc (.cells #[.int .u64 (term : Int), .int .i64 vote, .int .u64 (base : Int), .int .u64 (bT : Int), .slice none 0 0] 33)) w.heap.size 53 #[.int .u64 (term : Int), .int .i64 vote, .int .u64 (base : Int), .int .u64 (bT : Int), .slice TA ts.length tc] := k2.alloc _
  have r3 : Blk (w2.alloc (.cells #[.int .u64 (term : Int), .int .i64 vote, .int .u64 (base : Int), .int .u64 (bT : Int), .slice none 0 0] 33)) (w.heap.size + 1) 33 #[.int .u64 0, .int .i64 0, .int .u64 0, .int .u64 0, .slice none 0 0] := r2.alloc _
  have e3 := Blk.new w2 33 #[.int .u64 (term : Int), .int .i64 vote, .int .u64 (base : Int), .int .u64 (bT : Int), .slice none 0 0]
  have b3 : Below w.heap.size w (w2.alloc (.cells #[.int .u64 (term : Int), .int .i64 vote, .int .u64 (base : Int), .int .u64 (bT : Int), .slice none 0 0] 33)) := b2.alloc b2.size _
  go_upto_region 2 with fail
  change Code.wp _ _ _ _ (w2.alloc (.cells #[.int .u64 (term : Int), .int .i64 vote, .int .u64 (base : Int), .int .u64 (bT : Int), .slice none 0 0] 33))
  generalize (w2.alloc (.cells #[.int .u64 (term : Int), .int .i64 vote, .int .u64 (base : Int), .int .u64 (bT : Int), .slice none 0 0] 33)) = w3 at *
  have z3 := e3.lt
  have s4 : w3.cell? ⟨w.heap.size, 4, none⟩ = some (.slice TA ts.length tc) := k3.cell 4
  clear s0 s1 s2 s3 k1 b1 k2 r2 b2 k3
  go_wp2_with fail
  clear s4
  go_loopw [4, 5, 19] (fun _ _ v19 wr => ∃ (k : Nat) (A' : Option Addr) (c' : Nat) (xs : List LEnt), k ≤ ts.length ∧ v19 = .int .i64 (k : Int) ∧ Hid (xs.map LEnt.term = ts.take k) ∧ Hid (xs.length = k) ∧ Own EntE 44 wr w3.heap.size (fun b => w3.heap.size ≤ b) (.slice A' xs.length c') xs ∧ Blk wr w2.heap.size 33 #[.int .u64 (term : Int), .int .i64 vote, .int .u64 (base : Int), .int .u64 (bT : Int), (.slice A' xs.length c')] ∧ Blk wr (w.heap.size + 1) 33 #[.int .u64 0, .int .i64 0, .int .u64 0, .int .u64 0, .slice none 0 0] ∧ w3.heap.size ≤ wr.heap.size ∧ Below w.heap.size w wr) (fun _ _ v19 _ => ts.length - (intOf v19).toNat)
  case atStart => exact ⟨0, none, 0, [], Nat.zero_le _, rfl, rfl, rfl, Own.nil_ _ _ _ _ _, e3, r3, Nat.le_refl _, b3⟩
  case round =>
    obtain ⟨k, A', c', xs, hk, rfl, HM, HK, oX, eR, rR, zR, br⟩ := hrel
    by_cases hlt : k < ts.length
    · obtain ⟨ad, vs, rfl, hbl, ⟨rfl, ht⟩, h4, _, _⟩ := SlS.at_ (hT.below br) hlt
      have e0 : wr.cell? (ad.add k) = some (.int .u64 (ts[k] : Int)) := by have h := h4 _ rfl; rwa [show k * NE.size = k from Nat.mul_one k] at h
      clear h4
      have HT : Hid (ts.take (k + 1) = ts.take k ++ [ts[k]]) := List.take_succ_eq_append_getElem hlt
      generalize ts[k] = t at *
      have eC : wr.cell? ⟨w2.heap.size, 4, none⟩ = some (.slice A' xs.length c') := eR.cell 4
      have fC : wr.frozen? ⟨w2.heap.size, 4, none⟩ = false := eR.frozen 4
      have d4 : Below wr.heap.size wr (wr.alloc (.cells #[.int .u8 ((k : Int) % 256)] 5)) := (Below.refl _ _).alloc (Nat.le_refl _) _
      have hD : Bs (wr.alloc (.cells #[.int .u8 ((k : Int) % 256)] 5)) (some ⟨wr.heap.size, 0, none⟩) [UInt8.ofNat k] := by
        have h := Bs.lit wr [UInt8.ofNat k] 5 (by simp)
        rw [show ([UInt8.ofNat k] : List UInt8).map bval = [.int .u8 ((k : Int) % 256)] from by simp only [List.map_cons, List.map_nil, bval, UInt8.toNat_ofNat']; rfl] at h
        exact h
      have d5 : Below wr.heap.size wr ((wr.alloc (.cells #[.int .u8 ((k : Int) % 256)] 5)).alloc (.cells #[.int .u64 (t : Int), .slice (some ⟨wr.heap.size, 0, none⟩) 1 1] 44)) := below_step d4 ((Below.refl _ _).alloc (Nat.le_refl _) _)
      have o5 := oX.below d5
      have b5 := below_step br d5
      have k5 := eR.below d5 eR.lt
      have r5 := rR.below d5 rR.lt
      have lX := Own.lt oX
      have hrN : Reads ((wr.alloc (.cells #[.int .u8 ((k : Int) % 256)] 5)).alloc (.cells #[.int .u64 (t : Int), .slice (some ⟨wr.heap.size, 0, none⟩) 1 1] 44)) (wr.heap.size + 1 + 1) 2 (some ⟨wr.heap.size + 1, 0, none⟩) 1 [.int .u64 (t : Int), .slice (some ⟨wr.heap.size, 0, none⟩) 1 1] := by
        have h := Reads.newN (wr.alloc (.cells #[.int .u8 ((k : Int) % 256)] 5)) [.int .u64 (t : Int), .slice (some ⟨wr.heap.size, 0, none⟩) 1 1] 44
        rw [show (wr.alloc (.cells #[.int .u8 ((k : Int) % 256)] 5)).heap.size = wr.heap.size + 1 from Array.size_push _] at h
        exact h
      have hrep : EntE.rep ((wr.alloc (.cells #[.int .u8 ((k : Int) % 256)] 5)).alloc (.cells #[.int .u64 (t : Int), .slice (some ⟨wr.heap.size, 0, none⟩) 1 1] 44)) (fun b => w3.heap.size ≤ b ∧ (Value.slice A' xs.length c').ownBlock ≠ some b) [.int .u64 (t : Int), .slice (some ⟨wr.heap.size, 0, none⟩) 1 1] ⟨t, [UInt8.ofNat k]⟩ :=
        ⟨_, _, rfl, ht, hD.alloc _, fun ad e _ => by
          injection e with e
          subst e
          exact ⟨zR, fun e2 => Nat.lt_irrefl _ (lX _ e2).2⟩, Nat.le_refl _, by decide⟩
      have HL1 := Lib.hid (show (xs.length + 1) * EntE.bytes ≤ 140737488355328 by have := HK.out; simp only [EntE]; omega)
      have HL2 := Lib.hid (show xs.length + 1 ≤ maxLen by have := HK.out; simp only [maxLen]; omega)
      have z5 : w3.heap.size ≤ ((wr.alloc (.cells #[.int .u8 ((k : Int) % 256)] 5)).alloc (.cells #[.int .u64 (t : Int), .slice (some ⟨wr.heap.size, 0, none⟩) 1 1] 44)).heap.size := Nat.le_trans zR d5.size
      clear d4 d5 hD oX eR rR
      go_wp2_with (at_builtin; refine wpList_appE EntE w3.heap.size w _ rfl (.tmp 25) (.tmp 31) 44 31 rfl i0 _ Try.underlying31 hi0 hz0 hz1 hz2 rfl (fun b => w3.heap.size ≤ b) A' xs c' rfl o5 _ [.int .u64 (t : Int), .slice (some ⟨wr.heap.size, 0, none⟩) 1 1] ⟨t, [UInt8.ofNat k]⟩ 1 rfl _ hrN hrep HL1.out HL2.out b5 (Nat.le_trans b3.size (Nat.le_refl _)) z5 ?_; intro A8 c8 xs8 w8 H8 o8 b8 g8 t8; have k8 := k5.grown g8 (fun e => absurd (lX _ e.symm).1 (Nat.not_le.mpr z3)); have r8 := r5.grown g8 (fun e => absurd (lX _ e.symm).1 (by omega)); have fC := k8.frozen 4; have eC : w8.cell? ⟨w2.heap.size, 4, none⟩ = some (.slice A' xs.length c') := k8.cell 4; clear hrN hrep o5 b5 k5 r5)
      have g9 : w8.grownBy (w8.setCell ⟨w2.heap.size, 4, none⟩ (.slice A8 xs8.length c8)) (some w2.heap.size) := only_setCell (only_of_below (Below.refl _ _) (some w2.heap.size)) (.inl rfl) _
      have l8 := Own.lt o8
      have hsz : (w8.setCell ⟨w2.heap.size, 4, none⟩ (.slice A8 xs8.length c8)).heap.size = w8.heap.size := by simp [World.setCell]
      have z8 : w3.heap.size ≤ w8.heap.size := Nat.le_trans z5 g8.size
      go_roundw
      case rel => exact ⟨k + 1, A8, c8, xs8, by omega, by simp, by show _ = _; rw [H8.out, List.map_append, HM.out, HT.out]; rfl, by show _ = _; rw [H8.out, List.length_append, HK.out]; rfl, o8.grown g9 (fun b e => ⟨fun e2 => by have h1 := (l8 b e2).1; have h2 := Option.some.inj e; omega, fun h1 => by have h1 : w3.heap.size ≤ b := h1; have h2 := Option.some.inj e; omega⟩), k8.set_ 4 _, r8.far (by show w.heap.size + 1 ≠ w2.heap.size; omega) _, by rw [hsz]; exact z8, b8.grown g9 b8.size (fun b e => by have h2 := Option.some.inj e; have := z2; omega)⟩
      case measure => simp [intOf]; omega
    · obtain rfl : k = ts.length := by omega
      have HE : Hid (xs.map LEnt.term = ts) := by show _ = _; rw [HM.out, List.take_length]
      clear HM
      go_wp2_with (first
        | ((with_reducible refine wpList_load_blk rfl 33 (.tmp 3) rfl w2.heap.size ?_ 33 _ _ eR Try.underlying33 ?_ Try.size_St' ?_ ?_); rfl; rfl; rfl)
        | ((with_reducible refine wpList_store_blk rfl 33 (.tmp 2) (.tmp 35) rfl (w.heap.size + 1) 33 _ #[.int .u64 (term : Int), .int .i64 vote, .int .u64 (base : Int), .int .u64 (bT : Int), (.slice A' xs.length c')] ?_ ?_ rR Try.size_St' ?_ ?_ ?_ ?_); rfl; rfl; rfl; rfl; (simp [Value.oneCell']); intro wz kz gz hz))
      exact bodyPost_ret (results_cell rfl rfl kz Try.underlying33 rfl Try.size_St') rfl ⟨A', c', xs, rfl, HE.out, (oX.grown gz (fun b e => ⟨fun e2 => by have h1 := (Own.lt oX b e2).1; have h2 := Option.some.inj e; omega, fun h1 => by have h1 : w3.heap.size ≤ b := h1; have h2 := Option.some.inj e; omega⟩)).base (B' := w.heap.size) (by omega) |>.mono (fun b _ _ h => by have h : w3.heap.size ≤ b := h; show w.heap.size ≤ b; omega), br.grown gz br.size (fun b e => by have h2 := Option.some.inj e; omega)⟩

set_option maxRecDepth 100000 in
set_option maxHeartbeats 4000000 in
theorem msg_any (kind frm dst : Int) (term index logTerm commit : Nat) (ok : Bool) (TA : Option Addr) (ts : List Nat) (tc : Nat) (w : World) (hT : Sl NE w TA ts) (hl : ts.length ≤ 1048576) :
    Calls Try.prog 18 #[.agg #[.int .i64 kind, .int .i64 frm, .int .i64 dst, .int .u64 (term : Int), .int .u64 (index : Int), .int .u64 (logTerm : Int), .int .u64 (commit : Int), .slice TA ts.length tc, .bool ok]] w (fun en w' => ∃ A c L, en = .returned (.agg #[.int .i64 kind, .int .i64 frm, .int .i64 dst, .int .u64 (term : Int), .int .u64 (index : Int), .int .u64 (logTerm : Int), .int .u64 (commit : Int), (.slice A (List.length L) c), .bool ok, .slice none 0 0]) ∧ L.map LEnt.term = ts ∧ Own EntE 44 w' w.heap.size (fun b => w.heap.size ≤ b) (.slice A L.length c) L ∧ Below w.heap.size w w') := by
  obtain ⟨i0, hi0, hz0, hz1, hz2⟩ := info_parts Try.infoEnt
  go_enter Try.func18, Try.ntmps18
  have k1 := Blk.new w 61 #[.int .i64 kind, .int .i64 frm, .int .i64 dst, .int .u64 (term : Int), .int .u64 (index : Int), .int .u64 (logTerm : Int), .int .u64 (commit : Int), .slice TA ts.length tc, .bool ok]
  have b1 : Below w.heap.size w (w.alloc (.cells #[.int .i64 kind, .int .i64 frm, .int .i64 dst, .int .u64 (term : Int), .int .u64 (index : Int), .int .u64 (logTerm : Int), .int .u64 (commit : Int), .slice TA ts.length tc, .bool ok] 61)) := (Below.refl _ _).alloc (Nat.le_refl _) _
  go_upto_region 1 with fail
  have r2 : Blk ((w.alloc (.cells #[.int .i64 kind, .int .i64 frm, .int .i64 dst, .int .u64 (term : Int), .int .u64 (index : Int), .int .u64 (logTerm : Int), .int .u64 (commit : Int), .slice TA ts.length tc, .bool ok] 61)).alloc (.cells #[.int .i64 0, .int .i64 0, .int .i64 0, .int .u64 0, .int .u64 0, .int .u64 0, .int .u64 0, .slice none 0 0, .bool false, .slice none 0 0] 58)) (w.heap.size + 1) 58 #[.int .i64 0, .int .i64 0, .int .i64 0, .int .u64 0, .int .u64 0, .int .u64 0, .int .u64 0, .slice none 0 0, .bool false, .slice none 0 0] := heap_alloc2_new w _ _
  generalize (w.alloc (.cells #[.int .i64 kind, .int .i64 frm, .int .i64 dst, .int .u64 (term : Int), .int .u64 (index : Int), .int .u64 (logTerm : Int), .int .u64 (commit : Int), .slice TA ts.length tc, .bool ok] 61)) = w1 at *
  have k2 : Blk (w1.alloc (.cells #[.int .i64 0, .int .i64 0, .int .i64 0, .int .u64 0, .int .u64 0, .int .u64 0, .int .u64 0, .slice none 0 0, .bool false, .slice none 0 0] 58)) w.heap.size 61 #[.int .i64 kind, .int .i64 frm, .int .i64 dst, .int .u64 (term : Int), .int .u64 (index : Int), .int .u64 (logTerm : Int), .int .u64 (commit : Int), .slice TA ts.length tc, .bool ok] := k1.alloc _
  have b2 : Below w.heap.size w (w1.alloc (.cells #[.int .i64 0, .int .i64 0, .int .i64 0, .int .u64 0, .int .u64 0, .int .u64 0, .int .u64 0, .slice none 0 0, .bool false, .slice none 0 0] 58)) := b1.alloc b1.size _
  have z1 := b1.size
  have b1z := Lib.hid (show w.heap.size ≤ w1.heap.size from z1)
  change Code.wp _ _ _ _ (w1.alloc (.cells #[.int .i64 0, .int .i64 0, .int .i64 0, .int .u64 0, .int .u64 0, .int .u64 0, .int .u64 0, .slice none 0 0, .bool false, .slice none 0 0] 58))
  generalize (w1.alloc (.cells #[.int .i64 0, .int .i64 0, .int .i64 0, .int .u64 0, .int .u64 0, .int .u64 0, .int .u64 0, .slice none 0 0, .bool false, .slice none 0 0] 58)) = w2 at *
  have z2 := r2.lt
  have s0 : w2.cell? ⟨w.heap.size, 0, none⟩ = some (.int .i64 kind) := k2.cell 0
  have s1 : w2.cell? ⟨w.heap.size, 1, none⟩ = some (.int .i64 frm) := k2.cell 1
  have s2 : w2.cell? ⟨w.heap.size, 2, none⟩ = some (.int .i64 dst) := k2.cell 2
  have s3 : w2.cell? ⟨w.heap.size, 3, none⟩ = some (.int .u64 (term : Int)) := k2.cell 3
  have s4 : w2.cell? ⟨w.heap.size, 4, none⟩ = some (.int .u64 (index : Int)) := k2.cell 4
  have s5 : w2.cell? ⟨w.heap.size, 5, none⟩ = some (.int .u64 (logTerm : Int)) := k2.cell 5
  have s6 : w2.cell? ⟨w.heap.size, 6, none⟩ = some (.int .u64 (commit : Int)) := k2.cell 6
  have s8 : w2.cell? ⟨w.heap.size, 8, none⟩ = some (.bool ok) := k2.cell 8
  have k3 : Blk (w2.alloc (.cells #[.int .i64 kind, .int .i64 frm, .int .i64 dst, .int .u64 (term : Int), .int .u64 (index : Int), .int .u64 (logTerm : Int), .int .u64 (commit : Int), .slice none 0 0, .bool ok, .slice none 0 0] 58)) w.heap.size 61 #[.int .i64 kind, .int .i64 frm, .int .i64 dst, .int .u64 (term : Int), .int .u64 (index : Int), .int .u64 (logTerm : Int), .int .u64 (commit : Int), .slice TA ts.length tc, .bool ok] := k2.alloc _
  have r3 : Blk (w2.alloc (.cells #[.int .i64 kind, .int .i64 frm, .int .i64 dst, .int .u64 (term : Int), .int .u64 (index : Int), .int .u64 (logTerm : Int), .int .u64 (commit : Int), .slice none 0 0, .bool ok, .slice none 0 0] 58)) (w.heap.size + 1) 58 #[.int .i64 0, .int .i64 0, .int .i64 0, .int .u64 0, .int .u64 0, .int .u64 0, .int .u64 0, .slice none 0 0, .bool false, .slice none 0 0] := r2.alloc _
  have e3 := Blk.new w2 58 #[.int .i64 kind, .int .i64 frm, .int .i64 dst, .int .u64 (term : Int), .int .u64 (index : Int), .int .u64 (logTerm : Int), .int .u64 (commit : Int), .slice none 0 0, .bool ok, .slice none 0 0]
  have b3 : Below w.heap.size w (w2.alloc (.cells #[.int .i64 kind, .int .i64 frm, .int .i64 dst, .int .u64 (term : Int), .int .u64 (index : Int), .int .u64 (logTerm : Int), .int .u64 (commit : Int), .slice none 0 0, .bool ok, .slice none 0 0] 58)) := b2.alloc b2.size _
  go_upto_region 2 with fail
  change Code.wp _ _ _ _ (w2.alloc (.cells #[.int .i64 kind, .int .i64 frm, .int .i64 dst, .int .u64 (term : Int), .int .u64 (index : Int), .int .u64 (logTerm : Int), .int .u64 (commit : Int), .slice none 0 0, .bool ok, .slice none 0 0] 58))
  generalize (w2.alloc (.cells #[.int .i64 kind, .int .i64 frm, .int .i64 dst, .int .u64 (term : Int), .int .u64 (index : Int), .int .u64 (logTerm : Int), .int .u64 (commit : Int), .slice none 0 0, .bool ok, .slice none 0 0] 58)) = w3 at *
  have z3 := e3.lt
  have s7 : w3.cell? ⟨w.heap.size, 7, none⟩ = some (.slice TA ts.length tc) := k3.cell 7
  clear s0 s1 s2 s3 s4 s5 s6 s8 k1 b1 k2 r2 b2 k3
  go_wp2_with fail
  clear s7
  go_loopw [4, 5, 26] (fun _ _ v26 wr => ∃ (k : Nat) (A' : Option Addr) (c' : Nat) (xs : List LEnt), k ≤ ts.length ∧ v26 = .int .i64 (k : Int) ∧ Hid (xs.map LEnt.term = ts.take k) ∧ Hid (xs.length = k) ∧ Own EntE 44 wr w3.heap.size (fun b => w3.heap.size ≤ b) (.slice A' xs.length c') xs ∧ Blk wr w2.heap.size 58 #[.int .i64 kind, .int .i64 frm, .int .i64 dst, .int .u64 (term : Int), .int .u64 (index : Int), .int .u64 (logTerm : Int), .int .u64 (commit : Int), (.slice A' xs.length c'), .bool ok, .slice none 0 0] ∧ Blk wr (w.heap.size + 1) 58 #[.int .i64 0, .int .i64 0, .int .i64 0, .int .u64 0, .int .u64 0, .int .u64 0, .int .u64 0, .slice none 0 0, .bool false, .slice none 0 0] ∧ w3.heap.size ≤ wr.heap.size ∧ Below w.heap.size w wr) (fun _ _ v26 _ => ts.length - (intOf v26).toNat)
  case atStart => exact ⟨0, none, 0, [], Nat.zero_le _, rfl, rfl, rfl, Own.nil_ _ _ _ _ _, e3, r3, Nat.le_refl _, b3⟩
  case round =>
    obtain ⟨k, A', c', xs, hk, rfl, HM, HK, oX, eR, rR, zR, br⟩ := hrel
    by_cases hlt : k < ts.length
    · obtain ⟨ad, vs, rfl, hbl, ⟨rfl, ht⟩, h4, _, _⟩ := SlS.at_ (hT.below br) hlt
      have e0 : wr.cell? (ad.add k) = some (.int .u64 (ts[k] : Int)) := by have h := h4 _ rfl; rwa [show k * NE.size = k from Nat.mul_one k] at h
      clear h4
      have HT : Hid (ts.take (k + 1) = ts.take k ++ [ts[k]]) := List.take_succ_eq_append_getElem hlt
      generalize ts[k] = t at *
      have eC : wr.cell? ⟨w2.heap.size, 7, none⟩ = some (.slice A' xs.length c') := eR.cell 7
      have fC : wr.frozen? ⟨w2.heap.size, 7, none⟩ = false := eR.frozen 7
      have d4 : Below wr.heap.size wr (wr.alloc (.cells #[.int .u8 ((k : Int) % 256), .int .u8 7] 5)) := (Below.refl _ _).alloc (Nat.le_refl _) _
      have hD : Bs (wr.alloc (.cells #[.int .u8 ((k : Int) % 256), .int .u8 7] 5)) (some ⟨wr.heap.size, 0, none⟩) [UInt8.ofNat k, 7] := by
        have h := Bs.lit wr [UInt8.ofNat k, 7] 5 (by simp)
        rw [show ([UInt8.ofNat k, 7] : List UInt8).map bval = [.int .u8 ((k : Int) % 256), .int .u8 7] from by simp only [List.map_cons, List.map_nil, bval, UInt8.toNat_ofNat']; rfl] at h
        exact h
      have d5 : Below wr.heap.size wr ((wr.alloc (.cells #[.int .u8 ((k : Int) % 256), .int .u8 7] 5)).alloc (.cells #[.int .u64 (t : Int), .slice (some ⟨wr.heap.size, 0, none⟩) 2 2] 44)) := below_step d4 ((Below.refl _ _).alloc (Nat.le_refl _) _)
      have o5 := oX.below d5
      have b5 := below_step br d5
      have k5 := eR.below d5 eR.lt
      have r5 := rR.below d5 rR.lt
      have lX := Own.lt oX
      have hrN : Reads ((wr.alloc (.cells #[.int .u8 ((k : Int) % 256), .int .u8 7] 5)).alloc (.cells #[.int .u64 (t : Int), .slice (some ⟨wr.heap.size, 0, none⟩) 2 2] 44)) (wr.heap.size + 1 + 1) 2 (some ⟨wr.heap.size + 1, 0, none⟩) 1 [.int .u64 (t : Int), .slice (some ⟨wr.heap.size, 0, none⟩) 2 2] := by
        have h := Reads.newN (wr.alloc (.cells #[.int .u8 ((k : Int) % 256), .int .u8 7] 5)) [.int .u64 (t : Int), .slice (some ⟨wr.heap.size, 0, none⟩) 2 2] 44
        rw [show (wr.alloc (.cells #[.int .u8 ((k : Int) % 256), .int .u8 7] 5)).heap.size = wr.heap.size + 1 from Array.size_push _] at h
        exact h
      have hrep : EntE.rep ((wr.alloc (.cells #[.int .u8 ((k : Int) % 256), .int .u8 7] 5)).alloc (.cells #[.int .u64 (t : Int), .slice (some ⟨wr.heap.size, 0, none⟩) 2 2] 44)) (fun b => w3.heap.size ≤ b ∧ (Value.slice A' xs.length c').ownBlock ≠ some b) [.int .u64 (t : Int), .slice (some ⟨wr.heap.size, 0, none⟩) 2 2] ⟨t, [UInt8.ofNat k, 7]⟩ :=
        ⟨_, _, rfl, ht, hD.alloc _, fun ad e _ => by
          injection e with e
          subst e
          exact ⟨zR, fun e2 => Nat.lt_irrefl _ (lX _ e2).2⟩, Nat.le_refl _, by decide⟩
      have HL1 := Lib.hid (show (xs.length + 1) * EntE.bytes ≤ 140737488355328 by have := HK.out; simp only [EntE]; omega)
      have HL2 := Lib.hid (show xs.length + 1 ≤ maxLen by have := HK.out; simp only [maxLen]; omega)
      have z5 : w3.heap.size ≤ ((wr.alloc (.cells #[.int .u8 ((k : Int) % 256), .int .u8 7] 5)).alloc (.cells #[.int .u64 (t : Int), .slice (some ⟨wr.heap.size, 0, none⟩) 2 2] 44)).heap.size := Nat.le_trans zR d5.size
      clear d4 d5 hD oX eR rR
      go_wp2_with (at_builtin; refine wpList_appE EntE w3.heap.size w _ rfl (.tmp 32) (.tmp 38) 44 31 rfl i0 _ Try.underlying31 hi0 hz0 hz1 hz2 rfl (fun b => w3.heap.size ≤ b) A' xs c' rfl o5 _ [.int .u64 (t : Int), .slice (some ⟨wr.heap.size, 0, none⟩) 2 2] ⟨t, [UInt8.ofNat k, 7]⟩ 1 rfl _ hrN hrep HL1.out HL2.out b5 (Nat.le_trans b3.size (Nat.le_refl _)) z5 ?_; intro A8 c8 xs8 w8 H8 o8 b8 g8 t8; have k8 := k5.grown g8 (fun e => absurd (lX _ e.symm).1 (Nat.not_le.mpr z3)); have r8 := r5.grown g8 (fun e => absurd (lX _ e.symm).1 (by omega)); have fC := k8.frozen 7; have eC : w8.cell? ⟨w2.heap.size, 7, none⟩ = some (.slice A' xs.length c') := k8.cell 7; clear hrN hrep o5 b5 k5 r5)
      have g9 : w8.grownBy (w8.setCell ⟨w2.heap.size, 7, none⟩ (.slice A8 xs8.length c8)) (some w2.heap.size) := only_setCell (only_of_below (Below.refl _ _) (some w2.heap.size)) (.inl rfl) _
      have l8 := Own.lt o8
      have hsz : (w8.setCell ⟨w2.heap.size, 7, none⟩ (.slice A8 xs8.length c8)).heap.size = w8.heap.size := by simp [World.setCell]
      have z8 : w3.heap.size ≤ w8.heap.size := Nat.le_trans z5 g8.size
      go_roundw
      case rel => exact ⟨k + 1, A8, c8, xs8, by omega, by simp, by show _ = _; rw [H8.out, List.map_append, HM.out, HT.out]; rfl, by show _ = _; rw [H8.out, List.length_append, HK.out]; rfl, o8.grown g9 (fun b e => ⟨fun e2 => by have h1 := (l8 b e2).1; have h2 := Option.some.inj e; omega, fun h1 => by have h1 : w3.heap.size ≤ b := h1; have h2 := Option.some.inj e; omega⟩), k8.set_ 7 _, r8.far (by show w.heap.size + 1 ≠ w2.heap.size; omega) _, by rw [hsz]; exact z8, b8.grown g9 b8.size (fun b e => by have h2 := Option.some.inj e; have := z2; omega)⟩
      case measure => simp [intOf]; omega
    · obtain rfl : k = ts.length := by omega
      have HE : Hid (xs.map LEnt.term = ts) := by show _ = _; rw [HM.out, List.take_length]
      clear HM
      go_wp2_with (first
        | ((with_reducible refine wpList_load_blk rfl 58 (.tmp 3) rfl w2.heap.size ?_ 58 _ _ eR Try.underlying58 ?_ Try.size_Msg ?_ ?_); rfl; rfl; rfl)
        | ((with_reducible refine wpList_store_blk rfl 58 (.tmp 2) (.tmp 42) rfl (w.heap.size + 1) 58 _ #[.int .i64 kind, .int .i64 frm, .int .i64 dst, .int .u64 (term : Int), .int .u64 (index : Int), .int .u64 (logTerm : Int), .int .u64 (commit : Int), (.slice A' xs.length c'), .bool ok, .slice none 0 0] ?_ ?_ rR Try.size_Msg ?_ ?_ ?_ ?_); rfl; rfl; rfl; rfl; (simp [Value.oneCell']); intro wz kz gz hz))
      exact bodyPost_ret (results_cell rfl rfl kz Try.underlying58 rfl Try.size_Msg) rfl ⟨A', c', xs, rfl, HE.out, (oX.grown gz (fun b e => ⟨fun e2 => by have h1 := (Own.lt oX b e2).1; have h2 := Option.some.inj e; omega, fun h1 => by have h1 : w3.heap.size ≤ b := h1; have h2 := Option.some.inj e; omega⟩)).base (B' := w.heap.size) (by omega) |>.mono (fun b _ _ h => by have h : w3.heap.size ≤ b := h; show w.heap.size ≤ b; omega), br.grown gz br.size (fun b e => by have h2 := Option.some.inj e; omega)⟩
end Go.Proofs.Ytjpcekpllfelhaa
