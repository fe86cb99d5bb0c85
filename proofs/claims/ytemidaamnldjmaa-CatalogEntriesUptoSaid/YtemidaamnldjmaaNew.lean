/- A new entry of a table: catalog.New. -/
import Derived.Test.YtemidaamnldjmaaAdd
import Derived.Test.YtemidaamnldjmaaBlkS
import Derived.Test.YtemidaamnldjmaaRAddW
namespace Go.Proofs.Ytemidaamnldjmaa
open Go.RowKit

def newE (t : LTab) : LEnt × Int := if t.check ≠ 0 then (.zero, t.check) else (⟨t, List.replicate t.ixs.length ⟨0, []⟩⟩, 0)

def zc : Nat → List Value
  | 0 => []
  | n + 1 => .int .i64 0 :: .slice none 0 0 :: zc n
theorem zc_len : ∀ n, (zc n).length = n * 2
  | 0 => rfl
  | n + 1 => by simp [zc, zc_len n]; omega
theorem zc_flat (w : World) (S : Nat → Prop) : ∀ n, StE.flat w S (zc n) (List.replicate n ⟨0, []⟩)
  | 0 => rfl
  | n + 1 => by
    refine ⟨[.int .i64 0, .slice none 0 0], zc n, rfl, ?_, zc_flat w S n⟩
    exact ⟨none, 0, rfl, Bs.nil_ w none, fun ad e _ => (by cases e), Nat.le_refl _, by decide⟩
theorem mk_zc (n : Nat) (hn : n ≤ 4) (W : World) : (Instr.makeSlice 31 (.int .i64 (n : Int)) (.int .i64 (n : Int))).run Try.prog W = .ok (.slice (some ⟨W.heap.size, 0, none⟩) n n) (W.alloc (.cells (zc n).toArray 57)) := by
  obtain ⟨i, hi, hz0, hz1, hz2⟩ := info_parts Try.info_sclone
  have := run_make_rowN 31 57 i _ Try.underlying31 hi hz0 .i64 .i64 n n (Nat.le_refl _) (by rw [hz2]; exact Nat.le_trans (Nat.mul_le_mul_left 32 hn) (by decide)) (Nat.le_trans hn (by decide)) W
  rw [this, hz1]
  have e : madeCells (Value.cells (.agg #[.int .i64 0, .slice none 0 0])) (n * 2) = (zc n).toArray := by
    rcases (by omega : n = 0 ∨ n = 1 ∨ n = 2 ∨ n = 3 ∨ n = 4) with rfl | rfl | rfl | rfl | rfl <;> kernel_rfl
  rw [e]
theorem zc_sl (w : World) (n g : Nat) (hn : n ≤ 4) (hg : g < w.heap.size) : SlS StE (w.alloc (.cells (zc n).toArray 57)) (fun b => b ≠ g) (some ⟨w.heap.size, 0, none⟩) (List.replicate n ⟨0, []⟩) := by
  refine ⟨by simp [StE]; omega, zc n, ⟨by rw [zc_len]; simp [StE], fun _ => ⟨_, rfl, by simp, fun j u hu => ?_⟩⟩, fun ad e _ => by rw [← Option.some.inj e]; exact Nat.ne_of_gt hg, zc_flat _ _ n⟩
  rw [add_row, (Blk.new w 57 (zc n).toArray).cell]
  simpa using hu

/-- the answer of the call of twin that New makes -/
def RetNew (id keys : Int) (tn : ByteArray) (cols : List LCol) (ixs : List LIx) (g : Nat) (w : World) (en : Ending) (w' : World) : Prop :=
  ∃ A1 B1 S1 c1 c2 c3, en = .returned (.agg #[.int .i64 id, .string tn, .slice A1 cols.length c1, .int .i64 keys, .slice B1 ixs.length c2, .slice S1 ixs.length c3]) ∧
    SlS ColE w' (fun b => b ≠ g) A1 cols ∧ SlS IxE w' (fun b => b ≠ g) B1 ixs ∧ SlS StE w' (fun b => b ≠ g) S1 (List.replicate ixs.length ⟨0, []⟩) ∧ Below w.heap.size w w'
theorem twin_new (id keys : Int) (tn : ByteArray) (cols : List LCol) (ixs : List LIx) (A B S : Option Addr) (ca cb g : Nat) (w : World) (hg : g < w.heap.size) (hA : SlS ColE w (fun b => b ≠ g) A cols) (hB : SlS IxE w (fun b => b ≠ g) B ixs) (hS : SlS StE w (fun b => b ≠ g) S (List.replicate ixs.length ⟨0, []⟩)) :
    Calls Try.prog 21 #[.agg #[.int .i64 id, .string tn, .slice A cols.length ca, .int .i64 keys, .slice B ixs.length cb, .slice S ixs.length ixs.length]] w (RetNew id keys tn cols ixs g w) := by
  have t := twin_out (fun b => b ≠ g) id keys tn cols ixs (List.replicate ixs.length ⟨0, []⟩) A B S ca cb ixs.length w hA.any hB hS
  rw [List.length_replicate] at t
  refine t.mono ?_
  rintro en w' ⟨A1, B1, S1, c1, c2, c3, he, h1, h2, h3, hb⟩
  rw [List.length_replicate] at he
  exact ⟨A1, B1, S1, c1, c2, c3, he, (Own.colS (S' := fun _ => False) h1).slS rfl hA.leb (fun _ h => h.elim) (fun b h => by omega), h2.slS rfl hB.leb (fun b h => by rcases h.1 with h | h <;> omega) (fun b h => by omega), h3.slS (by simp) hS.leb (fun b h => by rcases h.1 with h | h <;> omega) (fun b h => by omega), hb⟩

set_option maxRecDepth 100000 in
set_option maxHeartbeats 4000000 in
theorem new_any (id keys : Int) (tn : ByteArray) (cols : List LCol) (ixs : List LIx) (A B : Option Addr) (ca cb : Nat) (w : World) (hA : Sl ColE w A cols) (hB : Sl IxE w B ixs) (hn : tn.size ≤ 140737488351232) :
    Calls Try.prog 5 #[.agg #[.int .i64 id, .string tn, .slice A cols.length ca, .int .i64 keys, .slice B ixs.length cb]] w (RetEnt (newE ⟨id, keys, tn, cols, ixs⟩) w) := by
  have b0 : Below w.heap.size w ((w.alloc (.cells #[.int .i64 id, .string tn, .slice A cols.length ca, .int .i64 keys, .slice B ixs.length cb] 25)).alloc (.cells #[.int .i64 0, .string ⟨#[]⟩, .slice none 0 0, .int .i64 0, .slice none 0 0, .slice none 0 0] 33)) := ((Below.refl _ _).alloc (Nat.le_refl _) _).alloc (by simp) _
  have ke := (Blk.new w 25 #[.int .i64 id, .string tn, .slice A cols.length ca, .int .i64 keys, .slice B ixs.length cb]).alloc (.cells #[.int .i64 0, .string ⟨#[]⟩, .slice none 0 0, .int .i64 0, .slice none 0 0, .slice none 0 0] 33)
  have kz := Blk.new (w.alloc (.cells #[.int .i64 id, .string tn, .slice A cols.length ca, .int .i64 keys, .slice B ixs.length cb] 25)) 33 #[.int .i64 0, .string ⟨#[]⟩, .slice none 0 0, .int .i64 0, .slice none 0 0, .slice none 0 0]
  rw [show (w.alloc (.cells #[.int .i64 id, .string tn, .slice A cols.length ca, .int .i64 keys, .slice B ixs.length cb] 25)).heap.size = w.heap.size + 1 by simp] at kz
  have hA0 := hA.old.below b0
  have hB0 := hB.old.below b0
  go_enter Try.func5, Try.ntmps5
  go_wp2_with fail
  generalize ((w.alloc (.cells #[.int .i64 id, .string tn, .slice A cols.length ca, .int .i64 keys, .slice B ixs.length cb] 25)).alloc (.cells #[.int .i64 0, .string ⟨#[]⟩, .slice none 0 0, .int .i64 0, .slice none 0 0, .slice none 0 0] 33)) = W0 at *
  refine (check_any id keys tn A B ca cb cols ixs _ hA0.any.cols hB0.any.ixs hn hA0.any.cnames hB0.any.xnames).mono ?_
  rintro en w1 ⟨rfl, b1⟩
  have b01 := b0.trans (b1.mono b0.size)
  have ke1 := ke.below b1 ke.lt
  have kz1 := kz.below b1 kz.lt
  have hA1 := hA0.below b1
  have hB1 := hB0.below b1
  clear hA0 hB0 ke kz b0
  have hnew : newE ⟨id, keys, tn, cols, ixs⟩ = if checkI id keys tn cols ixs ≠ 0 then (.zero, checkI id keys tn cols ixs) else (⟨⟨id, keys, tn, cols, ixs⟩, List.replicate ixs.length ⟨0, []⟩⟩, 0) := rfl
  by_cases h0 : checkI id keys tn cols ixs = 0
  · have hle : ixs.length ≤ 4 := by
      unfold checkI at h0
      apply Classical.byContradiction; intro hn
      by_cases h3 : 16 < cols.length
      · rw [if_pos h3] at h0; cases h0
      · rw [if_neg h3, if_pos (by omega)] at h0; cases h0
    have d0 : (checkI id keys tn cols ixs != 0) = false := by rw [h0]; rfl
    have HE : Hid (newE ⟨id, keys, tn, cols, ixs⟩ = (⟨⟨id, keys, tn, cols, ixs⟩, List.replicate ixs.length ⟨0, []⟩⟩, 0)) := by
      show _ = _; rw [hnew, if_neg (by rw [h0]; exact fun h => h rfl)]
    clear h0 hnew
    go_upto_region 4 with fail
    have hA1n : SlS ColE w1 (fun b => b ≠ w.heap.size + 1) A cols := hA1.mono (fun b _ h => by omega)
    have hB1n : SlS IxE w1 (fun b => b ≠ w.heap.size + 1) B ixs := hB1.mono (fun b _ h => by omega)
    have hmk := mk_zc ixs.length hle
    have lz1 := kz1.lt
    have le1 := ke1.lt
    have q4 : w1.cell? ⟨w.heap.size, 4, none⟩ = some (.slice B ixs.length cb) := ke1.cell 4
    have hfin : ∀ (w4 w5 : World) (A1 B1 S1 : Option Addr) (c1 c2 c3 : Nat), Below w1.heap.size w1 w4 → SlS ColE w4 (fun b => b ≠ w.heap.size + 1) A1 cols → SlS IxE w4 (fun b => b ≠ w.heap.size + 1) B1 ixs → SlS StE w4 (fun b => b ≠ w.heap.size + 1) S1 (List.replicate ixs.length ⟨0, []⟩) → w4.grownBy w5 (some (w.heap.size + 1)) →
        RetEnt (newE ⟨id, keys, tn, cols, ixs⟩) w (.returned (.tuple #[.agg #[.int .i64 id, .string tn, .slice A1 cols.length c1, .int .i64 keys, .slice B1 ixs.length c2, .slice S1 ixs.length c3], .int .i64 0])) w5 := by
      intro w4 w5 A1 B1 S1 c1 c2 c3 b4 s1 s2 s3 g5
      rw [HE.out]
      have b04 := b01.trans (b4.mono b01.size)
      have hs : Same (fun b => b ≠ w.heap.size + 1) w4 w5 := .of_grown g5 (fun b hb e => hb (Option.some.inj e).symm)
      exact ⟨_, rfl, ⟨A1, B1, S1, c1, c2, c3, by simp, (s1.same hs).any, (s2.same hs).any, (s3.same hs).any, hn⟩, b04.grown g5 b04.size (fun j hj => by have := Option.some.inj hj; omega)⟩
    have HFIN := Lib.hid hfin
    clear hfin
    have q0 : w1.cell? ⟨w.heap.size, 0, none⟩ = some (.int .i64 id) := ke1.cell 0
    have q1 : w1.cell? ⟨w.heap.size, 1, none⟩ = some (.string tn) := ke1.cell 1
    have q2 : w1.cell? ⟨w.heap.size, 2, none⟩ = some (.slice A cols.length ca) := ke1.cell 2
    have q3 : w1.cell? ⟨w.heap.size, 3, none⟩ = some (.int .i64 keys) := ke1.cell 3
    go_region_law
      (first
        | (go_simp; go_at_call 21; (with_reducible refine (twin_new id keys tn cols ixs _ _ _ _ _ (w.heap.size + 1) _ ?_ ?_ ?_ ?_).mono ?_); (simp; omega); (refine SlS.below hA1n ?_; (focus (repeat (first | (with_reducible exact Below.refl _ _) | (with_reducible refine Below.drew_ ?_) | (with_reducible refine Below.alloc_ ?_ _))))); (refine SlS.below hB1n ?_; (focus (repeat (first | (with_reducible exact Below.refl _ _) | (with_reducible refine Below.drew_ ?_) | (with_reducible refine Below.alloc_ ?_ _))))); (first | exact zc_sl _ _ _ hle lz1 | exact (zc_sl _ _ _ hle lz1).below (Below.refl _ _).drew); rintro en w4 ⟨A1, B1, S1, c1, c2, c3, rfl, s1, s2, s3, b4⟩; have bb4 : Below w1.heap.size w1 w4 := (by refine Below.call_ ?_ b4; (focus (repeat (first | (with_reducible exact Below.refl _ _) | (with_reducible refine Below.drew_ ?_) | (with_reducible refine Below.alloc_ ?_ _))))); have kz4 := kz1.below bb4 lz1; clear q0 q1 q2 q3 q4; have y0 : w4.cell? ⟨w.heap.size + 1, 0, none⟩ = some (.int .i64 0) := kz4.cell 0; have y1 : w4.cell? ⟨w.heap.size + 1, 1, none⟩ = some (.string ⟨#[]⟩) := kz4.cell 1; have y2 : w4.cell? ⟨w.heap.size + 1, 2, none⟩ = some (.slice none 0 0) := kz4.cell 2; have y3 : w4.cell? ⟨w.heap.size + 1, 3, none⟩ = some (.int .i64 0) := kz4.cell 3; have y4 : w4.cell? ⟨w.heap.size + 1, 4, none⟩ = some (.slice none 0 0) := kz4.cell 4; have y5 : w4.cell? ⟨w.heap.size + 1, 5, none⟩ = some (.slice none 0 0) := kz4.cell 5; have f0 := kz4.frozen 0; have f1 := kz4.frozen 1; have f2 := kz4.frozen 2; have f3 := kz4.frozen 3; have f4 := kz4.frozen 4; have f5 := kz4.frozen 5))
    all_goals
      have kz5 : Blk _ _ _ #[.int .i64 id, .string tn, .slice A1 cols.length c1, .int .i64 keys, .slice B1 ixs.length c2, .slice S1 ixs.length c3] := (((((kz4.set_ 0 (.int .i64 id)).set_ 1 (.string tn)).set_ 2 (.slice A1 cols.length c1)).set_ 3 (.int .i64 keys)).set_ 4 (.slice B1 ixs.length c2)).set_ 5 (.slice S1 ixs.length c3)
      have g5 := only_setCell (only_setCell (only_setCell (only_setCell (only_setCell (only_setCell (World.grownBy.refl w4 (some (w.heap.size + 1))) (p := ⟨w.heap.size + 1, 0, none⟩) (.inl rfl) (.int .i64 id)) (p := ⟨w.heap.size + 1, 1, none⟩) (.inl rfl) (.string tn)) (p := ⟨w.heap.size + 1, 2, none⟩) (.inl rfl) (.slice A1 cols.length c1)) (p := ⟨w.heap.size + 1, 3, none⟩) (.inl rfl) (.int .i64 keys)) (p := ⟨w.heap.size + 1, 4, none⟩) (.inl rfl) (.slice B1 ixs.length c2)) (p := ⟨w.heap.size + 1, 5, none⟩) (.inl rfl) (.slice S1 ixs.length c3)
      go_wp2_with fail
      exact bodyPost_ret (results_cell2 rfl rfl rfl kz5 Try.underlying33 rfl Try.size_Entry) rfl (by exact HFIN.out w4 _ A1 B1 S1 c1 c2 c3 bb4 s1 s2 s3 g5)
  · have HE : Hid (newE ⟨id, keys, tn, cols, ixs⟩ = (.zero, checkI id keys tn cols ixs)) := by
      show _ = _; rw [hnew, if_pos h0]
    have d0 : (checkI id keys tn cols ixs != 0) = true := by rw [bne_iff_ne]; exact h0
    clear h0 hnew
    go_wp2_with ((with_reducible refine wpList_store_blk rfl 33 (.tmp 2) (.tmp 9) rfl (w.heap.size + 1) 33 _ #[.int .i64 0, .string ⟨#[]⟩, .slice none 0 0, .int .i64 0, .slice none 0 0, .slice none 0 0] ?_ ?_ kz1 Try.size_Entry ?_ ?_ ?_ ?_); rfl; rfl; rfl; rfl; (simp [Value.oneCell']); intro w2 kz2 g2 z2)
    exact bodyPost_ret (results_cell2 rfl rfl rfl kz2 Try.underlying33 rfl Try.size_Entry) rfl (by exact ⟨_, by rw [HE.out]; rfl, by rw [HE.out]; exact EntV.zero _, b01.grown g2 b01.size (fun j hj => by have := Option.some.inj hj; omega)⟩)

end Go.Proofs.Ytemidaamnldjmaa
