/- slices.Clone of columns, of indexes, of states. -/
import Derived.Test.YtemidaamnldjmaaCatE
namespace Go.Proofs.Ytemidaamnldjmaa
open Go.RowKit

theorem Try.info_cclone : (Try.prog.info? 51).map (fun i => (i.zero, i.size, i.bytes)) = some (some (.agg #[.string ByteArray.empty, .int .i64 0, .bool false]), 3, 32) := by kernel_rfl

set_option maxHeartbeats 400000 in
theorem cclone_any (A : Option Addr) (l : List LCol) (c : Nat) (S : Nat → Prop) (w : World) (hb : SlS ColE w S A l) :
    Calls Try.prog 39 #[.slice A l.length c] w (RetCl ColE 51 S l w) := by
  obtain ⟨i0, hi0, hz0, hz1, hz2⟩ := info_parts Try.info_cclone
  have hle : l.length * 32 ≤ 140737488351232 := SlS.leb hb
  have hq := fun W : World => Lib.run_eql_slice_nil (P := Try.prog) W 22 51 A l.length c 0 0 Try.underlying22
  cases A with
  | none =>
    have h0 : l.length = 0 := by
      apply Classical.byContradiction; intro h
      obtain ⟨ad, vs, e, _⟩ := SlS.at_ hb (show 0 < l.length by omega)
      cases e
    obtain rfl : l = [] := List.length_eq_zero_iff.1 h0
    clear hle hb h0 hi0 hz0 hz1 hz2 i0 hq
    have hq := fun W : World => Lib.run_eql_slice_nil (P := Try.prog) W 22 51 none 0 c 0 0 Try.underlying22
    simp only [Option.isNone_none] at hq
    rw [List.length_nil]
    go_enter Try.func39, Try.ntmps39
    go_wp2_with fail
    go_ret
    exact ⟨none, 0, rfl, Own.nil_ _ _ _ _ _, Below.refl _ _⟩
  | some ad =>
    have b0 : Below w.heap.size w (w.alloc (.cells #[] 51)) := (Below.refl _ _).alloc (Nat.le_refl _) _
    obtain ⟨vs, hr0, hf⟩ := SlS.reads hb
    have hr := (hr0.below b0).more (show w.heap.size ≤ (w.alloc (.cells #[] 51)).heap.size by simp)
    have hone := ER.flat_one hf
    go_enter Try.func39, Try.ntmps39
    go_wp2_with (at_builtin; refine wpList_append_any _ rfl (.tmp 5) (.tmp 6) _ rfl w.heap.size 51 i0 _ 3 32 Try.underlying22 hi0 hz0 hz1 hz2 rfl (by omega) (.slice (some ⟨w.heap.size, 0, none⟩) 0 0) 0 [] rfl (World.ownsRow_made w #[] 0 (Nat.le_refl _) (by simp [maxLen]) rfl) (w.alloc (.cells #[] 51)).heap.size (some ad) l.length c vs rfl hr hone (by simp only [maxLen]; omega) (by omega) (by simp) ?_; intro v1 w1 hown1 hg1 hat1)
    have hbel : Below w.heap.size w w1 := b0.grown hg1 (by simp) (by intro k hk; simp [Value.ownBlock] at hk; omega)
    simp only [Nat.zero_add, List.nil_append] at hown1
    obtain ⟨A1, c1, hv⟩ := own_shape hown1
    rw [hv] at hown1
    go_ret
    refine ⟨A1, c1, by rw [← hv]; rfl, ⟨vs, hown1, ER.flat_mono (S := fun b => S b ∧ b < w.heap.size) (fun b _ hb => ⟨hb.1, ?_⟩) (ER.flat_same (.of_below hbel) (ER.flat_mono (fun b hl hb => ⟨hb, hl⟩) hf))⟩, hbel⟩
    intro e
    have := (hown1.lt b e).1
    omega

theorem Try.info_xclone : (Try.prog.info? 55).map (fun i => (i.zero, i.size, i.bytes)) = some (some (.agg #[.string ByteArray.empty, .slice none 0 0, .bool false]), 3, 48) := by kernel_rfl

set_option maxHeartbeats 400000 in
theorem xclone_any (A : Option Addr) (l : List LIx) (c : Nat) (S : Nat → Prop) (w : World) (hb : SlS IxE w S A l) :
    Calls Try.prog 40 #[.slice A l.length c] w (RetCl IxE 55 S l w) := by
  obtain ⟨i0, hi0, hz0, hz1, hz2⟩ := info_parts Try.info_xclone
  have hle : l.length * 48 ≤ 140737488351232 := SlS.leb hb
  have hq := fun W : World => Lib.run_eql_slice_nil (P := Try.prog) W 23 55 A l.length c 0 0 Try.underlying23
  cases A with
  | none =>
    have h0 : l.length = 0 := by
      apply Classical.byContradiction; intro h
      obtain ⟨ad, vs, e, _⟩ := SlS.at_ hb (show 0 < l.length by omega)
      cases e
    obtain rfl : l = [] := List.length_eq_zero_iff.1 h0
    clear hle hb h0 hi0 hz0 hz1 hz2 i0 hq
    have hq := fun W : World => Lib.run_eql_slice_nil (P := Try.prog) W 23 55 none 0 c 0 0 Try.underlying23
    simp only [Option.isNone_none] at hq
    rw [List.length_nil]
    go_enter Try.func40, Try.ntmps40
    go_wp2_with fail
    go_ret
    exact ⟨none, 0, rfl, Own.nil_ _ _ _ _ _, Below.refl _ _⟩
  | some ad =>
    have b0 : Below w.heap.size w (w.alloc (.cells #[] 55)) := (Below.refl _ _).alloc (Nat.le_refl _) _
    obtain ⟨vs, hr0, hf⟩ := SlS.reads hb
    have hr := (hr0.below b0).more (show w.heap.size ≤ (w.alloc (.cells #[] 55)).heap.size by simp)
    have hone := ER.flat_one hf
    go_enter Try.func40, Try.ntmps40
    go_wp2_with (at_builtin; refine wpList_append_any _ rfl (.tmp 5) (.tmp 6) _ rfl w.heap.size 55 i0 _ 3 48 Try.underlying23 hi0 hz0 hz1 hz2 rfl (by omega) (.slice (some ⟨w.heap.size, 0, none⟩) 0 0) 0 [] rfl (World.ownsRow_made w #[] 0 (Nat.le_refl _) (by simp [maxLen]) rfl) (w.alloc (.cells #[] 55)).heap.size (some ad) l.length c vs rfl hr hone (by simp only [maxLen]; omega) (by omega) (by simp) ?_; intro v1 w1 hown1 hg1 hat1)
    have hbel : Below w.heap.size w w1 := b0.grown hg1 (by simp) (by intro k hk; simp [Value.ownBlock] at hk; omega)
    simp only [Nat.zero_add, List.nil_append] at hown1
    obtain ⟨A1, c1, hv⟩ := own_shape hown1
    rw [hv] at hown1
    go_ret
    refine ⟨A1, c1, by rw [← hv]; rfl, ⟨vs, hown1, ER.flat_mono (S := fun b => S b ∧ b < w.heap.size) (fun b _ hb => ⟨hb.1, ?_⟩) (ER.flat_same (.of_below hbel) (ER.flat_mono (fun b hl hb => ⟨hb, hl⟩) hf))⟩, hbel⟩
    intro e
    have := (hown1.lt b e).1
    omega

theorem Try.info_sclone : (Try.prog.info? 57).map (fun i => (i.zero, i.size, i.bytes)) = some (some (.agg #[.int .i64 0, .slice none 0 0]), 2, 32) := by kernel_rfl

set_option maxHeartbeats 400000 in
theorem sclone_any (A : Option Addr) (l : List LSt) (c : Nat) (S : Nat → Prop) (w : World) (hb : SlS StE w S A l) :
    Calls Try.prog 41 #[.slice A l.length c] w (RetCl StE 57 S l w) := by
  obtain ⟨i0, hi0, hz0, hz1, hz2⟩ := info_parts Try.info_sclone
  have hle : l.length * 32 ≤ 140737488351232 := SlS.leb hb
  have hq := fun W : World => Lib.run_eql_slice_nil (P := Try.prog) W 31 57 A l.length c 0 0 Try.underlying31
  cases A with
  | none =>
    have h0 : l.length = 0 := by
      apply Classical.byContradiction; intro h
      obtain ⟨ad, vs, e, _⟩ := SlS.at_ hb (show 0 < l.length by omega)
      cases e
    obtain rfl : l = [] := List.length_eq_zero_iff.1 h0
    clear hle hb h0 hi0 hz0 hz1 hz2 i0 hq
    have hq := fun W : World => Lib.run_eql_slice_nil (P := Try.prog) W 31 57 none 0 c 0 0 Try.underlying31
    simp only [Option.isNone_none] at hq
    rw [List.length_nil]
    go_enter Try.func41, Try.ntmps41
    go_wp2_with fail
    go_ret
    exact ⟨none, 0, rfl, Own.nil_ _ _ _ _ _, Below.refl _ _⟩
  | some ad =>
    have b0 : Below w.heap.size w (w.alloc (.cells #[] 57)) := (Below.refl _ _).alloc (Nat.le_refl _) _
    obtain ⟨vs, hr0, hf⟩ := SlS.reads hb
    have hr := (hr0.below b0).more (show w.heap.size ≤ (w.alloc (.cells #[] 57)).heap.size by simp)
    have hone := ER.flat_one hf
    go_enter Try.func41, Try.ntmps41
    go_wp2_with (at_builtin; refine wpList_append_any _ rfl (.tmp 5) (.tmp 6) _ rfl w.heap.size 57 i0 _ 2 32 Try.underlying31 hi0 hz0 hz1 hz2 rfl (by omega) (.slice (some ⟨w.heap.size, 0, none⟩) 0 0) 0 [] rfl (World.ownsRow_made w #[] 0 (Nat.le_refl _) (by simp [maxLen]) rfl) (w.alloc (.cells #[] 57)).heap.size (some ad) l.length c vs rfl hr hone (by simp only [maxLen]; omega) (by omega) (by simp) ?_; intro v1 w1 hown1 hg1 hat1)
    have hbel : Below w.heap.size w w1 := b0.grown hg1 (by simp) (by intro k hk; simp [Value.ownBlock] at hk; omega)
    simp only [Nat.zero_add, List.nil_append] at hown1
    obtain ⟨A1, c1, hv⟩ := own_shape hown1
    rw [hv] at hown1
    go_ret
    refine ⟨A1, c1, by rw [← hv]; rfl, ⟨vs, hown1, ER.flat_mono (S := fun b => S b ∧ b < w.heap.size) (fun b _ hb => ⟨hb.1, ?_⟩) (ER.flat_same (.of_below hbel) (ER.flat_mono (fun b hl hb => ⟨hb, hl⟩) hf))⟩, hbel⟩
    intro e
    have := (hown1.lt b e).1
    omega

end Go.Proofs.Ytemidaamnldjmaa
