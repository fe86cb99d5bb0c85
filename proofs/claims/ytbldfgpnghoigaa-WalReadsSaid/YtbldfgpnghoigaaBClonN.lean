/- bytes.Clone. -/
import Derived.Test.YtbldfgpnghoigaaSl
import Derived.Lib.SliceRun
namespace Go.Proofs.Ytbldfgpnghoigaa
open Go.RowKit

set_option maxHeartbeats 400000 in
theorem bclone_any (A : Option Addr) (l : List UInt8) (c : Nat) (w : World) (hb : Bs w A l) :
    Calls Try.prog 49 #[.slice A l.length c] w (RetBs l w) := by
  have hl := hb.le
  obtain ⟨i0, hi0, hz0, hz1, hz2⟩ := info_parts Try.infoU8
  have hq := fun W : World => Lib.run_eql_slice_nil (P := Try.prog) W 40 5 A l.length c 0 0 Try.underlying40
  cases A with
  | none =>
    have h0 : l.length = 0 := by
      apply Classical.byContradiction; intro h
      obtain ⟨ad, e, _⟩ := hb.at_ (show 0 < l.length by omega)
      cases e
    obtain rfl : l = [] := List.length_eq_zero_iff.1 h0
    clear hl hb h0 hi0 hz0 hz1 hz2 i0 hq
    have hq := fun W : World => Lib.run_eql_slice_nil (P := Try.prog) W 40 5 none 0 c 0 0 Try.underlying40
    simp only [Option.isNone_none] at hq
    rw [List.length_nil]
    go_enter Try.func49, Try.ntmps49
    go_wp2_with fail
    go_ret
    exact ⟨none, 0, rfl, World.ownsRow_nil _ _ _ _, Below.refl _ _⟩
  | some ad =>
    go_enter Try.func49, Try.ntmps49
    go_wp2_with (at_builtin; refine wpList_append_any _ rfl (.tmp 5) (.tmp 6) _ rfl w.heap.size 5 i0 _ 1 1 Try.underlying40 hi0 hz0 hz1 hz2 rfl (by omega) (.slice (some ⟨w.heap.size, 0, none⟩) 0 0) 0 [] rfl (World.ownsRow_made w #[] 0 (Nat.le_refl _) (by simp [maxLen]) rfl) (w.alloc (.cells #[] 5)).heap.size (some ad) l.length c (l.map bval) rfl (hb.alloc _).1 (oneCell_bytes l) (by simp only [maxLen]; omega) (by omega) (by simp) ?_; intro v1 w1 hown1 hg1 hat1)
    have hbel : Below w.heap.size w w1 := ((Below.refl _ _).alloc (Nat.le_refl _) _).grown hg1 (by simp) (by intro k hk; simp [Value.ownBlock] at hk; omega)
    simp only [Nat.zero_add, List.nil_append] at hown1
    obtain ⟨A1, c1, hv⟩ := own_shape hown1
    rw [hv] at hown1
    go_ret
    exact ⟨A1, c1, by rw [← hv]; rfl, hown1, hbel⟩

end Go.Proofs.Ytbldfgpnghoigaa
