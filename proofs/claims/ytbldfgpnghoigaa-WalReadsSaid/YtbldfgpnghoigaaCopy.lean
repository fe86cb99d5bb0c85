/- Copies and equality of lists of bytes: the references' shared functions. -/
import Derived.Test.YtbldfgpnghoigaaMem
import Derived.Test.YtbldfgpnghoigaaEqR
namespace Go.Proofs.Ytbldfgpnghoigaa
open Go.RowKit

set_option maxHeartbeats 400000 in
theorem copy_any (A : Option Addr) (l : List UInt8) (c : Nat) (w : World) (hb : Bs w A l) :
    Calls Try.prog 18 #[.slice A l.length c] w (RetBs l w) := by
  have hl := hb.le
  obtain ⟨i0, hi0, hz0, hz1, hz2⟩ := info_parts Try.infoU8
  go_enter Try.func18, Try.ntmps18
  go_wp2_with (at_builtin; refine wpList_append_any _ rfl (.tmp 3) (.tmp 4) _ rfl w.heap.size 5 i0 _ 1 1 Try.underlying40 hi0 hz0 hz1 hz2 rfl (by omega) (.slice (some ⟨w.heap.size, 0, none⟩) 0 0) 0 [] rfl (World.ownsRow_made w #[] 0 (Nat.le_refl _) (by simp [maxLen]) rfl) (w.alloc (.cells #[] 5)).heap.size A l.length c (l.map bval) rfl (hb.alloc _).1 (oneCell_bytes l) (by simp only [maxLen]; omega) (by omega) (by simp) ?_; intro v1 w1 hown1 hg1 hat1)
  have hbel : Below w.heap.size w w1 := ((Below.refl _ _).alloc (Nat.le_refl _) _).grown hg1 (by simp) (by intro k hk; simp [Value.ownBlock] at hk; omega)
  simp only [Nat.zero_add, List.nil_append] at hown1
  obtain ⟨A1, c1, hv⟩ := own_shape hown1
  rw [hv] at hown1
  go_ret
  exact ⟨A1, c1, by rw [← hv]; rfl, hown1, hbel⟩

end Go.Proofs.Ytbldfgpnghoigaa
