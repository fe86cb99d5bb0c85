/- bytes.Clone and slices.Clone of ints, of any slice, nil too. -/
import Derived.Test.YtemidaamnldjmaaBClone
namespace Go.Proofs.Ytemidaamnldjmaa
open Go.RowKit
/-- a fresh slice of ints is answered -/
def RetIs (l : List Int) (w : World) (e : Ending) (w' : World) : Prop :=
  ∃ A c, e = .returned (.slice A l.length c) ∧ w'.ownsRow w.heap.size 3 1 (.slice A l.length c) l.length (l.map (Value.int .i64)) ∧ Below w.heap.size w w'

theorem Try.infoI : (Try.prog.info? 3).map (fun i => (i.zero, i.size, i.bytes)) = some (some (.int .i64 0), 1, 8) := by kernel_rfl

set_option maxHeartbeats 400000 in
theorem iclone_any (A : Option Addr) (l : List Int) (c : Nat) (w : World) (hb : Is w A l) (hl : l.length ≤ 140737488351232 / 8) :
    Calls Try.prog 32 #[.slice A l.length c] w (RetIs l w) := by
  obtain ⟨i0, hi0, hz0, hz1, hz2⟩ := info_parts Try.infoI
  have hq := fun W : World => Lib.run_eql_slice_nil (P := Try.prog) W 53 3 A l.length c 0 0 Try.underlying53
  cases A with
  | none =>
    have h0 : l.length = 0 := by
      apply Classical.byContradiction; intro h
      obtain ⟨ad, e, _⟩ := hb.at_ (show 0 < l.length by omega)
      cases e
    obtain rfl : l = [] := List.length_eq_zero_iff.1 h0
    clear hl hb h0 hi0 hz0 hz1 hz2 i0 hq
    have hq := fun W : World => Lib.run_eql_slice_nil (P := Try.prog) W 53 3 none 0 c 0 0 Try.underlying53
    simp only [Option.isNone_none] at hq
    rw [List.length_nil]
    go_enter Try.func32, Try.ntmps32
    go_wp2_with fail
    go_ret
    exact ⟨none, 0, rfl, World.ownsRow_nil _ _ _ _, Below.refl _ _⟩
  | some ad =>
    have hone : ∀ u ∈ l.map (Value.int .i64), u.oneCell' = true := by
      intro u hu; obtain ⟨x, _, rfl⟩ := List.mem_map.1 hu; rfl
    go_enter Try.func32, Try.ntmps32
    go_wp2_with (at_builtin; refine wpList_append_any _ rfl (.tmp 5) (.tmp 6) _ rfl w.heap.size 3 i0 _ 1 8 Try.underlying53 hi0 hz0 hz1 hz2 rfl (by omega) (.slice (some ⟨w.heap.size, 0, none⟩) 0 0) 0 [] rfl (World.ownsRow_made w #[] 0 (Nat.le_refl _) (by simp [maxLen]) rfl) (w.alloc (.cells #[] 3)).heap.size (some ad) l.length c (l.map (Value.int .i64)) rfl (hb.below ((Below.refl _ _).alloc (Nat.le_refl _) _)).1 hone (by simp only [maxLen]; omega) (by omega) (by simp) ?_; intro v1 w1 hown1 hg1 hat1)
    have hbel : Below w.heap.size w w1 := ((Below.refl _ _).alloc (Nat.le_refl _) _).grown hg1 (by simp) (by intro k hk; simp [Value.ownBlock] at hk; omega)
    simp only [Nat.zero_add, List.nil_append] at hown1
    obtain ⟨A1, c1, hv⟩ := own_shape hown1
    rw [hv] at hown1
    go_ret
    exact ⟨A1, c1, by rw [← hv]; rfl, hown1, hbel⟩

end Go.Proofs.Ytemidaamnldjmaa
