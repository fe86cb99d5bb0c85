/- The first index of a name: slices.IndexFunc with catalog.Drop's closure; and that it is the only one. -/
import Derived.Test.YtkmigfponoagnaaCatE
namespace Go.Proofs.Ytkmigfponoagnaa
open Go.RowKit

theorem str_eq (a b : ByteArray) : (a.toList == b.toList) = decide (a = b) := by
  rw [ByteArray.toList_eq, ByteArray.toList_eq]
  by_cases h : a = b
  · subst h; simp
  · rw [decide_eq_false h, beq_eq_false_iff_ne]
    intro e
    exact h (by cases a; cases b; simp at e; rw [e])

/-- i is the place of an index of that name, or -1: there is none -/
def PosI (nm : ByteArray) (ixs : List LIx) (i : Int) : Prop :=
  (i = -1 ∧ ∀ k (h : k < ixs.length), ixs[k].name ≠ nm) ∨ ∃ (k : Nat) (h : k < ixs.length), i = k ∧ ixs[k].name = nm
def atI (nm : ByteArray) (ixs : List LIx) : Int := match ixs.findIdx? (fun x => decide (x.name = nm)) with | none => -1 | some i => (i : Int)
theorem PosI.at (nm : ByteArray) (ixs : List LIx) : PosI nm ixs (atI nm ixs) := by
  unfold atI
  split
  · rename_i h
    rw [List.findIdx?_eq_none_iff] at h
    refine .inl ⟨rfl, fun k hk e => ?_⟩
    have := h _ (List.getElem_mem hk)
    simp [e] at this
  · rename_i i h
    obtain ⟨hi, h1, _⟩ := List.findIdx?_eq_some_iff_getElem.1 h
    exact .inr ⟨i, hi, rfl, by simpa using h1⟩
theorem PosI.eq {nm : ByteArray} {ixs : List LIx} (hn : (ixs.map LIx.name).Nodup) {i j : Int} (h : PosI nm ixs i) (h' : PosI nm ixs j) : i = j := by
  rcases h with ⟨rfl, h⟩ | ⟨k, hk, rfl, h⟩ <;> rcases h' with ⟨rfl, h'⟩ | ⟨k', hk', rfl, h'⟩
  · rfl
  · exact absurd h' (h k' hk')
  · exact absurd h (h' k hk)
  · have hp := List.pairwise_iff_getElem.1 hn
    rcases Nat.lt_trichotomy k k' with hlt | rfl | hlt
    · have := hp k k' (by simpa using hk) (by simpa using hk') hlt
      rw [List.getElem_map, List.getElem_map, h, h'] at this
      exact absurd rfl this
    · rfl
    · have := hp k' k (by simpa using hk') (by simpa using hk) hlt
      rw [List.getElem_map, List.getElem_map, h, h'] at this
      exact absurd rfl this
theorem checkI_nodup {id keys : Int} {tn : ByteArray} {cols : List LCol} {ixs : List LIx} (h : checkI id keys tn cols ixs = 0) : (ixs.map LIx.name).Nodup := by
  unfold checkI at h
  repeat' split at h
  all_goals first | (exact absurd h (by decide)) | skip
  rename_i h7
  unfold twiceB at h7
  simpa using h7
theorem entryI_check {id keys : Int} {tn : ByteArray} {cols : List LCol} {ixs : List LIx} {sts : List LSt} (h : entryI id keys tn cols ixs sts = 0) : checkI id keys tn cols ixs = 0 := by
  unfold entryI at h
  by_cases hc : checkI id keys tn cols ixs = 0
  · exact hc
  · rw [if_pos hc] at h; exact h

theorem dropc_any (nm s : ByteArray) (g n c : Nat) (C : Option Addr) (u : Bool) (w : World) (hg : g < w.heap.size) (hb : w.cell? ⟨g, 0, none⟩ = some (.string nm)) :
    Calls Try.prog 31 #[.agg #[.string s, .slice C n c, .bool u], .pointer (some ⟨g, 0, none⟩)] w
      fun e w' => e = .returned (.bool (decide (s = nm))) ∧ Below w.heap.size w w' := by
  have hE := Lib.hid (str_eq s nm)
  go_enter Try.func31, Try.ntmps31
  go_wp2_with fail
  go_ret
  exact ⟨by rw [← hE.out]; rfl, (Below.refl _ _).alloc (Nat.le_refl _) _⟩

set_option maxHeartbeats 1000000 in
theorem ifunc_any (nm : ByteArray) (g cb : Nat) (B : Option Addr) (ixs : List LIx) (w : World) (hB : Sl IxE w B ixs) (hg : g < w.heap.size) (hb : w.cell? ⟨g, 0, none⟩ = some (.string nm)) :
    Calls Try.prog 30 #[.slice B ixs.length cb, .func (.func 31) #[] #[.pointer (some ⟨g, 0, none⟩)]] w
      fun e w' => ∃ i, e = .returned (.int .i64 i) ∧ PosI nm ixs i ∧ Below w.heap.size w w' := by
  have hl := hB.le
  go_enter Try.func30, Try.ntmps30
  go_wp2_with fail
  go_loopw [5, 8] (fun _ i wr => ∃ k : Nat, k ≤ ixs.length ∧ i = .int .i64 k ∧ (∀ j (h : j < ixs.length), j < k → ixs[j].name ≠ nm) ∧ Below w.heap.size w wr) (fun _ i _ => ixs.length - (intOf i).toNat)
  case atStart => exact ⟨0, Nat.zero_le _, rfl, fun j _ h => absurd h (by omega), Below.refl _ _⟩
  case round =>
    obtain ⟨k, hk, rfl, hno, hbel⟩ := hrel
    have HNO := Lib.hid hno
    clear hno
    by_cases hlt : k < ixs.length
    · obtain ⟨ad, C, c, rfl, hadb, c0, c1, c2, _⟩ := IxE.at_ (hB.below hbel) hlt
      have hs := hbel.size
      have hb' := (hbel.cell (p := ⟨g, 0, none⟩) hg).trans hb
      go_wp2_with fail
      refine (dropc_any nm ixs[k].name g ixs[k].cols.length c C ixs[k].uniq wr (by omega) hb').mono ?_
      rintro e w1 ⟨rfl, b1⟩
      have b01 := hbel.trans (b1.mono hs)
      by_cases he : ixs[k].name = nm
      · have HE := Lib.hid he
        have d : decide (ixs[k].name = nm) = true := decide_eq_true he
        rw [d]
        clear he d
        go_wp2_with fail
        go_ret
        exact ⟨_, rfl, .inr ⟨k, hlt, rfl, HE.out⟩, b01⟩
      · have HE := Lib.hid he
        have d : decide (ixs[k].name = nm) = false := decide_eq_false he
        rw [d]
        clear he d
        go_wp2_with fail
        go_roundw
        case rel => exact ⟨k + 1, by omega, by go_num, fun j hj h => (by by_cases e : j = k; (subst e; exact HE.out); exact HNO.out j hj (by omega)), b01⟩
        case measure => simp [intOf]; omega
    · obtain rfl : k = ixs.length := by omega
      go_wp2_with fail
      go_ret
      exact ⟨_, rfl, .inl ⟨rfl, fun j hj => HNO.out j hj hj⟩, hbel⟩

end Go.Proofs.Ytkmigfponoagnaa
