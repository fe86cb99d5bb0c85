/- A state's cursor in form: catalog.cursor. -/
import Derived.Test.YtemidaamnldjmaaEqual
import Derived.Test.YtemidaamnldjmaaPrefix
import Derived.BigQuiet
import Derived.Deep.RegionWith
import Derived.Deep.RegionHeld3
namespace Go.Proofs.Ytemidaamnldjmaa
open Go.RowKit

theorem nextN_len (l : List UInt8) : ∀ n, (nextN l n).length ≤ n
  | 0 => Nat.le_refl _
  | n + 1 => by
    unfold nextN
    split
    · have := nextN_len l n; omega
    · simp; omega

def pfx (id : Int) : List UInt8 := [114, UInt8.ofInt id]
def cursorB (id phase : Int) (cur : List UInt8) : Bool :=
  if phase = 0 then decide (cur.length = 0) else decide (cur.length ≤ 401) && (prefB cur (pfx id) || (cur == nextN (pfx id) 2))

set_option maxHeartbeats 1000000 in
theorem cursor_any (id keys phase : Int) (tn : ByteArray) (A B C : Option Addr) (n cc m ci c : Nat) (cur : List UInt8) (w : World) (hb : Bs w C cur) (hc : cur.length ≤ c ∧ c ≤ 9223372036854775807) :
    Calls Try.prog 23 #[.agg #[.int .i64 id, .string tn, .slice A n cc, .int .i64 keys, .slice B m ci], .agg #[.int .i64 phase, .slice C cur.length c]] w
      fun e w' => e = .returned (.bool (cursorB id phase cur)) ∧ Below w.heap.size w w' := by
  have b2 : Below w.heap.size w ((w.alloc (.cells #[.int .i64 id, .string tn, .slice A n cc, .int .i64 keys, .slice B m ci] 25)).alloc (.cells #[.int .i64 phase, .slice C cur.length c] 57)) :=
    ((Below.refl _ _).alloc (Nat.le_refl _) _).alloc (by simp) _
  go_enter Try.func23, Try.ntmps23
  by_cases h0 : phase = 0
  · subst h0
    have HE : Hid (cursorB id 0 cur = decide (cur.length = 0)) := by show _ = _; unfold cursorB; rw [if_pos rfl]
    go_wp2_with fail
    go_ret
    refine ⟨ret_bool ?_, b2⟩
    rw [HE.out, Bool.eq_iff_iff]; simp
  · have ht : (phase == 0) = false := by rw [beq_eq_false_iff_ne]; exact h0
    have HE : Hid (cursorB id phase cur = (decide (cur.length ≤ 401) && (prefB cur (pfx id) || (cur == nextN (pfx id) 2)))) := by show _ = _; unfold cursorB; rw [if_neg h0]
    clear h0
    go_wp2_with fail
    have hbs := (Blk.new (w.alloc (.cells #[.int .i64 id, .string tn, .slice A n cc, .int .i64 keys, .slice B m ci] 25)) 57 #[.int .i64 phase, .slice C cur.length c])
    refine (prefix_any _ _ _ _ _ _ _ _ _ _).mono ?_
    rintro e w1 ⟨A1, rfl, o1, b1⟩
    have hp : Bs w1 A1 (pfx id) := Bs.of_own (l := [114, UInt8.ofInt id]) o1 (by simp)
    have hb1 := (hb.below b2).below b1
    have b21 := b2.trans (b1.mono b2.size)
    have hbs1 := hbs.below b1 (by simp)
    have q1 : w1.cell? ⟨w.heap.size + 1, 1, none⟩ = some (.slice C cur.length c) := by simpa using hbs1.cell 1
    clear hbs hbs1
    by_cases h1 : 401 < cur.length
    · have HE2 : Hid (cursorB id phase cur = false) := by show _ = _; rw [HE.out, decide_eq_false (by omega), Bool.false_and]
      have hd : decide ((cur.length : Int) ≤ 401) = false := decide_eq_false (by omega)
      go_wp2_with fail
      go_quiet (fail)
      go_wp2_with fail
      go_ret
      exact ⟨by rw [HE2.out]; rfl, by first | exact below_drewN b21 _ | exact b21⟩
    · have hd : decide ((cur.length : Int) ≤ 401) = true := decide_eq_true (by omega)
      have HE1 : Hid (cursorB id phase cur = (prefB cur (pfx id) || (cur == nextN (pfx id) 2))) := by show _ = _; rw [HE.out, decide_eq_true (by omega), Bool.true_and]
      have hq : ∀ k, Calls Try.prog 43 #[.slice C cur.length c, .slice A1 2 2] (w1.drewN k) fun e w' => e = .returned (.bool (prefB cur (pfx id))) ∧ w' = w1.drewN k :=
        fun k => hasprefix_any C A1 cur (pfx id) c 2 _ (hb1.drewN k) (hp.drewN k) hc
      clear HE
      cases hpb : prefB cur (pfx id)
      · have HE2 : Hid (cursorB id phase cur = (cur == nextN (pfx id) 2)) := by show _ = _; rw [HE1.out, hpb, Bool.false_or]
        rw [hpb] at hq
        have HQ := Lib.hid hq
        clear hq hpb HE1
        go_wp2_with fail
        have hlen2 : (pfx id).length = 2 := rfl
        have hq1 : w1.drew.cell? ⟨w.heap.size + 1, 1, none⟩ = some (.slice C cur.length c) := q1
        cases hce : (cur == nextN (pfx id) 2)
        all_goals
          have HCE := Lib.hid hce
          clear hce
          go_region_held3 (fun w' => w'.cell? ⟨w.heap.size + 1, 1, none⟩ = some (.slice C cur.length c)) (first | assumption | go_keep)
            (first
              | (go_at_call 43; refine (HQ.out 1).mono ?_; rintro e w2 ⟨rfl, rfl⟩)
              | (go_at_call 45; refine (next_any A1 (pfx id) 2 _ (hp.drewN 1) ⟨Nat.le_refl _, by decide⟩).mono ?_; rintro e w3 ⟨A3, c3, rfl, o3, b3⟩; have q3 := (b3.cell (p := ⟨w.heap.size + 1, 1, none⟩) (by have := b1.size; simp at this ⊢; omega)).trans q1)
              | (go_at_call 44; refine (bequal_any C A3 cur (nextN (pfx id) (pfx id).length) c c3 w3 ((hb1.drewN 1).below b3) (Bs.of_own o3 (by have := nextN_len (pfx id) (pfx id).length; omega))).mono ?_; rw [show (cur == nextN (pfx id) (pfx id).length) = _ from HCE.out]; rintro e w4 ⟨rfl, rfl⟩))
          go_wp2_with fail
          go_ret
          exact ⟨by rw [HE2.out, HCE.out]; rfl, (below_drewN b21 1).trans (b3.mono b21.size)⟩
      · have HE2 : Hid (cursorB id phase cur = true) := by show _ = _; rw [HE1.out, hpb, Bool.true_or]
        rw [hpb] at hq
        have HQ := Lib.hid hq
        clear hq hpb HE1
        go_wp2_with fail
        go_quiet ((go_at_call 43; exact Calls.quiet_of_same (HQ.out _)))
        go_wp2_with fail
        go_ret
        exact ⟨by rw [HE2.out]; rfl, by first | exact below_drewN b21 _ | exact b21⟩

end Go.Proofs.Ytemidaamnldjmaa
