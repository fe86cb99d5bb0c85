/- text.low and text.Fold: each rune folded. -/
import Derived.Test.YtfededjcadmpbaaDoorBld
import Derived.Test.YtfededjcadmpbaaDoorText
import Derived.Test.YtfededjcadmpbaaDoorRunes
namespace Go.Proofs.YtfededjcadmpbaaDoor
open Go.RowKit Go.Lib

def lowZ (c : Int) : Int :=
  if c = 215 ∨ c = 930 then c else if (65 ≤ c ∧ c ≤ 90) ∨ (192 ≤ c ∧ c ≤ 222) ∨ (913 ≤ c ∧ c ≤ 937) ∨ (1040 ≤ c ∧ c ≤ 1071) then c + 32 else c
theorem lowZ_same {c : Int} (h : c = 215 ∨ c = 930 ∨ ¬ ((65 ≤ c ∧ c ≤ 90) ∨ (192 ≤ c ∧ c ≤ 222) ∨ (913 ≤ c ∧ c ≤ 937) ∨ (1040 ≤ c ∧ c ≤ 1071))) : lowZ c = c := by
  unfold lowZ
  split
  · rfl
  · rw [if_neg (by omega)]
theorem lowZ_up {c : Int} (h1 : c ≠ 215) (h2 : c ≠ 930) (h : (65 ≤ c ∧ c ≤ 90) ∨ (192 ≤ c ∧ c ≤ 222) ∨ (913 ≤ c ∧ c ≤ 937) ∨ (1040 ≤ c ∧ c ≤ 1071)) : lowZ c = c + 32 := by
  unfold lowZ
  rw [if_neg (by omega), if_pos h]
theorem lowZ_le (c : Int) : c ≤ lowZ c ∧ lowZ c ≤ c + 32 := by
  unfold lowZ
  split
  · omega
  · split <;> omega
theorem between_t {c lo hi : Int} (h1 : lo ≤ c) (h2 : c ≤ hi) (w : World) : Calls Tryd.prog 122 #[.int .i32 c, .int .i32 lo, .int .i32 hi] w fun e w' => e = .returned (.bool true) ∧ w' = w := by
  go_enter Tryd.func122, Tryd.ntmps122
  go_wp2_with fail
  go_ret
  exact ⟨rfl, rfl⟩
theorem between_f {c lo hi : Int} (h : c < lo ∨ hi < c) (w : World) : Calls Tryd.prog 122 #[.int .i32 c, .int .i32 lo, .int .i32 hi] w fun e w' => e = .returned (.bool false) ∧ w' = w := by
  by_cases h1 : lo ≤ c
  · have h2 : ¬ c ≤ hi := by omega
    clear h
    go_enter Tryd.func122, Tryd.ntmps122
    go_wp2_with fail
    go_ret
    exact ⟨rfl, rfl⟩
  · clear h
    go_enter Tryd.func122, Tryd.ntmps122
    go_wp2_with fail
    go_ret
    exact ⟨rfl, rfl⟩

set_option maxRecDepth 100000 in
set_option maxHeartbeats 1000000 in
theorem low_any (c : Int) (h0 : 0 ≤ c) (h1 : c ≤ 1114111) (w : World) : Calls Tryd.prog 109 #[.int .i32 c] w fun e w' => e = .returned (.int .i32 (lowZ c)) ∧ w' = w := by
  by_cases ha : c = 215
  · have HL := Lib.hid (lowZ_same (c := c) (.inl ha))
    have d1 : (c == 215) = true := by rw [ha]; rfl
    clear ha
    go_enter Tryd.func109, Tryd.ntmps109
    go_wp2_with fail
    go_ret
    exact ⟨by rw [HL.out]; rfl, rfl⟩
  have d1 : (c == 215) = false := by rw [beq_eq_false_iff_ne]; exact ha
  by_cases hb : c = 930
  · have HL := Lib.hid (lowZ_same (c := c) (.inr (.inl hb)))
    have d2 : (c == 930) = true := by rw [hb]; rfl
    clear ha hb
    go_enter Tryd.func109, Tryd.ntmps109
    go_wp2_with fail
    go_ret
    exact ⟨by rw [HL.out]; rfl, rfl⟩
  have d2 : (c == 930) = false := by rw [beq_eq_false_iff_ne]; exact hb
  by_cases hc : (65 ≤ c ∧ c ≤ 90) ∨ (192 ≤ c ∧ c ≤ 222) ∨ (913 ≤ c ∧ c ≤ 937) ∨ (1040 ≤ c ∧ c ≤ 1071)
  · have HL := Lib.hid (lowZ_up ha hb hc)
    have hw : c + 32 ≤ 2147483647 := by omega
    rcases hc with hc | hc | hc | hc
    all_goals
      clear ha hb
      obtain ⟨hc1, hc2⟩ := hc
      go_enter Tryd.func109, Tryd.ntmps109
      go_wp2_with (go_at_call 122; (first | refine (between_t (by omega) (by omega) _).mono ?_ | refine (between_f (by omega) _).mono ?_); rintro en wv ⟨rfl, rfl⟩)
      go_ret
      exact ⟨by rw [HL.out]; rfl, rfl⟩
  · have HL := Lib.hid (lowZ_same (c := c) (.inr (.inr hc)))
    have HC := Lib.hid hc
    clear ha hb hc
    go_enter Tryd.func109, Tryd.ntmps109
    go_wp2_with (go_at_call 122; (refine (between_f (by have := HC.out; omega) _).mono ?_); rintro en wv ⟨rfl, rfl⟩)
    go_ret
    exact ⟨by rw [HL.out]; rfl, rfl⟩

/-- a text folded: its bytes -/
def foldFrom (s : ByteArray) (f pos : Nat) : List UInt8 := (runesFrom s f pos).flatMap fun p => Lib.encodeRune (lowZ p.1)
def foldL (s : ByteArray) : List UInt8 := foldFrom s s.size 0
theorem decode_top (s : ByteArray) (i : Nat) : (Utf8.decode s i).1 ≤ 1114111 := by
  rw [Lib.decode_at]
  unfold decodeN
  repeat' split
  all_goals (simp only []; try omega)

set_option maxRecDepth 100000 in
set_option maxHeartbeats 1000000 in
theorem fold_any (s : ByteArray) (hs : s.size ≤ 17592186043904) (w : World) : Calls Tryd.prog 86 #[.string s] w fun e w' => e = .returned (.string ⟨(foldL s).toArray⟩) ∧ Below w.heap.size w w' := by
  have hI0 := (Lib.IsBuilderF.of (Lib.fresh_isBuilder 162 5 w)).alloc (.stringIter s 0)
  have hb0 : Below w.heap.size w ((w.alloc (.cells #[.pointer none, .slice none 0 0] 162)).iter s 0) := ((Below.refl _ w).alloc (Nat.le_refl _) _).alloc (by simp) _
  have hk0 : ((w.alloc (.cells #[.pointer none, .slice none 0 0] 162)).iter s 0).heap[w.heap.size + 1]? = some (.stringIter s 0) := by
    have := World.iter_heap (w.alloc (.cells #[.pointer none, .slice none 0 0] 162)) s 0
    simpa using this
  go_enter Tryd.func86, Tryd.ntmps86
  go_wp2_with fail
  go_loopw [5] (fun _ wr => ∃ (pos b : Nat) (acc : List UInt8), Lib.IsBuilderF 162 5 w.heap.size w.heap.size (Lib.byteCells acc) wr ∧ wr.heap[w.heap.size + 1]? = some (.stringIter s pos) ∧ Below w.heap.size w wr ∧ acc ++ foldFrom s b pos = foldL s ∧ s.size ≤ pos + b ∧ acc.length ≤ 4 * pos ∧ pos ≤ s.size + 4) (fun _ wr => s.size - wr.iterPos (w.heap.size + 1))
  case atStart => exact ⟨0, s.size, [], hI0, hk0, hb0, rfl, by omega, by simp, by omega⟩
  case round =>
    clear hI0 hk0 hb0
    obtain ⟨pos, b, acc, hI, hk, hbw, hacc, hz, hal, hp4⟩ := hrel
    have hsz : w.heap.size + 1 < wr.heap.size := (Array.getElem?_eq_some_iff.1 hk).1
    have HA := Lib.hid hacc
    have HK := Lib.hid hk
    clear hacc
    by_cases hp : pos < s.size
    · have hnx : ∀ ty, (Instr.next (.pointer (some ⟨w.heap.size + 1, 0, none⟩)) true ty).run Tryd.prog wr = _ := fun ty => run_next_any_at wr (w.heap.size + 1) s pos ty hk hp
      have hwd := Lib.decode_width_pos s pos hp
      have htop := decode_top s pos
      have hI2 := hI.iterAt hk (pos + (Utf8.decode s pos).2)
      have hk2 := Lib.iterAt_heap wr (w.heap.size + 1) s pos (pos + (Utf8.decode s pos).2) hk
      have hbw2 := Lib.below_iterAt hbw (k := w.heap.size + 1) (by omega) s (pos + (Utf8.decode s pos).2)
      have hsz2 : w.heap.size ≤ (wr.iterAt (w.heap.size + 1) s (pos + (Utf8.decode s pos).2)).heap.size := by rw [Lib.iterAt_size]; omega
      obtain ⟨b, rfl⟩ : ∃ b', b = b' + 1 := ⟨b - 1, by omega⟩
      have hun : foldFrom s (b + 1) pos = Lib.encodeRune (lowZ (Utf8.decode s pos).1) ++ foldFrom s b (pos + (Utf8.decode s pos).2) := by
        unfold foldFrom
        rw [show runesFrom s (b + 1) pos = _ from if_pos hp]
        rfl
      have hw4 := width_le s pos
      clear hk
      go_wp2_with fail
      refine (low_any _ (by omega) (by omega) _).mono ?_
      rintro en wv ⟨rfl, rfl⟩
      have hle := lowZ_le ((Utf8.decode s pos).1 : Int)
      go_wp2_with fail
      refine (wrune_any w.heap.size w.heap.size _ _ (by omega) (by omega) _ hI2 (by rw [Lib.byteCells_length]; omega) hsz2).mono ?_
      rintro en W1 ⟨rfl, h1, b1, k1⟩
      have HUN := Lib.hid hun
      clear hun hI2
      go_wp2_with fail
      go_roundw
      case rel =>
        have hl4 := Lib.runeCells_le (lowZ ((Utf8.decode s pos).1 : Int))
        rw [Lib.runeCells_length] at hl4
        refine ⟨pos + (Utf8.decode s pos).2, b, acc ++ Lib.encodeRune (lowZ (Utf8.decode s pos).1), ?_, k1.iter hk2 (by omega), hbw2.trans b1, ?_, by omega, by simp; omega, by omega⟩
        · rw [Lib.byteCells_append, Lib.byteCells_encodeRune]; exact Or.inr h1
        · rw [← HA.out, HUN.out, List.append_assoc]
      case measure =>
        simp only [World.iterPos, k1.iter hk2 (by omega), HK.out]
        omega
    · have hnx : ∀ ty, (Instr.next (.pointer (some ⟨w.heap.size + 1, 0, none⟩)) true ty).run Tryd.prog wr = _ := fun ty => run_next_end_at wr (w.heap.size + 1) s pos ty hk hp
      have HE : Hid (acc = foldL s) := by
        show _ = _
        rw [← HA.out]; unfold foldFrom; rw [runesFrom_end s b pos hp]; simp
      clear hk
      go_wp2_with fail
      refine (Tryd.Builder_String_any_k w.heap.size w.heap.size acc _ hI (by omega)).mono ?_
      rintro en W1 ⟨rfl, _, b1, _⟩
      go_wp2_with fail
      go_ret
      exact ⟨by rw [HE.out]; rfl, hbw.trans b1⟩
end Go.Proofs.YtfededjcadmpbaaDoor
