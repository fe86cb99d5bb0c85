/- strings.Builder at this dump: copyCheck and WriteRune over the shelf's words (IsBuilderF, OthersKept): the dump's copyCheck has no panic of its own (the loader refuses that place), so the shelf's contracts do not lie on it. text.low and text.Fold: each rune folded. caissonref02.Low, Put, Fold. -/
import Derived.Test.YtfededjcadmpbaaGreatDoorShelfR
import Derived.Test.YtfededjcadmpbaaGreatDoorMem
import Derived.BigCall
import Derived.Test.YtfededjcadmpbaaGreatDoorText
import Derived.Test.YtfededjcadmpbaaGreatDoorRunes
namespace Go.Proofs.YtfededjcadmpbaaGreatDoor
open Go.RowKit

set_option maxHeartbeats 2000000 in
set_option maxRecDepth 100000 in
theorem ccheck_any (B b : Nat) (bs : List Value) (w : World) (h : Lib.IsBuilderF 140 5 B b bs w) :
    Calls Tryz.prog 98 #[.pointer (some ⟨b, 0, none⟩)] w fun e w' => e = .returned (.tuple #[]) ∧ Lib.BuilderAtF 140 5 B b (.pointer (some ⟨b, 0, none⟩)) bs w' ∧ Below B w w' ∧ Lib.OthersKept 5 (some b) w w' := by
  obtain ⟨j, hj, hjs⟩ := Option.map_eq_some_iff.1 Tryz.Builder_Extra_169.sizeBuilder
  have hlies := Tryz.Builder_Extra_169.liesBuilder
  rcases h with h | h
  · have h0 := h.cell0
    have hsh := h.shape
    have hfz := h.frozen0
    go_enter Tryz.func98, Tryz.ntmps98
    go_wp2
    rw [Lib.run_to_unsafe w ⟨b, 0, none⟩ Tryz.underlying138 Tryz.underlying162 hj (by rw [hjs]; decide) hsh (Nat.zero_lt_succ 1)]
    simp only [Result.andThen]
    rw [Oper.upon_value]
    go_wp2
    rw [run_callFunc_extern Tryz.func102 (by kernel_rfl) (by kernel_rfl) (by kernel_rfl) (e := Extern.AbiNoEscape.same) (by kernel_rfl)]
    rw [Lib.run_noEscape]
    simp only [Result.andThen]
    rw [Oper.upon_value]
    go_wp2
    rw [Lib.run_from_unsafe w ⟨b, 0, none⟩ Tryz.underlying162 Tryz.underlying138 hj hsh hlies]
    simp only [Result.andThen]
    rw [Oper.upon_value]
    go_wp2
    go_end0
    exact ⟨rfl, h.used _, (Below.refl B w).setCell (p := ⟨b, 0, none⟩) h.1 _, (Lib.OthersKept.refl _ _ w).setCell ⟨b, 0, none⟩ rfl _⟩
  · have h0 := h.cell0
    go_enter Tryz.func98, Tryz.ntmps98
    go_wp2
    rw [Lib.run_neq_ptr_same w _ Tryz.underlying138 hj]
    go_wp2
    go_end0
    exact ⟨rfl, h, Below.refl B _, Lib.OthersKept.refl _ _ _⟩

set_option maxHeartbeats 4000000 in
set_option maxRecDepth 100000 in
theorem wrune_any (B b : Nat) (bs : List Value) (r : Int) (hr0 : -2147483648 ≤ r) (hr1 : r ≤ 2147483647) (w : World) (h : Lib.IsBuilderF 140 5 B b bs w) (hlen : bs.length + 4 ≤ 140737488355328) (hBw : B ≤ w.heap.size) :
    Calls Tryz.prog 90 #[.pointer (some ⟨b, 0, none⟩), .int .i32 r] w fun e w' => e = .returned (.tuple #[.int .i64 (Lib.runeCells r).length, .nilIface]) ∧ Lib.BuilderAtF 140 5 B b (.pointer (some ⟨b, 0, none⟩)) (bs ++ Lib.runeCells r) w' ∧ Below B w w' ∧ Lib.OthersKept 5 (some b) w w' := by
  have hk4 := Lib.runeCells_le r
  go_enter Tryz.func90, Tryz.ntmps90
  go_wp2_with (go_at_call 98; refine (ccheck_any B b bs _ h).mono ?_)
  rintro e w1 ⟨rfl, ⟨hB, v, hbk, hown, hne⟩, hb1, hk1⟩
  obtain ⟨ao, cap, rfl⟩ : ∃ ao cap, v = .slice ao bs.length cap := by
    rcases hown.2 with ⟨hv, h0⟩ | ⟨g, cap, cur, fz, hv, _⟩
    · exact ⟨none, 0, by rw [hv, h0]⟩
    · exact ⟨_, _, hv⟩
  have c0 : w1.cell? ⟨b, 0, none⟩ = some (.pointer (some ⟨b, 0, none⟩)) := by rw [Lib.cell_of_heap hbk]; rfl
  have c1 : w1.cell? ⟨b, 1, none⟩ = some (.slice ao bs.length cap) := by rw [Lib.cell_of_heap hbk]; rfl
  go_wp2_with (go_at_call 99; refine (Tryz.utf8_AppendRune_row B _ bs.length bs r hr0 hr1 _ hown hlen (by have := hb1.size; omega)).mono ?_)
  rintro e w2 ⟨v', rfl, hown', o, hgrow⟩
  have hlt : b < w1.heap.size := (Array.getElem?_eq_some_iff.1 hbk).1
  have hb2 : w2.heap[b]? = some (.cells #[.pointer (some ⟨b, 0, none⟩), .slice ao bs.length cap] 140 (0, 0)) := by
    rw [hgrow.block b (by simp; omega) (fun e => hne e.symm), Lib.alloc_old w1 _ b hlt]
    exact hbk
  have d0 : w2.cell? ⟨b, 0, none⟩ = some (.pointer (some ⟨b, 0, none⟩)) := by rw [Lib.cell_of_heap hb2]; rfl
  have d1 : w2.cell? ⟨b, 1, none⟩ = some (.slice ao bs.length cap) := by rw [Lib.cell_of_heap hb2]; rfl
  have f1 : w2.frozen? ⟨b, 1, none⟩ = false := Lib.frozen_of_heap hb2 1
  obtain ⟨g, cap', rfl⟩ : ∃ g cap', v' = .slice (some ⟨g, 0, none⟩) (bs.length + (Lib.runeCells r).length) cap' := by
    rcases hown'.2 with ⟨_, h0⟩ | ⟨g, cap', cur, fz, hv, _⟩
    · omega
    · exact ⟨g, cap', hv⟩
  go_wp2
  go_ret2
  refine ⟨?_, ?_, ?_, ((hk1.alloc _).grown hgrow (Lib.ownsRowF_kind (hown.alloc _))).setCell ⟨b, 1, none⟩ rfl _⟩
  · have e : ((bs.length : Int) + ((Lib.runeCells r).length : Int) - (bs.length : Int)) = ((Lib.runeCells r).length : Int) := by omega
    simp [e]
  · exact Lib.BuilderAtF.put (T := 140) (e := 5) hB hb2 (bs' := bs ++ Lib.runeCells r) (by simpa using hown') (by decide)
  · exact ((hb1.alloc (by have := hb1.size; omega) _).grown hgrow (by have := hb1.size; simp; omega) (fun k hk => (hown.lt k hk).1)).setCell (p := ⟨b, 1, none⟩) hB _
end Go.Proofs.YtfededjcadmpbaaGreatDoor

namespace Go.Proofs.YtfededjcadmpbaaGreatDoor
open Go.RowKit Go.Lib

def lowZ (c : Int) : Int :=
  if c = 215 ∨ c = 930 then c else if (65 ≤ c ∧ c ≤ 90) ∨ (192 ≤ c ∧ c ≤ 222) ∨ (913 ≤ c ∧ c ≤ 937) ∨ (1040 ≤ c ∧ c ≤ 1071) then c + 32 else c
theorem lowZ_same {c : Int} (h : c = 215 ∨ c = 930 ∨ ¬ ((65 ≤ c ∧ c ≤ 90) ∨ (192 ≤ c ∧ c ≤ 222) ∨ (913 ≤ c ∧ c ≤ 937) ∨ (1040 ≤ c ∧ c ≤ 1071))) : lowZ c = c := by
  unfold lowZ
  split
  · rfl
  · rw [if_neg (by omega)]
theorem lowZ_up {c : Int} (h1 : c ≠ 215) (h2 : c ≠ 930) (h : (65 ≤ c ∧ c ≤ 90) ∨ (192 ≤ c ∧ c ≤ 222) ∨ (913 ≤ c ∧ c ≤ 937) ∨ (1040 ≤ c ∧ c ≤ 1071)) : lowZ c = c + 32 := by
  unfold lowZ
  rw [if_neg (by omega), if_pos h]
theorem lowZ_le (c : Int) : c ≤ lowZ c ∧ lowZ c ≤ c + 32 := by
  unfold lowZ
  split
  · omega
  · split <;> omega
theorem between_t {c lo hi : Int} (h1 : lo ≤ c) (h2 : c ≤ hi) (w : World) : Calls Tryz.prog 100 #[.int .i32 c, .int .i32 lo, .int .i32 hi] w fun e w' => e = .returned (.bool true) ∧ w' = w := by
  go_enter Tryz.func100, Tryz.ntmps100
  go_wp2_with fail
  go_ret
  exact ⟨rfl, rfl⟩
theorem between_f {c lo hi : Int} (h : c < lo ∨ hi < c) (w : World) : Calls Tryz.prog 100 #[.int .i32 c, .int .i32 lo, .int .i32 hi] w fun e w' => e = .returned (.bool false) ∧ w' = w := by
  by_cases h1 : lo ≤ c
  · have h2 : ¬ c ≤ hi := by omega
    clear h
    go_enter Tryz.func100, Tryz.ntmps100
    go_wp2_with fail
    go_ret
    exact ⟨rfl, rfl⟩
  · clear h
    go_enter Tryz.func100, Tryz.ntmps100
    go_wp2_with fail
    go_ret
    exact ⟨rfl, rfl⟩

set_option maxRecDepth 100000 in
set_option maxHeartbeats 1000000 in
theorem low_any (c : Int) (h0 : 0 ≤ c) (h1 : c ≤ 1114111) (w : World) : Calls Tryz.prog 91 #[.int .i32 c] w fun e w' => e = .returned (.int .i32 (lowZ c)) ∧ w' = w := by
  by_cases ha : c = 215
  · have HL := Lib.hid (lowZ_same (c := c) (.inl ha))
    have d1 : (c == 215) = true := by rw [ha]; rfl
    clear ha
    go_enter Tryz.func91, Tryz.ntmps91
    go_wp2_with fail
    go_ret
    exact ⟨by rw [HL.out]; rfl, rfl⟩
  have d1 : (c == 215) = false := by rw [beq_eq_false_iff_ne]; exact ha
  by_cases hb : c = 930
  · have HL := Lib.hid (lowZ_same (c := c) (.inr (.inl hb)))
    have d2 : (c == 930) = true := by rw [hb]; rfl
    clear ha hb
    go_enter Tryz.func91, Tryz.ntmps91
    go_wp2_with fail
    go_ret
    exact ⟨by rw [HL.out]; rfl, rfl⟩
  have d2 : (c == 930) = false := by rw [beq_eq_false_iff_ne]; exact hb
  by_cases hc : (65 ≤ c ∧ c ≤ 90) ∨ (192 ≤ c ∧ c ≤ 222) ∨ (913 ≤ c ∧ c ≤ 937) ∨ (1040 ≤ c ∧ c ≤ 1071)
  · have HL := Lib.hid (lowZ_up ha hb hc)
    have hw : c + 32 ≤ 2147483647 := by omega
    rcases hc with hc | hc | hc | hc
    all_goals
      clear ha hb
      obtain ⟨hc1, hc2⟩ := hc
      go_enter Tryz.func91, Tryz.ntmps91
      go_wp2_with (go_at_call 100; (first | refine (between_t (by omega) (by omega) _).mono ?_ | refine (between_f (by omega) _).mono ?_); rintro en wv ⟨rfl, rfl⟩)
      go_ret
      exact ⟨by rw [HL.out]; rfl, rfl⟩
  · have HL := Lib.hid (lowZ_same (c := c) (.inr (.inr hc)))
    have HC := Lib.hid hc
    clear ha hb hc
    go_enter Tryz.func91, Tryz.ntmps91
    go_wp2_with (go_at_call 100; (refine (between_f (by have := HC.out; omega) _).mono ?_); rintro en wv ⟨rfl, rfl⟩)
    go_ret
    exact ⟨by rw [HL.out]; rfl, rfl⟩

/-- a text folded: its bytes -/
def foldFrom (s : ByteArray) (f pos : Nat) : List UInt8 := (runesFrom s f pos).flatMap fun p => Lib.encodeRune (lowZ p.1)
def foldL (s : ByteArray) : List UInt8 := foldFrom s s.size 0
theorem decode_top (s : ByteArray) (i : Nat) : (Utf8.decode s i).1 ≤ 1114111 := by
  rw [Lib.decode_at]
  unfold decodeN
  repeat' split
  all_goals (simp only []; try omega)

set_option maxRecDepth 100000 in
set_option maxHeartbeats 1000000 in
theorem fold_any (s : ByteArray) (hs : s.size ≤ 17592186043904) (w : World) : Calls Tryz.prog 78 #[.string s] w fun e w' => e = .returned (.string ⟨(foldL s).toArray⟩) ∧ Below w.heap.size w w' := by
  have hI0 := (Lib.IsBuilderF.of (Lib.fresh_isBuilder 140 5 w)).alloc (.stringIter s 0)
  have hb0 : Below w.heap.size w ((w.alloc (.cells #[.pointer none, .slice none 0 0] 140)).iter s 0) := ((Below.refl _ w).alloc (Nat.le_refl _) _).alloc (by simp) _
  have hk0 : ((w.alloc (.cells #[.pointer none, .slice none 0 0] 140)).iter s 0).heap[w.heap.size + 1]? = some (.stringIter s 0) := by
    have := World.iter_heap (w.alloc (.cells #[.pointer none, .slice none 0 0] 140)) s 0
    simpa using this
  go_enter Tryz.func78, Tryz.ntmps78
  go_wp2_with fail
  go_loopw [5] (fun _ wr => ∃ (pos b : Nat) (acc : List UInt8), Lib.IsBuilderF 140 5 w.heap.size w.heap.size (Lib.byteCells acc) wr ∧ wr.heap[w.heap.size + 1]? = some (.stringIter s pos) ∧ Below w.heap.size w wr ∧ acc ++ foldFrom s b pos = foldL s ∧ s.size ≤ pos + b ∧ acc.length ≤ 4 * pos ∧ pos ≤ s.size + 4) (fun _ wr => s.size - wr.iterPos (w.heap.size + 1))
  case atStart => exact ⟨0, s.size, [], hI0, hk0, hb0, rfl, by omega, by simp, by omega⟩
  case round =>
    clear hI0 hk0 hb0
    obtain ⟨pos, b, acc, hI, hk, hbw, hacc, hz, hal, hp4⟩ := hrel
    have hsz : w.heap.size + 1 < wr.heap.size := (Array.getElem?_eq_some_iff.1 hk).1
    have HA := Lib.hid hacc
    have HK := Lib.hid hk
    clear hacc
    by_cases hp : pos < s.size
    · have hnx : ∀ ty, (Instr.next (.pointer (some ⟨w.heap.size + 1, 0, none⟩)) true ty).run Tryz.prog wr = _ := fun ty => run_next_any_at wr (w.heap.size + 1) s pos ty hk hp
      have hwd := Lib.decode_width_pos s pos hp
      have htop := decode_top s pos
      have hI2 := hI.iterAt hk (pos + (Utf8.decode s pos).2)
      have hk2 := Lib.iterAt_heap wr (w.heap.size + 1) s pos (pos + (Utf8.decode s pos).2) hk
      have hbw2 := Lib.below_iterAt hbw (k := w.heap.size + 1) (by omega) s (pos + (Utf8.decode s pos).2)
      have hsz2 : w.heap.size ≤ (wr.iterAt (w.heap.size + 1) s (pos + (Utf8.decode s pos).2)).heap.size := by rw [Lib.iterAt_size]; omega
      obtain ⟨b, rfl⟩ : ∃ b', b = b' + 1 := ⟨b - 1, by omega⟩
      have hun : foldFrom s (b + 1) pos = Lib.encodeRune (lowZ (Utf8.decode s pos).1) ++ foldFrom s b (pos + (Utf8.decode s pos).2) := by
        unfold foldFrom
        rw [show runesFrom s (b + 1) pos = _ from if_pos hp]
        rfl
      have hw4 := width_le s pos
      clear hk
      go_wp2_with fail
      refine (low_any _ (by omega) (by omega) _).mono ?_
      rintro en wv ⟨rfl, rfl⟩
      have hle := lowZ_le ((Utf8.decode s pos).1 : Int)
      go_wp2_with fail
      refine (wrune_any w.heap.size w.heap.size _ _ (by omega) (by omega) _ hI2 (by rw [Lib.byteCells_length]; omega) hsz2).mono ?_
      rintro en W1 ⟨rfl, h1, b1, k1⟩
      have HUN := Lib.hid hun
      clear hun hI2
      go_wp2_with fail
      go_roundw
      case rel =>
        have hl4 := Lib.runeCells_le (lowZ ((Utf8.decode s pos).1 : Int))
        rw [Lib.runeCells_length] at hl4
        refine ⟨pos + (Utf8.decode s pos).2, b, acc ++ Lib.encodeRune (lowZ (Utf8.decode s pos).1), ?_, k1.iter hk2 (by omega), hbw2.trans b1, ?_, by omega, by simp; omega, by omega⟩
        · rw [Lib.byteCells_append, Lib.byteCells_encodeRune]; exact Or.inr h1
        · rw [← HA.out, HUN.out, List.append_assoc]
      case measure =>
        simp only [World.iterPos, k1.iter hk2 (by omega), HK.out]
        omega
    · have hnx : ∀ ty, (Instr.next (.pointer (some ⟨w.heap.size + 1, 0, none⟩)) true ty).run Tryz.prog wr = _ := fun ty => run_next_end_at wr (w.heap.size + 1) s pos ty hk hp
      have HE : Hid (acc = foldL s) := by
        show _ = _
        rw [← HA.out]; unfold foldFrom; rw [runesFrom_end s b pos hp]; simp
      clear hk
      go_wp2_with fail
      refine (Tryz.Builder_String_any_k w.heap.size w.heap.size acc _ hI (by omega)).mono ?_
      rintro en W1 ⟨rfl, _, b1, _⟩
      go_wp2_with fail
      go_ret
      exact ⟨by rw [HE.out]; rfl, hbw.trans b1⟩
end Go.Proofs.YtfededjcadmpbaaGreatDoor

namespace Go.Proofs.YtfededjcadmpbaaGreatDoor
open Go.RowKit

set_option maxRecDepth 100000 in
set_option maxHeartbeats 1000000 in
theorem rlow_any (c : Int) (h0 : 0 ≤ c) (h1 : c ≤ 1114111) (w : World) : Calls Tryz.prog 96 #[.int .i64 c] w fun e w' => e = .returned (.int .i64 (lowZ c)) ∧ w' = w := by
  by_cases ha : c = 215
  · have HL := Lib.hid (lowZ_same (c := c) (.inl ha))
    have d1 : (c == 215) = true := by rw [ha]; rfl
    clear ha
    go_enter Tryz.func96, Tryz.ntmps96
    go_wp2_with fail
    go_ret
    exact ⟨by rw [HL.out]; rfl, rfl⟩
  have d1 : (c == 215) = false := by rw [beq_eq_false_iff_ne]; exact ha
  by_cases hb : c = 930
  · have HL := Lib.hid (lowZ_same (c := c) (.inr (.inl hb)))
    have d2 : (c == 930) = true := by rw [hb]; rfl
    clear ha hb
    go_enter Tryz.func96, Tryz.ntmps96
    go_wp2_with fail
    go_ret
    exact ⟨by rw [HL.out]; rfl, rfl⟩
  have d2 : (c == 930) = false := by rw [beq_eq_false_iff_ne]; exact hb
  by_cases hc : (65 ≤ c ∧ c ≤ 90) ∨ (192 ≤ c ∧ c ≤ 222) ∨ (913 ≤ c ∧ c ≤ 937) ∨ (1040 ≤ c ∧ c ≤ 1071)
  · have HL := Lib.hid (lowZ_up ha hb hc)
    rcases hc with hc | hc | hc | hc
    all_goals
      clear ha hb
      obtain ⟨hc1, hc2⟩ := hc
      go_enter Tryz.func96, Tryz.ntmps96
      go_wp2_with fail
      go_ret
      exact ⟨by rw [HL.out]; rfl, rfl⟩
  · have HL := Lib.hid (lowZ_same (c := c) (.inr (.inr hc)))
    rcases (by omega : c < 65 ∨ (90 < c ∧ c < 192) ∨ (222 < c ∧ c < 913) ∨ (937 < c ∧ c < 1040) ∨ 1071 < c) with hd | hd | hd | hd | hd
    all_goals
      clear ha hb hc
      go_enter Tryz.func96, Tryz.ntmps96
      go_wp2_with fail
      go_ret
      exact ⟨by rw [HL.out]; rfl, rfl⟩

theorem ret_rune {c : Int} {w : World} {zs : List Int} (hz : Lib.encodeRuneZ c = zs) : RetBs (Lib.encodeRune c) w (.returned (.slice (some ⟨w.heap.size, 0, none⟩) zs.length zs.length)) (w.alloc (.cells (zs.map (Value.int .u8)).toArray 5)) := by
  have hl : (Lib.encodeRune c).length = zs.length := by simp [Lib.encodeRune, hz]
  have hm : (Lib.encodeRune c).map bval = zs.map (Value.int .u8) := by
    have := Lib.byteCells_encodeRune c
    unfold Lib.runeCells at this
    rw [hz] at this
    exact this
  have h4 := Lib.encodeRuneZ_length c
  rw [hz] at h4
  refine ⟨some ⟨w.heap.size, 0, none⟩, zs.length, by rw [hl], ?_, (Below.refl _ _).alloc (Nat.le_refl _) _⟩
  rw [hm, hl]
  have o := own_of_blk (w := w.alloc (.cells (zs.map (Value.int .u8)).toArray 5)) (g := w.heap.size) (base := w.heap.size) (t := 5) (xs := zs.map (Value.int .u8)) (Blk.new w _ _) (Nat.le_refl _) (by simp [maxLen]; omega)
  simpa using o

set_option maxRecDepth 100000 in
set_option maxHeartbeats 1000000 in
theorem rput_any (c : Int) (h0 : 0 ≤ c) (h1 : c ≤ 1114111) (w : World) : Calls Tryz.prog 95 #[.int .i64 c] w (RetBs (Lib.encodeRune c) w) := by
  rcases (by omega : c < 128 ∨ (128 ≤ c ∧ c < 2048) ∨ (2048 ≤ c ∧ c < 55296) ∨ (55296 ≤ c ∧ c ≤ 57343) ∨ (57343 < c ∧ c < 65536) ∨ 65536 ≤ c) with ha | ha | ha | ha | ha | ha
  · have HE := Lib.hid (Lib.encodeRuneZ_one h0 (by omega))
    go_enter Tryz.func95, Tryz.ntmps95
    go_wp2_with fail
    go_ret
    exact ret_rune HE.out
  · have HE := Lib.hid (Lib.encodeRuneZ_two (r := c) (by omega) (by omega))
    go_enter Tryz.func95, Tryz.ntmps95
    go_wp2_with fail
    go_ret
    exact ret_rune HE.out
  · have HE := Lib.hid (Lib.encodeRuneZ_three (r := c) (by omega))
    go_enter Tryz.func95, Tryz.ntmps95
    go_wp2_with fail
    go_ret
    exact ret_rune HE.out
  · have HE := Lib.hid (Lib.encodeRuneZ_bad (r := c) (by omega))
    go_enter Tryz.func95, Tryz.ntmps95
    go_wp2_with fail
    go_ret
    exact ret_rune HE.out
  · have HE := Lib.hid (Lib.encodeRuneZ_three (r := c) (by omega))
    go_enter Tryz.func95, Tryz.ntmps95
    go_wp2_with fail
    go_ret
    exact ret_rune HE.out
  · have HE := Lib.hid (Lib.encodeRuneZ_four (r := c) (by omega) (by omega))
    go_enter Tryz.func95, Tryz.ntmps95
    go_wp2_with fail
    go_ret
    exact ret_rune HE.out
end Go.Proofs.YtfededjcadmpbaaGreatDoor
