/- text.Len and text.Bad: as the model decodes. -/
import Derived.Test.YtfededjcadmpbaaGreatDoorRunes
import Derived.Lib.OthersKept
import Derived.Laws.RangeString
import Derived.Laws.RangeAny
import Derived.Test.YtfededjcadmpbaaGreatDoorShelf
namespace Go.Proofs.YtfededjcadmpbaaGreatDoor
open Go.RowKit Go.Lib

set_option maxRecDepth 100000 in
set_option maxHeartbeats 1000000 in
theorem len_any (s : ByteArray) (hs : s.size ≤ 140737488351232) (w : World) : Calls Tryz.prog 75 #[.string s] w fun e w' => e = .returned (.int .i64 ((runesL s).length : Int)) ∧ Below w.heap.size w w' := by
  have hbw : ∀ p, Below w.heap.size w (w.iter s p) := fun p => (Below.refl _ _).alloc (Nat.le_refl _) _
  rw [runesL_len]
  go_enter Tryz.func75, Tryz.ntmps75
  go_wp2_with fail
  go_loopw [3] (fun n w' => ∃ (pos b acc : Nat), w' = w.iter s pos ∧ n = .int .i64 acc ∧ acc + Lib.runeCountFrom s b pos = Lib.runeCount s ∧ s.size ≤ pos + b ∧ acc ≤ pos) (fun _ w' => s.size - w'.iterPos w.heap.size)
  case atStart => exact ⟨0, s.size, 0, rfl, rfl, by simp [Lib.runeCount], by omega, Nat.le_refl _⟩
  case round =>
    obtain ⟨pos, b, acc, rfl, rfl, hc, hb, ha⟩ := hrel
    by_cases hp : pos < s.size
    · have hnx : ∀ ty, (Instr.next (.pointer (some ⟨w.heap.size, 0, none⟩)) true ty).run Tryz.prog (w.iter s pos) = _ := fun ty => run_next_any w s pos ty hp
      have hwd := Lib.decode_width_pos s pos hp
      have HC := Lib.hid hc
      clear hc
      go_wp2_with fail
      go_roundw
      case rel =>
        obtain ⟨b, rfl⟩ : ∃ b', b = b' + 1 := ⟨b - 1, by omega⟩
        refine ⟨pos + (Utf8.decode s pos).2, b, acc + 1, rfl, by go_num, ?_, by omega, by omega⟩
        have := HC.out
        simp only [Lib.runeCountFrom, hp, if_true] at this
        omega
      case measure =>
        simp
        omega
    · have hnx : ∀ ty, (Instr.next (.pointer (some ⟨w.heap.size, 0, none⟩)) true ty).run Tryz.prog (w.iter s pos) = _ := fun ty => run_next_end w s pos ty hp
      rw [Lib.runeCountFrom_end s b pos hp, Nat.add_zero] at hc
      have HC := Lib.hid hc
      clear hc
      go_wp2_with fail
      go_ret
      exact ⟨by rw [← HC.out]; rfl, hbw _⟩

/-- the library's two tables as they are laid -/
def U8 (w : World) : Prop := Lib.Utf8Tabs 1 2 w
theorem U8.below {w w' : World} (h : U8 w) (hb : Below w.heap.size w w') : U8 w' :=
  ⟨fun c hc => (hb.cell (p := ⟨1, c, none⟩) (World.block_lt_of_cell? w _ (h.1 c hc))).trans (h.1 c hc), fun i hi =>
    ⟨(hb.cell (p := ⟨2, 2 * i, none⟩) (World.block_lt_of_cell? w _ (h.2 i hi).1)).trans (h.2 i hi).1, (hb.cell (p := ⟨2, 2 * i + 1, none⟩) (World.block_lt_of_cell? w _ (h.2 i hi).2)).trans (h.2 i hi).2⟩⟩

theorem extract_get (s : ByteArray) (pos j : Nat) : (s.extract pos s.size).get! j = s.get! (pos + j) := by
  show (s.extract pos s.size).data[j]! = s.data[pos + j]!
  rw [ByteArray.data_extract]
  by_cases h : pos + j < s.size
  · rw [getElem!_pos _ j (by simp; omega), getElem!_pos s.data (pos + j) h]
    simp
  · rw [getElem!_neg _ j (by simp; omega), getElem!_neg s.data (pos + j) h]
theorem decodeGo_extract (s : ByteArray) (pos : Nat) (h : pos < s.size) : Lib.decodeGo (s.extract pos s.size) = Utf8.decode s pos := by
  have hz : (s.extract pos s.size).size = s.size - pos := by simp
  unfold Lib.decodeGo
  rw [if_neg (by rw [hz]; omega), Lib.decode_at, Lib.decode_at, hz, extract_get, extract_get, extract_get, extract_get, Nat.sub_zero]
  simp only [Nat.add_zero, Nat.zero_add]

set_option maxRecDepth 100000 in
set_option maxHeartbeats 1000000 in
theorem bad_any (s : ByteArray) (w : World) (hu : U8 w) : Calls Tryz.prog 77 #[.string s] w (RetBad s w) := by
  have hbw : ∀ p, Below w.heap.size w (w.iter s p) := fun p => (Below.refl _ _).alloc (Nat.le_refl _) _
  go_enter Tryz.func77, Tryz.ntmps77
  go_wp2_with fail
  go_loopw [4, 5, 6, 7] (fun _ _ _ _ wr => ∃ (pos b : Nat), wr.heap[w.heap.size]? = some (.stringIter s pos) ∧ badFrom s b pos = badAt s ∧ s.size ≤ pos + b ∧ Below w.heap.size w wr) (fun _ _ _ _ wr => s.size - wr.iterPos w.heap.size)
  case atStart => exact ⟨0, s.size, World.iter_heap w s 0, rfl, by omega, hbw 0⟩
  case round =>
    obtain ⟨pos, b, hk, hb, hz, br⟩ := hrel
    have HB := Lib.hid hb
    have HK := Lib.hid hk
    have hpos : wr.iterPos w.heap.size = pos := by simp [World.iterPos, hk]
    have HPOS := Lib.hid hpos
    clear hb hpos
    by_cases hp : pos < s.size
    · have hnx : ∀ ty, (Instr.next (.pointer (some ⟨w.heap.size, 0, none⟩)) true ty).run Tryz.prog wr = _ := fun ty => run_next_any_at wr w.heap.size s pos ty hk hp
      have hwd := Lib.decode_width_pos s pos hp
      obtain ⟨b, rfl⟩ : ∃ b', b = b' + 1 := ⟨b - 1, by omega⟩
      have hun : badFrom s (b + 1) pos = if okAt s pos then badFrom s b (pos + (Utf8.decode s pos).2) else some pos := by
        show (if pos < s.size then _ else _) = _; rw [if_pos hp]
      have HI := Lib.hid (iterAt_heap wr w.heap.size s pos (pos + (Utf8.decode s pos).2) hk)
      have bi := below_iterAt br (Nat.le_refl _) s (pos + (Utf8.decode s pos).2)
      clear hk
      by_cases hc : (Utf8.decode s pos).1 = 65533
      · have hc1 : (((Utf8.decode s pos).1 : Int) != 65533) = false := by rw [hc]; rfl
        have hu2 : U8 (wr.iterAt w.heap.size s (pos + (Utf8.decode s pos).2)) := hu.below bi
        have lX : w.heap.size < (wr.iterAt w.heap.size s (pos + (Utf8.decode s pos).2)).heap.size := (Array.getElem?_eq_some_iff.1 HI.out).1
        go_wp2_with fail
        refine (Tryz.utf8_DecodeRuneInString (s.extract pos s.size) _ hu2).mono ?_
        rintro en w2 ⟨rfl, b2⟩
        rw [decodeGo_extract s pos hp]
        have HI2 := Lib.hid ((b2.block _ lX).trans HI.out)
        have b02 := bi.trans (b2.mono bi.size)
        by_cases hk1 : (Utf8.decode s pos).2 = 1
        · have hd1 : (((Utf8.decode s pos).2 : Int) == 1) = true := by rw [hk1]; rfl
          have hok : okAt s pos = false := by
            unfold okAt; rw [decide_eq_false]; intro h; exact h (Prod.ext hc hk1)
          have HB2 : Hid (badAt s = some pos) := by show _ = _; rw [← HB.out, hun, hok]; rfl
          clear hun hok HB hc hc1 hk1
          go_wp2_with fail
          go_ret2
          exact ⟨by rw [HB2.out]; rfl, b02⟩
        · have hd1 : (((Utf8.decode s pos).2 : Int) == 1) = false := by rw [beq_eq_false_iff_ne]; omega
          have hok : okAt s pos = true := by
            unfold okAt; rw [decide_eq_true]; intro e; exact hk1 (congrArg Prod.snd e)
          have HB2 : Hid (badFrom s b (pos + (Utf8.decode s pos).2) = badAt s) := by show _ = _; rw [← HB.out, hun, if_pos hok]
          clear hun hok HB hc hc1 hk1
          go_wp2_with fail
          go_roundw
          case rel => exact ⟨pos + (Utf8.decode s pos).2, b, HI2.out, HB2.out, by omega, b02⟩
          case measure =>
            have h1 : w2.iterPos w.heap.size = pos + (Utf8.decode s pos).2 := by simp [World.iterPos, HI2.out]
            rw [h1, HPOS.out]
            omega
      · have hc1 : (((Utf8.decode s pos).1 : Int) != 65533) = true := by rw [bne_iff_ne]; omega
        have hok : okAt s pos = true := by
          unfold okAt; rw [decide_eq_true]; intro e; exact hc (congrArg Prod.fst e)
        have HB2 : Hid (badFrom s b (pos + (Utf8.decode s pos).2) = badAt s) := by show _ = _; rw [← HB.out, hun, if_pos hok]
        clear hun hok HB hc
        go_wp2_with fail
        go_roundw
        case rel => exact ⟨pos + (Utf8.decode s pos).2, b, HI.out, HB2.out, by omega, bi⟩
        case measure =>
          have h1 : (wr.iterAt w.heap.size s (pos + (Utf8.decode s pos).2)).iterPos w.heap.size = pos + (Utf8.decode s pos).2 := by simp [World.iterPos, HI.out]
          rw [h1, HPOS.out]
          omega
    · have hnx : ∀ ty, (Instr.next (.pointer (some ⟨w.heap.size, 0, none⟩)) true ty).run Tryz.prog wr = _ := fun ty => run_next_end_at wr w.heap.size s pos ty hk hp
      have HB2 : Hid (badAt s = none) := by show _ = _; rw [← HB.out, badFrom_end s b pos hp]
      clear HB hk
      go_wp2_with fail
      go_ret2
      exact ⟨by rw [HB2.out]; rfl, br⟩

end Go.Proofs.YtfededjcadmpbaaGreatDoor
