/- caissonref02.Wrong and Runes: rune by rune, as the model decodes. -/
import Derived.Test.YtfededjcadmpbaaGreatDoorFirst
import Derived.Test.YtfededjcadmpbaaGreatDoorBlk
namespace Go.Proofs.YtfededjcadmpbaaGreatDoor
open Go.RowKit Go.Lib

theorem width_le (s : ByteArray) (i : Nat) : (Utf8.decode s i).2 ≤ 4 := by
  rw [Lib.decode_at]
  unfold decodeN
  repeat' split
  all_goals simp
/-- the first bad place -/
def RetBad (s : ByteArray) (w : World) (en : Ending) (w' : World) : Prop :=
  en = .returned (.tuple #[.int .i64 (((badAt s).getD 0 : Nat) : Int), .bool (badAt s).isSome]) ∧ Below w.heap.size w w'

set_option maxRecDepth 100000 in
set_option maxHeartbeats 1000000 in
theorem wrong_any (s : ByteArray) (hs : s.size ≤ 140737488351232) (w : World) : Calls Tryz.prog 85 #[.string s] w (RetBad s w) := by
  go_enter Tryz.func85, Tryz.ntmps85
  go_wp2_with fail
  go_loop [4, 5, 6, 7] (fun a _ _ _ => ∃ b pos : Nat, a = .int .i64 (pos : Int) ∧ badFrom s b pos = badAt s ∧ s.size ≤ pos + b ∧ pos ≤ s.size + 4) (fun a _ _ _ => s.size - (intOf a).toNat)
  case atStart => exact ⟨s.size, 0, rfl, rfl, by omega, by omega⟩
  case round =>
    obtain ⟨b, pos, rfl, hb, hz, hp4⟩ := hrel
    have HB := Lib.hid hb
    clear hb
    by_cases hp : pos < s.size
    · have hw := Lib.decode_width_pos s pos hp
      have hw4 := width_le s pos
      have hzp : (pos : Int) < (s.size : Int) := by omega
      go_wp2_with fail
      refine (first_any s pos hp hs w).mono ?_
      rintro en w1 ⟨rfl, rfl⟩
      obtain ⟨b, rfl⟩ : ∃ b', b = b' + 1 := ⟨b - 1, by omega⟩
      have hun : badFrom s (b + 1) pos = if okAt s pos then badFrom s b (pos + (Utf8.decode s pos).2) else some pos := by
        show (if pos < s.size then _ else _) = _; rw [if_pos hp]
      by_cases hok : okAt s pos = true
      · have HB2 : Hid (badFrom s b (pos + (Utf8.decode s pos).2) = badAt s) := by show _ = _; rw [← HB.out, hun, if_pos hok]
        rw [hok]
        clear hun hok HB
        generalize (Utf8.decode s pos).2 = K at *
        generalize ((Utf8.decode s pos).1 : Int) = R at *
        go_wp2_with fail
        go_round
        case rel => exact ⟨b, pos + K, by go_num, HB2.out, by omega, by omega⟩
        case measure => simp [intOf]; omega
      · have hokf : okAt s pos = false := by simpa using hok
        have HB2 : Hid (badAt s = some pos) := by show _ = _; rw [← HB.out, hun, if_neg hok]
        rw [hokf]
        clear hun hok hokf HB
        generalize (Utf8.decode s pos).2 = K at *
        generalize ((Utf8.decode s pos).1 : Int) = R at *
        go_wp2_with fail
        go_ret2
        exact ⟨by rw [HB2.out]; rfl, Below.refl _ _⟩
    · have hzp : ¬ (pos : Int) < (s.size : Int) := by omega
      have HB2 : Hid (badAt s = none) := by show _ = _; rw [← HB.out, badFrom_end s b pos hp]
      clear HB
      go_wp2_with fail
      go_ret2
      exact ⟨by rw [HB2.out]; rfl, Below.refl _ _⟩

theorem Tryz.infoIr : (Tryz.prog.info? 3).map (fun i => (i.zero, i.size, i.bytes)) = some (some (.int .i64 0), 1, 8) := by kernel_rfl
/-- the runes are answered -/
def RetRunes (s : ByteArray) (w : World) (en : Ending) (w' : World) : Prop :=
  ∃ A c B n d, en = .returned (.tuple #[.slice A (runesL s).length c, .slice B n d]) ∧ w'.ownsRow w.heap.size 3 1 (.slice A (runesL s).length c) (runesL s).length ((runesL s).map fun x => Value.int .i64 (x.1 : Int)) ∧ Below w.heap.size w w'

set_option maxRecDepth 100000 in
set_option maxHeartbeats 2000000 in
theorem runes_any (s : ByteArray) (hs : s.size ≤ 17592186043904) (w : World) : Calls Tryz.prog 84 #[.string s] w (RetRunes s w) := by
  obtain ⟨i0, hi0, hz0, hz1, hz2⟩ := info_parts Tryz.infoIr
  go_enter Tryz.func84, Tryz.ntmps84
  go_wp2_with fail
  go_loopw [4, 5, 6, 7, 8, 9] (fun v p a _ _ _ wr => ∃ (L : List (Nat × Nat)) (xs : List Value) (A B : Option Addr) (c d b pos : Nat), v = .slice A L.length c ∧ p = .slice B L.length d ∧ a = .int .i64 (pos : Int) ∧
    wr.ownsRow w.heap.size 3 1 (.slice A L.length c) L.length (L.map fun x => Value.int .i64 (x.1 : Int)) ∧ wr.ownsRow w.heap.size 3 1 (.slice B L.length d) L.length xs ∧
    (∀ g, (Value.slice A L.length c).ownBlock = some g → (Value.slice B L.length d).ownBlock ≠ some g) ∧ L ++ runesFrom s b pos = runesL s ∧ s.size ≤ pos + b ∧ pos ≤ s.size + 4 ∧ L.length ≤ pos ∧ Below w.heap.size w wr) (fun _ _ a _ _ _ _ => s.size - (intOf a).toNat)
  case atStart => exact ⟨[], [], none, none, 0, 0, s.size, 0, rfl, rfl, rfl, World.ownsRow_nil _ _ _ _, World.ownsRow_nil _ _ _ _, fun g h => by simp [Value.ownBlock] at h, rfl, by omega, by omega, Nat.le_refl _, Below.refl _ _⟩
  case round =>
    obtain ⟨L, xs, A, B, c, d, b, pos, rfl, rfl, rfl, oA, oB, hne, hb, hz, hp4, hl, br⟩ := hrel
    have HB := Lib.hid hb
    clear hb
    have zr := br.size
    by_cases hp : pos < s.size
    · have hw := Lib.decode_width_pos s pos hp
      have hw4 := width_le s pos
      have hzp : (pos : Int) < (s.size : Int) := by omega
      go_wp2_with fail
      refine (first_any s pos hp (by omega) wr).mono ?_
      rintro en w1 ⟨rfl, rfl⟩
      obtain ⟨b, rfl⟩ : ∃ b', b = b' + 1 := ⟨b - 1, by omega⟩
      have HB2 : Hid ((L ++ [((Utf8.decode s pos).1, pos)]) ++ runesFrom s b (pos + (Utf8.decode s pos).2) = runesL s) := by
        show _ = _; rw [← HB.out, List.append_assoc]; congr 1
        show _ = (if pos < s.size then _ else _); rw [if_pos hp]; rfl
      clear HB
      generalize (Utf8.decode s pos).2 = K at *
      generalize (Utf8.decode s pos).1 = R at *
      generalize okAt s pos = ok at *
      have hvB : (Value.slice B L.length d).ownBlock = none ∨ (Value.slice B L.length d).ownBlock ≠ (Value.slice A L.length c).ownBlock := by
        cases h : (Value.slice B L.length d).ownBlock with
        | none => exact .inl rfl
        | some g => exact .inr fun e => hne g e.symm h
      have hBlt := fun g e => (oB.lt g e).2
      go_wp2_with (at_builtin; (first
        | (refine wpList_append_sh _ rfl (.tmp 21) (.tmp 23) _ rfl w.heap.size 3 i0 _ 1 8 Tryz.underlying79 hi0 hz0 hz1 hz2 rfl (by omega) _ L.length _ rfl (oA.alloc _) _ _ 1 1 [.int .i64 (R : Int)] rfl (Reads.new1 _ _ _) (by simp [Value.oneCell']) (by simp only [maxLen]; omega) (by omega) (by simp; omega) ?_; intro A1 c1 w5 o5 g5 t5; have oB5 := (oB.alloc (.cells #[.int .i64 (R : Int)] 3)).kept g5 hvB; have z5 := g5.size; simp at z5; have z5' : w.heap.size ≤ (w5.alloc (.cells #[.int .i64 (pos : Int)] 3)).heap.size := (by simp; omega))
        | (refine wpList_append_sh _ rfl (.tmp 25) (.tmp 27) _ rfl w.heap.size 3 i0 _ 1 8 Tryz.underlying79 hi0 hz0 hz1 hz2 rfl (by omega) _ L.length xs rfl (oB5.alloc _) _ _ 1 1 [.int .i64 (pos : Int)] rfl (Reads.new1 _ _ _) (by simp [Value.oneCell']) (by simp only [maxLen]; omega) (by omega) z5' ?_; intro B1 d1 w6 o6 g6 t6)))
      have z6 := g6.size
      have hvA : (Value.slice A1 (L.length + 1) c1).ownBlock = none ∨ (Value.slice A1 (L.length + 1) c1).ownBlock ≠ (Value.slice B L.length d).ownBlock := by
        cases h : (Value.slice A1 (L.length + 1) c1).ownBlock with
        | none => exact .inl rfl
        | some g =>
          refine .inr fun e => ?_
          rcases t5 with t | t
          · exact hne g (t.symm.trans h) e.symm
          · have h1 := hBlt g e.symm
            have h2 := Option.some.inj (h.symm.trans t)
            simp at h2
            omega
      have hAlt := fun g e => (o5.lt g e).2
      have oA6 := (o5.alloc (.cells #[.int .i64 (pos : Int)] 3)).kept g6 hvA
      have b5 := (br.alloc zr (.cells #[.int .i64 (R : Int)] 3)).grown g5 (br.alloc zr _).size (fun j hj => (oA.lt j hj).1)
      have b6 := (b5.alloc b5.size (.cells #[.int .i64 (pos : Int)] 3)).grown g6 (b5.alloc b5.size _).size (fun j hj => (oB.lt j hj).1)
      have hne6 : ∀ g, (Value.slice A1 (L.length + 1) c1).ownBlock = some g → (Value.slice B1 (L.length + 1) d1).ownBlock ≠ some g := fun g h e => by
        rcases t6 with t | t
        · rcases hvA with h2 | h2
          · rw [h] at h2; cases h2
          · exact h2 (h.trans (e.symm.trans t))
        · have h1 := hAlt g h
          have h2 := Option.some.inj (e.symm.trans t)
          simp at h2
          omega
      clear hvA hvB hne t5 t6 g5 g6 o5 oA oB oB5 hBlt hAlt
      go_wp2_with fail
      go_roundw
      case rel =>
        refine ⟨L ++ [(R, pos)], xs ++ [.int .i64 (pos : Int)], A1, B1, c1, d1, b, pos + K, by simp, by simp, by go_num, ?_, ?_, ?_, HB2.out, by omega, by omega, by simp; omega, b6⟩
        · simpa using oA6
        · simpa using o6
        · simpa using hne6
      case measure => simp [intOf]; omega
    · have hzp : ¬ (pos : Int) < (s.size : Int) := by omega
      have hL : L = runesL s := by rw [← HB.out, runesFrom_end s b pos hp, List.append_nil]
      subst hL
      clear HB
      go_wp2_with (at_builtin; (refine wpList_append_sh _ rfl (.tmp 33) (.tmp 36) _ rfl w.heap.size 3 i0 _ 1 8 Tryz.underlying79 hi0 hz0 hz1 hz2 rfl (by omega) _ (runesL s).length xs rfl (oB.alloc _) _ _ 1 1 [.int .i64 (s.size : Int)] rfl (Reads.new1 _ _ _) (by simp [Value.oneCell']) (by simp only [maxLen]; omega) (by omega) (by simp; omega) ?_; intro B1 d1 w6 o6 g6 t6))
      have hvA : (Value.slice A (runesL s).length c).ownBlock = none ∨ (Value.slice A (runesL s).length c).ownBlock ≠ (Value.slice B (runesL s).length d).ownBlock := by
        cases h : (Value.slice A (runesL s).length c).ownBlock with
        | none => exact .inl rfl
        | some g => exact .inr fun e => hne g h e.symm
      have oA6 := (oA.alloc (.cells #[.int .i64 (s.size : Int)] 3)).kept g6 hvA
      have b6 := (br.alloc zr (.cells #[.int .i64 (s.size : Int)] 3)).grown g6 (br.alloc zr _).size (fun j hj => (oB.lt j hj).1)
      go_ret2
      exact ⟨A, c, B1, _, d1, rfl, oA6, b6⟩

end Go.Proofs.YtfededjcadmpbaaGreatDoor
