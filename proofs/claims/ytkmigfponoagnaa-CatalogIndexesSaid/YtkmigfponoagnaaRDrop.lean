/- The last index away: the reference's Drop. -/
import Derived.Test.YtkmigfponoagnaaDrop
import Derived.Test.YtkmigfponoagnaaRAdd
namespace Go.Proofs.Ytkmigfponoagnaa
open Go.RowKit

theorem StE.atS {w : World} {S : Nat → Prop} {A : Option Addr} {l : List LSt} (h : SlS StE w S A l) {k : Nat} (hk : k < l.length) :
    ∃ ad C c, A = some ad ∧ ad.block < w.heap.size ∧ w.cell? (ad.add (k * 2)) = some (.int .i64 l[k].phase) ∧ w.cell? ⟨(ad.add (k * 2)).block, (ad.add (k * 2)).off + 1, none⟩ = some (.slice C l[k].cur.length c) ∧ Bs w C l[k].cur ∧ At S C l[k].cur.length ∧ l[k].cur.length ≤ c ∧ c ≤ 9223372036854775807 := by
  obtain ⟨ad, vs, rfl, hb, ⟨C, c, rfl, h1, ha, h2, h3⟩, h4, _, h5⟩ := SlS.at_ h hk
  exact ⟨ad, C, c, rfl, hb, h4 _ rfl, h5 1 _ (by omega) rfl, h1, ha, h2, h3⟩

set_option maxRecDepth 100000 in
set_option maxHeartbeats 20000000 in
theorem rdrop_g (gg : Nat) (e : LEnt) (nm : ByteArray) (A B S : Option Addr) (ca cb cs : Nat) (w : World) (hA : SlS ColE w (fun b => b ≠ gg) A e.tab.cols) (hB : SlS IxE w (fun b => b ≠ gg) B e.tab.ixs) (hS : SlS StE w (fun b => b ≠ gg) S e.sts) (hn : e.tab.name.size ≤ 140737488351232)
    (hcs : e.sts.length ≤ cs) :
    Calls Try.prog 12 #[.agg #[.int .i64 e.tab.id, .string e.tab.name, .slice A e.tab.cols.length ca, .int .i64 e.tab.keys, .slice B e.tab.ixs.length cb, .slice S e.sts.length cs], .string nm] w (RetEntG gg (dropE e nm) w) := by
  obtain ⟨i1, hi1, hy0, hy1, hy2⟩ := info_parts Try.infoRState
  rcases e with ⟨⟨id, keys, tn, cols, ixs⟩, sts⟩
  simp only at hA hB hS hn hcs ⊢
  have b0 : Below w.heap.size w ((w.alloc (.cells #[.int .i64 id, .string tn, .slice A cols.length ca, .int .i64 keys, .slice B ixs.length cb, .slice S sts.length cs] 28)).alloc (.cells #[.int .i64 0, .string ⟨#[]⟩, .slice none 0 0, .int .i64 0, .slice none 0 0, .slice none 0 0] 28)) :=
    ((Below.refl _ _).alloc (Nat.le_refl _) _).alloc (by simp) _
  have ke := (Blk.new w 28 #[.int .i64 id, .string tn, .slice A cols.length ca, .int .i64 keys, .slice B ixs.length cb, .slice S sts.length cs]).alloc (.cells #[.int .i64 0, .string ⟨#[]⟩, .slice none 0 0, .int .i64 0, .slice none 0 0, .slice none 0 0] 28)
  have kz := Blk.new (w.alloc (.cells #[.int .i64 id, .string tn, .slice A cols.length ca, .int .i64 keys, .slice B ixs.length cb, .slice S sts.length cs] 28)) 28 #[.int .i64 0, .string ⟨#[]⟩, .slice none 0 0, .int .i64 0, .slice none 0 0, .slice none 0 0]
  rw [show (w.alloc (.cells #[.int .i64 id, .string tn, .slice A cols.length ca, .int .i64 keys, .slice B ixs.length cb, .slice S sts.length cs] 28)).heap.size = w.heap.size + 1 by simp] at kz
  have zWa : w.heap.size + 2 ≤ ((w.alloc (.cells #[.int .i64 id, .string tn, .slice A cols.length ca, .int .i64 keys, .slice B ixs.length cb, .slice S sts.length cs] 28)).alloc (.cells #[.int .i64 0, .string ⟨#[]⟩, .slice none 0 0, .int .i64 0, .slice none 0 0, .slice none 0 0] 28)).heap.size := by simp
  go_enter Try.func12, Try.ntmps12
  go_wp2_with fail
  generalize ((w.alloc (.cells #[.int .i64 id, .string tn, .slice A cols.length ca, .int .i64 keys, .slice B ixs.length cb, .slice S sts.length cs] 28)).alloc (.cells #[.int .i64 0, .string ⟨#[]⟩, .slice none 0 0, .int .i64 0, .slice none 0 0, .slice none 0 0] 28)) = W0 at *
  have hA0 := (hA.mono (S' := fun b => b < w.heap.size ∧ b ≠ gg) (fun b hl h => ⟨hl, h⟩)).below b0
  have hB0 := (hB.mono (S' := fun b => b < w.heap.size ∧ b ≠ gg) (fun b hl h => ⟨hl, h⟩)).below b0
  have hS0 := (hS.mono (S' := fun b => b < w.heap.size ∧ b ≠ gg) (fun b hl h => ⟨hl, h⟩)).below b0
  refine (recheck_any id keys tn A B S ca cb cs cols ixs sts _ hA0.any.cols hB0.any.ixs hS0.any hn hA0.any.cnames hB0.any.xnames).mono ?_
  rintro en w1 ⟨rfl, b1⟩
  have z1 := b1.size
  have b01 := b0.trans (b1.mono b0.size)
  have ke1 := ke.below b1 ke.lt
  have kz1 := kz.below b1 kz.lt
  have hA1 := hA0.below b1
  have hB1 := hB0.below b1
  have hS1 := hS0.below b1
  clear ke kz hS hA0 hB0 hS0 b1 b0
  have hchk : (⟨⟨id, keys, tn, cols, ixs⟩, sts⟩ : LEnt).check = entryI id keys tn cols ixs sts := rfl
  by_cases h0 : entryI id keys tn cols ixs sts = 0
  · obtain ⟨hle1, hle2, hle3⟩ := LEnt.check_le (hchk.trans h0)
    simp only at hle1 hle2 hle3
    have hle4 : sts.length ≤ ixs.length := Nat.le_of_eq hle3
    have hle5 : ixs.length ≤ sts.length := Nat.le_of_eq hle3.symm
    clear hle3
    have HC : Hid ((⟨⟨id, keys, tn, cols, ixs⟩, sts⟩ : LEnt).check = 0) := hchk.trans h0
    have d0 : (entryI id keys tn cols ixs sts != 0) = false := by rw [h0]; rfl
    clear h0 hchk
    have q4 : w1.cell? ⟨w.heap.size, 4, none⟩ = some (.slice B ixs.length cb) := ke1.cell 4
    go_wp2_with fail
    go_loopw [7, 8] (fun a i wr => ∃ (k : Nat) (p : Int), k ≤ ixs.length ∧ i = .int .i64 k ∧ a = .int .i64 p ∧ PosI nm (ixs.take k) p ∧ wr = w1) (fun _ i _ => ixs.length - (intOf i).toNat)
    case atStart => exact ⟨0, -1, Nat.zero_le _, rfl, rfl, .inl ⟨rfl, fun j hj => absurd hj (by simp)⟩, rfl⟩
    case round =>
      obtain ⟨k, p, hk, rfl, rfl, hp, rfl⟩ := hrel
      have HP := Lib.hid hp
      clear hp
      by_cases hlt : k < ixs.length
      · obtain ⟨ad, C, c, rfl, hadb, c0, _⟩ := IxE.at_ hB1.any hlt
        by_cases he : ixs[k].name = nm
        · have d : (ixs[k].name.toList == nm.toList) = true := (str_eq _ _).trans (decide_eq_true he)
          have HN := Lib.hid he
          clear he
          go_wp2_with fail
          go_roundw
          case rel => exact ⟨k + 1, k, by omega, by go_num, rfl, .inr ⟨k, by simp; omega, rfl, by simpa using HN.out⟩, trivial⟩
          case measure => simp [intOf]; omega
        · have d : (ixs[k].name.toList == nm.toList) = false := (str_eq _ _).trans (decide_eq_false he)
          have HN := Lib.hid he
          clear he
          go_wp2_with fail
          go_roundw
          case rel =>
            refine ⟨k + 1, p, by omega, by go_num, rfl, ?_, trivial⟩
            rcases HP.out with ⟨h1, h2⟩ | ⟨j, hj, h1, h2⟩
            · refine .inl ⟨h1, fun j hj => ?_⟩
              rw [List.getElem_take]
              by_cases e : j = k
              · subst e; exact HN.out
              · have h3 := h2 j (by simp at hj ⊢; omega)
                rwa [List.getElem_take] at h3
            · exact .inr ⟨j, by simp at hj ⊢; omega, h1, by rw [List.getElem_take] at h2 ⊢; exact h2⟩
          case measure => simp [intOf]; omega
      · obtain rfl : k = ixs.length := by omega
        have hpp := HP.out
        rw [List.take_length] at hpp
        have HPP := Lib.hid hpp
        clear hpp HP
        by_cases hi : p < 0
        · have HR : Hid (dropE ⟨⟨id, keys, tn, cols, ixs⟩, sts⟩ nm = (.zero, 6)) := dropE_none HC.out HPP.out hi
          go_wp2_with ((with_reducible refine wpList_store_blk rfl 28 (.tmp 4) (.tmp 36) rfl (w.heap.size + 1) 28 _ #[.int .i64 0, .string ⟨#[]⟩, .slice none 0 0, .int .i64 0, .slice none 0 0, .slice none 0 0] ?_ ?_ kz1 Try.size_REntry ?_ ?_ ?_ ?_); rfl; rfl; rfl; rfl; (simp [Value.oneCell']); intro w12 kz12 g12 z12)
          exact bodyPost_ret (results_cell2 rfl rfl rfl kz12 Try.underlying28 rfl Try.size_REntry) rfl (by exact ⟨_, by rw [HR.out]; rfl, by rw [HR.out]; exact EntVS.zero _ _, b01.grown g12 b01.size (fun j hj => by have := Option.some.inj hj; omega)⟩)
        · by_cases hl : p + 1 < (ixs.length : Int)
          · have HR : Hid (dropE ⟨⟨id, keys, tn, cols, ixs⟩, sts⟩ nm = (.zero, 1)) := dropE_arg HC.out HPP.out hi hl
            have hl2 : p < (ixs.length : Int) - 1 := by omega
            go_wp2_with ((with_reducible refine wpList_store_blk rfl 28 (.tmp 4) (.tmp 44) rfl (w.heap.size + 1) 28 _ #[.int .i64 0, .string ⟨#[]⟩, .slice none 0 0, .int .i64 0, .slice none 0 0, .slice none 0 0] ?_ ?_ kz1 Try.size_REntry ?_ ?_ ?_ ?_); rfl; rfl; rfl; rfl; (simp [Value.oneCell']); intro w12 kz12 g12 z12)
            exact bodyPost_ret (results_cell2 rfl rfl rfl kz12 Try.underlying28 rfl Try.size_REntry) rfl (by exact ⟨_, by rw [HR.out]; rfl, by rw [HR.out]; exact EntVS.zero _ _, b01.grown g12 b01.size (fun j hj => by have := Option.some.inj hj; omega)⟩)
          · have HR : Hid (dropE ⟨⟨id, keys, tn, cols, ixs⟩, sts⟩ nm = (⟨⟨id, keys, tn, cols, ixs⟩, sts.set (sts.length - 1) (⟨⟨id, keys, tn, cols, ixs⟩, sts⟩ : LEnt).dropped⟩, 0)) := dropE_good HC.out HPP.out hi hl
            obtain ⟨n, hin, hnl⟩ : ∃ n : Nat, p = n ∧ n < ixs.length := by
              rcases HPP.out with ⟨rfl, _⟩ | ⟨k, hk, rfl, _⟩
              · omega
              · exact ⟨k, rfl, hk⟩
            subst hin
            have hn1 : sts.length ≤ n + 1 := by omega
            have hn2 : n + 1 ≤ sts.length := by omega
            have hlt2 : n < sts.length := by omega
            have hl2 : ¬ (n : Int) < (ixs.length : Int) - 1 := by omega
            have eg : sts.getD (sts.length - 1) ⟨0, []⟩ = sts[n] := by rw [show sts.length - 1 = n by omega, List.getD_eq_getElem?_getD, List.getElem?_eq_getElem hlt2]; rfl
            have HD : Hid ((⟨⟨id, keys, tn, cols, ixs⟩, sts⟩ : LEnt).dropped = ⟨2, if sts[n].phase = 0 then nextN (pfx id) 2 else sts[n].cur⟩) := by
              show _ = _; unfold LEnt.dropped; simp only; rw [eg]
            have HS : Hid (sts.length - 1 = n) := by show _ = _; omega
            clear eg hi hl
            obtain ⟨ad, C, c, rfl, hadb, c0, c1, hC, hatC, hCc⟩ := StE.atS hS1 hlt2
            have q5 : wr.cell? ⟨w.heap.size, 5, none⟩ = some (.slice (some ad) sts.length cs) := ke1.cell 5
            go_upto_region 15 with fail
            have HPP2 := HPP
            clear HPP
            have hSt := hS1.take n (by omega)
            have kG := Blk.new wr 69 #[.int .i64 sts[n].phase, .slice C sts[n].cur.length c]
            have ha : Below wr.heap.size wr (wr.alloc (.cells #[.int .i64 sts[n].phase, .slice C sts[n].cur.length c] 69)) := (Below.refl _ _).alloc (Nat.le_refl _) _
            have k4 := ke1.below ha ke1.lt
            have kz4 := kz1.below ha kz1.lt
            have b04 := b01.trans (ha.mono b01.size)
            have hC4 := hC.below ha
            clear q5 c0 c1
            generalize (wr.alloc (.cells #[.int .i64 sts[n].phase, .slice C sts[n].cur.length c] 69)) = V4 at *
            have z4 := ha.size
            have b14 := ha
            have e40 : V4.cell? ⟨w.heap.size, 0, none⟩ = some (.int .i64 id) := k4.cell 0
            have e41 : V4.cell? ⟨w.heap.size, 1, none⟩ = some (.string tn) := k4.cell 1
            have e42 : V4.cell? ⟨w.heap.size, 2, none⟩ = some (.slice A cols.length ca) := k4.cell 2
            have e43 : V4.cell? ⟨w.heap.size, 3, none⟩ = some (.int .i64 keys) := k4.cell 3
            have e44 : V4.cell? ⟨w.heap.size, 4, none⟩ = some (.slice B ixs.length cb) := k4.cell 4
            have g40 : V4.cell? ⟨wr.heap.size, 0, none⟩ = some (.int .i64 sts[n].phase) := kG.cell 0
            have g41 : V4.cell? ⟨wr.heap.size, 1, none⟩ = some (.slice C sts[n].cur.length c) := kG.cell 1
            have fg0 := kG.frozen 0
            have fg1 := kG.frozen 1
            have l4 := k4.lt
            have lG4 := kG.lt
            have lz4 := kz4.lt
            generalize sts[n].phase = P at *
            obtain ⟨L, hL⟩ : ∃ L, L = if P = 0 then nextN (pfx id) 2 else sts[n].cur := ⟨_, rfl⟩
            have HL := Lib.hid hL
            clear hL
            go_upto_if 52 with fail
            go_cut [] (fun wx => ∃ C8 c8, Blk wx wr.heap.size 69 #[.int .i64 P, .slice C8 L.length c8] ∧ Bs wx C8 L ∧ At (fun b => b ≠ w.heap.size ∧ (b ≠ w.heap.size + 1 ∧ (b ≠ gg ∨ w.heap.size ≤ b)) ∧ b ≠ wr.heap.size) C8 L.length ∧ L.length ≤ c8 ∧ c8 ≤ 9223372036854775807 ∧
              Blk wx w.heap.size 28 #[.int .i64 id, .string tn, .slice A cols.length ca, .int .i64 keys, .slice B ixs.length cb, .slice (some ad) sts.length cs] ∧ Blk wx (w.heap.size + 1) 28 #[.int .i64 0, .string ⟨#[]⟩, .slice none 0 0, .int .i64 0, .slice none 0 0, .slice none 0 0] ∧ Below wr.heap.size wr wx)
            case first =>
              by_cases hP : P = 0
              · have d1 : (P == 0) = true := by rw [hP]; rfl
                have HL2 : Hid (L = nextN (pfx id) 2) := by show _ = _; rw [HL.out, if_pos hP]
                clear hP
                go_wp2_with fail
                refine (rprefix_any _ _ _ _ _ _ _ _ _ _).mono ?_
                rintro en w5 ⟨A9, rfl, o9, b5⟩
                have t := rnext_any A9 (pfx id) 2 w5 (Bs.of_own (l := [114, UInt8.ofInt id]) o9 (by simp)) ⟨Nat.le_refl _, by decide⟩
                rw [show (pfx id).length = 2 from rfl] at t
                go_wp2_with fail
                refine t.mono ?_
                clear t
                rintro en w6 ⟨C8, c8, rfl, o8, b6⟩
                have z5 := b5.size
                have z6 := b6.size
                have bb : Below V4.heap.size V4 w6 := b5.trans (b6.mono z5)
                have k46 := k4.below bb l4
                have kz6 := kz4.below bb lz4
                have kG6 := kG.below bb lG4
                have g61 := (bb.cell (p := ⟨wr.heap.size, 1, none⟩) lG4).trans g41
                have fg61 := (bb.frozen (p := ⟨wr.heap.size, 1, none⟩) lG4).trans fg1
                go_wp2_with fail
                go_meet
                case rel =>
                  have ho8 := own_at o8
                  have hc8 := own_cap o8
                  have hB8 : Bs w6 C8 (nextN (pfx id) 2) := Bs.of_own o8 (by have := nextN_len (pfx id) 2; omega)
                  have hs2 : Same (fun b => b ≠ wr.heap.size) w6 (w6.setCell ⟨wr.heap.size, 1, none⟩ (.slice C8 (nextN (pfx id) 2).length c8)) := .of_grown (row := some wr.heap.size) (only_setCell (World.grownBy.refl w6 _) (p := ⟨wr.heap.size, 1, none⟩) (.inl rfl) _) (fun b hb e => hb (Option.some.inj e).symm)
                  have b01s := b01.size
                  rw [HL2.out]
                  exact ⟨C8, c8, kG6.set_ 1 (.slice C8 (nextN (pfx id) 2).length c8), hB8.sameS (fun ad e hl => (by have h8 := (ho8 ad e hl).1; omega)) hs2, fun ad e hl => (by have h8 := (ho8 ad e hl).1; exact ⟨by omega, by omega, by omega⟩), hc8.1, hc8.2,
                    k46.far (p := ⟨wr.heap.size, 1, none⟩) (by simp; omega) _, kz6.far (p := ⟨wr.heap.size, 1, none⟩) (by simp; omega) _, (b14.trans (bb.mono z4)).setCell (p := ⟨wr.heap.size, 1, none⟩) (by simp) _⟩
              · have d1 : (P == 0) = false := by rw [beq_eq_false_iff_ne]; exact hP
                have HL2 : Hid (L = sts[n].cur) := by show _ = _; rw [HL.out, if_neg hP]
                clear hP
                go_wp2_with fail
                go_meet
                case rel =>
                  have b01s := b01.size
                  rw [HL2.out]
                  exact ⟨C, c, kG, hC4, fun ad e hl => (by have h8 := hatC ad e hl; exact ⟨by omega, by omega, by omega⟩), hCc.1, hCc.2, k4, kz4, b14⟩
            case rest =>
              obtain ⟨C8, c8, kG5, hC5, hat5, hc5, hc6, k5, kz5, b15⟩ := hcut
              clear k4 kz4 kG e40 e41 e42 e43 e44 g40 g41 fg0 fg1 l4 lG4 lz4 hC4 b14 z4 b04
              have g50 : wc.cell? ⟨wr.heap.size, 0, none⟩ = some (.int .i64 P) := kG5.cell 0
              have fg50 := kG5.frozen 0
              have lG5 := kG5.lt
              have b01s := b01.size
              go_upto_region 18 with fail
              have hs2 : Same (fun b => b ≠ wr.heap.size) wc (wc.setCell ⟨wr.heap.size, 0, none⟩ (.int .i64 2)) := .of_grown (row := some wr.heap.size) (only_setCell (World.grownBy.refl wc _) (p := ⟨wr.heap.size, 0, none⟩) (.inl rfl) _) (fun b hb e => hb (Option.some.inj e).symm)
              have hC8 := hC5.sameS (fun ad e hl => (hat5 ad e hl).2.2) hs2
              have hat8 : At (fun b => b ≠ w.heap.size ∧ (b ≠ w.heap.size + 1 ∧ (b ≠ gg ∨ w.heap.size ≤ b))) C8 L.length := fun ad e hl => ⟨(hat5 ad e hl).1, (hat5 ad e hl).2.1⟩
              have hc8 : L.length ≤ c8 ∧ c8 ≤ 9223372036854775807 := ⟨hc5, hc6⟩
              have k7 := k5.far (p := ⟨wr.heap.size, 0, none⟩) (by simp; omega) (.int .i64 2)
              have kz7 := kz5.far (p := ⟨wr.heap.size, 0, none⟩) (by simp; omega) (.int .i64 2)
              have kG7 : Blk _ _ _ #[.int .i64 2, .slice C8 L.length c8] := kG5.set_ 0 (.int .i64 2)
              have b17 : Below wr.heap.size wr (wc.setCell ⟨wr.heap.size, 0, none⟩ (.int .i64 2)) := b15.setCell (p := ⟨wr.heap.size, 0, none⟩) (by simp) (.int .i64 2)
              have b07 := b01.trans (b17.mono b01.size)
              clear kG5 hC5 hat5 k5 kz5 b15 g50 fg50 hs2
              generalize (wc.setCell ⟨wr.heap.size, 0, none⟩ (.int .i64 2)) = V7 at *
              have hS7 := hSt.below b17
              obtain ⟨vsS, hrS, hfS⟩ := SlS.reads hS7
              have honeS := ER.flat_one hfS
              rw [show (sts.take n).length = n by simp; omega] at hrS
              have le7 := k7.lt
              have lz7 := kz7.lt
              have lG7 := kG7.lt
              have q57 : V7.cell? ⟨w.heap.size, 5, none⟩ = some (.slice (some ad) sts.length cs) := k7.cell 5
              have r07 : V7.cell? ⟨wr.heap.size, 0, none⟩ = some (.int .i64 2) := kG7.cell 0
              have r17 : V7.cell? ⟨wr.heap.size, 1, none⟩ = some (.slice C8 L.length c8) := kG7.cell 1
              have f57 := k7.frozen 5
              have hsl0 : (0 : Int) ≤ (n : Int) := by omega
              have hsl1 : (n : Int) ≤ (cs : Int) := by omega
              have m1 : 0 + n ≤ maxLen := by simp only [maxLen]; omega
              have m2 : (0 + n) * 32 ≤ 140737488355328 := by omega
              have m3 : n + 1 ≤ maxLen := by simp only [maxLen]; omega
              have m4 : (n + 1) * 32 ≤ 140737488355328 := by omega
              have honeX : ∀ u ∈ ([.int .i64 2, .slice C8 L.length c8] : List Value), u.oneCell' = true := by intro u hu; simp at hu; rcases hu with rfl | rfl <;> rfl
              have M1 := Lib.hid m1
              have M2 := Lib.hid m2
              have M3 := Lib.hid m3
              have M4 := Lib.hid m4
              clear m1 m2 m3 m4
              have hfin : ∀ (w7 : World) (S9 : Option Addr) (c9 : Nat), Below V7.heap.size V7 w7 → w7.ownsRow V7.heap.size 69 2 (.slice S9 (n + 1) c9) (n + 1) (vsS ++ [.int .i64 2, .slice C8 L.length c8]) →
                  (fun wx => ∃ S9 c9, Blk wx w.heap.size 28 #[.int .i64 id, .string tn, .slice A cols.length ca, .int .i64 keys, .slice B ixs.length cb, .slice S9 (n + 1) c9] ∧ Blk wx (w.heap.size + 1) 28 #[.int .i64 0, .string ⟨#[]⟩, .slice none 0 0, .int .i64 0, .slice none 0 0, .slice none 0 0] ∧ SlS StE wx (fun b => b ≠ w.heap.size + 1 ∧ (b ≠ gg ∨ w.heap.size ≤ b)) S9 (sts.take n ++ [⟨2, L⟩]) ∧ Below w.heap.size w wx) (w7.setCell ⟨w.heap.size, 5, none⟩ (.slice S9 (n + 1) c9)) := by
                intro w7 S9 c9 b7 o7
                have b08 := b07.trans (b7.mono b07.size)
                have z07 := b07.size
                have hs : Same (fun b => b ≠ w.heap.size) w7 (w7.setCell ⟨w.heap.size, 5, none⟩ (.slice S9 (n + 1) c9)) := .of_grown (row := some w.heap.size) (only_setCell (World.grownBy.refl w7 _) (p := ⟨w.heap.size, 5, none⟩) (.inl rfl) _) (fun b hb e => hb (Option.some.inj e).symm)
                have hfl : StE.flat w7 (fun b => b ≠ w.heap.size ∧ (b ≠ w.heap.size + 1 ∧ (b ≠ gg ∨ w.heap.size ≤ b))) (vsS ++ [.int .i64 2, .slice C8 L.length c8]) (sts.take n ++ [⟨2, L⟩]) :=
                  ER.flat_snoc (ER.flat_mono (fun b _ h => ⟨by omega, by omega⟩) (ER.flat_keep b7 hfS)) ⟨C8, c8, rfl, hC8.below b7, hat8, hc8⟩
                have hat := own_at o7
                refine ⟨S9, c9, (k7.below b7 le7).set_ 5 _, (kz7.below b7 lz7).far (by simp) _, ?_, b08.setCell (by simp) _⟩
                refine SlS.mono (S := fun b => b ≠ w.heap.size ∧ (b ≠ w.heap.size + 1 ∧ (b ≠ gg ∨ w.heap.size ≤ b))) (SlS.same ⟨by simp [StE]; omega, _, ?_, fun ad e hn => ?_, hfl⟩ (hs.mono fun _ _ h => h.1)) (fun _ _ h => h.2)
                · have := Reads.of_own o7
                  rw [List.length_append, show (sts.take n).length = n by simp; omega]
                  exact this
                · have := (hat ad e (by simp)).1
                  exact ⟨by omega, by omega⟩
              have HFIN := Lib.hid hfin
              clear hfin
              go_cut [] (fun wx => ∃ S9 c9, Blk wx w.heap.size 28 #[.int .i64 id, .string tn, .slice A cols.length ca, .int .i64 keys, .slice B ixs.length cb, .slice S9 (n + 1) c9] ∧ Blk wx (w.heap.size + 1) 28 #[.int .i64 0, .string ⟨#[]⟩, .slice none 0 0, .int .i64 0, .slice none 0 0, .slice none 0 0] ∧ SlS StE wx (fun b => b ≠ w.heap.size + 1 ∧ (b ≠ gg ∨ w.heap.size ≤ b)) S9 (sts.take n ++ [⟨2, L⟩]) ∧ Below w.heap.size w wx)
              case first =>
                go_region_law
                  (first
                    | (refine step_append_sh _ rfl (.tmp 59) (.tmp 63) _ rfl V7.heap.size 69 i1 _ 2 32 Try.underlying26 hi1 hy0 hy1 hy2 rfl (by omega) _ 0 [] rfl ?_ V7.heap.size (some ad) n cs vsS rfl ?_ honeS M1.out M2.out ?_ ?_; (focus (refine own_empty ?_ ?_; (focus (repeat (first | with_reducible exact Blk.new _ _ _ | with_reducible exact Blk.new2 _ _ _ _ | with_reducible refine Blk.drew ?_ | with_reducible refine Blk.alloc ?_ _ | refine Blk.grown ?_ hg5 (ne_own0 (by first | omega | (simp; omega)))))); (first | exact Nat.le_refl _ | exact Nat.le_succ _ | omega | (simp; omega)))); (refine hrS.below ?_; (focus (repeat (first | with_reducible exact Below.refl _ _ | exact bb5 | exact bb7 | with_reducible refine Below.drew ?_ | with_reducible refine Below.alloc_ ?_ _)))); (refine Below.size (B := V7.heap.size) ?_; (focus (repeat (first | with_reducible exact Below.refl _ _ | exact bb5 | exact bb7 | with_reducible refine Below.drew ?_ | with_reducible refine Below.alloc_ ?_ _)))); intro A5 c5 w5 hown5 hg5 hat5; simp only [Nat.zero_add, List.nil_append] at hown5; have bb5 : Below V7.heap.size V7 w5 := (by refine Below.grownO (e := 69) (s := 2) (n := 0) (xs := []) ?_ ?_ hg5; (focus (repeat (first | with_reducible exact Below.refl _ _ | exact bb5 | exact bb7 | with_reducible refine Below.drew ?_ | with_reducible refine Below.alloc_ ?_ _))); (focus (refine own_empty ?_ ?_; (focus (repeat (first | with_reducible exact Blk.new _ _ _ | with_reducible exact Blk.new2 _ _ _ _ | with_reducible refine Blk.drew ?_ | with_reducible refine Blk.alloc ?_ _ | refine Blk.grown ?_ hg5 (ne_own0 (by first | omega | (simp; omega)))))); (first | exact Nat.le_refl _ | exact Nat.le_succ _ | omega | (simp; omega))))); have zz5 := bb5.size; have q55 := (bb5.cell (p := ⟨w.heap.size, 5, none⟩) le7).trans q57; have f55 := (bb5.frozen (p := ⟨w.heap.size, 5, none⟩) le7).trans f57; have r05 := (bb5.cell (p := ⟨wr.heap.size, 0, none⟩) lG7).trans r07; have r15 := (bb5.cell (p := ⟨wr.heap.size, 1, none⟩) lG7).trans r17)
                    | (refine step_append_one _ rfl (.tmp 64) (.tmp 66) _ rfl V7.heap.size 69 i1 _ 2 32 Try.underlying26 hi1 hy0 hy1 hy2 rfl (by omega) _ n vsS rfl ?_ _ _ 69 [.int .i64 2, .slice C8 L.length c8] rfl ?_ rfl honeX M3.out M4.out ?_ ?_; (focus (repeat (first | with_reducible refine World.ownsRow.alloc ?_ _ | with_reducible refine own_drew ?_ | exact hown5))); (focus (repeat (first | with_reducible exact Blk.new _ _ _ | with_reducible exact Blk.new2 _ _ _ _ | with_reducible refine Blk.drew ?_ | with_reducible refine Blk.alloc ?_ _ | refine Blk.grown ?_ hg5 (ne_own0 (by first | omega | (simp; omega)))))); (refine Below.size (B := V7.heap.size) ?_; (focus (repeat (first | with_reducible exact Below.refl _ _ | exact bb5 | exact bb7 | with_reducible refine Below.drew ?_ | with_reducible refine Below.alloc_ ?_ _)))); intro S9 c9 w7 hown7 hg7 hat7; have bb7 : Below V7.heap.size V7 w7 := (by refine Below.grownO (e := 69) (s := 2) (n := n) (xs := vsS) ?_ ?_ hg7; (focus (repeat (first | with_reducible exact Below.refl _ _ | exact bb5 | exact bb7 | with_reducible refine Below.drew ?_ | with_reducible refine Below.alloc_ ?_ _))); (focus (repeat (first | with_reducible refine World.ownsRow.alloc ?_ _ | with_reducible refine own_drew ?_ | exact hown5)))); have q77 := (bb7.cell (p := ⟨w.heap.size, 5, none⟩) le7).trans q57; have f77 := (bb7.frozen (p := ⟨w.heap.size, 5, none⟩) le7).trans f57))
                all_goals
                  go_wp2_with fail
                  go_meet
                  case rel => exact HFIN.out w7 S9 c9 bb7 hown7
              case rest =>
                obtain ⟨S9, c9, k79, kz9, hS9, b09⟩ := hcut
                have hA9 := (hA.mono (S' := fun b => b < w.heap.size ∧ b ≠ gg) (fun b hl h => ⟨hl, h⟩)).below b09
                have hB9 := (hB.mono (S' := fun b => b < w.heap.size ∧ b ≠ gg) (fun b hl h => ⟨hl, h⟩)).below b09
                clear HFIN honeS hfS hrS k7 kz7 kG7 q57 r07 r17 f57 hS7 le7 lz7 lG7
                go_wp2_with (first
                  | ((with_reducible refine wpList_load_blk rfl 28 (.tmp 2) rfl w.heap.size ?_ 28 _ _ k79 Try.underlying28 ?_ Try.size_REntry ?_ ?_); rfl; rfl; rfl)
                  | ((with_reducible refine wpList_store_blk rfl 28 (.tmp 4) (.tmp 69) rfl (w.heap.size + 1) 28 _ #[.int .i64 id, .string tn, .slice A cols.length ca, .int .i64 keys, .slice B ixs.length cb, .slice S9 (n + 1) c9] ?_ ?_ kz9 Try.size_REntry ?_ ?_ ?_ ?_); rfl; rfl; rfl; rfl; (simp [Value.oneCell']); intro w12 kz12 g12 z12))
                have hs12 : Same (fun b => b ≠ w.heap.size + 1) wc w12 := .of_grown g12 (fun b hb e => hb (Option.some.inj e).symm)
                have hset : sts.set n (⟨2, L⟩ : LSt) = sts.take n ++ [⟨2, L⟩] := by
                  rw [List.set_eq_take_append_cons_drop, if_pos hlt2, List.drop_eq_nil_of_le (by omega)]
                have hgood : RetEntG gg (dropE ⟨⟨id, keys, tn, cols, ixs⟩, sts⟩ nm) w (.returned (.tuple #[.agg #[.int .i64 id, .string tn, .slice A cols.length ca, .int .i64 keys, .slice B ixs.length cb, .slice S9 (n + 1) c9], .int .i64 0])) w12 := by
                  rw [HR.out, HS.out, HD.out, ← HL.out, hset]
                  refine ⟨_, rfl, ⟨A, B, S9, ca, cb, c9, by simp; omega, ?_, ?_, ?_, hn⟩, b09.grown g12 b09.size (fun j hj => by have := Option.some.inj hj; omega)⟩
                  · exact (hA9.same (hs12.mono fun b _ h => by omega)).mono (fun b _ h => .inl h.2)
                  · exact (hB9.same (hs12.mono fun b _ h => by omega)).mono (fun b _ h => .inl h.2)
                  · exact (hS9.same (hs12.mono fun b _ h => h.1)).mono (fun b _ h => h.2)
                exact bodyPost_ret (results_cell2 rfl rfl rfl kz12 Try.underlying28 rfl Try.size_REntry) rfl (by exact hgood)
  · have HR : Hid (dropE ⟨⟨id, keys, tn, cols, ixs⟩, sts⟩ nm = (.zero, entryI id keys tn cols ixs sts)) := dropE_bad nm h0
    have d0 : (entryI id keys tn cols ixs sts != 0) = true := by rw [bne_iff_ne]; exact h0
    clear h0 hchk
    go_wp2_with ((with_reducible refine wpList_store_blk rfl 28 (.tmp 4) (.tmp 14) rfl (w.heap.size + 1) 28 _ #[.int .i64 0, .string ⟨#[]⟩, .slice none 0 0, .int .i64 0, .slice none 0 0, .slice none 0 0] ?_ ?_ kz1 Try.size_REntry ?_ ?_ ?_ ?_); rfl; rfl; rfl; rfl; (simp [Value.oneCell']); intro w12 kz12 g12 z12)
    exact bodyPost_ret (results_cell2 rfl rfl rfl kz12 Try.underlying28 rfl Try.size_REntry) rfl (by exact ⟨_, by rw [HR.out]; rfl, by rw [HR.out]; exact EntVS.zero _ _, b01.grown g12 b01.size (fun j hj => by have := Option.some.inj hj; omega)⟩)

end Go.Proofs.Ytkmigfponoagnaa
