/- The last index away: catalog.Drop. -/
import Derived.Test.YtkmigfponoagnaaAdd
import Derived.Test.YtkmigfponoagnaaFind
namespace Go.Proofs.Ytkmigfponoagnaa
open Go.RowKit

def LEnt.dropped (e : LEnt) : LSt :=
  ⟨2, if (e.sts.getD (e.sts.length - 1) ⟨0, []⟩).phase = 0 then nextN (pfx e.tab.id) 2 else (e.sts.getD (e.sts.length - 1) ⟨0, []⟩).cur⟩
def dropE (e : LEnt) (nm : ByteArray) : LEnt × Int :=
  if e.check ≠ 0 then (.zero, e.check) else
  if atI nm e.tab.ixs < 0 then (.zero, 6) else if atI nm e.tab.ixs + 1 < (e.tab.ixs.length : Int) then (.zero, 1) else
    (⟨e.tab, e.sts.set (e.sts.length - 1) e.dropped⟩, 0)
theorem LEnt.check_nodup {e : LEnt} (h : e.check = 0) : (e.tab.ixs.map LIx.name).Nodup := checkI_nodup (entryI_check h)
theorem dropE_bad {e : LEnt} (nm : ByteArray) (h : e.check ≠ 0) : dropE e nm = (.zero, e.check) := by unfold dropE; rw [if_pos h]
theorem dropE_none {e : LEnt} {nm : ByteArray} (h : e.check = 0) {i : Int} (hp : PosI nm e.tab.ixs i) (hi : i < 0) : dropE e nm = (.zero, 6) := by
  unfold dropE; rw [if_neg (fun hn => hn h), if_pos (by rw [PosI.eq (LEnt.check_nodup h) (PosI.at nm _) hp]; exact hi)]
theorem dropE_arg {e : LEnt} {nm : ByteArray} (h : e.check = 0) {i : Int} (hp : PosI nm e.tab.ixs i) (hi : ¬ i < 0) (hl : i + 1 < (e.tab.ixs.length : Int)) : dropE e nm = (.zero, 1) := by
  unfold dropE; rw [if_neg (fun hn => hn h), PosI.eq (LEnt.check_nodup h) (PosI.at nm _) hp, if_neg hi, if_pos hl]
theorem dropE_good {e : LEnt} {nm : ByteArray} (h : e.check = 0) {i : Int} (hp : PosI nm e.tab.ixs i) (hi : ¬ i < 0) (hl : ¬ i + 1 < (e.tab.ixs.length : Int)) : dropE e nm = (⟨e.tab, e.sts.set (e.sts.length - 1) e.dropped⟩, 0) := by
  unfold dropE; rw [if_neg (fun hn => hn h), PosI.eq (LEnt.check_nodup h) (PosI.at nm _) hp, if_neg hi, if_neg hl]

theorem own_cap {w : World} {B n c size : Nat} {t : TypeId} {A : Option Addr} {vs : List Value} (h : w.ownsRow B t size (.slice A n c) n vs) : n ≤ c ∧ c ≤ 9223372036854775807 := by
  rcases h.2 with ⟨hv, h0⟩ | ⟨g, cap, cur, hv, _, _, h1, h2, _⟩
  · injection hv with _ _ h3
    subst h3 h0
    exact ⟨Nat.le_refl _, Nat.zero_le _⟩
  · injection hv with _ _ h3
    subst h3
    exact ⟨h1, h2⟩
theorem own_cursor {t : TypeId} {w : World} {B g c n c' : Nat} {S : Nat → Prop} {sts : List LSt} {A : Option Addr} {l : List UInt8} (h : Own StE t w B S (.slice (some ⟨g, 0, none⟩) sts.length c) sts) (hn : n < sts.length)
    (hA : Bs w A l) (hat : At (fun b => S b ∧ b ≠ g) A l.length) (hc : l.length ≤ c' ∧ c' ≤ 9223372036854775807) :
    Own StE t (w.setCell ⟨g, n * 2 + 1, none⟩ (.slice A l.length c')) B S (.slice (some ⟨g, 0, none⟩) sts.length c) (sts.set n ⟨sts[n].phase, l⟩) := by
  refine Own.turn (y := ⟨sts[n].phase, l⟩) h hn (j := 1) (by decide) ?_
  rintro v ⟨C, c2, rfl, _, _, _⟩
  have hs : Same (fun b => b ≠ g) w (w.setCell ⟨g, n * 2 + 1, none⟩ (.slice A l.length c')) := .of_grown (row := some g) (only_setCell (World.grownBy.refl w _) (p := ⟨g, n * 2 + 1, none⟩) (.inl rfl) _) (fun b hb e => hb (Option.some.inj e).symm)
  exact ⟨A, c', rfl, hA.sameS (fun ad e hl => (hat ad e hl).2) hs, fun ad e hl => ⟨(hat ad e hl).1, fun e' => (hat ad e hl).2 (Option.some.inj e').symm⟩, hc⟩
theorem own_phase {t : TypeId} {w : World} {B g c n m : Nat} {S : Nat → Prop} {sts : List LSt} (p : Int) (hm : m = sts.length) (h : Own StE t w B S (.slice (some ⟨g, 0, none⟩) m c) sts) (hn : n < sts.length) :
    Own StE t (w.setCell ⟨g, n * 2, none⟩ (.int .i64 p)) B S (.slice (some ⟨g, 0, none⟩) m c) (sts.set n ⟨p, sts[n].cur⟩) := by
  subst hm
  refine Own.turn (k := n) (j := 0) (u := .int .i64 p) (y := ⟨p, sts[n].cur⟩) h hn (by decide) ?_
  rintro v ⟨C, c2, rfl, h1, h2, h3⟩
  exact ⟨C, c2, rfl, h1, h2, h3⟩

/-- nothing of the answer lies in the old blocks gg, gh -/
def RetEntG2 (gg gh : Nat) (r : LEnt × Int) (w : World) (en : Ending) (w' : World) : Prop :=
  ∃ v, en = .returned (.tuple #[v, .int .i64 r.2]) ∧ EntVS w' (fun b => (b ≠ gg ∧ b ≠ gh) ∨ w.heap.size ≤ b) r.1 v ∧ Below w.heap.size w w'
theorem RetEntG2.ent {gg gh : Nat} {r : LEnt × Int} {w w' : World} {en : Ending} (h : RetEntG2 gg gh r w en w') : RetEnt r w en w' := by
  obtain ⟨v, h1, h2, h3⟩ := h
  exact ⟨v, h1, h2.any, h3⟩

set_option maxRecDepth 100000 in
set_option maxHeartbeats 4000000 in
theorem drop_g (gg gh : Nat) (e : LEnt) (nm : ByteArray) (A B S : Option Addr) (ca cb cs : Nat) (w : World) (hA : SlS ColE w (fun b => b ≠ gg ∧ b ≠ gh) A e.tab.cols) (hB : SlS IxE w (fun b => b ≠ gg ∧ b ≠ gh) B e.tab.ixs) (hS : SlS StE w (fun b => b ≠ gg ∧ b ≠ gh) S e.sts) (hn : e.tab.name.size ≤ 140737488351232) :
    Calls Try.prog 11 #[.agg #[.int .i64 e.tab.id, .string e.tab.name, .slice A e.tab.cols.length ca, .int .i64 e.tab.keys, .slice B e.tab.ixs.length cb, .slice S e.sts.length cs], .string nm] w (RetEntG2 gg gh (dropE e nm) w) := by
  rcases e with ⟨⟨id, keys, tn, cols, ixs⟩, sts⟩
  simp only at hA hB hS hn ⊢
  have b0 : Below w.heap.size w (((w.alloc (.cells #[.int .i64 id, .string tn, .slice A cols.length ca, .int .i64 keys, .slice B ixs.length cb, .slice S sts.length cs] 35)).alloc (.cells #[.string nm] 9)).alloc (.cells #[.int .i64 0, .string ⟨#[]⟩, .slice none 0 0, .int .i64 0, .slice none 0 0, .slice none 0 0] 35)) :=
    (((Below.refl _ _).alloc (Nat.le_refl _) _).alloc (by simp) _).alloc (by simp; omega) _
  have ke := ((Blk.new w 35 #[.int .i64 id, .string tn, .slice A cols.length ca, .int .i64 keys, .slice B ixs.length cb, .slice S sts.length cs]).alloc (.cells #[.string nm] 9)).alloc (.cells #[.int .i64 0, .string ⟨#[]⟩, .slice none 0 0, .int .i64 0, .slice none 0 0, .slice none 0 0] 35)
  have kn := (Blk.new (w.alloc (.cells #[.int .i64 id, .string tn, .slice A cols.length ca, .int .i64 keys, .slice B ixs.length cb, .slice S sts.length cs] 35)) 9 #[.string nm]).alloc (.cells #[.int .i64 0, .string ⟨#[]⟩, .slice none 0 0, .int .i64 0, .slice none 0 0, .slice none 0 0] 35)
  have kz := Blk.new ((w.alloc (.cells #[.int .i64 id, .string tn, .slice A cols.length ca, .int .i64 keys, .slice B ixs.length cb, .slice S sts.length cs] 35)).alloc (.cells #[.string nm] 9)) 35 #[.int .i64 0, .string ⟨#[]⟩, .slice none 0 0, .int .i64 0, .slice none 0 0, .slice none 0 0]
  rw [show (w.alloc (.cells #[.int .i64 id, .string tn, .slice A cols.length ca, .int .i64 keys, .slice B ixs.length cb, .slice S sts.length cs] 35)).heap.size = w.heap.size + 1 by simp] at kn
  rw [show ((w.alloc (.cells #[.int .i64 id, .string tn, .slice A cols.length ca, .int .i64 keys, .slice B ixs.length cb, .slice S sts.length cs] 35)).alloc (.cells #[.string nm] 9)).heap.size = w.heap.size + 2 by simp] at kz
  have zWa : w.heap.size + 3 ≤ (((w.alloc (.cells #[.int .i64 id, .string tn, .slice A cols.length ca, .int .i64 keys, .slice B ixs.length cb, .slice S sts.length cs] 35)).alloc (.cells #[.string nm] 9)).alloc (.cells #[.int .i64 0, .string ⟨#[]⟩, .slice none 0 0, .int .i64 0, .slice none 0 0, .slice none 0 0] 35)).heap.size := by simp
  go_enter Try.func11, Try.ntmps11
  go_wp2_with fail
  generalize (((w.alloc (.cells #[.int .i64 id, .string tn, .slice A cols.length ca, .int .i64 keys, .slice B ixs.length cb, .slice S sts.length cs] 35)).alloc (.cells #[.string nm] 9)).alloc (.cells #[.int .i64 0, .string ⟨#[]⟩, .slice none 0 0, .int .i64 0, .slice none 0 0, .slice none 0 0] 35)) = W0 at *
  have hA0 := (hA.mono (S' := fun b => b < w.heap.size ∧ (b ≠ gg ∧ b ≠ gh)) (fun b hl h => ⟨hl, h⟩)).below b0
  have hB0 := (hB.mono (S' := fun b => b < w.heap.size ∧ (b ≠ gg ∧ b ≠ gh)) (fun b hl h => ⟨hl, h⟩)).below b0
  have hS0 := (hS.mono (S' := fun b => b < w.heap.size ∧ (b ≠ gg ∧ b ≠ gh)) (fun b hl h => ⟨hl, h⟩)).below b0
  refine (echeck_any id keys tn A B S ca cb cs cols ixs sts _ hA0.any.cols hB0.any.ixs hS0.any hn hA0.any.cnames hB0.any.xnames).mono ?_
  rintro en w1 ⟨rfl, b1⟩
  have z1 := b1.size
  have b01 := b0.trans (b1.mono b0.size)
  have ke1 := ke.below b1 ke.lt
  have kn1 := kn.below b1 kn.lt
  have kz1 := kz.below b1 kz.lt
  have hA1 := hA0.below b1
  have hB1 := hB0.below b1
  have hS1 := hS0.below b1
  clear ke kn kz hA hB hS hA0 hB0 hS0 b1 b0
  have hchk : (⟨⟨id, keys, tn, cols, ixs⟩, sts⟩ : LEnt).check = entryI id keys tn cols ixs sts := rfl
  by_cases h0 : entryI id keys tn cols ixs sts = 0
  · obtain ⟨hle1, hle2, hle3⟩ := LEnt.check_le (hchk.trans h0)
    simp only at hle1 hle2 hle3
    have hle4 : sts.length ≤ ixs.length := Nat.le_of_eq hle3
    have hle5 : ixs.length ≤ sts.length := Nat.le_of_eq hle3.symm
    clear hle3
    have HC : Hid ((⟨⟨id, keys, tn, cols, ixs⟩, sts⟩ : LEnt).check = 0) := hchk.trans h0
    have d0 : (entryI id keys tn cols ixs sts != 0) = false := by rw [h0]; rfl
    clear h0 hchk
    have q4 : w1.cell? ⟨w.heap.size, 4, none⟩ = some (.slice B ixs.length cb) := ke1.cell 4
    go_wp2_with fail
    refine (ifunc_any nm (w.heap.size + 1) cb B ixs w1 hB1.any kn1.lt (kn1.cell 0)).mono ?_
    rintro en w2 ⟨i, rfl, hpos, b2⟩
    have HP := Lib.hid hpos
    have z2 := b2.size
    have b02 := b01.trans (b2.mono b01.size)
    have ke2 := ke1.below b2 ke1.lt
    have kz2 := kz1.below b2 kz1.lt
    clear hpos q4 kn1
    by_cases hi : i < 0
    · have HR : Hid (dropE ⟨⟨id, keys, tn, cols, ixs⟩, sts⟩ nm = (.zero, 6)) := dropE_none HC.out HP.out hi
      go_wp2_with ((with_reducible refine wpList_store_blk rfl 35 (.tmp 4) (.tmp 23) rfl (w.heap.size + 2) 35 _ #[.int .i64 0, .string ⟨#[]⟩, .slice none 0 0, .int .i64 0, .slice none 0 0, .slice none 0 0] ?_ ?_ kz2 Try.size_Entry ?_ ?_ ?_ ?_); rfl; rfl; rfl; rfl; (simp [Value.oneCell']); intro w12 kz12 g12 z12)
      exact bodyPost_ret (results_cell2 rfl rfl rfl kz12 Try.underlying35 rfl Try.size_Entry) rfl (by exact ⟨_, by rw [HR.out]; rfl, by rw [HR.out]; exact EntVS.zero _ _, b02.grown g12 b02.size (fun j hj => by have := Option.some.inj hj; omega)⟩)
    · have q4 : w2.cell? ⟨w.heap.size, 4, none⟩ = some (.slice B ixs.length cb) := ke2.cell 4
      by_cases hl : i + 1 < (ixs.length : Int)
      · have HR : Hid (dropE ⟨⟨id, keys, tn, cols, ixs⟩, sts⟩ nm = (.zero, 1)) := dropE_arg HC.out HP.out hi hl
        go_wp2_with ((with_reducible refine wpList_store_blk rfl 35 (.tmp 4) (.tmp 31) rfl (w.heap.size + 2) 35 _ #[.int .i64 0, .string ⟨#[]⟩, .slice none 0 0, .int .i64 0, .slice none 0 0, .slice none 0 0] ?_ ?_ kz2 Try.size_Entry ?_ ?_ ?_ ?_); rfl; rfl; rfl; rfl; (simp [Value.oneCell']); intro w12 kz12 g12 z12)
        exact bodyPost_ret (results_cell2 rfl rfl rfl kz12 Try.underlying35 rfl Try.size_Entry) rfl (by exact ⟨_, by rw [HR.out]; rfl, by rw [HR.out]; exact EntVS.zero _ _, b02.grown g12 b02.size (fun j hj => by have := Option.some.inj hj; omega)⟩)
      · have HR : Hid (dropE ⟨⟨id, keys, tn, cols, ixs⟩, sts⟩ nm = (⟨⟨id, keys, tn, cols, ixs⟩, sts.set (sts.length - 1) (⟨⟨id, keys, tn, cols, ixs⟩, sts⟩ : LEnt).dropped⟩, 0)) := dropE_good HC.out HP.out hi hl
        obtain ⟨n, hin, hnl⟩ : ∃ n : Nat, i = n ∧ n < ixs.length := by
          rcases HP.out with ⟨rfl, _⟩ | ⟨k, hk, rfl, _⟩
          · omega
          · exact ⟨k, rfl, hk⟩
        subst hin
        have hn1 : sts.length ≤ n + 1 := by omega
        have hn2 : n + 1 ≤ sts.length := by omega
        have hlt : n < sts.length := by omega
        have eg : sts.getD (sts.length - 1) ⟨0, []⟩ = sts[n] := by rw [show sts.length - 1 = n by omega, List.getD_eq_getElem?_getD, List.getElem?_eq_getElem hlt]; rfl
        have HD : Hid ((⟨⟨id, keys, tn, cols, ixs⟩, sts⟩ : LEnt).dropped = ⟨2, if sts[n].phase = 0 then nextN (pfx id) 2 else sts[n].cur⟩) := by
          show _ = _; unfold LEnt.dropped; simp only; rw [eg]
        have HS : Hid (sts.length - 1 = n) := by show _ = _; omega
        clear eg hi hl
        go_wp2_with ((with_reducible refine wpList_load_blk rfl 35 (.tmp 2) rfl w.heap.size ?_ 35 _ _ ke2 Try.underlying35 ?_ Try.size_Entry ?_ ?_); rfl; rfl; rfl)
        refine (twin_out (fun b => b < w.heap.size ∧ (b ≠ gg ∧ b ≠ gh)) id keys tn cols ixs sts A B S ca cb cs w2 (hA1.any.below b2) (hB1.below b2) (hS1.below b2)).mono ?_
        rintro en w3 ⟨A2, B2, S2, c4, c5, c6, rfl, oA, oB, oS, b3⟩
        have z3 := b3.size
        have b03 := b02.trans (b3.mono b02.size)
        obtain ⟨g, rfl, hg1, hg2⟩ := oS.form (by omega)
        have hAl := hA1.leb
        have hBl := hB1.leb
        have hSl := hS1.leb
        obtain ⟨ad, C, c, had, _, c0, e1, hC, hCc⟩ := StE.at_ (oS.sl hSl) hlt
        obtain rfl := Option.some.inj had
        rw [add_row] at c0 e1
        have ke3 := ke2.below b3 ke2.lt
        have kz3 := kz2.below b3 kz2.lt
        have k7 := Blk.new w3 35 #[.int .i64 id, .string tn, .slice A2 cols.length c4, .int .i64 keys, .slice B2 ixs.length c5, .slice (some ⟨g, 0, none⟩) sts.length c6]
        have ha3 : Below w3.heap.size w3 (w3.alloc (.cells #[.int .i64 id, .string tn, .slice A2 cols.length c4, .int .i64 keys, .slice B2 ixs.length c5, .slice (some ⟨g, 0, none⟩) sts.length c6] 35)) := (Below.refl _ _).alloc (Nat.le_refl _) _
        have oA4 := oA.below ha3
        have oB4 := oB.below ha3
        have oS4 := oS.below ha3
        have ke4 := ke3.below ha3 ke3.lt
        have kz4 := kz3.below ha3 kz3.lt
        have c04 := (ha3.cell (p := ⟨g, n * 2, none⟩) hg2).trans c0
        have c14 := (ha3.cell (p := ⟨g, n * 2 + 1, none⟩) hg2).trans e1
        have f04 := oS4.frozen (n * 2)
        have f14 := oS4.frozen (n * 2 + 1)
        have b04 := b03.trans (ha3.mono b03.size)
        have z4 := ha3.size
        have q75 : (w3.alloc (.cells #[.int .i64 id, .string tn, .slice A2 cols.length c4, .int .i64 keys, .slice B2 ixs.length c5, .slice (some ⟨g, 0, none⟩) sts.length c6] 35)).cell? ⟨w3.heap.size, 5, none⟩ = some (.slice (some ⟨g, 0, none⟩) sts.length c6) := k7.cell 5
        go_upto_region 11 with fail
        clear q75 ha3
        have e40 : (w3.alloc (.cells #[.int .i64 id, .string tn, .slice A2 cols.length c4, .int .i64 keys, .slice B2 ixs.length c5, .slice (some ⟨g, 0, none⟩) sts.length c6] 35)).cell? ⟨w.heap.size, 0, none⟩ = some (.int .i64 id) := ke4.cell 0
        have e41 : (w3.alloc (.cells #[.int .i64 id, .string tn, .slice A2 cols.length c4, .int .i64 keys, .slice B2 ixs.length c5, .slice (some ⟨g, 0, none⟩) sts.length c6] 35)).cell? ⟨w.heap.size, 1, none⟩ = some (.string tn) := ke4.cell 1
        have e42 : (w3.alloc (.cells #[.int .i64 id, .string tn, .slice A2 cols.length c4, .int .i64 keys, .slice B2 ixs.length c5, .slice (some ⟨g, 0, none⟩) sts.length c6] 35)).cell? ⟨w.heap.size, 2, none⟩ = some (.slice A cols.length ca) := ke4.cell 2
        have e43 : (w3.alloc (.cells #[.int .i64 id, .string tn, .slice A2 cols.length c4, .int .i64 keys, .slice B2 ixs.length c5, .slice (some ⟨g, 0, none⟩) sts.length c6] 35)).cell? ⟨w.heap.size, 3, none⟩ = some (.int .i64 keys) := ke4.cell 3
        have e44 : (w3.alloc (.cells #[.int .i64 id, .string tn, .slice A2 cols.length c4, .int .i64 keys, .slice B2 ixs.length c5, .slice (some ⟨g, 0, none⟩) sts.length c6] 35)).cell? ⟨w.heap.size, 4, none⟩ = some (.slice B ixs.length cb) := ke4.cell 4
        have l7 := k7.lt
        have lz4 := kz4.lt
        have hB4 : (Value.slice B2 ixs.length c5).ownBlock ≠ some g := by
          obtain ⟨_, h1, _⟩ := oB
          obtain ⟨_, h2, _⟩ := oS
          rcases own_own_ne h1 h2 (by decide) with h | h
          · rw [h]; simp
          · exact h
        have hA4 : (Value.slice A2 cols.length c4).ownBlock ≠ some g := by
          obtain ⟨_, h1, _⟩ := oA
          obtain ⟨_, h2, _⟩ := oS
          rcases own_own_ne h1 h2 (by decide) with h | h
          · rw [h]; simp
          · exact h
        have oA4' := Own.colS (S' := fun _ => False) oA4
        have hBlt := fun b e => (oB.lt b e).2
        have f04' : (w3.alloc (.cells #[.int .i64 id, .string tn, .slice A2 cols.length c4, .int .i64 keys, .slice B2 ixs.length c5, .slice (some ⟨g, 0, none⟩) sts.length c6] 35)).frozen? ⟨g, n * 2, none⟩ = false := f04
        have lg4 : g < (w3.alloc (.cells #[.int .i64 id, .string tn, .slice A2 cols.length c4, .int .i64 keys, .slice B2 ixs.length c5, .slice (some ⟨g, 0, none⟩) sts.length c6] 35)).heap.size := Nat.lt_of_lt_of_le hg2 z4
        clear oA4 ke4 oA oB oS b03 f04
        generalize (w3.alloc (.cells #[.int .i64 id, .string tn, .slice A2 cols.length c4, .int .i64 keys, .slice B2 ixs.length c5, .slice (some ⟨g, 0, none⟩) sts.length c6] 35)) = V4 at *
        generalize hPP : sts[n].phase = P at *
        have HPP := Lib.hid hPP
        clear hPP
        by_cases hP : P = 0
        · have d1 : (P == 0) = true := by rw [hP]; rfl
          have HF : Hid ((⟨2, if P = 0 then nextN (pfx id) 2 else sts[n].cur⟩ : LSt) = ⟨2, nextN (pfx id) 2⟩) := by show _ = _; rw [if_pos hP]
          clear hP
          go_wp2_with fail
          refine (prefix_any _ _ _ _ _ _ _ _ _ _).mono ?_
          rintro en w5 ⟨A9, rfl, o9, b5⟩
          have t := next_any A9 (pfx id) 2 w5 (Bs.of_own (l := [114, UInt8.ofInt id]) o9 (by simp)) ⟨Nat.le_refl _, by decide⟩
          rw [show (pfx id).length = 2 from rfl] at t
          go_wp2_with fail
          refine t.mono ?_
          clear t
          rintro en w6 ⟨A8, c8, rfl, o8, b6⟩
          have z5 := b5.size
          have z6 := b6.size
          have bb : Below V4.heap.size V4 w6 := b5.trans (b6.mono z5)
          have k76 := k7.below bb l7
          have kz6 := kz4.below bb lz4
          have c16 := (bb.cell (p := ⟨g, n * 2, none⟩) lg4).trans c04
          have c26 := (bb.cell (p := ⟨g, n * 2 + 1, none⟩) lg4).trans c14
          have f06 := (bb.frozen (p := ⟨g, n * 2, none⟩) lg4).trans f04'
          have f16 := (bb.frozen (p := ⟨g, n * 2 + 1, none⟩) lg4).trans f14
          go_upto_region 14 with fail
          clear c16 c26 f06 f16 c04 c14
          have ho8 := own_at o8
          have h78 : w6.heap.size ≤ ((w6.setCell ⟨g, n * 2 + 1, none⟩ (.slice A8 (nextN (pfx id) 2).length c8)).setCell ⟨g, n * 2, none⟩ (.int .i64 2)).heap.size := by simp [World.setCell]
          have k77 := (k76.far (p := ⟨g, n * 2 + 1, none⟩) (by simp; omega) (.slice A8 (nextN (pfx id) 2).length c8)).far (p := ⟨g, n * 2, none⟩) (by simp; omega) (.int .i64 2)
          have kz7 := (kz6.far (p := ⟨g, n * 2 + 1, none⟩) (by simp; omega) (.slice A8 (nextN (pfx id) 2).length c8)).far (p := ⟨g, n * 2, none⟩) (by simp; omega) (.int .i64 2)
          have oA7 := ((oA4'.below bb).setCell (p := ⟨g, n * 2 + 1, none⟩) hA4 (fun h => h) (.slice A8 (nextN (pfx id) 2).length c8)).setCell (p := ⟨g, n * 2, none⟩) hA4 (fun h => h) (.int .i64 2)
          have oB7 := ((oB4.below bb).setCell (p := ⟨g, n * 2 + 1, none⟩) hB4 (fun h => h.2 rfl) (.slice A8 (nextN (pfx id) 2).length c8)).setCell (p := ⟨g, n * 2, none⟩) hB4 (fun h => h.2 rfl) (.int .i64 2)
          have oS7 := own_phase 2 (by simp) (own_cursor (l := nextN (pfx id) 2) (oS4.below bb) hlt (Bs.of_own o8 (by have := nextN_len (pfx id) 2; omega)) (fun ad e hl => (by have h8 := (ho8 ad e hl).1; exact ⟨⟨.inr (by omega), fun e2 => by have := hBlt _ e2; omega⟩, by omega⟩)) (own_cap o8)) (by simpa using hlt)
          rw [List.set_set, show ((sts.set n ⟨sts[n].phase, nextN (pfx id) 2⟩)[n]'(by simpa using hlt)).cur = nextN (pfx id) 2 by simp] at oS7
          have b07 := ((b04.trans (bb.mono b04.size)).setCell (p := ⟨g, n * 2 + 1, none⟩) (by simp; omega) (.slice A8 (nextN (pfx id) 2).length c8)).setCell (p := ⟨g, n * 2, none⟩) (by simp; omega) (.int .i64 2)
          clear o8 ho8 o9 k76 kz6 oA4' oB4 oS4
          generalize ((w6.setCell ⟨g, n * 2 + 1, none⟩ (.slice A8 (nextN (pfx id) 2).length c8)).setCell ⟨g, n * 2, none⟩ (.int .i64 2)) = V7 at *
          go_wp2_with (first
            | ((with_reducible refine wpList_load_blk rfl 35 (.tmp 8) rfl w3.heap.size ?_ 35 _ _ k77 Try.underlying35 ?_ Try.size_Entry ?_ ?_); rfl; rfl; rfl)
            | ((with_reducible refine wpList_store_blk rfl 35 (.tmp 4) (.tmp 53) rfl (w.heap.size + 2) 35 _ #[.int .i64 id, .string tn, .slice A2 cols.length c4, .int .i64 keys, .slice B2 ixs.length c5, .slice (some ⟨g, 0, none⟩) sts.length c6] ?_ ?_ kz7 Try.size_Entry ?_ ?_ ?_ ?_); rfl; rfl; rfl; rfl; (simp [Value.oneCell']); intro w12 kz12 g12 z12))
          have hs12 : Same (fun b => b ≠ w.heap.size + 2) V7 w12 := .of_grown g12 (fun b hb e => hb (Option.some.inj e).symm)
          have hgood : RetEntG2 gg gh (dropE ⟨⟨id, keys, tn, cols, ixs⟩, sts⟩ nm) w (.returned (.tuple #[.agg #[.int .i64 id, .string tn, .slice A2 cols.length c4, .int .i64 keys, .slice B2 ixs.length c5, .slice (some ⟨g, 0, none⟩) sts.length c6], .int .i64 0])) w12 := by
            rw [HR.out, HS.out, HD.out, HF.out]
            refine ⟨_, rfl, ⟨A2, B2, some ⟨g, 0, none⟩, c4, c5, c6, by simp, ?_, ?_, ?_, hn⟩, b07.grown g12 b07.size (fun j hj => by have := Option.some.inj hj; omega)⟩
            · exact ((oA7.slS (S' := fun b => b ≠ w.heap.size + 2 ∧ ((b ≠ gg ∧ b ≠ gh) ∨ w.heap.size ≤ b)) rfl hAl (fun _ h => absurd h (fun h => h)) (fun b hb => by omega)).same (hs12.mono fun b _ h => h.1)).mono (fun b _ h => h.2)
            · exact ((oB7.slS (S' := fun b => b ≠ w.heap.size + 2 ∧ ((b ≠ gg ∧ b ≠ gh) ∨ w.heap.size ≤ b)) rfl hBl (fun b h => (by rcases h.1 with h1 | h1 <;> omega)) (fun b hb => by omega)).same (hs12.mono fun b _ h => h.1)).mono (fun b _ h => h.2)
            · exact ((oS7.slS (S' := fun b => b ≠ w.heap.size + 2 ∧ ((b ≠ gg ∧ b ≠ gh) ∨ w.heap.size ≤ b)) (by simp) (by simpa using hSl) (fun b h => (by rcases h.1 with h1 | h1 <;> omega)) (fun b hb => by omega)).same (hs12.mono fun b _ h => h.1)).mono (fun b _ h => h.2)
          exact bodyPost_ret (results_cell2 rfl rfl rfl kz12 Try.underlying35 rfl Try.size_Entry) rfl (by exact hgood)
        · have d1 : (P == 0) = false := by rw [beq_eq_false_iff_ne]; exact hP
          have HF : Hid ((⟨2, if P = 0 then nextN (pfx id) 2 else sts[n].cur⟩ : LSt) = ⟨2, sts[n].cur⟩) := by show _ = _; rw [if_neg hP]
          clear hP
          go_upto_region 14 with fail
          clear c04 c14
          have k77 := k7.far (p := ⟨g, n * 2, none⟩) (by simp; omega) (.int .i64 2)
          have kz7 := kz4.far (p := ⟨g, n * 2, none⟩) (by simp; omega) (.int .i64 2)
          have oA7 := oA4'.setCell (p := ⟨g, n * 2, none⟩) hA4 (fun h => h) (.int .i64 2)
          have oB7 := oB4.setCell (p := ⟨g, n * 2, none⟩) hB4 (fun h => h.2 rfl) (.int .i64 2)
          have oS7 := own_phase 2 rfl oS4 hlt
          have b07 := b04.setCell (p := ⟨g, n * 2, none⟩) (by simp; omega) (.int .i64 2)
          clear oA4' oB4 oS4
          generalize (V4.setCell ⟨g, n * 2, none⟩ (.int .i64 2)) = V7 at *
          go_wp2_with (first
            | ((with_reducible refine wpList_load_blk rfl 35 (.tmp 8) rfl w3.heap.size ?_ 35 _ _ k77 Try.underlying35 ?_ Try.size_Entry ?_ ?_); rfl; rfl; rfl)
            | ((with_reducible refine wpList_store_blk rfl 35 (.tmp 4) (.tmp 53) rfl (w.heap.size + 2) 35 _ #[.int .i64 id, .string tn, .slice A2 cols.length c4, .int .i64 keys, .slice B2 ixs.length c5, .slice (some ⟨g, 0, none⟩) sts.length c6] ?_ ?_ kz7 Try.size_Entry ?_ ?_ ?_ ?_); rfl; rfl; rfl; rfl; (simp [Value.oneCell']); intro w12 kz12 g12 z12))
          have hs12 : Same (fun b => b ≠ w.heap.size + 2) V7 w12 := .of_grown g12 (fun b hb e => hb (Option.some.inj e).symm)
          have hgood : RetEntG2 gg gh (dropE ⟨⟨id, keys, tn, cols, ixs⟩, sts⟩ nm) w (.returned (.tuple #[.agg #[.int .i64 id, .string tn, .slice A2 cols.length c4, .int .i64 keys, .slice B2 ixs.length c5, .slice (some ⟨g, 0, none⟩) sts.length c6], .int .i64 0])) w12 := by
            rw [HR.out, HS.out, HD.out, HF.out]
            refine ⟨_, rfl, ⟨A2, B2, some ⟨g, 0, none⟩, c4, c5, c6, by simp, ?_, ?_, ?_, hn⟩, b07.grown g12 b07.size (fun j hj => by have := Option.some.inj hj; omega)⟩
            · exact ((oA7.slS (S' := fun b => b ≠ w.heap.size + 2 ∧ ((b ≠ gg ∧ b ≠ gh) ∨ w.heap.size ≤ b)) rfl hAl (fun _ h => absurd h (fun h => h)) (fun b hb => by omega)).same (hs12.mono fun b _ h => h.1)).mono (fun b _ h => h.2)
            · exact ((oB7.slS (S' := fun b => b ≠ w.heap.size + 2 ∧ ((b ≠ gg ∧ b ≠ gh) ∨ w.heap.size ≤ b)) rfl hBl (fun b h => (by rcases h.1 with h1 | h1 <;> omega)) (fun b hb => by omega)).same (hs12.mono fun b _ h => h.1)).mono (fun b _ h => h.2)
            · exact ((oS7.slS (S' := fun b => b ≠ w.heap.size + 2 ∧ ((b ≠ gg ∧ b ≠ gh) ∨ w.heap.size ≤ b)) (by simp) (by simpa using hSl) (fun b h => (by rcases h.1 with h1 | h1 <;> omega)) (fun b hb => by omega)).same (hs12.mono fun b _ h => h.1)).mono (fun b _ h => h.2)
          exact bodyPost_ret (results_cell2 rfl rfl rfl kz12 Try.underlying35 rfl Try.size_Entry) rfl (by exact hgood)
  · have HR : Hid (dropE ⟨⟨id, keys, tn, cols, ixs⟩, sts⟩ nm = (.zero, entryI id keys tn cols ixs sts)) := dropE_bad nm h0
    have d0 : (entryI id keys tn cols ixs sts != 0) = true := by rw [bne_iff_ne]; exact h0
    clear h0 hchk
    go_wp2_with ((with_reducible refine wpList_store_blk rfl 35 (.tmp 4) (.tmp 14) rfl (w.heap.size + 2) 35 _ #[.int .i64 0, .string ⟨#[]⟩, .slice none 0 0, .int .i64 0, .slice none 0 0, .slice none 0 0] ?_ ?_ kz1 Try.size_Entry ?_ ?_ ?_ ?_); rfl; rfl; rfl; rfl; (simp [Value.oneCell']); intro w12 kz12 g12 z12)
    exact bodyPost_ret (results_cell2 rfl rfl rfl kz12 Try.underlying35 rfl Try.size_Entry) rfl (by exact ⟨_, by rw [HR.out]; rfl, by rw [HR.out]; exact EntVS.zero _ _, b01.grown g12 b01.size (fun j hj => by have := Option.some.inj hj; omega)⟩)

theorem drop_any (e : LEnt) (nm : ByteArray) (A B S : Option Addr) (ca cb cs : Nat) (w : World) (hA : Sl ColE w A e.tab.cols) (hB : Sl IxE w B e.tab.ixs) (hS : Sl StE w S e.sts) (hn : e.tab.name.size ≤ 140737488351232) :
    Calls Try.prog 11 #[.agg #[.int .i64 e.tab.id, .string e.tab.name, .slice A e.tab.cols.length ca, .int .i64 e.tab.keys, .slice B e.tab.ixs.length cb, .slice S e.sts.length cs], .string nm] w (RetEnt (dropE e nm) w) :=
  (drop_g w.heap.size w.heap.size e nm A B S ca cb cs w (hA.mono fun _ hl _ => ⟨Nat.ne_of_lt hl, Nat.ne_of_lt hl⟩) (hB.mono fun _ hl _ => ⟨Nat.ne_of_lt hl, Nat.ne_of_lt hl⟩) (hS.mono fun _ hl _ => ⟨Nat.ne_of_lt hl, Nat.ne_of_lt hl⟩) hn).mono fun _ _ h => h.ent

end Go.Proofs.Ytkmigfponoagnaa
