/- The catalog's reader: a whole entry: reader.read. -/
import Derived.Test.YtemidaamnldjmaaHeldK
import Derived.Test.YtemidaamnldjmaaReadX
import Derived.Test.YtemidaamnldjmaaEncC
import Derived.Deep.RegionHeld3
import Derived.Test.YtemidaamnldjmaaTold
namespace Go.Proofs.Ytemidaamnldjmaa
open Go.RowKit

theorem step_appE {α : Type} (E : ER α) (b : Nat) (w : World) {ops : Array Oper} {o : Oper} {a : Act} {K : Act → World → Prop} {Q : Exit → Act → World → Prop} {X : Prop} (hgd : o.guard = none) (s x : Operand) (t ty : TypeId)
    (ho : o.op = .call { callee := .builtin .append, args := #[s, x], argTypes := #[ty, ty] }) (i : TypeInfo) (z : Value) (ht : Try.prog.underlying ty = some (.slice t)) (hi : Try.prog.info? t = some i) (hz : i.zero = some z) (hsize : i.size = E.size) (hby : i.bytes = E.bytes) (hzs : z.cells.size = E.size)
    (S : Nat → Prop) (A : Option Addr) (xs : List α) (c : Nat) (hs : a.eval s = .slice A xs.length c) (hown : Own E t w b S (.slice A xs.length c) xs)
    (B : Option Addr) (us : List Value) (y : α) (d : Nat) (hx : a.eval x = .slice B 1 d) (Bd : Nat) (hr : Reads w Bd E.size B 1 us) (hrep : E.rep w (fun b => S b ∧ (Value.slice A xs.length c).ownBlock ≠ some b) us y)
    (hl : (xs.length + 1) * E.bytes ≤ 140737488355328) (hl2 : xs.length + 1 ≤ maxLen) (hbw : b ≤ w.heap.size)
    (h : ∀ A' c' xs' w', Hid (xs' = xs ++ [y]) → Own E t w' b S (.slice A' xs'.length c') xs' → w.grownBy w' (Value.slice A xs.length c).ownBlock → ((Value.slice A' xs'.length c').ownBlock = (Value.slice A xs.length c).ownBlock ∨ (Value.slice A' xs'.length c').ownBlock = some w.heap.size) → K (a.put o.dst (.slice A' xs'.length c')) w') :
    if Region.wanted o (yielded ops a.tmps) = true then Oper.wp Try.prog o a w K Q else X := by
  obtain ⟨vs, hown, hf⟩ := hown
  refine step_append_sh w hgd s x ty ho b t i z E.size E.bytes ht hi hz hsize hby hzs E.pos _ _ _ hs hown Bd B 1 d us hx hr (E.one hrep) hl2 hl hbw ?_
  intro A' c' w' o' g' t'
  have e : xs.length + 1 = (xs ++ [y]).length := by rw [List.length_append]; rfl
  have hst := Own.step (S := S) hf hrep o' g' t'
  rw [e] at hst t' ⊢
  exact h A' c' (xs ++ [y]) w' rfl hst g' t'
theorem Try.infoColR : (Try.prog.info? 51).map (fun i => (i.zero, i.size, i.bytes)) = some (some (.agg #[.string ⟨#[]⟩, .int .i64 0, .bool false]), 3, 32) := by kernel_rfl
theorem rdCs_pos {j : Int} (h : 0 < j) (l : List LVal) : rdCs j.toNat l = (rdC l).bind fun a => (rdCs (j - 1).toNat a.2).bind fun b => some (a.1 :: b.1, b.2) := by
  obtain ⟨n, rfl⟩ : ∃ n : Nat, j = n + 1 := ⟨(j - 1).toNat, by omega⟩
  rw [show ((n : Int) + 1).toNat = n + 1 by omega, show ((n : Int) + 1 - 1).toNat = n by omega]
  rfl
theorem rdCs_neg {j : Int} (h : ¬ 0 < j) (l : List LVal) : rdCs j.toNat l = some ([], l) := by
  rw [show j.toNat = 0 by omega]; rfl
theorem rdC_len {l : List LVal} {a : LCol × List LVal} (h : rdC l = some a) : a.2.length + 3 = l.length := by
  unfold rdC at h
  obtain ⟨b, hb, h⟩ := Option.bind_eq_some_iff.1 h
  obtain ⟨c, hc, h⟩ := Option.bind_eq_some_iff.1 h
  obtain ⟨d, hd, h⟩ := Option.bind_eq_some_iff.1 h
  cases h
  have h1 := congrArg List.length (rdT_lt hb)
  have h2 := congrArg List.length (rdI_lt hc)
  have h3 := congrArg List.length (rdB_lt hd)
  rw [List.length_cons] at h1 h2 h3
  show d.2.length + 3 = _
  omega
theorem Own.drew_ {α : Type} {E : ER α} {t : TypeId} {w : World} {B : Nat} {S : Nat → Prop} {v : Value} {xs : List α} (h : Own E t w B S v xs) : Own E t w.drew B S v xs := Own.below h ((Below.refl _ _).drew)
theorem Own.alloc_ {α : Type} {E : ER α} {t : TypeId} {w : World} {B : Nat} {S : Nat → Prop} {v : Value} {xs : List α} (h : Own E t w B S v xs) (o : Obj) : Own E t (w.alloc o) B S v xs := Own.below h ((Below.refl _ _).alloc (Nat.le_refl _) _)
/-- three blocks that are known whole -/
def KP3 (W : World) (g1 : Nat) (t1 : TypeId) (c1 : Array Value) (g2 : Nat) (t2 : TypeId) (c2 : Array Value) (g3 : Nat) (t3 : TypeId) (c3 : Array Value) : Prop := Blk W g1 t1 c1 ∧ Blk W g2 t2 c2 ∧ Blk W g3 t3 c3
section
variable {W W' : World} {g1 g2 g3 : Nat} {t1 t2 t3 : TypeId} {c1 c2 c3 : Array Value}
theorem KP3.drew_ (h : KP3 W g1 t1 c1 g2 t2 c2 g3 t3 c3) : KP3 W.drew g1 t1 c1 g2 t2 c2 g3 t3 c3 := h
theorem KP3.alloc_ (h : KP3 W g1 t1 c1 g2 t2 c2 g3 t3 c3) (o : Obj) : KP3 (W.alloc o) g1 t1 c1 g2 t2 c2 g3 t3 c3 := ⟨h.1.alloc o, h.2.1.alloc o, h.2.2.alloc o⟩
theorem KP3.grown_ {row : Option Nat} (h : KP3 W g1 t1 c1 g2 t2 c2 g3 t3 c3) (hg : W.grownBy W' row) (h1 : some g1 ≠ row) (h2 : some g2 ≠ row) (h3 : some g3 ≠ row) : KP3 W' g1 t1 c1 g2 t2 c2 g3 t3 c3 := ⟨h.1.grown hg h1, h.2.1.grown hg h2, h.2.2.grown hg h3⟩
end
/-- how many values lie before the reader -/
def rdLen (w : World) (g : Nat) : Nat := match w.cell? ⟨g, 0, none⟩ with | some (.slice _ n _) => n | _ => 0
theorem Rd.rdLen {S : Nat → Prop} {w : World} {g : Nat} {l : List LVal} (h : Rd S w g l) : rdLen w g = l.length := by
  obtain ⟨A, c, k, _⟩ := h
  have h1 : w.cell? ⟨g, 0, none⟩ = some (.slice A l.length c) := k.cell 0
  unfold Go.Proofs.Ytemidaamnldjmaa.rdLen
  rw [h1]
theorem rdX_len {l : List LVal} {a : (LIx × LSt) × List LVal} (h : rdX l = some a) : a.2.length + 5 ≤ l.length := by
  unfold rdX at h
  obtain ⟨b, hb, h⟩ := Option.bind_eq_some_iff.1 h
  obtain ⟨c, hc, h⟩ := Option.bind_eq_some_iff.1 h
  obtain ⟨d, hd, h⟩ := Option.bind_eq_some_iff.1 h
  obtain ⟨e, he, h⟩ := Option.bind_eq_some_iff.1 h
  obtain ⟨f, hf, h⟩ := Option.bind_eq_some_iff.1 h
  obtain ⟨g, hg, h⟩ := Option.bind_eq_some_iff.1 h
  cases h
  have h1 := congrArg List.length (rdT_lt hb)
  have h2 := congrArg List.length (rdB_lt hc)
  have h3 := congrArg List.length (rdI_lt hd)
  have h4 := rdNs_le he
  have h5 := congrArg List.length (rdI_lt hf)
  have h6 := congrArg List.length (rdY_lt hg)
  rw [List.length_cons] at h1 h2 h3 h5 h6
  show g.2.length + 5 ≤ _
  omega
/-- an entry's value is answered -/
def valE (w : World) (e : LEnt) (v : Value) : Prop :=
  ∃ A B C ca cb cs, v = .agg #[.int .i64 e.tab.id, .string e.tab.name, .slice A e.tab.cols.length ca, .int .i64 e.tab.keys, .slice B e.tab.ixs.length cb, .slice C e.sts.length cs] ∧ Sl ColE w A e.tab.cols ∧ Sl IxE w B e.tab.ixs ∧ Sl StE w C e.sts ∧ e.tab.name.size ≤ 140737488351232
/-- .. whose rows and data lie in blocks of S -/
def valES (w : World) (S : Nat → Prop) (e : LEnt) (v : Value) : Prop :=
  ∃ A B C ca cb cs, v = .agg #[.int .i64 e.tab.id, .string e.tab.name, .slice A e.tab.cols.length ca, .int .i64 e.tab.keys, .slice B e.tab.ixs.length cb, .slice C e.sts.length cs] ∧ SlS ColE w S A e.tab.cols ∧ SlS IxE w S B e.tab.ixs ∧ SlS StE w S C e.sts ∧ e.tab.name.size ≤ 140737488351232
/-- an entry is read, or there is a panic -/
def RetRead (S : Nat → Prop) (o : Option LEnt) (g : Nat) (w : World) (en : Ending) (w' : World) : Prop :=
  w.grownBy w' (some g) ∧ ((∃ e v, o = some e ∧ en = .returned v ∧ valES w' (fun b => S b ∨ w.heap.size ≤ b) e v) ∨ (o = none ∧ Pan en))
set_option maxRecDepth 100000 in
set_option maxHeartbeats 8000000 in
theorem rread_any (S : Nat → Prop) (g : Nat) (l : List LVal) (w : World) (h : Rd S w g l) : Calls Try.prog 28 #[.pointer (some ⟨g, 0, none⟩)] w (RetRead S (rdE l) g w) := by
  obtain ⟨i1, hi1, hy0, hy1, hy2⟩ := info_parts Try.infoColR
  obtain ⟨i2, hi2, hx0, hx1, hx2⟩ := info_parts Try.info_xclone
  obtain ⟨i3, hi3, hs0, hs1, hs2⟩ := info_parts Try.info_sclone
  have b0 : Below w.heap.size w (w.alloc (.cells #[.int .i64 0, .string ⟨#[]⟩, .slice none 0 0, .int .i64 0, .slice none 0 0, .slice none 0 0] 33)) := (Below.refl _ _).alloc (Nat.le_refl _) _
  have k2 := Blk.new w 33 #[.int .i64 0, .string ⟨#[]⟩, .slice none 0 0, .int .i64 0, .slice none 0 0, .slice none 0 0]
  have hgl := h.lt
  have hne := h.ne
  have hlb := h.leb
  have h0 := h.old.below b0
  have g0 := grownOf b0 (some g)
  have HNE := Lib.hid hne
  clear hne h
  go_enter Try.func28, Try.ntmps28
  go_wp2_with fail
  generalize (w.alloc (.cells #[.int .i64 0, .string ⟨#[]⟩, .slice none 0 0, .int .i64 0, .slice none 0 0, .slice none 0 0] 33)) = W0 at *
  have lk := k2.lt
  cases ht : rdI l with
  | none =>
    have HO : Hid (rdE l = none) := by show _ = _; unfold rdE; rw [ht]; rfl
    refine (RetR.no_ (rint_any _ g l W0 h0) ht).mono ?_
    rintro en wz ⟨⟨u, pv, rfl⟩, hgz⟩
    exact ⟨rfl, g0.trans hgz, .inr ⟨HO.out, _, _, rfl⟩⟩
  | some a1 =>
  have HR1 : Hid (rdE l = (rdT a1.2).bind fun b => (rdI b.2).bind fun c => (rdI c.2).bind fun d => (rdCs d.1.toNat d.2).bind fun e => (rdXs e.2.length e.2).bind fun f => some ⟨⟨a1.1, c.1, b.1, e.1, f.1⟩, f.2⟩) := by show _ = _; unfold rdE; rw [ht]; rfl
  have T := RetR.ok_ (rint_any _ g l W0 h0) ht
  have hl1 : a1.2.length + 1 = l.length := by rw [rdI_lt ht, List.length_cons]
  clear ht
  refine T.mono ?_
  clear T
  rintro en w1 ⟨v1, rfl, ⟨rfl, hr1⟩, h1, hg1⟩
  have k21 := k2.grown hg1 (by intro e; have := Option.some.inj e; omega)
  have gg1 := g0.trans hg1
  have z1 := gg1.size
  have lk1 := k21.lt
  clear h0 g0 hg1 k2 b0
  go_wp2_with fail
  cases ht : rdT a1.2 with
  | none =>
    have HO : Hid (rdE l = none) := by show _ = _; rw [HR1.out, ht]; rfl
    refine (RetR.no_ (rtext_any _ g a1.2 w1 h1) ht).mono ?_
    rintro en wz ⟨⟨u, pv, rfl⟩, hgz⟩
    exact ⟨rfl, gg1.trans hgz, .inr ⟨HO.out, _, _, rfl⟩⟩
  | some a2 =>
  have HR2 : Hid (rdE l = (rdI a2.2).bind fun c => (rdI c.2).bind fun d => (rdCs d.1.toNat d.2).bind fun e => (rdXs e.2.length e.2).bind fun f => some ⟨⟨a1.1, c.1, a2.1, e.1, f.1⟩, f.2⟩) := by show _ = _; rw [HR1.out, ht]; rfl
  have T := RetR.ok_ (rtext_any _ g a1.2 w1 h1) ht
  have hl2 : a2.2.length + 1 = a1.2.length := by rw [rdT_lt ht, List.length_cons]
  clear ht HR1
  refine T.mono ?_
  clear T
  rintro en w2 ⟨v2, rfl, ⟨rfl, hsz⟩, h2, hg2⟩
  have k22 := k21.grown hg2 (by intro e; have := Option.some.inj e; omega)
  have gg2 := gg1.trans hg2
  have z2 := gg2.size
  have lk2 := k22.lt
  clear h1 gg1 hg2 k21
  go_wp2_with fail
  cases ht : rdI a2.2 with
  | none =>
    have HO : Hid (rdE l = none) := by show _ = _; rw [HR2.out, ht]; rfl
    refine (RetR.no_ (rint_any _ g a2.2 w2 h2) ht).mono ?_
    rintro en wz ⟨⟨u, pv, rfl⟩, hgz⟩
    exact ⟨rfl, gg2.trans hgz, .inr ⟨HO.out, _, _, rfl⟩⟩
  | some a3 =>
  have HR3 : Hid (rdE l = (rdI a3.2).bind fun d => (rdCs d.1.toNat d.2).bind fun e => (rdXs e.2.length e.2).bind fun f => some ⟨⟨a1.1, a3.1, a2.1, e.1, f.1⟩, f.2⟩) := by show _ = _; rw [HR2.out, ht]; rfl
  have T := RetR.ok_ (rint_any _ g a2.2 w2 h2) ht
  have hl3 : a3.2.length + 1 = a2.2.length := by rw [rdI_lt ht, List.length_cons]
  clear ht HR2
  refine T.mono ?_
  clear T
  rintro en w3 ⟨v3, rfl, ⟨rfl, hr3⟩, h3, hg3⟩
  have k23 := k22.grown hg3 (by intro e; have := Option.some.inj e; omega)
  have gg3 := gg2.trans hg3
  have z3 := gg3.size
  have lk3 := k23.lt
  clear h2 gg2 hg3 k22
  have dX : Below w3.heap.size w3 (w3.alloc (.cells #[.int .i64 a1.1, .string a2.1, .slice none 0 0, .int .i64 a3.1, .slice none 0 0, .slice none 0 0] 33)) := (Below.refl _ _).alloc (Nat.le_refl _) _
  have kX := Blk.new w3 33 #[.int .i64 a1.1, .string a2.1, .slice none 0 0, .int .i64 a3.1, .slice none 0 0, .slice none 0 0]
  have k2X := k23.below dX k23.lt
  have hX := h3.below dX
  have ggX := gg3.trans (grownOf dX (some g))
  clear h3 gg3 k23 dX
  go_upto_region 2 with fail
  generalize (w3.alloc (.cells #[.int .i64 a1.1, .string a2.1, .slice none 0 0, .int .i64 a3.1, .slice none 0 0, .slice none 0 0] 33)) = X at *
  have lX := kX.lt
  go_wp2_with fail
  cases ht : rdI a3.2 with
  | none =>
    have HO : Hid (rdE l = none) := by show _ = _; rw [HR3.out, ht]; rfl
    refine (RetR.no_ (rint_any _ g a3.2 X hX) ht).mono ?_
    rintro en wz ⟨⟨u, pv, rfl⟩, hgz⟩
    exact ⟨rfl, ggX.trans hgz, .inr ⟨HO.out, _, _, rfl⟩⟩
  | some a4 =>
  have HR4 : Hid (rdE l = (rdCs a4.1.toNat a4.2).bind fun e => (rdXs e.2.length e.2).bind fun f => some ⟨⟨a1.1, a3.1, a2.1, e.1, f.1⟩, f.2⟩) := by show _ = _; rw [HR3.out, ht]; rfl
  have T := RetR.ok_ (rint_any _ g a3.2 X hX) ht
  have hl4 : a4.2.length + 1 = a3.2.length := by rw [rdI_lt ht, List.length_cons]
  clear ht HR3
  refine T.mono ?_
  clear T
  rintro en w4 ⟨v4, rfl, ⟨rfl, hn1, hn2⟩, h4, hg4⟩
  have kX4 := kX.grown hg4 (by intro e; have := Option.some.inj e; omega)
  have k24 := k2X.grown hg4 (by intro e; have := Option.some.inj e; omega)
  have gg4 := ggX.trans hg4
  have z4 := hg4.size
  clear hX ggX hg4 kX k2X
  go_wp2_with fail
  go_loopw [4] (fun i wr => ∃ (j : Int) (cs : List LCol) (l' : List LVal) (A : Option Addr) (ca : Nat), i = .int .i64 j ∧ j < 9223372036854775808 ∧ -9223372036854775808 ≤ j ∧ rdE l = (rdCs j.toNat l').bind (fun e => (rdXs e.2.length e.2).bind fun f => some ⟨⟨a1.1, a3.1, a2.1, cs ++ e.1, f.1⟩, f.2⟩) ∧ cs.length * 3 + l'.length ≤ l.length ∧ Own ColE 51 wr (w3.heap.size + 1) (fun _ => False) (.slice A cs.length ca) cs ∧ Blk wr w3.heap.size 33 #[.int .i64 a1.1, .string a2.1, .slice A cs.length ca, .int .i64 a3.1, .slice none 0 0, .slice none 0 0] ∧ Blk wr w.heap.size 33 #[.int .i64 0, .string ⟨#[]⟩, .slice none 0 0, .int .i64 0, .slice none 0 0, .slice none 0 0] ∧ Rd (fun b => S b ∧ b < w.heap.size) wr g l' ∧ w.grownBy wr (some g) ∧ w3.heap.size < wr.heap.size) (fun i _ => (intOf i).toNat)
  case atStart => exact ⟨a4.1, [], a4.2, none, 0, rfl, hn2, hn1, HR4.out, by rw [List.length_nil]; omega, Own.nil_ ColE _ _ _ _, kX4, k24, h4, gg4, by omega⟩
  case round =>
    clear kX4 k24 h4 gg4 HR4
    obtain ⟨j, cs, l', A, ca, rfl, hj1, hj2, hrx, hal, oC, kx, kr, hr, gg, zz⟩ := hrel
    generalize wr = wo at *
    have HRX := Lib.hid hrx
    clear hrx
    by_cases hj : 0 < j
    · have dj : decide (0 < j) = true := decide_eq_true hj
      have hw : IntKind.i64.wrap (j - 1) = j - 1 := by
        simp only [IntKind.wrap]
        split <;> simp_all [IntKind.bits, IntKind.signed] <;> omega
      have hgd := gg.trans (grownOf ((Below.refl wo.heap.size wo).drew) (some g))
      have q1 : wo.drew.cell? ⟨w3.heap.size, 2, none⟩ = some (.slice A cs.length ca) := kx.cell 2
      cases ht : rdC l' with
      | none =>
        have HO : Hid (rdE l = none) := by show _ = _; rw [HRX.out, rdCs_pos hj, ht]; rfl
        have T := RetR.no_ (rcolumn_any _ g l' wo.drew (hr.drewN 1)) ht
        clear HRX ht
        go_upto_region 5 with fail
        refine wp_region_any (by kernel_rfl) ?_
        try (change wpAny _ _ _ _ _ _ _ (World.drew _))
        refine wpAny_take (i := 0) (v := ?_) rfl (by kernel_rfl) (by kernel_rfl) (by kernel_rfl) (fun _ _ _ h => h) (Or.inl ⟨by rfl, ?_⟩) ?_
        case refine_2 => intro w; go_simp; try with_reducible rfl
        refine wpAny_take (i := 1) (v := ?_) rfl (by kernel_rfl) (by kernel_rfl) (by kernel_rfl) (fun _ _ _ h => h) (Or.inl ⟨by rfl, ?_⟩) ?_
        case refine_2 => intro w; go_simp; try with_reducible rfl
        refine wpAny_take (i := 3) (v := ?_) rfl (by kernel_rfl) (by kernel_rfl) (by kernel_rfl) (fun _ _ _ h => h) (Or.inl ⟨by rfl, ?_⟩) ?_
        case refine_2 => intro w; go_simp; try with_reducible rfl
        refine wpAny_ready (rs := [2, 4]) (by kernel_rfl) (by simp) ?_
        refine AllReady.cons rfl (fun K hK => ?_) (AllReady.cons rfl (fun K hK => ?_) AllReady.nil)
        · go_simp
          refine hK _ _ ?_
          clear hK K
          refine wpAny_ready (rs := [4]) (by kernel_rfl) (by simp) ?_
          refine AllReady.cons rfl (fun K hK => ?_) AllReady.nil
          go_simp
          go_at_call 50
          refine T.mono ?_
          rintro en w6 ⟨⟨u, pv, rfl⟩, hg6⟩
          exact ⟨rfl, hgd.trans hg6, .inr ⟨HO.out, _, _, rfl⟩⟩
        · go_simp
          go_at_call 50
          refine T.mono ?_
          rintro en w6 ⟨⟨u, pv, rfl⟩, hg6⟩
          exact ⟨rfl, hgd.trans hg6, .inr ⟨HO.out, _, _, rfl⟩⟩
      | some a =>
        have HRX2 : Hid (rdE l = (rdCs (j - 1).toNat a.2).bind (fun e => (rdXs e.2.length e.2).bind fun f => some ⟨⟨a1.1, a3.1, a2.1, (cs ++ [a.1]) ++ e.1, f.1⟩, f.2⟩)) := by
          show _ = _
          rw [HRX.out, rdCs_pos hj, ht]
          show ((rdCs (j - 1).toNat a.2).bind fun b => some (a.1 :: b.1, b.2)).bind _ = _
          cases rdCs (j - 1).toNat a.2 with
          | none => rfl
          | some d => show (rdXs d.2.length d.2).bind _ = (rdXs d.2.length d.2).bind _; rw [List.append_assoc]; rfl
        have T := RetR.ok_ (rcolumn_any _ g l' wo.drew (hr.drewN 1)) ht
        have hla := rdC_len ht
        clear ht HRX
        have f1 : wo.drew.frozen? ⟨w3.heap.size, 2, none⟩ = false := kx.frozen 2
        have kxd : Blk wo.drew w3.heap.size 33 #[.int .i64 a1.1, .string a2.1, .slice A cs.length ca, .int .i64 a3.1, .slice none 0 0, .slice none 0 0] := kx
        have krd : Blk wo.drew w.heap.size 33 #[.int .i64 0, .string ⟨#[]⟩, .slice none 0 0, .int .i64 0, .slice none 0 0, .slice none 0 0] := kr
        have oCd : Own ColE 51 wo.drew (w3.heap.size + 1) (fun _ => False) (.slice A cs.length ca) cs := Own.below oC ((Below.refl _ _).drew)
        have zd : w3.heap.size < wo.drew.heap.size := zz
        have hClt : ∀ b, (Value.slice A cs.length ca).ownBlock = some b → w3.heap.size + 1 ≤ b := fun b e => (Own.lt oCd b e).1
        have HCL := Lib.hid hClt
        have hfin : ∀ w6 A9 c9 cs9 w7, Hid (cs9 = cs ++ [a.1]) → Rd (fun b => S b ∧ b < w.heap.size) w6 g a.2 → wo.drew.grownBy w6 (some g) → Own ColE 51 w7 (w3.heap.size + 1) (fun _ => False) (.slice A9 cs9.length c9) cs9 → (w6.alloc (.cells #[.string a.1.name, .int .i64 a.1.kind, .bool a.1.null] 51)).grownBy w7 (Value.slice A cs.length ca).ownBlock →
            Blk w7 w3.heap.size 33 #[.int .i64 a1.1, .string a2.1, .slice A cs.length ca, .int .i64 a3.1, .slice none 0 0, .slice none 0 0] → Blk w7 w.heap.size 33 #[.int .i64 0, .string ⟨#[]⟩, .slice none 0 0, .int .i64 0, .slice none 0 0, .slice none 0 0] →
            ∃ W, W = w7.setCell ⟨w3.heap.size, 2, none⟩ (.slice A9 cs9.length c9) ∧ ∃ (j2 : Int) (cs' : List LCol) (l2 : List LVal) (A' : Option Addr) (ca' : Nat), Value.int .i64 (j - 1) = .int .i64 j2 ∧ j2 < 9223372036854775808 ∧ -9223372036854775808 ≤ j2 ∧ rdE l = (rdCs j2.toNat l2).bind (fun e => (rdXs e.2.length e.2).bind fun f => some ⟨⟨a1.1, a3.1, a2.1, cs' ++ e.1, f.1⟩, f.2⟩) ∧ cs'.length * 3 + l2.length ≤ l.length ∧ Own ColE 51 W (w3.heap.size + 1) (fun _ => False) (.slice A' cs'.length ca') cs' ∧ Blk W w3.heap.size 33 #[.int .i64 a1.1, .string a2.1, .slice A' cs'.length ca', .int .i64 a3.1, .slice none 0 0, .slice none 0 0] ∧ Blk W w.heap.size 33 #[.int .i64 0, .string ⟨#[]⟩, .slice none 0 0, .int .i64 0, .slice none 0 0, .slice none 0 0] ∧ Rd (fun b => S b ∧ b < w.heap.size) W g l2 ∧ w.grownBy W (some g) ∧ w3.heap.size < W.heap.size := by
          intro w6 A9 c9 cs9 w7 H9 h6 hg6 o7 hg7 kx7 kr7
          have hs7 : w7.grownBy (w7.setCell ⟨w3.heap.size, 2, none⟩ (.slice A9 cs9.length c9)) (some w3.heap.size) := only_setCell (World.grownBy.refl w7 _) (p := ⟨w3.heap.size, 2, none⟩) (.inl rfl) _
          have d6 : Below w6.heap.size w6 (w6.alloc (.cells #[.string a.1.name, .int .i64 a.1.kind, .bool a.1.null] 51)) := (Below.refl _ _).alloc (Nat.le_refl _) _
          have r1 := h6.below d6
          have r2 := r1.grown hg7 (by intro e; have := HCL.out _ e.symm; omega) (fun b hb e => by have := HCL.out _ e; have := hb.2; omega)
          have r3 := r2.grown hs7 (by intro e; have := Option.some.inj e; omega) (fun b hb e => by have := Option.some.inj e; have := hb.2; omega)
          have hl9 : cs9.length = cs.length + 1 := by rw [H9.out, List.length_append, List.length_singleton]
          have zs := hs7.size
          have z7 := hg7.size
          have z6 := hg6.size
          have zd6 := d6.size
          refine ⟨_, rfl, j - 1, cs9, a.2, A9, c9, rfl, by omega, by omega, by rw [H9.out]; exact HRX2.out, by rw [hl9]; omega, Own.grown o7 hs7 (fun b e => by have := Option.some.inj e; exact ⟨fun e2 => by have := (Own.lt o7 _ e2).1; omega, fun h => h⟩), kx7.set_ 2 _, kr7.far (by show w.heap.size ≠ w3.heap.size; omega) _, r3, ((((hgd.trans hg6).trans (grownOf d6 _)).andThen hg7 (fun j e => by have := HCL.out _ e; omega)).andThen hs7 (fun j e => by have := Option.some.inj e; omega)), by omega⟩
        have HFIN := Lib.hid hfin
        clear hfin HRX2
        go_upto_region 5 with fail
        go_region_law (first
          | (go_simp; go_at_call 50; refine T.mono ?_; rintro en w6 ⟨v6, rfl, ⟨rfl, hsz6⟩, h6, hg6⟩; simp only [LCol.val]; have z6 := hg6.size; have kx6 := kxd.grown hg6 (by intro e; have := Option.some.inj e; omega); have kr6 := krd.grown hg6 (by intro e; have := Option.some.inj e; omega); have q16 : w6.cell? ⟨w3.heap.size, 2, none⟩ = some (.slice A cs.length ca) := kx6.cell 2; have oC6 : Own ColE 51 (w6.alloc (.cells #[.string a.1.name, .int .i64 a.1.kind, .bool a.1.null] 51)) (w3.heap.size + 1) (fun _ => False) (.slice A cs.length ca) cs := Own.below (Own.grown oCd hg6 (fun b e => by have := Option.some.inj e; exact ⟨fun e2 => by have := HCL.out _ e2; omega, fun h => h⟩)) ((Below.refl _ _).alloc (Nat.le_refl _) _); have kx6a := kx6.alloc (.cells #[.string a.1.name, .int .i64 a.1.kind, .bool a.1.null] 51); have kr6a := kr6.alloc (.cells #[.string a.1.name, .int .i64 a.1.kind, .bool a.1.null] 51); have q16a : (w6.alloc (.cells #[.string a.1.name, .int .i64 a.1.kind, .bool a.1.null] 51)).cell? ⟨w3.heap.size, 2, none⟩ = some (.slice A cs.length ca) := kx6a.cell 2; have hRd : Reads (w6.alloc (.cells #[.string a.1.name, .int .i64 a.1.kind, .bool a.1.null] 51)) (w6.heap.size + 1) 3 (some ⟨w6.heap.size, 0, none⟩) 1 [.string a.1.name, .int .i64 a.1.kind, .bool a.1.null] := Reads.newN w6 [.string a.1.name, .int .i64 a.1.kind, .bool a.1.null] 51; have hbas : w3.heap.size + 1 ≤ (w6.alloc (.cells #[.string a.1.name, .int .i64 a.1.kind, .bool a.1.null] 51)).heap.size := (by simp; omega); have hb1 : (cs.length + 1) * ColE.bytes ≤ 140737488355328 := (by simp only [ColE]; omega); have hb2 : cs.length + 1 ≤ maxLen := (by simp only [maxLen]; omega); have hrp : ColE.rep (w6.alloc (.cells #[.string a.1.name, .int .i64 a.1.kind, .bool a.1.null] 51)) (fun b => False ∧ (Value.slice A cs.length ca).ownBlock ≠ some b) [.string a.1.name, .int .i64 a.1.kind, .bool a.1.null] a.1 := ⟨rfl, hsz6⟩; skip)
          | (refine step_appE ColE (w3.heap.size + 1) _ rfl (.tmp 23) (.tmp 26) 51 22 rfl i1 _ Try.underlying22 hi1 hy0 hy1 hy2 rfl (fun _ => False) A cs ca rfl oC6 _ [.string a.1.name, .int .i64 a.1.kind, .bool a.1.null] a.1 1 rfl _ hRd hrp hb1 hb2 hbas ?_; intro A9 c9 cs9 w7 H9 o7 hg7 hat7; have hne7 : ∀ b, b ≤ w3.heap.size → some b ≠ (Value.slice A cs.length ca).ownBlock := (fun b hb e => by have := HCL.out _ e.symm; omega); have kx7 := kx6a.grown hg7 (hne7 _ (Nat.le_refl _)); have kr7 := kr6a.grown hg7 (hne7 _ (by omega)); have q17 : w7.cell? ⟨w3.heap.size, 2, none⟩ = some (.slice A cs.length ca) := kx7.cell 2; have f17 := kx7.frozen 2))
        all_goals
          obtain ⟨W, hW, hrel2⟩ := HFIN.out w6 A9 c9 cs9 w7 H9 h6 hg6 o7 hg7 kx7 kr7
          have HREL := Lib.hid hrel2
          rw [← hW]
          clear hW hrel2
          go_wp2_with fail
          go_roundw
          case rel => exact HREL.out
          case measure => simp [intOf]; omega
    · have dj : decide (0 < j) = false := decide_eq_false hj
      have HRX3 : Hid (rdE l = (rdXs l'.length l').bind fun f => some ⟨⟨a1.1, a3.1, a2.1, cs, f.1⟩, f.2⟩) := by
        show _ = _
        rw [HRX.out, rdCs_neg hj]
        show ((rdXs l'.length l').bind fun f => some (⟨⟨a1.1, a3.1, a2.1, cs ++ [], f.1⟩, f.2⟩ : LEnt)) = _
        rw [List.append_nil]
      clear HRX
      go_wp2_with fail
      go_loopw [5, 6] (fun _ _ wr => ∃ (xs : List LIx) (ss : List LSt) (l' : List LVal) (B C : Option Addr) (cb cc : Nat), xs.length = ss.length ∧ rdE l = (rdXs l'.length l').bind (fun f => some ⟨⟨a1.1, a3.1, a2.1, cs, xs ++ f.1⟩, ss ++ f.2⟩) ∧ xs.length * 5 + l'.length ≤ l.length ∧ Own ColE 51 wr (w3.heap.size + 1) (fun _ => False) (.slice A cs.length ca) cs ∧ Own IxE 55 wr (w3.heap.size + 1) (fun b => b ≠ g ∧ b ≠ w.heap.size ∧ b ≠ w3.heap.size ∧ (Value.slice C ss.length cc).ownBlock ≠ some b ∧ (S b ∨ w.heap.size ≤ b)) (.slice B xs.length cb) xs ∧ Own StE 57 wr (w3.heap.size + 1) (fun b => b ≠ g ∧ b ≠ w.heap.size ∧ b ≠ w3.heap.size ∧ (Value.slice B xs.length cb).ownBlock ≠ some b ∧ (S b ∨ w.heap.size ≤ b)) (.slice C ss.length cc) ss ∧ Blk wr w3.heap.size 33 #[.int .i64 a1.1, .string a2.1, .slice A cs.length ca, .int .i64 a3.1, .slice B xs.length cb, .slice C ss.length cc] ∧ Blk wr w.heap.size 33 #[.int .i64 0, .string ⟨#[]⟩, .slice none 0 0, .int .i64 0, .slice none 0 0, .slice none 0 0] ∧ Rd (fun b => S b ∧ b < w.heap.size) wr g l' ∧ w.grownBy wr (some g) ∧ w3.heap.size < wr.heap.size) (fun _ _ wr => rdLen wr g)
      case atStart => exact ⟨[], [], l', none, none, 0, 0, rfl, HRX3.out, by rw [List.length_nil]; omega, oC, Own.nil_ IxE _ _ _ _, Own.nil_ StE _ _ _ _, kx, kr, hr, gg, zz⟩
      case round =>
        clear oC kx kr hr gg zz HRX3
        obtain ⟨xs, ss, l2, B, C, cb, cc, hxs, hrx, hal2, oA, oB, oC, kx, kr, hr, gg, zz⟩ := hrel
        generalize wr = wp at *
        have HRX := Lib.hid hrx
        have HXS := Lib.hid hxs
        clear hrx hxs
        have HLEN := Lib.hid hr.rdLen
        have hr2 := hr
        obtain ⟨Ar, cr, kR, -⟩ := hr2
        have yR : wp.cell? ⟨g, 0, none⟩ = some (.slice Ar l2.length cr) := kR.cell 0
        cases l2 with
        | nil =>
          have hE : rdE l = some ⟨⟨a1.1, a3.1, a2.1, cs, xs⟩, ss⟩ := by
            rw [HRX.out]
            show some (⟨⟨a1.1, a3.1, a2.1, cs, xs ++ []⟩, ss ++ []⟩ : LEnt) = _
            rw [List.append_nil, List.append_nil]
          have HE := Lib.hid hE
          clear hE
          replace yR : wp.cell? ⟨g, 0, none⟩ = some (.slice Ar 0 cr) := yR
          have hF : ∀ W, wp.grownBy W (some w.heap.size) → RetRead S (rdE l) g w (.returned (.agg #[.int .i64 a1.1, .string a2.1, .slice A cs.length ca, .int .i64 a3.1, .slice B xs.length cb, .slice C ss.length cc])) W := fun W hW => by
            have sA2 : SlS ColE W (fun b => S b ∨ w.heap.size ≤ b) A cs := Own.slS (Own.grown oA hW (fun b e => by have e2 := Option.some.inj e; exact ⟨fun e3 => by have := (Own.lt oA _ e3).1; omega, fun h => h⟩)) rfl (by simp only [ColE]; omega) (fun b h => h.elim) (fun b h => .inr (by omega))
            have sB2 : SlS IxE W (fun b => S b ∨ w.heap.size ≤ b) B xs := Own.slS (Own.grown oB hW (fun b e => by have e2 := Option.some.inj e; exact ⟨fun e3 => by have := (Own.lt oB _ e3).1; omega, fun h => h.2.1 e2.symm⟩)) rfl (by simp only [IxE]; omega) (fun b h => h.2.2.2.2) (fun b h => .inr (by omega))
            have sC2 : SlS StE W (fun b => S b ∨ w.heap.size ≤ b) C ss := Own.slS (Own.grown oC hW (fun b e => by have e2 := Option.some.inj e; exact ⟨fun e3 => by have := (Own.lt oC _ e3).1; omega, fun h => h.2.1 e2.symm⟩)) rfl (by simp only [StE]; have := HXS.out; omega) (fun b h => h.2.2.2.2) (fun b h => .inr (by omega))
            exact ⟨gg.andThen hW (fun j e => by have := Option.some.inj e; omega), .inl ⟨_, _, HE.out, rfl, ⟨A, B, C, ca, cb, cc, rfl, sA2, sB2, sC2, hsz⟩⟩⟩
          have HF := Lib.hid hF
          clear hF
          go_wp2_with (first
            | ((with_reducible refine wpList_load_blk rfl 33 (.tmp 3) rfl w3.heap.size ?_ 33 _ _ kx Try.underlying33 ?_ Try.size_Entry ?_ ?_); rfl; rfl; rfl)
            | ((with_reducible refine wpList_store_blk rfl 33 (.tmp 2) (.tmp 55) rfl w.heap.size 33 _ #[.int .i64 a1.1, .string a2.1, .slice A cs.length ca, .int .i64 a3.1, .slice B xs.length cb, .slice C ss.length cc] ?_ ?_ kr Try.size_Entry ?_ ?_ ?_ ?_); rfl; rfl; rfl; rfl; (simp [Value.oneCell']); intro w9 kz9 g9 z9))
          exact bodyPost_ret (results_cell rfl rfl kz9 Try.underlying33 rfl Try.size_Entry) rfl (HF.out _ g9)
        | cons y l3 =>
          have hp : 0 < (y :: l3).length := by rw [List.length_cons]; omega
          generalize hl4 : y :: l3 = l4 at *
          have hpi : (0 : Int) < (l4.length : Int) := by omega
          have dp : decide (0 < l4.length) = true := decide_eq_true hp
          cases ht : rdX l4 with
          | none =>
            have HO : Hid (rdE l = none) := by show _ = _; rw [HRX.out, rdXs_cons (Nat.le_refl _) (by intro e; rw [e] at hp; exact absurd hp (by simp)), ht]; rfl
            have T := RetR.no_ (rindex_any _ g l4 wp hr) ht
            go_wp2_with fail
            refine T.mono ?_
            rintro en w6 ⟨⟨u, pv, rfl⟩, hg6⟩
            exact ⟨rfl, gg.trans hg6, .inr ⟨HO.out, _, _, rfl⟩⟩
          | some p =>
            have T := RetR.ok_ (rindex_any _ g l4 wp hr) ht
            have hla := rdX_len ht
            have HRX2 : Hid (rdE l = (rdXs p.2.length p.2).bind (fun f => some ⟨⟨a1.1, a3.1, a2.1, cs, (xs ++ [p.1.1]) ++ f.1⟩, (ss ++ [p.1.2]) ++ f.2⟩)) := by
              show _ = _
              rw [HRX.out, rdXs_cons (Nat.le_refl _) (by intro e; rw [e] at hp; exact absurd hp (by simp)), ht]
              show ((rdXs l4.length p.2).bind fun b => some (p.1.1 :: b.1, p.1.2 :: b.2)).bind _ = _
              rw [rdXs_fuel (f := l4.length) (g := p.2.length) (by omega) (Nat.le_refl _)]
              cases rdXs p.2.length p.2 with
              | none => rfl
              | some d =>
                show some (⟨⟨a1.1, a3.1, a2.1, cs, xs ++ (p.1.1 :: d.1)⟩, ss ++ (p.1.2 :: d.2)⟩ : LEnt) = some ⟨⟨a1.1, a3.1, a2.1, cs, (xs ++ [p.1.1]) ++ d.1⟩, (ss ++ [p.1.2]) ++ d.2⟩
                rw [List.append_assoc, List.append_assoc]
                rfl
            clear ht HRX
            go_wp2_with fail
            refine T.mono ?_
            clear T
            rintro en w6 ⟨v6, rfl, ⟨D, d, F, f, rfl, hD, hF, hF2, hF3⟩, h6, hg6⟩
            have dX1 : Below w6.heap.size w6 (w6.alloc (.cells #[.string p.1.1.name, .slice D p.1.1.cols.length d, .bool p.1.1.uniq] 55)) := (Below.refl _ _).alloc (Nat.le_refl _) _
            have dX2 : Below w6.heap.size w6 ((w6.alloc (.cells #[.string p.1.1.name, .slice D p.1.1.cols.length d, .bool p.1.1.uniq] 55)).alloc (.cells #[.int .i64 p.1.2.phase, .slice F p.1.2.cur.length f] 57)) := dX1.alloc dX1.size _
            have zz6 := hg6.size
            have kE6 := kx.grown hg6 (by intro e; have := Option.some.inj e; omega)
            have kr6 := kr.grown hg6 (by intro e; have := Option.some.inj e; omega)
            have hBlt : ∀ b, (Value.slice B xs.length cb).ownBlock = some b → w3.heap.size + 1 ≤ b ∧ b < wp.heap.size := fun b e => Own.lt oB b e
            have hClt : ∀ b, (Value.slice C ss.length cc).ownBlock = some b → w3.heap.size + 1 ≤ b ∧ b < wp.heap.size := fun b e => Own.lt oC b e
            have hBC : ∀ b, (Value.slice B xs.length cb).ownBlock = some b → (Value.slice C ss.length cc).ownBlock ≠ some b := fun b e e2 => by
              obtain ⟨v1, o1, _⟩ := oB
              obtain ⟨v2, o2, _⟩ := oC
              rcases own_own_ne o1 o2 (by decide) with h | h
              · rw [h] at e; cases e
              · exact h (e.trans e2.symm)
            have oA6 := Own.grown oA hg6 (fun b e => by have e2 := Option.some.inj e; exact ⟨fun e3 => by have := (Own.lt oA _ e3).1; omega, fun h => h⟩)
            have oB6 := Own.grown oB hg6 (fun b e => by have e2 := Option.some.inj e; exact ⟨fun e3 => by have := (Own.lt oB _ e3).1; omega, fun h => h.1 e2.symm⟩)
            have oC6 := Own.grown oC hg6 (fun b e => by have e2 := Option.some.inj e; exact ⟨fun e3 => by have := (Own.lt oC _ e3).1; omega, fun h => h.1 e2.symm⟩)
            have oAX := Own.below oA6 dX2
            have oBX := Own.below oB6 dX2
            have oCX := Own.below oC6 dX2
            have kEX := kE6.below dX2 kE6.lt
            have krX := kr6.below dX2 kr6.lt
            have kIX : Blk ((w6.alloc (.cells #[.string p.1.1.name, .slice D p.1.1.cols.length d, .bool p.1.1.uniq] 55)).alloc (.cells #[.int .i64 p.1.2.phase, .slice F p.1.2.cur.length f] 57)) w6.heap.size 55 #[.string p.1.1.name, .slice D p.1.1.cols.length d, .bool p.1.1.uniq] := (Blk.new w6 _ _).alloc _
            have kSX := Blk.new2 w6 (.cells #[.string p.1.1.name, .slice D p.1.1.cols.length d, .bool p.1.1.uniq] 55) 57 #[.int .i64 p.1.2.phase, .slice F p.1.2.cur.length f]
            have hrX := h6.below dX2
            have hDX : Is ((w6.alloc (.cells #[.string p.1.1.name, .slice D p.1.1.cols.length d, .bool p.1.1.uniq] 55)).alloc (.cells #[.int .i64 p.1.2.phase, .slice F p.1.2.cur.length f] 57)) D p.1.1.cols := hD.1.below dX2
            have hFX := hF.below dX2
            have ggX := (gg.trans hg6).trans (grownOf dX2 (some g))
            have zX2 := dX2.size
            have HDL : Hid (∀ ad, D = some ad → 0 < p.1.1.cols.length → ad.block < ((w6.alloc (.cells #[.string p.1.1.name, .slice D p.1.1.cols.length d, .bool p.1.1.uniq] 55)).alloc (.cells #[.int .i64 p.1.2.phase, .slice F p.1.2.cur.length f] 57)).heap.size) := fun ad e hn => by obtain ⟨ad2, e2, h1, _⟩ := hDX.1.2 hn; obtain rfl := Option.some.inj (e.symm.trans e2); exact h1
            have HFL : Hid (∀ ad, F = some ad → 0 < p.1.2.cur.length → ad.block < ((w6.alloc (.cells #[.string p.1.1.name, .slice D p.1.1.cols.length d, .bool p.1.1.uniq] 55)).alloc (.cells #[.int .i64 p.1.2.phase, .slice F p.1.2.cur.length f] 57)).heap.size) := fun ad e hn => by obtain ⟨ad2, e2, h1, _⟩ := hFX.1.2 hn; obtain rfl := Option.some.inj (e.symm.trans e2); exact h1
            clear oA oB oC kx kr hr gg oA6 oB6 oC6 kE6 kr6 h6 hF dX1 kR yR
            go_upto_region 8 with fail
            clear dX2
            generalize ((w6.alloc (.cells #[.string p.1.1.name, .slice D p.1.1.cols.length d, .bool p.1.1.uniq] 55)).alloc (.cells #[.int .i64 p.1.2.phase, .slice F p.1.2.cur.length f] 57)) = X2 at *
            have kp0 : KP3 X2 w3.heap.size 33 #[.int .i64 a1.1, .string a2.1, .slice A cs.length ca, .int .i64 a3.1, .slice B xs.length cb, .slice C ss.length cc] w6.heap.size 55 #[.string p.1.1.name, .slice D p.1.1.cols.length d, .bool p.1.1.uniq] (w6.heap.size + 1) 57 #[.int .i64 p.1.2.phase, .slice F p.1.2.cur.length f] := ⟨kEX, kIX, kSX⟩
            have ks : ∀ W, KP3 W w3.heap.size 33 #[.int .i64 a1.1, .string a2.1, .slice A cs.length ca, .int .i64 a3.1, .slice B xs.length cb, .slice C ss.length cc] w6.heap.size 55 #[.string p.1.1.name, .slice D p.1.1.cols.length d, .bool p.1.1.uniq] (w6.heap.size + 1) 57 #[.int .i64 p.1.2.phase, .slice F p.1.2.cur.length f] → W.cell? ⟨w3.heap.size, 4, none⟩ = some (.slice B xs.length cb) ∧ W.cell? ⟨w3.heap.size, 5, none⟩ = some (.slice C ss.length cc) ∧ W.cell? ⟨w6.heap.size, 0, none⟩ = some (.string p.1.1.name) ∧ W.cell? ⟨w6.heap.size, 1, none⟩ = some (.slice D p.1.1.cols.length d) ∧ W.cell? ⟨w6.heap.size, 2, none⟩ = some (.bool p.1.1.uniq) ∧ W.cell? ⟨w6.heap.size + 1, 0, none⟩ = some (.int .i64 p.1.2.phase) ∧ W.cell? ⟨w6.heap.size + 1, 1, none⟩ = some (.slice F p.1.2.cur.length f) := fun W h => ⟨h.1.cell 4, h.1.cell 5, h.2.1.cell 0, h.2.1.cell 1, h.2.1.cell 2, h.2.2.cell 0, h.2.2.cell 1⟩
            have KS := Lib.hid ks
            clear ks kEX kIX kSX
            have hAB : ∀ b, ((Value.slice B xs.length cb).ownBlock = some b ∨ (Value.slice C ss.length cc).ownBlock = some b) → (Value.slice A cs.length ca).ownBlock ≠ some b := fun b e e2 => by
              obtain ⟨v0, o0, _⟩ := oAX
              obtain ⟨v1, o1, _⟩ := oBX
              obtain ⟨v2, o2, _⟩ := oCX
              rcases e with e | e
              · rcases own_own_ne o1 o0 (by decide) with h | h
                · rw [h] at e; cases e
                · exact h (e.trans e2.symm)
              · rcases own_own_ne o2 o0 (by decide) with h | h
                · rw [h] at e; cases e
                · exact h (e.trans e2.symm)
            have hS0 : ∀ b, ((S b ∧ b < w.heap.size) ∨ wp.heap.size ≤ b) → (b ≠ g ∧ b ≠ w.heap.size ∧ b ≠ w3.heap.size ∧ (Value.slice C ss.length cc).ownBlock ≠ some b ∧ (S b ∨ w.heap.size ≤ b)) ∧ (Value.slice B xs.length cb).ownBlock ≠ some b := fun b hb => by
              rcases hb with hb | hb
              · have h1 := HNE.out b hb.1
                have h2 := hb.2
                exact ⟨⟨h1, by omega, by omega, fun e => by have := (hClt b e).1; omega, .inl hb.1⟩, fun e => by have := (hBlt b e).1; omega⟩
              · exact ⟨⟨by omega, by omega, by omega, fun e => by have := (hClt b e).2; omega, .inr (by omega)⟩, fun e => by have := (hBlt b e).2; omega⟩
            obtain ⟨ST, hST⟩ : ∃ ST : World → Prop, ST = fun W => Own ColE 51 W (w3.heap.size + 1) (fun _ => False) (.slice A cs.length ca) cs ∧ Blk W w.heap.size 33 #[.int .i64 0, .string ⟨#[]⟩, .slice none 0 0, .int .i64 0, .slice none 0 0, .slice none 0 0] ∧ Rd (fun b => S b ∧ b < w.heap.size) W g p.2 ∧ Bs W F p.1.2.cur ∧ Is W D p.1.1.cols ∧ w.grownBy W (some g) ∧ KP3 W w3.heap.size 33 #[.int .i64 a1.1, .string a2.1, .slice A cs.length ca, .int .i64 a3.1, .slice B xs.length cb, .slice C ss.length cc] w6.heap.size 55 #[.string p.1.1.name, .slice D p.1.1.cols.length d, .bool p.1.1.uniq] (w6.heap.size + 1) 57 #[.int .i64 p.1.2.phase, .slice F p.1.2.cur.length f] := ⟨_, rfl⟩
            have st0 : ST X2 := by rw [hST]; exact ⟨oAX, krX, hrX, hFX, hDX, ggX, kp0⟩
            have std : ∀ W, ST W → ST W.drew := by
              rw [hST]
              rintro W ⟨h1, h2, h3, h4, h5, h6, h7⟩
              have hd : Below W.heap.size W W.drew := (Below.refl _ _).drew
              exact ⟨Own.below h1 hd, h2, h3.below hd, h4.below hd, h5.below hd, h6.trans (grownOf hd _), h7⟩
            have sta : ∀ W o, ST W → ST (W.alloc o) := by
              rw [hST]
              rintro W o ⟨h1, h2, h3, h4, h5, h6, h7⟩
              have hd : Below W.heap.size W (W.alloc o) := (Below.refl _ _).alloc (Nat.le_refl _) _
              exact ⟨Own.below h1 hd, h2.alloc o, h3.below hd, h4.below hd, h5.below hd, h6.trans (grownOf hd _), h7.alloc_ o⟩
            have stg : ∀ row, (∀ b, row = some b → ((Value.slice B xs.length cb).ownBlock = some b ∨ (Value.slice C ss.length cc).ownBlock = some b)) → ∀ W W', ST W → W.grownBy W' row → ST W' := by
              rw [hST]
              rintro row hrow W W' ⟨h1, h2, h3, h4, h5, h6, h7⟩ hg
              have hlt : ∀ b, row = some b → w3.heap.size + 1 ≤ b ∧ b < wp.heap.size := fun b e => (hrow b e).elim (hBlt b) (hClt b)
              have hSn : ∀ b, ((S b ∧ b < w.heap.size) ∨ wp.heap.size ≤ b) → row ≠ some b := fun b hb e => by
                rcases hrow b e with h | h
                · exact (hS0 b hb).2 h
                · exact (hS0 b hb).1.2.2.2.1 h
              exact ⟨Own.grown h1 hg (fun b e => ⟨hAB b (hrow b e), fun h => h⟩), h2.grown hg (fun e => by have := (hlt _ e.symm).1; omega), h3.grown hg (fun e => by have := (hlt _ e.symm).1; omega) (fun b hb e => hSn b (.inl hb) e), h4.sameS hF2 (.of_grown hg hSn), ⟨Reads.sameS h5.1 hD.2.1 (.of_grown hg hSn), h5.2⟩, h6.andThen hg (fun j e => by have := (hlt j e).1; omega), h7.grown_ hg (fun e => by have := (hlt _ e.symm).1; omega) (fun e => by have := (hlt _ e.symm).2; omega) (fun e => by have := (hlt _ e.symm).2; omega)⟩
            have stk : ∀ W, ST W → W.cell? ⟨w3.heap.size, 4, none⟩ = some (.slice B xs.length cb) ∧ W.cell? ⟨w3.heap.size, 5, none⟩ = some (.slice C ss.length cc) ∧ W.cell? ⟨w6.heap.size, 0, none⟩ = some (.string p.1.1.name) ∧ W.cell? ⟨w6.heap.size, 1, none⟩ = some (.slice D p.1.1.cols.length d) ∧ W.cell? ⟨w6.heap.size, 2, none⟩ = some (.bool p.1.1.uniq) ∧ W.cell? ⟨w6.heap.size + 1, 0, none⟩ = some (.int .i64 p.1.2.phase) ∧ W.cell? ⟨w6.heap.size + 1, 1, none⟩ = some (.slice F p.1.2.cur.length f) := by
              rw [hST]
              rintro W ⟨h1, h2, h3, h4, h5, h6, h7⟩
              exact KS.out W h7
            have sti : ∀ W, ST W → IxE.rep W (fun b => ((b ≠ g ∧ b ≠ w.heap.size ∧ b ≠ w3.heap.size ∧ (Value.slice C ss.length cc).ownBlock ≠ some b ∧ (S b ∨ w.heap.size ≤ b)) ∧ b < X2.heap.size) ∧ (Value.slice B xs.length cb).ownBlock ≠ some b) [.string p.1.1.name, .slice D p.1.1.cols.length d, .bool p.1.1.uniq] p.1.1 := by
              rw [hST]
              rintro W ⟨h1, h2, h3, h4, h5, h6, h7⟩
              exact ⟨D, d, rfl, h5, fun ad e hn => ⟨⟨(hS0 _ (hD.2.1 ad e hn)).1, HDL.out ad e hn⟩, (hS0 _ (hD.2.1 ad e hn)).2⟩, hD.2.2.1, hD.2.2.2⟩
            have sts : ∀ W, ST W → StE.rep W (fun b => ((b ≠ g ∧ b ≠ w.heap.size ∧ b ≠ w3.heap.size ∧ (Value.slice B xs.length cb).ownBlock ≠ some b ∧ (S b ∨ w.heap.size ≤ b)) ∧ b < X2.heap.size) ∧ (Value.slice C ss.length cc).ownBlock ≠ some b) [.int .i64 p.1.2.phase, .slice F p.1.2.cur.length f] p.1.2 := by
              rw [hST]
              rintro W ⟨h1, h2, h3, h4, h5, h6, h7⟩
              exact ⟨F, f, rfl, h4, fun ad e hn => by
                obtain ⟨⟨q1, q2, q3, q4, q6⟩, q5⟩ := hS0 _ (hF2 ad e hn)
                exact ⟨⟨⟨q1, q2, q3, q5, q6⟩, HFL.out ad e hn⟩, q4⟩, hF3⟩
            have oBS := Own.mono oBX (S' := fun b => (b ≠ g ∧ b ≠ w.heap.size ∧ b ≠ w3.heap.size ∧ (Value.slice C ss.length cc).ownBlock ≠ some b ∧ (S b ∨ w.heap.size ≤ b)) ∧ b < X2.heap.size) (fun b hb _ h => ⟨h, hb⟩)
            have oCS := Own.mono oCX (S' := fun b => (b ≠ g ∧ b ≠ w.heap.size ∧ b ≠ w3.heap.size ∧ (Value.slice B xs.length cb).ownBlock ≠ some b ∧ (S b ∨ w.heap.size ≤ b)) ∧ b < X2.heap.size) (fun b hb _ h => ⟨h, hb⟩)
            have STD := Lib.hid std
            have STA := Lib.hid sta
            have STGB := Lib.hid (stg _ (fun b e => .inl e))
            have STGC := Lib.hid (stg _ (fun b e => .inr e))
            have STK := Lib.hid stk
            have STI := Lib.hid sti
            have STS := Lib.hid sts
            have HBC := Lib.hid hBC
            have hb1 : (xs.length + 1) * IxE.bytes ≤ 140737488355328 := by simp only [IxE]; omega
            have hb2 : xs.length + 1 ≤ maxLen := by simp only [maxLen]; omega
            have hb3 : (ss.length + 1) * StE.bytes ≤ 140737488355328 := by simp only [StE]; have := HXS.out; omega
            have hb4 : ss.length + 1 ≤ maxLen := by simp only [maxLen]; have := HXS.out; omega
            have lX2 : w3.heap.size + 1 ≤ X2.heap.size := by omega
            have HBLT := Lib.hid hBlt
            have hfin : ∀ B7 cb7 xs7 C8 cc8 ss8 w8, Hid (xs7 = xs ++ [p.1.1]) → Hid (ss8 = ss ++ [p.1.2]) → ST w8 → Own IxE 55 w8 (w3.heap.size + 1) (fun b => (b ≠ g ∧ b ≠ w.heap.size ∧ b ≠ w3.heap.size ∧ (Value.slice C ss.length cc).ownBlock ≠ some b ∧ (S b ∨ w.heap.size ≤ b)) ∧ b < X2.heap.size) (.slice B7 xs7.length cb7) xs7 → Own StE 57 w8 (w3.heap.size + 1) (fun b => (b ≠ g ∧ b ≠ w.heap.size ∧ b ≠ w3.heap.size ∧ (Value.slice B xs.length cb).ownBlock ≠ some b ∧ (S b ∨ w.heap.size ≤ b)) ∧ b < X2.heap.size) (.slice C8 ss8.length cc8) ss8 →
                ((Value.slice B7 xs7.length cb7).ownBlock = (Value.slice B xs.length cb).ownBlock ∨ ∃ n, X2.heap.size ≤ n ∧ (Value.slice B7 xs7.length cb7).ownBlock = some n) → ((Value.slice C8 ss8.length cc8).ownBlock = (Value.slice C ss.length cc).ownBlock ∨ ∃ n, X2.heap.size ≤ n ∧ (Value.slice C8 ss8.length cc8).ownBlock = some n) →
                ∃ W, W = (w8.setCell ⟨w3.heap.size, 4, none⟩ (.slice B7 xs7.length cb7)).setCell ⟨w3.heap.size, 5, none⟩ (.slice C8 ss8.length cc8) ∧ (∃ (xs' : List LIx) (ss' : List LSt) (l' : List LVal) (B' C' : Option Addr) (cb' cc' : Nat), xs'.length = ss'.length ∧ rdE l = (rdXs l'.length l').bind (fun f => some ⟨⟨a1.1, a3.1, a2.1, cs, xs' ++ f.1⟩, ss' ++ f.2⟩) ∧ xs'.length * 5 + l'.length ≤ l.length ∧ Own ColE 51 W (w3.heap.size + 1) (fun _ => False) (.slice A cs.length ca) cs ∧ Own IxE 55 W (w3.heap.size + 1) (fun b => b ≠ g ∧ b ≠ w.heap.size ∧ b ≠ w3.heap.size ∧ (Value.slice C' ss'.length cc').ownBlock ≠ some b ∧ (S b ∨ w.heap.size ≤ b)) (.slice B' xs'.length cb') xs' ∧ Own StE 57 W (w3.heap.size + 1) (fun b => b ≠ g ∧ b ≠ w.heap.size ∧ b ≠ w3.heap.size ∧ (Value.slice B' xs'.length cb').ownBlock ≠ some b ∧ (S b ∨ w.heap.size ≤ b)) (.slice C' ss'.length cc') ss' ∧ Blk W w3.heap.size 33 #[.int .i64 a1.1, .string a2.1, .slice A cs.length ca, .int .i64 a3.1, .slice B' xs'.length cb', .slice C' ss'.length cc'] ∧ Blk W w.heap.size 33 #[.int .i64 0, .string ⟨#[]⟩, .slice none 0 0, .int .i64 0, .slice none 0 0, .slice none 0 0] ∧ Rd (fun b => S b ∧ b < w.heap.size) W g l' ∧ w.grownBy W (some g) ∧ w3.heap.size < W.heap.size) ∧ rdLen W g < rdLen wp g := by
              rw [hST]
              rintro B7 cb7 xs7 C8 cc8 ss8 w8 H7 H8 ⟨h1, h2, h3, h4, h5, h6, h7⟩ o7 o8 t7 t8
              have hs1 : w8.grownBy (w8.setCell ⟨w3.heap.size, 4, none⟩ (.slice B7 xs7.length cb7)) (some w3.heap.size) := only_setCell (World.grownBy.refl w8 _) (p := ⟨w3.heap.size, 4, none⟩) (.inl rfl) _
              have hs2 := only_setCell hs1 (p := ⟨w3.heap.size, 5, none⟩) (.inl rfl) (.slice C8 ss8.length cc8)
              have k9 := (h7.1.set_ 4 (.slice B7 xs7.length cb7)).set_ 5 (.slice C8 ss8.length cc8)
              have hl7 : xs7.length = xs.length + 1 := by rw [H7.out, List.length_append, List.length_singleton]
              have hl8 : ss8.length = ss.length + 1 := by rw [H8.out, List.length_append, List.length_singleton]
              have hx := HXS.out
              have r9 : Rd (fun b => S b ∧ b < w.heap.size) ((w8.setCell ⟨w3.heap.size, 4, none⟩ (.slice B7 xs7.length cb7)).setCell ⟨w3.heap.size, 5, none⟩ (.slice C8 ss8.length cc8)) g p.2 := h3.grown hs2 (by intro e; have := Option.some.inj e; omega) (fun b hb e => by have := Option.some.inj e; have := hb.2; omega)
              have zs := hs2.size
              have z6 := h6.size
              have lb7 := o7.lt
              have lb8 := o8.lt
              have p7 : Own IxE 55 w8 (w3.heap.size + 1) (fun b => b ≠ g ∧ b ≠ w.heap.size ∧ b ≠ w3.heap.size ∧ (Value.slice C8 ss8.length cc8).ownBlock ≠ some b ∧ (S b ∨ w.heap.size ≤ b)) (.slice B7 xs7.length cb7) xs7 := Own.mono o7 (fun b hb _ h => ⟨h.1.1, h.1.2.1, h.1.2.2.1, fun e => by
                rcases t8 with t | ⟨n, hn, t⟩
                · exact h.1.2.2.2.1 (t.symm.trans e)
                · have := Option.some.inj (t.symm.trans e); have := h.2; omega, h.1.2.2.2.2⟩)
              have p8 : Own StE 57 w8 (w3.heap.size + 1) (fun b => b ≠ g ∧ b ≠ w.heap.size ∧ b ≠ w3.heap.size ∧ (Value.slice B7 xs7.length cb7).ownBlock ≠ some b ∧ (S b ∨ w.heap.size ≤ b)) (.slice C8 ss8.length cc8) ss8 := Own.mono o8 (fun b hb _ h => ⟨h.1.1, h.1.2.1, h.1.2.2.1, fun e => by
                rcases t7 with t | ⟨n, hn, t⟩
                · exact h.1.2.2.2.1 (t.symm.trans e)
                · have := Option.some.inj (t.symm.trans e); have := h.2; omega, h.1.2.2.2.2⟩)
              refine ⟨_, rfl, ⟨xs7, ss8, p.2, B7, C8, cb7, cc8, by omega, by rw [H7.out, H8.out]; exact HRX2.out, by omega, Own.grown h1 hs2 (fun b e => by have e2 := Option.some.inj e; exact ⟨fun e3 => by have := (Own.lt h1 _ e3).1; omega, fun h => h⟩), Own.grown p7 hs2 (fun b e => by have e2 := Option.some.inj e; exact ⟨fun e3 => by have := (lb7 _ e3).1; omega, fun h => h.2.2.1 e2.symm⟩), Own.grown p8 hs2 (fun b e => by have e2 := Option.some.inj e; exact ⟨fun e3 => by have := (lb8 _ e3).1; omega, fun h => h.2.2.1 e2.symm⟩), k9, h2.grown hs2 (by intro e; have := Option.some.inj e; omega), r9, h6.andThen hs2 (fun j e => by have := Option.some.inj e; omega), by have := h7.1.lt; omega⟩, ?_⟩
              rw [r9.rdLen, HLEN.out]
              omega
            have stf : ∀ W, ST W → W.frozen? ⟨w3.heap.size, 4, none⟩ = false ∧ (∀ v, (W.setCell ⟨w3.heap.size, 4, none⟩ v).cell? ⟨w3.heap.size, 5, none⟩ = some (.slice C ss.length cc) ∧ (W.setCell ⟨w3.heap.size, 4, none⟩ v).frozen? ⟨w3.heap.size, 5, none⟩ = false) := by
              rw [hST]
              rintro W ⟨h1, h2, h3, h4, h5, h6, h7⟩
              exact ⟨h7.1.frozen 4, fun v => ⟨(h7.1.set_ 4 v).cell 5, (h7.1.set_ 4 v).frozen 5⟩⟩
            have HFIN := Lib.hid hfin
            have STF := Lib.hid stf
            have hneBC : ∀ W B7 cb7 xs7, Own IxE 55 W (w3.heap.size + 1) (fun b => (b ≠ g ∧ b ≠ w.heap.size ∧ b ≠ w3.heap.size ∧ (Value.slice C ss.length cc).ownBlock ≠ some b ∧ (S b ∨ w.heap.size ≤ b)) ∧ b < X2.heap.size) (.slice B7 xs7.length cb7) xs7 → Own StE 57 W (w3.heap.size + 1) (fun b => (b ≠ g ∧ b ≠ w.heap.size ∧ b ≠ w3.heap.size ∧ (Value.slice B xs.length cb).ownBlock ≠ some b ∧ (S b ∨ w.heap.size ≤ b)) ∧ b < X2.heap.size) (.slice C ss.length cc) ss → ∀ b, (Value.slice C ss.length cc).ownBlock = some b → (Value.slice B7 xs7.length cb7).ownBlock ≠ some b := fun W B7 cb7 xs7 o1 o2 b e e2 => by
              obtain ⟨v1, o1, _⟩ := o1
              obtain ⟨v2, o2, _⟩ := o2
              rcases own_own_ne o1 o2 (by decide) with h | h
              · rw [h] at e2; cases e2
              · exact h (e2.trans e.symm)
            have HNB := Lib.hid hneBC
            clear hfin stf hST hneBC std sta stg stk sti sts hAB hS0 hBC hBlt hClt hDX hFX hrX krX oAX oBX oCX kp0 KS hD hF2 hF3 ggX hla
            refine wp_region_noPanic ?_
            refine wp_region_heldK ST 13 (by kernel_rfl) (STD.out _ st0) (fun hH => ?_)
            refine wpAnyK_take (i := 0) (v := ?_) rfl (by kernel_rfl) (by kernel_rfl) (by kernel_rfl) (by kernel_rfl) (fun _ _ _ h => h) (Or.inl ⟨by rfl, ?_⟩) hH ?_
            case refine_2 => intro w hSw; go_simp; try with_reducible rfl
            try simp only [List.getElem_toArray, List.getElem_cons_zero, Act.put, List.setIfInBounds_toArray, List.set_cons_zero, List.set_cons_succ]
            refine wpAnyK_take (i := 1) (v := ?_) rfl (by kernel_rfl) (by kernel_rfl) (by kernel_rfl) (by kernel_rfl) (fun _ _ _ h => h) (Or.inl ⟨by rfl, ?_⟩) hH ?_
            case refine_2 => intro w hSw; go_simp; try with_reducible rfl
            try simp only [List.getElem_toArray, List.getElem_cons_succ, List.getElem_cons_zero, Act.put, List.setIfInBounds_toArray, List.set_cons_zero, List.set_cons_succ]
            refine wpAnyK_take (i := 2) (v := ?_) rfl (by kernel_rfl) (by kernel_rfl) (by kernel_rfl) (by kernel_rfl) (fun _ _ _ h => h) (Or.inl ⟨by rfl, ?_⟩) hH ?_
            case refine_2 => intro w hSw; obtain ⟨c1, c2, c3, c4, c5, c6, c7⟩ := STK.out w hSw; go_simp; try with_reducible rfl
            try simp only [List.getElem_toArray, List.getElem_cons_succ, List.getElem_cons_zero, Act.put, List.setIfInBounds_toArray, List.set_cons_zero, List.set_cons_succ]
            refine wpAnyK_take (i := 3) (v := ?_) rfl (by kernel_rfl) (by kernel_rfl) (by kernel_rfl) (by kernel_rfl) (fun _ _ _ h => h) (Or.inl ⟨by rfl, ?_⟩) hH ?_
            case refine_2 => intro w hSw; obtain ⟨c1, c2, c3, c4, c5, c6, c7⟩ := STK.out w hSw; go_simp; try with_reducible rfl
            try simp only [List.getElem_toArray, List.getElem_cons_succ, List.getElem_cons_zero, Act.put, List.setIfInBounds_toArray, List.set_cons_zero, List.set_cons_succ]
            refine wpAnyK_take (i := 6) (v := ?_) rfl (by kernel_rfl) (by kernel_rfl) (by kernel_rfl) (by kernel_rfl) (fun _ _ _ h => h) (Or.inl ⟨by rfl, ?_⟩) hH ?_
            case refine_2 => intro w hSw; go_simp; try with_reducible rfl
            try simp only [List.getElem_toArray, List.getElem_cons_succ, List.getElem_cons_zero, Act.put, List.setIfInBounds_toArray, List.set_cons_zero, List.set_cons_succ]
            refine wpAnyK_take (i := 7) (v := ?_) rfl (by kernel_rfl) (by kernel_rfl) (by kernel_rfl) (by kernel_rfl) (fun _ _ _ h => h) (Or.inl ⟨by rfl, ?_⟩) hH ?_
            case refine_2 => intro w hSw; obtain ⟨c1, c2, c3, c4, c5, c6, c7⟩ := STK.out w hSw; go_simp; try with_reducible rfl
            try simp only [List.getElem_toArray, List.getElem_cons_succ, List.getElem_cons_zero, Act.put, List.setIfInBounds_toArray, List.set_cons_zero, List.set_cons_succ]
            refine wpAnyK_take (i := 8) (v := ?_) rfl (by kernel_rfl) (by kernel_rfl) (by kernel_rfl) (by kernel_rfl) (fun _ _ _ h => h) (Or.inl ⟨by rfl, ?_⟩) hH ?_
            case refine_2 => intro w hSw; obtain ⟨c1, c2, c3, c4, c5, c6, c7⟩ := STK.out w hSw; go_simp; try with_reducible rfl
            try simp only [List.getElem_toArray, List.getElem_cons_succ, List.getElem_cons_zero, Act.put, List.setIfInBounds_toArray, List.set_cons_zero, List.set_cons_succ]
            refine wpAnyK_ready (rs := [4, 9]) (by kernel_rfl) (by simp) ?_
            refine AllReadyK.cons rfl (by kernel_rfl) (fun K hK => ?_) (AllReadyK.cons rfl (by kernel_rfl) (fun K hK => ?_) AllReadyK.nil)
            · skip
              go_simp
              refine hK.out _ _ (by (focus (repeat (first | (with_reducible exact s8) | (with_reducible exact s7) | (with_reducible exact st0) | (with_reducible refine STD.out _ ?_) | (with_reducible refine STA.out _ _ ?_))))) ?_
              clear hK K
              try simp only [List.getElem_toArray, List.getElem_cons_succ, List.getElem_cons_zero, Act.put, List.setIfInBounds_toArray, List.set_cons_zero, List.set_cons_succ]
              refine wpAnyK_ready (rs := [5, 9]) (by kernel_rfl) (by simp) ?_
              refine AllReadyK.cons rfl (by kernel_rfl) (fun K hK => ?_) (AllReadyK.cons rfl (by kernel_rfl) (fun K hK => ?_) AllReadyK.nil)
              · skip
                refine step_appE IxE (w3.heap.size + 1) _ (by rfl) (.tmp 43) (.tmp 45) 55 23 (by rfl) i2 _ Try.underlying23 hi2 hx0 hx1 hx2 rfl (fun b => (b ≠ g ∧ b ≠ w.heap.size ∧ b ≠ w3.heap.size ∧ (Value.slice C ss.length cc).ownBlock ≠ some b ∧ (S b ∨ w.heap.size ≤ b)) ∧ b < X2.heap.size) B xs cb (by rfl) ?_ _ [.string p.1.1.name, .slice D p.1.1.cols.length d, .bool p.1.1.uniq] p.1.1 1 (by rfl) _ (Reads.of_blk (t := 55) ?_ rfl) (STI.out _ ?_) hb1 hb2 ?_ ?_
                · (focus (repeat (first | (with_reducible exact oBS) | (with_reducible refine Own.drew_ ?_) | (with_reducible refine Own.alloc_ ?_ _))))
                · (focus (repeat (first | (exact Blk.new _ _ _) | (exact Blk.new2 _ _ _ _) | (with_reducible refine Blk.alloc ?_ _) | (with_reducible refine Blk.drew ?_))))
                · (focus (repeat (first | (with_reducible exact s8) | (with_reducible exact s7) | (with_reducible exact st0) | (with_reducible refine STD.out _ ?_) | (with_reducible refine STA.out _ _ ?_))))
                · (first | omega | (simp; done) | (simp; omega))
                intro B7 cb7 xs7 w7 H7 o7 g7 t7
                have s7 := STGB.out _ _ (by (focus (repeat (first | (with_reducible exact s8) | (with_reducible exact s7) | (with_reducible exact st0) | (with_reducible refine STD.out _ ?_) | (with_reducible refine STA.out _ _ ?_))))) g7
                have oC7 : Own StE 57 w7 (w3.heap.size + 1) (fun b => (b ≠ g ∧ b ≠ w.heap.size ∧ b ≠ w3.heap.size ∧ (Value.slice B xs.length cb).ownBlock ≠ some b ∧ (S b ∨ w.heap.size ≤ b)) ∧ b < X2.heap.size) (.slice C ss.length cc) ss := Own.grown (by (focus (repeat (first | (with_reducible exact oCS) | (with_reducible refine Own.drew_ ?_) | (with_reducible refine Own.alloc_ ?_ _))))) g7 (fun b e => ⟨HBC.out b e, fun h => h.1.2.2.2.1 e⟩)
                have z7 : X2.heap.size ≤ w7.heap.size := Nat.le_trans (by first | (simp; done) | (simp; omega)) g7.size
                have T7 : (Value.slice B7 xs7.length cb7).ownBlock = (Value.slice B xs.length cb).ownBlock ∨ ∃ n, X2.heap.size ≤ n ∧ (Value.slice B7 xs7.length cb7).ownBlock = some n := t7.imp id (fun e => ⟨_, by first | (simp; done) | (simp; omega), e⟩)
                refine hK.out _ _ s7 ?_
                clear hK K t7
                try simp only [List.getElem_toArray, List.getElem_cons_succ, List.getElem_cons_zero, Act.put, List.setIfInBounds_toArray, List.set_cons_zero, List.set_cons_succ]
                refine wpAnyK_take (i := 11) (v := ?_) rfl (by kernel_rfl) (by kernel_rfl) (by kernel_rfl) (by kernel_rfl) (fun _ _ _ h => h) (Or.inl ⟨by rfl, ?_⟩) s7 ?_
                case refine_2 => intro w hSw; go_simp; try with_reducible rfl
                try simp only [List.getElem_toArray, List.getElem_cons_succ, List.getElem_cons_zero, Act.put, List.setIfInBounds_toArray, List.set_cons_zero, List.set_cons_succ]
                refine wpAnyK_take (i := 12) (v := ?_) rfl (by kernel_rfl) (by kernel_rfl) (by kernel_rfl) (by kernel_rfl) (fun _ _ _ h => h) (Or.inl ⟨by rfl, ?_⟩) s7 ?_
                case refine_2 => intro w hSw; go_simp; try with_reducible rfl
                try simp only [List.getElem_toArray, List.getElem_cons_succ, List.getElem_cons_zero, Act.put, List.setIfInBounds_toArray, List.set_cons_zero, List.set_cons_succ]
                refine wpAnyK_ready (rs := [9]) (by kernel_rfl) (by simp) ?_
                refine AllReadyK.cons rfl (by kernel_rfl) (fun K hK => ?_) AllReadyK.nil
                · skip
                  go_simp
                  refine hK.out _ _ (by (focus (repeat (first | (with_reducible exact s8) | (with_reducible exact s7) | (with_reducible exact st0) | (with_reducible refine STD.out _ ?_) | (with_reducible refine STA.out _ _ ?_))))) ?_
                  clear hK K
                  try simp only [List.getElem_toArray, List.getElem_cons_succ, List.getElem_cons_zero, Act.put, List.setIfInBounds_toArray, List.set_cons_zero, List.set_cons_succ]
                  refine wpAnyK_ready (rs := [10]) (by kernel_rfl) (by simp) ?_
                  refine AllReadyK.cons rfl (by kernel_rfl) (fun K hK => ?_) AllReadyK.nil
                  · skip
                    refine step_appE StE (w3.heap.size + 1) _ (by rfl) (.tmp 48) (.tmp 50) 57 31 (by rfl) i3 _ Try.underlying31 hi3 hs0 hs1 hs2 rfl (fun b => (b ≠ g ∧ b ≠ w.heap.size ∧ b ≠ w3.heap.size ∧ (Value.slice B xs.length cb).ownBlock ≠ some b ∧ (S b ∨ w.heap.size ≤ b)) ∧ b < X2.heap.size) C ss cc (by rfl) ?_ _ [.int .i64 p.1.2.phase, .slice F p.1.2.cur.length f] p.1.2 1 (by rfl) _ (Reads.of_blk (t := 57) ?_ rfl) (STS.out _ ?_) hb3 hb4 ?_ ?_
                    · (focus (repeat (first | (with_reducible exact oC7) | (with_reducible refine Own.drew_ ?_) | (with_reducible refine Own.alloc_ ?_ _))))
                    · (focus (repeat (first | (exact Blk.new _ _ _) | (exact Blk.new2 _ _ _ _) | (with_reducible refine Blk.alloc ?_ _) | (with_reducible refine Blk.drew ?_))))
                    · (focus (repeat (first | (with_reducible exact s8) | (with_reducible exact s7) | (with_reducible exact st0) | (with_reducible refine STD.out _ ?_) | (with_reducible refine STA.out _ _ ?_))))
                    · (first | omega | (simp; done) | (simp; omega))
                    intro C8 cc8 ss8 w8 H8 o8 g8 t8
                    have hS8 := STGC.out _ _ (by (focus (repeat (first | (with_reducible exact s8) | (with_reducible exact s7) | (with_reducible exact st0) | (with_reducible refine STD.out _ ?_) | (with_reducible refine STA.out _ _ ?_))))) g8
                    have o78 : Own IxE 55 w8 (w3.heap.size + 1) (fun b => (b ≠ g ∧ b ≠ w.heap.size ∧ b ≠ w3.heap.size ∧ (Value.slice C ss.length cc).ownBlock ≠ some b ∧ (S b ∨ w.heap.size ≤ b)) ∧ b < X2.heap.size) (.slice B7 xs7.length cb7) xs7 := Own.grown (by (focus (repeat (first | (with_reducible exact o7) | (with_reducible refine Own.drew_ ?_) | (with_reducible refine Own.alloc_ ?_ _))))) g8 (fun b e => ⟨HNB.out _ _ _ _ o7 oC7 b e, fun h => h.1.2.2.2.1 e⟩)
                    have T8 : (Value.slice C8 ss8.length cc8).ownBlock = (Value.slice C ss.length cc).ownBlock ∨ ∃ n, X2.heap.size ≤ n ∧ (Value.slice C8 ss8.length cc8).ownBlock = some n := t8.imp id (fun e => ⟨_, by first | omega | (simp; omega) | (simp; done), e⟩)
                    refine hK.out _ _ hS8 ?_
                    clear hK K t8
                    try simp only [List.getElem_toArray, List.getElem_cons_succ, List.getElem_cons_zero, Act.put, List.setIfInBounds_toArray, List.set_cons_zero, List.set_cons_succ]
                    refine wpAnyK_ready (rs := [13]) (by kernel_rfl) (by simp) ?_
                    refine AllReadyK.turn rfl (fun K hK => ?_) AllReadyK.nil
                    obtain ⟨c1, c2, c3, c4, c5, c6, c7⟩ := STK.out _ hS8
                    obtain ⟨f4, f5⟩ := STF.out _ hS8
                    go_simp
                    refine hK.out _ _ ?_
                    clear hK K
                    try simp only [List.getElem_toArray, List.getElem_cons_succ, List.getElem_cons_zero, Act.put, List.setIfInBounds_toArray, List.set_cons_zero, List.set_cons_succ]
                    obtain ⟨c5b, f5b⟩ := f5 (.slice B7 xs7.length cb7)
                    refine wpAny_take (i := 14) (v := ?_) rfl (by kernel_rfl) (by kernel_rfl) (by kernel_rfl) (fun _ _ _ h => h) (Or.inl ⟨by rfl, ?_⟩) ?_
                    case refine_2 => intro w; go_simp; try with_reducible rfl
                    try simp only [List.getElem_toArray, List.getElem_cons_succ, List.getElem_cons_zero, Act.put, List.setIfInBounds_toArray, List.set_cons_zero, List.set_cons_succ]
                    refine wpAny_ready (rs := [15]) (by kernel_rfl) (by simp) ?_
                    refine AllReady.cons rfl (fun K hK => ?_) AllReady.nil
                    go_simp
                    refine hK _ _ ?_
                    clear hK K
                    try simp only [List.getElem_toArray, List.getElem_cons_succ, List.getElem_cons_zero, Act.put, List.setIfInBounds_toArray, List.set_cons_zero, List.set_cons_succ]
                    refine wpAny_done (by kernel_rfl) ?_ _
                    refine NoPanic.normal ?_
                    obtain ⟨W, hW, hrel2, hm2⟩ := HFIN.out B7 cb7 xs7 C8 cc8 ss8 w8 H7 H8 hS8 o78 o8 T7 T8
                    have HREL := Lib.hid hrel2
                    rw [← hW]
                    clear hW hrel2 c1 c2 c3 c4 c5 c6 c7 f4 f5 c5b f5b T7 T8
                    go_wp2_with fail
                    exact ⟨HREL.out, hm2⟩
              · skip
                go_simp
                refine hK.out _ _ (by (focus (repeat (first | (with_reducible exact s8) | (with_reducible exact s7) | (with_reducible exact st0) | (with_reducible refine STD.out _ ?_) | (with_reducible refine STA.out _ _ ?_))))) ?_
                clear hK K
                try simp only [List.getElem_toArray, List.getElem_cons_succ, List.getElem_cons_zero, Act.put, List.setIfInBounds_toArray, List.set_cons_zero, List.set_cons_succ]
                refine wpAnyK_ready (rs := [5]) (by kernel_rfl) (by simp) ?_
                refine AllReadyK.cons rfl (by kernel_rfl) (fun K hK => ?_) AllReadyK.nil
                · skip
                  refine step_appE IxE (w3.heap.size + 1) _ (by rfl) (.tmp 43) (.tmp 45) 55 23 (by rfl) i2 _ Try.underlying23 hi2 hx0 hx1 hx2 rfl (fun b => (b ≠ g ∧ b ≠ w.heap.size ∧ b ≠ w3.heap.size ∧ (Value.slice C ss.length cc).ownBlock ≠ some b ∧ (S b ∨ w.heap.size ≤ b)) ∧ b < X2.heap.size) B xs cb (by rfl) ?_ _ [.string p.1.1.name, .slice D p.1.1.cols.length d, .bool p.1.1.uniq] p.1.1 1 (by rfl) _ (Reads.of_blk (t := 55) ?_ rfl) (STI.out _ ?_) hb1 hb2 ?_ ?_
                  · (focus (repeat (first | (with_reducible exact oBS) | (with_reducible refine Own.drew_ ?_) | (with_reducible refine Own.alloc_ ?_ _))))
                  · (focus (repeat (first | (exact Blk.new _ _ _) | (exact Blk.new2 _ _ _ _) | (with_reducible refine Blk.alloc ?_ _) | (with_reducible refine Blk.drew ?_))))
                  · (focus (repeat (first | (with_reducible exact s8) | (with_reducible exact s7) | (with_reducible exact st0) | (with_reducible refine STD.out _ ?_) | (with_reducible refine STA.out _ _ ?_))))
                  · (first | omega | (simp; done) | (simp; omega))
                  intro B7 cb7 xs7 w7 H7 o7 g7 t7
                  have s7 := STGB.out _ _ (by (focus (repeat (first | (with_reducible exact s8) | (with_reducible exact s7) | (with_reducible exact st0) | (with_reducible refine STD.out _ ?_) | (with_reducible refine STA.out _ _ ?_))))) g7
                  have oC7 : Own StE 57 w7 (w3.heap.size + 1) (fun b => (b ≠ g ∧ b ≠ w.heap.size ∧ b ≠ w3.heap.size ∧ (Value.slice B xs.length cb).ownBlock ≠ some b ∧ (S b ∨ w.heap.size ≤ b)) ∧ b < X2.heap.size) (.slice C ss.length cc) ss := Own.grown (by (focus (repeat (first | (with_reducible exact oCS) | (with_reducible refine Own.drew_ ?_) | (with_reducible refine Own.alloc_ ?_ _))))) g7 (fun b e => ⟨HBC.out b e, fun h => h.1.2.2.2.1 e⟩)
                  have kY : Blk w7 (X2.heap.size + 1) 57 #[.int .i64 p.1.2.phase, .slice F p.1.2.cur.length f] := Blk.grown (by (focus (repeat (first | (exact Blk.new _ _ _) | (exact Blk.new2 _ _ _ _) | (with_reducible refine Blk.alloc ?_ _) | (with_reducible refine Blk.drew ?_))))) g7 (by intro e; have := HBLT.out _ e.symm; omega)
                  have z7 : X2.heap.size ≤ w7.heap.size := Nat.le_trans (by first | (simp; done) | (simp; omega)) g7.size
                  have T7 : (Value.slice B7 xs7.length cb7).ownBlock = (Value.slice B xs.length cb).ownBlock ∨ ∃ n, X2.heap.size ≤ n ∧ (Value.slice B7 xs7.length cb7).ownBlock = some n := t7.imp id (fun e => ⟨_, by first | (simp; done) | (simp; omega), e⟩)
                  refine hK.out _ _ s7 ?_
                  clear hK K t7
                  try simp only [List.getElem_toArray, List.getElem_cons_succ, List.getElem_cons_zero, Act.put, List.setIfInBounds_toArray, List.set_cons_zero, List.set_cons_succ]
                  refine wpAnyK_take (i := 11) (v := ?_) rfl (by kernel_rfl) (by kernel_rfl) (by kernel_rfl) (by kernel_rfl) (fun _ _ _ h => h) (Or.inl ⟨by rfl, ?_⟩) s7 ?_
                  case refine_2 => intro w hSw; go_simp; try with_reducible rfl
                  try simp only [List.getElem_toArray, List.getElem_cons_succ, List.getElem_cons_zero, Act.put, List.setIfInBounds_toArray, List.set_cons_zero, List.set_cons_succ]
                  refine wpAnyK_take (i := 12) (v := ?_) rfl (by kernel_rfl) (by kernel_rfl) (by kernel_rfl) (by kernel_rfl) (fun _ _ _ h => h) (Or.inl ⟨by rfl, ?_⟩) s7 ?_
                  case refine_2 => intro w hSw; go_simp; try with_reducible rfl
                  try simp only [List.getElem_toArray, List.getElem_cons_succ, List.getElem_cons_zero, Act.put, List.setIfInBounds_toArray, List.set_cons_zero, List.set_cons_succ]
                  refine wpAnyK_ready (rs := [10]) (by kernel_rfl) (by simp) ?_
                  refine AllReadyK.cons rfl (by kernel_rfl) (fun K hK => ?_) AllReadyK.nil
                  · skip
                    refine step_appE StE (w3.heap.size + 1) _ (by rfl) (.tmp 48) (.tmp 50) 57 31 (by rfl) i3 _ Try.underlying31 hi3 hs0 hs1 hs2 rfl (fun b => (b ≠ g ∧ b ≠ w.heap.size ∧ b ≠ w3.heap.size ∧ (Value.slice B xs.length cb).ownBlock ≠ some b ∧ (S b ∨ w.heap.size ≤ b)) ∧ b < X2.heap.size) C ss cc (by rfl) ?_ _ [.int .i64 p.1.2.phase, .slice F p.1.2.cur.length f] p.1.2 1 (by rfl) _ (Reads.of_blk (t := 57) ?_ rfl) (STS.out _ ?_) hb3 hb4 ?_ ?_
                    · (focus (repeat (first | (with_reducible exact oC7) | (with_reducible refine Own.drew_ ?_) | (with_reducible refine Own.alloc_ ?_ _))))
                    · exact kY
                    · (focus (repeat (first | (with_reducible exact s8) | (with_reducible exact s7) | (with_reducible exact st0) | (with_reducible refine STD.out _ ?_) | (with_reducible refine STA.out _ _ ?_))))
                    · (first | omega | (simp; done) | (simp; omega))
                    intro C8 cc8 ss8 w8 H8 o8 g8 t8
                    have hS8 := STGC.out _ _ (by (focus (repeat (first | (with_reducible exact s8) | (with_reducible exact s7) | (with_reducible exact st0) | (with_reducible refine STD.out _ ?_) | (with_reducible refine STA.out _ _ ?_))))) g8
                    have o78 : Own IxE 55 w8 (w3.heap.size + 1) (fun b => (b ≠ g ∧ b ≠ w.heap.size ∧ b ≠ w3.heap.size ∧ (Value.slice C ss.length cc).ownBlock ≠ some b ∧ (S b ∨ w.heap.size ≤ b)) ∧ b < X2.heap.size) (.slice B7 xs7.length cb7) xs7 := Own.grown (by (focus (repeat (first | (with_reducible exact o7) | (with_reducible refine Own.drew_ ?_) | (with_reducible refine Own.alloc_ ?_ _))))) g8 (fun b e => ⟨HNB.out _ _ _ _ o7 oC7 b e, fun h => h.1.2.2.2.1 e⟩)
                    have T8 : (Value.slice C8 ss8.length cc8).ownBlock = (Value.slice C ss.length cc).ownBlock ∨ ∃ n, X2.heap.size ≤ n ∧ (Value.slice C8 ss8.length cc8).ownBlock = some n := t8.imp id (fun e => ⟨_, by first | omega | (simp; omega) | (simp; done), e⟩)
                    refine hK.out _ _ hS8 ?_
                    clear hK K t8
                    try simp only [List.getElem_toArray, List.getElem_cons_succ, List.getElem_cons_zero, Act.put, List.setIfInBounds_toArray, List.set_cons_zero, List.set_cons_succ]
                    refine wpAnyK_ready (rs := [13]) (by kernel_rfl) (by simp) ?_
                    refine AllReadyK.turn rfl (fun K hK => ?_) AllReadyK.nil
                    obtain ⟨c1, c2, c3, c4, c5, c6, c7⟩ := STK.out _ hS8
                    obtain ⟨f4, f5⟩ := STF.out _ hS8
                    go_simp
                    refine hK.out _ _ ?_
                    clear hK K
                    try simp only [List.getElem_toArray, List.getElem_cons_succ, List.getElem_cons_zero, Act.put, List.setIfInBounds_toArray, List.set_cons_zero, List.set_cons_succ]
                    obtain ⟨c5b, f5b⟩ := f5 (.slice B7 xs7.length cb7)
                    refine wpAny_take (i := 14) (v := ?_) rfl (by kernel_rfl) (by kernel_rfl) (by kernel_rfl) (fun _ _ _ h => h) (Or.inl ⟨by rfl, ?_⟩) ?_
                    case refine_2 => intro w; go_simp; try with_reducible rfl
                    try simp only [List.getElem_toArray, List.getElem_cons_succ, List.getElem_cons_zero, Act.put, List.setIfInBounds_toArray, List.set_cons_zero, List.set_cons_succ]
                    refine wpAny_ready (rs := [15]) (by kernel_rfl) (by simp) ?_
                    refine AllReady.cons rfl (fun K hK => ?_) AllReady.nil
                    go_simp
                    refine hK _ _ ?_
                    clear hK K
                    try simp only [List.getElem_toArray, List.getElem_cons_succ, List.getElem_cons_zero, Act.put, List.setIfInBounds_toArray, List.set_cons_zero, List.set_cons_succ]
                    refine wpAny_done (by kernel_rfl) ?_ _
                    refine NoPanic.normal ?_
                    obtain ⟨W, hW, hrel2, hm2⟩ := HFIN.out B7 cb7 xs7 C8 cc8 ss8 w8 H7 H8 hS8 o78 o8 T7 T8
                    have HREL := Lib.hid hrel2
                    rw [← hW]
                    clear hW hrel2 c1 c2 c3 c4 c5 c6 c7 f4 f5 c5b f5b T7 T8
                    go_wp2_with fail
                    exact ⟨HREL.out, hm2⟩
            · skip
              go_simp
              refine hK.out _ _ (by (focus (repeat (first | (with_reducible exact s8) | (with_reducible exact s7) | (with_reducible exact st0) | (with_reducible refine STD.out _ ?_) | (with_reducible refine STA.out _ _ ?_))))) ?_
              clear hK K
              try simp only [List.getElem_toArray, List.getElem_cons_succ, List.getElem_cons_zero, Act.put, List.setIfInBounds_toArray, List.set_cons_zero, List.set_cons_succ]
              refine wpAnyK_ready (rs := [4]) (by kernel_rfl) (by simp) ?_
              refine AllReadyK.cons rfl (by kernel_rfl) (fun K hK => ?_) AllReadyK.nil
              · skip
                go_simp
                refine hK.out _ _ (by (focus (repeat (first | (with_reducible exact s8) | (with_reducible exact s7) | (with_reducible exact st0) | (with_reducible refine STD.out _ ?_) | (with_reducible refine STA.out _ _ ?_))))) ?_
                clear hK K
                try simp only [List.getElem_toArray, List.getElem_cons_succ, List.getElem_cons_zero, Act.put, List.setIfInBounds_toArray, List.set_cons_zero, List.set_cons_succ]
                refine wpAnyK_ready (rs := [5]) (by kernel_rfl) (by simp) ?_
                refine AllReadyK.cons rfl (by kernel_rfl) (fun K hK => ?_) AllReadyK.nil
                · skip
                  refine step_appE IxE (w3.heap.size + 1) _ (by rfl) (.tmp 43) (.tmp 45) 55 23 (by rfl) i2 _ Try.underlying23 hi2 hx0 hx1 hx2 rfl (fun b => (b ≠ g ∧ b ≠ w.heap.size ∧ b ≠ w3.heap.size ∧ (Value.slice C ss.length cc).ownBlock ≠ some b ∧ (S b ∨ w.heap.size ≤ b)) ∧ b < X2.heap.size) B xs cb (by rfl) ?_ _ [.string p.1.1.name, .slice D p.1.1.cols.length d, .bool p.1.1.uniq] p.1.1 1 (by rfl) _ (Reads.of_blk (t := 55) ?_ rfl) (STI.out _ ?_) hb1 hb2 ?_ ?_
                  · (focus (repeat (first | (with_reducible exact oBS) | (with_reducible refine Own.drew_ ?_) | (with_reducible refine Own.alloc_ ?_ _))))
                  · (focus (repeat (first | (exact Blk.new _ _ _) | (exact Blk.new2 _ _ _ _) | (with_reducible refine Blk.alloc ?_ _) | (with_reducible refine Blk.drew ?_))))
                  · (focus (repeat (first | (with_reducible exact s8) | (with_reducible exact s7) | (with_reducible exact st0) | (with_reducible refine STD.out _ ?_) | (with_reducible refine STA.out _ _ ?_))))
                  · (first | omega | (simp; done) | (simp; omega))
                  intro B7 cb7 xs7 w7 H7 o7 g7 t7
                  have s7 := STGB.out _ _ (by (focus (repeat (first | (with_reducible exact s8) | (with_reducible exact s7) | (with_reducible exact st0) | (with_reducible refine STD.out _ ?_) | (with_reducible refine STA.out _ _ ?_))))) g7
                  have oC7 : Own StE 57 w7 (w3.heap.size + 1) (fun b => (b ≠ g ∧ b ≠ w.heap.size ∧ b ≠ w3.heap.size ∧ (Value.slice B xs.length cb).ownBlock ≠ some b ∧ (S b ∨ w.heap.size ≤ b)) ∧ b < X2.heap.size) (.slice C ss.length cc) ss := Own.grown (by (focus (repeat (first | (with_reducible exact oCS) | (with_reducible refine Own.drew_ ?_) | (with_reducible refine Own.alloc_ ?_ _))))) g7 (fun b e => ⟨HBC.out b e, fun h => h.1.2.2.2.1 e⟩)
                  have kY : Blk w7 (X2.heap.size) 57 #[.int .i64 p.1.2.phase, .slice F p.1.2.cur.length f] := Blk.grown (by (focus (repeat (first | (exact Blk.new _ _ _) | (exact Blk.new2 _ _ _ _) | (with_reducible refine Blk.alloc ?_ _) | (with_reducible refine Blk.drew ?_))))) g7 (by intro e; have := HBLT.out _ e.symm; omega)
                  have z7 : X2.heap.size ≤ w7.heap.size := Nat.le_trans (by first | (simp; done) | (simp; omega)) g7.size
                  have T7 : (Value.slice B7 xs7.length cb7).ownBlock = (Value.slice B xs.length cb).ownBlock ∨ ∃ n, X2.heap.size ≤ n ∧ (Value.slice B7 xs7.length cb7).ownBlock = some n := t7.imp id (fun e => ⟨_, by first | (simp; done) | (simp; omega), e⟩)
                  refine hK.out _ _ s7 ?_
                  clear hK K t7
                  try simp only [List.getElem_toArray, List.getElem_cons_succ, List.getElem_cons_zero, Act.put, List.setIfInBounds_toArray, List.set_cons_zero, List.set_cons_succ]
                  refine wpAnyK_take (i := 11) (v := ?_) rfl (by kernel_rfl) (by kernel_rfl) (by kernel_rfl) (by kernel_rfl) (fun _ _ _ h => h) (Or.inl ⟨by rfl, ?_⟩) s7 ?_
                  case refine_2 => intro w hSw; go_simp; try with_reducible rfl
                  try simp only [List.getElem_toArray, List.getElem_cons_succ, List.getElem_cons_zero, Act.put, List.setIfInBounds_toArray, List.set_cons_zero, List.set_cons_succ]
                  refine wpAnyK_take (i := 12) (v := ?_) rfl (by kernel_rfl) (by kernel_rfl) (by kernel_rfl) (by kernel_rfl) (fun _ _ _ h => h) (Or.inl ⟨by rfl, ?_⟩) s7 ?_
                  case refine_2 => intro w hSw; go_simp; try with_reducible rfl
                  try simp only [List.getElem_toArray, List.getElem_cons_succ, List.getElem_cons_zero, Act.put, List.setIfInBounds_toArray, List.set_cons_zero, List.set_cons_succ]
                  refine wpAnyK_ready (rs := [10]) (by kernel_rfl) (by simp) ?_
                  refine AllReadyK.cons rfl (by kernel_rfl) (fun K hK => ?_) AllReadyK.nil
                  · skip
                    refine step_appE StE (w3.heap.size + 1) _ (by rfl) (.tmp 48) (.tmp 50) 57 31 (by rfl) i3 _ Try.underlying31 hi3 hs0 hs1 hs2 rfl (fun b => (b ≠ g ∧ b ≠ w.heap.size ∧ b ≠ w3.heap.size ∧ (Value.slice B xs.length cb).ownBlock ≠ some b ∧ (S b ∨ w.heap.size ≤ b)) ∧ b < X2.heap.size) C ss cc (by rfl) ?_ _ [.int .i64 p.1.2.phase, .slice F p.1.2.cur.length f] p.1.2 1 (by rfl) _ (Reads.of_blk (t := 57) ?_ rfl) (STS.out _ ?_) hb3 hb4 ?_ ?_
                    · (focus (repeat (first | (with_reducible exact oC7) | (with_reducible refine Own.drew_ ?_) | (with_reducible refine Own.alloc_ ?_ _))))
                    · exact kY
                    · (focus (repeat (first | (with_reducible exact s8) | (with_reducible exact s7) | (with_reducible exact st0) | (with_reducible refine STD.out _ ?_) | (with_reducible refine STA.out _ _ ?_))))
                    · (first | omega | (simp; done) | (simp; omega))
                    intro C8 cc8 ss8 w8 H8 o8 g8 t8
                    have hS8 := STGC.out _ _ (by (focus (repeat (first | (with_reducible exact s8) | (with_reducible exact s7) | (with_reducible exact st0) | (with_reducible refine STD.out _ ?_) | (with_reducible refine STA.out _ _ ?_))))) g8
                    have o78 : Own IxE 55 w8 (w3.heap.size + 1) (fun b => (b ≠ g ∧ b ≠ w.heap.size ∧ b ≠ w3.heap.size ∧ (Value.slice C ss.length cc).ownBlock ≠ some b ∧ (S b ∨ w.heap.size ≤ b)) ∧ b < X2.heap.size) (.slice B7 xs7.length cb7) xs7 := Own.grown (by (focus (repeat (first | (with_reducible exact o7) | (with_reducible refine Own.drew_ ?_) | (with_reducible refine Own.alloc_ ?_ _))))) g8 (fun b e => ⟨HNB.out _ _ _ _ o7 oC7 b e, fun h => h.1.2.2.2.1 e⟩)
                    have T8 : (Value.slice C8 ss8.length cc8).ownBlock = (Value.slice C ss.length cc).ownBlock ∨ ∃ n, X2.heap.size ≤ n ∧ (Value.slice C8 ss8.length cc8).ownBlock = some n := t8.imp id (fun e => ⟨_, by first | omega | (simp; omega) | (simp; done), e⟩)
                    refine hK.out _ _ hS8 ?_
                    clear hK K t8
                    try simp only [List.getElem_toArray, List.getElem_cons_succ, List.getElem_cons_zero, Act.put, List.setIfInBounds_toArray, List.set_cons_zero, List.set_cons_succ]
                    refine wpAnyK_ready (rs := [13]) (by kernel_rfl) (by simp) ?_
                    refine AllReadyK.turn rfl (fun K hK => ?_) AllReadyK.nil
                    obtain ⟨c1, c2, c3, c4, c5, c6, c7⟩ := STK.out _ hS8
                    obtain ⟨f4, f5⟩ := STF.out _ hS8
                    go_simp
                    refine hK.out _ _ ?_
                    clear hK K
                    try simp only [List.getElem_toArray, List.getElem_cons_succ, List.getElem_cons_zero, Act.put, List.setIfInBounds_toArray, List.set_cons_zero, List.set_cons_succ]
                    obtain ⟨c5b, f5b⟩ := f5 (.slice B7 xs7.length cb7)
                    refine wpAny_take (i := 14) (v := ?_) rfl (by kernel_rfl) (by kernel_rfl) (by kernel_rfl) (fun _ _ _ h => h) (Or.inl ⟨by rfl, ?_⟩) ?_
                    case refine_2 => intro w; go_simp; try with_reducible rfl
                    try simp only [List.getElem_toArray, List.getElem_cons_succ, List.getElem_cons_zero, Act.put, List.setIfInBounds_toArray, List.set_cons_zero, List.set_cons_succ]
                    refine wpAny_ready (rs := [15]) (by kernel_rfl) (by simp) ?_
                    refine AllReady.cons rfl (fun K hK => ?_) AllReady.nil
                    go_simp
                    refine hK _ _ ?_
                    clear hK K
                    try simp only [List.getElem_toArray, List.getElem_cons_succ, List.getElem_cons_zero, Act.put, List.setIfInBounds_toArray, List.set_cons_zero, List.set_cons_succ]
                    refine wpAny_done (by kernel_rfl) ?_ _
                    refine NoPanic.normal ?_
                    obtain ⟨W, hW, hrel2, hm2⟩ := HFIN.out B7 cb7 xs7 C8 cc8 ss8 w8 H7 H8 hS8 o78 o8 T7 T8
                    have HREL := Lib.hid hrel2
                    rw [← hW]
                    clear hW hrel2 c1 c2 c3 c4 c5 c6 c7 f4 f5 c5b f5b T7 T8
                    go_wp2_with fail
                    exact ⟨HREL.out, hm2⟩
end Go.Proofs.Ytemidaamnldjmaa
