/- The catalog's reader: an index and its state. -/
import Derived.Test.YtemidaamnldjmaaReadA
import Derived.Test.YtemidaamnldjmaaRAddW
namespace Go.Proofs.Ytemidaamnldjmaa
open Go.RowKit

theorem RetR.ok_ {α : Type} {S : Nat → Prop} {o : Option (α × List LVal)} {val : World → α → Value → Prop} {g : Nat} {w : World} {f : FuncId} {args : Array Value} (h : Calls Try.prog f args w (RetR S o val g w)) {a : α × List LVal} (ho : o = some a) :
    Calls Try.prog f args w fun en w' => ∃ v, en = .returned v ∧ val w' a.1 v ∧ Rd S w' g a.2 ∧ w.grownBy w' (some g) := by
  refine h.mono ?_
  rintro en w' ⟨hg, ⟨b, v, hb, rfl, hv, hr⟩ | ⟨hb, _⟩⟩
  · rw [ho] at hb; injection hb with hb; subst hb; exact ⟨v, rfl, hv, hr, hg⟩
  · rw [ho] at hb; cases hb
theorem RetR.no_ {α : Type} {S : Nat → Prop} {o : Option (α × List LVal)} {val : World → α → Value → Prop} {g : Nat} {w : World} {f : FuncId} {args : Array Value} (h : Calls Try.prog f args w (RetR S o val g w)) (ho : o = none) :
    Calls Try.prog f args w fun en w' => Pan en ∧ w.grownBy w' (some g) := by
  refine h.mono ?_
  rintro en w' ⟨hg, ⟨b, v, hb, _⟩ | ⟨_, hp⟩⟩
  · rw [ho] at hb; cases hb
  · exact ⟨hp, hg⟩
theorem wf_i64 {n : Int} (h1 : -9223372036854775808 ≤ n) (h2 : n < 9223372036854775808) : (Lit.int .i64 n).wf = true := by
  have e1 : IntKind.min .i64 = -9223372036854775808 := by decide
  have e2 : IntKind.max .i64 = 9223372036854775807 := by decide
  unfold Lit.wf
  rw [Bool.and_eq_true, decide_eq_true_eq, decide_eq_true_eq, e1, e2]
  omega
/-- ints in a row of the call's own -/
def OwnI (b : Nat) (w : World) (A : Option Addr) (l : List Int) (c : Nat) : Prop := w.ownsRow b 3 1 (.slice A l.length c) l.length (l.map (Value.int .i64))
theorem Rd.leb {S : Nat → Prop} {w : World} {g : Nat} {l : List LVal} (h : Rd S w g l) : l.length * 16 ≤ 140737488351232 := by
  obtain ⟨A, c, _, s, _⟩ := h
  exact s.leb
/-- an index and its state: what is answered -/
def valX (S : Nat → Prop) (w : World) (p : LIx × LSt) (v : Value) : Prop :=
  ∃ C c D d, v = .tuple #[.agg #[.string p.1.name, .slice C p.1.cols.length c, .bool p.1.uniq], .agg #[.int .i64 p.2.phase, .slice D p.2.cur.length d]] ∧
    (Is w C p.1.cols ∧ At S C p.1.cols.length ∧ p.1.cols.length * 8 ≤ 140737488351232 ∧ p.1.name.size ≤ 140737488351232) ∧ Bs w D p.2.cur ∧ At S D p.2.cur.length ∧ p.2.cur.length ≤ d ∧ d ≤ 9223372036854775807
theorem rdNs_pos {j : Int} (h : 0 < j) (l : List LVal) : rdNs j.toNat l = (rdI l).bind fun a => (rdNs (j - 1).toNat a.2).bind fun b => some (a.1 :: b.1, b.2) := by
  obtain ⟨n, rfl⟩ : ∃ n : Nat, j = n + 1 := ⟨(j - 1).toNat, by omega⟩
  rw [show ((n : Int) + 1).toNat = n + 1 by omega, show ((n : Int) + 1 - 1).toNat = n by omega]
  rfl
theorem rdNs_neg {j : Int} (h : ¬ 0 < j) (l : List LVal) : rdNs j.toNat l = some ([], l) := by
  rw [show j.toNat = 0 by omega]; rfl
theorem results_cell_cell {fn : Func} {p q : Tmp} {ty tz : TypeId} (h : fn.results = #[.cell p ty, .cell q tz]) (tmps : Array Value) (P : Program) (w : World) :
    (results fn tmps).run P w =
      ((asAddr (tmps.getD p undef)).run P w).andThen fun a w₁ => ((loadVar ty a).run P w₁).andThen fun v w₂ => ((asAddr (tmps.getD q undef)).run P w₂).andThen fun a2 w₃ => ((loadVar tz a2).run P w₃).andThen fun v2 w₄ => .ok (.tuple #[v, v2]) w₄ := by
  simp only [results, h]
  simp [Sem.run_bind, Result.andThen]
theorem results_cc {P : Program} {fn : Func} {p q : Tmp} {ty tz : TypeId} (h : fn.results = #[.cell p ty, .cell q tz]) {tmps : Array Value} {w : World} {g1 g2 : Nat} {t1 t2 : TypeId} {cs ds : Array Value} {d1 d2 : TypeDesc}
    (hp : tmps.getD p undef = .pointer (some ⟨g1, 0, none⟩)) (hq : tmps.getD q undef = .pointer (some ⟨g2, 0, none⟩)) (hb : Blk w g1 t1 cs) (hb2 : Blk w g2 t2 ds)
    (hu : P.underlying ty = some d1) (hd : (match d1 with | .struct _ | .array _ _ => true | _ => false) = true) (hi : (P.info? ty).map (·.size) = some cs.size)
    (hu2 : P.underlying tz = some d2) (hd2 : (match d2 with | .struct _ | .array _ _ => true | _ => false) = true) (hi2 : (P.info? tz).map (·.size) = some ds.size) :
    (results fn tmps).run P w = .ok (.tuple #[.agg cs, .agg ds]) w := by
  rw [results_cell_cell h, hp, hq]
  simp [asAddr, run_loadVar_row w g1 t1 ty cs (0, 0) d1 hb hu hd hi, run_loadVar_row w g2 t2 tz ds (0, 0) d2 hb2 hu2 hd2 hi2, Result.andThen]
theorem Try.size_IxR : (Try.prog.info? 55).map (·.size) = some 3 := by kernel_rfl
theorem Try.size_StR : (Try.prog.info? 57).map (·.size) = some 2 := by kernel_rfl
theorem Try.infoInt : (Try.prog.info? 3).map (fun i => (i.zero, i.size, i.bytes)) = some (some (.int .i64 0), 1, 8) := by kernel_rfl
set_option maxRecDepth 100000 in
set_option maxHeartbeats 4000000 in
theorem rindex_any (S : Nat → Prop) (g : Nat) (l : List LVal) (w : World) (h : Rd S w g l) : Calls Try.prog 51 #[.pointer (some ⟨g, 0, none⟩)] w (RetR S (rdX l) (valX (fun b => S b ∨ w.heap.size ≤ b)) g w) := by
  obtain ⟨i1, hi1, hy0, hy1, hy2⟩ := info_parts Try.infoInt
  have b0 : Below w.heap.size w ((w.alloc (.cells #[.string ⟨#[]⟩, .slice none 0 0, .bool false] 55)).alloc (.cells #[.int .i64 0, .slice none 0 0] 57)) := ((Below.refl _ _).alloc (Nat.le_refl _) _).alloc (by simp) _
  have k2 := (Blk.new w 55 #[.string ⟨#[]⟩, .slice none 0 0, .bool false]).alloc (.cells #[.int .i64 0, .slice none 0 0] 57)
  have k3 := Blk.new2 w (.cells #[.string ⟨#[]⟩, .slice none 0 0, .bool false] 55) 57 #[.int .i64 0, .slice none 0 0]
  have hgl := h.lt
  have hne := h.ne
  have hlb := h.leb
  have h0 := h.old.below b0
  have g0 := grownOf b0 (some g)
  have HNE := Lib.hid hne
  clear hne h
  go_enter Try.func51, Try.ntmps51
  go_wp2_with fail
  generalize ((w.alloc (.cells #[.string ⟨#[]⟩, .slice none 0 0, .bool false] 55)).alloc (.cells #[.int .i64 0, .slice none 0 0] 57)) = W0 at *
  have lk3 := k3.lt
  cases ht1 : rdT l with
  | none =>
    have HO : Hid (rdX l = none) := by show _ = _; unfold rdX; rw [ht1]; rfl
    refine (RetR.no_ (rtext_any _ g l W0 h0) ht1).mono ?_
    rintro en w1 ⟨⟨u, pv, rfl⟩, hg1⟩
    exact ⟨rfl, g0.trans hg1, .inr ⟨HO.out, _, _, rfl⟩⟩
  | some a1 =>
  have HR1 : Hid (rdX l = (rdB a1.2).bind fun b => (rdI b.2).bind fun c => (rdNs c.1.toNat c.2).bind fun d => (rdI d.2).bind fun e => (rdY e.2).bind fun f => some ((⟨a1.1, d.1, b.1⟩, ⟨e.1, f.1⟩), f.2)) := by show _ = _; unfold rdX; rw [ht1]; rfl
  have T1 := RetR.ok_ (rtext_any _ g l W0 h0) ht1
  have hl1 : a1.2.length + 1 = l.length := by rw [rdT_lt ht1, List.length_cons]
  clear ht1
  refine T1.mono ?_
  clear T1
  rintro en w1 ⟨v1, rfl, ⟨rfl, hsz⟩, h1, hg1⟩
  have k21 := k2.grown hg1 (by intro e; have := Option.some.inj e; omega)
  have k31 := k3.grown hg1 (by intro e; have := Option.some.inj e; omega)
  have gg1 := g0.trans hg1
  clear h0 g0 hg1 b0 k2 k3
  go_wp2_with fail
  cases ht2 : rdB a1.2 with
  | none =>
    have HO : Hid (rdX l = none) := by show _ = _; rw [HR1.out, ht2]; rfl
    refine (RetR.no_ (rtruth_any _ g a1.2 w1 h1) ht2).mono ?_
    rintro en w2 ⟨⟨u, pv, rfl⟩, hg2⟩
    exact ⟨rfl, gg1.trans hg2, .inr ⟨HO.out, _, _, rfl⟩⟩
  | some a2 =>
  have HR2 : Hid (rdX l = (rdI a2.2).bind fun c => (rdNs c.1.toNat c.2).bind fun d => (rdI d.2).bind fun e => (rdY e.2).bind fun f => some ((⟨a1.1, d.1, a2.1⟩, ⟨e.1, f.1⟩), f.2)) := by show _ = _; rw [HR1.out, ht2]; rfl
  have T2 := RetR.ok_ (rtruth_any _ g a1.2 w1 h1) ht2
  have hl2 : a2.2.length + 1 = a1.2.length := by rw [rdB_lt ht2, List.length_cons]
  clear ht2 HR1
  refine T2.mono ?_
  clear T2
  rintro en w2 ⟨v2, rfl, rfl, h2, hg2⟩
  have k22 := k21.grown hg2 (by intro e; have := Option.some.inj e; omega)
  have k32 := k31.grown hg2 (by intro e; have := Option.some.inj e; omega)
  have gg2 := gg1.trans hg2
  have z2 := gg2.size
  have lk2 := k32.lt
  have dX : Below w2.heap.size w2 (w2.alloc (.cells #[.string a1.1, .slice none 0 0, .bool a2.1] 55)) := (Below.refl _ _).alloc (Nat.le_refl _) _
  have kX := Blk.new w2 55 #[.string a1.1, .slice none 0 0, .bool a2.1]
  have k2X := k22.below dX k22.lt
  have k3X := k32.below dX k32.lt
  have hX := h2.below dX
  have ggX := gg2.trans (grownOf dX (some g))
  clear h1 hg2 gg1 k21 k31 h2 k22 k32 gg2 dX
  go_upto_region 2 with fail
  generalize (w2.alloc (.cells #[.string a1.1, .slice none 0 0, .bool a2.1] 55)) = X at *
  have lX := kX.lt
  go_wp2_with fail
  cases ht3 : rdI a2.2 with
  | none =>
    have HO : Hid (rdX l = none) := by show _ = _; rw [HR2.out, ht3]; rfl
    refine (RetR.no_ (rint_any _ g a2.2 X hX) ht3).mono ?_
    rintro en w3 ⟨⟨u, pv, rfl⟩, hg3⟩
    exact ⟨rfl, ggX.trans hg3, .inr ⟨HO.out, _, _, rfl⟩⟩
  | some a3 =>
  have HR3 : Hid (rdX l = (rdNs a3.1.toNat a3.2).bind fun d => (rdI d.2).bind fun e => (rdY e.2).bind fun f => some ((⟨a1.1, d.1, a2.1⟩, ⟨e.1, f.1⟩), f.2)) := by show _ = _; rw [HR2.out, ht3]; rfl
  have T3 := RetR.ok_ (rint_any _ g a2.2 X hX) ht3
  have hl3 : a3.2.length + 1 = a2.2.length := by rw [rdI_lt ht3, List.length_cons]
  clear ht3 HR2
  refine T3.mono ?_
  clear T3
  rintro en w3 ⟨v3, rfl, ⟨rfl, hn1, hn2⟩, h3, hg3⟩
  have kX3 := kX.grown hg3 (by intro e; have := Option.some.inj e; omega)
  have k23 := k2X.grown hg3 (by intro e; have := Option.some.inj e; omega)
  have k33 := k3X.grown hg3 (by intro e; have := Option.some.inj e; omega)
  have gg3 := ggX.trans hg3
  have z3 := hg3.size
  clear hX ggX hg3 kX k2X k3X
  go_wp2_with fail
  go_loopw [5] (fun i wr => ∃ (j : Int) (acc : List Int) (l' : List LVal) (C : Option Addr) (c : Nat), i = .int .i64 j ∧ j < 9223372036854775808 ∧ -9223372036854775808 ≤ j ∧ rdX l = (rdNs j.toNat l').bind (fun d => (rdI d.2).bind fun e => (rdY e.2).bind fun f => some ((⟨a1.1, acc ++ d.1, a2.1⟩, ⟨e.1, f.1⟩), f.2)) ∧ acc.length + l'.length ≤ l.length ∧ (∀ n ∈ acc, (Lit.int .i64 n).wf = true) ∧
    OwnI (w2.heap.size + 1) wr C acc c ∧ Blk wr w2.heap.size 55 #[.string a1.1, .slice C acc.length c, .bool a2.1] ∧ Blk wr w.heap.size 55 #[.string ⟨#[]⟩, .slice none 0 0, .bool false] ∧ Blk wr (w.heap.size + 1) 57 #[.int .i64 0, .slice none 0 0] ∧ Rd (fun b => S b ∧ b < w.heap.size) wr g l' ∧ w.grownBy wr (some g) ∧ w2.heap.size < wr.heap.size) (fun i _ => (intOf i).toNat)
  case atStart => exact ⟨a3.1, [], a3.2, none, 0, rfl, hn2, hn1, HR3.out, by rw [List.length_nil]; omega, fun n hn => absurd hn (by simp), World.ownsRow_nil _ _ _ _, kX3, k23, k33, h3, gg3, by omega⟩
  case round =>
    clear kX3 k23 k33 h3 gg3 HR3
    obtain ⟨j, acc, l', C, c, rfl, hj1, hj2, hrx, hal, hwf, oC, kx, kr, ks, hr, gg, zz⟩ := hrel
    have HRX := Lib.hid hrx
    have HWF := Lib.hid hwf
    clear hrx hwf
    by_cases hj : 0 < j
    · have dj : decide (0 < j) = true := decide_eq_true hj
      have hw : IntKind.i64.wrap (j - 1) = j - 1 := by
        simp only [IntKind.wrap]
        split <;> simp_all [IntKind.bits, IntKind.signed] <;> omega
      cases ht : rdI l' with
      | none =>
        have HO : Hid (rdX l = none) := by show _ = _; rw [HRX.out, rdNs_pos hj, ht]; rfl
        have T := RetR.no_ (rint_any _ g l' wr.drew (hr.drewN 1)) ht
        have hgd := gg.trans (grownOf ((Below.refl wr.heap.size wr).drew) (some g))
        have q1 : wr.drew.cell? ⟨w2.heap.size, 1, none⟩ = some (.slice C acc.length c) := kx.cell 1
        go_upto_region 5 with fail
        refine wp_region_any (by kernel_rfl) ?_
        try (change wpAny _ _ _ _ _ _ _ (World.drew _))
        refine wpAny_take (i := 0) (v := ?_) rfl (by kernel_rfl) (by kernel_rfl) (by kernel_rfl) (fun _ _ _ h => h) (Or.inl ⟨by rfl, ?_⟩) ?_
        case refine_2 => intro w; go_simp; try with_reducible rfl
        refine wpAny_take (i := 2) (v := ?_) rfl (by kernel_rfl) (by kernel_rfl) (by kernel_rfl) (fun _ _ _ h => h) (Or.inl ⟨by rfl, ?_⟩) ?_
        case refine_2 => intro w; go_simp; try with_reducible rfl
        refine wpAny_ready (rs := [1, 3]) (by kernel_rfl) (by simp) ?_
        refine AllReady.cons rfl (fun K hK => ?_) (AllReady.cons rfl (fun K hK => ?_) AllReady.nil)
        · go_simp
          refine hK _ _ ?_
          clear hK K
          refine wpAny_ready (rs := [3]) (by kernel_rfl) (by simp) ?_
          refine AllReady.cons rfl (fun K hK => ?_) AllReady.nil
          go_simp
          go_at_call 48
          refine T.mono ?_
          rintro en w6 ⟨⟨u, pv, rfl⟩, hg6⟩
          exact ⟨rfl, hgd.trans hg6, .inr ⟨HO.out, _, _, rfl⟩⟩
        · go_simp
          go_at_call 48
          refine T.mono ?_
          rintro en w6 ⟨⟨u, pv, rfl⟩, hg6⟩
          exact ⟨rfl, hgd.trans hg6, .inr ⟨HO.out, _, _, rfl⟩⟩
      | some a =>
        have HRX2 : Hid (rdX l = (rdNs (j - 1).toNat a.2).bind (fun d => (rdI d.2).bind fun e => (rdY e.2).bind fun f => some ((⟨a1.1, (acc ++ [a.1]) ++ d.1, a2.1⟩, ⟨e.1, f.1⟩), f.2))) := by
          show _ = _
          rw [HRX.out, rdNs_pos hj, ht]
          show ((rdNs (j - 1).toNat a.2).bind fun b => some (a.1 :: b.1, b.2)).bind _ = _
          cases rdNs (j - 1).toNat a.2 with
          | none => rfl
          | some d => show (rdI d.2).bind _ = (rdI d.2).bind _; rw [List.append_assoc]; rfl
        have T := RetR.ok_ (rint_any _ g l' wr.drew (hr.drewN 1)) ht
        have hla : a.2.length + 1 = l'.length := by rw [rdI_lt ht, List.length_cons]
        clear ht HRX
        have hgd := gg.trans (grownOf ((Below.refl wr.heap.size wr).drew) (some g))
        have q1 : wr.drew.cell? ⟨w2.heap.size, 1, none⟩ = some (.slice C acc.length c) := kx.cell 1
        have f1 : wr.drew.frozen? ⟨w2.heap.size, 1, none⟩ = false := kx.frozen 1
        have kxd : Blk wr.drew w2.heap.size 55 #[.string a1.1, .slice C acc.length c, .bool a2.1] := kx
        have krd : Blk wr.drew w.heap.size 55 #[.string ⟨#[]⟩, .slice none 0 0, .bool false] := kr
        have ksd : Blk wr.drew (w.heap.size + 1) 57 #[.int .i64 0, .slice none 0 0] := ks
        have oCd : wr.drew.ownsRow (w2.heap.size + 1) 3 1 (.slice C acc.length c) acc.length (acc.map (Value.int .i64)) := own_drew oC
        have zd : w2.heap.size < wr.drew.heap.size := zz
        have hClt : ∀ b, (Value.slice C acc.length c).ownBlock = some b → w2.heap.size + 1 ≤ b := fun b e => (World.ownsRow.lt oCd b e).1
        have HCL := Lib.hid hClt
        have hfin : ∀ w6 C9 c9 w7, -9223372036854775808 ≤ a.1 → a.1 < 9223372036854775808 → Rd (fun b => S b ∧ b < w.heap.size) w6 g a.2 → wr.drew.grownBy w6 (some g) → w7.ownsRow (w2.heap.size + 1) 3 1 (.slice C9 (acc.length + 1) c9) (acc.length + 1) (acc.map (Value.int .i64) ++ [.int .i64 a.1]) → (w6.alloc (.cells #[.int .i64 a.1] 3)).grownBy w7 (Value.slice C acc.length c).ownBlock →
            Blk w7 w2.heap.size 55 #[.string a1.1, .slice C acc.length c, .bool a2.1] → Blk w7 w.heap.size 55 #[.string ⟨#[]⟩, .slice none 0 0, .bool false] → Blk w7 (w.heap.size + 1) 57 #[.int .i64 0, .slice none 0 0] →
            ∃ W, W = w7.setCell ⟨w2.heap.size, 1, none⟩ (.slice C9 (acc.length + 1) c9) ∧ ∃ (j' : Int) (acc' : List Int) (l2 : List LVal) (C' : Option Addr) (c' : Nat), Value.int .i64 (j - 1) = .int .i64 j' ∧ j' < 9223372036854775808 ∧ -9223372036854775808 ≤ j' ∧ rdX l = (rdNs j'.toNat l2).bind (fun d => (rdI d.2).bind fun e => (rdY e.2).bind fun f => some ((⟨a1.1, acc' ++ d.1, a2.1⟩, ⟨e.1, f.1⟩), f.2)) ∧ acc'.length + l2.length ≤ l.length ∧ (∀ n ∈ acc', (Lit.int .i64 n).wf = true) ∧
    OwnI (w2.heap.size + 1) W C' acc' c' ∧ Blk W w2.heap.size 55 #[.string a1.1, .slice C' acc'.length c', .bool a2.1] ∧ Blk W w.heap.size 55 #[.string ⟨#[]⟩, .slice none 0 0, .bool false] ∧ Blk W (w.heap.size + 1) 57 #[.int .i64 0, .slice none 0 0] ∧ Rd (fun b => S b ∧ b < w.heap.size) W g l2 ∧ w.grownBy W (some g) ∧ w2.heap.size < W.heap.size := by
          intro w6 C9 c9 w7 hn1 hn2 h6 hg6 ho7 hg7 kx7 kr7 ks7
          have hs7 : w7.grownBy (w7.setCell ⟨w2.heap.size, 1, none⟩ (.slice C9 (acc.length + 1) c9)) (some w2.heap.size) := only_setCell (World.grownBy.refl w7 _) (p := ⟨w2.heap.size, 1, none⟩) (.inl rfl) _
          have d6 : Below w6.heap.size w6 (w6.alloc (.cells #[.int .i64 a.1] 3)) := (Below.refl _ _).alloc (Nat.le_refl _) _
          have r1 := h6.below d6
          have r2 := r1.grown hg7 (by intro e; have := HCL.out _ e.symm; omega) (fun b hb e => by have := HCL.out _ e; have := hb.2; omega)
          have r3 := r2.grown hs7 (by intro e; have := Option.some.inj e; omega) (fun b hb e => by have := Option.some.inj e; have := hb.2; omega)
          have hl9 : (acc ++ [a.1]).length = acc.length + 1 := by rw [List.length_append, List.length_singleton]
          have zs := hs7.size
          have z7 := hg7.size
          have z6 := hg6.size
          have zd6 := d6.size
          refine ⟨_, rfl, j - 1, acc ++ [a.1], a.2, C9, c9, rfl, by omega, by omega, HRX2.out, by rw [hl9]; omega, fun n hn => ?_, ?_, ?_, kr7.far (by show w.heap.size ≠ w2.heap.size; omega) _, ks7.far (by show w.heap.size + 1 ≠ w2.heap.size; omega) _, r3, ?_, by omega⟩
          · rcases List.mem_append.1 hn with hn | hn
            · exact HWF.out n hn
            · rw [List.mem_singleton.1 hn]
              exact wf_i64 hn1 hn2
          · show World.ownsRow _ _ _ 1 (.slice C9 (acc ++ [a.1]).length c9) (acc ++ [a.1]).length ((acc ++ [a.1]).map _)
            rw [hl9, List.map_append]
            exact World.ownsRow.kept ho7 hs7 (.inr (fun e => by have := (World.ownsRow.lt ho7 _ e).1; omega))
          · rw [hl9]
            exact kx7.set_ 1 _
          · refine ((((hgd.trans hg6).trans (grownOf d6 _)).andThen hg7 (fun j e => by have := HCL.out _ e; omega)).andThen hs7 (fun j e => by have := Option.some.inj e; omega))
        have HFIN := Lib.hid hfin
        clear hfin HRX2
        go_upto_region 5 with fail
        go_region_law (first
          | (go_simp; go_at_call 48; refine T.mono ?_; rintro en w6 ⟨v6, rfl, ⟨rfl, hn61, hn62⟩, h6, hg6⟩; have z6 := hg6.size; have kx6 := kxd.grown hg6 (by intro e; have := Option.some.inj e; omega); have kr6 := krd.grown hg6 (by intro e; have := Option.some.inj e; omega); have ks6 := ksd.grown hg6 (by intro e; have := Option.some.inj e; omega); have q16 : w6.cell? ⟨w2.heap.size, 1, none⟩ = some (.slice C acc.length c) := kx6.cell 1; have oC6 : (w6.alloc (.cells #[.int .i64 a.1] 3)).ownsRow (w2.heap.size + 1) 3 1 (.slice C acc.length c) acc.length (acc.map (Value.int .i64)) := (World.ownsRow.kept oCd hg6 (.inr (fun e => by have := HCL.out _ e; omega))).alloc _; have kx6a := kx6.alloc (.cells #[.int .i64 a.1] 3); have kr6a := kr6.alloc (.cells #[.int .i64 a.1] 3); have ks6a := ks6.alloc (.cells #[.int .i64 a.1] 3); have q16a : (w6.alloc (.cells #[.int .i64 a.1] 3)).cell? ⟨w2.heap.size, 1, none⟩ = some (.slice C acc.length c) := kx6a.cell 1; have hRd : Reads (w6.alloc (.cells #[.int .i64 a.1] 3)) (w6.heap.size + 1) 1 (some ⟨w6.heap.size, 0, none⟩) 1 [.int .i64 a.1] := Reads.newN w6 [.int .i64 a.1] 3; have hone : ∀ u ∈ ([.int .i64 a.1] : List Value), u.oneCell' = true := (by intro u hu; simp at hu; subst hu; rfl); have hbas : w2.heap.size + 1 ≤ (w6.alloc (.cells #[.int .i64 a.1] 3)).heap.size := (by simp; omega))
          | (refine step_append_sh _ rfl (.tmp 18) (.tmp 21) _ rfl (w2.heap.size + 1) 3 i1 _ 1 8 Try.underlying53 hi1 hy0 hy1 hy2 rfl (by omega) _ acc.length (acc.map (Value.int .i64)) rfl oC6 (w6.heap.size + 1) _ 1 1 [.int .i64 a.1] rfl hRd hone (by simp only [maxLen]; omega) (by omega) hbas ?_; intro C9 c9 w7 hown7 hg7 hat7; have kx7 := kx6a.grown hg7 (Ne.symm (own_blk_ne oC6 kx6a (by decide))); have kr7 := kr6a.grown hg7 (Ne.symm (own_blk_ne oC6 kr6a (by decide))); have ks7 := ks6a.grown hg7 (Ne.symm (own_blk_ne oC6 ks6a (by decide))); have q17 : w7.cell? ⟨w2.heap.size, 1, none⟩ = some (.slice C acc.length c) := kx7.cell 1; have f17 := kx7.frozen 1))
        all_goals
          obtain ⟨W, hW, hrel2⟩ := HFIN.out w6 C9 c9 w7 hn61 hn62 h6 hg6 hown7 hg7 kx7 kr7 ks7
          have HREL := Lib.hid hrel2
          rw [← hW]
          clear hW hrel2
          go_wp2_with fail
          go_roundw
          case rel => exact HREL.out
          case measure => simp [intOf]; omega
    · have dj : decide (0 < j) = false := decide_eq_false hj
      have HRX3 : Hid (rdX l = (rdI l').bind fun e => (rdY e.2).bind fun f => some ((⟨a1.1, acc, a2.1⟩, ⟨e.1, f.1⟩), f.2)) := by
        show _ = _
        rw [HRX.out, rdNs_neg hj]
        show ((rdI l').bind fun e => (rdY e.2).bind fun f => some (((⟨a1.1, acc ++ [], a2.1⟩ : LIx), (⟨e.1, f.1⟩ : LSt)), f.2)) = _
        rw [List.append_nil]
      clear HRX
      have hgd := gg.trans (grownOf ((Below.refl wr.heap.size wr).drew) (some g))
      have kxd : Blk wr.drew w2.heap.size 55 #[.string a1.1, .slice C acc.length c, .bool a2.1] := kx
      have krd : Blk wr.drew w.heap.size 55 #[.string ⟨#[]⟩, .slice none 0 0, .bool false] := kr
      have ksd : Blk wr.drew (w.heap.size + 1) 57 #[.int .i64 0, .slice none 0 0] := ks
      have x0 : wr.drew.cell? ⟨w2.heap.size, 0, none⟩ = some (.string a1.1) := kxd.cell 0
      have x1 : wr.drew.cell? ⟨w2.heap.size, 1, none⟩ = some (.slice C acc.length c) := kxd.cell 1
      have x2 : wr.drew.cell? ⟨w2.heap.size, 2, none⟩ = some (.bool a2.1) := kxd.cell 2
      cases hi : rdI l' with
      | none =>
        have HO : Hid (rdX l = none) := by show _ = _; rw [HRX3.out, hi]; rfl
        have T := RetR.no_ (rint_any _ g l' wr.drew (hr.drewN 1)) hi
        clear HRX3 hi
        go_upto_region 6 with fail
        refine wp_region_any (by kernel_rfl) ?_
        try (change wpAny _ _ _ _ _ _ _ (World.drew _))
        refine wpAny_take (i := 1) (v := ?_) rfl (by kernel_rfl) (by kernel_rfl) (by kernel_rfl) (fun _ _ _ h => h) (Or.inl ⟨by rfl, ?_⟩) ?_
        case refine_2 => intro w; go_simp; try with_reducible rfl
        refine wpAny_take (i := 3) (v := ?_) rfl (by kernel_rfl) (by kernel_rfl) (by kernel_rfl) (fun _ _ _ h => h) (Or.inl ⟨by rfl, ?_⟩) ?_
        case refine_2 => intro w; go_simp; try with_reducible rfl
        refine wpAny_ready (rs := [0, 2]) (by kernel_rfl) (by simp) ?_
        refine AllReady.cons rfl (fun K hK => ?_) (AllReady.cons rfl (fun K hK => ?_) AllReady.nil)
        · go_simp
          refine hK _ _ ?_
          clear hK K
          refine wpAny_ready (rs := [2]) (by kernel_rfl) (by simp) ?_
          refine AllReady.cons rfl (fun K hK => ?_) AllReady.nil
          go_simp
          go_at_call 48
          refine T.mono ?_
          rintro en w6 ⟨⟨u, pv, rfl⟩, hg6⟩
          exact ⟨rfl, hgd.trans hg6, .inr ⟨HO.out, _, _, rfl⟩⟩
        · go_simp
          go_at_call 48
          refine T.mono ?_
          rintro en w6 ⟨⟨u, pv, rfl⟩, hg6⟩
          exact ⟨rfl, hgd.trans hg6, .inr ⟨HO.out, _, _, rfl⟩⟩
      | some e =>
        have T1 := RetR.ok_ (rint_any _ g l' wr.drew (hr.drewN 1)) hi
        have HRX4 : Hid (rdX l = (rdY e.2).bind fun f => some ((⟨a1.1, acc, a2.1⟩, ⟨e.1, f.1⟩), f.2)) := by show _ = _; rw [HRX3.out, hi]; rfl
        clear HRX3 hi
        cases hy : rdY e.2 with
        | none =>
          have HO : Hid (rdX l = none) := by show _ = _; rw [HRX4.out, hy]; rfl
          have t2 : ∀ w6, Rd (fun b => S b ∧ b < w.heap.size) w6 g e.2 → Calls Try.prog 62 #[.pointer (some ⟨g, 0, none⟩)] w6 fun en w' => Pan en ∧ w6.grownBy w' (some g) := fun w6 h => RetR.no_ (rbytes_any _ g e.2 w6 h) hy
          have T2 := Lib.hid t2
          clear HRX4 hy t2
          go_upto_region 6 with fail
          refine wp_region_any (by kernel_rfl) ?_
          try (change wpAny _ _ _ _ _ _ _ (World.drew _))
          refine wpAny_take (i := 1) (v := ?_) rfl (by kernel_rfl) (by kernel_rfl) (by kernel_rfl) (fun _ _ _ h => h) (Or.inl ⟨by rfl, ?_⟩) ?_
          case refine_2 => intro w; go_simp; try with_reducible rfl
          refine wpAny_take (i := 3) (v := ?_) rfl (by kernel_rfl) (by kernel_rfl) (by kernel_rfl) (fun _ _ _ h => h) (Or.inl ⟨by rfl, ?_⟩) ?_
          case refine_2 => intro w; go_simp; try with_reducible rfl
          refine wpAny_ready (rs := [0, 2]) (by kernel_rfl) (by simp) ?_
          refine AllReady.cons rfl (fun K hK => ?_) (AllReady.cons rfl (fun K hK => ?_) AllReady.nil)
          · go_simp
            refine hK _ _ ?_
            clear hK K
            refine wpAny_ready (rs := [2]) (by kernel_rfl) (by simp) ?_
            refine AllReady.cons rfl (fun K hK => ?_) AllReady.nil
            go_simp
            go_at_call 48
            refine T1.mono ?_
            rintro en w6 ⟨v6, rfl, ⟨rfl, -, -⟩, h6, hg6⟩
            try go_simp
            refine hK _ _ ?_
            clear hK K
            refine wpAny_ready (rs := [4]) (by kernel_rfl) (by simp) ?_
            refine AllReady.cons rfl (fun K hK => ?_) AllReady.nil
            go_simp
            go_at_call 62
            refine (T2.out w6 h6).mono ?_
            rintro en w7 ⟨⟨u, pv, rfl⟩, hg7⟩
            exact ⟨rfl, (hgd.trans hg6).trans hg7, .inr ⟨HO.out, _, _, rfl⟩⟩
          · go_simp
            go_at_call 48
            refine T1.mono ?_
            rintro en w6 ⟨v6, rfl, ⟨rfl, -, -⟩, h6, hg6⟩
            try go_simp
            refine hK _ _ ?_
            clear hK K
            have kx6 := kxd.grown hg6 (by intro e; have := Option.some.inj e; omega)
            have x60 : w6.cell? ⟨w2.heap.size, 0, none⟩ = some (.string a1.1) := kx6.cell 0
            have x61 : w6.cell? ⟨w2.heap.size, 1, none⟩ = some (.slice C acc.length c) := kx6.cell 1
            have x62 : w6.cell? ⟨w2.heap.size, 2, none⟩ = some (.bool a2.1) := kx6.cell 2
            refine wpAny_ready (rs := [0, 4]) (by kernel_rfl) (by simp) ?_
            refine AllReady.cons rfl (fun K hK => ?_) (AllReady.cons rfl (fun K hK => ?_) AllReady.nil)
            · go_simp
              refine hK _ _ ?_
              clear hK K
              refine wpAny_ready (rs := [4]) (by kernel_rfl) (by simp) ?_
              refine AllReady.cons rfl (fun K hK => ?_) AllReady.nil
              go_simp
              go_at_call 62
              refine (T2.out w6 h6).mono ?_
              rintro en w7 ⟨⟨u, pv, rfl⟩, hg7⟩
              exact ⟨rfl, (hgd.trans hg6).trans hg7, .inr ⟨HO.out, _, _, rfl⟩⟩
            · go_simp
              go_at_call 62
              refine (T2.out w6 h6).mono ?_
              rintro en w7 ⟨⟨u, pv, rfl⟩, hg7⟩
              exact ⟨rfl, (hgd.trans hg6).trans hg7, .inr ⟨HO.out, _, _, rfl⟩⟩
        | some f =>
          have t2 : ∀ w6, Rd (fun b => S b ∧ b < w.heap.size) w6 g e.2 → Calls Try.prog 62 #[.pointer (some ⟨g, 0, none⟩)] w6 fun en w' => ∃ v, en = .returned v ∧ valY (fun b => S b ∧ b < w.heap.size) w' f.1 v ∧ Rd (fun b => S b ∧ b < w.heap.size) w' g f.2 ∧ w6.grownBy w' (some g) := fun w6 h => RetR.ok_ (rbytes_any _ g e.2 w6 h) hy
          have T2 := Lib.hid t2
          have HOK : Hid (rdX l = some ((⟨a1.1, acc, a2.1⟩, ⟨e.1, f.1⟩), f.2)) := by show _ = _; rw [HRX4.out, hy]; rfl
          clear HRX4 hy t2
          go_upto_region 6 with fail
          go_region_law (first
            | (go_simp; go_at_call 48; refine T1.mono ?_; rintro en w6 ⟨v6, rfl, ⟨rfl, -, -⟩, h6, hg6⟩; have z6 := hg6.size; have kx6 := kxd.grown hg6 (by intro e; have := Option.some.inj e; omega); have kr6 := krd.grown hg6 (by intro e; have := Option.some.inj e; omega); have ks6 := ksd.grown hg6 (by intro e; have := Option.some.inj e; omega); have x60 : w6.cell? ⟨w2.heap.size, 0, none⟩ = some (.string a1.1) := kx6.cell 0; have x61 : w6.cell? ⟨w2.heap.size, 1, none⟩ = some (.slice C acc.length c) := kx6.cell 1; have x62 : w6.cell? ⟨w2.heap.size, 2, none⟩ = some (.bool a2.1) := kx6.cell 2; have T7 := T2.out w6 h6; skip)
            | (go_simp; go_at_call 62; refine T7.mono ?_; rintro en w7 ⟨v7, rfl, ⟨D, d, rfl, hD⟩, h7, hg7⟩; have z7 := hg7.size; have kx7 := kx6.grown hg7 (by intro e; have := Option.some.inj e; omega); have kr7 := kr6.grown hg7 (by intro e; have := Option.some.inj e; omega); have ks7 := ks6.grown hg7 (by intro e; have := Option.some.inj e; omega); have x70 : w7.cell? ⟨w2.heap.size, 0, none⟩ = some (.string a1.1) := kx7.cell 0; have x71 : w7.cell? ⟨w2.heap.size, 1, none⟩ = some (.slice C acc.length c) := kx7.cell 1; have x72 : w7.cell? ⟨w2.heap.size, 2, none⟩ = some (.bool a2.1) := kx7.cell 2; have r70 : w7.cell? ⟨w.heap.size, 0, none⟩ = some (.string ⟨#[]⟩) := kr7.cell 0; have r71 : w7.cell? ⟨w.heap.size, 1, none⟩ = some (.slice none 0 0) := kr7.cell 1; have r72 : w7.cell? ⟨w.heap.size, 2, none⟩ = some (.bool false) := kr7.cell 2; have rf0 := kr7.frozen 0; have rf1 := kr7.frozen 1; have rf2 := kr7.frozen 2; have s70 : w7.cell? ⟨w.heap.size + 1, 0, none⟩ = some (.int .i64 0) := ks7.cell 0; have s71 : w7.cell? ⟨w.heap.size + 1, 1, none⟩ = some (.slice none 0 0) := ks7.cell 1; have sf0 := ks7.frozen 0; have sf1 := ks7.frozen 1; skip))
          all_goals
            have hF : ∀ W1 W, W1 = ((w7.setCell ⟨w.heap.size, 0, none⟩ (.string a1.1)).setCell ⟨w.heap.size, 1, none⟩ (.slice C acc.length c)).setCell ⟨w.heap.size, 2, none⟩ (.bool a2.1) → W = (W1.setCell ⟨w.heap.size + 1, 0, none⟩ (.int .i64 e.1)).setCell ⟨w.heap.size + 1, 1, none⟩ (.slice D f.1.length d) →
                Blk W w.heap.size 55 #[.string a1.1, .slice C acc.length c, .bool a2.1] ∧ Blk W (w.heap.size + 1) 57 #[.int .i64 e.1, .slice D f.1.length d] ∧ RetR S (rdX l) (valX (fun b => S b ∨ w.heap.size ≤ b)) g w (.returned (.tuple #[.agg #[.string a1.1, .slice C acc.length c, .bool a2.1], .agg #[.int .i64 e.1, .slice D f.1.length d]])) W := by
              intro W1 W hW1 hW
              have g1 : w7.grownBy W1 (some w.heap.size) := by rw [hW1]; exact only_setCell (p := ⟨w.heap.size, 2, none⟩) (only_setCell (p := ⟨w.heap.size, 1, none⟩) (only_setCell (World.grownBy.refl w7 _) (p := ⟨w.heap.size, 0, none⟩) (.inl rfl) _) (.inl rfl) _) (.inl rfl) _
              have g2 : W1.grownBy W (some (w.heap.size + 1)) := by rw [hW]; exact only_setCell (p := ⟨w.heap.size + 1, 1, none⟩) (only_setCell (World.grownBy.refl W1 _) (p := ⟨w.heap.size + 1, 0, none⟩) (.inl rfl) _) (.inl rfl) _
              have kr1 : Blk W1 w.heap.size 55 #[.string a1.1, .slice C acc.length c, .bool a2.1] := by rw [hW1]; exact ((kr7.set_ 0 _).set_ 1 _).set_ 2 _
              have krW := kr1.grown g2 (by intro e; have := Option.some.inj e; omega)
              have ks1 := ks7.grown g1 (by intro e; have := Option.some.inj e; omega)
              have ksW : Blk W (w.heap.size + 1) 57 #[.int .i64 e.1, .slice D f.1.length d] := by rw [hW]; exact (ks1.set_ 0 _).set_ 1 _
              have oCd : wr.drew.ownsRow (w2.heap.size + 1) 3 1 (.slice C acc.length c) acc.length (acc.map (Value.int .i64)) := own_drew oC
              have hne : ∀ b, b ≤ w2.heap.size → (Value.slice C acc.length c).ownBlock ≠ some b := fun b hb e => by have := (World.ownsRow.lt oCd b e).1; omega
              have o6 := World.ownsRow.kept oCd hg6 (.inr (hne g (by omega)))
              have o7 := World.ownsRow.kept o6 hg7 (.inr (hne g (by omega)))
              have o1 := World.ownsRow.kept o7 g1 (.inr (hne _ (by omega)))
              have oW := World.ownsRow.kept o1 g2 (.inr (hne _ (by omega)))
              have r1 := h7.grown g1 (by intro e; have := Option.some.inj e; omega) (fun b hb e => by have := Option.some.inj e; have := hb.2; omega)
              have rW := r1.grown g2 (by intro e; have := Option.some.inj e; omega) (fun b hb e => by have := Option.some.inj e; have := hb.2; omega)
              obtain ⟨hD1, hD2, hD3⟩ := hD
              have d1 := hD1.sameS hD2 (.of_grown g1 (fun b hb e => by have := Option.some.inj e; have := hb.2; omega))
              have dW := d1.sameS hD2 (.of_grown g2 (fun b hb e => by have := Option.some.inj e; have := hb.2; omega))
              refine ⟨krW, ksW, (((hgd.trans hg6).trans hg7).andThen g1 (fun j e => by have := Option.some.inj e; omega)).andThen g2 (fun j e => by have := Option.some.inj e; omega), .inl ⟨((⟨a1.1, acc, a2.1⟩, ⟨e.1, f.1⟩), f.2), _, HOK.out, rfl, ⟨C, c, D, d, rfl, ⟨Is.of_own oW (fun n hn => HWF.out n hn), fun ad e hn => ?_, by show acc.length * 8 ≤ _; omega, hsz⟩, dW, fun ad e hn => .inl (hD2 ad e hn).1, hD3⟩, rW.mono (fun b _ hb => hb.1) (fun b hb => HNE.out b hb)⟩⟩
              have := (own_at oW ad e hn).1
              exact .inr (by omega)
            obtain ⟨kA, kB, hR⟩ := hF _ _ rfl rfl
            have HR := Lib.hid hR
            clear hF hR
            go_wp2_with fail
            exact bodyPost_ret (results_cc rfl rfl rfl kA kB Try.underlying55 rfl Try.size_IxR Try.underlying57 rfl Try.size_StR) rfl HR.out
end Go.Proofs.Ytemidaamnldjmaa
