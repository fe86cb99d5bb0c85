/- One index more: the reference's Add. -/
import Derived.Test.YtkmigfponoagnaaAdd
import Derived.Test.YtkmigfponoagnaaRCat
import Derived.Deep.RegionLaw
namespace Go.Proofs.Ytkmigfponoagnaa
open Go.RowKit

theorem own_empty {X : World} {g base size : Nat} {t : TypeId} (h : Blk X g t #[]) (hb : base ≤ g) : X.ownsRow base t size (.slice (some ⟨g, 0, none⟩) 0 0) 0 [] :=
  ⟨by simp, .inr ⟨g, 0, #[], rfl, hb, h, by omega, by simp [maxLen], by simp, by simp⟩⟩
theorem Reads.of_blk {w : World} {g n : Nat} {t : TypeId} {vs : List Value} (h : Blk w g t vs.toArray) (hn : vs.length = n) : Reads w w.heap.size n (some ⟨g, 0, none⟩) 1 vs :=
  ⟨by omega, fun _ => ⟨_, rfl, h.lt, fun j u hu => by rw [add_row, h.cell]; simpa using hu⟩⟩
theorem Blk.new2 (w : World) (A : Obj) (t : TypeId) (cs : Array Value) : Blk ((w.alloc A).alloc (.cells cs t)) (w.heap.size + 1) t cs := heap_alloc2_new w A _
theorem step_append_one {P : Program} (w : World) {ops : Array Oper} {o : Oper} {a : Act} {K : Act → World → Prop} {Q : Exit → Act → World → Prop} {E : Prop} (hgd : o.guard = none) (s x : Operand) (t : TypeId)
    (ho : o.op = .call { callee := .builtin .append, args := #[s, x], argTypes := #[t, t] })
    (base : Nat) (e : TypeId) (i : TypeInfo) (z : Value) (size bytes : Nat) (ht : P.underlying t = some (.slice e)) (hi : P.info? e = some i) (hz : i.zero = some z)
    (hsize : i.size = size) (hby : i.bytes = bytes) (hzs : z.cells.size = size) (hsz : 0 < size)
    (v : Value) (n : Nat) (xs : List Value) (hs : a.eval s = v) (hown : w.ownsRow base e size v n xs)
    (g c : Nat) (t' : TypeId) (news : List Value) (hx : a.eval x = .slice (some ⟨g, 0, none⟩) 1 c) (hr : Blk w g t' news.toArray) (hn : news.length = size) (h1 : ∀ u ∈ news, u.oneCell' = true)
    (h63 : n + 1 ≤ maxLen) (hbytes : (n + 1) * bytes ≤ 140737488355328) (hbase : base ≤ w.heap.size)
    (h : ∀ A' c' w', w'.ownsRow base e size (.slice A' (n + 1) c') (n + 1) (xs ++ news) → w.grownBy w' v.ownBlock → ((Value.slice A' (n + 1) c').ownBlock = v.ownBlock ∨ (Value.slice A' (n + 1) c').ownBlock = some w.heap.size) → K (a.put o.dst (.slice A' (n + 1) c')) w') :
    if Region.wanted o (yielded ops a.tmps) = true then Oper.wp P o a w K Q else E :=
  step_append_sh w hgd s x t ho base e i z size bytes ht hi hz hsize hby hzs hsz v n xs hs hown w.heap.size _ 1 c news hx (Reads.of_blk hr hn) h1 h63 hbytes hbase h
theorem Below.alloc_ {a w : World} (h : Below a.heap.size a w) (o : Obj) : Below a.heap.size a (w.alloc o) := h.alloc h.size o
theorem Below.grown_ {a w w' : World} {row : Option Nat} (h : Below a.heap.size a w) (hg : w.grownBy w' row) (hr : ∀ j, row = some j → a.heap.size ≤ j) : Below a.heap.size a w' := h.grown hg h.size hr
theorem le_own0 {a : World} {g c n : Nat} (h : a.heap.size ≤ g) : ∀ j, (Value.slice (some ⟨g, 0, none⟩) n c).ownBlock = some j → a.heap.size ≤ j := fun j hj => by
  have hq : g = j := Option.some.inj hj
  subst hq
  exact h
theorem ne_own0 {g g0 c n : Nat} (h : g ≠ g0) : some g ≠ (Value.slice (some ⟨g0, 0, none⟩) n c).ownBlock := fun e => h (Option.some.inj e)
theorem Below.call_ {a X w' : World} (h : Below a.heap.size a X) (b : Below X.heap.size X w') : Below a.heap.size a w' := h.trans (b.mono h.size)
theorem own_call {a X w' : World} {e : TypeId} {s n : Nat} {v : Value} {xs : List Value} (h : Below a.heap.size a X) (o : w'.ownsRow X.heap.size e s v n xs) : w'.ownsRow a.heap.size e s v n xs := own_mono o h.size
theorem Below.grownO {a X w' : World} {e : TypeId} {s n : Nat} {v : Value} {xs : List Value} (h : Below a.heap.size a X) (ho : X.ownsRow a.heap.size e s v n xs) (hg : X.grownBy w' v.ownBlock) : Below a.heap.size a w' := h.grown hg h.size (fun j hj => (ho.lt j hj).1)
theorem own_kept2 {X w' : World} {b b' : Nat} {e e' : TypeId} {s n s' n' : Nat} {v v' : Value} {xs xs' : List Value} (h : X.ownsRow b e s v n xs) (h' : X.ownsRow b' e' s' v' n' xs') (hg : X.grownBy w' v'.ownBlock) (hne : e ≠ e') : w'.ownsRow b e s v n xs := h.kept hg (own_own_ne h h' hne)
theorem own_drew {X : World} {b : Nat} {e : TypeId} {s n : Nat} {v : Value} {xs : List Value} (h : X.ownsRow b e s v n xs) : X.drew.ownsRow b e s v n xs := own_below h ((Below.refl _ _).drew)
theorem Blk.call_ {X w' : World} {g : Nat} {t : TypeId} {cs : Array Value} (h : Blk X g t cs) (b : Below X.heap.size X w') : Blk w' g t cs := h.below b h.lt
theorem Try.infoRState : (Try.prog.info? 69).map (fun i => (i.zero, i.size, i.bytes)) = some (some (.agg #[.int .i64 0, .slice none 0 0]), 2, 32) := by kernel_rfl
theorem Try.size_REntry : (Try.prog.info? 28).map (·.size) = some 6 := by kernel_rfl

set_option maxRecDepth 100000 in
set_option maxHeartbeats 4000000 in
theorem radd_any (e : LEnt) (x : LIx) (A B S C : Option Addr) (ca cb cs c : Nat) (w : World) (hA : Sl ColE w A e.tab.cols) (hB : Sl IxE w B e.tab.ixs) (hS : Sl StE w S e.sts) (hn : e.tab.name.size ≤ 140737488351232)
    (hC : Is w C x.cols) (hC8 : x.cols.length * 8 ≤ 140737488351232) (hxn : x.name.size ≤ 140737488351232) :
    Calls Try.prog 8 #[.agg #[.int .i64 e.tab.id, .string e.tab.name, .slice A e.tab.cols.length ca, .int .i64 e.tab.keys, .slice B e.tab.ixs.length cb, .slice S e.sts.length cs], .agg #[.string x.name, .slice C x.cols.length c, .bool x.uniq]] w (RetEnt (addE e x) w) := by
  obtain ⟨i0, hi0, hz0, hz1, hz2⟩ := info_parts Try.info_xclone
  obtain ⟨i1, hi1, hy0, hy1, hy2⟩ := info_parts Try.infoRState
  rcases e with ⟨⟨id, keys, tn, cols, ixs⟩, sts⟩
  rcases x with ⟨xn, xc, xu⟩
  simp only at hA hB hS hn hC hC8 hxn ⊢
  have b0 : Below w.heap.size w (((w.alloc (.cells #[.int .i64 id, .string tn, .slice A cols.length ca, .int .i64 keys, .slice B ixs.length cb, .slice S sts.length cs] 28)).alloc (.cells #[.string xn, .slice C xc.length c, .bool xu] 31)).alloc (.cells #[.int .i64 0, .string ⟨#[]⟩, .slice none 0 0, .int .i64 0, .slice none 0 0, .slice none 0 0] 28)) :=
    (((Below.refl _ _).alloc (Nat.le_refl _) _).alloc (by simp) _).alloc (by simp; omega) _
  have ke := ((Blk.new w 28 #[.int .i64 id, .string tn, .slice A cols.length ca, .int .i64 keys, .slice B ixs.length cb, .slice S sts.length cs]).alloc (.cells #[.string xn, .slice C xc.length c, .bool xu] 31)).alloc (.cells #[.int .i64 0, .string ⟨#[]⟩, .slice none 0 0, .int .i64 0, .slice none 0 0, .slice none 0 0] 28)
  have kx := (Blk.new (w.alloc (.cells #[.int .i64 id, .string tn, .slice A cols.length ca, .int .i64 keys, .slice B ixs.length cb, .slice S sts.length cs] 28)) 31 #[.string xn, .slice C xc.length c, .bool xu]).alloc (.cells #[.int .i64 0, .string ⟨#[]⟩, .slice none 0 0, .int .i64 0, .slice none 0 0, .slice none 0 0] 28)
  have kz := Blk.new ((w.alloc (.cells #[.int .i64 id, .string tn, .slice A cols.length ca, .int .i64 keys, .slice B ixs.length cb, .slice S sts.length cs] 28)).alloc (.cells #[.string xn, .slice C xc.length c, .bool xu] 31)) 28 #[.int .i64 0, .string ⟨#[]⟩, .slice none 0 0, .int .i64 0, .slice none 0 0, .slice none 0 0]
  have zWa : w.heap.size + 3 ≤ (((w.alloc (.cells #[.int .i64 id, .string tn, .slice A cols.length ca, .int .i64 keys, .slice B ixs.length cb, .slice S sts.length cs] 28)).alloc (.cells #[.string xn, .slice C xc.length c, .bool xu] 31)).alloc (.cells #[.int .i64 0, .string ⟨#[]⟩, .slice none 0 0, .int .i64 0, .slice none 0 0, .slice none 0 0] 28)).heap.size := by simp
  rw [show (w.alloc (.cells #[.int .i64 id, .string tn, .slice A cols.length ca, .int .i64 keys, .slice B ixs.length cb, .slice S sts.length cs] 28)).heap.size = w.heap.size + 1 by simp] at kx
  rw [show ((w.alloc (.cells #[.int .i64 id, .string tn, .slice A cols.length ca, .int .i64 keys, .slice B ixs.length cb, .slice S sts.length cs] 28)).alloc (.cells #[.string xn, .slice C xc.length c, .bool xu] 31)).heap.size = w.heap.size + 2 by simp] at kz
  go_enter Try.func8, Try.ntmps8
  go_wp2_with fail
  generalize (((w.alloc (.cells #[.int .i64 id, .string tn, .slice A cols.length ca, .int .i64 keys, .slice B ixs.length cb, .slice S sts.length cs] 28)).alloc (.cells #[.string xn, .slice C xc.length c, .bool xu] 31)).alloc (.cells #[.int .i64 0, .string ⟨#[]⟩, .slice none 0 0, .int .i64 0, .slice none 0 0, .slice none 0 0] 28)) = W0 at *
  have hA0 := hA.below b0
  have hB0 := hB.below b0
  have hS0 := hS.below b0
  refine (recheck_any id keys tn A B S ca cb cs cols ixs sts _ hA0.cols hB0.ixs hS0 hn hA0.cnames hB0.xnames).mono ?_
  rintro en w1 ⟨rfl, b1⟩
  have z1 := b1.size
  have b01 := b0.trans (b1.mono b0.size)
  have ke1 := ke.below b1 ke.lt
  have kx1 := kx.below b1 kx.lt
  have kz1 := kz.below b1 kz.lt
  clear hA0 hB0 hS0 ke kx kz
  have hchk : (⟨⟨id, keys, tn, cols, ixs⟩, sts⟩ : LEnt).check = entryI id keys tn cols ixs sts := rfl
  by_cases h0 : entryI id keys tn cols ixs sts = 0
  · obtain ⟨hle1, hle2, hle3⟩ := LEnt.check_le (hchk.trans h0)
    simp only at hle1 hle2 hle3
    have hle4 : sts.length ≤ ixs.length := Nat.le_of_eq hle3
    have hle5 : ixs.length ≤ sts.length := Nat.le_of_eq hle3.symm
    clear hle3
    have d0 : (entryI id keys tn cols ixs sts != 0) = false := by rw [h0]; rfl
    have HE : Hid (addE ⟨⟨id, keys, tn, cols, ixs⟩, sts⟩ ⟨xn, xc, xu⟩ = if checkI id keys tn cols (ixs ++ [⟨xn, xc, xu⟩]) ≠ 0 then (.zero, checkI id keys tn cols (ixs ++ [⟨xn, xc, xu⟩])) else
        if (⟨⟨id, keys, tn, cols, ixs⟩, sts⟩ : LEnt).busy = true then (.zero, 12) else (⟨⟨id, keys, tn, cols, ixs ++ [⟨xn, xc, xu⟩]⟩, sts ++ [⟨1, pfx id⟩]⟩, 0)) := by
      show _ = _; unfold addE; rw [if_neg (by rw [hchk, h0]; exact fun h => h rfl)]; rfl
    clear h0 hchk
    go_upto_region 4 with fail
    go_cut [7] (fun s7 wx => s7 = .bool (⟨⟨id, keys, tn, cols, ixs⟩, sts⟩ : LEnt).busy ∧ wx = w1)
    case first =>
      have q5 : w1.cell? ⟨w.heap.size, 5, none⟩ = some (.slice S sts.length cs) := ke1.cell 5
      rcases Nat.eq_zero_or_pos sts.length with hz | hp
      · have hb : (⟨⟨id, keys, tn, cols, ixs⟩, sts⟩ : LEnt).busy = false := by unfold LEnt.busy; rw [decide_eq_false (by simp only; omega)]; rfl
        have HB := Lib.hid hb
        have hz1 : ¬ (0 : Int) < (sts.length : Int) := by omega
        clear hb hz
        go_wp2_with fail
        go_meet
        case rel => exact ⟨(congrArg Value.bool HB.out).symm, rfl⟩
      · have hb : (⟨⟨id, keys, tn, cols, ixs⟩, sts⟩ : LEnt).busy = decide ((sts.getD (sts.length - 1) ⟨0, []⟩).phase ≠ 0) := by unfold LEnt.busy; rw [decide_eq_true (by simp only; omega), Bool.true_and]
        have HB := Lib.hid hb
        have hlt : sts.length - 1 < sts.length := by omega
        obtain ⟨ad, Ck, ck, rfl, _, c0, _⟩ := StE.at_ (hS.below b01) hlt
        have eg : sts.getD (sts.length - 1) ⟨0, []⟩ = sts[sts.length - 1] := by rw [List.getD_eq_getElem?_getD, List.getElem?_eq_getElem hlt]; rfl
        rw [eg] at HB
        clear eg hb
        generalize sts[sts.length - 1].phase = P at *
        have hzp : (0 : Int) < (sts.length : Int) := by omega
        have hi1 : (0 : Int) ≤ (sts.length : Int) - 1 := by omega
        have hi2 : (sts.length : Int) - 1 < (sts.length : Int) := by omega
        have hi3 : ((sts.length : Int) - 1).toNat = sts.length - 1 := by omega
        by_cases hP : P = 0
        · have d3 : (P != 0) = false := by rw [hP]; rfl
          have HB2 : Hid (decide (P ≠ 0) = false) := by show _ = _; rw [hP]; rfl
          clear hP
          go_wp2_with fail
          go_meet
          case rel => exact ⟨(congrArg Value.bool (HB.out.trans HB2.out)).symm, rfl⟩
        · have d3 : (P != 0) = true := by rw [bne_iff_ne]; exact hP
          have HB2 : Hid (decide (P ≠ 0) = true) := by show _ = _; exact decide_eq_true hP
          clear hP
          go_wp2_with fail
          go_meet
          case rel => exact ⟨(congrArg Value.bool (HB.out.trans HB2.out)).symm, rfl⟩
    case rest =>
      obtain ⟨rfl, rfl⟩ := hcut
      obtain ⟨vsB, hrB, hfB⟩ := SlS.reads hB.old
      have honeB := ER.flat_one hfB
      have lx := kx1.lt
      have le := ke1.lt
      have q4 : wc.cell? ⟨w.heap.size, 4, none⟩ = some (.slice B ixs.length cb) := ke1.cell 4
      have p0 : wc.cell? ⟨w.heap.size + 1, 0, none⟩ = some (.string xn) := kx1.cell 0
      have p1 : wc.cell? ⟨w.heap.size + 1, 1, none⟩ = some (.slice C xc.length c) := kx1.cell 1
      have p2 : wc.cell? ⟨w.heap.size + 1, 2, none⟩ = some (.bool xu) := kx1.cell 2
      have honeX : ∀ u ∈ ([.string xn, .slice C xc.length c, .bool xu] : List Value), u.oneCell' = true := by intro u hu; simp at hu; rcases hu with rfl | rfl | rfl <;> rfl
      go_upto_region 5 with fail
      have hfin : ∀ (w6 : World) (A6 : Option Addr) (c6 : Nat), Below wc.heap.size wc w6 → w6.ownsRow wc.heap.size 31 3 (.slice A6 (ixs.length + 1) c6) (ixs.length + 1) (vsB ++ [.string xn, .slice C xc.length c, .bool xu]) →
          (fun wx => ∃ B5 c5, Blk wx w.heap.size 28 #[.int .i64 id, .string tn, .slice A cols.length ca, .int .i64 keys, .slice B5 (ixs.length + 1) c5, .slice S sts.length cs] ∧
        Blk wx (w.heap.size + 2) 28 #[.int .i64 0, .string ⟨#[]⟩, .slice none 0 0, .int .i64 0, .slice none 0 0, .slice none 0 0] ∧
        SlS IxE wx (fun b => b ≠ w.heap.size ∧ b ≠ w.heap.size + 2) B5 (ixs ++ [⟨xn, xc, xu⟩]) ∧ Below w.heap.size w wx) (w6.setCell ⟨w.heap.size, 4, none⟩ (.slice A6 (ixs.length + 1) c6)) := by
        intro w6 A6 c6 b6 o6
        have b06 := b01.trans (b6.mono b01.size)
        have hz := b01.size
        have hs : Same (fun b => b ≠ w.heap.size) w6 (w6.setCell ⟨w.heap.size, 4, none⟩ (.slice A6 (ixs.length + 1) c6)) := .of_grown (row := some w.heap.size) (only_setCell (World.grownBy.refl w6 _) (p := ⟨w.heap.size, 4, none⟩) (.inl rfl) _) (fun b hb e => hb (Option.some.inj e).symm)
        have hfl : IxE.flat w6 (fun b => b < w.heap.size) (vsB ++ [.string xn, .slice C xc.length c, .bool xu]) (ixs ++ [⟨xn, xc, xu⟩]) :=
          ER.flat_snoc (ER.flat_keep b06 hfB) ⟨C, c, rfl, hC.below b06, Reads.atMono (S := fun b => b < w.heap.size) (hC.below b06).1 (fun ad e hn => by obtain ⟨ad', e', hb, _⟩ := hC.1.2 hn; obtain rfl := Option.some.inj (e.symm.trans e'); exact hb) (fun _ _ h => h), hC8, hxn⟩
        have hat := own_at o6
        refine ⟨A6, c6, (ke1.below b6 ke1.lt).set_ 4 _, (kz1.below b6 kz1.lt).far (by simp) _, SlS.mono (S := fun b => b ≠ w.heap.size ∧ b ≠ w.heap.size + 2) (SlS.same ⟨by simp [IxE]; omega, _, ?_, fun ad e hn => ?_, ER.flat_mono (fun b _ h => ⟨by omega, by omega⟩) hfl⟩ (hs.mono fun _ _ h => h.1)) (fun _ _ h => h), b06.setCell (by simp) _⟩
        · have := Reads.of_own o6
          rw [List.length_append]
          exact this
        · have := (hat ad e (by simp)).1
          have := kz1.lt
          exact ⟨by omega, by omega⟩
      have HFIN := Lib.hid hfin
      clear hfin
      go_cut [] (fun wx => ∃ B5 c5, Blk wx w.heap.size 28 #[.int .i64 id, .string tn, .slice A cols.length ca, .int .i64 keys, .slice B5 (ixs.length + 1) c5, .slice S sts.length cs] ∧
        Blk wx (w.heap.size + 2) 28 #[.int .i64 0, .string ⟨#[]⟩, .slice none 0 0, .int .i64 0, .slice none 0 0, .slice none 0 0] ∧
        SlS IxE wx (fun b => b ≠ w.heap.size ∧ b ≠ w.heap.size + 2) B5 (ixs ++ [⟨xn, xc, xu⟩]) ∧ Below w.heap.size w wx)
      case first =>
        go_region_law
          (first
            | (refine step_append_sh _ rfl (.tmp 30) (.tmp 33) _ rfl wc.heap.size 31 i0 _ 3 48 Try.underlying23 hi0 hz0 hz1 hz2 rfl (by omega) _ 0 [] rfl ?_ w.heap.size B ixs.length cb vsB rfl ?_ honeB (by simp only [maxLen]; omega) (by omega) ?_ ?_; (first | exact own_empty (Blk.drew (Blk.new _ _ _)) (Nat.le_refl _) | exact own_empty (Blk.drew ((Blk.new _ _ _).alloc _)) (Nat.le_refl _) | exact own_empty (Blk.drew (Blk.new2 _ _ _ _)) (Nat.le_succ _)); (refine hrB.below (b01.trans (Below.mono (B := wc.heap.size) ?_ b01.size)); (repeat (first | exact Below.refl _ _ | refine Below.drew ?_ | refine Below.alloc_ ?_ _))); (refine Below.size (B := wc.heap.size) ?_; (repeat (first | exact Below.refl _ _ | refine Below.drew ?_ | refine Below.alloc_ ?_ _))); intro A5 c5 w5 hown5 hg5 hat5; simp only [Nat.zero_add, List.nil_append] at hown5; have bb5 : Below wc.heap.size wc w5 := (by refine Below.grown_ ?_ hg5 (le_own0 ?_); (repeat (first | exact Below.refl _ _ | refine Below.drew ?_ | refine Below.alloc_ ?_ _)); (first | exact Nat.le_refl _ | exact Nat.le_succ _)); have y0 := (bb5.cell (p := ⟨w.heap.size + 1, 0, none⟩) lx).trans p0; have y1 := (bb5.cell (p := ⟨w.heap.size + 1, 1, none⟩) lx).trans p1; have y2 := (bb5.cell (p := ⟨w.heap.size + 1, 2, none⟩) lx).trans p2; have q45 := (bb5.cell (p := ⟨w.heap.size, 4, none⟩) le).trans q4; have zz5 := bb5.size; have f45 := (bb5.frozen (p := ⟨w.heap.size, 4, none⟩) le).trans (ke1.frozen 4))
            | (refine step_append_one _ rfl (.tmp 34) (.tmp 36) _ rfl wc.heap.size 31 i0 _ 3 48 Try.underlying23 hi0 hz0 hz1 hz2 rfl (by omega) _ ixs.length vsB rfl ?_ _ _ 31 [.string xn, .slice C xc.length c, .bool xu] rfl ?_ rfl honeX (by simp only [maxLen]; omega) (by omega) ?_ ?_; (first | exact hown5 | exact hown5.alloc _); (first | exact Blk.new w5 _ _ | exact (Blk.drew (Blk.new2 _ _ _ _)).grown hg5 (ne_own0 (Nat.succ_ne_self _)) | exact (Blk.drew ((Blk.new _ _ _).alloc _)).grown hg5 (ne_own0 (Nat.succ_ne_self _).symm) | exact (Blk.drew (Blk.new _ _ _)).grown hg5 (ne_own0 (Nat.succ_ne_self _).symm)); (first | exact bb5.size | (have := bb5.size; simp; omega)); intro A6 c6 w6 hown6 hg6 hat6; have bb6 : Below wc.heap.size wc w6 := (by refine Below.grown ?_ hg6 ?_ (fun j hj => (hown5.lt j hj).1); (first | exact bb5 | exact bb5.alloc bb5.size _); (first | exact bb5.size | (have := bb5.size; simp; omega))); have q46 := (bb6.cell (p := ⟨w.heap.size, 4, none⟩) le).trans q4; have f46 := (bb6.frozen (p := ⟨w.heap.size, 4, none⟩) le).trans (ke1.frozen 4)))
        all_goals
          go_wp2_with fail
          go_meet
          case rel => exact HFIN.out w6 A6 c6 bb6 hown6
      case rest =>
        obtain ⟨B5, c5, ke2, kz2, hB2, b02⟩ := hcut
        clear HFIN q4 p0 p1 p2 honeX honeB hfB hrB ke1 kx1 kz1 b01 lx le b0 zWa
        have hS2 := hS.old.below b02
        obtain ⟨vsS, hrS, hfS⟩ := SlS.reads hS2
        have honeS := ER.flat_one hfS
        have le2 := ke2.lt
        have lz2 := kz2.lt
        have z02 := b02.size
        have q5 : wc.cell? ⟨w.heap.size, 5, none⟩ = some (.slice S sts.length cs) := ke2.cell 5
        have e0 : wc.cell? ⟨w.heap.size, 0, none⟩ = some (.int .i64 id) := ke2.cell 0
        have e1 : wc.cell? ⟨w.heap.size, 1, none⟩ = some (.string tn) := ke2.cell 1
        have e2 : wc.cell? ⟨w.heap.size, 2, none⟩ = some (.slice A cols.length ca) := ke2.cell 2
        have e3 : wc.cell? ⟨w.heap.size, 3, none⟩ = some (.int .i64 keys) := ke2.cell 3
        have e4 : wc.cell? ⟨w.heap.size, 4, none⟩ = some (.slice B5 (ixs.length + 1) c5) := ke2.cell 4
        have f5 := ke2.frozen 5
        go_upto_region 6 with fail
        have hfin : ∀ (w7 : World) (S9 : Option Addr) (c9 : Nat) (A9 : Option Addr), Below wc.heap.size wc w7 → w7.ownsRow wc.heap.size 69 2 (.slice S9 (sts.length + 1) c9) (sts.length + 1) (vsS ++ [.int .i64 1, .slice A9 2 2]) →
            w7.ownsRow wc.heap.size 5 1 (.slice A9 2 2) 2 (([114, UInt8.ofInt id] : List UInt8).map bval) →
            (fun wx => ∃ S9 c9, Blk wx w.heap.size 28 #[.int .i64 id, .string tn, .slice A cols.length ca, .int .i64 keys, .slice B5 (ixs.length + 1) c5, .slice S9 (sts.length + 1) c9] ∧
              Blk wx (w.heap.size + 2) 28 #[.int .i64 0, .string ⟨#[]⟩, .slice none 0 0, .int .i64 0, .slice none 0 0, .slice none 0 0] ∧
              SlS IxE wx (fun b => b ≠ w.heap.size + 2) B5 (ixs ++ [⟨xn, xc, xu⟩]) ∧ SlS StE wx (fun b => b ≠ w.heap.size + 2) S9 (sts ++ [⟨1, pfx id⟩]) ∧ Below w.heap.size w wx) (w7.setCell ⟨w.heap.size, 5, none⟩ (.slice S9 (sts.length + 1) c9)) := by
          intro w7 S9 c9 A9 b7 o7 o9
          have b07 := b02.trans (b7.mono b02.size)
          have hs : Same (fun b => b ≠ w.heap.size) w7 (w7.setCell ⟨w.heap.size, 5, none⟩ (.slice S9 (sts.length + 1) c9)) := .of_grown (row := some w.heap.size) (only_setCell (World.grownBy.refl w7 _) (p := ⟨w.heap.size, 5, none⟩) (.inl rfl) _) (fun b hb e => hb (Option.some.inj e).symm)
          have hp : Bs w7 A9 (pfx id) := Bs.of_own (l := [114, UInt8.ofInt id]) o9 (by simp)
          have hap := own_at o9
          have hfl : StE.flat w7 (fun b => b ≠ w.heap.size ∧ b ≠ w.heap.size + 2) (vsS ++ [.int .i64 1, .slice A9 2 2]) (sts ++ [⟨1, pfx id⟩]) :=
            ER.flat_snoc (ER.flat_mono (fun b _ h => ⟨by omega, by omega⟩) (ER.flat_keep b7 hfS)) ⟨A9, 2, rfl, hp, fun ad e hn => (by have := (hap ad e (by decide)).1; exact ⟨by omega, by omega⟩), Nat.le_refl _, by decide⟩
          have hat := own_at o7
          refine ⟨S9, c9, (ke2.below b7 le2).set_ 5 _, (kz2.below b7 lz2).far (by simp) _, ((hB2.below b7).same (hs.mono fun _ _ h => h.1)).mono fun _ _ h => h.2, ?_, b07.setCell (by simp) _⟩
          refine SlS.mono (S := fun b => b ≠ w.heap.size ∧ b ≠ w.heap.size + 2) (SlS.same ⟨by simp [StE]; omega, _, ?_, fun ad e hn => ?_, hfl⟩ (hs.mono fun _ _ h => h.1)) (fun _ _ h => h.2)
          · have := Reads.of_own o7
            rw [List.length_append]
            exact this
          · have := (hat ad e (by simp)).1
            exact ⟨by omega, by omega⟩
        have HFIN := Lib.hid hfin
        clear hfin
        go_cut [] (fun wx => ∃ S9 c9, Blk wx w.heap.size 28 #[.int .i64 id, .string tn, .slice A cols.length ca, .int .i64 keys, .slice B5 (ixs.length + 1) c5, .slice S9 (sts.length + 1) c9] ∧
              Blk wx (w.heap.size + 2) 28 #[.int .i64 0, .string ⟨#[]⟩, .slice none 0 0, .int .i64 0, .slice none 0 0, .slice none 0 0] ∧
              SlS IxE wx (fun b => b ≠ w.heap.size + 2) B5 (ixs ++ [⟨xn, xc, xu⟩]) ∧ SlS StE wx (fun b => b ≠ w.heap.size + 2) S9 (sts ++ [⟨1, pfx id⟩]) ∧ Below w.heap.size w wx)
        case first =>
          go_region_law
            (first
              | (refine step_append_sh _ rfl (.tmp 40) (.tmp 42) _ rfl wc.heap.size 69 i1 _ 2 32 Try.underlying26 hi1 hy0 hy1 hy2 rfl (by omega) _ 0 [] rfl ?_ wc.heap.size S sts.length cs vsS rfl ?_ honeS (by simp only [maxLen]; omega) (by omega) ?_ ?_; (focus (refine own_empty ?_ ?_; (focus (repeat (first | exact Blk.new _ _ _ | exact Blk.new2 _ _ _ _ | refine Blk.drew ?_ | refine Blk.alloc ?_ _ | refine Blk.call_ ?_ b6 | refine Blk.grown ?_ hg5 (ne_own0 (by first | omega | (simp; omega)))))); (first | exact Nat.le_refl _ | exact Nat.le_succ _ | omega | (simp; omega)))); (refine hrS.below ?_; (focus (repeat (first | exact Below.refl _ _ | exact bb5 | exact bb6 | exact bb7 | refine Below.drew ?_ | refine Below.alloc_ ?_ _)))); (refine Below.size (B := wc.heap.size) ?_; (focus (repeat (first | exact Below.refl _ _ | exact bb5 | exact bb6 | exact bb7 | refine Below.drew ?_ | refine Below.alloc_ ?_ _)))); intro A5 c8 w5 hown5 hg5 hat5; simp only [Nat.zero_add, List.nil_append] at hown5; have bb5 : Below wc.heap.size wc w5 := (by refine Below.grownO (e := 69) (s := 2) (n := 0) (xs := []) ?_ ?_ hg5; (focus (repeat (first | exact Below.refl _ _ | exact bb5 | exact bb6 | exact bb7 | refine Below.drew ?_ | refine Below.alloc_ ?_ _))); (focus (refine own_empty ?_ ?_; (focus (repeat (first | exact Blk.new _ _ _ | exact Blk.new2 _ _ _ _ | refine Blk.drew ?_ | refine Blk.alloc ?_ _ | refine Blk.call_ ?_ b6 | refine Blk.grown ?_ hg5 (ne_own0 (by first | omega | (simp; omega)))))); (first | exact Nat.le_refl _ | exact Nat.le_succ _ | omega | (simp; omega))))); (try (have o95 : w5.ownsRow wc.heap.size 5 1 (.slice A9 2 2) 2 (([114, UInt8.ofInt id] : List UInt8).map bval) := (by refine own_kept2 (e' := 69) (s' := 2) (n' := 0) (xs' := []) (b' := wc.heap.size) ?_ ?_ hg5 (by decide); (focus (repeat (first | exact o96 | exact o95 | refine World.ownsRow.alloc ?_ _ | refine own_drew ?_))); (focus (refine own_empty ?_ ?_; (focus (repeat (first | exact Blk.new _ _ _ | exact Blk.new2 _ _ _ _ | refine Blk.drew ?_ | refine Blk.alloc ?_ _ | refine Blk.call_ ?_ b6 | refine Blk.grown ?_ hg5 (ne_own0 (by first | omega | (simp; omega)))))); (first | exact Nat.le_refl _ | exact Nat.le_succ _ | omega | (simp; omega))))))); have zz5 := bb5.size; have q55 := (bb5.cell (p := ⟨w.heap.size, 5, none⟩) le2).trans q5; have f55 := (bb5.frozen (p := ⟨w.heap.size, 5, none⟩) le2).trans f5; have y0 := (bb5.cell (p := ⟨w.heap.size, 0, none⟩) le2).trans e0; have y1 := (bb5.cell (p := ⟨w.heap.size, 1, none⟩) le2).trans e1; have y2 := (bb5.cell (p := ⟨w.heap.size, 2, none⟩) le2).trans e2; have y3 := (bb5.cell (p := ⟨w.heap.size, 3, none⟩) le2).trans e3; have y4 := (bb5.cell (p := ⟨w.heap.size, 4, none⟩) le2).trans e4)
              | (refine step_append_one _ rfl (.tmp 43) (.tmp 48) _ rfl wc.heap.size 69 i1 _ 2 32 Try.underlying26 hi1 hy0 hy1 hy2 rfl (by omega) _ sts.length vsS rfl ?_ _ _ 69 [.int .i64 1, .slice A9 2 2] rfl ?_ rfl (by intro u hu; simp at hu; rcases hu with rfl | rfl <;> rfl) (by simp only [maxLen]; omega) (by omega) ?_ ?_; (focus (repeat (first | exact hown5 | exact hown56 | refine World.ownsRow.alloc ?_ _ | refine own_drew ?_))); (focus (repeat (first | exact Blk.new _ _ _ | exact Blk.new2 _ _ _ _ | refine Blk.drew ?_ | refine Blk.alloc ?_ _ | refine Blk.call_ ?_ b6 | refine Blk.grown ?_ hg5 (ne_own0 (by first | omega | (simp; omega)))))); (refine Below.size (B := wc.heap.size) ?_; (focus (repeat (first | exact Below.refl _ _ | exact bb5 | exact bb6 | exact bb7 | refine Below.drew ?_ | refine Below.alloc_ ?_ _)))); intro S9 c9 w7 hown7 hg7 hat7; have bb7 : Below wc.heap.size wc w7 := (by refine Below.grownO (e := 69) (s := 2) (n := sts.length) (xs := vsS) ?_ ?_ hg7; (focus (repeat (first | exact Below.refl _ _ | exact bb5 | exact bb6 | exact bb7 | refine Below.drew ?_ | refine Below.alloc_ ?_ _))); (focus (repeat (first | exact hown5 | exact hown56 | refine World.ownsRow.alloc ?_ _ | refine own_drew ?_)))); have o97 : w7.ownsRow wc.heap.size 5 1 (.slice A9 2 2) 2 (([114, UInt8.ofInt id] : List UInt8).map bval) := (by refine own_kept2 (e' := 69) (s' := 2) (n' := sts.length) (xs' := vsS) (b' := wc.heap.size) ?_ ?_ hg7 (by decide); (focus (repeat (first | exact o96 | exact o95 | refine World.ownsRow.alloc ?_ _ | refine own_drew ?_))); (focus (repeat (first | exact hown5 | exact hown56 | refine World.ownsRow.alloc ?_ _ | refine own_drew ?_)))); have q57 := (bb7.cell (p := ⟨w.heap.size, 5, none⟩) le2).trans q5; have f57 := (bb7.frozen (p := ⟨w.heap.size, 5, none⟩) le2).trans f5)
              | (go_simp; go_at_call 29; refine (rprefix_any _ _ _ _ _ _ _ _ _ _).mono ?_; rintro en w6 ⟨A9, rfl, o9, b6⟩; have bb6 : Below wc.heap.size wc w6 := (by refine Below.call_ ?_ b6; (focus (repeat (first | exact Below.refl _ _ | exact bb5 | exact bb6 | exact bb7 | refine Below.drew ?_ | refine Below.alloc_ ?_ _)))); have o96 : w6.ownsRow wc.heap.size 5 1 (.slice A9 2 2) 2 (([114, UInt8.ofInt id] : List UInt8).map bval) := (by refine own_call ?_ o9; (focus (repeat (first | exact Below.refl _ _ | exact bb5 | exact bb6 | exact bb7 | refine Below.drew ?_ | refine Below.alloc_ ?_ _)))); (try (have hown56 : w6.ownsRow wc.heap.size 69 2 (.slice A5 sts.length c8) sts.length vsS := (by refine own_below ?_ b6; (focus (repeat (first | exact hown5 | exact hown56 | refine World.ownsRow.alloc ?_ _ | refine own_drew ?_)))))); have zz6 := bb6.size; have zb6 := b6.size; have q56 := (bb6.cell (p := ⟨w.heap.size, 5, none⟩) le2).trans q5; have f56 := (bb6.frozen (p := ⟨w.heap.size, 5, none⟩) le2).trans f5))
          all_goals
            go_wp2_with fail
            go_meet
            case rel => exact HFIN.out w7 S9 c9 A9 bb7 hown7 o97
        case rest =>
          obtain ⟨S9, c9, k79, kz9, hB9, hS9, b09⟩ := hcut
          have hA9 := hA.old.below b09
          clear HFIN honeS hfS hrS ke2 kz2 hB2 b02 q5 e0 e1 e2 e3 e4 f5 hS2 hA hB hS le2 lz2 z02
          have x0 : wc.cell? ⟨w.heap.size, 0, none⟩ = some (.int .i64 id) := k79.cell 0
          have x1 : wc.cell? ⟨w.heap.size, 1, none⟩ = some (.string tn) := k79.cell 1
          have x2 : wc.cell? ⟨w.heap.size, 2, none⟩ = some (.slice A cols.length ca) := k79.cell 2
          have x3 : wc.cell? ⟨w.heap.size, 3, none⟩ = some (.int .i64 keys) := k79.cell 3
          have x4 : wc.cell? ⟨w.heap.size, 4, none⟩ = some (.slice B5 (ixs.length + 1) c5) := k79.cell 4
          have t := rcheck_any id keys tn A B5 ca c5 cols (ixs ++ [⟨xn, xc, xu⟩]) wc hA9.any.cols hB9.any.ixs hn hA9.any.cnames hB9.any.xnames
          rw [show (ixs ++ [(⟨xn, xc, xu⟩ : LIx)]).length = ixs.length + 1 by simp] at t
          go_wp2_with fail
          refine t.mono ?_
          clear t x0 x1 x2 x3 x4
          rintro en w10 ⟨rfl, b10⟩
          have k710 := k79.below b10 k79.lt
          have kz10 := kz9.below b10 kz9.lt
          have b010 := b09.trans (b10.mono b09.size)
          have hgood : ∀ w12, w10.grownBy w12 (some (w.heap.size + 2)) → addE ⟨⟨id, keys, tn, cols, ixs⟩, sts⟩ ⟨xn, xc, xu⟩ = (⟨⟨id, keys, tn, cols, ixs ++ [⟨xn, xc, xu⟩]⟩, sts ++ [⟨1, pfx id⟩]⟩, 0) →
              RetEnt (addE ⟨⟨id, keys, tn, cols, ixs⟩, sts⟩ ⟨xn, xc, xu⟩) w (.returned (.tuple #[.agg #[.int .i64 id, .string tn, .slice A cols.length ca, .int .i64 keys, .slice B5 (ixs.length + 1) c5, .slice S9 (sts.length + 1) c9], .int .i64 0])) w12 := by
            intro w12 g12 hr
            rw [hr]
            have hs : Same (fun b => b ≠ w.heap.size + 2) w10 w12 := .of_grown g12 (fun b hb e => hb (Option.some.inj e).symm)
            refine ⟨_, rfl, ⟨A, B5, S9, ca, c5, c9, by simp, ?_, ?_, ?_, hn⟩, b010.grown g12 b010.size (fun j hj => by have := Option.some.inj hj; omega)⟩
            · exact ((hA9.below b10).same (hs.mono fun b _ h => by omega)).any
            · exact ((hB9.below b10).same hs).any
            · exact ((hS9.below b10).same hs).any
          have HGOOD := Lib.hid hgood
          clear hgood k79 kz9 hA9 hB9 hS9 b09
          have HE2 : Hid (addE ⟨⟨id, keys, tn, cols, ixs⟩, sts⟩ ⟨xn, xc, xu⟩ = if checkI id keys tn cols (ixs ++ [⟨xn, xc, xu⟩]) ≠ 0 then (.zero, checkI id keys tn cols (ixs ++ [⟨xn, xc, xu⟩])) else
            if (⟨⟨id, keys, tn, cols, ixs⟩, sts⟩ : LEnt).busy = true then (.zero, 12) else (⟨⟨id, keys, tn, cols, ixs ++ [⟨xn, xc, xu⟩]⟩, sts ++ [⟨1, pfx id⟩]⟩, 0)) := HE
          clear HE d0
          generalize (⟨⟨id, keys, tn, cols, ixs⟩, sts⟩ : LEnt).busy = bz at *
          generalize checkI id keys tn cols (ixs ++ [⟨xn, xc, xu⟩]) = F at *
          by_cases hF : F = 0
          · have d1 : (F != 0) = false := by rw [hF]; rfl
            have HE3 : Hid (addE ⟨⟨id, keys, tn, cols, ixs⟩, sts⟩ ⟨xn, xc, xu⟩ = if bz = true then (.zero, 12) else (⟨⟨id, keys, tn, cols, ixs ++ [⟨xn, xc, xu⟩]⟩, sts ++ [⟨1, pfx id⟩]⟩, 0)) := by
              show _ = _; rw [HE2.out, if_neg (fun h => h hF)]
            clear hF HE2
            cases bz
            · have HR : Hid (addE ⟨⟨id, keys, tn, cols, ixs⟩, sts⟩ ⟨xn, xc, xu⟩ = (⟨⟨id, keys, tn, cols, ixs ++ [⟨xn, xc, xu⟩]⟩, sts ++ [⟨1, pfx id⟩]⟩, 0)) := by
                show _ = _; rw [HE3.out, if_neg (by decide)]
              go_wp2_with (first
                | ((with_reducible refine wpList_load_blk rfl 28 (.tmp 2) rfl w.heap.size ?_ 28 _ _ k710 Try.underlying28 ?_ Try.size_REntry ?_ ?_); rfl; rfl; rfl)
                | ((with_reducible refine wpList_store_blk rfl 28 (.tmp 4) (.tmp 60) rfl (w.heap.size + 2) 28 _ #[.int .i64 id, .string tn, .slice A cols.length ca, .int .i64 keys, .slice B5 (ixs.length + 1) c5, .slice S9 (sts.length + 1) c9] ?_ ?_ kz10 Try.size_REntry ?_ ?_ ?_ ?_); rfl; rfl; rfl; rfl; (simp [Value.oneCell']); intro w12 kz12 g12 z12))
              exact bodyPost_ret (results_cell2 rfl rfl rfl kz12 Try.underlying28 rfl Try.size_REntry) rfl (by exact HGOOD.out w12 g12 HR.out)
            · have HR : Hid (addE ⟨⟨id, keys, tn, cols, ixs⟩, sts⟩ ⟨xn, xc, xu⟩ = (.zero, 12)) := by
                show _ = _; rw [HE3.out, if_pos rfl]
              go_wp2_with ((with_reducible refine wpList_store_blk rfl 28 (.tmp 4) (.tmp 59) rfl (w.heap.size + 2) 28 _ #[.int .i64 0, .string ⟨#[]⟩, .slice none 0 0, .int .i64 0, .slice none 0 0, .slice none 0 0] ?_ ?_ kz10 Try.size_REntry ?_ ?_ ?_ ?_); rfl; rfl; rfl; rfl; (simp [Value.oneCell']); intro w12 kz12 g12 z12)
              exact bodyPost_ret (results_cell2 rfl rfl rfl kz12 Try.underlying28 rfl Try.size_REntry) rfl (by exact ⟨_, by rw [HR.out]; rfl, by rw [HR.out]; exact EntV.zero _, b010.grown g12 b010.size (fun j hj => by have := Option.some.inj hj; omega)⟩)
          · have HR : Hid (addE ⟨⟨id, keys, tn, cols, ixs⟩, sts⟩ ⟨xn, xc, xu⟩ = (.zero, F)) := by
              show _ = _; rw [HE2.out, if_pos hF]
            have d1 : (F != 0) = true := by rw [bne_iff_ne]; exact hF
            clear hF
            go_wp2_with ((with_reducible refine wpList_store_blk rfl 28 (.tmp 4) (.tmp 56) rfl (w.heap.size + 2) 28 _ #[.int .i64 0, .string ⟨#[]⟩, .slice none 0 0, .int .i64 0, .slice none 0 0, .slice none 0 0] ?_ ?_ kz10 Try.size_REntry ?_ ?_ ?_ ?_); rfl; rfl; rfl; rfl; (simp [Value.oneCell']); intro w12 kz12 g12 z12)
            exact bodyPost_ret (results_cell2 rfl rfl rfl kz12 Try.underlying28 rfl Try.size_REntry) rfl (by exact ⟨_, by rw [HR.out]; rfl, by rw [HR.out]; exact EntV.zero _, b010.grown g12 b010.size (fun j hj => by have := Option.some.inj hj; omega)⟩)
  · have HE : Hid (addE ⟨⟨id, keys, tn, cols, ixs⟩, sts⟩ ⟨xn, xc, xu⟩ = (.zero, entryI id keys tn cols ixs sts)) := by
      show _ = _; unfold addE; rw [if_pos (by rw [hchk]; exact h0), hchk]
    have d0 : (entryI id keys tn cols ixs sts != 0) = true := by rw [bne_iff_ne]; exact h0
    clear h0 hchk
    go_wp2_with ((with_reducible refine wpList_store_blk rfl 28 (.tmp 4) (.tmp 12) rfl (w.heap.size + 2) 28 _ #[.int .i64 0, .string ⟨#[]⟩, .slice none 0 0, .int .i64 0, .slice none 0 0, .slice none 0 0] ?_ ?_ kz1 Try.size_REntry ?_ ?_ ?_ ?_); rfl; rfl; rfl; rfl; (simp [Value.oneCell']); intro w2 kz2 g2 z2)
    exact bodyPost_ret (results_cell2 rfl rfl rfl kz2 Try.underlying28 rfl Try.size_REntry) rfl (by exact ⟨_, by rw [HE.out]; rfl, by rw [HE.out]; exact EntV.zero _, b01.grown g2 b01.size (fun j hj => by have := Option.some.inj hj; omega)⟩)

end Go.Proofs.Ytkmigfponoagnaa
