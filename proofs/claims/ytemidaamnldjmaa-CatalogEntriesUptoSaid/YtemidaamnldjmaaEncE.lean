/- An entry as bytes: catalog.Encode. -/
import Derived.Test.YtemidaamnldjmaaWrE
import Derived.Test.YtemidaamnldjmaaKeyF
import Derived.Test.YtemidaamnldjmaaPartC
import Derived.Test.YtemidaamnldjmaaHeldK
import Derived.StillTailTactics
import Derived.Test.YtemidaamnldjmaaReadE
namespace Go.Proofs.Ytemidaamnldjmaa
open Go.RowKit

theorem Own.stepsA {α : Type} {E : ER α} {w w' : World} {S : Nat → Prop} {t : TypeId} {B : Nat} {v v' : Value} {xs ys : List α} {vs us : List Value} (hf : E.flat w (fun b => S b ∧ v.ownBlock ≠ some b) vs xs) (hx : E.flat w (fun b => S b ∧ v.ownBlock ≠ some b) us ys)
    (hown : w'.ownsRow B t E.size v' (xs.length + ys.length) (vs ++ us)) (hg : w.grownBy w' v.ownBlock) (hat : v'.ownBlock = v.ownBlock ∨ v'.ownBlock = some w.heap.size) : Own E t w' B S v' (xs ++ ys) := by
  refine ⟨vs ++ us, by rw [List.length_append]; exact hown, ?_⟩
  have h1 := ER.flat_mono (S' := fun b => (S b ∧ v.ownBlock ≠ some b) ∧ b < w.heap.size) (fun b hl hb => ⟨hb, hl⟩) (ER.flat_append hf hx)
  have h2 := ER.flat_same (.of_grown hg fun b hb => hb.1.2) h1
  refine ER.flat_mono (fun b _ hb => ⟨hb.1.1, ?_⟩) h2
  rcases hat with e | e <;> rw [e]
  · exact hb.1.2
  · intro e; have := Option.some.inj e; omega
theorem wpList_appK {α : Type} (E : ER α) (b : Nat) (w0 w : World) {ops : Array Oper} {rest : List Oper} {o : Oper} {a : Act} {Q : Exit → Act → World → Prop} (hgd : o.guard = none) (s x : Operand) (t ty : TypeId)
    (ho : o.op = .call { callee := .builtin .append, args := #[s, x], argTypes := #[ty, ty] }) (i : TypeInfo) (z : Value) (ht : Try.prog.underlying ty = some (.slice t)) (hi : Try.prog.info? t = some i) (hz : i.zero = some z) (hsize : i.size = E.size) (hby : i.bytes = E.bytes) (hzs : z.cells.size = E.size)
    (S : Nat → Prop) (A : Option Addr) (xs : List α) (c : Nat) (hs : a.eval s = .slice A xs.length c) (hown : Own E t w b S (.slice A xs.length c) xs)
    (B : Option Addr) (ys : List α) (n d : Nat) (hn : ys.length = n) (hx : a.eval x = .slice B n d) (us : List Value) (hru : Reads w w.heap.size E.size B n us) (hrep : E.flat w (fun b => S b ∧ (Value.slice A xs.length c).ownBlock ≠ some b) us ys)
    (hl : (xs.length + n) * E.bytes ≤ 140737488355328) (hl2 : xs.length + n ≤ maxLen) (hb : Below w0.heap.size w0 w) (hb0 : w0.heap.size ≤ b) (hbw : b ≤ w.heap.size)
    (h : ∀ A' c' xs' w', Hid (xs' = xs ++ ys) → Own E t w' b S (.slice A' xs'.length c') xs' → Below w0.heap.size w0 w' → w.grownBy w' (Value.slice A xs.length c).ownBlock → wpList Try.prog ops Q rest (a.put o.dst (.slice A' xs'.length c')) w') : wpList Try.prog ops Q (o :: rest) a w := by
  subst hn
  have hlt := Own.lt hown
  obtain ⟨vs, hown, hf⟩ := hown
  refine wpList_append_sh w hgd s x ty ho b t i z E.size E.bytes ht hi hz hsize hby hzs E.pos _ _ _ hs hown _ B ys.length d us hx hru (ER.flat_one hrep) hl2 hl hbw ?_
  intro A' c' w' o' g' t'
  have hst := Own.stepsA (S := S) hf hrep o' g' t'
  have e : xs.length + ys.length = (xs ++ ys).length := by rw [List.length_append]
  rw [e] at hst t' ⊢
  exact h A' c' (xs ++ ys) w' rfl hst (hb.grown g' hb.size fun j hj => by have := (hlt j hj).1; omega) g'
theorem step_appK {α : Type} (E : ER α) (b : Nat) (w0 w : World) {ops : Array Oper} {o : Oper} {a : Act} {K : Act → World → Prop} {Q : Exit → Act → World → Prop} {X : Prop} (hgd : o.guard = none) (s x : Operand) (t ty : TypeId)
    (ho : o.op = .call { callee := .builtin .append, args := #[s, x], argTypes := #[ty, ty] }) (i : TypeInfo) (z : Value) (ht : Try.prog.underlying ty = some (.slice t)) (hi : Try.prog.info? t = some i) (hz : i.zero = some z) (hsize : i.size = E.size) (hby : i.bytes = E.bytes) (hzs : z.cells.size = E.size)
    (S : Nat → Prop) (A : Option Addr) (xs : List α) (c : Nat) (hs : a.eval s = .slice A xs.length c) (hown : Own E t w b S (.slice A xs.length c) xs)
    (B : Option Addr) (ys : List α) (n d : Nat) (hn : ys.length = n) (hx : a.eval x = .slice B n d) (us : List Value) (hru : Reads w w.heap.size E.size B n us) (hrep : E.flat w (fun b => S b ∧ (Value.slice A xs.length c).ownBlock ≠ some b) us ys)
    (hl : (xs.length + n) * E.bytes ≤ 140737488355328) (hl2 : xs.length + n ≤ maxLen) (hb : Below w0.heap.size w0 w) (hb0 : w0.heap.size ≤ b) (hbw : b ≤ w.heap.size)
    (h : ∀ A' c' xs' w', Hid (xs' = xs ++ ys) → Own E t w' b S (.slice A' xs'.length c') xs' → Below w0.heap.size w0 w' → w.grownBy w' (Value.slice A xs.length c).ownBlock → K (a.put o.dst (.slice A' xs'.length c')) w') :
    if Region.wanted o (yielded ops a.tmps) = true then Oper.wp Try.prog o a w K Q else X := by
  subst hn
  have hlt := Own.lt hown
  obtain ⟨vs, hown, hf⟩ := hown
  refine step_append_sh w hgd s x ty ho b t i z E.size E.bytes ht hi hz hsize hby hzs E.pos _ _ _ hs hown _ B ys.length d us hx hru (ER.flat_one hrep) hl2 hl hbw ?_
  intro A' c' w' o' g' t'
  have hst := Own.stepsA (S := S) hf hrep o' g' t'
  have e : xs.length + ys.length = (xs ++ ys).length := by rw [List.length_append]
  rw [e] at hst t' ⊢
  exact h A' c' (xs ++ ys) w' rfl hst (hb.grown g' hb.size fun j hj => by have := (hlt j hj).1; omega) g'
theorem Reads.newV (w : World) (vs : List Value) (t : TypeId) : Reads (w.alloc (.cells vs.toArray t)) (w.alloc (.cells vs.toArray t)).heap.size 1 (some ⟨w.heap.size, 0, none⟩) vs.length vs :=
  ⟨by simp, fun _ => ⟨_, rfl, by simp, fun j u hu => by
    have hadd : (⟨w.heap.size, 0, none⟩ : Addr).add j = ⟨w.heap.size, j, none⟩ := by unfold Addr.add; split <;> simp_all
    rw [hadd, cell_of_row _ _ _ _ _ _ (heap_alloc_new w _)]
    simpa using hu⟩⟩
theorem Reads.of_blkV {w : World} {g : Nat} {t : TypeId} {vs : List Value} {n : Nat} (h : Blk w g t vs.toArray) (hn : vs.length = n) : Reads w w.heap.size 1 (some ⟨g, 0, none⟩) n vs :=
  ⟨by omega, fun _ => ⟨_, rfl, h.lt, fun j u hu => by rw [add_row, h.cell]; simpa using hu⟩⟩
theorem Blk.alloc_' {w : World} {g : Nat} {t : TypeId} {cs : Array Value} (h : Blk w g t cs) (o : Obj) : Blk (w.alloc o) g t cs := h.alloc o
theorem OwnB.alloc_ {b : Nat} {w : World} {A : Option Addr} {l : List UInt8} {c : Nat} (h : OwnB b w A l c) (o : Obj) : OwnB b (w.alloc o) A l c := h.below ((Below.refl _ _).alloc (Nat.le_refl _) _)
theorem OwnB.drew_ {b : Nat} {w : World} {A : Option Addr} {l : List UInt8} {c : Nat} (h : OwnB b w A l c) : OwnB b w.drew A l c := h.below (Below.refl _ _).drew
theorem AnyE.nil_ (w : World) (S : Nat → Prop) : AnyE.flat w S [] [] := rfl
theorem AnyE.cons_ {w : World} {S : Nat → Prop} {v : Value} {x : LVal} {vs : List Value} {xs : List LVal} (h : AnyV w S v x) (hr : AnyE.flat w S vs xs) : AnyE.flat w S (v :: vs) (x :: xs) := ⟨[v], vs, rfl, ⟨v, rfl, h⟩, hr⟩
theorem AnyE.len_ {w : World} {S : Nat → Prop} {vs : List Value} {xs : List LVal} (h : AnyE.flat w S vs xs) : vs.length = xs.length := by
  have := ER.flat_len h
  rw [show xs.length * AnyE.size = xs.length from Nat.mul_one _] at this
  exact this
/-- a literal row of values -/
theorem Own.lit {w : World} {base : Nat} {vs : List Value} {xs : List LVal} {n : Nat} (hb : base ≤ w.heap.size) (hn : vs.length = n) (h : AnyE.flat (w.alloc (.cells vs.toArray 20)) (fun b => b < w.heap.size) vs xs) (hl : n ≤ 4096) :
    Own AnyE 20 (w.alloc (.cells vs.toArray 20)) base Any (.slice (some ⟨w.heap.size, 0, none⟩) xs.length n) xs := by
  have hl2 := AnyE.len_ h
  subst hn
  rw [← hl2]
  have o := own_of_blk (base := base) (Blk.new w 20 vs.toArray) hb (by simp only [maxLen]; omega)
  refine ⟨vs, by rw [← hl2]; exact o, ER.flat_mono (fun b _ hb => ⟨trivial, fun e => ?_⟩) h⟩
  have e2 : w.heap.size = b := Option.some.inj e
  omega
/-- bytes of the call's own are answered -/
def RetEncE (l : List UInt8) (w : World) (en : Ending) (w' : World) : Prop := ∃ D d, en = .returned (.slice D l.length d) ∧ OwnB w.heap.size w' D l d ∧ Below w.heap.size w w'
set_option maxRecDepth 100000 in
set_option maxHeartbeats 8000000 in
theorem encE_any (id keys : Int) (tn : ByteArray) (cols : List LCol) (ixs : List LIx) (sts : List LSt) (A B S : Option Addr) (ca cb cs : Nat) (w : World) (hA : Sl ColE w A cols) (hB : Sl IxE w B ixs) (hS : Sl StE w S sts) (hk : TabOk id keys tn cols ixs) (hl : sts.length = ixs.length)
    (hok : ∀ v ∈ wrE ⟨⟨id, keys, tn, cols, ixs⟩, sts⟩, v.ok) (hlen : (wrE ⟨⟨id, keys, tn, cols, ixs⟩, sts⟩).length ≤ 4096) (hcur : ∀ s ∈ sts, s.cur.length ≤ 401) :
    Calls Try.prog 12 #[.agg #[.int .i64 id, .string tn, .slice A cols.length ca, .int .i64 keys, .slice B ixs.length cb, .slice S sts.length cs]] w (RetEncE (encL (wrE ⟨⟨id, keys, tn, cols, ixs⟩, sts⟩)) w) := by
  obtain ⟨i1, hi1, hy0, hy1, hy2⟩ := info_parts Try.infoAny
  have n1 := hk.ncols
  have n2 := hk.nixs
  have n3 := hk.name
  have HC := Lib.hid hk.cols
  have HI := Lib.hid hk.ixs
  have HOK := Lib.hid hok
  have HLEN := Lib.hid hlen
  have HCUR := Lib.hid hcur
  have HL := Lib.hid hl
  clear hok hlen hcur hk hl
  have b0 : Below w.heap.size w (w.alloc (.cells #[.int .i64 id, .string tn, .slice A cols.length ca, .int .i64 keys, .slice B ixs.length cb, .slice S sts.length cs] 33)) := (Below.refl _ _).alloc (Nat.le_refl _) _
  have k0 := Blk.new w 33 #[.int .i64 id, .string tn, .slice A cols.length ca, .int .i64 keys, .slice B ixs.length cb, .slice S sts.length cs]
  have hkk : ∀ W, Blk W w.heap.size 33 #[.int .i64 id, .string tn, .slice A cols.length ca, .int .i64 keys, .slice B ixs.length cb, .slice S sts.length cs] → W.cell? ⟨w.heap.size, 0, none⟩ = some (.int .i64 id) ∧ W.cell? ⟨w.heap.size, 1, none⟩ = some (.string tn) ∧ W.cell? ⟨w.heap.size, 2, none⟩ = some (.slice A cols.length ca) ∧ W.cell? ⟨w.heap.size, 3, none⟩ = some (.int .i64 keys) ∧ W.cell? ⟨w.heap.size, 4, none⟩ = some (.slice B ixs.length cb) ∧ W.cell? ⟨w.heap.size, 5, none⟩ = some (.slice S sts.length cs) := fun W h => ⟨h.cell 0, h.cell 1, h.cell 2, h.cell 3, h.cell 4, h.cell 5⟩
  go_enter Try.func12, Try.ntmps12
  go_upto_region 1 with fail
  generalize (w.alloc (.cells #[.int .i64 id, .string tn, .slice A cols.length ca, .int .i64 keys, .slice B ixs.length cb, .slice S sts.length cs] 33)) = X at *
  obtain ⟨ec, hec⟩ : ∃ ec : Array Value, ec = #[.int .i64 id, .string tn, .slice A cols.length ca, .int .i64 keys, .slice B ixs.length cb, .slice S sts.length cs] := ⟨_, rfl⟩
  rw [← hec] at k0 hkk
  have HK := Lib.hid hkk
  clear hec hkk
  obtain ⟨q0, q1, q2, q3, q4, q5⟩ := HK.out _ k0
  refine wp_region_still_tail 17 (by kernel_rfl) (by kernel_rfl) ?_
  simp only [List.take_succ_cons, List.take_zero, List.drop_succ_cons, List.drop_zero]
  repeat (first | still_step | still_call (number_any _ _))
  refine wpStill_nil ?_
  clear q0 q1 q2 q3 q4 q5
  have bY := b0.drew
  have kY : Blk X.drew w.heap.size 33 ec := k0.drew
  clear b0 k0
  change wpList _ _ _ _ _ X.drew
  generalize X.drew = Y at *
  have zY := bY.size
  have lY := kY.lt
  have dZ : Below Y.heap.size Y (Y.alloc (.cells #[.iface 2 (.int .i64 id), .iface 9 (.string tn), .iface 2 (.int .i64 keys), .iface 2 (.int .i64 (cols.length : Int))] 20)) := (Below.refl _ _).alloc (Nat.le_refl _) _
  have hn3 : tn.size ≤ 140737488351232 := by omega
  have oZ : Own AnyE 20 (Y.alloc (.cells #[.iface 2 (.int .i64 id), .iface 9 (.string tn), .iface 2 (.int .i64 keys), .iface 2 (.int .i64 (cols.length : Int))] 20)) (w.heap.size + 1) Any (.slice (some ⟨Y.heap.size, 0, none⟩) ([.int id, .text tn, .int keys, .int (cols.length : Int)] : List LVal).length 4) ([.int id, .text tn, .int keys, .int (cols.length : Int)] : List LVal) :=
    Own.lit (vs := [.iface 2 (.int .i64 id), .iface 9 (.string tn), .iface 2 (.int .i64 keys), .iface 2 (.int .i64 (cols.length : Int))]) (by omega) rfl (AnyE.cons_ rfl (AnyE.cons_ ⟨rfl, hn3⟩ (AnyE.cons_ rfl (AnyE.cons_ rfl rfl)))) (by decide)
  have bZ := bY.trans (dZ.mono zY)
  have kZ := kY.below dZ lY
  clear bY kY hn3
  obtain ⟨-, -, q2, -, -, -⟩ := HK.out _ kZ
  go_wp2_with fail
  clear q2
  generalize (Y.alloc (.cells #[.iface 2 (.int .i64 id), .iface 9 (.string tn), .iface 2 (.int .i64 keys), .iface 2 (.int .i64 (cols.length : Int))] 20)) = Z at *
  go_loopw [3, 5, 34] (fun v _ i wr => ∃ (k : Nat) (acc : List LVal) (D : Option Addr) (d : Nat), k ≤ cols.length ∧ i = .int .i64 (k : Int) ∧ v = .slice D acc.length d ∧ Own AnyE 20 wr (w.heap.size + 1) Any (.slice D acc.length d) acc ∧ acc = ([.int id, .text tn, .int keys, .int (cols.length : Int)] : List LVal) ++ (cols.take k).flatMap wrC ∧ acc.length ≤ 4 + 3 * k ∧ Blk wr w.heap.size 33 ec ∧ Below w.heap.size w wr) (fun _ _ i _ => cols.length - (intOf i).toNat)
  case atStart => exact ⟨0, _, _, 4, Nat.zero_le _, rfl, rfl, oZ, (List.append_nil _).symm, Nat.le_refl _, kZ, bZ⟩
  case round =>
    clear oZ bZ kZ dZ
    obtain ⟨k, acc, D, d, hk, rfl, rfl, o, hacc, hal, kr, br⟩ := hrel
    have HACC := Lib.hid hacc
    clear hacc
    have zr := br.size
    have lr := kr.lt
    by_cases hlt : k < cols.length
    · have hlt' : (k : Int) < (cols.length : Int) := by omega
      obtain ⟨ad, rfl, g1, f0, f1, f2⟩ := ColE.at_ (hA.below br) hlt
      obtain ⟨c1, c2, c3⟩ := HC.out cols[k] (List.getElem_mem hlt)
      have HST := Lib.hid (wrC_step hlt)
      generalize cols[k] = x at *
      have dX : Below wr.heap.size wr (wr.alloc (.cells #[.string x.name, .int .i64 x.kind, .bool x.null] 51)) := (Below.refl _ _).alloc (Nat.le_refl _) _
      have kX := Blk.new wr 51 #[.string x.name, .int .i64 x.kind, .bool x.null]
      have bX := br.trans (dX.mono zr)
      have oX := Own.below o dX
      have krX := kr.below dX lr
      have oLT := Lib.hid (Own.lt o)
      clear o kr dX
      go_upto_region 5 with fail
      clear f0 f1 f2
      generalize (wr.alloc (.cells #[.string x.name, .int .i64 x.kind, .bool x.null] 51)) = X at *
      have ks : ∀ W, Blk W wr.heap.size 51 #[.string x.name, .int .i64 x.kind, .bool x.null] → W.cell? ⟨wr.heap.size, 0, none⟩ = some (.string x.name) ∧ W.cell? ⟨wr.heap.size, 1, none⟩ = some (.int .i64 x.kind) ∧ W.cell? ⟨wr.heap.size, 2, none⟩ = some (.bool x.null) := fun W h => ⟨h.cell 0, h.cell 1, h.cell 2⟩
      have KS := Lib.hid ks
      have hnx : x.name.size ≤ 140737488351232 := by omega
      have hrp : ∀ W S, AnyE.flat W S [.iface 9 (.string x.name), .iface 2 (.int .i64 x.kind), .iface 4 (.bool x.null)] [.text x.name, .int x.kind, .bool x.null] := fun W S => AnyE.cons_ ⟨rfl, hnx⟩ (AnyE.cons_ rfl (AnyE.cons_ rfl rfl))
      have HRP := Lib.hid hrp
      have hb1 : (acc.length + 3) * AnyE.bytes ≤ 140737488355328 := by simp only [AnyE]; omega
      have hb2 : acc.length + 3 ≤ maxLen := by simp only [maxLen]; omega
      have lX := krX.lt
      clear ks hrp hnx
      go_region_held3 (fun W : World => W.cell? ⟨wr.heap.size, 0, none⟩ = some (.string x.name) ∧ W.cell? ⟨wr.heap.size, 1, none⟩ = some (.int .i64 x.kind) ∧ W.cell? ⟨wr.heap.size, 2, none⟩ = some (.bool x.null)) (with_reducible refine KS.out _ ?_; (focus (repeat (first | (with_reducible exact k9) | (with_reducible exact kX) | (with_reducible refine Blk.drew_ ?_) | (with_reducible refine Blk.alloc_' ?_ _))))) (first
        | (go_at_call 29; (with_reducible refine (number_any _ _).mono ?_); rintro en wz ⟨rfl, rfl⟩)
        | (refine step_appK AnyE (w.heap.size + 1) w _ rfl (.tmp 38) (.tmp 48) 20 64 rfl i1 _ Try.underlying64 hi1 hy0 hy1 hy2 rfl Any D acc d rfl ?_ _ [.text x.name, .int x.kind, .bool x.null] 3 3 rfl rfl [.iface 9 (.string x.name), .iface 2 (.int .i64 x.kind), .iface 4 (.bool x.null)] (Reads.of_blkV (t := 20) ?_ rfl) (HRP.out _ _) hb1 hb2 ?_ (Nat.le_succ _) ?_ ?_; (focus (repeat (first | (with_reducible exact oX) | (with_reducible refine Own.drew_ ?_) | (with_reducible refine Own.alloc_ ?_ _)))); (focus (repeat (first | (exact Blk.new _ _ _) | (with_reducible refine Blk.drew_ ?_) | (with_reducible refine Blk.alloc_' ?_ _)))); (focus (repeat (first | (with_reducible exact bX) | (with_reducible refine Below.drew_ ?_) | (with_reducible refine Below.alloc_ ?_ _)))); (first | omega | (simp; omega)); intro D9 d9 acc9 w9 H9 o9 b9 g9; have k9 : Blk w9 wr.heap.size 51 #[.string x.name, .int .i64 x.kind, .bool x.null] := Blk.grown (by (focus (repeat (first | (with_reducible exact k9) | (with_reducible exact kX) | (with_reducible refine Blk.drew_ ?_) | (with_reducible refine Blk.alloc_' ?_ _))))) g9 (fun e => by have := (oLT.out _ e.symm).2; omega); have kr9 : Blk w9 w.heap.size 33 ec := Blk.grown (by (focus (repeat (first | (with_reducible exact krX) | (with_reducible refine Blk.drew_ ?_) | (with_reducible refine Blk.alloc_' ?_ _))))) g9 (fun e => by have := (oLT.out _ e.symm).1; omega)))
      all_goals
        clear KS HRP oLT oX krX kX bX
        go_wp2_with fail
        go_roundw
        case rel => exact ⟨k + 1, acc9, D9, d9, by omega, by go_num, rfl, o9, by rw [H9.out, HACC.out, HST.out, List.append_assoc], by rw [H9.out, List.length_append]; show acc.length + 3 ≤ _; omega, kr9, b9⟩
        case measure => simp [intOf]; omega
    · obtain rfl : k = cols.length := by omega
      have HACC2 : Hid (acc = (([.int id, .text tn, .int keys, .int (cols.length : Int)] : List LVal) ++ cols.flatMap wrC) ++ wrXs (ixs.take 0) (sts.take 0)) := by
        show _ = _
        rw [HACC.out, List.take_length]
        show _ = _ ++ []
        rw [List.append_nil]
      clear HACC
      obtain ⟨-, -, -, -, q4, -⟩ := HK.out _ kr
      go_wp2_with fail
      clear q4
      obtain ⟨HEAD, hHE⟩ : ∃ HEAD, HEAD = ([.int id, .text tn, .int keys, .int (cols.length : Int)] : List LVal) ++ cols.flatMap wrC := ⟨_, rfl⟩
      rw [← hHE] at HACC2
      have HHE := Lib.hid hHE
      clear hHE
      go_loopw [3, 6, 7, 9, 55] (fun v _ _ _ i wr => ∃ (k : Nat) (acc : List LVal) (D : Option Addr) (d : Nat), k ≤ ixs.length ∧ i = .int .i64 (k : Int) ∧ v = .slice D acc.length d ∧ Own AnyE 20 wr (w.heap.size + 1) Any (.slice D acc.length d) acc ∧ acc = HEAD ++ wrXs (ixs.take k) (sts.take k) ∧ acc.length ≤ 52 + 21 * k ∧ Blk wr w.heap.size 33 ec ∧ Below w.heap.size w wr) (fun _ _ _ _ i _ => ixs.length - (intOf i).toNat)
      case atStart => exact ⟨0, acc, D, d, Nat.zero_le _, rfl, rfl, o, HACC2.out, by omega, kr, br⟩
      case round =>
        clear o kr br HACC2 zr lr hal
        generalize wr = wo at *
        obtain ⟨k, acc, D, d, hk, rfl, rfl, o, hacc, hal, kr, br⟩ := hrel
        have HACC := Lib.hid hacc
        clear hacc
        have zo := br.size
        have lo := kr.lt
        by_cases hlt : k < ixs.length
        · have hlt' : (k : Int) < (ixs.length : Int) := by omega
          have hls : k < sts.length := by have := HL.out; omega
          have hls' : (k : Int) < (sts.length : Int) := by omega
          obtain ⟨bd, C, c, rfl, g1, f0, f1, f2, hIs, -, -⟩ := IxE.at_ hB hlt
          obtain ⟨sd, F, fc, rfl, g2, e0, e1, hF, hF2, hF3⟩ := StE.at_ hS hls
          have f0' : wo.cell? (bd.add (k * 3)) = some (.string ixs[k].name) := (br.cell (by rw [block_of_add]; exact g1)).trans f0
          have f1' : wo.cell? ⟨(bd.add (k * 3)).block, (bd.add (k * 3)).off + 1, none⟩ = some (.slice C ixs[k].cols.length c) := (br.cell (p := ⟨(bd.add (k * 3)).block, (bd.add (k * 3)).off + 1, none⟩) (by show (bd.add (k * 3)).block < _; rw [block_of_add]; exact g1)).trans f1
          have f2' : wo.cell? ⟨(bd.add (k * 3)).block, (bd.add (k * 3)).off + 2, none⟩ = some (.bool ixs[k].uniq) := (br.cell (p := ⟨(bd.add (k * 3)).block, (bd.add (k * 3)).off + 2, none⟩) (by show (bd.add (k * 3)).block < _; rw [block_of_add]; exact g1)).trans f2
          have g3 : (sd.add (k * 2)).block < w.heap.size := by rw [block_of_add]; exact g2
          obtain ⟨x1, x2, x3⟩ := HI.out ixs[k] (List.getElem_mem hlt)
          have hcu := HCUR.out sts[k] (List.getElem_mem hls)
          have HST := Lib.hid (wrXs_step hlt hls)
          have HX3 := Lib.hid x3
          clear f0 f1 f2 x3
          generalize ixs[k] = x at *
          generalize sts[k] = s at *
          have HE0 := Lib.hid e0
          have HE1 := Lib.hid e1
          clear e0 e1
          have dX : Below wo.heap.size wo (wo.alloc (.cells #[.string x.name, .slice C x.cols.length c, .bool x.uniq] 55)) := (Below.refl _ _).alloc (Nat.le_refl _) _
          have kX := Blk.new wo 55 #[.string x.name, .slice C x.cols.length c, .bool x.uniq]
          have bX := br.trans (dX.mono zo)
          have oX := Own.below o dX
          have krX := kr.below dX lo
          have oLT := Lib.hid (Own.lt o)
          clear o kr dX
          go_upto_region 10 with fail
          clear f0' f1' f2'
          generalize (wo.alloc (.cells #[.string x.name, .slice C x.cols.length c, .bool x.uniq] 55)) = X at *
          have ks : ∀ W, Blk W wo.heap.size 55 #[.string x.name, .slice C x.cols.length c, .bool x.uniq] → W.cell? ⟨wo.heap.size, 0, none⟩ = some (.string x.name) ∧ W.cell? ⟨wo.heap.size, 1, none⟩ = some (.slice C x.cols.length c) ∧ W.cell? ⟨wo.heap.size, 2, none⟩ = some (.bool x.uniq) := fun W h => ⟨h.cell 0, h.cell 1, h.cell 2⟩
          have KS := Lib.hid ks
          have hnx : x.name.size ≤ 140737488351232 := by omega
          have hrp : ∀ W S, AnyE.flat W S [.iface 9 (.string x.name), .iface 4 (.bool x.uniq), .iface 2 (.int .i64 (x.cols.length : Int))] [.text x.name, .bool x.uniq, .int (x.cols.length : Int)] := fun W S => AnyE.cons_ ⟨rfl, hnx⟩ (AnyE.cons_ rfl (AnyE.cons_ rfl rfl))
          have HRP := Lib.hid hrp
          have hb1 : (acc.length + 3) * AnyE.bytes ≤ 140737488355328 := by simp only [AnyE]; omega
          have hb2 : acc.length + 3 ≤ maxLen := by simp only [maxLen]; omega
          have lX := krX.lt
          clear ks hrp hnx
          go_region_held3 (fun W : World => W.cell? ⟨wo.heap.size, 0, none⟩ = some (.string x.name) ∧ W.cell? ⟨wo.heap.size, 1, none⟩ = some (.slice C x.cols.length c) ∧ W.cell? ⟨wo.heap.size, 2, none⟩ = some (.bool x.uniq)) (with_reducible refine KS.out _ ?_; (focus (repeat (first | (with_reducible exact k9) | (with_reducible exact kX) | (with_reducible refine Blk.drew_ ?_) | (with_reducible refine Blk.alloc_' ?_ _))))) (first
            | (go_at_call 29; (with_reducible refine (number_any _ _).mono ?_); rintro en wz ⟨rfl, rfl⟩)
            | (refine step_appK AnyE (w.heap.size + 1) w _ rfl (.tmp 60) (.tmp 71) 20 64 rfl i1 _ Try.underlying64 hi1 hy0 hy1 hy2 rfl Any D acc d rfl ?_ _ [.text x.name, .bool x.uniq, .int (x.cols.length : Int)] 3 3 rfl rfl [.iface 9 (.string x.name), .iface 4 (.bool x.uniq), .iface 2 (.int .i64 (x.cols.length : Int))] (Reads.of_blkV (t := 20) ?_ rfl) (HRP.out _ _) hb1 hb2 ?_ (Nat.le_succ _) ?_ ?_; (focus (repeat (first | (with_reducible exact oX) | (with_reducible refine Own.drew_ ?_) | (with_reducible refine Own.alloc_ ?_ _)))); (focus (repeat (first | (exact Blk.new _ _ _) | (with_reducible refine Blk.drew_ ?_) | (with_reducible refine Blk.alloc_' ?_ _)))); (focus (repeat (first | (with_reducible exact bX) | (with_reducible refine Below.drew_ ?_) | (with_reducible refine Below.alloc_ ?_ _)))); (first | omega | (simp; omega)); intro D9 d9 acc9 w9 H9 o9 b9 g9; have k9 : Blk w9 wo.heap.size 55 #[.string x.name, .slice C x.cols.length c, .bool x.uniq] := Blk.grown (by (focus (repeat (first | (with_reducible exact k9) | (with_reducible exact kX) | (with_reducible refine Blk.drew_ ?_) | (with_reducible refine Blk.alloc_' ?_ _))))) g9 (fun e => by have := (oLT.out _ e.symm).2; omega); have kr9 : Blk w9 w.heap.size 33 ec := Blk.grown (by (focus (repeat (first | (with_reducible exact krX) | (with_reducible refine Blk.drew_ ?_) | (with_reducible refine Blk.alloc_' ?_ _))))) g9 (fun e => by have := (oLT.out _ e.symm).1; omega)))
          all_goals
            have q1 : w9.cell? ⟨wo.heap.size, 1, none⟩ = some (.slice C x.cols.length c) := k9.cell 1
            have hl9 : acc9.length ≤ 55 + 21 * k := by rw [H9.out, List.length_append]; show acc.length + 3 ≤ _; omega
            clear KS HRP oLT oX krX kX bX hb1 hb2 lX
            go_wp2_with fail
            clear q1 k9 g9
            go_loopw [3, 9, 76] (fun v _ i wr => ∃ (j : Nat) (acc2 : List LVal) (D : Option Addr) (d : Nat), j ≤ x.cols.length ∧ i = .int .i64 (j : Int) ∧ v = .slice D acc2.length d ∧ Own AnyE 20 wr (w.heap.size + 1) Any (.slice D acc2.length d) acc2 ∧ acc2 = acc9 ++ (x.cols.take j).map LVal.int ∧ acc2.length ≤ 55 + 21 * k + j ∧ Blk wr w.heap.size 33 ec ∧ Below w.heap.size w wr) (fun _ _ i _ => x.cols.length - (intOf i).toNat)
            case atStart => exact ⟨0, acc9, D9, d9, Nat.zero_le _, rfl, rfl, o9, (List.append_nil _).symm, by omega, kr9, b9⟩
            case round =>
              clear o9 kr9 b9 hal hl9
              obtain ⟨j, acc2, D2, d2, hj, rfl, rfl, o, hacc2, hal, kr, br2⟩ := hrel
              have HACC2 := Lib.hid hacc2
              clear hacc2
              have zr := br2.size
              have lr := kr.lt
              have oLT := Lib.hid (Own.lt o)
              by_cases hjl : j < x.cols.length
              · have hjl' : (j : Int) < (x.cols.length : Int) := by omega
                obtain ⟨cd, rfl, g4, y0⟩ := Is.at_ (hIs.below br2) hjl
                have HTK : Hid ((x.cols.take (j + 1)).map LVal.int = (x.cols.take j).map LVal.int ++ [.int x.cols[j]]) := by
                  show _ = _
                  rw [List.take_succ_eq_append_getElem hjl, List.map_append]
                  rfl
                generalize x.cols[j] = nj at *
                go_wp2_with fail
                refine (number_any _ _).mono ?_
                rintro en wz ⟨rfl, hwz⟩
                obtain rfl := hwz.symm
                have dZ : Below wr.heap.size wr (wr.alloc (.cells #[.iface 2 (.int .i64 nj)] 20)) := (Below.refl _ _).alloc (Nat.le_refl _) _
                have bZ := br2.trans (dZ.mono zr)
                have oZ := Own.below o dZ
                have krZ := kr.below dZ lr
                have lZ := krZ.lt
                clear o kr
                go_wp2_with (at_builtin; refine wpList_appE AnyE (w.heap.size + 1) w _ rfl (.tmp 80) (.tmp 83) 20 64 rfl i1 _ Try.underlying64 hi1 hy0 hy1 hy2 rfl _ D2 acc2 d2 rfl oZ _ [.iface 2 (.int .i64 nj)] (.int nj) 1 rfl _ (Reads.new1 _ _ _) ⟨_, rfl, rfl⟩ (by simp only [AnyE]; omega) (by simp only [maxLen]; omega) bZ (Nat.le_succ _) lZ ?_; intro D8 d8 acc8 w8 H8 o8 b8 g8 t8)
                have kr8 := krZ.grown g8 (fun e => by have := (oLT.out _ e.symm).1; omega)
                go_roundw
                case rel => exact ⟨j + 1, acc8, D8, d8, by omega, by go_num, rfl, o8, by rw [H8.out, HACC2.out, HTK.out, List.append_assoc], by rw [H8.out, List.length_append, List.length_singleton]; omega, kr8, b8⟩
                case measure => simp [intOf]; omega
              · obtain rfl : j = x.cols.length := by omega
                have HST2 : Hid (HEAD ++ wrXs (ixs.take (k + 1)) (sts.take (k + 1)) = acc2 ++ [.int s.phase, .bytes s.cur]) := by
                  show _ = _
                  rw [HST.out, HACC2.out, H9.out, HACC.out, List.take_length]
                  simp only [List.append_assoc]
                clear HST HACC2 H9 HACC
                obtain ⟨-, -, -, -, -, q5⟩ := HK.out _ kr
                have hbw : ∀ W, Below wr.heap.size wr W → Below w.heap.size w W := fun W h => br2.trans (h.mono zr)
                have ks : ∀ W, Blk W w.heap.size 33 ec → Below w.heap.size w W → W.cell? ⟨w.heap.size, 5, none⟩ = some (.slice (some sd) sts.length cs) ∧ W.cell? (sd.add (k * 2)) = some (.int .i64 s.phase) ∧ W.cell? ⟨(sd.add (k * 2)).block, (sd.add (k * 2)).off + 1, none⟩ = some (.slice F s.cur.length fc) := fun W h hb => ⟨(HK.out _ h).2.2.2.2.2, (hb.cell g3).trans HE0.out, (hb.cell (p := ⟨(sd.add (k * 2)).block, (sd.add (k * 2)).off + 1, none⟩) g3).trans HE1.out⟩
                have hkr : ∀ W, Below wr.heap.size wr W → Blk W w.heap.size 33 ec := fun W h => kr.below h lr
                have ks1 : ∀ W, Below wr.heap.size wr W → W.cell? ⟨w.heap.size, 5, none⟩ = some (.slice (some sd) sts.length cs) ∧ W.cell? (sd.add (k * 2)) = some (.int .i64 s.phase) ∧ W.cell? ⟨(sd.add (k * 2)).block, (sd.add (k * 2)).off + 1, none⟩ = some (.slice F s.cur.length fc) := fun W h => ks W (hkr W h) (hbw W h)
                have hbs : ∀ W, Below wr.heap.size wr W → Bs W F s.cur := fun W h => hF.below (hbw W h)
                have hown : ∀ W, Below wr.heap.size wr W → Own AnyE 20 W (w.heap.size + 1) Any (.slice D2 acc2.length d2) acc2 := fun W h => Own.below o h
                have hrp : ∀ W A5 acc5 c5, OwnB wr.heap.size W A5 acc5 c5 → acc5.length ≤ 401 → AnyE.flat W (fun b => Any b ∧ (Value.slice D2 acc2.length d2).ownBlock ≠ some b) [.iface 2 (.int .i64 s.phase), .iface 29 (.slice A5 acc5.length c5)] [.int s.phase, .bytes acc5] := fun W A5 acc5 c5 h hl =>
                  AnyE.cons_ rfl (AnyE.cons_ ⟨A5, c5, rfl, OwnB.bs h (by omega), fun ad e hn => ⟨trivial, fun e2 => by have h1 := (oLT.out _ e2).2; have h2 := (OwnB.at_ h ad e hn).1; omega⟩, OwnB.caps h⟩ rfl)
                have hb1 : (acc2.length + 2) * AnyE.bytes ≤ 140737488355328 := by simp only [AnyE]; omega
                have hb2 : acc2.length + 2 ≤ maxLen := by simp only [maxLen]; omega
                have hb3 : ([] : List UInt8).length + s.cur.length ≤ 140737488355328 := by rw [List.length_nil]; omega
                have HBW := Lib.hid hbw
                have KS := Lib.hid ks
                have HKR := Lib.hid hkr
                have KS1 := Lib.hid ks1
                have HBS := Lib.hid hbs
                have HOWN := Lib.hid hown
                have HREP := Lib.hid hrp
                have hk0 : (0 : Int) ≤ (k : Int) := by omega
                have lwr : w.heap.size + 1 ≤ wr.heap.size := lr
                go_upto_region 17 with fail
                clear hbw ks hkr ks1 hbs hown hrp o kr br2 q5
                go_region_held3 (fun W : World => W.cell? ⟨w.heap.size, 5, none⟩ = some (.slice (some sd) sts.length cs) ∧ W.cell? (sd.add (k * 2)) = some (.int .i64 s.phase) ∧ W.cell? ⟨(sd.add (k * 2)).block, (sd.add (k * 2)).off + 1, none⟩ = some (.slice F s.cur.length fc)) (first | (with_reducible exact KS.out _ kr9 b9) | (with_reducible refine KS1.out _ ?_; (focus (repeat (first | (with_reducible exact b5) | (with_reducible exact Below.refl _ _) | (with_reducible refine Below.drew_ ?_) | (with_reducible refine Below.alloc_ ?_ _)))))) (first
                  | (go_at_call 29; (with_reducible refine (number_any _ _).mono ?_); rintro en wz ⟨rfl, rfl⟩)
                  | (refine step_app wr.heap.size wr _ rfl (.tmp 99) (.tmp 105) rfl (some ⟨_, 0, none⟩) [] 0 rfl (own_empty ?_ ?_) F s.cur fc rfl (HBS.out _ ?_) hb3 ?_ (Nat.le_refl _) (Below.size (B := wr.heap.size) ?_) ?_; (focus (repeat (first | (exact Blk.new _ _ _) | (with_reducible refine Blk.drew_ ?_) | (with_reducible refine Blk.alloc_' ?_ _)))); exact Nat.le_refl _; (focus (repeat (first | (with_reducible exact b5) | (with_reducible exact Below.refl _ _) | (with_reducible refine Below.drew_ ?_) | (with_reducible refine Below.alloc_ ?_ _)))); (focus (repeat (first | (with_reducible exact b5) | (with_reducible exact Below.refl _ _) | (with_reducible refine Below.drew_ ?_) | (with_reducible refine Below.alloc_ ?_ _)))); (focus (repeat (first | (with_reducible exact b5) | (with_reducible exact Below.refl _ _) | (with_reducible refine Below.drew_ ?_) | (with_reducible refine Below.alloc_ ?_ _)))); intro A5 c5 acc5 w5 H5 o5 b5 g5 t5; have L5 : acc5.length ≤ 401 := (by rw [H5.out, List.length_append, List.length_nil]; omega))
                  | (refine step_appK AnyE (w.heap.size + 1) w _ rfl (.tmp 91) (.tmp 108) 20 64 rfl i1 _ Try.underlying64 hi1 hy0 hy1 hy2 rfl Any D2 acc2 d2 rfl (HOWN.out _ ?_) _ [.int s.phase, .bytes acc5] 2 2 rfl rfl [.iface 2 (.int .i64 s.phase), .iface 29 (.slice A5 acc5.length c5)] (Reads.of_blkV (t := 20) ?_ rfl) (HREP.out _ _ _ _ ?_ L5) hb1 hb2 (HBW.out _ ?_) (Nat.le_succ _) (Nat.le_trans lwr (Below.size (B := wr.heap.size) ?_)) ?_; (focus (repeat (first | (with_reducible exact b5) | (with_reducible exact Below.refl _ _) | (with_reducible refine Below.drew_ ?_) | (with_reducible refine Below.alloc_ ?_ _)))); (focus (repeat (first | (exact Blk.new _ _ _) | (with_reducible refine Blk.drew_ ?_) | (with_reducible refine Blk.alloc_' ?_ _)))); (focus (repeat (first | (with_reducible exact o5) | (with_reducible refine OwnB.drew_ ?_) | (with_reducible refine OwnB.alloc_ ?_ _)))); (focus (repeat (first | (with_reducible exact b5) | (with_reducible exact Below.refl _ _) | (with_reducible refine Below.drew_ ?_) | (with_reducible refine Below.alloc_ ?_ _)))); (focus (repeat (first | (with_reducible exact b5) | (with_reducible exact Below.refl _ _) | (with_reducible refine Below.drew_ ?_) | (with_reducible refine Below.alloc_ ?_ _)))); intro D9 d9 acc9 w9 H9 o9 b9 g9; have kr9 : Blk w9 w.heap.size 33 ec := Blk.grown (HKR.out _ (by (focus (repeat (first | (with_reducible exact b5) | (with_reducible exact Below.refl _ _) | (with_reducible refine Below.drew_ ?_) | (with_reducible refine Below.alloc_ ?_ _)))))) g9 (fun e => by have := (oLT.out _ e.symm).1; omega)))
                all_goals
                  clear HBW KS HKR KS1 HBS HOWN HREP hb1 hb2 hb3 hk0
                  go_wp2_with fail
                  go_roundw
                  case rel => exact ⟨k + 1, acc9, D9, d9, by omega, by go_num, rfl, o9, by rw [HST2.out, H9.out, H5.out]; rfl, by rw [H9.out, List.length_append]; show acc2.length + 2 ≤ _; omega, kr9, b9⟩
                  case measure => simp [intOf]; omega
        · obtain rfl : k = ixs.length := by omega
          have HEQ : Hid (acc = wrE ⟨⟨id, keys, tn, cols, ixs⟩, sts⟩) := by
            show _ = _
            have h1 := HL.out
            rw [HACC.out, HHE.out, List.take_length, ← h1, List.take_length]
            rfl
          have hle : acc.length ≤ 4096 := by omega
          have sA := Own.sl o (by simp only [AnyE]; omega)
          have hs1 : ∀ x ∈ acc, x.sm := by rw [HEQ.out]; exact fun x hx => (HOK.out x hx).1
          have hs2 : ∀ x ∈ acc, x.err = 0 ∧ x.wfv := by rw [HEQ.out]; exact fun x hx => (HOK.out x hx).2
          have T := enc_any acc D d wo sA hs1 hs2 hle
          clear hs1 hs2 o HACC
          go_wp2_with fail
          refine T.mono ?_
          rintro en w2 ⟨B2, d2, rfl, o2, b2⟩
          go_wp2_with fail
          go_ret
          rw [← HEQ.out]
          exact ⟨B2, d2, rfl, o2.base zo, br.trans (b2.mono zo)⟩
end Go.Proofs.Ytemidaamnldjmaa
