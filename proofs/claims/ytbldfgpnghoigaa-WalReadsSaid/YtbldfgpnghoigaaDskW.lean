/- Append: bytes into a file's tail. Arm and Sync. Remove. -/
import Derived.Test.YtbldfgpnghoigaaDskD
import Derived.Deep.RegionHeld3
namespace Go.Proofs.Ytbldfgpnghoigaa
open Go.RowKit
open Go.Maps

/-- what stands under a name in memory -/
def OldF (fs : List DF) (nm : List UInt8) (A : Option Addr) (data : List UInt8) (c safe : Nat) : Prop :=
  (∃ q ∈ fs, q.name = nm ∧ q.A = A ∧ q.data = data ∧ q.c = c ∧ q.safe = safe) ∨ (nm ∉ fs.map DF.name ∧ A = none ∧ data = [] ∧ c = 0 ∧ safe = 0)
theorem FilesAt.nodup {w : World} {mv : Value} {fs : List DF} (h : FilesAt w mv fs) : (fs.map DF.name).Nodup := by
  rcases h with ⟨_, rfl⟩ | ⟨_, _, _, _, hD⟩
  · exact List.nodup_nil
  · exact hD.2.1
theorem OldF.get {fs : List DF} {nm : List UInt8} {A : Option Addr} {data : List UInt8} {c safe : Nat} (h : OldF fs nm A data c safe) (hn : (fs.map DF.name).Nodup) : getP (fs.map DF.p) nm = (data, safe) := by
  rcases h with ⟨q, hq, rfl, rfl, rfl, rfl, rfl⟩ | ⟨hm, rfl, rfl, rfl, rfl⟩
  · exact getP_some hn hq
  · exact getP_none hm
theorem OldF.row {fs : List DF} {nm : List UInt8} {A : Option Addr} {data : List UInt8} {c safe : Nat} {w : World} {S : Nat → Prop} (h : OldF fs nm A data c safe) (hr : Rows_ w S fs) : Bs w A data ∧ At S A data.length ∧ safe ≤ data.length := by
  rcases h with ⟨q, hq, rfl, rfl, rfl, rfl, rfl⟩ | ⟨hm, rfl, rfl, rfl, rfl⟩
  · exact ⟨(hr q hq).1, (hr q hq).2.1, (hr q hq).2.2.2.2⟩
  · exact ⟨(OwnB.nil_ 0 w).bs (by decide), (fun _ h => by cases h), Nat.le_refl _⟩
theorem FilesAt.same {w w' : World} {mv : Value} {fs : List DF} (h : FilesAt w mv fs) (hs : ∀ g, g < w.heap.size → mv = .map (some g) → w'.heap[g]? = w.heap[g]?) : FilesAt w' mv fs := by
  rcases h with h | ⟨mb, D, rfl, ⟨es, c, h1, h2⟩, hD⟩
  · exact .inl h
  · have hl : mb < w.heap.size := by
      rcases Nat.lt_or_ge mb w.heap.size with h5 | h5
      · exact h5
      · rw [Array.getElem?_eq_none h5] at h1; cases h1
    exact .inr ⟨mb, D, rfl, ⟨es, c, (hs mb hl rfl).trans h1, h2⟩, hD⟩
theorem FilesAt.lt {w : World} {mv : Value} {fs : List DF} (h : FilesAt w mv fs) {g : Nat} (e : mv = .map (some g)) : g < w.heap.size := by
  rcases h with ⟨rfl, _⟩ | ⟨mb, D, rfl, h, _⟩
  · cases e
  · injection e with e
    injection e with e
    subst e
    exact h.lt
theorem mem_used {q : DF} : ∀ {fs : List DF}, q ∈ fs → q.data.length ≤ usedL fs
  | [], h => by cases h
  | x :: r, h => by
    have e : usedL (x :: r) = x.data.length + usedL r := by unfold usedL; rw [List.map_cons, List.sum_cons]
    rw [e]
    rcases List.mem_cons.1 h with rfl | h
    · omega
    · have := mem_used h; omega
theorem OldF.used {fs : List DF} {nm : List UInt8} {A : Option Addr} {data : List UInt8} {c safe : Nat} (h : OldF fs nm A data c safe) : data.length ≤ usedL fs := by
  rcases h with ⟨q, hq, rfl, rfl, rfl, rfl, rfl⟩ | ⟨hm, rfl, rfl, rfl, rfl⟩
  · exact mem_used hq
  · exact Nat.zero_le _
section
variable {ops : Array Oper} {rest : List Oper} {o : Oper} {a : Act} {Q : Exit → Act → World → Prop} {w : World}
theorem wpList_lookF (hg : o.guard = none) (m x : Operand) (hop : o.op = Op.lookup 70 m x false) (mv : Value) (fs : List DF) (hm : a.eval m = mv) (hf : FilesAt w mv fs) (nm : List UInt8) (hn : nm.length ≤ 140737488355328) (hx : a.eval x = .string ⟨nm.toArray⟩)
    (hK : ∀ A data c safe, OldF fs nm A data c safe → wpList Try.prog ops Q rest (a.put o.dst (.agg #[.slice A data.length c, .int .i64 (safe : Int)])) w) : wpList Try.prog ops Q (o :: rest) a w := by
  have law : Keyed Try.prog 9 := string_keyed Try.underlying9
  have hkey := key_lit nm hn
  rcases hf with ⟨rfl, rfl⟩ | ⟨mb, D, rfl, hown, hD⟩
  · have hln := Maps.look_nil (P := Try.prog) (w := w) false law Try.underlying70 (z := zF) (zeroF w) hkey
    simp only [Bool.false_eq_true, if_false] at hln
    refine wpList_plain hg fun K' hK' => ?_
    unfold Oper.wp
    simp [execOp, hop, hm, hx, hln, Result.andThen]
    exact hK' _ _ (hK none [] 0 0 (Or.inr ⟨(fun h => by cases h), rfl, rfl, rfl, rfl⟩))
  · rcases hD.look nm with ⟨q, hq, rfl, ha, hh⟩ | ⟨hm2, ha, hh⟩
    · exact wpList_look _ hg m x _ hop 9 92 law Try.underlying70 zF (zeroF _) mb fs.length D hm hown _ _ hx hkey _ ha (hK q.A q.data q.c q.safe (Or.inl ⟨q, hq, rfl, rfl, rfl, rfl, rfl⟩))
    · exact wpList_look _ hg m x _ hop 9 92 law Try.underlying70 zF (zeroF _) mb fs.length D hm hown _ _ hx hkey zF ha (hK none [] 0 0 (Or.inr ⟨hm2, rfl, rfl, rfl, rfl⟩))
end
/-- a disk behind a call: what is answered, and the disk -/
def RetD (b : Nat) (S : Nat → Prop) (mv : Value) (r : Int × LDisk × List PFile) (w : World) (en : Ending) (w' : World) : Prop :=
  en = .returned (.int .i64 r.1) ∧ DiskTo b S mv r.2.1 r.2.2 w w'
set_option maxRecDepth 100000 in
set_option maxHeartbeats 2000000 in
theorem append_any (d : LDisk) (mv : Value) (b : Nat) (fs : List DF) (S : Nat → Prop) (nm : List UInt8) (X : Option Addr) (x : List UInt8) (xc : Nat) (w : World)
    (hd : Disk_ w b S mv d fs) (hx : Bs w X x) (hxS : At (fun g => g ≠ b ∧ mv ≠ .map (some g)) X x.length) (hn : nm.length ≤ 140737488355328) (hsz : fs.length ≤ 1048576)
    (hu : usedL fs ≤ 70368744177664) (hxl : x.length ≤ 70368744177664) (hroom : 0 ≤ d.room ∧ d.room ≤ 9223372036854775807) (hl : d.armed = true → 0 ≤ d.left ∧ d.left ≤ 9223372036854775807) :
    Calls Try.prog 20 #[.pointer (some ⟨b, 0, none⟩), .string ⟨nm.toArray⟩, .slice X x.length xc] w (RetD b S mv (appP d (fs.map DF.p) nm x) w) := by
  obtain ⟨hk, hf, hr, hbm, hS⟩ := hd
  have hnd := hf.nodup
  have lb := hk.lt
  have hup := usedP_map fs
  have U := used_any d mv b fs w.drew hk.drew (by rcases hf with h | ⟨mb, D, h1, h2, h3⟩; exact .inl h; exact .inr ⟨mb, D, h1, h2.drew, h3⟩) (by omega)
  have hxc := hx.le
  go_enter Try.func20, Try.ntmps20
  go_upto_region 2 with fail
  refine wp_region_noPanic ?_
  have kd := hk.drew
  refine wp_region_held_drew (S := fun Y => Y.cell? ⟨b, 1, none⟩ = some (.int .i64 d.room)) (by kernel_rfl) (kd.cell 1) (fun hH => ?_)
  refine wpAnyH_take (i := 0) (v := ?_) rfl (by kernel_rfl) (by kernel_rfl) (by kernel_rfl) (fun _ _ _ h => h) (Or.inl ⟨by rfl, ?_⟩) hH ?_
  case refine_2 => intro w hSw; go_simp; try with_reducible rfl
  try simp only [List.getElem_toArray, List.getElem_cons_zero, Act.put, List.setIfInBounds_toArray, List.set_cons_zero, List.set_cons_succ]
  refine wpAnyH_take (i := 1) (v := ?_) rfl (by kernel_rfl) (by kernel_rfl) (by kernel_rfl) (fun _ _ _ h => h) (Or.inl ⟨by rfl, ?_⟩) hH ?_
  case refine_2 => intro w hSw; go_simp; try with_reducible rfl
  try simp only [List.getElem_toArray, List.getElem_cons_succ, List.getElem_cons_zero, Act.put, List.setIfInBounds_toArray, List.set_cons_zero, List.set_cons_succ]
  refine wpAnyH_take (i := 2) (v := ?_) rfl (by kernel_rfl) (by kernel_rfl) (by kernel_rfl) (fun _ _ _ h => h) (Or.inl ⟨by rfl, ?_⟩) hH ?_
  case refine_2 => intro w hSw; go_simp; try with_reducible rfl
  try simp only [List.getElem_toArray, List.getElem_cons_succ, List.getElem_cons_zero, Act.put, List.setIfInBounds_toArray, List.set_cons_zero, List.set_cons_succ]
  refine wpAnyH_take (i := 3) (v := ?_) rfl (by kernel_rfl) (by kernel_rfl) (by kernel_rfl) (fun _ _ _ h => h) (Or.inl ⟨by rfl, ?_⟩) hH ?_
  case refine_2 => intro w hSw; go_simp; try with_reducible rfl
  try simp only [List.getElem_toArray, List.getElem_cons_succ, List.getElem_cons_zero, Act.put, List.setIfInBounds_toArray, List.set_cons_zero, List.set_cons_succ]
  refine wpAnyH_take (i := 4) (v := ?_) rfl (by kernel_rfl) (by kernel_rfl) (by kernel_rfl) (fun _ _ _ h => h) (Or.inl ⟨by rfl, ?_⟩) hH ?_
  case refine_2 => intro w hSw; go_simp; try with_reducible rfl
  try simp only [List.getElem_toArray, List.getElem_cons_succ, List.getElem_cons_zero, Act.put, List.setIfInBounds_toArray, List.set_cons_zero, List.set_cons_succ]
  refine wpAnyH_take (i := 5) (v := ?_) rfl (by kernel_rfl) (by kernel_rfl) (by kernel_rfl) (fun _ _ _ h => h) (Or.inl ⟨by rfl, ?_⟩) hH ?_
  case refine_2 => intro w hSw; have s0 : w.cell? ⟨b, 1, none⟩ = some (.int .i64 d.room) := hSw; go_simp; try with_reducible rfl
  try simp only [List.getElem_toArray, List.getElem_cons_succ, List.getElem_cons_zero, Act.put, List.setIfInBounds_toArray, List.set_cons_zero, List.set_cons_succ]
  refine wpAnyH_take (i := 6) (v := ?_) rfl (by kernel_rfl) (by kernel_rfl) (by kernel_rfl) (fun _ _ _ h => h) (Or.inl ⟨by rfl, ?_⟩) hH ?_
  case refine_2 => intro w hSw; go_simp; try with_reducible rfl
  try simp only [List.getElem_toArray, List.getElem_cons_succ, List.getElem_cons_zero, Act.put, List.setIfInBounds_toArray, List.set_cons_zero, List.set_cons_succ]
  refine wpAnyH_ready (rs := [7]) (by kernel_rfl) (by simp) ?_
  refine AllReadyH.cons rfl (fun K hK => ?_) AllReadyH.nil
  go_simp
  refine U.mono ?_
  clear U
  rintro en w1 ⟨rfl, b1⟩
  have k1 := kd.below b1 kd.lt
  refine hK.out _ _ (k1.cell 1) (fun hH => ?_)
  clear hK K
  try dsimp only
  try simp only [List.getElem_toArray, List.getElem_cons_succ, List.getElem_cons_zero, Act.put, List.setIfInBounds_toArray, List.set_cons_zero, List.set_cons_succ]
  refine wpAnyH_take (i := 8) (v := ?_) rfl (by kernel_rfl) (by kernel_rfl) (by kernel_rfl) (fun _ _ _ h => h) (Or.inl ⟨by rfl, ?_⟩) hH ?_
  case refine_2 => intro w hSw; go_simp; try with_reducible rfl
  try simp only [List.getElem_toArray, List.getElem_cons_succ, List.getElem_cons_zero, Act.put, List.setIfInBounds_toArray, List.set_cons_zero, List.set_cons_succ]
  refine wpAnyH_take (i := 9) (v := ?_) rfl (by kernel_rfl) (by kernel_rfl) (by kernel_rfl) (fun _ _ _ h => h) (Or.inl ⟨by rfl, ?_⟩) hH ?_
  case refine_2 => intro w hSw; go_simp; try with_reducible rfl
  try simp only [List.getElem_toArray, List.getElem_cons_succ, List.getElem_cons_zero, Act.put, List.setIfInBounds_toArray, List.set_cons_zero, List.set_cons_succ]
  refine wpAnyH_done (by kernel_rfl) ?_ _
  refine NoPanic.normal ?_
  clear hH
  have hw : IntKind.i64.wrap (d.room - (usedP (fs.map DF.p) : Int)) = d.room - (usedP (fs.map DF.p) : Int) := by rw [IntKind.wrap_i64]; omega
  rw [hw]
  clear hw
  have bd : Below w.heap.size w w.drew := (Below.refl _ _).drew
  have b01 : Below w.heap.size w w1 := bd.trans (b1.mono bd.size)
  have hP : ∀ full : Bool, decide (d.room - (usedP (fs.map DF.p) : Int) < (x.length : Int)) = full → appP d (fs.map DF.p) nm x = (if (turnL d (if full then 8 else 0)).1 || ((turnL d (if full then 8 else 0)).2.2.dead && !d.dead) then ((turnL d (if full then 8 else 0)).2.1, (turnL d (if full then 8 else 0)).2.2, putP (fs.map DF.p) (nm, (getP (fs.map DF.p) nm).1 ++ x, (getP (fs.map DF.p) nm).2)) else ((turnL d (if full then 8 else 0)).2.1, (turnL d (if full then 8 else 0)).2.2, fs.map DF.p)) := by
    rintro full rfl
    unfold appP
    simp only [decide_eq_true_eq]
  have hP2 := hP _ rfl
  clear hP
  generalize decide (d.room - (usedP (fs.map DF.p) : Int) < (x.length : Int)) = full at hP2 ⊢
  have HP := Lib.hid hP2
  clear hP2 kd bd b1
  obtain ⟨e0, he0⟩ : ∃ e0 : Int, e0 = (if full then 8 else 0) := ⟨_, rfl⟩
  rw [← he0] at HP
  have HE := Lib.hid he0
  clear he0
  go_upto_if 20 with fail
  go_cut [7] (fun s7 wx => s7 = .int .i64 e0 ∧ wx = w1)
  case first =>
    cases full with
    | true =>
      go_wp2_with fail
      go_meet
      case rel => exact ⟨by rw [HE.out]; rfl, rfl⟩
    | false =>
      go_wp2_with fail
      go_meet
      case rel => exact ⟨by rw [HE.out]; rfl, rfl⟩
  case rest =>
    obtain ⟨rfl, hwc⟩ := hcut
    replace hwc := hwc.symm
    subst hwc
    have y4 : w1.cell? ⟨b, 4, none⟩ = some (.bool d.dead) := k1.cell 4
    go_wp2_with fail
    refine (turn_any d mv b e0 w1 k1 hl).mono ?_
    clear y4
    generalize turnL d e0 = r at HP ⊢
    obtain ⟨ok, er, d2⟩ := r
    rintro en w2 ⟨rfl, k2, g2⟩
    have eq2 : ∀ g, g < w.heap.size → g ≠ b → w2.heap[g]? = w.heap[g]? := fun g h1 h2 => (g2.block g (Nat.lt_of_lt_of_le h1 b01.size) (fun e => h2 (Option.some.inj e))).trans (b01.block g h1)
    have hf2 : FilesAt w2 mv fs := hf.same fun g h1 h2 => eq2 g h1 (fun e => hbm (by rw [h2, e]))
    have s2 : w.heap.size ≤ w2.heap.size := Nat.le_trans b01.size g2.size
    have hr2 : Rows_ w2 S fs := hr.same ⟨s2, fun g h1 h2 => eq2 g h2 (hS g h1).2.1⟩
    have hx2 : Bs w2 X x := hx.sameS hxS ⟨s2, fun g h1 h2 => eq2 g h2 h1.1⟩
    have D2 : DKept b mv w w2 := ⟨s2, fun g h1 h2 _ => eq2 g h1 h2, (OTO.of_below b01).trans (OTO.of_grown g2)⟩
    have y24 : w2.cell? ⟨b, 4, none⟩ = some (.bool d2.dead) := k2.cell 4
    clear eq2 g2 b01 k1 hf hr hx hk
    dsimp only at HP k2 ⊢
    go_upto_region 6 with fail
    go_cut [41] (fun s wx => s = .bool (ok || (d2.dead && !d.dead)) ∧ wx = w2)
    case first =>
      generalize hdd : d2.dead = dd at y24
      generalize d.dead = ds at *
      cases ok with
      | true =>
        go_wp2_with fail
        go_meet
        case rel => exact ⟨rfl, rfl⟩
      | false =>
        cases dd with
        | false =>
          go_wp2_with fail
          go_meet
          case rel => exact ⟨by rw [hdd]; rfl, rfl⟩
        | true =>
          cases ds with
          | false =>
            go_wp2_with fail
            go_meet
            case rel => exact ⟨by rw [hdd]; rfl, rfl⟩
          | true =>
            go_wp2_with fail
            go_meet
            case rel => exact ⟨by rw [hdd]; rfl, rfl⟩
    case rest =>
      obtain ⟨rfl, hwc⟩ := hcut
      replace hwc := hwc.symm
      subst hwc
      generalize (ok || (d2.dead && !d.dead)) = gb at HP ⊢
      cases gb with
      | false =>
        go_wp2_with fail
        go_ret
        rw [HP.out]
        exact ⟨rfl, mv, S, fs, ⟨k2, hf2, hr2, hbm, fun g h => ⟨Nat.lt_of_lt_of_le (hS g h).1 s2, (hS g h).2⟩⟩, rfl, fun g h => .inl h, .inl rfl, D2⟩
      | true =>
        have y20 : w2.cell? ⟨b, 0, none⟩ = some mv := k2.cell 0
        clear y24
        go_upto_region 8 with (at_lookup; refine wpList_lookF rfl _ _ rfl mv fs rfl hf2 nm hn rfl ?_; intro A data c safe hold)
        obtain ⟨hb, hat, hsafe⟩ := hold.row hr2
        have hget := hold.get hnd
        have hus := hold.used
        have d3 : Below w2.heap.size w2 (w2.alloc (.cells #[.slice A data.length c, .int .i64 (safe : Int)] 92)) := (Below.refl _ _).alloc (Nat.le_refl _) _
        have k3 := k2.below d3 k2.lt
        have kq := Blk.new w2 92 #[.slice A data.length c, .int .i64 (safe : Int)]
        have hb3 := hb.below d3
        have hx3 := hx2.below d3
        clear y20 hold
        generalize (w2.alloc (.cells #[.slice A data.length c, .int .i64 (safe : Int)] 92)) = w3 at *
        have z0 : w3.cell? ⟨w2.heap.size, 0, none⟩ = some (.slice A data.length c) := kq.cell 0
        go_wp2_with fail
        refine (bclone_any A data c w3 hb3).mono ?_
        rintro en w4 ⟨A4, c4, rfl, oA, b4⟩
        have hx4 := hx3.below b4
        have oA4 : OwnB w3.heap.size w4 A4 data c4 := oA
        clear z0 oA
        have key : ∀ A5 c5 (acc5 : List UInt8) w5, OwnB w3.heap.size w5 A5 acc5 c5 → Below w3.heap.size w3 w5 → Blk w5 w2.heap.size 92 #[.slice A data.length c, .int .i64 (safe : Int)] ∧ w5.frozen? ⟨w2.heap.size, 0, none⟩ = false := fun A5 c5 acc5 w5 o5 b5 => ⟨kq.below b5 kq.lt, (kq.below b5 kq.lt).frozen 0⟩
        go_upto_region 9 with (at_builtin; refine wpList_app w3.heap.size w3 _ rfl (.tmp 50) (.tmp 51) rfl A4 data c4 rfl oA4 X x xc rfl hx4 (by omega) b4 (Nat.le_refl _) b4.size ?_; intro A5 c5 acc5 w5 H5 o5 b5 g5 t5; obtain ⟨kq5, f5⟩ := key A5 c5 acc5 w5 o5 b5; have x5 : w5.cell? ⟨w2.heap.size, 0, none⟩ = some (.slice A data.length c) := kq5.cell 0)
        have z3 := d3.size
        have l2 := kq.lt
        have k2l := k2.lt
        have z5 := b5.size
        have g6 : w5.grownBy (w5.setCell ⟨w2.heap.size, 0, none⟩ (.slice A5 acc5.length c5)) (some w2.heap.size) := only_setCell (World.grownBy.refl _ _) (p := ⟨w2.heap.size, 0, none⟩) (.inl rfl) _
        have kq6 : Blk (w5.setCell ⟨w2.heap.size, 0, none⟩ (.slice A5 acc5.length c5)) w2.heap.size 92 #[.slice A5 acc5.length c5, .int .i64 (safe : Int)] := kq5.set_ 0 (.slice A5 acc5.length c5)
        have o6 := OwnB.kept o5 g6 (fun g h e => by have h1 := (OwnB.lt o5 g h).1; have := Option.some.inj e; omega)
        have k6 := (k3.below b5 k3.lt).grown g6 (fun e => by have := Option.some.inj e; omega)
        have eq6 : ∀ g, g < w2.heap.size → (w5.setCell ⟨w2.heap.size, 0, none⟩ (.slice A5 acc5.length c5)).heap[g]? = w2.heap[g]? := fun g h => ((g6.block g (by omega) (fun e => by have := Option.some.inj e; omega)).trans (b5.block g (by omega))).trans (d3.block g h)
        have z6 := g6.size
        have o26 : OTO w2 (w5.setCell ⟨w2.heap.size, 0, none⟩ (.slice A5 acc5.length c5)) := (OTO.of_below d3).trans ((OTO.of_below b5).trans (OTO.of_grown g6))
        clear key x5 f5 kq5 kq k3 b5 b4 d3 g6 g5 t5 oA4 hx3 hx4 hb3 o5
        generalize (w5.setCell ⟨w2.heap.size, 0, none⟩ (.slice A5 acc5.length c5)) = w6 at *
        have hf6 : FilesAt w6 mv fs := hf2.same fun g h _ => eq6 g h
        have y60 : w6.cell? ⟨w2.heap.size, 0, none⟩ = some (.slice A5 acc5.length c5) := kq6.cell 0
        have y61 : w6.cell? ⟨w2.heap.size, 1, none⟩ = some (.int .i64 (safe : Int)) := kq6.cell 1
        go_wp2_with fail
        refine (put_any d2 mv b fs ⟨nm, A5, acc5, c5, safe⟩ w6 k6 hf6 hbm hn hsz).mono ?_
        rintro en w7 ⟨rfl, mv', k7, hf7, ⟨mb, rfl, hmb⟩, D7⟩
        clear y60 y61
        go_wp2_with fail
        go_ret
        rw [HP.out, if_pos trivial, hget]
        have hlt : ∀ g, mv = .map (some g) → g < w2.heap.size := fun g e => hf2.lt e
        have hmb2 : (mv = .map (some mb) ∧ mb < w2.heap.size) ∨ (mv = .map none ∧ w6.heap.size ≤ mb) := hmb.imp (fun e => ⟨e, hlt mb e⟩) id
        have lb2 : b < w2.heap.size := k2l
        have s7 : w2.heap.size ≤ w7.heap.size := by have := D7.1; omega
        have D27 : DKept b mv w2 w7 := ⟨s7, fun g h1 h2 h3 => (D7.2 g (by omega) h2 h3).trans (eq6 g h1), o26.trans D7.3⟩
        have hacc : acc5.length = data.length + x.length := by rw [H5.out, List.length_append]
        refine ⟨rfl, .map (some mb), (fun g => S g ∨ (w3.heap.size ≤ g ∧ g < w6.heap.size)), putF fs ⟨nm, A5, acc5, c5, safe⟩, ⟨k7, hf7, ?_, ?_, ?_⟩, ?_, ?_, ?_, DKept.trans D2 D27 (.inl rfl)⟩
        · intro q hq
          rcases List.mem_cons.1 hq with rfl | hq
          · exact ⟨(OwnB.bs o6 (by omega)).sameS (OwnB.at_ o6) ⟨D7.1, fun g h1 h2 => D7.2 g h2 (by omega) (fun e => by have := hlt g e; omega)⟩, fun ad e h => .inr (OwnB.at_ o6 ad e h), (OwnB.caps o6).1, (OwnB.caps o6).2, by show safe ≤ acc5.length; omega⟩
          · obtain ⟨h1, h2, h3⟩ := hr2 q (mem_delF.1 hq).1
            exact ⟨h1.sameS h2 ⟨s7, fun g h4 h5 => D27.2 g h5 (hS g h4).2.1 (hS g h4).2.2⟩, fun ad e h => .inl (h2 ad e h), h3⟩
        · intro e
          injection e with e
          have e := Option.some.inj e
          rcases hmb2 with ⟨h, _⟩ | ⟨_, h⟩
          · exact hbm (by rw [h, e])
          · omega
        · rintro g (h | h)
          · obtain ⟨h1, h2, h3⟩ := hS g h
            refine ⟨by have := D2.1; omega, h2, fun e => ?_⟩
            injection e with e
            have e := Option.some.inj e
            rcases hmb2 with ⟨h4, _⟩ | ⟨_, h4⟩
            · exact h3 (by rw [h4, e])
            · have := D2.1; omega
          · refine ⟨by have := D7.1; omega, by omega, fun e => ?_⟩
            injection e with e
            have e := Option.some.inj e
            rcases hmb2 with ⟨_, h4⟩ | ⟨_, h4⟩
            · omega
            · omega
        · rw [putP_map]
          show putP _ (nm, acc5, safe) = putP _ (nm, data ++ x, safe)
          rw [H5.out]
        · rintro g (h | h)
          · exact .inl h
          · exact .inr (by have := D2.1; omega)
        · rcases hmb2 with ⟨h, _⟩ | ⟨_, h⟩
          · exact .inl h.symm
          · exact .inr ⟨mb, rfl, by have := D2.1; omega⟩
end Go.Proofs.Ytbldfgpnghoigaa

namespace Go.Proofs.Ytbldfgpnghoigaa
open Go.RowKit
open Go.Maps

set_option maxRecDepth 100000 in
set_option maxHeartbeats 2000000 in
theorem arm_any (d : LDisk) (mv : Value) (b : Nat) (n : Int) (w : World) (hk : Blk w b 72 (diskC mv d)) :
    Calls Try.prog 33 #[.pointer (some ⟨b, 0, none⟩), .int .i64 n] w (fun en w' => en = .returned (.tuple #[]) ∧ Blk w' b 72 (diskC mv { d with armed := decide (0 ≤ n), left := n }) ∧ w.grownBy w' (some b)) := by
  have y2 : w.cell? ⟨b, 2, none⟩ = some (.bool d.armed) := hk.cell 2
  have y3 : w.cell? ⟨b, 3, none⟩ = some (.int .i64 d.left) := hk.cell 3
  have f2 : w.frozen? ⟨b, 2, none⟩ = false := hk.frozen 2
  have f3 : w.frozen? ⟨b, 3, none⟩ = false := hk.frozen 3
  have k1 : Blk (w.setCell ⟨b, 2, none⟩ (.bool (decide (0 ≤ n)))) b 72 (diskC mv { d with armed := decide (0 ≤ n) }) := hk.set_ 2 _
  have y13 : (w.setCell ⟨b, 2, none⟩ (.bool (decide (0 ≤ n)))).cell? ⟨b, 3, none⟩ = some (.int .i64 d.left) := k1.cell 3
  have f13 : (w.setCell ⟨b, 2, none⟩ (.bool (decide (0 ≤ n)))).frozen? ⟨b, 3, none⟩ = false := k1.frozen 3
  have k2 : Blk ((w.setCell ⟨b, 2, none⟩ (.bool (decide (0 ≤ n)))).setCell ⟨b, 3, none⟩ (.int .i64 n)) b 72 (diskC mv { d with armed := decide (0 ≤ n), left := n }) := k1.set_ 3 _
  have g2 : w.grownBy ((w.setCell ⟨b, 2, none⟩ (.bool (decide (0 ≤ n)))).setCell ⟨b, 3, none⟩ (.int .i64 n)) (some b) := only_setCell (only_setCell (World.grownBy.refl _ _) (p := ⟨b, 2, none⟩) (.inl rfl) _) (p := ⟨b, 3, none⟩) (.inl rfl) _
  clear k1
  go_enter Try.func33, Try.ntmps33
  go_wp2_with fail
  exact bodyEnd0 rfl rfl ⟨rfl, k2, g2⟩
theorem OldF.caps {fs : List DF} {nm : List UInt8} {A : Option Addr} {data : List UInt8} {c safe : Nat} {w : World} {S : Nat → Prop} (h : OldF fs nm A data c safe) (hr : Rows_ w S fs) : data.length ≤ c ∧ c ≤ 9223372036854775807 := by
  rcases h with ⟨q, hq, rfl, rfl, rfl, rfl, rfl⟩ | ⟨hm, rfl, rfl, rfl, rfl⟩
  · exact ⟨(hr q hq).2.2.1, (hr q hq).2.2.2.1⟩
  · exact ⟨Nat.le_refl _, by decide⟩
/-- sync: the error, the disk, the files -/
def syncP (d : LDisk) (fs : List PFile) (nm : List UInt8) : Int × LDisk × List PFile :=
  let r := turnL d (if hasP fs nm then 0 else 6)
  if r.1 then (r.2.1, r.2.2, putP fs (nm, (getP fs nm).1, (getP fs nm).1.length)) else (r.2.1, r.2.2, fs)
set_option maxRecDepth 100000 in
set_option maxHeartbeats 2000000 in
theorem sync_any (d : LDisk) (mv : Value) (b : Nat) (fs : List DF) (S : Nat → Prop) (nm : List UInt8) (w : World)
    (hd : Disk_ w b S mv d fs) (hn : nm.length ≤ 140737488355328) (hsz : fs.length ≤ 1048576) (hl : d.armed = true → 0 ≤ d.left ∧ d.left ≤ 9223372036854775807) :
    Calls Try.prog 55 #[.pointer (some ⟨b, 0, none⟩), .string ⟨nm.toArray⟩] w (RetD b S mv (syncP d (fs.map DF.p) nm) w) := by
  obtain ⟨hk, hf, hr, hbm, hS⟩ := hd
  have hnd := hf.nodup
  have lb := hk.lt
  have T := there_any d mv b fs nm w hk hf hn
  have hP2 : syncP d (fs.map DF.p) nm = (if (turnL d (if nm ∈ fs.map DF.name then 0 else 6)).1 then ((turnL d (if nm ∈ fs.map DF.name then 0 else 6)).2.1, (turnL d (if nm ∈ fs.map DF.name then 0 else 6)).2.2, putP (fs.map DF.p) (nm, (getP (fs.map DF.p) nm).1, (getP (fs.map DF.p) nm).1.length)) else ((turnL d (if nm ∈ fs.map DF.name then 0 else 6)).2.1, (turnL d (if nm ∈ fs.map DF.name then 0 else 6)).2.2, fs.map DF.p)) := by
    have e : (if hasP (fs.map DF.p) nm then (0 : Int) else 6) = if nm ∈ fs.map DF.name then 0 else 6 := by simp only [hasP_map]
    unfold syncP
    rw [e]
  generalize (if nm ∈ fs.map DF.name then (0 : Int) else 6) = e0 at T hP2
  have HP := Lib.hid hP2
  clear hP2
  go_enter Try.func55, Try.ntmps55
  go_wp2_with fail
  refine T.mono ?_
  clear T
  rintro en w1 ⟨rfl, b01⟩
  have k1 := hk.below b01 hk.lt
  go_wp2_with fail
  refine (turn_any d mv b e0 w1 k1 hl).mono ?_
  generalize turnL d e0 = r at HP ⊢
  obtain ⟨ok, er, d2⟩ := r
  rintro en w2 ⟨rfl, k2, g2⟩
  have eq2 : ∀ g, g < w.heap.size → g ≠ b → w2.heap[g]? = w.heap[g]? := fun g h1 h2 => (g2.block g (Nat.lt_of_lt_of_le h1 b01.size) (fun e => h2 (Option.some.inj e))).trans (b01.block g h1)
  have hf2 : FilesAt w2 mv fs := hf.same fun g h1 h2 => eq2 g h1 (fun e => hbm (by rw [h2, e]))
  have s2 : w.heap.size ≤ w2.heap.size := Nat.le_trans b01.size g2.size
  have hr2 : Rows_ w2 S fs := hr.same ⟨s2, fun g h1 h2 => eq2 g h2 (hS g h1).2.1⟩
  have D2 : DKept b mv w w2 := ⟨s2, fun g h1 h2 _ => eq2 g h1 h2, (OTO.of_below b01).trans (OTO.of_grown g2)⟩
  clear eq2 g2 b01 k1 hf hr hk
  dsimp only at HP k2 ⊢
  cases ok with
  | false =>
    go_wp2_with fail
    go_ret
    rw [HP.out]
    exact ⟨rfl, mv, S, fs, ⟨k2, hf2, hr2, hbm, fun g h => ⟨Nat.lt_of_lt_of_le (hS g h).1 s2, (hS g h).2⟩⟩, rfl, fun g h => .inl h, .inl rfl, D2⟩
  | true =>
    have y20 : w2.cell? ⟨b, 0, none⟩ = some mv := k2.cell 0
    go_upto_region 4 with (at_lookup; refine wpList_lookF rfl _ _ rfl mv fs rfl hf2 nm hn rfl ?_; intro A data c safe hold)
    obtain ⟨hb, hat, hsafe⟩ := hold.row hr2
    have hcp := hold.caps hr2
    have hget := hold.get hnd
    have hble := hb.le
    have d3 : Below w2.heap.size w2 (w2.alloc (.cells #[.slice A data.length c, .int .i64 (safe : Int)] 92)) := (Below.refl _ _).alloc (Nat.le_refl _) _
    have k3 := k2.below d3 k2.lt
    have kq := Blk.new w2 92 #[.slice A data.length c, .int .i64 (safe : Int)]
    clear y20 hold
    generalize (w2.alloc (.cells #[.slice A data.length c, .int .i64 (safe : Int)] 92)) = w3 at *
    have z0 : w3.cell? ⟨w2.heap.size, 0, none⟩ = some (.slice A data.length c) := kq.cell 0
    have z1 : w3.cell? ⟨w2.heap.size, 1, none⟩ = some (.int .i64 (safe : Int)) := kq.cell 1
    have f1 : w3.frozen? ⟨w2.heap.size, 1, none⟩ = false := kq.frozen 1
    go_upto_region 5 with fail
    have z3 := d3.size
    have l2 := kq.lt
    have k2l := k2.lt
    have g6 : w3.grownBy (w3.setCell ⟨w2.heap.size, 1, none⟩ (.int .i64 (data.length : Int))) (some w2.heap.size) := only_setCell (World.grownBy.refl _ _) (p := ⟨w2.heap.size, 1, none⟩) (.inl rfl) _
    have kq6 : Blk (w3.setCell ⟨w2.heap.size, 1, none⟩ (.int .i64 (data.length : Int))) w2.heap.size 92 #[.slice A data.length c, .int .i64 (data.length : Int)] := kq.set_ 1 (.int .i64 (data.length : Int))
    have k6 := k3.grown g6 (fun e => by have := Option.some.inj e; omega)
    have eq6 : ∀ g, g < w2.heap.size → (w3.setCell ⟨w2.heap.size, 1, none⟩ (.int .i64 (data.length : Int))).heap[g]? = w2.heap[g]? := fun g h => (g6.block g (by omega) (fun e => by have := Option.some.inj e; omega)).trans (d3.block g h)
    have z6 := g6.size
    have o26 : OTO w2 (w3.setCell ⟨w2.heap.size, 1, none⟩ (.int .i64 (data.length : Int))) := (OTO.of_below d3).trans (OTO.of_grown g6)
    clear z0 z1 f1 kq k3 d3 g6
    generalize (w3.setCell ⟨w2.heap.size, 1, none⟩ (.int .i64 (data.length : Int))) = w6 at *
    have hf6 : FilesAt w6 mv fs := hf2.same fun g h _ => eq6 g h
    have y60 : w6.cell? ⟨w2.heap.size, 0, none⟩ = some (.slice A data.length c) := kq6.cell 0
    have y61 : w6.cell? ⟨w2.heap.size, 1, none⟩ = some (.int .i64 (data.length : Int)) := kq6.cell 1
    go_wp2_with fail
    refine (put_any d2 mv b fs ⟨nm, A, data, c, data.length⟩ w6 k6 hf6 hbm hn hsz).mono ?_
    rintro en w7 ⟨rfl, mv', k7, hf7, ⟨mb, rfl, hmb⟩, D7⟩
    clear y60 y61
    go_wp2_with fail
    go_ret
    rw [HP.out, if_pos trivial, hget]
    have hlt : ∀ g, mv = .map (some g) → g < w2.heap.size := fun g e => hf2.lt e
    have hmb2 : (mv = .map (some mb) ∧ mb < w2.heap.size) ∨ (mv = .map none ∧ w6.heap.size ≤ mb) := hmb.imp (fun e => ⟨e, hlt mb e⟩) id
    have s7 : w2.heap.size ≤ w7.heap.size := by have := D7.1; omega
    have D27 : DKept b mv w2 w7 := ⟨s7, fun g h1 h2 h3 => (D7.2 g (by omega) h2 h3).trans (eq6 g h1), o26.trans D7.3⟩
    refine ⟨rfl, .map (some mb), S, putF fs ⟨nm, A, data, c, data.length⟩, ⟨k7, hf7, ?_, ?_, ?_⟩, ?_, fun g h => .inl h, ?_, DKept.trans D2 D27 (.inl rfl)⟩
    · intro q hq
      rcases List.mem_cons.1 hq with rfl | hq
      · exact ⟨hb.sameS hat ⟨s7, fun g h4 h5 => D27.2 g h5 (hS g h4).2.1 (hS g h4).2.2⟩, hat, hcp.1, hcp.2, Nat.le_refl _⟩
      · obtain ⟨h1, h2, h3⟩ := hr2 q (mem_delF.1 hq).1
        exact ⟨h1.sameS h2 ⟨s7, fun g h4 h5 => D27.2 g h5 (hS g h4).2.1 (hS g h4).2.2⟩, h2, h3⟩
    · intro e
      injection e with e
      have e := Option.some.inj e
      rcases hmb2 with ⟨h, _⟩ | ⟨_, h⟩
      · exact hbm (by rw [h, e])
      · omega
    · intro g h
      obtain ⟨h1, h2, h3⟩ := hS g h
      refine ⟨by have := D2.1; omega, h2, fun e => ?_⟩
      injection e with e
      have e := Option.some.inj e
      rcases hmb2 with ⟨h4, _⟩ | ⟨_, h4⟩
      · exact h3 (by rw [h4, e])
      · have := D2.1; omega
    · exact putP_map _ _
    · rcases hmb2 with ⟨h, _⟩ | ⟨_, h⟩
      · exact .inl h.symm
      · exact .inr ⟨mb, rfl, by have := D2.1; omega⟩
end Go.Proofs.Ytbldfgpnghoigaa

namespace Go.Proofs.Ytbldfgpnghoigaa
open Go.RowKit
open Go.Maps

theorem turn_in {d : LDisk} {e0 : Int} {p : Prop} [Decidable p] (h : e0 = (if p then 0 else 6)) (ht : (turnL d e0).1 = true) : p := by
  by_cases hp : p
  · exact hp
  · rw [if_neg hp] at h
    subst h
    unfold turnL at ht
    split at ht
    · cases ht
    · rw [if_pos (by decide)] at ht
      cases ht
/-- remove: the error, the disk, the files -/
def removeP (d : LDisk) (fs : List PFile) (nm : List UInt8) : Int × LDisk × List PFile :=
  let r := turnL d (if hasP fs nm then 0 else 6)
  if r.1 then (r.2.1, r.2.2, delP fs nm) else (r.2.1, r.2.2, fs)
set_option maxRecDepth 100000 in
set_option maxHeartbeats 2000000 in
theorem remove_any (d : LDisk) (mv : Value) (b : Nat) (fs : List DF) (S : Nat → Prop) (nm : List UInt8) (w : World)
    (hd : Disk_ w b S mv d fs) (hn : nm.length ≤ 140737488355328) (hsz : fs.length ≤ 1048576) (hl : d.armed = true → 0 ≤ d.left ∧ d.left ≤ 9223372036854775807) :
    Calls Try.prog 56 #[.pointer (some ⟨b, 0, none⟩), .string ⟨nm.toArray⟩] w (RetD b S mv (removeP d (fs.map DF.p) nm) w) := by
  obtain ⟨hk, hf, hr, hbm, hS⟩ := hd
  have hnd := hf.nodup
  have lb := hk.lt
  have T := there_any d mv b fs nm w hk hf hn
  have hP2 : removeP d (fs.map DF.p) nm = (if (turnL d (if nm ∈ fs.map DF.name then 0 else 6)).1 then ((turnL d (if nm ∈ fs.map DF.name then 0 else 6)).2.1, (turnL d (if nm ∈ fs.map DF.name then 0 else 6)).2.2, delP (fs.map DF.p) nm) else ((turnL d (if nm ∈ fs.map DF.name then 0 else 6)).2.1, (turnL d (if nm ∈ fs.map DF.name then 0 else 6)).2.2, fs.map DF.p)) := by
    have e : (if hasP (fs.map DF.p) nm then (0 : Int) else 6) = if nm ∈ fs.map DF.name then 0 else 6 := by simp only [hasP_map]
    unfold removeP
    rw [e]
  obtain ⟨e0, he0⟩ : ∃ e0 : Int, e0 = (if nm ∈ fs.map DF.name then (0 : Int) else 6) := ⟨_, rfl⟩
  rw [← he0] at T hP2
  have hin : (turnL d e0).1 = true → nm ∈ fs.map DF.name := turn_in he0
  have HI := Lib.hid hin
  clear hin he0
  have HP := Lib.hid hP2
  clear hP2
  go_enter Try.func56, Try.ntmps56
  go_wp2_with fail
  refine T.mono ?_
  clear T
  rintro en w1 ⟨rfl, b01⟩
  have k1 := hk.below b01 hk.lt
  go_wp2_with fail
  refine (turn_any d mv b e0 w1 k1 hl).mono ?_
  generalize turnL d e0 = r at HP HI ⊢
  obtain ⟨ok, er, d2⟩ := r
  rintro en w2 ⟨rfl, k2, g2⟩
  have eq2 : ∀ g, g < w.heap.size → g ≠ b → w2.heap[g]? = w.heap[g]? := fun g h1 h2 => (g2.block g (Nat.lt_of_lt_of_le h1 b01.size) (fun e => h2 (Option.some.inj e))).trans (b01.block g h1)
  have hf2 : FilesAt w2 mv fs := hf.same fun g h1 h2 => eq2 g h1 (fun e => hbm (by rw [h2, e]))
  have s2 : w.heap.size ≤ w2.heap.size := Nat.le_trans b01.size g2.size
  have hr2 : Rows_ w2 S fs := hr.same ⟨s2, fun g h1 h2 => eq2 g h2 (hS g h1).2.1⟩
  have D2 : DKept b mv w w2 := ⟨s2, fun g h1 h2 _ => eq2 g h1 h2, (OTO.of_below b01).trans (OTO.of_grown g2)⟩
  clear eq2 g2 b01 k1 hf hr hk
  dsimp only at HP HI k2 ⊢
  cases ok with
  | false =>
    go_wp2_with fail
    go_ret
    rw [HP.out]
    exact ⟨rfl, mv, S, fs, ⟨k2, hf2, hr2, hbm, fun g h => ⟨Nat.lt_of_lt_of_le (hS g h).1 s2, (hS g h).2⟩⟩, rfl, fun g h => .inl h, .inl rfl, D2⟩
  | true =>
    have hmem := HI.out rfl
    rcases hf2 with ⟨_, rfl⟩ | ⟨mb, D, rfl, hown, hD⟩
    · cases hmem
    have law : Keyed Try.prog 9 := string_keyed Try.underlying9
    have hkey := key_lit nm hn
    have hT := hown.tidy law
    have hbmb : b ≠ mb := fun e => hbm (by rw [e])
    have y20 : w2.cell? ⟨b, 0, none⟩ = some (.map (some mb)) := k2.cell 0
    have hD9 := hD.del hT nm
    go_upto_region 4 with (at_delete; refine wpList_delete_own _ rfl _ _ 70 9 rfl 92 law Try.underlying70 rawR mb fs.length D rfl hown _ (.string nm) rfl hkey ?_; intro w9 hown9 hturn)
    have hg9 := hturn.grown
    have k9 := k2.grown hg9 (fun e => hbmb (Option.some.inj e))
    have ho9 := ownsMap_tight hown9
    rw [hD9.2.2.2.2] at ho9
    have D29 : DKept b (.map (some mb)) w2 w9 := ⟨hg9.size, fun g h1 h2 h3 => hg9.block g h1 (fun e => h3 (by rw [Option.some.inj e])), OTO.of_grown hg9⟩
    clear y20
    go_wp2_with fail
    go_ret
    rw [HP.out, if_pos trivial]
    refine ⟨rfl, .map (some mb), S, delF fs nm, ⟨k9, .inr ⟨mb, _, rfl, ho9, hD9⟩, ?_, hbm, fun g h => ⟨by have := D2.1; have := D29.1; have := (hS g h).1; omega, (hS g h).2⟩⟩, delP_map _ _, fun g h => .inl h, .inl rfl, DKept.trans D2 D29 (.inl rfl)⟩
    intro q hq
    obtain ⟨h1, h2, h3⟩ := hr2 q (mem_delF.1 hq).1
    exact ⟨h1.sameS h2 (D29.same fun g h => (hS g h).2), h2, h3⟩
end Go.Proofs.Ytbldfgpnghoigaa
