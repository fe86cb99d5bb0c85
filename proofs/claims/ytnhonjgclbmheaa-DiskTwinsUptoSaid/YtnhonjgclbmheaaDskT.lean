/- Twin: another disk like it. -/
import Derived.Test.YtnhonjgclbmheaaDskI
namespace Go.Proofs.Ytnhonjgclbmheaa
open Go.RowKit
open Go.Maps

/-- the files that are still to come -/
def leftF (left : Lit → Bool) (fs : List DF) : List DF := fs.filter (fun q => left (.string q.name))
theorem leftF_strike {left : Lit → Bool} : ∀ {fs : List DF}, (fs.map DF.name).Nodup → ∀ {q : DF}, q ∈ fs → left (.string q.name) = true → (leftF left fs).Perm (q :: leftF (fun z => left z && !z.sameKey (.string q.name)) fs)
  | [], _, _, hq, _ => by cases hq
  | x :: r, hn, q, hq, hl => by
    rw [List.map_cons, List.nodup_cons] at hn
    rcases List.mem_cons.1 hq with rfl | hq
    · have h1 : (left (.string q.name) && !(Lit.string q.name).sameKey (.string q.name)) = false := by rw [WideAt.sameKey_self (a := .string q.name) trivial]; simp
      have h2 : leftF (fun z => left z && !z.sameKey (.string q.name)) r = leftF left r := by
        unfold leftF
        refine List.filter_congr fun p hp => ?_
        show (left (.string p.name) && !(Lit.string p.name).sameKey (.string q.name)) = left (.string p.name)
        rw [sameKey_ne (lit_ne (fun e => hn.1 (by rw [← e]; exact List.mem_map_of_mem hp)))]
        simp
      have e1 : leftF left (q :: r) = q :: leftF left r := List.filter_cons_of_pos hl
      have e2 : leftF (fun z => left z && !z.sameKey (.string q.name)) (q :: r) = leftF (fun z => left z && !z.sameKey (.string q.name)) r := List.filter_cons_of_neg (by show ¬ ((left (.string q.name) && !(Lit.string q.name).sameKey (.string q.name)) = true); rw [h1]; decide)
      rw [e1, e2, h2]
    · have h1 : x.name ≠ q.name := fun e => hn.1 (by rw [e]; exact List.mem_map_of_mem hq)
      have h2 : (left (.string x.name) && !(Lit.string x.name).sameKey (.string q.name)) = left (.string x.name) := by rw [sameKey_ne (lit_ne h1)]; simp
      have ih := leftF_strike hn.2 hq hl
      cases hx : left (.string x.name) with
      | true =>
        have e1 : leftF left (x :: r) = x :: leftF left r := List.filter_cons_of_pos hx
        have e2 : leftF (fun z => left z && !z.sameKey (.string q.name)) (x :: r) = x :: leftF (fun z => left z && !z.sameKey (.string q.name)) r := List.filter_cons_of_pos (by show (left (.string x.name) && !(Lit.string x.name).sameKey (.string q.name)) = true; rw [h2]; exact hx)
        rw [e1, e2]
        exact (ih.cons x).trans (List.Perm.swap _ _ _)
      | false =>
        have e1 : leftF left (x :: r) = leftF left r := List.filter_cons_of_neg (by rw [hx]; decide)
        have e2 : leftF (fun z => left z && !z.sameKey (.string q.name)) (x :: r) = leftF (fun z => left z && !z.sameKey (.string q.name)) r := List.filter_cons_of_neg (by show ¬ ((left (.string x.name) && !(Lit.string x.name).sameKey (.string q.name)) = true); rw [h2, hx]; decide)
        rw [e1, e2]
        exact ih
theorem leftF_none {left : Lit → Bool} (h : ∀ kl, left kl = false) (fs : List DF) : leftF left fs = [] := by
  unfold leftF
  rw [List.filter_eq_nil_iff]
  intro q _
  rw [h]
  decide
theorem delF_far {gs : List DF} {k : List UInt8} (h : k ∉ gs.map DF.name) : delF gs k = gs := by
  unfold delF
  rw [List.filter_eq_self]
  intro q hq
  rw [bne_iff_ne]
  exact fun e => h (by rw [← e]; exact List.mem_map_of_mem hq)
theorem Disk_.putAt {w w9 : World} {b mb n : Nat} {S : Nat → Prop} {d : LDisk} {fs : List DF} {D : DataW Value} {q : DF} (hd : Disk_ w b S (.map (some mb)) d fs) (hD : DMap D fs) (hT : Tidy D)
    (ho : w9.ownsMap Try.prog 9 rawR mb n (D.put (.string q.name) (.held q.vv))) (hg : w.grownBy w9 (some mb))
    (hq : Bs w q.A q.data ∧ At S q.A q.data.length ∧ q.data.length ≤ q.c ∧ q.c ≤ 9223372036854775807 ∧ q.safe ≤ q.data.length) : Disk_ w9 b S (.map (some mb)) d (putF fs q) := by
  obtain ⟨hk, hf, hr, hbm, hS⟩ := hd
  have hD9 := hD.put hT q
  have ho9 := ownsMap_tight ho
  rw [hD9.2.2.2.2] at ho9
  have hsm : Same S w w9 := ⟨hg.size, fun g h4 h5 => hg.block g h5 (fun e => (hS g h4).2.2 (by rw [← e]))⟩
  refine ⟨hk.grown hg (fun e => hbm (by rw [Option.some.inj e])), .inr ⟨mb, _, rfl, ho9, hD9⟩, fun r hr' => ?_, hbm, fun g h => ⟨Nat.lt_of_lt_of_le (hS g h).1 hg.size, (hS g h).2⟩⟩
  rcases List.mem_cons.1 hr' with rfl | hr'
  · exact ⟨hq.1.sameS hq.2.1 hsm, hq.2⟩
  · obtain ⟨h1, h2, h3⟩ := hr r (mem_delF.1 hr').1
    exact ⟨h1.sameS h2 hsm, h2, h3⟩
/-- a twin in memory -/
def RetTwin (d : LDisk) (ps : List PFile) (w : World) (en : Ending) (w' : World) : Prop :=
  en = .returned (.pointer (some ⟨w.heap.size, 0, none⟩)) ∧ (∃ mv' S' fs', Disk_ w' w.heap.size S' mv' d fs' ∧ (fs'.map DF.p).Perm ps ∧ (∀ g, S' g → w.heap.size ≤ g) ∧ ∃ m, mv' = .map (some m) ∧ w.heap.size ≤ m) ∧ Below w.heap.size w w'
set_option maxRecDepth 100000 in
set_option maxHeartbeats 2000000 in
theorem twin_any (d : LDisk) (mv : Value) (b : Nat) (fs : List DF) (S : Nat → Prop) (w : World) (hd : Disk_ w b S mv d fs) (hsz : fs.length ≤ 1048575) (hn : ∀ q ∈ fs, q.name.length ≤ 140737488355328) :
    Calls Try.prog 21 #[.pointer (some ⟨b, 0, none⟩)] w (RetTwin d (fs.map DF.p) w) := by
  have HN := Lib.hid hn
  clear hn
  have y0 : w.cell? ⟨b, 0, none⟩ = some mv := hd.1.cell 0
  have y1 : w.cell? ⟨b, 1, none⟩ = some (.int .i64 d.room) := hd.1.cell 1
  have y2 : w.cell? ⟨b, 2, none⟩ = some (.bool d.armed) := hd.1.cell 2
  have y3 : w.cell? ⟨b, 3, none⟩ = some (.int .i64 d.left) := hd.1.cell 3
  have y4 : w.cell? ⟨b, 4, none⟩ = some (.bool d.dead) := hd.1.cell 4
  have hlb := hd.1.lt
  have law : Keyed Try.prog 9 := string_keyed Try.underlying9
  have hmm := @run_makeMap Try.prog
  have hml : ∀ g, mv = .map (some g) → g < w.heap.size := fun g e => hd.2.1.lt e
  rcases hd.2.1 with ⟨rfl, rfl⟩ | ⟨mb, D, rfl, hown, hD⟩
  · go_enter Try.func21, Try.ntmps21
    go_upto_region 2 with fail
    have kt := Blk.new w 40 (diskC (.map none) d)
    have d1 : Below w.heap.size w (w.alloc (.cells (diskC (.map none) d) 40)) := (Below.refl _ _).alloc (Nat.le_refl _) _
    have hd1 := hd.below d1
    clear y0 y1 y2 y3 y4
    change Code.wp _ _ _ _ (w.alloc (.cells (diskC (.map none) d) 40))
    have z1 : w.heap.size < (w.alloc (.cells (diskC (.map none) d) 40)).heap.size := kt.lt
    generalize (w.alloc (.cells (diskC (.map none) d) 40)) = w1 at *
    have hSl := hd.2.2.2.2
    generalize htb : w.heap.size = tb at *
    have dm : Below w1.heap.size w1 (w1.alloc (.map #[] 0)) := (Below.refl _ _).alloc (Nat.le_refl _) _
    have hM0 : (w1.alloc (.map #[] 0)).ownsMap (H := Value) Try.prog 9 rawR w1.heap.size 0 (.map []) := World.ownsMap_made _ _ _ _
    have kt1 := kt.below dm kt.lt
    have t0 : (w1.alloc (.map #[] 0)).cell? ⟨tb, 0, none⟩ = some (.map none) := kt1.cell 0
    have f0 : (w1.alloc (.map #[] 0)).frozen? ⟨tb, 0, none⟩ = false := kt1.frozen 0
    have g2 : (w1.alloc (.map #[] 0)).grownBy ((w1.alloc (.map #[] 0)).setCell ⟨tb, 0, none⟩ (.map (some w1.heap.size))) (some tb) := only_setCell (World.grownBy.refl _ _) (p := ⟨tb, 0, none⟩) (.inl rfl) _
    have kt2 : Blk ((w1.alloc (.map #[] 0)).setCell ⟨tb, 0, none⟩ (.map (some w1.heap.size))) tb 40 (diskC (.map (some w1.heap.size)) d) := kt1.set_ 0 (.map (some w1.heap.size))
    have hM2 := hM0.kept g2 (fun e => by have := Option.some.inj e; omega)
    have hd2 := (hd1.below dm).grown g2 (fun g e => by
      obtain rfl := Option.some.inj e
      exact ⟨by omega, fun e => by have := hml _ e; omega, fun h => by have := (hSl _ h).1; omega⟩)
    have HZ1 := Lib.hid z1
    clear z1
    go_upto_region 3 with fail
    have z1 := HZ1.out
    have z2 : w1.heap.size < ((w1.alloc (.map #[] 0)).setCell ⟨tb, 0, none⟩ (.map (some w1.heap.size))).heap.size := hM2.lt
    have d2 : Below tb w ((w1.alloc (.map #[] 0)).setCell ⟨tb, 0, none⟩ (.map (some w1.heap.size))) := (d1.trans (dm.mono (by omega))).grown g2 (by have := d1.size; have := dm.size; omega) (fun j hj => by have := Option.some.inj hj; omega)
    clear t0 f0 g2 dm hM0 kt1 hmm hd1 kt
    generalize ((w1.alloc (.map #[] 0)).setCell ⟨tb, 0, none⟩ (.map (some w1.heap.size))) = w2 at *
    generalize w1.heap.size = tm at *
    have y0 : w2.cell? ⟨b, 0, none⟩ = some (.map none) := hd2.1.cell 0
    have hr := run_range_none w2
    have bn : Below w2.heap.size w2 (w2.alloc (.mapIter none 0 #[] 0)) := (Below.refl _ _).alloc (Nat.le_refl _) _
    have hh : (w2.alloc (.mapIter none 0 #[] 0)).heap[w2.heap.size]? = some (.mapIter none 0 #[] 0) := (MapKept.heap_alloc w2 _).1
    have hnx : ∀ t, (Instr.next (.pointer (some ⟨w2.heap.size, 0, none⟩)) false t).run Try.prog (w2.alloc (.mapIter none 0 #[] 0)) = .ok (.tuple #[.bool false]) (w2.alloc (.mapIter none 0 #[] 0)) := fun t => run_next_none _ _ t hh
    have hdt : Disk_ w2 tb (fun _ => False) (.map (some tm)) d [] := ⟨kt2, .inr ⟨tm, _, rfl, hM2, DMap.nil_⟩, (fun _ h => by cases h), (fun e => by injection e with e; have := Option.some.inj e; omega), fun g h => h.elim⟩
    have hdt3 := hdt.below bn
    have b3 := d2.trans (bn.mono (by omega))
    clear hh
    go_wp2_with fail
    generalize w2.alloc (.mapIter none 0 #[] 0) = W at *
    go_loopw [4] (fun _ wr => wr = W) (fun _ _ => 0)
    case atStart => rfl
    case round =>
      obtain rfl := hrel
      go_wp2_with fail
      go_ret
      show RetTwin d [] w (.returned (.pointer (some ⟨tb, 0, none⟩))) _
      unfold RetTwin
      rw [htb]
      exact ⟨rfl, ⟨_, _, [], hdt3, List.Perm.refl _, fun g h => h.elim, tm, rfl, by omega⟩, b3⟩
  · have hmb : mb < w.heap.size := hml mb rfl
    have hbm : b ≠ mb := fun e => hd.2.2.2.1 (by rw [e])
    go_enter Try.func21, Try.ntmps21
    go_upto_region 2 with fail
    have kt := Blk.new w 40 (diskC (.map (some mb)) d)
    have d1 : Below w.heap.size w (w.alloc (.cells (diskC (.map (some mb)) d) 40)) := (Below.refl _ _).alloc (Nat.le_refl _) _
    have hd1 := hd.below d1
    have hown1 := hown.alloc (.cells (diskC (.map (some mb)) d) 40)
    clear y0 y1 y2 y3 y4
    change Code.wp _ _ _ _ (w.alloc (.cells (diskC (.map (some mb)) d) 40))
    have z1 : w.heap.size < (w.alloc (.cells (diskC (.map (some mb)) d) 40)).heap.size := kt.lt
    generalize (w.alloc (.cells (diskC (.map (some mb)) d) 40)) = w1 at *
    have hSl := hd.2.2.2.2
    generalize htb : w.heap.size = tb at *
    have dm : Below w1.heap.size w1 (w1.alloc (.map #[] 0)) := (Below.refl _ _).alloc (Nat.le_refl _) _
    have hM0 : (w1.alloc (.map #[] 0)).ownsMap (H := Value) Try.prog 9 rawR w1.heap.size 0 (.map []) := World.ownsMap_made _ _ _ _
    have kt1 := kt.below dm kt.lt
    have t0 : (w1.alloc (.map #[] 0)).cell? ⟨tb, 0, none⟩ = some (.map (some mb)) := kt1.cell 0
    have f0 : (w1.alloc (.map #[] 0)).frozen? ⟨tb, 0, none⟩ = false := kt1.frozen 0
    have g2 : (w1.alloc (.map #[] 0)).grownBy ((w1.alloc (.map #[] 0)).setCell ⟨tb, 0, none⟩ (.map (some w1.heap.size))) (some tb) := only_setCell (World.grownBy.refl _ _) (p := ⟨tb, 0, none⟩) (.inl rfl) _
    have kt2 : Blk ((w1.alloc (.map #[] 0)).setCell ⟨tb, 0, none⟩ (.map (some w1.heap.size))) tb 40 (diskC (.map (some w1.heap.size)) d) := kt1.set_ 0 (.map (some w1.heap.size))
    have hM2 := hM0.kept g2 (fun e => by have := Option.some.inj e; omega)
    have hd2 := (hd1.below dm).grown g2 (fun g e => by
      obtain rfl := Option.some.inj e
      exact ⟨by omega, fun e => by have := hml _ e; omega, fun h => by have := (hSl _ h).1; omega⟩)
    have hown2 := (hown1.alloc (.map #[] 0)).kept g2 (fun e => by have := Option.some.inj e; omega)
    have HZ1 := Lib.hid z1
    clear z1
    go_upto_region 3 with fail
    have z1 := HZ1.out
    have z2 : w1.heap.size < ((w1.alloc (.map #[] 0)).setCell ⟨tb, 0, none⟩ (.map (some w1.heap.size))).heap.size := hM2.lt
    have d2 : Below tb w ((w1.alloc (.map #[] 0)).setCell ⟨tb, 0, none⟩ (.map (some w1.heap.size))) := (d1.trans (dm.mono (by omega))).grown g2 (by have := d1.size; have := dm.size; omega) (fun j hj => by have := Option.some.inj hj; omega)
    clear t0 f0 g2 dm hM0 kt1 hmm hd1 hown1 kt
    generalize ((w1.alloc (.map #[] 0)).setCell ⟨tb, 0, none⟩ (.map (some w1.heap.size))) = w2 at *
    generalize w1.heap.size = tm at *
    have y0 : w2.cell? ⟨b, 0, none⟩ = some (.map (some mb)) := hd2.1.cell 0
    have invK : ∀ key kl, keyOf Try.prog 9 key = some kl → ∃ x, key = encStr x := fun key kl hk => by obtain ⟨x, hx, _⟩ := Maps.keyOf_str Try.underlying9 hk; exact ⟨x, hx⟩
    have invV : ∀ v y, rawR v = some y → ∃ c, v = (_root_.id : Value → Value) c := fun v y _ => ⟨v, rfl⟩
    have IK := Lib.hid invK
    have IV := Lib.hid invV
    have HD := Lib.hid hD
    clear invK invV hD
    go_wp2_with (first
      | (at_range; refine wpList_range_own _ rfl _ 38 rfl 9 63 law Try.underlying38 rawR mb fs.length D rfl hown2 ?_; intro w7 hrg7 hg7 hs7)
      | go_in)
    go_frame
    have hsum : leftF (has D) fs = fs := List.filter_eq_self.2 fun q hq => (HD.out.2.2.1 q.name).2 (List.mem_map_of_mem hq)
    have HSUM := Lib.hid hsum
    have s7 : w2.heap.size ≤ w7.heap.size := hg7.size
    have b7 : Below tb w w7 := d2.grown hg7 (by have := d2.size; omega) (fun j hj => by cases hj)
    have kt7 := kt2.grown hg7 (by simp)
    have hM7 := hM2.kept hg7 (by simp)
    have hdt : Disk_ w7 tb (fun g => w2.heap.size < g ∧ g < w7.heap.size) (.map (some tm)) d [] := ⟨kt7, .inr ⟨tm, _, rfl, hM7, DMap.nil_⟩, (fun _ h => by cases h), (fun e => by injection e with e; have := Option.some.inj e; omega), fun g h => ⟨h.2, by omega, fun e => by injection e with e; have := Option.some.inj e; omega⟩⟩
    have hdb : Disk_ w7 b S (.map (some mb)) d fs := hd2.grown hg7 (fun g e => by cases e)
    have l7 : w2.heap.size < w7.heap.size := by omega
    clear hsum hown2 hM2 hs7 kt2 kt7 hM7 y0 hd2 hd hown
    generalize w2.heap.size = R at *
    go_loopw [4] (fun _ wr => ∃ (left : Lit → Bool) (cnt : Nat) (gs : List DF) (St : Nat → Prop), wr.ranges Try.prog 9 rawR mb R fs.length D left cnt ∧ Disk_ wr tb St (.map (some tm)) d gs ∧ Disk_ wr b S (.map (some mb)) d fs ∧ Hid ((gs.map DF.p ++ (leftF left fs).map DF.p).Perm (fs.map DF.p)) ∧ (∀ g, St g → R < g) ∧ Below tb w wr ∧ R < wr.heap.size ∧ Hid (∀ q ∈ gs, left (.string q.name) = false)) (fun _ wr => wr.rangeLeft mb R)
    case atStart => exact ⟨_, _, [], _, hrg7, hdt, hdb, by show List.Perm _ _; rw [HSUM.out]; exact List.Perm.refl _, fun g h => h.1, b7, l7, fun _ h => by cases h⟩
    case round =>
      clear hrg7 b7 l7 hdt hdb
      obtain ⟨left, cnt, gs, St, hrg, hdt, hdb, HP, hSt, br, lr, HG⟩ := hrel
      go_wp2_with (first
        | (at_next; refine wpList_next_ranges _ rfl _ rfl 9 law rawR encStr (_root_.id : Value → Value) IK.out IV.out mb R fs.length D left cnt rfl hrg ?_ ?_)
        | go_in)
      · intro _ hl0
        have hz := leftF_none hl0 fs
        have HZ : Hid ((gs.map DF.p).Perm (fs.map DF.p)) := by
          have := HP.out
          rw [hz, List.map_nil, List.append_nil] at this
          exact this
        clear hl0 hrg hz HP
        go_wp2_with fail
        go_ret
        show RetTwin d (fs.map DF.p) w (.returned (.pointer (some ⟨tb, 0, none⟩))) _
        unfold RetTwin
        rw [htb]
        exact ⟨rfl, ⟨_, _, gs, hdt, HZ.out, fun g h => by have := hSt g h; omega, tm, rfl, by omega⟩, br⟩
      · intro x c kl yd yp w8 cnt8 hkey hlk hv hat hrg8 hlt8 hg8 hs8 hen
        obtain ⟨x', ex, rfl, hxl⟩ := Maps.keyOf_str Try.underlying9 hkey
        obtain rfl : x = x' := encStr_inj ex
        have hhas : has D (.string x) = true := has_true_of_atKey hat
        have hxl2 := hxl
        obtain ⟨q, hq, hqn, hqa, _⟩ | ⟨_, _, hh⟩ := HD.out.look x
        · subst hqn
          have hcv : c = q.vv := by
            have h1 := hat (.held zF)
            rw [hqa] at h1
            have h2 : (DataW.held c, ([] : List MemPlace)) = (yd, yp) := Option.some.inj hv
            have h3 : DataW.held c = yd := congrArg Prod.fst h2
            rw [← h3] at h1
            injection h1 with h1
            exact h1.symm
          subst hcv
          have hen2 : (Instr.entry (.pointer (some ⟨R, 0, none⟩))).run Try.prog w8 = .ok (.tuple #[.string ⟨q.name.toArray⟩, .agg #[.slice q.A q.data.length q.c, .int .i64 (q.safe : Int)]]) w8 := hen
          have HST := Lib.hid (leftF_strike HD.out.2.1 hq hlk)
          have HNQ := HN.out q hq
          have hqg : Hid (q.name ∉ gs.map DF.name) := fun h => by
            obtain ⟨r, hr, e⟩ := List.mem_map.1 h
            have := HG.out r hr
            rw [e, hlk] at this
            cases this
          have hrne := hrg.ne
          have b8 := br.grown hg8 (by have := br.size; omega) (fun j hj => by cases hj; omega)
          have hdt8 := hdt.grown hg8 (fun g e => by
            obtain rfl := Option.some.inj e
            exact ⟨by omega, fun e => by injection e with e; have := Option.some.inj e; omega, fun h => by have := hSt _ h; omega⟩)
          have hdb8 := hdb.grown hg8 (fun g e => by
            obtain rfl := Option.some.inj e
            exact ⟨by omega, fun e => by injection e with e; have := Option.some.inj e; omega, fun h => by have := (hSl _ h).1; omega⟩)
          have hle := hrg.left_eq
          clear hen hat hv hqa hkey hxl2 hxl hhas hlk hrg br hdt hdb
          have hHP := HP.out
          have hgl : gs.length ≤ 1048575 := by
            have := hHP.length_eq
            rw [List.length_append, List.length_map, List.length_map, List.length_map] at this
            omega
          have d9 : Below w8.heap.size w8 (w8.alloc (.cells #[.slice q.A q.data.length q.c, .int .i64 (q.safe : Int)] 63)) := (Below.refl _ _).alloc (Nat.le_refl _) _
          have kq := Blk.new w8 63 #[.slice q.A q.data.length q.c, .int .i64 (q.safe : Int)]
          have c0 : (w8.alloc (.cells #[.slice q.A q.data.length q.c, .int .i64 (q.safe : Int)] 63)).cell? ⟨w8.heap.size, 0, none⟩ = some (.slice q.A q.data.length q.c) := kq.cell 0
          have hrg9 := hrg8.alloc (.cells #[.slice q.A q.data.length q.c, .int .i64 (q.safe : Int)] 63)
          have b9 := b8.trans (d9.mono (by have := b8.size; omega))
          have hdt9 := hdt8.below d9
          have hdb9 := hdb8.below d9
          have l8 : R < w8.heap.size := by have := hg8.size; omega
          have lq := kq.lt
          have hfdt : w8.heap.size ≠ tb := by omega
          have hfm : w8.heap.size ≠ tm := by omega
          have hStS : ¬ St w8.heap.size := fun h => by have := (hdt8.2.2.2.2 _ h).1; omega
          have hsb8 := b8.size
          clear hHP hrg8 b8 d9 hdt8 hdb8 hg8 hs8
          go_upto_region 6 with fail
          generalize (w8.alloc (.cells #[.slice q.A q.data.length q.c, .int .i64 (q.safe : Int)] 63)) = w9 at *
          obtain ⟨hbq, hatq, hcq, hcm, hsq⟩ := hdb9.2.2.1 q hq
          go_wp2_with fail
          refine (bclone_any q.A q.data q.c w9 hbq).mono ?_
          rintro en w10 ⟨A10, c10, rfl, o10, b10⟩
          replace o10 : OwnB w9.heap.size w10 A10 q.data c10 := o10
          have kq10 := kq.below b10 kq.lt
          have s10 := b10.size
          have f10 : w10.frozen? ⟨w8.heap.size, 0, none⟩ = false := kq10.frozen 0
          have c10' : w10.cell? ⟨w8.heap.size, 0, none⟩ = some (.slice q.A q.data.length q.c) := kq10.cell 0
          have g11 : w10.grownBy (w10.setCell ⟨w8.heap.size, 0, none⟩ (.slice A10 q.data.length c10)) (some w8.heap.size) := only_setCell (World.grownBy.refl _ _) (p := ⟨w8.heap.size, 0, none⟩) (.inl rfl) _
          have kq11 : Blk (w10.setCell ⟨w8.heap.size, 0, none⟩ (.slice A10 q.data.length c10)) w8.heap.size 63 #[.slice A10 q.data.length c10, .int .i64 (q.safe : Int)] := kq10.set_ 0 (.slice A10 q.data.length c10)
          have hg10 : w9.grownBy w10 none := only_of_below b10 none
          have hrg11 := (hrg9.kept hg10 (by simp) (by simp)).kept g11 (fun e => by have := Option.some.inj e; omega) (fun e => by have := Option.some.inj e; omega)
          have hdt11 := (hdt9.below b10).grown g11 (fun g e => by
            obtain rfl := Option.some.inj e
            exact ⟨hfdt, fun e => by injection e with e; exact hfm (Option.some.inj e).symm, hStS⟩)
          have hdb11 := (hdb9.below b10).grown g11 (fun g e => by
            obtain rfl := Option.some.inj e
            exact ⟨by omega, fun e => by injection e with e; have := Option.some.inj e; omega, fun h => by have := (hSl _ h).1; omega⟩)
          have o11 := OwnB.kept o10 g11 (fun g h e => by have h1 := (OwnB.lt o10 g h).1; have := Option.some.inj e; omega)
          have b11 := (b9.trans (b10.mono (by omega))).grown g11 (by omega) (fun j hj => by have := Option.some.inj hj; omega)
          have s11 := g11.size
          clear c0 kq kq10 hdt9 hdb9 hrg9 b9 b10 o10 hg10 hbq
          go_upto_region 7 with fail
          clear f10 c10' g11
          generalize (w10.setCell ⟨w8.heap.size, 0, none⟩ (.slice A10 q.data.length c10)) = w11 at *
          obtain ⟨Dt, hownt, hDt⟩ : ∃ Dt, w11.ownsMap Try.prog 9 rawR tm gs.length Dt ∧ DMap Dt gs := by
            rcases hdt11.2.1 with ⟨e, _⟩ | ⟨m, Dt, e, h2, h3⟩
            · cases e
            · injection e with e
              obtain rfl := Option.some.inj e
              exact ⟨Dt, h2, h3⟩
          have x0 : w11.cell? ⟨w8.heap.size, 0, none⟩ = some (.slice A10 q.data.length c10) := kq11.cell 0
          have x1 : w11.cell? ⟨w8.heap.size, 1, none⟩ = some (.int .i64 (q.safe : Int)) := kq11.cell 1
          have xt : w11.cell? ⟨tb, 0, none⟩ = some (.map (some tm)) := hdt11.1.cell 0
          have hkey2 := key_lit q.name HNQ
          go_wp2_with (at_mapUpdate; refine wpList_mapUpdate_own _ rfl _ _ _ 38 rfl 9 63 law Try.underlying38 rawR tm gs.length Dt rfl hownt (by unfold maxLen; omega) _ _ (.string q.name) rfl rfl hkey2 (.held (DF.vv ⟨q.name, A10, q.data, c10, q.safe⟩)) [] rfl ?_; intro w12 hown12 hg12)
          have hrg12 := hrg11.kept hg12 (fun e => by have := Option.some.inj e; omega) (fun e => by have := Option.some.inj e; omega)
          have hleft := hrg12.left_eq
          have hs12 := hg12.size
          have hlS11 := hdt11.2.2.2.2
          have hdt12 := (hdt11.more (S' := fun g => St g ∨ (w9.heap.size ≤ g ∧ g < w11.heap.size)) (fun g h => .inl h) (fun g h => by
            rcases h with h | h
            · exact hlS11 g h
            · exact ⟨h.2, by omega, fun e => by injection e with e; have := Option.some.inj e; omega⟩)).putAt (q := ⟨q.name, A10, q.data, c10, q.safe⟩) hDt (hownt.tidy law) hown12 hg12
            ⟨OwnB.bs o11 (by have := (hdb11.2.2.1 q hq).1.le; exact this), fun ad e h => .inr (OwnB.at_ o11 ad e h), (OwnB.caps o11).1, (OwnB.caps o11).2, hsq⟩
          have hdb12 := hdb11.grown hg12 (fun g e => by
            obtain rfl := Option.some.inj e
            exact ⟨by omega, fun e => by injection e with e; have := Option.some.inj e; omega, fun h => by have := (hSl _ h).1; omega⟩)
          have b12 := b11.grown hg12 (by omega) (fun j hj => by have := Option.some.inj hj; omega)
          have hpm : Hid (((putF gs ⟨q.name, A10, q.data, c10, q.safe⟩).map DF.p ++ (leftF (fun z => left z && !z.sameKey (.string q.name)) fs).map DF.p).Perm (fs.map DF.p)) := by
            show List.Perm _ _
            refine List.Perm.trans ?_ HP.out
            have e : (putF gs ⟨q.name, A10, q.data, c10, q.safe⟩).map DF.p = q.p :: gs.map DF.p := by
              unfold putF
              rw [delF_far hqg.out]
              rfl
            rw [e, List.cons_append]
            refine List.Perm.trans List.perm_middle.symm ?_
            exact List.Perm.append_left _ (HST.out.map DF.p).symm
          have hgn : Hid (∀ r ∈ putF gs ⟨q.name, A10, q.data, c10, q.safe⟩, (left (.string r.name) && !(Lit.string r.name).sameKey (.string q.name)) = false) := by
            intro r hr
            rcases List.mem_cons.1 hr with rfl | hr
            · show (left (.string q.name) && !(Lit.string q.name).sameKey (.string q.name)) = false
              rw [WideAt.sameKey_self (a := .string q.name) trivial]
              simp
            · rw [HG.out r (mem_delF.1 hr).1]
              rfl
          refine ⟨⟨_, _, _, _, _, _, _, _, _, _, _, _, _, _, _, ⟨_, cnt8, _, _, hrg12, hdt12, hdb12, hpm, ?_, b12, by omega, hgn⟩, rfl⟩, ?_⟩
          · rintro g (h | h)
            · exact hSt g h
            · omega
          · rw [hleft, hle]; exact hlt8
        · rw [hhas] at hh; cases hh
end Go.Proofs.Ytnhonjgclbmheaa
