/- The walk of WalReads. (Printed by wip/gen_walu.py.) -/
import Derived.Test.YtbldfgpnghoigaaWalV
import Derived.Test.YtbldfgpnghoigaaActW
import Derived.Deep.CutBlock
namespace Go.Proofs.Ytbldfgpnghoigaa
open Go.RowKit

/-- both logs in memory, and the acts; the program's log keeps the blocks of G -/
structure RB (w0 : World) (gW : Nat) (AX : Option Addr) (xs : List LActW) (w : World) (g : Nat) (G : Nat → Prop) (l : LLog) (sg : List Nat) (ps : List PFile) (A : Option Addr) (c : Nat) (B : Option Addr) (d : Nat) (W : LRL) : Prop where
  ld : LD w g G l sg dskR ps
  kw : Blk w gW 55 (rlC A c B d W)
  gw : G gW
  lo : ∀ x, x < w0.heap.size → G x
  recs : SlS BsE w (fun x => G x ∧ x ≠ gW) A W.recs
  segs : SlS U64E w (fun x => G x ∧ x ≠ gW) B W.segs
  acts : SlS AWE w (fun x => G x ∧ x ≠ gW) AX xs
  b : Below w0.heap.size w0 w
section
variable {w0 w w' : World} {gW g g' : Nat} {AX : Option Addr} {xs : List LActW} {G : Nat → Prop} {l l' : LLog} {sg sg' : List Nat} {ps ps' : List PFile} {A A' : Option Addr} {c c' : Nat} {B B' : Option Addr} {d d' : Nat} {W W' : LRL}
theorem RB.below (h : RB w0 gW AX xs w g G l sg ps A c B d W) (hb : Below w.heap.size w w') : RB w0 gW AX xs w' g (fun x => G x ∨ w.heap.size ≤ x) l sg ps A c B d W :=
  ⟨h.ld.below hb, h.kw.below hb h.kw.lt, .inl h.gw, fun x hx => .inl (h.lo x hx), (h.recs.below hb).mono fun _ _ hx => ⟨.inl hx.1, hx.2⟩, (h.segs.below hb).mono fun _ _ hx => ⟨.inl hx.1, hx.2⟩, (h.acts.below hb).mono fun _ _ hx => ⟨.inl hx.1, hx.2⟩, h.b.trans (hb.mono h.b.size)⟩
theorem RB.blp (h : RB w0 gW AX xs w g G l sg ps A c B d W) {G' : Nat → Prop} (hl : LD w' g' G' l' sg' dskR ps') (hb : BlP G w w') (hG : ∀ x, G x → x < w.heap.size → G' x) : RB w0 gW AX xs w' g' G' l' sg' ps' A c B d W := by
  have hs : Same (fun x => (G x ∧ x ≠ gW) ∧ x < w.heap.size) w w' := ⟨hb.size, fun x hx h2 => hb.block x h2 hx.1.1⟩
  have lo : ∀ {α : Type} {E : ER α} {A : Option Addr} {xs : List α}, SlS E w (fun x => G x ∧ x ≠ gW) A xs → SlS E w' (fun x => G' x ∧ x ≠ gW) A xs := fun k => ((k.mono (S' := fun x => (G x ∧ x ≠ gW) ∧ x < w.heap.size) fun x h1 h2 => ⟨h2, h1⟩).same hs).mono fun x _ h2 => ⟨hG x h2.1.1 h2.2, h2.1.2⟩
  exact ⟨hl, hb.blk h.kw h.gw, hG _ h.gw h.kw.lt, fun x hx => hG x (h.lo x hx) (Nat.lt_of_lt_of_le hx h.b.size), lo h.recs, lo h.segs, lo h.acts, hb.low h.b h.b.size h.lo⟩
theorem RB.log (h : RB w0 gW AX xs w g G l sg ps A c B d W) (ht : LDTo g G l' sg' dskR ps' w w') : RB w0 gW AX xs w' g (fun x => G x ∧ x < w.heap.size) l' sg' ps' A c B d W :=
  h.blp ht.1 ht.2 fun _ h1 h2 => ⟨h1, h2⟩
theorem RB.wr (h : RB w0 gW AX xs w g G l sg ps A c B d W) (hw : w0.heap.size ≤ gW) (kw : Blk w' gW 55 (rlC A' c' B' d' W')) (hg : w.grownBy w' (some gW)) (hr : SlS BsE w (fun x => G x ∧ x ≠ gW) A' W'.recs) (hs : SlS U64E w (fun x => G x ∧ x ≠ gW) B' W'.segs) : RB w0 gW AX xs w' g G l sg ps A' c' B' d' W' := by
  have hb : BlP (fun x => x ≠ gW) w w' := ⟨hg.os, hg.tape, hg.output, hg.size, fun x hx hf => hg.block x hx fun e => hf (Option.some.inj e)⟩
  have hl : LD w' g G l sg dskR ps := (h.ld.blp hb fun x _ hx => by rw [Classical.byContradiction hx]; exact h.gw).mono fun x hx => .inl hx
  have hsame : Same (fun x => G x ∧ x ≠ gW) w w' := ⟨hg.size, fun x hx h2 => hg.block x h2 fun e => hx.2 (Option.some.inj e)⟩
  exact ⟨hl, kw, h.gw, h.lo, hr.same hsame, hs.same hsame, h.acts.same hsame, h.b.grown hg h.b.size fun x e => by rw [← Option.some.inj e]; exact hw⟩
end
theorem first_log {w : World} {g : Nat} {F : Nat → Prop} {l : LLog} {sg : List Nat} {d : LDisk} {ps : List PFile} (h : LD w g F l sg d ps) : Calls Try.prog 32 #[.pointer (some ⟨g, 0, none⟩)] w (fun en w' => en = .returned (.int .u64 ((sg.headD l.next : Nat) : Int)) ∧ w' = w) := by
  obtain ⟨A, c, hk, hs, _⟩ := h
  have c3 : w.cell? ⟨g, 3, none⟩ = some (.slice A sg.length c) := hk.cell 3
  have c4 : w.cell? ⟨g, 4, none⟩ = some (.int .u64 (l.next : Int)) := hk.cell 4
  cases sg with
  | nil =>
    go_enter Try.func32, Try.ntmps32
    go_wp2_with fail
    go_ret
    exact ⟨rfl, rfl⟩
  | cons s r =>
    obtain ⟨ad, rfl, h0⟩ := hs.at_ (i := 0) (by simp)
    have h1 : w.cell? ad = some (.int .u64 (s : Int)) := by
      have e : ad.add 0 = ad := by unfold Addr.add; simp
      rw [← e]; exact h0
    obtain ⟨m, hm⟩ : ∃ m, m = (s :: r).length := ⟨_, rfl⟩
    rw [← hm] at c3
    have m0 : 0 < m := by rw [hm]; simp
    have m1 : ((m : Int) == 0) = false := by rw [beq_eq_false_iff_ne]; omega
    clear hm hs hk h0
    go_enter Try.func32, Try.ntmps32
    go_wp2_with fail
    go_ret
    exact ⟨rfl, rfl⟩

theorem in_new {G : Nat → Prop} {gW n y : Nat} (hlt : gW < n) (h : (G y ∧ y ≠ gW) ∨ n ≤ y) : (G y ∨ n ≤ y) ∧ y ≠ gW := by
  rcases h with h | h
  · exact ⟨.inl h.1, h.2⟩
  · exact ⟨.inr h, by omega⟩
set_option maxRecDepth 100000 in
set_option maxHeartbeats 8000000 in
theorem walreads_any (most : Int) (A : Option Addr) (ls : List LActW) (c : Nat) (w0 : World) (hA : Sl AWE w0 A ls) :
    Calls Try.prog 6 #[.int .i64 most, .slice A ls.length c] w0 fun e w' => e = .returned (.bool true) ∧ Below w0.heap.size w0 w' := by
  go_enter Try.func6, Try.ntmps6
  go_wp2_with fail
  refine (awake_any _).mono ?_
  rintro e w1 ⟨rfl, b1⟩
  have z1 := b1.size
  go_wp2_with fail
  refine (newD_any 1073741824 w1).mono ?_
  rintro en w2 ⟨rfl, hd2, b2⟩
  have l2 := hd2.lt
  have b02 := below_step' b1 b2
  clear b1 b2
  generalize w1.heap.size = db at *
  by_cases hm : most < 1
  · go_wp2_with fail
    refine (open_bad _ [119, 46] most hm w2).mono ?_
    rintro en w3 ⟨rfl, hw3⟩
    obtain rfl : w2 = w3 := hw3.symm
    go_wp2_with fail
    go_ret
    exact ⟨rfl, b02⟩
  have HM : Hid (¬ most < 1) := hm
  have T := open_good (segs := []) (pre := [119, 46]) db (hd2.mono (F' := (· < w0.heap.size)) (fun g h => by omega)) (wl_nil _) trivial rfl rfl (by decide) (by decide) (by decide) (by decide) (by decide) (by decide) most hm
  clear hd2
  go_wp2_with fail
  refine T.mono ?_
  clear T
  rintro en w3 ⟨g0, A3, c3, rs, h1, hg1, hR, hS, hmm, hL, hb3⟩
  have hrs : rs = [] := List.map_eq_nil_iff.1 hmm
  subst hrs
  obtain rfl : en = .returned (.tuple #[.pointer (some ⟨g0, 0, none⟩), .slice A3 0 c3, .int .i64 0]) := h1
  replace hL : LD w3 g0 (fun x => (x < w0.heap.size ∧ x < w2.heap.size) ∨ RowsB A3 c3 [] x) (log0 db [119, 46] most) [] dskR [] := hL
  have L3 : LD w3 g0 (· < w0.heap.size) (log0 db [119, 46] most) [] dskR [] := hL.mono fun x hx => .inl ⟨by omega, by omega⟩
  have b03 : Below w0.heap.size w0 w3 := hb3.low b02 (by omega) (fun x h => by omega)
  clear hL hR hS hmm hb3 b02
  go_upto_region 10 with fail
  have dW : Below w3.heap.size w3 (w3.alloc (.cells #[.int .u64 0, .slice none 0 0, .int .i64 0, .slice none 0 0, .int .i64 0, .bool false] 55)) := (Below.refl _ _).alloc (Nat.le_refl _) _
  have kW : Blk (w3.alloc (.cells #[.int .u64 0, .slice none 0 0, .int .i64 0, .slice none 0 0, .int .i64 0, .bool false] 55)) w3.heap.size 55 (rlC none 0 none 0 ⟨0, [], 0, [], 0, false⟩) := Blk.new w3 55 _
  have L4 := L3.below dW
  have b04 := below_step' b03 dW
  change Code.wp _ _ _ _ (w3.alloc (.cells #[.int .u64 0, .slice none 0 0, .int .i64 0, .slice none 0 0, .int .i64 0, .bool false] 55))
  generalize (w3.alloc (.cells #[.int .u64 0, .slice none 0 0, .int .i64 0, .slice none 0 0, .int .i64 0, .bool false] 55)) = w4 at *
  have z3 := b03.size
  generalize w3.heap.size = gW at *
  have hgw : w0.heap.size ≤ gW := z3
  have T := small_any A ls c (· < w0.heap.size) w4 (hA.old.below b04)
  generalize hxs : smallW ls = xs at *
  have hxl : xs.length ≤ 30 := by rw [← hxs]; unfold smallW; rw [List.length_map, List.length_take]; omega
  have hsa : ∀ x ∈ xs, x.recs.length ≤ 12 ∧ ∀ r ∈ x.recs, r.length ≤ 2000 := fun x hx => by
    rw [← hxs] at hx
    obtain ⟨y, _, rfl⟩ := List.mem_map.1 hx
    exact short_len y.recs
  have HSA := Lib.hid hsa
  have HXL := Lib.hid hxl
  clear L3 dW b03 hA hsa hxl hxs
  go_wp2_with fail
  refine T.mono ?_
  clear T
  rintro en w5 ⟨AX, cX, rfl, hAX, b5⟩
  have hRB : RB w0 gW AX xs w5 g0 (fun x => (x < w0.heap.size ∨ gW ≤ x) ∨ w4.heap.size ≤ x) (log0 db [119, 46] most) [] [] none 0 none 0 ⟨0, [], 0, [], 0, false⟩ := by
    have hlt := kW.lt
    refine ⟨L4.below b5, kW.below b5 hlt, .inl (.inr (Nat.le_refl _)), fun x hx => .inl (.inl hx), SlS.nil_ _ _ _ _, SlS.nil_ _ _ _ _, hAX.mono fun x _ h => ?_, below_step' b04 b5⟩
    rcases h with h | h
    · exact ⟨.inl (.inl h), by omega⟩
    · exact ⟨.inr h, by omega⟩
  have HRB := Lib.hid hRB
  clear hRB hAX b5 L4 kW b04
  go_wp2_with fail
  go_loopw [6, 46] (fun v6 v46 wr => ∃ k : Nat, k ≤ xs.length ∧ v46 = .int .i64 (k : Int) ∧ ∃ (g : Nat) (G : Nat → Prop) (segs : List Seg) (l : LLog) (W : LRL) (ps : List PFile) (A2 : Option Addr) (c2 : Nat) (B2 : Option Addr) (d2 : Nat), v6 = .pointer (some ⟨g, 0, none⟩) ∧ Hid (RI k most db segs l W ps) ∧ Hid (RB w0 gW AX xs wr g G l (segs.map (·.1)) ps A2 c2 B2 d2 W) ∧ Hid (Caps c2 d2 W)) (fun _ v46 _ => xs.length - (intOf v46).toNat)
  case atStart => exact ⟨0, Nat.zero_le _, rfl, g0, _, [], log0 db [119, 46] most, ⟨0, [], 0, [], 0, false⟩, [], none, 0, none, 0, rfl, RI.zero most db, HRB.out, ⟨⟨Nat.le_refl _, by decide⟩, Nat.le_refl _, by decide⟩⟩
  case round =>
    clear HRB
    obtain ⟨k, hk, rfl, g, G, segs, l, W, ps, A2, c2, B2, d2, rfl, HRI, HRB, HC⟩ := hrel
    by_cases hlt : k < xs.length
    · have hlti : (k : Int) < (xs.length : Int) := by omega
      have hk30 : k < 30 := Nat.lt_of_lt_of_le hlt HXL.out
      obtain ⟨ad, D, cD, K, kc, rfl, hab, y0, y1, y2, y3, y4, hW⟩ := AWE.at_ HRB.out.acts hlt
      have HX := Lib.hid (HSA.out xs[k] (List.getElem_mem hlt))
      generalize xs[k] = x at *
      have dz : Below wr.heap.size wr (wr.alloc (.cells #[.int .i64 x.kind, .slice D x.recs.length cD, .int .u64 (x.n : Int), .int .i64 x.arm, .slice K x.keeps.length kc] 59)) := (Below.refl _ _).alloc (Nat.le_refl _) _
      have kX := Blk.new wr 59 #[.int .i64 x.kind, .slice D x.recs.length cD, .int .u64 (x.n : Int), .int .i64 x.arm, .slice K x.keeps.length kc]
      have hRB1 := HRB.out.below dz
      have hD1 := (hW.recs.1.below dz).mono (S' := fun y => (G y ∨ wr.heap.size ≤ y) ∧ y ≠ gW) fun y _ h => ⟨.inl h.1, h.2⟩
      have hn64 := hW.nlt
      go_upto_block 2 with fail
      generalize (wr.alloc (.cells #[.int .i64 x.kind, .slice D x.recs.length cD, .int .u64 (x.n : Int), .int .i64 x.arm, .slice K x.keeps.length kc] 59)) = w1 at *
      have HRB1 := Lib.hid hRB1
      clear HRB hRB1 y0 y1 y2 y3 y4 hW
      go_cut [6, 7, 8, 12, 13] from 52 to 119 (fun v6 _ _ _ _ wx => ∃ (g : Nat) (G : Nat → Prop) (segs : List Seg) (l : LLog) (W : LRL) (ps : List PFile) (A2 : Option Addr) (c2 : Nat) (B2 : Option Addr) (d2 : Nat), v6 = .pointer (some ⟨g, 0, none⟩) ∧ Hid (RI (k + 1) most db segs l W ps) ∧ Hid (RB w0 gW (some ad) xs wx g G l (segs.map (·.1)) ps A2 c2 B2 d2 W) ∧ Hid (Caps c2 d2 W))
      case first =>
        have n0 : w1.cell? ⟨wr.heap.size, 0, none⟩ = some (.int .i64 x.kind) := kX.cell 0
        have n1 : w1.cell? ⟨wr.heap.size, 1, none⟩ = some (.slice D x.recs.length cD) := kX.cell 1
        have n2 : w1.cell? ⟨wr.heap.size, 2, none⟩ = some (.int .u64 (x.n : Int)) := kX.cell 2
        by_cases k1 : x.kind = 1
        · have f1 : (x.kind == 1) = true := by rw [beq_iff_eq]; exact k1
          clear k1
          have TC := copies_sl D x.recs cD _ w1 hD1
          have HRI1 := HRI.out
          obtain ⟨l', segs', ps', e1, hRI⟩ := HRI.out.append hk30 x.recs HX.out.1 HX.out.2
          have HRI2 := Lib.hid hRI
          have HTA := Lib.hid (fun (Y : World) (G : Nat → Prop) (hL : LD Y g G l (segs.map (·.1)) dskR ps) (X' : Option Addr) (xc : Nat) (S : Nat → Prop) (hx : SlS BsE Y S X' x.recs) => append_at g hL HRI.out.good hL.notin ⟨by decide, by decide⟩ (by decide) (by have := HRI.out.sk; omega) (by have := HRI.out.uk; omega) X' x.recs xc S hx (by have := HX.out.1; omega) (fun r hr => by have := HX.out.2 r hr; omega) (by have := HRI.out.nk; omega) ⟨HRI.out.sz.1, by have := HRI.out.sz.2; omega⟩)
          have HTR := Lib.hid (fun (Y : World) (S : Nat → Prop) (hA : SlS BsE Y S A2 W.recs) (hB : SlS U64E Y S B2 W.segs) (X' : Option Addr) (xc : Nat) (hx : SlS BsE Y Any X' x.recs) => rappend_any A2 c2 B2 d2 W most X' x.recs xc S Y hA hB hx HC.out (by rw [HRI.out.wnext]; have := HRI.out.nk; omega) (by have h1 := HRI.out.wnext; have h2 := HRI.out.nk; have h3 := HX.out.1; unfold nextR at h1; omega) (by have := HRI.out.sk; rw [HRI.out.wseg, List.length_map]; omega) (fun r hr => by rcases List.mem_append.1 hr with hr | hr; (rw [HRI.out.wrec] at hr; have := HRI.out.rl r hr; omega); (have := HX.out.2 r hr; omega)) (by rw [HRI.out.wsize]; have := HRI.out.sz; omega) (by have := data_le HX.out.1 HX.out.2; omega))
          obtain ⟨nx, hnx⟩ : ∃ nx, nx = l.next := ⟨_, rfl⟩
          have HTN : Hid (∀ Y : World, Calls Try.prog 26 #[.agg #[.int .u64 (W.first : Int), .slice A2 W.recs.length c2, .int .i64 W.safe, .slice B2 W.segs.length d2, .int .i64 W.size, .bool W.rot]] Y (fun en w' => en = .returned (.int .u64 (nx : Int)) ∧ Below Y.heap.size Y w')) := fun Y => by
            have h := rnext_any A2 c2 B2 d2 W Y (by rw [HRI.out.wnext]; have := HRI.out.nk; omega)
            rw [HRI.out.wnext, ← hnx] at h
            exact h
          have hbb : ((nx : Int) != (nx : Int)) = false := by rw [bne_eq_false_iff_eq]
          rw [← hnx] at e1
          have HE1 := Lib.hid e1
          clear HRI HRI1 hRI e1 hnx
          go_wp2_with fail
          refine TC.mono ?_
          clear TC
          rintro en w2' ⟨A6, c6, rfl, SX6, b6⟩
          have HRB2 := Lib.hid (HRB1.out.below b6)
          have n1b : Blk w2' wr.heap.size 59 #[.int .i64 x.kind, .slice D x.recs.length cD, .int .u64 (x.n : Int), .int .i64 x.arm, .slice K x.keeps.length kc] := kX.below b6 kX.lt
          have hD2 := (hD1.below b6).mono (S' := fun y => ((G y ∨ wr.heap.size ≤ y) ∨ w1.heap.size ≤ y)) fun y _ h => .inl h.1
          have TA := HTA.out w2' _ HRB2.out.ld A6 c6 _ SX6
          rw [HE1.out] at TA
          clear HRB1 HTA b6 SX6
          go_wp2_with fail
          refine TA.mono ?_
          clear TA
          rintro en w3' ⟨h1, L5⟩
          obtain rfl : en = .returned (.tuple #[.int .u64 (nx : Int), .int .i64 0]) := h1
          replace L5 : LDTo g (fun y => (G y ∨ wr.heap.size ≤ y) ∨ w1.heap.size ≤ y) l' (segs'.map (·.1)) dskR ps' w2' w3' := L5
          have HRB3 := Lib.hid (HRB2.out.log L5)
          have n1c := L5.2.blk n1b (.inl (.inr (Nat.le_refl _)))
          have hD3 := (hD2.same (S := fun y => ((G y ∨ wr.heap.size ≤ y) ∨ w1.heap.size ≤ y)) ⟨L5.2.size, fun y h1 h2 => L5.2.block y h2 h1⟩).any
          have kW3 := HRB3.out.kw
          have q0 : w3'.cell? ⟨gW, 0, none⟩ = some (.int .u64 (W.first : Int)) := kW3.cell 0
          have q1 : w3'.cell? ⟨gW, 1, none⟩ = some (.slice A2 W.recs.length c2) := kW3.cell 1
          have q2 : w3'.cell? ⟨gW, 2, none⟩ = some (.int .i64 W.safe) := kW3.cell 2
          have q3 : w3'.cell? ⟨gW, 3, none⟩ = some (.slice B2 W.segs.length d2) := kW3.cell 3
          have q4 : w3'.cell? ⟨gW, 4, none⟩ = some (.int .i64 W.size) := kW3.cell 4
          have q5 : w3'.cell? ⟨gW, 5, none⟩ = some (.bool W.rot) := kW3.cell 5
          clear HRB2 L5 hD2 n1b hD1
          go_wp2_with fail
          refine (HTN.out w3').mono ?_
          rintro en w4' ⟨rfl, b4'⟩
          have HRB4 := Lib.hid (HRB3.out.below b4')
          have kW4 := HRB4.out.kw
          have HLT := Lib.hid kW4.lt
          have n1d : w4'.cell? ⟨wr.heap.size, 1, none⟩ = some (.slice D x.recs.length cD) := (n1c.below b4' n1c.lt).cell 1
          have TR := HTR.out w4' _ HRB4.out.recs HRB4.out.segs D cD (hD3.below b4')
          clear q0 q1 q2 q3 q4 q5 kW3 HRB3 hD3 n1c b4' HTN HTR
          go_wp2_with ((with_reducible refine wpList_load_blk rfl 55 (.tmp 9) rfl gW ?_ 55 _ _ kW4 Try.underlying55 ?_ Try.size_RL ?_ ?_); rfl; rfl; rfl)
          refine TR.mono ?_
          clear TR
          rintro en w5' ⟨A5, c5, B5, d5, rfl, hA5, hB5, hC5, b5⟩
          have hRB5 := HRB4.out.below b5
          have kW5 := hRB5.kw
          have HRB5 := Lib.hid hRB5
          have HC5 := Lib.hid hC5
          clear kW4 hRB5 hC5 HRB4 b5
          go_wp2_with ((with_reducible refine wpList_store_blk rfl 55 (.tmp 9) (.tmp 74) rfl gW 55 _ (rlC A5 c5 B5 d5 (appR W most x.recs)) ?_ ?_ kW5 Try.size_RL ?_ ?_ ?_ ?_); rfl; rfl; rfl; rfl; (simp [rlC, Value.oneCell']); intro w7 k7 g7 z7)
          have HRB6 := Lib.hid (HRB5.out.wr hgw k7 g7 (hA5.mono fun y _ h => in_new (G := fun y => (((G y ∨ wr.heap.size ≤ y) ∨ w1.heap.size ≤ y) ∧ y < w2'.heap.size) ∨ w3'.heap.size ≤ y) HLT.out h) (hB5.mono fun y _ h => in_new (G := fun y => (((G y ∨ wr.heap.size ≤ y) ∨ w1.heap.size ≤ y) ∧ y < w2'.heap.size) ∨ w3'.heap.size ≤ y) HLT.out h))
          go_meet
          case rel => exact ⟨g, _, segs', l', appR W most x.recs, ps', A5, c5, B5, d5, rfl, HRI2.out, HRB6.out, HC5.out⟩
        · have f1 : (x.kind == 1) = false := by rw [beq_eq_false_iff_ne]; exact k1
          clear k1
          by_cases k2 : x.kind = 2
          · have f2 : (x.kind == 2) = true := by rw [beq_iff_eq]; exact k2
            clear k2
            obtain ⟨ps1, e1, e2, e3⟩ := sync_good HRI.out.good
            have T := sync_log g _ l (segs.map (·.1)) dskR ps w1 HRB1.out.ld (HRI.out.good.wl.ok (by decide) (by have := HRI.out.sk; omega) (by have := HRI.out.uk; omega)) ⟨⟨by decide, by decide⟩, fun h => by cases h⟩ (by rw [List.length_map]; have := HRI.out.sk; omega)
            rw [e1] at T
            have HRI2 := Lib.hid (HRI.out.sync e2 e3).mono
            clear HRI e1 e2 e3
            go_wp2_with fail
            refine T.mono ?_
            clear T
            rintro en w2' ⟨rfl, L5⟩
            have HRB2 := Lib.hid (HRB1.out.log L5)
            clear L5 HRB1
            go_wp2_with fail
            go_meet
            case rel => exact ⟨g, _, segs, l, W, ps1, A2, c2, B2, d2, rfl, HRI2.out, HRB2.out, HC.out⟩
          · have f2 : (x.kind == 2) = false := by rw [beq_eq_false_iff_ne]; exact k2
            clear k2
            by_cases k3 : x.kind = 3
            · have f3 : (x.kind == 3) = true := by rw [beq_iff_eq]; exact k3
              clear k3
              obtain ⟨ps1, e1, e2, e3⟩ := sync_good HRI.out.good
              have T := rotate_log g _ l (segs.map (·.1)) dskR ps w1 HRB1.out.ld HRB1.out.ld.notin (HRI.out.good.wl.ok (by decide) (by have := HRI.out.sk; omega) (by have := HRI.out.uk; omega)) ⟨⟨by decide, by decide⟩, fun h => by cases h⟩ (by rw [List.length_map]; have := HRI.out.sk; omega)
              rw [e1] at T
              have hl : ({ l with rot := l.rot || decide ((0 : Int) = 0) } : LLog) = { l with rot := true } := by simp
              dsimp only at T
              rw [hl] at T
              have HRI2 := Lib.hid (HRI.out.rotate e2 e3).mono
              clear HRI e1 e2 e3 hl
              go_wp2_with fail
              refine T.mono ?_
              clear T
              rintro en w2' ⟨rfl, L5⟩
              have HRB2 := Lib.hid (HRB1.out.log L5)
              clear L5 HRB1
              have y5 : w2'.cell? ⟨gW, 5, none⟩ = some (.bool W.rot) := HRB2.out.kw.cell 5
              have f5' : w2'.frozen? ⟨gW, 5, none⟩ = false := HRB2.out.kw.frozen 5
              have HRB3 := Lib.hid (HRB2.out.wr (W' := { W with rot := true }) hgw (HRB2.out.kw.set_ 5 (.bool true)) (only_setCell (only_of_below (Below.refl _ _) _) (.inl rfl) _) HRB2.out.recs HRB2.out.segs)
              clear HRB2
              go_wp2_with fail
              go_meet
              case rel => exact ⟨g, _, segs, { l with rot := true }, { W with rot := true }, ps1, A2, c2, B2, d2, rfl, HRI2.out, HRB3.out, HC.out⟩
            · have f3 : (x.kind == 3) = false := by rw [beq_eq_false_iff_ne]; exact k3
              clear k3
              by_cases k4 : x.kind = 4
              · have f4 : (x.kind == 4) = true := by rw [beq_iff_eq]; exact k4
                clear k4
                obtain ⟨ps1, e1, hRI⟩ := HRI.out.dropd x.n
                have T := drop_log g _ l (segs.map (·.1)) dskR ps w1 HRB1.out.ld (HRI.out.good.wl.ok (by decide) (by have := HRI.out.sk; omega) (by have := HRI.out.uk; omega)) ⟨⟨by decide, by decide⟩, fun h => by cases h⟩ (by rw [List.length_map]; have := HRI.out.sk; omega) x.n
                rw [HRI.out.good.pre, e1] at T
                have HT2 := Lib.hid (fun (Y : World) (S : Nat → Prop) (hA : SlS BsE Y S A2 W.recs) (hB : SlS U64E Y S B2 W.segs) => rdrop_any A2 c2 B2 d2 W segs x.n S Y hA hB HC.out HRI.out.wrec HRI.out.wseg HRI.out.good.chain (by rw [HRI.out.wnext]; have := HRI.out.nk; omega) (by have h1 := HRI.out.safe; have h2 := HRI.out.nk; have h3 := HRI.out.wnext; unfold nextR at h3; omega) (by have := HRI.out.sk; omega) (fun s hs => by have h1 := HRI.out.good.lt_next s hs; have h2 := HRI.out.nk; omega))
                have HRI2 := Lib.hid hRI
                clear HRI e1 hRI
                go_wp2_with fail
                refine T.mono ?_
                clear T
                rintro en w2' ⟨rfl, L5⟩
                have n2' : w2'.cell? ⟨wr.heap.size, 2, none⟩ = some (.int .u64 (x.n : Int)) := (L5.2.blk kX (.inr (Nat.le_refl _))).cell 2
                have HRB2 := Lib.hid (HRB1.out.log L5)
                have kW2 := HRB2.out.kw
                have HLT := Lib.hid kW2.lt
                have T2 := HT2.out w2' _ HRB2.out.recs HRB2.out.segs
                clear L5 HRB1 HT2
                go_wp2_with ((with_reducible refine wpList_load_blk rfl 55 (.tmp 9) rfl gW ?_ 55 _ _ kW2 Try.underlying55 ?_ Try.size_RL ?_ ?_); rfl; rfl; rfl)
                refine T2.mono ?_
                clear T2
                rintro en w3' ⟨A5, c5, B5, d5, rfl, hA5, hB5, hC5, b5⟩
                have hRB3 := HRB2.out.below b5
                have kW3 := hRB3.kw
                have HRB3 := Lib.hid hRB3
                have HC5 := Lib.hid hC5
                clear kW2 hRB3 hC5 HRB2 b5
                go_wp2_with ((with_reducible refine wpList_store_blk rfl 55 (.tmp 9) (.tmp 96) rfl gW 55 _ (rlC A5 c5 B5 d5 (dropR W segs x.n)) ?_ ?_ kW3 Try.size_RL ?_ ?_ ?_ ?_); rfl; rfl; rfl; rfl; (simp [rlC, Value.oneCell']); intro w7 k7 g7 z7)
                have HRB4 := Lib.hid (HRB3.out.wr hgw k7 g7 (hA5.mono fun y _ h => in_new (G := fun y => (G y ∨ wr.heap.size ≤ y) ∧ y < w1.heap.size) HLT.out h) (hB5.mono fun y _ h => in_new (G := fun y => (G y ∨ wr.heap.size ≤ y) ∧ y < w1.heap.size) HLT.out h))
                go_meet
                case rel => exact ⟨g, _, dropS x.n segs, l, dropR W segs x.n, ps1, A5, c5, B5, d5, rfl, HRI2.out, HRB4.out, HC5.out⟩
              · have f4 : (x.kind == 4) = false := by rw [beq_eq_false_iff_ne]; exact k4
                clear k4
                by_cases k5 : x.kind = 5
                · have f5 : (x.kind == 5) = true := by rw [beq_iff_eq]; exact k5
                  clear k5
                  obtain ⟨Aw, cw, _, _, hdG, _, _⟩ := HRB1.out.ld
                  rw [HRI.out.disk] at hdG
                  have T := open_good (pre := [119, 46]) db (hdG.mono (F' := fun y => G y ∨ wr.heap.size ≤ y) fun y h => .inl h) HRI.out.good.wl HRI.out.good.chain rfl rfl ⟨by decide, by decide⟩ (by decide) (by decide) (by have := HRI.out.sk; omega) (by have := HRI.out.uk; omega) (by have h1 := HRI.out.wnext; have h2 := HRI.out.nk; unfold nextR at h1; rw [HRI.out.wrec] at h1; omega) most (by have h := HM.out; omega)
                  clear hdG
                  go_wp2_with fail
                  refine T.mono ?_
                  clear T
                  rintro en w2' ⟨g5, A5, c5, rs5, h1, hg5, hR5, hS5, hm5, L5, B5⟩
                  have hlr : rs5.length = W.recs.length := by rw [HRI.out.wrec]; have h := congrArg List.length hm5; rw [List.length_map] at h; exact h
                  have h1' : en = .returned (.tuple #[.pointer (some ⟨g5, 0, none⟩), .slice A5 W.recs.length c5, .int .i64 0]) := by rw [h1, hlr]
                  subst h1'
                  have HRB2 := Lib.hid (HRB1.out.blp L5 B5 (fun y h1 h2 => .inl ⟨h1, h2⟩))
                  have hrl : ∀ r ∈ W.recs, r.length ≤ 2000 := by rw [HRI.out.wrec]; exact HRI.out.rl
                  have hwl : W.recs.length ≤ 360 := by have h1 := HRI.out.wnext; have h2 := HRI.out.nk; unfold nextR at h1; omega
                  have S5 : SlS BsE w2' Any A5 W.recs := by
                    have hm6 : rs5.map (·.2.1) = W.recs := by rw [HRI.out.wrec]; exact hm5
                    have h := rows_sl hR5 hS5 (fun r hr => Nat.le_trans (hrl r.2.1 (by rw [← hm6]; exact List.mem_map_of_mem (f := fun r : R3 => r.2.1) hr)) (by decide)) (by rw [hlr]; omega)
                    rwa [hm6] at h
                  have TE := equals_same A5 A2 W.recs c5 c2 _ _ w2' S5 HRB2.out.recs
                  have q1 : w2'.cell? ⟨gW, 1, none⟩ = some (.slice A2 W.recs.length c2) := HRB2.out.kw.cell 1
                  have HRI2 := Lib.hid HRI.out.reopen.mono
                  clear HRI HRB1 hR5 hS5 hm5 L5 B5 S5 hrl hwl h1 hlr hg5
                  go_wp2_with fail
                  refine TE.mono ?_
                  clear TE
                  rintro en wz ⟨rfl, m1, rfl⟩
                  have HRB3 := Lib.hid (HRB2.out.below (below_drewN (Below.refl _ _) m1))
                  clear HRB2 q1
                  generalize w2'.drewN m1 = w3' at *
                  have y5 : w3'.cell? ⟨gW, 5, none⟩ = some (.bool W.rot) := HRB3.out.kw.cell 5
                  have f5' : w3'.frozen? ⟨gW, 5, none⟩ = false := HRB3.out.kw.frozen 5
                  have HRB4 := Lib.hid (HRB3.out.wr (W' := { W with rot := false }) hgw (HRB3.out.kw.set_ 5 (.bool false)) (only_setCell (only_of_below (Below.refl _ _) _) (.inl rfl) _) HRB3.out.recs HRB3.out.segs)
                  clear HRB3
                  go_wp2_with fail
                  go_meet
                  case rel => exact ⟨g5, _, segs, lastLog (log0 db [119, 46] most) segs, { W with rot := false }, ps, A2, c2, B2, d2, rfl, HRI2.out, HRB4.out, HC.out⟩
                · have f5 : (x.kind == 5) = false := by rw [beq_eq_false_iff_ne]; exact k5
                  clear k5
                  have HRI2 := Lib.hid HRI.out.mono
                  go_wp2_with fail
                  go_meet
                  case rel => exact ⟨g, _, segs, l, W, ps, A2, c2, B2, d2, rfl, HRI2.out, HRB1.out, HC.out⟩
      case rest =>
        obtain ⟨g2, G2, segs2, l2', W2, ps2, A3', c3', B3', d3', rfl, HRI3, HRB3, HC3⟩ := hcut
        clear HRI HC HRB1
        have hLD := HRB3.out.ld
        have kW := HRB3.out.kw
        obtain ⟨fi, hfi⟩ : ∃ fi, fi = W2.first := ⟨_, rfl⟩
        obtain ⟨nx, hnx⟩ : ∃ nx, nx = l2'.next := ⟨_, rfl⟩
        obtain ⟨m, hm⟩ : ∃ m, m = W2.segs.length := ⟨_, rfl⟩
        have HBK : Hid (∀ Y, Below wc.heap.size wc Y → Blk Y gW 55 #[.int .u64 (fi : Int), .slice A3' W2.recs.length c3', .int .i64 W2.safe, .slice B3' m d3', .int .i64 W2.size, .bool W2.rot]) := fun Y hY => by rw [hfi, hm]; exact kW.below hY kW.lt
        have TF : Hid (∀ Y, Below wc.heap.size wc Y → Calls Try.prog 32 #[.pointer (some ⟨g2, 0, none⟩)] Y (fun en w' => en = .returned (.int .u64 (fi : Int)) ∧ w' = Y)) := fun Y hY => by
          have h := first_log (hLD.below hY)
          rw [← HRI3.out.wfirst, ← hfi] at h
          exact h
        have TX : Hid (∀ Y, Below wc.heap.size wc Y → Calls Try.prog 15 #[.pointer (some ⟨g2, 0, none⟩)] Y (fun en w' => en = .returned (.int .u64 (nx : Int)) ∧ w' = Y)) := fun Y hY => by
          obtain ⟨Aw, cw, hk, _⟩ := hLD.below hY
          have h := nextW_any g2 _ l2' Y hk
          rw [← hnx] at h
          exact h
        have TN : Hid (∀ Y : World, Calls Try.prog 26 #[.agg #[.int .u64 (fi : Int), .slice A3' W2.recs.length c3', .int .i64 W2.safe, .slice B3' m d3', .int .i64 W2.size, .bool W2.rot]] Y (fun en w' => en = .returned (.int .u64 (nx : Int)) ∧ Below Y.heap.size Y w')) := fun Y => by
          have h := rnext_any A3' c3' B3' d3' W2 Y (by rw [HRI3.out.wnext]; have := HRI3.out.nk; omega)
          rw [HRI3.out.wnext, ← hnx] at h
          rw [hfi, hm]
          exact h
        have TL : Hid (∀ Y, Below wc.heap.size wc Y → Calls Try.prog 16 #[.pointer (some ⟨db, 0, none⟩), .string ⟨#[119, 46]⟩] Y (fun en w' => ∃ A c, en = .returned (.slice A m c) ∧ Below Y.heap.size Y w')) := fun Y hY => by
          obtain ⟨Aw, cw, _, _, hdG, _, _⟩ := hLD.below hY
          rw [HRI3.out.disk] at hdG
          have T := listD_any hdG (HRI3.out.good.wl.ok (by decide) (by have := HRI3.out.sk; omega) (by have := HRI3.out.uk; omega)) [119, 46] (by decide)
          rw [HRI3.out.good.wl.list rfl] at T
          refine T.mono ?_
          rintro en w' ⟨A, c, h1, _, h2⟩
          refine ⟨A, c, ?_, h2⟩
          rw [h1, hm, HRI3.out.wseg]
          unfold namesW
          rw [List.length_map, List.length_map]
        have hb1 : ((fi : Int) != (fi : Int)) = false := by rw [bne_eq_false_iff_eq]
        have hb2 : ((nx : Int) != (nx : Int)) = false := by rw [bne_eq_false_iff_eq]
        have hb3 : ((m : Int) != (m : Int)) = false := by rw [bne_eq_false_iff_eq]
        clear hLD kW hfi hnx hm hn64 hD1 kX dz
        go_upto_region 35 with fail
        have bd : Below wc.heap.size wc wc.drew := (Below.refl _ _).drew
        have kS := bd
        refine wp_region_noPanic ?_
        refine wp_region_held_drew (S := fun Y => Below wc.heap.size wc Y) (by kernel_rfl) kS (fun hH => ?_)
        generalize wc.drew = u0 at *
        refine wpAnyH_take (i := 0) (v := ?_) rfl (by kernel_rfl) (by kernel_rfl) (by kernel_rfl) (fun _ _ _ h => h) (Or.inl ⟨by rfl, ?_⟩) hH ?_
        case refine_2 => intro w hSw; go_simp; try with_reducible rfl
        try simp only [Z1, Z2, Z4, Z5, Z6, Z7]
        refine wpAnyH_take (i := 2) (v := ?_) rfl (by kernel_rfl) (by kernel_rfl) (by kernel_rfl) (fun _ _ _ h => h) (Or.inl ⟨by rfl, ?_⟩) hH ?_
        case refine_2 => intro w hSw; go_simp; try with_reducible rfl
        try simp only [Z1, Z2, Z3, Z4, Z5, Z6, Z7]
        refine wpAnyH_take (i := 3) (v := ?_) rfl (by kernel_rfl) (by kernel_rfl) (by kernel_rfl) (fun _ _ _ h => h) (Or.inl ⟨by rfl, ?_⟩) hH ?_
        case refine_2 => intro w hSw; have h1 := HBK.out w hSw; have n0 : w.cell? ⟨_, 0, none⟩ = some (.int .u64 (fi : Int)) := Blk.cell h1 0; clear h1 hSw; go_simp; try with_reducible rfl
        try simp only [Z1, Z2, Z3, Z4, Z5, Z6, Z7]
        refine wpAnyH_ready (rs := [1]) (by kernel_rfl) (by simp) ?_
        refine AllReadyH.cons rfl (fun K hK => ?_) AllReadyH.nil
        go_simp
        refine (TF.out u0 kS).mono ?_
        rintro en wz ⟨rfl, hwz⟩
        obtain rfl : u0 = wz := hwz.symm
        refine hK.out _ _ kS (fun hH => ?_)
        clear hK K
        try dsimp only
        try simp only [Z1, Z2, Z3, Z4, Z5, Z6, Z7]
        refine wpAnyH_take (i := 4) (v := ?_) rfl (by kernel_rfl) (by kernel_rfl) (by kernel_rfl) (fun _ _ _ h => h) (Or.inl ⟨by rfl, ?_⟩) hH ?_
        case refine_2 => intro w hSw; go_simp; try with_reducible rfl
        try simp only [Z1, Z2, Z3, Z4, Z5, Z6, Z7]
        refine wpAnyH_take (i := 5) (v := ?_) rfl (by kernel_rfl) (by kernel_rfl) (by kernel_rfl) (fun _ _ _ h => h) (Or.inl ⟨by rfl, ?_⟩) hH ?_
        case refine_2 => intro w hSw; go_simp; try with_reducible rfl
        try simp only [Z1, Z2, Z3, Z4, Z5, Z6, Z7]
        refine wpAnyH_take (i := 6) (v := ?_) rfl (by kernel_rfl) (by kernel_rfl) (by kernel_rfl) (fun _ _ _ h => h) (Or.inl ⟨by rfl, ?_⟩) hH ?_
        case refine_2 => intro w hSw; go_simp; try with_reducible rfl
        try simp only [Z1, Z2, Z3, Z4, Z5, Z6, Z7]
        refine wpAnyH_take (i := 8) (v := ?_) rfl (by kernel_rfl) (by kernel_rfl) (by kernel_rfl) (fun _ _ _ h => h) (Or.inl ⟨by rfl, ?_⟩) hH ?_
        case refine_2 => intro w hSw; have h1 := HBK.out w hSw; have n0 : w.cell? ⟨_, 0, none⟩ = some (.int .u64 (fi : Int)) := Blk.cell h1 0; have n1 : w.cell? ⟨_, 1, none⟩ = some (.slice A3' W2.recs.length c3') := Blk.cell h1 1; have n2 : w.cell? ⟨_, 2, none⟩ = some (.int .i64 W2.safe) := Blk.cell h1 2; have n3 : w.cell? ⟨_, 3, none⟩ = some (.slice B3' m d3') := Blk.cell h1 3; have n4 : w.cell? ⟨_, 4, none⟩ = some (.int .i64 W2.size) := Blk.cell h1 4; have n5 : w.cell? ⟨_, 5, none⟩ = some (.bool W2.rot) := Blk.cell h1 5; clear h1 hSw; go_simp; try with_reducible rfl
        try simp only [Z1, Z2, Z3, Z4, Z5, Z6, Z7]
        refine wpAnyH_ready (rs := [7]) (by kernel_rfl) (by simp) ?_
        refine AllReadyH.cons rfl (fun K hK => ?_) AllReadyH.nil
        go_simp
        refine (TX.out u0 kS).mono ?_
        rintro en wz ⟨rfl, hwz⟩
        obtain rfl : u0 = wz := hwz.symm
        refine hK.out _ _ kS (fun hH => ?_)
        clear hK K
        try dsimp only
        try simp only [Z1, Z2, Z3, Z4, Z5, Z6, Z7]
        refine wpAnyH_ready (rs := [9]) (by kernel_rfl) (by simp) ?_
        refine AllReadyH.cons rfl (fun K hK => ?_) AllReadyH.nil
        go_simp
        refine (TN.out u0).mono ?_
        rintro en u1 ⟨rfl, b1'⟩
        have kS1 := below_step' kS b1'
        refine hK.out _ _ kS1 (fun hH => ?_)
        clear hK K
        try dsimp only
        try simp only [Z1, Z2, Z3, Z4, Z5, Z6, Z7]
        refine wpAnyH_take (i := 10) (v := ?_) rfl (by kernel_rfl) (by kernel_rfl) (by kernel_rfl) (fun _ _ _ h => h) (Or.inl ⟨by rfl, ?_⟩) hH ?_
        case refine_2 => intro w hSw; go_simp; try with_reducible rfl
        try simp only [Z1, Z2, Z3, Z4, Z5, Z6, Z7]
        refine wpAnyH_take (i := 11) (v := ?_) rfl (by kernel_rfl) (by kernel_rfl) (by kernel_rfl) (fun _ _ _ h => h) (Or.inl ⟨by rfl, ?_⟩) hH ?_
        case refine_2 => intro w hSw; go_simp; try with_reducible rfl
        try simp only [Z1, Z2, Z3, Z4, Z5, Z6, Z7]
        refine wpAnyH_take (i := 12) (v := ?_) rfl (by kernel_rfl) (by kernel_rfl) (by kernel_rfl) (fun _ _ _ h => h) (Or.inl ⟨by rfl, ?_⟩) hH ?_
        case refine_2 => intro w hSw; go_simp; try with_reducible rfl
        try simp only [Z1, Z2, Z3, Z4, Z5, Z6, Z7]
        refine wpAnyH_take (i := 13) (v := ?_) rfl (by kernel_rfl) (by kernel_rfl) (by kernel_rfl) (fun _ _ _ h => h) (Or.inl ⟨by rfl, ?_⟩) hH ?_
        case refine_2 => intro w hSw; go_simp; try with_reducible rfl
        try simp only [Z1, Z2, Z3, Z4, Z5, Z6, Z7]
        refine wpAnyH_take (i := 16) (v := ?_) rfl (by kernel_rfl) (by kernel_rfl) (by kernel_rfl) (fun _ _ _ h => h) (Or.inl ⟨by rfl, ?_⟩) hH ?_
        case refine_2 => intro w hSw; go_simp; try with_reducible rfl
        try simp only [Z1, Z2, Z3, Z4, Z5, Z6, Z7]
        refine wpAnyH_take (i := 17) (v := ?_) rfl (by kernel_rfl) (by kernel_rfl) (by kernel_rfl) (fun _ _ _ h => h) (Or.inl ⟨by rfl, ?_⟩) hH ?_
        case refine_2 => intro w hSw; have h1 := HBK.out w hSw; have n3 : w.cell? ⟨_, 3, none⟩ = some (.slice B3' m d3') := Blk.cell h1 3; clear h1 hSw; go_simp; try with_reducible rfl
        try simp only [Z1, Z2, Z3, Z4, Z5, Z6, Z7]
        refine wpAnyH_take (i := 18) (v := ?_) rfl (by kernel_rfl) (by kernel_rfl) (by kernel_rfl) (fun _ _ _ h => h) (Or.inl ⟨by rfl, ?_⟩) hH ?_
        case refine_2 => intro w hSw; go_simp; try with_reducible rfl
        try simp only [Z1, Z2, Z3, Z4, Z5, Z6, Z7]
        refine wpAnyH_ready (rs := [14]) (by kernel_rfl) (by simp) ?_
        refine AllReadyH.cons rfl (fun K hK => ?_) AllReadyH.nil
        go_simp
        refine (TL.out u1 kS1).mono ?_
        rintro en u2 ⟨AL, cL, rfl, b2'⟩
        have kS2 := below_step' kS1 b2'
        refine hK.out _ _ kS2 (fun hH => ?_)
        clear hK K
        try dsimp only
        try simp only [Z1, Z2, Z3, Z4, Z5, Z6, Z7]
        refine wpAnyH_take (i := 15) (v := ?_) rfl (by kernel_rfl) (by kernel_rfl) (by kernel_rfl) (fun _ _ _ h => h) (Or.inl ⟨by rfl, ?_⟩) hH ?_
        case refine_2 => intro w hSw; go_simp; try with_reducible rfl
        try simp only [Z1, Z2, Z3, Z4, Z5, Z6, Z7]
        refine wpAnyH_take (i := 19) (v := ?_) rfl (by kernel_rfl) (by kernel_rfl) (by kernel_rfl) (fun _ _ _ h => h) (Or.inl ⟨by rfl, ?_⟩) hH ?_
        case refine_2 => intro w hSw; go_simp; try with_reducible rfl
        try simp only [Z1, Z2, Z3, Z4, Z5, Z6, Z7]
        refine wpAnyH_take (i := 20) (v := ?_) rfl (by kernel_rfl) (by kernel_rfl) (by kernel_rfl) (fun _ _ _ h => h) (Or.inl ⟨by rfl, ?_⟩) hH ?_
        case refine_2 => intro w hSw; go_simp; try with_reducible rfl
        try simp only [Z1, Z2, Z3, Z4, Z5, Z6, Z7]
        refine wpAnyH_done (by kernel_rfl) ?_ _
        refine NoPanic.normal ?_
        have HRB4 := Lib.hid (HRB3.out.below kS2)
        have HMS : Hid (xs.length - (k + 1) < xs.length - k) := by show _ < _; omega
        clear kS kS1 kS2 bd b1' b2' HRB3 TF TX TN TL HBK hb1 hb2 hb3
        go_wp2_with fail
        have hvw : wrap64 ((k : Int) + 1) = ((k + 1 : Nat) : Int) := by unfold wrap64; omega
        go_roundw
        case rel => exact ⟨k + 1, hlt, (by first | rfl | exact congrArg (Value.int .i64) hvw), g2, _, segs2, l2', W2, ps2, A3', c3', B3', d3', rfl, HRI3.out, HRB4.out, HC3.out⟩
        case measure => first | exact HMS.out | (rw [hvw]; exact HMS.out)

    · obtain rfl : k = xs.length := by omega
      have hlti : ¬ (xs.length : Int) < (xs.length : Int) := by omega
      have hk30 := HXL.out
      obtain ⟨Aw, cw, _, _, hdG, _, _⟩ := HRB.out.ld
      rw [HRI.out.disk] at hdG
      have T := open_good (pre := [119, 46]) db (hdG.mono (F' := G) fun y h => .inl h) HRI.out.good.wl HRI.out.good.chain rfl rfl ⟨by decide, by decide⟩ (by decide) (by decide) (by have := HRI.out.sk; omega) (by have := HRI.out.uk; omega) (by have h1 := HRI.out.wnext; have h2 := HRI.out.nk; unfold nextR at h1; rw [HRI.out.wrec] at h1; omega) most (by have h := HM.out; omega)
      clear hdG
      go_wp2_with fail
      refine T.mono ?_
      clear T
      rintro en w2' ⟨g5, A5, c5, rs5, h1, hg5, hR5, hS5, hm5, L5, B5⟩
      have hlr : rs5.length = W.recs.length := by rw [HRI.out.wrec]; have h := congrArg List.length hm5; rw [List.length_map] at h; exact h
      have h1' : en = .returned (.tuple #[.pointer (some ⟨g5, 0, none⟩), .slice A5 W.recs.length c5, .int .i64 0]) := by rw [h1, hlr]
      subst h1'
      have HRB2 := Lib.hid (HRB.out.blp L5 B5 (fun y h1 h2 => .inl ⟨h1, h2⟩))
      have hrl : ∀ r ∈ W.recs, r.length ≤ 2000 := by rw [HRI.out.wrec]; exact HRI.out.rl
      have hwl : W.recs.length ≤ 360 := by have h1 := HRI.out.wnext; have h2 := HRI.out.nk; unfold nextR at h1; omega
      have S5 : SlS BsE w2' Any A5 W.recs := by
        have hm6 : rs5.map (·.2.1) = W.recs := by rw [HRI.out.wrec]; exact hm5
        have h := rows_sl hR5 hS5 (fun r hr => Nat.le_trans (hrl r.2.1 (by rw [← hm6]; exact List.mem_map_of_mem (f := fun r : R3 => r.2.1) hr)) (by decide)) (by rw [hlr]; omega)
        rwa [hm6] at h
      have TE := equals_same A5 A2 W.recs c5 c2 _ _ w2' S5 HRB2.out.recs
      have q1 : w2'.cell? ⟨gW, 1, none⟩ = some (.slice A2 W.recs.length c2) := HRB2.out.kw.cell 1
      have hbf := HRB2.out.b
      clear HRI HRB hR5 hS5 hm5 L5 B5 S5 hrl hwl h1 hlr hg5
      go_wp2_with fail
      refine TE.mono ?_
      clear TE
      rintro en wz ⟨rfl, m1, rfl⟩
      go_wp2_with fail
      go_ret
      exact ⟨rfl, below_drewN hbf m1⟩
end Go.Proofs.Ytbldfgpnghoigaa
