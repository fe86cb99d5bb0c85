/- One call of both disks: the law's do. (Printed by wip/gen_dsko.py.) -/
import Derived.Test.YtnhonjgclbmheaaDskZ
namespace Go.Proofs.Ytnhonjgclbmheaa
open Go.RowKit
open Go.Maps

/-- a call as a value -/
abbrev av (X : Option Addr) (xc : Nat) (K : Option Addr) (kc : Nat) (a : LAct) : Value := .agg #[.int .i64 a.kind, .string ⟨a.name.toArray⟩, .string ⟨a.tn.toArray⟩, .slice X a.data.length xc, .int .i64 a.n, .slice K a.keeps.length kc]
/-- a call in memory, its rows in blocks of S -/
structure AOk (w : World) (S : Nat → Prop) (X : Option Addr) (xc : Nat) (K : Option Addr) (kc : Nat) (a : LAct) : Prop where
  name : a.name.length ≤ 1048576
  tn : a.tn.length ≤ 1048576
  dlen : a.data.length ≤ 1048576
  nmax : a.n ≤ 9223372036854775807
  data : Bs w X a.data ∧ At S X a.data.length ∧ a.data.length ≤ xc ∧ xc ≤ 9223372036854775807
  keeps : SlS IntE w S K a.keeps ∧ a.keeps.length ≤ kc ∧ kc ≤ 9223372036854775807 ∧ a.keeps.length ≤ 1048576
theorem BlP.sls {α : Type} {E : ER α} {F S : Nat → Prop} {w w' : World} {A : Option Addr} {xs : List α} (h : BlP F w w') (hs : SlS E w S A xs) (hSF : ∀ g, S g → F g) : SlS E w' S A xs := hs.same ⟨h.size, fun g h1 h2 => h.block g h2 (hSF g h1)⟩
theorem AOk.same {w w' : World} {S : Nat → Prop} {X : Option Addr} {xc : Nat} {K : Option Addr} {kc : Nat} {a : LAct} (h : AOk w S X xc K kc a) (hs : Same S w w') : AOk w' S X xc K kc a :=
  ⟨h.name, h.tn, h.dlen, h.nmax, ⟨h.data.1.sameS h.data.2.1 hs, h.data.2⟩, ⟨h.keeps.1.same hs, h.keeps.2⟩⟩
theorem AOk.lo {w : World} {S : Nat → Prop} {X : Option Addr} {xc : Nat} {K : Option Addr} {kc : Nat} {a : LAct} (h : AOk w S X xc K kc a) : AOk w (fun g => S g ∧ g < w.heap.size) X xc K kc a :=
  ⟨h.name, h.tn, h.dlen, h.nmax, ⟨h.data.1, fun ad e hn => ⟨h.data.2.1 ad e hn, Bs.at_lt h.data.1 ad e hn⟩, h.data.2.2⟩, ⟨h.keeps.1.lo, h.keeps.2⟩⟩
theorem AOk.below {w w' : World} {S : Nat → Prop} {X : Option Addr} {xc : Nat} {K : Option Addr} {kc : Nat} {a : LAct} (h : AOk w S X xc K kc a) (hb : Below w.heap.size w w') : AOk w' S X xc K kc a := h.same (.of_below hb)
theorem BlP.act {F S : Nat → Prop} {w w' : World} {X : Option Addr} {xc : Nat} {K : Option Addr} {kc : Nat} {a : LAct} (h : BlP F w w') (ha : AOk w S X xc K kc a) (hSF : ∀ g, S g → F g) : AOk w' S X xc K kc a := ha.same ⟨h.size, fun g h1 h2 => h.block g h2 (hSF g h1)⟩
theorem getR_le (fs : List LRF) (nm : List UInt8) : (getR fs nm).1.safe.length + (getR fs nm).1.tail.length ≤ usedR fs := by
  unfold getR
  split
  · rename_i h
    have hlt := findR_lt fs nm h
    rw [List.getD_eq_getElem?_getD, List.getElem?_eq_getElem hlt]
    show fs[(findR fs nm).1].safe.length + fs[(findR fs nm).1].tail.length ≤ _
    have hm := List.getElem_mem hlt
    generalize fs[(findR fs nm).1] = f at hm
    clear hlt h
    induction fs with
    | nil => cases hm
    | cons x r ih =>
      have e : usedR (x :: r) = x.safe.length + x.tail.length + usedR r := by unfold usedR; rw [List.map_cons, List.sum_cons]
      rw [e]
      rcases List.mem_cons.1 hm with rfl | hm
      · omega
      · have := ih hm; omega
  · exact Nat.zero_le _
theorem mem_usedR {fs : List LRF} {f : LRF} (hm : f ∈ fs) : f.safe.length + f.tail.length ≤ usedR fs := by
  induction fs with
  | nil => cases hm
  | cons x r ih =>
    have e : usedR (x :: r) = x.safe.length + x.tail.length + usedR r := by unfold usedR; rw [List.map_cons, List.sum_cons]
    rw [e]
    rcases List.mem_cons.1 hm with rfl | hm
    · omega
    · have := ih hm; omega
theorem Try.infoInt : (Try.prog.info? 3).map (fun i => (i.zero, i.size, i.bytes)) = some (some (.int .i64 0), 1, 8) := by kernel_rfl
theorem Try.size_Act : (Try.prog.info? 49).map (·.size) = some 6 := by kernel_rfl
/-- whole numbers appended to an empty row -/
theorem wpList_appI (b : Nat) (w0 w : World) {ops : Array Oper} {rest : List Oper} {o : Oper} {a : Act} {Q : Exit → Act → World → Prop} (hgd : o.guard = none) (s x : Operand)
    (ho : o.op = .call { callee := .builtin .append, args := #[s, x], argTypes := #[47, 47] })
    (g : Nat) (hs : a.eval s = .slice (some ⟨g, 0, none⟩) 0 0) (hown : Blk w g 3 #[]) (hbg : b ≤ g) (S : Nat → Prop)
    (B : Option Addr) (ys : List Int) (d : Nat) (hx : a.eval x = .slice B ys.length d) (hr : SlS IntE w S B ys) (hl : ys.length ≤ 1048576) (hb : Below w0.heap.size w0 w) (hb0 : w0.heap.size ≤ b)
    (h : ∀ A' c' w', SlS IntE w' (fun g => b ≤ g) A' ys → Below w0.heap.size w0 w' → wpList Try.prog ops Q rest (a.put o.dst (.slice A' ys.length c')) w') : wpList Try.prog ops Q (o :: rest) a w := by
  obtain ⟨i0, hi0, hz0, hz1, hz2⟩ := info_parts Try.infoInt
  obtain ⟨us, hru, hfl⟩ := hr.parts
  have hlt := hown.lt
  obtain ⟨vs, ho0, hf0⟩ := Own.empty IntE hown hbg (S := fun _ => True)
  refine wpList_append_sh w hgd s x _ ho b 3 i0 _ 1 8 Try.underlying47 hi0 hz0 hz1 hz2 rfl (by omega) _ _ _ hs ho0 _ B ys.length d us hx hru (ER.flat_one hfl) (by simp only [maxLen]; show 0 + ys.length ≤ _; omega) (by show (0 + ys.length) * 8 ≤ _; omega) (by omega) ?_
  intro A' c' w' o' g' t'
  have hus : ∀ {vs : List Value} {xs : List Int} {w w' : World} {S S' : Nat → Prop}, IntE.flat w S vs xs → IntE.flat w' S' vs xs := by
    intro vs xs
    induction xs generalizing vs with
    | nil => intro w w' S S' h; exact h
    | cons x r ih => rintro w w' S S' ⟨v, rr, e, hv, hr⟩; exact ⟨v, rr, e, hv, ih hr⟩
  have e : ([] : List Int).length + ys.length = ys.length := by show 0 + ys.length = _; omega
  rw [e] at o' t' ⊢
  have hvs : vs = [] := hf0
  subst hvs
  exact h A' c' w' ⟨by show ys.length * 8 ≤ _; omega, us, Reads.of_own o', (own_at o').mono' (fun g hg => hg.1), hus hfl⟩ (hb.grown g' hb.size fun j hj => by have h1 := Option.some.inj hj; change g = j at h1; omega)
theorem BlP.sub {F F' : Nat → Prop} {w w' : World} (h : BlP F w w') (hf : ∀ g, F' g → F g) : BlP F' w w' := ⟨h.os, h.tape, h.output, h.size, fun g h1 h2 => h.block g h1 (hf g h2)⟩
theorem BlP.hi {F : Nat → Prop} {w w' w2 : World} {row : Option Nat} (h : BlP F w w') (hg : w'.grownBy w2 row) (hr : ∀ g, row = some g → w.heap.size ≤ g) : BlP F w w2 :=
  have k : BlP (fun g => F g ∧ g < w.heap.size) w w2 := BlP.grown (h.sub fun _ h1 => h1.1) hg fun g e h1 => by have := hr g e; omega
  ⟨k.os, k.tape, k.output, k.size, fun g h1 h2 => k.block g h1 ⟨h2, h1⟩⟩
section
variable {w : World} {b : Nat} {F : Nat → Prop} {d : LDisk} {ps : List PFile}
theorem renameD_any (hd : DD w b F d ps) (hp : PsOk ps) (hl : LdOk d) (nm tn : List UInt8) (hn : nm.length ≤ 140737488355328) (htn : tn.length ≤ 140737488355328) :
    Calls Try.prog 31 #[.pointer (some ⟨b, 0, none⟩), .string ⟨nm.toArray⟩, .string ⟨tn.toArray⟩] w (RetDD b F (renameP d ps nm tn) w) := by
  obtain ⟨mv, S, fs, h1, rfl, h3⟩ := hd
  exact (rename_any d mv b fs S nm tn w h1 hn htn (ok_len hp) hl.left).mono fun _ _ ⟨h4, h5⟩ => ⟨h4, h5.dd h3⟩
theorem cutD_any (hd : DD w b F d ps) (hp : PsOk ps) (hl : LdOk d) (nm : List UInt8) (n : Int) (hn : nm.length ≤ 140737488355328) :
    Calls Try.prog 33 #[.pointer (some ⟨b, 0, none⟩), .string ⟨nm.toArray⟩, .int .i64 n] w (RetDD b F (cutP d ps nm n) w) := by
  obtain ⟨mv, S, fs, h1, rfl, h3⟩ := hd
  exact (cut_any d mv b fs S nm n w h1 hn (ok_len hp) hl.left).mono fun _ _ ⟨h4, h5⟩ => ⟨h4, h5.dd h3⟩
end
def RetDo (b : Nat) (F M : Nat → Prop) (r : Int × LDisk × List PFile) (rr : LRD × Int) (w : World) (en : Ending) (w' : World) : Prop :=
  ∃ A' c' F', en = .returned (.tuple #[rv A' c' rr.1, .bool true]) ∧ DD w' b F' r.2.1 r.2.2 ∧ (∀ g, F g → g < w.heap.size → F' g) ∧ SlS RFE w' (fun g => M g ∨ (F' g ∧ w.heap.size ≤ g)) A' rr.1.files ∧ rr.1.files.length ≤ c' ∧ c' ≤ 9223372036854775807 ∧ BlP F w w'
/-- behind both calls: what the law's do answers -/
theorem do_fin {b : Nat} {F M FM : Nat → Prop} {w wm w4 w5 w6 : World} {e : Int} {d' : LDisk} {ps' : List PFile} {A4 : Option Addr} {c4 : Nat} {W' : LRD} (hd : DD wm b FM d' ps') (hFM : ∀ g, F g → g < w.heap.size → FM g) (hFA : ∀ g, w.heap.size ≤ g → g ≤ w.heap.size + 1 + 1 → FM g) (pm : BlP F w wm)
    (b4 : Below wm.heap.size wm w4) (g5 : w4.grownBy w5 (some w.heap.size)) (g6 : w5.grownBy w6 (some (w.heap.size + 1 + 1))) (hsz : w.heap.size + 1 + 1 + 1 ≤ wm.heap.size)
    (h4 : SlS RFE w4 (fun g => (M g ∧ g < w.heap.size) ∨ wm.heap.size ≤ g) A4 W'.files) (hc : W'.files.length ≤ c4) (hm : c4 ≤ 9223372036854775807) :
    RetDo b F M (e, d', ps') (W', e) w (.returned (.tuple #[rv A4 c4 W', .bool true])) w6 := by
  have s4 := b4.size
  have d4 := hd.below b4
  have d5 := d4.grown g5 (fun g e => .inl (.inl (hFA g (by have := Option.some.inj e; omega) (by have := Option.some.inj e; omega))))
  have d6 := d5.grown g6 (fun g e => .inl (.inl (.inl (hFA g (by have := Option.some.inj e; omega) (by have := Option.some.inj e; omega)))))
  have h5 := h4.same (.of_grown g5 fun g hg e => by have h1 := Option.some.inj e; omega)
  have h6 := h5.same (.of_grown g6 fun g hg e => by have h1 := Option.some.inj e; omega)
  refine ⟨A4, c4, _, rfl, d6, fun g hg hl => .inl (.inl (.inl (hFM g hg hl))), h6.mono (fun g _ hg => ?_), hc, hm, ?_⟩
  · rcases hg with hg | hg
    · exact .inl hg.1
    · exact .inr ⟨.inl (.inl (.inr hg)), by omega⟩
  · exact ((pm.trans (.of_below b4)).hi g5 (fun g e => by have := Option.some.inj e; omega)).hi g6 (fun g e => by have := Option.some.inj e; omega)
set_option maxRecDepth 100000 in
set_option maxHeartbeats 8000000 in
theorem do_any (b : Nat) (F M : Nat → Prop) (d : LDisk) (ps : List PFile) (A : Option Addr) (c : Nat) (W : LRD) (a : LAct) (X : Option Addr) (xc : Nat) (K : Option Addr) (kc : Nat) (w : World)
    (hd : DD w b F d ps) (hM : ∀ g, M g → F g) (hW : SlS RFE w M A W.files) (hc : W.files.length ≤ c ∧ c ≤ 9223372036854775807) (hA : AOk w F X xc K kc a) (hR : Rel d ps W) (hok : PsOk ps) (hlo : LdOk d)
    (hfl : W.files.length ≤ 1048575) (hus : usedR W.files ≤ 35184372088832) :
    Calls Try.prog 19 #[.pointer (some ⟨b, 0, none⟩), rv A c W, av X xc K kc a] w (RetDo b F M (doP d ps a) (doR W a) w) := by
  have hstep := hR.step a hA.nmax
  obtain ⟨⟨e, d', ps'⟩, hrp⟩ : ∃ rp, rp = doP d ps a := ⟨_, rfl⟩
  obtain ⟨⟨W', e'⟩, hrr⟩ : ∃ rr, rr = doR W a := ⟨_, rfl⟩
  rw [← hrp, ← hrr] at hstep ⊢
  obtain ⟨he, _⟩ := hstep
  replace he : e = e' := he
  subst he
  have HRP := Lib.hid hrp.symm
  have HRR := Lib.hid hrr.symm
  clear hrp hrr
  replace hW := hW.lo
  replace hA := hA.lo
  have hra := hR.rarm
  have hroom : 0 ≤ W.room ∧ W.room ≤ 9223372036854775807 := by rw [← hR.room]; exact hlo.room
  have hgl := getR_le W.files a.name
  have hmu : ∀ f ∈ W.files, f.safe.length + f.tail.length ≤ 70368744177664 := fun f hf => by have := mem_usedR hf; omega
  have hnm1 : a.name.length ≤ 140737488355328 := by have := hA.name; omega
  have hnm2 : a.tn.length ≤ 140737488355328 := by have := hA.tn; omega
  have hdl := hA.dlen
  go_enter Try.func19, Try.ntmps19
  have dA : Below w.heap.size w (w.alloc (.cells (rcs A c W) 45)) := (Below.refl _ _).alloc (Nat.le_refl _) _
  have kA := Blk.new w 45 (rcs A c W)
  have zA : (w.alloc (.cells (rcs A c W) 45)).heap.size = w.heap.size + 1 := by simp
  go_upto_region 1 with fail
  change Code.wp _ _ _ _ (((w.alloc (.cells (rcs A c W) 45)).alloc (.cells #[.int .i64 a.kind, .string ⟨a.name.toArray⟩, .string ⟨a.tn.toArray⟩, .slice X a.data.length xc, .int .i64 a.n, .slice K a.keeps.length kc] 49)).alloc (.cells (rcs none 0 ⟨[], 0, 0, false⟩) 45))
  generalize w.alloc (.cells (rcs A c W) 45) = wA at *
  have dT : Below wA.heap.size wA (wA.alloc (.cells #[.int .i64 a.kind, .string ⟨a.name.toArray⟩, .string ⟨a.tn.toArray⟩, .slice X a.data.length xc, .int .i64 a.n, .slice K a.keeps.length kc] 49)) := (Below.refl _ _).alloc (Nat.le_refl _) _
  have kT := Blk.new wA 49 #[.int .i64 a.kind, .string ⟨a.name.toArray⟩, .string ⟨a.tn.toArray⟩, .slice X a.data.length xc, .int .i64 a.n, .slice K a.keeps.length kc]
  have zT : (wA.alloc (.cells #[.int .i64 a.kind, .string ⟨a.name.toArray⟩, .string ⟨a.tn.toArray⟩, .slice X a.data.length xc, .int .i64 a.n, .slice K a.keeps.length kc] 49)).heap.size = wA.heap.size + 1 := by simp
  generalize wA.alloc (.cells #[.int .i64 a.kind, .string ⟨a.name.toArray⟩, .string ⟨a.tn.toArray⟩, .slice X a.data.length xc, .int .i64 a.n, .slice K a.keeps.length kc] 49) = wT at *
  have dR : Below wT.heap.size wT (wT.alloc (.cells (rcs none 0 ⟨[], 0, 0, false⟩) 45)) := (Below.refl _ _).alloc (Nat.le_refl _) _
  have kR := Blk.new wT 45 (rcs none 0 ⟨[], 0, 0, false⟩)
  have zR : (wT.alloc (.cells (rcs none 0 ⟨[], 0, 0, false⟩) 45)).heap.size = wT.heap.size + 1 := by simp
  generalize wT.alloc (.cells (rcs none 0 ⟨[], 0, 0, false⟩) 45) = w1 at *
  rw [show wT.heap.size = w.heap.size + 1 + 1 by omega] at kR
  rw [zA] at kT
  have b1 : Below w.heap.size w w1 := dA.trans ((dT.mono (by omega)).trans (dR.mono (by omega)))
  replace kA := (kA.below dT (by omega)).below dR (by omega)
  replace kT := kT.below dR (by omega)
  have z1 : w1.heap.size = w.heap.size + 1 + 1 + 1 := by omega
  have Z1 := Lib.hid z1
  have l1 : w.heap.size < w1.heap.size := by omega
  have hd1 := hd.below b1
  have h1 := hW.below b1
  have hA1 := hA.below b1
  have p1 : BlP F w w1 := .of_below b1
  have F1s : F w.heap.size ∨ w.heap.size ≤ w.heap.size := .inr (Nat.le_refl _)
  have hMlt : ∀ g, (M g ∧ g < w.heap.size) → F g := fun g h => hM g h.1
  clear dA dT dR zA zT zR z1 hd hW hA hM
  replace hd1 : DD w1 b (fun g => F g ∨ w.heap.size ≤ g) d ps := hd1
  by_cases n2 : a.kind = 2
  · have hk := n2
    clear n2
    have hPP : syncP d ps a.name = (e, d', ps') := by rw [← HRP.out]; unfold doP; rw [if_neg (by rw [hk]; decide), if_pos hk]
    have hQQ : turnR W 1 a.name [] 0 = (W', e) := by rw [← HRR.out]; unfold doR; rw [if_neg (by rw [hk]; decide), if_pos hk]
    have c0 : w1.cell? ⟨w.heap.size + 1, 0, none⟩ = some (.int .i64 2) := by rw [← hk]; exact kT.cell 0
    clear hk HRP HRR 
    have c1 : w1.cell? ⟨w.heap.size + 1, 1, none⟩ = some (.string ⟨a.name.toArray⟩) := kT.cell 1
    have T := syncD_any hd1 hok hlo a.name hnm1
    rw [hPP] at T
    go_wp2_with fail
    refine T.mono ?_
    clear T
    show ∀ (en : Ending) (w' : World), RetDD b (fun g => F g ∨ w.heap.size ≤ g) (e, d', ps') w1 en w' → _
    rintro en wm ⟨rfl, hdm, pm1⟩
    dsimp only
    replace hdm : DD wm b (fun g => (F g ∨ w.heap.size ≤ g) ∧ g < w1.heap.size) d' ps' := hdm
    clear c0 c1
    have sm := pm1.size
    have kAm := pm1.blk kA F1s
    have kTm := pm1.blk kT (.inr (by omega))
    have kRm := pm1.blk kR (.inr (by omega))
    have hm := pm1.sls h1 (fun g hg => .inl (hMlt g hg))
    have pm := p1.trans (pm1.sub fun g hg => .inl hg)
    have FA : ∀ g, w.heap.size ≤ g → g ≤ w.heap.size + 1 + 1 → ((F g ∨ w.heap.size ≤ g) ∧ g < w1.heap.size) := fun g h1 h2 => ⟨.inr h1, by have := Z1.out; omega⟩
    have FB : ∀ g, F g → g < w.heap.size → ((F g ∨ w.heap.size ≤ g) ∧ g < w1.heap.size) := fun g h1 h2 => ⟨.inl h1, by omega⟩
    have lm : w.heap.size + 1 + 1 + 1 ≤ wm.heap.size := by have := Z1.out; omega
    have Am := pm1.act hA1 (fun g hg => .inl hg.1)
    clear kA kT kR h1 hA1 hd1 p1 pm1
    have HD := hdm
    clear hdm
    have c1 : wm.cell? ⟨w.heap.size + 1, 1, none⟩ = some (.string ⟨a.name.toArray⟩) := kTm.cell 1
    have T2 := rturn_any A c W _ 1 a.name [] 0 wm hm hc hnm1 (by decide) hfl hra (by omega)
    rw [hQQ] at T2
    go_wp2_with ((with_reducible refine wpList_load_blk rfl 45 (.tmp 4) rfl w.heap.size ?_ 45 _ _ kAm Try.underlying45 ?_ Try.size_RD ?_ ?_); rfl; rfl; rfl)
    refine T2.mono ?_
    clear T2
    show ∀ (en : Ending) (w' : World), RetRDE (W', e) (fun g => M g ∧ g < w.heap.size) wm en w' → _
    rintro en w4 ⟨A4, c4, rfl, h4, hc4, hm4, b4⟩
    replace h4 : SlS RFE w4 _ A4 W'.files := h4
    replace hc4 : W'.files.length ≤ c4 := hc4
    have kA4 := kAm.below b4 kAm.lt
    have kR4 := kRm.below b4 kRm.lt
    dsimp only
    go_upto_region 26 with ((with_reducible refine wpList_store_blk rfl 45 (.tmp 4) (.tmp 45) rfl w.heap.size 45 _ (rcs A4 c4 W') ?_ ?_ kA4 Try.size_RD ?_ ?_ ?_ ?_); rfl; rfl; rfl; rfl; (simp [rcs, Value.oneCell']); intro w5 kA5 g5 z5)
    have kR5 := kR4.grown g5 (fun e => by have h1 := Option.some.inj e; omega)
    go_wp2_with (first
      | ((with_reducible refine wpList_load_blk rfl 45 (.tmp 4) rfl w.heap.size ?_ 45 _ _ kA5 Try.underlying45 ?_ Try.size_RD ?_ ?_); rfl; rfl; rfl)
      | ((with_reducible refine wpList_store_blk rfl 45 (.tmp 6) (.tmp 116) rfl (w.heap.size + 1 + 1) 45 _ (rcs A4 c4 W') ?_ ?_ kR5 Try.size_RD ?_ ?_ ?_ ?_); rfl; rfl; rfl; rfl; (simp [rcs, Value.oneCell']); intro wz kz gz zz))
    exact bodyPost_ret (results_cell2 rfl rfl rfl kz Try.underlying45 rfl Try.size_RD) rfl (by exact do_fin HD FB FA pm b4 g5 gz lm h4 hc4 hm4)
  by_cases n3 : a.kind = 3
  · have hk := n3
    clear n3
    have hPP : renameP d ps a.name a.tn = (e, d', ps') := by rw [← HRP.out]; unfold doP; rw [if_neg (by rw [hk]; decide), if_neg (by rw [hk]; decide), if_pos hk]
    have hQQ : turnR W 2 a.name a.tn 0 = (W', e) := by rw [← HRR.out]; unfold doR; rw [if_neg (by rw [hk]; decide), if_neg (by rw [hk]; decide), if_pos hk]
    have c0 : w1.cell? ⟨w.heap.size + 1, 0, none⟩ = some (.int .i64 3) := by rw [← hk]; exact kT.cell 0
    clear hk HRP HRR n2
    have c1 : w1.cell? ⟨w.heap.size + 1, 1, none⟩ = some (.string ⟨a.name.toArray⟩) := kT.cell 1
    have c2 : w1.cell? ⟨w.heap.size + 1, 2, none⟩ = some (.string ⟨a.tn.toArray⟩) := kT.cell 2
    have T := renameD_any hd1 hok hlo a.name a.tn hnm1 hnm2
    rw [hPP] at T
    go_wp2_with fail
    refine T.mono ?_
    clear T
    show ∀ (en : Ending) (w' : World), RetDD b (fun g => F g ∨ w.heap.size ≤ g) (e, d', ps') w1 en w' → _
    rintro en wm ⟨rfl, hdm, pm1⟩
    dsimp only
    replace hdm : DD wm b (fun g => (F g ∨ w.heap.size ≤ g) ∧ g < w1.heap.size) d' ps' := hdm
    clear c0 c1 c2
    have sm := pm1.size
    have kAm := pm1.blk kA F1s
    have kTm := pm1.blk kT (.inr (by omega))
    have kRm := pm1.blk kR (.inr (by omega))
    have hm := pm1.sls h1 (fun g hg => .inl (hMlt g hg))
    have pm := p1.trans (pm1.sub fun g hg => .inl hg)
    have FA : ∀ g, w.heap.size ≤ g → g ≤ w.heap.size + 1 + 1 → ((F g ∨ w.heap.size ≤ g) ∧ g < w1.heap.size) := fun g h1 h2 => ⟨.inr h1, by have := Z1.out; omega⟩
    have FB : ∀ g, F g → g < w.heap.size → ((F g ∨ w.heap.size ≤ g) ∧ g < w1.heap.size) := fun g h1 h2 => ⟨.inl h1, by omega⟩
    have lm : w.heap.size + 1 + 1 + 1 ≤ wm.heap.size := by have := Z1.out; omega
    have Am := pm1.act hA1 (fun g hg => .inl hg.1)
    clear kA kT kR h1 hA1 hd1 p1 pm1
    have HD := hdm
    clear hdm
    have c1 : wm.cell? ⟨w.heap.size + 1, 1, none⟩ = some (.string ⟨a.name.toArray⟩) := kTm.cell 1
    have c2 : wm.cell? ⟨w.heap.size + 1, 2, none⟩ = some (.string ⟨a.tn.toArray⟩) := kTm.cell 2
    have T2 := rturn_any A c W _ 2 a.name a.tn 0 wm hm hc hnm1 hnm2 hfl hra (by omega)
    rw [hQQ] at T2
    go_wp2_with ((with_reducible refine wpList_load_blk rfl 45 (.tmp 4) rfl w.heap.size ?_ 45 _ _ kAm Try.underlying45 ?_ Try.size_RD ?_ ?_); rfl; rfl; rfl)
    refine T2.mono ?_
    clear T2
    show ∀ (en : Ending) (w' : World), RetRDE (W', e) (fun g => M g ∧ g < w.heap.size) wm en w' → _
    rintro en w4 ⟨A4, c4, rfl, h4, hc4, hm4, b4⟩
    replace h4 : SlS RFE w4 _ A4 W'.files := h4
    replace hc4 : W'.files.length ≤ c4 := hc4
    have kA4 := kAm.below b4 kAm.lt
    have kR4 := kRm.below b4 kRm.lt
    dsimp only
    go_upto_region 26 with ((with_reducible refine wpList_store_blk rfl 45 (.tmp 4) (.tmp 62) rfl w.heap.size 45 _ (rcs A4 c4 W') ?_ ?_ kA4 Try.size_RD ?_ ?_ ?_ ?_); rfl; rfl; rfl; rfl; (simp [rcs, Value.oneCell']); intro w5 kA5 g5 z5)
    have kR5 := kR4.grown g5 (fun e => by have h1 := Option.some.inj e; omega)
    go_wp2_with (first
      | ((with_reducible refine wpList_load_blk rfl 45 (.tmp 4) rfl w.heap.size ?_ 45 _ _ kA5 Try.underlying45 ?_ Try.size_RD ?_ ?_); rfl; rfl; rfl)
      | ((with_reducible refine wpList_store_blk rfl 45 (.tmp 6) (.tmp 116) rfl (w.heap.size + 1 + 1) 45 _ (rcs A4 c4 W') ?_ ?_ kR5 Try.size_RD ?_ ?_ ?_ ?_); rfl; rfl; rfl; rfl; (simp [rcs, Value.oneCell']); intro wz kz gz zz))
    exact bodyPost_ret (results_cell2 rfl rfl rfl kz Try.underlying45 rfl Try.size_RD) rfl (by exact do_fin HD FB FA pm b4 g5 gz lm h4 hc4 hm4)
  by_cases n4 : a.kind = 4
  · have hk := n4
    clear n4
    have hPP : removeP d ps a.name = (e, d', ps') := by rw [← HRP.out]; unfold doP; rw [if_neg (by rw [hk]; decide), if_neg (by rw [hk]; decide), if_neg (by rw [hk]; decide), if_pos hk]
    have hQQ : turnR W 3 a.name [] 0 = (W', e) := by rw [← HRR.out]; unfold doR; rw [if_neg (by rw [hk]; decide), if_neg (by rw [hk]; decide), if_neg (by rw [hk]; decide), if_pos hk]
    have c0 : w1.cell? ⟨w.heap.size + 1, 0, none⟩ = some (.int .i64 4) := by rw [← hk]; exact kT.cell 0
    clear hk HRP HRR n2 n3
    have c1 : w1.cell? ⟨w.heap.size + 1, 1, none⟩ = some (.string ⟨a.name.toArray⟩) := kT.cell 1
    have T := removeD_any hd1 hok hlo a.name hnm1
    rw [hPP] at T
    go_wp2_with fail
    refine T.mono ?_
    clear T
    show ∀ (en : Ending) (w' : World), RetDD b (fun g => F g ∨ w.heap.size ≤ g) (e, d', ps') w1 en w' → _
    rintro en wm ⟨rfl, hdm, pm1⟩
    dsimp only
    replace hdm : DD wm b (fun g => (F g ∨ w.heap.size ≤ g) ∧ g < w1.heap.size) d' ps' := hdm
    clear c0 c1
    have sm := pm1.size
    have kAm := pm1.blk kA F1s
    have kTm := pm1.blk kT (.inr (by omega))
    have kRm := pm1.blk kR (.inr (by omega))
    have hm := pm1.sls h1 (fun g hg => .inl (hMlt g hg))
    have pm := p1.trans (pm1.sub fun g hg => .inl hg)
    have FA : ∀ g, w.heap.size ≤ g → g ≤ w.heap.size + 1 + 1 → ((F g ∨ w.heap.size ≤ g) ∧ g < w1.heap.size) := fun g h1 h2 => ⟨.inr h1, by have := Z1.out; omega⟩
    have FB : ∀ g, F g → g < w.heap.size → ((F g ∨ w.heap.size ≤ g) ∧ g < w1.heap.size) := fun g h1 h2 => ⟨.inl h1, by omega⟩
    have lm : w.heap.size + 1 + 1 + 1 ≤ wm.heap.size := by have := Z1.out; omega
    have Am := pm1.act hA1 (fun g hg => .inl hg.1)
    clear kA kT kR h1 hA1 hd1 p1 pm1
    have HD := hdm
    clear hdm
    have c1 : wm.cell? ⟨w.heap.size + 1, 1, none⟩ = some (.string ⟨a.name.toArray⟩) := kTm.cell 1
    have T2 := rturn_any A c W _ 3 a.name [] 0 wm hm hc hnm1 (by decide) hfl hra (by omega)
    rw [hQQ] at T2
    go_wp2_with ((with_reducible refine wpList_load_blk rfl 45 (.tmp 4) rfl w.heap.size ?_ 45 _ _ kAm Try.underlying45 ?_ Try.size_RD ?_ ?_); rfl; rfl; rfl)
    refine T2.mono ?_
    clear T2
    show ∀ (en : Ending) (w' : World), RetRDE (W', e) (fun g => M g ∧ g < w.heap.size) wm en w' → _
    rintro en w4 ⟨A4, c4, rfl, h4, hc4, hm4, b4⟩
    replace h4 : SlS RFE w4 _ A4 W'.files := h4
    replace hc4 : W'.files.length ≤ c4 := hc4
    have kA4 := kAm.below b4 kAm.lt
    have kR4 := kRm.below b4 kRm.lt
    dsimp only
    go_upto_region 26 with ((with_reducible refine wpList_store_blk rfl 45 (.tmp 4) (.tmp 75) rfl w.heap.size 45 _ (rcs A4 c4 W') ?_ ?_ kA4 Try.size_RD ?_ ?_ ?_ ?_); rfl; rfl; rfl; rfl; (simp [rcs, Value.oneCell']); intro w5 kA5 g5 z5)
    have kR5 := kR4.grown g5 (fun e => by have h1 := Option.some.inj e; omega)
    go_wp2_with (first
      | ((with_reducible refine wpList_load_blk rfl 45 (.tmp 4) rfl w.heap.size ?_ 45 _ _ kA5 Try.underlying45 ?_ Try.size_RD ?_ ?_); rfl; rfl; rfl)
      | ((with_reducible refine wpList_store_blk rfl 45 (.tmp 6) (.tmp 116) rfl (w.heap.size + 1 + 1) 45 _ (rcs A4 c4 W') ?_ ?_ kR5 Try.size_RD ?_ ?_ ?_ ?_); rfl; rfl; rfl; rfl; (simp [rcs, Value.oneCell']); intro wz kz gz zz))
    exact bodyPost_ret (results_cell2 rfl rfl rfl kz Try.underlying45 rfl Try.size_RD) rfl (by exact do_fin HD FB FA pm b4 g5 gz lm h4 hc4 hm4)
  by_cases n5 : a.kind = 5
  · have hk := n5
    clear n5
    have hPP : cutP d ps a.name a.n = (e, d', ps') := by rw [← HRP.out]; unfold doP; rw [if_neg (by rw [hk]; decide), if_neg (by rw [hk]; decide), if_neg (by rw [hk]; decide), if_neg (by rw [hk]; decide), if_pos hk]
    have hQQ : turnR W 4 a.name [] a.n = (W', e) := by rw [← HRR.out]; unfold doR; rw [if_neg (by rw [hk]; decide), if_neg (by rw [hk]; decide), if_neg (by rw [hk]; decide), if_neg (by rw [hk]; decide), if_pos hk]
    have c0 : w1.cell? ⟨w.heap.size + 1, 0, none⟩ = some (.int .i64 5) := by rw [← hk]; exact kT.cell 0
    clear hk HRP HRR n2 n3 n4
    have c1 : w1.cell? ⟨w.heap.size + 1, 1, none⟩ = some (.string ⟨a.name.toArray⟩) := kT.cell 1
    have c4 : w1.cell? ⟨w.heap.size + 1, 4, none⟩ = some (.int .i64 a.n) := kT.cell 4
    have T := cutD_any hd1 hok hlo a.name a.n hnm1
    rw [hPP] at T
    go_wp2_with fail
    refine T.mono ?_
    clear T
    show ∀ (en : Ending) (w' : World), RetDD b (fun g => F g ∨ w.heap.size ≤ g) (e, d', ps') w1 en w' → _
    rintro en wm ⟨rfl, hdm, pm1⟩
    dsimp only
    replace hdm : DD wm b (fun g => (F g ∨ w.heap.size ≤ g) ∧ g < w1.heap.size) d' ps' := hdm
    clear c0 c1 c4
    have sm := pm1.size
    have kAm := pm1.blk kA F1s
    have kTm := pm1.blk kT (.inr (by omega))
    have kRm := pm1.blk kR (.inr (by omega))
    have hm := pm1.sls h1 (fun g hg => .inl (hMlt g hg))
    have pm := p1.trans (pm1.sub fun g hg => .inl hg)
    have FA : ∀ g, w.heap.size ≤ g → g ≤ w.heap.size + 1 + 1 → ((F g ∨ w.heap.size ≤ g) ∧ g < w1.heap.size) := fun g h1 h2 => ⟨.inr h1, by have := Z1.out; omega⟩
    have FB : ∀ g, F g → g < w.heap.size → ((F g ∨ w.heap.size ≤ g) ∧ g < w1.heap.size) := fun g h1 h2 => ⟨.inl h1, by omega⟩
    have lm : w.heap.size + 1 + 1 + 1 ≤ wm.heap.size := by have := Z1.out; omega
    have Am := pm1.act hA1 (fun g hg => .inl hg.1)
    clear kA kT kR h1 hA1 hd1 p1 pm1
    have HD := hdm
    clear hdm
    have c1 : wm.cell? ⟨w.heap.size + 1, 1, none⟩ = some (.string ⟨a.name.toArray⟩) := kTm.cell 1
    have c4 : wm.cell? ⟨w.heap.size + 1, 4, none⟩ = some (.int .i64 a.n) := kTm.cell 4
    have T2 := rturn_any A c W _ 4 a.name [] a.n wm hm hc hnm1 (by decide) hfl hra (by omega)
    rw [hQQ] at T2
    go_wp2_with ((with_reducible refine wpList_load_blk rfl 45 (.tmp 4) rfl w.heap.size ?_ 45 _ _ kAm Try.underlying45 ?_ Try.size_RD ?_ ?_); rfl; rfl; rfl)
    refine T2.mono ?_
    clear T2
    show ∀ (en : Ending) (w' : World), RetRDE (W', e) (fun g => M g ∧ g < w.heap.size) wm en w' → _
    rintro en w4 ⟨A4, c4, rfl, h4, hc4, hm4, b4⟩
    replace h4 : SlS RFE w4 _ A4 W'.files := h4
    replace hc4 : W'.files.length ≤ c4 := hc4
    have kA4 := kAm.below b4 kAm.lt
    have kR4 := kRm.below b4 kRm.lt
    dsimp only
    go_upto_region 26 with ((with_reducible refine wpList_store_blk rfl 45 (.tmp 4) (.tmp 92) rfl w.heap.size 45 _ (rcs A4 c4 W') ?_ ?_ kA4 Try.size_RD ?_ ?_ ?_ ?_); rfl; rfl; rfl; rfl; (simp [rcs, Value.oneCell']); intro w5 kA5 g5 z5)
    have kR5 := kR4.grown g5 (fun e => by have h1 := Option.some.inj e; omega)
    go_wp2_with (first
      | ((with_reducible refine wpList_load_blk rfl 45 (.tmp 4) rfl w.heap.size ?_ 45 _ _ kA5 Try.underlying45 ?_ Try.size_RD ?_ ?_); rfl; rfl; rfl)
      | ((with_reducible refine wpList_store_blk rfl 45 (.tmp 6) (.tmp 116) rfl (w.heap.size + 1 + 1) 45 _ (rcs A4 c4 W') ?_ ?_ kR5 Try.size_RD ?_ ?_ ?_ ?_); rfl; rfl; rfl; rfl; (simp [rcs, Value.oneCell']); intro wz kz gz zz))
    exact bodyPost_ret (results_cell2 rfl rfl rfl kz Try.underlying45 rfl Try.size_RD) rfl (by exact do_fin HD FB FA pm b4 g5 gz lm h4 hc4 hm4)
  by_cases n6 : a.kind = 6
  · have hk := n6
    clear n6
    have hPP : ((0 : Int), ({ d with armed := decide (0 ≤ a.n), left := a.n } : LDisk), ps) = (e, d', ps') := by rw [← HRP.out]; unfold doP; rw [if_neg (by rw [hk]; decide), if_neg (by rw [hk]; decide), if_neg (by rw [hk]; decide), if_neg (by rw [hk]; decide), if_neg (by rw [hk]; decide), if_pos hk]
    have hQQ : (armR W a.n, (0 : Int)) = (W', e) := by rw [← HRR.out]; unfold doR; rw [if_neg (by rw [hk]; decide), if_neg (by rw [hk]; decide), if_neg (by rw [hk]; decide), if_neg (by rw [hk]; decide), if_neg (by rw [hk]; decide), if_pos hk]
    have c0 : w1.cell? ⟨w.heap.size + 1, 0, none⟩ = some (.int .i64 6) := by rw [← hk]; exact kT.cell 0
    clear hk HRP HRR n2 n3 n4 n5
    injection hPP with q1 q2
    injection q2 with q2 q3
    injection hQQ with q4 q5
    have c4 : w1.cell? ⟨w.heap.size + 1, 4, none⟩ = some (.int .i64 a.n) := kT.cell 4
    have T := armD_any hd1 a.n
    rw [q2, q3] at T
    go_wp2_with fail
    refine T.mono ?_
    clear T
    rintro en wm ⟨rfl, hdm, pm1⟩
    dsimp only
    replace hdm : DD wm b (fun g => (F g ∨ w.heap.size ≤ g) ∧ g < w1.heap.size) d' ps' := hdm
    clear c0 c4
    have sm := pm1.size
    have kAm := pm1.blk kA F1s
    have kTm := pm1.blk kT (.inr (by omega))
    have kRm := pm1.blk kR (.inr (by omega))
    have hm := pm1.sls h1 (fun g hg => .inl (hMlt g hg))
    have pm := p1.trans (pm1.sub fun g hg => .inl hg)
    have FA : ∀ g, w.heap.size ≤ g → g ≤ w.heap.size + 1 + 1 → ((F g ∨ w.heap.size ≤ g) ∧ g < w1.heap.size) := fun g h1 h2 => ⟨.inr h1, by have := Z1.out; omega⟩
    have FB : ∀ g, F g → g < w.heap.size → ((F g ∨ w.heap.size ≤ g) ∧ g < w1.heap.size) := fun g h1 h2 => ⟨.inl h1, by omega⟩
    have lm : w.heap.size + 1 + 1 + 1 ≤ wm.heap.size := by have := Z1.out; omega
    have Am := pm1.act hA1 (fun g hg => .inl hg.1)
    clear kA kT kR h1 hA1 hd1 p1 pm1
    have HD := hdm
    clear hdm
    have c4 : wm.cell? ⟨w.heap.size + 1, 4, none⟩ = some (.int .i64 a.n) := kTm.cell 4
    have T2 := rarm_any A c W a.n wm
    rw [q4] at T2
    have hfe : W'.files = W.files := by rw [← q4]; unfold armR; split <;> rfl
    rw [← hfe] at hm hc
    clear q2 q3 q4 q5 hfe
    go_wp2_with ((with_reducible refine wpList_load_blk rfl 45 (.tmp 4) rfl w.heap.size ?_ 45 _ _ kAm Try.underlying45 ?_ Try.size_RD ?_ ?_); rfl; rfl; rfl)
    refine T2.mono ?_
    clear T2
    rintro en w4 ⟨rfl, b4⟩
    have kA4 := kAm.below b4 kAm.lt
    have kR4 := kRm.below b4 kRm.lt
    have hc4 := hc.1
    have hm4 := hc.2
    have h4 : SlS RFE w4 (fun g => (M g ∧ g < w.heap.size) ∨ wm.heap.size ≤ g) A W'.files := (hm.below b4).mono fun g _ hg => .inl hg
    dsimp only
    go_upto_region 26 with ((with_reducible refine wpList_store_blk rfl 45 (.tmp 4) (.tmp 103) rfl w.heap.size 45 _ (rcs A c W') ?_ ?_ kA4 Try.size_RD ?_ ?_ ?_ ?_); rfl; rfl; rfl; rfl; (simp [rcs, Value.oneCell']); intro w5 kA5 g5 z5)
    have kR5 := kR4.grown g5 (fun e => by have h1 := Option.some.inj e; omega)
    go_wp2_with (first
      | ((with_reducible refine wpList_load_blk rfl 45 (.tmp 4) rfl w.heap.size ?_ 45 _ _ kA5 Try.underlying45 ?_ Try.size_RD ?_ ?_); rfl; rfl; rfl)
      | ((with_reducible refine wpList_store_blk rfl 45 (.tmp 6) (.tmp 116) rfl (w.heap.size + 1 + 1) 45 _ (rcs A c W') ?_ ?_ kR5 Try.size_RD ?_ ?_ ?_ ?_); rfl; rfl; rfl; rfl; (simp [rcs, Value.oneCell']); intro wz kz gz zz))
    exact bodyPost_ret (results_cell2 rfl rfl rfl kz Try.underlying45 rfl Try.size_RD) rfl (by exact q1 ▸ do_fin HD FB FA pm b4 g5 gz lm h4 hc4 hm4)
  by_cases n7 : a.kind = 7
  · have hk := n7
    clear n7
    have hPP : ((0 : Int), (⟨d.room, false, 0, false⟩ : LDisk), crashP a.keeps ps) = (e, d', ps') := by rw [← HRP.out]; unfold doP; rw [if_neg (by rw [hk]; decide), if_neg (by rw [hk]; decide), if_neg (by rw [hk]; decide), if_neg (by rw [hk]; decide), if_neg (by rw [hk]; decide), if_neg (by rw [hk]; decide), if_pos hk]
    have hQQ : (crashR W a.keeps, (0 : Int)) = (W', e) := by rw [← HRR.out]; unfold doR; rw [if_neg (by rw [hk]; decide), if_neg (by rw [hk]; decide), if_neg (by rw [hk]; decide), if_neg (by rw [hk]; decide), if_neg (by rw [hk]; decide), if_neg (by rw [hk]; decide), if_pos hk]
    have c0 : w1.cell? ⟨w.heap.size + 1, 0, none⟩ = some (.int .i64 7) := by rw [← hk]; exact kT.cell 0
    clear hk HRP HRR n2 n3 n4 n5 n6
    injection hPP with q1 q2
    injection q2 with q2 q3
    injection hQQ with q4 q5
    have c5 : w1.cell? ⟨w.heap.size + 1, 5, none⟩ = some (.slice K a.keeps.length kc) := kT.cell 5
    have hke := hA1.keeps
    have bal : Below w1.heap.size w1 (w1.alloc (.cells #[] 3)) := (Below.refl _ _).alloc (Nat.le_refl _) _
    have c5a := (kT.below bal kT.lt).cell 5
    go_wp2_with (refine wpList_appI w1.heap.size w1 _ rfl (.tmp 107) (.tmp 109) rfl w1.heap.size rfl (Blk.new w1 3 #[]) (Nat.le_refl _) _ K a.keeps kc ?_ (hke.1.below bal) hke.2.2.2 bal (Nat.le_refl _) ?_; rfl; intro Ak ck wk hrk bk)
    clear bal c5a hke
    replace kA := kA.below bk kA.lt
    replace kT := kT.below bk kT.lt
    replace kR := kR.below bk kR.lt
    replace h1 := h1.below bk
    replace hA1 := hA1.below bk
    replace p1 := p1.trans (.of_below bk)
    have LX : Hid (w.heap.size + 1 + 1 + 1 ≤ wk.heap.size) := by show _ ≤ _; have := Z1.out; have := bk.size; omega
    replace hd1 : DD wk b (fun g => F g ∨ w.heap.size ≤ g) d ps := (hd1.below bk).mono (fun g hg => by rcases hg with hg | hg; exact .inl (.inl hg); exact .inl (.inr hg))
    have l0 := l1
    replace l1 : w.heap.size < wk.heap.size := by have := bk.size; omega
    have T := crashD_any hd1 hok Ak a.keeps ck (hrk.mono fun g _ hg => .inr (Nat.le_trans (Nat.le_of_lt l0) hg))
    rw [q2, q3] at T
    refine T.mono ?_
    clear T
    rintro en wm ⟨rfl, hdm, pm1⟩
    dsimp only
    replace hdm : DD wm b (fun g => (F g ∨ w.heap.size ≤ g) ∧ g < wk.heap.size) d' ps' := hdm
    clear c0 c5 hrk l0
    have sm := pm1.size
    have kAm := pm1.blk kA F1s
    have kTm := pm1.blk kT (.inr (by omega))
    have kRm := pm1.blk kR (.inr (by omega))
    have hm := pm1.sls h1 (fun g hg => .inl (hMlt g hg))
    have pm := p1.trans (pm1.sub fun g hg => .inl hg)
    have FA : ∀ g, w.heap.size ≤ g → g ≤ w.heap.size + 1 + 1 → ((F g ∨ w.heap.size ≤ g) ∧ g < wk.heap.size) := fun g h1 h2 => ⟨.inr h1, by have := LX.out; omega⟩
    have FB : ∀ g, F g → g < w.heap.size → ((F g ∨ w.heap.size ≤ g) ∧ g < wk.heap.size) := fun g h1 h2 => ⟨.inl h1, by omega⟩
    have lm : w.heap.size + 1 + 1 + 1 ≤ wm.heap.size := by have := LX.out; omega
    have Am := pm1.act hA1 (fun g hg => .inl hg.1)
    clear kA kT kR h1 hA1 hd1 p1 pm1
    have HD := hdm
    clear hdm
    have c5 : wm.cell? ⟨w.heap.size + 1, 5, none⟩ = some (.slice K a.keeps.length kc) := kTm.cell 5
    have T2 := rcrash_any A c W _ K a.keeps kc wm hm (Am.keeps.1.mono fun _ _ _ => trivial) hfl hmu
    rw [q4] at T2
    clear q2 q3 q4 q5
    go_wp2_with ((with_reducible refine wpList_load_blk rfl 45 (.tmp 4) rfl w.heap.size ?_ 45 _ _ kAm Try.underlying45 ?_ Try.size_RD ?_ ?_); rfl; rfl; rfl)
    refine T2.mono ?_
    clear T2
    show ∀ (en : Ending) (w' : World), RetRD W' (fun g => M g ∧ g < w.heap.size) wm en w' → _
    rintro en w4 ⟨A4, c4, rfl, h4, hc4, hm4, b4⟩
    have kA4 := kAm.below b4 kAm.lt
    have kR4 := kRm.below b4 kRm.lt
    dsimp only
    go_upto_region 26 with ((with_reducible refine wpList_store_blk rfl 45 (.tmp 4) (.tmp 115) rfl w.heap.size 45 _ (rcs A4 c4 W') ?_ ?_ kA4 Try.size_RD ?_ ?_ ?_ ?_); rfl; rfl; rfl; rfl; (simp [rcs, Value.oneCell']); intro w5 kA5 g5 z5)
    have kR5 := kR4.grown g5 (fun e => by have h1 := Option.some.inj e; omega)
    go_wp2_with (first
      | ((with_reducible refine wpList_load_blk rfl 45 (.tmp 4) rfl w.heap.size ?_ 45 _ _ kA5 Try.underlying45 ?_ Try.size_RD ?_ ?_); rfl; rfl; rfl)
      | ((with_reducible refine wpList_store_blk rfl 45 (.tmp 6) (.tmp 116) rfl (w.heap.size + 1 + 1) 45 _ (rcs A4 c4 W') ?_ ?_ kR5 Try.size_RD ?_ ?_ ?_ ?_); rfl; rfl; rfl; rfl; (simp [rcs, Value.oneCell']); intro wz kz gz zz))
    exact bodyPost_ret (results_cell2 rfl rfl rfl kz Try.underlying45 rfl Try.size_RD) rfl (by exact q1 ▸ do_fin HD FB FA pm b4 g5 gz lm h4 hc4 hm4)
  by_cases n1 : a.kind = 1
  · have hk := n1
    clear n1
    have hPP : appP d ps a.name a.data = (e, d', ps') := by rw [← HRP.out]; unfold doP; rw [if_pos hk]
    have hQQ : appR W a.name a.data = (W', e) := by rw [← HRR.out]; unfold doR; rw [if_pos hk]
    have c0 : w1.cell? ⟨w.heap.size + 1, 0, none⟩ = some (.int .i64 1) := by rw [← hk]; exact kT.cell 0
    clear hk HRP HRR n2 n3 n4 n5 n6 n7
    have c3 : w1.cell? ⟨w.heap.size + 1, 3, none⟩ = some (.slice X a.data.length xc) := kT.cell 3
    have hda := hA1.data
    have T := copy_any X a.data xc w1 hda.1
    go_wp2_with fail
    refine T.mono ?_
    clear T hda
    rintro en w2 ⟨A2, c2, rfl, o2, bk⟩
    replace o2 : OwnB w1.heap.size w2 A2 a.data c2 := o2
    clear c0 c3
    replace kA := kA.below bk kA.lt
    replace kT := kT.below bk kT.lt
    replace kR := kR.below bk kR.lt
    replace h1 := h1.below bk
    replace hA1 := hA1.below bk
    replace p1 := p1.trans (.of_below bk)
    have LX : Hid (w.heap.size + 1 + 1 + 1 ≤ w2.heap.size) := by show _ ≤ _; have := Z1.out; have := bk.size; omega
    replace hd1 : DD w2 b (fun g => F g ∨ w.heap.size ≤ g) d ps := (hd1.below bk).mono (fun g hg => by rcases hg with hg | hg; exact .inl (.inl hg); exact .inl (.inr hg))
    have l0 := l1
    replace l1 : w.heap.size < w2.heap.size := by have := bk.size; omega
    have c1 : w2.cell? ⟨w.heap.size + 1, 1, none⟩ = some (.string ⟨a.name.toArray⟩) := kT.cell 1
    have hat : At (fun g => F g ∨ w.heap.size ≤ g) A2 a.data.length := (OwnB.at_ o2).mono' fun g hg => .inr (Nat.le_trans (Nat.le_of_lt l0) hg.1)
    have T := appendD_any hd1 hok hlo a.name A2 a.data c2 (OwnB.bs o2 (by omega)) hat hnm1 (by omega)
    rw [hPP] at T
    dsimp only
    go_wp2_with fail
    refine T.mono ?_
    clear T hat
    show ∀ (en : Ending) (w' : World), RetDD b (fun g => F g ∨ w.heap.size ≤ g) (e, d', ps') w2 en w' → _
    rintro en wp ⟨rfl, hdp, pm1⟩
    dsimp only
    replace hdp : DD wp b (fun g => (F g ∨ w.heap.size ≤ g) ∧ g < w2.heap.size) d' ps' := hdp
    have op := pm1.own o2 (fun g hg => .inr (Nat.le_trans (Nat.le_of_lt l0) (OwnB.lt o2 g hg).1))
    have hob : ∀ g, (Value.slice A2 a.data.length c2).ownBlock = some g → w1.heap.size ≤ g ∧ g < w2.heap.size := fun g hg => OwnB.lt o2 g hg
    have T := over_any w1.heap.size A2 a.data c2 a.data.length c2 wp op (Nat.le_refl _) (by omega)
    clear c1 o2
    go_wp2_with fail
    refine T.mono ?_
    clear T op
    show ∀ (en : Ending) (w' : World), RetOver w1.heap.size A2 a.data c2 wp en w' → _
    rintro en wm ⟨rfl, L2, _, _, go⟩
    have hdm : DD wm b (fun g => ((F g ∨ w.heap.size ≤ g) ∧ g < w2.heap.size) ∨ wp.heap.size ≤ g) d' ps' := hdp.grown go (fun g hg => .inl ⟨.inr (Nat.le_trans (Nat.le_of_lt l0) (hob g hg).1), (hob g hg).2⟩)
    have hobz : ∀ g, (Value.slice A2 a.data.length c2).ownBlock = some g → w.heap.size + 1 + 1 + 1 ≤ g := fun g hg => by have := Z1.out; have := (hob g hg).1; omega
    have sm : w2.heap.size ≤ wm.heap.size := Nat.le_trans pm1.size go.size
    have kAm := (pm1.blk kA F1s).grown go (fun e => by have := hobz _ e.symm; omega)
    have kTm := (pm1.blk kT (.inr (by omega))).grown go (fun e => by have := hobz _ e.symm; omega)
    have kRm := (pm1.blk kR (.inr (by omega))).grown go (fun e => by have := hobz _ e.symm; omega)
    have hm := (pm1.sls h1 (fun g hg => .inl (hMlt g hg))).same (.of_grown go fun g hg e => by have := hobz _ e; have := hg.2; omega)
    have pm := (p1.trans (pm1.sub fun g hg => .inl hg)).hi go (fun g e => by have := hobz _ e; omega)
    have FA : ∀ g, w.heap.size ≤ g → g ≤ w.heap.size + 1 + 1 → (((F g ∨ w.heap.size ≤ g) ∧ g < w2.heap.size) ∨ wp.heap.size ≤ g) := fun g h1 h2 => .inl ⟨.inr h1, by have := LX.out; omega⟩
    have FB : ∀ g, F g → g < w.heap.size → (((F g ∨ w.heap.size ≤ g) ∧ g < w2.heap.size) ∨ wp.heap.size ≤ g) := fun g h1 h2 => .inl ⟨.inl h1, by omega⟩
    have lm : w.heap.size + 1 + 1 + 1 ≤ wm.heap.size := by have := LX.out; omega
    have Am := (pm1.act hA1 (fun g hg => .inl hg.1)).same (.of_grown go fun g hg e => by have := hobz _ e; have := hg.2; omega)
    have Xm := Am.data.1
    clear kA kT kR h1 hA1 hd1 p1 pm1 hob hobz go l0 hdp
    have HD := hdm
    clear hdm
    dsimp only
    have c1 : wm.cell? ⟨w.heap.size + 1, 1, none⟩ = some (.string ⟨a.name.toArray⟩) := kTm.cell 1
    have c3 : wm.cell? ⟨w.heap.size + 1, 3, none⟩ = some (.slice X a.data.length xc) := kTm.cell 3
    have T2 := rapp_any A c W _ a.name X a.data xc wm hm hc Xm hnm1 hfl hus (by omega) hroom hra (by omega)
    rw [hQQ] at T2
    go_wp2_with ((with_reducible refine wpList_load_blk rfl 45 (.tmp 4) rfl w.heap.size ?_ 45 _ _ kAm Try.underlying45 ?_ Try.size_RD ?_ ?_); rfl; rfl; rfl)
    refine T2.mono ?_
    clear T2
    show ∀ (en : Ending) (w' : World), RetRDE (W', e) (fun g => M g ∧ g < w.heap.size) wm en w' → _
    rintro en w4 ⟨A4, c4, rfl, h4, hc4, hm4, b4⟩
    replace h4 : SlS RFE w4 _ A4 W'.files := h4
    replace hc4 : W'.files.length ≤ c4 := hc4
    have kA4 := kAm.below b4 kAm.lt
    have kR4 := kRm.below b4 kRm.lt
    dsimp only
    go_upto_region 26 with ((with_reducible refine wpList_store_blk rfl 45 (.tmp 4) (.tmp 32) rfl w.heap.size 45 _ (rcs A4 c4 W') ?_ ?_ kA4 Try.size_RD ?_ ?_ ?_ ?_); rfl; rfl; rfl; rfl; (simp [rcs, Value.oneCell']); intro w5 kA5 g5 z5)
    have kR5 := kR4.grown g5 (fun e => by have h1 := Option.some.inj e; omega)
    go_wp2_with (first
      | ((with_reducible refine wpList_load_blk rfl 45 (.tmp 4) rfl w.heap.size ?_ 45 _ _ kA5 Try.underlying45 ?_ Try.size_RD ?_ ?_); rfl; rfl; rfl)
      | ((with_reducible refine wpList_store_blk rfl 45 (.tmp 6) (.tmp 116) rfl (w.heap.size + 1 + 1) 45 _ (rcs A4 c4 W') ?_ ?_ kR5 Try.size_RD ?_ ?_ ?_ ?_); rfl; rfl; rfl; rfl; (simp [rcs, Value.oneCell']); intro wz kz gz zz))
    exact bodyPost_ret (results_cell2 rfl rfl rfl kz Try.underlying45 rfl Try.size_RD) rfl (by exact do_fin HD FB FA pm b4 g5 gz lm h4 hc4 hm4)
  have hPP : (0, d, ps) = (e, d', ps') := by rw [← HRP.out]; unfold doP; rw [if_neg n1, if_neg n2, if_neg n3, if_neg n4, if_neg n5, if_neg n6, if_neg n7]
  have hQQ : (W, (0 : Int)) = (W', e) := by rw [← HRR.out]; unfold doR; rw [if_neg n1, if_neg n2, if_neg n3, if_neg n4, if_neg n5, if_neg n6, if_neg n7]
  have c0 : w1.cell? ⟨w.heap.size + 1, 0, none⟩ = some (.int .i64 a.kind) := kT.cell 0
  injection hPP with q1 q2
  injection q2 with q2 q3
  injection hQQ with q4 q5
  subst q1 q2 q3 q4
  clear q5 HRP HRR
  have d1 : (a.kind == 1) = false := by rw [beq_eq_false_iff_ne]; exact n1
  have d2 : (a.kind == 2) = false := by rw [beq_eq_false_iff_ne]; exact n2
  have d3 : (a.kind == 3) = false := by rw [beq_eq_false_iff_ne]; exact n3
  have d4 : (a.kind == 4) = false := by rw [beq_eq_false_iff_ne]; exact n4
  have d5 : (a.kind == 5) = false := by rw [beq_eq_false_iff_ne]; exact n5
  have d6 : (a.kind == 6) = false := by rw [beq_eq_false_iff_ne]; exact n6
  have d7 : (a.kind == 7) = false := by rw [beq_eq_false_iff_ne]; exact n7
  clear n1 n2 n3 n4 n5 n6 n7
  have h4 : SlS RFE w1 (fun g => (M g ∧ g < w.heap.size) ∨ w1.heap.size ≤ g) A W.files := h1.mono fun g _ hg => .inl hg
  have FB : ∀ g, F g → g < w.heap.size → (F g ∨ w.heap.size ≤ g) := fun g h1 _ => .inl h1
  have FA : ∀ g, w.heap.size ≤ g → g ≤ w.heap.size + 1 + 1 → (F g ∨ w.heap.size ≤ g) := fun g h1 _ => .inr h1
  have LX : Hid (w.heap.size + 1 + 1 + 1 ≤ w1.heap.size) := by show _ ≤ _; have := Z1.out; omega
  go_upto_region 26 with fail
  go_wp2_with (first
    | ((with_reducible refine wpList_load_blk rfl 45 (.tmp 4) rfl w.heap.size ?_ 45 _ _ kA Try.underlying45 ?_ Try.size_RD ?_ ?_); rfl; rfl; rfl)
    | ((with_reducible refine wpList_store_blk rfl 45 (.tmp 6) (.tmp 116) rfl (w.heap.size + 1 + 1) 45 _ (rcs A c W) ?_ ?_ kR Try.size_RD ?_ ?_ ?_ ?_); rfl; rfl; rfl; rfl; (simp [rcs, Value.oneCell']); intro wz kz gz zz))
  exact bodyPost_ret (results_cell2 rfl rfl rfl kz Try.underlying45 rfl Try.size_RD) rfl (by exact do_fin hd1 FB FA p1 (Below.refl _ _) (World.grownBy.refl _ _) gz LX.out h4 hc.1 hc.2)
end Go.Proofs.Ytnhonjgclbmheaa
