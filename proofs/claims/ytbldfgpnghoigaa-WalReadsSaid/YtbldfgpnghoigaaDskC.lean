/- A disk in memory: how it is kept; a file put; a turn; Crash. -/
import Derived.Test.YtbldfgpnghoigaaDskN
namespace Go.Proofs.Ytbldfgpnghoigaa
open Go.RowKit
open Go.Maps

section
variable {w w' : World} {b : Nat} {S S' : Nat → Prop} {mv : Value} {d : LDisk} {fs : List DF}
theorem Disk_.same (h : Disk_ w b S mv d fs) (hs : w.heap.size ≤ w'.heap.size) (he : ∀ g, g < w.heap.size → (g = b ∨ mv = .map (some g) ∨ S g) → w'.heap[g]? = w.heap[g]?) : Disk_ w' b S mv d fs := by
  obtain ⟨hk, hf, hr, hbm, hS⟩ := h
  exact ⟨(he b hk.lt (.inl rfl)).trans hk, hf.same fun g h1 h2 => he g h1 (.inr (.inl h2)), hr.same ⟨hs, fun g h1 h2 => he g h2 (.inr (.inr h1))⟩, hbm, fun g h1 => ⟨Nat.lt_of_lt_of_le (hS g h1).1 hs, (hS g h1).2⟩⟩
theorem Disk_.below (h : Disk_ w b S mv d fs) (hb : Below w.heap.size w w') : Disk_ w' b S mv d fs := h.same hb.size fun g hg _ => hb.block g hg
/-- another row has grown, in whose block nothing of the disk lies -/
theorem Disk_.grown {row : Option Nat} (h : Disk_ w b S mv d fs) (hg : w.grownBy w' row) (hr : ∀ g, row = some g → g ≠ b ∧ mv ≠ .map (some g) ∧ ¬ S g) : Disk_ w' b S mv d fs :=
  h.same hg.size fun g h1 h2 => hg.block g h1 fun e => by
    obtain ⟨n1, n2, n3⟩ := hr g e.symm
    rcases h2 with h2 | h2 | h2
    · exact n1 h2
    · exact n2 h2
    · exact n3 h2
theorem Disk_.more (h : Disk_ w b S mv d fs) (hs : ∀ g, S g → S' g) (hS' : ∀ g, S' g → g < w.heap.size ∧ g ≠ b ∧ mv ≠ .map (some g)) : Disk_ w b S' mv d fs :=
  ⟨h.1, h.2.1, fun q hq => ⟨(h.2.2.1 q hq).1, fun ad e hn => hs _ ((h.2.2.1 q hq).2.1 ad e hn), (h.2.2.1 q hq).2.2⟩, h.2.2.2.1, hS'⟩
theorem Disk_.set_ {d' : LDisk} (h : Disk_ w b S mv d fs) (hk : Blk w' b 72 (diskC mv d')) (hg : w.grownBy w' (some b)) : Disk_ w' b S mv d' fs := by
  obtain ⟨_, hf, hr, hbm, hS⟩ := h
  have e1 : ∀ g, g < w.heap.size → g ≠ b → _ := fun g h4 h5 => hg.block g h4 (fun e => h5 (Option.some.inj e))
  exact ⟨hk, hf.same fun g h4 h5 => e1 g h4 (fun e => hbm (by rw [h5, e])), hr.same ⟨hg.size, fun g h4 h5 => e1 g h5 (hS g h4).2.1⟩, hbm, fun g h4 => ⟨Nat.lt_of_lt_of_le (hS g h4).1 hg.size, (hS g h4).2⟩⟩
theorem Disk_.to (h : Disk_ w b S mv d fs) : DiskTo b S mv d (fs.map DF.p) w w := ⟨mv, S, fs, h, rfl, fun _ h => .inl h, .inl rfl, .refl _ _ _⟩
end
theorem DKept.below {b : Nat} {mv : Value} {w w' : World} (h : DKept b mv w w') : w.heap.size ≤ w'.heap.size := h.1
/-- a file put: the disk behind it -/
def RetPutD (b : Nat) (S : Nat → Prop) (mv : Value) (d : LDisk) (fs : List DF) (w : World) (en : Ending) (w' : World) : Prop :=
  en = .returned (.tuple #[]) ∧ ∃ mv', Disk_ w' b S mv' d fs ∧ (mv' = mv ∨ ∃ mb, mv' = .map (some mb) ∧ w.heap.size ≤ mb) ∧ DKept b mv w w'
theorem putD_of {b : Nat} {S : Nat → Prop} {mv : Value} {d : LDisk} {fs : List DF} {q : DF} {w : World} {en : Ending} {w' : World} (hd : Disk_ w b S mv d fs)
    (hq : Bs w q.A q.data ∧ At S q.A q.data.length ∧ q.data.length ≤ q.c ∧ q.c ≤ 9223372036854775807 ∧ q.safe ≤ q.data.length) (h : RetPut b mv d (putF fs q) w en w') : RetPutD b S mv d (putF fs q) w en w' := by
  obtain ⟨rfl, mv', k7, hf7, ⟨mb, rfl, hmb⟩, D7⟩ := h
  obtain ⟨hk, hf, hr, hbm, hS⟩ := hd
  have lb := hk.lt
  have hlt : ∀ g, mv = .map (some g) → g < w.heap.size := fun g e => hf.lt e
  have hmb2 : (mv = .map (some mb) ∧ mb < w.heap.size) ∨ (mv = .map none ∧ w.heap.size ≤ mb) := hmb.imp (fun e => ⟨e, hlt mb e⟩) id
  refine ⟨rfl, .map (some mb), ⟨k7, hf7, ?_, ?_, ?_⟩, ?_, D7⟩
  · intro r hr'
    rcases List.mem_cons.1 hr' with rfl | hr'
    · exact ⟨hq.1.sameS hq.2.1 ⟨D7.1, fun g h4 h5 => D7.2 g h5 (hS g h4).2.1 (hS g h4).2.2⟩, hq.2⟩
    · obtain ⟨h1, h2, h3⟩ := hr r (mem_delF.1 hr').1
      exact ⟨h1.sameS h2 ⟨D7.1, fun g h4 h5 => D7.2 g h5 (hS g h4).2.1 (hS g h4).2.2⟩, h2, h3⟩
  · intro e
    injection e with e
    have e := Option.some.inj e
    rcases hmb2 with ⟨h, _⟩ | ⟨_, h⟩
    · exact hbm (by rw [h, e])
    · omega
  · intro g h
    obtain ⟨h1, h2, h3⟩ := hS g h
    refine ⟨by have := D7.1; omega, h2, fun e => ?_⟩
    injection e with e
    have e := Option.some.inj e
    rcases hmb2 with ⟨h4, _⟩ | ⟨_, h4⟩
    · exact h3 (by rw [h4, e])
    · omega
  · rcases hmb2 with ⟨h, _⟩ | ⟨_, h⟩
    · exact .inl h.symm
    · exact .inr ⟨mb, rfl, h⟩
theorem putD_any (d : LDisk) (mv : Value) (b : Nat) (S : Nat → Prop) (fs : List DF) (q : DF) (w : World) (hd : Disk_ w b S mv d fs) (hn : q.name.length ≤ 140737488355328) (hsz : fs.length ≤ 1048576)
    (hq : Bs w q.A q.data ∧ At S q.A q.data.length ∧ q.data.length ≤ q.c ∧ q.c ≤ 9223372036854775807 ∧ q.safe ≤ q.data.length) :
    Calls Try.prog 51 #[.pointer (some ⟨b, 0, none⟩), .string ⟨q.name.toArray⟩, .agg #[.slice q.A q.data.length q.c, .int .i64 (q.safe : Int)]] w (RetPutD b S mv d (putF fs q) w) :=
  (put_any d mv b fs q w hd.1 hd.2.1 hd.2.2.2.1 hn hsz).mono fun _ _ h => putD_of hd hq h
theorem turnD_any (d : LDisk) (mv : Value) (b : Nat) (S : Nat → Prop) (fs : List DF) (e : Int) (w : World) (hd : Disk_ w b S mv d fs) (hl : d.armed = true → 0 ≤ d.left ∧ d.left ≤ 9223372036854775807) :
    Calls Try.prog 50 #[.pointer (some ⟨b, 0, none⟩), .int .i64 e] w (fun en w' => en = .returned (.tuple #[.bool (turnL d e).1, .int .i64 (turnL d e).2.1]) ∧ Disk_ w' b S mv (turnL d e).2.2 fs ∧ w.grownBy w' (some b)) :=
  (turn_any d mv b e w hd.1 hl).mono fun _ _ ⟨h1, h2, h3⟩ => by
    obtain ⟨hk, hf, hr, hbm, hS⟩ := hd
    have e1 : ∀ g, g < w.heap.size → g ≠ b → _ := fun g h4 h5 => h3.block g h4 (fun e => h5 (Option.some.inj e))
    exact ⟨h1, ⟨h2, hf.same fun g h4 h5 => e1 g h4 (fun e => hbm (by rw [h5, e])), hr.same ⟨h3.size, fun g h4 h5 => e1 g h5 (hS g h4).2.1⟩, hbm, fun g h4 => ⟨Nat.lt_of_lt_of_le (hS g h4).1 h3.size, (hS g h4).2⟩⟩, h3⟩
theorem thereD_any (d : LDisk) (mv : Value) (b : Nat) (S : Nat → Prop) (fs : List DF) (nm : List UInt8) (w : World) (hd : Disk_ w b S mv d fs) (hn : nm.length ≤ 140737488355328) :
    Calls Try.prog 48 #[.pointer (some ⟨b, 0, none⟩), .string ⟨nm.toArray⟩] w (fun en w' => en = .returned (.int .i64 (if nm ∈ fs.map DF.name then 0 else 6)) ∧ Below w.heap.size w w') :=
  there_any d mv b fs nm w hd.1 hd.2.1 hn
/-- crash: what of each tail stays -/
def keepP (keeps : List Int) (i tail : Nat) : Nat := if keeps = [] then 0 else ((max 0 (keeps.getD (i % keeps.length) 0)) % ((tail : Int) + 1)).toNat
theorem keepP_le (keeps : List Int) (i tail : Nat) : keepP keeps i tail ≤ tail := by
  unfold keepP
  split
  · exact Nat.zero_le _
  · have h1 := Int.emod_lt_of_pos (max 0 (keeps.getD (i % keeps.length) 0)) (show (0 : Int) < (tail : Int) + 1 by omega)
    have h2 := Int.emod_nonneg (max 0 (keeps.getD (i % keeps.length) 0)) (show (tail : Int) + 1 ≠ 0 by omega)
    omega
def crashN (keeps : List Int) : Nat → List (List UInt8) → List PFile → List PFile
  | _, [], ps => ps
  | i, nm :: r, ps =>
    if (getP ps nm).1.length = (getP ps nm).2 then crashN keeps i r ps
    else crashN keeps (i + 1) r (putP ps (nm, (getP ps nm).1.take ((getP ps nm).2 + keepP keeps i ((getP ps nm).1.length - (getP ps nm).2)), (getP ps nm).2 + keepP keeps i ((getP ps nm).1.length - (getP ps nm).2)))
def crashP (keeps : List Int) (ps : List PFile) : List PFile := crashN keeps 0 (sortN (ps.map (·.1))) ps
/-- a list of whole numbers as elements -/
def IntE : ER Int where
  size := 1
  pos := by omega
  bytes := 8
  bpos := by omega
  rep _ _ vs n := vs = [.int .i64 n] ∧ (Lit.int .i64 n).wf = true
  len := by rintro w S vs a ⟨rfl, _⟩; rfl
  one := by rintro w S vs a ⟨rfl, _⟩ v hv; simp at hv; subst hv; rfl
  keep := by rintro w w' S vs a h _; exact h
  mono := by rintro w S S' vs a h _; exact h
theorem IntE.at_ {w : World} {A : Option Addr} {S : Nat → Prop} {l : List Int} (h : SlS IntE w S A l) {k : Nat} (hk : k < l.length) :
    ∃ ad, A = some ad ∧ ad.block < w.heap.size ∧ w.cell? (ad.add k) = some (.int .i64 l[k]) ∧ -9223372036854775808 ≤ l[k] ∧ l[k] ≤ 9223372036854775807 := by
  obtain ⟨ad, vs, rfl, hb, ⟨rfl, h1⟩, h4, _, _⟩ := SlS.at_ h hk
  have := h4 _ rfl
  rw [show k * IntE.size = k from Nat.mul_one k] at this
  refine ⟨ad, rfl, hb, this, ?_⟩
  simp [Lit.wf, IntKind.min, IntKind.max, IntKind.signed, IntKind.bits] at h1
  omega
theorem names_at {w : World} {A : Option Addr} {l : List (List UInt8)} {c base : Nat} (h : w.ownsRow base 9 1 (.slice A l.length c) l.length (l.map encStr)) {k : Nat} (hk : k < l.length) :
    ∃ ad, A = some ad ∧ w.cell? (ad.add k) = some (.string ⟨l[k].toArray⟩) := by
  obtain ⟨ad, u, rfl, hb, hx, hc⟩ := Reads.at_ (Reads.of_own h) hk
  rw [List.getElem?_map, List.getElem?_eq_getElem hk] at hx
  injection hx with hx
  exact ⟨ad, rfl, by rw [hc, ← hx]⟩
theorem own_keptD {w w' : World} {A : Option Addr} {n c base size : Nat} {t : TypeId} {xs : List Value} {b : Nat} {mv : Value} (h : w.ownsRow base t size (.slice A n c) n xs) (hb : base > b) (hm : ∀ g, mv = .map (some g) → g < base) (hd : DKept b mv w w') : w'.ownsRow base t size (.slice A n c) n xs := by
  refine ⟨h.1, ?_⟩
  rcases h.2 with h2 | ⟨g, cap, cur, h1, h2, h3, h4⟩
  · exact .inl h2
  · have hlt : g < w.heap.size := by
      rcases Nat.lt_or_ge g w.heap.size with h5 | h5
      · exact h5
      · rw [Array.getElem?_eq_none h5] at h3; cases h3
    exact .inr ⟨g, cap, cur, h1, h2, by rw [hd.2 g hlt (by omega) (fun e => by have := hm g e; omega)]; exact h3, h4⟩
theorem Bs.take3 {w : World} {A : Option Addr} {l : List UInt8} (h : Bs w A l) (n : Nat) (hn : n ≤ l.length) : Bs w A (l.take n) := by
  refine ⟨⟨by rw [List.length_map, Nat.mul_one], fun h0 => ?_⟩, by rw [List.length_take]; have := h.2; omega⟩
  rw [List.length_take] at h0
  obtain ⟨ad, e, hb, hc⟩ := h.1.2 (by omega)
  refine ⟨ad, e, hb, fun j u hu => hc j u ?_⟩
  rw [List.getElem?_map, List.getElem?_take] at hu
  rw [List.getElem?_map]
  split at hu
  · exact hu
  · cases hu
section
variable {P : Program} {ops : Array Oper} {o : Oper} {a : Act} {K' : Act → World → Prop} {Q : Exit → Act → World → Prop} {E : Prop} {w : World}
theorem step_mapPut (hgd : o.guard = none) (m x v : Operand) (t : TypeId) (hop : o.op = Op.mapUpdate t m x v) (k e : TypeId) (K : Keyed P k) (ht : P.underlying t = some (.map k e)) (b n : Nat) (D : DataW Value)
    (hm : a.eval m = .map (some b)) (hown : w.ownsMap P k rawR b n D) (hn : n < maxLen) (key val : Value) (kl : Lit) (hx : a.eval x = key) (hv : a.eval v = val) (hkey : keyOf P k key = some kl)
    (hK : ∀ w', w'.ownsMap P k rawR b (n + 1) (D.put kl (.held val)) → w.grownBy w' (some b) → K' (a.put o.dst undef) w') : if Region.wanted o (yielded ops a.tmps) = true then Oper.wp P o a w K' Q else E := by
  have hw : Region.wanted o (yielded ops a.tmps) = true := by simp [Region.wanted, hgd]
  rw [if_pos hw]
  obtain ⟨w', hrun, r1, r2⟩ := hown.store K ht hn hkey (d := .held val) (ps := []) rfl
  unfold Oper.wp
  simp [execOp, hop, hm, hx, hv, hrun, Result.andThen]
  exact hK w' r1 r2.grown
end
theorem hold_mem {fs : List DF} {nm : List UInt8} {A : Option Addr} {data : List UInt8} {c safe : Nat} (h : OldF fs nm A data c safe) (hne : data.length ≠ safe) : nm ∈ fs.map DF.name := by
  rcases h with ⟨q, hq, rfl, _⟩ | ⟨_, _, rfl, _, rfl⟩
  · exact List.mem_map_of_mem hq
  · exact absurd rfl hne
set_option maxRecDepth 100000 in
set_option maxHeartbeats 2000000 in
theorem crash_any (d : LDisk) (mv : Value) (b : Nat) (fs : List DF) (S : Nat → Prop) (K : Option Addr) (keeps : List Int) (kc : Nat) (SK : Nat → Prop) (w : World)
    (hd : Disk_ w b S mv d fs) (hk : SlS IntE w SK K keeps) (hkS : ∀ g, SK g → g ≠ b ∧ mv ≠ .map (some g)) (hsz : fs.length ≤ 1048576) (hn : ∀ q ∈ fs, q.name.length ≤ 140737488355328) :
    Calls Try.prog 57 #[.pointer (some ⟨b, 0, none⟩), .slice K keeps.length kc] w (fun en w' => en = .returned (.tuple #[]) ∧ DiskTo b S mv ⟨d.room, false, 0, false⟩ (crashP keeps (fs.map DF.p)) w w') := by
  have T := names_any d mv b fs w hd.1 hd.2.1 hsz
  have hT : crashP keeps (fs.map DF.p) = crashN keeps 0 (sortN (fs.map DF.name)) (fs.map DF.p) := by
    unfold crashP
    rw [List.map_map]
    rfl
  rw [hT]
  have hNl : (sortN (fs.map DF.name)).length ≤ 1048576 := by rw [sortN_length, List.length_map]; exact hsz
  have hNn : ∀ x ∈ sortN (fs.map DF.name), x.length ≤ 140737488355328 := fun x hx => by
    obtain ⟨q, hq, rfl⟩ := List.mem_map.1 ((sortN_perm _).mem_iff.1 hx)
    exact hn q hq
  have HN := Lib.hid hNn
  clear hNn hT hn
  generalize sortN (fs.map DF.name) = N at *
  generalize hTT : crashN keeps 0 N (fs.map DF.p) = TT
  have HT := Lib.hid hTT
  clear hTT
  go_enter Try.func57, Try.ntmps57
  go_wp2_with fail
  refine T.mono ?_
  clear T
  rintro en w1 ⟨NA, nc, rfl, oN, b1⟩
  have hd1 := hd.below b1
  have hk1 := hk.below b1
  have hlb := hd.1.lt
  have hml : ∀ g, mv = .map (some g) → g < w.heap.size := fun g e => hd.2.1.lt e
  have hsk := b1.size
  go_wp2_with fail
  go_loopw [4, 14] (fun v4 v14 wr => ∃ (k i : Nat) (fs' : List DF) (S' : Nat → Prop), v4 = .int .i64 (i : Int) ∧ v14 = .int .i64 (k : Int) ∧ k ≤ N.length ∧ i ≤ k ∧ Disk_ wr b S' mv d fs' ∧ Hid (crashN keeps i (N.drop k) (fs'.map DF.p) = TT) ∧ (∀ g, S' g → S g ∨ w1.heap.size ≤ g) ∧ DKept b mv w1 wr ∧ fs'.length ≤ 1048576) (fun _ v14 _ => N.length - (Lib.intOf v14).toNat)
  case atStart => exact ⟨0, 0, fs, S, rfl, rfl, Nat.zero_le _, Nat.le_refl _, hd1, HT, fun _ h => .inl h, DKept.refl _ _ _, hsz⟩
  case round =>
    obtain ⟨k, i, fs', S', rfl, rfl, hkN, hik, hd2, HT2, hS2, D2, hsz2⟩ := hrel
    have hk2 : SlS IntE wr SK K keeps := hk1.same (D2.same hkS)
    have k2 := hd2.1
    rcases Nat.lt_or_ge k N.length with hlt | hge
    · obtain ⟨nad, rfl, hnc⟩ := names_at (own_keptD oN hlb hml D2) hlt
      have hNk := HN.out N[k] (List.getElem_mem hlt)
      have hst : crashN keeps i (N[k] :: N.drop (k + 1)) (fs'.map DF.p) = TT := by
        rw [← List.drop_eq_getElem_cons hlt]; exact HT2.out
      clear HT2
      generalize N[k] = nm at *
      have y0 : wr.cell? ⟨b, 0, none⟩ = some mv := k2.cell 0
      go_upto_region 5 with (at_lookup; refine wpList_lookF rfl _ _ rfl mv fs' rfl hd2.2.1 nm hNk rfl ?_; intro A data c safe hold)
      obtain ⟨hb, hat, hsafe⟩ := hold.row hd2.2.2.1
      have hcap := hold.caps hd2.2.2.1
      have hget := hold.get hd2.2.1.nodup
      have hble := hb.le
      rw [show crashN keeps i (nm :: N.drop (k + 1)) (fs'.map DF.p) = _ from rfl, crashN, hget] at hst
      dsimp only at hst
      have d3 : Below wr.heap.size wr (wr.alloc (.cells #[.slice A data.length c, .int .i64 (safe : Int)] 92)) := (Below.refl _ _).alloc (Nat.le_refl _) _
      have hd3 := hd2.below d3
      have hk3 := hk2.below d3
      have D3 : DKept b mv w1 (wr.alloc (.cells #[.slice A data.length c, .int .i64 (safe : Int)] 92)) := DKept.trans D2 (DKept.of_below d3) (.inl rfl)
      have hbA := hb.below d3
      have kq := Blk.new wr 92 #[.slice A data.length c, .int .i64 (safe : Int)]
      have fb0 : wr.heap.size ≠ b := by have := k2.lt; omega
      have fbm : mv ≠ .map (some wr.heap.size) := fun e => by have := hd2.2.1.lt e; omega
      have fbS : ¬ S' wr.heap.size := fun h => by have := (hd2.2.2.2.2 _ h).1; omega
      have fb1 : w1.heap.size ≤ wr.heap.size := D2.1
      generalize wr.heap.size = fb at *
      clear y0 hnc hd2 k2 hk2 D2 d3
      generalize (wr.alloc (.cells #[.slice A data.length c, .int .i64 (safe : Int)] 92)) = w3 at *
      have z0 : w3.cell? ⟨fb, 0, none⟩ = some (.slice A data.length c) := kq.cell 0
      have z1 : w3.cell? ⟨fb, 1, none⟩ = some (.int .i64 (safe : Int)) := kq.cell 1
      by_cases htl : data.length = safe
      · rw [if_pos htl] at hst
        have HST := Lib.hid hst
        have dz : ((data.length : Int) - (safe : Int) == 0) = true := by rw [beq_iff_eq]; omega
        clear hst htl
        go_wp2_with fail
        go_roundw
        case rel => exact ⟨k + 1, i, fs', S', by simp, by simp, by omega, by omega, hd3, HST, hS2, D3, hsz2⟩
        case measure => simp [Lib.intOf]; omega
      · rw [if_neg htl] at hst
        have HST := Lib.hid hst
        have dz : ((data.length : Int) - (safe : Int) == 0) = false := by rw [beq_eq_false_iff_ne]; omega
        clear hst
        obtain ⟨kp, hkp⟩ : ∃ kp : Nat, kp = keepP keeps i (data.length - safe) := ⟨_, rfl⟩
        rw [← hkp] at HST
        have hmem := hold_mem hold htl
        have hkle : safe + kp ≤ data.length := by have := keepP_le keeps i (data.length - safe); omega
        have HKP := Lib.hid hkp
        clear hkp
        go_upto_if 34 with fail
        go_cut [9] (fun s9 wx => s9 = .int .i64 (kp : Int) ∧ wx = w3)
        case first =>
          by_cases hke : keeps = []
          · have e : kp = 0 := HKP.out.trans (if_pos hke)
            subst hke e
            go_wp2_with fail
            go_meet
            case rel => exact ⟨rfl, rfl⟩
          · have hkl : 0 < keeps.length := List.length_pos_iff.2 hke
            have hml' := Nat.mod_lt i hkl
            obtain ⟨kad, rfl, hkb, hkc, hk5, hk6⟩ := IntE.at_ hk3 hml'
            have e : (kp : Int) = (max 0 (keeps[i % keeps.length]'hml')) % ((data.length : Int) - (safe : Int) + 1) := by
              rw [HKP.out, keepP, if_neg hke, List.getD_eq_getElem?_getD, List.getElem?_eq_getElem hml', Option.getD_some, show ((data.length - safe : Nat) : Int) = (data.length : Int) - (safe : Int) by omega]
              exact Int.toNat_of_nonneg (Int.emod_nonneg _ (by omega))
            have HE := Lib.hid e
            clear e
            generalize keeps[i % keeps.length]'hml' = kx at *
            go_wp2_with fail
            go_meet
            case rel => exact ⟨by rw [HE.out], rfl⟩
        case rest =>
          obtain ⟨rfl, hwc⟩ := hcut
          replace hwc := hwc.symm
          subst hwc
          clear HKP z0 z1
          have z0 : w3.cell? ⟨fb, 0, none⟩ = some (.slice A data.length c) := kq.cell 0
          have z1 : w3.cell? ⟨fb, 1, none⟩ = some (.int .i64 (safe : Int)) := kq.cell 1
          go_upto_region 12 with fail
          obtain ⟨mb, rfl, D, hown, hD⟩ : ∃ mb, mv = .map (some mb) ∧ ∃ D, w3.ownsMap Try.prog 9 rawR mb fs'.length D ∧ DMap D fs' := by
            rcases hd3.2.1 with ⟨_, rfl⟩ | ⟨mb, D, h1, h2, h3⟩
            · cases hmem
            · exact ⟨mb, h1, D, h2, h3⟩
          have kd := hd3.1.drew
          have kqd := kq.drew
          have hin1 : (0 : Int) ≤ (safe : Int) + (kp : Int) := by omega
          have hin2 : (safe : Int) + (kp : Int) ≤ (c : Int) := by omega
          have htn : ((safe : Int) + (kp : Int)).toNat = safe + kp := by omega
          refine wp_region_noPanic ?_
          refine wp_region_held_drew (S := fun Y => Y.cell? ⟨b, 0, none⟩ = some (.map (some mb)) ∧ Y.cell? ⟨fb, 0, none⟩ = some (.slice A data.length c)) (by kernel_rfl) ⟨kd.cell 0, kqd.cell 0⟩ (fun hH => ?_)
          refine wpAnyH_take (i := 0) (v := ?_) rfl (by kernel_rfl) (by kernel_rfl) (by kernel_rfl) (fun _ _ _ h => h) (Or.inl ⟨by rfl, ?_⟩) hH ?_
          case refine_2 => intro w hSw; go_simp; try with_reducible rfl
          try simp only [List.getElem_toArray, List.getElem_cons_zero, Act.put, List.setIfInBounds_toArray, List.set_cons_zero, List.set_cons_succ]
          refine wpAnyH_take (i := 1) (v := ?_) rfl (by kernel_rfl) (by kernel_rfl) (by kernel_rfl) (fun _ _ _ h => h) (Or.inl ⟨by rfl, ?_⟩) hH ?_
          case refine_2 => intro w hSw; go_simp; try with_reducible rfl
          try simp only [List.getElem_toArray, List.getElem_cons_zero, List.getElem_cons_succ, Act.put, List.setIfInBounds_toArray, List.set_cons_zero, List.set_cons_succ]
          refine wpAnyH_take (i := 2) (v := ?_) rfl (by kernel_rfl) (by kernel_rfl) (by kernel_rfl) (fun _ _ _ h => h) (Or.inl ⟨by rfl, ?_⟩) hH ?_
          case refine_2 => intro w hSw; go_simp; try with_reducible rfl
          try simp only [List.getElem_toArray, List.getElem_cons_zero, List.getElem_cons_succ, Act.put, List.setIfInBounds_toArray, List.set_cons_zero, List.set_cons_succ]
          refine wpAnyH_take (i := 3) (v := ?_) rfl (by kernel_rfl) (by kernel_rfl) (by kernel_rfl) (fun _ _ _ h => h) (Or.inl ⟨by rfl, ?_⟩) hH ?_
          case refine_2 => intro w hSw; obtain ⟨s0, s1⟩ := hSw; go_simp; try with_reducible rfl
          try simp only [List.getElem_toArray, List.getElem_cons_zero, List.getElem_cons_succ, Act.put, List.setIfInBounds_toArray, List.set_cons_zero, List.set_cons_succ]
          refine wpAnyH_take (i := 4) (v := ?_) rfl (by kernel_rfl) (by kernel_rfl) (by kernel_rfl) (fun _ _ _ h => h) (Or.inl ⟨by rfl, ?_⟩) hH ?_
          case refine_2 => intro w hSw; go_simp; try with_reducible rfl
          try simp only [List.getElem_toArray, List.getElem_cons_zero, List.getElem_cons_succ, Act.put, List.setIfInBounds_toArray, List.set_cons_zero, List.set_cons_succ]
          refine wpAnyH_take (i := 5) (v := ?_) rfl (by kernel_rfl) (by kernel_rfl) (by kernel_rfl) (fun _ _ _ h => h) (Or.inl ⟨by rfl, ?_⟩) hH ?_
          case refine_2 => intro w hSw; go_simp; try with_reducible rfl
          try simp only [List.getElem_toArray, List.getElem_cons_zero, List.getElem_cons_succ, Act.put, List.setIfInBounds_toArray, List.set_cons_zero, List.set_cons_succ]
          refine wpAnyH_take (i := 6) (v := ?_) rfl (by kernel_rfl) (by kernel_rfl) (by kernel_rfl) (fun _ _ _ h => h) (Or.inl ⟨by rfl, ?_⟩) hH ?_
          case refine_2 => intro w hSw; obtain ⟨s0, s1⟩ := hSw; go_simp; try with_reducible rfl
          try simp only [List.getElem_toArray, List.getElem_cons_zero, List.getElem_cons_succ, Act.put, List.setIfInBounds_toArray, List.set_cons_zero, List.set_cons_succ]
          refine wpAnyH_take (i := 7) (v := ?_) rfl (by kernel_rfl) (by kernel_rfl) (by kernel_rfl) (fun _ _ _ h => h) (Or.inl ⟨by rfl, ?_⟩) hH ?_
          case refine_2 => intro w hSw; go_simp; try with_reducible rfl
          try simp only [List.getElem_toArray, List.getElem_cons_zero, List.getElem_cons_succ, Act.put, List.setIfInBounds_toArray, List.set_cons_zero, List.set_cons_succ]
          refine wpAnyH_take (i := 8) (v := ?_) rfl (by kernel_rfl) (by kernel_rfl) (by kernel_rfl) (fun _ _ _ h => h) (Or.inl ⟨by rfl, ?_⟩) hH ?_
          case refine_2 => intro w hSw; go_simp; try with_reducible rfl
          try simp only [List.getElem_toArray, List.getElem_cons_zero, List.getElem_cons_succ, Act.put, List.setIfInBounds_toArray, List.set_cons_zero, List.set_cons_succ]
          refine wpAnyH_take (i := 10) (v := ?_) rfl (by kernel_rfl) (by kernel_rfl) (by kernel_rfl) (fun _ _ _ h => h) (Or.inl ⟨by rfl, ?_⟩) hH ?_
          case refine_2 => intro w hSw; go_simp; try with_reducible rfl
          try simp only [List.getElem_toArray, List.getElem_cons_zero, List.getElem_cons_succ, Act.put, List.setIfInBounds_toArray, List.set_cons_zero, List.set_cons_succ]
          refine wpAnyH_ready (rs := [9]) (by kernel_rfl) (by simp) ?_
          refine AllReadyH.cons rfl (fun K hK => ?_) AllReadyH.nil
          go_simp
          have hb3d : Bs w3.drew A (data.take (safe + kp)) := (hbA.take3 _ hkle).drew
          have hlt3 : (data.take (safe + kp)).length = safe + kp := by rw [List.length_take]; omega
          have TC := bclone_any A (data.take (safe + kp)) c w3.drew hb3d
          rw [hlt3] at TC
          obtain ⟨dt, hdt⟩ : ∃ dt, dt = data.take (safe + kp) := ⟨_, rfl⟩
          rw [← hdt] at TC hlt3
          have HDT := Lib.hid hdt
          have HLT := Lib.hid hlt3
          clear hdt hb3d hlt3
          refine TC.mono ?_
          clear TC
          rintro en w4 ⟨A4, c4, rfl, o4, b4⟩
          have hd4 := (hd3.below ((Below.refl _ _).drew)).below b4
          have kq4 := kqd.below b4 kqd.lt
          refine hK.out _ _ ⟨hd4.1.cell 0, kq4.cell 0⟩ (fun hH => ?_)
          clear hK K
          try dsimp only
          try simp only [List.getElem_toArray, List.getElem_cons_zero, List.getElem_cons_succ, Act.put, List.setIfInBounds_toArray, List.set_cons_zero, List.set_cons_succ]
          refine wpAnyH_take (i := 11) (v := ?_) rfl (by kernel_rfl) (by kernel_rfl) (by kernel_rfl) (fun _ _ _ h => h) (Or.inl ⟨by rfl, ?_⟩) hH ?_
          case refine_2 => intro w hSw; go_simp; try with_reducible rfl
          try simp only [List.getElem_toArray, List.getElem_cons_zero, List.getElem_cons_succ, Act.put, List.setIfInBounds_toArray, List.set_cons_zero, List.set_cons_succ]
          refine wpAnyH_ready (rs := [12]) (by kernel_rfl) (by simp) ?_
          refine AllReadyH.cons rfl (fun K hK => ?_) AllReadyH.nil
          have law : Keyed Try.prog 9 := string_keyed Try.underlying9
          have hown4 : w4.ownsMap Try.prog 9 rawR mb fs'.length D := by
            obtain ⟨es, c, h1, h2⟩ := hown
            exact ⟨es, c, (b4.block mb (by rcases Nat.lt_or_ge mb w3.heap.size with h5 | h5; exact h5; rw [Array.getElem?_eq_none h5] at h1; cases h1)).trans h1, h2⟩
          refine step_mapPut rfl _ _ _ 70 rfl 9 92 law Try.underlying70 mb fs'.length D rfl hown4 (by unfold maxLen; omega) (.string ⟨nm.toArray⟩) (.agg #[.slice A4 dt.length c4, .int .i64 ((safe : Int) + (kp : Int))]) (.string nm) rfl rfl (key_lit nm hNk) ?_
          intro w5 hown5 hg5
          have hbmb : b ≠ mb := fun e => hd3.2.2.2.1 (by rw [e])
          have hfmb : fb ≠ mb := fun e => fbm (by rw [e])
          have k5 := hd4.1.grown hg5 (fun e => hbmb (Option.some.inj e))
          have kq5 := kq4.grown hg5 (fun e => hfmb (Option.some.inj e))
          refine hK.out _ _ ⟨k5.cell 0, kq5.cell 0⟩ (fun hH => ?_)
          clear hK K
          refine wpAnyH_done (by kernel_rfl) ?_ _
          refine NoPanic.normal ?_
          clear hH
          have hD9 := hD.put (hown4.tidy law) ⟨nm, A4, dt, c4, safe + kp⟩
          have ho9 := ownsMap_tight hown5
          rw [show (DataW.held (Value.agg #[Value.slice A4 dt.length c4, Value.int IntKind.i64 ((safe : Int) + (kp : Int))])) = .held (DF.vv ⟨nm, A4, dt, c4, safe + kp⟩) by unfold DF.vv; simp] at ho9
          rw [hD9.2.2.2.2] at ho9
          have s34 : w3.heap.size ≤ w4.heap.size := b4.size
          have s45 := hg5.size
          have e5 : ∀ g, g < w3.heap.size → g ≠ mb → w5.heap[g]? = w3.heap[g]? := fun g h1 h2 => (hg5.block g (Nat.lt_of_lt_of_le h1 s34) (fun e => h2 (Option.some.inj e))).trans (b4.block g h1)
          have hlS := hd3.2.2.2.2
          have l3 := kq.lt
          have o5 : OwnB w3.heap.size w5 A4 dt c4 := OwnB.kept (b := w3.heap.size) o4 hg5 (fun g h e => by have h1 := (OwnB.lt (b := w3.heap.size) o4 g h).1; have h2 := hd3.2.1.lt rfl; have := Option.some.inj e; omega)
          have hlen5 : (putF fs' ⟨nm, A4, dt, c4, safe + kp⟩).length ≤ 1048576 := by
            have h1 := length_delF (k := nm) hD.2.1
            rw [if_pos hmem] at h1
            show (delF fs' nm).length + 1 ≤ _
            omega
          have hd5 : Disk_ w5 b (fun g => S' g ∨ (w3.heap.size ≤ g ∧ g < w5.heap.size)) (.map (some mb)) d (putF fs' ⟨nm, A4, dt, c4, safe + kp⟩) := by
            have hmbl := hd3.2.1.lt rfl
            refine ⟨k5, .inr ⟨mb, _, rfl, ho9, hD9⟩, fun q hq => ?_, hd3.2.2.2.1, fun g h => ?_⟩
            · rcases List.mem_cons.1 hq with rfl | hq
              · exact ⟨OwnB.bs o5 (by rw [HLT.out]; omega), fun ad e h => .inr (OwnB.at_ o5 ad e h), (OwnB.caps o5).1, (OwnB.caps o5).2, by show safe + kp ≤ dt.length; rw [HLT.out]; omega⟩
              · obtain ⟨h1, h2, h3⟩ := hd3.2.2.1 q (mem_delF.1 hq).1
                exact ⟨h1.sameS h2 ⟨by omega, fun g h4 h5 => e5 g h5 (fun e => (hlS g h4).2.2 (by rw [e]))⟩, fun ad e h => .inl (h2 ad e h), h3⟩
            · rcases h with h | h
              · exact ⟨by have := (hlS g h).1; omega, (hlS g h).2⟩
              · exact ⟨h.2, by have := hd3.1.lt; omega, fun e => by injection e with e; have := Option.some.inj e; omega⟩
          have D5 : DKept b (.map (some mb)) w1 w5 := DKept.trans D3 ⟨by omega, fun g h1 h2 h3 => e5 g h1 (fun e => h3 (by rw [e])), (OTO.of_below (B := w3.heap.size) ((Below.refl _ _).drew)).trans ((OTO.of_below b4).trans (OTO.of_grown hg5))⟩ (.inl rfl)
          have hps : (putF fs' ⟨nm, A4, dt, c4, safe + kp⟩).map DF.p = putP (fs'.map DF.p) (nm, data.take (safe + kp), safe + kp) := by
            rw [putP_map]
            show putP _ (nm, dt, safe + kp) = _
            rw [HDT.out]
          have HST5 : Hid (crashN keeps (i + 1) (N.drop (k + 1)) ((putF fs' ⟨nm, A4, dt, c4, safe + kp⟩).map DF.p) = TT) := by
            show _ = _
            rw [hps]
            exact HST.out
          have hS5 : ∀ g, (S' g ∨ (w3.heap.size ≤ g ∧ g < w5.heap.size)) → S g ∨ w1.heap.size ≤ g := fun g h => h.elim (hS2 g) (fun h => .inr (by have := D3.1; omega))
          clear HST hS2 hd3 hd4 D3 hk3 hbA hb kq kqd kq4 kq5 k5 kd hown hown4 hown5 hD hg5 b4 o4 o5 e5 hps hold hin1 hin2 htn
          go_wp2_with fail
          go_roundw
          case rel => exact ⟨k + 1, i + 1, _, _, by simp, by simp, by omega, by omega, hd5, HST5, hS5, D5, hlen5⟩
          case measure => simp [Lib.intOf]; omega
    · obtain rfl : k = N.length := by omega
      have hst : fs'.map DF.p = TT := by rw [← HT2.out, List.drop_length]; rfl
      have HST := Lib.hid hst
      clear hst HT2
      have y4 : wr.cell? ⟨b, 4, none⟩ = some (.bool d.dead) := k2.cell 4
      have f4 : wr.frozen? ⟨b, 4, none⟩ = false := k2.frozen 4
      have k3 : Blk (wr.setCell ⟨b, 4, none⟩ (.bool false)) b 72 (diskC mv { d with dead := false }) := k2.set_ 4 _
      have y42 : (wr.setCell ⟨b, 4, none⟩ (.bool false)).cell? ⟨b, 2, none⟩ = some (.bool d.armed) := k3.cell 2
      have f42 : (wr.setCell ⟨b, 4, none⟩ (.bool false)).frozen? ⟨b, 2, none⟩ = false := k3.frozen 2
      have k4 : Blk ((wr.setCell ⟨b, 4, none⟩ (.bool false)).setCell ⟨b, 2, none⟩ (.bool false)) b 72 (diskC mv { d with dead := false, armed := false }) := k3.set_ 2 _
      have y43 : ((wr.setCell ⟨b, 4, none⟩ (.bool false)).setCell ⟨b, 2, none⟩ (.bool false)).cell? ⟨b, 3, none⟩ = some (.int .i64 d.left) := k4.cell 3
      have f43 : ((wr.setCell ⟨b, 4, none⟩ (.bool false)).setCell ⟨b, 2, none⟩ (.bool false)).frozen? ⟨b, 3, none⟩ = false := k4.frozen 3
      have k5 : Blk (((wr.setCell ⟨b, 4, none⟩ (.bool false)).setCell ⟨b, 2, none⟩ (.bool false)).setCell ⟨b, 3, none⟩ (.int .i64 0)) b 72 (diskC mv ⟨d.room, false, 0, false⟩) := k4.set_ 3 _
      have g5 : wr.grownBy (((wr.setCell ⟨b, 4, none⟩ (.bool false)).setCell ⟨b, 2, none⟩ (.bool false)).setCell ⟨b, 3, none⟩ (.int .i64 0)) (some b) := only_setCell (only_setCell (only_setCell (World.grownBy.refl _ _) (p := ⟨b, 4, none⟩) (.inl rfl) _) (p := ⟨b, 2, none⟩) (.inl rfl) _) (p := ⟨b, 3, none⟩) (.inl rfl) _
      clear k3 k4
      go_wp2_with fail
      generalize (((wr.setCell ⟨b, 4, none⟩ (.bool false)).setCell ⟨b, 2, none⟩ (.bool false)).setCell ⟨b, 3, none⟩ (.int .i64 0)) = w9 at *
      exact bodyEnd0 rfl rfl ⟨rfl, mv, S', fs', hd2.set_ k5 g5, HST.out, fun g h => (hS2 g h).imp id (Nat.le_trans hsk), .inl rfl, DKept.trans (DKept.of_below b1) (DKept.trans D2 (DKept.of_grown g5) (.inl rfl)) (.inl rfl)⟩
end Go.Proofs.Ytbldfgpnghoigaa
