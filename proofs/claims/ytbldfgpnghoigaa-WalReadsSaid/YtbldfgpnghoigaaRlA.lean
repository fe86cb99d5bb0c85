/- The document's log: Next, size, Append. (Printed by wip/gen_rla.py.) -/
import Derived.Test.YtbldfgpnghoigaaWalT
import Derived.Test.YtbldfgpnghoigaaAppK
namespace Go.Proofs.Ytbldfgpnghoigaa
open Go.RowKit

/-- whole numbers as elements -/
def U64E : ER Nat where
  size := 1
  pos := by omega
  bytes := 8
  bpos := by omega
  rep _ _ vs n := vs = [.int .u64 (n : Int)] ∧ n < 18446744073709551616
  len := by rintro w S vs a ⟨rfl, _⟩; rfl
  one := by rintro w S vs a ⟨rfl, _⟩ v hv; simp at hv; subst hv; rfl
  keep := by rintro w w' S vs a h _; exact h
  mono := by rintro w S S' vs a h _; exact h
theorem U64E.at_ {w : World} {A : Option Addr} {S : Nat → Prop} {l : List Nat} (h : SlS U64E w S A l) {k : Nat} (hk : k < l.length) : ∃ ad, A = some ad ∧ w.cell? (ad.add k) = some (.int .u64 (l[k] : Int)) ∧ l[k] < 18446744073709551616 := by
  obtain ⟨ad, vs, rfl, _, ⟨rfl, h2⟩, h4, _, _⟩ := SlS.at_ h hk
  have h := h4 _ rfl
  rw [show k * U64E.size = k from Nat.mul_one k] at h
  exact ⟨ad, rfl, h, h2⟩
structure LRL where
  first : Nat
  recs : List (List UInt8)
  safe : Int
  segs : List Nat
  size : Int
  rot : Bool
/-- its cells -/
def rlC (A : Option Addr) (c : Nat) (B : Option Addr) (d : Nat) (W : LRL) : Array Value := #[.int .u64 (W.first : Int), .slice A W.recs.length c, .int .i64 W.safe, .slice B W.segs.length d, .int .i64 W.size, .bool W.rot]
def nextR (W : LRL) : Nat := W.first + W.recs.length
def freshR (W : LRL) (most : Int) : Bool := decide (W.segs = []) || (decide (most ≤ W.size) || (W.rot && decide (lastW W.segs < nextR W)))
def beginR (W : LRL) : LRL := { W with safe := (W.recs.length : Int), segs := W.segs ++ [nextR W], size := 0, rot := false }
def appR (W : LRL) (most : Int) (xs : List (List UInt8)) : LRL :=
  if xs = [] then W else { (if freshR W most = true then beginR W else W) with recs := W.recs ++ xs, size := (if freshR W most = true then beginR W else W).size + ((dataW xs).length : Int) }
def Caps (c d : Nat) (W : LRL) : Prop := (W.recs.length ≤ c ∧ c ≤ 9223372036854775807) ∧ W.segs.length ≤ d ∧ d ≤ 9223372036854775807
/-- what a call of the document's log answers -/
def RetRL (S : Nat → Prop) (W : LRL) (w : World) (en : Ending) (w' : World) : Prop :=
  ∃ A c B d, en = .returned (.agg (rlC A c B d W)) ∧ SlS BsE w' (fun x => S x ∨ w.heap.size ≤ x) A W.recs ∧ SlS U64E w' (fun x => S x ∨ w.heap.size ≤ x) B W.segs ∧ Caps c d W ∧ Below w.heap.size w w'
set_option maxRecDepth 100000 in
set_option maxHeartbeats 1000000 in
theorem rnext_any (A : Option Addr) (c : Nat) (B : Option Addr) (d : Nat) (W : LRL) (w : World) (hb : nextR W < 9223372036854775808) :
    Calls Try.prog 26 #[.agg (rlC A c B d W)] w (fun en w' => en = .returned (.int .u64 (nextR W : Int)) ∧ Below w.heap.size w w') := by
  have b1 : Below w.heap.size w (w.alloc (.cells (rlC A c B d W) 55)) := (Below.refl _ _).alloc (Nat.le_refl _) _
  have kN := Blk.new w 55 (rlC A c B d W)
  have c0 : (w.alloc (.cells (rlC A c B d W) 55)).cell? ⟨w.heap.size, 0, none⟩ = some (.int .u64 (W.first : Int)) := kN.cell 0
  have c1 : (w.alloc (.cells (rlC A c B d W) 55)).cell? ⟨w.heap.size, 1, none⟩ = some (.slice A W.recs.length c) := kN.cell 1
  have e0 : nextR W = W.first + W.recs.length := rfl
  generalize W.first = f at *
  generalize W.recs.length = n at *
  generalize nextR W = m at *
  subst e0
  have h1 : IntKind.u64.wrap (n : Int) = (n : Int) := by simp [IntKind.wrap, IntKind.bits, IntKind.signed]; omega
  have h2 : IntKind.u64.wrap ((f : Int) + (n : Int)) = ((f + n : Nat) : Int) := by simp [IntKind.wrap, IntKind.bits, IntKind.signed]; omega
  have H2 := Lib.hid h2
  clear h2
  go_enter Try.func26, Try.ntmps26
  go_upto_region 1 with fail
  change Code.wp _ _ _ _ (w.alloc (.cells (rlC A c B d W) 55))
  generalize (w.alloc (.cells (rlC A c B d W) 55)) = w1 at *
  go_wp2_with fail
  go_ret
  exact ⟨by rw [Int.natCast_add]; rfl, b1⟩
theorem rsize_any (A : Option Addr) (n c : Nat) (w : World) (hn : n ≤ 140737488355328) :
    Calls Try.prog 54 #[.slice A n c] w (fun en w' => en = .returned (.int .i64 ((n : Int) + 8)) ∧ w' = w) := by
  have h1 : wrap64 ((n : Int) + 8) = (n : Int) + 8 := by unfold wrap64; omega
  go_enter Try.func54, Try.ntmps54
  go_wp2_with fail
  go_ret
  exact ⟨rfl, rfl⟩

/-- rows of bytes of the call's own -/
def OwnR (b : Nat) (w : World) (rs : List R3) : Prop := ∀ r ∈ rs, OwnB b w r.1 r.2.1 r.2.2
section
variable {b b' : Nat} {w w' : World} {rs ss : List R3}
theorem OwnR.below (h : OwnR b w rs) (hb : Below w.heap.size w w') : OwnR b w' rs := fun r hr => (h r hr).below hb
theorem OwnR.rowO {t : TypeId} {size n : Nat} {v : Value} {xs : List Value} (h : OwnR b w rs) (hg : w.grownBy w' v.ownBlock) (ho : w.ownsRow b' t size v n xs) (ht : t ≠ 5) : OwnR b w' rs := fun r hr =>
  (h r hr).kept hg fun g he he2 => by
    rcases own_own_ne ho (h r hr) ht with h1 | h1
    · rw [h1] at he2; cases he2
    · exact h1 (he2.trans he.symm)
theorem OwnR.sl {A : Option Addr} {c : Nat} (h : OwnR b w rs) (hR : RowsIs b' w A c rs) (hn : ∀ r ∈ rs, r.2.1.length ≤ 140737488355328) (hl : rs.length ≤ 1048576) : SlS BsE w Any A (rs.map (·.2.1)) := by
  refine ⟨by rw [List.length_map]; simp only [BsE]; omega, rs.map R3.v, ?_, fun _ _ _ => trivial, R3.flat rs fun r hr => ⟨OwnB.bs (h r hr) (hn r hr), fun _ _ _ => trivial, OwnB.caps (h r hr)⟩⟩
  rw [List.length_map]
  exact Reads.of_own hR
end
theorem rows_of_bss {w : World} {B : Nat} : ∀ (ls : List (List UInt8)) (vs : List Value), OwnBss w B ls vs → ∃ rs : List R3, rs.map R3.v = vs ∧ rs.map (·.2.1) = ls ∧ OwnR B w rs
  | [], vs, h => by
    have : vs = [] := List.length_eq_zero_iff.1 h.1
    subst this
    exact ⟨[], rfl, rfl, fun r hr => by cases hr⟩
  | x :: r, [], h => by have := h.1; simp at this
  | x :: r, v :: vs, h => by
    obtain ⟨Ai, ci, e, ho, hl⟩ := h.2 0 (by simp)
    have e : v = .slice Ai x.length ci := Option.some.inj e
    obtain ⟨rs, h1, h2, h3⟩ := rows_of_bss r vs ⟨by have := h.1; simpa using this, fun i hi => h.2 (i + 1) (by simp; omega)⟩
    refine ⟨(Ai, x, ci) :: rs, by rw [List.map_cons, h1, e]; rfl, by rw [List.map_cons, h2], fun q hq => ?_⟩
    rcases List.mem_cons.1 hq with e | hq
    · rw [e]; exact ho
    · exact h3 q hq
/-- Copies, as rows of the call's own -/
theorem copies_rows (A : Option Addr) (ls : List (List UInt8)) (c : Nat) (S : Nat → Prop) (w : World) (h : SlS BsE w S A ls) :
    Calls Try.prog 13 #[.slice A ls.length c] w (fun en w' => ∃ A' c' rs, en = .returned (.slice A' (List.length (α := R3) rs) c') ∧ RowsIs w.heap.size w' A' c' rs ∧ OwnR w.heap.size w' rs ∧ Hid (rs.map (·.2.1) = ls) ∧ Below w.heap.size w w') :=
  (copies_any A ls c w (Bss.of_sl h)).mono fun _ _ ⟨A', c', vs, h1, h2, h3, h4⟩ => by
    obtain ⟨rs, e1, e2, e3⟩ := rows_of_bss ls vs h3
    have hl : rs.length = ls.length := by rw [← e2, List.length_map]
    refine ⟨A', c', rs, by rw [hl]; exact h1, ?_, e3, e2, h4⟩
    show World.ownsRow _ _ _ _ _ _ _
    rw [hl, e1]
    exact h2

/-- a new row of whole numbers is built -/
structure R6 (wz Y : World) (ro : Option (Value × List Nat)) (li : Option (Nat × Nat)) : Prop where
  b : Below wz.heap.size wz Y
  r : ∀ v xs, ro = some (v, xs) → Own U64E 32 Y wz.heap.size (fun _ => False) v xs
  l : ∀ g n, li = some (g, n) → Blk Y g 32 #[.int .u64 (n : Int)] ∧ wz.heap.size ≤ g ∧ ∀ v xs, ro = some (v, xs) → v.ownBlock ≠ some g
section
variable {wz Y Y' : World} {ro : Option (Value × List Nat)} {li : Option (Nat × Nat)} {v v' : Value} {xs xs' : List Nat} {n : Nat}
theorem R6.call (h : R6 wz Y ro li) (hb : Below Y.heap.size Y Y') : R6 wz Y' ro li :=
  ⟨h.b.trans (hb.mono h.b.size), fun v xs e => (h.r v xs e).below hb, fun g n e => ⟨(h.l g n e).1.below hb (h.l g n e).1.lt, (h.l g n e).2⟩⟩
theorem R6.z (h : R6 wz Y none li) : R6 wz (Y.alloc (.cells #[] 32)) (some (.slice (some ⟨Y.heap.size, 0, none⟩) 0 0, [])) li := by
  refine ⟨h.b.alloc h.b.size _, fun v xs e => ?_, fun g n e => ⟨(h.l g n e).1.alloc _, (h.l g n e).2.1, fun v xs e2 => ?_⟩⟩
  · cases e
    exact Own.empty U64E (Blk.new Y 32 #[]) h.b.size
  · cases e2
    intro e3
    have h1 := (h.l g n e).1.lt
    have h2 : Y.heap.size = g := Option.some.inj e3
    omega
theorem R6.lit (h : R6 wz Y ro none) (n : Nat) : R6 wz (Y.alloc (.cells #[.int .u64 (n : Int)] 32)) ro (some (Y.heap.size, n)) := by
  refine ⟨h.b.alloc h.b.size _, fun v xs e => (h.r v xs e).alloc _, fun g m e => ?_⟩
  cases e
  exact ⟨Blk.new Y 32 _, h.b.size, fun v xs e e2 => by have := ((h.r v xs e).lt _ e2).2; omega⟩
theorem R6.app (h : R6 wz Y (some (v, xs)) li) (o : Own U64E 32 Y' wz.heap.size (fun _ => False) v' xs') (hg : Y.grownBy Y' v.ownBlock) (ht : v'.ownBlock = v.ownBlock ∨ v'.ownBlock = some Y.heap.size) : R6 wz Y' (some (v', xs')) li := by
  refine ⟨h.b.grown hg h.b.size fun x e => ((h.r v xs rfl).lt x e).1, fun v2 xs2 e => by cases e; exact o, fun g n e => ?_⟩
  obtain ⟨h1, h2, h3⟩ := h.l g n e
  have h4 := h3 v xs rfl
  refine ⟨h1.grown hg (fun e => h4 e.symm), h2, fun v2 xs2 e2 e3 => ?_⟩
  cases e2
  rcases ht with t | t
  · exact h4 (t.symm.trans e3)
  · have h5 := Option.some.inj (t.symm.trans e3)
    have := h1.lt
    omega
end
theorem U64E.flat_any {w w' : World} {S S' : Nat → Prop} : ∀ {vs : List Value} {xs : List Nat}, U64E.flat w S vs xs → U64E.flat w' S' vs xs
  | _, [], h => h
  | _, _ :: _, ⟨v, r, e, hv, hr⟩ => ⟨v, r, e, hv, U64E.flat_any hr⟩
theorem Blk.reads1 {w : World} {g : Nat} {t : TypeId} {v : Value} (h : Blk w g t #[v]) : Reads w w.heap.size 1 (some ⟨g, 0, none⟩) 1 [v] :=
  ⟨rfl, fun _ => ⟨_, rfl, h.lt, fun j u hu => by rw [add_row, h.cell]; simpa using hu⟩⟩
theorem Try.infoU64 : (Try.prog.info? 32).map (fun i => (i.zero, i.size, i.bytes)) = some (some (.int .u64 0), 1, 8) := by kernel_rfl
theorem R6.appS {wz Y : World} {li : Option (Nat × Nat)} {A : Option Addr} {xs : List Nat} {c : Nat} (h : R6 wz Y (some (.slice A xs.length c, xs)) li) {ops : Array Oper} {o : Oper} {a : Act} {K : Act → World → Prop} {Q : Exit → Act → World → Prop} {X : Prop} (hgd : o.guard = none) (s x : Operand)
    (ho : o.op = .call { callee := .builtin .append, args := #[s, x], argTypes := #[53, 53] }) (hs : a.eval s = .slice A xs.length c) {B : Option Addr} {ys : List Nat} {d : Nat} (hx : a.eval x = .slice B ys.length d) (us : List Value) (hru : Reads Y Y.heap.size 1 B ys.length us) (hrep : U64E.flat Y (fun _ => False) us ys)
    (hl : xs.length + ys.length ≤ 1000001)
    (hK : ∀ A' c' xs' Y', Hid (xs' = xs ++ ys) → R6 wz Y' (some (.slice A' xs'.length c', xs')) li → K (a.put o.dst (.slice A' xs'.length c')) Y') : if Region.wanted o (yielded ops a.tmps) = true then Oper.wp Try.prog o a Y K Q else X := by
  obtain ⟨i0, hi0, hz0, hz1, hz2⟩ := info_parts Try.infoU64
  refine step_appS U64E wz.heap.size Y hgd s x 32 53 ho i0 _ Try.underlying53 hi0 hz0 hz1 hz2 rfl (fun _ => False) A xs c hs (h.r _ _ rfl) B ys d hx us hru (U64E.flat_any hrep) (by show _ * 8 ≤ _; omega) (by simp only [maxLen]; omega) h.b.size ?_
  intro A' c' xs' Y' H' o' g' t'
  exact hK A' c' xs' Y' H' (h.app o' g' t')
theorem leaf10 {gb : Nat} {W : LRL} {nx : Nat} (hnx : nextR W = nx) {wc w5 wx : World} {S : Nat → Prop} {A : Option Addr} {c : Nat} {A7 : Option Addr} {c7 : Nat} (g5 : wc.grownBy w5 (some gb))
    (k : Blk wx gb 55 #[.int .u64 (W.first : Int), .slice A W.recs.length c, .int .i64 (W.recs.length : Int), .slice A7 (W.segs ++ [nx]).length c7, .int .i64 0, .bool false]) (o : SlS U64E wx S A7 (W.segs ++ [nx])) (g : w5.grownBy wx (some gb)) (hcp : (W.segs ++ [nx]).length ≤ c7 ∧ c7 ≤ 9223372036854775807) :
    ∃ B2 d2, Blk wx gb 55 (rlC A c B2 d2 (if true = true then beginR W else W)) ∧ SlS U64E wx S B2 (if true = true then beginR W else W).segs ∧ ((if true = true then beginR W else W).segs.length ≤ d2 ∧ d2 ≤ 9223372036854775807) ∧ wc.grownBy wx (some gb) := by
  subst hnx
  exact ⟨A7, c7, k, o, hcp, ⟨g.os.trans g5.os, g.tape.trans g5.tape, g.output.trans g5.output, Nat.le_trans g5.size g.size, fun x hx hr => (g.block x (Nat.lt_of_lt_of_le hx g5.size) hr).trans (g5.block x hx hr)⟩⟩
theorem wrap_sz {sz : Int} {l : Nat} (h : 0 ≤ sz ∧ sz ≤ 2199023255552) (hl : l ≤ 1048576) : wrap64 (sz + ((l : Int) + 8)) = sz + ((l : Int) + 8) := by unfold wrap64; omega
theorem xk_of {xs : List (List UInt8)} {k : Nat} {x : List UInt8} (hk : k < xs.length) (h : xs.take (k + 1) = xs.take k ++ [x]) : xs[k] = x := by
  rw [List.take_succ_eq_append_getElem hk] at h
  have h2 := List.append_cancel_left h
  simpa using h2
theorem app_leaf {w : World} {gb b : Nat} {w0 w6 w9 : World} {A8 A9 : Option Addr} {c8 c9 : Nat} {rs rs9 : List R3} {r : R3} {cs : Array Value} {X : Option Addr} {xs : List (List UInt8)} (hgb : gb < b ∧ w.heap.size ≤ b ∧ w0.heap.size ≤ b) (hR : RowsIs b w6 A8 c8 rs) (hO : OwnR b w6 (rs ++ [r])) (k : Blk w6 gb 55 cs) (g : w0.grownBy w6 (some gb)) (hX : SlS BsE w6 (· < w.heap.size) X xs)
    (H9 : Hid (rs9 = rs ++ [r])) (_ : RowsIs b w9 A9 c9 rs9) (g9 : w6.grownBy w9 (Value.slice A8 rs.length c8).ownBlock) : OwnR b w9 rs9 ∧ Blk w9 gb 55 cs ∧ w0.grownBy w9 (some gb) ∧ SlS BsE w9 (· < w.heap.size) X xs := by
  have hlo : ∀ x, (Value.slice A8 rs.length c8).ownBlock = some x → b ≤ x := fun x e => (World.ownsRow.lt hR x e).1
  refine ⟨by rw [H9.out]; exact hO.rowO g9 hR (by decide), k.grown g9 (fun e => by have := hlo gb e.symm; omega), ?_, hX.same ⟨g9.size, fun x h1 h2 => g9.block x h2 (fun e => by have := hlo x e.symm; omega)⟩⟩
  exact ⟨g9.os.trans g.os, g9.tape.trans g.tape, g9.output.trans g.output, Nat.le_trans g.size g9.size, fun x hx hr => (g9.block x (Nat.lt_of_lt_of_le hx g.size) (fun e => by have := hlo x e.symm; omega)).trans (g.block x hx hr)⟩
theorem sz_leaf {gb b : Nat} {w0 w9 u0 : World} {A9 : Option Addr} {c9 : Nat} {rs9 : List R3} {cs : Array Value} (hgb : gb < b) (hR : RowsIs b u0 A9 c9 rs9) (hO : OwnR b u0 rs9) (_ : Blk u0 gb 55 cs) (g : w0.grownBy w9 (some gb)) (k : Below w9.heap.size w9 u0) (v : Value) :
    RowsIs b (u0.setCell ⟨gb, 4, none⟩ v) A9 c9 rs9 ∧ OwnR b (u0.setCell ⟨gb, 4, none⟩ v) rs9 ∧ w0.grownBy (u0.setCell ⟨gb, 4, none⟩ v) (some gb) := by
  have g1 : u0.grownBy (u0.setCell ⟨gb, 4, none⟩ v) (some gb) := only_setCell (only_of_below (Below.refl _ _) _) (.inl rfl) _
  refine ⟨own_same hR fun x e => g1.block x (World.ownsRow.lt hR x e).2 (fun e2 => by have h1 := (World.ownsRow.lt hR x e).1; have := Option.some.inj e2; omega), fun r hr => (hO r hr).kept g1 (fun x e e2 => by have h1 := ((hO r hr).lt x e).1; have := Option.some.inj e2; omega), ?_⟩
  exact ⟨g1.os.trans (k.os.trans g.os), g1.tape.trans (k.tape.trans g.tape), g1.output.trans (k.output.trans g.output), Nat.le_trans g.size (Nat.le_trans k.size g1.size), fun x hx hr => (g1.block x (Nat.lt_of_lt_of_le hx (Nat.le_trans g.size k.size)) hr).trans ((k.block x (Nat.lt_of_lt_of_le hx g.size)).trans (g.block x hx hr))⟩
theorem OwnR.slS {b : Nat} {w : World} {rs : List R3} {A : Option Addr} {c : Nat} (h : OwnR b w rs) (hR : RowsIs b w A c rs) (hn : ∀ r ∈ rs, r.2.1.length ≤ 140737488355328) (hl : rs.length ≤ 1048576) : SlS BsE w (fun x => b ≤ x) A (rs.map (·.2.1)) := by
  refine ⟨by rw [List.length_map]; simp only [BsE]; omega, rs.map R3.v, ?_, ?_, R3.flat rs fun r hr => ⟨OwnB.bs (h r hr) (hn r hr), (own_at (h r hr)).mono' (fun _ h => h.1), OwnB.caps (h r hr)⟩⟩
  · rw [List.length_map]
    exact Reads.of_own hR
  · rw [List.length_map]
    exact (own_at hR).mono' fun _ h => h.1

theorem Try.size_RL : (Try.prog.info? 55).map (·.size) = some 6 := by kernel_rfl
set_option maxRecDepth 100000 in
set_option maxHeartbeats 8000000 in
theorem rappend_any (A : Option Addr) (c : Nat) (B : Option Addr) (d : Nat) (W : LRL) (most : Int) (X : Option Addr) (xs : List (List UInt8)) (xc : Nat) (S : Nat → Prop) (w : World) (hA : SlS BsE w S A W.recs) (hB : SlS U64E w S B W.segs) (hX : SlS BsE w Any X xs) (hcd : Caps c d W)
    (hn : nextR W < 1000000) (hrn : W.recs.length + xs.length ≤ 1000000) (hsn : W.segs.length ≤ 1000000) (hrl : ∀ r ∈ W.recs ++ xs, r.length ≤ 1048576) (hs0 : 0 ≤ W.size ∧ W.size ≤ 1099511627776) (hxl : (dataW xs).length ≤ 1099511627776) :
    Calls Try.prog 27 #[.agg (rlC A c B d W), .int .i64 most, .slice X xs.length xc] w (RetRL S (appR W most xs) w) := by
  have dA : Below w.heap.size w ((w.alloc (.cells (rlC A c B d W) 55)).alloc (.cells #[.int .u64 0, .slice none 0 0, .int .i64 0, .slice none 0 0, .int .i64 0, .bool false] 55)) := ((Below.refl _ _).alloc (Nat.le_refl _) _).alloc (by simp) _
  have kB : Blk ((w.alloc (.cells (rlC A c B d W) 55)).alloc (.cells #[.int .u64 0, .slice none 0 0, .int .i64 0, .slice none 0 0, .int .i64 0, .bool false] 55)) w.heap.size 55 (rlC A c B d W) := (Blk.new w 55 _).alloc _
  have kR : Blk ((w.alloc (.cells (rlC A c B d W) 55)).alloc (.cells #[.int .u64 0, .slice none 0 0, .int .i64 0, .slice none 0 0, .int .i64 0, .bool false] 55)) (w.heap.size + 1) 55 #[.int .u64 0, .slice none 0 0, .int .i64 0, .slice none 0 0, .int .i64 0, .bool false] := heap_alloc2_new _ _ _
  have hz2 : ((w.alloc (.cells (rlC A c B d W) 55)).alloc (.cells #[.int .u64 0, .slice none 0 0, .int .i64 0, .slice none 0 0, .int .i64 0, .bool false] 55)).heap.size = w.heap.size + 2 := by simp
  have HZ2 := Lib.hid hz2
  clear hz2
  have HN := Lib.hid hn
  have HRN := Lib.hid hrn
  have HSN := Lib.hid hsn
  have HRL := Lib.hid hrl
  have HS0 := Lib.hid hs0
  have HXL := Lib.hid hxl
  have HCD := Lib.hid hcd
  clear hn hrn hsn hrl hs0 hxl hcd
  go_enter Try.func27, Try.ntmps27
  go_upto_region 1 with fail
  change Code.wp _ _ _ _ ((w.alloc (.cells (rlC A c B d W) 55)).alloc (.cells #[.int .u64 0, .slice none 0 0, .int .i64 0, .slice none 0 0, .int .i64 0, .bool false] 55))
  generalize ((w.alloc (.cells (rlC A c B d W) 55)).alloc (.cells #[.int .u64 0, .slice none 0 0, .int .i64 0, .slice none 0 0, .int .i64 0, .bool false] 55)) = w2 at *
  by_cases hx : xs = []
  · have hx0 : xs.length = 0 := by rw [hx]; rfl
    have HR : Hid (appR W most xs = W) := by show _ = _; unfold appR; rw [if_pos hx]
    rw [hx0]
    clear hx hx0
    go_wp2_with (first | ((with_reducible refine wpList_load_blk rfl 55 (.tmp 3) rfl w.heap.size ?_ 55 _ _ kB Try.underlying55 ?_ Try.size_RL ?_ ?_); rfl; rfl; rfl) | ((with_reducible refine wpList_store_blk rfl 55 (.tmp 6) (.tmp 13) rfl (w.heap.size + 1) 55 _ (rlC A c B d W) ?_ ?_ kR Try.size_RL ?_ ?_ ?_ ?_); rfl; rfl; rfl; rfl; (simp [rlC, Value.oneCell']); intro w3 k3 g3 z3))
    have b3 : Below w.heap.size w w3 := dA.grown g3 dA.size (fun x e => by have := Option.some.inj e; omega)
    rw [HR.out]
    exact bodyPost_ret (results_cell rfl rfl k3 Try.underlying55 rfl Try.size_RL) rfl ⟨A, c, B, d, rfl, (hA.below b3).mono (fun _ _ h => .inl h), (hB.below b3).mono (fun _ _ h => .inl h), HCD.out, b3⟩
  · have hxp : 0 < xs.length := List.length_pos_iff.2 hx
    have hxi : ((xs.length : Int) == 0) = false := by rw [beq_eq_false_iff_ne]; omega
    have HX := Lib.hid hx
    have kB0 := kB
    have c3 : w2.cell? ⟨w.heap.size, 3, none⟩ = some (.slice B W.segs.length d) := kB.cell 3
    clear hx
    have TN := Lib.hid (fun (Y : World) => rnext_any A c B d W Y (Nat.lt_trans HN.out (by decide)))
    go_upto_region 4 with fail
    clear c3
    obtain ⟨fr, hfr⟩ : ∃ fr, fr = freshR W most := ⟨_, rfl⟩
    have HFR := Lib.hid hfr
    clear hfr
    go_cut [39] from 17 to 39 (fun v wx => v = .bool fr ∧ Below w2.heap.size w2 wx)
    case first =>
      have kS : Below w2.heap.size w2 w2.drew := (Below.refl _ _).drew
      have HBK : Hid (∀ Y, Below w2.heap.size w2 Y → Blk Y w.heap.size 55 (rlC A c B d W)) := fun Y hY => kB.below hY kB.lt
      have HBS : Hid (∀ Y, Below w2.heap.size w2 Y → SlS U64E Y Any B W.segs) := fun Y hY => ((hB.below dA).below hY).any
      by_cases hsg : W.segs = []
      · have HV : Hid (true = fr) := by show _ = _; rw [HFR.out]; unfold freshR; rw [hsg]; rfl
        have hmi : ((W.segs.length : Int) == 0) = true := by rw [hsg]; rfl
        clear hsg
        refine wp_region_noPanic ?_
        refine wp_region_held_drew (S := fun Y => Below w2.heap.size w2 Y) (by kernel_rfl) kS (fun hH => ?_)
        have bd := kS
        generalize w2.drew = w3 at *
        refine wpAnyH_take (i := 0) (v := ?_) rfl (by kernel_rfl) (by kernel_rfl) (by kernel_rfl) (fun _ _ _ h => h) (Or.inl ⟨by rfl, ?_⟩) hH ?_
        case refine_2 => intro w hSw; go_simp; try with_reducible rfl
        try simp only [Z1, Z2, Z4, Z5, Z6, Z7]
        refine wpAnyH_take (i := 1) (v := ?_) rfl (by kernel_rfl) (by kernel_rfl) (by kernel_rfl) (fun _ _ _ h => h) (Or.inl ⟨by rfl, ?_⟩) hH ?_
        case refine_2 => intro w hSw; go_simp; try with_reducible rfl
        try simp only [Z1, Z2, Z3, Z4, Z5, Z6, Z7]
        refine wpAnyH_take (i := 2) (v := ?_) rfl (by kernel_rfl) (by kernel_rfl) (by kernel_rfl) (fun _ _ _ h => h) (Or.inl ⟨by rfl, ?_⟩) hH ?_
        case refine_2 => intro w hSw; go_simp; try with_reducible rfl
        try simp only [Z1, Z2, Z3, Z4, Z5, Z6, Z7]
        refine wpAnyH_take (i := 3) (v := undef) rfl (by kernel_rfl) (by kernel_rfl) (by kernel_rfl) (fun _ _ _ h => h) (Or.inr ⟨by rfl, rfl⟩) hH ?_
        try simp only [Z1, Z2, Z3, Z4, Z5, Z6, Z7]
        refine wpAnyH_take (i := 4) (v := undef) rfl (by kernel_rfl) (by kernel_rfl) (by kernel_rfl) (fun _ _ _ h => h) (Or.inr ⟨by rfl, rfl⟩) hH ?_
        try simp only [Z1, Z2, Z3, Z4, Z5, Z6, Z7]
        refine wpAnyH_take (i := 5) (v := undef) rfl (by kernel_rfl) (by kernel_rfl) (by kernel_rfl) (fun _ _ _ h => h) (Or.inr ⟨by rfl, rfl⟩) hH ?_
        try simp only [Z1, Z2, Z3, Z4, Z5, Z6, Z7]
        refine wpAnyH_take (i := 6) (v := undef) rfl (by kernel_rfl) (by kernel_rfl) (by kernel_rfl) (fun _ _ _ h => h) (Or.inr ⟨by rfl, rfl⟩) hH ?_
        try simp only [Z1, Z2, Z3, Z4, Z5, Z6, Z7]
        refine wpAnyH_take (i := 7) (v := ?_) rfl (by kernel_rfl) (by kernel_rfl) (by kernel_rfl) (fun _ _ _ h => h) (Or.inl ⟨by rfl, ?_⟩) hH ?_
        case refine_2 => intro w hSw; go_simp; try with_reducible rfl
        try simp only [Z1, Z2, Z3, Z4, Z5, Z6, Z7]
        refine wpAnyH_take (i := 8) (v := ?_) rfl (by kernel_rfl) (by kernel_rfl) (by kernel_rfl) (fun _ _ _ h => h) (Or.inl ⟨by rfl, ?_⟩) hH ?_
        case refine_2 => intro w hSw; go_simp; try with_reducible rfl
        try simp only [Z1, Z2, Z3, Z4, Z5, Z6, Z7]
        refine wpAnyH_take (i := 9) (v := undef) rfl (by kernel_rfl) (by kernel_rfl) (by kernel_rfl) (fun _ _ _ h => h) (Or.inr ⟨by rfl, rfl⟩) hH ?_
        try simp only [Z1, Z2, Z3, Z4, Z5, Z6, Z7]
        refine wpAnyH_take (i := 10) (v := undef) rfl (by kernel_rfl) (by kernel_rfl) (by kernel_rfl) (fun _ _ _ h => h) (Or.inr ⟨by rfl, rfl⟩) hH ?_
        try simp only [Z1, Z2, Z3, Z4, Z5, Z6, Z7]
        refine wpAnyH_take (i := 11) (v := undef) rfl (by kernel_rfl) (by kernel_rfl) (by kernel_rfl) (fun _ _ _ h => h) (Or.inr ⟨by rfl, rfl⟩) hH ?_
        try simp only [Z1, Z2, Z3, Z4, Z5, Z6, Z7]
        refine wpAnyH_take (i := 12) (v := undef) rfl (by kernel_rfl) (by kernel_rfl) (by kernel_rfl) (fun _ _ _ h => h) (Or.inr ⟨by rfl, rfl⟩) hH ?_
        try simp only [Z1, Z2, Z3, Z4, Z5, Z6, Z7]
        refine wpAnyH_take (i := 13) (v := undef) rfl (by kernel_rfl) (by kernel_rfl) (by kernel_rfl) (fun _ _ _ h => h) (Or.inr ⟨by rfl, rfl⟩) hH ?_
        try simp only [Z1, Z2, Z3, Z4, Z5, Z6, Z7]
        refine wpAnyH_take (i := 14) (v := undef) rfl (by kernel_rfl) (by kernel_rfl) (by kernel_rfl) (fun _ _ _ h => h) (Or.inr ⟨by rfl, rfl⟩) hH ?_
        try simp only [Z1, Z2, Z3, Z4, Z5, Z6, Z7]
        refine wpAnyH_take (i := 15) (v := undef) rfl (by kernel_rfl) (by kernel_rfl) (by kernel_rfl) (fun _ _ _ h => h) (Or.inr ⟨by rfl, rfl⟩) hH ?_
        try simp only [Z1, Z2, Z3, Z4, Z5, Z6, Z7]
        refine wpAnyH_take (i := 16) (v := undef) rfl (by kernel_rfl) (by kernel_rfl) (by kernel_rfl) (fun _ _ _ h => h) (Or.inr ⟨by rfl, rfl⟩) hH ?_
        try simp only [Z1, Z2, Z3, Z4, Z5, Z6, Z7]
        refine wpAnyH_take (i := 17) (v := undef) rfl (by kernel_rfl) (by kernel_rfl) (by kernel_rfl) (fun _ _ _ h => h) (Or.inr ⟨by rfl, rfl⟩) hH ?_
        try simp only [Z1, Z2, Z3, Z4, Z5, Z6, Z7]
        refine wpAnyH_take (i := 18) (v := undef) rfl (by kernel_rfl) (by kernel_rfl) (by kernel_rfl) (fun _ _ _ h => h) (Or.inr ⟨by rfl, rfl⟩) hH ?_
        try simp only [Z1, Z2, Z3, Z4, Z5, Z6, Z7]
        refine wpAnyH_take (i := 19) (v := undef) rfl (by kernel_rfl) (by kernel_rfl) (by kernel_rfl) (fun _ _ _ h => h) (Or.inr ⟨by rfl, rfl⟩) hH ?_
        try simp only [Z1, Z2, Z3, Z4, Z5, Z6, Z7]
        refine wpAnyH_take (i := 20) (v := undef) rfl (by kernel_rfl) (by kernel_rfl) (by kernel_rfl) (fun _ _ _ h => h) (Or.inr ⟨by rfl, rfl⟩) hH ?_
        try simp only [Z1, Z2, Z3, Z4, Z5, Z6, Z7]
        refine wpAnyH_take (i := 21) (v := undef) rfl (by kernel_rfl) (by kernel_rfl) (by kernel_rfl) (fun _ _ _ h => h) (Or.inr ⟨by rfl, rfl⟩) hH ?_
        try simp only [Z1, Z2, Z3, Z4, Z5, Z6, Z7]
        refine wpAnyH_take (i := 22) (v := ?_) rfl (by kernel_rfl) (by kernel_rfl) (by kernel_rfl) (fun _ _ _ h => h) (Or.inl ⟨by rfl, ?_⟩) hH ?_
        case refine_2 => intro w hSw; go_simp; try with_reducible rfl
        try simp only [Z1, Z2, Z3, Z4, Z5, Z6, Z7]
        refine wpAnyH_done (by kernel_rfl) ?_ _
        refine NoPanic.normal ?_
        go_wp2_with fail
        go_meet
        case rel => exact ⟨congrArg Value.bool HV.out, bd⟩
      · have hml : 0 < W.segs.length := List.length_pos_iff.2 hsg
        obtain ⟨m, hm⟩ : ∃ m, W.segs.length = m + 1 := ⟨W.segs.length - 1, by omega⟩
        have hmi : ((W.segs.length : Int) == 0) = false := by rw [beq_eq_false_iff_ne]; omega
        have hfe : freshR W most = (decide (most ≤ W.size) || (W.rot && decide (lastW W.segs < nextR W))) := by
          unfold freshR
          rw [decide_eq_false hsg, Bool.false_or]
        rw [hfe] at HFR
        have s1 : (W.segs.length : Int) - 1 = (m : Int) := by omega
        have s2 : (m : Int) < (W.segs.length : Int) := by omega
        have s3 : IntKind.i64.wrap (m : Int) = (m : Int) := by have := HSN.out; simp [IntKind.wrap, IntKind.bits, IntKind.signed]; omega
        have HLC0 : ∃ ad, B = some ad ∧ ∀ Y, Below w2.heap.size w2 Y → Y.cell? (ad.add m) = some (.int .u64 (lastW W.segs : Int)) := by
          obtain ⟨ad, rfl, _⟩ := U64E.at_ hB (k := m) (by omega)
          refine ⟨ad, rfl, fun Y hY => ?_⟩
          obtain ⟨ad', e, hc, _⟩ := U64E.at_ (HBS.out Y hY) (k := m) (by omega)
          obtain rfl := Option.some.inj e
          rw [hc]
          unfold lastW
          rw [show W.segs.length - 1 = m by omega, List.getD_eq_getElem?_getD, List.getElem?_eq_getElem (by omega)]
          rfl
        obtain ⟨ad, rfl, HLC0⟩ := HLC0
        have HLC := Lib.hid HLC0
        clear HLC0 hm hsg hfe hml HBS
        by_cases h2 : most ≤ W.size
        · have HV : Hid (true = fr) := by show _ = _; rw [HFR.out, decide_eq_true h2]; rfl
          clear HLC s1 s2 s3
          refine wp_region_noPanic ?_
          refine wp_region_held_drew (S := fun Y => Below w2.heap.size w2 Y) (by kernel_rfl) kS (fun hH => ?_)
          have bd := kS
          generalize w2.drew = w3 at *
          refine wpAnyH_take (i := 0) (v := ?_) rfl (by kernel_rfl) (by kernel_rfl) (by kernel_rfl) (fun _ _ _ h => h) (Or.inl ⟨by rfl, ?_⟩) hH ?_
          case refine_2 => intro w hSw; go_simp; try with_reducible rfl
          try simp only [Z1, Z2, Z4, Z5, Z6, Z7]
          refine wpAnyH_take (i := 1) (v := ?_) rfl (by kernel_rfl) (by kernel_rfl) (by kernel_rfl) (fun _ _ _ h => h) (Or.inl ⟨by rfl, ?_⟩) hH ?_
          case refine_2 => intro w hSw; go_simp; try with_reducible rfl
          try simp only [Z1, Z2, Z3, Z4, Z5, Z6, Z7]
          refine wpAnyH_take (i := 2) (v := ?_) rfl (by kernel_rfl) (by kernel_rfl) (by kernel_rfl) (fun _ _ _ h => h) (Or.inl ⟨by rfl, ?_⟩) hH ?_
          case refine_2 => intro w hSw; go_simp; try with_reducible rfl
          try simp only [Z1, Z2, Z3, Z4, Z5, Z6, Z7]
          refine wpAnyH_take (i := 3) (v := ?_) rfl (by kernel_rfl) (by kernel_rfl) (by kernel_rfl) (fun _ _ _ h => h) (Or.inl ⟨by rfl, ?_⟩) hH ?_
          case refine_2 => intro w hSw; go_simp; try with_reducible rfl
          try simp only [Z1, Z2, Z3, Z4, Z5, Z6, Z7]
          refine wpAnyH_take (i := 4) (v := ?_) rfl (by kernel_rfl) (by kernel_rfl) (by kernel_rfl) (fun _ _ _ h => h) (Or.inl ⟨by rfl, ?_⟩) hH ?_
          case refine_2 => intro w hSw; have h1 := HBK.out w hSw; have n4 : w.cell? ⟨_, 4, none⟩ = some (.int .i64 W.size) := Blk.cell h1 4; clear h1 hSw; go_simp; try with_reducible rfl
          try simp only [Z1, Z2, Z3, Z4, Z5, Z6, Z7]
          refine wpAnyH_take (i := 5) (v := ?_) rfl (by kernel_rfl) (by kernel_rfl) (by kernel_rfl) (fun _ _ _ h => h) (Or.inl ⟨by rfl, ?_⟩) hH ?_
          case refine_2 => intro w hSw; go_simp; try with_reducible rfl
          try simp only [Z1, Z2, Z3, Z4, Z5, Z6, Z7]
          refine wpAnyH_take (i := 6) (v := ?_) rfl (by kernel_rfl) (by kernel_rfl) (by kernel_rfl) (fun _ _ _ h => h) (Or.inl ⟨by rfl, ?_⟩) hH ?_
          case refine_2 => intro w hSw; go_simp; try with_reducible rfl
          try simp only [Z1, Z2, Z3, Z4, Z5, Z6, Z7]
          refine wpAnyH_take (i := 7) (v := ?_) rfl (by kernel_rfl) (by kernel_rfl) (by kernel_rfl) (fun _ _ _ h => h) (Or.inl ⟨by rfl, ?_⟩) hH ?_
          case refine_2 => intro w hSw; go_simp; try with_reducible rfl
          try simp only [Z1, Z2, Z3, Z4, Z5, Z6, Z7]
          refine wpAnyH_take (i := 8) (v := ?_) rfl (by kernel_rfl) (by kernel_rfl) (by kernel_rfl) (fun _ _ _ h => h) (Or.inl ⟨by rfl, ?_⟩) hH ?_
          case refine_2 => intro w hSw; go_simp; try with_reducible rfl
          try simp only [Z1, Z2, Z3, Z4, Z5, Z6, Z7]
          refine wpAnyH_take (i := 9) (v := undef) rfl (by kernel_rfl) (by kernel_rfl) (by kernel_rfl) (fun _ _ _ h => h) (Or.inr ⟨by rfl, rfl⟩) hH ?_
          try simp only [Z1, Z2, Z3, Z4, Z5, Z6, Z7]
          refine wpAnyH_take (i := 10) (v := undef) rfl (by kernel_rfl) (by kernel_rfl) (by kernel_rfl) (fun _ _ _ h => h) (Or.inr ⟨by rfl, rfl⟩) hH ?_
          try simp only [Z1, Z2, Z3, Z4, Z5, Z6, Z7]
          refine wpAnyH_take (i := 11) (v := undef) rfl (by kernel_rfl) (by kernel_rfl) (by kernel_rfl) (fun _ _ _ h => h) (Or.inr ⟨by rfl, rfl⟩) hH ?_
          try simp only [Z1, Z2, Z3, Z4, Z5, Z6, Z7]
          refine wpAnyH_take (i := 12) (v := undef) rfl (by kernel_rfl) (by kernel_rfl) (by kernel_rfl) (fun _ _ _ h => h) (Or.inr ⟨by rfl, rfl⟩) hH ?_
          try simp only [Z1, Z2, Z3, Z4, Z5, Z6, Z7]
          refine wpAnyH_take (i := 13) (v := undef) rfl (by kernel_rfl) (by kernel_rfl) (by kernel_rfl) (fun _ _ _ h => h) (Or.inr ⟨by rfl, rfl⟩) hH ?_
          try simp only [Z1, Z2, Z3, Z4, Z5, Z6, Z7]
          refine wpAnyH_take (i := 14) (v := undef) rfl (by kernel_rfl) (by kernel_rfl) (by kernel_rfl) (fun _ _ _ h => h) (Or.inr ⟨by rfl, rfl⟩) hH ?_
          try simp only [Z1, Z2, Z3, Z4, Z5, Z6, Z7]
          refine wpAnyH_take (i := 15) (v := undef) rfl (by kernel_rfl) (by kernel_rfl) (by kernel_rfl) (fun _ _ _ h => h) (Or.inr ⟨by rfl, rfl⟩) hH ?_
          try simp only [Z1, Z2, Z3, Z4, Z5, Z6, Z7]
          refine wpAnyH_take (i := 16) (v := undef) rfl (by kernel_rfl) (by kernel_rfl) (by kernel_rfl) (fun _ _ _ h => h) (Or.inr ⟨by rfl, rfl⟩) hH ?_
          try simp only [Z1, Z2, Z3, Z4, Z5, Z6, Z7]
          refine wpAnyH_take (i := 17) (v := undef) rfl (by kernel_rfl) (by kernel_rfl) (by kernel_rfl) (fun _ _ _ h => h) (Or.inr ⟨by rfl, rfl⟩) hH ?_
          try simp only [Z1, Z2, Z3, Z4, Z5, Z6, Z7]
          refine wpAnyH_take (i := 18) (v := undef) rfl (by kernel_rfl) (by kernel_rfl) (by kernel_rfl) (fun _ _ _ h => h) (Or.inr ⟨by rfl, rfl⟩) hH ?_
          try simp only [Z1, Z2, Z3, Z4, Z5, Z6, Z7]
          refine wpAnyH_take (i := 19) (v := undef) rfl (by kernel_rfl) (by kernel_rfl) (by kernel_rfl) (fun _ _ _ h => h) (Or.inr ⟨by rfl, rfl⟩) hH ?_
          try simp only [Z1, Z2, Z3, Z4, Z5, Z6, Z7]
          refine wpAnyH_take (i := 20) (v := undef) rfl (by kernel_rfl) (by kernel_rfl) (by kernel_rfl) (fun _ _ _ h => h) (Or.inr ⟨by rfl, rfl⟩) hH ?_
          try simp only [Z1, Z2, Z3, Z4, Z5, Z6, Z7]
          refine wpAnyH_take (i := 21) (v := undef) rfl (by kernel_rfl) (by kernel_rfl) (by kernel_rfl) (fun _ _ _ h => h) (Or.inr ⟨by rfl, rfl⟩) hH ?_
          try simp only [Z1, Z2, Z3, Z4, Z5, Z6, Z7]
          refine wpAnyH_take (i := 22) (v := ?_) rfl (by kernel_rfl) (by kernel_rfl) (by kernel_rfl) (fun _ _ _ h => h) (Or.inl ⟨by rfl, ?_⟩) hH ?_
          case refine_2 => intro w hSw; go_simp; try with_reducible rfl
          try simp only [Z1, Z2, Z3, Z4, Z5, Z6, Z7]
          refine wpAnyH_done (by kernel_rfl) ?_ _
          refine NoPanic.normal ?_
          go_wp2_with fail
          go_meet
          case rel => exact ⟨congrArg Value.bool HV.out, bd⟩
        · cases hrt : W.rot with
          | false =>
            have HV : Hid (false = fr) := by show _ = _; rw [HFR.out, decide_eq_false h2, hrt]; rfl
            clear HLC s1 s2 s3
            refine wp_region_noPanic ?_
            refine wp_region_held_drew (S := fun Y => Below w2.heap.size w2 Y) (by kernel_rfl) kS (fun hH => ?_)
            have bd := kS
            generalize w2.drew = w3 at *
            refine wpAnyH_take (i := 0) (v := ?_) rfl (by kernel_rfl) (by kernel_rfl) (by kernel_rfl) (fun _ _ _ h => h) (Or.inl ⟨by rfl, ?_⟩) hH ?_
            case refine_2 => intro w hSw; go_simp; try with_reducible rfl
            try simp only [Z1, Z2, Z4, Z5, Z6, Z7]
            refine wpAnyH_take (i := 1) (v := ?_) rfl (by kernel_rfl) (by kernel_rfl) (by kernel_rfl) (fun _ _ _ h => h) (Or.inl ⟨by rfl, ?_⟩) hH ?_
            case refine_2 => intro w hSw; go_simp; try with_reducible rfl
            try simp only [Z1, Z2, Z3, Z4, Z5, Z6, Z7]
            refine wpAnyH_take (i := 2) (v := ?_) rfl (by kernel_rfl) (by kernel_rfl) (by kernel_rfl) (fun _ _ _ h => h) (Or.inl ⟨by rfl, ?_⟩) hH ?_
            case refine_2 => intro w hSw; go_simp; try with_reducible rfl
            try simp only [Z1, Z2, Z3, Z4, Z5, Z6, Z7]
            refine wpAnyH_take (i := 3) (v := ?_) rfl (by kernel_rfl) (by kernel_rfl) (by kernel_rfl) (fun _ _ _ h => h) (Or.inl ⟨by rfl, ?_⟩) hH ?_
            case refine_2 => intro w hSw; go_simp; try with_reducible rfl
            try simp only [Z1, Z2, Z3, Z4, Z5, Z6, Z7]
            refine wpAnyH_take (i := 4) (v := ?_) rfl (by kernel_rfl) (by kernel_rfl) (by kernel_rfl) (fun _ _ _ h => h) (Or.inl ⟨by rfl, ?_⟩) hH ?_
            case refine_2 => intro w hSw; have h1 := HBK.out w hSw; have n4 : w.cell? ⟨_, 4, none⟩ = some (.int .i64 W.size) := Blk.cell h1 4; clear h1 hSw; go_simp; try with_reducible rfl
            try simp only [Z1, Z2, Z3, Z4, Z5, Z6, Z7]
            refine wpAnyH_take (i := 5) (v := ?_) rfl (by kernel_rfl) (by kernel_rfl) (by kernel_rfl) (fun _ _ _ h => h) (Or.inl ⟨by rfl, ?_⟩) hH ?_
            case refine_2 => intro w hSw; go_simp; try with_reducible rfl
            try simp only [Z1, Z2, Z3, Z4, Z5, Z6, Z7]
            refine wpAnyH_take (i := 6) (v := ?_) rfl (by kernel_rfl) (by kernel_rfl) (by kernel_rfl) (fun _ _ _ h => h) (Or.inl ⟨by rfl, ?_⟩) hH ?_
            case refine_2 => intro w hSw; go_simp; try with_reducible rfl
            try simp only [Z1, Z2, Z3, Z4, Z5, Z6, Z7]
            refine wpAnyH_take (i := 7) (v := ?_) rfl (by kernel_rfl) (by kernel_rfl) (by kernel_rfl) (fun _ _ _ h => h) (Or.inl ⟨by rfl, ?_⟩) hH ?_
            case refine_2 => intro w hSw; go_simp; try with_reducible rfl
            try simp only [Z1, Z2, Z3, Z4, Z5, Z6, Z7]
            refine wpAnyH_take (i := 8) (v := ?_) rfl (by kernel_rfl) (by kernel_rfl) (by kernel_rfl) (fun _ _ _ h => h) (Or.inl ⟨by rfl, ?_⟩) hH ?_
            case refine_2 => intro w hSw; go_simp; try with_reducible rfl
            try simp only [Z1, Z2, Z3, Z4, Z5, Z6, Z7]
            refine wpAnyH_take (i := 9) (v := ?_) rfl (by kernel_rfl) (by kernel_rfl) (by kernel_rfl) (fun _ _ _ h => h) (Or.inl ⟨by rfl, ?_⟩) hH ?_
            case refine_2 => intro w hSw; go_simp; try with_reducible rfl
            try simp only [Z1, Z2, Z3, Z4, Z5, Z6, Z7]
            refine wpAnyH_take (i := 10) (v := ?_) rfl (by kernel_rfl) (by kernel_rfl) (by kernel_rfl) (fun _ _ _ h => h) (Or.inl ⟨by rfl, ?_⟩) hH ?_
            case refine_2 => intro w hSw; have h1 := HBK.out w hSw; have n5 : w.cell? ⟨_, 5, none⟩ = some (.bool W.rot) := Blk.cell h1 5; clear h1 hSw; go_simp; try with_reducible rfl
            try simp only [Z1, Z2, Z3, Z4, Z5, Z6, Z7]
            refine wpAnyH_take (i := 11) (v := ?_) rfl (by kernel_rfl) (by kernel_rfl) (by kernel_rfl) (fun _ _ _ h => h) (Or.inl ⟨by rfl, ?_⟩) hH ?_
            case refine_2 => intro w hSw; go_simp; try with_reducible rfl
            try simp only [Z1, Z2, Z3, Z4, Z5, Z6, Z7]
            refine wpAnyH_take (i := 12) (v := undef) rfl (by kernel_rfl) (by kernel_rfl) (by kernel_rfl) (fun _ _ _ h => h) (Or.inr ⟨by rfl, rfl⟩) hH ?_
            try simp only [Z1, Z2, Z3, Z4, Z5, Z6, Z7]
            refine wpAnyH_take (i := 13) (v := undef) rfl (by kernel_rfl) (by kernel_rfl) (by kernel_rfl) (fun _ _ _ h => h) (Or.inr ⟨by rfl, rfl⟩) hH ?_
            try simp only [Z1, Z2, Z3, Z4, Z5, Z6, Z7]
            refine wpAnyH_take (i := 14) (v := undef) rfl (by kernel_rfl) (by kernel_rfl) (by kernel_rfl) (fun _ _ _ h => h) (Or.inr ⟨by rfl, rfl⟩) hH ?_
            try simp only [Z1, Z2, Z3, Z4, Z5, Z6, Z7]
            refine wpAnyH_take (i := 15) (v := undef) rfl (by kernel_rfl) (by kernel_rfl) (by kernel_rfl) (fun _ _ _ h => h) (Or.inr ⟨by rfl, rfl⟩) hH ?_
            try simp only [Z1, Z2, Z3, Z4, Z5, Z6, Z7]
            refine wpAnyH_take (i := 16) (v := undef) rfl (by kernel_rfl) (by kernel_rfl) (by kernel_rfl) (fun _ _ _ h => h) (Or.inr ⟨by rfl, rfl⟩) hH ?_
            try simp only [Z1, Z2, Z3, Z4, Z5, Z6, Z7]
            refine wpAnyH_take (i := 17) (v := undef) rfl (by kernel_rfl) (by kernel_rfl) (by kernel_rfl) (fun _ _ _ h => h) (Or.inr ⟨by rfl, rfl⟩) hH ?_
            try simp only [Z1, Z2, Z3, Z4, Z5, Z6, Z7]
            refine wpAnyH_take (i := 18) (v := undef) rfl (by kernel_rfl) (by kernel_rfl) (by kernel_rfl) (fun _ _ _ h => h) (Or.inr ⟨by rfl, rfl⟩) hH ?_
            try simp only [Z1, Z2, Z3, Z4, Z5, Z6, Z7]
            refine wpAnyH_take (i := 19) (v := undef) rfl (by kernel_rfl) (by kernel_rfl) (by kernel_rfl) (fun _ _ _ h => h) (Or.inr ⟨by rfl, rfl⟩) hH ?_
            try simp only [Z1, Z2, Z3, Z4, Z5, Z6, Z7]
            refine wpAnyH_take (i := 20) (v := undef) rfl (by kernel_rfl) (by kernel_rfl) (by kernel_rfl) (fun _ _ _ h => h) (Or.inr ⟨by rfl, rfl⟩) hH ?_
            try simp only [Z1, Z2, Z3, Z4, Z5, Z6, Z7]
            refine wpAnyH_take (i := 21) (v := ?_) rfl (by kernel_rfl) (by kernel_rfl) (by kernel_rfl) (fun _ _ _ h => h) (Or.inl ⟨by rfl, ?_⟩) hH ?_
            case refine_2 => intro w hSw; go_simp; try with_reducible rfl
            try simp only [Z1, Z2, Z3, Z4, Z5, Z6, Z7]
            refine wpAnyH_take (i := 22) (v := ?_) rfl (by kernel_rfl) (by kernel_rfl) (by kernel_rfl) (fun _ _ _ h => h) (Or.inl ⟨by rfl, ?_⟩) hH ?_
            case refine_2 => intro w hSw; go_simp; try with_reducible rfl
            try simp only [Z1, Z2, Z3, Z4, Z5, Z6, Z7]
            refine wpAnyH_done (by kernel_rfl) ?_ _
            refine NoPanic.normal ?_
            go_wp2_with fail
            go_meet
            case rel => exact ⟨congrArg Value.bool HV.out, bd⟩
          | true =>
            have HV : Hid (decide (lastW W.segs < nextR W) = fr) := by show _ = _; rw [HFR.out, decide_eq_false h2, hrt]; rfl
            have HTT : Hid (∀ Y : World, Calls Try.prog 26 #[.agg #[.int .u64 (W.first : Int), .slice A W.recs.length c, .int .i64 W.safe, .slice (some ad) W.segs.length d, .int .i64 W.size, .bool true]] Y (fun en w' => en = .returned (.int .u64 (nextR W : Int)) ∧ Below Y.heap.size Y w')) := fun Y => by
              have h := TN.out Y
              unfold rlC at h
              rw [hrt] at h
              exact h
            clear TN
            generalize lastW W.segs = ls at *
            generalize nextR W = nx at *
            refine wp_region_noPanic ?_
            refine wp_region_held_drew (S := fun Y => Below w2.heap.size w2 Y) (by kernel_rfl) kS (fun hH => ?_)
            have bd := kS
            generalize w2.drew = w3 at *
            refine wpAnyH_take (i := 0) (v := ?_) rfl (by kernel_rfl) (by kernel_rfl) (by kernel_rfl) (fun _ _ _ h => h) (Or.inl ⟨by rfl, ?_⟩) hH ?_
            case refine_2 => intro w hSw; go_simp; try with_reducible rfl
            try simp only [Z1, Z2, Z4, Z5, Z6, Z7]
            refine wpAnyH_take (i := 1) (v := ?_) rfl (by kernel_rfl) (by kernel_rfl) (by kernel_rfl) (fun _ _ _ h => h) (Or.inl ⟨by rfl, ?_⟩) hH ?_
            case refine_2 => intro w hSw; go_simp; try with_reducible rfl
            try simp only [Z1, Z2, Z3, Z4, Z5, Z6, Z7]
            refine wpAnyH_take (i := 2) (v := ?_) rfl (by kernel_rfl) (by kernel_rfl) (by kernel_rfl) (fun _ _ _ h => h) (Or.inl ⟨by rfl, ?_⟩) hH ?_
            case refine_2 => intro w hSw; go_simp; try with_reducible rfl
            try simp only [Z1, Z2, Z3, Z4, Z5, Z6, Z7]
            refine wpAnyH_take (i := 3) (v := ?_) rfl (by kernel_rfl) (by kernel_rfl) (by kernel_rfl) (fun _ _ _ h => h) (Or.inl ⟨by rfl, ?_⟩) hH ?_
            case refine_2 => intro w hSw; go_simp; try with_reducible rfl
            try simp only [Z1, Z2, Z3, Z4, Z5, Z6, Z7]
            refine wpAnyH_take (i := 4) (v := ?_) rfl (by kernel_rfl) (by kernel_rfl) (by kernel_rfl) (fun _ _ _ h => h) (Or.inl ⟨by rfl, ?_⟩) hH ?_
            case refine_2 => intro w hSw; have h1 := HBK.out w hSw; have n4 : w.cell? ⟨_, 4, none⟩ = some (.int .i64 W.size) := Blk.cell h1 4; clear h1 hSw; go_simp; try with_reducible rfl
            try simp only [Z1, Z2, Z3, Z4, Z5, Z6, Z7]
            refine wpAnyH_take (i := 5) (v := ?_) rfl (by kernel_rfl) (by kernel_rfl) (by kernel_rfl) (fun _ _ _ h => h) (Or.inl ⟨by rfl, ?_⟩) hH ?_
            case refine_2 => intro w hSw; go_simp; try with_reducible rfl
            try simp only [Z1, Z2, Z3, Z4, Z5, Z6, Z7]
            refine wpAnyH_take (i := 6) (v := ?_) rfl (by kernel_rfl) (by kernel_rfl) (by kernel_rfl) (fun _ _ _ h => h) (Or.inl ⟨by rfl, ?_⟩) hH ?_
            case refine_2 => intro w hSw; go_simp; try with_reducible rfl
            try simp only [Z1, Z2, Z3, Z4, Z5, Z6, Z7]
            refine wpAnyH_take (i := 7) (v := ?_) rfl (by kernel_rfl) (by kernel_rfl) (by kernel_rfl) (fun _ _ _ h => h) (Or.inl ⟨by rfl, ?_⟩) hH ?_
            case refine_2 => intro w hSw; go_simp; try with_reducible rfl
            try simp only [Z1, Z2, Z3, Z4, Z5, Z6, Z7]
            refine wpAnyH_take (i := 8) (v := ?_) rfl (by kernel_rfl) (by kernel_rfl) (by kernel_rfl) (fun _ _ _ h => h) (Or.inl ⟨by rfl, ?_⟩) hH ?_
            case refine_2 => intro w hSw; go_simp; try with_reducible rfl
            try simp only [Z1, Z2, Z3, Z4, Z5, Z6, Z7]
            refine wpAnyH_take (i := 9) (v := ?_) rfl (by kernel_rfl) (by kernel_rfl) (by kernel_rfl) (fun _ _ _ h => h) (Or.inl ⟨by rfl, ?_⟩) hH ?_
            case refine_2 => intro w hSw; go_simp; try with_reducible rfl
            try simp only [Z1, Z2, Z3, Z4, Z5, Z6, Z7]
            refine wpAnyH_take (i := 10) (v := ?_) rfl (by kernel_rfl) (by kernel_rfl) (by kernel_rfl) (fun _ _ _ h => h) (Or.inl ⟨by rfl, ?_⟩) hH ?_
            case refine_2 => intro w hSw; have h1 := HBK.out w hSw; have n5 : w.cell? ⟨_, 5, none⟩ = some (.bool W.rot) := Blk.cell h1 5; clear h1 hSw; go_simp; try with_reducible rfl
            try simp only [Z1, Z2, Z3, Z4, Z5, Z6, Z7]
            refine wpAnyH_take (i := 11) (v := ?_) rfl (by kernel_rfl) (by kernel_rfl) (by kernel_rfl) (fun _ _ _ h => h) (Or.inl ⟨by rfl, ?_⟩) hH ?_
            case refine_2 => intro w hSw; go_simp; try with_reducible rfl
            try simp only [Z1, Z2, Z3, Z4, Z5, Z6, Z7]
            refine wpAnyH_take (i := 12) (v := ?_) rfl (by kernel_rfl) (by kernel_rfl) (by kernel_rfl) (fun _ _ _ h => h) (Or.inl ⟨by rfl, ?_⟩) hH ?_
            case refine_2 => intro w hSw; go_simp; try with_reducible rfl
            try simp only [Z1, Z2, Z3, Z4, Z5, Z6, Z7]
            refine wpAnyH_take (i := 13) (v := ?_) rfl (by kernel_rfl) (by kernel_rfl) (by kernel_rfl) (fun _ _ _ h => h) (Or.inl ⟨by rfl, ?_⟩) hH ?_
            case refine_2 => intro w hSw; have h1 := HBK.out w hSw; have n3 : w.cell? ⟨_, 3, none⟩ = some (.slice (some ad) W.segs.length d) := Blk.cell h1 3; clear h1 hSw; go_simp; try with_reducible rfl
            try simp only [Z1, Z2, Z3, Z4, Z5, Z6, Z7]
            refine wpAnyH_take (i := 14) (v := ?_) rfl (by kernel_rfl) (by kernel_rfl) (by kernel_rfl) (fun _ _ _ h => h) (Or.inl ⟨by rfl, ?_⟩) hH ?_
            case refine_2 => intro w hSw; go_simp; try with_reducible rfl
            try simp only [Z1, Z2, Z3, Z4, Z5, Z6, Z7]
            refine wpAnyH_take (i := 15) (v := ?_) rfl (by kernel_rfl) (by kernel_rfl) (by kernel_rfl) (fun _ _ _ h => h) (Or.inl ⟨by rfl, ?_⟩) hH ?_
            case refine_2 => intro w hSw; go_simp; try with_reducible rfl
            try simp only [Z1, Z2, Z3, Z4, Z5, Z6, Z7]
            refine wpAnyH_take (i := 16) (v := ?_) rfl (by kernel_rfl) (by kernel_rfl) (by kernel_rfl) (fun _ _ _ h => h) (Or.inl ⟨by rfl, ?_⟩) hH ?_
            case refine_2 => intro w hSw; go_simp; try with_reducible rfl
            try simp only [Z1, Z2, Z3, Z4, Z5, Z6, Z7]
            refine wpAnyH_take (i := 17) (v := ?_) rfl (by kernel_rfl) (by kernel_rfl) (by kernel_rfl) (fun _ _ _ h => h) (Or.inl ⟨by rfl, ?_⟩) hH ?_
            case refine_2 => intro w hSw; have h1 := HLC.out w hSw; clear hSw; go_simp; try with_reducible rfl
            try simp only [Z1, Z2, Z3, Z4, Z5, Z6, Z7]
            refine wpAnyH_take (i := 18) (v := ?_) rfl (by kernel_rfl) (by kernel_rfl) (by kernel_rfl) (fun _ _ _ h => h) (Or.inl ⟨by rfl, ?_⟩) hH ?_
            case refine_2 => intro w hSw; have h1 := HBK.out w hSw; have n0 : w.cell? ⟨_, 0, none⟩ = some (.int .u64 (W.first : Int)) := Blk.cell h1 0; have n1 : w.cell? ⟨_, 1, none⟩ = some (.slice A W.recs.length c) := Blk.cell h1 1; have n2 : w.cell? ⟨_, 2, none⟩ = some (.int .i64 W.safe) := Blk.cell h1 2; have n3 : w.cell? ⟨_, 3, none⟩ = some (.slice (some ad) W.segs.length d) := Blk.cell h1 3; have n4 : w.cell? ⟨_, 4, none⟩ = some (.int .i64 W.size) := Blk.cell h1 4; have n5 : w.cell? ⟨_, 5, none⟩ = some (.bool W.rot) := Blk.cell h1 5; clear h1 hSw; go_simp; try with_reducible rfl
            try simp only [Z1, Z2, Z3, Z4, Z5, Z6, Z7]
            refine wpAnyH_ready (rs := [19]) (by kernel_rfl) (by simp) ?_
            refine AllReadyH.cons rfl (fun K hK => ?_) AllReadyH.nil
            go_simp
            refine (HTT.out w3).mono ?_
            rintro en w4 ⟨rfl, b4⟩
            have bd4 := below_step' bd b4
            refine hK.out _ _ bd4 (fun hH => ?_)
            clear hK K
            try dsimp only
            try simp only [Z1, Z2, Z3, Z4, Z5, Z6, Z7]
            refine wpAnyH_take (i := 20) (v := ?_) rfl (by kernel_rfl) (by kernel_rfl) (by kernel_rfl) (fun _ _ _ h => h) (Or.inl ⟨by rfl, ?_⟩) hH ?_
            case refine_2 => intro w hSw; go_simp; try with_reducible rfl
            try simp only [Z1, Z2, Z3, Z4, Z5, Z6, Z7]
            refine wpAnyH_take (i := 21) (v := ?_) rfl (by kernel_rfl) (by kernel_rfl) (by kernel_rfl) (fun _ _ _ h => h) (Or.inl ⟨by rfl, ?_⟩) hH ?_
            case refine_2 => intro w hSw; go_simp; try with_reducible rfl
            try simp only [Z1, Z2, Z3, Z4, Z5, Z6, Z7]
            refine wpAnyH_take (i := 22) (v := ?_) rfl (by kernel_rfl) (by kernel_rfl) (by kernel_rfl) (fun _ _ _ h => h) (Or.inl ⟨by rfl, ?_⟩) hH ?_
            case refine_2 => intro w hSw; go_simp; try with_reducible rfl
            try simp only [Z1, Z2, Z3, Z4, Z5, Z6, Z7]
            refine wpAnyH_done (by kernel_rfl) ?_ _
            refine NoPanic.normal ?_
            go_wp2_with fail
            go_meet
            case rel => exact ⟨congrArg Value.bool HV.out, bd4⟩
    case rest =>
      obtain ⟨rfl, bc⟩ := hcut
      have zc := bc.size
      have kB2 := kB.below bc kB.lt
      have kR2 := kR.below bc kR.lt
      have dC := below_step' dA bc
      have hBc := (hB.mono (S' := fun x => S x ∧ x < w.heap.size) (fun b h1 h2 => ⟨h2, h1⟩)).below dC
      clear kB kR dA bc kB0 hB
      generalize wc = wd at *
      go_upto_if 39 with fail
      go_cut [] from 40 to 54 (fun wx => ∃ B2 d2, Blk wx w.heap.size 55 (rlC A c B2 d2 (if fr = true then beginR W else W)) ∧ SlS U64E wx (fun x => (S x ∧ x < w.heap.size) ∨ w2.heap.size ≤ x) B2 (if fr = true then beginR W else W).segs ∧ ((if fr = true then beginR W else W).segs.length ≤ d2 ∧ d2 ≤ 9223372036854775807) ∧ wd.grownBy wx (some w.heap.size))
      case first =>
        cases fr with
        | false =>
          go_wp2_with fail
          go_meet
          case rel => exact ⟨B, d, kB2, (hBc.mono fun b _ h => .inl h), HCD.out.2, only_of_below (Below.refl _ _) _⟩
        | true =>
          have y1 : wd.cell? ⟨w.heap.size, 1, none⟩ = some (.slice A W.recs.length c) := kB2.cell 1
          have y2 : wd.cell? ⟨w.heap.size, 2, none⟩ = some (.int .i64 W.safe) := kB2.cell 2
          have f2 : wd.frozen? ⟨w.heap.size, 2, none⟩ = false := kB2.frozen 2
          go_upto_region 6 with fail
          clear y1 y2 f2
          have k5 : Blk (wd.setCell ⟨w.heap.size, 2, none⟩ (.int .i64 (W.recs.length : Int))) w.heap.size 55 (rlC A c B d { W with safe := (W.recs.length : Int) }) := kB2.set_ 2 _
          have g5 : wd.grownBy (wd.setCell ⟨w.heap.size, 2, none⟩ (.int .i64 (W.recs.length : Int))) (some w.heap.size) := only_setCell (only_of_below (Below.refl _ _) _) (.inl rfl) _
          generalize (wd.setCell ⟨w.heap.size, 2, none⟩ (.int .i64 (W.recs.length : Int))) = w5 at *
          have z5 := g5.size
          have hB5 : SlS U64E w5 (· < w.heap.size) B W.segs := (hBc.mono (S' := (· < w.heap.size)) (fun _ _ h => h.2)).same ⟨g5.size, fun b h1 h2 => g5.block b h2 (fun e => by have := Option.some.inj e; omega)⟩
          have HBK : Hid (∀ Y, Below w5.heap.size w5 Y → Blk Y w.heap.size 55 (rlC A c B d { W with safe := (W.recs.length : Int) })) := fun Y hY => k5.below hY k5.lt
          have HBS : Hid (∀ Y, Below w5.heap.size w5 Y → SlS U64E Y (· < w.heap.size) B W.segs) := fun Y hY => hB5.below hY
          have HTN : Hid (∀ Y : World, Calls Try.prog 26 #[.agg #[.int .u64 (W.first : Int), .slice A W.recs.length c, .int .i64 (W.recs.length : Int), .slice B W.segs.length d, .int .i64 W.size, .bool W.rot]] Y (fun en w' => en = .returned (.int .u64 (nextR W : Int)) ∧ Below Y.heap.size Y w')) := fun Y => rnext_any A c B d { W with safe := (W.recs.length : Int) } Y (Nat.lt_trans HN.out (by decide))
          have HNX : Hid (nextR W < 18446744073709551616) := Nat.lt_trans HN.out (by decide)
          generalize hnx : nextR W = nx at *
          have HNE := Lib.hid hnx
          clear hnx
          have HLS : Hid (([] : List Nat).length + W.segs.length ≤ 1000001) := by show _ ≤ _; have := HSN.out; rw [List.length_nil]; omega
          have HLS2 : Hid (∀ l : List Nat, l = [] ++ W.segs → l.length + [nx].length ≤ 1000001) := fun l e => by rw [e]; have := HSN.out; simp; omega
          have kS : Below w5.heap.size w5 w5.drew := (Below.refl _ _).drew
          refine wp_region_noPanic ?_
          refine wp_region_heldK (fun Y => Below w5.heap.size w5 Y) 9 (by kernel_rfl) kS (fun hH => ?_)
          have R0 : R6 w5 w5.drew none none := ⟨kS, fun v xs e => (by cases e), fun g n e => (by cases e)⟩
          generalize w5.drew = u0 at *
          refine wpAnyK_take (i := 1) (v := ?_) rfl (by kernel_rfl) (by kernel_rfl) (by kernel_rfl) (by kernel_rfl) (fun _ _ _ h => h) (Or.inl ⟨by rfl, ?_⟩) hH ?_
          case refine_2 => intro w hSw; go_simp; try with_reducible rfl
          try simp only [Z1, Z2, Z3, Z4, Z5, Z6, Z7]
          refine wpAnyK_take (i := 2) (v := ?_) rfl (by kernel_rfl) (by kernel_rfl) (by kernel_rfl) (by kernel_rfl) (fun _ _ _ h => h) (Or.inl ⟨by rfl, ?_⟩) hH ?_
          case refine_2 => intro w hSw; have h1 := HBK.out w hSw; have n3 : w.cell? ⟨_, 3, none⟩ = some (.slice B W.segs.length d) := Blk.cell h1 3; clear h1 hSw; go_simp; try with_reducible rfl
          try simp only [Z1, Z2, Z3, Z4, Z5, Z6, Z7]
          refine wpAnyK_take (i := 4) (v := ?_) rfl (by kernel_rfl) (by kernel_rfl) (by kernel_rfl) (by kernel_rfl) (fun _ _ _ h => h) (Or.inl ⟨by rfl, ?_⟩) hH ?_
          case refine_2 => intro w hSw; have h1 := HBK.out w hSw; have n0 : w.cell? ⟨_, 0, none⟩ = some (.int .u64 (W.first : Int)) := Blk.cell h1 0; have n1 : w.cell? ⟨_, 1, none⟩ = some (.slice A W.recs.length c) := Blk.cell h1 1; have n2 : w.cell? ⟨_, 2, none⟩ = some (.int .i64 (W.recs.length : Int)) := Blk.cell h1 2; have n3 : w.cell? ⟨_, 3, none⟩ = some (.slice B W.segs.length d) := Blk.cell h1 3; have n4 : w.cell? ⟨_, 4, none⟩ = some (.int .i64 W.size) := Blk.cell h1 4; have n5 : w.cell? ⟨_, 5, none⟩ = some (.bool W.rot) := Blk.cell h1 5; clear h1 hSw; go_simp; try with_reducible rfl
          try simp only [Z1, Z2, Z3, Z4, Z5, Z6, Z7]
          refine wpAnyK_ready (rs := [0]) (by kernel_rfl) (by simp) ?_
          refine AllReadyK.cons rfl (by kernel_rfl) (fun K hK => ?_) AllReadyK.nil
          go_simp
          have R1 := R0.z
          generalize (u0.alloc (.cells #[] 32)) = u1 at *
          refine hK.out _ _ R1.b ?_
          clear hK K
          try dsimp only
          try simp only [Z1, Z2, Z3, Z4, Z5, Z6, Z7]
          refine wpAnyK_ready (rs := [3]) (by kernel_rfl) (by simp) ?_
          refine AllReadyK.cons rfl (by kernel_rfl) (fun K hK => ?_) AllReadyK.nil
          obtain ⟨us, hr, hf⟩ := (HBS.out u1 R1.b).parts
          refine R1.appS (A := (some ⟨u0.heap.size, 0, none⟩)) (xs := ([] : List Nat)) (c := 0) rfl (.tmp 44) (.tmp 46) rfl rfl (ys := W.segs) rfl us hr (U64E.flat_any hf) HLS.out ?_
          intro A3 c3 xs3 u2 H3 R2
          clear hr hf
          refine hK.out _ _ R2.b ?_
          clear hK K
          try dsimp only
          try simp only [Z1, Z2, Z3, Z4, Z5, Z6, Z7]
          refine wpAnyK_ready (rs := [5]) (by kernel_rfl) (by simp) ?_
          refine AllReadyK.cons rfl (by kernel_rfl) (fun K hK => ?_) AllReadyK.nil
          go_simp
          refine (HTN.out u2).mono ?_
          rintro en u3 ⟨rfl, c3⟩
          have R3 := R2.call c3
          clear c3
          refine hK.out _ _ R3.b ?_
          clear hK K
          try dsimp only
          try simp only [Z1, Z2, Z3, Z4, Z5, Z6, Z7]
          refine wpAnyK_ready (rs := [6]) (by kernel_rfl) (by simp) ?_
          refine AllReadyK.cons rfl (by kernel_rfl) (fun K hK => ?_) AllReadyK.nil
          go_simp
          have R4 := R3.lit nx
          generalize (u3.alloc (.cells #[.int .u64 (nx : Int)] 32)) = u4 at *
          refine hK.out _ _ R4.b ?_
          clear hK K
          try dsimp only
          try simp only [Z1, Z2, Z3, Z4, Z5, Z6, Z7]
          refine wpAnyK_ready (rs := [7]) (by kernel_rfl) (by simp) ?_
          refine AllReadyK.cons rfl (by kernel_rfl) (fun K hK => ?_) AllReadyK.nil
          refine R4.appS (A := A3) (xs := xs3) (c := c3) rfl (.tmp 47) (.tmp 50) rfl rfl (ys := [nx]) rfl [.int .u64 (nx : Int)] (Blk.reads1 (R4.l _ _ rfl).1) (ER.flat_one_ (E := U64E) ⟨rfl, HNX.out⟩) (by have h := HLS2.out _ H3.out; exact h) ?_
          intro A7 c7 xs7 u5 H7 R5
          refine hK.out _ _ R5.b ?_
          clear hK K
          try dsimp only
          try simp only [Z1, Z2, Z3, Z4, Z5, Z6, Z7]
          refine wpAnyK_take (i := 8) (v := ?_) rfl (by kernel_rfl) (by kernel_rfl) (by kernel_rfl) (by kernel_rfl) (fun _ _ _ h => h) (Or.inl ⟨by rfl, ?_⟩) R5.b ?_
          case refine_2 => intro w hSw; go_simp; try with_reducible rfl
          try simp only [Z1, Z2, Z3, Z4, Z5, Z6, Z7]
          refine wpAnyK_ready (rs := [9]) (by kernel_rfl) (by simp) ?_
          refine AllReadyK.turn rfl (fun K hK => ?_) AllReadyK.nil
          have k8 := HBK.out u5 R5.b
          have y3 : u5.cell? ⟨w.heap.size, 3, none⟩ = some (.slice B W.segs.length d) := k8.cell 3
          have f3 : u5.frozen? ⟨w.heap.size, 3, none⟩ = false := k8.frozen 3
          go_simp
          clear y3 f3
          refine hK.out _ _ ?_
          clear hK K hH
          try simp only [Z1, Z2, Z3, Z4, Z5, Z6, Z7]
          refine wpAny_done (by kernel_rfl) ?_ _
          refine NoPanic.normal ?_
          obtain rfl : xs7 = W.segs ++ [nx] := by rw [H7.out, H3.out]; rfl
          have hne : ∀ v, (u5.heap.size = u5.heap.size ∧ v = (Value.slice A7 (W.segs ++ [nx]).length c7)) → v.ownBlock ≠ some w.heap.size := fun v h e => by rw [h.2] at e; have h1 := ((R5.r _ _ rfl).lt _ e).1; have h2 : w5.heap.size ≤ w.heap.size := h1; have h3 := k5.lt; omega
          have k9 : Blk (u5.setCell ⟨w.heap.size, 3, none⟩ (.slice A7 (W.segs ++ [nx]).length c7)) w.heap.size 55 #[.int .u64 (W.first : Int), .slice A W.recs.length c, .int .i64 (W.recs.length : Int), .slice A7 (W.segs ++ [nx]).length c7, .int .i64 W.size, .bool W.rot] := k8.set_ 3 _
          have o9 := (R5.r _ _ rfl).setCell (p := ⟨w.heap.size, 3, none⟩) (hne _ ⟨rfl, rfl⟩) (fun h => h) (.slice A7 (W.segs ++ [nx]).length c7)
          have g9 : w5.grownBy (u5.setCell ⟨w.heap.size, 3, none⟩ (.slice A7 (W.segs ++ [nx]).length c7)) (some w.heap.size) := only_setCell (only_of_below R5.b (some w.heap.size)) (.inl rfl) _
          generalize (u5.setCell ⟨w.heap.size, 3, none⟩ (.slice A7 (W.segs ++ [nx]).length c7)) = w9 at *
          have y4 : w9.cell? ⟨w.heap.size, 4, none⟩ = some (.int .i64 W.size) := k9.cell 4
          have f4 : w9.frozen? ⟨w.heap.size, 4, none⟩ = false := k9.frozen 4
          have y5 : w9.cell? ⟨w.heap.size, 5, none⟩ = some (.bool W.rot) := k9.cell 5
          have f5 : w9.frozen? ⟨w.heap.size, 5, none⟩ = false := k9.frozen 5
          have o10 := (o9.setCell (p := ⟨w.heap.size, 4, none⟩) (hne _ ⟨rfl, rfl⟩) (fun h => h) (.int .i64 0)).setCell (p := ⟨w.heap.size, 5, none⟩) (hne _ ⟨rfl, rfl⟩) (fun h => h) (.bool false)
          have k10 : Blk ((w9.setCell ⟨w.heap.size, 4, none⟩ (.int .i64 0)).setCell ⟨w.heap.size, 5, none⟩ (.bool false)) w.heap.size 55 #[.int .u64 (W.first : Int), .slice A W.recs.length c, .int .i64 (W.recs.length : Int), .slice A7 (W.segs ++ [nx]).length c7, .int .i64 0, .bool false] := (k9.set_ 4 _).set_ 5 _
          have g10 := only_setCell (p := ⟨w.heap.size, 5, none⟩) (only_setCell (p := ⟨w.heap.size, 4, none⟩) g9 (.inl rfl) (.int .i64 0)) (.inl rfl) (.bool false)
          have F10 := Lib.hid (leaf10 (W := W) (nx := nx) HNE.out g5 k10 (o10.slS (S' := fun x => (S x ∧ x < w.heap.size) ∨ w2.heap.size ≤ x) rfl (by rw [List.length_append]; have := HSN.out; simp only [U64E, List.length_singleton]; omega) (fun _ h => h.elim) (fun x h1 => .inr (Nat.le_trans zc (Nat.le_trans z5 h1)))) g10 (R5.r _ _ rfl).caps)
          clear k8 k9 o9 g9 o10 k10 g10 hne R0
          go_wp2_with fail
          go_meet
          case rel => exact F10.out

      case rest =>
        obtain ⟨B2, d2, kB3, hB3, hcp3, g3⟩ := hcut
        obtain ⟨W1, hW1⟩ : ∃ W1, W1 = (if fr = true then beginR W else W) := ⟨_, rfl⟩
        rw [← hW1] at kB3 hB3 hcp3
        have HCP := Lib.hid hcp3
        clear hcp3
        have hrec : W1.recs = W.recs := by rw [hW1]; cases fr <;> rfl
        have hsz : 0 ≤ W1.size ∧ W1.size ≤ 1099511627776 := by rw [hW1]; have := HS0.out; cases fr with | true => exact ⟨Int.le_refl _, by show (0 : Int) ≤ 1099511627776; decide⟩ | false => exact this
        have HW1 := Lib.hid hW1
        have HREC := Lib.hid hrec
        have HSZ := Lib.hid hsz
        clear hW1 hrec hsz
        have z3 := g3.size
        have dX : Below w.heap.size w wc := dC.grown g3 dC.size (fun x e => by have := Option.some.inj e; omega)
        have kR3 : Blk wc (w.heap.size + 1) 55 #[.int .u64 0, .slice none 0 0, .int .i64 0, .slice none 0 0, .int .i64 0, .bool false] := kR2.grown g3 (fun e => by have := Option.some.inj e; omega)
        have hAc : SlS BsE wc (· < w.heap.size) A W1.recs := by rw [HREC.out]; exact hA.old.below dX
        have hzz : w.heap.size + 2 ≤ wc.heap.size := by have := HZ2.out; omega
        have y1 : wc.cell? ⟨w.heap.size, 1, none⟩ = some (.slice A W1.recs.length c) := kB3.cell 1
        have T := copies_rows A W1.recs c _ wc hAc
        clear kR2 g3 kB2 dC hBc hA TN
        go_wp2_with fail
        refine T.mono ?_
        clear T y1
        rintro en w4 ⟨A4, c4, rs4, rfl, hR4, hO4, HM4, b4⟩
        obtain ⟨gb, hgb⟩ : ∃ gb, gb = w.heap.size := ⟨_, rfl⟩
        have HGB := Lib.hid hgb
        have z4 := b4.size
        have k4 : Blk w4 w.heap.size 55 (rlC A c B2 d2 W1) := kB3.below b4 kB3.lt
        have hl4 : Hid (rs4.length = W.recs.length) := by
          show _ = _
          have h := congrArg List.length HM4.out
          rw [List.length_map, HREC.out] at h
          exact h
        clear hgb
        go_wp2_with fail
        go_loopw [8, 9] (fun v8 v9 wr => ∃ (k : Nat) (A8 : Option Addr) (c8 : Nat) (rs : List R3) (sz : Int), k ≤ xs.length ∧ v8 = .slice A8 rs.length c8 ∧ v9 = .int .i64 (k : Int) ∧ Hid (rs.map (·.2.1) = W.recs ++ xs.take k) ∧ Hid (rs.length = W.recs.length + k) ∧ Hid (sz = W1.size + ((dataW (xs.take k)).length : Int)) ∧ RowsIs wc.heap.size wr A8 c8 rs ∧ OwnR wc.heap.size wr rs ∧ Blk wr w.heap.size 55 (rlC A c B2 d2 { W1 with size := sz }) ∧ wc.grownBy wr (some w.heap.size)) (fun _ v9 _ => xs.length - (intOf v9).toNat)
        case atStart => exact ⟨0, A4, c4, rs4, W1.size, Nat.zero_le _, rfl, rfl, by show _ = _; rw [HM4.out, HREC.out, List.take_zero, List.append_nil], hl4.out, by show _ = _; rw [List.take_zero]; exact (Int.add_zero _).symm, hR4, hO4, k4, only_of_below b4 _⟩
        case round =>
          clear hR4 hO4 k4 hl4 HM4 b4 kB3
          obtain ⟨k, A8, c8, rs, sz, hk, rfl, rfl, HM, HL, HSZK, hR, hO, kB, gr⟩ := hrel
          have zr := gr.size
          have dr : Below w.heap.size w wr := dX.grown gr dX.size (fun x e => by have := Option.some.inj e; omega)
          by_cases hlt : k < xs.length
          · have hlti : (k : Int) < (xs.length : Int) := by omega
            obtain ⟨ad, D, cD, rfl, _, e0, hD, aD, _, _⟩ := BsE.at_ (hX.old.below dr) hlt
            have HT : Hid (xs.take (k + 1) = xs.take k ++ [xs[k]]) := List.take_succ_eq_append_getElem hlt
            have hxm : xs[k].length ≤ 1048576 := HRL.out _ (List.mem_append_right _ (List.getElem_mem hlt))
            generalize xs[k] = x at *
            have T := copy_any D x cD wr hD
            go_wp2_with fail
            refine T.mono ?_
            clear T
            rintro en w5 ⟨A5, c5, rfl, o5, b5⟩
            replace o5 : OwnB wr.heap.size w5 A5 x c5 := o5
            have hx5 := o5
            have hcnt : rs.length + 1 ≤ 1000001 := by have := HL.out; have := HRN.out; omega
            have hcnt2 : rs.length + 1 ≤ 1000000 := by have := HL.out; have := HRN.out; omega
            have dl : Below w5.heap.size w5 (w5.alloc (.cells #[.slice A5 x.length c5] 40)) := (Below.refl _ _).alloc (Nat.le_refl _) _
            have b6 := below_step' b5 dl
            have hR6 : RowsIs wc.heap.size (w5.alloc (.cells #[.slice A5 x.length c5] 40)) A8 c8 rs := own_below hR b6
            have hO6 : OwnR wc.heap.size (w5.alloc (.cells #[.slice A5 x.length c5] 40)) (rs ++ [(A5, x, c5)]) := fun r hr => by
              rcases List.mem_append.1 hr with hr | hr
              · exact (hO r hr).below b6
              · rw [List.mem_singleton.1 hr]; exact (o5.below dl).base zr
            have kB6 : Blk (w5.alloc (.cells #[.slice A5 x.length c5] 40)) w.heap.size 55 (rlC A c B2 d2 { W1 with size := sz }) := kB.below b6 kB.lt
            have g6 : wc.grownBy (w5.alloc (.cells #[.slice A5 x.length c5] 40)) (some w.heap.size) := ⟨b6.os.trans gr.os, b6.tape.trans gr.tape, b6.output.trans gr.output, Nat.le_trans zr b6.size, fun j hj hr => (b6.block j (Nat.lt_of_lt_of_le hj zr)).trans (gr.block j hj hr)⟩
            have hrN := Reads.newK w5 [.slice A5 x.length c5] 40
            have z6 : wc.heap.size ≤ (w5.alloc (.cells #[.slice A5 x.length c5] 40)).heap.size := g6.size
            have hX6 := (hX.old.below dr).below b6
            have HK8 := Lib.hid (fun (A9 : Option Addr) (c9 : Nat) (rs9 : List R3) (w9 : World) (H9 : Hid (rs9 = rs ++ [(A5, x, c5)])) (o9 : RowsIs wc.heap.size w9 A9 c9 rs9) (g9 : (w5.alloc (.cells #[.slice A5 x.length c5] 40)).grownBy w9 (Value.slice A8 rs.length c8).ownBlock) => app_leaf (by omega) hR6 hO6 kB6 g6 hX6 H9 o9 g9)
            clear hR hO kB gr hX6 kB6 hO6 o5 hx5 b5 dl b6 g6
            go_upto_region 14 with (at_builtin; refine wpList_appRG wc.heap.size _ rfl (.tmp 64) (.tmp 70) rfl A8 rs c8 rfl hR6 _ [(A5, x, c5)] 1 rfl _ hrN hcnt2 z6 ?_; intro A9 c9 rs9 w9 H9 o9 g9; obtain ⟨hO9, kB9, G9, hX9⟩ := HK8.out A9 c9 rs9 w9 H9 o9 g9)
            clear HK8 hR6 hrN z6
            have z9 := G9.size
            have kS : Below w9.heap.size w9 w9.drew := (Below.refl _ _).drew
            have HBK : Hid (∀ Y, Below w9.heap.size w9 Y → Blk Y w.heap.size 55 (rlC A c B2 d2 { W1 with size := sz })) := fun Y hY => kB9.below hY kB9.lt
            obtain ⟨ad9, D9, cD9, e9, HXC⟩ : ∃ ad9 D9 cD9, (some ad : Option Addr) = some ad9 ∧ ∀ Y, Below w9.heap.size w9 Y → Y.cell? (ad9.add k) = some (.slice D9 x.length cD9) := by
              obtain ⟨ad9, D9, cD9, e9, _, e0', _⟩ := BsE.at_ hX9 hlt
              refine ⟨ad9, D9, cD9, e9, fun Y hY => ?_⟩
              have h1 := hY.cell (p := ad9.add k) (by
                obtain ⟨ad8, _, _, e8, hlt8, _⟩ := BsE.at_ hX9 hlt
                obtain rfl := Option.some.inj (e9.symm.trans e8)
                rw [block_of_add]; exact hlt8)
              rw [h1, e0']
              exact congrArg (fun y : List UInt8 => some (Value.slice D9 y.length cD9)) (by have h := HT.out; exact xk_of hlt h)
            obtain rfl := Option.some.inj e9
            have HXC := Lib.hid HXC
            have hxl : x.length ≤ 140737488355328 := Nat.le_trans hxm (by decide)
            have TS := Lib.hid (fun (Y : World) => rsize_any D9 x.length cD9 Y hxl)
            have hszk : 0 ≤ sz ∧ sz ≤ 2199023255552 := by
              have h1 := HSZK.out
              have h2 := HSZ.out
              have h3 : (dataW (xs.take k)).length ≤ (dataW xs).length := by
                have h4 : dataW xs = dataW (xs.take k) ++ dataW (xs.drop k) := by rw [← data_append, List.take_append_drop]
                rw [h4, List.length_append]; exact Nat.le_add_right _ _
              have h5 := HXL.out
              omega
            have HS2 : Hid ((wrap64 (sz + ((x.length : Int) + 8))) = W1.size + ((dataW (xs.take (k + 1))).length : Int)) := by
              show _ = _
              rw [wrap_sz hszk hxm, HSZK.out, HT.out, data_append, List.length_append, data_len [x]]
              simp
              omega
            have hk9 : k < 1000000 := Nat.lt_of_lt_of_le hlt (Nat.le_trans (Nat.le_add_left _ _) HRN.out)
            clear hszk hxl kB9 hX9 e9
            refine wp_region_noPanic ?_
            refine wp_region_heldK (fun Y => Below w9.heap.size w9 Y) 9 (by kernel_rfl) kS (fun hH => ?_)
            generalize w9.drew = u0 at *
            refine wpAnyK_take (i := 0) (v := ?_) rfl (by kernel_rfl) (by kernel_rfl) (by kernel_rfl) (by kernel_rfl) (fun _ _ _ h => h) (Or.inl ⟨by rfl, ?_⟩) hH ?_
            case refine_2 => intro w hSw; go_simp; try with_reducible rfl
            try simp only [Z1, Z2, Z4, Z5, Z6, Z7]
            refine wpAnyK_take (i := 1) (v := ?_) rfl (by kernel_rfl) (by kernel_rfl) (by kernel_rfl) (by kernel_rfl) (fun _ _ _ h => h) (Or.inl ⟨by rfl, ?_⟩) hH ?_
            case refine_2 => intro w hSw; have h1 := HBK.out w hSw; have n4 : w.cell? ⟨_, 4, none⟩ = some (.int .i64 sz) := Blk.cell h1 4; clear h1 hSw; go_simp; try with_reducible rfl
            try simp only [Z1, Z2, Z3, Z4, Z5, Z6, Z7]
            refine wpAnyK_take (i := 2) (v := ?_) rfl (by kernel_rfl) (by kernel_rfl) (by kernel_rfl) (by kernel_rfl) (fun _ _ _ h => h) (Or.inl ⟨by rfl, ?_⟩) hH ?_
            case refine_2 => intro w hSw; go_simp; try with_reducible rfl
            try simp only [Z1, Z2, Z3, Z4, Z5, Z6, Z7]
            refine wpAnyK_take (i := 3) (v := ?_) rfl (by kernel_rfl) (by kernel_rfl) (by kernel_rfl) (by kernel_rfl) (fun _ _ _ h => h) (Or.inl ⟨by rfl, ?_⟩) hH ?_
            case refine_2 => intro w hSw; go_simp; try with_reducible rfl
            try simp only [Z1, Z2, Z3, Z4, Z5, Z6, Z7]
            refine wpAnyK_take (i := 4) (v := ?_) rfl (by kernel_rfl) (by kernel_rfl) (by kernel_rfl) (by kernel_rfl) (fun _ _ _ h => h) (Or.inl ⟨by rfl, ?_⟩) hH ?_
            case refine_2 => intro w hSw; go_simp; try with_reducible rfl
            try simp only [Z1, Z2, Z3, Z4, Z5, Z6, Z7]
            refine wpAnyK_take (i := 5) (v := ?_) rfl (by kernel_rfl) (by kernel_rfl) (by kernel_rfl) (by kernel_rfl) (fun _ _ _ h => h) (Or.inl ⟨by rfl, ?_⟩) hH ?_
            case refine_2 => intro w hSw; have h1 := HXC.out w hSw; clear hSw; go_simp; try with_reducible rfl
            try simp only [Z1, Z2, Z3, Z4, Z5, Z6, Z7]
            refine wpAnyK_ready (rs := [6]) (by kernel_rfl) (by simp) ?_
            refine AllReadyK.cons rfl (by kernel_rfl) (fun K hK => ?_) AllReadyK.nil
            go_simp
            refine (TS.out u0).mono ?_
            rintro en wz ⟨rfl, hwz⟩
            obtain rfl : u0 = wz := hwz.symm
            refine hK.out _ _ kS ?_
            clear hK K
            try dsimp only
            try simp only [Z1, Z2, Z3, Z4, Z5, Z6, Z7]
            refine wpAnyK_take (i := 7) (v := ?_) rfl (by kernel_rfl) (by kernel_rfl) (by kernel_rfl) (by kernel_rfl) (fun _ _ _ h => h) (Or.inl ⟨by rfl, ?_⟩) hH ?_
            case refine_2 => intro w hSw; go_simp; try with_reducible rfl
            try simp only [Z1, Z2, Z3, Z4, Z5, Z6, Z7]
            refine wpAnyK_take (i := 8) (v := ?_) rfl (by kernel_rfl) (by kernel_rfl) (by kernel_rfl) (by kernel_rfl) (fun _ _ _ h => h) (Or.inl ⟨by rfl, ?_⟩) hH ?_
            case refine_2 => intro w hSw; go_simp; try with_reducible rfl
            try simp only [Z1, Z2, Z3, Z4, Z5, Z6, Z7]
            refine wpAnyK_ready (rs := [9]) (by kernel_rfl) (by simp) ?_
            refine AllReadyK.turn rfl (fun K hK => ?_) AllReadyK.nil
            have k8 := HBK.out u0 kS
            have y4 : u0.cell? ⟨w.heap.size, 4, none⟩ = some (.int .i64 sz) := k8.cell 4
            have f4 : u0.frozen? ⟨w.heap.size, 4, none⟩ = false := k8.frozen 4
            go_simp
            clear y4 f4
            refine hK.out _ _ ?_
            clear hK K hH
            try simp only [Z1, Z2, Z3, Z4, Z5, Z6, Z7]
            refine wpAny_done (by kernel_rfl) ?_ _
            refine NoPanic.normal ?_
            have LF := sz_leaf (by omega) (own_below o9 kS) (hO9.below kS) k8 G9 kS (.int .i64 (wrap64 (sz + ((x.length : Int) + 8))))
            have HLF := Lib.hid LF
            have kB9 : Blk (u0.setCell ⟨w.heap.size, 4, none⟩ (.int .i64 (wrap64 (sz + ((x.length : Int) + 8))))) w.heap.size 55 (rlC A c B2 d2 { W1 with size := (wrap64 (sz + ((x.length : Int) + 8))) }) := k8.set_ 4 _
            have HL2 : Hid (rs9.length = W.recs.length + (k + 1)) := by show _ = _; rw [H9.out, List.length_append, HL.out, Nat.add_assoc]; rfl
            have HM2 : Hid (rs9.map (·.2.1) = W.recs ++ xs.take (k + 1)) := by show _ = _; rw [H9.out, List.map_append, HM.out, HT.out, List.append_assoc]; rfl
            have HMS : Hid (xs.length - (k + 1) < xs.length - k) := by show _ < _; omega
            clear LF k8 o9 hO9 G9 kS HBK HXC TS HSZK HM HL HT H9
            go_wp2_with fail
            have hvw : wrap64 ((k : Int) + 1) = ((k + 1 : Nat) : Int) := by unfold wrap64; omega
            go_roundw
            case rel => exact ⟨k + 1, A9, c9, rs9, _, hlt, rfl, by first | rfl | exact congrArg (Value.int .i64) hvw, HM2.out, HL2.out, HS2.out, HLF.out.1, HLF.out.2.1, kB9, HLF.out.2.2⟩
            case measure => first | exact HMS.out | (rw [hvw]; exact HMS.out)

          · obtain rfl : k = xs.length := by omega
            have hlti : ¬ (xs.length : Int) < (xs.length : Int) := by omega
            have HEND : Hid (appR W most xs = { W1 with recs := W.recs ++ xs, size := sz }) := by
              show _ = _
              unfold appR
              rw [if_neg HX.out, ← HFR.out, ← HW1.out, HSZK.out, List.take_length]
            have HM2 : Hid (rs.map (·.2.1) = W.recs ++ xs) := by show _ = _; rw [HM.out, List.take_length]
            have hl2 : rs.length = (W.recs ++ xs).length := by rw [HL.out, List.length_append]
            have k10 : Blk (wr.setCell ⟨w.heap.size, 1, none⟩ (.slice A8 rs.length c8)) w.heap.size 55 (rlC A8 c8 B2 d2 { W1 with recs := W.recs ++ xs, size := sz }) := by
              have h := kB.set_ 1 (.slice A8 rs.length c8)
              unfold rlC at h ⊢
              rw [← hl2]
              exact h
            have HCR : Hid ((W.recs ++ xs).length ≤ c8 ∧ c8 ≤ 9223372036854775807) := by rw [← hl2]; exact own_caps hR
            have y1 : wr.cell? ⟨w.heap.size, 1, none⟩ = some (.slice A W1.recs.length c) := kB.cell 1
            have f1 : wr.frozen? ⟨w.heap.size, 1, none⟩ = false := kB.frozen 1
            have g10 : wr.grownBy (wr.setCell ⟨w.heap.size, 1, none⟩ (.slice A8 rs.length c8)) (some w.heap.size) := only_setCell (only_of_below (Below.refl _ _) _) (.inl rfl) _
            have hRS : SlS BsE wr (fun x => wc.heap.size ≤ x) A8 (W.recs ++ xs) := by
              have h := hO.slS hR (fun r hr => Nat.le_trans (HRL.out r.2.1 (by rw [← HM2.out]; exact List.mem_map_of_mem (f := fun r : R3 => r.2.1) hr)) (by decide)) (by rw [hl2, List.length_append]; have := HRN.out; omega)
              rwa [HM2.out] at h
            clear HSZK HM HL hO kB hlt hl2
            go_upto_region 16 with fail
            generalize (wr.setCell ⟨w.heap.size, 1, none⟩ (.slice A8 rs.length c8)) = w10 at *
            have kR10 : Blk w10 (w.heap.size + 1) 55 #[.int .u64 0, .slice none 0 0, .int .i64 0, .slice none 0 0, .int .i64 0, .bool false] := (kR3.grown gr (fun e => by have := Option.some.inj e; omega)).grown g10 (fun e => by have := Option.some.inj e; omega)
            clear y1 f1 kR3
            go_wp2_with (first | ((with_reducible refine wpList_load_blk rfl 55 (.tmp 3) rfl w.heap.size ?_ 55 _ _ k10 Try.underlying55 ?_ Try.size_RL ?_ ?_); rfl; rfl; rfl) | ((with_reducible refine wpList_store_blk rfl 55 (.tmp 6) (.tmp 83) rfl (w.heap.size + 1) 55 _ (rlC A8 c8 B2 d2 { W1 with recs := W.recs ++ xs, size := sz }) ?_ ?_ kR10 Try.size_RL ?_ ?_ ?_ ?_); rfl; rfl; rfl; rfl; (simp [rlC, Value.oneCell']); intro w11 k11 g11 z11))
            rw [HEND.out]
            have b11 : Below w.heap.size w w11 := (dr.grown g10 dr.size (fun x e => by have := Option.some.inj e; omega)).grown g11 (Nat.le_trans dr.size g10.size) (fun x e => by have := Option.some.inj e; omega)
            refine bodyPost_ret (results_cell rfl rfl k11 Try.underlying55 rfl Try.size_RL) rfl ⟨A8, c8, B2, d2, rfl, ?_, ?_, ⟨HCR.out, HCP.out⟩, b11⟩
            · have h := hRS.same (w' := w11) ⟨Nat.le_trans g10.size g11.size, fun x h1 h2 => ?_⟩
              · exact h.mono fun x _ h3 => .inr (by have h4 : wc.heap.size ≤ x := h3; omega)
              · exact (g11.block x (Nat.lt_of_lt_of_le h2 g10.size) (fun e => by have := Option.some.inj e; omega)).trans (g10.block x h2 (fun e => by have := Option.some.inj e; omega))
            · have h := hB3.same (w' := w11) ⟨Nat.le_trans zr (Nat.le_trans g10.size g11.size), fun x h1 h2 => ?_⟩
              · exact h.mono fun x _ h3 => h3.elim (fun h => .inl h.1) (fun h => .inr (by have := HZ2.out; omega))
              · have n1 : x ≠ w.heap.size := fun e => by have := HZ2.out; rcases h1 with h1 | h1; have := h1.2; omega; omega
                have n2 : x ≠ w.heap.size + 1 := fun e => by have := HZ2.out; rcases h1 with h1 | h1; have := h1.2; omega; omega
                exact ((g11.block x (Nat.lt_of_lt_of_le h2 (Nat.le_trans zr g10.size)) (fun e => n2 (Option.some.inj e))).trans (g10.block x (Nat.lt_of_lt_of_le h2 zr) (fun e => n1 (Option.some.inj e)))).trans (gr.block x h2 (fun e => n1 (Option.some.inj e)))
end Go.Proofs.Ytbldfgpnghoigaa
