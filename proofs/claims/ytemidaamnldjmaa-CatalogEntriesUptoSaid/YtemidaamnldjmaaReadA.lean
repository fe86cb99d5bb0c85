/- Type assertions that panic; the catalog's reader of values: what it takes, and where it panics: cell.MustInt, MustText, reader.next, int, text, truth, bytes. -/
import Derived.Test.YtemidaamnldjmaaReadL
import Derived.Test.YtemidaamnldjmaaAnyC
import Derived.Test.YtemidaamnldjmaaWordC
import Derived.Test.YtemidaamnldjmaaBlk
import Derived.Test.YtemidaamnldjmaaBlkS
import Derived.Test.YtemidaamnldjmaaCatE
import Derived.Laws.Panics
import Derived.Maps.Range
namespace Go.Proofs.Ytemidaamnldjmaa
open Go.RowKit

/-- a panic that nobody has caught -/
def Pan (en : Ending) : Prop := ∃ u pv, en = .panicked [{ v := .iface u pv, recovered := false }]
theorem Try.elemTA (w : World) : Sem.run Try.prog (elemOf 15) w = .ok 120 w := by kernel_rfl

theorem Try.tqFI (t : TypeId) (ht : t ≠ 2) (n : Value) (w : World) : ∃ u pv w', (Instr.typeAssert (.iface t n) 20 2 false).run Try.prog w = .halt (.panic (.iface u pv)) w' ∧ Below w.heap.size w w' := by
  simp [Instr.typeAssert, run_underlying Try.underlying2, ht, runtimePanic, goPanic, go_sem]
  rw [Try.elemTA]
  exact ⟨_, _, _, rfl, (Below.refl _ _).alloc (Nat.le_refl _) _⟩
theorem Try.tqNI (w : World) : ∃ u pv w', (Instr.typeAssert .nilIface 20 2 false).run Try.prog w = .halt (.panic (.iface u pv)) w' ∧ Below w.heap.size w w' := by
  simp [Instr.typeAssert, run_underlying Try.underlying2, runtimePanic, goPanic, go_sem]
  rw [Try.elemTA]
  exact ⟨_, _, _, rfl, (Below.refl _ _).alloc (Nat.le_refl _) _⟩
theorem Try.tqTI (n : Value) (w : World) : (Instr.typeAssert (.iface 2 n) 20 2 false).run Try.prog w = .ok n w := by kernel_rfl

theorem Try.tqFS (t : TypeId) (ht : t ≠ 9) (n : Value) (w : World) : ∃ u pv w', (Instr.typeAssert (.iface t n) 20 9 false).run Try.prog w = .halt (.panic (.iface u pv)) w' ∧ Below w.heap.size w w' := by
  simp [Instr.typeAssert, run_underlying Try.underlying9, ht, runtimePanic, goPanic, go_sem]
  rw [Try.elemTA]
  exact ⟨_, _, _, rfl, (Below.refl _ _).alloc (Nat.le_refl _) _⟩
theorem Try.tqNS (w : World) : ∃ u pv w', (Instr.typeAssert .nilIface 20 9 false).run Try.prog w = .halt (.panic (.iface u pv)) w' ∧ Below w.heap.size w w' := by
  simp [Instr.typeAssert, run_underlying Try.underlying9, runtimePanic, goPanic, go_sem]
  rw [Try.elemTA]
  exact ⟨_, _, _, rfl, (Below.refl _ _).alloc (Nat.le_refl _) _⟩
theorem Try.tqTS (n : Value) (w : World) : (Instr.typeAssert (.iface 9 n) 20 9 false).run Try.prog w = .ok n w := by kernel_rfl

theorem Try.tqFB (t : TypeId) (ht : t ≠ 4) (n : Value) (w : World) : ∃ u pv w', (Instr.typeAssert (.iface t n) 20 4 false).run Try.prog w = .halt (.panic (.iface u pv)) w' ∧ Below w.heap.size w w' := by
  simp [Instr.typeAssert, run_underlying Try.underlying4, ht, runtimePanic, goPanic, go_sem]
  rw [Try.elemTA]
  exact ⟨_, _, _, rfl, (Below.refl _ _).alloc (Nat.le_refl _) _⟩
theorem Try.tqNB (w : World) : ∃ u pv w', (Instr.typeAssert .nilIface 20 4 false).run Try.prog w = .halt (.panic (.iface u pv)) w' ∧ Below w.heap.size w w' := by
  simp [Instr.typeAssert, run_underlying Try.underlying4, runtimePanic, goPanic, go_sem]
  rw [Try.elemTA]
  exact ⟨_, _, _, rfl, (Below.refl _ _).alloc (Nat.le_refl _) _⟩
theorem Try.tqTB (n : Value) (w : World) : (Instr.typeAssert (.iface 4 n) 20 4 false).run Try.prog w = .ok n w := by kernel_rfl

theorem Try.tqFL (t : TypeId) (ht : t ≠ 29) (n : Value) (w : World) : ∃ u pv w', (Instr.typeAssert (.iface t n) 20 29 false).run Try.prog w = .halt (.panic (.iface u pv)) w' ∧ Below w.heap.size w w' := by
  simp [Instr.typeAssert, run_underlying Try.underlying29, ht, runtimePanic, goPanic, go_sem]
  rw [Try.elemTA]
  exact ⟨_, _, _, rfl, (Below.refl _ _).alloc (Nat.le_refl _) _⟩
theorem Try.tqNL (w : World) : ∃ u pv w', (Instr.typeAssert .nilIface 20 29 false).run Try.prog w = .halt (.panic (.iface u pv)) w' ∧ Below w.heap.size w w' := by
  simp [Instr.typeAssert, run_underlying Try.underlying29, runtimePanic, goPanic, go_sem]
  rw [Try.elemTA]
  exact ⟨_, _, _, rfl, (Below.refl _ _).alloc (Nat.le_refl _) _⟩
theorem Try.tqTL (n : Value) (w : World) : (Instr.typeAssert (.iface 29 n) 20 29 false).run Try.prog w = .ok n w := by kernel_rfl

theorem taI_any (v : Value) (x : LVal) (S : Nat → Prop) (w : World) (l : List LVal) (h : AnyV w S v x) : (∃ n : Int, rdI (x :: l) = some (n, l) ∧ (Instr.typeAssert v 20 2 false).run Try.prog w = .ok (.int .i64 n) w) ∨ (rdI (x :: l) = none ∧ ∃ u pv w', (Instr.typeAssert v 20 2 false).run Try.prog w = .halt (.panic (.iface u pv)) w' ∧ Below w.heap.size w w') := by
  cases x with
  | int n =>
    obtain rfl : v = .iface 2 (.int .i64 n) := h
    exact .inl ⟨n, rfl, Try.tqTI _ w⟩
  | null =>
    obtain rfl : v = .nilIface := h
    exact .inr ⟨rfl, Try.tqNI w⟩
  | bool b =>
    obtain rfl : v = .iface 4 (.bool b) := h
    exact .inr ⟨rfl, Try.tqFI _ (by decide) _ w⟩
  | text b =>
    obtain ⟨rfl, _⟩ := h
    exact .inr ⟨rfl, Try.tqFI _ (by decide) _ w⟩
  | bytes b =>
    obtain ⟨D, c, rfl, _⟩ := h
    exact .inr ⟨rfl, Try.tqFI _ (by decide) _ w⟩
  | other b =>
    obtain rfl : v = .iface 3 (.int .i64 b) := h
    exact .inr ⟨rfl, Try.tqFI _ (by decide) _ w⟩

theorem taS_any (v : Value) (x : LVal) (S : Nat → Prop) (w : World) (l : List LVal) (h : AnyV w S v x) : (∃ n : ByteArray, rdT (x :: l) = some (n, l) ∧ (Instr.typeAssert v 20 9 false).run Try.prog w = .ok (.string n) w ∧ n.size ≤ 140737488351232) ∨ (rdT (x :: l) = none ∧ ∃ u pv w', (Instr.typeAssert v 20 9 false).run Try.prog w = .halt (.panic (.iface u pv)) w' ∧ Below w.heap.size w w') := by
  cases x with
  | text n =>
    obtain ⟨rfl, hs⟩ := h
    exact .inl ⟨n, rfl, Try.tqTS _ w, hs⟩
  | null =>
    obtain rfl : v = .nilIface := h
    exact .inr ⟨rfl, Try.tqNS w⟩
  | bool b =>
    obtain rfl : v = .iface 4 (.bool b) := h
    exact .inr ⟨rfl, Try.tqFS _ (by decide) _ w⟩
  | int b =>
    obtain rfl : v = .iface 2 (.int .i64 b) := h
    exact .inr ⟨rfl, Try.tqFS _ (by decide) _ w⟩
  | bytes b =>
    obtain ⟨D, c, rfl, _⟩ := h
    exact .inr ⟨rfl, Try.tqFS _ (by decide) _ w⟩
  | other b =>
    obtain rfl : v = .iface 3 (.int .i64 b) := h
    exact .inr ⟨rfl, Try.tqFS _ (by decide) _ w⟩

theorem taB_any (v : Value) (x : LVal) (S : Nat → Prop) (w : World) (l : List LVal) (h : AnyV w S v x) : (∃ n : Bool, rdB (x :: l) = some (n, l) ∧ (Instr.typeAssert v 20 4 false).run Try.prog w = .ok (.bool n) w) ∨ (rdB (x :: l) = none ∧ ∃ u pv w', (Instr.typeAssert v 20 4 false).run Try.prog w = .halt (.panic (.iface u pv)) w' ∧ Below w.heap.size w w') := by
  cases x with
  | bool n =>
    obtain rfl : v = .iface 4 (.bool n) := h
    exact .inl ⟨n, rfl, Try.tqTB _ w⟩
  | null =>
    obtain rfl : v = .nilIface := h
    exact .inr ⟨rfl, Try.tqNB w⟩
  | int b =>
    obtain rfl : v = .iface 2 (.int .i64 b) := h
    exact .inr ⟨rfl, Try.tqFB _ (by decide) _ w⟩
  | text b =>
    obtain ⟨rfl, _⟩ := h
    exact .inr ⟨rfl, Try.tqFB _ (by decide) _ w⟩
  | bytes b =>
    obtain ⟨D, c, rfl, _⟩ := h
    exact .inr ⟨rfl, Try.tqFB _ (by decide) _ w⟩
  | other b =>
    obtain rfl : v = .iface 3 (.int .i64 b) := h
    exact .inr ⟨rfl, Try.tqFB _ (by decide) _ w⟩

theorem taL_any (v : Value) (x : LVal) (S : Nat → Prop) (w : World) (l : List LVal) (h : AnyV w S v x) : (∃ n D c, rdY (x :: l) = some (n, l) ∧ (Instr.typeAssert v 20 29 false).run Try.prog w = .ok (.slice D n.length c) w ∧ Bs w D n ∧ At S D n.length ∧ n.length ≤ c ∧ c ≤ 9223372036854775807) ∨ (rdY (x :: l) = none ∧ ∃ u pv w', (Instr.typeAssert v 20 29 false).run Try.prog w = .halt (.panic (.iface u pv)) w' ∧ Below w.heap.size w w') := by
  cases x with
  | bytes n =>
    obtain ⟨D, c, rfl, h1, h2, h3⟩ := h
    exact .inl ⟨n, D, c, rfl, Try.tqTL _ w, h1, h2, h3⟩
  | null =>
    obtain rfl : v = .nilIface := h
    exact .inr ⟨rfl, Try.tqNL w⟩
  | bool b =>
    obtain rfl : v = .iface 4 (.bool b) := h
    exact .inr ⟨rfl, Try.tqFL _ (by decide) _ w⟩
  | int b =>
    obtain rfl : v = .iface 2 (.int .i64 b) := h
    exact .inr ⟨rfl, Try.tqFL _ (by decide) _ w⟩
  | text b =>
    obtain ⟨rfl, _⟩ := h
    exact .inr ⟨rfl, Try.tqFL _ (by decide) _ w⟩
  | other b =>
    obtain rfl : v = .iface 3 (.int .i64 b) := h
    exact .inr ⟨rfl, Try.tqFL _ (by decide) _ w⟩

/-- a reader in block g, before which the values l lie, in blocks of S -/
def Rd (S : Nat → Prop) (w : World) (g : Nat) (l : List LVal) : Prop := ∃ A c, Blk w g 69 #[.slice A l.length c] ∧ SlS AnyE w S A l ∧ (l.length ≤ c ∧ c ≤ 9223372036854775807) ∧ (∀ x ∈ l, x.wfv) ∧ ∀ b, S b → b ≠ g
section
variable {S : Nat → Prop} {w w' : World} {g : Nat} {l : List LVal}
theorem Rd.wf (h : Rd S w g l) : ∀ x ∈ l, x.wfv := by obtain ⟨A, c, _, _, _, h, _⟩ := h; exact h
theorem Rd.ne (h : Rd S w g l) : ∀ b, S b → b ≠ g := by obtain ⟨A, c, _, _, _, _, h⟩ := h; exact h
theorem Rd.lt (h : Rd S w g l) : g < w.heap.size := by obtain ⟨A, c, k, _⟩ := h; exact k.lt
theorem Rd.below (h : Rd S w g l) (hb : Below w.heap.size w w') : Rd S w' g l := by
  obtain ⟨A, c, k, s, h1⟩ := h
  exact ⟨A, c, k.below hb k.lt, s.below hb, h1⟩
theorem Rd.drewN (h : Rd S w g l) (n : Nat) : Rd S (w.drewN n) g l := h.below (below_drewN (Below.refl _ _) n)
/-- what lies before it lies in old blocks -/
theorem Rd.old (h : Rd S w g l) : Rd (fun b => S b ∧ b < w.heap.size) w g l := by
  obtain ⟨A, c, k, s, h1, h2, h3⟩ := h
  exact ⟨A, c, k, s.mono fun b hl hs => ⟨hs, hl⟩, h1, h2, fun b hs => h3 b hs.1⟩
theorem Rd.mono {S' : Nat → Prop} (h : Rd S w g l) (hs : ∀ b, b < w.heap.size → S b → S' b) (hn : ∀ b, S' b → b ≠ g) : Rd S' w g l := by
  obtain ⟨A, c, k, s, h1, h2, h3⟩ := h
  exact ⟨A, c, k, s.mono hs, h1, h2, hn⟩
/-- another block is turned -/
theorem Rd.grown {row : Option Nat} (h : Rd S w g l) (hg : w.grownBy w' row) (hn : some g ≠ row) (hs : ∀ b, S b → row ≠ some b) : Rd S w' g l := by
  obtain ⟨A, c, k, s, h1⟩ := h
  exact ⟨A, c, k.grown hg hn, s.same (.of_grown hg fun b hb => hs b hb), h1⟩
theorem AnyV.ne {v : Value} {x : LVal} (h : AnyV w S v x) (hS : ∀ b, S b → b ≠ g) (hg : w.grownBy w' (some g)) : AnyV w' S v x :=
  h.same (.of_grown hg fun b hb e => hS b hb (Option.some.inj e).symm)
end
/-- the next value is taken -/
def RetNext (S : Nat → Prop) (g : Nat) (x : LVal) (l : List LVal) (w : World) (en : Ending) (w' : World) : Prop :=
  ∃ v, en = .returned v ∧ AnyV w' S v x ∧ Rd S w' g l ∧ w.grownBy w' (some g)
set_option maxRecDepth 100000 in
set_option maxHeartbeats 1000000 in
theorem rnext_ok (S : Nat → Prop) (g : Nat) (x : LVal) (l : List LVal) (w : World) (h : Rd S w g (x :: l)) : Calls Try.prog 59 #[.pointer (some ⟨g, 0, none⟩)] w (RetNext S g x l w) := by
  obtain ⟨A, c, k, s, hc, hwf, hS⟩ := h
  have HSN := Lib.hid hS
  clear hS
  have HWF : Hid (∀ y ∈ l, y.wfv) := fun y hy => hwf y (List.mem_cons_of_mem _ hy)
  clear hwf
  have hlt : 0 < (x :: l).length := by rw [List.length_cons]; omega
  have sd := SlS.drop s (k := 1) (cap := c) hlt hc.1
  obtain ⟨ad, v, rfl, hb, f0, hv⟩ := AnyE.at_ s hlt
  rw [show ad.add 0 = ad by simp [Addr.add]] at f0
  replace hv : AnyV w S v x := hv
  have kq : Blk w g 69 #[.slice (some ad) (l.length + 1) c] := k
  replace sd : SlS AnyE w S (if c = 1 then some ad else (some ad : Option Addr).map (·.add (1 * 1))) l := sd
  replace hc : l.length + 1 ≤ c ∧ c ≤ 9223372036854775807 := hc
  have q0 : w.cell? ⟨g, 0, none⟩ = some (.slice (some ad) (l.length + 1) c) := kq.cell 0
  have fz := kq.frozen 0
  have hset : ∀ u, w.grownBy (w.setCell ⟨g, 0, none⟩ u) (some g) := fun u => only_setCell (World.grownBy.refl w _) (p := ⟨g, 0, none⟩) (.inl rfl) _
  have hkset : ∀ u, Blk (w.setCell ⟨g, 0, none⟩ u) g 69 #[u] := fun u => kq.set_ 0 u
  have HS := Lib.hid hset
  have HK := Lib.hid hkset
  have i1 : (1 : Int) ≤ ((l.length + 1 : Nat) : Int) := by omega
  have i2 : ((l.length + 1 : Nat) : Int) - 1 = (l.length : Int) := by omega
  clear hset hkset k s kq hlt
  by_cases h1 : c = 1
  · subst h1
    rw [if_pos rfl] at sd
    obtain rfl : l = [] := List.length_eq_zero_iff.1 (by omega)
    go_enter Try.func59, Try.ntmps59
    go_wp2_with fail
    go_ret
    exact ⟨v, rfl, hv.ne (fun b hb => HSN.out b hb) (HS.out _), ⟨some ad, 0, HK.out _, sd.same (.of_grown (HS.out _) fun b hb e => HSN.out b hb (Option.some.inj e).symm), ⟨Nat.le_refl 0, by decide⟩, fun y hy => HWF.out y hy, fun b hb => HSN.out b hb⟩, HS.out _⟩
  · rw [if_neg h1] at sd
    go_enter Try.func59, Try.ntmps59
    go_wp2_with fail
    go_ret
    exact ⟨v, rfl, hv.ne (fun b hb => HSN.out b hb) (HS.out _), ⟨_, c - 1, HK.out _, sd.same (.of_grown (HS.out _) fun b hb e => HSN.out b hb (Option.some.inj e).symm), ⟨by omega, by omega⟩, fun y hy => HWF.out y hy, fun b hb => HSN.out b hb⟩, HS.out _⟩
set_option maxRecDepth 100000 in
theorem idx_no (A : Option Addr) (c : Nat) (w : World) : ∃ s, (Instr.indexAt 64 (.slice A 0 c) (.int .i64 0)).run Try.prog w = .halt (.panic (boundsValue Try.prog 0 0 s 0)) w.drew := by
  have bp : ∀ α : Type, ∃ s, (boundsPanic .i64 0 0 .index : Sem α).run Try.prog w = .halt (.panic (boundsValue Try.prog 0 0 s 0)) w.drew := by
    intro α
    unfold boundsPanic boundsValue
    simp [runtimePanic, goPanic, go_sem]
    exact ⟨by decide, rfl⟩
  cases A with
  | some a =>
    rw [run_indexAt_slice (h := Try.underlying64), if_neg (by omega)]
    exact bp _
  | none =>
    have e : (Instr.indexAt 64 (.slice none 0 c) (.int .i64 0)).run Try.prog w = (boundsPanic .i64 0 0 .index).run Try.prog w := by
      simp [Instr.indexAt, run_underlying Try.underlying64, asIntOf]
    rw [e]
    exact bp _
set_option maxRecDepth 100000 in
theorem rnext_no (S : Nat → Prop) (g : Nat) (w : World) (h : Rd S w g []) : Calls Try.prog 59 #[.pointer (some ⟨g, 0, none⟩)] w fun en w' => Pan en ∧ w' = w.drew := by
  obtain ⟨A, c, k, s, hc, _⟩ := h
  have q0 : w.cell? ⟨g, 0, none⟩ = some (.slice A 0 c) := k.cell 0
  obtain ⟨sg, hp⟩ := idx_no A c w
  go_enter Try.func59, Try.ntmps59
  go_wp2_with fail
  exact ⟨rfl, ⟨_, _, rfl⟩, rfl⟩
set_option maxRecDepth 100000 in
theorem mustint_ok (v : Value) (n : Int) (w : World) (h : (Instr.typeAssert v 20 2 false).run Try.prog w = .ok (.int .i64 n) w) : Calls Try.prog 58 #[v] w fun en w' => en = .returned (.int .i64 n) ∧ w' = w := by
  go_enter Try.func58, Try.ntmps58
  go_wp2_with fail
  go_ret
  exact ⟨rfl, rfl⟩
set_option maxRecDepth 100000 in
theorem mustint_no (v pv : Value) (t : TypeId) (w w' : World) (h : (Instr.typeAssert v 20 2 false).run Try.prog w = .halt (.panic (.iface t pv)) w') : Calls Try.prog 58 #[v] w fun en w2 => Pan en ∧ w2 = w' := by
  go_enter Try.func58, Try.ntmps58
  go_wp2_with fail
  exact ⟨rfl, ⟨_, _, rfl⟩, rfl⟩
set_option maxRecDepth 100000 in
theorem musttext_ok (v : Value) (n : ByteArray) (w : World) (h : (Instr.typeAssert v 20 9 false).run Try.prog w = .ok (.string n) w) : Calls Try.prog 60 #[v] w fun en w' => en = .returned (.string n) ∧ w' = w := by
  go_enter Try.func60, Try.ntmps60
  go_wp2_with fail
  go_ret
  exact ⟨rfl, rfl⟩
set_option maxRecDepth 100000 in
theorem musttext_no (v pv : Value) (t : TypeId) (w w' : World) (h : (Instr.typeAssert v 20 9 false).run Try.prog w = .halt (.panic (.iface t pv)) w') : Calls Try.prog 60 #[v] w fun en w2 => en = .panicked [{ v := .iface t pv, recovered := false }] ∧ w2 = w' := by
  go_enter Try.func60, Try.ntmps60
  go_wp2_with fail
  exact ⟨rfl, rfl, rfl⟩
theorem grownOf {w w' : World} (h : Below w.heap.size w w') (row : Option Nat) : w.grownBy w' row := ⟨h.os, h.tape, h.output, h.size, fun _ hi _ => h.block _ hi⟩
/-- something is taken out of the reader in block g, or nothing fits: a panic -/
def RetR {α : Type} (S : Nat → Prop) (o : Option (α × List LVal)) (val : World → α → Value → Prop) (g : Nat) (w : World) (en : Ending) (w' : World) : Prop :=
  w.grownBy w' (some g) ∧ ((∃ a v, o = some a ∧ en = .returned v ∧ val w' a.1 v ∧ Rd S w' g a.2) ∨ (o = none ∧ Pan en))
def valI (_ : World) (n : Int) (v : Value) : Prop := v = .int .i64 n ∧ -9223372036854775808 ≤ n ∧ n < 9223372036854775808
def valT (_ : World) (s : ByteArray) (v : Value) : Prop := v = .string s ∧ s.size ≤ 140737488351232
def valB (_ : World) (b : Bool) (v : Value) : Prop := v = .bool b
def valY (S : Nat → Prop) (w : World) (l : List UInt8) (v : Value) : Prop := ∃ D c, v = .slice D l.length c ∧ Bs w D l ∧ At S D l.length ∧ l.length ≤ c ∧ c ≤ 9223372036854775807
theorem AnyV.any {w : World} {S : Nat → Prop} {v : Value} {x : LVal} (h : AnyV w S v x) : AnyV w Any v x := h.mono fun _ _ _ => trivial
set_option maxRecDepth 100000 in
theorem rint_any (S : Nat → Prop) (g : Nat) (l : List LVal) (w : World) (h : Rd S w g l) : Calls Try.prog 48 #[.pointer (some ⟨g, 0, none⟩)] w (RetR S (rdI l) valI g w) := by
  cases l with
  | nil =>
    have T := rnext_no S g w h
    go_enter Try.func48, Try.ntmps48
    go_wp2_with fail
    refine T.mono ?_
    rintro en w2 ⟨⟨u, pv, rfl⟩, rfl⟩
    exact ⟨rfl, grownOf ((Below.refl _ _).drew) _, .inr ⟨rfl, _, _, rfl⟩⟩
  | cons x l =>
    have T := rnext_ok S g x l w h
    have hwx := h.wf x (List.mem_cons_self ..)
    go_enter Try.func48, Try.ntmps48
    go_wp2_with fail
    refine T.mono ?_
    rintro en w2 ⟨v, rfl, hv, hr, hg⟩
    rcases taI_any v x _ w2 l hv with ⟨n, ho, ht⟩ | ⟨ho, u, pv, w3, ht, hb⟩
    · have T2 := mustint_ok v n w2 ht
      have HO := Lib.hid ho
      have hrg : -9223372036854775808 ≤ n ∧ n < 9223372036854775808 := by have h1 := rdI_lt ho; injection h1 with h1; subst h1; exact hwx
      have HRG := Lib.hid hrg
      clear ht ho T hrg hwx
      go_wp2_with fail
      refine T2.mono ?_
      rintro en w3 ⟨rfl, rfl⟩
      go_wp2_with fail
      go_ret
      exact ⟨hg, .inl ⟨_, _, HO.out, rfl, ⟨rfl, HRG.out⟩, hr⟩⟩
    · have T2 := mustint_no v pv u w2 w3 ht
      have HO := Lib.hid ho
      clear ht ho T
      go_wp2_with fail
      refine T2.mono ?_
      rintro en w4 ⟨⟨u2, pv2, rfl⟩, rfl⟩
      exact ⟨rfl, hg.trans (grownOf hb _), .inr ⟨HO.out, _, _, rfl⟩⟩
set_option maxRecDepth 100000 in
theorem rtext_any (S : Nat → Prop) (g : Nat) (l : List LVal) (w : World) (h : Rd S w g l) : Calls Try.prog 49 #[.pointer (some ⟨g, 0, none⟩)] w (RetR S (rdT l) valT g w) := by
  cases l with
  | nil =>
    have T := rnext_no S g w h
    go_enter Try.func49, Try.ntmps49
    go_wp2_with fail
    refine T.mono ?_
    rintro en w2 ⟨⟨u, pv, rfl⟩, rfl⟩
    exact ⟨rfl, grownOf ((Below.refl _ _).drew) _, .inr ⟨rfl, _, _, rfl⟩⟩
  | cons x l =>
    have T := rnext_ok S g x l w h
    go_enter Try.func49, Try.ntmps49
    go_wp2_with fail
    refine T.mono ?_
    rintro en w2 ⟨v, rfl, hv, hr, hg⟩
    rcases taS_any v x _ w2 l hv with ⟨n, ho, ht, hsz⟩ | ⟨ho, u, pv, w3, ht, hb⟩
    · have T2 := musttext_ok v n w2 ht
      have HO := Lib.hid ho
      clear ht ho T
      go_wp2_with fail
      refine T2.mono ?_
      rintro en w3 ⟨rfl, rfl⟩
      go_wp2_with fail
      go_ret
      exact ⟨hg, .inl ⟨_, _, HO.out, rfl, ⟨rfl, hsz⟩, hr⟩⟩
    · have T2 := musttext_no v pv u w2 w3 ht
      have HO := Lib.hid ho
      clear ht ho T
      go_wp2_with fail
      refine T2.mono ?_
      rintro en w4 ⟨rfl, rfl⟩
      exact ⟨rfl, hg.trans (grownOf hb _), .inr ⟨HO.out, _, _, rfl⟩⟩
set_option maxRecDepth 100000 in
theorem rtruth_any (S : Nat → Prop) (g : Nat) (l : List LVal) (w : World) (h : Rd S w g l) : Calls Try.prog 61 #[.pointer (some ⟨g, 0, none⟩)] w (RetR S (rdB l) valB g w) := by
  cases l with
  | nil =>
    have T := rnext_no S g w h
    go_enter Try.func61, Try.ntmps61
    go_wp2_with fail
    refine T.mono ?_
    rintro en w2 ⟨⟨u, pv, rfl⟩, rfl⟩
    exact ⟨rfl, grownOf ((Below.refl _ _).drew) _, .inr ⟨rfl, _, _, rfl⟩⟩
  | cons x l =>
    have T := rnext_ok S g x l w h
    go_enter Try.func61, Try.ntmps61
    go_wp2_with fail
    refine T.mono ?_
    rintro en w2 ⟨v, rfl, hv, hr, hg⟩
    rcases taB_any v x _ w2 l hv with ⟨n, ho, ht⟩ | ⟨ho, u, pv, w3, ht, hb⟩
    · have HO := Lib.hid ho
      clear ho T
      go_wp2_with fail
      go_ret
      exact ⟨hg, .inl ⟨_, _, HO.out, rfl, rfl, hr⟩⟩
    · have HO := Lib.hid ho
      clear ho T
      go_wp2_with fail
      exact ⟨rfl, hg.trans (grownOf hb _), .inr ⟨HO.out, _, _, rfl⟩⟩
set_option maxRecDepth 100000 in
theorem rbytes_any (S : Nat → Prop) (g : Nat) (l : List LVal) (w : World) (h : Rd S w g l) : Calls Try.prog 62 #[.pointer (some ⟨g, 0, none⟩)] w (RetR S (rdY l) (valY S) g w) := by
  cases l with
  | nil =>
    have T := rnext_no S g w h
    go_enter Try.func62, Try.ntmps62
    go_wp2_with fail
    refine T.mono ?_
    rintro en w2 ⟨⟨u, pv, rfl⟩, rfl⟩
    exact ⟨rfl, grownOf ((Below.refl _ _).drew) _, .inr ⟨rfl, _, _, rfl⟩⟩
  | cons x l =>
    have T := rnext_ok S g x l w h
    go_enter Try.func62, Try.ntmps62
    go_wp2_with fail
    refine T.mono ?_
    rintro en w2 ⟨v, rfl, hv, hr, hg⟩
    rcases taL_any v x _ w2 l hv with ⟨n, D, c, ho, ht, h1, h2, h3⟩ | ⟨ho, u, pv, w3, ht, hb⟩
    · have HO := Lib.hid ho
      clear ho T
      go_wp2_with fail
      go_ret
      exact ⟨hg, .inl ⟨_, _, HO.out, rfl, ⟨D, c, rfl, h1, h2, h3⟩, hr⟩⟩
    · have HO := Lib.hid ho
      clear ho T
      go_wp2_with fail
      exact ⟨rfl, hg.trans (grownOf hb _), .inr ⟨HO.out, _, _, rfl⟩⟩
theorem Try.size_ColR : (Try.prog.info? 51).map (·.size) = some 3 := by kernel_rfl
/-- a column -/
def valC (_ : World) (c : LCol) (v : Value) : Prop := v = c.val ∧ c.name.size ≤ 140737488351232
set_option maxRecDepth 100000 in
set_option maxHeartbeats 1000000 in
theorem rcolumn_any (S : Nat → Prop) (g : Nat) (l : List LVal) (w : World) (h : Rd S w g l) : Calls Try.prog 50 #[.pointer (some ⟨g, 0, none⟩)] w (RetR S (rdC l) valC g w) := by
  have b0 : Below w.heap.size w (w.alloc (.cells #[.string ⟨#[]⟩, .int .i64 0, .bool false] 51)) := (Below.refl _ _).alloc (Nat.le_refl _) _
  have k0 := Blk.new w 51 #[.string ⟨#[]⟩, .int .i64 0, .bool false]
  have hgl := h.lt
  have hne := h.ne
  have h0 := h.old.below b0
  have HNE := Lib.hid hne
  clear hne
  have g0 := grownOf b0 (some g)
  go_enter Try.func50, Try.ntmps50
  go_wp2_with fail
  generalize (w.alloc (.cells #[.string ⟨#[]⟩, .int .i64 0, .bool false] 51)) = W0 at *
  refine (rtext_any _ g l W0 h0).mono ?_
  rintro en w1 ⟨hg1, ⟨a, v, ho1, rfl, ⟨rfl, hsz⟩, h1⟩ | ⟨ho1, u, pv, rfl⟩⟩
  · have HO1 := Lib.hid ho1
    have k1 := k0.grown hg1 (by intro e; have := Option.some.inj e; omega)
    have gg1 := g0.trans hg1
    clear ho1 h0 h g0 hg1 b0 k0
    go_wp2_with fail
    refine (rint_any _ g a.2 w1 h1).mono ?_
    rintro en w2 ⟨hg2, ⟨b, v, ho2, rfl, ⟨rfl, -⟩, h2⟩ | ⟨ho2, u, pv, rfl⟩⟩
    · have HO2 := Lib.hid ho2
      have k2 := k1.grown hg2 (by intro e; have := Option.some.inj e; omega)
      have gg2 := gg1.trans hg2
      clear ho2 h1 gg1 hg2 k1
      go_wp2_with fail
      refine (rtruth_any _ g b.2 w2 h2).mono ?_
      rintro en w3 ⟨hg3, ⟨c, v, ho3, rfl, rfl, h3⟩ | ⟨ho3, u, pv, rfl⟩⟩
      · have HO3 := Lib.hid ho3
        have k3 := k2.grown hg3 (by intro e; have := Option.some.inj e; omega)
        have gg3 := gg2.trans hg3
        clear ho3 h2 gg2 hg3 k2
        have HF : Hid (∀ w9, w3.grownBy w9 (some w.heap.size) → RetR S (rdC l) valC g w (.returned (.agg #[.string a.1, .int .i64 b.1, .bool c.1])) w9) := fun w9 g9 =>
          ⟨gg3.andThen g9 (fun j e => by have := Option.some.inj e; omega), .inl ⟨(⟨a.1, b.1, c.1⟩, c.2), _, by unfold rdC; rw [HO1.out]; show (rdI a.2).bind _ = _; rw [HO2.out]; show (rdB b.2).bind _ = _; rw [HO3.out]; rfl, rfl, ⟨rfl, hsz⟩,
            (h3.grown g9 (by intro e; have := Option.some.inj e; omega) (fun b hb e => by have := Option.some.inj e; omega)).mono (fun b _ hb => hb.1) (fun b hb => HNE.out b hb)⟩⟩
        go_wp2_with ((with_reducible refine wpList_store_blk rfl 51 (.tmp 2) (.tmp 9) rfl w.heap.size 51 _ #[.string a.1, .int .i64 b.1, .bool c.1] ?_ ?_ k3 Try.size_ColR ?_ ?_ ?_ ?_); rfl; rfl; rfl; rfl; (simp [Value.oneCell']); intro w9 k9 g9 z9)
        exact bodyPost_ret (results_cell rfl rfl k9 Try.underlying51 rfl Try.size_ColR) rfl (HF.out _ g9)
      · have HO3 := Lib.hid ho3
        exact ⟨rfl, gg2.trans hg3, .inr ⟨by unfold rdC; rw [HO1.out]; show (rdI a.2).bind _ = _; rw [HO2.out]; show (rdB b.2).bind _ = _; rw [HO3.out]; rfl, _, _, rfl⟩⟩
    · have HO2 := Lib.hid ho2
      exact ⟨rfl, gg1.trans hg2, .inr ⟨by unfold rdC; rw [HO1.out]; show (rdI a.2).bind _ = _; rw [HO2.out]; rfl, _, _, rfl⟩⟩
  · have HO1 := Lib.hid ho1
    exact ⟨rfl, g0.trans hg1, .inr ⟨by unfold rdC; rw [HO1.out]; rfl, _, _, rfl⟩⟩
end Go.Proofs.Ytemidaamnldjmaa
