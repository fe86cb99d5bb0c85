/- The disk's small words: New, turn, there, put. Reading a file of the disk: Read. How many bytes all files of the disk have: Used. -/
import Derived.Test.YtbldfgpnghoigaaDskP
import Derived.Test.YtbldfgpnghoigaaBClonN
import Derived.Sort.KeysCollected
import Derived.StringKeys
namespace Go.Proofs.Ytbldfgpnghoigaa
open Go.RowKit
open Go.Maps

set_option maxRecDepth 100000 in
set_option maxHeartbeats 2000000 in
theorem new_any (room : Int) (w : World) : Calls Try.prog 9 #[.int .i64 room] w (fun en w' => en = .returned (.pointer (some ⟨w.heap.size, 0, none⟩)) ∧ Blk w' w.heap.size 72 (diskC (.map none) ⟨max 0 room, false, 0, false⟩) ∧ Below w.heap.size w w') := by
  by_cases h : 0 < room
  · have e : max 0 room = room := by omega
    have e2 : (0 : Int) < room := h
    go_enter Try.func9, Try.ntmps9
    go_wp2_with fail
    go_ret
    rw [e]
    exact ⟨rfl, Blk.new _ _ _, (Below.refl _ _).alloc (Nat.le_refl _) _⟩
  · have e2 : ¬ (0 : Int) < room := h
    go_enter Try.func9, Try.ntmps9
    go_wp2_with fail
    go_ret
    exact ⟨rfl, by first | exact Blk.new _ _ _ | (rw [show max 0 room = 0 by omega]; exact Blk.new _ _ _), (Below.refl _ _).alloc (Nat.le_refl _) _⟩
/-- the disk behind a call's turn -/
def RetTurn (b : Nat) (mv : Value) (r : Bool × Int × LDisk) (w : World) (en : Ending) (w' : World) : Prop :=
  en = .returned (.tuple #[.bool r.1, .int .i64 r.2.1]) ∧ Blk w' b 72 (diskC mv r.2.2) ∧ w.grownBy w' (some b)
set_option maxRecDepth 100000 in
set_option maxHeartbeats 2000000 in
theorem turn_any (d : LDisk) (mv : Value) (b : Nat) (e : Int) (w : World) (hk : Blk w b 72 (diskC mv d)) (hl : d.armed = true → 0 ≤ d.left ∧ d.left ≤ 9223372036854775807) : Calls Try.prog 50 #[.pointer (some ⟨b, 0, none⟩), .int .i64 e] w (RetTurn b mv (turnL d e) w) := by
  obtain ⟨room, armed, left, dead⟩ := d
  have y2 : w.cell? ⟨b, 2, none⟩ = some (.bool armed) := hk.cell 2
  have y3 : w.cell? ⟨b, 3, none⟩ = some (.int .i64 left) := hk.cell 3
  have y4 : w.cell? ⟨b, 4, none⟩ = some (.bool dead) := hk.cell 4
  have f3 : w.frozen? ⟨b, 3, none⟩ = false := hk.frozen 3
  have f4 : w.frozen? ⟨b, 4, none⟩ = false := hk.frozen 4
  have g0 := World.grownBy.refl w (some b)
  cases dead with
  | true =>
    go_enter Try.func50, Try.ntmps50
    go_wp2_with fail
    go_ret2
    exact ⟨rfl, hk, g0⟩
  | false =>
    by_cases he : e ≠ 0
    · have HE : Hid (turnL ⟨room, armed, left, false⟩ e = (false, e, ⟨room, armed, left, false⟩)) := by show _ = _; unfold turnL; rw [if_neg (show ¬ (false = true) by decide), if_pos he]
      have d1 : (e != 0) = true := by rw [bne_iff_ne]; exact he
      clear he
      go_enter Try.func50, Try.ntmps50
      go_wp2_with fail
      go_ret2
      rw [HE.out]
      exact ⟨rfl, hk, g0⟩
    obtain rfl : e = 0 := Classical.byContradiction he
    clear he
    cases armed with
    | false =>
      have HE : Hid (turnL ⟨room, false, left, false⟩ 0 = (true, 0, ⟨room, false, left, false⟩)) := rfl
      go_enter Try.func50, Try.ntmps50
      go_wp2_with fail
      go_ret2
      rw [HE.out]
      exact ⟨rfl, hk, g0⟩
    | true =>
      obtain ⟨h1, h2⟩ : 0 ≤ left ∧ left ≤ 9223372036854775807 := hl rfl
      by_cases hz : left = 0
      · subst hz
        have HE : Hid (turnL ⟨room, true, 0, false⟩ 0 = (false, 9, ⟨room, true, 0, true⟩)) := rfl
        have k2 := hk.set_ 4 (.bool true)
        have g2 : w.grownBy (w.setCell ⟨b, 4, none⟩ (.bool true)) (some b) := only_setCell (World.grownBy.refl w _) (p := ⟨b, 4, none⟩) (.inl rfl) _
        go_enter Try.func50, Try.ntmps50
        go_wp2_with fail
        go_ret2
        rw [HE.out]
        exact ⟨rfl, k2, g2⟩
      · have HE : Hid (turnL ⟨room, true, left, false⟩ 0 = (true, 0, ⟨room, true, left - 1, false⟩)) := by show _ = _; unfold turnL; rw [if_neg (show ¬ (false = true) by decide), if_neg (show ¬ ((0 : Int) ≠ 0) by decide), if_neg (by simp [hz]), if_pos rfl]
        have h3 : 1 ≤ left := by omega
        have d1 : (left == 0) = false := by rw [beq_eq_false_iff_ne]; exact hz
        have k2 := hk.set_ 3 (.int .i64 (left - 1))
        have g2 : w.grownBy (w.setCell ⟨b, 3, none⟩ (.int .i64 (left - 1))) (some b) := only_setCell (World.grownBy.refl w _) (p := ⟨b, 3, none⟩) (.inl rfl) _
        go_enter Try.func50, Try.ntmps50
        go_wp2_with fail
        go_ret2
        rw [HE.out]
        exact ⟨rfl, k2, g2⟩
theorem zeroF (w : World) : (zeroValue 92).run Try.prog w = .ok zF w := by kernel_rfl
theorem key_lit (l : List UInt8) (hl : l.length ≤ 140737488355328) : keyOf Try.prog 9 (.string ⟨l.toArray⟩) = some (.string l) := by
  have h := WideMaps.keyOf_string_mk (P := Try.prog) Try.underlying9 (s := ⟨l.toArray⟩) (by
    have e : (⟨l.toArray⟩ : ByteArray).size = l.length := by show l.toArray.size = _; simp
    rw [e]
    simp only [maxLen]
    omega)
  exact h
section
variable {P : Program} (w : World) {ops : Array Oper} {rest : List Oper} {o : Oper} {a : Act} {Q : Exit → Act → World → Prop}
theorem wpList_look_ok (hg : o.guard = none) (m x : Operand) (t : TypeId) (hop : o.op = Op.lookup t m x true)
    (k e : TypeId) (K : Keyed P k) (ht : P.underlying t = some (.map k e)) (z : Value) (hz : (zeroValue e).run P w = .ok z w) (b n : Nat) (D : DataW Value)
    (hm : a.eval m = .map (some b)) (hown : w.ownsMap P k rawR b n D) (key : Value) (kl : Lit) (hx : a.eval x = key) (hkey : keyOf P k key = some kl) (v : Value) (bb : Bool) (hv : D.atKey kl (.held z) = .held v) (hb : has D kl = bb)
    (hK : wpList P ops Q rest (a.put o.dst (.tuple #[v, .bool bb])) w) : wpList P ops Q (o :: rest) a w := by
  refine wpList_lookup_own_ok w hg m x t hop k e K ht rawR hz (.held z) [] rfl b n D hm hown key kl hx hkey (fun v' ps hv' => ?_)
  have h1 : some (DataW.held v', ([] : List MemPlace)) = some (D.atKey kl (.held z), ps) := hv'
  rw [hv] at h1
  injection h1 with h1
  injection h1 with h1 h2
  injection h1 with h1
  subst h1
  rw [hb]
  exact hK
theorem wpList_look (hg : o.guard = none) (m x : Operand) (t : TypeId) (hop : o.op = Op.lookup t m x false)
    (k e : TypeId) (K : Keyed P k) (ht : P.underlying t = some (.map k e)) (z : Value) (hz : (zeroValue e).run P w = .ok z w) (b n : Nat) (D : DataW Value)
    (hm : a.eval m = .map (some b)) (hown : w.ownsMap P k rawR b n D) (key : Value) (kl : Lit) (hx : a.eval x = key) (hkey : keyOf P k key = some kl) (v : Value) (hv : D.atKey kl (.held z) = .held v)
    (hK : wpList P ops Q rest (a.put o.dst v) w) : wpList P ops Q (o :: rest) a w := by
  refine wpList_plain hg fun K' hK' => ?_
  obtain ⟨v', ps, hrun, hv'⟩ := hown.lookup K ht hz (zd := .held z) (zp := []) rfl hkey
  have h1 : some (DataW.held v', ([] : List MemPlace)) = some (D.atKey kl (.held z), ps) := hv'
  rw [hv] at h1
  injection h1 with h1
  injection h1 with h1 h2
  injection h1 with h1
  subst h1
  unfold Oper.wp
  simp [execOp, hop, hm, hx, hrun, Result.andThen]
  exact hK' _ _ hK
end
set_option maxRecDepth 100000 in
set_option maxHeartbeats 2000000 in
theorem there_any (d : LDisk) (mv : Value) (b : Nat) (fs : List DF) (nm : List UInt8) (w : World) (hk : Blk w b 72 (diskC mv d)) (hf : FilesAt w mv fs) (hn : nm.length ≤ 140737488355328) :
    Calls Try.prog 48 #[.pointer (some ⟨b, 0, none⟩), .string ⟨nm.toArray⟩] w (fun en w' => en = .returned (.int .i64 (if nm ∈ fs.map DF.name then 0 else 6)) ∧ Below w.heap.size w w') := by
  have law : Keyed Try.prog 9 := string_keyed Try.underlying9
  have y0 : w.cell? ⟨b, 0, none⟩ = some mv := hk.cell 0
  have hkey := key_lit nm hn
  rcases hf with ⟨rfl, rfl⟩ | ⟨mb, D, rfl, hown, hD⟩
  · have hln := Maps.look_nil (P := Try.prog) (w := w) true law Try.underlying70 (z := (.agg #[.slice none 0 0, .int .i64 0])) (zeroF w) hkey
    simp only [if_true] at hln
    go_enter Try.func48, Try.ntmps48
    go_wp2_with fail
    go_ret
    exact ⟨rfl, (Below.refl _ _).alloc (Nat.le_refl _) _⟩
  · rcases hD.look nm with ⟨q, hq, rfl, ha, hh⟩ | ⟨hm, ha, hh⟩
    · have hmem : q.name ∈ fs.map DF.name := List.mem_map_of_mem hq
      go_enter Try.func48, Try.ntmps48
      go_wp2_with (at_lookup; refine wpList_look_ok _ rfl _ _ 70 rfl 9 92 law Try.underlying70 zF (zeroF _) mb fs.length D rfl hown _ _ rfl hkey (.agg #[.slice q.A q.data.length q.c, .int .i64 (q.safe : Int)]) true ha hh ?_)
      go_ret
      exact ⟨rfl, (Below.refl _ _).alloc (Nat.le_refl _) _⟩
    · go_enter Try.func48, Try.ntmps48
      go_wp2_with (at_lookup; refine wpList_look_ok _ rfl _ _ 70 rfl 9 92 law Try.underlying70 zF (zeroF _) mb fs.length D rfl hown _ _ rfl hkey (.agg #[.slice none 0 0, .int .i64 0]) false ha hh ?_)
      go_ret
      exact ⟨rfl, (Below.refl _ _).alloc (Nat.le_refl _) _⟩
/-- what lies beside the heap -/
def OTO (w w' : World) : Prop := w'.os = w.os ∧ w'.tape = w.tape ∧ w'.output = w.output
theorem OTO.refl (w : World) : OTO w w := ⟨rfl, rfl, rfl⟩
theorem OTO.trans {w w1 w2 : World} (h : OTO w w1) (h2 : OTO w1 w2) : OTO w w2 := ⟨h2.1.trans h.1, h2.2.1.trans h.2.1, h2.2.2.trans h.2.2⟩
theorem OTO.of_below {B : Nat} {w w' : World} (h : Below B w w') : OTO w w' := ⟨h.os, h.tape, h.output⟩
theorem OTO.of_grown {row : Option Nat} {w w' : World} (h : w.grownBy w' row) : OTO w w' := ⟨h.os, h.tape, h.output⟩
/-- nothing that lay there has turned but the disk's block and its map's -/
structure DKept (b : Nat) (mv : Value) (w w' : World) : Prop where
  size : w.heap.size ≤ w'.heap.size
  block : ∀ g, g < w.heap.size → g ≠ b → mv ≠ .map (some g) → w'.heap[g]? = w.heap[g]?
  oto : OTO w w'
theorem DKept.same {b : Nat} {mv : Value} {w w' : World} (h : DKept b mv w w') {S : Nat → Prop} (hS : ∀ g, S g → g ≠ b ∧ mv ≠ .map (some g)) : Same S w w' := ⟨h.1, fun g hg hl => h.2 g hl (hS g hg).1 (hS g hg).2⟩
theorem Rows_.same {w w' : World} {S : Nat → Prop} {fs : List DF} (h : Rows_ w S fs) (hs : Same S w w') : Rows_ w' S fs := fun q hq => by
  obtain ⟨h1, h2, h3⟩ := h q hq
  exact ⟨h1.sameS h2 hs, h2, h3⟩
/-- a file put into its place -/
def RetPut (b : Nat) (mv : Value) (d : LDisk) (fs : List DF) (w : World) (en : Ending) (w' : World) : Prop :=
  en = .returned (.tuple #[]) ∧ ∃ mv', Blk w' b 72 (diskC mv' d) ∧ FilesAt w' mv' fs ∧ (∃ mb, mv' = .map (some mb) ∧ (mv = mv' ∨ (mv = .map none ∧ w.heap.size ≤ mb))) ∧ DKept b mv w w'
set_option maxRecDepth 100000 in
set_option maxHeartbeats 2000000 in
theorem put_any (d : LDisk) (mv : Value) (b : Nat) (fs : List DF) (q : DF) (w : World) (hk : Blk w b 72 (diskC mv d)) (hf : FilesAt w mv fs) (hbm : mv ≠ .map (some b)) (hn : q.name.length ≤ 140737488355328) (hsz : fs.length ≤ 1048576) :
    Calls Try.prog 51 #[.pointer (some ⟨b, 0, none⟩), .string ⟨q.name.toArray⟩, .agg #[.slice q.A q.data.length q.c, .int .i64 (q.safe : Int)]] w (RetPut b mv d (putF fs q) w) := by
  have law : Keyed Try.prog 9 := string_keyed Try.underlying9
  have hkey := key_lit q.name hn
  have d0 : Below w.heap.size w (w.alloc (.cells #[.slice q.A q.data.length q.c, .int .i64 (q.safe : Int)] 92)) := (Below.refl _ _).alloc (Nat.le_refl _) _
  have k0 := hk.below d0 hk.lt
  have kq := Blk.new w 92 #[.slice q.A q.data.length q.c, .int .i64 (q.safe : Int)]
  have lb := hk.lt
  rcases hf with ⟨rfl, rfl⟩ | ⟨mb, D, rfl, hown, hD⟩
  · have hmm := @run_makeMap Try.prog
    have qT : ∀ w : World, (binOp .eql 70 (.map none) (.map none)).run Try.prog w = .ok (.bool true) w := fun w => run_eql_map_nil w 70 9 92 none Try.underlying70
    go_enter Try.func51, Try.ntmps51
    go_upto_region 1 with fail
    generalize (w.alloc (.cells #[.slice q.A q.data.length q.c, .int .i64 (q.safe : Int)] 92)) = W at *
    have y0 : W.cell? ⟨b, 0, none⟩ = some (.map none) := k0.cell 0
    have hW := d0.size
    have lq := kq.lt
    have dm : Below W.heap.size W (W.alloc (.map #[] 0)) := (Below.refl _ _).alloc (Nat.le_refl _) _
    have hM0 : (W.alloc (.map #[] 0)).ownsMap (H := Value) Try.prog 9 rawR W.heap.size 0 (.map []) := World.ownsMap_made _ _ _ _
    have k1 := k0.below dm k0.lt
    have kq1 := kq.below dm kq.lt
    have y1 : (W.alloc (.map #[] 0)).cell? ⟨b, 0, none⟩ = some (.map none) := k1.cell 0
    have f1 : (W.alloc (.map #[] 0)).frozen? ⟨b, 0, none⟩ = false := k1.frozen 0
    have g2 : (W.alloc (.map #[] 0)).grownBy ((W.alloc (.map #[] 0)).setCell ⟨b, 0, none⟩ (.map (some W.heap.size))) (some b) := only_setCell (World.grownBy.refl _ _) (p := ⟨b, 0, none⟩) (.inl rfl) _
    have k2 : Blk ((W.alloc (.map #[] 0)).setCell ⟨b, 0, none⟩ (.map (some W.heap.size))) b 72 (diskC (.map (some W.heap.size)) d) := k1.set_ 0 (.map (some W.heap.size))
    have kq2 := kq1.grown g2 (fun e => by have := Option.some.inj e; omega)
    have hM2 := hM0.kept g2 (fun e => by have := Option.some.inj e; omega)
    have hk2 : ∀ g, g < w.heap.size → g ≠ b → ((W.alloc (.map #[] 0)).setCell ⟨b, 0, none⟩ (.map (some W.heap.size))).heap[g]? = w.heap[g]? := fun g h1 h2 => ((g2.block g (by have := dm.size; omega) (fun e => h2 (Option.some.inj e))).trans (dm.block g (by omega))).trans (d0.block g h1)
    have z2 := g2.size
    have zm := dm.size
    have o2 : OTO w ((W.alloc (.map #[] 0)).setCell ⟨b, 0, none⟩ (.map (some W.heap.size))) := (OTO.of_below d0).trans ((OTO.of_below dm).trans (OTO.of_grown g2))
    clear k0 kq k1 kq1 hM0 g2 dm d0
    go_upto_region 3 with fail
    clear y0 y1 f1 hmm qT
    generalize ((W.alloc (.map #[] 0)).setCell ⟨b, 0, none⟩ (.map (some W.heap.size))) = U at *
    have y0 : U.cell? ⟨b, 0, none⟩ = some (.map (some W.heap.size)) := k2.cell 0
    have z0 : U.cell? ⟨w.heap.size, 0, none⟩ = some (.slice q.A q.data.length q.c) := kq2.cell 0
    have z1 : U.cell? ⟨w.heap.size, 1, none⟩ = some (.int .i64 (q.safe : Int)) := kq2.cell 1
    go_still_tail 6, (by kernel_rfl)
    have hownd := hM2.drew
    have kd := k2.drew
    have zd : U.heap.size ≤ U.drew.heap.size := Nat.le_refl _
    have od : OTO w U.drew := o2
    have hkd : ∀ g, g < w.heap.size → g ≠ b → U.drew.heap[g]? = w.heap[g]? := hk2
    clear y0 z0 z1 hM2 k2 kq2 hk2 o2
    change wpList _ _ _ _ _ U.drew
    generalize U.drew = V at *
    go_wp2_with (at_mapUpdate; refine wpList_mapUpdate_own _ rfl _ _ _ 70 rfl 9 92 law Try.underlying70 rawR W.heap.size 0 (.map []) rfl hownd (by unfold maxLen; omega) _ _ (.string q.name) rfl rfl hkey (.held q.vv) [] rfl ?_; intro w9 hown9 hg9)
    have k9 := kd.grown hg9 (fun e => by have := Option.some.inj e; omega)
    have hD9 := DMap.nil_.put (hownd.tidy law) q
    have ho9 := ownsMap_tight hown9
    rw [hD9.2.2.2.2] at ho9
    exact bodyEnd0 rfl rfl ⟨rfl, _, k9, .inr ⟨W.heap.size, _, rfl, ho9, hD9⟩, ⟨W.heap.size, rfl, .inr ⟨rfl, by omega⟩⟩, by have := hg9.size; omega, fun g h1 h2 _ => (hg9.block g (by omega) (fun e => by have := Option.some.inj e; omega)).trans (hkd g h1 h2), od.trans (OTO.of_grown hg9)⟩
  · have hmb := hown.lt
    have hT := hown.tidy law
    have hown0 := hown.alloc (.cells #[.slice q.A q.data.length q.c, .int .i64 (q.safe : Int)] 92)
    have hbm2 : b ≠ mb := fun e => hbm (by rw [e])
    have qT : ∀ w : World, (binOp .eql 70 (.map (some mb)) (.map none)).run Try.prog w = .ok (.bool false) w := fun w => run_eql_map_nil w 70 9 92 (some mb) Try.underlying70
    go_enter Try.func51, Try.ntmps51
    go_upto_region 1 with fail
    generalize (w.alloc (.cells #[.slice q.A q.data.length q.c, .int .i64 (q.safe : Int)] 92)) = W at *
    have y0 : W.cell? ⟨b, 0, none⟩ = some (.map (some mb)) := k0.cell 0
    have z0 : W.cell? ⟨w.heap.size, 0, none⟩ = some (.slice q.A q.data.length q.c) := kq.cell 0
    have z1 : W.cell? ⟨w.heap.size, 1, none⟩ = some (.int .i64 (q.safe : Int)) := kq.cell 1
    go_upto_region 3 with fail
    clear qT
    go_still_tail 6, (by kernel_rfl)
    have hownd := hown0.drew
    have kd := k0.drew
    have dd := d0.drew
    clear y0 z0 z1 hown0 k0 kq d0
    change wpList _ _ _ _ _ W.drew
    generalize W.drew = V at *
    go_wp2_with (at_mapUpdate; refine wpList_mapUpdate_own _ rfl _ _ _ 70 rfl 9 92 law Try.underlying70 rawR mb fs.length D rfl hownd (by unfold maxLen; omega) _ _ (.string q.name) rfl rfl hkey (.held q.vv) [] rfl ?_; intro w9 hown9 hg9)
    have k9 := kd.grown hg9 (fun e => hbm2 (Option.some.inj e))
    have hD9 := hD.put hT q
    have ho9 := ownsMap_tight hown9
    rw [hD9.2.2.2.2] at ho9
    exact bodyEnd0 rfl rfl ⟨rfl, _, k9, .inr ⟨mb, _, rfl, ho9, hD9⟩, ⟨mb, rfl, .inl rfl⟩, Nat.le_trans dd.size hg9.size, fun g h1 h2 h3 => (hg9.block g (Nat.lt_of_lt_of_le h1 dd.size) (fun e => h3 (by rw [Option.some.inj e]))).trans (dd.block g h1), (OTO.of_below dd).trans (OTO.of_grown hg9)⟩
end Go.Proofs.Ytbldfgpnghoigaa

namespace Go.Proofs.Ytbldfgpnghoigaa
open Go.RowKit
open Go.Maps

/-- what is read under a name, and the error -/
def readL (dead : Bool) (fs : List DF) (nm : List UInt8) : List UInt8 × Int :=
  if dead then ([], 9) else match fs.find? (fun q => q.name == nm) with | some q => (q.data, 0) | none => ([], 6)
def RetRead (r : List UInt8 × Int) (w : World) (en : Ending) (w' : World) : Prop :=
  ∃ A c, en = .returned (.tuple #[.slice A r.1.length c, .int .i64 r.2]) ∧ OwnB w.heap.size w' A r.1 c ∧ Below w.heap.size w w'
theorem readL_some {fs : List DF} {q : DF} (h : (fs.map DF.name).Nodup) (hq : q ∈ fs) : readL false fs q.name = (q.data, 0) := by
  unfold readL
  rw [if_neg (show ¬ (false = true) by decide)]
  have : fs.find? (fun r => r.name == q.name) = some q := by
    induction fs with
    | nil => cases hq
    | cons x r ih =>
      rw [List.map_cons, List.nodup_cons] at h
      rcases List.mem_cons.1 hq with rfl | hq
      · rw [List.find?_cons_of_pos (by simp)]
      · have hne : x.name ≠ q.name := fun e => h.1 (by rw [e]; exact List.mem_map_of_mem hq)
        rw [List.find?_cons_of_neg (by simp [hne])]
        exact ih h.2 hq
  rw [this]
theorem readL_none {fs : List DF} {nm : List UInt8} (h : nm ∉ fs.map DF.name) : readL false fs nm = ([], 6) := by
  unfold readL
  rw [if_neg (show ¬ (false = true) by decide)]
  have : fs.find? (fun r => r.name == nm) = none := by
    rw [List.find?_eq_none]
    intro x hx e
    rw [beq_iff_eq] at e
    exact h (by rw [← e]; exact List.mem_map_of_mem hx)
  rw [this]
theorem field_data (x : Option Addr) (n c : Nat) (y : Int) (w : World) : (Instr.field 92 (.agg #[.slice x n c, .int .i64 y]) 0).run Try.prog w = .ok (.slice x n c) w := by kernel_rfl
set_option maxRecDepth 100000 in
set_option maxHeartbeats 2000000 in
theorem read_any (d : LDisk) (mv : Value) (b : Nat) (fs : List DF) (S : Nat → Prop) (nm : List UInt8) (w : World) (hk : Blk w b 72 (diskC mv d)) (hf : FilesAt w mv fs) (hr : Rows_ w S fs) (hn : nm.length ≤ 140737488355328) :
    Calls Try.prog 17 #[.pointer (some ⟨b, 0, none⟩), .string ⟨nm.toArray⟩] w (RetRead (readL d.dead fs nm) w) := by
  have law : Keyed Try.prog 9 := string_keyed Try.underlying9
  have hkey := key_lit nm hn
  obtain ⟨room, armed, left, dead⟩ := d
  have y4 : w.cell? ⟨b, 4, none⟩ = some (.bool dead) := hk.cell 4
  cases dead with
  | true =>
    go_enter Try.func17, Try.ntmps17
    go_wp2_with fail
    go_ret2
    exact ⟨none, 0, rfl, OwnB.nil_ _ _, Below.refl _ _⟩
  | false =>
    have T := there_any ⟨room, armed, left, false⟩ mv b fs nm w hk hf hn
    by_cases hm : nm ∈ fs.map DF.name
    · rw [if_pos hm] at T
      rcases hf with ⟨_, rfl⟩ | ⟨mb, D, rfl, hown, hD⟩
      · cases hm
      rcases hD.look nm with ⟨q, hq, rfl, ha, hh⟩ | ⟨hm2, _, _⟩
      · obtain ⟨hb, _⟩ := hr q hq
        have HE := Lib.hid (readL_some hD.2.1 hq)
        go_enter Try.func17, Try.ntmps17
        go_wp2_with fail
        refine T.mono ?_
        clear T
        rintro en w1 ⟨rfl, b1⟩
        have y0 := (hk.below b1 hk.lt).cell 0
        replace y0 : w1.cell? ⟨b, 0, none⟩ = some (.map (some mb)) := y0
        have hown1 : w1.ownsMap Try.prog 9 rawR mb fs.length D := by
          obtain ⟨es, c, h1, h2⟩ := hown
          exact ⟨es, c, (b1.block mb (by rcases Nat.lt_or_ge mb w.heap.size with h5 | h5; exact h5; rw [Array.getElem?_eq_none h5] at h1; cases h1)).trans h1, h2⟩
        have hb1 := hb.below b1
        clear y4
        have hfd := field_data q.A q.data.length q.c (q.safe : Int) w1
        go_wp2_with (at_lookup; refine wpList_look _ rfl _ _ 70 rfl 9 92 law Try.underlying70 zF (zeroF _) mb fs.length D rfl hown1 _ _ rfl hkey (.agg #[.slice q.A q.data.length q.c, .int .i64 (q.safe : Int)]) ha ?_)
        refine (bclone_any q.A q.data q.c w1 hb1).mono ?_
        rintro en w2 ⟨A, c, rfl, oA, b2⟩
        go_wp2_with fail
        go_ret2
        show RetRead (readL false fs q.name) w _ _
        rw [HE.out]
        exact ⟨A, c, rfl, OwnB.base oA b1.size, b1.trans (b2.mono b1.size)⟩
      · exact absurd hm hm2
    · rw [if_neg hm] at T
      have HE := Lib.hid (readL_none hm)
      go_enter Try.func17, Try.ntmps17
      go_wp2_with fail
      refine T.mono ?_
      rintro en w1 ⟨rfl, b1⟩
      go_wp2_with fail
      go_ret2
      show RetRead (readL false fs nm) w _ _
      rw [HE.out]
      exact ⟨none, 0, rfl, OwnB.nil_ _ _, b1⟩
end Go.Proofs.Ytbldfgpnghoigaa

namespace Go.Proofs.Ytbldfgpnghoigaa
open Go.RowKit
open Go.Maps

def usedL (fs : List DF) : Nat := (fs.map (fun q => q.data.length)).sum
def sumL (left : Lit → Bool) (fs : List DF) : Nat := (fs.map (fun q => (left (.string q.name)).toNat * q.data.length)).sum
theorem sumL_cons (left : Lit → Bool) (x : DF) (r : List DF) : sumL left (x :: r) = (left (.string x.name)).toNat * x.data.length + sumL left r := by
  unfold sumL
  rw [List.map_cons, List.sum_cons]
theorem sumL_congr {left left' : Lit → Bool} : ∀ {fs : List DF}, (∀ q ∈ fs, left (.string q.name) = left' (.string q.name)) → sumL left fs = sumL left' fs
  | [], _ => rfl
  | x :: r, h => by rw [sumL_cons, sumL_cons, h x (List.mem_cons_self ..), sumL_congr (fun q hq => h q (List.mem_cons_of_mem _ hq))]
theorem sumL_all {left : Lit → Bool} : ∀ {fs : List DF}, (∀ q ∈ fs, left (.string q.name) = true) → sumL left fs = usedL fs
  | [], _ => rfl
  | x :: r, h => by
    rw [sumL_cons, h x (List.mem_cons_self ..), sumL_all (fun q hq => h q (List.mem_cons_of_mem _ hq))]
    show 1 * x.data.length + usedL r = (List.map (fun q => q.data.length) (x :: r)).sum
    rw [List.map_cons, List.sum_cons, Nat.one_mul]
    rfl
theorem sumL_none {left : Lit → Bool} (h : ∀ kl, left kl = false) : ∀ {fs : List DF}, sumL left fs = 0
  | [] => rfl
  | x :: r => by rw [sumL_cons, h, sumL_none h]; show 0 * x.data.length + 0 = 0; rw [Nat.zero_mul]
theorem sumL_strike {left : Lit → Bool} : ∀ {fs : List DF}, (fs.map DF.name).Nodup → ∀ {q : DF}, q ∈ fs → left (.string q.name) = true → sumL left fs = q.data.length + sumL (fun z => left z && !z.sameKey (.string q.name)) fs
  | [], _, _, hq, _ => by cases hq
  | x :: r, hn, q, hq, hl => by
    rw [List.map_cons, List.nodup_cons] at hn
    rw [sumL_cons, sumL_cons]
    rcases List.mem_cons.1 hq with rfl | hq
    · have h1 : (left (.string q.name) && !(Lit.string q.name).sameKey (.string q.name)) = false := by rw [WideAt.sameKey_self (a := .string q.name) trivial]; simp
      have h2 : sumL left r = sumL (fun z => left z && !z.sameKey (.string q.name)) r := sumL_congr fun p hp => by
        show left (.string p.name) = (left (.string p.name) && !(Lit.string p.name).sameKey (.string q.name))
        rw [sameKey_ne (lit_ne (fun e => hn.1 (by rw [← e]; exact List.mem_map_of_mem hp)))]
        simp
      have e1 : (left (.string q.name)).toNat = 1 := by rw [hl]; rfl
      show (left (.string q.name)).toNat * _ + _ = _ + ((left (.string q.name) && !(Lit.string q.name).sameKey (.string q.name)).toNat * _ + _)
      rw [h1, e1, h2]
      show 1 * _ + _ = _ + (0 * _ + _)
      omega
    · have h1 : x.name ≠ q.name := fun e => hn.1 (by rw [e]; exact List.mem_map_of_mem hq)
      have h2 : (left (.string x.name) && !(Lit.string x.name).sameKey (.string q.name)) = left (.string x.name) := by rw [sameKey_ne (lit_ne h1)]; simp
      rw [sumL_strike hn.2 hq hl]
      show _ + (_ + _) = _ + ((left (.string x.name) && !(Lit.string x.name).sameKey (.string q.name)).toNat * x.data.length + _)
      rw [h2]
      omega
theorem run_range_none (w : World) : (Instr.range 70 (.map none)).run Try.prog w = .ok (.pointer (some ⟨w.heap.size, 0, none⟩)) (w.alloc (.mapIter none 0 #[] 0)) := by
  simp [Instr.range, run_underlying Try.underlying70, Result.andThen]
theorem run_getObj_iter {w : World} {r : Nat} {m : Option Nat} {s : Nat} {seen : Array Nat} {c : Nat} (h : w.heap[r]? = some (.mapIter m s seen c)) : (getObj r).run Try.prog w = .ok (.mapIter m s seen c) w := by
  simp only [getObj, Sem.run, h]
theorem run_next_none (w : World) (r : Nat) (t : TypeId) (h : w.heap[r]? = some (.mapIter none 0 #[] 0)) : (Instr.next (.pointer (some ⟨r, 0, none⟩)) false t).run Try.prog w = .ok (.tuple #[.bool false]) w := by
  simp [Instr.next, run_getObj_iter h, Result.andThen]
set_option maxRecDepth 100000 in
set_option maxHeartbeats 2000000 in
theorem used_any (d : LDisk) (mv : Value) (b : Nat) (fs : List DF) (w : World) (hk : Blk w b 72 (diskC mv d)) (hf : FilesAt w mv fs) (hu : usedL fs ≤ 4611686018427387904) :
    Calls Try.prog 52 #[.pointer (some ⟨b, 0, none⟩)] w (fun en w' => en = .returned (.int .i64 (usedL fs : Int)) ∧ Below w.heap.size w w') := by
  have law : Keyed Try.prog 9 := string_keyed Try.underlying9
  have y0 : w.cell? ⟨b, 0, none⟩ = some mv := hk.cell 0
  rcases hf with ⟨rfl, rfl⟩ | ⟨mb, D, rfl, hown, hD⟩
  · have hr := run_range_none w
    have bn : Below w.heap.size w (w.alloc (.mapIter none 0 #[] 0)) := (Below.refl _ _).alloc (Nat.le_refl _) _
    have hh : (w.alloc (.mapIter none 0 #[] 0)).heap[w.heap.size]? = some (.mapIter none 0 #[] 0) := (MapKept.heap_alloc w _).1
    have hnx : ∀ t, (Instr.next (.pointer (some ⟨w.heap.size, 0, none⟩)) false t).run Try.prog (w.alloc (.mapIter none 0 #[] 0)) = .ok (.tuple #[.bool false]) (w.alloc (.mapIter none 0 #[] 0)) := fun t => run_next_none _ _ t hh
    clear hh
    go_enter Try.func52, Try.ntmps52
    go_wp2_with fail
    generalize w.alloc (.mapIter none 0 #[] 0) = W at *
    go_loopw [3, 5] (fun v _ wr => v = .int .i64 0 ∧ wr = W) (fun _ _ _ => 0)
    case atStart => exact ⟨rfl, rfl⟩
    case round =>
      obtain ⟨rfl, rfl⟩ := hrel
      go_wp2_with fail
      go_ret
      exact ⟨rfl, bn⟩
  · have hmb := hown.lt
    have invK : ∀ key kl, keyOf Try.prog 9 key = some kl → ∃ x, key = encStr x := fun key kl hk => by obtain ⟨x, hx, _⟩ := Maps.keyOf_str Try.underlying9 hk; exact ⟨x, hx⟩
    have invV : ∀ v y, rawR v = some y → ∃ c, v = (_root_.id : Value → Value) c := fun v y _ => ⟨v, rfl⟩
    have IK := Lib.hid invK
    have IV := Lib.hid invV
    have HD := Lib.hid hD
    clear invK invV hD
    go_enter Try.func52, Try.ntmps52
    go_wp2_with (first
      | (at_range; refine wpList_range_own _ rfl _ 70 rfl 9 92 law Try.underlying70 rawR mb fs.length D rfl hown ?_; intro w7 hrg7 hg7 hs7)
      | go_in)
    go_frame
    have b7 : Below w.heap.size w w7 := (Below.refl w.heap.size w).grown hg7 (Nat.le_refl _) (fun j hj => by cases hj)
    have hsum : sumL (has D) fs = usedL fs := sumL_all fun q hq => (HD.out.2.2.1 q.name).2 (List.mem_map_of_mem hq)
    have HSUM := Lib.hid hsum
    clear hsum hown y0
    have l7 : w.heap.size < w7.heap.size := by omega
    clear hs7 hg7
    go_loopw [3, 5] (fun v _ wr => ∃ (left : Lit → Bool) (cnt acc : Nat), wr.ranges Try.prog 9 rawR mb w.heap.size fs.length D left cnt ∧ v = .int .i64 (acc : Int) ∧ acc + sumL left fs = usedL fs ∧ Below w.heap.size w wr ∧ w.heap.size < wr.heap.size) (fun _ _ wr => wr.rangeLeft mb w.heap.size)
    case atStart => exact ⟨_, _, 0, hrg7, rfl, by rw [HSUM.out]; omega, b7, l7⟩
    case round =>
      clear hrg7 b7 l7
      obtain ⟨left, cnt, acc, hrg, rfl, hac, br, lr⟩ := hrel
      go_wp2_with (first
        | (at_next; refine wpList_next_ranges _ rfl _ rfl 9 law rawR encStr (_root_.id : Value → Value) IK.out IV.out mb w.heap.size fs.length D left cnt rfl hrg ?_ ?_)
        | go_in)
      · intro _ hl0
        have hz := sumL_none hl0 (fs := fs)
        have HZ : Hid (acc = usedL fs) := by show _ = _; omega
        clear hl0 hrg hz hac
        go_wp2_with fail
        go_ret
        rw [← HZ.out]
        exact ⟨rfl, br⟩
      · intro x c kl yd yp w8 cnt8 hkey hlk hv hat hrg8 hlt8 hg8 hs8 hen
        obtain ⟨x', ex, rfl, hxl⟩ := Maps.keyOf_str Try.underlying9 hkey
        obtain rfl : x = x' := encStr_inj ex
        have hhas : has D (.string x) = true := has_true_of_atKey hat
        have hxl2 := hxl
        obtain ⟨q, hq, hqn, hqa, _⟩ | ⟨_, _, hh⟩ := HD.out.look x
        · subst hqn
          have hcv : c = q.vv := by
            have h1 := hat (.held zF)
            rw [hqa] at h1
            have h2 : (DataW.held c, ([] : List MemPlace)) = (yd, yp) := Option.some.inj hv
            have h3 : DataW.held c = yd := congrArg Prod.fst h2
            rw [← h3] at h1
            injection h1 with h1
            exact h1.symm
          subst hcv
          have hen2 : (Instr.entry (.pointer (some ⟨w.heap.size, 0, none⟩))).run Try.prog w8 = .ok (.tuple #[.string ⟨q.name.toArray⟩, .agg #[.slice q.A q.data.length q.c, .int .i64 (q.safe : Int)]]) w8 := hen
          have hst := sumL_strike HD.out.2.1 hq hlk
          have HST := Lib.hid hst
          have b8 := br.grown hg8 br.size (fun j hj => by cases hj; exact Nat.le_refl _)
          have d9 : Below w8.heap.size w8 (w8.alloc (.cells #[.slice q.A q.data.length q.c, .int .i64 (q.safe : Int)] 92)) := (Below.refl _ _).alloc (Nat.le_refl _) _
          have kq := Blk.new w8 92 #[.slice q.A q.data.length q.c, .int .i64 (q.safe : Int)]
          have c0 : (w8.alloc (.cells #[.slice q.A q.data.length q.c, .int .i64 (q.safe : Int)] 92)).cell? ⟨w8.heap.size, 0, none⟩ = some (.slice q.A q.data.length q.c) := kq.cell 0
          have hrg9 := hrg8.alloc (.cells #[.slice q.A q.data.length q.c, .int .i64 (q.safe : Int)] 92)
          have hleft := hrg9.left_eq
          have hle := hrg.left_eq
          have b9 := b8.trans (d9.mono b8.size)
          have l9 : w.heap.size < (w8.alloc (.cells #[.slice q.A q.data.length q.c, .int .i64 (q.safe : Int)] 92)).heap.size := by have := d9.size; omega
          have hacb : acc + q.data.length ≤ 4611686018427387904 := by rw [HST.out] at hac; omega
          have hac2 : acc + q.data.length + sumL (fun z => left z && !z.sameKey (.string q.name)) fs = usedL fs := by rw [HST.out] at hac; omega
          have HAC := Lib.hid hac2
          clear hac hac2 hst HST hen hat hv hlk hqa hg8 hs8 hrg hrg8 b8 d9 hq hxl2 hkey
          go_upto_region 5 with fail
          generalize (w8.alloc (.cells #[.slice q.A q.data.length q.c, .int .i64 (q.safe : Int)] 92)) = w9 at *
          go_wp2_with fail
          go_roundw
          case rel => exact ⟨_, cnt8, acc + q.data.length, hrg9, by simp, HAC.out, b9, l9⟩
          case measure => rw [hleft, hle]; exact hlt8
        · rw [hhas] at hh; cases hh
end Go.Proofs.Ytbldfgpnghoigaa
