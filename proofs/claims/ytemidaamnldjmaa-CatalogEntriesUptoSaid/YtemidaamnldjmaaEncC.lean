/- An element appended to a row of the call's own, in one word; a text's bytes appended; lists of lists of bytes and of pairs as elements. Numbers and lists as bytes: codec.PutU, codec.Frame. A row of values as bytes: cell.Encode. (Printed by wip/gen_enc.py.) -/
import Derived.Test.YtemidaamnldjmaaOrdA
import Derived.Test.YtemidaamnldjmaaWordC
import Derived.Test.YtemidaamnldjmaaOrdIC
import Derived.Test.YtemidaamnldjmaaTruthC
import Derived.Lib.AppendStr
namespace Go.Proofs.Ytemidaamnldjmaa
open Go.RowKit

theorem wpList_appE {α : Type} (E : ER α) (b : Nat) (w0 w : World) {ops : Array Oper} {rest : List Oper} {o : Oper} {a : Act} {Q : Exit → Act → World → Prop} (hgd : o.guard = none) (s x : Operand) (t ty : TypeId)
    (ho : o.op = .call { callee := .builtin .append, args := #[s, x], argTypes := #[ty, ty] }) (i : TypeInfo) (z : Value) (ht : Try.prog.underlying ty = some (.slice t)) (hi : Try.prog.info? t = some i) (hz : i.zero = some z) (hsize : i.size = E.size) (hby : i.bytes = E.bytes) (hzs : z.cells.size = E.size)
    (S : Nat → Prop) (A : Option Addr) (xs : List α) (c : Nat) (hs : a.eval s = .slice A xs.length c) (hown : Own E t w b S (.slice A xs.length c) xs)
    (B : Option Addr) (us : List Value) (y : α) (d : Nat) (hx : a.eval x = .slice B 1 d) (Bd : Nat) (hr : Reads w Bd E.size B 1 us) (hrep : E.rep w (fun b => S b ∧ (Value.slice A xs.length c).ownBlock ≠ some b) us y)
    (hl : (xs.length + 1) * E.bytes ≤ 140737488355328) (hl2 : xs.length + 1 ≤ maxLen) (hb : Below w0.heap.size w0 w) (hb0 : w0.heap.size ≤ b) (hbw : b ≤ w.heap.size)
    (h : ∀ A' c' xs' w', Hid (xs' = xs ++ [y]) → Own E t w' b S (.slice A' xs'.length c') xs' → Below w0.heap.size w0 w' → w.grownBy w' (Value.slice A xs.length c).ownBlock → ((Value.slice A' xs'.length c').ownBlock = (Value.slice A xs.length c).ownBlock ∨ (Value.slice A' xs'.length c').ownBlock = some w.heap.size) → wpList Try.prog ops Q rest (a.put o.dst (.slice A' xs'.length c')) w') : wpList Try.prog ops Q (o :: rest) a w := by
  have hlt := Own.lt hown
  obtain ⟨vs, hown, hf⟩ := hown
  refine wpList_append_sh w hgd s x ty ho b t i z E.size E.bytes ht hi hz hsize hby hzs E.pos _ _ _ hs hown Bd B 1 d us hx hr (E.one hrep) hl2 hl hbw ?_
  intro A' c' w' o' g' t'
  have e : xs.length + 1 = (xs ++ [y]).length := by rw [List.length_append]; rfl
  have hst := Own.step (S := S) hf hrep o' g' t'
  rw [e] at hst t' ⊢
  exact h A' c' (xs ++ [y]) w' rfl hst (hb.grown g' hb.size fun j hj => by have := (hlt j hj).1; omega) g' t'

theorem strCells_eq (s : ByteArray) : Lib.strCells s = (strL s).map bval := by
  unfold Lib.strCells strL
  rfl
theorem wpList_appS (b : Nat) (w0 w : World) {ops : Array Oper} {rest : List Oper} {o : Oper} {a : Act} {Q : Exit → Act → World → Prop} (hgd : o.guard = none) (s x : Operand)
    (ho : o.op = .call { callee := .builtin .append, args := #[s, x], argTypes := #[29, 9] })
    (A : Option Addr) (acc : List UInt8) (c : Nat) (hs : a.eval s = .slice A acc.length c) (hown : OwnB b w A acc c)
    (str : ByteArray) (hx : a.eval x = .string str) (hl : acc.length + str.size ≤ 140737488355328) (hb : Below w0.heap.size w0 w) (hb0 : w0.heap.size ≤ b) (hbw : b ≤ w.heap.size)
    (h : ∀ A' c' acc' w', Hid (acc' = acc ++ strL str) → OwnB b w' A' acc' c' → Below w0.heap.size w0 w' → w.grownBy w' (Value.slice A acc.length c).ownBlock → wpList Try.prog ops Q rest (a.put o.dst (.slice A' acc'.length c')) w') : wpList Try.prog ops Q (o :: rest) a w := by
  obtain ⟨i0, hi0, hz0, hz1, hz2⟩ := info_parts Try.infoU8
  refine Lib.wpList_append_own_string w hgd s x _ _ ho b 5 i0 Try.underlying29 Try.underlying9 hi0 hz0 hz1 hz2 _ _ _ hs hown str hx (by simp only [maxLen]; omega) hl hbw ?_
  intro v' w' o' g' _
  have e : acc.length + str.size = (acc ++ strL str).length := by rw [List.length_append, strL_len]
  rw [e, strCells_eq, ← List.map_append] at o'
  obtain ⟨A', c', rfl⟩ := own_shape o'
  exact h A' c' (acc ++ strL str) w' rfl o' (hb.grown g' hb.size fun j hj => by have := (OwnB.lt hown j hj).1; omega) g'

/-- lists of bytes as elements -/
def BsE : ER (List UInt8) where
  size := 1
  pos := by omega
  bytes := 24
  bpos := by omega
  rep w S vs x := ∃ D c, vs = [.slice D x.length c] ∧ Bs w D x ∧ At S D x.length ∧ x.length ≤ c ∧ c ≤ 9223372036854775807
  len := by rintro w S vs a ⟨D, c, rfl, _⟩; rfl
  one := by rintro w S vs a ⟨D, c, rfl, _⟩ v hv; simp at hv; subst hv; rfl
  keep := by rintro w w' S vs a ⟨D, c, rfl, h, ha, h2⟩ hs; exact ⟨D, c, rfl, h.sameS ha hs, ha, h2⟩
  mono := by rintro w S S' vs a ⟨D, c, rfl, h, ha, h2⟩ hs; exact ⟨D, c, rfl, h, h.atMono ha hs, h2⟩
theorem BsE.at_ {w : World} {A : Option Addr} {S : Nat → Prop} {l : List (List UInt8)} (h : SlS BsE w S A l) {k : Nat} (hk : k < l.length) :
    ∃ ad D c, A = some ad ∧ ad.block < w.heap.size ∧ w.cell? (ad.add k) = some (.slice D l[k].length c) ∧ Bs w D l[k] ∧ At S D l[k].length ∧ l[k].length ≤ c ∧ c ≤ 9223372036854775807 := by
  obtain ⟨ad, vs, rfl, hb, ⟨D, c, rfl, h1⟩, h4, _, _⟩ := SlS.at_ h hk
  have := h4 _ rfl
  rw [show k * BsE.size = k from Nat.mul_one k] at this
  exact ⟨ad, D, c, rfl, hb, this, h1⟩
/-- pairs: a key and a value -/
def PairE : ER (List UInt8 × List UInt8) where
  size := 2
  pos := by omega
  bytes := 48
  bpos := by omega
  rep w S vs x := ∃ D c F d, vs = [.slice D x.1.length c, .slice F x.2.length d] ∧ (Bs w D x.1 ∧ At S D x.1.length ∧ x.1.length ≤ c ∧ c ≤ 9223372036854775807) ∧ Bs w F x.2 ∧ At S F x.2.length ∧ x.2.length ≤ d ∧ d ≤ 9223372036854775807
  len := by rintro w S vs a ⟨D, c, F, d, rfl, _⟩; rfl
  one := by rintro w S vs a ⟨D, c, F, d, rfl, _⟩ v hv; simp at hv; rcases hv with rfl | rfl <;> rfl
  keep := by rintro w w' S vs a ⟨D, c, F, d, rfl, ⟨h, ha, h2⟩, k, ka, k2⟩ hs; exact ⟨D, c, F, d, rfl, ⟨h.sameS ha hs, ha, h2⟩, k.sameS ka hs, ka, k2⟩
  mono := by rintro w S S' vs a ⟨D, c, F, d, rfl, ⟨h, ha, h2⟩, k, ka, k2⟩ hs; exact ⟨D, c, F, d, rfl, ⟨h, h.atMono ha hs, h2⟩, k, k.atMono ka hs, k2⟩
theorem PairE.at_ {w : World} {A : Option Addr} {S : Nat → Prop} {l : List (List UInt8 × List UInt8)} (h : SlS PairE w S A l) {k : Nat} (hk : k < l.length) :
    ∃ ad D c F d, A = some ad ∧ ad.block < w.heap.size ∧ w.cell? (ad.add (k * 2)) = some (.slice D l[k].1.length c) ∧ w.cell? ⟨(ad.add (k * 2)).block, (ad.add (k * 2)).off + 1, none⟩ = some (.slice F l[k].2.length d) ∧ (Bs w D l[k].1 ∧ At S D l[k].1.length ∧ l[k].1.length ≤ c ∧ c ≤ 9223372036854775807) ∧ Bs w F l[k].2 ∧ At S F l[k].2.length ∧ l[k].2.length ≤ d ∧ d ≤ 9223372036854775807 := by
  obtain ⟨ad, vs, rfl, hb, ⟨D, c, F, d, rfl, h1⟩, h4, _, h5⟩ := SlS.at_ h hk
  exact ⟨ad, D, c, F, d, rfl, hb, h4 _ rfl, h5 1 _ (by omega) rfl, h1⟩
theorem OwnB.at_ {b : Nat} {w : World} {A : Option Addr} {l : List UInt8} {c : Nat} (h : OwnB b w A l c) : At (fun g => b ≤ g ∧ g < w.heap.size) A l.length := own_at h
end Go.Proofs.Ytemidaamnldjmaa

namespace Go.Proofs.Ytemidaamnldjmaa
open Go.RowKit

/-- a number in groups of seven bits -/
def putU (n : Nat) : List UInt8 := if h : n < 128 then [UInt8.ofNat n] else UInt8.ofNat (n % 128 + 128) :: putU (n / 128)
termination_by n
decreasing_by omega
theorem putU_lt {n : Nat} (h : n < 128) : putU n = [UInt8.ofNat n] := by rw [putU, dif_pos h]
theorem putU_ge {n : Nat} (h : ¬ n < 128) : putU n = UInt8.ofNat (n % 128 + 128) :: putU (n / 128) := by rw [putU, dif_neg h]
set_option maxRecDepth 100000 in
theorem or_top : ∀ a : Nat, a < 256 → a ||| 128 = a % 128 + 128 := by decide
theorem or_top8 {z : Nat} : bits .or .u8 ((z : Int) % 256) 128 = ((z % 128 + 128 : Nat) : Int) := by
  have hw : (z : Int) % 256 = ((z % 256 : Nat) : Int) := by omega
  rw [hw]
  show IntKind.u8.wrap ((BitVec.ofInt 8 ((z % 256 : Nat) : Int) ||| BitVec.ofInt 8 128).toNat : Int) = _
  rw [BitVec.toNat_or]
  have e1 : (BitVec.ofInt 8 ((z % 256 : Nat) : Int)).toNat = z % 256 := by
    rw [BitVec.toNat_ofInt]; omega
  have e2 : (BitVec.ofInt 8 128).toNat = 128 := by decide
  rw [e1, e2, or_top _ (by omega)]
  simp only [IntKind.wrap]
  split <;> simp_all [IntKind.bits, IntKind.signed] <;> omega
theorem ofNat8 {n : Nat} (h : n < 256) : ((UInt8.ofNat n).toNat : Int) = (n : Int) := by
  have : (UInt8.ofNat n).toNat = n := by simp [Nat.mod_eq_of_lt h]
  rw [this]

set_option maxRecDepth 100000 in
set_option maxHeartbeats 2000000 in
theorem putu_any (n : Nat) (hn : n ≤ 35184372088832) (w : World) : Calls Try.prog 64 #[.int .u64 (n : Int)] w (RetBs (putU n) w) := by
  go_enter Try.func64, Try.ntmps64
  go_wp2_with fail
  go_loopw [0, 3] (fun z o wr => ∃ (k : Nat) (acc : List UInt8) (B : Option Addr) (d : Nat), z = .int .u64 (k : Int) ∧ o = .slice B acc.length d ∧ OwnB w.heap.size wr B acc d ∧ acc ++ putU k = putU n ∧ acc.length + k ≤ n ∧ Below w.heap.size w wr) (fun z _ _ => (intOf z).toNat)
  case atStart => exact ⟨n, [], _, _, rfl, rfl, OwnB.nil_ _ _, rfl, by simp, Below.refl _ _⟩
  case round =>
    obtain ⟨k, acc, B, d, rfl, rfl, o, ha, hal, br⟩ := hrel
    have HA := Lib.hid ha
    clear ha
    have zr := br.size
    by_cases hlt : k < 128
    · have z1 : (k : Int) < 128 := by omega
      have HE : Hid (acc ++ [UInt8.ofNat k] = putU n) := by show _ = _; rw [← HA.out, putU_lt hlt]
      have hl := Bs.lit wr [UInt8.ofNat k] 5 (by simp)
      rw [show ([UInt8.ofNat k] : List UInt8).map bval = [.int .u8 (k : Int)] from by simp only [List.map_cons, List.map_nil, bval, ofNat8 (show k < 256 by omega)]] at hl
      have dX : Below wr.heap.size wr (wr.alloc (.cells #[.int .u8 (k : Int)] 5)) := (Below.refl _ _).alloc (Nat.le_refl _) _
      have bX := br.trans (dX.mono zr)
      have oX := o.below dX
      clear HA
      go_wp2_with (at_builtin; refine wpList_app w.heap.size w _ rfl (.tmp 14) (.tmp 17) rfl B acc d rfl oX _ [UInt8.ofNat k] 1 rfl hl (by rw [List.length_singleton]; omega) bX (Nat.le_refl _) bX.size ?_; intro B1 d1 acc1 w1 H1 o1 b1 g1 t1)
      go_ret
      rw [← HE.out, ← H1.out]
      exact ret_own o1 b1
    · have z1 : ¬ (k : Int) < 128 := by omega
      have HE : Hid ((acc ++ [UInt8.ofNat (k % 128 + 128)]) ++ putU (k / 128) = putU n) := by show _ = _; rw [← HA.out, putU_ge hlt]; simp
      have hor := or_top8 (z := k)
      have hl := Bs.lit wr [UInt8.ofNat (k % 128 + 128)] 5 (by simp)
      rw [show ([UInt8.ofNat (k % 128 + 128)] : List UInt8).map bval = [.int .u8 ((k % 128 + 128 : Nat) : Int)] from by simp only [List.map_cons, List.map_nil, bval, ofNat8 (show k % 128 + 128 < 256 by omega)]] at hl
      generalize hq : ((k % 128 + 128 : Nat) : Int) = q at hl hor
      have HQ := Lib.hid hq
      clear hq
      have dX : Below wr.heap.size wr (wr.alloc (.cells #[.int .u8 q] 5)) := (Below.refl _ _).alloc (Nat.le_refl _) _
      have bX := br.trans (dX.mono zr)
      have oX := o.below dX
      clear HA
      go_wp2_with (at_builtin; refine wpList_app w.heap.size w _ rfl (.tmp 6) (.tmp 10) rfl B acc d rfl oX _ [UInt8.ofNat (k % 128 + 128)] 1 rfl hl (by rw [List.length_singleton]; omega) bX (Nat.le_refl _) bX.size ?_; intro B1 d1 acc1 w1 H1 o1 b1 g1 t1)
      go_roundw
      case rel => exact ⟨k / 128, acc1, B1, d1, by simp, rfl, o1, by rw [H1.out]; exact HE.out, by rw [H1.out, List.length_append, List.length_singleton]; omega, b1⟩
      case measure => simp [intOf]; omega
theorem putU_len (n : Nat) (hn : n ≤ 35184372088832) : (putU n).length ≤ n + 1 := by
  induction n using Nat.strongRecOn with
  | ind n ih =>
    by_cases h : n < 128
    · rw [putU_lt h]; simp
    · rw [putU_ge h, List.length_cons]
      have := ih (n / 128) (by omega) (by omega)
      omega
/-- each part with its length -/
def frameL (ls : List (List UInt8)) : List UInt8 := ls.flatMap fun p => putU p.length ++ p
theorem frameL_drop {ls : List (List UInt8)} {k : Nat} (h : k < ls.length) : frameL (ls.drop k) = putU ls[k].length ++ (ls[k] ++ frameL (ls.drop (k + 1))) := by
  rw [List.drop_eq_getElem_cons h]
  show (putU ls[k].length ++ ls[k]) ++ frameL (ls.drop (k + 1)) = _
  rw [List.append_assoc]

set_option maxRecDepth 100000 in
set_option maxHeartbeats 2000000 in
theorem frame_any (ls : List (List UInt8)) (A : Option Addr) (c : Nat) (w : World) (hA : Sl BsE w A ls) (hsm : ∀ l ∈ ls, l.length ≤ 16777216) (hlen : ls.length ≤ 4096) : Calls Try.prog 55 #[.slice A ls.length c] w (RetBs (frameL ls) w) := by
  have HSM := Lib.hid hsm
  clear hsm
  go_enter Try.func55, Try.ntmps55
  go_wp2_with fail
  go_loopw [3, 5, 8] (fun o _ i wr => ∃ (k : Nat) (acc : List UInt8) (B : Option Addr) (d : Nat), k ≤ ls.length ∧ i = .int .i64 (k : Int) ∧ o = .slice B acc.length d ∧ OwnB w.heap.size wr B acc d ∧ acc ++ frameL (ls.drop k) = frameL ls ∧ acc.length ≤ 67108864 * k ∧ Below w.heap.size w wr) (fun _ _ i _ => ls.length - (intOf i).toNat)
  case atStart => exact ⟨0, [], _, _, Nat.zero_le _, rfl, rfl, OwnB.nil_ _ _, rfl, by simp, Below.refl _ _⟩
  case round =>
    obtain ⟨k, acc, B, d, hk, rfl, rfl, o, ha, hal, br⟩ := hrel
    have HA := Lib.hid ha
    clear ha
    have zr := br.size
    by_cases hlt : k < ls.length
    · have hlt' : (k : Int) < (ls.length : Int) := by omega
      have HD := Lib.hid (frameL_drop hlt)
      have hll : ls[k].length ≤ 16777216 := HSM.out _ (List.getElem_mem hlt)
      obtain ⟨ad, D, c0, rfl, h1, hc, hD, hat, _, _⟩ := BsE.at_ (hA.old.below br) hlt
      have HE : Hid ((acc ++ putU ls[k].length) ++ ls[k] ++ frameL (ls.drop (k + 1)) = frameL ls) := by show _ = _; rw [← HA.out, HD.out]; simp only [List.append_assoc]
      generalize ls[k] = l at *
      clear HA HD
      go_wp2_with fail
      refine (putu_any l.length (by omega) wr).mono ?_
      rintro en w2 ⟨A2, c2, rfl, o2, b2⟩
      have hpl := putU_len l.length (by omega)
      have b02 := br.trans (b2.mono zr)
      have oX := o.below b2
      have hD2 := hD.below b2
      have hP : Bs w2 A2 (putU l.length) := Bs.of_own o2 (by omega)
      have hnr : At (fun b => (Value.slice B acc.length d).ownBlock ≠ some b) D l.length := fun ad e hn hr => by have h1 := hat ad e hn; have h2 := (OwnB.lt o _ hr).1; omega
      generalize putU l.length = P at *
      go_wp2_with (at_builtin; first
        | (refine wpList_app w.heap.size w _ rfl (.tmp 12) (.tmp 16) rfl B acc d rfl oX _ P _ rfl hP (by omega) b02 (Nat.le_refl _) b02.size ?_; intro B1 d1 acc1 w3 H1 o1 b1 g1 t1; have L1 : acc1.length ≤ acc.length + P.length := (by rw [H1.out, List.length_append]; exact Nat.le_refl _); have hD3 := hD2.grown g1 hnr)
        | (refine wpList_app w.heap.size w _ rfl (.tmp 17) (.tmp 18) rfl B1 acc1 d1 rfl o1 _ l _ rfl hD3 (by omega) b1 (Nat.le_refl _) b1.size ?_; intro B2 d2 acc2 w4 H2 o2' b4 g2 t2))
      go_roundw
      case rel => exact ⟨k + 1, acc2, B2, d2, by omega, by go_num, rfl, o2', by rw [H2.out, H1.out]; exact HE.out, by rw [H2.out, List.length_append]; omega, b4⟩
      case measure => simp [intOf]; omega
    · obtain rfl : k = ls.length := by omega
      have HE : Hid (acc = frameL ls) := by show _ = _; rw [← HA.out, List.drop_length]; simp [frameL]
      clear HA
      go_wp2_with fail
      go_ret
      rw [← HE.out]
      exact ret_own o br
end Go.Proofs.Ytemidaamnldjmaa

namespace Go.Proofs.Ytemidaamnldjmaa
open Go.RowKit

theorem Own.far {α : Type} {E : ER α} {t : TypeId} {w w' : World} {B lo hi : Nat} {v : Value} {xs : List α} {row : Option Nat} (o : Own E t w B (fun b => lo ≤ b ∧ b < hi) v xs) (hv : ∀ g, v.ownBlock = some g → g < hi) (hg : w.grownBy w' row) (hr : ∀ b, row = some b → hi ≤ b) :
    Own E t w' B (fun b => lo ≤ b ∧ b < hi) v xs := Own.grown o hg fun b e => ⟨fun e2 => by have := hv b e2; have := hr b e; omega, fun hs => by have := hr b e; omega⟩
theorem ownlit2 (w : World) (o : Obj) (l : List UInt8) (hl : l.length ≤ 140737488355328) : OwnB (w.heap.size + 1) ((w.alloc o).alloc (.cells (l.map bval).toArray 5)) (some ⟨w.heap.size + 1, 0, none⟩) l l.length := by
  have hb := Blk.new (w.alloc o) 5 (l.map bval).toArray
  rw [show (w.alloc o).heap.size = w.heap.size + 1 from by simp] at hb
  have := own_of_blk (base := w.heap.size + 1) (xs := l.map bval) hb (Nat.le_refl _) (by rw [List.length_map]; simp only [maxLen]; omega)
  rw [List.length_map] at this
  exact this
/-- a value's part of a row's bytes -/
def LVal.part : LVal → List UInt8
  | .null => [0]
  | .bool b => [1, if b then 1 else 0]
  | .int n => 2 :: okey n
  | .text s => 3 :: strL s
  | .bytes l => 4 :: l
  | .other _ => []
theorem part_len {x : LVal} (h : x.sm) : x.part.length ≤ 16777216 := by
  obtain ⟨h1, h2⟩ := h
  cases x with
  | null => exact by decide
  | bool b => show 2 ≤ 16777216; decide
  | other n => show 0 ≤ 16777216; decide
  | int n => show (2 :: okey n).length ≤ _; rw [List.length_cons, okey_len]; decide
  | text s =>
    have h3 : s.size ≤ 1048576 := h1
    show (3 :: strL s).length ≤ _
    rw [List.length_cons, strL_len]; omega
  | bytes l =>
    have h3 : l.length ≤ 1048576 := h2
    show (4 :: l).length ≤ _
    rw [List.length_cons]; omega
/-- a row's bytes -/
def encL (xs : List LVal) : List UInt8 := frameL (xs.map LVal.part)

set_option maxRecDepth 100000 in
set_option maxHeartbeats 8000000 in
theorem enc_any (xs : List LVal) (A : Option Addr) (c : Nat) (w : World) (hA : Sl AnyE w A xs) (hsm : ∀ x ∈ xs, x.sm) (hx : ∀ x ∈ xs, x.err = 0 ∧ x.wfv) (hlen : xs.length ≤ 4096) :
    Calls Try.prog 30 #[.slice A xs.length c] w (RetKey (encL xs) w) := by
  obtain ⟨i1, hi1, hy0, hy1, hy2⟩ := info_parts Try.infoBs
  have HSM := Lib.hid hsm
  have HX := Lib.hid hx
  clear hsm hx
  go_enter Try.func30, Try.ntmps30
  go_wp2_with fail
  go_loopw [4, 6, 7, 8, 9, 12] (fun o _ _ _ _ i wr => ∃ (k : Nat) (ps : List (List UInt8)) (B : Option Addr) (d : Nat), k ≤ xs.length ∧ i = .int .i64 (k : Int) ∧ o = .slice B ps.length d ∧ Own BsE 29 wr w.heap.size (fun b => w.heap.size ≤ b ∧ b < wr.heap.size) (.slice B ps.length d) ps ∧ ps = (xs.take k).map LVal.part ∧ ps.length ≤ k ∧ Below w.heap.size w wr) (fun _ _ _ _ _ i _ => xs.length - (intOf i).toNat)
  case atStart => exact ⟨0, [], none, 0, Nat.zero_le _, rfl, rfl, Own.nil_ BsE _ _ _ _, rfl, Nat.le_refl _, Below.refl _ _⟩
  case round =>
    obtain ⟨k, ps, B, d, hk, rfl, rfl, o, hp, hpl, br⟩ := hrel
    have HP := Lib.hid hp
    clear hp
    have zr := br.size
    by_cases hlt : k < xs.length
    · have hlt' : (k : Int) < (xs.length : Int) := by omega
      have hsmx : LVal.sm xs[k] := HSM.out _ (List.getElem_mem hlt)
      obtain ⟨herr, hwf⟩ := HX.out _ (List.getElem_mem hlt)
      obtain ⟨ad, v, rfl, h1, h2, hv0⟩ := AnyE.at_ (hA.below br) hlt
      obtain ⟨x, hxx⟩ : ∃ x, xs[k] = x := ⟨_, rfl⟩
      rw [hxx] at hv0 hsmx herr hwf
      have HXX := Lib.hid hxx
      clear hxx
      have hv : AnyV wr Any v x := hv0
      clear hv0
      cases x with
      | other n => exact absurd herr (show ¬ ((10 : Int) = 0) by decide)
      | null =>
        go_wp2_with fail
        refine (cell_any v .null wr hv).mono ?_
        rintro en w2 ⟨D2, c2, rfl, hD2, hat2, b2⟩
        simp only [LVal.kind, LVal.b, LVal.n, LVal.t, LVal.l, LVal.err, List.length_nil]
        have z2 := b2.size
        have bc := br.trans (b2.mono zr)
        have oc := Own.below o b2
        have dX : Below w2.heap.size w2 ((w2.alloc (.cells #[.int .i64 0, .bool false, .int .i64 0, .string ⟨#[]⟩, .slice D2 0 c2] 95)).alloc (.cells #[.int .u8 0] 5)) := ((Below.refl _ _).alloc (Nat.le_refl _) _).alloc (by simp) _
        have bX := bc.trans (dX.mono bc.size)
        have oX := Own.below oc (w' := ((w2.alloc (.cells #[.int .i64 0, .bool false, .int .i64 0, .string ⟨#[]⟩, .slice D2 0 c2] 95)).alloc (.cells #[.int .u8 0] 5))) dX
        have oP0 : OwnB (w2.heap.size + 1) ((w2.alloc (.cells #[.int .i64 0, .bool false, .int .i64 0, .string ⟨#[]⟩, .slice D2 0 c2] 95)).alloc (.cells #[.int .u8 0] 5)) (some ⟨w2.heap.size + 1, 0, none⟩) [0] 1 := ownlit2 w2 (.cells #[.int .i64 0, .bool false, .int .i64 0, .string ⟨#[]⟩, .slice D2 0 c2] 95) [0] (by decide)
        have lX := (OwnB.lt oP0 (w2.heap.size + 1) rfl).2
        go_upto_region 18 with fail
        generalize ((w2.alloc (.cells #[.int .i64 0, .bool false, .int .i64 0, .string ⟨#[]⟩, .slice D2 0 c2] 95)).alloc (.cells #[.int .u8 0] 5)) = X at *
        have zE := (bX).size; have dZ : Below X.heap.size X (X.alloc (.cells #[.slice (some ⟨w2.heap.size + 1, 0, none⟩) [0].length 1] 29)) := (Below.refl _ _).alloc (Nat.le_refl _) _; have bZ := (bX).trans (dZ.mono zE); have oZ0 : Own BsE 29 X w.heap.size (fun b => w.heap.size ≤ b ∧ b < X.heap.size) (.slice B ps.length d) ps := Own.mono oX (fun b hb _ hs => ⟨hs.1, hb⟩); have oZ := Own.below oZ0 dZ; have hbsE := (OwnB.bs oP0 (by decide)).below dZ; have capE := OwnB.caps oP0; have hatE : At (fun b => (w.heap.size ≤ b ∧ b < X.heap.size) ∧ (Value.slice B ps.length d).ownBlock ≠ some b) (some ⟨w2.heap.size + 1, 0, none⟩) [0].length := (fun ad e hn => by have h1 := OwnB.at_ oP0 ad e hn; refine ⟨⟨by omega, h1.2⟩, fun e2 => ?_⟩; have := (Own.lt o _ e2).2; omega)
        go_wp2_with (at_builtin; (refine wpList_appE BsE w.heap.size w _ rfl (.tmp 58) (.tmp 60) 29 84 rfl i1 _ Try.underlying84 hi1 hy0 hy1 hy2 rfl _ B ps d rfl oZ _ [.slice (some ⟨w2.heap.size + 1, 0, none⟩) [0].length 1] [0] 1 rfl _ (Reads.new1 _ _ _) ⟨(some ⟨w2.heap.size + 1, 0, none⟩), 1, rfl, hbsE, hatE, capE⟩ (by simp only [BsE]; omega) (by simp only [maxLen]; omega) bZ (Nat.le_refl _) bZ.size ?_; intro B9 d9 ps9 w9 H9 o9 b9 g9 t9))
        go_roundw
        case rel => exact ⟨k + 1, ps9, B9, d9, by omega, by go_num, rfl, Own.mono o9 (fun b hb _ hs => ⟨hs.1, hb⟩), by rw [H9.out, HP.out, List.take_succ_eq_append_getElem hlt, List.map_append, HXX.out]; rfl, by rw [H9.out, List.length_append, List.length_singleton]; omega, b9⟩
        case measure => simp [intOf]; omega
      | bool b =>
        cases b with
        | true =>
          go_wp2_with fail
          refine (cell_any v (.bool true) wr hv).mono ?_
          rintro en w2 ⟨D2, c2, rfl, hD2, hat2, b2⟩
          simp only [LVal.kind, LVal.b, LVal.n, LVal.t, LVal.l, LVal.err, List.length_nil]
          have z2 := b2.size
          have bc := br.trans (b2.mono zr)
          have oc := Own.below o b2
          have dX : Below w2.heap.size w2 ((w2.alloc (.cells #[.int .i64 1, .bool true, .int .i64 0, .string ⟨#[]⟩, .slice D2 0 c2] 95)).alloc (.cells #[.int .u8 1] 5)) := ((Below.refl _ _).alloc (Nat.le_refl _) _).alloc (by simp) _
          have bX := bc.trans (dX.mono bc.size)
          have oX := Own.below oc (w' := ((w2.alloc (.cells #[.int .i64 1, .bool true, .int .i64 0, .string ⟨#[]⟩, .slice D2 0 c2] 95)).alloc (.cells #[.int .u8 1] 5))) dX
          have oP0 : OwnB (w2.heap.size + 1) ((w2.alloc (.cells #[.int .i64 1, .bool true, .int .i64 0, .string ⟨#[]⟩, .slice D2 0 c2] 95)).alloc (.cells #[.int .u8 1] 5)) (some ⟨w2.heap.size + 1, 0, none⟩) [1] 1 := ownlit2 w2 (.cells #[.int .i64 1, .bool true, .int .i64 0, .string ⟨#[]⟩, .slice D2 0 c2] 95) [1] (by decide)
          have lX := (OwnB.lt oP0 (w2.heap.size + 1) rfl).2
          go_wp2_with fail
          refine (truth_any true _).mono ?_
          rintro en wt ⟨rfl, rfl⟩
          simp only [if_true]
          generalize ((w2.alloc (.cells #[.int .i64 1, .bool true, .int .i64 0, .string ⟨#[]⟩, .slice D2 0 c2] 95)).alloc (.cells #[.int .u8 1] 5)) = X at *
          have dY : Below X.heap.size X (X.alloc (.cells #[.int .u8 1] 5)) := (Below.refl _ _).alloc (Nat.le_refl _) _
          have bY := bX.trans (dY.mono bX.size)
          have oY := OwnB.below oP0 dY
          have oXY := Own.below oX dY
          go_wp2_with (at_builtin; first | (refine wpList_app (w2.heap.size + 1) w _ rfl (.tmp 32) (.tmp 37) rfl (some ⟨w2.heap.size + 1, 0, none⟩) [1] 1 rfl oY _ [1] 1 rfl (Bs.lit X [1] _ (by decide)) (by decide) bY (by omega) (Nat.le_of_lt (Nat.lt_of_lt_of_le lX dY.size)) ?_; intro A1 d1 acc1 w5 H1 o1 b1 g1 t1; have L1 : acc1.length ≤ 16777216 := (by rw [H1.out]; show 2 ≤ 16777216; decide); have oPE := Own.far oXY (fun g e => (Own.lt o g e).2) g1 (fun b e => by have := (OwnB.lt oP0 b e).1; omega); have zE := (b1).size; have dZ : Below w5.heap.size w5 (w5.alloc (.cells #[.slice A1 acc1.length d1] 29)) := (Below.refl _ _).alloc (Nat.le_refl _) _; have bZ := (b1).trans (dZ.mono zE); have oZ0 : Own BsE 29 w5 w.heap.size (fun b => w.heap.size ≤ b ∧ b < w5.heap.size) (.slice B ps.length d) ps := Own.mono oPE (fun b hb _ hs => ⟨hs.1, hb⟩); have oZ := Own.below oZ0 dZ; have hbsE := (OwnB.bs o1 (by omega)).below dZ; have capE := OwnB.caps o1; have hatE : At (fun b => (w.heap.size ≤ b ∧ b < w5.heap.size) ∧ (Value.slice B ps.length d).ownBlock ≠ some b) A1 acc1.length := (fun ad e hn => by have h1 := OwnB.at_ o1 ad e hn; refine ⟨⟨by omega, h1.2⟩, fun e2 => ?_⟩; have := (Own.lt o _ e2).2; omega); skip) | (refine wpList_appE BsE w.heap.size w _ rfl (.tmp 58) (.tmp 60) 29 84 rfl i1 _ Try.underlying84 hi1 hy0 hy1 hy2 rfl _ B ps d rfl oZ _ [.slice A1 acc1.length d1] acc1 1 rfl _ (Reads.new1 _ _ _) ⟨A1, d1, rfl, hbsE, hatE, capE⟩ (by simp only [BsE]; omega) (by simp only [maxLen]; omega) bZ (Nat.le_refl _) bZ.size ?_; intro B9 d9 ps9 w9 H9 o9 b9 g9 t9))
          go_roundw
          case rel => exact ⟨k + 1, ps9, B9, d9, by omega, by go_num, rfl, Own.mono o9 (fun b hb _ hs => ⟨hs.1, hb⟩), by rw [H9.out, HP.out, List.take_succ_eq_append_getElem hlt, List.map_append, HXX.out, H1.out]; rfl, by rw [H9.out, List.length_append, List.length_singleton]; omega, b9⟩
          case measure => simp [intOf]; omega
        | false =>
          go_wp2_with fail
          refine (cell_any v (.bool false) wr hv).mono ?_
          rintro en w2 ⟨D2, c2, rfl, hD2, hat2, b2⟩
          simp only [LVal.kind, LVal.b, LVal.n, LVal.t, LVal.l, LVal.err, List.length_nil]
          have z2 := b2.size
          have bc := br.trans (b2.mono zr)
          have oc := Own.below o b2
          have dX : Below w2.heap.size w2 ((w2.alloc (.cells #[.int .i64 1, .bool false, .int .i64 0, .string ⟨#[]⟩, .slice D2 0 c2] 95)).alloc (.cells #[.int .u8 1] 5)) := ((Below.refl _ _).alloc (Nat.le_refl _) _).alloc (by simp) _
          have bX := bc.trans (dX.mono bc.size)
          have oX := Own.below oc (w' := ((w2.alloc (.cells #[.int .i64 1, .bool false, .int .i64 0, .string ⟨#[]⟩, .slice D2 0 c2] 95)).alloc (.cells #[.int .u8 1] 5))) dX
          have oP0 : OwnB (w2.heap.size + 1) ((w2.alloc (.cells #[.int .i64 1, .bool false, .int .i64 0, .string ⟨#[]⟩, .slice D2 0 c2] 95)).alloc (.cells #[.int .u8 1] 5)) (some ⟨w2.heap.size + 1, 0, none⟩) [1] 1 := ownlit2 w2 (.cells #[.int .i64 1, .bool false, .int .i64 0, .string ⟨#[]⟩, .slice D2 0 c2] 95) [1] (by decide)
          have lX := (OwnB.lt oP0 (w2.heap.size + 1) rfl).2
          go_wp2_with fail
          refine (truth_any false _).mono ?_
          rintro en wt ⟨rfl, rfl⟩
          simp only [if_false, Bool.false_eq_true]
          generalize ((w2.alloc (.cells #[.int .i64 1, .bool false, .int .i64 0, .string ⟨#[]⟩, .slice D2 0 c2] 95)).alloc (.cells #[.int .u8 1] 5)) = X at *
          have dY : Below X.heap.size X (X.alloc (.cells #[.int .u8 0] 5)) := (Below.refl _ _).alloc (Nat.le_refl _) _
          have bY := bX.trans (dY.mono bX.size)
          have oY := OwnB.below oP0 dY
          have oXY := Own.below oX dY
          go_wp2_with (at_builtin; first | (refine wpList_app (w2.heap.size + 1) w _ rfl (.tmp 32) (.tmp 37) rfl (some ⟨w2.heap.size + 1, 0, none⟩) [1] 1 rfl oY _ [0] 1 rfl (Bs.lit X [0] _ (by decide)) (by decide) bY (by omega) (Nat.le_of_lt (Nat.lt_of_lt_of_le lX dY.size)) ?_; intro A1 d1 acc1 w5 H1 o1 b1 g1 t1; have L1 : acc1.length ≤ 16777216 := (by rw [H1.out]; show 2 ≤ 16777216; decide); have oPE := Own.far oXY (fun g e => (Own.lt o g e).2) g1 (fun b e => by have := (OwnB.lt oP0 b e).1; omega); have zE := (b1).size; have dZ : Below w5.heap.size w5 (w5.alloc (.cells #[.slice A1 acc1.length d1] 29)) := (Below.refl _ _).alloc (Nat.le_refl _) _; have bZ := (b1).trans (dZ.mono zE); have oZ0 : Own BsE 29 w5 w.heap.size (fun b => w.heap.size ≤ b ∧ b < w5.heap.size) (.slice B ps.length d) ps := Own.mono oPE (fun b hb _ hs => ⟨hs.1, hb⟩); have oZ := Own.below oZ0 dZ; have hbsE := (OwnB.bs o1 (by omega)).below dZ; have capE := OwnB.caps o1; have hatE : At (fun b => (w.heap.size ≤ b ∧ b < w5.heap.size) ∧ (Value.slice B ps.length d).ownBlock ≠ some b) A1 acc1.length := (fun ad e hn => by have h1 := OwnB.at_ o1 ad e hn; refine ⟨⟨by omega, h1.2⟩, fun e2 => ?_⟩; have := (Own.lt o _ e2).2; omega); skip) | (refine wpList_appE BsE w.heap.size w _ rfl (.tmp 58) (.tmp 60) 29 84 rfl i1 _ Try.underlying84 hi1 hy0 hy1 hy2 rfl _ B ps d rfl oZ _ [.slice A1 acc1.length d1] acc1 1 rfl _ (Reads.new1 _ _ _) ⟨A1, d1, rfl, hbsE, hatE, capE⟩ (by simp only [BsE]; omega) (by simp only [maxLen]; omega) bZ (Nat.le_refl _) bZ.size ?_; intro B9 d9 ps9 w9 H9 o9 b9 g9 t9))
          go_roundw
          case rel => exact ⟨k + 1, ps9, B9, d9, by omega, by go_num, rfl, Own.mono o9 (fun b hb _ hs => ⟨hs.1, hb⟩), by rw [H9.out, HP.out, List.take_succ_eq_append_getElem hlt, List.map_append, HXX.out, H1.out]; rfl, by rw [H9.out, List.length_append, List.length_singleton]; omega, b9⟩
          case measure => simp [intOf]; omega
      | int n =>
        go_wp2_with fail
        refine (cell_any v (.int n) wr hv).mono ?_
        rintro en w2 ⟨D2, c2, rfl, hD2, hat2, b2⟩
        simp only [LVal.kind, LVal.b, LVal.n, LVal.t, LVal.l, LVal.err, List.length_nil]
        have z2 := b2.size
        have bc := br.trans (b2.mono zr)
        have oc := Own.below o b2
        have dX : Below w2.heap.size w2 ((w2.alloc (.cells #[.int .i64 2, .bool false, .int .i64 n, .string ⟨#[]⟩, .slice D2 0 c2] 95)).alloc (.cells #[.int .u8 2] 5)) := ((Below.refl _ _).alloc (Nat.le_refl _) _).alloc (by simp) _
        have bX := bc.trans (dX.mono bc.size)
        have oX := Own.below oc (w' := ((w2.alloc (.cells #[.int .i64 2, .bool false, .int .i64 n, .string ⟨#[]⟩, .slice D2 0 c2] 95)).alloc (.cells #[.int .u8 2] 5))) dX
        have oP0 : OwnB (w2.heap.size + 1) ((w2.alloc (.cells #[.int .i64 2, .bool false, .int .i64 n, .string ⟨#[]⟩, .slice D2 0 c2] 95)).alloc (.cells #[.int .u8 2] 5)) (some ⟨w2.heap.size + 1, 0, none⟩) [2] 1 := ownlit2 w2 (.cells #[.int .i64 2, .bool false, .int .i64 n, .string ⟨#[]⟩, .slice D2 0 c2] 95) [2] (by decide)
        have lX := (OwnB.lt oP0 (w2.heap.size + 1) rfl).2
        go_wp2_with fail
        refine (ordi_any n hwf.1 hwf.2 _).mono ?_
        rintro en w6 ⟨A6, c6, rfl, o6, b6⟩
        have hok := okey_len n
        have bs6 : Bs w6 A6 (okey n) := Bs.of_own o6 (by omega)
        have HOK := Lib.hid hok
        have hok2 : (okey n).length ≤ 8 := by omega
        clear hok
        have bY := bX.trans (b6.mono bX.size)
        have oY := OwnB.below oP0 b6
        have oXY := Own.below oX b6
        have lY := Nat.lt_of_lt_of_le lX b6.size
        go_wp2_with (at_builtin; first | (refine wpList_app (w2.heap.size + 1) w _ rfl (.tmp 41) (.tmp 44) rfl (some ⟨w2.heap.size + 1, 0, none⟩) [2] 1 rfl oY A6 (okey n) c6 rfl bs6 (by rw [List.length_singleton]; omega) bY (by omega) (Nat.le_of_lt lY) ?_; intro A1 d1 acc1 w5 H1 o1 b1 g1 t1; have L1 : acc1.length ≤ 16777216 := (by rw [H1.out, List.length_append, List.length_singleton]; omega); have oPE := Own.far oXY (fun g e => (Own.lt o g e).2) g1 (fun b e => by have := (OwnB.lt oP0 b e).1; omega); have zE := (b1).size; have dZ : Below w5.heap.size w5 (w5.alloc (.cells #[.slice A1 acc1.length d1] 29)) := (Below.refl _ _).alloc (Nat.le_refl _) _; have bZ := (b1).trans (dZ.mono zE); have oZ0 : Own BsE 29 w5 w.heap.size (fun b => w.heap.size ≤ b ∧ b < w5.heap.size) (.slice B ps.length d) ps := Own.mono oPE (fun b hb _ hs => ⟨hs.1, hb⟩); have oZ := Own.below oZ0 dZ; have hbsE := (OwnB.bs o1 (by omega)).below dZ; have capE := OwnB.caps o1; have hatE : At (fun b => (w.heap.size ≤ b ∧ b < w5.heap.size) ∧ (Value.slice B ps.length d).ownBlock ≠ some b) A1 acc1.length := (fun ad e hn => by have h1 := OwnB.at_ o1 ad e hn; refine ⟨⟨by omega, h1.2⟩, fun e2 => ?_⟩; have := (Own.lt o _ e2).2; omega); skip) | (refine wpList_appE BsE w.heap.size w _ rfl (.tmp 58) (.tmp 60) 29 84 rfl i1 _ Try.underlying84 hi1 hy0 hy1 hy2 rfl _ B ps d rfl oZ _ [.slice A1 acc1.length d1] acc1 1 rfl _ (Reads.new1 _ _ _) ⟨A1, d1, rfl, hbsE, hatE, capE⟩ (by simp only [BsE]; omega) (by simp only [maxLen]; omega) bZ (Nat.le_refl _) bZ.size ?_; intro B9 d9 ps9 w9 H9 o9 b9 g9 t9))
        go_roundw
        case rel => exact ⟨k + 1, ps9, B9, d9, by omega, by go_num, rfl, Own.mono o9 (fun b hb _ hs => ⟨hs.1, hb⟩), by rw [H9.out, HP.out, List.take_succ_eq_append_getElem hlt, List.map_append, HXX.out, H1.out]; rfl, by rw [H9.out, List.length_append, List.length_singleton]; omega, b9⟩
        case measure => simp [intOf]; omega
      | text s =>
        go_wp2_with fail
        refine (cell_any v (.text s) wr hv).mono ?_
        rintro en w2 ⟨D2, c2, rfl, hD2, hat2, b2⟩
        simp only [LVal.kind, LVal.b, LVal.n, LVal.t, LVal.l, LVal.err, List.length_nil]
        have z2 := b2.size
        have bc := br.trans (b2.mono zr)
        have oc := Own.below o b2
        have dX : Below w2.heap.size w2 ((w2.alloc (.cells #[.int .i64 3, .bool false, .int .i64 0, .string s, .slice D2 0 c2] 95)).alloc (.cells #[.int .u8 3] 5)) := ((Below.refl _ _).alloc (Nat.le_refl _) _).alloc (by simp) _
        have bX := bc.trans (dX.mono bc.size)
        have oX := Own.below oc (w' := ((w2.alloc (.cells #[.int .i64 3, .bool false, .int .i64 0, .string s, .slice D2 0 c2] 95)).alloc (.cells #[.int .u8 3] 5))) dX
        have oP0 : OwnB (w2.heap.size + 1) ((w2.alloc (.cells #[.int .i64 3, .bool false, .int .i64 0, .string s, .slice D2 0 c2] 95)).alloc (.cells #[.int .u8 3] 5)) (some ⟨w2.heap.size + 1, 0, none⟩) [3] 1 := ownlit2 w2 (.cells #[.int .i64 3, .bool false, .int .i64 0, .string s, .slice D2 0 c2] 95) [3] (by decide)
        have lX := (OwnB.lt oP0 (w2.heap.size + 1) rfl).2
        have h3s : s.size ≤ 1048576 := hsmx.1
        go_upto_region 15 with fail
        have y3b : ((w2.alloc (.cells #[.int .i64 3, .bool false, .int .i64 0, .string s, .slice D2 0 c2] 95)).alloc (.cells #[.int .u8 3] 5)).cell? ⟨w2.heap.size, 3, none⟩ = some (.string s) := ((Blk.new w2 95 #[.int .i64 3, .bool false, .int .i64 0, .string s, .slice D2 0 c2]).alloc (.cells #[.int .u8 3] 5)).cell 3
        generalize ((w2.alloc (.cells #[.int .i64 3, .bool false, .int .i64 0, .string s, .slice D2 0 c2] 95)).alloc (.cells #[.int .u8 3] 5)) = X at *
        go_wp2_with (at_builtin; first | (refine wpList_appS (w2.heap.size + 1) w _ rfl (.tmp 48) (.tmp 50) rfl (some ⟨w2.heap.size + 1, 0, none⟩) [3] 1 rfl oP0 s rfl (by rw [List.length_singleton]; omega) bX (by omega) (Nat.le_of_lt lX) ?_; intro A1 d1 acc1 w5 H1 o1 b1 g1; have L1 : acc1.length ≤ 16777216 := (by rw [H1.out, List.length_append, List.length_singleton, strL_len]; omega); have oPE := Own.far oX (fun g e => (Own.lt o g e).2) g1 (fun b e => by have := (OwnB.lt oP0 b e).1; omega); have zE := (b1).size; have dZ : Below w5.heap.size w5 (w5.alloc (.cells #[.slice A1 acc1.length d1] 29)) := (Below.refl _ _).alloc (Nat.le_refl _) _; have bZ := (b1).trans (dZ.mono zE); have oZ0 : Own BsE 29 w5 w.heap.size (fun b => w.heap.size ≤ b ∧ b < w5.heap.size) (.slice B ps.length d) ps := Own.mono oPE (fun b hb _ hs => ⟨hs.1, hb⟩); have oZ := Own.below oZ0 dZ; have hbsE := (OwnB.bs o1 (by omega)).below dZ; have capE := OwnB.caps o1; have hatE : At (fun b => (w.heap.size ≤ b ∧ b < w5.heap.size) ∧ (Value.slice B ps.length d).ownBlock ≠ some b) A1 acc1.length := (fun ad e hn => by have h1 := OwnB.at_ o1 ad e hn; refine ⟨⟨by omega, h1.2⟩, fun e2 => ?_⟩; have := (Own.lt o _ e2).2; omega); skip) | (refine wpList_appE BsE w.heap.size w _ rfl (.tmp 58) (.tmp 60) 29 84 rfl i1 _ Try.underlying84 hi1 hy0 hy1 hy2 rfl _ B ps d rfl oZ _ [.slice A1 acc1.length d1] acc1 1 rfl _ (Reads.new1 _ _ _) ⟨A1, d1, rfl, hbsE, hatE, capE⟩ (by simp only [BsE]; omega) (by simp only [maxLen]; omega) bZ (Nat.le_refl _) bZ.size ?_; intro B9 d9 ps9 w9 H9 o9 b9 g9 t9))
        go_roundw
        case rel => exact ⟨k + 1, ps9, B9, d9, by omega, by go_num, rfl, Own.mono o9 (fun b hb _ hs => ⟨hs.1, hb⟩), by rw [H9.out, HP.out, List.take_succ_eq_append_getElem hlt, List.map_append, HXX.out, H1.out]; rfl, by rw [H9.out, List.length_append, List.length_singleton]; omega, b9⟩
        case measure => simp [intOf]; omega
      | bytes dl =>
        go_wp2_with fail
        refine (cell_any v (.bytes dl) wr hv).mono ?_
        rintro en w2 ⟨D2, c2, rfl, hD2, hat2, b2⟩
        simp only [LVal.kind, LVal.b, LVal.n, LVal.t, LVal.l, LVal.err]
        have z2 := b2.size
        have bc := br.trans (b2.mono zr)
        have oc := Own.below o b2
        have dX : Below w2.heap.size w2 ((w2.alloc (.cells #[.int .i64 4, .bool false, .int .i64 0, .string ⟨#[]⟩, .slice D2 dl.length c2] 95)).alloc (.cells #[.int .u8 4] 5)) := ((Below.refl _ _).alloc (Nat.le_refl _) _).alloc (by simp) _
        have bX := bc.trans (dX.mono bc.size)
        have oX := Own.below oc (w' := ((w2.alloc (.cells #[.int .i64 4, .bool false, .int .i64 0, .string ⟨#[]⟩, .slice D2 dl.length c2] 95)).alloc (.cells #[.int .u8 4] 5))) dX
        have oP0 : OwnB (w2.heap.size + 1) ((w2.alloc (.cells #[.int .i64 4, .bool false, .int .i64 0, .string ⟨#[]⟩, .slice D2 dl.length c2] 95)).alloc (.cells #[.int .u8 4] 5)) (some ⟨w2.heap.size + 1, 0, none⟩) [4] 1 := ownlit2 w2 (.cells #[.int .i64 4, .bool false, .int .i64 0, .string ⟨#[]⟩, .slice D2 dl.length c2] 95) [4] (by decide)
        have lX := (OwnB.lt oP0 (w2.heap.size + 1) rfl).2
        go_upto_region 17 with fail
        have hDX := hD2.below dX
        have y4 := ((Blk.new w2 95 #[.int .i64 4, .bool false, .int .i64 0, .string ⟨#[]⟩, .slice D2 dl.length c2]).alloc (.cells #[.int .u8 4] 5)).cell 4
        have y4b : ((w2.alloc (.cells #[.int .i64 4, .bool false, .int .i64 0, .string ⟨#[]⟩, .slice D2 dl.length c2] 95)).alloc (.cells #[.int .u8 4] 5)).cell? ⟨w2.heap.size, 4, none⟩ = some (.slice D2 dl.length c2) := y4
        clear y4
        generalize ((w2.alloc (.cells #[.int .i64 4, .bool false, .int .i64 0, .string ⟨#[]⟩, .slice D2 dl.length c2] 95)).alloc (.cells #[.int .u8 4] 5)) = X at *
        have hdl : dl.length ≤ 1048576 := hsmx.2
        go_wp2_with (at_builtin; first | (refine wpList_app (w2.heap.size + 1) w _ rfl (.tmp 54) (.tmp 56) rfl (some ⟨w2.heap.size + 1, 0, none⟩) [4] 1 rfl oP0 D2 dl c2 rfl hDX (by rw [List.length_singleton]; omega) bX (by omega) (Nat.le_of_lt lX) ?_; intro A1 d1 acc1 w5 H1 o1 b1 g1 t1; have L1 : acc1.length ≤ 16777216 := (by rw [H1.out, List.length_append, List.length_singleton]; omega); have oPE := Own.far oX (fun g e => (Own.lt o g e).2) g1 (fun b e => by have := (OwnB.lt oP0 b e).1; omega); have zE := (b1).size; have dZ : Below w5.heap.size w5 (w5.alloc (.cells #[.slice A1 acc1.length d1] 29)) := (Below.refl _ _).alloc (Nat.le_refl _) _; have bZ := (b1).trans (dZ.mono zE); have oZ0 : Own BsE 29 w5 w.heap.size (fun b => w.heap.size ≤ b ∧ b < w5.heap.size) (.slice B ps.length d) ps := Own.mono oPE (fun b hb _ hs => ⟨hs.1, hb⟩); have oZ := Own.below oZ0 dZ; have hbsE := (OwnB.bs o1 (by omega)).below dZ; have capE := OwnB.caps o1; have hatE : At (fun b => (w.heap.size ≤ b ∧ b < w5.heap.size) ∧ (Value.slice B ps.length d).ownBlock ≠ some b) A1 acc1.length := (fun ad e hn => by have h1 := OwnB.at_ o1 ad e hn; refine ⟨⟨by omega, h1.2⟩, fun e2 => ?_⟩; have := (Own.lt o _ e2).2; omega); skip) | (refine wpList_appE BsE w.heap.size w _ rfl (.tmp 58) (.tmp 60) 29 84 rfl i1 _ Try.underlying84 hi1 hy0 hy1 hy2 rfl _ B ps d rfl oZ _ [.slice A1 acc1.length d1] acc1 1 rfl _ (Reads.new1 _ _ _) ⟨A1, d1, rfl, hbsE, hatE, capE⟩ (by simp only [BsE]; omega) (by simp only [maxLen]; omega) bZ (Nat.le_refl _) bZ.size ?_; intro B9 d9 ps9 w9 H9 o9 b9 g9 t9))
        go_roundw
        case rel => exact ⟨k + 1, ps9, B9, d9, by omega, by go_num, rfl, Own.mono o9 (fun b hb _ hs => ⟨hs.1, hb⟩), by rw [H9.out, HP.out, List.take_succ_eq_append_getElem hlt, List.map_append, HXX.out, H1.out]; rfl, by rw [H9.out, List.length_append, List.length_singleton]; omega, b9⟩
        case measure => simp [intOf]; omega
    · obtain rfl : k = xs.length := by omega
      have HE : Hid (frameL ps = encL xs) := by show _ = _; rw [HP.out, List.take_length]; rfl
      have hpm : ∀ l ∈ ps, l.length ≤ 16777216 := by
        rw [HP.out, List.take_length]
        intro l hl
        obtain ⟨x, hx, rfl⟩ := List.mem_map.1 hl
        exact part_len (HSM.out x hx)
      have hsl : Sl BsE wr B ps := Own.sl o (by simp only [BsE]; omega)
      clear HP
      go_wp2_with fail
      refine (frame_any ps B d wr hsl hpm (by omega)).mono ?_
      rintro en w2 ⟨A2, c2, rfl, o2, b2⟩
      rw [HE.out] at o2 ⊢
      go_wp2_with fail
      go_ret2
      exact ⟨A2, c2, rfl, OwnB.base o2 zr, br.trans (b2.mono zr)⟩
end Go.Proofs.Ytemidaamnldjmaa
