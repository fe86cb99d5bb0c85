/- The order of keys: plain laws on lists of bytes. Bytes appended to bytes of the call's own: one word for the step. Bytes with an end, in their order: codec.OrdText, caissonref01.OrdText; and caissonref01.Cmp. -/
import Derived.Test.YtmgibpedclngpaaMem
import Derived.Test.YtmgibpedclngpaaBlk
namespace Go.Proofs.Ytmgibpedclngpaa
open Go.RowKit

/-- how two lists of bytes compare -/
def cmpL : List UInt8 → List UInt8 → Int
  | [], [] => 0
  | [], _ :: _ => -1
  | _ :: _, [] => 1
  | a :: s, b :: t => if a < b then -1 else if b < a then 1 else cmpL s t
/-- a list of bytes with an end, in the lists' order -/
def ordT : List UInt8 → List UInt8
  | [] => [0, 1]
  | x :: l => if x = 0 then 0 :: 255 :: ordT l else x :: ordT l
theorem u8_lt (a b : UInt8) : a < b ↔ a.toNat < b.toNat := UInt8.lt_iff_toNat_lt
theorem cmpL_self : ∀ a : List UInt8, cmpL a a = 0
  | [] => rfl
  | x :: a => by
    unfold cmpL
    rw [if_neg (by rw [u8_lt]; omega), if_neg (by rw [u8_lt]; omega)]
    exact cmpL_self a
theorem cmpL_eq : ∀ {a b : List UInt8}, cmpL a b = 0 → a = b
  | [], [], _ => rfl
  | [], _ :: _, h => by cases h
  | _ :: _, [], h => by cases h
  | x :: a, y :: b, h => by
    unfold cmpL at h
    by_cases h1 : x < y
    · rw [if_pos h1] at h; cases h
    rw [if_neg h1] at h
    by_cases h2 : y < x
    · rw [if_pos h2] at h; cases h
    rw [if_neg h2] at h
    rw [u8_lt] at h1 h2
    rw [cmpL_eq h, UInt8.toNat_inj.1 (show x.toNat = y.toNat by omega)]
theorem cmpL_cons (x : UInt8) (a b : List UInt8) : cmpL (x :: a) (x :: b) = cmpL a b := by
  show (if x < x then (-1 : Int) else if x < x then 1 else cmpL a b) = _
  rw [if_neg (by rw [u8_lt]; omega), if_neg (by rw [u8_lt]; omega)]
theorem cmpL_lt {x y : UInt8} (h : x.toNat < y.toNat) (a b : List UInt8) : cmpL (x :: a) (y :: b) = -1 := by
  show (if x < y then (-1 : Int) else _) = _
  rw [if_pos ((u8_lt x y).2 h)]
theorem cmpL_gt {x y : UInt8} (h : y.toNat < x.toNat) (a b : List UInt8) : cmpL (x :: a) (y :: b) = 1 := by
  show (if x < y then (-1 : Int) else if y < x then 1 else _) = _
  rw [if_neg (by rw [u8_lt]; omega), if_pos ((u8_lt y x).2 h)]
/-- the first that is none of nought -/
def orI (a b : Int) : Int := if a ≠ 0 then a else b
theorem orI_zero (b : Int) : orI 0 b = b := rfl
theorem orI_of {a : Int} (h : a ≠ 0) (b : Int) : orI a b = a := if_pos h
theorem orI_assoc (a b c : Int) : orI (orI a b) c = orI a (orI b c) := by
  unfold orI
  by_cases h : a = 0
  · subst h; rfl
  · rw [if_pos h, if_pos h, if_pos h]
/-- one of two lists, if they differ, differs from the other at a place of both -/
def PF (x y : List UInt8) : Prop := ∀ s t, cmpL (x ++ s) (y ++ t) = orI (cmpL x y) (cmpL s t)
theorem PF.nil_ : PF [] [] := fun _ _ => rfl
theorem PF.append {x y u v : List UInt8} (h : PF x y) (k : PF u v) : PF (x ++ u) (y ++ v) := fun s t => by
  rw [List.append_assoc, List.append_assoc, h, k, h, orI_assoc]
theorem PF.cmp {x y : List UInt8} (h : PF x y) (u v : List UInt8) : cmpL (x ++ u) (y ++ v) = orI (cmpL x y) (cmpL u v) := h u v
theorem PF.of_len : ∀ {x y : List UInt8}, x.length = y.length → PF x y
  | [], [], _ => PF.nil_
  | x :: a, y :: b, h => fun s t => by
    have ih := PF.of_len (x := a) (y := b) (by simpa using h) s t
    by_cases h1 : x.toNat < y.toNat
    · rw [List.cons_append, List.cons_append, cmpL_lt h1, cmpL_lt h1]; rfl
    by_cases h2 : y.toNat < x.toNat
    · rw [List.cons_append, List.cons_append, cmpL_gt h2, cmpL_gt h2]; rfl
    obtain rfl : x = y := UInt8.toNat_inj.1 (by omega)
    rw [List.cons_append, List.cons_append, cmpL_cons, cmpL_cons, ih]
theorem ordT_zero (l : List UInt8) : ordT (0 :: l) = 0 :: 255 :: ordT l := rfl
theorem ordT_pos {x : UInt8} (h : x ≠ 0) (l : List UInt8) : ordT (x :: l) = x :: ordT l := if_neg h
theorem pos_of_ne {x : UInt8} (h : x ≠ 0) : 0 < x.toNat := by
  rcases Nat.eq_zero_or_pos x.toNat with h0 | h0
  · exact absurd (UInt8.toNat_inj.1 (by rw [h0]; rfl)) h
  · exact h0
theorem ordT_cmp : ∀ a b s t : List UInt8, cmpL (ordT a ++ s) (ordT b ++ t) = orI (cmpL a b) (cmpL s t)
  | [], [], s, t => by
    show cmpL (0 :: 1 :: s) (0 :: 1 :: t) = _
    rw [cmpL_cons, cmpL_cons]; rfl
  | [], y :: b, s, t => by
    by_cases h : y = 0
    · subst h
      rw [ordT_zero]
      show cmpL (0 :: 1 :: s) (0 :: 255 :: (ordT b ++ t)) = _
      rw [cmpL_cons, cmpL_lt (by decide)]; rfl
    · rw [ordT_pos h]
      show cmpL (0 :: 1 :: s) (y :: (ordT b ++ t)) = _
      rw [cmpL_lt (by have := pos_of_ne h; simpa using this)]; rfl
  | x :: a, [], s, t => by
    by_cases h : x = 0
    · subst h
      rw [ordT_zero]
      show cmpL (0 :: 255 :: (ordT a ++ s)) (0 :: 1 :: t) = _
      rw [cmpL_cons, cmpL_gt (by decide)]; rfl
    · rw [ordT_pos h]
      show cmpL (x :: (ordT a ++ s)) (0 :: 1 :: t) = _
      rw [cmpL_gt (by have := pos_of_ne h; simpa using this)]; rfl
  | x :: a, y :: b, s, t => by
    have ih := ordT_cmp a b s t
    by_cases hx : x = 0
    · subst hx
      by_cases hy : y = 0
      · subst hy
        rw [ordT_zero, ordT_zero]
        show cmpL (0 :: 255 :: (ordT a ++ s)) (0 :: 255 :: (ordT b ++ t)) = _
        rw [cmpL_cons, cmpL_cons, ih, cmpL_cons]
      · rw [ordT_zero, ordT_pos hy]
        show cmpL (0 :: 255 :: (ordT a ++ s)) (y :: (ordT b ++ t)) = _
        have := pos_of_ne hy
        rw [cmpL_lt (by simpa using this), cmpL_lt (by simpa using this)]; rfl
    · by_cases hy : y = 0
      · subst hy
        rw [ordT_zero, ordT_pos hx]
        show cmpL (x :: (ordT a ++ s)) (0 :: 255 :: (ordT b ++ t)) = _
        have := pos_of_ne hx
        rw [cmpL_gt (by simpa using this), cmpL_gt (by simpa using this)]; rfl
      · rw [ordT_pos hx, ordT_pos hy]
        show cmpL (x :: (ordT a ++ s)) (y :: (ordT b ++ t)) = _
        by_cases h1 : x.toNat < y.toNat
        · rw [cmpL_lt h1, cmpL_lt h1]; rfl
        by_cases h2 : y.toNat < x.toNat
        · rw [cmpL_gt h2, cmpL_gt h2]; rfl
        obtain rfl : x = y := UInt8.toNat_inj.1 (by omega)
        rw [cmpL_cons, cmpL_cons, ih]
theorem ordT_cmp0 (a b : List UInt8) : cmpL (ordT a) (ordT b) = cmpL a b := by
  have := ordT_cmp a b [] []
  rw [List.append_nil, List.append_nil] at this
  rw [this]
  show orI (cmpL a b) 0 = _
  unfold orI
  split <;> simp_all
theorem PF.ordT (a b : List UInt8) : PF (ordT a) (ordT b) := fun s t => by rw [ordT_cmp, ordT_cmp0]
theorem ordT_len : ∀ l : List UInt8, (Go.Proofs.Ytmgibpedclngpaa.ordT l).length ≤ 2 * l.length + 2
  | [] => by decide
  | x :: l => by
    have ih := ordT_len l
    by_cases h : x = 0
    · subst h; rw [ordT_zero]; simp only [List.length_cons]; omega
    · rw [ordT_pos h]; simp only [List.length_cons]; omega

/-- a number's bytes, the greatest first -/
def beN : Nat → Nat → List UInt8
  | 0, _ => []
  | k + 1, n => beN k (n / 256) ++ [UInt8.ofNat (n % 256)]
theorem beN_len : ∀ k n, (beN k n).length = k
  | 0, _ => rfl
  | k + 1, n => by unfold beN; rw [List.length_append, beN_len k]; rfl
/-- how two numbers compare -/
def cmpI (a b : Int) : Int := if a < b then -1 else if b < a then 1 else 0
theorem u8_ofNat {n : Nat} (h : n < 256) : (UInt8.ofNat n).toNat = n := by simp [Nat.mod_eq_of_lt h]
theorem beN_cmp : ∀ (k n m : Nat), n < 256 ^ k → m < 256 ^ k → cmpL (beN k n) (beN k m) = cmpI n m
  | 0, n, m, hn, hm => by
    have h1 : n = 0 := by simpa using hn
    have h2 : m = 0 := by simpa using hm
    subst h1; subst h2; rfl
  | k + 1, n, m, hn, hm => by
    have hn2 : n / 256 < 256 ^ k := by rw [Nat.div_lt_iff_lt_mul (by omega), ← Nat.pow_succ]; exact hn
    have hm2 : m / 256 < 256 ^ k := by rw [Nat.div_lt_iff_lt_mul (by omega), ← Nat.pow_succ]; exact hm
    have ih := beN_cmp k (n / 256) (m / 256) hn2 hm2
    show cmpL (beN k (n / 256) ++ _) (beN k (m / 256) ++ _) = _
    rw [PF.of_len (by rw [beN_len, beN_len]) _ _, ih]
    have hx : cmpL [UInt8.ofNat (n % 256)] [UInt8.ofNat (m % 256)] = cmpI (n % 256 : Nat) (m % 256 : Nat) := by
      have a1 := u8_ofNat (n := n % 256) (by omega)
      have a2 := u8_ofNat (n := m % 256) (by omega)
      by_cases h1 : n % 256 < m % 256
      · rw [cmpL_lt (by omega)]; unfold cmpI; rw [if_pos (by omega)]
      by_cases h2 : m % 256 < n % 256
      · rw [cmpL_gt (by omega)]; unfold cmpI; rw [if_neg (by omega), if_pos (by omega)]
      have h3 : n % 256 = m % 256 := by omega
      rw [h3, cmpL_cons]; unfold cmpI; rw [if_neg (by omega), if_neg (by omega)]; rfl
    rw [hx]
    unfold orI cmpI
    repeat' split
    all_goals omega
end Go.Proofs.Ytmgibpedclngpaa

namespace Go.Proofs.Ytmgibpedclngpaa
open Go.RowKit

/-- a row of bytes of the call's own, from block b on -/
def OwnB (b : Nat) (w : World) (A : Option Addr) (l : List UInt8) (c : Nat) : Prop := w.ownsRow b 5 1 (.slice A l.length c) l.length (l.map bval)
section
variable {b b' : Nat} {w w' : World} {A : Option Addr} {l : List UInt8} {c : Nat}
theorem OwnB.nil_ (b : Nat) (w : World) : OwnB b w none [] 0 := World.ownsRow_nil _ _ _ _
theorem OwnB.bs (h : OwnB b w A l c) (hl : l.length ≤ 140737488355328) : Bs w A l := Bs.of_own h hl
theorem OwnB.below (h : OwnB b w A l c) (hb : Below w.heap.size w w') : OwnB b w' A l c := own_below h hb
theorem OwnB.base (h : OwnB b w A l c) (hb : b' ≤ b) : OwnB b' w A l c := by
  refine ⟨h.1, ?_⟩
  rcases h.2 with h2 | ⟨g, cap, cur, h1, h2, h3⟩
  · exact .inl h2
  · exact .inr ⟨g, cap, cur, h1, Nat.le_trans hb h2, h3⟩
theorem OwnB.lt (h : OwnB b w A l c) : ∀ g, (Value.slice A l.length c).ownBlock = some g → b ≤ g ∧ g < w.heap.size := World.ownsRow.lt h
theorem OwnB.caps (h : OwnB b w A l c) : l.length ≤ c ∧ c ≤ 9223372036854775807 := by
  exact own_caps h
theorem OwnB.kept {row : Option Nat} (h : OwnB b w A l c) (hg : w.grownBy w' row) (hv : ∀ g, (Value.slice A l.length c).ownBlock = some g → row ≠ some g) : OwnB b w' A l c := by
  refine ⟨h.1, ?_⟩
  rcases h.2 with h2 | ⟨g, cap, cur, h1, h2, h3, h4⟩
  · exact .inl h2
  · have hne := hv g (by rw [h1]; rfl)
    have hlt : g < w.heap.size := by
      rcases Nat.lt_or_ge g w.heap.size with h5 | h5
      · exact h5
      · rw [Array.getElem?_eq_none h5] at h3; cases h3
    exact .inr ⟨g, cap, cur, h1, h2, by rw [hg.block g hlt (fun e => hne e.symm)]; exact h3, h4⟩
theorem Bs.grown {row : Option Nat} (h : Bs w A l) (hg : w.grownBy w' row) (hr : At (fun b => row ≠ some b) A l.length) : Bs w' A l :=
  h.sameS hr (.of_grown hg fun _ hb e => hb e)
end
theorem ret_own {w w' : World} {A : Option Addr} {l : List UInt8} {c : Nat} (o : OwnB w.heap.size w' A l c) (hb : Below w.heap.size w w') : RetBs l w (.returned (.slice A l.length c)) w' := ⟨A, c, rfl, o, hb⟩

theorem wpList_app (b : Nat) (w0 w : World) {ops : Array Oper} {rest : List Oper} {o : Oper} {a : Act} {Q : Exit → Act → World → Prop} (hgd : o.guard = none) (s x : Operand)
    (ho : o.op = .call { callee := .builtin .append, args := #[s, x], argTypes := #[49, 49] })
    (A : Option Addr) (acc : List UInt8) (c : Nat) (hs : a.eval s = .slice A acc.length c) (hown : OwnB b w A acc c)
    (B : Option Addr) (news : List UInt8) (d : Nat) (hx : a.eval x = .slice B news.length d) (hr : Bs w B news) (hl : acc.length + news.length ≤ 140737488355328) (hb : Below w0.heap.size w0 w) (hb0 : w0.heap.size ≤ b) (hbw : b ≤ w.heap.size)
    (h : ∀ A' c' acc' w', Hid (acc' = acc ++ news) → OwnB b w' A' acc' c' → Below w0.heap.size w0 w' → w.grownBy w' (Value.slice A acc.length c).ownBlock → ((Value.slice A' acc'.length c').ownBlock = (Value.slice A acc.length c).ownBlock ∨ (Value.slice A' acc'.length c').ownBlock = some w.heap.size) → wpList Try.prog ops Q rest (a.put o.dst (.slice A' acc'.length c')) w') : wpList Try.prog ops Q (o :: rest) a w := by
  obtain ⟨i0, hi0, hz0, hz1, hz2⟩ := info_parts Try.infoU8
  refine wpList_append_sh w hgd s x _ ho b 5 i0 _ 1 1 Try.underlying49 hi0 hz0 hz1 hz2 rfl (by omega) _ _ _ hs hown _ B news.length d (news.map bval) hx hr.1 (oneCell_bytes news) (by simp only [maxLen]; omega) (by omega) hbw ?_
  intro A' c' w' o' g' t'
  have e : acc.length + news.length = (acc ++ news).length := by rw [List.length_append]
  rw [e, ← List.map_append] at o'
  rw [e] at t' ⊢
  exact h A' c' (acc ++ news) w' rfl o' (hb.grown g' hb.size fun j hj => by have := (OwnB.lt hown j hj).1; omega) g' t'
theorem step_app (b : Nat) (w0 w : World) {ops : Array Oper} {o : Oper} {a : Act} {K : Act → World → Prop} {Q : Exit → Act → World → Prop} {E : Prop} (hgd : o.guard = none) (s x : Operand)
    (ho : o.op = .call { callee := .builtin .append, args := #[s, x], argTypes := #[49, 49] })
    (A : Option Addr) (acc : List UInt8) (c : Nat) (hs : a.eval s = .slice A acc.length c) (hown : OwnB b w A acc c)
    (B : Option Addr) (news : List UInt8) (d : Nat) (hx : a.eval x = .slice B news.length d) (hr : Bs w B news) (hl : acc.length + news.length ≤ 140737488355328) (hb : Below w0.heap.size w0 w) (hb0 : w0.heap.size ≤ b) (hbw : b ≤ w.heap.size)
    (h : ∀ A' c' acc' w', Hid (acc' = acc ++ news) → OwnB b w' A' acc' c' → Below w0.heap.size w0 w' → w.grownBy w' (Value.slice A acc.length c).ownBlock → ((Value.slice A' acc'.length c').ownBlock = (Value.slice A acc.length c).ownBlock ∨ (Value.slice A' acc'.length c').ownBlock = some w.heap.size) → K (a.put o.dst (.slice A' acc'.length c')) w') :
    if Region.wanted o (yielded ops a.tmps) = true then Oper.wp Try.prog o a w K Q else E := by
  obtain ⟨i0, hi0, hz0, hz1, hz2⟩ := info_parts Try.infoU8
  refine step_append_sh w hgd s x _ ho b 5 i0 _ 1 1 Try.underlying49 hi0 hz0 hz1 hz2 rfl (by omega) _ _ _ hs hown _ B news.length d (news.map bval) hx hr.1 (oneCell_bytes news) (by simp only [maxLen]; omega) (by omega) hbw ?_
  intro A' c' w' o' g' t'
  have e : acc.length + news.length = (acc ++ news).length := by rw [List.length_append]
  rw [e, ← List.map_append] at o'
  rw [e] at t' ⊢
  exact h A' c' (acc ++ news) w' rfl o' (hb.grown g' hb.size fun j hj => by have := (OwnB.lt hown j hj).1; omega) g' t'
end Go.Proofs.Ytmgibpedclngpaa

namespace Go.Proofs.Ytmgibpedclngpaa
open Go.RowKit

theorem mk_cap2 (n : Nat) (hn : n ≤ 35184372088832) (W : World) : (Instr.makeSlice 49 (.int .i64 0) (.int .i64 ((n : Int) + 2))).run Try.prog W = .ok (.slice (some ⟨W.heap.size, 0, none⟩) 0 (n + 2)) (W.alloc (.cells (madeCells #[.int .u8 0] (n + 2)) 5)) := by
  obtain ⟨i, hi, hz0, hz1, hz2⟩ := info_parts Try.infoU8
  have := run_make_rowN 49 5 i _ Try.underlying49 hi hz0 .i64 .i64 0 (n + 2) (Nat.zero_le _) (by rw [hz2]; omega) (by omega) W
  rw [hz1, Nat.mul_one] at this
  have e : (((n + 2 : Nat)) : Int) = (n : Int) + 2 := by omega
  rw [e] at this
  exact this

theorem ordT_drop {l : List UInt8} {k : Nat} (h : k < l.length) : ordT (l.drop k) = (if l[k] = 0 then [l[k], 255] else [l[k]]) ++ ordT (l.drop (k + 1)) := by
  rw [List.drop_eq_getElem_cons h]
  show (if l[k] = 0 then _ else _) = _
  by_cases hz : l[k] = 0
  · rw [if_pos hz, if_pos hz, hz]; rfl
  · rw [if_neg hz, if_neg hz]; rfl

set_option maxRecDepth 100000 in
set_option maxHeartbeats 2000000 in
theorem ordtext_any (A : Option Addr) (l : List UInt8) (c : Nat) (w : World) (hb : Bs w A l) (hl : l.length ≤ 35184372088832) :
    Calls Try.prog 45 #[.slice A l.length c] w (RetBs (ordT l) w) := by
  have hmk := mk_cap2 l.length hl
  have b0 : Below w.heap.size w (w.alloc (.cells (madeCells #[.int .u8 0] (l.length + 2)) 5)) := (Below.refl _ _).alloc (Nat.le_refl _) _
  have hown : OwnB w.heap.size (w.alloc (.cells (madeCells #[.int .u8 0] (l.length + 2)) 5)) (some ⟨w.heap.size, 0, none⟩) [] (l.length + 2) := World.ownsRow_made w _ _ (Nat.le_refl _) (by simp only [maxLen]; omega) (by simp [size_madeCells])
  go_enter Try.func45, Try.ntmps45
  go_wp2_with fail
  clear hmk
  generalize (w.alloc (.cells (madeCells #[.int .u8 0] (l.length + 2)) 5)) = W0 at *
  go_loopw [3, 5, 12] (fun o _ i wr => ∃ (k : Nat) (acc : List UInt8) (B : Option Addr) (d : Nat), k ≤ l.length ∧ i = .int .i64 (k : Int) ∧ o = .slice B acc.length d ∧ OwnB w.heap.size wr B acc d ∧ acc ++ ordT (l.drop k) = ordT l ∧ acc.length ≤ 2 * k ∧ Below w.heap.size w wr) (fun _ _ i _ => l.length - (intOf i).toNat)
  case atStart => exact ⟨0, [], _, _, Nat.zero_le _, rfl, rfl, hown, rfl, by simp, b0⟩
  case round =>
    clear hown b0
    obtain ⟨k, acc, B, d, hk, rfl, rfl, o, ha, hal, br⟩ := hrel
    have HA := Lib.hid ha
    clear ha
    have zr := br.size
    by_cases hlt : k < l.length
    · have HD := Lib.hid (ordT_drop hlt)
      obtain ⟨ad, rfl, hadb, hc⟩ := (hb.below br).at_ hlt
      have hlt' : (k : Int) < (l.length : Int) := by omega
      generalize l[k] = x at *
      have dX : Below wr.heap.size wr (wr.alloc (.cells #[.int .u8 (x.toNat : Int)] 5)) := (Below.refl _ _).alloc (Nat.le_refl _) _
      have bX := br.trans (dX.mono zr)
      have oX := o.below dX
      by_cases hx : x = 0
      · have d1 : ((x.toNat : Int) == 0) = true := by rw [hx]; rfl
        have HE : Hid ((acc ++ [x]) ++ [255] ++ ordT (l.drop (k + 1)) = ordT l) := by show _ = _; rw [← HA.out, HD.out, if_pos hx]; simp
        clear hx HA HD
        go_wp2_with (at_builtin; first
          | (refine wpList_app w.heap.size w _ rfl (.tmp 16) (.tmp 18) rfl B acc d rfl oX _ [x] 1 rfl (Bs.lit wr [x] _ (by simp)) (by simp; omega) bX (Nat.le_refl _) bX.size ?_; intro B1 d1 acc1 w1 H1 o1 b1 g1 t1; have dY : Below w1.heap.size w1 (w1.alloc (.cells #[.int .u8 255] 5)) := (Below.refl _ _).alloc (Nat.le_refl _) _; have L1 : acc1.length ≤ acc.length + 1 := (by rw [H1.out]; simp); have bY := b1.trans (dY.mono b1.size))
          | (refine wpList_app w.heap.size w _ rfl (.tmp 22) (.tmp 23) rfl B1 acc1 d1 rfl (o1.below dY) _ [255] 1 rfl (Bs.lit w1 [255] _ (by simp)) (by simp; omega) bY (Nat.le_refl _) bY.size ?_; intro B2 d2 acc2 w2 H2 o2 b2 g2 t2))
        go_roundw
        case rel => exact ⟨k + 1, acc2, B2, d2, by omega, by go_num, rfl, o2, by rw [H2.out, H1.out]; exact HE.out, by rw [H2.out]; simp; omega, b2⟩
        case measure => simp [intOf]; omega
      · have d1 : ((x.toNat : Int) == 0) = false := by have := pos_of_ne hx; rw [beq_eq_false_iff_ne]; omega
        have HE : Hid ((acc ++ [x]) ++ ordT (l.drop (k + 1)) = ordT l) := by show _ = _; rw [← HA.out, HD.out, if_neg hx]; simp
        clear hx HA HD
        go_wp2_with (at_builtin; (refine wpList_app w.heap.size w _ rfl (.tmp 16) (.tmp 18) rfl B acc d rfl oX _ [x] 1 rfl (Bs.lit wr [x] _ (by simp)) (by simp; omega) bX (Nat.le_refl _) bX.size ?_); intro B1 d1 acc1 w1 H1 o1 b1 g1 t1)
        go_roundw
        case rel => exact ⟨k + 1, acc1, B1, d1, by omega, by go_num, rfl, o1, by rw [H1.out]; exact HE.out, by rw [H1.out]; simp; omega, b1⟩
        case measure => simp [intOf]; omega
    · obtain rfl : k = l.length := by omega
      have HE : Hid (acc ++ [0, 1] = ordT l) := by show _ = _; rw [← HA.out, List.drop_length]; rfl
      have dX : Below wr.heap.size wr (wr.alloc (.cells #[.int .u8 0, .int .u8 1] 5)) := (Below.refl _ _).alloc (Nat.le_refl _) _
      have bX := br.trans (dX.mono zr)
      clear HA
      go_wp2_with (at_builtin; (refine wpList_app w.heap.size w _ rfl (.tmp 26) (.tmp 27) rfl B acc d rfl (o.below dX) _ [0, 1] 2 rfl (Bs.lit wr [0, 1] _ (by simp)) (by simp; omega) bX (Nat.le_refl _) bX.size ?_); intro B1 d1 acc1 w1 H1 o1 b1 g1 t1)
      go_ret
      rw [← HE.out, ← H1.out]
      exact ret_own o1 b1

set_option maxRecDepth 100000 in
set_option maxHeartbeats 2000000 in
theorem rordtext_any (A : Option Addr) (l : List UInt8) (c : Nat) (w : World) (hb : Bs w A l) (hl : l.length ≤ 35184372088832) :
    Calls Try.prog 52 #[.slice A l.length c] w (RetBs (ordT l) w) := by
  go_enter Try.func52, Try.ntmps52
  go_wp2_with fail
  go_loopw [3, 4] (fun o i wr => ∃ (k : Nat) (acc : List UInt8) (B : Option Addr) (d : Nat), k ≤ l.length ∧ i = .int .i64 (k : Int) ∧ o = .slice B acc.length d ∧ OwnB w.heap.size wr B acc d ∧ acc ++ ordT (l.drop k) = ordT l ∧ acc.length ≤ 2 * k ∧ Below w.heap.size w wr) (fun _ i _ => l.length - (intOf i).toNat)
  case atStart => exact ⟨0, [], _, _, Nat.zero_le _, rfl, rfl, OwnB.nil_ _ _, rfl, by simp, Below.refl _ _⟩
  case round =>
    obtain ⟨k, acc, B, d, hk, rfl, rfl, o, ha, hal, br⟩ := hrel
    have HA := Lib.hid ha
    clear ha
    have zr := br.size
    by_cases hlt : k < l.length
    · have HD := Lib.hid (ordT_drop hlt)
      obtain ⟨ad, rfl, hadb, hc⟩ := (hb.below br).at_ hlt
      have hlt' : (k : Int) < (l.length : Int) := by omega
      generalize l[k] = x at *
      by_cases hx : x = 0
      · have d1 : ((x.toNat : Int) == 0) = true := by rw [hx]; rfl
        have dX : Below wr.heap.size wr (wr.alloc (.cells #[.int .u8 0, .int .u8 255] 5)) := (Below.refl _ _).alloc (Nat.le_refl _) _
        have bX := br.trans (dX.mono zr)
        have HE : Hid ((acc ++ [0, 255]) ++ ordT (l.drop (k + 1)) = ordT l) := by show _ = _; rw [← HA.out, HD.out, if_pos hx, hx]; simp
        clear hx HA HD
        go_wp2_with (at_builtin; (refine wpList_app w.heap.size w _ rfl (.tmp 16) (.tmp 17) rfl B acc d rfl (o.below dX) _ [0, 255] 2 rfl (Bs.lit wr [0, 255] _ (by simp)) (by simp; omega) bX (Nat.le_refl _) bX.size ?_); intro B1 d1 acc1 w1 H1 o1 b1 g1 t1)
        go_roundw
        case rel => exact ⟨k + 1, acc1, B1, d1, by omega, by go_num, rfl, o1, by rw [H1.out]; exact HE.out, by rw [H1.out]; simp; omega, b1⟩
        case measure => simp [intOf]; omega
      · have d1 : ((x.toNat : Int) == 0) = false := by have := pos_of_ne hx; rw [beq_eq_false_iff_ne]; omega
        have dX : Below wr.heap.size wr (wr.alloc (.cells #[.int .u8 (x.toNat : Int)] 5)) := (Below.refl _ _).alloc (Nat.le_refl _) _
        have bX := br.trans (dX.mono zr)
        have HE : Hid ((acc ++ [x]) ++ ordT (l.drop (k + 1)) = ordT l) := by show _ = _; rw [← HA.out, HD.out, if_neg hx]; simp
        clear hx HA HD
        go_wp2_with (at_builtin; (refine wpList_app w.heap.size w _ rfl (.tmp 19) (.tmp 24) rfl B acc d rfl (o.below dX) _ [x] 1 rfl (Bs.lit wr [x] _ (by simp)) (by simp; omega) bX (Nat.le_refl _) bX.size ?_); intro B1 d1 acc1 w1 H1 o1 b1 g1 t1)
        go_roundw
        case rel => exact ⟨k + 1, acc1, B1, d1, by omega, by go_num, rfl, o1, by rw [H1.out]; exact HE.out, by rw [H1.out]; simp; omega, b1⟩
        case measure => simp [intOf]; omega
    · obtain rfl : k = l.length := by omega
      have HE : Hid (acc ++ [0, 1] = ordT l) := by show _ = _; rw [← HA.out, List.drop_length]; rfl
      have dX : Below wr.heap.size wr (wr.alloc (.cells #[.int .u8 0, .int .u8 1] 5)) := (Below.refl _ _).alloc (Nat.le_refl _) _
      have bX := br.trans (dX.mono zr)
      clear HA
      go_wp2_with (at_builtin; (refine wpList_app w.heap.size w _ rfl (.tmp 26) (.tmp 27) rfl B acc d rfl (o.below dX) _ [0, 1] 2 rfl (Bs.lit wr [0, 1] _ (by simp)) (by simp; omega) bX (Nat.le_refl _) bX.size ?_); intro B1 d1 acc1 w1 H1 o1 b1 g1 t1)
      go_ret
      rw [← HE.out, ← H1.out]
      exact ret_own o1 b1
end Go.Proofs.Ytmgibpedclngpaa
