/- An edit out of bytes: manifest.Decode. (Printed by wip/gen_mdec.py.) -/
import Derived.Test.YtmgibpedclngpaaMFile
import Derived.Test.YtmgibpedclngpaaAppE
namespace Go.Proofs.Ytmgibpedclngpaa
open Go.RowKit

def LEdit.zero : LEdit := ⟨false, [], [], 0⟩
/-- numbers from place q to the end -/
def dropA : Nat → List UInt8 → Nat → List Nat → List Nat × Int
  | 0, _, _, acc => (acc, 0)
  | f + 1, l, q, acc => if q < l.length then (if (nxtN l q).2.2 ≠ 0 then ([], (nxtN l q).2.2) else dropA f l (nxtN l q).2.1 (acc ++ [(nxtN l q).1])) else (acc, 0)
def dropR (l : List UInt8) : List Nat × Int := dropA (l.length + 1) l 0 []
theorem nxtN_gt {l : List UInt8} {q : Nat} (h : (nxtN l q).2.2 = 0) : q < (nxtN l q).2.1 := by
  have h1 : (getF (l.drop q) 0 0).2.2 = 0 := h
  show q < (if (getF (l.drop q) 0 0).2.2 = 0 then q + (getF (l.drop q) 0 0).2.1 else 0)
  rw [if_pos h1]
  cases hg : getF (l.drop q) 0 0 with
  | mk n r =>
    obtain ⟨k, e⟩ := r
    rw [hg] at h1
    have h0 : e = 0 := h1
    subst h0
    have := getF_ok hg
    show q < q + k
    omega
theorem dropA_fuel : ∀ (f g : Nat) (l : List UInt8) (q : Nat) (acc : List Nat), l.length - q < f → l.length - q < g → dropA f l q acc = dropA g l q acc
  | 0, _, _, _, _, h, _ => by omega
  | _ + 1, 0, _, _, _, _, h => by omega
  | f + 1, g + 1, l, q, acc, h1, h2 => by
    unfold dropA
    by_cases hq : q < l.length
    · rw [if_pos hq, if_pos hq]
      by_cases he : (nxtN l q).2.2 ≠ 0
      · rw [if_pos he, if_pos he]
      · rw [if_neg he, if_neg he]
        have := nxtN_gt (Classical.byContradiction he)
        exact dropA_fuel f g l _ _ (by omega) (by omega)
    · rw [if_neg hq, if_neg hq]
/-- from place q on, with acc ahead of it -/
def dropQ (l : List UInt8) (q : Nat) (acc : List Nat) : List Nat × Int := dropA (l.length + 1) l q acc
theorem dropQ_end {l : List UInt8} {q : Nat} (h : ¬ q < l.length) (acc : List Nat) : dropQ l q acc = (acc, 0) := by
  unfold dropQ dropA
  rw [if_neg h]
theorem dropQ_bad {l : List UInt8} {q : Nat} (h : q < l.length) (he : (nxtN l q).2.2 ≠ 0) (acc : List Nat) : dropQ l q acc = ([], (nxtN l q).2.2) := by
  unfold dropQ dropA
  rw [if_pos h, if_pos he]
theorem dropQ_step {l : List UInt8} {q : Nat} (h : q < l.length) (he : (nxtN l q).2.2 = 0) (acc : List Nat) : dropQ l q acc = dropQ l (nxtN l q).2.1 (acc ++ [(nxtN l q).1]) := by
  have hg := nxtN_gt he
  unfold dropQ
  conv => lhs; unfold dropA
  rw [if_pos h, if_neg (fun h => h he)]
  exact dropA_fuel _ _ _ _ _ (by omega) (by omega)
/-- the files of parts -/
def filesR : List (List UInt8) → List LFile × Int
  | [] => ([], 0)
  | p :: ps => if (fileR p).2 ≠ 0 then ([], (fileR p).2) else if (filesR ps).2 ≠ 0 then ([], (filesR ps).2) else ((fileR p).1 :: (filesR ps).1, 0)
def decM2 (h d : List UInt8) (fs : List (List UInt8)) : LEdit × Int :=
  if doneE h (nN h 1 0).2.1 (nN h 1 0).2.2 ≠ 0 then (.zero, doneE h (nN h 1 0).2.1 (nN h 1 0).2.2) else if (dropR d).2 ≠ 0 then (.zero, (dropR d).2) else if (filesR fs).2 ≠ 0 then (.zero, (filesR fs).2)
  else (⟨((h.getD 0 0).toNat : Int) == 1, (filesR fs).1, (dropR d).1, (nN h 1 0).1⟩, 0)
def decM1 (ps : List (List UInt8)) : LEdit × Int :=
  if ps.length < 2 then (.zero, 3) else if (ps.getD 0 []).length = 0 then (.zero, 3) else if 1 < ((ps.getD 0 []).getD 0 0).toNat then (.zero, 3) else decM2 (ps.getD 0 []) (ps.getD 1 []) (ps.drop 2)
/-- the edit of bytes, and the error -/
def decM (b : List UInt8) : LEdit × Int := if (partsL b).2 ≠ 0 then (.zero, (partsL b).2) else decM1 (partsL b).1
/-- files with more files -/
theorem filesR_snoc {ps : List (List UInt8)} {p : List UInt8} : filesR (ps ++ [p]) = if (filesR ps).2 ≠ 0 then ([], (filesR ps).2) else if (fileR p).2 ≠ 0 then ([], (fileR p).2) else ((filesR ps).1 ++ [(fileR p).1], 0) := by
  induction ps with
  | nil =>
    show (if (fileR p).2 ≠ 0 then ([], (fileR p).2) else if (filesR []).2 ≠ 0 then ([], (filesR []).2) else ((fileR p).1 :: (filesR []).1, 0)) = _
    have h0 : ¬ (filesR []).2 ≠ 0 := fun h => h rfl
    rw [if_neg h0, if_neg h0]
    rfl
  | cons x ps ih =>
    rw [List.cons_append]
    unfold filesR
    rw [ih]
    by_cases h1 : (fileR x).2 ≠ 0
    · simp only [if_pos h1]
    · simp only [if_neg h1]
      by_cases h2 : (filesR ps).2 ≠ 0
      · simp only [if_pos h2]
      · simp only [if_neg h2]
        by_cases h3 : (fileR p).2 ≠ 0
        · simp only [if_pos h3]
          simp
        · simp only [if_neg h3]
          simp
theorem filesR_first {ps : List (List UInt8)} {k : Nat} (h : k < ps.length) (he : (filesR (ps.take k)).2 = 0) (hb : (fileR ps[k]).2 ≠ 0) : filesR ps = ([], (fileR ps[k]).2) := by
  induction ps generalizing k with
  | nil => cases h
  | cons x ps ih =>
    cases k with
    | zero =>
      have hb' : (fileR x).2 ≠ 0 := hb
      show (if (fileR x).2 ≠ 0 then _ else _) = _
      rw [if_pos hb']; rfl
    | succ k =>
      have he' : (filesR (x :: ps.take k)).2 = 0 := he
      have hk : k < ps.length := by simpa using h
      unfold filesR at he' ⊢
      by_cases h1 : (fileR x).2 ≠ 0
      · rw [if_pos h1] at he'; exact absurd he' h1
      · rw [if_neg h1] at he' ⊢
        by_cases h2 : (filesR (ps.take k)).2 ≠ 0
        · rw [if_pos h2] at he'; exact absurd he' h2
        · have hb' : (fileR ps[k]).2 ≠ 0 := hb
          have := ih hk (Classical.byContradiction h2) hb'
          rw [this, if_pos hb']
          rfl
/-- an edit is answered, and an error -/
def RetEdit (r : LEdit × Int) (w : World) (en : Ending) (w' : World) : Prop :=
  ∃ A a D d, en = .returned (.tuple #[.agg #[.bool r.1.reset, .slice A r.1.add.length a, .slice D r.1.drop.length d, .int .u64 (r.1.seq : Int)], .int .i64 r.2]) ∧ Own FE 66 w' w.heap.size (fun b => w.heap.size ≤ b) (.slice A r.1.add.length a) r.1.add ∧ Own NE 23 w' w.heap.size (fun _ => False) (.slice D r.1.drop.length d) r.1.drop ∧ U64 r.1.seq ∧ Below w.heap.size w w'
theorem RetEdit.bad {r : LEdit × Int} {e : Int} (h : Hid (r = (.zero, e))) {w w' : World} (hb : Below w.heap.size w w') : RetEdit r w (.returned (.tuple #[.agg #[.bool false, .slice none 0 0, .slice none 0 0, .int .u64 0], .int .i64 e])) w' := by
  rw [h.out]
  exact ⟨none, 0, none, 0, rfl, Own.nil_ _ _ _ _ _, Own.nil_ _ _ _ _ _, by show (0 : Nat) < _; decide, hb⟩
theorem step_appE {α : Type} (E : ER α) (b : Nat) (w : World) {ops : Array Oper} {o : Oper} {a : Act} {K : Act → World → Prop} {Q : Exit → Act → World → Prop} {X : Prop} (hgd : o.guard = none) (s x : Operand) (t ty : TypeId)
    (ho : o.op = .call { callee := .builtin .append, args := #[s, x], argTypes := #[ty, ty] }) (i : TypeInfo) (z : Value) (ht : Try.prog.underlying ty = some (.slice t)) (hi : Try.prog.info? t = some i) (hz : i.zero = some z) (hsize : i.size = E.size) (hby : i.bytes = E.bytes) (hzs : z.cells.size = E.size)
    (S : Nat → Prop) (A : Option Addr) (xs : List α) (c : Nat) (hs : a.eval s = .slice A xs.length c) (hown : Own E t w b S (.slice A xs.length c) xs)
    (B : Option Addr) (us : List Value) (y : α) (d : Nat) (hx : a.eval x = .slice B 1 d) (Bd : Nat) (hr : Reads w Bd E.size B 1 us) (hrep : E.rep w (fun b => S b ∧ (Value.slice A xs.length c).ownBlock ≠ some b) us y)
    (hl : (xs.length + 1) * E.bytes ≤ 140737488355328) (hl2 : xs.length + 1 ≤ maxLen) (hbw : b ≤ w.heap.size)
    (h : ∀ A' c' xs' w', Hid (xs' = xs ++ [y]) → Own E t w' b S (.slice A' xs'.length c') xs' → w.grownBy w' (Value.slice A xs.length c).ownBlock → ((Value.slice A' xs'.length c').ownBlock = (Value.slice A xs.length c).ownBlock ∨ (Value.slice A' xs'.length c').ownBlock = some w.heap.size) → K (a.put o.dst (.slice A' xs'.length c')) w') :
    if Region.wanted o (yielded ops a.tmps) = true then Oper.wp Try.prog o a w K Q else X := by
  obtain ⟨vs, hown, hf⟩ := hown
  refine step_append_sh w hgd s x ty ho b t i z E.size E.bytes ht hi hz hsize hby hzs E.pos _ _ _ hs hown Bd B 1 d us hx hr (E.one hrep) hl2 hl hbw ?_
  intro A' c' w' o' g' t'
  have e : xs.length + 1 = (xs ++ [y]).length := by rw [List.length_append]; rfl
  have hst := Own.step (S := S) hf hrep o' g' t'
  rw [e] at hst t' ⊢
  exact h A' c' (xs ++ [y]) w' rfl hst g' t'
theorem getT_bad : ∀ {l t : List UInt8} {k : Nat} {e : Int}, getT l = (t, k, e) → e ≠ 0 → t = []
  | [], t, k, e, h, _ => by injection h with h; exact h.symm
  | x :: l, t, k, e, h, he => by
    by_cases hx : x ≠ 0
    · rw [getT_ne hx] at h
      cases hg : getT l with
      | mk t' r =>
        obtain ⟨k', e'⟩ := r
        rw [hg] at h
        dsimp only at h
        by_cases h0 : e' = 0
        · rw [if_pos h0] at h; injection h with _ h; injection h with _ h; exact absurd h.symm he
        · rw [if_neg h0] at h; injection h with h; exact h.symm
    · cases l with
      | nil =>
        unfold getT at h
        rw [if_neg hx] at h
        injection h with h; exact h.symm
      | cons y r =>
        unfold getT at h
        rw [if_neg hx] at h
        dsimp only at h
        by_cases h1 : y = 1
        · rw [if_pos h1] at h; injection h with h; exact h.symm
        · rw [if_neg h1] at h
          by_cases h2 : y ≠ 255
          · rw [if_pos h2] at h; injection h with h; exact h.symm
          · rw [if_neg h2] at h
            cases hg : getT r with
            | mk t' s =>
              obtain ⟨k', e'⟩ := s
              rw [hg] at h
              dsimp only at h
              by_cases h0 : e' = 0
              · rw [if_pos h0] at h; injection h with _ h; injection h with _ h; exact absurd h.symm he
              · rw [if_neg h0] at h; injection h with h; exact h.symm
theorem getT_len (l : List UInt8) : (getT l).1.length ≤ l.length := by
  cases hg : getT l with
  | mk t s =>
    obtain ⟨k, e⟩ := s
    by_cases h0 : e = 0
    · subst h0; have := getT_ok hg; show t.length ≤ _; omega
    · rw [getT_bad hg h0]; exact Nat.zero_le _
theorem tN_len (l : List UInt8) (q : Nat) (e : Int) : (tN l q e).1.length ≤ l.length := by
  unfold tN
  split
  · exact Nat.zero_le _
  · have := getT_len (l.drop q)
    rw [List.length_drop] at this
    show (getT (l.drop q)).1.length ≤ _
    omega
theorem fileR_len (p : List UInt8) : (fileR p).1.first.length ≤ p.length ∧ (fileR p).1.last.length ≤ p.length := ⟨tN_len _ _ _, tN_len _ _ _⟩
/-- what a reader has still to read -/
def rdLeft (n g : Nat) (w : World) : Nat := if intOf ((w.cell? ⟨g, 2, none⟩).getD (.int .i64 0)) = 0 then n + 1 - (intOf ((w.cell? ⟨g, 1, none⟩).getD (.int .i64 0))).toNat else 0
theorem rdLeft_eq {n g q : Nat} {e : Int} {v : Value} {w : World} (h : Blk w g 94 #[v, .int .i64 (q : Int), .int .i64 e]) : rdLeft n g w = if e = 0 then n + 1 - q else 0 := by
  have h1 : w.cell? ⟨g, 1, none⟩ = some (.int .i64 (q : Int)) := h.cell 1
  have h2 : w.cell? ⟨g, 2, none⟩ = some (.int .i64 e) := h.cell 2
  unfold rdLeft
  rw [h1, h2]
  rfl
theorem Try.size_MEdit : (Try.prog.info? 42).map (·.size) = some 4 := by kernel_rfl
theorem getD_getElem {α : Type} {l : List α} {k : Nat} (h : k < l.length) (d : α) : l.getD k d = l[k] := by
  rw [List.getD_eq_getElem?_getD, List.getElem?_eq_getElem h]; rfl
theorem Try.infoU64 : (Try.prog.info? 23).map (fun i => (i.zero, i.size, i.bytes)) = some (some (.int .u64 0), 1, 8) := by kernel_rfl
theorem Try.infoFile : (Try.prog.info? 66).map (fun i => (i.zero, i.size, i.bytes)) = some (some (.agg #[.slice none 0 0, .slice none 0 0, .int .i64 0, .int .i64 0, .int .u64 0, .int .i64 0]), 6, 80) := by kernel_rfl
set_option maxRecDepth 100000 in
set_option maxHeartbeats 8000000 in
theorem mdecode_any (A : Option Addr) (l : List UInt8) (c : Nat) (w : World) (hb : Bs w A l) (hc : l.length ≤ c ∧ c ≤ 9223372036854775807) (hl5 : l.length ≤ 1048576) : Calls Try.prog 17 #[.slice A l.length c] w (RetEdit (decM l) w) := by
  obtain ⟨i1, hi1, hy0, hy1, hy2⟩ := info_parts Try.infoU64
  obtain ⟨i2, hi2, hx0, hx1, hx2⟩ := info_parts Try.infoFile
  have b0 : Below w.heap.size w (w.alloc (.cells #[.bool false, .slice none 0 0, .slice none 0 0, .int .u64 0] 42)) := (Below.refl _ _).alloc (Nat.le_refl _) _
  have kP := Blk.new w 42 #[.bool false, .slice none 0 0, .slice none 0 0, .int .u64 0]
  have T := parts_any A l c (w.alloc (.cells #[.bool false, .slice none 0 0, .slice none 0 0, .int .u64 0] 42)) (hb.below b0) hc (by omega)
  have hps := partsA_small (f := l.length) (l := l) (acc := [])
  have hp0 : partsA l.length l [] = partsL l := rfl
  rw [hp0] at hps
  have HD0 : Hid (decM l = if (partsL l).2 ≠ 0 then (.zero, (partsL l).2) else decM1 (partsL l).1) := rfl
  clear hp0 hb
  generalize partsL l = r at *
  obtain ⟨ps, e0⟩ := r
  have hpl : ps.length ≤ 1048576 := by have h1 : ps.length ≤ [].length + l.length := hps.1; rw [List.length_nil] at h1; omega
  have HPL : Hid (∀ x ∈ ps, x.length ≤ 1048576) := fun x hx => by have := (hps.2 x hx).resolve_left (by simp); omega
  clear hps
  go_enter Try.func17, Try.ntmps17
  go_wp2_with fail
  generalize (w.alloc (.cells #[.bool false, .slice none 0 0, .slice none 0 0, .int .u64 0] 42)) = W0 at *
  refine T.mono ?_
  clear T
  rintro en w1 ⟨P, dp, rfl, oP0, b1⟩
  have oP : Own BsE 49 w1 W0.heap.size (fun b => W0.heap.size ≤ b ∧ b < w1.heap.size) (.slice P ps.length dp) ps := oP0
  have cP := Own.caps oP
  have sP : SlS BsE w1 (fun b => b < w1.heap.size) P ps := (Own.sl oP (by simp only [BsE]; omega)).old
  have k1 := kP.below b1 kP.lt
  have z0 := kP.lt
  have z1 := b1.size
  have b01 := b0.trans (b1.mono b0.size)
  clear oP0 oP kP b0 b1
  by_cases he : e0 = 0
  case neg =>
    have d0 : (e0 != 0) = true := by rw [bne_iff_ne]; exact he
    have HE : Hid (decM l = (.zero, e0)) := by show _ = _; rw [HD0.out]; exact if_pos he
    clear he HD0
    go_wp2_with ((with_reducible refine wpList_store_blk rfl 42 (.tmp 2) (.tmp 21) rfl w.heap.size 42 _ #[.bool false, .slice none 0 0, .slice none 0 0, .int .u64 0] ?_ ?_ k1 Try.size_MEdit ?_ ?_ ?_ ?_); rfl; rfl; rfl; rfl; (simp [Value.oneCell']); intro w9 kz9 g9 z9)
    exact bodyPost_ret (results_cell2 rfl rfl rfl kz9 Try.underlying42 rfl Try.size_MEdit) rfl (by exact RetEdit.bad HE (b01.grown g9 b01.size (fun j e => by have := Option.some.inj e; omega)))
  have d0 : (e0 != 0) = false := by rw [he]; rfl
  have HD1 : Hid (decM l = decM1 ps) := by show _ = _; rw [HD0.out]; exact if_neg (fun h => h he)
  clear he HD0
  by_cases h2 : ps.length < 2
  case pos =>
    have d1 : (ps.length : Int) < 2 := by omega
    have HE : Hid (decM l = (.zero, 3)) := by show _ = _; rw [HD1.out]; exact if_pos h2
    clear h2 HD1
    go_wp2_with ((with_reducible refine wpList_store_blk rfl 42 (.tmp 2) (.tmp 41) rfl w.heap.size 42 _ #[.bool false, .slice none 0 0, .slice none 0 0, .int .u64 0] ?_ ?_ k1 Try.size_MEdit ?_ ?_ ?_ ?_); rfl; rfl; rfl; rfl; (simp [Value.oneCell']); intro w9 kz9 g9 z9)
    exact bodyPost_ret (results_cell2 rfl rfl rfl kz9 Try.underlying42 rfl Try.size_MEdit) rfl (by exact RetEdit.bad HE (b01.grown g9 b01.size (fun j e => by have := Option.some.inj e; omega)))
  have d1 : ¬ (ps.length : Int) < 2 := by omega
  have d1a : (0 : Int) < (ps.length : Int) := by omega
  have d1b : (1 : Int) < (ps.length : Int) := by omega
  obtain ⟨pd, H, hc0, rfl, hpb, x0, hH, hHat, hcap⟩ := BsE.at_ sP (show 0 < ps.length by omega)
  obtain ⟨pd2, G, gc, e2, _, x1, hG, hGat, gcap⟩ := BsE.at_ sP (show 1 < ps.length by omega)
  obtain rfl : pd = pd2 := Option.some.inj e2
  have hpl0 := HPL.out ps[0] (List.getElem_mem _)
  have hpl1 := HPL.out ps[1] (List.getElem_mem _)
  rw [add_zero_] at x0
  unfold Addr.add at x1
  rw [if_neg (by decide)] at x1
  have HD2 : Hid (decM l = if ps[0].length = 0 then (.zero, 3) else if 1 < (ps[0].getD 0 0).toNat then (.zero, 3) else decM2 ps[0] ps[1] (ps.drop 2)) := by show _ = _; rw [HD1.out]; unfold decM1; rw [if_neg h2, getD_getElem (show 0 < ps.length by omega), getD_getElem (show 1 < ps.length by omega)]
  clear e2 HD1
  generalize ps[0] = h at *
  generalize ps[1] = dl at *
  by_cases h3 : h.length = 0
  case pos =>
    have d2 : ((h.length : Int) == 0) = true := by rw [beq_iff_eq]; omega
    have HE : Hid (decM l = (.zero, 3)) := by show _ = _; rw [HD2.out]; exact if_pos h3
    clear h3 HD2 h2
    go_wp2_with ((with_reducible refine wpList_store_blk rfl 42 (.tmp 2) (.tmp 41) rfl w.heap.size 42 _ #[.bool false, .slice none 0 0, .slice none 0 0, .int .u64 0] ?_ ?_ k1 Try.size_MEdit ?_ ?_ ?_ ?_); rfl; rfl; rfl; rfl; (simp [Value.oneCell']); intro w9 kz9 g9 z9)
    exact bodyPost_ret (results_cell2 rfl rfl rfl kz9 Try.underlying42 rfl Try.size_MEdit) rfl (by exact RetEdit.bad HE (b01.grown g9 b01.size (fun j e => by have := Option.some.inj e; omega)))
  have d2 : ((h.length : Int) == 0) = false := by rw [beq_eq_false_iff_ne]; omega
  have d2a : (0 : Int) < (h.length : Int) := by omega
  obtain ⟨hd, rfl, hdb, x2⟩ := hH.at_ (show 0 < h.length by omega)
  rw [add_zero_] at x2
  have HX : Hid (h.getD 0 0 = h[0]) := getD_getElem (show 0 < h.length by omega) 0
  have HD3 : Hid (decM l = if 1 < (h.getD 0 0).toNat then (.zero, 3) else decM2 h dl (ps.drop 2)) := by show _ = _; rw [HD2.out]; exact if_neg h3
  clear HD2 h3
  obtain ⟨xb, hxb⟩ : ∃ xb : Int, ((h.getD 0 0).toNat : Int) = xb := ⟨_, rfl⟩
  have x2' : w1.cell? hd = some (.int .u8 xb) := by rw [x2, ← hxb, HX.out]
  clear x2 HX
  have HXB := Lib.hid hxb
  by_cases h4 : 1 < (h.getD 0 0).toNat
  case pos =>
    have d3 : (1 : Int) < xb := by omega
    have HE : Hid (decM l = (.zero, 3)) := by show _ = _; rw [HD3.out]; exact if_pos h4
    clear h4 HD3 h2 hxb
    go_wp2_with ((with_reducible refine wpList_store_blk rfl 42 (.tmp 2) (.tmp 41) rfl w.heap.size 42 _ #[.bool false, .slice none 0 0, .slice none 0 0, .int .u64 0] ?_ ?_ k1 Try.size_MEdit ?_ ?_ ?_ ?_); rfl; rfl; rfl; rfl; (simp [Value.oneCell']); intro w9 kz9 g9 z9)
    exact bodyPost_ret (results_cell2 rfl rfl rfl kz9 Try.underlying42 rfl Try.size_MEdit) rfl (by exact RetEdit.bad HE (b01.grown g9 b01.size (fun j e => by have := Option.some.inj e; omega)))
  have d3 : ¬ (1 : Int) < xb := by omega
  have HD4 : Hid (decM l = decM2 h dl (ps.drop 2)) := by show _ = _; rw [HD3.out]; exact if_neg h4
  clear h4 HD3 hxb
  have d4 : Below w1.heap.size w1 (w1.alloc (.cells #[.slice (some hd) h.length hc0, .int .i64 ((1 : Nat) : Int), .int .i64 0] 94)) := (Below.refl _ _).alloc (Nat.le_refl _) _
  have kg := Blk.new w1 94 #[.slice (some hd) h.length hc0, .int .i64 ((1 : Nat) : Int), .int .i64 0]
  have k4 := k1.below d4 k1.lt
  have b04 := b01.trans (d4.mono b01.size)
  have sP4 := sP.below d4
  have hH4 := hH.below d4
  have hG4 := hG.below d4
  have y0 := (d4.cell hpb).trans x0
  have y1 := (d4.cell (p := ⟨pd.block, pd.off + 1, none⟩) hpb).trans x1
  have y2 := (d4.cell hdb).trans x2'
  have d1W := d4
  clear d4 hH
  go_upto_region 7 with fail
  have zg : w1.heap.size < (w1.alloc (.cells #[.slice (some hd) h.length hc0, .int .i64 ((1 : Nat) : Int), .int .i64 0] 94)).heap.size := kg.lt
  generalize (w1.alloc (.cells #[.slice (some hd) h.length hc0, .int .i64 ((1 : Nat) : Int), .int .i64 0] 94)) = W1 at *
  obtain ⟨⟨n1, q1, e1⟩, hr1⟩ : ∃ r, nN h 1 0 = r := ⟨_, rfl⟩
  have hq1 : q1 ≤ h.length := by have := nN_le (e := 0) (show 1 ≤ h.length by omega); rw [hr1] at this; exact this
  have hu1 : U64 n1 := by have := nN_u64 h 1 0; rw [hr1] at this; exact this
  have HR1 := Lib.hid hr1
  have HT : Hid (∀ W : World, Blk W w1.heap.size 94 #[.slice (some hd) h.length hc0, .int .i64 ((1 : Nat) : Int), .int .i64 0] → Bs W (some hd) h → Calls Try.prog 48 #[.pointer (some ⟨w1.heap.size, 0, none⟩)] W (RetNxN w1.heap.size (some hd) h hc0 (n1, q1, e1) W)) := fun W h1 h2 => by have T := numN w1.heap.size (some hd) h hc0 1 0 W h1 h2 (by omega); rw [hr1] at T; exact T
  clear hr1
  go_cut [7] (fun s7 wx => ∃ fb : Nat, s7 = .pointer (some ⟨fb, 0, none⟩) ∧ W1.heap.size ≤ fb ∧ Blk wx fb 42 #[.bool (xb == 1), .slice none 0 0, .slice none 0 0, .int .u64 (n1 : Int)] ∧ Blk wx w1.heap.size 94 #[.slice (some hd) h.length hc0, .int .i64 (q1 : Int), .int .i64 e1] ∧ W1.grownBy wx (some w1.heap.size))
  case first =>
    refine wp_region_noPanic ?_
    have kgd := kg.drew
    have hHd := hH4.below ((Below.refl _ _).drew)
    have zd : W1.heap.size = W1.drew.heap.size := rfl
    refine wp_region_held_drew (S := fun W => W.cell? pd = some (.slice (some hd) h.length hc0) ∧ W.cell? hd = some (.int .u8 xb)) (by kernel_rfl) ⟨y0, y2⟩ (fun hH => ?_)
    have gd : W1.grownBy W1.drew (some w1.heap.size) := only_drew (World.grownBy.refl W1 _)
    generalize W1.drew = V at *
    refine wpAnyH_take (i := 0) (v := ?_) rfl (by kernel_rfl) (by kernel_rfl) (by kernel_rfl) (fun _ _ _ h => h) (Or.inl ⟨by rfl, ?_⟩) hH ?_
    case refine_2 => intro w hSw; go_simp; try with_reducible rfl
    try simp only [List.getElem_toArray, List.getElem_cons_zero, Act.put, List.setIfInBounds_toArray, List.set_cons_zero, List.set_cons_succ]
    refine wpAnyH_take (i := 1) (v := ?_) rfl (by kernel_rfl) (by kernel_rfl) (by kernel_rfl) (fun _ _ _ h => h) (Or.inl ⟨by rfl, ?_⟩) hH ?_
    case refine_2 => intro w hSw; go_simp; try with_reducible rfl
    try simp only [List.getElem_toArray, List.getElem_cons_succ, List.getElem_cons_zero, Act.put, List.setIfInBounds_toArray, List.set_cons_zero, List.set_cons_succ]
    refine wpAnyH_take (i := 2) (v := ?_) rfl (by kernel_rfl) (by kernel_rfl) (by kernel_rfl) (fun _ _ _ h => h) (Or.inl ⟨by rfl, ?_⟩) hH ?_
    case refine_2 => intro w hSw; have s0 := hSw.1; have s1 := hSw.2; go_simp; try with_reducible rfl
    try simp only [List.getElem_toArray, List.getElem_cons_succ, List.getElem_cons_zero, Act.put, List.setIfInBounds_toArray, List.set_cons_zero, List.set_cons_succ]
    refine wpAnyH_take (i := 3) (v := ?_) rfl (by kernel_rfl) (by kernel_rfl) (by kernel_rfl) (fun _ _ _ h => h) (Or.inl ⟨by rfl, ?_⟩) hH ?_
    case refine_2 => intro w hSw; go_simp; try with_reducible rfl
    try simp only [List.getElem_toArray, List.getElem_cons_succ, List.getElem_cons_zero, Act.put, List.setIfInBounds_toArray, List.set_cons_zero, List.set_cons_succ]
    refine wpAnyH_take (i := 4) (v := ?_) rfl (by kernel_rfl) (by kernel_rfl) (by kernel_rfl) (fun _ _ _ h => h) (Or.inl ⟨by rfl, ?_⟩) hH ?_
    case refine_2 => intro w hSw; have s0 := hSw.1; have s1 := hSw.2; go_simp; try with_reducible rfl
    try simp only [List.getElem_toArray, List.getElem_cons_succ, List.getElem_cons_zero, Act.put, List.setIfInBounds_toArray, List.set_cons_zero, List.set_cons_succ]
    refine wpAnyH_take (i := 5) (v := ?_) rfl (by kernel_rfl) (by kernel_rfl) (by kernel_rfl) (fun _ _ _ h => h) (Or.inl ⟨by rfl, ?_⟩) hH ?_
    case refine_2 => intro w hSw; go_simp; try with_reducible rfl
    try simp only [List.getElem_toArray, List.getElem_cons_succ, List.getElem_cons_zero, Act.put, List.setIfInBounds_toArray, List.set_cons_zero, List.set_cons_succ]
    refine wpAnyH_take (i := 6) (v := ?_) rfl (by kernel_rfl) (by kernel_rfl) (by kernel_rfl) (fun _ _ _ h => h) (Or.inl ⟨by rfl, ?_⟩) hH ?_
    case refine_2 => intro w hSw; go_simp; try with_reducible rfl
    try simp only [List.getElem_toArray, List.getElem_cons_succ, List.getElem_cons_zero, Act.put, List.setIfInBounds_toArray, List.set_cons_zero, List.set_cons_succ]
    refine wpAnyH_ready (rs := [7, 9]) (by kernel_rfl) (by simp) ?_
    refine AllReadyH.cons rfl (fun K hK => ?_) (AllReadyH.cons rfl (fun K hK => ?_) AllReadyH.nil)
    · -- the number first
      go_simp
      refine (HT.out V kgd hHd).mono ?_
      rintro en w2 ⟨rfl, kg2, g2⟩
      replace kg2 : Blk w2 w1.heap.size 94 #[.slice (some hd) h.length hc0, .int .i64 (q1 : Int), .int .i64 e1] := kg2
      have gd2 := gd.trans g2
      have zz2 := g2.size
      have s0 : w2.cell? pd = some (.slice (some hd) h.length hc0) := (g2.cell_far pd (by omega) (fun e => by have := Option.some.inj e; omega)).trans hH.1
      have s1 : w2.cell? hd = some (.int .u8 xb) := (g2.cell_far hd (by omega) (fun e => by have := Option.some.inj e; omega)).trans hH.2
      refine hK.out _ _ ⟨s0, s1⟩ (fun hH => ?_)
      clear hK K
      try dsimp only
      try simp only [List.getElem_toArray, List.getElem_cons_succ, List.getElem_cons_zero, Act.put, List.setIfInBounds_toArray, List.set_cons_zero, List.set_cons_succ]
      refine wpAnyH_take (i := 8) (v := ?_) rfl (by kernel_rfl) (by kernel_rfl) (by kernel_rfl) (fun _ _ _ h => h) (Or.inl ⟨by rfl, ?_⟩) hH ?_
      case refine_2 => intro w hSw; go_simp; try with_reducible rfl
      try simp only [List.getElem_toArray, List.getElem_cons_succ, List.getElem_cons_zero, Act.put, List.setIfInBounds_toArray, List.set_cons_zero, List.set_cons_succ]
      refine wpAnyH_ready (rs := [9]) (by kernel_rfl) (by simp) ?_
      refine AllReadyH.cons rfl (fun K hK => ?_) AllReadyH.nil
      go_simp
      have a3 : Below w2.heap.size w2 (w2.alloc (.cells #[.bool false, .slice none 0 0, .slice none 0 0, .int .u64 0] 42)) := (Below.refl _ _).alloc (Nat.le_refl _) _
      have kz3 := Blk.new w2 42 #[.bool false, .slice none 0 0, .slice none 0 0, .int .u64 0]
      have kg3 := kg2.below a3 kg2.lt
      have t0 := (a3.cell (by omega)).trans s0
      have t1 := (a3.cell (by omega)).trans s1
      have g3 : w2.grownBy (w2.alloc (.cells #[.bool false, .slice none 0 0, .slice none 0 0, .int .u64 0] 42)) (some w1.heap.size) := only_alloc (World.grownBy.refl w2 _) _
      refine hK.out _ _ ⟨t0, t1⟩ (fun hH => ?_)
      clear hK K
      try dsimp only
      try simp only [List.getElem_toArray, List.getElem_cons_succ, List.getElem_cons_zero, Act.put, List.setIfInBounds_toArray, List.set_cons_zero, List.set_cons_succ]
      have zz3 := a3.size
      generalize (w2.alloc (.cells #[.bool false, .slice none 0 0, .slice none 0 0, .int .u64 0] 42)) = V3 at *
      refine wpAnyH_ready (rs := [10]) (by kernel_rfl) (by simp) ?_
      refine AllReadyH.cons rfl (fun K hK => ?_) AllReadyH.nil
      refine step_store_blk rfl 42 (.tmp 7) (.tmp 55) rfl w2.heap.size 42 #[.bool false, .slice none 0 0, .slice none 0 0, .int .u64 0] #[.bool (xb == 1), .slice none 0 0, .slice none 0 0, .int .u64 (n1 : Int)] rfl rfl kz3 Try.size_MEdit rfl rfl (by simp [Value.oneCell']) ?_
      intro w9 kz9 g9 z9
      refine hK.out _ _ ⟨(g9.cell_far pd (by omega) (fun e => by have := Option.some.inj e; omega)).trans t0, (g9.cell_far hd (by omega) (fun e => by have := Option.some.inj e; omega)).trans t1⟩ (fun hH9 => ?_)
      clear hK K
      try simp only [List.getElem_toArray, List.getElem_cons_succ, List.getElem_cons_zero, Act.put]
      refine wpAnyH_done (by kernel_rfl) ?_ _
      refine NoPanic.normal ?_
      go_wp2_with fail
      go_meet
      case rel => exact ⟨w2.heap.size, rfl, by omega, kz9, Blk.grown kg3 g9 (fun e => by have := Option.some.inj e; omega), World.grownBy.andThen (gd2.trans g3) g9 (fun j e => .inl (by have := Option.some.inj e; omega))⟩
    · -- the block first
      go_simp
      have a3 : Below V.heap.size V (V.alloc (.cells #[.bool false, .slice none 0 0, .slice none 0 0, .int .u64 0] 42)) := (Below.refl _ _).alloc (Nat.le_refl _) _
      have kz3 := Blk.new V 42 #[.bool false, .slice none 0 0, .slice none 0 0, .int .u64 0]
      have kg3 := kgd.below a3 kgd.lt
      have hH3 := hHd.below a3
      have t0 := (a3.cell (by omega)).trans hH.1
      have t1 := (a3.cell (by omega)).trans hH.2
      have g3 : V.grownBy (V.alloc (.cells #[.bool false, .slice none 0 0, .slice none 0 0, .int .u64 0] 42)) (some w1.heap.size) := only_alloc (World.grownBy.refl V _) _
      refine hK.out _ _ ⟨t0, t1⟩ (fun hH => ?_)
      clear hK K
      try dsimp only
      try simp only [List.getElem_toArray, List.getElem_cons_succ, List.getElem_cons_zero, Act.put, List.setIfInBounds_toArray, List.set_cons_zero, List.set_cons_succ]
      have zz3 := a3.size
      have zz4 := kz3.lt
      generalize (V.alloc (.cells #[.bool false, .slice none 0 0, .slice none 0 0, .int .u64 0] 42)) = V3 at *
      refine wpAnyH_ready (rs := [7]) (by kernel_rfl) (by simp) ?_
      refine AllReadyH.cons rfl (fun K hK => ?_) AllReadyH.nil
      go_simp
      refine (HT.out V3 kg3 hH3).mono ?_
      rintro en w2 ⟨rfl, kg2, g2⟩
      replace kg2 : Blk w2 w1.heap.size 94 #[.slice (some hd) h.length hc0, .int .i64 (q1 : Int), .int .i64 e1] := kg2
      have gd2 := (gd.trans g3).trans g2
      have zz2 := g2.size
      have s0 : w2.cell? pd = some (.slice (some hd) h.length hc0) := (g2.cell_far pd (by omega) (fun e => by have := Option.some.inj e; omega)).trans t0
      have s1 : w2.cell? hd = some (.int .u8 xb) := (g2.cell_far hd (by omega) (fun e => by have := Option.some.inj e; omega)).trans t1
      refine hK.out _ _ ⟨s0, s1⟩ (fun hH => ?_)
      clear hK K
      try dsimp only
      try simp only [List.getElem_toArray, List.getElem_cons_succ, List.getElem_cons_zero, Act.put, List.setIfInBounds_toArray, List.set_cons_zero, List.set_cons_succ]
      have kz2 := kz3.grown g2 (fun e => by have := Option.some.inj e; omega)
      refine wpAnyH_take (i := 8) (v := ?_) rfl (by kernel_rfl) (by kernel_rfl) (by kernel_rfl) (fun _ _ _ h => h) (Or.inl ⟨by rfl, ?_⟩) hH ?_
      case refine_2 => intro w hSw; go_simp; try with_reducible rfl
      try simp only [List.getElem_toArray, List.getElem_cons_succ, List.getElem_cons_zero, Act.put, List.setIfInBounds_toArray, List.set_cons_zero, List.set_cons_succ]
      refine wpAnyH_ready (rs := [10]) (by kernel_rfl) (by simp) ?_
      refine AllReadyH.cons rfl (fun K hK => ?_) AllReadyH.nil
      refine step_store_blk rfl 42 (.tmp 7) (.tmp 55) rfl V.heap.size 42 #[.bool false, .slice none 0 0, .slice none 0 0, .int .u64 0] #[.bool (xb == 1), .slice none 0 0, .slice none 0 0, .int .u64 (n1 : Int)] rfl rfl kz2 Try.size_MEdit rfl rfl (by simp [Value.oneCell']) ?_
      intro w9 kz9 g9 z9
      refine hK.out _ _ ⟨(g9.cell_far pd (by omega) (fun e => by have := Option.some.inj e; omega)).trans s0, (g9.cell_far hd (by omega) (fun e => by have := Option.some.inj e; omega)).trans s1⟩ (fun hH9 => ?_)
      clear hK K
      try simp only [List.getElem_toArray, List.getElem_cons_succ, List.getElem_cons_zero, Act.put]
      refine wpAnyH_done (by kernel_rfl) ?_ _
      refine NoPanic.normal ?_
      go_wp2_with fail
      go_meet
      case rel => exact ⟨V.heap.size, rfl, by omega, kz9, Blk.grown kg2 g9 (fun e => by have := Option.some.inj e; omega), World.grownBy.andThen gd2 g9 (fun j e => .inl (by have := Option.some.inj e; omega))⟩
  case rest =>
    obtain ⟨fb, rfl, hfb, kf, kr, gr⟩ := hcut
    have bw := d1W.grown gr (Nat.le_of_lt zg) (fun j e => by have := Option.some.inj e; omega)
    clear k4 b04 sP4 hH4 hG4 y0 y1 y2 x0 x2' kg gr d1W HT
    go_wp2_with fail
    refine (done_any w1.heap.size (some hd) h hc0 q1 e1 wc kr).mono ?_
    rintro en w2 ⟨rfl, m, rfl⟩
    have kf2 := kf.drewN m
    have kr2 := kr.drewN m
    have b2 := below_drewN bw m
    clear kf kr bw
    generalize wc.drewN m = w2 at *
    have HD5 : Hid (decM l = if doneE h q1 e1 ≠ 0 then (.zero, doneE h q1 e1) else if (dropR dl).2 ≠ 0 then (.zero, (dropR dl).2) else if (filesR (ps.drop 2)).2 ≠ 0 then (.zero, (filesR (ps.drop 2)).2) else (⟨xb == 1, (filesR (ps.drop 2)).1, (dropR dl).1, n1⟩, 0)) := by show _ = _; rw [HD4.out]; unfold decM2; rw [HR1.out, HXB.out]
    clear HD4 HR1 HXB
    generalize doneE h q1 e1 = de at *
    have k12 := k1.below b2 k1.lt
    have b02 := b01.trans (b2.mono b01.size)
    by_cases hde : de = 0
    case neg =>
      have d5 : (de != 0) = true := by rw [bne_iff_ne]; exact hde
      have HE : Hid (decM l = (.zero, de)) := by show _ = _; rw [HD5.out]; exact if_pos hde
      clear hde HD5 h2
      go_wp2_with ((with_reducible refine wpList_store_blk rfl 42 (.tmp 2) (.tmp 60) rfl w.heap.size 42 _ #[.bool false, .slice none 0 0, .slice none 0 0, .int .u64 0] ?_ ?_ k12 Try.size_MEdit ?_ ?_ ?_ ?_); rfl; rfl; rfl; rfl; (simp [Value.oneCell']); intro w9 kz9 g9 z9)
      exact bodyPost_ret (results_cell2 rfl rfl rfl kz9 Try.underlying42 rfl Try.size_MEdit) rfl (by exact RetEdit.bad HE (b02.grown g9 b02.size (fun j e => by have := Option.some.inj e; omega)))
    have d5 : (de != 0) = false := by rw [hde]; rfl
    have HD6 : Hid (decM l = if (dropR dl).2 ≠ 0 then (.zero, (dropR dl).2) else if (filesR (ps.drop 2)).2 ≠ 0 then (.zero, (filesR (ps.drop 2)).2) else (⟨xb == 1, (filesR (ps.drop 2)).1, (dropR dl).1, n1⟩, 0)) := by show _ = _; rw [HD5.out]; exact if_neg (fun h => h hde)
    clear hde HD5
    have y1 := (b2.cell (p := ⟨pd.block, pd.off + 1, none⟩) hpb).trans x1
    have d6 : Below w2.heap.size w2 (w2.alloc (.cells #[.slice G dl.length gc, .int .i64 ((0 : Nat) : Int), .int .i64 0] 94)) := (Below.refl _ _).alloc (Nat.le_refl _) _
    have kg := Blk.new w2 94 #[.slice G dl.length gc, .int .i64 ((0 : Nat) : Int), .int .i64 0]
    have kf3 := kf2.below d6 kf2.lt
    have hfb2 := kf2.lt
    have b3 := b2.trans (d6.mono b2.size)
    have b03 := b02.trans (d6.mono b02.size)
    clear kf2 kr2 k12 b02 d6
    go_wp2_with fail
    clear y1 x1
    generalize (w2.alloc (.cells #[.slice G dl.length gc, .int .i64 ((0 : Nat) : Int), .int .i64 0] 94)) = W2 at *
    go_loopw [83] (fun _ wr => ∃ (q : Nat) (e : Int) (acc : List Nat) (D : Option Addr) (d : Nat), q ≤ dl.length ∧ acc.length ≤ dl.length ∧ Blk wr fb 42 #[.bool (xb == 1), .slice none 0 0, .slice D acc.length d, .int .u64 (n1 : Int)] ∧ Blk wr w2.heap.size 94 #[.slice G dl.length gc, .int .i64 (q : Int), .int .i64 e] ∧ Own NE 23 wr (w2.heap.size + 1) (fun _ => False) (.slice D acc.length d) acc ∧ ((e = 0 ∧ acc.length ≤ q ∧ dropR dl = dropQ dl q acc) ∨ (e ≠ 0 ∧ dropR dl = ([], e))) ∧ Below w1.heap.size w1 wr ∧ Below w.heap.size w wr) (fun _ wr => rdLeft dl.length w2.heap.size wr)
    case atStart => exact ⟨0, 0, [], none, 0, Nat.zero_le _, Nat.zero_le _, kf3, kg, Own.nil_ _ _ _ _ _, .inl ⟨rfl, Nat.le_refl _, rfl⟩, b3, b03⟩
    case round =>
      clear kf3 kg b3 b03
      obtain ⟨q, e, acc, D, d, hq, ha, kf, kr, oD, hcase, b3, b03⟩ := hrel
      have zb : w2.heap.size < wr.heap.size := kr.lt
      have c0 : wr.cell? ⟨w2.heap.size, 0, none⟩ = some (.slice G dl.length gc) := kr.cell 0
      have c1 : wr.cell? ⟨w2.heap.size, 1, none⟩ = some (.int .i64 (q : Int)) := kr.cell 1
      have c2 : wr.cell? ⟨w2.heap.size, 2, none⟩ = some (.int .i64 e) := kr.cell 2
      by_cases he : e ≠ 0
      · -- an error has come up
        have HD7 : Hid (decM l = (.zero, e)) := by
          have h1 := hcase.elim (fun h => absurd h.1 he) (fun h => h.2)
          show _ = _
          rw [HD6.out, h1]
          exact if_pos he
        have dz1 : (e == 0) = false := by rw [beq_eq_false_iff_ne]; exact he
        have dz2 : (e != 0) = true := by rw [bne_iff_ne]; exact he
        clear HD6 he hcase h2 d1 d1a d1b d2 d2a d3
        go_wp2_with fail
        go_quiet (fail)
        clear c0 c1 c2
        have c2 : (wr.drewN nq).cell? ⟨w2.heap.size, 2, none⟩ = some (.int .i64 e) := (kr.drewN nq).cell 2
        have kp := k1.below (below_drewN b3 nq) k1.lt
        have kr8 := kr.drewN nq
        have b8 := below_drewN b03 nq
        generalize (wr.drewN nq) = w8 at *
        go_upto_region 15 with fail
        clear c2 kf kr oD b3 b03
        have zw : w.heap.size < w1.heap.size := k1.lt
        refine wp_region_noPanic ?_
        refine wp_region_held_drew (S := fun W => W.cell? ⟨w2.heap.size, 2, none⟩ = some (.int .i64 e)) (by kernel_rfl) (kr8.cell 2) (fun hH => ?_)
        have kpd := kp.drew
        have krd := kr8.drew
        have bd := b8.drew
        clear kp kr8 b8
        generalize w8.drew = W at *
        refine wpAnyH_take (i := 0) (v := ?_) rfl (by kernel_rfl) (by kernel_rfl) (by kernel_rfl) (fun _ _ _ h => h) (Or.inl ⟨by rfl, ?_⟩) hH ?_
        case refine_2 => intro w hSw; go_simp; try with_reducible rfl
        try simp only [List.getElem_toArray, List.getElem_cons_zero, Act.put, List.setIfInBounds_toArray, List.set_cons_zero, List.set_cons_succ]
        refine wpAnyH_take (i := 1) (v := ?_) rfl (by kernel_rfl) (by kernel_rfl) (by kernel_rfl) (fun _ _ _ h => h) (Or.inl ⟨by rfl, ?_⟩) hH ?_
        case refine_2 => intro w hSw; go_simp; try with_reducible rfl
        try simp only [List.getElem_toArray, List.getElem_cons_succ, List.getElem_cons_zero, Act.put, List.setIfInBounds_toArray, List.set_cons_zero, List.set_cons_succ]
        refine wpAnyH_take (i := 2) (v := ?_) rfl (by kernel_rfl) (by kernel_rfl) (by kernel_rfl) (fun _ _ _ h => h) (Or.inl ⟨by rfl, ?_⟩) hH ?_
        case refine_2 => intro w hSw; go_simp; try with_reducible rfl
        try simp only [List.getElem_toArray, List.getElem_cons_succ, List.getElem_cons_zero, Act.put, List.setIfInBounds_toArray, List.set_cons_zero, List.set_cons_succ]
        refine wpAnyH_take (i := 3) (v := ?_) rfl (by kernel_rfl) (by kernel_rfl) (by kernel_rfl) (fun _ _ _ h => h) (Or.inl ⟨by rfl, ?_⟩) hH ?_
        case refine_2 => intro w hSw; go_simp; try with_reducible rfl
        try simp only [List.getElem_toArray, List.getElem_cons_succ, List.getElem_cons_zero, Act.put, List.setIfInBounds_toArray, List.set_cons_zero, List.set_cons_succ]
        refine wpAnyH_take (i := 4) (v := ?_) rfl (by kernel_rfl) (by kernel_rfl) (by kernel_rfl) (fun _ _ _ h => h) (Or.inl ⟨by rfl, ?_⟩) hH ?_
        case refine_2 => intro w hSw; have s0 := hSw; go_simp; try with_reducible rfl
        try simp only [List.getElem_toArray, List.getElem_cons_succ, List.getElem_cons_zero, Act.put, List.setIfInBounds_toArray, List.set_cons_zero, List.set_cons_succ]
        refine wpAnyH_ready (rs := [5]) (by kernel_rfl) (by simp) ?_
        refine AllReadyH.cons rfl (fun K hK => ?_) AllReadyH.nil
        refine step_store_blk rfl 42 (.tmp 2) (.tmp 96) rfl w.heap.size 42 #[.bool false, .slice none 0 0, .slice none 0 0, .int .u64 0] #[.bool false, .slice none 0 0, .slice none 0 0, .int .u64 0] rfl rfl kpd Try.size_MEdit rfl rfl (by simp [Value.oneCell']) ?_
        intro w9 kz9 g9 z9
        have kr9 := krd.grown g9 (fun e => by have := Option.some.inj e; have := b2.size; omega)
        have b9 := bd.grown g9 bd.size (fun j e => by have := Option.some.inj e; omega)
        refine hK.out _ _ (kr9.cell 2) (fun hH9 => ?_)
        clear hK K kpd krd bd
        try dsimp only
        try simp only [List.getElem_toArray, List.getElem_cons_succ, List.getElem_cons_zero, Act.put]
        refine wpAnyH_take (i := 6) (v := ?_) rfl (by kernel_rfl) (by kernel_rfl) (by kernel_rfl) (fun _ _ _ h => h) (Or.inl ⟨by rfl, ?_⟩) hH9 ?_
        case refine_2 => intro w hSw; go_simp; try with_reducible rfl
        try simp only [List.getElem_toArray, List.getElem_cons_succ, List.getElem_cons_zero, Act.put, List.setIfInBounds_toArray, List.set_cons_zero, List.set_cons_succ]
        refine wpAnyH_done (by kernel_rfl) ?_ _
        refine NoPanic.normal ?_
        go_wp2_with fail
        exact bodyPost_ret (results_cell2 rfl rfl rfl kz9 Try.underlying42 rfl Try.size_MEdit) rfl (by exact RetEdit.bad HD7 b9)
      obtain rfl : e = 0 := Classical.byContradiction he
      obtain ⟨haq, HDR⟩ : acc.length ≤ q ∧ Hid (dropR dl = dropQ dl q acc) := hcase.elim (fun h => h.2) (fun h => absurd rfl h.1)
      clear hcase he
      by_cases hql : q < dl.length
      · -- one more number
        have d7 : (q : Int) < (dl.length : Int) := by omega
        have hms := rdLeft_eq (n := dl.length) kr
        go_wp2_with fail
        go_quiet (fail)
        clear c0 c1 c2
        go_upto_region 13 with fail
        have T := numN w2.heap.size G dl gc q 0
        obtain ⟨⟨nn, q', e'⟩, hnn⟩ : ∃ r, nxtN dl q = r := ⟨_, rfl⟩
        have hn0 : nN dl q 0 = (nn, q', e') := (if_neg (fun h => h rfl)).trans hnn
        rw [hn0] at T
        have hu' : U64 nn := by have := nN_u64 dl q 0; rw [hn0] at this; exact this
        have hq' : q' ≤ dl.length := by have := nxtN_le (Nat.le_of_lt hql); rw [hnn] at this; exact this
        have hgt : e' = 0 → q < q' := fun h0 => by have := nxtN_gt (l := dl) (q := q) (by rw [hnn]; exact h0); rw [hnn] at this; exact this
        have HCASE : Hid ((e' = 0 ∧ (acc ++ [nn]).length ≤ q' ∧ dropR dl = dropQ dl q' (acc ++ [nn])) ∨ (e' ≠ 0 ∧ dropR dl = ([], e'))) := by
          by_cases h0 : e' = 0
          · refine .inl ⟨h0, by rw [List.length_append]; show acc.length + 1 ≤ q'; have := hgt h0; omega, ?_⟩
            have := dropQ_step hql (by rw [hnn]; exact h0) acc
            rw [hnn] at this
            rw [HDR.out, this]
          · refine .inr ⟨h0, ?_⟩
            have := dropQ_bad hql (by rw [hnn]; exact h0) acc
            rw [hnn] at this
            rw [HDR.out, this]
        clear hn0 hnn HDR
        have kfd := (kf.drewN nq).drew
        have krd := (kr.drewN nq).drew
        have bd := (below_drewN b3 nq).drew
        have b0d := (below_drewN b03 nq).drew
        have oDd := Own.below (Own.below oD (below_drewN (Below.refl _ _) nq)) ((Below.refl _ _).drew)
        have hGd := hG.below bd
        refine wp_region_noPanic ?_
        refine wp_region_heldK (fun W => W.cell? ⟨fb, 2, none⟩ = some (.slice D acc.length d)) 7 (by kernel_rfl) (kfd.cell 2) (fun hH => ?_)
        clear kf kr b3 b03 oD
        generalize (wr.drewN nq).drew = W at *
        refine wpAnyK_takeY (i := 0) (v := ?_) rfl (by kernel_rfl) (by kernel_rfl) (by kernel_rfl) (by kernel_rfl) (fun _ _ _ h => h) (Or.inl ⟨by rfl, ?_⟩) hH ?_
        case refine_2 => intro w; go_simp; try with_reducible rfl
        try simp only [List.getElem_toArray, List.getElem_cons_zero, Act.put, List.setIfInBounds_toArray, List.set_cons_zero, List.set_cons_succ]
        refine wpAnyK_take (i := 1) (v := ?_) rfl (by kernel_rfl) (by kernel_rfl) (by kernel_rfl) (by kernel_rfl) (fun _ _ _ h => h) (Or.inl ⟨by rfl, ?_⟩) hH ?_
        case refine_2 => intro w hSw; have s0 := hSw; go_simp; try with_reducible rfl
        try simp only [List.getElem_toArray, List.getElem_cons_succ, List.getElem_cons_zero, Act.put, List.setIfInBounds_toArray, List.set_cons_zero, List.set_cons_succ]
        refine wpAnyK_takeY (i := 2) (v := ?_) rfl (by kernel_rfl) (by kernel_rfl) (by kernel_rfl) (by kernel_rfl) (fun _ _ _ h => h) (Or.inl ⟨by rfl, ?_⟩) hH ?_
        case refine_2 => intro w; go_simp; try with_reducible rfl
        try simp only [List.getElem_toArray, List.getElem_cons_succ, List.getElem_cons_zero, Act.put, List.setIfInBounds_toArray, List.set_cons_zero, List.set_cons_succ]
        refine wpAnyK_ready (rs := [3]) (by kernel_rfl) (by simp) ?_
        refine AllReadyK.cons rfl (by kernel_rfl) (fun K hK => ?_) AllReadyK.nil
        go_simp
        refine (T W krd hGd (Nat.le_of_lt hql)).mono ?_
        clear T
        rintro en w4 ⟨rfl, kr4, g4⟩
        replace kr4 : Blk w4 w2.heap.size 94 #[.slice G dl.length gc, .int .i64 (q' : Int), .int .i64 e'] := kr4
        have kf4 := kfd.grown g4 (fun e => by have := Option.some.inj e; omega)
        have oD4 := Own.same oDd g4 (.inr fun e => by have := (Own.lt oDd _ e).1; omega) (fun _ h => h.elim)
        have b4 := bd.grown g4 bd.size (fun j e => by have := Option.some.inj e; omega)
        have b04 := b0d.grown g4 b0d.size (fun j e => by have := Option.some.inj e; omega)
        clear kfd krd hGd bd b0d oDd g4
        refine hK.out _ _ (kf4.cell 2) ?_
        clear hK K hH
        try dsimp only
        try simp only [List.getElem_toArray, List.getElem_cons_succ, List.getElem_cons_zero, Act.put, List.setIfInBounds_toArray, List.set_cons_zero, List.set_cons_succ]
        refine wpAnyK_ready (rs := [4]) (by kernel_rfl) (by simp) ?_
        refine AllReadyK.cons rfl (by kernel_rfl) (fun K hK => ?_) AllReadyK.nil
        go_simp
        have d5 : Below w4.heap.size w4 (w4.alloc (.cells #[.int .u64 (nn : Int)] 23)) := (Below.refl _ _).alloc (Nat.le_refl _) _
        have kf5 := kf4.below d5 kf4.lt
        have kr5 := kr4.below d5 kr4.lt
        have oD5 := Own.below oD4 d5
        have b5 := b4.trans (d5.mono b4.size)
        have b05 := b04.trans (d5.mono b04.size)
        have hrd := Reads.new1 w4 (.int .u64 (nn : Int)) 23
        refine hK.out _ _ (kf5.cell 2) ?_
        clear hK K
        try dsimp only
        try simp only [List.getElem_toArray, List.getElem_cons_succ, List.getElem_cons_zero, Act.put, List.setIfInBounds_toArray, List.set_cons_zero, List.set_cons_succ]
        clear kf4 kr4 oD4 b4 b04 d5
        generalize (w4.alloc (.cells #[.int .u64 (nn : Int)] 23)) = w5 at *
        refine wpAnyK_ready (rs := [5]) (by kernel_rfl) (by simp) ?_
        refine AllReadyK.cons rfl (by kernel_rfl) (fun K hK => ?_) AllReadyK.nil
        refine step_appE NE (w2.heap.size + 1) w5 rfl (.tmp 85) (.tmp 88) 23 33 rfl i1 _ Try.underlying33 hi1 hy0 hy1 hy2 rfl (fun _ => False) D acc d rfl oD5 _ [.int .u64 (nn : Int)] nn 1 rfl _ hrd ⟨rfl, hu'⟩ (by simp only [NE]; omega) (by simp only [maxLen]; omega) (by have := kr5.lt; omega) ?_
        intro A6 d6 acc6 w6 H6 o6 g6 t6
        have kf6 := kf5.grown g6 (fun e => by have := (Own.lt oD5 _ e.symm).1; omega)
        have kr6 := kr5.grown g6 (fun e => by have := (Own.lt oD5 _ e.symm).1; omega)
        have b6 := b5.grown g6 b5.size (fun j e => by have := (Own.lt oD5 _ e).1; omega)
        have b06 := b05.grown g6 b05.size (fun j e => by have := (Own.lt oD5 _ e).1; omega)
        refine hK.out _ _ (kf6.cell 2) ?_
        clear hK K t6 hrd kf5 kr5 b5 b05 oD5 g6
        try dsimp only
        try simp only [List.getElem_toArray, List.getElem_cons_succ, List.getElem_cons_zero, Act.put, List.setIfInBounds_toArray, List.set_cons_zero, List.set_cons_succ]
        have f6 : w6.frozen? ⟨fb, 2, none⟩ = false := kf6.frozen 2
        have x6 : w6.cell? ⟨fb, 2, none⟩ = some (.slice D acc.length d) := kf6.cell 2
        refine wpAnyK_takeY (i := 6) (v := ?_) rfl (by kernel_rfl) (by kernel_rfl) (by kernel_rfl) (by kernel_rfl) (fun _ _ _ h => h) (Or.inl ⟨by rfl, ?_⟩) x6 ?_
        case refine_2 => intro w; go_simp; try with_reducible rfl
        try simp only [List.getElem_toArray, List.getElem_cons_succ, List.getElem_cons_zero, Act.put, List.setIfInBounds_toArray, List.set_cons_zero, List.set_cons_succ]
        refine wpAnyK_ready (rs := [7]) (by kernel_rfl) (by simp) ?_
        refine AllReadyK.turn rfl (fun K hK => ?_) AllReadyK.nil
        go_simp
        have kf7 := kf6.set_ 2 (.slice A6 acc6.length d6)
        have kr7 : Blk (w6.setCell ⟨fb, 2, none⟩ (.slice A6 acc6.length d6)) w2.heap.size 94 #[.slice G dl.length gc, .int .i64 (q' : Int), .int .i64 e'] := kr6.far (by show w2.heap.size ≠ fb; omega) _
        have g7 : w6.grownBy (w6.setCell ⟨fb, 2, none⟩ (.slice A6 acc6.length d6)) (some fb) := only_setCell (World.grownBy.refl w6 _) (p := ⟨fb, 2, none⟩) (.inl rfl) _
        have o7 := Own.same o6 g7 (.inr fun e => by have := (Own.lt o6 _ e).1; omega) (fun _ h => h.elim)
        have b7 := b6.grown g7 b6.size (fun j e => by have := Option.some.inj e; omega)
        have b07 := b06.grown g7 b06.size (fun j e => by have := Option.some.inj e; omega)
        refine hK.out _ _ ?_
        clear hK K x6 f6 kf6 kr6 o6 g7 b6 b06
        try dsimp only
        refine wpAny_done (by kernel_rfl) ?_ _
        refine NoPanic.normal ?_
        have hms' := rdLeft_eq (n := dl.length) kr7
        have hal : acc6.length ≤ dl.length := by rw [H6.out, List.length_append]; show acc.length + 1 ≤ dl.length; omega
        have HC : Hid ((e' = 0 ∧ acc6.length ≤ q' ∧ dropR dl = dropQ dl q' acc6) ∨ (e' ≠ 0 ∧ dropR dl = ([], e'))) := by rw [H6.out]; exact HCASE
        clear HCASE H6 hu'
        go_wp2_with fail
        go_roundw
        case rel => exact ⟨q', e', acc6, A6, d6, hq', hal, kf7, kr7, o7, HC.out, b7, b07⟩
        case measure =>
          rw [hms', hms]
          by_cases h0 : e' = 0
          · rw [if_pos h0, if_pos trivial]; have := hgt h0; omega
          · rw [if_neg h0, if_pos trivial]; omega
      have HDA : Hid (dropR dl = (acc, 0)) := by show _ = _; rw [HDR.out]; exact dropQ_end hql acc
      have HD7 : Hid (decM l = if (filesR (ps.drop 2)).2 ≠ 0 then (.zero, (filesR (ps.drop 2)).2) else (⟨xb == 1, (filesR (ps.drop 2)).1, acc, n1⟩, 0)) := by show _ = _; rw [HD6.out, HDA.out]; exact if_neg (fun h => h rfl)
      have d7 : ¬ (q : Int) < (dl.length : Int) := by omega
      have hps2 : ((ps.drop 2).length : Int) = (ps.length : Int) - 2 := by rw [List.length_drop]; omega
      clear HD6 HDR HDA hql
      go_wp2_with fail
      go_quiet (fail)
      clear c0 c1
      have c2 : (wr.drewN nq).cell? ⟨w2.heap.size, 2, none⟩ = some (.int .i64 0) := (kr.drewN nq).cell 2
      have kf8 := kf.drewN nq
      have oD8 := Own.below oD (below_drewN (Below.refl _ _) nq)
      have b8 := below_drewN b3 nq
      have b08 := below_drewN b03 nq
      generalize (wr.drewN nq) = w8 at *
      go_upto_region 16 with fail
      clear c2 kf kr oD b3 b03
      go_cut [102, 103, 104] (fun s n i wx => ∃ (P2 : Option Addr) (p2 : Nat), s = .slice P2 (ps.drop 2).length p2 ∧ n = .int .i64 ((ps.drop 2).length : Int) ∧ i = .int .i64 0 ∧ wx = w8 ∧ SlS BsE w1 (fun b => b < w1.heap.size) P2 (ps.drop 2))
      case first =>
        have hsq := SlS.drop sP (k := 2) (by omega) cP.1
        by_cases hcn : dp = 2
        · rw [if_pos hcn] at hsq
          go_wp2_with fail
          go_meet
          case rel =>
            exact ⟨_, dp - 2, by rw [List.length_drop, hcn], by rw [List.length_drop], rfl, rfl, hsq⟩
        · rw [if_neg hcn] at hsq
          go_wp2_with fail
          go_meet
          case rel =>
            exact ⟨_, dp - 2, by rw [List.length_drop]; rfl, by rw [List.length_drop], rfl, rfl, hsq⟩
      case rest =>
        obtain ⟨P2, p2, rfl, rfl, rfl, hwc, sQ⟩ := hcut
        replace hwc := hwc.symm
        subst hwc
        have hqn : (ps.drop 2).length ≤ 1048576 := by rw [List.length_drop]; omega
        have HQL : Hid (∀ x ∈ ps.drop 2, x.length ≤ 1048576) := fun x hx => HPL.out x (List.mem_of_mem_drop hx)
        clear hps2 HPL sP hpl0 hpl1
        generalize ps.drop 2 = qs at *
        clear h2 d1 d1a d1b d2 d2a d3 d7
        have lf8 := kf8.lt
        have HDL : Hid (∀ b, (Value.slice D acc.length d).ownBlock = some b → b < w8.heap.size) := fun b hb => (Own.lt oD8 b hb).2
        have zw : w.heap.size < w1.heap.size := k1.lt
        have z18 := b8.size
        go_wp2_with fail
        go_loopw [11, 12, 13, 104] (fun _ _ _ i wr => ∃ (k : Nat) (fs : List LFile) (F : Option Addr) (f : Nat), k ≤ qs.length ∧ i = .int .i64 (k : Int) ∧ filesR (qs.take k) = (fs, 0) ∧ fs.length = k ∧ Blk wr fb 42 #[.bool (xb == 1), .slice F fs.length f, .slice D acc.length d, .int .u64 (n1 : Int)] ∧ Own FE 66 wr w8.heap.size (fun b => w8.heap.size ≤ b) (.slice F fs.length f) fs ∧ Own NE 23 wr (w2.heap.size + 1) (fun _ => False) (.slice D acc.length d) acc ∧ w8.heap.size ≤ wr.heap.size ∧ Below w1.heap.size w1 wr ∧ Below w.heap.size w wr) (fun _ _ _ i _ => qs.length - (intOf i).toNat)
        case atStart => exact ⟨0, [], none, 0, Nat.zero_le _, rfl, rfl, rfl, kf8, Own.nil_ _ _ _ _ _, oD8, Nat.le_refl _, b8, b08⟩
        case round =>
          clear kf8 oD8 b8 b08
          obtain ⟨k, fs, F, f, hk, rfl, hfr, hfl, kf, oF, oD, z8, b3, b03⟩ := hrel
          have HFR := Lib.hid hfr
          have HLN := Lib.hid hfl
          have hfk : fs.length ≤ 1048576 := by omega
          clear hfr hfl
          by_cases hlt : k < qs.length
          · have hlt' : (k : Int) < (qs.length : Int) := by omega
            obtain ⟨ad, H, hc5, rfl, hab, x0, hH, _, _⟩ := BsE.at_ (sQ.below b3) hlt
            have hpk := HQL.out qs[k] (List.getElem_mem _)
            have HTK : Hid (filesR (qs.take (k + 1)) = if (fileR qs[k]).2 ≠ 0 then ([], (fileR qs[k]).2) else (fs ++ [(fileR qs[k]).1], 0)) := by
              show _ = _
              rw [List.take_succ_eq_append_getElem hlt, filesR_snoc, HFR.out]
              exact if_neg (fun h => h rfl)
            have HBAD : Hid ((fileR qs[k]).2 ≠ 0 → filesR qs = ([], (fileR qs[k]).2)) := fun h => filesR_first hlt (by rw [HFR.out]) h
            have T := mfile_any H qs[k] hc5 wr hH (by omega)
            have HWF := fileR_wf qs[k]
            have hfl1 := fileR_len qs[k]
            generalize qs[k] = pk at *
            go_wp2_with fail
            refine T.mono ?_
            clear T x0 hH
            generalize fileR pk = r at *
            obtain ⟨fr, fe⟩ := r
            rintro en w5 ⟨A5, c5, B5, c6, rfl, oA5, oB5, hne5, b5⟩
            replace oA5 : OwnB wr.heap.size w5 A5 fr.first c5 := oA5
            replace oB5 : OwnB wr.heap.size w5 B5 fr.last c6 := oB5
            replace hne5 : ∀ b, (Value.slice A5 fr.first.length c5).ownBlock = some b → (Value.slice B5 fr.last.length c6).ownBlock ≠ some b := hne5
            replace HWF : fr.wf := HWF
            replace hfl1 : fr.first.length ≤ pk.length ∧ fr.last.length ≤ pk.length := hfl1
            try dsimp only
            have dz : Below w5.heap.size w5 (w5.alloc (.cells #[.slice A5 fr.first.length c5, .slice B5 fr.last.length c6, .int .i64 fr.count, .int .i64 fr.size, .int .u64 (fr.num : Int), .int .i64 fr.level] 66)) := (Below.refl _ _).alloc (Nat.le_refl _) _
            have kz6 := Blk.new w5 66 #[.slice A5 fr.first.length c5, .slice B5 fr.last.length c6, .int .i64 fr.count, .int .i64 fr.size, .int .u64 (fr.num : Int), .int .i64 fr.level]
            have z5 := b5.size
            have b36 := (b3.trans (b5.mono b3.size)).trans (dz.mono (Nat.le_trans b3.size z5))
            have b06 := (b03.trans (b5.mono b03.size)).trans (dz.mono (Nat.le_trans b03.size z5))
            by_cases hfe : fe ≠ 0
            · -- a bad part
              have HE : Hid (decM l = (.zero, fe)) := by
                show _ = _
                rw [HD7.out, HBAD.out hfe]
                exact if_pos hfe
              have dfe : (fe != 0) = true := by rw [bne_iff_ne]; exact hfe
              have kp6 : Blk (w5.alloc (.cells #[.slice A5 fr.first.length c5, .slice B5 fr.last.length c6, .int .i64 fr.count, .int .i64 fr.size, .int .u64 (fr.num : Int), .int .i64 fr.level] 66)) w.heap.size 42 #[.bool false, .slice none 0 0, .slice none 0 0, .int .u64 0] := k1.below b36 k1.lt
              clear hfe HD7 HBAD HTK HFR kf oF oD
              go_wp2_with ((with_reducible refine wpList_store_blk rfl 42 (.tmp 2) (.tmp 115) rfl w.heap.size 42 _ #[.bool false, .slice none 0 0, .slice none 0 0, .int .u64 0] ?_ ?_ kp6 Try.size_MEdit ?_ ?_ ?_ ?_); rfl; rfl; rfl; rfl; (simp [Value.oneCell']); intro w9 kz9 g9 z9)
              exact bodyPost_ret (results_cell2 rfl rfl rfl kz9 Try.underlying42 rfl Try.size_MEdit) rfl (by exact RetEdit.bad HE (b06.grown g9 b06.size (fun j e => by have := Option.some.inj e; omega)))
            · -- one more file
              obtain rfl : fe = 0 := Classical.byContradiction hfe
              have HT1 : Hid (filesR (qs.take (k + 1)) = (fs ++ [fr], 0)) := by show _ = _; rw [HTK.out]; exact if_neg (fun h => h rfl)
              clear hfe HBAD HTK HFR
              have dz2 : Below (w5.alloc (.cells #[.slice A5 fr.first.length c5, .slice B5 fr.last.length c6, .int .i64 fr.count, .int .i64 fr.size, .int .u64 (fr.num : Int), .int .i64 fr.level] 66)).heap.size (w5.alloc (.cells #[.slice A5 fr.first.length c5, .slice B5 fr.last.length c6, .int .i64 fr.count, .int .i64 fr.size, .int .u64 (fr.num : Int), .int .i64 fr.level] 66)) ((w5.alloc (.cells #[.slice A5 fr.first.length c5, .slice B5 fr.last.length c6, .int .i64 fr.count, .int .i64 fr.size, .int .u64 (fr.num : Int), .int .i64 fr.level] 66)).alloc (.cells #[.slice A5 fr.first.length c5, .slice B5 fr.last.length c6, .int .i64 fr.count, .int .i64 fr.size, .int .u64 (fr.num : Int), .int .i64 fr.level] 66)) := (Below.refl _ _).alloc (Nat.le_refl _) _
              have oA7 := OwnB.below (OwnB.below oA5 dz) dz2
              have oB7 := OwnB.below (OwnB.below oB5 dz) dz2
              have kf6 := (kf.below b5 kf.lt).below dz (Nat.lt_of_lt_of_le kf.lt z5)
              have kf7 := kf6.below dz2 kf6.lt
              have oF7 := Own.below (Own.below (Own.below oF b5) dz) dz2
              have oD7 := Own.below (Own.below (Own.below oD b5) dz) dz2
              have b37 := b36.trans (dz2.mono b36.size)
              have b07 := b06.trans (dz2.mono b06.size)
              have hrd : Reads ((w5.alloc (.cells #[.slice A5 fr.first.length c5, .slice B5 fr.last.length c6, .int .i64 fr.count, .int .i64 fr.size, .int .u64 (fr.num : Int), .int .i64 fr.level] 66)).alloc (.cells #[.slice A5 fr.first.length c5, .slice B5 fr.last.length c6, .int .i64 fr.count, .int .i64 fr.size, .int .u64 (fr.num : Int), .int .i64 fr.level] 66)) (w5.heap.size + 1 + 1) 6 (some ⟨w5.heap.size + 1, 0, none⟩) 1 [.slice A5 fr.first.length c5, .slice B5 fr.last.length c6, .int .i64 fr.count, .int .i64 fr.size, .int .u64 (fr.num : Int), .int .i64 fr.level] := by
                have h := Reads.newN (w5.alloc (.cells #[.slice A5 fr.first.length c5, .slice B5 fr.last.length c6, .int .i64 fr.count, .int .i64 fr.size, .int .u64 (fr.num : Int), .int .i64 fr.level] 66)) [.slice A5 fr.first.length c5, .slice B5 fr.last.length c6, .int .i64 fr.count, .int .i64 fr.size, .int .u64 (fr.num : Int), .int .i64 fr.level] 66
                have hsz : (w5.alloc (.cells #[.slice A5 fr.first.length c5, .slice B5 fr.last.length c6, .int .i64 fr.count, .int .i64 fr.size, .int .u64 (fr.num : Int), .int .i64 fr.level] 66)).heap.size = w5.heap.size + 1 := by simp
                rw [hsz] at h
                exact h
              have hFL : ∀ b, (Value.slice F fs.length f).ownBlock = some b → w8.heap.size ≤ b ∧ b < wr.heap.size := fun b hb => Own.lt oF b hb
              have hrep : FE.rep ((w5.alloc (.cells #[.slice A5 fr.first.length c5, .slice B5 fr.last.length c6, .int .i64 fr.count, .int .i64 fr.size, .int .u64 (fr.num : Int), .int .i64 fr.level] 66)).alloc (.cells #[.slice A5 fr.first.length c5, .slice B5 fr.last.length c6, .int .i64 fr.count, .int .i64 fr.size, .int .u64 (fr.num : Int), .int .i64 fr.level] 66)) (fun b => w8.heap.size ≤ b ∧ (Value.slice F fs.length f).ownBlock ≠ some b) [.slice A5 fr.first.length c5, .slice B5 fr.last.length c6, .int .i64 fr.count, .int .i64 fr.size, .int .u64 (fr.num : Int), .int .i64 fr.level] fr := by
                have hlen := hfl1
                refine ⟨A5, c5, B5, c6, rfl, ⟨oA7.bs (by omega), fun ad e hn => ?_, oA7.caps⟩, ⟨oB7.bs (by omega), fun ad e hn => ?_, oB7.caps⟩, HWF⟩
                · have h1 := oA7.at_ ad e hn; exact ⟨by have := h1.1; omega, fun hb => by have := (hFL _ hb).2; have := h1.1; omega⟩
                · have h1 := oB7.at_ ad e hn; exact ⟨by have := h1.1; omega, fun hb => by have := (hFL _ hb).2; have := h1.1; omega⟩
              have HFL := Lib.hid hFL
              have x6 : (w5.alloc (.cells #[.slice A5 fr.first.length c5, .slice B5 fr.last.length c6, .int .i64 fr.count, .int .i64 fr.size, .int .u64 (fr.num : Int), .int .i64 fr.level] 66)).cell? ⟨fb, 1, none⟩ = some (.slice F fs.length f) := kf6.cell 1
              have z57 : w8.heap.size ≤ w5.heap.size := Nat.le_trans z8 z5
              have z57 := Nat.le_trans z8 z5
              have hW7 : w8.heap.size ≤ ((w5.alloc (.cells #[.slice A5 fr.first.length c5, .slice B5 fr.last.length c6, .int .i64 fr.count, .int .i64 fr.size, .int .u64 (fr.num : Int), .int .i64 fr.level] 66)).alloc (.cells #[.slice A5 fr.first.length c5, .slice B5 fr.last.length c6, .int .i64 fr.count, .int .i64 fr.size, .int .u64 (fr.num : Int), .int .i64 fr.level] 66)).heap.size := by simp; omega
              have hL1 : (fs.length + 1) * FE.bytes ≤ 140737488355328 := by simp only [FE]; omega
              have hL2 : fs.length + 1 ≤ maxLen := by simp only [maxLen]; omega
              have HOD : Hid (∀ w9, ((w5.alloc (.cells #[.slice A5 fr.first.length c5, .slice B5 fr.last.length c6, .int .i64 fr.count, .int .i64 fr.size, .int .u64 (fr.num : Int), .int .i64 fr.level] 66)).alloc (.cells #[.slice A5 fr.first.length c5, .slice B5 fr.last.length c6, .int .i64 fr.count, .int .i64 fr.size, .int .u64 (fr.num : Int), .int .i64 fr.level] 66)).grownBy w9 (Value.slice F fs.length f).ownBlock → Own NE 23 w9 (w2.heap.size + 1) (fun _ => False) (.slice D acc.length d) acc) := fun w9 g9 => by
                refine Own.same oD7 g9 ?_ (fun _ h => h.elim)
                cases hD : (Value.slice D acc.length d).ownBlock with
                | none => exact .inl rfl
                | some b => exact .inr fun e => by have h1 := HDL.out b hD; have h2 := (HFL.out b e.symm).1; omega
              have HKF : Hid (∀ w9, ((w5.alloc (.cells #[.slice A5 fr.first.length c5, .slice B5 fr.last.length c6, .int .i64 fr.count, .int .i64 fr.size, .int .u64 (fr.num : Int), .int .i64 fr.level] 66)).alloc (.cells #[.slice A5 fr.first.length c5, .slice B5 fr.last.length c6, .int .i64 fr.count, .int .i64 fr.size, .int .u64 (fr.num : Int), .int .i64 fr.level] 66)).grownBy w9 (Value.slice F fs.length f).ownBlock → Blk w9 fb 42 #[.bool (xb == 1), .slice F fs.length f, .slice D acc.length d, .int .u64 (n1 : Int)] ∧ Below w.heap.size w w9 ∧ w8.heap.size ≤ w9.heap.size) := fun w9 g9 => ⟨kf7.grown g9 (fun e => by have := (HFL.out _ e.symm).1; omega), b07.grown g9 b07.size (fun j e => by have := (HFL.out _ e).1; have := b03.size; omega), Nat.le_trans hW7 g9.size⟩
              clear kf oF oD hFL oA5 oB5 dz dz2 b3 b03 kf6 b36 b06 b5 HWF hne5 oA7 oB7 oD7 kf7 b07 z8 z57 z5 hfl1
              go_wp2_with (first
                | ((with_reducible refine wpList_load_blk rfl 66 (.tmp 12) rfl w5.heap.size ?_ 66 _ _ kz6 Try.underlying66 ?_ Try.size_File ?_ ?_); rfl; rfl; rfl)
                | (at_builtin; refine wpList_appE FE w8.heap.size w1 _ rfl (.tmp 118) (.tmp 120) 66 28 rfl i2 _ Try.underlying28 hi2 hx0 hx1 hx2 rfl (fun b => w8.heap.size ≤ b) F fs f rfl oF7 _ [.slice A5 fr.first.length c5, .slice B5 fr.last.length c6, .int .i64 fr.count, .int .i64 fr.size, .int .u64 (fr.num : Int), .int .i64 fr.level] fr 1 rfl _ hrd hrep hL1 hL2 b37 z18 hW7 ?_; intro F9 fc9 fs9 w9 H9 o9 b9 g9 t9; obtain ⟨kf9, b09, z9⟩ := HKF.out w9 g9; have oD9 := HOD.out w9 g9; have x9 : w9.cell? ⟨fb, 1, none⟩ = some (.slice F fs.length f) := kf9.cell 1; have f9 : w9.frozen? ⟨fb, 1, none⟩ = false := kf9.frozen 1; skip))
              have kfA := kf9.set_ 1 (.slice F9 fs9.length fc9)
              have gA : w9.grownBy (w9.setCell ⟨fb, 1, none⟩ (.slice F9 fs9.length fc9)) (some fb) := only_setCell (World.grownBy.refl w9 _) (p := ⟨fb, 1, none⟩) (.inl rfl) _
              have oFA := Own.same o9 gA (.inr fun e => by have := (Own.lt o9 _ e).1; omega) (fun b hb e => by have := Option.some.inj e; omega)
              have oDA := Own.same oD9 gA (.inr fun e => by have := (Own.lt oD9 _ e).1; omega) (fun _ h => h.elim)
              have bA := b9.grown gA b9.size (fun j e => by have := Option.some.inj e; omega)
              have b0A := b09.grown gA b09.size (fun j e => by have := Option.some.inj e; omega)
              have HT9 : Hid (filesR (qs.take (k + 1)) = (fs9, 0)) := by show _ = _; rw [H9.out]; exact HT1.out
              have HL9 : Hid (fs9.length = k + 1) := by show _ = _; rw [H9.out, List.length_append, HLN.out]; rfl
              have zA : w8.heap.size ≤ (w9.setCell ⟨fb, 1, none⟩ (.slice F9 fs9.length fc9)).heap.size := Nat.le_trans z9 gA.size
              clear x9 f9
              go_roundw
              case rel => exact ⟨k + 1, fs9, F9, fc9, by omega, by simp, HT9.out, HL9.out, kfA, oFA, oDA, zA, bA, b0A⟩
              case measure => simp [intOf]; omega
          · have hlt' : ¬ (k : Int) < (qs.length : Int) := by omega
            have HE : Hid (decM l = (⟨xb == 1, fs, acc, n1⟩, 0)) := by
              have h1 := HFR.out
              rw [List.take_of_length_le (by omega)] at h1
              show _ = _
              rw [HD7.out, h1]
              exact if_neg (fun h => h rfl)
            have kp := k1.below b3 k1.lt
            clear HD7 HFR HQL HLN sQ
            go_wp2_with (first
              | ((with_reducible refine wpList_load_blk rfl 42 (.tmp 7) rfl fb ?_ 42 _ _ kf Try.underlying42 ?_ Try.size_MEdit ?_ ?_); rfl; rfl; rfl)
              | ((with_reducible refine wpList_store_blk rfl 42 (.tmp 2) (.tmp 124) rfl w.heap.size 42 _ #[.bool (xb == 1), .slice F fs.length f, .slice D acc.length d, .int .u64 (n1 : Int)] ?_ ?_ kp Try.size_MEdit ?_ ?_ ?_ ?_); rfl; rfl; rfl; rfl; (simp [Value.oneCell']); intro w9 kz9 g9 z9))
            have oF9 := Own.same oF g9 (.inr fun e => by have := (Own.lt oF _ e).1; omega) (fun b hb e => by have := Option.some.inj e; omega)
            have oD9 := Own.same oD g9 (.inr fun e => by have := (Own.lt oD _ e).1; have := b2.size; omega) (fun _ h => h.elim)
            have b9 := b03.grown g9 b03.size (fun j e => by have := Option.some.inj e; omega)
            exact bodyPost_ret (results_cell2 rfl rfl rfl kz9 Try.underlying42 rfl Try.size_MEdit) rfl (by rw [HE.out]; exact ⟨F, f, D, d, rfl, Own.base (Own.mono oF9 (fun b _ _ hb => by omega)) (by omega), Own.base oD9 (by have := b2.size; omega), hu1, b9⟩)
end Go.Proofs.Ytmgibpedclngpaa
