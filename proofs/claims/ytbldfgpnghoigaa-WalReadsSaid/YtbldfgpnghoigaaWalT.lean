/- short; Copies as rows for Append; the walk of WalFull. -/
import Derived.Test.YtbldfgpnghoigaaWalK
import Derived.Test.YtbldfgpnghoigaaCopies
import Derived.Test.YtbldfgpnghoigaaOpB
namespace Go.Proofs.Ytbldfgpnghoigaa
open Go.RowKit

def shortW (ls : List (List UInt8)) : List (List UInt8) := (ls.take 12).map (·.take 2000)
/-- rows that read, their bytes in blocks of S -/
def RowsOk (w : World) (S : Nat → Prop) (rs : List R3) : Prop := ∀ r ∈ rs, Bs w r.1 r.2.1 ∧ At S r.1 r.2.1.length ∧ r.2.1.length ≤ r.2.2 ∧ r.2.2 ≤ 9223372036854775807
theorem RowsOk.same {w w' : World} {S : Nat → Prop} {rs : List R3} (h : RowsOk w S rs) (hs : Same S w w') : RowsOk w' S rs := fun r hr => by
  obtain ⟨h1, h2, h3⟩ := h r hr
  exact ⟨h1.sameS h2 hs, h2, h3⟩
theorem RowsOk.below {w w' : World} {S : Nat → Prop} {rs : List R3} (h : RowsOk w S rs) (hb : Below w.heap.size w w') : RowsOk w' S rs := h.same (.of_below hb)
theorem RowsOk.sl {w : World} {S : Nat → Prop} {b : Nat} {A : Option Addr} {c : Nat} {rs : List R3} (h : RowsOk w S rs) (hR : RowsIs b w A c rs) (hl : rs.length ≤ 1048576) : SlS BsE w Any A (rs.map (·.2.1)) := by
  refine ⟨by rw [List.length_map]; simp only [BsE]; omega, rs.map R3.v, ?_, fun _ _ _ => trivial, R3.flat rs fun r hr => ⟨(h r hr).1, fun _ _ _ => trivial, (h r hr).2.2⟩⟩
  rw [List.length_map]
  exact Reads.of_own hR
/-- what short answers -/
def RetShort (S : Nat → Prop) (ls : List (List UInt8)) (w : World) (en : Ending) (w' : World) : Prop :=
  ∃ A c rs, en = .returned (.slice A (List.length (α := R3) rs) c) ∧ RowsIs w.heap.size w' A c rs ∧ rs.map (·.2.1) = ls ∧ RowsOk w' S rs ∧ Below w.heap.size w w'
set_option maxRecDepth 100000 in
set_option maxHeartbeats 4000000 in
theorem short_any (A : Option Addr) (ls : List (List UInt8)) (c : Nat) (S : Nat → Prop) (w : World) (h : SlS BsE w S A ls) :
    Calls Try.prog 11 #[.slice A ls.length c] w (RetShort S (shortW ls) w) := by
  have hll := h.le
  go_enter Try.func11, Try.ntmps11
  go_wp2_with fail
  go_loopw [3, 4, 5] (fun v3 v4 _ wr => ∃ (k : Nat) (A' : Option Addr) (c' : Nat) (rs : List R3), k ≤ ls.length ∧ k ≤ 12 ∧ v3 = .slice A' rs.length c' ∧ v4 = .int .i64 (k : Int) ∧ Hid (rs.map (·.2.1) = (ls.take k).map (·.take 2000)) ∧ Hid (rs.length = k) ∧ RowsIs w.heap.size wr A' c' rs ∧ RowsOk wr (fun x => S x ∧ x < w.heap.size) rs ∧ Below w.heap.size w wr) (fun _ v4 _ _ => 12 - (intOf v4).toNat)
  case atStart => exact ⟨0, none, 0, [], Nat.zero_le _, by decide, rfl, rfl, rfl, rfl, World.ownsRow_nil _ _ _ _, (fun r hr => by cases hr), Below.refl _ _⟩
  case round =>
    obtain ⟨k, A', c', rs, hk, hk12, rfl, rfl, HX, HL, hR, hO, br⟩ := hrel
    have hvw : wrap64 ((k : Int) + 1) = ((k + 1 : Nat) : Int) := by unfold wrap64; omega
    have hvw2 : wrap64 ((k : Int) + 1) = (k : Int) + 1 := hvw
    have HVW := Lib.hid hvw
    by_cases hlt : k < ls.length
    · by_cases h12 : k < 12
      · have h12i : (k : Int) < 12 := by omega
        have hlti : (k : Int) < (ls.length : Int) := by omega
        obtain ⟨ad, D, cD, rfl, _, e0, hD, aD, hc1, hc2⟩ := BsE.at_ (S := fun x => S x ∧ x < w.heap.size) ((SlS.mono (S' := fun x => S x ∧ x < w.heap.size) h (fun b h1 h2 => ⟨h2, h1⟩)).below br) hlt
        have HT : Hid (ls.take (k + 1) = ls.take k ++ [ls[k]]) := List.take_succ_eq_append_getElem hlt
        generalize ls[k] = x at *
        have key : ∀ (X : Option Addr) (t : List UInt8), t = x.take 2000 → Bs wr X t → At (fun x => S x ∧ x < w.heap.size) X t.length → t.length ≤ cD → ∀ A8 c8 rs8 w8, Hid (rs8 = rs ++ [(X, t, cD)]) → RowsIs w.heap.size w8 A8 c8 rs8 → (wr.alloc (.cells #[.slice X t.length cD] 40)).grownBy w8 (Value.slice A' rs.length c').ownBlock → Hid (rs8.map (·.2.1) = (ls.take (k + 1)).map (·.take 2000)) ∧ Hid (rs8.length = k + 1) ∧ RowsOk w8 (fun x => S x ∧ x < w.heap.size) rs8 ∧ Below w.heap.size w w8 := by
          intro X t ht hX aX hcX A8 c8 rs8 w8 H8 hR8 g8
          have d2 : Below wr.heap.size wr (wr.alloc (.cells #[.slice X t.length cD] 40)) := (Below.refl _ _).alloc (Nat.le_refl _) _
          have b2 := below_step' br d2
          have b8 : Below w.heap.size w w8 := b2.grown g8 b2.size (fun j hj => (World.ownsRow.lt hR j hj).1)
          refine ⟨by show _ = _; rw [H8.out, HT.out, List.map_append, List.map_append, HX.out]; show _ ++ [t] = _ ++ [List.take 2000 x]; rw [ht], by show _ = _; rw [H8.out, List.length_append, HL.out]; rfl, ?_, b8⟩
          rw [H8.out]
          have hsame : Same (fun x => S x ∧ x < w.heap.size) wr w8 := ⟨Nat.le_trans d2.size g8.size, fun b h1 h2 => (g8.block b (Nat.lt_of_lt_of_le h2 d2.size) (fun e => by have := (World.ownsRow.lt hR b e.symm).1; omega)).trans (d2.block b h2)⟩
          intro r hr
          rcases List.mem_append.1 hr with hr | hr
          · exact hO.same hsame r hr
          · rw [List.mem_singleton.1 hr]
            exact ⟨hX.sameS aX hsame, aX, hcX, hc2⟩
        have KEY := Lib.hid key
        have hcnt : rs.length + 1 ≤ 1000000 := by have := HL.out; omega
        clear key HT HX
        have hR2 : ∀ o, RowsIs w.heap.size (wr.alloc o) A' c' rs := fun o => own_below hR ((Below.refl _ _).alloc (Nat.le_refl _) _)
        by_cases hbig : 2000 < x.length
        · have hbi : (2000 : Int) < (x.length : Int) := by omega
          have hB2 : Bs wr D (x.take 2000) := hD.takeO 2000
          have hl2 : (x.take 2000).length = 2000 := by rw [List.length_take]; omega
          have hcap : 2000 ≤ cD := by omega
          have T2 := KEY.out D (x.take 2000) rfl hB2 (fun ad' e hn => aD ad' e (by omega)) (by omega)
          rw [hl2] at T2
          have HT2 := Lib.hid T2
          have hrN := Reads.newK wr [.slice D 2000 cD] 40
          have hv : R3.v (D, x.take 2000, cD) = .slice D 2000 cD := by show Value.slice D (x.take 2000).length cD = _; rw [hl2]
          have hrN2 : Reads (wr.alloc (.cells #[.slice D 2000 cD] 40)) (wr.heap.size + 1) 1 (some ⟨wr.heap.size, 0, none⟩) 1 ([(D, x.take 2000, cD)].map R3.v) := by rw [List.map_singleton, hv]; exact hrN
          have hzw : w.heap.size ≤ (wr.alloc (.cells #[.slice D 2000 cD] 40)).heap.size := by have := br.size; simp; omega
          have hcapi : (2000 : Int) ≤ (cD : Int) := by omega
          clear T2 hrN hv hl2 KEY hD aD hB2
          go_wp2_with (at_builtin; refine wpList_appRG w.heap.size _ rfl (.tmp 25) (.tmp 27) rfl A' rs c' rfl (hR2 _) _ [(D, x.take 2000, cD)] 1 rfl _ hrN2 hcnt hzw ?_; intro A8 c8 rs8 w8 H8 o8 g8)
          go_roundw
          case rel =>
            obtain ⟨q1, q2, q3, q4⟩ := HT2.out A8 c8 rs8 w8 H8 o8 g8
            exact ⟨k + 1, A8, c8, rs8, by omega, by omega, rfl, (by first | rfl | exact congrArg (Value.int .i64) HVW.out), q1.out, q2.out, o8, q3, q4⟩
          case measure => first | (simp [intOf]; omega) | (rw [HVW.out]; simp [intOf]; omega)
        · have hbi : ¬ (2000 : Int) < (x.length : Int) := by omega
          have T2 := KEY.out D x (by rw [List.take_of_length_le (by omega)]) hD aD hc1
          have HT2 := Lib.hid T2
          have hrN := Reads.newK wr [.slice D x.length cD] 40
          have hzw : w.heap.size ≤ (wr.alloc (.cells #[.slice D x.length cD] 40)).heap.size := by have := br.size; simp; omega
          clear T2 KEY hD aD
          go_wp2_with (at_builtin; refine wpList_appRG w.heap.size _ rfl (.tmp 25) (.tmp 27) rfl A' rs c' rfl (hR2 _) _ [(D, x, cD)] 1 rfl _ hrN hcnt hzw ?_; intro A8 c8 rs8 w8 H8 o8 g8)
          go_roundw
          case rel =>
            obtain ⟨q1, q2, q3, q4⟩ := HT2.out A8 c8 rs8 w8 H8 o8 g8
            exact ⟨k + 1, A8, c8, rs8, by omega, by omega, rfl, (by first | rfl | exact congrArg (Value.int .i64) HVW.out), q1.out, q2.out, o8, q3, q4⟩
          case measure => first | (simp [intOf]; omega) | (rw [HVW.out]; simp [intOf]; omega)
      · obtain rfl : k = 12 := by omega
        have h12i : ¬ ((12 : Nat) : Int) < 12 := by omega
        have hlti : (12 : Int) < (ls.length : Int) := by omega
        go_wp2_with fail
        go_ret
        exact ⟨A', c', rs, rfl, hR, HX.out, fun r hr => ⟨(hO r hr).1, (hO r hr).2.1.mono' (fun _ h => h.1), (hO r hr).2.2⟩, br⟩
    · obtain rfl : k = ls.length := by omega
      have hlti : ¬ (ls.length : Int) < (ls.length : Int) := by omega
      go_wp2_with fail
      go_ret
      refine ⟨A', c', rs, rfl, hR, ?_, fun r hr => ⟨(hO r hr).1, (hO r hr).2.1.mono' (fun _ h => h.1), (hO r hr).2.2⟩, br⟩
      rw [HX.out, List.take_length]
      unfold shortW
      rw [List.take_of_length_le hk12]
theorem Bss.of_sl {w : World} {S : Nat → Prop} {A : Option Addr} {ls : List (List UInt8)} (h : SlS BsE w S A ls) : Bss w A ls := by
  have hl := h.leb
  obtain ⟨vs, hr, hf⟩ := h.reads
  refine ⟨by simp only [BsE] at hl; omega, vs, hr, fun i hi => ?_⟩
  clear hl hr h
  induction ls generalizing vs i with
  | nil => cases hi
  | cons x r ih =>
    obtain ⟨u, us, rfl, ⟨D, c, rfl, h1, _⟩, hf2⟩ := hf
    cases i with
    | zero => exact ⟨D, c, rfl, h1⟩
    | succ j => exact ih us hf2 j (Nat.lt_of_succ_lt_succ hi)
theorem OwnBss.flat {w : World} {B : Nat} : ∀ (ls : List (List UInt8)) (vs : List Value), OwnBss w B ls vs → BsE.flat w (fun b => B ≤ b) vs ls
  | [], vs, h => by
    have : vs = [] := List.length_eq_zero_iff.1 h.1
    subst this
    rfl
  | x :: r, [], h => by have := h.1; simp at this
  | x :: r, v :: vs, h => by
    obtain ⟨Ai, ci, e, ho, hl⟩ := h.2 0 (by simp)
    have e : v = .slice Ai x.length ci := Option.some.inj e
    refine ⟨[v], vs, rfl, ⟨Ai, ci, by rw [e], Bs.of_own ho hl, (own_at ho).mono' (fun b h => h.1), own_caps ho⟩, OwnBss.flat r vs ⟨by have := h.1; simpa using this, fun i hi => ?_⟩⟩
    exact h.2 (i + 1) (by simp; omega)
/-- Copies, as a row of bytes -/
theorem copies_sl (A : Option Addr) (ls : List (List UInt8)) (c : Nat) (S : Nat → Prop) (w : World) (h : SlS BsE w S A ls) :
    Calls Try.prog 13 #[.slice A ls.length c] w (fun en w' => ∃ A' c', en = .returned (.slice A' ls.length c') ∧ Sl BsE w' A' ls ∧ Below w.heap.size w w') :=
  (copies_any A ls c w (Bss.of_sl h)).mono fun _ _ ⟨A', c', vs, h1, h2, h3, h4⟩ => ⟨A', c', h1, SlS.of_own (E := BsE) h2 (OwnBss.flat ls vs h3) h.leb, h4⟩

theorem appSegs_len (l : LLog) (segs : List Seg) (recs : List (List UInt8)) : (appSegs l segs recs).length ≤ segs.length + 1 := by
  unfold appSegs
  split
  · simp
  · rcases List.eq_nil_or_concat segs with e | ⟨ini, t, e⟩
    · subst e; simp
    · rw [List.concat_eq_append] at e
      subst e
      simp
theorem full_step {pre : List UInt8} {segs : List Seg} {l : LLog} {d : LDisk} {ps : List PFile} (h : Good pre segs l d ps) (recs : List (List UInt8)) (h1 : recs.length ≤ 12) (h2 : ∀ r ∈ recs, r.length ≤ 2000) (hn : l.next ≤ 1000000) (hu : (usedP ps : Int) ≤ d.room) (hs : 0 ≤ l.size) :
    ∃ i e l' segs' ps', appendW l (segs.map (·.1)) d ps recs = (i, e, l', segs'.map (·.1), d, ps') ∧ Good pre segs' l' d ps' ∧ (usedP ps' : Int) ≤ d.room ∧ segs'.length ≤ segs.length + 1 ∧ 0 ≤ l'.size ∧ l'.size ≤ l.size + 30000 ∧ l'.disk = l.disk ∧
      ((e = 0 ∧ i = l.next ∧ recsOf segs' = recsOf segs ++ recs ∧ l'.next = l.next + recs.length) ∨ (e = 8 ∧ i = 0 ∧ recsOf segs' = recsOf segs ∧ l'.next = l.next)) := by
  have hd : (dataW recs).length ≤ 30000 := by
    rw [data_len]
    have := len_flat_le h2
    have := Nat.mul_le_mul_right 2000 h1
    omega
  by_cases hne : recs = []
  · subst hne
    exact ⟨l.next, 0, l, segs, ps, by unfold appendW; rfl, h, hu, by omega, hs, by omega, rfl, .inl ⟨rfl, rfl, by simp, rfl⟩⟩
  · obtain ⟨a1, a2⟩ := app_good h recs (fun r hr => by have := h2 r hr; omega) hne (by omega)
    by_cases hf : (usedP ps : Int) + ((dataW recs).length : Int) ≤ d.room
    · obtain ⟨ps1, e1, e2, e3, e4⟩ := a2 hf
      refine ⟨l.next, 0, appLog l segs recs, appSegs l segs recs, ps1, e1, e2, by rw [e3]; omega, appSegs_len _ _ _, ?_, ?_, rfl, .inl ⟨rfl, rfl, e4, rfl⟩⟩
      · unfold appLog
        dsimp only
        split <;> omega
      · unfold appLog
        dsimp only
        split <;> omega
    · obtain ⟨ps1, e1, e2, e3⟩ := a1 (by omega)
      exact ⟨0, 8, l, segs, ps1, e1, e2, by rw [e3]; exact hu, by omega, hs, by omega, rfl, .inr ⟨rfl, rfl, rfl, rfl⟩⟩
theorem short_len (ls : List (List UInt8)) : (shortW ls).length ≤ 12 ∧ ∀ r ∈ shortW ls, r.length ≤ 2000 := by
  unfold shortW
  refine ⟨by rw [List.length_map, List.length_take]; omega, fun r hr => ?_⟩
  obtain ⟨x, _, rfl⟩ := List.mem_map.1 hr
  rw [List.length_take]
  omega
/-- rows behind rows; where they lie then -/
theorem wpList_appRH (b : Nat) (w : World) {ops : Array Oper} {rest : List Oper} {o : Oper} {a : Act} {Q : Exit → Act → World → Prop} (hgd : o.guard = none) (s x : Operand)
    (ho : o.op = .call { callee := .builtin .append, args := #[s, x], argTypes := #[27, 27] })
    (A : Option Addr) (rs : List R3) (c : Nat) (hs : a.eval s = .slice A rs.length c) (hown : RowsIs b w A c rs)
    (B : Option Addr) (ys : List R3) (d : Nat) (hx : a.eval x = .slice B ys.length d) (Bd : Nat) (hr : Reads w Bd 1 B ys.length (ys.map R3.v)) (hl : rs.length + ys.length ≤ 1000000) (hbw : b ≤ w.heap.size)
    (h : ∀ A' c' rs' w', Hid (rs' = rs ++ ys) → RowsIs b w' A' c' rs' → w.grownBy w' (Value.slice A rs.length c).ownBlock → ((Value.slice A' rs'.length c').ownBlock = (Value.slice A rs.length c).ownBlock ∨ (Value.slice A' rs'.length c').ownBlock = some w.heap.size) → wpList Try.prog ops Q rest (a.put o.dst (.slice A' rs'.length c')) w') : wpList Try.prog ops Q (o :: rest) a w := by
  obtain ⟨i0, hi0, hz0, hz1, hz2⟩ := info_parts Try.infoBs
  refine wpList_append_sh w hgd s x _ ho b 40 i0 _ 1 24 Try.underlying27 hi0 hz0 hz1 hz2 rfl (by omega) _ _ _ hs hown Bd B ys.length d (ys.map R3.v) hx hr (fun u hu => by obtain ⟨r, _, rfl⟩ := List.mem_map.1 hu; rfl) (by simp only [maxLen]; omega) (by omega) hbw ?_
  intro A' c' w' o' g' t'
  have e : rs.length + ys.length = (rs ++ ys).length := by rw [List.length_append]
  rw [e, ← List.map_append] at o'
  rw [e] at t' ⊢
  exact h A' c' (rs ++ ys) w' rfl o' g' t'
theorem LD.notin {w : World} {g : Nat} {F : Nat → Prop} {l : LLog} {sg : List Nat} {d : LDisk} {ps : List PFile} (h : LD w g F l sg d ps) : ¬ F g := fun hF => by
  obtain ⟨A, c, _, _, _, h4, _⟩ := h
  exact (h4 g hF).1 rfl
theorem blp_of_grown {w w' : World} {row : Option Nat} (g : w.grownBy w' row) : BlP (fun x => row ≠ some x) w w' := ⟨g.os, g.tape, g.output, g.size, fun x hx hf => g.block x hx fun e => hf e.symm⟩
/-- the list of all records goes on -/
theorem full_all {w w7 w8 : World} {g b6 b7 : Nat} {A2 A8 : Option Addr} {c2 c8 : Nat} {rs rs3 rs8 : List R3} {l : LLog} {sg : List Nat} {d : LDisk} {ps : List PFile} (hwb : w.heap.size ≤ b6) (hb : Below w.heap.size w w7)
    (hR : RowsIs w.heap.size w7 A2 c2 rs) (hRl : ∀ x, (Value.slice A2 rs.length c2).ownBlock = some x → x < b6) (hO : RowsOk w7 (· < w.heap.size) rs) (hO3 : RowsOk w7 (· < w.heap.size) rs3)
    (L : LD w7 g (fun x => (x < w.heap.size ∨ (Value.slice A2 rs.length c2).ownBlock = some x ∨ b7 ≤ x) ∧ x < b6) l sg d ps) (H8 : rs8 = rs ++ rs3) (g8 : w7.grownBy w8 (Value.slice A2 rs.length c2).ownBlock)
    (t8 : (Value.slice A8 rs8.length c8).ownBlock = (Value.slice A2 rs.length c2).ownBlock ∨ (Value.slice A8 rs8.length c8).ownBlock = some w7.heap.size) :
    RowsOk w8 (· < w.heap.size) rs8 ∧ LD w8 g (fun x => x < w.heap.size ∨ (Value.slice A8 rs8.length c8).ownBlock = some x) l sg d ps ∧ Below w.heap.size w w8 := by
  have hlo : ∀ x, (Value.slice A2 rs.length c2).ownBlock = some x → w.heap.size ≤ x := fun x e => (World.ownsRow.lt hR x e).1
  refine ⟨?_, (L.blp (blp_of_grown g8) (fun x _ hn => ?_)).mono fun x hx => ?_, hb.grown g8 hb.size hlo⟩
  · have hsame : Same (· < w.heap.size) w7 w8 := ⟨g8.size, fun b h1 h2 => g8.block b h2 (fun e => by have := hlo b e.symm; omega)⟩
    rw [H8]
    intro r hr
    rcases List.mem_append.1 hr with hr | hr
    · exact hO.same hsame r hr
    · exact hO3.same hsame r hr
  · have e : (Value.slice A2 rs.length c2).ownBlock = some x := Classical.byContradiction hn
    exact ⟨.inr (.inl e), hRl x e⟩
  · rcases hx with hx | hx
    · exact .inl ⟨.inl hx, by omega⟩
    · rcases t8 with t | t
      · have e := t.symm.trans hx
        exact .inl ⟨.inr (.inl e), hRl x e⟩
      · have e := Option.some.inj (t.symm.trans hx)
        exact .inr (by omega)
set_option maxRecDepth 100000 in
set_option maxHeartbeats 8000000 in
theorem walfull_any (room most : Int) (A : Option Addr) (xss : List (List (List UInt8))) (c : Nat) (w : World) (hA : Sl BssE w A xss) (hc : xss.length ≤ c ∧ c ≤ 9223372036854775807) :
    Calls Try.prog 3 #[.int .i64 room, .int .i64 most, .slice A xss.length c] w fun e w' => e = .returned (.bool true) ∧ Below w.heap.size w w' := by
  obtain ⟨i0, hi0, hz0, hz1, hz2⟩ := info_parts Try.infoBs
  go_enter Try.func3, Try.ntmps3
  go_wp2_with fail
  refine (awake_any _).mono ?_
  rintro e w1 ⟨rfl, b1⟩
  by_cases hm : most < 1
  · go_wp2_with fail
    go_ret
    exact ⟨rfl, b1⟩
  by_cases hr : 1048576 < room
  · go_wp2_with fail
    go_ret
    exact ⟨rfl, b1⟩
  have z1 := b1.size
  go_wp2_with fail
  refine (newD_any room _).mono ?_
  rintro en w2 ⟨rfl, hd2, b2⟩
  have b02 := below_step' b1 b2
  have l2 := hd2.lt
  obtain ⟨dF, hdF⟩ : ∃ dF : LDisk, dF = ⟨max 0 room, false, 0, false⟩ := ⟨_, rfl⟩
  rw [← hdF] at hd2
  have hal : dF.dead = false := by rw [hdF]
  have hun : dF.armed = false := by rw [hdF]
  have hro : 0 ≤ dF.room ∧ dF.room ≤ 1048576 := by rw [hdF]; show 0 ≤ max 0 room ∧ max 0 room ≤ 1048576; omega
  clear hdF
  have HRO := Lib.hid hro
  have HAL := Lib.hid hal
  have HUN := Lib.hid hun
  have HM : Hid (¬ most < 1) := by show ¬ _; omega
  have T := open_good (segs := []) (pre := [119, 46]) w1.heap.size (hd2.mono (F' := (· < w.heap.size)) (fun g h => by omega)) (wl_nil _) trivial hal hun ⟨hro.1, by omega⟩ (by decide) (by decide) (by decide) (by decide) (by decide) most HM.out
  clear hd2 hal hun hro
  go_wp2_with fail
  refine T.mono ?_
  clear T
  rintro en w3 ⟨g, A3, c3, rs, h1, hg1, hR, hS, hmm, hL, hb3⟩
  have hrs : rs = [] := List.map_eq_nil_iff.1 hmm
  subst hrs
  obtain rfl : en = .returned (.tuple #[.pointer (some ⟨g, 0, none⟩), .slice A3 0 c3, .int .i64 0]) := h1
  replace hL : LD w3 g (fun x => (x < w.heap.size ∧ x < w2.heap.size) ∨ RowsB A3 c3 [] x) (log0 w1.heap.size [119, 46] most) [] dF [] := hL
  have L3 : LD w3 g (· < w.heap.size) (log0 w1.heap.size [119, 46] most) [] dF [] := hL.mono fun x hx => .inl ⟨by omega, by omega⟩
  have b03 : Below w.heap.size w w3 := hb3.low b02 (by omega) (fun x h => by omega)
  have z3 := hb3.size
  clear hL hR hS hmm hb3 b1 b2 b02
  have hgl := L3.lt
  generalize hdb : w1.heap.size = db at *
  have hA30 : SlS BssE w (· < w.heap.size) A (xss.take 30) := by
    by_cases hx : 30 ≤ xss.length
    · exact hA.old.take 30 hx
    · rw [List.take_of_length_le (by omega)]; exact hA.old
  have hlen30 : (xss.take 30).length ≤ 30 := by rw [List.length_take]; omega
  have hc30 : (30 : Int) < (xss.length : Int) → (30 : Int) ≤ (c : Int) := fun h => by omega
  have hl30 : (30 : Int) < (xss.length : Int) → (xss.take 30).length = 30 := fun h => by rw [List.length_take]; omega
  have hl31 : ¬ (30 : Int) < (xss.length : Int) → (xss.take 30).length = xss.length := fun h => by rw [List.length_take]; omega
  have HL30 := Lib.hid hl30
  have HL31 : Hid (xss.length ≤ 30 → (xss.take 30).length = xss.length) := fun h => hl31 (by omega)
  have HC30 := Lib.hid hc30
  clear hl30 hl31 hc30 hA hc
  generalize xss.take 30 = yss at *
  go_upto_if 43 with fail
  go_cut [2] from 44 to 45 (fun v2 wx => v2 = .slice A yss.length c ∧ wx = w3)
  case first =>
    by_cases hxn : 30 < xss.length
    · have hx : (30 : Int) < (xss.length : Int) := by omega
      have h30 := HC30.out hx
      have h30n : 30 ≤ c := by omega
      have e30 := HL30.out hx
      go_wp2_with fail
      go_meet
      case rel => exact ⟨by rw [e30], rfl⟩
    · have hx : ¬ (30 : Int) < (xss.length : Int) := by omega
      have e30 := HL31.out (by omega)
      go_wp2_with fail
      go_meet
      case rel => exact ⟨by rw [e30], rfl⟩
  case rest =>
    obtain ⟨rfl, rfl⟩ := hcut
    clear HL30 HL31 HC30
    have hzc : w.heap.size ≤ wc.heap.size := b03.size
    go_wp2_with fail
    go_loopw [11, 13, 14, 15, 48] (fun v11 _ _ _ v48 wr => ∃ (k : Nat) (A2 : Option Addr) (c2 : Nat) (rs : List R3) (segs : List Seg) (l : LLog) (ps : List PFile), k ≤ yss.length ∧ v11 = .slice A2 rs.length c2 ∧ v48 = .int .i64 (k : Int) ∧ RowsIs w.heap.size wr A2 c2 rs ∧ RowsOk wr (· < w.heap.size) rs ∧ Hid (recsOf segs = rs.map (·.2.1)) ∧ Hid (Good [119, 46] segs l dF ps) ∧ Hid (l.next = rs.length) ∧ Hid (rs.length ≤ 12 * k ∧ segs.length ≤ k ∧ (usedP ps : Int) ≤ dF.room ∧ 0 ≤ l.size ∧ l.size ≤ 30000 * (k : Int) ∧ l.disk = db) ∧ LD wr g (fun x => x < w.heap.size ∨ (Value.slice A2 rs.length c2).ownBlock = some x) l (segs.map (·.1)) dF ps ∧ Below w.heap.size w wr) (fun _ _ _ _ v48 _ => yss.length - (intOf v48).toNat)
    case atStart => exact ⟨0, none, 0, [], [], log0 db [119, 46] most, [], Nat.zero_le _, rfl, rfl, World.ownsRow_nil _ _ _ _, (fun r hr => by cases hr), rfl, good_nil _ _ _ _ HAL.out HUN.out, rfl, ⟨Nat.zero_le _, Nat.zero_le _, HRO.out.1, Int.le_refl _, Int.le_refl _, rfl⟩, L3.mono (fun x hx => hx.elim id (fun e => by cases e)), b03⟩
    case round =>
      clear L3 b03
      obtain ⟨k, A2, c2, rs, segs, l, ps, hk, rfl, rfl, hR, hO, HREC, HG, HNX, HB, L, br⟩ := hrel
      have hzr := br.size
      have hgr := L.lt
      by_cases hlt : k < yss.length
      · have hk1 : k + 1 ≤ yss.length := hlt
        have hvw : wrap64 ((k : Int) + 1) = ((k + 1 : Nat) : Int) := by unfold wrap64; omega
        have HVW := Lib.hid hvw
        clear hvw
        have HMS : Hid (yss.length - (intOf (Value.int .i64 ((k + 1 : Nat) : Int))).toNat < yss.length - (intOf (Value.int .i64 (k : Int))).toNat) := by
          show _ < _
          simp only [intOf, Int.toNat_natCast]
          omega
        obtain ⟨ad, D, cD, rfl, e0, hD, hc1, hc2⟩ := BssE.at_ (hA30.below br) hlt
        generalize yss[k] = ls at *
        have T := short_any D ls cD (· < w.heap.size) wr hD
        go_wp2_with fail
        refine T.mono ?_
        clear T
        rintro en w5 ⟨A3', c3', rs3, rfl, hR3, hm3, hO3, b3⟩
        have hrow : ∀ x, (Value.slice A2 rs.length c2).ownBlock = some x → w.heap.size ≤ x ∧ x < wr.heap.size := fun x e => World.ownsRow.lt hR x e
        have hR5 : RowsIs w.heap.size w5 A2 c2 rs := own_below hR b3
        have hO5 := hO.below b3
        have L5 := L.below b3
        have b05 := below_step' br b3
        have z5 := b3.size
        have hlen3 : (rs3.map (·.2.1)).length = rs3.length := List.length_map ..
        have hsl := short_len ls
        rw [← hm3] at hsl
        have h12 : rs3.length ≤ 12 := by rw [← hlen3]; exact hsl.1
        have SX3 := hO3.sl hR3 (by omega)
        have TC := copies_sl A3' _ c3' _ w5 SX3
        rw [hlen3] at TC
        have HSL := Lib.hid hsl
        have HSL3 : Hid ((rs3.map (·.2.1)).length ≤ 1000 ∧ ∀ r ∈ rs3.map (·.2.1), r.length ≤ 1048577) := ⟨Nat.le_trans hsl.1 (by decide), fun r hr => Nat.le_trans (hsl.2 r hr) (by decide)⟩
        have HL3 := Lib.hid hlen3
        clear hR hO L br b3 hD hm3 hsl hlen3 SX3 e0
        go_wp2_with fail
        refine TC.mono ?_
        clear TC
        rintro en w6 ⟨A4, c4, rfl, SX4, b6⟩
        have L6 := (L5.below b6).mono (F' := fun x => x < w.heap.size ∨ (Value.slice A2 rs.length c2).ownBlock = some x ∨ wr.heap.size ≤ x) (fun x hx => by
          rcases hx with hx | hx | hx
          · exact .inl (.inl (.inl hx))
          · exact .inl (.inl (.inr hx))
          · exact .inl (.inr hx))
        obtain ⟨i, e, l', segs', ps', e1, G', u', n', s1', s2', dsk', hcase⟩ := full_step HG.out (rs3.map (·.2.1)) HSL.out.1 HSL.out.2 (by rw [HNX.out]; have := HB.out.1; omega) HB.out.2.2.1 HB.out.2.2.2.1
        have TA := append_at g L6 HG.out L6.notin ⟨HRO.out.1, by have := HRO.out.2; omega⟩ (by decide) (by have := HB.out.2.1; omega) (by have := HB.out.2.2.1; have := HRO.out.2; omega) A4 _ c4 _ SX4 HSL3.out.1 HSL3.out.2 (by rw [HNX.out]; have := HB.out.1; omega) ⟨HB.out.2.2.2.1, by have := HB.out.2.2.2.2.1; omega⟩
        rw [HL3.out, e1] at TA
        have hR6 : RowsIs w.heap.size w6 A2 c2 rs := own_below hR5 b6
        have hO6 := hO5.below b6
        have hR36 : RowsIs wr.heap.size w6 A3' c3' rs3 := own_below hR3 b6
        have hO36 := hO3.below b6
        have b06 := below_step' b05 b6
        have z6 := b6.size
        have HB' : Hid (∀ n, n ≤ rs.length + 12 → n ≤ 12 * (k + 1) ∧ segs'.length ≤ k + 1 ∧ (usedP ps' : Int) ≤ dF.room ∧ 0 ≤ l'.size ∧ l'.size ≤ 30000 * ((k + 1 : Nat) : Int) ∧ l'.disk = db) := fun n hn => by
          obtain ⟨q1, q2, q3, q4, q5, q6⟩ := HB.out
          exact ⟨by omega, by omega, u', s1', by omega, by rw [dsk', q6]⟩
        have HG' := Lib.hid G'
        have HCASE := Lib.hid hcase
        clear L5 hR5 hO5 hR3 hO3 SX4 b6 b05 L6 e1 G' u' n' s1' s2' dsk' hcase
        go_wp2_with fail
        refine TA.mono ?_
        clear TA
        rintro en w7 ⟨h1, L7, B7⟩
        obtain rfl : en = .returned (.tuple #[.int .u64 (i : Int), .int .i64 e]) := h1
        replace L7 : LD w7 g (fun x => (x < w.heap.size ∨ (Value.slice A2 rs.length c2).ownBlock = some x ∨ wr.heap.size ≤ x) ∧ x < w6.heap.size) l' (segs'.map (·.1)) dF ps' := L7
        have hR7 : RowsIs w.heap.size w7 A2 c2 rs := own_same hR6 fun x e => B7.block x (World.ownsRow.lt hR6 x e).2 (.inr (.inl e))
        have hR37 : RowsIs wr.heap.size w7 A3' c3' rs3 := own_same hR36 fun x e => B7.block x (World.ownsRow.lt hR36 x e).2 (.inr (.inr (World.ownsRow.lt hR36 x e).1))
        have hO7 := hO6.same (w' := w7) ⟨B7.size, fun b h1 h2 => B7.block b h2 (.inl h1)⟩
        have hO37 := hO36.same (w' := w7) ⟨B7.size, fun b h1 h2 => B7.block b h2 (.inl h1)⟩
        have b07 : Below w.heap.size w w7 := B7.low b06 (by omega) (fun x h => .inl h)
        have z7 := B7.size
        clear hR6 hR36 hO6 hO36 b06 B7
        rcases HCASE.out with ⟨rfl, hi, hrec, hnx⟩ | ⟨rfl, rfl, hrec, hnx⟩
        · obtain rfl : i = rs.length := hi.trans HNX.out
          have hrd := Reads.of_own hR37
          have hcnt : rs.length + rs3.length ≤ 1000000 := by have := HB.out.1; omega
          have hbw : w.heap.size ≤ w7.heap.size := by omega
          have v1 : IntKind.u64.wrap (rs.length : Int) = (rs.length : Int) := by simp [IntKind.wrap, IntKind.bits, IntKind.signed]; omega
          have v2 : ((rs.length : Int) != (rs.length : Int)) = false := by rw [bne_eq_false_iff_eq]
          have KEY := Lib.hid (fun (A8 : Option Addr) (c8 : Nat) (rs8 : List R3) (w8 : World) (H8 : Hid (rs8 = rs ++ rs3)) (g8 : w7.grownBy w8 (Value.slice A2 rs.length c2).ownBlock) (t8 : (Value.slice A8 rs8.length c8).ownBlock = (Value.slice A2 rs.length c2).ownBlock ∨ (Value.slice A8 rs8.length c8).ownBlock = some w7.heap.size) => full_all (by omega) b07 hR7 (fun x e => by have := (hrow x e).2; omega) hO7 hO37 L7 H8.out g8 t8)
          have HREC2 : Hid (recsOf segs' = (rs ++ rs3).map (·.2.1)) := by show _ = _; rw [hrec, HREC.out, List.map_append]
          have HNX2 : Hid (l'.next = (rs ++ rs3).length) := by show _ = _; rw [hnx, HNX.out, HL3.out, List.length_append]
          have HB2 := Lib.hid (HB'.out (rs ++ rs3).length (by rw [List.length_append]; omega))
          clear hi hrec hnx hO7 hO37 L7 hR37
          go_wp2_with (at_builtin; refine wpList_appRH w.heap.size _ rfl (.tmp 68) (.tmp 69) rfl A2 rs c2 rfl hR7 A3' rs3 c3' rfl _ hrd hcnt hbw ?_; intro A8 c8 rs8 w8 H8 o8 g8 t8)
          obtain ⟨q1, q2, q3⟩ := KEY.out A8 c8 rs8 w8 H8 g8 t8
          have hvw := HVW.out
          go_roundw
          case rel => exact ⟨k + 1, A8, c8, rs8, segs', l', ps', hk1, rfl, (by first | exact congrArg (Value.int .i64) hvw | rfl), o8, q1, by show _ = _; rw [H8.out]; exact HREC2.out, HG'.out, by show _ = _; rw [H8.out]; exact HNX2.out, by rw [H8.out]; exact HB2, q2, q3⟩
          case measure => first | (rw [hvw]; exact HMS.out) | exact HMS.out
        · have HREC2 : Hid (recsOf segs' = rs.map (·.2.1)) := by show _ = _; rw [hrec, HREC.out]
          have HNX2 : Hid (l'.next = rs.length) := by show _ = _; rw [hnx, HNX.out]
          have HB2 := Lib.hid (HB'.out rs.length (by omega))
          have L8 := L7.mono (F' := fun x => x < w.heap.size ∨ (Value.slice A2 rs.length c2).ownBlock = some x) (fun x hx => by
            rcases hx with hx | hx
            · exact ⟨.inl hx, by omega⟩
            · exact ⟨.inr (.inl hx), by have := (hrow x hx).2; omega⟩)
          clear hrec hnx hO37 L7 hR37
          go_wp2_with fail
          have hvw := HVW.out
          go_roundw
          case rel => exact ⟨k + 1, A2, c2, rs, segs', l', ps', hk1, rfl, (by first | exact congrArg (Value.int .i64) hvw | rfl), hR7, hO7, HREC2.out, HG'.out, HNX2.out, HB2.out, L8, b07⟩
          case measure => first | (rw [hvw]; exact HMS.out) | exact HMS.out
      · obtain rfl : k = yss.length := by omega
        have hle : rs.length ≤ 360 := by have := HB.out.1; omega
        have hse : segs.length ≤ 30 := by have := HB.out.2.1; omega
        obtain ⟨Aw, cw, hkG, hsG, hdG, hFG, _⟩ := id L
        rw [HB.out.2.2.2.2.2] at hdG
        have T := open_good db hdG HG.out.wl HG.out.chain HAL.out HUN.out ⟨HRO.out.1, by have := HRO.out.2; omega⟩ (by decide) (by decide) (by omega) (by have := HB.out.2.2.1; have := HRO.out.2; omega) (by rw [HREC.out, List.length_map]; omega) most (by have h : 1 ≤ most := HM.out; omega)
        have hRl : ∀ x, (Value.slice A2 rs.length c2).ownBlock = some x → x < wr.heap.size := fun x e => (World.ownsRow.lt hR x e).2
        clear hdG hsG hFG L hlt
        go_wp2_with fail
        refine T.mono ?_
        clear T
        rintro en w5 ⟨g5, A5, c5, rs5, h1, hg5, hR5, hS5, hm5, L5, B5⟩
        replace hm5 : rs5.map (·.2.1) = recsOf segs := hm5
        have hlens : ∀ r ∈ rs5, r.2.1.length ≤ 140737488355328 := fun r hr => by
          have h2 : r.2.1 ∈ recsOf segs := by rw [← hm5]; exact List.mem_map_of_mem (f := fun r : R3 => r.2.1) hr
          unfold recsOf at h2
          obtain ⟨s, hs, hr2⟩ := List.mem_flatMap.1 h2
          exact Nat.le_trans (HG.out.wl.rl s hs _ hr2) (by decide)
        have hlen5 : rs5.length = rs.length := by
          have := congrArg List.length (hm5.trans HREC.out)
          rwa [List.length_map, List.length_map] at this
        have h1' : en = .returned (.tuple #[.pointer (some ⟨g5, 0, none⟩), .slice A5 rs.length c5, .int .i64 0]) := by rw [h1, hlen5]
        subst h1'
        have hk5 := B5.blk hkG (.inr (.inl rfl))
        have hR2 : RowsIs w.heap.size w5 A2 c2 rs := own_same hR (fun x e => B5.block x (hRl x e) (.inl (.inr e)))
        have hO2 : RowsOk w5 (· < w.heap.size) rs := hO.same ⟨B5.size, fun b h1 h2 => B5.block b h2 (.inl (.inl h1))⟩
        have b05 : Below w.heap.size w w5 := B5.low br br.size (fun x h => .inl (.inl h))
        have S5 := rows_sl hR5 hS5 hlens (by omega)
        rw [hm5, HREC.out] at S5
        have S2 := hO2.sl hR2 (by omega)
        have TE := equals_same A5 A2 _ c5 c2 _ _ w5 S5 S2
        rw [List.length_map] at TE
        have TN := fun n => nextW_any g _ l (w5.drewN n) (hk5.drewN n)
        rw [HNX.out] at TN
        have HTN := Lib.hid TN
        have v1 : IntKind.u64.wrap (rs.length : Int) = (rs.length : Int) := by simp [IntKind.wrap, IntKind.bits, IntKind.signed]; omega
        clear TN h1 hm5 hlens hlen5 hR5 hS5 L5 B5 hk5 hR2 hO2 S5 S2 hR hO br hkG hRl
        go_wp2_with fail
        refine TE.mono ?_
        clear TE
        rintro en wz ⟨rfl, n1, rfl⟩
        go_wp2_with fail
        refine (HTN.out n1).mono ?_
        rintro en w8 ⟨rfl, hw8⟩
        obtain rfl : w5.drewN n1 = w8 := hw8.symm
        go_wp2_with fail
        go_ret
        exact ⟨rfl, below_drewN b05 n1⟩
end Go.Proofs.Ytbldfgpnghoigaa
