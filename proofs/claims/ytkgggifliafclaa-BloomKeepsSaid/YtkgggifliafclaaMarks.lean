/- Rows that are marked by their owners: the words for Apart. -/
import Derived.Test.YtkgggifliafclaaCopy
import Derived.Laws.CopyOwn
namespace Go.Proofs.Ytkgggifliafclaa
open Go.RowKit

/-- what row i holds at place j -/
def mk (i j : Nat) : UInt8 := UInt8.ofNat (17 * i + 3 * j + 1)

/-- Block b has cap cells of bytes, of which the first m hold row i's marks. -/
def MB (w : World) (b cap i m : Nat) : Prop :=
  ∃ cur, w.heap[b]? = some (.cells cur 5 (0, 0)) ∧ cur.size = cap ∧ cap ≤ maxLen ∧ m ≤ cap ∧ ∀ j, j < m → cur[j]? = some (bval (mk i j))

/-- The slice v of n bytes is row i's: it begins at the head of a block from B on, which is row i's own, and whose first m cells hold row i's marks. Or it is nil. -/
def MV (w : World) (ow : Nat → Nat) (B i : Nat) (v : Value) (n m : Nat) : Prop :=
  ∃ A c, v = .slice A n c ∧ n ≤ c ∧ ((A = none ∧ c = 0 ∧ m = 0) ∨ ∃ b, A = some ⟨b, 0, none⟩ ∧ B ≤ b ∧ ow b = i ∧ MB w b c i m)

/-- Each block keeps its owner's marks. -/
def Kp (ow : Nat → Nat) (w w' : World) : Prop := ∀ b cap i m, ow b = i → MB w b cap i m → MB w' b cap i m
/-- No block of other elements than bytes has turned. -/
def Ko (w w' : World) : Prop := ∀ (b : Nat) (t : TypeId) (cs : Array Value), t ≠ 5 → w.heap[b]? = some (Obj.cells cs t (0, 0)) → w'.heap[b]? = some (Obj.cells cs t (0, 0))

theorem MB.lt {w : World} {b cap i m : Nat} (h : MB w b cap i m) : b < w.heap.size := by
  obtain ⟨cur, h, _⟩ := h
  exact (Array.getElem?_eq_some_iff.1 h).1
theorem MV.kept {w w' : World} {ow : Nat → Nat} {B i n m : Nat} {v : Value} (h : MV w ow B i v n m) (hk : Kp ow w w') : MV w' ow B i v n m := by
  obtain ⟨A, c, hv, hn, h⟩ := h
  refine ⟨A, c, hv, hn, ?_⟩
  rcases h with h | ⟨b, h1, h2, h3, h4⟩
  · exact .inl h
  · exact .inr ⟨b, h1, h2, h3, hk _ _ _ _ h3 h4⟩
theorem MV.same {w : World} {ow ow' : Nat → Nat} {B i n m : Nat} {v : Value} (h : MV w ow B i v n m) (ho : ∀ b, b < w.heap.size → ow' b = ow b) : MV w ow' B i v n m := by
  obtain ⟨A, c, hv, hn, h⟩ := h
  refine ⟨A, c, hv, hn, ?_⟩
  rcases h with h | ⟨b, h1, h2, h3, h4⟩
  · exact .inl h
  · exact .inr ⟨b, h1, h2, (ho b h4.lt).trans h3, h4⟩
theorem Kp.refl (ow : Nat → Nat) (w : World) : Kp ow w w := fun _ _ _ _ _ h => h
theorem Kp.trans {ow : Nat → Nat} {a b c : World} (h : Kp ow a b) (k : Kp ow b c) : Kp ow a c := fun x cap i m ho hm => k x cap i m ho (h x cap i m ho hm)
theorem Kp.below {ow : Nat → Nat} {w w' : World} (h : Below w.heap.size w w') : Kp ow w w' := fun b cap i m _ hm => by
  have hl := hm.lt
  obtain ⟨cur, h1, rest⟩ := hm
  exact ⟨cur, (h.block b hl).trans h1, rest⟩
theorem Ko.refl (w : World) : Ko w w := fun _ _ _ _ h => h
theorem Ko.trans {a b c : World} (h : Ko a b) (k : Ko b c) : Ko a c := fun x t cs ht hx => k x t cs ht (h x t cs ht hx)
theorem Ko.below {w w' : World} (h : Below w.heap.size w w') : Ko w w' := fun b _ _ _ hb => (h.block b (Array.getElem?_eq_some_iff.1 hb).1).trans hb
theorem Ko.blk {w w' : World} {g : Nat} {t : TypeId} {cs : Array Value} (h : Ko w w') (hb : Blk w g t cs) (ht : t ≠ 5) : Blk w' g t cs := h g t cs ht hb
theorem Ko.own {w w' : World} {base size n : Nat} {e : TypeId} {v : Value} {xs : List Value} (h : Ko w w') (ho : w.ownsRow base e size v n xs) (ht : e ≠ 5) : w'.ownsRow base e size v n xs := by
  refine ⟨ho.1, ?_⟩
  rcases ho.2 with h0 | ⟨g, cap, cur, rfl, hb, hh, rest⟩
  · exact .inl h0
  · exact .inr ⟨g, cap, cur, rfl, hb, h g e cur ht hh, rest⟩
/-- A step that writes rows of other elements alone keeps the marks. -/
theorem Kp.grown {ow : Nat → Nat} {w w' : World} {row : Option Nat} (hg : w.grownBy w' row) (hr : ∀ g, row = some g → ∀ cs, w.heap[g]? ≠ some (.cells cs 5 (0, 0))) : Kp ow w w' := fun b cap i m _ hm => by
  have hl := hm.lt
  obtain ⟨cur, h1, rest⟩ := hm
  exact ⟨cur, (hg.block b hl (fun e => hr b e.symm cur h1)).trans h1, rest⟩
theorem own_not_u8 {w : World} {base size n : Nat} {e : TypeId} {v : Value} {xs : List Value} (ho : w.ownsRow base e size v n xs) (ht : e ≠ 5) : ∀ g, v.ownBlock = some g → ∀ cs, w.heap[g]? ≠ some (.cells cs 5 (0, 0)) := by
  intro g hg cs hc
  rcases ho.2 with ⟨rfl, _⟩ | ⟨g', cap, cur, rfl, _, hh, _⟩
  · simp [Value.ownBlock] at hg
  · simp [Value.ownBlock] at hg
    subst hg
    rw [hh] at hc
    injection hc with hc
    injection hc with _ h2
    exact ht h2

/-- A row of the call's own is row i's, none of it marked yet. -/
theorem MV.of_own {w : World} {ow : Nat → Nat} {B i n : Nat} {v : Value} {xs : List Value} (h : w.ownsRow B 5 1 v n xs) (ho : ∀ b, v.ownBlock = some b → ow b = i) : MV w ow B i v n 0 := by
  rcases h.2 with ⟨rfl, rfl⟩ | ⟨g, cap, cur, rfl, hb, hg, hn, hm, hs, _⟩
  · exact ⟨none, 0, rfl, Nat.le_refl _, .inl ⟨rfl, rfl, rfl⟩⟩
  · exact ⟨_, cap, rfl, hn, .inr ⟨g, rfl, hb, ho g rfl, cur, hg, by simpa using hs, hm, Nat.zero_le _, fun j hj => absurd hj (by omega)⟩⟩

/-- What a marked slice reads. -/
theorem MV.cell {w : World} {ow : Nat → Nat} {B i n m : Nat} {v : Value} (h : MV w ow B i v n m) {j : Nat} (hj : j < m) :
    ∃ b c, v = .slice (some ⟨b, 0, none⟩) n c ∧ m ≤ c ∧ B ≤ b ∧ ow b = i ∧ w.cell? ⟨b, j, none⟩ = some (.int .u8 ((mk i j).toNat : Int)) := by
  obtain ⟨A, c, hv, hn, h⟩ := h
  rcases h with ⟨_, _, rfl⟩ | ⟨b, rfl, h2, h3, cur, hc, hs, _, hmc, hj'⟩
  · omega
  · exact ⟨b, c, hv, hmc, h2, h3, by rw [cell_of_row w b j cur _ _ hc]; exact hj' j hj⟩

/-- The next mark is written. -/
theorem MV.put {w : World} {ow : Nat → Nat} {B i n j : Nat} {v : Value} (h : MV w ow B i v n j) (hj : j < n) :
    ∃ b c, v = .slice (some ⟨b, 0, none⟩) n c ∧ B ≤ b ∧ (∃ u, w.cell? ⟨b, j, none⟩ = some u) ∧ w.frozen? ⟨b, j, none⟩ = false ∧
      MV (w.setCell ⟨b, j, none⟩ (.int .u8 ((mk i j).toNat : Int))) ow B i v n (j + 1) ∧ Kp ow w (w.setCell ⟨b, j, none⟩ (.int .u8 ((mk i j).toNat : Int))) ∧ Ko w (w.setCell ⟨b, j, none⟩ (.int .u8 ((mk i j).toNat : Int))) := by
  obtain ⟨A, c, hv, hn, h⟩ := h
  rcases h with ⟨rfl, rfl, _⟩ | ⟨b, rfl, h2, h3, cur, hc, hs, hmx, hmc, hj'⟩
  · omega
  have hjs : j < cur.size := by omega
  have hset : (w.setCell ⟨b, j, none⟩ (.int .u8 ((mk i j).toNat : Int))).heap[b]? = some (.cells (cur.setIfInBounds j (.int .u8 ((mk i j).toNat : Int))) 5 (0, 0)) := heap_setCell_same w b j cur _ _ hc
  refine ⟨b, c, hv, h2, ⟨cur[j], by rw [cell_of_row w b j cur _ _ hc, Array.getElem?_eq_getElem hjs]⟩, frozen_of_row w b j cur _ hc, ⟨_, c, hv, hn, .inr ⟨b, rfl, h2, h3, _, hset, by simpa using hs, hmx, by omega, fun k hk => ?_⟩⟩, fun b' cap' i' m' ho hm => ?_, fun b' t cs ht hb => ?_⟩
  · rw [Array.getElem?_setIfInBounds]
    by_cases hjk : j = k
    · subst hjk; simp [hjs]
    · rw [if_neg hjk]; exact hj' k (by omega)
  · by_cases hbb : b' = b
    · subst hbb
      obtain ⟨cur', h1, h2', h3', h4', h5'⟩ := hm
      rw [hc] at h1
      injection h1 with h1
      injection h1 with h1
      subst h1
      have hii : i' = i := by rw [← ho, h3]
      subst hii
      refine ⟨_, hset, by simpa using h2', h3', h4', fun k hk => ?_⟩
      rw [Array.getElem?_setIfInBounds]
      by_cases hjk : j = k
      · subst hjk; simp [hjs]
      · rw [if_neg hjk]; exact h5' k hk
    · obtain ⟨cur', h1, rest⟩ := hm
      exact ⟨cur', (heap_setCell_other w ⟨b, j, none⟩ b' _ hbb).trans h1, rest⟩
  · have hbb : b' ≠ b := by
      rintro rfl
      rw [hc] at hb
      injection hb with hb
      injection hb with _ hb
      exact ht hb.symm
    exact (heap_setCell_other w ⟨b, j, none⟩ b' _ hbb).trans hb

/-- the marks of row i from place n on -/
def mks (i n s : Nat) : List Value := (List.range s).map fun k => bval (mk i (n + k))
theorem mks_length (i n s : Nat) : (mks i n s).length = s := by simp [mks]
theorem mks_get (i n s k : Nat) (h : k < s) : (mks i n s)[k]? = some (bval (mk i (n + k))) := by simp [mks, h]
theorem mks_one (i n s : Nat) : ∀ u ∈ mks i n s, u.oneCell' = true := by
  intro u hu
  obtain ⟨k, _, rfl⟩ := List.mem_map.1 hu
  rfl

/-- append of the next marks: in place, or in a new block. -/
theorem run_append_mv {P : Program} (w : World) (t ty : TypeId) (i0 : TypeInfo) (ht : P.underlying t = some (.slice 5)) (hi : P.info? 5 = some i0) (hz : i0.zero = some (.int .u8 0)) (hsize : i0.size = 1) (hby : i0.bytes = 1)
    (ow : Nat → Nat) (B i n m : Nat) (v : Value) (hv : MV w ow B i v n m) (hnm : n ≤ m) (a : Addr) (s c : Nat) (hs0 : 0 < s) (hsrc : ∀ j u, (mks i n s)[j]? = some u → w.cell? (a.add j) = some u)
    (h63 : n + s ≤ 140737488355328) (hB : B ≤ w.heap.size) :
    ∃ v' w' ow', (Builtin.append_ #[t, t] ty #[v, .slice (some a) s c]).run P w = .ok v' w' ∧ MV w' ow' B i v' (n + s) (n + s) ∧ (∀ b, b < w.heap.size → ow' b = ow b) ∧ Kp ow w w' ∧ Ko w w' ∧ Below B w w' := by
  obtain ⟨A, c', rfl, hn, h⟩ := hv
  have hmx : n + s ≤ maxLen := by simp only [maxLen]; omega
  have hnews : (mks i n s).length = s * i0.size := by rw [hsize, mks_length]; omega
  -- a new block
  have grow : ∀ (w' : World) (v' : Value), w'.ownsRow w.heap.size 5 1 v' (n + s) ((mks i 0 n) ++ (mks i n s)) → w.grownBy w' none →
      ∃ ow', MV w' ow' B i v' (n + s) (n + s) ∧ (∀ b, b < w.heap.size → ow' b = ow b) ∧ Kp ow w w' ∧ Ko w w' ∧ Below B w w' := by
    intro w' v' ho hg
    have hbel : Below w.heap.size w w' := ⟨hg.os, hg.tape, hg.output, hg.size, fun k hk => hg.block k hk (by simp)⟩
    obtain ⟨g, cap, hv', hg1, hg2⟩ := ho.form (by omega)
    subst hv'
    refine ⟨fun b => if b = g then i else ow b, ⟨_, cap, rfl, ?_⟩, fun b hb => by simp only []; rw [if_neg (by omega)], Kp.below hbel, Ko.below hbel, hbel.mono hB⟩
    rcases ho.2 with ⟨h0, _⟩ | ⟨g', cap', cur, h0, _, hh, hn', hm', hsz, htk⟩
    · simp at h0
    · simp only [Value.slice.injEq, Option.some.injEq, Addr.mk.injEq, and_true, true_and] at h0
      obtain ⟨rfl, rfl⟩ := h0
      refine ⟨hn', .inr ⟨g, rfl, by omega, by simp, cur, hh, by simpa using hsz, hm', hn', fun j hj => ?_⟩⟩
      have hcj : cur[j]? = ((mks i 0 n) ++ (mks i n s))[j]? := by
        rw [← htk, List.getElem?_take, if_pos (by omega)]; simp
      rw [hcj]
      by_cases hjn : j < n
      · rw [List.getElem?_append_left (by rw [mks_length]; exact hjn), mks_get _ _ _ _ hjn, Nat.zero_add]
      · rw [List.getElem?_append_right (by rw [mks_length]; omega), mks_length, mks_get _ _ _ _ (by omega), show n + (j - n) = j from by omega]
  rcases h with ⟨rfl, rfl, rfl⟩ | ⟨b, rfl, h2, h3, hmb⟩
  · obtain rfl : n = 0 := by omega
    obtain ⟨v', w', hr, ho, hg, _⟩ := run_append_own (P := P) w w.heap.size t ty 5 i0 (.int .u8 0) 1 1 ht hi hz hsize hby rfl (by omega) (.slice none 0 0) 0 [] (World.ownsRow_nil _ _ _ _) a s c (mks i 0 s) (by rw [mks_length, Nat.mul_one]) hsrc (mks_one _ _ _) hmx (by omega) (Nat.le_refl _)
    obtain ⟨ow', h1, h2, h3, h4, h5⟩ := grow w' v' (by simpa [mks] using ho) (by simpa [Value.ownBlock] using hg)
    exact ⟨v', w', ow', hr, h1, h2, h3, h4, h5⟩
  · obtain ⟨cur, hc, hsz, hmx', hmc, hj'⟩ := hmb
    by_cases hroom : n + s ≤ c'
    · have hfit : n * i0.size + (mks i n s).length ≤ cur.size := by rw [hsize, mks_length]; omega
      have hr := run_append_room (P := P) w t ty 5 i0 ht hi b n c' cur hc a s c (mks i n s) hnews hsrc (mks_one _ _ _) hroom hfit
      rw [hsize, Nat.mul_one, mks_length] at hr
      let cs := (cur.toList.take n ++ mks i n s ++ cur.toList.drop (n + s)).toArray
      have hset : (w.setRow b cs).heap[b]? = some (.cells cs 5 (0, 0)) := setRow_heap w b cur _ _ _ hc
      have hcss : cs.size = cur.size := by simp [cs, mks_length]; omega
      have hget : ∀ k, cs[k]? = if k < n then cur[k]? else if k < n + s then some (bval (mk i k)) else cur[k]? := by
        intro k
        simp only [cs, List.getElem?_toArray]
        by_cases h1 : k < n
        · rw [if_pos h1, List.append_assoc, List.getElem?_append_left (by simp; omega), List.getElem?_take, if_pos h1]; simp
        · rw [if_neg h1]
          by_cases h2 : k < n + s
          · rw [if_pos h2, List.getElem?_append_left (by simp [mks_length]; omega), List.getElem?_append_right (by simp; omega)]
            rw [show k - (List.take n cur.toList).length = k - n from by simp; omega, mks_get _ _ _ _ (by omega), show n + (k - n) = k from by omega]
          · rw [if_neg h2, List.getElem?_append_right (by simp [mks_length]; omega), List.getElem?_drop]
            rw [show n + s + (k - (List.take n cur.toList ++ mks i n s).length) = k from by simp [mks_length]; omega]
            simp
      refine ⟨_, _, ow, hr, ⟨_, c', rfl, hroom, .inr ⟨b, rfl, h2, h3, cs, hset, by omega, hmx', hroom, fun k hk => ?_⟩⟩, fun _ _ => rfl, fun b' cap' i' m' ho hm => ?_, fun b' t' cs' ht' hb' => ?_, below_setRow (Below.refl _ _) h2 _⟩
      · rw [hget]
        by_cases h1 : k < n
        · rw [if_pos h1]; exact hj' k (by omega)
        · rw [if_neg h1, if_pos hk]
      · by_cases hbb : b' = b
        · subst hbb
          obtain ⟨cur', h1, h2', h3', h4', h5'⟩ := hm
          rw [hc] at h1
          injection h1 with h1
          injection h1 with h1
          subst h1
          have hii : i' = i := by rw [← ho, h3]
          subst hii
          refine ⟨cs, hset, by omega, h3', h4', fun k hk => ?_⟩
          rw [hget]
          by_cases h1 : k < n
          · rw [if_pos h1]; exact h5' k hk
          · rw [if_neg h1]
            by_cases h2 : k < n + s
            · rw [if_pos h2]
            · rw [if_neg h2]; exact h5' k hk
        · obtain ⟨cur', h1, rest⟩ := hm
          exact ⟨cur', (setRow_other w b b' _ hbb).trans h1, rest⟩
      · have hbb : b' ≠ b := by
          rintro rfl
          rw [hc] at hb'
          injection hb' with hb'
          injection hb' with _ hb'
          exact ht' hb'.symm
        exact (setRow_other w b b' _ hbb).trans hb'
    · have holds : ∀ j u, (mks i 0 n)[j]? = some u → w.cell? ((⟨b, 0, none⟩ : Addr).add j) = some u := by
        intro j u hu
        have hjn : j < n := by
          rcases Nat.lt_or_ge j n with h | h
          · exact h
          · rw [List.getElem?_eq_none (by rw [mks_length]; exact h)] at hu; cases hu
        rw [mks_get _ _ _ _ hjn, Nat.zero_add] at hu
        have hadd : (⟨b, 0, none⟩ : Addr).add j = ⟨b, j, none⟩ := by unfold Addr.add; split <;> simp_all
        rw [hadd, cell_of_row w b j cur _ _ hc, ← hu]
        exact hj' j (by omega)
      obtain ⟨v', w', hr, ho, hg⟩ := run_append_arg_grows (P := P) w t ty 5 i0 (.int .u8 0) 1 1 ht hi hz hsize hby rfl (by omega) ⟨b, 0, none⟩ n c' (mks i 0 n) (by rw [mks_length, Nat.mul_one]) holds a s c (mks i n s) (by rw [mks_length, Nat.mul_one]) hsrc (by omega) hmx (by omega)
      obtain ⟨ow', h1, h2, h3, h4, h5⟩ := grow w' v' ho hg
      exact ⟨v', w', ow', hr, h1, h2, h3, h4, h5⟩

theorem wpList_append_mv {P : Program} {w : World} {ops : Array Oper} {rest : List Oper} {o : Oper} {a : Act} {Q : Exit → Act → World → Prop} (hgd : o.guard = none) (sx x : Operand) (t : TypeId)
    (hop : o.op = .call { callee := .builtin .append, args := #[sx, x], argTypes := #[t, t] })
    (i0 : TypeInfo) (ht : P.underlying t = some (.slice 5)) (hi : P.info? 5 = some i0) (hz : i0.zero = some (.int .u8 0)) (hsize : i0.size = 1) (hby : i0.bytes = 1)
    (ow : Nat → Nat) (B i n m : Nat) (v : Value) (hvs : a.eval sx = v) (hv : MV w ow B i v n m) (hnm : n ≤ m) (ad : Addr) (s c : Nat) (hx : a.eval x = .slice (some ad) s c) (hs0 : 0 < s) (hsrc : ∀ j u, (mks i n s)[j]? = some u → w.cell? (ad.add j) = some u)
    (h63 : n + s ≤ 140737488355328) (hB : B ≤ w.heap.size)
    (h : ∀ A' c' w' ow', MV w' ow' B i (.slice A' (n + s) c') (n + s) (n + s) → (∀ b, b < w.heap.size → ow' b = ow b) → Kp ow w w' → Ko w w' → Below B w w' → wpList P ops Q rest (a.put o.dst (.slice A' (n + s) c')) w') : wpList P ops Q (o :: rest) a w := by
  obtain ⟨v', w', ow', hrun, h1, h2, h3, h4, h5⟩ := run_append_mv (P := P) w t o.type i0 ht hi hz hsize hby ow B i n m v hv hnm ad s c hs0 hsrc h63 hB
  obtain ⟨A', c', rfl, hr⟩ := h1
  refine wpList_plain hgd fun _ hK => ?_
  unfold Oper.wp execOp
  simp only [hop, resolve, invoke, builtin, Sem.run_bind, Sem.run_pure, Result.andThen_ok, List.map_toArray, List.map_cons, List.map_nil, hvs, hx, hrun]
  exact hK _ _ (h A' c' w' ow' ⟨A', c', rfl, hr⟩ h2 h3 h4 h5)

end Go.Proofs.Ytkgggifliafclaa
