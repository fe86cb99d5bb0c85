/- Rows that are marked by their owners: the words for Apart. Apart: no two of the rows share memory. Spare and Kept: a copy with marked spare room, and the look whether it is as it was. -/
import Derived.Test.YtbldfgpnghoigaaEqR
import Derived.Laws.CopyOwn
import Derived.StillTailTactics
import Derived.Deep.RegionWith
import Derived.Deep.DeepCutAuto
namespace Go.Proofs.Ytbldfgpnghoigaa
open Go.RowKit

/-- what row i holds at place j -/
def mk (i j : Nat) : UInt8 := UInt8.ofNat (17 * i + 3 * j + 1)

/-- Block b has cap cells of bytes, of which the first m hold row i's marks. -/
def MB (w : World) (b cap i m : Nat) : Prop :=
  ∃ cur, w.heap[b]? = some (.cells cur 5 (0, 0)) ∧ cur.size = cap ∧ cap ≤ maxLen ∧ m ≤ cap ∧ ∀ j, j < m → cur[j]? = some (bval (mk i j))

/-- The slice v of n bytes is row i's: it begins at the head of a block from B on, which is row i's own, and whose first m cells hold row i's marks. Or it is nil. -/
def MV (w : World) (ow : Nat → Nat) (B i : Nat) (v : Value) (n m : Nat) : Prop :=
  ∃ A c, v = .slice A n c ∧ n ≤ c ∧ ((A = none ∧ c = 0 ∧ m = 0) ∨ ∃ b, A = some ⟨b, 0, none⟩ ∧ B ≤ b ∧ ow b = i ∧ MB w b c i m)

/-- Each block keeps its owner's marks. -/
def Kp (ow : Nat → Nat) (w w' : World) : Prop := ∀ b cap i m, ow b = i → MB w b cap i m → MB w' b cap i m
/-- No block of other elements than bytes has turned. -/
def Ko (w w' : World) : Prop := ∀ (b : Nat) (t : TypeId) (cs : Array Value), t ≠ 5 → w.heap[b]? = some (Obj.cells cs t (0, 0)) → w'.heap[b]? = some (Obj.cells cs t (0, 0))

theorem MB.lt {w : World} {b cap i m : Nat} (h : MB w b cap i m) : b < w.heap.size := by
  obtain ⟨cur, h, _⟩ := h
  exact (Array.getElem?_eq_some_iff.1 h).1
theorem MV.kept {w w' : World} {ow : Nat → Nat} {B i n m : Nat} {v : Value} (h : MV w ow B i v n m) (hk : Kp ow w w') : MV w' ow B i v n m := by
  obtain ⟨A, c, hv, hn, h⟩ := h
  refine ⟨A, c, hv, hn, ?_⟩
  rcases h with h | ⟨b, h1, h2, h3, h4⟩
  · exact .inl h
  · exact .inr ⟨b, h1, h2, h3, hk _ _ _ _ h3 h4⟩
theorem MV.same {w : World} {ow ow' : Nat → Nat} {B i n m : Nat} {v : Value} (h : MV w ow B i v n m) (ho : ∀ b, b < w.heap.size → ow' b = ow b) : MV w ow' B i v n m := by
  obtain ⟨A, c, hv, hn, h⟩ := h
  refine ⟨A, c, hv, hn, ?_⟩
  rcases h with h | ⟨b, h1, h2, h3, h4⟩
  · exact .inl h
  · exact .inr ⟨b, h1, h2, (ho b h4.lt).trans h3, h4⟩
theorem Kp.refl (ow : Nat → Nat) (w : World) : Kp ow w w := fun _ _ _ _ _ h => h
theorem Kp.trans {ow : Nat → Nat} {a b c : World} (h : Kp ow a b) (k : Kp ow b c) : Kp ow a c := fun x cap i m ho hm => k x cap i m ho (h x cap i m ho hm)
theorem Kp.below {ow : Nat → Nat} {w w' : World} (h : Below w.heap.size w w') : Kp ow w w' := fun b cap i m _ hm => by
  have hl := hm.lt
  obtain ⟨cur, h1, rest⟩ := hm
  exact ⟨cur, (h.block b hl).trans h1, rest⟩
theorem Ko.refl (w : World) : Ko w w := fun _ _ _ _ h => h
theorem Ko.trans {a b c : World} (h : Ko a b) (k : Ko b c) : Ko a c := fun x t cs ht hx => k x t cs ht (h x t cs ht hx)
theorem Ko.below {w w' : World} (h : Below w.heap.size w w') : Ko w w' := fun b _ _ _ hb => (h.block b (Array.getElem?_eq_some_iff.1 hb).1).trans hb
theorem Ko.blk {w w' : World} {g : Nat} {t : TypeId} {cs : Array Value} (h : Ko w w') (hb : Blk w g t cs) (ht : t ≠ 5) : Blk w' g t cs := h g t cs ht hb
theorem Ko.own {w w' : World} {base size n : Nat} {e : TypeId} {v : Value} {xs : List Value} (h : Ko w w') (ho : w.ownsRow base e size v n xs) (ht : e ≠ 5) : w'.ownsRow base e size v n xs := by
  refine ⟨ho.1, ?_⟩
  rcases ho.2 with h0 | ⟨g, cap, cur, rfl, hb, hh, rest⟩
  · exact .inl h0
  · exact .inr ⟨g, cap, cur, rfl, hb, h g e cur ht hh, rest⟩
/-- A step that writes rows of other elements alone keeps the marks. -/
theorem Kp.grown {ow : Nat → Nat} {w w' : World} {row : Option Nat} (hg : w.grownBy w' row) (hr : ∀ g, row = some g → ∀ cs, w.heap[g]? ≠ some (.cells cs 5 (0, 0))) : Kp ow w w' := fun b cap i m _ hm => by
  have hl := hm.lt
  obtain ⟨cur, h1, rest⟩ := hm
  exact ⟨cur, (hg.block b hl (fun e => hr b e.symm cur h1)).trans h1, rest⟩
theorem own_not_u8 {w : World} {base size n : Nat} {e : TypeId} {v : Value} {xs : List Value} (ho : w.ownsRow base e size v n xs) (ht : e ≠ 5) : ∀ g, v.ownBlock = some g → ∀ cs, w.heap[g]? ≠ some (.cells cs 5 (0, 0)) := by
  intro g hg cs hc
  rcases ho.2 with ⟨rfl, _⟩ | ⟨g', cap, cur, rfl, _, hh, _⟩
  · simp [Value.ownBlock] at hg
  · simp [Value.ownBlock] at hg
    subst hg
    rw [hh] at hc
    injection hc with hc
    injection hc with _ h2
    exact ht h2

/-- A row of the call's own is row i's, none of it marked yet. -/
theorem MV.of_own {w : World} {ow : Nat → Nat} {B i n : Nat} {v : Value} {xs : List Value} (h : w.ownsRow B 5 1 v n xs) (ho : ∀ b, v.ownBlock = some b → ow b = i) : MV w ow B i v n 0 := by
  rcases h.2 with ⟨rfl, rfl⟩ | ⟨g, cap, cur, rfl, hb, hg, hn, hm, hs, _⟩
  · exact ⟨none, 0, rfl, Nat.le_refl _, .inl ⟨rfl, rfl, rfl⟩⟩
  · exact ⟨_, cap, rfl, hn, .inr ⟨g, rfl, hb, ho g rfl, cur, hg, by simpa using hs, hm, Nat.zero_le _, fun j hj => absurd hj (by omega)⟩⟩

/-- What a marked slice reads. -/
theorem MV.cell {w : World} {ow : Nat → Nat} {B i n m : Nat} {v : Value} (h : MV w ow B i v n m) {j : Nat} (hj : j < m) :
    ∃ b c, v = .slice (some ⟨b, 0, none⟩) n c ∧ m ≤ c ∧ B ≤ b ∧ ow b = i ∧ w.cell? ⟨b, j, none⟩ = some (.int .u8 ((mk i j).toNat : Int)) := by
  obtain ⟨A, c, hv, hn, h⟩ := h
  rcases h with ⟨_, _, rfl⟩ | ⟨b, rfl, h2, h3, cur, hc, hs, _, hmc, hj'⟩
  · omega
  · exact ⟨b, c, hv, hmc, h2, h3, by rw [cell_of_row w b j cur _ _ hc]; exact hj' j hj⟩

/-- The next mark is written. -/
theorem MV.put {w : World} {ow : Nat → Nat} {B i n j : Nat} {v : Value} (h : MV w ow B i v n j) (hj : j < n) :
    ∃ b c, v = .slice (some ⟨b, 0, none⟩) n c ∧ B ≤ b ∧ (∃ u, w.cell? ⟨b, j, none⟩ = some u) ∧ w.frozen? ⟨b, j, none⟩ = false ∧
      MV (w.setCell ⟨b, j, none⟩ (.int .u8 ((mk i j).toNat : Int))) ow B i v n (j + 1) ∧ Kp ow w (w.setCell ⟨b, j, none⟩ (.int .u8 ((mk i j).toNat : Int))) ∧ Ko w (w.setCell ⟨b, j, none⟩ (.int .u8 ((mk i j).toNat : Int))) := by
  obtain ⟨A, c, hv, hn, h⟩ := h
  rcases h with ⟨rfl, rfl, _⟩ | ⟨b, rfl, h2, h3, cur, hc, hs, hmx, hmc, hj'⟩
  · omega
  have hjs : j < cur.size := by omega
  have hset : (w.setCell ⟨b, j, none⟩ (.int .u8 ((mk i j).toNat : Int))).heap[b]? = some (.cells (cur.setIfInBounds j (.int .u8 ((mk i j).toNat : Int))) 5 (0, 0)) := heap_setCell_same w b j cur _ _ hc
  refine ⟨b, c, hv, h2, ⟨cur[j], by rw [cell_of_row w b j cur _ _ hc, Array.getElem?_eq_getElem hjs]⟩, frozen_of_row w b j cur _ hc, ⟨_, c, hv, hn, .inr ⟨b, rfl, h2, h3, _, hset, by simpa using hs, hmx, by omega, fun k hk => ?_⟩⟩, fun b' cap' i' m' ho hm => ?_, fun b' t cs ht hb => ?_⟩
  · rw [Array.getElem?_setIfInBounds]
    by_cases hjk : j = k
    · subst hjk; simp [hjs]
    · rw [if_neg hjk]; exact hj' k (by omega)
  · by_cases hbb : b' = b
    · subst hbb
      obtain ⟨cur', h1, h2', h3', h4', h5'⟩ := hm
      rw [hc] at h1
      injection h1 with h1
      injection h1 with h1
      subst h1
      have hii : i' = i := by rw [← ho, h3]
      subst hii
      refine ⟨_, hset, by simpa using h2', h3', h4', fun k hk => ?_⟩
      rw [Array.getElem?_setIfInBounds]
      by_cases hjk : j = k
      · subst hjk; simp [hjs]
      · rw [if_neg hjk]; exact h5' k hk
    · obtain ⟨cur', h1, rest⟩ := hm
      exact ⟨cur', (heap_setCell_other w ⟨b, j, none⟩ b' _ hbb).trans h1, rest⟩
  · have hbb : b' ≠ b := by
      rintro rfl
      rw [hc] at hb
      injection hb with hb
      injection hb with _ hb
      exact ht hb.symm
    exact (heap_setCell_other w ⟨b, j, none⟩ b' _ hbb).trans hb

/-- the marks of row i from place n on -/
def mks (i n s : Nat) : List Value := (List.range s).map fun k => bval (mk i (n + k))
theorem mks_length (i n s : Nat) : (mks i n s).length = s := by simp [mks]
theorem mks_get (i n s k : Nat) (h : k < s) : (mks i n s)[k]? = some (bval (mk i (n + k))) := by simp [mks, h]
theorem mks_one (i n s : Nat) : ∀ u ∈ mks i n s, u.oneCell' = true := by
  intro u hu
  obtain ⟨k, _, rfl⟩ := List.mem_map.1 hu
  rfl

/-- append of the next marks: in place, or in a new block. -/
theorem run_append_mv {P : Program} (w : World) (t ty : TypeId) (i0 : TypeInfo) (ht : P.underlying t = some (.slice 5)) (hi : P.info? 5 = some i0) (hz : i0.zero = some (.int .u8 0)) (hsize : i0.size = 1) (hby : i0.bytes = 1)
    (ow : Nat → Nat) (B i n m : Nat) (v : Value) (hv : MV w ow B i v n m) (hnm : n ≤ m) (a : Addr) (s c : Nat) (hs0 : 0 < s) (hsrc : ∀ j u, (mks i n s)[j]? = some u → w.cell? (a.add j) = some u)
    (h63 : n + s ≤ 140737488355328) (hB : B ≤ w.heap.size) :
    ∃ v' w' ow', (Builtin.append_ #[t, t] ty #[v, .slice (some a) s c]).run P w = .ok v' w' ∧ MV w' ow' B i v' (n + s) (n + s) ∧ (∀ b, b < w.heap.size → ow' b = ow b) ∧ Kp ow w w' ∧ Ko w w' ∧ Below B w w' := by
  obtain ⟨A, c', rfl, hn, h⟩ := hv
  have hmx : n + s ≤ maxLen := by simp only [maxLen]; omega
  have hnews : (mks i n s).length = s * i0.size := by rw [hsize, mks_length]; omega
  -- a new block
  have grow : ∀ (w' : World) (v' : Value), w'.ownsRow w.heap.size 5 1 v' (n + s) ((mks i 0 n) ++ (mks i n s)) → w.grownBy w' none →
      ∃ ow', MV w' ow' B i v' (n + s) (n + s) ∧ (∀ b, b < w.heap.size → ow' b = ow b) ∧ Kp ow w w' ∧ Ko w w' ∧ Below B w w' := by
    intro w' v' ho hg
    have hbel : Below w.heap.size w w' := ⟨hg.os, hg.tape, hg.output, hg.size, fun k hk => hg.block k hk (by simp)⟩
    obtain ⟨g, cap, hv', hg1, hg2⟩ := ho.form (by omega)
    subst hv'
    refine ⟨fun b => if b = g then i else ow b, ⟨_, cap, rfl, ?_⟩, fun b hb => by simp only []; rw [if_neg (by omega)], Kp.below hbel, Ko.below hbel, hbel.mono hB⟩
    rcases ho.2 with ⟨h0, _⟩ | ⟨g', cap', cur, h0, _, hh, hn', hm', hsz, htk⟩
    · simp at h0
    · simp only [Value.slice.injEq, Option.some.injEq, Addr.mk.injEq, and_true, true_and] at h0
      obtain ⟨rfl, rfl⟩ := h0
      refine ⟨hn', .inr ⟨g, rfl, by omega, by simp, cur, hh, by simpa using hsz, hm', hn', fun j hj => ?_⟩⟩
      have hcj : cur[j]? = ((mks i 0 n) ++ (mks i n s))[j]? := by
        rw [← htk, List.getElem?_take, if_pos (by omega)]; simp
      rw [hcj]
      by_cases hjn : j < n
      · rw [List.getElem?_append_left (by rw [mks_length]; exact hjn), mks_get _ _ _ _ hjn, Nat.zero_add]
      · rw [List.getElem?_append_right (by rw [mks_length]; omega), mks_length, mks_get _ _ _ _ (by omega), show n + (j - n) = j from by omega]
  rcases h with ⟨rfl, rfl, rfl⟩ | ⟨b, rfl, h2, h3, hmb⟩
  · obtain rfl : n = 0 := by omega
    obtain ⟨v', w', hr, ho, hg, _⟩ := run_append_own (P := P) w w.heap.size t ty 5 i0 (.int .u8 0) 1 1 ht hi hz hsize hby rfl (by omega) (.slice none 0 0) 0 [] (World.ownsRow_nil _ _ _ _) a s c (mks i 0 s) (by rw [mks_length, Nat.mul_one]) hsrc (mks_one _ _ _) hmx (by omega) (Nat.le_refl _)
    obtain ⟨ow', h1, h2, h3, h4, h5⟩ := grow w' v' (by simpa [mks] using ho) (by simpa [Value.ownBlock] using hg)
    exact ⟨v', w', ow', hr, h1, h2, h3, h4, h5⟩
  · obtain ⟨cur, hc, hsz, hmx', hmc, hj'⟩ := hmb
    by_cases hroom : n + s ≤ c'
    · have hfit : n * i0.size + (mks i n s).length ≤ cur.size := by rw [hsize, mks_length]; omega
      have hr := run_append_room (P := P) w t ty 5 i0 ht hi b n c' cur hc a s c (mks i n s) hnews hsrc (mks_one _ _ _) hroom hfit
      rw [hsize, Nat.mul_one, mks_length] at hr
      let cs := (cur.toList.take n ++ mks i n s ++ cur.toList.drop (n + s)).toArray
      have hset : (w.setRow b cs).heap[b]? = some (.cells cs 5 (0, 0)) := setRow_heap w b cur _ _ _ hc
      have hcss : cs.size = cur.size := by simp [cs, mks_length]; omega
      have hget : ∀ k, cs[k]? = if k < n then cur[k]? else if k < n + s then some (bval (mk i k)) else cur[k]? := by
        intro k
        simp only [cs, List.getElem?_toArray]
        by_cases h1 : k < n
        · rw [if_pos h1, List.append_assoc, List.getElem?_append_left (by simp; omega), List.getElem?_take, if_pos h1]; simp
        · rw [if_neg h1]
          by_cases h2 : k < n + s
          · rw [if_pos h2, List.getElem?_append_left (by simp [mks_length]; omega), List.getElem?_append_right (by simp; omega)]
            rw [show k - (List.take n cur.toList).length = k - n from by simp; omega, mks_get _ _ _ _ (by omega), show n + (k - n) = k from by omega]
          · rw [if_neg h2, List.getElem?_append_right (by simp [mks_length]; omega), List.getElem?_drop]
            rw [show n + s + (k - (List.take n cur.toList ++ mks i n s).length) = k from by simp [mks_length]; omega]
            simp
      refine ⟨_, _, ow, hr, ⟨_, c', rfl, hroom, .inr ⟨b, rfl, h2, h3, cs, hset, by omega, hmx', hroom, fun k hk => ?_⟩⟩, fun _ _ => rfl, fun b' cap' i' m' ho hm => ?_, fun b' t' cs' ht' hb' => ?_, below_setRow (Below.refl _ _) h2 _⟩
      · rw [hget]
        by_cases h1 : k < n
        · rw [if_pos h1]; exact hj' k (by omega)
        · rw [if_neg h1, if_pos hk]
      · by_cases hbb : b' = b
        · subst hbb
          obtain ⟨cur', h1, h2', h3', h4', h5'⟩ := hm
          rw [hc] at h1
          injection h1 with h1
          injection h1 with h1
          subst h1
          have hii : i' = i := by rw [← ho, h3]
          subst hii
          refine ⟨cs, hset, by omega, h3', h4', fun k hk => ?_⟩
          rw [hget]
          by_cases h1 : k < n
          · rw [if_pos h1]; exact h5' k hk
          · rw [if_neg h1]
            by_cases h2 : k < n + s
            · rw [if_pos h2]
            · rw [if_neg h2]; exact h5' k hk
        · obtain ⟨cur', h1, rest⟩ := hm
          exact ⟨cur', (setRow_other w b b' _ hbb).trans h1, rest⟩
      · have hbb : b' ≠ b := by
          rintro rfl
          rw [hc] at hb'
          injection hb' with hb'
          injection hb' with _ hb'
          exact ht' hb'.symm
        exact (setRow_other w b b' _ hbb).trans hb'
    · have holds : ∀ j u, (mks i 0 n)[j]? = some u → w.cell? ((⟨b, 0, none⟩ : Addr).add j) = some u := by
        intro j u hu
        have hjn : j < n := by
          rcases Nat.lt_or_ge j n with h | h
          · exact h
          · rw [List.getElem?_eq_none (by rw [mks_length]; exact h)] at hu; cases hu
        rw [mks_get _ _ _ _ hjn, Nat.zero_add] at hu
        have hadd : (⟨b, 0, none⟩ : Addr).add j = ⟨b, j, none⟩ := by unfold Addr.add; split <;> simp_all
        rw [hadd, cell_of_row w b j cur _ _ hc, ← hu]
        exact hj' j (by omega)
      obtain ⟨v', w', hr, ho, hg⟩ := run_append_arg_grows (P := P) w t ty 5 i0 (.int .u8 0) 1 1 ht hi hz hsize hby rfl (by omega) ⟨b, 0, none⟩ n c' (mks i 0 n) (by rw [mks_length, Nat.mul_one]) holds a s c (mks i n s) (by rw [mks_length, Nat.mul_one]) hsrc (by omega) hmx (by omega)
      obtain ⟨ow', h1, h2, h3, h4, h5⟩ := grow w' v' ho hg
      exact ⟨v', w', ow', hr, h1, h2, h3, h4, h5⟩

theorem wpList_append_mv {P : Program} {w : World} {ops : Array Oper} {rest : List Oper} {o : Oper} {a : Act} {Q : Exit → Act → World → Prop} (hgd : o.guard = none) (sx x : Operand) (t : TypeId)
    (hop : o.op = .call { callee := .builtin .append, args := #[sx, x], argTypes := #[t, t] })
    (i0 : TypeInfo) (ht : P.underlying t = some (.slice 5)) (hi : P.info? 5 = some i0) (hz : i0.zero = some (.int .u8 0)) (hsize : i0.size = 1) (hby : i0.bytes = 1)
    (ow : Nat → Nat) (B i n m : Nat) (v : Value) (hvs : a.eval sx = v) (hv : MV w ow B i v n m) (hnm : n ≤ m) (ad : Addr) (s c : Nat) (hx : a.eval x = .slice (some ad) s c) (hs0 : 0 < s) (hsrc : ∀ j u, (mks i n s)[j]? = some u → w.cell? (ad.add j) = some u)
    (h63 : n + s ≤ 140737488355328) (hB : B ≤ w.heap.size)
    (h : ∀ A' c' w' ow', MV w' ow' B i (.slice A' (n + s) c') (n + s) (n + s) → (∀ b, b < w.heap.size → ow' b = ow b) → Kp ow w w' → Ko w w' → Below B w w' → wpList P ops Q rest (a.put o.dst (.slice A' (n + s) c')) w') : wpList P ops Q (o :: rest) a w := by
  obtain ⟨v', w', ow', hrun, h1, h2, h3, h4, h5⟩ := run_append_mv (P := P) w t o.type i0 ht hi hz hsize hby ow B i n m v hv hnm ad s c hs0 hsrc h63 hB
  obtain ⟨A', c', rfl, hr⟩ := h1
  refine wpList_plain hgd fun _ hK => ?_
  unfold Oper.wp execOp
  simp only [hop, resolve, invoke, builtin, Sem.run_bind, Sem.run_pure, Result.andThen_ok, List.map_toArray, List.map_cons, List.map_nil, hvs, hx, hrun]
  exact hK _ _ (h A' c' w' ow' ⟨A', c', rfl, hr⟩ h2 h3 h4 h5)

end Go.Proofs.Ytbldfgpnghoigaa

namespace Go.Proofs.Ytbldfgpnghoigaa
open Go.RowKit

set_option maxHeartbeats 400000 in
theorem mark_any (i j : Int) (w : World) (hi0 : 0 ≤ i) (hi : i ≤ 1099511627776) (hj0 : 0 ≤ j) (hj : j ≤ 281474976710656) :
    Calls Try.prog 53 #[.int .i64 i, .int .i64 j] w fun e w' => e = .returned (.int .u8 ((mk i.toNat j.toNat).toNat : Int)) ∧ w = w' := by
  obtain ⟨i, rfl⟩ := Int.eq_ofNat_of_zero_le hi0
  obtain ⟨j, rfl⟩ := Int.eq_ofNat_of_zero_le hj0
  simp only [Int.toNat_natCast]
  have HM : Hid (((mk i j).toNat : Int) = (17 * (i : Int) + 3 * (j : Int) + 1) % 256) := by
    show _ = _
    unfold mk; rw [UInt8.toNat_ofNat']; omega
  go_enter Try.func53, Try.ntmps53
  go_wp2
  go_ret
  refine ⟨ret_int ?_, rfl⟩
  rw [HM.out]

theorem mark_q (i j : Int) (w : World) (hi0 : 0 ≤ i) (hi : i ≤ 1099511627776) (hj0 : 0 ≤ j) (hj : j ≤ 281474976710656) :
    Calls Try.prog 53 #[.int .i64 i, .int .i64 j] w fun e w' => e = .returned (.int .u8 ((mk i.toNat j.toNat).toNat : Int)) ∧ w' = w :=
  (mark_any i j w hi0 hi hj0 hj).mono fun _ _ ⟨h, k⟩ => ⟨h, k.symm⟩

/-- rows 0 .. i-1 are marked whole, row i up to j, the others not yet -/
def S1 (w : World) (ow : Nat → Nat) (B : Nat) (V : Nat → Value) (N : Nat → Nat) (n i j : Nat) : Prop :=
  ∀ t, t < n → MV w ow B t (V t) (N t) (if t < i then N t else if t = i then j else 0)
theorem S1.at_ {w : World} {ow : Nat → Nat} {B : Nat} {V : Nat → Value} {N : Nat → Nat} {n i j : Nat} (h : S1 w ow B V N n i j) (hi : i < n) : MV w ow B i (V i) (N i) j := by
  have := h i hi
  rwa [if_neg (by omega), if_pos rfl] at this
theorem S1.next {w : World} {ow : Nat → Nat} {B : Nat} {V : Nat → Value} {N : Nat → Nat} {n i : Nat} (h : S1 w ow B V N n i (N i)) : S1 w ow B V N n (i + 1) 0 := by
  intro t ht
  have := h t ht
  by_cases h1 : t < i
  · rw [if_pos h1] at this; rwa [if_pos (by omega)]
  · rw [if_neg h1] at this
    by_cases h2 : t = i
    · subst h2; rw [if_pos rfl] at this; rwa [if_pos (by omega)]
    · rw [if_neg h2] at this; rw [if_neg (by omega)]; split <;> exact this
theorem S1.put {w w' : World} {ow : Nat → Nat} {B : Nat} {V : Nat → Value} {N : Nat → Nat} {n i j : Nat} (h : S1 w ow B V N n i j) (hk : Kp ow w w') (hi : MV w' ow B i (V i) (N i) (j + 1)) : S1 w' ow B V N n i (j + 1) := by
  intro t ht
  by_cases h2 : t = i
  · subst h2; rwa [if_neg (by omega), if_pos rfl]
  · have := (h t ht).kept hk
    rw [if_neg h2] at this ⊢
    exact this

theorem mk_u8' (n : Nat) (hn : n ≤ 281474976710656) (W : World) : (Instr.makeSlice 40 (.int .i64 (n : Int)) (.int .i64 (n : Int))).run Try.prog W = .ok (.slice (some ⟨W.heap.size, 0, none⟩) n n) (W.alloc (.cells (Array.replicate n (.int .u8 0)) 5)) := by
  obtain ⟨i, hi, hz0, hz1, hz2⟩ := info_parts Try.infoU8
  exact run_make_rep 40 5 i _ Try.underlying40 hi hz0 hz1 rfl _ _ n (by rw [hz2]; omega) (by omega) W
/-- forty marks in the making -/
def mArr (i n k : Nat) : Array Value := ((List.range 40).map fun j => if j < k then bval (mk i (n + j)) else .int .u8 0).toArray
theorem mArr_zero (i n : Nat) : mArr i n 0 = Array.replicate 40 (.int .u8 0) := by
  unfold mArr; rw [← Array.toList_inj, Array.toList_replicate]; simp [List.map_const']
theorem mArr_get (i n k j : Nat) (h : j < 40) : (mArr i n k)[j]? = some (if j < k then bval (mk i (n + j)) else .int .u8 0) := by simp [mArr, h]
theorem mArr_put (i n k : Nat) (h : k < 40) : (mArr i n k).setIfInBounds k (.int .u8 ((mk i (n + k)).toNat : Int)) = mArr i n (k + 1) := by
  apply Array.ext_getElem?
  intro j
  rw [Array.getElem?_setIfInBounds]
  by_cases hj : j < 40
  · rw [mArr_get _ _ _ _ hj, mArr_get _ _ _ _ hj]
    by_cases hjk : k = j
    · subst hjk; simp [mArr, h]
    · rw [if_neg hjk]
      have : (j < k ↔ j < k + 1) := by omega
      simp [this]
  · rw [if_neg (by omega)]; simp [mArr, hj]
theorem Ko.setU8 {w : World} {g : Nat} {cs : Array Value} (hb : Blk w g 5 cs) (j : Nat) (u : Value) : Ko w (w.setCell ⟨g, j, none⟩ u) := fun b t cs' ht hx => by
  have hbb : b ≠ g := by
    rintro rfl
    unfold Blk at hb
    rw [hb] at hx
    injection hx with hx
    injection hx with _ hx
    exact ht hx.symm
  exact (heap_setCell_other w ⟨g, j, none⟩ b _ hbb).trans hx
theorem Kp.same {ow ow' : Nat → Nat} {w w' : World} (h : Kp ow w w') (ho : ∀ b, b < w.heap.size → ow' b = ow b) : Kp ow' w w' :=
  fun b cap i m hb hm => h b cap i m ((ho b hm.lt).symm.trans hb) hm
theorem S1.step {w w' : World} {ow ow' : Nat → Nat} {B : Nat} {V : Nat → Value} {N : Nat → Nat} {n i j : Nat} (h : S1 w ow B V N n i j) (ho : ∀ b, b < w.heap.size → ow' b = ow b) (hk : Kp ow w w') : S1 w' ow' B V N n i j :=
  fun t ht => ((h t ht).same ho).kept (hk.same ho)
/-- how long the grown rows are -/
def gl (N : Nat → Nat) (n t : Nat) : Nat := if t < n then N t + 16 else N (t - n) + 40
/-- all rows are marked whole, and so are the grown ones -/
def S2 (w : World) (ow : Nat → Nat) (B : Nat) (V : Nat → Value) (N : Nat → Nat) (n : Nat) (gs : List Value) : Prop :=
  S1 w ow B V N n n 0 ∧ ∀ t (h : t < gs.length), MV w ow B (t % n) gs[t] (gl N n t) (gl N n t)
theorem S2.step {w w' : World} {ow ow' : Nat → Nat} {B : Nat} {V : Nat → Value} {N : Nat → Nat} {n : Nat} {gs : List Value} (h : S2 w ow B V N n gs) (ho : ∀ b, b < w.heap.size → ow' b = ow b) (hk : Kp ow w w') : S2 w' ow' B V N n gs :=
  ⟨h.1.step ho hk, fun t ht => ((h.2 t ht).same ho).kept (hk.same ho)⟩
theorem S2.kept {w w' : World} {ow : Nat → Nat} {B : Nat} {V : Nat → Value} {N : Nat → Nat} {n : Nat} {gs : List Value} (h : S2 w ow B V N n gs) (hk : Kp ow w w') : S2 w' ow B V N n gs := h.step (fun _ _ => rfl) hk
theorem S2.alloc {w : World} {ow : Nat → Nat} {B : Nat} {V : Nat → Value} {N : Nat → Nat} {n : Nat} {gs : List Value} (h : S2 w ow B V N n gs) (o : Obj) : S2 (w.alloc o) ow B V N n gs := h.kept (Kp.below ((Below.refl _ _).alloc (Nat.le_refl _) _))
theorem MV.alloc {w : World} {ow : Nat → Nat} {B i n m : Nat} {v : Value} (h : MV w ow B i v n m) (o : Obj) : MV (w.alloc o) ow B i v n m := h.kept (Kp.below ((Below.refl _ _).alloc (Nat.le_refl _) _))
theorem S2.row {w : World} {ow : Nat → Nat} {B : Nat} {V : Nat → Value} {N : Nat → Nat} {n : Nat} {gs : List Value} (h : S2 w ow B V N n gs) {i : Nat} (hi : i < n) : MV w ow B i (V i) (N i) (N i) := by
  have := h.1 i hi
  rwa [if_pos hi] at this
theorem S2.snoc {w : World} {ow : Nat → Nat} {B : Nat} {V : Nat → Value} {N : Nat → Nat} {n : Nat} {gs : List Value} {v : Value} (h : S2 w ow B V N n gs) (hv : MV w ow B (gs.length % n) v (gl N n gs.length) (gl N n gs.length)) : S2 w ow B V N n (gs ++ [v]) := by
  refine ⟨h.1, fun t ht => ?_⟩
  by_cases hlt : t < gs.length
  · rw [List.getElem_append_left hlt]; exact h.2 t hlt
  · have e : t = gs.length := by simp at ht; omega
    subst e
    simpa using hv
theorem mb_far {w : World} {b cap i m M j : Nat} {u : Value} (h : MB w b cap i m) (hne : b ≠ M) : MB (w.setCell ⟨M, j, none⟩ u) b cap i m := by
  obtain ⟨cur, h1, rest⟩ := h
  exact ⟨cur, (heap_setCell_other w ⟨M, j, none⟩ b u hne).trans h1, rest⟩
theorem MV.far {w : World} {ow : Nat → Nat} {B i n m M j : Nat} {v u : Value} (h : MV w ow B i v n m) (hM : ow M ≠ i) : MV (w.setCell ⟨M, j, none⟩ u) ow B i v n m := by
  obtain ⟨A, c, hv, hn, h⟩ := h
  refine ⟨A, c, hv, hn, ?_⟩
  rcases h with h | ⟨b, h1, h2, h3, h4⟩
  · exact .inl h
  · exact .inr ⟨b, h1, h2, h3, mb_far h4 (fun e => hM (e ▸ h3))⟩
theorem S2.far {w : World} {ow : Nat → Nat} {B : Nat} {V : Nat → Value} {N : Nat → Nat} {n M j : Nat} {gs : List Value} {u : Value} (h : S2 w ow B V N n gs) (hn : 0 < n) (hM : ow M = n) : S2 (w.setCell ⟨M, j, none⟩ u) ow B V N n gs :=
  ⟨fun t ht => (h.1 t ht).far (by omega), fun t ht => (h.2 t ht).far (by have := Nat.mod_lt t hn; omega)⟩
theorem own_ne_blk {w : World} {B1 size n L : Nat} {e : TypeId} {v : Value} {xs : List Value} (h : w.ownsRow B1 e size v n xs) (hL : L < B1) : some L ≠ v.ownBlock := fun e => by
  have := (h.lt L e.symm).1
  omega

set_option maxRecDepth 100000 in
set_option maxHeartbeats 4000000 in
theorem apart_any (L n c B : Nat) (cs : Array Value) (V : Nat → Value) (N : Nat → Nat) (ow : Nat → Nat) (w : World) (hL : Blk w L 40 cs) (hcs : ∀ i, i < n → cs[i]? = some (V i)) (hn1 : (n : Int) ≤ 1000)
    (hn0 : 0 < n) (hV : ∀ i, i < n → MV w ow B i (V i) (N i) 0) (hN : ∀ i, i < n → N i ≤ 140737488355000) (hB : B ≤ w.heap.size) :
    Calls Try.prog 24 #[.slice (some ⟨L, 0, none⟩) n c] w fun e w' => e = .returned (.bool true) ∧ Below B w w' := by
  have HCS := Lib.hid hcs
  have HN := Lib.hid hN
  have h0 : S1 w ow B V N n 0 0 := fun t ht => by have := hV t ht; split <;> (try split) <;> first | omega | exact this
  clear hcs hN hV
  obtain ⟨i0, hi0, hz0, hz1, hz2⟩ := info_parts Try.infoU8
  obtain ⟨i1, hi1, hy0, hy1, hy2⟩ := info_parts Try.infoBs
  go_enter Try.func24, Try.ntmps24
  go_wp2_with fail
  go_loopw [3] (fun i wr => ∃ k : Nat, k ≤ n ∧ i = .int .i64 k ∧ S1 wr ow B V N n k 0 ∧ Blk wr L 40 cs ∧ Below B w wr) (fun i _ => n - (intOf i).toNat)
  case atStart => exact ⟨0, Nat.zero_le _, rfl, h0, hL, Below.refl _ _⟩
  case round =>
    obtain ⟨i, hi, rfl, hs, hl, hb⟩ := hrel
    obtain ⟨wo, rfl⟩ : ∃ wo : World, wo = wr := ⟨_, rfl⟩
    by_cases hlt : i < n
    · obtain ⟨Ai, ci, hvi, _⟩ := hs.at_ hlt
      have HV := Lib.hid hvi
      have hNi := HN.out i hlt
      clear hvi
      go_wp2_with fail
      go_loopw [4] (fun j wr => ∃ k : Nat, k ≤ N i ∧ j = .int .i64 k ∧ S1 wr ow B V N n i k ∧ Blk wr L 40 cs ∧ Below B w wr) (fun j _ => N i - (intOf j).toNat)
      case atStart => exact ⟨0, Nat.zero_le _, rfl, hs, hl, hb⟩
      case round =>
        obtain ⟨j, hj, rfl, hs2, hl2, hb2⟩ := hrel
        have hcl : wr.cell? ⟨L, i, none⟩ = some (.slice Ai (N i) ci) := by rw [hl2.cell, HCS.out i hlt, HV.out]
        by_cases hlj : j < N i
        · obtain ⟨b, c', hv2, hBb, ⟨u, hcu⟩, hfr, hs3, hkp, hko⟩ := (hs2.at_ hlt).put hlj
          rw [HV.out] at hv2
          obtain ⟨rfl, rfl⟩ : Ai = some ⟨b, 0, none⟩ ∧ ci = c' := by simpa using hv2
          clear hv2
          have HS3 := Lib.hid (hs2.put hkp hs3)
          have HL3 := Lib.hid (hko.blk hl2 (by decide))
          clear hs3 hkp hko
          go_wp2_with fail
          go_region_with (go_at_call 53; refine (mark_any _ _ _ (by omega) (by omega) (by omega) (by omega)).mono ?_; rintro e w2 ⟨rfl, rfl⟩)
          all_goals go_wp2_with fail
          all_goals go_roundw
          all_goals first
            | exact ⟨j + 1, by omega, by go_num, HS3.out, HL3.out, (hb2.setCell hBb _).drew⟩
            | (simp [intOf]; omega)
        · obtain rfl : j = N i := by omega
          have HS3 := Lib.hid hs2.next
          clear hs2
          go_wp2_with fail
          go_roundw
          case rel => exact ⟨i + 1, by omega, by go_num, HS3.out, hl2, hb2⟩
          case measure => simp [intOf]; omega
    · obtain rfl : i = n := by omega
      have hs0 : S2 wo ow B V N i [] := ⟨hs, fun t ht => absurd ht (by simp)⟩
      clear hs hlt hi h0
      go_wp2_with fail
      go_loopw [5, 6] (fun g k wr => ∃ (k' : Nat) (gs : List Value) (ow' : Nat → Nat), k' ≤ i ∧ k = .int .i64 k' ∧ gs.length = k' ∧ wr.ownsRow w.heap.size 40 1 g k' gs ∧ S2 wr ow' B V N i gs ∧ Blk wr L 40 cs ∧ Below B w wr) (fun _ k _ => i - (intOf k).toNat)
      case atStart => exact ⟨0, [], ow, Nat.zero_le _, rfl, rfl, World.ownsRow_nil _ _ _ _, hs0, hl, hb⟩
      case round =>
        obtain ⟨k, gs, ow1, hk, rfl, hgl, hown, hs2, hl2, hb2⟩ := hrel
        obtain ⟨w2, rfl⟩ : ∃ w2 : World, w2 = wr := ⟨_, rfl⟩
        by_cases hlt : k < i
        · obtain ⟨Ai, ci, hvi, _⟩ := hs2.row hlt
          have HV := Lib.hid hvi
          have hNk := HN.out k hlt
          have hcl : w2.cell? ⟨L, k, none⟩ = some (.slice Ai (N k) ci) := by rw [hl2.cell, HCS.out k hlt, hvi]
          have hrow := hs2.row hlt
          rw [hvi] at hrow
          have HGL := Lib.hid hgl
          clear hvi hgl
          go_wp2_with fail
          go_loopw [7, 8] (fun g j wr => ∃ (j' : Nat) (ow' : Nat → Nat), j' ≤ 16 ∧ j = .int .i64 j' ∧ MV wr ow' B k g (N k + j') (N k + j') ∧ wr.ownsRow w.heap.size 40 1 u5 k gs ∧ S2 wr ow' B V N i gs ∧ Blk wr L 40 cs ∧ Below B w wr) (fun _ j _ => 16 - (intOf j).toNat)
          case atStart => exact ⟨0, ow1, Nat.zero_le _, rfl, hrow, hown, hs2, hl2, hb2⟩
          case round =>
            obtain ⟨j, ow2, hj, rfl, hg3, hown3, hs3, hl3, hb3⟩ := hrel
            have hcl3 : wr.cell? ⟨L, k, none⟩ = some (.slice Ai (N k) ci) := by rw [hl3.cell, HCS.out k hlt, HV.out]
            by_cases hlj : j < 16
            · go_wp2_with fail
              refine (mark_any _ _ _ (by omega) (by omega) (by omega) (by omega)).mono ?_
              rintro e w4 ⟨rfl, rfl⟩
              rw [show ((N k : Int) + (j : Int)).toNat = N k + j from by omega, Int.toNat_natCast]
              have hsrc : ∀ x u, (mks k (N k + j) 1)[x]? = some u → (wr.alloc (.cells #[.int .u8 ((mk k (N k + j)).toNat : Int)] 5)).cell? ((⟨wr.heap.size, 0, none⟩ : Addr).add x) = some u := cell_one_new wr _ _
              have HSRC := Lib.hid hsrc
              clear hsrc
              go_wp2_with (at_builtin; go_loud (refine wpList_append_mv rfl (.tmp 54) (.tmp 64) _ rfl i0 Try.underlying40 hi0 hz0 hz1 hz2 ow2 B k (N k + j) (N k + j) _ rfl (hg3.alloc _) (Nat.le_refl _) ⟨wr.heap.size, 0, none⟩ 1 1 rfl (by omega) HSRC.out (by omega) (by have := hb3.size; simp; omega) ?_); intro A5 c5 w5 ow5 hv5 how5 hkp5 hko5 hb5)
              have HS5 := Lib.hid ((hs3.alloc _).step how5 hkp5)
              have HO5 := Lib.hid (hko5.own (hown3.alloc _) (by decide))
              have HL5 := Lib.hid (hko5.blk (hl3.alloc _) (by decide))
              have HB5 := Lib.hid ((hb3.alloc (by have := hb3.size; omega) _).trans hb5)
              clear hkp5 hko5 hb5
              go_roundw
              case rel => exact ⟨j + 1, ow5, by omega, by go_num, hv5, HO5.out, HS5.out, HL5.out, HB5.out⟩
              case measure => simp [intOf]; omega
            · obtain rfl : j = 16 := by omega
              have HG3 := Lib.hid hg3
              obtain ⟨Ag, cg, rfl, _⟩ := hg3
              have hrd := Reads.new1 wr (.slice Ag (N k + 16) cg) 40
              have HK := Lib.hid hlt
              have hkk : (k : Int) + 1 ≤ 1000 := by omega
              go_wp2_with (at_builtin; go_loud (refine wpList_append_any _ rfl (.tmp 66) (.tmp 68) _ rfl w.heap.size 40 i1 _ 1 24 Try.underlying27 hi1 hy0 hy1 hy2 rfl (by omega) u5 k _ rfl (hown3.alloc _) _ _ 1 1 [.slice Ag (N k + 16) cg] rfl hrd (by simp [Value.oneCell']) (by simp only [maxLen]; omega) (by omega) (by have := hb3.size; simp; omega) ?_); intro v6 w6 hown6 hg6 hat6)
              have hkp6 : Kp ow2 (wr.alloc (.cells #[.slice Ag (N k + 16) cg] 40)) w6 := Kp.grown hg6 (own_not_u8 (hown3.alloc _) (by decide))
              have hg7 := (HG3.out.alloc _).kept hkp6
              have hs7 := (hs3.alloc _).kept hkp6
              have HS7 := Lib.hid (hs7.snoc (by rw [HGL.out, Nat.mod_eq_of_lt HK.out]; unfold gl; rw [if_pos HK.out]; exact hg7))
              have HL7 := Lib.hid ((hl3.alloc _).grown hg6 (own_ne_blk hown3 hL.lt))
              have HB7 := Lib.hid ((hb3.alloc (by have := hb3.size; omega) _).grown hg6 (by have := hb3.size; simp; omega) (fun g hg => by have := (hown3.lt g hg).1; omega))
              clear hkp6 hg7 hs7
              go_roundw
              case rel => exact ⟨k + 1, gs ++ [.slice Ag (N k + 16) cg], ow2, by have := HK.out; omega, by go_num, by rw [List.length_append, HGL.out]; rfl, hown6, HS7.out, HL7.out, HB7.out⟩
              case measure => simp [intOf]; have := HK.out; omega
        · obtain rfl : k = i := by omega
          have HGL := Lib.hid hgl
          have hk1 : k ≤ k := Nat.le_refl _
          clear hgl hlt hk
          go_wp2_with fail
          go_loopw [5, 9] (fun g t wr => ∃ (k' : Nat) (gs : List Value) (ow' : Nat → Nat), k' ≤ k ∧ t = .int .i64 k' ∧ gs.length = k + k' ∧ wr.ownsRow w.heap.size 40 1 g (k + k') gs ∧ S2 wr ow' B V N k gs ∧ Blk wr L 40 cs ∧ Below B w wr) (fun _ t _ => k - (intOf t).toNat)
          case atStart => exact ⟨0, gs, ow1, Nat.zero_le _, rfl, HGL.out, hown, hs2, hl2, hb2⟩
          case round =>
            obtain ⟨i, gs, ow1, hi, rfl, hgl, hown, hs2, hl2, hb2⟩ := hrel
            obtain ⟨w3, rfl⟩ : ∃ w3 : World, w3 = wr := ⟨_, rfl⟩
            by_cases hlt : i < k
            · have HK := Lib.hid hlt
              have HGL2 := Lib.hid hgl
              have hNi := HN.out i hlt
              have hrow := hs2.row hlt
              obtain ⟨Ai, ci, hvi, _⟩ := hs2.row hlt
              rw [hvi] at hrow
              have HV := Lib.hid hvi
              clear hvi hgl
              have hmk : ∀ W, (Instr.makeSlice 40 (.int .i64 40) (.int .i64 40)).run Try.prog W = .ok (.slice (some ⟨W.heap.size, 0, none⟩) 40 40) (W.alloc (.cells (mArr i (N i) 0) 5)) := fun W => by rw [mArr_zero]; exact mk_u8' 40 (by omega) W
              have hsM : S2 (w3.alloc (.cells (mArr i (N i) 0) 5)) (fun b => if b = w3.heap.size then k else ow1 b) B V N k gs :=
                hs2.step (fun b hb => if_neg (by omega)) (Kp.below ((Below.refl _ _).alloc (Nat.le_refl _) _))
              have HMo : Hid ((fun b => if b = w3.heap.size then k else ow1 b) w3.heap.size = k) := if_pos rfl
              generalize (fun b => if b = w3.heap.size then k else ow1 b) = ow2 at hsM HMo
              have hbM := Blk.new w3 5 (mArr i (N i) 0)
              have hb3 : Below B w (w3.alloc (.cells (mArr i (N i) 0) 5)) := hb2.alloc (by have := hb2.size; omega) _
              have hw3 := hb2.size
              go_wp2_with fail
              go_loopw [11] (fun j wr => ∃ (j' : Nat), j' ≤ 40 ∧ j = .int .i64 j' ∧ Blk wr w3.heap.size 5 (mArr i (N i) j') ∧ wr.ownsRow w.heap.size 40 1 u5 (k + i) gs ∧ S2 wr ow2 B V N k gs ∧ Blk wr L 40 cs ∧ Below B w wr) (fun j _ => 40 - (intOf j).toNat)
              case atStart => exact ⟨0, Nat.zero_le _, rfl, hbM, hown.alloc _, hsM, hl2.alloc _, hb3⟩
              case round =>
                obtain ⟨j, hj, rfl, hbm, hown3, hs3, hl3, hb4⟩ := hrel
                have hcl3 : wr.cell? ⟨L, i, none⟩ = some (.slice Ai (N i) ci) := by rw [hl3.cell, HCS.out i hlt, HV.out]
                by_cases hlj : j < 40
                · have hcm : wr.cell? ⟨w3.heap.size, j, none⟩ = some (.int .u8 0) := by rw [hbm.cell, mArr_get _ _ _ _ hlj, if_neg (by omega)]
                  have hfr := hbm.frozen j
                  have HMS := Lib.hid (mArr_put i (N i) j hlj)
                  go_wp2_with fail
                  refine (mark_any _ _ _ (by omega) (by omega) (by omega) (by omega)).mono ?_
                  rintro e w4 ⟨rfl, rfl⟩
                  rw [show ((N i : Int) + (j : Int)).toNat = N i + j from by omega, Int.toNat_natCast]
                  go_wp2_with fail
                  go_roundw
                  case rel =>
                    refine ⟨j + 1, by omega, by go_num, by rw [← HMS.out]; exact hbm.set_ _ _, Ko.own (Ko.setU8 hbm j _) hown3 (by decide), hs3.far (by omega) HMo, Ko.blk (Ko.setU8 hbm j _) hl3 (by decide), hb4.setCell (p := ⟨w3.heap.size, j, none⟩) (by show B ≤ w3.heap.size; omega) _⟩
                  case measure => simp [intOf]; omega
                · obtain rfl : j = 40 := by omega
                  have hsrc : ∀ x u, (mks i (N i) 40)[x]? = some u → wr.cell? ((⟨w3.heap.size, 0, none⟩ : Addr).add x) = some u := by
                    intro x u hu
                    have hx : x < 40 := by
                      rcases Nat.lt_or_ge x 40 with h | h
                      · exact h
                      · rw [List.getElem?_eq_none (by rw [mks_length]; exact h)] at hu; cases hu
                    have hadd : (⟨w3.heap.size, 0, none⟩ : Addr).add x = ⟨w3.heap.size, x, none⟩ := by unfold Addr.add; split <;> simp_all
                    rw [mks_get _ _ _ _ hx] at hu
                    rw [hadd, hbm.cell, mArr_get _ _ _ _ hx, if_pos hx, hu]
                  have HSRC := Lib.hid hsrc
                  have HRow := Lib.hid (hs3.row hlt)
                  clear hsrc
                  have hw4 := hb4.size
                  have hBw4 : B ≤ wr.heap.size := by omega
                  have hlen2 : ((k + i : Nat) : Int) + 1 ≤ 3000 := by omega
                  go_wp2_with (first
                    | (at_builtin; (refine wpList_append_mv rfl (.tmp 97) (.tmp 98) _ rfl i0 Try.underlying40 hi0 hz0 hz1 hz2 ow2 B i (N i) (N i) (.slice Ai (N i) ci) rfl (HV.out ▸ HRow.out) (Nat.le_refl _) ⟨w3.heap.size, 0, none⟩ 40 40 rfl (by omega) HSRC.out (by omega) hBw4 ?_); intro A5 c5 w5 ow5 hv5 how5 hkp5 hko5 hb5; have hrd := Reads.new1 w5 (.slice A5 (N i + 40) c5) 40; have ho5 := hko5.own hown3 (by decide); have hsz5 := hb5.size)
                    | (at_builtin; go_loud (refine wpList_append_any _ rfl (.tmp 93) (.tmp 100) _ rfl w.heap.size 40 i1 _ 1 24 Try.underlying27 hi1 hy0 hy1 hy2 rfl (by omega) u5 (k + i) _ rfl (ho5.alloc _) _ _ 1 1 [.slice A5 (N i + 40) c5] rfl hrd (by simp [Value.oneCell']) (by simp only [maxLen]; omega) (by omega) (by simp; omega) ?_); intro v6 w6 hown6 hg6 hat6))
                  have hkp6 : Kp ow5 (w5.alloc (.cells #[.slice A5 (N i + 40) c5] 40)) w6 := Kp.grown hg6 (own_not_u8 (ho5.alloc _) (by decide))
                  have hg7 := (hv5.alloc (.cells #[.slice A5 (N i + 40) c5] 40)).kept hkp6
                  have hs7 := ((hs3.step how5 hkp5).alloc (.cells #[.slice A5 (N i + 40) c5] 40)).kept hkp6
                  have HS7 := Lib.hid (hs7.snoc (v := .slice A5 (N i + 40) c5) (by rw [HGL2.out, Nat.add_mod_left, Nat.mod_eq_of_lt HK.out]; unfold gl; rw [if_neg (by omega), Nat.add_sub_cancel_left]; exact hg7))
                  have HL7 := Lib.hid (((hko5.blk hl3 (by decide)).alloc _).grown hg6 (own_ne_blk ho5 hL.lt))
                  have HB7 := Lib.hid (((hb4.trans hb5).alloc (by omega) _).grown hg6 (by simp; omega) (fun g hg => by have := (ho5.lt g hg).1; omega))
                  clear hkp6 hg7 hs7
                  go_roundw
                  case rel => exact ⟨i + 1, gs ++ [.slice A5 (N i + 40) c5], ow5, by have := HK.out; omega, by go_num, by rw [List.length_append, HGL2.out]; rfl, hown6, HS7.out, HL7.out, HB7.out⟩
                  case measure => simp [intOf]; have := HK.out; omega
            · obtain rfl : i = k := by omega
              have HGL2 := Lib.hid hgl
              clear hgl hlt hi hk1
              obtain ⟨g, cap, rfl, hgB, hgs⟩ := hown.form (by omega)
              have hlen2 : ((i + i : Nat) : Int) ≤ 2000 := by omega
              go_wp2_with fail
              go_loopw [12] (fun t wr => ∃ t' : Nat, t' ≤ i + i ∧ t = .int .i64 t' ∧ ∃ m, wr = w3.drewN m) (fun t _ => i + i - (intOf t).toNat)
              case atStart => exact ⟨0, Nat.zero_le _, rfl, 0, rfl⟩
              case round =>
                obtain ⟨t, ht, rfl, m, hwm⟩ := hrel
                have HW := Lib.hid hwm
                obtain ⟨w4, rfl⟩ : ∃ w4 : World, w4 = wr := ⟨_, rfl⟩
                by_cases hlt : t < i + i
                · have hgt : t < gs.length := by rw [HGL2.out]; exact hlt
                  obtain ⟨At, ct, hvt, _⟩ := hs2.2 t hgt
                  have hrow := hs2.2 t hgt
                  rw [hvt] at hrow
                  have hglb : gl N i t ≤ 140737488355040 := by
                    unfold gl; split
                    · have := HN.out t (by omega); omega
                    · have := HN.out (t - i) (by omega); omega
                  have hcg3 : w3.cell? ⟨g, t, none⟩ = some (.slice At (gl N i t) ct) := by
                    rw [hown.cellAt t (by omega), List.getElem?_eq_getElem hgt, hvt]
                  have HCG := Lib.hid hcg3
                  have HT := Lib.hid hvt
                  clear hvt hcg3 hwm
                  go_wp2_with fail
                  go_loopw [13] (fun j wr => ∃ j' : Nat, j' ≤ gl N i t ∧ j = .int .i64 j' ∧ ∃ m, wr = w3.drewN m) (fun j _ => gl N i t - (intOf j).toNat)
                  case atStart => exact ⟨0, Nat.zero_le _, rfl, m, HW.out⟩
                  case round =>
                    obtain ⟨j, hj, rfl, m2, hwm2⟩ := hrel
                    have hcg : wr.cell? ⟨g, t, none⟩ = some (.slice At (gl N i t) ct) := by rw [hwm2]; exact HCG.out
                    have HW2 := Lib.hid hwm2
                    by_cases hlj : j < gl N i t
                    · obtain ⟨b, c2, hv2, _, _, _, hcj⟩ := hrow.cell hlj
                      obtain ⟨rfl, rfl⟩ : At = some ⟨b, 0, none⟩ ∧ ct = c2 := by simpa using hv2
                      have hcj2 : wr.cell? ⟨b, j, none⟩ = some (.int .u8 ((mk (t % i) j).toNat : Int)) := by rw [hwm2]; exact hcj
                      clear hv2 hwm2 hcj
                      have hm0 : (0 : Int) ≤ (t : Int) % (i : Int) := Int.emod_nonneg _ (by omega)
                      have hm1 : (t : Int) % (i : Int) ≤ 1000 := by have := Int.emod_lt_of_pos (t : Int) (show (0 : Int) < (i : Int) by omega); omega
                      have hmq := fun W => mark_q ((t : Int) % (i : Int)) (j : Int) W hm0 (by omega) (by omega) (by omega)
                      have hmt : ((t : Int) % (i : Int)).toNat = t % i := by rw [← Int.natCast_emod]; rfl
                      rw [hmt, Int.toNat_natCast] at hmq
                      have HQ := Lib.hid hmq
                      have tne : (((mk (t % i) j).toNat : Int) != ((mk (t % i) j).toNat : Int)) = false := by simp
                      clear hmq hmt
                      go_wp2_with fail
                      go_quiet ((go_at_call 53; exact Calls.quiet_of_same (HQ.out _)))
                      go_wp2_with fail
                      go_roundw
                      case rel => exact ⟨j + 1, by omega, by go_num, m2 + nq, by rw [HW2.out, World.drewN_drewN]⟩
                      case measure => simp [intOf]; omega
                    · clear hwm2
                      go_wp2_with fail
                      go_roundw
                      case rel => exact ⟨t + 1, by omega, by go_num, m2, HW2.out⟩
                      case measure => simp [intOf]; omega
                · clear hwm
                  go_wp2_with fail
                  go_loopw [14] (fun t wr => ∃ t' : Nat, t' ≤ i ∧ t = .int .i64 t' ∧ ∃ m, wr = w3.drewN m) (fun t _ => i - (intOf t).toNat)
                  case atStart => exact ⟨0, Nat.zero_le _, rfl, m, HW.out⟩
                  case round =>
                    obtain ⟨t2, ht2, rfl, m2, hwm⟩ := hrel
                    have HW2 := Lib.hid hwm
                    obtain ⟨w5, rfl⟩ : ∃ w5 : World, w5 = wr := ⟨_, rfl⟩
                    by_cases hlt2 : t2 < i
                    · obtain ⟨At, ct, hvt, _⟩ := hs2.row hlt2
                      have hrow := hs2.row hlt2
                      have hNt := HN.out t2 hlt2
                      rw [hvt] at hrow
                      have hcg3 : w3.cell? ⟨L, t2, none⟩ = some (.slice At (N t2) ct) := by rw [hl2.cell, HCS.out t2 hlt2, hvt]
                      have HCG := Lib.hid hcg3
                      clear hvt hcg3 hwm
                      go_wp2_with fail
                      go_loopw [15] (fun j wr => ∃ j' : Nat, j' ≤ N t2 ∧ j = .int .i64 j' ∧ ∃ m, wr = w3.drewN m) (fun j _ => N t2 - (intOf j).toNat)
                      case atStart => exact ⟨0, Nat.zero_le _, rfl, m2, HW2.out⟩
                      case round =>
                        obtain ⟨j, hj, rfl, m3, hwm2⟩ := hrel
                        have hcg : wr.cell? ⟨L, t2, none⟩ = some (.slice At (N t2) ct) := by rw [hwm2]; exact HCG.out
                        have HW3 := Lib.hid hwm2
                        by_cases hlj : j < N t2
                        · obtain ⟨b, c2, hv2, _, _, _, hcj⟩ := hrow.cell hlj
                          obtain ⟨rfl, rfl⟩ : At = some ⟨b, 0, none⟩ ∧ ct = c2 := by simpa using hv2
                          have hcj2 : wr.cell? ⟨b, j, none⟩ = some (.int .u8 ((mk t2 j).toNat : Int)) := by rw [hwm2]; exact hcj
                          clear hv2 hwm2 hcj
                          have hmq := fun W => mark_q (t2 : Int) (j : Int) W (by omega) (by omega) (by omega) (by omega)
                          simp only [Int.toNat_natCast] at hmq
                          have HQ := Lib.hid hmq
                          have tne : (((mk t2 j).toNat : Int) != ((mk t2 j).toNat : Int)) = false := by simp
                          clear hmq
                          go_wp2_with fail
                          go_quiet ((go_at_call 53; exact Calls.quiet_of_same (HQ.out _)))
                          go_wp2_with fail
                          go_roundw
                          case rel => exact ⟨j + 1, by omega, by go_num, m3 + nq, by rw [HW3.out, World.drewN_drewN]⟩
                          case measure => simp [intOf]; omega
                        · clear hwm2
                          go_wp2_with fail
                          go_roundw
                          case rel => exact ⟨t2 + 1, by omega, by go_num, m3, HW3.out⟩
                          case measure => simp [intOf]; omega
                    · clear hwm
                      go_wp2_with fail
                      go_ret
                      exact ⟨rfl, by rw [HW2.out]; exact below_drewN hb2 _⟩

end Go.Proofs.Ytbldfgpnghoigaa

namespace Go.Proofs.Ytbldfgpnghoigaa
open Go.RowKit

/-- the list with forty marked bytes behind it -/
def spL (l : List UInt8) : List UInt8 := l ++ (List.range 40).map fun t => UInt8.ofNat (160 + (l.length + t) % 31)
theorem spL_length (l : List UInt8) : (spL l).length = l.length + 40 := by simp [spL]
theorem spL_lo (l : List UInt8) (j : Nat) (h : j < l.length) : (spL l)[j]? = some l[j] := by
  unfold spL; rw [List.getElem?_append_left h, List.getElem?_eq_getElem h]
theorem spL_hi (l : List UInt8) (j : Nat) (h : l.length ≤ j) (h2 : j < l.length + 40) : (spL l)[j]? = some (UInt8.ofNat (160 + j % 31)) := by
  unfold spL
  rw [List.getElem?_append_right h]
  simp only [List.getElem?_map]
  rw [List.getElem?_range (by omega)]
  simp only [Option.map_some]
  rw [show l.length + (j - l.length) = j from by omega]
theorem sp_nat (j : Nat) : (UInt8.ofNat (160 + j % 31)).toNat = 160 + j % 31 := by
  rw [UInt8.toNat_ofNat']; omega

/-- n zero cells -/
def zl (n : Nat) : List Value := List.replicate n (.int .u8 0)
/-- the cells of a spare copy in the making: the list, marks up to k, zeros -/
def spA (l : List UInt8) (k : Nat) : List Value := (List.range (l.length + 40)).map fun j => if j < k then bval ((spL l).getD j 0) else .int .u8 0
theorem spA_length (l : List UInt8) (k : Nat) : (spA l k).length = l.length + 40 := by simp [spA]
theorem spA_get (l : List UInt8) (k j : Nat) (h : j < l.length + 40) : (spA l k)[j]? = some (if j < k then bval ((spL l).getD j 0) else .int .u8 0) := by simp [spA, h]
theorem spA_start (l : List UInt8) : splice (zl (l.length + 40)) 0 (l.map bval) = spA l l.length := by
  apply List.ext_getElem?
  intro j
  unfold splice zl
  by_cases hj : j < l.length + 40
  · rw [spA_get _ _ _ hj]
    simp only [List.take_zero, List.nil_append, Nat.zero_add, List.length_map]
    by_cases hl : j < l.length
    · rw [List.getElem?_append_left (by simpa using hl), if_pos hl, List.getElem?_map, List.getElem?_eq_getElem hl, List.getD_eq_getElem?_getD, spL_lo _ _ hl]; rfl
    · rw [List.getElem?_append_right (by simp; omega), if_neg hl, List.getElem?_drop, List.getElem?_replicate, if_pos (by simp; omega)]
  · rw [List.getElem?_eq_none (by simp; omega), List.getElem?_eq_none (by rw [spA_length]; omega)]
theorem spA_put (l : List UInt8) (k : Nat) (h1 : l.length ≤ k) (h2 : k < l.length + 40) : (spA l k).toArray.setIfInBounds k (.int .u8 ((160 + k % 31 : Nat) : Int)) = (spA l (k + 1)).toArray := by
  apply Array.ext_getElem?
  intro j
  rw [Array.getElem?_setIfInBounds, List.getElem?_toArray, List.getElem?_toArray]
  by_cases hj : j < l.length + 40
  · rw [spA_get _ _ _ hj, spA_get _ _ _ hj]
    by_cases hkj : k = j
    · subst hkj
      rw [if_pos rfl, if_pos (by simp [spA_length]; omega), if_pos (by omega), List.getD_eq_getElem?_getD, spL_hi _ _ h1 h2]
      show some (Value.int _ _) = some (Value.int _ ((UInt8.ofNat (160 + k % 31)).toNat : Int))
      rw [sp_nat]
    · rw [if_neg hkj]
      have : (j < k ↔ j < k + 1) := by omega
      simp [this]
  · rw [if_neg (by omega), List.getElem?_eq_none (by rw [spA_length]; omega), List.getElem?_eq_none (by rw [spA_length]; omega)]
theorem spA_end (l : List UInt8) : spA l (l.length + 40) = (spL l).map bval := by
  apply List.ext_getElem?
  intro j
  by_cases hj : j < l.length + 40
  · rw [spA_get _ _ _ hj, if_pos hj, List.getElem?_map, List.getD_eq_getElem?_getD, List.getElem?_eq_getElem (by rw [spL_length]; exact hj)]; rfl
  · rw [List.getElem?_eq_none (by rw [spA_length]; omega), List.getElem?_eq_none (by rw [List.length_map, spL_length]; omega)]

/-- A spare copy of l in a new block. -/
def RetSpare (l : List UInt8) (w : World) (e : Ending) (w' : World) : Prop :=
  e = .returned (.tuple #[.slice (some ⟨w.heap.size, 0, none⟩) l.length (l.length + 40), .slice (some ⟨w.heap.size, 0, none⟩) (l.length + 40) (l.length + 40)]) ∧
    Blk w' w.heap.size 5 ((spL l).map bval).toArray ∧ Below w.heap.size w w'

set_option maxRecDepth 100000 in
set_option maxHeartbeats 1000000 in
theorem spare_any (A : Option Addr) (l : List UInt8) (c : Nat) (w : World) (hb : Bs w A l) (hl : l.length ≤ 140737488351232) :
    Calls Try.prog 21 #[.slice A l.length c] w (RetSpare l w) := by
  have hmk : ∀ W, (Instr.makeSlice 40 (.int .i64 ((l.length : Int) + 40)) (.int .i64 ((l.length : Int) + 40))).run Try.prog W = .ok (.slice (some ⟨W.heap.size, 0, none⟩) (l.length + 40) (l.length + 40)) (W.alloc (.cells (zl (l.length + 40)).toArray 5)) := fun W => by
    have := mk_u8' (l.length + 40) (by omega) W
    rw [show (zl (l.length + 40)).toArray = Array.replicate (l.length + 40) (.int .u8 0) from by unfold zl; rw [List.toArray_replicate]]
    exact this
  have hsz1 : (Try.prog.info? 5).map (·.size) = some 1 := by kernel_rfl
  have HSZ := Lib.hid hsz1
  clear hsz1
  obtain ⟨X, hX⟩ : ∃ X, X = l.map bval := ⟨_, rfl⟩
  have hXl : X.length = l.length := by rw [hX]; simp
  have hRd := (hb.alloc (.cells (zl (l.length + 40)).toArray 5)).1
  rw [← hX] at hRd
  have hX1 : ∀ v ∈ X, v.oneCell' = true := by rw [hX]; exact oneCell_bytes l
  have HX := Lib.hid hX
  have HXl := Lib.hid hXl
  have HX1 := Lib.hid hX1
  have HRd := Lib.hid hRd
  clear hX hXl hX1 hRd
  go_enter Try.func21, Try.ntmps21
  go_wp2_with (with_reducible refine wpList_copy_splice rfl (.tmp 10) (.tmp 11) 40 40 rfl 5 Try.underlying40 HSZ.out (some ⟨w.heap.size, 0, none⟩) A (l.length + 40) (l.length + 40) l.length c rfl rfl w.heap.size 0 (zl (l.length + 40)) 5 (heap_alloc_new w _) X ?c1 ?c2 ?c3 HX1.out w.heap.size w ((Below.refl _ _).alloc (Nat.le_refl _) _) (Nat.le_refl _) ?_)
  case c1 => rw [HXl.out]; exact (Nat.min_eq_left (by omega)).symm
  case c2 =>
    intro hp
    obtain ⟨ad, h1, _, h2⟩ := HRd.out.2 (by rw [← HXl.out]; exact hp)
    first | exact ⟨rfl, ad, h1, h2⟩ | exact ⟨ad, h1, h2⟩
  case c3 => rw [HXl.out]; simp [zl]
  intro w1 hg1 hb1
  have hblk : Blk w1 w.heap.size 5 (spA l l.length).toArray := by rw [← spA_start, ← HX.out]; exact hg1.out
  clear hg1
  go_wp2_with fail
  go_loopw [5] (fun i wr => ∃ k : Nat, l.length ≤ k ∧ k ≤ l.length + 40 ∧ i = .int .i64 k ∧ Blk wr w.heap.size 5 (spA l k).toArray ∧ Below w.heap.size w wr) (fun i _ => l.length + 40 - (intOf i).toNat)
  case atStart => exact ⟨l.length, Nat.le_refl _, by omega, rfl, hblk, hb1⟩
  case round =>
    obtain ⟨k, hk0, hk, rfl, hblk2, hb2⟩ := hrel
    by_cases hlt : k < l.length + 40
    · have hcl : wr.cell? ⟨w.heap.size, k, none⟩ = some (.int .u8 0) := by
        rw [hblk2.cell, List.getElem?_toArray, spA_get _ _ _ hlt, if_neg (by omega)]
      have hfr := hblk2.frozen k
      have HP := Lib.hid (spA_put l k hk0 hlt)
      have hix : (k : Int) < (l.length : Int) + 40 := by omega
      go_wp2_with fail
      go_roundw
      case rel => exact ⟨k + 1, by omega, by omega, by go_num, by rw [← HP.out]; exact hblk2.set_ _ _, hb2.setCell (Nat.le_refl _) _⟩
      case measure => simp [intOf]; omega
    · obtain rfl : k = l.length + 40 := by omega
      have hE := spA_end l
      rw [hE] at hblk2
      have hge : ¬ (((l.length + 40 : Nat) : Int) < (l.length : Int) + 40) := by omega
      clear hE
      go_wp2_with fail
      go_ret2
      exact ⟨rfl, hblk2, hb2⟩

set_option maxRecDepth 100000 in
set_option maxHeartbeats 1000000 in
theorem kept_any (A B : Option Addr) (l : List UInt8) (c d : Nat) (w : World) (hf : Bs w A (spL l)) (hb : Bs w B l) :
    Calls Try.prog 22 #[.slice A (l.length + 40) c, .slice B l.length d] w (Quietly (.bool true) w) := by
  have hl := hb.le
  have hsl := spL_length l
  have HSL := Lib.hid hsl
  clear hsl
  have t0 : (((l.length + 40 : Nat) : Int) != (l.length : Int) + 40) = false := by rw [bne_eq_false_iff_eq]; omega
  have t0' : ((l.length : Int) + 40 != (l.length : Int) + 40) = false := by simp
  go_enter Try.func22, Try.ntmps22
  go_wp2_with fail
  go_loopw [5] (fun i wr => ∃ k : Nat, k ≤ l.length + 40 ∧ i = .int .i64 k ∧ ∃ n, wr = w.drewN n) (fun i _ => l.length + 40 - (intOf i).toNat)
  case atStart => exact ⟨0, Nat.zero_le _, rfl, 0, rfl⟩
  case round =>
    obtain ⟨k, hk, rfl, n, hwn⟩ := hrel
    have HW := Lib.hid hwn
    by_cases hlt : k < l.length + 40
    · have hks : k < (spL l).length := by rw [HSL.out]; exact hlt
      obtain ⟨ad, rfl, _, hc1⟩ := hf.at_ hks
      have hc2 : wr.cell? (ad.add k) = some (.int .u8 ((spL l)[k].toNat : Int)) := by rw [hwn]; exact hc1
      have hix : (k : Int) < (l.length : Int) + 40 := by omega
      by_cases hlo : k < l.length
      · obtain ⟨bd, rfl, _, hc3⟩ := hb.at_ hlo
        have hc4 : wr.cell? (bd.add k) = some (.int .u8 (l[k].toNat : Int)) := by rw [hwn]; exact hc3
        have e : (spL l)[k] = l[k] := by
          have := spL_lo l k hlo
          rw [List.getElem?_eq_getElem hks] at this
          exact Option.some.inj this
        rw [e] at hc2
        have t1 : ((l[k].toNat : Int) != (l[k].toNat : Int)) = false := by simp
        have hd1 : decide (l.length ≤ k) = false := by simp; omega
        have hd2 : decide (k < l.length) = true := by simp; omega
        clear hc1 hc3 hwn e
        go_wp2_with fail
        go_quiet (fail)
        go_wp2_with fail
        go_roundw
        case rel => exact ⟨k + 1, by omega, by go_num, n + nq, by rw [HW.out, World.drewN_drewN]⟩
        case measure => simp [intOf]; omega
      · have e : (spL l)[k] = UInt8.ofNat (160 + k % 31) := by
          have := spL_hi l k (by omega) hlt
          rw [List.getElem?_eq_getElem hks] at this
          exact Option.some.inj this
        rw [e, sp_nat] at hc2
        have t1 : (((160 + k % 31 : Nat) : Int) != 160 + (k : Int) % 31) = false := by rw [bne_eq_false_iff_eq]; omega
        have t2 : (160 + (k : Int) % 31 != 160 + (k : Int) % 31) = false := by simp
        have hd1 : decide (l.length ≤ k) = true := by simp; omega
        have hd2 : decide (k < l.length) = false := by simp; omega
        clear hc1 hwn e
        go_wp2_with fail
        go_quiet (fail)
        go_wp2_with fail
        go_roundw
        case rel => exact ⟨k + 1, by omega, by go_num, n + nq, by rw [HW.out, World.drewN_drewN]⟩
        case measure => simp [intOf]; omega
    · clear hwn
      have hge : ¬ ((k : Int) < (l.length : Int) + 40) := by omega
      go_wp2_with fail
      go_ret
      exact ⟨rfl, n, HW.out⟩

end Go.Proofs.Ytbldfgpnghoigaa
