/- Apart once more: which blocks it leaves as they are is a set. (Printed by wip/gen_app.py.) -/
import Derived.Test.YtbldfgpnghoigaaSpareA
import Derived.Test.YtbldfgpnghoigaaBlP
namespace Go.Proofs.Ytbldfgpnghoigaa
open Go.RowKit
section
variable {B : Nat → Prop} {a b c : World}
theorem BlP.setRow (h : BlP B a b) {g : Nat} (hp : ¬ B g) (cs : Array Value) : BlP B a (b.setRow g cs) := by
  have hs := below_setRow (B := g) (Below.refl g b) (Nat.le_refl g) cs
  exact h.trans ⟨hs.os, hs.tape, hs.output, hs.size, fun k _ h2 => setRow_other b g k cs (fun e => hp (e ▸ h2))⟩
end

theorem apart_sep (b b0 : Nat) (w : World) (A : Option Addr) (c : Nat) (rs : List R3) (h : RowsIs b w A c rs) (hs : Sep b0 w rs) (h0 : 0 < rs.length) (hl : rs.length ≤ 1000) (hn : ∀ r ∈ rs, r.2.1.length ≤ 140737488355000) (hb : b0 ≤ w.heap.size) :
    Calls Try.prog 24 #[.slice A rs.length c] w fun e w' => e = .returned (.bool true) ∧ Below b0 w w' := by
  obtain ⟨hlen, hcase⟩ := h
  rcases hcase with ⟨_, h1⟩ | ⟨g, cap, cur, hv, hbg, hcur, h2, h3, h4, h5⟩
  · omega
  injection hv with hA hn2 hc
  subst hA hc
  refine apart_any g rs.length c b0 cur (fun i => R3.v (rs.getD i (none, [], 0))) (fun i => (rs.getD i (none, [], 0)).2.1.length) (owOf rs) w hcur (fun i hi => ?_) (by omega) h0 (fun i hi => ?_) (fun i hi => ?_) hb
  · have h6 : (cur.toList.take (rs.length * 1))[i]? = (rs.map R3.v)[i]? := by rw [h5]
    rw [List.getElem?_take_of_lt (by omega), Array.getElem?_toList, List.getElem?_map, List.getElem?_eq_getElem hi] at h6
    rw [h6, List.getD_eq_getElem?_getD, List.getElem?_eq_getElem hi]
    rfl
  · have h6 : rs.getD i (none, [], 0) = rs[i] := by rw [List.getD_eq_getElem?_getD, List.getElem?_eq_getElem hi]; rfl
    show MV w (owOf rs) b0 i (R3.v (rs.getD i (none, [], 0))) (rs.getD i (none, [], 0)).2.1.length 0
    rw [h6]
    exact MV.of_own (hs.1 rs[i] (List.getElem_mem hi)) fun b he => owOf_eq hs hi he
  · have h6 : rs.getD i (none, [], 0) = rs[i] := by rw [List.getD_eq_getElem?_getD, List.getElem?_eq_getElem hi]; rfl
    show (rs.getD i (none, [], 0)).2.1.length ≤ _
    rw [h6]
    exact hn _ (List.getElem_mem hi)
theorem bs_spare {w : World} {g : Nat} {l : List UInt8} (h : Blk w g 5 ((spL l).map bval).toArray) (hl : l.length ≤ 140737488351232) : Bs w (some ⟨g, 0, none⟩) l := by
  refine ⟨⟨by simp, fun _ => ⟨_, rfl, h.lt, fun j u hu => ?_⟩⟩, by omega⟩
  rw [add_row, h.cell, List.getElem?_toArray, List.getElem?_map]
  have hj : j < l.length := by
    have := (List.getElem?_eq_some_iff.1 hu).1
    rwa [List.length_map] at this
  rw [List.getElem?_map] at hu
  rw [spL_lo l j hj, ← hu, List.getElem?_eq_getElem hj]
def MVp (w : World) (ow : Nat → Nat) (B : Nat → Prop) (i : Nat) (v : Value) (n m : Nat) : Prop :=
  ∃ A c, v = .slice A n c ∧ n ≤ c ∧ ((A = none ∧ c = 0 ∧ m = 0) ∨ ∃ b, A = some ⟨b, 0, none⟩ ∧ ¬ B b ∧ ow b = i ∧ MB w b c i m)
theorem MVp.kept {w w' : World} {ow : Nat → Nat} {B : Nat → Prop} {i n m : Nat} {v : Value} (h : MVp w ow B i v n m) (hk : Kp ow w w') : MVp w' ow B i v n m := by
  obtain ⟨A, c, hv, hn, h⟩ := h
  refine ⟨A, c, hv, hn, ?_⟩
  rcases h with h | ⟨b, h1, h2, h3, h4⟩
  · exact .inl h
  · exact .inr ⟨b, h1, h2, h3, hk _ _ _ _ h3 h4⟩
theorem MVp.same {w : World} {ow ow' : Nat → Nat} {B : Nat → Prop} {i n m : Nat} {v : Value} (h : MVp w ow B i v n m) (ho : ∀ b, b < w.heap.size → ow' b = ow b) : MVp w ow' B i v n m := by
  obtain ⟨A, c, hv, hn, h⟩ := h
  refine ⟨A, c, hv, hn, ?_⟩
  rcases h with h | ⟨b, h1, h2, h3, h4⟩
  · exact .inl h
  · exact .inr ⟨b, h1, h2, (ho b h4.lt).trans h3, h4⟩
theorem MVp.cell {w : World} {ow : Nat → Nat} {B : Nat → Prop} {i n m : Nat} {v : Value} (h : MVp w ow B i v n m) {j : Nat} (hj : j < m) :
    ∃ b c, v = .slice (some ⟨b, 0, none⟩) n c ∧ m ≤ c ∧ ¬ B b ∧ ow b = i ∧ w.cell? ⟨b, j, none⟩ = some (.int .u8 ((mk i j).toNat : Int)) := by
  obtain ⟨A, c, hv, hn, h⟩ := h
  rcases h with ⟨_, _, rfl⟩ | ⟨b, rfl, h2, h3, cur, hc, hs, _, hmc, hj'⟩
  · omega
  · exact ⟨b, c, hv, hmc, h2, h3, by rw [cell_of_row w b j cur _ _ hc]; exact hj' j hj⟩
theorem MVp.put {w : World} {ow : Nat → Nat} {B : Nat → Prop} {i n j : Nat} {v : Value} (h : MVp w ow B i v n j) (hj : j < n) :
    ∃ b c, v = .slice (some ⟨b, 0, none⟩) n c ∧ ¬ B b ∧ (∃ u, w.cell? ⟨b, j, none⟩ = some u) ∧ w.frozen? ⟨b, j, none⟩ = false ∧
      MVp (w.setCell ⟨b, j, none⟩ (.int .u8 ((mk i j).toNat : Int))) ow B i v n (j + 1) ∧ Kp ow w (w.setCell ⟨b, j, none⟩ (.int .u8 ((mk i j).toNat : Int))) ∧ Ko w (w.setCell ⟨b, j, none⟩ (.int .u8 ((mk i j).toNat : Int))) := by
  obtain ⟨A, c, hv, hn, h⟩ := h
  rcases h with ⟨rfl, rfl, _⟩ | ⟨b, rfl, h2, h3, cur, hc, hs, hmx, hmc, hj'⟩
  · omega
  have hjs : j < cur.size := by omega
  have hset : (w.setCell ⟨b, j, none⟩ (.int .u8 ((mk i j).toNat : Int))).heap[b]? = some (.cells (cur.setIfInBounds j (.int .u8 ((mk i j).toNat : Int))) 5 (0, 0)) := heap_setCell_same w b j cur _ _ hc
  refine ⟨b, c, hv, h2, ⟨cur[j], by rw [cell_of_row w b j cur _ _ hc, Array.getElem?_eq_getElem hjs]⟩, frozen_of_row w b j cur _ hc, ⟨_, c, hv, hn, .inr ⟨b, rfl, h2, h3, _, hset, by simpa using hs, hmx, by omega, fun k hk => ?_⟩⟩, fun b' cap' i' m' ho hm => ?_, fun b' t cs ht hb => ?_⟩
  · rw [Array.getElem?_setIfInBounds]
    by_cases hjk : j = k
    · subst hjk; simp [hjs]
    · rw [if_neg hjk]; exact hj' k (by omega)
  · by_cases hbb : b' = b
    · subst hbb
      obtain ⟨cur', h1, h2', h3', h4', h5'⟩ := hm
      rw [hc] at h1
      injection h1 with h1
      injection h1 with h1
      subst h1
      have hii : i' = i := by rw [← ho, h3]
      subst hii
      refine ⟨_, hset, by simpa using h2', h3', h4', fun k hk => ?_⟩
      rw [Array.getElem?_setIfInBounds]
      by_cases hjk : j = k
      · subst hjk; simp [hjs]
      · rw [if_neg hjk]; exact h5' k hk
    · obtain ⟨cur', h1, rest⟩ := hm
      exact ⟨cur', (heap_setCell_other w ⟨b, j, none⟩ b' _ hbb).trans h1, rest⟩
  · have hbb : b' ≠ b := by
      rintro rfl
      rw [hc] at hb
      injection hb with hb
      injection hb with _ hb
      exact ht hb.symm
    exact (heap_setCell_other w ⟨b, j, none⟩ b' _ hbb).trans hb
theorem MVp.of_own {w : World} {ow : Nat → Nat} {base : Nat} {B : Nat → Prop} {i n : Nat} {v : Value} {xs : List Value} (h : w.ownsRow base 5 1 v n xs) (ho : ∀ b, v.ownBlock = some b → ow b = i) (hB : ∀ b, v.ownBlock = some b → ¬ B b) : MVp w ow B i v n 0 := by
  rcases h.2 with ⟨rfl, rfl⟩ | ⟨g, cap, cur, rfl, hb, hg, hn, hm, hs, _⟩
  · exact ⟨none, 0, rfl, Nat.le_refl _, .inl ⟨rfl, rfl, rfl⟩⟩
  · exact ⟨_, cap, rfl, hn, .inr ⟨g, rfl, hB g rfl, ho g rfl, cur, hg, by simpa using hs, hm, Nat.zero_le _, fun j hj => absurd hj (by omega)⟩⟩
theorem run_append_mvp {P : Program} (w : World) (t ty : TypeId) (i0 : TypeInfo) (ht : P.underlying t = some (.slice 5)) (hi : P.info? 5 = some i0) (hz : i0.zero = some (.int .u8 0)) (hsize : i0.size = 1) (hby : i0.bytes = 1)
    (ow : Nat → Nat) (B : Nat → Prop) (i n m : Nat) (v : Value) (hv : MVp w ow B i v n m) (hnm : n ≤ m) (a : Addr) (s c : Nat) (hs0 : 0 < s) (hsrc : ∀ j u, (mks i n s)[j]? = some u → w.cell? (a.add j) = some u)
    (h63 : n + s ≤ 140737488355328) (hB : ∀ k, B k → k < w.heap.size) :
    ∃ v' w' ow', (Builtin.append_ #[t, t] ty #[v, .slice (some a) s c]).run P w = .ok v' w' ∧ MVp w' ow' B i v' (n + s) (n + s) ∧ (∀ b, b < w.heap.size → ow' b = ow b) ∧ Kp ow w w' ∧ Ko w w' ∧ BlP B w w' := by
  obtain ⟨A, c', rfl, hn, h⟩ := hv
  have hmx : n + s ≤ maxLen := by simp only [maxLen]; omega
  have hnews : (mks i n s).length = s * i0.size := by rw [hsize, mks_length]; omega
  -- a new block
  have grow : ∀ (w' : World) (v' : Value), w'.ownsRow w.heap.size 5 1 v' (n + s) ((mks i 0 n) ++ (mks i n s)) → w.grownBy w' none →
      ∃ ow', MVp w' ow' B i v' (n + s) (n + s) ∧ (∀ b, b < w.heap.size → ow' b = ow b) ∧ Kp ow w w' ∧ Ko w w' ∧ BlP B w w' := by
    intro w' v' ho hg
    have hbel : Below w.heap.size w w' := ⟨hg.os, hg.tape, hg.output, hg.size, fun k hk => hg.block k hk (by simp)⟩
    obtain ⟨g, cap, hv', hg1, hg2⟩ := ho.form (by omega)
    subst hv'
    refine ⟨fun b => if b = g then i else ow b, ⟨_, cap, rfl, ?_⟩, fun b hb => by simp only []; rw [if_neg (by omega)], Kp.below hbel, Ko.below hbel, BlP.of_below hbel⟩
    rcases ho.2 with ⟨h0, _⟩ | ⟨g', cap', cur, h0, _, hh, hn', hm', hsz, htk⟩
    · simp at h0
    · simp only [Value.slice.injEq, Option.some.injEq, Addr.mk.injEq, and_true, true_and] at h0
      obtain ⟨rfl, rfl⟩ := h0
      refine ⟨hn', .inr ⟨g, rfl, fun h => (by have := hB g h; omega), by simp, cur, hh, by simpa using hsz, hm', hn', fun j hj => ?_⟩⟩
      have hcj : cur[j]? = ((mks i 0 n) ++ (mks i n s))[j]? := by
        rw [← htk, List.getElem?_take, if_pos (by omega)]; simp
      rw [hcj]
      by_cases hjn : j < n
      · rw [List.getElem?_append_left (by rw [mks_length]; exact hjn), mks_get _ _ _ _ hjn, Nat.zero_add]
      · rw [List.getElem?_append_right (by rw [mks_length]; omega), mks_length, mks_get _ _ _ _ (by omega), show n + (j - n) = j from by omega]
  rcases h with ⟨rfl, rfl, rfl⟩ | ⟨b, rfl, h2, h3, hmb⟩
  · obtain rfl : n = 0 := by omega
    obtain ⟨v', w', hr, ho, hg, _⟩ := run_append_own (P := P) w w.heap.size t ty 5 i0 (.int .u8 0) 1 1 ht hi hz hsize hby rfl (by omega) (.slice none 0 0) 0 [] (World.ownsRow_nil _ _ _ _) a s c (mks i 0 s) (by rw [mks_length, Nat.mul_one]) hsrc (mks_one _ _ _) hmx (by omega) (Nat.le_refl _)
    obtain ⟨ow', h1, h2, h3, h4, h5⟩ := grow w' v' (by simpa [mks] using ho) (by simpa [Value.ownBlock] using hg)
    exact ⟨v', w', ow', hr, h1, h2, h3, h4, h5⟩
  · obtain ⟨cur, hc, hsz, hmx', hmc, hj'⟩ := hmb
    by_cases hroom : n + s ≤ c'
    · have hfit : n * i0.size + (mks i n s).length ≤ cur.size := by rw [hsize, mks_length]; omega
      have hr := run_append_room (P := P) w t ty 5 i0 ht hi b n c' cur hc a s c (mks i n s) hnews hsrc (mks_one _ _ _) hroom hfit
      rw [hsize, Nat.mul_one, mks_length] at hr
      let cs := (cur.toList.take n ++ mks i n s ++ cur.toList.drop (n + s)).toArray
      have hset : (w.setRow b cs).heap[b]? = some (.cells cs 5 (0, 0)) := setRow_heap w b cur _ _ _ hc
      have hcss : cs.size = cur.size := by simp [cs, mks_length]; omega
      have hget : ∀ k, cs[k]? = if k < n then cur[k]? else if k < n + s then some (bval (mk i k)) else cur[k]? := by
        intro k
        simp only [cs, List.getElem?_toArray]
        by_cases h1 : k < n
        · rw [if_pos h1, List.append_assoc, List.getElem?_append_left (by simp; omega), List.getElem?_take, if_pos h1]; simp
        · rw [if_neg h1]
          by_cases h2 : k < n + s
          · rw [if_pos h2, List.getElem?_append_left (by simp [mks_length]; omega), List.getElem?_append_right (by simp; omega)]
            rw [show k - (List.take n cur.toList).length = k - n from by simp; omega, mks_get _ _ _ _ (by omega), show n + (k - n) = k from by omega]
          · rw [if_neg h2, List.getElem?_append_right (by simp [mks_length]; omega), List.getElem?_drop]
            rw [show n + s + (k - (List.take n cur.toList ++ mks i n s).length) = k from by simp [mks_length]; omega]
            simp
      refine ⟨_, _, ow, hr, ⟨_, c', rfl, hroom, .inr ⟨b, rfl, h2, h3, cs, hset, by omega, hmx', hroom, fun k hk => ?_⟩⟩, fun _ _ => rfl, fun b' cap' i' m' ho hm => ?_, fun b' t' cs' ht' hb' => ?_, BlP.setRow (BlP.refl _ _) h2 _⟩
      · rw [hget]
        by_cases h1 : k < n
        · rw [if_pos h1]; exact hj' k (by omega)
        · rw [if_neg h1, if_pos hk]
      · by_cases hbb : b' = b
        · subst hbb
          obtain ⟨cur', h1, h2', h3', h4', h5'⟩ := hm
          rw [hc] at h1
          injection h1 with h1
          injection h1 with h1
          subst h1
          have hii : i' = i := by rw [← ho, h3]
          subst hii
          refine ⟨cs, hset, by omega, h3', h4', fun k hk => ?_⟩
          rw [hget]
          by_cases h1 : k < n
          · rw [if_pos h1]; exact h5' k hk
          · rw [if_neg h1]
            by_cases h2 : k < n + s
            · rw [if_pos h2]
            · rw [if_neg h2]; exact h5' k hk
        · obtain ⟨cur', h1, rest⟩ := hm
          exact ⟨cur', (setRow_other w b b' _ hbb).trans h1, rest⟩
      · have hbb : b' ≠ b := by
          rintro rfl
          rw [hc] at hb'
          injection hb' with hb'
          injection hb' with _ hb'
          exact ht' hb'.symm
        exact (setRow_other w b b' _ hbb).trans hb'
    · have holds : ∀ j u, (mks i 0 n)[j]? = some u → w.cell? ((⟨b, 0, none⟩ : Addr).add j) = some u := by
        intro j u hu
        have hjn : j < n := by
          rcases Nat.lt_or_ge j n with h | h
          · exact h
          · rw [List.getElem?_eq_none (by rw [mks_length]; exact h)] at hu; cases hu
        rw [mks_get _ _ _ _ hjn, Nat.zero_add] at hu
        have hadd : (⟨b, 0, none⟩ : Addr).add j = ⟨b, j, none⟩ := by unfold Addr.add; split <;> simp_all
        rw [hadd, cell_of_row w b j cur _ _ hc, ← hu]
        exact hj' j (by omega)
      obtain ⟨v', w', hr, ho, hg⟩ := run_append_arg_grows (P := P) w t ty 5 i0 (.int .u8 0) 1 1 ht hi hz hsize hby rfl (by omega) ⟨b, 0, none⟩ n c' (mks i 0 n) (by rw [mks_length, Nat.mul_one]) holds a s c (mks i n s) (by rw [mks_length, Nat.mul_one]) hsrc (by omega) hmx (by omega)
      obtain ⟨ow', h1, h2, h3, h4, h5⟩ := grow w' v' ho hg
      exact ⟨v', w', ow', hr, h1, h2, h3, h4, h5⟩
theorem wpList_append_mvp {P : Program} {w : World} {ops : Array Oper} {rest : List Oper} {o : Oper} {a : Act} {Q : Exit → Act → World → Prop} (hgd : o.guard = none) (sx x : Operand) (t : TypeId)
    (hop : o.op = .call { callee := .builtin .append, args := #[sx, x], argTypes := #[t, t] })
    (i0 : TypeInfo) (ht : P.underlying t = some (.slice 5)) (hi : P.info? 5 = some i0) (hz : i0.zero = some (.int .u8 0)) (hsize : i0.size = 1) (hby : i0.bytes = 1)
    (ow : Nat → Nat) (B : Nat → Prop) (i n m : Nat) (v : Value) (hvs : a.eval sx = v) (hv : MVp w ow B i v n m) (hnm : n ≤ m) (ad : Addr) (s c : Nat) (hx : a.eval x = .slice (some ad) s c) (hs0 : 0 < s) (hsrc : ∀ j u, (mks i n s)[j]? = some u → w.cell? (ad.add j) = some u)
    (h63 : n + s ≤ 140737488355328) (hB : ∀ k, B k → k < w.heap.size)
    (h : ∀ A' c' w' ow', MVp w' ow' B i (.slice A' (n + s) c') (n + s) (n + s) → (∀ b, b < w.heap.size → ow' b = ow b) → Kp ow w w' → Ko w w' → BlP B w w' → wpList P ops Q rest (a.put o.dst (.slice A' (n + s) c')) w') : wpList P ops Q (o :: rest) a w := by
  obtain ⟨v', w', ow', hrun, h1, h2, h3, h4, h5⟩ := run_append_mvp (P := P) w t o.type i0 ht hi hz hsize hby ow B i n m v hv hnm ad s c hs0 hsrc h63 hB
  obtain ⟨A', c', rfl, hr⟩ := h1
  refine wpList_plain hgd fun _ hK => ?_
  unfold Oper.wp execOp
  simp only [hop, resolve, invoke, builtin, Sem.run_bind, Sem.run_pure, Result.andThen_ok, List.map_toArray, List.map_cons, List.map_nil, hvs, hx, hrun]
  exact hK _ _ (h A' c' w' ow' ⟨A', c', rfl, hr⟩ h2 h3 h4 h5)
def S1p (w : World) (ow : Nat → Nat) (B : Nat → Prop) (V : Nat → Value) (N : Nat → Nat) (n i j : Nat) : Prop :=
  ∀ t, t < n → MVp w ow B t (V t) (N t) (if t < i then N t else if t = i then j else 0)
theorem S1p.at_ {w : World} {ow : Nat → Nat} {B : Nat → Prop} {V : Nat → Value} {N : Nat → Nat} {n i j : Nat} (h : S1p w ow B V N n i j) (hi : i < n) : MVp w ow B i (V i) (N i) j := by
  have := h i hi
  rwa [if_neg (by omega), if_pos rfl] at this
theorem S1p.next {w : World} {ow : Nat → Nat} {B : Nat → Prop} {V : Nat → Value} {N : Nat → Nat} {n i : Nat} (h : S1p w ow B V N n i (N i)) : S1p w ow B V N n (i + 1) 0 := by
  intro t ht
  have := h t ht
  by_cases h1 : t < i
  · rw [if_pos h1] at this; rwa [if_pos (by omega)]
  · rw [if_neg h1] at this
    by_cases h2 : t = i
    · subst h2; rw [if_pos rfl] at this; rwa [if_pos (by omega)]
    · rw [if_neg h2] at this; rw [if_neg (by omega)]; split <;> exact this
theorem S1p.put {w w' : World} {ow : Nat → Nat} {B : Nat → Prop} {V : Nat → Value} {N : Nat → Nat} {n i j : Nat} (h : S1p w ow B V N n i j) (hk : Kp ow w w') (hi : MVp w' ow B i (V i) (N i) (j + 1)) : S1p w' ow B V N n i (j + 1) := by
  intro t ht
  by_cases h2 : t = i
  · subst h2; rwa [if_neg (by omega), if_pos rfl]
  · have := (h t ht).kept hk
    rw [if_neg h2] at this ⊢
    exact this
theorem S1p.step {w w' : World} {ow ow' : Nat → Nat} {B : Nat → Prop} {V : Nat → Value} {N : Nat → Nat} {n i j : Nat} (h : S1p w ow B V N n i j) (ho : ∀ b, b < w.heap.size → ow' b = ow b) (hk : Kp ow w w') : S1p w' ow' B V N n i j :=
  fun t ht => ((h t ht).same ho).kept (hk.same ho)
def S2p (w : World) (ow : Nat → Nat) (B : Nat → Prop) (V : Nat → Value) (N : Nat → Nat) (n : Nat) (gs : List Value) : Prop :=
  S1p w ow B V N n n 0 ∧ ∀ t (h : t < gs.length), MVp w ow B (t % n) gs[t] (gl N n t) (gl N n t)
theorem S2p.step {w w' : World} {ow ow' : Nat → Nat} {B : Nat → Prop} {V : Nat → Value} {N : Nat → Nat} {n : Nat} {gs : List Value} (h : S2p w ow B V N n gs) (ho : ∀ b, b < w.heap.size → ow' b = ow b) (hk : Kp ow w w') : S2p w' ow' B V N n gs :=
  ⟨h.1.step ho hk, fun t ht => ((h.2 t ht).same ho).kept (hk.same ho)⟩
theorem S2p.kept {w w' : World} {ow : Nat → Nat} {B : Nat → Prop} {V : Nat → Value} {N : Nat → Nat} {n : Nat} {gs : List Value} (h : S2p w ow B V N n gs) (hk : Kp ow w w') : S2p w' ow B V N n gs := h.step (fun _ _ => rfl) hk
theorem S2p.alloc {w : World} {ow : Nat → Nat} {B : Nat → Prop} {V : Nat → Value} {N : Nat → Nat} {n : Nat} {gs : List Value} (h : S2p w ow B V N n gs) (o : Obj) : S2p (w.alloc o) ow B V N n gs := h.kept (Kp.below ((Below.refl _ _).alloc (Nat.le_refl _) _))
theorem MVp.alloc {w : World} {ow : Nat → Nat} {B : Nat → Prop} {i n m : Nat} {v : Value} (h : MVp w ow B i v n m) (o : Obj) : MVp (w.alloc o) ow B i v n m := h.kept (Kp.below ((Below.refl _ _).alloc (Nat.le_refl _) _))
theorem S2p.row {w : World} {ow : Nat → Nat} {B : Nat → Prop} {V : Nat → Value} {N : Nat → Nat} {n : Nat} {gs : List Value} (h : S2p w ow B V N n gs) {i : Nat} (hi : i < n) : MVp w ow B i (V i) (N i) (N i) := by
  have := h.1 i hi
  rwa [if_pos hi] at this
theorem S2p.snoc {w : World} {ow : Nat → Nat} {B : Nat → Prop} {V : Nat → Value} {N : Nat → Nat} {n : Nat} {gs : List Value} {v : Value} (h : S2p w ow B V N n gs) (hv : MVp w ow B (gs.length % n) v (gl N n gs.length) (gl N n gs.length)) : S2p w ow B V N n (gs ++ [v]) := by
  refine ⟨h.1, fun t ht => ?_⟩
  by_cases hlt : t < gs.length
  · rw [List.getElem_append_left hlt]; exact h.2 t hlt
  · have e : t = gs.length := by simp at ht; omega
    subst e
    simpa using hv
theorem MVp.far {w : World} {ow : Nat → Nat} {B : Nat → Prop} {i n m M j : Nat} {v u : Value} (h : MVp w ow B i v n m) (hM : ow M ≠ i) : MVp (w.setCell ⟨M, j, none⟩ u) ow B i v n m := by
  obtain ⟨A, c, hv, hn, h⟩ := h
  refine ⟨A, c, hv, hn, ?_⟩
  rcases h with h | ⟨b, h1, h2, h3, h4⟩
  · exact .inl h
  · exact .inr ⟨b, h1, h2, h3, mb_far h4 (fun e => hM (e ▸ h3))⟩
theorem S2p.far {w : World} {ow : Nat → Nat} {B : Nat → Prop} {V : Nat → Value} {N : Nat → Nat} {n M j : Nat} {gs : List Value} {u : Value} (h : S2p w ow B V N n gs) (hn : 0 < n) (hM : ow M = n) : S2p (w.setCell ⟨M, j, none⟩ u) ow B V N n gs :=
  ⟨fun t ht => (h.1 t ht).far (by omega), fun t ht => (h.2 t ht).far (by have := Nat.mod_lt t hn; omega)⟩

set_option maxRecDepth 100000 in
set_option maxHeartbeats 4000000 in
theorem apartP_any (L n c : Nat) (B : Nat → Prop) (cs : Array Value) (V : Nat → Value) (N : Nat → Nat) (ow : Nat → Nat) (w : World) (hL : Blk w L 40 cs) (hcs : ∀ i, i < n → cs[i]? = some (V i)) (hn1 : (n : Int) ≤ 1000)
    (hn0 : 0 < n) (hV : ∀ i, i < n → MVp w ow B i (V i) (N i) 0) (hN : ∀ i, i < n → N i ≤ 140737488355000) (hB : ∀ k, B k → k < w.heap.size) :
    Calls Try.prog 24 #[.slice (some ⟨L, 0, none⟩) n c] w fun e w' => e = .returned (.bool true) ∧ BlP B w w' := by
  have HCS := Lib.hid hcs
  have HN := Lib.hid hN
  have h0 : S1p w ow B V N n 0 0 := fun t ht => by have := hV t ht; split <;> (try split) <;> first | omega | exact this
  clear hcs hN hV
  obtain ⟨i0, hi0, hz0, hz1, hz2⟩ := info_parts Try.infoU8
  obtain ⟨i1, hi1, hy0, hy1, hy2⟩ := info_parts Try.infoBs
  go_enter Try.func24, Try.ntmps24
  go_wp2_with fail
  go_loopw [3] (fun i wr => ∃ k : Nat, k ≤ n ∧ i = .int .i64 k ∧ S1p wr ow B V N n k 0 ∧ Blk wr L 40 cs ∧ BlP B w wr) (fun i _ => n - (intOf i).toNat)
  case atStart => exact ⟨0, Nat.zero_le _, rfl, h0, hL, BlP.refl _ _⟩
  case round =>
    obtain ⟨i, hi, rfl, hs, hl, hb⟩ := hrel
    obtain ⟨wo, rfl⟩ : ∃ wo : World, wo = wr := ⟨_, rfl⟩
    by_cases hlt : i < n
    · obtain ⟨Ai, ci, hvi, _⟩ := hs.at_ hlt
      have HV := Lib.hid hvi
      have hNi := HN.out i hlt
      clear hvi
      go_wp2_with fail
      go_loopw [4] (fun j wr => ∃ k : Nat, k ≤ N i ∧ j = .int .i64 k ∧ S1p wr ow B V N n i k ∧ Blk wr L 40 cs ∧ BlP B w wr) (fun j _ => N i - (intOf j).toNat)
      case atStart => exact ⟨0, Nat.zero_le _, rfl, hs, hl, hb⟩
      case round =>
        obtain ⟨j, hj, rfl, hs2, hl2, hb2⟩ := hrel
        have hcl : wr.cell? ⟨L, i, none⟩ = some (.slice Ai (N i) ci) := by rw [hl2.cell, HCS.out i hlt, HV.out]
        by_cases hlj : j < N i
        · obtain ⟨b, c', hv2, hBb, ⟨u, hcu⟩, hfr, hs3, hkp, hko⟩ := (hs2.at_ hlt).put hlj
          rw [HV.out] at hv2
          obtain ⟨rfl, rfl⟩ : Ai = some ⟨b, 0, none⟩ ∧ ci = c' := by simpa using hv2
          clear hv2
          have HS3 := Lib.hid (hs2.put hkp hs3)
          have HL3 := Lib.hid (hko.blk hl2 (by decide))
          clear hs3 hkp hko
          go_wp2_with fail
          go_region_with (go_at_call 53; refine (mark_any _ _ _ (by omega) (by omega) (by omega) (by omega)).mono ?_; rintro e w2 ⟨rfl, rfl⟩)
          all_goals go_wp2_with fail
          all_goals go_roundw
          all_goals first
            | exact ⟨j + 1, by omega, by go_num, HS3.out, HL3.out, (hb2.setCell hBb _).drew⟩
            | (simp [intOf]; omega)
        · obtain rfl : j = N i := by omega
          have HS3 := Lib.hid hs2.next
          clear hs2
          go_wp2_with fail
          go_roundw
          case rel => exact ⟨i + 1, by omega, by go_num, HS3.out, hl2, hb2⟩
          case measure => simp [intOf]; omega
    · obtain rfl : i = n := by omega
      have hs0 : S2p wo ow B V N i [] := ⟨hs, fun t ht => absurd ht (by simp)⟩
      clear hs hlt hi h0
      go_wp2_with fail
      go_loopw [5, 6] (fun g k wr => ∃ (k' : Nat) (gs : List Value) (ow' : Nat → Nat), k' ≤ i ∧ k = .int .i64 k' ∧ gs.length = k' ∧ wr.ownsRow w.heap.size 40 1 g k' gs ∧ S2p wr ow' B V N i gs ∧ Blk wr L 40 cs ∧ BlP B w wr) (fun _ k _ => i - (intOf k).toNat)
      case atStart => exact ⟨0, [], ow, Nat.zero_le _, rfl, rfl, World.ownsRow_nil _ _ _ _, hs0, hl, hb⟩
      case round =>
        obtain ⟨k, gs, ow1, hk, rfl, hgl, hown, hs2, hl2, hb2⟩ := hrel
        obtain ⟨w2, rfl⟩ : ∃ w2 : World, w2 = wr := ⟨_, rfl⟩
        by_cases hlt : k < i
        · obtain ⟨Ai, ci, hvi, _⟩ := hs2.row hlt
          have HV := Lib.hid hvi
          have hNk := HN.out k hlt
          have hcl : w2.cell? ⟨L, k, none⟩ = some (.slice Ai (N k) ci) := by rw [hl2.cell, HCS.out k hlt, hvi]
          have hrow := hs2.row hlt
          rw [hvi] at hrow
          have HGL := Lib.hid hgl
          clear hvi hgl
          go_wp2_with fail
          go_loopw [7, 8] (fun g j wr => ∃ (j' : Nat) (ow' : Nat → Nat), j' ≤ 16 ∧ j = .int .i64 j' ∧ MVp wr ow' B k g (N k + j') (N k + j') ∧ wr.ownsRow w.heap.size 40 1 u5 k gs ∧ S2p wr ow' B V N i gs ∧ Blk wr L 40 cs ∧ BlP B w wr) (fun _ j _ => 16 - (intOf j).toNat)
          case atStart => exact ⟨0, ow1, Nat.zero_le _, rfl, hrow, hown, hs2, hl2, hb2⟩
          case round =>
            obtain ⟨j, ow2, hj, rfl, hg3, hown3, hs3, hl3, hb3⟩ := hrel
            have hcl3 : wr.cell? ⟨L, k, none⟩ = some (.slice Ai (N k) ci) := by rw [hl3.cell, HCS.out k hlt, HV.out]
            by_cases hlj : j < 16
            · go_wp2_with fail
              refine (mark_any _ _ _ (by omega) (by omega) (by omega) (by omega)).mono ?_
              rintro e w4 ⟨rfl, rfl⟩
              rw [show ((N k : Int) + (j : Int)).toNat = N k + j from by omega, Int.toNat_natCast]
              have hsrc : ∀ x u, (mks k (N k + j) 1)[x]? = some u → (wr.alloc (.cells #[.int .u8 ((mk k (N k + j)).toNat : Int)] 5)).cell? ((⟨wr.heap.size, 0, none⟩ : Addr).add x) = some u := cell_one_new wr _ _
              have HSRC := Lib.hid hsrc
              clear hsrc
              go_wp2_with (at_builtin; go_loud (refine wpList_append_mvp rfl (.tmp 54) (.tmp 64) _ rfl i0 Try.underlying40 hi0 hz0 hz1 hz2 ow2 B k (N k + j) (N k + j) _ rfl (hg3.alloc _) (Nat.le_refl _) ⟨wr.heap.size, 0, none⟩ 1 1 rfl (by omega) HSRC.out (by omega) (fun k h => by have := hB k h; have := hb3.size; simp; omega) ?_); intro A5 c5 w5 ow5 hv5 how5 hkp5 hko5 hb5)
              have HS5 := Lib.hid ((hs3.alloc _).step how5 hkp5)
              have HO5 := Lib.hid (hko5.own (hown3.alloc _) (by decide))
              have HL5 := Lib.hid (hko5.blk (hl3.alloc _) (by decide))
              have HB5 := Lib.hid ((hb3.alloc _).trans hb5)
              clear hkp5 hko5 hb5
              go_roundw
              case rel => exact ⟨j + 1, ow5, by omega, by go_num, hv5, HO5.out, HS5.out, HL5.out, HB5.out⟩
              case measure => simp [intOf]; omega
            · obtain rfl : j = 16 := by omega
              have HG3 := Lib.hid hg3
              obtain ⟨Ag, cg, rfl, _⟩ := hg3
              have hrd := Reads.new1 wr (.slice Ag (N k + 16) cg) 40
              have HK := Lib.hid hlt
              have hkk : (k : Int) + 1 ≤ 1000 := by omega
              go_wp2_with (at_builtin; go_loud (refine wpList_append_any _ rfl (.tmp 66) (.tmp 68) _ rfl w.heap.size 40 i1 _ 1 24 Try.underlying27 hi1 hy0 hy1 hy2 rfl (by omega) u5 k _ rfl (hown3.alloc _) _ _ 1 1 [.slice Ag (N k + 16) cg] rfl hrd (by simp [Value.oneCell']) (by simp only [maxLen]; omega) (by omega) (by have := hb3.size; simp; omega) ?_); intro v6 w6 hown6 hg6 hat6)
              have hkp6 : Kp ow2 (wr.alloc (.cells #[.slice Ag (N k + 16) cg] 40)) w6 := Kp.grown hg6 (own_not_u8 (hown3.alloc _) (by decide))
              have hg7 := (HG3.out.alloc _).kept hkp6
              have hs7 := (hs3.alloc _).kept hkp6
              have HS7 := Lib.hid (hs7.snoc (by rw [HGL.out, Nat.mod_eq_of_lt HK.out]; unfold gl; rw [if_pos HK.out]; exact hg7))
              have HL7 := Lib.hid ((hl3.alloc _).grown hg6 (own_ne_blk hown3 hL.lt))
              have HB7 := Lib.hid ((hb3.alloc _).grown hg6 (fun g hg h => by have := (hown3.lt g hg).1; have := hB g h; omega))
              clear hkp6 hg7 hs7
              go_roundw
              case rel => exact ⟨k + 1, gs ++ [.slice Ag (N k + 16) cg], ow2, by have := HK.out; omega, by go_num, by rw [List.length_append, HGL.out]; rfl, hown6, HS7.out, HL7.out, HB7.out⟩
              case measure => simp [intOf]; have := HK.out; omega
        · obtain rfl : k = i := by omega
          have HGL := Lib.hid hgl
          have hk1 : k ≤ k := Nat.le_refl _
          clear hgl hlt hk
          go_wp2_with fail
          go_loopw [5, 9] (fun g t wr => ∃ (k' : Nat) (gs : List Value) (ow' : Nat → Nat), k' ≤ k ∧ t = .int .i64 k' ∧ gs.length = k + k' ∧ wr.ownsRow w.heap.size 40 1 g (k + k') gs ∧ S2p wr ow' B V N k gs ∧ Blk wr L 40 cs ∧ BlP B w wr) (fun _ t _ => k - (intOf t).toNat)
          case atStart => exact ⟨0, gs, ow1, Nat.zero_le _, rfl, HGL.out, hown, hs2, hl2, hb2⟩
          case round =>
            obtain ⟨i, gs, ow1, hi, rfl, hgl, hown, hs2, hl2, hb2⟩ := hrel
            obtain ⟨w3, rfl⟩ : ∃ w3 : World, w3 = wr := ⟨_, rfl⟩
            by_cases hlt : i < k
            · have HK := Lib.hid hlt
              have HGL2 := Lib.hid hgl
              have hNi := HN.out i hlt
              have hrow := hs2.row hlt
              obtain ⟨Ai, ci, hvi, _⟩ := hs2.row hlt
              rw [hvi] at hrow
              have HV := Lib.hid hvi
              clear hvi hgl
              have hmk : ∀ W, (Instr.makeSlice 40 (.int .i64 40) (.int .i64 40)).run Try.prog W = .ok (.slice (some ⟨W.heap.size, 0, none⟩) 40 40) (W.alloc (.cells (mArr i (N i) 0) 5)) := fun W => by rw [mArr_zero]; exact mk_u8' 40 (by omega) W
              have hsM : S2p (w3.alloc (.cells (mArr i (N i) 0) 5)) (fun b => if b = w3.heap.size then k else ow1 b) B V N k gs :=
                hs2.step (fun b hb => if_neg (by omega)) (Kp.below ((Below.refl _ _).alloc (Nat.le_refl _) _))
              have HMo : Hid ((fun b => if b = w3.heap.size then k else ow1 b) w3.heap.size = k) := if_pos rfl
              generalize (fun b => if b = w3.heap.size then k else ow1 b) = ow2 at hsM HMo
              have hbM := Blk.new w3 5 (mArr i (N i) 0)
              have hb3 : BlP B w (w3.alloc (.cells (mArr i (N i) 0) 5)) := hb2.alloc _
              have hw3 := hb2.size
              go_wp2_with fail
              go_loopw [11] (fun j wr => ∃ (j' : Nat), j' ≤ 40 ∧ j = .int .i64 j' ∧ Blk wr w3.heap.size 5 (mArr i (N i) j') ∧ wr.ownsRow w.heap.size 40 1 u5 (k + i) gs ∧ S2p wr ow2 B V N k gs ∧ Blk wr L 40 cs ∧ BlP B w wr) (fun j _ => 40 - (intOf j).toNat)
              case atStart => exact ⟨0, Nat.zero_le _, rfl, hbM, hown.alloc _, hsM, hl2.alloc _, hb3⟩
              case round =>
                obtain ⟨j, hj, rfl, hbm, hown3, hs3, hl3, hb4⟩ := hrel
                have hcl3 : wr.cell? ⟨L, i, none⟩ = some (.slice Ai (N i) ci) := by rw [hl3.cell, HCS.out i hlt, HV.out]
                by_cases hlj : j < 40
                · have hcm : wr.cell? ⟨w3.heap.size, j, none⟩ = some (.int .u8 0) := by rw [hbm.cell, mArr_get _ _ _ _ hlj, if_neg (by omega)]
                  have hfr := hbm.frozen j
                  have HMS := Lib.hid (mArr_put i (N i) j hlj)
                  go_wp2_with fail
                  refine (mark_any _ _ _ (by omega) (by omega) (by omega) (by omega)).mono ?_
                  rintro e w4 ⟨rfl, rfl⟩
                  rw [show ((N i : Int) + (j : Int)).toNat = N i + j from by omega, Int.toNat_natCast]
                  go_wp2_with fail
                  go_roundw
                  case rel =>
                    refine ⟨j + 1, by omega, by go_num, by rw [← HMS.out]; exact hbm.set_ _ _, Ko.own (Ko.setU8 hbm j _) hown3 (by decide), hs3.far (by omega) HMo, Ko.blk (Ko.setU8 hbm j _) hl3 (by decide), hb4.setCell (p := ⟨w3.heap.size, j, none⟩) (fun h => by have h := hB _ h; change w3.heap.size < _ at h; omega) _⟩
                  case measure => simp [intOf]; omega
                · obtain rfl : j = 40 := by omega
                  have hsrc : ∀ x u, (mks i (N i) 40)[x]? = some u → wr.cell? ((⟨w3.heap.size, 0, none⟩ : Addr).add x) = some u := by
                    intro x u hu
                    have hx : x < 40 := by
                      rcases Nat.lt_or_ge x 40 with h | h
                      · exact h
                      · rw [List.getElem?_eq_none (by rw [mks_length]; exact h)] at hu; cases hu
                    have hadd : (⟨w3.heap.size, 0, none⟩ : Addr).add x = ⟨w3.heap.size, x, none⟩ := by unfold Addr.add; split <;> simp_all
                    rw [mks_get _ _ _ _ hx] at hu
                    rw [hadd, hbm.cell, mArr_get _ _ _ _ hx, if_pos hx, hu]
                  have HSRC := Lib.hid hsrc
                  have HRow := Lib.hid (hs3.row hlt)
                  clear hsrc
                  have hw4 := hb4.size
                  have hBw4 : ∀ k, B k → k < wr.heap.size := fun k h => by have := hB k h; omega
                  have hlen2 : ((k + i : Nat) : Int) + 1 ≤ 3000 := by omega
                  go_wp2_with (first
                    | (at_builtin; (refine wpList_append_mvp rfl (.tmp 97) (.tmp 98) _ rfl i0 Try.underlying40 hi0 hz0 hz1 hz2 ow2 B i (N i) (N i) (.slice Ai (N i) ci) rfl (HV.out ▸ HRow.out) (Nat.le_refl _) ⟨w3.heap.size, 0, none⟩ 40 40 rfl (by omega) HSRC.out (by omega) hBw4 ?_); intro A5 c5 w5 ow5 hv5 how5 hkp5 hko5 hb5; have hrd := Reads.new1 w5 (.slice A5 (N i + 40) c5) 40; have ho5 := hko5.own hown3 (by decide); have hsz5 := hb5.size)
                    | (at_builtin; go_loud (refine wpList_append_any _ rfl (.tmp 93) (.tmp 100) _ rfl w.heap.size 40 i1 _ 1 24 Try.underlying27 hi1 hy0 hy1 hy2 rfl (by omega) u5 (k + i) _ rfl (ho5.alloc _) _ _ 1 1 [.slice A5 (N i + 40) c5] rfl hrd (by simp [Value.oneCell']) (by simp only [maxLen]; omega) (by omega) (by simp; omega) ?_); intro v6 w6 hown6 hg6 hat6))
                  have hkp6 : Kp ow5 (w5.alloc (.cells #[.slice A5 (N i + 40) c5] 40)) w6 := Kp.grown hg6 (own_not_u8 (ho5.alloc _) (by decide))
                  have hg7 := (hv5.alloc (.cells #[.slice A5 (N i + 40) c5] 40)).kept hkp6
                  have hs7 := ((hs3.step how5 hkp5).alloc (.cells #[.slice A5 (N i + 40) c5] 40)).kept hkp6
                  have HS7 := Lib.hid (hs7.snoc (v := .slice A5 (N i + 40) c5) (by rw [HGL2.out, Nat.add_mod_left, Nat.mod_eq_of_lt HK.out]; unfold gl; rw [if_neg (by omega), Nat.add_sub_cancel_left]; exact hg7))
                  have HL7 := Lib.hid (((hko5.blk hl3 (by decide)).alloc _).grown hg6 (own_ne_blk ho5 hL.lt))
                  have HB7 := Lib.hid (((hb4.trans hb5).alloc _).grown hg6 (fun g hg h => by have := (ho5.lt g hg).1; have := hB g h; omega))
                  clear hkp6 hg7 hs7
                  go_roundw
                  case rel => exact ⟨i + 1, gs ++ [.slice A5 (N i + 40) c5], ow5, by have := HK.out; omega, by go_num, by rw [List.length_append, HGL2.out]; rfl, hown6, HS7.out, HL7.out, HB7.out⟩
                  case measure => simp [intOf]; have := HK.out; omega
            · obtain rfl : i = k := by omega
              have HGL2 := Lib.hid hgl
              clear hgl hlt hi hk1
              obtain ⟨g, cap, rfl, hgB, hgs⟩ := hown.form (by omega)
              have hlen2 : ((i + i : Nat) : Int) ≤ 2000 := by omega
              go_wp2_with fail
              go_loopw [12] (fun t wr => ∃ t' : Nat, t' ≤ i + i ∧ t = .int .i64 t' ∧ ∃ m, wr = w3.drewN m) (fun t _ => i + i - (intOf t).toNat)
              case atStart => exact ⟨0, Nat.zero_le _, rfl, 0, rfl⟩
              case round =>
                obtain ⟨t, ht, rfl, m, hwm⟩ := hrel
                have HW := Lib.hid hwm
                obtain ⟨w4, rfl⟩ : ∃ w4 : World, w4 = wr := ⟨_, rfl⟩
                by_cases hlt : t < i + i
                · have hgt : t < gs.length := by rw [HGL2.out]; exact hlt
                  obtain ⟨At, ct, hvt, _⟩ := hs2.2 t hgt
                  have hrow := hs2.2 t hgt
                  rw [hvt] at hrow
                  have hglb : gl N i t ≤ 140737488355040 := by
                    unfold gl; split
                    · have := HN.out t (by omega); omega
                    · have := HN.out (t - i) (by omega); omega
                  have hcg3 : w3.cell? ⟨g, t, none⟩ = some (.slice At (gl N i t) ct) := by
                    rw [hown.cellAt t (by omega), List.getElem?_eq_getElem hgt, hvt]
                  have HCG := Lib.hid hcg3
                  have HT := Lib.hid hvt
                  clear hvt hcg3 hwm
                  go_wp2_with fail
                  go_loopw [13] (fun j wr => ∃ j' : Nat, j' ≤ gl N i t ∧ j = .int .i64 j' ∧ ∃ m, wr = w3.drewN m) (fun j _ => gl N i t - (intOf j).toNat)
                  case atStart => exact ⟨0, Nat.zero_le _, rfl, m, HW.out⟩
                  case round =>
                    obtain ⟨j, hj, rfl, m2, hwm2⟩ := hrel
                    have hcg : wr.cell? ⟨g, t, none⟩ = some (.slice At (gl N i t) ct) := by rw [hwm2]; exact HCG.out
                    have HW2 := Lib.hid hwm2
                    by_cases hlj : j < gl N i t
                    · obtain ⟨b, c2, hv2, _, _, _, hcj⟩ := hrow.cell hlj
                      obtain ⟨rfl, rfl⟩ : At = some ⟨b, 0, none⟩ ∧ ct = c2 := by simpa using hv2
                      have hcj2 : wr.cell? ⟨b, j, none⟩ = some (.int .u8 ((mk (t % i) j).toNat : Int)) := by rw [hwm2]; exact hcj
                      clear hv2 hwm2 hcj
                      have hm0 : (0 : Int) ≤ (t : Int) % (i : Int) := Int.emod_nonneg _ (by omega)
                      have hm1 : (t : Int) % (i : Int) ≤ 1000 := by have := Int.emod_lt_of_pos (t : Int) (show (0 : Int) < (i : Int) by omega); omega
                      have hmq := fun W => mark_q ((t : Int) % (i : Int)) (j : Int) W hm0 (by omega) (by omega) (by omega)
                      have hmt : ((t : Int) % (i : Int)).toNat = t % i := by rw [← Int.natCast_emod]; rfl
                      rw [hmt, Int.toNat_natCast] at hmq
                      have HQ := Lib.hid hmq
                      have tne : (((mk (t % i) j).toNat : Int) != ((mk (t % i) j).toNat : Int)) = false := by simp
                      clear hmq hmt
                      go_wp2_with fail
                      go_quiet ((go_at_call 53; exact Calls.quiet_of_same (HQ.out _)))
                      go_wp2_with fail
                      go_roundw
                      case rel => exact ⟨j + 1, by omega, by go_num, m2 + nq, by rw [HW2.out, World.drewN_drewN]⟩
                      case measure => simp [intOf]; omega
                    · clear hwm2
                      go_wp2_with fail
                      go_roundw
                      case rel => exact ⟨t + 1, by omega, by go_num, m2, HW2.out⟩
                      case measure => simp [intOf]; omega
                · clear hwm
                  go_wp2_with fail
                  go_loopw [14] (fun t wr => ∃ t' : Nat, t' ≤ i ∧ t = .int .i64 t' ∧ ∃ m, wr = w3.drewN m) (fun t _ => i - (intOf t).toNat)
                  case atStart => exact ⟨0, Nat.zero_le _, rfl, m, HW.out⟩
                  case round =>
                    obtain ⟨t2, ht2, rfl, m2, hwm⟩ := hrel
                    have HW2 := Lib.hid hwm
                    obtain ⟨w5, rfl⟩ : ∃ w5 : World, w5 = wr := ⟨_, rfl⟩
                    by_cases hlt2 : t2 < i
                    · obtain ⟨At, ct, hvt, _⟩ := hs2.row hlt2
                      have hrow := hs2.row hlt2
                      have hNt := HN.out t2 hlt2
                      rw [hvt] at hrow
                      have hcg3 : w3.cell? ⟨L, t2, none⟩ = some (.slice At (N t2) ct) := by rw [hl2.cell, HCS.out t2 hlt2, hvt]
                      have HCG := Lib.hid hcg3
                      clear hvt hcg3 hwm
                      go_wp2_with fail
                      go_loopw [15] (fun j wr => ∃ j' : Nat, j' ≤ N t2 ∧ j = .int .i64 j' ∧ ∃ m, wr = w3.drewN m) (fun j _ => N t2 - (intOf j).toNat)
                      case atStart => exact ⟨0, Nat.zero_le _, rfl, m2, HW2.out⟩
                      case round =>
                        obtain ⟨j, hj, rfl, m3, hwm2⟩ := hrel
                        have hcg : wr.cell? ⟨L, t2, none⟩ = some (.slice At (N t2) ct) := by rw [hwm2]; exact HCG.out
                        have HW3 := Lib.hid hwm2
                        by_cases hlj : j < N t2
                        · obtain ⟨b, c2, hv2, _, _, _, hcj⟩ := hrow.cell hlj
                          obtain ⟨rfl, rfl⟩ : At = some ⟨b, 0, none⟩ ∧ ct = c2 := by simpa using hv2
                          have hcj2 : wr.cell? ⟨b, j, none⟩ = some (.int .u8 ((mk t2 j).toNat : Int)) := by rw [hwm2]; exact hcj
                          clear hv2 hwm2 hcj
                          have hmq := fun W => mark_q (t2 : Int) (j : Int) W (by omega) (by omega) (by omega) (by omega)
                          simp only [Int.toNat_natCast] at hmq
                          have HQ := Lib.hid hmq
                          have tne : (((mk t2 j).toNat : Int) != ((mk t2 j).toNat : Int)) = false := by simp
                          clear hmq
                          go_wp2_with fail
                          go_quiet ((go_at_call 53; exact Calls.quiet_of_same (HQ.out _)))
                          go_wp2_with fail
                          go_roundw
                          case rel => exact ⟨j + 1, by omega, by go_num, m3 + nq, by rw [HW3.out, World.drewN_drewN]⟩
                          case measure => simp [intOf]; omega
                        · clear hwm2
                          go_wp2_with fail
                          go_roundw
                          case rel => exact ⟨t2 + 1, by omega, by go_num, m3, HW3.out⟩
                          case measure => simp [intOf]; omega
                    · clear hwm
                      go_wp2_with fail
                      go_ret
                      exact ⟨rfl, by rw [HW2.out]; exact BlP.drewN hb2 _⟩
theorem apartP_sep (b b0 : Nat) (B : Nat → Prop) (w : World) (A : Option Addr) (c : Nat) (rs : List R3) (h : RowsIs b w A c rs) (hs : Sep b0 w rs) (h0 : 0 < rs.length) (hl : rs.length ≤ 1000) (hn : ∀ r ∈ rs, r.2.1.length ≤ 140737488355000) (hB : ∀ k, B k → k < w.heap.size) (hBr : ∀ r ∈ rs, ∀ g, (R3.v r).ownBlock = some g → ¬ B g) :
    Calls Try.prog 24 #[.slice A rs.length c] w fun e w' => e = .returned (.bool true) ∧ BlP B w w' := by
  obtain ⟨hlen, hcase⟩ := h
  rcases hcase with ⟨_, h1⟩ | ⟨g, cap, cur, hv, hbg, hcur, h2, h3, h4, h5⟩
  · omega
  injection hv with hA hn2 hc
  subst hA hc
  refine apartP_any g rs.length c B cur (fun i => R3.v (rs.getD i (none, [], 0))) (fun i => (rs.getD i (none, [], 0)).2.1.length) (owOf rs) w hcur (fun i hi => ?_) (by omega) h0 (fun i hi => ?_) (fun i hi => ?_) hB
  · have h6 : (cur.toList.take (rs.length * 1))[i]? = (rs.map R3.v)[i]? := by rw [h5]
    rw [List.getElem?_take_of_lt (by omega), Array.getElem?_toList, List.getElem?_map, List.getElem?_eq_getElem hi] at h6
    rw [h6, List.getD_eq_getElem?_getD, List.getElem?_eq_getElem hi]
    rfl
  · have h6 : rs.getD i (none, [], 0) = rs[i] := by rw [List.getD_eq_getElem?_getD, List.getElem?_eq_getElem hi]; rfl
    show MVp w (owOf rs) B i (R3.v (rs.getD i (none, [], 0))) (rs.getD i (none, [], 0)).2.1.length 0
    rw [h6]
    exact MVp.of_own (hs.1 rs[i] (List.getElem_mem hi)) (fun b he => owOf_eq hs hi he) (hBr _ (List.getElem_mem hi))
  · have h6 : rs.getD i (none, [], 0) = rs[i] := by rw [List.getD_eq_getElem?_getD, List.getElem?_eq_getElem hi]; rfl
    show (rs.getD i (none, [], 0)).2.1.length ≤ _
    rw [h6]
    exact hn _ (List.getElem_mem hi)
end Go.Proofs.Ytbldfgpnghoigaa
