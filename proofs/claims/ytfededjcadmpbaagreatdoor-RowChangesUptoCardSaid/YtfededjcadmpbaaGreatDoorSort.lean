/- The sort of writes by their keys: bytes.Compare, codec.Cmp, the closure of row.Changes, slices.SortFunc at writes. -/
import Derived.Test.YtfededjcadmpbaaGreatDoorOrdA
import Derived.Test.YtfededjcadmpbaaGreatDoorEncA
import Derived.Test.YtfededjcadmpbaaGreatDoorShelfS
import Derived.Laws.Externs
import Derived.Lib.Bytealg
namespace Go.Proofs.YtfededjcadmpbaaGreatDoor
open Go.RowKit Go.Sort

theorem cmp_lib : ∀ a b : List UInt8, Lib.compareBytes a b = cmpL a b
  | [], [] => rfl
  | [], _ :: _ => rfl
  | _ :: _, [] => rfl
  | a :: s, b :: t => by
    show (if a < b then -1 else if b < a then 1 else Lib.compareBytes s t) = (if a < b then -1 else if b < a then 1 else cmpL s t)
    rw [cmp_lib s t]
theorem run_loadB {P : Program} (w : World) : ∀ (l : List UInt8) (a : Addr) (acc : ByteArray), (∀ j x, l[j]? = some x → w.cell? (a.add j) = some (bval x)) →
    (Extern.Bytes.loadBytes a l.length acc).run P w = .ok ⟨acc.data ++ l.toArray⟩ w
  | [], a, acc, _ => by simp [Extern.Bytes.loadBytes]
  | x :: l, a, acc, h => by
    have h0 : w.cell? a = some (.int .u8 (x.toNat : Int)) := by
      have := h 0 x rfl
      simpa [Addr.add, bval] using this
    have ih := run_loadB (P := P) w l (a.add 1) (acc.push x) (fun j y hy => by
      have := h (j + 1) y (by simpa using hy)
      have e : (a.add 1).add j = a.add (j + 1) := by
        unfold Addr.add
        by_cases hj : j = 0
        · subst hj; simp
        · simp [hj]; omega
      rw [e]; exact this)
    have hx : ((x.toNat : Int).toNat).toUInt8 = x := by simp
    simp only [List.length_cons, Extern.Bytes.loadBytes, Sem.run_bind, run_load, h0, Result.andThen, hx]
    rw [ih]
    congr 1
    apply ByteArray.ext
    simp [ByteArray.push]
theorem run_bytesOf (A : Option Addr) (l : List UInt8) (c : Nat) (w : World) (ha : Bs w A l) : (Extern.Bytes.bytesOf (.slice A l.length c)).run Tryz.prog w = .ok ⟨l.toArray⟩ w := by
  cases A with
  | none =>
    have h0 : l.length = 0 := by
      apply Classical.byContradiction; intro h
      obtain ⟨ad, e, _⟩ := ha.at_ (show 0 < l.length by omega)
      cases e
    obtain rfl : l = [] := List.length_eq_zero_iff.1 h0
    rfl
  | some ad =>
    have h := run_loadB (P := Tryz.prog) w l ad .empty (fun j x hj => by
      have hjl := (List.getElem?_eq_some_iff.1 hj).1
      obtain ⟨a2, e, _, hc⟩ := ha.at_ hjl
      obtain rfl := Option.some.inj e
      rw [hc]
      have : l[j] = x := (List.getElem?_eq_some_iff.1 hj).2
      rw [← this])
    show (Extern.Bytes.loadBytes ad l.length .empty).run Tryz.prog w = _
    rw [h]
    congr 1
    apply ByteArray.ext
    simp
theorem run_cmpB (A B : Option Addr) (l m : List UInt8) (c d : Nat) (w : World) (ha : Bs w A l) (hb : Bs w B m) : (Extern.BytealgCompare.compare #[.slice A l.length c, .slice B m.length d]).run Tryz.prog w = .ok (.int .i64 (cmpL l m)) w := by
  change Sem.run Tryz.prog (do pure (goInt (Extern.BytealgCompare.cmp (← Extern.Bytes.bytesOf (.slice A l.length c)) (← Extern.Bytes.bytesOf (.slice B m.length d))))) w = _
  simp only [Sem.run_bind, run_bytesOf A l c w ha, run_bytesOf B m d w hb, Result.andThen, Sem.run_pure]
  rw [Lib.cmp_eq, cmp_lib]
  rfl
set_option maxRecDepth 100000 in
set_option maxHeartbeats 1000000 in
theorem bcompare_any (A B : Option Addr) (l m : List UInt8) (c d : Nat) (w : World) (ha : Bs w A l) (hb : Bs w B m) : Calls Tryz.prog 40 #[.slice A l.length c, .slice B m.length d] w fun e w' => e = .returned (.int .i64 (cmpL l m)) ∧ w' = w := by
  have hr := run_cmpB A B l m c d w ha hb
  go_enter Tryz.func40, Tryz.ntmps40
  go_wp2_with fail
  rw [run_callFunc_extern Tryz.func65 (by kernel_rfl) (by kernel_rfl) (by kernel_rfl) (e := Extern.BytealgCompare.compare) (by kernel_rfl), hr]
  simp only [Result.andThen]
  rw [Oper.upon_value]
  go_wp2
  go_ret
  exact ⟨rfl, rfl⟩
set_option maxRecDepth 100000 in
theorem ccmp_any (A B : Option Addr) (l m : List UInt8) (c d : Nat) (w : World) (ha : Bs w A l) (hb : Bs w B m) : Calls Tryz.prog 22 #[.slice A l.length c, .slice B m.length d] w fun e w' => e = .returned (.int .i64 (cmpL l m)) ∧ w' = w := by
  have T := bcompare_any A B l m c d w ha hb
  go_enter Tryz.func22, Tryz.ntmps22
  go_wp2_with fail
  refine T.mono ?_
  rintro en w2 ⟨rfl, rfl⟩
  go_wp2_with fail
  go_ret
  exact ⟨rfl, rfl⟩

/-- a write as its cells have it -/
structure RW where
  K : Option Addr
  k : List UInt8
  c : Nat
  V : Option Addr
  v : List UInt8
  d : Nat
  g : Bool
def RW.enc (x : RW) : List Value := [.slice x.K x.k.length x.c, .slice x.V x.v.length x.d, .bool x.g]
/-- the write itself -/
def RW.w (x : RW) : List UInt8 × List UInt8 × Bool := (x.k, x.v, x.g)
instance : Inhabited RW := ⟨⟨none, [], 0, none, [], 0, false⟩⟩
/-- writes, their cells written out -/
def RWE : ER RW where
  size := 3
  pos := by omega
  bytes := 56
  bpos := by omega
  rep w S vs x := vs = x.enc ∧ (Bs w x.K x.k ∧ At S x.K x.k.length) ∧ Bs w x.V x.v ∧ At S x.V x.v.length
  len := by rintro w S vs a ⟨rfl, _⟩; rfl
  one := by rintro w S vs a ⟨rfl, _⟩ v hv; simp [RW.enc] at hv; rcases hv with rfl | rfl | rfl <;> rfl
  keep := by rintro w w' S vs a ⟨rfl, ⟨h, ha⟩, k, ka⟩ hs; exact ⟨rfl, ⟨h.sameS ha hs, ha⟩, k.sameS ka hs, ka⟩
  mono := by rintro w S S' vs a ⟨rfl, ⟨h, ha⟩, k, ka⟩ hs; exact ⟨rfl, ⟨h, h.atMono ha hs⟩, k, k.atMono ka hs⟩
theorem RWE.flat_enc {w : World} {S : Nat → Prop} : ∀ {vs : List Value} {xs : List RW}, RWE.flat w S vs xs → vs = xs.flatMap RW.enc ∧ ∀ x ∈ xs, RWE.rep w S x.enc x
  | _, [], h => ⟨h, fun x hx => by cases hx⟩
  | _, x :: xs, ⟨v, r, e, h1, h2⟩ => by
    obtain ⟨h3, h4⟩ := RWE.flat_enc h2
    have h5 : v = x.enc := h1.1
    subst h5
    refine ⟨by rw [e, h3, List.flatMap_cons], fun y hy => ?_⟩
    rcases List.mem_cons.1 hy with rfl | hy
    · exact h1
    · exact h4 y hy
theorem RWE.flat_of {w : World} {S : Nat → Prop} : ∀ {xs : List RW}, (∀ x ∈ xs, RWE.rep w S x.enc x) → RWE.flat w S (xs.flatMap RW.enc) xs
  | [], _ => rfl
  | x :: xs, h => ⟨x.enc, xs.flatMap RW.enc, by rw [List.flatMap_cons], h x (List.mem_cons_self ..), RWE.flat_of fun y hy => h y (List.mem_cons_of_mem _ hy)⟩
theorem RWE_flat_len : ∀ {xs : List RW}, (xs.flatMap RW.enc).length = xs.length * 3
  | [] => rfl
  | x :: xs => by rw [List.flatMap_cons, List.length_append, RWE_flat_len, List.length_cons]; show 3 + _ = _; omega
theorem flat3 : ∀ (xs : List RW) (t : Nat), t < xs.length * 3 → (xs.flatMap RW.enc)[t]? = some ((xs[t / 3]!).enc[t % 3]!)
  | [], t, h => by simp at h
  | x :: xs, t, h => by
    rw [List.flatMap_cons, List.getElem?_append]
    have hl : x.enc.length = 3 := rfl
    by_cases ht : t < 3
    · rw [if_pos (by rw [hl]; exact ht), show t / 3 = 0 by omega, show t % 3 = t by omega]
      show x.enc[t]? = some (x.enc[t]!)
      rw [getElem!_pos x.enc t (by rw [hl]; exact ht), List.getElem?_eq_getElem (by rw [hl]; exact ht)]
    · rw [if_neg (by rw [hl]; exact ht), hl, flat3 xs (t - 3) (by rw [List.length_cons] at h; omega), show (t - 3) % 3 = t % 3 by omega]
      have e : t / 3 = (t - 3) / 3 + 1 := by omega
      rw [e, List.getElem!_cons_succ]

set_option maxRecDepth 100000 in
set_option maxHeartbeats 1000000 in
theorem lessW_any (x y : RW) (w : World) (hx : Bs w x.K x.k) (hy : Bs w y.K y.k) : Calls Tryz.prog 21 #[.agg x.enc.toArray, .agg y.enc.toArray] w fun e w' => e = .returned (.int .i64 (cmpL x.k y.k)) ∧ ∃ q os', w' = grow (w.drewN q) os' := by
  have b0 : Below w.heap.size w ((w.alloc (.cells x.enc.toArray 61)).alloc (.cells y.enc.toArray 61)) := ((Below.refl _ _).alloc (Nat.le_refl _) _).alloc (by simp) _
  have T := ccmp_any x.K y.K x.k y.k x.c y.c _ (hx.below b0) (hy.below b0)
  clear b0
  unfold RW.enc at *
  go_enter Tryz.func21, Tryz.ntmps21
  go_wp2_with fail
  refine T.mono ?_
  rintro en w2 ⟨rfl, rfl⟩
  go_wp2_with fail
  go_ret
  exact ⟨rfl, 0, _, by rw [alloc_eq_grow, alloc_eq_grow, grow_grow]; rfl⟩
theorem cmpL_trans_lt : ∀ {a b c : List UInt8}, cmpL a b < 0 → cmpL b c < 0 → cmpL a c < 0
  | _, [], [], _, h2 => absurd h2 (by decide)
  | [], _ :: _, _ :: _, _, _ => by show (-1 : Int) < 0; decide
  | _ :: _, [], _, h1, _ => absurd h1 (by show ¬ ((1 : Int) < 0); decide)
  | [], [], _ :: _, h1, _ => absurd h1 (by decide)
  | _, _ :: _, [], _, h2 => absurd h2 (by show ¬ ((1 : Int) < 0); decide)
  | x :: a, y :: b, z :: c, h1, h2 => by
    replace h1 : (if x < y then (-1 : Int) else if y < x then 1 else cmpL a b) < 0 := h1
    replace h2 : (if y < z then (-1 : Int) else if z < y then 1 else cmpL b c) < 0 := h2
    show (if x < z then (-1 : Int) else if z < x then 1 else cmpL a c) < 0
    have e : ∀ p q : UInt8, p < q ↔ p.toNat < q.toNat := fun p q => UInt8.lt_iff_toNat_lt
    simp only [e] at *
    by_cases h3 : x.toNat < y.toNat
    · by_cases h4 : y.toNat < z.toNat
      · rw [if_pos (by omega)]; decide
      · rw [if_neg h4] at h2
        by_cases h5 : z.toNat < y.toNat
        · rw [if_pos h5] at h2; exact absurd h2 (by decide)
        · rw [if_pos (by omega)]; decide
    · rw [if_neg h3] at h1
      by_cases h4 : y.toNat < x.toNat
      · rw [if_pos h4] at h1; exact absurd h1 (by decide)
      · rw [if_neg h4] at h1
        by_cases h5 : y.toNat < z.toNat
        · rw [if_pos (by omega)]; decide
        · rw [if_neg h5] at h2
          by_cases h6 : z.toNat < y.toNat
          · rw [if_pos h6] at h2; exact absurd h2 (by decide)
          · rw [if_neg h6] at h2
            rw [if_neg (by omega), if_neg (by omega)]
            exact cmpL_trans_lt h1 h2
theorem cmpL_swap : ∀ a b : List UInt8, cmpL b a = - cmpL a b
  | [], [] => rfl
  | [], _ :: _ => rfl
  | _ :: _, [] => rfl
  | x :: a, y :: b => by
    show (if y < x then (-1 : Int) else if x < y then 1 else cmpL b a) = -(if x < y then (-1 : Int) else if y < x then 1 else cmpL a b)
    have e : ∀ p q : UInt8, p < q ↔ p.toNat < q.toNat := fun p q => UInt8.lt_iff_toNat_lt
    simp only [e]
    by_cases h1 : x.toNat < y.toNat
    · rw [if_neg (by omega), if_pos h1, if_pos h1]; rfl
    · by_cases h2 : y.toNat < x.toNat
      · rw [if_pos h2, if_neg h1, if_pos h2]
      · rw [if_neg h2, if_neg h1, if_neg h1, if_neg h2]
        exact cmpL_swap a b
/-- not later: the order of keys -/
theorem cmpL_le_trans {a b c : List UInt8} (h1 : ¬ cmpL a b < 0) (h2 : ¬ cmpL b c < 0) : ¬ cmpL a c < 0 := by
  intro h3
  by_cases h4 : cmpL b a < 0
  · exact h2 (cmpL_trans_lt h4 h3)
  · have h5 : cmpL a b = 0 := by have := cmpL_swap a b; omega
    rw [cmpL_eq h5] at h3
    exact h2 h3
theorem putCells_get (F cur : Array Value) (j : Nat) (h1 : j < F.size) (h2 : j < cur.size) : (putCells (id : Value → Value) 0 F cur)[j]? = some F[j]! := by
  unfold putCells
  rw [Array.getElem?_mapIdx, Array.getElem?_eq_getElem h2]
  show some (if 0 ≤ j ∧ j < 0 + F.size then id F[j - 0]! else _) = _
  rw [if_pos ⟨Nat.zero_le _, by omega⟩]
  rfl
theorem heap_sortedK {w : World} {g n : Nat} {os : Array Obj} {cur : Array Value} {e : TypeId} {fr : Nat × Nat} (F : Array Value) (hb : w.heap[g]? = some (.cells cur e fr)) :
    (grow (putRow (id : Value → Value) (Sort.ahead w n) g 0 F) os).heap[g]? = some (.cells (putCells id 0 F cur) e fr) := by
  have hg : g < w.heap.size := (Array.getElem?_eq_some_iff.1 hb).1
  rw [heap_grow_old _ _ (by simpa using hg)]
  simp [putRow, mapBlock, Sort.ahead, Array.getElem?_modify, hb, onCells]
theorem grownBy_sortedK {w : World} {g n : Nat} {os : Array Obj} (F : Array Value) : w.grownBy (grow (putRow (id : Value → Value) (Sort.ahead w n) g 0 F) os) (some g) := by
  refine ⟨rfl, rfl, rfl, by simp, fun k hk hne => ?_⟩
  rw [heap_grow_old _ _ (by simpa using hk)]
  have : g ≠ k := fun e => hne (by rw [e])
  simp [putRow, mapBlock, Sort.ahead, Array.getElem?_modify, this]
/-- a write whose key can be read, however the sort's row g turns -/
def Rk (w : World) (g : Nat) (x : RW) : Prop := Bs w x.K x.k ∧ At (fun b => b ≠ g) x.K x.k.length
theorem Rk.sort {w : World} {g n : Nat} {os : Array Obj} {F : Array Value} {x : RW} (h : Rk w g x) : Bs (grow (putRow (id : Value → Value) (Sort.ahead w n) g 0 F) os) x.K x.k :=
  h.1.sameS h.2 (.of_grown (grownBy_sortedK F) (fun _ hb e => hb (Option.some.inj e).symm))
instance (w : World) (g : Nat) : Inhabited {x : RW // Rk w g x} := ⟨⟨default, Bs.nil_ _ _, fun _ _ hn => absurd hn (by show ¬ (0 < 0); omega)⟩⟩
def rkEnc (w : World) (g : Nat) (x : {x : RW // Rk w g x}) : List Value := x.1.enc
def rkCmp (w : World) (g : Nat) (x y : {x : RW // Rk w g x}) : Int := cmpL x.1.k y.1.k
theorem rkSwo (w : World) (g : Nat) : SWO (ltOf (rkCmp w g)) where
  irrefl x := by unfold ltOf rkCmp; rw [cmpL_self]; decide
  trans x y z h1 h2 := by
    unfold ltOf rkCmp at *
    exact decide_eq_true (cmpL_trans_lt (of_decide_eq_true h1) (of_decide_eq_true h2))
  ntrans x y z h1 h2 := by
    unfold ltOf rkCmp at *
    exact decide_eq_false (cmpL_le_trans (of_decide_eq_false h1) (of_decide_eq_false h2))
theorem flatK_list (w : World) (g : Nat) (d : Array {x : RW // Rk w g x}) (j : Nat) (hj : j < d.size * 3) : ((d.toList.map Subtype.val).flatMap RW.enc)[j]? = some (flatK (rkEnc w g) 3 d)[j]! := by
  rw [flat3 _ j (by rw [List.length_map, Array.length_toList]; exact hj), get_flatK _ _ _ _ hj]
  have h1 : j / 3 < d.size := by omega
  have e1 : (d.toList.map Subtype.val)[j / 3]! = (d[j / 3]!).1 := by
    rw [getElem!_pos _ _ (by rw [List.length_map, Array.length_toList]; exact h1), List.getElem_map, getElem!_pos d _ h1]
    rfl
  rw [e1]
  rfl
set_option maxRecDepth 100000 in
theorem sort_any (xs : List RW) (g c base : Nat) (S : Nat → Prop) (w : World) (o : Own RWE 61 w base S (.slice (some ⟨g, 0, none⟩) xs.length c) xs) (h12 : xs.length ≤ 12) :
    Calls Tryz.prog 20 #[.slice (some ⟨g, 0, none⟩) xs.length c, .func (.func 21) #[] #[]] w fun e w' => e = .returned (.tuple #[]) ∧ ∃ ys : List RW, ys.Perm xs ∧ ys.Pairwise (fun x y => ¬ cmpL y.k x.k < 0) ∧
      Own RWE 61 w' base S (.slice (some ⟨g, 0, none⟩) ys.length c) ys ∧ w.grownBy w' (some g) := by
  obtain ⟨vs, ho, hf⟩ := o
  obtain ⟨rfl, hr⟩ := RWE.flat_enc hf
  have hk : ∀ x ∈ xs, Rk w g x := fun x hx => by
    obtain ⟨_, ⟨h1, h2⟩, _⟩ := hr x hx
    exact ⟨h1, fun ad e hn hg => (h2 ad e hn).2 (by rw [hg]; rfl)⟩
  obtain ⟨hl, hcase⟩ := ho
  rcases hcase with ⟨hnil, _⟩ | ⟨g', cap', cur, hv, hbase, hb, h1, h2, h3, h4⟩
  · cases hnil
  cases hv
  replace h4 : List.take (xs.length * 3) cur.toList = xs.flatMap RW.enc := h4
  replace h3 : cur.size = c * 3 := h3
  obtain ⟨ds, hds⟩ : ∃ ds : List {x : RW // Rk w g x}, ds.map Subtype.val = xs := ⟨xs.pmap Subtype.mk hk, by rw [List.map_pmap]; simp⟩
  have hdl : ds.length = xs.length := by rw [← hds, List.length_map]
  have hgl : g < w.heap.size := (Array.getElem?_eq_some_iff.1 hb).1
  have eg : ∀ args w, (callFunc 21 args).run Tryz.prog w = .ok (.enter 21 args) w := enters_of Tryz.func21 (by kernel_rfl) rfl
  have hcmp : CmpLays Tryz.prog 21 #[] (rkEnc w g) 3 (rkCmp w g) g 0 ds.toArray.size w := fun m os dk hs x y => lessW_any x.1 y.1 _ x.2.sort y.2.sort
  have hH : HoldsK (rkEnc w g) 3 w g 0 ds.toArray := by
    intro j hj
    rw [size_flatK] at hj
    refine ⟨?_, by simp [World.frozen?, hb]⟩
    have hj3 : j < xs.length * 3 := by rw [← hdl]; simpa using hj
    have h5 := flatK_list w g ds.toArray j hj
    rw [show ds.toArray.toList = ds from rfl, hds, ← h4, List.getElem?_take_of_lt hj3, Array.getElem?_toList] at h5
    simp only [World.cell?, hb, Nat.zero_add]
    simp only [Option.isSome_none, Bool.false_eq_true, if_false]
    exact h5
  have hlen : ∀ (n : Nat) (W : World), n ≤ 12 → Calls Tryz.prog 39 #[.int .u64 n] W fun e w' => (∃ l : Int, e = .returned (.int .i64 l)) ∧ w' = W := fun n W h =>
    (Any.bits_Len Tryz.bitsLen2 n W (by omega) (by omega)).mono fun _ _ ⟨he, hw⟩ => ⟨⟨_, he⟩, hw⟩
  have T := AnyQ.slices_SortFunc_small_sorted (P := Tryz.prog) (ρ := Tryz.sortW_ren) Tryz.sortW 3 Tryz.isAgg61 Tryz.sizeOf61 (rkEnc w g) (fun _ => rfl) (fun x v hv => by simp [rkEnc, RW.enc] at hv; rcases hv with rfl | rfl | rfl <;> rfl) (rkCmp w g) 21 #[] (rkSwo w g) g 0 c ds.toArray w eg hcmp hH hgl (by simpa [hdl] using h12) hlen
  have hsz : ds.toArray.size = xs.length := by rw [List.size_toArray, hdl]
  rw [hsz] at T
  change Calls Tryz.prog 20 #[.slice (some ⟨g, 0, none⟩) xs.length c, .func (.func 21) #[] #[]] w _ at T
  refine T.mono ?_
  rintro e w' ⟨rfl, d', n, os, ⟨hp1, _, hp3⟩, hs, rfl⟩
  rw [hsz] at hp1
  have e1 : d'.extract 0 xs.length = d' := by rw [← hp1]; exact Array.extract_size
  have e2 : ds.toArray.extract 0 xs.length = ds.toArray := by rw [← hsz]; exact Array.extract_size
  rw [e1, e2] at hp3
  have hperm : (d'.toList.map Subtype.val).Perm xs := by rw [← hds]; exact hp3.map _
  have hyl := hperm.length_eq
  refine ⟨rfl, d'.toList.map Subtype.val, hperm, ?_, ?_, grownBy_sortedK _⟩
  · rw [List.pairwise_map, List.pairwise_iff_getElem]
    intro i j hi hj hij
    have hi' : i < d'.size := by simpa using hi
    have hj' : j < d'.size := by simpa using hj
    have h6 := hs i j (Nat.zero_le _) hij (by omega)
    rw [getElem!_pos d' i hi', getElem!_pos d' j hj'] at h6
    unfold ltOf rkCmp at h6
    have h7 := of_decide_eq_false h6
    simpa using h7
  · refine ⟨_, ⟨RWE_flat_len, .inr ⟨g, c, _, rfl, hbase, heap_sortedK _ hb, by rw [hyl]; exact h1, h2, ?_, ?_⟩⟩, RWE.flat_of fun y hy => ?_⟩
    · show _ = c * 3
      rw [← h3]; simp [putCells]
    · show List.take (_ * 3) _ = _
      rw [hyl]
      apply List.ext_getElem?
      intro j
      by_cases hj : j < xs.length * 3
      · have hjc : j < cur.size := by rw [h3]; exact Nat.lt_of_lt_of_le hj (Nat.mul_le_mul_right _ h1)
        rw [List.getElem?_take_of_lt hj, Array.getElem?_toList, putCells_get _ _ _ (by rw [size_flatK, hp1]; exact hj) hjc, flatK_list w g d' j (by rw [hp1]; exact hj)]
      · rw [List.getElem?_take_eq_none (by omega), List.getElem?_eq_none (by rw [RWE_flat_len, hyl]; omega)]
    · have hy2 := hr y (hperm.mem_iff.1 hy)
      rw [hyl]
      exact RWE.keep hy2 (.of_grown (grownBy_sortedK _) (fun _ hb2 e => hb2.2 e))
theorem sort_none (c : Nat) (fv : Value) (w : World) : Calls Tryz.prog 20 #[.slice none 0 c, fv] w fun e w' => e = .returned (.tuple #[]) ∧ w' = w := AnyF.slices_SortFunc_none Tryz.sortW none c fv w
theorem sort_own (xs : List RW) (A : Option Addr) (c base : Nat) (S : Nat → Prop) (w : World) (o : Own RWE 61 w base S (.slice A xs.length c) xs) (h12 : xs.length ≤ 12) :
    Calls Tryz.prog 20 #[.slice A xs.length c, .func (.func 21) #[] #[]] w fun e w' => e = .returned (.tuple #[]) ∧ ∃ ys : List RW, ys.Perm xs ∧ ys.length = xs.length ∧ ys.Pairwise (fun x y => ¬ cmpL y.k x.k < 0) ∧
      Own RWE 61 w' base S (.slice A ys.length c) ys ∧ w.grownBy w' (Value.slice A xs.length c).ownBlock := by
  have o2 := o
  obtain ⟨vs, ⟨hl, hcase⟩, hf⟩ := o2
  rcases hcase with ⟨hnil, h0⟩ | ⟨g', cap', cur, hv, _⟩
  · injection hnil with hA hn hc
    subst hA hc
    obtain rfl : xs = [] := List.length_eq_zero_iff.1 h0
    refine (sort_none 0 _ w).mono ?_
    rintro e w' ⟨rfl, rfl⟩
    exact ⟨rfl, [], List.Perm.refl _, rfl, List.Pairwise.nil, o, ⟨rfl, rfl, rfl, Nat.le_refl _, fun _ _ _ => rfl⟩⟩
  · injection hv with hA hn hc
    subst hA hc
    refine (sort_any xs g' _ base S w o h12).mono ?_
    rintro e w' ⟨rfl, ys, h1, h2, h3, h4⟩
    exact ⟨rfl, ys, h1, h1.length_eq, h2, h3, h4⟩
end Go.Proofs.YtfededjcadmpbaaGreatDoor
