/- Writes in a list by rising keys, the reference's: caissonref14.Put; an entry's value by its key: caissonref14.find; are two lists of writes the same: caissonref14.SameWrites. -/
import Derived.Test.YtfededjcadmpbaaGreatDoorChgQ
import Derived.Test.YtfededjcadmpbaaGreatDoorCmpR
import Derived.BigQuiet
namespace Go.Proofs.YtfededjcadmpbaaGreatDoor
open Go.RowKit

instance : Inhabited Wr := ⟨([], [], false)⟩
/-- writes -/
def WrE : ER Wr where
  size := 3
  pos := by omega
  bytes := 56
  bpos := by omega
  rep w S vs x := ∃ K c V d, vs = [.slice K x.1.length c, .slice V x.2.1.length d, .bool x.2.2] ∧ (Bs w K x.1 ∧ At S K x.1.length) ∧ Bs w V x.2.1 ∧ At S V x.2.1.length
  len := by rintro w S vs a ⟨K, c, V, d, rfl, _⟩; rfl
  one := by rintro w S vs a ⟨K, c, V, d, rfl, _⟩ v hv; simp at hv; rcases hv with rfl | rfl | rfl <;> rfl
  keep := by rintro w w' S vs a ⟨K, c, V, d, rfl, ⟨h, ha⟩, k, ka⟩ hs; exact ⟨K, c, V, d, rfl, ⟨h.sameS ha hs, ha⟩, k.sameS ka hs, ka⟩
  mono := by rintro w S S' vs a ⟨K, c, V, d, rfl, ⟨h, ha⟩, k, ka⟩ hs; exact ⟨K, c, V, d, rfl, ⟨h, h.atMono ha hs⟩, k, k.atMono ka hs⟩
theorem WrE.at_ {w : World} {A : Option Addr} {S : Nat → Prop} {l : List Wr} (h : SlS WrE w S A l) {k : Nat} (hk : k < l.length) :
    ∃ ad K c V d, A = some ad ∧ ad.block < w.heap.size ∧ w.cell? (ad.add (k * 3)) = some (.slice K l[k].1.length c) ∧ w.cell? ⟨(ad.add (k * 3)).block, (ad.add (k * 3)).off + 1, none⟩ = some (.slice V l[k].2.1.length d) ∧ w.cell? ⟨(ad.add (k * 3)).block, (ad.add (k * 3)).off + 2, none⟩ = some (.bool l[k].2.2) ∧
      (Bs w K l[k].1 ∧ At S K l[k].1.length) ∧ Bs w V l[k].2.1 ∧ At S V l[k].2.1.length := by
  obtain ⟨ad, vs, rfl, hb, ⟨K, c, V, d, rfl, h1⟩, h4, _, h5⟩ := SlS.at_ h hk
  exact ⟨ad, K, c, V, d, rfl, hb, h4 _ rfl, h5 1 _ (by omega) rfl, h5 2 _ (by omega) rfl, h1⟩
theorem WrE.of_flat {w : World} {S : Nat → Prop} : ∀ {vs : List Value} {xs : List RW}, RWE.flat w S vs xs → WrE.flat w S vs (xs.map RW.w)
  | _, [], h => h
  | _, x :: _, ⟨v, r, e, ⟨h1, h2⟩, h3⟩ => ⟨v, r, e, ⟨x.K, x.c, x.V, x.d, h1, h2⟩, WrE.of_flat h3⟩
theorem WrE.of {w : World} {A : Option Addr} {S : Nat → Prop} {l : List RW} (h : SlS RWE w S A l) : SlS WrE w S A (l.map RW.w) := by
  obtain ⟨h1, vs, h2, h3, h4⟩ := h
  refine ⟨by rw [List.length_map]; exact h1, vs, by rw [List.length_map]; exact h2, by rw [List.length_map]; exact h3, WrE.of_flat h4⟩
theorem Tryz.infoWrite2 : (Tryz.prog.info? 61).map (fun i => (i.zero, i.size, i.bytes)) = some (some (.agg #[.slice none 0 0, .slice none 0 0, .bool false]), 3, 56) := by kernel_rfl
theorem Tryz.size_WriteR : (Tryz.prog.info? 61).map (·.size) = some 3 := by kernel_rfl
theorem own_emptyZ {X : World} {g base size : Nat} {t : TypeId} (h : Blk X g t #[]) (hb : base ≤ g) : X.ownsRow base t size (.slice (some ⟨g, 0, none⟩) 0 0) 0 [] :=
  ⟨by simp, .inr ⟨g, 0, #[], rfl, hb, h, by omega, by simp [maxLen], by simp, by simp⟩⟩
theorem Own.steps {α : Type} {E : ER α} {w w' : World} {S : Nat → Prop} {t : TypeId} {B : Nat} {v v' : Value} {xs ys : List α} {vs us : List Value} (hf : E.flat w (fun b => S b ∧ v.ownBlock ≠ some b) vs xs) (hx : E.flat w (fun b => S b ∧ v.ownBlock ≠ some b) us ys)
    (hown : w'.ownsRow B t E.size v' (xs.length + ys.length) (vs ++ us)) (hg : w.grownBy w' v.ownBlock) (hat : v'.ownBlock = v.ownBlock ∨ v'.ownBlock = some w.heap.size) : Own E t w' B S v' (xs ++ ys) := by
  refine ⟨vs ++ us, by rw [List.length_append]; exact hown, ?_⟩
  have h1 := ER.flat_mono (S' := fun b => (S b ∧ v.ownBlock ≠ some b) ∧ b < w.heap.size) (fun b hl hb => ⟨hb, hl⟩) (ER.flat_append hf hx)
  have h2 := ER.flat_same (.of_grown hg fun b hb => hb.1.2) h1
  refine ER.flat_mono (fun b _ hb => ⟨hb.1.1, ?_⟩) h2
  rcases hat with e | e <;> rw [e]
  · exact hb.1.2
  · intro e; have := Option.some.inj e; omega
theorem wpList_appM {α : Type} (E : ER α) (b : Nat) (w0 w : World) {ops : Array Oper} {rest : List Oper} {o : Oper} {a : Act} {Q : Exit → Act → World → Prop} (hgd : o.guard = none) (s x : Operand) (t ty : TypeId)
    (ho : o.op = .call { callee := .builtin .append, args := #[s, x], argTypes := #[ty, ty] }) (i : TypeInfo) (z : Value) (ht : Tryz.prog.underlying ty = some (.slice t)) (hi : Tryz.prog.info? t = some i) (hz : i.zero = some z) (hsize : i.size = E.size) (hby : i.bytes = E.bytes) (hzs : z.cells.size = E.size)
    (S : Nat → Prop) (A : Option Addr) (xs : List α) (c : Nat) (hs : a.eval s = .slice A xs.length c) (hown : Own E t w b S (.slice A xs.length c) xs)
    (B : Option Addr) (ys : List α) (d : Nat) (hx : a.eval x = .slice B ys.length d) (us : List Value) (hru : Reads w w.heap.size E.size B ys.length us) (hrep : E.flat w (fun b => S b ∧ (Value.slice A xs.length c).ownBlock ≠ some b) us ys)
    (hl : (xs.length + ys.length) * E.bytes ≤ 140737488355328) (hl2 : xs.length + ys.length ≤ maxLen) (hb : Below w0.heap.size w0 w) (hb0 : w0.heap.size ≤ b) (hbw : b ≤ w.heap.size)
    (h : ∀ A' c' xs' w', Hid (xs' = xs ++ ys) → Own E t w' b S (.slice A' xs'.length c') xs' → Below w0.heap.size w0 w' → w.grownBy w' (Value.slice A xs.length c).ownBlock → wpList Tryz.prog ops Q rest (a.put o.dst (.slice A' xs'.length c')) w') : wpList Tryz.prog ops Q (o :: rest) a w := by
  have hlt := Own.lt hown
  obtain ⟨vs, hown, hf⟩ := hown
  refine wpList_append_sh w hgd s x ty ho b t i z E.size E.bytes ht hi hz hsize hby hzs E.pos _ _ _ hs hown _ B ys.length d us hx hru (ER.flat_one hrep) hl2 hl hbw ?_
  intro A' c' w' o' g' t'
  have hst := Own.steps (S := S) hf hrep o' g' t'
  have e : xs.length + ys.length = (xs ++ ys).length := by rw [List.length_append]
  rw [e] at hst t' ⊢
  exact h A' c' (xs ++ ys) w' rfl hst (hb.grown g' hb.size fun j hj => by have := (hlt j hj).1; omega) g'
theorem bs_ltP {w : World} {A : Option Addr} {l : List UInt8} (h : Bs w A l) (ad : Addr) (e : A = some ad) (hn : 0 < l.length) : ad.block < w.heap.size := by
  obtain ⟨a2, h1, h2, _⟩ := h.1.2 hn
  rw [e] at h1
  injection h1 with h1
  subst h1
  exact h2
theorem putL_at : ∀ (l : List Wr) (x : Wr) (n : Nat), n ≤ l.length → (∀ y ∈ l.drop n, cmpL x.1 y.1 < 0) → (n = 0 ∨ ∃ h : n - 1 < l.length, ¬ cmpL x.1 l[n - 1].1 < 0) → putL l x = l.take n ++ x :: l.drop n
  | [], x, n, hn, _, _ => by
    obtain rfl : n = 0 := by simpa using hn
    rfl
  | y :: r, x, 0, _, h, _ => by
    unfold putL
    rw [if_pos ⟨h y (by simp), fun z hz => h z (by simp [hz])⟩]
    rfl
  | y :: r, x, n + 1, hn, h, hs => by
    obtain ⟨h1, h2⟩ := hs.resolve_left (by omega)
    have hno : ¬ (cmpL x.1 y.1 < 0 ∧ ∀ z ∈ r, cmpL x.1 z.1 < 0) := by
      rintro ⟨h3, h4⟩
      cases n with
      | zero => exact h2 h3
      | succ m =>
        refine h2 (h4 _ ?_)
        show (y :: r)[m + 1] ∈ r
        rw [List.getElem_cons_succ]
        exact List.getElem_mem _
    unfold putL
    rw [if_neg hno, putL_at r x n (by simpa using hn) (by simpa using h) ?_]
    · rfl
    · cases n with
      | zero => exact .inl rfl
      | succ m =>
        refine .inr ⟨by simp at hn ⊢; omega, ?_⟩
        have h3 : ¬ cmpL x.1 (y :: r)[m + 1].1 < 0 := h2
        rw [List.getElem_cons_succ] at h3
        exact h3
theorem putL_len (l : List Wr) (x : Wr) : (putL l x).length = l.length + 1 := by
  rw [(putL_perm l x).length_eq, List.length_cons]
/-- a value by its key, if there is one -/
def RetFind (o : Option (List UInt8)) (w : World) (en : Ending) (w' : World) : Prop :=
  ∃ V d, en = .returned (.tuple #[.slice V (o.getD []).length d, .bool o.isSome]) ∧ Bs w' V (o.getD []) ∧ ∃ n, w' = w.drewN n
theorem find_at {α : Type} {f : α → Bool} {l : List α} {k : Nat} (hk : k < l.length) (h1 : l.take k |>.all fun x => !f x) (h2 : f l[k] = true) : l.find? f = some l[k] := by
  have e : l = l.take k ++ l[k] :: l.drop (k + 1) := by rw [List.getElem_cons_drop, List.take_append_drop]
  have hn : (l.take k).find? f = none := by
    rw [List.find?_eq_none]
    intro x hx
    have := List.all_eq_true.1 h1 x hx
    simpa using this
  conv => lhs; rw [e]
  rw [List.find?_append, hn, List.find?_cons, h2]
  rfl
theorem take_all {α : Type} {f : α → Bool} {l : List α} {k : Nat} (hk : k < l.length) (h1 : (l.take k).all f = true) (h2 : f l[k] = true) : (l.take (k + 1)).all f = true := by
  rw [List.take_succ_eq_append_getElem hk, List.all_append, h1]
  simp [h2]
set_option maxRecDepth 100000 in
set_option maxHeartbeats 1000000 in
theorem rfind_any (l : List (List UInt8 × List UInt8)) (key : List UInt8) (A K : Option Addr) (c d : Nat) (w : World) (hA : Sl PairE w A l) (hK : Bs w K key) :
    Calls Tryz.prog 25 #[.slice A l.length c, .slice K key.length d] w (RetFind ((l.find? fun p => p.1 == key).map Prod.snd) w) := by
  have hl := hA.le
  go_enter Tryz.func25, Tryz.ntmps25
  go_wp2_with fail
  go_loopw [6] (fun i wr => ∃ k n : Nat, k ≤ l.length ∧ i = .int .i64 (k : Int) ∧ wr = w.drewN n ∧ (l.take k).all (fun p => !(p.1 == key)) = true) (fun i _ => l.length - (intOf i).toNat)
  case atStart => exact ⟨0, 0, Nat.zero_le _, rfl, rfl, rfl⟩
  case round =>
    obtain ⟨k, n, hk, rfl, rfl, hall⟩ := hrel
    have HALL := Lib.hid hall
    clear hall
    by_cases hlt : k < l.length
    · have z1 : (k : Int) < (l.length : Int) := by omega
      obtain ⟨ad, P, p, Q, q, rfl, ha, f0, f1, ⟨hP, -⟩, hQ, -⟩ := PairE.at_ hA hlt
      have T := equal_any P K l[k].1 key p d (w.drewN n) (hP.drewN n) (hK.drewN n)
      cases hb : (l[k].1 == key) with
      | true =>
        have HF : Hid ((l.find? fun p => p.1 == key).map Prod.snd = some l[k].2) := by show _ = _; rw [find_at hlt HALL.out hb]; rfl
        rw [hb] at T
        clear hb
        generalize l[k] = pr at *
        go_wp2_with fail
        refine T.mono ?_
        rintro en w2 ⟨rfl, m, rfl⟩
        go_wp2_with fail
        go_ret2
        rw [HF.out]
        exact ⟨Q, q, rfl, (hQ.drewN n).drewN m, n + m, rfl⟩
      | false =>
        have HN : Hid ((l.take (k + 1)).all (fun p => !(p.1 == key)) = true) := take_all hlt HALL.out (by show (!(l[k].1 == key)) = true; rw [hb]; rfl)
        rw [hb] at T
        clear hb
        generalize l[k] = pr at *
        go_wp2_with fail
        refine T.mono ?_
        rintro en w2 ⟨rfl, m, rfl⟩
        go_wp2_with fail
        go_roundw
        case rel => exact ⟨k + 1, n + m, by omega, by go_num, rfl, HN.out⟩
        case measure => simp [intOf]; omega
    · obtain rfl : k = l.length := by omega
      have HF : Hid ((l.find? fun p => p.1 == key).map Prod.snd = none) := by
        show _ = _
        have h := HALL.out
        rw [List.take_length] at h
        have hn : (l.find? fun p => p.1 == key) = none := by
          rw [List.find?_eq_none]
          intro x hx
          have := List.all_eq_true.1 h x hx
          simpa using this
        rw [hn]; rfl
      go_wp2_with fail
      go_ret2
      rw [HF.out]
      exact ⟨none, 0, rfl, Bs.nil_ _ _, n, rfl⟩
set_option maxRecDepth 100000 in
set_option maxHeartbeats 4000000 in
theorem samew_any (ws : List Wr) (A B : Option Addr) (c d : Nat) (w : World) (hA : Sl WrE w A ws) (hB : Sl WrE w B ws) : Calls Tryz.prog 8 #[.slice A ws.length c, .slice B ws.length d] w fun en w' => en = .returned (.bool true) ∧ ∃ n, w' = w.drewN n := by
  have hl := hA.le
  go_enter Tryz.func8, Tryz.ntmps8
  go_wp2_with fail
  go_loopw [5] (fun i wr => ∃ k n : Nat, k ≤ ws.length ∧ i = .int .i64 (k : Int) ∧ wr = w.drewN n) (fun i _ => ws.length - (intOf i).toNat)
  case atStart => exact ⟨0, 0, Nat.zero_le _, rfl, rfl⟩
  case round =>
    obtain ⟨k, n, hk, rfl, rfl⟩ := hrel
    by_cases hlt : k < ws.length
    · have z1 : (k : Int) < (ws.length : Int) := by omega
      obtain ⟨ad, P, p, Q, q, rfl, ha, f0, f1, f2, ⟨hP, -⟩, hQ, -⟩ := WrE.at_ hA hlt
      obtain ⟨bd, R, r, O, o, rfl, hb, i0, i1, i2, ⟨hR, -⟩, hO, -⟩ := WrE.at_ hB hlt
      generalize ws[k] = pr at *
      have t1 : ∀ m, Calls Tryz.prog 15 #[.slice P pr.1.length p, .slice R pr.1.length r] (w.drewN (n + m)) fun e w' => e = .returned (.bool true) ∧ ∃ q, w' = w.drewN (n + q) := fun m =>
        (equal_any P R pr.1 pr.1 p r (w.drewN (n + m)) (hP.drewN _) (hR.drewN _)).mono fun _ _ ⟨he, q, hm⟩ => ⟨by rw [he]; simp, m + q, by rw [hm, World.drewN_drewN, Nat.add_assoc]⟩
      have t2 : ∀ m, Calls Tryz.prog 15 #[.slice Q pr.2.1.length q, .slice O pr.2.1.length o] (w.drewN (n + m)) fun e w' => e = .returned (.bool true) ∧ ∃ q, w' = w.drewN (n + q) := fun m =>
        (equal_any Q O pr.2.1 pr.2.1 q o (w.drewN (n + m)) (hQ.drewN _) (hO.drewN _)).mono fun _ _ ⟨he, q, hm⟩ => ⟨by rw [he]; simp, m + q, by rw [hm, World.drewN_drewN, Nat.add_assoc]⟩
      have T1 := Lib.hid t1
      have T2 := Lib.hid t2
      have dg : (pr.2.2 != pr.2.2) = false := by simp
      clear t1 t2
      go_upto_region 6 with fail
      go_quiet (first | (go_at_call 15; with_reducible exact T1.out _) | (go_at_call 15; with_reducible exact T2.out _))
      go_wp2_with fail
      go_roundw
      case rel => exact ⟨k + 1, n + nq, by omega, by go_num, rfl⟩
      case measure => simp [intOf]; omega
    · obtain rfl : k = ws.length := by omega
      go_wp2_with fail
      go_ret
      exact ⟨rfl, n, rfl⟩
/-- a list of writes in a row -/
def RetPut (m : List Wr) (w : World) (en : Ending) (w' : World) : Prop :=
  ∃ D d, en = .returned (.slice D m.length d) ∧ Sl WrE w' D m ∧ (m.length ≤ d ∧ d ≤ 9223372036854775807) ∧ Below w.heap.size w w'
set_option maxRecDepth 100000 in
set_option maxHeartbeats 4000000 in
theorem putw_any (l : List Wr) (x : Wr) (A K V : Option Addr) (c ck cv : Nat) (w : World) (hA : Sl WrE w A l) (hc : l.length ≤ c ∧ c ≤ 9223372036854775807) (hK : Bs w K x.1) (hV : Bs w V x.2.1) (hl : l.length ≤ 100) :
    Calls Tryz.prog 26 #[.slice A l.length c, .agg #[.slice K x.1.length ck, .slice V x.2.1.length cv, .bool x.2.2]] w (RetPut (putL l x) w) := by
  obtain ⟨i1, hi1, hy0, hy1, hy2⟩ := info_parts Tryz.infoWrite2
  have b0 : Below w.heap.size w (w.alloc (.cells #[.slice K x.1.length ck, .slice V x.2.1.length cv, .bool x.2.2] 61)) := (Below.refl _ _).alloc (Nat.le_refl _) _
  have k0 := Blk.new w 61 #[.slice K x.1.length ck, .slice V x.2.1.length cv, .bool x.2.2]
  have hA0 := hA.old.below b0
  have hK0 := hK.below b0
  have hV0 := hV.below b0
  go_enter Tryz.func26, Tryz.ntmps26
  go_wp2_with fail
  generalize (w.alloc (.cells #[.slice K x.1.length ck, .slice V x.2.1.length cv, .bool x.2.2] 61)) = X at *
  have lX := k0.lt
  have y0 : X.cell? ⟨w.heap.size, 0, none⟩ = some (.slice K x.1.length ck) := k0.cell 0
  go_loopw [5] (fun i wr => ∃ n m : Nat, n ≤ l.length ∧ i = .int .i64 (n : Int) ∧ (∀ y ∈ l.drop n, cmpL x.1 y.1 < 0) ∧ wr = X.drewN m) (fun i _ => (intOf i).toNat)
  case atStart => exact ⟨l.length, 0, Nat.le_refl _, rfl, fun y hy => absurd hy (by rw [List.drop_length]; simp), rfl⟩
  case round =>
    obtain ⟨n, m, hn, rfl, hall, rfl⟩ := hrel
    have HALL := Lib.hid hall
    clear hall
    have HLEN := hn
    by_cases hn0 : n = 0
    · subst hn0
      have f0 : decide (0 < 0) = false := rfl
      have HPUT : Hid (putL l x = l.take 0 ++ x :: l.drop 0) := putL_at l x 0 hn HALL.out (.inl rfl)
      go_upto_region 2 with fail
      go_quiet (fail)
      try simp only [World.drewN_drewN]
      obtain ⟨y1, hy1e⟩ : ∃ y, y = l.take 0 := ⟨_, rfl⟩
      obtain ⟨y2, hy2e⟩ : ∃ y, y = l.drop 0 := ⟨_, rfl⟩
      rw [← hy1e, ← hy2e] at HPUT
      have hyl : y1.length = 0 := by rw [hy1e, List.length_take]; omega
      have hzl : y2.length = l.length - 0 := by rw [hy2e]; exact List.length_drop ..
      have hzl2 : y2.length ≤ 100 := by omega
      have hyl2 : y1.length ≤ 100 := by omega
      have bZ : Below X.heap.size X (X.drewN (m + nq)) := below_drewN (Below.refl _ _) _
      have kZ := k0.drewN (m + nq)
      have hAZ := hA0.drewN (m + nq)
      have hKZ := hK0.drewN (m + nq)
      have hVZ := hV0.drewN (m + nq)
      have zZ : X.heap.size ≤ (X.drewN (m + nq)).heap.size := bZ.size
      have b0Z := b0.trans (bZ.mono b0.size)
      have aK : At (fun b => b < w.heap.size) K x.1.length := fun ad e hn => bs_ltP hK ad e hn
      have aV : At (fun b => b < w.heap.size) V x.2.1.length := fun ad e hn => bs_ltP hV ad e hn
      generalize X.drewN (m + nq) = Z at *
      have dY : Below Z.heap.size Z (Z.alloc (.cells #[] 61)) := (Below.refl _ _).alloc (Nat.le_refl _) _
      have oE : Own WrE 61 (Z.alloc (.cells #[] 61)) Z.heap.size (fun b => b < w.heap.size) (.slice (some ⟨Z.heap.size, 0, none⟩) 0 0) [] := ⟨[], own_emptyZ (Blk.new Z 61 #[]) (Nat.le_refl _), rfl⟩
      have hAY := hAZ.below dY
      have kY := kZ.below dY kZ.lt
      have zY := dY.size
      have lkZ := kZ.lt
      have hYs : Z.heap.size < (Z.alloc (.cells #[] 61)).heap.size := by simp
      have hTK := hAY.take 0 hn
      rw [← hy1e] at hTK
      obtain ⟨us, hru, hrf⟩ := hTK.reads
      have hKY := hKZ.below dY
      have hVY := hVZ.below dY
      have hrf2 : WrE.flat (Z.alloc (.cells #[] 61)) (fun b => b < w.heap.size ∧ (Value.slice (some ⟨Z.heap.size, 0, none⟩) 0 0).ownBlock ≠ some b) us y1 := ER.flat_mono (fun b _ hb => ⟨hb, fun e => by have : Z.heap.size = b := Option.some.inj e; omega⟩) hrf
      have HYL := Lib.hid hyl
      have HZL := Lib.hid hzl
      have HY2 := Lib.hid hy2e
      clear hyl hzl
      clear hrf
      clear hAZ hKZ hVZ kZ
      clear hA0 hK0 hV0
      clear hy1e hy2e
      by_cases hcn : c = 0
      all_goals
        first
        | (have hcd : ¬ c = 0 := hcn; have HB : Hid ((if c = 0 then A else A.map (·.add (0 * 3))) = A) := by (show _ = _; rw [if_neg hcn]; cases A <;> simp [Addr.add]))
        | (have HB : Hid ((if c = 0 then A else A.map (·.add (0 * 3))) = A) := if_pos hcn)
        go_wp2_with (first
          | (at_builtin; refine wpList_appM WrE Z.heap.size Z _ rfl (.tmp 25) (.tmp 28) 61 31 rfl i1 _ Tryz.underlying31 hi1 hy0 hy1 hy2 rfl (fun b => b < w.heap.size) (some ⟨Z.heap.size, 0, none⟩) [] 0 rfl oE _ y1 _ (by rw [HYL.out]; rfl) us hru hrf2 (by simp only [WrE, List.length_nil]; omega) (by simp only [maxLen, List.length_nil]; omega) dY (Nat.le_refl _) zY ?_; intro A6 c6 xs6 w6 H6 o6 b6 g6; have hxl6 : xs6.length ≤ 100 := (by rw [H6.out, List.nil_append]; exact hyl2); have k6 := kY.grown g6 (fun e => by have : Z.heap.size = w.heap.size := (Option.some.inj e).symm; omega); have hA6 := hAY.same (.of_grown g6 (fun b hb e => by have : Z.heap.size = b := Option.some.inj e; omega)); have hK6 := hKY.sameS (S := fun b => b < w.heap.size) aK (.of_grown g6 (fun b hb e => by have : Z.heap.size = b := Option.some.inj e; omega)); have hV6 := hVY.sameS (S := fun b => b < w.heap.size) aV (.of_grown g6 (fun b hb e => by have : Z.heap.size = b := Option.some.inj e; omega)); have z6 := b6.size; have dY2 : Below w6.heap.size w6 (w6.alloc (.cells #[.slice K x.1.length ck, .slice V x.2.1.length cv, .bool x.2.2] 61)) := (Below.refl _ _).alloc (Nat.le_refl _) _; have bY2 := b6.trans (dY2.mono b6.size); have oY2 := Own.below o6 dY2; have hAY2 := hA6.below dY2; have hKY2 := hK6.below dY2; have hVY2 := hV6.below dY2; have zY2 := dY2.size; have hlo : ∀ g, (Value.slice A6 xs6.length c6).ownBlock = some g → Z.heap.size ≤ g := (fun g e => (Own.lt o6 g e).1); have HLO := Lib.hid hlo; clear hlo)
          | ((with_reducible refine wpList_load_blk rfl 61 (.tmp 3) rfl w.heap.size ?_ 61 _ _ k6 Tryz.underlying61 ?_ Tryz.size_WriteR ?_ ?_); rfl; rfl; rfl)
          | (at_builtin; refine wpList_appE WrE Z.heap.size Z _ rfl (.tmp 30) (.tmp 32) 61 31 rfl i1 _ Tryz.underlying31 hi1 hy0 hy1 hy2 rfl _ A6 xs6 c6 rfl oY2 _ [.slice K x.1.length ck, .slice V x.2.1.length cv, .bool x.2.2] x 1 rfl _ (Reads.newN w6 [.slice K x.1.length ck, .slice V x.2.1.length cv, .bool x.2.2] 61) ⟨K, ck, V, cv, rfl, ⟨hKY2, fun ad e hn => ⟨aK ad e hn, fun e2 => by have h1 := HLO.out _ e2; have h2 := aK ad e hn; have h3 : ad.block < w.heap.size := h2; omega⟩⟩, hVY2, fun ad e hn => ⟨aV ad e hn, fun e2 => by have h1 := HLO.out _ e2; have h2 := aV ad e hn; have h3 : ad.block < w.heap.size := h2; omega⟩⟩ (by simp only [WrE]; omega) (by simp only [maxLen]; omega) bY2 (Nat.le_refl _) bY2.size ?_; intro A8 c8 xs8 w8 H8 o8 b8 g8 t8; have hxl8 : xs8.length ≤ 101 := (by rw [H8.out, List.length_append, List.length_singleton]; omega); have hA8 := hAY2.same (.of_grown g8 (fun b hb e => by have h1 := HLO.out _ e; have h2 : b < w.heap.size := hb; omega)); have hlo8 : ∀ g, (Value.slice A8 xs8.length c8).ownBlock = some g → Z.heap.size ≤ g := (fun g e => (Own.lt o8 g e).1); have HLO8 := Lib.hid hlo8; clear hlo8; have hD8 := SlS.drop hA8 (k := 0) (cap := c) hn hc.1; rw [← HY2.out] at hD8; obtain ⟨us8, hru8, hrf8⟩ := hD8.reads; have hru9 : Reads w8 w8.heap.size 3 (if c = 0 then A else A.map (·.add (0 * 3))) y2.length us8 := hru8; have hrg8 : WrE.flat w8 (fun b => b < w.heap.size ∧ (Value.slice A8 xs8.length c8).ownBlock ≠ some b) us8 y2 := ER.flat_mono (fun b _ hb => ⟨hb, fun e => by have h1 := HLO8.out _ e; have h2 : b < w.heap.size := hb; omega⟩) hrf8; rw [HB.out] at hru9)
          | (at_builtin; refine wpList_appM WrE Z.heap.size Z _ rfl (.tmp 34) (.tmp 37) 61 31 rfl i1 _ Tryz.underlying31 hi1 hy0 hy1 hy2 rfl (fun b => b < w.heap.size) A8 xs8 c8 rfl o8 _ y2 _ (by rw [HZL.out]; rfl) us8 hru9 hrg8 (by simp only [WrE]; omega) (by simp only [maxLen]; omega) b8 (Nat.le_refl _) b8.size ?_; intro A9 c9 xs9 w9 H9 o9 b9 g9))
        go_ret
        have hE : xs9 = putL l x := by rw [H9.out, H8.out, H6.out, HPUT.out, List.nil_append, List.append_assoc]; rfl
        have hx9 : xs9.length ≤ 101 := by rw [hE, putL_len]; omega
        rw [← hE]
        exact ⟨A9, c9, rfl, Own.sl o9 (by simp only [WrE]; omega), Own.caps o9, b0Z.trans (b9.mono b0Z.size)⟩
    · have f0 : decide (0 < n) = true := by rw [decide_eq_true_eq]; omega
      obtain ⟨j, rfl⟩ : ∃ j, n = j + 1 := ⟨n - 1, by omega⟩
      have hj : j < l.length := by omega
      have hj1 : ((j + 1 : Nat) : Int) - 1 = (j : Int) := by omega
      have hj2 : (j : Int) < (l.length : Int) := by omega
      have hwj : IntKind.i64.wrap (j : Int) = (j : Int) := by
        simp only [IntKind.wrap]
        split <;> simp_all [IntKind.bits, IntKind.signed] <;> omega
      obtain ⟨ad, P, p, Q, q, rfl, ha, g0, g1, g2, ⟨hP, -⟩, -⟩ := WrE.at_ hA0 hj
      have hDR : l.drop j = l[j] :: l.drop (j + 1) := List.drop_eq_getElem_cons hj
      have HDR := Lib.hid hDR
      have HST : Hid (¬ cmpL x.1 l[j].1 < 0 → putL l x = l.take (j + 1) ++ x :: l.drop (j + 1)) := fun h => putL_at l x (j + 1) hn HALL.out (.inr ⟨by omega, h⟩)
      clear hDR hn0
      have t1 : ∀ i, Calls Tryz.prog 46 #[.slice K x.1.length ck, .slice P l[j].1.length p] (X.drewN (m + i)) fun e w' => e = .returned (.int .i64 (cmpL x.1 l[j].1)) ∧ ∃ q, w' = X.drewN (m + q) := fun i =>
        (cmp_any K P x.1 l[j].1 ck p (X.drewN (m + i)) (hK0.drewN _) (hP.drewN _)).mono fun _ _ ⟨he, q, hm⟩ => ⟨he, i + q, by rw [hm, World.drewN_drewN, Nat.add_assoc]⟩
      have T1 := Lib.hid t1
      clear t1
      generalize l[j] = pr at *
      generalize hcm : cmpL x.1 pr.1 = cm at *
      have HCM := Lib.hid hcm
      clear hcm
      by_cases hlt : cm < 0
      · have HA2 : Hid (∀ y ∈ l.drop j, cmpL x.1 y.1 < 0) := fun y hy => by
          rw [HDR.out] at hy
          rcases List.mem_cons.1 hy with rfl | hy
          · rw [HCM.out]; exact hlt
          · exact HALL.out y hy
        have d1_ : decide (cm < 0) = true := decide_eq_true hlt
        clear HST HALL
        go_upto_region 2 with fail
        go_quiet ((go_at_call 46; with_reducible exact T1.out _))
        go_wp2_with fail
        go_roundw
        case rel => exact ⟨j, m + nq, by omega, by go_num, HA2.out, rfl⟩
        case measure => simp [intOf]
      · have HPUT : Hid (putL l x = l.take (j + 1) ++ x :: l.drop (j + 1)) := HST.out hlt
        have d1_ : decide (cm < 0) = false := decide_eq_false hlt
        clear HST HALL HCM
        go_upto_region 2 with fail
        go_quiet ((go_at_call 46; with_reducible exact T1.out _))
        try simp only [World.drewN_drewN]
        obtain ⟨y1, hy1e⟩ : ∃ y, y = l.take (j + 1) := ⟨_, rfl⟩
        obtain ⟨y2, hy2e⟩ : ∃ y, y = l.drop (j + 1) := ⟨_, rfl⟩
        rw [← hy1e, ← hy2e] at HPUT
        have hyl : y1.length = (j + 1) := by rw [hy1e, List.length_take]; omega
        have hzl : y2.length = l.length - (j + 1) := by rw [hy2e]; exact List.length_drop ..
        have hzl2 : y2.length ≤ 100 := by omega
        have hyl2 : y1.length ≤ 100 := by omega
        have bZ : Below X.heap.size X (X.drewN (m + nq)) := below_drewN (Below.refl _ _) _
        have kZ := k0.drewN (m + nq)
        have hAZ := hA0.drewN (m + nq)
        have hKZ := hK0.drewN (m + nq)
        have hVZ := hV0.drewN (m + nq)
        have zZ : X.heap.size ≤ (X.drewN (m + nq)).heap.size := bZ.size
        have b0Z := b0.trans (bZ.mono b0.size)
        have aK : At (fun b => b < w.heap.size) K x.1.length := fun ad e hn => bs_ltP hK ad e hn
        have aV : At (fun b => b < w.heap.size) V x.2.1.length := fun ad e hn => bs_ltP hV ad e hn
        generalize X.drewN (m + nq) = Z at *
        have dY : Below Z.heap.size Z (Z.alloc (.cells #[] 61)) := (Below.refl _ _).alloc (Nat.le_refl _) _
        have oE : Own WrE 61 (Z.alloc (.cells #[] 61)) Z.heap.size (fun b => b < w.heap.size) (.slice (some ⟨Z.heap.size, 0, none⟩) 0 0) [] := ⟨[], own_emptyZ (Blk.new Z 61 #[]) (Nat.le_refl _), rfl⟩
        have hAY := hAZ.below dY
        have kY := kZ.below dY kZ.lt
        have zY := dY.size
        have lkZ := kZ.lt
        have hYs : Z.heap.size < (Z.alloc (.cells #[] 61)).heap.size := by simp
        have hTK := hAY.take (j + 1) hn
        rw [← hy1e] at hTK
        obtain ⟨us, hru, hrf⟩ := hTK.reads
        have hKY := hKZ.below dY
        have hVY := hVZ.below dY
        have hrf2 : WrE.flat (Z.alloc (.cells #[] 61)) (fun b => b < w.heap.size ∧ (Value.slice (some ⟨Z.heap.size, 0, none⟩) 0 0).ownBlock ≠ some b) us y1 := ER.flat_mono (fun b _ hb => ⟨hb, fun e => by have : Z.heap.size = b := Option.some.inj e; omega⟩) hrf
        have HYL := Lib.hid hyl
        have HZL := Lib.hid hzl
        have HY2 := Lib.hid hy2e
        clear hyl hzl
        clear hrf
        clear hAZ hKZ hVZ kZ
        clear hA0 hK0 hV0
        clear hy1e hy2e
        by_cases hcn : c = (j + 1)
        all_goals
          first
          | (have hcd : ¬ c = (j + 1) := hcn; have HB : Hid ((if c = (j + 1) then (some ad) else (some ad : Option Addr).map (·.add ((j + 1) * 3))) = (some ad : Option Addr).map (·.add ((j + 1) * 3))) := if_neg hcn)
          | (have HB : Hid ((if c = (j + 1) then (some ad) else (some ad : Option Addr).map (·.add ((j + 1) * 3))) = some ad) := if_pos hcn)
          go_wp2_with (first
            | (at_builtin; refine wpList_appM WrE Z.heap.size Z _ rfl (.tmp 25) (.tmp 28) 61 31 rfl i1 _ Tryz.underlying31 hi1 hy0 hy1 hy2 rfl (fun b => b < w.heap.size) (some ⟨Z.heap.size, 0, none⟩) [] 0 rfl oE _ y1 _ (by rw [HYL.out]; rfl) us hru hrf2 (by simp only [WrE, List.length_nil]; omega) (by simp only [maxLen, List.length_nil]; omega) dY (Nat.le_refl _) zY ?_; intro A6 c6 xs6 w6 H6 o6 b6 g6; have hxl6 : xs6.length ≤ 100 := (by rw [H6.out, List.nil_append]; exact hyl2); have k6 := kY.grown g6 (fun e => by have : Z.heap.size = w.heap.size := (Option.some.inj e).symm; omega); have hA6 := hAY.same (.of_grown g6 (fun b hb e => by have : Z.heap.size = b := Option.some.inj e; omega)); have hK6 := hKY.sameS (S := fun b => b < w.heap.size) aK (.of_grown g6 (fun b hb e => by have : Z.heap.size = b := Option.some.inj e; omega)); have hV6 := hVY.sameS (S := fun b => b < w.heap.size) aV (.of_grown g6 (fun b hb e => by have : Z.heap.size = b := Option.some.inj e; omega)); have z6 := b6.size; have dY2 : Below w6.heap.size w6 (w6.alloc (.cells #[.slice K x.1.length ck, .slice V x.2.1.length cv, .bool x.2.2] 61)) := (Below.refl _ _).alloc (Nat.le_refl _) _; have bY2 := b6.trans (dY2.mono b6.size); have oY2 := Own.below o6 dY2; have hAY2 := hA6.below dY2; have hKY2 := hK6.below dY2; have hVY2 := hV6.below dY2; have zY2 := dY2.size; have hlo : ∀ g, (Value.slice A6 xs6.length c6).ownBlock = some g → Z.heap.size ≤ g := (fun g e => (Own.lt o6 g e).1); have HLO := Lib.hid hlo; clear hlo)
            | ((with_reducible refine wpList_load_blk rfl 61 (.tmp 3) rfl w.heap.size ?_ 61 _ _ k6 Tryz.underlying61 ?_ Tryz.size_WriteR ?_ ?_); rfl; rfl; rfl)
            | (at_builtin; refine wpList_appE WrE Z.heap.size Z _ rfl (.tmp 30) (.tmp 32) 61 31 rfl i1 _ Tryz.underlying31 hi1 hy0 hy1 hy2 rfl _ A6 xs6 c6 rfl oY2 _ [.slice K x.1.length ck, .slice V x.2.1.length cv, .bool x.2.2] x 1 rfl _ (Reads.newN w6 [.slice K x.1.length ck, .slice V x.2.1.length cv, .bool x.2.2] 61) ⟨K, ck, V, cv, rfl, ⟨hKY2, fun ad e hn => ⟨aK ad e hn, fun e2 => by have h1 := HLO.out _ e2; have h2 := aK ad e hn; have h3 : ad.block < w.heap.size := h2; omega⟩⟩, hVY2, fun ad e hn => ⟨aV ad e hn, fun e2 => by have h1 := HLO.out _ e2; have h2 := aV ad e hn; have h3 : ad.block < w.heap.size := h2; omega⟩⟩ (by simp only [WrE]; omega) (by simp only [maxLen]; omega) bY2 (Nat.le_refl _) bY2.size ?_; intro A8 c8 xs8 w8 H8 o8 b8 g8 t8; have hxl8 : xs8.length ≤ 101 := (by rw [H8.out, List.length_append, List.length_singleton]; omega); have hA8 := hAY2.same (.of_grown g8 (fun b hb e => by have h1 := HLO.out _ e; have h2 : b < w.heap.size := hb; omega)); have hlo8 : ∀ g, (Value.slice A8 xs8.length c8).ownBlock = some g → Z.heap.size ≤ g := (fun g e => (Own.lt o8 g e).1); have HLO8 := Lib.hid hlo8; clear hlo8; have hD8 := SlS.drop hA8 (k := (j + 1)) (cap := c) hn hc.1; rw [← HY2.out] at hD8; obtain ⟨us8, hru8, hrf8⟩ := hD8.reads; have hru9 : Reads w8 w8.heap.size 3 (if c = (j + 1) then (some ad) else (some ad : Option Addr).map (·.add ((j + 1) * 3))) y2.length us8 := hru8; have hrg8 : WrE.flat w8 (fun b => b < w.heap.size ∧ (Value.slice A8 xs8.length c8).ownBlock ≠ some b) us8 y2 := ER.flat_mono (fun b _ hb => ⟨hb, fun e => by have h1 := HLO8.out _ e; have h2 : b < w.heap.size := hb; omega⟩) hrf8; rw [HB.out] at hru9)
            | (at_builtin; refine wpList_appM WrE Z.heap.size Z _ rfl (.tmp 34) (.tmp 37) 61 31 rfl i1 _ Tryz.underlying31 hi1 hy0 hy1 hy2 rfl (fun b => b < w.heap.size) A8 xs8 c8 rfl o8 _ y2 _ (by rw [HZL.out]; rfl) us8 hru9 hrg8 (by simp only [WrE]; omega) (by simp only [maxLen]; omega) b8 (Nat.le_refl _) b8.size ?_; intro A9 c9 xs9 w9 H9 o9 b9 g9))
          go_ret
          have hE : xs9 = putL l x := by rw [H9.out, H8.out, H6.out, HPUT.out, List.nil_append, List.append_assoc]; rfl
          have hx9 : xs9.length ≤ 101 := by rw [hE, putL_len]; omega
          rw [← hE]
          exact ⟨A9, c9, rfl, Own.sl o9 (by simp only [WrE]; omega), Own.caps o9, b0Z.trans (b9.mono b0Z.size)⟩
end Go.Proofs.YtfededjcadmpbaaGreatDoor
