/- An entry read back from bytes: catalog.Decode, with its deferred closure. -/
import Derived.Test.YtemidaamnldjmaaReadE
import Derived.Test.YtemidaamnldjmaaKeyF
import Derived.Test.YtemidaamnldjmaaPartC
import Derived.Test.YtemidaamnldjmaaWrE
import Derived.Test.YtemidaamnldjmaaBlkS
namespace Go.Proofs.Ytemidaamnldjmaa
open Go.RowKit

theorem getF_err : ∀ (l : List UInt8) (i n : Nat), (getF l i n).2.2 = 0 ∨ (getF l i n).2.2 = 3 ∨ (getF l i n).2.2 = 5
  | [], _, _ => .inr (.inr rfl)
  | x :: l, i, n => by
    unfold getF
    split
    · exact .inr (.inl rfl)
    · split
      · exact .inl rfl
      · exact getF_err l _ _
theorem partsA_err : ∀ (f : Nat) (l : List UInt8) (acc : List (List UInt8)), (partsA f l acc).2 = 0 ∨ (partsA f l acc).2 = 3 ∨ (partsA f l acc).2 = 5
  | 0, _, _ => .inl rfl
  | f + 1, l, acc => by
    unfold partsA
    split
    · exact .inl rfl
    · split
      · exact getF_err l 0 0
      · split
        · exact .inr (.inr rfl)
        · exact partsA_err f _ _
theorem decL_err (l : List UInt8) : (decL l).2 = 0 ∨ (decL l).2 = 3 ∨ (decL l).2 = 5 := by
  unfold decL
  split
  · exact partsA_err _ _ _
  · split
    · exact .inl rfl
    · exact .inr (.inl rfl)
theorem beF_lt8 : ∀ (l : List UInt8) (n : Nat), beF n l < (n + 1) * 256 ^ l.length
  | [], n => by show n < _; simp
  | x :: l, n => by
    have h := beF_lt8 l (n * 256 + x.toNat)
    have hx := x.toNat_lt
    show beF (n * 256 + x.toNat) l < _
    refine Nat.lt_of_lt_of_le h ?_
    rw [List.length_cons, Nat.pow_succ, show (n + 1) * (256 ^ l.length * 256) = ((n + 1) * 256) * 256 ^ l.length by rw [Nat.mul_assoc, Nat.mul_comm 256]]
    exact Nat.mul_le_mul_right _ (by omega)
theorem partV_wfv {p : List UInt8} {x : LVal} (h : partV p = some x) : x.wfv := by
  have z : (-9223372036854775808 : Int) ≤ 0 ∧ (0 : Int) < 9223372036854775808 := by decide
  cases p with
  | nil => cases h
  | cons k r =>
    have h1 : (if k = 0 then (if r.length = 0 then some LVal.null else none) else if k = 1 then (if r = [0] then some (.bool false) else if r = [1] then some (.bool true) else none)
      else if k = 2 then (if r.length = 8 then some (.int ((beF 0 r : Int) - 9223372036854775808)) else none) else if k = 3 then some (.text ⟨r.toArray⟩) else if k = 4 then some (.bytes r) else none) = some x := h
    by_cases c0 : k = 0
    · rw [if_pos c0] at h1
      by_cases d : r.length = 0
      · rw [if_pos d] at h1; cases h1; exact z
      · rw [if_neg d] at h1; cases h1
    rw [if_neg c0] at h1
    by_cases c1 : k = 1
    · rw [if_pos c1] at h1
      by_cases d : r = [0]
      · rw [if_pos d] at h1; cases h1; exact z
      · rw [if_neg d] at h1
        by_cases d2 : r = [1]
        · rw [if_pos d2] at h1; cases h1; exact z
        · rw [if_neg d2] at h1; cases h1
    rw [if_neg c1] at h1
    by_cases c2 : k = 2
    · rw [if_pos c2] at h1
      by_cases d : r.length = 8
      · rw [if_pos d] at h1
        have h9 := beF_lt8 r 0
        rw [d] at h9
        have h10 : beF 0 r < 18446744073709551616 := by simpa using h9
        cases h1
        show -9223372036854775808 ≤ ((beF 0 r : Int) - 9223372036854775808) ∧ ((beF 0 r : Int) - 9223372036854775808) < 9223372036854775808
        omega
      · rw [if_neg d] at h1; cases h1
    rw [if_neg c2] at h1
    by_cases c3 : k = 3
    · rw [if_pos c3] at h1; cases h1; exact z
    rw [if_neg c3] at h1
    by_cases c4 : k = 4
    · rw [if_pos c4] at h1; cases h1; exact z
    · rw [if_neg c4] at h1; cases h1
theorem mapV_wfv : ∀ {ps : List (List UInt8)} {xs : List LVal}, mapV ps = some xs → ∀ x ∈ xs, x.wfv
  | [], xs, h, x, hx => by cases h; cases hx
  | p :: ps, xs, h, x, hx => by
    unfold mapV at h
    cases hp : partV p with
    | none => rw [hp] at h; cases h
    | some y =>
      cases hq : mapV ps with
      | none => rw [hp, hq] at h; cases h
      | some ys =>
        rw [hp, hq] at h
        cases h
        rcases List.mem_cons.1 hx with rfl | hx
        · exact partV_wfv hp
        · exact mapV_wfv hq x hx
theorem decL_wfv (l : List UInt8) : ∀ x ∈ (decL l).1, x.wfv := by
  unfold decL
  split
  · intro x hx; cases hx
  · cases h : mapV (partsL l).1 with
    | none => intro x hx; cases hx
    | some xs => exact mapV_wfv h
theorem decL_len (l : List UInt8) : (decL l).1.length ≤ l.length := by
  unfold decL
  split
  · exact Nat.zero_le _
  · cases h : mapV (partsL l).1 with
    | none => exact Nat.zero_le _
    | some xs =>
      have h1 := mapV_len h
      have h2 := (partsA_small (f := l.length) (l := l) (acc := [])).1
      show xs.length ≤ _
      have h3 : (partsL l).1.length ≤ [].length + l.length := h2
      rw [List.length_nil] at h3
      omega
/-- what is answered: the entry, and the error -/
def decE (l : List UInt8) : LEnt × Int :=
  if (decL l).2 ≠ 0 then (.zero, (decL l).2) else match rdE (decL l).1 with
    | none => (.zero, 3)
    | some e => if e.check ≠ 0 then (.zero, 3) else (e, 0)
theorem decE_good {l : List UInt8} (h : (decE l).2 = 0) : (decE l).1.check = 0 := by
  unfold decE at h ⊢
  by_cases h1 : (decL l).2 ≠ 0
  · rw [if_pos h1] at h; exact absurd h h1
  · rw [if_neg h1] at h ⊢
    cases h2 : rdE (decL l).1 with
    | none => rw [h2] at h; exact absurd h (by decide)
    | some e =>
      rw [h2] at h
      show (if e.check ≠ 0 then ((.zero : LEnt), (3 : Int)) else (e, 0)).1.check = 0
      by_cases h3 : e.check ≠ 0
      · have h4 : (if e.check ≠ 0 then ((.zero : LEnt), (3 : Int)) else (e, 0)).2 = 0 := h
        rw [if_pos h3] at h4; exact absurd h4 (by decide)
      · rw [if_neg h3]; exact Classical.byContradiction h3
theorem decE_bad {l : List UInt8} (h : (decE l).2 ≠ 0) : (decE l).1 = .zero ∧ ((decE l).2 = 3 ∨ (decE l).2 = 5) := by
  unfold decE at h ⊢
  by_cases h1 : (decL l).2 ≠ 0
  · rw [if_pos h1]
    exact ⟨rfl, (decL_err l).resolve_left h1⟩
  · rw [if_neg h1] at h ⊢
    cases h2 : rdE (decL l).1 with
    | none => exact ⟨rfl, .inl rfl⟩
    | some e =>
      rw [h2] at h
      have h4 : (if e.check ≠ 0 then ((.zero : LEnt), (3 : Int)) else (e, 0)).2 ≠ 0 := h
      show (if e.check ≠ 0 then ((.zero : LEnt), (3 : Int)) else (e, 0)).1 = .zero ∧ ((if e.check ≠ 0 then ((.zero : LEnt), (3 : Int)) else (e, 0)).2 = 3 ∨ _)
      by_cases h3 : e.check ≠ 0
      · rw [if_pos h3]; exact ⟨rfl, .inl rfl⟩
      · rw [if_neg h3] at h4; exact absurd rfl h4
theorem decE_wr {e : LEnt} (h : e.check = 0) : decE (encL (wrE e)) = (e, 0) := by
  obtain ⟨h1, _⟩ := wrE_ok h
  have h2 := entry_states h
  unfold decE
  rw [decL_encL (fun x hx => (h1 x hx).2) (fun x hx => (h1 x hx).1)]
  rw [if_neg (fun h => h rfl)]
  show (match rdE (wrE e) with | none => ((.zero : LEnt), (3 : Int)) | some e => if e.check ≠ 0 then (.zero, 3) else (e, 0)) = _
  rw [rdE_wr e h2.2.1.symm]
  show (if e.check ≠ 0 then ((.zero : LEnt), (3 : Int)) else (e, 0)) = _
  rw [if_neg (fun h3 => h3 h)]
theorem frameL_le : ∀ {ls : List (List UInt8)}, (∀ p ∈ ls, p.length ≤ 16777216) → (frameL ls).length ≤ 33554433 * ls.length
  | [], _ => Nat.le_refl _
  | p :: ls, h => by
    have h1 := frameL_le (ls := ls) (fun q hq => h q (List.mem_cons_of_mem _ hq))
    have h2 := h p (List.mem_cons_self ..)
    have h3 := putU_len p.length (by omega)
    have h4 : (frameL (p :: ls)).length = (putU p.length).length + p.length + (frameL ls).length := by
      unfold frameL
      rw [List.flatMap_cons, List.length_append, List.length_append]
    rw [h4, List.length_cons]
    omega
theorem encL_le {xs : List LVal} (h : ∀ x ∈ xs, x.sm) (hl : xs.length ≤ 4096) : (encL xs).length ≤ 137438957568 := by
  have h1 := frameL_le (ls := xs.map LVal.part) (fun p hp => by obtain ⟨x, hx, rfl⟩ := List.mem_map.1 hp; exact part_len (h x hx))
  rw [List.length_map] at h1
  show (frameL (xs.map LVal.part)).length ≤ _
  omega
/-- an entry and an error are answered -/
def RetDecE (r : LEnt × Int) (w : World) (en : Ending) (w' : World) : Prop :=
  ∃ v, en = .returned (.tuple #[v, .int .i64 r.2]) ∧ valE w' r.1 v ∧ Below w.heap.size w w'
theorem valE.zero (w : World) : valE w .zero (.agg #[.int .i64 0, .string ⟨#[]⟩, .slice none 0 0, .int .i64 0, .slice none 0 0, .slice none 0 0]) :=
  ⟨none, none, none, 0, 0, 0, rfl, SlS.nil_ _ _ _ _, SlS.nil_ _ _ _ _, SlS.nil_ _ _ _ _, by decide⟩
theorem run_loadVar_int1 {P : Program} {w : World} {g : Nat} {t ty : TypeId} {k : IntKind} {n : Int} (hb : Blk w g t #[.int k n]) (hu : P.underlying ty = some (.int k)) : (loadVar ty ⟨g, 0, none⟩).run P w = .ok (.int k n) w := by
  have hc : w.cell? ⟨g, 0, none⟩ = some (.int k n) := hb.cell 0
  simp [loadVar, isAgg, run_underlying hu, hc]
theorem results_ci {P : Program} {fn : Func} {p q : Tmp} {ty tz : TypeId} (h : fn.results = #[.cell p ty, .cell q tz]) {tmps : Array Value} {w : World} {g1 g2 : Nat} {t1 t2 : TypeId} {cs : Array Value} {k : IntKind} {n : Int} {d1 : TypeDesc}
    (hp : tmps.getD p undef = .pointer (some ⟨g1, 0, none⟩)) (hq : tmps.getD q undef = .pointer (some ⟨g2, 0, none⟩)) (hb : Blk w g1 t1 cs) (hb2 : Blk w g2 t2 #[.int k n])
    (hu : P.underlying ty = some d1) (hd : (match d1 with | .struct _ | .array _ _ => true | _ => false) = true) (hi : (P.info? ty).map (·.size) = some cs.size)
    (hu2 : P.underlying tz = some (.int k)) :
    (results fn tmps).run P w = .ok (.tuple #[.agg cs, .int k n]) w := by
  rw [results_cell_cell h, hp, hq]
  simp [asAddr, run_loadVar_row w g1 t1 ty cs (0, 0) d1 hb hu hd hi, run_loadVar_int1 hb2 hu2, Result.andThen]
set_option maxRecDepth 100000 in
set_option maxHeartbeats 8000000 in
theorem decE_any (A : Option Addr) (l : List UInt8) (c : Nat) (w : World) (hb : Bs w A l) (hc : l.length ≤ c ∧ c ≤ 9223372036854775807) (hl5 : l.length ≤ 1099511627776) : Calls Try.prog 11 #[.slice A l.length c] w (RetDecE (decE l) w) := by
  have hmf : ∀ (fn : Fn) (first cap : Array Value) (w : World), (Instr.makeFunc fn first cap).run Try.prog w = .ok (.func fn first cap) w := fun _ _ _ _ => rfl
  have b0 : Below w.heap.size w ((w.alloc (.cells #[.int .i64 0, .string ⟨#[]⟩, .slice none 0 0, .int .i64 0, .slice none 0 0, .slice none 0 0] 33)).alloc (.cells #[.int .i64 0] 34)) := ((Below.refl _ _).alloc (Nat.le_refl _) _).alloc (by simp) _
  have kp : Blk ((w.alloc (.cells #[.int .i64 0, .string ⟨#[]⟩, .slice none 0 0, .int .i64 0, .slice none 0 0, .slice none 0 0] 33)).alloc (.cells #[.int .i64 0] 34)) w.heap.size 33 #[.int .i64 0, .string ⟨#[]⟩, .slice none 0 0, .int .i64 0, .slice none 0 0, .slice none 0 0] := (Blk.new w _ _).alloc _
  have kq := Blk.new2 w (.cells #[.int .i64 0, .string ⟨#[]⟩, .slice none 0 0, .int .i64 0, .slice none 0 0, .slice none 0 0] 33) 34 #[.int .i64 0]
  have hb0 := hb.below b0
  go_enter_defers Try.func11, Try.ntmps11
  go_wp2_with fail
  generalize ((w.alloc (.cells #[.int .i64 0, .string ⟨#[]⟩, .slice none 0 0, .int .i64 0, .slice none 0 0, .slice none 0 0] 33)).alloc (.cells #[.int .i64 0] 34)) = X at *
  have T := decode_any A l c X hb0 hc hl5
  have hdl := decL_len l
  have hwf := decL_wfv l
  have HDE : Hid (decE l = if (decL l).2 ≠ 0 then (.zero, (decL l).2) else match rdE (decL l).1 with | none => (.zero, 3) | some e => if e.check ≠ 0 then (.zero, 3) else (e, 0)) := rfl
  generalize decL l = r at *
  obtain ⟨xs, er⟩ := r
  have hdl' : xs.length ≤ l.length := hdl
  have HWF : Hid (∀ x ∈ xs, x.wfv) := hwf
  clear hdl hwf hb hb0
  refine T.mono ?_
  clear T
  rintro en w1 ⟨D, d, rfl, oD0, b1⟩
  have oD : Own AnyE 20 w1 X.heap.size (fun b => X.heap.size ≤ b ∧ b < w1.heap.size) (.slice D xs.length d) xs := oD0
  clear oD0
  have z0 := b0.size
  have z1 := b1.size
  have lp := kp.lt
  have lq := kq.lt
  have kp1 := kp.below b1 lp
  have kq1 := kq.below b1 lq
  have b01 := b0.trans (b1.mono z0)
  have c1 : w1.cell? ⟨w.heap.size + 1, 0, none⟩ = some (.int .i64 0) := kq1.cell 0
  have f1 : w1.frozen? ⟨w.heap.size + 1, 0, none⟩ = false := kq1.frozen 0
  have g2 : w1.grownBy (w1.setCell ⟨w.heap.size + 1, 0, none⟩ (.int .i64 er)) (some (w.heap.size + 1)) := only_setCell (World.grownBy.refl w1 _) (p := ⟨w.heap.size + 1, 0, none⟩) (.inl rfl) _
  have kp2 : Blk (w1.setCell ⟨w.heap.size + 1, 0, none⟩ (.int .i64 er)) w.heap.size 33 #[.int .i64 0, .string ⟨#[]⟩, .slice none 0 0, .int .i64 0, .slice none 0 0, .slice none 0 0] := kp1.far (by show w.heap.size ≠ w.heap.size + 1; omega) _
  have kq2 : Blk (w1.setCell ⟨w.heap.size + 1, 0, none⟩ (.int .i64 er)) (w.heap.size + 1) 34 #[.int .i64 er] := kq1.set_ 0 _
  have b2 : Below w.heap.size w (w1.setCell ⟨w.heap.size + 1, 0, none⟩ (.int .i64 er)) := b01.setCell (by show w.heap.size ≤ w.heap.size + 1; omega) _
  have q2 : (w1.setCell ⟨w.heap.size + 1, 0, none⟩ (.int .i64 er)).cell? ⟨w.heap.size + 1, 0, none⟩ = some (.int .i64 er) := kq2.cell 0
  have ca := Own.caps oD
  have sD := (Own.slS (S' := fun b => X.heap.size ≤ b) oD rfl (by simp only [AnyE]; omega) (fun b h => h.1) (fun b h => h)).same (.of_grown g2 (fun b hb e => by have := Option.some.inj e; omega))
  clear oD kp kq kp1 kq1 b0 b1 b01 g2
  by_cases he : er = 0
  · have d0_ : (er != 0) = false := by rw [he]; rfl
    have HD : Hid (decE l = match rdE xs with | none => (.zero, 3) | some e => if e.check ≠ 0 then (.zero, 3) else (e, 0)) := by show _ = _; rw [HDE.out]; exact if_neg (fun h => h he)
    clear HDE
    obtain rfl := he
    have hY : Below (w1.setCell ⟨w.heap.size + 1, 0, none⟩ (.int .i64 0)).heap.size (w1.setCell ⟨w.heap.size + 1, 0, none⟩ (.int .i64 0)) ((w1.setCell ⟨w.heap.size + 1, 0, none⟩ (.int .i64 0)).alloc (.cells #[.slice D xs.length d] 69)) := (Below.refl _ _).alloc (Nat.le_refl _) _
    have zS : (w1.setCell ⟨w.heap.size + 1, 0, none⟩ (.int .i64 0)).heap.size = w1.heap.size := by simp [World.setCell]
    have kY := Blk.new (w1.setCell ⟨w.heap.size + 1, 0, none⟩ (.int .i64 0)) 69 #[.slice D xs.length d]
    rw [zS] at kY
    have hRd : Rd (fun b => X.heap.size ≤ b ∧ b < w1.heap.size) ((w1.setCell ⟨w.heap.size + 1, 0, none⟩ (.int .i64 0)).alloc (.cells #[.slice D xs.length d] 69)) w1.heap.size xs :=
      ⟨D, d, kY, (sD.mono (fun b hb h => ⟨h, by rw [zS] at hb; exact hb⟩)).below hY, ca, HWF.out, fun b hb => by have := hb.2; omega⟩
    have kpY := kp2.below hY kp2.lt
    have kqY := kq2.below hY kq2.lt
    have bY := b2.trans (hY.mono b2.size)
    have T := rread_any _ _ _ _ hRd
    clear hRd sD hY kY kp2 kq2 b2 zS
    go_wp2_with fail
    clear c1 f1 q2
    generalize ((w1.setCell ⟨w.heap.size + 1, 0, none⟩ (.int .i64 0)).alloc (.cells #[.slice D xs.length d] 69)) = Y at *
    have lpY := kpY.lt
    have lqY := kqY.lt
    cases hr : rdE xs with
    | none =>
      have HD2 : Hid (decE l = (.zero, 3)) := by show _ = _; rw [HD.out, hr]
      rw [hr] at T
      clear hr HD
      refine T.mono ?_
      clear T
      rintro en wz ⟨hgz, h⟩
      rcases h with ⟨e, v, h, _⟩ | ⟨_, u, pv, rfl⟩
      · cases h
      have kpZ := kpY.grown hgz (by intro e; have := Option.some.inj e; omega)
      have kqZ := kqY.grown hgz (by intro e; have := Option.some.inj e; omega)
      have bz := bY.grown hgz bY.size (fun j e => by have := Option.some.inj e; omega)
      refine leaves_cons (f := 27) (args := #[.pointer (some ⟨w.heap.size, 0, none⟩), .pointer (some ⟨w.heap.size + 1, 0, none⟩)]) (by simp) (by simp [go_sem]) ?_
      refine (catch_panics w.heap.size (w.heap.size + 1) _ _ u pv [] wz kpZ rfl kqZ (by omega)).mono ?_
      rintro e u' w'' ⟨rfl, rfl, kp', kq', w1', ga, gb⟩
      have bf := (bz.grown ga bz.size (fun j e => by have := Option.some.inj e; omega))
      have bf2 := bf.grown gb bf.size (fun j e => by have := Option.some.inj e; omega)
      exact ⟨_, results_ci rfl rfl rfl kp' kq' Try.underlying33 rfl Try.size_EntryK Try.underlying34, by rw [HD2.out]; exact ⟨_, rfl, valE.zero _, bf2⟩⟩
    | some e =>
      have HD2 : Hid (decE l = if e.check ≠ 0 then (.zero, 3) else (e, 0)) := by show _ = _; rw [HD.out, hr]
      rw [hr] at T
      clear hr HD
      refine T.mono ?_
      clear T
      rintro en w3 ⟨hg3, h⟩
      rcases h with ⟨e2, v, h, rfl, hv⟩ | ⟨h, _⟩
      case inr => cases h
      obtain rfl : e = e2 := Option.some.inj h
      clear h
      obtain ⟨A3, B3, C3, ca3, cb3, cc3, rfl, hA3, hB3, hC3, hn3⟩ := hv
      have kp3 := kpY.grown hg3 (by intro e; have := Option.some.inj e; omega)
      have kq3 := kqY.grown hg3 (by intro e; have := Option.some.inj e; omega)
      have b3 := bY.grown hg3 bY.size (fun j e => by have := Option.some.inj e; omega)
      have z3 := b3.size
      clear kpY kqY bY hg3
      have hV : Below w3.heap.size w3 (w3.alloc (.cells #[.int .i64 e.tab.id, .string e.tab.name, .slice A3 e.tab.cols.length ca3, .int .i64 e.tab.keys, .slice B3 e.tab.ixs.length cb3, .slice C3 e.sts.length cc3] 33)) := (Below.refl _ _).alloc (Nat.le_refl _) _
      have kV := Blk.new w3 33 #[.int .i64 e.tab.id, .string e.tab.name, .slice A3 e.tab.cols.length ca3, .int .i64 e.tab.keys, .slice B3 e.tab.ixs.length cb3, .slice C3 e.sts.length cc3]
      have kpV := kp3.below hV kp3.lt
      have kqV := kq3.below hV kq3.lt
      have bV := b3.trans (hV.mono z3)
      have hAV := hA3.below hV
      have hBV := hB3.below hV
      have hCV := hC3.below hV
      have lp3 := kp3.lt
      have lq3 := kq3.lt
      clear kp3 kq3 b3 hA3 hB3 hC3 hV
      go_wp2_with fail
      generalize (w3.alloc (.cells #[.int .i64 e.tab.id, .string e.tab.name, .slice A3 e.tab.cols.length ca3, .int .i64 e.tab.keys, .slice B3 e.tab.ixs.length cb3, .slice C3 e.sts.length cc3] 33)) = V at *
      have T := echeck_any e.tab.id e.tab.keys e.tab.name A3 B3 C3 ca3 cb3 cc3 e.tab.cols e.tab.ixs e.sts V (SlS.cols hAV.any) (SlS.ixs hBV.any) hCV.any (by omega) (SlS.cnames hAV.any) (SlS.xnames hBV.any)
      have HCK : Hid (e.check = entryI e.tab.id e.tab.keys e.tab.name e.tab.cols e.tab.ixs e.sts) := rfl
      refine T.mono ?_
      clear T
      rintro en w4 ⟨rfl, b4⟩
      have lV := kV.lt
      have kp4 := kpV.below b4 kpV.lt
      have kq4 := kqV.below b4 kqV.lt
      have kV4 := kV.below b4 lV
      have b04 := bV.trans (b4.mono bV.size)
      have hA4 := hAV.below b4
      have hB4 := hBV.below b4
      have hC4 := hCV.below b4
      clear kpV kqV kV bV hAV hBV hCV b4
      have hmf2 : True := trivial
      by_cases hce : entryI e.tab.id e.tab.keys e.tab.name e.tab.cols e.tab.ixs e.sts = 0
      · have d1_ : (entryI e.tab.id e.tab.keys e.tab.name e.tab.cols e.tab.ixs e.sts != 0) = false := by rw [hce]; rfl
        have HD3 : Hid (decE l = (e, 0)) := by show _ = _; rw [HD2.out, if_neg (by rw [HCK.out]; exact fun h => h hce)]
        have hv9 : ∀ w9, w4.grownBy w9 (some w.heap.size) → valE (w9.setCell ⟨w.heap.size + 1, 0, none⟩ (.int .i64 0)) e (.agg #[.int .i64 e.tab.id, .string e.tab.name, .slice A3 e.tab.cols.length ca3, .int .i64 e.tab.keys, .slice B3 e.tab.ixs.length cb3, .slice C3 e.sts.length cc3]) := fun w9 g9 => by
          have hs : Same (fun b => (X.heap.size ≤ b ∧ b < w1.heap.size) ∨ Y.heap.size ≤ b) w4 w9 := .of_grown g9 (fun b hb e => by have := Option.some.inj e; rcases hb with hb | hb <;> omega)
          have hn : ¬ ((X.heap.size ≤ w.heap.size + 1 ∧ w.heap.size + 1 < w1.heap.size) ∨ Y.heap.size ≤ w.heap.size + 1) := by omega
          exact ⟨A3, B3, C3, ca3, cb3, cc3, rfl, ((hA4.same hs).setCell (p := ⟨w.heap.size + 1, 0, none⟩) hn _).any, ((hB4.same hs).setCell (p := ⟨w.heap.size + 1, 0, none⟩) hn _).any, ((hC4.same hs).setCell (p := ⟨w.heap.size + 1, 0, none⟩) hn _).any, hn3⟩
        have HV := Lib.hid hv9
        clear hce HD2 HCK hv9
        generalize entryI e.tab.id e.tab.keys e.tab.name e.tab.cols e.tab.ixs e.sts = E0 at *
        go_wp2_with (first
          | ((with_reducible refine wpList_load_blk rfl 33 (.tmp 5) rfl w3.heap.size ?_ 33 _ _ kV4 Try.underlying33 ?_ Try.size_EntryK ?_ ?_); rfl; rfl; rfl)
          | ((with_reducible refine wpList_store_blk rfl 33 (.tmp 2) (.tmp 24) rfl w.heap.size 33 _ #[.int .i64 e.tab.id, .string e.tab.name, .slice A3 e.tab.cols.length ca3, .int .i64 e.tab.keys, .slice B3 e.tab.ixs.length cb3, .slice C3 e.sts.length cc3] ?_ ?_ kp4 Try.size_EntryK ?_ ?_ ?_ ?_); rfl; rfl; rfl; rfl; (simp [Value.oneCell']); intro w9 kz9 g9 z9; have kq9 := kq4.grown g9 (by intro e; have := Option.some.inj e; omega); have q9 : w9.cell? ⟨w.heap.size + 1, 0, none⟩ = some (.int .i64 0) := kq9.cell 0; have f9 : w9.frozen? ⟨w.heap.size + 1, 0, none⟩ = false := kq9.frozen 0))
        have b9 : Below w.heap.size w w9 := b04.grown g9 b04.size (fun j e => by have := Option.some.inj e; omega)
        have kqA : Blk (w9.setCell ⟨w.heap.size + 1, 0, none⟩ (.int .i64 0)) (w.heap.size + 1) 34 #[.int .i64 0] := kq9.set_ 0 _
        have kpA : Blk (w9.setCell ⟨w.heap.size + 1, 0, none⟩ (.int .i64 0)) w.heap.size 33 #[.int .i64 e.tab.id, .string e.tab.name, .slice A3 e.tab.cols.length ca3, .int .i64 e.tab.keys, .slice B3 e.tab.ixs.length cb3, .slice C3 e.sts.length cc3] := kz9.far (by show w.heap.size ≠ w.heap.size + 1; omega) _
        have bA : Below w.heap.size w (w9.setCell ⟨w.heap.size + 1, 0, none⟩ (.int .i64 0)) := b9.setCell (by show w.heap.size ≤ w.heap.size + 1; omega) _
        refine leaves_cons (f := 27) (args := #[.pointer (some ⟨w.heap.size, 0, none⟩), .pointer (some ⟨w.heap.size + 1, 0, none⟩)]) (by simp) (by simp [go_sem]) ?_
        refine (catch_none ⟨w.heap.size, 0, none⟩ ⟨w.heap.size + 1, 0, none⟩ _).mono ?_
        rintro e2 u' w'' ⟨rfl, rfl, hw⟩
        obtain rfl := hw.symm
        exact ⟨_, results_ci rfl rfl rfl kpA kqA Try.underlying33 rfl Try.size_EntryK Try.underlying34, by rw [HD3.out]; exact ⟨_, rfl, HV.out w9 g9, bA⟩⟩
      · have d1_ : (entryI e.tab.id e.tab.keys e.tab.name e.tab.cols e.tab.ixs e.sts != 0) = true := by rw [bne_iff_ne]; exact hce
        have HD3 : Hid (decE l = (.zero, 3)) := by show _ = _; rw [HD2.out, if_pos (by rw [HCK.out]; exact hce)]
        clear hce HD2 HCK
        generalize entryI e.tab.id e.tab.keys e.tab.name e.tab.cols e.tab.ixs e.sts = E0 at *
        go_wp2_with (first
          | ((with_reducible refine wpList_store_blk rfl 33 (.tmp 2) (.tmp 23) rfl w.heap.size 33 _ #[.int .i64 0, .string ⟨#[]⟩, .slice none 0 0, .int .i64 0, .slice none 0 0, .slice none 0 0] ?_ ?_ kp4 Try.size_EntryK ?_ ?_ ?_ ?_); rfl; rfl; rfl; rfl; (simp [Value.oneCell']); intro w9 kz9 g9 z9; have kq9 := kq4.grown g9 (by intro e; have := Option.some.inj e; omega); have q9 : w9.cell? ⟨w.heap.size + 1, 0, none⟩ = some (.int .i64 0) := kq9.cell 0; have f9 : w9.frozen? ⟨w.heap.size + 1, 0, none⟩ = false := kq9.frozen 0))
        have b9 : Below w.heap.size w w9 := b04.grown g9 b04.size (fun j e => by have := Option.some.inj e; omega)
        have kqA : Blk (w9.setCell ⟨w.heap.size + 1, 0, none⟩ (.int .i64 3)) (w.heap.size + 1) 34 #[.int .i64 3] := kq9.set_ 0 _
        have kpA : Blk (w9.setCell ⟨w.heap.size + 1, 0, none⟩ (.int .i64 3)) w.heap.size 33 #[.int .i64 0, .string ⟨#[]⟩, .slice none 0 0, .int .i64 0, .slice none 0 0, .slice none 0 0] := kz9.far (by show w.heap.size ≠ w.heap.size + 1; omega) _
        have bA : Below w.heap.size w (w9.setCell ⟨w.heap.size + 1, 0, none⟩ (.int .i64 3)) := b9.setCell (by show w.heap.size ≤ w.heap.size + 1; omega) _
        refine leaves_cons (f := 27) (args := #[.pointer (some ⟨w.heap.size, 0, none⟩), .pointer (some ⟨w.heap.size + 1, 0, none⟩)]) (by simp) (by simp [go_sem]) ?_
        refine (catch_none ⟨w.heap.size, 0, none⟩ ⟨w.heap.size + 1, 0, none⟩ _).mono ?_
        rintro e2 u' w'' ⟨rfl, rfl, hw⟩
        obtain rfl := hw.symm
        exact ⟨_, results_ci rfl rfl rfl kpA kqA Try.underlying33 rfl Try.size_EntryK Try.underlying34, by rw [HD3.out]; exact ⟨_, rfl, valE.zero _, bA⟩⟩
  · have d0_ : (er != 0) = true := by rw [bne_iff_ne]; exact he
    have HD : Hid (decE l = (.zero, er)) := by show _ = _; rw [HDE.out]; exact if_pos he
    clear HDE he
    go_upto_region 3 with fail
    clear c1 f1 q2
    generalize (w1.setCell ⟨w.heap.size + 1, 0, none⟩ (.int .i64 er)) = W at *
    have q2 : W.cell? ⟨w.heap.size + 1, 0, none⟩ = some (.int .i64 er) := kq2.cell 0
    refine wp_region_noPanic ?_
    refine wp_region_held_drew (S := fun W => W.cell? ⟨w.heap.size + 1, 0, none⟩ = some (.int .i64 er)) (by kernel_rfl) q2 (fun hH => ?_)
    refine wpAnyH_take (i := 0) (v := ?_) rfl (by kernel_rfl) (by kernel_rfl) (by kernel_rfl) (fun _ _ _ h => h) (Or.inl ⟨by rfl, ?_⟩) hH ?_
    case refine_2 => intro w hSw; go_simp; try with_reducible rfl
    refine wpAnyH_take (i := 1) (v := ?_) rfl (by kernel_rfl) (by kernel_rfl) (by kernel_rfl) (fun _ _ _ h => h) (Or.inl ⟨by rfl, ?_⟩) hH ?_
    case refine_2 => intro w hSw; (try dsimp only at hSw); go_simp; try with_reducible rfl
    try simp only [List.getElem_toArray, List.getElem_cons_succ, List.getElem_cons_zero, Act.put, List.setIfInBounds_toArray, List.set_cons_zero, List.set_cons_succ]
    refine wpAnyH_ready (rs := [2]) (by kernel_rfl) (by simp) ?_
    refine AllReadyH.cons rfl (fun K hK => ?_) AllReadyH.nil
    refine step_store_blk rfl 33 (.tmp 2) (.tmp 13) rfl w.heap.size 33 #[.int .i64 0, .string ⟨#[]⟩, .slice none 0 0, .int .i64 0, .slice none 0 0, .slice none 0 0] #[.int .i64 0, .string ⟨#[]⟩, .slice none 0 0, .int .i64 0, .slice none 0 0, .slice none 0 0] rfl rfl kp2.drew Try.size_EntryK rfl rfl (by simp [Value.oneCell']) ?_
    intro w9 kp9 g9 z9
    have kq9 : Blk w9 (w.heap.size + 1) 34 #[.int .i64 er] := Blk.grown kq2.drew g9 (by intro e; have := Option.some.inj e; omega)
    have bz9 : Below w.heap.size w w9 := (b2.drew).grown g9 (b2.drew).size (fun j e => by have := Option.some.inj e; omega)
    have q9 : w9.cell? ⟨w.heap.size + 1, 0, none⟩ = some (.int .i64 er) := kq9.cell 0
    have f9 : w9.frozen? ⟨w.heap.size + 1, 0, none⟩ = false := kq9.frozen 0
    refine hK.out _ _ q9 (fun hH9 => ?_)
    clear hK K
    try simp only [List.getElem_toArray, List.getElem_cons_succ, List.getElem_cons_zero, Act.put]
    refine wpAnyH_ready (rs := [3]) (by kernel_rfl) (by simp) ?_
    refine AllReadyH.cons rfl (fun K hK => ?_) AllReadyH.nil
    go_simp
    have kqA : Blk (w9.setCell ⟨w.heap.size + 1, 0, none⟩ (.int .i64 er)) (w.heap.size + 1) 34 #[.int .i64 er] := kq9.set_ 0 _
    have kpA : Blk (w9.setCell ⟨w.heap.size + 1, 0, none⟩ (.int .i64 er)) w.heap.size 33 #[.int .i64 0, .string ⟨#[]⟩, .slice none 0 0, .int .i64 0, .slice none 0 0, .slice none 0 0] := kp9.far (by show w.heap.size ≠ w.heap.size + 1; omega) _
    have bA : Below w.heap.size w (w9.setCell ⟨w.heap.size + 1, 0, none⟩ (.int .i64 er)) := bz9.setCell (by show w.heap.size ≤ w.heap.size + 1; omega) _
    refine hK.out _ _ (kqA.cell 0) (fun hHA => ?_)
    clear hK K
    refine wpAnyH_done (by kernel_rfl) ?_ _
    refine NoPanic.normal ?_
    go_wp2_with fail
    exact ⟨_, results_ci rfl rfl rfl kpA kqA Try.underlying33 rfl Try.size_EntryK Try.underlying34, by rw [HD.out]; exact ⟨_, rfl, valE.zero _, bA⟩⟩
end Go.Proofs.Ytemidaamnldjmaa
