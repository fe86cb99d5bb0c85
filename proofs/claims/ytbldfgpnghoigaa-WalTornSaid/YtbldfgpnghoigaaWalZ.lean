/- The walk of WalTorn. -/
import Derived.Test.YtbldfgpnghoigaaWalY
namespace Go.Proofs.Ytbldfgpnghoigaa
open Go.RowKit

abbrev dskT : LDisk := ⟨max 0 1073741824, false, 0, false⟩
/-- what an Append of copies answers here: the records are taken in -/
theorem torn_ap {w : World} {F : Nat → Prop} {b g : Nat} {R : List (List UInt8)} {l : LLog} {ps : List PFile} (hL : LD w g F l ((segsT R).map (·.1)) dskT ps) (hT : TornS b dskT R l ps) (X : Option Addr) (recs : List (List UInt8)) (xc : Nat) (S : Nat → Prop) (hx : SlS BsE w S X recs) (h1 : (R ++ recs).length ≤ 24) (h2 : ∀ r ∈ R ++ recs, r.length ≤ 2000) :
    ∃ i l' ps', TornS b dskT (R ++ recs) l' ps' ∧ Calls Try.prog 12 #[.pointer (some ⟨g, 0, none⟩), .slice X recs.length xc] w (fun en w' => en = .returned (.tuple #[.int .u64 (Int.ofNat i), .int .i64 0]) ∧ LDTo g F l' ((segsT (R ++ recs)).map (·.1)) dskT ps' w w') := by
  obtain ⟨i, l', ps', e, hT'⟩ := torn_app hT rfl recs h1 h2
  have hd := data_short (R := R) (by rw [List.length_append] at h1; omega) (fun r hr => h2 r (by simp [hr]))
  have hsg : (segsT R).length ≤ 1 := by unfold segsT; split <;> simp
  have T := append_at g hL hT.good hL.notin ⟨by decide, by decide⟩ (by decide) (by omega) (by rw [hT.used]; omega) X recs xc S hx (by rw [List.length_append] at h1; omega) (fun r hr => by have := h2 r (by simp [hr]); omega) (by rw [hT.next]; rw [List.length_append] at h1; omega) ⟨by rw [hT.size]; omega, by rw [hT.size]; omega⟩
  rw [e] at T
  exact ⟨i, l', ps', hT', T⟩
theorem reads_new {b : Nat} {w w' : World} {A : Option Addr} {c g n m : Nat} {rs : List R3} (o : RowsIs b w A c rs) (hg : ∀ x, (Value.slice A rs.length c).ownBlock = some x → x < g) (h : w.grownBy w' (Value.slice (some ⟨g, 0, none⟩) n m).ownBlock) : Reads w' w'.heap.size 1 A rs.length (rs.map R3.v) :=
  Reads.of_own (own_same (w' := w') o fun x e => h.block x (World.ownsRow.lt o x e).2 (fun e2 => by have h1 := hg x e; have h2 : x = g := Option.some.inj e2; omega))
theorem pair_row {P Q : List (List UInt8)} {rs1 rs2 : List R3} (hP : P = rs1.map fun r => r.2.1) (hQ : Q = rs2.map fun r => r.2.1) {j : Nat} (hj : j < (P ++ Q).length) : ∃ r : R3, (rs1 ++ rs2)[j]? = some r ∧ r.2.1.length = ((P ++ Q)[j]'hj).length := by
  have e : P ++ Q = (rs1 ++ rs2).map fun r => r.2.1 := by rw [hP, hQ, List.map_append]
  have h1 : (P ++ Q)[j]? = ((rs1 ++ rs2)[j]?).map fun r => r.2.1 := by rw [e, List.getElem?_map]
  rw [List.getElem?_eq_getElem hj] at h1
  cases h2 : (rs1 ++ rs2)[j]? with
  | none => rw [h2] at h1; cases h1
  | some r =>
    rw [h2] at h1
    exact ⟨r, rfl, by rw [Option.some.inj h1]⟩
theorem below_grown2 {w wr W w16 w17 : World} {A16 : Option Addr} {c16 : Nat} {rs16 : List R3} (br : Below w.heap.size w wr) (d : Below wr.heap.size wr W) (g16 : W.grownBy w16 (Value.slice (some ⟨wr.heap.size, 0, none⟩) 0 0).ownBlock) (o16 : RowsIs wr.heap.size w16 A16 c16 rs16) (g17 : w16.grownBy w17 (Value.slice A16 rs16.length c16).ownBlock) : Below w.heap.size w w17 := by
  have b1 : Below wr.heap.size wr w16 := d.grown g16 d.size (fun x e => by have h2 : wr.heap.size = x := Option.some.inj e; omega)
  exact below_step' br (b1.grown g17 b1.size (fun x e => (World.ownsRow.lt o16 x e).1))
theorem openAll_rl (f : List UInt8 → Nat) : ∀ (m : Nat) (b : List UInt8), b.length ≤ m → ∀ r ∈ (openAllL f b).1, r.length ≤ b.length
  | 0, b, h, r, hr => by
    have : b = [] := List.length_eq_zero_iff.1 (by omega)
    subst this
    rw [openAll_short f (by decide)] at hr
    cases hr
  | m + 1, b, h, r, hr => by
    cases ho : open1 f b with
    | none => rw [openAll_none f ho] at hr; cases hr
    | some q =>
      obtain ⟨p, n⟩ := q
      have h1 := open1_le f ho
      rw [openAll_some f ho] at hr
      rcases List.mem_cons.1 hr with e | hr
      · rw [e]; omega
      · have h2 := openAll_rl f m (b.drop n) (by rw [List.length_drop]; omega) r hr
        rw [List.length_drop] at h2
        omega
theorem cap16 {rs16 rs1 rs2 : List R3} (e : rs16 = [] ++ rs1) (h1 : rs1.length ≤ 12) (h2 : rs2.length ≤ 12) : rs16.length + rs2.length ≤ 1000000 := by
  subst e
  omega
theorem wrap_add8 {l : Nat} (h : l ≤ 2000) : wrap64 ((l : Int) + 8) = (l : Int) + 8 := by unfold wrap64; omega
theorem wrap_end {m l : Nat} (hm : m ≤ 48192) (h : l ≤ 2000) : wrap64 ((m : Int) + ((l : Int) + 8)) = ((m + (l + 8) : Nat) : Int) := by unfold wrap64; omega
theorem wrap_j {j n : Nat} (h : j < n) (hn : n ≤ 24) : wrap64 ((j : Int) + 1) = (j : Int) + 1 := by unfold wrap64; omega
/-- both lists one behind the other, in a row of its own -/
theorem torn_all {wA w18 w20 w21 : World} {S : Nat → Prop} {A20 A21 : Option Addr} {c20 c21 : Nat} {rs1 rs2 rs20 rs21 : List R3} (d19 : Below w18.heap.size w18 wA) (hOa : RowsOk w18 S rs1) (hOb : RowsOk w18 S rs2) (H20 : rs20 = [] ++ rs1) (H21 : rs21 = rs20 ++ rs2)
    (g20 : wA.grownBy w20 (Value.slice (some ⟨w18.heap.size, 0, none⟩) 0 0).ownBlock) (o20 : RowsIs w18.heap.size w20 A20 c20 rs20) (g21 : w20.grownBy w21 (Value.slice A20 rs20.length c20).ownBlock) (o21 : RowsIs w18.heap.size w21 A21 c21 rs21) :
    Below w18.heap.size w18 w21 ∧ RowsOk w21 S rs21 ∧ rs21 = rs1 ++ rs2 ∧ rs1.length + rs2.length ≤ c21 := by
  have b1 : Below w18.heap.size w18 w20 := d19.grown g20 d19.size (fun x e => by have h2 : w18.heap.size = x := Option.some.inj e; omega)
  have b2 : Below w18.heap.size w18 w21 := b1.grown g21 b1.size (fun x e => (World.ownsRow.lt o20 x e).1)
  have e : rs21 = rs1 ++ rs2 := by rw [H21, H20]; rfl
  refine ⟨b2, ?_, e, ?_⟩
  · rw [e]
    intro r hr
    rcases List.mem_append.1 hr with hr | hr
    · exact hOa.below b2 r hr
    · exact hOb.below b2 r hr
  · have h := (own_caps o21).1
    rw [e, List.length_append] at h
    exact h
theorem torn_row {b : Nat} {w : World} {A : Option Addr} {c j : Nat} {rs17 rs : List R3} {r : R3} (o : RowsIs b w A c rs17) (e : rs17 = rs) (h : rs[j]? = some r) : ∃ ad, A = some ad ∧ w.cell? (ad.add j) = some (.slice r.1 r.2.1.length r.2.2) ∧ (j : Int) < (rs17.length : Int) := by
  subst e
  have hj : j < rs17.length := (List.getElem?_eq_some_iff.1 h).1
  obtain ⟨ad, u, e1, _, hu, hc⟩ := (Reads.of_own o).at_ hj
  rw [List.getElem?_map, h] at hu
  have hu : R3.v r = u := Option.some.inj hu
  subst hu
  exact ⟨ad, e1, hc, by omega⟩
set_option maxRecDepth 100000 in
set_option maxHeartbeats 8000000 in
theorem waltorn_any (A : Option Addr) (fs : List (List UInt8)) (c : Nat) (B : Option Addr) (ss : List (List UInt8)) (d : Nat) (at_ : Int) (w : World) (hA : Sl BsE w A fs) (hB : Sl BsE w B ss) :
    Calls Try.prog 4 #[.slice A fs.length c, .slice B ss.length d, .int .i64 at_] w fun e w' => e = .returned (.bool true) ∧ Below w.heap.size w w' := by
  go_enter Try.func4, Try.ntmps4
  go_wp2_with fail
  refine (awake_any _).mono ?_
  rintro e w1 ⟨rfl, b1⟩
  have T := short_any A fs c (· < w.heap.size) w1 (hA.old.below b1)
  go_wp2_with fail
  refine T.mono ?_
  clear T
  rintro en w2 ⟨A1, c1, rs1, rfl, hR1, hm1, hO1, b2⟩
  have b02 := below_step' b1 b2
  have z1 := b1.size
  have z2 := b2.size
  have T := short_any B ss d (· < w.heap.size) w2 (hB.old.below b02)
  go_wp2_with fail
  refine T.mono ?_
  clear T
  rintro en w3 ⟨A2, c2, rs2, rfl, hR2, hm2, hO2, b3⟩
  have b03 := below_step' b02 b3
  have z3 := b3.size
  have hR13 : RowsIs w1.heap.size w3 A1 c1 rs1 := own_below hR1 b3
  have hO13 := hO1.below b3
  have hsl1 := short_len fs
  have hsl2 := short_len ss
  rw [← hm1] at hsl1
  rw [← hm2] at hsl2
  clear hm1 hm2 hA hB hR1 hO1 b1 b2 b3 b02
  have hlen1 : (rs1.map (·.2.1)).length = rs1.length := List.length_map ..
  have hlen2 : (rs2.map (·.2.1)).length = rs2.length := List.length_map ..
  have h12 : rs1.length ≤ 12 := by rw [← hlen1]; exact hsl1.1
  have h22 : rs2.length ≤ 12 := by rw [← hlen2]; exact hsl2.1
  have HL1 := Lib.hid hlen1
  have HL2 := Lib.hid hlen2
  have HS1 := Lib.hid hsl1
  have HS2 := Lib.hid hsl2
  clear hlen1 hlen2 hsl1 hsl2
  go_upto_if 31 with fail
  go_cut [7] from 32 to 35 (fun v wx => ∃ tv : Int, v = .int .u8 tv ∧ 0 ≤ tv ∧ tv ≤ 255 ∧ wx = w3)
  case first =>
    by_cases hp : 0 < at_
    · have hm : 0 ≤ at_ % 251 ∧ at_ % 251 < 251 := ⟨Int.emod_nonneg _ (by decide), Int.emod_lt_of_pos _ (by decide)⟩
      have hw : wrap64 (at_ % 251 + 1) = at_ % 251 + 1 := by unfold wrap64; omega
      have hw2 : IntKind.u8.wrap (at_ % 251 + 1) = at_ % 251 + 1 := by simp [IntKind.wrap, IntKind.bits, IntKind.signed]; omega
      go_wp2_with fail
      go_meet
      case rel => exact ⟨_, rfl, by omega, by omega, rfl⟩
    · go_wp2_with fail
      go_meet
      case rel => exact ⟨1, rfl, by decide, by decide, rfl⟩
  case rest =>
    obtain ⟨tv, rfl, htv0, htv1, rfl⟩ := hcut
    obtain ⟨tb, rfl⟩ : ∃ tb : UInt8, tv = ((tb.toNat : Nat) : Int) := ⟨UInt8.ofNat tv.toNat, by rw [UInt8.toNat_ofNat']; omega⟩
    clear htv0 htv1
    obtain ⟨P, hP⟩ : ∃ P, P = rs1.map (·.2.1) := ⟨_, rfl⟩
    obtain ⟨Q, hQ⟩ : ∃ Q, Q = rs2.map (·.2.1) := ⟨_, rfl⟩
    have SP : SlS BsE wc Any A1 P := by rw [hP]; exact hO13.sl hR13 (by omega)
    have SQ : SlS BsE wc Any A2 Q := by rw [hQ]; exact hO2.sl hR2 (by omega)
    rw [← hP] at HL1 HS1
    rw [← hQ] at HL2 HS2
    have HP := Lib.hid hP
    have HQ := Lib.hid hQ
    have hpr : ∀ (j : Nat) (hj : j < (P ++ Q).length), ∃ r : R3, (rs1 ++ rs2)[j]? = some r ∧ r.2.1.length = ((P ++ Q)[j]'hj).length := fun j hj => pair_row hP hQ hj
    have HPR := Lib.hid hpr
    clear hP hQ hpr
    have HPQ : Hid ((P ++ Q).length ≤ 24 ∧ ∀ r ∈ P ++ Q, r.length ≤ 2000) := by
      refine ⟨by rw [List.length_append]; have := HS1.out.1; have := HS2.out.1; omega, fun r hr => ?_⟩
      rcases List.mem_append.1 hr with h | h
      · exact HS1.out.2 r h
      · exact HS2.out.2 r h
    go_wp2_with fail
    refine (newD_any 1073741824 wc).mono ?_
    rintro en w4 ⟨rfl, hd4, b4⟩
    have l4 := hd4.lt
    obtain ⟨db, hdb⟩ : ∃ db, db = wc.heap.size := ⟨_, rfl⟩
    have T := open_good (segs := []) (pre := [119, 46]) wc.heap.size (hd4.mono (F' := (· < wc.heap.size)) (fun g h => by omega)) (wl_nil _) trivial rfl rfl (by decide) (by decide) (by decide) (by decide) (by decide) (by decide) 1048576 (by decide)
    clear hd4
    go_wp2_with fail
    refine T.mono ?_
    clear T
    rintro en w5 ⟨g, A3, c3, rs, h1, hg1, hR, hS, hmm, hL, hb5⟩
    have hrs : rs = [] := List.map_eq_nil_iff.1 hmm
    subst hrs
    obtain rfl : en = .returned (.tuple #[.pointer (some ⟨g, 0, none⟩), .slice A3 0 c3, .int .i64 0]) := h1
    replace hL : LD w5 g (fun x => (x < wc.heap.size ∧ x < w4.heap.size) ∨ RowsB A3 c3 [] x) (log0 wc.heap.size [119, 46] 1048576) [] dskT [] := hL
    have L5 : LD w5 g (· < wc.heap.size) (log0 wc.heap.size [119, 46] 1048576) ((segsT []).map (·.1)) dskT [] := hL.mono fun x hx => .inl ⟨hx, by omega⟩
    have b5 : Below wc.heap.size wc w5 := hb5.low b4 (by omega) (fun x h => h)
    have z5 := b5.size
    clear hL hR hS hmm hb5 b4
    have TC := copies_sl A1 P c1 _ w5 (SP.below b5)
    rw [HL1.out] at TC
    go_wp2_with fail
    refine TC.mono ?_
    clear TC
    rintro en w6 ⟨A6, c6, rfl, SX6, b6⟩
    obtain ⟨i1, l1, ps1, T1, TA⟩ := torn_ap ((L5.below b6).mono (F' := (· < wc.heap.size)) fun x hx => .inl hx) (torn_nil wc.heap.size dskT rfl rfl) A6 P c6 _ SX6 (by rw [List.nil_append]; exact Nat.le_trans HS1.out.1 (by decide)) (fun r hr => HS1.out.2 r (by rwa [List.nil_append] at hr))
    rw [List.nil_append] at T1 TA
    rw [HL1.out] at TA
    have b56 := below_step' b5 b6
    have z6 := b56.size
    clear L5 SX6 b5 b6
    go_wp2_with fail
    refine TA.mono ?_
    clear TA
    rintro en w7 ⟨rfl, L7, B7⟩
    have b7 : Below wc.heap.size wc w7 := B7.low b56 z6 (fun x h => h)
    replace L7 := L7.mono (F' := (· < wc.heap.size)) fun x hx => ⟨hx, by omega⟩
    have z7 := b7.size
    clear B7 b56
    have TC := copies_sl A2 Q c2 _ w7 (SQ.below b7)
    rw [HL2.out] at TC
    go_wp2_with fail
    refine TC.mono ?_
    clear TC
    rintro en w8 ⟨A8, c8, rfl, SX8, b8⟩
    obtain ⟨i2, l2, ps2, T2, TA⟩ := torn_ap ((L7.below b8).mono (F' := (· < wc.heap.size)) fun x hx => .inl hx) T1 A8 Q c8 _ SX8 HPQ.out.1 HPQ.out.2
    rw [HL2.out] at TA
    have b78 := below_step' b7 b8
    have z8 := b78.size
    clear L7 SX8 b7 b8 T1
    go_wp2_with fail
    refine TA.mono ?_
    clear TA
    rintro en w9 ⟨rfl, L9, B9⟩
    have b9 : Below wc.heap.size wc w9 := B9.low b78 z8 (fun x h => h)
    obtain ⟨_, _, _, _, hd9, _⟩ := L9
    rw [T2.disk] at hd9
    replace hd9 : DD w9 wc.heap.size (· < wc.heap.size) dskT ps2 := hd9.mono fun x hx => .inl ⟨hx, by omega⟩
    have z9 := b9.size
    clear B9 b78
    by_cases hR : P ++ Q = []
    · obtain ⟨hp0, hq0⟩ := List.append_eq_nil_iff.1 hR
      have hr1 : rs1.length = 0 := by rw [← HL1.out, hp0]; rfl
      have hr2 : rs2.length = 0 := by rw [← HL2.out, hq0]; rfl
      have hw := T2.good.wl
      rw [hR] at hw
      have T := listD_any hd9 (hw.ok (by decide) (by decide) (by rw [T2.used, hR]; decide)) [119, 46] (by decide)
      rw [hw.list rfl] at T
      replace T : Calls Try.prog 16 #[.pointer (some ⟨wc.heap.size, 0, none⟩), .string ⟨#[119, 46]⟩] w9 (RetN [] w9) := T
      clear hR hp0 hq0 hw hd9 T2
      go_wp2_with fail
      refine T.mono ?_
      clear T
      rintro en w10 ⟨A10, c10, rfl, o10, b10⟩
      have b010 := below_step' b03 (below_step' b9 b10)
      go_wp2_with fail
      go_ret
      exact ⟨rfl, b010⟩
    · have O := T2.one hR
      have hDl := data_short HPQ.out.1 HPQ.out.2
      obtain ⟨D, hD⟩ : ∃ D, D = dataW (P ++ Q) := ⟨_, rfl⟩
      rw [← hD] at O hDl
      have HD := Lib.hid hD
      have HNE := Lib.hid hR
      obtain ⟨nm, hnm⟩ : ∃ nm, nm = nameW [119, 46] 0 := ⟨_, rfl⟩
      have hnl : nm.length ≤ 140737488355328 := by rw [hnm]; decide
      have HO := Lib.hid O
      have T := listD_any hd9 (O.ok (by decide) (by rw [O.used]; omega)) [119, 46] (by decide)
      rw [O.list rfl, ← hnm] at T
      replace T : Calls Try.prog 16 #[.pointer (some ⟨wc.heap.size, 0, none⟩), .string ⟨#[119, 46]⟩] w9 (RetN [nm] w9) := T
      have HNM := Lib.hid hnm
      clear hR hD hnm O T2 SP SQ
      go_wp2_with fail
      refine T.mono ?_
      clear T
      rintro en w10 ⟨A10, c10, rfl, o10, b10⟩
      have o10' : w10.ownsRow w9.heap.size 9 1 (.slice A10 1 c10) 1 [encStr nm] := o10
      obtain ⟨g10, cap10, e10, hg10, hg10b⟩ := World.ownsRow.form o10' (by decide)
      obtain ⟨rfl, rfl⟩ : A10 = some ⟨g10, 0, none⟩ ∧ c10 = cap10 := by injection e10 with q1 _ q3; exact ⟨q1, q3⟩
      have HS : Hid (∀ W : World, (W.heap[g10]? = w10.heap[g10]?) → W.cell? ⟨g10, 0, none⟩ = some (.string ⟨nm.toArray⟩)) := fun W hW => by
        have h1 : W.cell? ⟨g10, 0, none⟩ = w10.cell? ⟨g10, 0, none⟩ := World.cell?_of_block hW
        rw [h1]
        exact o10'.cells (g := g10) rfl 0 _ rfl
      clear o10 o10' e10
      have b910 := below_step' b9 b10
      have hd10 := (hd9.below b10).mono (F' := fun x => x < wc.heap.size ∨ w9.heap.size ≤ x) (fun x hx => hx)
      have z10 := b10.size
      have T := readD_any hd10 nm hnl
      rw [show readP dskT ps2 nm = (D, 0) by rw [HNM.out, read_has rfl HO.out.has, HO.out.data]] at T
      have s10 := HS.out w10 rfl
      clear hd9 b10 b9
      go_wp2_with fail
      refine T.mono ?_
      clear T s10
      rintro en w11 ⟨A11, c11, rfl, o11, b11⟩
      replace o11 : OwnB w10.heap.size w11 A11 D c11 := o11
      have b911 := below_step' b910 b11
      have hd11 := (hd10.below b11).mono (F' := fun x => x < wc.heap.size ∨ w9.heap.size ≤ x) (fun x hx => .inl hx)
      have z11 := b11.size
      have z1110 := b11.size
      by_cases hlo : at_ < 0
      · have b011 := below_step' b03 b911
        go_wp2_with fail
        go_ret
        exact ⟨rfl, b011⟩
      by_cases hhi : (D.length : Int) ≤ at_
      · have b011 := below_step' b03 b911
        have hlo2 : 0 ≤ at_ := by omega
        go_wp2_with fail
        go_ret
        exact ⟨rfl, b011⟩
      obtain ⟨k, rfl⟩ : ∃ k : Nat, at_ = (k : Int) := ⟨at_.toNat, by omega⟩
      have hk : k < D.length := by omega
      have hki : ¬ (D.length : Int) ≤ (k : Int) := by omega
      have hk0 : ¬ (k : Int) < 0 := by omega
      clear hlo hhi
      have T := copy_any A11 D c11 w11 (OwnB.bs o11 (by omega))
      go_wp2_with fail
      refine T.mono ?_
      clear T
      rintro en w12 ⟨A12, c12, rfl, o12, b12⟩
      replace o12 : OwnB w11.heap.size w12 A12 D c12 := o12
      have b912 := below_step' b911 b12
      have hd12 := (hd11.below b12).mono (F' := fun x => x < wc.heap.size ∨ w9.heap.size ≤ x) (fun x hx => .inl hx)
      have z12 := b12.size
      obtain ⟨g12, cap12, e12, hg12, hg12b⟩ := World.ownsRow.form o12 (by omega)
      obtain rfl : A12 = some ⟨g12, 0, none⟩ := by injection e12
      have hc := o12.cells (g := g12) rfl k (bval D[k]) (by rw [List.getElem?_map, List.getElem?_eq_getElem hk]; rfl)
      rw [add_row] at hc
      have hcA : w12.cell? ((⟨g12, 0, none⟩ : Addr).add k) = some (.int .u8 (D[k].toNat : Int)) := by rw [add_row]; exact hc
      have hcB : w12.cell? ⟨g12, k, none⟩ = some (.int .u8 (D[k].toNat : Int)) := hc
      have hfz : w12.frozen? ⟨g12, k, none⟩ = false := o12.frozenAt k
      have HB : Hid (bval (D[k] ^^^ tb) = Value.int .u8 (bits .xor .u8 (D[k].toNat : Int) (tb.toNat : Int))) := by
        show _ = _
        rw [u8_xor_nat _ _ (UInt8.toNat_lt _) (UInt8.toNat_lt _)]
        simp [bval]
      have hst := o12.stored k (bval (D[k] ^^^ tb))
      obtain ⟨E, hE⟩ : ∃ E, E = D.set k (D[k] ^^^ tb) := ⟨_, rfl⟩
      have hEl : E.length = D.length := by rw [hE, List.length_set]
      have o13 : OwnB w11.heap.size (w12.setCell ⟨g12, k, none⟩ (bval (D[k] ^^^ tb))) (some ⟨g12, 0, none⟩) E c12 := by
        have h1 := hst.1
        rw [← List.map_set, ← hE] at h1
        show World.ownsRow _ _ _ _ (.slice _ E.length c12) _ _
        rw [hEl]
        exact h1
      have g13 := hst.2
      rw [HB.out] at o13 g13
      have HE : Hid (E = D.set k (D[k] ^^^ tb)) := hE
      have HEL := Lib.hid hEl
      have hq12 : w12.heap[g10]? = w10.heap[g10]? := (b12.block g10 (by omega)).trans (b11.block g10 hg10b)
      clear hst hE hEl o12 e12 hc HB hd10 hd11 o11 b11 b12
      generalize D[k] = x at *
      go_upto_region 21 with fail
      generalize (w12.setCell ⟨g12, k, none⟩ (.int .u8 (bits .xor .u8 (x.toNat : Int) (tb.toNat : Int)))) = w13 at *
      replace g13 : w12.grownBy w13 (some g12) := g13
      have z13 := g13.size
      have b913 : Below wc.heap.size wc w13 := b912.grown g13 b912.size (fun j e => by have := Option.some.inj e; omega)
      have hd13 := (hd12.grown g13 (fun j e => by have := Option.some.inj e; exact .inl (.inr (by omega)))).mono (F' := fun x => x < wc.heap.size ∨ w9.heap.size ≤ x) (fun x hx => .inl hx)
      clear hd12 hcA hcB hfz
      have hq13 : w13.heap[g10]? = w10.heap[g10]? := (g13.block g10 (by omega) (fun e => by have := Option.some.inj e; omega)).trans hq12
      have s13 := HS.out w13 hq13
      have hg10n : w9.heap.size ≤ g10 := hg10
      have hok : LdOk dskT := ldok_un rfl ⟨by decide, by decide⟩
      have HOK := Lib.hid hok
      have T := cutD_any hd13 (HO.out.ok (by decide) (by rw [HO.out.used]; omega)) hok nm ((0 : Nat) : Int) hnl
      have hcut0 : cutP dskT ps2 nm ((0 : Nat) : Int) = (0, dskT, putP ps2 (nm, [], 0)) := by rw [HNM.out, cut_ok HO.out rfl rfl 0 (Nat.zero_le _), List.take_zero]
      rw [hcut0] at T
      replace T : Calls Try.prog 19 #[.pointer (some ⟨wc.heap.size, 0, none⟩), .string ⟨nm.toArray⟩, .int .i64 0] w13 (RetDD wc.heap.size (fun x => x < wc.heap.size ∨ w9.heap.size ≤ x) (0, dskT, putP ps2 (nm, [], 0)) w13) := T
      have HO3 : Hid (One [119, 46] 0 [] (putP ps2 (nm, [], 0))) := by rw [HNM.out]; exact HO.out.put [] 0
      clear hcut0 hok hd13
      generalize putP ps2 (nm, [], 0) = ps3 at *
      go_wp2_with fail
      refine T.mono ?_
      clear T s13
      rintro en w14 ⟨rfl, hd14, B14⟩
      replace hd14 : DD w14 wc.heap.size (fun x => (x < wc.heap.size ∨ w9.heap.size ≤ x) ∧ x < w13.heap.size) dskT ps3 := hd14
      have b914 : Below wc.heap.size wc w14 := B14.low b913 (by omega) (fun x h => .inl h)
      have o14 := B14.own o13 (fun x e => .inr (by have h1 : g12 = x := Option.some.inj e; omega))
      have hq14 : w14.heap[g10]? = w10.heap[g10]? := (B14.block g10 (by omega) (.inr hg10n)).trans hq13
      have s14 := HS.out w14 hq14
      have z14 := B14.size
      clear B14 o13 b913 hq13 hq12 g13
      have hEl : E.length ≤ 48192 := by rw [HEL.out]; exact hDl
      have T := appendD_any hd14 (HO3.out.ok (by decide) (by rw [HO3.out.used]; decide)) HOK.out nm (some ⟨g12, 0, none⟩) E c12 (OwnB.bs o14 (by omega)) (fun ad e _ => by injection e with e; rw [← e]; exact ⟨.inr (by show w9.heap.size ≤ g12; omega), by show g12 < w13.heap.size; omega⟩) hnl (by omega)
      have happ : appP dskT ps3 nm E = (0, dskT, putP ps3 (nm, E, (getP ps3 nm).2)) := by
        have h1 := appP_ok (d := dskT) (ps := ps3) (nm := nm) (x := E) rfl rfl (by rw [HO3.out.used]; show ((0 : Nat) : Int) + (E.length : Int) ≤ (1073741824 : Int); omega)
        rw [h1]
        have h2 : (getP ps3 nm).1 = [] := by rw [HNM.out]; exact HO3.out.data
        rw [h2, List.nil_append]
      rw [happ, HEL.out] at T
      have HO5 : Hid (One [119, 46] 0 E (putP ps3 (nm, E, (getP ps3 nm).2))) := by
        have h := HO3.out.put E (getP ps3 nm).2
        rw [← HNM.out] at h
        exact h
      clear happ
      generalize putP ps3 (nm, E, (getP ps3 nm).2) = ps4 at *
      go_wp2_with fail
      refine T.mono ?_
      clear T s14
      rintro en w15 ⟨rfl, hd15, B15⟩
      have b915 : Below wc.heap.size wc w15 := B15.low b914 (by omega) (fun x h => ⟨.inl h, by omega⟩)
      replace hd15 : DD w15 wc.heap.size (· < wc.heap.size) dskT ps4 := hd15.mono fun x hx => ⟨⟨.inl hx, by omega⟩, by omega⟩
      have z15 := b915.size
      clear B15 b914 hd14 o14 hq14
      have hlenR : rs1.length + rs2.length = (P ++ Q).length := by rw [List.length_append, HL1.out, HL2.out]
      have HLR := Lib.hid hlenR
      have hadd : wrap64 ((rs1.length : Int) + (rs2.length : Int)) = (rs1.length : Int) + (rs2.length : Int) := by unfold wrap64; omega
      have HADD := Lib.hid hadd
      have HDE : Hid ((dataW ((P ++ Q).take (P ++ Q).length)).length = D.length) := by show _ = _; rw [List.take_length, HD.out]
      have hkD : k < D.length := hk
      clear hlenR hadd hk hki hk0 hdb
      go_wp2_with fail
      go_loopw [16, 17, 18] (fun v16 v17 _ wr => ∃ j : Nat, j ≤ (P ++ Q).length ∧ v16 = .int .i64 (j : Int) ∧ v17 = .int .i64 (((dataW ((P ++ Q).take j)).length : Nat) : Int) ∧ Hid ((dataW ((P ++ Q).take j)).length ≤ k) ∧ Below w15.heap.size w15 wr) (fun v16 _ _ _ => (P ++ Q).length - (intOf v16).toNat)
      case atStart => exact ⟨0, Nat.zero_le _, rfl, rfl, Nat.zero_le _, Below.refl _ _⟩
      case round =>
        obtain ⟨j, hj, rfl, rfl, HJ, br⟩ := hrel
        have hjl : j < (P ++ Q).length := by
          rcases Nat.lt_or_ge j (P ++ Q).length with h | h
          · exact h
          · exfalso
            have h1 := HJ.out
            have h2 := HDE.out
            rw [show j = (P ++ Q).length by omega] at h1
            omega
        have hji : (j : Int) < (rs1.length : Int) + (rs2.length : Int) := by have := HLR.out; omega
        have zr := br.size
        have bcr := below_step' b915 br
        have hRa : RowsIs w1.heap.size wr A1 c1 rs1 := own_below hR13 bcr
        have hRb : RowsIs w2.heap.size wr A2 c2 rs2 := own_below hR2 bcr
        have d16 : Below wr.heap.size wr (wr.alloc (.cells #[] 40)) := (Below.refl _ _).alloc (Nat.le_refl _) _
        have hR0 : RowsIs wr.heap.size (wr.alloc (.cells #[] 40)) (some ⟨wr.heap.size, 0, none⟩) 0 [] := World.ownsRow_made wr #[] 0 (Nat.le_refl _) (Nat.zero_le _) rfl
        have hrd1 := Reads.of_own (own_below hRa d16)
        have hRb6 : RowsIs w2.heap.size (wr.alloc (.cells #[] 40)) A2 c2 rs2 := own_below hRb d16
        have hzb : ∀ x, (Value.slice A2 rs2.length c2).ownBlock = some x → x < wr.heap.size := fun x e => (World.ownsRow.lt hRb x e).2
        have hcn1 : ([] : List R3).length + rs1.length ≤ 1000000 := by rw [List.length_nil, Nat.zero_add]; exact Nat.le_trans h12 (by decide)
        obtain ⟨⟨Rj, lj, cj⟩, hrj, hlj⟩ := HPR.out j hjl
        replace hlj : lj.length = ((P ++ Q)[j]'hjl).length := hlj
        have HRJ := Lib.hid hrj
        have hl2 : lj.length ≤ 2000 := by rw [hlj]; exact HPQ.out.2 _ (List.getElem_mem _)
        have HEND : Hid ((dataW ((P ++ Q).take (j + 1))).length = (dataW ((P ++ Q).take j)).length + (lj.length + 8)) := by
          show _ = _
          rw [List.take_succ_eq_append_getElem hjl, data_append, List.length_append, data_len [_], hlj]
          simp
        clear hrj hlj hRa hRb
        have hjj : j < rs1.length + rs2.length := by rw [HLR.out]; exact hjl
        generalize hm : (dataW ((P ++ Q).take j)).length = m at *
        have HMM := Lib.hid hm
        clear hm
        have hmk : m ≤ k := HJ.out
        have hm48 : m ≤ 48192 := Nat.le_trans hmk (Nat.le_trans (Nat.le_of_lt hkD) hDl)
        have hw1 : wrap64 ((lj.length : Int) + 8) = (lj.length : Int) + 8 := wrap_add8 hl2
        obtain ⟨M, hM⟩ : ∃ M, M = m + (lj.length + 8) := ⟨_, rfl⟩
        have hw2 : wrap64 ((m : Int) + ((lj.length : Int) + 8)) = (M : Int) := by rw [hM]; exact wrap_end hm48 hl2
        rw [← hM] at HEND
        clear hm48 hjj hM hl2
        by_cases hbr : k < M
        · have hbi : (k : Int) < (M : Int) := Int.ofNat_lt.2 hbr
          clear hbr HEND
          go_wp2_with (at_builtin; first | (refine wpList_appRG wr.heap.size _ rfl (.tmp 119) (.tmp 120) rfl (some ⟨wr.heap.size, 0, none⟩) [] 0 rfl hR0 A1 rs1 c1 rfl _ hrd1 hcn1 d16.size ?_; intro A16 c16 rs16 w16 H16 o16 g16; have hrb := reads_new hRb6 hzb g16; have hc16 : rs16.length + rs2.length ≤ 1000000 := cap16 H16.out h12 h22; have z166 : wr.heap.size ≤ w16.heap.size := Nat.le_trans d16.size g16.size) | (refine wpList_appRG wr.heap.size _ rfl (.tmp 121) (.tmp 122) rfl A16 rs16 c16 rfl o16 A2 rs2 c2 rfl _ hrb hc16 z166 ?_; intro A17 c17 rs17 w17 H17 o17 g17; obtain ⟨ad17, ha17, e17, hl17⟩ := torn_row o17 (show rs17 = rs1 ++ rs2 from (by rw [H17.out, H16.out]; rfl)) HRJ.out; subst ha17; replace e17 : w17.cell? (ad17.add j) = some (.slice Rj lj.length cj) := e17; have HB17 := Lib.hid (below_grown2 br d16 g16 o16 g17); clear o17 o16 hrb hR0 hrd1 hRb6 hzb))
          have b17 : Below wc.heap.size wc w17 := below_step' b915 HB17.out
          have hd17 : DD w17 wc.heap.size (· < wc.heap.size) dskT ps4 := (hd15.below HB17.out).mono fun x hx => .inl hx
          obtain ⟨X, Y, hXY⟩ := torn_open (P ++ Q) (fun r hr => Nat.le_trans (HPQ.out.2 r hr) (by decide)) j k (x ^^^ tb) (by rw [HMM.out]; exact hmk)
          rw [← HD.out, ← HE.out] at hXY
          have hE7 : E.length ≤ 700000 := Nat.le_trans hEl (by decide)
          obtain ⟨ps5, HO6, T⟩ := open_one (pre := [119, 46]) (n := 0) (data := E) wc.heap.size hd17 HO5.out rfl rfl ⟨by decide, by decide⟩ (by decide) (by decide) (by decide) hE7 1048576 (by decide)
          have hag := openAll_take sumN E.length E (Nat.le_refl _)
          have hrl := openAll_rl sumN E.length E (Nat.le_refl _)
          have hrn := (openAll_le sumN E.length E (Nat.le_refl _)).2
          have hyl := (openAll_le sumN E.length E (Nat.le_refl _)).1
          obtain ⟨⟨Z, Y2⟩, hZ⟩ : ∃ z, z = openAllL sumN E := ⟨_, rfl⟩
          rw [← hZ] at hXY T HO6 hag hrl hrn hyl
          obtain ⟨rfl, rfl⟩ : Z = (P ++ Q).take j ++ X ∧ Y2 = Y := by injection hXY with q1 q2; exact ⟨q1, q2⟩
          obtain ⟨Z, hZZ⟩ : ∃ Z, Z = (P ++ Q).take j ++ X := ⟨_, rfl⟩
          rw [← hZZ] at T HO6 hag hrl hrn
          have HAG := Lib.hid hag
          have HRLN : Hid ((∀ r ∈ Z, r.length ≤ 140737488355328) ∧ Z.length ≤ 6024) := ⟨fun r hr => Nat.le_trans (hrl r hr) (Nat.le_trans hE7 (by decide)), by have h1 : 8 * Z.length ≤ E.length := hrn; omega⟩
          have HZJ : Hid (Z.take j = (P ++ Q).take j ∧ j ≤ Z.length) := by
            have h1 : ((P ++ Q).take j).length = j := by rw [List.length_take]; exact Nat.min_eq_left hj
            rw [hZZ]
            exact ⟨List.take_left' h1, by rw [List.length_append, h1]; exact Nat.le_add_right _ _⟩
          have HJL : Hid (((P ++ Q).take j).length = j) := by show _ = _; rw [List.length_take]; exact Nat.min_eq_left hj
          have HYL : Hid ((E.take Y2).length ≤ 700000) := by show _ ≤ _; rw [List.length_take]; exact Nat.le_trans (Nat.min_le_right _ _) hE7
          have HO7 : Hid (One [119, 46] 0 (E.take Y2) ps5) := HO6
          clear hag hrl hrn hyl hXY hZ hZZ HO6 hd17 hE7 hd15 HO5
          clear hw1 hw2 hbi HRJ HMM HJ HADD HDE
          replace T : Calls Try.prog 10 #[.pointer (some ⟨wc.heap.size, 0, none⟩), .string ⟨#[119, 46]⟩, .int .i64 1048576] w17 (RetOpn (· < wc.heap.size) (0, dskT, ps5, { (log0 wc.heap.size [119, 46] 1048576) with next := 0 + Z.length, size := (Y2 : Int) }, [0], Z) w17) := T
          go_wp2_with fail
          refine T.mono ?_
          clear T
          rintro en w18 ⟨g5, A5, c5, rs5, h1, hg5, hR5, hS5, hm5, L5, B5⟩
          replace hm5 : rs5.map (·.2.1) = Z := hm5
          have h1' : en = .returned (.tuple #[.pointer (some ⟨g5, 0, none⟩), .slice A5 rs5.length c5, .int .i64 0]) := h1
          subst h1'
          have hl5 : rs5.length = Z.length := by rw [← hm5, List.length_map]
          have b18 : Below wc.heap.size wc w18 := B5.low b17 b17.size (fun x h => h)
          obtain ⟨Aw, cw, _, _, hdG, _, _⟩ := L5
          replace hdG : DD w18 wc.heap.size (fun x => x < wc.heap.size ∨ RowsB A5 c5 rs5 x) dskT ps5 := hdG.mono fun x hx => by
            rcases hx with hx | hx
            · exact .inl (.inl ⟨hx, Nat.lt_of_lt_of_le hx b17.size⟩)
            · exact .inl (.inr hx)
          have SZ : SlS BsE w18 Any A5 Z := by
            have h2 := rows_sl hR5 hS5 (fun r hr => HRLN.out.1 r.2.1 (by rw [← hm5]; exact List.mem_map_of_mem (f := fun r : R3 => r.2.1) hr)) (by rw [hl5]; exact Nat.le_trans HRLN.out.2 (by decide))
            rwa [hm5] at h2
          have hcap5 := (own_caps hR5).1
          have hj5 : (j : Int) ≤ (c5 : Int) := Int.ofNat_le.2 (Nat.le_trans HZJ.out.2 (by rw [← hl5]; exact hcap5))
          have hlt5 : ¬ (rs5.length : Int) < (j : Int) := fun h => absurd (Int.ofNat_lt.1 h) (Nat.not_lt_of_le (by rw [hl5]; exact HZJ.out.2))
          have HL5 := Lib.hid hl5
          have HM5 := Lib.hid hm5
          clear hl5 hm5 h1 hcap5 B5 b17 HB17 b915
          have hRa : RowsIs w1.heap.size w18 A1 c1 rs1 := own_below hR13 b18
          have hRb : RowsIs w2.heap.size w18 A2 c2 rs2 := own_below hR2 b18
          have hOa := hO13.below b18
          have hOb := hO2.below b18
          have d19 : Below w18.heap.size w18 (w18.alloc (.cells #[] 40)) := (Below.refl _ _).alloc (Nat.le_refl _) _
          have hR0' : RowsIs w18.heap.size (w18.alloc (.cells #[] 40)) (some ⟨w18.heap.size, 0, none⟩) 0 [] := World.ownsRow_made w18 #[] 0 (Nat.le_refl _) (Nat.zero_le _) rfl
          have hrdA := Reads.of_own (own_below hRa d19)
          have hRb9 : RowsIs w2.heap.size (w18.alloc (.cells #[] 40)) A2 c2 rs2 := own_below hRb d19
          have hzb9 : ∀ x, (Value.slice A2 rs2.length c2).ownBlock = some x → x < w18.heap.size := fun x e => (World.ownsRow.lt hRb x e).2
          have KEY := Lib.hid (fun (w20 w21 : World) (A20 A21 : Option Addr) (c20 c21 : Nat) (rs20 rs21 : List R3) (H20 : rs20 = [] ++ rs1) (H21 : rs21 = rs20 ++ rs2) (g20 : (w18.alloc (.cells #[] 40)).grownBy w20 (Value.slice (some ⟨w18.heap.size, 0, none⟩) 0 0).ownBlock) (o20 : RowsIs w18.heap.size w20 A20 c20 rs20) (g21 : w20.grownBy w21 (Value.slice A20 rs20.length c20).ownBlock) (o21 : RowsIs w18.heap.size w21 A21 c21 rs21) => torn_all d19 hOa hOb H20 H21 g20 o20 g21 o21)
          clear hRa hRb hOa hOb d16 g16 g17 H16 H17
          go_wp2_with (at_builtin; first | (refine wpList_appRG w18.heap.size _ rfl (.tmp 141) (.tmp 142) rfl (some ⟨w18.heap.size, 0, none⟩) [] 0 rfl hR0' A1 rs1 c1 rfl _ hrdA hcn1 d19.size ?_; intro A20 c20 rs20 w20 H20 o20 g20; have hrb := reads_new hRb9 hzb9 g20; have hc20 : rs20.length + rs2.length ≤ 1000000 := cap16 H20.out h12 h22; have z20 : w18.heap.size ≤ w20.heap.size := Nat.le_trans d19.size g20.size) | (refine wpList_appRG w18.heap.size _ rfl (.tmp 143) (.tmp 144) rfl A20 rs20 c20 rfl o20 A2 rs2 c2 rfl _ hrb hc20 z20 ?_; intro A21 c21 rs21 w21 H21 o21 g21; have KEY2 := Lib.hid (KEY.out w20 w21 A20 A21 c20 c21 rs20 rs21 H20.out H21.out g20 o20 g21 o21); clear hrb))
          obtain ⟨b21, hO21, e21, hcc⟩ := KEY2.out
          have hj21 : (j : Int) ≤ (c21 : Int) := Int.ofNat_le.2 (Nat.le_trans hj (by rw [← HLR.out]; exact hcc))
          have TE : ∀ n, Calls Try.prog 14 #[.slice A5 j c5, .slice A21 j c21] (w21.drewN n) (fun e w' => e = .returned (.bool true) ∧ ∃ m, w' = (w21.drewN n).drewN m) := fun n => by
            have h1 := ((SZ.below b21).take j HZJ.out.2).drewN n
            have h2 : SlS BsE w21 Any A21 (P ++ Q) := by
              have h3 := hO21.sl o21 (by rw [e21, List.length_append]; exact Nat.le_trans (Nat.add_le_add h12 h22) (by decide))
              rwa [e21, List.map_append, ← HP.out, ← HQ.out] at h3
            have h4 := (h2.take j hj).drewN n
            rw [HZJ.out.1] at h1
            have h5 := equals_same A5 A21 _ c5 c21 _ _ (w21.drewN n) h1 h4
            rw [HJL.out] at h5
            exact h5
          have HTE := Lib.hid TE
          have hd21 := (hdG.below b21).mono (F' := fun x => x < wc.heap.size ∨ RowsB A5 c5 rs5 x) (fun x hx => .inl hx)
          have b021 := below_step' (below_step' b03 b18) b21
          have zz : wc.heap.size ≤ w18.heap.size := b18.size
          have SZ21 := SZ.below b21
          have z21 := b21.size
          clear TE KEY KEY2 hO21 e21 hcc hdG SZ o20 o21 g20 g21 H20 H21 hrdA hRb9 hzb9 d19 hR0' hc20
          have hltn : ¬ rs5.length < j := Nat.not_lt_of_le (by rw [HL5.out]; exact HZJ.out.2)
          have hj5n : j ≤ c5 := Int.ofNat_le.1 hj5
          have hj21n : j ≤ c21 := Int.ofNat_le.1 hj21
          go_quiet ((go_at_call 14; exact Calls.quiet_of (HTE.out _)))
          have hdq := (hd21.below (below_drewN (Below.refl _ _) nq)).mono (F' := fun x => x < wc.heap.size ∨ RowsB A5 c5 rs5 x) (fun x hx => .inl hx)
          obtain ⟨hR5q, hS5q⟩ := rows_below hR5 hS5 (below_drewN b21 nq)
          obtain ⟨ps6, _, T⟩ := open_one (pre := [119, 46]) (n := 0) (data := E.take Y2) wc.heap.size hdq HO7.out rfl rfl ⟨by decide, by decide⟩ (by decide) (by decide) (by decide) HYL.out 1048576 (by decide)
          rw [HAG.out] at T
          have b0q := below_drewN b021 nq
          replace T : Calls Try.prog 10 #[.pointer (some ⟨wc.heap.size, 0, none⟩), .string ⟨#[119, 46]⟩, .int .i64 1048576] (w21.drewN nq) (RetOpn (fun x => x < wc.heap.size ∨ RowsB A5 c5 rs5 x) (0, dskT, ps6, { (log0 wc.heap.size [119, 46] 1048576) with next := 0 + Z.length, size := (Y2 : Int) }, [0], Z) (w21.drewN nq)) := T
          clear hd21 hdq HAG HTE SZ21 hR5 hS5 b021 b21 hj5 hj21 hlt5
          go_wp2_with fail
          refine T.mono ?_
          clear T
          rintro en w22 ⟨g6, A6, c6, rs6, h1, hg6, hR6, hS6, hm6, L6, B6⟩
          replace hm6 : rs6.map (·.2.1) = Z := hm6
          have h1' : en = .returned (.tuple #[.pointer (some ⟨g6, 0, none⟩), .slice A6 rs6.length c6, .int .i64 0]) := h1
          subst h1'
          obtain ⟨hR52, hS52⟩ := rows_same hR5q hS5q (w' := w22) (fun x hx => B6.block x (rows_lt hR5q hS5q hx).2 (.inr hx))
          have b22 : Below w.heap.size w w22 := B6.low b0q (Nat.le_trans z1 (Nat.le_trans z2 (Nat.le_trans z3 (Nat.le_trans zz z21)))) (fun x h => .inl (Nat.lt_of_lt_of_le h (Nat.le_trans z1 (Nat.le_trans z2 z3))))
          have TE : Calls Try.prog 14 #[.slice A6 rs6.length c6, .slice A5 rs5.length c5] w22 (Quietly (.bool true) w22) := by
            have hl : ∀ r ∈ Z, r.length ≤ 140737488355328 := HRLN.out.1
            have hn : Z.length ≤ 1048576 := Nat.le_trans HRLN.out.2 (by decide)
            have hl6 : rs6.length = Z.length := by rw [← hm6, List.length_map]
            have hm5 := HM5.out
            have s6 := rows_sl hR6 hS6 (fun r hr => hl r.2.1 (by rw [← hm6]; exact List.mem_map_of_mem (f := fun r : R3 => r.2.1) hr)) (by rw [hl6]; exact hn)
            have s5 := rows_sl hR52 hS52 (fun r hr => hl r.2.1 (by rw [← hm5]; exact List.mem_map_of_mem (f := fun r : R3 => r.2.1) hr)) (by rw [HL5.out]; exact hn)
            rw [hm6] at s6
            rw [hm5] at s5
            have h5 := equals_same A6 A5 Z c6 c5 _ _ w22 s6 s5
            rw [hl6, HL5.out]
            exact h5
          clear hR6 hS6 hR52 hS52 hR5q hS5q hm6 L6 B6 h1 hg6
          go_wp2_with fail
          refine TE.mono ?_
          clear TE
          rintro en wz ⟨rfl, n1, rfl⟩
          go_wp2_with fail
          go_ret
          exact ⟨rfl, below_drewN b22 n1⟩
        · have hbi : ¬ (k : Int) < (M : Int) := fun h => hbr (Int.ofNat_lt.1 h)
          have hbn : M ≤ k := Nat.le_of_not_lt hbr
          have HMS : Hid ((P ++ Q).length - (j + 1) < (P ++ Q).length - j) := by show _ < _; omega
          clear hbr
          go_wp2_with (at_builtin; first | (refine wpList_appRG wr.heap.size _ rfl (.tmp 119) (.tmp 120) rfl (some ⟨wr.heap.size, 0, none⟩) [] 0 rfl hR0 A1 rs1 c1 rfl _ hrd1 hcn1 d16.size ?_; intro A16 c16 rs16 w16 H16 o16 g16; have hrb := reads_new hRb6 hzb g16; have hc16 : rs16.length + rs2.length ≤ 1000000 := cap16 H16.out h12 h22; have z166 : wr.heap.size ≤ w16.heap.size := Nat.le_trans d16.size g16.size) | (refine wpList_appRG wr.heap.size _ rfl (.tmp 121) (.tmp 122) rfl A16 rs16 c16 rfl o16 A2 rs2 c2 rfl _ hrb hc16 z166 ?_; intro A17 c17 rs17 w17 H17 o17 g17; obtain ⟨ad17, ha17, e17, hl17⟩ := torn_row o17 (show rs17 = rs1 ++ rs2 from (by rw [H17.out, H16.out]; rfl)) HRJ.out; subst ha17; replace e17 : w17.cell? (ad17.add j) = some (.slice Rj lj.length cj) := e17; have HB17 := Lib.hid (below_grown2 br d16 g16 o16 g17); clear o17 o16 hrb hR0 hrd1 hRb6 hzb))
          have hvw : wrap64 ((j : Int) + 1) = (j : Int) + 1 := wrap_j hjl HPQ.out.1
          go_roundw
          case rel => exact ⟨j + 1, hjl, by rfl, (by rw [HEND.out]; first | rfl | exact congrArg (Value.int .i64) hw2), by rw [HEND.out]; exact hbn, HB17.out⟩
          case measure => exact HMS.out
theorem opn_bytessl {H : Type} {enc : TypeId × Value → H} {W : World} {fuel : Nat} {v : Value} {d : DataW H} {pl : List MemPlace} (h : DataW.trod enc Try.prog W 0 (fun _ => true) true fuel 27 [v] = some (d, pl)) (hs : SmallW 27 d) :
    ∃ A ls c, v = .slice A (List.length ls) c ∧ Sl BsE W A ls ∧ List.length ls ≤ c ∧ c ≤ 9223372036854775807 := by
  obtain ⟨A, xs, c, e, hb, hc1, hc2⟩ := opn_slW BsE Try.underlying27 Try.ceU8s Try.beU8s opn_bs h hs
  exact ⟨A, xs, c, by simpa using e, hb, hc1, by have : c * 24 ≤ 140737488351232 := hc2; omega⟩
end Go.Proofs.Ytbldfgpnghoigaa
