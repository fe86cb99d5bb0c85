/- The changes from one row to another, the reference's: caissonref14.Changes. -/
import Derived.Test.YtfededjcadmpbaaGreatDoorChgP
import Derived.Test.YtfededjcadmpbaaGreatDoorREntB
import Derived.StillTailTactics
namespace Go.Proofs.YtfededjcadmpbaaGreatDoor
open Go.RowKit

/-- a list of writes and an error -/
def RetRChg (E : Int) (m : List Wr) (w : World) (en : Ending) (w' : World) : Prop :=
  ∃ D d, en = .returned (.tuple #[.slice D m.length d, .int .i64 E]) ∧ Sl WrE w' D m ∧ Below w.heap.size w w'
theorem RetRChg.none_ (E : Int) {w w' : World} (b : Below w.heap.size w w') : RetRChg E [] w (.returned (.tuple #[.slice none 0 0, .int .i64 E])) w' :=
  ⟨none, 0, rfl, SlS.nil_ WrE w' _ _, b⟩
/-- a row's error, and what it is stored as, if an error e stands already -/
def thenE (e : Int) (e2 : Int) : Int := if e = 0 then e2 else e
def thenL {α : Type} (e : Int) (l : List α) : List α := if e = 0 then l else []
theorem stor_facts {id keys : Int} {tn : ByteArray} {cols : List LCol} {ixs : List LIx} {xs : List LVal} : (xs.length = 0 → storE id keys tn cols ixs xs = checkI id keys tn cols ixs ∧ storL id keys tn cols ixs xs = []) ∧ (xs.length ≠ 0 → storE id keys tn cols ixs xs = fitsE id keys tn cols ixs xs ∧ storL id keys tn cols ixs xs = entsB id keys tn cols ixs xs) ∧ (checkI id keys tn cols ixs ≠ 0 → storE id keys tn cols ixs xs = checkI id keys tn cols ixs ∧ storL id keys tn cols ixs xs = []) := by
  unfold storE storL
  refine ⟨fun h => by rw [if_pos h, if_pos h]; exact ⟨rfl, rfl⟩, fun h => by rw [if_neg h, if_neg h]; exact ⟨rfl, rfl⟩, fun h => ?_⟩
  by_cases h0 : xs.length = 0
  · rw [if_pos h0, if_pos h0]; exact ⟨rfl, rfl⟩
  · rw [if_neg h0, if_neg h0]
    have h1 : fitsE id keys tn cols ixs xs = checkI id keys tn cols ixs := if_pos h
    unfold entsB
    rw [h1, if_neg h]
    exact ⟨rfl, rfl⟩
theorem stor_check {id keys : Int} {tn : ByteArray} {cols : List LCol} {ixs : List LIx} {xs : List LVal} (h : storE id keys tn cols ixs xs = 0) : checkI id keys tn cols ixs = 0 := by
  apply Classical.byContradiction
  intro hn
  rw [(stor_facts.2.2 hn).1] at h
  exact hn h
theorem chgE_then (E1 E2 : Int) (L1 L2 : List (List UInt8 × List UInt8)) : chgE E1 E2 L1 L2 = if thenE E1 E2 ≠ 0 then thenE E1 E2 else if clashB L1 L2 = true then 1 else 0 := by
  unfold chgE thenE
  by_cases h : E1 = 0
  · rw [if_neg (fun h2 => h2 h), if_pos h]
  · rw [if_pos h, if_neg h, if_pos h]
theorem thenL_ok {α : Type} {E1 E2 : Int} {l : List α} (h : thenE E1 E2 = 0) : thenL E1 l = l := by
  unfold thenE at h
  by_cases h1 : E1 = 0
  · exact if_pos h1
  · rw [if_neg h1] at h; exact absurd h h1
/-- the guard of an 'if': no error, and a row -/
def gB (c : Int) (n : Nat) : Bool := (c == 0) && decide (0 < n)
theorem gB_eq {c : Int} {n : Nat} (h : c = 0) : gB c n = decide (0 < n) := by
  unfold gB; rw [h]; rfl
theorem gB_ne {c : Int} {n : Nat} (h : ¬ c = 0) : gB c n = false := by
  unfold gB; rw [beq_eq_false_iff_ne.2 h]; rfl
theorem gB_true {c : Int} {n : Nat} : (gB c n = true → c = 0 ∧ n ≠ 0) ∧ (gB c n = false → c ≠ 0 ∨ n = 0) := by
  by_cases h : c = 0
  · rw [gB_eq h]
    exact ⟨fun h2 => ⟨h, by have := of_decide_eq_true h2; omega⟩, fun h2 => .inr (by have := of_decide_eq_false h2; omega)⟩
  · rw [gB_ne h]
    exact ⟨fun h2 => absurd h2 (by decide), fun _ => .inl h⟩
set_option maxRecDepth 100000 in
set_option maxHeartbeats 8000000 in
theorem rchanges_any (id keys : Int) (tn : ByteArray) (cols : List LCol) (ixs : List LIx) (xs ys : List LVal) (A B X Y : Option Addr) (ca cb cx cy : Nat) (w : World) (hA : Sl ColE w A cols) (hB : Sl IxE w B ixs) (hX : Sl CelE w X xs) (hY : Sl CelE w Y ys) (hn : tn.size ≤ 140737488351232)
    (hx : ∀ x ∈ xs, x.err = 0 ∧ x.wfv) (hy : ∀ y ∈ ys, y.err = 0 ∧ y.wfv) (hcx : xs.length ≤ cx ∧ cx ≤ 9223372036854775807) (hcy : ys.length ≤ cy ∧ cy ≤ 9223372036854775807) :
    Calls Tryz.prog 7 #[.agg #[.int .i64 id, .string tn, .slice A cols.length ca, .int .i64 keys, .slice B ixs.length cb], .slice X xs.length cx, .slice Y ys.length cy] w
      (RetRChg (chgE (storE id keys tn cols ixs xs) (storE id keys tn cols ixs ys) (storL id keys tn cols ixs xs) (storL id keys tn cols ixs ys)) (if chgE (storE id keys tn cols ixs xs) (storE id keys tn cols ixs ys) (storL id keys tn cols ixs xs) (storL id keys tn cols ixs ys) = 0 then rchgL (storL id keys tn cols ixs xs) (storL id keys tn cols ixs ys) else []) w) := by
  have t0 : ∀ W, Below w.heap.size w W → Calls Tryz.prog 23 #[.agg #[.int .i64 id, .string tn, .slice A cols.length ca, .int .i64 keys, .slice B ixs.length cb]] W fun en w' => en = .returned (.int .i64 (checkI id keys tn cols ixs)) ∧ Below W.heap.size W w' := fun W hW => rcheck_any id keys tn A B ca cb cols ixs W (hA.below hW).cols (hB.below hW).ixs hn (hA.below hW).cnames (hB.below hW).xnames
  have t1 : ∀ W, Below w.heap.size w W → Calls Tryz.prog 24 #[.agg #[.int .i64 id, .string tn, .slice A cols.length ca, .int .i64 keys, .slice B ixs.length cb], .slice X xs.length cx] W (RetEnts (fitsE id keys tn cols ixs xs) (entsB id keys tn cols ixs xs) W) := fun W hW => rentries_any id keys tn cols ixs xs A B X ca cb cx W (hA.below hW) (hB.below hW) (hX.below hW) hn hx hcx
  have t2 : ∀ W, Below w.heap.size w W → Calls Tryz.prog 24 #[.agg #[.int .i64 id, .string tn, .slice A cols.length ca, .int .i64 keys, .slice B ixs.length cb], .slice Y ys.length cy] W (RetEnts (fitsE id keys tn cols ixs ys) (entsB id keys tn cols ixs ys) W) := fun W hW => rentries_any id keys tn cols ixs ys A B Y ca cb cy W (hA.below hW) (hB.below hW) (hY.below hW) hn hy hcy
  obtain ⟨nd1, ln1⟩ := storL_nodup id keys tn cols ixs xs
  obtain ⟨nd2, ln2⟩ := storL_nodup id keys tn cols ixs ys
  have s1 : (xs.length = 0 → storE id keys tn cols ixs xs = checkI id keys tn cols ixs ∧ storL id keys tn cols ixs xs = []) ∧ (xs.length ≠ 0 → storE id keys tn cols ixs xs = fitsE id keys tn cols ixs xs ∧ storL id keys tn cols ixs xs = entsB id keys tn cols ixs xs) ∧ (checkI id keys tn cols ixs ≠ 0 → storE id keys tn cols ixs xs = checkI id keys tn cols ixs ∧ storL id keys tn cols ixs xs = []) := stor_facts ..
  have s2 : (ys.length = 0 → storE id keys tn cols ixs ys = checkI id keys tn cols ixs ∧ storL id keys tn cols ixs ys = []) ∧ (ys.length ≠ 0 → storE id keys tn cols ixs ys = fitsE id keys tn cols ixs ys ∧ storL id keys tn cols ixs ys = entsB id keys tn cols ixs ys) ∧ (checkI id keys tn cols ixs ≠ 0 → storE id keys tn cols ixs ys = checkI id keys tn cols ixs ∧ storL id keys tn cols ixs ys = []) := stor_facts ..
  have sz : storE id keys tn cols ixs xs = 0 → checkI id keys tn cols ixs = 0 := stor_check
  generalize storE id keys tn cols ixs xs = E1 at *
  generalize storL id keys tn cols ixs xs = L1 at *
  generalize storE id keys tn cols ixs ys = E2 at *
  generalize storL id keys tn cols ixs ys = L2 at *
  generalize hMC : (if chgE E1 E2 L1 L2 = 0 then rchgL L1 L2 else []) = MC
  have HMC := Lib.hid hMC
  clear hMC
  generalize fitsE id keys tn cols ixs xs = F1 at *
  generalize entsB id keys tn cols ixs xs = N1 at *
  generalize fitsE id keys tn cols ixs ys = F2 at *
  generalize entsB id keys tn cols ixs ys = N2 at *
  generalize checkI id keys tn cols ixs = C1 at *
  have T0 := Lib.hid t0
  have T1 := Lib.hid t1
  have T2 := Lib.hid t2
  have ND1 := Lib.hid nd1
  have ND2 := Lib.hid nd2
  have S1 := Lib.hid s1
  have S2 := Lib.hid s2
  have SZ := Lib.hid sz
  clear hx hy t0 t1 t2 nd1 nd2 hA hB hX hY s1 s2 sz
  have b0 : Below w.heap.size w (w.alloc (.cells #[.int .i64 id, .string tn, .slice A cols.length ca, .int .i64 keys, .slice B ixs.length cb] 25)) := (Below.refl _ _).alloc (Nat.le_refl _) _
  have k0 := Blk.new w 25 #[.int .i64 id, .string tn, .slice A cols.length ca, .int .i64 keys, .slice B ixs.length cb]
  go_enter Tryz.func7, Tryz.ntmps7
  go_upto_region 1 with fail
  generalize (w.alloc (.cells #[.int .i64 id, .string tn, .slice A cols.length ca, .int .i64 keys, .slice B ixs.length cb] 25)) = W0 at *
  go_wp2_with ((with_reducible refine wpList_load_blk rfl 25 (.tmp 3) rfl w.heap.size ?_ 25 _ _ k0 Tryz.underlying25 ?_ Tryz.size_TableV ?_ ?_); rfl; rfl; rfl)
  refine (T0.out W0 b0).mono ?_
  rintro en w1 ⟨rfl, b1⟩
  have b01 := b0.trans (b1.mono b0.size)
  have k1 := k0.below b1 k0.lt
  have z1 := b01.size
  clear k0 b1 b0 T0
  go_upto_region 4 with fail
  go_cut [26] (fun s wx => s = .bool (gB C1 xs.length) ∧ wx = w1)
  case first =>
    clear T1 T2 S1 S2 ND1 ND2 SZ ln1 ln2
    by_cases hc : C1 = 0
    · have f0 : (C1 == 0) = true := by rw [hc]; rfl
      have HG := Lib.hid (gB_eq (n := xs.length) hc)
      clear hc
      go_wp2_with fail
      go_meet
      case rel => exact ⟨by rw [HG.out], rfl⟩
    · have f0 : (C1 == 0) = false := by rw [beq_eq_false_iff_ne]; exact hc
      have HG := Lib.hid (gB_ne (n := xs.length) hc)
      clear hc
      go_wp2_with fail
      go_meet
      case rel => exact ⟨by rw [HG.out], rfl⟩
  case rest =>
  obtain ⟨rfl, hwc⟩ := hcut
  subst hwc
  have HG1 := Lib.hid (gB_true (c := C1) (n := xs.length))
  generalize gB C1 xs.length = gb at *
  go_upto_if 26 with fail
  go_cut [8, 10] (fun s8 s10 wx => ∃ (D1 : Option Addr) (d1 : Nat), s8 = .slice D1 L1.length d1 ∧ s10 = .int .i64 E1 ∧ Sl PairE wx D1 L1 ∧ Blk wx w.heap.size 25 #[.int .i64 id, .string tn, .slice A cols.length ca, .int .i64 keys, .slice B ixs.length cb] ∧ Below w.heap.size w wx)
  case first =>
    clear T2 S2 ND1 ND2 SZ ln2
    cases gb with
    | false =>
      have HQ : Hid (E1 = C1 ∧ L1 = []) := by
        show _
        have h := HG1.out.2 rfl
        rcases h with h | h
        · exact S1.out.2.2 h
        · exact S1.out.1 h
      clear HG1
      go_wp2_with fail
      go_meet
      case rel => exact ⟨none, 0, by rw [HQ.out.2]; rfl, by rw [HQ.out.1], by rw [HQ.out.2]; exact SlS.nil_ PairE _ _ _, k1, b01⟩
    | true =>
      have HQ := Lib.hid (S1.out.2.1 (HG1.out.1 rfl).2)
      clear HG1
      go_wp2_with ((with_reducible refine wpList_load_blk rfl 25 (.tmp 3) rfl w.heap.size ?_ 25 _ _ k1 Tryz.underlying25 ?_ Tryz.size_TableV ?_ ?_); rfl; rfl; rfl)
      refine (T1.out _ b01).mono ?_
      rintro en w2 ⟨D1, d1, rfl, o1, b2⟩
      have z2 := b2.size
      have hN : N1.length ≤ 5 := by rw [← HQ.out.2]; exact ln1
      have q1 : Sl PairE w2 D1 N1 := Own.sl o1 (by simp only [PairE]; omega)
      go_wp2_with fail
      go_meet
      case rel => exact ⟨D1, d1, by rw [HQ.out.2], by rw [HQ.out.1], by rw [HQ.out.2]; exact q1, k1.below b2 k1.lt, b01.trans (b2.mono b01.size)⟩
  case rest =>
    obtain ⟨D1, d1, rfl, rfl, q1, k2, b02⟩ := hcut
    clear k1 b01 z1 S1 T1
    generalize wc = w2 at *
    have z2 := b02.size
    go_upto_region 6 with fail
    go_cut [39] (fun s wx => s = .bool (gB E1 ys.length) ∧ wx = w2)
    case first =>
      clear T2 S2 ND1 ND2 SZ ln1 ln2
      by_cases hc : E1 = 0
      · have f0 : (E1 == 0) = true := by rw [hc]; rfl
        have HG := Lib.hid (gB_eq (n := ys.length) hc)
        clear hc
        go_wp2_with fail
        go_meet
        case rel => exact ⟨by rw [HG.out], rfl⟩
      · have f0 : (E1 == 0) = false := by rw [beq_eq_false_iff_ne]; exact hc
        have HG := Lib.hid (gB_ne (n := ys.length) hc)
        clear hc
        go_wp2_with fail
        go_meet
        case rel => exact ⟨by rw [HG.out], rfl⟩
    case rest =>
    obtain ⟨rfl, hwc⟩ := hcut
    subst hwc
    have HG2 := Lib.hid (gB_true (c := E1) (n := ys.length))
    generalize gB E1 ys.length = gb2 at *
    go_upto_if 39 with fail
    go_cut [9, 10] (fun s9 s10 wx => ∃ (D2 : Option Addr) (d2 : Nat), s9 = .slice D2 (thenL E1 L2).length d2 ∧ s10 = .int .i64 (thenE E1 E2) ∧ Sl PairE wx D1 L1 ∧ Sl PairE wx D2 (thenL E1 L2) ∧ Below w.heap.size w wx)
    case first =>
      clear ND1 ND2 ln1
      cases gb2 with
      | false =>
        have HQ : Hid (thenL E1 L2 = [] ∧ thenE E1 E2 = E1) := by
          show _
          by_cases hc : E1 = 0
          · have h := (HG2.out.2 rfl).resolve_left (fun h => h hc)
            obtain ⟨h1, h2⟩ := S2.out.1 h
            refine ⟨(if_pos hc).trans h2, (if_pos hc).trans ?_⟩
            rw [h1, hc, SZ.out hc]
          · exact ⟨if_neg hc, if_neg hc⟩
        clear HG2
        go_wp2_with fail
        go_meet
        case rel => exact ⟨none, 0, by rw [HQ.out.1]; rfl, by rw [HQ.out.2], q1, by rw [HQ.out.1]; exact SlS.nil_ PairE _ _ _, b02⟩
      | true =>
        have HTL : Hid (thenL E1 L2 = L2) := if_pos (HG2.out.1 rfl).1
        have HTE : Hid (thenE E1 E2 = E2) := if_pos (HG2.out.1 rfl).1
        have HQ := Lib.hid (S2.out.2.1 (HG2.out.1 rfl).2)
        clear HG2
        go_wp2_with ((with_reducible refine wpList_load_blk rfl 25 (.tmp 3) rfl w.heap.size ?_ 25 _ _ k2 Tryz.underlying25 ?_ Tryz.size_TableV ?_ ?_); rfl; rfl; rfl)
        refine (T2.out _ b02).mono ?_
        rintro en w3 ⟨D2, d2, rfl, o2, b3⟩
        have z3 := b3.size
        have hN : N2.length ≤ 5 := by rw [← HQ.out.2]; exact ln2
        have q2 : Sl PairE w3 D2 N2 := Own.sl o2 (by simp only [PairE]; omega)
        go_wp2_with fail
        go_meet
        case rel => exact ⟨D2, d2, by rw [HTL.out, HQ.out.2], by rw [HTE.out, HQ.out.1], q1.below b3, by rw [HTL.out, HQ.out.2]; exact q2, b02.trans (b3.mono b02.size)⟩
    case rest =>
      obtain ⟨D2, d2, rfl, rfl, q1, q2, b03⟩ := hcut
      clear k2 b02 S2 T2 z2 SZ
      generalize wc = w3 at *
      have z3 := b03.size
      have HCH : Hid (chgE E1 E2 L1 L2 = if thenE E1 E2 ≠ 0 then thenE E1 E2 else if clashB L1 L2 = true then 1 else 0) := chgE_then ..
      have HTH : Hid (thenE E1 E2 = 0 → thenL E1 L2 = L2) := thenL_ok
      generalize thenE E1 E2 = E3 at *
      generalize hL3 : thenL E1 L2 = L3 at *
      generalize chgE E1 E2 L1 L2 = EC at *
      by_cases he : E3 = 0
      · have e0 : (E3 == 0) = true := by rw [he]; rfl
        have e1 : (E3 != 0) = false := by rw [he]; rfl
        obtain rfl : L3 = L2 := HTH.out he
        have HE3 := Lib.hid he
        have HCC : Hid (EC = if clashB L1 L3 = true then 1 else 0) := by show _ = _; rw [HCH.out, if_neg (fun h => h he)]
        clear HCH HTH he hL3
        go_upto_region 8 with fail
        go_cut [69] (fun s69 wx => s69 = .bool (clashB L1 L3) ∧ ∃ n, wx = w3.drewN n)
        case first =>
          clear ND1 ND2 HCC
          by_cases n1 : L1 = []
          · have f1 : decide (0 < L1.length) = false := by rw [n1]; rfl
            have HC : Hid (clashB L1 L3 = false) := by show _ = _; rw [n1]; rfl
            clear n1
            go_quiet (fail)
            go_wp2_with fail
            go_meet
            case rel => exact ⟨by rw [HC.out], _, rfl⟩
          · have f1 : decide (0 < L1.length) = true := by cases L1 with | nil => exact absurd rfl n1 | cons => rw [decide_eq_true_eq, List.length_cons]; omega
            by_cases n2 : L3 = []
            · have f2 : decide (0 < L3.length) = false := by rw [n2]; rfl
              have HC : Hid (clashB L1 L3 = false) := by show _ = _; rw [n2]; cases L1 <;> rfl
              clear n1 n2
              go_quiet (fail)
              go_wp2_with fail
              go_meet
              case rel => exact ⟨by rw [HC.out], _, rfl⟩
            · have f2 : decide (0 < L3.length) = true := by cases L3 with | nil => exact absurd rfl n2 | cons => rw [decide_eq_true_eq, List.length_cons]; omega
              have p1 : 0 < L1.length := of_decide_eq_true f1
              have p2 : 0 < L3.length := of_decide_eq_true f2
              have g1 : (0 : Int) < (L1.length : Int) := by omega
              have g2 : (0 : Int) < (L3.length : Int) := by omega
              obtain ⟨a1, P1, c1, _, _, rfl, _, y1, _, ⟨hP1, _⟩, _⟩ := PairE.at_ q1 p1
              obtain ⟨a2, P2, c2, _, _, rfl, _, y2, _, ⟨hP2, _⟩, _⟩ := PairE.at_ q2 p2
              rw [show a1.add (0 * 2) = a1 by simp [Addr.add]] at y1
              rw [show a2.add (0 * 2) = a2 by simp [Addr.add]] at y2
              have HC : Hid (clashB L1 L3 = !(L1[0].1 == L3[0].1)) := by
                show _ = _
                cases L1 with
                | nil => exact absurd rfl n1
                | cons r1 l1 => cases L3 with
                  | nil => exact absurd rfl n2
                  | cons r2 l2 => rfl
              have t3 : ∀ n, Calls Tryz.prog 15 #[.slice P1 L1[0].1.length c1, .slice P2 L3[0].1.length c2] (w3.drewN n) fun e w' => e = .returned (.bool (L1[0].1 == L3[0].1)) ∧ ∃ q, w' = w3.drewN q := fun n =>
                (equal_any P1 P2 _ _ c1 c2 (w3.drewN n) (hP1.drewN _) (hP2.drewN _)).mono fun _ _ ⟨he, q, hm⟩ => ⟨he, n + q, by rw [hm, World.drewN_drewN]⟩
              generalize L1[0] = r1 at *
              generalize L3[0] = r2 at *
              have T3 := Lib.hid t3
              clear t3 n1 n2 hP1 hP2
              generalize (r1.1 == r2.1) = eb at *
              go_quiet ((go_at_call 15; with_reducible exact T3.out _))
              go_wp2_with fail
              go_meet
              case rel => exact ⟨by rw [HC.out], _, rfl⟩
        case rest =>
          obtain ⟨rfl, nq, rfl⟩ := hcut
          have bq : Below w3.heap.size w3 (w3.drewN nq) := below_drewN (Below.refl _ _) nq
          have b04 := b03.trans (bq.mono b03.size)
          have r1 := q1.below bq
          have r2 := q2.below bq
          clear q1 q2 b03 bq z3
          generalize w3.drewN nq = w4 at *
          cases hcl : clashB L1 L3 with
          | true =>
            have HE : Hid (EC = 1) := by show _ = _; rw [HCC.out, if_pos hcl]
            clear hcl HCC
            go_wp2_with fail
            go_ret2
            rw [HE.out, show MC = [] from by rw [← HMC.out, HE.out]; exact if_neg (by decide)]
            exact RetRChg.none_ 1 b04
          | false =>
            have HE : Hid (EC = 0) := by show _ = _; rw [HCC.out, if_neg (by rw [hcl]; decide)]
            clear hcl HCC
            have z4 := b04.size
            go_wp2_with fail
            go_loopw [12, 11, 13, 14] (fun i o _ _ wr => ∃ (k : Nat) (acc : List Wr) (Bo : Option Addr) (dO : Nat), k ≤ L3.length ∧ i = .int .i64 (k : Int) ∧ o = .slice Bo acc.length dO ∧ Sl WrE wr Bo acc ∧ (acc.length ≤ dO ∧ dO ≤ 9223372036854775807) ∧ acc = newK L1 L3 k ∧ acc.length ≤ 5 ∧ Below w4.heap.size w4 wr) (fun i _ _ _ _ => L3.length - (intOf i).toNat)
            case atStart => exact ⟨0, [], none, 0, Nat.zero_le _, rfl, rfl, SlS.nil_ WrE _ _ _, ⟨Nat.le_refl _, by decide⟩, (newK_zero L1 L3).symm, Nat.zero_le _, Below.refl _ _⟩
            case round =>
              obtain ⟨k, acc, Bo, dO, hk, rfl, rfl, qO, hcap, hacc, hal, bw⟩ := hrel
              have HACC := Lib.hid hacc
              clear hacc
              by_cases hlt : k < L3.length
              · have hlt' : (k : Int) < (L3.length : Int) := by omega
                have HST := Lib.hid (newK_step (was := L1) hlt)
                have HLN := Lib.hid (newK_len L1 L3 (k + 1))
                have HNB := Lib.hid (newB_find ND1.out L3[k])
                have qW := r1.below bw
                obtain ⟨ad, P, p, Q, q, rfl, _, y0, y1, ⟨hP, _⟩, hQ, _⟩ := PairE.at_ (r2.below bw) hlt
                generalize L3[k] = pr at *
                generalize hfo : findF L1 pr.1 = fo at *
                go_upto_region 16 with fail
                go_wp2_with fail
                refine (rfind_any L1 pr.1 D1 P d1 p wr qW hP).mono ?_
                rw [show (L1.find? fun q => q.1 == pr.1).map Prod.snd = fo from hfo]
                clear hfo
                rintro en w5 ⟨V, dv, rfl, hV, n5, rfl⟩
                go_upto_region 17 with fail
                go_cut [100] from 73 to 113 (fun s wx => s = .bool (newB L1 pr) ∧ ∃ n, wx = wr.drewN n)
                case first =>
                  cases fo with
                  | none =>
                    go_wp2_with fail
                    go_meet
                    case rel => exact ⟨by rw [HNB.out]; rfl, n5, rfl⟩
                  | some v =>
                    have T := equal_any V Q v pr.2 dv q (wr.drewN n5) hV (hQ.drewN n5)
                    go_wp2_with fail
                    refine T.mono ?_
                    rintro en w6 ⟨rfl, n6, rfl⟩
                    go_wp2_with fail
                    go_meet
                    case rel => exact ⟨by rw [HNB.out]; rfl, n5 + n6, rfl⟩
                case rest =>
                  obtain ⟨rfl, n6, rfl⟩ := hcut
                  clear HNB hV
                  cases hb : newB L1 pr with
                  | false =>
                    have HS2 : Hid (newK L1 L3 (k + 1) = acc) := by show _ = _; rw [HST.out, if_neg (by rw [hb]; decide), HACC.out]
                    clear hb
                    go_wp2_with fail
                    go_roundw
                    case rel => exact ⟨k + 1, acc, Bo, dO, by omega, by go_num, rfl, qO.drewN _, hcap, HS2.out.symm, hal, below_drewN bw _⟩
                    case measure => simp [intOf]; omega
                  | true =>
                    have HS2 : Hid (newK L1 L3 (k + 1) = putL acc (pr.1, pr.2, false)) := by show _ = _; rw [HST.out, if_pos hb, HACC.out]
                    clear hb
                    have bw6 := below_drewN bw n6
                    have qO6 := qO.drewN n6
                    have hP6 := hP.drewN n6
                    have hQ6 := hQ.drewN n6
                    rw [← World.cell?_drewN (n := n6)] at y0 y1
                    clear bw qO hP hQ qW
                    generalize wr.drewN n6 = w6 at *
                    go_upto_region 18 with fail
                    go_still_tail 12, (by kernel_rfl)
                    have y07 : w6.drew.cell? (ad.add (k * 2)) = some (.slice P pr.1.length p) := y0
                    have y17 : w6.drew.cell? ⟨(ad.add (k * 2)).block, (ad.add (k * 2)).off + 1, none⟩ = some (.slice Q pr.2.length q) := y1
                    have bw7 := bw6.drew
                    have qO7 : SlS WrE w6.drew Any Bo acc := qO6.drewN 1
                    have hP7 : Bs w6.drew P pr.1 := hP6.drewN 1
                    have hQ7 : Bs w6.drew Q pr.2 := hQ6.drewN 1
                    clear y0 y1 bw6 qO6 hP6 hQ6
                    change wpList _ _ _ _ _ w6.drew
                    generalize w6.drew = w7 at *
                    have z7 := bw7.size
                    go_wp2_with fail
                    refine (putw_any acc (pr.1, pr.2, false) Bo P Q dO p q w7 qO7 hcap hP7 hQ7 (by omega)).mono ?_
                    rintro en w8 ⟨B8, d8, rfl, qO8, hcap8, b8⟩
                    have HL8 : Hid ((putL acc (pr.1, pr.2, false)).length ≤ 5) := by show _ ≤ _; have := HLN.out; rw [HS2.out] at this; omega
                    generalize putL acc (pr.1, pr.2, false) = ac8 at *
                    have z8 := b8.size
                    go_wp2_with fail
                    go_roundw
                    case rel => exact ⟨k + 1, ac8, B8, d8, by omega, by go_num, rfl, qO8, hcap8, HS2.out.symm, HL8.out, bw7.trans (b8.mono bw7.size)⟩
                    case measure => simp [intOf]; omega
              · obtain rfl : k = L3.length := by omega
                have HAC2 : Hid (acc = gonK L1 L3 0) := by show _ = _; rw [HACC.out, gonK_zero]
                clear HACC hlt hk
                have zr := bw.size
                generalize wr = wo at *
                go_wp2_with fail
                go_loopw [15, 11, 16, 17] (fun i o _ _ wr2 => ∃ (k : Nat) (ac2 : List Wr) (Bo : Option Addr) (dO : Nat), k ≤ L1.length ∧ i = .int .i64 (k : Int) ∧ o = .slice Bo ac2.length dO ∧ Sl WrE wr2 Bo ac2 ∧ (ac2.length ≤ dO ∧ dO ≤ 9223372036854775807) ∧ ac2 = gonK L1 L3 k ∧ ac2.length ≤ 10 ∧ Below w4.heap.size w4 wr2) (fun i _ _ _ _ => L1.length - (intOf i).toNat)
                case atStart => exact ⟨0, acc, Bo, dO, Nat.zero_le _, rfl, rfl, qO, hcap, HAC2.out, by omega, bw⟩
                case round =>
                  clear HAC2 qO hcap hal bw zr
                  obtain ⟨k, ac2, Bu, dU, hk, rfl, rfl, qO, hcap, hacc, hal, bw⟩ := hrel
                  have HACC := Lib.hid hacc
                  clear hacc
                  by_cases hlt : k < L1.length
                  · have hlt' : (k : Int) < (L1.length : Int) := by omega
                    have HST := Lib.hid (gonK_step (is := L3) hlt)
                    have HLN := Lib.hid (gonK_len L1 L3 (k + 1))
                    have qW := r2.below bw
                    obtain ⟨ad, P, p, Q, q, rfl, _, y0, _, ⟨hP, _⟩, _, _⟩ := PairE.at_ (r1.below bw) hlt
                    generalize L1[k] = pr at *
                    have HFK := Lib.hid (find_any_key (is := L3) (k := pr.1))
                    generalize hfo : findF L3 pr.1 = fo at *
                    go_wp2_with fail
                    refine (rfind_any L3 pr.1 D2 P d2 p wr qW hP).mono ?_
                    rw [show (L3.find? fun q => q.1 == pr.1).map Prod.snd = fo from hfo]
                    clear hfo
                    rintro en w5 ⟨V, dv, rfl, hV, n5, rfl⟩
                    cases fo with
                    | some v =>
                      have HS2 : Hid (gonK L1 L3 (k + 1) = ac2) := by show _ = _; rw [HST.out, if_pos (by rw [← HFK.out]; rfl), HACC.out]
                      go_wp2_with fail
                      go_roundw
                      case rel => exact ⟨k + 1, ac2, Bu, dU, by omega, by go_num, rfl, qO.drewN _, hcap, HS2.out.symm, hal, below_drewN bw _⟩
                      case measure => simp [intOf]; omega
                    | none =>
                      have HS2 : Hid (gonK L1 L3 (k + 1) = putL ac2 (pr.1, [], true)) := by show _ = _; rw [HST.out, if_neg (by rw [← HFK.out]; decide), HACC.out]
                      have bw5 := below_drewN bw n5
                      have qO5 := qO.drewN n5
                      have hP5 := hP.drewN n5
                      rw [← World.cell?_drewN (n := n5)] at y0
                      clear bw qO hP qW hV
                      generalize wr.drewN n5 = w5 at *
                      have z5 := bw5.size
                      go_wp2_with fail
                      refine (putw_any ac2 (pr.1, [], true) Bu P none dU p 0 w5 qO5 hcap hP5 (Bs.nil_ _ _) (by omega)).mono ?_
                      rintro en w6 ⟨B6, d6, rfl, qO6, hcap6, b6⟩
                      have HL6 : Hid ((putL ac2 (pr.1, [], true)).length ≤ 10) := by show _ ≤ _; have := HLN.out; rw [HS2.out] at this; omega
                      generalize putL ac2 (pr.1, [], true) = ac6 at *
                      have z6 := b6.size
                      go_wp2_with fail
                      go_roundw
                      case rel => exact ⟨k + 1, ac6, B6, d6, by omega, by go_num, rfl, qO6, hcap6, HS2.out.symm, HL6.out, bw5.trans (b6.mono bw5.size)⟩
                      case measure => simp [intOf]; omega
                  · obtain rfl : k = L1.length := by omega
                    have HAL : Hid (MC = ac2) := by show _ = _; rw [← HMC.out, if_pos HE.out, HACC.out, gonK_all]
                    clear HACC
                    go_wp2_with fail
                    go_ret2
                    rw [HAL.out, HE.out]
                    exact ⟨Bu, dU, rfl, qO, b04.trans (bw.mono b04.size)⟩
      · have e0 : (E3 == 0) = false := by rw [beq_eq_false_iff_ne]; exact he
        have e1 : (E3 != 0) = true := by rw [bne_iff_ne]; exact he
        have HE : Hid (EC = E3) := by show _ = _; rw [HCH.out, if_pos he]
        have HNE := Lib.hid he
        clear he HCH HTH hL3
        go_upto_region 8 with fail
        go_quiet (fail)
        go_wp2_with fail
        go_ret2
        rw [HE.out, show MC = [] from by rw [← HMC.out, HE.out]; exact if_neg HNE.out]
        exact RetRChg.none_ E3 (below_drewN b03 _)
end Go.Proofs.YtfededjcadmpbaaGreatDoor
