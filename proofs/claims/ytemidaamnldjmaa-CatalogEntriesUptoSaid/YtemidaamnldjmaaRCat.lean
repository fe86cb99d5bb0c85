/- An entry in form: the reference's Check. -/
import Derived.Test.YtemidaamnldjmaaRForm
import Derived.Test.YtemidaamnldjmaaCat
namespace Go.Proofs.Ytemidaamnldjmaa
open Go.RowKit

theorem prefB_pfx (id : Int) (l : List UInt8) : prefB l (pfx id) = (decide (2 ≤ l.length) && (l.getD 0 0 == 114) && (l.getD 1 0 == UInt8.ofInt id)) := by
  rcases l with _ | ⟨a, _ | ⟨b, l⟩⟩
  · rfl
  · rfl
  · have : prefB (a :: b :: l) (pfx id) = ([a, b] == [114, UInt8.ofInt id]) := by
      unfold prefB pfx; simp
    rw [this]; simp [List.getD]

theorem Bs.two {w : World} {A : Option Addr} {l : List UInt8} (h : Bs w A l) (h2 : 2 ≤ l.length) : ∃ ad, A = some ad ∧ w.cell? ad = some (.int .u8 ((l.getD 0 0).toNat : Int)) ∧ w.cell? (ad.add 1) = some (.int .u8 ((l.getD 1 0).toNat : Int)) := by
  obtain ⟨ad, rfl, _, e0⟩ := h.at_ (k := 0) (by omega)
  obtain ⟨ad', hcd, _, e1⟩ := h.at_ (k := 1) (by omega)
  obtain rfl := Option.some.inj hcd
  refine ⟨ad, rfl, ?_, ?_⟩
  · rw [List.getD_eq_getElem?_getD, List.getElem?_eq_getElem (by omega)]; exact e0
  · rw [List.getD_eq_getElem?_getD, List.getElem?_eq_getElem (by omega)]; exact e1

theorem u8_beq (a b : UInt8) : ((a.toNat : Int) == (b.toNat : Int)) = (a == b) := by
  rw [Bool.eq_iff_iff]; simp only [beq_iff_eq]
  constructor
  · intro h; exact UInt8.toNat_inj.1 (by omega)
  · intro h; rw [h]

theorem prefB_two {w : World} {A B : Option Addr} {l : List UInt8} {id : Int} (h : Bs w A l) (hp : Bs w B (pfx id)) (h2 : 2 ≤ l.length) : ∃ (x0 x1 px : Int) (b0 b1 : Bool), ∃ ad pd, A = some ad ∧ B = some pd ∧ w.cell? ad = some (.int .u8 x0) ∧ w.cell? ⟨ad.block, ad.off + 1, none⟩ = some (.int .u8 x1) ∧
    w.cell? pd = some (.int .u8 114) ∧ w.cell? ⟨pd.block, pd.off + 1, none⟩ = some (.int .u8 px) ∧ (x0 == 114) = b0 ∧ (x1 == px) = b1 ∧ prefB l (pfx id) = (b0 && b1) := by
  obtain ⟨ad, e, e0, e1⟩ := h.two h2
  obtain ⟨pd, e', q0, q1⟩ := hp.two (show 2 ≤ (pfx id).length from Nat.le_refl 2)
  exact ⟨_, _, _, _, _, ad, pd, e, e', e0, e1, q0, q1, rfl, rfl, by rw [prefB_pfx, decide_eq_true h2, Bool.true_and, ← u8_beq, ← u8_beq]; rfl⟩

/-- what the reference's test of a cursor comes to -/
def rcurB (id : Int) (cur : List UInt8) : Bool := decide (cur.length ≤ 401) && (prefB cur (pfx id) || (cur == nextN (pfx id) 2))

set_option maxRecDepth 100000 in
set_option maxHeartbeats 2000000 in
theorem recheck_any (id keys : Int) (tn : ByteArray) (A B S : Option Addr) (cc ci cs : Nat) (cols : List LCol) (ixs : List LIx) (sts : List LSt) (w : World) (hA : Cols w A cols) (hB : Ixs w B ixs) (hS : Sl StE w S sts)
    (hs : tn.size ≤ 140737488351232) (hsc : ∀ x ∈ cols, x.name.size ≤ 140737488351232) (hsx : ∀ x ∈ ixs, x.name.size ≤ 140737488351232 ∧ x.cols.length ≤ 140737488351232) :
    Calls Try.prog 9 #[.agg #[.int .i64 id, .string tn, .slice A cols.length cc, .int .i64 keys, .slice B ixs.length ci, .slice S sts.length cs]] w
      fun e w' => e = .returned (.int .i64 (entryI id keys tn cols ixs sts)) ∧ Below w.heap.size w w' := by
  have hsl := SlS.le hS
  have b0 : Below w.heap.size w (w.alloc (.cells #[.int .i64 id, .string tn, .slice A cols.length cc, .int .i64 keys, .slice B ixs.length ci, .slice S sts.length cs] 28)) := (Below.refl _ _).alloc (Nat.le_refl _) _
  go_enter Try.func9, Try.ntmps9
  go_wp2_with fail
  have hbk := Blk.new w 28 #[.int .i64 id, .string tn, .slice A cols.length cc, .int .i64 keys, .slice B ixs.length ci, .slice S sts.length cs]
  refine (rcheck_any id keys tn A B cc ci cols ixs _ (hA.below b0) (hB.below b0) hs hsc hsx).mono ?_
  rintro e w1 ⟨rfl, b1⟩
  have b01 := b0.trans (b1.mono b0.size)
  have hbk1 := hbk.below b1 hbk.lt
  obtain ⟨hc1, hf1⟩ := bcell b1
  have HS := Lib.hid (SlS.below hS b01)
  clear hsc hsx hA hB hS
  by_cases h0 : checkI id keys tn cols ixs = 0
  · have HE : Hid (entryI id keys tn cols ixs sts = if sts.length ≠ ixs.length then 3 else if statesB id sts = false then 3 else 0) := by
      show _ = _; unfold entryI; rw [if_neg (by rw [h0]; decide)]
    have d0 : (checkI id keys tn cols ixs != 0) = false := by rw [h0]; rfl
    clear h0
    by_cases hl2 : sts.length = ixs.length
    · have HE1 : Hid (entryI id keys tn cols ixs sts = if statesB id sts = false then 3 else 0) := by show _ = _; rw [HE.out, if_neg (by rw [hl2]; exact fun h => h rfl)]
      have d1 : ((sts.length : Int) != (ixs.length : Int)) = false := by rw [hl2]; simp
      clear hl2 HE
      go_wp2_with fail
      refine (rprefix_any _ _ _ _ _ _ _ _ _ _).mono ?_
      rintro e w2 ⟨A1, rfl, o1, b2⟩
      have hp : Bs w2 A1 (pfx id) := Bs.of_own (l := [114, UInt8.ofInt id]) o1 (by simp)
      clear hc1 hf1
      have hbk2 := hbk1.below b2 hbk1.lt
      have b02 := b01.trans (b2.mono b01.size)
      have HS2 := Lib.hid (SlS.below HS.out b2)
      go_wp2_with fail
      go_loopw [5] (fun i wr => ∃ k : Nat, k ≤ sts.length ∧ i = .int .i64 k ∧ Blk wr w.heap.size 28 #[.int .i64 id, .string tn, .slice A cols.length cc, .int .i64 keys, .slice B ixs.length ci, .slice S sts.length cs] ∧ statesB id sts = statesB id (sts.drop k) ∧ Below w2.heap.size w2 wr) (fun i _ => sts.length - (intOf i).toNat)
      case atStart => exact ⟨0, Nat.zero_le _, rfl, hbk2, rfl, Below.refl _ _⟩
      case round =>
        obtain ⟨k, hk, rfl, hb0, hcs, hbx⟩ := hrel
        have HC := Lib.hid hcs
        clear hcs
        have x5 : wr.cell? ⟨w.heap.size, 5, none⟩ = some (.slice S sts.length cs) := hb0.cell 5
        have hxlt : w.heap.size < wr.heap.size := hb0.lt
        have hbw : Below w.heap.size w wr := b02.trans (hbx.mono b02.size)
        by_cases hlt : k < sts.length
        · obtain ⟨ad, C, c, rfl, hadb, c0, c1, hcur, hcc⟩ := StE.at_ (SlS.below HS2.out hbx) hlt
          have hsplit : sts.drop k = sts[k] :: sts.drop (k + 1) := List.drop_eq_getElem_cons hlt
          have HD : Hid (statesB id sts = (stB id sts[k] && (decide (sts[k].phase = 0) || decide (sts.length - (k + 1) = 0)) && statesB id (sts.drop (k + 1)))) := by
            show _ = _; rw [HC.out, hsplit, statesB, List.length_drop]
          have hbad : stB id sts[k] = false → Hid (entryI id keys tn cols ixs sts = 3) := by
            intro h; show _ = _; rw [HE1.out, HD.out, h, Bool.false_and, Bool.false_and, if_pos rfl]
          have HBAD := Lib.hid hbad
          clear hsplit hbad HC
          generalize sts[k] = s at *
          have hW : Below wr.heap.size wr (wr.alloc (.cells #[.int .i64 s.phase, .slice C s.cur.length c] 62)) := (Below.refl _ _).alloc (Nat.le_refl _) _
          have hcW := hcur.below hW
          have hpW := (hp.below hbx).below hW
          go_upto_region 11 with fail
          go_cut [7] (fun s7 wx => s7 = .bool (prefB s.cur (pfx id)) ∧ ∃ n, wx = (wr.alloc (.cells #[.int .i64 s.phase, .slice C s.cur.length c] 62)).drewN n)
          case first =>
            have HP := Lib.hid (prefB_pfx id s.cur)
            by_cases h2 : 2 ≤ s.cur.length
            · have d2 : decide ((2 : Int) ≤ (s.cur.length : Int)) = true := decide_eq_true (by omega)
              obtain ⟨y0, y1, px, g0, g1, cd, pd, rfl, rfl, e0, e1, q0, q1, hg0, hg1, hp2⟩ := prefB_two hcW hpW h2
              have HP2 := Lib.hid hp2
              clear HP hp2
              cases g0
              · clear hg1
                go_wp2_with fail
                go_quiet (fail)
                go_wp2_with fail
                go_meet
                case rel => exact ⟨(congrArg Value.bool HP2.out).symm, _, rfl⟩
              · cases g1
                all_goals
                  go_wp2_with fail
                  go_quiet (fail)
                  go_wp2_with fail
                  go_meet
                  case rel => exact ⟨(congrArg Value.bool HP2.out).symm, _, rfl⟩
            · have d2 : decide ((2 : Int) ≤ (s.cur.length : Int)) = false := decide_eq_false (by omega)
              have HP2 : Hid (prefB s.cur (pfx id) = false) := by show _ = _; rw [HP.out, decide_eq_false h2]; rfl
              go_wp2_with fail
              go_quiet (fail)
              go_wp2_with fail
              go_meet
              case rel => exact ⟨(congrArg Value.bool HP2.out).symm, _, rfl⟩
          case rest =>
            obtain ⟨rfl, nd, rfl⟩ := hcut
            have hba : Below w.heap.size w (wr.alloc (.cells #[.int .i64 s.phase, .slice C s.cur.length c] 62)) := hbw.trans (hW.mono hbw.size)
            have hlen2 : (pfx id).length = 2 := rfl
            go_upto_region 12 with fail
            go_cut [7, 8] (fun _ s8 wx => s8 = .bool (rcurB id s.cur) ∧ Below (wr.heap.size + 1) (wr.alloc (.cells #[.int .i64 s.phase, .slice C s.cur.length c] 62)) wx)
            case first =>
              have hE : rcurB id s.cur = (decide (s.cur.length ≤ 401) && (prefB s.cur (pfx id) || (s.cur == nextN (pfx id) 2))) := rfl
              have HE5 := Lib.hid hE
              clear hE
              by_cases h1 : 401 < s.cur.length
              · have hd : decide ((s.cur.length : Int) ≤ 401) = false := decide_eq_false (by omega)
                have HE2 : Hid (rcurB id s.cur = false) := by show _ = _; rw [HE5.out, decide_eq_false (by omega)]; rfl
                go_wp2_with fail
                go_quiet (fail)
                go_wp2_with fail
                go_meet
                case rel => exact ⟨(congrArg Value.bool HE2.out).symm, by first | exact below_drewN (below_drewN (Below.refl _ _) _) _ | exact below_drewN (Below.refl _ _) _⟩
              · have hd : decide ((s.cur.length : Int) ≤ 401) = true := decide_eq_true (by omega)
                cases hpb : prefB s.cur (pfx id)
                · cases hce : (s.cur == nextN (pfx id) 2)
                  all_goals
                    rw [hpb, hce, decide_eq_true (show s.cur.length ≤ 401 by omega)] at HE5
                    have HCE := Lib.hid hce
                    clear hce hpb
                    have y1 : ((wr.alloc (.cells #[.int .i64 s.phase, .slice C s.cur.length c] 62)).drewN nd).drew.cell? ⟨wr.heap.size, 1, none⟩ = some (.slice C s.cur.length c) := by
                      have := (Blk.new wr 62 #[.int .i64 s.phase, .slice C s.cur.length c]).cell 1
                      exact this
                    go_wp2_with fail
                    go_region_held3 (fun w' => w'.cell? ⟨wr.heap.size, 1, none⟩ = some (.slice C s.cur.length c)) (first | assumption | go_keep)
                      (first
                        | (go_at_call 25; refine (rnext_any A1 (pfx id) 2 _ (hpW.drewN (nd + 1)) ⟨Nat.le_refl _, by decide⟩).mono ?_; rintro e w3 ⟨A3, c3, rfl, o3, b3⟩; have q3 := (b3.cell (p := ⟨wr.heap.size, 1, none⟩) (by simp)).trans y1)
                        | (go_at_call 16; refine (equal_any C A3 s.cur (nextN (pfx id) (pfx id).length) c c3 w3 ((hcW.drewN (nd + 1)).below b3) (Bs.of_own o3 (by have := nextN_len (pfx id) (pfx id).length; omega))).mono ?_; rw [show (s.cur == nextN (pfx id) (pfx id).length) = _ from HCE.out]; rintro e w4 ⟨rfl, n4, rfl⟩))
                    go_wp2_with fail
                    go_meet
                    case rel => exact ⟨(congrArg Value.bool HE5.out).symm, below_drewN ((below_drewN (Below.refl _ _) (nd + 1)).trans (b3.mono (by simp))) _⟩
                · rw [hpb, decide_eq_true (show s.cur.length ≤ 401 by omega)] at HE5
                  clear hpb
                  go_wp2_with fail
                  go_quiet (fail)
                  go_wp2_with fail
                  go_meet
                  case rel => exact ⟨(congrArg Value.bool HE5.out).symm, by first | exact below_drewN (below_drewN (Below.refl _ _) _) _ | exact below_drewN (Below.refl _ _) _⟩
            case rest =>
              obtain ⟨rfl, bw⟩ := hcut
              obtain ⟨hcw, hfw⟩ : (∀ b o, b < wr.heap.size + 1 → wc.cell? ⟨b, o, none⟩ = (wr.alloc (.cells #[.int .i64 s.phase, .slice C s.cur.length c] 62)).cell? ⟨b, o, none⟩) ∧ (∀ b o, b < wr.heap.size + 1 → wc.frozen? ⟨b, o, none⟩ = (wr.alloc (.cells #[.int .i64 s.phase, .slice C s.cur.length c] 62)).frozen? ⟨b, o, none⟩) :=
                ⟨fun b o h => bw.cell (p := ⟨b, o, none⟩) h, fun b o h => bw.frozen (p := ⟨b, o, none⟩) h⟩
              have hb2 := hba.trans (bw.mono (by omega))
              have hbx2 := (hbx.trans (hW.mono hbx.size)).trans (bw.mono (by have := hbx.size; omega))
              have hb02 := (hb0.alloc (.cells #[.int .i64 s.phase, .slice C s.cur.length c] 62)).below bw (by omega)
              clear hcW hpW hW
              have hcu : cursorB id s.phase s.cur = if s.phase = 0 then decide (s.cur.length = 0) else rcurB id s.cur := rfl
              have HCU := Lib.hid hcu
              clear hcu
              have hend : ∀ (g : Bool), cursorB id s.phase s.cur = g → (s.phase < 0 ∨ 2 < s.phase ∨ g = false ∨ (s.phase ≠ 0 ∧ k < sts.length - 1) → Hid (entryI id keys tn cols ixs sts = 3)) ∧
                  (¬ s.phase < 0 → ¬ 2 < s.phase → g = true → (s.phase = 0 ∨ ¬ k < sts.length - 1) → Hid (statesB id sts = statesB id (sts.drop (k + 1)))) := by
                intro g hg
                refine ⟨fun h => ?_, fun h1 h2 h3 h4 => ?_⟩
                · by_cases hst : stB id s = false
                  · exact HBAD.out hst
                  · rcases h with h | h | h | ⟨h, h'⟩
                    · exact absurd (by unfold stB; rw [decide_eq_false (show ¬ 0 ≤ s.phase by omega)]; rfl) hst
                    · exact absurd (by unfold stB; rw [decide_eq_false (show ¬ s.phase ≤ 2 by omega), Bool.and_false]; rfl) hst
                    · exact absurd (by unfold stB; rw [hg, h, Bool.and_false]) hst
                    · show _ = _
                      rw [HE1.out, HD.out, decide_eq_false h, decide_eq_false (show ¬ sts.length - (k + 1) = 0 by omega)]; simp
                · show _ = _
                  have hst : stB id s = true := by unfold stB; rw [hg, h3, decide_eq_true (show 0 ≤ s.phase by omega), decide_eq_true (show s.phase ≤ 2 by omega)]; rfl
                  rw [HD.out, hst]
                  rcases h4 with h4 | h4
                  · rw [decide_eq_true h4]; rfl
                  · rw [decide_eq_true (show sts.length - (k + 1) = 0 by omega)]; simp
              have HEND := Lib.hid hend
              clear hend HBAD HD
              by_cases pz : s.phase = 0
              · have dz : (s.phase == 0) = true := by rw [pz]; rfl
                have dz' : (s.phase != 0) = false := by rw [pz]; rfl
                by_cases hl0 : s.cur.length = 0
                · have HR := (HEND.out true (by rw [HCU.out, if_pos pz, decide_eq_true hl0])).2 (by omega) (by omega) rfl (.inl pz)
                  have dl : (((s.cur.length : Nat) : Int) == 0) = true := by rw [hl0]; rfl
                  have n0 : ¬ s.phase < 0 := by omega
                  have n2 : ¬ 2 < s.phase := by omega
                  clear pz hl0 HEND
                  go_wp2_with fail
                  go_roundw
                  case rel => exact ⟨k + 1, by omega, by go_num, hb02, HR.out, hbx2⟩
                  case measure => simp [intOf]; omega
                · have HR := (HEND.out false (by rw [HCU.out, if_pos pz, decide_eq_false hl0])).1 (by simp)
                  have dl : (((s.cur.length : Nat) : Int) == 0) = false := by rw [beq_eq_false_iff_ne]; omega
                  have n0 : ¬ s.phase < 0 := by omega
                  have n2 : ¬ 2 < s.phase := by omega
                  clear pz hl0 HEND
                  go_wp2_with fail
                  go_ret
                  exact ⟨by rw [HR.out]; rfl, hb2⟩
              · have dz : (s.phase == 0) = false := by rw [beq_eq_false_iff_ne]; exact pz
                have dz' : (s.phase != 0) = true := by rw [bne_iff_ne]; exact pz
                have HE9 := HEND.out (rcurB id s.cur) (by rw [HCU.out, if_neg pz])
                clear HEND
                by_cases p0 : s.phase < 0
                · have HR := HE9.1 (.inl p0)
                  clear HE9
                  go_wp2_with fail
                  go_ret
                  exact ⟨by rw [HR.out]; rfl, hb2⟩
                · by_cases p2 : 2 < s.phase
                  · have HR := HE9.1 (.inr (.inl p2))
                    clear HE9
                    go_wp2_with fail
                    go_ret
                    exact ⟨by rw [HR.out]; rfl, hb2⟩
                  · cases hr : rcurB id s.cur
                    · have HR := HE9.1 (.inr (.inr (.inl hr)))
                      clear HE9
                      go_wp2_with fail
                      go_ret
                      exact ⟨by rw [HR.out]; rfl, hb2⟩
                    · by_cases hlast : k < sts.length - 1
                      · have HR := HE9.1 (.inr (.inr (.inr ⟨pz, hlast⟩)))
                        clear HE9 pz
                        go_wp2_with fail
                        go_ret
                        exact ⟨by rw [HR.out]; rfl, hb2⟩
                      · have HR := HE9.2 p0 p2 hr (.inr hlast)
                        clear HE9 pz
                        go_wp2_with fail
                        go_roundw
                        case rel => exact ⟨k + 1, by omega, by go_num, hb02, HR.out, hbx2⟩
                        case measure => simp [intOf]; omega
        · obtain rfl : k = sts.length := by omega
          have HE2 : Hid (entryI id keys tn cols ixs sts = 0) := by
            show _ = _; rw [HE1.out, HC.out, List.drop_length, statesB]; rfl
          clear HC
          go_wp2_with fail
          go_ret
          exact ⟨by rw [HE2.out]; rfl, hbw⟩
    · have HE1 : Hid (entryI id keys tn cols ixs sts = 3) := by show _ = _; rw [HE.out, if_pos hl2]
      have d1 : ((sts.length : Int) != (ixs.length : Int)) = true := by rw [bne_iff_ne]; omega
      clear hl2 HE
      go_wp2_with fail
      go_ret
      exact ⟨by rw [HE1.out]; rfl, b01⟩
  · have HE : Hid (entryI id keys tn cols ixs sts = checkI id keys tn cols ixs) := by
      show _ = _; unfold entryI; rw [if_pos h0]
    have d0 : (checkI id keys tn cols ixs != 0) = true := by rw [bne_iff_ne]; exact h0
    clear h0
    go_wp2_with fail
    go_ret
    exact ⟨by rw [HE.out]; rfl, b01⟩

end Go.Proofs.Ytemidaamnldjmaa
