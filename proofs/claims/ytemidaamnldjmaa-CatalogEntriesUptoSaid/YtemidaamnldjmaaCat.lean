/- An entry in form: the program's catalog.Check. -/
import Derived.Test.YtemidaamnldjmaaForm
import Derived.Test.YtemidaamnldjmaaCursor
import Derived.Test.YtemidaamnldjmaaSl
namespace Go.Proofs.Ytemidaamnldjmaa
open Go.RowKit

/-- a state of an index: its phase, its cursor -/
structure LSt where
  phase : Int
  cur : List UInt8

def StE : ER LSt where
  size := 2
  pos := by omega
  bytes := 32
  bpos := by omega
  rep w S vs s := ∃ C c, vs = [.int .i64 s.phase, .slice C s.cur.length c] ∧ Bs w C s.cur ∧ At S C s.cur.length ∧ s.cur.length ≤ c ∧ c ≤ 9223372036854775807
  len := by rintro w S vs a ⟨C, c, rfl, _⟩; rfl
  one := by rintro w S vs a ⟨C, c, rfl, _⟩ v hv; simp at hv; rcases hv with rfl | rfl <;> rfl
  keep := by rintro w w' S vs a ⟨C, c, rfl, h, ha, h2⟩ hs; exact ⟨C, c, rfl, h.sameS ha hs, ha, h2⟩
  mono := by rintro w S S' vs a ⟨C, c, rfl, h, ha, h2⟩ hs; exact ⟨C, c, rfl, h, h.atMono ha hs, h2⟩

theorem StE.at_ {w : World} {A : Option Addr} {l : List LSt} (h : Sl StE w A l) {k : Nat} (hk : k < l.length) :
    ∃ ad C c, A = some ad ∧ ad.block < w.heap.size ∧ w.cell? (ad.add (k * 2)) = some (.int .i64 l[k].phase) ∧ w.cell? ⟨(ad.add (k * 2)).block, (ad.add (k * 2)).off + 1, none⟩ = some (.slice C l[k].cur.length c) ∧ Bs w C l[k].cur ∧ l[k].cur.length ≤ c ∧ c ≤ 9223372036854775807 := by
  obtain ⟨ad, vs, rfl, hb, ⟨C, c, rfl, h1, _, h2, h3⟩, h4, _, h5⟩ := SlS.at_ h hk
  exact ⟨ad, C, c, rfl, hb, h4 _ rfl, h5 1 _ (by omega) rfl, h1, h2, h3⟩

def stB (id : Int) (s : LSt) : Bool := decide (0 ≤ s.phase) && decide (s.phase ≤ 2) && cursorB id s.phase s.cur
def statesB (id : Int) : List LSt → Bool
  | [] => true
  | s :: l => stB id s && (decide (s.phase = 0) || decide (l.length = 0)) && statesB id l
def entryI (id keys : Int) (tn : ByteArray) (cols : List LCol) (ixs : List LIx) (sts : List LSt) : Int :=
  if checkI id keys tn cols ixs ≠ 0 then checkI id keys tn cols ixs else if sts.length ≠ ixs.length then 3 else if statesB id sts = false then 3 else 0

set_option maxRecDepth 100000 in
set_option maxHeartbeats 2000000 in
theorem echeck_any (id keys : Int) (tn : ByteArray) (A B S : Option Addr) (cc ci cs : Nat) (cols : List LCol) (ixs : List LIx) (sts : List LSt) (w : World) (hA : Cols w A cols) (hB : Ixs w B ixs) (hS : Sl StE w S sts)  
    (hs : tn.size ≤ 140737488351232) (hsc : ∀ x ∈ cols, x.name.size ≤ 140737488351232) (hsx : ∀ x ∈ ixs, x.name.size ≤ 140737488351232 ∧ x.cols.length ≤ 140737488351232) :
    Calls Try.prog 7 #[.agg #[.int .i64 id, .string tn, .slice A cols.length cc, .int .i64 keys, .slice B ixs.length ci, .slice S sts.length cs]] w
      fun e w' => e = .returned (.int .i64 (entryI id keys tn cols ixs sts)) ∧ Below w.heap.size w w' := by
  have hsl := SlS.le hS
  have b0 : Below w.heap.size w (w.alloc (.cells #[.int .i64 id, .string tn, .slice A cols.length cc, .int .i64 keys, .slice B ixs.length ci, .slice S sts.length cs] 33)) := (Below.refl _ _).alloc (Nat.le_refl _) _
  go_enter Try.func7, Try.ntmps7
  go_wp2_with fail
  have hbk := Blk.new w 33 #[.int .i64 id, .string tn, .slice A cols.length cc, .int .i64 keys, .slice B ixs.length ci, .slice S sts.length cs]
  refine (check_any id keys tn A B cc ci cols ixs _ (hA.below b0) (hB.below b0) hs hsc hsx).mono ?_
  rintro e w1 ⟨rfl, b1⟩
  have b01 := b0.trans (b1.mono b0.size)
  have hbk1 := hbk.below b1 hbk.lt
  obtain ⟨hc1, hf1⟩ := bcell b1
  have HS := Lib.hid (SlS.below hS b01)
  clear hsc hsx hA hB hS
  by_cases h0 : checkI id keys tn cols ixs = 0
  · have HE : Hid (entryI id keys tn cols ixs sts = if sts.length ≠ ixs.length then 3 else if statesB id sts = false then 3 else 0) := by
      show _ = _; unfold entryI; rw [if_neg (by rw [h0]; decide)]
    have d0 : (checkI id keys tn cols ixs != 0) = false := by rw [h0]; rfl
    clear h0
    by_cases hl2 : sts.length = ixs.length
    · have HE1 : Hid (entryI id keys tn cols ixs sts = if statesB id sts = false then 3 else 0) := by show _ = _; rw [HE.out, if_neg (by rw [hl2]; exact fun h => h rfl)]
      have d1 : ((sts.length : Int) != (ixs.length : Int)) = false := by rw [hl2]; simp
      clear hl2 HE
      go_wp2_with fail
      go_loopw [23] (fun i wr => ∃ k : Nat, k ≤ sts.length ∧ i = .int .i64 k ∧ Blk wr w.heap.size 33 #[.int .i64 id, .string tn, .slice A cols.length cc, .int .i64 keys, .slice B ixs.length ci, .slice S sts.length cs] ∧ statesB id sts = statesB id (sts.drop k) ∧ Below w1.heap.size w1 wr) (fun i _ => sts.length - (intOf i).toNat)
      case atStart => exact ⟨0, Nat.zero_le _, rfl, hbk1, rfl, Below.refl _ _⟩
      case round =>
        clear hc1 hf1
        obtain ⟨k, hk, rfl, hb0, hcs, hbx⟩ := hrel
        have HC := Lib.hid hcs
        clear hcs
        have x0 : wr.cell? ⟨w.heap.size, 0, none⟩ = some (.int .i64 id) := hb0.cell 0
        have x1 : wr.cell? ⟨w.heap.size, 1, none⟩ = some (.string tn) := hb0.cell 1
        have x2 : wr.cell? ⟨w.heap.size, 2, none⟩ = some (.slice A cols.length cc) := hb0.cell 2
        have x3 : wr.cell? ⟨w.heap.size, 3, none⟩ = some (.int .i64 keys) := hb0.cell 3
        have x4 : wr.cell? ⟨w.heap.size, 4, none⟩ = some (.slice B ixs.length ci) := hb0.cell 4
        have x5 : wr.cell? ⟨w.heap.size, 5, none⟩ = some (.slice S sts.length cs) := hb0.cell 5
        have hxlt : w.heap.size < wr.heap.size := hb0.lt
        have hbw : Below w.heap.size w wr := b01.trans (hbx.mono b01.size)
        by_cases hlt : k < sts.length
        · obtain ⟨ad, C, c, rfl, hadb, c0, c1, hcur, hcc⟩ := StE.at_ (SlS.below HS.out hbx) hlt
          have hsplit : sts.drop k = sts[k] :: sts.drop (k + 1) := List.drop_eq_getElem_cons hlt
          have HD : Hid (statesB id sts = (stB id sts[k] && (decide (sts[k].phase = 0) || decide (sts.length - (k + 1) = 0)) && statesB id (sts.drop (k + 1)))) := by
            show _ = _; rw [HC.out, hsplit, statesB, List.length_drop]
          have hbad : stB id sts[k] = false → Hid (entryI id keys tn cols ixs sts = 3) := by
            intro h; show _ = _; rw [HE1.out, HD.out, h, Bool.false_and, Bool.false_and, if_pos rfl]
          have HBAD := Lib.hid hbad
          have hba : Below w.heap.size w (wr.alloc (.cells #[.int .i64 sts[k].phase, .slice C sts[k].cur.length c] 57)) := hbw.alloc hbw.size _
          clear hsplit hbad HC
          by_cases p0 : sts[k].phase < 0
          · have HB := HBAD.out (by unfold stB; rw [decide_eq_false (show ¬ 0 ≤ sts[k].phase by omega)]; rfl)
            go_wp2_with fail
            go_ret
            exact ⟨by rw [HB.out]; rfl, hba⟩
          · by_cases p2 : 2 < sts[k].phase
            · have HB := HBAD.out (by unfold stB; rw [decide_eq_false (show ¬ sts[k].phase ≤ 2 by omega), Bool.and_false]; rfl)
              go_wp2_with fail
              go_ret
              exact ⟨by rw [HB.out]; rfl, hba⟩
            · have HST : Hid (stB id sts[k] = cursorB id sts[k].phase sts[k].cur) := by
                show _ = _; unfold stB; rw [decide_eq_true (show 0 ≤ sts[k].phase by omega), decide_eq_true (show sts[k].phase ≤ 2 by omega)]; rfl
              go_wp2_with fail
              refine (cursor_any _ _ _ _ _ _ _ _ _ _ _ _ _ _ (hcur.alloc _) hcc).mono ?_
              rintro e w2 ⟨rfl, b2⟩
              obtain ⟨hc2, hf2⟩ := bcell b2
              have hb2 := hba.trans (b2.mono hba.size)
              have hbx2 := (hbx.alloc hbx.size (.cells #[.int .i64 sts[k].phase, .slice C sts[k].cur.length c] 57)).trans (b2.mono (by have := hbx.size; simp; omega))
              have hb02 := (hb0.alloc (.cells #[.int .i64 sts[k].phase, .slice C sts[k].cur.length c] 57)).below b2 (by simp; omega)
              cases hcb : cursorB id sts[k].phase sts[k].cur
              · have HB := HBAD.out (by rw [HST.out, hcb])
                clear hcb
                go_wp2_with fail
                go_ret
                exact ⟨by rw [HB.out]; rfl, hb2⟩
              · have HST2 : Hid (stB id sts[k] = true) := by show _ = _; rw [HST.out, hcb]
                clear hcb HST HBAD
                by_cases pz : sts[k].phase = 0
                · have HD2 : Hid (statesB id sts = statesB id (sts.drop (k + 1))) := by
                    show _ = _; rw [HD.out, HST2.out, decide_eq_true pz]; rfl
                  have dz : (sts[k].phase != 0) = false := by rw [pz]; rfl
                  clear pz HD
                  go_wp2_with fail
                  go_roundw
                  case rel => exact ⟨k + 1, by omega, by go_num, hb02, HD2.out, hbx2⟩
                  case measure => simp [intOf]; omega
                · have dz : (sts[k].phase != 0) = true := by rw [bne_iff_ne]; exact pz
                  by_cases hlast : k + 1 < sts.length
                  · have HB : Hid (entryI id keys tn cols ixs sts = 3) := by
                      show _ = _; rw [HE1.out, HD.out, decide_eq_false pz, decide_eq_false (show ¬ sts.length - (k + 1) = 0 by omega)]; simp
                    clear pz HD
                    go_wp2_with fail
                    go_ret
                    exact ⟨by rw [HB.out]; rfl, hb2⟩
                  · have HD2 : Hid (statesB id sts = statesB id (sts.drop (k + 1))) := by
                      show _ = _; rw [HD.out, HST2.out, decide_eq_true (show sts.length - (k + 1) = 0 by omega)]; simp
                    clear pz HD
                    go_wp2_with fail
                    go_roundw
                    case rel => exact ⟨k + 1, by omega, by go_num, hb02, HD2.out, hbx2⟩
                    case measure => simp [intOf]; omega
        · obtain rfl : k = sts.length := by omega
          have HE2 : Hid (entryI id keys tn cols ixs sts = 0) := by
            show _ = _; rw [HE1.out, HC.out, List.drop_length, statesB]; rfl
          clear HC
          go_wp2_with fail
          go_ret
          exact ⟨by rw [HE2.out]; rfl, hbw⟩
    · have HE1 : Hid (entryI id keys tn cols ixs sts = 3) := by show _ = _; rw [HE.out, if_pos hl2]
      have d1 : ((sts.length : Int) != (ixs.length : Int)) = true := by rw [bne_iff_ne]; omega
      clear hl2 HE
      go_wp2_with fail
      go_ret
      exact ⟨by rw [HE1.out]; rfl, b01⟩
  · have HE : Hid (entryI id keys tn cols ixs sts = checkI id keys tn cols ixs) := by
      show _ = _; unfold entryI; rw [if_pos h0]
    have d0 : (checkI id keys tn cols ixs != 0) = true := by rw [bne_iff_ne]; exact h0
    clear h0
    go_wp2_with fail
    go_ret
    exact ⟨by rw [HE.out]; rfl, b01⟩

end Go.Proofs.Ytemidaamnldjmaa
