/- A log's Append. (Printed by wip/gen_wala.py.) -/
import Derived.Test.YtbldfgpnghoigaaWalM
namespace Go.Proofs.Ytbldfgpnghoigaa
open Go.RowKit

/-- what Append answers, and the log behind it -/
def appEnd (l : LLog) (sg : List Nat) (recs : List (List UInt8)) (len : Int) (fr : Bool) (s t : Int × LDisk × List PFile) : Nat × Int × LLog × List Nat × LDisk × List PFile :=
  if s.1 ≠ 0 then (0, s.1, l, sg, s.2.1, s.2.2) else if t.1 ≠ 0 then (0, t.1, l, sg, t.2.1, t.2.2) else
    (l.next, 0, { l with next := l.next + recs.length, size := (if fr then 0 else l.size) + len, rot := !fr && l.rot }, if fr then sg ++ [l.next] else sg, t.2.1, t.2.2)
def appendW (l : LLog) (sg : List Nat) (d : LDisk) (ps : List PFile) (recs : List (List UInt8)) : Nat × Int × LLog × List Nat × LDisk × List PFile :=
  if recs.any (fun r => decide (1048576 < r.length)) then (0, 2, l, sg, d, ps) else
  if recs = [] then (l.next, 0, l, sg, d, ps) else
    appEnd l sg recs ((recs.map (sealL sumN)).flatten.length : Int) (freshW l sg) (if freshW l sg then syncW l sg d ps else (0, d, ps))
      (appP (if freshW l sg then syncW l sg d ps else (0, d, ps)).2.1 (if freshW l sg then syncW l sg d ps else (0, d, ps)).2.2 (nameW l.pre (if freshW l sg then l.next else lastW sg)) (recs.map (sealL sumN)).flatten)
def RetApp (g : Nat) (F : Nat → Prop) (r : Nat × Int × LLog × List Nat × LDisk × List PFile) (w : World) (en : Ending) (w' : World) : Prop :=
  en = .returned (.tuple #[.int .u64 (r.1 : Int), .int .i64 r.2.1]) ∧ LDTo g F r.2.2.1 r.2.2.2.1 r.2.2.2.2.1 r.2.2.2.2.2 w w'
section
variable {w w' w1 w2 : World} {g : Nat} {F F' : Nat → Prop} {l l' : LLog} {sg sg' : List Nat} {d d' : LDisk} {ps ps' : List PFile} {A A' : Option Addr} {c c' : Nat}
theorem LDTo.low (b : Below w.heap.size w w1) (h : LDTo g F' l sg d ps w1 w2) (hF : ∀ x, F x → F' x) : LDTo g F l sg d ps w w2 :=
  ⟨h.1.mono fun _ hx => ⟨hF _ hx.1, Nat.lt_of_lt_of_le hx.2 b.size⟩, ⟨h.2.os.trans b.os, h.2.tape.trans b.tape, h.2.output.trans b.output, Nat.le_trans b.size h.2.size, fun k hk hf => (h.2.block k (Nat.lt_of_lt_of_le hk b.size) (hF k hf)).trans (b.block k hk)⟩⟩
theorem LDTo.next {sg0 : List Nat} {l0 : LLog} {d0 : LDisk} {ps0 : List PFile} (h : LDTo g F l0 sg0 d0 ps0 w w1) (k : LDTo g (fun x => F x ∧ x < w.heap.size) l sg d ps w1 w2) : LDTo g F l sg d ps w w2 :=
  ⟨k.1.mono fun _ hx => ⟨hx, Nat.lt_of_lt_of_le hx.2 h.2.size⟩, ⟨k.2.os.trans h.2.os, k.2.tape.trans h.2.tape, k.2.output.trans h.2.output, Nat.le_trans h.2.size k.2.size, fun x hx hf => (k.2.block x (Nat.lt_of_lt_of_le hx h.2.size) ⟨hf, hx⟩).trans (h.2.block x hx hf)⟩⟩
theorem LDTo.refl (h : LD w g F l sg d ps) : LDTo g F l sg d ps w w := ⟨h.mono fun _ hx => hx.1, .refl _ _⟩
theorem LDTo.call (h : LD w g F l sg d ps) (b : Below w.heap.size w w1) : LDTo g F l sg d ps w w1 := ⟨(h.below b).mono fun _ hx => .inl hx.1, .of_below b⟩
/-- a segment more, and the log's cells anew -/
theorem LD.seg (hk : Blk w g 77 (logC (.slice A sg.length c) l)) (hs : SegAt w (.slice A sg.length c) sg) (hd : DD w l.disk (fun x => F x ∨ x = g ∨ (Value.slice A sg.length c).ownBlock = some x) d ps) (hF : ∀ x, F x → x ≠ g ∧ (Value.slice A sg.length c).ownBlock ≠ some x) (hp : l.pre.length ≤ 1048576)
    (hs1 : SegAt w1 (.slice A' sg'.length c') sg') (g1 : w.grownBy w1 (Value.slice A sg.length c).ownBlock) (hat : ∀ b, (Value.slice A' sg'.length c').ownBlock = some b → (Value.slice A sg.length c).ownBlock = some b ∨ w.heap.size ≤ b)
    (g2 : w1.grownBy w2 (some g)) (hk2 : Blk w2 g 77 (logC (.slice A' sg'.length c') l')) (hl : l'.pre = l.pre) (hl2 : l'.disk = l.disk) : LDTo g F l' sg' d ps w w2 := by
  have hne : (Value.slice A sg.length c).ownBlock ≠ some g := fun e => by
    rcases hs.2 with ⟨e', _⟩ | ⟨g', k, cap, cur, e', hb, _⟩
    · rw [e'] at e; cases e
    · rw [e'] at e
      obtain rfl : g' = g := Option.some.inj e
      exact hk.ne_ hb (by decide) rfl
  have z1 := g1.size
  have z2 := g2.size
  have glt := hk.lt
  have hb : BlP (fun x => x ≠ g ∧ (Value.slice A sg.length c).ownBlock ≠ some x) w w2 := ⟨g2.os.trans g1.os, g2.tape.trans g1.tape, g2.output.trans g1.output, Nat.le_trans z1 z2, fun x hx hf => (g2.block x (Nat.lt_of_lt_of_le hx z1) (fun e => hf.1 (Option.some.inj e))).trans (g1.block x hx fun e => hf.2 e.symm)⟩
  have hd2 := hd.blp hb fun x hx hn => by
    by_cases e : x = g
    · exact .inr (.inl e)
    · exact .inr (.inr (Classical.byContradiction fun e2 => hn ⟨e, e2⟩))
  rw [← hl2] at hd2
  refine ⟨⟨A', c', hk2, hs1.grown g2 fun b e e2 => ?_, hd2.mono fun x hx => ?_, fun x hx => ⟨(hF x hx.1).1, fun e => ?_⟩, by rw [hl]; exact hp⟩, ⟨hb.os, hb.tape, hb.output, hb.size, fun x hx hf => hb.block x hx (hF x hf)⟩⟩
  · obtain rfl := Option.some.inj e2
    rcases hat _ e with h | h
    · exact hne h
    · omega
  · rcases hx with hx | hx | hx
    · exact .inl (.inl hx.1)
    · exact .inl (.inr (.inl hx))
    · rcases hat x hx with h | h
      · exact .inl (.inr (.inr h))
      · exact .inr h
  · rcases hat x e with h | h
    · exact (hF x hx.1).2 h
    · have := hx.2; omega
end
theorem len_seals (rs : List (List UInt8)) : (rs.map (sealL sumN)).flatten.length = rs.flatten.length + 8 * rs.length := by
  induction rs with
  | nil => rfl
  | cons x r ih => rw [List.map_cons, List.flatten_cons, List.length_append, ih, sealL_len, List.flatten_cons, List.length_append, List.length_cons]; omega
theorem len_flat_le {rs : List (List UInt8)} {k : Nat} (h : ∀ r ∈ rs, r.length ≤ k) : rs.flatten.length ≤ rs.length * k := by
  induction rs with
  | nil => simp
  | cons x r ih =>
    have h1 := ih fun r hr => h r (by simp [hr])
    have h2 := h x (by simp)
    rw [List.flatten_cons, List.length_append, List.length_cons, Nat.succ_mul]
    omega
theorem Try.size_Seg : (Try.prog.info? 82).map (·.size) = some 1 := by kernel_rfl
set_option maxRecDepth 100000 in
set_option maxHeartbeats 8000000 in
theorem append_log (g : Nat) (F : Nat → Prop) (l : LLog) (sg : List Nat) (d : LDisk) (ps : List PFile) (w : World) (hd : LD w g F l sg d ps) (hg : ¬ F g) (hp : PsOk ps) (hl : LdOk d) (hp1 : PsOk (syncW l sg d ps).2.2) (hl1 : LdOk (syncW l sg d ps).2.1) (hsl : sg.length ≤ 1048575)
    (X : Option Addr) (recs : List (List UInt8)) (xc : Nat) (S : Nat → Prop) (hx : SlS BsE w S X recs) (hn : recs.length ≤ 1000) (hb : ∀ r ∈ recs, r.length ≤ 1048577) (hnx : l.next + recs.length < 18446744073709551616) (hsz : 0 ≤ l.size ∧ l.size ≤ 1099511627776) :
    Calls Try.prog 12 #[.pointer (some ⟨g, 0, none⟩), .slice X recs.length xc] w (RetApp g F (appendW l sg d ps recs) w) := by
  obtain ⟨i0, hi0, hz0, hz1, hz2⟩ := info_parts Try.infoBs
  have hgl := hd.lt
  obtain ⟨R, hR⟩ : ∃ R, R = appendW l sg d ps recs := ⟨_, rfl⟩
  rw [← hR]
  have HR := Lib.hid hR
  have HD := Lib.hid hd
  have HB := Lib.hid hb
  clear hR hd hb
  go_enter Try.func12, Try.ntmps12
  go_wp2_with fail
  go_loopw [6, 8, 9, 10, 19] (fun v6 _ _ _ v19 wr => ∃ (k : Nat) (A' : Option Addr) (c' : Nat) (xs : List (List UInt8)), k ≤ recs.length ∧ v6 = .slice A' xs.length c' ∧ v19 = .int .i64 (k : Int) ∧ Hid (xs = (recs.take k).map (sealL sumN)) ∧ Hid (xs.length = k) ∧ Hid ((recs.take k).any (fun r => decide (1048576 < r.length)) = false) ∧ Own BsE 40 wr w.heap.size (fun b => w.heap.size ≤ b) (.slice A' xs.length c') xs ∧ Below w.heap.size w wr) (fun _ _ _ _ v19 _ => recs.length - (intOf v19).toNat)
  case atStart => exact ⟨0, none, 0, [], Nat.zero_le _, rfl, rfl, rfl, rfl, rfl, Own.nil_ _ _ _ _ _, Below.refl _ _⟩
  case round =>
    obtain ⟨k, A', c', xs, hk, rfl, rfl, HX, HXL, HA, oX, br⟩ := hrel
    by_cases hlt : k < recs.length
    · obtain ⟨ad, D, cD, rfl, _, e0, hD, _, hc1, hc2⟩ := BsE.at_ (hx.below br) hlt
      have hrl := HB.out _ (List.getElem_mem hlt)
      have HT : Hid (recs.take (k + 1) = recs.take k ++ [recs[k]]) := List.take_succ_eq_append_getElem hlt
      have HM : Hid (recs[k] ∈ recs) := List.getElem_mem hlt
      generalize recs[k] = r at *
      have T := seal_any wr.heap.size 0 [r] 1 (wr.alloc (.cells #[.slice D r.length cD] 40)) ((lit_sl wr [(D, r, cD)] 40 Any (fun q hq => by rw [List.mem_singleton.1 hq]; exact ⟨hD, fun _ _ _ => trivial, hc1, hc2⟩) trivial (by simp)).any) (by simp) (by simp; omega)
      rw [show [r].flatten = r from by simp] at T
      have d2 : Below wr.heap.size wr (wr.alloc (.cells #[.slice D r.length cD] 40)) := (Below.refl _ _).alloc (Nat.le_refl _) _
      have b2 := below_step' br d2
      have o2 := oX.below d2
      by_cases hbig : 1048576 < r.length
      · have HE : Hid (R = (0, 2, l, sg, d, ps)) := by
          show _ = _
          rw [HR.out]
          unfold appendW
          rw [if_pos]
          rw [List.any_eq_true]
          exact ⟨r, HM.out, decide_eq_true hbig⟩
        clear HT HM HX HXL HA oX
        go_wp2_with fail
        refine T.mono ?_
        clear T
        rintro en w3 ⟨b3, h3⟩
        rw [if_pos hbig] at h3
        obtain rfl := h3
        have b03 := below_step' b2 b3
        go_wp2_with fail
        go_ret2
        rw [HE.out]
        exact ⟨rfl, LDTo.call HD.out b03⟩
      · go_wp2_with fail
        refine T.mono ?_
        clear T
        rintro en w3 ⟨b3, h3⟩
        rw [if_neg hbig] at h3
        obtain ⟨Q, cq, rfl, hQ, aQ, hcq⟩ := h3
        have b03 := below_step' b2 b3
        have o3 := o2.below b3
        have HX2 : Hid (xs ++ [sealL sumN r] = (recs.take (k + 1)).map (sealL sumN)) := by show _ = _; rw [HX.out, HT.out, List.map_append]; rfl
        have HA2 : Hid ((recs.take (k + 1)).any (fun r => decide (1048576 < r.length)) = false) := by show _ = _; rw [HT.out, List.any_append, HA.out]; simp [hbig]
        generalize sealL sumN r = s at *
        have d4 : Below w3.heap.size w3 (w3.alloc (.cells #[.slice Q s.length cq] 40)) := (Below.refl _ _).alloc (Nat.le_refl _) _
        have b04 := below_step' b03 d4
        have o4 := o3.below d4
        have hrN := Reads.newN w3 [.slice Q s.length cq] 40
        have hz2w := b2.size
        have hrep : BsE.rep (w3.alloc (.cells #[.slice Q s.length cq] 40)) (fun b => w.heap.size ≤ b ∧ (Value.slice A' xs.length c').ownBlock ≠ some b) [.slice Q s.length cq] s :=
          ⟨Q, cq, rfl, hQ.below d4, aQ.mono' (fun b hb => ⟨Nat.le_trans hz2w hb, fun e => by have := (o2.lt b e).2; omega⟩), hcq⟩
        have HL1 := Lib.hid (show (xs.length + 1) * BsE.bytes ≤ 140737488355328 by have := HXL.out; simp only [BsE]; omega)
        have HL2 := Lib.hid (show xs.length + 1 ≤ maxLen by have := HXL.out; simp only [maxLen]; omega)
        clear HT HM HX oX o2 o3 b2 d2 d4 b3 hQ aQ e0 hD
        go_wp2_with (at_builtin; refine wpList_appE BsE w.heap.size w _ rfl (.tmp 32) (.tmp 34) 40 27 rfl i0 _ Try.underlying27 hi0 hz0 hz1 hz2 rfl (fun b => w.heap.size ≤ b) A' xs c' rfl o4 _ [.slice Q s.length cq] s 1 rfl _ hrN hrep HL1.out HL2.out b04 (Nat.le_refl _) b04.size ?_; intro A8 c8 xs8 w8 H8 o8 b8 g8 t8)
        go_roundw
        case rel => exact ⟨k + 1, A8, c8, xs8, by omega, rfl, by simp, by show _ = _; rw [H8.out, HX2.out], by show _ = _; rw [H8.out, List.length_append, HXL.out]; rfl, HA2.out, o8, b8⟩
        case measure => simp [intOf]; omega
    · obtain rfl : k = recs.length := by omega
      have hlti : ¬ ((recs.length : Int) < (recs.length : Int)) := by omega
      have HA' : Hid (recs.any (fun r => decide (1048576 < r.length)) = false) := by have h := HA.out; rw [List.take_length] at h; exact h
      have HX' : Hid (xs = recs.map (sealL sumN)) := by show _ = _; rw [HX.out, List.take_length]
      have L1 : LD wr g (fun x => F x ∨ w.heap.size ≤ x) l sg d ps := HD.out.below br
      clear HX HA HD hlt hx
      by_cases hr0 : recs = []
      · have HE : Hid (R = (l.next, 0, l, sg, d, ps)) := by
          show _ = _
          rw [HR.out]
          unfold appendW
          rw [if_neg (by rw [HA'.out]; decide), if_pos hr0]
        have hm0 : recs.length = 0 := by rw [hr0]; rfl
        have hb0 : ((0 : Int) == 0) = true := rfl
        obtain ⟨A, c, hk1, _⟩ := id L1
        have c4 : wr.cell? ⟨g, 4, none⟩ = some (.int .u64 (l.next : Int)) := hk1.cell 4
        clear HA' HX' HXL oX HB hr0 hk1
        generalize recs.length = n at *
        subst hm0
        go_wp2_with fail
        go_ret2
        rw [HE.out]
        exact ⟨rfl, L1.mono fun x hx => .inl hx.1, .of_below br⟩
      · have hpos : 0 < recs.length := List.length_pos_iff.2 hr0
        have hbm : ((recs.length : Int) == 0) = false := by rw [beq_eq_false_iff_ne]; omega
        have HR2 : Hid (R = appEnd l sg recs (xs.flatten.length : Int) (freshW l sg) (if freshW l sg then syncW l sg d ps else (0, d, ps)) (appP (if freshW l sg then syncW l sg d ps else (0, d, ps)).2.1 (if freshW l sg then syncW l sg d ps else (0, d, ps)).2.2 (nameW l.pre (if freshW l sg then l.next else lastW sg)) xs.flatten)) := by
          show _ = _
          rw [HR.out, HX'.out]
          unfold appendW
          rw [if_neg (by rw [HA'.out]; decide), if_neg hr0]
        have HFL : Hid (xs.flatten.length ≤ 1000 * 1048593) := by
          show _ ≤ _
          rw [HX'.out, len_seals]
          have := len_flat_le HB.out
          have := Nat.mul_le_mul_right 1048577 hn
          omega
        obtain ⟨gX, rfl, hgX1, hgX2⟩ := Own.form oX (by rw [HXL.out]; exact hpos)
        have sX : SlS BsE wr (fun b => w.heap.size ≤ b ∧ b < wr.heap.size) (some ⟨gX, 0, none⟩) xs := SlS.mono (oX.slS (S' := fun b => w.heap.size ≤ b) rfl (by have h0 : xs.length = recs.length := HXL.out; rw [h0]; show recs.length * 24 ≤ _; omega) (fun _ h => h) (fun _ h => h)) (fun b hb hS => ⟨hS, hb⟩)
        have hcx := oX.caps.1
        have HXP : Hid (0 < xs.length) := by show _ < _; rw [HXL.out]; exact hpos
        clear oX HR HX' HA' HB HXL
        obtain ⟨A, c, hk1, hs1, hdd1, hF1, hpl⟩ := id L1
        have c4 : wr.cell? ⟨g, 4, none⟩ = some (.int .u64 (l.next : Int)) := hk1.cell 4
        have hgr : g < wr.heap.size := hk1.lt
        have zr := br.size
        have TF := Lib.hid (fun (W : World) (hW : Below wr.heap.size wr W) => fresh_any g l sg A c W (hk1.below hW hk1.lt) (hs1.below hW) (by omega))
        have TL := Lib.hid (fun (W : World) (hW : Below wr.heap.size wr W) (hne : sg ≠ []) => last_any g l sg A c W (hk1.below hW hk1.lt) (hs1.below hW) hne (by omega))
        have TS := Lib.hid (fun (W : World) (F' : Nat → Prop) (hW : LD W g F' l sg d ps) => sync_log g F' l sg d ps W hW hp hl (by omega))
        have HLS : Hid (sg ≠ [] → lastW sg < 18446744073709551616) := fun hne => by
          have h0 : 0 < sg.length := List.length_pos_iff.2 hne
          unfold lastW
          rw [List.getD_eq_getElem?_getD, List.getElem?_eq_getElem (by omega)]
          exact hs1.1 _ (List.getElem_mem _)
        have HSL := Lib.hid hsl
        have HFR : Hid (freshW l sg = false → sg ≠ []) := fun h e => by rw [e] at h; cases h
        have HP1 := Lib.hid hp1
        have HL1 := Lib.hid hl1
        have HP := Lib.hid hp
        have HL := Lib.hid hl
        have HHN := Lib.hid hnx
        have HSZ := Lib.hid hsz
        have HRN := Lib.hid hn
        have HGF := Lib.hid hg
        clear hp1 hl1 hp hl hnx hdd1 hs1 hsl hg hr0 hsz
        generalize freshW l sg = fr at *
        generalize syncW l sg d ps = sy at *
        generalize lastW sg = n0 at *
        go_upto_region 12 with fail
        go_cut [11, 12] from 44 to 50 (fun v11 v12 wc => ∃ at_ : Nat, v11 = .pointer (some ⟨at_, 0, none⟩) ∧ v12 = .bool fr ∧ wr.heap.size ≤ at_ ∧ Blk wc at_ 82 #[.int .u64 (l.next : Int)] ∧ Below wr.heap.size wr wc)
        case first =>
          have bd : Below wr.heap.size wr wr.drew := (Below.refl _ _).drew
          refine wp_region_noPanic ?_
          refine wp_region_held_drew (S := fun Y => Below wr.heap.size wr Y) (by kernel_rfl) bd (fun hH => ?_)
          generalize wr.drew = w2 at *
          refine wpAnyH_take (i := 0) (v := ?_) rfl (by kernel_rfl) (by kernel_rfl) (by kernel_rfl) (fun _ _ _ h => h) (Or.inl ⟨by rfl, ?_⟩) hH ?_
          case refine_2 => intro w hSw; go_simp; try with_reducible rfl
          try simp only [Z1, Z2, Z4, Z5, Z6, Z7]
          refine wpAnyH_take (i := 1) (v := ?_) rfl (by kernel_rfl) (by kernel_rfl) (by kernel_rfl) (fun _ _ _ h => h) (Or.inl ⟨by rfl, ?_⟩) hH ?_
          case refine_2 => intro w hSw; go_simp; try with_reducible rfl
          try simp only [Z1, Z2, Z3, Z4, Z5, Z6, Z7]
          refine wpAnyH_take (i := 2) (v := ?_) rfl (by kernel_rfl) (by kernel_rfl) (by kernel_rfl) (fun _ _ _ h => h) (Or.inl ⟨by rfl, ?_⟩) hH ?_
          case refine_2 => intro w hSw; go_simp; try with_reducible rfl
          try simp only [Z1, Z2, Z3, Z4, Z5, Z6, Z7]
          refine wpAnyH_take (i := 3) (v := ?_) rfl (by kernel_rfl) (by kernel_rfl) (by kernel_rfl) (fun _ _ _ h => h) (Or.inl ⟨by rfl, ?_⟩) hH ?_
          case refine_2 => intro w hSw; have h1 : Blk w g 77 (logC (.slice A sg.length c) l) := hk1.below hSw hk1.lt; have n4 : w.cell? ⟨_, 4, none⟩ = some (.int .u64 (l.next : Int)) := Blk.cell h1 4; clear h1 hSw; go_simp; try with_reducible rfl
          try simp only [Z1, Z2, Z3, Z4, Z5, Z6, Z7]
          refine wpAnyH_take (i := 4) (v := ?_) rfl (by kernel_rfl) (by kernel_rfl) (by kernel_rfl) (fun _ _ _ h => h) (Or.inl ⟨by rfl, ?_⟩) hH ?_
          case refine_2 => intro w hSw; go_simp; try with_reducible rfl
          try simp only [Z1, Z2, Z3, Z4, Z5, Z6, Z7]
          refine wpAnyH_take (i := 5) (v := ?_) rfl (by kernel_rfl) (by kernel_rfl) (by kernel_rfl) (fun _ _ _ h => h) (Or.inl ⟨by rfl, ?_⟩) hH ?_
          case refine_2 => intro w hSw; go_simp; try with_reducible rfl
          try simp only [Z1, Z2, Z3, Z4, Z5, Z6, Z7]
          refine wpAnyH_ready (rs := [6, 7]) (by kernel_rfl) (by simp) ?_
          refine AllReadyH.cons rfl (fun K hK => ?_) (AllReadyH.cons rfl (fun K hK => ?_) AllReadyH.nil)
          · go_simp
            refine (TF.out w2 bd).mono ?_
            rintro en w3 ⟨rfl, b3⟩
            have bd3 := below_step' bd b3
            refine hK.out _ _ bd3 (fun hH => ?_)
            clear hK K
            try dsimp only
            try simp only [Z1, Z2, Z3, Z4, Z5, Z6, Z7]
            refine wpAnyH_ready (rs := [7]) (by kernel_rfl) (by simp) ?_
            refine AllReadyH.cons rfl (fun K hK => ?_) AllReadyH.nil
            go_simp
            change K _ (w3.alloc (.cells #[.int .u64 0] 82))
            have dA : Below w3.heap.size w3 (w3.alloc (.cells #[.int .u64 0] 82)) := (Below.refl _ _).alloc (Nat.le_refl _) _
            have kA := Blk.new w3 82 #[.int .u64 0]
            have bA := below_step' bd3 dA
            generalize (w3.alloc (.cells #[.int .u64 0] 82)) = wA at *
            refine hK.out _ _ bA (fun hH => ?_)
            clear hK K
            try dsimp only
            try simp only [Z1, Z2, Z3, Z4, Z5, Z6, Z7]
            refine wpAnyH_ready (rs := [8]) (by kernel_rfl) (by simp) ?_
            refine AllReadyH.cons rfl (fun K hK => ?_) AllReadyH.nil
            refine step_store_blk rfl 82 (.tmp 11) (.tmp 48) rfl w3.heap.size 82 _ #[.int .u64 (l.next : Int)] rfl rfl kA Try.size_Seg rfl rfl (by simp [Value.oneCell']) ?_
            intro wp kp gp zp
            have n3 := bA.grown gp bA.size (fun g e => by have h1 := Option.some.inj e; have := bd3.size; omega)
            refine hK.out _ _ n3 (fun hH4 => ?_)
            clear hK K
            try dsimp only
            try simp only [List.getElem_toArray, List.getElem_cons_succ, List.getElem_cons_zero, Act.put]
            refine wpAnyH_take (i := 9) (v := ?_) rfl (by kernel_rfl) (by kernel_rfl) (by kernel_rfl) (fun _ _ _ h => h) (Or.inl ⟨by rfl, ?_⟩) hH4 ?_
            case refine_2 => intro w hSw; go_simp; try with_reducible rfl
            try simp only [Z1, Z2, Z3, Z4, Z5, Z6, Z7]
            refine wpAnyH_done (by kernel_rfl) ?_ _
            refine NoPanic.normal ?_
            go_wp2_with fail
            go_meet
            case rel => exact ⟨w3.heap.size, rfl, rfl, by have := bd.size; first | omega | (have := bd3.size; omega), kp, n3⟩
          · go_simp
            change K _ (w2.alloc (.cells #[.int .u64 0] 82))
            have dA : Below w2.heap.size w2 (w2.alloc (.cells #[.int .u64 0] 82)) := (Below.refl _ _).alloc (Nat.le_refl _) _
            have kA := Blk.new w2 82 #[.int .u64 0]
            have bA := below_step' bd dA
            generalize (w2.alloc (.cells #[.int .u64 0] 82)) = wA at *
            refine hK.out _ _ bA (fun hH => ?_)
            clear hK K
            try dsimp only
            try simp only [Z1, Z2, Z3, Z4, Z5, Z6, Z7]
            refine wpAnyH_ready (rs := [6]) (by kernel_rfl) (by simp) ?_
            refine AllReadyH.cons rfl (fun K hK => ?_) AllReadyH.nil
            go_simp
            refine (TF.out wA bA).mono ?_
            rintro en w3 ⟨rfl, b3⟩
            have bd3 := below_step' bA b3
            have kA3 := kA.below b3 kA.lt
            refine hK.out _ _ bd3 (fun hH => ?_)
            clear hK K
            try dsimp only
            try simp only [Z1, Z2, Z3, Z4, Z5, Z6, Z7]
            refine wpAnyH_ready (rs := [8]) (by kernel_rfl) (by simp) ?_
            refine AllReadyH.cons rfl (fun K hK => ?_) AllReadyH.nil
            refine step_store_blk rfl 82 (.tmp 11) (.tmp 48) rfl w2.heap.size 82 _ #[.int .u64 (l.next : Int)] rfl rfl kA3 Try.size_Seg rfl rfl (by simp [Value.oneCell']) ?_
            intro wp kp gp zp
            have n3 := bd3.grown gp bd3.size (fun g e => by have h1 := Option.some.inj e; have := bd.size; omega)
            refine hK.out _ _ n3 (fun hH4 => ?_)
            clear hK K
            try dsimp only
            try simp only [List.getElem_toArray, List.getElem_cons_succ, List.getElem_cons_zero, Act.put]
            refine wpAnyH_take (i := 9) (v := ?_) rfl (by kernel_rfl) (by kernel_rfl) (by kernel_rfl) (fun _ _ _ h => h) (Or.inl ⟨by rfl, ?_⟩) hH4 ?_
            case refine_2 => intro w hSw; go_simp; try with_reducible rfl
            try simp only [Z1, Z2, Z3, Z4, Z5, Z6, Z7]
            refine wpAnyH_done (by kernel_rfl) ?_ _
            refine NoPanic.normal ?_
            go_wp2_with fail
            go_meet
            case rel => exact ⟨w2.heap.size, rfl, rfl, by have := bd.size; first | omega | (have := bd3.size; omega), kp, n3⟩
        case rest =>
          obtain ⟨at_, rfl, rfl, hat, kA, bX⟩ := hcut
          clear c4 TF
          have zx := bX.size
          have hatx := kA.lt
          have LX : LD wc g (fun x => F x ∨ w.heap.size ≤ x) l sg d ps := (L1.below bX).mono fun x hx => .inl hx
          have L0X : LDTo g F l sg d ps w wc := ⟨LX.mono fun x hx => .inl hx.1, .of_below (below_step' br bX)⟩
          have sXX := sX.below bX
          clear sX
          cases hfr : fr with
          | false =>
            subst hfr
            have hne := HFR.out rfl
            have TL2 := TL.out wc bX hne
            have hn0 : n0 < 18446744073709551616 := HLS.out hne
            have HNE := Lib.hid hne
            clear hne TS TL HLS
            go_wp2_with fail
            refine TL2.mono ?_
            clear TL2
            rintro en w4 ⟨rfl, b4⟩
            have kA4 := kA.below b4 kA.lt
            go_wp2_with ((with_reducible refine wpList_store_blk rfl 82 (.tmp 11) (.tmp 54) rfl at_ 82 _ #[.int .u64 (n0 : Int)] ?_ ?_ kA4 Try.size_Seg ?_ ?_ ?_ ?_); rfl; rfl; rfl; rfl; (simp [Value.oneCell']); intro w5 kA5 g5 z5)
            have b05 : Below w.heap.size w w5 := (below_step' (below_step' br bX) b4).grown g5 (by have := b4.size; omega) (fun b e => by have := Option.some.inj e; omega)
            have B5 : BlP (fun x => x ≠ at_) wc w5 := (BlP.of_below b4).grown g5 (fun b e h => h (Option.some.inj e).symm)
            have L5 : LD w5 g (fun x => (F x ∨ w.heap.size ≤ x) ∧ x < wc.heap.size) l sg d ps := (LX.blp B5 (fun x hx hn => .inr (by have : x = at_ := Classical.byContradiction hn; omega))).mono fun x hx => .inl hx.1
            have L05 : LDTo g F l sg d ps w w5 := ⟨L5.mono fun x hx => ⟨.inl hx.1, by have := hx.2; omega⟩, .of_below b05⟩
            have sX5 := sXX.same (w' := w5) ⟨B5.size, fun b h1 h2 => B5.block b h2 (fun e => by omega)⟩
            have HR2 : Hid (R = appEnd l sg recs (xs.flatten.length : Int) false (0, d, ps) (appP d ps (nameW l.pre n0) xs.flatten)) := HR2.out
            clear LX L1 L0X B5 b05 kA kA4 b4 g5 sXX
            have HCX : Hid (xs.length ≤ c') := hcx
            have z5 := L05.2.size
            have TJ := join_any gX 0 xs c' w5 sX5.any hcx (Nat.le_trans HFL.out (by decide))
            clear sX5
            generalize xs.flatten = all at *
            go_wp2_with fail
            refine TJ.mono ?_
            clear TJ
            rintro en w6 ⟨XA, xac, rfl, hB, aB, hcB, b6⟩
            have hkA6 := kA5.below b6 kA5.lt
            have z6 := b6.size
            obtain ⟨A6, c6, hk6, hs6, hdd6, hF6, hpl6⟩ := L5.below b6
            have hgx6 := kA5.lt
            have TN := Lib.hid (fun (W : World) (F0 : Nat → Prop) (hF0 : F0 g) (hW : BlP F0 w6 W) => name_any g (.slice A6 sg.length c6) l n0 hn0 W (hW.blk hk6 hF0) hpl6)
            obtain ⟨F6, hF6e⟩ : ∃ F6 : Nat → Prop, F6 = fun x => ((F x ∨ w.heap.size ≤ x) ∧ x < wc.heap.size) ∨ w5.heap.size ≤ x := ⟨_, rfl⟩
            obtain ⟨F0, hF0⟩ : ∃ F0 : Nat → Prop, F0 = fun x => F6 x ∨ x = g ∨ (Value.slice A6 sg.length c6).ownBlock = some x := ⟨_, rfl⟩
            rw [← hF6e] at hF6
            replace hdd6 : DD w6 l.disk F0 d ps := by rw [hF0, hF6e]; exact hdd6
            have hFX : ∀ x, w5.heap.size ≤ x → F0 x := fun x hx => by rw [hF0, hF6e]; exact .inl (.inr hx)
            have TA := Lib.hid (fun (W : World) (hW : Below w6.heap.size w6 W) => appendD_any (hdd6.below hW) HP.out HL.out (nameW l.pre n0) XA all xac (hB.below hW) (aB.mono' fun x hx => .inl (hFX x hx)) (by rw [nameW_len]; omega) (Nat.le_trans HFL.out (by decide)))
            have TD := Lib.hid (fun (w3 w' : World) (d' : LDisk) (ps' : List PFile) (b : BlP F0 w6 w3) (h : DDTo l.disk (fun x => F0 x ∨ w6.heap.size ≤ x) d' ps' w3 w') => (by subst hF0; exact LD.dd hk6 hs6 hF6 hpl6 b h : LDTo g F6 l sg d' ps' w6 w'))
            have hFa : F6 at_ := by rw [hF6e]; exact .inl ⟨.inr (by omega), by omega⟩
            have hFg : F0 g := by rw [hF0]; exact .inr (.inl rfl)
            have hFat : F0 at_ := by rw [hF0]; exact .inl hFa
            clear hs6 hdd6 hF6 hB aB hFX
            generalize nameW l.pre n0 = nm at *
            have HF6 := Lib.hid hF6e
            have HF0 := Lib.hid hF0
            clear hF6e hF0
            go_upto_region 19 with fail
            have bd6 : Below w6.heap.size w6 w6.drew := (Below.refl _ _).drew
            have kS : BlP F0 w6 w6.drew := .of_below bd6
            refine wp_region_noPanic ?_
            refine wp_region_held_drew (S := fun Y => BlP F0 w6 Y) (by kernel_rfl) kS (fun hH => ?_)
            generalize w6.drew = w7 at *
            refine wpAnyH_take (i := 0) (v := ?_) rfl (by kernel_rfl) (by kernel_rfl) (by kernel_rfl) (fun _ _ _ h => h) (Or.inl ⟨by rfl, ?_⟩) hH ?_
            case refine_2 => intro w hSw; go_simp; try with_reducible rfl
            try simp only [Z1, Z2, Z4, Z5, Z6, Z7]
            refine wpAnyH_take (i := 1) (v := ?_) rfl (by kernel_rfl) (by kernel_rfl) (by kernel_rfl) (fun _ _ _ h => h) (Or.inl ⟨by rfl, ?_⟩) hH ?_
            case refine_2 => intro w hSw; go_simp; try with_reducible rfl
            try simp only [Z1, Z2, Z3, Z4, Z5, Z6, Z7]
            refine wpAnyH_take (i := 2) (v := ?_) rfl (by kernel_rfl) (by kernel_rfl) (by kernel_rfl) (fun _ _ _ h => h) (Or.inl ⟨by rfl, ?_⟩) hH ?_
            case refine_2 => intro w hSw; go_simp; try with_reducible rfl
            try simp only [Z1, Z2, Z3, Z4, Z5, Z6, Z7]
            refine wpAnyH_take (i := 3) (v := ?_) rfl (by kernel_rfl) (by kernel_rfl) (by kernel_rfl) (fun _ _ _ h => h) (Or.inl ⟨by rfl, ?_⟩) hH ?_
            case refine_2 => intro w hSw; go_simp; try with_reducible rfl
            try simp only [Z1, Z2, Z3, Z4, Z5, Z6, Z7]
            refine wpAnyH_take (i := 4) (v := ?_) rfl (by kernel_rfl) (by kernel_rfl) (by kernel_rfl) (fun _ _ _ h => h) (Or.inl ⟨by rfl, ?_⟩) hH ?_
            case refine_2 => intro w hSw; have h1 : Blk w g 77 (logC (.slice A6 sg.length c6) l) := hSw.blk hk6 hFg; have n0_ : w.cell? ⟨_, 0, none⟩ = some (.pointer (some ⟨l.disk, 0, none⟩)) := Blk.cell h1 0; clear h1 hSw; go_simp; try with_reducible rfl
            try simp only [Z1, Z2, Z3, Z4, Z5, Z6, Z7]
            refine wpAnyH_take (i := 5) (v := ?_) rfl (by kernel_rfl) (by kernel_rfl) (by kernel_rfl) (fun _ _ _ h => h) (Or.inl ⟨by rfl, ?_⟩) hH ?_
            case refine_2 => intro w hSw; go_simp; try with_reducible rfl
            try simp only [Z1, Z2, Z3, Z4, Z5, Z6, Z7]
            refine wpAnyH_take (i := 6) (v := ?_) rfl (by kernel_rfl) (by kernel_rfl) (by kernel_rfl) (fun _ _ _ h => h) (Or.inl ⟨by rfl, ?_⟩) hH ?_
            case refine_2 => intro w hSw; have h1 : Blk w at_ 82 #[.int .u64 (n0 : Int)] := hSw.blk hkA6 hFat; have n0_ : w.cell? ⟨_, 0, none⟩ = some (.int .u64 (n0 : Int)) := Blk.cell h1 0; clear h1 hSw; go_simp; try with_reducible rfl
            try simp only [Z1, Z2, Z3, Z4, Z5, Z6, Z7]
            refine wpAnyH_take (i := 8) (v := ?_) rfl (by kernel_rfl) (by kernel_rfl) (by kernel_rfl) (fun _ _ _ h => h) (Or.inl ⟨by rfl, ?_⟩) hH ?_
            case refine_2 => intro w hSw; go_simp; try with_reducible rfl
            try simp only [Z1, Z2, Z3, Z4, Z5, Z6, Z7]
            refine wpAnyH_ready (rs := [7]) (by kernel_rfl) (by simp) ?_
            refine AllReadyH.cons rfl (fun K hK => ?_) AllReadyH.nil
            go_simp
            refine (TN.out w7 F0 hFg kS).mono ?_
            rintro en w8 ⟨rfl, b8⟩
            have bd8 := below_step' bd6 b8
            have kS8 : BlP F0 w6 w8 := .of_below bd8
            refine hK.out _ _ kS8 (fun hH => ?_)
            clear hK K
            try dsimp only
            try simp only [Z1, Z2, Z3, Z4, Z5, Z6, Z7]
            refine wpAnyH_ready (rs := [9]) (by kernel_rfl) (by simp) ?_
            refine AllReadyH.cons rfl (fun K hK => ?_) AllReadyH.nil
            go_simp
            refine (TA.out w8 bd8).mono ?_
            generalize appP d ps nm all = r at *
            obtain ⟨e2, d2, ps2⟩ := r
            rintro en w9 ⟨rfl, h9⟩
            have kS9 : BlP F0 w6 w9 := kS8.trans ⟨h9.2.os, h9.2.tape, h9.2.output, h9.2.size, fun k hk hb => h9.2.block k hk (.inl hb)⟩
            have L69 := TD.out w8 w9 d2 ps2 kS8 h9
            have L09 : LDTo g F l sg d2 ps2 w w9 := L05.next (LDTo.low b6 L69 fun x hx => by rw [HF6.out]; exact .inl ⟨.inl hx.1, by have := hx.2; omega⟩)
            have kA9 := kS9.blk hkA6 hFat
            have hFat9 : F6 at_ := hFa
            clear h9 TN TA TD
            refine hK.out _ _ kS9 (fun hH => ?_)
            clear hK K
            try dsimp only
            try simp only [Z1, Z2, Z3, Z4, Z5, Z6, Z7]
            refine wpAnyH_take (i := 10) (v := ?_) rfl (by kernel_rfl) (by kernel_rfl) (by kernel_rfl) (fun _ _ _ h => h) (Or.inl ⟨by rfl, ?_⟩) hH ?_
            case refine_2 => intro w hSw; go_simp; try with_reducible rfl
            try simp only [Z1, Z2, Z3, Z4, Z5, Z6, Z7]
            refine wpAnyH_done (by kernel_rfl) ?_ _
            refine NoPanic.normal ?_
            clear kS kS8 kS9 bd8 b8
            by_cases he2 : e2 = 0
            · subst he2
              have hg9 : g < w.heap.size := hgl
              obtain ⟨A9, c9, k6, _⟩ := id L69.1
              have y4 : w9.cell? ⟨g, 4, none⟩ = some (.int .u64 (l.next : Int)) := k6.cell 4
              have y5 : w9.cell? ⟨g, 5, none⟩ = some (.int .i64 l.size) := k6.cell 5
              have f5 : w9.frozen? ⟨g, 5, none⟩ = false := k6.frozen 5
              have v0 : wrap64 (l.size + (all.length : Int)) = l.size + (all.length : Int) := by have := HFL.out; have := HSZ.out; unfold wrap64; omega
              have v1 : IntKind.u64.wrap (recs.length : Int) = (recs.length : Int) := by have := HRN.out; simp [IntKind.wrap, IntKind.bits, IntKind.signed]; omega
              have v2 : IntKind.u64.wrap ((l.next : Int) + (recs.length : Int)) = (l.next : Int) + (recs.length : Int) := by have := HHN.out; simp [IntKind.wrap, IntKind.bits, IntKind.signed]; omega
              go_upto_region 26 with fail
              clear y4 y5 f5 v0
              have LA : LDTo g F { l with size := (l.size + (all.length : Int)) } sg d2 ps2 w (w9.setCell ⟨g, 5, none⟩ (.int .i64 (l.size + (all.length : Int)))) := L09.next (LD.store (l' := { l with size := (l.size + (all.length : Int)) }) L09.1 5 (.int .i64 (l.size + (all.length : Int))) (fun S => rfl) rfl rfl (fun h => HGF.out h.1))
              have k7 := k6.set_ 5 (.int .i64 (l.size + (all.length : Int)))
              generalize (w9.setCell ⟨g, 5, none⟩ (.int .i64 (l.size + (all.length : Int)))) = wm at *
              have y4 : wm.cell? ⟨g, 4, none⟩ = some (.int .u64 (l.next : Int)) := k7.cell 4
              have f4 : wm.frozen? ⟨g, 4, none⟩ = false := k7.frozen 4
              go_wp2_with fail
              go_ret2
              have LB : LDTo g F { l with size := (l.size + (all.length : Int)), next := l.next + recs.length } sg d2 ps2 w (wm.setCell ⟨g, 4, none⟩ (.int .u64 ((l.next + recs.length : Nat) : Int))) := LA.next (LD.store (l' := { l with size := (l.size + (all.length : Int)), next := l.next + recs.length }) LA.1 4 (.int .u64 ((l.next + recs.length : Nat) : Int)) (fun S => rfl) rfl rfl (fun h => HGF.out h.1))
              have HE : R = (l.next, 0, { l with size := (l.size + (all.length : Int)), next := l.next + recs.length }, sg, d2, ps2) := by
                rw [HR2.out]
                show appEnd l sg recs (all.length : Int) false _ _ = _
                simp [appEnd]
              rw [HE]
              exact ⟨rfl, LB⟩
            · have hb2 : (e2 != 0) = true := by rw [bne_iff_ne]; exact he2
              go_wp2_with fail
              go_ret2
              have HE : R = (0, e2, l, sg, d2, ps2) := by
                rw [HR2.out]
                unfold appEnd
                rw [if_neg (by simp), if_pos he2]
              rw [HE]
              exact ⟨rfl, L09⟩
          | true =>
            subst hfr
            have TS2 := TS.out wc _ LX
            clear TS TL HLS
            go_wp2_with fail
            refine TS2.mono ?_
            clear TS2
            obtain ⟨e, d1, ps1⟩ := sy
            rintro en w5 ⟨h1, L5, B5⟩
            obtain rfl : en = .returned (.int .i64 e) := h1
            replace L5 : LD w5 g (fun x => (F x ∨ w.heap.size ≤ x) ∧ x < wc.heap.size) l sg d1 ps1 := L5
            have L05 : LDTo g F l sg d1 ps1 w w5 := L0X.next ⟨L5.mono fun x hx => ⟨.inl hx.1.1, hx.2⟩, ⟨B5.os, B5.tape, B5.output, B5.size, fun k hk hf => B5.block k hk (.inl hf.1)⟩⟩
            have hp1 : PsOk ps1 := HP1.out
            have hl1 : LdOk d1 := HL1.out
            by_cases he : e = 0
            · subst he
              have kA5 : Blk w5 at_ 82 #[.int .u64 (l.next : Int)] := B5.blk kA (.inr (by omega))
              have sX5 := sXX.same (w' := w5) ⟨B5.size, fun b h1 h2 => B5.block b h2 (.inr h1.1)⟩
              obtain ⟨n0, hn0e⟩ : ∃ n0, n0 = l.next := ⟨_, rfl⟩
              have Hn0 := Lib.hid hn0e
              have hn0 : n0 < 18446744073709551616 := by rw [hn0e]; exact Nat.lt_of_le_of_lt (Nat.le_add_right _ _) HHN.out
              rw [← hn0e] at kA5
              have HR2 : Hid (R = appEnd l sg recs (xs.flatten.length : Int) true (0, d1, ps1) (appP d1 ps1 (nameW l.pre n0) xs.flatten)) := by show _ = _; rw [hn0e]; exact HR2.out
              clear LX L1 L0X B5 kA sXX hn0e
              go_upto_region 18 with fail
              have HCX : Hid (xs.length ≤ c') := hcx
              have z5 := L05.2.size
              have TJ := join_any gX 0 xs c' w5 sX5.any hcx (Nat.le_trans HFL.out (by decide))
              clear sX5
              generalize xs.flatten = all at *
              go_wp2_with fail
              refine TJ.mono ?_
              clear TJ
              rintro en w6 ⟨XA, xac, rfl, hB, aB, hcB, b6⟩
              have hkA6 := kA5.below b6 kA5.lt
              have z6 := b6.size
              obtain ⟨A6, c6, hk6, hs6, hdd6, hF6, hpl6⟩ := L5.below b6
              have hgx6 := kA5.lt
              have TN := Lib.hid (fun (W : World) (F0 : Nat → Prop) (hF0 : F0 g) (hW : BlP F0 w6 W) => name_any g (.slice A6 sg.length c6) l n0 hn0 W (hW.blk hk6 hF0) hpl6)
              obtain ⟨F6, hF6e⟩ : ∃ F6 : Nat → Prop, F6 = fun x => ((F x ∨ w.heap.size ≤ x) ∧ x < wc.heap.size) ∨ w5.heap.size ≤ x := ⟨_, rfl⟩
              obtain ⟨F0, hF0⟩ : ∃ F0 : Nat → Prop, F0 = fun x => F6 x ∨ x = g ∨ (Value.slice A6 sg.length c6).ownBlock = some x := ⟨_, rfl⟩
              rw [← hF6e] at hF6
              replace hdd6 : DD w6 l.disk F0 d1 ps1 := by rw [hF0, hF6e]; exact hdd6
              have hFX : ∀ x, w5.heap.size ≤ x → F0 x := fun x hx => by rw [hF0, hF6e]; exact .inl (.inr hx)
              have TA := Lib.hid (fun (W : World) (hW : Below w6.heap.size w6 W) => appendD_any (hdd6.below hW) hp1 hl1 (nameW l.pre n0) XA all xac (hB.below hW) (aB.mono' fun x hx => .inl (hFX x hx)) (by rw [nameW_len]; omega) (Nat.le_trans HFL.out (by decide)))
              have TD := Lib.hid (fun (w3 w' : World) (d' : LDisk) (ps' : List PFile) (b : BlP F0 w6 w3) (h : DDTo l.disk (fun x => F0 x ∨ w6.heap.size ≤ x) d' ps' w3 w') => (by subst hF0; exact LD.dd hk6 hs6 hF6 hpl6 b h : LDTo g F6 l sg d' ps' w6 w'))
              have hFa : F6 at_ := by rw [hF6e]; exact .inl ⟨.inr (by omega), by omega⟩
              have hFg : F0 g := by rw [hF0]; exact .inr (.inl rfl)
              have hFat : F0 at_ := by rw [hF0]; exact .inl hFa
              clear hs6 hdd6 hF6 hB aB hFX
              generalize nameW l.pre n0 = nm at *
              have HF6 := Lib.hid hF6e
              have HF0 := Lib.hid hF0
              clear hF6e hF0
              go_upto_region 19 with fail
              have bd6 : Below w6.heap.size w6 w6.drew := (Below.refl _ _).drew
              have kS : BlP F0 w6 w6.drew := .of_below bd6
              refine wp_region_noPanic ?_
              refine wp_region_held_drew (S := fun Y => BlP F0 w6 Y) (by kernel_rfl) kS (fun hH => ?_)
              generalize w6.drew = w7 at *
              refine wpAnyH_take (i := 0) (v := ?_) rfl (by kernel_rfl) (by kernel_rfl) (by kernel_rfl) (fun _ _ _ h => h) (Or.inl ⟨by rfl, ?_⟩) hH ?_
              case refine_2 => intro w hSw; go_simp; try with_reducible rfl
              try simp only [Z1, Z2, Z4, Z5, Z6, Z7]
              refine wpAnyH_take (i := 1) (v := ?_) rfl (by kernel_rfl) (by kernel_rfl) (by kernel_rfl) (fun _ _ _ h => h) (Or.inl ⟨by rfl, ?_⟩) hH ?_
              case refine_2 => intro w hSw; go_simp; try with_reducible rfl
              try simp only [Z1, Z2, Z3, Z4, Z5, Z6, Z7]
              refine wpAnyH_take (i := 2) (v := ?_) rfl (by kernel_rfl) (by kernel_rfl) (by kernel_rfl) (fun _ _ _ h => h) (Or.inl ⟨by rfl, ?_⟩) hH ?_
              case refine_2 => intro w hSw; go_simp; try with_reducible rfl
              try simp only [Z1, Z2, Z3, Z4, Z5, Z6, Z7]
              refine wpAnyH_take (i := 3) (v := ?_) rfl (by kernel_rfl) (by kernel_rfl) (by kernel_rfl) (fun _ _ _ h => h) (Or.inl ⟨by rfl, ?_⟩) hH ?_
              case refine_2 => intro w hSw; go_simp; try with_reducible rfl
              try simp only [Z1, Z2, Z3, Z4, Z5, Z6, Z7]
              refine wpAnyH_take (i := 4) (v := ?_) rfl (by kernel_rfl) (by kernel_rfl) (by kernel_rfl) (fun _ _ _ h => h) (Or.inl ⟨by rfl, ?_⟩) hH ?_
              case refine_2 => intro w hSw; have h1 : Blk w g 77 (logC (.slice A6 sg.length c6) l) := hSw.blk hk6 hFg; have n0_ : w.cell? ⟨_, 0, none⟩ = some (.pointer (some ⟨l.disk, 0, none⟩)) := Blk.cell h1 0; clear h1 hSw; go_simp; try with_reducible rfl
              try simp only [Z1, Z2, Z3, Z4, Z5, Z6, Z7]
              refine wpAnyH_take (i := 5) (v := ?_) rfl (by kernel_rfl) (by kernel_rfl) (by kernel_rfl) (fun _ _ _ h => h) (Or.inl ⟨by rfl, ?_⟩) hH ?_
              case refine_2 => intro w hSw; go_simp; try with_reducible rfl
              try simp only [Z1, Z2, Z3, Z4, Z5, Z6, Z7]
              refine wpAnyH_take (i := 6) (v := ?_) rfl (by kernel_rfl) (by kernel_rfl) (by kernel_rfl) (fun _ _ _ h => h) (Or.inl ⟨by rfl, ?_⟩) hH ?_
              case refine_2 => intro w hSw; have h1 : Blk w at_ 82 #[.int .u64 (n0 : Int)] := hSw.blk hkA6 hFat; have n0_ : w.cell? ⟨_, 0, none⟩ = some (.int .u64 (n0 : Int)) := Blk.cell h1 0; clear h1 hSw; go_simp; try with_reducible rfl
              try simp only [Z1, Z2, Z3, Z4, Z5, Z6, Z7]
              refine wpAnyH_take (i := 8) (v := ?_) rfl (by kernel_rfl) (by kernel_rfl) (by kernel_rfl) (fun _ _ _ h => h) (Or.inl ⟨by rfl, ?_⟩) hH ?_
              case refine_2 => intro w hSw; go_simp; try with_reducible rfl
              try simp only [Z1, Z2, Z3, Z4, Z5, Z6, Z7]
              refine wpAnyH_ready (rs := [7]) (by kernel_rfl) (by simp) ?_
              refine AllReadyH.cons rfl (fun K hK => ?_) AllReadyH.nil
              go_simp
              refine (TN.out w7 F0 hFg kS).mono ?_
              rintro en w8 ⟨rfl, b8⟩
              have bd8 := below_step' bd6 b8
              have kS8 : BlP F0 w6 w8 := .of_below bd8
              refine hK.out _ _ kS8 (fun hH => ?_)
              clear hK K
              try dsimp only
              try simp only [Z1, Z2, Z3, Z4, Z5, Z6, Z7]
              refine wpAnyH_ready (rs := [9]) (by kernel_rfl) (by simp) ?_
              refine AllReadyH.cons rfl (fun K hK => ?_) AllReadyH.nil
              go_simp
              refine (TA.out w8 bd8).mono ?_
              generalize appP d1 ps1 nm all = r at *
              obtain ⟨e2, d2, ps2⟩ := r
              rintro en w9 ⟨rfl, h9⟩
              have kS9 : BlP F0 w6 w9 := kS8.trans ⟨h9.2.os, h9.2.tape, h9.2.output, h9.2.size, fun k hk hb => h9.2.block k hk (.inl hb)⟩
              have L69 := TD.out w8 w9 d2 ps2 kS8 h9
              have L09 : LDTo g F l sg d2 ps2 w w9 := L05.next (LDTo.low b6 L69 fun x hx => by rw [HF6.out]; exact .inl ⟨.inl hx.1, by have := hx.2; omega⟩)
              have kA9 := kS9.blk hkA6 hFat
              have hFat9 : F6 at_ := hFa
              clear h9 TN TA TD
              refine hK.out _ _ kS9 (fun hH => ?_)
              clear hK K
              try dsimp only
              try simp only [Z1, Z2, Z3, Z4, Z5, Z6, Z7]
              refine wpAnyH_take (i := 10) (v := ?_) rfl (by kernel_rfl) (by kernel_rfl) (by kernel_rfl) (fun _ _ _ h => h) (Or.inl ⟨by rfl, ?_⟩) hH ?_
              case refine_2 => intro w hSw; go_simp; try with_reducible rfl
              try simp only [Z1, Z2, Z3, Z4, Z5, Z6, Z7]
              refine wpAnyH_done (by kernel_rfl) ?_ _
              refine NoPanic.normal ?_
              clear kS kS8 kS9 bd8 b8
              by_cases he2 : e2 = 0
              · subst he2
                have hg9 : g < w.heap.size := hgl
                obtain ⟨A9, c9, hk9, hs9, hdd9, hF9, hpl9⟩ := L69.1
                have hrow := (hF9 at_ ⟨hFat9, by omega⟩).2
                go_upto_region 23 with fail
                have kk : Blk w9.drew g 77 (logC (.slice A9 sg.length c9) l) ∧ Blk w9.drew at_ 82 #[.int .u64 (n0 : Int)] := ⟨hk9.drew, kA9.drew⟩
                have ba : Below w9.heap.size w9 w9.drew := (Below.refl _ _).drew
                refine wp_region_noPanic ?_
                refine wp_region_heldK (fun Y => Blk Y g 77 (logC (.slice A9 sg.length c9) l) ∧ Blk Y at_ 82 #[.int .u64 (n0 : Int)]) 12 (by kernel_rfl) kk (fun hH => ?_)
                generalize w9.drew = wa at *
                refine wpAnyK_take (i := 0) (v := ?_) rfl (by kernel_rfl) (by kernel_rfl) (by kernel_rfl) (by kernel_rfl) (fun _ _ _ h => h) (Or.inl ⟨by rfl, ?_⟩) hH ?_
                case refine_2 => intro w hSw; go_simp; try with_reducible rfl
                try simp only [Z1, Z2, Z4, Z5, Z6, Z7]
                refine wpAnyK_takeY (i := 1) (v := ?_) rfl (by kernel_rfl) (by kernel_rfl) (by kernel_rfl) (by kernel_rfl) (fun _ _ _ h => h) (Or.inl ⟨by rfl, ?_⟩) hH ?_
                case refine_2 => intro w; go_simp; try with_reducible rfl
                try simp only [Z1, Z2, Z3, Z4, Z5, Z6, Z7]
                refine wpAnyK_takeY (i := 2) (v := ?_) rfl (by kernel_rfl) (by kernel_rfl) (by kernel_rfl) (by kernel_rfl) (fun _ _ _ h => h) (Or.inl ⟨by rfl, ?_⟩) hH ?_
                case refine_2 => intro w; go_simp; try with_reducible rfl
                try simp only [Z1, Z2, Z3, Z4, Z5, Z6, Z7]
                refine wpAnyK_take (i := 3) (v := ?_) rfl (by kernel_rfl) (by kernel_rfl) (by kernel_rfl) (by kernel_rfl) (fun _ _ _ h => h) (Or.inl ⟨by rfl, ?_⟩) hH ?_
                case refine_2 => intro w hSw; go_simp; try with_reducible rfl
                try simp only [Z1, Z2, Z3, Z4, Z5, Z6, Z7]
                refine wpAnyK_take (i := 4) (v := ?_) rfl (by kernel_rfl) (by kernel_rfl) (by kernel_rfl) (by kernel_rfl) (fun _ _ _ h => h) (Or.inl ⟨by rfl, ?_⟩) hH ?_
                case refine_2 => intro w hSw; go_simp; try with_reducible rfl
                try simp only [Z1, Z2, Z3, Z4, Z5, Z6, Z7]
                refine wpAnyK_take (i := 5) (v := ?_) rfl (by kernel_rfl) (by kernel_rfl) (by kernel_rfl) (by kernel_rfl) (fun _ _ _ h => h) (Or.inl ⟨by rfl, ?_⟩) hH ?_
                case refine_2 => intro w hSw; go_simp; try with_reducible rfl
                try simp only [Z1, Z2, Z3, Z4, Z5, Z6, Z7]
                refine wpAnyK_take (i := 6) (v := ?_) rfl (by kernel_rfl) (by kernel_rfl) (by kernel_rfl) (by kernel_rfl) (fun _ _ _ h => h) (Or.inl ⟨by rfl, ?_⟩) hH ?_
                case refine_2 => intro w hSw; have h1 : Blk w g 77 (logC (.slice A9 sg.length c9) l) := hSw.1; have n3 : w.cell? ⟨g, 3, none⟩ = some (.slice A9 sg.length c9) := Blk.cell h1 3; clear h1 hSw; go_simp; try with_reducible rfl
                try simp only [Z1, Z2, Z3, Z4, Z5, Z6, Z7]
                refine wpAnyK_take (i := 7) (v := ?_) rfl (by kernel_rfl) (by kernel_rfl) (by kernel_rfl) (by kernel_rfl) (fun _ _ _ h => h) (Or.inl ⟨by rfl, ?_⟩) hH ?_
                case refine_2 => intro w hSw; have h1 : Blk w at_ 82 #[.int .u64 (n0 : Int)] := hSw.2; have n0_ : w.cell? ⟨at_, 0, none⟩ = some (.int .u64 (n0 : Int)) := Blk.cell h1 0; clear h1 hSw; go_simp; try with_reducible rfl
                try simp only [Z1, Z2, Z3, Z4, Z5, Z6, Z7]
                refine wpAnyK_ready (rs := [8]) (by kernel_rfl) (by simp) ?_
                refine AllReadyK.cons rfl (by kernel_rfl) (fun K hK => ?_) AllReadyK.nil
                go_simp
                change K _ (wa.alloc (.cells #[.int .u64 (n0 : Int)] 82))
                have d9 : Below wa.heap.size wa (wa.alloc (.cells #[.int .u64 (n0 : Int)] 82)) := (Below.refl _ _).alloc (Nat.le_refl _) _
                have hrN : Reads (wa.alloc (.cells #[.int .u64 (n0 : Int)] 82)) (wa.heap.size + 1) 1 (some ⟨wa.heap.size, 0, none⟩) 1 [segV n0] := Reads.newN wa [segV n0] 82
                have b9 := below_step' ba d9
                have k9 := hk9.below b9 hk9.lt
                have s9 := hs9.below b9
                have ka9 := kA9.below b9 kA9.lt
                generalize (wa.alloc (.cells #[.int .u64 (n0 : Int)] 82)) = wb at *
                have kkb : Blk wb g 77 (logC (.slice A9 sg.length c9) l) ∧ Blk wb at_ 82 #[.int .u64 (n0 : Int)] := ⟨k9, ka9⟩
                refine hK.out _ _ kkb ?_
                clear hK K
                try dsimp only
                try simp only [Z1, Z2, Z3, Z4, Z5, Z6, Z7]
                refine wpAnyK_ready (rs := [9]) (by kernel_rfl) (by simp) ?_
                refine AllReadyK.cons rfl (by kernel_rfl) (fun K hK => ?_) AllReadyK.nil
                refine step_append_seg rfl (.tmp 82) (.tmp 84) rfl _ sg rfl s9 (some ⟨wa.heap.size, 0, none⟩) 1 _ n0 rfl hrN hn0 (Nat.le_trans HSL.out (by decide)) ?_
                intro A' c' sg' wd HSG sAt gB tB
                have hng : (Value.slice A9 sg.length c9).ownBlock ≠ some g := fun e => by
                  rcases s9.2 with ⟨e', _⟩ | ⟨g', k, cap, cur, e', hb, _⟩
                  · rw [e'] at e; cases e
                  · rw [e'] at e
                    obtain rfl : g' = g := Option.some.inj e
                    exact k9.ne_ hb (by decide) rfl
                have kd := k9.grown gB (fun e => hng e.symm)
                have kad := ka9.grown gB (fun e => hrow e.symm)
                have kkd : Blk wd g 77 (logC (.slice A9 sg.length c9) l) ∧ Blk wd at_ 82 #[.int .u64 (n0 : Int)] := ⟨kd, kad⟩
                have g1 : w9.grownBy wd (Value.slice A9 sg.length c9).ownBlock := (only_of_below b9 _).trans gB
                have hat1 : ∀ b, (Value.slice A' sg'.length c').ownBlock = some b → (Value.slice A9 sg.length c9).ownBlock = some b ∨ w9.heap.size ≤ b := fun b e => by
                  rcases tB with t | t
                  · exact .inl (t.symm.trans e)
                  · have e := Option.some.inj (t.symm.trans e); have := b9.size; exact .inr (by omega)
                clear kk kkb ba d9 hrN b9 s9 tB kad ka9
                refine hK.out _ _ kkd ?_
                clear hK K
                try dsimp only
                try simp only [Z1, Z2, Z3, Z4, Z5, Z6, Z7]
                refine wpAnyK_take (i := 10) (v := ?_) rfl (by kernel_rfl) (by kernel_rfl) (by kernel_rfl) (by kernel_rfl) (fun _ _ _ h => h) (Or.inl ⟨by rfl, ?_⟩) kkd ?_
                case refine_2 => intro w hSw; go_simp; try with_reducible rfl
                try simp only [Z1, Z2, Z3, Z4, Z5, Z6, Z7]
                refine wpAnyK_take (i := 11) (v := ?_) rfl (by kernel_rfl) (by kernel_rfl) (by kernel_rfl) (by kernel_rfl) (fun _ _ _ h => h) (Or.inl ⟨by rfl, ?_⟩) kkd ?_
                case refine_2 => intro w hSw; go_simp; try with_reducible rfl
                try simp only [Z1, Z2, Z3, Z4, Z5, Z6, Z7]
                refine wpAnyK_ready (rs := [12]) (by kernel_rfl) (by simp) ?_
                refine AllReadyK.turn rfl (fun K hK => ?_) AllReadyK.nil
                have y3 : wd.cell? ⟨g, 3, none⟩ = some (.slice A9 sg.length c9) := kd.cell 3
                have f3 : wd.frozen? ⟨g, 3, none⟩ = false := kd.frozen 3
                go_simp
                refine hK.out _ _ ?_
                clear hK K hH y3 f3
                try simp only [Z1, Z2, Z3, Z4, Z5, Z6, Z7]
                have g2 : wd.grownBy (wd.setCell ⟨g, 3, none⟩ (.slice A' sg'.length c')) (some g) := only_setCell (World.grownBy.refl wd _) (.inl rfl) _
                have k3 := kd.set_ 3 (.slice A' sg'.length c')
                generalize (wd.setCell ⟨g, 3, none⟩ (.slice A' sg'.length c')) = we at *
                refine wpAny_take (i := 13) (v := ?_) rfl (by kernel_rfl) (by kernel_rfl) (by kernel_rfl) (fun _ _ _ h => h) (Or.inl ⟨by rfl, ?_⟩) ?_
                case refine_2 => intro w; go_simp; try with_reducible rfl
                try simp only [Z1, Z2, Z3, Z4, Z5, Z6, Z7]
                refine wpAny_take (i := 14) (v := ?_) rfl (by kernel_rfl) (by kernel_rfl) (by kernel_rfl) (fun _ _ _ h => h) (Or.inl ⟨by rfl, ?_⟩) ?_
                case refine_2 => intro w; go_simp; try with_reducible rfl
                try simp only [Z1, Z2, Z3, Z4, Z5, Z6, Z7]
                refine wpAny_ready (rs := [15]) (by kernel_rfl) (by simp) ?_
                refine AllReady.cons rfl (fun K hK => ?_) AllReady.nil
                have y5 : we.cell? ⟨g, 5, none⟩ = some (.int .i64 l.size) := k3.cell 5
                have f5 : we.frozen? ⟨g, 5, none⟩ = false := k3.frozen 5
                go_simp
                refine hK _ _ ?_
                clear hK K y5 f5
                try simp only [Z1, Z2, Z3, Z4, Z5, Z6, Z7]
                have g3 : wd.grownBy (we.setCell ⟨g, 5, none⟩ (.int .i64 0)) (some g) := only_setCell g2 (.inl rfl) _
                have k5 := k3.set_ 5 (.int .i64 0)
                generalize (we.setCell ⟨g, 5, none⟩ (.int .i64 0)) = wf at *
                refine wpAny_take (i := 16) (v := ?_) rfl (by kernel_rfl) (by kernel_rfl) (by kernel_rfl) (fun _ _ _ h => h) (Or.inl ⟨by rfl, ?_⟩) ?_
                case refine_2 => intro w; go_simp; try with_reducible rfl
                try simp only [Z1, Z2, Z3, Z4, Z5, Z6, Z7]
                refine wpAny_take (i := 17) (v := ?_) rfl (by kernel_rfl) (by kernel_rfl) (by kernel_rfl) (fun _ _ _ h => h) (Or.inl ⟨by rfl, ?_⟩) ?_
                case refine_2 => intro w; go_simp; try with_reducible rfl
                try simp only [Z1, Z2, Z3, Z4, Z5, Z6, Z7]
                refine wpAny_ready (rs := [18]) (by kernel_rfl) (by simp) ?_
                refine AllReady.cons rfl (fun K hK => ?_) AllReady.nil
                have y6 : wf.cell? ⟨g, 6, none⟩ = some (.bool l.rot) := k5.cell 6
                have f6 : wf.frozen? ⟨g, 6, none⟩ = false := k5.frozen 6
                go_simp
                refine hK _ _ ?_
                clear hK K y6 f6
                try simp only [Z1, Z2, Z3, Z4, Z5, Z6, Z7]
                have g4 : wd.grownBy (wf.setCell ⟨g, 6, none⟩ (.bool false)) (some g) := only_setCell g3 (.inl rfl) _
                have k6 := k5.set_ 6 (.bool false)
                refine wpAny_done (by kernel_rfl) ?_ _
                refine NoPanic.normal ?_
                generalize (wf.setCell ⟨g, 6, none⟩ (.bool false)) = wk at *
                replace k6 : Blk wk g 77 (logC (.slice A' sg'.length c') { l with size := 0, rot := false }) := k6
                have L7 := LD.seg hk9 hs9 hdd9 hF9 hpl9 sAt g1 hat1 g4 k6 rfl rfl
                rw [HSG.out] at L7 k6
                have L8 : LDTo g F { l with size := 0, rot := false } (sg ++ [n0]) d2 ps2 w wk := L09.next (LDTo.low (Below.refl _ _) L7 fun x hx => ⟨by rw [HF6.out]; exact .inl ⟨.inl hx.1, by have := hx.2; omega⟩, by have := hx.2; omega⟩)
                clear g1 g2 g3 g4 k3 k5 kd kkd sAt hat1 L09 L69 hs9 hdd9 hF9 hk9 kA9 hng
                have y4 : wk.cell? ⟨g, 4, none⟩ = some (.int .u64 (l.next : Int)) := k6.cell 4
                have y5 : wk.cell? ⟨g, 5, none⟩ = some (.int .i64 0) := k6.cell 5
                have f5 : wk.frozen? ⟨g, 5, none⟩ = false := k6.frozen 5
                have v0 : wrap64 (all.length : Int) = (all.length : Int) := by have := HFL.out; unfold wrap64; omega
                have v1 : IntKind.u64.wrap (recs.length : Int) = (recs.length : Int) := by have := HRN.out; simp [IntKind.wrap, IntKind.bits, IntKind.signed]; omega
                have v2 : IntKind.u64.wrap ((l.next : Int) + (recs.length : Int)) = (l.next : Int) + (recs.length : Int) := by have := HHN.out; simp [IntKind.wrap, IntKind.bits, IntKind.signed]; omega
                go_upto_region 26 with fail
                clear y4 y5 f5 v0
                have LA : LDTo g F { { l with size := 0, rot := false } with size := (all.length : Int) } (sg ++ [n0]) d2 ps2 w (wk.setCell ⟨g, 5, none⟩ (.int .i64 (all.length : Int))) := L8.next (LD.store (l' := { { l with size := 0, rot := false } with size := (all.length : Int) }) L8.1 5 (.int .i64 (all.length : Int)) (fun S => rfl) rfl rfl (fun h => HGF.out h.1))
                have k7 := k6.set_ 5 (.int .i64 (all.length : Int))
                generalize (wk.setCell ⟨g, 5, none⟩ (.int .i64 (all.length : Int))) = wm at *
                have y4 : wm.cell? ⟨g, 4, none⟩ = some (.int .u64 (l.next : Int)) := k7.cell 4
                have f4 : wm.frozen? ⟨g, 4, none⟩ = false := k7.frozen 4
                go_wp2_with fail
                go_ret2
                have LB : LDTo g F { { l with size := 0, rot := false } with size := (all.length : Int), next := l.next + recs.length } (sg ++ [n0]) d2 ps2 w (wm.setCell ⟨g, 4, none⟩ (.int .u64 ((l.next + recs.length : Nat) : Int))) := LA.next (LD.store (l' := { { l with size := 0, rot := false } with size := (all.length : Int), next := l.next + recs.length }) LA.1 4 (.int .u64 ((l.next + recs.length : Nat) : Int)) (fun S => rfl) rfl rfl (fun h => HGF.out h.1))
                have HE : R = (l.next, 0, { { l with size := 0, rot := false } with size := (all.length : Int), next := l.next + recs.length }, (sg ++ [n0]), d2, ps2) := by
                  rw [HR2.out, Hn0.out]
                  show appEnd l sg recs (all.length : Int) true _ _ = _
                  simp [appEnd]
                rw [HE]
                exact ⟨rfl, LB⟩
              · have hb2 : (e2 != 0) = true := by rw [bne_iff_ne]; exact he2
                go_wp2_with fail
                go_ret2
                have HE : R = (0, e2, l, sg, d2, ps2) := by
                  rw [HR2.out]
                  unfold appEnd
                  rw [if_neg (by simp), if_pos he2]
                rw [HE]
                exact ⟨rfl, L09⟩
            · have hb2 : (e != 0) = true := by rw [bne_iff_ne]; exact he
              go_wp2_with fail
              go_ret2
              have HE : R = (0, e, l, sg, d1, ps1) := by
                rw [show R = appEnd l sg recs (xs.flatten.length : Int) true (e, d1, ps1) (appP d1 ps1 (nameW l.pre l.next) xs.flatten) from HR2.out]
                unfold appEnd
                rw [if_pos he]
              rw [HE]
              exact ⟨rfl, L05⟩
end Go.Proofs.Ytbldfgpnghoigaa
