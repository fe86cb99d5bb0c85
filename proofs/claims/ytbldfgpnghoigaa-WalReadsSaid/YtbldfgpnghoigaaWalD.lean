/- A log's Drop: the first segments are removed. (Printed by wip/gen_wald.py.) -/
import Derived.Test.YtbldfgpnghoigaaWalC
namespace Go.Proofs.Ytbldfgpnghoigaa
open Go.RowKit

/-- what Drop does -/
def dropW (pre : List UInt8) (n : Nat) : LDisk → List PFile → List Nat → Int × LDisk × List PFile × List Nat
  | d, ps, s :: t :: r => if t ≤ n then (if (removeP d ps (nameW pre s)).1 ≠ 0 then ((removeP d ps (nameW pre s)).1, (removeP d ps (nameW pre s)).2.1, (removeP d ps (nameW pre s)).2.2, s :: t :: r) else dropW pre n (removeP d ps (nameW pre s)).2.1 (removeP d ps (nameW pre s)).2.2 (t :: r)) else (0, d, ps, s :: t :: r)
  | d, ps, sg => (0, d, ps, sg)
def RetDrop (g : Nat) (F : Nat → Prop) (l : LLog) (r : Int × LDisk × List PFile × List Nat) (w : World) (en : Ending) (w' : World) : Prop :=
  en = .returned (.int .i64 r.1) ∧ LDTo g F l r.2.2.2 r.2.1 r.2.2.1 w w'
/-- how many segments the log's cell tells -/
def segLen (g : Nat) (w : World) : Nat := match w.cell? ⟨g, 3, none⟩ with | some (.slice _ n _) => n | _ => 0
theorem segLen_of {g : Nat} {w : World} {A : Option Addr} {n c : Nat} (h : w.cell? ⟨g, 3, none⟩ = some (.slice A n c)) : segLen g w = n := by unfold segLen; rw [h]
theorem SegAt.tail {w : World} {ad : Addr} {c s : Nat} {r : List Nat} (h : SegAt w (.slice (some ad) (s :: r).length c) (s :: r)) : SegAt w (.slice (some (ad.add 1)) r.length (c - 1)) r := by
  refine ⟨fun n hn => h.1 n (List.mem_cons_of_mem _ hn), ?_⟩
  rcases h.2 with ⟨h, _⟩ | ⟨g, k, cap, cur, e, hb, h1, h2, h3, h4⟩
  · cases h
  · injection e with e1 _ e3
    obtain rfl := Option.some.inj e1
    subst e3
    have h1' : r.length + 1 ≤ c := h1
    refine .inr ⟨g, k + 1, c - 1, cur, ?_, hb, by omega, by omega, by omega, fun i hi => ?_⟩
    · have : (⟨g, k, none⟩ : Addr).add 1 = ⟨g, k + 1, none⟩ := by unfold Addr.add; simp
      rw [this]
    · have h5 := h4 (i + 1) (by simp; omega)
      rw [show k + 1 + i = k + (i + 1) by omega]
      exact h5
section
variable {w w' : World} {g : Nat} {F : Nat → Prop} {l : LLog} {d : LDisk} {ps : List PFile} {ad : Addr} {c s : Nat} {r : List Nat}
theorem add_block (ad : Addr) (k : Nat) : (ad.add k).block = ad.block := block_of_add ad k
theorem LD.tail (hk : Blk w g 77 (logC (.slice (some ad) (s :: r).length c) l)) (hs : SegAt w (.slice (some ad) (s :: r).length c) (s :: r)) (hdd : DD w l.disk (fun x => F x ∨ x = g ∨ (Value.slice (some ad) (s :: r).length c).ownBlock = some x) d ps) (hF : ∀ x, F x → x ≠ g ∧ (Value.slice (some ad) (s :: r).length c).ownBlock ≠ some x) (hp : l.pre.length ≤ 1048576) :
    LDTo g F l r d ps w (w.setCell ⟨g, 3, none⟩ (.slice (some (ad.add 1)) r.length (c - 1))) := by
  have hs2 := hs.tail
  have hsg : (Value.slice (some ad) (s :: r).length c).ownBlock ≠ some g := fun e => by
    rcases hs.2 with ⟨e', _⟩ | ⟨g', k, cap, cur, e', hb, _⟩
    · cases e'
    · rw [e'] at e
      obtain rfl : g' = g := Option.some.inj e
      exact hk.ne_ hb (by decide) rfl
  have eo : (Value.slice (some (ad.add 1)) r.length (c - 1)).ownBlock = (Value.slice (some ad) (s :: r).length c).ownBlock := congrArg some (add_block ad 1)
  have hb : BlP (fun x => x ≠ g) w (w.setCell ⟨g, 3, none⟩ (.slice (some (ad.add 1)) r.length (c - 1))) := (BlP.refl _ _).setCell (fun h => h rfl) _
  have d3 := hdd.blp hb fun x _ hx => .inr (.inl (Classical.byContradiction hx))
  refine ⟨⟨some (ad.add 1), c - 1, hk.set_ 3 _, hs2.setCell (by rw [eo]; exact hsg) _, d3.mono fun x hx => ?_, fun x hx => by rw [eo]; exact hF x hx.1, hp⟩, ⟨hb.os, hb.tape, hb.output, hb.size, fun x hx hf => hb.block x hx (hF x hf).1⟩⟩
  rw [eo] at hx
  rcases hx with hx | hx
  · exact .inl (.inl hx.1)
  · exact .inl (.inr hx)
end
set_option maxRecDepth 100000 in
set_option maxHeartbeats 8000000 in
theorem drop_log (g : Nat) (F : Nat → Prop) (l : LLog) (sg : List Nat) (d : LDisk) (ps : List PFile) (w : World) (hd : LD w g F l sg d ps) (hp : PsOk ps) (hl : LdOk d) (hsl : sg.length ≤ 1048576) (n : Nat) :
    Calls Try.prog 30 #[.pointer (some ⟨g, 0, none⟩), .int .u64 (n : Int)] w (RetDrop g F l (dropW l.pre n d ps sg) w) := by
  obtain ⟨R, hR⟩ : ∃ R, R = dropW l.pre n d ps sg := ⟨_, rfl⟩
  rw [← hR]
  have HR := Lib.hid hR
  have HD := Lib.hid hd
  have HP := Lib.hid hp
  have HL := Lib.hid hl
  have HSL := Lib.hid hsl
  clear hR hd hp hl hsl
  go_enter Try.func30, Try.ntmps30
  go_wp2_with fail
  go_loopw [22] (fun _ wr => ∃ (sg' : List Nat) (d' : LDisk) (ps' : List PFile), Hid (R = dropW l.pre n d' ps' sg') ∧ Hid (PsOk ps') ∧ Hid (LdOk d') ∧ Hid (sg'.length ≤ 1048576) ∧ Hid (LDTo g F l sg' d' ps' w wr)) (fun _ wr => segLen g wr)
  case atStart => exact ⟨sg, d, ps, HR.out, HP.out, HL.out, HSL.out, ⟨HD.out.mono fun _ hx => hx.1, .refl _ _⟩⟩
  case round =>
    obtain ⟨sg', d1, ps1, HX, HP1, HL1, HSL1, HT⟩ := hrel
    clear HR HD HP HL HSL
    obtain ⟨A, c, hk1, hs1, hdd1, hF1, hpl⟩ := HT.out.1
    match sg', HX, HSL1, HT, A, hk1, hs1, hdd1, hF1 with
    | [], HX, HSL1, HT, A, hk1, hs1, hdd1, hF1 =>
      have c3 : wr.cell? ⟨g, 3, none⟩ = some (.slice A 0 c) := hk1.cell 3
      clear hk1 hs1 hdd1 hF1
      go_wp2_with fail
      go_ret
      rw [HX.out]
      exact ⟨rfl, HT.out⟩
    | [s], HX, HSL1, HT, A, hk1, hs1, hdd1, hF1 =>
      have c3 : wr.cell? ⟨g, 3, none⟩ = some (.slice A 1 c) := hk1.cell 3
      clear hk1 hs1 hdd1 hF1
      go_wp2_with fail
      go_ret
      rw [HX.out]
      exact ⟨rfl, HT.out⟩
    | s :: t :: r, HX, HSL1, HT, A, hk1, hs1, hdd1, hF1 =>
      obtain ⟨m, hm⟩ : ∃ m, m = (s :: t :: r).length := ⟨_, rfl⟩
      have hmr : m = r.length + 2 := hm
      have c3 : wr.cell? ⟨g, 3, none⟩ = some (.slice A m c) := by rw [hm]; exact hk1.cell 3
      obtain ⟨ad, rfl, hc0⟩ := hs1.at_ (i := 0) (by simp)
      obtain ⟨ad', e', hc1⟩ := hs1.at_ (i := 1) (by simp)
      obtain rfl := Option.some.inj e'
      replace hc1 : wr.cell? (ad.add 1) = some (.int .u64 (t : Int)) := hc1
      have hc1' : wr.cell? ⟨ad.block, ad.off + 1, none⟩ = some (.int .u64 (t : Int)) := by
        rw [← hc1]; unfold Addr.add; simp
      have m1 : (1 : Int) < (m : Int) := by omega
      have m0 : 0 < m := by omega
      have HLS : Hid (segLen g wr = m) := segLen_of c3
      have HM := Lib.hid hm
      have HMR := Lib.hid hmr
      have hst : s < 18446744073709551616 := hs1.1 s (by simp)
      clear hm hmr hc0 hc1 e'
      by_cases ht : t ≤ n
      · have hti : (t : Int) ≤ (n : Int) := Int.ofNat_le.2 ht
        have HX2 : Hid (R = if (removeP d1 ps1 (nameW l.pre s)).1 ≠ 0 then ((removeP d1 ps1 (nameW l.pre s)).1, (removeP d1 ps1 (nameW l.pre s)).2.1, (removeP d1 ps1 (nameW l.pre s)).2.2, s :: t :: r) else dropW l.pre n (removeP d1 ps1 (nameW l.pre s)).2.1 (removeP d1 ps1 (nameW l.pre s)).2.2 (t :: r)) := by
          show _ = _
          rw [HX.out]
          show (if t ≤ n then _ else _) = _
          rw [if_pos ht]
        clear HX ht
        obtain ⟨F0, hF0⟩ : ∃ F0 : Nat → Prop, F0 = fun x => (F x ∧ x < w.heap.size) ∨ x = g ∨ (Value.slice (some ad) (s :: t :: r).length c).ownBlock = some x := ⟨_, rfl⟩
        have hFg : F0 g := by rw [hF0]; exact .inr (.inl rfl)
        rw [← hF0] at hdd1
        have HLD := Lib.hid (fun (w3 w' : World) (d' : LDisk) (ps' : List PFile) (b : BlP F0 wr w3) (h : DDTo l.disk (fun x => F0 x ∨ wr.heap.size ≤ x) d' ps' w3 w') => show LDTo g F l (s :: t :: r) d' ps' w w' from HT.out.next' (by subst hF0; exact LD.dd hk1 hs1 hF1 hpl b h))
        have HBS := Lib.hid (fun (W : World) (hW : BlP F0 wr W) => show SegAt W (.slice (some ad) (s :: t :: r).length c) (s :: t :: r) from hs1.blp hW fun x e => by subst hF0; exact .inr (.inr e))
        have TN := Lib.hid (fun (W : World) (hW : BlP F0 wr W) => name_any g (.slice (some ad) (s :: t :: r).length c) l s hst W (hW.blk hk1 hFg) hpl)
        have TC := Lib.hid (fun (W : World) (hW : Below wr.heap.size wr W) => removeD_any (hdd1.below hW) HP1.out HL1.out (nameW l.pre s) (by rw [nameW_len]; omega))
        have HP2 := Lib.hid (PsOk.rm (d := d1) HP1.out (nameW l.pre s))
        have HL2 := Lib.hid (LdOk.rm HL1.out ps1 (nameW l.pre s))
        rw [← HM.out] at hk1
        clear hdd1 HP1 HL1 hs1 hF1 hF0
        go_upto_region 2 with fail
        have HCE : Hid (∀ W : World, BlP F0 wr W → W.cell? ad = some (.int .u64 (s : Int))) := fun W hW => by
          obtain ⟨ad', e, h⟩ := (HBS.out W hW).at_ (i := 0) (by simp)
          obtain rfl := Option.some.inj e
          have e2 : ad.add 0 = ad := by unfold Addr.add; simp
          rw [e2] at h
          exact h
        generalize hnm : nameW l.pre s = nm at *
        have HNM := Lib.hid hnm
        clear hnm
        have bd : Below wr.heap.size wr wr.drew := (Below.refl _ _).drew
        have kS : BlP F0 wr wr.drew := .of_below bd
        refine wp_region_noPanic ?_
        refine wp_region_held_drew (S := fun Y => BlP F0 wr Y) (by kernel_rfl) kS (fun hH => ?_)
        generalize wr.drew = w2 at *
        refine wpAnyH_take (i := 0) (v := ?_) rfl (by kernel_rfl) (by kernel_rfl) (by kernel_rfl) (fun _ _ _ h => h) (Or.inl ⟨by rfl, ?_⟩) hH ?_
        case refine_2 => intro w hSw; go_simp; try with_reducible rfl
        try simp only [Z1, Z2, Z4, Z5, Z6, Z7]
        refine wpAnyH_take (i := 1) (v := ?_) rfl (by kernel_rfl) (by kernel_rfl) (by kernel_rfl) (fun _ _ _ h => h) (Or.inl ⟨by rfl, ?_⟩) hH ?_
        case refine_2 => intro w hSw; go_simp; try with_reducible rfl
        try simp only [Z1, Z2, Z3, Z4, Z5, Z6, Z7]
        refine wpAnyH_take (i := 2) (v := ?_) rfl (by kernel_rfl) (by kernel_rfl) (by kernel_rfl) (fun _ _ _ h => h) (Or.inl ⟨by rfl, ?_⟩) hH ?_
        case refine_2 => intro w hSw; go_simp; try with_reducible rfl
        try simp only [Z1, Z2, Z3, Z4, Z5, Z6, Z7]
        refine wpAnyH_take (i := 3) (v := ?_) rfl (by kernel_rfl) (by kernel_rfl) (by kernel_rfl) (fun _ _ _ h => h) (Or.inl ⟨by rfl, ?_⟩) hH ?_
        case refine_2 => intro w hSw; go_simp; try with_reducible rfl
        try simp only [Z1, Z2, Z3, Z4, Z5, Z6, Z7]
        refine wpAnyH_take (i := 4) (v := ?_) rfl (by kernel_rfl) (by kernel_rfl) (by kernel_rfl) (fun _ _ _ h => h) (Or.inl ⟨by rfl, ?_⟩) hH ?_
        case refine_2 => intro w hSw; have h1 : Blk w g 77 (logC (.slice (some ad) m c) l) := hSw.blk hk1 hFg; have n0 : w.cell? ⟨_, 0, none⟩ = some (.pointer (some ⟨l.disk, 0, none⟩)) := Blk.cell h1 0; clear h1 hSw; go_simp; try with_reducible rfl
        try simp only [Z1, Z2, Z3, Z4, Z5, Z6, Z7]
        refine wpAnyH_take (i := 5) (v := ?_) rfl (by kernel_rfl) (by kernel_rfl) (by kernel_rfl) (fun _ _ _ h => h) (Or.inl ⟨by rfl, ?_⟩) hH ?_
        case refine_2 => intro w hSw; go_simp; try with_reducible rfl
        try simp only [Z1, Z2, Z3, Z4, Z5, Z6, Z7]
        refine wpAnyH_take (i := 6) (v := ?_) rfl (by kernel_rfl) (by kernel_rfl) (by kernel_rfl) (fun _ _ _ h => h) (Or.inl ⟨by rfl, ?_⟩) hH ?_
        case refine_2 => intro w hSw; go_simp; try with_reducible rfl
        try simp only [Z1, Z2, Z3, Z4, Z5, Z6, Z7]
        refine wpAnyH_take (i := 7) (v := ?_) rfl (by kernel_rfl) (by kernel_rfl) (by kernel_rfl) (fun _ _ _ h => h) (Or.inl ⟨by rfl, ?_⟩) hH ?_
        case refine_2 => intro w hSw; go_simp; try with_reducible rfl
        try simp only [Z1, Z2, Z3, Z4, Z5, Z6, Z7]
        refine wpAnyH_take (i := 8) (v := ?_) rfl (by kernel_rfl) (by kernel_rfl) (by kernel_rfl) (fun _ _ _ h => h) (Or.inl ⟨by rfl, ?_⟩) hH ?_
        case refine_2 => intro w hSw; go_simp; try with_reducible rfl
        try simp only [Z1, Z2, Z3, Z4, Z5, Z6, Z7]
        refine wpAnyH_take (i := 9) (v := ?_) rfl (by kernel_rfl) (by kernel_rfl) (by kernel_rfl) (fun _ _ _ h => h) (Or.inl ⟨by rfl, ?_⟩) hH ?_
        case refine_2 => intro w hSw; have h1 : Blk w g 77 (logC (.slice (some ad) m c) l) := hSw.blk hk1 hFg; have n3 : w.cell? ⟨_, 3, none⟩ = some (.slice (some ad) m c) := Blk.cell h1 3; clear h1 hSw; go_simp; try with_reducible rfl
        try simp only [Z1, Z2, Z3, Z4, Z5, Z6, Z7]
        refine wpAnyH_take (i := 10) (v := ?_) rfl (by kernel_rfl) (by kernel_rfl) (by kernel_rfl) (fun _ _ _ h => h) (Or.inl ⟨by rfl, ?_⟩) hH ?_
        case refine_2 => intro w hSw; go_simp; try with_reducible rfl
        try simp only [Z1, Z2, Z3, Z4, Z5, Z6, Z7]
        refine wpAnyH_take (i := 11) (v := ?_) rfl (by kernel_rfl) (by kernel_rfl) (by kernel_rfl) (fun _ _ _ h => h) (Or.inl ⟨by rfl, ?_⟩) hH ?_
        case refine_2 => intro w hSw; have h1 := HCE.out w hSw; clear hSw; go_simp; try with_reducible rfl
        try simp only [Z1, Z2, Z3, Z4, Z5, Z6, Z7]
        refine wpAnyH_ready (rs := [12]) (by kernel_rfl) (by simp) ?_
        refine AllReadyH.cons rfl (fun K hK => ?_) AllReadyH.nil
        go_simp
        refine (TN.out w2 kS).mono ?_
        rintro en w3 ⟨rfl, b3⟩
        have bd3 := below_step' bd b3
        have kS3 : BlP F0 wr w3 := .of_below bd3
        refine hK.out _ _ kS3 (fun hH => ?_)
        clear hK K
        try dsimp only
        try simp only [Z1, Z2, Z3, Z4, Z5, Z6, Z7]
        refine wpAnyH_ready (rs := [13]) (by kernel_rfl) (by simp) ?_
        refine AllReadyH.cons rfl (fun K hK => ?_) AllReadyH.nil
        go_simp
        refine (TC.out w3 bd3).mono ?_
        generalize removeP d1 ps1 nm = q at *
        obtain ⟨e2, d2, ps2⟩ := q
        rintro en w4 ⟨rfl, h4⟩
        have kS4 : BlP F0 wr w4 := kS3.trans ⟨h4.2.os, h4.2.tape, h4.2.output, h4.2.size, fun k hk hb => h4.2.block k hk (.inl hb)⟩
        have HT4 := Lib.hid (HLD.out w3 w4 d2 ps2 kS3 h4)
        clear h4
        refine hK.out _ _ kS4 (fun hH => ?_)
        clear hK K
        try dsimp only
        try simp only [Z1, Z2, Z3, Z4, Z5, Z6, Z7]
        refine wpAnyH_take (i := 14) (v := ?_) rfl (by kernel_rfl) (by kernel_rfl) (by kernel_rfl) (fun _ _ _ h => h) (Or.inl ⟨by rfl, ?_⟩) hH ?_
        case refine_2 => intro w hSw; go_simp; try with_reducible rfl
        try simp only [Z1, Z2, Z3, Z4, Z5, Z6, Z7]
        refine wpAnyH_done (by kernel_rfl) ?_ _
        refine NoPanic.normal ?_
        clear kS kS3 kS4 bd3 b3 bd hk1 HBS HCE TN TC HLD
        by_cases he : e2 = 0
        · subst he
          have HX3 : Hid (R = dropW l.pre n d2 ps2 (t :: r)) := by
            show _ = _
            rw [HX2.out, if_neg (by simp)]
          clear HX2
          obtain ⟨A4, c4, hk4, hs4, hdd4, hF4, _⟩ := HT4.out.1
          obtain ⟨ad4, rfl, _⟩ := hs4.at_ (i := 0) (by simp)
          have hc4 : 1 < c4 := by
            rcases hs4.2 with ⟨e, _⟩ | ⟨g', k', cap', cur', e, _, h1, _⟩
            · cases e
            · injection e with _ _ e3
              subst e3
              have h1' : r.length + 2 ≤ c4 := h1
              omega
          have HLT := Lib.hid (HT4.out.next' (LD.tail hk4 hs4 hdd4 hF4 hpl))
          have y3 : w4.cell? ⟨g, 3, none⟩ = some (.slice (some ad4) m c4) := by rw [HM.out]; exact hk4.cell 3
          have f3 : w4.frozen? ⟨g, 3, none⟩ = false := hk4.frozen 3
          have hl1 : r.length + 1 = m - 1 := by have := HMR.out; omega
          have HM1 := Lib.hid hl1
          have hcn : ¬ c4 = 1 := by omega
          have hcn2 : ¬ c4 - 1 = 0 := by omega
          have i1 : (1 : Int) ≤ (m : Int) := by omega
          clear hl1 hk4 hs4 hdd4 hF4
          have HSE : Hid (Value.slice (some (ad4.add 1)) (t :: r).length (c4 - 1) = .slice (some ⟨ad4.block, ad4.off + 1, none⟩) (m - 1) (c4 - 1)) := by
            show _ = _
            rw [← HM1.out]
            unfold Addr.add
            simp
          have HLT2 : Hid (LDTo g F l (t :: r) d2 ps2 w (w4.setCell ⟨g, 3, none⟩ (.slice (some ⟨ad4.block, ad4.off + 1, none⟩) (m - 1) (c4 - 1)))) := by
            rw [← HSE.out]
            exact HLT.out
          have HMS : Hid (segLen g (w4.setCell ⟨g, 3, none⟩ (.slice (some ⟨ad4.block, ad4.off + 1, none⟩) (m - 1) (c4 - 1))) < segLen g wr) := by
            obtain ⟨A5, c5, hk5, _⟩ := HLT2.out.1
            show _ < _
            rw [segLen_of (hk5.cell 3), HLS.out]
            show r.length + 1 < m
            rw [HMR.out]
            exact Nat.lt_succ_self _
          clear HLT HSE
          go_wp2_with fail
          go_roundw
          case rel => exact ⟨t :: r, d2, ps2, HX3.out, HP2.out, HL2.out, Nat.le_trans (Nat.le_succ _) HSL1.out, HLT2.out⟩
          case measure => exact HMS.out
        · have hb2 : (e2 != 0) = true := by rw [bne_iff_ne]; exact he
          have HE : Hid (R = (e2, d2, ps2, s :: t :: r)) := by
            show _ = _
            rw [HX2.out]
            dsimp only
            rw [if_pos he]
          clear HX2
          go_wp2_with fail
          go_ret
          rw [HE.out]
          exact ⟨rfl, HT4.out⟩
      · have hti : ¬ (t : Int) ≤ (n : Int) := fun h => ht (Int.ofNat_le.1 h)
        have HX2 : Hid (R = (0, d1, ps1, s :: t :: r)) := by
          show _ = _
          rw [HX.out]
          show (if t ≤ n then _ else _) = _
          rw [if_neg ht]
        clear HX ht hk1 hs1 hdd1 hF1
        go_wp2_with fail
        go_ret
        rw [HX2.out]
        exact ⟨rfl, HT.out⟩
end Go.Proofs.Ytbldfgpnghoigaa
