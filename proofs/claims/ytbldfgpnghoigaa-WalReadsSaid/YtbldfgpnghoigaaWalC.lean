/- A log's clean: segments are removed, one is cut. (Printed by wip/gen_walc.py.) -/
import Derived.Test.YtbldfgpnghoigaaWalM
import Derived.Test.YtbldfgpnghoigaaDskI
namespace Go.Proofs.Ytbldfgpnghoigaa
open Go.RowKit

theorem cutD_any {w : World} {b : Nat} {F : Nat → Prop} {d : LDisk} {ps : List PFile} (hd : DD w b F d ps) (hp : PsOk ps) (hl : LdOk d) (nm : List UInt8) (n : Int) (hn : nm.length ≤ 140737488355328) :
    Calls Try.prog 19 #[.pointer (some ⟨b, 0, none⟩), .string ⟨nm.toArray⟩, .int .i64 n] w (RetDD b F (cutP d ps nm n) w) := by
  obtain ⟨mv, S, fs, h1, rfl, h3⟩ := hd
  exact (cut_any d mv b fs S nm n w h1 hn (ok_len hp) hl.left).mono fun _ _ ⟨h4, h5⟩ => ⟨h4, h5.dd h3⟩
theorem sum_filter (f : PFile → Nat) (q : PFile → Bool) : ∀ ps : List PFile, ((ps.filter q).map f).sum ≤ (ps.map f).sum
  | [] => Nat.le_refl _
  | x :: r => by
    have := sum_filter f q r
    rw [List.filter_cons]
    split
    · simp only [List.map_cons, List.sum_cons]; omega
    · simp only [List.map_cons, List.sum_cons]; omega
theorem PsOk.del {ps : List PFile} (h : PsOk ps) (nm : List UInt8) : PsOk (delP ps nm) :=
  ⟨Nat.le_trans (List.length_filter_le _ _) h.len, Nat.le_trans (sum_filter _ _ _) h.used, fun q hq => h.names q (List.mem_filter.1 hq).1⟩
theorem LdOk.turn {d : LDisk} (h : LdOk d) (e : Int) : LdOk (turnL d e).2.2 := by
  unfold turnL
  split
  · exact h
  · split
    · exact h
    · split
      · exact ⟨h.room, h.left⟩
      · rename_i h2
        split
        · rename_i h3
          have h4 := h.left h3
          rw [h3, Bool.true_and, decide_eq_true_iff] at h2
          exact ⟨h.room, fun _ => ⟨by show 0 ≤ d.left - 1; omega, by show d.left - 1 ≤ _; omega⟩⟩
        · exact h
theorem PsOk.rm {d : LDisk} {ps : List PFile} (h : PsOk ps) (nm : List UInt8) : PsOk (removeP d ps nm).2.2 := by
  unfold removeP
  generalize (if hasP ps nm then (0 : Int) else 6) = e0
  dsimp only
  split
  · exact h.del nm
  · exact h
theorem LdOk.rm {d : LDisk} (h : LdOk d) (ps : List PFile) (nm : List UInt8) : LdOk (removeP d ps nm).2.1 := by
  unfold removeP
  generalize (if hasP ps nm then (0 : Int) else 6) = e0
  dsimp only
  split
  · exact h.turn _
  · exact h.turn _
/-- files are removed, one behind the other -/
def rmW : List (List UInt8) → LDisk → List PFile → Int × LDisk × List PFile
  | [], d, ps => (0, d, ps)
  | nm :: r, d, ps => if (removeP d ps nm).1 ≠ 0 then removeP d ps nm else rmW r (removeP d ps nm).2.1 (removeP d ps nm).2.2
def cleanW (pre : List UInt8) (all : List Nat) (i : Nat) (size : Int) (d : LDisk) (ps : List PFile) : Int × LDisk × List PFile :=
  let t := rmW ((all.drop (i + 1)).reverse.map (nameW pre)) d ps
  if t.1 ≠ 0 then t else cutP t.2.1 t.2.2 (nameW pre (all.getD i 0)) size
theorem rev_take (all : List Nat) (i k : Nat) (h1 : i < k) (h2 : k < all.length) : ((all.take (k + 1)).drop (i + 1)).reverse = all[k] :: ((all.take k).drop (i + 1)).reverse := by
  rw [List.take_succ_eq_append_getElem h2, List.drop_append_of_le_length (by rw [List.length_take]; omega), List.reverse_append]
  rfl
theorem SegE.at_ {w : World} {A : Option Addr} {S : Nat → Prop} {l : List Nat} (h : SlS SegE w S A l) {k : Nat} (hk : k < l.length) : ∃ ad, A = some ad ∧ w.cell? (ad.add k) = some (.int .u64 (l[k] : Int)) ∧ l[k] < 18446744073709551616 := by
  obtain ⟨ad, vs, rfl, _, ⟨rfl, h2⟩, h4, _, _⟩ := SlS.at_ h hk
  have h := h4 _ rfl
  rw [show k * SegE.size = k from Nat.mul_one k] at h
  exact ⟨ad, rfl, h, h2⟩
section
variable {w w' w1 w2 : World} {g : Nat} {F F' : Nat → Prop} {l l' : LLog} {sg sg' : List Nat} {d d' : LDisk} {ps ps' : List PFile}
theorem LDTo.next' {sg0 : List Nat} {l0 : LLog} {d0 : LDisk} {ps0 : List PFile} (h : LDTo g F l0 sg0 d0 ps0 w w1) (k : LDTo g (fun x => F x ∧ x < w.heap.size) l sg d ps w1 w2) : LDTo g F l sg d ps w w2 :=
  ⟨k.1.mono fun _ hx => ⟨hx, Nat.lt_of_lt_of_le hx.2 h.2.size⟩, ⟨k.2.os.trans h.2.os, k.2.tape.trans h.2.tape, k.2.output.trans h.2.output, Nat.le_trans h.2.size k.2.size, fun x hx hf => (k.2.block x (Nat.lt_of_lt_of_le hx h.2.size) ⟨hf, hx⟩).trans (h.2.block x hx hf)⟩⟩
end
set_option maxRecDepth 100000 in
set_option maxHeartbeats 8000000 in
theorem clean_log (g : Nat) (F : Nat → Prop) (l : LLog) (sg : List Nat) (d : LDisk) (ps : List PFile) (w : World) (hd : LD w g F l sg d ps) (hp : PsOk ps) (hl : LdOk d) (B : Option Addr) (all : List Nat) (bc : Nat) (S : Nat → Prop) (hb : SlS SegE w S B all) (hS : ∀ x, S x → x < w.heap.size → F x) (i : Nat) (hi : i < all.length) (hal : all.length ≤ 1048576) (size : Int) :
    Calls Try.prog 62 #[.pointer (some ⟨g, 0, none⟩), .slice B all.length bc, .int .i64 (i : Int), .int .i64 size] w (RetLD g F l sg (cleanW l.pre all i size d ps) w) := by
  obtain ⟨ad, rfl, _⟩ := SegE.at_ hb hi
  obtain ⟨R, hR⟩ : ∃ R, R = cleanW l.pre all i size d ps := ⟨_, rfl⟩
  rw [← hR]
  have HR := Lib.hid hR
  have HD := Lib.hid hd
  have HS := Lib.hid hS
  have HP := Lib.hid hp
  have HL := Lib.hid hl
  have HI := Lib.hid hi
  obtain ⟨m, hm⟩ : ∃ m, all.length = m + 1 := ⟨all.length - 1, by omega⟩
  have s1 : (all.length : Int) - 1 = (m : Int) := by omega
  have HM := Lib.hid hm
  clear hR hd hS hp hl hm
  go_enter Try.func62, Try.ntmps62
  go_wp2_with fail
  go_loopw [9, 10] (fun v9 _ wr => ∃ (k : Nat) (d' : LDisk) (ps' : List PFile), i ≤ k ∧ k < all.length ∧ v9 = .int .i64 (k : Int) ∧ Hid (rmW ((all.drop (i + 1)).reverse.map (nameW l.pre)) d ps = rmW (((all.take (k + 1)).drop (i + 1)).reverse.map (nameW l.pre)) d' ps') ∧ Hid (PsOk ps') ∧ Hid (LdOk d') ∧ Hid (LDTo g F l sg d' ps' w wr)) (fun v9 _ _ => (intOf v9).toNat)
  case atStart => exact ⟨m, d, ps, by omega, by omega, rfl, by show _ = _; rw [← HM.out, List.take_length], HP.out, HL.out, ⟨HD.out.mono fun _ hx => hx.1, .refl _ _⟩⟩
  case round =>
    obtain ⟨k, d1, ps1, hik, hk, rfl, HX, HP1, HL1, HT⟩ := hrel
    have hbr : SlS SegE wr S (some ad) all := (SlS.mono (S' := fun x => S x ∧ x < w.heap.size) hb (fun b h1 h2 => ⟨h2, h1⟩)).same (w' := wr) ⟨HT.out.2.size, fun b h1 h2 => HT.out.2.block b h2 (HS.out b h1.1 h1.2)⟩ |>.mono (fun b _ h => h.1)
    obtain ⟨A, c, hk1, hs1, hdd1, hF1, hpl⟩ := HT.out.1
    obtain ⟨F0, hF0⟩ : ∃ F0 : Nat → Prop, F0 = fun x => (F x ∧ x < w.heap.size) ∨ x = g ∨ (Value.slice A sg.length c).ownBlock = some x := ⟨_, rfl⟩
    have hFg : F0 g := by rw [hF0]; exact .inr (.inl rfl)
    rw [← hF0] at hdd1
    have hLD : ∀ (w3 w' : World) (d' : LDisk) (ps' : List PFile) (b : BlP F0 wr w3) (h : DDTo l.disk (fun x => F0 x ∨ wr.heap.size ≤ x) d' ps' w3 w'), LDTo g F l sg d' ps' w w' := fun w3 w' d' ps' b h => HT.out.next' (by subst hF0; exact LD.dd hk1 hs1 hF1 hpl b h)
    have HLD := Lib.hid hLD
    have hbF : ∀ (W : World), BlP F0 wr W → SlS SegE W S (some ad) all := fun W hW => (SlS.mono (S' := fun x => S x ∧ x < w.heap.size) hb (fun b h1 h2 => ⟨h2, h1⟩)).same (w' := wr) ⟨HT.out.2.size, fun b h1 h2 => HT.out.2.block b h2 (HS.out b h1.1 h1.2)⟩ |>.same (w' := W) ⟨hW.size, fun b h1 h2 => hW.block b h2 (by rw [hF0]; exact .inl ⟨HS.out b h1.1 h1.2, h1.2⟩)⟩ |>.mono (fun b _ h => h.1)
    have HBF := Lib.hid hbF
    have TN := Lib.hid (fun (n : Nat) (hn : n < 18446744073709551616) (W : World) (hW : BlP F0 wr W) => name_any g (.slice A sg.length c) l n hn W (hW.blk hk1 hFg) hpl)
    clear hLD hbF hs1 hF1 hF0
    by_cases hgt : i < k
    · have hgti : (i : Int) < (k : Int) := by omega
      have HN0 : Hid (all[k] < 18446744073709551616) := by
        obtain ⟨_, _, _, h⟩ := SegE.at_ hbr hk
        exact h
      have HX2 : Hid (rmW ((all.drop (i + 1)).reverse.map (nameW l.pre)) d ps = if (removeP d1 ps1 (nameW l.pre all[k])).1 ≠ 0 then removeP d1 ps1 (nameW l.pre all[k]) else rmW (((all.take k).drop (i + 1)).reverse.map (nameW l.pre)) (removeP d1 ps1 (nameW l.pre all[k])).2.1 (removeP d1 ps1 (nameW l.pre all[k])).2.2) := by
        show _ = _
        rw [HX.out, rev_take all i k hgt hk]
        rfl
      obtain ⟨n, hn⟩ : ∃ n, n = all[k] := ⟨_, rfl⟩
      rw [← hn] at HX2 HN0
      have HN := Lib.hid hn
      clear hn HX hbr
      have hn := HN0.out
      have TC := Lib.hid (fun (W : World) (hW : Below wr.heap.size wr W) => removeD_any (hdd1.below hW) HP1.out HL1.out (nameW l.pre n) (by rw [nameW_len]; omega))
      have HP2 := Lib.hid (PsOk.rm (d := d1) HP1.out (nameW l.pre n))
      have HL2 := Lib.hid (LdOk.rm HL1.out ps1 (nameW l.pre n))
      clear hdd1 HP1 HL1
      go_upto_region 4 with fail
      have HCE : Hid (∀ W : World, BlP F0 wr W → W.cell? (ad.add k) = some (.int .u64 (n : Int))) := fun W hW => by
        obtain ⟨ad', e, h, _⟩ := SegE.at_ (HBF.out W hW) hk
        obtain rfl := Option.some.inj e
        rw [HN.out]
        exact h
      have T2 := TN.out n hn
      have HT2 := Lib.hid T2
      clear T2 TN HBF
      generalize hnm : nameW l.pre n = nm at *
      have HNM := Lib.hid hnm
      clear hnm
      have bd : Below wr.heap.size wr wr.drew := (Below.refl _ _).drew
      have kS : BlP F0 wr wr.drew := .of_below bd
      refine wp_region_noPanic ?_
      refine wp_region_held_drew (S := fun Y => BlP F0 wr Y) (by kernel_rfl) kS (fun hH => ?_)
      generalize wr.drew = w2 at *
      refine wpAnyH_take (i := 0) (v := ?_) rfl (by kernel_rfl) (by kernel_rfl) (by kernel_rfl) (fun _ _ _ h => h) (Or.inl ⟨by rfl, ?_⟩) hH ?_
      case refine_2 => intro w hSw; go_simp; try with_reducible rfl
      try simp only [Z1, Z2, Z4, Z5, Z6, Z7]
      refine wpAnyH_take (i := 1) (v := ?_) rfl (by kernel_rfl) (by kernel_rfl) (by kernel_rfl) (fun _ _ _ h => h) (Or.inl ⟨by rfl, ?_⟩) hH ?_
      case refine_2 => intro w hSw; go_simp; try with_reducible rfl
      try simp only [Z1, Z2, Z3, Z4, Z5, Z6, Z7]
      refine wpAnyH_take (i := 2) (v := ?_) rfl (by kernel_rfl) (by kernel_rfl) (by kernel_rfl) (fun _ _ _ h => h) (Or.inl ⟨by rfl, ?_⟩) hH ?_
      case refine_2 => intro w hSw; go_simp; try with_reducible rfl
      try simp only [Z1, Z2, Z3, Z4, Z5, Z6, Z7]
      refine wpAnyH_take (i := 3) (v := ?_) rfl (by kernel_rfl) (by kernel_rfl) (by kernel_rfl) (fun _ _ _ h => h) (Or.inl ⟨by rfl, ?_⟩) hH ?_
      case refine_2 => intro w hSw; go_simp; try with_reducible rfl
      try simp only [Z1, Z2, Z3, Z4, Z5, Z6, Z7]
      refine wpAnyH_take (i := 4) (v := ?_) rfl (by kernel_rfl) (by kernel_rfl) (by kernel_rfl) (fun _ _ _ h => h) (Or.inl ⟨by rfl, ?_⟩) hH ?_
      case refine_2 => intro w hSw; have h1 : Blk w g 77 (logC (.slice A sg.length c) l) := hSw.blk hk1 hFg; have n0 : w.cell? ⟨_, 0, none⟩ = some (.pointer (some ⟨l.disk, 0, none⟩)) := Blk.cell h1 0; clear h1 hSw; go_simp; try with_reducible rfl
      try simp only [Z1, Z2, Z3, Z4, Z5, Z6, Z7]
      refine wpAnyH_take (i := 5) (v := ?_) rfl (by kernel_rfl) (by kernel_rfl) (by kernel_rfl) (fun _ _ _ h => h) (Or.inl ⟨by rfl, ?_⟩) hH ?_
      case refine_2 => intro w hSw; go_simp; try with_reducible rfl
      try simp only [Z1, Z2, Z3, Z4, Z5, Z6, Z7]
      refine wpAnyH_take (i := 6) (v := ?_) rfl (by kernel_rfl) (by kernel_rfl) (by kernel_rfl) (fun _ _ _ h => h) (Or.inl ⟨by rfl, ?_⟩) hH ?_
      case refine_2 => intro w hSw; go_simp; try with_reducible rfl
      try simp only [Z1, Z2, Z3, Z4, Z5, Z6, Z7]
      refine wpAnyH_take (i := 7) (v := ?_) rfl (by kernel_rfl) (by kernel_rfl) (by kernel_rfl) (fun _ _ _ h => h) (Or.inl ⟨by rfl, ?_⟩) hH ?_
      case refine_2 => intro w hSw; go_simp; try with_reducible rfl
      try simp only [Z1, Z2, Z3, Z4, Z5, Z6, Z7]
      refine wpAnyH_take (i := 8) (v := ?_) rfl (by kernel_rfl) (by kernel_rfl) (by kernel_rfl) (fun _ _ _ h => h) (Or.inl ⟨by rfl, ?_⟩) hH ?_
      case refine_2 => intro w hSw; go_simp; try with_reducible rfl
      try simp only [Z1, Z2, Z3, Z4, Z5, Z6, Z7]
      refine wpAnyH_take (i := 9) (v := ?_) rfl (by kernel_rfl) (by kernel_rfl) (by kernel_rfl) (fun _ _ _ h => h) (Or.inl ⟨by rfl, ?_⟩) hH ?_
      case refine_2 => intro w hSw; have h1 := HCE.out w hSw; clear hSw; go_simp; try with_reducible rfl
      try simp only [Z1, Z2, Z3, Z4, Z5, Z6, Z7]
      refine wpAnyH_ready (rs := [10]) (by kernel_rfl) (by simp) ?_
      refine AllReadyH.cons rfl (fun K hK => ?_) AllReadyH.nil
      go_simp
      refine (HT2.out w2 kS).mono ?_
      rintro en w3 ⟨rfl, b3⟩
      have bd3 := below_step' bd b3
      have kS3 : BlP F0 wr w3 := .of_below bd3
      refine hK.out _ _ kS3 (fun hH => ?_)
      clear hK K
      try dsimp only
      try simp only [Z1, Z2, Z3, Z4, Z5, Z6, Z7]
      refine wpAnyH_ready (rs := [11]) (by kernel_rfl) (by simp) ?_
      refine AllReadyH.cons rfl (fun K hK => ?_) AllReadyH.nil
      go_simp
      refine (TC.out w3 bd3).mono ?_
      generalize removeP d1 ps1 nm = r at *
      obtain ⟨e2, d2, ps2⟩ := r
      rintro en w4 ⟨rfl, h4⟩
      have kS4 : BlP F0 wr w4 := kS3.trans ⟨h4.2.os, h4.2.tape, h4.2.output, h4.2.size, fun k hk hb => h4.2.block k hk (.inl hb)⟩
      have HT4 := Lib.hid (HLD.out w3 w4 d2 ps2 kS3 h4)
      clear h4
      refine hK.out _ _ kS4 (fun hH => ?_)
      clear hK K
      try dsimp only
      try simp only [Z1, Z2, Z3, Z4, Z5, Z6, Z7]
      refine wpAnyH_take (i := 12) (v := ?_) rfl (by kernel_rfl) (by kernel_rfl) (by kernel_rfl) (fun _ _ _ h => h) (Or.inl ⟨by rfl, ?_⟩) hH ?_
      case refine_2 => intro w hSw; go_simp; try with_reducible rfl
      try simp only [Z1, Z2, Z3, Z4, Z5, Z6, Z7]
      refine wpAnyH_done (by kernel_rfl) ?_ _
      refine NoPanic.normal ?_
      clear kS kS3 kS4 bd3 b3 bd
      by_cases he : e2 = 0
      · subst he
        have v1 : (k : Int) - 1 = ((k - 1 : Nat) : Int) := by omega
        have HX3 : Hid (rmW ((all.drop (i + 1)).reverse.map (nameW l.pre)) d ps = rmW (((all.take (k - 1 + 1)).drop (i + 1)).reverse.map (nameW l.pre)) d2 ps2) := by
          show _ = _
          rw [HX2.out, if_neg (by simp), show k - 1 + 1 = k by omega]
        clear HX2
        go_wp2_with fail
        go_roundw
        case rel => exact ⟨k - 1, d2, ps2, by omega, by omega, rfl, HX3.out, HP2.out, HL2.out, HT4.out⟩
        case measure => simp [intOf]; omega
      · have hb2 : (e2 != 0) = true := by rw [bne_iff_ne]; exact he
        have HE : Hid (R = (e2, d2, ps2)) := by
          show _ = _
          rw [HR.out]
          unfold cleanW
          rw [HX2.out, if_pos he]
          dsimp only
          rw [if_pos he]
        clear HX2
        go_wp2_with fail
        go_ret
        rw [HE.out]
        exact ⟨rfl, HT4.out⟩
    · obtain rfl : k = i := by omega
      have hgti : ¬ (k : Int) < (k : Int) := by omega
      have hki : (k : Int) < (all.length : Int) := by omega
      have HN0 : Hid (all[k] < 18446744073709551616) := by
        obtain ⟨_, _, _, h⟩ := SegE.at_ hbr hk
        exact h
      have HX2 : Hid (R = cutP d1 ps1 (nameW l.pre all[k]) size) := by
        show _ = _
        rw [HR.out]
        unfold cleanW
        rw [HX.out, List.drop_eq_nil_of_le (by rw [List.length_take]; omega), List.getD_eq_getElem?_getD, List.getElem?_eq_getElem hk]
        rfl
      obtain ⟨n, hn⟩ : ∃ n, n = all[k] := ⟨_, rfl⟩
      rw [← hn] at HX2 HN0
      have HN := Lib.hid hn
      clear hn HX hbr HR
      have hn := HN0.out
      have TC := Lib.hid (fun (W : World) (hW : Below wr.heap.size wr W) => cutD_any (hdd1.below hW) HP1.out HL1.out (nameW l.pre n) size (by rw [nameW_len]; omega))
      clear hdd1 HP1 HL1
      go_upto_region 7 with fail
      have HCE : Hid (∀ W : World, BlP F0 wr W → W.cell? (ad.add k) = some (.int .u64 (n : Int))) := fun W hW => by
        obtain ⟨ad', e, h, _⟩ := SegE.at_ (HBF.out W hW) hk
        obtain rfl := Option.some.inj e
        rw [HN.out]
        exact h
      have T2 := TN.out n hn
      have HT2 := Lib.hid T2
      clear T2 TN HBF
      generalize hnm : nameW l.pre n = nm at *
      have HNM := Lib.hid hnm
      clear hnm
      have bd : Below wr.heap.size wr wr.drew := (Below.refl _ _).drew
      have kS : BlP F0 wr wr.drew := .of_below bd
      refine wp_region_noPanic ?_
      refine wp_region_held_drew (S := fun Y => BlP F0 wr Y) (by kernel_rfl) kS (fun hH => ?_)
      generalize wr.drew = w2 at *
      refine wpAnyH_take (i := 0) (v := ?_) rfl (by kernel_rfl) (by kernel_rfl) (by kernel_rfl) (fun _ _ _ h => h) (Or.inl ⟨by rfl, ?_⟩) hH ?_
      case refine_2 => intro w hSw; go_simp; try with_reducible rfl
      try simp only [Z1, Z2, Z4, Z5, Z6, Z7]
      refine wpAnyH_take (i := 1) (v := ?_) rfl (by kernel_rfl) (by kernel_rfl) (by kernel_rfl) (fun _ _ _ h => h) (Or.inl ⟨by rfl, ?_⟩) hH ?_
      case refine_2 => intro w hSw; go_simp; try with_reducible rfl
      try simp only [Z1, Z2, Z3, Z4, Z5, Z6, Z7]
      refine wpAnyH_take (i := 2) (v := ?_) rfl (by kernel_rfl) (by kernel_rfl) (by kernel_rfl) (fun _ _ _ h => h) (Or.inl ⟨by rfl, ?_⟩) hH ?_
      case refine_2 => intro w hSw; go_simp; try with_reducible rfl
      try simp only [Z1, Z2, Z3, Z4, Z5, Z6, Z7]
      refine wpAnyH_take (i := 3) (v := ?_) rfl (by kernel_rfl) (by kernel_rfl) (by kernel_rfl) (fun _ _ _ h => h) (Or.inl ⟨by rfl, ?_⟩) hH ?_
      case refine_2 => intro w hSw; go_simp; try with_reducible rfl
      try simp only [Z1, Z2, Z3, Z4, Z5, Z6, Z7]
      refine wpAnyH_take (i := 4) (v := ?_) rfl (by kernel_rfl) (by kernel_rfl) (by kernel_rfl) (fun _ _ _ h => h) (Or.inl ⟨by rfl, ?_⟩) hH ?_
      case refine_2 => intro w hSw; have h1 : Blk w g 77 (logC (.slice A sg.length c) l) := hSw.blk hk1 hFg; have n0 : w.cell? ⟨_, 0, none⟩ = some (.pointer (some ⟨l.disk, 0, none⟩)) := Blk.cell h1 0; clear h1 hSw; go_simp; try with_reducible rfl
      try simp only [Z1, Z2, Z3, Z4, Z5, Z6, Z7]
      refine wpAnyH_take (i := 5) (v := ?_) rfl (by kernel_rfl) (by kernel_rfl) (by kernel_rfl) (fun _ _ _ h => h) (Or.inl ⟨by rfl, ?_⟩) hH ?_
      case refine_2 => intro w hSw; go_simp; try with_reducible rfl
      try simp only [Z1, Z2, Z3, Z4, Z5, Z6, Z7]
      refine wpAnyH_take (i := 6) (v := ?_) rfl (by kernel_rfl) (by kernel_rfl) (by kernel_rfl) (fun _ _ _ h => h) (Or.inl ⟨by rfl, ?_⟩) hH ?_
      case refine_2 => intro w hSw; go_simp; try with_reducible rfl
      try simp only [Z1, Z2, Z3, Z4, Z5, Z6, Z7]
      refine wpAnyH_take (i := 7) (v := ?_) rfl (by kernel_rfl) (by kernel_rfl) (by kernel_rfl) (fun _ _ _ h => h) (Or.inl ⟨by rfl, ?_⟩) hH ?_
      case refine_2 => intro w hSw; go_simp; try with_reducible rfl
      try simp only [Z1, Z2, Z3, Z4, Z5, Z6, Z7]
      refine wpAnyH_take (i := 8) (v := ?_) rfl (by kernel_rfl) (by kernel_rfl) (by kernel_rfl) (fun _ _ _ h => h) (Or.inl ⟨by rfl, ?_⟩) hH ?_
      case refine_2 => intro w hSw; go_simp; try with_reducible rfl
      try simp only [Z1, Z2, Z3, Z4, Z5, Z6, Z7]
      refine wpAnyH_take (i := 9) (v := ?_) rfl (by kernel_rfl) (by kernel_rfl) (by kernel_rfl) (fun _ _ _ h => h) (Or.inl ⟨by rfl, ?_⟩) hH ?_
      case refine_2 => intro w hSw; have h1 := HCE.out w hSw; clear hSw; go_simp; try with_reducible rfl
      try simp only [Z1, Z2, Z3, Z4, Z5, Z6, Z7]
      refine wpAnyH_take (i := 11) (v := ?_) rfl (by kernel_rfl) (by kernel_rfl) (by kernel_rfl) (fun _ _ _ h => h) (Or.inl ⟨by rfl, ?_⟩) hH ?_
      case refine_2 => intro w hSw; go_simp; try with_reducible rfl
      try simp only [Z1, Z2, Z3, Z4, Z5, Z6, Z7]
      refine wpAnyH_ready (rs := [10]) (by kernel_rfl) (by simp) ?_
      refine AllReadyH.cons rfl (fun K hK => ?_) AllReadyH.nil
      go_simp
      refine (HT2.out w2 kS).mono ?_
      rintro en w3 ⟨rfl, b3⟩
      have bd3 := below_step' bd b3
      have kS3 : BlP F0 wr w3 := .of_below bd3
      refine hK.out _ _ kS3 (fun hH => ?_)
      clear hK K
      try dsimp only
      try simp only [Z1, Z2, Z3, Z4, Z5, Z6, Z7]
      refine wpAnyH_ready (rs := [12]) (by kernel_rfl) (by simp) ?_
      refine AllReadyH.cons rfl (fun K hK => ?_) AllReadyH.nil
      go_simp
      refine (TC.out w3 bd3).mono ?_
      generalize cutP d1 ps1 nm size = r at *
      obtain ⟨e2, d2, ps2⟩ := r
      rintro en w4 ⟨rfl, h4⟩
      have kS4 : BlP F0 wr w4 := kS3.trans ⟨h4.2.os, h4.2.tape, h4.2.output, h4.2.size, fun k hk hb => h4.2.block k hk (.inl hb)⟩
      have HT4 := Lib.hid (HLD.out w3 w4 d2 ps2 kS3 h4)
      clear h4
      refine hK.out _ _ kS4 (fun hH => ?_)
      clear hK K
      try dsimp only
      try simp only [Z1, Z2, Z3, Z4, Z5, Z6, Z7]
      refine wpAnyH_take (i := 13) (v := ?_) rfl (by kernel_rfl) (by kernel_rfl) (by kernel_rfl) (fun _ _ _ h => h) (Or.inl ⟨by rfl, ?_⟩) hH ?_
      case refine_2 => intro w hSw; go_simp; try with_reducible rfl
      try simp only [Z1, Z2, Z3, Z4, Z5, Z6, Z7]
      refine wpAnyH_done (by kernel_rfl) ?_ _
      refine NoPanic.normal ?_
      clear kS kS3 kS4 bd3 b3 bd
      go_wp2_with fail
      go_ret
      rw [HX2.out]
      exact ⟨rfl, HT4.out⟩
end Go.Proofs.Ytbldfgpnghoigaa
