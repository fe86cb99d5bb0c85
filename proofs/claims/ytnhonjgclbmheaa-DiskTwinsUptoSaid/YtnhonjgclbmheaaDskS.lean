/- Does a disk look like the document's: the law's same. (Printed by wip/gen_same.py.) -/
import Derived.Test.YtnhonjgclbmheaaDskO
namespace Go.Proofs.Ytnhonjgclbmheaa
open Go.RowKit

theorem own_apart {v v' : Value} {x : Nat} (h1 : ∀ g, v.ownBlock = some g → x ≤ g) (h2 : ∀ g, v'.ownBlock = some g → g < x) : v.ownBlock = none ∨ v.ownBlock ≠ v'.ownBlock := by
  cases h : v.ownBlock with
  | none => exact .inl rfl
  | some g => exact .inr fun e => by have h3 := h1 g h; have h4 := h2 g e.symm; omega
def RetSame (w : World) (en : Ending) (w' : World) : Prop := en = .returned (.bool true) ∧ Below w.heap.size w w'
theorem deadD_any {w : World} {b : Nat} {F : Nat → Prop} {d : LDisk} {ps : List PFile} (hd : DD w b F d ps) :
    Calls Try.prog 41 #[.pointer (some ⟨b, 0, none⟩)] w (fun en w' => en = .returned (.bool d.dead) ∧ Below w.heap.size w w') := by
  obtain ⟨mv, S, fs, h1, h2, h3⟩ := hd
  have c4 : w.cell? ⟨b, 4, none⟩ = some (.bool d.dead) := h1.1.cell 4
  clear h1 h2 h3
  go_enter Try.func41, Try.ntmps41
  go_wp2_with fail
  go_ret
  exact ⟨rfl, Below.refl _ _⟩
set_option maxRecDepth 100000 in
set_option maxHeartbeats 8000000 in
theorem same_any (b : Nat) (F M : Nat → Prop) (d : LDisk) (ps : List PFile) (A : Option Addr) (c : Nat) (W : LRD) (nm p : List UInt8) (w : World)
    (hd : DD w b F d ps) (hW : SlS RFE w M A W.files) (hR : Rel d ps W) (hok : PsOk ps) (hn : nm.length ≤ 1048576) (hp : p.length ≤ 1048576)
    (hfl : W.files.length ≤ 1048575) (hus : usedR W.files ≤ 35184372088832) :
    Calls Try.prog 20 #[.pointer (some ⟨b, 0, none⟩), rv A c W, .string ⟨nm.toArray⟩, .string ⟨p.toArray⟩] w (RetSame w) := by
  have hnm1 : nm.length ≤ 140737488355328 := by omega
  have hpm1 : p.length ≤ 140737488355328 := by omega
  have hgl := getR_le W.files nm
  have hread := hR.read nm
  have hlist := hR.list p
  have hused := hR.used
  have hdead := hR.dead
  obtain ⟨⟨l, e⟩, hle⟩ : ∃ r, r = readR W nm := ⟨_, rfl⟩
  obtain ⟨ns, hns⟩ : ∃ r, r = listR W p := ⟨_, rfl⟩
  have hlb : l.length ≤ 70368744177664 := by
    have e1 : l = (readR W nm).1 := by rw [← hle]
    rw [e1]; unfold readR
    split
    · exact Nat.zero_le _
    · split
      · show ((getR W.files nm).1.safe ++ (getR W.files nm).1.tail).length ≤ _; rw [List.length_append]; omega
      · exact Nat.zero_le _
  have hnl : ns.length ≤ 1048575 := by
    rw [hns]; unfold listR
    split
    · exact Nat.zero_le _
    · have h1 := List.length_filter_le (p.isPrefixOf ·) (W.files.map LRF.name)
      rw [List.length_map] at h1; omega
  have HNS := Lib.hid hns
  have HLE := Lib.hid hle
  clear hns hle
  go_enter Try.func20, Try.ntmps20
  have dA : Below w.heap.size w (w.alloc (.cells (rcs A c W) 45)) := (Below.refl _ _).alloc (Nat.le_refl _) _
  have kA := Blk.new w 45 (rcs A c W)
  have T := readD_any (hd.below dA) nm hnm1
  rw [hread, ← HLE.out] at T
  go_upto_region 1 with fail
  change Code.wp _ _ _ _ (w.alloc (.cells (rcs A c W) 45))
  generalize w.alloc (.cells (rcs A c W) 45) = w1 at *
  go_wp2_with fail
  refine T.mono ?_
  clear T
  show ∀ (en : Ending) (w' : World), RetRead (l, e) w1 en w' → _
  rintro en w2 ⟨P, pc, rfl, oP, b2⟩
  replace oP : OwnB w1.heap.size w2 P l pc := oP
  have b02 := below_step dA b2
  have s1 := dA.size
  have T := rread_any A c W M nm w2 (hW.below b02) hnm1 (by omega) (by omega)
  rw [← HLE.out] at T
  have kA2 := kA.below b2 kA.lt
  dsimp only
  go_wp2_with ((with_reducible refine wpList_load_blk rfl 45 (.tmp 5) rfl w.heap.size ?_ 45 _ _ kA2 Try.underlying45 ?_ Try.size_RD ?_ ?_); rfl; rfl; rfl)
  refine T.mono ?_
  clear T
  show ∀ (en : Ending) (w' : World), RetRead (l, e) w2 en w' → _
  rintro en w3 ⟨Q, qc, rfl, oQ, b3⟩
  replace oQ : OwnB w2.heap.size w3 Q l qc := oQ
  have b03 := below_step b02 b3
  have kA3 := kA2.below b3 kA2.lt
  have oP3 := OwnB.below oP b3
  have hPb : ∀ g, (Value.slice P l.length pc).ownBlock = some g → w1.heap.size ≤ g ∧ g < w3.heap.size := fun g hg => ⟨(OwnB.lt oP g hg).1, Nat.lt_of_lt_of_le (OwnB.lt oP g hg).2 b3.size⟩
  clear dA kA kA2 b2 b3 oP b02
  dsimp only
  have d3 := hd.below b03
  have h3 := hW.below b03
  clear hd hW
  go_upto_region 3 with fail
  refine wp_region_noPanic ?_
  refine wp_region_held_drew (S := fun Y => Below w3.heap.size w3 Y) (by kernel_rfl) ((Below.refl _ _).drew) (fun hH => ?_)
  refine wpAnyH_take (i := 0) (v := ?_) rfl (by kernel_rfl) (by kernel_rfl) (by kernel_rfl) (fun _ _ _ h => h) (Or.inl ⟨by rfl, ?_⟩) hH ?_
  case refine_2 => intro w hSw; go_simp; try with_reducible rfl
  try simp only [List.getElem_toArray, List.getElem_cons_zero, Act.put, List.setIfInBounds_toArray, List.set_cons_zero, List.set_cons_succ]
  refine wpAnyH_take (i := 1) (v := ?_) rfl (by kernel_rfl) (by kernel_rfl) (by kernel_rfl) (fun _ _ _ h => h) (Or.inl ⟨by rfl, ?_⟩) hH ?_
  case refine_2 => intro w hSw; go_simp; try with_reducible rfl
  try simp only [List.getElem_toArray, List.getElem_cons_zero, List.getElem_cons_succ, Act.put, List.setIfInBounds_toArray, List.set_cons_zero, List.set_cons_succ]
  refine wpAnyH_take (i := 3) (v := ?_) rfl (by kernel_rfl) (by kernel_rfl) (by kernel_rfl) (fun _ _ _ h => h) (Or.inl ⟨by rfl, ?_⟩) hH ?_
  case refine_2 => intro w hSw; have hS2 : Below w3.heap.size w3 w := hSw; have k2 := kA3.below hS2 kA3.lt; have s0 : w.cell? ⟨_, 0, none⟩ = some (.slice A W.files.length c) := Blk.cell k2 0; have s1 : w.cell? ⟨_, 1, none⟩ = some (.int .i64 W.room) := Blk.cell k2 1; have s2 : w.cell? ⟨_, 2, none⟩ = some (.int .i64 W.armed) := Blk.cell k2 2; have s3 : w.cell? ⟨_, 3, none⟩ = some (.bool W.dead) := Blk.cell k2 3; clear k2 hS2 hSw; go_simp; try with_reducible rfl
  try simp only [List.getElem_toArray, List.getElem_cons_zero, List.getElem_cons_succ, Act.put, List.setIfInBounds_toArray, List.set_cons_zero, List.set_cons_succ]
  refine wpAnyH_take (i := 4) (v := ?_) rfl (by kernel_rfl) (by kernel_rfl) (by kernel_rfl) (fun _ _ _ h => h) (Or.inl ⟨by rfl, ?_⟩) hH ?_
  case refine_2 => intro w hSw; go_simp; try with_reducible rfl
  try simp only [List.getElem_toArray, List.getElem_cons_zero, List.getElem_cons_succ, Act.put, List.setIfInBounds_toArray, List.set_cons_zero, List.set_cons_succ]
  refine wpAnyH_ready (rs := [2]) (by kernel_rfl) (by simp) ?_
  refine AllReadyH.cons rfl (fun K hK => ?_) AllReadyH.nil
  go_simp
  have hb : Below w3.heap.size w3 w3.drew := hH
  have TL := listD_any (d3.below hb) hok p hpm1
  rw [hlist, ← HNS.out] at TL
  refine TL.mono ?_
  clear TL
  show ∀ (en : Ending) (w' : World), RetN ns w3.drew en w' → _
  rintro en w4 ⟨N1, n1, rfl, o1, b4⟩
  replace b4 := below_step hb b4
  have o1 : w4.ownsRow w3.heap.size 9 1 (.slice N1 ns.length n1) ns.length (ns.map encStr) := o1
  clear hb hH
  refine hK.out _ _ b4 (fun hH => ?_)
  clear hK K
  try dsimp only
  try simp only [List.getElem_toArray, List.getElem_cons_zero, List.getElem_cons_succ, Act.put, List.setIfInBounds_toArray, List.set_cons_zero, List.set_cons_succ]
  refine wpAnyH_ready (rs := [5]) (by kernel_rfl) (by simp) ?_
  refine AllReadyH.cons rfl (fun K hK => ?_) AllReadyH.nil
  go_simp
  have TL := rlist_any A c W M p w4 (h3.below b4) (by omega)
  rw [← HNS.out] at TL
  refine TL.mono ?_
  clear TL
  show ∀ (en : Ending) (w' : World), RetN ns w4 en w' → _
  rintro en w5 ⟨N2, n2, rfl, o2, b5⟩
  have b45 := b5
  replace b5 := below_step b4 b5
  clear hH
  refine hK.out _ _ b5 (fun hH => ?_)
  clear hK K
  try dsimp only
  try simp only [List.getElem_toArray, List.getElem_cons_zero, List.getElem_cons_succ, Act.put, List.setIfInBounds_toArray, List.set_cons_zero, List.set_cons_succ]
  refine wpAnyH_take (i := 6) (v := ?_) rfl (by kernel_rfl) (by kernel_rfl) (by kernel_rfl) (fun _ _ _ h => h) (Or.inl ⟨by rfl, ?_⟩) hH ?_
  case refine_2 => intro w hSw; go_simp; try with_reducible rfl
  try simp only [List.getElem_toArray, List.getElem_cons_zero, List.getElem_cons_succ, Act.put, List.setIfInBounds_toArray, List.set_cons_zero, List.set_cons_succ]
  refine wpAnyH_take (i := 7) (v := ?_) rfl (by kernel_rfl) (by kernel_rfl) (by kernel_rfl) (fun _ _ _ h => h) (Or.inl ⟨by rfl, ?_⟩) hH ?_
  case refine_2 => intro w hSw; go_simp; try with_reducible rfl
  try simp only [List.getElem_toArray, List.getElem_cons_zero, List.getElem_cons_succ, Act.put, List.setIfInBounds_toArray, List.set_cons_zero, List.set_cons_succ]
  refine wpAnyH_done (by kernel_rfl) ?_ _
  refine NoPanic.normal ?_
  have o15 := own_below o1 b45
  have b05 := below_step b03 b5
  have d5 := d3.below b5
  have h5 := h3.below b5
  have kA5 := kA3.below b5 kA3.lt
  have oP5 := OwnB.below oP3 b5
  have oQ5 := OwnB.below oQ b5
  have s3 := b03.size
  have s34 := b4.size
  have s5 := b5.size
  clear hH b4 b45 o1 kA3 oP3 oQ d3 h3 b5
  go_upto_region 4 with fail
  refine wp_region_noPanic ?_
  refine wp_region_held_drew (S := fun Y => Below w5.heap.size w5 Y) (by kernel_rfl) ((Below.refl _ _).drew) (fun hH => ?_)
  refine wpAnyH_take (i := 0) (v := ?_) rfl (by kernel_rfl) (by kernel_rfl) (by kernel_rfl) (fun _ _ _ h => h) (Or.inl ⟨by rfl, ?_⟩) hH ?_
  case refine_2 => intro w hSw; go_simp; try with_reducible rfl
  try simp only [List.getElem_toArray, List.getElem_cons_zero, Act.put, List.setIfInBounds_toArray, List.set_cons_zero, List.set_cons_succ]
  refine wpAnyH_take (i := 1) (v := ?_) rfl (by kernel_rfl) (by kernel_rfl) (by kernel_rfl) (fun _ _ _ h => h) (Or.inl ⟨by rfl, ?_⟩) hH ?_
  case refine_2 => intro w hSw; go_simp; try with_reducible rfl
  try simp only [List.getElem_toArray, List.getElem_cons_zero, List.getElem_cons_succ, Act.put, List.setIfInBounds_toArray, List.set_cons_zero, List.set_cons_succ]
  refine wpAnyH_ready (rs := [2]) (by kernel_rfl) (by simp) ?_
  refine AllReadyH.cons rfl (fun K hK => ?_) AllReadyH.nil
  go_simp
  have hb : Below w5.heap.size w5 w5.drew := hH
  refine (equal_any P Q l l pc qc w5.drew (OwnB.bs (OwnB.below oP5 hb) (by omega)) (OwnB.bs (OwnB.below oQ5 hb) (by omega))).mono ?_
  rintro en w6 ⟨rfl, q6, hq⟩
  rw [beq_self_eq_true]
  replace hb : Below w5.heap.size w5 w6 := by rw [hq]; exact ⟨hb.os, hb.tape, hb.output, hb.size, hb.block⟩
  clear hH hq
  refine hK.out _ _ hb (fun hH => ?_)
  clear hK K
  try dsimp only
  try simp only [List.getElem_toArray, List.getElem_cons_zero, List.getElem_cons_succ, Act.put, List.setIfInBounds_toArray, List.set_cons_zero, List.set_cons_succ]
  refine wpAnyH_take (i := 3) (v := ?_) rfl (by kernel_rfl) (by kernel_rfl) (by kernel_rfl) (fun _ _ _ h => h) (Or.inl ⟨by rfl, ?_⟩) hH ?_
  case refine_2 => intro w hSw; go_simp; try with_reducible rfl
  try simp only [List.getElem_toArray, List.getElem_cons_zero, List.getElem_cons_succ, Act.put, List.setIfInBounds_toArray, List.set_cons_zero, List.set_cons_succ]
  refine wpAnyH_take (i := 4) (v := ?_) rfl (by kernel_rfl) (by kernel_rfl) (by kernel_rfl) (fun _ _ _ h => h) (Or.inl ⟨by rfl, ?_⟩) hH ?_
  case refine_2 => intro w hSw; go_simp; try with_reducible rfl
  try simp only [List.getElem_toArray, List.getElem_cons_zero, List.getElem_cons_succ, Act.put, List.setIfInBounds_toArray, List.set_cons_zero, List.set_cons_succ]
  refine wpAnyH_take (i := 5) (v := ?_) rfl (by kernel_rfl) (by kernel_rfl) (by kernel_rfl) (fun _ _ _ h => h) (Or.inl ⟨by rfl, ?_⟩) hH ?_
  case refine_2 => intro w hSw; go_simp; try with_reducible rfl
  try simp only [List.getElem_toArray, List.getElem_cons_zero, List.getElem_cons_succ, Act.put, List.setIfInBounds_toArray, List.set_cons_zero, List.set_cons_succ]
  refine wpAnyH_take (i := 6) (v := ?_) rfl (by kernel_rfl) (by kernel_rfl) (by kernel_rfl) (fun _ _ _ h => h) (Or.inl ⟨by rfl, ?_⟩) hH ?_
  case refine_2 => intro w hSw; go_simp; try with_reducible rfl
  try simp only [List.getElem_toArray, List.getElem_cons_zero, List.getElem_cons_succ, Act.put, List.setIfInBounds_toArray, List.set_cons_zero, List.set_cons_succ]
  refine wpAnyH_take (i := 7) (v := ?_) rfl (by kernel_rfl) (by kernel_rfl) (by kernel_rfl) (fun _ _ _ h => h) (Or.inl ⟨by rfl, ?_⟩) hH ?_
  case refine_2 => intro w hSw; go_simp; try with_reducible rfl
  try simp only [List.getElem_toArray, List.getElem_cons_zero, List.getElem_cons_succ, Act.put, List.setIfInBounds_toArray, List.set_cons_zero, List.set_cons_succ]
  refine wpAnyH_take (i := 8) (v := ?_) rfl (by kernel_rfl) (by kernel_rfl) (by kernel_rfl) (fun _ _ _ h => h) (Or.inl ⟨by rfl, ?_⟩) hH ?_
  case refine_2 => intro w hSw; go_simp; try with_reducible rfl
  try simp only [List.getElem_toArray, List.getElem_cons_zero, List.getElem_cons_succ, Act.put, List.setIfInBounds_toArray, List.set_cons_zero, List.set_cons_succ]
  refine wpAnyH_take (i := 9) (v := ?_) rfl (by kernel_rfl) (by kernel_rfl) (by kernel_rfl) (fun _ _ _ h => h) (Or.inl ⟨by rfl, ?_⟩) hH ?_
  case refine_2 => intro w hSw; go_simp; try with_reducible rfl
  try simp only [List.getElem_toArray, List.getElem_cons_zero, List.getElem_cons_succ, Act.put, List.setIfInBounds_toArray, List.set_cons_zero, List.set_cons_succ]
  refine wpAnyH_take (i := 10) (v := ?_) rfl (by kernel_rfl) (by kernel_rfl) (by kernel_rfl) (fun _ _ _ h => h) (Or.inl ⟨by rfl, ?_⟩) hH ?_
  case refine_2 => intro w hSw; go_simp; try with_reducible rfl
  try simp only [List.getElem_toArray, List.getElem_cons_zero, List.getElem_cons_succ, Act.put, List.setIfInBounds_toArray, List.set_cons_zero, List.set_cons_succ]
  refine wpAnyH_take (i := 12) (v := ?_) rfl (by kernel_rfl) (by kernel_rfl) (by kernel_rfl) (fun _ _ _ h => h) (Or.inl ⟨by rfl, ?_⟩) hH ?_
  case refine_2 => intro w hSw; have hS2 : Below w5.heap.size w5 w := hSw; have k2 := kA5.below hS2 kA5.lt; have s0 : w.cell? ⟨_, 0, none⟩ = some (.slice A W.files.length c) := Blk.cell k2 0; have s1 : w.cell? ⟨_, 1, none⟩ = some (.int .i64 W.room) := Blk.cell k2 1; have s2 : w.cell? ⟨_, 2, none⟩ = some (.int .i64 W.armed) := Blk.cell k2 2; have s3 : w.cell? ⟨_, 3, none⟩ = some (.bool W.dead) := Blk.cell k2 3; clear k2 hS2 hSw; go_simp; try with_reducible rfl
  try simp only [List.getElem_toArray, List.getElem_cons_zero, List.getElem_cons_succ, Act.put, List.setIfInBounds_toArray, List.set_cons_zero, List.set_cons_succ]
  refine wpAnyH_ready (rs := [11]) (by kernel_rfl) (by simp) ?_
  refine AllReadyH.cons rfl (fun K hK => ?_) AllReadyH.nil
  go_simp
  have TU := usedD_any (d5.below hH) hok
  rw [hused] at TU
  refine TU.mono ?_
  clear TU
  rintro en w7 ⟨rfl, b7⟩
  replace b7 := below_step hH b7
  clear hH hb
  refine hK.out _ _ b7 (fun hH => ?_)
  clear hK K
  try dsimp only
  try simp only [List.getElem_toArray, List.getElem_cons_zero, List.getElem_cons_succ, Act.put, List.setIfInBounds_toArray, List.set_cons_zero, List.set_cons_succ]
  refine wpAnyH_ready (rs := [13]) (by kernel_rfl) (by simp) ?_
  refine AllReadyH.cons rfl (fun K hK => ?_) AllReadyH.nil
  go_simp
  refine (rused_any A c W M w7 (h5.below hH) (by omega) (by omega)).mono ?_
  rintro en w8 ⟨rfl, b8⟩
  replace b8 := below_step hH b8
  clear hH b7
  refine hK.out _ _ b8 (fun hH => ?_)
  clear hK K
  try dsimp only
  try simp only [List.getElem_toArray, List.getElem_cons_zero, List.getElem_cons_succ, Act.put, List.setIfInBounds_toArray, List.set_cons_zero, List.set_cons_succ]
  refine wpAnyH_take (i := 14) (v := ?_) rfl (by kernel_rfl) (by kernel_rfl) (by kernel_rfl) (fun _ _ _ h => h) (Or.inl ⟨by rfl, ?_⟩) hH ?_
  case refine_2 => intro w hSw; go_simp; try with_reducible rfl
  try simp only [List.getElem_toArray, List.getElem_cons_zero, List.getElem_cons_succ, Act.put, List.setIfInBounds_toArray, List.set_cons_zero, List.set_cons_succ]
  refine wpAnyH_take (i := 15) (v := ?_) rfl (by kernel_rfl) (by kernel_rfl) (by kernel_rfl) (fun _ _ _ h => h) (Or.inl ⟨by rfl, ?_⟩) hH ?_
  case refine_2 => intro w hSw; go_simp; try with_reducible rfl
  try simp only [List.getElem_toArray, List.getElem_cons_zero, List.getElem_cons_succ, Act.put, List.setIfInBounds_toArray, List.set_cons_zero, List.set_cons_succ]
  refine wpAnyH_take (i := 16) (v := ?_) rfl (by kernel_rfl) (by kernel_rfl) (by kernel_rfl) (fun _ _ _ h => h) (Or.inl ⟨by rfl, ?_⟩) hH ?_
  case refine_2 => intro w hSw; go_simp; try with_reducible rfl
  try simp only [List.getElem_toArray, List.getElem_cons_zero, List.getElem_cons_succ, Act.put, List.setIfInBounds_toArray, List.set_cons_zero, List.set_cons_succ]
  refine wpAnyH_take (i := 17) (v := ?_) rfl (by kernel_rfl) (by kernel_rfl) (by kernel_rfl) (fun _ _ _ h => h) (Or.inl ⟨by rfl, ?_⟩) hH ?_
  case refine_2 => intro w hSw; go_simp; try with_reducible rfl
  try simp only [List.getElem_toArray, List.getElem_cons_zero, List.getElem_cons_succ, Act.put, List.setIfInBounds_toArray, List.set_cons_zero, List.set_cons_succ]
  refine wpAnyH_take (i := 19) (v := ?_) rfl (by kernel_rfl) (by kernel_rfl) (by kernel_rfl) (fun _ _ _ h => h) (Or.inl ⟨by rfl, ?_⟩) hH ?_
  case refine_2 => intro w hSw; go_simp; try with_reducible rfl
  try simp only [List.getElem_toArray, List.getElem_cons_zero, List.getElem_cons_succ, Act.put, List.setIfInBounds_toArray, List.set_cons_zero, List.set_cons_succ]
  refine wpAnyH_take (i := 20) (v := ?_) rfl (by kernel_rfl) (by kernel_rfl) (by kernel_rfl) (fun _ _ _ h => h) (Or.inl ⟨by rfl, ?_⟩) hH ?_
  case refine_2 => intro w hSw; have hS2 : Below w5.heap.size w5 w := hSw; have k2 := kA5.below hS2 kA5.lt; have s0 : w.cell? ⟨_, 0, none⟩ = some (.slice A W.files.length c) := Blk.cell k2 0; have s1 : w.cell? ⟨_, 1, none⟩ = some (.int .i64 W.room) := Blk.cell k2 1; have s2 : w.cell? ⟨_, 2, none⟩ = some (.int .i64 W.armed) := Blk.cell k2 2; have s3 : w.cell? ⟨_, 3, none⟩ = some (.bool W.dead) := Blk.cell k2 3; clear k2 hS2 hSw; go_simp; try with_reducible rfl
  try simp only [List.getElem_toArray, List.getElem_cons_zero, List.getElem_cons_succ, Act.put, List.setIfInBounds_toArray, List.set_cons_zero, List.set_cons_succ]
  refine wpAnyH_ready (rs := [18]) (by kernel_rfl) (by simp) ?_
  refine AllReadyH.cons rfl (fun K hK => ?_) AllReadyH.nil
  go_simp
  have TU := deadD_any (d5.below hH)
  rw [hdead] at TU
  refine TU.mono ?_
  clear TU
  rintro en w9 ⟨rfl, b9⟩
  replace b9 := below_step hH b9
  clear hH b8
  refine hK.out _ _ b9 (fun hH => ?_)
  clear hK K
  try dsimp only
  try simp only [List.getElem_toArray, List.getElem_cons_zero, List.getElem_cons_succ, Act.put, List.setIfInBounds_toArray, List.set_cons_zero, List.set_cons_succ]
  refine wpAnyH_take (i := 21) (v := ?_) rfl (by kernel_rfl) (by kernel_rfl) (by kernel_rfl) (fun _ _ _ h => h) (Or.inl ⟨by rfl, ?_⟩) hH ?_
  case refine_2 => intro w hSw; go_simp; try with_reducible rfl
  try simp only [List.getElem_toArray, List.getElem_cons_zero, List.getElem_cons_succ, Act.put, List.setIfInBounds_toArray, List.set_cons_zero, List.set_cons_succ]
  refine wpAnyH_take (i := 22) (v := ?_) rfl (by kernel_rfl) (by kernel_rfl) (by kernel_rfl) (fun _ _ _ h => h) (Or.inl ⟨by rfl, ?_⟩) hH ?_
  case refine_2 => intro w hSw; go_simp; try with_reducible rfl
  try simp only [List.getElem_toArray, List.getElem_cons_zero, List.getElem_cons_succ, Act.put, List.setIfInBounds_toArray, List.set_cons_zero, List.set_cons_succ]
  refine wpAnyH_take (i := 23) (v := ?_) rfl (by kernel_rfl) (by kernel_rfl) (by kernel_rfl) (fun _ _ _ h => h) (Or.inl ⟨by rfl, ?_⟩) hH ?_
  case refine_2 => intro w hSw; go_simp; try with_reducible rfl
  try simp only [List.getElem_toArray, List.getElem_cons_zero, List.getElem_cons_succ, Act.put, List.setIfInBounds_toArray, List.set_cons_zero, List.set_cons_succ]
  refine wpAnyH_take (i := 24) (v := ?_) rfl (by kernel_rfl) (by kernel_rfl) (by kernel_rfl) (fun _ _ _ h => h) (Or.inl ⟨by rfl, ?_⟩) hH ?_
  case refine_2 => intro w hSw; go_simp; try with_reducible rfl
  try simp only [List.getElem_toArray, List.getElem_cons_zero, List.getElem_cons_succ, Act.put, List.setIfInBounds_toArray, List.set_cons_zero, List.set_cons_succ]
  refine wpAnyH_take (i := 26) (v := ?_) rfl (by kernel_rfl) (by kernel_rfl) (by kernel_rfl) (fun _ _ _ h => h) (Or.inl ⟨by rfl, ?_⟩) hH ?_
  case refine_2 => intro w hSw; go_simp; try with_reducible rfl
  try simp only [List.getElem_toArray, List.getElem_cons_zero, List.getElem_cons_succ, Act.put, List.setIfInBounds_toArray, List.set_cons_zero, List.set_cons_succ]
  refine wpAnyH_take (i := 25) (v := ?_) rfl (by kernel_rfl) (by kernel_rfl) (by kernel_rfl) (fun _ _ _ h => h) (Or.inl ⟨by rfl, ?_⟩) hH ?_
  case refine_2 => intro w hSw; go_simp; try with_reducible rfl
  try simp only [List.getElem_toArray, List.getElem_cons_zero, List.getElem_cons_succ, Act.put, List.setIfInBounds_toArray, List.set_cons_zero, List.set_cons_succ]
  refine wpAnyH_take (i := 27) (v := ?_) rfl (by kernel_rfl) (by kernel_rfl) (by kernel_rfl) (fun _ _ _ h => h) (Or.inl ⟨by rfl, ?_⟩) hH ?_
  case refine_2 => intro w hSw; go_simp; try with_reducible rfl
  try simp only [List.getElem_toArray, List.getElem_cons_zero, List.getElem_cons_succ, Act.put, List.setIfInBounds_toArray, List.set_cons_zero, List.set_cons_succ]
  refine wpAnyH_take (i := 28) (v := ?_) rfl (by kernel_rfl) (by kernel_rfl) (by kernel_rfl) (fun _ _ _ h => h) (Or.inl ⟨by rfl, ?_⟩) hH ?_
  case refine_2 => intro w hSw; go_simp; try with_reducible rfl
  try simp only [List.getElem_toArray, List.getElem_cons_zero, List.getElem_cons_succ, Act.put, List.setIfInBounds_toArray, List.set_cons_zero, List.set_cons_succ]
  refine wpAnyH_take (i := 29) (v := ?_) rfl (by kernel_rfl) (by kernel_rfl) (by kernel_rfl) (fun _ _ _ h => h) (Or.inl ⟨by rfl, ?_⟩) hH ?_
  case refine_2 => intro w hSw; go_simp; try with_reducible rfl
  try simp only [List.getElem_toArray, List.getElem_cons_zero, List.getElem_cons_succ, Act.put, List.setIfInBounds_toArray, List.set_cons_zero, List.set_cons_succ]
  refine wpAnyH_done (by kernel_rfl) ?_ _
  refine NoPanic.normal ?_
  have o1 := own_below o15 b9
  have o2' := own_below o2 b9
  have oP9 := OwnB.below oP5 b9
  have b09 := below_step b05 b9
  have l1 := fun g hg => (World.ownsRow.lt o1 g hg).1
  have l2 := fun g hg => (World.ownsRow.lt o2' g hg).1
  clear hH b9 o15 o2 oP5 oQ5 d5 h5 kA5 b05
  have TO := over_any w1.heap.size P l pc l.length pc w9 oP9 (Nat.le_refl _) (by omega)
  go_wp2_with fail
  refine TO.mono ?_
  clear TO
  show ∀ (en : Ending) (w' : World), RetOver w1.heap.size P l pc w9 en w' → _
  rintro en w10 ⟨rfl, L2, _, _, go⟩
  have b10 := b09.grown go b09.size (fun g hg => by have := (hPb g hg).1; omega)
  replace o1 := o1.kept go (own_apart l1 fun g hg => (hPb g hg).2)
  replace o2' := o2'.kept go (own_apart (fun g hg => Nat.le_trans s34 (l2 g hg)) fun g hg => (hPb g hg).2)
  clear oP9 b09 go l1 l2 hPb
  dsimp only
  go_wp2_with fail
  go_loopw [68] (fun i wr => ∃ k : Nat, k ≤ ns.length ∧ i = .int .i64 (k : Int) ∧ Below w10.heap.size w10 wr) (fun i _ => ns.length - (Lib.intOf i).toNat)
  case atStart => exact ⟨0, Nat.zero_le _, rfl, Below.refl _ _⟩
  case round =>
    obtain ⟨k, hk, rfl, br⟩ := hrel
    by_cases hlt : k < ns.length
    · obtain ⟨a1, rfl, c1⟩ := names_at (own_below o1 br) hlt
      obtain ⟨a2, rfl, c2⟩ := names_at (own_below o2' br) hlt
      go_wp2_with fail
      go_quiet (fail)
      go_wp2_with fail
      go_roundw
      case rel => exact ⟨k + 1, by omega, by simp, ⟨br.os, br.tape, br.output, br.size, br.block⟩⟩
      case measure => simp [Lib.intOf]; omega
    · go_wp2_with fail
      go_ret
      exact ⟨rfl, b10.trans (br.mono b10.size)⟩
end Go.Proofs.Ytnhonjgclbmheaa
