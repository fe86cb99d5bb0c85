/- The manifest's reader: number, text, done. -/
import Derived.Test.YtmgibpedclngpaaGetT
import Derived.Test.YtmgibpedclngpaaHeldK
import Derived.BigQuiet
import Derived.Deep.DeepCutAuto
import Derived.Deep.LoopGhost
namespace Go.Proofs.Ytmgibpedclngpaa
open Go.RowKit

/-- the next number from place q on: what it is, the place behind it, the error -/
def nxtN (l : List UInt8) (q : Nat) : Nat × Nat × Int := ((getF (l.drop q) 0 0).1, (if (getF (l.drop q) 0 0).2.2 = 0 then q + (getF (l.drop q) 0 0).2.1 else 0), (getF (l.drop q) 0 0).2.2)
/-- the next text -/
def nxtT (l : List UInt8) (q : Nat) : List UInt8 × Nat × Int := ((getT (l.drop q)).1, (if (getT (l.drop q)).2.2 = 0 then q + (getT (l.drop q)).2.1 else 0), (getT (l.drop q)).2.2)
theorem nxtN_le {l : List UInt8} {q : Nat} (hq : q ≤ l.length) : (nxtN l q).2.1 ≤ l.length := by
  show (if (getF (l.drop q) 0 0).2.2 = 0 then q + (getF (l.drop q) 0 0).2.1 else 0) ≤ _
  split
  · rename_i h
    cases hg : getF (l.drop q) 0 0 with
    | mk n r =>
      obtain ⟨k, e⟩ := r
      rw [hg] at h
      have h0 : e = 0 := h
      subst h0
      have := getF_ok hg
      rw [List.length_drop] at this
      show q + k ≤ _
      omega
  · exact Nat.zero_le _
theorem nxtT_le {l : List UInt8} {q : Nat} (hq : q ≤ l.length) : (nxtT l q).2.1 ≤ l.length := by
  show (if (getT (l.drop q)).2.2 = 0 then q + (getT (l.drop q)).2.1 else 0) ≤ _
  split
  · rename_i h
    cases hg : getT (l.drop q) with
    | mk n r =>
      obtain ⟨k, e⟩ := r
      rw [hg] at h
      have h0 : e = 0 := h
      subst h0
      have := (getT_ok hg).1
      rw [List.length_drop] at this
      show q + k ≤ _
      omega
  · exact Nat.zero_le _
theorem getu_nx (A : Option Addr) (l : List UInt8) (c q : Nat) (w : World) (hb : Bs w A l) (hq : q ≤ l.length) : Calls Try.prog 65 #[.slice A l.length c, .int .i64 (q : Int)] w fun en w' => en = .returned (.tuple #[.int .u64 ((nxtN l q).1 : Int), .int .i64 ((nxtN l q).2.1 : Int), .int .i64 (nxtN l q).2.2]) ∧ w' = w :=
  (getu_any A l c q w hb hq).mono fun en w' ⟨h1, h2⟩ => by
    refine ⟨?_, h2⟩
    rw [h1]
    show _ = Ending.returned (.tuple #[_, .int .i64 ((if (getF (l.drop q) 0 0).2.2 = 0 then q + (getF (l.drop q) 0 0).2.1 else 0 : Nat) : Int), _])
    split <;> rfl
theorem gett_nx (A : Option Addr) (l : List UInt8) (c q : Nat) (w : World) (hb : Bs w A l) (hq : q ≤ l.length) (hl5 : l.length ≤ 1099511627776) : Calls Try.prog 75 #[.slice A l.length c, .int .i64 (q : Int)] w fun en w' => ∃ D d, en = .returned (.tuple #[.slice D (nxtT l q).1.length d, .int .i64 ((nxtT l q).2.1 : Int), .int .i64 (nxtT l q).2.2]) ∧ OwnB w.heap.size w' D (nxtT l q).1 d ∧ Below w.heap.size w w' :=
  (gettext_any A l c q w hb hq hl5).mono fun en w' ⟨D, d, h1, h2, h3⟩ => by
    refine ⟨D, d, ?_, h2, h3⟩
    rw [h1]
    show _ = Ending.returned (.tuple #[_, .int .i64 ((if (getT (l.drop q)).2.2 = 0 then q + (getT (l.drop q)).2.1 else 0 : Nat) : Int), _])
    split <;> rfl
/-- a number is taken by the reader in block g -/
def RetNxN (g : Nat) (A : Option Addr) (l : List UInt8) (c : Nat) (r : Nat × Nat × Int) (w : World) (en : Ending) (w' : World) : Prop :=
  en = .returned (.int .u64 (r.1 : Int)) ∧ Blk w' g 94 #[.slice A l.length c, .int .i64 (r.2.1 : Int), .int .i64 r.2.2] ∧ w.grownBy w' (some g)
/-- a text is taken; it lies in a row of its own -/
def RetNxT (g : Nat) (A : Option Addr) (l : List UInt8) (c : Nat) (r : List UInt8 × Nat × Int) (w : World) (en : Ending) (w' : World) : Prop :=
  ∃ D d, en = .returned (.slice D r.1.length d) ∧ OwnB w.heap.size w' D r.1 d ∧ Blk w' g 94 #[.slice A l.length c, .int .i64 (r.2.1 : Int), .int .i64 r.2.2] ∧ w.grownBy w' (some g)
--WALKS
set_option maxRecDepth 100000 in
set_option maxHeartbeats 4000000 in
theorem num_any (g : Nat) (A : Option Addr) (l : List UInt8) (c q : Nat) (w : World) (hk : Blk w g 94 #[.slice A l.length c, .int .i64 (q : Int), .int .i64 0]) (hb : Bs w A l) (hq : q ≤ l.length) :
    Calls Try.prog 48 #[.pointer (some ⟨g, 0, none⟩)] w (RetNxN g A l c (nxtN l q) w) := by
  have lg := hk.lt
  have c0 : w.cell? ⟨g, 0, none⟩ = some (.slice A l.length c) := hk.cell 0
  have c1 : w.cell? ⟨g, 1, none⟩ = some (.int .i64 (q : Int)) := hk.cell 1
  have c2 : w.cell? ⟨g, 2, none⟩ = some (.int .i64 0) := hk.cell 2
  have kk := hk.drew
  have hbd : Bs w.drew A l := hb.drew
  have T := getu_nx A l c q w.drew hbd hq
  generalize nxtN l q = r at *
  obtain ⟨t, q', e'⟩ := r
  go_enter Try.func48, Try.ntmps48
  go_upto_region 4 with fail
  clear c0 c1 c2 hk
  have bd : Below w.heap.size w w.drew := (Below.refl _ _).drew
  refine wp_region_noPanic ?_
  refine wp_region_heldK (fun W => Blk W g 94 #[.slice A l.length c, .int .i64 (q : Int), .int .i64 0]) 18 (by kernel_rfl) kk (fun hH => ?_)
  generalize w.drew = W at *
  refine wpAnyK_takeY (i := 0) (v := ?_) rfl (by kernel_rfl) (by kernel_rfl) (by kernel_rfl) (by kernel_rfl) (fun _ _ _ h => h) (Or.inl ⟨by rfl, ?_⟩) kk ?_
  case refine_2 => intro w; go_simp; try with_reducible rfl
  try simp only [List.getElem_toArray, List.getElem_cons_zero, Act.put, List.setIfInBounds_toArray, List.set_cons_zero, List.set_cons_succ]
  refine wpAnyK_takeY (i := 1) (v := ?_) rfl (by kernel_rfl) (by kernel_rfl) (by kernel_rfl) (by kernel_rfl) (fun _ _ _ h => h) (Or.inl ⟨by rfl, ?_⟩) kk ?_
  case refine_2 => intro w; go_simp; try with_reducible rfl
  try simp only [List.getElem_toArray, List.getElem_cons_succ, List.getElem_cons_zero, Act.put, List.setIfInBounds_toArray, List.set_cons_zero, List.set_cons_succ]
  refine wpAnyK_takeY (i := 2) (v := ?_) rfl (by kernel_rfl) (by kernel_rfl) (by kernel_rfl) (by kernel_rfl) (fun _ _ _ h => h) (Or.inl ⟨by rfl, ?_⟩) kk ?_
  case refine_2 => intro w; go_simp; try with_reducible rfl
  try simp only [List.getElem_toArray, List.getElem_cons_succ, List.getElem_cons_zero, Act.put, List.setIfInBounds_toArray, List.set_cons_zero, List.set_cons_succ]
  refine wpAnyK_takeY (i := 3) (v := ?_) rfl (by kernel_rfl) (by kernel_rfl) (by kernel_rfl) (by kernel_rfl) (fun _ _ _ h => h) (Or.inl ⟨by rfl, ?_⟩) kk ?_
  case refine_2 => intro w; go_simp; try with_reducible rfl
  try simp only [List.getElem_toArray, List.getElem_cons_succ, List.getElem_cons_zero, Act.put, List.setIfInBounds_toArray, List.set_cons_zero, List.set_cons_succ]
  refine wpAnyK_takeY (i := 4) (v := ?_) rfl (by kernel_rfl) (by kernel_rfl) (by kernel_rfl) (by kernel_rfl) (fun _ _ _ h => h) (Or.inl ⟨by rfl, ?_⟩) kk ?_
  case refine_2 => intro w; go_simp; try with_reducible rfl
  try simp only [List.getElem_toArray, List.getElem_cons_succ, List.getElem_cons_zero, Act.put, List.setIfInBounds_toArray, List.set_cons_zero, List.set_cons_succ]
  refine wpAnyK_take (i := 5) (v := ?_) rfl (by kernel_rfl) (by kernel_rfl) (by kernel_rfl) (by kernel_rfl) (fun _ _ _ h => h) (Or.inl ⟨by rfl, ?_⟩) kk ?_
  case refine_2 => intro w hSw; have x0 : w.cell? ⟨g, 0, none⟩ = some (.slice A l.length c) := Blk.cell hSw 0; have x1 : w.cell? ⟨g, 1, none⟩ = some (.int .i64 (q : Int)) := Blk.cell hSw 1; go_simp; try with_reducible rfl
  try simp only [List.getElem_toArray, List.getElem_cons_succ, List.getElem_cons_zero, Act.put, List.setIfInBounds_toArray, List.set_cons_zero, List.set_cons_succ]
  refine wpAnyK_takeY (i := 6) (v := ?_) rfl (by kernel_rfl) (by kernel_rfl) (by kernel_rfl) (by kernel_rfl) (fun _ _ _ h => h) (Or.inl ⟨by rfl, ?_⟩) kk ?_
  case refine_2 => intro w; go_simp; try with_reducible rfl
  try simp only [List.getElem_toArray, List.getElem_cons_succ, List.getElem_cons_zero, Act.put, List.setIfInBounds_toArray, List.set_cons_zero, List.set_cons_succ]
  refine wpAnyK_takeY (i := 7) (v := ?_) rfl (by kernel_rfl) (by kernel_rfl) (by kernel_rfl) (by kernel_rfl) (fun _ _ _ h => h) (Or.inl ⟨by rfl, ?_⟩) kk ?_
  case refine_2 => intro w; go_simp; try with_reducible rfl
  try simp only [List.getElem_toArray, List.getElem_cons_succ, List.getElem_cons_zero, Act.put, List.setIfInBounds_toArray, List.set_cons_zero, List.set_cons_succ]
  refine wpAnyK_takeY (i := 8) (v := ?_) rfl (by kernel_rfl) (by kernel_rfl) (by kernel_rfl) (by kernel_rfl) (fun _ _ _ h => h) (Or.inl ⟨by rfl, ?_⟩) kk ?_
  case refine_2 => intro w; go_simp; try with_reducible rfl
  try simp only [List.getElem_toArray, List.getElem_cons_succ, List.getElem_cons_zero, Act.put, List.setIfInBounds_toArray, List.set_cons_zero, List.set_cons_succ]
  refine wpAnyK_take (i := 9) (v := ?_) rfl (by kernel_rfl) (by kernel_rfl) (by kernel_rfl) (by kernel_rfl) (fun _ _ _ h => h) (Or.inl ⟨by rfl, ?_⟩) kk ?_
  case refine_2 => intro w hSw; have x0 : w.cell? ⟨g, 0, none⟩ = some (.slice A l.length c) := Blk.cell hSw 0; have x1 : w.cell? ⟨g, 1, none⟩ = some (.int .i64 (q : Int)) := Blk.cell hSw 1; go_simp; try with_reducible rfl
  try simp only [List.getElem_toArray, List.getElem_cons_succ, List.getElem_cons_zero, Act.put, List.setIfInBounds_toArray, List.set_cons_zero, List.set_cons_succ]
  refine wpAnyK_ready (rs := [10]) (by kernel_rfl) (by simp) ?_
  refine AllReadyK.cons rfl (by kernel_rfl) (fun K hK => ?_) AllReadyK.nil
  go_simp
  refine T.mono ?_
  clear T
  rintro en W2 ⟨rfl, hW⟩
  obtain rfl := hW.symm
  have kk2 := kk
  refine hK.out _ _ kk2 ?_
  clear hK K
  try dsimp only
  try simp only [List.getElem_toArray, List.getElem_cons_succ, List.getElem_cons_zero, Act.put, List.setIfInBounds_toArray, List.set_cons_zero, List.set_cons_succ]
  refine wpAnyK_takeY (i := 11) (v := ?_) rfl (by kernel_rfl) (by kernel_rfl) (by kernel_rfl) (by kernel_rfl) (fun _ _ _ h => h) (Or.inl ⟨by rfl, ?_⟩) kk2 ?_
  case refine_2 => intro w; go_simp; try with_reducible rfl
  try simp only [List.getElem_toArray, List.getElem_cons_succ, List.getElem_cons_zero, Act.put, List.setIfInBounds_toArray, List.set_cons_zero, List.set_cons_succ]
  refine wpAnyK_takeY (i := 12) (v := ?_) rfl (by kernel_rfl) (by kernel_rfl) (by kernel_rfl) (by kernel_rfl) (fun _ _ _ h => h) (Or.inl ⟨by rfl, ?_⟩) kk2 ?_
  case refine_2 => intro w; go_simp; try with_reducible rfl
  try simp only [List.getElem_toArray, List.getElem_cons_succ, List.getElem_cons_zero, Act.put, List.setIfInBounds_toArray, List.set_cons_zero, List.set_cons_succ]
  refine wpAnyK_takeY (i := 13) (v := ?_) rfl (by kernel_rfl) (by kernel_rfl) (by kernel_rfl) (by kernel_rfl) (fun _ _ _ h => h) (Or.inl ⟨by rfl, ?_⟩) kk2 ?_
  case refine_2 => intro w; go_simp; try with_reducible rfl
  try simp only [List.getElem_toArray, List.getElem_cons_succ, List.getElem_cons_zero, Act.put, List.setIfInBounds_toArray, List.set_cons_zero, List.set_cons_succ]
  refine wpAnyK_takeY (i := 14) (v := ?_) rfl (by kernel_rfl) (by kernel_rfl) (by kernel_rfl) (by kernel_rfl) (fun _ _ _ h => h) (Or.inl ⟨by rfl, ?_⟩) kk2 ?_
  case refine_2 => intro w; go_simp; try with_reducible rfl
  try simp only [List.getElem_toArray, List.getElem_cons_succ, List.getElem_cons_zero, Act.put, List.setIfInBounds_toArray, List.set_cons_zero, List.set_cons_succ]
  refine wpAnyK_takeY (i := 15) (v := ?_) rfl (by kernel_rfl) (by kernel_rfl) (by kernel_rfl) (by kernel_rfl) (fun _ _ _ h => h) (Or.inl ⟨by rfl, ?_⟩) kk2 ?_
  case refine_2 => intro w; go_simp; try with_reducible rfl
  try simp only [List.getElem_toArray, List.getElem_cons_succ, List.getElem_cons_zero, Act.put, List.setIfInBounds_toArray, List.set_cons_zero, List.set_cons_succ]
  refine wpAnyK_takeY (i := 16) (v := ?_) rfl (by kernel_rfl) (by kernel_rfl) (by kernel_rfl) (by kernel_rfl) (fun _ _ _ h => h) (Or.inl ⟨by rfl, ?_⟩) kk2 ?_
  case refine_2 => intro w; go_simp; try with_reducible rfl
  try simp only [List.getElem_toArray, List.getElem_cons_succ, List.getElem_cons_zero, Act.put, List.setIfInBounds_toArray, List.set_cons_zero, List.set_cons_succ]
  refine wpAnyK_takeY (i := 17) (v := ?_) rfl (by kernel_rfl) (by kernel_rfl) (by kernel_rfl) (by kernel_rfl) (fun _ _ _ h => h) (Or.inl ⟨by rfl, ?_⟩) kk2 ?_
  case refine_2 => intro w; go_simp; try with_reducible rfl
  try simp only [List.getElem_toArray, List.getElem_cons_succ, List.getElem_cons_zero, Act.put, List.setIfInBounds_toArray, List.set_cons_zero, List.set_cons_succ]
  have y1 : W.cell? ⟨g, 1, none⟩ = some (.int .i64 (q : Int)) := kk2.cell 1
  have f1 : W.frozen? ⟨g, 1, none⟩ = false := kk2.frozen 1
  have y2 : (W.setCell ⟨g, 1, none⟩ (.int .i64 (q' : Int))).cell? ⟨g, 2, none⟩ = some (.int .i64 0) := (kk2.set_ 1 (.int .i64 (q' : Int))).cell 2
  have f2 : (W.setCell ⟨g, 1, none⟩ (.int .i64 (q' : Int))).frozen? ⟨g, 2, none⟩ = false := (kk2.set_ 1 (.int .i64 (q' : Int))).frozen 2
  refine wpAnyK_ready (rs := [18]) (by kernel_rfl) (by simp) ?_
  refine AllReadyK.turn rfl (fun K hK => ?_) AllReadyK.nil
  go_simp
  refine hK.out _ _ ?_
  clear hK K
  try simp only [List.getElem_toArray, List.getElem_cons_succ, List.getElem_cons_zero, Act.put, List.setIfInBounds_toArray, List.set_cons_zero, List.set_cons_succ]
  refine wpAny_take (i := 19) (v := ?_) rfl (by kernel_rfl) (by kernel_rfl) (by kernel_rfl) (fun _ _ _ h => h) (Or.inl ⟨by rfl, ?_⟩) ?_
  case refine_2 => intro w; go_simp; try with_reducible rfl
  try simp only [List.getElem_toArray, List.getElem_cons_succ, List.getElem_cons_zero, Act.put, List.setIfInBounds_toArray, List.set_cons_zero, List.set_cons_succ]
  refine wpAny_take (i := 20) (v := ?_) rfl (by kernel_rfl) (by kernel_rfl) (by kernel_rfl) (fun _ _ _ h => h) (Or.inl ⟨by rfl, ?_⟩) ?_
  case refine_2 => intro w; go_simp; try with_reducible rfl
  try simp only [List.getElem_toArray, List.getElem_cons_succ, List.getElem_cons_zero, Act.put, List.setIfInBounds_toArray, List.set_cons_zero, List.set_cons_succ]
  refine wpAny_ready (rs := [21]) (by kernel_rfl) (by simp) ?_
  refine AllReady.cons rfl (fun K hK => ?_) AllReady.nil
  go_simp
  refine hK _ _ ?_
  clear hK K
  refine wpAny_done (by kernel_rfl) ?_ _
  refine NoPanic.normal ?_
  have k3 : Blk ((W.setCell ⟨g, 1, none⟩ (.int .i64 (q' : Int))).setCell ⟨g, 2, none⟩ (.int .i64 e')) g 94 #[.slice A l.length c, .int .i64 (q' : Int), .int .i64 e'] := (kk2.set_ 1 (.int .i64 (q' : Int))).set_ 2 (.int .i64 e')
  have g3 : W.grownBy ((W.setCell ⟨g, 1, none⟩ (.int .i64 (q' : Int))).setCell ⟨g, 2, none⟩ (.int .i64 e')) (some g) := only_setCell (only_setCell (World.grownBy.refl W _) (p := ⟨g, 1, none⟩) (.inl rfl) _) (p := ⟨g, 2, none⟩) (.inl rfl) _
  clear y1 f1 y2 f2
  go_wp2_with fail
  go_ret
  exact ⟨rfl, k3, (only_of_below bd (some g)).trans g3⟩
set_option maxRecDepth 100000 in
theorem num_bad (g : Nat) (A : Option Addr) (l : List UInt8) (c q : Nat) (e : Int) (he : e ≠ 0) (w : World) (hk : Blk w g 94 #[.slice A l.length c, .int .i64 (q : Int), .int .i64 e]) :
    Calls Try.prog 48 #[.pointer (some ⟨g, 0, none⟩)] w (RetNxN g A l c (0, q, e) w) := by
  have c2 : w.cell? ⟨g, 2, none⟩ = some (.int .i64 e) := hk.cell 2
  have d0 : (e != 0) = true := by rw [bne_iff_ne]; exact he
  clear he
  go_enter Try.func48, Try.ntmps48
  go_wp2_with fail
  go_ret
  exact ⟨rfl, hk, World.grownBy.refl _ _⟩
set_option maxRecDepth 100000 in
set_option maxHeartbeats 4000000 in
theorem txt_any (g : Nat) (A : Option Addr) (l : List UInt8) (c q : Nat) (w : World) (hk : Blk w g 94 #[.slice A l.length c, .int .i64 (q : Int), .int .i64 0]) (hb : Bs w A l) (hq : q ≤ l.length) (hl5 : l.length ≤ 1099511627776) :
    Calls Try.prog 66 #[.pointer (some ⟨g, 0, none⟩)] w (RetNxT g A l c (nxtT l q) w) := by
  have lg := hk.lt
  have c0 : w.cell? ⟨g, 0, none⟩ = some (.slice A l.length c) := hk.cell 0
  have c1 : w.cell? ⟨g, 1, none⟩ = some (.int .i64 (q : Int)) := hk.cell 1
  have c2 : w.cell? ⟨g, 2, none⟩ = some (.int .i64 0) := hk.cell 2
  have kk := hk.drew
  have hbd : Bs w.drew A l := hb.drew
  have T := gett_nx A l c q w.drew hbd hq hl5
  generalize nxtT l q = r at *
  obtain ⟨t, q', e'⟩ := r
  go_enter Try.func66, Try.ntmps66
  go_upto_region 4 with fail
  clear c0 c1 c2 hk
  have bd : Below w.heap.size w w.drew := (Below.refl _ _).drew
  refine wp_region_noPanic ?_
  refine wp_region_heldK (fun W => Blk W g 94 #[.slice A l.length c, .int .i64 (q : Int), .int .i64 0]) 18 (by kernel_rfl) kk (fun hH => ?_)
  generalize w.drew = W at *
  refine wpAnyK_takeY (i := 0) (v := ?_) rfl (by kernel_rfl) (by kernel_rfl) (by kernel_rfl) (by kernel_rfl) (fun _ _ _ h => h) (Or.inl ⟨by rfl, ?_⟩) kk ?_
  case refine_2 => intro w; go_simp; try with_reducible rfl
  try simp only [List.getElem_toArray, List.getElem_cons_zero, Act.put, List.setIfInBounds_toArray, List.set_cons_zero, List.set_cons_succ]
  refine wpAnyK_takeY (i := 1) (v := ?_) rfl (by kernel_rfl) (by kernel_rfl) (by kernel_rfl) (by kernel_rfl) (fun _ _ _ h => h) (Or.inl ⟨by rfl, ?_⟩) kk ?_
  case refine_2 => intro w; go_simp; try with_reducible rfl
  try simp only [List.getElem_toArray, List.getElem_cons_succ, List.getElem_cons_zero, Act.put, List.setIfInBounds_toArray, List.set_cons_zero, List.set_cons_succ]
  refine wpAnyK_takeY (i := 2) (v := ?_) rfl (by kernel_rfl) (by kernel_rfl) (by kernel_rfl) (by kernel_rfl) (fun _ _ _ h => h) (Or.inl ⟨by rfl, ?_⟩) kk ?_
  case refine_2 => intro w; go_simp; try with_reducible rfl
  try simp only [List.getElem_toArray, List.getElem_cons_succ, List.getElem_cons_zero, Act.put, List.setIfInBounds_toArray, List.set_cons_zero, List.set_cons_succ]
  refine wpAnyK_takeY (i := 3) (v := ?_) rfl (by kernel_rfl) (by kernel_rfl) (by kernel_rfl) (by kernel_rfl) (fun _ _ _ h => h) (Or.inl ⟨by rfl, ?_⟩) kk ?_
  case refine_2 => intro w; go_simp; try with_reducible rfl
  try simp only [List.getElem_toArray, List.getElem_cons_succ, List.getElem_cons_zero, Act.put, List.setIfInBounds_toArray, List.set_cons_zero, List.set_cons_succ]
  refine wpAnyK_takeY (i := 4) (v := ?_) rfl (by kernel_rfl) (by kernel_rfl) (by kernel_rfl) (by kernel_rfl) (fun _ _ _ h => h) (Or.inl ⟨by rfl, ?_⟩) kk ?_
  case refine_2 => intro w; go_simp; try with_reducible rfl
  try simp only [List.getElem_toArray, List.getElem_cons_succ, List.getElem_cons_zero, Act.put, List.setIfInBounds_toArray, List.set_cons_zero, List.set_cons_succ]
  refine wpAnyK_take (i := 5) (v := ?_) rfl (by kernel_rfl) (by kernel_rfl) (by kernel_rfl) (by kernel_rfl) (fun _ _ _ h => h) (Or.inl ⟨by rfl, ?_⟩) kk ?_
  case refine_2 => intro w hSw; have x0 : w.cell? ⟨g, 0, none⟩ = some (.slice A l.length c) := Blk.cell hSw 0; have x1 : w.cell? ⟨g, 1, none⟩ = some (.int .i64 (q : Int)) := Blk.cell hSw 1; go_simp; try with_reducible rfl
  try simp only [List.getElem_toArray, List.getElem_cons_succ, List.getElem_cons_zero, Act.put, List.setIfInBounds_toArray, List.set_cons_zero, List.set_cons_succ]
  refine wpAnyK_takeY (i := 6) (v := ?_) rfl (by kernel_rfl) (by kernel_rfl) (by kernel_rfl) (by kernel_rfl) (fun _ _ _ h => h) (Or.inl ⟨by rfl, ?_⟩) kk ?_
  case refine_2 => intro w; go_simp; try with_reducible rfl
  try simp only [List.getElem_toArray, List.getElem_cons_succ, List.getElem_cons_zero, Act.put, List.setIfInBounds_toArray, List.set_cons_zero, List.set_cons_succ]
  refine wpAnyK_takeY (i := 7) (v := ?_) rfl (by kernel_rfl) (by kernel_rfl) (by kernel_rfl) (by kernel_rfl) (fun _ _ _ h => h) (Or.inl ⟨by rfl, ?_⟩) kk ?_
  case refine_2 => intro w; go_simp; try with_reducible rfl
  try simp only [List.getElem_toArray, List.getElem_cons_succ, List.getElem_cons_zero, Act.put, List.setIfInBounds_toArray, List.set_cons_zero, List.set_cons_succ]
  refine wpAnyK_takeY (i := 8) (v := ?_) rfl (by kernel_rfl) (by kernel_rfl) (by kernel_rfl) (by kernel_rfl) (fun _ _ _ h => h) (Or.inl ⟨by rfl, ?_⟩) kk ?_
  case refine_2 => intro w; go_simp; try with_reducible rfl
  try simp only [List.getElem_toArray, List.getElem_cons_succ, List.getElem_cons_zero, Act.put, List.setIfInBounds_toArray, List.set_cons_zero, List.set_cons_succ]
  refine wpAnyK_take (i := 9) (v := ?_) rfl (by kernel_rfl) (by kernel_rfl) (by kernel_rfl) (by kernel_rfl) (fun _ _ _ h => h) (Or.inl ⟨by rfl, ?_⟩) kk ?_
  case refine_2 => intro w hSw; have x0 : w.cell? ⟨g, 0, none⟩ = some (.slice A l.length c) := Blk.cell hSw 0; have x1 : w.cell? ⟨g, 1, none⟩ = some (.int .i64 (q : Int)) := Blk.cell hSw 1; go_simp; try with_reducible rfl
  try simp only [List.getElem_toArray, List.getElem_cons_succ, List.getElem_cons_zero, Act.put, List.setIfInBounds_toArray, List.set_cons_zero, List.set_cons_succ]
  refine wpAnyK_ready (rs := [10]) (by kernel_rfl) (by simp) ?_
  refine AllReadyK.cons rfl (by kernel_rfl) (fun K hK => ?_) AllReadyK.nil
  go_simp
  refine T.mono ?_
  clear T
  rintro en W2 ⟨D, d, rfl, oD, bW⟩
  have kk2 := kk.below bW kk.lt
  refine hK.out _ _ kk2 ?_
  clear hK K
  try dsimp only
  try simp only [List.getElem_toArray, List.getElem_cons_succ, List.getElem_cons_zero, Act.put, List.setIfInBounds_toArray, List.set_cons_zero, List.set_cons_succ]
  refine wpAnyK_takeY (i := 11) (v := ?_) rfl (by kernel_rfl) (by kernel_rfl) (by kernel_rfl) (by kernel_rfl) (fun _ _ _ h => h) (Or.inl ⟨by rfl, ?_⟩) kk2 ?_
  case refine_2 => intro w; go_simp; try with_reducible rfl
  try simp only [List.getElem_toArray, List.getElem_cons_succ, List.getElem_cons_zero, Act.put, List.setIfInBounds_toArray, List.set_cons_zero, List.set_cons_succ]
  refine wpAnyK_takeY (i := 12) (v := ?_) rfl (by kernel_rfl) (by kernel_rfl) (by kernel_rfl) (by kernel_rfl) (fun _ _ _ h => h) (Or.inl ⟨by rfl, ?_⟩) kk2 ?_
  case refine_2 => intro w; go_simp; try with_reducible rfl
  try simp only [List.getElem_toArray, List.getElem_cons_succ, List.getElem_cons_zero, Act.put, List.setIfInBounds_toArray, List.set_cons_zero, List.set_cons_succ]
  refine wpAnyK_takeY (i := 13) (v := ?_) rfl (by kernel_rfl) (by kernel_rfl) (by kernel_rfl) (by kernel_rfl) (fun _ _ _ h => h) (Or.inl ⟨by rfl, ?_⟩) kk2 ?_
  case refine_2 => intro w; go_simp; try with_reducible rfl
  try simp only [List.getElem_toArray, List.getElem_cons_succ, List.getElem_cons_zero, Act.put, List.setIfInBounds_toArray, List.set_cons_zero, List.set_cons_succ]
  refine wpAnyK_takeY (i := 14) (v := ?_) rfl (by kernel_rfl) (by kernel_rfl) (by kernel_rfl) (by kernel_rfl) (fun _ _ _ h => h) (Or.inl ⟨by rfl, ?_⟩) kk2 ?_
  case refine_2 => intro w; go_simp; try with_reducible rfl
  try simp only [List.getElem_toArray, List.getElem_cons_succ, List.getElem_cons_zero, Act.put, List.setIfInBounds_toArray, List.set_cons_zero, List.set_cons_succ]
  refine wpAnyK_takeY (i := 15) (v := ?_) rfl (by kernel_rfl) (by kernel_rfl) (by kernel_rfl) (by kernel_rfl) (fun _ _ _ h => h) (Or.inl ⟨by rfl, ?_⟩) kk2 ?_
  case refine_2 => intro w; go_simp; try with_reducible rfl
  try simp only [List.getElem_toArray, List.getElem_cons_succ, List.getElem_cons_zero, Act.put, List.setIfInBounds_toArray, List.set_cons_zero, List.set_cons_succ]
  refine wpAnyK_takeY (i := 16) (v := ?_) rfl (by kernel_rfl) (by kernel_rfl) (by kernel_rfl) (by kernel_rfl) (fun _ _ _ h => h) (Or.inl ⟨by rfl, ?_⟩) kk2 ?_
  case refine_2 => intro w; go_simp; try with_reducible rfl
  try simp only [List.getElem_toArray, List.getElem_cons_succ, List.getElem_cons_zero, Act.put, List.setIfInBounds_toArray, List.set_cons_zero, List.set_cons_succ]
  refine wpAnyK_takeY (i := 17) (v := ?_) rfl (by kernel_rfl) (by kernel_rfl) (by kernel_rfl) (by kernel_rfl) (fun _ _ _ h => h) (Or.inl ⟨by rfl, ?_⟩) kk2 ?_
  case refine_2 => intro w; go_simp; try with_reducible rfl
  try simp only [List.getElem_toArray, List.getElem_cons_succ, List.getElem_cons_zero, Act.put, List.setIfInBounds_toArray, List.set_cons_zero, List.set_cons_succ]
  have y1 : W2.cell? ⟨g, 1, none⟩ = some (.int .i64 (q : Int)) := kk2.cell 1
  have f1 : W2.frozen? ⟨g, 1, none⟩ = false := kk2.frozen 1
  have y2 : (W2.setCell ⟨g, 1, none⟩ (.int .i64 (q' : Int))).cell? ⟨g, 2, none⟩ = some (.int .i64 0) := (kk2.set_ 1 (.int .i64 (q' : Int))).cell 2
  have f2 : (W2.setCell ⟨g, 1, none⟩ (.int .i64 (q' : Int))).frozen? ⟨g, 2, none⟩ = false := (kk2.set_ 1 (.int .i64 (q' : Int))).frozen 2
  refine wpAnyK_ready (rs := [18]) (by kernel_rfl) (by simp) ?_
  refine AllReadyK.turn rfl (fun K hK => ?_) AllReadyK.nil
  go_simp
  refine hK.out _ _ ?_
  clear hK K
  try simp only [List.getElem_toArray, List.getElem_cons_succ, List.getElem_cons_zero, Act.put, List.setIfInBounds_toArray, List.set_cons_zero, List.set_cons_succ]
  refine wpAny_take (i := 19) (v := ?_) rfl (by kernel_rfl) (by kernel_rfl) (by kernel_rfl) (fun _ _ _ h => h) (Or.inl ⟨by rfl, ?_⟩) ?_
  case refine_2 => intro w; go_simp; try with_reducible rfl
  try simp only [List.getElem_toArray, List.getElem_cons_succ, List.getElem_cons_zero, Act.put, List.setIfInBounds_toArray, List.set_cons_zero, List.set_cons_succ]
  refine wpAny_take (i := 20) (v := ?_) rfl (by kernel_rfl) (by kernel_rfl) (by kernel_rfl) (fun _ _ _ h => h) (Or.inl ⟨by rfl, ?_⟩) ?_
  case refine_2 => intro w; go_simp; try with_reducible rfl
  try simp only [List.getElem_toArray, List.getElem_cons_succ, List.getElem_cons_zero, Act.put, List.setIfInBounds_toArray, List.set_cons_zero, List.set_cons_succ]
  refine wpAny_ready (rs := [21]) (by kernel_rfl) (by simp) ?_
  refine AllReady.cons rfl (fun K hK => ?_) AllReady.nil
  go_simp
  refine hK _ _ ?_
  clear hK K
  refine wpAny_done (by kernel_rfl) ?_ _
  refine NoPanic.normal ?_
  have k3 : Blk ((W2.setCell ⟨g, 1, none⟩ (.int .i64 (q' : Int))).setCell ⟨g, 2, none⟩ (.int .i64 e')) g 94 #[.slice A l.length c, .int .i64 (q' : Int), .int .i64 e'] := (kk2.set_ 1 (.int .i64 (q' : Int))).set_ 2 (.int .i64 e')
  have g3 : W2.grownBy ((W2.setCell ⟨g, 1, none⟩ (.int .i64 (q' : Int))).setCell ⟨g, 2, none⟩ (.int .i64 e')) (some g) := only_setCell (only_setCell (World.grownBy.refl W2 _) (p := ⟨g, 1, none⟩) (.inl rfl) _) (p := ⟨g, 2, none⟩) (.inl rfl) _
  clear y1 f1 y2 f2
  go_wp2_with fail
  go_ret
  have zd := bd.size
  have g03 := (only_of_below (bd.trans (bW.mono zd)) (some g)).trans g3
  exact ⟨D, d, rfl, OwnB.kept (oD.base zd) g3 (fun b hb e => by have h1 := (OwnB.lt oD b hb).1; have h2 := Option.some.inj e; omega), k3, g03⟩
set_option maxRecDepth 100000 in
theorem txt_bad (g : Nat) (A : Option Addr) (l : List UInt8) (c q : Nat) (e : Int) (he : e ≠ 0) (w : World) (hk : Blk w g 94 #[.slice A l.length c, .int .i64 (q : Int), .int .i64 e]) :
    Calls Try.prog 66 #[.pointer (some ⟨g, 0, none⟩)] w (RetNxT g A l c ([], q, e) w) := by
  have c2 : w.cell? ⟨g, 2, none⟩ = some (.int .i64 e) := hk.cell 2
  have d0 : (e != 0) = true := by rw [bne_iff_ne]; exact he
  clear he
  go_enter Try.func66, Try.ntmps66
  go_wp2_with fail
  go_ret
  exact ⟨none, 0, rfl, OwnB.nil_ _ _, hk, World.grownBy.refl _ _⟩
--END
/-- the error at the end -/
def doneE (l : List UInt8) (q : Nat) (e : Int) : Int := if e = 0 ∧ q < l.length then 3 else e
set_option maxHeartbeats 1000000 in
theorem done_any (g : Nat) (A : Option Addr) (l : List UInt8) (c q : Nat) (e : Int) (w : World) (hk : Blk w g 94 #[.slice A l.length c, .int .i64 (q : Int), .int .i64 e]) :
    Calls Try.prog 49 #[.pointer (some ⟨g, 0, none⟩)] w (Quietly (.int .i64 (doneE l q e)) w) := by
  have c0 : w.cell? ⟨g, 0, none⟩ = some (.slice A l.length c) := hk.cell 0
  have c1 : w.cell? ⟨g, 1, none⟩ = some (.int .i64 (q : Int)) := hk.cell 1
  have c2 : w.cell? ⟨g, 2, none⟩ = some (.int .i64 e) := hk.cell 2
  clear hk
  by_cases he : e = 0
  · subst he
    by_cases hq : q < l.length
    · have d1 : (q : Int) < (l.length : Int) := by omega
      have HE : Hid (doneE l q 0 = 3) := by show _ = _; unfold doneE; rw [if_pos ⟨rfl, hq⟩]
      go_enter Try.func49, Try.ntmps49
      go_wp2_with fail
      go_quiet (fail)
      go_wp2_with fail
      go_ret
      exact ⟨by rw [HE.out]; rfl, _, rfl⟩
    · have d1 : ¬ (q : Int) < (l.length : Int) := by omega
      have HE : Hid (doneE l q 0 = 0) := by show _ = _; unfold doneE; rw [if_neg (fun h => hq h.2)]
      go_enter Try.func49, Try.ntmps49
      go_wp2_with fail
      go_quiet (fail)
      go_wp2_with fail
      go_ret
      exact ⟨by rw [HE.out]; rfl, _, rfl⟩
  · have d0 : (e == 0) = false := by rw [beq_eq_false_iff_ne]; exact he
    have HE : Hid (doneE l q e = e) := by show _ = _; unfold doneE; rw [if_neg (fun h => he h.1)]
    clear he
    go_enter Try.func49, Try.ntmps49
    go_wp2_with fail
    go_quiet (fail)
    go_wp2_with fail
    go_ret
    exact ⟨by rw [HE.out]; rfl, _, rfl⟩
/-- a number, whatever has happened before -/
def nN (l : List UInt8) (q : Nat) (e : Int) : Nat × Nat × Int := if e ≠ 0 then (0, q, e) else nxtN l q
def tN (l : List UInt8) (q : Nat) (e : Int) : List UInt8 × Nat × Int := if e ≠ 0 then ([], q, e) else nxtT l q
theorem nN_le {l : List UInt8} {q : Nat} {e : Int} (hq : q ≤ l.length) : (nN l q e).2.1 ≤ l.length := by
  unfold nN
  split
  · exact hq
  · exact nxtN_le hq
theorem tN_le {l : List UInt8} {q : Nat} {e : Int} (hq : q ≤ l.length) : (tN l q e).2.1 ≤ l.length := by
  unfold tN
  split
  · exact hq
  · exact nxtT_le hq
theorem getF_u64 : ∀ (l : List UInt8) (i n : Nat), i ≤ 9 → n < 128 ^ i → U64 (getF l i n).1
  | [], i, n, _, _ => by unfold getF U64; omega
  | x :: l, i, n, hi, hn => by
    unfold getF
    split
    · show (0 : Nat) < _; omega
    · rename_i h
      split
      · rename_i h2
        show n + x.toNat % 128 * 128 ^ i < 18446744073709551616
        by_cases h9 : i = 9
        · subst h9
          have hx : x.toNat ≤ 1 := Nat.le_of_not_lt fun hx => h (.inl ⟨rfl, hx⟩)
          have h3 : x.toNat % 128 * 128 ^ 9 ≤ 1 * 128 ^ 9 := Nat.mul_le_mul_right _ (by omega)
          have h4 : (128 : Nat) ^ 9 = 9223372036854775808 := by decide
          rw [h4] at hn h3 ⊢
          omega
        · have h3 : x.toNat % 128 * 128 ^ i ≤ 127 * 128 ^ i := Nat.mul_le_mul_right _ (by omega)
          have h4 : n + x.toNat % 128 * 128 ^ i < 128 ^ (i + 1) := by rw [Nat.pow_succ]; omega
          have h5 : 128 ^ (i + 1) ≤ 128 ^ 9 := Nat.pow_le_pow_right (by omega) (by omega)
          have h6 : (128 : Nat) ^ 9 = 9223372036854775808 := by decide
          omega
      · rename_i h2
        have h9 : i ≠ 9 := fun e => by
          have : ¬ 1 < x.toNat := fun hx => h (.inl ⟨e, hx⟩)
          omega
        refine getF_u64 l (i + 1) _ (by omega) ?_
        have h3 : x.toNat % 128 * 128 ^ i ≤ 127 * 128 ^ i := Nat.mul_le_mul_right _ (by omega)
        rw [Nat.pow_succ]
        omega
theorem nN_u64 (l : List UInt8) (q : Nat) (e : Int) : U64 (nN l q e).1 := by
  unfold nN
  split
  · show (0 : Nat) < _; omega
  · exact getF_u64 _ 0 0 (by omega) (by decide)
theorem numN (g : Nat) (A : Option Addr) (l : List UInt8) (c q : Nat) (e : Int) (w : World) (hk : Blk w g 94 #[.slice A l.length c, .int .i64 (q : Int), .int .i64 e]) (hb : Bs w A l) (hq : q ≤ l.length) :
    Calls Try.prog 48 #[.pointer (some ⟨g, 0, none⟩)] w (RetNxN g A l c (nN l q e) w) := by
  unfold nN
  by_cases he : e ≠ 0
  · rw [if_pos he]; exact num_bad g A l c q e he w hk
  · rw [if_neg he]
    obtain rfl : e = 0 := Classical.byContradiction he
    exact num_any g A l c q w hk hb hq
theorem txtN (g : Nat) (A : Option Addr) (l : List UInt8) (c q : Nat) (e : Int) (w : World) (hk : Blk w g 94 #[.slice A l.length c, .int .i64 (q : Int), .int .i64 e]) (hb : Bs w A l) (hq : q ≤ l.length) (hl5 : l.length ≤ 1099511627776) :
    Calls Try.prog 66 #[.pointer (some ⟨g, 0, none⟩)] w (RetNxT g A l c (tN l q e) w) := by
  unfold tN
  by_cases he : e ≠ 0
  · rw [if_pos he]; exact txt_bad g A l c q e he w hk
  · rw [if_neg he]
    obtain rfl : e = 0 := Classical.byContradiction he
    exact txt_any g A l c q w hk hb hq hl5
end Go.Proofs.Ytmgibpedclngpaa
