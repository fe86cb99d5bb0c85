/- A file out of a part: manifest.file. -/
import Derived.Test.YtmgibpedclngpaaMRead
namespace Go.Proofs.Ytmgibpedclngpaa
open Go.RowKit

/-- the file of a part, and the error -/
def fileR (p : List UInt8) : LFile × Int :=
  let r1 := nN p 0 0
  let r2 := nN p r1.2.1 r1.2.2
  let r3 := nN p r2.2.1 r2.2.2
  let r4 := nN p r3.2.1 r3.2.2
  let t1 := tN p r4.2.1 r4.2.2
  let t2 := tN p t1.2.1 t1.2.2
  (⟨r1.1, toI r2.1, t1.1, t2.1, toI r3.1, toI r4.1⟩, doneE p t2.2.1 t2.2.2)
theorem fileR_wf (p : List UInt8) : (fileR p).1.wf := ⟨nN_u64 _ _ _, toI_i64 (nN_u64 _ _ _), toI_i64 (nN_u64 _ _ _), toI_i64 (nN_u64 _ _ _)⟩
theorem fileR_eq {p : List UInt8} {n1 n2 n3 n4 q1 q2 q3 q4 q5 q6 : Nat} {e1 e2 e3 e4 e5 e6 : Int} {t1 t2 : List UInt8} (h1 : Hid (nN p 0 0 = (n1, q1, e1))) (h2 : Hid (nN p q1 e1 = (n2, q2, e2))) (h3 : Hid (nN p q2 e2 = (n3, q3, e3))) (h4 : Hid (nN p q3 e3 = (n4, q4, e4)))
    (h5 : Hid (tN p q4 e4 = (t1, q5, e5))) (h6 : Hid (tN p q5 e5 = (t2, q6, e6))) : fileR p = (⟨n1, toI n2, t1, t2, toI n3, toI n4⟩, doneE p q6 e6) := by
  have h1' := h1.out
  have h2' := h2.out
  have h3' := h3.out
  have h4' := h4.out
  have h5' := h5.out
  have h6' := h6.out
  unfold fileR
  simp only [h1', h2', h3', h4', h5', h6']
/-- a file is answered, and an error; its texts lie in rows of their own, apart from each other -/
def RetFile (r : LFile × Int) (w : World) (en : Ending) (w' : World) : Prop :=
  ∃ A c B d, en = .returned (.tuple #[.agg #[.slice A r.1.first.length c, .slice B r.1.last.length d, .int .i64 r.1.count, .int .i64 r.1.size, .int .u64 (r.1.num : Int), .int .i64 r.1.level], .int .i64 r.2]) ∧ OwnB w.heap.size w' A r.1.first c ∧ OwnB w.heap.size w' B r.1.last d ∧
    (∀ b, (Value.slice A r.1.first.length c).ownBlock = some b → (Value.slice B r.1.last.length d).ownBlock ≠ some b) ∧ Below w.heap.size w w'
theorem Try.size_File : (Try.prog.info? 66).map (·.size) = some 6 := by kernel_rfl
set_option maxRecDepth 100000 in
set_option maxHeartbeats 8000000 in
theorem mfile_any (A : Option Addr) (p : List UInt8) (c : Nat) (w : World) (hb : Bs w A p) (hp : p.length ≤ 1099511627776) : Calls Try.prog 50 #[.slice A p.length c] w (RetFile (fileR p) w) := by
  have b0 : Below w.heap.size w ((w.alloc (.cells #[.slice none 0 0, .slice none 0 0, .int .i64 0, .int .i64 0, .int .u64 0, .int .i64 0] 66)).alloc (.cells #[.slice A p.length c, .int .i64 0, .int .i64 0] 94)) := ((Below.refl _ _).alloc (Nat.le_refl _) _).alloc (by simp) _
  have kP : Blk ((w.alloc (.cells #[.slice none 0 0, .slice none 0 0, .int .i64 0, .int .i64 0, .int .u64 0, .int .i64 0] 66)).alloc (.cells #[.slice A p.length c, .int .i64 0, .int .i64 0] 94)) w.heap.size 66 #[.slice none 0 0, .slice none 0 0, .int .i64 0, .int .i64 0, .int .u64 0, .int .i64 0] := (Blk.new w _ _).alloc _
  have kg : Blk ((w.alloc (.cells #[.slice none 0 0, .slice none 0 0, .int .i64 0, .int .i64 0, .int .u64 0, .int .i64 0] 66)).alloc (.cells #[.slice A p.length c, .int .i64 0, .int .i64 0] 94)) (w.heap.size + 1) 94 #[.slice A p.length c, .int .i64 ((0 : Nat) : Int), .int .i64 0] := heap_alloc2_new w _ _
  have hbS : At (fun b => b < w.heap.size) A p.length := fun ad e hn => by obtain ⟨a2, e2, h1, _⟩ := hb.1.2 hn; obtain rfl := Option.some.inj (e.symm.trans e2); exact h1
  have hb0 := hb.below b0
  go_enter Try.func50, Try.ntmps50
  go_wp2_with fail
  generalize ((w.alloc (.cells #[.slice none 0 0, .slice none 0 0, .int .i64 0, .int .i64 0, .int .u64 0, .int .i64 0] 66)).alloc (.cells #[.slice A p.length c, .int .i64 0, .int .i64 0] 94)) = W0 at *
  have lg := kg.lt
  have T := numN (w.heap.size + 1) A p c 0 0 W0 kg hb0 (Nat.zero_le _)
  obtain ⟨⟨n1, q1, e1⟩, hr1⟩ : ∃ r, nN p 0 0 = r := ⟨_, rfl⟩
  have hq1 : q1 ≤ p.length := by have := nN_le (e := 0) (Nat.zero_le p.length); rw [hr1] at this; exact this
  have hu1 : U64 n1 := by have := nN_u64 p 0 0; rw [hr1] at this; exact this
  rw [hr1] at T
  have HR1 := Lib.hid hr1
  clear hr1
  refine T.mono ?_
  clear T kg
  rintro en w1 ⟨rfl, kg, g1⟩
  replace kg : Blk w1 (w.heap.size + 1) 94 #[.slice A p.length c, .int .i64 (q1 : Int), .int .i64 e1] := kg
  have kP1 := kP.grown g1 (by intro e; have := Option.some.inj e; omega)
  have HS1 : Hid (∀ b, b < w.heap.size → some (w.heap.size + 1) ≠ some b) := fun b hb e => by have := Option.some.inj e; omega
  have hb1 := hb0.sameS hbS (.of_grown g1 (fun b hb => HS1.out b hb))
  have b1 := b0.grown g1 b0.size (fun j e => by have := Option.some.inj e; omega)
  clear kP hb0 b0 g1 lg
  go_wp2_with fail
  have T := numN (w.heap.size + 1) A p c q1 e1 w1 kg hb1 hq1
  obtain ⟨⟨n2, q2, e2⟩, hr2⟩ : ∃ r, nN p q1 e1 = r := ⟨_, rfl⟩
  have hq2 : q2 ≤ p.length := by have := nN_le (e := e1) hq1; rw [hr2] at this; exact this
  have hu2 : U64 n2 := by have := nN_u64 p q1 e1; rw [hr2] at this; exact this
  rw [hr2] at T
  have HR2 := Lib.hid hr2
  clear hr2
  refine T.mono ?_
  clear T kg
  rintro en w2 ⟨rfl, kg, g2⟩
  replace kg : Blk w2 (w.heap.size + 1) 94 #[.slice A p.length c, .int .i64 (q2 : Int), .int .i64 e2] := kg
  have kP2 := kP1.grown g2 (by intro e; have := Option.some.inj e; omega)
  have hb2 := hb1.sameS hbS (.of_grown g2 (fun b hb => HS1.out b hb))
  have b2 := b1.grown g2 b1.size (fun j e => by have := Option.some.inj e; omega)
  have hw2 := wrap_toI hu2
  clear kP1 hb1 b1 g2
  have dV : Below w2.heap.size w2 (w2.alloc (.cells #[.slice none 0 0, .slice none 0 0, .int .i64 0, .int .i64 0, .int .u64 (n1 : Int), .int .i64 (toI n2)] 66)) := (Below.refl _ _).alloc (Nat.le_refl _) _
  have kF := Blk.new w2 66 #[.slice none 0 0, .slice none 0 0, .int .i64 0, .int .i64 0, .int .u64 (n1 : Int), .int .i64 (toI n2)]
  have kPV := kP2.below dV kP2.lt
  have kgV := kg.below dV kg.lt
  have hbV := hb2.below dV
  have bV := b2.trans (dV.mono b2.size)
  have lg2 := kg.lt
  clear kP2 kg hb2 b2 dV
  go_wp2_with fail
  clear hw2
  generalize (w2.alloc (.cells #[.slice none 0 0, .slice none 0 0, .int .i64 0, .int .i64 0, .int .u64 (n1 : Int), .int .i64 (toI n2)] 66)) = V at *
  have T := numN (w.heap.size + 1) A p c q2 e2 V kgV hbV hq2
  obtain ⟨⟨n3, q3, e3⟩, hr3⟩ : ∃ r, nN p q2 e2 = r := ⟨_, rfl⟩
  have hq3 : q3 ≤ p.length := by have := nN_le (e := e2) hq2; rw [hr3] at this; exact this
  have hu3 : U64 n3 := by have := nN_u64 p q2 e2; rw [hr3] at this; exact this
  rw [hr3] at T
  have HR3 := Lib.hid hr3
  clear hr3
  refine T.mono ?_
  clear T
  rintro en w3 ⟨rfl, kg3, g3⟩
  replace kg3 : Blk w3 (w.heap.size + 1) 94 #[.slice A p.length c, .int .i64 (q3 : Int), .int .i64 e3] := kg3
  have kP3 := kPV.grown g3 (by intro e; have := Option.some.inj e; omega)
  have kF3 := kF.grown g3 (by intro e; have := Option.some.inj e; omega)
  have hb3 := hbV.sameS hbS (.of_grown g3 (fun b hb => HS1.out b hb))
  have b3 := bV.grown g3 bV.size (fun j e => by have := Option.some.inj e; omega)
  clear kPV kgV hbV bV kF g3
  have hw3 := wrap_toI hu3
  go_wp2_with fail
  have T := numN (w.heap.size + 1) A p c q3 e3 w3 kg3 hb3 hq3
  obtain ⟨⟨n4, q4, e4⟩, hr4⟩ : ∃ r, nN p q3 e3 = r := ⟨_, rfl⟩
  have hq4 : q4 ≤ p.length := by have := nN_le (e := e3) hq3; rw [hr4] at this; exact this
  have hu4 : U64 n4 := by have := nN_u64 p q3 e3; rw [hr4] at this; exact this
  rw [hr4] at T
  have HR4 := Lib.hid hr4
  clear hr4
  refine T.mono ?_
  clear T
  rintro en w4 ⟨rfl, kg4, g4⟩
  replace kg4 : Blk w4 (w.heap.size + 1) 94 #[.slice A p.length c, .int .i64 (q4 : Int), .int .i64 e4] := kg4
  have kP4 := kP3.grown g4 (by intro e; have := Option.some.inj e; omega)
  have kF4 := kF3.grown g4 (by intro e; have := Option.some.inj e; omega)
  have hb4 := hb3.sameS hbS (.of_grown g4 (fun b hb => HS1.out b hb))
  have b4 := b3.grown g4 b3.size (fun j e => by have := Option.some.inj e; omega)
  clear kP3 kg3 hb3 b3 kF3 g4
  have hw4 := wrap_toI hu4
  have x2 : w4.cell? ⟨w2.heap.size, 2, none⟩ = some (.int .i64 0) := kF4.cell 2
  have f2 : w4.frozen? ⟨w2.heap.size, 2, none⟩ = false := kF4.frozen 2
  have x3 : (w4.setCell ⟨w2.heap.size, 2, none⟩ (.int .i64 (toI n3))).cell? ⟨w2.heap.size, 3, none⟩ = some (.int .i64 0) := (kF4.set_ 2 (.int .i64 (toI n3))).cell 3
  have f3 : (w4.setCell ⟨w2.heap.size, 2, none⟩ (.int .i64 (toI n3))).frozen? ⟨w2.heap.size, 3, none⟩ = false := (kF4.set_ 2 (.int .i64 (toI n3))).frozen 3
  have kF5 : Blk ((w4.setCell ⟨w2.heap.size, 2, none⟩ (.int .i64 (toI n3))).setCell ⟨w2.heap.size, 3, none⟩ (.int .i64 (toI n4))) w2.heap.size 66 #[.slice none 0 0, .slice none 0 0, .int .i64 (toI n3), .int .i64 (toI n4), .int .u64 (n1 : Int), .int .i64 (toI n2)] := (kF4.set_ 2 (.int .i64 (toI n3))).set_ 3 (.int .i64 (toI n4))
  have g5 : w4.grownBy ((w4.setCell ⟨w2.heap.size, 2, none⟩ (.int .i64 (toI n3))).setCell ⟨w2.heap.size, 3, none⟩ (.int .i64 (toI n4))) (some w2.heap.size) := only_setCell (only_setCell (World.grownBy.refl w4 _) (p := ⟨w2.heap.size, 2, none⟩) (.inl rfl) _) (p := ⟨w2.heap.size, 3, none⟩) (.inl rfl) _
  have HS2 : Hid (∀ b, b < w.heap.size → some w2.heap.size ≠ some b) := fun b hb e => by have := Option.some.inj e; omega
  have kP5 := kP4.grown g5 (by intro e; have := Option.some.inj e; omega)
  have kg5 := kg4.grown g5 (by intro e; have := Option.some.inj e; omega)
  have hb5 := hb4.sameS hbS (.of_grown g5 (fun b hb => HS2.out b hb))
  have b5 := b4.grown g5 b4.size (fun j e => by have := Option.some.inj e; omega)
  clear kF4 g5 kP4 kg4 hb4 b4
  go_wp2_with fail
  clear x2 f2 x3 f3 hw3 hw4
  generalize ((w4.setCell ⟨w2.heap.size, 2, none⟩ (.int .i64 (toI n3))).setCell ⟨w2.heap.size, 3, none⟩ (.int .i64 (toI n4))) = w5 at *
  have z5 := kF5.lt
  have T := txtN (w.heap.size + 1) A p c q4 e4 w5 kg5 hb5 hq4 hp
  obtain ⟨⟨t1, q6, e6⟩, hr6⟩ : ∃ r, tN p q4 e4 = r := ⟨_, rfl⟩
  have hq6 : q6 ≤ p.length := by have := tN_le (e := e4) hq4; rw [hr6] at this; exact this
  rw [hr6] at T
  have HR6 := Lib.hid hr6
  clear hr6
  refine T.mono ?_
  clear T
  rintro en w6 ⟨D1, d1, rfl, oD1, kg6, g6⟩
  replace kg6 : Blk w6 (w.heap.size + 1) 94 #[.slice A p.length c, .int .i64 (q6 : Int), .int .i64 e6] := kg6
  replace oD1 : OwnB w5.heap.size w6 D1 t1 d1 := oD1
  have Z56 := Lib.hid g6.size
  have kP6 := kP5.grown g6 (by intro e; have := Option.some.inj e; omega)
  have kF6 := kF5.grown g6 (by intro e; have := Option.some.inj e; omega)
  have hb6 := hb5.sameS hbS (.of_grown g6 (fun b hb => HS1.out b hb))
  have b6 := b5.grown g6 b5.size (fun j e => by have := Option.some.inj e; omega)
  clear kP5 kg5 hb5 b5 kF5 g6
  go_wp2_with fail
  have T := txtN (w.heap.size + 1) A p c q6 e6 w6 kg6 hb6 hq6 hp
  obtain ⟨⟨t2, q7, e7⟩, hr7⟩ : ∃ r, tN p q6 e6 = r := ⟨_, rfl⟩
  have hq7 : q7 ≤ p.length := by have := tN_le (e := e6) hq6; rw [hr7] at this; exact this
  rw [hr7] at T
  have HR7 := Lib.hid hr7
  clear hr7
  refine T.mono ?_
  clear T
  rintro en w7 ⟨D2, d2, rfl, oD2, kg7, g7⟩
  replace kg7 : Blk w7 (w.heap.size + 1) 94 #[.slice A p.length c, .int .i64 (q7 : Int), .int .i64 e7] := kg7
  replace oD2 : OwnB w6.heap.size w7 D2 t2 d2 := oD2
  have kP7 := kP6.grown g7 (by intro e; have := Option.some.inj e; omega)
  have kF7 := kF6.grown g7 (by intro e; have := Option.some.inj e; omega)
  have hb7 := hb6.sameS hbS (.of_grown g7 (fun b hb => HS1.out b hb))
  have b7 := b6.grown g7 b6.size (fun j e => by have := Option.some.inj e; omega)
  have oD17 : OwnB w5.heap.size w7 D1 t1 d1 := OwnB.kept oD1 g7 (fun b hb e => by have h1 := (OwnB.lt oD1 b hb).1; have h2 := Option.some.inj e; omega)
  have HNE : Hid (∀ b, (Value.slice D1 t1.length d1).ownBlock = some b → (Value.slice D2 t2.length d2).ownBlock ≠ some b) := fun b h1 h2 => by have h3 := (OwnB.lt oD1 b h1).2; have h4 := (OwnB.lt oD2 b h2).1; omega
  clear kP6 kg6 hb6 b6 kF6 g7
  have x0 : w7.cell? ⟨w2.heap.size, 0, none⟩ = some (.slice none 0 0) := kF7.cell 0
  have f0 : w7.frozen? ⟨w2.heap.size, 0, none⟩ = false := kF7.frozen 0
  have x1 : (w7.setCell ⟨w2.heap.size, 0, none⟩ (.slice D1 t1.length d1)).cell? ⟨w2.heap.size, 1, none⟩ = some (.slice none 0 0) := (kF7.set_ 0 (.slice D1 t1.length d1)).cell 1
  have f1 : (w7.setCell ⟨w2.heap.size, 0, none⟩ (.slice D1 t1.length d1)).frozen? ⟨w2.heap.size, 1, none⟩ = false := (kF7.set_ 0 (.slice D1 t1.length d1)).frozen 1
  have kF8 : Blk ((w7.setCell ⟨w2.heap.size, 0, none⟩ (.slice D1 t1.length d1)).setCell ⟨w2.heap.size, 1, none⟩ (.slice D2 t2.length d2)) w2.heap.size 66 #[.slice D1 t1.length d1, .slice D2 t2.length d2, .int .i64 (toI n3), .int .i64 (toI n4), .int .u64 (n1 : Int), .int .i64 (toI n2)] := (kF7.set_ 0 (.slice D1 t1.length d1)).set_ 1 (.slice D2 t2.length d2)
  have g8 : w7.grownBy ((w7.setCell ⟨w2.heap.size, 0, none⟩ (.slice D1 t1.length d1)).setCell ⟨w2.heap.size, 1, none⟩ (.slice D2 t2.length d2)) (some w2.heap.size) := only_setCell (only_setCell (World.grownBy.refl w7 _) (p := ⟨w2.heap.size, 0, none⟩) (.inl rfl) _) (p := ⟨w2.heap.size, 1, none⟩) (.inl rfl) _
  have kP8 := kP7.grown g8 (by intro e; have := Option.some.inj e; omega)
  have kg8 := kg7.grown g8 (by intro e; have := Option.some.inj e; omega)
  have b8 := b7.grown g8 b7.size (fun j e => by have := Option.some.inj e; omega)
  have z6 := oD1.lt
  have o18 := OwnB.kept oD17 g8 (fun b hb e => by have h1 := (OwnB.lt oD17 b hb).1; have h2 := Option.some.inj e; omega)
  have z56 : w5.heap.size ≤ w6.heap.size := Z56.out
  have o28 := OwnB.kept oD2 g8 (fun b hb e => by have h1 := (OwnB.lt oD2 b hb).1; have h2 := Option.some.inj e; omega)
  clear kF7 g8 kP7 kg7 b7 hb7 oD17 oD1 oD2 z6
  go_upto_region 5 with fail
  clear x0 f0 x1 f1
  generalize ((w7.setCell ⟨w2.heap.size, 0, none⟩ (.slice D1 t1.length d1)).setCell ⟨w2.heap.size, 1, none⟩ (.slice D2 t2.length d2)) = w8 at *
  have HFE := fileR_eq HR1 HR2 HR3 HR4 HR6 HR7
  have HE := Lib.hid HFE
  clear HFE
  refine wp_region_noPanic ?_
  refine wp_region_heldK (fun W => Blk W w2.heap.size 66 #[.slice D1 t1.length d1, .slice D2 t2.length d2, .int .i64 (toI n3), .int .i64 (toI n4), .int .u64 (n1 : Int), .int .i64 (toI n2)]) 3 (by kernel_rfl) kF8.drew (fun hH => ?_)
  have kFd := kF8.drew
  have kPd := kP8.drew
  have kgd := kg8.drew
  have bd := b8.drew
  have o1d := OwnB.below o18 ((Below.refl _ _).drew)
  have o2d := OwnB.below o28 ((Below.refl _ _).drew)
  clear kF8 kP8 kg8 b8 o18 o28 hH
  generalize w8.drew = W at *
  refine wpAnyK_take (i := 0) (v := ?_) rfl (by kernel_rfl) (by kernel_rfl) (by kernel_rfl) (by kernel_rfl) (fun _ _ _ h => h) (Or.inl ⟨by rfl, ?_⟩) kFd ?_
  case refine_2 => intro w hSw; have y0 : w.cell? ⟨w2.heap.size, 0, none⟩ = some (.slice D1 t1.length d1) := Blk.cell hSw 0; have y1 : w.cell? ⟨w2.heap.size, 1, none⟩ = some (.slice D2 t2.length d2) := Blk.cell hSw 1; have y2 : w.cell? ⟨w2.heap.size, 2, none⟩ = some (.int .i64 (toI n3)) := Blk.cell hSw 2; have y3 : w.cell? ⟨w2.heap.size, 3, none⟩ = some (.int .i64 (toI n4)) := Blk.cell hSw 3; have y4 : w.cell? ⟨w2.heap.size, 4, none⟩ = some (.int .u64 (n1 : Int)) := Blk.cell hSw 4; have y5 : w.cell? ⟨w2.heap.size, 5, none⟩ = some (.int .i64 (toI n2)) := Blk.cell hSw 5; go_simp; try with_reducible rfl
  try simp only [List.getElem_toArray, List.getElem_cons_zero, Act.put, List.setIfInBounds_toArray, List.set_cons_zero, List.set_cons_succ]
  refine wpAnyK_takeY (i := 1) (v := ?_) rfl (by kernel_rfl) (by kernel_rfl) (by kernel_rfl) (by kernel_rfl) (fun _ _ _ h => h) (Or.inl ⟨by rfl, ?_⟩) kFd ?_
  case refine_2 => intro w; go_simp; try with_reducible rfl
  try simp only [List.getElem_toArray, List.getElem_cons_succ, List.getElem_cons_zero, Act.put, List.setIfInBounds_toArray, List.set_cons_zero, List.set_cons_succ]
  refine wpAnyK_ready (rs := [2]) (by kernel_rfl) (by simp) ?_
  refine AllReadyK.cons rfl (by kernel_rfl) (fun K hK => ?_) AllReadyK.nil
  go_simp
  refine (done_any (w.heap.size + 1) A p c q7 e7 W kgd).mono ?_
  rintro en W2 ⟨rfl, m, rfl⟩
  refine hK.out _ _ (kFd.drewN m) ?_
  clear hK K
  try dsimp only
  try simp only [List.getElem_toArray, List.getElem_cons_succ, List.getElem_cons_zero, Act.put, List.setIfInBounds_toArray, List.set_cons_zero, List.set_cons_succ]
  refine wpAnyK_ready (rs := [3]) (by kernel_rfl) (by simp) ?_
  refine AllReadyK.turn rfl (fun K hK => ?_) AllReadyK.nil
  refine step_store_blk rfl 66 (.tmp 2) (.tmp 33) rfl w.heap.size 66 #[.slice none 0 0, .slice none 0 0, .int .i64 0, .int .i64 0, .int .u64 0, .int .i64 0] #[.slice D1 t1.length d1, .slice D2 t2.length d2, .int .i64 (toI n3), .int .i64 (toI n4), .int .u64 (n1 : Int), .int .i64 (toI n2)] rfl rfl (kPd.drewN m) Try.size_File rfl rfl (by simp [Value.oneCell']) ?_
  intro w9 kz9 g9 z9
  refine hK.out _ _ ?_
  clear hK K
  try simp only [List.getElem_toArray, List.getElem_cons_succ, List.getElem_cons_zero, Act.put]
  refine wpAny_take (i := 4) (v := ?_) rfl (by kernel_rfl) (by kernel_rfl) (by kernel_rfl) (fun _ _ _ h => h) (Or.inl ⟨by rfl, ?_⟩) ?_
  case refine_2 => intro w; go_simp; try with_reducible rfl
  try simp only [List.getElem_toArray, List.getElem_cons_succ, List.getElem_cons_zero, Act.put, List.setIfInBounds_toArray, List.set_cons_zero, List.set_cons_succ]
  refine wpAny_done (by kernel_rfl) ?_ _
  refine NoPanic.normal ?_
  have bm := below_drewN bd m
  have b9 := bm.grown g9 bm.size (fun j e => by have := Option.some.inj e; omega)
  have o19 := OwnB.kept (OwnB.below o1d (below_drewN (Below.refl _ _) m)) g9 (fun b hb e => by have h1 := (OwnB.lt o1d b hb).1; have h2 := Option.some.inj e; omega)
  have o29 := OwnB.kept (OwnB.below o2d (below_drewN (Below.refl _ _) m)) g9 (fun b hb e => by have h1 := (OwnB.lt o2d b hb).1; have h2 := Option.some.inj e; omega)
  go_wp2_with fail
  exact bodyPost_ret (results_cell2 rfl rfl rfl kz9 Try.underlying66 rfl Try.size_File) rfl (by rw [HE.out]; exact ⟨D1, d1, D2, d2, rfl, o19.base (by omega), o29.base (by omega), HNE.out, b9⟩)
end Go.Proofs.Ytmgibpedclngpaa
