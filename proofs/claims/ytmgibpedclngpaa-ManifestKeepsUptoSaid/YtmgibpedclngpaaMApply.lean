/- An edit put upon a version, at most one file in all: manifest.Apply. (Printed by wip/gen_mapply.py.) -/
import Derived.Test.YtmgibpedclngpaaMTwin
import Derived.Test.YtmgibpedclngpaaMRight
namespace Go.Proofs.Ytmgibpedclngpaa
open Go.RowKit

def nextA : List LFile → Nat → Nat
  | [], next => next
  | f :: _, next => max next (f.num + 1)
/-- what Apply answers -/
def RetApply (xs : List LFile) (next seq : Nat) (w : World) (en : Ending) (w' : World) : Prop :=
  Below w.heap.size w w' ∧ ((right1 xs next = true ∧ ∃ R r, en = .returned (.tuple #[.agg #[.slice R xs.length r, .int .u64 (next : Int), .int .u64 (seq : Int)], .int .i64 0]) ∧ Own FEO 66 w' w.heap.size (fun b => w.heap.size ≤ b) (.slice R xs.length r) xs) ∨
    (right1 xs next = false ∧ en = .returned (.tuple #[.agg #[.slice none 0 0, .int .u64 0, .int .u64 0], .int .i64 3])))
theorem wrapU {n : Int} (h0 : 0 ≤ n) (h : n < 18446744073709551616) : IntKind.u64.wrap n = n := by
  simp only [IntKind.wrap]
  split <;> simp_all [IntKind.bits, IntKind.signed] <;> omega
theorem Try.size_MVer : (Try.prog.info? 30).map (·.size) = some 3 := by kernel_rfl

set_option maxRecDepth 100000 in
set_option maxHeartbeats 8000000 in
theorem apply_one (fs gs : List LFile) (next vseq eseq : Nat) (A B : Option Addr) (a b : Nat) (w : World) (hA : Sl FE w A fs) (hB : Sl FE w B gs) (h1 : fs.length + gs.length ≤ 1) (hr : right1 fs next = true) (hlt : ∀ f ∈ gs, f.num < 18446744073709551615) (hs : vseq ≤ eseq) : Calls Try.prog 11 #[.agg #[.slice A fs.length a, .int .u64 (next : Int), .int .u64 (vseq : Int)], .agg #[.bool false, .slice B gs.length b, .slice none 0 0, .int .u64 (eseq : Int)]] w (RetApply (fs ++ gs) (nextA gs next) eseq w) := by
  obtain ⟨i2, hi2, hx0, hx1, hx2⟩ := info_parts Try.infoFile
  have HLT := Lib.hid hlt
  clear hlt
  have b0 : Below w.heap.size w (((w.alloc (.cells #[.slice A fs.length a, .int .u64 (next : Int), .int .u64 (vseq : Int)] 30)).alloc (.cells #[.bool false, .slice B gs.length b, .slice none 0 0, .int .u64 (eseq : Int)] 42)).alloc (.cells #[.slice none 0 0, .int .u64 0, .int .u64 0] 30)) := (((Below.refl _ _).alloc (Nat.le_refl _) _).alloc (by simp) _).alloc (by simp; omega) _
  have kV : Blk (((w.alloc (.cells #[.slice A fs.length a, .int .u64 (next : Int), .int .u64 (vseq : Int)] 30)).alloc (.cells #[.bool false, .slice B gs.length b, .slice none 0 0, .int .u64 (eseq : Int)] 42)).alloc (.cells #[.slice none 0 0, .int .u64 0, .int .u64 0] 30)) w.heap.size 30 #[.slice A fs.length a, .int .u64 (next : Int), .int .u64 (vseq : Int)] := ((Blk.new w _ _).alloc _).alloc _
  have kE : Blk (((w.alloc (.cells #[.slice A fs.length a, .int .u64 (next : Int), .int .u64 (vseq : Int)] 30)).alloc (.cells #[.bool false, .slice B gs.length b, .slice none 0 0, .int .u64 (eseq : Int)] 42)).alloc (.cells #[.slice none 0 0, .int .u64 0, .int .u64 0] 30)) (w.heap.size + 1) 42 #[.bool false, .slice B gs.length b, .slice none 0 0, .int .u64 (eseq : Int)] := Blk.alloc (heap_alloc2_new w _ _) _
  have kR : Blk (((w.alloc (.cells #[.slice A fs.length a, .int .u64 (next : Int), .int .u64 (vseq : Int)] 30)).alloc (.cells #[.bool false, .slice B gs.length b, .slice none 0 0, .int .u64 (eseq : Int)] 42)).alloc (.cells #[.slice none 0 0, .int .u64 0, .int .u64 0] 30)) (w.heap.size + 1 + 1) 30 #[.slice none 0 0, .int .u64 0, .int .u64 0] := by
    have h := Blk.new ((w.alloc (.cells #[.slice A fs.length a, .int .u64 (next : Int), .int .u64 (vseq : Int)] 30)).alloc (.cells #[.bool false, .slice B gs.length b, .slice none 0 0, .int .u64 (eseq : Int)] 42)) 30 #[.slice none 0 0, .int .u64 0, .int .u64 0]
    have hsz : ((w.alloc (.cells #[.slice A fs.length a, .int .u64 (next : Int), .int .u64 (vseq : Int)] 30)).alloc (.cells #[.bool false, .slice B gs.length b, .slice none 0 0, .int .u64 (eseq : Int)] 42)).heap.size = w.heap.size + 1 + 1 := by simp
    rw [hsz] at h
    exact h
  go_enter Try.func11, Try.ntmps11
  go_upto_region 1 with fail
  generalize Value.agg #[.slice A fs.length a, .int .u64 (next : Int), .int .u64 (vseq : Int)] = av
  generalize Value.agg #[.bool false, .slice B gs.length b, .slice none 0 0, .int .u64 (eseq : Int)] = ae
  generalize (((w.alloc (.cells #[.slice A fs.length a, .int .u64 (next : Int), .int .u64 (vseq : Int)] 30)).alloc (.cells #[.bool false, .slice B gs.length b, .slice none 0 0, .int .u64 (eseq : Int)] 42)).alloc (.cells #[.slice none 0 0, .int .u64 0, .int .u64 0] 30)) = W at *
  have zR := kR.lt
  have T := right_one fs next vseq A a W (hA.below b0) (by omega)
  rw [hr] at T
  go_wp2_with ((with_reducible refine wpList_load_blk rfl 30 (.tmp 2) rfl w.heap.size ?_ 30 _ _ kV Try.underlying30 ?_ Try.size_MVer ?_ ?_); rfl; rfl; rfl)
  refine T.mono ?_
  clear T
  rintro en w1 ⟨rfl, b1⟩
  have kV1 := kV.below b1 kV.lt
  have kE1 := kE.below b1 kE.lt
  have kR1 := kR.below b1 kR.lt
  have b01 := b0.trans (b1.mono b0.size)
  have zb := b1.size
  clear kV kE kR b0 b1
  have x0 : w1.cell? ⟨w.heap.size + 1, 0, none⟩ = some (.bool false) := kE1.cell 0
  have y0 : w1.cell? ⟨w.heap.size, 0, none⟩ = some (.slice A fs.length a) := kV1.cell 0
  have T := twins_any fs A a w1 (hA.below b01) (by omega)
  go_wp2_with fail
  refine T.mono ?_
  clear T x0 y0
  rintro en w2 ⟨R, r, rfl, oX, b2⟩
  have kV2 := kV1.below b2 kV1.lt
  have kE2 := kE1.below b2 kE1.lt
  have kR2 := kR1.below b2 kR1.lt
  have b02 := b01.trans (b2.mono b01.size)
  have z12 := b2.size
  have lR := kR1.lt
  clear kV1 kE1 kR1 b01 b2
  have x2 : w2.cell? ⟨w.heap.size + 1, 2, none⟩ = some (.slice none 0 0) := kE2.cell 2
  go_wp2_with fail
  clear x2
  go_loopw [6, 27] (fun v i wr => v = .slice R fs.length r ∧ i = .int .i64 0 ∧ wr = w2) (fun _ _ _ => 0)
  case atStart => exact ⟨rfl, rfl, rfl⟩
  case round =>
    obtain ⟨rfl, rfl, hwr⟩ := hrel
    subst hwr
    skip
    have y1 : wr.cell? ⟨w.heap.size, 1, none⟩ = some (.int .u64 (next : Int)) := kV2.cell 1
    have x1 : wr.cell? ⟨w.heap.size + 1, 1, none⟩ = some (.slice B gs.length b) := kE2.cell 1
    go_wp2_with fail
    clear x1 y1
    generalize wr = w2 at *
    go_loopw [6, 10, 12, 48] (fun v nx _ i wr => ∃ (n : Nat) (xs : List LFile) (R : Option Addr) (r : Nat), n ≤ gs.length ∧ i = .int .i64 (n : Int) ∧ xs = fs ++ gs.take n ∧ v = .slice R xs.length r ∧ nx = .int .u64 (nextA (gs.take n) next : Int) ∧ Own FEO 66 wr w1.heap.size (fun b => w1.heap.size ≤ b) (.slice R xs.length r) xs ∧ Blk wr w.heap.size 30 #[.slice A fs.length a, .int .u64 (next : Int), .int .u64 (vseq : Int)] ∧ Blk wr (w.heap.size + 1) 42 #[.bool false, .slice B gs.length b, .slice none 0 0, .int .u64 (eseq : Int)] ∧ Blk wr (w.heap.size + 1 + 1) 30 #[.slice none 0 0, .int .u64 0, .int .u64 0] ∧ Below w.heap.size w wr ∧ w1.heap.size ≤ wr.heap.size) (fun _ _ _ i _ => gs.length - (intOf i).toNat)
    case atStart => exact ⟨0, fs, R, r, Nat.zero_le _, rfl, (List.append_nil fs).symm, rfl, rfl, oX, kV2, kE2, kR2, b02, z12⟩
    case round =>
      clear oX kV2 kE2 kR2 b02
      obtain ⟨n, xs, R2, r2, hn, rfl, hxs, rfl, rfl, oX, kV, kE, kR, br, z1r⟩ := hrel
      by_cases hltn : n < gs.length
      · have hlt' : (n : Int) < (gs.length : Int) := by omega
        obtain rfl : n = 0 := by omega
        have hf0 : fs = [] := List.length_eq_zero_iff.1 (by omega)
        obtain rfl : xs = [] := by rw [hxs, hf0]; rfl
        have HFS := Lib.hid hf0
        clear hf0 hxs
        rw [show nextA (gs.take 0) next = next from rfl]
        obtain ⟨ad, P, q, Q, t, rfl, hab, y0, y1, y2, y3, y4, y5, hP, hQ, hwf⟩ := FE.at_ (hB.below br) hltn
        have HG : Hid (gs.take 1 = [gs[0]]) := by show _ = _; rw [List.take_succ_eq_append_getElem hltn]; rfl
        have hnf := HLT.out gs[0] (List.getElem_mem _)
        generalize gs[0] = f at *
        simp only [Nat.zero_mul, add_zero_] at y0 y1 y2 y3 y4 y5 hP hQ hwf
        have dz : Below wr.heap.size wr (wr.alloc (.cells #[.slice P f.first.length q, .slice Q f.last.length t, .int .i64 f.count, .int .i64 f.size, .int .u64 (f.num : Int), .int .i64 f.level] 66)) := (Below.refl _ _).alloc (Nat.le_refl _) _
        have kF := Blk.new wr 66 #[.slice P f.first.length q, .slice Q f.last.length t, .int .i64 f.count, .int .i64 f.size, .int .u64 (f.num : Int), .int .i64 f.level]
        have hP1 := hP.1.below dz
        have hQ1 := hQ.1.below dz
        have kVx := kV.below dz kV.lt
        have kEx := kE.below dz kE.lt
        have kRx := kR.below dz kR.lt
        have oX1 := Own.below oX dz
        have bx := br.trans (dz.mono br.size)
        have hXL := Lib.hid (Own.lt oX)
        have hle1 := hP1.le
        have hle2 := hQ1.le
        clear hn
        go_upto_region 18 with fail
        clear y0 y1 y2 y3 y4 y5 kV kE kR oX br hP hQ
        generalize (wr.alloc (.cells #[.slice P f.first.length q, .slice Q f.last.length t, .int .i64 f.count, .int .i64 f.size, .int .u64 (f.num : Int), .int .i64 f.level] 66)) = v1 at *
        have T := fun fn => contains_none R2 r2 fn v1
        have z1v := dz.size
        go_wp2_with fail
        refine (T _).mono ?_
        clear T
        rintro en w_ ⟨rfl, hw_⟩
        subst hw_
        have T := twin_any f P Q q t w_ hP1 hQ1
        go_wp2_with ((with_reducible refine wpList_load_blk rfl 66 (.tmp 12) rfl wr.heap.size ?_ 66 _ _ kF Try.underlying66 ?_ Try.size_File ?_ ?_); rfl; rfl; rfl)
        refine T.mono ?_
        clear T
        rintro en v2 ⟨A5, a5, B5, c5, rfl, oA5, oB5, hne, b2⟩
        have zv2 := b2.size
        have d3 : Below v2.heap.size v2 (v2.alloc (.cells #[.slice A5 f.first.length a5, .slice B5 f.last.length c5, .int .i64 f.count, .int .i64 f.size, .int .u64 (f.num : Int), .int .i64 f.level] 66)) := (Below.refl _ _).alloc (Nat.le_refl _) _
        have oX3 := Own.below (Own.below oX1 b2) d3
        have kF3 := (kF.below b2 kF.lt).below d3 (Nat.lt_of_lt_of_le kF.lt zv2)
        have kV3 := (kVx.below b2 kVx.lt).below d3 (Nat.lt_of_lt_of_le kVx.lt zv2)
        have kE3 := (kEx.below b2 kEx.lt).below d3 (Nat.lt_of_lt_of_le kEx.lt zv2)
        have kR3 := (kRx.below b2 kRx.lt).below d3 (Nat.lt_of_lt_of_le kRx.lt zv2)
        have b03 := (bx.trans (b2.mono bx.size)).trans (d3.mono (Nat.le_trans bx.size zv2))
        have hrd : Reads (v2.alloc (.cells #[.slice A5 f.first.length a5, .slice B5 f.last.length c5, .int .i64 f.count, .int .i64 f.size, .int .u64 (f.num : Int), .int .i64 f.level] 66)) (v2.heap.size + 1) 6 (some ⟨v2.heap.size, 0, none⟩) 1 [.slice A5 f.first.length a5, .slice B5 f.last.length c5, .int .i64 f.count, .int .i64 f.size, .int .u64 (f.num : Int), .int .i64 f.level] := Reads.newN v2 _ 66
        have hrep : FEO.rep (v2.alloc (.cells #[.slice A5 f.first.length a5, .slice B5 f.last.length c5, .int .i64 f.count, .int .i64 f.size, .int .u64 (f.num : Int), .int .i64 f.level] 66)) (fun b => w1.heap.size ≤ b ∧ (Value.slice R2 ([] : List LFile).length r2).ownBlock ≠ some b) [.slice A5 f.first.length a5, .slice B5 f.last.length c5, .int .i64 f.count, .int .i64 f.size, .int .u64 (f.num : Int), .int .i64 f.level] f := ⟨A5, a5, B5, c5, rfl, OwnS.of (OwnB.below oA5 d3) (by omega) (fun g h1 _ => ⟨by omega, fun e => by have := (hXL.out g e).2; omega⟩), OwnS.of (OwnB.below oB5 d3) (by omega) (fun g h1 _ => ⟨by omega, fun e => by have := (hXL.out g e).2; omega⟩), hne, hwf⟩
        have hL1 : (([] : List LFile).length + 1) * FEO.bytes ≤ 140737488355328 := by simp only [FEO, List.length_nil]; omega
        have hL2 : ([] : List LFile).length + 1 ≤ maxLen := by simp only [maxLen, List.length_nil]; omega
        have hW3 : w1.heap.size ≤ (v2.alloc (.cells #[.slice A5 f.first.length a5, .slice B5 f.last.length c5, .int .i64 f.count, .int .i64 f.size, .int .u64 (f.num : Int), .int .i64 f.level] 66)).heap.size := by have := d3.size; omega
        have HZ : Hid (∀ b, (Value.slice R2 ([] : List LFile).length r2).ownBlock = some b → w1.heap.size ≤ b ∧ b < wr.heap.size) := hXL.out
        go_upto_region 21 with (at_builtin; refine wpList_appE FEO w1.heap.size w _ rfl (.tmp 56) (.tmp 59) 66 28 rfl i2 _ Try.underlying28 hi2 hx0 hx1 hx2 rfl (fun b => w1.heap.size ≤ b) R2 [] r2 rfl oX3 _ [.slice A5 f.first.length a5, .slice B5 f.last.length c5, .int .i64 f.count, .int .i64 f.size, .int .u64 (f.num : Int), .int .i64 f.level] f 1 rfl _ hrd hrep hL1 hL2 b03 (by omega) hW3 ?_; intro R9 r9 xs9 w9 H9 o9 b9 g9 t9)
        have kV9 := kV3.grown g9 (fun e => by have := (HZ.out _ e.symm).1; omega)
        have kE9 := kE3.grown g9 (fun e => by have := (HZ.out _ e.symm).1; omega)
        have kR9 := kR3.grown g9 (fun e => by have := (HZ.out _ e.symm).1; omega)
        have kF9 := kF3.grown g9 (fun e => by have := (HZ.out _ e.symm).2; omega)
        have z9 := g9.size
        have x4 : w9.cell? ⟨wr.heap.size, 4, none⟩ = some (.int .u64 (f.num : Int)) := kF9.cell 4
        clear kV3 kE3 kR3 kF3 hrd hrep oX3 kF kF9 b03 g9 t9 kVx kEx kRx bx oX1
        have hw1 : IntKind.u64.wrap ((f.num : Int) + 1) = (f.num : Int) + 1 := wrapU (by omega) (by omega)
        have hx9 : xs9 = [f] := by rw [H9.out]; rfl
        subst hx9
        clear H9 HLT HZ hXL
        have HNX : Hid (nextA (gs.take 1) next = max next (f.num + 1)) := by show _ = _; rw [HG.out]; rfl
        by_cases hmx : next < f.num + 1
        · have hmx' : (next : Int) < (f.num : Int) + 1 := by omega
          have HN : Hid ((nextA (gs.take 1) next : Int) = (f.num : Int) + 1) := by show _ = _; rw [HNX.out]; omega
          clear HNX
          go_wp2_with fail
          go_roundw
          case rel => exact ⟨1, [f], R9, r9, by omega, rfl, by rw [HG.out, HFS.out]; rfl, rfl, by rw [HN.out], o9, kV9, kE9, kR9, b9, by omega⟩
          case measure => simp [intOf]; omega
        · have hmx' : ¬ (next : Int) < (f.num : Int) + 1 := by omega
          have HN : Hid ((nextA (gs.take 1) next : Int) = (next : Int)) := by show _ = _; rw [HNX.out]; omega
          clear HNX
          go_wp2_with fail
          go_roundw
          case rel => exact ⟨1, [f], R9, r9, by omega, rfl, by rw [HG.out, HFS.out]; rfl, rfl, by rw [HN.out], o9, kV9, kE9, kR9, b9, by omega⟩
          case measure => simp [intOf]; omega
      · have hlt' : ¬ (n : Int) < (gs.length : Int) := by omega
        obtain rfl : n = gs.length := by omega
        rw [List.take_length] at hxs ⊢
        have HX : Hid (fs ++ gs = xs) := hxs.symm
        have hxl : xs.length ≤ 1 := by rw [hxs, List.length_append]; omega
        clear hxs hn
        generalize nextA gs next = nx at *
        have T := fun fn => sort_one R2 xs.length r2 fn wr hxl
        have x3 : wr.cell? ⟨w.heap.size + 1, 3, none⟩ = some (.int .u64 (eseq : Int)) := kE.cell 3
        go_wp2_with fail
        refine (T _).mono ?_
        clear T
        rintro en w_ ⟨rfl, hw_⟩
        subst hw_
        have dz : Below w_.heap.size w_ (w_.alloc (.cells #[.slice R2 xs.length r2, .int .u64 (nx : Int), .int .u64 (eseq : Int)] 30)) := (Below.refl _ _).alloc (Nat.le_refl _) _
        have kO := Blk.new w_ 30 #[.slice R2 xs.length r2, .int .u64 (nx : Int), .int .u64 (eseq : Int)]
        have kV1 := kV.below dz kV.lt
        have kE1 := kE.below dz kE.lt
        have kR1 := kR.below dz kR.lt
        have oX1 := Own.below oX dz
        have b1 := br.trans (dz.mono br.size)
        have zO := dz.size
        go_upto_region 25 with fail
        clear x3 kV kE kR oX br
        generalize (w_.alloc (.cells #[.slice R2 xs.length r2, .int .u64 (nx : Int), .int .u64 (eseq : Int)] 30)) = v1 at *
        have T := right_one xs nx eseq R2 r2 v1 (Own.sl (Own.fe oX1) (by simp only [FE]; omega)) hxl
        go_wp2_with ((with_reducible refine wpList_load_blk rfl 30 (.tmp 13) rfl w_.heap.size ?_ 30 _ _ kO Try.underlying30 ?_ Try.size_MVer ?_ ?_); rfl; rfl; rfl)
        refine T.mono ?_
        clear T
        rintro en v2 ⟨rfl, b2⟩
        have kV2 := kV1.below b2 kV1.lt
        have kE2 := kE1.below b2 kE1.lt
        have kR2 := kR1.below b2 kR1.lt
        have kO2 := kO.below b2 kO.lt
        have oX2 := Own.below oX1 b2
        have b02 := b1.trans (b2.mono b1.size)
        have x3 : v2.cell? ⟨w.heap.size + 1, 3, none⟩ = some (.int .u64 (eseq : Int)) := kE2.cell 3
        have x2 : v2.cell? ⟨w.heap.size, 2, none⟩ = some (.int .u64 (vseq : Int)) := kV2.cell 2
        have hsq : ¬ (eseq : Int) < (vseq : Int) := by omega
        clear kV1 kE1 kR1 oX1 b1 kO b2
        cases hrr : right1 xs nx with
        | false =>
          have HRR := Lib.hid hrr
          clear hrr
          go_wp2_with ((with_reducible refine wpList_store_blk rfl 30 (.tmp 4) (.tmp 78) rfl (w.heap.size + 1 + 1) 30 _ #[.slice none 0 0, .int .u64 0, .int .u64 0] ?_ ?_ kR2 Try.size_MVer ?_ ?_ ?_ ?_); rfl; rfl; rfl; rfl; (simp [Value.oneCell']); intro w9 kz9 g9 z9)
          exact bodyPost_ret (results_cell2 rfl rfl rfl kz9 Try.underlying30 rfl Try.size_MVer) rfl (by rw [HX.out]; exact ⟨b02.grown g9 b02.size (fun j e => by have := Option.some.inj e; omega), .inr ⟨HRR.out, rfl⟩⟩)
        | true =>
          have HRR := Lib.hid hrr
          clear hrr
          go_wp2_with (first
            | ((with_reducible refine wpList_load_blk rfl 30 (.tmp 13) rfl w_.heap.size ?_ 30 _ _ kO2 Try.underlying30 ?_ Try.size_MVer ?_ ?_); rfl; rfl; rfl)
            | ((with_reducible refine wpList_store_blk rfl 30 (.tmp 4) (.tmp 86) rfl (w.heap.size + 1 + 1) 30 _ #[.slice R2 xs.length r2, .int .u64 (nx : Int), .int .u64 (eseq : Int)] ?_ ?_ kR2 Try.size_MVer ?_ ?_ ?_ ?_); rfl; rfl; rfl; rfl; (simp [Value.oneCell']); intro w9 kz9 g9 z9))
          have o9 := Own.same oX2 g9 (.inr fun e => by have := (Own.lt oX2 _ e).1; omega) (fun b hb e => by have h3 : w1.heap.size ≤ b := hb; have := Option.some.inj e; omega)
          exact bodyPost_ret (results_cell2 rfl rfl rfl kz9 Try.underlying30 rfl Try.size_MVer) rfl (by rw [HX.out]; exact ⟨b02.grown g9 b02.size (fun j e => by have := Option.some.inj e; omega), .inl ⟨HRR.out, R2, r2, rfl, Own.mono (Own.base o9 (by omega)) (fun b _ _ hb => by have h3 : w1.heap.size ≤ b := hb; show w.heap.size ≤ b; omega)⟩⟩)
end Go.Proofs.Ytmgibpedclngpaa
