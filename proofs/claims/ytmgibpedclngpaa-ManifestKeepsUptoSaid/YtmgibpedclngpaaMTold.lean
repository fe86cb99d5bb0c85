/- Files and edits in the document's words: told, toldEdit of caissonlaw12. (Printed by wip/gen_mtold.py.) -/
import Derived.Test.YtmgibpedclngpaaMRDec
import Derived.Test.YtmgibpedclngpaaMDec
import Derived.Test.YtmgibpedclngpaaMEncP
import Derived.Test.YtmgibpedclngpaaHeldK
namespace Go.Proofs.Ytmgibpedclngpaa
open Go.RowKit

theorem At.mono' {S S' : Nat → Prop} {A : Option Addr} {n : Nat} (h : At S A n) (hs : ∀ b, S b → S' b) : At S' A n := fun ad e hn => hs _ (h ad e hn)
theorem ownNe {v : Value} {row : Option Nat} (h : ∀ b, v.ownBlock = some b → row ≠ some b) : v.ownBlock = none ∨ v.ownBlock ≠ row := by
  cases hv : v.ownBlock with
  | none => exact .inl rfl
  | some b => exact .inr fun e => h b hv e.symm

set_option maxRecDepth 100000 in
set_option maxHeartbeats 8000000 in
theorem told_any (f : LFile) (A B : Option Addr) (a b : Nat) (w : World) : Calls Try.prog 43 #[.agg #[.slice A f.first.length a, .slice B f.last.length b, .int .i64 f.count, .int .i64 f.size, .int .u64 (f.num : Int), .int .i64 f.level]] w (fun en w' => en = .returned (.agg #[.int .u64 (f.num : Int), .int .i64 f.level, .slice A f.first.length a, .slice B f.last.length b, .int .i64 f.count, .int .i64 f.size]) ∧ Below w.heap.size w w') := by
  have b0 : Below w.heap.size w ((w.alloc (.cells #[.slice A f.first.length a, .slice B f.last.length b, .int .i64 f.count, .int .i64 f.size, .int .u64 (f.num : Int), .int .i64 f.level] 66)).alloc (.cells #[.int .u64 0, .int .i64 0, .slice none 0 0, .slice none 0 0, .int .i64 0, .int .i64 0] 71)) := ((Below.refl _ _).alloc (Nat.le_refl _) _).alloc (by simp) _
  have k0 : Blk ((w.alloc (.cells #[.slice A f.first.length a, .slice B f.last.length b, .int .i64 f.count, .int .i64 f.size, .int .u64 (f.num : Int), .int .i64 f.level] 66)).alloc (.cells #[.int .u64 0, .int .i64 0, .slice none 0 0, .slice none 0 0, .int .i64 0, .int .i64 0] 71)) w.heap.size 66 #[.slice A f.first.length a, .slice B f.last.length b, .int .i64 f.count, .int .i64 f.size, .int .u64 (f.num : Int), .int .i64 f.level] := (Blk.new w _ _).alloc _
  have k1 : Blk ((w.alloc (.cells #[.slice A f.first.length a, .slice B f.last.length b, .int .i64 f.count, .int .i64 f.size, .int .u64 (f.num : Int), .int .i64 f.level] 66)).alloc (.cells #[.int .u64 0, .int .i64 0, .slice none 0 0, .slice none 0 0, .int .i64 0, .int .i64 0] 71)) (w.heap.size + 1) 71 #[.int .u64 0, .int .i64 0, .slice none 0 0, .slice none 0 0, .int .i64 0, .int .i64 0] := heap_alloc2_new w _ _
  go_enter Try.func43, Try.ntmps43
  go_upto_region 1 with fail
  generalize ((w.alloc (.cells #[.slice A f.first.length a, .slice B f.last.length b, .int .i64 f.count, .int .i64 f.size, .int .u64 (f.num : Int), .int .i64 f.level] 66)).alloc (.cells #[.int .u64 0, .int .i64 0, .slice none 0 0, .slice none 0 0, .int .i64 0, .int .i64 0] 71)) = W at *
  have y0 : W.cell? ⟨w.heap.size, 0, none⟩ = some (.slice A f.first.length a) := k0.cell 0
  have y1 : W.cell? ⟨w.heap.size, 1, none⟩ = some (.slice B f.last.length b) := k0.cell 1
  have y2 : W.cell? ⟨w.heap.size, 2, none⟩ = some (.int .i64 f.count) := k0.cell 2
  have y3 : W.cell? ⟨w.heap.size, 3, none⟩ = some (.int .i64 f.size) := k0.cell 3
  have y4 : W.cell? ⟨w.heap.size, 4, none⟩ = some (.int .u64 (f.num : Int)) := k0.cell 4
  have y5 : W.cell? ⟨w.heap.size, 5, none⟩ = some (.int .i64 f.level) := k0.cell 5
  go_wp2_with ((with_reducible refine wpList_store_blk rfl 71 (.tmp 2) (.tmp 19) rfl (w.heap.size + 1) 71 _ #[.int .u64 (f.num : Int), .int .i64 f.level, .slice A f.first.length a, .slice B f.last.length b, .int .i64 f.count, .int .i64 f.size] ?_ ?_ k1 Try.size_RFile ?_ ?_ ?_ ?_); rfl; rfl; rfl; rfl; (simp [Value.oneCell']); intro w9 kz9 g9 z9)
  exact bodyPost_ret (results_cell rfl rfl kz9 Try.underlying71 rfl Try.size_RFile) rfl ⟨rfl, b0.grown g9 b0.size (fun j e => by have := Option.some.inj e; omega)⟩
/-- an edit in the document's words is answered: the files' texts and the numbers dropped lie where they lay -/
def RetToldE (e : LEdit) (D : Option Addr) (d : Nat) (w : World) (en : Ending) (w' : World) : Prop :=
  ∃ R r, en = .returned (.agg #[.bool e.reset, .slice R e.add.length r, .slice D e.drop.length d, .int .u64 (e.seq : Int)]) ∧ Own RFE 71 w' w.heap.size (fun b => b < w.heap.size) (.slice R e.add.length r) e.add ∧ Below w.heap.size w w'
set_option maxRecDepth 100000 in
set_option maxHeartbeats 8000000 in
theorem toldedit_any (e : LEdit) (A D : Option Addr) (a d : Nat) (w : World) (hA' : Sl FE w A e.add) (hl : e.add.length ≤ 1048576) : Calls Try.prog 21 #[.agg #[.bool e.reset, .slice A e.add.length a, .slice D e.drop.length d, .int .u64 (e.seq : Int)]] w (RetToldE e D d w) := by
  have hA : SlS FE w (fun b => b < w.heap.size) A e.add := SlS.mono hA' (fun b h _ => h)
  clear hA'
  have b0 : Below w.heap.size w (((w.alloc (.cells #[.bool e.reset, .slice A e.add.length a, .slice D e.drop.length d, .int .u64 (e.seq : Int)] 42)).alloc (.cells #[.bool false, .slice none 0 0, .slice none 0 0, .int .u64 0] 35)).alloc (.cells #[.bool e.reset, .slice none 0 0, .slice D e.drop.length d, .int .u64 (e.seq : Int)] 35)) := (((Below.refl _ _).alloc (Nat.le_refl _) _).alloc (by simp) _).alloc (by simp; omega) _
  have kI : Blk (((w.alloc (.cells #[.bool e.reset, .slice A e.add.length a, .slice D e.drop.length d, .int .u64 (e.seq : Int)] 42)).alloc (.cells #[.bool false, .slice none 0 0, .slice none 0 0, .int .u64 0] 35)).alloc (.cells #[.bool e.reset, .slice none 0 0, .slice D e.drop.length d, .int .u64 (e.seq : Int)] 35)) w.heap.size 42 #[.bool e.reset, .slice A e.add.length a, .slice D e.drop.length d, .int .u64 (e.seq : Int)] := ((Blk.new w _ _).alloc _).alloc _
  have kR : Blk (((w.alloc (.cells #[.bool e.reset, .slice A e.add.length a, .slice D e.drop.length d, .int .u64 (e.seq : Int)] 42)).alloc (.cells #[.bool false, .slice none 0 0, .slice none 0 0, .int .u64 0] 35)).alloc (.cells #[.bool e.reset, .slice none 0 0, .slice D e.drop.length d, .int .u64 (e.seq : Int)] 35)) (w.heap.size + 1) 35 #[.bool false, .slice none 0 0, .slice none 0 0, .int .u64 0] := Blk.alloc (heap_alloc2_new w _ _) _
  have kO : Blk (((w.alloc (.cells #[.bool e.reset, .slice A e.add.length a, .slice D e.drop.length d, .int .u64 (e.seq : Int)] 42)).alloc (.cells #[.bool false, .slice none 0 0, .slice none 0 0, .int .u64 0] 35)).alloc (.cells #[.bool e.reset, .slice none 0 0, .slice D e.drop.length d, .int .u64 (e.seq : Int)] 35)) (w.heap.size + 1 + 1) 35 #[.bool e.reset, .slice none 0 0, .slice D e.drop.length d, .int .u64 (e.seq : Int)] := by
    have h := Blk.new ((w.alloc (.cells #[.bool e.reset, .slice A e.add.length a, .slice D e.drop.length d, .int .u64 (e.seq : Int)] 42)).alloc (.cells #[.bool false, .slice none 0 0, .slice none 0 0, .int .u64 0] 35)) 35 #[.bool e.reset, .slice none 0 0, .slice D e.drop.length d, .int .u64 (e.seq : Int)]
    have hsz : ((w.alloc (.cells #[.bool e.reset, .slice A e.add.length a, .slice D e.drop.length d, .int .u64 (e.seq : Int)] 42)).alloc (.cells #[.bool false, .slice none 0 0, .slice none 0 0, .int .u64 0] 35)).heap.size = w.heap.size + 1 + 1 := by simp
    rw [hsz] at h
    exact h
  go_enter Try.func21, Try.ntmps21
  have y1 : (((w.alloc (.cells #[.bool e.reset, .slice A e.add.length a, .slice D e.drop.length d, .int .u64 (e.seq : Int)] 42)).alloc (.cells #[.bool false, .slice none 0 0, .slice none 0 0, .int .u64 0] 35)).alloc (.cells #[.bool e.reset, .slice none 0 0, .slice D e.drop.length d, .int .u64 (e.seq : Int)] 35)).cell? ⟨w.heap.size, 1, none⟩ = some (.slice A e.add.length a) := kI.cell 1
  go_wp2_with fail
  clear y1
  generalize Value.agg #[.bool e.reset, .slice A e.add.length a, .slice D e.drop.length d, .int .u64 (e.seq : Int)] = av
  generalize (((w.alloc (.cells #[.bool e.reset, .slice A e.add.length a, .slice D e.drop.length d, .int .u64 (e.seq : Int)] 42)).alloc (.cells #[.bool false, .slice none 0 0, .slice none 0 0, .int .u64 0] 35)).alloc (.cells #[.bool e.reset, .slice none 0 0, .slice D e.drop.length d, .int .u64 (e.seq : Int)] 35)) = W0 at *
  have hor : w.heap.size + 1 + 1 ≠ w.heap.size + 1 := by omega
  have zob : w.heap.size ≤ w.heap.size + 1 + 1 := by omega
  have zrb : w.heap.size ≤ w.heap.size + 1 := by omega
  generalize w.heap.size + 1 + 1 = ob at *
  generalize w.heap.size + 1 = rb at *
  clear kI
  obtain ⟨i2, hi2, hx0, hx1, hx2⟩ := info_parts Try.infoRFile
  have lO := kO.lt
  have lR := kR.lt
  have z0 := b0.size
  go_loopw [5, 16] (fun _ i wr => ∃ (n : Nat) (fs : List LFile) (R : Option Addr) (r : Nat), n ≤ e.add.length ∧ i = .int .i64 (n : Int) ∧ fs = e.add.take n ∧ fs.length = n ∧ Own RFE 71 wr W0.heap.size (fun b => b < w.heap.size) (.slice R fs.length r) fs ∧ Blk wr ob 35 #[.bool e.reset, .slice R fs.length r, .slice D e.drop.length d, .int .u64 (e.seq : Int)] ∧ Blk wr rb 35 #[.bool false, .slice none 0 0, .slice none 0 0, .int .u64 0] ∧ Below w.heap.size w wr ∧ W0.heap.size ≤ wr.heap.size) (fun _ i _ => e.add.length - (intOf i).toNat)
  case atStart => exact ⟨0, [], none, 0, Nat.zero_le _, rfl, rfl, rfl, Own.nil_ _ _ _ _ _, kO, kR, b0, Nat.le_refl _⟩
  case round =>
    clear kO kR b0
    obtain ⟨n, fs, R, r, hn, rfl, hfs, hfl, oF, kO, kR, br, zr⟩ := hrel
    have HFS := Lib.hid hfs
    have HFL := Lib.hid hfl
    have hfn : fs.length ≤ n := Nat.le_of_eq hfl
    clear hfs hfl
    by_cases hlt : n < e.add.length
    · have hlt' : (n : Int) < (e.add.length : Int) := by omega
      obtain ⟨ad, P, q, Q, t, rfl, hab, y0, y1, y2, y3, y4, y5, hP, hQ, hwf⟩ := FE.at_ (hA.below br) hlt
      have HST : Hid (e.add.take (n + 1) = fs ++ [e.add[n]]) := by show _ = _; rw [List.take_succ_eq_append_getElem hlt, HFS.out]
      generalize e.add[n] = f at *
      have dz : Below wr.heap.size wr (wr.alloc (.cells #[.slice P f.first.length q, .slice Q f.last.length t, .int .i64 f.count, .int .i64 f.size, .int .u64 (f.num : Int), .int .i64 f.level] 66)) := (Below.refl _ _).alloc (Nat.le_refl _) _
      have kF := Blk.new wr 66 #[.slice P f.first.length q, .slice Q f.last.length t, .int .i64 f.count, .int .i64 f.size, .int .u64 (f.num : Int), .int .i64 f.level]
      have kO1 := kO.below dz kO.lt
      have kR1 := kR.below dz kR.lt
      have oF1 := Own.below oF dz
      have b1 := br.trans (dz.mono br.size)
      have hFL := Own.lt oF
      go_upto_region 5 with fail
      clear y0 y1 y2 y3 y4 y5 kO kR oF
      have hP1 := hP.1.below dz
      have hQ1 := hQ.1.below dz
      have z1 := dz.size
      generalize (wr.alloc (.cells #[.slice P f.first.length q, .slice Q f.last.length t, .int .i64 f.count, .int .i64 f.size, .int .u64 (f.num : Int), .int .i64 f.level] 66)) = w1 at *
      refine wp_region_noPanic ?_
      have kFd := kF.drew
      have kOd := kO1.drew
      have kRd := kR1.drew
      have oFd := Own.below oF1 ((Below.refl w1.heap.size w1).drew)
      have bd := b1.drew
      have hPd := hP1.below ((Below.refl w1.heap.size w1).drew)
      have hQd := hQ1.below ((Below.refl w1.heap.size w1).drew)
      have hS : ∀ W, Blk W ob 35 #[.bool e.reset, .slice R fs.length r, .slice D e.drop.length d, .int .u64 (e.seq : Int)] → Blk W wr.heap.size 66 #[.slice P f.first.length q, .slice Q f.last.length t, .int .i64 f.count, .int .i64 f.size, .int .u64 (f.num : Int), .int .i64 f.level] → W.cell? ⟨ob, 1, none⟩ = some (.slice R fs.length r) ∧ W.cell? ⟨wr.heap.size, 0, none⟩ = some (.slice P f.first.length q) ∧ W.cell? ⟨wr.heap.size, 1, none⟩ = some (.slice Q f.last.length t) ∧ W.cell? ⟨wr.heap.size, 2, none⟩ = some (.int .i64 f.count) ∧ W.cell? ⟨wr.heap.size, 3, none⟩ = some (.int .i64 f.size) ∧ W.cell? ⟨wr.heap.size, 4, none⟩ = some (.int .u64 (f.num : Int)) ∧ W.cell? ⟨wr.heap.size, 5, none⟩ = some (.int .i64 f.level) := fun W h1 h2 => ⟨h1.cell 1, h2.cell 0, h2.cell 1, h2.cell 2, h2.cell 3, h2.cell 4, h2.cell 5⟩
      have HS := Lib.hid hS
      clear hS
      refine wp_region_heldK (fun W => W.cell? ⟨ob, 1, none⟩ = some (.slice R fs.length r) ∧ W.cell? ⟨wr.heap.size, 0, none⟩ = some (.slice P f.first.length q) ∧ W.cell? ⟨wr.heap.size, 1, none⟩ = some (.slice Q f.last.length t) ∧ W.cell? ⟨wr.heap.size, 2, none⟩ = some (.int .i64 f.count) ∧ W.cell? ⟨wr.heap.size, 3, none⟩ = some (.int .i64 f.size) ∧ W.cell? ⟨wr.heap.size, 4, none⟩ = some (.int .u64 (f.num : Int)) ∧ W.cell? ⟨wr.heap.size, 5, none⟩ = some (.int .i64 f.level)) 7 (by kernel_rfl) (HS.out _ kOd kFd) (fun hH => ?_)
      clear kF kO1 kR1 oF1 b1 hP1 hQ1
      have z1d : w1.heap.size ≤ w1.drew.heap.size := Nat.le_refl _
      generalize w1.drew = W at *
      refine wpAnyK_takeY (i := 0) (v := ?_) rfl (by kernel_rfl) (by kernel_rfl) (by kernel_rfl) (by kernel_rfl) (fun _ _ _ h => h) (Or.inl ⟨by rfl, ?_⟩) hH ?_
      case refine_2 => intro w; go_simp; try with_reducible rfl
      try simp only [List.getElem_toArray, List.getElem_cons_zero, Act.put, List.setIfInBounds_toArray, List.set_cons_zero, List.set_cons_succ]
      refine wpAnyK_take (i := 1) (v := ?_) rfl (by kernel_rfl) (by kernel_rfl) (by kernel_rfl) (by kernel_rfl) (fun _ _ _ h => h) (Or.inl ⟨by rfl, ?_⟩) hH ?_
      case refine_2 => intro w hSw; obtain ⟨s0, s1, s2, s3, s4, s5, s6⟩ := hSw; go_simp; try with_reducible rfl
      try simp only [List.getElem_toArray, List.getElem_cons_succ, List.getElem_cons_zero, Act.put, List.setIfInBounds_toArray, List.set_cons_zero, List.set_cons_succ]
      refine wpAnyK_take (i := 2) (v := ?_) rfl (by kernel_rfl) (by kernel_rfl) (by kernel_rfl) (by kernel_rfl) (fun _ _ _ h => h) (Or.inl ⟨by rfl, ?_⟩) hH ?_
      case refine_2 => intro w hSw; obtain ⟨s0, s1, s2, s3, s4, s5, s6⟩ := hSw; go_simp; try with_reducible rfl
      try simp only [List.getElem_toArray, List.getElem_cons_succ, List.getElem_cons_zero, Act.put, List.setIfInBounds_toArray, List.set_cons_zero, List.set_cons_succ]
      refine wpAnyK_ready (rs := [3]) (by kernel_rfl) (by simp) ?_
      refine AllReadyK.cons rfl (by kernel_rfl) (fun K hK => ?_) AllReadyK.nil
      go_simp
      refine (told_any f P Q q t W).mono ?_
      rintro en w2 ⟨rfl, b2⟩
      have kF2 := kFd.below b2 kFd.lt
      have kO2 := kOd.below b2 kOd.lt
      have kR2 := kRd.below b2 kRd.lt
      have oF2 := Own.below oFd b2
      have b02 := bd.trans (b2.mono bd.size)
      have z2 := b2.size
      have hP2 := hPd.below b2
      have hQ2 := hQd.below b2
      refine hK.out _ _ (HS.out _ kO2 kF2) ?_
      clear hK K hH kFd kOd kRd oFd bd hPd hQd
      try dsimp only
      try simp only [List.getElem_toArray, List.getElem_cons_succ, List.getElem_cons_zero, Act.put, List.setIfInBounds_toArray, List.set_cons_zero, List.set_cons_succ]
      refine wpAnyK_ready (rs := [4]) (by kernel_rfl) (by simp) ?_
      refine AllReadyK.cons rfl (by kernel_rfl) (fun K hK => ?_) AllReadyK.nil
      go_simp
      have d3 : Below w2.heap.size w2 (w2.alloc (.cells #[.int .u64 (f.num : Int), .int .i64 f.level, .slice P f.first.length q, .slice Q f.last.length t, .int .i64 f.count, .int .i64 f.size] 71)) := (Below.refl _ _).alloc (Nat.le_refl _) _
      have kF3 := kF2.below d3 kF2.lt
      have kO3 := kO2.below d3 kO2.lt
      have kR3 := kR2.below d3 kR2.lt
      have oF3 := Own.below oF2 d3
      have b03 := b02.trans (d3.mono b02.size)
      have hrd : Reads (w2.alloc (.cells #[.int .u64 (f.num : Int), .int .i64 f.level, .slice P f.first.length q, .slice Q f.last.length t, .int .i64 f.count, .int .i64 f.size] 71)) (w2.heap.size + 1) 6 (some ⟨w2.heap.size, 0, none⟩) 1 [.int .u64 (f.num : Int), .int .i64 f.level, .slice P f.first.length q, .slice Q f.last.length t, .int .i64 f.count, .int .i64 f.size] := Reads.newN w2 _ 71
      have hrep : RFE.rep (w2.alloc (.cells #[.int .u64 (f.num : Int), .int .i64 f.level, .slice P f.first.length q, .slice Q f.last.length t, .int .i64 f.count, .int .i64 f.size] 71)) (fun b => (fun b => b < w.heap.size) b ∧ (Value.slice R fs.length r).ownBlock ≠ some b) [.int .u64 (f.num : Int), .int .i64 f.level, .slice P f.first.length q, .slice Q f.last.length t, .int .i64 f.count, .int .i64 f.size] f := ⟨P, q, Q, t, rfl, ⟨hP2.below d3, hP.2.1.mono' (fun b h => ⟨h, fun e => by have := (hFL b e).1; omega⟩), hP.2.2⟩, ⟨hQ2.below d3, hQ.2.1.mono' (fun b h => ⟨h, fun e => by have := (hFL b e).1; omega⟩), hQ.2.2⟩, hwf⟩
      refine hK.out _ _ (HS.out _ kO3 kF3) ?_
      clear hK K kF2 kO2 kR2 oF2 b02
      try dsimp only
      try simp only [List.getElem_toArray, List.getElem_cons_succ, List.getElem_cons_zero, Act.put, List.setIfInBounds_toArray, List.set_cons_zero, List.set_cons_succ]
      have z3 := d3.size
      generalize (w2.alloc (.cells #[.int .u64 (f.num : Int), .int .i64 f.level, .slice P f.first.length q, .slice Q f.last.length t, .int .i64 f.count, .int .i64 f.size] 71)) = w3 at *
      have hL1 : (fs.length + 1) * RFE.bytes ≤ 140737488355328 := by simp only [RFE]; omega
      have hL2 : fs.length + 1 ≤ maxLen := by simp only [maxLen]; omega
      refine wpAnyK_ready (rs := [5]) (by kernel_rfl) (by simp) ?_
      refine AllReadyK.cons rfl (by kernel_rfl) (fun K hK => ?_) AllReadyK.nil
      refine step_appE RFE W0.heap.size w3 rfl (.tmp 21) (.tmp 24) 71 22 rfl i2 _ Try.underlying22 hi2 hx0 hx1 hx2 rfl (fun b => b < w.heap.size) R fs r rfl oF3 _ [.int .u64 (f.num : Int), .int .i64 f.level, .slice P f.first.length q, .slice Q f.last.length t, .int .i64 f.count, .int .i64 f.size] f 1 rfl _ hrd hrep hL1 hL2 (by omega) ?_
      intro R6 r6 fs6 w6 H6 o6 g6 t6
      have kO6 := kO3.grown g6 (fun e => by have := (hFL _ e.symm).1; omega)
      have kR6 := kR3.grown g6 (fun e => by have := (hFL _ e.symm).1; omega)
      have kF6 := kF3.grown g6 (fun e => by have := (hFL _ e.symm).2; omega)
      have b06 := b03.grown g6 b03.size (fun j e => by have := (hFL _ e).1; omega)
      have z6 := g6.size
      refine hK.out _ _ (HS.out _ kO6 kF6) ?_
      clear hK K t6 hrd hrep kF3 kO3 kR3 b03 oF3 g6
      try dsimp only
      try simp only [List.getElem_toArray, List.getElem_cons_succ, List.getElem_cons_zero, Act.put, List.setIfInBounds_toArray, List.set_cons_zero, List.set_cons_succ]
      have f6 : w6.frozen? ⟨ob, 1, none⟩ = false := kO6.frozen 1
      have x6 := HS.out _ kO6 kF6
      refine wpAnyK_takeY (i := 6) (v := ?_) rfl (by kernel_rfl) (by kernel_rfl) (by kernel_rfl) (by kernel_rfl) (fun _ _ _ h => h) (Or.inl ⟨by rfl, ?_⟩) x6 ?_
      case refine_2 => intro w; go_simp; try with_reducible rfl
      try simp only [List.getElem_toArray, List.getElem_cons_succ, List.getElem_cons_zero, Act.put, List.setIfInBounds_toArray, List.set_cons_zero, List.set_cons_succ]
      refine wpAnyK_ready (rs := [7]) (by kernel_rfl) (by simp) ?_
      refine AllReadyK.turn rfl (fun K hK => ?_) AllReadyK.nil
      obtain ⟨x6', -, -, -, -, -, -⟩ := x6
      go_simp
      have kO7 := kO6.set_ 1 (.slice R6 fs6.length r6)
      have g7 : w6.grownBy (w6.setCell ⟨ob, 1, none⟩ (.slice R6 fs6.length r6)) (some ob) := only_setCell (World.grownBy.refl w6 _) (p := ⟨ob, 1, none⟩) (.inl rfl) _
      have kR7 := kR6.grown g7 (fun e => hor (Option.some.inj e).symm)
      have o7 := Own.same o6 g7 (.inr fun e => by have := (Own.lt o6 _ e).1; omega) (fun b hb e => by have := Option.some.inj e; omega)
      have b7 := b06.grown g7 b06.size (fun j e => by have := Option.some.inj e; omega)
      have z7 := g7.size
      refine hK.out _ _ ?_
      clear hK K x6' f6 kF6 kO6 kR6 o6 g7 b06
      try dsimp only
      refine wpAny_done (by kernel_rfl) ?_ _
      refine NoPanic.normal ?_
      have HF6 : Hid (fs6 = e.add.take (n + 1)) := by show _ = _; rw [HST.out, H6.out]
      have HL6 : Hid (fs6.length = n + 1) := by show _ = _; rw [H6.out, List.length_append, HFL.out]; rfl
      go_wp2_with fail
      go_roundw
      case rel => exact ⟨n + 1, fs6, R6, r6, by omega, by simp, HF6.out, HL6.out, o7, kO7, kR7, b7, by omega⟩
      case measure => simp [intOf]; omega
    · have hlt' : ¬ (n : Int) < (e.add.length : Int) := by omega
      have HE : Hid (fs = e.add) := by show _ = _; rw [HFS.out]; exact List.take_of_length_le (by omega)
      clear HFS HFL
      go_wp2_with (first
        | ((with_reducible refine wpList_load_blk rfl 35 (.tmp 3) rfl ob ?_ 35 _ _ kO Try.underlying35 ?_ Try.size_RMEdit ?_ ?_); rfl; rfl; rfl)
        | ((with_reducible refine wpList_store_blk rfl 35 (.tmp 2) (.tmp 28) rfl rb 35 _ #[.bool e.reset, .slice R fs.length r, .slice D e.drop.length d, .int .u64 (e.seq : Int)] ?_ ?_ kR Try.size_RMEdit ?_ ?_ ?_ ?_); rfl; rfl; rfl; rfl; (simp [Value.oneCell']); intro w9 kz9 g9 z9))
      have o9 := Own.same oF g9 (.inr fun e => by have := (Own.lt oF _ e).1; omega) (fun b hb e => by have := Option.some.inj e; omega)
      have b9 := br.grown g9 br.size (fun j e => by have := Option.some.inj e; omega)
      exact bodyPost_ret (results_cell rfl rfl kz9 Try.underlying35 rfl Try.size_RMEdit) rfl (by rw [HE.out] at o9 ⊢; exact ⟨R, r, rfl, Own.base o9 (by omega), b9⟩)
end Go.Proofs.Ytmgibpedclngpaa
