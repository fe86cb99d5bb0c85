/- The document's log: Drop. (Printed by wip/gen_rlb.py.) -/
import Derived.Test.YtbldfgpnghoigaaRlA
import Derived.Test.YtbldfgpnghoigaaWalD
namespace Go.Proofs.Ytbldfgpnghoigaa
open Go.RowKit

/-- the segments that stay -/
def dropS (n : Nat) : List Seg → List Seg
  | s :: t :: r => if t.1 ≤ n then dropS n (t :: r) else s :: t :: r
  | l => l
def dropR (W : LRL) (segs : List Seg) (n : Nat) : LRL :=
  { W with first := W.first + ((recsOf segs).length - (recsOf (dropS n segs)).length), recs := recsOf (dropS n segs), segs := (dropS n segs).map (·.1), safe := W.safe - (((recsOf segs).length - (recsOf (dropS n segs)).length : Nat) : Int) }
theorem run_lowU (A : Option Addr) (n c k : Nat) (hk : k ≤ n) (w : World) :
    (Instr.slice 53 (.slice A n c) (some (.int .i64 (k : Int))) none none).run Try.prog w = .ok (.slice (if c = k then A else A.map (·.add (k * 1))) (n - k) (c - k)) w := by
  have h1 : (0 : Int) ≤ (k : Int) := by omega
  have h2 : (k : Int) ≤ (n : Int) := by omega
  have hs : (sizeOf (Try.prog.elem 53)).run Try.prog w = .ok 1 w := by kernel_rfl
  rw [run_slice_l w 53 A n c (by kernel_rfl) .i64 (k : Int) h1 h2, hs]
  simp [Result.andThen, sliced]
theorem run_lowB (A : Option Addr) (n c k : Nat) (hk : k ≤ n) (w : World) :
    (Instr.slice 27 (.slice A n c) (some (.int .i64 (k : Int))) none none).run Try.prog w = .ok (.slice (if c = k then A else A.map (·.add (k * 1))) (n - k) (c - k)) w := by
  have h1 : (0 : Int) ≤ (k : Int) := by omega
  have h2 : (k : Int) ≤ (n : Int) := by omega
  have hs : (sizeOf (Try.prog.elem 27)).run Try.prog w = .ok 1 w := by kernel_rfl
  rw [run_slice_l w 27 A n c (by kernel_rfl) .i64 (k : Int) h1 h2, hs]
  simp [Result.andThen, sliced]
theorem SlS.dropU {w : World} {S : Nat → Prop} {A : Option Addr} {l : List Nat} {c : Nat} (h : SlS U64E w S A l) (hc : l.length ≤ c) (k : Nat) (hk : k ≤ l.length) :
    ∃ R, SlS U64E w S R (l.drop k) ∧ ∀ W, (Instr.slice 53 (.slice A l.length c) (some (.int .i64 (k : Int))) none none).run Try.prog W = .ok (.slice R (l.drop k).length (c - k)) W :=
  ⟨_, h.drop hk hc, fun W => by rw [run_lowU A _ c k hk, List.length_drop]; rfl⟩
theorem SlS.dropB {w : World} {S : Nat → Prop} {A : Option Addr} {l : List (List UInt8)} {c : Nat} (h : SlS BsE w S A l) (hc : l.length ≤ c) (k : Nat) (hk : k ≤ l.length) :
    ∃ R, SlS BsE w S R (l.drop k) ∧ ∀ W, (Instr.slice 27 (.slice A l.length c) (some (.int .i64 (k : Int))) none none).run Try.prog W = .ok (.slice R (l.drop k).length (c - k)) W :=
  ⟨_, h.drop hk hc, fun W => by rw [run_lowB A _ c k hk, List.length_drop]; rfl⟩
/-- what a round of Drop keeps -/
structure DInv (W : LRL) (segs : List Seg) (n : Nat) (sg : List Seg) (fst : Nat) (safe : Int) : Prop where
  eq : dropS n sg = dropS n segs
  chain : Chain sg
  len : sg.length ≤ 1000000
  lt : ∀ s ∈ sg, s.1 < 1000000
  fst : fst + (recsOf sg).length = W.first + (recsOf segs).length
  safe : safe = W.safe - (((recsOf segs).length - (recsOf sg).length : Nat) : Int)
  le : (recsOf sg).length ≤ (recsOf segs).length
theorem recsOf_cons (s : Seg) (r : List Seg) : recsOf (s :: r) = s.2 ++ recsOf r := rfl
theorem DInv.step {W : LRL} {segs : List Seg} {n : Nat} {s t : Seg} {r : List Seg} {fst : Nat} {safe : Int} (h : DInv W segs n (s :: t :: r) fst safe) (ht : t.1 ≤ n) : DInv W segs n (t :: r) (fst + s.2.length) (safe - (s.2.length : Int)) := by
  obtain ⟨h1, h2, h3, h4, h5, h6, h7⟩ := h
  rw [recsOf_cons, List.length_append] at h5 h6 h7
  refine ⟨?_, h2.2, by simp at h3 ⊢; omega, fun q hq => h4 q (List.mem_cons_of_mem _ hq), by omega, by rw [h6]; omega, by omega⟩
  rw [← h1]
  show _ = (if t.1 ≤ n then _ else _)
  rw [if_pos ht]
theorem DInv.done {W : LRL} {segs : List Seg} {n : Nat} {sg : List Seg} {fst : Nat} {safe : Int} (h : DInv W segs n sg fst safe) (hs : dropS n sg = sg) : dropR W segs n = ⟨fst, recsOf sg, safe, sg.map (·.1), W.size, W.rot⟩ := by
  obtain ⟨h1, _, _, _, h5, h6, h7⟩ := h
  rw [hs] at h1
  unfold dropR
  rw [← h1, ← h6, show W.first + ((recsOf segs).length - (recsOf sg).length) = fst by omega]
theorem drop_leaf {S : Nat → Prop} {w w2 wc wl w9 : World} {fst L : Nat} {safe : Int} {A2 : Option Addr} {c2 : Nat} {V : Value} {W : LRL} {sg : List Seg} {A9 : Option Addr} {c9 : Nat} {xs9 ys : List Nat} (zc : w2.heap.size ≤ wc.heap.size) (hz : w.heap.size < w2.heap.size) (dl : Below wc.heap.size wc wl) (kc : Blk wc w.heap.size 55 #[.int .u64 (fst : Int), .slice A2 L c2, .int .i64 safe, V, .int .i64 W.size, .bool W.rot])
    (hA : SlS BsE wc (fun x => (S x ∧ x < w.heap.size) ∨ w2.heap.size ≤ x) A2 (recsOf sg)) (gc : w2.grownBy wc (some w.heap.size)) (H9 : Hid (xs9 = [] ++ ys)) (o9 : Own U64E 32 w9 wc.heap.size (fun _ => False) (.slice A9 xs9.length c9) xs9) (g9 : wl.grownBy w9 (Value.slice (some ⟨wc.heap.size, 0, none⟩) 0 0).ownBlock) (hyl : ys.length ≤ 1000000) :
    xs9 = ys ∧ Blk w9 w.heap.size 55 #[.int .u64 (fst : Int), .slice A2 L c2, .int .i64 safe, V, .int .i64 W.size, .bool W.rot] ∧ w9.cell? ⟨w.heap.size, 3, none⟩ = some V ∧ w9.frozen? ⟨w.heap.size, 3, none⟩ = false ∧
    (SlS BsE (w9.setCell ⟨w.heap.size, 3, none⟩ (.slice A9 xs9.length c9)) (fun x => (S x ∧ x < w.heap.size) ∨ w2.heap.size ≤ x) A2 (recsOf sg) ∧ SlS U64E (w9.setCell ⟨w.heap.size, 3, none⟩ (.slice A9 xs9.length c9)) (fun x => (S x ∧ x < w.heap.size) ∨ w2.heap.size ≤ x) A9 xs9 ∧ (xs9.length ≤ c9 ∧ c9 ≤ 9223372036854775807) ∧ w2.grownBy (w9.setCell ⟨w.heap.size, 3, none⟩ (.slice A9 xs9.length c9)) (some w.heap.size) ∧
      Blk (w9.setCell ⟨w.heap.size, 3, none⟩ (.slice A9 xs9.length c9)) w.heap.size 55 #[.int .u64 (fst : Int), .slice A2 L c2, .int .i64 safe, .slice A9 xs9.length c9, .int .i64 W.size, .bool W.rot]) := by
  have hk := kc.lt
  have b9 : Below wc.heap.size wc w9 := dl.grown g9 dl.size (fun x e => by have h : wc.heap.size = x := Option.some.inj e; omega)
  have k9 := kc.below b9 hk
  have g10 : w9.grownBy (w9.setCell ⟨w.heap.size, 3, none⟩ (.slice A9 xs9.length c9)) (some w.heap.size) := only_setCell (only_of_below (Below.refl _ _) _) (.inl rfl) _
  have e : xs9 = ys := by rw [H9.out]; rfl
  refine ⟨e, k9, k9.cell 3, k9.frozen 3, (hA.below b9).same ⟨g10.size, fun x h1 h2 => g10.block x h2 (fun e => by have := Option.some.inj e; rcases h1 with h1 | h1; have := h1.2; omega; omega)⟩, ?_, o9.caps, ⟨g10.os.trans (b9.os.trans gc.os), g10.tape.trans (b9.tape.trans gc.tape), g10.output.trans (b9.output.trans gc.output), Nat.le_trans gc.size (Nat.le_trans b9.size g10.size), fun x hx hr => (g10.block x (Nat.lt_of_lt_of_le hx (Nat.le_trans gc.size b9.size)) hr).trans ((b9.block x (Nat.lt_of_lt_of_le hx gc.size)).trans (gc.block x hx hr))⟩, k9.set_ 3 _⟩
  refine (o9.setCell (p := ⟨w.heap.size, 3, none⟩) (fun e => by have := (o9.lt _ e).1; have h2 : wc.heap.size ≤ w.heap.size := this; omega) (fun h => h) _).slS rfl (by rw [e]; simp only [U64E]; omega) (fun _ h => h.elim) (fun x h => .inr (Nat.le_trans zc h))
theorem wrap_both {g : Nat} (h : g < 1000000) : wrap64 (IntKind.u64.wrap (g : Int)) = (g : Int) := by
  rw [show IntKind.u64.wrap (g : Int) = (g : Int) from by simp [IntKind.wrap, IntKind.bits, IntKind.signed]; omega]
  unfold wrap64
  omega
set_option maxRecDepth 100000 in
set_option maxHeartbeats 8000000 in
theorem rdrop_any (A : Option Addr) (c : Nat) (B : Option Addr) (d : Nat) (W : LRL) (segs : List Seg) (n : Nat) (S : Nat → Prop) (w : World) (hA : SlS BsE w S A W.recs) (hB : SlS U64E w S B W.segs) (hcd : Caps c d W) (hrec : W.recs = recsOf segs) (hseg : W.segs = segs.map (·.1)) (hch : Chain segs)
    (hn : nextR W < 1000000) (hsf : -1000000 ≤ W.safe ∧ W.safe ≤ 1000000) (hs6 : segs.length ≤ 1000000) (hlt : ∀ s ∈ segs, s.1 < 1000000) :
    Calls Try.prog 31 #[.agg (rlC A c B d W), .int .u64 (n : Int)] w (RetRL S (dropR W segs n) w) := by
  have dA : Below w.heap.size w ((w.alloc (.cells (rlC A c B d W) 55)).alloc (.cells #[.int .u64 0, .slice none 0 0, .int .i64 0, .slice none 0 0, .int .i64 0, .bool false] 55)) := ((Below.refl _ _).alloc (Nat.le_refl _) _).alloc (by simp) _
  have kB : Blk ((w.alloc (.cells (rlC A c B d W) 55)).alloc (.cells #[.int .u64 0, .slice none 0 0, .int .i64 0, .slice none 0 0, .int .i64 0, .bool false] 55)) w.heap.size 55 (rlC A c B d W) := (Blk.new w 55 _).alloc _
  have kR : Blk ((w.alloc (.cells (rlC A c B d W) 55)).alloc (.cells #[.int .u64 0, .slice none 0 0, .int .i64 0, .slice none 0 0, .int .i64 0, .bool false] 55)) (w.heap.size + 1) 55 #[.int .u64 0, .slice none 0 0, .int .i64 0, .slice none 0 0, .int .i64 0, .bool false] := heap_alloc2_new _ _ _
  have hz2 : ((w.alloc (.cells (rlC A c B d W) 55)).alloc (.cells #[.int .u64 0, .slice none 0 0, .int .i64 0, .slice none 0 0, .int .i64 0, .bool false] 55)).heap.size = w.heap.size + 2 := by simp
  have HZ2 := Lib.hid hz2
  have eW : W = ⟨W.first, recsOf segs, W.safe, segs.map (·.1), W.size, W.rot⟩ := by rw [← hrec, ← hseg]
  have HD0 : Hid (DInv W segs n segs W.first W.safe) := ⟨rfl, hch, hs6, hlt, rfl, by omega, Nat.le_refl _⟩
  have HT0 : Hid (W.first + (recsOf segs).length < 1000000) := by have h : nextR W < 1000000 := hn; unfold nextR at h; rw [hrec] at h; exact h
  have HSF := Lib.hid hsf
  have hA2 : SlS BsE w (fun x => S x ∧ x < w.heap.size) A (recsOf segs) := by rw [← hrec]; exact hA.mono (fun b h1 h2 => ⟨h2, h1⟩)
  have hB2 : SlS U64E w (fun x => S x ∧ x < w.heap.size) B (segs.map (·.1)) := by rw [← hseg]; exact hB.mono (fun b h1 h2 => ⟨h2, h1⟩)
  have HCD := Lib.hid hcd
  have kB0 : Blk ((w.alloc (.cells (rlC A c B d W) 55)).alloc (.cells #[.int .u64 0, .slice none 0 0, .int .i64 0, .slice none 0 0, .int .i64 0, .bool false] 55)) w.heap.size 55 (rlC A c B d ⟨W.first, recsOf segs, W.safe, segs.map (·.1), W.size, W.rot⟩) := by rw [← eW]; exact kB
  have HC0 : Hid (Caps c d ⟨W.first, recsOf segs, W.safe, segs.map (·.1), W.size, W.rot⟩) := by rw [← eW]; exact hcd
  clear hz2 hsf hn hch hs6 hlt hrec hseg hA hB hcd kB eW
  go_enter Try.func31, Try.ntmps31
  go_wp2_with fail
  generalize ((w.alloc (.cells (rlC A c B d W) 55)).alloc (.cells #[.int .u64 0, .slice none 0 0, .int .i64 0, .slice none 0 0, .int .i64 0, .bool false] 55)) = w2 at *
  go_loopw [17] (fun _ wr => ∃ (sg : List Seg) (fst : Nat) (safe : Int) (A2 : Option Addr) (c2 : Nat) (B2 : Option Addr) (d2 : Nat), Hid (DInv W segs n sg fst safe) ∧ Blk wr w.heap.size 55 (rlC A2 c2 B2 d2 ⟨fst, recsOf sg, safe, sg.map (·.1), W.size, W.rot⟩) ∧ SlS BsE wr (fun x => (S x ∧ x < w.heap.size) ∨ w2.heap.size ≤ x) A2 (recsOf sg) ∧ SlS U64E wr (fun x => (S x ∧ x < w.heap.size) ∨ w2.heap.size ≤ x) B2 (sg.map (·.1)) ∧ Hid (Caps c2 d2 ⟨fst, recsOf sg, safe, sg.map (·.1), W.size, W.rot⟩) ∧ w2.grownBy wr (some w.heap.size)) (fun _ wr => segLen w.heap.size wr)
  case atStart => exact ⟨segs, W.first, W.safe, A, c, B, d, HD0.out, kB0, (hA2.below dA).mono (fun _ _ h => .inl h), (hB2.below dA).mono (fun _ _ h => .inl h), HC0.out, only_of_below (Below.refl _ _) _⟩
  case round =>
    clear HD0 kB0 hA2 hB2 HC0 HCD
    obtain ⟨sg, fst, safe, A2, c2, B2, d2, HD, kB, hA2, hB2, HC, gr⟩ := hrel
    have zr := gr.size
    match sg, HD, kB, hA2, hB2, HC with
    | [], HD, kB, hA2, hB2, HC =>
      have c3 : wr.cell? ⟨w.heap.size, 3, none⟩ = some (.slice B2 0 d2) := kB.cell 3
      have HE : Hid (dropR W segs n = ⟨fst, recsOf [], safe, ([] : List Seg).map (·.1), W.size, W.rot⟩) := HD.out.done rfl
      have kRr : Blk wr (w.heap.size + 1) 55 #[.int .u64 0, .slice none 0 0, .int .i64 0, .slice none 0 0, .int .i64 0, .bool false] := kR.grown gr (fun e => by have := Option.some.inj e; omega)
      go_wp2_with (first | ((with_reducible refine wpList_load_blk rfl 55 (.tmp 2) rfl w.heap.size ?_ 55 _ _ kB Try.underlying55 ?_ Try.size_RL ?_ ?_); rfl; rfl; rfl) | ((with_reducible refine wpList_store_blk rfl 55 (.tmp 4) (.tmp 50) rfl (w.heap.size + 1) 55 _ (rlC A2 c2 B2 d2 ⟨fst, recsOf [], safe, ([] : List Seg).map (·.1), W.size, W.rot⟩) ?_ ?_ kRr Try.size_RL ?_ ?_ ?_ ?_); rfl; rfl; rfl; rfl; (simp [rlC, Value.oneCell']); intro w11 k11 g11 z11))
      rw [HE.out]
      have b11 : Below w.heap.size w w11 := (dA.grown gr dA.size (fun x e => by have := Option.some.inj e; omega)).grown g11 (Nat.le_trans dA.size gr.size) (fun x e => by have := Option.some.inj e; omega)
      exact bodyPost_ret (results_cell rfl rfl k11 Try.underlying55 rfl Try.size_RL) rfl ⟨A2, c2, B2, d2, rfl, (hA2.same ⟨g11.size, fun x h1 h2 => g11.block x h2 (fun e => by have := Option.some.inj e; have := HZ2.out; rcases h1 with h1 | h1; have := h1.2; omega; omega)⟩).mono (fun x _ h => h.elim (fun h => .inl h.1) (fun h => .inr (by have := HZ2.out; omega))), (hB2.same ⟨g11.size, fun x h1 h2 => g11.block x h2 (fun e => by have := Option.some.inj e; have := HZ2.out; rcases h1 with h1 | h1; have := h1.2; omega; omega)⟩).mono (fun x _ h => h.elim (fun h => .inl h.1) (fun h => .inr (by have := HZ2.out; omega))), HC.out, b11⟩
    | [s], HD, kB, hA2, hB2, HC =>
      have c3 : wr.cell? ⟨w.heap.size, 3, none⟩ = some (.slice B2 1 d2) := kB.cell 3
      have HE : Hid (dropR W segs n = ⟨fst, recsOf [s], safe, [s].map (·.1), W.size, W.rot⟩) := HD.out.done rfl
      have kRr : Blk wr (w.heap.size + 1) 55 #[.int .u64 0, .slice none 0 0, .int .i64 0, .slice none 0 0, .int .i64 0, .bool false] := kR.grown gr (fun e => by have := Option.some.inj e; omega)
      go_wp2_with (first | ((with_reducible refine wpList_load_blk rfl 55 (.tmp 2) rfl w.heap.size ?_ 55 _ _ kB Try.underlying55 ?_ Try.size_RL ?_ ?_); rfl; rfl; rfl) | ((with_reducible refine wpList_store_blk rfl 55 (.tmp 4) (.tmp 50) rfl (w.heap.size + 1) 55 _ (rlC A2 c2 B2 d2 ⟨fst, recsOf [s], safe, [s].map (·.1), W.size, W.rot⟩) ?_ ?_ kRr Try.size_RL ?_ ?_ ?_ ?_); rfl; rfl; rfl; rfl; (simp [rlC, Value.oneCell']); intro w11 k11 g11 z11))
      rw [HE.out]
      have b11 : Below w.heap.size w w11 := (dA.grown gr dA.size (fun x e => by have := Option.some.inj e; omega)).grown g11 (Nat.le_trans dA.size gr.size) (fun x e => by have := Option.some.inj e; omega)
      exact bodyPost_ret (results_cell rfl rfl k11 Try.underlying55 rfl Try.size_RL) rfl ⟨A2, c2, B2, d2, rfl, (hA2.same ⟨g11.size, fun x h1 h2 => g11.block x h2 (fun e => by have := Option.some.inj e; have := HZ2.out; rcases h1 with h1 | h1; have := h1.2; omega; omega)⟩).mono (fun x _ h => h.elim (fun h => .inl h.1) (fun h => .inr (by have := HZ2.out; omega))), (hB2.same ⟨g11.size, fun x h1 h2 => g11.block x h2 (fun e => by have := Option.some.inj e; have := HZ2.out; rcases h1 with h1 | h1; have := h1.2; omega; omega)⟩).mono (fun x _ h => h.elim (fun h => .inl h.1) (fun h => .inr (by have := HZ2.out; omega))), HC.out, b11⟩
    | s :: t :: r, HD, kB, hA2, hB2, HC =>
      obtain ⟨m, hm⟩ : ∃ m, m = ((s :: t :: r).map (·.1)).length := ⟨_, rfl⟩
      have hmr : m = r.length + 2 := by rw [hm]; simp
      have c3 : wr.cell? ⟨w.heap.size, 3, none⟩ = some (.slice B2 m d2) := by rw [hm]; exact kB.cell 3
      have hlr : ((s :: t :: r).map (·.1)).length = r.length + 2 := by simp
      obtain ⟨ad, rfl, hc0, hl0⟩ := U64E.at_ hB2 (k := 0) (by omega)
      obtain ⟨ad', e', hc1, hl1⟩ := U64E.at_ hB2 (k := 1) (by omega)
      obtain rfl := Option.some.inj e'
      replace hc1 : wr.cell? (ad.add 1) = some (.int .u64 (t.1 : Int)) := hc1
      replace hc0 : wr.cell? (ad.add 0) = some (.int .u64 (s.1 : Int)) := hc0
      have hc1' : wr.cell? ⟨ad.block, ad.off + 1, none⟩ = some (.int .u64 (t.1 : Int)) := by
        rw [← hc1]; unfold Addr.add; simp
      have hc0' : wr.cell? ad = some (.int .u64 (s.1 : Int)) := by
        rw [← hc0]; unfold Addr.add; simp
      have m1 : (1 : Int) < (m : Int) := by omega
      have m0 : 0 < m := by omega
      have HLS : Hid (segLen w.heap.size wr = m) := segLen_of c3
      have HM := Lib.hid hm
      have HMR := Lib.hid hmr
      clear hm hmr hc0 hc1 e' hlr hl0 hl1
      by_cases ht : t.1 ≤ n
      · have hti : (t.1 : Int) ≤ (n : Int) := Int.ofNat_le.2 ht
        have HDN := Lib.hid (HD.out.step ht)
        have HTS : Hid (t.1 = s.1 + s.2.length) := HD.out.chain.1
        have HTB : Hid (t.1 < 1000000) := HD.out.lt t (by simp)
        clear ht
        generalize hts : t.1 = tn at *
        generalize hss : s.1 = sn at *
        have HTN := Lib.hid hts
        have HSN := Lib.hid hss
        clear hts hss
        obtain ⟨gn, hgn⟩ : ∃ gn, gn = s.2.length := ⟨_, rfl⟩
        have HGN := Lib.hid hgn
        clear hgn
        obtain ⟨L, hL⟩ : ∃ L, L = (recsOf (s :: t :: r)).length := ⟨_, rfl⟩
        have n1 : Blk wr w.heap.size 55 #[.int .u64 (fst : Int), .slice A2 L c2, .int .i64 safe, .slice (some ad) m d2, .int .i64 W.size, .bool W.rot] := by rw [HM.out, hL]; exact kB
        have HL := Lib.hid hL
        clear hL
        go_upto_region 2 with fail
        go_cut [5] from 18 to 27 (fun v wx => v = .int .i64 (gn : Int) ∧ ∃ q, wx = wr.drewN q)
        case first =>
          have HV : Hid (wrap64 (IntKind.u64.wrap ((tn : Int) - (sn : Int))) = (gn : Int)) := by
            have h1 := HTS.out
            have h2 := HTB.out
            rw [← HGN.out] at h1
            have h3 : (tn : Int) - (sn : Int) = (gn : Int) := by omega
            rw [h3]
            exact wrap_both (by omega)
          go_quiet (fail)
          go_wp2_with fail
          go_meet
          case rel => exact ⟨congrArg (Value.int .i64) HV.out, _, rfl⟩
        case rest =>
          obtain ⟨rfl, q, hwq⟩ := hcut
          have bq : Below wr.heap.size wr wc := by rw [hwq]; exact below_drewN (Below.refl _ _) q
          have kc := n1.below bq n1.lt
          have hAc := hA2.below bq
          have hBc := hB2.below bq
          have gc : w2.grownBy wc (some w.heap.size) := ⟨bq.os.trans gr.os, bq.tape.trans gr.tape, bq.output.trans gr.output, Nat.le_trans zr bq.size, fun x hx hr => (bq.block x (Nat.lt_of_lt_of_le hx zr)).trans (gr.block x hx hr)⟩
          have zc := gc.size
          obtain ⟨ys, hys⟩ : ∃ ys, ys = (t :: r).map (·.1) := ⟨_, rfl⟩
          obtain ⟨R3, hR3, hrun3⟩ : ∃ R, SlS U64E wc (fun x => (S x ∧ x < w.heap.size) ∨ w2.heap.size ≤ x) R ys ∧ ∀ Y, (Instr.slice 53 (.slice (some ad) m d2) (some (.int .i64 1)) none none).run Try.prog Y = .ok (.slice R ys.length (d2 - 1)) Y := by
            obtain ⟨R, h1, h2⟩ := hBc.dropU HC.out.2.1 1 (by simp)
            rw [hys, HM.out]
            exact ⟨R, h1, h2⟩
          have HYS := Lib.hid hys
          have hyl : ys.length ≤ 1000000 := by
            have h := HD.out.len
            rw [hys]
            simp at h ⊢
            omega
          clear hys hwq n1 hA2 hB2 hBc gr bq kB c3 hc1' hc0' m1 m0 hti
          have dl : Below wc.heap.size wc (wc.alloc (.cells #[] 32)) := (Below.refl _ _).alloc (Nat.le_refl _) _
          obtain ⟨us, hru, hfl⟩ := (hR3.below dl).parts
          have oE : Own U64E 32 (wc.alloc (.cells #[] 32)) wc.heap.size (fun _ => False) (.slice (some ⟨wc.heap.size, 0, none⟩) 0 0) [] := Own.empty U64E (Blk.new wc 32 #[]) (Nat.le_refl _)
          have y3 : wc.cell? ⟨w.heap.size, 3, none⟩ = some (.slice (some ad) m d2) := kc.cell 3
          have y3l : (wc.alloc (.cells #[] 32)).cell? ⟨w.heap.size, 3, none⟩ = some (.slice (some ad) m d2) := (kc.alloc _).cell 3
          have hl1 : (([] : List Nat).length + ys.length) * U64E.bytes ≤ 140737488355328 := by simp only [U64E, List.length_nil]; omega
          have hl2 : ([] : List Nat).length + ys.length ≤ maxLen := by simp only [maxLen, List.length_nil]; omega
          have hzl : wc.heap.size ≤ (wc.alloc (.cells #[] 32)).heap.size := dl.size
          obtain ⟨i0, hi0, hz0, hz1, hz2⟩ := info_parts Try.infoU64
          have HLF := Lib.hid (fun (A9 : Option Addr) (c9 : Nat) (xs9 : List Nat) (w9 : World) (H9 : Hid (xs9 = [] ++ ys)) (o9 : Own U64E 32 w9 wc.heap.size (fun _ => False) (.slice A9 xs9.length c9) xs9) (g9 : (wc.alloc (.cells #[] 32)).grownBy w9 (Value.slice (some ⟨wc.heap.size, 0, none⟩) 0 0).ownBlock) => drop_leaf (w := w) zc (by have := HZ2.out; omega) dl kc hAc gc H9 o9 g9 hyl)
          clear hR3 hAc kc gc dl hyl
          go_upto_region 4 with (at_builtin; refine wpList_appS U64E wc.heap.size _ rfl (.tmp 28) (.tmp 31) 32 53 rfl i0 _ Try.underlying53 hi0 hz0 hz1 hz2 rfl (fun _ => False) (some ⟨wc.heap.size, 0, none⟩) ([] : List Nat) 0 rfl oE R3 ys (d2 - 1) rfl us hru (U64E.flat_any hfl) hl1 hl2 hzl ?_; intro A9 c9 xs9 w9 H9 o9 g9 t9; obtain ⟨e9, k9, y39, f39, hLF⟩ := HLF.out A9 c9 xs9 w9 H9 o9 g9; subst e9; have HLF9 := Lib.hid hLF; clear hLF o9 g9 t9)
          generalize (w9.setCell ⟨w.heap.size, 3, none⟩ (.slice A9 xs9.length c9)) = w10 at *
          clear y39 f39 k9 y3 y3l oE hru hfl hl1 hl2 hzl hrun3 HLF
          have gn0 : gn ≤ (recsOf (s :: t :: r)).length := by rw [HGN.out, recsOf_cons, List.length_append]; exact Nat.le_add_right _ _
          obtain ⟨RB, hRB, hrunB⟩ := HLF9.out.1.dropB HC.out.1.1 gn gn0
          have hdz : (recsOf (s :: t :: r)).drop gn = recsOf (t :: r) := by rw [HGN.out, recsOf_cons, List.drop_left' rfl]
          rw [hdz] at hRB hrunB
          obtain ⟨zs, hzs⟩ : ∃ zs, zs = recsOf (t :: r) := ⟨_, rfl⟩
          rw [← hzs, ← HL.out] at hrunB
          rw [← hzs] at hRB
          have HZS := Lib.hid hzs
          have hgi : (gn : Int) ≤ (L : Int) := by rw [HL.out]; exact Int.ofNat_le.2 gn0
          have kD := HLF9.out.2.2.2.2
          have y1 : w10.cell? ⟨w.heap.size, 1, none⟩ = some (.slice A2 L c2) := kD.cell 1
          have f1 : w10.frozen? ⟨w.heap.size, 1, none⟩ = false := kD.frozen 1
          have k11 : Blk (w10.setCell ⟨w.heap.size, 1, none⟩ (.slice RB zs.length (c2 - gn))) w.heap.size 55 #[.int .u64 (fst : Int), .slice RB zs.length (c2 - gn), .int .i64 safe, .slice A9 xs9.length c9, .int .i64 W.size, .bool W.rot] := kD.set_ 1 _
          have g11 : w10.grownBy (w10.setCell ⟨w.heap.size, 1, none⟩ (.slice RB zs.length (c2 - gn))) (some w.heap.size) := only_setCell (only_of_below (Below.refl _ _) _) (.inl rfl) _
          clear hdz hzs gn0 kD
          go_upto_region 5 with fail
          generalize (w10.setCell ⟨w.heap.size, 1, none⟩ (.slice RB zs.length (c2 - gn))) = w11 at *
          clear y1 f1 hrunB hgi
          have hb : fst < 1000000 ∧ gn < 1000000 ∧ -2000000 ≤ safe ∧ safe ≤ 1000000 := by
            have h1 := HD.out.fst
            have h2 := HT0.out
            have h3 := HD.out.safe
            have h4 := HSF.out
            have h5 := HD.out.le
            have h6 : gn ≤ (recsOf (s :: t :: r)).length := by rw [HGN.out, recsOf_cons, List.length_append]; exact Nat.le_add_right _ _
            omega
          obtain ⟨hb1, hb2, hb3, hb4⟩ := hb
          have y0 : w11.cell? ⟨w.heap.size, 0, none⟩ = some (.int .u64 (fst : Int)) := k11.cell 0
          have f0 : w11.frozen? ⟨w.heap.size, 0, none⟩ = false := k11.frozen 0
          have k12 : Blk (w11.setCell ⟨w.heap.size, 0, none⟩ (.int .u64 ((fst : Int) + (gn : Int)))) w.heap.size 55 #[.int .u64 ((fst : Int) + (gn : Int)), .slice RB zs.length (c2 - gn), .int .i64 safe, .slice A9 xs9.length c9, .int .i64 W.size, .bool W.rot] := k11.set_ 0 _
          have g12 := only_setCell (p := ⟨w.heap.size, 0, none⟩) g11 (.inl rfl) (.int .u64 ((fst : Int) + (gn : Int)))
          go_upto_region 6 with fail
          generalize (w11.setCell ⟨w.heap.size, 0, none⟩ (.int .u64 ((fst : Int) + (gn : Int)))) = w12 at *
          clear y0 f0 k11 g11
          have y2 : w12.cell? ⟨w.heap.size, 2, none⟩ = some (.int .i64 safe) := k12.cell 2
          have f2 : w12.frozen? ⟨w.heap.size, 2, none⟩ = false := k12.frozen 2
          have k13 : Blk (w12.setCell ⟨w.heap.size, 2, none⟩ (.int .i64 (safe - (gn : Int)))) w.heap.size 55 #[.int .u64 ((fst : Int) + (gn : Int)), .slice RB zs.length (c2 - gn), .int .i64 (safe - (gn : Int)), .slice A9 xs9.length c9, .int .i64 W.size, .bool W.rot] := k12.set_ 2 _
          have g13 := only_setCell (p := ⟨w.heap.size, 2, none⟩) g12 (.inl rfl) (.int .i64 (safe - (gn : Int)))
          have HF : Hid (∃ (sg : List Seg) (fst' : Nat) (safe' : Int) (A2 : Option Addr) (c2 : Nat) (B2 : Option Addr) (d2 : Nat), Hid (DInv W segs n sg fst' safe') ∧ Blk (w12.setCell ⟨w.heap.size, 2, none⟩ (.int .i64 (safe - (gn : Int)))) w.heap.size 55 (rlC A2 c2 B2 d2 ⟨fst', recsOf sg, safe', sg.map (·.1), W.size, W.rot⟩) ∧ SlS BsE (w12.setCell ⟨w.heap.size, 2, none⟩ (.int .i64 (safe - (gn : Int)))) (fun x => (S x ∧ x < w.heap.size) ∨ w2.heap.size ≤ x) A2 (recsOf sg) ∧ SlS U64E (w12.setCell ⟨w.heap.size, 2, none⟩ (.int .i64 (safe - (gn : Int)))) (fun x => (S x ∧ x < w.heap.size) ∨ w2.heap.size ≤ x) B2 (sg.map (·.1)) ∧ Hid (Caps c2 d2 ⟨fst', recsOf sg, safe', sg.map (·.1), W.size, W.rot⟩) ∧ w2.grownBy (w12.setCell ⟨w.heap.size, 2, none⟩ (.int .i64 (safe - (gn : Int)))) (some w.heap.size)) := by
            have hz := HZ2.out
            have hsame : Same (fun x => (S x ∧ x < w.heap.size) ∨ w2.heap.size ≤ x) w10 (w12.setCell ⟨w.heap.size, 2, none⟩ (.int .i64 (safe - (gn : Int)))) := ⟨g13.size, fun x h1 h2 => g13.block x h2 (fun e => by have := Option.some.inj e; rcases h1 with h1 | h1; have := h1.2; omega; omega)⟩
            have e1 : xs9 = (t :: r).map (·.1) := HYS.out
            have hg : w2.grownBy w10 (some w.heap.size) := HLF9.out.2.2.2.1
            have hc := HC.out.1
            have hc3 := HLF9.out.2.2.1
            have hB9 := HLF9.out.2.1
            have hzl : zs.length + gn = (recsOf (s :: t :: r)).length := by
              have h1 := congrArg List.length (recsOf_cons s (t :: r))
              rw [List.length_append] at h1
              rw [HZS.out, HGN.out]
              omega
            refine ⟨t :: r, fst + gn, safe - (gn : Int), RB, c2 - gn, A9, c9, by have h := HDN.out; rw [← HGN.out] at h; exact h, ?_, ?_, ?_, ?_, ⟨g13.os.trans hg.os, g13.tape.trans hg.tape, g13.output.trans hg.output, Nat.le_trans hg.size g13.size, fun x hx hr => (g13.block x (Nat.lt_of_lt_of_le hx hg.size) hr).trans (hg.block x hx hr)⟩⟩
            · rw [HZS.out, e1] at k13
              unfold rlC
              rw [Int.natCast_add]
              exact k13
            · rw [← HZS.out]
              exact hRB.same hsame
            · rw [← e1]
              exact hB9.same hsame
            · refine ⟨⟨?_, ?_⟩, ?_⟩
              · show (recsOf (t :: r)).length ≤ _
                rw [← HZS.out]
                have h1 : (recsOf (s :: t :: r)).length ≤ c2 := hc.1
                omega
              · have := hc.2; omega
              · show ((t :: r).map (·.1)).length ≤ _ ∧ _
                rw [← e1]
                exact hc3
          have HMS : Hid (segLen w.heap.size (w12.setCell ⟨w.heap.size, 2, none⟩ (.int .i64 (safe - (gn : Int)))) < segLen w.heap.size wr) := by
            show _ < _
            rw [segLen_of (k13.cell 3), HLS.out, HMR.out, HYS.out]
            simp
          clear k13 g13 g12 k12 hRB HLF9
          go_wp2_with fail
          go_roundw
          case rel => exact HF.out
          case measure => exact HMS.out
      · have hti : ¬ (t.1 : Int) ≤ (n : Int) := fun h => ht (Int.ofNat_le.1 h)
        have hds : dropS n (s :: t :: r) = s :: t :: r := by show (if t.1 ≤ n then _ else _) = _; rw [if_neg ht]
        clear ht
        have HE : Hid (dropR W segs n = ⟨fst, recsOf (s :: t :: r), safe, (s :: t :: r).map (·.1), W.size, W.rot⟩) := HD.out.done hds
        have kRr : Blk wr (w.heap.size + 1) 55 #[.int .u64 0, .slice none 0 0, .int .i64 0, .slice none 0 0, .int .i64 0, .bool false] := kR.grown gr (fun e => by have := Option.some.inj e; omega)
        go_wp2_with (first | ((with_reducible refine wpList_load_blk rfl 55 (.tmp 2) rfl w.heap.size ?_ 55 _ _ kB Try.underlying55 ?_ Try.size_RL ?_ ?_); rfl; rfl; rfl) | ((with_reducible refine wpList_store_blk rfl 55 (.tmp 4) (.tmp 50) rfl (w.heap.size + 1) 55 _ (rlC A2 c2 (some ad) d2 ⟨fst, recsOf (s :: t :: r), safe, (s :: t :: r).map (·.1), W.size, W.rot⟩) ?_ ?_ kRr Try.size_RL ?_ ?_ ?_ ?_); rfl; rfl; rfl; rfl; (simp [rlC, Value.oneCell']); intro w11 k11 g11 z11))
        rw [HE.out]
        have b11 : Below w.heap.size w w11 := (dA.grown gr dA.size (fun x e => by have := Option.some.inj e; omega)).grown g11 (Nat.le_trans dA.size gr.size) (fun x e => by have := Option.some.inj e; omega)
        exact bodyPost_ret (results_cell rfl rfl k11 Try.underlying55 rfl Try.size_RL) rfl ⟨A2, c2, some ad, d2, rfl, (hA2.same ⟨g11.size, fun x h1 h2 => g11.block x h2 (fun e => by have := Option.some.inj e; have := HZ2.out; rcases h1 with h1 | h1; have := h1.2; omega; omega)⟩).mono (fun x _ h => h.elim (fun h => .inl h.1) (fun h => .inr (by have := HZ2.out; omega))), (hB2.same ⟨g11.size, fun x h1 h2 => g11.block x h2 (fun e => by have := Option.some.inj e; have := HZ2.out; rcases h1 with h1 | h1; have := h1.2; omega; omega)⟩).mono (fun x _ h => h.elim (fun h => .inl h.1) (fun h => .inr (by have := HZ2.out; omega))), HC.out, b11⟩
end Go.Proofs.Ytbldfgpnghoigaa
