/- A log's segments on the disk. (Printed by wip/gen_walf.py.) A log's Next and First. A log in memory: its block, its segments' row (maybe cut at its beginning), its disk. -/
import Derived.Test.YtbldfgpnghoigaaWalN
import Derived.Test.YtbldfgpnghoigaaDskI
import Derived.Deep.AppendSrc
namespace Go.Proofs.Ytbldfgpnghoigaa
open Go.RowKit

/-- a segment in memory: the index of its first record -/
def SegE : ER Nat where
  size := 1
  pos := by omega
  bytes := 8
  bpos := by omega
  rep _ _ vs n := vs = [.int .u64 (n : Int)] ∧ n < 18446744073709551616
  len := by rintro w S vs a ⟨rfl, _⟩; rfl
  one := by rintro w S vs a ⟨rfl, _⟩ v hv; simp at hv; subst hv; rfl
  keep := by rintro w w' S vs a h _; exact h
  mono := by rintro w S S' vs a h _; exact h
theorem unhex_lt : ∀ (h : List UInt8) (a n : Nat), unhex a h = some n → n < (a + 1) * 16 ^ h.length
  | [], a, n, e => by
    simp only [unhex, Option.some.injEq] at e
    simp [e]
  | c :: r, a, n, e => by
    simp only [unhex] at e
    cases hu : undig c with
    | none => rw [hu] at e; cases e
    | some d =>
      rw [hu] at e
      have h1 := unhex_lt r (a * 16 + d) n e
      have h2 := undig_lt hu
      rw [List.length_cons, Nat.pow_succ, Nat.mul_comm _ 16, ← Nat.mul_assoc]
      refine Nat.lt_of_lt_of_le h1 (Nat.mul_le_mul_right _ (by omega))
theorem indexW_lt {nm pre : List UInt8} {n : Nat} (h : indexW nm pre = some n) : n < 18446744073709551616 := by
  unfold indexW at h
  split at h
  · rename_i h1
    have := unhex_lt _ _ _ h
    rw [h1.2] at this
    simpa using this
  · cases h
def foundW (nms : List (List UInt8)) (pre : List UInt8) : List Nat := nms.filterMap fun nm => indexW nm pre
theorem Try.infoSeg : (Try.prog.info? 82).map (fun i => (i.zero, i.size, i.bytes)) = some (some (.agg #[.int .u64 0]), 1, 8) := by kernel_rfl
set_option maxRecDepth 100000 in
set_option maxHeartbeats 2000000 in
theorem found_any (g : Nat) (S : Value) (l : LLog) (F : Nat → Prop) (d : LDisk) (ps : List PFile) (w : World) (hk : Blk w g 77 (logC S l)) (hd : DD w l.disk F d ps) (hp : PsOk ps) (hpl : l.pre.length ≤ 1048576) (ha : ∀ nm ∈ listP d ps l.pre, ∀ b ∈ nm, b.toNat < 128) (hll : (listP d ps l.pre).length ≤ 1048576) :
    Calls Try.prog 60 #[.pointer (some ⟨g, 0, none⟩)] w (fun en w' => ∃ A c, en = .returned (.slice A (foundW (listP d ps l.pre) l.pre).length c) ∧ Own SegE 82 w' w.heap.size (fun _ => False) (.slice A (foundW (listP d ps l.pre) l.pre).length c) (foundW (listP d ps l.pre) l.pre) ∧ Below w.heap.size w w') := by
  obtain ⟨i0, hi0, hz0, hz1, hz2⟩ := info_parts Try.infoSeg
  have T := Lib.hid (fun (wz : World) (h : Below w.heap.size w wz) => listD_any (hd.below h) hp l.pre (by omega))
  generalize listP d ps l.pre = nms at *
  have HA := Lib.hid ha
  clear ha hd hp
  go_enter Try.func60, Try.ntmps60
  go_upto_region 2 with fail
  have bd : Below w.heap.size w w.drew := (Below.refl _ _).drew
  refine wp_region_noPanic ?_
  refine wp_region_held_drew (S := fun Y => Below w.heap.size w Y) (by kernel_rfl) bd (fun hH => ?_)
  generalize w.drew = w1 at *
  refine wpAnyH_take (i := 0) (v := ?_) rfl (by kernel_rfl) (by kernel_rfl) (by kernel_rfl) (fun _ _ _ h => h) (Or.inl ⟨by rfl, ?_⟩) hH ?_
  case refine_2 => intro w hSw; go_simp; try with_reducible rfl
  try simp only [Z1, Z2, Z4, Z5, Z6, Z7]
  refine wpAnyH_take (i := 1) (v := ?_) rfl (by kernel_rfl) (by kernel_rfl) (by kernel_rfl) (fun _ _ _ h => h) (Or.inl ⟨by rfl, ?_⟩) hH ?_
  case refine_2 => intro w hSw; go_simp; try with_reducible rfl
  try simp only [Z1, Z2, Z3, Z4, Z5, Z6, Z7]
  refine wpAnyH_take (i := 2) (v := ?_) rfl (by kernel_rfl) (by kernel_rfl) (by kernel_rfl) (fun _ _ _ h => h) (Or.inl ⟨by rfl, ?_⟩) hH ?_
  case refine_2 => intro w hSw; go_simp; try with_reducible rfl
  try simp only [Z1, Z2, Z3, Z4, Z5, Z6, Z7]
  refine wpAnyH_take (i := 3) (v := ?_) rfl (by kernel_rfl) (by kernel_rfl) (by kernel_rfl) (fun _ _ _ h => h) (Or.inl ⟨by rfl, ?_⟩) hH ?_
  case refine_2 => intro w hSw; go_simp; try with_reducible rfl
  try simp only [Z1, Z2, Z3, Z4, Z5, Z6, Z7]
  refine wpAnyH_take (i := 4) (v := ?_) rfl (by kernel_rfl) (by kernel_rfl) (by kernel_rfl) (fun _ _ _ h => h) (Or.inl ⟨by rfl, ?_⟩) hH ?_
  case refine_2 => intro w hSw; have h1 : Blk w g 77 (logC S l) := hk.below hSw hk.lt; have n0 : w.cell? ⟨_, 0, none⟩ = some (.pointer (some ⟨l.disk, 0, none⟩)) := Blk.cell h1 0; have n1 : w.cell? ⟨_, 1, none⟩ = some (.string ⟨l.pre.toArray⟩) := Blk.cell h1 1; clear h1 hSw; go_simp; try with_reducible rfl
  try simp only [Z1, Z2, Z3, Z4, Z5, Z6, Z7]
  refine wpAnyH_take (i := 5) (v := ?_) rfl (by kernel_rfl) (by kernel_rfl) (by kernel_rfl) (fun _ _ _ h => h) (Or.inl ⟨by rfl, ?_⟩) hH ?_
  case refine_2 => intro w hSw; go_simp; try with_reducible rfl
  try simp only [Z1, Z2, Z3, Z4, Z5, Z6, Z7]
  refine wpAnyH_take (i := 6) (v := ?_) rfl (by kernel_rfl) (by kernel_rfl) (by kernel_rfl) (fun _ _ _ h => h) (Or.inl ⟨by rfl, ?_⟩) hH ?_
  case refine_2 => intro w hSw; go_simp; try with_reducible rfl
  try simp only [Z1, Z2, Z3, Z4, Z5, Z6, Z7]
  refine wpAnyH_take (i := 7) (v := ?_) rfl (by kernel_rfl) (by kernel_rfl) (by kernel_rfl) (fun _ _ _ h => h) (Or.inl ⟨by rfl, ?_⟩) hH ?_
  case refine_2 => intro w hSw; go_simp; try with_reducible rfl
  try simp only [Z1, Z2, Z3, Z4, Z5, Z6, Z7]
  refine wpAnyH_take (i := 8) (v := ?_) rfl (by kernel_rfl) (by kernel_rfl) (by kernel_rfl) (fun _ _ _ h => h) (Or.inl ⟨by rfl, ?_⟩) hH ?_
  case refine_2 => intro w hSw; go_simp; try with_reducible rfl
  try simp only [Z1, Z2, Z3, Z4, Z5, Z6, Z7]
  refine wpAnyH_take (i := 9) (v := ?_) rfl (by kernel_rfl) (by kernel_rfl) (by kernel_rfl) (fun _ _ _ h => h) (Or.inl ⟨by rfl, ?_⟩) hH ?_
  case refine_2 => intro w hSw; have h1 : Blk w g 77 (logC S l) := hk.below hSw hk.lt; have n0 : w.cell? ⟨_, 0, none⟩ = some (.pointer (some ⟨l.disk, 0, none⟩)) := Blk.cell h1 0; have n1 : w.cell? ⟨_, 1, none⟩ = some (.string ⟨l.pre.toArray⟩) := Blk.cell h1 1; clear h1 hSw; go_simp; try with_reducible rfl
  try simp only [Z1, Z2, Z3, Z4, Z5, Z6, Z7]
  refine wpAnyH_take (i := 12) (v := ?_) rfl (by kernel_rfl) (by kernel_rfl) (by kernel_rfl) (fun _ _ _ h => h) (Or.inl ⟨by rfl, ?_⟩) hH ?_
  case refine_2 => intro w hSw; go_simp; try with_reducible rfl
  try simp only [Z1, Z2, Z3, Z4, Z5, Z6, Z7]
  refine wpAnyH_ready (rs := [10]) (by kernel_rfl) (by simp) ?_
  refine AllReadyH.cons rfl (fun K hK => ?_) AllReadyH.nil
  go_simp
  refine (T.out w1 bd).mono ?_
  rintro en w2 ⟨A2, c2, rfl, o2, b2⟩
  have b02 := below_step' bd b2
  have r2 := Reads.of_own o2
  refine hK.out _ _ b02 (fun hH => ?_)
  clear hK K
  try dsimp only
  try simp only [Z1, Z2, Z3, Z4, Z5, Z6, Z7]
  refine wpAnyH_take (i := 11) (v := ?_) rfl (by kernel_rfl) (by kernel_rfl) (by kernel_rfl) (fun _ _ _ h => h) (Or.inl ⟨by rfl, ?_⟩) hH ?_
  case refine_2 => intro w hSw; go_simp; try with_reducible rfl
  try simp only [Z1, Z2, Z3, Z4, Z5, Z6, Z7]
  refine wpAnyH_done (by kernel_rfl) ?_ _
  refine NoPanic.normal ?_
  have hk0 := hk
  clear hk T o2 bd b2
  go_wp2_with fail
  go_loopw [3, 5, 6, 7, 20] (fun v3 _ _ _ v20 wr => ∃ (k : Nat) (A' : Option Addr) (c' : Nat) (xs : List Nat), k ≤ nms.length ∧ v3 = .slice A' xs.length c' ∧ v20 = .int .i64 (k : Int) ∧ Hid (xs = foundW (nms.take k) l.pre) ∧ Hid (xs.length ≤ k) ∧ Own SegE 82 wr w2.heap.size (fun _ => False) (.slice A' xs.length c') xs ∧ Below w2.heap.size w2 wr) (fun _ _ _ _ v20 _ => nms.length - (intOf v20).toNat)
  case atStart => exact ⟨0, none, 0, [], Nat.zero_le _, rfl, rfl, rfl, Nat.le_refl _, Own.nil_ _ _ _ _ _, Below.refl _ _⟩
  case round =>
    obtain ⟨k, A', c', xs, hk, rfl, rfl, HX, HL, oX, br⟩ := hrel
    by_cases hlt : k < nms.length
    · obtain ⟨ad, u, rfl, _, hu, e0⟩ := (r2.below br).at_ hlt
      have hu2 : u = .string ⟨nms[k].toArray⟩ := by
        rw [List.getElem?_map, List.getElem?_eq_getElem hlt] at hu
        exact (Option.some.inj hu).symm
      subst hu2
      have HT : Hid (foundW (nms.take (k + 1)) l.pre = foundW (nms.take k) l.pre ++ (match indexW nms[k] l.pre with | some n => [n] | none => [])) := by
        show _ = _
        rw [List.take_succ_eq_append_getElem hlt]
        unfold foundW
        rw [List.filterMap_append]
        congr 1
        cases h : indexW nms[k] l.pre <;> simp [h]
      have hnm := HA.out nms[k] (List.getElem_mem hlt)
      generalize nms[k] = nm at *
      have T := index_any nm l.pre hnm wr
      have k1 := hk0.below (below_step' b02 br) hk0.lt
      have n1 : wr.cell? ⟨g, 1, none⟩ = some (.string ⟨l.pre.toArray⟩) := k1.cell 1
      clear k1 hnm
      cases hi : indexW nm l.pre with
      | none =>
        rw [hi] at T HT
        replace T : Calls Try.prog 71 #[.string ⟨nm.toArray⟩, .string ⟨l.pre.toArray⟩] wr (fun en w' => en = .returned (.tuple #[.int .u64 0, .bool false]) ∧ Below wr.heap.size wr w') := T
        have HE : Hid (xs = foundW (nms.take (k + 1)) l.pre) := by show _ = _; rw [HX.out, HT.out]; simp
        clear HX HT hi
        go_wp2_with fail
        refine T.mono ?_
        clear T
        rintro en w3 ⟨rfl, b3⟩
        have b23 := below_step' br b3
        have o3 := oX.below b3
        go_wp2_with fail
        go_roundw
        case rel => exact ⟨k + 1, A', c', xs, by omega, rfl, by simp, HE.out, Nat.le_succ_of_le HL.out, o3, b23⟩
        case measure => simp [intOf]; omega
      | some n =>
        rw [hi] at T HT
        replace T : Calls Try.prog 71 #[.string ⟨nm.toArray⟩, .string ⟨l.pre.toArray⟩] wr (fun en w' => en = .returned (.tuple #[.int .u64 (n : Int), .bool true]) ∧ Below wr.heap.size wr w') := T
        have HE : Hid (xs ++ [n] = foundW (nms.take (k + 1)) l.pre) := by show _ = _; rw [HX.out, HT.out]
        have hlt64 := indexW_lt hi
        clear HX HT hi
        go_wp2_with fail
        refine T.mono ?_
        clear T
        rintro en w3 ⟨rfl, b3⟩
        have d4 : Below w3.heap.size w3 (w3.alloc (.cells #[.int .u64 (n : Int)] 82)) := (Below.refl _ _).alloc (Nat.le_refl _) _
        have b24 := below_step' (below_step' br b3) d4
        have o4 := (oX.below b3).below d4
        have hrN := Reads.newN w3 [.int .u64 (n : Int)] 82
        have HL1 := Lib.hid (show (xs.length + 1) * SegE.bytes ≤ 140737488355328 by have := HL.out; simp only [SegE]; omega)
        have HL2 := Lib.hid (show xs.length + 1 ≤ maxLen by have := HL.out; simp only [maxLen]; omega)
        clear d4 oX b3
        go_wp2_with (at_builtin; refine wpList_appE SegE w2.heap.size w2 _ rfl (.tmp 35) (.tmp 38) 82 75 rfl i0 _ Try.underlying75 hi0 hz0 hz1 hz2 rfl (fun _ => False) A' xs c' rfl o4 _ [.int .u64 (n : Int)] n 1 rfl _ hrN ⟨rfl, hlt64⟩ HL1.out HL2.out b24 (Nat.le_refl _) b24.size ?_; intro A8 c8 xs8 w8 H8 o8 b8 g8 t8)
        go_roundw
        case rel => exact ⟨k + 1, A8, c8, xs8, by omega, rfl, by simp, by show _ = _; rw [H8.out, HE.out], by show _ ≤ _; rw [H8.out, List.length_append]; exact Nat.succ_le_succ HL.out, o8, b8⟩
        case measure => simp [intOf]; omega
    · obtain rfl : k = nms.length := by omega
      have HE : Hid (xs = foundW nms l.pre) := by show _ = _; rw [HX.out, List.take_length]
      clear HX
      go_wp2_with fail
      go_ret
      have h := HE.out
      subst h
      exact ⟨A', c', rfl, oX.base b02.size, below_step' b02 br⟩
end Go.Proofs.Ytbldfgpnghoigaa

namespace Go.Proofs.Ytbldfgpnghoigaa
open Go.RowKit

set_option maxHeartbeats 1000000 in
theorem nextW_any (g : Nat) (S : Value) (l : LLog) (w : World) (hk : Blk w g 77 (logC S l)) : Calls Try.prog 15 #[.pointer (some ⟨g, 0, none⟩)] w (fun en w' => en = .returned (.int .u64 (l.next : Int)) ∧ w' = w) := by
  have c4 : w.cell? ⟨g, 4, none⟩ = some (.int .u64 (l.next : Int)) := hk.cell 4
  go_enter Try.func15, Try.ntmps15
  go_wp2_with fail
  go_ret
  exact ⟨rfl, rfl⟩
set_option maxHeartbeats 1000000 in
theorem firstW_any (g : Nat) (A : Option Addr) (c : Nat) (sg : List Nat) (l : LLog) (w : World) (T : Nat → Prop) (hk : Blk w g 77 (logC (.slice A sg.length c) l)) (hs : SlS SegE w T A sg) : Calls Try.prog 32 #[.pointer (some ⟨g, 0, none⟩)] w (fun en w' => en = .returned (.int .u64 ((sg.headD l.next : Nat) : Int)) ∧ w' = w) := by
  have c3 : w.cell? ⟨g, 3, none⟩ = some (.slice A sg.length c) := hk.cell 3
  have c4 : w.cell? ⟨g, 4, none⟩ = some (.int .u64 (l.next : Int)) := hk.cell 4
  cases sg with
  | nil =>
    replace c3 : w.cell? ⟨g, 3, none⟩ = some (.slice A 0 c) := c3
    go_enter Try.func32, Try.ntmps32
    go_wp2_with fail
    go_ret
    exact ⟨rfl, rfl⟩
  | cons s r =>
    obtain ⟨ad, vs, rfl, _, ⟨rfl, _⟩, h4, _, _⟩ := SlS.at_ hs (i := 0) (by simp)
    have e0 : w.cell? ad = some (.int .u64 (s : Int)) := by
      have h := h4 _ rfl
      rw [show 0 * SegE.size = 0 from Nat.zero_mul _] at h
      rwa [show ad.add 0 = ad from add_zero_ ad] at h
    have h0 : (((s :: r).length : Nat) : Int) ≠ 0 := by simp; omega
    have hb : ((((s :: r).length : Nat) : Int) == 0) = false := by rw [beq_eq_false_iff_ne]; exact h0
    have hpos : 0 < (s :: r).length := by simp
    generalize (s :: r).length = m at *
    have hpi : (0 : Int) < (m : Int) := by omega
    clear h4
    go_enter Try.func32, Try.ntmps32
    go_wp2_with fail
    go_ret
    exact ⟨rfl, rfl⟩
end Go.Proofs.Ytbldfgpnghoigaa

namespace Go.Proofs.Ytbldfgpnghoigaa
open Go.RowKit

def segV (n : Nat) : Value := .int .u64 (n : Int)
/-- the row of a log's segments -/
def SegAt (w : World) (v : Value) (sg : List Nat) : Prop :=
  (∀ n ∈ sg, n < 18446744073709551616) ∧ ((v = .slice none 0 0 ∧ sg = []) ∨ ∃ g k cap cur, v = .slice (some ⟨g, k, none⟩) sg.length cap ∧ Blk w g 82 cur ∧ sg.length ≤ cap ∧ k + cap = cur.size ∧ cap ≤ maxLen ∧ ∀ i (h : i < sg.length), cur[k + i]? = some (segV sg[i]))
section
variable {w w' : World} {v : Value} {sg : List Nat}
theorem SegAt.nil_ (w : World) : SegAt w (.slice none 0 0) [] := ⟨fun _ h => (by cases h), Or.inl ⟨rfl, rfl⟩⟩
theorem SegAt.shape (h : SegAt w v sg) : ∃ A c, v = .slice A sg.length c := by
  rcases h.2 with ⟨rfl, rfl⟩ | ⟨g, k, cap, cur, rfl, _⟩
  · exact ⟨_, _, rfl⟩
  · exact ⟨_, _, rfl⟩
theorem SegAt.lt (h : SegAt w v sg) {g : Nat} (hg : v.ownBlock = some g) : g < w.heap.size := by
  rcases h.2 with ⟨rfl, _⟩ | ⟨g', k, cap, cur, rfl, hb, _⟩
  · cases hg
  · obtain rfl : g' = g := Option.some.inj hg
    exact hb.lt
theorem SegAt.same (h : SegAt w v sg) (hb : ∀ g, v.ownBlock = some g → w'.heap[g]? = w.heap[g]?) : SegAt w' v sg := by
  refine ⟨h.1, ?_⟩
  rcases h.2 with h | ⟨g, k, cap, cur, rfl, h1, h2⟩
  · exact .inl h
  · exact .inr ⟨g, k, cap, cur, rfl, (hb g rfl).trans h1, h2⟩
theorem SegAt.below (h : SegAt w v sg) (hb : Below w.heap.size w w') : SegAt w' v sg := h.same fun g hg => hb.block g (h.lt hg)
theorem SegAt.blp {F : Nat → Prop} (h : SegAt w v sg) (hb : BlP F w w') (hF : ∀ g, v.ownBlock = some g → F g) : SegAt w' v sg := h.same fun g hg => hb.block g (h.lt hg) (hF g hg)
theorem SegAt.grown {row : Option Nat} (h : SegAt w v sg) (hg : w.grownBy w' row) (hr : ∀ g, v.ownBlock = some g → row ≠ some g) : SegAt w' v sg := h.same fun g e => hg.block g (h.lt e) fun e' => hr g e e'.symm
theorem SegAt.setCell {p : Addr} (h : SegAt w v sg) (hp : v.ownBlock ≠ some p.block) (u : Value) : SegAt (w.setCell p u) v sg := h.same fun g e => Below.heap_setCell w p u g (fun e' => hp (e' ▸ e))
theorem SegAt.reads {A : Option Addr} {c : Nat} (h : SegAt w (.slice A sg.length c) sg) : Reads w w.heap.size 1 A sg.length (sg.map segV) := by
  refine ⟨by simp, fun hn => ?_⟩
  rcases h.2 with ⟨_, rfl⟩ | ⟨g, k, cap, cur, e, hb, h1, h2, h3, h4⟩
  · exact absurd hn (Nat.lt_irrefl _)
  · have e' : A = some ⟨g, k, none⟩ := by injection e
    refine ⟨_, e', hb.lt, fun j u hu => ?_⟩
    rw [List.getElem?_map] at hu
    by_cases hj : j < sg.length
    · rw [List.getElem?_eq_getElem hj] at hu
      have hu : segV sg[j] = u := Option.some.inj hu
      subst hu
      have : (⟨g, k, none⟩ : Addr).add j = ⟨g, k + j, none⟩ := by unfold Addr.add; split <;> simp_all
      rw [this, hb.cell]
      exact h4 j hj
    · rw [List.getElem?_eq_none (by omega)] at hu
      cases hu
theorem SegAt.at_ {A : Option Addr} {c i : Nat} (h : SegAt w (.slice A sg.length c) sg) (hi : i < sg.length) : ∃ ad, A = some ad ∧ w.cell? (ad.add i) = some (.int .u64 (sg[i] : Int)) := by
  obtain ⟨ad, u, e, _, hu, hc⟩ := h.reads.at_ hi
  rw [List.getElem?_map, List.getElem?_eq_getElem hi] at hu
  have hu : segV sg[i] = u := Option.some.inj hu
  subst hu
  exact ⟨ad, e, hc⟩
end
theorem run_append_seg (w : World) (v : Value) (sg : List Nat) (ty : TypeId) (h : SegAt w v sg) (X : Option Addr) (d Bd n : Nat) (hr : Reads w Bd 1 X 1 [segV n]) (hn : n < 18446744073709551616) (hl : sg.length ≤ 1048576) :
    ∃ A' c' w', (Builtin.append_ #[75, 75] ty #[v, .slice X 1 d]).run Try.prog w = .ok (.slice A' (sg ++ [n]).length c') w' ∧ SegAt w' (.slice A' (sg ++ [n]).length c') (sg ++ [n]) ∧ w.grownBy w' v.ownBlock ∧ ((Value.slice A' (sg ++ [n]).length c').ownBlock = v.ownBlock ∨ (Value.slice A' (sg ++ [n]).length c').ownBlock = some w.heap.size) := by
  obtain ⟨i0, hi0, hz0, hz1, hz2⟩ := info_parts Try.infoSeg
  have hmem : ∀ m ∈ sg ++ [n], m < 18446744073709551616 := by
    intro m hm
    rcases List.mem_append.1 hm with hm | hm
    · exact h.1 m hm
    · rw [List.mem_singleton.1 hm]; exact hn
  have hlen : (sg ++ [n]).length = sg.length + 1 := by simp
  obtain ⟨ax, rfl, hxb, hxc⟩ := hr.2 (by omega)
  have hs : Src Try.prog i0.size 75 (.slice (some ax) 1 d) 1 [segV n] w := Src.ofSlice w Try.underlying75 ax 1 d [segV n] (by rw [hz1]; rfl) hxc (by intro u hu; rw [List.mem_singleton.1 hu]; rfl)
  have hfit : ∀ cap, cap < sg.length + 1 → Builtin.nextslicecap (sg.length + 1) cap * i0.bytes ≤ 281474976710656 := fun cap hc => growslice_fits hc (by rw [hz2]; omega)
  have hsmall : sg.length + 1 ≤ maxLen := by simp only [maxLen]; omega
  have grow : ∀ (bs : Option Addr) (cap : Nat), v = .slice bs sg.length cap → cap < sg.length + 1 → (Builtin.firstCells i0.size sg.length (.slice bs sg.length cap)).run Try.prog w.drew = .ok (sg.map segV).toArray w.drew →
      ∃ A' c' w', (Builtin.append_ #[75, 75] ty #[v, .slice (some ax) 1 d]).run Try.prog w = .ok (.slice A' (sg ++ [n]).length c') w' ∧ SegAt w' (.slice A' (sg ++ [n]).length c') (sg ++ [n]) ∧ w.grownBy w' v.ownBlock ∧ ((Value.slice A' (sg ++ [n]).length c').ownBlock = v.ownBlock ∨ (Value.slice A' (sg ++ [n]).length c').ownBlock = some w.heap.size) := by
    rintro bs cap rfl hc hold
    have hrun := run_append_grow_src (P := Try.prog) w 75 75 ty 82 i0 _ Try.underlying75 hi0 hz0 bs sg.length cap (sg.map segV) hold _ 1 [segV n] hs hc (by simp only [maxLen] at hsmall; omega) (hfit cap hc)
    have hge := grownCap_ge w (sg.length + 1) cap 82
    have hcm := grownCap_le_maxLen w (sg.length + 1) cap 82 hsmall
    generalize grownCap w (sg.length + 1) cap 82 = G at *
    rw [← hlen] at hrun
    refine ⟨_, _, _, hrun, ⟨hmem, .inr ⟨w.heap.size, 0, G, _, rfl, Blk.new w.drew _ _, by omega, ?_, hcm, fun i hi => ?_⟩⟩, ⟨rfl, rfl, rfl, by simp, fun k hk _ => heap_alloc_old w.drew _ hk⟩, .inr rfl⟩
    · simp only [Array.size_append, List.size_toArray, size_zeroCells, List.length_append, List.length_map, List.length_singleton, Value.cells]
      omega
    · rw [Nat.zero_add, Array.getElem?_append_left (by simp; rw [hlen] at hi; omega), List.getElem?_toArray, ← List.map_singleton (f := segV), ← List.map_append, List.getElem?_map, List.getElem?_eq_getElem hi]
      rfl
  have h0 := h
  rcases h.2 with ⟨rfl, rfl⟩ | ⟨g, k, cap, cur, rfl, hb, h1, h2, h3, h4⟩
  · exact grow none 0 rfl (by decide) (run_firstCells_none w.drew i0.size 0 0 0)
  · by_cases hroom : sg.length + 1 ≤ cap
    · have hrun := run_append_room_src (P := Try.prog) w 75 75 ty 82 i0 Try.underlying75 hi0 g k sg.length cap _ 1 [segV n] hs hroom
        (fun j hj => by
          have hj : j < 1 := hj
          obtain rfl : j = 0 := by omega
          rw [hz1, Nat.mul_one, Nat.add_zero, hb.cell, Array.getElem?_eq_getElem (by omega)]; rfl)
        (fun j hj => hb.frozen _)
      rw [hz1, Nat.mul_one] at hrun
      have hsc : w.setCells g (k + sg.length) [segV n] = w.setCell ⟨g, k + sg.length, none⟩ (segV n) := rfl
      rw [hsc, ← hlen] at hrun
      refine ⟨_, _, _, hrun, ⟨hmem, .inr ⟨g, k, cap, _, rfl, hb.set_ (k + sg.length) (segV n), by omega, by rw [Array.size_setIfInBounds]; exact h2, h3, fun i hi => ?_⟩⟩, only_setCell (only_of_below (Below.refl _ _) (some g)) (.inl rfl) _, .inl rfl⟩
      rw [Array.getElem?_setIfInBounds]
      by_cases hi2 : i = sg.length
      · subst hi2
        rw [if_pos rfl, if_pos (by omega), List.getElem_append_right (Nat.le_refl _)]
        simp
      · have hi3 : i < sg.length := by rw [hlen] at hi; omega
        rw [if_neg (by omega), h4 i hi3, List.getElem_append_left hi3]
    · refine grow _ _ rfl (by omega) (run_firstCells_some w.drew i0.size sg.length ⟨g, k, none⟩ _ _ _ (by rw [hz1]; simp) fun j u hu => ?_)
      by_cases hj : j < sg.length
      · obtain ⟨ad, u', e, _, hu', hc⟩ := h0.reads.at_ hj
        obtain rfl := Option.some.inj e
        rw [hu'] at hu
        rw [← Option.some.inj hu]
        exact hc
      · rw [List.getElem?_eq_none (by simp; omega)] at hu
        cases hu
section
variable {w : World} {ops : Array Oper} {o : Oper} {a : Act} {Q : Exit → Act → World → Prop}
theorem wp_append_seg {K : Act → World → Prop} (s x : Operand) (ho : o.op = .call { callee := .builtin .append, args := #[s, x], argTypes := #[75, 75] })
    (v : Value) (sg : List Nat) (hs : a.eval s = v) (h : SegAt w v sg) (X : Option Addr) (d Bd n : Nat) (hx : a.eval x = .slice X 1 d) (hr : Reads w Bd 1 X 1 [segV n]) (hn : n < 18446744073709551616) (hl : sg.length ≤ 1048576)
    (hK : ∀ A' c' sg' w', Hid (sg' = sg ++ [n]) → SegAt w' (.slice A' sg'.length c') sg' → w.grownBy w' v.ownBlock → ((Value.slice A' sg'.length c').ownBlock = v.ownBlock ∨ (Value.slice A' sg'.length c').ownBlock = some w.heap.size) → K (a.put o.dst (.slice A' sg'.length c')) w') : o.wp Try.prog a w K Q := by
  obtain ⟨A', c', w', hrun, h1, h2, h3⟩ := run_append_seg w v sg o.type h X d Bd n hr hn hl
  unfold Oper.wp execOp
  simp only [ho, resolve, invoke, builtin, Sem.run_bind, Sem.run_pure, Result.andThen_ok, List.map_toArray, List.map_cons, List.map_nil, hs, hx, hrun]
  exact hK A' c' _ w' rfl h1 h2 h3
theorem step_append_seg {K : Act → World → Prop} {E : Prop} (hgd : o.guard = none) (s x : Operand) (ho : o.op = .call { callee := .builtin .append, args := #[s, x], argTypes := #[75, 75] })
    (v : Value) (sg : List Nat) (hs : a.eval s = v) (h : SegAt w v sg) (X : Option Addr) (d Bd n : Nat) (hx : a.eval x = .slice X 1 d) (hr : Reads w Bd 1 X 1 [segV n]) (hn : n < 18446744073709551616) (hl : sg.length ≤ 1048576)
    (hK : ∀ A' c' sg' w', Hid (sg' = sg ++ [n]) → SegAt w' (.slice A' sg'.length c') sg' → w.grownBy w' v.ownBlock → ((Value.slice A' sg'.length c').ownBlock = v.ownBlock ∨ (Value.slice A' sg'.length c').ownBlock = some w.heap.size) → K (a.put o.dst (.slice A' sg'.length c')) w') :
    if Region.wanted o (yielded ops a.tmps) = true then Oper.wp Try.prog o a w K Q else E := by
  have hw : Region.wanted o (yielded ops a.tmps) = true := by simp [Region.wanted, hgd]
  rw [if_pos hw]
  exact wp_append_seg s x ho v sg hs h X d Bd n hx hr hn hl hK
end
/-- a log in memory; what lies in the blocks of F is none of its -/
def LD (w : World) (g : Nat) (F : Nat → Prop) (l : LLog) (sg : List Nat) (d : LDisk) (ps : List PFile) : Prop :=
  ∃ A c, Blk w g 77 (logC (.slice A sg.length c) l) ∧ SegAt w (.slice A sg.length c) sg ∧ DD w l.disk (fun x => F x ∨ x = g ∨ (Value.slice A sg.length c).ownBlock = some x) d ps ∧ (∀ x, F x → x ≠ g ∧ (Value.slice A sg.length c).ownBlock ≠ some x) ∧ l.pre.length ≤ 1048576
/-- behind a call of the log -/
def LDTo (g : Nat) (F : Nat → Prop) (l : LLog) (sg : List Nat) (d : LDisk) (ps : List PFile) (w w' : World) : Prop :=
  LD w' g (fun x => F x ∧ x < w.heap.size) l sg d ps ∧ BlP F w w'
section
variable {w w' : World} {g : Nat} {F F' : Nat → Prop} {l : LLog} {sg : List Nat} {d : LDisk} {ps : List PFile}
theorem LD.mono (h : LD w g F l sg d ps) (hf : ∀ x, F' x → F x) : LD w g F' l sg d ps := by
  obtain ⟨A, c, h1, h2, h3, h4, h5⟩ := h
  exact ⟨A, c, h1, h2, h3.mono fun x hx => hx.imp (hf x) id, fun x hx => h4 x (hf x hx), h5⟩
theorem LD.below (h : LD w g F l sg d ps) (hb : Below w.heap.size w w') : LD w' g (fun x => F x ∨ w.heap.size ≤ x) l sg d ps := by
  obtain ⟨A, c, h1, h2, h3, h4, h5⟩ := h
  refine ⟨A, c, h1.below hb h1.lt, h2.below hb, (h3.below hb).mono fun x hx => ?_, fun x hx => ?_, h5⟩
  · rcases hx with (hx | hx) | hx
    · exact .inl (.inl hx)
    · exact .inr hx
    · exact .inl (.inr hx)
  · rcases hx with hx | hx
    · exact h4 x hx
    · exact ⟨fun e => by have := h1.lt; omega, fun e => by have := h2.lt e; omega⟩
theorem LD.lt (h : LD w g F l sg d ps) : g < w.heap.size := by
  obtain ⟨A, c, h1, _⟩ := h
  exact h1.lt
/-- all blocks have stayed but some of F -/
theorem LD.blp {B : Nat → Prop} (h : LD w g F l sg d ps) (hg : BlP B w w') (hr : ∀ x, x < w.heap.size → ¬ B x → F x) : LD w' g (fun x => F x ∨ w.heap.size ≤ x) l sg d ps := by
  obtain ⟨A, c, h1, h2, h3, h4, h5⟩ := h
  have hB : ∀ x, x < w.heap.size → (x = g ∨ (Value.slice A sg.length c).ownBlock = some x) → B x := fun x hx h => Classical.byContradiction fun hn => by
    have := h4 x (hr x hx hn)
    rcases h with h | h
    · exact this.1 h
    · exact this.2 h
  refine ⟨A, c, (hg.block g h1.lt (hB g h1.lt (.inl rfl))).trans h1, h2.blp hg fun x e => hB x (h2.lt e) (.inr e), (h3.blp hg fun x hx hn => .inl (hr x hx hn)).mono fun x hx => ?_, fun x hx => ?_, h5⟩
  · rcases hx with (hx | hx) | hx
    · exact .inl (.inl hx)
    · exact .inr hx
    · exact .inl (.inr hx)
  · rcases hx with hx | hx
    · exact h4 x hx
    · exact ⟨fun e => by have := h1.lt; omega, fun e => by have := h2.lt e; omega⟩
end
end Go.Proofs.Ytbldfgpnghoigaa
