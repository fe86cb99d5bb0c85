/- A log's segments on the disk. (Printed by wip/gen_walf.py.) -/
import Derived.Test.YtbldfgpnghoigaaWalI
import Derived.Test.YtbldfgpnghoigaaDskI
namespace Go.Proofs.Ytbldfgpnghoigaa
open Go.RowKit

/-- a segment in memory: the index of its first record -/
def SegE : ER Nat where
  size := 1
  pos := by omega
  bytes := 8
  bpos := by omega
  rep _ _ vs n := vs = [.int .u64 (n : Int)] ∧ n < 18446744073709551616
  len := by rintro w S vs a ⟨rfl, _⟩; rfl
  one := by rintro w S vs a ⟨rfl, _⟩ v hv; simp at hv; subst hv; rfl
  keep := by rintro w w' S vs a h _; exact h
  mono := by rintro w S S' vs a h _; exact h
theorem unhex_lt : ∀ (h : List UInt8) (a n : Nat), unhex a h = some n → n < (a + 1) * 16 ^ h.length
  | [], a, n, e => by
    simp only [unhex, Option.some.injEq] at e
    simp [e]
  | c :: r, a, n, e => by
    simp only [unhex] at e
    cases hu : undig c with
    | none => rw [hu] at e; cases e
    | some d =>
      rw [hu] at e
      have h1 := unhex_lt r (a * 16 + d) n e
      have h2 := undig_lt hu
      rw [List.length_cons, Nat.pow_succ, Nat.mul_comm _ 16, ← Nat.mul_assoc]
      refine Nat.lt_of_lt_of_le h1 (Nat.mul_le_mul_right _ (by omega))
theorem indexW_lt {nm pre : List UInt8} {n : Nat} (h : indexW nm pre = some n) : n < 18446744073709551616 := by
  unfold indexW at h
  split at h
  · rename_i h1
    have := unhex_lt _ _ _ h
    rw [h1.2] at this
    simpa using this
  · cases h
def foundW (nms : List (List UInt8)) (pre : List UInt8) : List Nat := nms.filterMap fun nm => indexW nm pre
theorem Try.infoSeg : (Try.prog.info? 82).map (fun i => (i.zero, i.size, i.bytes)) = some (some (.agg #[.int .u64 0]), 1, 8) := by kernel_rfl
set_option maxRecDepth 100000 in
set_option maxHeartbeats 2000000 in
theorem found_any (g : Nat) (S : Value) (l : LLog) (F : Nat → Prop) (d : LDisk) (ps : List PFile) (w : World) (hk : Blk w g 77 (logC S l)) (hd : DD w l.disk F d ps) (hp : PsOk ps) (hpl : l.pre.length ≤ 1048576) (ha : ∀ nm ∈ listP d ps l.pre, ∀ b ∈ nm, b.toNat < 128) (hll : (listP d ps l.pre).length ≤ 1048576) :
    Calls Try.prog 60 #[.pointer (some ⟨g, 0, none⟩)] w (fun en w' => ∃ A c, en = .returned (.slice A (foundW (listP d ps l.pre) l.pre).length c) ∧ Own SegE 82 w' w.heap.size (fun _ => False) (.slice A (foundW (listP d ps l.pre) l.pre).length c) (foundW (listP d ps l.pre) l.pre) ∧ Below w.heap.size w w') := by
  obtain ⟨i0, hi0, hz0, hz1, hz2⟩ := info_parts Try.infoSeg
  have T := Lib.hid (fun (wz : World) (h : Below w.heap.size w wz) => listD_any (hd.below h) hp l.pre (by omega))
  generalize listP d ps l.pre = nms at *
  have HA := Lib.hid ha
  clear ha hd hp
  go_enter Try.func60, Try.ntmps60
  go_upto_region 2 with fail
  have bd : Below w.heap.size w w.drew := (Below.refl _ _).drew
  refine wp_region_noPanic ?_
  refine wp_region_held_drew (S := fun Y => Below w.heap.size w Y) (by kernel_rfl) bd (fun hH => ?_)
  generalize w.drew = w1 at *
  refine wpAnyH_take (i := 0) (v := ?_) rfl (by kernel_rfl) (by kernel_rfl) (by kernel_rfl) (fun _ _ _ h => h) (Or.inl ⟨by rfl, ?_⟩) hH ?_
  case refine_2 => intro w hSw; go_simp; try with_reducible rfl
  try simp only [Z1, Z2, Z4, Z5, Z6, Z7]
  refine wpAnyH_take (i := 1) (v := ?_) rfl (by kernel_rfl) (by kernel_rfl) (by kernel_rfl) (fun _ _ _ h => h) (Or.inl ⟨by rfl, ?_⟩) hH ?_
  case refine_2 => intro w hSw; go_simp; try with_reducible rfl
  try simp only [Z1, Z2, Z3, Z4, Z5, Z6, Z7]
  refine wpAnyH_take (i := 2) (v := ?_) rfl (by kernel_rfl) (by kernel_rfl) (by kernel_rfl) (fun _ _ _ h => h) (Or.inl ⟨by rfl, ?_⟩) hH ?_
  case refine_2 => intro w hSw; go_simp; try with_reducible rfl
  try simp only [Z1, Z2, Z3, Z4, Z5, Z6, Z7]
  refine wpAnyH_take (i := 3) (v := ?_) rfl (by kernel_rfl) (by kernel_rfl) (by kernel_rfl) (fun _ _ _ h => h) (Or.inl ⟨by rfl, ?_⟩) hH ?_
  case refine_2 => intro w hSw; go_simp; try with_reducible rfl
  try simp only [Z1, Z2, Z3, Z4, Z5, Z6, Z7]
  refine wpAnyH_take (i := 4) (v := ?_) rfl (by kernel_rfl) (by kernel_rfl) (by kernel_rfl) (fun _ _ _ h => h) (Or.inl ⟨by rfl, ?_⟩) hH ?_
  case refine_2 => intro w hSw; have h1 : Blk w g 77 (logC S l) := hk.below hSw hk.lt; have n0 : w.cell? ⟨_, 0, none⟩ = some (.pointer (some ⟨l.disk, 0, none⟩)) := Blk.cell h1 0; have n1 : w.cell? ⟨_, 1, none⟩ = some (.string ⟨l.pre.toArray⟩) := Blk.cell h1 1; clear h1 hSw; go_simp; try with_reducible rfl
  try simp only [Z1, Z2, Z3, Z4, Z5, Z6, Z7]
  refine wpAnyH_take (i := 5) (v := ?_) rfl (by kernel_rfl) (by kernel_rfl) (by kernel_rfl) (fun _ _ _ h => h) (Or.inl ⟨by rfl, ?_⟩) hH ?_
  case refine_2 => intro w hSw; go_simp; try with_reducible rfl
  try simp only [Z1, Z2, Z3, Z4, Z5, Z6, Z7]
  refine wpAnyH_take (i := 6) (v := ?_) rfl (by kernel_rfl) (by kernel_rfl) (by kernel_rfl) (fun _ _ _ h => h) (Or.inl ⟨by rfl, ?_⟩) hH ?_
  case refine_2 => intro w hSw; go_simp; try with_reducible rfl
  try simp only [Z1, Z2, Z3, Z4, Z5, Z6, Z7]
  refine wpAnyH_take (i := 7) (v := ?_) rfl (by kernel_rfl) (by kernel_rfl) (by kernel_rfl) (fun _ _ _ h => h) (Or.inl ⟨by rfl, ?_⟩) hH ?_
  case refine_2 => intro w hSw; go_simp; try with_reducible rfl
  try simp only [Z1, Z2, Z3, Z4, Z5, Z6, Z7]
  refine wpAnyH_take (i := 8) (v := ?_) rfl (by kernel_rfl) (by kernel_rfl) (by kernel_rfl) (fun _ _ _ h => h) (Or.inl ⟨by rfl, ?_⟩) hH ?_
  case refine_2 => intro w hSw; go_simp; try with_reducible rfl
  try simp only [Z1, Z2, Z3, Z4, Z5, Z6, Z7]
  refine wpAnyH_take (i := 9) (v := ?_) rfl (by kernel_rfl) (by kernel_rfl) (by kernel_rfl) (fun _ _ _ h => h) (Or.inl ⟨by rfl, ?_⟩) hH ?_
  case refine_2 => intro w hSw; have h1 : Blk w g 77 (logC S l) := hk.below hSw hk.lt; have n0 : w.cell? ⟨_, 0, none⟩ = some (.pointer (some ⟨l.disk, 0, none⟩)) := Blk.cell h1 0; have n1 : w.cell? ⟨_, 1, none⟩ = some (.string ⟨l.pre.toArray⟩) := Blk.cell h1 1; clear h1 hSw; go_simp; try with_reducible rfl
  try simp only [Z1, Z2, Z3, Z4, Z5, Z6, Z7]
  refine wpAnyH_take (i := 12) (v := ?_) rfl (by kernel_rfl) (by kernel_rfl) (by kernel_rfl) (fun _ _ _ h => h) (Or.inl ⟨by rfl, ?_⟩) hH ?_
  case refine_2 => intro w hSw; go_simp; try with_reducible rfl
  try simp only [Z1, Z2, Z3, Z4, Z5, Z6, Z7]
  refine wpAnyH_ready (rs := [10]) (by kernel_rfl) (by simp) ?_
  refine AllReadyH.cons rfl (fun K hK => ?_) AllReadyH.nil
  go_simp
  refine (T.out w1 bd).mono ?_
  rintro en w2 ⟨A2, c2, rfl, o2, b2⟩
  have b02 := below_step' bd b2
  have r2 := Reads.of_own o2
  refine hK.out _ _ b02 (fun hH => ?_)
  clear hK K
  try dsimp only
  try simp only [Z1, Z2, Z3, Z4, Z5, Z6, Z7]
  refine wpAnyH_take (i := 11) (v := ?_) rfl (by kernel_rfl) (by kernel_rfl) (by kernel_rfl) (fun _ _ _ h => h) (Or.inl ⟨by rfl, ?_⟩) hH ?_
  case refine_2 => intro w hSw; go_simp; try with_reducible rfl
  try simp only [Z1, Z2, Z3, Z4, Z5, Z6, Z7]
  refine wpAnyH_done (by kernel_rfl) ?_ _
  refine NoPanic.normal ?_
  have hk0 := hk
  clear hk T o2 bd b2
  go_wp2_with fail
  go_loopw [3, 5, 6, 7, 20] (fun v3 _ _ _ v20 wr => ∃ (k : Nat) (A' : Option Addr) (c' : Nat) (xs : List Nat), k ≤ nms.length ∧ v3 = .slice A' xs.length c' ∧ v20 = .int .i64 (k : Int) ∧ Hid (xs = foundW (nms.take k) l.pre) ∧ Hid (xs.length ≤ k) ∧ Own SegE 82 wr w2.heap.size (fun _ => False) (.slice A' xs.length c') xs ∧ Below w2.heap.size w2 wr) (fun _ _ _ _ v20 _ => nms.length - (intOf v20).toNat)
  case atStart => exact ⟨0, none, 0, [], Nat.zero_le _, rfl, rfl, rfl, Nat.le_refl _, Own.nil_ _ _ _ _ _, Below.refl _ _⟩
  case round =>
    obtain ⟨k, A', c', xs, hk, rfl, rfl, HX, HL, oX, br⟩ := hrel
    by_cases hlt : k < nms.length
    · obtain ⟨ad, u, rfl, _, hu, e0⟩ := (r2.below br).at_ hlt
      have hu2 : u = .string ⟨nms[k].toArray⟩ := by
        rw [List.getElem?_map, List.getElem?_eq_getElem hlt] at hu
        exact (Option.some.inj hu).symm
      subst hu2
      have HT : Hid (foundW (nms.take (k + 1)) l.pre = foundW (nms.take k) l.pre ++ (match indexW nms[k] l.pre with | some n => [n] | none => [])) := by
        show _ = _
        rw [List.take_succ_eq_append_getElem hlt]
        unfold foundW
        rw [List.filterMap_append]
        congr 1
        cases h : indexW nms[k] l.pre <;> simp [h]
      have hnm := HA.out nms[k] (List.getElem_mem hlt)
      generalize nms[k] = nm at *
      have T := index_any nm l.pre hnm wr
      have k1 := hk0.below (below_step' b02 br) hk0.lt
      have n1 : wr.cell? ⟨g, 1, none⟩ = some (.string ⟨l.pre.toArray⟩) := k1.cell 1
      clear k1 hnm
      cases hi : indexW nm l.pre with
      | none =>
        rw [hi] at T HT
        replace T : Calls Try.prog 71 #[.string ⟨nm.toArray⟩, .string ⟨l.pre.toArray⟩] wr (fun en w' => en = .returned (.tuple #[.int .u64 0, .bool false]) ∧ Below wr.heap.size wr w') := T
        have HE : Hid (xs = foundW (nms.take (k + 1)) l.pre) := by show _ = _; rw [HX.out, HT.out]; simp
        clear HX HT hi
        go_wp2_with fail
        refine T.mono ?_
        clear T
        rintro en w3 ⟨rfl, b3⟩
        have b23 := below_step' br b3
        have o3 := oX.below b3
        go_wp2_with fail
        go_roundw
        case rel => exact ⟨k + 1, A', c', xs, by omega, rfl, by simp, HE.out, Nat.le_succ_of_le HL.out, o3, b23⟩
        case measure => simp [intOf]; omega
      | some n =>
        rw [hi] at T HT
        replace T : Calls Try.prog 71 #[.string ⟨nm.toArray⟩, .string ⟨l.pre.toArray⟩] wr (fun en w' => en = .returned (.tuple #[.int .u64 (n : Int), .bool true]) ∧ Below wr.heap.size wr w') := T
        have HE : Hid (xs ++ [n] = foundW (nms.take (k + 1)) l.pre) := by show _ = _; rw [HX.out, HT.out]
        have hlt64 := indexW_lt hi
        clear HX HT hi
        go_wp2_with fail
        refine T.mono ?_
        clear T
        rintro en w3 ⟨rfl, b3⟩
        have d4 : Below w3.heap.size w3 (w3.alloc (.cells #[.int .u64 (n : Int)] 82)) := (Below.refl _ _).alloc (Nat.le_refl _) _
        have b24 := below_step' (below_step' br b3) d4
        have o4 := (oX.below b3).below d4
        have hrN := Reads.newN w3 [.int .u64 (n : Int)] 82
        have HL1 := Lib.hid (show (xs.length + 1) * SegE.bytes ≤ 140737488355328 by have := HL.out; simp only [SegE]; omega)
        have HL2 := Lib.hid (show xs.length + 1 ≤ maxLen by have := HL.out; simp only [maxLen]; omega)
        clear d4 oX b3
        go_wp2_with (at_builtin; refine wpList_appE SegE w2.heap.size w2 _ rfl (.tmp 35) (.tmp 38) 82 75 rfl i0 _ Try.underlying75 hi0 hz0 hz1 hz2 rfl (fun _ => False) A' xs c' rfl o4 _ [.int .u64 (n : Int)] n 1 rfl _ hrN ⟨rfl, hlt64⟩ HL1.out HL2.out b24 (Nat.le_refl _) b24.size ?_; intro A8 c8 xs8 w8 H8 o8 b8 g8 t8)
        go_roundw
        case rel => exact ⟨k + 1, A8, c8, xs8, by omega, rfl, by simp, by show _ = _; rw [H8.out, HE.out], by show _ ≤ _; rw [H8.out, List.length_append]; exact Nat.succ_le_succ HL.out, o8, b8⟩
        case measure => simp [intOf]; omega
    · obtain rfl : k = nms.length := by omega
      have HE : Hid (xs = foundW nms l.pre) := by show _ = _; rw [HX.out, List.take_length]
      clear HX
      go_wp2_with fail
      go_ret
      have h := HE.out
      subst h
      exact ⟨A', c', rfl, oX.base b02.size, below_step' b02 br⟩
end Go.Proofs.Ytbldfgpnghoigaa
