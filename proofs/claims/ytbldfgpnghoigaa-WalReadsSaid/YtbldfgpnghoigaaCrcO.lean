/- crc.Open. (Printed by wip/gen_crco.py.) -/
import Derived.Test.YtbldfgpnghoigaaSeal
import Derived.Test.YtbldfgpnghoigaaHeldK
import Derived.Test.YtbldfgpnghoigaaBClonN
import Derived.Deep.RegionHeld3
namespace Go.Proofs.Ytbldfgpnghoigaa
open Go.RowKit

theorem Bs.dropO {w : World} {A : Option Addr} {l : List UInt8} (h : Bs w A l) {k cap : Nat} (hk : k ≤ l.length) (hc : l.length ≤ cap) : Bs w (if cap = k then A else A.map (·.add k)) (l.drop k) := by
  have h1 := Reads.cut h.1 hk hc
  rw [Nat.mul_one, ← List.map_drop] at h1
  refine ⟨?_, by rw [List.length_drop]; have := h.2; omega⟩
  rw [List.length_drop]
  exact h1
theorem Bs.takeO {w : World} {A : Option Addr} {l : List UInt8} (h : Bs w A l) (n : Nat) : Bs w A (l.take n) := by
  refine ⟨⟨by simp, fun hn => ?_⟩, by rw [List.length_take]; have := h.2; omega⟩
  rw [List.length_take] at hn
  obtain ⟨ad, rfl, hb, hc⟩ := h.1.2 (by omega)
  refine ⟨ad, rfl, hb, fun j u hu => hc j u ?_⟩
  rw [List.map_take, List.getElem?_take] at hu
  split at hu
  · exact hu
  · cases hu
theorem cut_lo {w : World} {A : Option Addr} {l : List UInt8} (h : Bs w A l) (c k : Nat) (hk : k ≤ l.length) (hc : l.length ≤ c) :
    ∃ R, Bs w R (l.drop k) ∧ ∀ W, (Instr.slice 40 (.slice A l.length c) (some (.int .i64 (k : Int))) none none).run Try.prog W = .ok (.slice R (l.drop k).length (c - k)) W := by
  refine ⟨_, h.dropO hk hc, fun W => ?_⟩
  have h1 : (0 : Int) ≤ (k : Int) := by omega
  have h2 : (k : Int) ≤ (l.length : Int) := by omega
  have hs : (sizeOf (Try.prog.elem 40)).run Try.prog W = .ok 1 W := by kernel_rfl
  rw [run_slice_l W 40 A l.length c (by kernel_rfl) .i64 (k : Int) h1 h2, hs, List.length_drop]
  simp [Result.andThen, sliced]
theorem cut_mid {w : World} {A : Option Addr} {l : List UInt8} (h : Bs w A l) (c lo hi : Nat) (hlo : lo ≤ hi) (hk : hi ≤ l.length) (hc : l.length ≤ c) :
    ∃ R, Bs w R ((l.drop lo).take (hi - lo)) ∧ ∀ W, (Instr.slice 40 (.slice A l.length c) (some (.int .i64 (lo : Int))) (some (.int .i64 (hi : Int))) none).run Try.prog W = .ok (.slice R ((l.drop lo).take (hi - lo)).length (c - lo)) W := by
  refine ⟨_, (h.dropO (by omega) hc).takeO _, fun W => ?_⟩
  have h1 : (0 : Int) ≤ (lo : Int) := by omega
  have h2 : (lo : Int) ≤ (hi : Int) := by omega
  have h3 : (hi : Int) ≤ (c : Int) := by omega
  have hs : (sizeOf (Try.prog.elem 40)).run Try.prog W = .ok 1 W := by kernel_rfl
  rw [run_slice_lh W 40 A l.length c (by kernel_rfl) .i64 .i64 (lo : Int) (hi : Int) h1 h2 h3, hs, List.length_take, List.length_drop, Nat.min_eq_left (by omega)]
  simp [Result.andThen, sliced]
/-- what Open answers -/
def RetOpen (i : Nat) (r : Option (List UInt8 × Nat)) (w : World) (en : Ending) (w' : World) : Prop :=
  Below w.heap.size w w' ∧ match r with
  | none => ∃ e : Int, e ≠ 0 ∧ en = .returned (.tuple #[.slice none 0 0, .int .i64 0, .int .i64 e])
  | some (p, n) => ∃ A c, en = .returned (.tuple #[.slice A p.length c, .int .i64 ((i + n : Nat) : Int), .int .i64 0]) ∧ OwnB w.heap.size w' A p c
set_option maxRecDepth 100000 in
set_option maxHeartbeats 2000000 in
theorem open_any (A : Option Addr) (l : List UInt8) (c i : Nat) (w : World) (h : Bs w A l) (hc : l.length ≤ c ∧ c ≤ 9223372036854775807) (hi : i ≤ l.length) :
    Calls Try.prog 72 #[.slice A l.length c, .int .i64 (i : Int)] w (RetOpen i (open1 sumN (l.drop i)) w) := by
  have hll := h.le
  have hii : (i : Int) ≤ (l.length : Int) := by omega
  have hin : ¬ (l.length : Int) < (i : Int) := by omega
  obtain ⟨R, hR, hrun⟩ := cut_lo h c i hi hc.1
  have hle : (l.drop i).length + i ≤ 140737488355328 := by rw [List.length_drop]; omega
  have hcR : (l.drop i).length ≤ c - i := by rw [List.length_drop]; omega
  have hcb : c - i ≤ 9223372036854775807 := by omega
  generalize l.drop i = b at *
  generalize c - i = cb at *
  go_enter Try.func72, Try.ntmps72
  go_upto_region 4 with fail
  clear hrun hii hin
  by_cases h8 : b.length < 8
  · have h8i : (b.length : Int) < 8 := by omega
    have HE : Hid (open1 sumN b = none) := by show _ = _; unfold open1; rw [if_pos h8]
    go_wp2_with fail
    go_ret3
    refine ⟨Below.refl _ _, ?_⟩
    rw [HE.out]
    exact ⟨5, by decide, rfl⟩
  · have h8i : ¬ (b.length : Int) < 8 := by omega
    have T := cget_any R b b.length cb w hR (by omega) rfl
    obtain ⟨s, hs⟩ : ∃ s, s = get32 b := ⟨_, rfl⟩
    rw [← hs] at T
    have hslt : s < 4294967296 := by
      rw [hs]
      unfold get32
      have q0 := (b.getD 0 0).toNat_lt
      have q1 := (b.getD 1 0).toNat_lt
      have q2 := (b.getD 2 0).toNat_lt
      have q3 := (b.getD 3 0).toNat_lt
      omega
    have HS := Lib.hid hs
    clear hs
    go_wp2_with fail
    refine T.mono ?_
    clear T
    rintro en w1 ⟨rfl, q1, hq⟩
    have b1 : Below w.heap.size w w1 := by rw [hq]; exact below_drewN (Below.refl _ _) _
    have hR1 := hR.below b1
    clear hq hR
    by_cases hbig : 1048576 < s
    · have hbi : (1048576 : Int) < (s : Int) := by omega
      have HE : Hid (open1 sumN b = none) := by show _ = _; unfold open1; rw [if_neg h8, ← HS.out, if_pos hbig]
      go_wp2_with fail
      go_ret3
      refine ⟨b1, ?_⟩
      rw [HE.out]
      exact ⟨2, by decide, rfl⟩
    · have hbi : ¬ (1048576 : Int) < (s : Int) := by omega
      have vw : IntKind.i64.wrap (s : Int) = (s : Int) := by simp [IntKind.wrap, IntKind.bits, IntKind.signed]; omega
      by_cases hsh : b.length < 8 + s
      · have hshi : (b.length : Int) < 8 + (s : Int) := by omega
        have HE : Hid (open1 sumN b = none) := by show _ = _; unfold open1; rw [if_neg h8, ← HS.out, if_neg hbig, if_pos hsh]
        go_wp2_with fail
        go_ret3
        refine ⟨b1, ?_⟩
        rw [HE.out]
        exact ⟨5, by decide, rfl⟩
      · have hshi : ¬ (b.length : Int) < 8 + (s : Int) := by omega
        have HO : Hid (open1 sumN b = if sumN (b.take 4 ++ (b.drop 8).take s) ≠ get32 (b.drop 4) then none else some ((b.drop 8).take s, 8 + s)) := by show _ = _; unfold open1; rw [if_neg h8, ← HS.out, if_neg hbig, if_neg hsh]
        obtain ⟨M, hM, hrunM⟩ := cut_mid hR1 cb 8 (8 + s) (by omega) (by omega) hcR
        rw [show 8 + s - 8 = s by omega] at hM hrunM
        obtain ⟨Q, hQ, hrunQ⟩ := cut_lo hR1 cb 4 (by omega) hcR
        have hT := hR1.takeO 4
        have ht4 : (b.take 4).length = 4 := by rw [List.length_take]; omega
        have hm4 : ((b.drop 8).take s).length ≤ s ∧ s ≤ ((b.drop 8).take s).length := by rw [List.length_take, List.length_drop]; omega
        have HT4 := Lib.hid ht4
        have hm5 : ((b.drop 8).take s).length ≤ cb - 8 := by omega
        clear ht4
        have hq4 : 4 ≤ (b.drop 4).length := by rw [List.length_drop]; omega
        have hq5 : (b.drop 4).length ≤ cb - 4 := by rw [List.length_drop]; omega
        generalize b.take 4 = bt at *
        generalize (b.drop 8).take s = p at *
        generalize b.drop 4 = bq at *
        have hr8 : ∀ W, (Instr.slice 40 (.slice R b.length cb) (some (.int .i64 8)) (some (.int .i64 (8 + (s : Int)))) none).run Try.prog W = .ok (.slice M p.length (cb - 8)) W := hrunM
        have hr4 : ∀ W, (Instr.slice 40 (.slice R b.length cb) (some (.int .i64 4)) none none).run Try.prog W = .ok (.slice Q bq.length (cb - 4)) W := hrunQ
        have hc4 : (4 : Int) ≤ (cb : Int) := by omega
        clear hrunM hrunQ hshi vw
        go_upto_region 12 with fail
        go_cut [44] from 34 to 44 (fun v wx => v = .bool (((sumN (bt ++ p) : Nat) : Int) != ((get32 bq : Nat) : Int)) ∧ Below w1.heap.size w1 wx)
        case first =>
          have kd : Below w1.heap.size w1 w1.drew := (Below.refl _ _).drew
          refine wp_region_noPanic ?_
          refine wp_region_held_drew (S := fun Y => Below w1.heap.size w1 Y) (by kernel_rfl) kd (fun hH => ?_)
          generalize w1.drew = wd at *
          refine wpAnyH_take (i := 0) (v := ?_) rfl (by kernel_rfl) (by kernel_rfl) (by kernel_rfl) (fun _ _ _ h => h) (Or.inl ⟨by rfl, ?_⟩) hH ?_
          case refine_2 => intro w hSw; go_simp; try with_reducible rfl
          try simp only [Z1, Z2, Z4, Z5, Z6, Z7]
          refine wpAnyH_take (i := 1) (v := ?_) rfl (by kernel_rfl) (by kernel_rfl) (by kernel_rfl) (fun _ _ _ h => h) (Or.inl ⟨by rfl, ?_⟩) hH ?_
          case refine_2 => intro w hSw; go_simp; try with_reducible rfl
          try simp only [Z1, Z2, Z3, Z4, Z5, Z6, Z7]
          refine wpAnyH_take (i := 2) (v := ?_) rfl (by kernel_rfl) (by kernel_rfl) (by kernel_rfl) (fun _ _ _ h => h) (Or.inl ⟨by rfl, ?_⟩) hH ?_
          case refine_2 => intro w hSw; go_simp; try with_reducible rfl
          try simp only [Z1, Z2, Z3, Z4, Z5, Z6, Z7]
          refine wpAnyH_take (i := 3) (v := ?_) rfl (by kernel_rfl) (by kernel_rfl) (by kernel_rfl) (fun _ _ _ h => h) (Or.inl ⟨by rfl, ?_⟩) hH ?_
          case refine_2 => intro w hSw; go_simp; try with_reducible rfl
          try simp only [Z1, Z2, Z3, Z4, Z5, Z6, Z7]
          refine wpAnyH_take (i := 4) (v := ?_) rfl (by kernel_rfl) (by kernel_rfl) (by kernel_rfl) (fun _ _ _ h => h) (Or.inl ⟨by rfl, ?_⟩) hH ?_
          case refine_2 => intro w hSw; go_simp; try with_reducible rfl
          try simp only [Z1, Z2, Z3, Z4, Z5, Z6, Z7]
          refine wpAnyH_take (i := 7) (v := ?_) rfl (by kernel_rfl) (by kernel_rfl) (by kernel_rfl) (fun _ _ _ h => h) (Or.inl ⟨by rfl, ?_⟩) hH ?_
          case refine_2 => intro w hSw; go_simp; try with_reducible rfl
          try simp only [Z1, Z2, Z3, Z4, Z5, Z6, Z7]
          refine wpAnyH_take (i := 8) (v := ?_) rfl (by kernel_rfl) (by kernel_rfl) (by kernel_rfl) (fun _ _ _ h => h) (Or.inl ⟨by rfl, ?_⟩) hH ?_
          case refine_2 => intro w hSw; go_simp; try with_reducible rfl
          try simp only [Z1, Z2, Z3, Z4, Z5, Z6, Z7]
          refine wpAnyH_ready (rs := [5]) (by kernel_rfl) (by simp) ?_
          refine AllReadyH.cons rfl (fun K hK => ?_) AllReadyH.nil
          go_simp
          have rr : ∀ r ∈ ([(R, bt, cb), (M, p, cb - 8)] : List R3), Bs wd r.1 r.2.1 ∧ At Any r.1 r.2.1.length ∧ r.2.1.length ≤ r.2.2 ∧ r.2.2 ≤ 9223372036854775807 := by
            intro r hr
            simp only [List.mem_cons, List.not_mem_nil, or_false] at hr
            rcases hr with rfl | rfl
            · exact ⟨hT.below kd, At.any _ _, (by have := HT4.out; show bt.length ≤ cb; omega), (by show cb ≤ 9223372036854775807; omega)⟩
            · exact ⟨hM.below kd, At.any _ _, hm5, (by show cb - 8 ≤ 9223372036854775807; omega)⟩
          have hl3 := lit_sl wd _ 40 Any rr trivial (by simp)
          have b3 : Below wd.heap.size wd (wd.alloc (.cells #[.slice R 4 cb, .slice M p.length (cb - 8)] 40)) := (Below.refl _ _).alloc (Nat.le_refl _) _
          replace hl3 : Sl BsE (wd.alloc (.cells #[.slice R 4 cb, .slice M p.length (cb - 8)] 40)) (some ⟨wd.heap.size, 0, none⟩) [bt, p] := by
            rw [show #[Value.slice R 4 cb, .slice M p.length (cb - 8)] = (([(R, bt, cb), (M, p, cb - 8)] : List R3).map R3.v).toArray by simp only [R3.v, List.map_cons, List.map_nil, HT4.out]]
            exact hl3
          have b13 := below_step' kd b3
          have T := sum_any (some ⟨wd.heap.size, 0, none⟩) [bt, p] 2 _ hl3
          rw [show ([bt, p] : List (List UInt8)).flatten = bt ++ p by simp] at T
          change K _ (wd.alloc (.cells #[.slice R 4 cb, .slice M p.length (cb - 8)] 40))
          clear rr hl3 b3
          refine hK.out _ _ b13 (fun hH => ?_)
          clear hK K
          try dsimp only
          try simp only [Z1, Z2, Z3, Z4, Z5, Z6, Z7]
          refine wpAnyH_ready (rs := [6]) (by kernel_rfl) (by simp) ?_
          refine AllReadyH.cons rfl (fun K hK => ?_) AllReadyH.nil
          go_simp
          refine T.mono ?_
          clear T
          rintro en w4 ⟨rfl, b4⟩
          have b14 := below_step' b13 b4
          refine hK.out _ _ b14 (fun hH => ?_)
          clear hK K
          try dsimp only
          try simp only [Z1, Z2, Z3, Z4, Z5, Z6, Z7]
          refine wpAnyH_ready (rs := [9]) (by kernel_rfl) (by simp) ?_
          refine AllReadyH.cons rfl (fun K hK => ?_) AllReadyH.nil
          go_simp
          refine (cget_any Q bq bq.length (cb - 4) w4 (hQ.below b14) hq4 rfl).mono ?_
          rintro en w5 ⟨rfl, q5, hq⟩
          have b15 := below_step' b14 (show Below w4.heap.size w4 w5 by rw [hq]; exact below_drewN (Below.refl _ _) _)
          clear hq
          refine hK.out _ _ b15 (fun hH => ?_)
          clear hK K
          try dsimp only
          try simp only [Z1, Z2, Z3, Z4, Z5, Z6, Z7]
          refine wpAnyH_take (i := 10) (v := ?_) rfl (by kernel_rfl) (by kernel_rfl) (by kernel_rfl) (fun _ _ _ h => h) (Or.inl ⟨by rfl, ?_⟩) hH ?_
          case refine_2 => intro w hSw; go_simp; try with_reducible rfl
          try simp only [Z1, Z2, Z3, Z4, Z5, Z6, Z7]
          refine wpAnyH_done (by kernel_rfl) ?_ _
          refine NoPanic.normal ?_
          go_wp2_with fail
          go_meet
          case rel => exact ⟨rfl, b15⟩
        case rest =>
        obtain ⟨rfl, b1c⟩ := hcut
        have hM2 := hM.below b1c
        have b2 := below_step' b1 b1c
        clear hM hQ hT hR1 b1 b1c
        cases hne : (((sumN (bt ++ p) : Nat) : Int) != ((get32 bq : Nat) : Int)) with
        | true =>
          have HE : Hid (open1 sumN b = none) := by show _ = _; rw [HO.out, if_pos (by rw [bne_iff_ne] at hne; omega)]
          go_wp2_with fail
          go_ret3
          refine ⟨b2, ?_⟩
          rw [HE.out]
          exact ⟨4, by decide, rfl⟩
        | false =>
          have HE : Hid (open1 sumN b = some (p, 8 + s)) := by show _ = _; rw [HO.out, if_neg (by rw [bne_eq_false_iff_eq] at hne; omega)]
          have T := bclone_any M p (cb - 8) wc hM2
          go_wp2_with fail
          refine T.mono ?_
          clear T
          rintro en w3 ⟨A3, c3, rfl, o3, b3⟩
          have vz : wrap64 ((i : Int) + (8 + (s : Int))) = (i : Int) + (8 + (s : Int)) := by unfold wrap64; omega
          go_wp2_with fail
          go_ret3
          refine ⟨below_step' b2 b3, ?_⟩
          rw [HE.out]
          refine ⟨A3, c3, ?_, OwnB.base o3 b2.size⟩
          show Ending.returned (.tuple #[.slice A3 p.length c3, .int .i64 (wrap64 ((i : Int) + (8 + (s : Int)))), .int .i64 0]) = _
          rw [vz, show ((i : Int) + (8 + (s : Int))) = ((i + (8 + s) : Nat) : Int) by omega]
end Go.Proofs.Ytbldfgpnghoigaa
