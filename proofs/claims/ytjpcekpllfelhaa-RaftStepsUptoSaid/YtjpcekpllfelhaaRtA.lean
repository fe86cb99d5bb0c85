/- The document's form of a node that is in form. (Printed by wip/gen_rta.py.) -/
import Derived.Test.YtjpcekpllfelhaaRsZ
namespace Go.Proofs.Ytjpcekpllfelhaa
open Go.RowKit

set_option maxRecDepth 100000 in
set_option maxHeartbeats 1000000 in
theorem last17_any (d : LNode) (A : Option Addr) (L : List LEnt) (c : Nat) (w : World) (hw : d.base + L.length ≤ 18446744073709551615) (hl : L.length ≤ 9223372036854775807) :
    Calls Try.prog 42 #[.agg #[.int .u64 (d.term : Int), .int .i64 d.vote, .int .i64 d.role, .int .u64 (d.base : Int), .int .u64 (d.baseTerm : Int), .slice A L.length c, .int .u64 (d.commit : Int)]] w (fun en w' => en = .returned (.int .u64 ((d.base : Int) + (L.length : Int))) ∧ Below w.heap.size w w') := by
  have w1 : IntKind.u64.wrap (L.length : Int) = (L.length : Int) := by simp [IntKind.wrap, IntKind.bits, IntKind.signed]; omega
  have w2 : IntKind.u64.wrap ((d.base : Int) + (L.length : Int)) = (d.base : Int) + (L.length : Int) := by simp [IntKind.wrap, IntKind.bits, IntKind.signed]; omega
  have b1 : Below w.heap.size w (w.alloc (.cells #[.int .u64 (d.term : Int), .int .i64 d.vote, .int .i64 d.role, .int .u64 (d.base : Int), .int .u64 (d.baseTerm : Int), .slice A L.length c, .int .u64 (d.commit : Int)] 67)) := (Below.refl _ _).alloc (Nat.le_refl _) _
  go_enter Try.func42, Try.ntmps42
  go_wp2_with fail
  go_ret
  exact ⟨rfl, b1⟩
set_option maxRecDepth 100000 in
set_option maxHeartbeats 4000000 in
theorem form_any (n : Nat) (d : LNode) (A : Option Addr) (L : List LEnt) (c : Nat) (S : Nat → Prop) (w0 : World) (hl : SlS EntE w0 S A L) (hll : L.length ≤ 1048576) (hr : risingP L d.baseTerm d.term = true) (h1 : -1 ≤ d.vote) (h2 : d.vote < (n : Int))
    (h3 : d.base ≤ d.commit) (h4 : d.commit ≤ d.base + L.length) (hw : d.base + L.length ≤ 18446744073709551615) :
    Calls Try.prog 21 #[.agg #[.int .u64 (d.term : Int), .int .i64 d.vote, .int .i64 d.role, .int .u64 (d.base : Int), .int .u64 (d.baseTerm : Int), .slice A L.length c, .int .u64 (d.commit : Int)], .int .i64 (n : Int)] w0 (fun en w' => en = .returned (.bool true) ∧ Below w0.heap.size w0 w') := by
  have HR := Lib.hid hr
  clear hr
  have T := Lib.hid (fun (wz : World) => last17_any d A L c wz hw (by omega))
  have b1 : Below w0.heap.size w0 (w0.alloc (.cells #[.int .u64 (d.term : Int), .int .i64 d.vote, .int .i64 d.role, .int .u64 (d.base : Int), .int .u64 (d.baseTerm : Int), .slice A L.length c, .int .u64 (d.commit : Int)] 67)) := (Below.refl _ _).alloc (Nat.le_refl _) _
  have kF := Blk.new w0 67 #[.int .u64 (d.term : Int), .int .i64 d.vote, .int .i64 d.role, .int .u64 (d.base : Int), .int .u64 (d.baseTerm : Int), .slice A L.length c, .int .u64 (d.commit : Int)]
  go_enter Try.func21, Try.ntmps21
  go_upto_region 1 with fail
  generalize (w0.alloc (.cells #[.int .u64 (d.term : Int), .int .i64 d.vote, .int .i64 d.role, .int .u64 (d.base : Int), .int .u64 (d.baseTerm : Int), .slice A L.length c, .int .u64 (d.commit : Int)] 67)) = w1 at *
  have c4 : w1.cell? ⟨w0.heap.size, 4, none⟩ = some (.int .u64 (d.baseTerm : Int)) := kF.cell 4
  have c5 : w1.cell? ⟨w0.heap.size, 5, none⟩ = some (.slice A L.length c) := kF.cell 5
  have l1 := hl.below b1
  go_wp2_with fail
  clear c4
  go_loopw [5, 6] (fun v5 v6 wr => ∃ (k lo : Nat), k ≤ L.length ∧ v5 = .int .u64 (lo : Int) ∧ v6 = .int .i64 (k : Int) ∧ Hid (risingP (L.drop k) lo d.term = true) ∧ wr = w1) (fun _ v6 _ => L.length - (intOf v6).toNat)
  case atStart => exact ⟨0, d.baseTerm, Nat.zero_le _, rfl, rfl, HR.out, rfl⟩
  case round =>
    obtain ⟨k, lo, hk, rfl, rfl, HX, rfl⟩ := hrel
    by_cases hlt : k < L.length
    · obtain ⟨ad, P, pc, rfl, _, e0, e1, _⟩ := EntE.at_ l1 hlt
      have HST : Hid ((if L[k].term < lo then false else risingP (L.drop (k + 1)) L[k].term d.term) = true) := by show _ = _; rw [← HX.out, List.drop_eq_getElem_cons hlt]; rfl
      generalize L[k] = en0 at *
      by_cases hf : en0.term < lo
      · have h := HST.out
        rw [if_pos hf] at h
        cases h
      · have hfi : ¬ (en0.term : Int) < (lo : Int) := by omega
        have HE : Hid (risingP (L.drop (k + 1)) en0.term d.term = true) := by show _ = _; rw [← HST.out, if_neg hf]
        clear HST HX
        go_wp2_with fail
        go_roundw
        case rel => exact ⟨k + 1, en0.term, by omega, rfl, by simp, HE.out, trivial⟩
        case measure => simp [intOf]; omega
    · obtain rfl : k = L.length := by omega
      have hlo : lo ≤ d.term := by have h := HX.out; rw [List.drop_length] at h; exact of_decide_eq_true h
      clear HX
      have g1 : (lo : Int) ≤ (d.term : Int) := by omega
      have g2 : (d.base : Int) ≤ (d.commit : Int) := by omega
      have g3 : (d.commit : Int) ≤ (d.base : Int) + (L.length : Int) := by omega
      have hlti : ¬ (L.length : Int) < (L.length : Int) := by omega
      go_upto_region 8 with fail
      have kS := kF.drew
      have q0 : Below wr.heap.size wr wr.drew := (Below.refl _ _).drew
      have lF := kF.lt
      clear kF c5
      refine wp_region_noPanic ?_
      refine wp_region_held_drew (S := fun Y => Blk Y w0.heap.size 67 #[.int .u64 (d.term : Int), .int .i64 d.vote, .int .i64 d.role, .int .u64 (d.base : Int), .int .u64 (d.baseTerm : Int), .slice A L.length c, .int .u64 (d.commit : Int)]) (by kernel_rfl) kS (fun hH => ?_)
      refine wpAnyH_take (i := 0) (v := ?_) rfl (by kernel_rfl) (by kernel_rfl) (by kernel_rfl) (fun _ _ _ h => h) (Or.inl ⟨by rfl, ?_⟩) hH ?_
      case refine_2 => intro w hSw; go_simp; try with_reducible rfl
      try simp only [Z1, Z2, Z4, Z5, Z6, Z7]
      refine wpAnyH_take (i := 1) (v := ?_) rfl (by kernel_rfl) (by kernel_rfl) (by kernel_rfl) (fun _ _ _ h => h) (Or.inl ⟨by rfl, ?_⟩) hH ?_
      case refine_2 => intro w hSw; go_simp; try with_reducible rfl
      try simp only [Z1, Z2, Z3, Z4, Z5, Z6, Z7]
      refine wpAnyH_take (i := 2) (v := ?_) rfl (by kernel_rfl) (by kernel_rfl) (by kernel_rfl) (fun _ _ _ h => h) (Or.inl ⟨by rfl, ?_⟩) hH ?_
      case refine_2 => intro w hSw; replace hSw : Blk w w0.heap.size 67 #[.int .u64 (d.term : Int), .int .i64 d.vote, .int .i64 d.role, .int .u64 (d.base : Int), .int .u64 (d.baseTerm : Int), .slice A L.length c, .int .u64 (d.commit : Int)] := hSw; have n0 : w.cell? ⟨_, 0, none⟩ = some (.int .u64 (d.term : Int)) := Blk.cell hSw 0; clear hSw; go_simp; try with_reducible rfl
      try simp only [Z1, Z2, Z3, Z4, Z5, Z6, Z7]
      refine wpAnyH_take (i := 3) (v := ?_) rfl (by kernel_rfl) (by kernel_rfl) (by kernel_rfl) (fun _ _ _ h => h) (Or.inl ⟨by rfl, ?_⟩) hH ?_
      case refine_2 => intro w hSw; go_simp; try with_reducible rfl
      try simp only [Z1, Z2, Z3, Z4, Z5, Z6, Z7]
      refine wpAnyH_take (i := 4) (v := ?_) rfl (by kernel_rfl) (by kernel_rfl) (by kernel_rfl) (fun _ _ _ h => h) (Or.inl ⟨by rfl, ?_⟩) hH ?_
      case refine_2 => intro w hSw; go_simp; try with_reducible rfl
      try simp only [Z1, Z2, Z3, Z4, Z5, Z6, Z7]
      refine wpAnyH_take (i := 5) (v := ?_) rfl (by kernel_rfl) (by kernel_rfl) (by kernel_rfl) (fun _ _ _ h => h) (Or.inl ⟨by rfl, ?_⟩) hH ?_
      case refine_2 => intro w hSw; go_simp; try with_reducible rfl
      try simp only [Z1, Z2, Z3, Z4, Z5, Z6, Z7]
      refine wpAnyH_take (i := 6) (v := ?_) rfl (by kernel_rfl) (by kernel_rfl) (by kernel_rfl) (fun _ _ _ h => h) (Or.inl ⟨by rfl, ?_⟩) hH ?_
      case refine_2 => intro w hSw; replace hSw : Blk w w0.heap.size 67 #[.int .u64 (d.term : Int), .int .i64 d.vote, .int .i64 d.role, .int .u64 (d.base : Int), .int .u64 (d.baseTerm : Int), .slice A L.length c, .int .u64 (d.commit : Int)] := hSw; have n1 : w.cell? ⟨_, 1, none⟩ = some (.int .i64 d.vote) := Blk.cell hSw 1; clear hSw; go_simp; try with_reducible rfl
      try simp only [Z1, Z2, Z3, Z4, Z5, Z6, Z7]
      refine wpAnyH_take (i := 7) (v := ?_) rfl (by kernel_rfl) (by kernel_rfl) (by kernel_rfl) (fun _ _ _ h => h) (Or.inl ⟨by rfl, ?_⟩) hH ?_
      case refine_2 => intro w hSw; go_simp; try with_reducible rfl
      try simp only [Z1, Z2, Z3, Z4, Z5, Z6, Z7]
      refine wpAnyH_take (i := 8) (v := ?_) rfl (by kernel_rfl) (by kernel_rfl) (by kernel_rfl) (fun _ _ _ h => h) (Or.inl ⟨by rfl, ?_⟩) hH ?_
      case refine_2 => intro w hSw; go_simp; try with_reducible rfl
      try simp only [Z1, Z2, Z3, Z4, Z5, Z6, Z7]
      refine wpAnyH_take (i := 9) (v := ?_) rfl (by kernel_rfl) (by kernel_rfl) (by kernel_rfl) (fun _ _ _ h => h) (Or.inl ⟨by rfl, ?_⟩) hH ?_
      case refine_2 => intro w hSw; go_simp; try with_reducible rfl
      try simp only [Z1, Z2, Z3, Z4, Z5, Z6, Z7]
      refine wpAnyH_take (i := 10) (v := ?_) rfl (by kernel_rfl) (by kernel_rfl) (by kernel_rfl) (fun _ _ _ h => h) (Or.inl ⟨by rfl, ?_⟩) hH ?_
      case refine_2 => intro w hSw; go_simp; try with_reducible rfl
      try simp only [Z1, Z2, Z3, Z4, Z5, Z6, Z7]
      refine wpAnyH_take (i := 11) (v := ?_) rfl (by kernel_rfl) (by kernel_rfl) (by kernel_rfl) (fun _ _ _ h => h) (Or.inl ⟨by rfl, ?_⟩) hH ?_
      case refine_2 => intro w hSw; replace hSw : Blk w w0.heap.size 67 #[.int .u64 (d.term : Int), .int .i64 d.vote, .int .i64 d.role, .int .u64 (d.base : Int), .int .u64 (d.baseTerm : Int), .slice A L.length c, .int .u64 (d.commit : Int)] := hSw; have n1 : w.cell? ⟨_, 1, none⟩ = some (.int .i64 d.vote) := Blk.cell hSw 1; clear hSw; go_simp; try with_reducible rfl
      try simp only [Z1, Z2, Z3, Z4, Z5, Z6, Z7]
      refine wpAnyH_take (i := 12) (v := ?_) rfl (by kernel_rfl) (by kernel_rfl) (by kernel_rfl) (fun _ _ _ h => h) (Or.inl ⟨by rfl, ?_⟩) hH ?_
      case refine_2 => intro w hSw; go_simp; try with_reducible rfl
      try simp only [Z1, Z2, Z3, Z4, Z5, Z6, Z7]
      refine wpAnyH_take (i := 13) (v := ?_) rfl (by kernel_rfl) (by kernel_rfl) (by kernel_rfl) (fun _ _ _ h => h) (Or.inl ⟨by rfl, ?_⟩) hH ?_
      case refine_2 => intro w hSw; go_simp; try with_reducible rfl
      try simp only [Z1, Z2, Z3, Z4, Z5, Z6, Z7]
      refine wpAnyH_take (i := 14) (v := ?_) rfl (by kernel_rfl) (by kernel_rfl) (by kernel_rfl) (fun _ _ _ h => h) (Or.inl ⟨by rfl, ?_⟩) hH ?_
      case refine_2 => intro w hSw; go_simp; try with_reducible rfl
      try simp only [Z1, Z2, Z3, Z4, Z5, Z6, Z7]
      refine wpAnyH_take (i := 15) (v := ?_) rfl (by kernel_rfl) (by kernel_rfl) (by kernel_rfl) (fun _ _ _ h => h) (Or.inl ⟨by rfl, ?_⟩) hH ?_
      case refine_2 => intro w hSw; go_simp; try with_reducible rfl
      try simp only [Z1, Z2, Z3, Z4, Z5, Z6, Z7]
      refine wpAnyH_take (i := 16) (v := ?_) rfl (by kernel_rfl) (by kernel_rfl) (by kernel_rfl) (fun _ _ _ h => h) (Or.inl ⟨by rfl, ?_⟩) hH ?_
      case refine_2 => intro w hSw; go_simp; try with_reducible rfl
      try simp only [Z1, Z2, Z3, Z4, Z5, Z6, Z7]
      refine wpAnyH_take (i := 17) (v := ?_) rfl (by kernel_rfl) (by kernel_rfl) (by kernel_rfl) (fun _ _ _ h => h) (Or.inl ⟨by rfl, ?_⟩) hH ?_
      case refine_2 => intro w hSw; replace hSw : Blk w w0.heap.size 67 #[.int .u64 (d.term : Int), .int .i64 d.vote, .int .i64 d.role, .int .u64 (d.base : Int), .int .u64 (d.baseTerm : Int), .slice A L.length c, .int .u64 (d.commit : Int)] := hSw; have n6 : w.cell? ⟨_, 6, none⟩ = some (.int .u64 (d.commit : Int)) := Blk.cell hSw 6; clear hSw; go_simp; try with_reducible rfl
      try simp only [Z1, Z2, Z3, Z4, Z5, Z6, Z7]
      refine wpAnyH_take (i := 18) (v := ?_) rfl (by kernel_rfl) (by kernel_rfl) (by kernel_rfl) (fun _ _ _ h => h) (Or.inl ⟨by rfl, ?_⟩) hH ?_
      case refine_2 => intro w hSw; go_simp; try with_reducible rfl
      try simp only [Z1, Z2, Z3, Z4, Z5, Z6, Z7]
      refine wpAnyH_take (i := 19) (v := ?_) rfl (by kernel_rfl) (by kernel_rfl) (by kernel_rfl) (fun _ _ _ h => h) (Or.inl ⟨by rfl, ?_⟩) hH ?_
      case refine_2 => intro w hSw; replace hSw : Blk w w0.heap.size 67 #[.int .u64 (d.term : Int), .int .i64 d.vote, .int .i64 d.role, .int .u64 (d.base : Int), .int .u64 (d.baseTerm : Int), .slice A L.length c, .int .u64 (d.commit : Int)] := hSw; have n3 : w.cell? ⟨_, 3, none⟩ = some (.int .u64 (d.base : Int)) := Blk.cell hSw 3; clear hSw; go_simp; try with_reducible rfl
      try simp only [Z1, Z2, Z3, Z4, Z5, Z6, Z7]
      refine wpAnyH_take (i := 20) (v := ?_) rfl (by kernel_rfl) (by kernel_rfl) (by kernel_rfl) (fun _ _ _ h => h) (Or.inl ⟨by rfl, ?_⟩) hH ?_
      case refine_2 => intro w hSw; go_simp; try with_reducible rfl
      try simp only [Z1, Z2, Z3, Z4, Z5, Z6, Z7]
      refine wpAnyH_take (i := 21) (v := ?_) rfl (by kernel_rfl) (by kernel_rfl) (by kernel_rfl) (fun _ _ _ h => h) (Or.inl ⟨by rfl, ?_⟩) hH ?_
      case refine_2 => intro w hSw; go_simp; try with_reducible rfl
      try simp only [Z1, Z2, Z3, Z4, Z5, Z6, Z7]
      refine wpAnyH_take (i := 22) (v := ?_) rfl (by kernel_rfl) (by kernel_rfl) (by kernel_rfl) (fun _ _ _ h => h) (Or.inl ⟨by rfl, ?_⟩) hH ?_
      case refine_2 => intro w hSw; go_simp; try with_reducible rfl
      try simp only [Z1, Z2, Z3, Z4, Z5, Z6, Z7]
      refine wpAnyH_take (i := 23) (v := ?_) rfl (by kernel_rfl) (by kernel_rfl) (by kernel_rfl) (fun _ _ _ h => h) (Or.inl ⟨by rfl, ?_⟩) hH ?_
      case refine_2 => intro w hSw; go_simp; try with_reducible rfl
      try simp only [Z1, Z2, Z3, Z4, Z5, Z6, Z7]
      refine wpAnyH_take (i := 24) (v := ?_) rfl (by kernel_rfl) (by kernel_rfl) (by kernel_rfl) (fun _ _ _ h => h) (Or.inl ⟨by rfl, ?_⟩) hH ?_
      case refine_2 => intro w hSw; replace hSw : Blk w w0.heap.size 67 #[.int .u64 (d.term : Int), .int .i64 d.vote, .int .i64 d.role, .int .u64 (d.base : Int), .int .u64 (d.baseTerm : Int), .slice A L.length c, .int .u64 (d.commit : Int)] := hSw; have n6 : w.cell? ⟨_, 6, none⟩ = some (.int .u64 (d.commit : Int)) := Blk.cell hSw 6; clear hSw; go_simp; try with_reducible rfl
      try simp only [Z1, Z2, Z3, Z4, Z5, Z6, Z7]
      refine wpAnyH_take (i := 25) (v := ?_) rfl (by kernel_rfl) (by kernel_rfl) (by kernel_rfl) (fun _ _ _ h => h) (Or.inl ⟨by rfl, ?_⟩) hH ?_
      case refine_2 => intro w hSw; replace hSw : Blk w w0.heap.size 67 #[.int .u64 (d.term : Int), .int .i64 d.vote, .int .i64 d.role, .int .u64 (d.base : Int), .int .u64 (d.baseTerm : Int), .slice A L.length c, .int .u64 (d.commit : Int)] := hSw; have n0 : w.cell? ⟨_, 0, none⟩ = some (.int .u64 (d.term : Int)) := Blk.cell hSw 0; have n1 : w.cell? ⟨_, 1, none⟩ = some (.int .i64 d.vote) := Blk.cell hSw 1; have n2 : w.cell? ⟨_, 2, none⟩ = some (.int .i64 d.role) := Blk.cell hSw 2; have n3 : w.cell? ⟨_, 3, none⟩ = some (.int .u64 (d.base : Int)) := Blk.cell hSw 3; have n4 : w.cell? ⟨_, 4, none⟩ = some (.int .u64 (d.baseTerm : Int)) := Blk.cell hSw 4; have n5 : w.cell? ⟨_, 5, none⟩ = some (.slice A L.length c) := Blk.cell hSw 5; have n6 : w.cell? ⟨_, 6, none⟩ = some (.int .u64 (d.commit : Int)) := Blk.cell hSw 6; clear hSw; go_simp; try with_reducible rfl
      try simp only [Z1, Z2, Z3, Z4, Z5, Z6, Z7]
      refine wpAnyH_ready (rs := [26]) (by kernel_rfl) (by simp) ?_
      refine AllReadyH.cons rfl (fun K hK => ?_) AllReadyH.nil
      go_simp
      refine (T.out wr.drew).mono ?_
      rintro en w7 ⟨rfl, b7⟩
      have k7 := kS.below b7 kS.lt
      have bz := below_step (below_step b1 q0) b7
      refine hK.out _ _ k7 (fun hH => ?_)
      clear hK K
      try dsimp only
      try simp only [Z1, Z2, Z3, Z4, Z5, Z6, Z7]
      refine wpAnyH_take (i := 27) (v := ?_) rfl (by kernel_rfl) (by kernel_rfl) (by kernel_rfl) (fun _ _ _ h => h) (Or.inl ⟨by rfl, ?_⟩) hH ?_
      case refine_2 => intro w hSw; go_simp; try with_reducible rfl
      try simp only [Z1, Z2, Z3, Z4, Z5, Z6, Z7]
      refine wpAnyH_take (i := 28) (v := ?_) rfl (by kernel_rfl) (by kernel_rfl) (by kernel_rfl) (fun _ _ _ h => h) (Or.inl ⟨by rfl, ?_⟩) hH ?_
      case refine_2 => intro w hSw; go_simp; try with_reducible rfl
      try simp only [Z1, Z2, Z3, Z4, Z5, Z6, Z7]
      refine wpAnyH_take (i := 29) (v := ?_) rfl (by kernel_rfl) (by kernel_rfl) (by kernel_rfl) (fun _ _ _ h => h) (Or.inl ⟨by rfl, ?_⟩) hH ?_
      case refine_2 => intro w hSw; go_simp; try with_reducible rfl
      try simp only [Z1, Z2, Z3, Z4, Z5, Z6, Z7]
      refine wpAnyH_done (by kernel_rfl) ?_ _
      refine NoPanic.normal ?_
      go_wp2_with fail
      go_ret
      exact ⟨rfl, bz⟩
end Go.Proofs.Ytjpcekpllfelhaa
