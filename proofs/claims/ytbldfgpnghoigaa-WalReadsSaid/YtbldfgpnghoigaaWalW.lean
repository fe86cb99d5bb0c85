/- Equals of equal rows; awake. (Printed by wip/gen_walw.py.) -/
import Derived.Test.YtbldfgpnghoigaaWalG
import Derived.Test.YtbldfgpnghoigaaEqR
import Derived.Lib.SlBytesConst
namespace Go.Proofs.Ytbldfgpnghoigaa
open Go.RowKit

set_option maxRecDepth 100000 in
set_option maxHeartbeats 2000000 in
theorem equals_same (A B : Option Addr) (l : List (List UInt8)) (c d : Nat) (S S' : Nat → Prop) (w : World) (hA : SlS BsE w S A l) (hB : SlS BsE w S' B l) :
    Calls Try.prog 14 #[.slice A l.length c, .slice B l.length d] w (Quietly (.bool true) w) := by
  have ht : ((l.length : Int) != (l.length : Int)) = false := by rw [bne_eq_false_iff_eq]
  go_enter Try.func14, Try.ntmps14
  go_wp2_with fail
  go_loopw [5] (fun i wr => ∃ k : Nat, k ≤ l.length ∧ i = .int .i64 k ∧ ∃ n, wr = w.drewN n) (fun i _ => l.length - (intOf i).toNat)
  case atStart => exact ⟨0, Nat.zero_le _, rfl, 0, rfl⟩
  case round =>
    obtain ⟨k, hk, rfl, n, rfl⟩ := hrel
    by_cases hlt : k < l.length
    · have hll := hA.le
      have hvw : wrap64 ((k : Int) + 1) = ((k + 1 : Nat) : Int) := by unfold wrap64; omega
      have hvw2 : wrap64 ((k : Int) + 1) = (k : Int) + 1 := hvw
      obtain ⟨ad, D, cD, rfl, _, e0, hD, _, _⟩ := BsE.at_ hA hlt
      obtain ⟨bd, E, cE, rfl, _, e1, hE, _, _⟩ := BsE.at_ hB hlt
      have t1 : ∀ W : World, (∃ m, W = w.drewN m) → Calls Try.prog 43 #[.slice D (l[k]).length cD, .slice E (l[k]).length cE] W fun e w' => e = .returned (.bool true) ∧ ∃ m, w' = w.drewN m := fun W hW => by
        obtain ⟨m, rfl⟩ := hW
        have T := equal_any D E l[k] l[k] cD cE (w.drewN m) (hD.drewN m) (hE.drewN m)
        rw [show (l[k] == l[k]) = true by simp] at T
        exact T.mono fun _ _ h => ⟨h.1, by obtain ⟨j, hj⟩ := h.2; exact ⟨m + j, by rw [hj]; exact World.drewN_drewN _ _ _⟩⟩
      have T1 := Lib.hid t1
      clear t1 hD hE
      generalize l[k] = x at *
      go_upto_region 6 with fail
      refine wp_region_noPanic ?_
      have kS : ∃ m, (w.drewN n).drew = w.drewN m := ⟨n + 1, by first | rfl | exact World.drewN_drewN _ _ _⟩
      refine wp_region_held_drew (S := fun Y => ∃ m, Y = w.drewN m) (by kernel_rfl) kS (fun hH => ?_)
      generalize (w.drewN n).drew = w2 at *
      refine wpAnyH_take (i := 0) (v := ?_) rfl (by kernel_rfl) (by kernel_rfl) (by kernel_rfl) (fun _ _ _ h => h) (Or.inl ⟨by rfl, ?_⟩) hH ?_
      case refine_2 => intro w hSw; go_simp; try with_reducible rfl
      try simp only [Z1, Z2, Z4, Z5, Z6, Z7]
      refine wpAnyH_take (i := 1) (v := ?_) rfl (by kernel_rfl) (by kernel_rfl) (by kernel_rfl) (fun _ _ _ h => h) (Or.inl ⟨by rfl, ?_⟩) hH ?_
      case refine_2 => intro w hSw; go_simp; try with_reducible rfl
      try simp only [Z1, Z2, Z3, Z4, Z5, Z6, Z7]
      refine wpAnyH_take (i := 2) (v := ?_) rfl (by kernel_rfl) (by kernel_rfl) (by kernel_rfl) (fun _ _ _ h => h) (Or.inl ⟨by rfl, ?_⟩) hH ?_
      case refine_2 => intro w hSw; go_simp; try with_reducible rfl
      try simp only [Z1, Z2, Z3, Z4, Z5, Z6, Z7]
      refine wpAnyH_take (i := 3) (v := ?_) rfl (by kernel_rfl) (by kernel_rfl) (by kernel_rfl) (fun _ _ _ h => h) (Or.inl ⟨by rfl, ?_⟩) hH ?_
      case refine_2 => intro w9 hSw; obtain ⟨m, hSw⟩ := hSw; subst hSw; have h1 : (w.drewN m).cell? (ad.add k) = _ := e0; go_simp; try with_reducible rfl
      try simp only [Z1, Z2, Z3, Z4, Z5, Z6, Z7]
      refine wpAnyH_take (i := 4) (v := ?_) rfl (by kernel_rfl) (by kernel_rfl) (by kernel_rfl) (fun _ _ _ h => h) (Or.inl ⟨by rfl, ?_⟩) hH ?_
      case refine_2 => intro w hSw; go_simp; try with_reducible rfl
      try simp only [Z1, Z2, Z3, Z4, Z5, Z6, Z7]
      refine wpAnyH_take (i := 5) (v := ?_) rfl (by kernel_rfl) (by kernel_rfl) (by kernel_rfl) (fun _ _ _ h => h) (Or.inl ⟨by rfl, ?_⟩) hH ?_
      case refine_2 => intro w hSw; go_simp; try with_reducible rfl
      try simp only [Z1, Z2, Z3, Z4, Z5, Z6, Z7]
      refine wpAnyH_take (i := 6) (v := ?_) rfl (by kernel_rfl) (by kernel_rfl) (by kernel_rfl) (fun _ _ _ h => h) (Or.inl ⟨by rfl, ?_⟩) hH ?_
      case refine_2 => intro w hSw; go_simp; try with_reducible rfl
      try simp only [Z1, Z2, Z3, Z4, Z5, Z6, Z7]
      refine wpAnyH_take (i := 7) (v := ?_) rfl (by kernel_rfl) (by kernel_rfl) (by kernel_rfl) (fun _ _ _ h => h) (Or.inl ⟨by rfl, ?_⟩) hH ?_
      case refine_2 => intro w9 hSw; obtain ⟨m, hSw⟩ := hSw; subst hSw; have h1 : (w.drewN m).cell? (bd.add k) = _ := e1; go_simp; try with_reducible rfl
      try simp only [Z1, Z2, Z3, Z4, Z5, Z6, Z7]
      refine wpAnyH_ready (rs := [8]) (by kernel_rfl) (by simp) ?_
      refine AllReadyH.cons rfl (fun K hK => ?_) AllReadyH.nil
      go_simp
      refine (T1.out w2 kS).mono ?_
      rintro en w3 ⟨rfl, kS3⟩
      refine hK.out _ _ kS3 (fun hH => ?_)
      clear hK K
      try dsimp only
      try simp only [Z1, Z2, Z3, Z4, Z5, Z6, Z7]
      refine wpAnyH_take (i := 9) (v := ?_) rfl (by kernel_rfl) (by kernel_rfl) (by kernel_rfl) (fun _ _ _ h => h) (Or.inl ⟨by rfl, ?_⟩) hH ?_
      case refine_2 => intro w hSw; go_simp; try with_reducible rfl
      try simp only [Z1, Z2, Z3, Z4, Z5, Z6, Z7]
      refine wpAnyH_done (by kernel_rfl) ?_ _
      refine NoPanic.normal ?_
      obtain ⟨m3, rfl⟩ := kS3
      go_wp2_with fail
      go_roundw
      case rel => exact ⟨k + 1, by omega, (by first | rfl | exact congrArg (Value.int .i64) hvw), m3, rfl⟩
      case measure => first | (simp [intOf]; omega) | (rw [hvw]; simp [intOf]; omega)
    · obtain rfl : k = l.length := by omega
      go_wp2_with fail
      go_ret
      exact ⟨rfl, n, rfl⟩
theorem Bs.litM (w : World) (l : List UInt8) (t : TypeId) {fz : Nat × Nat} (hl : l.length ≤ 140737488355328) : Bs (w.alloc (.cells (l.map bval).toArray t fz)) (some ⟨w.heap.size, 0, none⟩) l :=
  ⟨⟨by simp, fun _ => ⟨_, rfl, by simp, fun j u hu => by
    have hadd : (⟨w.heap.size, 0, none⟩ : Addr).add j = ⟨w.heap.size, j, none⟩ := by unfold Addr.add; split <;> simp_all
    rw [hadd, cell_of_row _ _ _ _ _ _ (heap_alloc_new w _)]
    simpa using hu⟩⟩, hl⟩
/-- the disk of awake, and its log behind the two calls -/
abbrev dskA : LDisk := ⟨max 0 1048576, false, 0, false⟩
def logA (b : Nat) (nx : Nat) (sz : Int) : LLog := ⟨b, [112], 1, nx, sz, false⟩
theorem awake1 (b : Nat) : ∃ ps1, appendW (log0 b [112] 1) [] dskA [] [[97], [98]] = (0, 0, logA b 2 18, [0], dskA, ps1) ∧ Good [112] [(0, [[97], [98]])] (logA b 2 18) dskA ps1 ∧ usedP ps1 = 18 := by
  have hd : (dataW [[97], [98]]).length = 18 := by rw [data_len]; rfl
  obtain ⟨ps1, h1, h2, h3, _⟩ := (app_good (good_nil b [112] 1 dskA rfl rfl) [[97], [98]] (by decide) (by decide) (by show (0 : Nat) ≤ _; decide)).2 (by rw [hd]; decide)
  have e1 : appLog (log0 b [112] 1) [] [[97], [98]] = logA b 2 18 := by unfold appLog; rw [hd]; rfl
  have e2 : appSegs (log0 b [112] 1) [] [[97], [98]] = [(0, [[97], [98]])] := rfl
  rw [e1, e2] at h1 h2
  exact ⟨ps1, h1, h2, by rw [h3, hd]; rfl⟩
theorem awake2 (b : Nat) (ps : List PFile) (h : Good [112] [(0, [[97], [98]])] (logA b 2 18) dskA ps) (hu : usedP ps = 18) : ∃ ps1, appendW (logA b 2 18) [0] dskA ps [[99]] = (2, 0, logA b 3 9, [0, 2], dskA, ps1) ∧ Good [112] [(0, [[97], [98]]), (2, [[99]])] (logA b 3 9) dskA ps1 ∧ usedP ps1 = 27 := by
  have hd : (dataW [[99]]).length = 9 := by rw [data_len]; rfl
  obtain ⟨ps1, h1, h2, h3, _⟩ := (app_good h [[99]] (by decide) (by decide) (by show (2 : Nat) ≤ _; decide)).2 (by rw [hd, hu]; decide)
  have hf : freshW (logA b 2 18) [0] = true := rfl
  have e1 : appLog (logA b 2 18) [(0, [[97], [98]])] [[99]] = logA b 3 9 := by unfold appLog; rw [hd]; rfl
  have e2 : appSegs (logA b 2 18) [(0, [[97], [98]])] [[99]] = [(0, [[97], [98]]), (2, [[99]])] := rfl
  rw [e1, e2] at h1 h2
  exact ⟨ps1, h1, h2, by rw [h3, hd, hu]⟩
theorem awake_names : namesW [112] [(0, [[97], [98]]), (2, [[99]])] = [[112, 48, 48, 48, 48, 48, 48, 48, 48, 48, 48, 48, 48, 48, 48, 48, 48], [112, 48, 48, 48, 48, 48, 48, 48, 48, 48, 48, 48, 48, 48, 48, 48, 50]] := by decide
set_option maxRecDepth 100000 in
set_option maxHeartbeats 4000000 in
theorem awake_any (w : World) : Calls Try.prog 8 #[] w (fun en w' => en = .returned (.bool true) ∧ Below w.heap.size w w') := by
  go_enter Try.func8, Try.ntmps8
  go_wp2_with fail
  refine (newD_any 1048576 w).mono ?_
  rintro en w1 ⟨rfl, hd1, b1⟩
  replace hd1 := hd1.mono (F' := (· < w.heap.size)) (fun g h => by omega)
  obtain ⟨B, hB⟩ : ∃ B, B = w.heap.size := ⟨_, rfl⟩
  have hW0 := wl_nil [112]
  have T := open_good (segs := []) (pre := [112]) w.heap.size hd1 hW0 trivial rfl rfl (by decide) (by decide) (by decide) (by decide) (by decide) (by decide) 1 (by decide)
  have z1 := b1.size
  have z0 := hd1.lt
  go_wp2_with fail
  refine T.mono ?_
  clear T
  rintro en w2 ⟨g, A, c, rs, h1, hg1, hR, hS, hm, hL, hb2⟩
  have hrs : rs = [] := List.map_eq_nil_iff.1 hm
  subst hrs
  obtain rfl : en = .returned (.tuple #[.pointer (some ⟨g, 0, none⟩), .slice A 0 c, .int .i64 0]) := h1
  replace hL : LD w2 g (fun x => (x < w.heap.size ∧ x < w1.heap.size) ∨ RowsB A c [] x) (log0 w.heap.size [112] 1) [] dskA [] := hL
  have L2 : LD w2 g (· < w.heap.size) (log0 w.heap.size [112] 1) [] dskA [] := hL.mono fun x hx => .inl ⟨hx, by omega⟩
  have b02 : Below w.heap.size w w2 := hb2.low b1 (by omega) (fun x h => h)
  clear hL hR hS hm hb2 hd1 b1
  have hgl := L2.lt
  have z2 := b02.size
  obtain ⟨ps1, e1, G1, U1⟩ := awake1 w.heap.size
  have HE1 := Lib.hid e1
  clear e1
  have k2 : Bs (w2.alloc (.cells #[.int .u8 97] 5 (1, 2))) (some ⟨w2.heap.size, 0, none⟩) [97] := Bs.litM w2 [97] 5 (by decide)
  have d2 : Below w2.heap.size w2 (w2.alloc (.cells #[.int .u8 97] 5 (1, 2))) := (Below.refl _ _).alloc (Nat.le_refl _) _
  have s2 : (w2.alloc (.cells #[.int .u8 97] 5 (1, 2))).heap.size = w2.heap.size + 1 := by simp
  have k3 : Bs ((w2.alloc (.cells #[.int .u8 97] 5 (1, 2))).alloc (.cells #[.int .u8 98] 5 (1, 2))) (some ⟨w2.heap.size + 1, 0, none⟩) [98] := by
    have h := Bs.litM (fz := (1, 2)) (w2.alloc (.cells #[.int .u8 97] 5 (1, 2))) [98] 5 (by decide)
    rw [s2] at h
    exact h
  have d3 : Below (w2.alloc (.cells #[.int .u8 97] 5 (1, 2))).heap.size (w2.alloc (.cells #[.int .u8 97] 5 (1, 2))) ((w2.alloc (.cells #[.int .u8 97] 5 (1, 2))).alloc (.cells #[.int .u8 98] 5 (1, 2))) := (Below.refl _ _).alloc (Nat.le_refl _) _
  have k2' := k2.below d3
  have s3 : ((w2.alloc (.cells #[.int .u8 97] 5 (1, 2))).alloc (.cells #[.int .u8 98] 5 (1, 2))).heap.size = w2.heap.size + 1 + 1 := by simp
  have SX := lit_sl ((w2.alloc (.cells #[.int .u8 97] 5 (1, 2))).alloc (.cells #[.int .u8 98] 5 (1, 2))) [(some ⟨w2.heap.size, 0, none⟩, [97], 1), (some ⟨w2.heap.size + 1, 0, none⟩, [98], 1)] 40 Any (fun r hr => by
    simp only [List.mem_cons, List.not_mem_nil, or_false] at hr
    rcases hr with rfl | rfl
    · exact ⟨k2', fun _ _ _ => trivial, by show 1 ≤ 1; decide, by show 1 ≤ 9223372036854775807; decide⟩
    · exact ⟨k3, fun _ _ _ => trivial, by show 1 ≤ 1; decide, by show 1 ≤ 9223372036854775807; decide⟩) trivial (by show 2 ≤ 1048576; decide)
  rw [s3] at SX
  have d4 := below_step' (below_step' d2 d3) ((Below.refl _ ((w2.alloc (.cells #[.int .u8 97] 5 (1, 2))).alloc (.cells #[.int .u8 98] 5 (1, 2)))).alloc (Nat.le_refl _) (.cells (([(some ⟨w2.heap.size, 0, none⟩, [97], 1), (some ⟨w2.heap.size + 1, 0, none⟩, [98], 1)] : List R3).map R3.v).toArray 40))
  change Below w2.heap.size w2 (((w2.alloc (.cells #[.int .u8 97] 5 (1, 2))).alloc (.cells #[.int .u8 98] 5 (1, 2))).alloc (.cells #[.slice (some ⟨w2.heap.size, 0, none⟩) 1 1, .slice (some ⟨w2.heap.size + 1, 0, none⟩) 1 1] 40)) at d4
  replace SX : SlS BsE (((w2.alloc (.cells #[.int .u8 97] 5 (1, 2))).alloc (.cells #[.int .u8 98] 5 (1, 2))).alloc (.cells #[.slice (some ⟨w2.heap.size, 0, none⟩) 1 1, .slice (some ⟨w2.heap.size + 1, 0, none⟩) 1 1] 40)) Any (some ⟨w2.heap.size + 1 + 1, 0, none⟩) [[97], [98]] := SX
  have L3 := L2.below d4
  have hcs2 : (convert 40 40 (.slice (some ⟨w2.heap.size + 1, 0, none⟩) 1 1)).run Try.prog ((w2.alloc (.cells #[.int .u8 97] 5 (1, 2))).alloc (.cells #[.int .u8 98] 5)) = .ok (.slice (some ⟨w2.heap.size + 1, 0, none⟩) 1 1) ((w2.alloc (.cells #[.int .u8 97] 5 (1, 2))).alloc (.cells #[.int .u8 98] 5 (1, 2))) := by
    have h := Lib.run_convert_bytes_const (P := Try.prog) (w2.alloc (.cells #[.int .u8 97] 5 (1, 2))) 40 5 #[.int .u8 98] 1 1 Try.underlying40 Try.underlying5
    rw [s2] at h
    exact h
  clear k2 k2' k3 d2 d3 s2 s3
  have T := append_at g (segs := []) (pre := [112]) L3 (good_nil _ _ _ _ rfl rfl) (fun h => by rcases h with h | h <;> omega) (by decide) (by decide) (by decide) (by decide) (some ⟨w2.heap.size + 1 + 1, 0, none⟩) [[97], [98]] 2 Any SX (by decide) (by decide) (by show (0 : Nat) ≤ _; decide) ⟨by show (0 : Int) ≤ 0; decide, by show (0 : Int) ≤ _; decide⟩
  rw [show (([] : List Seg).map (·.1)) = [] from rfl, HE1.out] at T
  have z4 := d4.size
  have hcs := fun (w : World) (C : Array Value) (n c : Nat) => Lib.run_convert_bytes_const (P := Try.prog) w 40 5 C n c Try.underlying40 Try.underlying5
  go_wp2_with fail
  clear hcs hcs2
  refine T.mono ?_
  clear T SX L3 L2
  rintro en w4 ⟨h1, L4, B4⟩
  obtain rfl : en = .returned (.tuple #[.int .u64 0, .int .i64 0]) := h1
  replace L4 : LD w4 g (fun x => (x < w.heap.size ∨ w2.heap.size ≤ x) ∧ x < _) (logA w.heap.size 2 18) [0] dskA ps1 := L4
  have b04 : Below w.heap.size w w4 := B4.low (b02.trans (d4.mono z2)) (by omega) (fun x h => .inl h)
  replace L4 := L4.mono (F' := (· < w.heap.size)) fun x hx => ⟨.inl hx, by omega⟩
  have z5 := B4.size
  clear B4 d4 b02
  have z6 := b04.size
  obtain ⟨ps2, e2, G2, U2⟩ := awake2 w.heap.size ps1 G1 U1
  have HE2 := Lib.hid e2
  clear e2
  generalize hW2 : w2.heap.size = z2w at *
  clear hW2
  have hg4 := L4.lt
  have k2 : Bs (w4.alloc (.cells #[.int .u8 99] 5 (1, 2))) (some ⟨w4.heap.size, 0, none⟩) [99] := Bs.litM w4 [99] 5 (by decide)
  have d2 : Below w4.heap.size w4 (w4.alloc (.cells #[.int .u8 99] 5 (1, 2))) := (Below.refl _ _).alloc (Nat.le_refl _) _
  have s2 : (w4.alloc (.cells #[.int .u8 99] 5 (1, 2))).heap.size = w4.heap.size + 1 := by simp
  have SX := lit_sl (w4.alloc (.cells #[.int .u8 99] 5 (1, 2))) [(some ⟨w4.heap.size, 0, none⟩, [99], 1)] 40 Any (fun r hr => by
    rw [List.mem_singleton.1 hr]
    exact ⟨k2, fun _ _ _ => trivial, by show 1 ≤ 1; decide, by show 1 ≤ 9223372036854775807; decide⟩) trivial (by show 1 ≤ 1048576; decide)
  rw [s2] at SX
  have d4 := below_step' d2 ((Below.refl _ (w4.alloc (.cells #[.int .u8 99] 5 (1, 2)))).alloc (Nat.le_refl _) (.cells (([(some ⟨w4.heap.size, 0, none⟩, [99], 1)] : List R3).map R3.v).toArray 40))
  change Below w4.heap.size w4 ((w4.alloc (.cells #[.int .u8 99] 5 (1, 2))).alloc (.cells #[.slice (some ⟨w4.heap.size, 0, none⟩) 1 1] 40)) at d4
  replace SX : SlS BsE ((w4.alloc (.cells #[.int .u8 99] 5 (1, 2))).alloc (.cells #[.slice (some ⟨w4.heap.size, 0, none⟩) 1 1] 40)) Any (some ⟨w4.heap.size + 1, 0, none⟩) [[99]] := SX
  have L5 := L4.below d4
  clear k2 d2 s2
  have T := append_at g (segs := [(0, [[97], [98]])]) (pre := [112]) L5 G1 (fun h => by rcases h with h | h <;> omega) (by decide) (by decide) (by decide) (by rw [U1]; decide) (some ⟨w4.heap.size + 1, 0, none⟩) [[99]] 1 Any SX (by decide) (by decide) (by show (2 : Nat) ≤ _; decide) ⟨by show (0 : Int) ≤ 18; decide, by show (18 : Int) ≤ _; decide⟩
  rw [show (([(0, [[97], [98]])] : List Seg).map (·.1)) = [0] from rfl, HE2.out] at T
  have z7 := d4.size
  have hcs := fun (w : World) (C : Array Value) (n c : Nat) => Lib.run_convert_bytes_const (P := Try.prog) w 40 5 C n c Try.underlying40 Try.underlying5
  go_wp2_with fail
  clear hcs
  refine T.mono ?_
  clear T SX L5 L4
  rintro en w6 ⟨h1, L6, B6⟩
  obtain rfl : en = .returned (.tuple #[.int .u64 2, .int .i64 0]) := h1
  replace L6 : LD w6 g (fun x => (x < w.heap.size ∨ w4.heap.size ≤ x) ∧ x < _) (logA w.heap.size 3 9) [0, 2] dskA ps2 := L6
  have b06 : Below w.heap.size w w6 := B6.low (b04.trans (d4.mono z6)) (by omega) (fun x h => .inl h)
  clear B6 d4 b04
  obtain ⟨A6, c6, hk6, hs6, hd6, hF6, _⟩ := L6
  have T := listD_any hd6 (G2.wl.ok (by decide) (by decide) (by rw [U2]; decide)) [112] (by decide)
  rw [G2.wl.list rfl, awake_names] at T
  replace T : Calls Try.prog 16 #[.pointer (some ⟨w.heap.size, 0, none⟩), .string ⟨#[112]⟩] w6 _ := T
  go_wp2_with fail
  refine T.mono ?_
  clear T
  rintro en w7 ⟨A7, c7, rfl, o7, b7⟩
  obtain ⟨ad, u, rfl, _, hu, e0⟩ := (Reads.of_own o7).at_ (k := 1) (by decide)
  obtain rfl : u = .string ⟨#[112, 48, 48, 48, 48, 48, 48, 48, 48, 48, 48, 48, 48, 48, 48, 48, 50]⟩ := (Option.some.inj hu).symm
  have ea : ad.add 1 = ⟨ad.block, ad.off + 1, none⟩ := by unfold Addr.add; simp
  rw [ea] at e0
  clear ea
  have b07 := below_step' b06 b7
  have T := nextW_any g _ _ w7 (hk6.below b7 hk6.lt)
  replace T : Calls Try.prog 15 #[.pointer (some ⟨g, 0, none⟩)] w7 (fun en w' => en = .returned (.int .u64 3) ∧ w' = w7) := T
  clear hk6 hs6 hd6 hF6 o7 b7 b06
  go_wp2_with fail
  refine T.mono ?_
  clear T
  rintro en w8 ⟨rfl, hw8⟩
  obtain rfl : w7 = w8 := hw8.symm
  go_wp2_with fail
  go_ret
  exact ⟨rfl, b07⟩
end Go.Proofs.Ytbldfgpnghoigaa
