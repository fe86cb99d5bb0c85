/- The reference's disk: List. -/
import Derived.Test.YtnhonjgclbmheaaRdB
namespace Go.Proofs.Ytnhonjgclbmheaa
open Go.RowKit

theorem Try.infoStr : (Try.prog.info? 9).map (fun i => (i.zero, i.size, i.bytes)) = some (some (.string ⟨#[]⟩), 1, 16) := by kernel_rfl
/-- the names that begin so -/
def listR (W : LRD) (p : List UInt8) : List (List UInt8) := if W.dead then [] else (W.files.map LRF.name).filter (p.isPrefixOf ·)
/-- one more string in a row of the own -/
theorem wpList_appN (b : Nat) (w0 w : World) {ops : Array Oper} {rest : List Oper} {o : Oper} {a : Act} {Q : Exit → Act → World → Prop} (hgd : o.guard = none) (s x : Operand)
    (ho : o.op = .call { callee := .builtin .append, args := #[s, x], argTypes := #[76, 76] })
    (A : Option Addr) (xs : List (List UInt8)) (c : Nat) (hs : a.eval s = .slice A xs.length c) (hown : w.ownsRow b 9 1 (.slice A xs.length c) xs.length (xs.map encStr))
    (B : Option Addr) (y : List UInt8) (d Bd : Nat) (hx : a.eval x = .slice B 1 d) (hr : Reads w Bd 1 B 1 [encStr y]) (hl : xs.length + 1 ≤ 1048577) (hb : Below w0.heap.size w0 w) (hb0 : w0.heap.size ≤ b) (hbw : b ≤ w.heap.size)
    (h : ∀ A' c' xs' w', Hid (xs' = xs ++ [y]) → w'.ownsRow b 9 1 (.slice A' xs'.length c') xs'.length (xs'.map encStr) → Below w0.heap.size w0 w' → wpList Try.prog ops Q rest (a.put o.dst (.slice A' xs'.length c')) w') : wpList Try.prog ops Q (o :: rest) a w := by
  obtain ⟨i0, hi0, hz0, hz1, hz2⟩ := info_parts Try.infoStr
  refine wpList_append_sh w hgd s x _ ho b 9 i0 _ 1 16 Try.underlying76 hi0 hz0 hz1 hz2 rfl (by omega) _ _ _ hs hown Bd B 1 d [encStr y] hx hr (by simp [Value.oneCell']) (by simp only [maxLen]; omega) (by omega) hbw ?_
  intro A' c' w' o' g' _
  have e : xs.length + 1 = (xs ++ [y]).length := by rw [List.length_append]; rfl
  rw [e] at o' ⊢
  exact h A' c' (xs ++ [y]) w' rfl (by rw [List.map_append]; exact o') (hb.grown g' hb.size fun j hj => by have := (World.ownsRow.lt hown j hj).1; omega)
set_option maxRecDepth 100000 in
set_option maxHeartbeats 2000000 in
theorem rlist_any (A : Option Addr) (c : Nat) (W : LRD) (S : Nat → Prop) (p : List UInt8) (w : World) (h : SlS RFE w S A W.files) (hl : W.files.length ≤ 1048576) :
    Calls Try.prog 39 #[rv A c W, .string ⟨p.toArray⟩] w (RetN (listR W p) w) := by
  obtain ⟨fs, room, armed, dead⟩ := W
  replace h : SlS RFE w S A fs := h
  replace hl : fs.length ≤ 1048576 := hl
  have dA : Below w.heap.size w (w.alloc (.cells (rcs A c ⟨fs, room, armed, dead⟩) 45)) := (Below.refl _ _).alloc (Nat.le_refl _) _
  have kA := Blk.new w 45 (rcs A c ⟨fs, room, armed, dead⟩)
  have h1 := h.below dA
  go_enter Try.func39, Try.ntmps39
  go_upto_region 1 with fail
  change Code.wp _ _ _ _ (w.alloc (.cells (rcs A c ⟨fs, room, armed, dead⟩) 45))
  generalize w.alloc (.cells (rcs A c ⟨fs, room, armed, dead⟩) 45) = w1 at *
  have a3 : w1.cell? ⟨w.heap.size, 3, none⟩ = some (.bool dead) := kA.cell 3
  cases dead with
  | true =>
    go_wp2_with fail
    go_ret
    exact ⟨none, 0, rfl, World.ownsRow_nil _ _ _ _, dA⟩
  | false =>
    show Code.wp _ _ _ _ _
    go_wp2_with fail
    go_loopw [5, 6] (fun v5 v6 wr => ∃ (k : Nat) (A' : Option Addr) (c' : Nat) (xs : List (List UInt8)), k ≤ fs.length ∧ v6 = .int .i64 (k : Int) ∧ v5 = .slice A' xs.length c' ∧ xs.length ≤ k ∧ Hid (xs = ((fs.take k).map LRF.name).filter (p.isPrefixOf ·)) ∧ wr.ownsRow w1.heap.size 9 1 (.slice A' xs.length c') xs.length (xs.map encStr) ∧ Below w1.heap.size w1 wr) (fun _ v6 _ => fs.length - (Lib.intOf v6).toNat)
    case atStart => exact ⟨0, none, 0, [], Nat.zero_le _, rfl, rfl, Nat.le_refl _, rfl, World.ownsRow_nil _ _ _ _, Below.refl _ _⟩
    case round =>
      obtain ⟨k, A', c', xs, hk, rfl, rfl, hxk, HX, ho, br⟩ := hrel
      have a0 : wr.cell? ⟨w.heap.size, 0, none⟩ = some (.slice A fs.length c) := (kA.below br kA.lt).cell 0
      by_cases hlt : k < fs.length
      · obtain ⟨ad, P, pc, Q, qc, rfl, hadb, c0, c1, c2, hnl, _⟩ := RFE.at_ (h1.below br) hlt
        have HT : Hid (fs.take (k + 1) = fs.take k ++ [fs[k]]) := List.take_succ_eq_append_getElem hlt
        clear c1 c2
        obtain ⟨n, hn⟩ : ∃ n, n = fs[k].name := ⟨_, rfl⟩
        rw [← hn] at c0 hnl
        have HN := Lib.hid hn
        clear hn
        obtain ⟨g, hg⟩ : ∃ g, g = p.isPrefixOf n := ⟨_, rfl⟩
        have HG := Lib.hid hg
        clear hg
        go_upto_region 8 with fail
        go_cut [36] (fun s wx => s = .bool g ∧ wx = wr)
        case first =>
          by_cases hle : p.length ≤ n.length
          · have h2 : (p.length : Int) ≤ (n.length : Int) := by omega
            go_wp2_with fail
            go_meet
            case rel => exact ⟨by rw [HG.out, ← pre_eq], rfl⟩
          · have h2 : ¬ (p.length : Int) ≤ (n.length : Int) := by omega
            have e : g = false := HG.out.trans (pre_long hle)
            subst e
            go_wp2_with fail
            go_meet
            case rel => exact ⟨rfl, rfl⟩
        case rest =>
          obtain ⟨rfl, hwc⟩ := hcut
          replace hwc := hwc.symm
          subst hwc
          cases g with
          | false =>
            go_wp2_with fail
            go_roundw
            case rel => exact ⟨k + 1, A', c', xs, by omega, by simp, rfl, by omega, by
              show _ = _
              rw [HT.out, List.map_append, List.filter_append, ← HX.out]
              show _ = xs ++ [fs[k].name].filter _
              rw [List.filter_cons_of_neg (by rw [← HN.out, ← HG.out]; decide), List.filter_nil, List.append_nil], ho, br⟩
            case measure => simp [Lib.intOf]; omega
          | true =>
            have hrd := Reads.new1 wr (encStr n) 9
            have d9 : Below wr.heap.size wr (wr.alloc (.cells #[encStr n] 9)) := (Below.refl _ _).alloc (Nat.le_refl _) _
            have b9 := br.trans (d9.mono br.size)
            have o9 := own_below ho d9
            go_wp2_with (at_builtin; refine wpList_appN w1.heap.size w1 _ rfl (.tmp 37) (.tmp 39) rfl A' xs c' rfl o9 (some ⟨wr.heap.size, 0, none⟩) n 1 _ rfl hrd (by omega) b9 (Nat.le_refl _) b9.size ?_; intro A8 c8 xs8 w8 H8 o8 b8)
            go_roundw
            case rel => exact ⟨k + 1, A8, c8, xs8, by omega, by simp, rfl, by rw [H8.out, List.length_append]; show xs.length + 1 ≤ _; omega, by
              show _ = _
              rw [HT.out, List.map_append, List.filter_append, ← HX.out]
              show _ = xs ++ [fs[k].name].filter _
              rw [List.filter_cons_of_pos (by rw [← HN.out, ← HG.out]), List.filter_nil, H8.out, HN.out], o8, b8⟩
            case measure => simp [Lib.intOf]; omega
      · obtain rfl : k = fs.length := by omega
        have HE : Hid (listR ⟨fs, room, armed, false⟩ p = xs) := by
          show _ = _
          rw [HX.out, List.take_length]
          rfl
        go_wp2_with fail
        go_ret
        rw [HE.out]
        exact ⟨A', c', rfl, own_mono ho dA.size, below_step dA br⟩
end Go.Proofs.Ytnhonjgclbmheaa
