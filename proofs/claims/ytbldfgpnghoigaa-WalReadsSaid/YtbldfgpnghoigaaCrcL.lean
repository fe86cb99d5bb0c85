/- crc.OpenAll. -/
import Derived.Test.YtbldfgpnghoigaaCrcO
namespace Go.Proofs.Ytbldfgpnghoigaa
open Go.RowKit

theorem Sep.rowO {t : TypeId} {b b' size n : Nat} {w w' : World} {v : Value} {xs : List Value} {rs : List R3} (h : Sep b w rs) (hg : w.grownBy w' v.ownBlock) (ho : w.ownsRow b' t size v n xs) (ht : t ≠ 5) : Sep b w' rs :=
  h.kept hg fun r hr g he he2 => by
    rcases own_own_ne ho (h.1 r hr) ht with h1 | h1
    · rw [h1] at he2; cases he2
    · exact h1 (he2.trans he.symm)
section
variable {w' : World}
theorem wpList_appRN (b : Nat) (w0 w : World) {ops : Array Oper} {rest : List Oper} {o : Oper} {a : Act} {Q : Exit → Act → World → Prop} (hgd : o.guard = none) (s x : Operand)
    (ho : o.op = .call { callee := .builtin .append, args := #[s, x], argTypes := #[27, 27] })
    (A : Option Addr) (rs : List R3) (c : Nat) (hs : a.eval s = .slice A rs.length c) (hown : RowsIs b w A c rs)
    (B : Option Addr) (ys : List R3) (d : Nat) (hx : a.eval x = .slice B ys.length d) (Bd : Nat) (hr : Reads w Bd 1 B ys.length (ys.map R3.v)) (hl : rs.length + ys.length ≤ 1000000) (hb : Below w0.heap.size w0 w) (hb0 : w0.heap.size ≤ b) (hbw : b ≤ w.heap.size)
    (h : ∀ A' c' rs' w', Hid (rs' = rs ++ ys) → RowsIs b w' A' c' rs' → Below w0.heap.size w0 w' → w.grownBy w' (Value.slice A rs.length c).ownBlock → wpList Try.prog ops Q rest (a.put o.dst (.slice A' rs'.length c')) w') : wpList Try.prog ops Q (o :: rest) a w := by
  obtain ⟨i0, hi0, hz0, hz1, hz2⟩ := info_parts Try.infoBs
  refine wpList_append_sh w hgd s x _ ho b 40 i0 _ 1 24 Try.underlying27 hi0 hz0 hz1 hz2 rfl (by omega) _ _ _ hs hown Bd B ys.length d (ys.map R3.v) hx hr (fun u hu => by obtain ⟨r, _, rfl⟩ := List.mem_map.1 hu; rfl) (by simp only [maxLen]; omega) (by omega) hbw ?_
  intro A' c' w' o' g' _
  have e : rs.length + ys.length = (rs ++ ys).length := by rw [List.length_append]
  rw [e, ← List.map_append] at o'
  rw [e]
  exact h A' c' (rs ++ ys) w' rfl o' (hb.grown g' hb.size fun j hj => by have := (World.ownsRow.lt hown j hj).1; omega) g'
end
/-- records answered, in rows of their own -/
def RetRecs (r : List (List UInt8) × Nat) (w : World) (en : Ending) (w' : World) : Prop :=
  ∃ A c, ∃ rs : List R3, en = .returned (.tuple #[.slice A rs.length c, .int .i64 (r.2 : Int)]) ∧ RowsIs w.heap.size w' A c rs ∧ Sep w.heap.size w' rs ∧ rs.map (·.2.1) = r.1 ∧ Below w.heap.size w w'
set_option maxRecDepth 100000 in
set_option maxHeartbeats 2000000 in
theorem openall_any (A : Option Addr) (l : List UInt8) (c : Nat) (w : World) (h : Bs w A l) (hc : l.length ≤ c ∧ c ≤ 9223372036854775807) (hn : (openAllL sumN l).1.length ≤ 99999) :
    Calls Try.prog 61 #[.slice A l.length c] w (RetRecs (openAllL sumN l) w) := by
  have hll := h.le
  obtain ⟨Z, hZ⟩ : ∃ Z, Z = openAllL sumN l := ⟨_, rfl⟩
  rw [← hZ] at hn ⊢
  have HZ := Lib.hid hZ
  clear hZ
  go_enter Try.func61, Try.ntmps61
  go_wp2_with fail
  go_loopw [4, 5, 6, 7, 8] (fun v4 v5 _ _ _ wr => ∃ (i : Nat) (A' : Option Addr) (c' : Nat) (rs : List R3), i ≤ l.length ∧ v4 = .slice A' rs.length c' ∧ v5 = .int .i64 (i : Int) ∧ Hid (Z = (rs.map (·.2.1) ++ (openAllL sumN (l.drop i)).1, i + (openAllL sumN (l.drop i)).2)) ∧ RowsIs w.heap.size wr A' c' rs ∧ Sep w.heap.size wr rs ∧ Below w.heap.size w wr) (fun _ v5 _ _ _ _ => l.length - (intOf v5).toNat)
  case atStart => exact ⟨0, none, 0, [], Nat.zero_le _, rfl, rfl, by show _ = _; rw [HZ.out]; simp, World.ownsRow_nil _ _ _ _, Sep.nil_ _ _, Below.refl _ _⟩
  case round =>
    obtain ⟨i, A', c', rs, hi, rfl, rfl, HX, hR, hS, br⟩ := hrel
    have hfin : ∀ (e : openAllL sumN (l.drop i) = ([], 0)), Z = (rs.map (·.2.1), i) := fun e => by rw [HX.out, e]; simp
    have hfin := Lib.hid hfin
    by_cases hlt : i < l.length
    · have hlti : (i : Int) < (l.length : Int) := by omega
      have T := open_any A l c i wr (h.below br) hc hi
      go_wp2_with fail
      refine T.mono ?_
      clear T
      rintro en w2 ⟨b2, hres⟩
      cases ho : open1 sumN (l.drop i) with
      | none =>
        rw [ho] at hres
        obtain ⟨e, he, rfl⟩ := hres
        have HE := Lib.hid (hfin.out (openAll_none sumN ho))
        have hei : (e != 0) = true := by rw [bne_iff_ne]; exact he
        have hR2 : RowsIs w.heap.size w2 A' c' rs := own_below hR b2
        have hS2 := hS.below b2
        have b02 := below_step' br b2
        clear HX hfin ho he
        go_wp2_with fail
        go_ret2
        rw [HE.out]
        exact ⟨A', c', rs, rfl, hR2, hS2, rfl, b02⟩
      | some q =>
        obtain ⟨p, n⟩ := q
        rw [ho] at hres
        obtain ⟨A3, c3, rfl, o3⟩ := hres
        have hop := open1_le sumN ho
        rw [List.length_drop] at hop
        have HY : Hid (Z = ((rs ++ [(A3, p, c3)]).map (·.2.1) ++ (openAllL sumN (l.drop (i + n))).1, (i + n) + (openAllL sumN (l.drop (i + n))).2)) := by
          show _ = _
          rw [HX.out, openAll_some sumN ho, List.drop_drop]
          simp [Nat.add_assoc]
        have hcnt : rs.length + 1 ≤ 1000000 := by
          have e := HY.out
          rw [e] at hn
          simp only [List.length_append, List.length_map, List.length_cons, List.length_nil] at hn
          omega
        have hR2 : RowsIs w.heap.size w2 A' c' rs := own_below hR b2
        have hS2 := hS.more b2 (Sep.one o3) br.size
        have b02 := below_step' br b2
        have d3 : Below w2.heap.size w2 (w2.alloc (.cells #[.slice A3 p.length c3] 40)) := (Below.refl _ _).alloc (Nat.le_refl _) _
        have hR3 : RowsIs w.heap.size (w2.alloc (.cells #[.slice A3 p.length c3] 40)) A' c' rs := own_below hR2 d3
        have hS3 := hS2.below d3
        have b03 := below_step' b02 d3
        have hrN := Reads.newK w2 [.slice A3 p.length c3] 40
        clear HX hfin ho hR hS o3 hR2 hS2 b2 d3
        go_wp2_with (at_builtin; refine wpList_appRN w.heap.size w _ rfl (.tmp 22) (.tmp 24) rfl A' rs c' rfl hR3 _ [(A3, p, c3)] 1 rfl _ hrN hcnt b03 (Nat.le_refl _) b03.size ?_; intro A8 c8 rs8 w8 H8 o8 b8 g8)
        have hS8 := hS3.rowO g8 hR3 (by decide)
        go_roundw
        case rel => exact ⟨i + n, A8, c8, rs8, by omega, rfl, by simp, by show _ = _; rw [H8.out]; exact HY.out, o8, by rw [H8.out]; exact hS8, b8⟩
        case measure => simp [intOf]; omega
    · obtain rfl : i = l.length := by omega
      have HE := Lib.hid (hfin.out (openAll_short sumN (by rw [List.drop_length]; decide)))
      clear HX hfin
      go_wp2_with fail
      go_ret2
      rw [HE.out]
      exact ⟨A', c', rs, rfl, hR, hS, rfl, br⟩
end Go.Proofs.Ytbldfgpnghoigaa
