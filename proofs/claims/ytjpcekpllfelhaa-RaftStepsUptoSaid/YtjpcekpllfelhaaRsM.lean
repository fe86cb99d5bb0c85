/- upToDate, proper. (Printed by wip/gen_rsm.py.) -/
import Derived.Test.YtjpcekpllfelhaaRsL
import Derived.Deep.QuietTactic
namespace Go.Proofs.Ytjpcekpllfelhaa
open Go.RowKit

theorem lastT_le {d : LNode} {w : World} {S : Nat → Prop} {A : Option Addr} (h : SlS EntE w S A d.log) (hb : GB d) : lastT d ≤ 18446744073709551615 := by
  unfold lastT termAt
  split
  · exact Nat.zero_le _
  · split
    · exact hb.bt
    · rename_i h1 h2
      have hk : lastN d - d.base - 1 < d.log.length := by unfold lastN at h1 h2 ⊢; omega
      obtain ⟨_, _, _, _, _, _, _, ht, _⟩ := EntE.at_ h hk
      show ((d.log.getD (lastN d - d.base - 1) default).term) ≤ _
      rw [List.getD_eq_getElem?_getD, List.getElem?_eq_getElem hk]
      exact ht
set_option maxRecDepth 100000 in
set_option maxHeartbeats 4000000 in
theorem up_any (g : Nat) (S : Nat → Prop) (E V M X : Value) (d : LNode) (A : Option Addr) (c : Nat) (m : LMsg) (w : World) (hN : NodeAt w g S E V M X d) (hb : GB d) :
    Calls Try.prog 35 #[.pointer (some ⟨g, 0, none⟩), .agg (msgC A c m)] w (fun en w' => en = .returned (.bool (upP d m)) ∧ Below w.heap.size w w') := by
  rw [show msgC A c m = #[.int .i64 m.kind, .int .i64 m.frm, .int .i64 m.dst, .int .u64 (m.term : Int), .int .u64 (m.index : Int), .int .u64 (m.logTerm : Int), .int .u64 (m.commit : Int), .slice A m.ents.length c, .bool m.ok, .slice none 0 0] from rfl]
  have km := Blk.new w 58 #[.int .i64 m.kind, .int .i64 m.frm, .int .i64 m.dst, .int .u64 (m.term : Int), .int .u64 (m.index : Int), .int .u64 (m.logTerm : Int), .int .u64 (m.commit : Int), .slice A m.ents.length c, .bool m.ok, .slice none 0 0]
  have b1 : Below w.heap.size w (w.alloc (.cells #[.int .i64 m.kind, .int .i64 m.frm, .int .i64 m.dst, .int .u64 (m.term : Int), .int .u64 (m.index : Int), .int .u64 (m.logTerm : Int), .int .u64 (m.commit : Int), .slice A m.ents.length c, .bool m.ok, .slice none 0 0] 58)) := (Below.refl _ _).alloc (Nat.le_refl _) _
  have N1 := hN.below b1
  clear hN
  go_enter Try.func35, Try.ntmps35
  go_upto_region 1 with fail
  change Code.wp _ _ _ _ (w.alloc (.cells #[.int .i64 m.kind, .int .i64 m.frm, .int .i64 m.dst, .int .u64 (m.term : Int), .int .u64 (m.index : Int), .int .u64 (m.logTerm : Int), .int .u64 (m.commit : Int), .slice A m.ents.length c, .bool m.ok, .slice none 0 0] 58))
  generalize (w.alloc (.cells #[.int .i64 m.kind, .int .i64 m.frm, .int .i64 m.dst, .int .u64 (m.term : Int), .int .u64 (m.index : Int), .int .u64 (m.logTerm : Int), .int .u64 (m.commit : Int), .slice A m.ents.length c, .bool m.ok, .slice none 0 0] 58)) = w1 at *
  obtain ⟨B, e, rfl⟩ := N1.log.shape
  have HQ1 := Lib.hid (fun n : Nat => lastterm_any g B e V M X Any d (w1.drewN n) (N1.blk.drewN n) ((N1.slS hb.len32).drewN n) hb.nb)
  have HQ2 := Lib.hid (fun n : Nat => last_any g B e V M X d (w1.drewN n) (N1.blk.drewN n) hb.nb)
  have s4 : w1.cell? ⟨w.heap.size, 4, none⟩ = some (.int .u64 (m.index : Int)) := km.cell 4
  have s5 : w1.cell? ⟨w.heap.size, 5, none⟩ = some (.int .u64 (m.logTerm : Int)) := km.cell 5
  clear km N1
  obtain ⟨x, hx⟩ : ∃ x, x = lastT d := ⟨_, rfl⟩
  obtain ⟨y, hy⟩ : ∃ y, y = lastN d := ⟨_, rfl⟩
  rw [← hx] at HQ1
  rw [← hy] at HQ2
  have HU : Hid (upP d m = (decide (x < m.logTerm) || (decide (m.logTerm = x) && decide (y ≤ m.index)))) := by show _ = _; rw [hx, hy]; rfl
  clear hx hy
  by_cases h1 : x < m.logTerm
  · have h1i : (x : Int) < (m.logTerm : Int) := by omega
    have HE : Hid (upP d m = true) := by show _ = _; rw [HU.out, decide_eq_true h1]; rfl
    clear HU h1
    go_quiet ((go_at_call 47; exact Calls.quiet_of (HQ1.out _)))
    go_wp2_with fail
    go_ret
    rw [HE.out]
    exact ⟨rfl, below_drewN b1 _⟩
  · have h1i : ¬ (x : Int) < (m.logTerm : Int) := by omega
    by_cases h2 : m.logTerm = x
    · have h2i : ((m.logTerm : Int) == (x : Int)) = true := by rw [beq_iff_eq]; omega
      by_cases h3 : y ≤ m.index
      · have h3i : (y : Int) ≤ (m.index : Int) := by omega
        have HE : Hid (upP d m = true) := by show _ = _; rw [HU.out, decide_eq_false h1, decide_eq_true h2, decide_eq_true h3]; rfl
        clear HU h1 h2 h3
        go_quiet ((first | (go_at_call 47; exact Calls.quiet_of (HQ1.out _)) | (go_at_call 16; exact Calls.quiet_of (HQ2.out _))))
        go_wp2_with fail
        go_ret
        rw [HE.out]
        exact ⟨rfl, below_drewN b1 _⟩
      · have h3i : ¬ (y : Int) ≤ (m.index : Int) := by omega
        have HE : Hid (upP d m = false) := by show _ = _; rw [HU.out, decide_eq_false h1, decide_eq_true h2, decide_eq_false h3]; rfl
        clear HU h1 h2 h3
        go_quiet ((first | (go_at_call 47; exact Calls.quiet_of (HQ1.out _)) | (go_at_call 16; exact Calls.quiet_of (HQ2.out _))))
        go_wp2_with fail
        go_ret
        rw [HE.out]
        exact ⟨rfl, below_drewN b1 _⟩
    · have h2i : ((m.logTerm : Int) == (x : Int)) = false := by rw [beq_eq_false_iff_ne]; omega
      have HE : Hid (upP d m = false) := by show _ = _; rw [HU.out, decide_eq_false h1, decide_eq_false h2]; rfl
      clear HU h1 h2
      go_quiet ((go_at_call 47; exact Calls.quiet_of (HQ1.out _)))
      go_wp2_with fail
      go_ret
      rw [HE.out]
      exact ⟨rfl, below_drewN b1 _⟩
set_option maxRecDepth 100000 in
set_option maxHeartbeats 4000000 in
theorem proper_any (g : Nat) (S T : Nat → Prop) (E V M X : Value) (d : LNode) (A : Option Addr) (c : Nat) (m : LMsg) (w : World) (hN : NodeAt w g S E V M X d) (hM : MsgAt w T A c m) (hl : m.ents.length ≤ 1048576) :
    Calls Try.prog 34 #[.pointer (some ⟨g, 0, none⟩), .agg (msgC A c m)] w (fun en w' => en = .returned (.bool (properP d m)) ∧ Below w.heap.size w w') := by
  rw [show msgC A c m = #[.int .i64 m.kind, .int .i64 m.frm, .int .i64 m.dst, .int .u64 (m.term : Int), .int .u64 (m.index : Int), .int .u64 (m.logTerm : Int), .int .u64 (m.commit : Int), .slice A m.ents.length c, .bool m.ok, .slice none 0 0] from rfl]
  have km := Blk.new w 58 #[.int .i64 m.kind, .int .i64 m.frm, .int .i64 m.dst, .int .u64 (m.term : Int), .int .u64 (m.index : Int), .int .u64 (m.logTerm : Int), .int .u64 (m.commit : Int), .slice A m.ents.length c, .bool m.ok, .slice none 0 0]
  have b1 : Below w.heap.size w (w.alloc (.cells #[.int .i64 m.kind, .int .i64 m.frm, .int .i64 m.dst, .int .u64 (m.term : Int), .int .u64 (m.index : Int), .int .u64 (m.logTerm : Int), .int .u64 (m.commit : Int), .slice A m.ents.length c, .bool m.ok, .slice none 0 0] 58)) := (Below.refl _ _).alloc (Nat.le_refl _) _
  have N1 := hN.below b1
  have M1 := hM.below b1
  clear hN hM
  go_enter Try.func34, Try.ntmps34
  go_upto_region 1 with fail
  change Code.wp _ _ _ _ (w.alloc (.cells #[.int .i64 m.kind, .int .i64 m.frm, .int .i64 m.dst, .int .u64 (m.term : Int), .int .u64 (m.index : Int), .int .u64 (m.logTerm : Int), .int .u64 (m.commit : Int), .slice A m.ents.length c, .bool m.ok, .slice none 0 0] 58))
  generalize (w.alloc (.cells #[.int .i64 m.kind, .int .i64 m.frm, .int .i64 m.dst, .int .u64 (m.term : Int), .int .u64 (m.index : Int), .int .u64 (m.logTerm : Int), .int .u64 (m.commit : Int), .slice A m.ents.length c, .bool m.ok, .slice none 0 0] 58)) = w1 at *
  have s0 : w1.cell? ⟨w.heap.size, 0, none⟩ = some (.int .i64 m.kind) := km.cell 0
  have s1 : w1.cell? ⟨w.heap.size, 1, none⟩ = some (.int .i64 m.frm) := km.cell 1
  have s2 : w1.cell? ⟨w.heap.size, 2, none⟩ = some (.int .i64 m.dst) := km.cell 2
  have n5 : w1.cell? ⟨g, 5, none⟩ = some (.int .i64 (d.id : Int)) := N1.blk.cell 5
  have n6 : w1.cell? ⟨g, 6, none⟩ = some (.int .i64 (d.n : Int)) := N1.blk.cell 6
  have HP : Hid (properP d m = if m.frm < 0 ∨ (d.n : Int) ≤ m.frm ∨ m.dst ≠ d.id ∨ m.frm = d.id ∨ m.kind < 1 ∨ 7 < m.kind then false else risingP m.ents 0 m.term && decide (m.index ≤ 4611686018427387904) && decide (m.term ≤ 4611686018427387904)) := rfl
  by_cases h0 : m.frm < 0
  · have HE : Hid (properP d m = false) := by show _ = _; rw [HP.out, if_pos (by omega)]
    clear HP
    go_quiet (fail)
    go_wp2_with fail
    go_ret
    rw [HE.out]
    exact ⟨rfl, below_drewN b1 _⟩
  · have hi0 : ¬ (m.frm < 0) := h0
    by_cases h1 : (d.n : Int) ≤ m.frm
    · have HE : Hid (properP d m = false) := by show _ = _; rw [HP.out, if_pos (by omega)]
      clear HP
      go_quiet (fail)
      go_wp2_with fail
      go_ret
      rw [HE.out]
      exact ⟨rfl, below_drewN b1 _⟩
    · have hi1 : ¬ ((d.n : Int) ≤ m.frm) := h1
      by_cases h2 : m.dst ≠ d.id
      · have hi2 : (m.dst != (d.id : Int)) = true := by rw [bne_iff_ne]; exact h2
        have G2 := Lib.hid h2
        clear h2
        have HE : Hid (properP d m = false) := by show _ = _; rw [HP.out, if_pos (by have := G2.out; omega)]
        clear HP
        go_quiet (fail)
        go_wp2_with fail
        go_ret
        rw [HE.out]
        exact ⟨rfl, below_drewN b1 _⟩
      · have hi2 : (m.dst != (d.id : Int)) = false := by rw [bne_eq_false_iff_eq]; omega
        have G2 := Lib.hid h2
        clear h2
        by_cases h3 : m.frm = d.id
        · have hi3 : (m.frm == (d.id : Int)) = true := by rw [beq_iff_eq]; exact h3
          have G3 := Lib.hid h3
          clear h3
          have HE : Hid (properP d m = false) := by show _ = _; rw [HP.out, if_pos (by have := G2.out; have := G3.out; omega)]
          clear HP
          go_quiet (fail)
          go_wp2_with fail
          go_ret
          rw [HE.out]
          exact ⟨rfl, below_drewN b1 _⟩
        · have hi3 : (m.frm == (d.id : Int)) = false := by rw [beq_eq_false_iff_ne]; omega
          have G3 := Lib.hid h3
          clear h3
          by_cases h4 : m.kind < 1
          · have HE : Hid (properP d m = false) := by show _ = _; rw [HP.out, if_pos (by omega)]
            clear HP
            go_quiet (fail)
            go_wp2_with fail
            go_ret
            rw [HE.out]
            exact ⟨rfl, below_drewN b1 _⟩
          · have hi4 : ¬ (m.kind < 1) := h4
            by_cases h5 : 7 < m.kind
            · have HE : Hid (properP d m = false) := by show _ = _; rw [HP.out, if_pos (by omega)]
              clear HP
              go_quiet (fail)
              go_wp2_with fail
              go_ret
              rw [HE.out]
              exact ⟨rfl, below_drewN b1 _⟩
            · have hi5 : ¬ (7 < m.kind) := h5
              have HE : Hid (properP d m = (risingP m.ents 0 m.term && decide (m.index ≤ 4611686018427387904) && decide (m.term ≤ 4611686018427387904))) := by show _ = _; rw [HP.out, if_neg (by have := G2.out; have := G3.out; omega)]
              clear HP
              have s3 : w1.cell? ⟨w.heap.size, 3, none⟩ = some (.int .u64 (m.term : Int)) := km.cell 3
              have s4 : w1.cell? ⟨w.heap.size, 4, none⟩ = some (.int .u64 (m.index : Int)) := km.cell 4
              have s7 : w1.cell? ⟨w.heap.size, 7, none⟩ = some (.slice A m.ents.length c) := km.cell 7
              go_quiet (fail)
              obtain ⟨q, hq⟩ : ∃ q, q = w1.drewN nq := ⟨_, rfl⟩
              go_upto_region 3 with fail
              have T := rising_any A m.ents c T 0 m.term (w1.drewN nq) (M1.ents.drewN nq) (by omega)
              have b2 : Below w.heap.size w (w1.drewN nq) := below_drewN b1 _
              have km2 := km.drewN nq
              clear s0 s1 s2 n5 n6 s3 s4 s7 N1 M1 b1 km hq
              generalize w1.drewN nq = w2 at *
              have s3 : w2.cell? ⟨w.heap.size, 3, none⟩ = some (.int .u64 (m.term : Int)) := km2.cell 3
              have s7 : w2.cell? ⟨w.heap.size, 7, none⟩ = some (.slice A m.ents.length c) := km2.cell 7
              obtain ⟨r, hr⟩ : ∃ r, r = risingP m.ents 0 m.term := ⟨_, rfl⟩
              rw [← hr] at T HE
              clear hr
              replace T : Calls Try.prog 26 #[.slice A m.ents.length c, .int .u64 0, .int .u64 (m.term : Int)] w2 _ := T
              go_wp2_with fail
              refine T.mono ?_
              clear T s3 s7
              rintro en w3 ⟨rfl, b3⟩
              have b03 := below_step b2 b3
              have km3 := km2.below b3 km2.lt
              have s3 : w3.cell? ⟨w.heap.size, 3, none⟩ = some (.int .u64 (m.term : Int)) := km3.cell 3
              have s4 : w3.cell? ⟨w.heap.size, 4, none⟩ = some (.int .u64 (m.index : Int)) := km3.cell 4
              clear b2 b3 km2 km3
              cases r with
              | false =>
                go_wp2_with fail
                go_ret
                rw [HE.out]
                exact ⟨rfl, b03⟩
              | true =>
                by_cases hx : m.index ≤ 4611686018427387904
                · have hxi : (m.index : Int) ≤ 4611686018427387904 := by omega
                  have HE2 : Hid (properP d m = decide (m.term ≤ 4611686018427387904)) := by show _ = _; rw [HE.out, decide_eq_true hx]; rfl
                  clear HE hx
                  go_wp2_with fail
                  go_ret
                  rw [HE2.out]
                  exact ⟨ret_bool (by rw [decide_eq_decide]; omega), b03⟩
                · have hxi : ¬ (m.index : Int) ≤ 4611686018427387904 := by omega
                  have HE2 : Hid (properP d m = false) := by show _ = _; rw [HE.out, decide_eq_false hx]; rfl
                  clear HE hx
                  go_wp2_with fail
                  go_ret
                  rw [HE2.out]
                  exact ⟨rfl, b03⟩
end Go.Proofs.Ytjpcekpllfelhaa
