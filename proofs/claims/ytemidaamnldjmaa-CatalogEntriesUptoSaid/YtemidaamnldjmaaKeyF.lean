/- Under which key an entry is kept: catalog.Key. A number as a value: catalog.number. The deferred closure of catalog.Decode: behind a panic, and behind a return. -/
import Derived.Test.YtemidaamnldjmaaOrdA
import Derived.Test.YtemidaamnldjmaaWordC
import Derived.Test.YtemidaamnldjmaaEncC
import Derived.Defers
import Derived.Recover
namespace Go.Proofs.Ytemidaamnldjmaa
open Go.RowKit

theorem number_any (n : Int) (w : World) : Calls Try.prog 29 #[.int .i64 n] w fun en w' => en = .returned (.iface 2 (.int .i64 n)) ∧ w' = w := by
  go_enter Try.func29, Try.ntmps29
  go_wp2_with fail
  go_ret
  exact ⟨rfl, rfl⟩
theorem ownB_litK (w : World) (l : List UInt8) (hl : l.length ≤ 140737488355328) : OwnB w.heap.size (w.alloc (.cells (l.map bval).toArray 5)) (some ⟨w.heap.size, 0, none⟩) l l.length := by
  have := own_of_blk (base := w.heap.size) (xs := l.map bval) (Blk.new w 5 (l.map bval).toArray) (Nat.le_refl _) (by rw [List.length_map]; simp only [maxLen]; omega)
  rw [List.length_map] at this
  exact this
set_option maxRecDepth 100000 in
set_option maxHeartbeats 1000000 in
theorem key_any (s : ByteArray) (w : World) (hs : s.size ≤ 17592186044416) : Calls Try.prog 17 #[.string s] w fun en w' => ∃ A c, en = .returned (.slice A (99 :: ordT (strL s)).length c) ∧ Bs w' A (99 :: ordT (strL s)) ∧ Below w.heap.size w w' := by
  have o0 : OwnB w.heap.size (w.alloc (.cells #[.int .u8 99] 5)) (some ⟨w.heap.size, 0, none⟩) [99] 1 := ownB_litK w [99] (by simp)
  have b0 : Below w.heap.size w (w.alloc (.cells #[.int .u8 99] 5)) := (Below.refl _ _).alloc (Nat.le_refl _) _
  obtain ⟨D, c, W, hcv, hbs, hbel⟩ := str_conv s (by omega) (w.alloc (.cells #[.int .u8 99] 5))
  have b1 := b0.trans (hbel.mono b0.size)
  have o1 := o0.below hbel
  have hsl := strL_len s
  go_enter Try.func17, Try.ntmps17
  go_wp2_with fail
  refine (ordtext_any D (strL s) c W hbs (by omega)).mono ?_
  rintro en w2 ⟨A2, c2, rfl, o2, b2⟩
  have hol := ordT_len (strL s)
  have bs2 : Bs w2 A2 (ordT (strL s)) := Bs.of_own o2 (by omega)
  have bw2 := b1.trans (b2.mono b1.size)
  have o12 := o1.below b2
  have z2 := bw2.size
  clear o2 b2 o1 b1 o0 b0 hbel hbs hcv
  go_wp2_with (at_builtin; refine wpList_app w.heap.size w _ rfl (.tmp 3) (.tmp 6) rfl (some ⟨w.heap.size, 0, none⟩) [99] 1 rfl o12 A2 (ordT (strL s)) c2 rfl bs2 (by rw [List.length_singleton]; omega) bw2 (Nat.le_refl _) z2 ?_; intro A9 c9 acc9 w9 H9 o9 b9 g9 t9)
  go_ret
  have hE : acc9 = 99 :: ordT (strL s) := H9.out
  have hb9 := o9.bs (by rw [hE, List.length_cons]; omega)
  rw [hE] at hb9
  exact ⟨A9, c9, by rw [hE]; rfl, hb9, b9⟩
theorem Try.size_EntryK : (Try.prog.info? 33).map (·.size) = some 6 := by kernel_rfl
/-- behind a panic the answer is laid anew -/
theorem catch_panics (p q : Nat) (ce : Array Value) (e0 : Value) (u : TypeId) (pv : Value) (older : List PanicEntry) (w : World) (hp : Blk w p 33 ce) (hcs : ce.size = 6) (hq : Blk w q 34 #[e0]) (hne : p ≠ q) :
    CallsD Try.prog 27 #[.pointer (some ⟨p, 0, none⟩), .pointer (some ⟨q, 0, none⟩)] (.panicking ({ v := .iface u pv, recovered := false } :: older)) w fun e u' w' =>
      e = .returned (.tuple #[]) ∧ u' = .panicking ({ v := .iface u pv, recovered := true } :: older) ∧ Blk w' p 33 #[.int .i64 0, .string ⟨#[]⟩, .slice none 0 0, .int .i64 0, .slice none 0 0, .slice none 0 0] ∧ Blk w' q 34 #[.int .i64 3] ∧ ∃ w1, w.grownBy w1 (some p) ∧ w1.grownBy w' (some q) := by
  refine callsD_of_wpS Try.func27 rfl fun c₀ cs hu => ?_
  apply wpS_seq
  apply wpS_region
  simp [wpOpsS, go_sem, recoverD, hu, Try.ntmps27, Exit.thenS]
  refine wpS_cond (t := true) (by simp [Act.eval, Array.replicate]) ?_
  simp only [if_true]
  refine wpS_of_wp ?_
  simp only [Array.replicate]
  go_wp2_with ((with_reducible refine wpList_store_blk rfl 33 (.tmp 0) (.tmp 4) rfl p 33 ce #[.int .i64 0, .string ⟨#[]⟩, .slice none 0 0, .int .i64 0, .slice none 0 0, .slice none 0 0] ?_ ?_ hp Try.size_EntryK ?_ ?_ ?_ ?_); rfl; rfl; exact hcs; rfl; (simp [Value.oneCell']); intro w9 k9 g9 z9; have hq9 := hq.grown g9 (by intro e; exact hne (Option.some.inj e).symm); have qc : w9.cell? ⟨q, 0, none⟩ = some e0 := hq9.cell 0; have qf := hq9.frozen 0)
  have h1 := k9.far (p := ⟨q, 0, none⟩) hne (.int .i64 3)
  have h2 : Blk (w9.setCell ⟨q, 0, none⟩ (.int .i64 3)) q 34 #[.int .i64 3] := hq9.set_ 0 (.int .i64 3)
  have h3 : ∃ w1, w.grownBy w1 (some p) ∧ w1.grownBy (w9.setCell ⟨q, 0, none⟩ (.int .i64 3)) (some q) := ⟨w9, g9, only_setCell (World.grownBy.refl w9 _) (p := ⟨q, 0, none⟩) (.inl rfl) _⟩
  simp [bodyPostS, results, Try.results27, h1, h2, h3]
theorem catch_none (p q : Addr) (w : World) :
    CallsD Try.prog 27 #[.pointer (some p), .pointer (some q)] .returning w fun e u' w' => e = .returned (.tuple #[]) ∧ u' = .returning ∧ w' = w := by
  refine callsD_of_wpS Try.func27 rfl fun c₀ cs hu => ?_
  apply wpS_seq
  apply wpS_region
  simp [wpOpsS, go_sem, recoverD, hu, Try.ntmps27, Exit.thenS]
  refine wpS_cond (t := false) (by simp [Act.eval, Array.replicate]) ?_
  simp only [Bool.false_eq_true, if_false]
  refine wpS_of_wp (wp_skip ?_)
  cases c₀
  simp_all [bodyPostS, results, Try.results27]
end Go.Proofs.Ytemidaamnldjmaa
