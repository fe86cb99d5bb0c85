/- Reading a file of the disk: Read. -/
import Derived.Test.YtbldfgpnghoigaaDskA
namespace Go.Proofs.Ytbldfgpnghoigaa
open Go.RowKit
open Go.Maps

/-- what is read under a name, and the error -/
def readL (dead : Bool) (fs : List DF) (nm : List UInt8) : List UInt8 × Int :=
  if dead then ([], 9) else match fs.find? (fun q => q.name == nm) with | some q => (q.data, 0) | none => ([], 6)
def RetRead (r : List UInt8 × Int) (w : World) (en : Ending) (w' : World) : Prop :=
  ∃ A c, en = .returned (.tuple #[.slice A r.1.length c, .int .i64 r.2]) ∧ OwnB w.heap.size w' A r.1 c ∧ Below w.heap.size w w'
theorem readL_some {fs : List DF} {q : DF} (h : (fs.map DF.name).Nodup) (hq : q ∈ fs) : readL false fs q.name = (q.data, 0) := by
  unfold readL
  rw [if_neg (show ¬ (false = true) by decide)]
  have : fs.find? (fun r => r.name == q.name) = some q := by
    induction fs with
    | nil => cases hq
    | cons x r ih =>
      rw [List.map_cons, List.nodup_cons] at h
      rcases List.mem_cons.1 hq with rfl | hq
      · rw [List.find?_cons_of_pos (by simp)]
      · have hne : x.name ≠ q.name := fun e => h.1 (by rw [e]; exact List.mem_map_of_mem hq)
        rw [List.find?_cons_of_neg (by simp [hne])]
        exact ih h.2 hq
  rw [this]
theorem readL_none {fs : List DF} {nm : List UInt8} (h : nm ∉ fs.map DF.name) : readL false fs nm = ([], 6) := by
  unfold readL
  rw [if_neg (show ¬ (false = true) by decide)]
  have : fs.find? (fun r => r.name == nm) = none := by
    rw [List.find?_eq_none]
    intro x hx e
    rw [beq_iff_eq] at e
    exact h (by rw [← e]; exact List.mem_map_of_mem hx)
  rw [this]
theorem field_data (x : Option Addr) (n c : Nat) (y : Int) (w : World) : (Instr.field 92 (.agg #[.slice x n c, .int .i64 y]) 0).run Try.prog w = .ok (.slice x n c) w := by kernel_rfl
set_option maxRecDepth 100000 in
set_option maxHeartbeats 2000000 in
theorem read_any (d : LDisk) (mv : Value) (b : Nat) (fs : List DF) (S : Nat → Prop) (nm : List UInt8) (w : World) (hk : Blk w b 72 (diskC mv d)) (hf : FilesAt w mv fs) (hr : Rows_ w S fs) (hn : nm.length ≤ 140737488355328) :
    Calls Try.prog 17 #[.pointer (some ⟨b, 0, none⟩), .string ⟨nm.toArray⟩] w (RetRead (readL d.dead fs nm) w) := by
  have law : Keyed Try.prog 9 := string_keyed Try.underlying9
  have hkey := key_lit nm hn
  obtain ⟨room, armed, left, dead⟩ := d
  have y4 : w.cell? ⟨b, 4, none⟩ = some (.bool dead) := hk.cell 4
  cases dead with
  | true =>
    go_enter Try.func17, Try.ntmps17
    go_wp2_with fail
    go_ret2
    exact ⟨none, 0, rfl, OwnB.nil_ _ _, Below.refl _ _⟩
  | false =>
    have T := there_any ⟨room, armed, left, false⟩ mv b fs nm w hk hf hn
    by_cases hm : nm ∈ fs.map DF.name
    · rw [if_pos hm] at T
      rcases hf with ⟨_, rfl⟩ | ⟨mb, D, rfl, hown, hD⟩
      · cases hm
      rcases hD.look nm with ⟨q, hq, rfl, ha, hh⟩ | ⟨hm2, _, _⟩
      · obtain ⟨hb, _⟩ := hr q hq
        have HE := Lib.hid (readL_some hD.2.1 hq)
        go_enter Try.func17, Try.ntmps17
        go_wp2_with fail
        refine T.mono ?_
        clear T
        rintro en w1 ⟨rfl, b1⟩
        have y0 := (hk.below b1 hk.lt).cell 0
        replace y0 : w1.cell? ⟨b, 0, none⟩ = some (.map (some mb)) := y0
        have hown1 : w1.ownsMap Try.prog 9 rawR mb fs.length D := by
          obtain ⟨es, c, h1, h2⟩ := hown
          exact ⟨es, c, (b1.block mb (by rcases Nat.lt_or_ge mb w.heap.size with h5 | h5; exact h5; rw [Array.getElem?_eq_none h5] at h1; cases h1)).trans h1, h2⟩
        have hb1 := hb.below b1
        clear y4
        have hfd := field_data q.A q.data.length q.c (q.safe : Int) w1
        go_wp2_with (at_lookup; refine wpList_look _ rfl _ _ 70 rfl 9 92 law Try.underlying70 zF (zeroF _) mb fs.length D rfl hown1 _ _ rfl hkey (.agg #[.slice q.A q.data.length q.c, .int .i64 (q.safe : Int)]) ha ?_)
        refine (bclone_any q.A q.data q.c w1 hb1).mono ?_
        rintro en w2 ⟨A, c, rfl, oA, b2⟩
        go_wp2_with fail
        go_ret2
        show RetRead (readL false fs q.name) w _ _
        rw [HE.out]
        exact ⟨A, c, rfl, OwnB.base oA b1.size, b1.trans (b2.mono b1.size)⟩
      · exact absurd hm hm2
    · rw [if_neg hm] at T
      have HE := Lib.hid (readL_none hm)
      go_enter Try.func17, Try.ntmps17
      go_wp2_with fail
      refine T.mono ?_
      rintro en w1 ⟨rfl, b1⟩
      go_wp2_with fail
      go_ret2
      show RetRead (readL false fs nm) w _ _
      rw [HE.out]
      exact ⟨none, 0, rfl, OwnB.nil_ _ _, b1⟩
end Go.Proofs.Ytbldfgpnghoigaa
