/- Remove. -/
import Derived.Test.YtbldfgpnghoigaaDskV
namespace Go.Proofs.Ytbldfgpnghoigaa
open Go.RowKit
open Go.Maps

theorem turn_in {d : LDisk} {e0 : Int} {p : Prop} [Decidable p] (h : e0 = (if p then 0 else 6)) (ht : (turnL d e0).1 = true) : p := by
  by_cases hp : p
  · exact hp
  · rw [if_neg hp] at h
    subst h
    unfold turnL at ht
    split at ht
    · cases ht
    · rw [if_pos (by decide)] at ht
      cases ht
/-- remove: the error, the disk, the files -/
def removeP (d : LDisk) (fs : List PFile) (nm : List UInt8) : Int × LDisk × List PFile :=
  let r := turnL d (if hasP fs nm then 0 else 6)
  if r.1 then (r.2.1, r.2.2, delP fs nm) else (r.2.1, r.2.2, fs)
set_option maxRecDepth 100000 in
set_option maxHeartbeats 2000000 in
theorem remove_any (d : LDisk) (mv : Value) (b : Nat) (fs : List DF) (S : Nat → Prop) (nm : List UInt8) (w : World)
    (hd : Disk_ w b S mv d fs) (hn : nm.length ≤ 140737488355328) (hsz : fs.length ≤ 1048576) (hl : d.armed = true → 0 ≤ d.left ∧ d.left ≤ 9223372036854775807) :
    Calls Try.prog 56 #[.pointer (some ⟨b, 0, none⟩), .string ⟨nm.toArray⟩] w (RetD b S mv (removeP d (fs.map DF.p) nm) w) := by
  obtain ⟨hk, hf, hr, hbm, hS⟩ := hd
  have hnd := hf.nodup
  have lb := hk.lt
  have T := there_any d mv b fs nm w hk hf hn
  have hP2 : removeP d (fs.map DF.p) nm = (if (turnL d (if nm ∈ fs.map DF.name then 0 else 6)).1 then ((turnL d (if nm ∈ fs.map DF.name then 0 else 6)).2.1, (turnL d (if nm ∈ fs.map DF.name then 0 else 6)).2.2, delP (fs.map DF.p) nm) else ((turnL d (if nm ∈ fs.map DF.name then 0 else 6)).2.1, (turnL d (if nm ∈ fs.map DF.name then 0 else 6)).2.2, fs.map DF.p)) := by
    have e : (if hasP (fs.map DF.p) nm then (0 : Int) else 6) = if nm ∈ fs.map DF.name then 0 else 6 := by simp only [hasP_map]
    unfold removeP
    rw [e]
  obtain ⟨e0, he0⟩ : ∃ e0 : Int, e0 = (if nm ∈ fs.map DF.name then (0 : Int) else 6) := ⟨_, rfl⟩
  rw [← he0] at T hP2
  have hin : (turnL d e0).1 = true → nm ∈ fs.map DF.name := turn_in he0
  have HI := Lib.hid hin
  clear hin he0
  have HP := Lib.hid hP2
  clear hP2
  go_enter Try.func56, Try.ntmps56
  go_wp2_with fail
  refine T.mono ?_
  clear T
  rintro en w1 ⟨rfl, b01⟩
  have k1 := hk.below b01 hk.lt
  go_wp2_with fail
  refine (turn_any d mv b e0 w1 k1 hl).mono ?_
  generalize turnL d e0 = r at HP HI ⊢
  obtain ⟨ok, er, d2⟩ := r
  rintro en w2 ⟨rfl, k2, g2⟩
  have eq2 : ∀ g, g < w.heap.size → g ≠ b → w2.heap[g]? = w.heap[g]? := fun g h1 h2 => (g2.block g (Nat.lt_of_lt_of_le h1 b01.size) (fun e => h2 (Option.some.inj e))).trans (b01.block g h1)
  have hf2 : FilesAt w2 mv fs := hf.same fun g h1 h2 => eq2 g h1 (fun e => hbm (by rw [h2, e]))
  have s2 : w.heap.size ≤ w2.heap.size := Nat.le_trans b01.size g2.size
  have hr2 : Rows_ w2 S fs := hr.same ⟨s2, fun g h1 h2 => eq2 g h2 (hS g h1).2.1⟩
  have D2 : DKept b mv w w2 := ⟨s2, fun g h1 h2 _ => eq2 g h1 h2, (OTO.of_below b01).trans (OTO.of_grown g2)⟩
  clear eq2 g2 b01 k1 hf hr hk
  dsimp only at HP HI k2 ⊢
  cases ok with
  | false =>
    go_wp2_with fail
    go_ret
    rw [HP.out]
    exact ⟨rfl, mv, S, fs, ⟨k2, hf2, hr2, hbm, fun g h => ⟨Nat.lt_of_lt_of_le (hS g h).1 s2, (hS g h).2⟩⟩, rfl, fun g h => .inl h, .inl rfl, D2⟩
  | true =>
    have hmem := HI.out rfl
    rcases hf2 with ⟨_, rfl⟩ | ⟨mb, D, rfl, hown, hD⟩
    · cases hmem
    have law : Keyed Try.prog 9 := string_keyed Try.underlying9
    have hkey := key_lit nm hn
    have hT := hown.tidy law
    have hbmb : b ≠ mb := fun e => hbm (by rw [e])
    have y20 : w2.cell? ⟨b, 0, none⟩ = some (.map (some mb)) := k2.cell 0
    have hD9 := hD.del hT nm
    go_upto_region 4 with (at_delete; refine wpList_delete_own _ rfl _ _ 70 9 rfl 92 law Try.underlying70 rawR mb fs.length D rfl hown _ (.string nm) rfl hkey ?_; intro w9 hown9 hturn)
    have hg9 := hturn.grown
    have k9 := k2.grown hg9 (fun e => hbmb (Option.some.inj e))
    have ho9 := ownsMap_tight hown9
    rw [hD9.2.2.2.2] at ho9
    have D29 : DKept b (.map (some mb)) w2 w9 := ⟨hg9.size, fun g h1 h2 h3 => hg9.block g h1 (fun e => h3 (by rw [Option.some.inj e])), OTO.of_grown hg9⟩
    clear y20
    go_wp2_with fail
    go_ret
    rw [HP.out, if_pos trivial]
    refine ⟨rfl, .map (some mb), S, delF fs nm, ⟨k9, .inr ⟨mb, _, rfl, ho9, hD9⟩, ?_, hbm, fun g h => ⟨by have := D2.1; have := D29.1; have := (hS g h).1; omega, (hS g h).2⟩⟩, delP_map _ _, fun g h => .inl h, .inl rfl, DKept.trans D2 D29 (.inl rfl)⟩
    intro q hq
    obtain ⟨h1, h2, h3⟩ := hr2 q (mem_delF.1 hq).1
    exact ⟨h1.sameS h2 (D29.same fun g h => (hS g h).2), h2, h3⟩
end Go.Proofs.Ytbldfgpnghoigaa
