/- Arm and Sync. -/
import Derived.Test.YtbldfgpnghoigaaDskW
namespace Go.Proofs.Ytbldfgpnghoigaa
open Go.RowKit
open Go.Maps

set_option maxRecDepth 100000 in
set_option maxHeartbeats 2000000 in
theorem arm_any (d : LDisk) (mv : Value) (b : Nat) (n : Int) (w : World) (hk : Blk w b 72 (diskC mv d)) :
    Calls Try.prog 33 #[.pointer (some ⟨b, 0, none⟩), .int .i64 n] w (fun en w' => en = .returned (.tuple #[]) ∧ Blk w' b 72 (diskC mv { d with armed := decide (0 ≤ n), left := n }) ∧ w.grownBy w' (some b)) := by
  have y2 : w.cell? ⟨b, 2, none⟩ = some (.bool d.armed) := hk.cell 2
  have y3 : w.cell? ⟨b, 3, none⟩ = some (.int .i64 d.left) := hk.cell 3
  have f2 : w.frozen? ⟨b, 2, none⟩ = false := hk.frozen 2
  have f3 : w.frozen? ⟨b, 3, none⟩ = false := hk.frozen 3
  have k1 : Blk (w.setCell ⟨b, 2, none⟩ (.bool (decide (0 ≤ n)))) b 72 (diskC mv { d with armed := decide (0 ≤ n) }) := hk.set_ 2 _
  have y13 : (w.setCell ⟨b, 2, none⟩ (.bool (decide (0 ≤ n)))).cell? ⟨b, 3, none⟩ = some (.int .i64 d.left) := k1.cell 3
  have f13 : (w.setCell ⟨b, 2, none⟩ (.bool (decide (0 ≤ n)))).frozen? ⟨b, 3, none⟩ = false := k1.frozen 3
  have k2 : Blk ((w.setCell ⟨b, 2, none⟩ (.bool (decide (0 ≤ n)))).setCell ⟨b, 3, none⟩ (.int .i64 n)) b 72 (diskC mv { d with armed := decide (0 ≤ n), left := n }) := k1.set_ 3 _
  have g2 : w.grownBy ((w.setCell ⟨b, 2, none⟩ (.bool (decide (0 ≤ n)))).setCell ⟨b, 3, none⟩ (.int .i64 n)) (some b) := only_setCell (only_setCell (World.grownBy.refl _ _) (p := ⟨b, 2, none⟩) (.inl rfl) _) (p := ⟨b, 3, none⟩) (.inl rfl) _
  clear k1
  go_enter Try.func33, Try.ntmps33
  go_wp2_with fail
  exact bodyEnd0 rfl rfl ⟨rfl, k2, g2⟩
theorem OldF.caps {fs : List DF} {nm : List UInt8} {A : Option Addr} {data : List UInt8} {c safe : Nat} {w : World} {S : Nat → Prop} (h : OldF fs nm A data c safe) (hr : Rows_ w S fs) : data.length ≤ c ∧ c ≤ 9223372036854775807 := by
  rcases h with ⟨q, hq, rfl, rfl, rfl, rfl, rfl⟩ | ⟨hm, rfl, rfl, rfl, rfl⟩
  · exact ⟨(hr q hq).2.2.1, (hr q hq).2.2.2.1⟩
  · exact ⟨Nat.le_refl _, by decide⟩
/-- sync: the error, the disk, the files -/
def syncP (d : LDisk) (fs : List PFile) (nm : List UInt8) : Int × LDisk × List PFile :=
  let r := turnL d (if hasP fs nm then 0 else 6)
  if r.1 then (r.2.1, r.2.2, putP fs (nm, (getP fs nm).1, (getP fs nm).1.length)) else (r.2.1, r.2.2, fs)
set_option maxRecDepth 100000 in
set_option maxHeartbeats 2000000 in
theorem sync_any (d : LDisk) (mv : Value) (b : Nat) (fs : List DF) (S : Nat → Prop) (nm : List UInt8) (w : World)
    (hd : Disk_ w b S mv d fs) (hn : nm.length ≤ 140737488355328) (hsz : fs.length ≤ 1048576) (hl : d.armed = true → 0 ≤ d.left ∧ d.left ≤ 9223372036854775807) :
    Calls Try.prog 55 #[.pointer (some ⟨b, 0, none⟩), .string ⟨nm.toArray⟩] w (RetD b S mv (syncP d (fs.map DF.p) nm) w) := by
  obtain ⟨hk, hf, hr, hbm, hS⟩ := hd
  have hnd := hf.nodup
  have lb := hk.lt
  have T := there_any d mv b fs nm w hk hf hn
  have hP2 : syncP d (fs.map DF.p) nm = (if (turnL d (if nm ∈ fs.map DF.name then 0 else 6)).1 then ((turnL d (if nm ∈ fs.map DF.name then 0 else 6)).2.1, (turnL d (if nm ∈ fs.map DF.name then 0 else 6)).2.2, putP (fs.map DF.p) (nm, (getP (fs.map DF.p) nm).1, (getP (fs.map DF.p) nm).1.length)) else ((turnL d (if nm ∈ fs.map DF.name then 0 else 6)).2.1, (turnL d (if nm ∈ fs.map DF.name then 0 else 6)).2.2, fs.map DF.p)) := by
    have e : (if hasP (fs.map DF.p) nm then (0 : Int) else 6) = if nm ∈ fs.map DF.name then 0 else 6 := by simp only [hasP_map]
    unfold syncP
    rw [e]
  generalize (if nm ∈ fs.map DF.name then (0 : Int) else 6) = e0 at T hP2
  have HP := Lib.hid hP2
  clear hP2
  go_enter Try.func55, Try.ntmps55
  go_wp2_with fail
  refine T.mono ?_
  clear T
  rintro en w1 ⟨rfl, b01⟩
  have k1 := hk.below b01 hk.lt
  go_wp2_with fail
  refine (turn_any d mv b e0 w1 k1 hl).mono ?_
  generalize turnL d e0 = r at HP ⊢
  obtain ⟨ok, er, d2⟩ := r
  rintro en w2 ⟨rfl, k2, g2⟩
  have eq2 : ∀ g, g < w.heap.size → g ≠ b → w2.heap[g]? = w.heap[g]? := fun g h1 h2 => (g2.block g (Nat.lt_of_lt_of_le h1 b01.size) (fun e => h2 (Option.some.inj e))).trans (b01.block g h1)
  have hf2 : FilesAt w2 mv fs := hf.same fun g h1 h2 => eq2 g h1 (fun e => hbm (by rw [h2, e]))
  have s2 : w.heap.size ≤ w2.heap.size := Nat.le_trans b01.size g2.size
  have hr2 : Rows_ w2 S fs := hr.same ⟨s2, fun g h1 h2 => eq2 g h2 (hS g h1).2.1⟩
  have D2 : DKept b mv w w2 := ⟨s2, fun g h1 h2 _ => eq2 g h1 h2, (OTO.of_below b01).trans (OTO.of_grown g2)⟩
  clear eq2 g2 b01 k1 hf hr hk
  dsimp only at HP k2 ⊢
  cases ok with
  | false =>
    go_wp2_with fail
    go_ret
    rw [HP.out]
    exact ⟨rfl, mv, S, fs, ⟨k2, hf2, hr2, hbm, fun g h => ⟨Nat.lt_of_lt_of_le (hS g h).1 s2, (hS g h).2⟩⟩, rfl, fun g h => .inl h, .inl rfl, D2⟩
  | true =>
    have y20 : w2.cell? ⟨b, 0, none⟩ = some mv := k2.cell 0
    go_upto_region 4 with (at_lookup; refine wpList_lookF rfl _ _ rfl mv fs rfl hf2 nm hn rfl ?_; intro A data c safe hold)
    obtain ⟨hb, hat, hsafe⟩ := hold.row hr2
    have hcp := hold.caps hr2
    have hget := hold.get hnd
    have hble := hb.le
    have d3 : Below w2.heap.size w2 (w2.alloc (.cells #[.slice A data.length c, .int .i64 (safe : Int)] 92)) := (Below.refl _ _).alloc (Nat.le_refl _) _
    have k3 := k2.below d3 k2.lt
    have kq := Blk.new w2 92 #[.slice A data.length c, .int .i64 (safe : Int)]
    clear y20 hold
    generalize (w2.alloc (.cells #[.slice A data.length c, .int .i64 (safe : Int)] 92)) = w3 at *
    have z0 : w3.cell? ⟨w2.heap.size, 0, none⟩ = some (.slice A data.length c) := kq.cell 0
    have z1 : w3.cell? ⟨w2.heap.size, 1, none⟩ = some (.int .i64 (safe : Int)) := kq.cell 1
    have f1 : w3.frozen? ⟨w2.heap.size, 1, none⟩ = false := kq.frozen 1
    go_upto_region 5 with fail
    have z3 := d3.size
    have l2 := kq.lt
    have k2l := k2.lt
    have g6 : w3.grownBy (w3.setCell ⟨w2.heap.size, 1, none⟩ (.int .i64 (data.length : Int))) (some w2.heap.size) := only_setCell (World.grownBy.refl _ _) (p := ⟨w2.heap.size, 1, none⟩) (.inl rfl) _
    have kq6 : Blk (w3.setCell ⟨w2.heap.size, 1, none⟩ (.int .i64 (data.length : Int))) w2.heap.size 92 #[.slice A data.length c, .int .i64 (data.length : Int)] := kq.set_ 1 (.int .i64 (data.length : Int))
    have k6 := k3.grown g6 (fun e => by have := Option.some.inj e; omega)
    have eq6 : ∀ g, g < w2.heap.size → (w3.setCell ⟨w2.heap.size, 1, none⟩ (.int .i64 (data.length : Int))).heap[g]? = w2.heap[g]? := fun g h => (g6.block g (by omega) (fun e => by have := Option.some.inj e; omega)).trans (d3.block g h)
    have z6 := g6.size
    have o26 : OTO w2 (w3.setCell ⟨w2.heap.size, 1, none⟩ (.int .i64 (data.length : Int))) := (OTO.of_below d3).trans (OTO.of_grown g6)
    clear z0 z1 f1 kq k3 d3 g6
    generalize (w3.setCell ⟨w2.heap.size, 1, none⟩ (.int .i64 (data.length : Int))) = w6 at *
    have hf6 : FilesAt w6 mv fs := hf2.same fun g h _ => eq6 g h
    have y60 : w6.cell? ⟨w2.heap.size, 0, none⟩ = some (.slice A data.length c) := kq6.cell 0
    have y61 : w6.cell? ⟨w2.heap.size, 1, none⟩ = some (.int .i64 (data.length : Int)) := kq6.cell 1
    go_wp2_with fail
    refine (put_any d2 mv b fs ⟨nm, A, data, c, data.length⟩ w6 k6 hf6 hbm hn hsz).mono ?_
    rintro en w7 ⟨rfl, mv', k7, hf7, ⟨mb, rfl, hmb⟩, D7⟩
    clear y60 y61
    go_wp2_with fail
    go_ret
    rw [HP.out, if_pos trivial, hget]
    have hlt : ∀ g, mv = .map (some g) → g < w2.heap.size := fun g e => hf2.lt e
    have hmb2 : (mv = .map (some mb) ∧ mb < w2.heap.size) ∨ (mv = .map none ∧ w6.heap.size ≤ mb) := hmb.imp (fun e => ⟨e, hlt mb e⟩) id
    have s7 : w2.heap.size ≤ w7.heap.size := by have := D7.1; omega
    have D27 : DKept b mv w2 w7 := ⟨s7, fun g h1 h2 h3 => (D7.2 g (by omega) h2 h3).trans (eq6 g h1), o26.trans D7.3⟩
    refine ⟨rfl, .map (some mb), S, putF fs ⟨nm, A, data, c, data.length⟩, ⟨k7, hf7, ?_, ?_, ?_⟩, ?_, fun g h => .inl h, ?_, DKept.trans D2 D27 (.inl rfl)⟩
    · intro q hq
      rcases List.mem_cons.1 hq with rfl | hq
      · exact ⟨hb.sameS hat ⟨s7, fun g h4 h5 => D27.2 g h5 (hS g h4).2.1 (hS g h4).2.2⟩, hat, hcp.1, hcp.2, Nat.le_refl _⟩
      · obtain ⟨h1, h2, h3⟩ := hr2 q (mem_delF.1 hq).1
        exact ⟨h1.sameS h2 ⟨s7, fun g h4 h5 => D27.2 g h5 (hS g h4).2.1 (hS g h4).2.2⟩, h2, h3⟩
    · intro e
      injection e with e
      have e := Option.some.inj e
      rcases hmb2 with ⟨h, _⟩ | ⟨_, h⟩
      · exact hbm (by rw [h, e])
      · omega
    · intro g h
      obtain ⟨h1, h2, h3⟩ := hS g h
      refine ⟨by have := D2.1; omega, h2, fun e => ?_⟩
      injection e with e
      have e := Option.some.inj e
      rcases hmb2 with ⟨h4, _⟩ | ⟨_, h4⟩
      · exact h3 (by rw [h4, e])
      · have := D2.1; omega
    · exact putP_map _ _
    · rcases hmb2 with ⟨h, _⟩ | ⟨_, h⟩
      · exact .inl h.symm
      · exact .inr ⟨mb, rfl, by have := D2.1; omega⟩
end Go.Proofs.Ytbldfgpnghoigaa
