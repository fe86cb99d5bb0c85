/- The document's entry made of the program's: caissonlaw21.Told (the cursors' rows are shared). -/
import Derived.Test.YtemidaamnldjmaaEntry
namespace Go.Proofs.Ytemidaamnldjmaa
open Go.RowKit

/-- the answer written out: the columns and indexes are the argument's own rows -/
def RetTold (id keys : Int) (tn : ByteArray) (A B : Option Addr) (ca cb : Nat) (cols : List LCol) (ixs : List LIx) (sts : List LSt) (w : World) (en : Ending) (w' : World) : Prop :=
  ∃ S1 c3, en = .returned (.agg #[.int .i64 id, .string tn, .slice A cols.length ca, .int .i64 keys, .slice B ixs.length cb, .slice S1 sts.length c3]) ∧
    Sl StE w' S1 sts ∧ Below w.heap.size w w'
theorem StE.atT {w : World} {A : Option Addr} {S : Nat → Prop} {l : List LSt} (h : SlS StE w S A l) {k : Nat} (hk : k < l.length) :
    ∃ ad C c, A = some ad ∧ ad.block < w.heap.size ∧ w.cell? (ad.add (k * 2)) = some (.int .i64 l[k].phase) ∧ w.cell? ⟨(ad.add (k * 2)).block, (ad.add (k * 2)).off + 1, none⟩ = some (.slice C l[k].cur.length c) ∧ StE.rep w S [.int .i64 l[k].phase, .slice C l[k].cur.length c] l[k] := by
  obtain ⟨ad, vs, rfl, hb, ⟨C, c, rfl, h1, h2, h3⟩, h4, _, h5⟩ := SlS.at_ h hk
  exact ⟨ad, C, c, rfl, hb, h4 _ rfl, h5 1 _ (by omega) rfl, C, c, rfl, h1, h2, h3⟩
theorem Try.size_REntryT : (Try.prog.info? 28).map (·.size) = some 6 := by kernel_rfl
theorem Try.infoRStateT : (Try.prog.info? 62).map (fun i => (i.zero, i.size, i.bytes)) = some (some (.agg #[.int .i64 0, .slice none 0 0]), 2, 32) := by kernel_rfl

set_option maxRecDepth 100000 in
set_option maxHeartbeats 4000000 in
theorem told_any (id keys : Int) (tn : ByteArray) (A B S : Option Addr) (ca cb cs : Nat) (cols : List LCol) (ixs : List LIx) (sts : List LSt) (w : World) (hS : Sl StE w S sts) :
    Calls Try.prog 14 #[.agg #[.int .i64 id, .string tn, .slice A cols.length ca, .int .i64 keys, .slice B ixs.length cb, .slice S sts.length cs]] w (RetTold id keys tn A B ca cb cols ixs sts w) := by
  obtain ⟨i3, hi3, hs0, hs1, hs2⟩ := info_parts Try.infoRStateT
  have b3 : Below w.heap.size w (((w.alloc (.cells #[.int .i64 id, .string tn, .slice A cols.length ca, .int .i64 keys, .slice B ixs.length cb, .slice S sts.length cs] 33)).alloc (.cells #[.int .i64 0, .string ⟨#[]⟩, .slice none 0 0, .int .i64 0, .slice none 0 0, .slice none 0 0] 28)).alloc (.cells #[.int .i64 id, .string tn, .slice A cols.length ca, .int .i64 keys, .slice B ixs.length cb, .slice none 0 0] 28)) := (((Below.refl _ _).alloc (Nat.le_refl _) _).alloc (by simp) _).alloc (by simp; omega) _
  have ke := ((Blk.new w 33 #[.int .i64 id, .string tn, .slice A cols.length ca, .int .i64 keys, .slice B ixs.length cb, .slice S sts.length cs]).alloc (.cells #[.int .i64 0, .string ⟨#[]⟩, .slice none 0 0, .int .i64 0, .slice none 0 0, .slice none 0 0] 28)).alloc (.cells #[.int .i64 id, .string tn, .slice A cols.length ca, .int .i64 keys, .slice B ixs.length cb, .slice none 0 0] 28)
  have kz := (Blk.new (w.alloc (.cells #[.int .i64 id, .string tn, .slice A cols.length ca, .int .i64 keys, .slice B ixs.length cb, .slice S sts.length cs] 33)) 28 #[.int .i64 0, .string ⟨#[]⟩, .slice none 0 0, .int .i64 0, .slice none 0 0, .slice none 0 0]).alloc (.cells #[.int .i64 id, .string tn, .slice A cols.length ca, .int .i64 keys, .slice B ixs.length cb, .slice none 0 0] 28)
  have kG := Blk.new ((w.alloc (.cells #[.int .i64 id, .string tn, .slice A cols.length ca, .int .i64 keys, .slice B ixs.length cb, .slice S sts.length cs] 33)).alloc (.cells #[.int .i64 0, .string ⟨#[]⟩, .slice none 0 0, .int .i64 0, .slice none 0 0, .slice none 0 0] 28)) 28 #[.int .i64 id, .string tn, .slice A cols.length ca, .int .i64 keys, .slice B ixs.length cb, .slice none 0 0]
  rw [show (w.alloc (.cells #[.int .i64 id, .string tn, .slice A cols.length ca, .int .i64 keys, .slice B ixs.length cb, .slice S sts.length cs] 33)).heap.size = w.heap.size + 1 by simp] at kz
  rw [show ((w.alloc (.cells #[.int .i64 id, .string tn, .slice A cols.length ca, .int .i64 keys, .slice B ixs.length cb, .slice S sts.length cs] 33)).alloc (.cells #[.int .i64 0, .string ⟨#[]⟩, .slice none 0 0, .int .i64 0, .slice none 0 0, .slice none 0 0] 28)).heap.size = w.heap.size + 2 by simp] at kG
  have z3 : w.heap.size + 3 ≤ (((w.alloc (.cells #[.int .i64 id, .string tn, .slice A cols.length ca, .int .i64 keys, .slice B ixs.length cb, .slice S sts.length cs] 33)).alloc (.cells #[.int .i64 0, .string ⟨#[]⟩, .slice none 0 0, .int .i64 0, .slice none 0 0, .slice none 0 0] 28)).alloc (.cells #[.int .i64 id, .string tn, .slice A cols.length ca, .int .i64 keys, .slice B ixs.length cb, .slice none 0 0] 28)).heap.size := by simp
  have hSl := hS.leb
  go_enter Try.func14, Try.ntmps14
  go_upto_region 2 with fail
  generalize (((w.alloc (.cells #[.int .i64 id, .string tn, .slice A cols.length ca, .int .i64 keys, .slice B ixs.length cb, .slice S sts.length cs] 33)).alloc (.cells #[.int .i64 0, .string ⟨#[]⟩, .slice none 0 0, .int .i64 0, .slice none 0 0, .slice none 0 0] 28)).alloc (.cells #[.int .i64 id, .string tn, .slice A cols.length ca, .int .i64 keys, .slice B ixs.length cb, .slice none 0 0] 28)) = V0 at *
  have e5 : V0.cell? ⟨w.heap.size, 5, none⟩ = some (.slice S sts.length cs) := ke.cell 5
  go_wp2_with fail
  go_loopw [5, 12] (fun _ i wr => ∃ (k : Nat) (S1 : Option Addr) (c3 : Nat), k ≤ sts.length ∧ i = .int .i64 k ∧ Blk wr (w.heap.size + 2) 28 #[.int .i64 id, .string tn, .slice A cols.length ca, .int .i64 keys, .slice B ixs.length cb, .slice S1 k c3] ∧
      Own StE 62 wr (w.heap.size + 3) (fun b => b < w.heap.size) (.slice S1 k c3) (sts.take k) ∧
      Blk wr (w.heap.size + 1) 28 #[.int .i64 0, .string ⟨#[]⟩, .slice none 0 0, .int .i64 0, .slice none 0 0, .slice none 0 0] ∧ w.heap.size + 3 ≤ wr.heap.size ∧ Below w.heap.size w wr) (fun _ i _ => sts.length - (intOf i).toNat)
  case atStart => exact ⟨0, none, 0, Nat.zero_le _, rfl, kG, by simpa using Own.nil_ StE _ _ _ _, kz, z3, b3⟩
  case round =>
    obtain ⟨k, S1, c3, hk, rfl, kGr, oSr, kzr, z3r, br⟩ := hrel
    have zr := br.size
    have lGr := kGr.lt
    clear ke kz kG b3 e5 z3
    by_cases hlt : k < sts.length
    · have hSr := hS.old.below br
      obtain ⟨ad, C, c, rfl, h1, h2, h3, hrep⟩ := StE.atT hSr hlt
      have kX := Blk.new wr 57 #[.int .i64 sts[k].phase, .slice C sts[k].cur.length c]
      have da : Below wr.heap.size wr (wr.alloc (.cells #[.int .i64 sts[k].phase, .slice C sts[k].cur.length c] 57)) := (Below.refl _ _).alloc (Nat.le_refl _) _
      have kGX := kGr.below da lGr
      have kzX := kzr.below da kzr.lt
      have oSX := oSr.below da
      have rX := StE.keep hrep (.of_below da)
      have bX := br.trans (da.mono zr)
      have zX : w.heap.size + 3 ≤ (wr.alloc (.cells #[.int .i64 sts[k].phase, .slice C sts[k].cur.length c] 57)).heap.size := by simp; omega
      go_upto_region 5 with fail
      clear kGr kzr oSr br da zr lGr h1 h2 h3 hrep hSr z3r
      generalize (wr.alloc (.cells #[.int .i64 sts[k].phase, .slice C sts[k].cur.length c] 57)) = X at *
      obtain ⟨vsS, hoS, hfS⟩ := oSX
      have hlt3 : (sts.take k).length = k := by rw [List.length_take, Nat.min_eq_left (by omega)]
      rw [hlt3] at hoS
      have hSlt : ∀ b, (Value.slice S1 k c3).ownBlock = some b → w.heap.size + 3 ≤ b ∧ b < X.heap.size := fun b e => hoS.lt b e
      have lGX := kGX.lt
      have lXX := kX.lt
      have q5 : X.cell? ⟨w.heap.size + 2, 5, none⟩ = some (.slice S1 k c3) := kGX.cell 5
      have p0 : X.cell? ⟨wr.heap.size, 0, none⟩ = some (.int .i64 sts[k].phase) := kX.cell 0
      have p1 : X.cell? ⟨wr.heap.size, 1, none⟩ = some (.slice C sts[k].cur.length c) := kX.cell 1
      have hm1 : k + 1 ≤ maxLen := by simp only [StE] at hSl; simp only [maxLen]; omega
      have hm2 : (k + 1) * 32 ≤ 140737488355328 := by simp only [StE] at hSl; omega
      have dA : Below X.heap.size X (X.alloc (.cells #[.int .i64 sts[k].phase, .slice C sts[k].cur.length c] 62)) := (Below.refl _ _).alloc (Nat.le_refl _) _
      have hRd : Reads (X.alloc (.cells #[.int .i64 sts[k].phase, .slice C sts[k].cur.length c] 62)) (X.heap.size + 1) 2 (some ⟨X.heap.size, 0, none⟩) 1 [.int .i64 sts[k].phase, .slice C sts[k].cur.length c] := Reads.newN X [.int .i64 sts[k].phase, .slice C sts[k].cur.length c] 62
      have hone := StE.one rX
      have hoS' : (X.alloc (.cells #[.int .i64 sts[k].phase, .slice C sts[k].cur.length c] 62)).ownsRow (w.heap.size + 3) 62 2 (.slice S1 k c3) k vsS := hoS.alloc _
      have hbas : w.heap.size + 3 ≤ (X.alloc (.cells #[.int .i64 sts[k].phase, .slice C sts[k].cur.length c] 62)).heap.size := by simp; omega
      have nlow : ∀ b, b < w.heap.size + 3 → some b ≠ (Value.slice S1 k c3).ownBlock := fun b hb e => by have := (hSlt b e.symm).1; omega
      have kGa := kGX.below dA lGX
      go_upto_region 6 with (at_builtin; (refine wpList_append_sh _ rfl (.tmp 17) (.tmp 23) _ rfl (w.heap.size + 3) 62 i3 _ 2 32 Try.underlying26 hi3 hs0 hs1 hs2 rfl (by omega) _ k vsS rfl hoS' (X.heap.size + 1) _ 1 1 [.int .i64 sts[k].phase, .slice C sts[k].cur.length c] rfl hRd hone hm1 hm2 hbas ?_); intro S9 cS w7 hown7 hg7 hat7; have kG7 := kGa.grown hg7 (nlow _ (by omega)); have q57 : w7.cell? ⟨w.heap.size + 2, 5, none⟩ = some (.slice S1 k c3) := kG7.cell 5; have f57 := kG7.frozen 5)
      have kz7 := (kzX.below dA kzX.lt).grown hg7 (nlow _ (by omega))
      have oS7 : Own StE 62 w7 (w.heap.size + 3) (fun b => b < w.heap.size) (.slice S9 (k + 1) cS) (sts.take k ++ [sts[k]]) :=
        Own.step (S := fun b => b < w.heap.size) (ER.flat_keep dA hfS) (StE.mono (StE.keep rX (.of_below dA)) (fun b _ hb => ⟨hb, fun e2 => by have := (hSlt _ e2).1; omega⟩)) (by rw [hlt3]; exact hown7) hg7 hat7
      have oS8 := oS7.setCell (p := ⟨w.heap.size + 2, 5, none⟩) (fun e => by have := (oS7.lt _ e).1; simp only at this; omega) (fun h => by simp only at h; omega) (.slice S9 (k + 1) cS)
      have b7 := ((bX.trans (dA.mono bX.size)).grown hg7 (bX.trans (dA.mono bX.size)).size (fun j hj => by have := (hSlt j hj).1; omega)).setCell (p := ⟨w.heap.size + 2, 5, none⟩) (by simp) (.slice S9 (k + 1) cS)
      have hz9 : w.heap.size + 3 ≤ (w7.setCell ⟨w.heap.size + 2, 5, none⟩ (.slice S9 (k + 1) cS)).heap.size := by
        have h1 := hg7.size
        have h3 : (w7.setCell ⟨w.heap.size + 2, 5, none⟩ (.slice S9 (k + 1) cS)).heap.size = w7.heap.size := by simp [World.setCell]
        rw [h3]
        omega
      clear q5 p0 p1 q57 f57
      go_wp2_with fail
      go_roundw
      case rel =>
        refine ⟨k + 1, S9, cS, by omega, by go_num, kG7.set_ 5 _, ?_, kz7.far (by simp) _, hz9, b7⟩
        rw [List.take_succ_eq_append_getElem hlt]
        exact oS8
      case measure => simp [intOf]; omega
    · obtain rfl : k = sts.length := by omega
      rw [List.take_of_length_le (Nat.le_refl _)] at oSr
      have hfin : ∀ W', wr.grownBy W' (some (w.heap.size + 1)) → RetTold id keys tn A B ca cb cols ixs sts w (.returned (.agg #[.int .i64 id, .string tn, .slice A cols.length ca, .int .i64 keys, .slice B ixs.length cb, .slice S1 sts.length c3])) W' := by
        intro W' hG6
        have hs : Same (fun b => b < w.heap.size ∨ w.heap.size + 3 ≤ b) wr W' := .of_grown hG6 (fun b hb e => by have := Option.some.inj e; omega)
        exact ⟨S1, c3, rfl, ((Own.slS (S' := fun b => b < w.heap.size ∨ w.heap.size + 3 ≤ b) oSr rfl hSl (fun _ h => .inl h) (fun _ h => .inr h)).same hs).any, br.grown hG6 br.size (fun j hj => by have := Option.some.inj hj; omega)⟩
      have HFIN := Lib.hid hfin
      clear hfin oSr br
      go_wp2_with (first
        | ((with_reducible refine wpList_load_blk rfl 28 (.tmp 3) rfl (w.heap.size + 2) ?_ 28 _ _ kGr Try.underlying28 ?_ Try.size_REntryT ?_ ?_); rfl; rfl; rfl)
        | ((with_reducible refine wpList_store_blk rfl 28 (.tmp 2) (.tmp 27) rfl (w.heap.size + 1) 28 _ #[.int .i64 id, .string tn, .slice A cols.length ca, .int .i64 keys, .slice B ixs.length cb, .slice S1 sts.length c3] ?_ ?_ kzr Try.size_REntryT ?_ ?_ ?_ ?_); rfl; rfl; rfl; rfl; (simp [Value.oneCell']); intro w9 kz9 g9 z9))
      exact bodyPost_ret (results_cell rfl rfl kz9 Try.underlying28 rfl Try.size_REntryT) rfl (HFIN.out _ g9)

end Go.Proofs.Ytemidaamnldjmaa
