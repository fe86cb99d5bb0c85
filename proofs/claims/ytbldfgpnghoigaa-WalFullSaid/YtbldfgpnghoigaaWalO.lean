/- wal.Open on a disk that is alive. -/
import Derived.Test.YtbldfgpnghoigaaWalR
namespace Go.Proofs.Ytbldfgpnghoigaa
open Go.RowKit

theorem deadD_any {w : World} {b : Nat} {F : Nat → Prop} {d : LDisk} {ps : List PFile} (hd : DD w b F d ps) : Calls Try.prog 36 #[.pointer (some ⟨b, 0, none⟩)] w (fun en w' => en = .returned (.bool d.dead) ∧ w' = w) := by
  obtain ⟨mv, S, fs, h1, rfl, h3⟩ := hd
  have c4 : w.cell? ⟨b, 4, none⟩ = some (.bool d.dead) := h1.1.cell 4
  clear h1 h3
  go_enter Try.func36, Try.ntmps36
  go_wp2_with fail
  go_ret
  exact ⟨rfl, rfl⟩
/-- what Open answers -/
def RetOpn (F : Nat → Prop) (r : Int × LDisk × List PFile × LLog × List Nat × List (List UInt8)) (w : World) (en : Ending) (w' : World) : Prop :=
  ∃ g A c rs, en = .returned (.tuple #[.pointer (some ⟨g, 0, none⟩), .slice A (List.length (α := R3) rs) c, .int .i64 0]) ∧ w.heap.size ≤ g ∧ RowsIs w.heap.size w' A c rs ∧ Sep w.heap.size w' rs ∧ rs.map (·.2.1) = r.2.2.2.2.2 ∧ LD w' g (fun x => (F x ∧ x < w.heap.size) ∨ RowsB A c rs x) r.2.2.2.1 r.2.2.2.2.1 r.2.1 r.2.2.1 ∧ BlP F w w'
/-- the first log on a disk -/
abbrev log0 (b : Nat) (pre : List UInt8) (most : Int) : LLog := ⟨b, pre, most, 0, 0, false⟩
set_option maxRecDepth 100000 in
set_option maxHeartbeats 4000000 in
theorem open_bad (b : Nat) (pre : List UInt8) (most : Int) (hm : most < 1) (w : World) : Calls Try.prog 10 #[.pointer (some ⟨b, 0, none⟩), .string ⟨pre.toArray⟩, .int .i64 most] w (fun en w' => en = .returned (.tuple #[.pointer none, .slice none 0 0, .int .i64 1]) ∧ w' = w) := by
  go_enter Try.func10, Try.ntmps10
  go_wp2_with fail
  go_ret3
  exact ⟨rfl, rfl⟩
set_option maxRecDepth 100000 in
set_option maxHeartbeats 4000000 in
theorem open_log (b : Nat) (F : Nat → Prop) (d : LDisk) (ps : List PFile) (w : World) (hd : DD w b F d ps) (hp : PsOk ps) (hl : LdOk d) (hdd : d.dead = false) (pre : List UInt8) (most : Int) (hm : ¬ most < 1) (hpl : pre.length ≤ 1048576)
    (ha : ∀ nm ∈ listP d ps pre, ∀ b ∈ nm, b.toNat < 128) (hll : (listP d ps pre).length ≤ 1048576) (hrd : ∀ n ∈ foundW (listP d ps pre) pre, readP d ps (nameW pre n) = ((getP ps (nameW pre n)).1, 0))
    (hbn : ∀ n ∈ foundW (listP d ps pre) pre, n ≤ 1099511627776 ∧ (getP ps (nameW pre n)).1.length ≤ 1099511627776) (hal : (foundW (listP d ps pre) pre).length ≤ 1048575)
    (hsum : ((foundW (listP d ps pre) pre).map fun n => (openAllL sumN (getP ps (nameW pre n)).1).1.length).sum ≤ 99999)
    (h0 : (repW pre (foundW (listP d ps pre) pre) d ps (foundW (listP d ps pre) pre) 0 (log0 b pre most) [] []).1 = 0) :
    Calls Try.prog 10 #[.pointer (some ⟨b, 0, none⟩), .string ⟨pre.toArray⟩, .int .i64 most] w (RetOpn F (repW pre (foundW (listP d ps pre) pre) d ps (foundW (listP d ps pre) pre) 0 (log0 b pre most) [] []) w) := by
  have TD := deadD_any hd
  rw [hdd] at TD
  have TR := Lib.hid (fun (wz : World) (g : Nat) (G : Nat → Prop) (hk : Blk wz g 77 (logC (.slice none 0 0) (log0 b pre most))) (hdz : DD wz b (fun x => G x ∨ x = g) d ps) (hG : ¬ G g) => replay_log g G (log0 b pre most) d ps wz hk hdz hG hp hl hpl ha hll hrd hbn hal hsum)
  replace TR : Hid (∀ (wz : World) (g : Nat) (G : Nat → Prop) (_ : Blk wz g 77 (logC (.slice none 0 0) (log0 b pre most))) (_ : DD wz b (fun x => G x ∨ x = g) d ps) (_ : ¬ G g), Calls Try.prog 37 #[.pointer (some ⟨g, 0, none⟩)] wz (RetRep g G (repW pre (foundW (listP d ps pre) pre) d ps (foundW (listP d ps pre) pre) 0 (log0 b pre most) [] []) wz)) := TR
  have H0 := Lib.hid h0
  clear h0
  generalize repW pre (foundW (listP d ps pre) pre) d ps (foundW (listP d ps pre) pre) 0 (log0 b pre most) [] [] = R at *
  obtain ⟨e, d2, ps2, l2, sg2, recs2⟩ := R
  obtain rfl : e = 0 := H0.out
  clear ha hll hrd hbn hal hsum H0 hp hl hdd
  have hb : Below w.heap.size w (w.alloc (.cells (logC (.slice none 0 0) (log0 b pre most)) 77)) := (Below.refl _ _).alloc (Nat.le_refl _) _
  have kG : Blk (w.alloc (.cells (logC (.slice none 0 0) (log0 b pre most)) 77)) w.heap.size 77 (logC (.slice none 0 0) (log0 b pre most)) := Blk.new w _ _
  have DB := hd.below hb
  have hz : (w.alloc (.cells (logC (.slice none 0 0) (log0 b pre most)) 77)).heap.size = w.heap.size + 1 := by simp
  have HD := Lib.hid hd
  clear hd
  go_enter Try.func10, Try.ntmps10
  go_wp2_with fail
  refine TD.mono ?_
  clear TD
  rintro en w9 ⟨rfl, hw9⟩
  obtain rfl : w = w9 := hw9.symm
  go_upto_region 6 with fail
  change Code.wp Try.prog _ _ _ (w.alloc (.cells (logC (.slice none 0 0) (log0 b pre most)) 77))
  generalize (w.alloc (.cells (logC (.slice none 0 0) (log0 b pre most)) 77)) = w1 at *
  have T := TR.out w1 w.heap.size (fun x => F x ∧ x < w.heap.size) kG (DB.mono fun x hx => by
    rcases hx with hx | hx
    · exact .inl hx.1
    · exact .inr (by omega)) (fun h => Nat.lt_irrefl _ h.2)
  clear TR DB kG
  go_wp2_with fail
  refine T.mono ?_
  clear T
  rintro en w2 ⟨A, c, rs, h1, hR, hS, hm2, hL, hB⟩
  obtain rfl : en = .returned (.tuple #[.slice A rs.length c, .int .i64 0]) := h1
  replace hL : LD w2 w.heap.size (fun x => ((F x ∧ x < w.heap.size) ∧ x < w1.heap.size) ∨ RowsB A c rs x) l2 sg2 d2 ps2 := hL
  have HM : Hid (rs.map (·.2.1) = recs2) := hm2
  clear hm2
  have hBF : BlP F w w2 := ⟨hB.os.trans hb.os, hB.tape.trans hb.tape, hB.output.trans hb.output, Nat.le_trans hb.size hB.size, fun x hx hf => (hB.block x (by omega) ⟨hf, hx⟩).trans (hb.block x hx)⟩
  have hz1 : w.heap.size ≤ w1.heap.size := hb.size
  clear hb hB
  go_wp2_with fail
  go_ret3
  exact ⟨w.heap.size, A, c, rs, rfl, Nat.le_refl _, own_base hR hz1, hS.base hz1, HM.out, hL.mono fun x hx => hx.imp (fun h => ⟨h, by omega⟩) id, hBF⟩
end Go.Proofs.Ytbldfgpnghoigaa
