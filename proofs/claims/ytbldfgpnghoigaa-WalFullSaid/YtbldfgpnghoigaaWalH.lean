/- Open and Append on a log whose files are whole. -/
import Derived.Test.YtbldfgpnghoigaaWalG
namespace Go.Proofs.Ytbldfgpnghoigaa
open Go.RowKit

theorem used_get (ps : List PFile) (hn : (ps.map (·.1)).Nodup) (nm : List UInt8) : (getP ps nm).1.length ≤ usedP ps := by have := used_del hn nm; omega
theorem WL.len {pre : List UInt8} {segs : List Seg} {ps : List PFile} (h : WL pre segs ps) : ps.length = segs.length := by
  have h1 := (sortN_perm (ps.map (·.1))).length_eq
  rw [h.sorted] at h1
  unfold namesW at h1
  rw [List.length_map, List.length_map] at h1
  exact h1.symm
theorem WL.ok {pre : List UInt8} {segs : List Seg} {ps : List PFile} (h : WL pre segs ps) (hp : pre.length ≤ 1048576) (hn : segs.length ≤ 1048576) (hu : usedP ps ≤ 1099511627776) : PsOk ps := by
  refine ⟨by rw [h.len]; exact hn, by omega, fun q hq => ?_⟩
  have h1 := (h.mem q.1).1 (List.mem_map_of_mem hq)
  obtain ⟨s, _, e⟩ := List.mem_map.1 h1
  rw [← e, nameW_len]
  omega
theorem ldok_un {d : LDisk} (ha : d.armed = false) (hr : 0 ≤ d.room ∧ d.room ≤ 9223372036854775807) : LdOk d := ⟨hr, fun h => by rw [ha] at h; cases h⟩
theorem wl_nil (pre : List UInt8) : WL pre [] [] := ⟨List.nodup_nil, (fun nm => by simp [namesW]), (fun _ h => by cases h), List.Pairwise.nil, (fun _ h => by cases h), (fun _ h => by cases h)⟩
theorem good_nil (b : Nat) (pre : List UInt8) (most : Int) (d : LDisk) (h1 : d.dead = false) (h2 : d.armed = false) : Good pre [] (log0 b pre most) d [] := ⟨wl_nil pre, trivial, rfl, rfl, (fun _ h => by cases h), h1, h2⟩
section
variable {w : World} {F : Nat → Prop} {d : LDisk} {ps : List PFile} {pre : List UInt8} {segs : List Seg}
theorem open_good (b : Nat) (hd : DD w b F d ps) (hW : WL pre segs ps) (hC : Chain segs) (h1 : d.dead = false) (h2 : d.armed = false) (hr : 0 ≤ d.room ∧ d.room ≤ 9223372036854775807) (hpa : ∀ b ∈ pre, b.toNat < 128) (hpl : pre.length ≤ 1048576) (hn : segs.length ≤ 1048575) (hu : usedP ps ≤ 1099511627776) (hrn : (recsOf segs).length ≤ 99999) (most : Int) (hm : ¬ most < 1) :
    Calls Try.prog 10 #[.pointer (some ⟨b, 0, none⟩), .string ⟨pre.toArray⟩, .int .i64 most] w (RetOpn F (0, d, ps, lastLog (log0 b pre most) segs, segs.map (·.1), recsOf segs) w) := by
  have e1 := hW.list h1
  have e2 : foundW (listP d ps pre) pre = segs.map (·.1) := by rw [e1]; exact found_names hW.lt64
  have e3 := rep_good (d := d) (segs.map (·.1)) hW.data hW.rl hC 0 (log0 b pre most) [] []
  have e4 : repW pre (foundW (listP d ps pre) pre) d ps (foundW (listP d ps pre) pre) 0 (log0 b pre most) [] [] = (0, d, ps, lastLog (log0 b pre most) segs, segs.map (·.1), recsOf segs) := by rw [e2, e3]; simp
  have T := open_log b F d ps w hd (hW.ok hpl (by omega) hu) (ldok_un h2 hr) h1 pre most hm hpl (by rw [e1]; exact names_ascii hpa) (by rw [e1]; unfold namesW; rw [List.length_map]; omega)
    (fun n hn => by
      rw [e2] at hn
      obtain ⟨s, hs, rfl⟩ := List.mem_map.1 hn
      exact read_has h1 (hW.has hs))
    (fun n hn => by
      rw [e2] at hn
      obtain ⟨s, hs, rfl⟩ := List.mem_map.1 hn
      exact ⟨hW.lt s hs, Nat.le_trans (used_get ps hW.nodup _) hu⟩)
    (by rw [e2, List.length_map]; exact hn)
    (by
      rw [e2, List.map_map]
      have e5 : segs.map ((fun n => (openAllL sumN (getP ps (nameW pre n)).1).1.length) ∘ fun x => x.1) = segs.map fun s => s.2.length := by
        apply List.map_congr_left
        intro s hs
        show (openAllL sumN (getP ps (nameW pre s.1)).1).1.length = _
        rw [hW.data s hs, data_open (hW.rl s hs)]
      rw [e5]
      unfold recsOf at hrn
      rw [List.length_flatMap] at hrn
      exact hrn)
    (by rw [e4])
  rw [e4] at T
  exact T
theorem append_at (g : Nat) {l : LLog} (hd : LD w g F l (segs.map (·.1)) d ps) (hG : Good pre segs l d ps) (hg : ¬ F g) (hr : 0 ≤ d.room ∧ d.room ≤ 9223372036854775807) (hpl : pre.length ≤ 1048576) (hn : segs.length ≤ 1048575) (hu : usedP ps ≤ 1099511627776)
    (X : Option Addr) (recs : List (List UInt8)) (xc : Nat) (S : Nat → Prop) (hx : SlS BsE w S X recs) (hrn : recs.length ≤ 1000) (hb : ∀ r ∈ recs, r.length ≤ 1048577) (hnx : l.next ≤ 1099511627776) (hsz : 0 ≤ l.size ∧ l.size ≤ 1099511627776) :
    Calls Try.prog 12 #[.pointer (some ⟨g, 0, none⟩), .slice X recs.length xc] w (RetApp g F (appendW l (segs.map (·.1)) d ps recs) w) := by
  obtain ⟨ps1, e1, hW1, hU1⟩ := sync_good hG
  exact append_log g F l (segs.map (·.1)) d ps w hd hg (hG.wl.ok hpl (by omega) hu) (ldok_un hG.unarmed hr) (by rw [e1]; exact hW1.ok hpl (by omega) (by rw [hU1]; exact hu)) (by rw [e1]; exact ldok_un hG.unarmed hr) (by rw [List.length_map]; exact hn) X recs xc S hx hrn hb (by omega) hsz
end
theorem data_len (rs : List (List UInt8)) : (dataW rs).length = rs.flatten.length + 8 * rs.length := len_seals rs
end Go.Proofs.Ytbldfgpnghoigaa
