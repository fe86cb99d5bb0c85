/- A row of calls in memory. -/
import Derived.Test.YtnhonjgclbmheaaDskS
namespace Go.Proofs.Ytnhonjgclbmheaa
open Go.RowKit

theorem AOk.mono {w : World} {S S' : Nat → Prop} {X : Option Addr} {xc : Nat} {K : Option Addr} {kc : Nat} {a : LAct} (h : AOk w S X xc K kc a) (hs : ∀ g, g < w.heap.size → S g → S' g) : AOk w S' X xc K kc a :=
  ⟨h.name, h.tn, h.dlen, h.nmax, ⟨h.data.1, h.data.1.atMono h.data.2.1 hs, h.data.2.2⟩, ⟨h.keeps.1.mono hs, h.keeps.2⟩⟩
def ActE : ER LAct where
  size := 6
  pos := by omega
  bytes := 96
  bpos := by omega
  rep w S vs a := ∃ X xc K kc, vs = [.int .i64 a.kind, .string ⟨a.name.toArray⟩, .string ⟨a.tn.toArray⟩, .slice X a.data.length xc, .int .i64 a.n, .slice K a.keeps.length kc] ∧ AOk w S X xc K kc a
  len := by rintro w S vs a ⟨X, xc, K, kc, rfl, _⟩; rfl
  one := by rintro w S vs a ⟨X, xc, K, kc, rfl, _⟩ v hv; simp at hv; rcases hv with rfl | rfl | rfl | rfl | rfl | rfl <;> rfl
  keep := by rintro w w' S vs a ⟨X, xc, K, kc, rfl, h⟩ hs; exact ⟨X, xc, K, kc, rfl, h.same hs⟩
  mono := by rintro w S S' vs a ⟨X, xc, K, kc, rfl, h⟩ hs; exact ⟨X, xc, K, kc, rfl, h.mono hs⟩
/-- call k: its cells -/
theorem ActE.at_ {w : World} {A : Option Addr} {S : Nat → Prop} {cs : List LAct} (h : SlS ActE w S A cs) {k : Nat} (hk : k < cs.length) :
    ∃ ad X xc K kc, A = some ad ∧ ad.block < w.heap.size ∧ w.cell? (ad.add (k * 6)) = some (.int .i64 cs[k].kind) ∧ w.cell? ⟨(ad.add (k * 6)).block, (ad.add (k * 6)).off + 1, none⟩ = some (.string ⟨cs[k].name.toArray⟩) ∧
      w.cell? ⟨(ad.add (k * 6)).block, (ad.add (k * 6)).off + 2, none⟩ = some (.string ⟨cs[k].tn.toArray⟩) ∧ w.cell? ⟨(ad.add (k * 6)).block, (ad.add (k * 6)).off + 3, none⟩ = some (.slice X cs[k].data.length xc) ∧
      w.cell? ⟨(ad.add (k * 6)).block, (ad.add (k * 6)).off + 4, none⟩ = some (.int .i64 cs[k].n) ∧ w.cell? ⟨(ad.add (k * 6)).block, (ad.add (k * 6)).off + 5, none⟩ = some (.slice K cs[k].keeps.length kc) ∧ AOk w S X xc K kc cs[k] := by
  obtain ⟨ad, vs, rfl, hb, ⟨X, xc, K, kc, rfl, h1⟩, h4, _, h5⟩ := SlS.at_ h hk
  exact ⟨ad, X, xc, K, kc, rfl, hb, h4 _ rfl, h5 1 _ (by decide) rfl, h5 2 _ (by decide) rfl, h5 3 _ (by decide) rfl, h5 4 _ (by decide) rfl, h5 5 _ (by decide) rfl, h1⟩
/-- both disks, new -/
theorem Rel.new_ (room : Int) : Rel ⟨max 0 room, false, 0, false⟩ [] ⟨[], max 0 room, -1, false⟩ :=
  ⟨.refl _, List.Pairwise.nil, rfl, rfl, fun _ => rfl, fun h => (by cases h), ⟨by show (-1 : Int) ≤ -1; decide, by show (-1 : Int) ≤ _; decide⟩⟩
theorem Sz.new_ : Sz 0 0 [] := ⟨List.nodup_nil, Nat.le_refl _, Nat.le_refl _, fun _ h => (by cases h), fun _ h => (by cases h)⟩
/-- the disk that nobody has made: zero -/
theorem DD.zero (w : World) : DD (w.alloc (.cells #[.map none, .int .i64 0, .bool false, .int .i64 0, .bool false] 40)) w.heap.size (fun g => g ≠ w.heap.size) ⟨0, false, 0, false⟩ [] :=
  ⟨.map none, fun _ => False, [], ⟨Blk.new w 40 (diskC (.map none) ⟨0, false, 0, false⟩), .inl ⟨rfl, rfl⟩, DFs.nil_ _ _, (fun e => by cases e), fun _ h => h.elim⟩, rfl, fun _ h => ⟨h, (fun e => by cases e), id⟩⟩
theorem app_zero (nm : List UInt8) (x : UInt8) : appP ⟨0, false, 0, false⟩ [] nm [x] = (8, ⟨0, false, 0, false⟩, []) := rfl
theorem sync_zero (nm : List UInt8) : syncP ⟨0, false, 0, false⟩ [] nm = (6, ⟨0, false, 0, false⟩, []) := rfl
end Go.Proofs.Ytnhonjgclbmheaa
