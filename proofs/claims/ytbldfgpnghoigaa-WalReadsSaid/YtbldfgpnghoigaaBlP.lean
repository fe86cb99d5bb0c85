/- A set of blocks stays as it is. -/
import Derived.Test.YtbldfgpnghoigaaOwnB
import Derived.Laws.CopyOwn
import Derived.StillTailTactics
import Derived.Deep.RegionWith
import Derived.Deep.DeepCutAuto
namespace Go.Proofs.Ytbldfgpnghoigaa
open Go.RowKit

/-- the blocks of B are as they were -/
structure BlP (B : Nat → Prop) (w w' : World) : Prop where
  os : w'.os = w.os
  tape : w'.tape = w.tape
  output : w'.output = w.output
  size : w.heap.size ≤ w'.heap.size
  block : ∀ k, k < w.heap.size → B k → w'.heap[k]? = w.heap[k]?
theorem BlP.refl (B : Nat → Prop) (w : World) : BlP B w w := ⟨rfl, rfl, rfl, Nat.le_refl _, fun _ _ _ => rfl⟩
section
variable {B : Nat → Prop} {a b c : World}
theorem BlP.trans (h : BlP B a b) (k : BlP B b c) : BlP B a c := ⟨k.os.trans h.os, k.tape.trans h.tape, k.output.trans h.output, Nat.le_trans h.size k.size, fun g hg hb => (k.block g (Nat.lt_of_lt_of_le hg h.size) hb).trans (h.block g hg hb)⟩
theorem BlP.of_below (h : Below a.heap.size a b) : BlP B a b := ⟨h.os, h.tape, h.output, h.size, fun g hg _ => h.block g hg⟩
theorem BlP.drew (h : BlP B a b) : BlP B a b.drew := ⟨h.os, h.tape, h.output, h.size, h.block⟩
theorem BlP.drewN (h : BlP B a b) (n : Nat) : BlP B a (b.drewN n) := ⟨h.os, h.tape, h.output, h.size, h.block⟩
theorem BlP.alloc (h : BlP B a b) (o : Obj) : BlP B a (b.alloc o) := h.trans (.of_below ((Below.refl _ _).alloc (Nat.le_refl _) _))
theorem BlP.grown {row : Option Nat} (h : BlP B a b) (hg : b.grownBy c row) (hr : ∀ g, row = some g → ¬ B g) : BlP B a c :=
  h.trans ⟨hg.os, hg.tape, hg.output, hg.size, fun g h1 h2 => hg.block g h1 fun e => hr g e.symm h2⟩
theorem BlP.setCell (h : BlP B a b) {p : Addr} (hp : ¬ B p.block) (u : Value) : BlP B a (b.setCell p u) :=
  h.grown (only_setCell (World.grownBy.refl _ _) (.inl rfl) u) fun g e => by injection e with e; rw [← e]; exact hp
end
end Go.Proofs.Ytbldfgpnghoigaa
