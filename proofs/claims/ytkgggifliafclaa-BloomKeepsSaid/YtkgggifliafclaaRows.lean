/-
  No cell of these rows narrows 'for every input' (looked for: loops, veiled, ifaces, maps, wideKeys, modest, calm, conditions, laid).
  DERIVED. THE GIVEN ROWS OF THIS SEAT. 5 by the template 'for every input the law returns true; each argument reads behind the call as it read before'; 0 by the template 'total and deterministic' (their statements: YtkgggifliafclaaTotals.lean).
  GIVEN WITH THE SEED: the statements are not yours to turn. If you find one false, say at which input.
  Laid BY PROGRAM, IN A SANDBOX (cutbox-rows.mjs): the forced cells as the released guide's own fill.sh prints them over the translation 0fbe380f2656f5d0… (all of the seat's roots in one cut). By AI agents, Wed Nov 11 2026. No macro, syntax, notation, axiom, sorry.
-/
import Derived.Test.YtkgggifliafclaaChecked
import GoSem.Claim
import GoSem.ClaimJoined
import GoSem.ClaimMapViews
import Derived.JoinedTies
import Derived.KernelRfl
namespace Go.Proofs.Ytkgggifliafclaa
/- THE CELL 'sum', in the pinned program and in every row, IS THE sha256 OF THE DUMP (.gsa) THAT YtkgggifliafclaaProg.lean LOADS. Nothing in Lean hashes anything: it is a label: what it is worth is what the hold of that sum in a sandbox is worth. -/
noncomputable def Try.pinned : Pinned := { name := "ytkgggifliafclaa", sum := "0fbe380f2656f5d03b7f9f0b8611e6163fbe08d0f3e455f750c0a30d60641b4c", checked := Try.checked }
namespace Rows
def none {H : Type} : Left H := { results := [], args := [] }

/-- 'caissonlaw09.BloomBuilds': WHATEVER THE INPUT: true; the input reads as it did. -/
def bloomBuildsSpec : ChangeSpec := { name := "bloomBuilds", fn := fun _ => fun
  | [d1, d2, d3] => { results := [.lit (.bool true)], args := [d1, d2, d3] }
  | _ => none }
def bloomBuildsRow : OpenClaim := { program := "ytkgggifliafclaa", sum := "0fbe380f2656f5d03b7f9f0b8611e6163fbe08d0f3e455f750c0a30d60641b4c", func := "caisson/caissonlaw09.BloomBuilds", spec := "bloomBuilds", apart := false }
def BloomBuildsSaid : Prop := bloomBuildsRow.holds Try.pinned (OpenSpec.ofChange bloomBuildsSpec)

/-- ITS FALSE NEIGHBOUR: 'it returns false'. Refute it at one input. -/
def bloomBuildsWrong : ChangeSpec := { name := "bloomBuilds", fn := fun _ => fun
  | [d1, d2, d3] => { results := [.lit (.bool false)], args := [d1, d2, d3] }
  | _ => none }
def BloomBuildsWrongFalsely : Prop := bloomBuildsRow.holds Try.pinned (OpenSpec.ofChange bloomBuildsWrong)

/-- 'caissonlaw09.BloomMisses': WHATEVER THE INPUT: true; the input reads as it did. -/
def bloomMissesSpec : ChangeSpec := { name := "bloomMisses", fn := fun _ => fun
  | [d1, d2] => { results := [.lit (.bool true)], args := [d1, d2] }
  | _ => none }
def bloomMissesRow : OpenClaim := { program := "ytkgggifliafclaa", sum := "0fbe380f2656f5d03b7f9f0b8611e6163fbe08d0f3e455f750c0a30d60641b4c", func := "caisson/caissonlaw09.BloomMisses", spec := "bloomMisses", apart := false }
def BloomMissesSaid : Prop := bloomMissesRow.holds Try.pinned (OpenSpec.ofChange bloomMissesSpec)

/-- ITS FALSE NEIGHBOUR: 'it returns false'. Refute it at one input. -/
def bloomMissesWrong : ChangeSpec := { name := "bloomMisses", fn := fun _ => fun
  | [d1, d2] => { results := [.lit (.bool false)], args := [d1, d2] }
  | _ => none }
def BloomMissesWrongFalsely : Prop := bloomMissesRow.holds Try.pinned (OpenSpec.ofChange bloomMissesWrong)

/-- 'caissonlaw09.BloomAsks': WHATEVER THE INPUT: true; the input reads as it did. -/
def bloomAsksSpec : ChangeSpec := { name := "bloomAsks", fn := fun _ => fun
  | [d1, d2] => { results := [.lit (.bool true)], args := [d1, d2] }
  | _ => none }
def bloomAsksRow : OpenClaim := { program := "ytkgggifliafclaa", sum := "0fbe380f2656f5d03b7f9f0b8611e6163fbe08d0f3e455f750c0a30d60641b4c", func := "caisson/caissonlaw09.BloomAsks", spec := "bloomAsks", apart := false }
def BloomAsksSaid : Prop := bloomAsksRow.holds Try.pinned (OpenSpec.ofChange bloomAsksSpec)

/-- ITS FALSE NEIGHBOUR: 'it returns false'. Refute it at one input. -/
def bloomAsksWrong : ChangeSpec := { name := "bloomAsks", fn := fun _ => fun
  | [d1, d2] => { results := [.lit (.bool false)], args := [d1, d2] }
  | _ => none }
def BloomAsksWrongFalsely : Prop := bloomAsksRow.holds Try.pinned (OpenSpec.ofChange bloomAsksWrong)

/-- 'caissonlaw09.BloomUnions': WHATEVER THE INPUT: true; the input reads as it did. -/
def bloomUnionsSpec : ChangeSpec := { name := "bloomUnions", fn := fun _ => fun
  | [d1, d2, d3] => { results := [.lit (.bool true)], args := [d1, d2, d3] }
  | _ => none }
def bloomUnionsRow : OpenClaim := { program := "ytkgggifliafclaa", sum := "0fbe380f2656f5d03b7f9f0b8611e6163fbe08d0f3e455f750c0a30d60641b4c", func := "caisson/caissonlaw09.BloomUnions", spec := "bloomUnions", apart := false }
def BloomUnionsSaid : Prop := bloomUnionsRow.holds Try.pinned (OpenSpec.ofChange bloomUnionsSpec)

/-- ITS FALSE NEIGHBOUR: 'it returns false'. Refute it at one input. -/
def bloomUnionsWrong : ChangeSpec := { name := "bloomUnions", fn := fun _ => fun
  | [d1, d2, d3] => { results := [.lit (.bool false)], args := [d1, d2, d3] }
  | _ => none }
def BloomUnionsWrongFalsely : Prop := bloomUnionsRow.holds Try.pinned (OpenSpec.ofChange bloomUnionsWrong)

/-- 'caissonlaw09.BloomKeeps': WHATEVER THE INPUT: true; the input reads as it did. -/
def bloomKeepsSpec : ChangeSpec := { name := "bloomKeeps", fn := fun _ => fun
  | [d1, d2] => { results := [.lit (.bool true)], args := [d1, d2] }
  | _ => none }
def bloomKeepsRow : OpenClaim := { program := "ytkgggifliafclaa", sum := "0fbe380f2656f5d03b7f9f0b8611e6163fbe08d0f3e455f750c0a30d60641b4c", func := "caisson/caissonlaw09.BloomKeeps", spec := "bloomKeeps", apart := false }
def BloomKeepsSaid : Prop := bloomKeepsRow.holds Try.pinned (OpenSpec.ofChange bloomKeepsSpec)

/-- ITS FALSE NEIGHBOUR: 'it returns false'. Refute it at one input. -/
def bloomKeepsWrong : ChangeSpec := { name := "bloomKeeps", fn := fun _ => fun
  | [d1, d2] => { results := [.lit (.bool false)], args := [d1, d2] }
  | _ => none }
def BloomKeepsWrongFalsely : Prop := bloomKeepsRow.holds Try.pinned (OpenSpec.ofChange bloomKeepsWrong)

/- THE SECOND FORM. 'bulk': how many values and letters a reading holds, each counted each time it is reached (what is shared counts as often as it is met; a slice's spare places count too). A statement '..UptoSaid' is the law's where the arguments, and the package variables that the reading takes, are together of bulk at most 1048576: NARROWER than '..Said'. Prove '..Said' where nothing that the law and all that it calls make is longer than what came in: it says more and counts as full. Else prove '..UptoSaid'. A law counts once. -/
mutual
def uptoBulk {H : Type} : DataW H → Nat
  | .lit (.string bytes) => bytes.length + 1
  | .lit _ => 1
  | .nil => 1
  | .ptr d => uptoBulk d + 1
  | .slice elems spare => uptoBulkAll elems + uptoBulkAll spare + 1
  | .agg parts => uptoBulkAll parts + 1
  | .iface _ d => uptoBulk d + 1
  | .map entries => uptoBulkEntries entries + 1
  | .held _ => 1
def uptoBulkAll {H : Type} : List (DataW H) → Nat
  | [] => 0
  | d :: r => uptoBulk d + uptoBulkAll r
def uptoBulkEntries {H : Type} : List (Lit × DataW H) → Nat
  | [] => 0
  | x :: r => uptoBulkEntry x + uptoBulkEntries r
def uptoBulkEntry {H : Type} : Lit × DataW H → Nat
  | (.string bytes, d) => bytes.length + uptoBulk d + 1
  | (_, d) => uptoBulk d + 1
 end
def uptoSmall : (H : Type) → List (DataW H) → Bool := fun _ ds => decide (uptoBulkAll ds ≤ 1048576)
def OpenSpec.upto (s : _root_.Go.ChangeSpec) : _root_.Go.OpenSpec := { _root_.Go.OpenSpec.ofChange s with cond := some uptoSmall }

/-- 'caissonlaw09.BloomBuilds', WHERE WHAT IT READS IS OF BULK AT MOST 1048576: true; the input reads as it did. -/
def bloomBuildsUptoRow : OpenClaim := { program := "ytkgggifliafclaa", sum := "0fbe380f2656f5d03b7f9f0b8611e6163fbe08d0f3e455f750c0a30d60641b4c", func := "caisson/caissonlaw09.BloomBuilds", spec := "bloomBuilds", apart := false, narrowed := true }
def BloomBuildsUptoSaid : Prop := bloomBuildsUptoRow.holds Try.pinned (OpenSpec.upto bloomBuildsSpec)

/-- 'caissonlaw09.BloomMisses', WHERE WHAT IT READS IS OF BULK AT MOST 1048576: true; the input reads as it did. -/
def bloomMissesUptoRow : OpenClaim := { program := "ytkgggifliafclaa", sum := "0fbe380f2656f5d03b7f9f0b8611e6163fbe08d0f3e455f750c0a30d60641b4c", func := "caisson/caissonlaw09.BloomMisses", spec := "bloomMisses", apart := false, narrowed := true }
def BloomMissesUptoSaid : Prop := bloomMissesUptoRow.holds Try.pinned (OpenSpec.upto bloomMissesSpec)

/-- 'caissonlaw09.BloomAsks', WHERE WHAT IT READS IS OF BULK AT MOST 1048576: true; the input reads as it did. -/
def bloomAsksUptoRow : OpenClaim := { program := "ytkgggifliafclaa", sum := "0fbe380f2656f5d03b7f9f0b8611e6163fbe08d0f3e455f750c0a30d60641b4c", func := "caisson/caissonlaw09.BloomAsks", spec := "bloomAsks", apart := false, narrowed := true }
def BloomAsksUptoSaid : Prop := bloomAsksUptoRow.holds Try.pinned (OpenSpec.upto bloomAsksSpec)

/-- 'caissonlaw09.BloomUnions', WHERE WHAT IT READS IS OF BULK AT MOST 1048576: true; the input reads as it did. -/
def bloomUnionsUptoRow : OpenClaim := { program := "ytkgggifliafclaa", sum := "0fbe380f2656f5d03b7f9f0b8611e6163fbe08d0f3e455f750c0a30d60641b4c", func := "caisson/caissonlaw09.BloomUnions", spec := "bloomUnions", apart := false, narrowed := true }
def BloomUnionsUptoSaid : Prop := bloomUnionsUptoRow.holds Try.pinned (OpenSpec.upto bloomUnionsSpec)

/-- 'caissonlaw09.BloomKeeps', WHERE WHAT IT READS IS OF BULK AT MOST 1048576: true; the input reads as it did. -/
def bloomKeepsUptoRow : OpenClaim := { program := "ytkgggifliafclaa", sum := "0fbe380f2656f5d03b7f9f0b8611e6163fbe08d0f3e455f750c0a30d60641b4c", func := "caisson/caissonlaw09.BloomKeeps", spec := "bloomKeeps", apart := false, narrowed := true }
def BloomKeepsUptoSaid : Prop := bloomKeepsUptoRow.holds Try.pinned (OpenSpec.upto bloomKeepsSpec)

end Rows
end Go.Proofs.Ytkgggifliafclaa
