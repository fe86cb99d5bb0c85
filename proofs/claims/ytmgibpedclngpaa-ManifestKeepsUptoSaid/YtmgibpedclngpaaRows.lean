/-
  No cell of these rows narrows 'for every input' (looked for: loops, veiled, ifaces, maps, wideKeys, modest, calm, conditions, laid).
  DERIVED. THE GIVEN ROWS OF THIS SEAT. 3 by the template 'for every input the law returns true; each argument reads behind the call as it read before'; 0 by the template 'total and deterministic' (their statements: YtmgibpedclngpaaTotals.lean).
  GIVEN WITH THE SEED: the statements are not yours to turn. If you find one false, say at which input.
  Laid BY PROGRAM, IN A SANDBOX (cutbox-rows.mjs): the forced cells as the released guide's own fill.sh prints them over the translation 6399a7eccf58596a… (all of the seat's roots in one cut). By AI agents, Wed Nov 11 2026. No macro, syntax, notation, axiom, sorry.
-/
import Derived.Test.YtmgibpedclngpaaChecked
import GoSem.Claim
import GoSem.ClaimJoined
import GoSem.ClaimMapViews
import Derived.JoinedTies
import Derived.KernelRfl
namespace Go.Proofs.Ytmgibpedclngpaa
/- THE CELL 'sum', in the pinned program and in every row, IS THE sha256 OF THE DUMP (.gsa) THAT YtmgibpedclngpaaProg.lean LOADS. Nothing in Lean hashes anything: it is a label: what it is worth is what the hold of that sum in a sandbox is worth. -/
noncomputable def Try.pinned : Pinned := { name := "ytmgibpedclngpaa", sum := "6399a7eccf58596adb447d8ea4a2df24cafd49d57845b3fe3e601678c618e2f6", checked := Try.checked }
namespace Rows
def none {H : Type} : Left H := { results := [], args := [] }

/-- 'caissonlaw12.ManifestApplies': WHATEVER THE INPUT: true; the input reads as it did. -/
def manifestAppliesSpec : ChangeSpec := { name := "manifestApplies", fn := fun _ => fun
  | [d1, d2] => { results := [.lit (.bool true)], args := [d1, d2] }
  | _ => none }
def manifestAppliesRow : OpenClaim := { program := "ytmgibpedclngpaa", sum := "6399a7eccf58596adb447d8ea4a2df24cafd49d57845b3fe3e601678c618e2f6", func := "caisson/caissonlaw12.ManifestApplies", spec := "manifestApplies", inPlace := ["internal/bytealg.Compare"], unfollowed := true, recurses := true, apart := false }
def ManifestAppliesSaid : Prop := manifestAppliesRow.holds Try.pinned (OpenSpec.ofChange manifestAppliesSpec)

/-- ITS FALSE NEIGHBOUR: 'it returns false'. Refute it at one input. -/
def manifestAppliesWrong : ChangeSpec := { name := "manifestApplies", fn := fun _ => fun
  | [d1, d2] => { results := [.lit (.bool false)], args := [d1, d2] }
  | _ => none }
def ManifestAppliesWrongFalsely : Prop := manifestAppliesRow.holds Try.pinned (OpenSpec.ofChange manifestAppliesWrong)

/-- 'caissonlaw12.ManifestCodes': WHATEVER THE INPUT: true; the input reads as it did. -/
def manifestCodesSpec : ChangeSpec := { name := "manifestCodes", fn := fun _ => fun
  | [d1, d2] => { results := [.lit (.bool true)], args := [d1, d2] }
  | _ => none }
def manifestCodesRow : OpenClaim := { program := "ytmgibpedclngpaa", sum := "6399a7eccf58596adb447d8ea4a2df24cafd49d57845b3fe3e601678c618e2f6", func := "caisson/caissonlaw12.ManifestCodes", spec := "manifestCodes", inPlace := ["internal/bytealg.Compare"], unfollowed := true, recurses := true, apart := false }
def ManifestCodesSaid : Prop := manifestCodesRow.holds Try.pinned (OpenSpec.ofChange manifestCodesSpec)

/-- ITS FALSE NEIGHBOUR: 'it returns false'. Refute it at one input. -/
def manifestCodesWrong : ChangeSpec := { name := "manifestCodes", fn := fun _ => fun
  | [d1, d2] => { results := [.lit (.bool false)], args := [d1, d2] }
  | _ => none }
def ManifestCodesWrongFalsely : Prop := manifestCodesRow.holds Try.pinned (OpenSpec.ofChange manifestCodesWrong)

/-- 'caissonlaw12.ManifestKeeps': WHATEVER THE INPUT: true; the input reads as it did. -/
def manifestKeepsSpec : ChangeSpec := { name := "manifestKeeps", fn := fun _ => fun
  | [d1, d2, d3] => { results := [.lit (.bool true)], args := [d1, d2, d3] }
  | _ => none }
def manifestKeepsRow : OpenClaim := { program := "ytmgibpedclngpaa", sum := "6399a7eccf58596adb447d8ea4a2df24cafd49d57845b3fe3e601678c618e2f6", func := "caisson/caissonlaw12.ManifestKeeps", spec := "manifestKeeps", inPlace := ["internal/bytealg.Compare"], unfollowed := true, recurses := true, apart := false }
def ManifestKeepsSaid : Prop := manifestKeepsRow.holds Try.pinned (OpenSpec.ofChange manifestKeepsSpec)

/-- ITS FALSE NEIGHBOUR: 'it returns false'. Refute it at one input. -/
def manifestKeepsWrong : ChangeSpec := { name := "manifestKeeps", fn := fun _ => fun
  | [d1, d2, d3] => { results := [.lit (.bool false)], args := [d1, d2, d3] }
  | _ => none }
def ManifestKeepsWrongFalsely : Prop := manifestKeepsRow.holds Try.pinned (OpenSpec.ofChange manifestKeepsWrong)

/- THE SECOND FORM. 'bulk': how many values and letters a reading holds, each counted each time it is reached (what is shared counts as often as it is met; a slice's spare places count too). A statement '..UptoSaid' is the law's where the arguments, and the package variables that the reading takes, are together of bulk at most 1048576: NARROWER than '..Said'. Prove '..Said' where nothing that the law and all that it calls make is longer than what came in: it says more and counts as full. Else prove '..UptoSaid'. A law counts once. -/
mutual
def uptoBulk {H : Type} : DataW H → Nat
  | .lit (.string bytes) => bytes.length + 1
  | .lit _ => 1
  | .nil => 1
  | .ptr d => uptoBulk d + 1
  | .slice elems spare => uptoBulkAll elems + uptoBulkAll spare + 1
  | .agg parts => uptoBulkAll parts + 1
  | .iface _ d => uptoBulk d + 1
  | .map entries => uptoBulkEntries entries + 1
  | .held _ => 1
def uptoBulkAll {H : Type} : List (DataW H) → Nat
  | [] => 0
  | d :: r => uptoBulk d + uptoBulkAll r
def uptoBulkEntries {H : Type} : List (Lit × DataW H) → Nat
  | [] => 0
  | x :: r => uptoBulkEntry x + uptoBulkEntries r
def uptoBulkEntry {H : Type} : Lit × DataW H → Nat
  | (.string bytes, d) => bytes.length + uptoBulk d + 1
  | (_, d) => uptoBulk d + 1
 end
def uptoSmall : (H : Type) → List (DataW H) → Bool := fun _ ds => decide (uptoBulkAll ds ≤ 1048576)
def OpenSpec.upto (s : _root_.Go.ChangeSpec) : _root_.Go.OpenSpec := { _root_.Go.OpenSpec.ofChange s with cond := some uptoSmall }

/-- 'caissonlaw12.ManifestApplies', WHERE WHAT IT READS IS OF BULK AT MOST 1048576: true; the input reads as it did. -/
def manifestAppliesUptoRow : OpenClaim := { program := "ytmgibpedclngpaa", sum := "6399a7eccf58596adb447d8ea4a2df24cafd49d57845b3fe3e601678c618e2f6", func := "caisson/caissonlaw12.ManifestApplies", spec := "manifestApplies", inPlace := ["internal/bytealg.Compare"], unfollowed := true, recurses := true, apart := false, narrowed := true }
def ManifestAppliesUptoSaid : Prop := manifestAppliesUptoRow.holds Try.pinned (OpenSpec.upto manifestAppliesSpec)

/-- 'caissonlaw12.ManifestCodes', WHERE WHAT IT READS IS OF BULK AT MOST 1048576: true; the input reads as it did. -/
def manifestCodesUptoRow : OpenClaim := { program := "ytmgibpedclngpaa", sum := "6399a7eccf58596adb447d8ea4a2df24cafd49d57845b3fe3e601678c618e2f6", func := "caisson/caissonlaw12.ManifestCodes", spec := "manifestCodes", inPlace := ["internal/bytealg.Compare"], unfollowed := true, recurses := true, apart := false, narrowed := true }
def ManifestCodesUptoSaid : Prop := manifestCodesUptoRow.holds Try.pinned (OpenSpec.upto manifestCodesSpec)

/-- 'caissonlaw12.ManifestKeeps', WHERE WHAT IT READS IS OF BULK AT MOST 1048576: true; the input reads as it did. -/
def manifestKeepsUptoRow : OpenClaim := { program := "ytmgibpedclngpaa", sum := "6399a7eccf58596adb447d8ea4a2df24cafd49d57845b3fe3e601678c618e2f6", func := "caisson/caissonlaw12.ManifestKeeps", spec := "manifestKeeps", inPlace := ["internal/bytealg.Compare"], unfollowed := true, recurses := true, apart := false, narrowed := true }
def ManifestKeepsUptoSaid : Prop := manifestKeepsUptoRow.holds Try.pinned (OpenSpec.upto manifestKeepsSpec)

end Rows
end Go.Proofs.Ytmgibpedclngpaa
