/-
  No cell of these rows narrows 'for every input' (looked for: loops, veiled, ifaces, maps, wideKeys, modest, calm, conditions, laid).
  DERIVED. THE GIVEN ROWS OF THIS SEAT. 4 by the template 'for every input the law returns true; each argument reads behind the call as it read before'; 0 by the template 'total and deterministic' (their statements: YtfegabikfkmepaaTotals.lean).
  GIVEN WITH THE SEED: the statements are not yours to turn. If you find one false, say at which input.
  Laid BY PROGRAM, IN A SANDBOX (cutbox-rows.mjs): the forced cells as the released guide's own fill.sh prints them over the translation ea4acb1aeac8ee20… (all of the seat's roots in one cut). By AI agents, Wed Nov 11 2026. No macro, syntax, notation, axiom, sorry.
-/
import Derived.Test.YtfegabikfkmepaaChecked
import GoSem.Claim
import GoSem.ClaimJoined
import GoSem.ClaimMapViews
import Derived.JoinedTies
import Derived.KernelRfl
namespace Go.Proofs.Ytfegabikfkmepaa
/- THE CELL 'sum', in the pinned program and in every row, IS THE sha256 OF THE DUMP (.gsa) THAT YtfegabikfkmepaaProg.lean LOADS. Nothing in Lean hashes anything: it is a label: what it is worth is what the hold of that sum in a sandbox is worth. -/
noncomputable def Try.pinned : Pinned := { name := "ytfegabikfkmepaa", sum := "ea4acb1aeac8ee209c9bc56812be603d3621a43e233ea669e8a190a3f4943602", checked := Try.checked }
namespace Rows
def none {H : Type} : Left H := { results := [], args := [] }

/-- 'girderlaw12.NodeSizes': WHATEVER THE INPUT: true; the input reads as it did. -/
def nodeSizesSpec : ChangeSpec := { name := "nodeSizes", fn := fun _ => fun
  | [d] => { results := [.lit (.bool true)], args := [d] }
  | _ => none }
def nodeSizesRow : OpenClaim := { program := "ytfegabikfkmepaa", sum := "ea4acb1aeac8ee209c9bc56812be603d3621a43e233ea669e8a190a3f4943602", func := "girder/girderlaw12.NodeSizes", spec := "nodeSizes", inPlace := ["slices.overlaps[string]"], unfollowed := true, recurses := true, apart := false }
def NodeSizesSaid : Prop := nodeSizesRow.holds Try.pinned (OpenSpec.ofChange nodeSizesSpec)

/-- ITS FALSE NEIGHBOUR: 'it returns false'. Refute it at one input. -/
def nodeSizesWrong : ChangeSpec := { name := "nodeSizes", fn := fun _ => fun
  | [d] => { results := [.lit (.bool false)], args := [d] }
  | _ => none }
def NodeSizesWrongFalsely : Prop := nodeSizesRow.holds Try.pinned (OpenSpec.ofChange nodeSizesWrong)

/-- 'girderlaw12.NodeHalves': WHATEVER THE INPUT: true; the input reads as it did. -/
def nodeHalvesSpec : ChangeSpec := { name := "nodeHalves", fn := fun _ => fun
  | [d] => { results := [.lit (.bool true)], args := [d] }
  | _ => none }
def nodeHalvesRow : OpenClaim := { program := "ytfegabikfkmepaa", sum := "ea4acb1aeac8ee209c9bc56812be603d3621a43e233ea669e8a190a3f4943602", func := "girder/girderlaw12.NodeHalves", spec := "nodeHalves", inPlace := ["slices.overlaps[string]"], unfollowed := true, recurses := true, apart := false }
def NodeHalvesSaid : Prop := nodeHalvesRow.holds Try.pinned (OpenSpec.ofChange nodeHalvesSpec)

/-- ITS FALSE NEIGHBOUR: 'it returns false'. Refute it at one input. -/
def nodeHalvesWrong : ChangeSpec := { name := "nodeHalves", fn := fun _ => fun
  | [d] => { results := [.lit (.bool false)], args := [d] }
  | _ => none }
def NodeHalvesWrongFalsely : Prop := nodeHalvesRow.holds Try.pinned (OpenSpec.ofChange nodeHalvesWrong)

/-- 'girderlaw12.NodeLeaves': WHATEVER THE INPUT: true; the input reads as it did. -/
def nodeLeavesSpec : ChangeSpec := { name := "nodeLeaves", fn := fun _ => fun
  | [d1, d2] => { results := [.lit (.bool true)], args := [d1, d2] }
  | _ => none }
def nodeLeavesRow : OpenClaim := { program := "ytfegabikfkmepaa", sum := "ea4acb1aeac8ee209c9bc56812be603d3621a43e233ea669e8a190a3f4943602", func := "girder/girderlaw12.NodeLeaves", spec := "nodeLeaves", inPlace := ["slices.overlaps[string]"], unfollowed := true, recurses := true, apart := false }
def NodeLeavesSaid : Prop := nodeLeavesRow.holds Try.pinned (OpenSpec.ofChange nodeLeavesSpec)

/-- ITS FALSE NEIGHBOUR: 'it returns false'. Refute it at one input. -/
def nodeLeavesWrong : ChangeSpec := { name := "nodeLeaves", fn := fun _ => fun
  | [d1, d2] => { results := [.lit (.bool false)], args := [d1, d2] }
  | _ => none }
def NodeLeavesWrongFalsely : Prop := nodeLeavesRow.holds Try.pinned (OpenSpec.ofChange nodeLeavesWrong)

/-- 'girderlaw12.NodeInner': WHATEVER THE INPUT: true; the input reads as it did. -/
def nodeInnerSpec : ChangeSpec := { name := "nodeInner", fn := fun _ => fun
  | [d1, d2, d3] => { results := [.lit (.bool true)], args := [d1, d2, d3] }
  | _ => none }
def nodeInnerRow : OpenClaim := { program := "ytfegabikfkmepaa", sum := "ea4acb1aeac8ee209c9bc56812be603d3621a43e233ea669e8a190a3f4943602", func := "girder/girderlaw12.NodeInner", spec := "nodeInner", inPlace := ["slices.overlaps[string]"], unfollowed := true, recurses := true, apart := false }
def NodeInnerSaid : Prop := nodeInnerRow.holds Try.pinned (OpenSpec.ofChange nodeInnerSpec)

/-- ITS FALSE NEIGHBOUR: 'it returns false'. Refute it at one input. -/
def nodeInnerWrong : ChangeSpec := { name := "nodeInner", fn := fun _ => fun
  | [d1, d2, d3] => { results := [.lit (.bool false)], args := [d1, d2, d3] }
  | _ => none }
def NodeInnerWrongFalsely : Prop := nodeInnerRow.holds Try.pinned (OpenSpec.ofChange nodeInnerWrong)

/- THE SECOND FORM. 'bulk': how many values and letters a reading holds, each counted each time it is reached (what is shared counts as often as it is met; a slice's spare places count too). A statement '..UptoSaid' is the law's where the arguments, and the package variables that the reading takes, are together of bulk at most 1048576: NARROWER than '..Said'. Prove '..Said' where nothing that the law and all that it calls make is longer than what came in: it says more and counts as full. Else prove '..UptoSaid'. A law counts once. -/
mutual
def uptoBulk {H : Type} : DataW H → Nat
  | .lit (.string bytes) => bytes.length + 1
  | .lit _ => 1
  | .nil => 1
  | .ptr d => uptoBulk d + 1
  | .slice elems spare => uptoBulkAll elems + uptoBulkAll spare + 1
  | .agg parts => uptoBulkAll parts + 1
  | .iface _ d => uptoBulk d + 1
  | .map entries => uptoBulkEntries entries + 1
  | .held _ => 1
def uptoBulkAll {H : Type} : List (DataW H) → Nat
  | [] => 0
  | d :: r => uptoBulk d + uptoBulkAll r
def uptoBulkEntries {H : Type} : List (Lit × DataW H) → Nat
  | [] => 0
  | x :: r => uptoBulkEntry x + uptoBulkEntries r
def uptoBulkEntry {H : Type} : Lit × DataW H → Nat
  | (.string bytes, d) => bytes.length + uptoBulk d + 1
  | (_, d) => uptoBulk d + 1
 end
def uptoSmall : (H : Type) → List (DataW H) → Bool := fun _ ds => decide (uptoBulkAll ds ≤ 1048576)
def OpenSpec.upto (s : _root_.Go.ChangeSpec) : _root_.Go.OpenSpec := { _root_.Go.OpenSpec.ofChange s with cond := some uptoSmall }

/-- 'girderlaw12.NodeSizes', WHERE WHAT IT READS IS OF BULK AT MOST 1048576: true; the input reads as it did. -/
def nodeSizesUptoRow : OpenClaim := { program := "ytfegabikfkmepaa", sum := "ea4acb1aeac8ee209c9bc56812be603d3621a43e233ea669e8a190a3f4943602", func := "girder/girderlaw12.NodeSizes", spec := "nodeSizes", inPlace := ["slices.overlaps[string]"], unfollowed := true, recurses := true, apart := false, narrowed := true }
def NodeSizesUptoSaid : Prop := nodeSizesUptoRow.holds Try.pinned (OpenSpec.upto nodeSizesSpec)

/-- 'girderlaw12.NodeHalves', WHERE WHAT IT READS IS OF BULK AT MOST 1048576: true; the input reads as it did. -/
def nodeHalvesUptoRow : OpenClaim := { program := "ytfegabikfkmepaa", sum := "ea4acb1aeac8ee209c9bc56812be603d3621a43e233ea669e8a190a3f4943602", func := "girder/girderlaw12.NodeHalves", spec := "nodeHalves", inPlace := ["slices.overlaps[string]"], unfollowed := true, recurses := true, apart := false, narrowed := true }
def NodeHalvesUptoSaid : Prop := nodeHalvesUptoRow.holds Try.pinned (OpenSpec.upto nodeHalvesSpec)

/-- 'girderlaw12.NodeLeaves', WHERE WHAT IT READS IS OF BULK AT MOST 1048576: true; the input reads as it did. -/
def nodeLeavesUptoRow : OpenClaim := { program := "ytfegabikfkmepaa", sum := "ea4acb1aeac8ee209c9bc56812be603d3621a43e233ea669e8a190a3f4943602", func := "girder/girderlaw12.NodeLeaves", spec := "nodeLeaves", inPlace := ["slices.overlaps[string]"], unfollowed := true, recurses := true, apart := false, narrowed := true }
def NodeLeavesUptoSaid : Prop := nodeLeavesUptoRow.holds Try.pinned (OpenSpec.upto nodeLeavesSpec)

/-- 'girderlaw12.NodeInner', WHERE WHAT IT READS IS OF BULK AT MOST 1048576: true; the input reads as it did. -/
def nodeInnerUptoRow : OpenClaim := { program := "ytfegabikfkmepaa", sum := "ea4acb1aeac8ee209c9bc56812be603d3621a43e233ea669e8a190a3f4943602", func := "girder/girderlaw12.NodeInner", spec := "nodeInner", inPlace := ["slices.overlaps[string]"], unfollowed := true, recurses := true, apart := false, narrowed := true }
def NodeInnerUptoSaid : Prop := nodeInnerUptoRow.holds Try.pinned (OpenSpec.upto nodeInnerSpec)

end Rows
end Go.Proofs.Ytfegabikfkmepaa
