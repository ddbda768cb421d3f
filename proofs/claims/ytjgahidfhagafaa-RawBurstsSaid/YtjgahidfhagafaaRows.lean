/-
  No cell of these rows narrows 'for every input' (looked for: loops, veiled, ifaces, maps, wideKeys, modest, calm, conditions, laid).
  DERIVED. THE GIVEN ROWS OF THIS SEAT. 6 by the template 'for every input the law returns true; each argument reads behind the call as it read before'; 0 by the template 'total and deterministic' (their statements: YtjgahidfhagafaaTotals.lean).
  GIVEN WITH THE SEED: the statements are not yours to turn. If you find one false, say at which input.
  Laid BY PROGRAM, IN A SANDBOX (cutbox-rows.mjs): the forced cells as the released guide's own fill.sh prints them over the translation 8d6356e365508599… (all of the seat's roots in one cut). By AI agents, Wed Nov 11 2026. No macro, syntax, notation, axiom, sorry.
-/
import Derived.Test.YtjgahidfhagafaaChecked
import GoSem.Claim
import GoSem.ClaimJoined
import GoSem.ClaimMapViews
import Derived.JoinedTies
import Derived.KernelRfl
namespace Go.Proofs.Ytjgahidfhagafaa
/- THE CELL 'sum', in the pinned program and in every row, IS THE sha256 OF THE DUMP (.gsa) THAT YtjgahidfhagafaaProg.lean LOADS. Nothing in Lean hashes anything: it is a label: what it is worth is what the hold of that sum in a sandbox is worth. -/
noncomputable def Try.pinned : Pinned := { name := "ytjgahidfhagafaa", sum := "8d6356e365508599422164922861da21c4ef708c124e0158ffd91a1f2d43a7f5", checked := Try.checked }
namespace Rows
def none {H : Type} : Left H := { results := [], args := [] }

/-- 'girderlaw01.RawSums': WHATEVER THE INPUT: true; the input reads as it did. -/
def rawSumsSpec : ChangeSpec := { name := "rawSums", fn := fun _ => fun
  | [d1, d2, d3] => { results := [.lit (.bool true)], args := [d1, d2, d3] }
  | _ => none }
def rawSumsRow : OpenClaim := { program := "ytjgahidfhagafaa", sum := "8d6356e365508599422164922861da21c4ef708c124e0158ffd91a1f2d43a7f5", func := "girder/girderlaw01.RawSums", spec := "rawSums", apart := false }
def RawSumsSaid : Prop := rawSumsRow.holds Try.pinned (OpenSpec.ofChange rawSumsSpec)

/-- ITS FALSE NEIGHBOUR: 'it returns false'. Refute it at one input. -/
def rawSumsWrong : ChangeSpec := { name := "rawSums", fn := fun _ => fun
  | [d1, d2, d3] => { results := [.lit (.bool false)], args := [d1, d2, d3] }
  | _ => none }
def RawSumsWrongFalsely : Prop := rawSumsRow.holds Try.pinned (OpenSpec.ofChange rawSumsWrong)

/-- 'girderlaw01.RawBursts': WHATEVER THE INPUT: true; the input reads as it did. -/
def rawBurstsSpec : ChangeSpec := { name := "rawBursts", fn := fun _ => fun
  | [d1, d2, d3] => { results := [.lit (.bool true)], args := [d1, d2, d3] }
  | _ => none }
def rawBurstsRow : OpenClaim := { program := "ytjgahidfhagafaa", sum := "8d6356e365508599422164922861da21c4ef708c124e0158ffd91a1f2d43a7f5", func := "girder/girderlaw01.RawBursts", spec := "rawBursts", apart := false }
def RawBurstsSaid : Prop := rawBurstsRow.holds Try.pinned (OpenSpec.ofChange rawBurstsSpec)

/-- ITS FALSE NEIGHBOUR: 'it returns false'. Refute it at one input. -/
def rawBurstsWrong : ChangeSpec := { name := "rawBursts", fn := fun _ => fun
  | [d1, d2, d3] => { results := [.lit (.bool false)], args := [d1, d2, d3] }
  | _ => none }
def RawBurstsWrongFalsely : Prop := rawBurstsRow.holds Try.pinned (OpenSpec.ofChange rawBurstsWrong)

/-- 'girderlaw01.RawNumbers': WHATEVER THE INPUT: true; the input reads as it did. -/
def rawNumbersSpec : ChangeSpec := { name := "rawNumbers", fn := fun _ => fun
  | [d1, d2, d3] => { results := [.lit (.bool true)], args := [d1, d2, d3] }
  | _ => none }
def rawNumbersRow : OpenClaim := { program := "ytjgahidfhagafaa", sum := "8d6356e365508599422164922861da21c4ef708c124e0158ffd91a1f2d43a7f5", func := "girder/girderlaw01.RawNumbers", spec := "rawNumbers", apart := false }
def RawNumbersSaid : Prop := rawNumbersRow.holds Try.pinned (OpenSpec.ofChange rawNumbersSpec)

/-- ITS FALSE NEIGHBOUR: 'it returns false'. Refute it at one input. -/
def rawNumbersWrong : ChangeSpec := { name := "rawNumbers", fn := fun _ => fun
  | [d1, d2, d3] => { results := [.lit (.bool false)], args := [d1, d2, d3] }
  | _ => none }
def RawNumbersWrongFalsely : Prop := rawNumbersRow.holds Try.pinned (OpenSpec.ofChange rawNumbersWrong)

/-- 'girderlaw01.RawReads': WHATEVER THE INPUT: true; the input reads as it did. -/
def rawReadsSpec : ChangeSpec := { name := "rawReads", fn := fun _ => fun
  | [d1, d2] => { results := [.lit (.bool true)], args := [d1, d2] }
  | _ => none }
def rawReadsRow : OpenClaim := { program := "ytjgahidfhagafaa", sum := "8d6356e365508599422164922861da21c4ef708c124e0158ffd91a1f2d43a7f5", func := "girder/girderlaw01.RawReads", spec := "rawReads", apart := false }
def RawReadsSaid : Prop := rawReadsRow.holds Try.pinned (OpenSpec.ofChange rawReadsSpec)

/-- ITS FALSE NEIGHBOUR: 'it returns false'. Refute it at one input. -/
def rawReadsWrong : ChangeSpec := { name := "rawReads", fn := fun _ => fun
  | [d1, d2] => { results := [.lit (.bool false)], args := [d1, d2] }
  | _ => none }
def RawReadsWrongFalsely : Prop := rawReadsRow.holds Try.pinned (OpenSpec.ofChange rawReadsWrong)

/-- 'girderlaw01.RawBack': WHATEVER THE INPUT: true; the input reads as it did. -/
def rawBackSpec : ChangeSpec := { name := "rawBack", fn := fun _ => fun
  | [d] => { results := [.lit (.bool true)], args := [d] }
  | _ => none }
def rawBackRow : OpenClaim := { program := "ytjgahidfhagafaa", sum := "8d6356e365508599422164922861da21c4ef708c124e0158ffd91a1f2d43a7f5", func := "girder/girderlaw01.RawBack", spec := "rawBack", apart := false }
def RawBackSaid : Prop := rawBackRow.holds Try.pinned (OpenSpec.ofChange rawBackSpec)

/-- ITS FALSE NEIGHBOUR: 'it returns false'. Refute it at one input. -/
def rawBackWrong : ChangeSpec := { name := "rawBack", fn := fun _ => fun
  | [d] => { results := [.lit (.bool false)], args := [d] }
  | _ => none }
def RawBackWrongFalsely : Prop := rawBackRow.holds Try.pinned (OpenSpec.ofChange rawBackWrong)

/-- 'girderlaw01.RawWrites': WHATEVER THE INPUT: true; the input reads as it did. -/
def rawWritesSpec : ChangeSpec := { name := "rawWrites", fn := fun _ => fun
  | [d] => { results := [.lit (.bool true)], args := [d] }
  | _ => none }
def rawWritesRow : OpenClaim := { program := "ytjgahidfhagafaa", sum := "8d6356e365508599422164922861da21c4ef708c124e0158ffd91a1f2d43a7f5", func := "girder/girderlaw01.RawWrites", spec := "rawWrites", apart := false }
def RawWritesSaid : Prop := rawWritesRow.holds Try.pinned (OpenSpec.ofChange rawWritesSpec)

/-- ITS FALSE NEIGHBOUR: 'it returns false'. Refute it at one input. -/
def rawWritesWrong : ChangeSpec := { name := "rawWrites", fn := fun _ => fun
  | [d] => { results := [.lit (.bool false)], args := [d] }
  | _ => none }
def RawWritesWrongFalsely : Prop := rawWritesRow.holds Try.pinned (OpenSpec.ofChange rawWritesWrong)

/- THE SECOND FORM. 'bulk': how many values and letters a reading holds, each counted each time it is reached (what is shared counts as often as it is met; a slice's spare places count too). A statement '..UptoSaid' is the law's where the arguments, and the package variables that the reading takes, are together of bulk at most 1048576: NARROWER than '..Said'. Prove '..Said' where nothing that the law and all that it calls make is longer than what came in: it says more and counts as full. Else prove '..UptoSaid'. A law counts once. -/
mutual
def uptoBulk {H : Type} : DataW H → Nat
  | .lit (.string bytes) => bytes.length + 1
  | .lit _ => 1
  | .nil => 1
  | .ptr d => uptoBulk d + 1
  | .slice elems spare => uptoBulkAll elems + uptoBulkAll spare + 1
  | .agg parts => uptoBulkAll parts + 1
  | .iface _ d => uptoBulk d + 1
  | .map entries => uptoBulkEntries entries + 1
  | .held _ => 1
def uptoBulkAll {H : Type} : List (DataW H) → Nat
  | [] => 0
  | d :: r => uptoBulk d + uptoBulkAll r
def uptoBulkEntries {H : Type} : List (Lit × DataW H) → Nat
  | [] => 0
  | x :: r => uptoBulkEntry x + uptoBulkEntries r
def uptoBulkEntry {H : Type} : Lit × DataW H → Nat
  | (.string bytes, d) => bytes.length + uptoBulk d + 1
  | (_, d) => uptoBulk d + 1
 end
def uptoSmall : (H : Type) → List (DataW H) → Bool := fun _ ds => decide (uptoBulkAll ds ≤ 1048576)
def OpenSpec.upto (s : _root_.Go.ChangeSpec) : _root_.Go.OpenSpec := { _root_.Go.OpenSpec.ofChange s with cond := some uptoSmall }

/-- 'girderlaw01.RawSums', WHERE WHAT IT READS IS OF BULK AT MOST 1048576: true; the input reads as it did. -/
def rawSumsUptoRow : OpenClaim := { program := "ytjgahidfhagafaa", sum := "8d6356e365508599422164922861da21c4ef708c124e0158ffd91a1f2d43a7f5", func := "girder/girderlaw01.RawSums", spec := "rawSums", apart := false, narrowed := true }
def RawSumsUptoSaid : Prop := rawSumsUptoRow.holds Try.pinned (OpenSpec.upto rawSumsSpec)

/-- 'girderlaw01.RawBursts', WHERE WHAT IT READS IS OF BULK AT MOST 1048576: true; the input reads as it did. -/
def rawBurstsUptoRow : OpenClaim := { program := "ytjgahidfhagafaa", sum := "8d6356e365508599422164922861da21c4ef708c124e0158ffd91a1f2d43a7f5", func := "girder/girderlaw01.RawBursts", spec := "rawBursts", apart := false, narrowed := true }
def RawBurstsUptoSaid : Prop := rawBurstsUptoRow.holds Try.pinned (OpenSpec.upto rawBurstsSpec)

/-- 'girderlaw01.RawNumbers', WHERE WHAT IT READS IS OF BULK AT MOST 1048576: true; the input reads as it did. -/
def rawNumbersUptoRow : OpenClaim := { program := "ytjgahidfhagafaa", sum := "8d6356e365508599422164922861da21c4ef708c124e0158ffd91a1f2d43a7f5", func := "girder/girderlaw01.RawNumbers", spec := "rawNumbers", apart := false, narrowed := true }
def RawNumbersUptoSaid : Prop := rawNumbersUptoRow.holds Try.pinned (OpenSpec.upto rawNumbersSpec)

/-- 'girderlaw01.RawReads', WHERE WHAT IT READS IS OF BULK AT MOST 1048576: true; the input reads as it did. -/
def rawReadsUptoRow : OpenClaim := { program := "ytjgahidfhagafaa", sum := "8d6356e365508599422164922861da21c4ef708c124e0158ffd91a1f2d43a7f5", func := "girder/girderlaw01.RawReads", spec := "rawReads", apart := false, narrowed := true }
def RawReadsUptoSaid : Prop := rawReadsUptoRow.holds Try.pinned (OpenSpec.upto rawReadsSpec)

/-- 'girderlaw01.RawBack', WHERE WHAT IT READS IS OF BULK AT MOST 1048576: true; the input reads as it did. -/
def rawBackUptoRow : OpenClaim := { program := "ytjgahidfhagafaa", sum := "8d6356e365508599422164922861da21c4ef708c124e0158ffd91a1f2d43a7f5", func := "girder/girderlaw01.RawBack", spec := "rawBack", apart := false, narrowed := true }
def RawBackUptoSaid : Prop := rawBackUptoRow.holds Try.pinned (OpenSpec.upto rawBackSpec)

/-- 'girderlaw01.RawWrites', WHERE WHAT IT READS IS OF BULK AT MOST 1048576: true; the input reads as it did. -/
def rawWritesUptoRow : OpenClaim := { program := "ytjgahidfhagafaa", sum := "8d6356e365508599422164922861da21c4ef708c124e0158ffd91a1f2d43a7f5", func := "girder/girderlaw01.RawWrites", spec := "rawWrites", apart := false, narrowed := true }
def RawWritesUptoSaid : Prop := rawWritesUptoRow.holds Try.pinned (OpenSpec.upto rawWritesSpec)

end Rows
end Go.Proofs.Ytjgahidfhagafaa
