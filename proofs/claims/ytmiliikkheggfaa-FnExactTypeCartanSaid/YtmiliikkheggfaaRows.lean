/-
  No cell of these rows narrows 'for every input' (looked for: loops, veiled, ifaces, maps, wideKeys, modest, calm, conditions, laid).
  DERIVED. THE GIVEN ROWS OF THIS SEAT. 11 by the template 'for every input the law returns true; each argument reads behind the call as it read before'; 0 by the template 'total and deterministic' (their statements: YtmiliikkheggfaaTotals.lean).
  GIVEN WITH THE SEED: the statements are not yours to turn. If you find one false, say at which input.
  Laid BY PROGRAM, IN A SANDBOX (cutbox-rows.mjs): the forced cells as the released guide's own fill.sh prints them over the translation 007fd81f1e8bcc8c… (all of the seat's roots in one cut). By AI agents, Wed Nov 11 2026. No macro, syntax, notation, axiom, sorry.
-/
import Derived.Test.YtmiliikkheggfaaChecked
import GoSem.Claim
import GoSem.ClaimJoined
import GoSem.ClaimMapViews
import Derived.JoinedTies
import Derived.KernelRfl
namespace Go.Proofs.Ytmiliikkheggfaa
/- THE CELL 'sum', in the pinned program and in every row, IS THE sha256 OF THE DUMP (.gsa) THAT YtmiliikkheggfaaProg.lean LOADS. Nothing in Lean hashes anything: it is a label: what it is worth is what the hold of that sum in a sandbox is worth. -/
noncomputable def Try.pinned : Pinned := { name := "ytmiliikkheggfaa", sum := "007fd81f1e8bcc8c872159a4aff2784fd619315111ea904afb82c86aadc16753", checked := Try.checked }
namespace Rows
def none {H : Type} : Left H := { results := [], args := [] }

/-- 'laws.FnExactTransposeCartan': WHATEVER THE INPUT: true; the input reads as it did. -/
def fnExactTransposeCartanSpec : ChangeSpec := { name := "fnExactTransposeCartan", fn := fun _ => fun
  | [d] => { results := [.lit (.bool true)], args := [d] }
  | _ => none }
def fnExactTransposeCartanRow : OpenClaim := { program := "ytmiliikkheggfaa", sum := "007fd81f1e8bcc8c872159a4aff2784fd619315111ea904afb82c86aadc16753", func := "loop.example/g02076/laws.FnExactTransposeCartan", spec := "fnExactTransposeCartan", apart := false }
def FnExactTransposeCartanSaid : Prop := fnExactTransposeCartanRow.holds Try.pinned (OpenSpec.ofChange fnExactTransposeCartanSpec)

/-- ITS FALSE NEIGHBOUR: 'it returns false'. Refute it at one input. -/
def fnExactTransposeCartanWrong : ChangeSpec := { name := "fnExactTransposeCartan", fn := fun _ => fun
  | [d] => { results := [.lit (.bool false)], args := [d] }
  | _ => none }
def FnExactTransposeCartanWrongFalsely : Prop := fnExactTransposeCartanRow.holds Try.pinned (OpenSpec.ofChange fnExactTransposeCartanWrong)

/-- 'laws.FnExactJoinCartans': WHATEVER THE INPUT: true; the input reads as it did. -/
def fnExactJoinCartansSpec : ChangeSpec := { name := "fnExactJoinCartans", fn := fun _ => fun
  | [d1, d2] => { results := [.lit (.bool true)], args := [d1, d2] }
  | _ => none }
def fnExactJoinCartansRow : OpenClaim := { program := "ytmiliikkheggfaa", sum := "007fd81f1e8bcc8c872159a4aff2784fd619315111ea904afb82c86aadc16753", func := "loop.example/g02076/laws.FnExactJoinCartans", spec := "fnExactJoinCartans", apart := false }
def FnExactJoinCartansSaid : Prop := fnExactJoinCartansRow.holds Try.pinned (OpenSpec.ofChange fnExactJoinCartansSpec)

/-- ITS FALSE NEIGHBOUR: 'it returns false'. Refute it at one input. -/
def fnExactJoinCartansWrong : ChangeSpec := { name := "fnExactJoinCartans", fn := fun _ => fun
  | [d1, d2] => { results := [.lit (.bool false)], args := [d1, d2] }
  | _ => none }
def FnExactJoinCartansWrongFalsely : Prop := fnExactJoinCartansRow.holds Try.pinned (OpenSpec.ofChange fnExactJoinCartansWrong)

/-- 'laws.FnExactTypeCartan': WHATEVER THE INPUT: true; the input reads as it did. -/
def fnExactTypeCartanSpec : ChangeSpec := { name := "fnExactTypeCartan", fn := fun _ => fun
  | [d] => { results := [.lit (.bool true)], args := [d] }
  | _ => none }
def fnExactTypeCartanRow : OpenClaim := { program := "ytmiliikkheggfaa", sum := "007fd81f1e8bcc8c872159a4aff2784fd619315111ea904afb82c86aadc16753", func := "loop.example/g02076/laws.FnExactTypeCartan", spec := "fnExactTypeCartan", apart := false }
def FnExactTypeCartanSaid : Prop := fnExactTypeCartanRow.holds Try.pinned (OpenSpec.ofChange fnExactTypeCartanSpec)

/-- ITS FALSE NEIGHBOUR: 'it returns false'. Refute it at one input. -/
def fnExactTypeCartanWrong : ChangeSpec := { name := "fnExactTypeCartan", fn := fun _ => fun
  | [d] => { results := [.lit (.bool false)], args := [d] }
  | _ => none }
def FnExactTypeCartanWrongFalsely : Prop := fnExactTypeCartanRow.holds Try.pinned (OpenSpec.ofChange fnExactTypeCartanWrong)

/-- 'laws.FnExactActOnWeight': WHATEVER THE INPUT: true; the input reads as it did. -/
def fnExactActOnWeightSpec : ChangeSpec := { name := "fnExactActOnWeight", fn := fun _ => fun
  | [d1, d2, d3] => { results := [.lit (.bool true)], args := [d1, d2, d3] }
  | _ => none }
def fnExactActOnWeightRow : OpenClaim := { program := "ytmiliikkheggfaa", sum := "007fd81f1e8bcc8c872159a4aff2784fd619315111ea904afb82c86aadc16753", func := "loop.example/g02076/laws.FnExactActOnWeight", spec := "fnExactActOnWeight", apart := false }
def FnExactActOnWeightSaid : Prop := fnExactActOnWeightRow.holds Try.pinned (OpenSpec.ofChange fnExactActOnWeightSpec)

/-- ITS FALSE NEIGHBOUR: 'it returns false'. Refute it at one input. -/
def fnExactActOnWeightWrong : ChangeSpec := { name := "fnExactActOnWeight", fn := fun _ => fun
  | [d1, d2, d3] => { results := [.lit (.bool false)], args := [d1, d2, d3] }
  | _ => none }
def FnExactActOnWeightWrongFalsely : Prop := fnExactActOnWeightRow.holds Try.pinned (OpenSpec.ofChange fnExactActOnWeightWrong)

/-- 'laws.FnExactParseWord': WHATEVER THE INPUT: true; the input reads as it did. -/
def fnExactParseWordSpec : ChangeSpec := { name := "fnExactParseWord", fn := fun _ => fun
  | [d1, d2] => { results := [.lit (.bool true)], args := [d1, d2] }
  | _ => none }
def fnExactParseWordRow : OpenClaim := { program := "ytmiliikkheggfaa", sum := "007fd81f1e8bcc8c872159a4aff2784fd619315111ea904afb82c86aadc16753", func := "loop.example/g02076/laws.FnExactParseWord", spec := "fnExactParseWord", apart := false }
def FnExactParseWordSaid : Prop := fnExactParseWordRow.holds Try.pinned (OpenSpec.ofChange fnExactParseWordSpec)

/-- ITS FALSE NEIGHBOUR: 'it returns false'. Refute it at one input. -/
def fnExactParseWordWrong : ChangeSpec := { name := "fnExactParseWord", fn := fun _ => fun
  | [d1, d2] => { results := [.lit (.bool false)], args := [d1, d2] }
  | _ => none }
def FnExactParseWordWrongFalsely : Prop := fnExactParseWordRow.holds Try.pinned (OpenSpec.ofChange fnExactParseWordWrong)

/-- 'laws.FnExactSubCartan': WHATEVER THE INPUT: true; the input reads as it did. -/
def fnExactSubCartanSpec : ChangeSpec := { name := "fnExactSubCartan", fn := fun _ => fun
  | [d1, d2] => { results := [.lit (.bool true)], args := [d1, d2] }
  | _ => none }
def fnExactSubCartanRow : OpenClaim := { program := "ytmiliikkheggfaa", sum := "007fd81f1e8bcc8c872159a4aff2784fd619315111ea904afb82c86aadc16753", func := "loop.example/g02076/laws.FnExactSubCartan", spec := "fnExactSubCartan", apart := false }
def FnExactSubCartanSaid : Prop := fnExactSubCartanRow.holds Try.pinned (OpenSpec.ofChange fnExactSubCartanSpec)

/-- ITS FALSE NEIGHBOUR: 'it returns false'. Refute it at one input. -/
def fnExactSubCartanWrong : ChangeSpec := { name := "fnExactSubCartan", fn := fun _ => fun
  | [d1, d2] => { results := [.lit (.bool false)], args := [d1, d2] }
  | _ => none }
def FnExactSubCartanWrongFalsely : Prop := fnExactSubCartanRow.holds Try.pinned (OpenSpec.ofChange fnExactSubCartanWrong)

/-- 'laws.FnExactIsFinite': WHATEVER THE INPUT: true; the input reads as it did. -/
def fnExactIsFiniteSpec : ChangeSpec := { name := "fnExactIsFinite", fn := fun _ => fun
  | [d] => { results := [.lit (.bool true)], args := [d] }
  | _ => none }
def fnExactIsFiniteRow : OpenClaim := { program := "ytmiliikkheggfaa", sum := "007fd81f1e8bcc8c872159a4aff2784fd619315111ea904afb82c86aadc16753", func := "loop.example/g02076/laws.FnExactIsFinite", spec := "fnExactIsFinite", recurses := true, apart := false }
def FnExactIsFiniteSaid : Prop := fnExactIsFiniteRow.holds Try.pinned (OpenSpec.ofChange fnExactIsFiniteSpec)

/-- ITS FALSE NEIGHBOUR: 'it returns false'. Refute it at one input. -/
def fnExactIsFiniteWrong : ChangeSpec := { name := "fnExactIsFinite", fn := fun _ => fun
  | [d] => { results := [.lit (.bool false)], args := [d] }
  | _ => none }
def FnExactIsFiniteWrongFalsely : Prop := fnExactIsFiniteRow.holds Try.pinned (OpenSpec.ofChange fnExactIsFiniteWrong)

/-- 'laws.FnExactPrincipalMinors': WHATEVER THE INPUT: true; the input reads as it did. -/
def fnExactPrincipalMinorsSpec : ChangeSpec := { name := "fnExactPrincipalMinors", fn := fun _ => fun
  | [d] => { results := [.lit (.bool true)], args := [d] }
  | _ => none }
def fnExactPrincipalMinorsRow : OpenClaim := { program := "ytmiliikkheggfaa", sum := "007fd81f1e8bcc8c872159a4aff2784fd619315111ea904afb82c86aadc16753", func := "loop.example/g02076/laws.FnExactPrincipalMinors", spec := "fnExactPrincipalMinors", recurses := true, apart := false }
def FnExactPrincipalMinorsSaid : Prop := fnExactPrincipalMinorsRow.holds Try.pinned (OpenSpec.ofChange fnExactPrincipalMinorsSpec)

/-- ITS FALSE NEIGHBOUR: 'it returns false'. Refute it at one input. -/
def fnExactPrincipalMinorsWrong : ChangeSpec := { name := "fnExactPrincipalMinors", fn := fun _ => fun
  | [d] => { results := [.lit (.bool false)], args := [d] }
  | _ => none }
def FnExactPrincipalMinorsWrongFalsely : Prop := fnExactPrincipalMinorsRow.holds Try.pinned (OpenSpec.ofChange fnExactPrincipalMinorsWrong)

/-- 'laws.FnExactAreIsomorphic': WHATEVER THE INPUT: true; the input reads as it did. -/
def fnExactAreIsomorphicSpec : ChangeSpec := { name := "fnExactAreIsomorphic", fn := fun _ => fun
  | [d1, d2] => { results := [.lit (.bool true)], args := [d1, d2] }
  | _ => none }
def fnExactAreIsomorphicRow : OpenClaim := { program := "ytmiliikkheggfaa", sum := "007fd81f1e8bcc8c872159a4aff2784fd619315111ea904afb82c86aadc16753", func := "loop.example/g02076/laws.FnExactAreIsomorphic", spec := "fnExactAreIsomorphic", recurses := true, apart := false }
def FnExactAreIsomorphicSaid : Prop := fnExactAreIsomorphicRow.holds Try.pinned (OpenSpec.ofChange fnExactAreIsomorphicSpec)

/-- ITS FALSE NEIGHBOUR: 'it returns false'. Refute it at one input. -/
def fnExactAreIsomorphicWrong : ChangeSpec := { name := "fnExactAreIsomorphic", fn := fun _ => fun
  | [d1, d2] => { results := [.lit (.bool false)], args := [d1, d2] }
  | _ => none }
def FnExactAreIsomorphicWrongFalsely : Prop := fnExactAreIsomorphicRow.holds Try.pinned (OpenSpec.ofChange fnExactAreIsomorphicWrong)

/-- 'laws.FnExactSymmetriesOf': WHATEVER THE INPUT: true; the input reads as it did. -/
def fnExactSymmetriesOfSpec : ChangeSpec := { name := "fnExactSymmetriesOf", fn := fun _ => fun
  | [d] => { results := [.lit (.bool true)], args := [d] }
  | _ => none }
def fnExactSymmetriesOfRow : OpenClaim := { program := "ytmiliikkheggfaa", sum := "007fd81f1e8bcc8c872159a4aff2784fd619315111ea904afb82c86aadc16753", func := "loop.example/g02076/laws.FnExactSymmetriesOf", spec := "fnExactSymmetriesOf", recurses := true, apart := false }
def FnExactSymmetriesOfSaid : Prop := fnExactSymmetriesOfRow.holds Try.pinned (OpenSpec.ofChange fnExactSymmetriesOfSpec)

/-- ITS FALSE NEIGHBOUR: 'it returns false'. Refute it at one input. -/
def fnExactSymmetriesOfWrong : ChangeSpec := { name := "fnExactSymmetriesOf", fn := fun _ => fun
  | [d] => { results := [.lit (.bool false)], args := [d] }
  | _ => none }
def FnExactSymmetriesOfWrongFalsely : Prop := fnExactSymmetriesOfRow.holds Try.pinned (OpenSpec.ofChange fnExactSymmetriesOfWrong)

/-- 'laws.FnExactWitnessOf': WHATEVER THE INPUT: true; the input reads as it did. -/
def fnExactWitnessOfSpec : ChangeSpec := { name := "fnExactWitnessOf", fn := fun _ => fun
  | [d] => { results := [.lit (.bool true)], args := [d] }
  | _ => none }
def fnExactWitnessOfRow : OpenClaim := { program := "ytmiliikkheggfaa", sum := "007fd81f1e8bcc8c872159a4aff2784fd619315111ea904afb82c86aadc16753", func := "loop.example/g02076/laws.FnExactWitnessOf", spec := "fnExactWitnessOf", recurses := true, apart := false }
def FnExactWitnessOfSaid : Prop := fnExactWitnessOfRow.holds Try.pinned (OpenSpec.ofChange fnExactWitnessOfSpec)

/-- ITS FALSE NEIGHBOUR: 'it returns false'. Refute it at one input. -/
def fnExactWitnessOfWrong : ChangeSpec := { name := "fnExactWitnessOf", fn := fun _ => fun
  | [d] => { results := [.lit (.bool false)], args := [d] }
  | _ => none }
def FnExactWitnessOfWrongFalsely : Prop := fnExactWitnessOfRow.holds Try.pinned (OpenSpec.ofChange fnExactWitnessOfWrong)

/- THE SECOND FORM. 'bulk': how many values and letters a reading holds, each counted each time it is reached (what is shared counts as often as it is met; a slice's spare places count too). A statement '..UptoSaid' is the law's where the arguments, and the package variables that the reading takes, are together of bulk at most 1048576: NARROWER than '..Said'. Prove '..Said' where nothing that the law and all that it calls make is longer than what came in: it says more and counts as full. Else prove '..UptoSaid'. A law counts once. -/
mutual
def uptoBulk {H : Type} : DataW H → Nat
  | .lit (.string bytes) => bytes.length + 1
  | .lit _ => 1
  | .nil => 1
  | .ptr d => uptoBulk d + 1
  | .slice elems spare => uptoBulkAll elems + uptoBulkAll spare + 1
  | .agg parts => uptoBulkAll parts + 1
  | .iface _ d => uptoBulk d + 1
  | .map entries => uptoBulkEntries entries + 1
  | .held _ => 1
def uptoBulkAll {H : Type} : List (DataW H) → Nat
  | [] => 0
  | d :: r => uptoBulk d + uptoBulkAll r
def uptoBulkEntries {H : Type} : List (Lit × DataW H) → Nat
  | [] => 0
  | x :: r => uptoBulkEntry x + uptoBulkEntries r
def uptoBulkEntry {H : Type} : Lit × DataW H → Nat
  | (.string bytes, d) => bytes.length + uptoBulk d + 1
  | (_, d) => uptoBulk d + 1
 end
def uptoSmall : (H : Type) → List (DataW H) → Bool := fun _ ds => decide (uptoBulkAll ds ≤ 1048576)
def OpenSpec.upto (s : _root_.Go.ChangeSpec) : _root_.Go.OpenSpec := { _root_.Go.OpenSpec.ofChange s with cond := some uptoSmall }

/-- 'laws.FnExactTransposeCartan', WHERE WHAT IT READS IS OF BULK AT MOST 1048576: true; the input reads as it did. -/
def fnExactTransposeCartanUptoRow : OpenClaim := { program := "ytmiliikkheggfaa", sum := "007fd81f1e8bcc8c872159a4aff2784fd619315111ea904afb82c86aadc16753", func := "loop.example/g02076/laws.FnExactTransposeCartan", spec := "fnExactTransposeCartan", apart := false, narrowed := true }
def FnExactTransposeCartanUptoSaid : Prop := fnExactTransposeCartanUptoRow.holds Try.pinned (OpenSpec.upto fnExactTransposeCartanSpec)

/-- 'laws.FnExactJoinCartans', WHERE WHAT IT READS IS OF BULK AT MOST 1048576: true; the input reads as it did. -/
def fnExactJoinCartansUptoRow : OpenClaim := { program := "ytmiliikkheggfaa", sum := "007fd81f1e8bcc8c872159a4aff2784fd619315111ea904afb82c86aadc16753", func := "loop.example/g02076/laws.FnExactJoinCartans", spec := "fnExactJoinCartans", apart := false, narrowed := true }
def FnExactJoinCartansUptoSaid : Prop := fnExactJoinCartansUptoRow.holds Try.pinned (OpenSpec.upto fnExactJoinCartansSpec)

/-- 'laws.FnExactTypeCartan', WHERE WHAT IT READS IS OF BULK AT MOST 1048576: true; the input reads as it did. -/
def fnExactTypeCartanUptoRow : OpenClaim := { program := "ytmiliikkheggfaa", sum := "007fd81f1e8bcc8c872159a4aff2784fd619315111ea904afb82c86aadc16753", func := "loop.example/g02076/laws.FnExactTypeCartan", spec := "fnExactTypeCartan", apart := false, narrowed := true }
def FnExactTypeCartanUptoSaid : Prop := fnExactTypeCartanUptoRow.holds Try.pinned (OpenSpec.upto fnExactTypeCartanSpec)

/-- 'laws.FnExactActOnWeight', WHERE WHAT IT READS IS OF BULK AT MOST 1048576: true; the input reads as it did. -/
def fnExactActOnWeightUptoRow : OpenClaim := { program := "ytmiliikkheggfaa", sum := "007fd81f1e8bcc8c872159a4aff2784fd619315111ea904afb82c86aadc16753", func := "loop.example/g02076/laws.FnExactActOnWeight", spec := "fnExactActOnWeight", apart := false, narrowed := true }
def FnExactActOnWeightUptoSaid : Prop := fnExactActOnWeightUptoRow.holds Try.pinned (OpenSpec.upto fnExactActOnWeightSpec)

/-- 'laws.FnExactParseWord', WHERE WHAT IT READS IS OF BULK AT MOST 1048576: true; the input reads as it did. -/
def fnExactParseWordUptoRow : OpenClaim := { program := "ytmiliikkheggfaa", sum := "007fd81f1e8bcc8c872159a4aff2784fd619315111ea904afb82c86aadc16753", func := "loop.example/g02076/laws.FnExactParseWord", spec := "fnExactParseWord", apart := false, narrowed := true }
def FnExactParseWordUptoSaid : Prop := fnExactParseWordUptoRow.holds Try.pinned (OpenSpec.upto fnExactParseWordSpec)

/-- 'laws.FnExactSubCartan', WHERE WHAT IT READS IS OF BULK AT MOST 1048576: true; the input reads as it did. -/
def fnExactSubCartanUptoRow : OpenClaim := { program := "ytmiliikkheggfaa", sum := "007fd81f1e8bcc8c872159a4aff2784fd619315111ea904afb82c86aadc16753", func := "loop.example/g02076/laws.FnExactSubCartan", spec := "fnExactSubCartan", apart := false, narrowed := true }
def FnExactSubCartanUptoSaid : Prop := fnExactSubCartanUptoRow.holds Try.pinned (OpenSpec.upto fnExactSubCartanSpec)

/-- 'laws.FnExactIsFinite', WHERE WHAT IT READS IS OF BULK AT MOST 1048576: true; the input reads as it did. -/
def fnExactIsFiniteUptoRow : OpenClaim := { program := "ytmiliikkheggfaa", sum := "007fd81f1e8bcc8c872159a4aff2784fd619315111ea904afb82c86aadc16753", func := "loop.example/g02076/laws.FnExactIsFinite", spec := "fnExactIsFinite", recurses := true, apart := false, narrowed := true }
def FnExactIsFiniteUptoSaid : Prop := fnExactIsFiniteUptoRow.holds Try.pinned (OpenSpec.upto fnExactIsFiniteSpec)

/-- 'laws.FnExactPrincipalMinors', WHERE WHAT IT READS IS OF BULK AT MOST 1048576: true; the input reads as it did. -/
def fnExactPrincipalMinorsUptoRow : OpenClaim := { program := "ytmiliikkheggfaa", sum := "007fd81f1e8bcc8c872159a4aff2784fd619315111ea904afb82c86aadc16753", func := "loop.example/g02076/laws.FnExactPrincipalMinors", spec := "fnExactPrincipalMinors", recurses := true, apart := false, narrowed := true }
def FnExactPrincipalMinorsUptoSaid : Prop := fnExactPrincipalMinorsUptoRow.holds Try.pinned (OpenSpec.upto fnExactPrincipalMinorsSpec)

/-- 'laws.FnExactAreIsomorphic', WHERE WHAT IT READS IS OF BULK AT MOST 1048576: true; the input reads as it did. -/
def fnExactAreIsomorphicUptoRow : OpenClaim := { program := "ytmiliikkheggfaa", sum := "007fd81f1e8bcc8c872159a4aff2784fd619315111ea904afb82c86aadc16753", func := "loop.example/g02076/laws.FnExactAreIsomorphic", spec := "fnExactAreIsomorphic", recurses := true, apart := false, narrowed := true }
def FnExactAreIsomorphicUptoSaid : Prop := fnExactAreIsomorphicUptoRow.holds Try.pinned (OpenSpec.upto fnExactAreIsomorphicSpec)

/-- 'laws.FnExactSymmetriesOf', WHERE WHAT IT READS IS OF BULK AT MOST 1048576: true; the input reads as it did. -/
def fnExactSymmetriesOfUptoRow : OpenClaim := { program := "ytmiliikkheggfaa", sum := "007fd81f1e8bcc8c872159a4aff2784fd619315111ea904afb82c86aadc16753", func := "loop.example/g02076/laws.FnExactSymmetriesOf", spec := "fnExactSymmetriesOf", recurses := true, apart := false, narrowed := true }
def FnExactSymmetriesOfUptoSaid : Prop := fnExactSymmetriesOfUptoRow.holds Try.pinned (OpenSpec.upto fnExactSymmetriesOfSpec)

/-- 'laws.FnExactWitnessOf', WHERE WHAT IT READS IS OF BULK AT MOST 1048576: true; the input reads as it did. -/
def fnExactWitnessOfUptoRow : OpenClaim := { program := "ytmiliikkheggfaa", sum := "007fd81f1e8bcc8c872159a4aff2784fd619315111ea904afb82c86aadc16753", func := "loop.example/g02076/laws.FnExactWitnessOf", spec := "fnExactWitnessOf", recurses := true, apart := false, narrowed := true }
def FnExactWitnessOfUptoSaid : Prop := fnExactWitnessOfUptoRow.holds Try.pinned (OpenSpec.upto fnExactWitnessOfSpec)

end Rows
end Go.Proofs.Ytmiliikkheggfaa
