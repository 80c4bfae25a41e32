/-
  No cell of these rows narrows 'for every input' (looked for: loops, veiled, ifaces, maps, wideKeys, modest, calm, conditions, laid).
  DERIVED. THE GIVEN ROWS OF THIS SEAT. 12 by the template 'for every input the law returns true; each argument reads behind the call as it read before'; 0 by the template 'total and deterministic' (their statements: YtmenbeeeolaedaaTotals.lean).
  GIVEN WITH THE SEED: the statements are not yours to turn. If you find one false, say at which input.
  Laid BY PROGRAM, IN A SANDBOX (cutbox-rows.mjs): the forced cells as the released guide's own fill.sh prints them over the translation 74d9678c8db7039a… (all of the seat's roots in one cut). By AI agents, Wed Nov 11 2026. No macro, syntax, notation, axiom, sorry.
-/
import Derived.Test.YtmenbeeeolaedaaChecked
import GoSem.Claim
import GoSem.ClaimJoined
import GoSem.ClaimMapViews
import Derived.JoinedTies
import Derived.KernelRfl
namespace Go.Proofs.Ytmenbeeeolaedaa
/- THE CELL 'sum', in the pinned program and in every row, IS THE sha256 OF THE DUMP (.gsa) THAT YtmenbeeeolaedaaProg.lean LOADS. Nothing in Lean hashes anything: it is a label: what it is worth is what the hold of that sum in a sandbox is worth. -/
noncomputable def Try.pinned : Pinned := { name := "ytmenbeeeolaedaa", sum := "74d9678c8db7039ac0b67d424e15da9e0787d9b2455205b5c60b71fbf882e03d", checked := Try.checked }
namespace Rows
def none {H : Type} : Left H := { results := [], args := [] }

/-- 'laws.FnExactConcatWords': WHATEVER THE INPUT: true; the input reads as it did. -/
def fnExactConcatWordsSpec : ChangeSpec := { name := "fnExactConcatWords", fn := fun _ => fun
  | [d1, d2] => { results := [.lit (.bool true)], args := [d1, d2] }
  | _ => none }
def fnExactConcatWordsRow : OpenClaim := { program := "ytmenbeeeolaedaa", sum := "74d9678c8db7039ac0b67d424e15da9e0787d9b2455205b5c60b71fbf882e03d", func := "loop.example/g02076/laws.FnExactConcatWords", spec := "fnExactConcatWords", apart := false }
def FnExactConcatWordsSaid : Prop := fnExactConcatWordsRow.holds Try.pinned (OpenSpec.ofChange fnExactConcatWordsSpec)

/-- ITS FALSE NEIGHBOUR: 'it returns false'. Refute it at one input. -/
def fnExactConcatWordsWrong : ChangeSpec := { name := "fnExactConcatWords", fn := fun _ => fun
  | [d1, d2] => { results := [.lit (.bool false)], args := [d1, d2] }
  | _ => none }
def FnExactConcatWordsWrongFalsely : Prop := fnExactConcatWordsRow.holds Try.pinned (OpenSpec.ofChange fnExactConcatWordsWrong)

/-- 'laws.FnExactCompareWords': WHATEVER THE INPUT: true; the input reads as it did. -/
def fnExactCompareWordsSpec : ChangeSpec := { name := "fnExactCompareWords", fn := fun _ => fun
  | [d1, d2] => { results := [.lit (.bool true)], args := [d1, d2] }
  | _ => none }
def fnExactCompareWordsRow : OpenClaim := { program := "ytmenbeeeolaedaa", sum := "74d9678c8db7039ac0b67d424e15da9e0787d9b2455205b5c60b71fbf882e03d", func := "loop.example/g02076/laws.FnExactCompareWords", spec := "fnExactCompareWords", apart := false }
def FnExactCompareWordsSaid : Prop := fnExactCompareWordsRow.holds Try.pinned (OpenSpec.ofChange fnExactCompareWordsSpec)

/-- ITS FALSE NEIGHBOUR: 'it returns false'. Refute it at one input. -/
def fnExactCompareWordsWrong : ChangeSpec := { name := "fnExactCompareWords", fn := fun _ => fun
  | [d1, d2] => { results := [.lit (.bool false)], args := [d1, d2] }
  | _ => none }
def FnExactCompareWordsWrongFalsely : Prop := fnExactCompareWordsRow.holds Try.pinned (OpenSpec.ofChange fnExactCompareWordsWrong)

/-- 'laws.FnExactIsCartan': WHATEVER THE INPUT: true; the input reads as it did. -/
def fnExactIsCartanSpec : ChangeSpec := { name := "fnExactIsCartan", fn := fun _ => fun
  | [d] => { results := [.lit (.bool true)], args := [d] }
  | _ => none }
def fnExactIsCartanRow : OpenClaim := { program := "ytmenbeeeolaedaa", sum := "74d9678c8db7039ac0b67d424e15da9e0787d9b2455205b5c60b71fbf882e03d", func := "loop.example/g02076/laws.FnExactIsCartan", spec := "fnExactIsCartan", apart := false }
def FnExactIsCartanSaid : Prop := fnExactIsCartanRow.holds Try.pinned (OpenSpec.ofChange fnExactIsCartanSpec)

/-- ITS FALSE NEIGHBOUR: 'it returns false'. Refute it at one input. -/
def fnExactIsCartanWrong : ChangeSpec := { name := "fnExactIsCartan", fn := fun _ => fun
  | [d] => { results := [.lit (.bool false)], args := [d] }
  | _ => none }
def FnExactIsCartanWrongFalsely : Prop := fnExactIsCartanRow.holds Try.pinned (OpenSpec.ofChange fnExactIsCartanWrong)

/-- 'laws.FnExactEqualCartans': WHATEVER THE INPUT: true; the input reads as it did. -/
def fnExactEqualCartansSpec : ChangeSpec := { name := "fnExactEqualCartans", fn := fun _ => fun
  | [d1, d2] => { results := [.lit (.bool true)], args := [d1, d2] }
  | _ => none }
def fnExactEqualCartansRow : OpenClaim := { program := "ytmenbeeeolaedaa", sum := "74d9678c8db7039ac0b67d424e15da9e0787d9b2455205b5c60b71fbf882e03d", func := "loop.example/g02076/laws.FnExactEqualCartans", spec := "fnExactEqualCartans", unfollowed := true, recurses := true, apart := false }
def FnExactEqualCartansSaid : Prop := fnExactEqualCartansRow.holds Try.pinned (OpenSpec.ofChange fnExactEqualCartansSpec)

/-- ITS FALSE NEIGHBOUR: 'it returns false'. Refute it at one input. -/
def fnExactEqualCartansWrong : ChangeSpec := { name := "fnExactEqualCartans", fn := fun _ => fun
  | [d1, d2] => { results := [.lit (.bool false)], args := [d1, d2] }
  | _ => none }
def FnExactEqualCartansWrongFalsely : Prop := fnExactEqualCartansRow.holds Try.pinned (OpenSpec.ofChange fnExactEqualCartansWrong)

/-- 'laws.FnExactIsWeight': WHATEVER THE INPUT: true; the input reads as it did. -/
def fnExactIsWeightSpec : ChangeSpec := { name := "fnExactIsWeight", fn := fun _ => fun
  | [d1, d2] => { results := [.lit (.bool true)], args := [d1, d2] }
  | _ => none }
def fnExactIsWeightRow : OpenClaim := { program := "ytmenbeeeolaedaa", sum := "74d9678c8db7039ac0b67d424e15da9e0787d9b2455205b5c60b71fbf882e03d", func := "loop.example/g02076/laws.FnExactIsWeight", spec := "fnExactIsWeight", apart := false }
def FnExactIsWeightSaid : Prop := fnExactIsWeightRow.holds Try.pinned (OpenSpec.ofChange fnExactIsWeightSpec)

/-- ITS FALSE NEIGHBOUR: 'it returns false'. Refute it at one input. -/
def fnExactIsWeightWrong : ChangeSpec := { name := "fnExactIsWeight", fn := fun _ => fun
  | [d1, d2] => { results := [.lit (.bool false)], args := [d1, d2] }
  | _ => none }
def FnExactIsWeightWrongFalsely : Prop := fnExactIsWeightRow.holds Try.pinned (OpenSpec.ofChange fnExactIsWeightWrong)

/-- 'laws.FnExactIsWord': WHATEVER THE INPUT: true; the input reads as it did. -/
def fnExactIsWordSpec : ChangeSpec := { name := "fnExactIsWord", fn := fun _ => fun
  | [d1, d2] => { results := [.lit (.bool true)], args := [d1, d2] }
  | _ => none }
def fnExactIsWordRow : OpenClaim := { program := "ytmenbeeeolaedaa", sum := "74d9678c8db7039ac0b67d424e15da9e0787d9b2455205b5c60b71fbf882e03d", func := "loop.example/g02076/laws.FnExactIsWord", spec := "fnExactIsWord", apart := false }
def FnExactIsWordSaid : Prop := fnExactIsWordRow.holds Try.pinned (OpenSpec.ofChange fnExactIsWordSpec)

/-- ITS FALSE NEIGHBOUR: 'it returns false'. Refute it at one input. -/
def fnExactIsWordWrong : ChangeSpec := { name := "fnExactIsWord", fn := fun _ => fun
  | [d1, d2] => { results := [.lit (.bool false)], args := [d1, d2] }
  | _ => none }
def FnExactIsWordWrongFalsely : Prop := fnExactIsWordRow.holds Try.pinned (OpenSpec.ofChange fnExactIsWordWrong)

/-- 'laws.FnExactBondOf': WHATEVER THE INPUT: true; the input reads as it did. -/
def fnExactBondOfSpec : ChangeSpec := { name := "fnExactBondOf", fn := fun _ => fun
  | [d1, d2, d3] => { results := [.lit (.bool true)], args := [d1, d2, d3] }
  | _ => none }
def fnExactBondOfRow : OpenClaim := { program := "ytmenbeeeolaedaa", sum := "74d9678c8db7039ac0b67d424e15da9e0787d9b2455205b5c60b71fbf882e03d", func := "loop.example/g02076/laws.FnExactBondOf", spec := "fnExactBondOf", apart := false }
def FnExactBondOfSaid : Prop := fnExactBondOfRow.holds Try.pinned (OpenSpec.ofChange fnExactBondOfSpec)

/-- ITS FALSE NEIGHBOUR: 'it returns false'. Refute it at one input. -/
def fnExactBondOfWrong : ChangeSpec := { name := "fnExactBondOf", fn := fun _ => fun
  | [d1, d2, d3] => { results := [.lit (.bool false)], args := [d1, d2, d3] }
  | _ => none }
def FnExactBondOfWrongFalsely : Prop := fnExactBondOfRow.holds Try.pinned (OpenSpec.ofChange fnExactBondOfWrong)

/-- 'laws.FnExactRhoOf': WHATEVER THE INPUT: true; the input reads as it did. -/
def fnExactRhoOfSpec : ChangeSpec := { name := "fnExactRhoOf", fn := fun _ => fun
  | [d] => { results := [.lit (.bool true)], args := [d] }
  | _ => none }
def fnExactRhoOfRow : OpenClaim := { program := "ytmenbeeeolaedaa", sum := "74d9678c8db7039ac0b67d424e15da9e0787d9b2455205b5c60b71fbf882e03d", func := "loop.example/g02076/laws.FnExactRhoOf", spec := "fnExactRhoOf", apart := false }
def FnExactRhoOfSaid : Prop := fnExactRhoOfRow.holds Try.pinned (OpenSpec.ofChange fnExactRhoOfSpec)

/-- ITS FALSE NEIGHBOUR: 'it returns false'. Refute it at one input. -/
def fnExactRhoOfWrong : ChangeSpec := { name := "fnExactRhoOf", fn := fun _ => fun
  | [d] => { results := [.lit (.bool false)], args := [d] }
  | _ => none }
def FnExactRhoOfWrongFalsely : Prop := fnExactRhoOfRow.holds Try.pinned (OpenSpec.ofChange fnExactRhoOfWrong)

/-- 'laws.FnExactSimpleRootWeight': WHATEVER THE INPUT: true; the input reads as it did. -/
def fnExactSimpleRootWeightSpec : ChangeSpec := { name := "fnExactSimpleRootWeight", fn := fun _ => fun
  | [d1, d2] => { results := [.lit (.bool true)], args := [d1, d2] }
  | _ => none }
def fnExactSimpleRootWeightRow : OpenClaim := { program := "ytmenbeeeolaedaa", sum := "74d9678c8db7039ac0b67d424e15da9e0787d9b2455205b5c60b71fbf882e03d", func := "loop.example/g02076/laws.FnExactSimpleRootWeight", spec := "fnExactSimpleRootWeight", apart := false }
def FnExactSimpleRootWeightSaid : Prop := fnExactSimpleRootWeightRow.holds Try.pinned (OpenSpec.ofChange fnExactSimpleRootWeightSpec)

/-- ITS FALSE NEIGHBOUR: 'it returns false'. Refute it at one input. -/
def fnExactSimpleRootWeightWrong : ChangeSpec := { name := "fnExactSimpleRootWeight", fn := fun _ => fun
  | [d1, d2] => { results := [.lit (.bool false)], args := [d1, d2] }
  | _ => none }
def FnExactSimpleRootWeightWrongFalsely : Prop := fnExactSimpleRootWeightRow.holds Try.pinned (OpenSpec.ofChange fnExactSimpleRootWeightWrong)

/-- 'laws.FnExactNeighboursOf': WHATEVER THE INPUT: true; the input reads as it did. -/
def fnExactNeighboursOfSpec : ChangeSpec := { name := "fnExactNeighboursOf", fn := fun _ => fun
  | [d1, d2] => { results := [.lit (.bool true)], args := [d1, d2] }
  | _ => none }
def fnExactNeighboursOfRow : OpenClaim := { program := "ytmenbeeeolaedaa", sum := "74d9678c8db7039ac0b67d424e15da9e0787d9b2455205b5c60b71fbf882e03d", func := "loop.example/g02076/laws.FnExactNeighboursOf", spec := "fnExactNeighboursOf", apart := false }
def FnExactNeighboursOfSaid : Prop := fnExactNeighboursOfRow.holds Try.pinned (OpenSpec.ofChange fnExactNeighboursOfSpec)

/-- ITS FALSE NEIGHBOUR: 'it returns false'. Refute it at one input. -/
def fnExactNeighboursOfWrong : ChangeSpec := { name := "fnExactNeighboursOf", fn := fun _ => fun
  | [d1, d2] => { results := [.lit (.bool false)], args := [d1, d2] }
  | _ => none }
def FnExactNeighboursOfWrongFalsely : Prop := fnExactNeighboursOfRow.holds Try.pinned (OpenSpec.ofChange fnExactNeighboursOfWrong)

/-- 'laws.FnExactReflectWeight': WHATEVER THE INPUT: true; the input reads as it did. -/
def fnExactReflectWeightSpec : ChangeSpec := { name := "fnExactReflectWeight", fn := fun _ => fun
  | [d1, d2, d3] => { results := [.lit (.bool true)], args := [d1, d2, d3] }
  | _ => none }
def fnExactReflectWeightRow : OpenClaim := { program := "ytmenbeeeolaedaa", sum := "74d9678c8db7039ac0b67d424e15da9e0787d9b2455205b5c60b71fbf882e03d", func := "loop.example/g02076/laws.FnExactReflectWeight", spec := "fnExactReflectWeight", apart := false }
def FnExactReflectWeightSaid : Prop := fnExactReflectWeightRow.holds Try.pinned (OpenSpec.ofChange fnExactReflectWeightSpec)

/-- ITS FALSE NEIGHBOUR: 'it returns false'. Refute it at one input. -/
def fnExactReflectWeightWrong : ChangeSpec := { name := "fnExactReflectWeight", fn := fun _ => fun
  | [d1, d2, d3] => { results := [.lit (.bool false)], args := [d1, d2, d3] }
  | _ => none }
def FnExactReflectWeightWrongFalsely : Prop := fnExactReflectWeightRow.holds Try.pinned (OpenSpec.ofChange fnExactReflectWeightWrong)

/-- 'laws.FnExactDeterminantOf': WHATEVER THE INPUT: true; the input reads as it did. -/
def fnExactDeterminantOfSpec : ChangeSpec := { name := "fnExactDeterminantOf", fn := fun _ => fun
  | [d] => { results := [.lit (.bool true)], args := [d] }
  | _ => none }
def fnExactDeterminantOfRow : OpenClaim := { program := "ytmenbeeeolaedaa", sum := "74d9678c8db7039ac0b67d424e15da9e0787d9b2455205b5c60b71fbf882e03d", func := "loop.example/g02076/laws.FnExactDeterminantOf", spec := "fnExactDeterminantOf", recurses := true, apart := false }
def FnExactDeterminantOfSaid : Prop := fnExactDeterminantOfRow.holds Try.pinned (OpenSpec.ofChange fnExactDeterminantOfSpec)

/-- ITS FALSE NEIGHBOUR: 'it returns false'. Refute it at one input. -/
def fnExactDeterminantOfWrong : ChangeSpec := { name := "fnExactDeterminantOf", fn := fun _ => fun
  | [d] => { results := [.lit (.bool false)], args := [d] }
  | _ => none }
def FnExactDeterminantOfWrongFalsely : Prop := fnExactDeterminantOfRow.holds Try.pinned (OpenSpec.ofChange fnExactDeterminantOfWrong)

/- THE SECOND FORM. 'bulk': how many values and letters a reading holds, each counted each time it is reached (what is shared counts as often as it is met; a slice's spare places count too). A statement '..UptoSaid' is the law's where the arguments, and the package variables that the reading takes, are together of bulk at most 1048576: NARROWER than '..Said'. Prove '..Said' where nothing that the law and all that it calls make is longer than what came in: it says more and counts as full. Else prove '..UptoSaid'. A law counts once. -/
mutual
def uptoBulk {H : Type} : DataW H → Nat
  | .lit (.string bytes) => bytes.length + 1
  | .lit _ => 1
  | .nil => 1
  | .ptr d => uptoBulk d + 1
  | .slice elems spare => uptoBulkAll elems + uptoBulkAll spare + 1
  | .agg parts => uptoBulkAll parts + 1
  | .iface _ d => uptoBulk d + 1
  | .map entries => uptoBulkEntries entries + 1
  | .held _ => 1
def uptoBulkAll {H : Type} : List (DataW H) → Nat
  | [] => 0
  | d :: r => uptoBulk d + uptoBulkAll r
def uptoBulkEntries {H : Type} : List (Lit × DataW H) → Nat
  | [] => 0
  | x :: r => uptoBulkEntry x + uptoBulkEntries r
def uptoBulkEntry {H : Type} : Lit × DataW H → Nat
  | (.string bytes, d) => bytes.length + uptoBulk d + 1
  | (_, d) => uptoBulk d + 1
 end
def uptoSmall : (H : Type) → List (DataW H) → Bool := fun _ ds => decide (uptoBulkAll ds ≤ 1048576)
def OpenSpec.upto (s : _root_.Go.ChangeSpec) : _root_.Go.OpenSpec := { _root_.Go.OpenSpec.ofChange s with cond := some uptoSmall }

/-- 'laws.FnExactConcatWords', WHERE WHAT IT READS IS OF BULK AT MOST 1048576: true; the input reads as it did. -/
def fnExactConcatWordsUptoRow : OpenClaim := { program := "ytmenbeeeolaedaa", sum := "74d9678c8db7039ac0b67d424e15da9e0787d9b2455205b5c60b71fbf882e03d", func := "loop.example/g02076/laws.FnExactConcatWords", spec := "fnExactConcatWords", apart := false, narrowed := true }
def FnExactConcatWordsUptoSaid : Prop := fnExactConcatWordsUptoRow.holds Try.pinned (OpenSpec.upto fnExactConcatWordsSpec)

/-- 'laws.FnExactCompareWords', WHERE WHAT IT READS IS OF BULK AT MOST 1048576: true; the input reads as it did. -/
def fnExactCompareWordsUptoRow : OpenClaim := { program := "ytmenbeeeolaedaa", sum := "74d9678c8db7039ac0b67d424e15da9e0787d9b2455205b5c60b71fbf882e03d", func := "loop.example/g02076/laws.FnExactCompareWords", spec := "fnExactCompareWords", apart := false, narrowed := true }
def FnExactCompareWordsUptoSaid : Prop := fnExactCompareWordsUptoRow.holds Try.pinned (OpenSpec.upto fnExactCompareWordsSpec)

/-- 'laws.FnExactIsCartan', WHERE WHAT IT READS IS OF BULK AT MOST 1048576: true; the input reads as it did. -/
def fnExactIsCartanUptoRow : OpenClaim := { program := "ytmenbeeeolaedaa", sum := "74d9678c8db7039ac0b67d424e15da9e0787d9b2455205b5c60b71fbf882e03d", func := "loop.example/g02076/laws.FnExactIsCartan", spec := "fnExactIsCartan", apart := false, narrowed := true }
def FnExactIsCartanUptoSaid : Prop := fnExactIsCartanUptoRow.holds Try.pinned (OpenSpec.upto fnExactIsCartanSpec)

/-- 'laws.FnExactEqualCartans', WHERE WHAT IT READS IS OF BULK AT MOST 1048576: true; the input reads as it did. -/
def fnExactEqualCartansUptoRow : OpenClaim := { program := "ytmenbeeeolaedaa", sum := "74d9678c8db7039ac0b67d424e15da9e0787d9b2455205b5c60b71fbf882e03d", func := "loop.example/g02076/laws.FnExactEqualCartans", spec := "fnExactEqualCartans", unfollowed := true, recurses := true, apart := false, narrowed := true }
def FnExactEqualCartansUptoSaid : Prop := fnExactEqualCartansUptoRow.holds Try.pinned (OpenSpec.upto fnExactEqualCartansSpec)

/-- 'laws.FnExactIsWeight', WHERE WHAT IT READS IS OF BULK AT MOST 1048576: true; the input reads as it did. -/
def fnExactIsWeightUptoRow : OpenClaim := { program := "ytmenbeeeolaedaa", sum := "74d9678c8db7039ac0b67d424e15da9e0787d9b2455205b5c60b71fbf882e03d", func := "loop.example/g02076/laws.FnExactIsWeight", spec := "fnExactIsWeight", apart := false, narrowed := true }
def FnExactIsWeightUptoSaid : Prop := fnExactIsWeightUptoRow.holds Try.pinned (OpenSpec.upto fnExactIsWeightSpec)

/-- 'laws.FnExactIsWord', WHERE WHAT IT READS IS OF BULK AT MOST 1048576: true; the input reads as it did. -/
def fnExactIsWordUptoRow : OpenClaim := { program := "ytmenbeeeolaedaa", sum := "74d9678c8db7039ac0b67d424e15da9e0787d9b2455205b5c60b71fbf882e03d", func := "loop.example/g02076/laws.FnExactIsWord", spec := "fnExactIsWord", apart := false, narrowed := true }
def FnExactIsWordUptoSaid : Prop := fnExactIsWordUptoRow.holds Try.pinned (OpenSpec.upto fnExactIsWordSpec)

/-- 'laws.FnExactBondOf', WHERE WHAT IT READS IS OF BULK AT MOST 1048576: true; the input reads as it did. -/
def fnExactBondOfUptoRow : OpenClaim := { program := "ytmenbeeeolaedaa", sum := "74d9678c8db7039ac0b67d424e15da9e0787d9b2455205b5c60b71fbf882e03d", func := "loop.example/g02076/laws.FnExactBondOf", spec := "fnExactBondOf", apart := false, narrowed := true }
def FnExactBondOfUptoSaid : Prop := fnExactBondOfUptoRow.holds Try.pinned (OpenSpec.upto fnExactBondOfSpec)

/-- 'laws.FnExactRhoOf', WHERE WHAT IT READS IS OF BULK AT MOST 1048576: true; the input reads as it did. -/
def fnExactRhoOfUptoRow : OpenClaim := { program := "ytmenbeeeolaedaa", sum := "74d9678c8db7039ac0b67d424e15da9e0787d9b2455205b5c60b71fbf882e03d", func := "loop.example/g02076/laws.FnExactRhoOf", spec := "fnExactRhoOf", apart := false, narrowed := true }
def FnExactRhoOfUptoSaid : Prop := fnExactRhoOfUptoRow.holds Try.pinned (OpenSpec.upto fnExactRhoOfSpec)

/-- 'laws.FnExactSimpleRootWeight', WHERE WHAT IT READS IS OF BULK AT MOST 1048576: true; the input reads as it did. -/
def fnExactSimpleRootWeightUptoRow : OpenClaim := { program := "ytmenbeeeolaedaa", sum := "74d9678c8db7039ac0b67d424e15da9e0787d9b2455205b5c60b71fbf882e03d", func := "loop.example/g02076/laws.FnExactSimpleRootWeight", spec := "fnExactSimpleRootWeight", apart := false, narrowed := true }
def FnExactSimpleRootWeightUptoSaid : Prop := fnExactSimpleRootWeightUptoRow.holds Try.pinned (OpenSpec.upto fnExactSimpleRootWeightSpec)

/-- 'laws.FnExactNeighboursOf', WHERE WHAT IT READS IS OF BULK AT MOST 1048576: true; the input reads as it did. -/
def fnExactNeighboursOfUptoRow : OpenClaim := { program := "ytmenbeeeolaedaa", sum := "74d9678c8db7039ac0b67d424e15da9e0787d9b2455205b5c60b71fbf882e03d", func := "loop.example/g02076/laws.FnExactNeighboursOf", spec := "fnExactNeighboursOf", apart := false, narrowed := true }
def FnExactNeighboursOfUptoSaid : Prop := fnExactNeighboursOfUptoRow.holds Try.pinned (OpenSpec.upto fnExactNeighboursOfSpec)

/-- 'laws.FnExactReflectWeight', WHERE WHAT IT READS IS OF BULK AT MOST 1048576: true; the input reads as it did. -/
def fnExactReflectWeightUptoRow : OpenClaim := { program := "ytmenbeeeolaedaa", sum := "74d9678c8db7039ac0b67d424e15da9e0787d9b2455205b5c60b71fbf882e03d", func := "loop.example/g02076/laws.FnExactReflectWeight", spec := "fnExactReflectWeight", apart := false, narrowed := true }
def FnExactReflectWeightUptoSaid : Prop := fnExactReflectWeightUptoRow.holds Try.pinned (OpenSpec.upto fnExactReflectWeightSpec)

/-- 'laws.FnExactDeterminantOf', WHERE WHAT IT READS IS OF BULK AT MOST 1048576: true; the input reads as it did. -/
def fnExactDeterminantOfUptoRow : OpenClaim := { program := "ytmenbeeeolaedaa", sum := "74d9678c8db7039ac0b67d424e15da9e0787d9b2455205b5c60b71fbf882e03d", func := "loop.example/g02076/laws.FnExactDeterminantOf", spec := "fnExactDeterminantOf", recurses := true, apart := false, narrowed := true }
def FnExactDeterminantOfUptoSaid : Prop := fnExactDeterminantOfUptoRow.holds Try.pinned (OpenSpec.upto fnExactDeterminantOfSpec)

end Rows
end Go.Proofs.Ytmenbeeeolaedaa
