/-
  No cell of these rows narrows 'for every input' (looked for: loops, veiled, ifaces, maps, wideKeys, modest, calm, conditions, laid).
  DERIVED. THE GIVEN ROWS OF THIS SEAT. 7 by the template 'for every input the law returns true; each argument reads behind the call as it read before'; 0 by the template 'total and deterministic' (their statements: YtgappocmdbaahaaTotals.lean).
  GIVEN WITH THE SEED: the statements are not yours to turn. If you find one false, say at which input.
  Laid BY PROGRAM, IN A SANDBOX (cutbox-rows.mjs): the forced cells as the released guide's own fill.sh prints them over the translation 5cdb23182a631668… (all of the seat's roots in one cut). By AI agents, Wed Nov 11 2026. No macro, syntax, notation, axiom, sorry.
-/
import Derived.Test.YtgappocmdbaahaaChecked
import GoSem.Claim
import GoSem.ClaimJoined
import GoSem.ClaimMapViews
import Derived.JoinedTies
import Derived.KernelRfl
namespace Go.Proofs.Ytgappocmdbaahaa
/- THE CELL 'sum', in the pinned program and in every row, IS THE sha256 OF THE DUMP (.gsa) THAT YtgappocmdbaahaaProg.lean LOADS. Nothing in Lean hashes anything: it is a label: what it is worth is what the hold of that sum in a sandbox is worth. -/
noncomputable def Try.pinned : Pinned := { name := "ytgappocmdbaahaa", sum := "5cdb23182a631668afa8773426aab72a2d50c7887ab5eec045e306491551cec1", checked := Try.checked }
namespace Rows
def none {H : Type} : Left H := { results := [], args := [] }

/-- 'laws.FnExactSupportOf': WHATEVER THE INPUT: true; the input reads as it did. -/
def fnExactSupportOfSpec : ChangeSpec := { name := "fnExactSupportOf", fn := fun _ => fun
  | [d] => { results := [.lit (.bool true)], args := [d] }
  | _ => none }
def fnExactSupportOfRow : OpenClaim := { program := "ytgappocmdbaahaa", sum := "5cdb23182a631668afa8773426aab72a2d50c7887ab5eec045e306491551cec1", func := "loop.example/g02076/laws.FnExactSupportOf", spec := "fnExactSupportOf", recurses := true, apart := false }
def FnExactSupportOfSaid : Prop := fnExactSupportOfRow.holds Try.pinned (OpenSpec.ofChange fnExactSupportOfSpec)

/-- ITS FALSE NEIGHBOUR: 'it returns false'. Refute it at one input. -/
def fnExactSupportOfWrong : ChangeSpec := { name := "fnExactSupportOf", fn := fun _ => fun
  | [d] => { results := [.lit (.bool false)], args := [d] }
  | _ => none }
def FnExactSupportOfWrongFalsely : Prop := fnExactSupportOfRow.holds Try.pinned (OpenSpec.ofChange fnExactSupportOfWrong)

/-- 'laws.FnExactIsConnected': WHATEVER THE INPUT: true; the input reads as it did. -/
def fnExactIsConnectedSpec : ChangeSpec := { name := "fnExactIsConnected", fn := fun _ => fun
  | [d] => { results := [.lit (.bool true)], args := [d] }
  | _ => none }
def fnExactIsConnectedRow : OpenClaim := { program := "ytgappocmdbaahaa", sum := "5cdb23182a631668afa8773426aab72a2d50c7887ab5eec045e306491551cec1", func := "loop.example/g02076/laws.FnExactIsConnected", spec := "fnExactIsConnected", recurses := true, apart := false }
def FnExactIsConnectedSaid : Prop := fnExactIsConnectedRow.holds Try.pinned (OpenSpec.ofChange fnExactIsConnectedSpec)

/-- ITS FALSE NEIGHBOUR: 'it returns false'. Refute it at one input. -/
def fnExactIsConnectedWrong : ChangeSpec := { name := "fnExactIsConnected", fn := fun _ => fun
  | [d] => { results := [.lit (.bool false)], args := [d] }
  | _ => none }
def FnExactIsConnectedWrongFalsely : Prop := fnExactIsConnectedRow.holds Try.pinned (OpenSpec.ofChange fnExactIsConnectedWrong)

/-- 'laws.FnExactHasCycle': WHATEVER THE INPUT: true; the input reads as it did. -/
def fnExactHasCycleSpec : ChangeSpec := { name := "fnExactHasCycle", fn := fun _ => fun
  | [d] => { results := [.lit (.bool true)], args := [d] }
  | _ => none }
def fnExactHasCycleRow : OpenClaim := { program := "ytgappocmdbaahaa", sum := "5cdb23182a631668afa8773426aab72a2d50c7887ab5eec045e306491551cec1", func := "loop.example/g02076/laws.FnExactHasCycle", spec := "fnExactHasCycle", recurses := true, apart := false }
def FnExactHasCycleSaid : Prop := fnExactHasCycleRow.holds Try.pinned (OpenSpec.ofChange fnExactHasCycleSpec)

/-- ITS FALSE NEIGHBOUR: 'it returns false'. Refute it at one input. -/
def fnExactHasCycleWrong : ChangeSpec := { name := "fnExactHasCycle", fn := fun _ => fun
  | [d] => { results := [.lit (.bool false)], args := [d] }
  | _ => none }
def FnExactHasCycleWrongFalsely : Prop := fnExactHasCycleRow.holds Try.pinned (OpenSpec.ofChange fnExactHasCycleWrong)

/-- 'laws.FnExactRelabelCartan': WHATEVER THE INPUT: true; the input reads as it did. -/
def fnExactRelabelCartanSpec : ChangeSpec := { name := "fnExactRelabelCartan", fn := fun _ => fun
  | [d1, d2] => { results := [.lit (.bool true)], args := [d1, d2] }
  | _ => none }
def fnExactRelabelCartanRow : OpenClaim := { program := "ytgappocmdbaahaa", sum := "5cdb23182a631668afa8773426aab72a2d50c7887ab5eec045e306491551cec1", func := "loop.example/g02076/laws.FnExactRelabelCartan", spec := "fnExactRelabelCartan", recurses := true, apart := false }
def FnExactRelabelCartanSaid : Prop := fnExactRelabelCartanRow.holds Try.pinned (OpenSpec.ofChange fnExactRelabelCartanSpec)

/-- ITS FALSE NEIGHBOUR: 'it returns false'. Refute it at one input. -/
def fnExactRelabelCartanWrong : ChangeSpec := { name := "fnExactRelabelCartan", fn := fun _ => fun
  | [d1, d2] => { results := [.lit (.bool false)], args := [d1, d2] }
  | _ => none }
def FnExactRelabelCartanWrongFalsely : Prop := fnExactRelabelCartanRow.holds Try.pinned (OpenSpec.ofChange fnExactRelabelCartanWrong)

/-- 'laws.FnExactPartsOf': WHATEVER THE INPUT: true; the input reads as it did. -/
def fnExactPartsOfSpec : ChangeSpec := { name := "fnExactPartsOf", fn := fun _ => fun
  | [d] => { results := [.lit (.bool true)], args := [d] }
  | _ => none }
def fnExactPartsOfRow : OpenClaim := { program := "ytgappocmdbaahaa", sum := "5cdb23182a631668afa8773426aab72a2d50c7887ab5eec045e306491551cec1", func := "loop.example/g02076/laws.FnExactPartsOf", spec := "fnExactPartsOf", recurses := true, apart := false }
def FnExactPartsOfSaid : Prop := fnExactPartsOfRow.holds Try.pinned (OpenSpec.ofChange fnExactPartsOfSpec)

/-- ITS FALSE NEIGHBOUR: 'it returns false'. Refute it at one input. -/
def fnExactPartsOfWrong : ChangeSpec := { name := "fnExactPartsOf", fn := fun _ => fun
  | [d] => { results := [.lit (.bool false)], args := [d] }
  | _ => none }
def FnExactPartsOfWrongFalsely : Prop := fnExactPartsOfRow.holds Try.pinned (OpenSpec.ofChange fnExactPartsOfWrong)

/-- 'laws.FnExactIsAffine': WHATEVER THE INPUT: true; the input reads as it did. -/
def fnExactIsAffineSpec : ChangeSpec := { name := "fnExactIsAffine", fn := fun _ => fun
  | [d] => { results := [.lit (.bool true)], args := [d] }
  | _ => none }
def fnExactIsAffineRow : OpenClaim := { program := "ytgappocmdbaahaa", sum := "5cdb23182a631668afa8773426aab72a2d50c7887ab5eec045e306491551cec1", func := "loop.example/g02076/laws.FnExactIsAffine", spec := "fnExactIsAffine", recurses := true, apart := false }
def FnExactIsAffineSaid : Prop := fnExactIsAffineRow.holds Try.pinned (OpenSpec.ofChange fnExactIsAffineSpec)

/-- ITS FALSE NEIGHBOUR: 'it returns false'. Refute it at one input. -/
def fnExactIsAffineWrong : ChangeSpec := { name := "fnExactIsAffine", fn := fun _ => fun
  | [d] => { results := [.lit (.bool false)], args := [d] }
  | _ => none }
def FnExactIsAffineWrongFalsely : Prop := fnExactIsAffineRow.holds Try.pinned (OpenSpec.ofChange fnExactIsAffineWrong)

/-- 'laws.FnWords': WHATEVER THE INPUT: true; the input reads as it did. -/
def fnWordsSpec : ChangeSpec := { name := "fnWords", fn := fun _ => fun
  | [d] => { results := [.lit (.bool true)], args := [d] }
  | _ => none }
def fnWordsRow : OpenClaim := { program := "ytgappocmdbaahaa", sum := "5cdb23182a631668afa8773426aab72a2d50c7887ab5eec045e306491551cec1", func := "loop.example/g02076/laws.FnWords", spec := "fnWords", recurses := true, apart := false }
def FnWordsSaid : Prop := fnWordsRow.holds Try.pinned (OpenSpec.ofChange fnWordsSpec)

/-- ITS FALSE NEIGHBOUR: 'it returns false'. Refute it at one input. -/
def fnWordsWrong : ChangeSpec := { name := "fnWords", fn := fun _ => fun
  | [d] => { results := [.lit (.bool false)], args := [d] }
  | _ => none }
def FnWordsWrongFalsely : Prop := fnWordsRow.holds Try.pinned (OpenSpec.ofChange fnWordsWrong)

/- THE SECOND FORM. 'bulk': how many values and letters a reading holds, each counted each time it is reached (what is shared counts as often as it is met; a slice's spare places count too). A statement '..UptoSaid' is the law's where the arguments, and the package variables that the reading takes, are together of bulk at most 1048576: NARROWER than '..Said'. Prove '..Said' where nothing that the law and all that it calls make is longer than what came in: it says more and counts as full. Else prove '..UptoSaid'. A law counts once. -/
mutual
def uptoBulk {H : Type} : DataW H → Nat
  | .lit (.string bytes) => bytes.length + 1
  | .lit _ => 1
  | .nil => 1
  | .ptr d => uptoBulk d + 1
  | .slice elems spare => uptoBulkAll elems + uptoBulkAll spare + 1
  | .agg parts => uptoBulkAll parts + 1
  | .iface _ d => uptoBulk d + 1
  | .map entries => uptoBulkEntries entries + 1
  | .held _ => 1
def uptoBulkAll {H : Type} : List (DataW H) → Nat
  | [] => 0
  | d :: r => uptoBulk d + uptoBulkAll r
def uptoBulkEntries {H : Type} : List (Lit × DataW H) → Nat
  | [] => 0
  | x :: r => uptoBulkEntry x + uptoBulkEntries r
def uptoBulkEntry {H : Type} : Lit × DataW H → Nat
  | (.string bytes, d) => bytes.length + uptoBulk d + 1
  | (_, d) => uptoBulk d + 1
 end
def uptoSmall : (H : Type) → List (DataW H) → Bool := fun _ ds => decide (uptoBulkAll ds ≤ 1048576)
def OpenSpec.upto (s : _root_.Go.ChangeSpec) : _root_.Go.OpenSpec := { _root_.Go.OpenSpec.ofChange s with cond := some uptoSmall }

/-- 'laws.FnExactSupportOf', WHERE WHAT IT READS IS OF BULK AT MOST 1048576: true; the input reads as it did. -/
def fnExactSupportOfUptoRow : OpenClaim := { program := "ytgappocmdbaahaa", sum := "5cdb23182a631668afa8773426aab72a2d50c7887ab5eec045e306491551cec1", func := "loop.example/g02076/laws.FnExactSupportOf", spec := "fnExactSupportOf", recurses := true, apart := false, narrowed := true }
def FnExactSupportOfUptoSaid : Prop := fnExactSupportOfUptoRow.holds Try.pinned (OpenSpec.upto fnExactSupportOfSpec)

/-- 'laws.FnExactIsConnected', WHERE WHAT IT READS IS OF BULK AT MOST 1048576: true; the input reads as it did. -/
def fnExactIsConnectedUptoRow : OpenClaim := { program := "ytgappocmdbaahaa", sum := "5cdb23182a631668afa8773426aab72a2d50c7887ab5eec045e306491551cec1", func := "loop.example/g02076/laws.FnExactIsConnected", spec := "fnExactIsConnected", recurses := true, apart := false, narrowed := true }
def FnExactIsConnectedUptoSaid : Prop := fnExactIsConnectedUptoRow.holds Try.pinned (OpenSpec.upto fnExactIsConnectedSpec)

/-- 'laws.FnExactHasCycle', WHERE WHAT IT READS IS OF BULK AT MOST 1048576: true; the input reads as it did. -/
def fnExactHasCycleUptoRow : OpenClaim := { program := "ytgappocmdbaahaa", sum := "5cdb23182a631668afa8773426aab72a2d50c7887ab5eec045e306491551cec1", func := "loop.example/g02076/laws.FnExactHasCycle", spec := "fnExactHasCycle", recurses := true, apart := false, narrowed := true }
def FnExactHasCycleUptoSaid : Prop := fnExactHasCycleUptoRow.holds Try.pinned (OpenSpec.upto fnExactHasCycleSpec)

/-- 'laws.FnExactRelabelCartan', WHERE WHAT IT READS IS OF BULK AT MOST 1048576: true; the input reads as it did. -/
def fnExactRelabelCartanUptoRow : OpenClaim := { program := "ytgappocmdbaahaa", sum := "5cdb23182a631668afa8773426aab72a2d50c7887ab5eec045e306491551cec1", func := "loop.example/g02076/laws.FnExactRelabelCartan", spec := "fnExactRelabelCartan", recurses := true, apart := false, narrowed := true }
def FnExactRelabelCartanUptoSaid : Prop := fnExactRelabelCartanUptoRow.holds Try.pinned (OpenSpec.upto fnExactRelabelCartanSpec)

/-- 'laws.FnExactPartsOf', WHERE WHAT IT READS IS OF BULK AT MOST 1048576: true; the input reads as it did. -/
def fnExactPartsOfUptoRow : OpenClaim := { program := "ytgappocmdbaahaa", sum := "5cdb23182a631668afa8773426aab72a2d50c7887ab5eec045e306491551cec1", func := "loop.example/g02076/laws.FnExactPartsOf", spec := "fnExactPartsOf", recurses := true, apart := false, narrowed := true }
def FnExactPartsOfUptoSaid : Prop := fnExactPartsOfUptoRow.holds Try.pinned (OpenSpec.upto fnExactPartsOfSpec)

/-- 'laws.FnExactIsAffine', WHERE WHAT IT READS IS OF BULK AT MOST 1048576: true; the input reads as it did. -/
def fnExactIsAffineUptoRow : OpenClaim := { program := "ytgappocmdbaahaa", sum := "5cdb23182a631668afa8773426aab72a2d50c7887ab5eec045e306491551cec1", func := "loop.example/g02076/laws.FnExactIsAffine", spec := "fnExactIsAffine", recurses := true, apart := false, narrowed := true }
def FnExactIsAffineUptoSaid : Prop := fnExactIsAffineUptoRow.holds Try.pinned (OpenSpec.upto fnExactIsAffineSpec)

/-- 'laws.FnWords', WHERE WHAT IT READS IS OF BULK AT MOST 1048576: true; the input reads as it did. -/
def fnWordsUptoRow : OpenClaim := { program := "ytgappocmdbaahaa", sum := "5cdb23182a631668afa8773426aab72a2d50c7887ab5eec045e306491551cec1", func := "loop.example/g02076/laws.FnWords", spec := "fnWords", recurses := true, apart := false, narrowed := true }
def FnWordsUptoSaid : Prop := fnWordsUptoRow.holds Try.pinned (OpenSpec.upto fnWordsSpec)

end Rows
end Go.Proofs.Ytgappocmdbaahaa
