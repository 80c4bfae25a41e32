/-
  DERIVED. GIVEN WITH THE SEED: THE CARDS: each row of YtaikjkcbgniplaaGreatDoorRows.lean that lists a variable, with what it lists TIED to the program's text (the seventh form; the later family's looks); each row that meets fmt, with fmt's text TOLD by the authors' own Lean function (tested against real Go, not proved from fmt's source: count such statements apart). THE CARD IS WHAT COUNTS. Prove the row's statement (the work); the ties are given (YtaikjkcbgniplaaGreatDoorTie.lean); close each card by the builder's one call (the guide's Derived/Test/ToyasCard.lean, 'card_holds'). Laid BY PROGRAM, IN A SANDBOX (cutbox-door.mjs). By AI agents, Wed Nov 11 2026. No macro, syntax, notation, axiom, sorry.
-/
import Derived.Test.YtaikjkcbgniplaaGreatDoorRows
import GoSem.ClaimSeven
namespace Go.Proofs.YtaikjkcbgniplaaGreatDoor
namespace Rows

/-- THE TIED CARD OF 'laws.FnDiagrams'. -/
def fnDiagramsCard : Claim7 := { stood := { row := fnDiagramsRow, standIns := [], harness := (true, "286c404a3442d8073e429c246eecfafdca6e35af4207595feabd738080626f50"), looks := true }, kinds := [], alts := [], laidByText := true, laidKinds := [.data, .pinned], laidTests := true, laidLooks := .later }
def FnDiagramsCardSaid : Prop := Claim7.holds Tryz.pinned (.plain (OpenSpec.ofChange fnDiagramsSpec)) fnDiagramsCard

/-- THE TIED CARD OF 'laws.FnFinite'. -/
def fnFiniteCard : Claim7 := { stood := { row := fnFiniteRow, standIns := [], harness := (true, "286c404a3442d8073e429c246eecfafdca6e35af4207595feabd738080626f50"), looks := true }, kinds := [], alts := [], laidByText := true, laidKinds := [.data, .pinned], laidTests := true, laidLooks := .later }
def FnFiniteCardSaid : Prop := Claim7.holds Tryz.pinned (.plain (OpenSpec.ofChange fnFiniteSpec)) fnFiniteCard

/-- THE TIED CARD OF 'laws.FnCartans'. -/
def fnCartansCard : Claim7 := { stood := { row := fnCartansRow, standIns := [], harness := (true, "286c404a3442d8073e429c246eecfafdca6e35af4207595feabd738080626f50"), looks := true }, kinds := [], alts := [], laidByText := true, laidKinds := [.data, .data, .data, .data, .sentinel, .sentinel, .pinned], laidTests := true, laidLooks := .later }
def FnCartansCardSaid : Prop := Claim7.holds Tryz.pinned (.plain (OpenSpec.ofChange fnCartansSpec)) fnCartansCard

/-- THE SECOND FORM's CARD OF 'laws.FnDiagrams'. -/
def fnDiagramsUptoCard : Claim7 := { stood := { row := fnDiagramsUptoRow, standIns := [], harness := (true, "286c404a3442d8073e429c246eecfafdca6e35af4207595feabd738080626f50"), looks := true }, kinds := [], alts := [], laidByText := true, laidKinds := [.data, .pinned], laidTests := true, laidLooks := .later }
def FnDiagramsUptoCardSaid : Prop := Claim7.holds Tryz.pinned (.plain (OpenSpec.upto fnDiagramsSpec)) fnDiagramsUptoCard

/-- THE SECOND FORM's CARD OF 'laws.FnFinite'. -/
def fnFiniteUptoCard : Claim7 := { stood := { row := fnFiniteUptoRow, standIns := [], harness := (true, "286c404a3442d8073e429c246eecfafdca6e35af4207595feabd738080626f50"), looks := true }, kinds := [], alts := [], laidByText := true, laidKinds := [.data, .pinned], laidTests := true, laidLooks := .later }
def FnFiniteUptoCardSaid : Prop := Claim7.holds Tryz.pinned (.plain (OpenSpec.upto fnFiniteSpec)) fnFiniteUptoCard

/-- THE SECOND FORM's CARD OF 'laws.FnCartans'. -/
def fnCartansUptoCard : Claim7 := { stood := { row := fnCartansUptoRow, standIns := [], harness := (true, "286c404a3442d8073e429c246eecfafdca6e35af4207595feabd738080626f50"), looks := true }, kinds := [], alts := [], laidByText := true, laidKinds := [.data, .data, .data, .data, .sentinel, .sentinel, .pinned], laidTests := true, laidLooks := .later }
def FnCartansUptoCardSaid : Prop := Claim7.holds Tryz.pinned (.plain (OpenSpec.upto fnCartansSpec)) fnCartansUptoCard
end Rows
end Go.Proofs.YtaikjkcbgniplaaGreatDoor
