/-
  DERIVED. GIVEN WITH THE SEED: THE CARDS: each row of YtaikjkcbgniplaaDoorRows.lean that lists a variable, with what it lists TIED to the program's text (the seventh form; the later family's looks); each row that meets fmt, with fmt's text TOLD by the authors' own Lean function (tested against real Go, not proved from fmt's source: count such statements apart). THE CARD IS WHAT COUNTS. Prove the row's statement (the work); the ties are given (YtaikjkcbgniplaaDoorTie.lean); close each card by the builder's one call (the guide's Derived/Test/ToyasCard.lean, 'card_holds'). Laid BY PROGRAM, IN A SANDBOX (cutbox-door.mjs). By AI agents, Wed Nov 11 2026. No macro, syntax, notation, axiom, sorry.
-/
import Derived.Test.YtaikjkcbgniplaaDoorRows
import GoSem.ClaimSeven
namespace Go.Proofs.YtaikjkcbgniplaaDoor
namespace Rows

/-- THE TIED CARD OF 'laws.FnExactParseCartan'. -/
def fnExactParseCartanCard : Claim7 := { stood := { row := fnExactParseCartanRow, standIns := [], harness := (true, "c4b5a3f6e429bfbaa743d187ac8b3ae4bbf10607d93e040873e619fa00fa463c"), looks := true }, kinds := [], alts := [], laidByText := true, laidKinds := [.data, .data, .data, .data, .sentinel, .sentinel, .pinned], laidTests := true, laidLooks := .later }
def FnExactParseCartanCardSaid : Prop := Claim7.holds Tryd.pinned (.plain (OpenSpec.ofChange fnExactParseCartanSpec)) fnExactParseCartanCard

/-- THE TIED CARD OF 'laws.FnExactNameOfPart'. -/
def fnExactNameOfPartCard : Claim7 := { stood := { row := fnExactNameOfPartRow, standIns := [], harness := (true, "c4b5a3f6e429bfbaa743d187ac8b3ae4bbf10607d93e040873e619fa00fa463c"), looks := true }, kinds := [], alts := [], laidByText := true, laidKinds := [.data, .pinned], laidTests := true, laidLooks := .later }
def FnExactNameOfPartCardSaid : Prop := Claim7.holds Tryd.pinned (.plain (OpenSpec.ofChange fnExactNameOfPartSpec)) fnExactNameOfPartCard

/-- THE TIED CARD OF 'laws.FnExactParseWeight'. -/
def fnExactParseWeightCard : Claim7 := { stood := { row := fnExactParseWeightRow, standIns := [], harness := (true, "c4b5a3f6e429bfbaa743d187ac8b3ae4bbf10607d93e040873e619fa00fa463c"), looks := true }, kinds := [], alts := [], laidByText := true, laidKinds := [.data, .data, .data, .data, .sentinel, .sentinel, .pinned], laidTests := true, laidLooks := .later }
def FnExactParseWeightCardSaid : Prop := Claim7.holds Tryd.pinned (.plain (OpenSpec.ofChange fnExactParseWeightSpec)) fnExactParseWeightCard

/-- THE TIED CARD OF 'laws.FnExactNameOf'. -/
def fnExactNameOfCard : Claim7 := { stood := { row := fnExactNameOfRow, standIns := [], harness := (true, "c4b5a3f6e429bfbaa743d187ac8b3ae4bbf10607d93e040873e619fa00fa463c"), looks := true }, kinds := [], alts := [], laidByText := true, laidKinds := [.data, .pinned], laidTests := true, laidLooks := .later }
def FnExactNameOfCardSaid : Prop := Claim7.holds Tryd.pinned (.plain (OpenSpec.ofChange fnExactNameOfSpec)) fnExactNameOfCard

/-- THE SECOND FORM's CARD OF 'laws.FnExactParseCartan'. -/
def fnExactParseCartanUptoCard : Claim7 := { stood := { row := fnExactParseCartanUptoRow, standIns := [], harness := (true, "c4b5a3f6e429bfbaa743d187ac8b3ae4bbf10607d93e040873e619fa00fa463c"), looks := true }, kinds := [], alts := [], laidByText := true, laidKinds := [.data, .data, .data, .data, .sentinel, .sentinel, .pinned], laidTests := true, laidLooks := .later }
def FnExactParseCartanUptoCardSaid : Prop := Claim7.holds Tryd.pinned (.plain (OpenSpec.upto fnExactParseCartanSpec)) fnExactParseCartanUptoCard

/-- THE SECOND FORM's CARD OF 'laws.FnExactNameOfPart'. -/
def fnExactNameOfPartUptoCard : Claim7 := { stood := { row := fnExactNameOfPartUptoRow, standIns := [], harness := (true, "c4b5a3f6e429bfbaa743d187ac8b3ae4bbf10607d93e040873e619fa00fa463c"), looks := true }, kinds := [], alts := [], laidByText := true, laidKinds := [.data, .pinned], laidTests := true, laidLooks := .later }
def FnExactNameOfPartUptoCardSaid : Prop := Claim7.holds Tryd.pinned (.plain (OpenSpec.upto fnExactNameOfPartSpec)) fnExactNameOfPartUptoCard

/-- THE SECOND FORM's CARD OF 'laws.FnExactParseWeight'. -/
def fnExactParseWeightUptoCard : Claim7 := { stood := { row := fnExactParseWeightUptoRow, standIns := [], harness := (true, "c4b5a3f6e429bfbaa743d187ac8b3ae4bbf10607d93e040873e619fa00fa463c"), looks := true }, kinds := [], alts := [], laidByText := true, laidKinds := [.data, .data, .data, .data, .sentinel, .sentinel, .pinned], laidTests := true, laidLooks := .later }
def FnExactParseWeightUptoCardSaid : Prop := Claim7.holds Tryd.pinned (.plain (OpenSpec.upto fnExactParseWeightSpec)) fnExactParseWeightUptoCard

/-- THE SECOND FORM's CARD OF 'laws.FnExactNameOf'. -/
def fnExactNameOfUptoCard : Claim7 := { stood := { row := fnExactNameOfUptoRow, standIns := [], harness := (true, "c4b5a3f6e429bfbaa743d187ac8b3ae4bbf10607d93e040873e619fa00fa463c"), looks := true }, kinds := [], alts := [], laidByText := true, laidKinds := [.data, .pinned], laidTests := true, laidLooks := .later }
def FnExactNameOfUptoCardSaid : Prop := Claim7.holds Tryd.pinned (.plain (OpenSpec.upto fnExactNameOfSpec)) fnExactNameOfUptoCard
end Rows
end Go.Proofs.YtaikjkcbgniplaaDoor
