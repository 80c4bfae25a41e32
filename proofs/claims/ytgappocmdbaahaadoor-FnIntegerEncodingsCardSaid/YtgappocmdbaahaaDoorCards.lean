/-
  DERIVED. GIVEN WITH THE SEED: THE CARDS: each row of YtgappocmdbaahaaDoorRows.lean that lists a variable, with what it lists TIED to the program's text (the seventh form; the later family's looks); each row that meets fmt, with fmt's text TOLD by the authors' own Lean function (tested against real Go, not proved from fmt's source: count such statements apart). THE CARD IS WHAT COUNTS. Prove the row's statement (the work); the ties are given (YtgappocmdbaahaaDoorTie.lean); close each card by the builder's one call (the guide's Derived/Test/ToyasCard.lean, 'card_holds'). Laid BY PROGRAM, IN A SANDBOX (cutbox-door.mjs). By AI agents, Wed Nov 11 2026. No macro, syntax, notation, axiom, sorry.
-/
import Derived.Test.YtgappocmdbaahaaDoorRows
import GoSem.ClaimSeven
namespace Go.Proofs.YtgappocmdbaahaaDoor
namespace Rows

/-- THE TIED CARD OF 'laws.FnExactSizeByName'. -/
def fnExactSizeByNameCard : Claim7 := { stood := { row := fnExactSizeByNameRow, standIns := [], harness := (true, "fdf06209352da6ea8e69da289ffa207fe23d0219b4f5b75ddc130d8f4956d6c6"), looks := true }, kinds := [], alts := [], laidByText := true, laidKinds := [.data, .pinned], laidTests := true, laidLooks := .later }
def FnExactSizeByNameCardSaid : Prop := Claim7.holds Tryd.pinned (.plain (OpenSpec.ofChange fnExactSizeByNameSpec)) fnExactSizeByNameCard

/-- THE TIED CARD OF 'laws.FnExactFormatWeight'. -/
def fnExactFormatWeightCard : Claim7 := { stood := { row := fnExactFormatWeightRow, standIns := [], harness := (true, "fdf06209352da6ea8e69da289ffa207fe23d0219b4f5b75ddc130d8f4956d6c6"), looks := true }, kinds := [], alts := [], laidByText := true, laidKinds := [.data, .data, .data], laidTests := true, laidLooks := .later }
def FnExactFormatWeightCardSaid : Prop := Claim7.holds Tryd.pinned (.plain (OpenSpec.ofChange fnExactFormatWeightSpec)) fnExactFormatWeightCard

/-- THE TIED CARD OF 'laws.FnExactFormatCartan'. -/
def fnExactFormatCartanCard : Claim7 := { stood := { row := fnExactFormatCartanRow, standIns := [], harness := (true, "fdf06209352da6ea8e69da289ffa207fe23d0219b4f5b75ddc130d8f4956d6c6"), looks := true }, kinds := [], alts := [], laidByText := true, laidKinds := [.data, .data, .data], laidTests := true, laidLooks := .later }
def FnExactFormatCartanCardSaid : Prop := Claim7.holds Tryd.pinned (.plain (OpenSpec.ofChange fnExactFormatCartanSpec)) fnExactFormatCartanCard

/-- THE TIED CARD OF 'laws.FnExactParseInt'. -/
def fnExactParseIntCard : Claim7 := { stood := { row := fnExactParseIntRow, standIns := [], harness := (true, "fdf06209352da6ea8e69da289ffa207fe23d0219b4f5b75ddc130d8f4956d6c6"), looks := true }, kinds := [], alts := [], laidByText := true, laidKinds := [.data, .data, .data, .sentinel, .sentinel], laidTests := true, laidLooks := .later }
def FnExactParseIntCardSaid : Prop := Claim7.holds Tryd.pinned (.plain (OpenSpec.ofChange fnExactParseIntSpec)) fnExactParseIntCard

/-- THE TIED CARD OF 'laws.FnIntegerEncodings'. -/
def fnIntegerEncodingsCard : Claim7 := { stood := { row := fnIntegerEncodingsRow, standIns := [], harness := (true, "fdf06209352da6ea8e69da289ffa207fe23d0219b4f5b75ddc130d8f4956d6c6"), looks := true }, kinds := [], alts := [], laidByText := true, laidKinds := [.data, .data, .data, .sentinel, .sentinel], laidTests := true, laidLooks := .later }
def FnIntegerEncodingsCardSaid : Prop := Claim7.holds Tryd.pinned (.plain (OpenSpec.ofChange fnIntegerEncodingsSpec)) fnIntegerEncodingsCard

/-- THE SECOND FORM's CARD OF 'laws.FnExactSizeByName'. -/
def fnExactSizeByNameUptoCard : Claim7 := { stood := { row := fnExactSizeByNameUptoRow, standIns := [], harness := (true, "fdf06209352da6ea8e69da289ffa207fe23d0219b4f5b75ddc130d8f4956d6c6"), looks := true }, kinds := [], alts := [], laidByText := true, laidKinds := [.data, .pinned], laidTests := true, laidLooks := .later }
def FnExactSizeByNameUptoCardSaid : Prop := Claim7.holds Tryd.pinned (.plain (OpenSpec.upto fnExactSizeByNameSpec)) fnExactSizeByNameUptoCard

/-- THE SECOND FORM's CARD OF 'laws.FnExactFormatWeight'. -/
def fnExactFormatWeightUptoCard : Claim7 := { stood := { row := fnExactFormatWeightUptoRow, standIns := [], harness := (true, "fdf06209352da6ea8e69da289ffa207fe23d0219b4f5b75ddc130d8f4956d6c6"), looks := true }, kinds := [], alts := [], laidByText := true, laidKinds := [.data, .data, .data], laidTests := true, laidLooks := .later }
def FnExactFormatWeightUptoCardSaid : Prop := Claim7.holds Tryd.pinned (.plain (OpenSpec.upto fnExactFormatWeightSpec)) fnExactFormatWeightUptoCard

/-- THE SECOND FORM's CARD OF 'laws.FnExactFormatCartan'. -/
def fnExactFormatCartanUptoCard : Claim7 := { stood := { row := fnExactFormatCartanUptoRow, standIns := [], harness := (true, "fdf06209352da6ea8e69da289ffa207fe23d0219b4f5b75ddc130d8f4956d6c6"), looks := true }, kinds := [], alts := [], laidByText := true, laidKinds := [.data, .data, .data], laidTests := true, laidLooks := .later }
def FnExactFormatCartanUptoCardSaid : Prop := Claim7.holds Tryd.pinned (.plain (OpenSpec.upto fnExactFormatCartanSpec)) fnExactFormatCartanUptoCard

/-- THE SECOND FORM's CARD OF 'laws.FnExactParseInt'. -/
def fnExactParseIntUptoCard : Claim7 := { stood := { row := fnExactParseIntUptoRow, standIns := [], harness := (true, "fdf06209352da6ea8e69da289ffa207fe23d0219b4f5b75ddc130d8f4956d6c6"), looks := true }, kinds := [], alts := [], laidByText := true, laidKinds := [.data, .data, .data, .sentinel, .sentinel], laidTests := true, laidLooks := .later }
def FnExactParseIntUptoCardSaid : Prop := Claim7.holds Tryd.pinned (.plain (OpenSpec.upto fnExactParseIntSpec)) fnExactParseIntUptoCard

/-- THE SECOND FORM's CARD OF 'laws.FnIntegerEncodings'. -/
def fnIntegerEncodingsUptoCard : Claim7 := { stood := { row := fnIntegerEncodingsUptoRow, standIns := [], harness := (true, "fdf06209352da6ea8e69da289ffa207fe23d0219b4f5b75ddc130d8f4956d6c6"), looks := true }, kinds := [], alts := [], laidByText := true, laidKinds := [.data, .data, .data, .sentinel, .sentinel], laidTests := true, laidLooks := .later }
def FnIntegerEncodingsUptoCardSaid : Prop := Claim7.holds Tryd.pinned (.plain (OpenSpec.upto fnIntegerEncodingsSpec)) fnIntegerEncodingsUptoCard
end Rows
end Go.Proofs.YtgappocmdbaahaaDoor
