/- Texts as values. -/
import Derived.Test.YtgappocmdbaahaaLib
namespace Go.Proofs.Ytgappocmdbaahaa
open Go.RowKit
def str (l : List UInt8) : Value := .string ⟨l.toArray⟩
def strs (xs : List (List UInt8)) : List Value := xs.map str
end Go.Proofs.Ytgappocmdbaahaa
