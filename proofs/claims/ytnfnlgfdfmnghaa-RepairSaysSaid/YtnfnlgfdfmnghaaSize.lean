/- Of arguments from outside: how long they may be (the form's own reach). -/
import Derived.Test.YtnfnlgfdfmnghaaAbC
import Derived.SizedLaws
namespace Go.Ab
open Go.RowKit Go.WideShapes Go.ChangeShapes Go.Deep
section
variable {H : Type} {enc : TypeId × Value → H} {P : Program} {W : World} {base : Nat} {held : Bool}
end
end Go.Ab
