/- Of slices: equality. -/
import Derived.Test.YteccjcionjkllaaTab
set_option maxRecDepth 100000
namespace Go.Ab
open Go Go.Proofs
end Go.Ab
