/- Of graphs whose arcs go both ways. -/
import Derived.Test.YteccjcionjkllaaTab
import Derived.Test.YteccjcionjkllaaG1
import Derived.Test.YteccjcionjkllaaF2
import Derived.Test.YteccjcionjkllaaPlBoth
set_option maxRecDepth 100000
namespace Go.Ab
open Go Go.Proofs
end Go.Ab
