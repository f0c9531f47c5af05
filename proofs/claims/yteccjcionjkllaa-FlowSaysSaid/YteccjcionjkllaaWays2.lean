/- Of shortest ways: what is joined, in the reference. -/
import Derived.Test.YteccjcionjkllaaTab
import Derived.Test.YteccjcionjkllaaWays1
import Derived.Test.YteccjcionjkllaaBoth1
import Derived.Test.YteccjcionjkllaaFun1
import Derived.Test.YteccjcionjkllaaPlWays
set_option maxRecDepth 100000
namespace Go.Ab
open Go Go.Proofs
end Go.Ab
