/- Of determinants of tables: the plain laws. -/
import Derived.Test.YtcmaffldmodacaaPlDet2
import Derived.Test.YtcmaffldmodacaaPlA
namespace Go.Ab
end Go.Ab
