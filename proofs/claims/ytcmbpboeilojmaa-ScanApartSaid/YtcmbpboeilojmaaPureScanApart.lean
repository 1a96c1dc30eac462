/- The plain law of ScanApart. -/
import Derived.Test.YtcmbpboeilojmaaPa
namespace Go.Proofs.Ytcmbpboeilojmaa.Pure
open Go.Proofs.Ytcmbpboeilojmaa.F
theorem ScanApart : smithylaw25_ScanApart.Pure := Sw.apart_pure
end Go.Proofs.Ytcmbpboeilojmaa.Pure
