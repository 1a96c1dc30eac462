/- The plain law of ScanRenamed. -/
import Derived.Test.YtcmbpboeilojmaaPr
namespace Go.Proofs.Ytcmbpboeilojmaa.Pure
open Go.Proofs.Ytcmbpboeilojmaa.F
theorem ScanRenamed : smithylaw25_ScanRenamed.Pure := Sw.renamed_pure
end Go.Proofs.Ytcmbpboeilojmaa.Pure
