/- Sheets: how the laws copy and compare them. -/
import Derived.Test.YtdmlefccajaniaaDoorShts
namespace Go.Proofs.YtdmlefccajaniaaDoor
open Go.RowKit
end Go.Proofs.YtdmlefccajaniaaDoor
