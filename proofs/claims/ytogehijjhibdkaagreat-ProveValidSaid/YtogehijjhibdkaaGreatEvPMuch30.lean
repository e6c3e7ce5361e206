/- Too many steps. -/
import Derived.Test.YtogehijjhibdkaaGreatEvPKit
namespace Go.Proofs.YtogehijjhibdkaaGreat.Ev
open Go Go.RowKit

end Go.Proofs.YtogehijjhibdkaaGreat.Ev
