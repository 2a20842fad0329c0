
/- Grounded of the reference, bools of the law. -/
import Derived.Test.YtjacbhomhjoolaaGreatBRRest
import Derived.Test.YtjacbhomhjoolaaGreatBStand
namespace Go.Proofs.YtjacbhomhjoolaaGreat
open Go.RowKit

end Go.Proofs.YtjacbhomhjoolaaGreat
