/- Walks of functions of this program (printed by a program of ours, by the rules of the layer). No condition. -/
import Derived.Test.YtbapjbanejimiaaG3
import Derived.Test.YtbapjbanejimiaaNs
namespace Go.Proofs.Ytbapjbanejimiaa
open Go.RowKit

end Go.Proofs.Ytbapjbanejimiaa
