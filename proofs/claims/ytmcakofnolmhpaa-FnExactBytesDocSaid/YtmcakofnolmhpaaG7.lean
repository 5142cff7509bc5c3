/- Walks of functions of this program (printed by a program of ours, by the rules of the layer). No condition. -/
import Derived.Test.YtmcakofnolmhpaaG3
import Derived.Test.YtmcakofnolmhpaaNs
namespace Go.Proofs.Ytmcakofnolmhpaa
open Go.RowKit

end Go.Proofs.Ytmcakofnolmhpaa
