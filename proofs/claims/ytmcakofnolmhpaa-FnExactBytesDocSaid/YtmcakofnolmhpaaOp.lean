/- How arguments of this program open. No condition. -/
import Derived.Test.YtmcakofnolmhpaaProg
import Derived.Test.YtmcakofnolmhpaaTy3
import Derived.Test.YtmcakofnolmhpaaAx
import Derived.Test.YtmcakofnolmhpaaMo
namespace Go.Proofs.Ytmcakofnolmhpaa
open Go.RowKit

end Go.Proofs.Ytmcakofnolmhpaa
