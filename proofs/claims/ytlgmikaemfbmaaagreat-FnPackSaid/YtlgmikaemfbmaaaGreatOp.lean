/- How arguments of this program open. No condition. -/
import Derived.Test.YtlgmikaemfbmaaaGreatProg
import Derived.Test.YtlgmikaemfbmaaaGreatTy3
import Derived.Test.YtlgmikaemfbmaaaGreatAx
import Derived.Test.YtlgmikaemfbmaaaGreatMo
namespace Go.Proofs.YtlgmikaemfbmaaaGreat
open Go.RowKit

end Go.Proofs.YtlgmikaemfbmaaaGreat
