/- Walks of functions of this program (printed by a program of ours, by the rules of the layer). No condition. -/
import Derived.Test.YtnpfbhejekpmaaaG3
import Derived.Test.YtnpfbhejekpmaaaNr
namespace Go.Proofs.Ytnpfbhejekpmaaa
open Go.RowKit

end Go.Proofs.Ytnpfbhejekpmaaa
