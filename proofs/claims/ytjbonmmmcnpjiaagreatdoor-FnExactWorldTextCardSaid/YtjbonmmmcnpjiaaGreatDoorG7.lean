/- Walks of functions of this program (printed by a program of ours, by the rules of the layer). No condition. -/
import Derived.Test.YtjbonmmmcnpjiaaGreatDoorG3
import Derived.Test.YtjbonmmmcnpjiaaGreatDoorNz
namespace Go.Proofs.YtjbonmmmcnpjiaaGreatDoor
open Go.RowKit

end Go.Proofs.YtjbonmmmcnpjiaaGreatDoor
