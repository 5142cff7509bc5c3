/- The plain definitions and the layer together. -/
import Derived.Test.YtenkkffokomonaaVlG
import Derived.Test.YtenkkffokomonaaMathA
