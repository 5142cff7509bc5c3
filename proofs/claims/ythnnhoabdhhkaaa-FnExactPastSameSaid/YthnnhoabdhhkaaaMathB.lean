/- The plain definitions and the layer together. -/
import Derived.Test.YthnnhoabdhhkaaaVlG
import Derived.Test.YthnnhoabdhhkaaaMathA
