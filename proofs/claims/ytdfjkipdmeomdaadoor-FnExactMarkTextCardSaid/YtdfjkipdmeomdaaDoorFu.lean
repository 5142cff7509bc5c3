/- MarkText: both give the same. No condition. -/
import Derived.Test.YtdfjkipdmeomdaaDoorFt
import Derived.Test.YtdfjkipdmeomdaaDoorAx
namespace Go.Proofs.YtdfjkipdmeomdaaDoor
theorem math_FnExactMarkText (m : DMark) (_ : wfDMark m) : x_laws_FnExactMarkText m = some true := by
  unfold x_laws_FnExactMarkText x_laws_toMark
  rw [Option.bind_some, s_MarkText, Option.bind_some, Option.bind_some, i_MarkText, Option.bind_some, decide_eq_true rfl]
  rfl
end Go.Proofs.YtdfjkipdmeomdaaDoor
