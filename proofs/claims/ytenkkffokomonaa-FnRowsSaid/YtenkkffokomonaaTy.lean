/- Facts on the table of types. No condition. -/
import Derived.Test.YtenkkffokomonaaProg
import Derived.Test.YtenkkffokomonaaMathB
namespace Go.Proofs.Ytenkkffokomonaa
open Go.RowKit
theorem Try_mixed : Try.prog.follows .mixedOrders = true := by rfl
def fM (m : Mk) : List Value := [.int .i64 m.id, .int .i64 m.lo, .int .i64 m.hi]
theorem sz2 : Sz Try.prog 2 1 8 (.int .i64 0) := ⟨by kernel_rfl, rfl, by decide⟩
theorem sz3 : Sz Try.prog 3 1 8 (.int .i64 0) := ⟨by kernel_rfl, rfl, by decide⟩
theorem sz4 : Sz Try.prog 4 1 1 (.bool false) := ⟨by kernel_rfl, rfl, by decide⟩
theorem sz5 : Sz Try.prog 5 1 1 (.int .u8 0) := ⟨by kernel_rfl, rfl, by decide⟩
theorem sz9 : Sz Try.prog 9 1 16 (.string ByteArray.empty) := ⟨by kernel_rfl, rfl, by decide⟩
theorem sz12 : Sz Try.prog 12 1 8 (.int .u64 0) := ⟨by kernel_rfl, rfl, by decide⟩
theorem sz13 : Sz Try.prog 13 2 24 (.agg #[.string ByteArray.empty, .int .u64 0]) := ⟨by kernel_rfl, rfl, by decide⟩
theorem sz19 : Sz Try.prog 19 1 8 (.agg #[.pointer none]) := ⟨by kernel_rfl, rfl, by decide⟩
theorem sz21 : Sz Try.prog 21 1 4 (.int .i32 0) := ⟨by kernel_rfl, rfl, by decide⟩
theorem sz22 : Sz Try.prog 22 1 24 (.slice none 0 0) := ⟨by kernel_rfl, rfl, by decide⟩
theorem sz25 : Sz Try.prog 25 1 24 (.slice none 0 0) := ⟨by kernel_rfl, rfl, by decide⟩
theorem sz29 : Sz Try.prog 29 1 24 (.slice none 0 0) := ⟨by kernel_rfl, rfl, by decide⟩
theorem sz44 : Sz Try.prog 44 1 24 (.slice none 0 0) := ⟨by kernel_rfl, rfl, by decide⟩
theorem sz49 : Sz Try.prog 49 3 24 (.agg #[.int .i64 0, .int .i64 0, .int .i64 0]) := ⟨by kernel_rfl, rfl, by decide⟩
theorem sz50 : Sz Try.prog 50 3 24 (.agg #[.int .i64 0, .int .i64 0, .int .i64 0]) := ⟨by kernel_rfl, rfl, by decide⟩
theorem sz53 : Sz Try.prog 53 3 24 (.agg #[.int .i64 0, .int .i64 0, .int .i64 0]) := ⟨by kernel_rfl, rfl, by decide⟩
theorem sz59 : Sz Try.prog 59 3 40 (.agg #[.slice none 0 0, .int .i64 0, .int .i64 0]) := ⟨by kernel_rfl, rfl, by decide⟩
theorem sz60 : Sz Try.prog 60 3 40 (.agg #[.slice none 0 0, .int .i64 0, .int .i64 0]) := ⟨by kernel_rfl, rfl, by decide⟩
theorem sz63 : Sz Try.prog 63 1 8 (.int .u64 0) := ⟨by kernel_rfl, rfl, by decide⟩
theorem sz71 : Sz Try.prog 71 1 4 (.int .u32 0) := ⟨by kernel_rfl, rfl, by decide⟩
end Go.Proofs.Ytenkkffokomonaa
