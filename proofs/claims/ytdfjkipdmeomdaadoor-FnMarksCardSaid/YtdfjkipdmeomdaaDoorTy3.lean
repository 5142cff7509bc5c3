/- Types of this program, and how their data lie in cells. No condition. -/
import Derived.Test.YtdfjkipdmeomdaaDoorProg
import Derived.Test.YtdfjkipdmeomdaaDoorNq
namespace Go.Proofs.YtdfjkipdmeomdaaDoor
open Go.RowKit
theorem Tryd_mixed : Tryd.prog.follows .mixedOrders = true := by rfl
def fI (n : Int) : List Ce := [cI n]
def fB (b : Bool) : List Ce := [cB b]
def fT (s : ByteArray) : List Ce := [cT s]
def fY (n : UInt8) : List Ce := [cY n]
theorem flC {c : Ce} {l : List Ce} (h : ∃ u, ∃ hu : u.oneCell' = true, c = cV u hu) (k : ∀ d ∈ l, ∃ u, ∃ hu : u.oneCell' = true, d = cV u hu) : ∀ d ∈ c :: l, ∃ u, ∃ hu : u.oneCell' = true, d = cV u hu := fun d hd => by
  rcases List.mem_cons.1 hd with rfl | hd
  · exact h
  · exact k d hd
theorem flN : ∀ d ∈ ([] : List Ce), ∃ u, ∃ hu : u.oneCell' = true, d = cV u hu := fun _ h => by cases h
theorem flI : FlatE fI := fun _ => flC ⟨_, _, rfl⟩ flN
theorem flB : FlatE fB := fun _ => flC ⟨_, _, rfl⟩ flN
theorem flT : FlatE fT := fun _ => flC ⟨_, _, rfl⟩ flN
theorem flY : FlatE fY := fun _ => flC ⟨_, _, rfl⟩ flN
structure DMark where
  id : Int
  from_ : Int
  to : Int
deriving DecidableEq, Inhabited
def fDMark (x : DMark) : List Ce := [cI x.id, cI x.from_, cI x.to]
theorem flDMark : FlatE fDMark := fun _ => flC ⟨_, _, rfl⟩ (flC ⟨_, _, rfl⟩ (flC ⟨_, _, rfl⟩ (flN)))
structure DL01Cur where
  b : List UInt8
  i : Int
  h : Int
deriving DecidableEq, Inhabited
def fDL01Cur (x : DL01Cur) : List Ce := [cSl 1 fY x.b, cI x.i, cI x.h]
structure DPart where
  kind : Int
  n : Int
  signs : List Int
deriving DecidableEq, Inhabited
def fDPart (x : DPart) : List Ce := [cI x.kind, cI x.n, cSl 1 fI x.signs]
def fLY (l : List UInt8) : List Ce := [cSl 1 fY l]
def fLI (l : List Int) : List Ce := [cSl 1 fI l]
def fLDPart (l : List DPart) : List Ce := [cSl 3 fDPart l]
def fLDMark (l : List DMark) : List Ce := [cSl 3 fDMark l]
theorem sz1 : Sz Tryd.prog 1 1 8 (.nilFunc) := ⟨by kernel_rfl, rfl, by decide⟩
theorem sz2 : Sz Tryd.prog 2 1 8 (.int .i64 0) := ⟨by kernel_rfl, rfl, by decide⟩
theorem sz3 : Sz Tryd.prog 3 1 8 (.int .i64 0) := ⟨by kernel_rfl, rfl, by decide⟩
theorem sz4 : Sz Tryd.prog 4 1 1 (.bool false) := ⟨by kernel_rfl, rfl, by decide⟩
theorem sz5 : Sz Tryd.prog 5 1 1 (.int .u8 0) := ⟨by kernel_rfl, rfl, by decide⟩
theorem sz9 : Sz Tryd.prog 9 1 16 (.string ByteArray.empty) := ⟨by kernel_rfl, rfl, by decide⟩
theorem sz12 : Sz Tryd.prog 12 1 8 (.int .u64 0) := ⟨by kernel_rfl, rfl, by decide⟩
theorem sz13 : Sz Tryd.prog 13 2 24 (.agg #[.string ByteArray.empty, .int .u64 0]) := ⟨by kernel_rfl, rfl, by decide⟩
theorem sz19 : Sz Tryd.prog 19 1 8 (.agg #[.pointer none]) := ⟨by kernel_rfl, rfl, by decide⟩
theorem sz21 : Sz Tryd.prog 21 1 4 (.int .i32 0) := ⟨by kernel_rfl, rfl, by decide⟩
theorem sz22 : Sz Tryd.prog 22 3 24 (.agg #[.int .i64 0, .int .i64 0, .int .i64 0]) := ⟨by kernel_rfl, rfl, by decide⟩
theorem sz23 : Sz Tryd.prog 23 3 24 (.agg #[.int .i64 0, .int .i64 0, .int .i64 0]) := ⟨by kernel_rfl, rfl, by decide⟩
theorem sz24 : Sz Tryd.prog 24 1 8 (.nilFunc) := ⟨by kernel_rfl, rfl, by decide⟩
theorem sz25 : Sz Tryd.prog 25 3 24 (.agg #[.int .i64 0, .int .i64 0, .int .i64 0]) := ⟨by kernel_rfl, rfl, by decide⟩
theorem sz26 : Sz Tryd.prog 26 1 8 (.nilFunc) := ⟨by kernel_rfl, rfl, by decide⟩
theorem sz27 : Sz Tryd.prog 27 1 8 (.nilFunc) := ⟨by kernel_rfl, rfl, by decide⟩
theorem sz28 : Sz Tryd.prog 28 1 24 (.slice none 0 0) := ⟨by kernel_rfl, rfl, by decide⟩
theorem sz29 : Sz Tryd.prog 29 1 24 (.slice none 0 0) := ⟨by kernel_rfl, rfl, by decide⟩
theorem sz30 : Sz Tryd.prog 30 1 24 (.slice none 0 0) := ⟨by kernel_rfl, rfl, by decide⟩
theorem sz32 : Sz Tryd.prog 32 1 8 (.nilFunc) := ⟨by kernel_rfl, rfl, by decide⟩
theorem sz33 : Sz Tryd.prog 33 1 24 (.slice none 0 0) := ⟨by kernel_rfl, rfl, by decide⟩
theorem sz34 : Sz Tryd.prog 34 1 8 (.nilFunc) := ⟨by kernel_rfl, rfl, by decide⟩
theorem sz36 : Sz Tryd.prog 36 1 8 (.nilFunc) := ⟨by kernel_rfl, rfl, by decide⟩
theorem sz37 : Sz Tryd.prog 37 1 8 (.nilFunc) := ⟨by kernel_rfl, rfl, by decide⟩
theorem sz38 : Sz Tryd.prog 38 1 8 (.nilFunc) := ⟨by kernel_rfl, rfl, by decide⟩
theorem sz39 : Sz Tryd.prog 39 1 8 (.nilFunc) := ⟨by kernel_rfl, rfl, by decide⟩
theorem sz40 : Sz Tryd.prog 40 1 8 (.nilFunc) := ⟨by kernel_rfl, rfl, by decide⟩
theorem sz41 : Sz Tryd.prog 41 1 8 (.nilFunc) := ⟨by kernel_rfl, rfl, by decide⟩
theorem sz42 : Sz Tryd.prog 42 1 8 (.nilFunc) := ⟨by kernel_rfl, rfl, by decide⟩
theorem sz43 : Sz Tryd.prog 43 1 8 (.nilFunc) := ⟨by kernel_rfl, rfl, by decide⟩
theorem sz44 : Sz Tryd.prog 44 1 8 (.nilFunc) := ⟨by kernel_rfl, rfl, by decide⟩
theorem sz45 : Sz Tryd.prog 45 1 8 (.nilFunc) := ⟨by kernel_rfl, rfl, by decide⟩
theorem sz46 : Sz Tryd.prog 46 1 8 (.pointer none) := ⟨by kernel_rfl, rfl, by decide⟩
theorem sz47 : Sz Tryd.prog 47 1 8 (.nilFunc) := ⟨by kernel_rfl, rfl, by decide⟩
theorem sz48 : Sz Tryd.prog 48 1 8 (.nilFunc) := ⟨by kernel_rfl, rfl, by decide⟩
theorem sz49 : Sz Tryd.prog 49 1 8 (.nilFunc) := ⟨by kernel_rfl, rfl, by decide⟩
theorem sz50 : Sz Tryd.prog 50 3 40 (.agg #[.slice none 0 0, .int .i64 0, .int .i64 0]) := ⟨by kernel_rfl, rfl, by decide⟩
theorem sz51 : Sz Tryd.prog 51 3 40 (.agg #[.slice none 0 0, .int .i64 0, .int .i64 0]) := ⟨by kernel_rfl, rfl, by decide⟩
theorem sz52 : Sz Tryd.prog 52 1 8 (.nilFunc) := ⟨by kernel_rfl, rfl, by decide⟩
theorem sz53 : Sz Tryd.prog 53 1 8 (.nilFunc) := ⟨by kernel_rfl, rfl, by decide⟩
theorem sz55 : Sz Tryd.prog 55 1 8 (.nilFunc) := ⟨by kernel_rfl, rfl, by decide⟩
theorem sz56 : Sz Tryd.prog 56 1 8 (.nilFunc) := ⟨by kernel_rfl, rfl, by decide⟩
theorem sz57 : Sz Tryd.prog 57 3 40 (.agg #[.int .i64 0, .int .i64 0, .slice none 0 0]) := ⟨by kernel_rfl, rfl, by decide⟩
theorem sz58 : Sz Tryd.prog 58 3 40 (.agg #[.int .i64 0, .int .i64 0, .slice none 0 0]) := ⟨by kernel_rfl, rfl, by decide⟩
theorem sz59 : Sz Tryd.prog 59 1 8 (.nilFunc) := ⟨by kernel_rfl, rfl, by decide⟩
theorem sz60 : Sz Tryd.prog 60 1 8 (.nilFunc) := ⟨by kernel_rfl, rfl, by decide⟩
theorem sz61 : Sz Tryd.prog 61 1 8 (.nilFunc) := ⟨by kernel_rfl, rfl, by decide⟩
theorem sz62 : Sz Tryd.prog 62 1 8 (.nilFunc) := ⟨by kernel_rfl, rfl, by decide⟩
theorem sz63 : Sz Tryd.prog 63 1 8 (.nilFunc) := ⟨by kernel_rfl, rfl, by decide⟩
theorem sz64 : Sz Tryd.prog 64 1 8 (.nilFunc) := ⟨by kernel_rfl, rfl, by decide⟩
theorem sz65 : Sz Tryd.prog 65 1 8 (.nilFunc) := ⟨by kernel_rfl, rfl, by decide⟩
theorem sz66 : Sz Tryd.prog 66 1 8 (.nilFunc) := ⟨by kernel_rfl, rfl, by decide⟩
theorem sz67 : Sz Tryd.prog 67 1 8 (.nilFunc) := ⟨by kernel_rfl, rfl, by decide⟩
theorem sz68 : Sz Tryd.prog 68 1 8 (.nilFunc) := ⟨by kernel_rfl, rfl, by decide⟩
theorem sz69 : Sz Tryd.prog 69 1 8 (.nilFunc) := ⟨by kernel_rfl, rfl, by decide⟩
theorem sz70 : Sz Tryd.prog 70 1 8 (.nilFunc) := ⟨by kernel_rfl, rfl, by decide⟩
theorem sz71 : Sz Tryd.prog 71 1 8 (.int .u64 0) := ⟨by kernel_rfl, rfl, by decide⟩
theorem sz72 : Sz Tryd.prog 72 1 8 (.nilFunc) := ⟨by kernel_rfl, rfl, by decide⟩
theorem sz73 : Sz Tryd.prog 73 1 8 (.nilFunc) := ⟨by kernel_rfl, rfl, by decide⟩
theorem sz75 : Sz Tryd.prog 75 1 8 (.int .u64 0) := ⟨by kernel_rfl, rfl, by decide⟩
theorem sz76 : Sz Tryd.prog 76 1 8 (.nilFunc) := ⟨by kernel_rfl, rfl, by decide⟩
theorem sz77 : Sz Tryd.prog 77 1 8 (.nilFunc) := ⟨by kernel_rfl, rfl, by decide⟩
theorem sz79 : Sz Tryd.prog 79 1 8 (.nilFunc) := ⟨by kernel_rfl, rfl, by decide⟩
theorem sz80 : Sz Tryd.prog 80 1 8 (.nilFunc) := ⟨by kernel_rfl, rfl, by decide⟩
theorem sz81 : Sz Tryd.prog 81 1 8 (.nilFunc) := ⟨by kernel_rfl, rfl, by decide⟩
theorem sz82 : Sz Tryd.prog 82 1 8 (.nilFunc) := ⟨by kernel_rfl, rfl, by decide⟩
theorem sz84 : Sz Tryd.prog 84 1 4 (.int .u32 0) := ⟨by kernel_rfl, rfl, by decide⟩
theorem sz86 : Sz Tryd.prog 86 1 8 (.nilFunc) := ⟨by kernel_rfl, rfl, by decide⟩
theorem sz87 : Sz Tryd.prog 87 1 8 (.nilFunc) := ⟨by kernel_rfl, rfl, by decide⟩
theorem sz90 : Sz Tryd.prog 90 1 8 (.nilFunc) := ⟨by kernel_rfl, rfl, by decide⟩
theorem sz96 : Sz Tryd.prog 96 1 8 (.nilFunc) := ⟨by kernel_rfl, rfl, by decide⟩
theorem sz99 : Sz Tryd.prog 99 1 8 (.nilFunc) := ⟨by kernel_rfl, rfl, by decide⟩
theorem sz100 : Sz Tryd.prog 100 1 8 (.pointer none) := ⟨by kernel_rfl, rfl, by decide⟩
end Go.Proofs.YtdfjkipdmeomdaaDoor
