/- Types of this program, and how their data lie in cells. No condition. -/
import Derived.Test.YtdfjkipdmeomdaaProg
import Derived.Test.YtdfjkipdmeomdaaNq
namespace Go.Proofs.Ytdfjkipdmeomdaa
open Go.RowKit
theorem Try_mixed : Try.prog.follows .mixedOrders = true := by rfl
def fI (n : Int) : List Ce := [cI n]
def fB (b : Bool) : List Ce := [cB b]
def fT (s : ByteArray) : List Ce := [cT s]
def fY (n : UInt8) : List Ce := [cY n]
theorem flC {c : Ce} {l : List Ce} (h : ∃ u, ∃ hu : u.oneCell' = true, c = cV u hu) (k : ∀ d ∈ l, ∃ u, ∃ hu : u.oneCell' = true, d = cV u hu) : ∀ d ∈ c :: l, ∃ u, ∃ hu : u.oneCell' = true, d = cV u hu := fun d hd => by
  rcases List.mem_cons.1 hd with rfl | hd
  · exact h
  · exact k d hd
theorem flN : ∀ d ∈ ([] : List Ce), ∃ u, ∃ hu : u.oneCell' = true, d = cV u hu := fun _ h => by cases h
theorem flI : FlatE fI := fun _ => flC ⟨_, _, rfl⟩ flN
theorem flB : FlatE fB := fun _ => flC ⟨_, _, rfl⟩ flN
theorem flT : FlatE fT := fun _ => flC ⟨_, _, rfl⟩ flN
theorem flY : FlatE fY := fun _ => flC ⟨_, _, rfl⟩ flN
structure DPart where
  kind : Int
  n : Int
  signs : List Int
deriving DecidableEq, Inhabited
def fDPart (x : DPart) : List Ce := [cI x.kind, cI x.n, cSl 1 fI x.signs]
structure DL01Cur where
  b : List UInt8
  i : Int
  h : Int
deriving DecidableEq, Inhabited
def fDL01Cur (x : DL01Cur) : List Ce := [cSl 1 fY x.b, cI x.i, cI x.h]
structure DEntry where
  client : Int
  seq : Int
  o : List DPart
deriving DecidableEq, Inhabited
def fDEntry (x : DEntry) : List Ce := [cI x.client, cI x.seq, cSl 3 fDPart x.o]
structure DMark where
  id : Int
  from_ : Int
  to : Int
deriving DecidableEq, Inhabited
def fDMark (x : DMark) : List Ce := [cI x.id, cI x.from_, cI x.to]
theorem flDMark : FlatE fDMark := fun _ => flC ⟨_, _, rfl⟩ (flC ⟨_, _, rfl⟩ (flC ⟨_, _, rfl⟩ (flN)))
structure DL02B where
  list : List DPart
  put : List Int
  drop : Int
deriving DecidableEq, Inhabited
def fDL02B (x : DL02B) : List Ce := [cSl 3 fDPart x.list, cSl 1 fI x.put, cI x.drop]
def fLI (l : List Int) : List Ce := [cSl 1 fI l]
def fLDPart (l : List DPart) : List Ce := [cSl 3 fDPart l]
def fLY (l : List UInt8) : List Ce := [cSl 1 fY l]
def fLDEntry (l : List DEntry) : List Ce := [cSl 3 fDEntry l]
def fLDMark (l : List DMark) : List Ce := [cSl 3 fDMark l]
theorem sz1 : Sz Try.prog 1 1 8 (.nilFunc) := ⟨by kernel_rfl, rfl, by decide⟩
theorem sz2 : Sz Try.prog 2 1 8 (.int .i64 0) := ⟨by kernel_rfl, rfl, by decide⟩
theorem sz3 : Sz Try.prog 3 1 8 (.int .i64 0) := ⟨by kernel_rfl, rfl, by decide⟩
theorem sz4 : Sz Try.prog 4 1 1 (.bool false) := ⟨by kernel_rfl, rfl, by decide⟩
theorem sz5 : Sz Try.prog 5 1 1 (.int .u8 0) := ⟨by kernel_rfl, rfl, by decide⟩
theorem sz9 : Sz Try.prog 9 1 16 (.string ByteArray.empty) := ⟨by kernel_rfl, rfl, by decide⟩
theorem sz12 : Sz Try.prog 12 1 8 (.int .u64 0) := ⟨by kernel_rfl, rfl, by decide⟩
theorem sz13 : Sz Try.prog 13 2 24 (.agg #[.string ByteArray.empty, .int .u64 0]) := ⟨by kernel_rfl, rfl, by decide⟩
theorem sz19 : Sz Try.prog 19 1 8 (.agg #[.pointer none]) := ⟨by kernel_rfl, rfl, by decide⟩
theorem sz21 : Sz Try.prog 21 1 4 (.int .i32 0) := ⟨by kernel_rfl, rfl, by decide⟩
theorem sz22 : Sz Try.prog 22 1 24 (.slice none 0 0) := ⟨by kernel_rfl, rfl, by decide⟩
theorem sz23 : Sz Try.prog 23 1 24 (.slice none 0 0) := ⟨by kernel_rfl, rfl, by decide⟩
theorem sz25 : Sz Try.prog 25 1 8 (.nilFunc) := ⟨by kernel_rfl, rfl, by decide⟩
theorem sz26 : Sz Try.prog 26 1 8 (.nilFunc) := ⟨by kernel_rfl, rfl, by decide⟩
theorem sz27 : Sz Try.prog 27 1 8 (.nilFunc) := ⟨by kernel_rfl, rfl, by decide⟩
theorem sz28 : Sz Try.prog 28 1 8 (.nilFunc) := ⟨by kernel_rfl, rfl, by decide⟩
theorem sz29 : Sz Try.prog 29 1 8 (.nilFunc) := ⟨by kernel_rfl, rfl, by decide⟩
theorem sz30 : Sz Try.prog 30 1 8 (.nilFunc) := ⟨by kernel_rfl, rfl, by decide⟩
theorem sz31 : Sz Try.prog 31 1 8 (.nilFunc) := ⟨by kernel_rfl, rfl, by decide⟩
theorem sz32 : Sz Try.prog 32 1 24 (.slice none 0 0) := ⟨by kernel_rfl, rfl, by decide⟩
theorem sz33 : Sz Try.prog 33 1 8 (.nilFunc) := ⟨by kernel_rfl, rfl, by decide⟩
theorem sz34 : Sz Try.prog 34 1 8 (.nilFunc) := ⟨by kernel_rfl, rfl, by decide⟩
theorem sz35 : Sz Try.prog 35 1 8 (.nilFunc) := ⟨by kernel_rfl, rfl, by decide⟩
theorem sz37 : Sz Try.prog 37 1 8 (.nilFunc) := ⟨by kernel_rfl, rfl, by decide⟩
theorem sz38 : Sz Try.prog 38 1 8 (.nilFunc) := ⟨by kernel_rfl, rfl, by decide⟩
theorem sz39 : Sz Try.prog 39 1 8 (.nilFunc) := ⟨by kernel_rfl, rfl, by decide⟩
theorem sz41 : Sz Try.prog 41 1 8 (.nilFunc) := ⟨by kernel_rfl, rfl, by decide⟩
theorem sz42 : Sz Try.prog 42 1 8 (.nilFunc) := ⟨by kernel_rfl, rfl, by decide⟩
theorem sz43 : Sz Try.prog 43 1 24 (.slice none 0 0) := ⟨by kernel_rfl, rfl, by decide⟩
theorem sz44 : Sz Try.prog 44 1 8 (.nilFunc) := ⟨by kernel_rfl, rfl, by decide⟩
theorem sz45 : Sz Try.prog 45 1 24 (.slice none 0 0) := ⟨by kernel_rfl, rfl, by decide⟩
theorem sz46 : Sz Try.prog 46 1 8 (.nilFunc) := ⟨by kernel_rfl, rfl, by decide⟩
theorem sz47 : Sz Try.prog 47 1 8 (.nilFunc) := ⟨by kernel_rfl, rfl, by decide⟩
theorem sz48 : Sz Try.prog 48 1 8 (.nilFunc) := ⟨by kernel_rfl, rfl, by decide⟩
theorem sz49 : Sz Try.prog 49 1 8 (.nilFunc) := ⟨by kernel_rfl, rfl, by decide⟩
theorem sz50 : Sz Try.prog 50 1 8 (.nilFunc) := ⟨by kernel_rfl, rfl, by decide⟩
theorem sz51 : Sz Try.prog 51 1 24 (.slice none 0 0) := ⟨by kernel_rfl, rfl, by decide⟩
theorem sz52 : Sz Try.prog 52 1 8 (.nilFunc) := ⟨by kernel_rfl, rfl, by decide⟩
theorem sz53 : Sz Try.prog 53 1 24 (.slice none 0 0) := ⟨by kernel_rfl, rfl, by decide⟩
theorem sz55 : Sz Try.prog 55 1 8 (.nilFunc) := ⟨by kernel_rfl, rfl, by decide⟩
theorem sz56 : Sz Try.prog 56 1 8 (.nilFunc) := ⟨by kernel_rfl, rfl, by decide⟩
theorem sz57 : Sz Try.prog 57 1 8 (.nilFunc) := ⟨by kernel_rfl, rfl, by decide⟩
theorem sz58 : Sz Try.prog 58 1 8 (.nilFunc) := ⟨by kernel_rfl, rfl, by decide⟩
theorem sz59 : Sz Try.prog 59 1 8 (.nilFunc) := ⟨by kernel_rfl, rfl, by decide⟩
theorem sz60 : Sz Try.prog 60 1 8 (.nilFunc) := ⟨by kernel_rfl, rfl, by decide⟩
theorem sz61 : Sz Try.prog 61 1 8 (.nilFunc) := ⟨by kernel_rfl, rfl, by decide⟩
theorem sz62 : Sz Try.prog 62 1 8 (.nilFunc) := ⟨by kernel_rfl, rfl, by decide⟩
theorem sz64 : Sz Try.prog 64 1 8 (.nilFunc) := ⟨by kernel_rfl, rfl, by decide⟩
theorem sz65 : Sz Try.prog 65 1 8 (.nilFunc) := ⟨by kernel_rfl, rfl, by decide⟩
theorem sz66 : Sz Try.prog 66 3 40 (.agg #[.int .i64 0, .int .i64 0, .slice none 0 0]) := ⟨by kernel_rfl, rfl, by decide⟩
theorem sz67 : Sz Try.prog 67 3 40 (.agg #[.int .i64 0, .int .i64 0, .slice none 0 0]) := ⟨by kernel_rfl, rfl, by decide⟩
theorem sz68 : Sz Try.prog 68 1 8 (.pointer none) := ⟨by kernel_rfl, rfl, by decide⟩
theorem sz69 : Sz Try.prog 69 1 8 (.nilFunc) := ⟨by kernel_rfl, rfl, by decide⟩
theorem sz70 : Sz Try.prog 70 1 8 (.nilFunc) := ⟨by kernel_rfl, rfl, by decide⟩
theorem sz71 : Sz Try.prog 71 1 8 (.nilFunc) := ⟨by kernel_rfl, rfl, by decide⟩
theorem sz72 : Sz Try.prog 72 3 40 (.agg #[.slice none 0 0, .int .i64 0, .int .i64 0]) := ⟨by kernel_rfl, rfl, by decide⟩
theorem sz73 : Sz Try.prog 73 3 40 (.agg #[.slice none 0 0, .int .i64 0, .int .i64 0]) := ⟨by kernel_rfl, rfl, by decide⟩
theorem sz74 : Sz Try.prog 74 1 8 (.nilFunc) := ⟨by kernel_rfl, rfl, by decide⟩
theorem sz75 : Sz Try.prog 75 1 8 (.nilFunc) := ⟨by kernel_rfl, rfl, by decide⟩
theorem sz76 : Sz Try.prog 76 1 8 (.nilFunc) := ⟨by kernel_rfl, rfl, by decide⟩
theorem sz77 : Sz Try.prog 77 1 8 (.nilFunc) := ⟨by kernel_rfl, rfl, by decide⟩
theorem sz78 : Sz Try.prog 78 1 8 (.nilFunc) := ⟨by kernel_rfl, rfl, by decide⟩
theorem sz79 : Sz Try.prog 79 1 24 (.slice none 0 0) := ⟨by kernel_rfl, rfl, by decide⟩
theorem sz80 : Sz Try.prog 80 3 40 (.agg #[.int .i64 0, .int .i64 0, .slice none 0 0]) := ⟨by kernel_rfl, rfl, by decide⟩
theorem sz81 : Sz Try.prog 81 3 40 (.agg #[.int .i64 0, .int .i64 0, .slice none 0 0]) := ⟨by kernel_rfl, rfl, by decide⟩
theorem sz82 : Sz Try.prog 82 3 40 (.agg #[.int .i64 0, .int .i64 0, .slice none 0 0]) := ⟨by kernel_rfl, rfl, by decide⟩
theorem sz83 : Sz Try.prog 83 3 40 (.agg #[.int .i64 0, .int .i64 0, .slice none 0 0]) := ⟨by kernel_rfl, rfl, by decide⟩
theorem sz84 : Sz Try.prog 84 1 8 (.nilFunc) := ⟨by kernel_rfl, rfl, by decide⟩
theorem sz85 : Sz Try.prog 85 1 8 (.nilFunc) := ⟨by kernel_rfl, rfl, by decide⟩
theorem sz86 : Sz Try.prog 86 1 8 (.nilFunc) := ⟨by kernel_rfl, rfl, by decide⟩
theorem sz87 : Sz Try.prog 87 1 8 (.nilFunc) := ⟨by kernel_rfl, rfl, by decide⟩
theorem sz88 : Sz Try.prog 88 1 8 (.nilFunc) := ⟨by kernel_rfl, rfl, by decide⟩
theorem sz89 : Sz Try.prog 89 3 24 (.agg #[.int .i64 0, .int .i64 0, .int .i64 0]) := ⟨by kernel_rfl, rfl, by decide⟩
theorem sz90 : Sz Try.prog 90 3 24 (.agg #[.int .i64 0, .int .i64 0, .int .i64 0]) := ⟨by kernel_rfl, rfl, by decide⟩
theorem sz91 : Sz Try.prog 91 1 8 (.nilFunc) := ⟨by kernel_rfl, rfl, by decide⟩
theorem sz92 : Sz Try.prog 92 1 8 (.nilFunc) := ⟨by kernel_rfl, rfl, by decide⟩
theorem sz93 : Sz Try.prog 93 3 24 (.agg #[.int .i64 0, .int .i64 0, .int .i64 0]) := ⟨by kernel_rfl, rfl, by decide⟩
theorem sz94 : Sz Try.prog 94 1 8 (.nilFunc) := ⟨by kernel_rfl, rfl, by decide⟩
theorem sz95 : Sz Try.prog 95 1 8 (.nilFunc) := ⟨by kernel_rfl, rfl, by decide⟩
theorem sz96 : Sz Try.prog 96 1 8 (.nilFunc) := ⟨by kernel_rfl, rfl, by decide⟩
theorem sz97 : Sz Try.prog 97 1 8 (.nilFunc) := ⟨by kernel_rfl, rfl, by decide⟩
theorem sz98 : Sz Try.prog 98 1 8 (.nilFunc) := ⟨by kernel_rfl, rfl, by decide⟩
theorem sz99 : Sz Try.prog 99 1 8 (.nilFunc) := ⟨by kernel_rfl, rfl, by decide⟩
theorem sz100 : Sz Try.prog 100 1 8 (.nilFunc) := ⟨by kernel_rfl, rfl, by decide⟩
theorem sz101 : Sz Try.prog 101 1 8 (.nilFunc) := ⟨by kernel_rfl, rfl, by decide⟩
theorem sz102 : Sz Try.prog 102 1 8 (.nilFunc) := ⟨by kernel_rfl, rfl, by decide⟩
theorem sz103 : Sz Try.prog 103 1 8 (.nilFunc) := ⟨by kernel_rfl, rfl, by decide⟩
theorem sz104 : Sz Try.prog 104 1 8 (.pointer none) := ⟨by kernel_rfl, rfl, by decide⟩
theorem sz105 : Sz Try.prog 105 3 56 (.agg #[.slice none 0 0, .slice none 0 0, .int .i64 0]) := ⟨by kernel_rfl, rfl, by decide⟩
theorem sz106 : Sz Try.prog 106 3 56 (.agg #[.slice none 0 0, .slice none 0 0, .int .i64 0]) := ⟨by kernel_rfl, rfl, by decide⟩
theorem sz107 : Sz Try.prog 107 1 8 (.nilFunc) := ⟨by kernel_rfl, rfl, by decide⟩
theorem sz108 : Sz Try.prog 108 1 8 (.nilFunc) := ⟨by kernel_rfl, rfl, by decide⟩
theorem sz109 : Sz Try.prog 109 1 8 (.nilFunc) := ⟨by kernel_rfl, rfl, by decide⟩
theorem sz110 : Sz Try.prog 110 1 8 (.int .u64 0) := ⟨by kernel_rfl, rfl, by decide⟩
theorem sz111 : Sz Try.prog 111 1 8 (.nilFunc) := ⟨by kernel_rfl, rfl, by decide⟩
theorem sz112 : Sz Try.prog 112 1 8 (.nilFunc) := ⟨by kernel_rfl, rfl, by decide⟩
theorem sz113 : Sz Try.prog 113 1 8 (.nilFunc) := ⟨by kernel_rfl, rfl, by decide⟩
theorem sz114 : Sz Try.prog 114 3 40 (.agg #[.int .i64 0, .int .i64 0, .slice none 0 0]) := ⟨by kernel_rfl, rfl, by decide⟩
theorem sz115 : Sz Try.prog 115 1 8 (.nilFunc) := ⟨by kernel_rfl, rfl, by decide⟩
theorem sz116 : Sz Try.prog 116 1 8 (.nilFunc) := ⟨by kernel_rfl, rfl, by decide⟩
theorem sz117 : Sz Try.prog 117 1 8 (.nilFunc) := ⟨by kernel_rfl, rfl, by decide⟩
theorem sz119 : Sz Try.prog 119 1 8 (.nilFunc) := ⟨by kernel_rfl, rfl, by decide⟩
theorem sz120 : Sz Try.prog 120 1 8 (.nilFunc) := ⟨by kernel_rfl, rfl, by decide⟩
theorem sz126 : Sz Try.prog 126 1 8 (.nilFunc) := ⟨by kernel_rfl, rfl, by decide⟩
theorem sz127 : Sz Try.prog 127 1 4 (.int .u32 0) := ⟨by kernel_rfl, rfl, by decide⟩
theorem sz130 : Sz Try.prog 130 1 8 (.nilFunc) := ⟨by kernel_rfl, rfl, by decide⟩
theorem sz131 : Sz Try.prog 131 1 8 (.pointer none) := ⟨by kernel_rfl, rfl, by decide⟩
end Go.Proofs.Ytdfjkipdmeomdaa
