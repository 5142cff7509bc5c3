/- Types of this program, and how their data lie in cells. No condition. -/
import Derived.Test.YtlgmikaemfbmaaaGreatProg
import Derived.Test.YtlgmikaemfbmaaaGreatNq
namespace Go.Proofs.YtlgmikaemfbmaaaGreat
open Go.RowKit
theorem Tryz_mixed : Tryz.prog.follows .mixedOrders = true := by rfl
def fI (n : Int) : List Ce := [cI n]
def fB (b : Bool) : List Ce := [cB b]
def fT (s : ByteArray) : List Ce := [cT s]
def fY (n : UInt8) : List Ce := [cY n]
theorem flC {c : Ce} {l : List Ce} (h : ∃ u, ∃ hu : u.oneCell' = true, c = cV u hu) (k : ∀ d ∈ l, ∃ u, ∃ hu : u.oneCell' = true, d = cV u hu) : ∀ d ∈ c :: l, ∃ u, ∃ hu : u.oneCell' = true, d = cV u hu := fun d hd => by
  rcases List.mem_cons.1 hd with rfl | hd
  · exact h
  · exact k d hd
theorem flN : ∀ d ∈ ([] : List Ce), ∃ u, ∃ hu : u.oneCell' = true, d = cV u hu := fun _ h => by cases h
theorem flI : FlatE fI := fun _ => flC ⟨_, _, rfl⟩ flN
theorem flB : FlatE fB := fun _ => flC ⟨_, _, rfl⟩ flN
theorem flT : FlatE fT := fun _ => flC ⟨_, _, rfl⟩ flN
theorem flY : FlatE fY := fun _ => flC ⟨_, _, rfl⟩ flN
structure DPart where
  kind : Int
  n : Int
  signs : List Int
deriving DecidableEq, Inhabited
def fDPart (x : DPart) : List Ce := [cI x.kind, cI x.n, cSl 1 fI x.signs]
structure DEntry where
  client : Int
  seq : Int
  o : List DPart
deriving DecidableEq, Inhabited
def fDEntry (x : DEntry) : List Ce := [cI x.client, cI x.seq, cSl 3 fDPart x.o]
structure DSeen where
  client : Int
  seq : Int
  rev : Int
deriving DecidableEq, Inhabited
def fDSeen (x : DSeen) : List Ce := [cI x.client, cI x.seq, cI x.rev]
theorem flDSeen : FlatE fDSeen := fun _ => flC ⟨_, _, rfl⟩ (flC ⟨_, _, rfl⟩ (flC ⟨_, _, rfl⟩ (flN)))
structure DDoc where
  name : ByteArray
  from_ : Int
  text : List Int
  list : List DEntry
  seen : List DSeen
deriving DecidableEq, Inhabited
def fDDoc (x : DDoc) : List Ce := [cT x.name, cI x.from_, cSl 1 fI x.text, cSl 3 fDEntry x.list, cSl 3 fDSeen x.seen]
structure DL01Cur where
  b : List UInt8
  i : Int
  h : Int
deriving DecidableEq, Inhabited
def fDL01Cur (x : DL01Cur) : List Ce := [cSl 1 fY x.b, cI x.i, cI x.h]
structure DReader where
  b : List UInt8
  at_ : Int
  bad : Bool
deriving DecidableEq, Inhabited
def fDReader (x : DReader) : List Ce := [cSl 1 fY x.b, cI x.at_, cB x.bad]
structure DRest where
  parts : List DPart
deriving DecidableEq, Inhabited
def fDRest (x : DRest) : List Ce := [cSl 3 fDPart x.parts]
structure DL02B where
  list : List DPart
  put : List Int
  drop : Int
deriving DecidableEq, Inhabited
def fDL02B (x : DL02B) : List Ce := [cSl 3 fDPart x.list, cSl 1 fI x.put, cI x.drop]
structure DL04Cur where
  o : List DPart
  at_ : Int
  done : Int
deriving DecidableEq, Inhabited
def fDL04Cur (x : DL04Cur) : List Ce := [cSl 3 fDPart x.o, cI x.at_, cI x.done]
def fLY (l : List UInt8) : List Ce := [cSl 1 fY l]
def fLI (l : List Int) : List Ce := [cSl 1 fI l]
def fLDEntry (l : List DEntry) : List Ce := [cSl 3 fDEntry l]
def fLDSeen (l : List DSeen) : List Ce := [cSl 3 fDSeen l]
def fLDPart (l : List DPart) : List Ce := [cSl 3 fDPart l]
def fLLDPart (l : List (List DPart)) : List Ce := [cSl 1 fLDPart l]
def fLT (l : List ByteArray) : List Ce := [cSl 1 fT l]
theorem sz1 : Sz Tryz.prog 1 1 8 (.nilFunc) := ⟨by kernel_rfl, rfl, by decide⟩
theorem sz2 : Sz Tryz.prog 2 1 8 (.int .i64 0) := ⟨by kernel_rfl, rfl, by decide⟩
theorem sz3 : Sz Tryz.prog 3 1 8 (.int .i64 0) := ⟨by kernel_rfl, rfl, by decide⟩
theorem sz4 : Sz Tryz.prog 4 1 1 (.bool false) := ⟨by kernel_rfl, rfl, by decide⟩
theorem sz5 : Sz Tryz.prog 5 1 1 (.int .u8 0) := ⟨by kernel_rfl, rfl, by decide⟩
theorem sz9 : Sz Tryz.prog 9 1 16 (.string ByteArray.empty) := ⟨by kernel_rfl, rfl, by decide⟩
theorem sz12 : Sz Tryz.prog 12 1 8 (.int .u64 0) := ⟨by kernel_rfl, rfl, by decide⟩
theorem sz13 : Sz Tryz.prog 13 2 24 (.agg #[.string ByteArray.empty, .int .u64 0]) := ⟨by kernel_rfl, rfl, by decide⟩
theorem sz19 : Sz Tryz.prog 19 1 8 (.agg #[.pointer none]) := ⟨by kernel_rfl, rfl, by decide⟩
theorem sz21 : Sz Tryz.prog 21 1 4 (.int .i32 0) := ⟨by kernel_rfl, rfl, by decide⟩
theorem sz22 : Sz Tryz.prog 22 1 24 (.slice none 0 0) := ⟨by kernel_rfl, rfl, by decide⟩
theorem sz23 : Sz Tryz.prog 23 1 24 (.slice none 0 0) := ⟨by kernel_rfl, rfl, by decide⟩
theorem sz24 : Sz Tryz.prog 24 1 24 (.slice none 0 0) := ⟨by kernel_rfl, rfl, by decide⟩
theorem sz25 : Sz Tryz.prog 25 1 24 (.slice none 0 0) := ⟨by kernel_rfl, rfl, by decide⟩
theorem sz26 : Sz Tryz.prog 26 5 96 (.agg #[.string ByteArray.empty, .int .i64 0, .slice none 0 0, .slice none 0 0, .slice none 0 0]) := ⟨by kernel_rfl, rfl, by decide⟩
theorem sz27 : Sz Tryz.prog 27 5 96 (.agg #[.string ByteArray.empty, .int .i64 0, .slice none 0 0, .slice none 0 0, .slice none 0 0]) := ⟨by kernel_rfl, rfl, by decide⟩
theorem sz28 : Sz Tryz.prog 28 1 8 (.nilFunc) := ⟨by kernel_rfl, rfl, by decide⟩
theorem sz29 : Sz Tryz.prog 29 1 8 (.nilFunc) := ⟨by kernel_rfl, rfl, by decide⟩
theorem sz30 : Sz Tryz.prog 30 1 8 (.nilFunc) := ⟨by kernel_rfl, rfl, by decide⟩
theorem sz32 : Sz Tryz.prog 32 1 8 (.nilFunc) := ⟨by kernel_rfl, rfl, by decide⟩
theorem sz34 : Sz Tryz.prog 34 1 8 (.nilFunc) := ⟨by kernel_rfl, rfl, by decide⟩
theorem sz35 : Sz Tryz.prog 35 1 8 (.nilFunc) := ⟨by kernel_rfl, rfl, by decide⟩
theorem sz37 : Sz Tryz.prog 37 1 8 (.nilFunc) := ⟨by kernel_rfl, rfl, by decide⟩
theorem sz38 : Sz Tryz.prog 38 1 8 (.nilFunc) := ⟨by kernel_rfl, rfl, by decide⟩
theorem sz39 : Sz Tryz.prog 39 1 8 (.nilFunc) := ⟨by kernel_rfl, rfl, by decide⟩
theorem sz41 : Sz Tryz.prog 41 1 8 (.nilFunc) := ⟨by kernel_rfl, rfl, by decide⟩
theorem sz42 : Sz Tryz.prog 42 1 8 (.nilFunc) := ⟨by kernel_rfl, rfl, by decide⟩
theorem sz43 : Sz Tryz.prog 43 1 8 (.nilFunc) := ⟨by kernel_rfl, rfl, by decide⟩
theorem sz44 : Sz Tryz.prog 44 1 8 (.nilFunc) := ⟨by kernel_rfl, rfl, by decide⟩
theorem sz46 : Sz Tryz.prog 46 1 8 (.nilFunc) := ⟨by kernel_rfl, rfl, by decide⟩
theorem sz47 : Sz Tryz.prog 47 1 8 (.nilFunc) := ⟨by kernel_rfl, rfl, by decide⟩
theorem sz48 : Sz Tryz.prog 48 1 24 (.slice none 0 0) := ⟨by kernel_rfl, rfl, by decide⟩
theorem sz49 : Sz Tryz.prog 49 1 8 (.nilFunc) := ⟨by kernel_rfl, rfl, by decide⟩
theorem sz50 : Sz Tryz.prog 50 1 8 (.nilFunc) := ⟨by kernel_rfl, rfl, by decide⟩
theorem sz52 : Sz Tryz.prog 52 1 8 (.nilFunc) := ⟨by kernel_rfl, rfl, by decide⟩
theorem sz53 : Sz Tryz.prog 53 1 8 (.nilFunc) := ⟨by kernel_rfl, rfl, by decide⟩
theorem sz55 : Sz Tryz.prog 55 1 8 (.nilFunc) := ⟨by kernel_rfl, rfl, by decide⟩
theorem sz56 : Sz Tryz.prog 56 1 8 (.nilFunc) := ⟨by kernel_rfl, rfl, by decide⟩
theorem sz57 : Sz Tryz.prog 57 1 8 (.nilFunc) := ⟨by kernel_rfl, rfl, by decide⟩
theorem sz58 : Sz Tryz.prog 58 1 8 (.nilFunc) := ⟨by kernel_rfl, rfl, by decide⟩
theorem sz59 : Sz Tryz.prog 59 1 8 (.pointer none) := ⟨by kernel_rfl, rfl, by decide⟩
theorem sz60 : Sz Tryz.prog 60 1 8 (.nilFunc) := ⟨by kernel_rfl, rfl, by decide⟩
theorem sz61 : Sz Tryz.prog 61 1 8 (.nilFunc) := ⟨by kernel_rfl, rfl, by decide⟩
theorem sz62 : Sz Tryz.prog 62 1 8 (.nilFunc) := ⟨by kernel_rfl, rfl, by decide⟩
theorem sz63 : Sz Tryz.prog 63 1 8 (.nilFunc) := ⟨by kernel_rfl, rfl, by decide⟩
theorem sz64 : Sz Tryz.prog 64 1 8 (.nilFunc) := ⟨by kernel_rfl, rfl, by decide⟩
theorem sz65 : Sz Tryz.prog 65 1 24 (.slice none 0 0) := ⟨by kernel_rfl, rfl, by decide⟩
theorem sz66 : Sz Tryz.prog 66 1 8 (.nilFunc) := ⟨by kernel_rfl, rfl, by decide⟩
theorem sz67 : Sz Tryz.prog 67 1 8 (.nilFunc) := ⟨by kernel_rfl, rfl, by decide⟩
theorem sz68 : Sz Tryz.prog 68 1 8 (.nilFunc) := ⟨by kernel_rfl, rfl, by decide⟩
theorem sz69 : Sz Tryz.prog 69 3 40 (.agg #[.int .i64 0, .int .i64 0, .slice none 0 0]) := ⟨by kernel_rfl, rfl, by decide⟩
theorem sz70 : Sz Tryz.prog 70 3 40 (.agg #[.int .i64 0, .int .i64 0, .slice none 0 0]) := ⟨by kernel_rfl, rfl, by decide⟩
theorem sz71 : Sz Tryz.prog 71 1 8 (.nilFunc) := ⟨by kernel_rfl, rfl, by decide⟩
theorem sz73 : Sz Tryz.prog 73 1 8 (.nilFunc) := ⟨by kernel_rfl, rfl, by decide⟩
theorem sz74 : Sz Tryz.prog 74 1 8 (.nilFunc) := ⟨by kernel_rfl, rfl, by decide⟩
theorem sz75 : Sz Tryz.prog 75 1 8 (.nilFunc) := ⟨by kernel_rfl, rfl, by decide⟩
theorem sz76 : Sz Tryz.prog 76 1 8 (.nilFunc) := ⟨by kernel_rfl, rfl, by decide⟩
theorem sz77 : Sz Tryz.prog 77 3 40 (.agg #[.slice none 0 0, .int .i64 0, .int .i64 0]) := ⟨by kernel_rfl, rfl, by decide⟩
theorem sz78 : Sz Tryz.prog 78 3 40 (.agg #[.slice none 0 0, .int .i64 0, .int .i64 0]) := ⟨by kernel_rfl, rfl, by decide⟩
theorem sz79 : Sz Tryz.prog 79 1 8 (.nilFunc) := ⟨by kernel_rfl, rfl, by decide⟩
theorem sz80 : Sz Tryz.prog 80 1 8 (.nilFunc) := ⟨by kernel_rfl, rfl, by decide⟩
theorem sz81 : Sz Tryz.prog 81 1 8 (.nilFunc) := ⟨by kernel_rfl, rfl, by decide⟩
theorem sz82 : Sz Tryz.prog 82 3 24 (.agg #[.int .i64 0, .int .i64 0, .int .i64 0]) := ⟨by kernel_rfl, rfl, by decide⟩
theorem sz83 : Sz Tryz.prog 83 3 24 (.agg #[.int .i64 0, .int .i64 0, .int .i64 0]) := ⟨by kernel_rfl, rfl, by decide⟩
theorem sz84 : Sz Tryz.prog 84 1 8 (.nilFunc) := ⟨by kernel_rfl, rfl, by decide⟩
theorem sz85 : Sz Tryz.prog 85 1 8 (.pointer none) := ⟨by kernel_rfl, rfl, by decide⟩
theorem sz86 : Sz Tryz.prog 86 3 40 (.agg #[.slice none 0 0, .int .i64 0, .bool false]) := ⟨by kernel_rfl, rfl, by decide⟩
theorem sz87 : Sz Tryz.prog 87 3 40 (.agg #[.slice none 0 0, .int .i64 0, .bool false]) := ⟨by kernel_rfl, rfl, by decide⟩
theorem sz88 : Sz Tryz.prog 88 1 8 (.nilFunc) := ⟨by kernel_rfl, rfl, by decide⟩
theorem sz89 : Sz Tryz.prog 89 1 8 (.nilFunc) := ⟨by kernel_rfl, rfl, by decide⟩
theorem sz90 : Sz Tryz.prog 90 1 8 (.nilFunc) := ⟨by kernel_rfl, rfl, by decide⟩
theorem sz91 : Sz Tryz.prog 91 1 8 (.nilFunc) := ⟨by kernel_rfl, rfl, by decide⟩
theorem sz92 : Sz Tryz.prog 92 1 8 (.nilFunc) := ⟨by kernel_rfl, rfl, by decide⟩
theorem sz93 : Sz Tryz.prog 93 1 8 (.nilFunc) := ⟨by kernel_rfl, rfl, by decide⟩
theorem sz94 : Sz Tryz.prog 94 3 40 (.agg #[.int .i64 0, .int .i64 0, .slice none 0 0]) := ⟨by kernel_rfl, rfl, by decide⟩
theorem sz95 : Sz Tryz.prog 95 3 40 (.agg #[.int .i64 0, .int .i64 0, .slice none 0 0]) := ⟨by kernel_rfl, rfl, by decide⟩
theorem sz96 : Sz Tryz.prog 96 1 8 (.nilFunc) := ⟨by kernel_rfl, rfl, by decide⟩
theorem sz97 : Sz Tryz.prog 97 1 8 (.nilFunc) := ⟨by kernel_rfl, rfl, by decide⟩
theorem sz98 : Sz Tryz.prog 98 1 8 (.nilFunc) := ⟨by kernel_rfl, rfl, by decide⟩
theorem sz99 : Sz Tryz.prog 99 1 8 (.nilFunc) := ⟨by kernel_rfl, rfl, by decide⟩
theorem sz100 : Sz Tryz.prog 100 1 8 (.nilFunc) := ⟨by kernel_rfl, rfl, by decide⟩
theorem sz101 : Sz Tryz.prog 101 1 8 (.nilFunc) := ⟨by kernel_rfl, rfl, by decide⟩
theorem sz103 : Sz Tryz.prog 103 1 8 (.nilFunc) := ⟨by kernel_rfl, rfl, by decide⟩
theorem sz105 : Sz Tryz.prog 105 1 8 (.nilFunc) := ⟨by kernel_rfl, rfl, by decide⟩
theorem sz106 : Sz Tryz.prog 106 1 8 (.nilFunc) := ⟨by kernel_rfl, rfl, by decide⟩
theorem sz107 : Sz Tryz.prog 107 1 24 (.slice none 0 0) := ⟨by kernel_rfl, rfl, by decide⟩
theorem sz108 : Sz Tryz.prog 108 1 8 (.nilFunc) := ⟨by kernel_rfl, rfl, by decide⟩
theorem sz109 : Sz Tryz.prog 109 1 8 (.nilFunc) := ⟨by kernel_rfl, rfl, by decide⟩
theorem sz110 : Sz Tryz.prog 110 1 8 (.nilFunc) := ⟨by kernel_rfl, rfl, by decide⟩
theorem sz111 : Sz Tryz.prog 111 1 8 (.pointer none) := ⟨by kernel_rfl, rfl, by decide⟩
theorem sz112 : Sz Tryz.prog 112 1 24 (.agg #[.slice none 0 0]) := ⟨by kernel_rfl, rfl, by decide⟩
theorem sz113 : Sz Tryz.prog 113 1 24 (.agg #[.slice none 0 0]) := ⟨by kernel_rfl, rfl, by decide⟩
theorem sz114 : Sz Tryz.prog 114 1 8 (.nilFunc) := ⟨by kernel_rfl, rfl, by decide⟩
theorem sz115 : Sz Tryz.prog 115 1 8 (.nilFunc) := ⟨by kernel_rfl, rfl, by decide⟩
theorem sz116 : Sz Tryz.prog 116 1 8 (.nilFunc) := ⟨by kernel_rfl, rfl, by decide⟩
theorem sz117 : Sz Tryz.prog 117 1 8 (.nilFunc) := ⟨by kernel_rfl, rfl, by decide⟩
theorem sz119 : Sz Tryz.prog 119 1 8 (.nilFunc) := ⟨by kernel_rfl, rfl, by decide⟩
theorem sz120 : Sz Tryz.prog 120 1 8 (.nilFunc) := ⟨by kernel_rfl, rfl, by decide⟩
theorem sz121 : Sz Tryz.prog 121 1 8 (.int .u64 0) := ⟨by kernel_rfl, rfl, by decide⟩
theorem sz122 : Sz Tryz.prog 122 1 8 (.nilFunc) := ⟨by kernel_rfl, rfl, by decide⟩
theorem sz123 : Sz Tryz.prog 123 1 8 (.nilFunc) := ⟨by kernel_rfl, rfl, by decide⟩
theorem sz124 : Sz Tryz.prog 124 1 8 (.nilFunc) := ⟨by kernel_rfl, rfl, by decide⟩
theorem sz125 : Sz Tryz.prog 125 1 8 (.nilFunc) := ⟨by kernel_rfl, rfl, by decide⟩
theorem sz127 : Sz Tryz.prog 127 1 8 (.nilFunc) := ⟨by kernel_rfl, rfl, by decide⟩
theorem sz128 : Sz Tryz.prog 128 1 8 (.nilFunc) := ⟨by kernel_rfl, rfl, by decide⟩
theorem sz130 : Sz Tryz.prog 130 1 8 (.nilFunc) := ⟨by kernel_rfl, rfl, by decide⟩
theorem sz131 : Sz Tryz.prog 131 1 8 (.nilFunc) := ⟨by kernel_rfl, rfl, by decide⟩
theorem sz133 : Sz Tryz.prog 133 1 8 (.nilFunc) := ⟨by kernel_rfl, rfl, by decide⟩
theorem sz135 : Sz Tryz.prog 135 1 8 (.nilFunc) := ⟨by kernel_rfl, rfl, by decide⟩
theorem sz136 : Sz Tryz.prog 136 1 8 (.pointer none) := ⟨by kernel_rfl, rfl, by decide⟩
theorem sz137 : Sz Tryz.prog 137 3 56 (.agg #[.slice none 0 0, .slice none 0 0, .int .i64 0]) := ⟨by kernel_rfl, rfl, by decide⟩
theorem sz138 : Sz Tryz.prog 138 3 56 (.agg #[.slice none 0 0, .slice none 0 0, .int .i64 0]) := ⟨by kernel_rfl, rfl, by decide⟩
theorem sz139 : Sz Tryz.prog 139 1 8 (.nilFunc) := ⟨by kernel_rfl, rfl, by decide⟩
theorem sz140 : Sz Tryz.prog 140 1 8 (.nilFunc) := ⟨by kernel_rfl, rfl, by decide⟩
theorem sz141 : Sz Tryz.prog 141 1 8 (.nilFunc) := ⟨by kernel_rfl, rfl, by decide⟩
theorem sz142 : Sz Tryz.prog 142 1 8 (.pointer none) := ⟨by kernel_rfl, rfl, by decide⟩
theorem sz143 : Sz Tryz.prog 143 3 40 (.agg #[.slice none 0 0, .int .i64 0, .int .i64 0]) := ⟨by kernel_rfl, rfl, by decide⟩
theorem sz144 : Sz Tryz.prog 144 3 40 (.agg #[.slice none 0 0, .int .i64 0, .int .i64 0]) := ⟨by kernel_rfl, rfl, by decide⟩
theorem sz145 : Sz Tryz.prog 145 1 8 (.nilFunc) := ⟨by kernel_rfl, rfl, by decide⟩
theorem sz146 : Sz Tryz.prog 146 1 8 (.nilFunc) := ⟨by kernel_rfl, rfl, by decide⟩
theorem sz147 : Sz Tryz.prog 147 1 8 (.nilFunc) := ⟨by kernel_rfl, rfl, by decide⟩
theorem sz148 : Sz Tryz.prog 148 1 8 (.nilFunc) := ⟨by kernel_rfl, rfl, by decide⟩
theorem sz149 : Sz Tryz.prog 149 1 8 (.nilFunc) := ⟨by kernel_rfl, rfl, by decide⟩
theorem sz155 : Sz Tryz.prog 155 1 4 (.int .u32 0) := ⟨by kernel_rfl, rfl, by decide⟩
theorem sz158 : Sz Tryz.prog 158 1 8 (.nilFunc) := ⟨by kernel_rfl, rfl, by decide⟩
theorem sz159 : Sz Tryz.prog 159 1 8 (.pointer none) := ⟨by kernel_rfl, rfl, by decide⟩
end Go.Proofs.YtlgmikaemfbmaaaGreat
