/- Types of this program, and how their data lie in cells. No condition. -/
import Derived.Test.YtlgmikaemfbmaaaGreatProg
import Derived.Test.YtlgmikaemfbmaaaGreatNq
namespace Go.Proofs.YtlgmikaemfbmaaaGreat
open Go.RowKit
theorem Tryz_mixed : Tryz.prog.follows .mixedOrders = true := by rfl
def fI (n : Int) : List Ce := [cI n]
def fT (s : ByteArray) : List Ce := [cT s]
def fY (n : UInt8) : List Ce := [cY n]
theorem flC {c : Ce} {l : List Ce} (h : ∃ u, ∃ hu : u.oneCell' = true, c = cV u hu) (k : ∀ d ∈ l, ∃ u, ∃ hu : u.oneCell' = true, d = cV u hu) : ∀ d ∈ c :: l, ∃ u, ∃ hu : u.oneCell' = true, d = cV u hu := fun d hd => by
  rcases List.mem_cons.1 hd with rfl | hd
  · exact h
  · exact k d hd
theorem flN : ∀ d ∈ ([] : List Ce), ∃ u, ∃ hu : u.oneCell' = true, d = cV u hu := fun _ h => by cases h
theorem flI : FlatE fI := fun _ => flC ⟨_, _, rfl⟩ flN
theorem flY : FlatE fY := fun _ => flC ⟨_, _, rfl⟩ flN
structure DPart where
  kind : Int
  n : Int
  signs : List Int
deriving DecidableEq, Inhabited
def fDPart (x : DPart) : List Ce := [cI x.kind, cI x.n, cSl 1 fI x.signs]
structure DEntry where
  client : Int
  seq : Int
  o : List DPart
deriving DecidableEq, Inhabited
def fDEntry (x : DEntry) : List Ce := [cI x.client, cI x.seq, cSl 3 fDPart x.o]
structure DSeen where
  client : Int
  seq : Int
  rev : Int
deriving DecidableEq, Inhabited
def fDSeen (x : DSeen) : List Ce := [cI x.client, cI x.seq, cI x.rev]
theorem flDSeen : FlatE fDSeen := fun _ => flC ⟨_, _, rfl⟩ (flC ⟨_, _, rfl⟩ (flC ⟨_, _, rfl⟩ (flN)))
structure DDoc where
  name : ByteArray
  from_ : Int
  text : List Int
  list : List DEntry
  seen : List DSeen
deriving DecidableEq, Inhabited
structure DL01Cur where
  b : List UInt8
  i : Int
  h : Int
deriving DecidableEq, Inhabited
structure DReader where
  b : List UInt8
  at_ : Int
  bad : Bool
deriving DecidableEq, Inhabited
structure DRest where
  parts : List DPart
deriving DecidableEq, Inhabited
structure DL02B where
  list : List DPart
  put : List Int
  drop : Int
deriving DecidableEq, Inhabited
structure DL04Cur where
  o : List DPart
  at_ : Int
  done : Int
deriving DecidableEq, Inhabited
def fLDPart (l : List DPart) : List Ce := [cSl 3 fDPart l]
theorem sz3 : Sz Tryz.prog 3 1 8 (.int .i64 0) := ⟨by kernel_rfl, rfl, by decide⟩
theorem sz4 : Sz Tryz.prog 4 1 1 (.bool false) := ⟨by kernel_rfl, rfl, by decide⟩
theorem sz5 : Sz Tryz.prog 5 1 1 (.int .u8 0) := ⟨by kernel_rfl, rfl, by decide⟩
theorem sz9 : Sz Tryz.prog 9 1 16 (.string ByteArray.empty) := ⟨by kernel_rfl, rfl, by decide⟩
theorem sz22 : Sz Tryz.prog 22 1 24 (.slice none 0 0) := ⟨by kernel_rfl, rfl, by decide⟩
theorem sz23 : Sz Tryz.prog 23 1 24 (.slice none 0 0) := ⟨by kernel_rfl, rfl, by decide⟩
theorem sz24 : Sz Tryz.prog 24 1 24 (.slice none 0 0) := ⟨by kernel_rfl, rfl, by decide⟩
theorem sz25 : Sz Tryz.prog 25 1 24 (.slice none 0 0) := ⟨by kernel_rfl, rfl, by decide⟩
theorem sz27 : Sz Tryz.prog 27 5 96 (.agg #[.string ByteArray.empty, .int .i64 0, .slice none 0 0, .slice none 0 0, .slice none 0 0]) := ⟨by kernel_rfl, rfl, by decide⟩
theorem sz48 : Sz Tryz.prog 48 1 24 (.slice none 0 0) := ⟨by kernel_rfl, rfl, by decide⟩
theorem sz70 : Sz Tryz.prog 70 3 40 (.agg #[.int .i64 0, .int .i64 0, .slice none 0 0]) := ⟨by kernel_rfl, rfl, by decide⟩
theorem sz83 : Sz Tryz.prog 83 3 24 (.agg #[.int .i64 0, .int .i64 0, .int .i64 0]) := ⟨by kernel_rfl, rfl, by decide⟩
theorem sz95 : Sz Tryz.prog 95 3 40 (.agg #[.int .i64 0, .int .i64 0, .slice none 0 0]) := ⟨by kernel_rfl, rfl, by decide⟩
end Go.Proofs.YtlgmikaemfbmaaaGreat
