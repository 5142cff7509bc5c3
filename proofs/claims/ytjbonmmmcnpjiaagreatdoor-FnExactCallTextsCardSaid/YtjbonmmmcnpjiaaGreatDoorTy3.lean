/- Types of this program, and how their data lie in cells. No condition. -/
import Derived.Test.YtjbonmmmcnpjiaaGreatDoorProg
import Derived.Test.YtjbonmmmcnpjiaaGreatDoorNq
namespace Go.Proofs.YtjbonmmmcnpjiaaGreatDoor
open Go.RowKit
theorem Tryz_mixed : Tryz.prog.follows .mixedOrders = true := by rfl
def fI (n : Int) : List Ce := [cI n]
def fB (b : Bool) : List Ce := [cB b]
def fT (s : ByteArray) : List Ce := [cT s]
def fY (n : UInt8) : List Ce := [cY n]
theorem flC {c : Ce} {l : List Ce} (h : ∃ u, ∃ hu : u.oneCell' = true, c = cV u hu) (k : ∀ d ∈ l, ∃ u, ∃ hu : u.oneCell' = true, d = cV u hu) : ∀ d ∈ c :: l, ∃ u, ∃ hu : u.oneCell' = true, d = cV u hu := fun d hd => by
  rcases List.mem_cons.1 hd with rfl | hd
  · exact h
  · exact k d hd
theorem flN : ∀ d ∈ ([] : List Ce), ∃ u, ∃ hu : u.oneCell' = true, d = cV u hu := fun _ h => by cases h
theorem flI : FlatE fI := fun _ => flC ⟨_, _, rfl⟩ flN
theorem flB : FlatE fB := fun _ => flC ⟨_, _, rfl⟩ flN
theorem flT : FlatE fT := fun _ => flC ⟨_, _, rfl⟩ flN
theorem flY : FlatE fY := fun _ => flC ⟨_, _, rfl⟩ flN
structure DPart where
  kind : Int
  n : Int
  signs : List Int
deriving DecidableEq, Inhabited
def fDPart (x : DPart) : List Ce := [cI x.kind, cI x.n, cSl 1 fI x.signs]
structure DEntry where
  client : Int
  seq : Int
  o : List DPart
deriving DecidableEq, Inhabited
def fDEntry (x : DEntry) : List Ce := [cI x.client, cI x.seq, cSl 3 fDPart x.o]
structure DSeen where
  client : Int
  seq : Int
  rev : Int
deriving DecidableEq, Inhabited
def fDSeen (x : DSeen) : List Ce := [cI x.client, cI x.seq, cI x.rev]
theorem flDSeen : FlatE fDSeen := fun _ => flC ⟨_, _, rfl⟩ (flC ⟨_, _, rfl⟩ (flC ⟨_, _, rfl⟩ (flN)))
structure DDoc where
  name : ByteArray
  from_ : Int
  text : List Int
  list : List DEntry
  seen : List DSeen
deriving DecidableEq, Inhabited
def fDDoc (x : DDoc) : List Ce := [cT x.name, cI x.from_, cSl 1 fI x.text, cSl 3 fDEntry x.list, cSl 3 fDSeen x.seen]
structure DRing where
  cap : Int
  next : Int
  out : Bool
  list : List DEntry
deriving DecidableEq, Inhabited
def fDRing (x : DRing) : List Ce := [cI x.cap, cI x.next, cB x.out, cSl 3 fDEntry x.list]
structure DSub where
  id : Int
  doc : ByteArray
  r : DRing
deriving DecidableEq, Inhabited
def fDSub (x : DSub) : List Ce := [cI x.id, cT x.doc, cI x.r.cap, cI x.r.next, cB x.r.out, cSl 3 fDEntry x.r.list]
structure DHub where
  shut : Bool
  docs : List DDoc
  subs : List DSub
  last : Int
deriving DecidableEq, Inhabited
def fDHub (x : DHub) : List Ce := [cB x.shut, cSl 5 fDDoc x.docs, cSl 6 fDSub x.subs, cI x.last]
structure DQueue where
  doc : ByteArray
  list : List Int
deriving DecidableEq, Inhabited
def fDQueue (x : DQueue) : List Ce := [cT x.doc, cSl 1 fI x.list]
structure DCall where
  kind : Int
  doc : ByteArray
  client : Int
  seq : Int
  n : Int
  o : List DPart
  text : List Int
deriving DecidableEq, Inhabited
def fDCall (x : DCall) : List Ce := [cI x.kind, cT x.doc, cI x.client, cI x.seq, cI x.n, cSl 3 fDPart x.o, cSl 1 fI x.text]
structure DAnswer where
  code : Int
  rev : Int
  text : List Int
  list : List DEntry
deriving DecidableEq, Inhabited
def fDAnswer (x : DAnswer) : List Ce := [cI x.code, cI x.rev, cSl 1 fI x.text, cSl 3 fDEntry x.list]
structure DTask where
  c : DCall
  pc : Int
  inv : Int
  lin : Int
  res : Int
  a : DAnswer
deriving DecidableEq, Inhabited
def fDTask (x : DTask) : List Ce := [cI x.c.kind, cT x.c.doc, cI x.c.client, cI x.c.seq, cI x.c.n, cSl 3 fDPart x.c.o, cSl 1 fI x.c.text, cI x.pc, cI x.inv, cI x.lin, cI x.res, cI x.a.code, cI x.a.rev, cSl 1 fI x.a.text, cSl 3 fDEntry x.a.list]
structure DWorld where
  h : DHub
  locks : List Int
  queues : List DQueue
  tasks : List DTask
  step : Int
deriving DecidableEq, Inhabited
def fDWorld (x : DWorld) : List Ce := [cB x.h.shut, cSl 5 fDDoc x.h.docs, cSl 6 fDSub x.h.subs, cI x.h.last, cSl 1 fI x.locks, cSl 2 fDQueue x.queues, cSl 15 fDTask x.tasks, cI x.step]
structure DL02B where
  list : List DPart
  put : List Int
  drop : Int
deriving DecidableEq, Inhabited
def fDL02B (x : DL02B) : List Ce := [cSl 3 fDPart x.list, cSl 1 fI x.put, cI x.drop]
def fLDDoc (l : List DDoc) : List Ce := [cSl 5 fDDoc l]
def fLDSub (l : List DSub) : List Ce := [cSl 6 fDSub l]
def fLI (l : List Int) : List Ce := [cSl 1 fI l]
def fLDQueue (l : List DQueue) : List Ce := [cSl 2 fDQueue l]
def fLDTask (l : List DTask) : List Ce := [cSl 15 fDTask l]
def fLT (l : List ByteArray) : List Ce := [cSl 1 fT l]
def fLDPart (l : List DPart) : List Ce := [cSl 3 fDPart l]
def fLDEntry (l : List DEntry) : List Ce := [cSl 3 fDEntry l]
def fLY (l : List UInt8) : List Ce := [cSl 1 fY l]
def fLDSeen (l : List DSeen) : List Ce := [cSl 3 fDSeen l]
def fLLDPart (l : List (List DPart)) : List Ce := [cSl 1 fLDPart l]
theorem sz1 : Sz Tryz.prog 1 1 8 (.nilFunc) := ⟨by kernel_rfl, rfl, by decide⟩
theorem sz2 : Sz Tryz.prog 2 1 8 (.int .i64 0) := ⟨by kernel_rfl, rfl, by decide⟩
theorem sz3 : Sz Tryz.prog 3 1 8 (.int .i64 0) := ⟨by kernel_rfl, rfl, by decide⟩
theorem sz4 : Sz Tryz.prog 4 1 1 (.bool false) := ⟨by kernel_rfl, rfl, by decide⟩
theorem sz5 : Sz Tryz.prog 5 1 1 (.int .u8 0) := ⟨by kernel_rfl, rfl, by decide⟩
theorem sz9 : Sz Tryz.prog 9 1 16 (.string ByteArray.empty) := ⟨by kernel_rfl, rfl, by decide⟩
theorem sz12 : Sz Tryz.prog 12 1 8 (.int .u64 0) := ⟨by kernel_rfl, rfl, by decide⟩
theorem sz13 : Sz Tryz.prog 13 2 24 (.agg #[.string ByteArray.empty, .int .u64 0]) := ⟨by kernel_rfl, rfl, by decide⟩
theorem sz19 : Sz Tryz.prog 19 1 8 (.agg #[.pointer none]) := ⟨by kernel_rfl, rfl, by decide⟩
theorem sz21 : Sz Tryz.prog 21 1 4 (.int .i32 0) := ⟨by kernel_rfl, rfl, by decide⟩
theorem sz22 : Sz Tryz.prog 22 1 24 (.slice none 0 0) := ⟨by kernel_rfl, rfl, by decide⟩
theorem sz23 : Sz Tryz.prog 23 1 24 (.slice none 0 0) := ⟨by kernel_rfl, rfl, by decide⟩
theorem sz24 : Sz Tryz.prog 24 4 64 (.agg #[.bool false, .slice none 0 0, .slice none 0 0, .int .i64 0]) := ⟨by kernel_rfl, rfl, by decide⟩
theorem sz25 : Sz Tryz.prog 25 4 64 (.agg #[.bool false, .slice none 0 0, .slice none 0 0, .int .i64 0]) := ⟨by kernel_rfl, rfl, by decide⟩
theorem sz26 : Sz Tryz.prog 26 1 24 (.slice none 0 0) := ⟨by kernel_rfl, rfl, by decide⟩
theorem sz27 : Sz Tryz.prog 27 1 24 (.slice none 0 0) := ⟨by kernel_rfl, rfl, by decide⟩
theorem sz28 : Sz Tryz.prog 28 1 24 (.slice none 0 0) := ⟨by kernel_rfl, rfl, by decide⟩
theorem sz29 : Sz Tryz.prog 29 8 144 (.agg #[.bool false, .slice none 0 0, .slice none 0 0, .int .i64 0, .slice none 0 0, .slice none 0 0, .slice none 0 0, .int .i64 0]) := ⟨by kernel_rfl, rfl, by decide⟩
theorem sz30 : Sz Tryz.prog 30 8 144 (.agg #[.bool false, .slice none 0 0, .slice none 0 0, .int .i64 0, .slice none 0 0, .slice none 0 0, .slice none 0 0, .int .i64 0]) := ⟨by kernel_rfl, rfl, by decide⟩
theorem sz31 : Sz Tryz.prog 31 1 8 (.nilFunc) := ⟨by kernel_rfl, rfl, by decide⟩
theorem sz32 : Sz Tryz.prog 32 1 8 (.nilFunc) := ⟨by kernel_rfl, rfl, by decide⟩
theorem sz33 : Sz Tryz.prog 33 1 24 (.slice none 0 0) := ⟨by kernel_rfl, rfl, by decide⟩
theorem sz34 : Sz Tryz.prog 34 1 24 (.slice none 0 0) := ⟨by kernel_rfl, rfl, by decide⟩
theorem sz35 : Sz Tryz.prog 35 4 64 (.agg #[.bool false, .slice none 0 0, .slice none 0 0, .int .i64 0]) := ⟨by kernel_rfl, rfl, by decide⟩
theorem sz36 : Sz Tryz.prog 36 4 64 (.agg #[.bool false, .slice none 0 0, .slice none 0 0, .int .i64 0]) := ⟨by kernel_rfl, rfl, by decide⟩
theorem sz37 : Sz Tryz.prog 37 1 24 (.slice none 0 0) := ⟨by kernel_rfl, rfl, by decide⟩
theorem sz38 : Sz Tryz.prog 38 1 24 (.slice none 0 0) := ⟨by kernel_rfl, rfl, by decide⟩
theorem sz39 : Sz Tryz.prog 39 8 144 (.agg #[.bool false, .slice none 0 0, .slice none 0 0, .int .i64 0, .slice none 0 0, .slice none 0 0, .slice none 0 0, .int .i64 0]) := ⟨by kernel_rfl, rfl, by decide⟩
theorem sz40 : Sz Tryz.prog 40 8 144 (.agg #[.bool false, .slice none 0 0, .slice none 0 0, .int .i64 0, .slice none 0 0, .slice none 0 0, .slice none 0 0, .int .i64 0]) := ⟨by kernel_rfl, rfl, by decide⟩
theorem sz41 : Sz Tryz.prog 41 1 8 (.nilFunc) := ⟨by kernel_rfl, rfl, by decide⟩
theorem sz42 : Sz Tryz.prog 42 1 8 (.nilFunc) := ⟨by kernel_rfl, rfl, by decide⟩
theorem sz43 : Sz Tryz.prog 43 1 8 (.nilFunc) := ⟨by kernel_rfl, rfl, by decide⟩
theorem sz44 : Sz Tryz.prog 44 1 24 (.slice none 0 0) := ⟨by kernel_rfl, rfl, by decide⟩
theorem sz45 : Sz Tryz.prog 45 1 8 (.nilFunc) := ⟨by kernel_rfl, rfl, by decide⟩
theorem sz46 : Sz Tryz.prog 46 1 8 (.nilFunc) := ⟨by kernel_rfl, rfl, by decide⟩
theorem sz47 : Sz Tryz.prog 47 1 8 (.nilFunc) := ⟨by kernel_rfl, rfl, by decide⟩
theorem sz48 : Sz Tryz.prog 48 1 8 (.nilFunc) := ⟨by kernel_rfl, rfl, by decide⟩
theorem sz49 : Sz Tryz.prog 49 1 8 (.nilFunc) := ⟨by kernel_rfl, rfl, by decide⟩
theorem sz50 : Sz Tryz.prog 50 1 8 (.nilFunc) := ⟨by kernel_rfl, rfl, by decide⟩
theorem sz51 : Sz Tryz.prog 51 1 8 (.nilFunc) := ⟨by kernel_rfl, rfl, by decide⟩
theorem sz52 : Sz Tryz.prog 52 1 8 (.nilFunc) := ⟨by kernel_rfl, rfl, by decide⟩
theorem sz53 : Sz Tryz.prog 53 1 8 (.nilFunc) := ⟨by kernel_rfl, rfl, by decide⟩
theorem sz54 : Sz Tryz.prog 54 1 8 (.nilFunc) := ⟨by kernel_rfl, rfl, by decide⟩
theorem sz55 : Sz Tryz.prog 55 2 40 (.agg #[.string ByteArray.empty, .slice none 0 0]) := ⟨by kernel_rfl, rfl, by decide⟩
theorem sz56 : Sz Tryz.prog 56 2 40 (.agg #[.string ByteArray.empty, .slice none 0 0]) := ⟨by kernel_rfl, rfl, by decide⟩
theorem sz57 : Sz Tryz.prog 57 1 24 (.slice none 0 0) := ⟨by kernel_rfl, rfl, by decide⟩
theorem sz58 : Sz Tryz.prog 58 7 96 (.agg #[.int .i64 0, .string ByteArray.empty, .int .i64 0, .int .i64 0, .int .i64 0, .slice none 0 0, .slice none 0 0]) := ⟨by kernel_rfl, rfl, by decide⟩
theorem sz59 : Sz Tryz.prog 59 7 96 (.agg #[.int .i64 0, .string ByteArray.empty, .int .i64 0, .int .i64 0, .int .i64 0, .slice none 0 0, .slice none 0 0]) := ⟨by kernel_rfl, rfl, by decide⟩
theorem sz60 : Sz Tryz.prog 60 1 24 (.slice none 0 0) := ⟨by kernel_rfl, rfl, by decide⟩
theorem sz61 : Sz Tryz.prog 61 4 64 (.agg #[.int .i64 0, .int .i64 0, .slice none 0 0, .slice none 0 0]) := ⟨by kernel_rfl, rfl, by decide⟩
theorem sz62 : Sz Tryz.prog 62 4 64 (.agg #[.int .i64 0, .int .i64 0, .slice none 0 0, .slice none 0 0]) := ⟨by kernel_rfl, rfl, by decide⟩
theorem sz63 : Sz Tryz.prog 63 15 192 (.agg #[.int .i64 0, .string ByteArray.empty, .int .i64 0, .int .i64 0, .int .i64 0, .slice none 0 0, .slice none 0 0, .int .i64 0, .int .i64 0, .int .i64 0, .int .i64 0, .int .i64 0, .int .i64 0, .slice none 0 0, .slice none 0 0]) := ⟨by kernel_rfl, rfl, by decide⟩
theorem sz64 : Sz Tryz.prog 64 15 192 (.agg #[.int .i64 0, .string ByteArray.empty, .int .i64 0, .int .i64 0, .int .i64 0, .slice none 0 0, .slice none 0 0, .int .i64 0, .int .i64 0, .int .i64 0, .int .i64 0, .int .i64 0, .int .i64 0, .slice none 0 0, .slice none 0 0]) := ⟨by kernel_rfl, rfl, by decide⟩
theorem sz65 : Sz Tryz.prog 65 1 8 (.nilFunc) := ⟨by kernel_rfl, rfl, by decide⟩
theorem sz66 : Sz Tryz.prog 66 1 8 (.nilFunc) := ⟨by kernel_rfl, rfl, by decide⟩
theorem sz67 : Sz Tryz.prog 67 1 8 (.nilFunc) := ⟨by kernel_rfl, rfl, by decide⟩
theorem sz68 : Sz Tryz.prog 68 1 8 (.nilFunc) := ⟨by kernel_rfl, rfl, by decide⟩
theorem sz69 : Sz Tryz.prog 69 1 8 (.nilFunc) := ⟨by kernel_rfl, rfl, by decide⟩
theorem sz70 : Sz Tryz.prog 70 1 8 (.nilFunc) := ⟨by kernel_rfl, rfl, by decide⟩
theorem sz71 : Sz Tryz.prog 71 1 8 (.nilFunc) := ⟨by kernel_rfl, rfl, by decide⟩
theorem sz72 : Sz Tryz.prog 72 1 8 (.nilFunc) := ⟨by kernel_rfl, rfl, by decide⟩
theorem sz73 : Sz Tryz.prog 73 1 8 (.nilFunc) := ⟨by kernel_rfl, rfl, by decide⟩
theorem sz74 : Sz Tryz.prog 74 1 8 (.nilFunc) := ⟨by kernel_rfl, rfl, by decide⟩
theorem sz75 : Sz Tryz.prog 75 1 8 (.nilFunc) := ⟨by kernel_rfl, rfl, by decide⟩
theorem sz76 : Sz Tryz.prog 76 1 8 (.nilFunc) := ⟨by kernel_rfl, rfl, by decide⟩
theorem sz77 : Sz Tryz.prog 77 1 8 (.nilFunc) := ⟨by kernel_rfl, rfl, by decide⟩
theorem sz78 : Sz Tryz.prog 78 1 8 (.nilFunc) := ⟨by kernel_rfl, rfl, by decide⟩
theorem sz79 : Sz Tryz.prog 79 1 8 (.nilFunc) := ⟨by kernel_rfl, rfl, by decide⟩
theorem sz80 : Sz Tryz.prog 80 1 8 (.nilFunc) := ⟨by kernel_rfl, rfl, by decide⟩
theorem sz81 : Sz Tryz.prog 81 2 40 (.agg #[.string ByteArray.empty, .slice none 0 0]) := ⟨by kernel_rfl, rfl, by decide⟩
theorem sz82 : Sz Tryz.prog 82 1 8 (.nilFunc) := ⟨by kernel_rfl, rfl, by decide⟩
theorem sz83 : Sz Tryz.prog 83 1 24 (.slice none 0 0) := ⟨by kernel_rfl, rfl, by decide⟩
theorem sz84 : Sz Tryz.prog 84 7 96 (.agg #[.int .i64 0, .string ByteArray.empty, .int .i64 0, .int .i64 0, .int .i64 0, .slice none 0 0, .slice none 0 0]) := ⟨by kernel_rfl, rfl, by decide⟩
theorem sz85 : Sz Tryz.prog 85 7 96 (.agg #[.int .i64 0, .string ByteArray.empty, .int .i64 0, .int .i64 0, .int .i64 0, .slice none 0 0, .slice none 0 0]) := ⟨by kernel_rfl, rfl, by decide⟩
theorem sz86 : Sz Tryz.prog 86 1 24 (.slice none 0 0) := ⟨by kernel_rfl, rfl, by decide⟩
theorem sz87 : Sz Tryz.prog 87 4 64 (.agg #[.int .i64 0, .int .i64 0, .slice none 0 0, .slice none 0 0]) := ⟨by kernel_rfl, rfl, by decide⟩
theorem sz88 : Sz Tryz.prog 88 4 64 (.agg #[.int .i64 0, .int .i64 0, .slice none 0 0, .slice none 0 0]) := ⟨by kernel_rfl, rfl, by decide⟩
theorem sz89 : Sz Tryz.prog 89 15 192 (.agg #[.int .i64 0, .string ByteArray.empty, .int .i64 0, .int .i64 0, .int .i64 0, .slice none 0 0, .slice none 0 0, .int .i64 0, .int .i64 0, .int .i64 0, .int .i64 0, .int .i64 0, .int .i64 0, .slice none 0 0, .slice none 0 0]) := ⟨by kernel_rfl, rfl, by decide⟩
theorem sz90 : Sz Tryz.prog 90 15 192 (.agg #[.int .i64 0, .string ByteArray.empty, .int .i64 0, .int .i64 0, .int .i64 0, .slice none 0 0, .slice none 0 0, .int .i64 0, .int .i64 0, .int .i64 0, .int .i64 0, .int .i64 0, .int .i64 0, .slice none 0 0, .slice none 0 0]) := ⟨by kernel_rfl, rfl, by decide⟩
theorem sz91 : Sz Tryz.prog 91 1 8 (.nilFunc) := ⟨by kernel_rfl, rfl, by decide⟩
theorem sz92 : Sz Tryz.prog 92 1 8 (.nilFunc) := ⟨by kernel_rfl, rfl, by decide⟩
theorem sz93 : Sz Tryz.prog 93 1 8 (.nilFunc) := ⟨by kernel_rfl, rfl, by decide⟩
theorem sz94 : Sz Tryz.prog 94 1 24 (.slice none 0 0) := ⟨by kernel_rfl, rfl, by decide⟩
theorem sz95 : Sz Tryz.prog 95 1 8 (.nilFunc) := ⟨by kernel_rfl, rfl, by decide⟩
theorem sz96 : Sz Tryz.prog 96 1 8 (.nilFunc) := ⟨by kernel_rfl, rfl, by decide⟩
theorem sz97 : Sz Tryz.prog 97 1 8 (.nilFunc) := ⟨by kernel_rfl, rfl, by decide⟩
theorem sz98 : Sz Tryz.prog 98 1 8 (.nilFunc) := ⟨by kernel_rfl, rfl, by decide⟩
theorem sz99 : Sz Tryz.prog 99 1 8 (.nilFunc) := ⟨by kernel_rfl, rfl, by decide⟩
theorem sz100 : Sz Tryz.prog 100 1 8 (.nilFunc) := ⟨by kernel_rfl, rfl, by decide⟩
theorem sz101 : Sz Tryz.prog 101 1 8 (.nilFunc) := ⟨by kernel_rfl, rfl, by decide⟩
theorem sz102 : Sz Tryz.prog 102 1 8 (.nilFunc) := ⟨by kernel_rfl, rfl, by decide⟩
theorem sz103 : Sz Tryz.prog 103 1 8 (.nilFunc) := ⟨by kernel_rfl, rfl, by decide⟩
theorem sz104 : Sz Tryz.prog 104 1 8 (.nilFunc) := ⟨by kernel_rfl, rfl, by decide⟩
theorem sz105 : Sz Tryz.prog 105 1 8 (.nilFunc) := ⟨by kernel_rfl, rfl, by decide⟩
theorem sz106 : Sz Tryz.prog 106 1 8 (.nilFunc) := ⟨by kernel_rfl, rfl, by decide⟩
theorem sz107 : Sz Tryz.prog 107 1 8 (.nilFunc) := ⟨by kernel_rfl, rfl, by decide⟩
theorem sz108 : Sz Tryz.prog 108 1 8 (.nilFunc) := ⟨by kernel_rfl, rfl, by decide⟩
theorem sz110 : Sz Tryz.prog 110 1 8 (.nilFunc) := ⟨by kernel_rfl, rfl, by decide⟩
theorem sz111 : Sz Tryz.prog 111 1 8 (.nilFunc) := ⟨by kernel_rfl, rfl, by decide⟩
theorem sz112 : Sz Tryz.prog 112 1 8 (.nilFunc) := ⟨by kernel_rfl, rfl, by decide⟩
theorem sz113 : Sz Tryz.prog 113 1 8 (.nilFunc) := ⟨by kernel_rfl, rfl, by decide⟩
theorem sz114 : Sz Tryz.prog 114 1 8 (.nilFunc) := ⟨by kernel_rfl, rfl, by decide⟩
theorem sz115 : Sz Tryz.prog 115 1 8 (.nilFunc) := ⟨by kernel_rfl, rfl, by decide⟩
theorem sz116 : Sz Tryz.prog 116 1 8 (.nilFunc) := ⟨by kernel_rfl, rfl, by decide⟩
theorem sz117 : Sz Tryz.prog 117 1 8 (.nilFunc) := ⟨by kernel_rfl, rfl, by decide⟩
theorem sz118 : Sz Tryz.prog 118 1 8 (.nilFunc) := ⟨by kernel_rfl, rfl, by decide⟩
theorem sz119 : Sz Tryz.prog 119 1 24 (.slice none 0 0) := ⟨by kernel_rfl, rfl, by decide⟩
theorem sz120 : Sz Tryz.prog 120 5 96 (.agg #[.string ByteArray.empty, .int .i64 0, .slice none 0 0, .slice none 0 0, .slice none 0 0]) := ⟨by kernel_rfl, rfl, by decide⟩
theorem sz121 : Sz Tryz.prog 121 5 96 (.agg #[.string ByteArray.empty, .int .i64 0, .slice none 0 0, .slice none 0 0, .slice none 0 0]) := ⟨by kernel_rfl, rfl, by decide⟩
theorem sz122 : Sz Tryz.prog 122 1 8 (.nilFunc) := ⟨by kernel_rfl, rfl, by decide⟩
theorem sz123 : Sz Tryz.prog 123 4 48 (.agg #[.int .i64 0, .int .i64 0, .bool false, .slice none 0 0]) := ⟨by kernel_rfl, rfl, by decide⟩
theorem sz124 : Sz Tryz.prog 124 4 48 (.agg #[.int .i64 0, .int .i64 0, .bool false, .slice none 0 0]) := ⟨by kernel_rfl, rfl, by decide⟩
theorem sz125 : Sz Tryz.prog 125 6 72 (.agg #[.int .i64 0, .string ByteArray.empty, .int .i64 0, .int .i64 0, .bool false, .slice none 0 0]) := ⟨by kernel_rfl, rfl, by decide⟩
theorem sz126 : Sz Tryz.prog 126 6 72 (.agg #[.int .i64 0, .string ByteArray.empty, .int .i64 0, .int .i64 0, .bool false, .slice none 0 0]) := ⟨by kernel_rfl, rfl, by decide⟩
theorem sz127 : Sz Tryz.prog 127 1 8 (.nilFunc) := ⟨by kernel_rfl, rfl, by decide⟩
theorem sz128 : Sz Tryz.prog 128 1 8 (.nilFunc) := ⟨by kernel_rfl, rfl, by decide⟩
theorem sz129 : Sz Tryz.prog 129 1 8 (.nilFunc) := ⟨by kernel_rfl, rfl, by decide⟩
theorem sz130 : Sz Tryz.prog 130 1 24 (.slice none 0 0) := ⟨by kernel_rfl, rfl, by decide⟩
theorem sz131 : Sz Tryz.prog 131 5 96 (.agg #[.string ByteArray.empty, .int .i64 0, .slice none 0 0, .slice none 0 0, .slice none 0 0]) := ⟨by kernel_rfl, rfl, by decide⟩
theorem sz132 : Sz Tryz.prog 132 5 96 (.agg #[.string ByteArray.empty, .int .i64 0, .slice none 0 0, .slice none 0 0, .slice none 0 0]) := ⟨by kernel_rfl, rfl, by decide⟩
theorem sz133 : Sz Tryz.prog 133 1 8 (.nilFunc) := ⟨by kernel_rfl, rfl, by decide⟩
theorem sz134 : Sz Tryz.prog 134 4 48 (.agg #[.int .i64 0, .int .i64 0, .bool false, .slice none 0 0]) := ⟨by kernel_rfl, rfl, by decide⟩
theorem sz135 : Sz Tryz.prog 135 4 48 (.agg #[.int .i64 0, .int .i64 0, .bool false, .slice none 0 0]) := ⟨by kernel_rfl, rfl, by decide⟩
theorem sz136 : Sz Tryz.prog 136 6 72 (.agg #[.int .i64 0, .string ByteArray.empty, .int .i64 0, .int .i64 0, .bool false, .slice none 0 0]) := ⟨by kernel_rfl, rfl, by decide⟩
theorem sz137 : Sz Tryz.prog 137 6 72 (.agg #[.int .i64 0, .string ByteArray.empty, .int .i64 0, .int .i64 0, .bool false, .slice none 0 0]) := ⟨by kernel_rfl, rfl, by decide⟩
theorem sz138 : Sz Tryz.prog 138 1 8 (.nilFunc) := ⟨by kernel_rfl, rfl, by decide⟩
theorem sz139 : Sz Tryz.prog 139 1 8 (.nilFunc) := ⟨by kernel_rfl, rfl, by decide⟩
theorem sz140 : Sz Tryz.prog 140 1 8 (.nilFunc) := ⟨by kernel_rfl, rfl, by decide⟩
theorem sz141 : Sz Tryz.prog 141 1 8 (.nilFunc) := ⟨by kernel_rfl, rfl, by decide⟩
theorem sz142 : Sz Tryz.prog 142 1 8 (.nilFunc) := ⟨by kernel_rfl, rfl, by decide⟩
theorem sz143 : Sz Tryz.prog 143 1 8 (.nilFunc) := ⟨by kernel_rfl, rfl, by decide⟩
theorem sz144 : Sz Tryz.prog 144 1 8 (.nilFunc) := ⟨by kernel_rfl, rfl, by decide⟩
theorem sz145 : Sz Tryz.prog 145 1 8 (.nilFunc) := ⟨by kernel_rfl, rfl, by decide⟩
theorem sz146 : Sz Tryz.prog 146 1 8 (.nilFunc) := ⟨by kernel_rfl, rfl, by decide⟩
theorem sz147 : Sz Tryz.prog 147 1 8 (.nilFunc) := ⟨by kernel_rfl, rfl, by decide⟩
theorem sz148 : Sz Tryz.prog 148 1 8 (.nilFunc) := ⟨by kernel_rfl, rfl, by decide⟩
theorem sz149 : Sz Tryz.prog 149 1 8 (.nilFunc) := ⟨by kernel_rfl, rfl, by decide⟩
theorem sz150 : Sz Tryz.prog 150 1 8 (.nilFunc) := ⟨by kernel_rfl, rfl, by decide⟩
theorem sz151 : Sz Tryz.prog 151 1 8 (.nilFunc) := ⟨by kernel_rfl, rfl, by decide⟩
theorem sz152 : Sz Tryz.prog 152 1 8 (.nilFunc) := ⟨by kernel_rfl, rfl, by decide⟩
theorem sz153 : Sz Tryz.prog 153 1 8 (.nilFunc) := ⟨by kernel_rfl, rfl, by decide⟩
theorem sz154 : Sz Tryz.prog 154 1 8 (.nilFunc) := ⟨by kernel_rfl, rfl, by decide⟩
theorem sz155 : Sz Tryz.prog 155 3 40 (.agg #[.int .i64 0, .int .i64 0, .slice none 0 0]) := ⟨by kernel_rfl, rfl, by decide⟩
theorem sz156 : Sz Tryz.prog 156 3 40 (.agg #[.int .i64 0, .int .i64 0, .slice none 0 0]) := ⟨by kernel_rfl, rfl, by decide⟩
theorem sz157 : Sz Tryz.prog 157 3 40 (.agg #[.int .i64 0, .int .i64 0, .slice none 0 0]) := ⟨by kernel_rfl, rfl, by decide⟩
theorem sz158 : Sz Tryz.prog 158 3 40 (.agg #[.int .i64 0, .int .i64 0, .slice none 0 0]) := ⟨by kernel_rfl, rfl, by decide⟩
theorem sz159 : Sz Tryz.prog 159 1 8 (.nilFunc) := ⟨by kernel_rfl, rfl, by decide⟩
theorem sz160 : Sz Tryz.prog 160 1 8 (.nilFunc) := ⟨by kernel_rfl, rfl, by decide⟩
theorem sz161 : Sz Tryz.prog 161 1 8 (.nilFunc) := ⟨by kernel_rfl, rfl, by decide⟩
theorem sz162 : Sz Tryz.prog 162 1 8 (.nilFunc) := ⟨by kernel_rfl, rfl, by decide⟩
theorem sz163 : Sz Tryz.prog 163 1 8 (.nilFunc) := ⟨by kernel_rfl, rfl, by decide⟩
theorem sz165 : Sz Tryz.prog 165 1 8 (.nilFunc) := ⟨by kernel_rfl, rfl, by decide⟩
theorem sz166 : Sz Tryz.prog 166 1 8 (.nilFunc) := ⟨by kernel_rfl, rfl, by decide⟩
theorem sz167 : Sz Tryz.prog 167 3 24 (.agg #[.int .i64 0, .int .i64 0, .int .i64 0]) := ⟨by kernel_rfl, rfl, by decide⟩
theorem sz168 : Sz Tryz.prog 168 3 24 (.agg #[.int .i64 0, .int .i64 0, .int .i64 0]) := ⟨by kernel_rfl, rfl, by decide⟩
theorem sz169 : Sz Tryz.prog 169 1 8 (.nilFunc) := ⟨by kernel_rfl, rfl, by decide⟩
theorem sz170 : Sz Tryz.prog 170 1 8 (.nilFunc) := ⟨by kernel_rfl, rfl, by decide⟩
theorem sz171 : Sz Tryz.prog 171 1 8 (.nilFunc) := ⟨by kernel_rfl, rfl, by decide⟩
theorem sz172 : Sz Tryz.prog 172 1 8 (.nilFunc) := ⟨by kernel_rfl, rfl, by decide⟩
theorem sz173 : Sz Tryz.prog 173 1 8 (.nilFunc) := ⟨by kernel_rfl, rfl, by decide⟩
theorem sz174 : Sz Tryz.prog 174 1 24 (.slice none 0 0) := ⟨by kernel_rfl, rfl, by decide⟩
theorem sz175 : Sz Tryz.prog 175 1 8 (.nilFunc) := ⟨by kernel_rfl, rfl, by decide⟩
theorem sz176 : Sz Tryz.prog 176 1 8 (.nilFunc) := ⟨by kernel_rfl, rfl, by decide⟩
theorem sz177 : Sz Tryz.prog 177 1 8 (.nilFunc) := ⟨by kernel_rfl, rfl, by decide⟩
theorem sz178 : Sz Tryz.prog 178 1 8 (.nilFunc) := ⟨by kernel_rfl, rfl, by decide⟩
theorem sz179 : Sz Tryz.prog 179 1 8 (.nilFunc) := ⟨by kernel_rfl, rfl, by decide⟩
theorem sz180 : Sz Tryz.prog 180 1 8 (.nilFunc) := ⟨by kernel_rfl, rfl, by decide⟩
theorem sz181 : Sz Tryz.prog 181 1 8 (.nilFunc) := ⟨by kernel_rfl, rfl, by decide⟩
theorem sz182 : Sz Tryz.prog 182 1 8 (.nilFunc) := ⟨by kernel_rfl, rfl, by decide⟩
theorem sz183 : Sz Tryz.prog 183 1 8 (.nilFunc) := ⟨by kernel_rfl, rfl, by decide⟩
theorem sz185 : Sz Tryz.prog 185 1 8 (.nilFunc) := ⟨by kernel_rfl, rfl, by decide⟩
theorem sz186 : Sz Tryz.prog 186 1 8 (.nilFunc) := ⟨by kernel_rfl, rfl, by decide⟩
theorem sz187 : Sz Tryz.prog 187 1 8 (.nilFunc) := ⟨by kernel_rfl, rfl, by decide⟩
theorem sz188 : Sz Tryz.prog 188 1 8 (.nilFunc) := ⟨by kernel_rfl, rfl, by decide⟩
theorem sz189 : Sz Tryz.prog 189 1 8 (.nilFunc) := ⟨by kernel_rfl, rfl, by decide⟩
theorem sz190 : Sz Tryz.prog 190 3 40 (.agg #[.int .i64 0, .int .i64 0, .slice none 0 0]) := ⟨by kernel_rfl, rfl, by decide⟩
theorem sz191 : Sz Tryz.prog 191 3 40 (.agg #[.int .i64 0, .int .i64 0, .slice none 0 0]) := ⟨by kernel_rfl, rfl, by decide⟩
theorem sz192 : Sz Tryz.prog 192 1 8 (.nilFunc) := ⟨by kernel_rfl, rfl, by decide⟩
theorem sz193 : Sz Tryz.prog 193 3 40 (.agg #[.int .i64 0, .int .i64 0, .slice none 0 0]) := ⟨by kernel_rfl, rfl, by decide⟩
theorem sz194 : Sz Tryz.prog 194 1 8 (.nilFunc) := ⟨by kernel_rfl, rfl, by decide⟩
theorem sz195 : Sz Tryz.prog 195 1 8 (.nilFunc) := ⟨by kernel_rfl, rfl, by decide⟩
theorem sz196 : Sz Tryz.prog 196 1 8 (.nilFunc) := ⟨by kernel_rfl, rfl, by decide⟩
theorem sz197 : Sz Tryz.prog 197 3 24 (.agg #[.int .i64 0, .int .i64 0, .int .i64 0]) := ⟨by kernel_rfl, rfl, by decide⟩
theorem sz198 : Sz Tryz.prog 198 1 8 (.nilFunc) := ⟨by kernel_rfl, rfl, by decide⟩
theorem sz200 : Sz Tryz.prog 200 1 8 (.int .u64 0) := ⟨by kernel_rfl, rfl, by decide⟩
theorem sz201 : Sz Tryz.prog 201 1 8 (.nilFunc) := ⟨by kernel_rfl, rfl, by decide⟩
theorem sz202 : Sz Tryz.prog 202 1 8 (.nilFunc) := ⟨by kernel_rfl, rfl, by decide⟩
theorem sz204 : Sz Tryz.prog 204 1 8 (.nilFunc) := ⟨by kernel_rfl, rfl, by decide⟩
theorem sz205 : Sz Tryz.prog 205 1 8 (.nilFunc) := ⟨by kernel_rfl, rfl, by decide⟩
theorem sz206 : Sz Tryz.prog 206 1 8 (.nilFunc) := ⟨by kernel_rfl, rfl, by decide⟩
theorem sz207 : Sz Tryz.prog 207 1 8 (.pointer none) := ⟨by kernel_rfl, rfl, by decide⟩
theorem sz208 : Sz Tryz.prog 208 3 56 (.agg #[.slice none 0 0, .slice none 0 0, .int .i64 0]) := ⟨by kernel_rfl, rfl, by decide⟩
theorem sz209 : Sz Tryz.prog 209 3 56 (.agg #[.slice none 0 0, .slice none 0 0, .int .i64 0]) := ⟨by kernel_rfl, rfl, by decide⟩
theorem sz210 : Sz Tryz.prog 210 1 8 (.nilFunc) := ⟨by kernel_rfl, rfl, by decide⟩
theorem sz211 : Sz Tryz.prog 211 1 8 (.nilFunc) := ⟨by kernel_rfl, rfl, by decide⟩
theorem sz212 : Sz Tryz.prog 212 1 8 (.nilFunc) := ⟨by kernel_rfl, rfl, by decide⟩
theorem sz213 : Sz Tryz.prog 213 1 8 (.nilFunc) := ⟨by kernel_rfl, rfl, by decide⟩
theorem sz214 : Sz Tryz.prog 214 1 8 (.nilFunc) := ⟨by kernel_rfl, rfl, by decide⟩
theorem sz215 : Sz Tryz.prog 215 1 8 (.pointer none) := ⟨by kernel_rfl, rfl, by decide⟩
theorem sz216 : Sz Tryz.prog 216 2 32 (.agg #[.pointer none, .slice none 0 0]) := ⟨by kernel_rfl, rfl, by decide⟩
theorem sz217 : Sz Tryz.prog 217 2 32 (.agg #[.pointer none, .slice none 0 0]) := ⟨by kernel_rfl, rfl, by decide⟩
theorem sz218 : Sz Tryz.prog 218 1 8 (.nilFunc) := ⟨by kernel_rfl, rfl, by decide⟩
theorem sz222 : Sz Tryz.prog 222 1 8 (.nilFunc) := ⟨by kernel_rfl, rfl, by decide⟩
theorem sz223 : Sz Tryz.prog 223 1 8 (.nilFunc) := ⟨by kernel_rfl, rfl, by decide⟩
theorem sz224 : Sz Tryz.prog 224 1 8 (.nilFunc) := ⟨by kernel_rfl, rfl, by decide⟩
theorem sz226 : Sz Tryz.prog 226 1 8 (.nilFunc) := ⟨by kernel_rfl, rfl, by decide⟩
theorem sz227 : Sz Tryz.prog 227 1 8 (.nilFunc) := ⟨by kernel_rfl, rfl, by decide⟩
theorem sz228 : Sz Tryz.prog 228 1 8 (.nilFunc) := ⟨by kernel_rfl, rfl, by decide⟩
theorem sz230 : Sz Tryz.prog 230 1 4 (.int .u32 0) := ⟨by kernel_rfl, rfl, by decide⟩
theorem sz232 : Sz Tryz.prog 232 1 8 (.int .u64 0) := ⟨by kernel_rfl, rfl, by decide⟩
theorem sz233 : Sz Tryz.prog 233 1 8 (.nilFunc) := ⟨by kernel_rfl, rfl, by decide⟩
theorem sz234 : Sz Tryz.prog 234 1 8 (.nilFunc) := ⟨by kernel_rfl, rfl, by decide⟩
theorem sz235 : Sz Tryz.prog 235 1 8 (.pointer none) := ⟨by kernel_rfl, rfl, by decide⟩
theorem sz236 : Sz Tryz.prog 236 1 8 (.nilFunc) := ⟨by kernel_rfl, rfl, by decide⟩
theorem sz237 : Sz Tryz.prog 237 1 8 (.nilFunc) := ⟨by kernel_rfl, rfl, by decide⟩
theorem sz239 : Sz Tryz.prog 239 1 8 (.nilFunc) := ⟨by kernel_rfl, rfl, by decide⟩
theorem sz240 : Sz Tryz.prog 240 1 8 (.nilFunc) := ⟨by kernel_rfl, rfl, by decide⟩
theorem sz242 : Sz Tryz.prog 242 2 2 (.agg #[.int .u8 0, .int .u8 0]) := ⟨by kernel_rfl, rfl, by decide⟩
theorem sz243 : Sz Tryz.prog 243 2 2 (.agg #[.int .u8 0, .int .u8 0]) := ⟨by kernel_rfl, rfl, by decide⟩
theorem sz248 : Sz Tryz.prog 248 1 8 (.nilFunc) := ⟨by kernel_rfl, rfl, by decide⟩
theorem sz254 : Sz Tryz.prog 254 1 8 (.nilFunc) := ⟨by kernel_rfl, rfl, by decide⟩
theorem sz257 : Sz Tryz.prog 257 1 8 (.nilFunc) := ⟨by kernel_rfl, rfl, by decide⟩
theorem u2 : type_of% Tryz.underlying2 := Tryz.underlying2
theorem u3 : type_of% Tryz.underlying3 := Tryz.underlying3
theorem u4 : type_of% Tryz.underlying4 := Tryz.underlying4
theorem u5 : type_of% Tryz.underlying5 := Tryz.underlying5
theorem u9 : type_of% Tryz.underlying9 := Tryz.underlying9
theorem u12 : type_of% Tryz.underlying12 := Tryz.underlying12
theorem u13 : type_of% Tryz.underlying13 := Tryz.underlying13
theorem u19 : type_of% Tryz.underlying19 := Tryz.underlying19
theorem u21 : type_of% Tryz.underlying21 := Tryz.underlying21
theorem u22 : type_of% Tryz.underlying22 := Tryz.underlying22
theorem u23 : type_of% Tryz.underlying23 := Tryz.underlying23
theorem u24 : type_of% Tryz.underlying24 := Tryz.underlying24
theorem u25 : type_of% Tryz.underlying25 := Tryz.underlying25
theorem u26 : type_of% Tryz.underlying26 := Tryz.underlying26
theorem u27 : type_of% Tryz.underlying27 := Tryz.underlying27
theorem u28 : type_of% Tryz.underlying28 := Tryz.underlying28
theorem u29 : type_of% Tryz.underlying29 := Tryz.underlying29
theorem u30 : type_of% Tryz.underlying30 := Tryz.underlying30
theorem u33 : type_of% Tryz.underlying33 := Tryz.underlying33
theorem u34 : type_of% Tryz.underlying34 := Tryz.underlying34
theorem u35 : type_of% Tryz.underlying35 := Tryz.underlying35
theorem u36 : type_of% Tryz.underlying36 := Tryz.underlying36
theorem u37 : type_of% Tryz.underlying37 := Tryz.underlying37
theorem u38 : type_of% Tryz.underlying38 := Tryz.underlying38
theorem u39 : type_of% Tryz.underlying39 := Tryz.underlying39
theorem u40 : type_of% Tryz.underlying40 := Tryz.underlying40
theorem u44 : type_of% Tryz.underlying44 := Tryz.underlying44
theorem u55 : type_of% Tryz.underlying55 := Tryz.underlying55
theorem u56 : type_of% Tryz.underlying56 := Tryz.underlying56
theorem u57 : type_of% Tryz.underlying57 := Tryz.underlying57
theorem u58 : type_of% Tryz.underlying58 := Tryz.underlying58
theorem u59 : type_of% Tryz.underlying59 := Tryz.underlying59
theorem u60 : type_of% Tryz.underlying60 := Tryz.underlying60
theorem u61 : type_of% Tryz.underlying61 := Tryz.underlying61
theorem u62 : type_of% Tryz.underlying62 := Tryz.underlying62
theorem u63 : type_of% Tryz.underlying63 := Tryz.underlying63
theorem u64 : type_of% Tryz.underlying64 := Tryz.underlying64
theorem u81 : type_of% Tryz.underlying81 := Tryz.underlying81
theorem u83 : type_of% Tryz.underlying83 := Tryz.underlying83
theorem u84 : type_of% Tryz.underlying84 := Tryz.underlying84
theorem u85 : type_of% Tryz.underlying85 := Tryz.underlying85
theorem u86 : type_of% Tryz.underlying86 := Tryz.underlying86
theorem u87 : type_of% Tryz.underlying87 := Tryz.underlying87
theorem u88 : type_of% Tryz.underlying88 := Tryz.underlying88
theorem u89 : type_of% Tryz.underlying89 := Tryz.underlying89
theorem u90 : type_of% Tryz.underlying90 := Tryz.underlying90
theorem u94 : type_of% Tryz.underlying94 := Tryz.underlying94
theorem u119 : type_of% Tryz.underlying119 := Tryz.underlying119
theorem u120 : type_of% Tryz.underlying120 := Tryz.underlying120
theorem u121 : type_of% Tryz.underlying121 := Tryz.underlying121
theorem u123 : type_of% Tryz.underlying123 := Tryz.underlying123
theorem u124 : type_of% Tryz.underlying124 := Tryz.underlying124
theorem u125 : type_of% Tryz.underlying125 := Tryz.underlying125
theorem u126 : type_of% Tryz.underlying126 := Tryz.underlying126
theorem u130 : type_of% Tryz.underlying130 := Tryz.underlying130
theorem u131 : type_of% Tryz.underlying131 := Tryz.underlying131
theorem u132 : type_of% Tryz.underlying132 := Tryz.underlying132
theorem u134 : type_of% Tryz.underlying134 := Tryz.underlying134
theorem u135 : type_of% Tryz.underlying135 := Tryz.underlying135
theorem u136 : type_of% Tryz.underlying136 := Tryz.underlying136
theorem u137 : type_of% Tryz.underlying137 := Tryz.underlying137
theorem u155 : type_of% Tryz.underlying155 := Tryz.underlying155
theorem u156 : type_of% Tryz.underlying156 := Tryz.underlying156
theorem u157 : type_of% Tryz.underlying157 := Tryz.underlying157
theorem u158 : type_of% Tryz.underlying158 := Tryz.underlying158
theorem u167 : type_of% Tryz.underlying167 := Tryz.underlying167
theorem u168 : type_of% Tryz.underlying168 := Tryz.underlying168
theorem u174 : type_of% Tryz.underlying174 := Tryz.underlying174
theorem u190 : type_of% Tryz.underlying190 := Tryz.underlying190
theorem u191 : type_of% Tryz.underlying191 := Tryz.underlying191
theorem u193 : type_of% Tryz.underlying193 := Tryz.underlying193
theorem u197 : type_of% Tryz.underlying197 := Tryz.underlying197
theorem u200 : type_of% Tryz.underlying200 := Tryz.underlying200
theorem u208 : type_of% Tryz.underlying208 := Tryz.underlying208
theorem u209 : type_of% Tryz.underlying209 := Tryz.underlying209
theorem u216 : type_of% Tryz.underlying216 := Tryz.underlying216
theorem u217 : type_of% Tryz.underlying217 := Tryz.underlying217
theorem u230 : type_of% Tryz.underlying230 := Tryz.underlying230
theorem u232 : type_of% Tryz.underlying232 := Tryz.underlying232
theorem u242 : type_of% Tryz.underlying242 := Tryz.underlying242
theorem u243 : type_of% Tryz.underlying243 := Tryz.underlying243
end Go.Proofs.YtjbonmmmcnpjiaaGreatDoor
