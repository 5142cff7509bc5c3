/- Types of this program, and how their data lie in cells. No condition. -/
import Derived.Test.YtjbonmmmcnpjiaaGreatDoorProg
import Derived.Test.YtjbonmmmcnpjiaaGreatDoorNa
namespace Go.Proofs.YtjbonmmmcnpjiaaGreatDoor
open Go.RowKit
theorem Tryz_mixed : Tryz.prog.follows .mixedOrders = true := by rfl
def fI (n : Int) : List Ce := [cI n]
def fT (s : ByteArray) : List Ce := [cT s]
def fY (n : UInt8) : List Ce := [cY n]
theorem flC {c : Ce} {l : List Ce} (h : ∃ u, ∃ hu : u.oneCell' = true, c = cV u hu) (k : ∀ d ∈ l, ∃ u, ∃ hu : u.oneCell' = true, d = cV u hu) : ∀ d ∈ c :: l, ∃ u, ∃ hu : u.oneCell' = true, d = cV u hu := fun d hd => by
  rcases List.mem_cons.1 hd with rfl | hd
  · exact h
  · exact k d hd
theorem flN : ∀ d ∈ ([] : List Ce), ∃ u, ∃ hu : u.oneCell' = true, d = cV u hu := fun _ h => by cases h
theorem flI : FlatE fI := fun _ => flC ⟨_, _, rfl⟩ flN
structure DPart where
  kind : Int
  n : Int
  signs : List Int
deriving DecidableEq, Inhabited
def fDPart (x : DPart) : List Ce := [cI x.kind, cI x.n, cSl 1 fI x.signs]
structure DEntry where
  client : Int
  seq : Int
  o : List DPart
deriving DecidableEq, Inhabited
def fDEntry (x : DEntry) : List Ce := [cI x.client, cI x.seq, cSl 3 fDPart x.o]
structure DSeen where
  client : Int
  seq : Int
  rev : Int
deriving DecidableEq, Inhabited
def fDSeen (x : DSeen) : List Ce := [cI x.client, cI x.seq, cI x.rev]
structure DDoc where
  name : ByteArray
  from_ : Int
  text : List Int
  list : List DEntry
  seen : List DSeen
deriving DecidableEq, Inhabited
def fDDoc (x : DDoc) : List Ce := [cT x.name, cI x.from_, cSl 1 fI x.text, cSl 3 fDEntry x.list, cSl 3 fDSeen x.seen]
structure DRing where
  cap : Int
  next : Int
  out : Bool
  list : List DEntry
deriving DecidableEq, Inhabited
def fDRing (x : DRing) : List Ce := [cI x.cap, cI x.next, cB x.out, cSl 3 fDEntry x.list]
structure DSub where
  id : Int
  doc : ByteArray
  r : DRing
deriving DecidableEq, Inhabited
def fDSub (x : DSub) : List Ce := [cI x.id, cT x.doc, cI x.r.cap, cI x.r.next, cB x.r.out, cSl 3 fDEntry x.r.list]
structure DHub where
  shut : Bool
  docs : List DDoc
  subs : List DSub
  last : Int
deriving DecidableEq, Inhabited
def fDHub (x : DHub) : List Ce := [cB x.shut, cSl 5 fDDoc x.docs, cSl 6 fDSub x.subs, cI x.last]
structure DQueue where
  doc : ByteArray
  list : List Int
deriving DecidableEq, Inhabited
def fDQueue (x : DQueue) : List Ce := [cT x.doc, cSl 1 fI x.list]
structure DCall where
  kind : Int
  doc : ByteArray
  client : Int
  seq : Int
  n : Int
  o : List DPart
  text : List Int
deriving DecidableEq, Inhabited
def fDCall (x : DCall) : List Ce := [cI x.kind, cT x.doc, cI x.client, cI x.seq, cI x.n, cSl 3 fDPart x.o, cSl 1 fI x.text]
structure DAnswer where
  code : Int
  rev : Int
  text : List Int
  list : List DEntry
deriving DecidableEq, Inhabited
def fDAnswer (x : DAnswer) : List Ce := [cI x.code, cI x.rev, cSl 1 fI x.text, cSl 3 fDEntry x.list]
structure DTask where
  c : DCall
  pc : Int
  inv : Int
  lin : Int
  res : Int
  a : DAnswer
deriving DecidableEq, Inhabited
def fDTask (x : DTask) : List Ce := [cI x.c.kind, cT x.c.doc, cI x.c.client, cI x.c.seq, cI x.c.n, cSl 3 fDPart x.c.o, cSl 1 fI x.c.text, cI x.pc, cI x.inv, cI x.lin, cI x.res, cI x.a.code, cI x.a.rev, cSl 1 fI x.a.text, cSl 3 fDEntry x.a.list]
structure DWorld where
  h : DHub
  locks : List Int
  queues : List DQueue
  tasks : List DTask
  step : Int
deriving DecidableEq, Inhabited
def fDWorld (x : DWorld) : List Ce := [cB x.h.shut, cSl 5 fDDoc x.h.docs, cSl 6 fDSub x.h.subs, cI x.h.last, cSl 1 fI x.locks, cSl 2 fDQueue x.queues, cSl 15 fDTask x.tasks, cI x.step]
structure DL02B where
  list : List DPart
  put : List Int
  drop : Int
deriving DecidableEq, Inhabited
def fLDPart (l : List DPart) : List Ce := [cSl 3 fDPart l]
theorem sz3 : Sz Tryz.prog 3 1 8 (.int .i64 0) := ⟨by kernel_rfl, rfl, by decide⟩
theorem sz4 : Sz Tryz.prog 4 1 1 (.bool false) := ⟨by kernel_rfl, rfl, by decide⟩
theorem sz5 : Sz Tryz.prog 5 1 1 (.int .u8 0) := ⟨by kernel_rfl, rfl, by decide⟩
theorem sz9 : Sz Tryz.prog 9 1 16 (.string ByteArray.empty) := ⟨by kernel_rfl, rfl, by decide⟩
theorem sz22 : Sz Tryz.prog 22 1 24 (.slice none 0 0) := ⟨by kernel_rfl, rfl, by decide⟩
theorem sz23 : Sz Tryz.prog 23 1 24 (.slice none 0 0) := ⟨by kernel_rfl, rfl, by decide⟩
theorem sz25 : Sz Tryz.prog 25 4 64 (.agg #[.bool false, .slice none 0 0, .slice none 0 0, .int .i64 0]) := ⟨by kernel_rfl, rfl, by decide⟩
theorem sz26 : Sz Tryz.prog 26 1 24 (.slice none 0 0) := ⟨by kernel_rfl, rfl, by decide⟩
theorem sz27 : Sz Tryz.prog 27 1 24 (.slice none 0 0) := ⟨by kernel_rfl, rfl, by decide⟩
theorem sz28 : Sz Tryz.prog 28 1 24 (.slice none 0 0) := ⟨by kernel_rfl, rfl, by decide⟩
theorem sz30 : Sz Tryz.prog 30 8 144 (.agg #[.bool false, .slice none 0 0, .slice none 0 0, .int .i64 0, .slice none 0 0, .slice none 0 0, .slice none 0 0, .int .i64 0]) := ⟨by kernel_rfl, rfl, by decide⟩
theorem sz33 : Sz Tryz.prog 33 1 24 (.slice none 0 0) := ⟨by kernel_rfl, rfl, by decide⟩
theorem sz34 : Sz Tryz.prog 34 1 24 (.slice none 0 0) := ⟨by kernel_rfl, rfl, by decide⟩
theorem sz36 : Sz Tryz.prog 36 4 64 (.agg #[.bool false, .slice none 0 0, .slice none 0 0, .int .i64 0]) := ⟨by kernel_rfl, rfl, by decide⟩
theorem sz37 : Sz Tryz.prog 37 1 24 (.slice none 0 0) := ⟨by kernel_rfl, rfl, by decide⟩
theorem sz38 : Sz Tryz.prog 38 1 24 (.slice none 0 0) := ⟨by kernel_rfl, rfl, by decide⟩
theorem sz40 : Sz Tryz.prog 40 8 144 (.agg #[.bool false, .slice none 0 0, .slice none 0 0, .int .i64 0, .slice none 0 0, .slice none 0 0, .slice none 0 0, .int .i64 0]) := ⟨by kernel_rfl, rfl, by decide⟩
theorem sz56 : Sz Tryz.prog 56 2 40 (.agg #[.string ByteArray.empty, .slice none 0 0]) := ⟨by kernel_rfl, rfl, by decide⟩
theorem sz57 : Sz Tryz.prog 57 1 24 (.slice none 0 0) := ⟨by kernel_rfl, rfl, by decide⟩
theorem sz59 : Sz Tryz.prog 59 7 96 (.agg #[.int .i64 0, .string ByteArray.empty, .int .i64 0, .int .i64 0, .int .i64 0, .slice none 0 0, .slice none 0 0]) := ⟨by kernel_rfl, rfl, by decide⟩
theorem sz60 : Sz Tryz.prog 60 1 24 (.slice none 0 0) := ⟨by kernel_rfl, rfl, by decide⟩
theorem sz62 : Sz Tryz.prog 62 4 64 (.agg #[.int .i64 0, .int .i64 0, .slice none 0 0, .slice none 0 0]) := ⟨by kernel_rfl, rfl, by decide⟩
theorem sz64 : Sz Tryz.prog 64 15 192 (.agg #[.int .i64 0, .string ByteArray.empty, .int .i64 0, .int .i64 0, .int .i64 0, .slice none 0 0, .slice none 0 0, .int .i64 0, .int .i64 0, .int .i64 0, .int .i64 0, .int .i64 0, .int .i64 0, .slice none 0 0, .slice none 0 0]) := ⟨by kernel_rfl, rfl, by decide⟩
theorem sz81 : Sz Tryz.prog 81 2 40 (.agg #[.string ByteArray.empty, .slice none 0 0]) := ⟨by kernel_rfl, rfl, by decide⟩
theorem sz83 : Sz Tryz.prog 83 1 24 (.slice none 0 0) := ⟨by kernel_rfl, rfl, by decide⟩
theorem sz85 : Sz Tryz.prog 85 7 96 (.agg #[.int .i64 0, .string ByteArray.empty, .int .i64 0, .int .i64 0, .int .i64 0, .slice none 0 0, .slice none 0 0]) := ⟨by kernel_rfl, rfl, by decide⟩
theorem sz86 : Sz Tryz.prog 86 1 24 (.slice none 0 0) := ⟨by kernel_rfl, rfl, by decide⟩
theorem sz88 : Sz Tryz.prog 88 4 64 (.agg #[.int .i64 0, .int .i64 0, .slice none 0 0, .slice none 0 0]) := ⟨by kernel_rfl, rfl, by decide⟩
theorem sz90 : Sz Tryz.prog 90 15 192 (.agg #[.int .i64 0, .string ByteArray.empty, .int .i64 0, .int .i64 0, .int .i64 0, .slice none 0 0, .slice none 0 0, .int .i64 0, .int .i64 0, .int .i64 0, .int .i64 0, .int .i64 0, .int .i64 0, .slice none 0 0, .slice none 0 0]) := ⟨by kernel_rfl, rfl, by decide⟩
theorem sz119 : Sz Tryz.prog 119 1 24 (.slice none 0 0) := ⟨by kernel_rfl, rfl, by decide⟩
theorem sz121 : Sz Tryz.prog 121 5 96 (.agg #[.string ByteArray.empty, .int .i64 0, .slice none 0 0, .slice none 0 0, .slice none 0 0]) := ⟨by kernel_rfl, rfl, by decide⟩
theorem sz124 : Sz Tryz.prog 124 4 48 (.agg #[.int .i64 0, .int .i64 0, .bool false, .slice none 0 0]) := ⟨by kernel_rfl, rfl, by decide⟩
theorem sz126 : Sz Tryz.prog 126 6 72 (.agg #[.int .i64 0, .string ByteArray.empty, .int .i64 0, .int .i64 0, .bool false, .slice none 0 0]) := ⟨by kernel_rfl, rfl, by decide⟩
theorem sz130 : Sz Tryz.prog 130 1 24 (.slice none 0 0) := ⟨by kernel_rfl, rfl, by decide⟩
theorem sz132 : Sz Tryz.prog 132 5 96 (.agg #[.string ByteArray.empty, .int .i64 0, .slice none 0 0, .slice none 0 0, .slice none 0 0]) := ⟨by kernel_rfl, rfl, by decide⟩
theorem sz135 : Sz Tryz.prog 135 4 48 (.agg #[.int .i64 0, .int .i64 0, .bool false, .slice none 0 0]) := ⟨by kernel_rfl, rfl, by decide⟩
theorem sz137 : Sz Tryz.prog 137 6 72 (.agg #[.int .i64 0, .string ByteArray.empty, .int .i64 0, .int .i64 0, .bool false, .slice none 0 0]) := ⟨by kernel_rfl, rfl, by decide⟩
theorem sz156 : Sz Tryz.prog 156 3 40 (.agg #[.int .i64 0, .int .i64 0, .slice none 0 0]) := ⟨by kernel_rfl, rfl, by decide⟩
theorem sz158 : Sz Tryz.prog 158 3 40 (.agg #[.int .i64 0, .int .i64 0, .slice none 0 0]) := ⟨by kernel_rfl, rfl, by decide⟩
theorem sz168 : Sz Tryz.prog 168 3 24 (.agg #[.int .i64 0, .int .i64 0, .int .i64 0]) := ⟨by kernel_rfl, rfl, by decide⟩
theorem sz191 : Sz Tryz.prog 191 3 40 (.agg #[.int .i64 0, .int .i64 0, .slice none 0 0]) := ⟨by kernel_rfl, rfl, by decide⟩
theorem sz193 : Sz Tryz.prog 193 3 40 (.agg #[.int .i64 0, .int .i64 0, .slice none 0 0]) := ⟨by kernel_rfl, rfl, by decide⟩
theorem sz197 : Sz Tryz.prog 197 3 24 (.agg #[.int .i64 0, .int .i64 0, .int .i64 0]) := ⟨by kernel_rfl, rfl, by decide⟩
theorem u3 : type_of% Tryz.underlying3 := Tryz.underlying3
theorem u4 : type_of% Tryz.underlying4 := Tryz.underlying4
theorem u5 : type_of% Tryz.underlying5 := Tryz.underlying5
theorem u9 : type_of% Tryz.underlying9 := Tryz.underlying9
theorem u22 : type_of% Tryz.underlying22 := Tryz.underlying22
theorem u23 : type_of% Tryz.underlying23 := Tryz.underlying23
theorem u25 : type_of% Tryz.underlying25 := Tryz.underlying25
theorem u26 : type_of% Tryz.underlying26 := Tryz.underlying26
theorem u27 : type_of% Tryz.underlying27 := Tryz.underlying27
theorem u28 : type_of% Tryz.underlying28 := Tryz.underlying28
theorem u30 : type_of% Tryz.underlying30 := Tryz.underlying30
theorem u33 : type_of% Tryz.underlying33 := Tryz.underlying33
theorem u34 : type_of% Tryz.underlying34 := Tryz.underlying34
theorem u36 : type_of% Tryz.underlying36 := Tryz.underlying36
theorem u37 : type_of% Tryz.underlying37 := Tryz.underlying37
theorem u38 : type_of% Tryz.underlying38 := Tryz.underlying38
theorem u40 : type_of% Tryz.underlying40 := Tryz.underlying40
theorem u44 : type_of% Tryz.underlying44 := Tryz.underlying44
theorem u56 : type_of% Tryz.underlying56 := Tryz.underlying56
theorem u57 : type_of% Tryz.underlying57 := Tryz.underlying57
theorem u59 : type_of% Tryz.underlying59 := Tryz.underlying59
theorem u60 : type_of% Tryz.underlying60 := Tryz.underlying60
theorem u62 : type_of% Tryz.underlying62 := Tryz.underlying62
theorem u64 : type_of% Tryz.underlying64 := Tryz.underlying64
theorem u81 : type_of% Tryz.underlying81 := Tryz.underlying81
theorem u83 : type_of% Tryz.underlying83 := Tryz.underlying83
theorem u85 : type_of% Tryz.underlying85 := Tryz.underlying85
theorem u86 : type_of% Tryz.underlying86 := Tryz.underlying86
theorem u88 : type_of% Tryz.underlying88 := Tryz.underlying88
theorem u90 : type_of% Tryz.underlying90 := Tryz.underlying90
theorem u94 : type_of% Tryz.underlying94 := Tryz.underlying94
theorem u119 : type_of% Tryz.underlying119 := Tryz.underlying119
theorem u121 : type_of% Tryz.underlying121 := Tryz.underlying121
theorem u124 : type_of% Tryz.underlying124 := Tryz.underlying124
theorem u126 : type_of% Tryz.underlying126 := Tryz.underlying126
theorem u130 : type_of% Tryz.underlying130 := Tryz.underlying130
theorem u132 : type_of% Tryz.underlying132 := Tryz.underlying132
theorem u135 : type_of% Tryz.underlying135 := Tryz.underlying135
theorem u137 : type_of% Tryz.underlying137 := Tryz.underlying137
theorem u156 : type_of% Tryz.underlying156 := Tryz.underlying156
theorem u157 : type_of% Tryz.underlying157 := Tryz.underlying157
theorem u158 : type_of% Tryz.underlying158 := Tryz.underlying158
theorem u168 : type_of% Tryz.underlying168 := Tryz.underlying168
theorem u174 : type_of% Tryz.underlying174 := Tryz.underlying174
theorem u191 : type_of% Tryz.underlying191 := Tryz.underlying191
theorem u193 : type_of% Tryz.underlying193 := Tryz.underlying193
theorem u197 : type_of% Tryz.underlying197 := Tryz.underlying197
theorem u209 : type_of% Tryz.underlying209 := Tryz.underlying209
end Go.Proofs.YtjbonmmmcnpjiaaGreatDoor
