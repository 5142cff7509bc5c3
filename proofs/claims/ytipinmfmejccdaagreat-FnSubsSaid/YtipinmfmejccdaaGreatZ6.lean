/- Part 6 of the proof: lemmas. No condition. -/
import Derived.Test.YtipinmfmejccdaaGreatZ5
namespace Go.Proofs.YtipinmfmejccdaaGreat
section
open Go.RowKit
noncomputable def Vy (name : ByteArray) (d : DDoc) (c : DL01Cur) : Option (DCall × DL01Cur) :=
 Option.bind (Bc c 14) fun r89 => bif decide (r89.1 = 0) then (Option.bind (M7 r89.2) fun r96 => Option.bind (Fv r96.2 4) fun r101 => some ((⟨1, r96.1, 0, 0, 0, [], r101.1⟩ : DCall), r101.2)) else (bif decide (r89.1 = 1) then (Option.bind (Rj r89.2 d) fun r115 => some ((⟨3, name, 0, 0, r115.1, [], []⟩ : DCall), r115.2)) else (bif decide (r89.1 = 2) then (some ((⟨4, name, 0, 0, 0, [], []⟩ : DCall), r89.2)) else (bif decide (r89.1 = 3) then (Option.bind (Bc r89.2 3) fun r132 => xg (Ac (1 + r132.1)) <| some ((⟨5, name, 0, 0, 1 + r132.1, [], []⟩ : DCall), r132.2)) else (bif decide (r89.1 = 4) then (bif decide (r89.1 = 4) then (Option.bind (Bc r89.2 3) fun r144 => xg (Ac (1 + r144.1)) <| Option.bind (Bc r144.2 3) fun r151 => xg (Ac (1 + r151.1)) <| some ((⟨6, ByteArray.empty, 1 + r144.1, 0, 1 + r151.1, [], []⟩ : DCall), r151.2)) else (bif decide (r89.1 = 6) then (Option.bind (Bc r89.2 3) fun r163 => xg (Ac (1 + r163.1)) <| some ((⟨7, ByteArray.empty, 1 + r163.1, 0, 0, [], []⟩ : DCall), r163.2)) else (bif decide (r89.1 = 7) then (Option.bind (Fc r89.2 4) fun r175 => bif r175.1 then (some ((⟨8, ByteArray.empty, 0, 0, 0, [], []⟩ : DCall), r175.2)) else (Ps name d r175.2)) else (Ps name d r89.2)))) else (bif decide (r89.1 = 5) then (Option.bind (Bc r89.2 3) fun r359 => xg (Ac (1 + r359.1)) <| Option.bind (Bc r359.2 3) fun r366 => xg (Ac (1 + r366.1)) <| some ((⟨6, ByteArray.empty, 1 + r359.1, 0, 1 + r366.1, [], []⟩ : DCall), r366.2)) else (bif decide (r89.1 = 6) then (Option.bind (Bc r89.2 3) fun r378 => xg (Ac (1 + r378.1)) <| some ((⟨7, ByteArray.empty, 1 + r378.1, 0, 0, [], []⟩ : DCall), r378.2)) else (bif decide (r89.1 = 7) then (Option.bind (Fc r89.2 4) fun r390 => bif r390.1 then (some ((⟨8, ByteArray.empty, 0, 0, 0, [], []⟩ : DCall), r390.2)) else (Ps name d r390.2)) else (Ps name d r89.2))))))))
noncomputable def R7 (name : ByteArray) (h : DHub) (c : DL01Cur) : Option (DCall × DL01Cur) :=
 Option.bind (Gk h name) fun r => bif decide ((0 : Int) <= r) then (xg (0 <= r /\ r < (h.docs.length : Int)) <| Vy name (el h.docs r.toNat) c) else (Vy name (⟨ByteArray.empty, 0, [], [], []⟩ : DDoc) c)
noncomputable def Rn (c : DL01Cur) (h : DHub) : Option (DCall × DL01Cur) :=
 Option.bind (M7 c) fun r => bif decide ((0 : Int) < (h.docs.length : Int)) then (Option.bind (Fc r.2 6) fun q => bif !q.1 then (Option.bind (Bc q.2 (h.docs.length : Int)) fun k => xg (0 <= k.1 /\ k.1 < (h.docs.length : Int)) <| R7 (el h.docs k.1.toNat).name h k.2) else (R7 r.1 h q.2)) else (R7 r.1 h r.2)
noncomputable def con_spec_l12Draw : Con := ⟨44, [.box .rd (.b 13), .val false (.b 10)], [⟨true, .b 12, false⟩], fun a => Rn a.1 a.2.1⟩
noncomputable def Aov : Ctx := ⟨122, [con_spec_HubDoc, con_spec_SeenOf, con_spec_l01Below, con_spec_l01Once, con_spec_l01Signs, con_spec_l08Name, con_spec_l09Base, con_spec_l09Op], [], false, false⟩
theorem A8o (a : PArgs con_spec_l12Draw.ps) : Ah Aov Tryz.f44.results.toList (Ab Tryz.f44) con_spec_l12Draw.ps con_spec_l12Draw.rs a = Rn a.1 a.2.1 := by kernel_rfl
theorem A35 {amb : List Rd} : Holds amb con_spec_l12Draw := Ai (C := Aov) (c := Ab Tryz.f44) (Aa Ls ( Aa Acg ( Aa Hc ( Aa P4 ( Aa W3 ( Aa Aqw ( Aa A30 ( Aa Aqx (Aj))))))))) Tryz.func44 rfl Tryz.ntmps44 (by kernel_rfl) (by decide) fun a r h => (A8o a).trans h
noncomputable def Aaz (k : Int) : Option Bool :=
 Option.bind (Cw k 1 8) fun r3 => some r3
noncomputable def con_spec_l12Kind : Con := ⟨46, [.val false (.b 0)], [⟨true, .b 1, false⟩], fun a => Aaz a.1⟩
noncomputable def Aow : Ctx := ⟨5, [con_spec_l01In], [], false, false⟩
theorem A8p (a : PArgs con_spec_l12Kind.ps) : Ah Aow Tryz.f46.results.toList (Ab Tryz.f46) con_spec_l12Kind.ps con_spec_l12Kind.rs a = con_spec_l12Kind.x a := by kernel_rfl
theorem A36 {amb : List Rd} : Holds amb con_spec_l12Kind := Ai (C := Aow) (c := Ab Tryz.f46) (Aa Hd (Aj)) Tryz.func46 rfl Tryz.ntmps46 (by kernel_rfl) (by decide) fun a r h => (A8p a).trans (h)
noncomputable def Aai (k : Int) : Option Bool :=
 Option.bind (Cw k 1 5) fun r3 => some r3
noncomputable def con_spec_OnDoc : Con := ⟨49, [.val false (.b 0)], [⟨true, .b 1, false⟩], fun a => Aai a.1⟩
noncomputable def Am5 : Ctx := ⟨5, [con_spec_l01In], [], false, false⟩
theorem A6y (a : PArgs con_spec_OnDoc.ps) : Ah Am5 Tryz.f49.results.toList (Ab Tryz.f49) con_spec_OnDoc.ps con_spec_OnDoc.rs a = con_spec_OnDoc.x a := by kernel_rfl
theorem A3c {amb : List Rd} : Holds amb con_spec_OnDoc := Ai (C := Am5) (c := Ab Tryz.f49) (Aa Hd (Aj)) Tryz.func49 rfl Tryz.ntmps49 (by kernel_rfl) (by decide) fun a r h => (A6y a).trans (h)
noncomputable def U0 (c : DCall) : Option Bool :=
 Option.bind (Aaz c.kind) fun r8 => Option.bind (bif !r8 then (some true) else (some (decide ((8 : Int) < (c.doc.size : Int))))) fun c13 => Option.bind (bif c13 then (some true) else (Option.bind (M6 c.o) fun r34 => some (!r34))) fun c24 => Option.bind (bif c24 then (some true) else (Option.bind (Ld c.text) fun r49 => some (!r49))) fun c39 => bif c39 then (some false) else (Option.bind (Aai c.kind) fun r56 => Option.bind (bif !r56 then (some (!decide (c.doc = (⟨#[]⟩ : ByteArray)))) else (some false)) fun c61 => Option.bind (bif c61 then (some true) else (Option.bind (bif !decide (c.kind = 1) then (some (decide ((0 : Int) < (c.text.length : Int)))) else (some false)) fun c90 => some c90)) fun c70 => Option.bind (bif c70 then (some true) else (Option.bind (bif !decide (c.kind = 2) then (Option.bind (bif decide ((0 : Int) < (c.o.length : Int)) then (some true) else (some (!decide (c.seq = 0)))) fun c159 => some c159) else (some false)) fun c139 => some c139)) fun c101 => bif c101 then (some false) else (Option.bind (bif decide (c.kind = 2) then (some true) else (some (decide (c.kind = 6)))) fun c172 => Option.bind (bif c172 then (some true) else (some (decide (c.kind = 7)))) fun c181 => Option.bind (bif decide (c.kind = 2) then (some true) else (some (decide (c.kind = 3)))) fun c194 => Option.bind (bif c194 then (some true) else (some (decide (c.kind = 5)))) fun c203 => Option.bind (bif c203 then (some true) else (some (decide (c.kind = 6)))) fun c212 => Option.bind (bif c181 then (some true) else (some (decide (c.client = 0)))) fun c223 => Option.bind (bif c223 then (Option.bind (bif c212 then (some true) else (some (decide (c.n = 0)))) fun c246 => some c246) else (some false)) fun c232 => some c232))
noncomputable def con_spec_CallOk : Con := ⟨20, [.val false (.b 12)], [⟨true, .b 1, false⟩], fun a => U0 a.1⟩
noncomputable def Amk : Ctx := ⟨108, [con_spec_OnDoc, con_spec_TextOk, con_spec_l02Parts, con_spec_l12Kind], [], false, false⟩
theorem A6d (a : PArgs con_spec_CallOk.ps) : Ah Amk Tryz.f20.results.toList (Ab Tryz.f20) con_spec_CallOk.ps con_spec_CallOk.rs a = con_spec_CallOk.x a := by kernel_rfl
theorem Aqa {amb : List Rd} : Holds amb con_spec_CallOk := Ai (C := Amk) (c := Ab Tryz.f20) (Aa A3c ( Aa Aci ( Aa Acj ( Aa A36 (Aj))))) Tryz.func20 rfl Tryz.ntmps20 (by kernel_rfl) (by decide) fun a r h => (A6d a).trans (h)
noncomputable def Aag (d : DDoc) (rev : Int) : Option (List DEntry × Int) :=
 Option.bind (Hn d) fun r8 => bif !r8 then (some ([], 1)) else (Option.bind (C9 d) fun r16 => bif decide (r16 < rev) then (some ([], 2)) else (bif decide (rev < d.from_) then (some ([], 3)) else (xg (Ac (rev - d.from_)) <| xg (0 <= (rev - d.from_) /\ (rev - d.from_) <= (d.list.length : Int)) <| Option.bind (J1 ((d.list.take d.list.length).drop ((rev - d.from_).toNat))) fun r37 => some (r37, 0))))
noncomputable def con_spec_Fetch : Con := ⟨121, [.val false (.b 7), .val false (.b 0)], [⟨true, .sl (.b 5), false⟩, ⟨true, .b 0, false⟩], fun a => Aag a.1 a.2.1⟩
noncomputable def Amp : Ctx := ⟨25, [con_spec_DocOk, con_spec_HeadRev, con_spec_l08Entries], [], false, false⟩
theorem A6i (a : PArgs con_spec_Fetch.ps) : Ah Amp Tryz.f121.results.toList (Ab Tryz.f121) con_spec_Fetch.ps con_spec_Fetch.rs a = con_spec_Fetch.x a := by kernel_rfl
theorem A26 {amb : List Rd} : Holds amb con_spec_Fetch := Ai (C := Amp) (c := Ab Tryz.f121) (Aa Nt ( Aa Gm ( Aa W4 (Aj)))) Tryz.func121 rfl Tryz.ntmps121 (by kernel_rfl) (by decide) fun a r h => (A6i a).trans (h)
noncomputable def Vn (h : DHub) (c : DCall) : Option DAnswer :=
 Option.bind (Gk h c.doc) fun r16 => bif h.shut then (some (⟨12, 0, [], []⟩ : DAnswer)) else (bif decide (r16 < 0) then (some (⟨6, 0, [], []⟩ : DAnswer)) else (bif decide (c.kind = 4) then (xg (0 <= r16 /\ r16 < (h.docs.length : Int)) <| xg (0 <= r16 /\ r16 < (h.docs.length : Int)) <| Option.bind (Q8 (el h.docs r16.toNat)) fun r59 => Option.bind (C9 (el h.docs r16.toNat)) fun r67 => some (⟨0, r67, r59, []⟩ : DAnswer)) else (xg (0 <= r16 /\ r16 < (h.docs.length : Int)) <| Option.bind (Aag (el h.docs r16.toNat) c.n) fun r92 => some (⟨r92.2, 0, [], r92.1⟩ : DAnswer))))
noncomputable def con_spec_l12Read : Con := ⟨85, [.val false (.b 10), .val false (.b 12)], [⟨true, .b 11, false⟩], fun a => Vn a.1 a.2.1⟩
noncomputable def Aox : Ctx := ⟨48, [con_spec_Fetch, con_spec_HeadRev, con_spec_HeadText, con_spec_HubDoc], [], false, false⟩
theorem A8q (a : PArgs con_spec_l12Read.ps) : Ah Aox Tryz.f85.results.toList (Ab Tryz.f85) con_spec_l12Read.ps con_spec_l12Read.rs a = con_spec_l12Read.x a := by kernel_rfl
theorem A37 {amb : List Rd} : Holds amb con_spec_l12Read := Ai (C := Aox) (c := Ab Tryz.f85) (Aa A26 ( Aa Gm ( Aa Acd ( Aa Ls (Aj))))) Tryz.func85 rfl Tryz.ntmps85 (by kernel_rfl) (by decide) fun a r h => (A8q a).trans (h)
noncomputable def U3 (h : DHub) : Option (DHub × Int) :=
 Option.bind (Ho h) fun r11 => bif !r11 then (some ((⟨false, [], [], 0⟩ : DHub), 1)) else (bif h.shut then (some ((⟨false, [], [], 0⟩ : DHub), 12)) else (Option.bind (D1 h) fun r28 => some ((⟨true, r28.docs, r28.subs, r28.last⟩ : DHub), 0)))
noncomputable def con_spec_HubShut : Con := ⟨86, [.val false (.b 10)], [⟨true, .b 10, false⟩, ⟨true, .b 0, false⟩], fun a => U3 a.1⟩
noncomputable def Amx : Ctx := ⟨18, [con_spec_HubOk, con_spec_l11Copy], [], false, false⟩
theorem A6q (a : PArgs con_spec_HubShut.ps) : Ah Amx Tryz.f86.results.toList (Ab Tryz.f86) con_spec_HubShut.ps con_spec_HubShut.rs a = con_spec_HubShut.x a := by kernel_rfl
theorem A27 {amb : List Rd} : Holds amb con_spec_HubShut := Ai (C := Amx) (c := Ab Tryz.f86) (Aa Nu ( Aa Nw (Aj))) Tryz.func86 rfl Tryz.ntmps86 (by kernel_rfl) (by decide) fun a r h => (A6q a).trans (h)
noncomputable def U1 (h : DHub) (c : DCall) : Option (DHub × DAnswer) :=
 Option.bind (Ho h) fun r18 => Option.bind (bif !r18 then (some true) else (Option.bind (U0 c) fun r31 => some (!r31))) fun c23 => bif c23 then (Option.bind (D1 h) fun r36 => some (r36, (⟨1, 0, [], []⟩ : DAnswer))) else (bif decide (c.kind = 1) then (Option.bind (Jt h c.doc c.text) fun r76 => bif !decide (r76.2 = 0) then (Option.bind (D1 h) fun r91 => some (r91, (⟨r76.2, 0, [], []⟩ : DAnswer))) else (some (r76.1, (⟨0, 0, [], []⟩ : DAnswer)))) else (bif decide (c.kind = 2) then (Option.bind (U4 h c.doc c.client c.seq c.n c.o) fun r126 => bif !decide (r126.2.2 = 0) then (Option.bind (D1 h) fun r144 => some (r144, (⟨r126.2.2, 0, [], []⟩ : DAnswer))) else (some (r126.1, (⟨0, r126.2.1, [], []⟩ : DAnswer)))) else (bif decide (c.kind = 3) then (bif decide (c.kind = 3) then (Option.bind (D1 h) fun r171 => Option.bind (Vn h c) fun r181 => some (r171, r181)) else (bif decide (c.kind = 5) then (Option.bind (Rb h c.doc c.n) fun r207 => bif !decide (r207.2.2 = 0) then (Option.bind (D1 h) fun r225 => some (r225, (⟨r207.2.2, 0, [], []⟩ : DAnswer))) else (some (r207.1, (⟨0, r207.2.1, [], []⟩ : DAnswer)))) else (bif decide (c.kind = 6) then (Option.bind (Q9 h c.client c.n) fun r254 => bif !decide (r254.2.2 = 0) then (Option.bind (D1 h) fun r274 => some (r274, (⟨r254.2.2, 0, [], []⟩ : DAnswer))) else (some (r254.1, (⟨0, 0, [], r254.2.1⟩ : DAnswer)))) else (bif decide (c.kind = 7) then (Option.bind (Ra h c.client) fun r301 => bif !decide (r301.2.2.2 = 0) then (Option.bind (D1 h) fun r323 => some (r323, (⟨r301.2.2.2, 0, [], []⟩ : DAnswer))) else (some (r301.1, (⟨0, r301.2.2.1, r301.2.1, []⟩ : DAnswer)))) else (Option.bind (U3 h) fun r346 => bif !decide (r346.2 = 0) then (Option.bind (D1 h) fun r362 => some (r362, (⟨r346.2, 0, [], []⟩ : DAnswer))) else (some (r346.1, (⟨0, 0, [], []⟩ : DAnswer)))))))) else (bif decide (c.kind = 4) then (Option.bind (D1 h) fun r389 => Option.bind (Vn h c) fun r399 => some (r389, r399)) else (bif decide (c.kind = 5) then (Option.bind (Rb h c.doc c.n) fun r425 => bif !decide (r425.2.2 = 0) then (Option.bind (D1 h) fun r443 => some (r443, (⟨r425.2.2, 0, [], []⟩ : DAnswer))) else (some (r425.1, (⟨0, r425.2.1, [], []⟩ : DAnswer)))) else (bif decide (c.kind = 6) then (Option.bind (Q9 h c.client c.n) fun r472 => bif !decide (r472.2.2 = 0) then (Option.bind (D1 h) fun r492 => some (r492, (⟨r472.2.2, 0, [], []⟩ : DAnswer))) else (some (r472.1, (⟨0, 0, [], r472.2.1⟩ : DAnswer)))) else (bif decide (c.kind = 7) then (Option.bind (Ra h c.client) fun r519 => bif !decide (r519.2.2.2 = 0) then (Option.bind (D1 h) fun r541 => some (r541, (⟨r519.2.2.2, 0, [], []⟩ : DAnswer))) else (some (r519.1, (⟨0, r519.2.2.1, r519.2.1, []⟩ : DAnswer)))) else (Option.bind (U3 h) fun r564 => bif !decide (r564.2 = 0) then (Option.bind (D1 h) fun r580 => some (r580, (⟨r564.2, 0, [], []⟩ : DAnswer))) else (some (r564.1, (⟨0, 0, [], []⟩ : DAnswer)))))))))))
noncomputable def con_spec_Do : Con := ⟨45, [.val false (.b 10), .val false (.b 12)], [⟨false, .b 10, false⟩, ⟨true, .b 11, false⟩], fun a => U1 a.1 a.2.1⟩
noncomputable def Aml : Ctx := ⟨115, [con_spec_CallOk, con_spec_HubOk, con_spec_HubOpen, con_spec_HubPoll, con_spec_HubResync, con_spec_HubShut, con_spec_HubSubmit, con_spec_HubSubscribe, con_spec_l11Copy, con_spec_l12Read], [], false, false⟩
theorem A6e (a : PArgs con_spec_Do.ps) : Ah Aml Tryz.f45.results.toList (Ab Tryz.f45) con_spec_Do.ps con_spec_Do.rs a = con_spec_Do.x a := by kernel_rfl
theorem A24 {amb : List Rd} : Holds amb con_spec_Do := Ai (C := Aml) (c := Ab Tryz.f45) (Aa Aqa ( Aa Nu ( Aa Ace ( Aa Aqb ( Aa Aqc ( Aa A27 ( Aa Aqd ( Aa Aqe ( Aa Nw ( Aa A37 (Aj))))))))))) Tryz.func45 rfl Tryz.ntmps45 (by kernel_rfl) (by decide) fun a r h => (A6e a).trans (h)
noncomputable def Aib (_h : DHub) (l74 : List DCall) (n75 : Int) (l76 : List UInt8) (n77 : Int) (n78 : Int) (b79 : Bool) (l80 : List DDoc) (l81 : List DSub) (n82 : Int) : Option (Lr (List DCall × Int × List UInt8 × Int × Int × Bool × List DDoc × List DSub × Int) (List DCall × List UInt8 × Int × Int)) :=
 bif decide ((0 : Int) < n75) then (Option.bind (Rn (⟨l76, n77, n78⟩ : DL01Cur) (⟨b79, l80, l81, n82⟩ : DHub)) fun r140 => xg (l74.length < 1099511627776) <| Option.bind (U1 (⟨b79, l80, l81, n82⟩ : DHub) r140.1) fun r164 => xg (Ac (n75 - 1)) <| some (Lr.go (l74 ++ [r140.1], n75 - 1, r140.2.b, r140.2.i, r140.2.h, r164.1.shut, r164.1.docs, r164.1.subs, r164.1.last))) else (some (Lr.out (l74, l76, n77, n78)))
noncomputable def Aay (h : DHub) (s183 : List DCall × Int × List UInt8 × Int × Int × Bool × List DDoc × List DSub × Int) : Option (Lr (List DCall × Int × List UInt8 × Int × Int × Bool × List DDoc × List DSub × Int) (List DCall × List UInt8 × Int × Int)) := Aib h s183.1 s183.2.1 s183.2.2.1 s183.2.2.2.1 s183.2.2.2.2.1 s183.2.2.2.2.2.1 s183.2.2.2.2.2.2.1 s183.2.2.2.2.2.2.2.1 s183.2.2.2.2.2.2.2.2
noncomputable def Rm (c : DL01Cur) (h : DHub) (most : Int) : Option (List DCall × DL01Cur) :=
 xg (Ac (most + 1)) <| Option.bind (Bc c (most + 1)) fun r16 => Option.bind (Bj (Aay h) ([], r16.1, r16.2.b, r16.2.i, r16.2.h, h.shut, h.docs, h.subs, h.last)) fun (y184 : List DCall × List UInt8 × Int × Int) => some (y184.1, (⟨y184.2.1, y184.2.2.1, y184.2.2.2⟩ : DL01Cur))
noncomputable def con_spec_l12Calls : Con := ⟨19, [.box .rd (.b 13), .val false (.b 10), .val false (.b 0)], [⟨false, .sl (.b 12), false⟩], fun a => Rm a.1 a.2.1 a.2.2.1⟩
noncomputable def Aou : Ctx := ⟨33, [con_spec_Do, con_spec_l01Below, con_spec_l12Draw], [⟨0, none, false, [.slot 7 (.sha (.b 12)), .slot 8 (.sc 0), .box 0 0 [.ro (.b 3), .sc 0, .sc 0], .box 4 0 [.sc 1, .ro (.b 7), .ro (.b 9), .sc 0]]⟩], false, true⟩
noncomputable def Azp (_h : DHub) (l274 : List DCall) (n275 : Int) (l276 : List UInt8) (n277 : Int) (n278 : Int) (b279 : Bool) (l280 : List DDoc) (l281 : List DSub) (n282 : Int) : Option (Lr (List DCall × Int × List UInt8 × Int × Int × Bool × List DDoc × List DSub × Int) (List DCall × Int × List UInt8 × Int × Int × Bool × List DDoc × List DSub × Int)) :=
 bif decide ((0 : Int) < n275) then (Option.bind (Rn (⟨l276, n277, n278⟩ : DL01Cur) (⟨b279, l280, l281, n282⟩ : DHub)) fun r340 => xg (l274.length < 1099511627776) <| Option.bind (U1 (⟨b279, l280, l281, n282⟩ : DHub) r340.1) fun r364 => xg (Ac (n275 - 1)) <| some (Lr.go (l274 ++ [r340.1], n275 - 1, r340.2.b, r340.2.i, r340.2.h, r364.1.shut, r364.1.docs, r364.1.subs, r364.1.last))) else (some (Lr.out (l274, n275, l276, n277, n278, b279, l280, l281, n282)))
noncomputable def Azq (h : DHub) (s383 : List DCall × Int × List UInt8 × Int × Int × Bool × List DDoc × List DSub × Int) : Option (Lr (List DCall × Int × List UInt8 × Int × Int × Bool × List DDoc × List DSub × Int) (List DCall × Int × List UInt8 × Int × Int × Bool × List DDoc × List DSub × Int)) := Azp h s383.1 s383.2.1 s383.2.2.1 s383.2.2.2.1 s383.2.2.2.2.1 s383.2.2.2.2.2.1 s383.2.2.2.2.2.2.1 s383.2.2.2.2.2.2.2.1 s383.2.2.2.2.2.2.2.2
noncomputable def Ajh (c : DL01Cur) (h : DHub) (most : Int) : Option (List DCall × DL01Cur) :=
 xg (Ac (most + 1)) <| Option.bind (Bc c (most + 1)) fun r205 => Option.bind (Bj (Azq h) ([], r205.1, r205.2.b, r205.2.i, r205.2.h, h.shut, h.docs, h.subs, h.last)) fun (y384 : List DCall × Int × List UInt8 × Int × Int × Bool × List DDoc × List DSub × Int) => some (y384.1, (⟨y384.2.2.1, y384.2.2.2.1, y384.2.2.2.2.1⟩ : DL01Cur))
theorem Bkw (c : DL01Cur) (h : DHub) (most : Int) : Ajh c h most = Rm c h most := by
 simp only [Aib, Aay, Rm, Azp, Azq, Ajh, B9, B4, B6, B3, B5, Ca, Cb]
theorem A8n (a : PArgs con_spec_l12Calls.ps) : Ah Aou Tryz.f19.results.toList (Ab Tryz.f19) con_spec_l12Calls.ps con_spec_l12Calls.rs a = Ajh a.1 a.2.1 a.2.2.1 := by kernel_rfl
theorem A34 {amb : List Rd} : Holds amb con_spec_l12Calls := Ai (C := Aou) (c := Ab Tryz.f19) (Aa A24 ( Aa Hc ( Aa A35 (Aj)))) Tryz.func19 rfl Tryz.ntmps19 (by kernel_rfl) (by decide) fun a r h => (A8n a).trans ((Bkw a.1 a.2.1 a.2.2.1).trans h)
noncomputable def Awv (_r32 : List DCall × DL01Cur) (_k75 : Nat) (x140 : DCall) (l76 : List DCall) : Option (Lr (List DCall) (List DCall)) :=
 Option.bind (U0 x140) fun r125 => bif r125 then (xg (l76.length < 1099511627776) <| some (Lr.go (l76 ++ [x140]))) else (some (Lr.go l76))
noncomputable def Ahm (r32 : List DCall × DL01Cur) (k75 : Nat) (s141 : List DCall) : Option (Lr (List DCall) (List DCall)) := Awv r32 k75 (el r32.1 k75) s141
noncomputable def U5 (code : List UInt8) (h : DHub) : Option (List DCall) :=
 Option.bind (Pg code) fun r7 => xg (Ac (r7.h + 31)) <| Option.bind (Rm (⟨r7.b, r7.i, r7.h + 31⟩ : DL01Cur) h 9) fun r32 => Option.bind (Aq (Ahm r32) (fun (s141 : List DCall) => (s141 : List DCall)) r32.1.length 0 []) fun (y142 : List DCall) => some y142
noncomputable def con_spec_MakeCalls : Con := ⟨6, [.val false (.sl (.b 3)), .val false (.b 10)], [⟨false, .sl (.b 12), false⟩], fun a => U5 a.1 a.2.1⟩
noncomputable def Am2 : Ctx := ⟨36, [con_spec_CallOk, con_spec_l01New, con_spec_l12Calls], [⟨0, some (24, 23), false, [.slot 6 (.sha (.b 12))]⟩], false, false⟩
theorem A6v (a : PArgs con_spec_MakeCalls.ps) : Ah Am2 Tryz.f6.results.toList (Ab Tryz.f6) con_spec_MakeCalls.ps con_spec_MakeCalls.rs a = con_spec_MakeCalls.x a := by kernel_rfl
theorem A29 {amb : List Rd} : Holds amb con_spec_MakeCalls := Ai (C := Am2) (c := Ab Tryz.f6) (Aa Aqa ( Aa Aqj ( Aa A34 (Aj)))) Tryz.func6 rfl Tryz.ntmps6 (by kernel_rfl) (by decide) fun a r h => (A6v a).trans (h)
noncomputable def Mz (l : List Int) : Option (List Int) :=
 xg (0 + l.length <= 1099511627776) <| some ([] ++ l)
noncomputable def con_impl_copyInts : Con := ⟨66, [.val false (.sl (.b 0))], [⟨true, .sl (.b 0), false⟩], fun a => Mz a.1⟩
noncomputable def Alx : Ctx := ⟨5, [], [], false, false⟩
theorem A5q (a : PArgs con_impl_copyInts.ps) : Ah Alx Tryz.f66.results.toList (Ab Tryz.f66) con_impl_copyInts.ps con_impl_copyInts.rs a = con_impl_copyInts.x a := by kernel_rfl
theorem Wy {amb : List Rd} : Holds amb con_impl_copyInts := Ai (C := Alx) (c := Ab Tryz.f66) (Aj) Tryz.func66 rfl Tryz.ntmps66 (by kernel_rfl) (by decide) fun a r h => (A5q a).trans (h)
noncomputable def Awm (_o : List DPart) (_k39 : Nat) (x105 : DPart) (out40 : List DPart) : Option (Lr (List DPart) (List DPart)) :=
 Option.bind (Mz (x105.signs)) fun r88 => xg (out40.length < 1099511627776) <| some (Lr.go (out40 ++ [(⟨x105.kind, x105.n, r88⟩ : DPart)]))
noncomputable def Awn (o : List DPart) (k39 : Nat) (s106 : List DPart) : Option (Lr (List DPart) (List DPart)) := Awm o k39 (el o k39) s106
noncomputable def Uq (o : List DPart) : Option (List DPart) :=
 Option.bind (Aq (Awn o) (fun (s106 : List DPart) => (s106 : List DPart)) o.length 0 []) fun (y107 : List DPart) => some y107
noncomputable def con_impl_copyOp : Con := ⟨68, [.val false (.sl (.b 4))], [⟨true, .sl (.b 4), false⟩], fun a => Uq a.1⟩
noncomputable def Aly : Ctx := ⟨22, [con_impl_copyInts], [⟨0, some (8, 7), false, [.slot 3 (.row (.b 4))]⟩], false, false⟩
theorem A5r (a : PArgs con_impl_copyOp.ps) : Ah Aly Tryz.f68.results.toList (Ab Tryz.f68) con_impl_copyOp.ps con_impl_copyOp.rs a = con_impl_copyOp.x a := by kernel_rfl
theorem Ap5 {amb : List Rd} : Holds amb con_impl_copyOp := Ai (C := Aly) (c := Ab Tryz.f68) (Aa Wy (Aj)) Tryz.func68 rfl Tryz.ntmps68 (by kernel_rfl) (by decide) fun a r h => (A5r a).trans (h)
noncomputable def Awk (_list : List DEntry) (_k39 : Nat) (x105 : DEntry) (out40 : List DEntry) : Option (Lr (List DEntry) (List DEntry)) :=
 Option.bind (Uq (x105.o)) fun r88 => xg (out40.length < 1099511627776) <| some (Lr.go (out40 ++ [(⟨x105.client, x105.seq, r88⟩ : DEntry)]))
noncomputable def Awl (list : List DEntry) (k39 : Nat) (s106 : List DEntry) : Option (Lr (List DEntry) (List DEntry)) := Awk list k39 (el list k39) s106
noncomputable def O9 (list : List DEntry) : Option (List DEntry) :=
 Option.bind (Aq (Awl list) (fun (s106 : List DEntry) => (s106 : List DEntry)) list.length 0 []) fun (y107 : List DEntry) => some y107
noncomputable def con_impl_copyEntries : Con := ⟨83, [.val false (.sl (.b 5))], [⟨true, .sl (.b 5), false⟩], fun a => O9 a.1⟩
noncomputable def Alv : Ctx := ⟨22, [con_impl_copyOp], [⟨0, some (8, 7), false, [.slot 3 (.row (.b 5))]⟩], false, false⟩
theorem A5o (a : PArgs con_impl_copyEntries.ps) : Ah Alv Tryz.f83.results.toList (Ab Tryz.f83) con_impl_copyEntries.ps con_impl_copyEntries.rs a = con_impl_copyEntries.x a := by kernel_rfl
theorem Wx {amb : List Rd} : Holds amb con_impl_copyEntries := Ai (C := Alv) (c := Ab Tryz.f83) (Aa Ap5 (Aj)) Tryz.func83 rfl Tryz.ntmps83 (by kernel_rfl) (by decide) fun a r h => (A5o a).trans (h)
noncomputable def O8 (d : DDoc) : Option DDoc :=
 Option.bind (Mz d.text) fun r19 => Option.bind (O9 d.list) fun r27 => xg (0 + d.seen.length <= 1099511627776) <| some (⟨d.name, d.from_, r19, r27, [] ++ d.seen⟩ : DDoc)
noncomputable def con_impl_copyDoc : Con := ⟨42, [.val false (.b 7)], [⟨true, .b 7, false⟩], fun a => O8 a.1⟩
noncomputable def Alu : Ctx := ⟨17, [con_impl_copyEntries, con_impl_copyInts], [], false, false⟩
theorem A5n (a : PArgs con_impl_copyDoc.ps) : Ah Alu Tryz.f42.results.toList (Ab Tryz.f42) con_impl_copyDoc.ps con_impl_copyDoc.rs a = con_impl_copyDoc.x a := by kernel_rfl
theorem Ap4 {amb : List Rd} : Holds amb con_impl_copyDoc := Ai (C := Alu) (c := Ab Tryz.f42) (Aa Wx ( Aa Wy (Aj))) Tryz.func42 rfl Tryz.ntmps42 (by kernel_rfl) (by decide) fun a r h => (A5n a).trans (h)
noncomputable def Pa (r_ : DRing) : Option DRing :=
 Option.bind (O9 r_.list) fun r11 => some (⟨r_.cap, r_.next, r_.out, r11⟩ : DRing)
noncomputable def con_impl_copyRing : Con := ⟨43, [.val false (.b 8)], [⟨true, .b 8, false⟩], fun a => Pa a.1⟩
noncomputable def Alz : Ctx := ⟨8, [con_impl_copyEntries], [], false, false⟩
theorem A5s (a : PArgs con_impl_copyRing.ps) : Ah Alz Tryz.f43.results.toList (Ab Tryz.f43) con_impl_copyRing.ps con_impl_copyRing.rs a = con_impl_copyRing.x a := by kernel_rfl
theorem Ab9 {amb : List Rd} : Holds amb con_impl_copyRing := Ai (C := Alz) (c := Ab Tryz.f43) (Aa Wx (Aj)) Tryz.func43 rfl Tryz.ntmps43 (by kernel_rfl) (by decide) fun a r h => (A5s a).trans (h)
noncomputable def Agu (_h : DHub) (_k79 : Nat) (x189 : DDoc) (b80 : Bool) (l81 : List DDoc) (n82 : Int) : Option (Lr (Bool × List DDoc × Int) (Bool × List DDoc × Int)) :=
 Option.bind (O8 x189) fun r156 => xg (l81.length + [r156].length <= 1099511627776) <| some (Lr.go (b80, l81 ++ [r156], n82))
noncomputable def Z9 (h : DHub) (k79 : Nat) (s190 : Bool × List DDoc × Int) : Option (Lr (Bool × List DDoc × Int) (Bool × List DDoc × Int)) := Agu h k79 (el h.docs k79) s190.1 s190.2.1 s190.2.2
noncomputable def Agv (_h : DHub) (_k234 : Nat) (x311 : DSub) (b235 : Bool) (l236 : List DDoc) (l237 : List DSub) (n238 : Int) : Option (Lr (Bool × List DDoc × List DSub × Int) (Bool × List DDoc × List DSub × Int)) :=
 Option.bind (Pa (x311.r)) fun r291 => xg (l237.length < 1099511627776) <| some (Lr.go (b235, l236, l237 ++ [(⟨x311.id, x311.doc, r291⟩ : DSub)], n238))
noncomputable def Aaa (h : DHub) (k234 : Nat) (s312 : Bool × List DDoc × List DSub × Int) : Option (Lr (Bool × List DDoc × List DSub × Int) (Bool × List DDoc × List DSub × Int)) := Agv h k234 (el h.subs k234) s312.1 s312.2.1 s312.2.2.1 s312.2.2.2
noncomputable def Dw (h : DHub) : Option DHub :=
 Option.bind (Aq (Z9 h) (fun (s190 : Bool × List DDoc × Int) => ((s190.1, s190.2.1, s190.2.2) : Bool × List DDoc × Int)) h.docs.length 0 (h.shut, [], h.last)) fun (y191 : Bool × List DDoc × Int) => Option.bind (Aq (Aaa h) (fun (s312 : Bool × List DDoc × List DSub × Int) => ((s312.1, s312.2.1, s312.2.2.1, s312.2.2.2) : Bool × List DDoc × List DSub × Int)) h.subs.length 0 (y191.1, y191.2.1, [], y191.2.2)) fun (y313 : Bool × List DDoc × List DSub × Int) => some (⟨y313.1, y313.2.1, y313.2.2.1, y313.2.2.2⟩ : DHub)
noncomputable def con_impl_copyHub : Con := ⟨18, [.val false (.b 10)], [⟨true, .b 10, false⟩], fun a => Dw a.1⟩
noncomputable def Alw : Ctx := ⟨47, [con_impl_copyDoc, con_impl_copyRing], [⟨0, some (16, 15), false, [.box 3 0 [.sc 1, .row (.b 7), .nl, .sc 0]]⟩, ⟨2, some (31, 30), false, [.box 3 0 [.sc 1, .row (.b 7), .row (.b 9), .sc 0]]⟩], false, false⟩
noncomputable def Axw (_h : DHub) (_k404 : Nat) (x514 : DDoc) (b405 : Bool) (l406 : List DDoc) (n407 : Int) : Option (Lr (Bool × List DDoc × Int) (Bool × List DDoc × Int)) :=
 Option.bind (O8 x514) fun r481 => xg (l406.length + [r481].length <= 1099511627776) <| some (Lr.go (b405, l406 ++ [r481], n407))
noncomputable def Axy (h : DHub) (k404 : Nat) (s515 : Bool × List DDoc × Int) : Option (Lr (Bool × List DDoc × Int) (Bool × List DDoc × Int)) := Axw h k404 (el h.docs k404) s515.1 s515.2.1 s515.2.2
noncomputable def Axx (_h : DHub) (_k524 : Nat) (x601 : DSub) (b525 : Bool) (l526 : List DDoc) (l527 : List DSub) (n528 : Int) : Option (Lr (Bool × List DDoc × List DSub × Int) (Bool × List DDoc × List DSub × Int)) :=
 Option.bind (Pa (x601.r)) fun r581 => xg (l527.length < 1099511627776) <| some (Lr.go (b525, l526, l527 ++ [(⟨x601.id, x601.doc, r581⟩ : DSub)], n528))
noncomputable def Axz (h : DHub) (k524 : Nat) (s602 : Bool × List DDoc × List DSub × Int) : Option (Lr (Bool × List DDoc × List DSub × Int) (Bool × List DDoc × List DSub × Int)) := Axx h k524 (el h.subs k524) s602.1 s602.2.1 s602.2.2.1 s602.2.2.2
noncomputable def Aim (h : DHub) : Option DHub :=
 Option.bind (Aq (Axy h) (fun (s515 : Bool × List DDoc × Int) => ((s515.1, s515.2.1, s515.2.2) : Bool × List DDoc × Int)) h.docs.length 0 (h.shut, [], h.last)) fun (y516 : Bool × List DDoc × Int) => Option.bind (Aq (Axz h) (fun (s602 : Bool × List DDoc × List DSub × Int) => ((s602.1, s602.2.1, s602.2.2.1, s602.2.2.2) : Bool × List DDoc × List DSub × Int)) h.subs.length 0 (y516.1, y516.2.1, [], y516.2.2)) fun (y603 : Bool × List DDoc × List DSub × Int) => some (⟨y603.1, y603.2.1, y603.2.2.1, y603.2.2.2⟩ : DHub)
theorem Bj2 (h : DHub) : Aim h = Dw h := by
 simp only [Agu, Z9, Agv, Aaa, Dw, Axw, Axy, Axx, Axz, Aim, Bt, B6, B3, B5, Ca]
theorem A5p (a : PArgs con_impl_copyHub.ps) : Ah Alw Tryz.f18.results.toList (Ab Tryz.f18) con_impl_copyHub.ps con_impl_copyHub.rs a = Aim a.1 := by kernel_rfl
theorem Lq {amb : List Rd} : Holds amb con_impl_copyHub := Ai (C := Alw) (c := Ab Tryz.f18) (Aa Ap4 ( Aa Ab9 (Aj))) Tryz.func18 rfl Tryz.ntmps18 (by kernel_rfl) (by decide) fun a r h => (A5p a).trans ((Bj2 a.1).trans h)
noncomputable def Cv (n : Int) (low : Int) (high : Int) : Option Bool :=
 Option.bind (bif decide (low <= n) then (some (decide (n <= high))) else (some false)) fun c6 => some c6
noncomputable def con_impl_within : Con := ⟨21, [.val false (.b 0), .val false (.b 0), .val false (.b 0)], [⟨true, .b 1, false⟩], fun a => Cv a.1 a.2.1 a.2.2.1⟩
noncomputable def Amd : Ctx := ⟨15, [], [], false, false⟩
theorem A56 (a : PArgs con_impl_within.ps) : Ah Amd Tryz.f21.results.toList (Ab Tryz.f21) con_impl_within.ps con_impl_within.rs a = con_impl_within.x a := by kernel_rfl
theorem Hb {amb : List Rd} : Holds amb con_impl_within := Ai (C := Amd) (c := Ab Tryz.f21) (Aj) Tryz.func21 rfl Tryz.ntmps21 (by kernel_rfl) (by decide) fun a r h => (A56 a).trans (h)
noncomputable def Zy (s : ByteArray) (i3 : Int) : Option (Lr Int (Sum Unit Unit)) :=
 bif decide (i3 < (s.size : Int)) then (xg (0 <= i3 /\ i3 < (s.size : Int)) <| Option.bind (bif decide (((Fs s i3.toNat).toNat : Int) < 97) then (some true) else (xg (0 <= i3 /\ i3 < (s.size : Int)) <| some (decide ((122 : Int) < ((Fs s i3.toNat).toNat : Int))))) fun c41 => bif c41 then (some (Lr.out (Sum.inr (())))) else (xg (Ac (i3 + 1)) <| some (Lr.go (i3 + 1)))) else (some (Lr.out (Sum.inl ())))
noncomputable def Mx (s : ByteArray) (s58 : Int) : Option (Lr Int (Sum Unit Unit)) := Zy s s58
noncomputable def Gj (s : ByteArray) : Option Bool :=
 Option.bind (Bj (Mx s) 0) fun (y59 : Sum Unit Unit) => Sum.elim (fun _y60 => Option.bind (Cv (s.size : Int) 1 8) fun r64 => some r64) (fun _y61 => some false) y59
noncomputable def con_impl_NameOk : Con := ⟨50, [.val false (.b 2)], [⟨true, .b 1, false⟩], fun a => Gj a.1⟩
noncomputable def Ak5 : Ctx := ⟨23, [con_impl_within], [⟨0, none, true, [.slot 3 (.sc 0)]⟩], false, false⟩
noncomputable def Axm (s : ByteArray) (i70 : Int) : Option (Lr Int (Sum Int Bool)) :=
 bif decide (i70 < (s.size : Int)) then (xg (0 <= i70 /\ i70 < (s.size : Int)) <| Option.bind (bif decide (((Fs s i70.toNat).toNat : Int) < 97) then (some true) else (xg (0 <= i70 /\ i70 < (s.size : Int)) <| some (decide ((122 : Int) < ((Fs s i70.toNat).toNat : Int))))) fun c108 => bif c108 then (some (Lr.out (Sum.inr false))) else (xg (Ac (i70 + 1)) <| some (Lr.go (i70 + 1)))) else (some (Lr.out (Sum.inl i70)))
noncomputable def Axn (s : ByteArray) (s125 : Int) : Option (Lr Int (Sum Int Bool)) := Axm s s125
noncomputable def Aih (s : ByteArray) : Option Bool :=
 Option.bind (Bj (Axn s) 0) fun (y126 : Sum Int Bool) => Sum.elim (fun _y127 => Option.bind (Cv (s.size : Int) 1 8) fun r131 => some r131) (fun y128 => some y128) y126
theorem Bjx (s : ByteArray) : Aih s = Gj s := by
 simp only [Zy, Mx, Gj, Axm, Axn, Aih, B9, B4, B6, B5, cond_true, Ca, Cb, B7, B8]
theorem A4y (a : PArgs con_impl_NameOk.ps) : Ah Ak5 Tryz.f50.results.toList (Ab Tryz.f50) con_impl_NameOk.ps con_impl_NameOk.rs a = Aih a.1 := by kernel_rfl
theorem Apy {amb : List Rd} : Holds amb con_impl_NameOk := Ai (C := Ak5) (c := Ab Tryz.f50) (Aa Hb (Aj)) Tryz.func50 rfl Tryz.ntmps50 (by kernel_rfl) (by decide) fun a r h => (A4y a).trans ((Bjx a.1).trans h)
noncomputable def Un (n : Int) : Option Bool :=
 Option.bind (Cv n 0 1114111) fun r3 => Option.bind (bif r3 then (Option.bind (Cv n 55296 57343) fun r15 => some (!r15)) else (some false)) fun c7 => some c7
noncomputable def con_impl_SignOk : Con := ⟨123, [.val false (.b 0)], [⟨true, .b 1, false⟩], fun a => Un a.1⟩
noncomputable def Alm : Ctx := ⟨10, [con_impl_within], [], false, false⟩
theorem A5f (a : PArgs con_impl_SignOk.ps) : Ah Alm Tryz.f123.results.toList (Ab Tryz.f123) con_impl_SignOk.ps con_impl_SignOk.rs a = con_impl_SignOk.x a := by kernel_rfl
theorem A2p {amb : List Rd} : Holds amb con_impl_SignOk := Ai (C := Alm) (c := Ab Tryz.f123) (Aa Hb (Aj)) Tryz.func123 rfl Tryz.ntmps123 (by kernel_rfl) (by decide) fun a r h => (A5f a).trans (h)
noncomputable def Ags (_l : List Int) (_k5 : Nat) (x32 : Int) : Option (Lr Unit (Sum Unit Unit)) :=
 Option.bind (Un x32) fun r25 => bif !r25 then (some (Lr.out (Sum.inr (())))) else (some (Lr.go ()))
noncomputable def Agt (l : List Int) (k5 : Nat) (_s33 : Unit) : Option (Lr Unit (Sum Unit Unit)) := Ags l k5 (el l k5)
noncomputable def My (l : List Int) : Option Bool :=
 Option.bind (Aq (Agt l) (fun (_s33 : Unit) => (Sum.inl () : Sum Unit Unit)) l.length 0 ()) fun (y34 : Sum Unit Unit) => Sum.elim (fun _y35 => some true) (fun _y36 => some false) y34
noncomputable def con_impl_SignsOk : Con := ⟨90, [.val false (.sl (.b 0))], [⟨true, .b 1, false⟩], fun a => My a.1⟩
noncomputable def Aln : Ctx := ⟨15, [con_impl_SignOk], [⟨0, some (7, 6), true, []⟩], false, false⟩
noncomputable def Axs (_l : List Int) (_k42 : Nat) (x69 : Int) : Option (Lr Unit (Sum Unit Bool)) :=
 Option.bind (Un x69) fun r62 => bif !r62 then (some (Lr.out (Sum.inr false))) else (some (Lr.go ()))
noncomputable def Axt (l : List Int) (k42 : Nat) (_s70 : Unit) : Option (Lr Unit (Sum Unit Bool)) := Axs l k42 (el l k42)
noncomputable def Aik (l : List Int) : Option Bool :=
 Option.bind (Aq (Axt l) (fun (_s70 : Unit) => (Sum.inl () : Sum Unit Bool)) l.length 0 ()) fun (y71 : Sum Unit Bool) => Sum.elim (fun _y72 => some true) (fun y73 => some y73) y71
theorem Bj0 (l : List Int) : Aik l = My l := by
 simp only [Ags, Agt, My, Axs, Axt, Aik, Bt, B4, B3, B5, Ca, Cb, B7, B8]
theorem A5g (a : PArgs con_impl_SignsOk.ps) : Ah Aln Tryz.f90.results.toList (Ab Tryz.f90) con_impl_SignsOk.ps con_impl_SignsOk.rs a = Aik a.1 := by kernel_rfl
theorem Ap2 {amb : List Rd} : Holds amb con_impl_SignsOk := Ai (C := Aln) (c := Ab Tryz.f90) (Aa A2p (Aj)) Tryz.func90 rfl Tryz.ntmps90 (by kernel_rfl) (by decide) fun a r h => (A5g a).trans ((Bj0 a.1).trans h)
noncomputable def It (t : List Int) : Option Bool :=
 Option.bind (bif decide ((t.length : Int) <= 200) then (Option.bind (My t) fun r13 => some r13) else (some false)) fun c6 => some c6
noncomputable def con_impl_TextOk : Con := ⟨51, [.val false (.sl (.b 0))], [⟨true, .b 1, false⟩], fun a => It a.1⟩
noncomputable def Alr : Ctx := ⟨10, [con_impl_SignsOk], [], false, false⟩
theorem A5k (a : PArgs con_impl_TextOk.ps) : Ah Alr Tryz.f51.results.toList (Ab Tryz.f51) con_impl_TextOk.ps con_impl_TextOk.rs a = con_impl_TextOk.x a := by kernel_rfl
theorem Sk {amb : List Rd} : Holds amb con_impl_TextOk := Ai (C := Alr) (c := Ab Tryz.f51) (Aa Ap2 (Aj)) Tryz.func51 rfl Tryz.ntmps51 (by kernel_rfl) (by decide) fun a r h => (A5k a).trans (h)
noncomputable def Ul (p : DPart) : Option Bool :=
 bif decide (p.kind = 1) then (bif decide (p.kind = 1) then (Option.bind (Cv p.n 0 200) fun r12 => Option.bind (bif r12 then (some (decide ((p.signs.length : Int) = 0))) else (some false)) fun c16 => some c16) else (bif decide (p.kind = 2) then (Option.bind (bif decide (p.n = 0) then (some (decide ((p.signs.length : Int) <= 200))) else (some false)) fun c33 => Option.bind (bif c33 then (Option.bind (My p.signs) fun r53 => some r53) else (some false)) fun c44 => some c44) else (some false))) else (bif decide (p.kind = 3) then (Option.bind (Cv p.n 0 200) fun r62 => Option.bind (bif r62 then (some (decide ((p.signs.length : Int) = 0))) else (some false)) fun c66 => some c66) else (bif decide (p.kind = 2) then (Option.bind (bif decide (p.n = 0) then (some (decide ((p.signs.length : Int) <= 200))) else (some false)) fun c83 => Option.bind (bif c83 then (Option.bind (My p.signs) fun r103 => some r103) else (some false)) fun c94 => some c94) else (some false)))
noncomputable def con_impl_PartOk : Con := ⟨91, [.val false (.b 4)], [⟨true, .b 1, false⟩], fun a => Ul a.1⟩
noncomputable def Ald : Ctx := ⟨33, [con_impl_SignsOk, con_impl_within], [], false, false⟩
theorem A46 (a : PArgs con_impl_PartOk.ps) : Ah Ald Tryz.f91.results.toList (Ab Tryz.f91) con_impl_PartOk.ps con_impl_PartOk.rs a = con_impl_PartOk.x a := by kernel_rfl
theorem A2i {amb : List Rd} : Holds amb con_impl_PartOk := Ai (C := Ald) (c := Ab Tryz.f91) (Aa Ap2 ( Aa Hb (Aj))) Tryz.func91 rfl Tryz.ntmps91 (by kernel_rfl) (by decide) fun a r h => (A46 a).trans (h)
noncomputable def Agy (_o : List DPart) (_k5 : Nat) (x46 : DPart) : Option (Lr Unit (Sum Unit Unit)) :=
 Option.bind (Ul x46) fun r39 => bif !r39 then (some (Lr.out (Sum.inr (())))) else (some (Lr.go ()))
noncomputable def Agz (o : List DPart) (k5 : Nat) (_s47 : Unit) : Option (Lr Unit (Sum Unit Unit)) := Agy o k5 (el o k5)
noncomputable def M0 (o : List DPart) : Option Bool :=
 Option.bind (Aq (Agz o) (fun (_s47 : Unit) => (Sum.inl () : Sum Unit Unit)) o.length 0 ()) fun (y48 : Sum Unit Unit) => Sum.elim (fun _y49 => some (decide ((o.length : Int) <= 600))) (fun _y50 => some false) y48
noncomputable def con_impl_partsOk : Con := ⟨54, [.val false (.sl (.b 4))], [⟨true, .b 1, false⟩], fun a => M0 a.1⟩
noncomputable def Al4 : Ctx := ⟨18, [con_impl_PartOk], [⟨0, some (7, 6), true, []⟩], false, false⟩
noncomputable def Ax2 (_o : List DPart) (_k59 : Nat) (x100 : DPart) : Option (Lr Unit (Sum Unit Bool)) :=
 Option.bind (Ul x100) fun r93 => bif !r93 then (some (Lr.out (Sum.inr false))) else (some (Lr.go ()))
noncomputable def Ax3 (o : List DPart) (k59 : Nat) (_s101 : Unit) : Option (Lr Unit (Sum Unit Bool)) := Ax2 o k59 (el o k59)
noncomputable def Aio (o : List DPart) : Option Bool :=
 Option.bind (Aq (Ax3 o) (fun (_s101 : Unit) => (Sum.inl () : Sum Unit Bool)) o.length 0 ()) fun (y102 : Sum Unit Bool) => Sum.elim (fun _y103 => some (decide ((o.length : Int) <= 600))) (fun y104 => some y104) y102
theorem Bj4 (o : List DPart) : Aio o = M0 o := by
 simp only [Agy, Agz, M0, Ax2, Ax3, Aio, Bt, B4, B3, B5, Ca, Cb, B7, B8]
theorem A5x (a : PArgs con_impl_partsOk.ps) : Ah Al4 Tryz.f54.results.toList (Ab Tryz.f54) con_impl_partsOk.ps con_impl_partsOk.rs a = Aio a.1 := by kernel_rfl
theorem Aca {amb : List Rd} : Holds amb con_impl_partsOk := Ai (C := Al4) (c := Ab Tryz.f54) (Aa A2i (Aj)) Tryz.func54 rfl Tryz.ntmps54 (by kernel_rfl) (by decide) fun a r h => (A5x a).trans ((Bj4 a.1).trans h)
noncomputable def Hl (p : DPart) : Option Int :=
 xg (Ac (p.n + (p.signs.length : Int))) <| some (p.n + (p.signs.length : Int))
noncomputable def con_impl_size : Con := ⟨145, [.val false (.b 4)], [⟨true, .b 0, false⟩], fun a => Hl a.1⟩
noncomputable def Ama : Ctx := ⟨9, [], [], false, false⟩
theorem A53 (a : PArgs con_impl_size.ps) : Ah Ama Tryz.f145.results.toList (Ab Tryz.f145) con_impl_size.ps con_impl_size.rs a = con_impl_size.x a := by kernel_rfl
theorem W0 {amb : List Rd} : Holds amb con_impl_size := Ai (C := Ama) (c := Ab Tryz.f145) (Aj) Tryz.func145 rfl Tryz.ntmps145 (by kernel_rfl) (by decide) fun a r h => (A53 a).trans (h)
noncomputable def Awq (but : Int) (_o : List DPart) (_k12 : Nat) (x70 : DPart) (n13 : Int) : Option (Lr Int Int) :=
 bif !decide ((x70.kind) = but) then (Option.bind (Hl x70) fun r60 => xg (Ac (n13 + r60)) <| some (Lr.go (n13 + r60))) else (some (Lr.go n13))
noncomputable def Awr (but : Int) (o : List DPart) (k12 : Nat) (s71 : Int) : Option (Lr Int Int) := Awq but o k12 (el o k12) s71
noncomputable def Uu (o : List DPart) (but : Int) : Option Int :=
 Option.bind (M0 o) fun r3 => bif !r3 then (some 0) else (Option.bind (Aq (Awr but o) (fun (s71 : Int) => (s71 : Int)) o.length 0 0) fun (y72 : Int) => some y72)
noncomputable def con_impl_sizeOf : Con := ⟨132, [.val false (.sl (.b 4)), .val false (.b 0)], [⟨true, .b 0, false⟩], fun a => Uu a.1 a.2.1⟩
noncomputable def Amb : Ctx := ⟨27, [con_impl_partsOk, con_impl_size], [⟨0, some (13, 12), false, [.slot 5 (.sc 0)]⟩], false, false⟩
theorem A54 (a : PArgs con_impl_sizeOf.ps) : Ah Amb Tryz.f132.results.toList (Ab Tryz.f132) con_impl_sizeOf.ps con_impl_sizeOf.rs a = con_impl_sizeOf.x a := by kernel_rfl
theorem Ap8 {amb : List Rd} : Holds amb con_impl_sizeOf := Ai (C := Amb) (c := Ab Tryz.f132) (Aa Aca ( Aa W0 (Aj))) Tryz.func132 rfl Tryz.ntmps132 (by kernel_rfl) (by decide) fun a r h => (A54 a).trans (h)
noncomputable def Iq (o : List DPart) : Option Int :=
 Option.bind (Uu o 2) fun r3 => some r3
noncomputable def con_impl_OpFrom : Con := ⟨103, [.val false (.sl (.b 4))], [⟨true, .b 0, false⟩], fun a => Iq a.1⟩
noncomputable def Ak7 : Ctx := ⟨5, [con_impl_sizeOf], [], false, false⟩
theorem A40 (a : PArgs con_impl_OpFrom.ps) : Ah Ak7 Tryz.f103.results.toList (Ab Tryz.f103) con_impl_OpFrom.ps con_impl_OpFrom.rs a = con_impl_OpFrom.x a := by kernel_rfl
theorem Ww {amb : List Rd} : Holds amb con_impl_OpFrom := Ai (C := Ak7) (c := Ab Tryz.f103) (Aa Ap8 (Aj)) Tryz.func103 rfl Tryz.ntmps103 (by kernel_rfl) (by decide) fun a r h => (A40 a).trans (h)
noncomputable def Z0 (o : List DPart) : Option Int :=
 Option.bind (Uu o 3) fun r3 => some r3
noncomputable def con_impl_OpTo : Con := ⟨127, [.val false (.sl (.b 4))], [⟨true, .b 0, false⟩], fun a => Z0 a.1⟩
noncomputable def Alb : Ctx := ⟨5, [con_impl_sizeOf], [], false, false⟩
theorem A44 (a : PArgs con_impl_OpTo.ps) : Ah Alb Tryz.f127.results.toList (Ab Tryz.f127) con_impl_OpTo.ps con_impl_OpTo.rs a = con_impl_OpTo.x a := by kernel_rfl
theorem A2g {amb : List Rd} : Holds amb con_impl_OpTo := Ai (C := Alb) (c := Ab Tryz.f127) (Aa Ap8 (Aj)) Tryz.func127 rfl Tryz.ntmps127 (by kernel_rfl) (by decide) fun a r h => (A44 a).trans (h)
noncomputable def E0 (o : List DPart) : Option Bool :=
 Option.bind (M0 o) fun r3 => Option.bind (bif r3 then (Option.bind (Iq o) fun r15 => some (decide (r15 <= 200))) else (some false)) fun c7 => Option.bind (bif c7 then (Option.bind (Z0 o) fun r28 => some (decide (r28 <= 200))) else (some false)) fun c20 => some c20
noncomputable def con_impl_OpOk : Con := ⟨96, [.val false (.sl (.b 4))], [⟨true, .b 1, false⟩], fun a => E0 a.1⟩
noncomputable def Ak9 : Ctx := ⟨15, [con_impl_OpFrom, con_impl_OpTo, con_impl_partsOk], [], false, false⟩
theorem A42 (a : PArgs con_impl_OpOk.ps) : Ah Ak9 Tryz.f96.results.toList (Ab Tryz.f96) con_impl_OpOk.ps con_impl_OpOk.rs a = con_impl_OpOk.x a := by kernel_rfl
theorem Ns {amb : List Rd} : Holds amb con_impl_OpOk := Ai (C := Ak9) (c := Ab Tryz.f96) (Aa Ww ( Aa A2g ( Aa Aca (Aj)))) Tryz.func96 rfl Tryz.ntmps96 (by kernel_rfl) (by decide) fun a r h => (A42 a).trans (h)
noncomputable def Pb (p : List Int) (px : List DPart) (pxx : Int) : Option (List Int × List DPart × Int) :=
 bif decide ((0 : Int) < (p.length : Int)) then (xg (px.length < 1099511627776) <| bif decide ((0 : Int) < pxx) then (xg ((px ++ [(⟨2, 0, p⟩ : DPart)]).length < 1099511627776) <| some ([], (px ++ [(⟨2, 0, p⟩ : DPart)]) ++ [(⟨3, pxx, []⟩ : DPart)], 0)) else (some ([], px ++ [(⟨2, 0, p⟩ : DPart)], 0))) else (bif decide ((0 : Int) < pxx) then (xg (px.length < 1099511627776) <| some ([], px ++ [(⟨3, pxx, []⟩ : DPart)], 0)) else (some ([], px, 0)))
noncomputable def con_impl_normal_1 : Con := ⟨146, [.box .ow (.sl (.b 0)), .box .ow (.sl (.b 4)), .box .ow (.b 0)], [], fun a => Pb a.1 a.2.1 a.2.2.1⟩
noncomputable def Al2 : Ctx := ⟨18, [], [], false, false⟩
theorem A5v (a : PArgs con_impl_normal_1.ps) : Ah Al2 Tryz.f146.results.toList (Ab Tryz.f146) con_impl_normal_1.ps con_impl_normal_1.rs a = con_impl_normal_1.x a := by kernel_rfl
theorem A2u {amb : List Rd} : Holds amb con_impl_normal_1 := Ai (C := Al2) (c := Ab Tryz.f146) (Aj) Tryz.func146 rfl Tryz.ntmps146 (by kernel_rfl) (by decide) fun a r h => (A5v a).trans (h)
noncomputable def Agw (_o : List DPart) (_k144 : Nat) (x386 : DPart) (l145 : List Int) (n146 : Int) (l147 : List DPart) : Option (Lr (List Int × Int × List DPart) (List DPart × List Int × Int)) :=
 bif decide ((x386.kind) = 2) then (xg (l145.length + (x386.signs).length <= 1099511627776) <| some (Lr.go (l145 ++ (x386.signs), n146, l147))) else (bif decide ((x386.kind) = 3) then (xg (Ac (n146 + (x386.n))) <| some (Lr.go (l145, n146 + (x386.n), l147))) else (bif decide ((0 : Int) < (x386.n)) then (Option.bind (Pb l145 l147 n146) fun r314 => Option.bind (bif decide ((0 : Int) < (r314.2.1.length : Int)) then (xg (Ac ((r314.2.1.length : Int) - 1)) <| xg (0 <= ((r314.2.1.length : Int) - 1) /\ ((r314.2.1.length : Int) - 1) < (r314.2.1.length : Int)) <| some (decide (((el r314.2.1 (((r314.2.1.length : Int) - 1).toNat)).kind) = 1))) else (some false)) fun c325 => bif c325 then (xg (Ac ((r314.2.1.length : Int) - 1)) <| xg (0 <= ((r314.2.1.length : Int) - 1) /\ ((r314.2.1.length : Int) - 1) < (r314.2.1.length : Int)) <| xg (Ac (((el r314.2.1 (((r314.2.1.length : Int) - 1).toNat)).n) + (x386.n))) <| xg (0 <= ((r314.2.1.length : Int) - 1) /\ ((r314.2.1.length : Int) - 1) < (r314.2.1.length : Int)) <| some (Lr.go (r314.1, r314.2.2, r314.2.1.set (((r314.2.1.length : Int) - 1).toNat) (⟨(el r314.2.1 (((r314.2.1.length : Int) - 1).toNat)).kind, ((el r314.2.1 (((r314.2.1.length : Int) - 1).toNat)).n) + (x386.n), (el r314.2.1 (((r314.2.1.length : Int) - 1).toNat)).signs⟩ : DPart)))) else (xg (r314.2.1.length < 1099511627776) <| some (Lr.go (r314.1, r314.2.2, r314.2.1 ++ [(⟨1, x386.n, []⟩ : DPart)])))) else (some (Lr.go (l145, n146, l147)))))
noncomputable def Aab (o : List DPart) (k144 : Nat) (s387 : List Int × Int × List DPart) : Option (Lr (List Int × Int × List DPart) (List DPart × List Int × Int)) := Agw o k144 (el o k144) s387.1 s387.2.1 s387.2.2
noncomputable def Jr (o : List DPart) : Option (List DPart) :=
 Option.bind (Aq (Aab o) (fun (s387 : List Int × Int × List DPart) => ((s387.2.2, s387.1, s387.2.1) : List DPart × List Int × Int)) o.length 0 ([], 0, [])) fun (y388 : List DPart × List Int × Int) => Option.bind (Pb y388.2.1 y388.1 y388.2.2) fun r394 => some r394.2.1
noncomputable def con_impl_normal : Con := ⟨133, [.val false (.sl (.b 4))], [⟨true, .sl (.b 4), false⟩], fun a => Jr a.1⟩
noncomputable def Al1 : Ctx := ⟨73, [con_impl_normal_1], [⟨0, some (13, 12), false, [.box 4 0 [.row (.b 0)], .box 5 0 [.sc 0], .box 3 0 [.row (.b 4)]]⟩], false, false⟩
noncomputable def Ax0 (_o : List DPart) (_k423 : Nat) (x665 : DPart) (l424 : List Int) (n425 : Int) (l426 : List DPart) : Option (Lr (List Int × Int × List DPart) (List Int × Int × List DPart)) :=
 bif decide ((x665.kind) = 2) then (xg (l424.length + (x665.signs).length <= 1099511627776) <| some (Lr.go (l424 ++ (x665.signs), n425, l426))) else (bif decide ((x665.kind) = 3) then (xg (Ac (n425 + (x665.n))) <| some (Lr.go (l424, n425 + (x665.n), l426))) else (bif decide ((0 : Int) < (x665.n)) then (Option.bind (Pb l424 l426 n425) fun r593 => Option.bind (bif decide ((0 : Int) < (r593.2.1.length : Int)) then (xg (Ac ((r593.2.1.length : Int) - 1)) <| xg (0 <= ((r593.2.1.length : Int) - 1) /\ ((r593.2.1.length : Int) - 1) < (r593.2.1.length : Int)) <| some (decide (((el r593.2.1 (((r593.2.1.length : Int) - 1).toNat)).kind) = 1))) else (some false)) fun c604 => bif c604 then (xg (Ac ((r593.2.1.length : Int) - 1)) <| xg (0 <= ((r593.2.1.length : Int) - 1) /\ ((r593.2.1.length : Int) - 1) < (r593.2.1.length : Int)) <| xg (Ac (((el r593.2.1 (((r593.2.1.length : Int) - 1).toNat)).n) + (x665.n))) <| xg (0 <= ((r593.2.1.length : Int) - 1) /\ ((r593.2.1.length : Int) - 1) < (r593.2.1.length : Int)) <| some (Lr.go (r593.1, r593.2.2, r593.2.1.set (((r593.2.1.length : Int) - 1).toNat) (⟨(el r593.2.1 (((r593.2.1.length : Int) - 1).toNat)).kind, ((el r593.2.1 (((r593.2.1.length : Int) - 1).toNat)).n) + (x665.n), (el r593.2.1 (((r593.2.1.length : Int) - 1).toNat)).signs⟩ : DPart)))) else (xg (r593.2.1.length < 1099511627776) <| some (Lr.go (r593.1, r593.2.2, r593.2.1 ++ [(⟨1, x665.n, []⟩ : DPart)])))) else (some (Lr.go (l424, n425, l426)))))
noncomputable def Ax1 (o : List DPart) (k423 : Nat) (s666 : List Int × Int × List DPart) : Option (Lr (List Int × Int × List DPart) (List Int × Int × List DPart)) := Ax0 o k423 (el o k423) s666.1 s666.2.1 s666.2.2
noncomputable def Ain (o : List DPart) : Option (List DPart) :=
 Option.bind (Aq (Ax1 o) (fun (s666 : List Int × Int × List DPart) => ((s666.1, s666.2.1, s666.2.2) : List Int × Int × List DPart)) o.length 0 ([], 0, [])) fun (y667 : List Int × Int × List DPart) => Option.bind (Pb y667.1 y667.2.2 y667.2.1) fun r673 => some r673.2.1
theorem Bj3 (o : List DPart) : Ain o = Jr o := by
 simp only [Agw, Aab, Jr, Ax0, Ax1, Ain, Bt, B4, B6, B3, B5, cond_false, Ca]
theorem A5u (a : PArgs con_impl_normal.ps) : Ah Al1 Tryz.f133.results.toList (Ab Tryz.f133) con_impl_normal.ps con_impl_normal.rs a = Ain a.1 := by kernel_rfl
theorem Ap6 {amb : List Rd} : Holds amb con_impl_normal := Ai (C := Al1) (c := Ab Tryz.f133) (Aa A2u (Aj)) Tryz.func133 rfl Tryz.ntmps133 (by kernel_rfl) (by decide) fun a r h => (A5u a).trans ((Bj3 a.1).trans h)
noncomputable def Q4 (o : List DPart) : Option (List DPart) :=
 Option.bind (E0 o) fun r3 => bif !r3 then (some []) else (Option.bind (Jr o) fun r9 => some r9)
noncomputable def con_impl_OpNorm : Con := ⟨104, [.val false (.sl (.b 4))], [⟨true, .sl (.b 4), false⟩], fun a => Q4 a.1⟩
noncomputable def Ak8 : Ctx := ⟨8, [con_impl_OpOk, con_impl_normal], [], false, false⟩
theorem A41 (a : PArgs con_impl_OpNorm.ps) : Ah Ak8 Tryz.f104.results.toList (Ab Tryz.f104) con_impl_OpNorm.ps con_impl_OpNorm.rs a = con_impl_OpNorm.x a := by kernel_rfl
theorem Apz {amb : List Rd} : Holds amb con_impl_OpNorm := Ai (C := Ak8) (c := Ab Tryz.f104) (Aa Ns ( Aa Ap6 (Aj))) Tryz.func104 rfl Tryz.ntmps104 (by kernel_rfl) (by decide) fun a r h => (A41 a).trans (h)
noncomputable def Ag4 (s2_ : List Int) (_s1_ : List Int) (k11 : Nat) (x52 : Int) : Option (Lr Unit (Sum Unit Unit)) :=
 xg (0 <= (k11 : Int) /\ (k11 : Int) < (s2_.length : Int)) <| bif !decide (x52 = (el s2_ k11)) then (some (Lr.out (Sum.inr (())))) else (some (Lr.go ()))
noncomputable def Ag5 (s2_ : List Int) (s1_ : List Int) (k11 : Nat) (_s53 : Unit) : Option (Lr Unit (Sum Unit Unit)) := Ag4 s2_ s1_ k11 (el s1_ k11)
noncomputable def M1 (s1_ : List Int) (s2_ : List Int) : Option Bool :=
 bif !decide ((s1_.length : Int) = (s2_.length : Int)) then (some false) else (Option.bind (Aq (Ag5 s2_ s1_) (fun (_s53 : Unit) => (Sum.inl () : Sum Unit Unit)) s1_.length 0 ()) fun (y54 : Sum Unit Unit) => Sum.elim (fun _y55 => some true) (fun _y56 => some false) y54)
noncomputable def con_slices_Equal_int_int : Con := ⟨33, [.val false (.sl (.b 0)), .val false (.sl (.b 0))], [⟨true, .b 1, false⟩], fun a => M1 a.1 a.2.1⟩
noncomputable def Amg : Ctx := ⟨26, [], [⟨0, some (13, 12), true, []⟩], false, false⟩
noncomputable def Aya (s2_ : List Int) (_s1_ : List Int) (k68 : Nat) (x109 : Int) : Option (Lr Unit (Sum Unit Bool)) :=
 xg (0 <= (k68 : Int) /\ (k68 : Int) < (s2_.length : Int)) <| bif !decide (x109 = (el s2_ k68)) then (some (Lr.out (Sum.inr false))) else (some (Lr.go ()))
noncomputable def Ayb (s2_ : List Int) (s1_ : List Int) (k68 : Nat) (_s110 : Unit) : Option (Lr Unit (Sum Unit Bool)) := Aya s2_ s1_ k68 (el s1_ k68)
noncomputable def Ais (s1_ : List Int) (s2_ : List Int) : Option Bool :=
 bif !decide ((s1_.length : Int) = (s2_.length : Int)) then (some false) else (Option.bind (Aq (Ayb s2_ s1_) (fun (_s110 : Unit) => (Sum.inl () : Sum Unit Bool)) s1_.length 0 ()) fun (y111 : Sum Unit Bool) => Sum.elim (fun _y112 => some true) (fun y113 => some y113) y111)
theorem Bj8 (s1_ : List Int) (s2_ : List Int) : Ais s1_ s2_ = M1 s1_ s2_ := by
 simp only [Ag4, Ag5, M1, Aya, Ayb, Ais, Bt, B4, B6, B5, Ca, Cb, B7, B8]
theorem A59 (a : PArgs con_slices_Equal_int_int.ps) : Ah Amg Tryz.f33.results.toList (Ab Tryz.f33) con_slices_Equal_int_int.ps con_slices_Equal_int_int.rs a = Ais a.1 a.2.1 := by kernel_rfl
theorem Acb {amb : List Rd} : Holds amb con_slices_Equal_int_int := Ai (C := Amg) (c := Ab Tryz.f33) (Aj) Tryz.func33 rfl Tryz.ntmps33 (by kernel_rfl) (by decide) fun a r h => (A59 a).trans ((Bj8 a.1 a.2.1).trans h)
noncomputable def Ut (a : DPart) (b : DPart) : Option Bool :=
 Option.bind (bif decide (a.kind = b.kind) then (some (decide (a.n = b.n))) else (some false)) fun c16 => Option.bind (bif c16 then (Option.bind (M1 a.signs b.signs) fun r42 => some r42) else (some false)) fun c29 => some c29
noncomputable def con_impl_samePart : Con := ⟨125, [.val false (.b 4), .val false (.b 4)], [⟨true, .b 1, false⟩], fun a => Ut a.1 a.2.1⟩
noncomputable def Al9 : Ctx := ⟨24, [con_slices_Equal_int_int], [], false, false⟩
theorem A52 (a : PArgs con_impl_samePart.ps) : Ah Al9 Tryz.f125.results.toList (Ab Tryz.f125) con_impl_samePart.ps con_impl_samePart.rs a = con_impl_samePart.x a := by kernel_rfl
theorem A2y {amb : List Rd} : Holds amb con_impl_samePart := Ai (C := Al9) (c := Ab Tryz.f125) (Aa Acb (Aj)) Tryz.func125 rfl Tryz.ntmps125 (by kernel_rfl) (by decide) fun a r h => (A52 a).trans (h)
noncomputable def Ag2 (s2_ : List DPart) (_s1_ : List DPart) (k11 : Nat) (x90 : DPart) : Option (Lr Unit (Sum Unit Unit)) :=
 xg (0 <= (k11 : Int) /\ (k11 : Int) < (s2_.length : Int)) <| Option.bind (Ut x90 (el s2_ k11)) fun r82 => bif !r82 then (some (Lr.out (Sum.inr (())))) else (some (Lr.go ()))
noncomputable def Ag3 (s2_ : List DPart) (s1_ : List DPart) (k11 : Nat) (_s91 : Unit) : Option (Lr Unit (Sum Unit Unit)) := Ag2 s2_ s1_ k11 (el s1_ k11)
noncomputable def Uw (s1_ : List DPart) (s2_ : List DPart) : Option Bool :=
 bif !decide ((s1_.length : Int) = (s2_.length : Int)) then (some false) else (Option.bind (Aq (Ag3 s2_ s1_) (fun (_s91 : Unit) => (Sum.inl () : Sum Unit Unit)) s1_.length 0 ()) fun (y92 : Sum Unit Unit) => Sum.elim (fun _y93 => some true) (fun _y94 => some false) y92)
noncomputable def con_slices_EqualFunc_impl_Part_impl_Part_impl_Part_impl_Part : Con := ⟨124, [.val false (.sl (.b 4)), .val false (.sl (.b 4)), .fn 125 0], [⟨true, .b 1, false⟩], fun a => Uw a.1 a.2.1⟩
noncomputable def Amf : Ctx := ⟨32, [con_impl_samePart], [⟨0, some (17, 16), true, []⟩], false, false⟩
noncomputable def Ax8 (s2_ : List DPart) (_s1_ : List DPart) (k106 : Nat) (x185 : DPart) : Option (Lr Unit (Sum Unit Bool)) :=
 xg (0 <= (k106 : Int) /\ (k106 : Int) < (s2_.length : Int)) <| Option.bind (Ut x185 (el s2_ k106)) fun r177 => bif !r177 then (some (Lr.out (Sum.inr false))) else (some (Lr.go ()))
noncomputable def Ax9 (s2_ : List DPart) (s1_ : List DPart) (k106 : Nat) (_s186 : Unit) : Option (Lr Unit (Sum Unit Bool)) := Ax8 s2_ s1_ k106 (el s1_ k106)
noncomputable def Air (s1_ : List DPart) (s2_ : List DPart) : Option Bool :=
 bif !decide ((s1_.length : Int) = (s2_.length : Int)) then (some false) else (Option.bind (Aq (Ax9 s2_ s1_) (fun (_s186 : Unit) => (Sum.inl () : Sum Unit Bool)) s1_.length 0 ()) fun (y187 : Sum Unit Bool) => Sum.elim (fun _y188 => some true) (fun y189 => some y189) y187)
theorem Bj7 (s1_ : List DPart) (s2_ : List DPart) : Air s1_ s2_ = Uw s1_ s2_ := by
 simp only [Ag2, Ag3, Uw, Ax8, Ax9, Air, Bt, B4, B6, B3, B5, Ca, Cb, B7, B8]
theorem A58 (a : PArgs con_slices_EqualFunc_impl_Part_impl_Part_impl_Part_impl_Part.ps) : Ah Amf Tryz.f124.results.toList (Ab Tryz.f124) con_slices_EqualFunc_impl_Part_impl_Part_impl_Part_impl_Part.ps con_slices_EqualFunc_impl_Part_impl_Part_impl_Part_impl_Part.rs a = Air a.1 a.2.1 := by kernel_rfl
theorem A21 {amb : List Rd} : Holds amb con_slices_EqualFunc_impl_Part_impl_Part_impl_Part_impl_Part := Ai (C := Amf) (c := Ab Tryz.f124) (Aa A2y (Aj)) Tryz.func124 rfl Tryz.ntmps124 (by kernel_rfl) (by decide) fun a r h => (A58 a).trans ((Bj7 a.1 a.2.1).trans h)
noncomputable def Uk (a : List DPart) (b : List DPart) : Option Bool :=
 Option.bind (Uw a b) fun r4 => some r4
noncomputable def con_impl_OpSame : Con := ⟨92, [.val false (.sl (.b 4)), .val false (.sl (.b 4))], [⟨true, .b 1, false⟩], fun a => Uk a.1 a.2.1⟩
noncomputable def Ala : Ctx := ⟨8, [con_slices_EqualFunc_impl_Part_impl_Part_impl_Part_impl_Part], [], false, false⟩
theorem A43 (a : PArgs con_impl_OpSame.ps) : Ah Ala Tryz.f92.results.toList (Ab Tryz.f92) con_impl_OpSame.ps con_impl_OpSame.rs a = con_impl_OpSame.x a := by kernel_rfl
theorem Ap0 {amb : List Rd} : Holds amb con_impl_OpSame := Ai (C := Ala) (c := Ab Tryz.f92) (Aa A21 (Aj)) Tryz.func92 rfl Tryz.ntmps92 (by kernel_rfl) (by decide) fun a r h => (A43 a).trans (h)
noncomputable def Zx (o : List DPart) : Option Bool :=
 Option.bind (E0 o) fun r3 => Option.bind (bif r3 then (Option.bind (Q4 o) fun r21 => Option.bind (Uk o r21) fun r26 => some r26) else (some false)) fun c7 => some c7
noncomputable def con_impl_IsNorm : Con := ⟨69, [.val false (.sl (.b 4))], [⟨true, .b 1, false⟩], fun a => Zx a.1⟩
noncomputable def Ak4 : Ctx := ⟨11, [con_impl_OpNorm, con_impl_OpOk, con_impl_OpSame], [], false, false⟩
theorem A4x (a : PArgs con_impl_IsNorm.ps) : Ah Ak4 Tryz.f69.results.toList (Ab Tryz.f69) con_impl_IsNorm.ps con_impl_IsNorm.rs a = con_impl_IsNorm.x a := by kernel_rfl
theorem A2e {amb : List Rd} : Holds amb con_impl_IsNorm := Ai (C := Ak4) (c := Ab Tryz.f69) (Aa Apz ( Aa Ns ( Aa Ap0 (Aj)))) Tryz.func69 rfl Tryz.ntmps69 (by kernel_rfl) (by decide) fun a r h => (A4x a).trans (h)
noncomputable def Jo (e : DEntry) : Option Bool :=
 Option.bind (Cv e.client 1 8) fun r8 => Option.bind (bif r8 then (Option.bind (Cv e.seq 1 1000000000) fun r21 => some r21) else (some false)) fun c12 => Option.bind (bif c12 then (Option.bind (Zx e.o) fun r34 => some r34) else (some false)) fun c25 => some c25
noncomputable def con_impl_EntryOk : Con := ⟨36, [.val false (.b 5)], [⟨true, .b 1, false⟩], fun a => Jo a.1⟩
noncomputable def Ako : Ctx := ⟨16, [con_impl_IsNorm, con_impl_within], [], false, false⟩
theorem A4h (a : PArgs con_impl_EntryOk.ps) : Ah Ako Tryz.f36.results.toList (Ab Tryz.f36) con_impl_EntryOk.ps con_impl_EntryOk.rs a = con_impl_EntryOk.x a := by kernel_rfl
theorem Wv {amb : List Rd} : Holds amb con_impl_EntryOk := Ai (C := Ako) (c := Ab Tryz.f36) (Aa A2e ( Aa Hb (Aj))) Tryz.func36 rfl Tryz.ntmps36 (by kernel_rfl) (by decide) fun a r h => (A4h a).trans (h)
noncomputable def Awo (_list : List DEntry) (_k35 : Nat) (x93 : DEntry) (out36 : List (List DPart)) : Option (Lr (List (List DPart)) (List (List DPart))) :=
 Option.bind (Uq (x93.o)) fun r81 => xg (out36.length < 1099511627776) <| some (Lr.go (out36 ++ [r81]))
noncomputable def Agx (list : List DEntry) (k35 : Nat) (s94 : List (List DPart)) : Option (Lr (List (List DPart)) (List (List DPart))) := Awo list k35 (el list k35) s94
noncomputable def K8 (list : List DEntry) : Option (List (List DPart)) :=
 Option.bind (Aq (Agx list) (fun (s94 : List (List DPart)) => (s94 : List (List DPart))) list.length 0 []) fun (y95 : List (List DPart)) => some y95
noncomputable def con_impl_opsOf : Con := ⟨35, [.val false (.sl (.b 5))], [⟨true, .sl (.sl (.b 4)), false⟩], fun a => K8 a.1⟩
noncomputable def Al3 : Ctx := ⟨20, [con_impl_copyOp], [⟨0, some (8, 7), false, [.slot 3 (.row (.sl (.b 4)))]⟩], false, false⟩
theorem A5w (a : PArgs con_impl_opsOf.ps) : Ah Al3 Tryz.f35.results.toList (Ab Tryz.f35) con_impl_opsOf.ps con_impl_opsOf.rs a = con_impl_opsOf.x a := by kernel_rfl
theorem Wz {amb : List Rd} : Holds amb con_impl_opsOf := Ai (C := Al3) (c := Ab Tryz.f35) (Aa Ap5 (Aj)) Tryz.func35 rfl Tryz.ntmps35 (by kernel_rfl) (by decide) fun a r h => (A5w a).trans (h)
noncomputable def Agc (t : List Int) (_o : List DPart) (_k109 : Nat) (x232 : DPart) (out110 : List Int) (at111 : Int) : Option (Lr (List Int × Int) (List Int)) :=
 bif decide ((x232.kind) = 1) then (xg (Ac (at111 + (x232.n))) <| xg (0 <= at111 /\ at111 <= (at111 + (x232.n)) /\ (at111 + (x232.n)) <= (t.length : Int)) <| xg (out110.length + ((t.take ((at111 + (x232.n)).toNat)).drop at111.toNat).length <= 1099511627776) <| xg (Ac (at111 + (x232.n))) <| some (Lr.go (out110 ++ ((t.take ((at111 + (x232.n)).toNat)).drop at111.toNat), at111 + (x232.n)))) else (bif decide ((x232.kind) = 3) then (xg (Ac (at111 + (x232.n))) <| some (Lr.go (out110, at111 + (x232.n)))) else (xg (out110.length + (x232.signs).length <= 1099511627776) <| some (Lr.go (out110 ++ (x232.signs), at111))))
noncomputable def Uc (t : List Int) (o : List DPart) (k109 : Nat) (s233 : List Int × Int) : Option (Lr (List Int × Int) (List Int)) := Agc t o k109 (el o k109) s233.1 s233.2
noncomputable def Jm (o : List DPart) (t : List Int) : Option (List Int × Bool) :=
 Option.bind (E0 o) fun r4 => Option.bind (bif !r4 then (some true) else (Option.bind (It t) fun r17 => some (!r17))) fun c9 => Option.bind (bif c9 then (some true) else (Option.bind (Iq o) fun r32 => some (!decide (r32 = (t.length : Int))))) fun c22 => bif c22 then (some ([], false)) else (Option.bind (Aq (Uc t o) (fun (s233 : List Int × Int) => (s233.1 : List Int)) o.length 0 ([], 0)) fun (y234 : List Int) => some (y234, true))
noncomputable def con_impl_Apply : Con := ⟨67, [.val false (.sl (.b 4)), .val false (.sl (.b 0))], [⟨true, .sl (.b 0), false⟩, ⟨true, .b 1, false⟩], fun a => Jm a.1 a.2.1⟩
noncomputable def Akg : Ctx := ⟨60, [con_impl_OpFrom, con_impl_OpOk, con_impl_TextOk], [⟨0, some (27, 26), false, [.slot 6 (.row (.b 0)), .slot 7 (.sc 0)]⟩], false, false⟩
noncomputable def Axa (t : List Int) (_o : List DPart) (_k285 : Nat) (x408 : DPart) (out286 : List Int) (at287 : Int) : Option (Lr (List Int × Int) (List Int × Int)) :=
 bif decide ((x408.kind) = 1) then (xg (Ac (at287 + (x408.n))) <| xg (0 <= at287 /\ at287 <= (at287 + (x408.n)) /\ (at287 + (x408.n)) <= (t.length : Int)) <| xg (out286.length + ((t.take ((at287 + (x408.n)).toNat)).drop at287.toNat).length <= 1099511627776) <| xg (Ac (at287 + (x408.n))) <| some (Lr.go (out286 ++ ((t.take ((at287 + (x408.n)).toNat)).drop at287.toNat), at287 + (x408.n)))) else (bif decide ((x408.kind) = 3) then (xg (Ac (at287 + (x408.n))) <| some (Lr.go (out286, at287 + (x408.n)))) else (xg (out286.length + (x408.signs).length <= 1099511627776) <| some (Lr.go (out286 ++ (x408.signs), at287))))
noncomputable def Axb (t : List Int) (o : List DPart) (k285 : Nat) (s409 : List Int × Int) : Option (Lr (List Int × Int) (List Int × Int)) := Axa t o k285 (el o k285) s409.1 s409.2
noncomputable def Aic (o : List DPart) (t : List Int) : Option (List Int × Bool) :=
 Option.bind (E0 o) fun r243 => Option.bind (bif !r243 then (some true) else (Option.bind (It t) fun r256 => some (!r256))) fun c248 => Option.bind (bif c248 then (some true) else (Option.bind (Iq o) fun r271 => some (!decide (r271 = (t.length : Int))))) fun c261 => bif c261 then (some ([], false)) else (Option.bind (Aq (Axb t o) (fun (s409 : List Int × Int) => ((s409.1, s409.2) : List Int × Int)) o.length 0 ([], 0)) fun (y410 : List Int × Int) => some (y410.1, true))
theorem Bjs (o : List DPart) (t : List Int) : Aic o t = Jm o t := by
 simp only [Agc, Uc, Jm, Axa, Axb, Aic, Bt, B4, B6, B3, B5, cond_true, Ca]
theorem A39 (a : PArgs con_impl_Apply.ps) : Ah Akg Tryz.f67.results.toList (Ab Tryz.f67) con_impl_Apply.ps con_impl_Apply.rs a = Aic a.1 a.2.1 := by kernel_rfl
theorem Apv {amb : List Rd} : Holds amb con_impl_Apply := Ai (C := Akg) (c := Ab Tryz.f67) (Aa Ww ( Aa Ns ( Aa Sk (Aj)))) Tryz.func67 rfl Tryz.ntmps67 (by kernel_rfl) (by decide) fun a r h => (A39 a).trans ((Bjs a.1 a.2.1).trans h)
noncomputable def Agb (_l : List (List DPart)) (_k20 : Nat) (x78 : List DPart) (out21 : List Int) : Option (Lr (List Int) (Sum (List Int) Unit)) :=
 Option.bind (Jm x78 out21) fun r60 => bif !r60.2 then (some (Lr.out (Sum.inr (())))) else (some (Lr.go r60.1))
noncomputable def Zo (l : List (List DPart)) (k20 : Nat) (s79 : List Int) : Option (Lr (List Int) (Sum (List Int) Unit)) := Agb l k20 (el l k20) s79
noncomputable def Jn (l : List (List DPart)) (t : List Int) : Option (List Int × Bool) :=
 Option.bind (It t) fun r4 => bif !r4 then (some ([], false)) else (Option.bind (Mz t) fun r11 => Option.bind (Aq (Zo l) (fun (s79 : List Int) => (Sum.inl s79 : Sum (List Int) Unit)) l.length 0 r11) fun (y80 : Sum (List Int) Unit) => Sum.elim (fun y81 => some (y81, true)) (fun _y82 => some ([], false)) y80)
noncomputable def con_impl_ApplyAll : Con := ⟨34, [.val false (.sl (.sl (.b 4))), .val false (.sl (.b 0))], [⟨true, .sl (.b 0), false⟩, ⟨true, .b 1, false⟩], fun a => Jn a.1 a.2.1⟩
noncomputable def Akh : Ctx := ⟨33, [con_impl_Apply, con_impl_TextOk, con_impl_copyInts], [⟨0, some (18, 17), true, [.slot 6 (.row (.b 0))]⟩], false, false⟩
noncomputable def Aw8 (_l : List (List DPart)) (_k107 : Nat) (x165 : List DPart) (out108 : List Int) : Option (Lr (List Int) (Sum (List Int) (List Int × Bool))) :=
 Option.bind (Jm x165 out108) fun r147 => bif !r147.2 then (some (Lr.out (Sum.inr ([], false)))) else (some (Lr.go r147.1))
noncomputable def Aw9 (l : List (List DPart)) (k107 : Nat) (s166 : List Int) : Option (Lr (List Int) (Sum (List Int) (List Int × Bool))) := Aw8 l k107 (el l k107) s166
noncomputable def Aid (l : List (List DPart)) (t : List Int) : Option (List Int × Bool) :=
 Option.bind (It t) fun r91 => bif !r91 then (some ([], false)) else (Option.bind (Mz t) fun r98 => Option.bind (Aq (Aw9 l) (fun (s166 : List Int) => (Sum.inl s166 : Sum (List Int) (List Int × Bool))) l.length 0 r98) fun (y167 : Sum (List Int) (List Int × Bool)) => Sum.elim (fun y168 => some (y168, true)) (fun y169 => some y169) y167)
theorem Bjt (l : List (List DPart)) (t : List Int) : Aid l t = Jn l t := by
 simp only [Agb, Zo, Jn, Aw8, Aw9, Aid, Bt, B4, B3, B5, Ca, Cb, B7, B8]
theorem A4a (a : PArgs con_impl_ApplyAll.ps) : Ah Akh Tryz.f34.results.toList (Ab Tryz.f34) con_impl_ApplyAll.ps con_impl_ApplyAll.rs a = Aid a.1 a.2.1 := by kernel_rfl
theorem Ab6 {amb : List Rd} : Holds amb con_impl_ApplyAll := Ai (C := Akh) (c := Ab Tryz.f34) (Aa Apv ( Aa Sk ( Aa Wy (Aj)))) Tryz.func34 rfl Tryz.ntmps34 (by kernel_rfl) (by decide) fun a r h => (A4a a).trans ((Bjt a.1 a.2.1).trans h)
noncomputable def Dn (d : DDoc) : Option Int :=
 xg (Ac (d.from_ + (d.list.length : Int))) <| some (d.from_ + (d.list.length : Int))
noncomputable def con_impl_HeadRev : Con := ⟨11, [.val false (.b 7)], [⟨true, .b 0, false⟩], fun a => Dn a.1⟩
noncomputable def Akr : Ctx := ⟨9, [], [], false, false⟩
theorem A4k (a : PArgs con_impl_HeadRev.ps) : Ah Akr Tryz.f11.results.toList (Ab Tryz.f11) con_impl_HeadRev.ps con_impl_HeadRev.rs a = con_impl_HeadRev.x a := by kernel_rfl
theorem Hu {amb : List Rd} : Holds amb con_impl_HeadRev := Ai (C := Akr) (c := Ab Tryz.f11) (Aj) Tryz.func11 rfl Tryz.ntmps11 (by kernel_rfl) (by decide) fun a r h => (A4k a).trans (h)
noncomputable def Age (_d : DDoc) (_k58 : Nat) (x99 : DEntry) : Option (Lr Unit (Sum Unit Unit)) :=
 Option.bind (Jo x99) fun r92 => bif !r92 then (some (Lr.out (Sum.inr (())))) else (some (Lr.go ()))
noncomputable def Agg (d : DDoc) (k58 : Nat) (_s100 : Unit) : Option (Lr Unit (Sum Unit Unit)) := Age d k58 (el d.list k58)
noncomputable def Agf (d : DDoc) (k137 : Nat) (x390 : DSeen) : Option (Lr Unit (Sum Unit Bool)) :=
 Option.bind (Cv (x390.client) 1 8) fun r278 => Option.bind (bif !r278 then (some true) else (Option.bind (bif decide ((0 : Int) < (k137 : Int)) then (xg (Ac ((k137 : Int) - 1)) <| xg (0 <= ((k137 : Int) - 1) /\ ((k137 : Int) - 1) < (d.seen.length : Int)) <| some (decide ((x390.client) <= ((el d.seen (((k137 : Int) - 1).toNat)).client)))) else (some false)) fun c319 => some c319)) fun c283 => Option.bind (bif c283 then (some true) else (Option.bind (Cv (x390.seq) 1 1000000000) fun r358 => some (!r358))) fun c348 => Option.bind (bif c348 then (some true) else (Option.bind (Dn d) fun r378 => Option.bind (Cv (x390.rev) 1 r378) fun r381 => some (!r381))) fun c363 => bif c363 then (some (Lr.out (Sum.inr (false)))) else (some (Lr.go ()))
noncomputable def Ue (d : DDoc) (k137 : Nat) (_s391 : Unit) : Option (Lr Unit (Sum Unit Bool)) := Agf d k137 (el d.seen k137)
noncomputable def Hk (d : DDoc) : Option Bool :=
 Option.bind (Gj d.name) fun r8 => Option.bind (bif !r8 then (some true) else (Option.bind (Cv d.from_ 0 999999000) fun r23 => some (!r23))) fun c13 => Option.bind (bif c13 then (some true) else (Option.bind (It d.text) fun r38 => some (!r38))) fun c28 => Option.bind (bif c28 then (some true) else (some (decide ((8 : Int) < (d.list.length : Int))))) fun c43 => bif c43 then (some false) else (Option.bind (Aq (Agg d) (fun (_s100 : Unit) => (Sum.inl () : Sum Unit Unit)) d.list.length 0 ()) fun (y101 : Sum Unit Unit) => Sum.elim (fun _y102 => Option.bind (K8 d.list) fun r108 => Option.bind (Jn r108 d.text) fun r116 => bif !r116.2 then (some false) else (Option.bind (Aq (Ue d) (fun (_s391 : Unit) => (Sum.inl () : Sum Unit Bool)) d.seen.length 0 ()) fun (y392 : Sum Unit Bool) => Sum.elim (fun _y393 => some true) (fun y394 => some y394) y392)) (fun _y103 => some false) y101)
noncomputable def con_impl_DocOk : Con := ⟨22, [.val false (.b 7)], [⟨true, .b 1, false⟩], fun a => Hk a.1⟩
noncomputable def Akn : Ctx := ⟨96, [con_impl_ApplyAll, con_impl_EntryOk, con_impl_HeadRev, con_impl_NameOk, con_impl_TextOk, con_impl_opsOf, con_impl_within], [⟨0, some (34, 33), true, []⟩, ⟨2, some (56, 55), true, []⟩], false, false⟩
noncomputable def Axc (_d : DDoc) (_k453 : Nat) (x494 : DEntry) : Option (Lr Unit (Sum Unit Bool)) :=
 Option.bind (Jo x494) fun r487 => bif !r487 then (some (Lr.out (Sum.inr false))) else (some (Lr.go ()))
noncomputable def Axe (d : DDoc) (k453 : Nat) (_s495 : Unit) : Option (Lr Unit (Sum Unit Bool)) := Axc d k453 (el d.list k453)
noncomputable def Axd (d : DDoc) (k532 : Nat) (x785 : DSeen) : Option (Lr Unit (Sum Unit Bool)) :=
 Option.bind (Cv (x785.client) 1 8) fun r673 => Option.bind (bif !r673 then (some true) else (Option.bind (bif decide ((0 : Int) < (k532 : Int)) then (xg (Ac ((k532 : Int) - 1)) <| xg (0 <= ((k532 : Int) - 1) /\ ((k532 : Int) - 1) < (d.seen.length : Int)) <| some (decide ((x785.client) <= ((el d.seen (((k532 : Int) - 1).toNat)).client)))) else (some false)) fun c714 => some c714)) fun c678 => Option.bind (bif c678 then (some true) else (Option.bind (Cv (x785.seq) 1 1000000000) fun r753 => some (!r753))) fun c743 => Option.bind (bif c743 then (some true) else (Option.bind (Dn d) fun r773 => Option.bind (Cv (x785.rev) 1 r773) fun r776 => some (!r776))) fun c758 => bif c758 then (some (Lr.out (Sum.inr false))) else (some (Lr.go ()))
noncomputable def Axf (d : DDoc) (k532 : Nat) (_s786 : Unit) : Option (Lr Unit (Sum Unit Bool)) := Axd d k532 (el d.seen k532)
noncomputable def Aie (d : DDoc) : Option Bool :=
 Option.bind (Gj d.name) fun r403 => Option.bind (bif !r403 then (some true) else (Option.bind (Cv d.from_ 0 999999000) fun r418 => some (!r418))) fun c408 => Option.bind (bif c408 then (some true) else (Option.bind (It d.text) fun r433 => some (!r433))) fun c423 => Option.bind (bif c423 then (some true) else (some (decide ((8 : Int) < (d.list.length : Int))))) fun c438 => bif c438 then (some false) else (Option.bind (Aq (Axe d) (fun (_s495 : Unit) => (Sum.inl () : Sum Unit Bool)) d.list.length 0 ()) fun (y496 : Sum Unit Bool) => Sum.elim (fun _y497 => Option.bind (K8 d.list) fun r503 => Option.bind (Jn r503 d.text) fun r511 => bif !r511.2 then (some false) else (Option.bind (Aq (Axf d) (fun (_s786 : Unit) => (Sum.inl () : Sum Unit Bool)) d.seen.length 0 ()) fun (y787 : Sum Unit Bool) => Sum.elim (fun _y788 => some true) (fun y789 => some y789) y787)) (fun y498 => some y498) y496)
theorem Bju (d : DDoc) : Aie d = Hk d := by
 simp only [Age, Agg, Agf, Ue, Hk, Axc, Axe, Axd, Axf, Aie, Bt, B4, B6, B3, B5, cond_true, cond_false, Ca, Cb, B7, B8]
theorem A4g (a : PArgs con_impl_DocOk.ps) : Ah Akn Tryz.f22.results.toList (Ab Tryz.f22) con_impl_DocOk.ps con_impl_DocOk.rs a = Aie a.1 := by kernel_rfl
theorem Nr {amb : List Rd} : Holds amb con_impl_DocOk := Ai (C := Akn) (c := Ab Tryz.f22) (Aa Ab6 ( Aa Wv ( Aa Hu ( Aa Apy ( Aa Sk ( Aa Wz ( Aa Hb (Aj)))))))) Tryz.func22 rfl Tryz.ntmps22 (by kernel_rfl) (by decide) fun a r h => (A4g a).trans ((Bju a.1).trans h)
noncomputable def Zt (d : DDoc) (p : ByteArray) : Option (Bool × ByteArray) :=
 some (decide (d.name = p), p)
noncomputable def con_impl_HubDoc_1 : Con := ⟨53, [.val false (.b 7), .box .ow (.b 2)], [⟨true, .b 1, false⟩], fun a => Zt a.1 a.2.1⟩
noncomputable def Aku : Ctx := ⟨8, [], [], false, false⟩
theorem A4n (a : PArgs con_impl_HubDoc_1.ps) : Ah Aku Tryz.f53.results.toList (Ab Tryz.f53) con_impl_HubDoc_1.ps con_impl_HubDoc_1.rs a = con_impl_HubDoc_1.x a := by kernel_rfl
theorem A16 {amb : List Rd} : Holds amb con_impl_HubDoc_1 := Ai (C := Aku) (c := Ab Tryz.f53) (Aj) Tryz.func53 rfl Tryz.ntmps53 (by kernel_rfl) (by decide) fun a r h => (A4n a).trans (h)
noncomputable def Ag6 (_s : List DDoc) (k29 : Nat) (x75 : DDoc) (l30 : ByteArray) : Option (Lr ByteArray (Sum ByteArray (Int × ByteArray))) :=
 Option.bind (Zt x75 l30) fun r68 => bif r68.1 then (some (Lr.out (Sum.inr (((k29 : Int), r68.2))))) else (some (Lr.go r68.2))
noncomputable def Ag7 (s : List DDoc) (k29 : Nat) (s76 : ByteArray) : Option (Lr ByteArray (Sum ByteArray (Int × ByteArray))) := Ag6 s k29 (el s k29) s76
noncomputable def Ux (s : List DDoc) (c : ByteArray) : Option (Int × ByteArray) :=
 Option.bind (Aq (Ag7 s) (fun (s76 : ByteArray) => (Sum.inl s76 : Sum ByteArray (Int × ByteArray))) s.length 0 c) fun (y77 : Sum ByteArray (Int × ByteArray)) => Sum.elim (fun y78 => some (-1, y78)) (fun y79 => some (y79.1, y79.2)) y77
noncomputable def con_slices_IndexFunc_impl_Doc_impl_Doc : Con := ⟨52, [.val false (.sl (.b 7)), .fn 53 1, .cap .ow (.b 2)], [⟨true, .b 0, false⟩], fun a => Ux a.1 a.2.1⟩
noncomputable def Amh : Ctx := ⟨19, [con_impl_HubDoc_1], [⟨0, some (8, 7), true, [.box 1 1 [.sc 2]]⟩], false, false⟩
noncomputable def Ayc (_s : List DDoc) (k85 : Nat) (x131 : DDoc) (l86 : ByteArray) : Option (Lr ByteArray (Sum ByteArray (Int × ByteArray))) :=
 Option.bind (Zt x131 l86) fun r124 => bif r124.1 then (some (Lr.out (Sum.inr ((k85 : Int), r124.2)))) else (some (Lr.go r124.2))
noncomputable def Ayd (s : List DDoc) (k85 : Nat) (s132 : ByteArray) : Option (Lr ByteArray (Sum ByteArray (Int × ByteArray))) := Ayc s k85 (el s k85) s132
noncomputable def Ait (s : List DDoc) (c : ByteArray) : Option (Int × ByteArray) :=
 Option.bind (Aq (Ayd s) (fun (s132 : ByteArray) => (Sum.inl s132 : Sum ByteArray (Int × ByteArray))) s.length 0 c) fun (y133 : Sum ByteArray (Int × ByteArray)) => Sum.elim (fun y134 => some (-1, y134)) (fun y135 => some y135) y133
theorem Bj9 (s : List DDoc) (c : ByteArray) : Ait s c = Ux s c := by
 simp only [Ag6, Ag7, Ux, Ayc, Ayd, Ait, Bt, B4, B3, B5, Ca, Cb, B7, B8]
theorem A6a (a : PArgs con_slices_IndexFunc_impl_Doc_impl_Doc.ps) : Ah Amh Tryz.f52.results.toList (Ab Tryz.f52) con_slices_IndexFunc_impl_Doc_impl_Doc.ps con_slices_IndexFunc_impl_Doc_impl_Doc.rs a = Ait a.1 a.2.1 := by kernel_rfl
theorem A22 {amb : List Rd} : Holds amb con_slices_IndexFunc_impl_Doc_impl_Doc := Ai (C := Amh) (c := Ab Tryz.f52) (Aa A16 (Aj)) Tryz.func52 rfl Tryz.ntmps52 (by kernel_rfl) (by decide) fun a r h => (A6a a).trans ((Bj9 a.1 a.2.1).trans h)
noncomputable def Jp (h : DHub) (name : ByteArray) : Option Int :=
 Option.bind (Ux h.docs name) fun r13 => some r13.1
noncomputable def con_impl_HubDoc : Con := ⟨23, [.val false (.b 10), .val false (.b 2)], [⟨true, .b 0, false⟩], fun a => Jp a.1 a.2.1⟩
noncomputable def Akt : Ctx := ⟨9, [con_slices_IndexFunc_impl_Doc_impl_Doc], [], false, false⟩
theorem A4m (a : PArgs con_impl_HubDoc.ps) : Ah Akt Tryz.f23.results.toList (Ab Tryz.f23) con_impl_HubDoc.ps con_impl_HubDoc.rs a = con_impl_HubDoc.x a := by kernel_rfl
theorem P2 {amb : List Rd} : Holds amb con_impl_HubDoc := Ai (C := Akt) (c := Ab Tryz.f23) (Aa A22 (Aj)) Tryz.func23 rfl Tryz.ntmps23 (by kernel_rfl) (by decide) fun a r h => (A4m a).trans (h)
noncomputable def Ago (_r_ : DRing) (_k76 : Nat) (x117 : DEntry) : Option (Lr Unit (Sum Unit Unit)) :=
 Option.bind (Jo x117) fun r110 => bif !r110 then (some (Lr.out (Sum.inr (())))) else (some (Lr.go ()))
noncomputable def Agp (r_ : DRing) (k76 : Nat) (_s118 : Unit) : Option (Lr Unit (Sum Unit Unit)) := Ago r_ k76 (el r_.list k76)
noncomputable def Ir (r_ : DRing) : Option Bool :=
 Option.bind (Cv r_.cap 1 6) fun r8 => Option.bind (bif !r8 then (some true) else (Option.bind (Cv r_.next 1 1000000000) fun r23 => some (!r23))) fun c13 => Option.bind (bif c13 then (some true) else (some (decide (r_.cap < (r_.list.length : Int))))) fun c28 => Option.bind (bif c28 then (some true) else (Option.bind (bif r_.out then (some (decide ((0 : Int) < (r_.list.length : Int)))) else (some false)) fun c61 => some c61)) fun c43 => bif c43 then (some false) else (Option.bind (Aq (Agp r_) (fun (_s118 : Unit) => (Sum.inl () : Sum Unit Unit)) r_.list.length 0 ()) fun (y119 : Sum Unit Unit) => Sum.elim (fun _y120 => some true) (fun _y121 => some false) y119)
noncomputable def con_impl_RingOk : Con := ⟨24, [.val false (.b 8)], [⟨true, .b 1, false⟩], fun a => Ir a.1⟩
noncomputable def Alh : Ctx := ⟨44, [con_impl_EntryOk, con_impl_within], [⟨0, some (36, 35), true, []⟩], false, false⟩
noncomputable def Axo (_r_ : DRing) (_k198 : Nat) (x239 : DEntry) : Option (Lr Unit (Sum Unit Bool)) :=
 Option.bind (Jo x239) fun r232 => bif !r232 then (some (Lr.out (Sum.inr false))) else (some (Lr.go ()))
noncomputable def Axp (r_ : DRing) (k198 : Nat) (_s240 : Unit) : Option (Lr Unit (Sum Unit Bool)) := Axo r_ k198 (el r_.list k198)
noncomputable def Aii (r_ : DRing) : Option Bool :=
 Option.bind (Cv r_.cap 1 6) fun r130 => Option.bind (bif !r130 then (some true) else (Option.bind (Cv r_.next 1 1000000000) fun r145 => some (!r145))) fun c135 => Option.bind (bif c135 then (some true) else (some (decide (r_.cap < (r_.list.length : Int))))) fun c150 => Option.bind (bif c150 then (some true) else (Option.bind (bif r_.out then (some (decide ((0 : Int) < (r_.list.length : Int)))) else (some false)) fun c183 => some c183)) fun c165 => bif c165 then (some false) else (Option.bind (Aq (Axp r_) (fun (_s240 : Unit) => (Sum.inl () : Sum Unit Bool)) r_.list.length 0 ()) fun (y241 : Sum Unit Bool) => Sum.elim (fun _y242 => some true) (fun y243 => some y243) y241)
theorem Bjy (r_ : DRing) : Aii r_ = Ir r_ := by
 simp only [Ago, Agp, Ir, Axo, Axp, Aii, Bt, B4, B3, B5, cond_true, cond_false, Ca, Cb, B7, B8]
theorem A5a (a : PArgs con_impl_RingOk.ps) : Ah Alh Tryz.f24.results.toList (Ab Tryz.f24) con_impl_RingOk.ps con_impl_RingOk.rs a = Aii a.1 := by kernel_rfl
theorem Sj {amb : List Rd} : Holds amb con_impl_RingOk := Ai (C := Alh) (c := Ab Tryz.f24) (Aa Wv ( Aa Hb (Aj))) Tryz.func24 rfl Tryz.ntmps24 (by kernel_rfl) (by decide) fun a r h => (A5a a).trans ((Bjy a.1).trans h)
noncomputable def Agj (h : DHub) (k41 : Nat) (x228 : DDoc) : Option (Lr Unit (Sum Unit Unit)) :=
 Option.bind (Hk x228) fun r154 => Option.bind (bif !r154 then (some true) else (Option.bind (bif decide ((0 : Int) < (k41 : Int)) then (xg (Ac ((k41 : Int) - 1)) <| xg (0 <= ((k41 : Int) - 1) /\ ((k41 : Int) - 1) < (h.docs.length : Int)) <| some (!De ((el h.docs (((k41 : Int) - 1).toNat)).name) (x228.name))) else (some false)) fun c195 => some c195)) fun c159 => bif c159 then (some (Lr.out (Sum.inr (())))) else (some (Lr.go ()))
noncomputable def Agl (h : DHub) (k41 : Nat) (_s229 : Unit) : Option (Lr Unit (Sum Unit Unit)) := Agj h k41 (el h.docs k41)
noncomputable def Agk (h : DHub) (k237 : Nat) (x612 : DSub) : Option (Lr Unit (Sum Unit Bool)) :=
 Option.bind (Jp h (x612.doc)) fun r442 => Option.bind (Cv (x612.id) 1 h.last) fun r450 => Option.bind (bif !r450 then (some true) else (Option.bind (bif decide ((0 : Int) < (k237 : Int)) then (xg (Ac ((k237 : Int) - 1)) <| xg (0 <= ((k237 : Int) - 1) /\ ((k237 : Int) - 1) < (h.subs.length : Int)) <| some (decide ((x612.id) <= ((el h.subs (((k237 : Int) - 1).toNat)).id)))) else (some false)) fun c491 => some c491)) fun c455 => Option.bind (bif c455 then (some true) else (Option.bind (Ir (x612.r)) fun r530 => some (!r530))) fun c520 => Option.bind (bif c520 then (some true) else (some (decide (r442 < 0)))) fun c535 => bif c535 then (some (Lr.out (Sum.inr (false)))) else (Option.bind (bif !(x612.r.out) then (xg (Ac ((x612.r.next) + ((x612.r.list).length : Int))) <| xg (0 <= r442 /\ r442 < (h.docs.length : Int)) <| Option.bind (Dn (el h.docs r442.toNat)) fun r601 => xg (Ac (r601 + 1)) <| some (!decide (((x612.r.next) + ((x612.r.list).length : Int)) = (r601 + 1)))) else (some false)) fun c549 => bif c549 then (some (Lr.out (Sum.inr (false)))) else (some (Lr.go ())))
noncomputable def Agm (h : DHub) (k237 : Nat) (_s613 : Unit) : Option (Lr Unit (Sum Unit Bool)) := Agk h k237 (el h.subs k237)
noncomputable def Gi (h : DHub) : Option Bool :=
 Option.bind (bif decide ((5 : Int) < (h.docs.length : Int)) then (some true) else (some (decide ((6 : Int) < (h.subs.length : Int))))) fun c11 => Option.bind (bif c11 then (some true) else (Option.bind (Cv h.last 0 1000000000) fun r32 => some (!r32))) fun c22 => bif c22 then (some false) else (Option.bind (Aq (Agl h) (fun (_s229 : Unit) => (Sum.inl () : Sum Unit Unit)) h.docs.length 0 ()) fun (y230 : Sum Unit Unit) => Sum.elim (fun _y231 => Option.bind (Aq (Agm h) (fun (_s613 : Unit) => (Sum.inl () : Sum Unit Bool)) h.subs.length 0 ()) fun (y614 : Sum Unit Bool) => Sum.elim (fun _y615 => some true) (fun y616 => some y616) y614) (fun _y232 => some false) y230)
noncomputable def con_impl_HubOk : Con := ⟨7, [.val false (.b 10)], [⟨true, .b 1, false⟩], fun a => Gi a.1⟩
noncomputable def Akv : Ctx := ⟨119, [con_impl_DocOk, con_impl_HeadRev, con_impl_HubDoc, con_impl_RingOk, con_impl_within], [⟨0, some (27, 26), true, []⟩, ⟨2, some (55, 54), true, []⟩], false, false⟩
noncomputable def Axi (h : DHub) (k658 : Nat) (x845 : DDoc) : Option (Lr Unit (Sum Unit Bool)) :=
 Option.bind (Hk x845) fun r771 => Option.bind (bif !r771 then (some true) else (Option.bind (bif decide ((0 : Int) < (k658 : Int)) then (xg (Ac ((k658 : Int) - 1)) <| xg (0 <= ((k658 : Int) - 1) /\ ((k658 : Int) - 1) < (h.docs.length : Int)) <| some (!De ((el h.docs (((k658 : Int) - 1).toNat)).name) (x845.name))) else (some false)) fun c812 => some c812)) fun c776 => bif c776 then (some (Lr.out (Sum.inr false))) else (some (Lr.go ()))
noncomputable def Axk (h : DHub) (k658 : Nat) (_s846 : Unit) : Option (Lr Unit (Sum Unit Bool)) := Axi h k658 (el h.docs k658)
noncomputable def Axj (h : DHub) (k854 : Nat) (x1229 : DSub) : Option (Lr Unit (Sum Unit Bool)) :=
 Option.bind (Jp h (x1229.doc)) fun r1059 => Option.bind (Cv (x1229.id) 1 h.last) fun r1067 => Option.bind (bif !r1067 then (some true) else (Option.bind (bif decide ((0 : Int) < (k854 : Int)) then (xg (Ac ((k854 : Int) - 1)) <| xg (0 <= ((k854 : Int) - 1) /\ ((k854 : Int) - 1) < (h.subs.length : Int)) <| some (decide ((x1229.id) <= ((el h.subs (((k854 : Int) - 1).toNat)).id)))) else (some false)) fun c1108 => some c1108)) fun c1072 => Option.bind (bif c1072 then (some true) else (Option.bind (Ir (x1229.r)) fun r1147 => some (!r1147))) fun c1137 => Option.bind (bif c1137 then (some true) else (some (decide (r1059 < 0)))) fun c1152 => bif c1152 then (some (Lr.out (Sum.inr false))) else (Option.bind (bif !(x1229.r.out) then (xg (Ac ((x1229.r.next) + ((x1229.r.list).length : Int))) <| xg (0 <= r1059 /\ r1059 < (h.docs.length : Int)) <| Option.bind (Dn (el h.docs r1059.toNat)) fun r1218 => xg (Ac (r1218 + 1)) <| some (!decide (((x1229.r.next) + ((x1229.r.list).length : Int)) = (r1218 + 1)))) else (some false)) fun c1166 => bif c1166 then (some (Lr.out (Sum.inr false))) else (some (Lr.go ())))
noncomputable def Axl (h : DHub) (k854 : Nat) (_s1230 : Unit) : Option (Lr Unit (Sum Unit Bool)) := Axj h k854 (el h.subs k854)
noncomputable def Aig (h : DHub) : Option Bool :=
 Option.bind (bif decide ((5 : Int) < (h.docs.length : Int)) then (some true) else (some (decide ((6 : Int) < (h.subs.length : Int))))) fun c628 => Option.bind (bif c628 then (some true) else (Option.bind (Cv h.last 0 1000000000) fun r649 => some (!r649))) fun c639 => bif c639 then (some false) else (Option.bind (Aq (Axk h) (fun (_s846 : Unit) => (Sum.inl () : Sum Unit Bool)) h.docs.length 0 ()) fun (y847 : Sum Unit Bool) => Sum.elim (fun _y848 => Option.bind (Aq (Axl h) (fun (_s1230 : Unit) => (Sum.inl () : Sum Unit Bool)) h.subs.length 0 ()) fun (y1231 : Sum Unit Bool) => Sum.elim (fun _y1232 => some true) (fun y1233 => some y1233) y1231) (fun y849 => some y849) y847)
theorem Bjw (h : DHub) : Aig h = Gi h := by
 simp only [Agj, Agl, Agk, Agm, Gi, Axi, Axk, Axj, Axl, Aig, Bt, B4, B6, B3, B5, cond_true, cond_false, Ca, Cb, B7, B8]
theorem A4o (a : PArgs con_impl_HubOk.ps) : Ah Akv Tryz.f7.results.toList (Ab Tryz.f7) con_impl_HubOk.ps con_impl_HubOk.rs a = Aig a.1 := by kernel_rfl
theorem Lp {amb : List Rd} : Holds amb con_impl_HubOk := Ai (C := Akv) (c := Ab Tryz.f7) (Aa Nr ( Aa Hu ( Aa P2 ( Aa Sj ( Aa Hb (Aj)))))) Tryz.func7 rfl Tryz.ntmps7 (by kernel_rfl) (by decide) fun a r h => (A4o a).trans ((Bjw a.1).trans h)
noncomputable def Zz (k : Int) : Option Bool :=
 Option.bind (Cv k 1 5) fun r3 => some r3
noncomputable def con_impl_OnDoc : Con := ⟨93, [.val false (.b 0)], [⟨true, .b 1, false⟩], fun a => Zz a.1⟩
noncomputable def Ak6 : Ctx := ⟨5, [con_impl_within], [], false, false⟩
theorem A4z (a : PArgs con_impl_OnDoc.ps) : Ah Ak6 Tryz.f93.results.toList (Ab Tryz.f93) con_impl_OnDoc.ps con_impl_OnDoc.rs a = con_impl_OnDoc.x a := by kernel_rfl
theorem A2f {amb : List Rd} : Holds amb con_impl_OnDoc := Ai (C := Ak6) (c := Ab Tryz.f93) (Aa Hb (Aj)) Tryz.func93 rfl Tryz.ntmps93 (by kernel_rfl) (by decide) fun a r h => (A4z a).trans (h)
noncomputable def Aae (c : DCall) : Option DCall :=
 Option.bind (Zz c.kind) fun r20 => bif r20 then (bif decide (c.kind = 1) then (some (⟨c.kind, c.doc, 0, 0, 0, [], c.text⟩ : DCall)) else (bif decide (c.kind = 2) then (some (⟨c.kind, c.doc, c.client, c.seq, c.n, c.o, []⟩ : DCall)) else (bif decide (c.kind = 3) then (bif decide (c.kind = 3) then (some (⟨c.kind, c.doc, 0, 0, c.n, [], []⟩ : DCall)) else (bif decide (c.kind = 6) then (some (⟨c.kind, c.doc, c.client, 0, c.n, [], []⟩ : DCall)) else (bif decide (c.kind = 7) then (some (⟨c.kind, c.doc, c.client, 0, 0, [], []⟩ : DCall)) else (some (⟨c.kind, c.doc, 0, 0, 0, [], []⟩ : DCall))))) else (bif decide (c.kind = 5) then (some (⟨c.kind, c.doc, 0, 0, c.n, [], []⟩ : DCall)) else (bif decide (c.kind = 6) then (some (⟨c.kind, c.doc, c.client, 0, c.n, [], []⟩ : DCall)) else (bif decide (c.kind = 7) then (some (⟨c.kind, c.doc, c.client, 0, 0, [], []⟩ : DCall)) else (some (⟨c.kind, c.doc, 0, 0, 0, [], []⟩ : DCall)))))))) else (bif decide (c.kind = 1) then (some (⟨c.kind, ByteArray.empty, 0, 0, 0, [], c.text⟩ : DCall)) else (bif decide (c.kind = 2) then (some (⟨c.kind, ByteArray.empty, c.client, c.seq, c.n, c.o, []⟩ : DCall)) else (bif decide (c.kind = 3) then (bif decide (c.kind = 3) then (some (⟨c.kind, ByteArray.empty, 0, 0, c.n, [], []⟩ : DCall)) else (bif decide (c.kind = 6) then (some (⟨c.kind, ByteArray.empty, c.client, 0, c.n, [], []⟩ : DCall)) else (bif decide (c.kind = 7) then (some (⟨c.kind, ByteArray.empty, c.client, 0, 0, [], []⟩ : DCall)) else (some (⟨c.kind, ByteArray.empty, 0, 0, 0, [], []⟩ : DCall))))) else (bif decide (c.kind = 5) then (some (⟨c.kind, ByteArray.empty, 0, 0, c.n, [], []⟩ : DCall)) else (bif decide (c.kind = 6) then (some (⟨c.kind, ByteArray.empty, c.client, 0, c.n, [], []⟩ : DCall)) else (bif decide (c.kind = 7) then (some (⟨c.kind, ByteArray.empty, c.client, 0, 0, [], []⟩ : DCall)) else (some (⟨c.kind, ByteArray.empty, 0, 0, 0, [], []⟩ : DCall))))))))
noncomputable def con_impl_used : Con := ⟨56, [.val false (.b 12)], [⟨false, .b 12, false⟩], fun a => Aae a.1⟩
noncomputable def Amc : Ctx := ⟨54, [con_impl_OnDoc], [], false, false⟩
theorem A55 (a : PArgs con_impl_used.ps) : Ah Amc Tryz.f56.results.toList (Ab Tryz.f56) con_impl_used.ps con_impl_used.rs a = con_impl_used.x a := by kernel_rfl
theorem A2z {amb : List Rd} : Holds amb con_impl_used := Ai (C := Amc) (c := Ab Tryz.f56) (Aa A2f (Aj)) Tryz.func56 rfl Tryz.ntmps56 (by kernel_rfl) (by decide) fun a r h => (A55 a).trans (h)
noncomputable def Zq (a : DCall) (b : DCall) : Option Bool :=
 Option.bind (bif decide (a.kind = b.kind) then (some (decide (a.doc = b.doc))) else (some false)) fun c16 => Option.bind (bif c16 then (some (decide (a.client = b.client))) else (some false)) fun c29 => Option.bind (bif c29 then (some (decide (a.seq = b.seq))) else (some false)) fun c42 => Option.bind (bif c42 then (some (decide (a.n = b.n))) else (some false)) fun c55 => Option.bind (bif c55 then (Option.bind (Uk a.o b.o) fun r81 => some r81) else (some false)) fun c68 => Option.bind (bif c68 then (Option.bind (M1 a.text b.text) fun r98 => some r98) else (some false)) fun c85 => some c85
noncomputable def con_impl_CallSame : Con := ⟨55, [.val false (.b 12), .val false (.b 12)], [⟨true, .b 1, false⟩], fun a => Zq a.1 a.2.1⟩
noncomputable def Akj : Ctx := ⟨52, [con_impl_OpSame, con_slices_Equal_int_int], [], false, false⟩
theorem A4c (a : PArgs con_impl_CallSame.ps) : Ah Akj Tryz.f55.results.toList (Ab Tryz.f55) con_impl_CallSame.ps con_impl_CallSame.rs a = con_impl_CallSame.x a := by kernel_rfl
theorem A11 {amb : List Rd} : Holds amb con_impl_CallSame := Ai (C := Akj) (c := Ab Tryz.f55) (Aa Ap0 ( Aa Acb (Aj))) Tryz.func55 rfl Tryz.ntmps55 (by kernel_rfl) (by decide) fun a r h => (A4c a).trans (h)
noncomputable def Zp (c : DCall) : Option Bool :=
 Option.bind (Cv c.kind 1 8) fun r8 => Option.bind (bif r8 then (some (decide ((c.doc.size : Int) <= 8))) else (some false)) fun c12 => Option.bind (bif c12 then (Option.bind (M0 c.o) fun r32 => some r32) else (some false)) fun c23 => Option.bind (bif c23 then (Option.bind (It c.text) fun r45 => some r45) else (some false)) fun c36 => Option.bind (bif c36 then (Option.bind (Aae c) fun r68 => Option.bind (Zq c r68) fun r76 => some r76) else (some false)) fun c49 => some c49
noncomputable def con_impl_CallOk : Con := ⟨25, [.val false (.b 12)], [⟨true, .b 1, false⟩], fun a => Zp a.1⟩
noncomputable def Aki : Ctx := ⟨28, [con_impl_CallSame, con_impl_TextOk, con_impl_partsOk, con_impl_used, con_impl_within], [], false, false⟩
theorem A4b (a : PArgs con_impl_CallOk.ps) : Ah Aki Tryz.f25.results.toList (Ab Tryz.f25) con_impl_CallOk.ps con_impl_CallOk.rs a = con_impl_CallOk.x a := by kernel_rfl
theorem A10 {amb : List Rd} : Holds amb con_impl_CallOk := Ai (C := Aki) (c := Ab Tryz.f25) (Aa A11 ( Aa Sk ( Aa Aca ( Aa A2z ( Aa Hb (Aj)))))) Tryz.func25 rfl Tryz.ntmps25 (by kernel_rfl) (by decide) fun a r h => (A4b a).trans (h)
noncomputable def Zr (name : ByteArray) (t : List Int) : Option (DDoc × Bool) :=
 Option.bind (Mz t) fun r8 => Option.bind (Hk (⟨name, 0, r8, [], []⟩ : DDoc)) fun r21 => bif !r21 then (some ((⟨ByteArray.empty, 0, [], [], []⟩ : DDoc), false)) else (some ((⟨name, 0, r8, [], []⟩ : DDoc), true))
noncomputable def con_impl_DocNew : Con := ⟨57, [.val false (.b 2), .val false (.sl (.b 0))], [⟨true, .b 7, false⟩, ⟨true, .b 1, false⟩], fun a => Zr a.1 a.2.1⟩
noncomputable def Akm : Ctx := ⟨16, [con_impl_DocOk, con_impl_copyInts], [], false, false⟩
theorem A4f (a : PArgs con_impl_DocNew.ps) : Ah Akm Tryz.f57.results.toList (Ab Tryz.f57) con_impl_DocNew.ps con_impl_DocNew.rs a = con_impl_DocNew.x a := by kernel_rfl
theorem A13 {amb : List Rd} : Holds amb con_impl_DocNew := Ai (C := Akm) (c := Ab Tryz.f57) (Aa Nr ( Aa Wy (Aj))) Tryz.func57 rfl Tryz.ntmps57 (by kernel_rfl) (by decide) fun a r h => (A4f a).trans (h)
noncomputable def Awg (r95 : DHub) (name : ByteArray) (k109 : Int) : Option (Lr Int Int) :=
 Option.bind (bif decide (k109 < (r95.docs.length : Int)) then (xg (0 <= k109 /\ k109 < (r95.docs.length : Int)) <| some (De ((el r95.docs k109.toNat).name) name)) else (some false)) fun c148 => bif c148 then (xg (Ac (k109 + 1)) <| some (Lr.go (k109 + 1))) else (some (Lr.out k109))
noncomputable def Awh (r95 : DHub) (name : ByteArray) (s174 : Int) : Option (Lr Int Int) := Awg r95 name s174
noncomputable def Zu (h : DHub) (name : ByteArray) (t : List Int) : Option (DHub × Int) :=
 Option.bind (Gi h) fun r11 => Option.bind (bif !r11 then (some true) else (Option.bind (Gj name) fun r24 => some (!r24))) fun c16 => Option.bind (bif c16 then (some true) else (Option.bind (It t) fun r37 => some (!r37))) fun c29 => bif c29 then (some ((⟨false, [], [], 0⟩ : DHub), 1)) else (bif h.shut then (some ((⟨false, [], [], 0⟩ : DHub), 12)) else (Option.bind (Jp h name) fun r55 => bif decide ((0 : Int) <= r55) then (some ((⟨false, [], [], 0⟩ : DHub), 7)) else (bif decide ((h.docs.length : Int) = 5) then (some ((⟨false, [], [], 0⟩ : DHub), 10)) else (Option.bind (Zr name t) fun r75 => Option.bind (Dw h) fun r95 => Option.bind (Bj (Awh r95 name) 0) fun (y175 : Int) => Option.bind (Ub r95.docs y175 [r75.1]) fun r184 => some ((⟨r95.shut, r184, r95.subs, r95.last⟩ : DHub), 0)))))
noncomputable def con_impl_HubOpen : Con := ⟨26, [.val false (.b 10), .val false (.b 2), .val false (.sl (.b 0))], [⟨true, .b 10, false⟩, ⟨true, .b 0, false⟩], fun a => Zu a.1 a.2.1 a.2.2.1⟩
noncomputable def Akw : Ctx := ⟨76, [Aj9, con_impl_DocNew, con_impl_HubDoc, con_impl_HubOk, con_impl_NameOk, con_impl_TextOk, con_impl_copyHub], [⟨1, none, false, [.slot 11 (.sc 0)]⟩], false, false⟩
theorem A4p (a : PArgs con_impl_HubOpen.ps) : Ah Akw Tryz.f26.results.toList (Ab Tryz.f26) con_impl_HubOpen.ps con_impl_HubOpen.rs a = con_impl_HubOpen.x a := by kernel_rfl
theorem A17 {amb : List Rd} : Holds amb con_impl_HubOpen := Ai (C := Akw) (c := Ab Tryz.f26) (Aa A1y ( Aa A13 ( Aa P2 ( Aa Lp ( Aa Apy ( Aa Sk ( Aa Lq (Aj)))))))) Tryz.func26 rfl Tryz.ntmps26 (by kernel_rfl) (by decide) fun a r h => (A4p a).trans (h)
noncomputable def Agq (client : Int) (_d : DDoc) (_k14 : Nat) (x55 : DSeen) : Option (Lr Unit (Sum Unit (Bool × Int × Int × Int))) :=
 bif decide ((x55.client) = client) then (some (Lr.out (Sum.inr ((true, x55.client, x55.seq, x55.rev))))) else (some (Lr.go ()))
noncomputable def Agr (client : Int) (d : DDoc) (k14 : Nat) (_s56 : Unit) : Option (Lr Unit (Sum Unit (Bool × Int × Int × Int))) := Agq client d k14 (el d.seen k14)
noncomputable def Q5 (d : DDoc) (client : Int) : Option (DSeen × Bool) :=
 Option.bind (Aq (Agr client d) (fun (_s56 : Unit) => (Sum.inl () : Sum Unit (Bool × Int × Int × Int))) d.seen.length 0 ()) fun (y57 : Sum Unit (Bool × Int × Int × Int)) => Sum.elim (fun _y58 => some ((⟨0, 0, 0⟩ : DSeen), false)) (fun y59 => some ((⟨y59.2.1, y59.2.2.1, y59.2.2.2⟩ : DSeen), y59.1)) y57
noncomputable def con_impl_SeenOf : Con := ⟨97, [.val false (.b 7), .val false (.b 0)], [⟨true, .b 6, false⟩, ⟨true, .b 1, false⟩], fun a => Q5 a.1 a.2.1⟩
noncomputable def All : Ctx := ⟨22, [], [⟨0, some (11, 10), true, []⟩], false, false⟩
noncomputable def Axq (client : Int) (_d : DDoc) (_k77 : Nat) (x118 : DSeen) : Option (Lr Unit (Sum Unit (DSeen × Bool))) :=
 bif decide ((x118.client) = client) then (some (Lr.out (Sum.inr (x118, true)))) else (some (Lr.go ()))
noncomputable def Axr (client : Int) (d : DDoc) (k77 : Nat) (_s119 : Unit) : Option (Lr Unit (Sum Unit (DSeen × Bool))) := Axq client d k77 (el d.seen k77)
noncomputable def Aij (d : DDoc) (client : Int) : Option (DSeen × Bool) :=
 Option.bind (Aq (Axr client d) (fun (_s119 : Unit) => (Sum.inl () : Sum Unit (DSeen × Bool))) d.seen.length 0 ()) fun (y120 : Sum Unit (DSeen × Bool)) => Sum.elim (fun _y121 => some ((⟨0, 0, 0⟩ : DSeen), false)) (fun y122 => some y122) y120
theorem Bjz (d : DDoc) (client : Int) : Aij d client = Q5 d client := by
 simp only [Agq, Agr, Q5, Axq, Axr, Aij, Bt, B4, B5, Ca, Cb, B7, B8]
theorem A5e (a : PArgs con_impl_SeenOf.ps) : Ah All Tryz.f97.results.toList (Ab Tryz.f97) con_impl_SeenOf.ps con_impl_SeenOf.rs a = Aij a.1 a.2.1 := by kernel_rfl
theorem A2o {amb : List Rd} : Holds amb con_impl_SeenOf := Ai (C := All) (c := Ab Tryz.f97) (Aj) Tryz.func97 rfl Tryz.ntmps97 (by kernel_rfl) (by decide) fun a r h => (A5e a).trans ((Bjz a.1 a.2.1).trans h)
noncomputable def Up (d : DDoc) (rev : Int) : Option Int :=
 Option.bind (Dn d) fun r8 => bif decide (r8 < rev) then (some 2) else (bif decide (rev < d.from_) then (some 3) else (some 0))
noncomputable def con_impl_atBase : Con := ⟨100, [.val false (.b 7), .val false (.b 0)], [⟨true, .b 0, false⟩], fun a => Up a.1 a.2.1⟩
noncomputable def Alt : Ctx := ⟨15, [con_impl_HeadRev], [], false, false⟩
theorem A5m (a : PArgs con_impl_atBase.ps) : Ah Alt Tryz.f100.results.toList (Ab Tryz.f100) con_impl_atBase.ps con_impl_atBase.rs a = con_impl_atBase.x a := by kernel_rfl
theorem Ap3 {amb : List Rd} : Holds amb con_impl_atBase := Ai (C := Alt) (c := Ab Tryz.f100) (Aa Hu (Aj)) Tryz.func100 rfl Tryz.ntmps100 (by kernel_rfl) (by decide) fun a r h => (A5m a).trans (h)
noncomputable def O6 (d : DDoc) (rev : Int) : Option (List Int × Bool) :=
 Option.bind (Hk d) fun r8 => Option.bind (bif !r8 then (some true) else (Option.bind (Dn d) fun r30 => Option.bind (Cv rev d.from_ r30) fun r33 => some (!r33))) fun c13 => bif c13 then (some ([], false)) else (xg (Ac (rev - d.from_)) <| xg (0 <= (rev - d.from_) /\ (rev - d.from_) <= (d.list.length : Int)) <| Option.bind (K8 ((d.list.take ((rev - d.from_).toNat)).drop 0)) fun r52 => Option.bind (Jn r52 d.text) fun r60 => some (r60.1, r60.2))
noncomputable def con_impl_TextAt : Con := ⟨14, [.val false (.b 7), .val false (.b 0)], [⟨true, .sl (.b 0), false⟩, ⟨true, .b 1, false⟩], fun a => O6 a.1 a.2.1⟩
noncomputable def Alq : Ctx := ⟨31, [con_impl_ApplyAll, con_impl_DocOk, con_impl_HeadRev, con_impl_opsOf, con_impl_within], [], false, false⟩
theorem A5j (a : PArgs con_impl_TextAt.ps) : Ah Alq Tryz.f14.results.toList (Ab Tryz.f14) con_impl_TextAt.ps con_impl_TextAt.rs a = con_impl_TextAt.x a := by kernel_rfl
theorem Ab8 {amb : List Rd} : Holds amb con_impl_TextAt := Ai (C := Alq) (c := Ab Tryz.f14) (Aa Ab6 ( Aa Nr ( Aa Hu ( Aa Wz ( Aa Hb (Aj)))))) Tryz.func14 rfl Tryz.ntmps14 (by kernel_rfl) (by decide) fun a r h => (A5j a).trans (h)
noncomputable def Z1 (d : DDoc) (rev : Int) : Option (List (List DPart) × Bool) :=
 Option.bind (Hk d) fun r8 => Option.bind (bif !r8 then (some true) else (Option.bind (Dn d) fun r30 => Option.bind (Cv rev d.from_ r30) fun r33 => some (!r33))) fun c13 => bif c13 then (some ([], false)) else (xg (Ac (rev - d.from_)) <| xg (0 <= (rev - d.from_) /\ (rev - d.from_) <= (d.list.length : Int)) <| Option.bind (K8 ((d.list.take d.list.length).drop ((rev - d.from_).toNat))) fun r50 => some (r50, true))
noncomputable def con_impl_OpsSince : Con := ⟨128, [.val false (.b 7), .val false (.b 0)], [⟨true, .sl (.sl (.b 4)), false⟩, ⟨true, .b 1, false⟩], fun a => Z1 a.1 a.2.1⟩
noncomputable def Alc : Ctx := ⟨26, [con_impl_DocOk, con_impl_HeadRev, con_impl_opsOf, con_impl_within], [], false, false⟩
theorem A45 (a : PArgs con_impl_OpsSince.ps) : Ah Alc Tryz.f128.results.toList (Ab Tryz.f128) con_impl_OpsSince.ps con_impl_OpsSince.rs a = con_impl_OpsSince.x a := by kernel_rfl
theorem A2h {amb : List Rd} : Holds amb con_impl_OpsSince := Ai (C := Alc) (c := Ab Tryz.f128) (Aa Nr ( Aa Hu ( Aa Wz ( Aa Hb (Aj))))) Tryz.func128 rfl Tryz.ntmps128 (by kernel_rfl) (by decide) fun a r h => (A45 a).trans (h)
noncomputable def Awp (l54 : List DPart) : Option (Lr (List DPart) (List DPart)) :=
 Option.bind (bif decide ((0 : Int) < (l54.length : Int)) then (xg (0 <= (0 : Int) /\ (0 : Int) < (l54.length : Int)) <| Option.bind (Hl (el l54 0)) fun r137 => some (decide (r137 = 0))) else (some false)) fun c111 => bif c111 then (xg (0 <= (1 : Int) /\ (1 : Int) <= (l54.length : Int)) <| some (Lr.go ((l54.take l54.length).drop 1))) else (some (Lr.out l54))
noncomputable def Aad (s152 : List DPart) : Option (Lr (List DPart) (List DPart)) := Awp s152
noncomputable def Eo (r_ : DRest) : Option (DPart × DRest) :=
 Option.bind (Bj (Aad) r_.parts) fun (y153 : List DPart) => bif decide ((y153.length : Int) = 0) then (some ((⟨0, 0, []⟩ : DPart), (⟨y153⟩ : DRest))) else (xg (0 <= (0 : Int) /\ (0 : Int) < (y153.length : Int)) <| some (el y153 0, (⟨y153⟩ : DRest)))
noncomputable def con_impl_rest_next : Con := ⟨160, [.box .rd (.b 14)], [⟨false, .b 4, false⟩], fun a => Eo a.1⟩
noncomputable def Al6 : Ctx := ⟨40, [con_impl_size], [⟨0, none, false, [.box 0 0 [.ro (.b 4)]]⟩], false, false⟩
theorem A5z (a : PArgs con_impl_rest_next.ps) : Ah Al6 Tryz.f160.results.toList (Ab Tryz.f160) con_impl_rest_next.ps con_impl_rest_next.rs a = con_impl_rest_next.x a := by kernel_rfl
theorem A2w {amb : List Rd} : Holds amb con_impl_rest_next := Ai (C := Al6) (c := Ab Tryz.f160) (Aa W0 (Aj)) Tryz.func160 rfl Tryz.ntmps160 (by kernel_rfl) (by decide) fun a r h => (A5z a).trans (h)
noncomputable def Js (r_ : DRest) (n : Int) : Option (DPart × DRest) :=
 xg (0 <= (0 : Int) /\ (0 : Int) < (r_.parts.length : Int)) <| bif decide (((el r_.parts 0).kind) = 2) then (xg (0 <= n /\ n <= (((el r_.parts 0).signs).length : Int)) <| xg (0 <= n /\ n <= (((el r_.parts 0).signs).length : Int)) <| xg (0 <= (1 : Int) /\ (1 : Int) <= (r_.parts.length : Int)) <| xg ([(⟨(el r_.parts 0).kind, (el r_.parts 0).n, (((el r_.parts 0).signs).take ((el r_.parts 0).signs).length).drop n.toNat⟩ : DPart)].length + ((r_.parts.take r_.parts.length).drop 1).length <= 1099511627776) <| some ((⟨(el r_.parts 0).kind, (el r_.parts 0).n, (((el r_.parts 0).signs).take n.toNat).drop 0⟩ : DPart), (⟨[(⟨(el r_.parts 0).kind, (el r_.parts 0).n, (((el r_.parts 0).signs).take ((el r_.parts 0).signs).length).drop n.toNat⟩ : DPart)] ++ ((r_.parts.take r_.parts.length).drop 1)⟩ : DRest))) else (xg (Ac (((el r_.parts 0).n) - n)) <| xg (0 <= (1 : Int) /\ (1 : Int) <= (r_.parts.length : Int)) <| xg ([(⟨(el r_.parts 0).kind, ((el r_.parts 0).n) - n, (el r_.parts 0).signs⟩ : DPart)].length + ((r_.parts.take r_.parts.length).drop 1).length <= 1099511627776) <| some ((⟨(el r_.parts 0).kind, n, (el r_.parts 0).signs⟩ : DPart), (⟨[(⟨(el r_.parts 0).kind, ((el r_.parts 0).n) - n, (el r_.parts 0).signs⟩ : DPart)] ++ ((r_.parts.take r_.parts.length).drop 1)⟩ : DRest)))
noncomputable def con_impl_rest_take : Con := ⟨162, [.box .rd (.b 14), .val false (.b 0)], [⟨false, .b 4, false⟩], fun a => Js a.1 a.2.1⟩
noncomputable def Al7 : Ctx := ⟨48, [], [], false, false⟩
theorem A50 (a : PArgs con_impl_rest_take.ps) : Ah Al7 Tryz.f162.results.toList (Ab Tryz.f162) con_impl_rest_take.ps con_impl_rest_take.rs a = con_impl_rest_take.x a := by kernel_rfl
theorem Ap7 {amb : List Rd} : Holds amb con_impl_rest_take := Ai (C := Al7) (c := Ab Tryz.f162) (Aj) Tryz.func162 rfl Tryz.ntmps162 (by kernel_rfl) (by decide) fun a r h => (A50 a).trans (h)
noncomputable def K9 (r_ : DRest) : Option (DPart × DRest) :=
 xg (0 <= (0 : Int) /\ (0 : Int) < (r_.parts.length : Int)) <| Option.bind (Hl (el r_.parts 0)) fun r17 => Option.bind (Js r_ r17) fun r20 => some (r20.1, r20.2)
noncomputable def con_impl_rest_whole : Con := ⟨161, [.box .rd (.b 14)], [⟨false, .b 4, false⟩], fun a => K9 a.1⟩
noncomputable def Al8 : Ctx := ⟨12, [con_impl_rest_take, con_impl_size], [], false, false⟩
theorem A51 (a : PArgs con_impl_rest_whole.ps) : Ah Al8 Tryz.f161.results.toList (Ab Tryz.f161) con_impl_rest_whole.ps con_impl_rest_whole.rs a = con_impl_rest_whole.x a := by kernel_rfl
theorem A2x {amb : List Rd} : Holds amb con_impl_rest_whole := Ai (C := Al8) (c := Ab Tryz.f161) (Aa Ap7 ( Aa W0 (Aj))) Tryz.func161 rfl Tryz.ntmps161 (by kernel_rfl) (by decide) fun a r h => (A51 a).trans (h)
noncomputable def Jq (x250 : List DPart) (y251 : List DPart) (l252 : List DPart) (l253 : List DPart) : Option (Lr (List DPart × List DPart × List DPart × List DPart) (List DPart × List DPart)) :=
 Option.bind (Eo (⟨l252⟩ : DRest)) fun r451 => Option.bind (bif !decide (r451.1.kind = 0) then (some (true, l253)) else (Option.bind (Eo (⟨l253⟩ : DRest)) fun r471 => some (!decide (r471.1.kind = 0), r471.2.parts))) fun (c469 : Bool × List DPart) => bif c469.1 then (Option.bind (Eo r451.2) fun r480 => bif decide (r480.1.kind = 2) then (Option.bind (K9 r480.2) fun r489 => xg (x250.length < 1099511627776) <| xg (y251.length < 1099511627776) <| some (Lr.go (x250 ++ [r489.1], y251 ++ [(⟨1, (r489.1.signs.length : Int), []⟩ : DPart)], r489.2.parts, c469.2))) else (Option.bind (Eo (⟨c469.2⟩ : DRest)) fun r520 => bif decide (r520.1.kind = 2) then (Option.bind (K9 r520.2) fun r529 => xg (x250.length < 1099511627776) <| xg (y251.length < 1099511627776) <| some (Lr.go (x250 ++ [(⟨1, (r529.1.signs.length : Int), []⟩ : DPart)], y251 ++ [r529.1], r480.2.parts, r529.2.parts))) else (Option.bind (Eo r480.2) fun r560 => Option.bind (Hl r560.1) fun r565 => Option.bind (Eo r520.2) fun r569 => Option.bind (Hl r569.1) fun r574 => Option.bind (Js r560.2 (min r565 r574)) fun r581 => Option.bind (Js r569.2 (min r565 r574)) fun r588 => bif decide (r588.1.kind = 1) then (xg (x250.length < 1099511627776) <| bif decide (r581.1.kind = 1) then (xg (y251.length < 1099511627776) <| some (Lr.go (x250 ++ [r581.1], y251 ++ [r588.1], r581.2.parts, r588.2.parts))) else (some (Lr.go (x250 ++ [r581.1], y251, r581.2.parts, r588.2.parts)))) else (bif decide (r581.1.kind = 1) then (xg (y251.length < 1099511627776) <| some (Lr.go (x250, y251 ++ [r588.1], r581.2.parts, r588.2.parts))) else (some (Lr.go (x250, y251, r581.2.parts, r588.2.parts))))))) else (some (Lr.out (x250, y251)))
noncomputable def Uo (s638 : List DPart × List DPart × List DPart × List DPart) : Option (Lr (List DPart × List DPart × List DPart × List DPart) (List DPart × List DPart)) := Jq s638.1 s638.2.1 s638.2.2.1 s638.2.2.2
noncomputable def O7 (a : List DPart) (b : List DPart) : Option (List DPart × List DPart × Bool) :=
 Option.bind (E0 a) fun r5 => Option.bind (bif !r5 then (some true) else (Option.bind (E0 b) fun r18 => some (!r18))) fun c10 => Option.bind (bif c10 then (some true) else (Option.bind (Iq a) fun r35 => Option.bind (Iq b) fun r39 => some (!decide (r35 = r39)))) fun c23 => bif c23 then (some ([], [], false)) else (Option.bind (Bj (Uo) ([], [], a, b)) fun (y639 : List DPart × List DPart) => Option.bind (Jr y639.1) fun r647 => Option.bind (Jr y639.2) fun r653 => Option.bind (E0 r647) fun r661 => Option.bind (bif !r661 then (some true) else (Option.bind (E0 r653) fun r674 => some (!r674))) fun c666 => bif c666 then (some ([], [], false)) else (some (r647, r653, true)))
noncomputable def con_impl_Transform : Con := ⟨154, [.val false (.sl (.b 4)), .val false (.sl (.b 4))], [⟨true, .sl (.b 4), false⟩, ⟨true, .sl (.b 4), false⟩, ⟨true, .b 1, false⟩], fun a => O7 a.1 a.2.1⟩
noncomputable def Als : Ctx := ⟨124, [con_impl_OpFrom, con_impl_OpOk, con_impl_normal, con_impl_rest_next, con_impl_rest_take, con_impl_rest_whole, con_impl_size], [⟨0, none, false, [.slot 9 (.sha (.b 4)), .slot 10 (.sha (.b 4)), .box 7 0 [.ro (.b 4)], .box 8 0 [.ro (.b 4)]]⟩], false, false⟩
noncomputable def Axu (x749 : List DPart) (y750 : List DPart) (l751 : List DPart) (l752 : List DPart) : Option (Lr (List DPart × List DPart × List DPart × List DPart) (List DPart × List DPart × List DPart × List DPart)) :=
 Option.bind (Eo (⟨l751⟩ : DRest)) fun r1107 => bif !decide (r1107.1.kind = 0) then (Option.bind (Eo r1107.2) fun r1126 => bif decide (r1126.1.kind = 2) then (Option.bind (K9 r1126.2) fun r1135 => xg (x749.length < 1099511627776) <| xg (y750.length < 1099511627776) <| some (Lr.go (x749 ++ [r1135.1], y750 ++ [(⟨1, (r1135.1.signs.length : Int), []⟩ : DPart)], r1135.2.parts, l752))) else (Option.bind (Eo (⟨l752⟩ : DRest)) fun r1166 => bif decide (r1166.1.kind = 2) then (Option.bind (K9 r1166.2) fun r1175 => xg (x749.length < 1099511627776) <| xg (y750.length < 1099511627776) <| some (Lr.go (x749 ++ [(⟨1, (r1175.1.signs.length : Int), []⟩ : DPart)], y750 ++ [r1175.1], r1126.2.parts, r1175.2.parts))) else (Option.bind (Eo r1126.2) fun r1206 => Option.bind (Hl r1206.1) fun r1211 => Option.bind (Eo r1166.2) fun r1215 => Option.bind (Hl r1215.1) fun r1220 => Option.bind (Js r1206.2 (min r1211 r1220)) fun r1227 => Option.bind (Js r1215.2 (min r1211 r1220)) fun r1234 => bif decide (r1234.1.kind = 1) then (xg (x749.length < 1099511627776) <| bif decide (r1227.1.kind = 1) then (xg (y750.length < 1099511627776) <| some (Lr.go (x749 ++ [r1227.1], y750 ++ [r1234.1], r1227.2.parts, r1234.2.parts))) else (some (Lr.go (x749 ++ [r1227.1], y750, r1227.2.parts, r1234.2.parts)))) else (bif decide (r1227.1.kind = 1) then (xg (y750.length < 1099511627776) <| some (Lr.go (x749, y750 ++ [r1234.1], r1227.2.parts, r1234.2.parts))) else (some (Lr.go (x749, y750, r1227.2.parts, r1234.2.parts))))))) else (Option.bind (Eo (⟨l752⟩ : DRest)) fun r1285 => bif !decide (r1285.1.kind = 0) then (Option.bind (Eo r1107.2) fun r1293 => bif decide (r1293.1.kind = 2) then (Option.bind (K9 r1293.2) fun r1302 => xg (x749.length < 1099511627776) <| xg (y750.length < 1099511627776) <| some (Lr.go (x749 ++ [r1302.1], y750 ++ [(⟨1, (r1302.1.signs.length : Int), []⟩ : DPart)], r1302.2.parts, r1285.2.parts))) else (Option.bind (Eo r1285.2) fun r1333 => bif decide (r1333.1.kind = 2) then (Option.bind (K9 r1333.2) fun r1342 => xg (x749.length < 1099511627776) <| xg (y750.length < 1099511627776) <| some (Lr.go (x749 ++ [(⟨1, (r1342.1.signs.length : Int), []⟩ : DPart)], y750 ++ [r1342.1], r1293.2.parts, r1342.2.parts))) else (Option.bind (Eo r1293.2) fun r1373 => Option.bind (Hl r1373.1) fun r1378 => Option.bind (Eo r1333.2) fun r1382 => Option.bind (Hl r1382.1) fun r1387 => Option.bind (Js r1373.2 (min r1378 r1387)) fun r1394 => Option.bind (Js r1382.2 (min r1378 r1387)) fun r1401 => bif decide (r1401.1.kind = 1) then (xg (x749.length < 1099511627776) <| bif decide (r1394.1.kind = 1) then (xg (y750.length < 1099511627776) <| some (Lr.go (x749 ++ [r1394.1], y750 ++ [r1401.1], r1394.2.parts, r1401.2.parts))) else (some (Lr.go (x749 ++ [r1394.1], y750, r1394.2.parts, r1401.2.parts)))) else (bif decide (r1394.1.kind = 1) then (xg (y750.length < 1099511627776) <| some (Lr.go (x749, y750 ++ [r1401.1], r1394.2.parts, r1401.2.parts))) else (some (Lr.go (x749, y750, r1394.2.parts, r1401.2.parts))))))) else (some (Lr.out (x749, y750, r1107.2.parts, r1285.2.parts))))
noncomputable def Axv (s1451 : List DPart × List DPart × List DPart × List DPart) : Option (Lr (List DPart × List DPart × List DPart × List DPart) (List DPart × List DPart × List DPart × List DPart)) := Axu s1451.1 s1451.2.1 s1451.2.2.1 s1451.2.2.2
noncomputable def Ail (a : List DPart) (b : List DPart) : Option (List DPart × List DPart × Bool) :=
 Option.bind (E0 a) fun r690 => Option.bind (bif !r690 then (some true) else (Option.bind (E0 b) fun r703 => some (!r703))) fun c695 => Option.bind (bif c695 then (some true) else (Option.bind (Iq a) fun r720 => Option.bind (Iq b) fun r724 => some (!decide (r720 = r724)))) fun c708 => bif c708 then (some ([], [], false)) else (Option.bind (Bj (Axv) ([], [], a, b)) fun (y1452 : List DPart × List DPart × List DPart × List DPart) => Option.bind (Jr y1452.1) fun r1462 => Option.bind (Jr y1452.2.1) fun r1468 => Option.bind (E0 r1462) fun r1476 => Option.bind (bif !r1476 then (some true) else (Option.bind (E0 r1468) fun r1489 => some (!r1489))) fun c1481 => bif c1481 then (some ([], [], false)) else (some (r1462, r1468, true)))
theorem Bj1 (a : List DPart) (b : List DPart) : Ail a b = O7 a b := by
 simp only [Jq, Uo, O7, Axu, Axv, Ail, B9, B4, B6, B3, B5, cond_true, Ca, Cb]
theorem A5l (a : PArgs con_impl_Transform.ps) : Ah Als Tryz.f154.results.toList (Ab Tryz.f154) con_impl_Transform.ps con_impl_Transform.rs a = Ail a.1 a.2.1 := by kernel_rfl
theorem A2s {amb : List Rd} : Holds amb con_impl_Transform := Ai (C := Als) (c := Ab Tryz.f154) (Aa Ww ( Aa Ns ( Aa Ap6 ( Aa A2w ( Aa Ap7 ( Aa A2x ( Aa W0 (Aj)))))))) Tryz.func154 rfl Tryz.ntmps154 (by kernel_rfl) (by decide) fun a r h => (A5l a).trans ((Bj1 a.1 a.2.1).trans h)
noncomputable def Ag0 (_l : List (List DPart)) (_k67 : Nat) (x152 : List DPart) (list68 : List (List DPart)) (v69 : List DPart) : Option (Lr (List (List DPart) × List DPart) (Sum (List (List DPart) × List DPart) Unit)) :=
 Option.bind (O7 x152 v69) fun r122 => bif !r122.2.2 then (some (Lr.out (Sum.inr (())))) else (xg (list68.length < 1099511627776) <| some (Lr.go (list68 ++ [r122.1], r122.2.1)))
noncomputable def Aac (l : List (List DPart)) (k67 : Nat) (s153 : List (List DPart) × List DPart) : Option (Lr (List (List DPart) × List DPart) (Sum (List (List DPart) × List DPart) Unit)) := Ag0 l k67 (el l k67) s153.1 s153.2
noncomputable def Us (l : List (List DPart)) (b : List DPart) : Option (List (List DPart) × List DPart × Bool) :=
 Option.bind (E0 b) fun r5 => bif !r5 then (some ([], [], false)) else (Option.bind (Q4 b) fun r14 => Option.bind (Aq (Aac l) (fun (s153 : List (List DPart) × List DPart) => (Sum.inl (s153.1, s153.2) : Sum (List (List DPart) × List DPart) Unit)) l.length 0 ([], r14)) fun (y154 : Sum (List (List DPart) × List DPart) Unit) => Sum.elim (fun y155 => some (y155.1, y155.2, true)) (fun _y156 => some ([], [], false)) y154)
noncomputable def con_impl_past : Con := ⟨143, [.val false (.sl (.sl (.b 4))), .val false (.sl (.b 4))], [⟨true, .sl (.sl (.b 4)), false⟩, ⟨true, .sl (.b 4), false⟩, ⟨true, .b 1, false⟩], fun a => Us a.1 a.2.1⟩
noncomputable def Al5 : Ctx := ⟨42, [con_impl_OpNorm, con_impl_OpOk, con_impl_Transform], [⟨0, some (21, 20), true, [.slot 7 (.row (.sl (.b 4))), .slot 8 (.row (.b 4))]⟩], false, false⟩
noncomputable def Ax4 (_l : List (List DPart)) (_k189 : Nat) (x274 : List DPart) (list190 : List (List DPart)) (v191 : List DPart) : Option (Lr (List (List DPart) × List DPart) (Sum (List (List DPart) × List DPart) (List (List DPart) × List DPart × Bool))) :=
 Option.bind (O7 x274 v191) fun r244 => bif !r244.2.2 then (some (Lr.out (Sum.inr ([], [], false)))) else (xg (list190.length < 1099511627776) <| some (Lr.go (list190 ++ [r244.1], r244.2.1)))
noncomputable def Ax5 (l : List (List DPart)) (k189 : Nat) (s275 : List (List DPart) × List DPart) : Option (Lr (List (List DPart) × List DPart) (Sum (List (List DPart) × List DPart) (List (List DPart) × List DPart × Bool))) := Ax4 l k189 (el l k189) s275.1 s275.2
noncomputable def Aip (l : List (List DPart)) (b : List DPart) : Option (List (List DPart) × List DPart × Bool) :=
 Option.bind (E0 b) fun r170 => bif !r170 then (some ([], [], false)) else (Option.bind (Q4 b) fun r179 => Option.bind (Aq (Ax5 l) (fun (s275 : List (List DPart) × List DPart) => (Sum.inl (s275.1, s275.2) : Sum (List (List DPart) × List DPart) (List (List DPart) × List DPart × Bool))) l.length 0 ([], r179)) fun (y276 : Sum (List (List DPart) × List DPart) (List (List DPart) × List DPart × Bool)) => Sum.elim (fun y277 => some (y277.1, y277.2, true)) (fun y278 => some y278) y276)
theorem Bj5 (l : List (List DPart)) (b : List DPart) : Aip l b = Us l b := by
 simp only [Ag0, Aac, Us, Ax4, Ax5, Aip, Bt, B4, B6, B3, B5, Ca, Cb, B7, B8]
theorem A5y (a : PArgs con_impl_past.ps) : Ah Al5 Tryz.f143.results.toList (Ab Tryz.f143) con_impl_past.ps con_impl_past.rs a = Aip a.1 a.2.1 := by kernel_rfl
theorem A2v {amb : List Rd} : Holds amb con_impl_past := Ai (C := Al5) (c := Ab Tryz.f143) (Aa Apz ( Aa Ns ( Aa A2s (Aj)))) Tryz.func143 rfl Tryz.ntmps143 (by kernel_rfl) (by decide) fun a r h => (A5y a).trans ((Bj5 a.1 a.2.1).trans h)
noncomputable def Z2 (l : List (List DPart)) (b : List DPart) : Option (List DPart × Bool) :=
 Option.bind (Us l b) fun r5 => some (r5.2.1, r5.2.2)
noncomputable def con_impl_Past : Con := ⟨129, [.val false (.sl (.sl (.b 4))), .val false (.sl (.b 4))], [⟨true, .sl (.b 4), false⟩, ⟨true, .b 1, false⟩], fun a => Z2 a.1 a.2.1⟩
noncomputable def Ale : Ctx := ⟨18, [con_impl_past], [], false, false⟩
theorem A47 (a : PArgs con_impl_Past.ps) : Ah Ale Tryz.f129.results.toList (Ab Tryz.f129) con_impl_Past.ps con_impl_Past.rs a = con_impl_Past.x a := by kernel_rfl
theorem A2j {amb : List Rd} : Holds amb con_impl_Past := Ai (C := Ale) (c := Ab Tryz.f129) (Aa A2v (Aj)) Tryz.func129 rfl Tryz.ntmps129 (by kernel_rfl) (by decide) fun a r h => (A47 a).trans (h)
noncomputable def Z3 (d : DDoc) (base : Int) (o : List DPart) : Option (List DPart × Int) :=
 Option.bind (Hk d) fun r8 => Option.bind (bif !r8 then (some true) else (Option.bind (E0 o) fun r21 => some (!r21))) fun c13 => bif c13 then (some ([], 1)) else (Option.bind (Up d base) fun r29 => bif !decide (r29 = 0) then (some ([], r29)) else (Option.bind (O6 d base) fun r40 => Option.bind (Iq o) fun r51 => bif !decide (r51 = (r40.1.length : Int)) then (some ([], 1)) else (Option.bind (Z1 d base) fun r61 => Option.bind (Z2 r61.1 o) fun r73 => bif !r73.2 then (some ([], 5)) else (some (r73.1, 0)))))
noncomputable def con_impl_Rebase : Con := ⟨98, [.val false (.b 7), .val false (.b 0), .val false (.sl (.b 4))], [⟨true, .sl (.b 4), false⟩, ⟨true, .b 0, false⟩], fun a => Z3 a.1 a.2.1 a.2.2.1⟩
noncomputable def Alf : Ctx := ⟨55, [con_impl_DocOk, con_impl_OpFrom, con_impl_OpOk, con_impl_OpsSince, con_impl_Past, con_impl_TextAt, con_impl_atBase], [], false, false⟩
theorem A48 (a : PArgs con_impl_Rebase.ps) : Ah Alf Tryz.f98.results.toList (Ab Tryz.f98) con_impl_Rebase.ps con_impl_Rebase.rs a = con_impl_Rebase.x a := by kernel_rfl
theorem A2k {amb : List Rd} : Holds amb con_impl_Rebase := Ai (C := Alf) (c := Ab Tryz.f98) (Aa Nr ( Aa Ww ( Aa Ns ( Aa A2h ( Aa A2j ( Aa Ab8 ( Aa Ap3 (Aj)))))))) Tryz.func98 rfl Tryz.ntmps98 (by kernel_rfl) (by decide) fun a r h => (A48 a).trans (h)
noncomputable def Awj (r146 : DDoc) (client : Int) (k180 : Int) : Option (Lr Int Int) :=
 Option.bind (bif decide (k180 < (r146.seen.length : Int)) then (xg (0 <= k180 /\ k180 < (r146.seen.length : Int)) <| some (decide (((el r146.seen k180.toNat).client) < client))) else (some false)) fun c219 => bif c219 then (xg (Ac (k180 + 1)) <| some (Lr.go (k180 + 1))) else (some (Lr.out k180))
noncomputable def Z8 (r146 : DDoc) (client : Int) (s245 : Int) : Option (Lr Int Int) := Awj r146 client s245
noncomputable def Z7 (d : DDoc) (client : Int) (seq : Int) (base : Int) (o : List DPart) : Option (DDoc × Int × Int) :=
 Option.bind (Hk d) fun r12 => Option.bind (bif !r12 then (some true) else (Option.bind (Cv client 1 8) fun r25 => some (!r25))) fun c17 => Option.bind (bif c17 then (some true) else (Option.bind (Cv seq 1 1000000000) fun r38 => some (!r38))) fun c30 => Option.bind (bif c30 then (some true) else (Option.bind (E0 o) fun r51 => some (!r51))) fun c43 => bif c43 then (some ((⟨ByteArray.empty, 0, [], [], []⟩ : DDoc), 0, 1)) else (Option.bind (Q5 d client) fun r62 => bif decide (r62.1.seq = seq) then (Option.bind (O8 d) fun r83 => some (r83, r62.1.rev, 0)) else (xg (Ac (r62.1.seq + 1)) <| bif !decide ((r62.1.seq + 1) = seq) then (some ((⟨ByteArray.empty, 0, [], [], []⟩ : DDoc), 0, 4)) else (Option.bind (Z3 d base o) fun r115 => bif !decide (r115.2 = 0) then (some ((⟨ByteArray.empty, 0, [], [], []⟩ : DDoc), 0, r115.2)) else (Option.bind (Dn d) fun r135 => bif decide ((999999000 : Int) <= r135) then (some ((⟨ByteArray.empty, 0, [], [], []⟩ : DDoc), 0, 5)) else (Option.bind (O8 d) fun r146 => xg (r146.list.length < 1099511627776) <| Option.bind (Dn (⟨r146.name, r146.from_, r146.text, r146.list ++ [(⟨client, seq, r115.1⟩ : DEntry)], r146.seen⟩ : DDoc)) fun r175 => Option.bind (Bj (Z8 r146 client) 0) fun (y246 : Int) => Option.bind (bif decide (y246 < (r146.seen.length : Int)) then (xg (0 <= y246 /\ y246 < (r146.seen.length : Int)) <| some (decide (((el r146.seen y246.toNat).client) = client))) else (some false)) fun c253 => bif c253 then (xg (0 <= y246 /\ y246 < (r146.seen.length : Int)) <| bif decide ((8 : Int) < ((r146.list ++ [(⟨client, seq, r115.1⟩ : DEntry)]).length : Int)) then (xg (0 <= (0 : Int) /\ (0 : Int) < ((r146.list ++ [(⟨client, seq, r115.1⟩ : DEntry)]).length : Int)) <| Option.bind (Jm ((el (r146.list ++ [(⟨client, seq, r115.1⟩ : DEntry)]) 0).o) r146.text) fun r309 => xg (Ac (r146.from_ + 1)) <| xg (0 <= (1 : Int) /\ (1 : Int) <= ((r146.list ++ [(⟨client, seq, r115.1⟩ : DEntry)]).length : Int)) <| some ((⟨r146.name, r146.from_ + 1, r309.1, ((r146.list ++ [(⟨client, seq, r115.1⟩ : DEntry)]).take ((r146.list ++ [(⟨client, seq, r115.1⟩ : DEntry)]).length)).drop 1, r146.seen.set y246.toNat (⟨client, seq, r175⟩ : DSeen)⟩ : DDoc), r175, 0)) else (some ((⟨r146.name, r146.from_, r146.text, r146.list ++ [(⟨client, seq, r115.1⟩ : DEntry)], r146.seen.set y246.toNat (⟨client, seq, r175⟩ : DSeen)⟩ : DDoc), r175, 0))) else (Option.bind (Ub r146.seen y246 [(⟨client, seq, r175⟩ : DSeen)]) fun r357 => bif decide ((8 : Int) < ((r146.list ++ [(⟨client, seq, r115.1⟩ : DEntry)]).length : Int)) then (xg (0 <= (0 : Int) /\ (0 : Int) < ((r146.list ++ [(⟨client, seq, r115.1⟩ : DEntry)]).length : Int)) <| Option.bind (Jm ((el (r146.list ++ [(⟨client, seq, r115.1⟩ : DEntry)]) 0).o) r146.text) fun r387 => xg (Ac (r146.from_ + 1)) <| xg (0 <= (1 : Int) /\ (1 : Int) <= ((r146.list ++ [(⟨client, seq, r115.1⟩ : DEntry)]).length : Int)) <| some ((⟨r146.name, r146.from_ + 1, r387.1, ((r146.list ++ [(⟨client, seq, r115.1⟩ : DEntry)]).take ((r146.list ++ [(⟨client, seq, r115.1⟩ : DEntry)]).length)).drop 1, r357⟩ : DDoc), r175, 0)) else (some ((⟨r146.name, r146.from_, r146.text, r146.list ++ [(⟨client, seq, r115.1⟩ : DEntry)], r357⟩ : DDoc), r175, 0))))))))
noncomputable def con_impl_Submit : Con := ⟨59, [.val false (.b 7), .val false (.b 0), .val false (.b 0), .val false (.b 0), .val false (.sl (.b 4))], [⟨true, .b 7, false⟩, ⟨true, .b 0, false⟩, ⟨true, .b 0, false⟩], fun a => Z7 a.1 a.2.1 a.2.2.1 a.2.2.2.1 a.2.2.2.2.1⟩
noncomputable def Alp : Ctx := ⟨169, [Aka, con_impl_Apply, con_impl_DocOk, con_impl_HeadRev, con_impl_OpOk, con_impl_Rebase, con_impl_SeenOf, con_impl_copyDoc, con_impl_within], [⟨2, none, false, [.slot 19 (.sc 0)]⟩], false, false⟩
theorem A5i (a : PArgs con_impl_Submit.ps) : Ah Alp Tryz.f59.results.toList (Ab Tryz.f59) con_impl_Submit.ps con_impl_Submit.rs a = con_impl_Submit.x a := by kernel_rfl
theorem A2r {amb : List Rd} : Holds amb con_impl_Submit := Ai (C := Alp) (c := Ab Tryz.f59) (Aa A1z ( Aa Apv ( Aa Nr ( Aa Hu ( Aa Ns ( Aa A2k ( Aa A2o ( Aa Ap4 ( Aa Hb (Aj)))))))))) Tryz.func59 rfl Tryz.ntmps59 (by kernel_rfl) (by decide) fun a r h => (A5i a).trans (h)
noncomputable def Z5 (r_ : DRing) (e : DEntry) : Option DRing :=
 Option.bind (Pa r_) fun r14 => Option.bind (Ir r_) fun r26 => Option.bind (bif !r26 then (some true) else (Option.bind (Jo e) fun r39 => some (!r39))) fun c31 => Option.bind (bif c31 then (some true) else (some r_.out)) fun c44 => bif c44 then (some r14) else (bif decide ((r_.list.length : Int) = r_.cap) then (some (⟨r14.cap, r14.next, true, []⟩ : DRing)) else (Option.bind (O9 [e]) fun r79 => xg (r14.list.length + r79.length <= 1099511627776) <| some (⟨r14.cap, r14.next, r14.out, r14.list ++ r79⟩ : DRing)))
noncomputable def con_impl_RingPush : Con := ⟨60, [.val false (.b 8), .val false (.b 5)], [⟨true, .b 8, false⟩], fun a => Z5 a.1 a.2.1⟩
noncomputable def Alj : Ctx := ⟨38, [con_impl_EntryOk, con_impl_RingOk, con_impl_copyEntries, con_impl_copyRing], [], false, false⟩
theorem A5c (a : PArgs con_impl_RingPush.ps) : Ah Alj Tryz.f60.results.toList (Ab Tryz.f60) con_impl_RingPush.ps con_impl_RingPush.rs a = con_impl_RingPush.x a := by kernel_rfl
theorem A2m {amb : List Rd} : Holds amb con_impl_RingPush := Ai (C := Alj) (c := Ab Tryz.f60) (Aa Wv ( Aa Sj ( Aa Wx ( Aa Ab9 (Aj))))) Tryz.func60 rfl Tryz.ntmps60 (by kernel_rfl) (by decide) fun a r h => (A5c a).trans (h)
noncomputable def Awi (name : ByteArray) (r61 : DDoc × Int × Int) (_client : Int) (_seq : Int) (_o : List DPart) (k198 : Nat) (l199 : List DSub) : Option (Lr (List DSub) (List DSub)) :=
 bif decide ((el l199 k198).doc = name) then (xg (Ac ((r61.1.list.length : Int) - 1)) <| xg (0 <= ((r61.1.list.length : Int) - 1) /\ ((r61.1.list.length : Int) - 1) < (r61.1.list.length : Int)) <| Option.bind (Z5 ((el l199 k198).r) (⟨(el r61.1.list (((r61.1.list.length : Int) - 1).toNat)).client, (el r61.1.list (((r61.1.list.length : Int) - 1).toNat)).seq, (el r61.1.list (((r61.1.list.length : Int) - 1).toNat)).o⟩ : DEntry)) fun r294 => some (Lr.go (l199.set k198 (⟨(el l199 k198).id, (el l199 k198).doc, r294⟩ : DSub)))) else (some (Lr.go l199))
noncomputable def Agn (name : ByteArray) (r61 : DDoc × Int × Int) (client : Int) (seq : Int) (o : List DPart) (k198 : Nat) (s316 : List DSub) : Option (Lr (List DSub) (List DSub)) := Awi name r61 client seq o k198 s316
noncomputable def Zw (h : DHub) (name : ByteArray) (client : Int) (seq : Int) (base : Int) (o : List DPart) : Option (DHub × Int × Int) :=
 Option.bind (Jp h name) fun r13 => Option.bind (Gi h) fun r18 => bif !r18 then (some ((⟨false, [], [], 0⟩ : DHub), 0, 1)) else (bif h.shut then (some ((⟨false, [], [], 0⟩ : DHub), 0, 12)) else (bif decide (r13 < 0) then (some ((⟨false, [], [], 0⟩ : DHub), 0, 6)) else (xg (0 <= r13 /\ r13 < (h.docs.length : Int)) <| Option.bind (Z7 (el h.docs r13.toNat) client seq base o) fun r61 => bif !decide (r61.2.2 = 0) then (some ((⟨false, [], [], 0⟩ : DHub), 0, r61.2.2)) else (Option.bind (Dw h) fun r91 => xg (0 <= r13 /\ r13 < (r91.docs.length : Int)) <| Option.bind (Dn r61.1) fun r114 => xg (0 <= r13 /\ r13 < (h.docs.length : Int)) <| Option.bind (Dn (el h.docs r13.toNat)) fun r130 => bif decide (r130 < r114) then (Option.bind (Aq (Agn name r61 client seq o) (fun (s316 : List DSub) => (s316 : List DSub)) r91.subs.length 0 r91.subs) fun (y317 : List DSub) => some ((⟨r91.shut, r91.docs.set r13.toNat r61.1, y317, r91.last⟩ : DHub), r61.2.1, 0)) else (some ((⟨r91.shut, r91.docs.set r13.toNat r61.1, r91.subs, r91.last⟩ : DHub), r61.2.1, 0))))))
noncomputable def con_impl_HubSubmit : Con := ⟨27, [.val false (.b 10), .val false (.b 2), .val false (.b 0), .val false (.b 0), .val false (.b 0), .val false (.sl (.b 4))], [⟨true, .b 10, false⟩, ⟨true, .b 0, false⟩, ⟨true, .b 0, false⟩], fun a => Zw a.1 a.2.1 a.2.2.1 a.2.2.2.1 a.2.2.2.2.1 a.2.2.2.2.2.1⟩
noncomputable def Ak2 : Ctx := ⟨103, [con_impl_HeadRev, con_impl_HubDoc, con_impl_HubOk, con_impl_RingPush, con_impl_Submit, con_impl_copyHub], [⟨1, some (75, 74), false, [.inp 73 (.b 9)]⟩], false, false⟩
theorem A4v (a : PArgs con_impl_HubSubmit.ps) : Ah Ak2 Tryz.f27.results.toList (Ab Tryz.f27) con_impl_HubSubmit.ps con_impl_HubSubmit.rs a = con_impl_HubSubmit.x a := by kernel_rfl
theorem A2c {amb : List Rd} : Holds amb con_impl_HubSubmit := Ai (C := Ak2) (c := Ab Tryz.f27) (Aa Hu ( Aa P2 ( Aa Lp ( Aa A2m ( Aa A2r ( Aa Lq (Aj))))))) Tryz.func27 rfl Tryz.ntmps27 (by kernel_rfl) (by decide) fun a r h => (A4v a).trans (h)
noncomputable def K7 (d : DDoc) : Option (List Int) :=
 Option.bind (Dn d) fun r8 => Option.bind (O6 d r8) fun r11 => some r11.1
noncomputable def con_impl_HeadText : Con := ⟨13, [.val false (.b 7)], [⟨true, .sl (.b 0), false⟩], fun a => K7 a.1⟩
noncomputable def Aks : Ctx := ⟨13, [con_impl_HeadRev, con_impl_TextAt], [], false, false⟩
theorem A4l (a : PArgs con_impl_HeadText.ps) : Ah Aks Tryz.f13.results.toList (Ab Tryz.f13) con_impl_HeadText.ps con_impl_HeadText.rs a = con_impl_HeadText.x a := by kernel_rfl
theorem Ab7 {amb : List Rd} : Holds amb con_impl_HeadText := Ai (C := Aks) (c := Ab Tryz.f13) (Aa Hu ( Aa Ab8 (Aj))) Tryz.func13 rfl Tryz.ntmps13 (by kernel_rfl) (by decide) fun a r h => (A4l a).trans (h)
noncomputable def Zs (d : DDoc) (rev : Int) : Option (List DEntry × Int) :=
 Option.bind (Hk d) fun r8 => bif !r8 then (some ([], 1)) else (Option.bind (Up d rev) fun r16 => bif !decide (r16 = 0) then (some ([], r16)) else (xg (Ac (rev - d.from_)) <| xg (0 <= (rev - d.from_) /\ (rev - d.from_) <= (d.list.length : Int)) <| Option.bind (O9 ((d.list.take d.list.length).drop ((rev - d.from_).toNat))) fun r34 => some (r34, 0)))
noncomputable def con_impl_Fetch : Con := ⟨61, [.val false (.b 7), .val false (.b 0)], [⟨true, .sl (.b 5), false⟩, ⟨true, .b 0, false⟩], fun a => Zs a.1 a.2.1⟩
noncomputable def Akp : Ctx := ⟨24, [con_impl_DocOk, con_impl_atBase, con_impl_copyEntries], [], false, false⟩
theorem A4i (a : PArgs con_impl_Fetch.ps) : Ah Akp Tryz.f61.results.toList (Ab Tryz.f61) con_impl_Fetch.ps con_impl_Fetch.rs a = con_impl_Fetch.x a := by kernel_rfl
theorem A14 {amb : List Rd} : Holds amb con_impl_Fetch := Ai (C := Akp) (c := Ab Tryz.f61) (Aa Nr ( Aa Ap3 ( Aa Wx (Aj)))) Tryz.func61 rfl Tryz.ntmps61 (by kernel_rfl) (by decide) fun a r h => (A4i a).trans (h)
noncomputable def Ur (h : DHub) (c : DCall) : Option DAnswer :=
 Option.bind (Jp h c.doc) fun r16 => bif h.shut then (some (⟨12, 0, [], []⟩ : DAnswer)) else (bif decide (r16 < 0) then (some (⟨6, 0, [], []⟩ : DAnswer)) else (bif decide (c.kind = 4) then (xg (0 <= r16 /\ r16 < (h.docs.length : Int)) <| xg (0 <= r16 /\ r16 < (h.docs.length : Int)) <| Option.bind (K7 (el h.docs r16.toNat)) fun r62 => Option.bind (Dn (el h.docs r16.toNat)) fun r70 => some (⟨0, r70, r62, []⟩ : DAnswer)) else (xg (0 <= r16 /\ r16 < (h.docs.length : Int)) <| Option.bind (Zs (el h.docs r16.toNat) c.n) fun r95 => some (⟨r95.2, 0, [], r95.1⟩ : DAnswer))))
noncomputable def con_impl_look : Con := ⟨28, [.val false (.b 10), .val false (.b 12)], [⟨true, .b 11, false⟩], fun a => Ur a.1 a.2.1⟩
noncomputable def Al0 : Ctx := ⟨51, [con_impl_Fetch, con_impl_HeadRev, con_impl_HeadText, con_impl_HubDoc], [], false, false⟩
theorem A5t (a : PArgs con_impl_look.ps) : Ah Al0 Tryz.f28.results.toList (Ab Tryz.f28) con_impl_look.ps con_impl_look.rs a = con_impl_look.x a := by kernel_rfl
theorem A2t {amb : List Rd} : Holds amb con_impl_look := Ai (C := Al0) (c := Ab Tryz.f28) (Aa A14 ( Aa Hu ( Aa Ab7 ( Aa P2 (Aj))))) Tryz.func28 rfl Tryz.ntmps28 (by kernel_rfl) (by decide) fun a r h => (A5t a).trans (h)
noncomputable def Um (room : Int) (rev : Int) : Option (DRing × Bool) :=
 xg (Ac (rev + 1)) <| Option.bind (Ir (⟨room, rev + 1, false, []⟩ : DRing)) fun r18 => bif !r18 then (some ((⟨0, 0, false, []⟩ : DRing), false)) else (some ((⟨room, rev + 1, false, []⟩ : DRing), true))
noncomputable def con_impl_RingNew : Con := ⟨62, [.val false (.b 0), .val false (.b 0)], [⟨true, .b 8, false⟩, ⟨true, .b 1, false⟩], fun a => Um a.1 a.2.1⟩
noncomputable def Alg : Ctx := ⟨16, [con_impl_RingOk], [], false, false⟩
theorem A49 (a : PArgs con_impl_RingNew.ps) : Ah Alg Tryz.f62.results.toList (Ab Tryz.f62) con_impl_RingNew.ps con_impl_RingNew.rs a = con_impl_RingNew.x a := by kernel_rfl
theorem Ap1 {amb : List Rd} : Holds amb con_impl_RingNew := Ai (C := Alg) (c := Ab Tryz.f62) (Aa Sj (Aj)) Tryz.func62 rfl Tryz.ntmps62 (by kernel_rfl) (by decide) fun a r h => (A49 a).trans (h)
noncomputable def Uj (h : DHub) (name : ByteArray) (room : Int) : Option (DHub × Int × Int) :=
 Option.bind (Jp h name) fun r13 => Option.bind (Gi h) fun r18 => Option.bind (bif !r18 then (some true) else (Option.bind (Cv room 1 6) fun r31 => some (!r31))) fun c23 => bif c23 then (some ((⟨false, [], [], 0⟩ : DHub), 0, 1)) else (bif h.shut then (some ((⟨false, [], [], 0⟩ : DHub), 0, 12)) else (bif decide (r13 < 0) then (some ((⟨false, [], [], 0⟩ : DHub), 0, 6)) else (Option.bind (bif decide ((h.subs.length : Int) = 6) then (some true) else (some (decide (h.last = 1000000000)))) fun c62 => bif c62 then (some ((⟨false, [], [], 0⟩ : DHub), 0, 10)) else (Option.bind (Dw h) fun r77 => xg (Ac (r77.last + 1)) <| xg (0 <= r13 /\ r13 < (h.docs.length : Int)) <| Option.bind (Dn (el h.docs r13.toNat)) fun r111 => Option.bind (Um room r111) fun r114 => xg (r77.subs.length < 1099511627776) <| some ((⟨r77.shut, r77.docs, r77.subs ++ [(⟨r77.last + 1, name, r114.1⟩ : DSub)], r77.last + 1⟩ : DHub), r77.last + 1, 0)))))
noncomputable def con_impl_HubSubscribe : Con := ⟨29, [.val false (.b 10), .val false (.b 2), .val false (.b 0)], [⟨true, .b 10, false⟩, ⟨true, .b 0, false⟩, ⟨true, .b 0, false⟩], fun a => Uj a.1 a.2.1 a.2.2.1⟩
noncomputable def Ak3 : Ctx := ⟨75, [con_impl_HeadRev, con_impl_HubDoc, con_impl_HubOk, con_impl_RingNew, con_impl_copyHub, con_impl_within], [], false, false⟩
theorem A4w (a : PArgs con_impl_HubSubscribe.ps) : Ah Ak3 Tryz.f29.results.toList (Ab Tryz.f29) con_impl_HubSubscribe.ps con_impl_HubSubscribe.rs a = con_impl_HubSubscribe.x a := by kernel_rfl
theorem A2d {amb : List Rd} : Holds amb con_impl_HubSubscribe := Ai (C := Ak3) (c := Ab Tryz.f29) (Aa Hu ( Aa P2 ( Aa Lp ( Aa Ap1 ( Aa Lq ( Aa Hb (Aj))))))) Tryz.func29 rfl Tryz.ntmps29 (by kernel_rfl) (by decide) fun a r h => (A4w a).trans (h)
noncomputable def Zv (s : DSub) (p : Int) : Option (Bool × Int) :=
 some (decide (s.id = p), p)
noncomputable def con_impl_HubSub_1 : Con := ⟨102, [.val false (.b 9), .box .ow (.b 0)], [⟨true, .b 1, false⟩], fun a => Zv a.1 a.2.1⟩
noncomputable def Ak1 : Ctx := ⟨8, [], [], false, false⟩
theorem A4u (a : PArgs con_impl_HubSub_1.ps) : Ah Ak1 Tryz.f102.results.toList (Ab Tryz.f102) con_impl_HubSub_1.ps con_impl_HubSub_1.rs a = con_impl_HubSub_1.x a := by kernel_rfl
theorem A2b {amb : List Rd} : Holds amb con_impl_HubSub_1 := Ai (C := Ak1) (c := Ab Tryz.f102) (Aj) Tryz.func102 rfl Tryz.ntmps102 (by kernel_rfl) (by decide) fun a r h => (A4u a).trans (h)
noncomputable def Ag8 (_s : List DSub) (k25 : Nat) (x63 : DSub) (n26 : Int) : Option (Lr Int (Sum Int (Int × Int))) :=
 Option.bind (Zv x63 n26) fun r56 => bif r56.1 then (some (Lr.out (Sum.inr (((k25 : Int), r56.2))))) else (some (Lr.go r56.2))
noncomputable def Ag9 (s : List DSub) (k25 : Nat) (s64 : Int) : Option (Lr Int (Sum Int (Int × Int))) := Ag8 s k25 (el s k25) s64
noncomputable def Uy (s : List DSub) (c : Int) : Option (Int × Int) :=
 Option.bind (Aq (Ag9 s) (fun (s64 : Int) => (Sum.inl s64 : Sum Int (Int × Int))) s.length 0 c) fun (y65 : Sum Int (Int × Int)) => Sum.elim (fun y66 => some (-1, y66)) (fun y67 => some (y67.1, y67.2)) y65
noncomputable def con_slices_IndexFunc_impl_Sub_impl_Sub : Con := ⟨101, [.val false (.sl (.b 9)), .fn 102 1, .cap .ow (.b 0)], [⟨true, .b 0, false⟩], fun a => Uy a.1 a.2.1⟩
noncomputable def Ami : Ctx := ⟨19, [con_impl_HubSub_1], [⟨0, some (8, 7), true, [.box 1 1 [.sc 0]]⟩], false, false⟩
noncomputable def Aye (_s : List DSub) (k73 : Nat) (x111 : DSub) (n74 : Int) : Option (Lr Int (Sum Int (Int × Int))) :=
 Option.bind (Zv x111 n74) fun r104 => bif r104.1 then (some (Lr.out (Sum.inr ((k73 : Int), r104.2)))) else (some (Lr.go r104.2))
noncomputable def Ayf (s : List DSub) (k73 : Nat) (s112 : Int) : Option (Lr Int (Sum Int (Int × Int))) := Aye s k73 (el s k73) s112
noncomputable def Aiu (s : List DSub) (c : Int) : Option (Int × Int) :=
 Option.bind (Aq (Ayf s) (fun (s112 : Int) => (Sum.inl s112 : Sum Int (Int × Int))) s.length 0 c) fun (y113 : Sum Int (Int × Int)) => Sum.elim (fun y114 => some (-1, y114)) (fun y115 => some y115) y113
theorem Bka (s : List DSub) (c : Int) : Aiu s c = Uy s c := by
 simp only [Ag8, Ag9, Uy, Aye, Ayf, Aiu, Bt, B4, B3, B5, Ca, Cb, B7, B8]
theorem A6b (a : PArgs con_slices_IndexFunc_impl_Sub_impl_Sub.ps) : Ah Ami Tryz.f101.results.toList (Ab Tryz.f101) con_slices_IndexFunc_impl_Sub_impl_Sub.ps con_slices_IndexFunc_impl_Sub_impl_Sub.rs a = Aiu a.1 a.2.1 := by kernel_rfl
theorem A23 {amb : List Rd} : Holds amb con_slices_IndexFunc_impl_Sub_impl_Sub := Ai (C := Ami) (c := Ab Tryz.f101) (Aa A2b (Aj)) Tryz.func101 rfl Tryz.ntmps101 (by kernel_rfl) (by decide) fun a r h => (A6b a).trans ((Bka a.1 a.2.1).trans h)
noncomputable def Ui (h : DHub) (id_ : Int) : Option Int :=
 Option.bind (Uy h.subs id_) fun r13 => some r13.1
noncomputable def con_impl_HubSub : Con := ⟨63, [.val false (.b 10), .val false (.b 0)], [⟨true, .b 0, false⟩], fun a => Ui a.1 a.2.1⟩
noncomputable def Ak0 : Ctx := ⟨9, [con_slices_IndexFunc_impl_Sub_impl_Sub], [], false, false⟩
theorem A4t (a : PArgs con_impl_HubSub.ps) : Ah Ak0 Tryz.f63.results.toList (Ab Tryz.f63) con_impl_HubSub.ps con_impl_HubSub.rs a = con_impl_HubSub.x a := by kernel_rfl
theorem Apx {amb : List Rd} : Holds amb con_impl_HubSub := Ai (C := Ak0) (c := Ab Tryz.f63) (Aa A23 (Aj)) Tryz.func63 rfl Tryz.ntmps63 (by kernel_rfl) (by decide) fun a r h => (A4t a).trans (h)
noncomputable def Z4 (r_ : DRing) (n : Int) : Option (DRing × List DEntry × Int) :=
 Option.bind (Pa r_) fun r12 => Option.bind (Ir r_) fun r24 => Option.bind (bif !r24 then (some true) else (some (decide (n < 1)))) fun c29 => bif c29 then (some (r12, [], 1)) else (bif r_.out then (some (r12, [], 9)) else (xg (0 <= (min n (r_.list.length : Int)) /\ (min n (r_.list.length : Int)) = (min n (r_.list.length : Int)) /\ (min n (r_.list.length : Int)) <= (r12.list.length : Int)) <| xg (0 <= (min n (r_.list.length : Int)) /\ (min n (r_.list.length : Int)) <= (r12.list.length : Int)) <| xg (((min n (r_.list.length : Int)).toNat) <= ((min n (r_.list.length : Int)).toNat) /\ ((min n (r_.list.length : Int)).toNat) <= r12.list.length) <| xg (Ac (r12.next + (min n (r_.list.length : Int)))) <| some ((⟨r12.cap, r12.next + (min n (r_.list.length : Int)), r12.out, (r12.list.take r12.list.length).drop ((min n (r_.list.length : Int)).toNat)⟩ : DRing), (r12.list.take ((min n (r_.list.length : Int)).toNat)).drop 0, 0)))
noncomputable def con_impl_RingPoll : Con := ⟨64, [.val false (.b 8), .val false (.b 0)], [⟨true, .b 8, false⟩, ⟨true, .sl (.b 5), false⟩, ⟨true, .b 0, false⟩], fun a => Z4 a.1 a.2.1⟩
noncomputable def Ali : Ctx := ⟨47, [con_impl_RingOk, con_impl_copyRing], [], false, false⟩
theorem A5b (a : PArgs con_impl_RingPoll.ps) : Ah Ali Tryz.f64.results.toList (Ab Tryz.f64) con_impl_RingPoll.ps con_impl_RingPoll.rs a = con_impl_RingPoll.x a := by kernel_rfl
theorem A2l {amb : List Rd} : Holds amb con_impl_RingPoll := Ai (C := Ali) (c := Ab Tryz.f64) (Aa Sj ( Aa Ab9 (Aj))) Tryz.func64 rfl Tryz.ntmps64 (by kernel_rfl) (by decide) fun a r h => (A5b a).trans (h)
noncomputable def Uf (h : DHub) (id_ : Int) (n : Int) : Option (DHub × List DEntry × Int) :=
 Option.bind (Ui h id_) fun r13 => Option.bind (Gi h) fun r18 => Option.bind (bif !r18 then (some true) else (some (decide (n < 1)))) fun c23 => bif c23 then (some ((⟨false, [], [], 0⟩ : DHub), [], 1)) else (bif decide (r13 < 0) then (some ((⟨false, [], [], 0⟩ : DHub), [], 8)) else (xg (0 <= r13 /\ r13 < (h.subs.length : Int)) <| Option.bind (Z4 ((el h.subs r13.toNat).r) n) fun r54 => bif !decide (r54.2.2 = 0) then (some ((⟨false, [], [], 0⟩ : DHub), [], r54.2.2)) else (Option.bind (Dw h) fun r82 => xg (0 <= r13 /\ r13 < (r82.subs.length : Int)) <| some ((⟨r82.shut, r82.docs, r82.subs.set r13.toNat (⟨(el r82.subs r13.toNat).id, (el r82.subs r13.toNat).doc, r54.1⟩ : DSub), r82.last⟩ : DHub), r54.2.1, 0))))
noncomputable def con_impl_HubPoll : Con := ⟨30, [.val false (.b 10), .val false (.b 0), .val false (.b 0)], [⟨true, .b 10, false⟩, ⟨true, .sl (.b 5), false⟩, ⟨true, .b 0, false⟩], fun a => Uf a.1 a.2.1 a.2.2.1⟩
noncomputable def Akx : Ctx := ⟨56, [con_impl_HubOk, con_impl_HubSub, con_impl_RingPoll, con_impl_copyHub], [], false, false⟩
theorem A4q (a : PArgs con_impl_HubPoll.ps) : Ah Akx Tryz.f30.results.toList (Ab Tryz.f30) con_impl_HubPoll.ps con_impl_HubPoll.rs a = con_impl_HubPoll.x a := by kernel_rfl
theorem A18 {amb : List Rd} : Holds amb con_impl_HubPoll := Ai (C := Akx) (c := Ab Tryz.f30) (Aa Lp ( Aa Apx ( Aa A2l ( Aa Lq (Aj))))) Tryz.func30 rfl Tryz.ntmps30 (by kernel_rfl) (by decide) fun a r h => (A4q a).trans (h)
noncomputable def Z6 (r_ : DRing) (rev : Int) : Option (DRing × Bool) :=
 Option.bind (Ir r_) fun r11 => bif !r11 then (some ((⟨0, 0, false, []⟩ : DRing), false)) else (Option.bind (Um r_.cap rev) fun r22 => some (r22.1, r22.2))
noncomputable def con_impl_RingResync : Con := ⟨65, [.val false (.b 8), .val false (.b 0)], [⟨true, .b 8, false⟩, ⟨true, .b 1, false⟩], fun a => Z6 a.1 a.2.1⟩
noncomputable def Alk : Ctx := ⟨16, [con_impl_RingNew, con_impl_RingOk], [], false, false⟩
theorem A5d (a : PArgs con_impl_RingResync.ps) : Ah Alk Tryz.f65.results.toList (Ab Tryz.f65) con_impl_RingResync.ps con_impl_RingResync.rs a = con_impl_RingResync.x a := by kernel_rfl
theorem A2n {amb : List Rd} : Holds amb con_impl_RingResync := Ai (C := Alk) (c := Ab Tryz.f65) (Aa Ap1 ( Aa Sj (Aj))) Tryz.func65 rfl Tryz.ntmps65 (by kernel_rfl) (by decide) fun a r h => (A5d a).trans (h)
noncomputable def Ug (h : DHub) (id_ : Int) : Option (DHub × List Int × Int × Int) :=
 Option.bind (Ui h id_) fun r14 => Option.bind (Gi h) fun r19 => bif !r19 then (some ((⟨false, [], [], 0⟩ : DHub), [], 0, 1)) else (bif decide (r14 < 0) then (some ((⟨false, [], [], 0⟩ : DHub), [], 0, 8)) else (xg (0 <= r14 /\ r14 < (h.subs.length : Int)) <| Option.bind (Jp h ((el h.subs r14.toNat).doc)) fun r50 => xg (0 <= r50 /\ r50 < (h.docs.length : Int)) <| Option.bind (Dw h) fun r76 => xg (0 <= r14 /\ r14 < (h.subs.length : Int)) <| Option.bind (Dn (el h.docs r50.toNat)) fun r103 => Option.bind (Z6 ((el h.subs r14.toNat).r) r103) fun r106 => xg (0 <= r14 /\ r14 < (r76.subs.length : Int)) <| Option.bind (K7 (el h.docs r50.toNat)) fun r127 => Option.bind (Dn (el h.docs r50.toNat)) fun r135 => some ((⟨r76.shut, r76.docs, r76.subs.set r14.toNat (⟨(el r76.subs r14.toNat).id, (el r76.subs r14.toNat).doc, r106.1⟩ : DSub), r76.last⟩ : DHub), r127, r135, 0)))
noncomputable def con_impl_HubResync : Con := ⟨31, [.val false (.b 10), .val false (.b 0)], [⟨true, .b 10, false⟩, ⟨true, .sl (.b 0), false⟩, ⟨true, .b 0, false⟩, ⟨true, .b 0, false⟩], fun a => Ug a.1 a.2.1⟩
noncomputable def Aky : Ctx := ⟨59, [con_impl_HeadRev, con_impl_HeadText, con_impl_HubDoc, con_impl_HubOk, con_impl_HubSub, con_impl_RingResync, con_impl_copyHub], [], false, false⟩
theorem A4r (a : PArgs con_impl_HubResync.ps) : Ah Aky Tryz.f31.results.toList (Ab Tryz.f31) con_impl_HubResync.ps con_impl_HubResync.rs a = con_impl_HubResync.x a := by kernel_rfl
theorem A19 {amb : List Rd} : Holds amb con_impl_HubResync := Ai (C := Aky) (c := Ab Tryz.f31) (Aa Hu ( Aa Ab7 ( Aa P2 ( Aa Lp ( Aa Apx ( Aa A2n ( Aa Lq (Aj)))))))) Tryz.func31 rfl Tryz.ntmps31 (by kernel_rfl) (by decide) fun a r h => (A4r a).trans (h)
noncomputable def Uh (h : DHub) : Option (DHub × Int) :=
 Option.bind (Gi h) fun r11 => bif !r11 then (some ((⟨false, [], [], 0⟩ : DHub), 1)) else (bif h.shut then (some ((⟨false, [], [], 0⟩ : DHub), 12)) else (Option.bind (Dw h) fun r28 => some ((⟨true, r28.docs, r28.subs, r28.last⟩ : DHub), 0)))
noncomputable def con_impl_HubShut : Con := ⟨32, [.val false (.b 10)], [⟨true, .b 10, false⟩, ⟨true, .b 0, false⟩], fun a => Uh a.1⟩
noncomputable def Akz : Ctx := ⟨18, [con_impl_HubOk, con_impl_copyHub], [], false, false⟩
theorem A4s (a : PArgs con_impl_HubShut.ps) : Ah Akz Tryz.f32.results.toList (Ab Tryz.f32) con_impl_HubShut.ps con_impl_HubShut.rs a = con_impl_HubShut.x a := by kernel_rfl
theorem A2a {amb : List Rd} : Holds amb con_impl_HubShut := Ai (C := Akz) (c := Ab Tryz.f32) (Aa Lp ( Aa Lq (Aj))) Tryz.func32 rfl Tryz.ntmps32 (by kernel_rfl) (by decide) fun a r h => (A4s a).trans (h)
noncomputable def Mw (h : DHub) (c : DCall) : Option (DHub × DAnswer) :=
 Option.bind (Gi h) fun r18 => Option.bind (bif !r18 then (some true) else (Option.bind (Zp c) fun r31 => some (!r31))) fun c23 => bif c23 then (Option.bind (Dw h) fun r36 => some (r36, (⟨1, 0, [], []⟩ : DAnswer))) else (bif decide (c.kind = 1) then (Option.bind (Zu h c.doc c.text) fun r65 => bif !decide (r65.2 = 0) then (Option.bind (Dw h) fun r86 => some (r86, (⟨r65.2, 0, [], []⟩ : DAnswer))) else (some (r65.1, (⟨r65.2, 0, [], []⟩ : DAnswer)))) else (bif decide (c.kind = 2) then (Option.bind (Zw h c.doc c.client c.seq c.n c.o) fun r127 => bif !decide (r127.2.2 = 0) then (Option.bind (Dw h) fun r152 => some (r152, (⟨r127.2.2, 0, [], []⟩ : DAnswer))) else (some (r127.1, (⟨r127.2.2, r127.2.1, [], []⟩ : DAnswer)))) else (bif decide (c.kind = 3) then (bif decide (c.kind = 3) then (Option.bind (Dw h) fun r185 => Option.bind (Ur h c) fun r195 => some (r185, r195)) else (bif decide (c.kind = 5) then (Option.bind (Uj h c.doc c.n) fun r221 => bif !decide (r221.2.2 = 0) then (Option.bind (Dw h) fun r246 => some (r246, (⟨r221.2.2, 0, [], []⟩ : DAnswer))) else (some (r221.1, (⟨r221.2.2, r221.2.1, [], []⟩ : DAnswer)))) else (bif decide (c.kind = 6) then (Option.bind (Uf h c.client c.n) fun r281 => bif !decide (r281.2.2 = 0) then (Option.bind (Dw h) fun r308 => some (r308, (⟨r281.2.2, 0, [], []⟩ : DAnswer))) else (some (r281.1, (⟨r281.2.2, 0, [], r281.2.1⟩ : DAnswer)))) else (bif decide (c.kind = 7) then (Option.bind (Ug h c.client) fun r341 => bif !decide (r341.2.2.2 = 0) then (Option.bind (Dw h) fun r372 => some (r372, (⟨r341.2.2.2, 0, [], []⟩ : DAnswer))) else (some (r341.1, (⟨r341.2.2.2, r341.2.2.1, r341.2.1, []⟩ : DAnswer)))) else (Option.bind (Uh h) fun r401 => bif !decide (r401.2 = 0) then (Option.bind (Dw h) fun r422 => some (r422, (⟨r401.2, 0, [], []⟩ : DAnswer))) else (some (r401.1, (⟨r401.2, 0, [], []⟩ : DAnswer)))))))) else (bif decide (c.kind = 4) then (Option.bind (Dw h) fun r455 => Option.bind (Ur h c) fun r465 => some (r455, r465)) else (bif decide (c.kind = 5) then (Option.bind (Uj h c.doc c.n) fun r491 => bif !decide (r491.2.2 = 0) then (Option.bind (Dw h) fun r516 => some (r516, (⟨r491.2.2, 0, [], []⟩ : DAnswer))) else (some (r491.1, (⟨r491.2.2, r491.2.1, [], []⟩ : DAnswer)))) else (bif decide (c.kind = 6) then (Option.bind (Uf h c.client c.n) fun r551 => bif !decide (r551.2.2 = 0) then (Option.bind (Dw h) fun r578 => some (r578, (⟨r551.2.2, 0, [], []⟩ : DAnswer))) else (some (r551.1, (⟨r551.2.2, 0, [], r551.2.1⟩ : DAnswer)))) else (bif decide (c.kind = 7) then (Option.bind (Ug h c.client) fun r611 => bif !decide (r611.2.2.2 = 0) then (Option.bind (Dw h) fun r642 => some (r642, (⟨r611.2.2.2, 0, [], []⟩ : DAnswer))) else (some (r611.1, (⟨r611.2.2.2, r611.2.2.1, r611.2.1, []⟩ : DAnswer)))) else (Option.bind (Uh h) fun r671 => bif !decide (r671.2 = 0) then (Option.bind (Dw h) fun r692 => some (r692, (⟨r671.2, 0, [], []⟩ : DAnswer))) else (some (r671.1, (⟨r671.2, 0, [], []⟩ : DAnswer)))))))))))
noncomputable def con_impl_Do : Con := ⟨9, [.val false (.b 10), .val false (.b 12)], [⟨true, .b 10, false⟩, ⟨true, .b 11, false⟩], fun a => Mw a.1 a.2.1⟩
noncomputable def Akk : Ctx := ⟨119, [con_impl_CallOk, con_impl_HubOk, con_impl_HubOpen, con_impl_HubPoll, con_impl_HubResync, con_impl_HubShut, con_impl_HubSubmit, con_impl_HubSubscribe, con_impl_copyHub, con_impl_look], [], false, false⟩
theorem A4d (a : PArgs con_impl_Do.ps) : Ah Akk Tryz.f9.results.toList (Ab Tryz.f9) con_impl_Do.ps con_impl_Do.rs a = con_impl_Do.x a := by kernel_rfl
theorem Apw {amb : List Rd} : Holds amb con_impl_Do := Ai (C := Akk) (c := Ab Tryz.f9) (Aa A10 ( Aa Lp ( Aa A17 ( Aa A18 ( Aa A19 ( Aa A2a ( Aa A2c ( Aa A2d ( Aa Lq ( Aa A2t (Aj))))))))))) Tryz.func9 rfl Tryz.ntmps9 (by kernel_rfl) (by decide) fun a r h => (A4d a).trans (h)
noncomputable def Awf (_l : List DCall) (_k84 : Nat) (x204 : DCall) (answers85 : List DAnswer) (b86 : Bool) (l87 : List DDoc) (l88 : List DSub) (n89 : Int) : Option (Lr (List DAnswer × Bool × List DDoc × List DSub × Int) (List DAnswer × Bool × List DDoc × List DSub × Int)) :=
 Option.bind (Mw (⟨b86, l87, l88, n89⟩ : DHub) x204) fun r166 => xg (answers85.length < 1099511627776) <| some (Lr.go (answers85 ++ [r166.2], r166.1.shut, r166.1.docs, r166.1.subs, r166.1.last))
noncomputable def Agd (l : List DCall) (k84 : Nat) (s205 : List DAnswer × Bool × List DDoc × List DSub × Int) : Option (Lr (List DAnswer × Bool × List DDoc × List DSub × Int) (List DAnswer × Bool × List DDoc × List DSub × Int)) := Awf l k84 (el l k84) s205.1 s205.2.1 s205.2.2.1 s205.2.2.2.1 s205.2.2.2.2
noncomputable def Ud (h : DHub) (l : List DCall) : Option (DHub × List DAnswer) :=
 Option.bind (Dw h) fun r11 => Option.bind (Aq (Agd l) (fun (s205 : List DAnswer × Bool × List DDoc × List DSub × Int) => ((s205.1, s205.2.1, s205.2.2.1, s205.2.2.2.1, s205.2.2.2.2) : List DAnswer × Bool × List DDoc × List DSub × Int)) l.length 0 ([], r11.shut, r11.docs, r11.subs, r11.last)) fun (y206 : List DAnswer × Bool × List DDoc × List DSub × Int) => some ((⟨y206.2.1, y206.2.2.1, y206.2.2.2.1, y206.2.2.2.2⟩ : DHub), y206.1)
noncomputable def con_impl_DoAll : Con := ⟨5, [.val false (.b 10), .val false (.sl (.b 12))], [⟨true, .b 10, false⟩, ⟨true, .sl (.b 11), false⟩], fun a => Ud a.1 a.2.1⟩
noncomputable def Akl : Ctx := ⟨34, [con_impl_Do, con_impl_copyHub], [⟨0, some (16, 15), false, [.slot 7 (.row (.b 11)), .box 6 0 [.sc 1, .row (.b 7), .row (.b 9), .sc 0]]⟩], false, false⟩
theorem A4e (a : PArgs con_impl_DoAll.ps) : Ah Akl Tryz.f5.results.toList (Ab Tryz.f5) con_impl_DoAll.ps con_impl_DoAll.rs a = con_impl_DoAll.x a := by kernel_rfl
theorem A12 {amb : List Rd} : Holds amb con_impl_DoAll := Ai (C := Akl) (c := Ab Tryz.f5) (Aa Apw ( Aa Lq (Aj))) Tryz.func5 rfl Tryz.ntmps5 (by kernel_rfl) (by decide) fun a r h => (A4e a).trans (h)
noncomputable def O5 (a : List Int) (b : List Int) : Option Bool :=
 Option.bind (M1 a b) fun r4 => some r4
noncomputable def con_impl_SignsSame : Con := ⟨12, [.val false (.sl (.b 0)), .val false (.sl (.b 0))], [⟨true, .b 1, false⟩], fun a => O5 a.1 a.2.1⟩
noncomputable def Alo : Ctx := ⟨8, [con_slices_Equal_int_int], [], false, false⟩
theorem A5h (a : PArgs con_impl_SignsSame.ps) : Ah Alo Tryz.f12.results.toList (Ab Tryz.f12) con_impl_SignsSame.ps con_impl_SignsSame.rs a = con_impl_SignsSame.x a := by kernel_rfl
theorem A2q {amb : List Rd} : Holds amb con_impl_SignsSame := Ai (C := Alo) (c := Ab Tryz.f12) (Aa Acb (Aj)) Tryz.func12 rfl Tryz.ntmps12 (by kernel_rfl) (by decide) fun a r h => (A5h a).trans (h)
noncomputable def Agh (_l : List DEntry) (_k6 : Nat) (x49 : DEntry) : Option (Lr Unit (Sum Unit Unit)) :=
 Option.bind (Jo x49) fun r41 => bif !r41 then (some (Lr.out (Sum.inr (())))) else (some (Lr.go ()))
noncomputable def Agi (l : List DEntry) (k6 : Nat) (_s50 : Unit) : Option (Lr Unit (Sum Unit Unit)) := Agh l k6 (el l k6)
noncomputable def O4 (t : List Int) (l : List DEntry) : Option (List Int × Bool) :=
 Option.bind (Aq (Agi l) (fun (_s50 : Unit) => (Sum.inl () : Sum Unit Unit)) l.length 0 ()) fun (y51 : Sum Unit Unit) => Sum.elim (fun _y52 => Option.bind (K8 l) fun r55 => Option.bind (Jn r55 t) fun r61 => some (r61.1, r61.2)) (fun _y53 => some ([], false)) y51
noncomputable def con_impl_Fold : Con := ⟨15, [.val false (.sl (.b 0)), .val false (.sl (.b 5))], [⟨true, .sl (.b 0), false⟩, ⟨true, .b 1, false⟩], fun a => O4 a.1 a.2.1⟩
noncomputable def Akq : Ctx := ⟨24, [con_impl_ApplyAll, con_impl_EntryOk, con_impl_opsOf], [⟨0, some (10, 9), true, []⟩], false, false⟩
noncomputable def Axg (_l : List DEntry) (_k75 : Nat) (x118 : DEntry) : Option (Lr Unit (Sum Unit (List Int × Bool))) :=
 Option.bind (Jo x118) fun r110 => bif !r110 then (some (Lr.out (Sum.inr ([], false)))) else (some (Lr.go ()))
noncomputable def Axh (l : List DEntry) (k75 : Nat) (_s119 : Unit) : Option (Lr Unit (Sum Unit (List Int × Bool))) := Axg l k75 (el l k75)
noncomputable def Aif (t : List Int) (l : List DEntry) : Option (List Int × Bool) :=
 Option.bind (Aq (Axh l) (fun (_s119 : Unit) => (Sum.inl () : Sum Unit (List Int × Bool))) l.length 0 ()) fun (y120 : Sum Unit (List Int × Bool)) => Sum.elim (fun _y121 => Option.bind (K8 l) fun r124 => Option.bind (Jn r124 t) fun r130 => some (r130.1, r130.2)) (fun y122 => some y122) y120
theorem Bjv (t : List Int) (l : List DEntry) : Aif t l = O4 t l := by
 simp only [Agh, Agi, O4, Axg, Axh, Aif, Bt, B4, B3, B5, Ca, Cb, B7, B8]
theorem A4j (a : PArgs con_impl_Fold.ps) : Ah Akq Tryz.f15.results.toList (Ab Tryz.f15) con_impl_Fold.ps con_impl_Fold.rs a = Aif a.1 a.2.1 := by kernel_rfl
theorem A15 {amb : List Rd} : Holds amb con_impl_Fold := Ai (C := Akq) (c := Ab Tryz.f15) (Aa Ab6 ( Aa Wv ( Aa Wz (Aj)))) Tryz.func15 rfl Tryz.ntmps15 (by kernel_rfl) (by decide) fun a r h => (A4j a).trans ((Bjv a.1 a.2.1).trans h)
noncomputable def Ag1 (r27 : DHub × List DAnswer) (_code : List UInt8) (_k55 : Nat) (x696 : DSub) : Option (Lr Unit (Sum Unit Unit)) :=
 Option.bind (Gk r27.1 (x696.doc)) fun r391 => bif decide (r391 < 0) then (some (Lr.out (Sum.inr (())))) else (xg (0 <= r391 /\ r391 < (r27.1.docs.length : Int)) <| bif x696.r.out then (Option.bind (Mw r27.1 (⟨6, ByteArray.empty, x696.id, 0, 1, [], []⟩ : DCall)) fun r424 => Option.bind (Mw r27.1 (⟨7, ByteArray.empty, x696.id, 0, 0, [], []⟩ : DCall)) fun r454 => Option.bind (La r454.1 (x696.id)) fun r483 => Option.bind (bif !decide (r424.2.code = 9) then (some true) else (some (!decide (r454.2.code = 0)))) fun c491 => Option.bind (bif c491 then (some true) else (Option.bind (Dn (el r27.1.docs r391.toNat)) fun r512 => some (!decide (r454.2.rev = r512)))) fun c500 => Option.bind (bif c500 then (some true) else (Option.bind (K7 (el r27.1.docs r391.toNat)) fun r541 => Option.bind (O5 r454.2.text r541) fun r549 => some (!r549))) fun c517 => Option.bind (bif c517 then (some true) else (some (decide (r483 < 0)))) fun c554 => Option.bind (bif c554 then (some true) else (xg (0 <= r483 /\ r483 < (r454.1.subs.length : Int)) <| some ((el r454.1.subs r483.toNat).r.out))) fun c561 => bif c561 then (some (Lr.out (Sum.inr (())))) else (some (Lr.go ()))) else (xg (Ac ((x696.r.next) - 1)) <| Option.bind (O6 (el r27.1.docs r391.toNat) ((x696.r.next) - 1)) fun r592 => Option.bind (O4 r592.1 (x696.r.list)) fun r606 => Option.bind (bif decide (((el r27.1.docs r391.toNat).from_) < (x696.r.next)) then (Option.bind (bif !r592.2 then (some true) else (some (!r606.2))) fun c662 => Option.bind (bif c662 then (some true) else (Option.bind (K7 (el r27.1.docs r391.toNat)) fun r684 => Option.bind (O5 r606.1 r684) fun r689 => some (!r689))) fun c669 => some c669) else (some false)) fun c623 => bif c623 then (some (Lr.out (Sum.inr (())))) else (some (Lr.go ()))))
noncomputable def Uv (r27 : DHub × List DAnswer) (code : List UInt8) (k55 : Nat) (_s697 : Unit) : Option (Lr Unit (Sum Unit Unit)) := Ag1 r27 code k55 (el r27.1.subs k55)
noncomputable def Q6 (code : List UInt8) : Option Bool :=
 bif decide ((1048576 : Int) < (code.length : Int)) then (some true) else (Option.bind (U6 code) fun r7 => Option.bind (U5 code r7) fun r21 => Option.bind (Ud r7 r21) fun r27 => Option.bind (Gi r27.1) fun r46 => bif !r46 then (some false) else (Option.bind (Aq (Uv r27 code) (fun (_s697 : Unit) => (Sum.inl () : Sum Unit Unit)) r27.1.subs.length 0 ()) fun (y698 : Sum Unit Unit) => Sum.elim (fun _y699 => some true) (fun _y700 => some false) y698))
noncomputable def con_laws_FnSubs : Con := ⟨3, [.val false (.sl (.b 3))], [⟨true, .b 1, false⟩], fun a => Q6 a.1⟩
noncomputable def Ame : Ctx := ⟨149, [con_impl_Do, con_impl_DoAll, con_impl_Fold, con_impl_HeadRev, con_impl_HeadText, con_impl_HubOk, con_impl_SignsSame, con_impl_TextAt, con_spec_HubDoc, con_spec_HubSub, con_spec_MakeCalls, con_spec_MakeHub], [⟨0, some (36, 35), true, []⟩], false, false⟩
noncomputable def Ax6 (r728 : DHub × List DAnswer) (_code : List UInt8) (_k756 : Nat) (x1397 : DSub) : Option (Lr Unit (Sum Unit Bool)) :=
 Option.bind (Gk r728.1 (x1397.doc)) fun r1092 => bif decide (r1092 < 0) then (some (Lr.out (Sum.inr false))) else (xg (0 <= r1092 /\ r1092 < (r728.1.docs.length : Int)) <| bif x1397.r.out then (Option.bind (Mw r728.1 (⟨6, ByteArray.empty, x1397.id, 0, 1, [], []⟩ : DCall)) fun r1125 => Option.bind (Mw r728.1 (⟨7, ByteArray.empty, x1397.id, 0, 0, [], []⟩ : DCall)) fun r1155 => Option.bind (La r1155.1 (x1397.id)) fun r1184 => Option.bind (bif !decide (r1125.2.code = 9) then (some true) else (some (!decide (r1155.2.code = 0)))) fun c1192 => Option.bind (bif c1192 then (some true) else (Option.bind (Dn (el r728.1.docs r1092.toNat)) fun r1213 => some (!decide (r1155.2.rev = r1213)))) fun c1201 => Option.bind (bif c1201 then (some true) else (Option.bind (K7 (el r728.1.docs r1092.toNat)) fun r1242 => Option.bind (O5 r1155.2.text r1242) fun r1250 => some (!r1250))) fun c1218 => Option.bind (bif c1218 then (some true) else (some (decide (r1184 < 0)))) fun c1255 => Option.bind (bif c1255 then (some true) else (xg (0 <= r1184 /\ r1184 < (r1155.1.subs.length : Int)) <| some ((el r1155.1.subs r1184.toNat).r.out))) fun c1262 => bif c1262 then (some (Lr.out (Sum.inr false))) else (some (Lr.go ()))) else (xg (Ac ((x1397.r.next) - 1)) <| Option.bind (O6 (el r728.1.docs r1092.toNat) ((x1397.r.next) - 1)) fun r1293 => Option.bind (O4 r1293.1 (x1397.r.list)) fun r1307 => Option.bind (bif decide (((el r728.1.docs r1092.toNat).from_) < (x1397.r.next)) then (Option.bind (bif !r1293.2 then (some true) else (some (!r1307.2))) fun c1363 => Option.bind (bif c1363 then (some true) else (Option.bind (K7 (el r728.1.docs r1092.toNat)) fun r1385 => Option.bind (O5 r1307.1 r1385) fun r1390 => some (!r1390))) fun c1370 => some c1370) else (some false)) fun c1324 => bif c1324 then (some (Lr.out (Sum.inr false))) else (some (Lr.go ()))))
noncomputable def Ax7 (r728 : DHub × List DAnswer) (code : List UInt8) (k756 : Nat) (_s1398 : Unit) : Option (Lr Unit (Sum Unit Bool)) := Ax6 r728 code k756 (el r728.1.subs k756)
noncomputable def Aiq (code : List UInt8) : Option Bool :=
 bif decide ((1048576 : Int) < (code.length : Int)) then (some true) else (Option.bind (U6 code) fun r708 => Option.bind (U5 code r708) fun r722 => Option.bind (Ud r708 r722) fun r728 => Option.bind (Gi r728.1) fun r747 => bif !r747 then (some false) else (Option.bind (Aq (Ax7 r728 code) (fun (_s1398 : Unit) => (Sum.inl () : Sum Unit Bool)) r728.1.subs.length 0 ()) fun (y1399 : Sum Unit Bool) => Sum.elim (fun _y1400 => some true) (fun y1401 => some y1401) y1399))
theorem Bj6 (code : List UInt8) : Aiq code = Q6 code := by
 simp only [Ag1, Uv, Q6, Ax6, Ax7, Aiq, Bt, B4, B6, B3, B5, cond_true, cond_false, Ca, Cb, B7, B8]
theorem A57 (a : PArgs con_laws_FnSubs.ps) : Ah Ame Tryz.f3.results.toList (Ab Tryz.f3) con_laws_FnSubs.ps con_laws_FnSubs.rs a = Aiq a.1 := by kernel_rfl
theorem A20 {amb : List Rd} : Holds amb con_laws_FnSubs := Ai (C := Ame) (c := Ab Tryz.f3) (Aa Apw ( Aa A12 ( Aa A15 ( Aa Hu ( Aa Ab7 ( Aa Lp ( Aa A2q ( Aa Ab8 ( Aa Ls ( Aa Acf ( Aa A29 ( Aa A3a (Aj))))))))))))) Tryz.func3 rfl Tryz.ntmps3 (by kernel_rfl) (by decide) fun a r h => (A57 a).trans ((Bj6 a.1).trans h)
end
section
open Go.RowKit
theorem A0p (w : World) (X S : Bs) (code : List UInt8) (s_code : Sv) (hS : SX X S w) (a_code_0 : (Ad 1 fY code).rd S w s_code.v) (oL : Sep [] X w) {r : Bool} (hx : Q6 code = some r) : Ret Tryz.prog 3 [s_code.v] w (KV X S w (bv r)) := by
 have h := A20 (amb := []) w X S ((code, ()) : PArgs con_laws_FnSubs.ps) [s_code.v] [] [] r (PIn.ro (t := .sl (.b 3)) (vs := [s_code.v]) ⟨s_code.v, [], rfl, a_code_0, rfl⟩ PIn.nil) oL hS (fun _ h => by cases h) hx
 refine h.mono fun u w' ⟨vs, own', rds, hu, hL, hG⟩ => ?_
 obtain ⟨lsR, lsO, own1, own2, rds1, rds2, e1, e2, e3, e4, e5⟩ := hL
 have e1' : [[Leaf.b r]] = lsR ++ lsO := e1
 cases lsO with
 | cons a l => exact e3.elim
 | nil =>
  rw [List.append_nil] at e1'
  subst e1'
  obtain ⟨o1, o2⟩ := e3
  obtain ⟨vs0, vals', own0, rds', bo, f1, f2, ⟨g1, g2, g3⟩, ⟨f3, f4⟩, f5, f6⟩ := e2
  match vs0, f1 with
  | [v], _ =>
   subst g1 g2 g3 f4 f3 f5 o1 e4
   obtain ⟨q1, F, q2, q3, _⟩ := hG
   obtain ⟨p1, F1, F2, p2, _⟩ := q2
   have hv : v = .bool r := p2.1
   subst hv
   exact ⟨(), hu, q1, F, p1, q3, fun _ hr => by cases hr⟩
end
section
section
variable {α : Type}
theorem Ae {p : Prop} [Decidable p] {x : Option α} (h : p) : xg p x = x := if_pos h
theorem Av {n : Int} {x : Option α} (h : -9223372036854775808 <= n) (k : n <= 9223372036854775807) : xg (Ac n) x = x := if_pos ⟨h, k⟩
theorem Ak {p : Prop} [Decidable p] {x y : α} (h : p) : (bif decide p then x else y) = x := by rw [decide_eq_true h]; rfl
theorem Ag {p : Prop} [Decidable p] {x y : α} (h : ¬ p) : (bif decide p then x else y) = y := by rw [decide_eq_false h]; rfl
theorem A7 {c : Bool} {x y : α} : (bif !c then x else y) = (bif c then y else x) := by cases c <;> rfl
theorem Bh {x y : α} : (bif true then x else y) = x := rfl
theorem An {x y : α} : (bif false then x else y) = y := rfl
end
section
variable {T : Type} [Inhabited T]
theorem Ao7 {l : List T} {i : Nat} {y : T} (h : i < l.length) : el (l.set i y) i = y := by unfold el; simp [List.getD_eq_getElem?_getD, h]
theorem Sa (p : List T) (x : T) (l : List T) : el (p ++ x :: l) p.length = x := by unfold el; simp [List.getD_eq_getElem?_getD]
omit [Inhabited T] in
theorem Bfo (p : List T) (x y : T) (l : List T) : (p ++ x :: l).set p.length y = p ++ y :: l := by simp
theorem Cl {l : List T} {i : Nat} (h : i < l.length) : el l i ∈ l := by rw [G9 h]; exact List.getElem_mem h
end
def wfY (_ : UInt8) : Prop := True
def wfL {T : Type} (p : T -> Prop) (l : List T) : Prop := l.length <= 9223372036854775807 /\ ∀ x ∈ l, p x
def Gg (_ : Int) : Prop := True
def smB (_ : Bool) : Prop := True
def Qv (s : ByteArray) : Prop := s.size <= 1099511627776
def Ef {T : Type} (p : T -> Prop) (l : List T) : Prop := l.length <= 1099511627776 /\ ∀ x ∈ l, p x
def Dm {T : Type} (c : T -> Nat) : List T -> Nat
 | [] => 0
 | x :: l => c x + Dm c l
theorem Avd {T : Type} {c : T -> Nat} : ∀ {l : List T} {x : T}, x ∈ l -> c x <= Dm c l
 | y :: l, x, h => by
  rcases List.mem_cons.1 h with rfl | h
  ·simp only [Dm]; omega
  ·have := Avd (c := c) h; simp only [Dm]; omega
def N5 {T : Type} (c : T -> Nat) (l : List T) : Nat := l.length + Dm c l
theorem Baf {T : Type} {c : T -> Nat} (h : ∀ x, c x = 0) (l : List T) : N5 c l = l.length := by
 have : Dm c l = 0 := by
  induction l with
  | nil => rfl
  | cons x l ih => simp only [Dm, h, ih]
 unfold N5; omega
def szI (_ : Int) : Nat := 0
theorem Afd (x : Int) (_ : szI x <= 1099511627776) : Gg x := trivial
theorem Au0 {T : Type} {c : T -> Nat} {p : T -> Prop} (h : ∀ x, c x <= 1099511627776 -> p x) (l : List T) (hl : N5 c l <= 1099511627776) : Ef p l := by
 unfold N5 at hl
 exact ⟨by omega, fun x hx => h x (by have := Avd (c := c) hx; omega)⟩
section
variable {T : Type} [Inhabited T]
end
end
section
section
variable {T σ ρ : Type} [Inhabited T]
theorem Ff {F : Nat -> σ -> Option (Lr σ ρ)} {e : σ -> ρ} (l : List T) (P : List T -> Nat -> σ -> Prop) (G : List T -> Nat -> σ -> ρ)
  (hn : ∀ s, P [] l.length s -> G [] l.length s = e s)
  (hs : ∀ x r k s, k < l.length -> el l k = x -> P (x :: r) k s -> (∃ s', F k s = some (.go s') /\ P r (k + 1) s' /\ G (x :: r) k s = G r (k + 1) s') \/ F k s = some (.out (G (x :: r) k s)))
  (s : σ) (h0 : P l 0 s) : Aq F e l.length 0 s = some (G l 0 s) := by
 have key : ∀ (r p : List T) (s : σ), p ++ r = l -> P r p.length s -> Aq F e r.length p.length s = some (G r p.length s) := by
  intro r
  induction r with
  | nil =>
   intro p s hp hP
   have hl : p.length = l.length := by rw [<- hp]; simp
   rw [hl] at hP ⊢
   show some (e s) = _
   rw [hn s hP]
  | cons x r ih =>
   intro p s hp hP
   have hk : p.length < l.length := by rw [<- hp]; simp
   have hx : el l p.length = x := by rw [<- hp]; exact Sa p x r
   have ih' := fun s' h => ih (p ++ [x]) s' (by simpa using hp) (by simpa using h)
   simp only [List.length_append, List.length_singleton] at ih'
   show (F p.length s).bind (fun z => z.on (Aq F e r.length (p.length + 1)) some) = _
   rcases hs x r p.length s hk hx hP with ⟨s', h1, h2, h3⟩ | h1
   ·rw [h1, h3]; exact ih' s' h2
   ·rw [h1]; rfl
 exact key l [] s rfl h0
theorem Ni {F : Nat -> σ -> Option (Lr σ ρ)} {e : σ -> ρ} (l : List T) (P : List T -> Nat -> σ -> Prop) (Q : List T -> Nat -> σ -> ρ -> Prop)
  (hn : ∀ s, P [] l.length s -> Q [] l.length s (e s))
  (hs : ∀ x r k s, k < l.length -> el l k = x -> P (x :: r) k s -> (∃ s', F k s = some (.go s') /\ P r (k + 1) s' /\ ∀ y, Q r (k + 1) s' y -> Q (x :: r) k s y) \/ ∃ y, F k s = some (.out y) /\ Q (x :: r) k s y)
  (s : σ) (h0 : P l 0 s) : ∃ y, Aq F e l.length 0 s = some y /\ Q l 0 s y := by
 have key : ∀ (r p : List T) (s : σ), p ++ r = l -> P r p.length s -> ∃ y, Aq F e r.length p.length s = some y /\ Q r p.length s y := by
  intro r
  induction r with
  | nil =>
   intro p s hp hP
   have hl : p.length = l.length := by rw [<- hp]; simp
   rw [hl] at hP ⊢
   exact ⟨e s, rfl, hn s hP⟩
  | cons x r ih =>
   intro p s hp hP
   have hk : p.length < l.length := by rw [<- hp]; simp
   have hx : el l p.length = x := by rw [<- hp]; exact Sa p x r
   have ih' := fun s' h => ih (p ++ [x]) s' (by simpa using hp) (by simpa using h)
   simp only [List.length_append, List.length_singleton] at ih'
   show ∃ y, (F p.length s).bind (fun z => z.on (Aq F e r.length (p.length + 1)) some) = some y /\ _
   rcases hs x r p.length s hk hx hP with ⟨s', h1, h2, h3⟩ | ⟨y, h1, h2⟩
   ·rw [h1]
    obtain ⟨y, h4, h5⟩ := ih' s' h2
    exact ⟨y, h4, h3 y h5⟩
   ·rw [h1]; exact ⟨y, rfl, h2⟩
 exact key l [] s rfl h0
theorem Kc {F : Nat -> σ -> Option (Lr σ ρ)} {e : σ -> ρ} (l : List T) (P : List T -> Nat -> σ -> Prop) (g : σ -> T -> σ)
  (hs : ∀ x r k s, k < l.length -> el l k = x -> P (x :: r) k s -> F k s = some (.go (g s x)) /\ P r (k + 1) (g s x))
  (s : σ) (h0 : P l 0 s) : Aq F e l.length 0 s = some (e (l.foldl g s)) :=
 Ff (F := F) (e := e) l P (fun r _ s => e (r.foldl g s)) (fun _ _ => rfl) (fun x r k s hk hx hP => .inl ⟨g s x, (hs x r k s hk hx hP).1, (hs x r k s hk hx hP).2, rfl⟩) s h0
theorem Ln {F : Nat -> Unit -> Option (Lr Unit ρ)} {a b : ρ} (l : List T) (p : T -> Bool) (hs : ∀ x k, k < l.length -> el l k = x -> F k () = some (bif p x then .go () else .out b)) :
  Aq F (fun _ => a) l.length 0 () = some (bif l.all p then a else b) :=
 Ff (F := F) (e := fun _ => a) l (fun _ _ _ => True) (fun r _ _ => bif r.all p then a else b) (fun _ _ => rfl) (fun x r k s hk hx _ => by
  have h := hs x k hk hx
  cases hp : p x with
  | true => exact .inl ⟨(), by rw [h, hp]; rfl, trivial, by simp [hp]⟩
  | false => exact .inr (by rw [h, hp]; simp [hp])) () trivial
theorem V6 [DecidableEq T] {F : Nat -> Unit -> Option (Lr Unit ρ)} {x y : ρ} (a b : List T) (hl : a.length = b.length)
  (hs : ∀ k, k < a.length -> k < b.length -> F k () = some (bif decide (el a k = el b k) then .go () else .out y)) :
  Aq F (fun _ => x) a.length 0 () = some (bif decide (a = b) then x else y) := by
 have h := Ff (F := F) (e := fun _ => x) a (fun r k _ => r.length + k = a.length) (fun r k _ => bif decide (r = b.drop k) then x else y) (fun s _ => by
  rw [hl, List.drop_length]; simp) (fun u r k s hk hx hP => by
  have hkb : k < b.length := by omega
  have hd : b.drop k = el b k :: b.drop (k + 1) := by rw [G9 hkb]; exact List.drop_eq_getElem_cons hkb
  rw [hs k hk hkb, hx]
  by_cases he : u = el b k
  ·refine .inl ⟨(), by rw [Ak he], by simp only [List.length_cons] at hP; omega, ?_⟩
   rw [hd, he]; simp
  ·refine .inr ?_
   rw [Ag he, hd, decide_eq_false (p := u :: r = el b k :: b.drop (k + 1)) (by simp [he])]; rfl) () (by simp)
 simpa using h
theorem Xf {f : σ -> Option (Lr σ ρ)} (P : σ -> Prop) (μ : σ -> Nat) (G : σ -> ρ) (hs : ∀ s, P s -> (∃ s', f s = some (.go s') /\ P s' /\ μ s' < μ s /\ G s = G s') \/ f s = some (.out (G s))) :
  ∀ (s : σ), P s -> Bj f s = some (G s) := by
 have key : ∀ (n : Nat) (s : σ), μ s < n -> P s -> Bj f s = some (G s) := by
  intro n
  induction n with
  | zero => intro s h; omega
  | succ n ih =>
   intro s hn hP
   rw [Arq]
   rcases hs s hP with ⟨s', h1, h2, h3, h4⟩ | h1
   ·rw [h1, h4]; exact ih s' (by omega) h2
   ·rw [h1]; rfl
 exact fun s h => key (μ s + 1) s (Nat.lt_succ_self _) h
theorem Ki {f : σ -> Option (Lr σ ρ)} (P : σ -> Prop) (μ : σ -> Nat) (Q : ρ -> Prop) (hs : ∀ s, P s -> (∃ s', f s = some (.go s') /\ P s' /\ μ s' < μ s) \/ ∃ r, f s = some (.out r) /\ Q r) :
  ∀ (s : σ), P s -> ∃ r, Bj f s = some r /\ Q r := by
 have key : ∀ (n : Nat) (s : σ), μ s < n -> P s -> ∃ r, Bj f s = some r /\ Q r := by
  intro n
  induction n with
  | zero => intro s h; omega
  | succ n ih =>
   intro s hn hP
   rw [Arq]
   rcases hs s hP with ⟨s', h1, h2, h3⟩ | ⟨r, h1, h2⟩
   ·rw [h1]; exact ih s' (by omega) h2
   ·rw [h1]; exact ⟨r, rfl, h2⟩
 exact fun s h => key (μ s + 1) s (Nat.lt_succ_self _) h
theorem Abj {l : List T} {i : Nat} (h : i < l.length) : l.drop i = el l i :: l.drop (i + 1) := by rw [G9 h]; exact List.drop_eq_getElem_cons h
end
theorem Ci {α : Type} {c : Bool} {a b : α} : (bif c then some a else some b) = some (bif c then a else b) := by cases c <;> rfl
theorem Eh {c a : Bool} : (bif c then a else false) = (c && a) := by cases c <;> rfl
theorem D2 {c a : Bool} : (bif c then true else a) = (c || a) := by cases c <;> rfl
theorem G6 {c a : Bool} : (bif c then false else a) = (!c && a) := by cases c <;> rfl
theorem H5 {c a : Bool} : (bif c then a else true) = (!c || a) := by cases c <;> rfl
theorem G5 {a b : Bool} (h : a = true ↔ b = true) : some a = some b := by rw [Bool.eq_iff_iff.2 h]
def Bm {T : Type} (f : T -> Int) : List T -> Int
 | [] => 0
 | x :: l => f x + Bm f l
theorem Mq {T : Type} (f : T -> Int) : ∀ (a b : List T), Bm f (a ++ b) = Bm f a + Bm f b
 | [], b => by simp [Bm]
 | x :: a, b => by simp only [List.cons_append, Bm, Mq f a b]; omega
theorem Ot {T : Type} {f : T -> Int} : ∀ {l : List T}, (∀ x ∈ l, 0 <= f x) -> 0 <= Bm f l
 | [], _ => Int.le_refl _
 | x :: l, h => by have := Ot (f := f) (l := l) (fun y hy => h y (by simp [hy])); have := h x (by simp); simp only [Bm]; omega
theorem Avb {T : Type} {f : T -> Int} {n : Int} : ∀ {l : List T}, (∀ x ∈ l, f x <= n) -> Bm f l <= n * l.length
 | [], _ => by simp [Bm]
 | x :: l, h => by
  have := Avb (f := f) (n := n) (l := l) (fun y hy => h y (by simp [hy])); have := h x (by simp)
  simp only [Bm, List.length_cons, Int.natCast_add, Int.mul_add, Int.natCast_one, Int.mul_one]; omega
theorem Avc {T : Type} (f : T -> Int) : ∀ (l : List T) (s : Int), l.foldl (fun s x => s + f x) s = s + Bm f l
 | [], s => by simp [Bm]
 | x :: l, s => by rw [List.foldl_cons, Avc f l]; simp only [Bm]; omega
theorem T1 {T : Type} {f g : T -> Int} : ∀ {l : List T}, (∀ x ∈ l, f x = g x) -> Bm f l = Bm g l
 | [], _ => rfl
 | x :: l, h => by simp only [Bm, h x (by simp), T1 (f := f) (g := g) (l := l) (fun y hy => h y (by simp [hy]))]
theorem A0y {T ρ : Type} [Inhabited T] {F : Nat -> Int -> Option (Lr Int ρ)} {e : Int -> ρ} (l : List T) (f : T -> Int) (m : Int) (hm : 0 <= m) (hl : m * l.length <= 4611686018427387904) (hf : ∀ x ∈ l, 0 <= f x /\ f x <= m)
  (hs : ∀ x k s, k < l.length -> el l k = x -> x ∈ l -> 0 <= s -> s <= 4611686018427387904 -> F k s = some (.go (s + f x))) : Aq F e l.length 0 0 = some (e (Bm f l)) := by
 have h := Kc (F := F) (e := e) l (fun r k s => 0 <= s /\ s + m * r.length <= 4611686018427387904) (fun s x => s + f x) (fun x r k s hk hx hP => by
  have hmem : x ∈ l := hx ▸ Cl hk
  have h2 := hf x hmem
  have h3 : 0 <= m * (r.length : Int) := Int.mul_nonneg hm (by omega)
  have h4 : m * ((x :: r).length : Int) = m * (r.length : Int) + m := by simp only [List.length_cons, Int.natCast_add, Int.mul_add, Int.natCast_one, Int.mul_one]
  rw [h4] at hP
  exact ⟨hs x k s hk hx hmem hP.1 (by omega), by omega, by omega⟩) 0 ⟨Int.le_refl _, by omega⟩
 rw [h, Avc, Int.zero_add]
end
theorem Adh (a : Nat) : ((a : Int) <= 200) ↔ a <= 200 := by omega
theorem Ase (a : Nat) : ((a : Int) <= 600) ↔ a <= 600 := by omega
def Cg (n : Int) : Bool := decide ((0 <= n /\ n <= 1114111) /\ ¬ (55296 <= n /\ n <= 57343))
def Bo (l : List Int) : Bool := decide (l.length <= 200) && l.all Cg
theorem Eu (n lo hi : Int) : Cv n lo hi = some (decide (lo <= n /\ n <= hi)) := by unfold Cv; simp only [Option.bind_some, Ci, Eh]; refine G5 ?_; simp
theorem E9 (n lo hi : Int) : Cw n lo hi = some (decide (lo <= n /\ n <= hi)) := by unfold Cw; simp only [Option.bind_some, Ci, Eh]; refine G5 ?_; simp
theorem A9e (n : Int) : Un n = some (Cg n) := by unfold Un Cg; simp only [Eu, Option.bind_some, Ci, Eh]; refine G5 ?_; simp; try omega
theorem Be1 (n : Int) : Va n = some (Cg n) := by unfold Va Cg; simp only [E9, Option.bind_some, Ci, Eh]; refine G5 ?_; simp; try omega
theorem Aq8 (l : List Int) : My l = some (l.all Cg) := by
 unfold My
 rw [Ln (b := .inr ()) l Cg (fun x k hk hx => by
  unfold Agt Ags; rw [hx, A9e]; cases Cg x <;> rfl)]
 cases l.all Cg <;> rfl
theorem Auk (l : List Int) : M3 l = some (l.all Cg) := by
 unfold M3
 rw [Ln (b := .inr ()) l Cg (fun x k hk hx => by
  unfold Ahu Aht; rw [hx, Be1]; cases Cg x <;> rfl)]
 cases l.all Cg <;> rfl
theorem Sn (l : List Int) : It l = some (Bo l) := by unfold It Bo; simp only [Aq8, Option.bind_some, Ci, Eh]; refine G5 ?_; simp; try omega
theorem Yx (l : List Int) : Ld l = some (Bo l) := by unfold Ld Bo; simp only [Auk, Option.bind_some, Ci, Eh]; refine G5 ?_; simp [Adh, and_comm]
def Au (p : DPart) : Bool :=
 if p.kind = 1 \/ p.kind = 3 then decide ((0 <= p.n /\ p.n <= 200) /\ p.signs.length = 0)
 else if p.kind = 2 then decide (p.n = 0 /\ p.signs.length <= 200) && p.signs.all Cg
 else false
theorem A88 (p : DPart) : Ul p = some (Au p) := by
 unfold Ul Au
 simp only [Eu, Aq8, Option.bind_some, Ci, Eh]
 refine G5 ?_
 by_cases h1 : p.kind = 1
 ·simp [h1]
 ·by_cases h3 : p.kind = 3
  ·simp [h3]
  ·by_cases h2 : p.kind = 2
   ·simp [h2, Adh, and_assoc]
   ·simp [h1, h2, h3]
theorem Beu (p : DPart) : U7 p = some (Au p) := by
 unfold U7 Au
 simp only [E9, Auk, Option.bind_some, Ci, Eh]
 refine G5 ?_
 by_cases h1 : p.kind = 1
 ·simp [h1]
 ·by_cases h3 : p.kind = 3
  ·simp [h3]
  ·by_cases h2 : p.kind = 2
   ·simp [h2, Adh, and_comm, and_left_comm, and_assoc]
   ·simp [h1, h2, h3]
def Cz (o : List DPart) : Bool := decide (o.length <= 600) && o.all Au
theorem Acw (o : List DPart) : M0 o = some (Cz o) := by
 unfold M0 Cz
 rw [Ln (b := .inr ()) o Au (fun x k hk hx => by
  unfold Agz Agy; rw [hx, A88]; cases Au x <;> rfl)]
 cases o.all Au <;> simp [Ase]
theorem Aez (o : List DPart) : M6 o = some (Cz o) := by
 unfold M6 Cz
 rw [Ln (b := .inr ()) o Au (fun x k hk hx => by
  unfold Ah3 Ah2; rw [hx, Beu]; cases Au x <;> rfl)]
 cases o.all Au <;> simp [Ase]
def Ch (p : DPart) : Int := if p.kind = 1 then p.n else 0
def Cc (p : DPart) : Int := if p.kind = 2 then p.signs.length else 0
def Co (p : DPart) : Int := if p.kind = 3 then p.n else 0
def Du (p : DPart) : Int := Ch p + Co p
def Jg (p : DPart) : Int := Ch p + Cc p
theorem Dd {p : DPart} (h : Au p = true) : (p.kind = 1 /\ 0 <= p.n /\ p.n <= 200 /\ p.signs = []) \/ (p.kind = 2 /\ p.n = 0 /\ p.signs.length <= 200 /\ p.signs.all Cg = true) \/ (p.kind = 3 /\ 0 <= p.n /\ p.n <= 200 /\ p.signs = []) := by
 unfold Au at h
 split at h
 ·rename_i hk
  simp at h
  rcases hk with hk | hk
  ·exact .inl ⟨hk, h.1.1, h.1.2, h.2⟩
  ·exact .inr (.inr ⟨hk, h.1.1, h.1.2, h.2⟩)
 ·split at h
  ·rename_i hk
   simp only [Bool.and_eq_true, decide_eq_true_eq] at h
   exact .inr (.inl ⟨hk, h.1.1, h.1.2, h.2⟩)
  ·cases h
theorem Je {p : DPart} (h : Au p = true) : p.signs.length <= 200 /\ 0 <= p.n /\ p.n <= 200 := by
 rcases Dd h with ⟨h1, h2, h3, h4⟩ | ⟨h1, h2, h3, h4⟩ | ⟨h1, h2, h3, h4⟩
 ·rw [h4]; exact ⟨by simp, h2, h3⟩
 ·exact ⟨h3, by omega, by omega⟩
 ·rw [h4]; exact ⟨by simp, h2, h3⟩
theorem F9 {o : List DPart} (h : Cz o = true) {p : DPart} (hp : p ∈ o) : Au p = true := by
 unfold Cz at h
 simp only [Bool.and_eq_true, List.all_eq_true] at h
 exact h.2 p hp
theorem Kq {o : List DPart} (h : Cz o = true) : o.length <= 600 := by
 unfold Cz at h
 simp only [Bool.and_eq_true, decide_eq_true_eq] at h
 exact h.1
def Be (o : List DPart) : Int := Bm Du o
def Ez (o : List DPart) : Int := Bm Jg o
def Bn (o : List DPart) : Int := Bm Cc o
def Ct (o : List DPart) : Int := Bm Co o
def Cj (o : List DPart) : Int := Bm Ch o
theorem Ou (o : List DPart) : Be o = Cj o + Ct o := by
 unfold Be Cj Ct
 induction o with
 | nil => rfl
 | cons p o ih => simp only [Bm, ih, Du]; omega
theorem Ov (o : List DPart) : Ez o = Cj o + Bn o := by
 unfold Ez Cj Bn
 induction o with
 | nil => rfl
 | cons p o ih => simp only [Bm, ih, Jg]; omega
theorem Rv {p : DPart} (h : Au p = true) : (0 <= Ch p /\ Ch p <= 200) /\ (0 <= Cc p /\ Cc p <= 200) /\ (0 <= Co p /\ Co p <= 200) /\ (0 <= Du p /\ Du p <= 200) /\ (0 <= Jg p /\ Jg p <= 200) := by
 unfold Du Jg Ch Cc Co
 rcases Dd h with ⟨h1, h2, h3, h4⟩ | ⟨h1, h2, h3, h4⟩ | ⟨h1, h2, h3, h4⟩ <;> simp [h1] <;> omega
theorem Rw {o : List DPart} (h : Cz o = true) : (0 <= Cj o /\ Cj o <= 120000) /\ (0 <= Bn o /\ Bn o <= 120000) /\ (0 <= Ct o /\ Ct o <= 120000) := by
 have hl := Kq h
 have key : ∀ (f : DPart -> Int), (∀ p, Au p = true -> 0 <= f p /\ f p <= 200) -> 0 <= Bm f o /\ Bm f o <= 120000 := fun f hf => by
  have h1 := Ot (f := f) (l := o) (fun x hx => (hf x (F9 h hx)).1)
  have h2 := Avb (f := f) (n := 200) (l := o) (fun x hx => (hf x (F9 h hx)).2)
  omega
 exact ⟨key _ fun p hp => (Rv hp).1, key _ fun p hp => (Rv hp).2.1, key _ fun p hp => (Rv hp).2.2.1⟩
theorem Are {p : DPart} (h : Au p = true) : Hl p = some (p.n + p.signs.length) := by
 unfold Hl
 have := Je h
 rw [Av (by omega) (by omega)]
theorem Arf (o : List DPart) (but : Int) : Uu o but = some (if Cz o then Bm (fun p => if p.kind = but then 0 else p.n + p.signs.length) o else 0) := by
 unfold Uu
 rw [Acw]
 simp only [Option.bind_some]
 cases h : Cz o with
 | false => rfl
 | true =>
  have hl := Kq h
  simp only [Bool.not_true, cond_false, if_true]
  rw [A0y o (fun p => if p.kind = but then 0 else p.n + p.signs.length) 200 (by decide) (by omega) (fun x hx => by
   rcases Dd (F9 h hx) with ⟨h1, h2, h3, h4⟩ | ⟨h1, h2, h3, h4⟩ | ⟨h1, h2, h3, h4⟩ <;> (try rw [h4]) <;> (try rw [h2]) <;> split <;> simp <;> omega) (fun x k s hk hx hm h0 hs => by
   have hp := F9 h hm
   unfold Awr Awq
   rw [hx, Are hp]
   have hc := Je hp
   by_cases hb : x.kind = but
   ·simp [hb]
   ·rw [A7, Ag hb, if_neg hb]
    simp only [Option.bind_some]
    rw [Av (by omega) (by omega)])]
  rfl
theorem W7 (o : List DPart) : Iq o = some (if Cz o then Be o else 0) := by
 unfold Iq
 rw [Arf]
 simp only [Option.bind_some]
 cases h : Cz o with
 | false => rfl
 | true =>
  simp only [if_true]
  rw [Be, T1 (f := fun p => if p.kind = 2 then 0 else p.n + p.signs.length) (g := Du) fun p hp => by
   unfold Du Ch Co
   rcases Dd (F9 h hp) with ⟨h1, h2, h3, h4⟩ | ⟨h1, h2, h3, h4⟩ | ⟨h1, h2, h3, h4⟩ <;> simp [h1, h4]]
theorem A86 (o : List DPart) : Z0 o = some (if Cz o then Ez o else 0) := by
 unfold Z0
 rw [Arf]
 simp only [Option.bind_some]
 cases h : Cz o with
 | false => rfl
 | true =>
  simp only [if_true]
  rw [Ez, T1 (f := fun p => if p.kind = 3 then 0 else p.n + p.signs.length) (g := Jg) fun p hp => by
   unfold Jg Ch Cc
   rcases Dd (F9 h hp) with ⟨h1, h2, h3, h4⟩ | ⟨h1, h2, h3, h4⟩ | ⟨h1, h2, h3, h4⟩ <;> simp [h1, h2, h4]]
def A5 (o : List DPart) : Bool := Cz o && decide (Be o <= 200) && decide (Ez o <= 200)
theorem N0 (o : List DPart) : E0 o = some (A5 o) := by
 unfold E0 A5
 simp only [Acw, W7, A86, Option.bind_some, Ci, Eh]
 cases Cz o <;> simp
theorem Aul (o : List DPart) : Vg o = some (if Cz o then (Cj o, Bn o, Ct o) else (0, 0, 0)) := by
 unfold Vg
 rw [Aez]
 simp only [Option.bind_some]
 cases h : Cz o with
 | false => rfl
 | true =>
  have hl := Kq h
  simp only [Bool.not_true, cond_false, if_true]
  have hm : ∀ p ∈ o, Au p = true := fun p hp => F9 h hp
  rw [Kc (F := Ah4 o) o (fun r k s => ((0 <= s.1 /\ s.1 <= 200 * k) /\ (0 <= s.2.1 /\ s.2.1 <= 200 * k) /\ (0 <= s.2.2 /\ s.2.2 <= 200 * k)) /\ k <= 600) (fun s x => (s.1 + Ch x, s.2.1 + Cc x, s.2.2 + Co x)) (fun x r k s hk hx hP => by
   have hp := hm x (hx ▸ Cl hk)
   obtain ⟨s1, s2, s3⟩ := s
   simp only at hP ⊢
   unfold Ah4 Aw2
   rw [hx]
   simp only
   unfold Ch Cc Co
   rcases Dd hp with ⟨h1, h2, h3, h4⟩ | ⟨h1, h2, h3, h4⟩ | ⟨h1, h2, h3, h4⟩
   ·rw [Ak h1, Av (by omega) (by omega)]; simp [h1]; omega
   ·rw [Ag (by omega), Ak h1, Av (by omega) (by omega)]; simp [h1]; omega
   ·rw [Ag (by omega), Ag (by omega), Av (by omega) (by omega)]; simp [h1]; omega) (0, 0, 0) (by simp)]
  simp only [Option.bind_some]
  have key : ∀ (l : List DPart) (a b c : Int), l.foldl (fun s x => (s.1 + Ch x, s.2.1 + Cc x, s.2.2 + Co x)) (a, b, c) = (a + Bm Ch l, b + Bm Cc l, c + Bm Co l) := by
   intro l
   induction l with
   | nil => intro a b c; simp [Bm]
   | cons x l ih => intro a b c; rw [List.foldl_cons, ih]; simp only [Bm, Int.add_assoc]
  rw [key]
  simp [Cj, Bn, Ct]
theorem Tr (o : List DPart) : Ju o = some (if Cz o then Be o else 0) := by
 unfold Ju
 rw [Aul, Ou]
 cases h : Cz o with
 | false => rfl
 | true => have := Rw h; simp only [Option.bind_some, if_true]; rw [Av (by omega) (by omega)]
theorem Bet (o : List DPart) : Aak o = some (if Cz o then Ez o else 0) := by
 unfold Aak
 rw [Aul, Ov]
 cases h : Cz o with
 | false => rfl
 | true => have := Rw h; simp only [Option.bind_some, if_true]; rw [Av (by omega) (by omega)]
theorem Ky (o : List DPart) : Fb o = some (A5 o) := by
 unfold Fb A5
 simp only [Aez, Tr, Bet, Option.bind_some, Ci, Eh]
 cases Cz o <;> simp
def Tw (x : DPart) : Prop := Gg x.kind /\ Gg x.n /\ (Ef Gg) x.signs
def Im (x : DPart) : Nat := (N5 szI) x.signs
theorem Bfv (x : DPart) (h : Im x <= 1099511627776) : Tw x := by unfold Im at h; exact ⟨Afd _ (by first | omega | exact Nat.zero_le _), Afd _ (by first | omega | exact Nat.zero_le _), (Au0 Afd) _ (by first | omega | exact Nat.zero_le _)⟩
def Gz (x : DEntry) : Prop := Gg x.client /\ Gg x.seq /\ (Ef Tw) x.o
def Bft (x : DSeen) : Prop := Gg x.client /\ Gg x.seq /\ Gg x.rev
def D0 (x : DDoc) : Prop := Qv x.name /\ Gg x.from_ /\ (Ef Gg) x.text /\ (Ef Gz) x.list /\ (Ef Bft) x.seen
def Bfs (x : DRing) : Prop := Gg x.cap /\ Gg x.next /\ smB x.out /\ (Ef Gz) x.list
def Bfu (x : DSub) : Prop := Gg x.id /\ Qv x.doc /\ Bfs x.r
def Afb (x : DHub) : Prop := smB x.shut /\ (Ef D0) x.docs /\ (Ef Bfu) x.subs /\ Gg x.last
theorem Acq (a b : List Int) : M1 a b = some (decide (a = b)) := by
 unfold M1
 by_cases hl : (a.length : Int) = (b.length : Int)
 ·rw [A7, Ak hl, V6 (y := .inr ()) a b (by omega) (fun k h1 h2 => by
   unfold Ag5 Ag4
   rw [Ae ⟨by omega, by omega⟩, A7, Ci])]
  cases decide (a = b) <;> rfl
 ·rw [A7, Ag hl, decide_eq_false (p := a = b) (fun h => hl (by rw [h]))]
theorem Be2 (a b : List Int) : Pd a b = some (decide (a = b)) := by
 unfold Pd
 by_cases hl : (a.length : Int) = (b.length : Int)
 ·rw [A7, Ak hl, V6 (y := .inr ()) a b (by omega) (fun k h1 h2 => by
   unfold Ahw Ahv
   rw [Ae ⟨by omega, by omega⟩, A7, Ci])]
  cases decide (a = b) <;> rfl
 ·rw [A7, Ag hl, decide_eq_false (p := a = b) (fun h => hl (by rw [h]))]
theorem Aq9 (a b : List Int) : O5 a b = some (decide (a = b)) := by unfold O5; rw [Acq]; rfl
theorem Tb (a b : DPart) : (a = b) ↔ (a.kind = b.kind /\ a.n = b.n /\ a.signs = b.signs) := by cases a; cases b; simp
theorem A9j (a b : DPart) : Ut a b = some (decide (a = b)) := by
 unfold Ut
 simp only [Acq, Option.bind_some, Ci, Eh]
 refine G5 ?_
 simp [Tb, and_assoc]
theorem Aq6 (a b : List DPart) : Uk a b = some (decide (a = b)) := by
 unfold Uk Uw
 by_cases hl : (a.length : Int) = (b.length : Int)
 ·rw [A7, Ak hl, V6 (y := .inr ()) a b (by omega) (fun k h1 h2 => by
   unfold Ag3 Ag2
   rw [Ae ⟨by omega, by omega⟩, A9j, Option.bind_some, A7, Ci])]
  cases decide (a = b) <;> rfl
 ·rw [A7, Ag hl, decide_eq_false (p := a = b) (fun h => hl (by rw [h]))]; rfl
theorem Bes (a b : List DPart) : Re a b = some (decide (a = b)) := by
 unfold Re
 by_cases hl : (a.length : Int) = (b.length : Int)
 ·rw [A7, Ak hl, V6 (y := .inr ()) a b (by omega) (fun k h1 h2 => by
   unfold Ahp Aho
   rw [Ae ⟨by omega, by omega⟩, Ae ⟨by omega, by omega⟩, Ae ⟨by omega, by omega⟩]
   simp only [Be2, Option.bind_some, Ci, D2, A7]
   by_cases h1 : (el a k).kind = (el b k).kind
   ·by_cases h2 : (el a k).n = (el b k).n
    ·by_cases h3 : (el a k).signs = (el b k).signs
     ·simp [Tb, h1, h2, h3]
     ·simp [Tb, h1, h2, h3]
    ·simp [Tb, h1, h2]
   ·simp [Tb, h1])]
  cases decide (a = b) <;> rfl
 ·rw [A7, Ag hl, decide_eq_false (p := a = b) (fun h => hl (by rw [h]))]
def Bu (b : DL02B) : List DPart := b.list ++ ((if b.put = [] then [] else [⟨2, 0, b.put⟩]) ++ (if 0 < b.drop then [⟨3, b.drop, []⟩] else []))
def Fd (L : List DPart) (n : Int) : List DPart :=
 if 0 < L.length /\ (el L (L.length - 1)).kind = 1 then L.set (L.length - 1) ⟨(el L (L.length - 1)).kind, (el L (L.length - 1)).n + n, (el L (L.length - 1)).signs⟩ else L ++ [⟨1, n, []⟩]
def Dp (b : DL02B) (n : Int) : DL02B := if 0 < n then ⟨Fd (Bu b) n, [], 0⟩ else b
def Hq (b : DL02B) (l : List Int) : DL02B := ⟨b.list, b.put ++ l, b.drop⟩
def Hp (b : DL02B) (n : Int) : DL02B := ⟨b.list, b.put, b.drop + n⟩
def Az (b : DL02B) (p : DPart) : DL02B := if p.kind = 2 then Hq b p.signs else if p.kind = 3 then Hp b p.n else Dp b p.n
def bNil : DL02B := ⟨[], [], 0⟩
def Bw (o : List DPart) : List DPart := Bu (o.foldl Az bNil)
structure Binv (b : DL02B) (m : Nat) : Prop where
 len : b.list.length <= 3 * m
 sz : Dm Im b.list + b.put.length <= 1000000 * m
 d0 : 0 <= b.drop
 d1 : b.drop <= 1000000 * m
 el : ∀ q ∈ b.list, 0 <= q.n /\ q.n <= 1000000 * m
theorem Lk : Binv bNil 0 := ⟨by simp [bNil], by simp [bNil, Dm], by simp [bNil], by simp [bNil], by simp [bNil]⟩
theorem Za {T : Type} (c : T -> Nat) : ∀ (a b : List T), Dm c (a ++ b) = Dm c a + Dm c b
 | [], b => by simp [Dm]
 | x :: a, b => by simp only [List.cons_append, Dm, Za c a b]; omega
theorem Ave {T : Type} [Inhabited T] (c : T -> Nat) (y : T) : ∀ (l : List T) (i : Nat), i < l.length -> c y = c (el l i) -> Dm c (l.set i y) = Dm c l
 | x :: l, 0, _, h => by simp only [List.set_cons_zero, Dm, h]; rfl
 | x :: l, i + 1, hi, h => by
  simp only [List.set_cons_succ, Dm]
  rw [Ave c y l i (by simpa using hi) (by rw [h]; unfold el; simp [List.getD_eq_getElem?_getD])]
theorem Q0 (p : DPart) : Im p = p.signs.length := by unfold Im; exact Baf (fun _ => rfl) _
theorem Aby (b : DL02B) : (Bu b).length <= b.list.length + 2 := by
 unfold Bu
 split <;> split <;> simp <;> omega
theorem A1n (b : DL02B) : Dm Im (Bu b) = Dm Im b.list + b.put.length := by
 unfold Bu
 rw [Za, Za]
 have : Dm Im (if b.put = [] then [] else [(⟨2, 0, b.put⟩ : DPart)]) = b.put.length := by
  split
  ·rename_i h; rw [h]; rfl
  ·simp [Dm, Q0]
 rw [this]
 split <;> simp [Dm, Q0]
theorem Abz {b : DL02B} {m : Nat} (h : Binv b m) : ∀ q ∈ Bu b, 0 <= q.n /\ q.n <= 1000000 * m := by
 intro q hq
 unfold Bu at hq
 have := h.d0; have := h.d1
 simp only [List.mem_append] at hq
 rcases hq with hq | hq | hq
 ·exact h.el q hq
 ·split at hq
  ·cases hq
  ·simp only [List.mem_singleton] at hq; subst hq; simp only; omega
 ·split at hq
  ·simp only [List.mem_singleton] at hq; subst hq; simp only; omega
  ·cases hq
theorem Az8 {b : DL02B} {m : Nat} {n : Int} (h : Binv b m) (h1 : n <= 1000000) : Binv (Dp b n) (m + 1) := by
 have h2 := Aby b; have h3 := A1n b; have h4 := Abz h
 have := h.len; have := h.sz; have := h.d0; have := h.d1
 unfold Dp
 split
 ·unfold Fd
  split
  ·rename_i hk
   have hl : (Bu b).length - 1 < (Bu b).length := by omega
   refine ⟨by simp; omega, ?_, by simp, by simp; omega, fun q hq => ?_⟩
   ·simp only [List.length_nil]
    rw [Ave Im _ _ _ hl (by rw [Q0, Q0]), h3]; omega
   ·rcases List.mem_or_eq_of_mem_set hq with hq | hq
    ·have := h4 q hq; omega
    ·have := h4 _ (Cl hl); subst hq; simp only; omega
  ·refine ⟨by simp; omega, ?_, by simp, by simp; omega, fun q hq => ?_⟩
   ·simp only [List.length_nil, Za]
    rw [h3]; simp [Dm, Q0]; omega
   ·rcases List.mem_append.1 hq with hq | hq
    ·have := h4 q hq; omega
    ·simp only [List.mem_singleton] at hq; subst hq; simp only; omega
 ·exact ⟨by omega, by omega, by omega, by omega, fun q hq => by have := h.el q hq; omega⟩
theorem Az9 {b : DL02B} {m : Nat} {l : List Int} (h : Binv b m) (h1 : l.length <= 1000000) : Binv (Hq b l) (m + 1) := by
 have := h.len; have := h.sz; have := h.d0; have := h.d1
 unfold Hq
 exact ⟨by simp only; omega, by simp only [List.length_append]; omega, by simp only; omega, by simp only; omega, fun q hq => by have := h.el q hq; omega⟩
theorem Az7 {b : DL02B} {m : Nat} {n : Int} (h : Binv b m) (h0 : 0 <= n) (h1 : n <= 1000000) : Binv (Hp b n) (m + 1) := by
 have := h.len; have := h.sz; have := h.d0; have := h.d1
 unfold Hp
 exact ⟨by simp only; omega, by simp only; omega, by simp only; omega, by simp only; omega, fun q hq => by have := h.el q hq; omega⟩
def Nn (p : DPart) : Prop := 0 <= p.n /\ p.n <= 1000000 /\ p.signs.length <= 1000000
theorem Ko {p : DPart} (h : Au p = true) : Nn p := by have := Je h; exact ⟨by omega, by omega, by omega⟩
theorem Nc {b : DL02B} {m : Nat} {p : DPart} (h : Binv b m) (hp : Nn p) : Binv (Az b p) (m + 1) := by
 unfold Az
 split
 ·exact Az9 h hp.2.2
 ·split
  ·exact Az7 h hp.1 hp.2.1
  ·exact Az8 h hp.2.1
theorem Pn {o : List DPart} (hp : ∀ p ∈ o, Nn p) : ∀ {b : DL02B} {m : Nat}, Binv b m -> Binv (o.foldl Az b) (m + o.length) := by
 induction o with
 | nil => intro b m h; exact h
 | cons x o ih =>
  intro b m h
  have := ih (fun p hq => hp p (by simp [hq])) (Nc h (hp x (by simp)))
  rw [List.foldl_cons, List.length_cons, show m + (o.length + 1) = m + 1 + o.length by omega]; exact this
theorem Yd {l : List Int} : ((0 : Int) < (l.length : Int)) ↔ ¬ l = [] := by cases l <;> simp
theorem At8 {b : DL02B} {m : Nat} (h : Binv b m) (hm : m <= 1000000) : Vf b = some ⟨Bu b, [], 0⟩ := by
 have := h.len
 unfold Vf Bu
 by_cases hp : b.put = []
 ·rw [Ag (fun h => Yd.1 h hp), if_pos hp]
  by_cases hd : 0 < b.drop
  ·rw [Ak hd, if_pos hd, Ae (by simp; omega)]; rfl
  ·rw [Ag hd, if_neg hd]; simp
 ·rw [Ak (Yd.2 hp), if_neg hp, Ae (by simp; omega)]
  by_cases hd : 0 < b.drop
  ·rw [Ak hd, if_pos hd, Ae (by simp; omega)]; simp
  ·rw [Ag hd, if_neg hd]; simp
theorem Arb {b : DL02B} {m : Nat} (h : Binv b m) (hm : m <= 1000000) : Pb b.put b.list b.drop = some ([], Bu b, 0) := by
 have := h.len
 unfold Pb Bu
 by_cases hp : b.put = []
 ·rw [Ag (fun h => Yd.1 h hp), if_pos hp]
  by_cases hd : 0 < b.drop
  ·rw [Ak hd, if_pos hd, Ae (by omega)]; rfl
  ·rw [Ag hd, if_neg hd]; simp
 ·rw [Ak (Yd.2 hp), if_neg hp, Ae (by omega)]
  by_cases hd : 0 < b.drop
  ·rw [Ak hd, if_pos hd, Ae (by simp; omega)]; simp
  ·rw [Ag hd, if_neg hd]; simp
theorem Aeu {b : DL02B} {m : Nat} (h : Binv b m) (hm : m <= 1000000) : Jx b = some (Bu b) := by
 unfold Jx
 rw [At8 h hm]; rfl
theorem Ae0 {b : DL02B} {m : Nat} {l : List Int} (h : Binv b m) (hm : m < 1000000) (hl : l.length <= 1000000) : J0 b l = some (Hq b l) := by
 have := h.sz
 unfold J0
 rw [Ae (by omega)]; rfl
theorem Aev {b : DL02B} {m : Nat} {n : Int} (h : Binv b m) (hm : m < 1000000) (h0 : 0 <= n) (h1 : n <= 1000000) : Jz b n = some (Hp b n) := by
 have := h.d0; have := h.d1
 unfold Jz
 rw [Av (by omega) (by omega)]; rfl
theorem Ar1 {l : List DPart} (h : 0 < l.length) : ((l.length : Int) - 1).toNat = l.length - 1 := by omega
theorem Tq {b : DL02B} {m : Nat} {n : Int} (h : Binv b m) (hm : m < 1000000) (h0 : 0 <= n) (h1 : n <= 1000000) : Fw b n = some (Dp b n) := by
 unfold Fw Dp
 by_cases hn : n = 0
 ·rw [Ak hn, if_neg (by omega)]
 rw [Ag hn, if_pos (by omega), At8 h (by omega)]
 have h2 := Aby b; have h4 := Abz h; have := h.len
 generalize Bu b = L at *
 simp only [Option.bind_some]
 unfold Fd
 by_cases hl : (0 : Int) < (L.length : Int)
 ·have hL : 0 < L.length := by omega
  rw [Ak hl, Av (by omega) (by omega), Ae ⟨by omega, by omega⟩, Ar1 hL]
  have h5 := h4 _ (Cl (l := L) (i := L.length - 1) (by omega))
  by_cases hk : (el L (L.length - 1)).kind = 1
  ·rw [if_pos ⟨hL, hk⟩, decide_eq_true hk]
   simp only [Option.bind_some, Bh]
   rw [Av (by omega) (by omega), Av (by omega) (by omega), Ae ⟨by omega, by omega⟩, Av (by omega) (by omega), Ae ⟨by omega, by omega⟩]
  ·rw [if_neg (fun h => hk h.2), decide_eq_false hk]
   simp only [Option.bind_some, An]
   rw [Ae (by omega)]
 ·rw [Ag hl, if_neg (fun h => hl (by omega))]
  simp only [Option.bind_some, An]
  rw [Ae (by omega)]
theorem Acv {o : List DPart} (hp : ∀ p ∈ o, Nn p) (hl : o.length < 1000000) : Jr o = some (Bw o) := by
 unfold Jr
 have hb := Pn hp Lk
 rw [Kc (F := Aab o) o (fun r k s => (∀ p ∈ r, Nn p) /\ k + r.length = o.length /\ Binv ⟨s.2.2, s.1, s.2.1⟩ k) (fun s x => ((Az ⟨s.2.2, s.1, s.2.1⟩ x).put, (Az ⟨s.2.2, s.1, s.2.1⟩ x).drop, (Az ⟨s.2.2, s.1, s.2.1⟩ x).list)) (fun x r k s hk hx hP => by
  obtain ⟨p, d, L⟩ := s
  obtain ⟨h1, h2, h3⟩ := hP
  have hx1 := h1 x (by simp)
  have h2' : k + (r.length + 1) = o.length := by simpa using h2
  have h4 := Nc h3 hx1
  refine ⟨?_, fun q hq => h1 q (by simp [hq]), by omega, h4⟩
  clear h4
  simp only at h3 ⊢
  unfold Aab Agw Az
  rw [hx]
  simp only
  by_cases hk2 : x.kind = 2
  ·have h5 := h3.sz; have := hx1.2.2
   dsimp only at h5
   rw [Ak hk2, if_pos hk2, Ae (by omega)]; rfl
  by_cases hk3 : x.kind = 3
  ·have h5 := h3.d0; have h6 := h3.d1; have := hx1.1; have := hx1.2.1
   dsimp only at h5 h6
   rw [Ag hk2, Ak hk3, if_neg hk2, if_pos hk3, Av (by omega) (by omega)]; rfl
  rw [Ag hk2, Ag hk3, if_neg hk2, if_neg hk3]
  unfold Dp
  by_cases hn : 0 < x.n
  ·have hf := Arb h3 (by omega)
   simp only at hf
   rw [Ak hn, if_pos hn, hf]
   have g2 := Aby ⟨L, p, d⟩; have g4 := Abz h3; have := h3.len
   generalize Bu ⟨L, p, d⟩ = M at *
   simp only [Option.bind_some]
   unfold Fd
   have := hx1.1; have := hx1.2.1
   dsimp only at *
   by_cases hl : (0 : Int) < (M.length : Int)
   ·have hL : 0 < M.length := by omega
    rw [Ak hl, Av (by omega) (by omega), Ae ⟨by omega, by omega⟩, Ar1 hL]
    have h5 := g4 _ (Cl (l := M) (i := M.length - 1) (by omega))
    by_cases hk : (el M (M.length - 1)).kind = 1
    ·rw [if_pos ⟨hL, hk⟩, decide_eq_true hk]
     simp only [Option.bind_some, Bh]
     rw [Av (by omega) (by omega), Ae ⟨by omega, by omega⟩, Av (by omega) (by omega), Ae ⟨by omega, by omega⟩]
    ·rw [if_neg (fun h => hk h.2), decide_eq_false hk]
     simp only [Option.bind_some, An]
     rw [Ae (by omega)]
   ·rw [Ag hl, if_neg (fun h => hl (by omega))]
    simp only [Option.bind_some, An]
    rw [Ae (by omega)]
  ·rw [Ag hn, if_neg hn]) ([], 0, []) ⟨hp, by simp, Lk⟩]
 have key : ∀ (l : List DPart) (b : DL02B), l.foldl (fun s x => ((Az ⟨s.2.2, s.1, s.2.1⟩ x).put, (Az ⟨s.2.2, s.1, s.2.1⟩ x).drop, (Az ⟨s.2.2, s.1, s.2.1⟩ x).list)) (b.put, b.drop, b.list) = ((l.foldl Az b).put, (l.foldl Az b).drop, (l.foldl Az b).list) := by
  intro l
  induction l with
  | nil => intro b; rfl
  | cons x l ih => intro b; rw [List.foldl_cons, List.foldl_cons]; exact ih _
 have hk := key o bNil
 simp only [bNil] at hk
 rw [hk]
 simp only [Option.bind_some]
 have hf := Arb hb (by omega)
 simp only [bNil] at hf
 rw [hf]; rfl
theorem D7 {o : List DPart} (h : A5 o = true) : Cz o = true := by
 unfold A5 at h
 simp only [Bool.and_eq_true] at h
 exact h.1.1
theorem Bbd {o : List DPart} (h : A5 o = true) : 0 <= Be o /\ Be o <= 200 := by
 have h1 := Rw (D7 h); rw [Ou]
 unfold A5 at h
 simp only [Bool.and_eq_true, decide_eq_true_eq, Ou] at h
 omega
theorem Asy {o : List DPart} (h : A5 o = true) : 0 <= Ez o /\ Ez o <= 200 := by
 have h1 := Rw (D7 h); rw [Ov]
 unfold A5 at h
 simp only [Bool.and_eq_true, decide_eq_true_eq, Ov] at h
 omega
theorem Asz {o : List DPart} (h : Cz o = true) : ∀ p ∈ o, Nn p := fun _ hp => Ko (F9 h hp)
theorem Aq5 (o : List DPart) : Q4 o = some (if A5 o then Bw o else []) := by
 unfold Q4
 rw [N0, Option.bind_some]
 cases h : A5 o with
 | false => rfl
 | true =>
  have h1 := D7 h
  have := Kq h1
  rw [Acv (Asz h1) (by omega)]; rfl
theorem A84 (o : List DPart) : Zx o = some (A5 o && decide (o = Bw o)) := by
 unfold Zx
 simp only [N0, Aq5, Aq6, Option.bind_some, Ci, Eh]
 cases h : A5 o <;> simp
theorem W9 {l : List Int} (h : l.length <= 1099511627776) : Mz l = some l := by unfold Mz; rw [Ae (by omega)]; rfl
structure Gs where
 done : List (List Int × Nat)
 p : List Int
 d : Nat
def Cy (s : Gs) (q : DPart) : Gs :=
 if q.kind = 2 then ⟨s.done, s.p ++ q.signs, s.d⟩ else if q.kind = 3 then ⟨s.done, s.p, s.d + q.n.toNat⟩
 else if 0 < q.n then ⟨s.done ++ (s.p, s.d) :: List.replicate (q.n.toNat - 1) ([], 0), [], 0⟩ else s
def g0 : Gs := ⟨[], [], 0⟩
def Wu (o : List DPart) : Gs := o.foldl Cy g0
def Wq (s : Gs) : List (List Int × Nat) := s.done ++ [(s.p, s.d)]
def gf (o : List DPart) : List (List Int × Nat) := Wq (Wu o)
theorem A1s {s t : Gs} (h : Wq s = Wq t) : s = t := by
 unfold Wq at h
 have h1 := List.append_inj' h rfl
 cases s; cases t
 simp at h1
 simp [h1]
theorem Apt (b : DL02B) {D : List (List Int × Nat)} (h : b.list.foldl Cy g0 = ⟨D, [], 0⟩) (h0 : 0 <= b.drop) : (Bu b).foldl Cy g0 = ⟨D, b.put, b.drop.toNat⟩ := by
 unfold Bu
 rw [List.foldl_append, List.foldl_append, h]
 have h1 : List.foldl Cy ⟨D, [], 0⟩ (if b.put = [] then [] else [⟨2, 0, b.put⟩]) = ⟨D, b.put, 0⟩ := by
  split
  ·rename_i hp; rw [hp]; rfl
  ·simp [Cy]
 rw [h1]
 split
 ·simp [Cy]
 ·have : b.drop = 0 := by omega
  simp [this]
theorem A00 {L : List DPart} (h : 0 < L.length) : ∃ M, L = M ++ [el L (L.length - 1)] := by
 refine ⟨L.take (L.length - 1), ?_⟩
 rw [G9 (by omega)]
 conv => lhs; rw [<- List.take_append_drop (L.length - 1) L]
 congr 1
 rw [List.drop_eq_getElem_cons (by omega)]
 congr 1
 rw [show L.length - 1 + 1 = L.length by omega, List.drop_length]
theorem Bfn {M : List DPart} {x y : DPart} : (M ++ [x]).set ((M ++ [x]).length - 1) y = M ++ [y] := by
 simp
theorem Bdy {α : Type} (x : α) (a b : Nat) (ha : 0 < a) (hb : 0 < b) (u : α) : (u :: List.replicate (a - 1) x) ++ (x :: List.replicate (b - 1) x) = u :: List.replicate (a + b - 1) x := by
 rw [List.cons_append, <- List.replicate_succ, show b - 1 + 1 = b by omega, List.replicate_append_replicate, show a - 1 + b = a + b - 1 by omega]
theorem A1u {L : List DPart} {s : Gs} {n : Int} (h : L.foldl Cy g0 = s) (hn : 0 < n) (he : ∀ q ∈ L, 0 <= q.n) : (Fd L n).foldl Cy g0 = Cy s ⟨1, n, []⟩ := by
 unfold Fd
 split
 ·rename_i hk
  obtain ⟨M, hM⟩ := A00 hk.1
  generalize hz : el L (L.length - 1) = z at *
  have hz0 : 0 <= z.n := he z (by rw [hM]; simp)
  subst hM
  rw [Bfn, List.foldl_append] at *
  rw [<- h]
  generalize List.foldl Cy g0 M = t
  obtain ⟨k, m, sg⟩ := z
  simp only at hk hz0
  obtain ⟨_, rfl⟩ := hk
  simp only [List.foldl_cons, List.foldl_nil]
  unfold Cy
  by_cases hm : 0 < m
  ·simp only [hm, hn, show 0 < m + n by omega, if_true]
   simp
   rw [show (m + n).toNat = m.toNat + n.toNat by omega]
   have := Bdy (([], 0) : List Int × Nat) m.toNat n.toNat (by omega) (by omega) (t.p, t.d)
   simpa using this.symm
  ·have : m = 0 := by omega
   subst this
   simp [hn]
 ·rw [List.foldl_append, h]; rfl
theorem A1w {b : DL02B} {s : Gs} {q : DPart} (h : b.list.foldl Cy g0 = ⟨s.done, [], 0⟩) (hp : s.p = b.put) (hd : s.d = b.drop.toNat) (h0 : 0 <= b.drop) (he : ∀ q ∈ b.list, 0 <= q.n) (hq : 0 <= q.n) :
  (Az b q).list.foldl Cy g0 = ⟨(Cy s q).done, [], 0⟩ /\ (Cy s q).p = (Az b q).put /\ (Cy s q).d = (Az b q).drop.toNat /\ 0 <= (Az b q).drop /\ ∀ q' ∈ (Az b q).list, 0 <= q'.n := by
 unfold Az
 by_cases h2 : q.kind = 2
 ·simp only [h2, if_true, Hq, Cy]; exact ⟨h, by rw [hp], hd, h0, he⟩
 by_cases h3 : q.kind = 3
 ·simp only [h3, if_true, Hp, Cy]; exact ⟨h, hp, by simp; omega, by simp; omega, he⟩
 simp only [h2, h3, if_false]
 unfold Dp
 by_cases hn : 0 < q.n
 ·have hs : (Bu b).foldl Cy g0 = s := by rw [Apt b h h0]; cases s; simp at hp hd; simp [hp, hd]
  have hf : ∀ q ∈ Bu b, 0 <= q.n := fun x hx => by
   unfold Bu at hx
   simp only [List.mem_append] at hx
   rcases hx with hx | hx | hx
   ·exact he x hx
   ·split at hx
    ·cases hx
    ·simp only [List.mem_singleton] at hx; subst hx; simp
   ·split at hx
    ·simp only [List.mem_singleton] at hx; subst hx; simp only; omega
    ·cases hx
  have hg : Cy s q = Cy s ⟨1, q.n, []⟩ := by unfold Cy; simp [h2, h3]
  simp only [hn, if_true]
  rw [A1u hs hn hf, hg]
  refine ⟨?_, ?_, ?_, by simp, ?_⟩
  ·unfold Cy; simp [hn]
  ·unfold Cy; simp [hn]
  ·unfold Cy; simp [hn]
  ·intro x hx
   unfold Fd at hx
   split at hx
   ·rename_i hk
    rcases List.mem_or_eq_of_mem_set hx with hx | hx
    ·exact hf x hx
    ·subst hx; have := hf _ (Cl (l := Bu b) (i := (Bu b).length - 1) (by omega)); simp only; omega
   ·rcases List.mem_append.1 hx with hx | hx
    ·exact hf x hx
    ·simp only [List.mem_singleton] at hx; subst hx; simp only; omega
 ·have hg : Cy s q = s := by unfold Cy; simp [h2, h3, hn]
  simp only [hn, if_false, hg]
  exact ⟨h, hp, hd, h0, he⟩
theorem A1v {o : List DPart} (hq : ∀ q ∈ o, 0 <= q.n) : ∀ {b : DL02B} {s : Gs}, b.list.foldl Cy g0 = ⟨s.done, [], 0⟩ -> s.p = b.put -> s.d = b.drop.toNat -> 0 <= b.drop -> (∀ q ∈ b.list, 0 <= q.n) ->
  (Bu (o.foldl Az b)).foldl Cy g0 = o.foldl Cy s := by
 induction o with
 | nil => intro b s h hp hd h0 he; rw [List.foldl_nil, List.foldl_nil, Apt b h h0]; cases s; simp at hp hd; simp [hp, hd]
 | cons q o ih =>
  intro b s h hp hd h0 he
  obtain ⟨k1, k2, k3, k4, k5⟩ := A1w h hp hd h0 he (hq q (by simp))
  exact ih (fun x hx => hq x (by simp [hx])) k1 k2 k3 k4 k5
theorem A1r {o : List DPart} (hq : ∀ q ∈ o, 0 <= q.n) : gf (Bw o) = gf o := by
 unfold gf Wu Bw
 rw [A1v hq (b := bNil) (s := g0) rfl rfl rfl (by decide) (fun q h => by cases h)]
def J4 (b : DL02B) (g : List Int × Nat) : DL02B := Hp (Hq b g.1) g.2
def Lj (s : Gs) : DL02B := J4 (s.done.foldl (fun b g => Dp (J4 b g) 1) bNil) (s.p, s.d)
theorem A1m (L : List DPart) : Bu ⟨L, [], 0⟩ = L := by simp [Bu]
theorem Azw {L : List DPart} {m n : Int} : Fd (Fd L m) n = Fd L (m + n) := by
 unfold Fd
 by_cases hk : 0 < L.length /\ (el L (L.length - 1)).kind = 1
 ·simp only [hk, and_self, if_true]
  have h1 : L.length - 1 < L.length := by omega
  simp only [List.length_set, hk.1, true_and]
  rw [Ao7 h1]
  simp only [if_true, List.set_set, Int.add_assoc]
 ·simp only [hk, if_false]
  have h1 : el (L ++ [(⟨1, m, []⟩ : DPart)]) ((L ++ [(⟨1, m, []⟩ : DPart)]).length - 1) = ⟨1, m, []⟩ := by
   have := Sa L (⟨1, m, []⟩ : DPart) []
   simpa using this
  rw [h1]
  simp
theorem Ajr {b : DL02B} {m n : Int} (hm : 0 < m) (hn : 0 < n) : Dp (Dp b m) n = Dp b (m + n) := by
 unfold Dp
 simp only [hm, hn, show 0 < m + n by omega, if_true, A1m, Azw]
theorem Ajp (b : DL02B) : J4 b ([], 0) = b := by simp [J4, Hp, Hq]
theorem Ajq : ∀ (k : Nat) (b : DL02B), (List.replicate k (([], 0) : List Int × Nat)).foldl (fun b g => Dp (J4 b g) 1) b = Dp b k
 | 0, b => by simp [Dp]
 | k + 1, b => by
  rw [List.replicate_succ, List.foldl_cons, Ajp, Ajq k]
  cases k with
  | zero => simp [Dp]
  | succ k => rw [Ajr (by omega) (by omega)]; congr 1; omega
theorem Az4 (s : Gs) (q : DPart) (hq : 0 <= q.n) : Az (Lj s) q = Lj (Cy s q) := by
 unfold Az Cy
 by_cases h2 : q.kind = 2
 ·simp [h2, Lj, J4, Hq, Hp]
 by_cases h3 : q.kind = 3
 ·simp only [h3, if_true, Lj, J4, Hq, Hp]
  simp; omega
 simp only [h2, h3, if_false]
 by_cases hn : 0 < q.n
 ·simp only [hn, if_true]
  unfold Lj
  simp only [List.foldl_append, List.foldl_cons, Ajq, Ajp]
  generalize J4 (s.done.foldl (fun b g => Dp (J4 b g) 1) bNil) (s.p, s.d) = b
  by_cases h1 : q.n = 1
  ·simp [h1, Dp]
  ·rw [Ajr (by omega) (by omega)]; congr 1; omega
 ·simp only [hn, if_false, Dp]
theorem Az3 {o : List DPart} (hq : ∀ q ∈ o, 0 <= q.n) : ∀ (s : Gs), o.foldl Az (Lj s) = Lj (o.foldl Cy s) := by
 induction o with
 | nil => intro s; rfl
 | cons q o ih => intro s; rw [List.foldl_cons, List.foldl_cons, Az4 s q (hq q (by simp))]; exact ih (fun x hx => hq x (by simp [hx])) _
theorem Asl {o : List DPart} (hq : ∀ q ∈ o, 0 <= q.n) : Bw o = Bu (Lj (Wu o)) := by
 unfold Bw Wu
 rw [<- Az3 hq g0]; rfl
theorem Ba8 {o o' : List DPart} (h1 : ∀ q ∈ o, 0 <= q.n) (h2 : ∀ q ∈ o', 0 <= q.n) (h : gf o = gf o') : Bw o = Bw o' := by
 rw [Asl h1, Asl h2, A1s h]
def Arx : List DPart -> List Int -> List Int
 | [], _ => []
 | q :: o, t => if q.kind = 1 then t.take q.n.toNat ++ Arx o (t.drop q.n.toNat) else Arx o (t.drop q.n.toNat)
def Cu : List DPart -> List Int -> List Int
 | [], _ => []
 | q :: o, t => if q.kind = 1 then t.take q.n.toNat ++ Cu o (t.drop q.n.toNat) else if q.kind = 2 then q.signs ++ Cu o t else Cu o (t.drop q.n.toNat)
def Fp (o : List DPart) : Prop := ∀ q ∈ o, (q.kind = 1 \/ q.kind = 2 \/ q.kind = 3) /\ 0 <= q.n /\ (q.kind = 2 -> q.n = 0)
theorem Bbh {o : List DPart} (h : Cz o = true) : Fp o := fun q hq => by
 rcases Dd (F9 h hq) with ⟨h1, h2, h3, h4⟩ | ⟨h1, h2, h3, h4⟩ | ⟨h1, h2, h3, h4⟩ <;> simp [h1, h2]
theorem Ba9 {o : List DPart} (h : Fp o) : Fp (Bw o) := by
 have key : ∀ (o : List DPart), Fp o -> ∀ (b : DL02B), Fp b.list -> 0 <= b.drop -> Fp (o.foldl Az b).list /\ 0 <= (o.foldl Az b).drop := by
  intro o
  induction o with
  | nil => intro _ b h1 h2; exact ⟨h1, h2⟩
  | cons q o ih =>
   intro ho b h1 h2
   have hq := ho q (by simp)
   rw [List.foldl_cons]
   refine ih (fun x hx => ho x (by simp [hx])) _ ?_ ?_
   ·unfold Az
    split
    ·exact h1
    ·split
     ·exact h1
     ·unfold Dp
      split
      ·have hf : Fp (Bu b) := by
        intro x hx
        unfold Bu at hx
        simp only [List.mem_append] at hx
        rcases hx with hx | hx | hx
        ·exact h1 x hx
        ·split at hx
         ·cases hx
         ·simp only [List.mem_singleton] at hx; subst hx; simp
        ·split at hx
         ·simp only [List.mem_singleton] at hx; subst hx; exact ⟨.inr (.inr rfl), by simp only; omega, by simp⟩
         ·cases hx
       intro x hx
       unfold Fd at hx
       split at hx
       ·rename_i hk
        rcases List.mem_or_eq_of_mem_set hx with hx | hx
        ·exact hf x hx
        ·have := hf _ (Cl (l := Bu b) (i := (Bu b).length - 1) (by omega)); subst hx; simp only [hk.2]; refine ⟨.inl trivial, by omega, by omega⟩
       ·rcases List.mem_append.1 hx with hx | hx
        ·exact hf x hx
        ·simp only [List.mem_singleton] at hx; subst hx; simp only; refine ⟨.inl trivial, by omega, by omega⟩
      ·exact h1
   ·unfold Az
    split
    ·exact h2
    ·split
     ·simp only [Hp]; omega
     ·unfold Dp
      split
      ·simp
      ·exact h2
 obtain ⟨h1, h2⟩ := key o h bNil (fun q hq => by cases hq) (by decide)
 intro x hx
 unfold Bw Bu at hx
 simp only [List.mem_append] at hx
 rcases hx with hx | hx | hx
 ·exact h1 x hx
 ·split at hx
  ·cases hx
  ·simp only [List.mem_singleton] at hx; subst hx; simp
 ·split at hx
  ·simp only [List.mem_singleton] at hx; subst hx; exact ⟨.inr (.inr rfl), by simp only; omega, by simp⟩
  ·cases hx
theorem Ac8 {o : List DPart} (h : Fp o) : ∀ q ∈ o, 0 <= q.n := fun q hq => (h q hq).2.1
theorem Asm {o : List DPart} (h : Fp o) : Bw (Bw o) = Bw o := Ba8 (Ac8 (Ba9 h)) (Ac8 h) (A1r (Ac8 h))
theorem Y9 {T : Type} [Inhabited T] (c : T -> Int) (y : T) : ∀ (l : List T) (i : Nat), i < l.length -> Bm c (l.set i y) = Bm c l - c (el l i) + c y
 | x :: l, 0, _ => by simp only [List.set_cons_zero, Bm]; show _ = c x + Bm c l - c x + c y; omega
 | x :: l, i + 1, hi => by
  simp only [List.set_cons_succ, Bm]
  rw [Y9 c y l i (by simpa using hi)]
  show _ = c x + Bm c l - c (el l i) + c y
  omega
theorem Bf7 (L : List DPart) (n : Int) : Cj (Fd L n) = Cj L + n /\ Bn (Fd L n) = Bn L /\ Ct (Fd L n) = Ct L := by
 unfold Fd Cj Bn Ct
 split
 ·rename_i h
  have hl : L.length - 1 < L.length := by omega
  rw [Y9 _ _ _ _ hl, Y9 _ _ _ _ hl, Y9 _ _ _ _ hl]
  simp [Ch, Cc, Co, h.2]; omega
 ·rw [Mq, Mq, Mq]
  simp [Bm, Ch, Cc, Co]
theorem Avf (b : DL02B) (h0 : 0 <= b.drop) : Cj (Bu b) = Cj b.list /\ Bn (Bu b) = Bn b.list + b.put.length /\ Ct (Bu b) = Ct b.list + b.drop := by
 unfold Bu Cj Bn Ct
 simp only [Mq]
 by_cases hp : b.put = []
 ·by_cases hd : 0 < b.drop
  ·simp [hp, hd, Bm, Ch, Cc, Co]
  ·simp [hp, hd, Bm]; omega
 ·by_cases hd : 0 < b.drop
  ·simp [hp, hd, Bm, Ch, Cc, Co]
  ·simp [hp, hd, Bm, Ch, Cc, Co]; omega
theorem Bf8 (b : DL02B) (p : DPart) (h0 : 0 <= b.drop) (hp : (p.kind = 1 \/ p.kind = 2 \/ p.kind = 3) /\ 0 <= p.n) : 0 <= (Az b p).drop /\ Cj (Az b p).list = Cj b.list + Ch p /\ Bn (Az b p).list + (Az b p).put.length = Bn b.list + b.put.length + Cc p /\ Ct (Az b p).list + (Az b p).drop = Ct b.list + b.drop + Co p := by
 unfold Az Ch Cc Co
 rcases hp.1 with hk | hk | hk
 ·simp only [hk]
  simp
  unfold Dp
  split
  ·have h1 := Avf b h0
   have h2 := Bf7 (Bu b) p.n
   simp; omega
  ·have := hp.2; simp; omega
 ·simp [hk, Hq]; omega
 ·simp [hk, Hp]; omega
theorem Avg : ∀ (o : List DPart) (b : DL02B), 0 <= b.drop -> (∀ p ∈ o, (p.kind = 1 \/ p.kind = 2 \/ p.kind = 3) /\ 0 <= p.n) -> 0 <= (o.foldl Az b).drop /\ Cj (o.foldl Az b).list = Cj b.list + Cj o /\ Bn (o.foldl Az b).list + (o.foldl Az b).put.length = Bn b.list + b.put.length + Bn o /\ Ct (o.foldl Az b).list + (o.foldl Az b).drop = Ct b.list + b.drop + Ct o
 | [], b, h0, _ => by simp [Cj, Bn, Ct, Bm, h0]
 | p :: o, b, h0, h => by
  have h1 := Bf8 b p h0 (h p (by simp))
  have h2 := Avg o (Az b p) h1.1 (fun q hq => h q (by simp [hq]))
  rw [List.foldl_cons]
  have e1 : Cj (p :: o) = Ch p + Cj o := rfl
  have e2 : Bn (p :: o) = Cc p + Bn o := rfl
  have e3 : Ct (p :: o) = Co p + Ct o := rfl
  rw [e1, e2, e3]
  omega
theorem Afj {o : List DPart} (h : Fp o) : Cj (Bw o) = Cj o /\ Bn (Bw o) = Bn o /\ Ct (Bw o) = Ct o := by
 have h1 := Avg o bNil (by decide) (fun p hp => ⟨(h p hp).1, (h p hp).2.1⟩)
 have h2 := Avf (o.foldl Az bNil) h1.1
 have e1 : Cj bNil.list = 0 := rfl
 have e2 : Bn bNil.list = 0 := rfl
 have e3 : Ct bNil.list = 0 := rfl
 have e4 : bNil.put.length = 0 := rfl
 have e5 : bNil.drop = 0 := rfl
 unfold Bw
 omega
def Oy (p : DPart) : Prop := (p.kind = 1 /\ 0 < p.n /\ p.signs = []) \/ (p.kind = 2 /\ p.n = 0 /\ p.signs ≠ [] /\ p.signs.all Cg = true) \/ (p.kind = 3 /\ 0 < p.n /\ p.signs = [])
theorem Avr {b : DL02B} (h : ∀ p ∈ b.list, Oy p) (hp : b.put.all Cg = true) : ∀ p ∈ Bu b, Oy p := by
 intro x hx
 unfold Bu at hx
 simp only [List.mem_append] at hx
 rcases hx with hx | hx | hx
 ·exact h x hx
 ·split at hx
  ·cases hx
  ·rename_i hn; simp only [List.mem_singleton] at hx; subst hx; exact .inr (.inl ⟨rfl, rfl, hn, hp⟩)
 ·split at hx
  ·rename_i hn; simp only [List.mem_singleton] at hx; subst hx; exact .inr (.inr ⟨rfl, hn, rfl⟩)
  ·cases hx
theorem Avs : ∀ (o : List DPart), (∀ p ∈ o, p.kind = 2 -> p.signs.all Cg = true) -> ∀ (b : DL02B), (∀ p ∈ b.list, Oy p) -> b.put.all Cg = true -> (∀ p ∈ (o.foldl Az b).list, Oy p) /\ (o.foldl Az b).put.all Cg = true
 | [], _, b, h1, h2 => ⟨h1, h2⟩
 | p :: o, h, b, h1, h2 => by
  rw [List.foldl_cons]
  refine Avs o (fun q hq => h q (by simp [hq])) _ ?_ ?_
  ·unfold Az
   split
   ·exact h1
   ·split
    ·exact h1
    ·unfold Dp
     split
     ·rename_i hn
      have hf := Avr h1 h2
      intro x hx
      unfold Fd at hx
      split at hx
      ·rename_i hk
       rcases List.mem_or_eq_of_mem_set hx with hx | hx
       ·exact hf x hx
       ·have := hf _ (Cl (l := Bu b) (i := (Bu b).length - 1) (by omega))
        subst hx
        rcases this with h | h | h
        ·exact .inl ⟨h.1, by simp only; omega, h.2.2⟩
        ·rw [h.1] at hk; simp at hk
        ·rw [h.1] at hk; simp at hk
      ·rcases List.mem_append.1 hx with hx | hx
       ·exact hf x hx
       ·simp only [List.mem_singleton] at hx; subst hx; exact .inl ⟨rfl, hn, rfl⟩
     ·exact h1
  ·unfold Az
   split
   ·rename_i hk; simp only [Hq, List.all_append, h2, h p (by simp) hk]; rfl
   ·split
    ·exact h2
    ·unfold Dp
     split
     ·rfl
     ·exact h2
theorem Bhz {o : List DPart} (h : ∀ p ∈ o, p.kind = 2 -> p.signs.all Cg = true) : ∀ p ∈ Bw o, Oy p := by
 obtain ⟨h1, h2⟩ := Avs o h bNil (fun p hp => by cases hp) rfl
 exact Avr h1 h2
theorem Avq : ∀ {o : List DPart}, (∀ p ∈ o, Oy p) -> (o.length : Int) <= Cj o + Bn o + Ct o /\ 0 <= Cj o /\ 0 <= Bn o /\ 0 <= Ct o /\ ∀ p ∈ o, Ch p <= Cj o /\ Cc p <= Bn o /\ Co p <= Ct o
 | [], _ => by simp [Cj, Bn, Ct, Bm]
 | p :: o, h => by
  have ih := Avq (o := o) (fun q hq => h q (by simp [hq]))
  have e1 : Cj (p :: o) = Ch p + Cj o := rfl
  have e2 : Bn (p :: o) = Cc p + Bn o := rfl
  have e3 : Ct (p :: o) = Co p + Ct o := rfl
  rw [e1, e2, e3]
  have hp : 1 <= Ch p + Cc p + Co p /\ 0 <= Ch p /\ 0 <= Cc p /\ 0 <= Co p := by
   unfold Ch Cc Co
   rcases h p (by simp) with ⟨h1, h2, h3⟩ | ⟨h1, h2, h3, h4⟩ | ⟨h1, h2, h3⟩
   ·simp [h1]; omega
   ·simp [h1]; have := List.length_pos_iff.2 h3; omega
   ·simp [h1]; omega
  refine ⟨by simp only [List.length_cons]; omega, by omega, by omega, by omega, fun q hq => ?_⟩
  rcases List.mem_cons.1 hq with rfl | hq
  ·omega
  ·have := ih.2.2.2.2 q hq; omega
theorem As0 {o : List DPart} (h : Cz o = true) : ∀ p ∈ o, p.kind = 2 -> p.signs.all Cg = true := fun p hp hk => by
 rcases Dd (F9 h hp) with ⟨h1, _⟩ | ⟨_, _, _, h4⟩ | ⟨h1, _⟩
 ·omega
 ·exact h4
 ·omega
theorem Bbg {o : List DPart} (h : ∀ p ∈ o, Oy p) (h1 : Cj o + Ct o <= 200) (h2 : Cj o + Bn o <= 200) : A5 o = true := by
 have hc := Avq h
 have hp : o.all Au = true := List.all_eq_true.2 fun p hp => by
  have hb := hc.2.2.2.2 p hp
  unfold Ch Cc Co at hb
  unfold Au
  rcases h p hp with ⟨h1, h2, h3⟩ | ⟨h1, h2, h3, h4⟩ | ⟨h1, h2, h3⟩
  ·simp [h1, h3] at hb ⊢; omega
  ·simp [h1] at hb; simp only [h1, h2, h4]; simp; omega
  ·simp [h1, h3] at hb ⊢; omega
 unfold A5 Cz
 rw [hp, Ou, Ov]
 simp; omega
theorem Asx {o : List DPart} (h : A5 o = true) : Cj o + Ct o <= 200 /\ Cj o + Bn o <= 200 := by
 have h1 := Bbd h; have h2 := Asy h
 rw [Ou] at h1; rw [Ov] at h2
 omega
theorem S3 {o : List DPart} (h : A5 o = true) : Fp o := Bbh (D7 h)
theorem Asv {o : List DPart} (h : A5 o = true) : A5 (Bw o) = true := by
 have h1 := Afj (S3 h)
 have h2 := Asx h
 exact Bbg (Bhz (As0 (D7 h))) (by omega) (by omega)
theorem Ab1 {o : List DPart} (h : Fp o) : Be (Bw o) = Be o := by have := Afj h; rw [Ou, Ou]; omega
theorem Avv {o : List DPart} (h : Fp o) : Ez (Bw o) = Ez o := by have := Afj h; rw [Ov, Ov]; omega
theorem Asu {o : List DPart} (h : A5 o = true) : (o.length : Int) <= 600 /\ 0 <= Cj o /\ 0 <= Bn o /\ 0 <= Ct o /\ Bn o <= 200 /\ Cj o <= 200 /\ Ct o <= 200 := by
 have h1 := Kq (D7 h); have h2 := Rw (D7 h); have h3 := Asx h
 omega
theorem Avj : ∀ {o : List DPart}, (∀ p ∈ o, p.kind = 2 \/ p.signs = []) -> ((Dm Im o : Nat) : Int) = Bn o
 | [], _ => rfl
 | p :: o, h => by
  have ih := Avj (o := o) (fun q hq => h q (by simp [hq]))
  have e2 : Bn (p :: o) = Cc p + Bn o := rfl
  have e1 : Cc p = (p.signs.length : Int) := by
   unfold Cc
   rcases h p (by simp) with h | h
   ·rw [if_pos h]
   ·rw [h]; split <;> rfl
  rw [e2, e1, <- ih]
  simp only [Dm, Q0]; omega
theorem Bbf {o : List DPart} (h : A5 o = true) : N5 Im o <= 800 := by
 have h1 := Asu h
 have h2 := Avj (o := o) (fun p hp => by
  rcases Dd (F9 (D7 h) hp) with h | h | h
  ·exact .inr h.2.2.2
  ·exact .inl h.1
  ·exact .inr h.2.2.2)
 unfold N5
 omega
theorem Rt : ∀ {o : List DPart}, Fp o -> ∀ {t : List Int}, Be o = t.length -> ((Cu o t).length : Int) = Ez o
 | [], _, t, h => by simp only [Be, Bm] at h; simp [Cu, Ez, Bm]
 | q :: o, hk, t, h => by
  have ho : Fp o := fun x hx => hk x (by simp [hx])
  obtain ⟨h1, h2, h3⟩ := hk q (by simp)
  have e1 : Be (q :: o) = Du q + Be o := rfl
  have e2 : Ez (q :: o) = Jg q + Ez o := rfl
  have h0 : 0 <= Be o := by
   have : ∀ x ∈ o, 0 <= Du x := fun x hx => by
    have := (ho x hx).2.1
    unfold Du Ch Co
    split <;> split <;> omega
   exact Ot this
  rw [e1] at h
  rw [e2]
  unfold Du Jg Ch Cc Co at *
  unfold Cu
  rcases h1 with h1 | h1 | h1
  ·simp [h1] at h ⊢
   have := Rt ho (t := t.drop q.n.toNat) (by simp; omega)
   rw [this]; omega
  ·simp [h1] at h ⊢
   have := Rt ho (t := t) h
   rw [this]
  ·simp [h1] at h ⊢
   have := Rt ho (t := t.drop q.n.toNat) (by simp; omega)
   rw [this]
theorem Be7 {o : List DPart} (ho : ∀ p ∈ o, Au p = true) (hl : o.length < 1000000) :
  Aq (Aaj o) (fun (s180 : List DPart × List Int × Int) => ((s180.1, s180.2.1, s180.2.2) : List DPart × List Int × Int)) o.length 0 ([], [], 0) = some ((o.foldl Az bNil).list, (o.foldl Az bNil).put, (o.foldl Az bNil).drop) := by
 refine Ff (F := Aaj o) o (fun r k s => (∀ p ∈ r, Au p = true) /\ k + r.length = o.length /\ Binv ⟨s.1, s.2.1, s.2.2⟩ k) (fun r _ s => ((r.foldl Az ⟨s.1, s.2.1, s.2.2⟩).list, (r.foldl Az ⟨s.1, s.2.1, s.2.2⟩).put, (r.foldl Az ⟨s.1, s.2.1, s.2.2⟩).drop)) (fun _ _ => rfl) (fun x r k s hk hx hP => ?_) _ ⟨ho, by simp, Lk⟩
 obtain ⟨L, p, d⟩ := s
 obtain ⟨h1, h2, h3⟩ := hP
 have hx1 := h1 x (by simp)
 have hf := Ko hx1
 simp only [List.length_cons] at h2
 simp only at h3 ⊢
 refine .inl ⟨((Az ⟨L, p, d⟩ x).list, (Az ⟨L, p, d⟩ x).put, (Az ⟨L, p, d⟩ x).drop), ?_, ⟨fun q hq => h1 q (by simp [hq]), by omega, Nc h3 hf⟩, rfl⟩
 unfold Aaj Awx Az
 rw [hx]
 simp only
 rcases Dd hx1 with ⟨k1, k2, k3, k4⟩ | ⟨k1, k2, k3, k4⟩ | ⟨k1, k2, k3, k4⟩
 ·rw [Ak k1, if_neg (by omega), if_neg (by omega), Tq h3 (by omega) (by omega) (by omega)]; rfl
 ·rw [Ag (by omega), Ak k1, if_pos k1, Ae0 h3 (by omega) (by omega)]; rfl
 ·rw [Ag (by omega), Ag (by omega), if_neg (by omega), if_pos k1, Aev h3 (by omega) (by omega) (by omega)]; rfl
theorem Aue (o : List DPart) : Rc o = some (if A5 o then Bw o else []) := by
 unfold Rc
 rw [Ky, Option.bind_some]
 cases h : A5 o with
 | false => rfl
 | true =>
  have h1 := D7 h
  have h2 := Kq h1
  simp only [Bool.not_true, cond_false, if_true]
  rw [Be7 (fun p hp => F9 h1 hp) (by omega), Option.bind_some]
  have := Aeu (Pn (Asz h1) Lk) (by omega)
  simp only
  rw [this]; rfl
theorem Bej (o : List DPart) : Aah o = some (A5 o && decide (o = Bw o)) := by
 unfold Aah
 simp only [Ky, Aue, Bes, Option.bind_some, Ci, Eh]
 cases h : A5 o
 ·simp
 ·simp [eq_comm]
def C4 (o : List DPart) (t : List Int) : Bool := A5 o && Bo t && decide (Be o = t.length)
theorem Wf {o : List DPart} {t : List Int} (h : C4 o t = true) : A5 o = true /\ Bo t = true /\ Be o = t.length := by
 unfold C4 at h
 simp only [Bool.and_eq_true, decide_eq_true_eq] at h
 exact ⟨h.1.1, h.1.2, h.2⟩
theorem Gv {t : List Int} (h : Bo t = true) : t.length <= 200 := by
 unfold Bo at h
 simp only [Bool.and_eq_true, decide_eq_true_eq] at h
 exact h.1
theorem Apq (x : DPart) (o : List DPart) : Be (x :: o) = Du x + Be o := rfl
theorem Apr {o : List DPart} (h : ∀ p ∈ o, Au p = true) : 0 <= Be o := Ot fun x hx => (Rv (h x hx)).2.2.2.1.1
theorem V4 {t : List Int} {a n : Int} (ha : 0 <= a) (hn : 0 <= n) : t.drop (a + n).toNat = (t.drop a.toNat).drop n.toNat := by rw [List.drop_drop]; congr 1; omega
theorem Afq {t : List Int} {a n : Int} (ha : 0 <= a) (hn : 0 <= n) : (t.take (a + n).toNat).drop a.toNat = (t.drop a.toNat).take n.toNat := by rw [List.drop_take]; congr 1; omega
theorem A9h {o : List DPart} {t : List Int} (ho : ∀ p ∈ o, Au p = true) (hl : o.length <= 600) (ht : t.length <= 200) (hf : Be o = t.length) :
  Aq (Uc t o) (fun (s238 : List Int × Int) => (s238.1 : List Int)) o.length 0 ([], 0) = some (Cu o t) := by
 have h := Ff (F := Uc t o) (e := fun (s : List Int × Int) => s.1) o (fun r k s => (∀ p ∈ r, Au p = true) /\ 0 <= s.2 /\ s.2 + Be r = t.length /\ s.1.length <= 200 * k /\ k + r.length = o.length) (fun r _ s => s.1 ++ Cu r (t.drop s.2.toNat)) (fun s _ => by simp [Cu]) (fun x r k s hk hx hP => by
  obtain ⟨out, a⟩ := s
  obtain ⟨h1, h2, h3, h4, h5⟩ := hP
  simp only at h2 h3 h4 ⊢
  rw [Apq] at h3
  have hr := Apr (o := r) (fun p hp => h1 p (by simp [hp]))
  have hx1 := h1 x (by simp)
  have hx2 := Je hx1
  have hr1 : ∀ p ∈ r, Au p = true := fun p hp => h1 p (by simp [hp])
  simp only [List.length_cons] at h5
  unfold Uc Agc
  rw [hx]
  simp only
  unfold Du Ch Co at h3
  refine .inl ?_
  rcases Dd hx1 with ⟨k1, k2, k3, k4⟩ | ⟨k1, k2, k3, k4⟩ | ⟨k1, k2, k3, k4⟩
  ·simp [k1] at h3
   rw [Ak k1, Av (by omega) (by omega), Ae ⟨by omega, by omega, by omega⟩, Afq h2 k2, Ae (by simp; omega), Av (by omega) (by omega)]
   refine ⟨_, rfl, ⟨hr1, by simp only; omega, by simp only; omega, by simp; omega, by omega⟩, ?_⟩
   simp only [Cu, k1, if_true, V4 h2 k2, List.append_assoc]
  ·simp [k1] at h3
   rw [Ag (by omega), Ag (by omega), Ae (by omega)]
   refine ⟨_, rfl, ⟨hr1, by simp only; omega, by simp only; omega, by simp; omega, by omega⟩, ?_⟩
   simp [Cu, k1]
  ·simp [k1] at h3
   rw [Ag (by omega), Ak k1, Av (by omega) (by omega)]
   refine ⟨_, rfl, ⟨hr1, by simp only; omega, by simp only; omega, by simp only; omega, by omega⟩, ?_⟩
   simp [Cu, k1, V4 h2 k2]) ([], 0) ⟨ho, by simp, by simp [hf], by simp, by simp⟩
 simpa using h
theorem Aq3 (o : List DPart) (t : List Int) : Jm o t = some (if C4 o t then (Cu o t, true) else ([], false)) := by
 unfold Jm
 simp only [N0, Sn, W7, Option.bind_some, Ci, D2]
 have hc : (!A5 o || (!Bo t || !decide ((if Cz o then Be o else 0) = (t.length : Int)))) = !C4 o t := by
  unfold C4
  cases h : A5 o
  ·simp
  ·rw [D7 h]; simp
 rw [<- Bool.or_assoc] at hc
 rw [hc]
 cases h : C4 o t with
 | false => rfl
 | true =>
  obtain ⟨h1, h2, h3⟩ := Wf h
  have := Kq (D7 h1)
  simp only [Bool.not_true, cond_false, if_true]
  rw [A9h (fun p hp => F9 (D7 h1) hp) (by omega) (Gv h2) h3]
  rfl
theorem Beg (o : List DPart) (t : List Int) : Vh o t = some (C4 o t) := by
 unfold Vh C4
 simp only [Ky, Yx, Tr, Option.bind_some, Ci, Eh]
 cases h : A5 o
 ·simp
 ·rw [D7 h]; simp
theorem Be6 {o : List DPart} {t : List Int} (ho : ∀ p ∈ o, Au p = true) (hl : o.length <= 600) (ht : t.length <= 200) (hf : Be o = t.length) :
  Aq (Uz t o) (fun (s238 : List Int × Int) => (s238.1 : List Int)) o.length 0 ([], 0) = some (Cu o t) := by
 have h := Ff (F := Uz t o) (e := fun (s : List Int × Int) => s.1) o (fun r k s => (∀ p ∈ r, Au p = true) /\ 0 <= s.2 /\ s.2 + Be r = t.length /\ s.1.length <= 200 * k /\ k + r.length = o.length) (fun r _ s => s.1 ++ Cu r (t.drop s.2.toNat)) (fun s _ => by simp [Cu]) (fun x r k s hk hx hP => by
  obtain ⟨out, a⟩ := s
  obtain ⟨h1, h2, h3, h4, h5⟩ := hP
  simp only at h2 h3 h4 ⊢
  rw [Apq] at h3
  have hr := Apr (o := r) (fun p hp => h1 p (by simp [hp]))
  have hx1 := h1 x (by simp)
  have hx2 := Je hx1
  have hr1 : ∀ p ∈ r, Au p = true := fun p hp => h1 p (by simp [hp])
  simp only [List.length_cons] at h5
  unfold Uz Aha
  rw [hx]
  simp only
  unfold Du Ch Co at h3
  refine .inl ?_
  rcases Dd hx1 with ⟨k1, k2, k3, k4⟩ | ⟨k1, k2, k3, k4⟩ | ⟨k1, k2, k3, k4⟩
  ·simp [k1] at h3
   rw [Ak k1, Av (by omega) (by omega), Ae ⟨by omega, by omega, by omega⟩, Afq h2 k2, Ae (by simp; omega), Av (by omega) (by omega)]
   refine ⟨_, rfl, ⟨hr1, by simp only; omega, by simp only; omega, by simp; omega, by omega⟩, ?_⟩
   simp only [Cu, k1, if_true, V4 h2 k2, List.append_assoc]
  ·simp [k1] at h3
   rw [Ag (by omega), Ak k1, Ae (by omega)]
   refine ⟨_, rfl, ⟨hr1, by simp only; omega, by simp only; omega, by simp; omega, by omega⟩, ?_⟩
   simp [Cu, k1]
  ·simp [k1] at h3
   rw [Ag (by omega), Ag (by omega), Av (by omega) (by omega)]
   refine ⟨_, rfl, ⟨hr1, by simp only; omega, by simp only; omega, by simp only; omega, by omega⟩, ?_⟩
   simp [Cu, k1, V4 h2 k2]) ([], 0) ⟨ho, by simp, by simp [hf], by simp, by simp⟩
 simpa using h
theorem Qq (o : List DPart) (t : List Int) : Hm o t = some (if C4 o t then (Cu o t, true) else ([], false)) := by
 unfold Hm
 rw [Beg, Option.bind_some]
 cases h : C4 o t with
 | false => rfl
 | true =>
  obtain ⟨h1, h2, h3⟩ := Wf h
  have := Kq (D7 h1)
  simp only [Bool.not_true, cond_false, if_true]
  rw [Be6 (fun p hp => F9 (D7 h1) hp) (by omega) (Gv h2) h3]
  rfl
def Y1 (a : Int) (after : Bool) : List DPart -> Int -> Int -> Int
 | [], _, j => j
 | q :: o, i, j => if q.kind = 1 then (if a < i + q.n then j + a - i else Y1 a after o (i + q.n) (j + q.n)) else if q.kind = 2 then (if a = i /\ after = false then j else Y1 a after o i (j + q.signs.length)) else (if a < i + q.n then j else Y1 a after o (i + q.n) j)
def shift (o : List DPart) (a : Int) (after : Bool) : Int × Bool := if A5 o = true /\ 0 <= a /\ a <= Be o then (Y1 a after (Bw o) 0 0, true) else (0, false)
def oks (l : List DPart) : Prop := ∀ p ∈ l, Au p = true
theorem Bbk : oks [] := fun _ h => by cases h
theorem Ga {p : DPart} {r : List DPart} (h : oks (p :: r)) : Au p = true := h p (by simp)
theorem Ib {p : DPart} {r : List DPart} (h : oks (p :: r)) : oks r := fun q hq => h q (by simp [hq])
theorem S5 {p : DPart} {r : List DPart} (h : Au p = true) (k : oks r) : oks (p :: r) := fun q hq => by
 rcases List.mem_cons.1 hq with rfl | hq
 ·exact h
 ·exact k q hq
def Al (p : DPart) : Int := p.n + p.signs.length
theorem C0 {p : DPart} (h : Au p = true) : 0 <= Al p /\ Al p <= 200 := by
 unfold Al
 rcases Dd h with ⟨_, h2, h3, h4⟩ | ⟨_, h2, h3, _⟩ | ⟨_, h2, h3, h4⟩
 ·rw [h4]; simp; omega
 ·omega
 ·rw [h4]; simp; omega
def A4 (p : DPart) (n : Int) : DPart := if p.kind = 2 then ⟨p.kind, p.n, (p.signs.take n.toNat).drop 0⟩ else ⟨p.kind, n, p.signs⟩
def A9 (p : DPart) (n : Int) : DPart := if p.kind = 2 then ⟨p.kind, p.n, (p.signs.take p.signs.length).drop n.toNat⟩ else ⟨p.kind, p.n - n, p.signs⟩
theorem S4 {k n : Int} (hk : k = 1 \/ k = 3) (h0 : 0 <= n) (h1 : n <= 200) : Au ⟨k, n, []⟩ = true := by unfold Au; simp [hk, h0, h1]
theorem As1 {s : List Int} (h0 : s.length <= 200) (h1 : s.all Cg = true) : Au ⟨2, 0, s⟩ = true := by
 unfold Au
 rw [if_neg (by simp), if_pos (by rfl)]
 rw [Bool.and_eq_true]
 exact ⟨decide_eq_true ⟨rfl, h0⟩, h1⟩
theorem Ajn {l : List Int} (h : l.all Cg = true) {s : List Int} (hs : ∀ x ∈ s, x ∈ l) : s.all Cg = true := List.all_eq_true.2 fun x hx => List.all_eq_true.1 h x (hs x hx)
theorem Cx {p : DPart} {n : Int} (h : Au p = true) (h0 : 0 <= n) (h1 : n <= Al p) : Au (A4 p n) = true /\ (A4 p n).kind = p.kind /\ Al (A4 p n) = n /\ Au (A9 p n) = true /\ (A9 p n).kind = p.kind /\ Al (A9 p n) = Al p - n := by
 obtain ⟨k, m, s⟩ := p
 unfold Al A4 A9 at *
 simp only at h1
 rcases Dd h with ⟨g1, g2, g3, g4⟩ | ⟨g1, g2, g3, g4⟩ | ⟨g1, g2, g3, g4⟩ <;> simp only at g1 g2 g3 g4
 ·subst g1 g4
  simp only [List.length_nil] at h1
  rw [if_neg (by simp), if_neg (by simp)]
  dsimp only at *
  exact ⟨S4 (.inl rfl) h0 (by omega), rfl, by simp, S4 (.inl rfl) (by omega) (by omega), rfl, by simp⟩
 ·subst g1 g2
  rw [if_pos rfl, if_pos rfl]
  refine ⟨As1 (by simp; omega) (Ajn g4 fun x hx => ?_), rfl, by simp; omega, As1 (by simp; omega) (Ajn g4 fun x hx => ?_), rfl, by simp; omega⟩
  ·rw [List.drop_zero] at hx; exact List.mem_of_mem_take hx
  ·rw [List.take_length] at hx; exact List.mem_of_mem_drop hx
 ·subst g1 g4
  simp only [List.length_nil] at h1
  rw [if_neg (by simp), if_neg (by simp)]
  dsimp only at *
  exact ⟨S4 (.inr rfl) h0 (by omega), rfl, by simp, S4 (.inr rfl) (by omega) (by omega), rfl, by simp⟩
def skp : List DPart -> List DPart
 | [] => []
 | p :: r => if Al p = 0 then skp r else p :: r
theorem Afa {p : DPart} {r : List DPart} (h : Al p = 0) : skp (p :: r) = skp r := by rw [skp, if_pos h]
theorem Mp {p : DPart} {r : List DPart} (h : Al p ≠ 0) : skp (p :: r) = p :: r := by rw [skp, if_neg h]
theorem K1 : ∀ l : List DPart, skp (skp l) = skp l
 | [] => rfl
 | p :: r => by
  by_cases h : Al p = 0
  ·rw [Afa h]; exact K1 r
  ·rw [Mp h, Mp h]
theorem Y5 (q : List DPart) : (skp q).length <= q.length := by
 induction q with
 | nil => simp [skp]
 | cons x q ih => unfold skp; split <;> simp <;> omega
theorem Mo {l : List DPart} {p : DPart} {r : List DPart} (h : skp l = p :: r) : Al p ≠ 0 := fun h0 => by
 have h2 := K1 l
 rw [h, Afa h0] at h2
 have h3 := Y5 r
 rw [h2] at h3
 simp at h3
 omega
theorem Tv : ∀ {l : List DPart}, oks l -> oks (skp l)
 | [], h => h
 | p :: r, h => by
  unfold skp
  split
  ·exact Tv (Ib h)
  ·exact h
def E7 (f : Int) (p : DPart) : Int := if p.kind = f then 0 else Al p
def Ek (f : Int) (l : List DPart) : Int := Bm (E7 f) l
def A3 (l : List DPart) : Int := Bm Al l
theorem Fi (f : Int) (p : DPart) (r : List DPart) : Ek f (p :: r) = E7 f p + Ek f r := rfl
theorem In (p : DPart) (r : List DPart) : A3 (p :: r) = Al p + A3 r := rfl
theorem Asd {f : Int} {l : List DPart} (h : oks l) : 0 <= Ek f l := Ot fun x hx => by
 have := C0 (h x hx); unfold E7; split <;> omega
theorem Fn {l : List DPart} (h : oks l) : 0 <= A3 l := Ot fun x hx => (C0 (h x hx)).1
theorem L3 (f : Int) : ∀ l : List DPart, Ek f (skp l) = Ek f l
 | [] => rfl
 | p :: r => by
  unfold skp
  split
  ·rename_i h; rw [Fi, L3 f r]; unfold E7; split <;> omega
  ·rfl
theorem Io : ∀ l : List DPart, A3 (skp l) = A3 l
 | [] => rfl
 | p :: r => by
  unfold skp
  split
  ·rename_i h; rw [In, Io r]; omega
  ·rfl
theorem X0 {l : List DPart} (h : oks l) : Ek 2 l = Be l := T1 fun p hp => by
 unfold E7 Du Ch Co Al
 rcases Dd (h p hp) with ⟨g1, g2, g3, g4⟩ | ⟨g1, g2, g3, g4⟩ | ⟨g1, g2, g3, g4⟩ <;> simp [g1, g4]
theorem X1 {l : List DPart} (h : oks l) : Ek 3 l = Ez l := T1 fun p hp => by
 unfold E7 Jg Ch Cc Al
 rcases Dd (h p hp) with ⟨g1, g2, g3, g4⟩ | ⟨g1, g2, g3, g4⟩ | ⟨g1, g2, g3, g4⟩ <;> simp [g1, g2, g4]
theorem Bhl {l : List DPart} (h : oks l) : A3 l = Cj l + Bn l + Ct l := by
 unfold Cj Bn Ct
 induction l with
 | nil => rfl
 | cons p r ih =>
  rw [In, ih (Ib h)]
  have e : Al p = Ch p + Cc p + Co p := by
   unfold Ch Cc Co Al
   rcases Dd (Ga h) with ⟨g1, g2, g3, g4⟩ | ⟨g1, g2, g3, g4⟩ | ⟨g1, g2, g3, g4⟩ <;> simp [g1, g2, g4]
  simp only [Bm]
  omega
abbrev Em := Option DPart × Option DPart
def G0 (f : Int) : List DPart -> List DPart -> Option (Em × List DPart × List DPart)
 | [], [] => none
 | [], q :: t => if q.kind = 2 then some ((none, some (A4 q (Al q))), [], A9 q (Al q) :: t) else none
 | p :: r, [] => if p.kind = f then some ((some (A4 p (Al p)), none), A9 p (Al p) :: r, []) else none
 | p :: r, q :: t => if p.kind = f then some ((some (A4 p (Al p)), none), A9 p (Al p) :: r, q :: t)
  else if q.kind = 2 then some ((none, some (A4 q (Al q))), p :: r, A9 q (Al q) :: t)
  else some ((some (A4 p (min (Al p) (Al q))), some (A4 q (min (Al p) (Al q)))), A9 p (min (Al p) (Al q)) :: r, A9 q (min (Al p) (Al q)) :: t)
structure J (f : Int) (a b : List DPart) : Prop where
 oa : oks a
 ob : oks b
 la : a.length <= 600
 lb : b.length <= 600
 m : Ek f a = Ek 2 b
theorem J.skp {f : Int} {a b : List DPart} (h : J f a b) : J f (skp a) (skp b) := ⟨Tv h.oa, Tv h.ob, by have := Y5 a; have := h.la; omega, by have := Y5 b; have := h.lb; omega, by rw [L3, L3]; exact h.m⟩
theorem Ata {f : Int} {p : DPart} (h : p.kind = f) : E7 f p = 0 := if_pos h
theorem Ma {f : Int} {p : DPart} (h : p.kind ≠ f) : E7 f p = Al p := if_neg h
theorem N7 {f : Int} {p : DPart} {n : Int} (h : Au p = true) (h0 : 0 <= n) (h1 : n <= Al p) (hk : p.kind ≠ f) : E7 f (A9 p n) = E7 f p - n := by
 have g := Cx h h0 h1
 rw [Ma hk, Ma (by rw [g.2.2.2.2.1]; exact hk), g.2.2.2.2.2]
theorem Ta {f : Int} {p : DPart} {n : Int} (h : Au p = true) (h0 : 0 <= n) (h1 : n <= Al p) (hk : p.kind = f) : E7 f (A9 p n) = E7 f p := by
 have g := Cx h h0 h1
 rw [Ata hk, Ata (by rw [g.2.2.2.2.1]; exact hk)]
theorem J.left {f : Int} {p : DPart} {r b : List DPart} (h : J f (p :: r) b) (hk : p.kind = f) : J f (A9 p (Al p) :: r) b /\ A3 (A9 p (Al p) :: r) = A3 (p :: r) - Al p := by
 have ho := Ga h.oa
 have hb := C0 ho
 have g := Cx ho hb.1 (Int.le_refl _)
 refine ⟨⟨S5 g.2.2.2.1 (Ib h.oa), h.ob, by have := h.la; simpa using this, h.lb, ?_⟩, by rw [In, In, g.2.2.2.2.2]; omega⟩
 rw [<- h.m, Fi, Fi, Ta ho hb.1 (Int.le_refl _) hk]
theorem J.right {f : Int} {q : DPart} {a t : List DPart} (h : J f a (q :: t)) (hk : q.kind = 2) : J f a (A9 q (Al q) :: t) /\ A3 (A9 q (Al q) :: t) = A3 (q :: t) - Al q := by
 have ho := Ga h.ob
 have hb := C0 ho
 have g := Cx ho hb.1 (Int.le_refl _)
 refine ⟨⟨h.oa, S5 g.2.2.2.1 (Ib h.ob), h.la, by have := h.lb; simpa using this, ?_⟩, by rw [In, In, g.2.2.2.2.2]; omega⟩
 rw [h.m, Fi, Fi, Ta ho hb.1 (Int.le_refl _) hk]
theorem J.both {f : Int} {p q : DPart} {r t : List DPart} (h : J f (p :: r) (q :: t)) (hk : p.kind ≠ f) (hk2 : q.kind ≠ 2) {n : Int} (hn : n = min (Al p) (Al q)) :
  J f (A9 p n :: r) (A9 q n :: t) /\ A3 (A9 p n :: r) = A3 (p :: r) - n /\ A3 (A9 q n :: t) = A3 (q :: t) - n /\ 0 <= n /\ n <= Al p /\ n <= Al q := by
 have hp := Ga h.oa
 have hq := Ga h.ob
 have h1 := C0 hp
 have h2 := C0 hq
 have h3 : 0 <= n /\ n <= Al p /\ n <= Al q := by omega
 have g := Cx hp h3.1 h3.2.1
 have g' := Cx hq h3.1 h3.2.2
 refine ⟨⟨S5 g.2.2.2.1 (Ib h.oa), S5 g'.2.2.2.1 (Ib h.ob), by have := h.la; simpa using this, by have := h.lb; simpa using this, ?_⟩, by rw [In, In, g.2.2.2.2.2]; omega, by rw [In, In, g'.2.2.2.2.2]; omega, h3⟩
 have := h.m
 rw [Fi, Fi] at *
 rw [N7 hp h3.1 h3.2.1 hk, N7 hq h3.1 h3.2.2 hk2]
 omega
theorem J.no_right {f : Int} {p : DPart} {r : List DPart} (h : J f (p :: r) []) (h0 : Al p ≠ 0) : p.kind = f := by
 by_cases hk : p.kind = f
 ·exact hk
 ·have h1 := h.m
  have h2 := Asd (f := f) (Ib h.oa)
  have h3 := C0 (Ga h.oa)
  rw [Fi, Ma hk] at h1
  have : Ek 2 [] = 0 := rfl
  omega
theorem J.no_left {f : Int} {q : DPart} {t : List DPart} (h : J f [] (q :: t)) (h0 : Al q ≠ 0) : q.kind = 2 := by
 by_cases hk : q.kind = 2
 ·exact hk
 ·have h1 := h.m
  have h2 := Asd (f := 2) (Ib h.ob)
  have h3 := C0 (Ga h.ob)
  rw [Fi, Ma hk] at h1
  have : Ek f [] = 0 := rfl
  omega
theorem Au5 {f : Int} {a b a' b' : List DPart} {e : Em} (h : J f a b) (ha : ∀ p r, a = p :: r -> Al p ≠ 0) (hb : ∀ p r, b = p :: r -> Al p ≠ 0) (hs : G0 f a b = some (e, a', b')) : J f a' b' /\ A3 a' + A3 b' < A3 a + A3 b := by
 cases a with
 | nil =>
  cases b with
  | nil => cases hs
  | cons q t =>
   simp only [G0] at hs
   split at hs
   ·rename_i hk
    simp only [Option.some.injEq, Prod.mk.injEq] at hs
    obtain ⟨_, rfl, rfl⟩ := hs
    have g := h.right hk
    have := C0 (Ga h.ob); have := hb q t rfl
    exact ⟨g.1, by omega⟩
   ·cases hs
 | cons p r =>
  have h1 := C0 (Ga h.oa); have h2 := ha p r rfl
  cases b with
  | nil =>
   simp only [G0] at hs
   split at hs
   ·rename_i hk
    simp only [Option.some.injEq, Prod.mk.injEq] at hs
    obtain ⟨_, rfl, rfl⟩ := hs
    have g := h.left hk
    exact ⟨g.1, by omega⟩
   ·cases hs
  | cons q t =>
   have h3 := C0 (Ga h.ob); have h4 := hb q t rfl
   simp only [G0] at hs
   split at hs
   ·rename_i hk
    simp only [Option.some.injEq, Prod.mk.injEq] at hs
    obtain ⟨_, rfl, rfl⟩ := hs
    have g := h.left hk
    exact ⟨g.1, by omega⟩
   ·rename_i hk
    split at hs
    ·rename_i hk2
     simp only [Option.some.injEq, Prod.mk.injEq] at hs
     obtain ⟨_, rfl, rfl⟩ := hs
     have g := h.right hk2
     exact ⟨g.1, by omega⟩
    ·rename_i hk2
     simp only [Option.some.injEq, Prod.mk.injEq] at hs
     obtain ⟨_, rfl, rfl⟩ := hs
     have g := h.both hk hk2 rfl
     exact ⟨g.1, by omega⟩
def H3 (f : Int) : Nat -> List DPart -> List DPart -> List Em
 | 0, _, _ => []
 | k + 1, a, b => match G0 f (skp a) (skp b) with
  | none => []
  | some (e, a', b') => e :: H3 f k a' b'
def tr (f : Int) (a b : List DPart) : List Em := H3 f (A3 a + A3 b).toNat a b
theorem Lh : ∀ {l : List DPart}, oks l -> A3 l = 0 -> skp l = []
 | [], _, _ => rfl
 | p :: r, h, hz => by
  have h1 := C0 (Ga h)
  have h2 := Fn (Ib h)
  rw [In] at hz
  unfold skp
  rw [if_pos (by omega)]
  exact Lh (Ib h) (by omega)
theorem Av0 {f : Int} : ∀ (k k' : Nat) {a b : List DPart}, J f a b -> A3 a + A3 b <= k -> A3 a + A3 b <= k' -> H3 f k a b = H3 f k' a b
 | 0, 0, _, _, _, _, _ => rfl
 | 0, k' + 1, a, b, h, h1, _ => by
  have := Fn h.oa; have := Fn h.ob
  unfold H3
  rw [Lh h.oa (by omega), Lh h.ob (by omega)]; rfl
 | k + 1, 0, a, b, h, _, h2 => by
  have := Fn h.oa; have := Fn h.ob
  unfold H3
  rw [Lh h.oa (by omega), Lh h.ob (by omega)]; rfl
 | k + 1, k' + 1, a, b, h, h1, h2 => by
  unfold H3
  cases hs : G0 f (skp a) (skp b) with
  | none => rfl
  | some x =>
   obtain ⟨e, a', b'⟩ := x
   have g := Au5 h.skp (fun p r hp => Mo hp) (fun p r hp => Mo hp) hs
   rw [Io, Io] at g
   simp only
   rw [Av0 k k' g.1 (by omega) (by omega)]
theorem Afu {f : Int} {a b a' b' : List DPart} {e : Em} (h : J f a b) (hs : G0 f (skp a) (skp b) = some (e, a', b')) : tr f a b = e :: tr f a' b' := by
 have g := Au5 h.skp (fun p r hp => Mo hp) (fun p r hp => Mo hp) hs
 rw [Io, Io] at g
 have h1 := Fn g.1.oa; have h2 := Fn g.1.ob
 unfold tr
 rw [show (A3 a + A3 b).toNat = ((A3 a + A3 b).toNat - 1) + 1 by omega]
 rw [H3, hs]
 simp only
 rw [Av0 _ (A3 a' + A3 b').toNat g.1 (by omega) (by omega)]
theorem Bh3 {f : Int} {a b : List DPart} (hs : G0 f (skp a) (skp b) = none) : tr f a b = [] := by
 unfold tr
 cases (A3 a + A3 b).toNat with
 | zero => rfl
 | succ k => rw [H3, hs]
theorem Bh5 {f : Int} (k : Nat) {a b a' b' : List DPart} (ha : skp a = skp a') (hb : skp b = skp b') : H3 f k a b = H3 f k a' b' := by
 cases k with
 | zero => rfl
 | succ k => unfold H3; rw [ha, hb]
theorem Zj {f : Int} {a b a' b' : List DPart} (ha : skp a = skp a') (hb : skp b = skp b') : tr f a b = tr f a' b' := by
 unfold tr
 rw [Bh5 _ ha hb, show A3 a = A3 a' by rw [<- Io a, ha, Io], show A3 b = A3 b' by rw [<- Io b, hb, Io]]
def Dr : List DPart -> DPart
 | [] => ⟨0, 0, []⟩
 | p :: _ => p
theorem Abn (p : DPart) (r : List DPart) : el (p :: r) 0 = p := rfl
theorem Xb {p : DPart} (h : Au p = true) : Hl p = some (Al p) := Are h
theorem A9i {l : List DPart} (h : oks l) (hl : l.length <= 600) : Bj Aad l = some (skp l) := by
 refine Xf (f := Aad) (fun s => oks s /\ s.length <= 600) (fun s => s.length) skp (fun s hP => ?_) l ⟨h, hl⟩
 obtain ⟨h1, h2⟩ := hP
 unfold Aad Awp
 cases s with
 | nil => exact .inr rfl
 | cons p r =>
  have e : ((p :: r).take (p :: r).length).drop 1 = r := by simp
  rw [Ak (by simp <;> omega), Ae ⟨by omega, by simp <;> omega⟩, Abn, Xb (Ga h1), Option.bind_some, Option.bind_some]
  by_cases hz : Al p = 0
  ·refine .inl ⟨r, ?_, ⟨Ib h1, by simp at h2; omega⟩, by simp, by rw [skp, if_pos hz]⟩
   rw [Ak hz, Ae ⟨by omega, by simp <;> omega⟩, e]
  ·exact .inr (by rw [Ag hz, skp, if_neg hz])
theorem Ard {l : List DPart} (h : oks l) (hl : l.length <= 600) : Eo ⟨l⟩ = some (Dr (skp l), ⟨skp l⟩) := by
 unfold Eo
 rw [A9i h hl, Option.bind_some]
 cases skp l with
 | nil => rfl
 | cons p r => rw [Ag (by simp <;> omega), Ae ⟨by omega, by simp <;> omega⟩]; rfl
theorem Acx {p : DPart} {r : List DPart} {n : Int} (h : Au p = true) (hl : (p :: r).length <= 600) (h0 : 0 <= n) (h1 : n <= Al p) : Js ⟨p :: r⟩ n = some (A4 p n, ⟨A9 p n :: r⟩) := by
 have hb := C0 h
 unfold Js A4 A9
 rw [Abn]
 have e : ((p :: r).take (p :: r).length).drop 1 = r := by simp
 have hl' : r.length + 1 <= 600 := by simpa using hl
 rw [e, Ae ⟨by omega, by simp <;> omega⟩]
 by_cases hk : p.kind = 2
 ·have hs : n <= p.signs.length := by
   unfold Al at h1
   rcases Dd h with ⟨g1, _⟩ | ⟨g1, g2, g3, g4⟩ | ⟨g1, _⟩ <;> omega
  rw [Ak hk, Ae ⟨h0, hs⟩, Ae ⟨h0, hs⟩, Ae ⟨by omega, by simp <;> omega⟩, Ae (by simp <;> omega), if_pos hk, if_pos hk]; rfl
 ·rw [Ag hk, Av (by have := Je h; omega) (by have := Je h; omega), Ae ⟨by omega, by simp <;> omega⟩, Ae (by simp <;> omega), if_neg hk, if_neg hk]; rfl
theorem Arg {p : DPart} {r : List DPart} (h : Au p = true) (hl : (p :: r).length <= 600) : K9 ⟨p :: r⟩ = some (A4 p (Al p), ⟨A9 p (Al p) :: r⟩) := by
 unfold K9
 rw [Ae ⟨by omega, by simp <;> omega⟩]
 simp only [Abn, Xb h, Option.bind_some]
 rw [Acx h hl (C0 h).1 (Int.le_refl _)]; rfl
section
theorem J.skpL {f : Int} {a b : List DPart} (h : J f a b) : J f (Go.Proofs.YtipinmfmejccdaaGreat.skp a) b := ⟨Tv h.oa, h.ob, h.skp.la, h.lb, by rw [L3]; exact h.m⟩
theorem Bh2 {f : Int} {p : DPart} {r b : List DPart} (h : J f (p :: r) b) (h0 : Al p ≠ 0) (hk : p.kind = f) : tr f (p :: r) b = (some (A4 p (Al p)), none) :: tr f (A9 p (Al p) :: r) b := by
 have e : G0 f (skp (p :: r)) (skp b) = some ((some (A4 p (Al p)), none), A9 p (Al p) :: r, skp b) := by
  rw [Mp h0]
  cases skp b <;> simp only [G0, if_pos hk]
 rw [Afu h e, Zj rfl (K1 b)]
theorem Avy {f : Int} {q : DPart} {a t : List DPart} (h : J f a (q :: t)) (h0 : Al q ≠ 0) (hk : q.kind = 2) (ha : ∀ p r, skp a = p :: r -> p.kind ≠ f) : tr f a (q :: t) = (none, some (A4 q (Al q))) :: tr f a (A9 q (Al q) :: t) := by
 have e : G0 f (skp a) (skp (q :: t)) = some ((none, some (A4 q (Al q))), skp a, A9 q (Al q) :: t) := by
  rw [Mp h0]
  cases hA : skp a with
  | nil => simp only [G0, if_pos hk]
  | cons p r => simp only [G0, if_neg (ha p r hA), if_pos hk]
 rw [Afu h e, Zj (K1 a) rfl]
theorem Bh1 {f : Int} {p q : DPart} {r t : List DPart} (h : J f (p :: r) (q :: t)) (h0 : Al p ≠ 0) (h1 : Al q ≠ 0) (hk : p.kind ≠ f) (hk2 : q.kind ≠ 2) {n : Int} (hn : n = min (Al p) (Al q)) :
  tr f (p :: r) (q :: t) = (some (A4 p n), some (A4 q n)) :: tr f (A9 p n :: r) (A9 q n :: t) := by
 subst hn
 exact Afu h (by rw [Mp h0, Mp h1]; simp only [G0, if_neg hk, if_neg hk2])
theorem Afs {f : Int} {a b : List DPart} (h0 : skp a = []) (h1 : skp b = []) : tr f a b = [] := Bh3 (by rw [h0, h1]; rfl)
theorem Aft {f : Int} {a b : List DPart} : tr f (skp a) (skp b) = tr f a b := Zj (K1 a) (K1 b)
theorem Bh4 {f : Int} {a b : List DPart} : tr f (skp a) b = tr f a b := Zj (K1 a) rfl
def Dx : Em -> List DPart
 | (some p, some q) => if q.kind = 1 then [p] else []
 | (some p, none) => [p]
 | (none, some q) => [⟨1, q.signs.length, []⟩]
 | (none, none) => []
def Dy : Em -> List DPart
 | (some p, some q) => if p.kind = 1 then [q] else []
 | (some p, none) => [⟨1, p.signs.length, []⟩]
 | (none, some q) => [q]
 | (none, none) => []
def Gb (a b : List DPart) : List DPart := (tr 2 a b).flatMap Dx
def Gc (a b : List DPart) : List DPart := (tr 2 a b).flatMap Dy
theorem Zi {f : Int} {a b : List DPart} (h : J f a b) :
  (skp a = [] /\ skp b = [] /\ tr f a b = []) \/
  (∃ p r, skp a = p :: r /\ p.kind = f /\ Au p = true /\ (p :: r).length <= 600 /\ J f (A9 p (Al p) :: r) b /\ A3 (A9 p (Al p) :: r) + A3 b < A3 a + A3 b /\ tr f a b = (some (A4 p (Al p)), none) :: tr f (A9 p (Al p) :: r) b) \/
  (∃ q t, skp b = q :: t /\ q.kind = 2 /\ Au q = true /\ (q :: t).length <= 600 /\ (skp a = [] \/ ∃ p r, skp a = p :: r /\ p.kind ≠ f /\ p.kind ≠ 0) /\ J f (skp a) (A9 q (Al q) :: t) /\ A3 (skp a) + A3 (A9 q (Al q) :: t) < A3 a + A3 b /\ tr f a b = (none, some (A4 q (Al q))) :: tr f (skp a) (A9 q (Al q) :: t)) \/
  (∃ p r q t n, skp a = p :: r /\ skp b = q :: t /\ p.kind ≠ f /\ q.kind ≠ 2 /\ Au p = true /\ Au q = true /\ (p :: r).length <= 600 /\ (q :: t).length <= 600 /\ min (Al p) (Al q) = n /\ 0 <= n /\ n <= Al p /\ n <= Al q /\ J f (A9 p n :: r) (A9 q n :: t) /\ A3 (A9 p n :: r) + A3 (A9 q n :: t) < A3 a + A3 b /\ tr f a b = (some (A4 p n), some (A4 q n)) :: tr f (A9 p n :: r) (A9 q n :: t)) := by
 have hs := h.skp
 have z1 := Io a
 have z2 := Io b
 cases hA : skp a with
 | nil =>
  rw [hA] at hs z1
  cases hB : skp b with
  | nil => exact .inl ⟨rfl, rfl, Afs hA hB⟩
  | cons q t =>
   rw [hB] at hs z2
   have hq := Mo hB
   have hk := hs.no_left hq
   have ok := Ga hs.ob
   have g := hs.right hk
   have bq := C0 ok
   exact .inr (.inr (.inl ⟨q, t, rfl, hk, ok, hs.lb, .inl rfl, g.1, by omega, by rw [<- Aft, hA, hB, Avy hs hq hk (fun p r hp => by cases hp)]⟩))
 | cons p r =>
  rw [hA] at hs z1
  have hp := Mo hA
  have okp := Ga hs.oa
  have bp := C0 okp
  by_cases hk : p.kind = f
  ·have h' : J f (p :: r) b := by have := h.skpL; rw [hA] at this; exact this
   have g := h'.left hk
   exact .inr (.inl ⟨p, r, rfl, hk, okp, hs.la, g.1, by omega, by rw [<- Bh4, hA, Bh2 h' hp hk]⟩)
  ·have k0 : p.kind ≠ 0 := by
    rcases Dd okp with ⟨g1, _⟩ | ⟨g1, _⟩ | ⟨g1, _⟩ <;> omega
   cases hB : skp b with
   | nil =>
    rw [hB] at hs
    exact absurd (hs.no_right hp) hk
   | cons q t =>
    rw [hB] at hs z2
    have hq := Mo hB
    have okq := Ga hs.ob
    have bq := C0 okq
    by_cases hk2 : q.kind = 2
    ·have g := hs.right hk2
     exact .inr (.inr (.inl ⟨q, t, rfl, hk2, okq, hs.lb, .inr ⟨p, r, rfl, hk, k0⟩, g.1, by omega, by rw [<- Aft, hA, hB, Avy hs hq hk2 (fun p' r' hp' => by rw [Mp hp] at hp'; cases hp'; exact hk)]⟩))
    ·have g := hs.both hk hk2 rfl
     exact .inr (.inr (.inr ⟨p, r, q, t, _, rfl, rfl, hk, hk2, okp, okq, hs.la, hs.lb, rfl, g.2.2.2.1, g.2.2.2.2.1, g.2.2.2.2.2, g.1, by omega, by rw [<- Aft, hA, hB, Bh1 hs hp hq hk hk2 rfl]⟩))
theorem Asa {σ ρ : Type} {f : Int} {F : σ -> Option (Lr σ ρ)} (A B : σ -> List DPart) (P : σ -> Prop) (G : σ -> List Em -> ρ)
  (hs : ∀ s, P s -> J f (A s) (B s) ->
   (∃ e s', F s = some (.go s') /\ P s' /\ J f (A s') (B s') /\ A3 (A s') + A3 (B s') < A3 (A s) + A3 (B s) /\ tr f (A s) (B s) = e :: tr f (A s') (B s') /\ ∀ l, G s (e :: l) = G s' l) \/
   (F s = some (.out (G s [])) /\ tr f (A s) (B s) = [])) (s : σ) (h : P s) (h1 : J f (A s) (B s)) : Bj F s = some (G s (tr f (A s) (B s))) :=
 Xf (f := F) (fun s => P s /\ J f (A s) (B s)) (fun s => (A3 (A s) + A3 (B s)).toNat) (fun s => G s (tr f (A s) (B s))) (fun s hP => by
  rcases hs s hP.1 hP.2 with ⟨e, s', g1, g2, g3, g4, g5, g6⟩ | ⟨g1, g2⟩
  ·have n1 := Fn g3.oa
   have n2 := Fn g3.ob
   exact .inl ⟨s', g1, ⟨g2, g3⟩, by omega, by rw [g5, g6]⟩
  ·exact .inr (by rw [g1, g2])) s ⟨h, h1⟩
theorem Abo (e : Em) : (Dx e).length <= 1 := by
 obtain ⟨_ | p, _ | q⟩ := e <;> simp only [Dx] <;> (try split) <;> simp
theorem Abp (e : Em) : (Dy e).length <= 1 := by
 obtain ⟨_ | p, _ | q⟩ := e <;> simp only [Dy] <;> (try split) <;> simp
section
variable {a b r t : List DPart} {p q : DPart} {n : Int}
theorem Qa (h : Au p = true) : p.kind ≠ 0 := by
 rcases Dd h with ⟨g1, _⟩ | ⟨g1, _⟩ | ⟨g1, _⟩ <;> omega
theorem Lt (h : oks a) (hl : a.length <= 600) {c : List DPart} (hc : skp a = c) : Eo ⟨a⟩ = some (Dr c, ⟨c⟩) /\ Eo ⟨c⟩ = some (Dr c, ⟨c⟩) := by
 subst hc
 refine ⟨Ard h hl, ?_⟩
 have := Ard (Tv h) (by have := Y5 a; omega)
 rwa [K1] at this
variable {o : List DPart}
end
section
variable {x y : List DPart}
theorem A9o {a b : List DPart} (h : J 2 a b) (hA : skp a = []) (hB : skp b = []) : Jq x y a b = some (.out (x, y)) := by
 have ea := (Lt h.oa h.la hA).1
 have eb := (Lt h.ob h.lb hB).1
 unfold Jq
 simp (disch := first | assumption | omega | rfl) only [ea, eb, Option.bind_some, Dr, A7, Bh, An, decide_true, Bool.not_true]
theorem A9p {a b r : List DPart} {p : DPart} (h : J 2 a b) (ho : x.length <= 1000000) (ho2 : y.length <= 1000000) (hA : skp a = p :: r) (hk : p.kind = 2) (ok : Au p = true) (hl : (p :: r).length <= 600) : Jq x y a b = some (.go (x ++ [A4 p (Al p)], y ++ [(⟨1, ((A4 p (Al p)).signs.length : Int), []⟩ : DPart)], A9 p (Al p) :: r, b)) := by
 obtain ⟨ea, eA⟩ := Lt h.oa h.la hA
 have w := Arg ok hl
 have k0 := Qa ok
 clear hA hl
 unfold Jq
 simp (disch := first | assumption | omega | rfl) only [ea, eA, w, hk, Option.bind_some, Dr, A7, Ag, Bh, Ae, decide_true]
theorem A9q {a b t : List DPart} {q : DPart} (h : J 2 a b) (ho : x.length <= 1000000) (ho2 : y.length <= 1000000) (hB : skp b = q :: t) (hk : q.kind = 2) (ok : Au q = true) (hl : (q :: t).length <= 600) (hA : skp a = [] \/ ∃ p r, skp a = p :: r /\ p.kind ≠ 2 /\ p.kind ≠ 0) : Jq x y a b = some (.go (x ++ [(⟨1, ((A4 q (Al q)).signs.length : Int), []⟩ : DPart)], y ++ [A4 q (Al q)], skp a, A9 q (Al q) :: t)) := by
 obtain ⟨eb, eB⟩ := Lt h.ob h.lb hB
 have w := Arg ok hl
 have k0 := Qa ok
 clear hB hl
 unfold Jq
 rcases hA with hA | ⟨p, r, hA, g1, g2⟩
 ·obtain ⟨ea, eA⟩ := Lt h.oa h.la hA
  rw [hA]; clear hA
  simp (disch := first | assumption | omega | rfl) only [ea, eA, eb, eB, w, hk, Option.bind_some, Dr, A7, Ag, Bh, Ae, decide_true]
 ·obtain ⟨ea, eA⟩ := Lt h.oa h.la hA
  rw [hA]; clear hA
  simp (disch := first | assumption | omega | rfl) only [ea, eA, eb, eB, w, hk, g1, g2, Option.bind_some, Dr, A7, Bh, An, Ae, decide_true, decide_false]
theorem A9n {a b r t : List DPart} {p q : DPart} {n : Int} (h : J 2 a b) (ho : x.length <= 1000000) (ho2 : y.length <= 1000000) (hA : skp a = p :: r) (hB : skp b = q :: t) (hk : p.kind ≠ 2) (hk2 : q.kind ≠ 2) (okp : Au p = true) (okq : Au q = true) (hl : (p :: r).length <= 600) (hl2 : (q :: t).length <= 600)
  (hn : min (Al p) (Al q) = n) (h0 : 0 <= n) (h1 : n <= Al p) (h2 : n <= Al q) : Jq x y a b = some (.go (x ++ Dx (some (A4 p n), some (A4 q n)), y ++ Dy (some (A4 p n), some (A4 q n)), A9 p n :: r, A9 q n :: t)) := by
 obtain ⟨ea, eA⟩ := Lt h.oa h.la hA
 obtain ⟨eb, eB⟩ := Lt h.ob h.lb hB
 have tp := Acx (r := r) okp hl h0 h1
 have tq := Acx (r := t) okq hl2 h0 h2
 have sp := Xb okp
 have sq := Xb okq
 have ck := (Cx okp h0 h1).2.1
 have ck2 := (Cx okq h0 h2).2.1
 have k0 := Qa okp
 clear hA hB hl hl2 okp okq h0 h1 h2 h
 unfold Jq Dx Dy
 by_cases g1 : q.kind = 1
 ·by_cases g2 : p.kind = 1
  ·simp (disch := first | assumption | omega | rfl) only [ea, eb, eA, eB, sp, sq, tp, tq, hn, ck, ck2, g1, g2, Option.bind_some, Dr, A7, Ag, Bh, Ae, decide_true, if_true]
  ·simp (disch := first | assumption | omega | rfl) only [ea, eb, eA, eB, sp, sq, tp, tq, hn, hk, k0, ck, ck2, g1, g2, List.append_nil, Option.bind_some, Dr, A7, Ag, Bh, An, Ae, decide_true, decide_false, if_false, if_true]
 ·by_cases g2 : p.kind = 1
  ·simp (disch := first | assumption | omega | rfl) only [ea, eb, eA, eB, sp, sq, tp, tq, hn, hk2, ck, ck2, g1, g2, List.append_nil, Option.bind_some, Dr, A7, Ag, Bh, An, Ae, decide_true, decide_false, if_false, if_true]
  ·simp (disch := first | assumption | omega | rfl) only [ea, eb, eA, eB, sp, sq, tp, tq, hn, hk, hk2, k0, ck, ck2, g1, g2, List.append_nil, Option.bind_some, Dr, A7, Bh, An, Ae, decide_false, if_false]
end
theorem A9r {a b : List DPart} (h : J 2 a b) (hl : A3 a + A3 b <= 100000) : Bj Uo ([], [], a, b) = some (Gb a b, Gc a b) := by
 have key := Asa (f := 2) (F := Uo) (fun s => s.2.2.1) (fun s => s.2.2.2) (fun s => (s.1.length : Int) + (A3 s.2.2.1 + A3 s.2.2.2) <= 100000 /\ (s.2.1.length : Int) + (A3 s.2.2.1 + A3 s.2.2.2) <= 100000) (fun s l => (s.1 ++ l.flatMap Dx, s.2.1 ++ l.flatMap Dy)) (fun s hP h => by
  obtain ⟨x, y, a, b⟩ := s
  dsimp only at hP h ⊢
  have n1 := Fn h.oa
  have n2 := Fn h.ob
  have ho : x.length <= 1000000 := by omega
  have ho2 : y.length <= 1000000 := by omega
  rcases Zi h with ⟨hA, hB, ht⟩ | ⟨p, r, hA, hk, ok, hl, g1, g2, ht⟩ | ⟨q, t, hB, hk, ok, hl, hA, g1, g2, ht⟩ | ⟨p, r, q, t, n, hA, hB, hk, hk2, okp, okq, hl, hl2, hn, h0, h1, h2, g1, g2, ht⟩
  ·exact .inr ⟨by unfold Uo; rw [A9o h hA hB]; simp, ht⟩
  ·exact .inl ⟨_, (x ++ [A4 p (Al p)], y ++ [(⟨1, ((A4 p (Al p)).signs.length : Int), []⟩ : DPart)], A9 p (Al p) :: r, b), A9p h ho ho2 hA hk ok hl, ⟨by simp only [List.length_append, List.length_cons, List.length_nil]; omega, by simp only [List.length_append, List.length_cons, List.length_nil]; omega⟩, g1, g2, ht, fun l => by simp [Dx, Dy]⟩
  ·exact .inl ⟨_, (x ++ [(⟨1, ((A4 q (Al q)).signs.length : Int), []⟩ : DPart)], y ++ [A4 q (Al q)], skp a, A9 q (Al q) :: t), A9q h ho ho2 hB hk ok hl hA, ⟨by simp only [List.length_append, List.length_cons, List.length_nil]; omega, by simp only [List.length_append, List.length_cons, List.length_nil]; omega⟩, g1, g2, ht, fun l => by simp [Dx, Dy]⟩
  ·have hm := Abo (some (A4 p n), some (A4 q n))
   have hm2 := Abp (some (A4 p n), some (A4 q n))
   exact .inl ⟨_, (x ++ Dx (some (A4 p n), some (A4 q n)), y ++ Dy (some (A4 p n), some (A4 q n)), A9 p n :: r, A9 q n :: t), A9n h ho ho2 hA hB hk hk2 okp okq hl hl2 hn h0 h1 h2, ⟨by simp only [List.length_append]; omega, by simp only [List.length_append]; omega⟩, g1, g2, ht, fun l => by simp⟩) ([], [], a, b) ⟨by simpa using hl, by simpa using hl⟩ h
 simpa [Gb, Gc] using key
theorem Avz {f : Int} (Q : Em -> Prop) (hL : ∀ p, Au p = true -> Q (some p, none)) (hR : ∀ p, Au p = true -> Q (none, some p)) (hT : ∀ p q, Au p = true -> Au q = true -> Q (some p, some q)) :
  ∀ (n : Nat) {a b : List DPart}, J f a b -> A3 a + A3 b <= n -> (∀ e ∈ tr f a b, Q e) /\ (tr f a b).length <= n := by
 intro n
 induction n with
 | zero =>
  intro a b h hz
  have n1 := Fn h.oa
  have n2 := Fn h.ob
  rw [Afs (Lh h.oa (by omega)) (Lh h.ob (by omega))]
  exact ⟨fun e he => (by cases he), by simp⟩
 | succ n ih =>
  intro a b h hz
  rcases Zi h with ⟨hA, hB, ht⟩ | ⟨p, r, hA, hk, ok, hl, g1, g2, ht⟩ | ⟨q, t, hB, hk, ok, hl, hA, g1, g2, ht⟩ | ⟨p, r, q, t, n, hA, hB, hk, hk2, okp, okq, hl, hl2, hn, h0, h1, h2, g1, g2, ht⟩ <;> rw [ht]
  ·exact ⟨fun e he => (by cases he), by simp⟩
  ·have g := ih g1 (by omega)
   refine ⟨fun e he => ?_, by simp only [List.length_cons]; omega⟩
   rcases List.mem_cons.1 he with rfl | he
   ·exact hL _ (Cx ok (C0 ok).1 (Int.le_refl _)).1
   ·exact g.1 e he
  ·have g := ih g1 (by omega)
   refine ⟨fun e he => ?_, by simp only [List.length_cons]; omega⟩
   rcases List.mem_cons.1 he with rfl | he
   ·exact hR _ (Cx ok (C0 ok).1 (Int.le_refl _)).1
   ·exact g.1 e he
  ·have g := ih g1 (by omega)
   refine ⟨fun e he => ?_, by simp only [List.length_cons]; omega⟩
   rcases List.mem_cons.1 he with rfl | he
   ·exact hT _ _ (Cx okp h0 h1).1 (Cx okq h0 h2).1
   ·exact g.1 e he
theorem Apm {g : Em -> List DPart} {l : List Em} (h1 : ∀ e ∈ l, ∀ p ∈ g e, Au p = true) (h2 : ∀ e, (g e).length <= 1) : (∀ p ∈ l.flatMap g, Au p = true) /\ (l.flatMap g).length <= l.length := by
 refine ⟨fun p hp => ?_, ?_⟩
 ·obtain ⟨e, he, hp⟩ := List.mem_flatMap.1 hp
  exact h1 e he p hp
 ·induction l with
  | nil => simp
  | cons e l ih =>
   have := ih (fun e' he' => h1 e' (by simp [he']))
   have := h2 e
   simp only [List.flatMap_cons, List.length_append, List.length_cons]; omega
theorem X8 {p : DPart} (h : Au p = true) : Au ⟨1, p.signs.length, []⟩ = true := S4 (.inl rfl) (by omega) (by have := Je h; omega)
theorem Ael {a b : List DPart} (h : J 2 a b) (hl : A3 a + A3 b <= 100000) : (∀ p ∈ Gb a b, Au p = true) /\ (Gb a b).length <= 100000 := by
 have g := Avz (f := 2) (fun e => ∀ p ∈ Dx e, Au p = true) (fun p hp q hq => by simp only [Dx, List.mem_singleton] at hq; subst hq; exact hp) (fun p hp q hq => by simp only [Dx, List.mem_singleton] at hq; subst hq; exact X8 hp)
  (fun p q hp hq x hx => by
   simp only [Dx] at hx
   split at hx
   ·simp only [List.mem_singleton] at hx; subst hx; exact hp
   ·cases hx) 100000 h (by omega)
 have k := Apm g.1 Abo
 exact ⟨k.1, by unfold Gb; omega⟩
theorem Yl {a b : List DPart} (h : J 2 a b) (hl : A3 a + A3 b <= 100000) : (∀ p ∈ Gc a b, Au p = true) /\ (Gc a b).length <= 100000 := by
 have g := Avz (f := 2) (fun e => ∀ p ∈ Dy e, Au p = true) (fun p hp q hq => by simp only [Dy, List.mem_singleton] at hq; subst hq; exact X8 hp) (fun p hp q hq => by simp only [Dy, List.mem_singleton] at hq; subst hq; exact hp)
  (fun p q hp hq x hx => by
   simp only [Dy] at hx
   split at hx
   ·simp only [List.mem_singleton] at hx; subst hx; exact hq
   ·cases hx) 100000 h (by omega)
 have k := Apm g.1 Abp
 exact ⟨k.1, by unfold Gc; omega⟩
def Ia (a b : List DPart) : List DPart := Bw (Gb a b)
def F5 (a b : List DPart) : List DPart := Bw (Gc a b)
theorem Asw {o : List DPart} (h : A5 o = true) : oks o /\ o.length <= 600 /\ A3 o <= 600 := by
 have h1 := D7 h
 have h2 := Asu h
 have h3 : oks o := fun p hp => F9 h1 hp
 exact ⟨h3, Kq h1, by rw [Bhl h3]; omega⟩
theorem J2 {a b : List DPart} (ha : A5 a = true) (hb : A5 b = true) (h : Be a = Be b) : J 2 a b /\ A3 a + A3 b <= 100000 := by
 have h1 := Asw ha
 have h2 := Asw hb
 exact ⟨⟨h1.1, h2.1, h1.2.1, h2.2.1, by rw [X0 h1.1, X0 h2.1, h]⟩, by omega⟩
def Hy (a b : List DPart) : List DPart × List DPart × Bool := if A5 a = true /\ A5 b = true /\ Be a = Be b /\ A5 (Ia a b) = true /\ A5 (F5 a b) = true then (Ia a b, F5 a b, true) else ([], [], false)
theorem A9g (a b : List DPart) : O7 a b = some (Hy a b) := by
 unfold O7 Hy
 simp only [N0, W7, Option.bind_some]
 cases ha : A5 a with
 | false => simp
 | true =>
  cases hb : A5 b with
  | false => simp
  | true =>
   simp only [D7 ha, D7 hb, if_true, Bool.not_true, An, Option.bind_some]
   by_cases hf : Be a = Be b
   ·obtain ⟨j, hl⟩ := J2 ha hb hf
    have g := Ael j hl
    have g' := Yl j hl
    rw [decide_eq_true hf, Bool.not_true, An, A9r j hl, Option.bind_some, Acv (fun p hp => Ko (g.1 p hp)) (by omega), Option.bind_some, Acv (fun p hp => Ko (g'.1 p hp)) (by omega), Option.bind_some]
    show (Option.bind (bif !A5 (Ia a b) then _ else some (!A5 (F5 a b))) fun c680 => _) = _
    cases hc : A5 (Ia a b) with
    | false => simp
    | true =>
     cases hd : A5 (F5 a b) with
     | false => simp
     | true => simp [hf]; exact ⟨rfl, rfl⟩
   ·rw [decide_eq_false hf]; simp [hf]
theorem Vx {p : DPart} {n : Int} (ok : Au p = true) (hk : p.kind = 2) (h0 : 0 <= n) (h1 : n <= Al p) : ((A4 p n).signs.length : Int) = n := by
 have g := Cx ok h0 h1
 have g2 := g.2.2.1
 unfold Al at g2
 rcases Dd g.1 with ⟨g1, _⟩ | ⟨_, g3, _⟩ | ⟨g1, _⟩ <;> omega
end
def Bl (c : DL04Cur) : List DPart := if c.at_ < c.o.length then A9 (el c.o c.at_.toNat) c.done :: c.o.drop (c.at_.toNat + 1) else []
structure CI (c : DL04Cur) : Prop where
 ok : oks c.o
 len : c.o.length <= 600
 a0 : 0 <= c.at_
 a1 : c.at_ <= c.o.length
 d0 : 0 <= c.done
 d1 : c.done <= 200
 d2 : c.at_ < c.o.length -> c.done <= Al (el c.o c.at_.toNat)
theorem Bcc (p : DPart) : A9 p 0 = p := by
 obtain ⟨k, n, s⟩ := p
 unfold A9
 simp
theorem Aen (o : List DPart) (k : Int) (h : 0 <= k) : Bl ⟨o, k, 0⟩ = o.drop k.toNat := by
 unfold Bl
 dsimp only
 by_cases hk : k < o.length
 ·rw [if_pos hk, Bcc, <- Abj (by omega)]
 ·rw [if_neg hk, List.drop_eq_nil_of_le (by omega)]
theorem CI.el {c : DL04Cur} (h : CI c) (hk : c.at_ < c.o.length) : Au (el c.o c.at_.toNat) = true := h.ok _ (Cl (by have := h.a0; omega))
theorem Ae1 {p : DPart} (h : Au p = true) : Vk p = some (Al p) := by
 unfold Vk Al
 rcases Dd h with ⟨g1, g2, g3, g4⟩ | ⟨g1, g2, g3, g4⟩ | ⟨g1, g2, g3, g4⟩
 ·rw [Ag (by omega), g4]; simp
 ·rw [Ak g1, g2]; simp
 ·rw [Ag (by omega), g4]; simp
theorem CI.oks {c : DL04Cur} (h : CI c) : Go.Proofs.YtipinmfmejccdaaGreat.oks (Bl c) := by
 unfold Bl
 split
 ·rename_i hk
  exact S5 (Cx (h.el hk) h.d0 (h.d2 hk)).2.2.2.1 (fun p hp => h.ok p (List.mem_of_mem_drop hp))
 ·exact Bbk
theorem Bek {c : DL04Cur} (h : CI c) : ∃ c', Ea c = some ((Dr (skp (Bl c))).kind, c') /\ CI c' /\ c'.o = c.o /\ Bl c' = skp (Bl c) := by
 obtain ⟨r, h1, h2⟩ := Ki (f := Vj) (fun s => s.1 = c.o /\ CI ⟨c.o, s.2.1, s.2.2⟩ /\ skp (Bl ⟨c.o, s.2.1, s.2.2⟩) = skp (Bl c)) (fun s => ((c.o.length : Int) - s.2.1).toNat) (fun r => r.1 = c.o /\ CI ⟨c.o, r.2.1, r.2.2⟩ /\ Bl ⟨c.o, r.2.1, r.2.2⟩ = skp (Bl c)) (fun s hP => by
  obtain ⟨q, k, d⟩ := s
  obtain ⟨e0, g, e⟩ := hP
  obtain rfl : q = c.o := e0
  dsimp only at g e ⊢
  have a0 := g.a0; have a1 := g.a1; have ll := g.len
  dsimp only at a0 a1 ll
  unfold Vj Ah5
  dsimp only
  by_cases hk : k < c.o.length
  ·have ok := g.el hk
   have d2 := g.d2 hk
   have d0 := g.d0
   dsimp only at ok d2 d0
   have sz := (Cx ok d0 d2).2.2.2.2.2
   rw [Ak hk, Ae ⟨a0, hk⟩, Ae1 ok, Option.bind_some, Option.bind_some]
   by_cases he : d = Al (el c.o k.toNat)
   ·refine .inl ⟨(c.o, k + 1, 0), ?_, ⟨rfl, ⟨g.ok, ll, by dsimp only; omega, by dsimp only; omega, by dsimp only; omega, by dsimp only; omega, fun hk' => ?_⟩, ?_⟩, ?_⟩
    ·rw [Ak he, Av (by omega) (by omega)]
    ·dsimp only at hk' ⊢; exact (C0 (g.ok _ (Cl (l := c.o) (by omega)))).1
    ·rw [<- e]; show skp (Bl ⟨c.o, k + 1, 0⟩) = _; rw [Aen _ _ (by omega)]
     unfold Bl
     dsimp only
     rw [if_pos hk, Afa (by omega), show (k + 1).toNat = k.toNat + 1 by omega]
    ·dsimp only; omega
   ·refine .inr ⟨(c.o, k, d), by rw [Ag he], rfl, g, ?_⟩
    rw [<- e]
    unfold Bl
    dsimp only
    rw [if_pos hk, Mp (by omega)]
  ·refine .inr ⟨(c.o, k, d), by rw [Ag hk]; rfl, rfl, g, ?_⟩
   rw [<- e]
   unfold Bl
   dsimp only
   rw [if_neg hk]; rfl) (c.o, c.at_, c.done) ⟨rfl, h, rfl⟩
 obtain ⟨q, k, d⟩ := r
 obtain ⟨e0, h2, h3⟩ := h2
 obtain rfl : q = c.o := e0
 dsimp only at h2 h3
 refine ⟨⟨c.o, k, d⟩, ?_, h2, rfl, h3⟩
 have a0 := h2.a0; have a1 := h2.a1
 dsimp only at a0 a1
 unfold Ea
 rw [h1, Option.bind_some, <- h3]
 by_cases hk : k = c.o.length
 ·rw [Ak hk]
  unfold Bl
  dsimp only
  rw [if_neg (by omega)]; rfl
 ·have hlt : k < c.o.length := by omega
  have ok := h2.el hlt
  have d2 := h2.d2 hlt
  have d0 := h2.d0
  dsimp only at ok d2 d0
  rw [Ag hk, Ae ⟨a0, hlt⟩]
  unfold Bl
  dsimp only
  rw [if_pos hlt]
  simp only [Dr, (Cx ok d0 d2).2.2.2.2.1]
theorem Aeo {c : DL04Cur} {p : DPart} {r : List DPart} (h : Bl c = p :: r) : c.at_ < c.o.length /\ p = A9 (el c.o c.at_.toNat) c.done /\ r = c.o.drop (c.at_.toNat + 1) := by
 unfold Bl at h
 split at h
 ·rename_i hk
  simp only [List.cons.injEq] at h
  exact ⟨hk, h.1.symm, h.2.symm⟩
 ·cases h
theorem Yv {c : DL04Cur} {p : DPart} {r : List DPart} (h : CI c) (hr : Bl c = p :: r) : Gl c = some (Al p, c) := by
 obtain ⟨hk, rfl, _⟩ := Aeo hr
 have ok := h.el hk
 have b := C0 ok
 have := h.d0; have := h.d1
 unfold Gl
 rw [Ae ⟨h.a0, hk⟩, Ae1 ok, Option.bind_some, Av (by omega) (by omega), (Cx ok h.d0 (h.d2 hk)).2.2.2.2.2]
def Eg (c : DL04Cur) (n : Int) : DL04Cur := ⟨c.o, c.at_, c.done + n⟩
theorem Bcd {p : DPart} {d n : Int} (h0 : 0 <= d) (h1 : 0 <= n) : A9 p (d + n) = A9 (A9 p d) n := by
 unfold A9
 by_cases hk : p.kind = 2
 ·simp only [if_pos hk, List.take_length, List.drop_drop]
  rw [show (d + n).toNat = d.toNat + n.toNat by omega]
 ·simp only [if_neg hk]
  rw [show p.n - (d + n) = p.n - d - n by omega]
theorem Vp {c : DL04Cur} {p : DPart} {r : List DPart} {n : Int} (h : CI c) (hr : Bl c = p :: r) (h0 : 0 <= n) (h1 : n <= Al p) : CI (Eg c n) /\ Bl (Eg c n) = A9 p n :: r := by
 obtain ⟨hk, rfl, rfl⟩ := Aeo hr
 have ok := h.el hk
 have b := C0 ok
 have := h.d0; have := h.d1
 rw [(Cx ok h.d0 (h.d2 hk)).2.2.2.2.2] at h1
 refine ⟨⟨h.ok, h.len, h.a0, h.a1, by unfold Eg; dsimp only; omega, by unfold Eg; dsimp only; omega, fun _ => by unfold Eg; dsimp only; omega⟩, ?_⟩
 unfold Bl Eg
 dsimp only
 rw [if_pos hk, Bcd h.d0 h0]
theorem Aum {c : DL04Cur} {p : DPart} {r : List DPart} {n : Int} (h : CI c) (hr : Bl c = p :: r) (h0 : 0 <= n) (h1 : n <= Al p) (hk2 : p.kind = 2) : Lf c n = some ((A4 p n).signs, Eg c n) := by
 obtain ⟨hk, rfl, rfl⟩ := Aeo hr
 have ok := h.el hk
 have b := C0 ok
 have := h.d0; have := h.d1
 have g := Cx ok h.d0 (h.d2 hk)
 rw [g.2.2.2.2.2] at h1
 rw [g.2.2.2.2.1] at hk2
 have hs : Al (el c.o c.at_.toNat) = (el c.o c.at_.toNat).signs.length := by
  unfold Al
  rcases Dd ok with ⟨g1, _⟩ | ⟨_, g2, _⟩ | ⟨g1, _⟩ <;> omega
 unfold Lf
 rw [Ae ⟨h.a0, hk⟩, Av (by omega) (by omega), Ae ⟨by omega, by omega, by omega⟩, Av (by omega) (by omega)]
 unfold Eg A4 A9
 simp only [if_pos hk2, List.take_length, List.drop_zero]
 rw [<- Afq h.d0 h0]
theorem Beo (x y : Int) : Ri x y = some (min x y) := by
 unfold Ri
 by_cases h : x < y
 ·rw [Ak h]; congr 1; omega
 ·rw [Ag h]; congr 1; omega
theorem Ajt {b : DL02B} {p : DPart} (h : p.kind = 2) : Az b p = Hq b p.signs := if_pos h
theorem Ajs {b : DL02B} {p : DPart} (h : p.kind = 3) : Az b p = Hp b p.n := by unfold Az; rw [if_neg (by omega), if_pos h]
theorem Vq {b : DL02B} {p : DPart} (h : p.kind = 1) : Az b p = Dp b p.n := by unfold Az; rw [if_neg (by omega), if_neg (by omega)]
theorem Akf {p : DPart} {n : Int} (h : p.kind ≠ 2) : (A4 p n).n = n := by unfold A4; rw [if_neg h]
end Go.Proofs.YtipinmfmejccdaaGreat
