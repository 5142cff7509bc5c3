/- Part 4 of the proof: lemmas. No condition. -/
import Derived.Test.YtcdecpdpmpfbnaaGreatDoorZ3
open Option renaming bind->B5h
open List renaming length_append->B5m,length_cons->B5q,mem_cons->B5t,length_singleton->B51,cons_append->B6a,foldl_cons->B6j,replicate->B6l,getD_eq_getElem?_getD->B6n,append_nil->B6o,drop_length->B72,drop_eq_getElem_cons->B78,not_mem_nil->Ca2
open Int renaming le_refl->B67,natCast_add->Ca3
open Nat renaming zero_le->B6c,le_refl->B6i,lt_succ_self->B9x
open ByteArray renaming empty->B52
open Sum renaming elim->B59,inr->B6e,inl->B7k
namespace Go.Proofs.YtcdecpdpmpfbnaaGreatDoor
noncomputable section
section
open Go.RowKit
abbrev Ap:PK:=.val false (.b 0)
abbrev Aq:RK:=⟨true,.b 1,false⟩
abbrev A0:RK:=⟨true,.b 0,false⟩
abbrev B8:PK:=.val false (.sl (.b 4))
abbrev Cp:PK:=.val false (.b 2)
abbrev D4:PK:=.val false (.sl (.b 0))
abbrev D5:PK:=.val false (.b 10)
abbrev Eh:PK:=.val false (.b 15)
abbrev Ep:PK:=.val false (.b 7)
abbrev F3:RK:=⟨true,.b 2,false⟩
abbrev Fz:RK:=⟨true,.sl (.b 4),false⟩
abbrev Gk:PK:=.val false (.b 12)
abbrev Hk:RK:=⟨true,.b 10,false⟩
abbrev Jb:PK:=.val false (.b 8)
abbrev Jd:RK:=⟨true,.sl (.b 0),false⟩
abbrev Jz:PK:=.val false (.b 5)
abbrev J5:RK:=⟨true,.b 15,false⟩
abbrev K1:PK:=.val false (.sl (.b 2))
abbrev Mc:RK:=⟨true,.b 8,false⟩
abbrev N4:PK:=.val false (.b 4)
abbrev N5:PK:=.val false (.sl (.b 5))
abbrev N6:PK:=.val false (.b 13)
abbrev Px:RK:=⟨true,.sl (.b 5),false⟩
abbrev U4:RK:=⟨true,.sl (.b 2),false⟩
abbrev Uv:PK:=.val false (.b 14)
abbrev Uw:PK:=.val false (.sl (.b 14))
abbrev U5:RK:=⟨true,.b 7,false⟩
abbrev U6:RK:=⟨true,.b 13,false⟩
abbrev X6:PK:=.val false (.sl (.b 7))
abbrev X7:PK:=.val false (.b 9)
abbrev X8:PK:=.val false (.sl (.b 9))
abbrev X9:PK:=.val false (.sl (.b 11))
abbrev Abx:PK:=.val false (.sl (.b 6))
abbrev Aby:PK:=.val false (.b 11)
abbrev Ab6:RK:=⟨true,.b 12,false⟩
abbrev Ab7:RK:=⟨true,.sl (.sl (.b 4)),false⟩
abbrev Abz:PK:=.val false (.sl (.sl (.b 4)))
abbrev Aic:PK:=.box .ow (.b 16)
abbrev Aid:PK:=.box .ow (.b 15)
abbrev Asl:RK:=⟨true,.sl (.b 11),false⟩
abbrev Ar0:PK:=.val false (.b 6)
abbrev Asm:RK:=⟨true,.b 6,false⟩
abbrev Ar1:PK:=.box .rd (.b 17)
abbrev Ar2:PK:=.box .rd (.b 18)
abbrev Asn:RK:=⟨false,.b 4,false⟩
abbrev Ax (n:Nat):VK:=.slot n (.sc 0)
abbrev T9 (n m:Nat):VK:=.slot n (.sc m)
abbrev C1 (n m:Nat):VK:=.slot n (.row (.b m))
abbrev Dy (n m:Nat):VK:=.inp n (.b m)
abbrev B5 (k a b:Nat) (l:List VK):Hint:=⟨k,some (a,b),true,l⟩
abbrev Da (k a b:Nat) (l:List VK):Hint:=⟨k,some (a,b),false,l⟩
abbrev D9 (k:Nat) (l:List VK):Hint:=⟨k,none,true,l⟩
abbrev Ca (k:Nat) (l:List VK):Hint:=⟨k,none,false,l⟩
abbrev amb:List Rd:=[rTab,rMax,rErr]
def Any:E amb:=⟨⟨166,[.val true (.sl (.b 11)),Ap,.lit (.b 11)],[Asl],H4 Mp⟩,Apl λw X S L s i a vs h j c d e f g=>Bqa w X S (C3 (.b 11)) L s i a vs h j c d e f g⟩
def Bik:E amb:=⟨⟨288,[.val true (.sl (.b 7)),Ap,.lit (.b 7)],[⟨true,.sl (.b 7),false⟩],H4 Mp⟩,Apl λw X S L s i a vs h j c d e f g=>Bp9 w X S (C3 (.b 7)) L s i a vs h j c d e f g⟩
def Bil:E amb:=⟨⟨330,[.val true (.sl (.b 6)),Ap,.lit (.b 6)],[⟨true,.sl (.b 6),false⟩],H4 Mp⟩,Apl λw X S L s i a vs h j c d e f g=>Bqb w X S (C3 (.b 6)) L s i a vs h j c d e f g⟩
def Az0:E amb:=⟨⟨81,[Cp,Cp],[U4],Ak Vw⟩,Boe (by simp)⟩
def Bij:E amb:=⟨⟨96,[.val true (.sl (.b 11)),Ap,Ap],[Asl],H4 Y4⟩,Bob⟩
def Azz:E amb:=⟨⟨150,[Cp,Cp,Cp],[F3],H4 Vv⟩,Bof λw X S s p q b c a _ hx=>Bh6 w X S s p q b (c rMax (by simp)) a hx⟩
def Bim:E amb:=⟨⟨219,[Ap],[F3],Am Ac1⟩,Boc λw X S n b c a _ hx=>Bh4 w X S n b (c rTab (by simp)) a hx⟩
def Azy:E amb:=⟨⟨269,[K1,Cp],[F3],Ak Vu⟩,Bod λw X S l s p b _ h a _ hx=>Bh5 w X S l s p b h a hx⟩
def Jm (a:List Int) (b:Int):Option Int:=Vm a b some
def W6:E amb:=en 20 [D4,Ap] [A0] (Ak Jm) Tryz.func20
def Awd (a:DPart) (c:Int):Option Int:=
 B5h (Jm a.signs c) λb=>bif decide (b<0)then(some (-1))else(some b)
def Bkv:E amb:=en 244 [N4,Ap] [A0] (Ak Awd) Tryz.func244 [W6]
def Ze (a:List DPart) (b:Int):Option Int:=Sm Awd a b
def A0m:E amb:=en 184 [B8,Ap] [A0] (Ak Ze) Tryz.func184 [Bkv] [D9 0 [Ax 1,Ax 5]]
def Awc (a:DEntry) (c:Int):Option Int:=
 B5h (Ze a.o c) λb=>bif decide (b<0)then(some (-1))else(some b)
def Bkt:E amb:=en 243 [Jz,Ap] [A0] (Ak Awc) Tryz.func243 [A0m]
def S2 (a:List DEntry) (b:Int):Option Int:=Sm Awc a b
def Aob:E amb:=en 181 [N5,Ap] [A0] (Ak S2) Tryz.func181 [Bkt] [D9 0 [Ax 1,Ax 5]]
def Alw (a:List DSeen) (b:Int):Option Int:=Vm a b some
def Bkz:E amb:=en 182 [Abx,Ap] [A0] (Ak Alw) Tryz.func182
def Awb (a:DDoc) (b:Int):Option Int:=
 xg (Ae (b-(a.name.size:Int)))<|bif decide ((b-(a.name.size:Int))<0)then(some (-1))else(B5h (Jm a.text (b-(a.name.size:Int))) λc=>bif decide (c<0)then(some (-1))else(B5h (S2 a.list c) λd=>bif decide (d<0)then(some (-1))else(B5h (Alw a.seen d) λe=>bif decide (e<0)then(some (-1))else(some e))))
def Bkr:E amb:=en 114 [Ep,Ap] [A0] (Ak Awb) Tryz.func114 [Aob,W6,Bkz]
def Als (a:List DDoc) (b:Int):Option Int:=Sm Awb a b
def Bks:E amb:=en 54 [X6,Ap] [A0] (Ak Als) Tryz.func54 [Bkr] [D9 0 [Ax 1,Ax 5]]
def Alv (a:DRing) (c:Int):Option Int:=
 B5h (S2 a.list c) λb=>bif decide (b<0)then(some (-1))else(some b)
def Bky:E amb:=en 183 [Jb,Ap] [A0] (Ak Alv) Tryz.func183 [Aob]
def Awg (a:DSub) (b:Int):Option Int:=
 xg (Ae (b-(a.doc.size:Int)))<|bif decide ((b-(a.doc.size:Int))<0)then(some (-1))else(B5h (Alv a.r (b-(a.doc.size:Int))) λc=>bif decide (c<0)then(some (-1))else(some c))
def Bk0:E amb:=en 115 [X7,Ap] [A0] (Ak Awg) Tryz.func115 [Bky]
def Aly (a:List DSub) (b:Int):Option Int:=Sm Awg a b
def Bk1:E amb:=en 55 [X8,Ap] [A0] (Ak Aly) Tryz.func55 [Bk0] [D9 0 [Ax 1,Ax 5]]
def Alt (a:DHub) (d:Int):Option Int:=
 B5h (Als a.docs d) λc=>bif decide (c<0)then(some (-1))else(B5h (Aly a.subs c) λb=>bif decide (b<0)then(some (-1))else(some b))
def Bku:E amb:=en 19 [D5,Ap] [A0] (Ak Alt) Tryz.func19 [Bks,Bk1]
def Awe (a:DQueue) (b:Int):Option Int:=
 xg (Ae (b-(a.doc.size:Int)))<|bif decide ((b-(a.doc.size:Int))<0)then(some (-1))else(B5h (Jm a.list (b-(a.doc.size:Int))) λc=>bif decide (c<0)then(some (-1))else(some c))
def Bkw:E amb:=en 56 [Aby,Ap] [A0] (Ak Awe) Tryz.func56 [W6]
def Alu (a:List DQueue) (b:Int):Option Int:=Sm Awe a b
def Bkx:E amb:=en 21 [X9,Ap] [A0] (Ak Alu) Tryz.func21 [Bkw] [D9 0 [Ax 1,Ax 5]]
def Alr (a:DCall) (b:Int):Option Int:=
 xg (Ae (b-(a.doc.size:Int)))<|bif decide ((b-(a.doc.size:Int))<0)then(some (-1))else(B5h (Ze a.o (b-(a.doc.size:Int))) λc=>bif decide (c<0)then(some (-1))else(B5h (Jm a.text c) λd=>bif decide (d<0)then(some (-1))else(some d)))
def Bkq:E amb:=en 116 [Gk,Ap] [A0] (Ak Alr) Tryz.func116 [W6,A0m]
def Alq (a:DAnswer) (d:Int):Option Int:=
 B5h (Jm a.text d) λc=>bif decide (c<0)then(some (-1))else(B5h (S2 a.list c) λb=>bif decide (b<0)then(some (-1))else(some b))
def Bkp:E amb:=en 117 [N6,Ap] [A0] (Ak Alq) Tryz.func117 [Aob,W6]
def Awh (a:DTask) (e:Int):Option Int:=
 B5h (Alr a.c e) λd=>bif decide (d<0)then(some (-1))else(B5h (Alq a.a d) λb=>bif decide (b<0)then(some (-1))else(some b))
def Bk2:E amb:=en 57 [Uv,Ap] [A0] (Ak Awh) Tryz.func57 [Bkp,Bkq]
def Alz (a:List DTask) (b:Int):Option Int:=Sm Awh a b
def Bk3:E amb:=en 22 [Uw,Ap] [A0] (Ak Alz) Tryz.func22 [Bk2] [D9 0 [Ax 1,Ax 5]]
def Al0 (a:DWorld) (f:Int):Option Int:=
 B5h (Alt a.h f) λe=>bif decide (e<0)then(some (-1))else(B5h (Jm a.locks e) λb=>bif decide (b<0)then(some (-1))else(B5h (Alu a.queues b) λc=>bif decide (c<0)then(some (-1))else(B5h (Alz a.tasks c) λd=>bif decide (d<0)then(some (-1))else(some d))))
def Nf:E amb:=en 5 [Eh,Ap] [A0] (Ak Al0) Tryz.func5 [Bku,W6,Bkx,Bk3]
def Awf (a:List ByteArray) (c:Int) (b:Int):Option (Lr (Int×Int) (Sum Int Int)):=
 bif decide (b<(a.length:Int))then(xg (0<=b/\b<(a.length:Int))<|xg (Ae (c-((el a b.toNat).size:Int)))<|bif decide ((c-((el a b.toNat).size:Int))<0)then(some (Lr.out (B6e (-1))))else(xg (Ae (b+1))<|some (Lr.go (c-((el a b.toNat).size:Int),b+1))))else(some (Lr.out (B7k c)))
def Alx (a:List ByteArray) (b:Int×Int):Option (Lr (Int×Int) (Sum Int Int)):=Awf a b.1 b.2
def Zf (a:List ByteArray) (b:Int):Option Int:=
 xg (Ae (b-(a.length:Int)))<|bif decide ((b-(a.length:Int))<0)then(some (-1))else(B5h (Bc (Alx a) (b-(a.length:Int),0)) λd=>B59 (λe=>some e) (λc=>some c) d)
def Bdt (a:List ByteArray) (c:Int) (b:Int):Option (Lr (Int×Int) (Sum (Int×Int) Int)):=
 bif decide (b<(a.length:Int))then(xg (0<=b/\b<(a.length:Int))<|xg (Ae (c-((el a b.toNat).size:Int)))<|bif decide ((c-((el a b.toNat).size:Int))<0)then(some (Lr.out (B6e (-1))))else(xg (Ae (b+1))<|some (Lr.go (c-((el a b.toNat).size:Int),b+1))))else(some (Lr.out (B7k (c,b))))
def Bdu (a:List ByteArray) (b:Int×Int):Option (Lr (Int×Int) (Sum (Int×Int) Int)):=Bdt a b.1 b.2
def Bds (a:List ByteArray) (b:Int):Option Int:=
 xg (Ae (b-(a.length:Int)))<|bif decide ((b-(a.length:Int))<0)then(some (-1))else(B5h (Bc (Bdu a) (b-(a.length:Int),0)) λd=>B59 (λc=>some c.1) (λe=>some e) d)
def Aan:E amb:=en 12 [K1,Ap] [A0] (Ak Zf) Tryz.func12 [] [D9 0 [Ax 1,Ax 5]] (hx:=λa=>Eq.trans (b:=Bds a.1 a.2.1) (by kernel_rfl) (show _=Zf a.1 a.2.1 by simp only[Awf,Alx,Zf,Bdt,Bdu,Bds,Rh,Cq,D1,Cj,Cm,Cy,Df,Dg]<;>rfl))
def S3 (a:List Int):Option (List Int):=toF 0 a
def W7:E amb:=en 31 [D4] [Jd] (Am S3) Tryz.func31 [] [Ca 0 [Ax 4,Dy 3 0]]
def Al3 (a:DPart):Option DPart:=
 B5h (S3 a.signs) λb=>some (⟨a.kind,a.n,b⟩:DPart)
def Bla:E amb:=en 264 [N4] [⟨true,.b 4,false⟩] (Am Al3) Tryz.func264 [W7]
def Al4 (a:List DPart):Option (List DPart):=So default Al3 a
def A0n:E amb:=en 208 [B8] [Fz] (Am Al4) Tryz.func208 [Bla] [Ca 0 [Ax 4,Dy 3 4]]
def Al2 (a:DEntry):Option DEntry:=
 B5h (Al4 a.o) λb=>some (⟨a.client,a.seq,b⟩:DEntry)
def Bk8:E amb:=en 262 [Jz] [⟨true,.b 5,false⟩] (Am Al2) Tryz.func262 [A0n]
def Ad1 (a:List DEntry):Option (List DEntry):=So default Al2 a
def Aoc:E amb:=en 205 [N5] [Px] (Am Ad1) Tryz.func205 [Bk8] [Ca 0 [Ax 4,Dy 3 5]]
def Bas (a:DSeen):Option DSeen:=
 some a
def Ble:E amb:=en 263 [Ar0] [Asm] (Am Bas) Tryz.func263
def Awo (a:List DSeen):Option (List DSeen):=So default Bas a
def Blf:E amb:=en 206 [Abx] [⟨true,.sl (.b 6),false⟩] (Am Awo) Tryz.func206 [Ble] [Ca 0 [Ax 4,Dy 3 6]]
def Al1 (a:DDoc):Option DDoc:=
 B5h (S3 a.text) λc=>B5h (Ad1 a.list) λd=>B5h (Awo a.seen) λb=>some (⟨a.name,a.from_,c,d,b⟩:DDoc)
def Bk6:E amb:=en 141 [Ep] [U5] (Am Al1) Tryz.func141 [Aoc,W7,Blf]
def Awk (a:List DDoc):Option (List DDoc):=So default Al1 a
def Bk7:E amb:=en 77 [X6] [⟨true,.sl (.b 7),false⟩] (Am Awk) Tryz.func77 [Bk6] [Ca 0 [Ax 4,Dy 3 7]]
def Awn (a:DRing):Option DRing:=
 B5h (Ad1 a.list) λb=>some (⟨a.cap,a.next,a.out,b⟩:DRing)
def Bld:E amb:=en 207 [Jb] [Mc] (Am Awn) Tryz.func207 [Aoc]
def Al6 (a:DSub):Option DSub:=
 B5h (Awn a.r) λb=>some (⟨a.id,a.doc,b⟩:DSub)
def Blg:E amb:=en 142 [X7] [⟨true,.b 9,false⟩] (Am Al6) Tryz.func142 [Bld]
def Awp (a:List DSub):Option (List DSub):=So default Al6 a
def Blh:E amb:=en 78 [X8] [⟨true,.sl (.b 9),false⟩] (Am Awp) Tryz.func78 [Blg] [Ca 0 [Ax 4,Dy 3 9]]
def Awl (a:DHub):Option DHub:=
 B5h (Awk a.docs) λb=>B5h (Awp a.subs) λc=>some (⟨a.shut,b,c,a.last⟩:DHub)
def Bk9:E amb:=en 30 [D5] [Hk] (Am Awl) Tryz.func30 [Bk7,Blh]
def Al5 (a:DQueue):Option DQueue:=
 B5h (S3 a.list) λb=>some (⟨a.doc,b⟩:DQueue)
def Blb:E amb:=en 79 [Aby] [⟨true,.b 11,false⟩] (Am Al5) Tryz.func79 [W7]
def Awm (a:List DQueue):Option (List DQueue):=So default Al5 a
def Blc:E amb:=en 32 [X9] [Asl] (Am Awm) Tryz.func32 [Blb] [Ca 0 [Ax 4,Dy 3 11]]
def Awj (a:DCall):Option DCall:=
 B5h (Al4 a.o) λb=>B5h (S3 a.text) λc=>some (⟨a.kind,a.doc,a.client,a.seq,a.n,b,c⟩:DCall)
def Bk5:E amb:=en 143 [Gk] [Ab6] (Am Awj) Tryz.func143 [W7,A0n]
def Awi (a:DAnswer):Option DAnswer:=
 B5h (S3 a.text) λb=>B5h (Ad1 a.list) λc=>some (⟨a.code,a.rev,b,c⟩:DAnswer)
def Bk4:E amb:=en 144 [N6] [U6] (Am Awi) Tryz.func144 [Aoc,W7]
def Al7 (a:DTask):Option DTask:=
 B5h (Awj a.c) λd=>B5h (Awi a.a) λb=>some (⟨d,a.pc,a.inv,a.lin,a.res,b⟩:DTask)
def Bli:E amb:=en 80 [Uv] [⟨true,.b 14,false⟩] (Am Al7) Tryz.func80 [Bk4,Bk5]
def Awq (a:List DTask):Option (List DTask):=So default Al7 a
def Blj:E amb:=en 33 [Uw] [⟨true,.sl (.b 14),false⟩] (Am Awq) Tryz.func33 [Bli] [Ca 0 [Ax 4,Dy 3 14]]
def Mu (a:DWorld):Option DWorld:=
 B5h (Awl a.h) λc=>B5h (S3 a.locks) λd=>B5h (Awm a.queues) λe=>B5h (Awq a.tasks) λb=>some (⟨c,d,e,b,a.step⟩:DWorld)
def Ng:E amb:=en 7 [Eh] [J5] (Am Mu) Tryz.func7 [Bk9,W7,Blc,Blj]
def Zg (a:List ByteArray):Option (List ByteArray):=toF B52 a
def Aao:E amb:=en 14 [K1] [U4] (Am Zg) Tryz.func14 [] [Ca 0 [Ax 4,Dy 3 2]]
def Bbj (o:List DPart) (_:Nat) (a:DPart) (b:List DPart):Option (Lr (List DPart) (List DPart)):=
 xg (0+(a.signs).length<=1099511627776)<|xg (b.length+[(⟨a.kind,a.n,[]++(a.signs)⟩:DPart)].length<=1099511627776)<|some (Lr.go (b++[(⟨a.kind,a.n,[]++(a.signs)⟩:DPart)]))
def Bbk (o:List DPart) (a:Nat) (b:List DPart):Option (Lr (List DPart) (List DPart)):=Bbj o a (el o a) b
def Zq (o:List DPart):Option (List DPart):=
 B5h (Ai (Bbk o) (λa=>a) o.length 0 []) λb=>some b
def Aom:E amb:=en 133 [B8] [Fz] (Am Zq) Tryz.func133 [] [Da 0 9 8 [C1 3 4]]
def Aev (e:DEntry):Option DEntry:=
 B5h (Zq e.o) λa=>some (⟨e.client,e.seq,a⟩:DEntry)
def A09:E amb:=en 261 [Jz] [⟨true,.b 5,false⟩] (Am Aev) Tryz.func261 [Aom]
def Bbm (l:List DEntry) (_:Nat) (c:DEntry) (a:List DEntry):Option (Lr (List DEntry) (List DEntry)):=
 B5h (Aev c) λb=>xg (a.length<1099511627776)<|some (Lr.go (a++[b]))
def Bbn (l:List DEntry) (a:Nat) (b:List DEntry):Option (Lr (List DEntry) (List DEntry)):=Bbm l a (el l a) b
def Mw (l:List DEntry):Option (List DEntry):=
 B5h (Ai (Bbn l) (λb=>b) l.length 0 []) λa=>some a
def Aas:E amb:=en 203 [N5] [Px] (Am Mw) Tryz.func203 [A09] [Da 0 9 8 [C1 3 5]]
def Qq (d:DDoc):Option DDoc:=
 xg (0+d.text.length<=1099511627776)<|B5h (Mw d.list) λa=>xg (0+d.seen.length<=1099511627776)<|some (⟨d.name,d.from_,[]++d.text,a,[]++d.seen⟩:DDoc)
def A08:E amb:=en 135 [Ep] [U5] (Am Qq) Tryz.func135 [Aas]
def Ta (a:DRing):Option DRing:=
 B5h (Mw a.list) λb=>some (⟨a.cap,a.next,a.out,b⟩:DRing)
def Aoo:E amb:=en 204 [Jb] [Mc] (Am Ta) Tryz.func204 [Aas]
def Aew (s:DSub):Option DSub:=
 B5h (Ta s.r) λa=>some (⟨s.id,s.doc,a⟩:DSub)
def Bmr:E amb:=en 136 [X7] [⟨true,.b 9,false⟩] (Am Aew) Tryz.func136 [Aoo]
def Amt (_:DHub) (_:Nat) (d:DDoc) (e:Bool) (b:List DDoc) (c:Int):Option (Lr (Bool×List DDoc×Int) (Bool×List DDoc×Int)):=
 B5h (Qq d) λa=>xg (b.length+[a].length<=1099511627776)<|some (Lr.go (e,b++[a],c))
def Zs (h:DHub) (b:Nat) (a:Bool×List DDoc×Int):Option (Lr (Bool×List DDoc×Int) (Bool×List DDoc×Int)):=Amt h b (el h.docs b) a.1 a.2.1 a.2.2
def Amu (_:DHub) (_:Nat) (f:DSub) (c:Bool) (e:List DDoc) (b:List DSub) (d:Int):Option (Lr (Bool×List DDoc×List DSub×Int) (Bool×List DDoc×List DSub×Int)):=
 B5h (Aew f) λa=>xg (b.length+[a].length<=1099511627776)<|some (Lr.go (c,e,b++[a],d))
def Zt (h:DHub) (b:Nat) (a:Bool×List DDoc×List DSub×Int):Option (Lr (Bool×List DDoc×List DSub×Int) (Bool×List DDoc×List DSub×Int)):=Amu h b (el h.subs b) a.1 a.2.1 a.2.2.1 a.2.2.2
def El (h:DHub):Option DHub:=
 B5h (Ai (Zs h) (λc=>(c.1,c.2.1,c.2.2)) h.docs.length 0 (h.shut,[],h.last)) λd=>B5h (Ai (Zt h) (λb=>(b.1,b.2.1,b.2.2.1,b.2.2.2)) h.subs.length 0 (d.1,d.2.1,[],d.2.2)) λa=>some (⟨a.1,a.2.1,a.2.2.1,a.2.2.2⟩:DHub)
def Bft (_:DHub) (_:Nat) (c:DDoc) (d:Bool) (a:List DDoc) (e:Int):Option (Lr (Bool×List DDoc×Int) (Bool×List DDoc×Int)):=
 B5h (Qq c) λb=>xg (a.length+[b].length<=1099511627776)<|some (Lr.go (d,a++[b],e))
def Bfv (h:DHub) (b:Nat) (a:Bool×List DDoc×Int):Option (Lr (Bool×List DDoc×Int) (Bool×List DDoc×Int)):=Bft h b (el h.docs b) a.1 a.2.1 a.2.2
def Bfu (_:DHub) (_:Nat) (d:DSub) (c:Bool) (e:List DDoc) (b:List DSub) (f:Int):Option (Lr (Bool×List DDoc×List DSub×Int) (Bool×List DDoc×List DSub×Int)):=
 B5h (Aew d) λa=>xg (b.length+[a].length<=1099511627776)<|some (Lr.go (c,e,b++[a],f))
def Bfw (h:DHub) (b:Nat) (a:Bool×List DDoc×List DSub×Int):Option (Lr (Bool×List DDoc×List DSub×Int) (Bool×List DDoc×List DSub×Int)):=Bfu h b (el h.subs b) a.1 a.2.1 a.2.2.1 a.2.2.2
def Bfs (h:DHub):Option DHub:=
 B5h (Ai (Bfv h) (λc=>(c.1,c.2.1,c.2.2)) h.docs.length 0 (h.shut,[],h.last)) λd=>B5h (Ai (Bfw h) (λa=>(a.1,a.2.1,a.2.2.1,a.2.2.2)) h.subs.length 0 (d.1,d.2.1,[],d.2.2)) λb=>some (⟨b.1,b.2.1,b.2.2.1,b.2.2.2⟩:DHub)
def Q7:E amb:=en 72 [D5] [Hk] (Am El) Tryz.func72 [A08,Bmr] [Da 0 16 15 [.box 3 0 [.sc 1,.row (.b 7),.nl,.sc 0]],Da 2 31 30 [.box 3 0 [.sc 1,.row (.b 7),.row (.b 9),.sc 0]]] (hx:=λa=>Eq.trans (b:=Bfs a.1) (by kernel_rfl) (show _=El a.1 by simp only[Amt,Zs,Amu,Zt,El,Bft,Bfv,Bfu,Bfw,Bfs,C2,D1,D8,Cj,Cm]<;>rfl))
def Aex (c:DCall):Option DCall:=
 B5h (Zq c.o) λa=>xg (0+c.text.length<=1099511627776)<|some (⟨c.kind,c.doc,c.client,c.seq,c.n,a,[]++c.text⟩:DCall)
def A1a:E amb:=en 68 [Gk] [Ab6] (Am Aex) Tryz.func68 [Aom]
def Amv (a:DAnswer):Option DAnswer:=
 xg (0+a.text.length<=1099511627776)<|B5h (Mw a.list) λb=>some (⟨a.code,a.rev,[]++a.text,b⟩:DAnswer)
def Bms:E amb:=en 137 [N6] [U6] (Am Amv) Tryz.func137 [Aas]
def Amz (t:DTask):Option DTask:=
 B5h (Aex t.c) λd=>B5h (Amv t.a) λb=>some (⟨d,t.pc,t.inv,t.lin,t.res,b⟩:DTask)
def Bmx:E amb:=en 73 [Uv] [⟨true,.b 14,false⟩] (Am Amz) Tryz.func73 [Bms,A1a]
def Bbo (_:DWorld) (_:Nat) (a:DQueue) (d:Bool) (h:List DDoc) (c:List DSub) (f:Int) (g:List Int) (b:List DQueue) (e:Int):Option (Lr (Bool×List DDoc×List DSub×Int×List Int×List DQueue×Int) (Bool×List DDoc×List DSub×Int×List Int×List DQueue×Int)):=
 xg (0+(a.list).length<=1099511627776)<|xg (b.length+[(⟨a.doc,[]++(a.list)⟩:DQueue)].length<=1099511627776)<|some (Lr.go (d,h,c,f,g,b++[(⟨a.doc,[]++(a.list)⟩:DQueue)],e))
def Ax2 (b:DWorld) (c:Nat) (a:Bool×List DDoc×List DSub×Int×List Int×List DQueue×Int):Option (Lr (Bool×List DDoc×List DSub×Int×List Int×List DQueue×Int) (Bool×List DDoc×List DSub×Int×List Int×List DQueue×Int)):=Bbo b c (el b.queues c) a.1 a.2.1 a.2.2.1 a.2.2.2.1 a.2.2.2.2.1 a.2.2.2.2.2.1 a.2.2.2.2.2.2
def Bbp (_:DWorld) (_:Nat) (i:DTask) (g:Bool) (h:List DDoc) (d:List DSub) (j:Int) (e:List Int) (f:List DQueue) (a:List DTask) (c:Int):Option (Lr (Bool×List DDoc×List DSub×Int×List Int×List DQueue×List DTask×Int) (Bool×List DDoc×List DSub×Int×List Int×List DQueue×List DTask×Int)):=
 B5h (Amz i) λb=>xg (a.length+[b].length<=549755813888)<|some (Lr.go (g,h,d,j,e,f,a++[b],c))
def Ax3 (c:DWorld) (b:Nat) (a:Bool×List DDoc×List DSub×Int×List Int×List DQueue×List DTask×Int):Option (Lr (Bool×List DDoc×List DSub×Int×List Int×List DQueue×List DTask×Int) (Bool×List DDoc×List DSub×Int×List Int×List DQueue×List DTask×Int)):=Bbp c b (el c.tasks b) a.1 a.2.1 a.2.2.1 a.2.2.2.1 a.2.2.2.2.1 a.2.2.2.2.2.1 a.2.2.2.2.2.2.1 a.2.2.2.2.2.2.2
def Kg (a:DWorld):Option DWorld:=
 B5h (El a.h) λf=>xg (0+a.locks.length<=1099511627776)<|B5h (Ai (Ax2 a) (λd=>(d.1,d.2.1,d.2.2.1,d.2.2.2.1,d.2.2.2.2.1,d.2.2.2.2.2.1,d.2.2.2.2.2.2)) a.queues.length 0 (f.shut,f.docs,f.subs,f.last,[]++a.locks,[],a.step)) λe=>B5h (Ai (Ax3 a) (λc=>(c.1,c.2.1,c.2.2.1,c.2.2.2.1,c.2.2.2.2.1,c.2.2.2.2.2.1,c.2.2.2.2.2.2.1,c.2.2.2.2.2.2.2)) a.tasks.length 0 (e.1,e.2.1,e.2.2.1,e.2.2.2.1,e.2.2.2.2.1,e.2.2.2.2.2.1,[],e.2.2.2.2.2.2)) λb=>some (⟨(⟨b.1,b.2.1,b.2.2.1,b.2.2.2.1⟩:DHub),b.2.2.2.2.1,b.2.2.2.2.2.1,b.2.2.2.2.2.2.1,b.2.2.2.2.2.2.2⟩:DWorld)
def Aat:E amb:=en 28 [Eh] [J5] (Am Kg) Tryz.func28 [Q7,Bmx] [Da 0 21 20 [.box 3 0 [.sc 1,.row (.b 7),.row (.b 9),.sc 0,.row (.b 0),.row (.b 11),.nl,.sc 0]],Da 2 41 40 [.box 3 0 [.sc 1,.row (.b 7),.row (.b 9),.sc 0,.row (.b 0),.row (.b 11),.row (.b 14),.sc 0]]]
def Bbi (s:ByteArray) (d:UInt8) (c:List ByteArray) (b:Int) (a:Int):Option (Lr (List ByteArray×Int×Int) (List ByteArray×Int×Int)):=
 bif decide (a<=(s.size:Int))then(B5h (bif decide (a=(s.size:Int))then(some true)else(xg (0<=a/\a<(s.size:Int))<|some (decide (((Bz s a.toNat).toNat:Int)=(d.toNat:Int))))) λe=>bif e then(xg (0<=b/\b<=a/\a<=(s.size:Int))<|xg (c.length<1099511627776)<|xg (Ae (a+1))<|xg (Ae (a+1))<|some (Lr.go (c++[s.extract b.toNat a.toNat],a+1,a+1)))else(xg (Ae (a+1))<|some (Lr.go (c,b,a+1))))else(some (Lr.out (c,b,a)))
def Axw (s:ByteArray) (b:UInt8) (a:List ByteArray×Int×Int):Option (Lr (List ByteArray×Int×Int) (List ByteArray×Int×Int)):=Bbi s b a.1 a.2.1 a.2.2
def Aeo (s:ByteArray) (a:UInt8):Option (List ByteArray):=
 B5h (Bc (Axw s a) ([],0,0)) λb=>some b.1
def A00:E amb:=en 58 [Cp,.val false (.b 3)] [U4] (Ak Aeo) Tryz.func58 [] [Ca 0 [C1 5 2,Ax 6,Ax 7]]
def Zi (s:ByteArray):Option (List ByteArray):=
 B5h (Aeo s 32) λa=>some a
def Aod:E amb:=en 23 [Cp] [U4] (Am Zi) Tryz.func23 [A00]
def Lo (a:List ByteArray):Option (ByteArray×List ByteArray):=
 bif decide ((a.length:Int)=0)then(some ((⟨#[]⟩:ByteArray),a))else(xg (0<=(0:Int)/\(0:Int)<(a.length:Int))<|xg (0<=(1:Int)/\(1:Int)<=(a.length:Int))<|some (el a 0,(a.take a.length).drop 1))
def Bm2:E amb:=en 59 [K1] [F3,⟨false,.sl (.b 2),false⟩] (Am Lo) Tryz.func59
def Bt (n:Int) (a:Int) (c:Int):Option Bool:=
 B5h (bif decide (a<=n)then(some (decide (n<=c)))else(some false)) λb=>some b
def Ga:E amb:=en 74 [Ap,Ap,Ap] [Aq] (H4 Bt) Tryz.func74
def Aey (k:Int):Option Bool:=
 B5h (Bt k 1 8) λa=>some a
def A1b:E amb:=en 118 [Ap] [Aq] (Am Aey) Tryz.func118 [Ga]
def Ad7 (k:Int):Option ByteArray:=
 B5h (Aey k) λa=>bif !a then(some (⟨#[]⟩:ByteArray))else(xg (0<=k/\k<([(⟨#[]⟩:ByteArray),(⟨#[111,112,101,110]⟩:ByteArray),(⟨#[115,117,98,109,105,116]⟩:ByteArray),(⟨#[102,101,116,99,104]⟩:ByteArray),(⟨#[115,110,97,112]⟩:ByteArray),(⟨#[115,117,98]⟩:ByteArray),(⟨#[112,111,108,108]⟩:ByteArray),(⟨#[114,101,115,121,110,99]⟩:ByteArray),(⟨#[115,104,117,116]⟩:ByteArray)].length:Int))<|some (el [(⟨#[]⟩:ByteArray),(⟨#[111,112,101,110]⟩:ByteArray),(⟨#[115,117,98,109,105,116]⟩:ByteArray),(⟨#[102,101,116,99,104]⟩:ByteArray),(⟨#[115,110,97,112]⟩:ByteArray),(⟨#[115,117,98]⟩:ByteArray),(⟨#[112,111,108,108]⟩:ByteArray),(⟨#[114,101,115,121,110,99]⟩:ByteArray),(⟨#[115,104,117,116]⟩:ByteArray)] k.toNat))
def A0p:E amb:=en 60 [Ap] [F3] (Am Ad7) Tryz.func60 [A1b]
def Zv (k:Int):Option (Bool×Bool×Bool):=
 B5h (bif decide (k=2)then(some true)else(some (decide (k=6)))) λd=>B5h (bif d then(some true)else(some (decide (k=7)))) λc=>B5h (bif decide (k=2)then(some true)else(some (decide (k=3)))) λb=>B5h (bif b then(some true)else(some (decide (k=5)))) λa=>B5h (bif a then(some true)else(some (decide (k=6)))) λe=>some (c,decide (k=2),e)
def A1d:E amb:=en 61 [Ap] [Aq,Aq,Aq] (Am Zv) Tryz.func61
def Qk (k:Int):Option Bool:=
 B5h (Bt k 1 5) λa=>some a
def Aap:E amb:=en 62 [Ap] [Aq] (Am Qk) Tryz.func62 [Ga]
def Ba5 (a:Int) (b:ByteArray):Option (Lr (Int×ByteArray) (Int×ByteArray)):=
 bif decide ((9:Int)<a)then(xg (0<=a/\0<(10:Int))<|xg (Ae (48+(a % 10)))<|xg ((⟨[y8 (48+(a % 10))].toArray⟩:ByteArray).size+b.size<=9223372036854775807)<|xg (0<=a/\a<=9223372036854775807/\0<(10:Int))<|some (Lr.go (a/10,(⟨[y8 (48+(a % 10))].toArray⟩:ByteArray)++b)))else(some (Lr.out (a,b)))
def Axe (a:Int×ByteArray):Option (Lr (Int×ByteArray) (Int×ByteArray)):=Ba5 a.1 a.2
def Kf (n:Int):Option ByteArray:=
 B5h (Bt n 0 1000000000) λb=>bif !b then(some (⟨#[]⟩:ByteArray))else(B5h (Bc (Axe) (n,(⟨#[]⟩:ByteArray))) λa=>xg (Ae (48+a.1))<|xg ((⟨[y8 (48+a.1)].toArray⟩:ByteArray).size+a.2.size<=9223372036854775807)<|some ((⟨[y8 (48+a.1)].toArray⟩:ByteArray)++a.2))
def Af5:E amb:=en 71 [Ap] [F3] (Am Kf) Tryz.func71 [Ga] [Ca 0 [Ax 0,T9 3 2]]
def Bbe (s:ByteArray) (b:Int) (a:Int):Option (Lr (Int×Int) (Sum (Int×Int) (Int×Bool))):=
 bif decide (a<(s.size:Int))then(xg (0<=a/\a<(s.size:Int))<|xg (Ae (((Bz s a.toNat).toNat:Int)-48))<|B5h (bif decide ((((Bz s a.toNat).toNat:Int)-48)<0)then(some true)else(some (decide ((9:Int)<(((Bz s a.toNat).toNat:Int)-48))))) λc=>bif c then(some (Lr.out (B6e (0,false))))else(xg (Ae (b*10))<|xg (Ae ((b*10)+(((Bz s a.toNat).toNat:Int)-48)))<|xg (Ae (a+1))<|some (Lr.go ((b*10)+(((Bz s a.toNat).toNat:Int)-48),a+1))))else(some (Lr.out (B7k (b,a))))
def Axs (s:ByteArray) (a:Int×Int):Option (Lr (Int×Int) (Sum (Int×Int) (Int×Bool))):=Bbe s a.1 a.2
def Oy (s:ByteArray):Option (Int×Bool):=
 B5h (bif decide ((s.size:Int)=0)then(some true)else(some (decide ((10:Int)<(s.size:Int))))) λd=>bif d then(some (0,false))else(B5h (Bc (Axs s) (0,0)) λc=>B59 (λa=>B5h (Kf a.1) λe=>bif !decide (e=s)then(some (0,false))else(some (a.1,true))) (λb=>some b) c)
def Af7:E amb:=en 27 [Cp] [A0,Aq] (Am Oy) Tryz.func27 [Af5] [D9 0 [Ax 4,Ax 5]]
def Zn (n:Int):Option Bool:=
 B5h (Bt n 0 1114111) λb=>B5h (bif b then(B5h (Bt n 55296 57343) λc=>some (!c))else(some false)) λa=>some a
def A0w:E amb:=en 120 [Ap] [Aq] (Am Zn) Tryz.func120 [Ga]
def Axl (l:List Int) (_:Nat) (a:Int):Option (Lr Unit (Sum Unit Unit)):=
 B5h (Zn a) λb=>bif !b then(some (Lr.out (B6e (()))))else(some (Lr.go ()))
def Axm (l:List Int) (a:Nat) (_:Unit):Option (Lr Unit (Sum Unit Unit)):=Axl l a (el l a)
def Ql (l:List Int):Option Bool:=
 B5h (Ai (Axm l) (λ_=>(.inl ())) l.length 0 ()) λa=>B59 (λ_=>some true) (λ_=>some false) a
def Bfb (l:List Int) (_:Nat) (a:Int):Option (Lr Unit (Sum Unit Bool)):=
 B5h (Zn a) λb=>bif !b then(some (Lr.out (B6e false)))else(some (Lr.go ()))
def Bfc (l:List Int) (a:Nat) (_:Unit):Option (Lr Unit (Sum Unit Bool)):=Bfb l a (el l a)
def Bfa (l:List Int):Option Bool:=
 B5h (Ai (Bfc l) (λ_=>(.inl ())) l.length 0 ()) λa=>B59 (λ_=>some true) (λb=>some b) a
def Aoi:E amb:=en 187 [D4] [Aq] (Am Ql) Tryz.func187 [A0w] [B5 0 7 6 []] (hx:=λa=>Eq.trans (b:=Bfa a.1) (by kernel_rfl) (show _=Ql a.1 by simp only[Axl,Axm,Ql,Bfb,Bfc,Bfa,C2,Cq,D8,Cj,Cm,Cy,Df,Dg]<;>rfl))
def Bbb (l:List Int) (e:Nat) (d:Int) (a:ByteArray):Option (Lr ByteArray ByteArray):=
 bif decide ((0:Int)<(e:Int))then(xg (a.size+(⟨#[46]⟩:ByteArray).size<=9223372036854775807)<|B5h (Kf d) λc=>xg ((a++(⟨#[46]⟩:ByteArray)).size+c.size<=9223372036854775807)<|some (Lr.go ((a++(⟨#[46]⟩:ByteArray))++c)))else(B5h (Kf d) λb=>xg (a.size+b.size<=9223372036854775807)<|some (Lr.go (a++b)))
def Bbc (l:List Int) (a:Nat) (b:ByteArray):Option (Lr ByteArray ByteArray):=Bbb l a (el l a) b
def Wg (l:List Int):Option ByteArray:=
 B5h (Ql l) λb=>bif !b then(some (⟨#[]⟩:ByteArray))else(bif decide ((l.length:Int)=0)then(some (⟨#[45]⟩:ByteArray))else(B5h (Ai (Bbc l) (λa=>a) l.length 0 (⟨#[]⟩:ByteArray)) λc=>some c))
def Aoh:E amb:=en 121 [D4] [F3] (Am Wg) Tryz.func121 [Af5,Aoi] [Da 0 14 13 [T9 3 2]]
def Bbh (_:List ByteArray) (_:Nat) (e:ByteArray) (b:List Int):Option (Lr (List Int) (Sum (List Int) (List Int×Bool))):=
 B5h (Oy e) λa=>B5h (bif !a.2 then(some true)else(B5h (Zn a.1) λd=>some (!d))) λc=>bif c then(some (Lr.out (B6e ([],false))))else(xg (b.length<1099511627776)<|some (Lr.go (b++[a.1])))
def Axt (b:List ByteArray) (a:Nat) (c:List Int):Option (Lr (List Int) (Sum (List Int) (List Int×Bool))):=Bbh b a (el b a) c
def Zp (s:ByteArray):Option (List Int×Bool):=
 bif decide (s=(⟨#[45]⟩:ByteArray))then(some ([],true))else(B5h (Aeo s 46) λa=>B5h (Ai (Axt a) (λd=>(.inl d)) a.length 0 []) λc=>B59 (λb=>B5h (Wg b) λe=>bif !decide (e=s)then(some ([],false))else(some (b,true))) (λf=>some f) c)
def A0z:E amb:=en 64 [Cp] [Jd,Aq] (Am Zp) Tryz.func64 [A0w,Aoh,Af7,A00] [B5 0 16 15 [C1 4 0]]
def Aeh (p:DPart):Option Bool:=
 bif decide (p.kind=1)then(bif decide (p.kind=1)then(B5h (Bt p.n 0 200) λj=>B5h (bif j then(some (decide ((p.signs.length:Int)=0)))else(some false)) λh=>some h)else(bif decide (p.kind=2)then(B5h (bif decide (p.n=0)then(B5h (Ql p.signs) λc=>some c)else(some false)) λa=>B5h (bif a then(some (decide ((p.signs.length:Int)<=200)))else(some false)) λi=>some i)else(some false)))else(bif decide (p.kind=3)then(B5h (Bt p.n 0 200) λd=>B5h (bif d then(some (decide ((p.signs.length:Int)=0)))else(some false)) λf=>some f)else(bif decide (p.kind=2)then(B5h (bif decide (p.n=0)then(B5h (Ql p.signs) λe=>some e)else(some false)) λg=>B5h (bif g then(some (decide ((p.signs.length:Int)<=200)))else(some false)) λb=>some b)else(some false)))
def Bl7:E amb:=en 195 [N4] [Aq] (Am Aeh) Tryz.func195 [Aoi,Ga]
def Axx (o:List DPart) (_:Nat) (a:DPart):Option (Lr Unit (Sum Unit Unit)):=
 B5h (Aeh a) λb=>bif !b then(some (Lr.out (B6e (()))))else(some (Lr.go ()))
def Axy (o:List DPart) (a:Nat) (_:Unit):Option (Lr Unit (Sum Unit Unit)):=Axx o a (el o a)
def S9 (o:List DPart):Option Bool:=
 B5h (Ai (Axy o) (λ_=>(.inl ())) o.length 0 ()) λa=>B59 (λ_=>some (decide ((o.length:Int)<=600))) (λ_=>some false) a
def Bfn (o:List DPart) (_:Nat) (b:DPart):Option (Lr Unit (Sum Unit Bool)):=
 B5h (Aeh b) λa=>bif !a then(some (Lr.out (B6e false)))else(some (Lr.go ()))
def Bfo (o:List DPart) (a:Nat) (_:Unit):Option (Lr Unit (Sum Unit Bool)):=Bfn o a (el o a)
def Bfm (o:List DPart):Option Bool:=
 B5h (Ai (Bfo o) (λ_=>(.inl ())) o.length 0 ()) λa=>B59 (λ_=>some (decide ((o.length:Int)<=600))) (λb=>some b) a
def Aon:E amb:=en 131 [B8] [Aq] (Am S9) Tryz.func131 [Bl7] [B5 0 7 6 []] (hx:=λa=>Eq.trans (b:=Bfm a.1) (by kernel_rfl) (show _=S9 a.1 by simp only[Axx,Axy,S9,Bfn,Bfo,Bfm,C2,Cq,D8,Cj,Cm,Cy,Df,Dg]<;>rfl))
def Bbl (o:List DPart) (_:Nat) (a:DPart) (d:Int) (c:Int) (b:Int):Option (Lr (Int×Int×Int) (Int×Int×Int)):=
 bif decide ((a.kind)=1)then(xg (Ae (d+(a.n)))<|some (Lr.go (d+(a.n),c,b)))else(bif decide ((a.kind)=2)then(xg (Ae (c+((a.signs).length:Int)))<|some (Lr.go (d,c+((a.signs).length:Int),b)))else(xg (Ae (b+(a.n)))<|some (Lr.go (d,c,b+(a.n)))))
def Axz (o:List DPart) (b:Nat) (a:Int×Int×Int):Option (Lr (Int×Int×Int) (Int×Int×Int)):=Bbl o b (el o b) a.1 a.2.1 a.2.2
def Aeq (o:List DPart):Option (Int×Int×Int):=
 B5h (S9 o) λc=>bif !c then(some (0,0,0))else(B5h (Ai (Axz o) (λb=>(b.1,b.2.1,b.2.2)) o.length 0 (0,0,0)) λa=>some (a.1,a.2.1,a.2.2))
def A06:E amb:=en 247 [B8] [A0,A0,A0] (Am Aeq) Tryz.func247 [Aon] [Da 0 15 14 [Ax 5,Ax 6,Ax 7]]
def Ox (o:List DPart):Option Int:=
 B5h (Aeq o) λa=>xg (Ae (a.1+a.2.2))<|some (a.1+a.2.2)
def Af6:E amb:=en 188 [B8] [A0] (Am Ox) Tryz.func188 [A06]
def Amg (o:List DPart):Option Int:=
 B5h (Aeq o) λa=>xg (Ae (a.1+a.2.1))<|some (a.1+a.2.1)
def Bl5:E amb:=en 189 [B8] [A0] (Am Amg) Tryz.func189 [A06]
def Gh (o:List DPart):Option Bool:=
 B5h (S9 o) λd=>B5h (bif d then(B5h (Ox o) λb=>some (decide (b<=200)))else(some false)) λc=>B5h (bif c then(B5h (Amg o) λa=>some (decide (a<=200)))else(some false)) λe=>some e
def Pf:E amb:=en 122 [B8] [Aq] (Am Gh) Tryz.func122 [Af6,Bl5,Aon]
def Aep (b:DL02B):Option DL02B:=
 bif decide ((0:Int)<(b.put.length:Int))then(xg (b.list.length+[(⟨2,0,b.put⟩:DPart)].length<=1099511627776)<|bif decide ((0:Int)<b.drop)then(xg ((b.list++[(⟨2,0,b.put⟩:DPart)]).length+[(⟨3,b.drop,[]⟩:DPart)].length<=1099511627776)<|some (⟨(b.list++[(⟨2,0,b.put⟩:DPart)])++[(⟨3,b.drop,[]⟩:DPart)],[],0⟩:DL02B))else(some (⟨b.list++[(⟨2,0,b.put⟩:DPart)],[],0⟩:DL02B)))else(bif decide ((0:Int)<b.drop)then(xg (b.list.length+[(⟨3,b.drop,[]⟩:DPart)].length<=1099511627776)<|some (⟨b.list++[(⟨3,b.drop,[]⟩:DPart)],[],0⟩:DL02B))else(some (⟨b.list,[],0⟩:DL02B)))
def A03:E amb:=en 336 [Aic] [] (Am Aep) Tryz.func336
def H7 (b:DL02B) (n:Int):Option DL02B:=
 bif decide (n=0)then(some b)else(B5h (Aep b) λa=>B5h (bif decide ((0:Int)<(a.list.length:Int))then(xg (Ae ((a.list.length:Int)-1))<|xg (0<=((a.list.length:Int)-1)/\((a.list.length:Int)-1)<(a.list.length:Int))<|some (decide (((el a.list (((a.list.length:Int)-1).toNat)).kind)=1)))else(some false)) λc=>bif c then(xg (Ae ((a.list.length:Int)-1))<|xg (Ae ((a.list.length:Int)-1))<|xg (0<=((a.list.length:Int)-1)/\((a.list.length:Int)-1)<(a.list.length:Int))<|xg (Ae (((el a.list (((a.list.length:Int)-1).toNat)).n)+n))<|xg (0<=((a.list.length:Int)-1)/\((a.list.length:Int)-1)<(a.list.length:Int))<|some (⟨a.list.set (((a.list.length:Int)-1).toNat) (⟨(el a.list (((a.list.length:Int)-1).toNat)).kind,((el a.list (((a.list.length:Int)-1).toNat)).n)+n,(el a.list (((a.list.length:Int)-1).toNat)).signs⟩:DPart),a.put,a.drop⟩:DL02B))else(xg (a.list.length<1099511627776)<|some (⟨a.list++[(⟨1,n,[]⟩:DPart)],a.put,a.drop⟩:DL02B)))
def A04:E amb:=en 303 [Aic,Ap] [] (Ak H7) Tryz.func303 [A03]
def O2 (b:DL02B) (l:List Int):Option DL02B:=
 xg (b.put.length+l.length<=1099511627776)<|some (⟨b.list,b.put++l,b.drop⟩:DL02B)
def A05:E amb:=en 304 [Aic,D4] [] (Ak O2) Tryz.func304
def O1 (b:DL02B) (n:Int):Option DL02B:=
 xg (Ae (b.drop+n))<|some (⟨b.list,b.put,b.drop+n⟩:DL02B)
def A02:E amb:=en 305 [Aic,Ap] [] (Ak O1) Tryz.func305
def O0 (b:DL02B):Option (List DPart):=
 B5h (Aep b) λa=>some a.list
def A01:E amb:=en 306 [.eat (.b 16)] [Fz] (Am O0) Tryz.func306 [A03]
def Ba6 (o:List DPart) (_:Nat) (a:DPart) (b:List DPart) (c:List Int) (d:Int):Option (Lr (List DPart×List Int×Int) (List DPart×List Int×Int)):=
 bif decide ((a.kind)=1)then(B5h (H7 (⟨b,c,d⟩:DL02B) (a.n)) λg=>some (Lr.go (g.list,g.put,g.drop)))else(bif decide ((a.kind)=2)then(B5h (O2 (⟨b,c,d⟩:DL02B) (a.signs)) λe=>some (Lr.go (e.list,e.put,e.drop)))else(B5h (O1 (⟨b,c,d⟩:DL02B) (a.n)) λf=>some (Lr.go (f.list,f.put,f.drop))))
def Amf (o:List DPart) (b:Nat) (a:List DPart×List Int×Int):Option (Lr (List DPart×List Int×Int) (List DPart×List Int×Int)):=Ba6 o b (el o b) a.1 a.2.1 a.2.2
def We (o:List DPart):Option (List DPart):=
 B5h (Gh o) λd=>bif !d then(some [])else(B5h (Ai (Amf o) (λb=>(b.1,b.2.1,b.2.2)) o.length 0 ([],[],0)) λa=>B5h (O0 (⟨a.1,a.2.1,a.2.2⟩:DL02B)) λc=>some c)
def Aog:E amb:=en 246 [B8] [Fz] (Am We) Tryz.func246 [Pf,A01,A02,A04,A05] [Da 0 13 12 [.box 3 0 [.row (.b 4),.row (.b 0),.sc 0]]]
def Axn (b:List Int) (a:List Int) (c:Nat) (d:Int):Option (Lr Unit (Sum Unit Unit)):=
 xg (0<=(c:Int)/\(c:Int)<(b.length:Int))<|bif !decide (d=(el b c))then(some (Lr.out (B6e (()))))else(some (Lr.go ()))
def Axo (b:List Int) (a:List Int) (c:Nat) (_:Unit):Option (Lr Unit (Sum Unit Unit)):=Axn b a c (el a c)
def Qm (a:List Int) (b:List Int):Option Bool:=
 bif !decide ((a.length:Int)=(b.length:Int))then(some false)else(B5h (Ai (Axo b a) (λ_=>(.inl ())) a.length 0 ()) λc=>B59 (λ_=>some true) (λ_=>some false) c)
def Bfe (b:List Int) (a:List Int) (c:Nat) (d:Int):Option (Lr Unit (Sum Unit Bool)):=
 xg (0<=(c:Int)/\(c:Int)<(b.length:Int))<|bif !decide (d=(el b c))then(some (Lr.out (B6e false)))else(some (Lr.go ()))
def Bff (b:List Int) (a:List Int) (c:Nat) (_:Unit):Option (Lr Unit (Sum Unit Bool)):=Bfe b a c (el a c)
def Bfd (a:List Int) (b:List Int):Option Bool:=
 bif !decide ((a.length:Int)=(b.length:Int))then(some false)else(B5h (Ai (Bff b a) (λ_=>(.inl ())) a.length 0 ()) λc=>B59 (λ_=>some true) (λd=>some d) c)
def A0x:E amb:=en 248 [D4,D4] [Aq] (Ak Qm) Tryz.func248 [] [B5 0 13 12 []] (hx:=λa=>Eq.trans (b:=Bfd a.1 a.2.1) (by kernel_rfl) (show _=Qm a.1 a.2.1 by simp only[Axn,Axo,Qm,Bfe,Bff,Bfd,C2,Cq,D1,Cj,Cm,Cy,Df,Dg]<;>rfl))
def Axf (b:List DPart) (a:List DPart) (c:Nat) (d:DPart):Option (Lr Unit (Sum Unit Unit)):=
 xg (0<=(c:Int)/\(c:Int)<(b.length:Int))<|B5h (bif !decide ((d.kind)=((el b c).kind))then(some true)else(xg (0<=(c:Int)/\(c:Int)<(b.length:Int))<|some (!decide ((d.n)=((el b c).n))))) λf=>B5h (bif f then(some true)else(xg (0<=(c:Int)/\(c:Int)<(b.length:Int))<|B5h (Qm (d.signs) ((el b c).signs)) λe=>some (!e))) λg=>bif g then(some (Lr.out (B6e (()))))else(some (Lr.go ()))
def Axg (b:List DPart) (a:List DPart) (c:Nat) (_:Unit):Option (Lr Unit (Sum Unit Unit)):=Axf b a c (el a c)
def Wf (a:List DPart) (b:List DPart):Option Bool:=
 bif !decide ((a.length:Int)=(b.length:Int))then(some false)else(B5h (Ai (Axg b a) (λ_=>(.inl ())) a.length 0 ()) λc=>B59 (λ_=>some true) (λ_=>some false) c)
def Be2 (b:List DPart) (a:List DPart) (c:Nat) (d:DPart):Option (Lr Unit (Sum Unit Bool)):=
 xg (0<=(c:Int)/\(c:Int)<(b.length:Int))<|B5h (bif !decide ((d.kind)=((el b c).kind))then(some true)else(xg (0<=(c:Int)/\(c:Int)<(b.length:Int))<|some (!decide ((d.n)=((el b c).n))))) λg=>B5h (bif g then(some true)else(xg (0<=(c:Int)/\(c:Int)<(b.length:Int))<|B5h (Qm (d.signs) ((el b c).signs)) λe=>some (!e))) λf=>bif f then(some (Lr.out (B6e false)))else(some (Lr.go ()))
def Be3 (b:List DPart) (a:List DPart) (c:Nat) (_:Unit):Option (Lr Unit (Sum Unit Bool)):=Be2 b a c (el a c)
def Be1 (a:List DPart) (b:List DPart):Option Bool:=
 bif !decide ((a.length:Int)=(b.length:Int))then(some false)else(B5h (Ai (Be3 b a) (λ_=>(.inl ())) a.length 0 ()) λd=>B59 (λ_=>some true) (λc=>some c) d)
def A0t:E amb:=en 245 [B8,B8] [Aq] (Ak Wf) Tryz.func245 [A0x] [B5 0 14 13 []] (hx:=λa=>Eq.trans (b:=Be1 a.1 a.2.1) (by kernel_rfl) (show _=Wf a.1 a.2.1 by simp only[Axf,Axg,Wf,Be2,Be3,Be1,C2,Cq,D1,D8,Cj,cond_true,Cm,Cy,Df,Dg]<;>rfl))
def Aef (o:List DPart):Option Bool:=
 B5h (Gh o) λc=>B5h (bif c then(B5h (We o) λa=>B5h (Wf a o) λd=>some d)else(some false)) λb=>some b
def A0r:E amb:=en 185 [B8] [Aq] (Am Aef) Tryz.func185 [Aog,Pf,A0t]
def Ba7 (_:List DPart) (_:Nat) (b:DPart) (a:ByteArray):Option (Lr ByteArray ByteArray):=
 bif !decide (a=(⟨#[]⟩:ByteArray))then(xg (a.size+(⟨#[32]⟩:ByteArray).size<=9223372036854775807)<|bif decide ((b.kind)=1)then(xg ((a++(⟨#[32]⟩:ByteArray)).size+(⟨#[107]⟩:ByteArray).size<=9223372036854775807)<|B5h (Kf (b.n)) λc=>xg (((a++(⟨#[32]⟩:ByteArray))++(⟨#[107]⟩:ByteArray)).size+c.size<=9223372036854775807)<|some (Lr.go (((a++(⟨#[32]⟩:ByteArray))++(⟨#[107]⟩:ByteArray))++c)))else(bif decide ((b.kind)=2)then(xg ((a++(⟨#[32]⟩:ByteArray)).size+(⟨#[112]⟩:ByteArray).size<=9223372036854775807)<|B5h (Wg (b.signs)) λf=>xg (((a++(⟨#[32]⟩:ByteArray))++(⟨#[112]⟩:ByteArray)).size+f.size<=9223372036854775807)<|some (Lr.go (((a++(⟨#[32]⟩:ByteArray))++(⟨#[112]⟩:ByteArray))++f)))else(xg ((a++(⟨#[32]⟩:ByteArray)).size+(⟨#[100]⟩:ByteArray).size<=9223372036854775807)<|B5h (Kf (b.n)) λg=>xg (((a++(⟨#[32]⟩:ByteArray))++(⟨#[100]⟩:ByteArray)).size+g.size<=9223372036854775807)<|some (Lr.go (((a++(⟨#[32]⟩:ByteArray))++(⟨#[100]⟩:ByteArray))++g)))))else(bif decide ((b.kind)=1)then(xg (a.size+(⟨#[107]⟩:ByteArray).size<=9223372036854775807)<|B5h (Kf (b.n)) λd=>xg ((a++(⟨#[107]⟩:ByteArray)).size+d.size<=9223372036854775807)<|some (Lr.go ((a++(⟨#[107]⟩:ByteArray))++d)))else(bif decide ((b.kind)=2)then(xg (a.size+(⟨#[112]⟩:ByteArray).size<=9223372036854775807)<|B5h (Wg (b.signs)) λh=>xg ((a++(⟨#[112]⟩:ByteArray)).size+h.size<=9223372036854775807)<|some (Lr.go ((a++(⟨#[112]⟩:ByteArray))++h)))else(xg (a.size+(⟨#[100]⟩:ByteArray).size<=9223372036854775807)<|B5h (Kf (b.n)) λe=>xg ((a++(⟨#[100]⟩:ByteArray)).size+e.size<=9223372036854775807)<|some (Lr.go ((a++(⟨#[100]⟩:ByteArray))++e)))))
def Ba8 (a:List DPart) (b:Nat) (c:ByteArray):Option (Lr ByteArray ByteArray):=Ba7 a b (el a b) c
def Aeg (o:List DPart):Option ByteArray:=
 B5h (Gh o) λd=>bif !d then(some (⟨#[]⟩:ByteArray))else(B5h (We o) λa=>B5h (Ai (Ba8 a) (λc=>c) a.length 0 (⟨#[]⟩:ByteArray)) λb=>bif decide (b=(⟨#[]⟩:ByteArray))then(some (⟨#[45]⟩:ByteArray))else(some b))
def A0u:E amb:=en 186 [B8] [F3] (Am Aeg) Tryz.func186 [Af5,Aog,Pf,Aoh] [Da 0 12 11 [T9 3 2]]
def Bbf (_:List ByteArray) (_:Nat) (a:ByteArray) (b:List DPart):Option (Lr (List DPart) (Sum (List DPart) (List DPart×Bool))):=
 bif decide ((a.size:Int)<2)then(some (Lr.out (B6e ([],false))))else(xg (0<=(1:Int)/\(1:Int)<=(a.size:Int))<|B5h (Oy (a.extract 1 a.size)) λc=>xg (0<=(0:Int)/\(0:Int)<(a.size:Int))<|bif decide (((Bz a 0).toNat:Int)=107)then(bif !c.2 then(some (Lr.out (B6e ([],false))))else(xg (b.length<1099511627776)<|some (Lr.go (b++[(⟨1,c.1,[]⟩:DPart)]))))else(bif decide (((Bz a 0).toNat:Int)=100)then(bif !c.2 then(some (Lr.out (B6e ([],false))))else(xg (b.length<1099511627776)<|some (Lr.go (b++[(⟨3,c.1,[]⟩:DPart)]))))else(bif decide (((Bz a 0).toNat:Int)=112)then(xg (0<=(1:Int)/\(1:Int)<=(a.size:Int))<|B5h (Zp (a.extract 1 a.size)) λd=>bif !d.2 then(some (Lr.out (B6e ([],false))))else(xg (b.length<1099511627776)<|some (Lr.go (b++[(⟨2,0,d.1⟩:DPart)]))))else(bif !c.2 then(some (Lr.out (B6e ([],false))))else(xg (b.length<1099511627776)<|some (Lr.go (b++[(⟨0,c.1,[]⟩:DPart)])))))))
def Bbg (b:List ByteArray) (a:Nat) (c:List DPart):Option (Lr (List DPart) (Sum (List DPart) (List DPart×Bool))):=Bbf b a (el b a) c
def Amr (s:ByteArray):Option (List DPart×Bool):=
 bif decide (s=(⟨#[45]⟩:ByteArray))then(some ([],true))else(B5h (Zi s) λb=>B5h (Ai (Bbg b) (λg=>(.inl g)) b.length 0 []) λh=>B59 (λa=>B5h (Aef a) λd=>B5h (bif !d then(some true)else(B5h (Aeg a) λe=>some (!decide (e=s)))) λc=>bif c then(some ([],false))else(some (a,true))) (λf=>some f) h)
def Bmj:E amb:=en 119 [Cp] [Fz,Aq] (Am Amr) Tryz.func119 [Aod,A0r,A0u,Af7,A0z] [B5 0 19 18 [C1 4 4]]
def Bbz (b:Nat) (a:List UInt8):Option (Lr (List UInt8) (List UInt8)):=
 bif decide (((el a b).toNat:Int)=44)then(xg (0<=(32:Int)/\(32:Int)<=255)<|some (Lr.go (a.set b 32)))else(bif decide (((el a b).toNat:Int)=32)then(xg (0<=(44:Int)/\(44:Int)<=255)<|some (Lr.go (a.set b 44)))else(some (Lr.go a)))
def Ayg (b:Nat) (a:List UInt8):Option (Lr (List UInt8) (List UInt8)):=Bbz b a
def Ae2 (s:ByteArray):Option (List DPart):=
 xg (s.size<=1099511627776)<|B5h (Ai (Ayg) (λb=>b) s.data.toList.length 0 s.data.toList) λc=>B5h (Amr (⟨c.toArray⟩:ByteArray)) λa=>some a.1
def Bm3:E amb:=en 63 [Cp] [Fz] (Am Ae2) Tryz.func63 [Bmj] [Da 0 12 11 [Dy 3 3]]
def Qo (t:List Int):Option Bool:=
 B5h (Ql t) λb=>B5h (bif b then(some (decide ((t.length:Int)<=200)))else(some false)) λa=>some a
def Aok:E amb:=en 132 [D4] [Aq] (Am Qo) Tryz.func132 [Aoi]
def Wb (c:DCall):Option Bool:=
 B5h (Aey c.kind) λw=>B5h (bif !w then(some true)else(some (decide ((8:Int)<(c.doc.size:Int))))) λm=>B5h (bif m then(some true)else(B5h (S9 c.o) λi=>some (!i))) λh=>B5h (bif h then(some true)else(B5h (Qo c.text) λt=>some (!t))) λe=>bif e then(some false)else(B5h (Qk c.kind) λq=>B5h (bif !q then(some (!decide (c.doc=(⟨#[]⟩:ByteArray))))else(some false)) λa=>B5h (bif a then(some true)else(B5h (bif !decide (c.kind=1)then(some (decide ((0:Int)<(c.text.length:Int))))else(some false)) λg=>some g)) λk=>B5h (bif k then(some true)else(B5h (bif !decide (c.kind=2)then(B5h (bif decide ((0:Int)<(c.o.length:Int))then(some true)else(some (!decide (c.seq=0)))) λs=>some s)else(some false)) λu=>some u)) λr=>bif r then(some false)else(B5h (bif decide (c.kind=2)then(some true)else(some (decide (c.kind=6)))) λp=>B5h (bif p then(some true)else(some (decide (c.kind=7)))) λf=>B5h (bif decide (c.kind=2)then(some true)else(some (decide (c.kind=3)))) λl=>B5h (bif l then(some true)else(some (decide (c.kind=5)))) λd=>B5h (bif d then(some true)else(some (decide (c.kind=6)))) λv=>B5h (bif f then(some true)else(some (decide (c.client=0)))) λx=>B5h (bif x then(B5h (bif v then(some true)else(some (decide (c.n=0)))) λb=>some b)else(some false)) λj=>some j))
def Af4:E amb:=en 67 [Gk] [Aq] (Am Wb) Tryz.func67 [Aap,Aok,Aon,A1b]
def Ba4 (s:ByteArray) (a:Int):Option (Lr Int (Sum Unit Unit)):=
 bif decide (a<(s.size:Int))then(xg (0<=a/\a<(s.size:Int))<|B5h (bif decide (((Bz s a.toNat).toNat:Int)<97)then(some true)else(xg (0<=a/\a<(s.size:Int))<|some (decide ((122:Int)<((Bz s a.toNat).toNat:Int))))) λb=>bif b then(some (Lr.out (B6e (()))))else(xg (Ae (a+1))<|some (Lr.go (a+1))))else(some (Lr.out (B7k ())))
def Axd (s:ByteArray) (a:Int):Option (Lr Int (Sum Unit Unit)):=Ba4 s a
def S6 (s:ByteArray):Option Bool:=
 B5h (Bc (Axd s) 0) λa=>B59 (λ_=>B5h (Bt (s.size:Int) 1 8) λb=>some b) (λ_=>some false) a
def Bez (s:ByteArray) (a:Int):Option (Lr Int (Sum Int Bool)):=
 bif decide (a<(s.size:Int))then(xg (0<=a/\a<(s.size:Int))<|B5h (bif decide (((Bz s a.toNat).toNat:Int)<97)then(some true)else(xg (0<=a/\a<(s.size:Int))<|some (decide ((122:Int)<((Bz s a.toNat).toNat:Int))))) λb=>bif b then(some (Lr.out (B6e false)))else(xg (Ae (a+1))<|some (Lr.go (a+1))))else(some (Lr.out (B7k a)))
def Be0 (s:ByteArray) (a:Int):Option (Lr Int (Sum Int Bool)):=Bez s a
def Bey (s:ByteArray):Option Bool:=
 B5h (Bc (Be0 s) 0) λa=>B59 (λ_=>B5h (Bt (s.size:Int) 1 8) λb=>some b) (λc=>some c) a
def A0s:E amb:=en 123 [Cp] [Aq] (Am S6) Tryz.func123 [Ga] [D9 0 [Ax 3]] (hx:=λa=>Eq.trans (b:=Bey a.1) (by kernel_rfl) (show _=S6 a.1 by simp only[Ba4,Axd,S6,Bez,Be0,Bey,Rh,Cq,D1,Cj,cond_true,Cm,Cy,Df,Dg]<;>rfl))
def Bby (b:Nat) (a:List UInt8):Option (Lr (List UInt8) (List UInt8)):=
 bif decide (((el a b).toNat:Int)=32)then(xg (0<=(44:Int)/\(44:Int)<=255)<|some (Lr.go (a.set b 44)))else(some (Lr.go a))
def Ayf (a:Nat) (b:List UInt8):Option (Lr (List UInt8) (List UInt8)):=Bby a b
def Am2 (o:List DPart):Option ByteArray:=
 B5h (Aeg o) λa=>xg (a.size<=1099511627776)<|B5h (Ai (Ayf) (λc=>c) a.data.toList.length 0 a.data.toList) λb=>some (⟨b.toArray⟩:ByteArray)
def Bm1:E amb:=en 124 [B8] [F3] (Am Am2) Tryz.func124 [A0u] [Da 0 11 10 [Dy 3 3]]
def Bbw (l:List ByteArray) (c:Nat) (b:ByteArray) (a:ByteArray):Option (Lr ByteArray ByteArray):=
 bif decide ((0:Int)<(c:Int))then(xg (a.size+(⟨#[32]⟩:ByteArray).size<=9223372036854775807)<|xg ((a++(⟨#[32]⟩:ByteArray)).size+b.size<=9223372036854775807)<|some (Lr.go ((a++(⟨#[32]⟩:ByteArray))++b)))else(xg (a.size+b.size<=9223372036854775807)<|some (Lr.go (a++b)))
def Bbx (l:List ByteArray) (a:Nat) (b:ByteArray):Option (Lr ByteArray ByteArray):=Bbw l a (el l a) b
def Ae1 (l:List ByteArray):Option ByteArray:=
 B5h (Ai (Bbx l) (λa=>a) l.length 0 (⟨#[]⟩:ByteArray)) λb=>some b
def Bm0:E amb:=en 125 [K1] [F3] (Am Ae1) Tryz.func125 [] [Da 0 8 7 [T9 3 2]]
def Wc (c:DCall):Option ByteArray:=
 B5h (Wb c) λq=>B5h (bif !q then(some true)else(B5h (Gh c.o) λD=>some (!D))) λj=>B5h (bif j then(some true)else(B5h (Bt c.client 0 1000000000) λy=>some (!y))) λB=>B5h (bif B then(some true)else(B5h (Bt c.seq 0 1000000000) λF=>some (!F))) λz=>B5h (bif z then(some true)else(B5h (Bt c.n 0 1000000000) λk=>some (!k))) λv=>B5h (bif v then(some true)else(B5h (Qk c.kind) λx=>B5h (bif x then(B5h (S6 c.doc) λi=>some (!i))else(some false)) λs=>some s)) λp=>bif p then(some (⟨#[]⟩:ByteArray))else(B5h (Zv c.kind) λa=>B5h (Ad7 c.kind) λe=>B5h (Qk c.kind) λA=>B5h (bif A then(xg ([e].length<1099511627776)<|some ([e]++[c.doc]))else(some [e])) λh=>B5h (bif a.1 then(B5h (Kf c.client) λC=>xg (h.length<1099511627776)<|some (h++[C]))else(some h)) λb=>B5h (bif a.2.1 then(B5h (Kf c.seq) λu=>xg (b.length<1099511627776)<|some (b++[u]))else(some b)) λf=>B5h (bif a.2.2 then(B5h (Kf c.n) λm=>xg (f.length<1099511627776)<|some (f++[m]))else(some f)) λd=>B5h (bif a.2.1 then(B5h (Am2 c.o) λw=>xg (d.length<1099511627776)<|some (d++[w]))else(some d)) λg=>B5h (bif decide (c.kind=1)then(B5h (Wg c.text) λl=>xg (g.length<1099511627776)<|some (g++[l]))else(some g)) λr=>B5h (Ae1 r) λt=>some t)
def Bls:E amb:=en 65 [Gk] [F3] (Am Wc) Tryz.func65 [Af4,A0p,A0s,Af5,Aap,Pf,Aoh,Ga,A1d,Bm0,Bm1] [Ca 100006 [C1 6 2],Ca 100008 [C1 6 2],Ca 100010 [C1 6 2],Ca 100012 [C1 6 2],Ca 100014 [C1 6 2],Ca 100016 [C1 6 2]]
def Axr (h:ByteArray×List ByteArray) (a:Int) (f:Int) (d:ByteArray) (b:Int) (e:Int) (c:Int):Option (Lr (Int×Int×ByteArray×Int×Int×Int) (Int×Int×ByteArray×Int×Int×Int)):=
 bif decide (a<=8)then(B5h (Ad7 a) λg=>bif decide (g=h.1)then(xg (Ae (a+1))<|some (Lr.go (a+1,a,d,b,e,c)))else(xg (Ae (a+1))<|some (Lr.go (a+1,f,d,b,e,c))))else(some (Lr.out (a,f,d,b,e,c)))
def Amq (b:ByteArray×List ByteArray) (a:Int×Int×ByteArray×Int×Int×Int):Option (Lr (Int×Int×ByteArray×Int×Int×Int) (Int×Int×ByteArray×Int×Int×Int)):=Axr b a.1 a.2.1 a.2.2.1 a.2.2.2.1 a.2.2.2.2.1 a.2.2.2.2.2
def Aem (s:ByteArray):Option (DCall×Bool):=
 B5h (Zi s) λy=>B5h (Lo y) λi=>B5h (Bc (Amq i) (1,0,B52,0,0,0)) λe=>B5h (Zv e.2.1) λh=>B5h (Qk e.2.1) λr=>B5h (bif r then(B5h (Lo i.2) λm=>some (m.2,e.2.1,m.1,e.2.2.2.1,e.2.2.2.2.1,e.2.2.2.2.2))else(some (i.2,e.2.1,e.2.2.1,e.2.2.2.1,e.2.2.2.2.1,e.2.2.2.2.2))) λd=>B5h (bif h.1 then(B5h (Lo d.1) λn=>B5h (Oy n.1) λw=>some (n.2,d.2.1,d.2.2.1,w.1,d.2.2.2.2.1,d.2.2.2.2.2))else(some (d.1,d.2.1,d.2.2.1,d.2.2.2.1,d.2.2.2.2.1,d.2.2.2.2.2))) λf=>B5h (bif h.2.1 then(B5h (Lo f.1) λk=>B5h (Oy k.1) λq=>some (k.2,f.2.1,f.2.2.1,f.2.2.2.1,q.1,f.2.2.2.2.2))else(some (f.1,f.2.1,f.2.2.1,f.2.2.2.1,f.2.2.2.2.1,f.2.2.2.2.2))) λg=>B5h (bif h.2.2 then(B5h (Lo g.1) λj=>B5h (Oy j.1) λo=>some (j.2,g.2.1,g.2.2.1,g.2.2.2.1,g.2.2.2.2.1,o.1))else(some (g.1,g.2.1,g.2.2.1,g.2.2.2.1,g.2.2.2.2.1,g.2.2.2.2.2))) λc=>B5h (bif h.2.1 then(B5h (Lo c.1) λl=>B5h (Ae2 l.1) λp=>some (l.2,c.2.1,c.2.2.1,c.2.2.2.1,c.2.2.2.2.1,c.2.2.2.2.2,p))else(some (c.1,c.2.1,c.2.2.1,c.2.2.2.1,c.2.2.2.2.1,c.2.2.2.2.2,[]))) λb=>B5h (bif decide (b.2.1=1)then(B5h (Lo b.1) λv=>B5h (Zp v.1) λz=>some (b.2.1,b.2.2.1,b.2.2.2.1,b.2.2.2.2.1,b.2.2.2.2.2.1,b.2.2.2.2.2.2,z.1))else(some (b.2.1,b.2.2.1,b.2.2.2.1,b.2.2.2.2.1,b.2.2.2.2.2.1,b.2.2.2.2.2.2,[]))) λa=>B5h (Wc (⟨a.1,a.2.1,a.2.2.1,a.2.2.2.1,a.2.2.2.2.1,a.2.2.2.2.2.1,a.2.2.2.2.2.2⟩:DCall)) λu=>B5h (bif decide (u=(⟨#[]⟩:ByteArray))then(some true)else(B5h (Wc (⟨a.1,a.2.1,a.2.2.1,a.2.2.2.1,a.2.2.2.2.1,a.2.2.2.2.2.1,a.2.2.2.2.2.2⟩:DCall)) λt=>some (!decide (t=s)))) λx=>bif x then(some ((⟨0,B52,0,0,0,[],[]⟩:DCall),false))else(some ((⟨a.1,a.2.1,a.2.2.1,a.2.2.2.1,a.2.2.2.2.1,a.2.2.2.2.2.1,a.2.2.2.2.2.2⟩:DCall),true))
def Bmi:E amb:=en 24 [Cp] [Ab6,Aq] (Am Aem) Tryz.func24 [Bls,A0p,Aod,Aap,Af7,A0z,A1d,Bm2,Bm3] [Ca 0 [Ax 7,.box 6 0 [.sc 0,.sc 2,.sc 0,.sc 0,.sc 0,.nl,.nl]],Ca 100011 [.slot 5 (.ro (.b 2)),.box 6 0 [.sc 0,.sc 2,.sc 0,.sc 0,.sc 0,.nl,.nl]],Ca 100014 [.slot 5 (.ro (.b 2)),.box 6 0 [.sc 0,.sc 2,.sc 0,.sc 0,.sc 0,.nl,.nl]],Ca 100017 [.slot 5 (.ro (.b 2)),.box 6 0 [.sc 0,.sc 2,.sc 0,.sc 0,.sc 0,.nl,.nl]],Ca 100020 [.slot 5 (.ro (.b 2)),.box 6 0 [.sc 0,.sc 2,.sc 0,.sc 0,.sc 0,.nl,.nl]],Ca 100023 [.slot 5 (.ro (.b 2)),.box 6 0 [.sc 0,.sc 2,.sc 0,.sc 0,.sc 0,.row (.b 4),.nl]],Ca 100026 [.box 6 0 [.sc 0,.sc 2,.sc 0,.sc 0,.sc 0,.row (.b 4),.row (.b 0)]]]
def Ad9 (a:DEntry) (b:DEntry):Option Bool:=
 B5h (bif decide (a.client=b.client)then(some (decide (a.seq=b.seq)))else(some false)) λd=>B5h (bif d then(B5h (Wf a.o b.o) λc=>some c)else(some false)) λe=>some e
def Blw:E amb:=en 249 [Jz,Jz] [Aq] (Ak Ad9) Tryz.func249 [A0t]
def Awz (b:DAnswer) (a:DAnswer) (c:Nat) (e:DEntry):Option (Lr Unit (Sum Unit Unit)):=
 xg (0<=(c:Int)/\(c:Int)<(b.list.length:Int))<|B5h (Ad9 e (el b.list c)) λd=>bif !d then(some (Lr.out (B6e (()))))else(some (Lr.go ()))
def Aw0 (b:DAnswer) (a:DAnswer) (c:Nat) (_:Unit):Option (Lr Unit (Sum Unit Unit)):=Awz b a c (el a.list c)
def Wa (a:DAnswer) (b:DAnswer):Option Bool:=
 B5h (bif !decide (a.code=b.code)then(some true)else(some (!decide (a.rev=b.rev)))) λc=>B5h (bif c then(some true)else(B5h (Qm a.text b.text) λe=>some (!e))) λg=>B5h (bif g then(some true)else(some (!decide ((a.list.length:Int)=(b.list.length:Int))))) λd=>bif d then(some false)else(B5h (Ai (Aw0 b a) (λ_=>(.inl ())) a.list.length 0 ()) λf=>B59 (λ_=>some true) (λ_=>some false) f)
def Bea (b:DAnswer) (a:DAnswer) (c:Nat) (d:DEntry):Option (Lr Unit (Sum Unit Bool)):=
 xg (0<=(c:Int)/\(c:Int)<(b.list.length:Int))<|B5h (Ad9 d (el b.list c)) λe=>bif !e then(some (Lr.out (B6e false)))else(some (Lr.go ()))
def Beb (b:DAnswer) (a:DAnswer) (c:Nat) (_:Unit):Option (Lr Unit (Sum Unit Bool)):=Bea b a c (el a.list c)
def Bd9 (a:DAnswer) (b:DAnswer):Option Bool:=
 B5h (bif !decide (a.code=b.code)then(some true)else(some (!decide (a.rev=b.rev)))) λg=>B5h (bif g then(some true)else(B5h (Qm a.text b.text) λd=>some (!d))) λe=>B5h (bif e then(some true)else(some (!decide ((a.list.length:Int)=(b.list.length:Int))))) λh=>bif h then(some false)else(B5h (Ai (Beb b a) (λ_=>(.inl ())) a.list.length 0 ()) λf=>B59 (λ_=>some true) (λc=>some c) f)
def Blr:E amb:=en 190 [N6,N6] [Aq] (Ak Wa) Tryz.func190 [Blw,A0x] [B5 0 39 38 []] (hx:=λa=>Eq.trans (b:=Bd9 a.1 a.2.1) (by kernel_rfl) (show _=Wa a.1 a.2.1 by simp only[Awz,Aw0,Wa,Bea,Beb,Bd9,C2,Cq,D1,D8,Cj,cond_true,Cm,Cy,Df,Dg]<;>rfl))
def Aek (t:DTask):Option Bool:=
 B5h (Wb t.c) λq=>B5h (bif !q then(some true)else(B5h (Bt t.inv 0 1000000) λf=>some (!f))) λl=>B5h (bif l then(some true)else(B5h (Bt t.pc 0 4) λd=>some (!d))) λi=>bif i then(some false)else(B5h (bif decide (t.pc=1)then(B5h (Qk t.c.kind) λb=>some (!b))else(some false)) λp=>B5h (bif p then(some true)else(B5h (bif decide (t.pc=2)then(some (!decide (t.c.kind=2)))else(some false)) λn=>some n)) λu=>bif u then(some false)else(bif decide (t.pc<=2)then(B5h (bif decide (t.lin=(-1))then(some (decide (t.res=(-1))))else(some false)) λg=>B5h (bif g then(B5h (Wa t.a (⟨0,0,[],[]⟩:DAnswer)) λr=>some r)else(some false)) λv=>some v)else(B5h (Wa t.a (⟨11,0,[],[]⟩:DAnswer)) λo=>B5h (bif o then(some (decide (t.c.kind=2)))else(some false)) λs=>B5h (bif s then(some (decide (t.lin=(-1))))else(some false)) λe=>B5h (bif !e then(B5h (Bt t.lin t.inv 1000000) λj=>some (!j))else(some false)) λk=>bif k then(some false)else(bif decide (t.pc=3)then(some (decide (t.res=(-1))))else(B5h (Bt t.res t.inv 1000000) λm=>B5h (bif m then(some (decide (t.lin<=t.res)))else(some false)) λh=>some h)))))
def Bmh:E amb:=en 126 [Uv] [Aq] (Am Aek) Tryz.func126 [Blr,Af4,Aap,Ga]
def Aer (o:List DPart) (t:List Int):Option Bool:=
 B5h (Gh o) λd=>B5h (bif d then(B5h (Qo t) λe=>some e)else(some false)) λc=>B5h (bif c then(B5h (Ox o) λb=>some (decide (b=(t.length:Int))))else(some false)) λa=>some a
def Bml:E amb:=en 307 [B8,D4] [Aq] (Ak Aer) Tryz.func307 [Af6,Pf,Aok]
def Aw1 (t:List Int) (o:List DPart) (_:Nat) (b:DPart) (c:List Int) (a:Int):Option (Lr (List Int×Int) (List Int)):=
 bif decide ((b.kind)=1)then(xg (Ae (a+(b.n)))<|xg (0<=a/\a<=(a+(b.n))/\(a+(b.n))<=(t.length:Int))<|xg (c.length+((t.take ((a+(b.n)).toNat)).drop a.toNat).length<=1099511627776)<|xg (Ae (a+(b.n)))<|some (Lr.go (c++((t.take ((a+(b.n)).toNat)).drop a.toNat),a+(b.n))))else(bif decide ((b.kind)=2)then(xg (c.length+(b.signs).length<=1099511627776)<|some (Lr.go (c++(b.signs),a)))else(xg (Ae (a+(b.n)))<|some (Lr.go (c,a+(b.n)))))
def Ad6 (t:List Int) (o:List DPart) (a:Nat) (b:List Int×Int):Option (Lr (List Int×Int) (List Int)):=Aw1 t o a (el o a) b.1 b.2
def Kd (o:List DPart) (t:List Int):Option (List Int×Bool):=
 B5h (Aer o t) λb=>bif !b then(some ([],false))else(B5h (Ai (Ad6 t o) (λa=>a.1) o.length 0 ([],0)) λc=>some (c,true))
def Bed (t:List Int) (o:List DPart) (_:Nat) (b:DPart) (c:List Int) (a:Int):Option (Lr (List Int×Int) (List Int×Int)):=
 bif decide ((b.kind)=1)then(xg (Ae (a+(b.n)))<|xg (0<=a/\a<=(a+(b.n))/\(a+(b.n))<=(t.length:Int))<|xg (c.length+((t.take ((a+(b.n)).toNat)).drop a.toNat).length<=1099511627776)<|xg (Ae (a+(b.n)))<|some (Lr.go (c++((t.take ((a+(b.n)).toNat)).drop a.toNat),a+(b.n))))else(bif decide ((b.kind)=2)then(xg (c.length+(b.signs).length<=1099511627776)<|some (Lr.go (c++(b.signs),a)))else(xg (Ae (a+(b.n)))<|some (Lr.go (c,a+(b.n)))))
def Bee (t:List Int) (o:List DPart) (b:Nat) (a:List Int×Int):Option (Lr (List Int×Int) (List Int×Int)):=Bed t o b (el o b) a.1 a.2
def Bec (o:List DPart) (t:List Int):Option (List Int×Bool):=
 B5h (Aer o t) λc=>bif !c then(some ([],false))else(B5h (Ai (Bee t o) (λa=>(a.1,a.2)) o.length 0 ([],0)) λb=>some (b.1,true))
def Af3:E amb:=en 250 [B8,D4] [Jd,Aq] (Ak Kd) Tryz.func250 [Bml] [Da 0 17 16 [C1 6 0,Ax 7]] (hx:=λa=>Eq.trans (b:=Bec a.1 a.2.1) (by kernel_rfl) (show _=Kd a.1 a.2.1 by simp only[Aw1,Ad6,Kd,Bed,Bee,Bec,C2,Cq,D1,Cj,Cm]<;>rfl))
def S5 (e:DEntry):Option Bool:=
 B5h (Bt e.client 1 8) λd=>B5h (bif d then(B5h (Bt e.seq 1 1000000000) λa=>some a)else(some false)) λc=>B5h (bif c then(B5h (Aef e.o) λb=>some b)else(some false)) λf=>some f
def Aoe:E amb:=en 251 [Jz] [Aq] (Am S5) Tryz.func251 [A0r,Ga]
def E6 (d:DDoc):Option Int:=
 xg (Ae (d.from_+(d.list.length:Int)))<|some (d.from_+(d.list.length:Int))
def Kn:E amb:=en 193 [Ep] [A0] (Am E6) Tryz.func193
def Aw2 (d:DDoc) (_:Nat) (b:DEntry) (c:List Int):Option (Lr (List Int) (Sum Unit Unit)):=
 B5h (Kd (b.o) c) λa=>B5h (bif !a.2 then(some true)else(B5h (S5 b) λh=>some (!h))) λg=>B5h (bif g then(some true)else(B5h (Qo a.1) λf=>some (!f))) λe=>bif e then(some (Lr.out (B6e (()))))else(some (Lr.go a.1))
def Amb (d:DDoc) (a:Nat) (b:List Int):Option (Lr (List Int) (Sum Unit Unit)):=Aw2 d a (el d.list a) b
def Aw3 (d:DDoc) (a:Nat) (b:DSeen):Option (Lr Unit (Sum Unit Bool)):=
 B5h (Bt (b.client) 1 8) λe=>B5h (bif !e then(some true)else(B5h (Bt (b.seq) 1 1000000000) λi=>some (!i))) λk=>B5h (bif k then(some true)else(B5h (E6 d) λh=>B5h (Bt (b.rev) 1 h) λg=>some (!g))) λj=>B5h (bif j then(some true)else(B5h (bif decide ((0:Int)<(a:Int))then(xg (Ae ((a:Int)-1))<|xg (0<=((a:Int)-1)/\((a:Int)-1)<(d.seen.length:Int))<|some (decide ((b.client)<=((el d.seen (((a:Int)-1).toNat)).client))))else(some false)) λc=>some c)) λf=>bif f then(some (Lr.out (B6e (false))))else(some (Lr.go ()))
def Ad8 (d:DDoc) (a:Nat) (_:Unit):Option (Lr Unit (Sum Unit Bool)):=Aw3 d a (el d.seen a)
def Ke (d:DDoc):Option Bool:=
 B5h (S6 d.name) λh=>B5h (bif !h then(some true)else(B5h (Bt d.from_ 0 999999000) λe=>some (!e))) λj=>B5h (bif j then(some true)else(B5h (Qo d.text) λb=>some (!b))) λg=>B5h (bif g then(some true)else(some (decide ((8:Int)<(d.list.length:Int))))) λc=>bif c then(some false)else(B5h (Ai (Amb d) (λ_=>(.inl ())) d.list.length 0 d.text) λi=>B59 (λ_=>B5h (Ai (Ad8 d) (λ_=>(.inl ())) d.seen.length 0 ()) λf=>B59 (λ_=>some true) (λa=>some a) f) (λ_=>some false) i)
def Beg (d:DDoc) (_:Nat) (b:DEntry) (g:List Int):Option (Lr (List Int) (Sum (List Int) Bool)):=
 B5h (Kd (b.o) g) λa=>B5h (bif !a.2 then(some true)else(B5h (S5 b) λe=>some (!e))) λh=>B5h (bif h then(some true)else(B5h (Qo a.1) λf=>some (!f))) λc=>bif c then(some (Lr.out (B6e false)))else(some (Lr.go a.1))
def Bei (d:DDoc) (a:Nat) (b:List Int):Option (Lr (List Int) (Sum (List Int) Bool)):=Beg d a (el d.list a) b
def Beh (d:DDoc) (a:Nat) (b:DSeen):Option (Lr Unit (Sum Unit Bool)):=
 B5h (Bt (b.client) 1 8) λg=>B5h (bif !g then(some true)else(B5h (Bt (b.seq) 1 1000000000) λk=>some (!k))) λi=>B5h (bif i then(some true)else(B5h (E6 d) λe=>B5h (Bt (b.rev) 1 e) λj=>some (!j))) λf=>B5h (bif f then(some true)else(B5h (bif decide ((0:Int)<(a:Int))then(xg (Ae ((a:Int)-1))<|xg (0<=((a:Int)-1)/\((a:Int)-1)<(d.seen.length:Int))<|some (decide ((b.client)<=((el d.seen (((a:Int)-1).toNat)).client))))else(some false)) λc=>some c)) λh=>bif h then(some (Lr.out (B6e false)))else(some (Lr.go ()))
def Bej (d:DDoc) (a:Nat) (_:Unit):Option (Lr Unit (Sum Unit Bool)):=Beh d a (el d.seen a)
def Bef (d:DDoc):Option Bool:=
 B5h (S6 d.name) λf=>B5h (bif !f then(some true)else(B5h (Bt d.from_ 0 999999000) λe=>some (!e))) λa=>B5h (bif a then(some true)else(B5h (Qo d.text) λi=>some (!i))) λk=>B5h (bif k then(some true)else(some (decide ((8:Int)<(d.list.length:Int))))) λh=>bif h then(some false)else(B5h (Ai (Bei d) (λc=>(.inl c)) d.list.length 0 d.text) λl=>B59 (λ_=>B5h (Ai (Bej d) (λ_=>(.inl ())) d.seen.length 0 ()) λb=>B59 (λ_=>some true) (λg=>some g) b) (λj=>some j) l)
def Tv:E amb:=en 191 [Ep] [Aq] (Am Ke) Tryz.func191 [Af3,Aoe,Kn,A0s,Aok,Ga] [B5 0 37 36 [.slot 3 (.ro (.b 0))],B5 2 65 64 []] (hx:=λa=>Eq.trans (b:=Bef a.1) (by kernel_rfl) (show _=Ke a.1 by simp only[Aw2,Amb,Aw3,Ad8,Ke,Beg,Bei,Beh,Bej,Bef,C2,Cq,D1,D8,Cj,cond_true,cond_false,Cm,Cy,Df,Dg]<;>rfl))
def Aw4 (c:ByteArray) (_:DHub) (a:Nat) (b:DDoc):Option (Lr Unit (Sum Unit Int)):=
 bif decide (b.name=c)then(some (Lr.out (B6e ((a:Int)))))else(some (Lr.go ()))
def Aw5 (b:ByteArray) (h:DHub) (a:Nat) (_:Unit):Option (Lr Unit (Sum Unit Int)):=Aw4 b h a (el h.docs a)
def H6 (h:DHub) (b:ByteArray):Option Int:=
 B5h (Ai (Aw5 b h) (λ_=>(.inl ())) h.docs.length 0 ()) λa=>B59 (λ_=>some (-1)) (λc=>some c) a
def Beo (c:ByteArray) (_:DHub) (b:Nat) (a:DDoc):Option (Lr Unit (Sum Unit Int)):=
 bif decide (a.name=c)then(some (Lr.out (B6e (b:Int))))else(some (Lr.go ()))
def Bep (b:ByteArray) (h:DHub) (a:Nat) (_:Unit):Option (Lr Unit (Sum Unit Int)):=Beo b h a (el h.docs a)
def Ben (h:DHub) (b:ByteArray):Option Int:=
 B5h (Ai (Bep b h) (λ_=>(.inl ())) h.docs.length 0 ()) λc=>B59 (λ_=>some (-1)) (λa=>some a) c
def Q5:E amb:=en 139 [D5,Cp] [A0] (Ak H6) Tryz.func139 [] [B5 0 10 9 []] (hx:=λa=>Eq.trans (b:=Ben a.1 a.2.1) (by kernel_rfl) (show _=H6 a.1 a.2.1 by simp only[Aw4,Aw5,H6,Beo,Bep,Ben,C2,Cq,Cj,Cm,Cy,Df,Dg]<;>rfl))
def Axj (_:DRing) (_:Nat) (b:DEntry):Option (Lr Unit (Sum Unit Unit)):=
 B5h (S5 b) λa=>bif !a then(some (Lr.out (B6e (()))))else(some (Lr.go ()))
def Axk (b:DRing) (a:Nat) (_:Unit):Option (Lr Unit (Sum Unit Unit)):=Axj b a (el b.list a)
def Mv (a:DRing):Option Bool:=
 B5h (Ai (Axk a) (λ_=>(.inl ())) a.list.length 0 ()) λd=>B59 (λ_=>B5h (Bt a.cap 1 6) λb=>B5h (bif b then(B5h (Bt a.next 1 1000000000) λe=>some e)else(some false)) λf=>B5h (bif f then(some (decide ((a.list.length:Int)<=a.cap)))else(some false)) λc=>B5h (bif c then(B5h (bif !a.out then(some true)else(some (decide ((a.list.length:Int)=0)))) λh=>some h)else(some false)) λg=>some g) (λ_=>some false) d
def Be5 (_:DRing) (_:Nat) (b:DEntry):Option (Lr Unit (Sum Unit Bool)):=
 B5h (S5 b) λa=>bif !a then(some (Lr.out (B6e false)))else(some (Lr.go ()))
def Be6 (b:DRing) (a:Nat) (_:Unit):Option (Lr Unit (Sum Unit Bool)):=Be5 b a (el b.list a)
def Be4 (a:DRing):Option Bool:=
 B5h (Ai (Be6 a) (λ_=>(.inl ())) a.list.length 0 ()) λg=>B59 (λ_=>B5h (Bt a.cap 1 6) λi=>B5h (bif i then(B5h (Bt a.next 1 1000000000) λb=>some b)else(some false)) λd=>B5h (bif d then(some (decide ((a.list.length:Int)<=a.cap)))else(some false)) λe=>B5h (bif e then(B5h (bif !a.out then(some true)else(some (decide ((a.list.length:Int)=0)))) λc=>some c)else(some false)) λf=>some f) (λh=>some h) g
def Aar:E amb:=en 192 [Jb] [Aq] (Am Mv) Tryz.func192 [Aoe,Ga] [B5 0 8 7 []] (hx:=λa=>Eq.trans (b:=Be4 a.1) (by kernel_rfl) (show _=Mv a.1 by simp only[Axj,Axk,Mv,Be5,Be6,Be4,C2,Cq,D8,Cj,cond_false,Cm,Cy,Df,Dg]<;>rfl))
def Aw6 (h:DHub) (a:Nat) (b:DDoc):Option (Lr Unit (Sum Unit Unit)):=
 B5h (Ke b) λd=>B5h (bif !d then(some true)else(B5h (bif decide ((0:Int)<(a:Int))then(xg (Ae ((a:Int)-1))<|xg (0<=((a:Int)-1)/\((a:Int)-1)<(h.docs.length:Int))<|some (!Bv ((el h.docs (((a:Int)-1).toNat)).name) (b.name)))else(some false)) λe=>some e)) λc=>bif c then(some (Lr.out (B6e (()))))else(some (Lr.go ()))
def Aw8 (h:DHub) (a:Nat) (_:Unit):Option (Lr Unit (Sum Unit Unit)):=Aw6 h a (el h.docs a)
def Aw7 (h:DHub) (b:Nat) (a:DSub):Option (Lr Unit (Sum Unit Bool)):=
 B5h (H6 h (a.doc)) λc=>B5h (Bt (a.id) 1 h.last) λi=>B5h (bif !i then(some true)else(B5h (Mv (a.r)) λg=>some (!g))) λk=>B5h (bif k then(some true)else(some (decide (c<0)))) λe=>B5h (bif e then(some true)else(B5h (bif decide ((0:Int)<(b:Int))then(xg (Ae ((b:Int)-1))<|xg (0<=((b:Int)-1)/\((b:Int)-1)<(h.subs.length:Int))<|some (decide ((a.id)<=((el h.subs (((b:Int)-1).toNat)).id))))else(some false)) λf=>some f)) λl=>bif l then(some (Lr.out (B6e (false))))else(B5h (bif !(a.r.out)then(xg (Ae ((a.r.next)+((a.r.list).length:Int)))<|xg (0<=c/\c<(h.docs.length:Int))<|B5h (E6 (el h.docs c.toNat)) λd=>xg (Ae (d+1))<|some (!decide (((a.r.next)+((a.r.list).length:Int))=(d+1))))else(some false)) λj=>bif j then(some (Lr.out (B6e (false))))else(some (Lr.go ())))
def Aw9 (h:DHub) (a:Nat) (_:Unit):Option (Lr Unit (Sum Unit Bool)):=Aw7 h a (el h.subs a)
def Iw (h:DHub):Option Bool:=
 B5h (bif decide ((5:Int)<(h.docs.length:Int))then(some true)else(some (decide ((6:Int)<(h.subs.length:Int))))) λd=>B5h (bif d then(some true)else(B5h (Bt h.last 0 1000000000) λf=>some (!f))) λb=>bif b then(some false)else(B5h (Ai (Aw8 h) (λ_=>(.inl ())) h.docs.length 0 ()) λc=>B59 (λ_=>B5h (Ai (Aw9 h) (λ_=>(.inl ())) h.subs.length 0 ()) λa=>B59 (λ_=>some true) (λe=>some e) a) (λ_=>some false) c)
def Ber (h:DHub) (a:Nat) (b:DDoc):Option (Lr Unit (Sum Unit Bool)):=
 B5h (Ke b) λc=>B5h (bif !c then(some true)else(B5h (bif decide ((0:Int)<(a:Int))then(xg (Ae ((a:Int)-1))<|xg (0<=((a:Int)-1)/\((a:Int)-1)<(h.docs.length:Int))<|some (!Bv ((el h.docs (((a:Int)-1).toNat)).name) (b.name)))else(some false)) λd=>some d)) λe=>bif e then(some (Lr.out (B6e false)))else(some (Lr.go ()))
def Bet (h:DHub) (a:Nat) (_:Unit):Option (Lr Unit (Sum Unit Bool)):=Ber h a (el h.docs a)
def Bes (h:DHub) (b:Nat) (a:DSub):Option (Lr Unit (Sum Unit Bool)):=
 B5h (H6 h (a.doc)) λc=>B5h (Bt (a.id) 1 h.last) λf=>B5h (bif !f then(some true)else(B5h (Mv (a.r)) λg=>some (!g))) λi=>B5h (bif i then(some true)else(some (decide (c<0)))) λk=>B5h (bif k then(some true)else(B5h (bif decide ((0:Int)<(b:Int))then(xg (Ae ((b:Int)-1))<|xg (0<=((b:Int)-1)/\((b:Int)-1)<(h.subs.length:Int))<|some (decide ((a.id)<=((el h.subs (((b:Int)-1).toNat)).id))))else(some false)) λj=>some j)) λe=>bif e then(some (Lr.out (B6e false)))else(B5h (bif !(a.r.out)then(xg (Ae ((a.r.next)+((a.r.list).length:Int)))<|xg (0<=c/\c<(h.docs.length:Int))<|B5h (E6 (el h.docs c.toNat)) λd=>xg (Ae (d+1))<|some (!decide (((a.r.next)+((a.r.list).length:Int))=(d+1))))else(some false)) λl=>bif l then(some (Lr.out (B6e false)))else(some (Lr.go ())))
def Beu (h:DHub) (a:Nat) (_:Unit):Option (Lr Unit (Sum Unit Bool)):=Bes h a (el h.subs a)
def Beq (h:DHub):Option Bool:=
 B5h (bif decide ((5:Int)<(h.docs.length:Int))then(some true)else(some (decide ((6:Int)<(h.subs.length:Int))))) λa=>B5h (bif a then(some true)else(B5h (Bt h.last 0 1000000000) λe=>some (!e))) λf=>bif f then(some false)else(B5h (Ai (Bet h) (λ_=>(.inl ())) h.docs.length 0 ()) λb=>B59 (λ_=>B5h (Ai (Beu h) (λ_=>(.inl ())) h.subs.length 0 ()) λd=>B59 (λ_=>some true) (λc=>some c) d) (λg=>some g) b)
def Q6:E amb:=en 127 [D5] [Aq] (Am Iw) Tryz.func127 [Tv,Kn,Q5,Aar,Ga] [B5 0 27 26 [],B5 2 55 54 []] (hx:=λa=>Eq.trans (b:=Beq a.1) (by kernel_rfl) (show _=Iw a.1 by simp only[Aw6,Aw8,Aw7,Aw9,Iw,Ber,Bet,Bes,Beu,Beq,C2,Cq,D1,D8,Cj,cond_true,cond_false,Cm,Cy,Df,Dg]<;>rfl))
def Ax4 (n:Int) (l:List Int) (_:Nat) (a:Int):Option (Lr Unit (Sum Unit Bool)):=
 bif decide (a=n)then(some (Lr.out (B6e (true))))else(some (Lr.go ()))
def Amw (n:Int) (l:List Int) (a:Nat) (_:Unit):Option (Lr Unit (Sum Unit Bool)):=Ax4 n l a (el l a)
def O3 (l:List Int) (n:Int):Option Bool:=
 B5h (Ai (Amw n l) (λ_=>(.inl ())) l.length 0 ()) λa=>B59 (λ_=>some false) (λb=>some b) a
def Bfy (n:Int) (l:List Int) (_:Nat) (a:Int):Option (Lr Unit (Sum Unit Bool)):=
 bif decide (a=n)then(some (Lr.out (B6e true)))else(some (Lr.go ()))
def Bfz (n:Int) (l:List Int) (a:Nat) (_:Unit):Option (Lr Unit (Sum Unit Bool)):=Bfy n l a (el l a)
def Bfx (l:List Int) (n:Int):Option Bool:=
 B5h (Ai (Bfz n l) (λ_=>(.inl ())) l.length 0 ()) λb=>B59 (λ_=>some false) (λa=>some a) b
def A1c:E amb:=en 194 [D4,Ap] [Aq] (Ak O3) Tryz.func194 [] [B5 0 9 8 []] (hx:=λa=>Eq.trans (b:=Bfx a.1 a.2.1) (by kernel_rfl) (show _=O3 a.1 a.2.1 by simp only[Ax4,Amw,O3,Bfy,Bfz,Bfx,C2,Cq,Cj,Cm,Cy,Df,Dg]<;>rfl))
def Bbr (d:DWorld) (_:Nat) (_:Nat) (a:Int) (b:List Int):Option (Lr (List Int) (Sum (List Int) Bool)):=
 bif decide (a=(-1))then(some (Lr.go b))else(B5h (bif decide (d.step<=a)then(some true)else(B5h (O3 b a) λc=>some c)) λe=>bif e then(some (Lr.out (B6e false)))else(xg (b.length<1099511627776)<|some (Lr.go (b++[a]))))
def Aye (b:DWorld) (a:Nat) (c:Nat) (d:List Int):Option (Lr (List Int) (Sum (List Int) Bool)):=Bbr b a c (el [(el b.tasks a).inv,(el b.tasks a).lin,(el b.tasks a).res] c) d
def Bbq (c:DWorld) (e:Nat) (a:DTask) (h:List Int):Option (Lr (List Int) (Sum (List Int) Bool)):=
 B5h (Ai (Aye c e) (λf=>(.inl f)) [a.inv,a.lin,a.res].length 0 h) λg=>B59 (λb=>some (Lr.go b)) (λd=>some (Lr.out (B6e d))) g
def Ayd (b:DWorld) (a:Nat) (c:List Int):Option (Lr (List Int) (Sum (List Int) Bool)):=Bbq b a (el b.tasks a) c
def Ae0 (a:DWorld):Option Bool:=
 B5h (Ai (Ayd a) (λc=>(.inl c)) a.tasks.length 0 []) λd=>B59 (λ_=>some true) (λb=>some b) d
def Bmw:E amb:=en 128 [Eh] [Aq] (Am Ae0) Tryz.func128 [A1c] [B5 2 24 23 [C1 3 0],B5 0 12 11 [C1 3 0]]
def Baz (s:ByteArray) (b:Int) (a:Int):Option (Lr (Int×Int) Int):=
 bif decide (a<(s.size:Int))then(xg (0<=a/\a<(s.size:Int))<|xg (Ae ((Gt b ((Bz s a.toNat).toNat:Int))*16777619))<|xg (0<=((Gt b ((Bz s a.toNat).toNat:Int))*16777619)/\0<(4294967296:Int))<|xg (Ae (a+1))<|some (Lr.go (((Gt b ((Bz s a.toNat).toNat:Int))*16777619) % 4294967296,a+1)))else(some (Lr.out b))
def Ba0 (s:ByteArray) (a:Int×Int):Option (Lr (Int×Int) Int):=Baz s a.1 a.2
def Aea (s:ByteArray):Option Int:=
 B5h (Bc (Ba0 s) (2166136261,0)) λa=>some a
def Bel (s:ByteArray) (b:Int) (a:Int):Option (Lr (Int×Int) (Int×Int)):=
 bif decide (a<(s.size:Int))then(xg (0<=a/\a<(s.size:Int))<|xg (Ae ((Gt b ((Bz s a.toNat).toNat:Int))*16777619))<|xg (0<=((Gt b ((Bz s a.toNat).toNat:Int))*16777619)/\0<(4294967296:Int))<|xg (Ae (a+1))<|some (Lr.go (((Gt b ((Bz s a.toNat).toNat:Int))*16777619) % 4294967296,a+1)))else(some (Lr.out (b,a)))
def Bem (s:ByteArray) (a:Int×Int):Option (Lr (Int×Int) (Int×Int)):=Bel s a.1 a.2
def Bek (s:ByteArray):Option Int:=
 B5h (Bc (Bem s) (2166136261,0)) λa=>some a.1
def Bly:E amb:=en 138 [Cp] [A0] (Am Aea) Tryz.func138 [] [Ca 0 [Ax 3,Ax 4]] (hx:=λa=>Eq.trans (b:=Bek a.1) (by kernel_rfl) (show _=Aea a.1 by simp only[Baz,Ba0,Aea,Bel,Bem,Bek,Rh,Cq,D1,Cj,Cm,Cy]<;>rfl))
def Qn (b:ByteArray) (n:Int):Option Int:=
 bif decide (n<1)then(some 0)else(B5h (Aea b) λa=>xg (0<=a/\0<n)<|some (a % n))
def Aoj:E amb:=en 75 [Cp,Ap] [A0] (Ak Qn) Tryz.func75 [Bly]
def Ax5 (b:DWorld) (h:Nat) (a:Int):Option (Lr Unit (Sum Unit Unit)):=
 bif decide (a=(-1))then(some (Lr.go ()))else(xg (Ae ((b.tasks.length:Int)-1))<|B5h (Bt a 0 ((b.tasks.length:Int)-1)) λg=>B5h (bif !g then(some true)else(xg (0<=a/\a<(b.tasks.length:Int))<|some (!decide (((el b.tasks (a.toNat)).pc)=1)))) λe=>B5h (bif e then(some true)else(xg (0<=a/\a<(b.tasks.length:Int))<|B5h (Qn ((el b.tasks (a.toNat)).c.doc) (b.locks.length:Int)) λf=>some (!decide (f=(h:Int))))) λd=>bif d then(some (Lr.out (B6e (()))))else(some (Lr.go ())))
def Ax7 (b:DWorld) (a:Nat) (_:Unit):Option (Lr Unit (Sum Unit Unit)):=Ax5 b a (el b.locks a)
def Ax6 (a:DWorld) (e:Nat) (d:DTask):Option (Lr Unit (Sum Unit Bool)):=
 B5h (bif decide ((d.pc)=1)then(B5h (Qn (d.c.doc) (a.locks.length:Int)) λb=>xg (0<=b/\b<(a.locks.length:Int))<|some (!decide ((el a.locks b.toNat)=(e:Int))))else(some false)) λf=>bif f then(some (Lr.out (B6e (false))))else(some (Lr.go ()))
def Ax8 (b:DWorld) (a:Nat) (_:Unit):Option (Lr Unit (Sum Unit Bool)):=Ax6 b a (el b.tasks a)
def Wj (a:DWorld):Option Bool:=
 B5h (Ai (Ax7 a) (λ_=>(.inl ())) a.locks.length 0 ()) λc=>B59 (λ_=>B5h (Ai (Ax8 a) (λ_=>(.inl ())) a.tasks.length 0 ()) λb=>B59 (λ_=>some true) (λd=>some d) b) (λ_=>some false) c
def Bf1 (b:DWorld) (f:Nat) (a:Int):Option (Lr Unit (Sum Unit Bool)):=
 bif decide (a=(-1))then(some (Lr.go ()))else(xg (Ae ((b.tasks.length:Int)-1))<|B5h (Bt a 0 ((b.tasks.length:Int)-1)) λe=>B5h (bif !e then(some true)else(xg (0<=a/\a<(b.tasks.length:Int))<|some (!decide (((el b.tasks (a.toNat)).pc)=1)))) λg=>B5h (bif g then(some true)else(xg (0<=a/\a<(b.tasks.length:Int))<|B5h (Qn ((el b.tasks (a.toNat)).c.doc) (b.locks.length:Int)) λh=>some (!decide (h=(f:Int))))) λd=>bif d then(some (Lr.out (B6e false)))else(some (Lr.go ())))
def Bf3 (a:DWorld) (b:Nat) (_:Unit):Option (Lr Unit (Sum Unit Bool)):=Bf1 a b (el a.locks b)
def Bf2 (a:DWorld) (f:Nat) (d:DTask):Option (Lr Unit (Sum Unit Bool)):=
 B5h (bif decide ((d.pc)=1)then(B5h (Qn (d.c.doc) (a.locks.length:Int)) λb=>xg (0<=b/\b<(a.locks.length:Int))<|some (!decide ((el a.locks b.toNat)=(f:Int))))else(some false)) λe=>bif e then(some (Lr.out (B6e false)))else(some (Lr.go ()))
def Bf4 (a:DWorld) (b:Nat) (_:Unit):Option (Lr Unit (Sum Unit Bool)):=Bf2 a b (el a.tasks b)
def Bf0 (a:DWorld):Option Bool:=
 B5h (Ai (Bf3 a) (λ_=>(.inl ())) a.locks.length 0 ()) λd=>B59 (λ_=>B5h (Ai (Bf4 a) (λ_=>(.inl ())) a.tasks.length 0 ()) λc=>B59 (λ_=>some true) (λe=>some e) c) (λb=>some b) d
def Bmu:E amb:=en 129 [Eh] [Aq] (Am Wj) Tryz.func129 [Aoj,Ga] [B5 0 10 9 [],B5 2 52 51 []] (hx:=λa=>Eq.trans (b:=Bf0 a.1) (by kernel_rfl) (show _=Wj a.1 by simp only[Ax5,Ax7,Ax6,Ax8,Wj,Bf1,Bf3,Bf2,Bf4,Bf0,C2,Cq,D1,D8,Cj,cond_true,cond_false,Cm,Cy,Df,Dg]<;>rfl))
def Aya (b:DWorld) (i:Nat) (_:Nat) (a:Int) (d:List Int):Option (Lr (List Int) (Sum (List Int) Bool)):=
 xg (Ae ((b.tasks.length:Int)-1))<|B5h (Bt a 0 ((b.tasks.length:Int)-1)) λj=>B5h (bif !j then(some true)else(xg (0<=a/\a<(b.tasks.length:Int))<|some (!decide (((el b.tasks (a.toNat)).pc)=2)))) λh=>B5h (bif h then(some true)else(xg (0<=a/\a<(b.tasks.length:Int))<|some (!decide ((el b.tasks (a.toNat)).c.doc=(el b.queues i).doc)))) λg=>B5h (bif g then(some true)else(B5h (O3 d a) λf=>some f)) λe=>bif e then(some (Lr.out (B6e (false))))else(xg (d.length<1099511627776)<|some (Lr.go (d++[a])))
def Amy (a:DWorld) (b:Nat) (c:Nat) (d:List Int):Option (Lr (List Int) (Sum (List Int) Bool)):=Aya a b c (el ((el a.queues b).list) c) d
def Ax9 (b:DWorld) (a:Nat) (c:DQueue) (n:List Int):Option (Lr (List Int) (Sum (List Int) Bool)):=
 B5h (bif decide ((0:Int)<(a:Int))then(xg (Ae ((a:Int)-1))<|xg (0<=((a:Int)-1)/\((a:Int)-1)<(b.queues.length:Int))<|some (!Bv ((el b.queues (((a:Int)-1).toNat)).doc) (c.doc)))else(some false)) λk=>B5h (bif k then(some true)else(B5h (Bt ((c.list).length:Int) 1 2) λd=>some (!d))) λe=>B5h (bif e then(some true)else(B5h (H6 b.h (c.doc)) λi=>some (decide (i<0)))) λm=>bif m then(some (Lr.out (B6e (false))))else(B5h (Ai (Amy b a) (λj=>(.inl j)) (c.list).length 0 n) λg=>B59 (λl=>some (Lr.go l)) (λf=>some (Lr.out (B6e (f)))) g)
def Amx (a:DWorld) (b:Nat) (c:List Int):Option (Lr (List Int) (Sum (List Int) Bool)):=Ax9 a b (el a.queues b) c
def Ayb (b:List Int) (_:DWorld) (a:Nat) (c:DTask):Option (Lr Unit (Sum Unit Bool)):=
 B5h (bif decide ((c.pc)=2)then(B5h (O3 b (a:Int)) λd=>some (!d))else(some false)) λe=>bif e then(some (Lr.out (B6e (false))))else(some (Lr.go ()))
def Ayc (c:List Int) (a:DWorld) (b:Nat) (_:Unit):Option (Lr Unit (Sum Unit Bool)):=Ayb c a b (el a.tasks b)
def Wk (a:DWorld):Option Bool:=
 B5h (Ai (Amx a) (λf=>(.inl f)) a.queues.length 0 []) λc=>B59 (λe=>B5h (Ai (Ayc e a) (λ_=>(.inl ())) a.tasks.length 0 ()) λb=>B59 (λ_=>some true) (λd=>some d) b) (λg=>some g) c
def Bf7 (b:DWorld) (e:Nat) (_:Nat) (a:Int) (d:List Int):Option (Lr (List Int) (Sum (List Int) Bool)):=
 xg (Ae ((b.tasks.length:Int)-1))<|B5h (Bt a 0 ((b.tasks.length:Int)-1)) λf=>B5h (bif !f then(some true)else(xg (0<=a/\a<(b.tasks.length:Int))<|some (!decide (((el b.tasks (a.toNat)).pc)=2)))) λj=>B5h (bif j then(some true)else(xg (0<=a/\a<(b.tasks.length:Int))<|some (!decide ((el b.tasks (a.toNat)).c.doc=(el b.queues e).doc)))) λi=>B5h (bif i then(some true)else(B5h (O3 d a) λh=>some h)) λg=>bif g then(some (Lr.out (B6e false)))else(xg (d.length<1099511627776)<|some (Lr.go (d++[a])))
def Bga (a:DWorld) (b:Nat) (c:Nat) (d:List Int):Option (Lr (List Int) (Sum (List Int) Bool)):=Bf7 a b c (el ((el a.queues b).list) c) d
def Bf6 (b:DWorld) (a:Nat) (c:DQueue) (g:List Int):Option (Lr (List Int) (Sum (List Int) Bool)):=
 B5h (bif decide ((0:Int)<(a:Int))then(xg (Ae ((a:Int)-1))<|xg (0<=((a:Int)-1)/\((a:Int)-1)<(b.queues.length:Int))<|some (!Bv ((el b.queues (((a:Int)-1).toNat)).doc) (c.doc)))else(some false)) λn=>B5h (bif n then(some true)else(B5h (Bt ((c.list).length:Int) 1 2) λj=>some (!j))) λk=>B5h (bif k then(some true)else(B5h (H6 b.h (c.doc)) λd=>some (decide (d<0)))) λm=>bif m then(some (Lr.out (B6e false)))else(B5h (Ai (Bga b a) (λl=>(.inl l)) (c.list).length 0 g) λi=>B59 (λe=>some (Lr.go e)) (λf=>some (Lr.out (B6e f))) i)
def Bf9 (a:DWorld) (b:Nat) (c:List Int):Option (Lr (List Int) (Sum (List Int) Bool)):=Bf6 a b (el a.queues b) c
def Bf8 (a:List Int) (_:DWorld) (b:Nat) (c:DTask):Option (Lr Unit (Sum Unit Bool)):=
 B5h (bif decide ((c.pc)=2)then(B5h (O3 a (b:Int)) λe=>some (!e))else(some false)) λd=>bif d then(some (Lr.out (B6e false)))else(some (Lr.go ()))
def Bgb (c:List Int) (b:DWorld) (a:Nat) (_:Unit):Option (Lr Unit (Sum Unit Bool)):=Bf8 c b a (el b.tasks a)
def Bf5 (a:DWorld):Option Bool:=
 B5h (Ai (Bf9 a) (λe=>(.inl e)) a.queues.length 0 []) λf=>B59 (λb=>B5h (Ai (Bgb b a) (λ_=>(.inl ())) a.tasks.length 0 ()) λd=>B59 (λ_=>some true) (λc=>some c) d) (λg=>some g) f
def Bmv:E amb:=en 130 [Eh] [Aq] (Am Wk) Tryz.func130 [Q5,Ga,A1c] [B5 2 51 50 [C1 3 0],B5 0 14 13 [C1 3 0],B5 4 97 96 []] (hx:=λa=>Eq.trans (b:=Bf5 a.1) (by kernel_rfl) (show _=Wk a.1 by simp only[Aya,Amy,Ax9,Amx,Ayb,Ayc,Wk,Bf7,Bga,Bf6,Bf9,Bf8,Bgb,Bf5,C2,Cq,D1,D8,Cj,cond_true,cond_false,Cm,Cy,Df,Dg]<;>rfl))
def Axu (_:DWorld) (_:Nat) (a:DTask):Option (Lr Unit (Sum Unit Unit)):=
 B5h (Aek a) λb=>bif !b then(some (Lr.out (B6e (()))))else(some (Lr.go ()))
def Axv (b:DWorld) (a:Nat) (_:Unit):Option (Lr Unit (Sum Unit Unit)):=Axu b a (el b.tasks a)
def S8 (a:DWorld):Option Bool:=
 B5h (Ai (Axv a) (λ_=>(.inl ())) a.tasks.length 0 ()) λd=>B59 (λ_=>B5h (Iw a.h) λm=>B5h (bif m then(B5h (Bt (a.locks.length:Int) 1 4) λc=>some c)else(some false)) λf=>B5h (bif f then(some (decide ((a.tasks.length:Int)<=10)))else(some false)) λg=>B5h (bif g then(B5h (Bt a.step 0 1000000) λk=>some k)else(some false)) λb=>B5h (bif b then(B5h (Ae0 a) λn=>some n)else(some false)) λi=>B5h (bif i then(B5h (Wj a) λe=>some e)else(some false)) λl=>B5h (bif l then(B5h (Wk a) λo=>some o)else(some false)) λj=>some j) (λ_=>some false) d
def Bfk (_:DWorld) (_:Nat) (a:DTask):Option (Lr Unit (Sum Unit Bool)):=
 B5h (Aek a) λb=>bif !b then(some (Lr.out (B6e false)))else(some (Lr.go ()))
def Bfl (b:DWorld) (a:Nat) (_:Unit):Option (Lr Unit (Sum Unit Bool)):=Bfk b a (el b.tasks a)
def Bfj (a:DWorld):Option Bool:=
 B5h (Ai (Bfl a) (λ_=>(.inl ())) a.tasks.length 0 ()) λb=>B59 (λ_=>B5h (Iw a.h) λj=>B5h (bif j then(B5h (Bt (a.locks.length:Int) 1 4) λk=>some k)else(some false)) λf=>B5h (bif f then(some (decide ((a.tasks.length:Int)<=10)))else(some false)) λl=>B5h (bif l then(B5h (Bt a.step 0 1000000) λc=>some c)else(some false)) λn=>B5h (bif n then(B5h (Ae0 a) λm=>some m)else(some false)) λo=>B5h (bif o then(B5h (Wj a) λd=>some d)else(some false)) λg=>B5h (bif g then(B5h (Wk a) λe=>some e)else(some false)) λi=>some i) (λp=>some p) b
def Aol:E amb:=en 66 [Eh] [Aq] (Am S8) Tryz.func66 [Q6,Bmh,Ga,Bmu,Bmv,Bmw] [B5 0 8 7 []] (hx:=λa=>Eq.trans (b:=Bfj a.1) (by kernel_rfl) (show _=S8 a.1 by simp only[Axu,Axv,S8,Bfk,Bfl,Bfj,C2,Cq,D8,Cj,cond_false,Cm,Cy,Df,Dg]<;>rfl))
def Al9 (a:DWorld) (c:DCall):Option (DWorld×Bool):=
 B5h (S8 a) λj=>B5h (bif !j then(some true)else(B5h (Wb c) λg=>some (!g))) λf=>B5h (bif f then(some true)else(some (decide ((a.tasks.length:Int)=10)))) λe=>B5h (bif e then(some true)else(some (decide (a.step=1000000)))) λi=>bif i then(some ((⟨(⟨false,[],[],0⟩:DHub),[],[],[],0⟩:DWorld),false))else(B5h (Kg a) λb=>B5h (Aex c) λd=>xg (b.tasks.length+[(⟨d,0,a.step,-1,-1,(⟨0,0,[],[]⟩:DAnswer)⟩:DTask)].length<=549755813888)<|xg (Ae (a.step+1))<|some ((⟨b.h,b.locks,b.queues,b.tasks++[(⟨d,0,a.step,-1,-1,(⟨0,0,[],[]⟩:DAnswer)⟩:DTask)],a.step+1⟩:DWorld),true))
def Blt:E amb:=en 25 [Eh,Gk] [J5,Aq] (Ak Al9) Tryz.func25 [Af4,Aol,A1a,Aat]
def Bbu (c:ByteArray) (_:DWorld) (a:Nat) (b:DQueue):Option (Lr Unit (Sum Unit Int)):=
 bif decide (b.doc=c)then(some (Lr.out (B6e (a:Int))))else(some (Lr.go ()))
def Bbv (c:ByteArray) (b:DWorld) (a:Nat) (_:Unit):Option (Lr Unit (Sum Unit Int)):=Bbu c b a (el b.queues a)
def Zu (a:DWorld) (b:ByteArray):Option Int:=
 B5h (Ai (Bbv b a) (λ_=>(.inl ())) a.queues.length 0 ()) λd=>B59 (λ_=>some (-1)) (λc=>some c) d
def Aoq:E amb:=en 69 [Eh,Cp] [A0] (Ak Zu) Tryz.func69 [] [B5 0 10 9 []]
def Zj (a:ByteArray) (t:List Int):Option (DDoc×Bool):=
 xg (0+t.length<=1099511627776)<|B5h (Ke (⟨a,0,[]++t,[],[]⟩:DDoc)) λb=>bif !b then(some ((⟨B52,0,[],[],[]⟩:DDoc),false))else(some ((⟨a,0,[]++t,[],[]⟩:DDoc),true))
def Blv:E amb:=en 252 [Cp,D4] [U5,Aq] (Ak Zj) Tryz.func252 [Tv]
def Ba1 (b:DHub) (d:ByteArray) (a:Int):Option (Lr Int Int):=
 B5h (bif decide (a<(b.docs.length:Int))then(xg (0<=a/\a<(b.docs.length:Int))<|some (Bv ((el b.docs a.toNat).name) d))else(some false)) λc=>bif c then(xg (Ae (a+1))<|some (Lr.go (a+1)))else(some (Lr.out a))
def Ba2 (a:DHub) (c:ByteArray) (b:Int):Option (Lr Int Int):=Ba1 a c b
def Amd (h:DHub) (c:ByteArray) (t:List Int):Option (DHub×Int):=
 B5h (Zj c t) λd=>B5h (Iw h) λg=>B5h (bif !g then(some true)else(some (!d.2))) λe=>bif e then(some ((⟨false,[],[],0⟩:DHub),1))else(bif h.shut then(some ((⟨false,[],[],0⟩:DHub),12))else(B5h (H6 h c) λf=>bif decide ((0:Int)<=f)then(some ((⟨false,[],[],0⟩:DHub),7))else(bif decide ((h.docs.length:Int)=5)then(some ((⟨false,[],[],0⟩:DHub),10))else(B5h (El h) λa=>B5h (Bc (Ba2 a c) 0) λb=>xg (0<=b/\b<=(a.docs.length:Int))<|xg (0+b.toNat<=1099511627776)<|xg (([]++a.docs.take b.toNat).length<1099511627776)<|xg ((b.toNat:Int)<=b/\b<=(a.docs.length:Int))<|xg ((([]++a.docs.take b.toNat)++[d.1]).length+((a.docs.take a.docs.length).drop b.toNat).length<=1099511627776)<|some ((⟨a.shut,(([]++a.docs.take b.toNat)++[d.1])++((a.docs.take a.docs.length).drop b.toNat),a.subs,a.last⟩:DHub),0)))))
def Blz:E amb:=en 196 [D5,Cp,D4] [Hk,A0] (H4 Amd) Tryz.func196 [Blv,Q5,Q6,Q7] [Ca 1 [Ax 11]] (mv:=true)
def Amo (b:Int) (d:DDoc) (_:Nat) (a:DSeen):Option (Lr Unit (Sum Unit (Bool×Int×Int×Int))):=
 bif decide ((a.client)=b)then(some (Lr.out (B6e ((true,a.client,a.seq,a.rev)))))else(some (Lr.go ()))
def Aej (b:Int) (d:DDoc) (a:Nat) (_:Unit):Option (Lr Unit (Sum Unit (Bool×Int×Int×Int))):=Amo b d a (el d.seen a)
def S7 (d:DDoc) (c:Int):Option (DSeen×Bool):=
 B5h (Ai (Aej c d) (λ_=>(.inl ())) d.seen.length 0 ()) λb=>B59 (λ_=>some ((⟨0,0,0⟩:DSeen),false)) (λa=>some ((⟨a.2.1,a.2.2.1,a.2.2.2⟩:DSeen),a.1)) b
def Be8 (b:Int) (d:DDoc) (_:Nat) (a:DSeen):Option (Lr Unit (Sum Unit (DSeen×Bool))):=
 bif decide ((a.client)=b)then(some (Lr.out (B6e (a,true))))else(some (Lr.go ()))
def Be9 (b:Int) (d:DDoc) (a:Nat) (_:Unit):Option (Lr Unit (Sum Unit (DSeen×Bool))):=Be8 b d a (el d.seen a)
def Be7 (d:DDoc) (a:Int):Option (DSeen×Bool):=
 B5h (Ai (Be9 a d) (λ_=>(.inl ())) d.seen.length 0 ()) λc=>B59 (λ_=>some ((⟨0,0,0⟩:DSeen),false)) (λb=>some b) c
def Bme:E amb:=en 308 [Ep,Ap] [Asm,Aq] (Ak S7) Tryz.func308 [] [B5 0 11 10 []] (hx:=λa=>Eq.trans (b:=Be7 a.1 a.2.1) (by kernel_rfl) (show _=S7 a.1 a.2.1 by simp only[Amo,Aej,S7,Be8,Be9,Be7,C2,Cq,Cj,Cm,Cy,Df,Dg]<;>rfl))
def Bbd (d:DDoc) (_:Int) (_:Nat) (b:DEntry) (c:List Int):Option (Lr (List Int) (List Int)):=
 B5h (Kd (b.o) c) λa=>some (Lr.go a.1)
def Axq (d:DDoc) (a:Int) (b:Nat) (c:List Int):Option (Lr (List Int) (List Int)):=Bbd d a b (el ((d.list.take ((a-d.from_).toNat)).drop 0) b) c
def Ael (d:DDoc) (a:Int):Option (List Int×Bool):=
 B5h (Ke d) λc=>B5h (bif !c then(some true)else(B5h (E6 d) λf=>B5h (Bt a d.from_ f) λe=>some (!e))) λg=>bif g then(some ([],false))else(xg (0+d.text.length<=1099511627776)<|xg (Ae (a-d.from_))<|xg (0<=(a-d.from_)/\(a-d.from_)<=(d.list.length:Int))<|B5h (Ai (Axq d a) (λh=>h) ((d.list.take ((a-d.from_).toNat)).drop 0).length 0 ([]++d.text)) λb=>some (b,true))
def A0y:E amb:=en 310 [Ep,Ap] [Jd,Aq] (Ak Ael) Tryz.func310 [Af3,Tv,Kn,Ga] [Da 0 33 32 [C1 6 0]]
def Ba9 (d:DDoc) (_:Int) (_:Nat) (c:DEntry) (a:List (List DPart)):Option (Lr (List (List DPart)) (List (List DPart))):=
 B5h (Zq (c.o)) λb=>xg (a.length<1099511627776)<|some (Lr.go (a++[b]))
def Axh (d:DDoc) (a:Int) (b:Nat) (c:List (List DPart)):Option (Lr (List (List DPart)) (List (List DPart))):=Ba9 d a b (el ((d.list.take d.list.length).drop ((a-d.from_).toNat)) b) c
def Amh (d:DDoc) (a:Int):Option (List (List DPart)×Bool):=
 B5h (Ke d) λb=>B5h (bif !b then(some true)else(B5h (E6 d) λf=>B5h (Bt a d.from_ f) λe=>some (!e))) λg=>bif g then(some ([],false))else(xg (Ae (a-d.from_))<|xg (0<=(a-d.from_)/\(a-d.from_)<=(d.list.length:Int))<|B5h (Ai (Axh d a) (λc=>c) ((d.list.take d.list.length).drop ((a-d.from_).toNat)).length 0 []) λh=>some (h,true))
def Bl6:E amb:=en 337 [Ep,Ap] [Ab7,Aq] (Ak Amh) Tryz.func337 [Tv,Kn,Ga,Aom] [Da 0 30 29 [.slot 6 (.row (.sl (.b 4)))]]
def Aet (p:DPart):Option Int:=
 bif decide (p.kind=2)then(some (p.signs.length:Int))else(some p.n)
def A07:E amb:=en 375 [N4] [A0] (Am Aet) Tryz.func375
def Ax0 (b:List DPart) (a:Int) (c:Int):Option (Lr (List DPart×Int×Int) (List DPart×Int×Int)):=
 B5h (bif decide (a<(b.length:Int))then(xg (0<=a/\a<(b.length:Int))<|B5h (Aet (el b a.toNat)) λe=>some (decide (c=e)))else(some false)) λd=>bif d then(xg (Ae (a+1))<|some (Lr.go (b,a+1,0)))else(some (Lr.out (b,a,c)))
def Aes (a:List DPart×Int×Int):Option (Lr (List DPart×Int×Int) (List DPart×Int×Int)):=Ax0 a.1 a.2.1 a.2.2
def Fk (c:DL04Cur):Option (Int×DL04Cur):=
 B5h (Bc (Aes) (c.o,c.at_,c.done)) λa=>bif decide (a.2.1=(a.1.length:Int))then(some (0,(⟨a.1,a.2.1,a.2.2⟩:DL04Cur)))else(xg (0<=a.2.1/\a.2.1<(a.1.length:Int))<|some ((el a.1 a.2.1.toNat).kind,(⟨a.1,a.2.1,a.2.2⟩:DL04Cur)))
def Bmm:E amb:=en 368 [Ar1] [A0] (Am Fk) Tryz.func368 [A07] [Ca 0 [.box 0 0 [.ro (.b 4),.sc 0,.sc 0]]]
def Ix (c:DL04Cur):Option (Int×DL04Cur):=
 xg (0<=c.at_/\c.at_<(c.o.length:Int))<|B5h (Aet (el c.o c.at_.toNat)) λa=>xg (Ae (a-c.done))<|some (a-c.done,c)
def Bmn:E amb:=en 369 [Ar1] [A0] (Am Ix) Tryz.func369 [A07]
def Qp (c:DL04Cur) (n:Int):Option (List Int×DL04Cur):=
 xg (0<=c.at_/\c.at_<(c.o.length:Int))<|xg (Ae (c.done+n))<|xg (0<=c.done/\c.done<=(c.done+n)/\(c.done+n)<=(((el c.o c.at_.toNat).signs).length:Int))<|xg (Ae (c.done+n))<|some ((((el c.o c.at_.toNat).signs).take ((c.done+n).toNat)).drop c.done.toNat,(⟨c.o,c.at_,c.done+n⟩:DL04Cur))
def Bmp:E amb:=en 370 [Ar1,Ap] [⟨false,.sl (.b 0),false⟩] (Ak Qp) Tryz.func370
def Zr (x:Int) (a:Int):Option Int:=
 bif decide (x<a)then(some x)else(some a)
def Bmo:E amb:=en 371 [Ap,Ap] [A0] (Ak Zr) Tryz.func371
def Oz (L:List DPart) (H:Int) (K:Int) (G:List DPart) (F:Int) (B:Int) (e:List DPart) (i:List Int) (h:Int) (d:List DPart) (g:List Int) (f:Int):Option (Lr (List DPart×Int×Int×List DPart×Int×Int×List DPart×List Int×Int×List DPart×List Int×Int) (List DPart×List Int×Int×List DPart×List Int×Int)):=
 B5h (Fk (⟨L,H,K⟩:DL04Cur)) λC=>B5h (bif !decide (C.1=0)then(some (true,G,F,B))else(B5h (Fk (⟨G,F,B⟩:DL04Cur)) λl=>some (!decide (l.1=0),l.2.o,l.2.at_,l.2.done))) λj=>bif j.1 then(B5h (Fk C.2) λk=>bif decide (k.1=2)then(B5h (Ix k.2) λq=>B5h (Qp q.2 q.1) λn=>B5h (O2 (⟨e,i,h⟩:DL02B) n.1) λs=>B5h (H7 (⟨d,g,f⟩:DL02B) q.1) λw=>some (Lr.go (n.2.o,n.2.at_,n.2.done,j.2.1,j.2.2.1,j.2.2.2,s.list,s.put,s.drop,w.list,w.put,w.drop)))else(B5h (Fk (⟨j.2.1,j.2.2.1,j.2.2.2⟩:DL04Cur)) λx=>bif decide (x.1=2)then(B5h (Ix x.2) λr=>B5h (Qp r.2 r.1) λm=>B5h (O2 (⟨d,g,f⟩:DL02B) m.1) λz=>B5h (H7 (⟨e,i,h⟩:DL02B) r.1) λt=>some (Lr.go (k.2.o,k.2.at_,k.2.done,m.2.o,m.2.at_,m.2.done,t.list,t.put,t.drop,z.list,z.put,z.drop)))else(B5h (Ix k.2) λA=>B5h (Ix x.2) λD=>B5h (Zr A.1 D.1) λa=>B5h (Fk A.2) λb=>B5h (Fk D.2) λc=>B5h (bif decide (b.1=1)then(some (decide (c.1=1)))else(some false)) λI=>bif I then(B5h (H7 (⟨e,i,h⟩:DL02B) a) λp=>B5h (H7 (⟨d,g,f⟩:DL02B) a) λu=>xg (Ae (b.2.done+a))<|xg (Ae (c.2.done+a))<|some (Lr.go (b.2.o,b.2.at_,b.2.done+a,c.2.o,c.2.at_,c.2.done+a,p.list,p.put,p.drop,u.list,u.put,u.drop)))else(bif decide (c.1=1)then(B5h (O1 (⟨e,i,h⟩:DL02B) a) λv=>xg (Ae (b.2.done+a))<|xg (Ae (c.2.done+a))<|some (Lr.go (b.2.o,b.2.at_,b.2.done+a,c.2.o,c.2.at_,c.2.done+a,v.list,v.put,v.drop,d,g,f)))else(bif decide (b.1=1)then(B5h (O1 (⟨d,g,f⟩:DL02B) a) λy=>xg (Ae (b.2.done+a))<|xg (Ae (c.2.done+a))<|some (Lr.go (b.2.o,b.2.at_,b.2.done+a,c.2.o,c.2.at_,c.2.done+a,e,i,h,y.list,y.put,y.drop)))else(xg (Ae (b.2.done+a))<|xg (Ae (c.2.done+a))<|some (Lr.go (b.2.o,b.2.at_,b.2.done+a,c.2.o,c.2.at_,c.2.done+a,e,i,h,d,g,f))))))))else(some (Lr.out (e,i,h,d,g,f)))
def Aen (a:List DPart×Int×Int×List DPart×Int×Int×List DPart×List Int×Int×List DPart×List Int×Int):Option (Lr (List DPart×Int×Int×List DPart×Int×Int×List DPart×List Int×Int×List DPart×List Int×Int) (List DPart×List Int×Int×List DPart×List Int×Int)):=Oz a.1 a.2.1 a.2.2.1 a.2.2.2.1 a.2.2.2.2.1 a.2.2.2.2.2.1 a.2.2.2.2.2.2.1 a.2.2.2.2.2.2.2.1 a.2.2.2.2.2.2.2.2.1 a.2.2.2.2.2.2.2.2.2.1 a.2.2.2.2.2.2.2.2.2.2.1 a.2.2.2.2.2.2.2.2.2.2.2
def Wi (a:List DPart) (b:List DPart):Option (List DPart×List DPart×Bool):=
 B5h (Gh a) λl=>B5h (bif !l then(some true)else(B5h (Gh b) λj=>some (!j))) λi=>B5h (bif i then(some true)else(B5h (Ox a) λk=>B5h (Ox b) λg=>some (!decide (k=g)))) λf=>bif f then(some ([],[],false))else(B5h (Bc (Aen) (a,0,0,b,0,0,[],[],0,[],[],0)) λc=>B5h (O0 (⟨c.1,c.2.1,c.2.2.1⟩:DL02B)) λd=>B5h (O0 (⟨c.2.2.2.1,c.2.2.2.2.1,c.2.2.2.2.2⟩:DL02B)) λe=>B5h (Gh d) λh=>B5h (bif !h then(some true)else(B5h (Gh e) λm=>some (!m))) λn=>bif n then(some ([],[],false))else(some (d,e,true)))
def Bfh (c5:List DPart) (c7:Int) (c6:Int) (F:List DPart) (w:Int) (R:Int) (h:List DPart) (g:List Int) (i:Int) (k:List DPart) (l:List Int) (j:Int):Option (Lr (List DPart×Int×Int×List DPart×Int×Int×List DPart×List Int×Int×List DPart×List Int×Int) (List DPart×Int×Int×List DPart×Int×Int×List DPart×List Int×Int×List DPart×List Int×Int)):=
 B5h (Fk (⟨c5,c7,c6⟩:DL04Cur)) λp=>bif !decide (p.1=0)then(B5h (Fk p.2) λq=>bif decide (q.1=2)then(B5h (Ix q.2) λM=>B5h (Qp M.2 M.1) λu=>B5h (O2 (⟨h,g,i⟩:DL02B) u.1) λA=>B5h (H7 (⟨k,l,j⟩:DL02B) M.1) λG=>some (Lr.go (u.2.o,u.2.at_,u.2.done,F,w,R,A.list,A.put,A.drop,G.list,G.put,G.drop)))else(B5h (Fk (⟨F,w,R⟩:DL04Cur)) λH=>bif decide (H.1=2)then(B5h (Ix H.2) λI=>B5h (Qp I.2 I.1) λs=>B5h (O2 (⟨k,l,j⟩:DL02B) s.1) λN=>B5h (H7 (⟨h,g,i⟩:DL02B) I.1) λV=>some (Lr.go (q.2.o,q.2.at_,q.2.done,s.2.o,s.2.at_,s.2.done,V.list,V.put,V.drop,N.list,N.put,N.drop)))else(B5h (Ix q.2) λc3=>B5h (Ix H.2) λW=>B5h (Zr c3.1 W.1) λb=>B5h (Fk c3.2) λd=>B5h (Fk W.2) λe=>B5h (bif decide (d.1=1)then(some (decide (e.1=1)))else(some false)) λc8=>bif c8 then(B5h (H7 (⟨h,g,i⟩:DL02B) b) λy=>B5h (H7 (⟨k,l,j⟩:DL02B) b) λv=>xg (Ae (d.2.done+b))<|xg (Ae (e.2.done+b))<|some (Lr.go (d.2.o,d.2.at_,d.2.done+b,e.2.o,e.2.at_,e.2.done+b,y.list,y.put,y.drop,v.list,v.put,v.drop)))else(bif decide (e.1=1)then(B5h (O1 (⟨h,g,i⟩:DL02B) b) λO=>xg (Ae (d.2.done+b))<|xg (Ae (e.2.done+b))<|some (Lr.go (d.2.o,d.2.at_,d.2.done+b,e.2.o,e.2.at_,e.2.done+b,O.list,O.put,O.drop,k,l,j)))else(bif decide (d.1=1)then(B5h (O1 (⟨k,l,j⟩:DL02B) b) λP=>xg (Ae (d.2.done+b))<|xg (Ae (e.2.done+b))<|some (Lr.go (d.2.o,d.2.at_,d.2.done+b,e.2.o,e.2.at_,e.2.done+b,h,g,i,P.list,P.put,P.drop)))else(xg (Ae (d.2.done+b))<|xg (Ae (e.2.done+b))<|some (Lr.go (d.2.o,d.2.at_,d.2.done+b,e.2.o,e.2.at_,e.2.done+b,h,g,i,k,l,j))))))))else(B5h (Fk (⟨F,w,R⟩:DL04Cur)) λm=>bif !decide (m.1=0)then(B5h (Fk p.2) λn=>bif decide (n.1=2)then(B5h (Ix n.2) λB=>B5h (Qp B.2 B.1) λt=>B5h (O2 (⟨h,g,i⟩:DL02B) t.1) λC=>B5h (H7 (⟨k,l,j⟩:DL02B) B.1) λD=>some (Lr.go (t.2.o,t.2.at_,t.2.done,m.2.o,m.2.at_,m.2.done,C.list,C.put,C.drop,D.list,D.put,D.drop)))else(B5h (Fk m.2) λU=>bif decide (U.1=2)then(B5h (Ix U.2) λz=>B5h (Qp z.2 z.1) λr=>B5h (O2 (⟨k,l,j⟩:DL02B) r.1) λT=>B5h (H7 (⟨h,g,i⟩:DL02B) z.1) λQ=>some (Lr.go (n.2.o,n.2.at_,n.2.done,r.2.o,r.2.at_,r.2.done,Q.list,Q.put,Q.drop,T.list,T.put,T.drop)))else(B5h (Ix n.2) λY=>B5h (Ix U.2) λX=>B5h (Zr Y.1 X.1) λa=>B5h (Fk Y.2) λf=>B5h (Fk X.2) λc=>B5h (bif decide (f.1=1)then(some (decide (c.1=1)))else(some false)) λc4=>bif c4 then(B5h (H7 (⟨h,g,i⟩:DL02B) a) λL=>B5h (H7 (⟨k,l,j⟩:DL02B) a) λx=>xg (Ae (f.2.done+a))<|xg (Ae (c.2.done+a))<|some (Lr.go (f.2.o,f.2.at_,f.2.done+a,c.2.o,c.2.at_,c.2.done+a,L.list,L.put,L.drop,x.list,x.put,x.drop)))else(bif decide (c.1=1)then(B5h (O1 (⟨h,g,i⟩:DL02B) a) λK=>xg (Ae (f.2.done+a))<|xg (Ae (c.2.done+a))<|some (Lr.go (f.2.o,f.2.at_,f.2.done+a,c.2.o,c.2.at_,c.2.done+a,K.list,K.put,K.drop,k,l,j)))else(bif decide (f.1=1)then(B5h (O1 (⟨k,l,j⟩:DL02B) a) λS=>xg (Ae (f.2.done+a))<|xg (Ae (c.2.done+a))<|some (Lr.go (f.2.o,f.2.at_,f.2.done+a,c.2.o,c.2.at_,c.2.done+a,h,g,i,S.list,S.put,S.drop)))else(xg (Ae (f.2.done+a))<|xg (Ae (c.2.done+a))<|some (Lr.go (f.2.o,f.2.at_,f.2.done+a,c.2.o,c.2.at_,c.2.done+a,h,g,i,k,l,j))))))))else(some (Lr.out (p.2.o,p.2.at_,p.2.done,m.2.o,m.2.at_,m.2.done,h,g,i,k,l,j))))
def Bfi (a:List DPart×Int×Int×List DPart×Int×Int×List DPart×List Int×Int×List DPart×List Int×Int):Option (Lr (List DPart×Int×Int×List DPart×Int×Int×List DPart×List Int×Int×List DPart×List Int×Int) (List DPart×Int×Int×List DPart×Int×Int×List DPart×List Int×Int×List DPart×List Int×Int)):=Bfh a.1 a.2.1 a.2.2.1 a.2.2.2.1 a.2.2.2.2.1 a.2.2.2.2.2.1 a.2.2.2.2.2.2.1 a.2.2.2.2.2.2.2.1 a.2.2.2.2.2.2.2.2.1 a.2.2.2.2.2.2.2.2.2.1 a.2.2.2.2.2.2.2.2.2.2.1 a.2.2.2.2.2.2.2.2.2.2.2
def Bfg (a:List DPart) (b:List DPart):Option (List DPart×List DPart×Bool):=
 B5h (Gh a) λf=>B5h (bif !f then(some true)else(B5h (Gh b) λn=>some (!n))) λk=>B5h (bif k then(some true)else(B5h (Ox a) λh=>B5h (Ox b) λi=>some (!decide (h=i)))) λl=>bif l then(some ([],[],false))else(B5h (Bc (Bfi) (a,0,0,b,0,0,[],[],0,[],[],0)) λc=>B5h (O0 (⟨c.2.2.2.2.2.2.1,c.2.2.2.2.2.2.2.1,c.2.2.2.2.2.2.2.2.1⟩:DL02B)) λd=>B5h (O0 (⟨c.2.2.2.2.2.2.2.2.2.1,c.2.2.2.2.2.2.2.2.2.2.1,c.2.2.2.2.2.2.2.2.2.2.2⟩:DL02B)) λe=>B5h (Gh d) λm=>B5h (bif !m then(some true)else(B5h (Gh e) λg=>some (!g))) λj=>bif j then(some ([],[],false))else(some (d,e,true)))
def Bmk:E amb:=en 363 [B8,B8] [Fz,Fz,Aq] (Ak Wi) Tryz.func363 [Af6,Pf,A01,A02,A04,A05,Bmm,Bmn,Bmo,Bmp] [Ca 0 [.box 7 0 [.ro (.b 4),.sc 0,.sc 0],.box 8 0 [.ro (.b 4),.sc 0,.sc 0],.box 9 0 [.row (.b 4),.row (.b 0),.sc 0],.box 10 0 [.row (.b 4),.row (.b 0),.sc 0]]] (hx:=λa=>Eq.trans (b:=Bfg a.1 a.2.1) (by kernel_rfl) (show _=Wi a.1 a.2.1 by simp only[Oz,Aen,Wi,Bfh,Bfi,Bfg,Rh,Cq,D1,D8,Cj,cond_true,cond_false,Cm,Cy]<;>rfl))
def Ax1 (l:List (List DPart)) (_:Nat) (d:List DPart) (b:List (List DPart)) (c:List DPart):Option (Lr (List (List DPart)×List DPart) (Sum (List (List DPart)×List DPart) Unit)):=
 B5h (Wi d c) λa=>bif !a.2.2 then(some (Lr.out (B6e (()))))else(xg (b.length<1099511627776)<|some (Lr.go (b++[a.1],a.2.1)))
def Ams (l:List (List DPart)) (a:Nat) (b:List (List DPart)×List DPart):Option (Lr (List (List DPart)×List DPart) (Sum (List (List DPart)×List DPart) Unit)):=Ax1 l a (el l a) b.1 b.2
def Aeu (l:List (List DPart)) (b:List DPart):Option (List (List DPart)×List DPart×Bool):=
 B5h (Gh b) λe=>bif !e then(some ([],[],false))else(B5h (We b) λf=>B5h (Ai (Ams l) (λa=>(.inl (a.1,a.2))) l.length 0 ([],f)) λd=>B59 (λc=>some (c.1,c.2,true)) (λ_=>some ([],[],false)) d)
def Bfq (l:List (List DPart)) (_:Nat) (c:List DPart) (b:List (List DPart)) (d:List DPart):Option (Lr (List (List DPart)×List DPart) (Sum (List (List DPart)×List DPart) (List (List DPart)×List DPart×Bool))):=
 B5h (Wi c d) λa=>bif !a.2.2 then(some (Lr.out (B6e ([],[],false))))else(xg (b.length<1099511627776)<|some (Lr.go (b++[a.1],a.2.1)))
def Bfr (l:List (List DPart)) (b:Nat) (a:List (List DPart)×List DPart):Option (Lr (List (List DPart)×List DPart) (Sum (List (List DPart)×List DPart) (List (List DPart)×List DPart×Bool))):=Bfq l b (el l b) a.1 a.2
def Bfp (l:List (List DPart)) (b:List DPart):Option (List (List DPart)×List DPart×Bool):=
 B5h (Gh b) λg=>bif !g then(some ([],[],false))else(B5h (We b) λd=>B5h (Ai (Bfr l) (λc=>(.inl (c.1,c.2))) l.length 0 ([],d)) λe=>B59 (λa=>some (a.1,a.2,true)) (λf=>some f) e)
def Bmq:E amb:=en 354 [Abz,B8] [Ab7,Fz,Aq] (Ak Aeu) Tryz.func354 [Aog,Pf,Bmk] [B5 0 22 21 [.slot 7 (.row (.sl (.b 4))),C1 8 4]] (hx:=λa=>Eq.trans (b:=Bfp a.1 a.2.1) (by kernel_rfl) (show _=Aeu a.1 a.2.1 by simp only[Ax1,Ams,Aeu,Bfq,Bfr,Bfp,C2,Cq,D1,D8,Cj,Cm,Cy,Df,Dg]<;>rfl))
def Ami (l:List (List DPart)) (b:List DPart):Option (List DPart×Bool):=
 B5h (Aeu l b) λa=>some (a.2.1,a.2.2)
def Bl8:E amb:=en 338 [Abz,B8] [Fz,Aq] (Ak Ami) Tryz.func338 [Bmq]
def Zk (d:DDoc):Option (List Int):=
 B5h (E6 d) λa=>B5h (Ael d a) λb=>some b.1
def Aof:E amb:=en 255 [Ep] [Jd] (Am Zk) Tryz.func255 [Kn,A0y]
def Zm (d:DDoc) (a:Int) (o:List DPart):Option (List DPart×Int):=
 B5h (Ke d) λj=>B5h (bif !j then(some true)else(B5h (Gh o) λc=>some (!c))) λk=>bif k then(some ([],1))else(B5h (E6 d) λe=>bif decide (e<a)then(some ([],2))else(bif decide (a<d.from_)then(some ([],3))else(B5h (Ael d a) λf=>B5h (Ox o) λi=>bif !decide (i=(f.1.length:Int))then(some ([],1))else(B5h (Amh d a) λg=>B5h (Ami g.1 o) λb=>bif !b.2 then(some ([],5))else(B5h (Zk d) λh=>B5h (Kd b.1 h) λl=>bif !l.2 then(some ([],5))else(some (b.1,0)))))))
def Bma:E amb:=en 309 [Ep,Ap,B8] [Fz,A0] (H4 Zm) Tryz.func309 [Af3,Tv,Kn,Aof,Af6,Pf,Bl6,Bl8,A0y]
def Axp (b:Int) (f:Int) (e:Int) (_:DDoc) (_:Nat) (c:DSeen) (a:List DSeen) (d:Bool):Option (Lr (List DSeen×Bool) (List DSeen×Bool)):=
 bif decide ((c.client)=b)then(some (Lr.go (a,d)))else(B5h (bif !d then(some (decide (b<(c.client))))else(some false)) λg=>bif g then(xg (a.length<1099511627776)<|xg ((a++[(⟨b,f,e⟩:DSeen)]).length<1099511627776)<|some (Lr.go ((a++[(⟨b,f,e⟩:DSeen)])++[c],true)))else(xg (a.length<1099511627776)<|some (Lr.go (a++[c],d))))
def Wh (e:Int) (f:Int) (d:Int) (b:DDoc) (a:Nat) (c:List DSeen×Bool):Option (Lr (List DSeen×Bool) (List DSeen×Bool)):=Axp e f d b a (el b.seen a) c.1 c.2
def Zo (d:DDoc) (c:Int) (b:Int) (u:Int) (o:List DPart):Option (DDoc×Int×Int):=
 B5h (Ke d) λm=>B5h (bif !m then(some true)else(B5h (Bt c 1 8) λt=>some (!t))) λr=>B5h (bif r then(some true)else(B5h (Bt b 1 1000000000) λj=>some (!j))) λv=>B5h (bif v then(some true)else(B5h (Gh o) λw=>some (!w))) λn=>bif n then(some ((⟨B52,0,[],[],[]⟩:DDoc),0,1))else(B5h (S7 d c) λh=>B5h (bif h.2 then(some (decide (h.1.seq=b)))else(some false)) λl=>bif l then(B5h (Qq d) λk=>some (k,h.1.rev,0))else(xg (Ae (h.1.seq+1))<|bif !decide (b=(h.1.seq+1))then(some ((⟨B52,0,[],[],[]⟩:DDoc),0,4))else(B5h (Zm d u o) λe=>bif !decide (e.2=0)then(some ((⟨B52,0,[],[],[]⟩:DDoc),0,e.2))else(B5h (E6 d) λq=>bif decide ((999999000:Int)<=q)then(some ((⟨B52,0,[],[],[]⟩:DDoc),0,5))else(B5h (Qq d) λa=>xg (a.list.length<1099511627776)<|B5h (E6 (⟨a.name,a.from_,a.text,a.list++[(⟨c,b,e.1⟩:DEntry)],a.seen⟩:DDoc)) λf=>B5h (Ai (Wh c b f a) (λi=>(i.1,i.2)) a.seen.length 0 ([],false)) λg=>bif !g.2 then(xg (g.1.length<1099511627776)<|bif decide ((8:Int)<((a.list++[(⟨c,b,e.1⟩:DEntry)]).length:Int))then(xg (0<=(0:Int)/\(0:Int)<((a.list++[(⟨c,b,e.1⟩:DEntry)]).length:Int))<|B5h (Kd ((el (a.list++[(⟨c,b,e.1⟩:DEntry)]) 0).o) a.text) λs=>xg (0<=(1:Int)/\(1:Int)<=((a.list++[(⟨c,b,e.1⟩:DEntry)]).length:Int))<|xg (Ae (a.from_+1))<|some ((⟨a.name,a.from_+1,s.1,((a.list++[(⟨c,b,e.1⟩:DEntry)]).take ((a.list++[(⟨c,b,e.1⟩:DEntry)]).length)).drop 1,g.1++[(⟨c,b,f⟩:DSeen)]⟩:DDoc),f,0))else(some ((⟨a.name,a.from_,a.text,a.list++[(⟨c,b,e.1⟩:DEntry)],g.1++[(⟨c,b,f⟩:DSeen)]⟩:DDoc),f,0)))else(bif decide ((8:Int)<((a.list++[(⟨c,b,e.1⟩:DEntry)]).length:Int))then(xg (0<=(0:Int)/\(0:Int)<((a.list++[(⟨c,b,e.1⟩:DEntry)]).length:Int))<|B5h (Kd ((el (a.list++[(⟨c,b,e.1⟩:DEntry)]) 0).o) a.text) λp=>xg (0<=(1:Int)/\(1:Int)<=((a.list++[(⟨c,b,e.1⟩:DEntry)]).length:Int))<|xg (Ae (a.from_+1))<|some ((⟨a.name,a.from_+1,p.1,((a.list++[(⟨c,b,e.1⟩:DEntry)]).take ((a.list++[(⟨c,b,e.1⟩:DEntry)]).length)).drop 1,g.1⟩:DDoc),f,0))else(some ((⟨a.name,a.from_,a.text,a.list++[(⟨c,b,e.1⟩:DEntry)],g.1⟩:DDoc),f,0))))))))
def Bmg:E amb:=en 253 [Ep,Ap,Ap,Ap,B8] [U5,A0,A0] (uc5 Zo) Tryz.func253 [Af3,Tv,Kn,Pf,Bma,Bme,Ga,A08] [Da 0 97 96 [C1 19 6,T9 20 1]]
def Amm (b:DRing) (e:DEntry):Option DRing:=
 B5h (Ta b) λa=>B5h (Mv b) λh=>B5h (bif !h then(some true)else(B5h (S5 e) λd=>some (!d))) λg=>B5h (bif g then(some true)else(some b.out)) λf=>bif f then(some a)else(bif decide ((b.list.length:Int)=b.cap)then(some (⟨a.cap,a.next,true,[]⟩:DRing))else(B5h (Aev e) λc=>xg (a.list.length+[c].length<=1099511627776)<|some (⟨a.cap,a.next,a.out,a.list++[c]⟩:DRing)))
def Bmc:E amb:=en 254 [Jb,Jz] [Mc] (Ak Amm) Tryz.func254 [Aoe,Aar,A09,Aoo]
def Ba3 (d:ByteArray) (a:DDoc×Int×Int) (f:Int) (g:Int) (o:List DPart) (c:Nat) (b:List DSub):Option (Lr (List DSub) (List DSub)):=
 bif decide ((el b c).doc=d)then(B5h (Amm ((el b c).r) (⟨(el a.1.list (((a.1.list.length:Int)-1).toNat)).client,(el a.1.list (((a.1.list.length:Int)-1).toNat)).seq,(el a.1.list (((a.1.list.length:Int)-1).toNat)).o⟩:DEntry)) λe=>some (Lr.go (b.set c (⟨(el b c).id,(el b c).doc,e⟩:DSub))))else(some (Lr.go b))
def Axc (c:ByteArray) (f:DDoc×Int×Int) (a:Int) (e:Int) (o:List DPart) (d:Nat) (b:List DSub):Option (Lr (List DSub) (List DSub)):=Ba3 c f a e o d b
def Ame (h:DHub) (d:ByteArray) (e:Int) (f:Int) (k:Int) (o:List DPart):Option (DHub×Int×Int):=
 B5h (H6 h d) λb=>B5h (Iw h) λi=>bif !i then(some ((⟨false,[],[],0⟩:DHub),0,1))else(bif h.shut then(some ((⟨false,[],[],0⟩:DHub),0,12))else(bif decide (b<0)then(some ((⟨false,[],[],0⟩:DHub),0,6))else(xg (0<=b/\b<(h.docs.length:Int))<|B5h (Zo (el h.docs b.toNat) e f k o) λa=>bif !decide (a.2.2=0)then(some ((⟨false,[],[],0⟩:DHub),0,a.2.2))else(B5h (El h) λc=>xg (0<=b/\b<(c.docs.length:Int))<|B5h (E6 a.1) λm=>xg (0<=b/\b<(h.docs.length:Int))<|B5h (E6 (el h.docs b.toNat)) λg=>bif decide (m=g)then(some ((⟨c.shut,c.docs.set b.toNat a.1,c.subs,c.last⟩:DHub),a.2.1,0))else(xg (Ae ((a.1.list.length:Int)-1))<|xg (0<=((a.1.list.length:Int)-1)/\((a.1.list.length:Int)-1)<(a.1.list.length:Int))<|B5h (Ai (Axc d a e f o) (λj=>j) c.subs.length 0 c.subs) λl=>some ((⟨c.shut,c.docs.set b.toNat a.1,l,c.last⟩:DHub),a.2.1,0))))))
def Bl3:E amb:=en 197 [D5,Cp,Ap,Ap,Ap,B8] [Hk,A0,A0] (uc6 Ame) Tryz.func197 [Kn,Q5,Q6,Bmc,Bmg,Q7] [Da 1 86 85 [Dy 84 9]]
def Amc (d:DDoc) (a:Int):Option (List DEntry×Int):=
 B5h (Ke d) λb=>bif !b then(some ([],1))else(B5h (E6 d) λc=>bif decide (c<a)then(some ([],2))else(bif decide (a<d.from_)then(some ([],3))else(xg (Ae (a-d.from_))<|xg (0<=(a-d.from_)/\(a-d.from_)<=(d.list.length:Int))<|B5h (Mw ((d.list.take d.list.length).drop ((a-d.from_).toNat))) λe=>some (e,0))))
def Blx:E amb:=en 256 [Ep,Ap] [Px,A0] (Ak Amc) Tryz.func256 [Tv,Kn,Aas]
def Aez (h:DHub) (c:DCall):Option DAnswer:=
 B5h (H6 h c.doc) λa=>bif h.shut then(some (⟨12,0,[],[]⟩:DAnswer))else(bif decide (a<0)then(some (⟨6,0,[],[]⟩:DAnswer))else(bif decide (c.kind=4)then(xg (0<=a/\a<(h.docs.length:Int))<|xg (0<=a/\a<(h.docs.length:Int))<|B5h (Zk (el h.docs a.toNat)) λd=>B5h (E6 (el h.docs a.toNat)) λe=>some (⟨0,e,d,[]⟩:DAnswer))else(xg (0<=a/\a<(h.docs.length:Int))<|B5h (Amc (el h.docs a.toNat) c.n) λb=>some (⟨b.2,0,[],b.1⟩:DAnswer))))
def Bmt:E amb:=en 198 [D5,Gk] [U6] (Ak Aez) Tryz.func198 [Blx,Kn,Aof,Q5]
def Aei (b:Int) (a:Int):Option (DRing×Bool):=
 bif decide ((1000000000:Int)<a)then(some ((⟨0,0,false,[]⟩:DRing),false))else(xg (Ae (a+1))<|B5h (Mv (⟨b,a+1,false,[]⟩:DRing)) λc=>bif !c then(some ((⟨0,0,false,[]⟩:DRing),false))else(some ((⟨b,a+1,false,[]⟩:DRing),true)))
def A0v:E amb:=en 257 [Ap,Ap] [Mc,Aq] (Ak Aei) Tryz.func257 [Aar]
def Aee (h:DHub) (c:ByteArray) (d:Int):Option (DHub×Int×Int):=
 B5h (H6 h c) λa=>B5h (Iw h) λi=>B5h (bif !i then(some true)else(B5h (Bt d 1 6) λf=>some (!f))) λe=>bif e then(some ((⟨false,[],[],0⟩:DHub),0,1))else(bif h.shut then(some ((⟨false,[],[],0⟩:DHub),0,12))else(bif decide (a<0)then(some ((⟨false,[],[],0⟩:DHub),0,6))else(B5h (bif decide ((h.subs.length:Int)=6)then(some true)else(some (decide (h.last=1000000000)))) λj=>bif j then(some ((⟨false,[],[],0⟩:DHub),0,10))else(xg (0<=a/\a<(h.docs.length:Int))<|B5h (E6 (el h.docs a.toNat)) λg=>B5h (Aei d g) λk=>B5h (El h) λb=>xg (Ae (h.last+1))<|xg (b.subs.length<1099511627776)<|some ((⟨b.shut,b.docs,b.subs++[(⟨h.last+1,c,k.1⟩:DSub)],h.last+1⟩:DHub),h.last+1,0)))))
def Bl4:E amb:=en 199 [D5,Cp,Ap] [Hk,A0,A0] (H4 Aee) Tryz.func199 [Kn,Q5,Q6,A0v,Ga,Q7]
def Axa (b:Int) (_:DHub) (a:Nat) (c:DSub):Option (Lr Unit (Sum Unit Int)):=
 bif decide ((c.id)=b)then(some (Lr.out (B6e ((a:Int)))))else(some (Lr.go ()))
def Axb (b:Int) (h:DHub) (a:Nat) (_:Unit):Option (Lr Unit (Sum Unit Int)):=Axa b h a (el h.subs a)
def Wd (h:DHub) (b:Int):Option Int:=
 B5h (Ai (Axb b h) (λ_=>(.inl ())) h.subs.length 0 ()) λa=>B59 (λ_=>some (-1)) (λc=>some c) a
def Bew (a:Int) (_:DHub) (c:Nat) (b:DSub):Option (Lr Unit (Sum Unit Int)):=
 bif decide ((b.id)=a)then(some (Lr.out (B6e (c:Int))))else(some (Lr.go ()))
def Bex (b:Int) (h:DHub) (a:Nat) (_:Unit):Option (Lr Unit (Sum Unit Int)):=Bew b h a (el h.subs a)
def Bev (h:DHub) (a:Int):Option Int:=
 B5h (Ai (Bex a h) (λ_=>(.inl ())) h.subs.length 0 ()) λc=>B59 (λ_=>some (-1)) (λb=>some b) c
def A0q:E amb:=en 258 [D5,Ap] [A0] (Ak Wd) Tryz.func258 [] [B5 0 10 9 []] (hx:=λa=>Eq.trans (b:=Bev a.1 a.2.1) (by kernel_rfl) (show _=Wd a.1 a.2.1 by simp only[Axa,Axb,Wd,Bew,Bex,Bev,C2,Cq,Cj,Cm,Cy,Df,Dg]<;>rfl))
def Aml (a:DRing) (n:Int):Option (DRing×List DEntry×Int):=
 B5h (Ta a) λb=>B5h (Mv a) λd=>B5h (bif !d then(some true)else(some (decide (n<1)))) λe=>bif e then(some (b,[],1))else(bif a.out then(some (b,[],9))else(bif decide ((a.list.length:Int)<n)then(xg (0<=(a.list.length:Int)/\(a.list.length:Int)<=(a.list.length:Int))<|B5h (Mw ((a.list.take a.list.length).drop ((a.list.length:Int).toNat))) λc=>xg (Ae (a.next+(a.list.length:Int)))<|xg (0<=(a.list.length:Int)/\(a.list.length:Int)<=(a.list.length:Int))<|B5h (Mw ((a.list.take ((a.list.length:Int).toNat)).drop 0)) λf=>some ((⟨b.cap,a.next+(a.list.length:Int),b.out,c⟩:DRing),f,0))else(xg (0<=n/\n<=(a.list.length:Int))<|B5h (Mw ((a.list.take a.list.length).drop n.toNat)) λg=>xg (Ae (a.next+n))<|xg (0<=n/\n<=(a.list.length:Int))<|B5h (Mw ((a.list.take n.toNat).drop 0)) λh=>some ((⟨b.cap,a.next+n,b.out,g⟩:DRing),h,0))))
def Bmb:E amb:=en 259 [Jb,Ap] [Mc,Px,A0] (Ak Aml) Tryz.func259 [Aar,Aas,Aoo]
def Aeb (h:DHub) (e:Int) (n:Int):Option (DHub×List DEntry×Int):=
 B5h (Wd h e) λa=>B5h (Iw h) λf=>B5h (bif !f then(some true)else(some (decide (n<1)))) λd=>bif d then(some ((⟨false,[],[],0⟩:DHub),[],1))else(bif decide (a<0)then(some ((⟨false,[],[],0⟩:DHub),[],8))else(xg (0<=a/\a<(h.subs.length:Int))<|B5h (Aml ((el h.subs a.toNat).r) n) λc=>bif !decide (c.2.2=0)then(some ((⟨false,[],[],0⟩:DHub),[],c.2.2))else(B5h (El h) λb=>xg (0<=a/\a<(b.subs.length:Int))<|some ((⟨b.shut,b.docs,b.subs.set a.toNat (⟨(el b.subs a.toNat).id,(el b.subs a.toNat).doc,c.1⟩:DSub),b.last⟩:DHub),c.2.1,0))))
def Bl0:E amb:=en 200 [D5,Ap,Ap] [Hk,Px,A0] (H4 Aeb) Tryz.func200 [Q6,A0q,Bmb,Q7]
def Amn (b:DRing) (c:Int):Option (DRing×Bool):=
 B5h (Mv b) λd=>bif !d then(some ((⟨0,0,false,[]⟩:DRing),false))else(B5h (Aei b.cap c) λa=>some (a.1,a.2))
def Bmd:E amb:=en 260 [Jb,Ap] [Mc,Aq] (Ak Amn) Tryz.func260 [A0v,Aar]
def Aec (h:DHub) (e:Int):Option (DHub×List Int×Int×Int):=
 B5h (Wd h e) λa=>B5h (Iw h) λd=>bif !d then(some ((⟨false,[],[],0⟩:DHub),[],0,1))else(bif decide (a<0)then(some ((⟨false,[],[],0⟩:DHub),[],0,8))else(xg (0<=a/\a<(h.subs.length:Int))<|B5h (H6 h ((el h.subs a.toNat).doc)) λc=>xg (0<=c/\c<(h.docs.length:Int))<|B5h (El h) λb=>xg (0<=a/\a<(h.subs.length:Int))<|B5h (E6 (el h.docs c.toNat)) λf=>B5h (Amn ((el h.subs a.toNat).r) f) λi=>xg (0<=a/\a<(b.subs.length:Int))<|B5h (Zk (el h.docs c.toNat)) λj=>B5h (E6 (el h.docs c.toNat)) λg=>some ((⟨b.shut,b.docs,b.subs.set a.toNat (⟨(el b.subs a.toNat).id,(el b.subs a.toNat).doc,i.1⟩:DSub),b.last⟩:DHub),j,g,0)))
def Bl1:E amb:=en 201 [D5,Ap] [Hk,Jd,A0,A0] (Ak Aec) Tryz.func201 [Kn,Aof,Q5,Q6,A0q,Bmd,Q7]
def Aed (h:DHub):Option (DHub×Int):=
 B5h (Iw h) λb=>bif !b then(some ((⟨false,[],[],0⟩:DHub),1))else(bif h.shut then(some ((⟨false,[],[],0⟩:DHub),12))else(B5h (El h) λa=>some ((⟨true,a.docs,a.subs,a.last⟩:DHub),0)))
def Bl2:E amb:=en 202 [D5] [Hk,A0] (Am Aed) Tryz.func202 [Q6,Q7]
def Ama (h:DHub) (c:DCall):Option (DHub×DAnswer):=
 B5h (Iw h) λq=>B5h (bif !q then(some true)else(B5h (Wb c) λx=>some (!x))) λv=>bif v then(B5h (El h) λD=>some (D,(⟨1,0,[],[]⟩:DAnswer)))else(bif decide (c.kind=1)then(B5h (Amd h c.doc c.text) λl=>bif !decide (l.2=0)then(B5h (El h) λC=>some (C,(⟨l.2,0,[],[]⟩:DAnswer)))else(some (l.1,(⟨0,0,[],[]⟩:DAnswer))))else(bif decide (c.kind=2)then(B5h (Ame h c.doc c.client c.seq c.n c.o) λf=>bif !decide (f.2.2=0)then(B5h (El h) λm=>some (m,(⟨f.2.2,0,[],[]⟩:DAnswer)))else(some (f.1,(⟨0,f.2.1,[],[]⟩:DAnswer))))else(bif decide (c.kind=3)then(bif decide (c.kind=3)then(B5h (El h) λw=>B5h (Aez h c) λu=>some (w,u))else(bif decide (c.kind=5)then(B5h (Aee h c.doc c.n) λe=>bif !decide (e.2.2=0)then(B5h (El h) λF=>some (F,(⟨e.2.2,0,[],[]⟩:DAnswer)))else(some (e.1,(⟨0,e.2.1,[],[]⟩:DAnswer))))else(bif decide (c.kind=6)then(B5h (Aeb h c.client c.n) λi=>bif !decide (i.2.2=0)then(B5h (El h) λs=>some (s,(⟨i.2.2,0,[],[]⟩:DAnswer)))else(some (i.1,(⟨0,0,[],i.2.1⟩:DAnswer))))else(bif decide (c.kind=7)then(B5h (Aec h c.client) λa=>bif !decide (a.2.2.2=0)then(B5h (El h) λr=>some (r,(⟨a.2.2.2,0,[],[]⟩:DAnswer)))else(some (a.1,(⟨0,a.2.2.1,a.2.1,[]⟩:DAnswer))))else(B5h (Aed h) λk=>bif !decide (k.2=0)then(B5h (El h) λp=>some (p,(⟨k.2,0,[],[]⟩:DAnswer)))else(some (k.1,(⟨0,0,[],[]⟩:DAnswer))))))))else(bif decide (c.kind=4)then(B5h (El h) λG=>B5h (Aez h c) λt=>some (G,t))else(bif decide (c.kind=5)then(B5h (Aee h c.doc c.n) λd=>bif !decide (d.2.2=0)then(B5h (El h) λz=>some (z,(⟨d.2.2,0,[],[]⟩:DAnswer)))else(some (d.1,(⟨0,d.2.1,[],[]⟩:DAnswer))))else(bif decide (c.kind=6)then(B5h (Aeb h c.client c.n) λg=>bif !decide (g.2.2=0)then(B5h (El h) λy=>some (y,(⟨g.2.2,0,[],[]⟩:DAnswer)))else(some (g.1,(⟨0,0,[],g.2.1⟩:DAnswer))))else(bif decide (c.kind=7)then(B5h (Aec h c.client) λb=>bif !decide (b.2.2.2=0)then(B5h (El h) λA=>some (A,(⟨b.2.2.2,0,[],[]⟩:DAnswer)))else(some (b.1,(⟨0,b.2.2.1,b.2.1,[]⟩:DAnswer))))else(B5h (Aed h) λj=>bif !decide (j.2=0)then(B5h (El h) λB=>some (B,(⟨j.2,0,[],[]⟩:DAnswer)))else(some (j.1,(⟨0,0,[],[]⟩:DAnswer)))))))))))
def Blu:E amb:=en 134 [D5,Gk] [Hk,U6] (Ak Ama) Tryz.func134 [Af4,Q6,Blz,Bl0,Bl1,Bl2,Bl3,Bl4,Q7,Bmt]
def Wl (b:DWorld) (k:Int):Option DWorld:=
 xg (0<=k/\k<(b.tasks.length:Int))<|B5h (Ama b.h ((el b.tasks k.toNat).c)) λd=>xg (0<=k/\k<(b.tasks.length:Int))<|xg (0<=k/\k<((stE b.tasks k.toNat λz=>(⟨(⟨z.c.kind,z.c.doc,z.c.client,z.c.seq,z.c.n,z.c.o,z.c.text⟩:DCall),z.pc,z.inv,z.lin,z.res,d.2⟩:DTask)).length:Int))<|xg (0<=k/\k<((stE (stE b.tasks k.toNat λz=>(⟨(⟨z.c.kind,z.c.doc,z.c.client,z.c.seq,z.c.n,z.c.o,z.c.text⟩:DCall),z.pc,z.inv,z.lin,z.res,d.2⟩:DTask)) k.toNat λz=>(⟨(⟨z.c.kind,z.c.doc,z.c.client,z.c.seq,z.c.n,z.c.o,z.c.text⟩:DCall),z.pc,z.inv,b.step,z.res,(⟨z.a.code,z.a.rev,z.a.text,z.a.list⟩:DAnswer)⟩:DTask)).length:Int))<|some (⟨d.1,b.locks,b.queues,stE (stE (stE b.tasks k.toNat λz=>(⟨(⟨z.c.kind,z.c.doc,z.c.client,z.c.seq,z.c.n,z.c.o,z.c.text⟩:DCall),z.pc,z.inv,z.lin,z.res,d.2⟩:DTask)) k.toNat λz=>(⟨(⟨z.c.kind,z.c.doc,z.c.client,z.c.seq,z.c.n,z.c.o,z.c.text⟩:DCall),z.pc,z.inv,b.step,z.res,(⟨z.a.code,z.a.rev,z.a.text,z.a.list⟩:DAnswer)⟩:DTask)) k.toNat λz=>(⟨(⟨z.c.kind,z.c.doc,z.c.client,z.c.seq,z.c.n,z.c.o,z.c.text⟩:DCall),3,z.inv,z.lin,z.res,(⟨z.a.code,z.a.rev,z.a.text,z.a.list⟩:DAnswer)⟩:DTask),b.step⟩:DWorld)
def Aop:E amb:=en 70 [Aid,Ap] [] (Ak Wl) Tryz.func70 [Blu]
def Amp (c:DWorld) (f:ByteArray):Option (DWorld×Bool):=
 B5h (Zu c f) λa=>B5h (S8 c) λj=>B5h (bif !j then(some true)else(some (decide (c.step=1000000)))) λg=>B5h (bif g then(some true)else(some (decide (a<0)))) λi=>bif i then(some ((⟨(⟨false,[],[],0⟩:DHub),[],[],[],0⟩:DWorld),false))else(B5h (Kg c) λb=>xg (0<=a/\a<(b.queues.length:Int))<|xg (0<=(0:Int)/\(0:Int)<(((el b.queues a.toNat).list).length:Int))<|xg (0<=a/\a<(b.queues.length:Int))<|xg (0<=(1:Int)/\(1:Int)<=(((el b.queues a.toNat).list).length:Int))<|xg (0<=a/\a<(b.queues.length:Int))<|xg (a.toNat=a.toNat)<|xg (0<=a/\a<((stE b.queues a.toNat λz=>(⟨z.doc,(((el b.queues a.toNat).list).take ((el b.queues a.toNat).list).length).drop 1⟩:DQueue)).length:Int))<|bif decide ((((el (stE b.queues a.toNat λz=>(⟨z.doc,(((el b.queues a.toNat).list).take ((el b.queues a.toNat).list).length).drop 1⟩:DQueue)) a.toNat).list).length:Int)=0)then(xg (0<=a/\a<=((stE b.queues a.toNat λz=>(⟨z.doc,(((el b.queues a.toNat).list).take ((el b.queues a.toNat).list).length).drop 1⟩:DQueue)).length:Int))<|xg (0+a.toNat<=1099511627776)<|xg (Ae (a+1))<|xg ((a.toNat:Int)<=(a+1)/\(a+1)<=((stE b.queues a.toNat λz=>(⟨z.doc,(((el b.queues a.toNat).list).take ((el b.queues a.toNat).list).length).drop 1⟩:DQueue)).length:Int))<|xg (([]++(stE b.queues a.toNat λz=>(⟨z.doc,(((el b.queues a.toNat).list).take ((el b.queues a.toNat).list).length).drop 1⟩:DQueue)).take a.toNat).length+(((stE b.queues a.toNat λz=>(⟨z.doc,(((el b.queues a.toNat).list).take ((el b.queues a.toNat).list).length).drop 1⟩:DQueue)).take (stE b.queues a.toNat λz=>(⟨z.doc,(((el b.queues a.toNat).list).take ((el b.queues a.toNat).list).length).drop 1⟩:DQueue)).length).drop ((a+1).toNat)).length<=1099511627776)<|B5h (Wl (⟨b.h,b.locks,([]++(stE b.queues a.toNat λz=>(⟨z.doc,(((el b.queues a.toNat).list).take ((el b.queues a.toNat).list).length).drop 1⟩:DQueue)).take a.toNat)++(((stE b.queues a.toNat λz=>(⟨z.doc,(((el b.queues a.toNat).list).take ((el b.queues a.toNat).list).length).drop 1⟩:DQueue)).take (stE b.queues a.toNat λz=>(⟨z.doc,(((el b.queues a.toNat).list).take ((el b.queues a.toNat).list).length).drop 1⟩:DQueue)).length).drop ((a+1).toNat)),b.tasks,b.step⟩:DWorld) (el ((el b.queues a.toNat).list) 0)) λd=>xg (Ae (c.step+1))<|some ((⟨d.h,d.locks,d.queues,d.tasks,c.step+1⟩:DWorld),true))else(B5h (Wl (⟨b.h,b.locks,stE b.queues a.toNat λz=>(⟨z.doc,(((el b.queues a.toNat).list).take ((el b.queues a.toNat).list).length).drop 1⟩:DQueue),b.tasks,b.step⟩:DWorld) (el ((el b.queues a.toNat).list) 0)) λe=>xg (Ae (c.step+1))<|some ((⟨e.h,e.locks,e.queues,e.tasks,c.step+1⟩:DWorld),true)))
def Bmf:E amb:=en 26 [Eh,Cp] [J5,Aq] (Ak Amp) Tryz.func26 [Aol,Aat,Aop,Aoq] (mv:=true)
def Bbs (b:DWorld) (k:Int) (a:Int):Option (Lr Int Int):=
 B5h (bif decide (a<(b.queues.length:Int))then(xg (0<=a/\a<(b.queues.length:Int))<|some (Bv ((el b.queues a.toNat).doc) ((el b.tasks k.toNat).c.doc)))else(some false)) λd=>bif d then(xg (Ae (a+1))<|some (Lr.go (a+1)))else(some (Lr.out a))
def Bbt (a:DWorld) (k:Int) (b:Int):Option (Lr Int Int):=Bbs a k b
def Am0 (b:DWorld) (k:Int):Option DWorld:=
 xg (0<=k/\k<(b.tasks.length:Int))<|xg (0<=k/\k<(b.tasks.length:Int))<|B5h (Zu (⟨b.h,b.locks,b.queues,stE b.tasks k.toNat λz=>(⟨(⟨z.c.kind,z.c.doc,z.c.client,z.c.seq,z.c.n,z.c.o,z.c.text⟩:DCall),2,z.inv,z.lin,z.res,(⟨z.a.code,z.a.rev,z.a.text,z.a.list⟩:DAnswer)⟩:DTask),b.step⟩:DWorld) ((el b.tasks k.toNat).c.doc)) λe=>bif decide ((0:Int)<=e)then(xg (0<=e/\e<(b.queues.length:Int))<|xg (((el b.queues e.toNat).list).length+[k].length<=1099511627776)<|xg (0<=e/\e<(b.queues.length:Int))<|xg (e.toNat=e.toNat)<|some (⟨b.h,b.locks,stE b.queues e.toNat λz=>(⟨z.doc,((el b.queues e.toNat).list)++[k]⟩:DQueue),stE b.tasks k.toNat λz=>(⟨(⟨z.c.kind,z.c.doc,z.c.client,z.c.seq,z.c.n,z.c.o,z.c.text⟩:DCall),2,z.inv,z.lin,z.res,(⟨z.a.code,z.a.rev,z.a.text,z.a.list⟩:DAnswer)⟩:DTask),b.step⟩:DWorld))else(B5h (Bc (Bbt b k) 0) λd=>xg (0<=d/\d<=(b.queues.length:Int))<|xg (0+d.toNat<=1099511627776)<|xg (([]++b.queues.take d.toNat).length<1099511627776)<|xg ((d.toNat:Int)<=d/\d<=(b.queues.length:Int))<|xg ((([]++b.queues.take d.toNat)++[(⟨(el b.tasks k.toNat).c.doc,[k]⟩:DQueue)]).length+((b.queues.take b.queues.length).drop d.toNat).length<=1099511627776)<|some (⟨b.h,b.locks,(([]++b.queues.take d.toNat)++[(⟨(el b.tasks k.toNat).c.doc,[k]⟩:DQueue)])++((b.queues.take b.queues.length).drop d.toNat),stE b.tasks k.toNat λz=>(⟨(⟨z.c.kind,z.c.doc,z.c.client,z.c.seq,z.c.n,z.c.o,z.c.text⟩:DCall),2,z.inv,z.lin,z.res,(⟨z.a.code,z.a.rev,z.a.text,z.a.list⟩:DAnswer)⟩:DTask),b.step⟩:DWorld))
def Bmy:E amb:=en 140 [Aid,Ap] [] (Ak Am0) Tryz.func140 [Aoq] [Ca 0 [Ax 6]] (mv:=true)
def Am1 (b:DWorld) (k:Int):Option DWorld:=
 xg (0<=k/\k<(b.tasks.length:Int))<|B5h (Qn ((el b.tasks k.toNat).c.doc) (b.locks.length:Int)) λd=>xg (0<=d/\d<(b.locks.length:Int))<|B5h (bif !decide (((el b.tasks k.toNat).c.kind)=2)then(some true)else(some b.h.shut)) λm=>B5h (bif m then(some true)else(B5h (H6 b.h ((el b.tasks k.toNat).c.doc)) λi=>some (decide (i<0)))) λl=>bif l then(B5h (Wl (⟨b.h,b.locks.set d.toNat (-1),b.queues,b.tasks,b.step⟩:DWorld) k) λg=>some g)else(B5h (Zu (⟨b.h,b.locks.set d.toNat (-1),b.queues,b.tasks,b.step⟩:DWorld) ((el b.tasks k.toNat).c.doc)) λe=>B5h (bif decide ((0:Int)<=e)then(xg (0<=e/\e<(b.queues.length:Int))<|some (decide ((((el b.queues e.toNat).list).length:Int)=2)))else(some false)) λf=>bif f then(some (⟨b.h,b.locks.set d.toNat (-1),b.queues,stE (stE b.tasks k.toNat λz=>(⟨(⟨z.c.kind,z.c.doc,z.c.client,z.c.seq,z.c.n,z.c.o,z.c.text⟩:DCall),z.pc,z.inv,z.lin,z.res,(⟨11,0,[],[]⟩:DAnswer)⟩:DTask)) k.toNat λz=>(⟨(⟨z.c.kind,z.c.doc,z.c.client,z.c.seq,z.c.n,z.c.o,z.c.text⟩:DCall),3,z.inv,z.lin,z.res,(⟨z.a.code,z.a.rev,z.a.text,z.a.list⟩:DAnswer)⟩:DTask),b.step⟩:DWorld))else(B5h (Am0 (⟨b.h,b.locks.set d.toNat (-1),b.queues,b.tasks,b.step⟩:DWorld) k) λj=>some j))
def Bmz:E amb:=en 76 [Aid,Ap] [] (Ak Am1) Tryz.func76 [Q5,Aoj,Aop,Bmy,Aoq]
def Amj (d:DWorld) (k:Int):Option (DWorld×Bool):=
 B5h (S8 d) λi=>B5h (bif !i then(some true)else(some (decide (d.step=1000000)))) λl=>B5h (bif l then(some true)else(xg (Ae ((d.tasks.length:Int)-1))<|B5h (Bt k 0 ((d.tasks.length:Int)-1)) λj=>some (!j))) λp=>bif p then(some ((⟨(⟨false,[],[],0⟩:DHub),[],[],[],0⟩:DWorld),false))else(B5h (Kg d) λb=>xg (0<=k/\k<(b.tasks.length:Int))<|bif decide (((el b.tasks k.toNat).pc)=0)then(B5h (Qk ((el b.tasks k.toNat).c.kind)) λm=>bif !m then(B5h (Wl b k) λf=>xg (Ae (d.step+1))<|some ((⟨f.h,f.locks,f.queues,f.tasks,d.step+1⟩:DWorld),true))else(B5h (Qn ((el b.tasks k.toNat).c.doc) (b.locks.length:Int)) λe=>xg (0<=e/\e<(b.locks.length:Int))<|bif !decide ((el b.locks e.toNat)=(-1))then(some ((⟨(⟨false,[],[],0⟩:DHub),[],[],[],0⟩:DWorld),false))else(xg (0<=e/\e<(b.locks.length:Int))<|xg (Ae (d.step+1))<|some ((⟨b.h,b.locks.set e.toNat k,b.queues,stE b.tasks k.toNat λz=>(⟨(⟨z.c.kind,z.c.doc,z.c.client,z.c.seq,z.c.n,z.c.o,z.c.text⟩:DCall),1,z.inv,z.lin,z.res,(⟨z.a.code,z.a.rev,z.a.text,z.a.list⟩:DAnswer)⟩:DTask),d.step+1⟩:DWorld),true))))else(bif decide (((el b.tasks k.toNat).pc)=1)then(B5h (Am1 b k) λg=>xg (Ae (d.step+1))<|some ((⟨g.h,g.locks,g.queues,g.tasks,d.step+1⟩:DWorld),true))else(bif decide (((el b.tasks k.toNat).pc)=3)then(xg (Ae (d.step+1))<|some ((⟨b.h,b.locks,b.queues,stE (stE b.tasks k.toNat λz=>(⟨(⟨z.c.kind,z.c.doc,z.c.client,z.c.seq,z.c.n,z.c.o,z.c.text⟩:DCall),z.pc,z.inv,z.lin,b.step,(⟨z.a.code,z.a.rev,z.a.text,z.a.list⟩:DAnswer)⟩:DTask)) k.toNat λz=>(⟨(⟨z.c.kind,z.c.doc,z.c.client,z.c.seq,z.c.n,z.c.o,z.c.text⟩:DCall),4,z.inv,z.lin,z.res,(⟨z.a.code,z.a.rev,z.a.text,z.a.list⟩:DAnswer)⟩:DTask),d.step+1⟩:DWorld),true))else(some ((⟨(⟨false,[],[],0⟩:DHub),[],[],[],0⟩:DWorld),false)))))
def Bl9:E amb:=en 29 [Eh,Ap] [J5,Aq] (Ak Amj) Tryz.func29 [Aap,Aoj,Aol,Ga,Aat,Aop,Bmz]
def Zl (b:DWorld) (f:ByteArray):Option (DWorld×ByteArray):=
 B5h (Zi f) λa=>B5h (Aem f) λg=>bif g.2 then(B5h (Al9 b g.1) λe=>bif !e.2 then(B5h (Kg b) λo=>some (o,(⟨#[110,111]⟩:ByteArray)))else(some (e.1,(⟨#[111,107]⟩:ByteArray))))else(B5h (bif decide ((a.length:Int)=2)then(xg (0<=(0:Int)/\(0:Int)<(a.length:Int))<|some (decide (el a 0=(⟨#[115,101,114,118,101]⟩:ByteArray))))else(some false)) λj=>bif j then(xg (0<=(1:Int)/\(1:Int)<(a.length:Int))<|B5h (Amp b (el a 1)) λh=>bif !h.2 then(B5h (Kg b) λm=>some (m,(⟨#[110,111]⟩:ByteArray)))else(some (h.1,(⟨#[111,107]⟩:ByteArray))))else(B5h (bif decide ((a.length:Int)=2)then(xg (0<=(0:Int)/\(0:Int)<(a.length:Int))<|some (decide (el a 0=(⟨#[112,105,99,107]⟩:ByteArray))))else(some false)) λn=>bif n then(xg (0<=(1:Int)/\(1:Int)<(a.length:Int))<|B5h (Oy (el a 1)) λc=>bif !c.2 then(B5h (Kg b) λl=>some (l,(⟨#[119,104,97,116]⟩:ByteArray)))else(B5h (Amj b c.1) λd=>bif !d.2 then(B5h (Kg b) λk=>some (k,(⟨#[110,111]⟩:ByteArray)))else(some (d.1,(⟨#[111,107]⟩:ByteArray)))))else(B5h (Kg b) λi=>some (i,(⟨#[119,104,97,116]⟩:ByteArray)))))
def W8:E amb:=en 6 [Eh,Cp] [J5,F3] (Ak Zl) Tryz.func6 [Blt,Aod,Bl9,Bmf,Bmi,Af7,Aat]
def Bba (_:List ByteArray) (_:Nat) (c:ByteArray) (b:List ByteArray) (j:Bool) (e:List DDoc) (f:List DSub) (l:Int) (d:List Int) (g:List DQueue) (k:List DTask) (i:Int):Option (Lr (List ByteArray×Bool×List DDoc×List DSub×Int×List Int×List DQueue×List DTask×Int) (List ByteArray×Bool×List DDoc×List DSub×Int×List Int×List DQueue×List DTask×Int)):=
 B5h (Zl (⟨(⟨j,e,f,l⟩:DHub),d,g,k,i⟩:DWorld) c) λa=>xg (b.length<1099511627776)<|some (Lr.go (b++[a.2],a.1.h.shut,a.1.h.docs,a.1.h.subs,a.1.h.last,a.1.locks,a.1.queues,a.1.tasks,a.1.step))
def Axi (b:List ByteArray) (c:Nat) (a:List ByteArray×Bool×List DDoc×List DSub×Int×List Int×List DQueue×List DTask×Int):Option (Lr (List ByteArray×Bool×List DDoc×List DSub×Int×List Int×List DQueue×List DTask×Int) (List ByteArray×Bool×List DDoc×List DSub×Int×List Int×List DQueue×List DTask×Int)):=Bba b c (el b c) a.1 a.2.1 a.2.2.1 a.2.2.2.1 a.2.2.2.2.1 a.2.2.2.2.2.1 a.2.2.2.2.2.2.1 a.2.2.2.2.2.2.2.1 a.2.2.2.2.2.2.2.2
def Amk (e:DWorld) (d:List ByteArray):Option (DWorld×List ByteArray):=
 B5h (Kg e) λc=>B5h (Ai (Axi d) (λa=>(a.1,a.2.1,a.2.2.1,a.2.2.2.1,a.2.2.2.2.1,a.2.2.2.2.2.1,a.2.2.2.2.2.2.1,a.2.2.2.2.2.2.2.1,a.2.2.2.2.2.2.2.2)) d.length 0 ([],c.h.shut,c.h.docs,c.h.subs,c.h.last,c.locks,c.queues,c.tasks,c.step)) λb=>some ((⟨(⟨b.2.1,b.2.2.1,b.2.2.2.1,b.2.2.2.2.1⟩:DHub),b.2.2.2.2.2.1,b.2.2.2.2.2.2.1,b.2.2.2.2.2.2.2.1,b.2.2.2.2.2.2.2.2⟩:DWorld),b.1)
def Aaq:E amb:=en 13 [Eh,K1] [J5,U4] (Ak Amk) Tryz.func13 [W8,Aat] [Da 0 17 16 [C1 7 2,.box 6 0 [.sc 1,.row (.b 7),.row (.b 9),.sc 0,.row (.b 0),.row (.b 11),.row (.b 14),.sc 0]]]
def Lk (l:List Int):Option (List Int):=
 xg (0+l.length<=1099511627776)<|some ([]++l)
def Tt:E amb:=en 100 [D4] [Jd] (Am Lk) Tryz.func100
def Baf (o:List DPart) (_:Nat) (a:DPart) (b:List DPart):Option (Lr (List DPart) (List DPart)):=
 B5h (Lk (a.signs)) λc=>xg (b.length<1099511627776)<|some (Lr.go (b++[(⟨a.kind,a.n,c⟩:DPart)]))
def Bag (o:List DPart) (a:Nat) (b:List DPart):Option (Lr (List DPart) (List DPart)):=Baf o a (el o a) b
def Zb (o:List DPart):Option (List DPart):=
 B5h (Ai (Bag o) (λa=>a) o.length 0 []) λb=>some b
def An4:E amb:=en 171 [B8] [Fz] (Am Zb) Tryz.func171 [Tt] [Da 0 8 7 [C1 3 4]]
def Bad (_:List DEntry) (_:Nat) (a:DEntry) (b:List DEntry):Option (Lr (List DEntry) (List DEntry)):=
 B5h (Zb (a.o)) λc=>xg (b.length<1099511627776)<|some (Lr.go (b++[(⟨a.client,a.seq,c⟩:DEntry)]))
def Bae (b:List DEntry) (a:Nat) (c:List DEntry):Option (Lr (List DEntry) (List DEntry)):=Bad b a (el b a) c
def Sx (a:List DEntry):Option (List DEntry):=
 B5h (Ai (Bae a) (λb=>b) a.length 0 []) λc=>some c
def Aai:E amb:=en 238 [N5] [Px] (Am Sx) Tryz.func238 [An4] [Da 0 8 7 [C1 3 5]]
def Qh (d:DDoc):Option DDoc:=
 B5h (Lk d.text) λa=>B5h (Sx d.list) λb=>xg (0+d.seen.length<=1099511627776)<|some (⟨d.name,d.from_,a,b,[]++d.seen⟩:DDoc)
def A0c:E amb:=en 172 [Ep] [U5] (Am Qh) Tryz.func172 [Aai,Tt]
def Qi (a:DRing):Option DRing:=
 B5h (Sx a.list) λb=>some (⟨a.cap,a.next,a.out,b⟩:DRing)
def An5:E amb:=en 173 [Jb] [Mc] (Am Qi) Tryz.func173 [Aai]
def Ak2 (_:DHub) (_:Nat) (d:DDoc) (e:Bool) (b:List DDoc) (c:Int):Option (Lr (Bool×List DDoc×Int) (Bool×List DDoc×Int)):=
 B5h (Qh d) λa=>xg (b.length+[a].length<=1099511627776)<|some (Lr.go (e,b++[a],c))
def Y9 (h:DHub) (b:Nat) (a:Bool×List DDoc×Int):Option (Lr (Bool×List DDoc×Int) (Bool×List DDoc×Int)):=Ak2 h b (el h.docs b) a.1 a.2.1 a.2.2
def Ak3 (_:DHub) (_:Nat) (a:DSub) (c:Bool) (f:List DDoc) (b:List DSub) (e:Int):Option (Lr (Bool×List DDoc×List DSub×Int) (Bool×List DDoc×List DSub×Int)):=
 B5h (Qi (a.r)) λd=>xg (b.length<1099511627776)<|some (Lr.go (c,f,b++[(⟨a.id,a.doc,d⟩:DSub)],e))
def Za (h:DHub) (b:Nat) (a:Bool×List DDoc×List DSub×Int):Option (Lr (Bool×List DDoc×List DSub×Int) (Bool×List DDoc×List DSub×Int)):=Ak3 h b (el h.subs b) a.1 a.2.1 a.2.2.1 a.2.2.2
def Ek (h:DHub):Option DHub:=
 B5h (Ai (Y9 h) (λc=>(c.1,c.2.1,c.2.2)) h.docs.length 0 (h.shut,[],h.last)) λd=>B5h (Ai (Za h) (λa=>(a.1,a.2.1,a.2.2.1,a.2.2.2)) h.subs.length 0 (d.1,d.2.1,[],d.2.2)) λb=>some (⟨b.1,b.2.1,b.2.2.1,b.2.2.2⟩:DHub)
def Bc5 (_:DHub) (_:Nat) (e:DDoc) (c:Bool) (b:List DDoc) (d:Int):Option (Lr (Bool×List DDoc×Int) (Bool×List DDoc×Int)):=
 B5h (Qh e) λa=>xg (b.length+[a].length<=1099511627776)<|some (Lr.go (c,b++[a],d))
def Bc7 (h:DHub) (b:Nat) (a:Bool×List DDoc×Int):Option (Lr (Bool×List DDoc×Int) (Bool×List DDoc×Int)):=Bc5 h b (el h.docs b) a.1 a.2.1 a.2.2
def Bc6 (_:DHub) (_:Nat) (a:DSub) (c:Bool) (f:List DDoc) (b:List DSub) (d:Int):Option (Lr (Bool×List DDoc×List DSub×Int) (Bool×List DDoc×List DSub×Int)):=
 B5h (Qi (a.r)) λe=>xg (b.length<1099511627776)<|some (Lr.go (c,f,b++[(⟨a.id,a.doc,e⟩:DSub)],d))
def Bc8 (h:DHub) (b:Nat) (a:Bool×List DDoc×List DSub×Int):Option (Lr (Bool×List DDoc×List DSub×Int) (Bool×List DDoc×List DSub×Int)):=Bc6 h b (el h.subs b) a.1 a.2.1 a.2.2.1 a.2.2.2
def Bc4 (h:DHub):Option DHub:=
 B5h (Ai (Bc7 h) (λc=>(c.1,c.2.1,c.2.2)) h.docs.length 0 (h.shut,[],h.last)) λd=>B5h (Ai (Bc8 h) (λa=>(a.1,a.2.1,a.2.2.1,a.2.2.2)) h.subs.length 0 (d.1,d.2.1,[],d.2.2)) λb=>some (⟨b.1,b.2.1,b.2.2.1,b.2.2.2⟩:DHub)
def Q4:E amb:=en 99 [D5] [Hk] (Am Ek) Tryz.func99 [A0c,An5] [Da 0 16 15 [.box 3 0 [.sc 1,.row (.b 7),.nl,.sc 0]],Da 2 31 30 [.box 3 0 [.sc 1,.row (.b 7),.row (.b 9),.sc 0]]] (hx:=λa=>Eq.trans (b:=Bc4 a.1) (by kernel_rfl) (show _=Ek a.1 by simp only[Ak2,Y9,Ak3,Za,Ek,Bc5,Bc7,Bc6,Bc8,Bc4,C2,D1,D8,Cj,Cm]<;>rfl))
def Adp (c:DCall):Option DCall:=
 B5h (Zb c.o) λb=>B5h (Lk c.text) λa=>some (⟨c.kind,c.doc,c.client,c.seq,c.n,b,a⟩:DCall)
def A0b:E amb:=en 98 [Gk] [Ab6] (Am Adp) Tryz.func98 [Tt,An4]
def Ak1 (a:DAnswer):Option DAnswer:=
 B5h (Lk a.text) λc=>B5h (Sx a.list) λb=>some (⟨a.code,a.rev,c,b⟩:DAnswer)
def Bjp:E amb:=en 174 [N6] [U6] (Am Ak1) Tryz.func174 [Aai,Tt]
def Bah (_:List DTask) (_:Nat) (b:DTask) (d:List DTask):Option (Lr (List DTask) (List DTask)):=
 B5h (Adp (b.c)) λe=>B5h (Ak1 (b.a)) λf=>xg (d.length<549755813888)<|some (Lr.go (d++[(⟨e,b.pc,b.inv,b.lin,b.res,f⟩:DTask)]))
def Avf (b:List DTask) (a:Nat) (c:List DTask):Option (Lr (List DTask) (List DTask)):=Bah b a (el b a) c
def Ak4 (a:List DTask):Option (List DTask):=
 B5h (Ai (Avf a) (λb=>b) a.length 0 []) λc=>some c
def Bjq:E amb:=en 101 [Uw] [⟨true,.sl (.b 14),false⟩] (Am Ak4) Tryz.func101 [Bjp,A0b] [Da 0 8 7 [C1 3 14]]
def Bai (_:DWorld) (_:Nat) (a:DQueue) (d:Bool) (j:List DDoc) (e:List DSub) (f:Int) (i:List Int) (c:List DQueue) (h:List DTask) (g:Int):Option (Lr (Bool×List DDoc×List DSub×Int×List Int×List DQueue×List DTask×Int) (Bool×List DDoc×List DSub×Int×List Int×List DQueue×List DTask×Int)):=
 B5h (Lk (a.list)) λb=>xg (c.length+[(⟨a.doc,b⟩:DQueue)].length<=1099511627776)<|some (Lr.go (d,j,e,f,i,c++[(⟨a.doc,b⟩:DQueue)],h,g))
def Avg (c:DWorld) (b:Nat) (a:Bool×List DDoc×List DSub×Int×List Int×List DQueue×List DTask×Int):Option (Lr (Bool×List DDoc×List DSub×Int×List Int×List DQueue×List DTask×Int) (Bool×List DDoc×List DSub×Int×List Int×List DQueue×List DTask×Int)):=Bai c b (el c.queues b) a.1 a.2.1 a.2.2.1 a.2.2.2.1 a.2.2.2.2.1 a.2.2.2.2.2.1 a.2.2.2.2.2.2.1 a.2.2.2.2.2.2.2
def Ll (c:DWorld):Option DWorld:=
 B5h (Ek c.h) λd=>B5h (Lk c.locks) λf=>B5h (Ak4 c.tasks) λe=>B5h (Ai (Avg c) (λa=>(a.1,a.2.1,a.2.2.1,a.2.2.2.1,a.2.2.2.2.1,a.2.2.2.2.2.1,a.2.2.2.2.2.2.1,a.2.2.2.2.2.2.2)) c.queues.length 0 (d.shut,d.docs,d.subs,d.last,f,[],e,c.step)) λb=>some (⟨(⟨b.1,b.2.1,b.2.2.1,b.2.2.2.1⟩:DHub),b.2.2.2.2.1,b.2.2.2.2.2.1,b.2.2.2.2.2.2.1,b.2.2.2.2.2.2.2⟩:DWorld)
def Tu:E amb:=en 40 [Eh] [J5] (Am Ll) Tryz.func40 [Q4,Tt,Bjq] [Da 0 21 20 [.box 3 0 [.sc 1,.row (.b 7),.row (.b 9),.sc 0,.row (.b 0),.row (.b 11),.row (.b 14),.sc 0]]]
def Y5 (s:ByteArray):Option (List ByteArray):=
 B5h (Vw s (⟨#[32]⟩:ByteArray)) λa=>some a
def Anz:E amb:=en 34 [Cp] [U4] (Am Y5) Tryz.func34 [Az0]
def Bk (n:Int) (b:Int) (a:Int):Option Bool:=
 B5h (bif decide (b<=n)then(some (decide (n<=a)))else(some false)) λc=>some c
def F9:E amb:=en 146 [Ap,Ap,Ap] [Aq] (H4 Bk) Tryz.func146
def Ac3 (k:Int):Option ByteArray:=
 B5h (Bk k 1 8) λa=>bif !a then(some (⟨#[]⟩:ByteArray))else(xg (Ae (k-1))<|xg (0<=(k-1)/\(k-1)<([(⟨#[111,112,101,110]⟩:ByteArray),(⟨#[115,117,98,109,105,116]⟩:ByteArray),(⟨#[102,101,116,99,104]⟩:ByteArray),(⟨#[115,110,97,112]⟩:ByteArray),(⟨#[115,117,98]⟩:ByteArray),(⟨#[112,111,108,108]⟩:ByteArray),(⟨#[114,101,115,121,110,99]⟩:ByteArray),(⟨#[115,104,117,116]⟩:ByteArray)].length:Int))<|some (el [(⟨#[111,112,101,110]⟩:ByteArray),(⟨#[115,117,98,109,105,116]⟩:ByteArray),(⟨#[102,101,116,99,104]⟩:ByteArray),(⟨#[115,110,97,112]⟩:ByteArray),(⟨#[115,117,98]⟩:ByteArray),(⟨#[112,111,108,108]⟩:ByteArray),(⟨#[114,101,115,121,110,99]⟩:ByteArray),(⟨#[115,104,117,116]⟩:ByteArray)] ((k-1).toNat)))
def Az3:E amb:=en 82 [Ap] [F3] (Am Ac3) Tryz.func82 [F9]
def Lj (k:Int):Option Bool:=
 B5h (Bk k 1 5) λa=>some a
def Q2:E amb:=en 83 [Ap] [Aq] (Am Lj) Tryz.func83 [F9]
def D7 (n:Int):Option ByteArray:=
 B5h (Bk n 0 1000000000) λb=>bif !b then(some (⟨#[]⟩:ByteArray))else(B5h (Ac1 n) λa=>some a)
def Afw:E amb:=en 154 [Ap] [F3] (Am D7) Tryz.func154 [Bim,F9]
def Adl (s:ByteArray):Option (Int×Bool):=
 xg (s.size<=281474976710656)<|B5h (bif !(Hr s).2 then some true else some (decide (s=(⟨#[]⟩:ByteArray)))) λc=>B5h (bif c then some true else B5h (D7 (Hr s).1) λr=>some (!decide (r=s))) λc=>bif c then some (0,false)else some ((Hr s).1,true)
def Az9:E amb:=en 87 [Cp] [A0,Aq] (Am Adl) Tryz.func87 [Afw] (inl:=Ap5) (hi:=Bp8 (by simp))
def Bam (_:List ByteArray) (_:Nat) (c:ByteArray) (a:List Int):Option (Lr (List Int) (Sum (List Int) (List Int×Bool))):=
 B5h (Adl c) λb=>bif !b.2 then(some (Lr.out (B6e ([],false))))else(xg (a.length<1099511627776)<|some (Lr.go (a++[b.1])))
def Avq (b:List ByteArray) (a:Nat) (c:List Int):Option (Lr (List Int) (Sum (List Int) (List Int×Bool))):=Bam b a (el b a) c
def Adu (s:ByteArray):Option (List Int×Bool):=
 B5h (Vw s (⟨#[46]⟩:ByteArray)) λa=>B5h (Ai (Avq a) (λb=>(.inl b)) a.length 0 []) λc=>B59 (λd=>some (d,true)) (λe=>some e) c
def A0g:E amb:=en 147 [Cp] [Jd,Aq] (Am Adu) Tryz.func147 [Az0,Az9] [B5 0 12 11 [C1 4 0]]
def Adg (n:Int):Option Bool:=
 B5h (Bk n 0 1114111) λb=>B5h (bif b then(B5h (Bk n 55296 57343) λc=>some (!c))else(some false)) λa=>some a
def Bjh:E amb:=en 212 [Ap] [Aq] (Am Adg) Tryz.func212 [F9]
def Ava (l:List Int) (_:Nat) (a:Int):Option (Lr Unit (Sum Unit Unit)):=
 B5h (Adg a) λb=>bif !b then(some (Lr.out (B6e (()))))else(some (Lr.go ()))
def Avb (l:List Int) (a:Nat) (_:Unit):Option (Lr Unit (Sum Unit Unit)):=Ava l a (el l a)
def Oq (l:List Int):Option Bool:=
 B5h (Ai (Avb l) (λ_=>(.inl ())) l.length 0 ()) λa=>B59 (λ_=>some true) (λ_=>some false) a
def Bcu (l:List Int) (_:Nat) (a:Int):Option (Lr Unit (Sum Unit Bool)):=
 B5h (Adg a) λb=>bif !b then(some (Lr.out (B6e false)))else(some (Lr.go ()))
def Bcv (l:List Int) (a:Nat) (_:Unit):Option (Lr Unit (Sum Unit Bool)):=Bcu l a (el l a)
def Bct (l:List Int):Option Bool:=
 B5h (Ai (Bcv l) (λ_=>(.inl ())) l.length 0 ()) λa=>B59 (λ_=>some true) (λb=>some b) a
def Afz:E amb:=en 148 [D4] [Aq] (Am Oq) Tryz.func148 [Bjh] [B5 0 7 6 []] (hx:=λa=>Eq.trans (b:=Bct a.1) (by kernel_rfl) (show _=Oq a.1 by simp only[Ava,Avb,Oq,Bcu,Bcv,Bct,C2,Cq,D8,Cj,Cm,Cy,Df,Dg]<;>rfl))
def Aky (s:ByteArray):Option (List Int×Bool):=
 bif decide (s=(⟨#[45]⟩:ByteArray))then(some ([],true))else(B5h (Adu s) λa=>B5h (bif !a.2 then(some true)else(B5h (Oq a.1) λb=>some (!b))) λc=>bif c then(some ([],false))else(some (a.1,true)))
def Bjn:E amb:=en 84 [Cp] [Jd,Aq] (Am Aky) Tryz.func84 [Afz,A0g]
def Add (p:DPart):Option Bool:=
 bif decide (p.kind=1)then(bif decide (p.kind=1)then(B5h (Bk p.n 0 200) λi=>B5h (bif i then(some (decide ((p.signs.length:Int)=0)))else(some false)) λf=>some f)else(bif decide (p.kind=2)then(B5h (bif decide (p.n=0)then(some (decide ((p.signs.length:Int)<=200)))else(some false)) λa=>B5h (bif a then(B5h (Oq p.signs) λj=>some j)else(some false)) λg=>some g)else(some false)))else(bif decide (p.kind=3)then(B5h (Bk p.n 0 200) λc=>B5h (bif c then(some (decide ((p.signs.length:Int)=0)))else(some false)) λd=>some d)else(bif decide (p.kind=2)then(B5h (bif decide (p.n=0)then(some (decide ((p.signs.length:Int)<=200)))else(some false)) λe=>B5h (bif e then(B5h (Oq p.signs) λb=>some b)else(some false)) λh=>some h)else(some false)))
def Bi7:E amb:=en 236 [N4] [Aq] (Am Add) Tryz.func236 [Afz,F9]
def Avj (o:List DPart) (_:Nat) (a:DPart):Option (Lr Unit (Sum Unit Unit)):=
 B5h (Add a) λb=>bif !b then(some (Lr.out (B6e (()))))else(some (Lr.go ()))
def Avk (o:List DPart) (a:Nat) (_:Unit):Option (Lr Unit (Sum Unit Unit)):=Avj o a (el o a)
def Sy (o:List DPart):Option Bool:=
 B5h (Ai (Avk o) (λ_=>(.inl ())) o.length 0 ()) λa=>B59 (λ_=>some (decide ((o.length:Int)<=600))) (λ_=>some false) a
def Bdd (o:List DPart) (_:Nat) (b:DPart):Option (Lr Unit (Sum Unit Bool)):=
 B5h (Add b) λa=>bif !a then(some (Lr.out (B6e false)))else(some (Lr.go ()))
def Bde (o:List DPart) (a:Nat) (_:Unit):Option (Lr Unit (Sum Unit Bool)):=Bdd o a (el o a)
def Bdc (o:List DPart):Option Bool:=
 B5h (Ai (Bde o) (λ_=>(.inl ())) o.length 0 ()) λa=>B59 (λ_=>some (decide ((o.length:Int)<=600))) (λb=>some b) a
def An7:E amb:=en 167 [B8] [Aq] (Am Sy) Tryz.func167 [Bi7] [B5 0 7 6 []] (hx:=λa=>Eq.trans (b:=Bdc a.1) (by kernel_rfl) (show _=Sy a.1 by simp only[Avj,Avk,Sy,Bdd,Bde,Bdc,C2,Cq,D8,Cj,Cm,Cy,Df,Dg]<;>rfl))
def Ms (t:List Int):Option Bool:=
 B5h (bif decide ((t.length:Int)<=200)then(B5h (Oq t) λa=>some a)else(some false)) λb=>some b
def Aag:E amb:=en 168 [D4] [Aq] (Am Ms) Tryz.func168 [Afz]
def Ala (c:DCall):Option DCall:=
 B5h (Lj c.kind) λa=>bif a then(bif decide (c.kind=1)then(some (⟨c.kind,c.doc,0,0,0,[],c.text⟩:DCall))else(bif decide (c.kind=2)then(some (⟨c.kind,c.doc,c.client,c.seq,c.n,c.o,[]⟩:DCall))else(bif decide (c.kind=3)then(bif decide (c.kind=3)then(some (⟨c.kind,c.doc,0,0,c.n,[],[]⟩:DCall))else(bif decide (c.kind=6)then(some (⟨c.kind,c.doc,c.client,0,c.n,[],[]⟩:DCall))else(bif decide (c.kind=7)then(some (⟨c.kind,c.doc,c.client,0,0,[],[]⟩:DCall))else(some (⟨c.kind,c.doc,0,0,0,[],[]⟩:DCall)))))else(bif decide (c.kind=5)then(some (⟨c.kind,c.doc,0,0,c.n,[],[]⟩:DCall))else(bif decide (c.kind=6)then(some (⟨c.kind,c.doc,c.client,0,c.n,[],[]⟩:DCall))else(bif decide (c.kind=7)then(some (⟨c.kind,c.doc,c.client,0,0,[],[]⟩:DCall))else(some (⟨c.kind,c.doc,0,0,0,[],[]⟩:DCall))))))))else(bif decide (c.kind=1)then(some (⟨c.kind,B52,0,0,0,[],c.text⟩:DCall))else(bif decide (c.kind=2)then(some (⟨c.kind,B52,c.client,c.seq,c.n,c.o,[]⟩:DCall))else(bif decide (c.kind=3)then(bif decide (c.kind=3)then(some (⟨c.kind,B52,0,0,c.n,[],[]⟩:DCall))else(bif decide (c.kind=6)then(some (⟨c.kind,B52,c.client,0,c.n,[],[]⟩:DCall))else(bif decide (c.kind=7)then(some (⟨c.kind,B52,c.client,0,0,[],[]⟩:DCall))else(some (⟨c.kind,B52,0,0,0,[],[]⟩:DCall)))))else(bif decide (c.kind=5)then(some (⟨c.kind,B52,0,0,c.n,[],[]⟩:DCall))else(bif decide (c.kind=6)then(some (⟨c.kind,B52,c.client,0,c.n,[],[]⟩:DCall))else(bif decide (c.kind=7)then(some (⟨c.kind,B52,c.client,0,0,[],[]⟩:DCall))else(some (⟨c.kind,B52,0,0,0,[],[]⟩:DCall))))))))
def Bj0:E amb:=en 170 [Gk] [⟨false,.b 12,false⟩] (Am Ala) Tryz.func170 [Q2]
def Awv (b:List Int) (_:List Int) (a:Nat) (c:Int):Option (Lr Unit (Sum Unit Unit)):=
 xg (0<=(a:Int)/\(a:Int)<(b.length:Int))<|bif !decide (c=(el b a))then(some (Lr.out (B6e (()))))else(some (Lr.go ()))
def Aww (c:List Int) (b:List Int) (a:Nat) (_:Unit):Option (Lr Unit (Sum Unit Unit)):=Awv c b a (el b a)
def Ow (a:List Int) (b:List Int):Option Bool:=
 bif !decide ((a.length:Int)=(b.length:Int))then(some false)else(B5h (Ai (Aww b a) (λ_=>(.inl ())) a.length 0 ()) λc=>B59 (λ_=>some true) (λ_=>some false) c)
def Bd2 (b:List Int) (_:List Int) (a:Nat) (c:Int):Option (Lr Unit (Sum Unit Bool)):=
 xg (0<=(a:Int)/\(a:Int)<(b.length:Int))<|bif !decide (c=(el b a))then(some (Lr.out (B6e false)))else(some (Lr.go ()))
def Bd3 (c:List Int) (a:List Int) (b:Nat) (_:Unit):Option (Lr Unit (Sum Unit Bool)):=Bd2 c a b (el a b)
def Bd1 (a:List Int) (b:List Int):Option Bool:=
 bif !decide ((a.length:Int)=(b.length:Int))then(some false)else(B5h (Ai (Bd3 b a) (λ_=>(.inl ())) a.length 0 ()) λc=>B59 (λ_=>some true) (λd=>some d) c)
def Af2:E amb:=en 159 [D4,D4] [Aq] (Ak Ow) Tryz.func159 [] [B5 0 13 12 []] (hx:=λa=>Eq.trans (b:=Bd1 a.1 a.2.1) (by kernel_rfl) (show _=Ow a.1 a.2.1 by simp only[Awv,Aww,Ow,Bd2,Bd3,Bd1,C2,Cq,D1,Cj,Cm,Cy,Df,Dg]<;>rfl))
def Adv (a:DPart) (b:DPart):Option Bool:=
 B5h (bif decide (a.kind=b.kind)then(some (decide (a.n=b.n)))else(some false)) λd=>B5h (bif d then(B5h (Ow a.signs b.signs) λc=>some c)else(some false)) λe=>some e
def Bjy:E amb:=en 299 [N4,N4] [Aq] (Ak Adv) Tryz.func299 [Af2]
def Awt (b:List DPart) (_:List DPart) (a:Nat) (d:DPart):Option (Lr Unit (Sum Unit Unit)):=
 xg (0<=(a:Int)/\(a:Int)<(b.length:Int))<|B5h (Adv d (el b a)) λc=>bif !c then(some (Lr.out (B6e (()))))else(some (Lr.go ()))
def Awu (c:List DPart) (b:List DPart) (a:Nat) (_:Unit):Option (Lr Unit (Sum Unit Unit)):=Awt c b a (el b a)
def Ad2 (a:List DPart) (b:List DPart):Option Bool:=
 bif !decide ((a.length:Int)=(b.length:Int))then(some false)else(B5h (Ai (Awu b a) (λ_=>(.inl ())) a.length 0 ()) λc=>B59 (λ_=>some true) (λ_=>some false) c)
def Bdz (b:List DPart) (_:List DPart) (a:Nat) (c:DPart):Option (Lr Unit (Sum Unit Bool)):=
 xg (0<=(a:Int)/\(a:Int)<(b.length:Int))<|B5h (Adv c (el b a)) λd=>bif !d then(some (Lr.out (B6e false)))else(some (Lr.go ()))
def Bd0 (c:List DPart) (b:List DPart) (a:Nat) (_:Unit):Option (Lr Unit (Sum Unit Bool)):=Bdz c b a (el b a)
def Bdy (a:List DPart) (b:List DPart):Option Bool:=
 bif !decide ((a.length:Int)=(b.length:Int))then(some false)else(B5h (Ai (Bd0 b a) (λ_=>(.inl ())) a.length 0 ()) λd=>B59 (λ_=>some true) (λc=>some c) d)
def Blm:E amb:=en 298 [B8,B8,.fn 299 0] [Aq] (Ak Ad2) Tryz.func298 [Bjy] [B5 0 17 16 []] (hx:=λa=>Eq.trans (b:=Bdy a.1 a.2.1) (by kernel_rfl) (show _=Ad2 a.1 a.2.1 by simp only[Awt,Awu,Ad2,Bdz,Bd0,Bdy,C2,Cq,D1,D8,Cj,Cm,Cy,Df,Dg]<;>rfl))
def Y7 (a:List DPart) (b:List DPart):Option Bool:=
 B5h (Ad2 a b) λc=>some c
def An2:E amb:=en 237 [B8,B8] [Aq] (Ak Y7) Tryz.func237 [Blm]
def Aka (a:DCall) (b:DCall):Option Bool:=
 B5h (bif decide (a.kind=b.kind)then(some (decide (a.doc=b.doc)))else(some false)) λf=>B5h (bif f then(some (decide (a.client=b.client)))else(some false)) λe=>B5h (bif e then(some (decide (a.seq=b.seq)))else(some false)) λg=>B5h (bif g then(some (decide (a.n=b.n)))else(some false)) λc=>B5h (bif c then(B5h (Y7 a.o b.o) λh=>some h)else(some false)) λj=>B5h (bif j then(B5h (Ow a.text b.text) λd=>some d)else(some false)) λi=>some i
def Bio:E amb:=en 169 [Gk,Gk] [Aq] (Ak Aka) Tryz.func169 [An2,Af2]
def Vx (c:DCall):Option Bool:=
 B5h (Bk c.kind 1 8) λh=>B5h (bif h then(some (decide ((c.doc.size:Int)<=8)))else(some false)) λd=>B5h (bif d then(B5h (Sy c.o) λj=>some j)else(some false)) λa=>B5h (bif a then(B5h (Ms c.text) λi=>some i)else(some false)) λb=>B5h (bif b then(B5h (Ala c) λf=>B5h (Aka c f) λg=>some g)else(some false)) λe=>some e
def Afv:E amb:=en 97 [Gk] [Aq] (Am Vx) Tryz.func97 [Bio,Aag,An7,Bj0,F9]
def Kc (p:DPart):Option Int:=
 xg (Ae (p.n+(p.signs.length:Int)))<|some (p.n+(p.signs.length:Int))
def Af1:E amb:=en 319 [N4] [A0] (Am Kc) Tryz.func319
def Bao (d:Int) (o:List DPart) (_:Nat) (c:DPart) (a:Int):Option (Lr Int Int):=
 bif !decide ((c.kind)=d)then(B5h (Kc c) λb=>xg (Ae (a+b))<|some (Lr.go (a+b)))else(some (Lr.go a))
def Bap (b:Int) (o:List DPart) (a:Nat) (c:Int):Option (Lr Int Int):=Bao b o a (el o a) c
def Adw (o:List DPart) (b:Int):Option Int:=
 B5h (Sy o) λd=>bif !d then(some 0)else(B5h (Ai (Bap b o) (λa=>a) o.length 0 0) λc=>some c)
def A0i:E amb:=en 274 [B8,Ap] [A0] (Ak Adw) Tryz.func274 [An7,Af1] [Da 0 13 12 [Ax 5]]
def Mq (o:List DPart):Option Int:=
 B5h (Adw o 2) λa=>some a
def Afx:E amb:=en 216 [B8] [A0] (Am Mq) Tryz.func216 [A0i]
def Akl (o:List DPart):Option Int:=
 B5h (Adw o 3) λa=>some a
def Bi5:E amb:=en 217 [B8] [A0] (Am Akl) Tryz.func217 [A0i]
def Fp (o:List DPart):Option Bool:=
 B5h (Sy o) λd=>B5h (bif d then(B5h (Mq o) λb=>some (decide (b<=200)))else(some false)) λc=>B5h (bif c then(B5h (Akl o) λa=>some (decide (a<=200)))else(some false)) λe=>some e
def M6:E amb:=en 151 [B8] [Aq] (Am Fp) Tryz.func151 [Afx,Bi5,An7]
def Au3 (s:ByteArray) (a:Int):Option (Lr Int (Sum Unit Unit)):=
 bif decide (a<(s.size:Int))then(xg (0<=a/\a<(s.size:Int))<|B5h (bif decide (((Bz s a.toNat).toNat:Int)<97)then(some true)else(xg (0<=a/\a<(s.size:Int))<|some (decide ((122:Int)<((Bz s a.toNat).toNat:Int))))) λb=>bif b then(some (Lr.out (B6e (()))))else(xg (Ae (a+1))<|some (Lr.go (a+1))))else(some (Lr.out (B7k ())))
def Y6 (s:ByteArray) (a:Int):Option (Lr Int (Sum Unit Unit)):=Au3 s a
def Jl (s:ByteArray):Option Bool:=
 B5h (Bc (Y6 s) 0) λa=>B59 (λ_=>B5h (Bk (s.size:Int) 1 8) λb=>some b) (λ_=>some false) a
def Bcl (s:ByteArray) (a:Int):Option (Lr Int (Sum Int Bool)):=
 bif decide (a<(s.size:Int))then(xg (0<=a/\a<(s.size:Int))<|B5h (bif decide (((Bz s a.toNat).toNat:Int)<97)then(some true)else(xg (0<=a/\a<(s.size:Int))<|some (decide ((122:Int)<((Bz s a.toNat).toNat:Int))))) λb=>bif b then(some (Lr.out (B6e false)))else(xg (Ae (a+1))<|some (Lr.go (a+1))))else(some (Lr.out (B7k a)))
def Bcm (s:ByteArray) (a:Int):Option (Lr Int (Sum Int Bool)):=Bcl s a
def Bck (s:ByteArray):Option Bool:=
 B5h (Bc (Bcm s) 0) λa=>B59 (λ_=>B5h (Bk (s.size:Int) 1 8) λb=>some b) (λc=>some c) a
def An1:E amb:=en 152 [Cp] [Aq] (Am Jl) Tryz.func152 [F9] [D9 0 [Ax 3]] (hx:=λa=>Eq.trans (b:=Bck a.1) (by kernel_rfl) (show _=Jl a.1 by simp only[Au3,Y6,Jl,Bcl,Bcm,Bck,Rh,Cq,D1,Cj,cond_true,Cm,Cy,Df,Dg]<;>rfl))
def Baj (l:List Int) (_:Nat) (b:Int) (a:List ByteArray):Option (Lr (List ByteArray) (List ByteArray)):=
 B5h (D7 b) λc=>xg (a.length<1099511627776)<|some (Lr.go (a++[c]))
def Bak (l:List Int) (a:Nat) (b:List ByteArray):Option (Lr (List ByteArray) (List ByteArray)):=Baj l a (el l a) b
def Adq (l:List Int):Option ByteArray:=
 B5h (Ai (Bak l) (λc=>c) l.length 0 []) λa=>B5h (Vu a (⟨#[46]⟩:ByteArray)) λb=>some b
def A0d:E amb:=en 218 [D4] [F3] (Am Adq) Tryz.func218 [Azy,Afw] [Da 0 8 7 [C1 3 2]]
def Adh (l:List Int):Option ByteArray:=
 B5h (Oq l) λa=>bif !a then(some (⟨#[]⟩:ByteArray))else(bif decide ((l.length:Int)=0)then(some (⟨#[45]⟩:ByteArray))else(B5h (Adq l) λb=>some b))
def Bji:E amb:=en 153 [D4] [F3] (Am Adh) Tryz.func153 [Afz,A0d]
def V2 (p:List Int) (a:List DPart) (b:Int):Option (List Int×List DPart×Int):=
 bif decide ((0:Int)<(p.length:Int))then(xg (a.length<1099511627776)<|bif decide ((0:Int)<b)then(xg ((a++[(⟨2,0,p⟩:DPart)]).length<1099511627776)<|some ([],(a++[(⟨2,0,p⟩:DPart)])++[(⟨3,b,[]⟩:DPart)],0))else(some ([],a++[(⟨2,0,p⟩:DPart)],0)))else(bif decide ((0:Int)<b)then(xg (a.length<1099511627776)<|some ([],a++[(⟨3,b,[]⟩:DPart)],0))else(some ([],a,0)))
def Bjs:E amb:=en 316 [.box .ow (.sl (.b 0)),.box .ow (.sl (.b 4)),.box .ow (.b 0)] [] (H4 V2) Tryz.func316
def Avh (o:List DPart) (_:Nat) (b:DPart) (c:List Int) (d:Int) (e:List DPart):Option (Lr (List Int×Int×List DPart) (List DPart×List Int×Int)):=
 bif decide ((b.kind)=2)then(xg (c.length+(b.signs).length<=1099511627776)<|some (Lr.go (c++(b.signs),d,e)))else(bif decide ((b.kind)=3)then(xg (Ae (d+(b.n)))<|some (Lr.go (c,d+(b.n),e)))else(bif decide ((0:Int)<(b.n))then(B5h (V2 c e d) λa=>B5h (bif decide ((0:Int)<(a.2.1.length:Int))then(xg (Ae ((a.2.1.length:Int)-1))<|xg (0<=((a.2.1.length:Int)-1)/\((a.2.1.length:Int)-1)<(a.2.1.length:Int))<|some (decide (((el a.2.1 (((a.2.1.length:Int)-1).toNat)).kind)=1)))else(some false)) λf=>bif f then(xg (Ae ((a.2.1.length:Int)-1))<|xg (0<=((a.2.1.length:Int)-1)/\((a.2.1.length:Int)-1)<(a.2.1.length:Int))<|xg (Ae (((el a.2.1 (((a.2.1.length:Int)-1).toNat)).n)+(b.n)))<|xg (0<=((a.2.1.length:Int)-1)/\((a.2.1.length:Int)-1)<(a.2.1.length:Int))<|some (Lr.go (a.1,a.2.2,a.2.1.set (((a.2.1.length:Int)-1).toNat) (⟨(el a.2.1 (((a.2.1.length:Int)-1).toNat)).kind,((el a.2.1 (((a.2.1.length:Int)-1).toNat)).n)+(b.n),(el a.2.1 (((a.2.1.length:Int)-1).toNat)).signs⟩:DPart))))else(xg (a.2.1.length<1099511627776)<|some (Lr.go (a.1,a.2.2,a.2.1++[(⟨1,b.n,[]⟩:DPart)]))))else(some (Lr.go (c,d,e)))))
def Ak5 (o:List DPart) (b:Nat) (a:List Int×Int×List DPart):Option (Lr (List Int×Int×List DPart) (List DPart×List Int×Int)):=Avh o b (el o b) a.1 a.2.1 a.2.2
def Ou (o:List DPart):Option (List DPart):=
 B5h (Ai (Ak5 o) (λa=>(a.2.2,a.1,a.2.1)) o.length 0 ([],0,[])) λb=>B5h (V2 b.2.1 b.1 b.2.2) λc=>some c.2.1
def Bda (o:List DPart) (_:Nat) (b:DPart) (d:List Int) (c:Int) (e:List DPart):Option (Lr (List Int×Int×List DPart) (List Int×Int×List DPart)):=
 bif decide ((b.kind)=2)then(xg (d.length+(b.signs).length<=1099511627776)<|some (Lr.go (d++(b.signs),c,e)))else(bif decide ((b.kind)=3)then(xg (Ae (c+(b.n)))<|some (Lr.go (d,c+(b.n),e)))else(bif decide ((0:Int)<(b.n))then(B5h (V2 d e c) λa=>B5h (bif decide ((0:Int)<(a.2.1.length:Int))then(xg (Ae ((a.2.1.length:Int)-1))<|xg (0<=((a.2.1.length:Int)-1)/\((a.2.1.length:Int)-1)<(a.2.1.length:Int))<|some (decide (((el a.2.1 (((a.2.1.length:Int)-1).toNat)).kind)=1)))else(some false)) λf=>bif f then(xg (Ae ((a.2.1.length:Int)-1))<|xg (0<=((a.2.1.length:Int)-1)/\((a.2.1.length:Int)-1)<(a.2.1.length:Int))<|xg (Ae (((el a.2.1 (((a.2.1.length:Int)-1).toNat)).n)+(b.n)))<|xg (0<=((a.2.1.length:Int)-1)/\((a.2.1.length:Int)-1)<(a.2.1.length:Int))<|some (Lr.go (a.1,a.2.2,a.2.1.set (((a.2.1.length:Int)-1).toNat) (⟨(el a.2.1 (((a.2.1.length:Int)-1).toNat)).kind,((el a.2.1 (((a.2.1.length:Int)-1).toNat)).n)+(b.n),(el a.2.1 (((a.2.1.length:Int)-1).toNat)).signs⟩:DPart))))else(xg (a.2.1.length<1099511627776)<|some (Lr.go (a.1,a.2.2,a.2.1++[(⟨1,b.n,[]⟩:DPart)]))))else(some (Lr.go (d,c,e)))))
def Bdb (o:List DPart) (b:Nat) (a:List Int×Int×List DPart):Option (Lr (List Int×Int×List DPart) (List Int×Int×List DPart)):=Bda o b (el o b) a.1 a.2.1 a.2.2
def Bc9 (o:List DPart):Option (List DPart):=
 B5h (Ai (Bdb o) (λa=>(a.1,a.2.1,a.2.2)) o.length 0 ([],0,[])) λb=>B5h (V2 b.1 b.2.2 b.2.1) λc=>some c.2.1
def A0e:E amb:=en 270 [B8] [Fz] (Am Ou) Tryz.func270 [Bjs] [Da 0 13 12 [.box 4 0 [.row (.b 0)],.box 5 0 [.sc 0],.box 3 0 [.row (.b 4)]]] (hx:=λa=>Eq.trans (b:=Bc9 a.1) (by kernel_rfl) (show _=Ou a.1 by simp only[Avh,Ak5,Ou,Bda,Bdb,Bc9,C2,Cq,D1,D8,Cj,cond_false,Cm]<;>rfl))
def Su (o:List DPart):Option (List DPart):=
 B5h (Fp o) λb=>bif !b then(some [])else(B5h (Ou o) λa=>some a)
def Afy:E amb:=en 214 [B8] [Fz] (Am Su) Tryz.func214 [M6,A0e]
def A95 (_:List DPart) (_:Nat) (b:DPart) (a:List ByteArray):Option (Lr (List ByteArray) (List ByteArray)):=
 bif decide ((b.kind)=1)then(B5h (D7 (b.n)) λd=>xg ((⟨#[107]⟩:ByteArray).size+d.size<=9223372036854775807)<|xg (a.length<1099511627776)<|some (Lr.go (a++[(⟨#[107]⟩:ByteArray)++d])))else(bif decide ((b.kind)=3)then(B5h (D7 (b.n)) λc=>xg ((⟨#[100]⟩:ByteArray).size+c.size<=9223372036854775807)<|xg (a.length<1099511627776)<|some (Lr.go (a++[(⟨#[100]⟩:ByteArray)++c])))else(B5h (Adq (b.signs)) λe=>xg ((⟨#[112]⟩:ByteArray).size+e.size<=9223372036854775807)<|xg (a.length<1099511627776)<|some (Lr.go (a++[(⟨#[112]⟩:ByteArray)++e]))))
def A96 (a:List DPart) (b:Nat) (c:List ByteArray):Option (Lr (List ByteArray) (List ByteArray)):=A95 a b (el a b) c
def Adc (o:List DPart):Option ByteArray:=
 B5h (Fp o) λc=>bif !c then(some (⟨#[]⟩:ByteArray))else(B5h (Su o) λa=>B5h (Ai (A96 a) (λe=>e) a.length 0 []) λb=>bif decide ((b.length:Int)=0)then(some (⟨#[45]⟩:ByteArray))else(B5h (Vu b (⟨#[32]⟩:ByteArray)) λd=>some d))
def Az6:E amb:=en 213 [B8] [F3] (Am Adc) Tryz.func213 [Azy,Afw,Afy,M6,A0d] [Da 0 12 11 [C1 3 2]]
def Ads (o:List DPart):Option ByteArray:=
 B5h (Adc o) λa=>B5h (Vv a (⟨#[32]⟩:ByteArray) (⟨#[44]⟩:ByteArray)) λb=>some b
def Bjt:E amb:=en 155 [B8] [F3] (Am Ads) Tryz.func155 [Azz,Az6]
def Li (c:DCall):Option ByteArray:=
 B5h (Vx c) λT=>B5h (bif !T then(some true)else(B5h (Fp c.o) λL=>some (!L))) λP=>B5h (bif P then(some true)else(B5h (Lj c.kind) λM=>B5h (bif M then(B5h (Jl c.doc) λF=>some (!F))else(some false)) λO=>some O)) λI=>B5h (bif I then(some true)else(B5h (Bk c.client 0 1000000000) λH=>some (!H))) λR=>B5h (bif R then(some true)else(B5h (Bk c.seq 0 1000000000) λK=>some (!K))) λQ=>B5h (bif Q then(some true)else(B5h (Bk c.n 0 1000000000) λN=>some (!N))) λG=>bif G then(some (⟨#[]⟩:ByteArray))else(B5h (Ac3 c.kind) λa=>B5h (Lj c.kind) λS=>bif S then(xg ((⟨#[32]⟩:ByteArray).size+c.doc.size<=9223372036854775807)<|xg (a.size+((⟨#[32]⟩:ByteArray)++c.doc).size<=9223372036854775807)<|bif decide (c.kind=1)then(B5h (Adh c.text) λt=>xg ((⟨#[32]⟩:ByteArray).size+t.size<=9223372036854775807)<|xg ((a++((⟨#[32]⟩:ByteArray)++c.doc)).size+((⟨#[32]⟩:ByteArray)++t).size<=9223372036854775807)<|some ((a++((⟨#[32]⟩:ByteArray)++c.doc))++((⟨#[32]⟩:ByteArray)++t)))else(bif decide (c.kind=2)then(B5h (D7 c.client) λb=>xg ((⟨#[32]⟩:ByteArray).size+b.size<=9223372036854775807)<|xg (((⟨#[32]⟩:ByteArray)++b).size+(⟨#[32]⟩:ByteArray).size<=9223372036854775807)<|B5h (D7 c.seq) λe=>xg ((((⟨#[32]⟩:ByteArray)++b)++(⟨#[32]⟩:ByteArray)).size+e.size<=9223372036854775807)<|xg (((((⟨#[32]⟩:ByteArray)++b)++(⟨#[32]⟩:ByteArray))++e).size+(⟨#[32]⟩:ByteArray).size<=9223372036854775807)<|B5h (D7 c.n) λl=>xg ((((((⟨#[32]⟩:ByteArray)++b)++(⟨#[32]⟩:ByteArray))++e)++(⟨#[32]⟩:ByteArray)).size+l.size<=9223372036854775807)<|xg (((((((⟨#[32]⟩:ByteArray)++b)++(⟨#[32]⟩:ByteArray))++e)++(⟨#[32]⟩:ByteArray))++l).size+(⟨#[32]⟩:ByteArray).size<=9223372036854775807)<|B5h (Ads c.o) λz=>xg ((((((((⟨#[32]⟩:ByteArray)++b)++(⟨#[32]⟩:ByteArray))++e)++(⟨#[32]⟩:ByteArray))++l)++(⟨#[32]⟩:ByteArray)).size+z.size<=9223372036854775807)<|xg ((a++((⟨#[32]⟩:ByteArray)++c.doc)).size+((((((((⟨#[32]⟩:ByteArray)++b)++(⟨#[32]⟩:ByteArray))++e)++(⟨#[32]⟩:ByteArray))++l)++(⟨#[32]⟩:ByteArray))++z).size<=9223372036854775807)<|some ((a++((⟨#[32]⟩:ByteArray)++c.doc))++((((((((⟨#[32]⟩:ByteArray)++b)++(⟨#[32]⟩:ByteArray))++e)++(⟨#[32]⟩:ByteArray))++l)++(⟨#[32]⟩:ByteArray))++z)))else(bif decide (c.kind=3)then(bif decide (c.kind=3)then(B5h (D7 c.n) λu=>xg ((⟨#[32]⟩:ByteArray).size+u.size<=9223372036854775807)<|xg ((a++((⟨#[32]⟩:ByteArray)++c.doc)).size+((⟨#[32]⟩:ByteArray)++u).size<=9223372036854775807)<|some ((a++((⟨#[32]⟩:ByteArray)++c.doc))++((⟨#[32]⟩:ByteArray)++u)))else(bif decide (c.kind=6)then(B5h (D7 c.client) λj=>xg ((⟨#[32]⟩:ByteArray).size+j.size<=9223372036854775807)<|xg (((⟨#[32]⟩:ByteArray)++j).size+(⟨#[32]⟩:ByteArray).size<=9223372036854775807)<|B5h (D7 c.n) λB=>xg ((((⟨#[32]⟩:ByteArray)++j)++(⟨#[32]⟩:ByteArray)).size+B.size<=9223372036854775807)<|xg ((a++((⟨#[32]⟩:ByteArray)++c.doc)).size+((((⟨#[32]⟩:ByteArray)++j)++(⟨#[32]⟩:ByteArray))++B).size<=9223372036854775807)<|some ((a++((⟨#[32]⟩:ByteArray)++c.doc))++((((⟨#[32]⟩:ByteArray)++j)++(⟨#[32]⟩:ByteArray))++B)))else(bif decide (c.kind=7)then(B5h (D7 c.client) λq=>xg ((⟨#[32]⟩:ByteArray).size+q.size<=9223372036854775807)<|xg ((a++((⟨#[32]⟩:ByteArray)++c.doc)).size+((⟨#[32]⟩:ByteArray)++q).size<=9223372036854775807)<|some ((a++((⟨#[32]⟩:ByteArray)++c.doc))++((⟨#[32]⟩:ByteArray)++q)))else(some (a++((⟨#[32]⟩:ByteArray)++c.doc))))))else(bif decide (c.kind=5)then(B5h (D7 c.n) λD=>xg ((⟨#[32]⟩:ByteArray).size+D.size<=9223372036854775807)<|xg ((a++((⟨#[32]⟩:ByteArray)++c.doc)).size+((⟨#[32]⟩:ByteArray)++D).size<=9223372036854775807)<|some ((a++((⟨#[32]⟩:ByteArray)++c.doc))++((⟨#[32]⟩:ByteArray)++D)))else(bif decide (c.kind=6)then(B5h (D7 c.client) λg=>xg ((⟨#[32]⟩:ByteArray).size+g.size<=9223372036854775807)<|xg (((⟨#[32]⟩:ByteArray)++g).size+(⟨#[32]⟩:ByteArray).size<=9223372036854775807)<|B5h (D7 c.n) λs=>xg ((((⟨#[32]⟩:ByteArray)++g)++(⟨#[32]⟩:ByteArray)).size+s.size<=9223372036854775807)<|xg ((a++((⟨#[32]⟩:ByteArray)++c.doc)).size+((((⟨#[32]⟩:ByteArray)++g)++(⟨#[32]⟩:ByteArray))++s).size<=9223372036854775807)<|some ((a++((⟨#[32]⟩:ByteArray)++c.doc))++((((⟨#[32]⟩:ByteArray)++g)++(⟨#[32]⟩:ByteArray))++s)))else(bif decide (c.kind=7)then(B5h (D7 c.client) λr=>xg ((⟨#[32]⟩:ByteArray).size+r.size<=9223372036854775807)<|xg ((a++((⟨#[32]⟩:ByteArray)++c.doc)).size+((⟨#[32]⟩:ByteArray)++r).size<=9223372036854775807)<|some ((a++((⟨#[32]⟩:ByteArray)++c.doc))++((⟨#[32]⟩:ByteArray)++r)))else(some (a++((⟨#[32]⟩:ByteArray)++c.doc)))))))))else(bif decide (c.kind=1)then(B5h (Adh c.text) λp=>xg ((⟨#[32]⟩:ByteArray).size+p.size<=9223372036854775807)<|xg (a.size+((⟨#[32]⟩:ByteArray)++p).size<=9223372036854775807)<|some (a++((⟨#[32]⟩:ByteArray)++p)))else(bif decide (c.kind=2)then(B5h (D7 c.client) λd=>xg ((⟨#[32]⟩:ByteArray).size+d.size<=9223372036854775807)<|xg (((⟨#[32]⟩:ByteArray)++d).size+(⟨#[32]⟩:ByteArray).size<=9223372036854775807)<|B5h (D7 c.seq) λf=>xg ((((⟨#[32]⟩:ByteArray)++d)++(⟨#[32]⟩:ByteArray)).size+f.size<=9223372036854775807)<|xg (((((⟨#[32]⟩:ByteArray)++d)++(⟨#[32]⟩:ByteArray))++f).size+(⟨#[32]⟩:ByteArray).size<=9223372036854775807)<|B5h (D7 c.n) λi=>xg ((((((⟨#[32]⟩:ByteArray)++d)++(⟨#[32]⟩:ByteArray))++f)++(⟨#[32]⟩:ByteArray)).size+i.size<=9223372036854775807)<|xg (((((((⟨#[32]⟩:ByteArray)++d)++(⟨#[32]⟩:ByteArray))++f)++(⟨#[32]⟩:ByteArray))++i).size+(⟨#[32]⟩:ByteArray).size<=9223372036854775807)<|B5h (Ads c.o) λC=>xg ((((((((⟨#[32]⟩:ByteArray)++d)++(⟨#[32]⟩:ByteArray))++f)++(⟨#[32]⟩:ByteArray))++i)++(⟨#[32]⟩:ByteArray)).size+C.size<=9223372036854775807)<|xg (a.size+((((((((⟨#[32]⟩:ByteArray)++d)++(⟨#[32]⟩:ByteArray))++f)++(⟨#[32]⟩:ByteArray))++i)++(⟨#[32]⟩:ByteArray))++C).size<=9223372036854775807)<|some (a++((((((((⟨#[32]⟩:ByteArray)++d)++(⟨#[32]⟩:ByteArray))++f)++(⟨#[32]⟩:ByteArray))++i)++(⟨#[32]⟩:ByteArray))++C)))else(bif decide (c.kind=3)then(bif decide (c.kind=3)then(B5h (D7 c.n) λv=>xg ((⟨#[32]⟩:ByteArray).size+v.size<=9223372036854775807)<|xg (a.size+((⟨#[32]⟩:ByteArray)++v).size<=9223372036854775807)<|some (a++((⟨#[32]⟩:ByteArray)++v)))else(bif decide (c.kind=6)then(B5h (D7 c.client) λh=>xg ((⟨#[32]⟩:ByteArray).size+h.size<=9223372036854775807)<|xg (((⟨#[32]⟩:ByteArray)++h).size+(⟨#[32]⟩:ByteArray).size<=9223372036854775807)<|B5h (D7 c.n) λm=>xg ((((⟨#[32]⟩:ByteArray)++h)++(⟨#[32]⟩:ByteArray)).size+m.size<=9223372036854775807)<|xg (a.size+((((⟨#[32]⟩:ByteArray)++h)++(⟨#[32]⟩:ByteArray))++m).size<=9223372036854775807)<|some (a++((((⟨#[32]⟩:ByteArray)++h)++(⟨#[32]⟩:ByteArray))++m)))else(bif decide (c.kind=7)then(B5h (D7 c.client) λA=>xg ((⟨#[32]⟩:ByteArray).size+A.size<=9223372036854775807)<|xg (a.size+((⟨#[32]⟩:ByteArray)++A).size<=9223372036854775807)<|some (a++((⟨#[32]⟩:ByteArray)++A)))else(some a))))else(bif decide (c.kind=5)then(B5h (D7 c.n) λx=>xg ((⟨#[32]⟩:ByteArray).size+x.size<=9223372036854775807)<|xg (a.size+((⟨#[32]⟩:ByteArray)++x).size<=9223372036854775807)<|some (a++((⟨#[32]⟩:ByteArray)++x)))else(bif decide (c.kind=6)then(B5h (D7 c.client) λk=>xg ((⟨#[32]⟩:ByteArray).size+k.size<=9223372036854775807)<|xg (((⟨#[32]⟩:ByteArray)++k).size+(⟨#[32]⟩:ByteArray).size<=9223372036854775807)<|B5h (D7 c.n) λw=>xg ((((⟨#[32]⟩:ByteArray)++k)++(⟨#[32]⟩:ByteArray)).size+w.size<=9223372036854775807)<|xg (a.size+((((⟨#[32]⟩:ByteArray)++k)++(⟨#[32]⟩:ByteArray))++w).size<=9223372036854775807)<|some (a++((((⟨#[32]⟩:ByteArray)++k)++(⟨#[32]⟩:ByteArray))++w)))else(bif decide (c.kind=7)then(B5h (D7 c.client) λy=>xg ((⟨#[32]⟩:ByteArray).size+y.size<=9223372036854775807)<|xg (a.size+((⟨#[32]⟩:ByteArray)++y).size<=9223372036854775807)<|some (a++((⟨#[32]⟩:ByteArray)++y)))else(some a))))))))
def Bip:E amb:=en 86 [Gk] [F3] (Am Li) Tryz.func86 [Afv,Az3,An1,Afw,Q2,M6,Bji,Bjt,F9]
def Hq (a:List ByteArray) (k:Int):Option Int:=
 bif decide ((a.length:Int)<=k)then(some (-1))else(xg (0<=k/\k<(a.length:Int))<|B5h (Adl (el a k.toNat)) λb=>bif !b.2 then(some (-1))else(some b.1))
def A0f:E amb:=en 36 [K1,Ap] [A0] (Ak Hq) Tryz.func36 [Az9]
def Bab (_:List ByteArray) (_:Nat) (a:ByteArray) (b:List DPart):Option (Lr (List DPart) (Sum (List DPart) (List DPart×Bool))):=
 bif decide (a=(⟨#[]⟩:ByteArray))then(some (Lr.out (B6e ([],false))))else(xg (0<=(1:Int)/\(1:Int)<=(a.size:Int))<|B5h (Adu (a.extract 1 a.size)) λc=>bif !c.2 then(some (Lr.out (B6e ([],false))))else(xg (0<=(0:Int)/\(0:Int)<(a.size:Int))<|bif decide (((Bz a 0).toNat:Int)=107)then(xg (0<=(0:Int)/\(0:Int)<(c.1.length:Int))<|xg (b.length<1099511627776)<|some (Lr.go (b++[(⟨1,el c.1 0,[]⟩:DPart)])))else(bif decide (((Bz a 0).toNat:Int)=100)then(xg (0<=(0:Int)/\(0:Int)<(c.1.length:Int))<|xg (b.length<1099511627776)<|some (Lr.go (b++[(⟨3,el c.1 0,[]⟩:DPart)])))else(xg (b.length<1099511627776)<|some (Lr.go (b++[(⟨2,0,c.1⟩:DPart)]))))))
def Bac (a:List ByteArray) (b:Nat) (c:List DPart):Option (Lr (List DPart) (Sum (List DPart) (List DPart×Bool))):=Bab a b (el a b) c
def Akx (s:ByteArray):Option (List DPart×Bool):=
 bif decide (s=(⟨#[45]⟩:ByteArray))then(some ([],true))else(B5h (Y5 s) λb=>B5h (Ai (Bac b) (λf=>(.inl f)) b.length 0 []) λi=>B59 (λa=>B5h (Fp a) λd=>B5h (bif !d then(some true)else(B5h (Adc a) λg=>some (!decide (g=s)))) λh=>bif h then(some ([],false))else(B5h (Su a) λe=>some (e,true))) (λc=>some c) i)
def Bjm:E amb:=en 149 [Cp] [Fz,Aq] (Am Akx) Tryz.func149 [Anz,Afy,M6,Az6,A0g] [B5 0 14 13 [C1 4 4]]
def Alb (s:ByteArray):Option (List DPart×Bool):=
 B5h (Vv s (⟨#[44]⟩:ByteArray) (⟨#[32]⟩:ByteArray)) λb=>B5h (Akx b) λa=>some (a.1,a.2)
def Bj1:E amb:=en 85 [Cp] [Fz,Aq] (Am Alb) Tryz.func85 [Azz,Bjm]
def Avc (f:List ByteArray) (a:Int) (g:Int) (b:ByteArray) (d:Int) (e:Int) (c:Int):Option (Lr (Int×Int×ByteArray×Int×Int×Int) (Int×Int×ByteArray×Int×Int×Int)):=
 bif decide (a<=8)then(B5h (Ac3 a) λh=>xg (0<=(0:Int)/\(0:Int)<(f.length:Int))<|bif decide (h=el f 0)then(xg (Ae (a+1))<|some (Lr.go (a+1,a,b,d,e,c)))else(xg (Ae (a+1))<|some (Lr.go (a+1,g,b,d,e,c))))else(some (Lr.out (a,g,b,d,e,c)))
def Akw (b:List ByteArray) (a:Int×Int×ByteArray×Int×Int×Int):Option (Lr (Int×Int×ByteArray×Int×Int×Int) (Int×Int×ByteArray×Int×Int×Int)):=Avc b a.1 a.2.1 a.2.2.1 a.2.2.2.1 a.2.2.2.2.1 a.2.2.2.2.2
def Adk (s:ByteArray):Option (DCall×Bool):=
 B5h (Y5 s) λb=>B5h (Bc (Akw b) (1,0,B52,0,0,0)) λc=>B5h (Lj c.2.1) λF=>B5h (bif F then(some (decide ((1:Int)<(b.length:Int))))else(some false)) λy=>B5h (bif y then(xg (0<=(1:Int)/\(1:Int)<(b.length:Int))<|some (c.2.1,el b 1,c.2.2.2.1,c.2.2.2.2.1,c.2.2.2.2.2))else(some (c.2.1,c.2.2.1,c.2.2.2.1,c.2.2.2.2.1,c.2.2.2.2.2))) λa=>bif decide (a.1=1)then(bif decide ((b.length:Int)=3)then(xg (0<=(2:Int)/\(2:Int)<(b.length:Int))<|B5h (Aky (el b 2)) λi=>B5h (Li (⟨a.1,a.2.1,a.2.2.1,a.2.2.2.1,a.2.2.2.2,[],i.1⟩:DCall)) λp=>B5h (bif decide (p=(⟨#[]⟩:ByteArray))then(some true)else(some (!decide (p=s)))) λA=>bif A then(some ((⟨0,B52,0,0,0,[],[]⟩:DCall),false))else(some ((⟨a.1,a.2.1,a.2.2.1,a.2.2.2.1,a.2.2.2.2,[],i.1⟩:DCall),true)))else(B5h (Li (⟨a.1,a.2.1,a.2.2.1,a.2.2.2.1,a.2.2.2.2,[],[]⟩:DCall)) λm=>B5h (bif decide (m=(⟨#[]⟩:ByteArray))then(some true)else(some (!decide (m=s)))) λv=>bif v then(some ((⟨0,B52,0,0,0,[],[]⟩:DCall),false))else(some ((⟨a.1,a.2.1,a.2.2.1,a.2.2.2.1,a.2.2.2.2,[],[]⟩:DCall),true))))else(bif decide (a.1=2)then(B5h (Hq b 2) λf=>B5h (Hq b 3) λe=>B5h (Hq b 4) λd=>bif decide ((b.length:Int)=6)then(xg (0<=(5:Int)/\(5:Int)<(b.length:Int))<|B5h (Alb (el b 5)) λn=>B5h (Li (⟨a.1,a.2.1,f,e,d,n.1,[]⟩:DCall)) λo=>B5h (bif decide (o=(⟨#[]⟩:ByteArray))then(some true)else(some (!decide (o=s)))) λx=>bif x then(some ((⟨0,B52,0,0,0,[],[]⟩:DCall),false))else(some ((⟨a.1,a.2.1,f,e,d,n.1,[]⟩:DCall),true)))else(B5h (Li (⟨a.1,a.2.1,f,e,d,[],[]⟩:DCall)) λj=>B5h (bif decide (j=(⟨#[]⟩:ByteArray))then(some true)else(some (!decide (j=s)))) λC=>bif C then(some ((⟨0,B52,0,0,0,[],[]⟩:DCall),false))else(some ((⟨a.1,a.2.1,f,e,d,[],[]⟩:DCall),true))))else(B5h (bif decide (a.1=3)then(some (decide (a.1=3)))else(some (decide (a.1=5)))) λw=>bif w then(B5h (Hq b 2) λg=>B5h (Li (⟨a.1,a.2.1,a.2.2.1,a.2.2.2.1,g,[],[]⟩:DCall)) λl=>B5h (bif decide (l=(⟨#[]⟩:ByteArray))then(some true)else(some (!decide (l=s)))) λB=>bif B then(some ((⟨0,B52,0,0,0,[],[]⟩:DCall),false))else(some ((⟨a.1,a.2.1,a.2.2.1,a.2.2.2.1,g,[],[]⟩:DCall),true)))else(bif decide (a.1=6)then(B5h (Hq b 1) λq=>B5h (Hq b 2) λk=>B5h (Li (⟨a.1,a.2.1,q,a.2.2.2.1,k,[],[]⟩:DCall)) λt=>B5h (bif decide (t=(⟨#[]⟩:ByteArray))then(some true)else(some (!decide (t=s)))) λG=>bif G then(some ((⟨0,B52,0,0,0,[],[]⟩:DCall),false))else(some ((⟨a.1,a.2.1,q,a.2.2.2.1,k,[],[]⟩:DCall),true)))else(bif decide (a.1=7)then(B5h (Hq b 1) λu=>B5h (Li (⟨a.1,a.2.1,u,a.2.2.2.1,a.2.2.2.2,[],[]⟩:DCall)) λh=>B5h (bif decide (h=(⟨#[]⟩:ByteArray))then(some true)else(some (!decide (h=s)))) λD=>bif D then(some ((⟨0,B52,0,0,0,[],[]⟩:DCall),false))else(some ((⟨a.1,a.2.1,u,a.2.2.2.1,a.2.2.2.2,[],[]⟩:DCall),true)))else(B5h (Li (⟨a.1,a.2.1,a.2.2.1,a.2.2.2.1,a.2.2.2.2,[],[]⟩:DCall)) λr=>B5h (bif decide (r=(⟨#[]⟩:ByteArray))then(some true)else(some (!decide (r=s)))) λz=>bif z then(some ((⟨0,B52,0,0,0,[],[]⟩:DCall),false))else(some ((⟨a.1,a.2.1,a.2.2.1,a.2.2.2.1,a.2.2.2.2,[],[]⟩:DCall),true)))))))
def Bjl:E amb:=en 35 [Cp] [Ab6,Aq] (Am Adk) Tryz.func35 [Bip,Az3,Anz,Q2,Bjn,A0f,Bj1] [Ca 0 [Ax 6,.box 5 0 [.sc 0,.sc 2,.sc 0,.sc 0,.sc 0,.nl,.nl]],Ca 100009 [.box 5 0 [.sc 0,.sc 2,.sc 0,.sc 0,.sc 0,.nl,.nl]],Ca 100019 [T9 71 1]]
def Akk (o:List DPart):Option Bool:=
 B5h (Fp o) λc=>B5h (bif c then(B5h (Su o) λa=>B5h (Y7 o a) λd=>some d)else(some false)) λb=>some b
def Bi4:E amb:=en 324 [B8] [Aq] (Am Akk) Tryz.func324 [Afy,M6,An2]
def Ss (e:DEntry):Option Bool:=
 B5h (Bk e.client 1 8) λd=>B5h (bif d then(B5h (Bk e.seq 1 1000000000) λa=>some a)else(some false)) λc=>B5h (bif c then(B5h (Akk e.o) λb=>some b)else(some false)) λf=>some f
def An0:E amb:=en 281 [Jz] [Aq] (Am Ss) Tryz.func281 [Bi4,F9]
def Bal (_:List DEntry) (_:Nat) (c:DEntry) (a:List (List DPart)):Option (Lr (List (List DPart)) (List (List DPart))):=
 B5h (Zb (c.o)) λb=>xg (a.length<1099511627776)<|some (Lr.go (a++[b]))
def Avi (a:List DEntry) (b:Nat) (c:List (List DPart)):Option (Lr (List (List DPart)) (List (List DPart))):=Bal a b (el a b) c
def V3 (a:List DEntry):Option (List (List DPart)):=
 B5h (Ai (Avi a) (λc=>c) a.length 0 []) λb=>some b
def An6:E amb:=en 283 [N5] [Ab7] (Am V3) Tryz.func283 [An4] [Da 0 8 7 [.slot 3 (.row (.sl (.b 4)))]]
def Aut (t:List Int) (o:List DPart) (_:Nat) (b:DPart) (c:List Int) (a:Int):Option (Lr (List Int×Int) (List Int)):=
 bif decide ((b.kind)=1)then(xg (Ae (a+(b.n)))<|xg (0<=a/\a<=(a+(b.n))/\(a+(b.n))<=(t.length:Int))<|xg (c.length+((t.take ((a+(b.n)).toNat)).drop a.toNat).length<=1099511627776)<|xg (Ae (a+(b.n)))<|some (Lr.go (c++((t.take ((a+(b.n)).toNat)).drop a.toNat),a+(b.n))))else(bif decide ((b.kind)=3)then(xg (Ae (a+(b.n)))<|some (Lr.go (c,a+(b.n))))else(xg (c.length+(b.signs).length<=1099511627776)<|some (Lr.go (c++(b.signs),a))))
def Ac2 (t:List Int) (o:List DPart) (a:Nat) (b:List Int×Int):Option (Lr (List Int×Int) (List Int)):=Aut t o a (el o a) b.1 b.2
def Oo (o:List DPart) (t:List Int):Option (List Int×Bool):=
 B5h (Fp o) λf=>B5h (bif !f then(some true)else(B5h (Ms t) λd=>some (!d))) λe=>B5h (bif e then(some true)else(B5h (Mq o) λg=>some (!decide (g=(t.length:Int))))) λc=>bif c then(some ([],false))else(B5h (Ai (Ac2 t o) (λa=>a.1) o.length 0 ([],0)) λb=>some (b,true))
def Bb5 (t:List Int) (o:List DPart) (_:Nat) (b:DPart) (c:List Int) (a:Int):Option (Lr (List Int×Int) (List Int×Int)):=
 bif decide ((b.kind)=1)then(xg (Ae (a+(b.n)))<|xg (0<=a/\a<=(a+(b.n))/\(a+(b.n))<=(t.length:Int))<|xg (c.length+((t.take ((a+(b.n)).toNat)).drop a.toNat).length<=1099511627776)<|xg (Ae (a+(b.n)))<|some (Lr.go (c++((t.take ((a+(b.n)).toNat)).drop a.toNat),a+(b.n))))else(bif decide ((b.kind)=3)then(xg (Ae (a+(b.n)))<|some (Lr.go (c,a+(b.n))))else(xg (c.length+(b.signs).length<=1099511627776)<|some (Lr.go (c++(b.signs),a))))
def Bb6 (t:List Int) (o:List DPart) (a:Nat) (b:List Int×Int):Option (Lr (List Int×Int) (List Int×Int)):=Bb5 t o a (el o a) b.1 b.2
def Bb1 (o:List DPart) (t:List Int):Option (List Int×Bool):=
 B5h (Fp o) λg=>B5h (bif !g then(some true)else(B5h (Ms t) λb=>some (!b))) λf=>B5h (bif f then(some true)else(B5h (Mq o) λd=>some (!decide (d=(t.length:Int))))) λe=>bif e then(some ([],false))else(B5h (Ai (Bb6 t o) (λa=>(a.1,a.2)) o.length 0 ([],0)) λc=>some (c.1,true))
def Az1:E amb:=en 325 [B8,D4] [Jd,Aq] (Ak Oo) Tryz.func325 [Afx,M6,Aag] [Da 0 27 26 [C1 6 0,Ax 7]] (hx:=λa=>Eq.trans (b:=Bb1 a.1 a.2.1) (by kernel_rfl) (show _=Oo a.1 a.2.1 by simp only[Aut,Ac2,Oo,Bb5,Bb6,Bb1,C2,Cq,D1,D8,Cj,cond_true,Cm]<;>rfl))
def Aus (l:List (List DPart)) (_:Nat) (b:List DPart) (c:List Int):Option (Lr (List Int) (Sum (List Int) Unit)):=
 B5h (Oo b c) λa=>bif !a.2 then(some (Lr.out (B6e (()))))else(some (Lr.go a.1))
def Aj9 (l:List (List DPart)) (a:Nat) (b:List Int):Option (Lr (List Int) (Sum (List Int) Unit)):=Aus l a (el l a) b
def Sr (l:List (List DPart)) (t:List Int):Option (List Int×Bool):=
 B5h (Ms t) λd=>bif !d then(some ([],false))else(B5h (Lk t) λc=>B5h (Ai (Aj9 l) (λa=>(.inl a)) l.length 0 c) λb=>B59 (λe=>some (e,true)) (λ_=>some ([],false)) b)
def Bb3 (l:List (List DPart)) (_:Nat) (c:List DPart) (b:List Int):Option (Lr (List Int) (Sum (List Int) (List Int×Bool))):=
 B5h (Oo c b) λa=>bif !a.2 then(some (Lr.out (B6e ([],false))))else(some (Lr.go a.1))
def Bb4 (l:List (List DPart)) (a:Nat) (b:List Int):Option (Lr (List Int) (Sum (List Int) (List Int×Bool))):=Bb3 l a (el l a) b
def Bb2 (l:List (List DPart)) (t:List Int):Option (List Int×Bool):=
 B5h (Ms t) λa=>bif !a then(some ([],false))else(B5h (Lk t) λc=>B5h (Ai (Bb4 l) (λd=>(.inl d)) l.length 0 c) λf=>B59 (λb=>some (b,true)) (λe=>some e) f)
def Az2:E amb:=en 282 [Abz,D4] [Jd,Aq] (Ak Sr) Tryz.func282 [Az1,Aag,Tt] [B5 0 18 17 [C1 6 0]] (hx:=λa=>Eq.trans (b:=Bb2 a.1 a.2.1) (by kernel_rfl) (show _=Sr a.1 a.2.1 by simp only[Aus,Aj9,Sr,Bb3,Bb4,Bb2,C2,Cq,D8,Cj,Cm,Cy,Df,Dg]<;>rfl))
def Fd (d:DDoc):Option Int:=
 xg (Ae (d.from_+(d.list.length:Int)))<|some (d.from_+(d.list.length:Int))
def Lu:E amb:=en 224 [Ep] [A0] (Am Fd) Tryz.func224
def Auu (d:DDoc) (_:Nat) (a:DEntry):Option (Lr Unit (Sum Unit Unit)):=
 B5h (Ss a) λb=>bif !b then(some (Lr.out (B6e (()))))else(some (Lr.go ()))
def Auw (d:DDoc) (a:Nat) (_:Unit):Option (Lr Unit (Sum Unit Unit)):=Auu d a (el d.list a)
def Auv (d:DDoc) (a:Nat) (b:DSeen):Option (Lr Unit (Sum Unit Bool)):=
 B5h (Bk (b.client) 1 8) λi=>B5h (bif !i then(some true)else(B5h (bif decide ((0:Int)<(a:Int))then(xg (Ae ((a:Int)-1))<|xg (0<=((a:Int)-1)/\((a:Int)-1)<(d.seen.length:Int))<|some (decide ((b.client)<=((el d.seen (((a:Int)-1).toNat)).client))))else(some false)) λf=>some f)) λk=>B5h (bif k then(some true)else(B5h (Bk (b.seq) 1 1000000000) λj=>some (!j))) λc=>B5h (bif c then(some true)else(B5h (Fd d) λe=>B5h (Bk (b.rev) 1 e) λh=>some (!h))) λg=>bif g then(some (Lr.out (B6e (false))))else(some (Lr.go ()))
def Ac4 (d:DDoc) (a:Nat) (_:Unit):Option (Lr Unit (Sum Unit Bool)):=Auv d a (el d.seen a)
def Kb (d:DDoc):Option Bool:=
 B5h (Jl d.name) λi=>B5h (bif !i then(some true)else(B5h (Bk d.from_ 0 999999000) λf=>some (!f))) λj=>B5h (bif j then(some true)else(B5h (Ms d.text) λb=>some (!b))) λh=>B5h (bif h then(some true)else(some (decide ((8:Int)<(d.list.length:Int))))) λe=>bif e then(some false)else(B5h (Ai (Auw d) (λ_=>(.inl ())) d.list.length 0 ()) λl=>B59 (λ_=>B5h (V3 d.list) λa=>B5h (Sr a d.text) λk=>bif !k.2 then(some false)else(B5h (Ai (Ac4 d) (λ_=>(.inl ())) d.seen.length 0 ()) λg=>B59 (λ_=>some true) (λc=>some c) g)) (λ_=>some false) l)
def Bb8 (d:DDoc) (_:Nat) (a:DEntry):Option (Lr Unit (Sum Unit Bool)):=
 B5h (Ss a) λb=>bif !b then(some (Lr.out (B6e false)))else(some (Lr.go ()))
def Bca (d:DDoc) (a:Nat) (_:Unit):Option (Lr Unit (Sum Unit Bool)):=Bb8 d a (el d.list a)
def Bb9 (d:DDoc) (a:Nat) (b:DSeen):Option (Lr Unit (Sum Unit Bool)):=
 B5h (Bk (b.client) 1 8) λj=>B5h (bif !j then(some true)else(B5h (bif decide ((0:Int)<(a:Int))then(xg (Ae ((a:Int)-1))<|xg (0<=((a:Int)-1)/\((a:Int)-1)<(d.seen.length:Int))<|some (decide ((b.client)<=((el d.seen (((a:Int)-1).toNat)).client))))else(some false)) λe=>some e)) λk=>B5h (bif k then(some true)else(B5h (Bk (b.seq) 1 1000000000) λg=>some (!g))) λi=>B5h (bif i then(some true)else(B5h (Fd d) λf=>B5h (Bk (b.rev) 1 f) λh=>some (!h))) λc=>bif c then(some (Lr.out (B6e false)))else(some (Lr.go ()))
def Bcb (d:DDoc) (a:Nat) (_:Unit):Option (Lr Unit (Sum Unit Bool)):=Bb9 d a (el d.seen a)
def Bb7 (d:DDoc):Option Bool:=
 B5h (Jl d.name) λk=>B5h (bif !k then(some true)else(B5h (Bk d.from_ 0 999999000) λb=>some (!b))) λc=>B5h (bif c then(some true)else(B5h (Ms d.text) λl=>some (!l))) λi=>B5h (bif i then(some true)else(some (decide ((8:Int)<(d.list.length:Int))))) λj=>bif j then(some false)else(B5h (Ai (Bca d) (λ_=>(.inl ())) d.list.length 0 ()) λh=>B59 (λ_=>B5h (V3 d.list) λf=>B5h (Sr f d.text) λg=>bif !g.2 then(some false)else(B5h (Ai (Bcb d) (λ_=>(.inl ())) d.seen.length 0 ()) λa=>B59 (λ_=>some true) (λm=>some m) a)) (λe=>some e) h)
def Ts:E amb:=en 222 [Ep] [Aq] (Am Kb) Tryz.func222 [Az2,An0,Lu,An1,Aag,An6,F9] [B5 0 34 33 [],B5 2 56 55 []] (hx:=λa=>Eq.trans (b:=Bb7 a.1) (by kernel_rfl) (show _=Kb a.1 by simp only[Auu,Auw,Auv,Ac4,Kb,Bb8,Bca,Bb9,Bcb,Bb7,C2,Cq,D1,D8,Cj,cond_true,cond_false,Cm,Cy,Df,Dg]<;>rfl))
def Akg (d:DDoc) (p:ByteArray):Option (Bool×ByteArray):=
 some (decide (d.name=p),p)
def Biw:E amb:=en 165 [Ep,.box .ow (.b 2)] [Aq] (Ak Akg) Tryz.func165
def Bat (s:List DDoc) (c:Nat) (b:DDoc) (d:ByteArray):Option (Lr ByteArray (Sum ByteArray (Int×ByteArray))):=
 B5h (Akg b d) λa=>bif a.1 then(some (Lr.out (B6e (((c:Int),a.2)))))else(some (Lr.go a.2))
def Bau (s:List DDoc) (a:Nat) (b:ByteArray):Option (Lr ByteArray (Sum ByteArray (Int×ByteArray))):=Bat s a (el s a) b
def Ad3 (s:List DDoc) (c:ByteArray):Option (Int×ByteArray):=
 B5h (Ai (Bau s) (λb=>(.inl b)) s.length 0 c) λe=>B59 (λd=>some (-1,d)) (λa=>some (a.1,a.2)) e
def B48 (s:List DDoc) (c:Nat) (d:DDoc) (b:ByteArray):Option (Lr ByteArray (Sum ByteArray (Int×ByteArray))):=
 B5h (Akg d b) λa=>bif a.1 then(some (Lr.out (B6e ((c:Int),a.2))))else(some (Lr.go a.2))
def B49 (s:List DDoc) (a:Nat) (b:ByteArray):Option (Lr ByteArray (Sum ByteArray (Int×ByteArray))):=B48 s a (el s a) b
def Bd4 (s:List DDoc) (c:ByteArray):Option (Int×ByteArray):=
 B5h (Ai (B49 s) (λe=>(.inl e)) s.length 0 c) λb=>B59 (λd=>some (-1,d)) (λa=>some a) b
def Bln:E amb:=en 164 [X6,.fn 165 1,.cap .ow (.b 2)] [A0] (Ak Ad3) Tryz.func164 [Biw] [B5 0 8 7 [.box 1 1 [.sc 2]]] (hx:=λa=>Eq.trans (b:=Bd4 a.1 a.2.1) (by kernel_rfl) (show _=Ad3 a.1 a.2.1 by simp only[Ad3,Bd4]<;>rfl))
def Jk (h:DHub) (b:ByteArray):Option Int:=
 B5h (Ad3 h.docs b) λa=>some a.1
def M5:E amb:=en 92 [D5,Cp] [A0] (Ak Jk) Tryz.func92 [Bln]
def Au5 (_:DRing) (_:Nat) (b:DEntry):Option (Lr Unit (Sum Unit Unit)):=
 B5h (Ss b) λa=>bif !a then(some (Lr.out (B6e (()))))else(some (Lr.go ()))
def Au6 (b:DRing) (a:Nat) (_:Unit):Option (Lr Unit (Sum Unit Unit)):=Au5 b a (el b.list a)
def Mr (a:DRing):Option Bool:=
 B5h (Bk a.cap 1 6) λg=>B5h (bif !g then(some true)else(B5h (Bk a.next 1 1000000000) λd=>some (!d))) λh=>B5h (bif h then(some true)else(some (decide (a.cap<(a.list.length:Int))))) λf=>B5h (bif f then(some true)else(B5h (bif a.out then(some (decide ((0:Int)<(a.list.length:Int))))else(some false)) λb=>some b)) λc=>bif c then(some false)else(B5h (Ai (Au6 a) (λ_=>(.inl ())) a.list.length 0 ()) λe=>B59 (λ_=>some true) (λ_=>some false) e)
def Bco (_:DRing) (_:Nat) (a:DEntry):Option (Lr Unit (Sum Unit Bool)):=
 B5h (Ss a) λb=>bif !b then(some (Lr.out (B6e false)))else(some (Lr.go ()))
def Bcp (b:DRing) (a:Nat) (_:Unit):Option (Lr Unit (Sum Unit Bool)):=Bco b a (el b.list a)
def Bcn (a:DRing):Option Bool:=
 B5h (Bk a.cap 1 6) λd=>B5h (bif !d then(some true)else(B5h (Bk a.next 1 1000000000) λc=>some (!c))) λf=>B5h (bif f then(some true)else(some (decide (a.cap<(a.list.length:Int))))) λi=>B5h (bif i then(some true)else(B5h (bif a.out then(some (decide ((0:Int)<(a.list.length:Int))))else(some false)) λb=>some b)) λe=>bif e then(some false)else(B5h (Ai (Bcp a) (λ_=>(.inl ())) a.list.length 0 ()) λh=>B59 (λ_=>some true) (λg=>some g) h)
def Aae:E amb:=en 223 [Jb] [Aq] (Am Mr) Tryz.func223 [An0,F9] [B5 0 36 35 []] (hx:=λa=>Eq.trans (b:=Bcn a.1) (by kernel_rfl) (show _=Mr a.1 by simp only[Au5,Au6,Mr,Bco,Bcp,Bcn,C2,Cq,D8,Cj,cond_true,cond_false,Cm,Cy,Df,Dg]<;>rfl))
def Auy (h:DHub) (a:Nat) (b:DDoc):Option (Lr Unit (Sum Unit Unit)):=
 B5h (Kb b) λd=>B5h (bif !d then(some true)else(B5h (bif decide ((0:Int)<(a:Int))then(xg (Ae ((a:Int)-1))<|xg (0<=((a:Int)-1)/\((a:Int)-1)<(h.docs.length:Int))<|some (!Bv ((el h.docs (((a:Int)-1).toNat)).name) (b.name)))else(some false)) λe=>some e)) λc=>bif c then(some (Lr.out (B6e (()))))else(some (Lr.go ()))
def Au0 (h:DHub) (a:Nat) (_:Unit):Option (Lr Unit (Sum Unit Unit)):=Auy h a (el h.docs a)
def Auz (h:DHub) (b:Nat) (a:DSub):Option (Lr Unit (Sum Unit Bool)):=
 B5h (Jk h (a.doc)) λc=>B5h (Bk (a.id) 1 h.last) λg=>B5h (bif !g then(some true)else(B5h (bif decide ((0:Int)<(b:Int))then(xg (Ae ((b:Int)-1))<|xg (0<=((b:Int)-1)/\((b:Int)-1)<(h.subs.length:Int))<|some (decide ((a.id)<=((el h.subs (((b:Int)-1).toNat)).id))))else(some false)) λf=>some f)) λk=>B5h (bif k then(some true)else(B5h (Mr (a.r)) λi=>some (!i))) λl=>B5h (bif l then(some true)else(some (decide (c<0)))) λe=>bif e then(some (Lr.out (B6e (false))))else(B5h (bif !(a.r.out)then(xg (Ae ((a.r.next)+((a.r.list).length:Int)))<|xg (0<=c/\c<(h.docs.length:Int))<|B5h (Fd (el h.docs c.toNat)) λd=>xg (Ae (d+1))<|some (!decide (((a.r.next)+((a.r.list).length:Int))=(d+1))))else(some false)) λj=>bif j then(some (Lr.out (B6e (false))))else(some (Lr.go ())))
def Au1 (h:DHub) (a:Nat) (_:Unit):Option (Lr Unit (Sum Unit Bool)):=Auz h a (el h.subs a)
def Iv (h:DHub):Option Bool:=
 B5h (bif decide ((5:Int)<(h.docs.length:Int))then(some true)else(some (decide ((6:Int)<(h.subs.length:Int))))) λd=>B5h (bif d then(some true)else(B5h (Bk h.last 0 1000000000) λf=>some (!f))) λb=>bif b then(some false)else(B5h (Ai (Au0 h) (λ_=>(.inl ())) h.docs.length 0 ()) λc=>B59 (λ_=>B5h (Ai (Au1 h) (λ_=>(.inl ())) h.subs.length 0 ()) λa=>B59 (λ_=>some true) (λe=>some e) a) (λ_=>some false) c)
def Bcg (h:DHub) (a:Nat) (b:DDoc):Option (Lr Unit (Sum Unit Bool)):=
 B5h (Kb b) λc=>B5h (bif !c then(some true)else(B5h (bif decide ((0:Int)<(a:Int))then(xg (Ae ((a:Int)-1))<|xg (0<=((a:Int)-1)/\((a:Int)-1)<(h.docs.length:Int))<|some (!Bv ((el h.docs (((a:Int)-1).toNat)).name) (b.name)))else(some false)) λd=>some d)) λe=>bif e then(some (Lr.out (B6e false)))else(some (Lr.go ()))
def Bci (h:DHub) (a:Nat) (_:Unit):Option (Lr Unit (Sum Unit Bool)):=Bcg h a (el h.docs a)
def Bch (h:DHub) (b:Nat) (a:DSub):Option (Lr Unit (Sum Unit Bool)):=
 B5h (Jk h (a.doc)) λc=>B5h (Bk (a.id) 1 h.last) λg=>B5h (bif !g then(some true)else(B5h (bif decide ((0:Int)<(b:Int))then(xg (Ae ((b:Int)-1))<|xg (0<=((b:Int)-1)/\((b:Int)-1)<(h.subs.length:Int))<|some (decide ((a.id)<=((el h.subs (((b:Int)-1).toNat)).id))))else(some false)) λi=>some i)) λk=>B5h (bif k then(some true)else(B5h (Mr (a.r)) λj=>some (!j))) λe=>B5h (bif e then(some true)else(some (decide (c<0)))) λf=>bif f then(some (Lr.out (B6e false)))else(B5h (bif !(a.r.out)then(xg (Ae ((a.r.next)+((a.r.list).length:Int)))<|xg (0<=c/\c<(h.docs.length:Int))<|B5h (Fd (el h.docs c.toNat)) λd=>xg (Ae (d+1))<|some (!decide (((a.r.next)+((a.r.list).length:Int))=(d+1))))else(some false)) λl=>bif l then(some (Lr.out (B6e false)))else(some (Lr.go ())))
def Bcj (h:DHub) (a:Nat) (_:Unit):Option (Lr Unit (Sum Unit Bool)):=Bch h a (el h.subs a)
def Bcf (h:DHub):Option Bool:=
 B5h (bif decide ((5:Int)<(h.docs.length:Int))then(some true)else(some (decide ((6:Int)<(h.subs.length:Int))))) λa=>B5h (bif a then(some true)else(B5h (Bk h.last 0 1000000000) λe=>some (!e))) λf=>bif f then(some false)else(B5h (Ai (Bci h) (λ_=>(.inl ())) h.docs.length 0 ()) λb=>B59 (λ_=>B5h (Ai (Bcj h) (λ_=>(.inl ())) h.subs.length 0 ()) λd=>B59 (λ_=>some true) (λc=>some c) d) (λg=>some g) b)
def Q1:E amb:=en 157 [D5] [Aq] (Am Iv) Tryz.func157 [Ts,Lu,M5,Aae,F9] [B5 0 27 26 [],B5 2 55 54 []] (hx:=λa=>Eq.trans (b:=Bcf a.1) (by kernel_rfl) (show _=Iv a.1 by simp only[Auy,Au0,Auz,Au1,Iv,Bcg,Bci,Bch,Bcj,Bcf,C2,Cq,D1,D8,Cj,cond_true,cond_false,Cm,Cy,Df,Dg]<;>rfl))
def Ac5 (a:DEntry) (b:DEntry):Option Bool:=
 B5h (bif decide (a.client=b.client)then(some (decide (a.seq=b.seq)))else(some false)) λd=>B5h (bif d then(B5h (Y7 a.o b.o) λc=>some c)else(some false)) λe=>some e
def Bit:E amb:=en 285 [Jz,Jz] [Aq] (Ak Ac5) Tryz.func285 [An2]
def Awr (b:List DEntry) (_:List DEntry) (a:Nat) (d:DEntry):Option (Lr Unit (Sum Unit Unit)):=
 xg (0<=(a:Int)/\(a:Int)<(b.length:Int))<|B5h (Ac5 d (el b a)) λc=>bif !c then(some (Lr.out (B6e (()))))else(some (Lr.go ()))
def Aws (c:List DEntry) (b:List DEntry) (a:Nat) (_:Unit):Option (Lr Unit (Sum Unit Unit)):=Awr c b a (el b a)
def Zh (a:List DEntry) (b:List DEntry):Option Bool:=
 bif !decide ((a.length:Int)=(b.length:Int))then(some false)else(B5h (Ai (Aws b a) (λ_=>(.inl ())) a.length 0 ()) λc=>B59 (λ_=>some true) (λ_=>some false) c)
def Bdw (b:List DEntry) (_:List DEntry) (a:Nat) (c:DEntry):Option (Lr Unit (Sum Unit Bool)):=
 xg (0<=(a:Int)/\(a:Int)<(b.length:Int))<|B5h (Ac5 c (el b a)) λd=>bif !d then(some (Lr.out (B6e false)))else(some (Lr.go ()))
def Bdx (c:List DEntry) (b:List DEntry) (a:Nat) (_:Unit):Option (Lr Unit (Sum Unit Bool)):=Bdw c b a (el b a)
def Bdv (a:List DEntry) (b:List DEntry):Option Bool:=
 bif !decide ((a.length:Int)=(b.length:Int))then(some false)else(B5h (Ai (Bdx b a) (λ_=>(.inl ())) a.length 0 ()) λd=>B59 (λ_=>some true) (λc=>some c) d)
def Bll:E amb:=en 284 [N5,N5,.fn 285 0] [Aq] (Ak Zh) Tryz.func284 [Bit] [B5 0 17 16 []] (hx:=λa=>Eq.trans (b:=Bdv a.1 a.2.1) (by kernel_rfl) (show _=Zh a.1 a.2.1 by simp only[Awr,Aws,Zh,Bdw,Bdx,Bdv,C2,Cq,D1,D8,Cj,Cm,Cy,Df,Dg]<;>rfl))
def Lh (a:DAnswer) (b:DAnswer):Option Bool:=
 B5h (bif decide (a.code=b.code)then(some (decide (a.rev=b.rev)))else(some false)) λf=>B5h (bif f then(B5h (Ow a.text b.text) λc=>some c)else(some false)) λg=>B5h (bif g then(B5h (Zh a.list b.list) λd=>some d)else(some false)) λe=>some e
def Bin:E amb:=en 225 [N6,N6] [Aq] (Ak Lh) Tryz.func225 [Bll,Af2]
def Adi (t:DTask):Option Bool:=
 B5h (Vx t.c) λr8=>B5h (bif !r8 then(some true)else(B5h (Bk t.inv 0 1000000) λK=>some (!K))) λT=>bif T then(some false)else(bif decide (t.pc=0)then(bif decide (t.pc=0)then(B5h (bif decide (t.pc=1)then(B5h (Lj t.c.kind) λd6=>some (!d6))else(some false)) λs=>B5h (bif s then(some true)else(B5h (bif decide (t.pc=2)then(some (!decide (t.c.kind=2)))else(some false)) λl=>some l)) λd2=>bif d2 then(some false)else(B5h (bif decide (t.lin=(-1))then(some (decide (t.res=(-1))))else(some false)) λX=>B5h (bif X then(B5h (Lh t.a (⟨0,0,[],[]⟩:DAnswer)) λb=>some b)else(some false)) λH=>some H))else(bif decide (t.pc=3)then(bif decide (t.pc=3)then(B5h (Lh t.a (⟨11,0,[],[]⟩:DAnswer)) λd=>B5h (bif d then(some (decide (t.c.kind=2)))else(some false)) λM=>B5h (bif M then(some (decide (t.lin=(-1))))else(some false)) λv=>B5h (bif !v then(B5h (Bk t.lin t.inv 1000000) λY=>some (!Y))else(some false)) λi=>bif i then(some false)else(bif decide (t.pc=3)then(some (decide (t.res=(-1))))else(B5h (Bk t.res (max t.inv t.lin) 1000000) λu=>some u)))else(some false))else(bif decide (t.pc=4)then(B5h (Lh t.a (⟨11,0,[],[]⟩:DAnswer)) λd4=>B5h (bif d4 then(some (decide (t.c.kind=2)))else(some false)) λq=>B5h (bif q then(some (decide (t.lin=(-1))))else(some false)) λG=>B5h (bif !G then(B5h (Bk t.lin t.inv 1000000) λO=>some (!O))else(some false)) λc6=>bif c6 then(some false)else(bif decide (t.pc=3)then(some (decide (t.res=(-1))))else(B5h (Bk t.res (max t.inv t.lin) 1000000) λU=>some U)))else(some false))))else(bif decide (t.pc=1)then(bif decide (t.pc=1)then(B5h (bif decide (t.pc=1)then(B5h (Lj t.c.kind) λd3=>some (!d3))else(some false)) λC=>B5h (bif C then(some true)else(B5h (bif decide (t.pc=2)then(some (!decide (t.c.kind=2)))else(some false)) λd5=>some d5)) λP=>bif P then(some false)else(B5h (bif decide (t.lin=(-1))then(some (decide (t.res=(-1))))else(some false)) λy=>B5h (bif y then(B5h (Lh t.a (⟨0,0,[],[]⟩:DAnswer)) λk=>some k)else(some false)) λL=>some L))else(bif decide (t.pc=3)then(bif decide (t.pc=3)then(B5h (Lh t.a (⟨11,0,[],[]⟩:DAnswer)) λW=>B5h (bif W then(some (decide (t.c.kind=2)))else(some false)) λz=>B5h (bif z then(some (decide (t.lin=(-1))))else(some false)) λB=>B5h (bif !B then(B5h (Bk t.lin t.inv 1000000) λc7=>some (!c7))else(some false)) λD=>bif D then(some false)else(bif decide (t.pc=3)then(some (decide (t.res=(-1))))else(B5h (Bk t.res (max t.inv t.lin) 1000000) λg=>some g)))else(some false))else(bif decide (t.pc=4)then(B5h (Lh t.a (⟨11,0,[],[]⟩:DAnswer)) λm=>B5h (bif m then(some (decide (t.c.kind=2)))else(some false)) λn=>B5h (bif n then(some (decide (t.lin=(-1))))else(some false)) λc4=>B5h (bif !c4 then(B5h (Bk t.lin t.inv 1000000) λQ=>some (!Q))else(some false)) λR=>bif R then(some false)else(bif decide (t.pc=3)then(some (decide (t.res=(-1))))else(B5h (Bk t.res (max t.inv t.lin) 1000000) λF=>some F)))else(some false))))else(bif decide (t.pc=2)then(B5h (bif decide (t.pc=1)then(B5h (Lj t.c.kind) λw=>some (!w))else(some false)) λV=>B5h (bif V then(some true)else(B5h (bif decide (t.pc=2)then(some (!decide (t.c.kind=2)))else(some false)) λS=>some S)) λx=>bif x then(some false)else(B5h (bif decide (t.lin=(-1))then(some (decide (t.res=(-1))))else(some false)) λe=>B5h (bif e then(B5h (Lh t.a (⟨0,0,[],[]⟩:DAnswer)) λp=>some p)else(some false)) λh=>some h))else(bif decide (t.pc=3)then(bif decide (t.pc=3)then(B5h (Lh t.a (⟨11,0,[],[]⟩:DAnswer)) λo=>B5h (bif o then(some (decide (t.c.kind=2)))else(some false)) λd1=>B5h (bif d1 then(some (decide (t.lin=(-1))))else(some false)) λc3=>B5h (bif !c3 then(B5h (Bk t.lin t.inv 1000000) λc8=>some (!c8))else(some false)) λc5=>bif c5 then(some false)else(bif decide (t.pc=3)then(some (decide (t.res=(-1))))else(B5h (Bk t.res (max t.inv t.lin) 1000000) λf=>some f)))else(some false))else(bif decide (t.pc=4)then(B5h (Lh t.a (⟨11,0,[],[]⟩:DAnswer)) λN=>B5h (bif N then(some (decide (t.c.kind=2)))else(some false)) λr=>B5h (bif r then(some (decide (t.lin=(-1))))else(some false)) λA=>B5h (bif !A then(B5h (Bk t.lin t.inv 1000000) λI=>some (!I))else(some false)) λj=>bif j then(some false)else(bif decide (t.pc=3)then(some (decide (t.res=(-1))))else(B5h (Bk t.res (max t.inv t.lin) 1000000) λc9=>some c9)))else(some false))))))
def Bjk:E amb:=en 158 [Uv] [Aq] (Am Adi) Tryz.func158 [Bin,Afv,Q2,F9]
def Aux (s:ByteArray) (b:Int) (a:Int):Option (Lr (Int×Int) Int):=
 bif decide (a<(s.size:Int))then(xg (0<=a/\a<(s.size:Int))<|xg (Ae ((Gt b ((Bz s a.toNat).toNat:Int))*16777619))<|xg (0<=((Gt b ((Bz s a.toNat).toNat:Int))*16777619)/\0<(4294967296:Int))<|xg (Ae (a+1))<|some (Lr.go (((Gt b ((Bz s a.toNat).toNat:Int))*16777619) % 4294967296,a+1)))else(some (Lr.out b))
def Akf (s:ByteArray) (a:Int×Int):Option (Lr (Int×Int) Int):=Aux s a.1 a.2
def Qg (s:ByteArray):Option Int:=
 B5h (Bc (Akf s) (2166136261,0)) λa=>some a
def Bcd (s:ByteArray) (b:Int) (a:Int):Option (Lr (Int×Int) (Int×Int)):=
 bif decide (a<(s.size:Int))then(xg (0<=a/\a<(s.size:Int))<|xg (Ae ((Gt b ((Bz s a.toNat).toNat:Int))*16777619))<|xg (0<=((Gt b ((Bz s a.toNat).toNat:Int))*16777619)/\0<(4294967296:Int))<|xg (Ae (a+1))<|some (Lr.go (((Gt b ((Bz s a.toNat).toNat:Int))*16777619) % 4294967296,a+1)))else(some (Lr.out (b,a)))
def Bce (s:ByteArray) (a:Int×Int):Option (Lr (Int×Int) (Int×Int)):=Bcd s a.1 a.2
def Bcc (s:ByteArray):Option Int:=
 B5h (Bc (Bce s) (2166136261,0)) λa=>some a.1
def Biv:E amb:=en 162 [Cp] [A0] (Am Qg) Tryz.func162 [] [Ca 0 [Ax 3,Ax 4]] (hx:=λa=>Eq.trans (b:=Bcc a.1) (by kernel_rfl) (show _=Qg a.1 by simp only[Aux,Akf,Qg,Bcd,Bce,Bcc,Rh,Cq,D1,Cj,Cm,Cy]<;>rfl))
def Vz (b:ByteArray) (n:Int):Option Int:=
 bif decide (n<1)then(some 0)else(B5h (Qg b) λa=>xg (0<=a/\0<n)<|some (a % n))
def Aaf:E amb:=en 90 [Cp,Ap] [A0] (Ak Vz) Tryz.func90 [Biv]
def Awx (v:Int) (s:List Int) (a:Nat) (b:Int):Option (Lr Unit (Sum Unit Int)):=
 bif decide (v=b)then(some (Lr.out (B6e ((a:Int)))))else(some (Lr.go ()))
def Awy (v:Int) (s:List Int) (a:Nat) (_:Unit):Option (Lr Unit (Sum Unit Int)):=Awx v s a (el s a)
def Ad5 (s:List Int) (v:Int):Option Int:=
 B5h (Ai (Awy v s) (λ_=>(.inl ())) s.length 0 ()) λb=>B59 (λ_=>some (-1)) (λa=>some a) b
def Bd7 (v:Int) (s:List Int) (b:Nat) (a:Int):Option (Lr Unit (Sum Unit Int)):=
 bif decide (v=a)then(some (Lr.out (B6e (b:Int))))else(some (Lr.go ()))
def Bd8 (v:Int) (s:List Int) (a:Nat) (_:Unit):Option (Lr Unit (Sum Unit Int)):=Bd7 v s a (el s a)
def Bd6 (s:List Int) (v:Int):Option Int:=
 B5h (Ai (Bd8 v s) (λ_=>(.inl ())) s.length 0 ()) λa=>B59 (λ_=>some (-1)) (λb=>some b) a
def Blq:E amb:=en 286 [D4,Ap] [A0] (Ak Ad5) Tryz.func286 [] [B5 0 8 7 []] (hx:=λa=>Eq.trans (b:=Bd6 a.1 a.2.1) (by kernel_rfl) (show _=Ad5 a.1 a.2.1 by simp only[Awx,Awy,Ad5,Bd7,Bd8,Bd6,C2,Cq,Cj,Cm,Cy,Df,Dg]<;>rfl))
def S4 (s:List Int) (v:Int):Option Bool:=
 B5h (Ad5 s v) λa=>some (decide ((0:Int)<=a))
def A0o:E amb:=en 226 [D4,Ap] [Aq] (Ak S4) Tryz.func226 [Blq]
def Bar (c:Int) (_:List DTask) (_:Nat) (_:Nat) (b:Int) (a:List Int):Option (Lr (List Int) (Sum (List Int) Bool)):=
 bif decide (b=(-1))then(some (Lr.go a))else(B5h (bif decide (c<=b)then(some true)else(B5h (S4 a b) λe=>some e)) λd=>bif d then(some (Lr.out (B6e false)))else(xg (a.length<1099511627776)<|some (Lr.go (a++[b]))))
def Avs (e:Int) (a:List DTask) (b:Nat) (c:Nat) (d:List Int):Option (Lr (List Int) (Sum (List Int) Bool)):=Bar e a b c (el [(el a b).inv,(el a b).lin,(el a b).res] c) d
def Baq (i:Int) (h:List DTask) (f:Nat) (a:DTask) (b:List Int):Option (Lr (List Int) (Sum (List Int) Bool)):=
 B5h (Ai (Avs i h f) (λg=>(.inl g)) [a.inv,a.lin,a.res].length 0 b) λd=>B59 (λe=>some (Lr.go e)) (λc=>some (Lr.out (B6e c))) d
def Avr (c:Int) (a:List DTask) (b:Nat) (d:List Int):Option (Lr (List Int) (Sum (List Int) Bool)):=Baq c a b (el a b) d
def Adx (a:List DTask) (b:Int):Option Bool:=
 B5h (Ai (Avr b a) (λd=>(.inl d)) a.length 0 []) λc=>B59 (λ_=>some true) (λe=>some e) c
def Bjz:E amb:=en 160 [Uw,Ap] [Aq] (Ak Adx) Tryz.func160 [A0o] [B5 2 24 23 [C1 5 0],B5 0 12 11 [C1 5 0]]
def Avn (b:DWorld) (e:Nat) (_:Nat) (a:Int) (d:List Int):Option (Lr (List Int) (Sum (List Int) Bool)):=
 xg (Ae ((b.tasks.length:Int)-1))<|B5h (Bk a 0 ((b.tasks.length:Int)-1)) λg=>B5h (bif !g then(some true)else(xg (0<=a/\a<(b.tasks.length:Int))<|some (!decide (((el b.tasks (a.toNat)).pc)=2)))) λf=>B5h (bif f then(some true)else(xg (0<=a/\a<(b.tasks.length:Int))<|some (!decide ((el b.tasks (a.toNat)).c.doc=(el b.queues e).doc)))) λh=>B5h (bif h then(some true)else(B5h (S4 d a) λi=>some i)) λj=>bif j then(some (Lr.out (B6e (false))))else(xg (d.length<1099511627776)<|some (Lr.go (d++[a])))
def Ak8 (c:DWorld) (b:Nat) (a:Nat) (d:List Int):Option (Lr (List Int) (Sum (List Int) Bool)):=Avn c b a (el ((el c.queues b).list) a) d
def Avm (b:DWorld) (a:Nat) (c:DQueue) (g:List Int):Option (Lr (List Int) (Sum (List Int) Bool)):=
 B5h (bif decide ((0:Int)<(a:Int))then(xg (Ae ((a:Int)-1))<|xg (0<=((a:Int)-1)/\((a:Int)-1)<(b.queues.length:Int))<|some (!Bv ((el b.queues (((a:Int)-1).toNat)).doc) (c.doc)))else(some false)) λm=>B5h (bif m then(some true)else(B5h (Bk ((c.list).length:Int) 1 2) λe=>some (!e))) λi=>B5h (bif i then(some true)else(B5h (Jk b.h (c.doc)) λd=>some (decide (d<0)))) λf=>bif f then(some (Lr.out (B6e (false))))else(B5h (Ai (Ak8 b a) (λk=>(.inl k)) (c.list).length 0 g) λl=>B59 (λj=>some (Lr.go j)) (λn=>some (Lr.out (B6e (n)))) l)
def Ak7 (b:DWorld) (a:Nat) (c:List Int):Option (Lr (List Int) (Sum (List Int) Bool)):=Avm b a (el b.queues a) c
def Avo (d:List Int) (_:DWorld) (e:Nat) (a:DTask):Option (Lr Unit (Sum Unit Bool)):=
 B5h (bif decide ((a.pc)=2)then(B5h (S4 d (e:Int)) λb=>some (!b))else(some false)) λc=>bif c then(some (Lr.out (B6e (false))))else(some (Lr.go ()))
def Avp (c:List Int) (a:DWorld) (b:Nat) (_:Unit):Option (Lr Unit (Sum Unit Bool)):=Avo c a b (el a.tasks b)
def V4 (a:DWorld):Option Bool:=
 B5h (Ai (Ak7 a) (λb=>(.inl b)) a.queues.length 0 []) λc=>B59 (λg=>B5h (Ai (Avp g a) (λ_=>(.inl ())) a.tasks.length 0 ()) λd=>B59 (λ_=>some true) (λf=>some f) d) (λe=>some e) c
def Bdk (b:DWorld) (i:Nat) (_:Nat) (a:Int) (d:List Int):Option (Lr (List Int) (Sum (List Int) Bool)):=
 xg (Ae ((b.tasks.length:Int)-1))<|B5h (Bk a 0 ((b.tasks.length:Int)-1)) λe=>B5h (bif !e then(some true)else(xg (0<=a/\a<(b.tasks.length:Int))<|some (!decide (((el b.tasks (a.toNat)).pc)=2)))) λj=>B5h (bif j then(some true)else(xg (0<=a/\a<(b.tasks.length:Int))<|some (!decide ((el b.tasks (a.toNat)).c.doc=(el b.queues i).doc)))) λf=>B5h (bif f then(some true)else(B5h (S4 d a) λg=>some g)) λh=>bif h then(some (Lr.out (B6e false)))else(xg (d.length<1099511627776)<|some (Lr.go (d++[a])))
def Bdn (a:DWorld) (c:Nat) (b:Nat) (d:List Int):Option (Lr (List Int) (Sum (List Int) Bool)):=Bdk a c b (el ((el a.queues c).list) b) d
def Bdj (b:DWorld) (a:Nat) (c:DQueue) (j:List Int):Option (Lr (List Int) (Sum (List Int) Bool)):=
 B5h (bif decide ((0:Int)<(a:Int))then(xg (Ae ((a:Int)-1))<|xg (0<=((a:Int)-1)/\((a:Int)-1)<(b.queues.length:Int))<|some (!Bv ((el b.queues (((a:Int)-1).toNat)).doc) (c.doc)))else(some false)) λf=>B5h (bif f then(some true)else(B5h (Bk ((c.list).length:Int) 1 2) λn=>some (!n))) λi=>B5h (bif i then(some true)else(B5h (Jk b.h (c.doc)) λl=>some (decide (l<0)))) λe=>bif e then(some (Lr.out (B6e false)))else(B5h (Ai (Bdn b a) (λk=>(.inl k)) (c.list).length 0 j) λg=>B59 (λd=>some (Lr.go d)) (λm=>some (Lr.out (B6e m))) g)
def Bdm (a:DWorld) (b:Nat) (c:List Int):Option (Lr (List Int) (Sum (List Int) Bool)):=Bdj a b (el a.queues b) c
def Bdl (c:List Int) (_:DWorld) (d:Nat) (a:DTask):Option (Lr Unit (Sum Unit Bool)):=
 B5h (bif decide ((a.pc)=2)then(B5h (S4 c (d:Int)) λe=>some (!e))else(some false)) λb=>bif b then(some (Lr.out (B6e false)))else(some (Lr.go ()))
def Bdo (c:List Int) (a:DWorld) (b:Nat) (_:Unit):Option (Lr Unit (Sum Unit Bool)):=Bdl c a b (el a.tasks b)
def Bdi (a:DWorld):Option Bool:=
 B5h (Ai (Bdm a) (λc=>(.inl c)) a.queues.length 0 []) λg=>B59 (λe=>B5h (Ai (Bdo e a) (λ_=>(.inl ())) a.tasks.length 0 ()) λd=>B59 (λ_=>some true) (λf=>some f) d) (λb=>some b) g
def Bjv:E amb:=en 161 [Eh] [Aq] (Am V4) Tryz.func161 [M5,F9,A0o] [B5 2 50 49 [C1 3 0],B5 0 13 12 [C1 3 0],B5 4 96 95 []] (hx:=λa=>Eq.trans (b:=Bdi a.1) (by kernel_rfl) (show _=V4 a.1 by simp only[Avn,Ak8,Avm,Ak7,Avo,Avp,V4,Bdk,Bdn,Bdj,Bdm,Bdl,Bdo,Bdi,C2,Cq,D1,D8,Cj,cond_true,cond_false,Cm,Cy,Df,Dg]<;>rfl))
def Avd (b:Nat) (a:List Int):Option (Lr (List Int) (List Int)):=
 some (Lr.go (a.set b (-1)))
def Adn (a:Nat) (b:List Int):Option (Lr (List Int) (List Int)):=Avd a b
def Ave (e:DWorld) (g:Nat) (d:DTask) (b:List Int):Option (Lr (List Int) (Sum (List Int) Bool)):=
 B5h (Adi d) λf=>bif !f then(some (Lr.out (B6e (false))))else(bif decide ((d.pc)=1)then(B5h (Vz (d.c.doc) (e.locks.length:Int)) λa=>xg (0<=a/\a<(b.length:Int))<|bif !decide ((el b a.toNat)=(-1))then(some (Lr.out (B6e (false))))else(xg (0<=a/\a<(b.length:Int))<|some (Lr.go (b.set a.toNat (g:Int)))))else(some (Lr.go b)))
def Akz (a:DWorld) (b:Nat) (c:List Int):Option (Lr (List Int) (Sum (List Int) Bool)):=Ave a b (el a.tasks b) c
def Sw (a:DWorld):Option Bool:=
 B5h (Iv a.h) λi=>B5h (bif !i then(some true)else(B5h (Bk (a.locks.length:Int) 1 4) λs=>some (!s))) λn=>B5h (bif n then(some true)else(some (decide ((10:Int)<(a.tasks.length:Int))))) λr=>B5h (bif r then(some true)else(B5h (Bk a.step 0 1000000) λp=>some (!p))) λl=>bif l then(some false)else(xg (0<=(a.locks.length:Int)/\(a.locks.length:Int)<=1099511627776)<|B5h (Ai (Adn) (λc=>c) (B6l ((a.locks.length:Int).toNat) (0:Int)).length 0 (B6l ((a.locks.length:Int).toNat) (0:Int))) λm=>B5h (Ai (Akz a) (λb=>(.inl b)) a.tasks.length 0 m) λk=>B59 (λj=>B5h (Ow j a.locks) λd=>B5h (bif d then(B5h (Adx a.tasks a.step) λg=>some g)else(some false)) λe=>B5h (bif e then(B5h (V4 a) λf=>some f)else(some false)) λq=>some q) (λo=>some o) k)
def Bc0 (a:Nat) (b:List Int):Option (Lr (List Int) (List Int)):=
 some (Lr.go (b.set a (-1)))
def Bc2 (b:Nat) (a:List Int):Option (Lr (List Int) (List Int)):=Bc0 b a
def Bc1 (f:DWorld) (e:Nat) (d:DTask) (b:List Int):Option (Lr (List Int) (Sum (List Int) Bool)):=
 B5h (Adi d) λg=>bif !g then(some (Lr.out (B6e false)))else(bif decide ((d.pc)=1)then(B5h (Vz (d.c.doc) (f.locks.length:Int)) λa=>xg (0<=a/\a<(b.length:Int))<|bif !decide ((el b a.toNat)=(-1))then(some (Lr.out (B6e false)))else(xg (0<=a/\a<(b.length:Int))<|some (Lr.go (b.set a.toNat (e:Int)))))else(some (Lr.go b)))
def Bc3 (b:DWorld) (a:Nat) (c:List Int):Option (Lr (List Int) (Sum (List Int) Bool)):=Bc1 b a (el b.tasks a) c
def Bcz (a:DWorld):Option Bool:=
 B5h (Iv a.h) λj=>B5h (bif !j then(some true)else(B5h (Bk (a.locks.length:Int) 1 4) λp=>some (!p))) λf=>B5h (bif f then(some true)else(some (decide ((10:Int)<(a.tasks.length:Int))))) λk=>B5h (bif k then(some true)else(B5h (Bk a.step 0 1000000) λs=>some (!s))) λi=>bif i then(some false)else(xg (0<=(a.locks.length:Int)/\(a.locks.length:Int)<=1099511627776)<|B5h (Ai (Bc2) (λd=>d) (B6l ((a.locks.length:Int).toNat) (0:Int)).length 0 (B6l ((a.locks.length:Int).toNat) (0:Int))) λe=>B5h (Ai (Bc3 a) (λc=>(.inl c)) a.tasks.length 0 e) λb=>B59 (λm=>B5h (Ow m a.locks) λo=>B5h (bif o then(B5h (Adx a.tasks a.step) λr=>some r)else(some false)) λg=>B5h (bif g then(B5h (V4 a) λn=>some n)else(some false)) λl=>some l) (λq=>some q) b)
def Aah:E amb:=en 88 [Eh] [Aq] (Am Sw) Tryz.func88 [Q1,Aaf,Bjk,Bjv,Bjz,F9,Af2] [Da 0 37 36 [Dy 4 0],B5 2 47 46 [Dy 4 0]] (hx:=λa=>Eq.trans (b:=Bcz a.1) (by kernel_rfl) (show _=Sw a.1 by simp only[Avd,Adn,Ave,Akz,Sw,Bc0,Bc2,Bc1,Bc3,Bcz,C2,Cq,D1,D8,Cj,cond_true,cond_false,Cm,Cy,Df,Dg]<;>rfl))
def Ak0 (a:DWorld) (k:Int):Option Bool:=
 B5h (bif decide (a.step=1000000)then(some true)else(xg (Ae ((a.tasks.length:Int)-1))<|B5h (Bk k 0 ((a.tasks.length:Int)-1)) λd=>some (!d))) λh=>bif h then(some false)else(xg (0<=k/\k<(a.tasks.length:Int))<|B5h (bif decide (((el a.tasks k.toNat).pc)=0)then(B5h (Lj ((el a.tasks k.toNat).c.kind)) λe=>some e)else(some false)) λg=>bif g then(B5h (Vz ((el a.tasks k.toNat).c.doc) (a.locks.length:Int)) λb=>xg (0<=b/\b<(a.locks.length:Int))<|some (decide ((el a.locks b.toNat)=(-1))))else(B5h (bif !decide (((el a.tasks k.toNat).pc)=2)then(some (!decide (((el a.tasks k.toNat).pc)=4)))else(some false)) λf=>some f))
def An3:E amb:=en 89 [Eh,Ap] [Aq] (Ak Ak0) Tryz.func89 [Q2,Aaf,F9]
def Akd (b:ByteArray) (t:List Int):Option (DDoc×Bool):=
 B5h (Lk t) λa=>B5h (Kb (⟨b,0,a,[],[]⟩:DDoc)) λc=>bif !c then(some ((⟨B52,0,[],[],[]⟩:DDoc),false))else(some ((⟨b,0,a,[],[]⟩:DDoc),true))
def Bis:E amb:=en 287 [Cp,D4] [U5,Aq] (Ak Akd) Tryz.func287 [Ts,Tt]
def A92 (b:DHub) (c:ByteArray) (a:Int):Option (Lr Int Int):=
 B5h (bif decide (a<(b.docs.length:Int))then(xg (0<=a/\a<(b.docs.length:Int))<|some (Bv ((el b.docs a.toNat).name) c))else(some false)) λd=>bif d then(xg (Ae (a+1))<|some (Lr.go (a+1)))else(some (Lr.out a))
def A93 (b:DHub) (c:ByteArray) (a:Int):Option (Lr Int Int):=A92 b c a
def Akh (h:DHub) (b:ByteArray) (t:List Int):Option (DHub×Int):=
 B5h (Iv h) λd=>B5h (bif !d then(some true)else(B5h (Jl b) λg=>some (!g))) λj=>B5h (bif j then(some true)else(B5h (Ms t) λf=>some (!f))) λi=>bif i then(some ((⟨false,[],[],0⟩:DHub),1))else(bif h.shut then(some ((⟨false,[],[],0⟩:DHub),12))else(B5h (Jk h b) λc=>bif decide ((0:Int)<=c)then(some ((⟨false,[],[],0⟩:DHub),7))else(bif decide ((h.docs.length:Int)=5)then(some ((⟨false,[],[],0⟩:DHub),10))else(B5h (Akd b t) λk=>B5h (Ek h) λa=>B5h (Bc (A93 a b) 0) λl=>B5h (Vt a.docs l [k.1]) λe=>some ((⟨a.shut,e,a.subs,a.last⟩:DHub),0)))))
def Bix:E amb:=en 227 [D5,Cp,D4] [Hk,A0] (H4 Akh) Tryz.func227 [Bik,Bis,M5,Q1,An1,Aag,Q4] [Ca 1 [Ax 11]]
def Au7 (b:Int) (d:DDoc) (_:Nat) (a:DSeen):Option (Lr Unit (Sum Unit (Bool×Int×Int×Int))):=
 bif decide ((a.client)=b)then(some (Lr.out (B6e ((true,a.client,a.seq,a.rev)))))else(some (Lr.go ()))
def Au8 (b:Int) (d:DDoc) (a:Nat) (_:Unit):Option (Lr Unit (Sum Unit (Bool×Int×Int×Int))):=Au7 b d a (el d.seen a)
def Y8 (d:DDoc) (c:Int):Option (DSeen×Bool):=
 B5h (Ai (Au8 c d) (λ_=>(.inl ())) d.seen.length 0 ()) λb=>B59 (λ_=>some ((⟨0,0,0⟩:DSeen),false)) (λa=>some ((⟨a.2.1,a.2.2.1,a.2.2.2⟩:DSeen),a.1)) b
def Bcr (b:Int) (d:DDoc) (_:Nat) (a:DSeen):Option (Lr Unit (Sum Unit (DSeen×Bool))):=
 bif decide ((a.client)=b)then(some (Lr.out (B6e (a,true))))else(some (Lr.go ()))
def Bcs (b:Int) (d:DDoc) (a:Nat) (_:Unit):Option (Lr Unit (Sum Unit (DSeen×Bool))):=Bcr b d a (el d.seen a)
def Bcq (d:DDoc) (a:Int):Option (DSeen×Bool):=
 B5h (Ai (Bcs a d) (λ_=>(.inl ())) d.seen.length 0 ()) λc=>B59 (λ_=>some ((⟨0,0,0⟩:DSeen),false)) (λb=>some b) c
def Bje:E amb:=en 328 [Ep,Ap] [Asm,Aq] (Ak Y8) Tryz.func328 [] [B5 0 11 10 []] (hx:=λa=>Eq.trans (b:=Bcq a.1 a.2.1) (by kernel_rfl) (show _=Y8 a.1 a.2.1 by simp only[Au7,Au8,Y8,Bcr,Bcs,Bcq,C2,Cq,Cj,Cm,Cy,Df,Dg]<;>rfl))
def Ado (d:DDoc) (a:Int):Option Int:=
 B5h (Fd d) λb=>bif decide (b<a)then(some 2)else(bif decide (a<d.from_)then(some 3)else(some 0))
def A0a:E amb:=en 332 [Ep,Ap] [A0] (Ak Ado) Tryz.func332 [Lu]
def Adj (d:DDoc) (a:Int):Option (List Int×Bool):=
 B5h (Kb d) λc=>B5h (bif !c then(some true)else(B5h (Fd d) λf=>B5h (Bk a d.from_ f) λe=>some (!e))) λg=>bif g then(some ([],false))else(xg (Ae (a-d.from_))<|xg (0<=(a-d.from_)/\(a-d.from_)<=(d.list.length:Int))<|B5h (V3 ((d.list.take ((a-d.from_).toNat)).drop 0)) λh=>B5h (Sr h d.text) λb=>some (b.1,b.2))
def Az8:E amb:=en 331 [Ep,Ap] [Jd,Aq] (Ak Adj) Tryz.func331 [Az2,Ts,Lu,An6,F9]
def Akm (d:DDoc) (a:Int):Option (List (List DPart)×Bool):=
 B5h (Kb d) λb=>B5h (bif !b then(some true)else(B5h (Fd d) λe=>B5h (Bk a d.from_ e) λc=>some (!c))) λf=>bif f then(some ([],false))else(xg (Ae (a-d.from_))<|xg (0<=(a-d.from_)/\(a-d.from_)<=(d.list.length:Int))<|B5h (V3 ((d.list.take d.list.length).drop ((a-d.from_).toNat))) λg=>some (g,true))
def Bi6:E amb:=en 350 [Ep,Ap] [Ab7,Aq] (Ak Akm) Tryz.func350 [Ts,Lu,An6,F9]
def Ban (a:List DPart):Option (Lr (List DPart) (List DPart)):=
 B5h (bif decide ((0:Int)<(a.length:Int))then(xg (0<=(0:Int)/\(0:Int)<(a.length:Int))<|B5h (Kc (el a 0)) λb=>some (decide (b=0)))else(some false)) λc=>bif c then(xg (0<=(1:Int)/\(1:Int)<=(a.length:Int))<|some (Lr.go ((a.take a.length).drop 1)))else(some (Lr.out a))
def Ak9 (a:List DPart):Option (Lr (List DPart) (List DPart)):=Ban a
def F8 (b:DRest):Option (DPart×DRest):=
 B5h (Bc (Ak9) b.parts) λa=>bif decide ((a.length:Int)=0)then(some ((⟨0,0,[]⟩:DPart),(⟨a⟩:DRest)))else(xg (0<=(0:Int)/\(0:Int)<(a.length:Int))<|some (el a 0,(⟨a⟩:DRest)))
def Bjw:E amb:=en 372 [Ar2] [Asn] (Am F8) Tryz.func372 [Af1] [Ca 0 [.box 0 0 [.ro (.b 4)]]]
def Ov (a:DRest) (n:Int):Option (DPart×DRest):=
 xg (0<=(0:Int)/\(0:Int)<(a.parts.length:Int))<|bif decide (((el a.parts 0).kind)=2)then(xg (0<=n/\n<=(((el a.parts 0).signs).length:Int))<|xg (0<=n/\n<=(((el a.parts 0).signs).length:Int))<|xg (0<=(1:Int)/\(1:Int)<=(a.parts.length:Int))<|xg ([(⟨(el a.parts 0).kind,(el a.parts 0).n,(((el a.parts 0).signs).take ((el a.parts 0).signs).length).drop n.toNat⟩:DPart)].length+((a.parts.take a.parts.length).drop 1).length<=1099511627776)<|some ((⟨(el a.parts 0).kind,(el a.parts 0).n,(((el a.parts 0).signs).take n.toNat).drop 0⟩:DPart),(⟨[(⟨(el a.parts 0).kind,(el a.parts 0).n,(((el a.parts 0).signs).take ((el a.parts 0).signs).length).drop n.toNat⟩:DPart)]++((a.parts.take a.parts.length).drop 1)⟩:DRest)))else(xg (Ae (((el a.parts 0).n)-n))<|xg (0<=(1:Int)/\(1:Int)<=(a.parts.length:Int))<|xg ([(⟨(el a.parts 0).kind,((el a.parts 0).n)-n,(el a.parts 0).signs⟩:DPart)].length+((a.parts.take a.parts.length).drop 1).length<=1099511627776)<|some ((⟨(el a.parts 0).kind,n,(el a.parts 0).signs⟩:DPart),(⟨[(⟨(el a.parts 0).kind,((el a.parts 0).n)-n,(el a.parts 0).signs⟩:DPart)]++((a.parts.take a.parts.length).drop 1)⟩:DRest)))
def A0h:E amb:=en 374 [Ar2,Ap] [Asn] (Ak Ov) Tryz.func374
def Qj (a:DRest):Option (DPart×DRest):=
 xg (0<=(0:Int)/\(0:Int)<(a.parts.length:Int))<|B5h (Kc (el a.parts 0)) λc=>B5h (Ov a c) λb=>some (b.1,b.2)
def Bjx:E amb:=en 373 [Ar2] [Asn] (Am Qj) Tryz.func373 [A0h,Af1]
def Ot (b:List DPart) (a:List DPart) (q:List DPart) (p:List DPart):Option (Lr (List DPart×List DPart×List DPart×List DPart) (List DPart×List DPart)):=
 B5h (F8 (⟨q⟩:DRest)) λj=>B5h (bif !decide (j.1.kind=0)then(some (true,p))else(B5h (F8 (⟨p⟩:DRest)) λn=>some (!decide (n.1.kind=0),n.2.parts))) λf=>bif f.1 then(B5h (F8 j.2) λe=>bif decide (e.1.kind=2)then(B5h (Qj e.2) λh=>xg (b.length<1099511627776)<|xg (a.length<1099511627776)<|some (Lr.go (b++[h.1],a++[(⟨1,(h.1.signs.length:Int),[]⟩:DPart)],h.2.parts,f.2)))else(B5h (F8 (⟨f.2⟩:DRest)) λg=>bif decide (g.1.kind=2)then(B5h (Qj g.2) λi=>xg (b.length<1099511627776)<|xg (a.length<1099511627776)<|some (Lr.go (b++[(⟨1,(i.1.signs.length:Int),[]⟩:DPart)],a++[i.1],e.2.parts,i.2.parts)))else(B5h (F8 e.2) λk=>B5h (Kc k.1) λm=>B5h (F8 g.2) λo=>B5h (Kc o.1) λl=>B5h (Ov k.2 (min m l)) λc=>B5h (Ov o.2 (min m l)) λd=>bif decide (d.1.kind=1)then(xg (b.length<1099511627776)<|bif decide (c.1.kind=1)then(xg (a.length<1099511627776)<|some (Lr.go (b++[c.1],a++[d.1],c.2.parts,d.2.parts)))else(some (Lr.go (b++[c.1],a,c.2.parts,d.2.parts))))else(bif decide (c.1.kind=1)then(xg (a.length<1099511627776)<|some (Lr.go (b,a++[d.1],c.2.parts,d.2.parts)))else(some (Lr.go (b,a,c.2.parts,d.2.parts)))))))else(some (Lr.out (b,a)))
def Adm (a:List DPart×List DPart×List DPart×List DPart):Option (Lr (List DPart×List DPart×List DPart×List DPart) (List DPart×List DPart)):=Ot a.1 a.2.1 a.2.2.1 a.2.2.2
def V0 (a:List DPart) (b:List DPart):Option (List DPart×List DPart×Bool):=
 B5h (Fp a) λm=>B5h (bif !m then(some true)else(B5h (Fp b) λk=>some (!k))) λj=>B5h (bif j then(some true)else(B5h (Mq a) λl=>B5h (Mq b) λg=>some (!decide (l=g)))) λf=>bif f then(some ([],[],false))else(B5h (Bc (Adm) ([],[],a,b)) λd=>B5h (Ou d.1) λe=>B5h (Ou d.2) λc=>B5h (Fp e) λn=>B5h (bif !n then(some true)else(B5h (Fp c) λi=>some (!i))) λh=>bif h then(some ([],[],false))else(some (e,c,true)))
def Bcx (b:List DPart) (a:List DPart) (z:List DPart) (o:List DPart):Option (Lr (List DPart×List DPart×List DPart×List DPart) (List DPart×List DPart×List DPart×List DPart)):=
 B5h (F8 (⟨z⟩:DRest)) λj=>bif !decide (j.1.kind=0)then(B5h (F8 j.2) λg=>bif decide (g.1.kind=2)then(B5h (Qj g.2) λn=>xg (b.length<1099511627776)<|xg (a.length<1099511627776)<|some (Lr.go (b++[n.1],a++[(⟨1,(n.1.signs.length:Int),[]⟩:DPart)],n.2.parts,o)))else(B5h (F8 (⟨o⟩:DRest)) λl=>bif decide (l.1.kind=2)then(B5h (Qj l.2) λq=>xg (b.length<1099511627776)<|xg (a.length<1099511627776)<|some (Lr.go (b++[(⟨1,(q.1.signs.length:Int),[]⟩:DPart)],a++[q.1],g.2.parts,q.2.parts)))else(B5h (F8 g.2) λx=>B5h (Kc x.1) λt=>B5h (F8 l.2) λr=>B5h (Kc r.1) λw=>B5h (Ov x.2 (min t w)) λc=>B5h (Ov r.2 (min t w)) λf=>bif decide (f.1.kind=1)then(xg (b.length<1099511627776)<|bif decide (c.1.kind=1)then(xg (a.length<1099511627776)<|some (Lr.go (b++[c.1],a++[f.1],c.2.parts,f.2.parts)))else(some (Lr.go (b++[c.1],a,c.2.parts,f.2.parts))))else(bif decide (c.1.kind=1)then(xg (a.length<1099511627776)<|some (Lr.go (b,a++[f.1],c.2.parts,f.2.parts)))else(some (Lr.go (b,a,c.2.parts,f.2.parts)))))))else(B5h (F8 (⟨o⟩:DRest)) λi=>bif !decide (i.1.kind=0)then(B5h (F8 j.2) λh=>bif decide (h.1.kind=2)then(B5h (Qj h.2) λm=>xg (b.length<1099511627776)<|xg (a.length<1099511627776)<|some (Lr.go (b++[m.1],a++[(⟨1,(m.1.signs.length:Int),[]⟩:DPart)],m.2.parts,i.2.parts)))else(B5h (F8 i.2) λk=>bif decide (k.1.kind=2)then(B5h (Qj k.2) λp=>xg (b.length<1099511627776)<|xg (a.length<1099511627776)<|some (Lr.go (b++[(⟨1,(p.1.signs.length:Int),[]⟩:DPart)],a++[p.1],h.2.parts,p.2.parts)))else(B5h (F8 h.2) λu=>B5h (Kc u.1) λv=>B5h (F8 k.2) λy=>B5h (Kc y.1) λs=>B5h (Ov u.2 (min v s)) λd=>B5h (Ov y.2 (min v s)) λe=>bif decide (e.1.kind=1)then(xg (b.length<1099511627776)<|bif decide (d.1.kind=1)then(xg (a.length<1099511627776)<|some (Lr.go (b++[d.1],a++[e.1],d.2.parts,e.2.parts)))else(some (Lr.go (b++[d.1],a,d.2.parts,e.2.parts))))else(bif decide (d.1.kind=1)then(xg (a.length<1099511627776)<|some (Lr.go (b,a++[e.1],d.2.parts,e.2.parts)))else(some (Lr.go (b,a,d.2.parts,e.2.parts)))))))else(some (Lr.out (b,a,j.2.parts,i.2.parts))))
def Bcy (a:List DPart×List DPart×List DPart×List DPart):Option (Lr (List DPart×List DPart×List DPart×List DPart) (List DPart×List DPart×List DPart×List DPart)):=Bcx a.1 a.2.1 a.2.2.1 a.2.2.2
def Bcw (a:List DPart) (b:List DPart):Option (List DPart×List DPart×Bool):=
 B5h (Fp a) λg=>B5h (bif !g then(some true)else(B5h (Fp b) λk=>some (!k))) λf=>B5h (bif f then(some true)else(B5h (Mq a) λj=>B5h (Mq b) λh=>some (!decide (j=h)))) λl=>bif l then(some ([],[],false))else(B5h (Bc (Bcy) ([],[],a,b)) λc=>B5h (Ou c.1) λd=>B5h (Ou c.2.1) λe=>B5h (Fp d) λn=>B5h (bif !n then(some true)else(B5h (Fp e) λi=>some (!i))) λm=>bif m then(some ([],[],false))else(some (d,e,true)))
def Bjo:E amb:=en 366 [B8,B8] [Fz,Fz,Aq] (Ak V0) Tryz.func366 [Afx,M6,A0e,Bjw,A0h,Bjx,Af1] [Ca 0 [.slot 9 (.sha (.b 4)),.slot 10 (.sha (.b 4)),.box 7 0 [.ro (.b 4)],.box 8 0 [.ro (.b 4)]]] (hx:=λa=>Eq.trans (b:=Bcw a.1 a.2.1) (by kernel_rfl) (show _=V0 a.1 a.2.1 by simp only[Ot,Adm,V0,Bcx,Bcy,Bcw,Rh,Cq,D1,D8,Cj,cond_true,Cm,Cy]<;>rfl))
def Avl (l:List (List DPart)) (_:Nat) (c:List DPart) (b:List (List DPart)) (d:List DPart):Option (Lr (List (List DPart)×List DPart) (Sum (List (List DPart)×List DPart) Unit)):=
 B5h (V0 c d) λa=>bif !a.2.2 then(some (Lr.out (B6e (()))))else(xg (b.length<1099511627776)<|some (Lr.go (b++[a.1],a.2.1)))
def Ak6 (l:List (List DPart)) (a:Nat) (b:List (List DPart)×List DPart):Option (Lr (List (List DPart)×List DPart) (Sum (List (List DPart)×List DPart) Unit)):=Avl l a (el l a) b.1 b.2
def Adt (l:List (List DPart)) (b:List DPart):Option (List (List DPart)×List DPart×Bool):=
 B5h (Fp b) λd=>bif !d then(some ([],[],false))else(B5h (Su b) λf=>B5h (Ai (Ak6 l) (λa=>(.inl (a.1,a.2))) l.length 0 ([],f)) λe=>B59 (λc=>some (c.1,c.2,true)) (λ_=>some ([],[],false)) e)
def Bdg (l:List (List DPart)) (_:Nat) (c:List DPart) (b:List (List DPart)) (d:List DPart):Option (Lr (List (List DPart)×List DPart) (Sum (List (List DPart)×List DPart) (List (List DPart)×List DPart×Bool))):=
 B5h (V0 c d) λa=>bif !a.2.2 then(some (Lr.out (B6e ([],[],false))))else(xg (b.length<1099511627776)<|some (Lr.go (b++[a.1],a.2.1)))
def Bdh (l:List (List DPart)) (b:Nat) (a:List (List DPart)×List DPart):Option (Lr (List (List DPart)×List DPart) (Sum (List (List DPart)×List DPart) (List (List DPart)×List DPart×Bool))):=Bdg l b (el l b) a.1 a.2
def Bdf (l:List (List DPart)) (b:List DPart):Option (List (List DPart)×List DPart×Bool):=
 B5h (Fp b) λf=>bif !f then(some ([],[],false))else(B5h (Su b) λd=>B5h (Ai (Bdh l) (λa=>(.inl (a.1,a.2))) l.length 0 ([],d)) λg=>B59 (λc=>some (c.1,c.2,true)) (λe=>some e) g)
def Bju:E amb:=en 361 [Abz,B8] [Ab7,Fz,Aq] (Ak Adt) Tryz.func361 [Afy,M6,Bjo] [B5 0 21 20 [.slot 7 (.row (.sl (.b 4))),C1 8 4]] (hx:=λa=>Eq.trans (b:=Bdf a.1 a.2.1) (by kernel_rfl) (show _=Adt a.1 a.2.1 by simp only[Avl,Ak6,Adt,Bdg,Bdh,Bdf,C2,Cq,D1,D8,Cj,Cm,Cy,Df,Dg]<;>rfl))
def Akn (l:List (List DPart)) (b:List DPart):Option (List DPart×Bool):=
 B5h (Adt l b) λa=>some (a.2.1,a.2.2)
def Bi8:E amb:=en 351 [Abz,B8] [Fz,Aq] (Ak Akn) Tryz.func351 [Bju]
def Akp (d:DDoc) (a:Int) (o:List DPart):Option (List DPart×Int):=
 B5h (Kb d) λh=>B5h (bif !h then(some true)else(B5h (Fp o) λe=>some (!e))) λi=>bif i then(some ([],1))else(B5h (Ado d a) λb=>bif !decide (b=0)then(some ([],b))else(B5h (Adj d a) λf=>B5h (Mq o) λj=>bif !decide (j=(f.1.length:Int))then(some ([],1))else(B5h (Akm d a) λg=>B5h (Akn g.1 o) λc=>bif !c.2 then(some ([],5))else(some (c.1,0)))))
def Bja:E amb:=en 329 [Ep,Ap,B8] [Fz,A0] (H4 Akp) Tryz.func329 [Ts,Afx,M6,Bi6,Bi8,Az8,A0a]
def Baa (b:DDoc) (c:Int) (a:Int):Option (Lr Int Int):=
 B5h (bif decide (a<(b.seen.length:Int))then(xg (0<=a/\a<(b.seen.length:Int))<|some (decide (((el b.seen a.toNat).client)<c)))else(some false)) λd=>bif d then(xg (Ae (a+1))<|some (Lr.go (a+1)))else(some (Lr.out a))
def Akv (c:DDoc) (a:Int) (b:Int):Option (Lr Int Int):=Baa c a b
def Aku (d:DDoc) (b:Int) (c:Int) (t:Int) (o:List DPart):Option (DDoc×Int×Int):=
 B5h (Kb d) λm=>B5h (bif !m then(some true)else(B5h (Bk b 1 8) λs=>some (!s))) λr=>B5h (bif r then(some true)else(B5h (Bk c 1 1000000000) λj=>some (!j))) λv=>B5h (bif v then(some true)else(B5h (Fp o) λw=>some (!w))) λp=>bif p then(some ((⟨B52,0,[],[],[]⟩:DDoc),0,1))else(B5h (Y8 d b) λh=>bif decide (h.1.seq=c)then(B5h (Qh d) λk=>some (k,h.1.rev,0))else(xg (Ae (h.1.seq+1))<|bif !decide ((h.1.seq+1)=c)then(some ((⟨B52,0,[],[],[]⟩:DDoc),0,4))else(B5h (Akp d t o) λe=>bif !decide (e.2=0)then(some ((⟨B52,0,[],[],[]⟩:DDoc),0,e.2))else(B5h (Fd d) λu=>bif decide ((999999000:Int)<=u)then(some ((⟨B52,0,[],[],[]⟩:DDoc),0,5))else(B5h (Qh d) λa=>xg (a.list.length<1099511627776)<|B5h (Fd (⟨a.name,a.from_,a.text,a.list++[(⟨b,c,e.1⟩:DEntry)],a.seen⟩:DDoc)) λg=>B5h (Bc (Akv a b) 0) λf=>B5h (bif decide (f<(a.seen.length:Int))then(xg (0<=f/\f<(a.seen.length:Int))<|some (decide (((el a.seen f.toNat).client)=b)))else(some false)) λl=>bif l then(xg (0<=f/\f<(a.seen.length:Int))<|bif decide ((8:Int)<((a.list++[(⟨b,c,e.1⟩:DEntry)]).length:Int))then(xg (0<=(0:Int)/\(0:Int)<((a.list++[(⟨b,c,e.1⟩:DEntry)]).length:Int))<|B5h (Oo ((el (a.list++[(⟨b,c,e.1⟩:DEntry)]) 0).o) a.text) λq=>xg (Ae (a.from_+1))<|xg (0<=(1:Int)/\(1:Int)<=((a.list++[(⟨b,c,e.1⟩:DEntry)]).length:Int))<|some ((⟨a.name,a.from_+1,q.1,((a.list++[(⟨b,c,e.1⟩:DEntry)]).take ((a.list++[(⟨b,c,e.1⟩:DEntry)]).length)).drop 1,a.seen.set f.toNat (⟨b,c,g⟩:DSeen)⟩:DDoc),g,0))else(some ((⟨a.name,a.from_,a.text,a.list++[(⟨b,c,e.1⟩:DEntry)],a.seen.set f.toNat (⟨b,c,g⟩:DSeen)⟩:DDoc),g,0)))else(B5h (Vt a.seen f [(⟨b,c,g⟩:DSeen)]) λi=>bif decide ((8:Int)<((a.list++[(⟨b,c,e.1⟩:DEntry)]).length:Int))then(xg (0<=(0:Int)/\(0:Int)<((a.list++[(⟨b,c,e.1⟩:DEntry)]).length:Int))<|B5h (Oo ((el (a.list++[(⟨b,c,e.1⟩:DEntry)]) 0).o) a.text) λn=>xg (Ae (a.from_+1))<|xg (0<=(1:Int)/\(1:Int)<=((a.list++[(⟨b,c,e.1⟩:DEntry)]).length:Int))<|some ((⟨a.name,a.from_+1,n.1,((a.list++[(⟨b,c,e.1⟩:DEntry)]).take ((a.list++[(⟨b,c,e.1⟩:DEntry)]).length)).drop 1,i⟩:DDoc),g,0))else(some ((⟨a.name,a.from_,a.text,a.list++[(⟨b,c,e.1⟩:DEntry)],i⟩:DDoc),g,0))))))))
def Bjj:E amb:=en 289 [Ep,Ap,Ap,Ap,B8] [U5,A0,A0] (uc5 Aku) Tryz.func289 [Bil,Az1,Ts,Lu,M6,Bja,Bje,A0c,F9] [Ca 2 [Ax 19]]
def Akr (b:DRing) (e:DEntry):Option DRing:=
 B5h (Qi b) λa=>B5h (Mr b) λh=>B5h (bif !h then(some true)else(B5h (Ss e) λd=>some (!d))) λg=>B5h (bif g then(some true)else(some b.out)) λf=>bif f then(some a)else(bif decide ((b.list.length:Int)=b.cap)then(some (⟨a.cap,a.next,true,[]⟩:DRing))else(B5h (Sx [e]) λc=>xg (a.list.length+c.length<=1099511627776)<|some (⟨a.cap,a.next,a.out,a.list++c⟩:DRing)))
def Bjc:E amb:=en 290 [Jb,Jz] [Mc] (Ak Akr) Tryz.func290 [An0,Aae,Aai,An5]
def A94 (d:ByteArray) (a:DDoc×Int×Int) (f:Int) (g:Int) (o:List DPart) (c:Nat) (b:List DSub):Option (Lr (List DSub) (List DSub)):=
 bif decide ((el b c).doc=d)then(xg (Ae ((a.1.list.length:Int)-1))<|xg (0<=((a.1.list.length:Int)-1)/\((a.1.list.length:Int)-1)<(a.1.list.length:Int))<|B5h (Akr ((el b c).r) (⟨(el a.1.list (((a.1.list.length:Int)-1).toNat)).client,(el a.1.list (((a.1.list.length:Int)-1).toNat)).seq,(el a.1.list (((a.1.list.length:Int)-1).toNat)).o⟩:DEntry)) λe=>some (Lr.go (b.set c (⟨(el b c).id,(el b c).doc,e⟩:DSub))))else(some (Lr.go b))
def Au2 (d:ByteArray) (f:DDoc×Int×Int) (b:Int) (e:Int) (o:List DPart) (a:Nat) (c:List DSub):Option (Lr (List DSub) (List DSub)):=A94 d f b e o a c
def Akj (h:DHub) (d:ByteArray) (e:Int) (f:Int) (l:Int) (o:List DPart):Option (DHub×Int×Int):=
 B5h (Jk h d) λa=>B5h (Iv h) λj=>bif !j then(some ((⟨false,[],[],0⟩:DHub),0,1))else(bif h.shut then(some ((⟨false,[],[],0⟩:DHub),0,12))else(bif decide (a<0)then(some ((⟨false,[],[],0⟩:DHub),0,6))else(xg (0<=a/\a<(h.docs.length:Int))<|B5h (Aku (el h.docs a.toNat) e f l o) λc=>bif !decide (c.2.2=0)then(some ((⟨false,[],[],0⟩:DHub),0,c.2.2))else(B5h (Ek h) λb=>xg (0<=a/\a<(b.docs.length:Int))<|B5h (Fd c.1) λm=>xg (0<=a/\a<(h.docs.length:Int))<|B5h (Fd (el h.docs a.toNat)) λi=>bif decide (i<m)then(B5h (Ai (Au2 d c e f o) (λk=>k) b.subs.length 0 b.subs) λg=>some ((⟨b.shut,b.docs.set a.toNat c.1,g,b.last⟩:DHub),c.2.1,0))else(some ((⟨b.shut,b.docs.set a.toNat c.1,b.subs,b.last⟩:DHub),c.2.1,0))))))
def Bi2:E amb:=en 228 [D5,Cp,Ap,Ap,Ap,B8] [Hk,A0,A0] (uc6 Akj) Tryz.func228 [Lu,M5,Q1,Bjc,Bjj,Q4] [Da 1 75 74 [Dy 73 9]]
def Ac6 (d:DDoc):Option (List Int):=
 B5h (Fd d) λa=>B5h (Adj d a) λb=>some b.1
def Az4:E amb:=en 291 [Ep] [Jd] (Am Ac6) Tryz.func291 [Lu,Az8]
def Ake (d:DDoc) (a:Int):Option (List DEntry×Int):=
 B5h (Kb d) λe=>bif !e then(some ([],1))else(B5h (Ado d a) λb=>bif !decide (b=0)then(some ([],b))else(xg (Ae (a-d.from_))<|xg (0<=(a-d.from_)/\(a-d.from_)<=(d.list.length:Int))<|B5h (Sx ((d.list.take d.list.length).drop ((a-d.from_).toNat))) λc=>some (c,0)))
def Biu:E amb:=en 292 [Ep,Ap] [Px,A0] (Ak Ake) Tryz.func292 [Ts,A0a,Aai]
def Adr (h:DHub) (c:DCall):Option DAnswer:=
 B5h (Jk h c.doc) λa=>bif h.shut then(some (⟨12,0,[],[]⟩:DAnswer))else(bif decide (a<0)then(some (⟨6,0,[],[]⟩:DAnswer))else(bif decide (c.kind=4)then(xg (0<=a/\a<(h.docs.length:Int))<|xg (0<=a/\a<(h.docs.length:Int))<|B5h (Ac6 (el h.docs a.toNat)) λd=>B5h (Fd (el h.docs a.toNat)) λe=>some (⟨0,e,d,[]⟩:DAnswer))else(xg (0<=a/\a<(h.docs.length:Int))<|B5h (Ake (el h.docs a.toNat) c.n) λb=>some (⟨b.2,0,[],b.1⟩:DAnswer))))
def Bjr:E amb:=en 229 [D5,Gk] [U6] (Ak Adr) Tryz.func229 [Biu,Lu,Az4,M5]
def Adf (b:Int) (a:Int):Option (DRing×Bool):=
 xg (Ae (a+1))<|B5h (Mr (⟨b,a+1,false,[]⟩:DRing)) λc=>bif !c then(some ((⟨0,0,false,[]⟩:DRing),false))else(some ((⟨b,a+1,false,[]⟩:DRing),true))
def Az7:E amb:=en 293 [Ap,Ap] [Mc,Aq] (Ak Adf) Tryz.func293 [Aae]
def Adb (h:DHub) (c:ByteArray) (d:Int):Option (DHub×Int×Int):=
 B5h (Jk h c) λb=>B5h (Iv h) λi=>B5h (bif !i then(some true)else(B5h (Bk d 1 6) λf=>some (!f))) λe=>bif e then(some ((⟨false,[],[],0⟩:DHub),0,1))else(bif h.shut then(some ((⟨false,[],[],0⟩:DHub),0,12))else(bif decide (b<0)then(some ((⟨false,[],[],0⟩:DHub),0,6))else(B5h (bif decide ((h.subs.length:Int)=6)then(some true)else(some (decide (h.last=1000000000)))) λj=>bif j then(some ((⟨false,[],[],0⟩:DHub),0,10))else(B5h (Ek h) λa=>xg (Ae (a.last+1))<|xg (0<=b/\b<(h.docs.length:Int))<|B5h (Fd (el h.docs b.toNat)) λg=>B5h (Adf d g) λk=>xg (a.subs.length<1099511627776)<|some ((⟨a.shut,a.docs,a.subs++[(⟨a.last+1,c,k.1⟩:DSub)],a.last+1⟩:DHub),a.last+1,0)))))
def Bi3:E amb:=en 230 [D5,Cp,Ap] [Hk,A0,A0] (H4 Adb) Tryz.func230 [Lu,M5,Q1,Az7,Q4,F9]
def Aki (s:DSub) (p:Int):Option (Bool×Int):=
 some (decide (s.id=p),p)
def Bi1:E amb:=en 334 [X7,.box .ow (.b 0)] [Aq] (Ak Aki) Tryz.func334
def Bax (s:List DSub) (d:Nat) (c:DSub) (b:Int):Option (Lr Int (Sum Int (Int×Int))):=
 B5h (Aki c b) λa=>bif a.1 then(some (Lr.out (B6e (((d:Int),a.2)))))else(some (Lr.go a.2))
def Bay (s:List DSub) (a:Nat) (b:Int):Option (Lr Int (Sum Int (Int×Int))):=Bax s a (el s a) b
def Ad4 (s:List DSub) (c:Int):Option (Int×Int):=
 B5h (Ai (Bay s) (λd=>(.inl d)) s.length 0 c) λb=>B59 (λe=>some (-1,e)) (λa=>some (a.1,a.2)) b
def B5a (s:List DSub) (b:Nat) (c:DSub) (d:Int):Option (Lr Int (Sum Int (Int×Int))):=
 B5h (Aki c d) λa=>bif a.1 then(some (Lr.out (B6e ((b:Int),a.2))))else(some (Lr.go a.2))
def B5b (s:List DSub) (a:Nat) (b:Int):Option (Lr Int (Sum Int (Int×Int))):=B5a s a (el s a) b
def Bd5 (s:List DSub) (c:Int):Option (Int×Int):=
 B5h (Ai (B5b s) (λa=>(.inl a)) s.length 0 c) λe=>B59 (λb=>some (-1,b)) (λd=>some d) e
def Blp:E amb:=en 333 [X8,.fn 334 1,.cap .ow (.b 0)] [A0] (Ak Ad4) Tryz.func333 [Bi1] [B5 0 8 7 [.box 1 1 [.sc 0]]] (hx:=λa=>Eq.trans (b:=Bd5 a.1 a.2.1) (by kernel_rfl) (show _=Ad4 a.1 a.2.1 by simp only[Ad4,Bd5]<;>rfl))
def Ada (h:DHub) (b:Int):Option Int:=
 B5h (Ad4 h.subs b) λa=>some a.1
def Az5:E amb:=en 294 [D5,Ap] [A0] (Ak Ada) Tryz.func294 [Blp]
def Akq (a:DRing) (n:Int):Option (DRing×List DEntry×Int):=
 B5h (Qi a) λb=>B5h (Mr a) λc=>B5h (bif !c then(some true)else(some (decide (n<1)))) λd=>bif d then(some (b,[],1))else(bif a.out then(some (b,[],9))else(xg (0<=(min n (a.list.length:Int))/\(min n (a.list.length:Int))=(min n (a.list.length:Int))/\(min n (a.list.length:Int))<=(b.list.length:Int))<|xg (0<=(min n (a.list.length:Int))/\(min n (a.list.length:Int))<=(b.list.length:Int))<|xg (((min n (a.list.length:Int)).toNat)<=((min n (a.list.length:Int)).toNat)/\((min n (a.list.length:Int)).toNat)<=b.list.length)<|xg (Ae (b.next+(min n (a.list.length:Int))))<|some ((⟨b.cap,b.next+(min n (a.list.length:Int)),b.out,(b.list.take b.list.length).drop ((min n (a.list.length:Int)).toNat)⟩:DRing),(b.list.take ((min n (a.list.length:Int)).toNat)).drop 0,0)))
def Bjb:E amb:=en 295 [Jb,Ap] [Mc,Px,A0] (Ak Akq) Tryz.func295 [Aae,An5]
def Ac7 (h:DHub) (e:Int) (n:Int):Option (DHub×List DEntry×Int):=
 B5h (Ada h e) λa=>B5h (Iv h) λf=>B5h (bif !f then(some true)else(some (decide (n<1)))) λd=>bif d then(some ((⟨false,[],[],0⟩:DHub),[],1))else(bif decide (a<0)then(some ((⟨false,[],[],0⟩:DHub),[],8))else(xg (0<=a/\a<(h.subs.length:Int))<|B5h (Akq ((el h.subs a.toNat).r) n) λc=>bif !decide (c.2.2=0)then(some ((⟨false,[],[],0⟩:DHub),[],c.2.2))else(B5h (Ek h) λb=>xg (0<=a/\a<(b.subs.length:Int))<|some ((⟨b.shut,b.docs,b.subs.set a.toNat (⟨(el b.subs a.toNat).id,(el b.subs a.toNat).doc,c.1⟩:DSub),b.last⟩:DHub),c.2.1,0))))
def Biy:E amb:=en 231 [D5,Ap,Ap] [Hk,Px,A0] (H4 Ac7) Tryz.func231 [Q1,Az5,Bjb,Q4]
def Aks (b:DRing) (c:Int):Option (DRing×Bool):=
 B5h (Mr b) λd=>bif !d then(some ((⟨0,0,false,[]⟩:DRing),false))else(B5h (Adf b.cap c) λa=>some (a.1,a.2))
def Bjd:E amb:=en 296 [Jb,Ap] [Mc,Aq] (Ak Aks) Tryz.func296 [Az7,Aae]
def Ac8 (h:DHub) (e:Int):Option (DHub×List Int×Int×Int):=
 B5h (Ada h e) λa=>B5h (Iv h) λd=>bif !d then(some ((⟨false,[],[],0⟩:DHub),[],0,1))else(bif decide (a<0)then(some ((⟨false,[],[],0⟩:DHub),[],0,8))else(xg (0<=a/\a<(h.subs.length:Int))<|B5h (Jk h ((el h.subs a.toNat).doc)) λc=>xg (0<=c/\c<(h.docs.length:Int))<|B5h (Ek h) λb=>xg (0<=a/\a<(h.subs.length:Int))<|B5h (Fd (el h.docs c.toNat)) λf=>B5h (Aks ((el h.subs a.toNat).r) f) λi=>xg (0<=a/\a<(b.subs.length:Int))<|B5h (Ac6 (el h.docs c.toNat)) λj=>B5h (Fd (el h.docs c.toNat)) λg=>some ((⟨b.shut,b.docs,b.subs.set a.toNat (⟨(el b.subs a.toNat).id,(el b.subs a.toNat).doc,i.1⟩:DSub),b.last⟩:DHub),j,g,0)))
def Biz:E amb:=en 232 [D5,Ap] [Hk,Jd,A0,A0] (Ak Ac8) Tryz.func232 [Lu,Az4,M5,Q1,Az5,Bjd,Q4]
def Ac9 (h:DHub):Option (DHub×Int):=
 B5h (Iv h) λb=>bif !b then(some ((⟨false,[],[],0⟩:DHub),1))else(bif h.shut then(some ((⟨false,[],[],0⟩:DHub),12))else(B5h (Ek h) λa=>some ((⟨true,a.docs,a.subs,a.last⟩:DHub),0)))
def Bi0:E amb:=en 233 [D5] [Hk,A0] (Am Ac9) Tryz.func233 [Q1,Q4]
def Akc (h:DHub) (c:DCall):Option (DHub×DAnswer):=
 B5h (Iv h) λr=>B5h (bif !r then(some true)else(B5h (Vx c) λw=>some (!w))) λu=>bif u then(B5h (Ek h) λF=>some (F,(⟨1,0,[],[]⟩:DAnswer)))else(bif decide (c.kind=1)then(B5h (Akh h c.doc c.text) λk=>bif !decide (k.2=0)then(B5h (Ek h) λz=>some (z,(⟨k.2,0,[],[]⟩:DAnswer)))else(some (k.1,(⟨k.2,0,[],[]⟩:DAnswer))))else(bif decide (c.kind=2)then(B5h (Akj h c.doc c.client c.seq c.n c.o) λe=>bif !decide (e.2.2=0)then(B5h (Ek h) λv=>some (v,(⟨e.2.2,0,[],[]⟩:DAnswer)))else(some (e.1,(⟨e.2.2,e.2.1,[],[]⟩:DAnswer))))else(bif decide (c.kind=3)then(bif decide (c.kind=3)then(B5h (Ek h) λm=>B5h (Adr h c) λA=>some (m,A))else(bif decide (c.kind=5)then(B5h (Adb h c.doc c.n) λd=>bif !decide (d.2.2=0)then(B5h (Ek h) λt=>some (t,(⟨d.2.2,0,[],[]⟩:DAnswer)))else(some (d.1,(⟨d.2.2,d.2.1,[],[]⟩:DAnswer))))else(bif decide (c.kind=6)then(B5h (Ac7 h c.client c.n) λi=>bif !decide (i.2.2=0)then(B5h (Ek h) λG=>some (G,(⟨i.2.2,0,[],[]⟩:DAnswer)))else(some (i.1,(⟨i.2.2,0,[],i.2.1⟩:DAnswer))))else(bif decide (c.kind=7)then(B5h (Ac8 h c.client) λa=>bif !decide (a.2.2.2=0)then(B5h (Ek h) λx=>some (x,(⟨a.2.2.2,0,[],[]⟩:DAnswer)))else(some (a.1,(⟨a.2.2.2,a.2.2.1,a.2.1,[]⟩:DAnswer))))else(B5h (Ac9 h) λj=>bif !decide (j.2=0)then(B5h (Ek h) λs=>some (s,(⟨j.2,0,[],[]⟩:DAnswer)))else(some (j.1,(⟨j.2,0,[],[]⟩:DAnswer))))))))else(bif decide (c.kind=4)then(B5h (Ek h) λD=>B5h (Adr h c) λB=>some (D,B))else(bif decide (c.kind=5)then(B5h (Adb h c.doc c.n) λf=>bif !decide (f.2.2=0)then(B5h (Ek h) λC=>some (C,(⟨f.2.2,0,[],[]⟩:DAnswer)))else(some (f.1,(⟨f.2.2,f.2.1,[],[]⟩:DAnswer))))else(bif decide (c.kind=6)then(B5h (Ac7 h c.client c.n) λg=>bif !decide (g.2.2=0)then(B5h (Ek h) λp=>some (p,(⟨g.2.2,0,[],[]⟩:DAnswer)))else(some (g.1,(⟨g.2.2,0,[],g.2.1⟩:DAnswer))))else(bif decide (c.kind=7)then(B5h (Ac8 h c.client) λb=>bif !decide (b.2.2.2=0)then(B5h (Ek h) λy=>some (y,(⟨b.2.2.2,0,[],[]⟩:DAnswer)))else(some (b.1,(⟨b.2.2.2,b.2.2.1,b.2.1,[]⟩:DAnswer))))else(B5h (Ac9 h) λl=>bif !decide (l.2=0)then(B5h (Ek h) λq=>some (q,(⟨l.2,0,[],[]⟩:DAnswer)))else(some (l.1,(⟨l.2,0,[],[]⟩:DAnswer)))))))))))
def Bir:E amb:=en 163 [D5,Gk] [Hk,U6] (Ak Akc) Tryz.func163 [Afv,Q1,Bix,Biy,Biz,Bi0,Bi2,Bi3,Q4,Bjr]
def Zc (b:DWorld) (k:Int):Option DWorld:=
 xg (0<=k/\k<(b.tasks.length:Int))<|B5h (Akc b.h ((el b.tasks k.toNat).c)) λd=>some (⟨d.1,b.locks,b.queues,stE (stE (stE b.tasks k.toNat λz=>(⟨(⟨z.c.kind,z.c.doc,z.c.client,z.c.seq,z.c.n,z.c.o,z.c.text⟩:DCall),z.pc,z.inv,z.lin,z.res,d.2⟩:DTask)) k.toNat λz=>(⟨(⟨z.c.kind,z.c.doc,z.c.client,z.c.seq,z.c.n,z.c.o,z.c.text⟩:DCall),z.pc,z.inv,b.step,z.res,(⟨z.a.code,z.a.rev,z.a.text,z.a.list⟩:DAnswer)⟩:DTask)) k.toNat λz=>(⟨(⟨z.c.kind,z.c.doc,z.c.client,z.c.seq,z.c.n,z.c.o,z.c.text⟩:DCall),3,z.inv,z.lin,z.res,(⟨z.a.code,z.a.rev,z.a.text,z.a.list⟩:DAnswer)⟩:DTask),b.step⟩:DWorld)
def Af0:E amb:=en 91 [Aid,Ap] [] (Ak Zc) Tryz.func91 [Bir]
def A97 (b:DWorld) (k:Int) (a:Int):Option (Lr Int Int):=
 B5h (bif decide (a<(b.queues.length:Int))then(xg (0<=a/\a<(b.queues.length:Int))<|some (Bv ((el b.queues a.toNat).doc) ((el b.tasks k.toNat).c.doc)))else(some false)) λd=>bif d then(xg (Ae (a+1))<|some (Lr.go (a+1)))else(some (Lr.out a))
def A98 (b:DWorld) (k:Int) (a:Int):Option (Lr Int Int):=A97 b k a
def Ako (j:DWorld) (k:Int):Option (DWorld×Bool):=
 B5h (Sw j) λu=>B5h (bif !u then(some true)else(B5h (Ak0 j k) λm=>some (!m))) λs=>bif s then(some ((⟨(⟨false,[],[],0⟩:DHub),[],[],[],0⟩:DWorld),false))else(B5h (Ll j) λb=>xg (0<=k/\k<(b.tasks.length:Int))<|B5h (Vz ((el b.tasks k.toNat).c.doc) (b.locks.length:Int)) λe=>B5h (bif decide (((el b.tasks k.toNat).pc)=0)then(B5h (Lj ((el b.tasks k.toNat).c.kind)) λt=>some t)else(some false)) λv=>bif v then(xg (0<=e/\e<(b.locks.length:Int))<|xg (Ae (b.step+1))<|some ((⟨b.h,b.locks.set e.toNat k,b.queues,stE b.tasks k.toNat λz=>(⟨(⟨z.c.kind,z.c.doc,z.c.client,z.c.seq,z.c.n,z.c.o,z.c.text⟩:DCall),1,z.inv,z.lin,z.res,(⟨z.a.code,z.a.rev,z.a.text,z.a.list⟩:DAnswer)⟩:DTask),b.step+1⟩:DWorld),true))else(bif decide (((el b.tasks k.toNat).pc)=0)then(B5h (Zc b k) λg=>xg (Ae (g.step+1))<|some ((⟨g.h,g.locks,g.queues,g.tasks,g.step+1⟩:DWorld),true))else(bif decide (((el b.tasks k.toNat).pc)=1)then(xg (0<=e/\e<(b.locks.length:Int))<|B5h (bif !decide (((el b.tasks k.toNat).c.kind)=2)then(some true)else(some b.h.shut)) λl=>B5h (bif l then(some true)else(B5h (Jk b.h ((el b.tasks k.toNat).c.doc)) λq=>some (decide (q<0)))) λr=>bif r then(B5h (Zc (⟨b.h,b.locks.set e.toNat (-1),b.queues,b.tasks,b.step⟩:DWorld) k) λi=>xg (Ae (i.step+1))<|some ((⟨i.h,i.locks,i.queues,i.tasks,i.step+1⟩:DWorld),true))else(xg (0<=k/\k<(b.tasks.length:Int))<|B5h (Bc (A98 b k) 0) λd=>B5h (bif decide (d=(b.queues.length:Int))then(some true)else(xg (0<=d/\d<(b.queues.length:Int))<|some (!decide ((el b.queues d.toNat).doc=(el b.tasks k.toNat).c.doc)))) λp=>bif p then(B5h (Vt b.queues d [(⟨(el b.tasks k.toNat).c.doc,[]⟩:DQueue)]) λf=>xg (0<=d/\d<(f.length:Int))<|bif decide ((((el f d.toNat).list).length:Int)=2)then(xg (Ae (b.step+1))<|some ((⟨b.h,b.locks.set e.toNat (-1),f,stE (stE b.tasks k.toNat λz=>(⟨(⟨z.c.kind,z.c.doc,z.c.client,z.c.seq,z.c.n,z.c.o,z.c.text⟩:DCall),z.pc,z.inv,z.lin,z.res,(⟨11,0,[],[]⟩:DAnswer)⟩:DTask)) k.toNat λz=>(⟨(⟨z.c.kind,z.c.doc,z.c.client,z.c.seq,z.c.n,z.c.o,z.c.text⟩:DCall),3,z.inv,z.lin,z.res,(⟨z.a.code,z.a.rev,z.a.text,z.a.list⟩:DAnswer)⟩:DTask),b.step+1⟩:DWorld),true))else(xg (0<=d/\d<(f.length:Int))<|xg (((el f d.toNat).list).length+[k].length<=1099511627776)<|xg (0<=d/\d<(f.length:Int))<|xg (d.toNat=d.toNat)<|xg (Ae (b.step+1))<|some ((⟨b.h,b.locks.set e.toNat (-1),stE f d.toNat λz=>(⟨z.doc,((el f d.toNat).list)++[k]⟩:DQueue),stE b.tasks k.toNat λz=>(⟨(⟨z.c.kind,z.c.doc,z.c.client,z.c.seq,z.c.n,z.c.o,z.c.text⟩:DCall),2,z.inv,z.lin,z.res,(⟨z.a.code,z.a.rev,z.a.text,z.a.list⟩:DAnswer)⟩:DTask),b.step+1⟩:DWorld),true)))else(xg (0<=d/\d<(b.queues.length:Int))<|bif decide ((((el b.queues d.toNat).list).length:Int)=2)then(xg (Ae (b.step+1))<|some ((⟨b.h,b.locks.set e.toNat (-1),b.queues,stE (stE b.tasks k.toNat λz=>(⟨(⟨z.c.kind,z.c.doc,z.c.client,z.c.seq,z.c.n,z.c.o,z.c.text⟩:DCall),z.pc,z.inv,z.lin,z.res,(⟨11,0,[],[]⟩:DAnswer)⟩:DTask)) k.toNat λz=>(⟨(⟨z.c.kind,z.c.doc,z.c.client,z.c.seq,z.c.n,z.c.o,z.c.text⟩:DCall),3,z.inv,z.lin,z.res,(⟨z.a.code,z.a.rev,z.a.text,z.a.list⟩:DAnswer)⟩:DTask),b.step+1⟩:DWorld),true))else(xg (0<=d/\d<(b.queues.length:Int))<|xg (((el b.queues d.toNat).list).length+[k].length<=1099511627776)<|xg (0<=d/\d<(b.queues.length:Int))<|xg (d.toNat=d.toNat)<|xg (Ae (b.step+1))<|some ((⟨b.h,b.locks.set e.toNat (-1),stE b.queues d.toNat λz=>(⟨z.doc,((el b.queues d.toNat).list)++[k]⟩:DQueue),stE b.tasks k.toNat λz=>(⟨(⟨z.c.kind,z.c.doc,z.c.client,z.c.seq,z.c.n,z.c.o,z.c.text⟩:DCall),2,z.inv,z.lin,z.res,(⟨z.a.code,z.a.rev,z.a.text,z.a.list⟩:DAnswer)⟩:DTask),b.step+1⟩:DWorld),true)))))else(xg (Ae (b.step+1))<|some ((⟨b.h,b.locks,b.queues,stE (stE b.tasks k.toNat λz=>(⟨(⟨z.c.kind,z.c.doc,z.c.client,z.c.seq,z.c.n,z.c.o,z.c.text⟩:DCall),z.pc,z.inv,z.lin,b.step,(⟨z.a.code,z.a.rev,z.a.text,z.a.list⟩:DAnswer)⟩:DTask)) k.toNat λz=>(⟨(⟨z.c.kind,z.c.doc,z.c.client,z.c.seq,z.c.n,z.c.o,z.c.text⟩:DCall),4,z.inv,z.lin,z.res,(⟨z.a.code,z.a.rev,z.a.text,z.a.list⟩:DAnswer)⟩:DTask),b.step+1⟩:DWorld),true)))))
def Bi9:E amb:=en 37 [Eh,Ap] [J5,Aq] (Ak Ako) Tryz.func37 [Any,M5,Q2,Aaf,Aah,An3,Tu,Af0] (inl:=(Uc 93 ⟨Tryz.f93.ntmps,cs [Any,M5,Q2,Aaf,Aah,An3,Tu,Af0],[Ca 0 [Ax 6]],false,false,false,Nr⟩ Tryz.f93.results.toList (O7 Tryz.f93) Nr)) (hi:=(Aba ⟨Tq [Any,M5,Q2,Aaf,Aah,An3,Tu,Af0],Ns⟩ Tryz.func93 rfl rfl (by kernel_rfl) Ns))
def Au9 (q:DQueue) (p:ByteArray):Option (Bool×ByteArray):=
 some (decide (q.doc=p),p)
def Bjg:E amb:=en 95 [Aby,.box .ow (.b 2)] [Aq] (Ak Au9) Tryz.func95
def Bav (s:List DQueue) (b:Nat) (d:DQueue) (c:ByteArray):Option (Lr ByteArray (Sum ByteArray (Int×ByteArray))):=
 B5h (Au9 d c) λa=>bif a.1 then(some (Lr.out (B6e ((b:Int),a.2))))else(some (Lr.go a.2))
def Baw (s:List DQueue) (a:Nat) (b:ByteArray):Option (Lr ByteArray (Sum ByteArray (Int×ByteArray))):=Bav s a (el s a) b
def Al8 (s:List DQueue) (c:ByteArray):Option (Int×ByteArray):=
 B5h (Ai (Baw s) (λa=>(.inl a)) s.length 0 c) λe=>B59 (λb=>some (-1,b)) (λd=>some d) e
def Blo:E amb:=en 94 [X9,.fn 95 1,.cap .ow (.b 2)] [A0] (Ak Al8) Tryz.func94 [Bjg] [B5 0 8 7 [.box 1 1 [.sc 2]]]
def Akt (c:DWorld) (g:ByteArray):Option (DWorld×Bool):=
 B5h (Al8 c.queues g) λa=>B5h (bif decide (a.1<0)then(some true)else(B5h (Sw c) λf=>some (!f))) λe=>B5h (bif e then(some true)else(some (decide (c.step=1000000)))) λi=>bif i then(some ((⟨(⟨false,[],[],0⟩:DHub),[],[],[],0⟩:DWorld),false))else(B5h (Ll c) λd=>xg (0<=a.1/\a.1<(d.queues.length:Int))<|xg (0<=(0:Int)/\(0:Int)<(((el d.queues a.1.toNat).list).length:Int))<|B5h (Zc d (el ((el d.queues a.1.toNat).list) 0)) λb=>xg (0<=a.1/\a.1<(b.queues.length:Int))<|xg (0<=(1:Int)/\(1:Int)<=(((el b.queues a.1.toNat).list).length:Int))<|xg (0<=a.1/\a.1<(b.queues.length:Int))<|xg (a.1.toNat=a.1.toNat)<|xg (0<=a.1/\a.1<((stE b.queues a.1.toNat λz=>(⟨z.doc,(((el b.queues a.1.toNat).list).take ((el b.queues a.1.toNat).list).length).drop 1⟩:DQueue)).length:Int))<|bif decide ((((el (stE b.queues a.1.toNat λz=>(⟨z.doc,(((el b.queues a.1.toNat).list).take ((el b.queues a.1.toNat).list).length).drop 1⟩:DQueue)) a.1.toNat).list).length:Int)=0)then(xg (Ae (a.1+1))<|B5h (Y4 (stE b.queues a.1.toNat λz=>(⟨z.doc,(((el b.queues a.1.toNat).list).take ((el b.queues a.1.toNat).list).length).drop 1⟩:DQueue)) a.1 (a.1+1)) λj=>xg (Ae (b.step+1))<|some ((⟨b.h,b.locks,j,b.tasks,b.step+1⟩:DWorld),true))else(xg (Ae (b.step+1))<|some ((⟨b.h,b.locks,stE b.queues a.1.toNat λz=>(⟨z.doc,(((el b.queues a.1.toNat).list).take ((el b.queues a.1.toNat).list).length).drop 1⟩:DQueue),b.tasks,b.step+1⟩:DWorld),true)))
def Bjf:E amb:=en 38 [Eh,Cp] [J5,Aq] (Ak Akt) Tryz.func38 [Bij,Aah,Tu,Af0,Blo]
def Akb (b:DWorld) (c:DCall):Option (DWorld×Bool):=
 B5h (Sw b) λj=>B5h (bif !j then(some true)else(B5h (Vx c) λg=>some (!g))) λf=>B5h (bif f then(some true)else(some (decide ((b.tasks.length:Int)=10)))) λe=>B5h (bif e then(some true)else(some (decide (b.step=1000000)))) λi=>bif i then(some ((⟨(⟨false,[],[],0⟩:DHub),[],[],[],0⟩:DWorld),false))else(B5h (Ll b) λa=>B5h (Adp c) λd=>xg (a.tasks.length+[(⟨d,0,b.step,-1,-1,(⟨0,0,[],[]⟩:DAnswer)⟩:DTask)].length<=549755813888)<|xg (Ae (a.step+1))<|some ((⟨a.h,a.locks,a.queues,a.tasks++[(⟨d,0,b.step,-1,-1,(⟨0,0,[],[]⟩:DAnswer)⟩:DTask)],a.step+1⟩:DWorld),true))
def Biq:E amb:=en 39 [Eh,Gk] [J5,Aq] (Ak Akb) Tryz.func39 [Afv,Aah,A0b,Tu]
def Vy (b:DWorld) (g:ByteArray):Option (DWorld×ByteArray):=
 B5h (Y5 g) λa=>B5h (Adk g) λd=>B5h (bif decide ((a.length:Int)=2)then(xg (0<=(0:Int)/\(0:Int)<(a.length:Int))<|some (decide (el a 0=(⟨#[112,105,99,107]⟩:ByteArray))))else(some false)) λo=>B5h (bif o then(B5h (Hq a 1) λj=>some (decide ((0:Int)<=j)))else(some false)) λp=>bif p then(B5h (Hq a 1) λk=>B5h (Ako b k) λe=>bif !e.2 then(B5h (Ll b) λh=>some (h,(⟨#[110,111]⟩:ByteArray)))else(some (e.1,(⟨#[111,107]⟩:ByteArray))))else(B5h (bif decide ((a.length:Int)=2)then(xg (0<=(0:Int)/\(0:Int)<(a.length:Int))<|some (decide (el a 0=(⟨#[115,101,114,118,101]⟩:ByteArray))))else(some false)) λn=>bif n then(xg (0<=(1:Int)/\(1:Int)<(a.length:Int))<|B5h (Akt b (el a 1)) λc=>bif !c.2 then(B5h (Ll b) λl=>some (l,(⟨#[110,111]⟩:ByteArray)))else(some (c.1,(⟨#[111,107]⟩:ByteArray))))else(bif d.2 then(B5h (Akb b d.1) λf=>bif !f.2 then(B5h (Ll b) λi=>some (i,(⟨#[110,111]⟩:ByteArray)))else(some (f.1,(⟨#[111,107]⟩:ByteArray))))else(B5h (Ll b) λm=>some (m,(⟨#[119,104,97,116]⟩:ByteArray)))))
def W4:E amb:=en 8 [Eh,Cp] [J5,F3] (Ak Vy) Tryz.func8 [Biq,Anz,Bi9,Bjf,Bjl,Tu,A0f]
def A99 (_:List ByteArray) (_:Nat) (d:ByteArray) (b:List ByteArray) (j:Bool) (c:List DDoc) (l:List DSub) (k:Int) (e:List Int) (f:List DQueue) (g:List DTask) (i:Int):Option (Lr (List ByteArray×Bool×List DDoc×List DSub×Int×List Int×List DQueue×List DTask×Int) (List ByteArray×Bool×List DDoc×List DSub×Int×List Int×List DQueue×List DTask×Int)):=
 B5h (Vy (⟨(⟨j,c,l,k⟩:DHub),e,f,g,i⟩:DWorld) d) λa=>xg (b.length<1099511627776)<|some (Lr.go (b++[a.2],a.1.h.shut,a.1.h.docs,a.1.h.subs,a.1.h.last,a.1.locks,a.1.queues,a.1.tasks,a.1.step))
def Au4 (b:List ByteArray) (c:Nat) (a:List ByteArray×Bool×List DDoc×List DSub×Int×List Int×List DQueue×List DTask×Int):Option (Lr (List ByteArray×Bool×List DDoc×List DSub×Int×List Int×List DQueue×List DTask×Int) (List ByteArray×Bool×List DDoc×List DSub×Int×List Int×List DQueue×List DTask×Int)):=A99 b c (el b c) a.1 a.2.1 a.2.2.1 a.2.2.2.1 a.2.2.2.2.1 a.2.2.2.2.2.1 a.2.2.2.2.2.2.1 a.2.2.2.2.2.2.2.1 a.2.2.2.2.2.2.2.2
def Ade (e:DWorld) (d:List ByteArray):Option (DWorld×List ByteArray):=
 B5h (Ll e) λc=>B5h (Ai (Au4 d) (λb=>(b.1,b.2.1,b.2.2.1,b.2.2.2.1,b.2.2.2.2.1,b.2.2.2.2.2.1,b.2.2.2.2.2.2.1,b.2.2.2.2.2.2.2.1,b.2.2.2.2.2.2.2.2)) d.length 0 ([],c.h.shut,c.h.docs,c.h.subs,c.h.last,c.locks,c.queues,c.tasks,c.step)) λa=>some ((⟨(⟨a.2.1,a.2.2.1,a.2.2.2.1,a.2.2.2.2.1⟩:DHub),a.2.2.2.2.2.1,a.2.2.2.2.2.2.1,a.2.2.2.2.2.2.2.1,a.2.2.2.2.2.2.2.2⟩:DWorld),a.1)
def Aad:E amb:=en 15 [Eh,K1] [J5,U4] (Ak Ade) Tryz.func15 [W4,Tu] [Da 0 16 15 [C1 7 2,.box 6 0 [.sc 1,.row (.b 7),.row (.b 9),.sc 0,.row (.b 0),.row (.b 11),.row (.b 14),.sc 0]]]
def S0 (a b:List Int):Option Bool:=eqF a b
def W5:E amb:=en 42 [D4,D4] [Aq] (Ak S0) Tryz.func42 [] [D9 0 [Ax 5]]
def Alg (a:DPart) (b:DPart):Option Bool:=
 bif !decide (a.kind=b.kind)then(some false)else(bif !decide (a.n=b.n)then(some false)else(B5h (S0 a.signs b.signs) λc=>bif !c then(some false)else(some true)))
def Bj8:E amb:=en 302 [N4,N4] [Aq] (Ak Alg) Tryz.func302 [W5]
def Alh (a b:List DPart):Option Bool:=Q9 Alg a b
def A0j:E amb:=en 242 [B8,B8] [Aq] (Ak Alh) Tryz.func242 [Bj8] [D9 0 [Ax 5]]
def Alf (a:DEntry) (b:DEntry):Option Bool:=
 bif !decide (a.client=b.client)then(some false)else(bif !decide (a.seq=b.seq)then(some false)else(B5h (Alh a.o b.o) λc=>bif !c then(some false)else(some true)))
def Bj6:E amb:=en 300 [Jz,Jz] [Aq] (Ak Alf) Tryz.func300 [A0j]
def Ady (a b:List DEntry):Option Bool:=Q9 Alf a b
def An8:E amb:=en 239 [N5,N5] [Aq] (Ak Ady) Tryz.func239 [Bj6] [D9 0 [Ax 5]]
def Avz (a:DSeen) (b:DSeen):Option Bool:=
 bif !decide (a.client=b.client)then(some false)else(bif !decide (a.seq=b.seq)then(some false)else(bif !decide (a.rev=b.rev)then(some false)else(some true)))
def Bkc:E amb:=en 301 [Ar0,Ar0] [Aq] (Ak Avz) Tryz.func301
def Av0 (a b:List DSeen):Option Bool:=Q9 Avz a b
def Bkd:E amb:=en 240 [Abx,Abx] [Aq] (Ak Av0) Tryz.func240 [Bkc] [D9 0 [Ax 5]]
def Ale (a:DDoc) (b:DDoc):Option Bool:=
 bif !decide (a.name=b.name)then(some false)else(bif !decide (a.from_=b.from_)then(some false)else(B5h (S0 a.text b.text) λd=>bif !d then(some false)else(B5h (Ady a.list b.list) λe=>bif !e then(some false)else(B5h (Av0 a.seen b.seen) λc=>bif !c then(some false)else(some true)))))
def Bj4:E amb:=en 175 [Ep,Ep] [Aq] (Ak Ale) Tryz.func175 [An8,W5,Bkd]
def Avv (a b:List DDoc):Option Bool:=Q9 Ale a b
def Bj5:E amb:=en 102 [X6,X6] [Aq] (Ak Avv) Tryz.func102 [Bj4] [D9 0 [Ax 5]]
def Avy (a:DRing) (b:DRing):Option Bool:=
 bif !decide (a.cap=b.cap)then(some false)else(bif !decide (a.next=b.next)then(some false)else(bif !(a.out==b.out)then(some false)else(B5h (Ady a.list b.list) λc=>bif !c then(some false)else(some true))))
def Bkb:E amb:=en 241 [Jb,Jb] [Aq] (Ak Avy) Tryz.func241 [An8]
def Alj (a:DSub) (b:DSub):Option Bool:=
 bif !decide (a.id=b.id)then(some false)else(bif !decide (a.doc=b.doc)then(some false)else(B5h (Avy a.r b.r) λc=>bif !c then(some false)else(some true)))
def Bke:E amb:=en 176 [X7,X7] [Aq] (Ak Alj) Tryz.func176 [Bkb]
def Av1 (a b:List DSub):Option Bool:=Q9 Alj a b
def Bkf:E amb:=en 103 [X8,X8] [Aq] (Ak Av1) Tryz.func103 [Bke] [D9 0 [Ax 5]]
def Avw (a:DHub) (b:DHub):Option Bool:=
 bif !(a.shut==b.shut)then(some false)else(B5h (Avv a.docs b.docs) λd=>bif !d then(some false)else(B5h (Av1 a.subs b.subs) λc=>bif !c then(some false)else(bif !decide (a.last=b.last)then(some false)else(some true))))
def Bj7:E amb:=en 41 [D5,D5] [Aq] (Ak Avw) Tryz.func41 [Bj5,Bkf]
def Ali (a:DQueue) (b:DQueue):Option Bool:=
 bif !decide (a.doc=b.doc)then(some false)else(B5h (S0 a.list b.list) λc=>bif !c then(some false)else(some true))
def Bj9:E amb:=en 104 [Aby,Aby] [Aq] (Ak Ali) Tryz.func104 [W5]
def Avx (a b:List DQueue):Option Bool:=Q9 Ali a b
def Bka:E amb:=en 43 [X9,X9] [Aq] (Ak Avx) Tryz.func43 [Bj9] [D9 0 [Ax 5]]
def Avu (a:DCall) (b:DCall):Option Bool:=
 bif !decide (a.kind=b.kind)then(some false)else(bif !decide (a.doc=b.doc)then(some false)else(bif !decide (a.client=b.client)then(some false)else(bif !decide (a.seq=b.seq)then(some false)else(bif !decide (a.n=b.n)then(some false)else(B5h (Alh a.o b.o) λc=>bif !c then(some false)else(B5h (S0 a.text b.text) λd=>bif !d then(some false)else(some true)))))))
def Bj3:E amb:=en 177 [Gk,Gk] [Aq] (Ak Avu) Tryz.func177 [W5,A0j]
def Avt (a:DAnswer) (b:DAnswer):Option Bool:=
 bif !decide (a.code=b.code)then(some false)else(bif !decide (a.rev=b.rev)then(some false)else(B5h (S0 a.text b.text) λc=>bif !c then(some false)else(B5h (Ady a.list b.list) λd=>bif !d then(some false)else(some true))))
def Bj2:E amb:=en 178 [N6,N6] [Aq] (Ak Avt) Tryz.func178 [An8,W5]
def Alk (a:DTask) (b:DTask):Option Bool:=
 B5h (Avu a.c b.c) λe=>bif !e then(some false)else(bif !decide (a.pc=b.pc)then(some false)else(bif !decide (a.inv=b.inv)then(some false)else(bif !decide (a.lin=b.lin)then(some false)else(bif !decide (a.res=b.res)then(some false)else(B5h (Avt a.a b.a) λd=>bif !d then(some false)else(some true))))))
def Bkg:E amb:=en 105 [Uv,Uv] [Aq] (Ak Alk) Tryz.func105 [Bj2,Bj3]
def Av2 (a b:List DTask):Option Bool:=Q9 Alk a b
def Bkh:E amb:=en 44 [Uw,Uw] [Aq] (Ak Av2) Tryz.func44 [Bkg] [D9 0 [Ax 5]]
def Mt (a:DWorld) (b:DWorld):Option Bool:=
 B5h (Avw a.h b.h) λf=>bif !f then(some false)else(B5h (S0 a.locks b.locks) λd=>bif !d then(some false)else(B5h (Avx a.queues b.queues) λe=>bif !e then(some false)else(B5h (Av2 a.tasks b.tasks) λc=>bif !c then(some false)else(bif !decide (a.step=b.step)then(some false)else(some true)))))
def M7:E amb:=en 9 [Eh,Eh] [Aq] (Ak Mt) Tryz.func9 [Bj7,W5,Bka,Bkh]
def Zd (a b:List ByteArray):Option Bool:=eqF a b
def Aaj:E amb:=en 16 [K1,K1] [Aq] (Ak Zd) Tryz.func16 [] [D9 0 [Ax 5]]
def Awa (a:Int) (b:ByteArray):Option (Lr (Int×ByteArray) ByteArray):=
 bif decide ((0:Int)<a)then(xg (0<=a/\0<(10:Int))<|xg (Ae (48+(a % 10)))<|xg ((⟨[y8 (48+(a % 10))].toArray⟩:ByteArray).size+b.size<=9223372036854775807)<|xg (0<=a/\a<=9223372036854775807/\0<(10:Int))<|some (Lr.go (a/10,(⟨[y8 (48+(a % 10))].toArray⟩:ByteArray)++b)))else(some (Lr.out b))
def Alp (a:Int×ByteArray):Option (Lr (Int×ByteArray) ByteArray):=Awa a.1 a.2
def Ln (k:Int):Option ByteArray:=
 bif decide (k<=0)then(some (⟨#[109,48]⟩:ByteArray))else(B5h (Bc (Alp) (k,(⟨#[]⟩:ByteArray))) λa=>xg ((⟨#[109]⟩:ByteArray).size+a.size<=9223372036854775807)<|some ((⟨#[109]⟩:ByteArray)++a))
def A2a:List (MF Int):=[.i (λx=>x) λ_ v=>v]
def Lm (a:List Int) (k:Int):Option (Int×List Int):=L5 A2a a k
def S1 (a:List Int) (k:Int):Option (Int):=Lx A2a a k
def A2b:List (MF DPart):=[.i (·.kind) λz v=> {z with kind:=v},.i (·.n) λz v=> {z with n:=v},.l Lm S1 (·.signs) λz v=> {z with signs:=v}]
def Aln (a:List DPart) (k:Int):Option (Int×List DPart):=L5 A2b a k
def All (a:List DPart) (k:Int):Option (Int):=Lx A2b a k
def A19:List (MF DEntry):=[.i (·.client) λz v=> {z with client:=v},.i (·.seq) λz v=> {z with seq:=v},.l Aln All (·.o) λz v=> {z with o:=v}]
def Ad0 (a:List DEntry) (k:Int):Option (Int×List DEntry):=L5 A19 a k
def Adz (a:List DEntry) (k:Int):Option (Int):=Lx A19 a k
def A2d:List (MF DSeen):=[.i (·.client) λz v=> {z with client:=v},.i (·.seq) λz v=> {z with seq:=v},.i (·.rev) λz v=> {z with rev:=v}]
def Av9 (a:List DSeen) (k:Int):Option (Int×List DSeen):=L5 A2d a k
def Av6 (a:List DSeen) (k:Int):Option (Int):=Lx A2d a k
def A18:List (MF DDoc):=[.s Ln (·.name) λz v=> {z with name:=v},.i (·.from_) λz v=> {z with from_:=v},.l Lm S1 (·.text) λz v=> {z with text:=v},.l Ad0 Adz (·.list) λz v=> {z with list:=v},.l Av9 Av6 (·.seen) λz v=> {z with seen:=v}]
def V6 (a:List DDoc) (k:Int):Option (Int×List DDoc):=L5 A18 a k
def Av3 (a:List DDoc) (k:Int):Option (Int):=Lx A18 a k
def A2f:List (MF DSub):=[.i (·.id) λz v=> {z with id:=v},.s Ln (·.doc) λz v=> {z with doc:=v},.i (·.r.cap) λz v=> {z with r.cap:=v},.i (·.r.next) λz v=> {z with r.next:=v},.b (·.r.out) λz v=> {z with r.out:=v},.l Ad0 Adz (·.r.list) λz v=> {z with r.list:=v}]
def V8 (a:List DSub) (k:Int):Option (Int×List DSub):=L5 A2f a k
def Av7 (a:List DSub) (k:Int):Option (Int):=Lx A2f a k
def A2c:List (MF DQueue):=[.s Ln (·.doc) λz v=> {z with doc:=v},.l Lm S1 (·.list) λz v=> {z with list:=v}]
def V7 (a:List DQueue) (k:Int):Option (Int×List DQueue):=L5 A2c a k
def Av5 (a:List DQueue) (k:Int):Option (Int):=Lx A2c a k
def A2g:List (MF DTask):=[.i (·.c.kind) λz v=> {z with c.kind:=v},.s Ln (·.c.doc) λz v=> {z with c.doc:=v},.i (·.c.client) λz v=> {z with c.client:=v},.i (·.c.seq) λz v=> {z with c.seq:=v},.i (·.c.n) λz v=> {z with c.n:=v},.l Aln All (·.c.o) λz v=> {z with c.o:=v},.l Lm S1 (·.c.text) λz v=> {z with c.text:=v},.i (·.pc) λz v=> {z with pc:=v},.i (·.inv) λz v=> {z with inv:=v},.i (·.lin) λz v=> {z with lin:=v},.i (·.res) λz v=> {z with res:=v},.i (·.a.code) λz v=> {z with a.code:=v},.i (·.a.rev) λz v=> {z with a.rev:=v},.l Lm S1 (·.a.text) λz v=> {z with a.text:=v},.l Ad0 Adz (·.a.list) λz v=> {z with a.list:=v}]
def V9 (a:List DTask) (k:Int):Option (Int×List DTask):=L5 A2g a k
def Av8 (a:List DTask) (k:Int):Option (Int):=Lx A2g a k
def A2e:List (MF ByteArray):=[.s Ln (λx=>x) λ_ v=>v]
def Alo (a:List ByteArray) (k:Int):Option (Int×List ByteArray):=L5 A2e a k
def Alm (a:List ByteArray) (k:Int):Option (Int):=Lx A2e a k
def Bdq (a:Int) (b:ByteArray):Option (Lr (Int×ByteArray) (Int×ByteArray)):=
 bif decide ((0:Int)<a)then(xg (0<=a/\0<(10:Int))<|xg (Ae (48+(a % 10)))<|xg ((⟨[y8 (48+(a % 10))].toArray⟩:ByteArray).size+b.size<=9223372036854775807)<|xg (0<=a/\a<=9223372036854775807/\0<(10:Int))<|some (Lr.go (a/10,(⟨[y8 (48+(a % 10))].toArray⟩:ByteArray)++b)))else(some (Lr.out (a,b)))
def Bdr (a:Int×ByteArray):Option (Lr (Int×ByteArray) (Int×ByteArray)):=Bdq a.1 a.2
def Bdp (k:Int):Option ByteArray:=
 bif decide (k<=0)then(some (⟨#[109,48]⟩:ByteArray))else(B5h (Bc (Bdr) (k,(⟨#[]⟩:ByteArray))) λa=>xg ((⟨#[109]⟩:ByteArray).size+a.2.size<=9223372036854775807)<|some ((⟨#[109]⟩:ByteArray)++a.2))
def Nd:E amb:=en 53 [Ap] [F3] (Am Ln) Tryz.func53 [] [Ca 0 [Ax 0,T9 3 2]] (hx:=λa=>Eq.trans (b:=Bdp a.1) (by kernel_rfl) (show _=Ln a.1 by simp only[Awa,Alp,Ln,Bdq,Bdr,Bdp,Rh,Cq,D1,Cj,Cm,Cy]<;>rfl))
def Iz:E amb:=en 46 [.len (.b 0),Ap] [A0] (Ak Lm) Tryz.func46 [] [Ca 0 [Ax 1,Ax 5,Dy 0 0]]
def A0l:E amb:=en 108 [.len (.b 4),Ap] [A0] (Ak Aln) Tryz.func108 [Iz] [Ca 0 [Ax 1,Ax 5,Dy 0 4]]
def Aoa:E amb:=en 109 [.len (.b 5),Ap] [A0] (Ak Ad0) Tryz.func109 [A0l] [Ca 0 [Ax 1,Ax 5,Dy 0 5]]
def Bko:E amb:=en 179 [.len (.b 6),Ap] [A0] (Ak Av9) Tryz.func179 [] [Ca 0 [Ax 1,Ax 5,Dy 0 6]]
def M9:E amb:=en 106 [.len (.b 7),Ap] [A0] (Ak V6) Tryz.func106 [Aoa,Iz,Bko,Nd] [Ca 0 [Ax 1,Ax 5,Dy 0 7]]
def Nb:E amb:=en 107 [.len (.b 9),Ap] [A0] (Ak V8) Tryz.func107 [Aoa,Nd] [Ca 0 [Ax 1,Ax 5,Dy 0 9]]
def Na:E amb:=en 47 [.len (.b 11),Ap] [A0] (Ak V7) Tryz.func47 [Iz,Nd] [Ca 0 [Ax 1,Ax 5,Dy 0 11]]
def Nc:E amb:=en 48 [.len (.b 14),Ap] [A0] (Ak V9) Tryz.func48 [Aoa,Iz,A0l,Nd] [Ca 0 [Ax 1,Ax 5,Dy 0 14]]
def Aam:E amb:=en 17 [.len (.b 2),Ap] [A0] (Ak Alo) Tryz.func17 [Nd] [Ca 0 [Ax 1,Ax 5,Dy 0 2]]
def Aak:E amb:=en 50 [D4,Ap] [A0] (Ak S1) Tryz.func50 [] [D9 0 [Ax 1,Ax 5]]
def A0k:E amb:=en 112 [B8,Ap] [A0] (Ak All) Tryz.func112 [Aak] [D9 0 [Ax 1,Ax 5]]
def An9:E amb:=en 113 [N5,Ap] [A0] (Ak Adz) Tryz.func113 [A0k] [D9 0 [Ax 1,Ax 5]]
def Bkl:E amb:=en 180 [Abx,Ap] [A0] (Ak Av6) Tryz.func180 [] [D9 0 [Ax 1,Ax 5]]
def Bki:E amb:=en 110 [X6,Ap] [A0] (Ak Av3) Tryz.func110 [An9,Aak,Bkl,Nd] [D9 0 [Ax 1,Ax 5]]
def Bkm:E amb:=en 111 [X8,Ap] [A0] (Ak Av7) Tryz.func111 [An9,Nd] [D9 0 [Ax 1,Ax 5]]
def Av4 (a:DHub) (k:Int):Option Int:=
 B5h (Av3 a.docs k) λc=>bif decide (c<0)then(some (-1))else(B5h (Av7 a.subs c) λb=>bif decide (b<0)then(some (-1))else(some b))
def Bkj:E amb:=en 49 [D5,Ap] [A0] (Ak Av4) Tryz.func49 [Bki,Bkm]
def Bkk:E amb:=en 51 [X9,Ap] [A0] (Ak Av5) Tryz.func51 [Aak,Nd] [D9 0 [Ax 1,Ax 5]]
def Bkn:E amb:=en 52 [Uw,Ap] [A0] (Ak Av8) Tryz.func52 [An9,Aak,A0k,Nd] [D9 0 [Ax 1,Ax 5]]
def V5 (a:DWorld) (k:Int):Option Int:=
 B5h (Av4 a.h k) λe=>bif decide (e<0)then(some (-1))else(B5h (S1 a.locks e) λb=>bif decide (b<0)then(some (-1))else(B5h (Av5 a.queues b) λc=>bif decide (c<0)then(some (-1))else(B5h (Av8 a.tasks c) λd=>bif decide (d<0)then(some (-1))else(some d))))
def M8:E amb:=en 11 [Eh,Ap] [A0] (Ak V5) Tryz.func11 [Bkj,Aak,Bkk,Bkn]
def Aal:E amb:=en 18 [K1,Ap] [A0] (Ak Alm) Tryz.func18 [Nd] [D9 0 [Ax 1,Ax 5]]
def Alc (B:DWorld) (A:List ByteArray):Option Bool:=
 B5h (Al0 B 1048576) λq=>bif decide (q<0)then(some true)else(B5h (Zf A q) λs=>bif decide (s<0)then(some true)else(B5h (Mu B) λN=>B5h (Zg A) λC=>B5h (Amk N C) λc=>B5h (Mu B) λb=>B5h (Zg A) λe=>B5h (Ade b e) λa=>B5h (Mt a.1 c.1) λS=>B5h (bif !S then(some true)else(B5h (Zd a.2 c.2) λv=>some (!v))) λF=>bif F then(some false)else(B5h (Mu B) λO=>B5h (Mt b O) λD=>bif !D then(some false)else(B5h (Zg A) λz=>B5h (Zd e z) λT=>bif !T then(some false)else(B5h (V6 b.h.docs 1) λM=>B5h (V8 b.h.subs M.1) λL=>B5h (Lm b.locks L.1) λI=>B5h (V7 b.queues I.1) λQ=>B5h (V9 b.tasks Q.1) λP=>B5h (Alo e P.1) λu=>B5h (bif decide (u.1<0)then(some true)else(B5h (Mt a.1 c.1) λR=>some (!R))) λG=>B5h (bif G then(some true)else(B5h (Zd a.2 c.2) λy=>some (!y))) λt=>bif t then(some false)else(B5h (V6 a.1.h.docs 1) λg=>B5h (V8 a.1.h.subs g.1) λf=>B5h (Lm a.1.locks f.1) λi=>B5h (V7 a.1.queues i.1) λk=>B5h (V9 a.1.tasks k.1) λj=>B5h (Alo a.2 j.1) λd=>B5h (V5 (⟨(⟨a.1.h.shut,g.2,f.2,a.1.h.last⟩:DHub),i.2,k.2,j.2,a.1.step⟩:DWorld) 1) λm=>bif decide (m<0)then(some false)else(B5h (Alm d.2 m) λn=>bif decide (n<0)then(some false)else(bif !decide (n=d.1)then(some false)else(B5h (Mu B) λx=>B5h (Zg A) λr=>B5h (Ade x r) λl=>B5h (Mt l.1 c.1) λH=>B5h (bif !H then(some true)else(B5h (Zd l.2 c.2) λw=>some (!w))) λK=>bif K then(some false)else(B5h (V5 (⟨(⟨a.1.h.shut,g.2,f.2,a.1.h.last⟩:DHub),i.2,k.2,j.2,a.1.step⟩:DWorld) 1) λo=>bif decide (o<0)then(some false)else(B5h (Alm d.2 o) λp=>bif decide (p<0)then(some false)else(bif !decide (p=d.1)then(some false)else(some true)))))))))))))
def e_laws_FnExactPlayAll:E amb:=en 4 [Eh,K1] [Aq] (Ak Alc) Tryz.func4 [Aad,Aaj,M7,Aal,M8,M9,Iz,Na,Aam,Nb,Nc,Aan,Nf,Aao,Ng,Aaq] (inl:=(Uc 10 ⟨Tryz.f10.ntmps,cs [Aad,Aaj,M7,Aal,M8,M9,Iz,Na,Aam,Nb,Nc,Aan,Nf,Aao,Ng,Aaq],[],false,false,false,(Uc 45 ⟨Tryz.f45.ntmps,cs [Aad,Aaj,M7,Aal,M8,M9,Iz,Na,Aam,Nb,Nc,Aan,Nf,Aao,Ng,Aaq],[],false,false,false,Nr⟩ Tryz.f45.results.toList (O7 Tryz.f45) Nr)⟩ Tryz.f10.results.toList (O7 Tryz.f10) Nr)) (hi:=(Aba ⟨Tq [Aad,Aaj,M7,Aal,M8,M9,Iz,Na,Aam,Nb,Nc,Aan,Nf,Aao,Ng,Aaq],(Aba ⟨Tq [Aad,Aaj,M7,Aal,M8,M9,Iz,Na,Aam,Nb,Nc,Aan,Nf,Aao,Ng,Aaq],Ns⟩ Tryz.func45 rfl rfl (by kernel_rfl) Ns)⟩ Tryz.func10 rfl rfl (by kernel_rfl) Ns))
def Ald (B:DWorld) (A:ByteArray):Option Bool:=
 bif decide ((1048576:Int)<(A.size:Int))then(some true)else(B5h (Al0 B 1048576) λu=>bif decide (u<0)then(some true)else(B5h (Mu B) λm=>B5h (Zl m A) λc=>B5h (Mu B) λb=>B5h (Vy b A) λa=>B5h (Mt a.1 c.1) λC=>B5h (bif !C then(some true)else(some (!decide (a.2=c.2)))) λs=>bif s then(some false)else(B5h (Mu B) λo=>B5h (Mt b o) λv=>bif !v then(some false)else(B5h (V6 b.h.docs 1) λr=>B5h (V8 b.h.subs r.1) λy=>B5h (Lm b.locks y.1) λn=>B5h (V7 b.queues n.1) λz=>B5h (V9 b.tasks z.1) λp=>B5h (bif decide (p.1<0)then(some true)else(B5h (Mt a.1 c.1) λw=>some (!w))) λF=>B5h (bif F then(some true)else(some (!decide (a.2=c.2)))) λD=>bif D then(some false)else(B5h (V6 a.1.h.docs 1) λe=>B5h (V8 a.1.h.subs e.1) λg=>B5h (Lm a.1.locks g.1) λf=>B5h (V7 a.1.queues f.1) λi=>B5h (V9 a.1.tasks i.1) λd=>B5h (V5 (⟨(⟨a.1.h.shut,e.2,g.2,a.1.h.last⟩:DHub),f.2,i.2,d.2,a.1.step⟩:DWorld) 1) λl=>bif decide (l<0)then(some false)else(bif !decide (l=d.1)then(some false)else(B5h (Mu B) λq=>B5h (Vy q A) λj=>B5h (Mt j.1 c.1) λt=>B5h (bif !t then(some true)else(some (!decide (j.2=c.2)))) λx=>bif x then(some false)else(B5h (V5 (⟨(⟨a.1.h.shut,e.2,g.2,a.1.h.last⟩:DHub),f.2,i.2,d.2,a.1.step⟩:DWorld) 1) λk=>bif decide (k<0)then(some false)else(bif !decide (k=d.1)then(some false)else(some true))))))))))
def e_laws_FnExactPlayLine:E amb:=en 3 [Eh,Cp] [Aq] (Ak Ald) Tryz.func3 [W4,M7,M8,M9,Iz,Na,Nb,Nc,Nf,Ng,W8] (inl:=(Uc 10 ⟨Tryz.f10.ntmps,cs [W4,M7,M8,M9,Iz,Na,Nb,Nc,Nf,Ng,W8],[],false,false,false,(Uc 45 ⟨Tryz.f45.ntmps,cs [W4,M7,M8,M9,Iz,Na,Nb,Nc,Nf,Ng,W8],[],false,false,false,Nr⟩ Tryz.f45.results.toList (O7 Tryz.f45) Nr)⟩ Tryz.f10.results.toList (O7 Tryz.f10) Nr)) (hi:=(Aba ⟨Tq [W4,M7,M8,M9,Iz,Na,Nb,Nc,Nf,Ng,W8],(Aba ⟨Tq [W4,M7,M8,M9,Iz,Na,Nb,Nc,Nf,Ng,W8],Ns⟩ Tryz.func45 rfl rfl (by kernel_rfl) Ns)⟩ Tryz.func10 rfl rfl (by kernel_rfl) Ns))
end
section
open Go.RowKit
theorem Bh8 w X S d (s1 f g i j:Sv) aLine (U:SX X S w) (hT:rTab.ok S w) (hU:rMax.ok S w) (hE:rErr.ok S w) (D:(Ac 5 Xc d.h.docs).rd S w s1.v) (G:(Ac 6 Xd d.h.subs).rd S w f.v) (H:(Ac 1 fI d.locks).rd S w g.v) (I:(Ac 2 Aaz d.queues).rd S w i.v) (K:(Ac 15 Aa0 d.tasks).rd S w j.v) (oL:Sep [] X w){r} (hx:Ald d aLine=some r):
  Ret Tryz.prog 3 [(.agg #[(bv d.h.shut),s1.v,f.v,(iv d.h.last),g.v,i.v,j.v,(iv d.step)]),(.string aLine)] w (KV X S w (bv r)):=by
 have h:=e_laws_FnExactPlayLine.h w X S ((d,aLine,()):PArgs e_laws_FnExactPlayLine.c.ps) [(.agg #[(bv d.h.shut),s1.v,f.v,(iv d.h.last),g.v,i.v,j.v,(iv d.step)]),(.string aLine)] [] [] r
  (PIn.ro (t:=.b 15) (vs:=[(bv d.h.shut),s1.v,f.v,(iv d.h.last),g.v,i.v,j.v,(iv d.step)]) ⟨_,_,rfl,rfl,_,_,rfl,D,_,_,rfl,G,_,_,rfl,rfl,_,_,rfl,H,_,_,rfl,I,_,_,rfl,K,_,_,rfl,rfl,rfl⟩<|PIn.ro (t:=.b 2) (vs:=[.string aLine]) ⟨_,_,rfl,rfl,rfl⟩ PIn.nil) oL U
  (λq p=>by
   simp only[amb,B5t,Ca2,or_false]at p;rcases p with rfl|rfl|rfl<;>assumption) hx
 refine h.mono λu w' ⟨vs,s,b1,hu,T,R⟩=>?_;obtain⟨k,lsO,y,z,B,C,L,e2,o,M,e5⟩:=T;have e:[[Leaf.b r]]=k++lsO:=L;cases lsO with
 |cons a l=>exact o.elim
 |nil=>
  rw[B6o]at e;subst e;obtain⟨Y,o2⟩:=o;obtain⟨n,m,x,A,bo,N,f2,⟨g1,g2,g3⟩,⟨O,P⟩,Q,f6⟩:=e2;match n,N with
  |[v],_=>subst g1 g2 g3 P O Q Y M;obtain⟨q1,F,q2,q3,_⟩:=R;obtain⟨p1,F1,F2,p2,_⟩:=q2;have W:v=.bool r:=p2.1;subst W;exact⟨(),hu,q1,F,p1,q3,λ_ V=>by cases V⟩
theorem Bh7 w X S d (s1 g i j k:Sv) aLines (f:Sv) (W:SX X S w) (hT:rTab.ok S w) (hU:rMax.ok S w) (hE:rErr.ok S w) (G:(Ac 5 Xc d.h.docs).rd S w s1.v) (H:(Ac 6 Xd d.h.subs).rd S w g.v) (I:(Ac 1 fI d.locks).rd S w i.v) (K:(Ac 2 Aaz d.queues).rd S w j.v) (L:(Ac 15 Aa0 d.tasks).rd S w k.v) (M:(Ac 1 fT aLines).rd S w f.v) (oL:Sep [] X w){r} (hx:Alc d aLines=some r):
  Ret Tryz.prog 4 [(.agg #[(bv d.h.shut),s1.v,g.v,(iv d.h.last),i.v,j.v,k.v,(iv d.step)]),f.v] w (KV X S w (bv r)):=by
 have h:=e_laws_FnExactPlayAll.h w X S ((d,aLines,()):PArgs e_laws_FnExactPlayAll.c.ps) [(.agg #[(bv d.h.shut),s1.v,g.v,(iv d.h.last),i.v,j.v,k.v,(iv d.step)]),f.v] [] [] r
  (PIn.ro (t:=.b 15) (vs:=[(bv d.h.shut),s1.v,g.v,(iv d.h.last),i.v,j.v,k.v,(iv d.step)]) ⟨_,_,rfl,rfl,_,_,rfl,G,_,_,rfl,H,_,_,rfl,rfl,_,_,rfl,I,_,_,rfl,K,_,_,rfl,L,_,_,rfl,rfl,rfl⟩<|PIn.ro (t:=.sl (.b 2)) (vs:=[f.v]) ⟨f.v,[],rfl,M,rfl⟩ PIn.nil) oL W
  (λq s=>by
   simp only[amb,B5t,Ca2,or_false]at s;rcases s with rfl|rfl|rfl<;>assumption) hx
 refine h.mono λu w' ⟨vs,x,b4,hu,V,U⟩=>?_;obtain⟨m,lsO,z,A,C,D,N,e2,p,O,e5⟩:=V;have e:[[Leaf.b r]]=m++lsO:=N;cases lsO with
 |cons a l=>exact p.elim
 |nil=>
  rw[B6o]at e;subst e;obtain⟨o1,o2⟩:=p;obtain⟨o,n,y,B,bo,P,f2,⟨g1,g2,g3⟩,⟨Q,R⟩,T,f6⟩:=e2;match o,P with
  |[v],_=>subst g1 g2 g3 R Q T o1 O;obtain⟨q1,F,q2,q3,_⟩:=U;obtain⟨p1,F1,F2,p2,_⟩:=q2;have hv:v=.bool r:=p2.1;subst hv;exact⟨(),hu,q1,F,p1,q3,λ_ Y=>by cases Y⟩
end
section
section
variable {α:Type}
theorem Aa{p} [Decidable p] {x:Option α} (h:p):xg p x=x:=if_pos h
theorem Ao{n} {x:Option α} (h: -9223372036854775808<=n) (k:n<=9223372036854775807):xg (Ae n) x=x:=if_pos ⟨h,k⟩
theorem Ad{p} [Decidable p] {x y:α} (h:p):(bif decide p then x else y)=x:=by rw[decide_eq_true h];rfl
theorem Ab{p} [Decidable p] {x y:α} (h:¬p):(bif decide p then x else y)=y:=by rw[decide_eq_false h];rfl
theorem Bn{c} {x y:α}:(bif !c then x else y)=(bif c then y else x):=by cases c<;>rfl
theorem A9 {x y:α}:(bif true then x else y)=x:=rfl
theorem Ag {x y:α}:(bif false then x else y)=y:=rfl
end
section
variable {T:Type} [Inhabited T]
theorem Aos {l:List T}{i y} (h:i<l.length):el (l.set i y) i=y:=by unfold el;simp[B6n,h]
theorem Lv p x (l:List T):el (p++x::l) p.length=x:=by unfold el;simp[B6n]
omit [Inhabited T]in
theorem Bxz (p:List T) (x y:T) (l:List T):(p++x::l).set p.length y=p++y::l:=by simp
theorem Bm {l:List T}{i} (h:i<l.length):el l i∈l:=by rw[Gb h];exact List.getElem_mem h
end
def Dv (n:Int):Prop:=Ae n
def wfB (_:Bool):Prop:=True
def Mo (s:ByteArray):Prop:=s.size<=9223372036854775807
def D0 {T:Type} (p:T->Prop) (l:List T):Prop:=l.length<=9223372036854775807/\∀x∈l,p x
def Dt (_:Int):Prop:=True
def smB (_:Bool):Prop:=True
def Qa (s:ByteArray):Prop:=s.size<=1099511627776
def C0 {T:Type} (p:T->Prop) (l:List T):Prop:=l.length<=1099511627776/\∀x∈l,p x
def Av {T:Type} (c:T->Nat):List T->Nat
 |[]=>0
 |x::l=>c x+Av c l
theorem A8i{T c} (h:∀x,1<=c x):∀(l:List T),l.length<=Av c l
 |[]=>B6i _
 |x::l=>by have:=A8i h l;have:=h x;simp only[B5q,Av];omega
theorem Atu{T c}:∀ {l:List T} {x:T},x∈l->c x<=Av c l
 |y::l,x,h=>by
  rcases B5t.1 h with rfl|h
  ·simp only[Av];omega
  ·have:=Atu (c:=c) h;simp only[Av];omega
def A5 {T:Type} (c:T->Nat) (l:List T):Nat:=l.length+Av c l
theorem I7{T} c (l:List T):A5 c l=l.length+Av c l:=rfl
theorem Abf{T c} (h:∀x,c x=0) (l:List T):A5 c l=l.length:=by
 have:Av c l=0:=by
  induction l with
  |nil=>rfl
  |cons x l a=>simp only[Av,h,a]
 unfold A5;omega
def F5 (_:Int):Nat:=0
def szB (_:Bool):Nat:=0
def szY (_:UInt8):Nat:=0
def Ej (s:ByteArray):Nat:=s.size
def Bl (_:Int):Nat:=1
def Ww (_:Bool):Nat:=1
def Fm (_:ByteArray):Nat:=1
def cnY (_:UInt8):Nat:=1
theorem D6 x (_:F5 x<=1099511627776):Dt x:=trivial
theorem A73 x (_:szB x<=1099511627776):smB x:=trivial
theorem Ajk x (h:Ej x<=1099511627776):Qa x:=h
theorem Hn{T c p} (h:∀x,c x<=1099511627776->p x) (l:List T) (a:A5 c l<=1099511627776):C0 p l:=by unfold A5 at a;exact⟨by omega,λx hx=>h x (by have:=Atu (c:=c) hx;omega)⟩
theorem Wx x:Bl x<=64*(1+F5 x):=by unfold Bl;omega
theorem G9{T c d} (h:∀x,c x<=64*(1+d x)):∀(l:List T),Av c l<=64*A5 d l
 |[]=>B6c _
 |x::l=>by
  have:=G9 h l;have:=h x;simp only[A5,Av,B5q]at*
  omega
section
variable {T:Type} [Inhabited T]
end
end
section
section
variable {T σ ρ:Type} [Inhabited T]
theorem C6{F e} l (P:List T->Nat->σ->Prop) (G:List T->Nat->σ->ρ)
  (o:∀s,P [] l.length s->G [] l.length s=e s)
  (q:∀x r k s,k<l.length->el l k=x->P (x::r) k s->(∃s',F k s=some (.go s')/\P r (k+1) s'/\G (x::r) k s=G r (k+1) s')\/F k s=some (.out (G (x::r) k s))) s (g:P l 0 s):Ai F e l.length 0 s=some (G l 0 s):=by
 have f:∀(r p:List T) (s:σ),p++r=l->P r p.length s->Ai F e r.length p.length s=some (G r p.length s):=by
  intro r;induction r with
  |nil=>
   intro p s a c;have n:p.length=l.length:=by rw[<-a];simp
   rw[n]at c⊢;show some (e s)=_;rw[o s c]
  |cons x r t=>
   intro p s a c;have m:p.length<l.length:=by rw[<-a];simp
   have hx:el l p.length=x:=by rw[<-a];exact Lv p x r
   have b:=λs' h=>t (p++[x]) s' (by simpa using a) (by simpa using h);simp only[B5m,B51]at b;show(F p.length s).bind (λz=>z.on (Ai F e r.length (p.length+1)) some)=_;rcases q x r p.length s m hx c with⟨s',d,i,j⟩|d
   ·rw[d,j];exact b s' i
   ·rw[d];rfl
 exact f l [] s rfl g
theorem Aau{F e} l (P:List T->Nat->σ->Prop) (Q:List T->Nat->σ->ρ->Prop)
  (t:∀s,P [] l.length s->Q [] l.length s (e s))
  (u:∀x r k s,k<l.length->el l k=x->P (x::r) k s->(∃s',F k s=some (.go s')/\P r (k+1) s'/\∀y,Q r (k+1) s' y->Q (x::r) k s y)\/∃y,F k s=some (.out y)/\Q (x::r) k s y) s (i:P l 0 s):∃y,Ai F e l.length 0 s=some y/\Q l 0 s y:=by
 have g:∀(r p:List T) (s:σ),p++r=l->P r p.length s->∃y,Ai F e r.length p.length s=some y/\Q r p.length s y:=by
  intro r;induction r with
  |nil=>
   intro p s a c;have q:p.length=l.length:=by rw[<-a];simp
   rw[q]at c⊢;exact⟨e s,rfl,t s c⟩
  |cons x r v=>
   intro p s a c;have o:p.length<l.length:=by rw[<-a];simp
   have hx:el l p.length=x:=by rw[<-a];exact Lv p x r
   have b:=λs' h=>v (p++[x]) s' (by simpa using a) (by simpa using h);simp only[B5m,B51]at b;show∃y,(F p.length s).bind (λz=>z.on (Ai F e r.length (p.length+1)) some)=some y/\_;rcases u x r p.length s o hx c with⟨s',d,f,j⟩|⟨y,d,f⟩
   ·rw[d];obtain⟨y,m,n⟩:=b s' f;exact⟨y,m,j y n⟩
   ·rw[d];exact⟨y,rfl,f⟩
 exact g l [] s rfl i
theorem Gv{F} {e:σ->ρ} l (P:List T->Nat->σ->Prop) g
  (c:∀x r k s,k<l.length->el l k=x->P (x::r) k s->F k s=some (.go (g s x))/\P r (k+1) (g s x)) s (d:P l 0 s):Ai F e l.length 0 s=some (e (l.foldl g s)):=
 C6 (F:=F) (e:=e) l P (λr _ s=>e (r.foldl g s)) (λ_ _=>rfl) (λx r k s b hx a=>.inl ⟨g s x,(c x r k s b hx a).1,(c x r k s b hx a).2,rfl⟩) s d
theorem Q8{F} {a b:ρ} l (p:T->Bool) (f:∀x k,k<l.length->el l k=x->F k ()=some (bif p x then .go ()else .out b)):
  Ai F (λ_=>a) l.length 0 ()=some (bif l.all p then a else b):=
 C6 (F:=F) (e:=λ_=>a) l (λ_ _ _=>True) (λr _ _=>bif r.all p then a else b) (λ_ _=>rfl) (λx r k s d hx _=>by
  have h:=f x k d hx;cases c:p x with
  |true=>exact .inl ⟨(),by rw[h,c];rfl,trivial,by simp[c]⟩
  |false=>exact .inr (by rw[h,c];simp[c])) () trivial
theorem W9 [DecidableEq T]{F} {x y:ρ} (a b:List T) (j:a.length=b.length)
  (l:∀k,k<a.length->k<b.length->F k ()=some (bif decide (el a k=el b k)then .go ()else .out y)):
  Ai F (λ_=>x) a.length 0 ()=some (bif decide (a=b)then x else y):=by
 have h:=C6 (F:=F) (e:=λ_=>x) a (λr k _=>r.length+k=a.length) (λr k _=>bif decide (r=b.drop k)then x else y) (λs _=>by
  rw[j,B72];simp) (λu r k s i hx g=>by
  have c:k<b.length:=by omega
  have f:b.drop k=el b k::b.drop (k+1):=by rw[Gb c];exact B78 c
  rw[l k i c,hx];by_cases d:u=el b k
  ·refine .inl ⟨(),by rw[Ad d],by simp only[B5q]at g;omega,?_⟩;rw[f,d];simp
  ·refine .inr ?_;rw[Ab d,f,decide_eq_false (p:=u::r=el b k::b.drop (k+1)) (by simp[d])];rfl) () (by simp)
 simpa using h
theorem Rj{f} (P:σ->Prop) (a:σ->Nat) (G:σ->ρ) (i:∀s,P s->(∃s',f s=some (.go s')/\P s'/\a s'<a s/\G s=G s')\/f s=some (.out (G s))):
  ∀s,P s->Bc f s=some (G s):=by
 have c:∀(n:Nat) (s:σ),a s<n->P s->Bc f s=some (G s):=by
  intro n;induction n with
  |zero=>intro s h;omega
  |succ n j=>
   intro s l g;rw[Nt];rcases i s g with⟨s',b,d,k,e⟩|b
   ·rw[b,e];exact j s' (by omega) d
   ·rw[b];rfl
 exactλs h=>c (a s+1) s (B9x _) h
theorem Ri{f} (P:σ->Prop) (a:σ->Nat) (Q:ρ->Prop) (g:∀s,P s->(∃s',f s=some (.go s')/\P s'/\a s'<a s)\/∃r,f s=some (.out r)/\Q r):
  ∀s,P s->∃r,Bc f s=some r/\Q r:=by
 have d:∀(n:Nat) (s:σ),a s<n->P s->∃r,Bc f s=some r/\Q r:=by
  intro n;induction n with
  |zero=>intro s h;omega
  |succ n i=>
   intro s k e;rw[Nt];rcases g s e with⟨s',b,c,j⟩|⟨r,b,c⟩
   ·rw[b];exact i s' (by omega) c
   ·rw[b];exact⟨r,rfl,c⟩
 exactλs h=>d (a s+1) s (B9x _) h
theorem A1h{l i j} {y:T} (h:i≠j):el (l.set i y) j=el l j:=by unfold el;simp[B6n,h]
theorem W3 {l:List T}{i} (h:i<l.length):l.drop i=el l i::l.drop (i+1):=by rw[Gb h];exact B78 h
theorem Bm7{n i} {x:T} (h:i<n):el (B6l n x) i=x:=by unfold el;simp[B6n,h]
end
theorem Bo {α:Type}{c} {a b:α}:(bif c then some a else some b)=some (bif c then a else b):=by cases c<;>rfl
theorem Dd{c a}:(bif c then a else false)=(c&&a):=by cases c<;>rfl
theorem Ff{c a}:(bif c then true else a)=(c||a):=by cases c<;>rfl
theorem cn_{c a}:(bif c then false else a)=(!c&&a):=by cases c<;>rfl
theorem cm_{c a}:(bif c then a else true)=(!c||a):=by cases c<;>rfl
theorem Gu{a b} (h:a=true↔b=true):some a=some b:=by rw[Bool.eq_iff_iff.2 h]
def B6 {T:Type} (f:T->Int):List T->Int
 |[]=>0
 |x::l=>f x+B6 f l
theorem Yv{T} f:∀(a b:List T),B6 f (a++b)=B6 f a+B6 f b
 |[],b=>by simp[B6]
 |x::a,b=>by simp only[B6a,B6,Yv f a b];omega
theorem Yw{T f}:∀ {l:List T},(∀x∈l,0<=f x)->0<=B6 f l
 |[],_=>B67 _
 |x::l,h=>by have:=Yw (f:=f) (l:=l) (λy a=>h y (by simp[a]));have:=h x (by simp);simp only[B6];omega
theorem A8f{T f n}:∀ {l:List T},(∀x∈l,f x<=n)->B6 f l<=n*l.length
 |[],_=>by simp[B6]
 |x::l,h=>by have:=A8f (f:=f) (n:=n) (l:=l) (λy a=>h y (by simp[a]));have:=h x (by simp);simp only[B6,B5q,Ca3,Int.mul_add,Int.natCast_one,Int.mul_one];omega
theorem A8g{T} f:∀(l:List T) (s:Int),l.foldl (λs x=>s+f x) s=s+B6 f l
 |[],s=>by simp[B6]
 |x::l,s=>by rw[B6j,A8g f l];simp only[B6];omega
theorem Acp{T f g}:∀ {l:List T},(∀x∈l,f x=g x)->B6 f l=B6 g l
 |[],_=>rfl
 |x::l,h=>by simp only[B6,h x (by simp),Acp (f:=f) (g:=g) (l:=l) (λy a=>h y (by simp[a]))]
theorem Bm4{T ρ} [Inhabited T]{F} {e:Int->ρ} l (f:T->Int) (m:Int) (i:0<=m) (p:m*l.length<=4611686018427387904) (g:∀x∈l,0<=f x/\f x<=m)
  (j:∀x k s,k<l.length->el l k=x->x∈l->0<=s->s<=4611686018427387904->F k s=some (.go (s+f x))):Ai F e l.length 0 0=some (e (B6 f l)):=by
 have h:=Gv (F:=F) (e:=e) l (λr k s=>0<=s/\s+m*r.length<=4611686018427387904) (λs x=>s+f x) (λx r k s c hx b=>by
  have a:x∈l:=hx▸Bm c;have n:=g x a;have o:0<=m*(r.length:Int):=Int.mul_nonneg i (by omega);have d:m*((x::r).length:Int)=m*(r.length:Int)+m:=by simp only[B5q,Ca3,Int.mul_add,Int.natCast_one,Int.mul_one]
  rw[d]at b;exact⟨j x k s c hx a b.1 (by omega),by omega,by omega⟩) 0 ⟨B67 _,by omega⟩
 rw[h,A8g,Int.zero_add]
end
end
end Go.Proofs.YtcdecpdpmpfbnaaGreatDoor
