/- Part 4 of the proof: lemmas. No condition. -/
import Derived.Test.YtbbefmccoomfhaaGreatDoorZ3
open Option renaming some->Aa,none->Ab,bind->Ac
open List renaming mem_cons->Bq,replicate->Ey,append_nil->Hu,not_mem_nil->Ae3
open ByteArray renaming empty->Cb
open Sum renaming inr->Bj,elim->B2,inl->Ej
namespace Go.Proofs.YtbbefmccoomfhaaGreatDoor
set_option linter.unusedVariables false
set_option linter.unusedSimpArgs false
open Tryz
noncomputable section
section
open Go.RowKit
abbrev Bz:RK:=⟨true,.b 1,false⟩
abbrev B8:PK:=.val false (.b 0)
abbrev C4:RK:=⟨true,.b 0,false⟩
abbrev Eu:PK:=.val false (.sl (.b 4))
abbrev E9:PK:=.val false (.b 2)
abbrev Gq:PK:=.val false (.b 10)
abbrev G6:PK:=.val false (.b 15)
abbrev Hr:RK:=⟨true,.b 2,false⟩
abbrev Hy:PK:=.val false (.b 7)
abbrev Ii:PK:=.val false (.sl (.b 0))
abbrev Iz:RK:=⟨true,.sl (.b 4),false⟩
abbrev Ka:PK:=.box .rd (.b 16)
abbrev Ls:RK:=⟨true,.b 10,false⟩
abbrev M7:RK:=⟨true,.sl (.b 0),false⟩
abbrev M4:PK:=.val false (.b 12)
abbrev Pw:PK:=.val false (.b 8)
abbrev P0:RK:=⟨true,.b 15,false⟩
abbrev Sp:RK:=⟨true,.b 8,false⟩
abbrev Uv:PK:=.val false (.b 5)
abbrev Xg:RK:=⟨true,.sl (.b 2),false⟩
abbrev Xh:RK:=⟨true,.sl (.b 5),false⟩
abbrev W9:PK:=.val false (.b 14)
abbrev Ac7:PK:=.val false (.sl (.b 2))
abbrev Ac8:PK:=.val false (.b 4)
abbrev Adg:RK:=⟨true,.b 7,false⟩
abbrev Ac9:PK:=.val false (.b 13)
abbrev Adh:RK:=⟨true,.b 13,false⟩
abbrev Ag1:PK:=.val false (.sl (.b 5))
abbrev Ahb:RK:=⟨true,.sl (.sl (.b 4)),false⟩
abbrev Ag2:PK:=.val false (.sl (.sl (.b 4)))
abbrev Ahc:RK:=⟨true,.b 12,false⟩
abbrev Aoa:PK:=.val false (.sl (.b 3))
abbrev Aob:PK:=.box .ow (.b 17)
abbrev Aoc:PK:=.val false (.b 9)
abbrev Aod:PK:=.box .ow (.b 15)
abbrev Aoe:PK:=.val false (.sl (.b 14))
abbrev Ay2:PK:=.box .rd (.b 18)
abbrev Azq:RK:=⟨false,.b 10,false⟩
abbrev Ay3:PK:=.val false (.sl (.b 7))
abbrev Ay4:PK:=.box .rd (.b 19)
abbrev Azr:RK:=⟨false,.b 4,false⟩
abbrev Ay5:PK:=.val false (.sl (.b 9))
abbrev Ay6:PK:=.val false (.b 11)
abbrev Ay7:PK:=.val false (.sl (.b 11))
abbrev Ay8:PK:=.len (.b 0)
abbrev Ay9:PK:=.cap .lo (.b 15)
abbrev Dw (n:Nat):VK:=.slot n (.sc 0)
abbrev Sd (n m:Nat):VK:=.slot n (.sc m)
abbrev Ev (n m:Nat):VK:=.slot n (.row (.b m))
abbrev J7 (n m:Nat):VK:=.Qs n (.b m)
abbrev Df (k a b:Nat) (l:List VK):Hint:=⟨k,Aa (a,b),true,l⟩
abbrev Fb (k a b:Nat) (l:List VK):Hint:=⟨k,Aa (a,b),false,l⟩
abbrev hnT (k:Nat) (l:List VK):Hint:=⟨k,Ab,true,l⟩
abbrev E0 (k:Nat) (l:List VK):Hint:=⟨k,Ab,false,l⟩
abbrev Af:List Rd:=[rTab,rMax,rErr]
def Aug:E Af:=⟨⟨152,[.val true (.sl (.b 11)),B8,.lit (.b 11)],[⟨true,.sl (.b 11),false⟩],Jt Ri⟩,Awb λw X S L s i a vs h j c d e f g=>Bz8 w X S (Fu (.b 11)) L s i a vs h j c d e f g⟩
def Bs8:E Af:=⟨⟨231,[.val true (.sl (.b 7)),B8,.lit (.b 7)],[⟨true,.sl (.b 7),false⟩],Jt Ri⟩,Awb λw X S L s i a vs h j c d e f g=>Bz7 w X S (Fu (.b 7)) L s i a vs h j c d e f g⟩
def Bs9:E Af:=⟨⟨275,[.val true (.sl (.b 6)),B8,.lit (.b 6)],[⟨true,.sl (.b 6),false⟩],Jt Ri⟩,Awb λw X S L s i a vs h j c d e f g=>Bz9 w X S (Fu (.b 6)) L s i a vs h j c d e f g⟩
def A8j:E Af:=⟨⟨68,[E9,E9],[Xg],Bw Aau⟩,Bx7 (by simp)⟩
def Bs7:E Af:=⟨⟨80,[.val true (.sl (.b 11)),B8,B8],[⟨true,.sl (.b 11),false⟩],Jt Ad1⟩,Bx4⟩
def Bta:E Af:=⟨⟨106,[B8],[Hr],Bp Aib⟩,Bx5 λw X S n b c a _ hx=>Bsp w X S n b (c rTab (by simp)) a hx⟩
def A8i:E Af:=⟨⟨148,[E9,E9,E9],[Hr],Jt Aat⟩,Bx8 λw X S s p q b c a _ hx=>Bsr w X S s p q b (c rMax (by simp)) a hx⟩
def A8h:E Af:=⟨⟨241,[Ac7,E9],[Hr],Bw Aas⟩,Bx6 λw X S l s p b _ h a _ hx=>Bsq w X S l s p b h a hx⟩
def A4w (b:List UInt8) (c:Int) (a:Int):Option (Lr (Int×Int) Int):=
 Ac (bif decide (a<(b.length:Int))then(Aa (decide (a<4000)))else(Aa false)) λd=>bif d then(xg (0<=a/\a<(b.length:Int))<|some (Lr.go (Qn (iw ((iw ((iw (c*43))+((el b a.toNat).toNat:Int)))+7)) 1073741823,iw (a+1))))else(Aa (Lr.out c))
def Ajz (b:List UInt8) (a:Int×Int):Option (Lr (Int×Int) Int):=A4w b a.1 a.2
def Aba (a:List UInt8):Option B3:=
 Ac (Cp (Ajz a) (iw (1621+(a.length:Int)),0)) λb=>Aa (⟨a,0,b⟩:B3)
def Bpl (b:List UInt8) (c:Int) (a:Int):Option (Lr (Int×Int) (Int×Int)):=
 Ac (bif decide (a<(b.length:Int))then(Aa (decide (a<4000)))else(Aa false)) λd=>bif d then(xg (0<=a/\a<(b.length:Int))<|some (Lr.go (Qn (iw ((iw ((iw (c*43))+((el b a.toNat).toNat:Int)))+7)) 1073741823,iw (a+1))))else(Aa (Lr.out (c,a)))
def Bpm (b:List UInt8) (a:Int×Int):Option (Lr (Int×Int) (Int×Int)):=Bpl b a.1 a.2
def Bpk (a:List UInt8):Option B3:=
 Ac (Cp (Bpm a) (iw (1621+(a.length:Int)),0)) λb=>Aa (⟨a,0,b.1⟩:B3)
def A9p:E Af:=en 13 [Aoa] [⟨false,.b 16,true⟩] (Bp Aba) func13 [] [E0 0 [Dw 3,Dw 4]] (wr:=true) (hx:=λa=>Eq.trans (b:=Bpk a.1) (by kernel_rfl) (show _=Aba a.1 by simp only[A4w,Ajz,Aba,Bpl,Bpm,Bpk,Dv,D8,D3,D5,D2,D4,cond_true,cond_false,D9,Ea,D6,D7]<;>rfl))
def X7 (c:B3):Option (Int×B3):=
 xg (0<=(33:Int))<|xg (0<=(45:Int))<|bif decide (c.i<(c.b.length:Int))then(xg (0<=c.i/\c.i<(c.b.length:Int))<|some (Qn (iw ((Qn (Jv (Yj (iw ((iw (c.h*6364136223846793005))+1442695040888963407)) 33) (Yj (iw ((iw (c.h*6364136223846793005))+1442695040888963407)) 45)) 255)+((el c.b c.i.toNat).toNat:Int))) 255,(⟨c.b,iw (c.i+1),iw ((iw (c.h*6364136223846793005))+1442695040888963407)⟩:B3)))else(Aa (Qn (Jv (Yj (iw ((iw (c.h*6364136223846793005))+1442695040888963407)) 33) (Yj (iw ((iw (c.h*6364136223846793005))+1442695040888963407)) 45)) 255,(⟨c.b,c.i,iw ((iw (c.h*6364136223846793005))+1442695040888963407)⟩:B3)))
def Bv6:E Af:=en 54 [Ka] [C4] (Bp X7) func54 (wr:=true)
def Ch (c:B3) (n:Int):Option (Int×B3):=
 bif decide (n<=0)then(Aa (0,c))else(bif decide (n<=256)then(Ac (X7 c) λf=>xg (0<=f.1/\0<n)<|some (f.1 % n,f.2))else(Ac (X7 c) λb=>Ac (X7 b.2) λa=>Ac (X7 a.2) λd=>Ac (X7 d.2) λe=>xg (Aq (b.1*16777216))<|xg (Aq (a.1*65536))<|xg (Aq ((b.1*16777216)+(a.1*65536)))<|xg (Aq (d.1*256))<|xg (Aq (((b.1*16777216)+(a.1*65536))+(d.1*256)))<|xg (Aq ((((b.1*16777216)+(a.1*65536))+(d.1*256))+e.1))<|xg (0<=((((b.1*16777216)+(a.1*65536))+(d.1*256))+e.1)/\0<n)<|some (((((b.1*16777216)+(a.1*65536))+(d.1*256))+e.1) % n,e.2)))
def L8:E Af:=en 16 [Ka,B8] [C4] (Bw Ch) func16 [Bv6]
def K0 (c:B3) (n:Int):Option (Bool×B3):=
 Ac (Ch c n) λa=>Aa (decide (a.1=0),a.2)
def Ab5:E Af:=en 49 [Ka,B8] [Bz] (Bw K0) func49 [L8]
def Aem (c:B3) (l:List Int):Option (Int×B3):=
 Ac (Ch c (l.length:Int)) λa=>xg (0<=a.1/\a.1<(l.length:Int))<|some (el l a.1.toNat,a.2)
def A9q:E Af:=en 181 [Ka,Ii] [C4] (Bw Aem) func181 [L8]
def Aj0 (c:B3):Option (Int×B3):=
 Ac (K0 c 8) λa=>bif a.1 then(Ac (Aem a.2 [0,127,128,2047,2048,55295,57344,65535,65536,1114111,10,32]) λd=>Aa (d.1,d.2))else(Ac (Ch a.2 6) λb=>xg (Aq (97+b.1))<|some (97+b.1,b.2))
def Bv7:E Af:=en 110 [Ka] [C4] (Bp Aj0) func110 [L8,Ab5,A9q]
def A4x (c:List Int) (d:Int) (f:List UInt8) (e:Int) (g:Int):Option (Lr (List Int×Int×List UInt8×Int×Int) (List Int×List UInt8×Int×Int)):=
 bif decide ((0:Int)<d)then(Ac (Aj0 (⟨f,e,g⟩:B3)) λa=>xg (c.length<1099511627776)<|xg (Aq (d-1))<|some (Lr.go (c++[a.1],d-1,a.2.b,a.2.i,a.2.h)))else(Aa (Lr.out (c,f,e,g)))
def Asb (a:List Int×Int×List UInt8×Int×Int):Option (Lr (List Int×Int×List UInt8×Int×Int) (List Int×List UInt8×Int×Int)):=A4x a.1 a.2.1 a.2.2.1 a.2.2.2.1 a.2.2.2.2
def Mo (c:B3) (e:Int):Option (List Int×B3):=
 xg (Aq (e+1))<|Ac (Ch c (e+1)) λa=>Ac (Cp (Asb) ([],a.1,a.2.b,a.2.i,a.2.h)) λd=>Aa (d.1,(⟨d.2.1,d.2.2.1,d.2.2.2⟩:B3))
def Bpo (d:List Int) (a:Int) (e:List UInt8) (g:Int) (f:Int):Option (Lr (List Int×Int×List UInt8×Int×Int) (List Int×Int×List UInt8×Int×Int)):=
 bif decide ((0:Int)<a)then(Ac (Aj0 (⟨e,g,f⟩:B3)) λc=>xg (d.length<1099511627776)<|xg (Aq (a-1))<|some (Lr.go (d++[c.1],a-1,c.2.b,c.2.i,c.2.h)))else(Aa (Lr.out (d,a,e,g,f)))
def Bpp (a:List Int×Int×List UInt8×Int×Int):Option (Lr (List Int×Int×List UInt8×Int×Int) (List Int×Int×List UInt8×Int×Int)):=Bpo a.1 a.2.1 a.2.2.1 a.2.2.2.1 a.2.2.2.2
def Bpn (c:B3) (e:Int):Option (List Int×B3):=
 xg (Aq (e+1))<|Ac (Ch c (e+1)) λa=>Ac (Cp (Bpp) ([],a.1,a.2.b,a.2.i,a.2.h)) λd=>Aa (d.1,(⟨d.2.2.1,d.2.2.2.1,d.2.2.2.2⟩:B3))
def Aly:E Af:=en 48 [Ka,B8] [M7] (Bw Mo) func48 [L8,Bv7] [E0 0 [Ev 5 0,Dw 6,.box 0 0 [.ro (.b 3),.sc 0,.sc 0]]] (hx:=λa=>Eq.trans (b:=Bpn a.1 a.2.1) (by kernel_rfl) (show _=Mo a.1 a.2.1 by simp only[A4x,Asb,Mo,Bpo,Bpp,Bpn,Dv,D8,D3,D5,D2,D4,cond_true,cond_false,D9,Ea,D6,D7]<;>rfl))
def Dq (n:Int) (b:Int) (c:Int):Option Bool:=
 Ac (bif decide (b<=n)then(Aa (decide (n<=c)))else(Aa false)) λa=>Aa a
def Jl:E Af:=en 52 [B8,B8,B8] [Bz] (Jt Dq) func52
def Bkr (s:Cea) (a:Int):Option (Lr Int (Sum Unit Unit)):=
 bif decide (a<(s.size:Int))then(xg (0<=a/\a<(s.size:Int))<|Ac (bif decide (((Du s a.toNat).toNat:Int)<97)then(Aa true)else(xg (0<=a/\a<(s.size:Int))<|some (decide ((122:Int)<((Du s a.toNat).toNat:Int))))) λb=>bif b then(Aa (Lr.out (Bj (()))))else(xg (Aq (a+1))<|some (Lr.go (a+1))))else(Aa (Lr.out (Ej ())))
def A4d (s:Cea) (a:Int):Option (Lr Int (Sum Unit Unit)):=Bkr s a
def X5 (s:Cea):Option Bool:=
 Ac (Cp (A4d s) 0) λb=>B2 (λd=>Ac (Dq (s.size:Int) 1 8) λa=>Aa a) (λc=>Aa false) b
def Box (s:Cea) (a:Int):Option (Lr Int (Sum Int Bool)):=
 bif decide (a<(s.size:Int))then(xg (0<=a/\a<(s.size:Int))<|Ac (bif decide (((Du s a.toNat).toNat:Int)<97)then(Aa true)else(xg (0<=a/\a<(s.size:Int))<|some (decide ((122:Int)<((Du s a.toNat).toNat:Int))))) λb=>bif b then(Aa (Lr.out (Bj false)))else(xg (Aq (a+1))<|some (Lr.go (a+1))))else(Aa (Lr.out (Ej a)))
def Boy (s:Cea) (a:Int):Option (Lr Int (Sum Int Bool)):=Box s a
def Bow (s:Cea):Option Bool:=
 Ac (Cp (Boy s) 0) λb=>B2 (λd=>Ac (Dq (s.size:Int) 1 8) λc=>Aa c) (λa=>Aa a) b
def A9f:E Af:=en 189 [E9] [Bz] (Bp X5) func189 [Jl] [hnT 0 [Dw 3]] (hx:=λa=>Eq.trans (b:=Bow a.1) (by kernel_rfl) (show _=X5 a.1 by simp only[Bkr,A4d,X5,Box,Boy,Bow,Dv,D8,D3,D5,D2,D4,cond_true,cond_false,D9,Ea,D6,D7]<;>rfl))
def Aej (n:Int):Option Bool:=
 Ac (Dq n 0 1114111) λc=>Ac (bif c then(Ac (Dq n 55296 57343) λa=>Aa (!a))else(Aa false)) λb=>Aa b
def A9l:E Af:=en 249 [B8] [Bz] (Bp Aej) func249 [Jl]
def A4k (l:List Int) (c:Nat) (a:Int):Option (Lr Unit (Sum Unit Unit)):=
 Ac (Aej a) λb=>bif !b then(Aa (Lr.out (Bj (()))))else(Aa (Lr.go ()))
def A4l (l:List Int) (a:Nat) (b:Unit):Option (Lr Unit (Sum Unit Unit)):=A4k l a (el l a)
def Vm (l:List Int):Option Bool:=
 Ac (A2 (A4l l) (λb=>(.inl ())) l.length 0 ()) λa=>B2 (λc=>Aa true) (λd=>Aa false) a
def Bo9 (l:List Int) (c:Nat) (b:Int):Option (Lr Unit (Sum Unit Bool)):=
 Ac (Aej b) λa=>bif !a then(Aa (Lr.out (Bj false)))else(Aa (Lr.go ()))
def Bpa (l:List Int) (a:Nat) (b:Unit):Option (Lr Unit (Sum Unit Bool)):=Bo9 l a (el l a)
def Bo8 (l:List Int):Option Bool:=
 Ac (A2 (Bpa l) (λc=>(.inl ())) l.length 0 ()) λa=>B2 (λd=>Aa true) (λb=>Aa b) a
def Au1:E Af:=en 197 [Ii] [Bz] (Bp Vm) func197 [A9l] [Df 0 7 6 []] (hx:=λa=>Eq.trans (b:=Bo8 a.1) (by kernel_rfl) (show _=Vm a.1 by simp only[A4k,A4l,Vm,Bo9,Bpa,Bo8,Dv,D8,D3,D5,D2,D4,cond_true,cond_false,D9,Ea,D6,D7]<;>rfl))
def Vq (t:List Int):Option Bool:=
 Ac (Vm t) λb=>Ac (bif b then(Aa (decide ((t.length:Int)<=200)))else(Aa false)) λa=>Aa a
def Au4:E Af:=en 126 [Ii] [Bz] (Bp Vq) func126 [Au1]
def Ajt (p:Ae):Option Bool:=
 bif decide (p.kind=1)then(bif decide (p.kind=1)then(Ac (Dq p.n 0 200) λi=>Ac (bif i then(Aa (decide ((p.Bd.length:Int)=0)))else(Aa false)) λj=>Aa j)else(bif decide (p.kind=2)then(Ac (bif decide (p.n=0)then(Ac (Vm p.Bd) λc=>Aa c)else(Aa false)) λh=>Ac (bif h then(Aa (decide ((p.Bd.length:Int)<=200)))else(Aa false)) λa=>Aa a)else(Aa false)))else(bif decide (p.kind=3)then(Ac (Dq p.n 0 200) λb=>Ac (bif b then(Aa (decide ((p.Bd.length:Int)=0)))else(Aa false)) λe=>Aa e)else(bif decide (p.kind=2)then(Ac (bif decide (p.n=0)then(Ac (Vm p.Bd) λg=>Aa g)else(Aa false)) λf=>Ac (bif f then(Aa (decide ((p.Bd.length:Int)<=200)))else(Aa false)) λd=>Aa d)else(Aa false)))
def Bvt:E Af:=en 196 [Ac8] [Bz] (Bp Ajt) func196 [Au1,Jl]
def A40 (o:List Ae) (c:Nat) (b:Ae):Option (Lr Unit (Sum Unit Unit)):=
 Ac (Ajt b) λa=>bif !a then(Aa (Lr.out (Bj (()))))else(Aa (Lr.go ()))
def A41 (o:List Ae) (a:Nat) (b:Unit):Option (Lr Unit (Sum Unit Unit)):=A40 o a (el o a)
def X9 (o:List Ae):Option Bool:=
 Ac (A2 (A41 o) (λc=>(.inl ())) o.length 0 ()) λa=>B2 (λb=>Aa (decide ((o.length:Int)<=600))) (λd=>Aa false) a
def Bpv (o:List Ae) (c:Nat) (a:Ae):Option (Lr Unit (Sum Unit Bool)):=
 Ac (Ajt a) λb=>bif !b then(Aa (Lr.out (Bj false)))else(Aa (Lr.go ()))
def Bpw (o:List Ae) (a:Nat) (b:Unit):Option (Lr Unit (Sum Unit Bool)):=Bpv o a (el o a)
def Bpu (o:List Ae):Option Bool:=
 Ac (A2 (Bpw o) (λd=>(.inl ())) o.length 0 ()) λb=>B2 (λc=>Aa (decide ((o.length:Int)<=600))) (λa=>Aa a) b
def Au7:E Af:=en 125 [Eu] [Bz] (Bp X9) func125 [Bvt] [Df 0 7 6 []] (hx:=λa=>Eq.trans (b:=Bpu a.1) (by kernel_rfl) (show _=X9 a.1 by simp only[A40,A41,X9,Bpv,Bpw,Bpu,Dv,D8,D3,D5,D2,D4,cond_true,cond_false,D9,Ea,D6,D7]<;>rfl))
def Bk8 (o:List Ae) (e:Nat) (a:Ae) (d:Int) (b:Int) (c:Int):Option (Lr (Int×Int×Int) (Int×Int×Int)):=
 bif decide ((a.kind)=1)then(xg (Aq (d+(a.n)))<|some (Lr.go (d+(a.n),b,c)))else(bif decide ((a.kind)=2)then(xg (Aq (b+((a.Bd).length:Int)))<|some (Lr.go (d,b+((a.Bd).length:Int),c)))else(xg (Aq (c+(a.n)))<|some (Lr.go (d,b,c+(a.n)))))
def A42 (o:List Ae) (b:Nat) (a:Int×Int×Int):Option (Lr (Int×Int×Int) (Int×Int×Int)):=Bk8 o b (el o b) a.1 a.2.1 a.2.2
def Aj3 (o:List Ae):Option (Int×Int×Int):=
 Ac (X9 o) λc=>bif !c then(Aa (0,0,0))else(Ac (A2 (A42 o) (λa=>(a.1,a.2.1,a.2.2)) o.length 0 (0,0,0)) λb=>Aa (b.1,b.2.1,b.2.2))
def A9z:E Af:=en 290 [Eu] [C4,C4,C4] (Bp Aj3) func290 [Au7] [Fb 0 15 14 [Dw 5,Dw 6,Dw 7]]
def Te (o:List Ae):Option Int:=
 Ac (Aj3 o) λa=>xg (Aq (a.1+a.2.2))<|some (a.1+a.2.2)
def Alw:E Af:=en 252 [Eu] [C4] (Bp Te) func252 [A9z]
def Ar0 (o:List Ae):Option Int:=
 Ac (Aj3 o) λa=>xg (Aq (a.1+a.2.1))<|some (a.1+a.2.1)
def Bvr:E Af:=en 253 [Eu] [C4] (Bp Ar0) func253 [A9z]
def J5 (o:List Ae):Option Bool:=
 Ac (X9 o) λc=>Ac (bif c then(Ac (Te o) λe=>Aa (decide (e<=200)))else(Aa false)) λd=>Ac (bif d then(Ac (Ar0 o) λa=>Aa (decide (a<=200)))else(Aa false)) λb=>Aa b
def Ue:E Af:=en 202 [Eu] [Bz] (Bp J5) func202 [Alw,Bvr,Au7]
def Aj4 (o:List Ae) (t:List Int):Option Bool:=
 Ac (J5 o) λb=>Ac (bif b then(Ac (Vq t) λd=>Aa d)else(Aa false)) λc=>Ac (bif c then(Ac (Te o) λa=>Aa (decide (a=(t.length:Int))))else(Aa false)) λe=>Aa e
def Bv9:E Af:=en 245 [Eu,Ii] [Bz] (Bw Aj4) func245 [Alw,Ue,Au4]
def A3z (t:List Int) (o:List Ae) (d:Nat) (b:Ae) (c:List Int) (a:Int):Option (Lr (List Int×Int) (List Int)):=
 bif decide ((b.kind)=1)then(xg (Aq (a+(b.n)))<|xg (0<=a/\a<=(a+(b.n))/\(a+(b.n))<=(t.length:Int))<|xg (c.length+((t.take ((a+(b.n)).toNat)).drop a.toNat).length<=1099511627776)<|xg (Aq (a+(b.n)))<|some (Lr.go (c++((t.take ((a+(b.n)).toNat)).drop a.toNat),a+(b.n))))else(bif decide ((b.kind)=2)then(xg (c.length+(b.Bd).length<=1099511627776)<|some (Lr.go (c++(b.Bd),a)))else(xg (Aq (a+(b.n)))<|some (Lr.go (c,a+(b.n)))))
def Ajj (t:List Int) (o:List Ae) (a:Nat) (b:List Int×Int):Option (Lr (List Int×Int) (List Int)):=A3z t o a (el o a) b.1 b.2
def O6 (o:List Ae) (t:List Int):Option (List Int×Bool):=
 Ac (Aj4 o t) λa=>bif !a then(Aa ([],false))else(Ac (A2 (Ajj t o) (λc=>c.1) o.length 0 ([],0)) λb=>Aa (b,true))
def Bob (t:List Int) (o:List Ae) (d:Nat) (b:Ae) (c:List Int) (a:Int):Option (Lr (List Int×Int) (List Int×Int)):=
 bif decide ((b.kind)=1)then(xg (Aq (a+(b.n)))<|xg (0<=a/\a<=(a+(b.n))/\(a+(b.n))<=(t.length:Int))<|xg (c.length+((t.take ((a+(b.n)).toNat)).drop a.toNat).length<=1099511627776)<|xg (Aq (a+(b.n)))<|some (Lr.go (c++((t.take ((a+(b.n)).toNat)).drop a.toNat),a+(b.n))))else(bif decide ((b.kind)=2)then(xg (c.length+(b.Bd).length<=1099511627776)<|some (Lr.go (c++(b.Bd),a)))else(xg (Aq (a+(b.n)))<|some (Lr.go (c,a+(b.n)))))
def Boc (t:List Int) (o:List Ae) (a:Nat) (b:List Int×Int):Option (Lr (List Int×Int) (List Int×Int)):=Bob t o a (el o a) b.1 b.2
def Boa (o:List Ae) (t:List Int):Option (List Int×Bool):=
 Ac (Aj4 o t) λb=>bif !b then(Aa ([],false))else(Ac (A2 (Boc t o) (λa=>(a.1,a.2)) o.length 0 ([],0)) λc=>Aa (c.1,true))
def Alu:E Af:=en 190 [Eu,Ii] [M7,Bz] (Bw O6) func190 [Bv9] [Fb 0 17 16 [Ev 6 0,Dw 7]] (hx:=λa=>Eq.trans (b:=Boa a.1 a.2.1) (by kernel_rfl) (show _=O6 a.1 a.2.1 by simp only[A3z,Ajj,O6,Bob,Boc,Boa,Dv,D8,D3,D5,D2,D4,cond_true,cond_false,D9,Ea,D6,D7]<;>rfl))
def Aj2 (b:Cw):Option Cw:=
 bif decide ((0:Int)<(b.put.length:Int))then(xg (b.list.length+[(⟨2,0,b.put⟩:Ae)].length<=1099511627776)<|bif decide ((0:Int)<b.drop)then(xg ((b.list++[(⟨2,0,b.put⟩:Ae)]).length+[(⟨3,b.drop,[]⟩:Ae)].length<=1099511627776)<|some (⟨(b.list++[(⟨2,0,b.put⟩:Ae)])++[(⟨3,b.drop,[]⟩:Ae)],[],0⟩:Cw))else(Aa (⟨b.list++[(⟨2,0,b.put⟩:Ae)],[],0⟩:Cw)))else(bif decide ((0:Int)<b.drop)then(xg (b.list.length+[(⟨3,b.drop,[]⟩:Ae)].length<=1099511627776)<|some (⟨b.list++[(⟨3,b.drop,[]⟩:Ae)],[],0⟩:Cw))else(Aa (⟨b.list,[],0⟩:Cw)))
def A9w:E Af:=en 331 [Aob] [] (Bp Aj2) func331
def Mp (b:Cw) (n:Int):Option Cw:=
 bif decide (n=0)then(Aa b)else(Ac (Aj2 b) λa=>Ac (bif decide ((0:Int)<(a.list.length:Int))then(xg (Aq ((a.list.length:Int)-1))<|xg (0<=((a.list.length:Int)-1)/\((a.list.length:Int)-1)<(a.list.length:Int))<|some (decide (((el a.list (((a.list.length:Int)-1).toNat)).kind)=1)))else(Aa false)) λc=>bif c then(xg (Aq ((a.list.length:Int)-1))<|xg (Aq ((a.list.length:Int)-1))<|xg (0<=((a.list.length:Int)-1)/\((a.list.length:Int)-1)<(a.list.length:Int))<|xg (Aq (((el a.list (((a.list.length:Int)-1).toNat)).n)+n))<|xg (0<=((a.list.length:Int)-1)/\((a.list.length:Int)-1)<(a.list.length:Int))<|some (⟨a.list.set (((a.list.length:Int)-1).toNat) (⟨(el a.list (((a.list.length:Int)-1).toNat)).kind,((el a.list (((a.list.length:Int)-1).toNat)).n)+n,(el a.list (((a.list.length:Int)-1).toNat)).Bd⟩:Ae),a.put,a.drop⟩:Cw))else(xg (a.list.length<1099511627776)<|some (⟨a.list++[(⟨1,n,[]⟩:Ae)],a.put,a.drop⟩:Cw)))
def A9x:E Af:=en 315 [Aob,B8] [] (Bw Mp) func315 [A9w]
def Tm (b:Cw) (l:List Int):Option Cw:=
 xg (b.put.length+l.length<=1099511627776)<|some (⟨b.list,b.put++l,b.drop⟩:Cw)
def A9y:E Af:=en 316 [Aob,Ii] [] (Bw Tm) func316
def Tl (b:Cw) (n:Int):Option Cw:=
 xg (Aq (b.drop+n))<|some (⟨b.list,b.put,b.drop+n⟩:Cw)
def A9v:E Af:=en 317 [Aob,B8] [] (Bw Tl) func317
def Tj (b:Cw):Option (List Ae):=
 Ac (Aj2 b) λa=>Aa a.list
def A9t:E Af:=en 318 [.Od (.b 17)] [Iz] (Bp Tj) func318 [A9w]
def Bkt (o:List Ae) (h:Nat) (a:Ae) (g:List Ae) (b:List Int) (d:Int):Option (Lr (List Ae×List Int×Int) (List Ae×List Int×Int)):=
 bif decide ((a.kind)=1)then(Ac (Mp (⟨g,b,d⟩:Cw) (a.n)) λe=>Aa (Lr.go (e.list,e.put,e.drop)))else(bif decide ((a.kind)=2)then(Ac (Tm (⟨g,b,d⟩:Cw) (a.Bd)) λc=>Aa (Lr.go (c.list,c.put,c.drop)))else(Ac (Tl (⟨g,b,d⟩:Cw) (a.n)) λf=>Aa (Lr.go (f.list,f.put,f.drop))))
def Arz (o:List Ae) (b:Nat) (a:List Ae×List Int×Int):Option (Lr (List Ae×List Int×Int) (List Ae×List Int×Int)):=Bkt o b (el o b) a.1 a.2.1 a.2.2
def Aa5 (o:List Ae):Option (List Ae):=
 Ac (J5 o) λc=>bif !c then(Aa [])else(Ac (A2 (Arz o) (λb=>(b.1,b.2.1,b.2.2)) o.length 0 ([],[],0)) λa=>Ac (Tj (⟨a.1,a.2.1,a.2.2⟩:Cw)) λd=>Aa d)
def Auy:E Af:=en 288 [Eu] [Iz] (Bp Aa5) func288 [Ue,A9t,A9v,A9x,A9y] [Fb 0 13 12 [.box 3 0 [.row (.b 4),.row (.b 0),.sc 0]]]
def A4m (b:List Int) (a:List Int) (c:Nat) (d:Int):Option (Lr Unit (Sum Unit Unit)):=
 xg (0<=(c:Int)/\(c:Int)<(b.length:Int))<|bif !decide (d=(el b c))then(Aa (Lr.out (Bj (()))))else(Aa (Lr.go ()))
def A4n (b:List Int) (a:List Int) (c:Nat) (d:Unit):Option (Lr Unit (Sum Unit Unit)):=A4m b a c (el a c)
def Vn (a:List Int) (b:List Int):Option Bool:=
 bif !decide ((a.length:Int)=(b.length:Int))then(Aa false)else(Ac (A2 (A4n b a) (λf=>(.inl ())) a.length 0 ()) λc=>B2 (λd=>Aa true) (λe=>Aa false) c)
def Bpc (b:List Int) (a:List Int) (c:Nat) (d:Int):Option (Lr Unit (Sum Unit Bool)):=
 xg (0<=(c:Int)/\(c:Int)<(b.length:Int))<|bif !decide (d=(el b c))then(Aa (Lr.out (Bj false)))else(Aa (Lr.go ()))
def Bpd (b:List Int) (a:List Int) (c:Nat) (d:Unit):Option (Lr Unit (Sum Unit Bool)):=Bpc b a c (el a c)
def Bpb (a:List Int) (b:List Int):Option Bool:=
 bif !decide ((a.length:Int)=(b.length:Int))then(Aa false)else(Ac (A2 (Bpd b a) (λf=>(.inl ())) a.length 0 ()) λc=>B2 (λe=>Aa true) (λd=>Aa d) c)
def A9m:E Af:=en 247 [Ii,Ii] [Bz] (Bw Vn) func247 [] [Df 0 13 12 []] (hx:=λa=>Eq.trans (b:=Bpb a.1 a.2.1) (by kernel_rfl) (show _=Vn a.1 a.2.1 by simp only[A4m,A4n,Vn,Bpc,Bpd,Bpb,Dv,D8,D3,D5,D2,D4,cond_true,cond_false,D9,Ea,D6,D7]<;>rfl))
def A4f (b:List Ae) (a:List Ae) (c:Nat) (d:Ae):Option (Lr Unit (Sum Unit Unit)):=
 xg (0<=(c:Int)/\(c:Int)<(b.length:Int))<|Ac (bif !decide ((d.kind)=((el b c).kind))then(Aa true)else(xg (0<=(c:Int)/\(c:Int)<(b.length:Int))<|some (!decide ((d.n)=((el b c).n))))) λe=>Ac (bif e then(Aa true)else(xg (0<=(c:Int)/\(c:Int)<(b.length:Int))<|Ac (Vn (d.Bd) ((el b c).Bd)) λg=>Aa (!g))) λf=>bif f then(Aa (Lr.out (Bj (()))))else(Aa (Lr.go ()))
def A4g (b:List Ae) (a:List Ae) (c:Nat) (d:Unit):Option (Lr Unit (Sum Unit Unit)):=A4f b a c (el a c)
def Aa6 (a:List Ae) (b:List Ae):Option Bool:=
 bif !decide ((a.length:Int)=(b.length:Int))then(Aa false)else(Ac (A2 (A4g b a) (λd=>(.inl ())) a.length 0 ()) λc=>B2 (λf=>Aa true) (λe=>Aa false) c)
def Bo0 (b:List Ae) (a:List Ae) (c:Nat) (d:Ae):Option (Lr Unit (Sum Unit Bool)):=
 xg (0<=(c:Int)/\(c:Int)<(b.length:Int))<|Ac (bif !decide ((d.kind)=((el b c).kind))then(Aa true)else(xg (0<=(c:Int)/\(c:Int)<(b.length:Int))<|some (!decide ((d.n)=((el b c).n))))) λg=>Ac (bif g then(Aa true)else(xg (0<=(c:Int)/\(c:Int)<(b.length:Int))<|Ac (Vn (d.Bd) ((el b c).Bd)) λe=>Aa (!e))) λf=>bif f then(Aa (Lr.out (Bj false)))else(Aa (Lr.go ()))
def Bo1 (b:List Ae) (a:List Ae) (c:Nat) (d:Unit):Option (Lr Unit (Sum Unit Bool)):=Bo0 b a c (el a c)
def Boz (a:List Ae) (b:List Ae):Option Bool:=
 bif !decide ((a.length:Int)=(b.length:Int))then(Aa false)else(Ac (A2 (Bo1 b a) (λe=>(.inl ())) a.length 0 ()) λc=>B2 (λf=>Aa true) (λd=>Aa d) c)
def A9g:E Af:=en 287 [Eu,Eu] [Bz] (Bw Aa6) func287 [A9m] [Df 0 14 13 []] (hx:=λa=>Eq.trans (b:=Boz a.1 a.2.1) (by kernel_rfl) (show _=Aa6 a.1 a.2.1 by simp only[A4f,A4g,Aa6,Bo0,Bo1,Boz,Dv,D8,D3,D5,D2,D4,cond_true,cond_false,D9,Ea,D6,D7]<;>rfl))
def Ajp (o:List Ae):Option Bool:=
 Ac (J5 o) λb=>Ac (bif b then(Ac (Aa5 o) λc=>Ac (Aa6 c o) λd=>Aa d)else(Aa false)) λa=>Aa a
def A9e:E Af:=en 246 [Eu] [Bz] (Bp Ajp) func246 [Auy,Ue,A9g]
def X4 (e:A8):Option Bool:=
 Ac (Dq e.Al 1 8) λa=>Ac (bif a then(Ac (Dq e.seq 1 1000000000) λc=>Aa c)else(Aa false)) λd=>Ac (bif d then(Ac (Ajp e.o) λf=>Aa f)else(Aa false)) λb=>Aa b
def Auv:E Af:=en 191 [Uv] [Bz] (Bp X4) func191 [A9e,Jl]
def Gy (d:Ao):Option Int:=
 xg (Aq (d.from_+(d.list.length:Int)))<|some (d.from_+(d.list.length:Int))
def Nq:E Af:=en 114 [Hy] [C4] (Bp Gy) func114
def A30 (d:Ao) (i:Nat) (b:A8) (h:List Int):Option (Lr (List Int) (Sum Unit Unit)):=
 Ac (O6 (b.o) h) λa=>Ac (bif !a.2 then(Aa true)else(Ac (X4 b) λf=>Aa (!f))) λg=>Ac (bif g then(Aa true)else(Ac (Vq a.1) λe=>Aa (!e))) λc=>bif c then(Aa (Lr.out (Bj (()))))else(Aa (Lr.go a.1))
def Arx (d:Ao) (a:Nat) (b:List Int):Option (Lr (List Int) (Sum Unit Unit)):=A30 d a (el d.list a) b
def A31 (d:Ao) (a:Nat) (b:Cm):Option (Lr Unit (Sum Unit Bool)):=
 Ac (Dq (b.Al) 1 8) λj=>Ac (bif !j then(Aa true)else(Ac (Dq (b.seq) 1 1000000000) λi=>Aa (!i))) λk=>Ac (bif k then(Aa true)else(Ac (Gy d) λg=>Ac (Dq (b.rev) 1 g) λh=>Aa (!h))) λc=>Ac (bif c then(Aa true)else(Ac (bif decide ((0:Int)<(a:Int))then(xg (Aq ((a:Int)-1))<|xg (0<=((a:Int)-1)/\((a:Int)-1)<(d.seen.length:Int))<|some (decide ((b.Al)<=((el d.seen (((a:Int)-1).toNat)).Al))))else(Aa false)) λf=>Aa f)) λe=>bif e then(Aa (Lr.out (Bj (false))))else(Aa (Lr.go ()))
def Ajk (d:Ao) (a:Nat) (b:Unit):Option (Lr Unit (Sum Unit Bool)):=A31 d a (el d.seen a)
def O7 (d:Ao):Option Bool:=
 Ac (X5 d.name) λf=>Ac (bif !f then(Aa true)else(Ac (Dq d.from_ 0 999999000) λg=>Aa (!g))) λb=>Ac (bif b then(Aa true)else(Ac (Vq d.text) λh=>Aa (!h))) λj=>Ac (bif j then(Aa true)else(Aa (decide ((8:Int)<(d.list.length:Int))))) λi=>bif i then(Aa false)else(Ac (A2 (Arx d) (λo=>(.inl ())) d.list.length 0 d.text) λa=>B2 (λn=>Ac (A2 (Ajk d) (λl=>(.inl ())) d.seen.length 0 ()) λc=>B2 (λm=>Aa true) (λe=>Aa e) c) (λk=>Aa false) a)
def Boe (d:Ao) (i:Nat) (b:A8) (f:List Int):Option (Lr (List Int) (Sum (List Int) Bool)):=
 Ac (O6 (b.o) f) λa=>Ac (bif !a.2 then(Aa true)else(Ac (X4 b) λc=>Aa (!c))) λh=>Ac (bif h then(Aa true)else(Ac (Vq a.1) λe=>Aa (!e))) λg=>bif g then(Aa (Lr.out (Bj false)))else(Aa (Lr.go a.1))
def Bog (d:Ao) (a:Nat) (b:List Int):Option (Lr (List Int) (Sum (List Int) Bool)):=Boe d a (el d.list a) b
def Bof (d:Ao) (a:Nat) (b:Cm):Option (Lr Unit (Sum Unit Bool)):=
 Ac (Dq (b.Al) 1 8) λj=>Ac (bif !j then(Aa true)else(Ac (Dq (b.seq) 1 1000000000) λi=>Aa (!i))) λc=>Ac (bif c then(Aa true)else(Ac (Gy d) λk=>Ac (Dq (b.rev) 1 k) λg=>Aa (!g))) λh=>Ac (bif h then(Aa true)else(Ac (bif decide ((0:Int)<(a:Int))then(xg (Aq ((a:Int)-1))<|xg (0<=((a:Int)-1)/\((a:Int)-1)<(d.seen.length:Int))<|some (decide ((b.Al)<=((el d.seen (((a:Int)-1).toNat)).Al))))else(Aa false)) λe=>Aa e)) λf=>bif f then(Aa (Lr.out (Bj false)))else(Aa (Lr.go ()))
def Boh (d:Ao) (a:Nat) (b:Unit):Option (Lr Unit (Sum Unit Bool)):=Bof d a (el d.seen a)
def Bod (d:Ao):Option Bool:=
 Ac (X5 d.name) λf=>Ac (bif !f then(Aa true)else(Ac (Dq d.from_ 0 999999000) λb=>Aa (!b))) λa=>Ac (bif a then(Aa true)else(Ac (Vq d.text) λj=>Aa (!j))) λe=>Ac (bif e then(Aa true)else(Aa (decide ((8:Int)<(d.list.length:Int))))) λk=>bif k then(Aa false)else(Ac (A2 (Bog d) (λg=>(.inl g)) d.list.length 0 d.text) λh=>B2 (λo=>Ac (A2 (Boh d) (λn=>(.inl ())) d.seen.length 0 ()) λc=>B2 (λm=>Aa true) (λi=>Aa i) c) (λl=>Aa l) h)
def Y1:E Af:=en 116 [Hy] [Bz] (Bp O7) func116 [Alu,Auv,Nq,A9f,Au4,Jl] [Df 0 37 36 [.slot 3 (.ro (.b 0))],Df 2 65 64 []] (hx:=λa=>Eq.trans (b:=Bod a.1) (by kernel_rfl) (show _=O7 a.1 by simp only[A30,Arx,A31,Ajk,O7,Boe,Bog,Bof,Boh,Bod,Dv,D8,D3,D5,D2,D4,cond_true,cond_false,D9,Ea,D6,D7]<;>rfl))
def Aed (a:Cea) (t:List Int):Option (Ao×Bool):=
 xg (0+t.length<=1099511627776)<|Ac (O7 (⟨a,0,[]++t,[],[]⟩:Ao)) λb=>bif !b then(Aa ((⟨Cb,0,[],[],[]⟩:Ao),false))else(Aa ((⟨a,0,[]++t,[],[]⟩:Ao),true))
def Bvk:E Af:=en 109 [E9,Ii] [Adg,Bz] (Bw Aed) func109 [Y1]
def A32 (b:Cea) (h:Aw) (a:Nat) (c:Ao):Option (Lr Unit (Sum Unit Int)):=
 bif decide (c.name=b)then(Aa (Lr.out (Bj ((a:Int)))))else(Aa (Lr.go ()))
def A33 (b:Cea) (h:Aw) (a:Nat) (c:Unit):Option (Lr Unit (Sum Unit Int)):=A32 b h a (el h.Am a)
def Lz (h:Aw) (a:Cea):Option Int:=
 Ac (A2 (A33 a h) (λd=>(.inl ())) h.Am.length 0 ()) λc=>B2 (λe=>Aa (-1)) (λb=>Aa b) c
def Bom (b:Cea) (h:Aw) (a:Nat) (c:Ao):Option (Lr Unit (Sum Unit Int)):=
 bif decide (c.name=b)then(Aa (Lr.out (Bj (a:Int))))else(Aa (Lr.go ()))
def Bon (b:Cea) (h:Aw) (a:Nat) (c:Unit):Option (Lr Unit (Sum Unit Int)):=Bom b h a (el h.Am a)
def Bol (h:Aw) (a:Cea):Option Int:=
 Ac (A2 (Bon a h) (λd=>(.inl ())) h.Am.length 0 ()) λc=>B2 (λe=>Aa (-1)) (λb=>Aa b) c
def Uc:E Af:=en 60 [Gq,E9] [C4] (Bw Lz) func60 [] [Df 0 10 9 []] (hx:=λa=>Eq.trans (b:=Bol a.1 a.2.1) (by kernel_rfl) (show _=Lz a.1 a.2.1 by simp only[A32,A33,Lz,Bom,Bon,Bol,Dv,D8,D3,D5,D2,D4,cond_true,cond_false,D9,Ea,D6,D7]<;>rfl))
def A4i (d:Db) (c:Nat) (b:A8):Option (Lr Unit (Sum Unit Unit)):=
 Ac (X4 b) λa=>bif !a then(Aa (Lr.out (Bj (()))))else(Aa (Lr.go ()))
def A4j (b:Db) (a:Nat) (c:Unit):Option (Lr Unit (Sum Unit Unit)):=A4i b a (el b.list a)
def Rm (a:Db):Option Bool:=
 Ac (A2 (A4j a) (λi=>(.inl ())) a.list.length 0 ()) λe=>B2 (λj=>Ac (Dq a.cap 1 6) λb=>Ac (bif b then(Ac (Dq a.next 1 1000000000) λg=>Aa g)else(Aa false)) λc=>Ac (bif c then(Aa (decide ((a.list.length:Int)<=a.cap)))else(Aa false)) λd=>Ac (bif d then(Ac (bif !a.out then(Aa true)else(Aa (decide ((a.list.length:Int)=0)))) λh=>Aa h)else(Aa false)) λf=>Aa f) (λk=>Aa false) e
def Bo3 (d:Db) (c:Nat) (b:A8):Option (Lr Unit (Sum Unit Bool)):=
 Ac (X4 b) λa=>bif !a then(Aa (Lr.out (Bj false)))else(Aa (Lr.go ()))
def Bo4 (b:Db) (a:Nat) (c:Unit):Option (Lr Unit (Sum Unit Bool)):=Bo3 b a (el b.list a)
def Bo2 (a:Db):Option Bool:=
 Ac (A2 (Bo4 a) (λk=>(.inl ())) a.list.length 0 ()) λd=>B2 (λj=>Ac (Dq a.cap 1 6) λf=>Ac (bif f then(Ac (Dq a.next 1 1000000000) λi=>Aa i)else(Aa false)) λh=>Ac (bif h then(Aa (decide ((a.list.length:Int)<=a.cap)))else(Aa false)) λg=>Ac (bif g then(Ac (bif !a.out then(Aa true)else(Aa (decide ((a.list.length:Int)=0)))) λe=>Aa e)else(Aa false)) λc=>Aa c) (λb=>Aa b) d
def Af2:E Af:=en 117 [Pw] [Bz] (Bp Rm) func117 [Auv,Jl] [Df 0 8 7 []] (hx:=λa=>Eq.trans (b:=Bo2 a.1) (by kernel_rfl) (show _=Rm a.1 by simp only[A4i,A4j,Rm,Bo3,Bo4,Bo2,Dv,D8,D3,D5,D2,D4,cond_true,cond_false,D9,Ea,D6,D7]<;>rfl))
def A34 (h:Aw) (a:Nat) (b:Ao):Option (Lr Unit (Sum Unit Unit)):=
 Ac (O7 b) λe=>Ac (bif !e then(Aa true)else(Ac (bif decide ((0:Int)<(a:Int))then(xg (Aq ((a:Int)-1))<|xg (0<=((a:Int)-1)/\((a:Int)-1)<(h.Am.length:Int))<|some (!Cv ((el h.Am (((a:Int)-1).toNat)).name) (b.name)))else(Aa false)) λc=>Aa c)) λd=>bif d then(Aa (Lr.out (Bj (()))))else(Aa (Lr.go ()))
def A36 (h:Aw) (a:Nat) (b:Unit):Option (Lr Unit (Sum Unit Unit)):=A34 h a (el h.Am a)
def A35 (h:Aw) (b:Nat) (a:A0):Option (Lr Unit (Sum Unit Bool)):=
 Ac (Lz h (a.Ah)) λc=>Ac (Dq (a.id) 1 h.last) λi=>Ac (bif !i then(Aa true)else(Ac (Rm (a.r)) λe=>Aa (!e))) λj=>Ac (bif j then(Aa true)else(Aa (decide (c<0)))) λf=>Ac (bif f then(Aa true)else(Ac (bif decide ((0:Int)<(b:Int))then(xg (Aq ((b:Int)-1))<|xg (0<=((b:Int)-1)/\((b:Int)-1)<(h.Ax.length:Int))<|some (decide ((a.id)<=((el h.Ax (((b:Int)-1).toNat)).id))))else(Aa false)) λg=>Aa g)) λl=>bif l then(Aa (Lr.out (Bj (false))))else(Ac (bif !(a.r.out)then(xg (Aq ((a.r.next)+((a.r.list).length:Int)))<|xg (0<=c/\c<(h.Am.length:Int))<|Ac (Gy (el h.Am c.toNat)) λd=>xg (Aq (d+1))<|some (!decide (((a.r.next)+((a.r.list).length:Int))=(d+1))))else(Aa false)) λk=>bif k then(Aa (Lr.out (Bj (false))))else(Aa (Lr.go ())))
def A37 (h:Aw) (a:Nat) (b:Unit):Option (Lr Unit (Sum Unit Bool)):=A35 h a (el h.Ax a)
def Mm (h:Aw):Option Bool:=
 Ac (bif decide ((5:Int)<(h.Am.length:Int))then(Aa true)else(Aa (decide ((6:Int)<(h.Ax.length:Int))))) λe=>Ac (bif e then(Aa true)else(Ac (Dq h.last 0 1000000000) λd=>Aa (!d))) λf=>bif f then(Aa false)else(Ac (A2 (A36 h) (λl=>(.inl ())) h.Am.length 0 ()) λa=>B2 (λk=>Ac (A2 (A37 h) (λg=>(.inl ())) h.Ax.length 0 ()) λc=>B2 (λj=>Aa true) (λb=>Aa b) c) (λi=>Aa false) a)
def Bop (h:Aw) (a:Nat) (b:Ao):Option (Lr Unit (Sum Unit Bool)):=
 Ac (O7 b) λe=>Ac (bif !e then(Aa true)else(Ac (bif decide ((0:Int)<(a:Int))then(xg (Aq ((a:Int)-1))<|xg (0<=((a:Int)-1)/\((a:Int)-1)<(h.Am.length:Int))<|some (!Cv ((el h.Am (((a:Int)-1).toNat)).name) (b.name)))else(Aa false)) λc=>Aa c)) λd=>bif d then(Aa (Lr.out (Bj false)))else(Aa (Lr.go ()))
def Bor (h:Aw) (a:Nat) (b:Unit):Option (Lr Unit (Sum Unit Bool)):=Bop h a (el h.Am a)
def Boq (h:Aw) (b:Nat) (a:A0):Option (Lr Unit (Sum Unit Bool)):=
 Ac (Lz h (a.Ah)) λc=>Ac (Dq (a.id) 1 h.last) λe=>Ac (bif !e then(Aa true)else(Ac (Rm (a.r)) λf=>Aa (!f))) λk=>Ac (bif k then(Aa true)else(Aa (decide (c<0)))) λg=>Ac (bif g then(Aa true)else(Ac (bif decide ((0:Int)<(b:Int))then(xg (Aq ((b:Int)-1))<|xg (0<=((b:Int)-1)/\((b:Int)-1)<(h.Ax.length:Int))<|some (decide ((a.id)<=((el h.Ax (((b:Int)-1).toNat)).id))))else(Aa false)) λi=>Aa i)) λl=>bif l then(Aa (Lr.out (Bj false)))else(Ac (bif !(a.r.out)then(xg (Aq ((a.r.next)+((a.r.list).length:Int)))<|xg (0<=c/\c<(h.Am.length:Int))<|Ac (Gy (el h.Am c.toNat)) λd=>xg (Aq (d+1))<|some (!decide (((a.r.next)+((a.r.list).length:Int))=(d+1))))else(Aa false)) λj=>bif j then(Aa (Lr.out (Bj false)))else(Aa (Lr.go ())))
def Bos (h:Aw) (a:Nat) (b:Unit):Option (Lr Unit (Sum Unit Bool)):=Boq h a (el h.Ax a)
def Boo (h:Aw):Option Bool:=
 Ac (bif decide ((5:Int)<(h.Am.length:Int))then(Aa true)else(Aa (decide ((6:Int)<(h.Ax.length:Int))))) λe=>Ac (bif e then(Aa true)else(Ac (Dq h.last 0 1000000000) λb=>Aa (!b))) λa=>bif a then(Aa false)else(Ac (A2 (Bor h) (λi=>(.inl ())) h.Am.length 0 ()) λf=>B2 (λk=>Ac (A2 (Bos h) (λj=>(.inl ())) h.Ax.length 0 ()) λc=>B2 (λl=>Aa true) (λg=>Aa g) c) (λd=>Aa d) f)
def Ud:E Af:=en 51 [Gq] [Bz] (Bp Mm) func51 [Y1,Nq,Uc,Af2,Jl] [Df 0 27 26 [],Df 2 55 54 []] (hx:=λa=>Eq.trans (b:=Boo a.1) (by kernel_rfl) (show _=Mm a.1 by simp only[A34,A36,A35,A37,Mm,Bop,Bor,Boq,Bos,Boo,Dv,D8,D3,D5,D2,D4,cond_true,cond_false,D9,Ea,D6,D7]<;>rfl))
def Bk6 (o:List Ae) (c:Nat) (a:Ae) (b:List Ae):Option (Lr (List Ae) (List Ae)):=
 xg (0+(a.Bd).length<=1099511627776)<|xg (b.length+[(⟨a.kind,a.n,[]++(a.Bd)⟩:Ae)].length<=1099511627776)<|some (Lr.go (b++[(⟨a.kind,a.n,[]++(a.Bd)⟩:Ae)]))
def Bk7 (o:List Ae) (a:Nat) (b:List Ae):Option (Lr (List Ae) (List Ae)):=Bk6 o a (el o a) b
def Aen (o:List Ae):Option (List Ae):=
 Ac (A2 (Bk7 o) (λb=>b) o.length 0 []) λa=>Aa a
def Au6:E Af:=en 129 [Eu] [Iz] (Bp Aen) func129 [] [Fb 0 9 8 [Ev 3 4]]
def Aj8 (e:A8):Option A8:=
 Ac (Aen e.o) λa=>Aa (⟨e.Al,e.seq,a⟩:A8)
def A92:E Af:=en 244 [Uv] [⟨true,.b 5,false⟩] (Bp Aj8) func244 [Au6]
def Bk9 (l:List A8) (d:Nat) (b:A8) (a:List A8):Option (Lr (List A8) (List A8)):=
 Ac (Aj8 b) λc=>xg (a.length<1099511627776)<|some (Lr.go (a++[c]))
def Bla (l:List A8) (a:Nat) (b:List A8):Option (Lr (List A8) (List A8)):=Bk9 l a (el l a) b
def Ro (l:List A8):Option (List A8):=
 Ac (A2 (Bla l) (λb=>b) l.length 0 []) λa=>Aa a
def Af3:E Af:=en 192 [Ag1] [Xh] (Bp Ro) func192 [A92] [Fb 0 9 8 [Ev 3 5]]
def Vt (d:Ao):Option Ao:=
 xg (0+d.text.length<=1099511627776)<|Ac (Ro d.list) λa=>xg (0+d.seen.length<=1099511627776)<|some (⟨d.name,d.from_,[]++d.text,a,[]++d.seen⟩:Ao)
def A91:E Af:=en 118 [Hy] [Adg] (Bp Vt) func118 [Af3]
def Yb (a:Db):Option Db:=
 Ac (Ro a.list) λb=>Aa (⟨a.cap,a.next,a.out,b⟩:Db)
def Au9:E Af:=en 193 [Pw] [Sp] (Bp Yb) func193 [Af3]
def Aj9 (s:A0):Option A0:=
 Ac (Yb s.r) λa=>Aa (⟨s.id,s.Ah,a⟩:A0)
def Bwi:E Af:=en 119 [Aoc] [⟨true,.b 9,false⟩] (Bp Aj9) func119 [Au9]
def Ase (h:Aw) (f:Nat) (c:Ao) (d:Bool) (a:List Ao) (e:Int):Option (Lr (Bool×List Ao×Int) (Bool×List Ao×Int)):=
 Ac (Vt c) λb=>xg (a.length+[b].length<=1099511627776)<|some (Lr.go (d,a++[b],e))
def Aeq (h:Aw) (b:Nat) (a:Bool×List Ao×Int):Option (Lr (Bool×List Ao×Int) (Bool×List Ao×Int)):=Ase h b (el h.Am b) a.1 a.2.1 a.2.2
def Asf (h:Aw) (g:Nat) (c:A0) (e:Bool) (d:List Ao) (a:List A0) (f:Int):Option (Lr (Bool×List Ao×List A0×Int) (Bool×List Ao×List A0×Int)):=
 Ac (Aj9 c) λb=>xg (a.length+[b].length<=1099511627776)<|some (Lr.go (e,d,a++[b],f))
def Aer (h:Aw) (b:Nat) (a:Bool×List Ao×List A0×Int):Option (Lr (Bool×List Ao×List A0×Int) (Bool×List Ao×List A0×Int)):=Asf h b (el h.Ax b) a.1 a.2.1 a.2.2.1 a.2.2.2
def Hk (h:Aw):Option Aw:=
 Ac (A2 (Aeq h) (λd=>(d.1,d.2.1,d.2.2)) h.Am.length 0 (h.shut,[],h.last)) λc=>Ac (A2 (Aer h) (λb=>(b.1,b.2.1,b.2.2.1,b.2.2.2)) h.Ax.length 0 (c.1,c.2.1,[],c.2.2)) λa=>Aa (⟨a.1,a.2.1,a.2.2.1,a.2.2.2⟩:Aw)
def Bp2 (h:Aw) (f:Nat) (d:Ao) (c:Bool) (b:List Ao) (e:Int):Option (Lr (Bool×List Ao×Int) (Bool×List Ao×Int)):=
 Ac (Vt d) λa=>xg (b.length+[a].length<=1099511627776)<|some (Lr.go (c,b++[a],e))
def Bp4 (h:Aw) (b:Nat) (a:Bool×List Ao×Int):Option (Lr (Bool×List Ao×Int) (Bool×List Ao×Int)):=Bp2 h b (el h.Am b) a.1 a.2.1 a.2.2
def Bp3 (h:Aw) (g:Nat) (c:A0) (e:Bool) (f:List Ao) (a:List A0) (d:Int):Option (Lr (Bool×List Ao×List A0×Int) (Bool×List Ao×List A0×Int)):=
 Ac (Aj9 c) λb=>xg (a.length+[b].length<=1099511627776)<|some (Lr.go (e,f,a++[b],d))
def Bp5 (h:Aw) (b:Nat) (a:Bool×List Ao×List A0×Int):Option (Lr (Bool×List Ao×List A0×Int) (Bool×List Ao×List A0×Int)):=Bp3 h b (el h.Ax b) a.1 a.2.1 a.2.2.1 a.2.2.2
def Bp1 (h:Aw):Option Aw:=
 Ac (A2 (Bp4 h) (λd=>(d.1,d.2.1,d.2.2)) h.Am.length 0 (h.shut,[],h.last)) λc=>Ac (A2 (Bp5 h) (λa=>(a.1,a.2.1,a.2.2.1,a.2.2.2)) h.Ax.length 0 (c.1,c.2.1,[],c.2.2)) λb=>Aa (⟨b.1,b.2.1,b.2.2.1,b.2.2.2⟩:Aw)
def Uf:E Af:=en 53 [Gq] [Ls] (Bp Hk) func53 [A91,Bwi] [Fb 0 16 15 [.box 3 0 [.sc 1,.row (.b 7),.nl,.sc 0]],Fb 2 31 30 [.box 3 0 [.sc 1,.row (.b 7),.row (.b 9),.sc 0]]] (hx:=λa=>Eq.trans (b:=Bp1 a.1) (by kernel_rfl) (show _=Hk a.1 by simp only[Ase,Aeq,Asf,Aer,Hk,Bp2,Bp4,Bp3,Bp5,Bp1,Dv,D8,D3,D5,D2,D4,cond_true,cond_false,D9,Ea,D6,D7]<;>rfl))
def Bkm (b:Aw) (d:Cea) (a:Int):Option (Lr Int Int):=
 Ac (bif decide (a<(b.Am.length:Int))then(xg (0<=a/\a<(b.Am.length:Int))<|some (Cv ((el b.Am a.toNat).name) d))else(Aa false)) λc=>bif c then(xg (Aq (a+1))<|some (Lr.go (a+1)))else(Aa (Lr.out a))
def Bkn (c:Aw) (b:Cea) (a:Int):Option (Lr Int Int):=Bkm c b a
def Td (h:Aw) (c:Cea) (t:List Int):Option (Aw×Int):=
 Ac (Aed c t) λd=>Ac (Mm h) λf=>Ac (bif !f then(Aa true)else(Aa (!d.2))) λg=>bif g then(Aa ((⟨false,[],[],0⟩:Aw),1))else(bif h.shut then(Aa ((⟨false,[],[],0⟩:Aw),12))else(Ac (Lz h c) λe=>bif decide ((0:Int)<=e)then(Aa ((⟨false,[],[],0⟩:Aw),7))else(bif decide ((h.Am.length:Int)=5)then(Aa ((⟨false,[],[],0⟩:Aw),10))else(Ac (Hk h) λa=>Ac (Cp (Bkn a c) 0) λb=>xg (0<=b/\b<=(a.Am.length:Int))<|xg (0+b.toNat<=1099511627776)<|xg (([]++a.Am.take b.toNat).length<1099511627776)<|xg ((b.toNat:Int)<=b/\b<=(a.Am.length:Int))<|xg ((([]++a.Am.take b.toNat)++[d.1]).length+((a.Am.take a.Am.length).drop b.toNat).length<=1099511627776)<|some ((⟨a.shut,(([]++a.Am.take b.toNat)++[d.1])++((a.Am.take a.Am.length).drop b.toNat),a.Ax,a.last⟩:Aw),0)))))
def Aux:E Af:=en 47 [Gq,E9,Ii] [Ls,C4] (Jt Td) func47 [Bvk,Uc,Ud,Uf] [E0 1 [Dw 11]] (mv:=true)
def Vr (c:B3) (l:List Cea):Option (Cea×B3):=
 Ac (Ch c (l.length:Int)) λa=>xg (0<=a.1/\a.1<(l.length:Int))<|some (el l a.1.toNat,a.2)
def A9s:E Af:=en 130 [Ka,Ac7] [Hr] (Bw Vr) func130 [L8]
def Rp (c:B3):Option (Cea×B3):=
 Ac (Vr c [(⟨#[97]⟩:Cea),(⟨#[98]⟩:Cea),(⟨#[110,111,116,101,115]⟩:Cea),(⟨#[116,111,100,111]⟩:Cea)]) λa=>Aa (a.1,a.2)
def Au8:E Af:=en 59 [Ka] [Hr] (Bp Rp) func59 [A9s]
def Aju (b:Int) (a:Int):Option (Db×Bool):=
 bif decide ((1000000000:Int)<a)then(Aa ((⟨0,0,false,[]⟩:Db),false))else(xg (Aq (a+1))<|Ac (Rm (⟨b,a+1,false,[]⟩:Db)) λc=>bif !c then(Aa ((⟨0,0,false,[]⟩:Db),false))else(Aa ((⟨b,a+1,false,[]⟩:Db),true)))
def A9j:E Af:=en 182 [B8,B8] [Sp,Bz] (Bw Aju) func182 [Af2]
def Aeh (h:Aw) (c:Cea) (d:Int):Option (Aw×Int×Int):=
 Ac (Lz h c) λb=>Ac (Mm h) λf=>Ac (bif !f then(Aa true)else(Ac (Dq d 1 6) λj=>Aa (!j))) λi=>bif i then(Aa ((⟨false,[],[],0⟩:Aw),0,1))else(bif h.shut then(Aa ((⟨false,[],[],0⟩:Aw),0,12))else(bif decide (b<0)then(Aa ((⟨false,[],[],0⟩:Aw),0,6))else(Ac (bif decide ((h.Ax.length:Int)=6)then(Aa true)else(Aa (decide (h.last=1000000000)))) λe=>bif e then(Aa ((⟨false,[],[],0⟩:Aw),0,10))else(xg (0<=b/\b<(h.Am.length:Int))<|Ac (Gy (el h.Am b.toNat)) λg=>Ac (Aju d g) λk=>Ac (Hk h) λa=>xg (Aq (h.last+1))<|xg (a.Ax.length<1099511627776)<|some ((⟨a.shut,a.Am,a.Ax++[(⟨h.last+1,c,k.1⟩:A0)],h.last+1⟩:Aw),h.last+1,0)))))
def A9d:E Af:=en 111 [Gq,E9,B8] [Ls,C4,C4] (Jt Aeh) func111 [Nq,Uc,Ud,A9j,Jl,Uf]
def A38 (c:Int) (h:Aw) (a:Nat) (b:A0):Option (Lr Unit (Sum Unit Int)):=
 bif decide ((b.id)=c)then(Aa (Lr.out (Bj ((a:Int)))))else(Aa (Lr.go ()))
def A39 (b:Int) (h:Aw) (a:Nat) (c:Unit):Option (Lr Unit (Sum Unit Int)):=A38 b h a (el h.Ax a)
def Aa4 (h:Aw) (a:Int):Option Int:=
 Ac (A2 (A39 a h) (λe=>(.inl ())) h.Ax.length 0 ()) λb=>B2 (λd=>Aa (-1)) (λc=>Aa c) b
def Bou (c:Int) (h:Aw) (b:Nat) (a:A0):Option (Lr Unit (Sum Unit Int)):=
 bif decide ((a.id)=c)then(Aa (Lr.out (Bj (b:Int))))else(Aa (Lr.go ()))
def Bov (b:Int) (h:Aw) (a:Nat) (c:Unit):Option (Lr Unit (Sum Unit Int)):=Bou b h a (el h.Ax a)
def Bot (h:Aw) (b:Int):Option Int:=
 Ac (A2 (Bov b h) (λe=>(.inl ())) h.Ax.length 0 ()) λc=>B2 (λd=>Aa (-1)) (λa=>Aa a) c
def A9b:E Af:=en 183 [Gq,B8] [C4] (Bw Aa4) func183 [] [Df 0 10 9 []] (hx:=λa=>Eq.trans (b:=Bot a.1 a.2.1) (by kernel_rfl) (show _=Aa4 a.1 a.2.1 by simp only[A38,A39,Aa4,Bou,Bov,Bot,Dv,D8,D3,D5,D2,D4,cond_true,cond_false,D9,Ea,D6,D7]<;>rfl))
def Ar4 (a:Db) (n:Int):Option (Db×List A8×Int):=
 Ac (Yb a) λb=>Ac (Rm a) λc=>Ac (bif !c then(Aa true)else(Aa (decide (n<1)))) λg=>bif g then(Aa (b,[],1))else(bif a.out then(Aa (b,[],9))else(bif decide ((a.list.length:Int)<n)then(xg (0<=(a.list.length:Int)/\(a.list.length:Int)<=(a.list.length:Int))<|Ac (Ro ((a.list.take a.list.length).drop ((a.list.length:Int).toNat))) λe=>xg (Aq (a.next+(a.list.length:Int)))<|xg (0<=(a.list.length:Int)/\(a.list.length:Int)<=(a.list.length:Int))<|Ac (Ro ((a.list.take ((a.list.length:Int).toNat)).drop 0)) λf=>Aa ((⟨b.cap,a.next+(a.list.length:Int),b.out,e⟩:Db),f,0))else(xg (0<=n/\n<=(a.list.length:Int))<|Ac (Ro ((a.list.take a.list.length).drop n.toNat)) λh=>xg (Aq (a.next+n))<|xg (0<=n/\n<=(a.list.length:Int))<|Ac (Ro ((a.list.take n.toNat).drop 0)) λd=>Aa ((⟨b.cap,a.next+n,b.out,h⟩:Db),d,0))))
def Bvx:E Af:=en 184 [Pw,B8] [Sp,Xh,C4] (Bw Ar4) func184 [Af2,Af3,Au9]
def Aef (h:Aw) (d:Int) (n:Int):Option (Aw×List A8×Int):=
 Ac (Aa4 h d) λa=>Ac (Mm h) λf=>Ac (bif !f then(Aa true)else(Aa (decide (n<1)))) λe=>bif e then(Aa ((⟨false,[],[],0⟩:Aw),[],1))else(bif decide (a<0)then(Aa ((⟨false,[],[],0⟩:Aw),[],8))else(xg (0<=a/\a<(h.Ax.length:Int))<|Ac (Ar4 ((el h.Ax a.toNat).r) n) λc=>bif !decide (c.2.2=0)then(Aa ((⟨false,[],[],0⟩:Aw),[],c.2.2))else(Ac (Hk h) λb=>xg (0<=a/\a<(b.Ax.length:Int))<|some ((⟨b.shut,b.Am,b.Ax.set a.toNat (⟨(el b.Ax a.toNat).id,(el b.Ax a.toNat).Ah,c.1⟩:A0),b.last⟩:Aw),c.2.1,0))))
def A89:E Af:=en 112 [Gq,B8,B8] [Ls,Xh,C4] (Jt Aef) func112 [Ud,A9b,Bvx,Uf]
def Ar6 (b:Db) (d:Int):Option (Db×Bool):=
 Ac (Rm b) λc=>bif !c then(Aa ((⟨0,0,false,[]⟩:Db),false))else(Ac (Aju b.cap d) λa=>Aa (a.1,a.2))
def Bvz:E Af:=en 185 [Pw,B8] [Sp,Bz] (Bw Ar6) func185 [A9j,Af2]
def Bkz (d:Ao) (e:Int) (f:Nat) (a:A8) (b:List Int):Option (Lr (List Int) (List Int)):=
 Ac (O6 (a.o) b) λc=>Aa (Lr.go c.1)
def A4p (d:Ao) (a:Int) (b:Nat) (c:List Int):Option (Lr (List Int) (List Int)):=Bkz d a b (el ((d.list.take ((a-d.from_).toNat)).drop 0) b) c
def Vp (d:Ao) (a:Int):Option (List Int×Bool):=
 Ac (O7 d) λc=>Ac (bif !c then(Aa true)else(Ac (Gy d) λb=>Ac (Dq a d.from_ b) λf=>Aa (!f))) λh=>bif h then(Aa ([],false))else(xg (0+d.text.length<=1099511627776)<|xg (Aq (a-d.from_))<|xg (0<=(a-d.from_)/\(a-d.from_)<=(d.list.length:Int))<|Ac (A2 (A4p d a) (λe=>e) ((d.list.take ((a-d.from_).toNat)).drop 0).length 0 ([]++d.text)) λg=>Aa (g,true))
def Au3:E Af:=en 132 [Hy,B8] [M7,Bz] (Bw Vp) func132 [Alu,Y1,Nq,Jl] [Fb 0 33 32 [Ev 6 0]]
def Aee (d:Ao):Option (List Int):=
 Ac (Gy d) λb=>Ac (Vp d b) λa=>Aa a.1
def Auw:E Af:=en 186 [Hy] [M7] (Bp Aee) func186 [Nq,Au3]
def Aeg (h:Aw) (e:Int):Option (Aw×List Int×Int×Int):=
 Ac (Aa4 h e) λa=>Ac (Mm h) λi=>bif !i then(Aa ((⟨false,[],[],0⟩:Aw),[],0,1))else(bif decide (a<0)then(Aa ((⟨false,[],[],0⟩:Aw),[],0,8))else(xg (0<=a/\a<(h.Ax.length:Int))<|Ac (Lz h ((el h.Ax a.toNat).Ah)) λc=>xg (0<=c/\c<(h.Am.length:Int))<|Ac (Hk h) λb=>xg (0<=a/\a<(h.Ax.length:Int))<|Ac (Gy (el h.Am c.toNat)) λg=>Ac (Ar6 ((el h.Ax a.toNat).r) g) λd=>xg (0<=a/\a<(b.Ax.length:Int))<|Ac (Aee (el h.Am c.toNat)) λf=>Ac (Gy (el h.Am c.toNat)) λj=>Aa ((⟨b.shut,b.Am,b.Ax.set a.toNat (⟨(el b.Ax a.toNat).id,(el b.Ax a.toNat).Ah,d.1⟩:A0),b.last⟩:Aw),f,j,0)))
def A9a:E Af:=en 113 [Gq,B8] [Ls,M7,C4,C4] (Bw Aeg) func113 [Nq,Auw,Uc,Ud,A9b,Bvz,Uf]
def Ar7 (b:Int) (d:Ao) (c:Nat) (a:Cm):Option (Lr Unit (Sum Unit (Bool×Int×Int×Int))):=
 bif decide ((a.Al)=b)then(Aa (Lr.out (Bj ((true,a.Al,a.seq,a.rev)))))else(Aa (Lr.go ()))
def Ajv (b:Int) (d:Ao) (a:Nat) (c:Unit):Option (Lr Unit (Sum Unit (Bool×Int×Int×Int))):=Ar7 b d a (el d.seen a)
def Tf (d:Ao) (c:Int):Option (Cm×Bool):=
 Ac (A2 (Ajv c d) (λf=>(.inl ())) d.seen.length 0 ()) λb=>B2 (λe=>Aa ((⟨0,0,0⟩:Cm),false)) (λa=>Aa ((⟨a.2.1,a.2.2.1,a.2.2.2⟩:Cm),a.1)) b
def Bo6 (b:Int) (d:Ao) (c:Nat) (a:Cm):Option (Lr Unit (Sum Unit (Cm×Bool))):=
 bif decide ((a.Al)=b)then(Aa (Lr.out (Bj (a,true))))else(Aa (Lr.go ()))
def Bo7 (b:Int) (d:Ao) (a:Nat) (c:Unit):Option (Lr Unit (Sum Unit (Cm×Bool))):=Bo6 b d a (el d.seen a)
def Bo5 (d:Ao) (a:Int):Option (Cm×Bool):=
 Ac (A2 (Bo7 a d) (λe=>(.inl ())) d.seen.length 0 ()) λc=>B2 (λf=>Aa ((⟨0,0,0⟩:Cm),false)) (λb=>Aa b) c
def Auz:E Af:=en 62 [Hy,B8] [⟨true,.b 6,false⟩,Bz] (Bw Tf) func62 [] [Df 0 11 10 []] (hx:=λa=>Eq.trans (b:=Bo5 a.1 a.2.1) (by kernel_rfl) (show _=Tf a.1 a.2.1 by simp only[Ar7,Ajv,Tf,Bo6,Bo7,Bo5,Dv,D8,D3,D5,D2,D4,cond_true,cond_false,D9,Ea,D6,D7]<;>rfl))
def A4z (a:List Ae) (e:Int) (g:Int) (o:List UInt8) (n:Int) (m:Int):Option (Lr (List Ae×Int×Int×List UInt8×Int×Int) (List Ae×List UInt8×Int×Int)):=
 Ac (bif decide ((0:Int)<e)then(Aa (true,o,n,m))else(Ac (K0 (⟨o,n,m⟩:B3) 3) λl=>Aa (l.1,l.2.b,l.2.i,l.2.h))) λj=>bif j.1 then(Ac (Ch (⟨j.2.1,j.2.2.1,j.2.2.2⟩:B3) 4) λk=>bif decide (k.1=0)then(Ac (Mo k.2 3) λd=>bif decide (g<(d.1.length:Int))then(xg (Aq (g-((0:Nat):Int)))<|xg (a.length<1099511627776)<|bif decide ((40:Int)<((a++[(⟨2,0,[]⟩:Ae)]).length:Int))then(xg ((a++[(⟨2,0,[]⟩:Ae)]).length<1099511627776)<|some (Lr.out ((a++[(⟨2,0,[]⟩:Ae)])++[(⟨1,e,[]⟩:Ae)],d.2.b,d.2.i,d.2.h)))else(Aa (Lr.go (a++[(⟨2,0,[]⟩:Ae)],e,g-((0:Nat):Int),d.2.b,d.2.i,d.2.h))))else(xg (Aq (g-(d.1.length:Int)))<|xg (a.length<1099511627776)<|bif decide ((40:Int)<((a++[(⟨2,0,d.1⟩:Ae)]).length:Int))then(xg ((a++[(⟨2,0,d.1⟩:Ae)]).length<1099511627776)<|some (Lr.out ((a++[(⟨2,0,d.1⟩:Ae)])++[(⟨1,e,[]⟩:Ae)],d.2.b,d.2.i,d.2.h)))else(Aa (Lr.go (a++[(⟨2,0,d.1⟩:Ae)],e,g-(d.1.length:Int),d.2.b,d.2.i,d.2.h)))))else(bif decide (k.1=1)then(xg (Aq (e+1))<|Ac (Ch k.2 (e+1)) λc=>bif decide ((4:Int)<c.1)then(xg (Aq (e-4))<|xg (a.length<1099511627776)<|bif decide ((40:Int)<((a++[(⟨3,4,[]⟩:Ae)]).length:Int))then(xg ((a++[(⟨3,4,[]⟩:Ae)]).length<1099511627776)<|some (Lr.out ((a++[(⟨3,4,[]⟩:Ae)])++[(⟨1,e-4,[]⟩:Ae)],c.2.b,c.2.i,c.2.h)))else(Aa (Lr.go (a++[(⟨3,4,[]⟩:Ae)],e-4,g,c.2.b,c.2.i,c.2.h))))else(xg (Aq (e-c.1))<|xg (a.length<1099511627776)<|bif decide ((40:Int)<((a++[(⟨3,c.1,[]⟩:Ae)]).length:Int))then(xg ((a++[(⟨3,c.1,[]⟩:Ae)]).length<1099511627776)<|some (Lr.out ((a++[(⟨3,c.1,[]⟩:Ae)])++[(⟨1,e-c.1,[]⟩:Ae)],c.2.b,c.2.i,c.2.h)))else(Aa (Lr.go (a++[(⟨3,c.1,[]⟩:Ae)],e-c.1,g,c.2.b,c.2.i,c.2.h)))))else(xg (Aq (e+1))<|Ac (Ch k.2 (e+1)) λf=>xg (Aq (e-f.1))<|xg (a.length<1099511627776)<|bif decide ((40:Int)<((a++[(⟨1,f.1,[]⟩:Ae)]).length:Int))then(xg ((a++[(⟨1,f.1,[]⟩:Ae)]).length<1099511627776)<|some (Lr.out ((a++[(⟨1,f.1,[]⟩:Ae)])++[(⟨1,e-f.1,[]⟩:Ae)],f.2.b,f.2.i,f.2.h)))else(Aa (Lr.go (a++[(⟨1,f.1,[]⟩:Ae)],e-f.1,g,f.2.b,f.2.i,f.2.h))))))else(Aa (Lr.out (a,j.2.1,j.2.2.1,j.2.2.2)))
def Asc (a:List Ae×Int×Int×List UInt8×Int×Int):Option (Lr (List Ae×Int×Int×List UInt8×Int×Int) (List Ae×List UInt8×Int×Int)):=A4z a.1 a.2.1 a.2.2.1 a.2.2.2.1 a.2.2.2.2.1 a.2.2.2.2.2
def Tk (c:B3) (d:Int):Option (List Ae×B3):=
 Ac (Cp (Asc) ([],d,12,c.b,c.i,c.h)) λa=>Aa (a.1,(⟨a.2.1,a.2.2.1,a.2.2.2⟩:B3))
def Bps (a:List Ae) (c:Int) (d:Int) (q:List UInt8) (p:Int) (r:Int):Option (Lr (List Ae×Int×Int×List UInt8×Int×Int) (List Ae×Int×Int×List UInt8×Int×Int)):=
 bif decide ((0:Int)<c)then(Ac (Ch (⟨q,p,r⟩:B3) 4) λo=>bif decide (o.1=0)then(Ac (Mo o.2 3) λe=>bif decide (d<(e.1.length:Int))then(xg (Aq (d-((0:Nat):Int)))<|xg (a.length<1099511627776)<|bif decide ((40:Int)<((a++[(⟨2,0,[]⟩:Ae)]).length:Int))then(xg ((a++[(⟨2,0,[]⟩:Ae)]).length<1099511627776)<|some (Lr.out ((a++[(⟨2,0,[]⟩:Ae)])++[(⟨1,c,[]⟩:Ae)],0,d-((0:Nat):Int),e.2.b,e.2.i,e.2.h)))else(Aa (Lr.go (a++[(⟨2,0,[]⟩:Ae)],c,d-((0:Nat):Int),e.2.b,e.2.i,e.2.h))))else(xg (Aq (d-(e.1.length:Int)))<|xg (a.length<1099511627776)<|bif decide ((40:Int)<((a++[(⟨2,0,e.1⟩:Ae)]).length:Int))then(xg ((a++[(⟨2,0,e.1⟩:Ae)]).length<1099511627776)<|some (Lr.out ((a++[(⟨2,0,e.1⟩:Ae)])++[(⟨1,c,[]⟩:Ae)],0,d-(e.1.length:Int),e.2.b,e.2.i,e.2.h)))else(Aa (Lr.go (a++[(⟨2,0,e.1⟩:Ae)],c,d-(e.1.length:Int),e.2.b,e.2.i,e.2.h)))))else(bif decide (o.1=1)then(xg (Aq (c+1))<|Ac (Ch o.2 (c+1)) λf=>bif decide ((4:Int)<f.1)then(xg (Aq (c-4))<|xg (a.length<1099511627776)<|bif decide ((40:Int)<((a++[(⟨3,4,[]⟩:Ae)]).length:Int))then(xg ((a++[(⟨3,4,[]⟩:Ae)]).length<1099511627776)<|some (Lr.out ((a++[(⟨3,4,[]⟩:Ae)])++[(⟨1,c-4,[]⟩:Ae)],0,d,f.2.b,f.2.i,f.2.h)))else(Aa (Lr.go (a++[(⟨3,4,[]⟩:Ae)],c-4,d,f.2.b,f.2.i,f.2.h))))else(xg (Aq (c-f.1))<|xg (a.length<1099511627776)<|bif decide ((40:Int)<((a++[(⟨3,f.1,[]⟩:Ae)]).length:Int))then(xg ((a++[(⟨3,f.1,[]⟩:Ae)]).length<1099511627776)<|some (Lr.out ((a++[(⟨3,f.1,[]⟩:Ae)])++[(⟨1,c-f.1,[]⟩:Ae)],0,d,f.2.b,f.2.i,f.2.h)))else(Aa (Lr.go (a++[(⟨3,f.1,[]⟩:Ae)],c-f.1,d,f.2.b,f.2.i,f.2.h)))))else(xg (Aq (c+1))<|Ac (Ch o.2 (c+1)) λk=>xg (Aq (c-k.1))<|xg (a.length<1099511627776)<|bif decide ((40:Int)<((a++[(⟨1,k.1,[]⟩:Ae)]).length:Int))then(xg ((a++[(⟨1,k.1,[]⟩:Ae)]).length<1099511627776)<|some (Lr.out ((a++[(⟨1,k.1,[]⟩:Ae)])++[(⟨1,c-k.1,[]⟩:Ae)],0,d,k.2.b,k.2.i,k.2.h)))else(Aa (Lr.go (a++[(⟨1,k.1,[]⟩:Ae)],c-k.1,d,k.2.b,k.2.i,k.2.h))))))else(Ac (K0 (⟨q,p,r⟩:B3) 3) λm=>bif m.1 then(Ac (Ch m.2 4) λn=>bif decide (n.1=0)then(Ac (Mo n.2 3) λj=>bif decide (d<(j.1.length:Int))then(xg (Aq (d-((0:Nat):Int)))<|xg (a.length<1099511627776)<|bif decide ((40:Int)<((a++[(⟨2,0,[]⟩:Ae)]).length:Int))then(xg ((a++[(⟨2,0,[]⟩:Ae)]).length<1099511627776)<|some (Lr.out ((a++[(⟨2,0,[]⟩:Ae)])++[(⟨1,c,[]⟩:Ae)],0,d-((0:Nat):Int),j.2.b,j.2.i,j.2.h)))else(Aa (Lr.go (a++[(⟨2,0,[]⟩:Ae)],c,d-((0:Nat):Int),j.2.b,j.2.i,j.2.h))))else(xg (Aq (d-(j.1.length:Int)))<|xg (a.length<1099511627776)<|bif decide ((40:Int)<((a++[(⟨2,0,j.1⟩:Ae)]).length:Int))then(xg ((a++[(⟨2,0,j.1⟩:Ae)]).length<1099511627776)<|some (Lr.out ((a++[(⟨2,0,j.1⟩:Ae)])++[(⟨1,c,[]⟩:Ae)],0,d-(j.1.length:Int),j.2.b,j.2.i,j.2.h)))else(Aa (Lr.go (a++[(⟨2,0,j.1⟩:Ae)],c,d-(j.1.length:Int),j.2.b,j.2.i,j.2.h)))))else(bif decide (n.1=1)then(xg (Aq (c+1))<|Ac (Ch n.2 (c+1)) λg=>bif decide ((4:Int)<g.1)then(xg (Aq (c-4))<|xg (a.length<1099511627776)<|bif decide ((40:Int)<((a++[(⟨3,4,[]⟩:Ae)]).length:Int))then(xg ((a++[(⟨3,4,[]⟩:Ae)]).length<1099511627776)<|some (Lr.out ((a++[(⟨3,4,[]⟩:Ae)])++[(⟨1,c-4,[]⟩:Ae)],0,d,g.2.b,g.2.i,g.2.h)))else(Aa (Lr.go (a++[(⟨3,4,[]⟩:Ae)],c-4,d,g.2.b,g.2.i,g.2.h))))else(xg (Aq (c-g.1))<|xg (a.length<1099511627776)<|bif decide ((40:Int)<((a++[(⟨3,g.1,[]⟩:Ae)]).length:Int))then(xg ((a++[(⟨3,g.1,[]⟩:Ae)]).length<1099511627776)<|some (Lr.out ((a++[(⟨3,g.1,[]⟩:Ae)])++[(⟨1,c-g.1,[]⟩:Ae)],0,d,g.2.b,g.2.i,g.2.h)))else(Aa (Lr.go (a++[(⟨3,g.1,[]⟩:Ae)],c-g.1,d,g.2.b,g.2.i,g.2.h)))))else(xg (Aq (c+1))<|Ac (Ch n.2 (c+1)) λl=>xg (Aq (c-l.1))<|xg (a.length<1099511627776)<|bif decide ((40:Int)<((a++[(⟨1,l.1,[]⟩:Ae)]).length:Int))then(xg ((a++[(⟨1,l.1,[]⟩:Ae)]).length<1099511627776)<|some (Lr.out ((a++[(⟨1,l.1,[]⟩:Ae)])++[(⟨1,c-l.1,[]⟩:Ae)],0,d,l.2.b,l.2.i,l.2.h)))else(Aa (Lr.go (a++[(⟨1,l.1,[]⟩:Ae)],c-l.1,d,l.2.b,l.2.i,l.2.h))))))else(Aa (Lr.out (a,c,d,m.2.b,m.2.i,m.2.h))))
def Bpt (a:List Ae×Int×Int×List UInt8×Int×Int):Option (Lr (List Ae×Int×Int×List UInt8×Int×Int) (List Ae×Int×Int×List UInt8×Int×Int)):=Bps a.1 a.2.1 a.2.2.1 a.2.2.2.1 a.2.2.2.2.1 a.2.2.2.2.2
def Bpr (c:B3) (d:Int):Option (List Ae×B3):=
 Ac (Cp (Bpt) ([],d,12,c.b,c.i,c.h)) λa=>Aa (a.1,(⟨a.2.2.2.1,a.2.2.2.2.1,a.2.2.2.2.2⟩:B3))
def A9u:E Af:=en 134 [Ka,B8] [Iz] (Bw Tk) func134 [L8,Ab5,Aly] [E0 0 [Ev 5 4,Dw 6,Dw 7,.box 0 0 [.ro (.b 3),.sc 0,.sc 0]]] (hx:=λa=>Eq.trans (b:=Bpr a.1 a.2.1) (by kernel_rfl) (show _=Tk a.1 a.2.1 by simp only[A4z,Asc,Tk,Bps,Bpt,Bpr,Dv,D8,D3,D5,D2,D4,cond_true,cond_false,D9,Ea,D6,D7]<;>rfl))
def Rn (c:B3) (a:Int) (d:Int):Option (Int×B3):=
 Ac (Ch c 12) λb=>bif decide (b.1=0)then(Aa (a,b.2))else(bif decide (b.1=1)then(Aa (d,b.2))else(bif decide (b.1=2)then(xg (Aq (a-1))<|some (a-1,b.2))else(bif decide (b.1=3)then(xg (Aq (d+1))<|some (d+1,b.2))else(bif decide (b.1=4)then(Ac (Aem b.2 [9223372036854775807,-9223372036854775808,-1,0,1000000001]) λg=>Aa (g.1,g.2))else(xg (Aq (d-a))<|bif decide ((60000:Int)<(d-a))then(Ac (Ch b.2 60000) λf=>xg (Aq (a+f.1))<|some (a+f.1,f.2))else(xg (Aq (d-a))<|xg (Aq ((d-a)+1))<|Ac (Ch b.2 ((d-a)+1)) λe=>xg (Aq (a+e.1))<|some (a+e.1,e.2)))))))
def A9o:E Af:=en 131 [Ka,B8,B8] [C4] (Jt Rn) func131 [L8,A9q]
def X8 (c:B3):Option (List Ae×B3):=
 Ac (Ch c 12) λg=>Ac (Tk g.2 g.1) λa=>bif decide ((a.1.length:Int)=0)then(Aa (a.1,a.2))else(Ac (Ch a.2 (a.1.length:Int)) λb=>Ac (Ch b.2 12) λd=>bif decide (d.1=0)then(Ac (Rn d.2 1 3) λh=>xg (0<=b.1/\b.1<(a.1.length:Int))<|some (a.1.set b.1.toNat (⟨h.1,(el a.1 b.1.toNat).n,(el a.1 b.1.toNat).Bd⟩:Ae),h.2))else(bif decide (d.1=1)then(Ac (Rn d.2 0 200) λi=>xg (0<=b.1/\b.1<(a.1.length:Int))<|some (a.1.set b.1.toNat (⟨(el a.1 b.1.toNat).kind,i.1,(el a.1 b.1.toNat).Bd⟩:Ae),i.2))else(bif decide (d.1=2)then(xg (0<=b.1/\b.1<(a.1.length:Int))<|Ac (Rn d.2 0 1114111) λf=>xg (((el a.1 b.1.toNat).Bd).length+[f.1].length<=1099511627776)<|xg (0<=b.1/\b.1<(a.1.length:Int))<|some (a.1.set b.1.toNat (⟨(el a.1 b.1.toNat).kind,(el a.1 b.1.toNat).n,((el a.1 b.1.toNat).Bd)++[f.1]⟩:Ae),f.2))else(bif decide (d.1=3)then(Ac (Ch d.2 2) λe=>xg (a.1.length+[(⟨1,200,[]⟩:Ae),(⟨3,e.1,[]⟩:Ae)].length<=1099511627776)<|some (a.1++[(⟨1,200,[]⟩:Ae),(⟨3,e.1,[]⟩:Ae)],e.2))else(Aa (a.1,d.2))))))
def Bpq (c:B3):Option (List Ae×B3):=
 Ac (Ch c 12) λh=>Ac (Tk h.2 h.1) λb=>bif decide ((b.1.length:Int)=0)then(Aa (b.1,b.2))else(Ac (Ch b.2 (b.1.length:Int)) λa=>Ac (Ch a.2 12) λd=>bif decide (d.1=0)then(Ac (Rn d.2 1 3) λi=>xg (0<=a.1/\a.1<(b.1.length:Int))<|some (b.1.set a.1.toNat (⟨i.1,(el b.1 a.1.toNat).n,(el b.1 a.1.toNat).Bd⟩:Ae),i.2))else(bif decide (d.1=1)then(Ac (Rn d.2 0 200) λg=>xg (0<=a.1/\a.1<(b.1.length:Int))<|some (b.1.set a.1.toNat (⟨(el b.1 a.1.toNat).kind,g.1,(el b.1 a.1.toNat).Bd⟩:Ae),g.2))else(bif decide (d.1=2)then(xg (0<=a.1/\a.1<(b.1.length:Int))<|both (Ac (Rn d.2 0 1114111) λe=>xg (((el b.1 a.1.toNat).Bd).length+[e.1].length<=1099511627776)<|xg (0<=a.1/\a.1<(b.1.length:Int))<|xg (a.1.toNat=a.1.toNat)<|some (b.1.set a.1.toNat (⟨(el b.1 a.1.toNat).kind,(el b.1 a.1.toNat).n,((el b.1 a.1.toNat).Bd)++[e.1]⟩:Ae),e.2)) (Ac (Rn d.2 0 1114111) λe=>xg (((el b.1 a.1.toNat).Bd).length+[e.1].length<=1099511627776)<|xg (0<=a.1/\a.1<(b.1.length:Int))<|xg (a.1.toNat=a.1.toNat)<|some (b.1.set a.1.toNat (⟨(el b.1 a.1.toNat).kind,(el b.1 a.1.toNat).n,((el b.1 a.1.toNat).Bd)++[e.1]⟩:Ae),e.2)))else(bif decide (d.1=3)then(Ac (Ch d.2 2) λf=>xg (b.1.length+[(⟨1,200,[]⟩:Ae),(⟨3,f.1,[]⟩:Ae)].length<=1099511627776)<|some (b.1++[(⟨1,200,[]⟩:Ae),(⟨3,f.1,[]⟩:Ae)],f.2))else(Aa (b.1,d.2))))))
def Bv8:E Af:=en 133 [Ka] [Iz] (Bp X8) func133 [L8,A9o,A9u] (hx:=λa=>Eq.trans (b:=Bpq a.1) (by kernel_rfl) (show _=X8 a.1 by simp only[X8,Bpq,Dv,D8,D3,D5,D2,D4,cond_true,cond_false,D9,Ea,D6,D7,A7h,Blr]<;>rfl))
def Ya (c:B3) (d:Ao) (k:Int):Option (List Ae×B3):=
 Ac (Vp d k) λf=>Ac (bif !f.2 then(Aa (true,c.b,c.i,c.h))else(Ac (K0 c 10) λe=>Aa (e.1,e.2.b,e.2.i,e.2.h))) λa=>bif a.1 then(Ac (X8 (⟨a.2.1,a.2.2.1,a.2.2.2⟩:B3)) λj=>Aa (j.1,j.2))else(Ac (Tk (⟨a.2.1,a.2.2.1,a.2.2.2⟩:B3) (f.1.length:Int)) λg=>Aa (g.1,g.2))
def Bp0 (c:B3) (d:Ao) (h:Int):Option (List Ae×B3):=
 Ac (Vp d h) λb=>bif !b.2 then(Ac (X8 c) λg=>Aa (g.1,g.2))else(Ac (K0 c 10) λa=>bif a.1 then(Ac (X8 a.2) λe=>Aa (e.1,e.2))else(Ac (Tk a.2 (b.1.length:Int)) λf=>Aa (f.1,f.2)))
def A93:E Af:=en 63 [Ka,Hy,B8] [Iz] (Jt Ya) func63 [Au3,Ab5,Bv8,A9u] (hx:=λa=>Eq.trans (b:=Bp0 a.1 a.2.1 a.2.2.1) (by kernel_rfl) (show _=Ya a.1 a.2.1 a.2.2.1 by simp only[Ya,Bp0,Dv,D8,D3,D5,D2,D4,cond_true,cond_false,D9,Ea,D6,D7]<;>rfl))
def Bkw (d:Ao) (f:Int) (e:Nat) (b:A8) (a:List (List Ae)):Option (Lr (List (List Ae)) (List (List Ae))):=
 Ac (Aen (b.o)) λc=>xg (a.length<1099511627776)<|some (Lr.go (a++[c]))
def A4h (d:Ao) (b:Int) (a:Nat) (c:List (List Ae)):Option (Lr (List (List Ae)) (List (List Ae))):=Bkw d b a (el ((d.list.take d.list.length).drop ((b-d.from_).toNat)) a) c
def Ar1 (d:Ao) (a:Int):Option (List (List Ae)×Bool):=
 Ac (O7 d) λc=>Ac (bif !c then(Aa true)else(Ac (Gy d) λb=>Ac (Dq a d.from_ b) λe=>Aa (!e))) λh=>bif h then(Aa ([],false))else(xg (Aq (a-d.from_))<|xg (0<=(a-d.from_)/\(a-d.from_)<=(d.list.length:Int))<|Ac (A2 (A4h d a) (λf=>f) ((d.list.take d.list.length).drop ((a-d.from_).toNat)).length 0 []) λg=>Aa (g,true))
def Bvs:E Af:=en 285 [Hy,B8] [Ahb,Bz] (Bw Ar1) func285 [Y1,Nq,Jl,Au6] [Fb 0 30 29 [.slot 6 (.row (.sl (.b 4)))]]
def Aj6 (p:Ae):Option Int:=
 bif decide (p.kind=2)then(Aa (p.Bd.length:Int))else(Aa p.n)
def A90:E Af:=en 341 [Ac8] [C4] (Bp Aj6) func341
def A43 (b:List Ae) (a:Int) (c:Int):Option (Lr (List Ae×Int×Int) (List Ae×Int×Int)):=
 Ac (bif decide (a<(b.length:Int))then(xg (0<=a/\a<(b.length:Int))<|Ac (Aj6 (el b a.toNat)) λd=>Aa (decide (c=d)))else(Aa false)) λe=>bif e then(xg (Aq (a+1))<|some (Lr.go (b,a+1,0)))else(Aa (Lr.out (b,a,c)))
def Aj5 (a:List Ae×Int×Int):Option (Lr (List Ae×Int×Int) (List Ae×Int×Int)):=A43 a.1 a.2.1 a.2.2
def I2 (c:H4):Option (Int×H4):=
 Ac (Cp (Aj5) (c.o,c.at_,c.done)) λa=>bif decide (a.2.1=(a.1.length:Int))then(Aa (0,(⟨a.1,a.2.1,a.2.2⟩:H4)))else(xg (0<=a.2.1/\a.2.1<(a.1.length:Int))<|some ((el a.1 a.2.1.toNat).kind,(⟨a.1,a.2.1,a.2.2⟩:H4)))
def Bwa:E Af:=en 334 [Ay2] [C4] (Bp I2) func334 [A90] [E0 0 [.box 0 0 [.ro (.b 4),.sc 0,.sc 0]]]
def Ng (c:H4):Option (Int×H4):=
 xg (0<=c.at_/\c.at_<(c.o.length:Int))<|Ac (Aj6 (el c.o c.at_.toNat)) λa=>xg (Aq (a-c.done))<|some (a-c.done,c)
def Bwb:E Af:=en 335 [Ay2] [C4] (Bp Ng) func335 [A90]
def Vs (c:H4) (n:Int):Option (List Int×H4):=
 xg (0<=c.at_/\c.at_<(c.o.length:Int))<|xg (Aq (c.done+n))<|xg (0<=c.done/\c.done<=(c.done+n)/\(c.done+n)<=(((el c.o c.at_.toNat).Bd).length:Int))<|xg (Aq (c.done+n))<|some ((((el c.o c.at_.toNat).Bd).take ((c.done+n).toNat)).drop c.done.toNat,(⟨c.o,c.at_,c.done+n⟩:H4))
def Bwd:E Af:=en 336 [Ay2,B8] [⟨false,.sl (.b 0),false⟩] (Bw Vs) func336
def Aeo (x:Int) (a:Int):Option Int:=
 bif decide (x<a)then(Aa x)else(Aa a)
def Bwc:E Af:=en 337 [B8,B8] [C4] (Bw Aeo) func337
def Ti (L:List Ae) (K:Int) (H:Int) (D:List Ae) (C:Int) (A:Int) (i:List Ae) (h:List Int) (d:Int) (f:List Ae) (j:List Int) (e:Int):Option (Lr (List Ae×Int×Int×List Ae×Int×Int×List Ae×List Int×Int×List Ae×List Int×Int) (List Ae×List Int×Int×List Ae×List Int×Int)):=
 Ac (I2 (⟨L,K,H⟩:H4)) λB=>Ac (bif !decide (B.1=0)then(Aa (true,D,C,A))else(Ac (I2 (⟨D,C,A⟩:H4)) λl=>Aa (!decide (l.1=0),l.2.o,l.2.at_,l.2.done))) λg=>bif g.1 then(Ac (I2 B.2) λk=>bif decide (k.1=2)then(Ac (Ng k.2) λt=>Ac (Vs t.2 t.1) λn=>Ac (Tm (⟨i,h,d⟩:Cw) n.1) λp=>Ac (Mp (⟨f,j,e⟩:Cw) t.1) λs=>Aa (Lr.go (n.2.o,n.2.at_,n.2.done,g.2.1,g.2.2.1,g.2.2.2,p.list,p.put,p.drop,s.list,s.put,s.drop)))else(Ac (I2 (⟨g.2.1,g.2.2.1,g.2.2.2⟩:H4)) λr=>bif decide (r.1=2)then(Ac (Ng r.2) λu=>Ac (Vs u.2 u.1) λm=>Ac (Tm (⟨f,j,e⟩:Cw) m.1) λq=>Ac (Mp (⟨i,h,d⟩:Cw) u.1) λv=>Aa (Lr.go (k.2.o,k.2.at_,k.2.done,m.2.o,m.2.at_,m.2.done,v.list,v.put,v.drop,q.list,q.put,q.drop)))else(Ac (Ng k.2) λF=>Ac (Ng r.2) λG=>Ac (Aeo F.1 G.1) λa=>Ac (I2 F.2) λc=>Ac (I2 G.2) λb=>Ac (bif decide (c.1=1)then(Aa (decide (b.1=1)))else(Aa false)) λI=>bif I then(Ac (Mp (⟨i,h,d⟩:Cw) a) λy=>Ac (Mp (⟨f,j,e⟩:Cw) a) λz=>xg (Aq (c.2.done+a))<|xg (Aq (b.2.done+a))<|some (Lr.go (c.2.o,c.2.at_,c.2.done+a,b.2.o,b.2.at_,b.2.done+a,y.list,y.put,y.drop,z.list,z.put,z.drop)))else(bif decide (b.1=1)then(Ac (Tl (⟨i,h,d⟩:Cw) a) λx=>xg (Aq (c.2.done+a))<|xg (Aq (b.2.done+a))<|some (Lr.go (c.2.o,c.2.at_,c.2.done+a,b.2.o,b.2.at_,b.2.done+a,x.list,x.put,x.drop,f,j,e)))else(bif decide (c.1=1)then(Ac (Tl (⟨f,j,e⟩:Cw) a) λw=>xg (Aq (c.2.done+a))<|xg (Aq (b.2.done+a))<|some (Lr.go (c.2.o,c.2.at_,c.2.done+a,b.2.o,b.2.at_,b.2.done+a,i,h,d,w.list,w.put,w.drop)))else(xg (Aq (c.2.done+a))<|xg (Aq (b.2.done+a))<|some (Lr.go (c.2.o,c.2.at_,c.2.done+a,b.2.o,b.2.at_,b.2.done+a,i,h,d,f,j,e))))))))else(Aa (Lr.out (i,h,d,f,j,e)))
def Ajy (a:List Ae×Int×Int×List Ae×Int×Int×List Ae×List Int×Int×List Ae×List Int×Int):Option (Lr (List Ae×Int×Int×List Ae×Int×Int×List Ae×List Int×Int×List Ae×List Int×Int) (List Ae×List Int×Int×List Ae×List Int×Int)):=Ti a.1 a.2.1 a.2.2.1 a.2.2.2.1 a.2.2.2.2.1 a.2.2.2.2.2.1 a.2.2.2.2.2.2.1 a.2.2.2.2.2.2.2.1 a.2.2.2.2.2.2.2.2.1 a.2.2.2.2.2.2.2.2.2.1 a.2.2.2.2.2.2.2.2.2.2.1 a.2.2.2.2.2.2.2.2.2.2.2
def Aa9 (a:List Ae) (b:List Ae):Option (List Ae×List Ae×Bool):=
 Ac (J5 a) λg=>Ac (bif !g then(Aa true)else(Ac (J5 b) λi=>Aa (!i))) λh=>Ac (bif h then(Aa true)else(Ac (Te a) λm=>Ac (Te b) λk=>Aa (!decide (m=k)))) λn=>bif n then(Aa ([],[],false))else(Ac (Cp (Ajy) (a,0,0,b,0,0,[],[],0,[],[],0)) λc=>Ac (Tj (⟨c.1,c.2.1,c.2.2.1⟩:Cw)) λe=>Ac (Tj (⟨c.2.2.2.1,c.2.2.2.2.1,c.2.2.2.2.2⟩:Cw)) λd=>Ac (J5 e) λj=>Ac (bif !j then(Aa true)else(Ac (J5 d) λf=>Aa (!f))) λl=>bif l then(Aa ([],[],false))else(Aa (e,d,true)))
def Bpf (c7:List Ae) (c5:Int) (c4:Int) (A:List Ae) (F:Int) (C:Int) (h:List Ae) (l:List Int) (i:Int) (g:List Ae) (j:List Int) (k:Int):Option (Lr (List Ae×Int×Int×List Ae×Int×Int×List Ae×List Int×Int×List Ae×List Int×Int) (List Ae×Int×Int×List Ae×Int×Int×List Ae×List Int×Int×List Ae×List Int×Int)):=
 Ac (I2 (⟨c7,c5,c4⟩:H4)) λp=>bif !decide (p.1=0)then(Ac (I2 p.2) λq=>bif decide (q.1=2)then(Ac (Ng q.2) λI=>Ac (Vs I.2 I.1) λs=>Ac (Tm (⟨h,l,i⟩:Cw) s.1) λM=>Ac (Mp (⟨g,j,k⟩:Cw) I.1) λK=>Aa (Lr.go (s.2.o,s.2.at_,s.2.done,A,F,C,M.list,M.put,M.drop,K.list,K.put,K.drop)))else(Ac (I2 (⟨A,F,C⟩:H4)) λx=>bif decide (x.1=2)then(Ac (Ng x.2) λT=>Ac (Vs T.2 T.1) λr=>Ac (Tm (⟨g,j,k⟩:Cw) r.1) λV=>Ac (Mp (⟨h,l,i⟩:Cw) T.1) λw=>Aa (Lr.go (q.2.o,q.2.at_,q.2.done,r.2.o,r.2.at_,r.2.done,w.list,w.put,w.drop,V.list,V.put,V.drop)))else(Ac (Ng q.2) λW=>Ac (Ng x.2) λX=>Ac (Aeo W.1 X.1) λb=>Ac (I2 W.2) λe=>Ac (I2 X.2) λd=>Ac (bif decide (e.1=1)then(Aa (decide (d.1=1)))else(Aa false)) λc8=>bif c8 then(Ac (Mp (⟨h,l,i⟩:Cw) b) λL=>Ac (Mp (⟨g,j,k⟩:Cw) b) λP=>xg (Aq (e.2.done+b))<|xg (Aq (d.2.done+b))<|some (Lr.go (e.2.o,e.2.at_,e.2.done+b,d.2.o,d.2.at_,d.2.done+b,L.list,L.put,L.drop,P.list,P.put,P.drop)))else(bif decide (d.1=1)then(Ac (Tl (⟨h,l,i⟩:Cw) b) λO=>xg (Aq (e.2.done+b))<|xg (Aq (d.2.done+b))<|some (Lr.go (e.2.o,e.2.at_,e.2.done+b,d.2.o,d.2.at_,d.2.done+b,O.list,O.put,O.drop,g,j,k)))else(bif decide (e.1=1)then(Ac (Tl (⟨g,j,k⟩:Cw) b) λS=>xg (Aq (e.2.done+b))<|xg (Aq (d.2.done+b))<|some (Lr.go (e.2.o,e.2.at_,e.2.done+b,d.2.o,d.2.at_,d.2.done+b,h,l,i,S.list,S.put,S.drop)))else(xg (Aq (e.2.done+b))<|xg (Aq (d.2.done+b))<|some (Lr.go (e.2.o,e.2.at_,e.2.done+b,d.2.o,d.2.at_,d.2.done+b,h,l,i,g,j,k))))))))else(Ac (I2 (⟨A,F,C⟩:H4)) λm=>bif !decide (m.1=0)then(Ac (I2 p.2) λn=>bif decide (n.1=2)then(Ac (Ng n.2) λH=>Ac (Vs H.2 H.1) λu=>Ac (Tm (⟨h,l,i⟩:Cw) u.1) λR=>Ac (Mp (⟨g,j,k⟩:Cw) H.1) λU=>Aa (Lr.go (u.2.o,u.2.at_,u.2.done,m.2.o,m.2.at_,m.2.done,R.list,R.put,R.drop,U.list,U.put,U.drop)))else(Ac (I2 m.2) λQ=>bif decide (Q.1=2)then(Ac (Ng Q.2) λz=>Ac (Vs z.2 z.1) λt=>Ac (Tm (⟨g,j,k⟩:Cw) t.1) λB=>Ac (Mp (⟨h,l,i⟩:Cw) z.1) λv=>Aa (Lr.go (n.2.o,n.2.at_,n.2.done,t.2.o,t.2.at_,t.2.done,v.list,v.put,v.drop,B.list,B.put,B.drop)))else(Ac (Ng n.2) λY=>Ac (Ng Q.2) λc3=>Ac (Aeo Y.1 c3.1) λa=>Ac (I2 Y.2) λc=>Ac (I2 c3.2) λf=>Ac (bif decide (c.1=1)then(Aa (decide (f.1=1)))else(Aa false)) λc6=>bif c6 then(Ac (Mp (⟨h,l,i⟩:Cw) a) λG=>Ac (Mp (⟨g,j,k⟩:Cw) a) λD=>xg (Aq (c.2.done+a))<|xg (Aq (f.2.done+a))<|some (Lr.go (c.2.o,c.2.at_,c.2.done+a,f.2.o,f.2.at_,f.2.done+a,G.list,G.put,G.drop,D.list,D.put,D.drop)))else(bif decide (f.1=1)then(Ac (Tl (⟨h,l,i⟩:Cw) a) λy=>xg (Aq (c.2.done+a))<|xg (Aq (f.2.done+a))<|some (Lr.go (c.2.o,c.2.at_,c.2.done+a,f.2.o,f.2.at_,f.2.done+a,y.list,y.put,y.drop,g,j,k)))else(bif decide (c.1=1)then(Ac (Tl (⟨g,j,k⟩:Cw) a) λN=>xg (Aq (c.2.done+a))<|xg (Aq (f.2.done+a))<|some (Lr.go (c.2.o,c.2.at_,c.2.done+a,f.2.o,f.2.at_,f.2.done+a,h,l,i,N.list,N.put,N.drop)))else(xg (Aq (c.2.done+a))<|xg (Aq (f.2.done+a))<|some (Lr.go (c.2.o,c.2.at_,c.2.done+a,f.2.o,f.2.at_,f.2.done+a,h,l,i,g,j,k))))))))else(Aa (Lr.out (p.2.o,p.2.at_,p.2.done,m.2.o,m.2.at_,m.2.done,h,l,i,g,j,k))))
def Bpg (a:List Ae×Int×Int×List Ae×Int×Int×List Ae×List Int×Int×List Ae×List Int×Int):Option (Lr (List Ae×Int×Int×List Ae×Int×Int×List Ae×List Int×Int×List Ae×List Int×Int) (List Ae×Int×Int×List Ae×Int×Int×List Ae×List Int×Int×List Ae×List Int×Int)):=Bpf a.1 a.2.1 a.2.2.1 a.2.2.2.1 a.2.2.2.2.1 a.2.2.2.2.2.1 a.2.2.2.2.2.2.1 a.2.2.2.2.2.2.2.1 a.2.2.2.2.2.2.2.2.1 a.2.2.2.2.2.2.2.2.2.1 a.2.2.2.2.2.2.2.2.2.2.1 a.2.2.2.2.2.2.2.2.2.2.2
def Bpe (a:List Ae) (b:List Ae):Option (List Ae×List Ae×Bool):=
 Ac (J5 a) λi=>Ac (bif !i then(Aa true)else(Ac (J5 b) λh=>Aa (!h))) λg=>Ac (bif g then(Aa true)else(Ac (Te a) λn=>Ac (Te b) λm=>Aa (!decide (n=m)))) λk=>bif k then(Aa ([],[],false))else(Ac (Cp (Bpg) (a,0,0,b,0,0,[],[],0,[],[],0)) λc=>Ac (Tj (⟨c.2.2.2.2.2.2.1,c.2.2.2.2.2.2.2.1,c.2.2.2.2.2.2.2.2.1⟩:Cw)) λd=>Ac (Tj (⟨c.2.2.2.2.2.2.2.2.2.1,c.2.2.2.2.2.2.2.2.2.2.1,c.2.2.2.2.2.2.2.2.2.2.2⟩:Cw)) λe=>Ac (J5 d) λj=>Ac (bif !j then(Aa true)else(Ac (J5 e) λl=>Aa (!l))) λf=>bif f then(Aa ([],[],false))else(Aa (d,e,true)))
def Bv4:E Af:=en 330 [Eu,Eu] [Iz,Iz,Bz] (Bw Aa9) func330 [Alw,Ue,A9t,A9v,A9x,A9y,Bwa,Bwb,Bwc,Bwd] [E0 0 [.box 7 0 [.ro (.b 4),.sc 0,.sc 0],.box 8 0 [.ro (.b 4),.sc 0,.sc 0],.box 9 0 [.row (.b 4),.row (.b 0),.sc 0],.box 10 0 [.row (.b 4),.row (.b 0),.sc 0]]] (hx:=λa=>Eq.trans (b:=Bpe a.1 a.2.1) (by kernel_rfl) (show _=Aa9 a.1 a.2.1 by simp only[Ti,Ajy,Aa9,Bpf,Bpg,Bpe,Dv,D8,D3,D5,D2,D4,cond_true,cond_false,D9,Ea,D6,D7]<;>rfl))
def A44 (l:List (List Ae)) (e:Nat) (c:List Ae) (b:List (List Ae)) (d:List Ae):Option (Lr (List (List Ae)×List Ae) (Sum (List (List Ae)×List Ae) Unit)):=
 Ac (Aa9 c d) λa=>bif !a.2.2 then(Aa (Lr.out (Bj (()))))else(xg (b.length<1099511627776)<|some (Lr.go (b++[a.1],a.2.1)))
def Asd (l:List (List Ae)) (a:Nat) (b:List (List Ae)×List Ae):Option (Lr (List (List Ae)×List Ae) (Sum (List (List Ae)×List Ae) Unit)):=A44 l a (el l a) b.1 b.2
def Aj7 (l:List (List Ae)) (b:List Ae):Option (List (List Ae)×List Ae×Bool):=
 Ac (J5 b) λe=>bif !e then(Aa ([],[],false))else(Ac (Aa5 b) λf=>Ac (A2 (Asd l) (λc=>(.inl (c.1,c.2))) l.length 0 ([],f)) λd=>B2 (λa=>Aa (a.1,a.2,true)) (λg=>Aa ([],[],false)) d)
def Bpy (l:List (List Ae)) (e:Nat) (d:List Ae) (b:List (List Ae)) (c:List Ae):Option (Lr (List (List Ae)×List Ae) (Sum (List (List Ae)×List Ae) (List (List Ae)×List Ae×Bool))):=
 Ac (Aa9 d c) λa=>bif !a.2.2 then(Aa (Lr.out (Bj ([],[],false))))else(xg (b.length<1099511627776)<|some (Lr.go (b++[a.1],a.2.1)))
def Bpz (l:List (List Ae)) (b:Nat) (a:List (List Ae)×List Ae):Option (Lr (List (List Ae)×List Ae) (Sum (List (List Ae)×List Ae) (List (List Ae)×List Ae×Bool))):=Bpy l b (el l b) a.1 a.2
def Bpx (l:List (List Ae)) (b:List Ae):Option (List (List Ae)×List Ae×Bool):=
 Ac (J5 b) λf=>bif !f then(Aa ([],[],false))else(Ac (Aa5 b) λg=>Ac (A2 (Bpz l) (λa=>(.inl (a.1,a.2))) l.length 0 ([],g)) λe=>B2 (λc=>Aa (c.1,c.2,true)) (λd=>Aa d) e)
def Bwe:E Af:=en 314 [Ag2,Eu] [Ahb,Iz,Bz] (Bw Aj7) func314 [Auy,Ue,Bv4] [Df 0 22 21 [.slot 7 (.row (.sl (.b 4))),Ev 8 4]] (hx:=λa=>Eq.trans (b:=Bpx a.1 a.2.1) (by kernel_rfl) (show _=Aj7 a.1 a.2.1 by simp only[A44,Asd,Aj7,Bpy,Bpz,Bpx,Dv,D8,D3,D5,D2,D4,cond_true,cond_false,D9,Ea,D6,D7]<;>rfl))
def Ar2 (l:List (List Ae)) (b:List Ae):Option (List Ae×Bool):=
 Ac (Aj7 l b) λa=>Aa (a.2.1,a.2.2)
def Bvu:E Af:=en 286 [Ag2,Eu] [Iz,Bz] (Bw Ar2) func286 [Bwe]
def Aei (d:Ao) (a:Int) (o:List Ae):Option (List Ae×Int):=
 Ac (O7 d) λj=>Ac (bif !j then(Aa true)else(Ac (J5 o) λg=>Aa (!g))) λh=>bif h then(Aa ([],1))else(Ac (Gy d) λi=>bif decide (i<a)then(Aa ([],2))else(bif decide (a<d.from_)then(Aa ([],3))else(Ac (Vp d a) λe=>Ac (Te o) λl=>bif !decide (l=(e.1.length:Int))then(Aa ([],1))else(Ac (Ar1 d a) λf=>Ac (Ar2 f.1 o) λb=>bif !b.2 then(Aa ([],5))else(Ac (Aee d) λk=>Ac (O6 b.1 k) λc=>bif !c.2 then(Aa ([],5))else(Aa (b.1,0)))))))
def Bvw:E Af:=en 243 [Hy,B8,Eu] [Iz,C4] (Jt Aei) func243 [Alu,Y1,Nq,Auw,Alw,Ue,Bvs,Bvu,Au3]
def A4o (c:Int) (e:Int) (f:Int) (h:Ao) (i:Nat) (b:Cm) (a:List Cm) (d:Bool):Option (Lr (List Cm×Bool) (List Cm×Bool)):=
 bif decide ((b.Al)=c)then(Aa (Lr.go (a,d)))else(Ac (bif !d then(Aa (decide (c<(b.Al))))else(Aa false)) λg=>bif g then(xg (a.length<1099511627776)<|xg ((a++[(⟨c,e,f⟩:Cm)]).length<1099511627776)<|some (Lr.go ((a++[(⟨c,e,f⟩:Cm)])++[b],true)))else(xg (a.length<1099511627776)<|some (Lr.go (a++[b],d))))
def Aa8 (e:Int) (f:Int) (d:Int) (a:Ao) (c:Nat) (b:List Cm×Bool):Option (Lr (List Cm×Bool) (List Cm×Bool)):=A4o e f d a c (el a.seen c) b.1 b.2
def Aek (d:Ao) (c:Int) (b:Int) (t:Int) (o:List Ae):Option (Ao×Int×Int):=
 Ac (O7 d) λw=>Ac (bif !w then(Aa true)else(Ac (Dq c 1 8) λs=>Aa (!s))) λj=>Ac (bif j then(Aa true)else(Ac (Dq b 1 1000000000) λn=>Aa (!n))) λk=>Ac (bif k then(Aa true)else(Ac (J5 o) λl=>Aa (!l))) λr=>bif r then(Aa ((⟨Cb,0,[],[],[]⟩:Ao),0,1))else(Ac (Tf d c) λh=>Ac (bif h.2 then(Aa (decide (h.1.seq=b)))else(Aa false)) λv=>bif v then(Ac (Vt d) λp=>Aa (p,h.1.rev,0))else(xg (Aq (h.1.seq+1))<|bif !decide (b=(h.1.seq+1))then(Aa ((⟨Cb,0,[],[],[]⟩:Ao),0,4))else(Ac (Aei d t o) λe=>bif !decide (e.2=0)then(Aa ((⟨Cb,0,[],[],[]⟩:Ao),0,e.2))else(Ac (Gy d) λq=>bif decide ((999999000:Int)<=q)then(Aa ((⟨Cb,0,[],[],[]⟩:Ao),0,5))else(Ac (Vt d) λa=>xg (a.list.length<1099511627776)<|Ac (Gy (⟨a.name,a.from_,a.text,a.list++[(⟨c,b,e.1⟩:A8)],a.seen⟩:Ao)) λf=>Ac (A2 (Aa8 c b f a) (λi=>(i.1,i.2)) a.seen.length 0 ([],false)) λg=>bif !g.2 then(xg (g.1.length<1099511627776)<|bif decide ((8:Int)<((a.list++[(⟨c,b,e.1⟩:A8)]).length:Int))then(xg (0<=(0:Int)/\(0:Int)<((a.list++[(⟨c,b,e.1⟩:A8)]).length:Int))<|Ac (O6 ((el (a.list++[(⟨c,b,e.1⟩:A8)]) 0).o) a.text) λm=>xg (0<=(1:Int)/\(1:Int)<=((a.list++[(⟨c,b,e.1⟩:A8)]).length:Int))<|xg (Aq (a.from_+1))<|some ((⟨a.name,a.from_+1,m.1,((a.list++[(⟨c,b,e.1⟩:A8)]).take ((a.list++[(⟨c,b,e.1⟩:A8)]).length)).drop 1,g.1++[(⟨c,b,f⟩:Cm)]⟩:Ao),f,0))else(Aa ((⟨a.name,a.from_,a.text,a.list++[(⟨c,b,e.1⟩:A8)],g.1++[(⟨c,b,f⟩:Cm)]⟩:Ao),f,0)))else(bif decide ((8:Int)<((a.list++[(⟨c,b,e.1⟩:A8)]).length:Int))then(xg (0<=(0:Int)/\(0:Int)<((a.list++[(⟨c,b,e.1⟩:A8)]).length:Int))<|Ac (O6 ((el (a.list++[(⟨c,b,e.1⟩:A8)]) 0).o) a.text) λu=>xg (0<=(1:Int)/\(1:Int)<=((a.list++[(⟨c,b,e.1⟩:A8)]).length:Int))<|xg (Aq (a.from_+1))<|some ((⟨a.name,a.from_+1,u.1,((a.list++[(⟨c,b,e.1⟩:A8)]).take ((a.list++[(⟨c,b,e.1⟩:A8)]).length)).drop 1,g.1⟩:Ao),f,0))else(Aa ((⟨a.name,a.from_,a.text,a.list++[(⟨c,b,e.1⟩:A8)],g.1⟩:Ao),f,0))))))))
def Bv0:E Af:=en 187 [Hy,B8,B8,B8,Eu] [Adg,C4,C4] (uc5 Aek) func187 [Alu,Y1,Nq,Ue,Bvw,Auz,Jl,A91] [Fb 0 97 96 [Ev 19 6,Sd 20 1]]
def Ar5 (b:Db) (e:A8):Option Db:=
 Ac (Yb b) λa=>Ac (Rm b) λh=>Ac (bif !h then(Aa true)else(Ac (X4 e) λf=>Aa (!f))) λd=>Ac (bif d then(Aa true)else(Aa b.out)) λg=>bif g then(Aa a)else(bif decide ((b.list.length:Int)=b.cap)then(Aa (⟨a.cap,a.next,true,[]⟩:Db))else(Ac (Aj8 e) λc=>xg (a.list.length+[c].length<=1099511627776)<|some (⟨a.cap,a.next,a.out,a.list++[c]⟩:Db)))
def Bvy:E Af:=en 188 [Pw,Uv] [Sp] (Bw Ar5) func188 [Auv,Af2,A92,Au9]
def Bko (d:Cea) (b:Ao×Int×Int) (g:Int) (f:Int) (o:List Ae) (c:Nat) (a:List A0):Option (Lr (List A0) (List A0)):=
 bif decide ((el a c).Ah=d)then(Ac (Ar5 ((el a c).r) (⟨(el b.1.list (((b.1.list.length:Int)-1).toNat)).Al,(el b.1.list (((b.1.list.length:Int)-1).toNat)).seq,(el b.1.list (((b.1.list.length:Int)-1).toNat)).o⟩:A8)) λe=>Aa (Lr.go (a.set c (⟨(el a c).id,(el a c).Ah,e⟩:A0))))else(Aa (Lr.go a))
def A4a (a:Cea) (b:Ao×Int×Int) (e:Int) (f:Int) (o:List Ae) (c:Nat) (d:List A0):Option (Lr (List A0) (List A0)):=Bko a b e f o c d
def Ajo (h:Aw) (d:Cea) (f:Int) (e:Int) (m:Int) (o:List Ae):Option (Aw×Int×Int):=
 Ac (Lz h d) λb=>Ac (Mm h) λj=>bif !j then(Aa ((⟨false,[],[],0⟩:Aw),0,1))else(bif h.shut then(Aa ((⟨false,[],[],0⟩:Aw),0,12))else(bif decide (b<0)then(Aa ((⟨false,[],[],0⟩:Aw),0,6))else(xg (0<=b/\b<(h.Am.length:Int))<|Ac (Aek (el h.Am b.toNat) f e m o) λa=>bif !decide (a.2.2=0)then(Aa ((⟨false,[],[],0⟩:Aw),0,a.2.2))else(Ac (Hk h) λc=>xg (0<=b/\b<(c.Am.length:Int))<|Ac (Gy a.1) λg=>xg (0<=b/\b<(h.Am.length:Int))<|Ac (Gy (el h.Am b.toNat)) λl=>bif decide (g=l)then(Aa ((⟨c.shut,c.Am.set b.toNat a.1,c.Ax,c.last⟩:Aw),a.2.1,0))else(xg (Aq ((a.1.list.length:Int)-1))<|xg (0<=((a.1.list.length:Int)-1)/\((a.1.list.length:Int)-1)<(a.1.list.length:Int))<|Ac (A2 (A4a d a f e o) (λk=>k) c.Ax.length 0 c.Ax) λi=>Aa ((⟨c.shut,c.Am.set b.toNat a.1,i,c.last⟩:Aw),a.2.1,0))))))
def A9c:E Af:=en 115 [Gq,E9,B8,B8,B8,Eu] [Ls,C4,C4] (uc6 Ajo) func115 [Nq,Uc,Ud,Bvy,Bv0,Uf] [Fb 1 86 85 [J7 84 9]]
def Yc (c:B3) (h:Aw):Option (Aw×B3):=
 Ac (Ch c 10) λa=>bif decide (a.1=0)then(Ac (Rp a.2) λq=>Ac (Mo q.2 6) λi=>Ac (Td h q.1 i.1) λn=>bif !decide (n.2=0)then(Aa (h,i.2))else(Aa (n.1,i.2)))else(bif decide (a.1=1)then(Ac (Rp a.2) λm=>Ac (Ch m.2 3) λe=>xg (Aq (1+e.1))<|Ac (Aeh h m.1 (1+e.1)) λp=>bif !decide (p.2.2=0)then(Aa (h,e.2))else(Aa (p.1,e.2)))else(bif decide (a.1=2)then(Ac (Ch a.2 5) λo=>Ac (Ch o.2 2) λf=>xg (Aq (1+f.1))<|Ac (Aef h o.1 (1+f.1)) λt=>bif !decide (t.2.2=0)then(Aa (h,f.2))else(Aa (t.1,f.2)))else(bif decide (a.1=3)then(Ac (Ch a.2 5) λj=>Ac (Aeg h j.1) λs=>bif !decide (s.2.2.2=0)then(Aa (h,j.2))else(Aa (s.1,j.2)))else(bif decide ((h.Am.length:Int)=0)then(Aa (h,a.2))else(Ac (Ch a.2 (h.Am.length:Int)) λb=>xg (0<=b.1/\b.1<(h.Am.length:Int))<|Ac (Ch b.2 3) λg=>xg (Aq (1+g.1))<|Ac (Tf (el h.Am b.1.toNat) (1+g.1)) λu=>Ac (Gy (el h.Am b.1.toNat)) λk=>xg (Aq ((((el h.Am b.1.toNat).list).length:Int)+1))<|Ac (Ch g.2 ((((el h.Am b.1.toNat).list).length:Int)+1)) λd=>xg (Aq (k-d.1))<|xg (Aq (u.1.seq+1))<|Ac (Ya d.2 (el h.Am b.1.toNat) (k-d.1)) λl=>Ac (Ajo h ((el h.Am b.1.toNat).name) (1+g.1) (u.1.seq+1) (k-d.1) l.1) λr=>bif !decide (r.2.2=0)then(Aa (h,l.2))else(Aa (r.1,l.2)))))))
def Bwg:E Af:=en 50 [Ka,Gq] [Azq] (Bw Yc) func50 [Nq,Aux,A89,A9a,A9c,A9d,Auz,L8,Aly,Au8,A93]
def Blb (c:Int) (j:List UInt8) (g:Int) (d:Int) (e:Bool) (f:List Ao) (k:List A0) (l:Int):Option (Lr (Int×List UInt8×Int×Int×Bool×List Ao×List A0×Int) (List UInt8×Int×Int×Bool×List Ao×List A0×Int)):=
 bif decide ((0:Int)<c)then(Ac (Yc (⟨j,g,d⟩:B3) (⟨e,f,k,l⟩:Aw)) λa=>xg (Aq (c-1))<|some (Lr.go (c-1,a.2.b,a.2.i,a.2.h,a.1.shut,a.1.Am,a.1.Ax,a.1.last)))else(Aa (Lr.out (j,g,d,e,f,k,l)))
def A45 (a:Int×List UInt8×Int×Int×Bool×List Ao×List A0×Int):Option (Lr (Int×List UInt8×Int×Int×Bool×List Ao×List A0×Int) (List UInt8×Int×Int×Bool×List Ao×List A0×Int)):=Blb a.1 a.2.1 a.2.2.1 a.2.2.2.1 a.2.2.2.2.1 a.2.2.2.2.2.1 a.2.2.2.2.2.2.1 a.2.2.2.2.2.2.2
def Blc (c:Int) (d:List UInt8) (l:Int) (j:Int) (g:Bool) (f:List Ao) (e:List A0) (k:Int):Option (Lr (Int×List UInt8×Int×Int×Bool×List Ao×List A0×Int) (List UInt8×Int×Int×Bool×List Ao×List A0×Int)):=
 bif decide ((0:Int)<c)then(Ac (Yc (⟨d,l,j⟩:B3) (⟨g,f,e,k⟩:Aw)) λa=>xg (Aq (c-1))<|some (Lr.go (c-1,a.2.b,a.2.i,a.2.h,a.1.shut,a.1.Am,a.1.Ax,a.1.last)))else(Aa (Lr.out (d,l,j,g,f,e,k)))
def A46 (a:Int×List UInt8×Int×Int×Bool×List Ao×List A0×Int):Option (Lr (Int×List UInt8×Int×Int×Bool×List Ao×List A0×Int) (List UInt8×Int×Int×Bool×List Ao×List A0×Int)):=Blc a.1 a.2.1 a.2.2.1 a.2.2.2.1 a.2.2.2.2.1 a.2.2.2.2.2.1 a.2.2.2.2.2.2.1 a.2.2.2.2.2.2.2
def Aes (c:B3) (f:Int):Option (Aw×B3):=
 Ac (Mo c 6) λm=>Ac (Td (⟨false,[],[],0⟩:Aw) (⟨#[97]⟩:Cea) m.1) λe=>Ac (K0 m.2 2) λl=>bif l.1 then(Ac (Mo l.2 4) λn=>Ac (Td e.1 (⟨#[110,111,116,101,115]⟩:Cea) n.1) λk=>xg (Aq (f+1))<|Ac (Ch n.2 (f+1)) λg=>Ac (Cp (A45) (g.1,g.2.b,g.2.i,g.2.h,k.1.shut,k.1.Am,k.1.Ax,k.1.last)) λd=>Aa ((⟨d.2.2.2.1,d.2.2.2.2.1,d.2.2.2.2.2.1,d.2.2.2.2.2.2⟩:Aw),(⟨d.1,d.2.1,d.2.2.1⟩:B3)))else(xg (Aq (f+1))<|Ac (Ch l.2 (f+1)) λj=>Ac (Cp (A46) (j.1,j.2.b,j.2.i,j.2.h,e.1.shut,e.1.Am,e.1.Ax,e.1.last)) λa=>Aa ((⟨a.2.2.2.1,a.2.2.2.2.1,a.2.2.2.2.2.1,a.2.2.2.2.2.2⟩:Aw),(⟨a.1,a.2.1,a.2.2.1⟩:B3)))
def Bp7 (c:Int) (g:List UInt8) (e:Int) (d:Int) (l:Bool) (k:List Ao) (j:List A0) (f:Int):Option (Lr (Int×List UInt8×Int×Int×Bool×List Ao×List A0×Int) (Int×List UInt8×Int×Int×Bool×List Ao×List A0×Int)):=
 bif decide ((0:Int)<c)then(Ac (Yc (⟨g,e,d⟩:B3) (⟨l,k,j,f⟩:Aw)) λa=>xg (Aq (c-1))<|some (Lr.go (c-1,a.2.b,a.2.i,a.2.h,a.1.shut,a.1.Am,a.1.Ax,a.1.last)))else(Aa (Lr.out (c,g,e,d,l,k,j,f)))
def A5o (a:Int×List UInt8×Int×Int×Bool×List Ao×List A0×Int):Option (Lr (Int×List UInt8×Int×Int×Bool×List Ao×List A0×Int) (Int×List UInt8×Int×Int×Bool×List Ao×List A0×Int)):=Bp7 a.1 a.2.1 a.2.2.1 a.2.2.2.1 a.2.2.2.2.1 a.2.2.2.2.2.1 a.2.2.2.2.2.2.1 a.2.2.2.2.2.2.2
def Bp8 (c:Int) (g:List UInt8) (e:Int) (l:Int) (j:Bool) (k:List Ao) (f:List A0) (d:Int):Option (Lr (Int×List UInt8×Int×Int×Bool×List Ao×List A0×Int) (Int×List UInt8×Int×Int×Bool×List Ao×List A0×Int)):=
 bif decide ((0:Int)<c)then(Ac (Yc (⟨g,e,l⟩:B3) (⟨j,k,f,d⟩:Aw)) λa=>xg (Aq (c-1))<|some (Lr.go (c-1,a.2.b,a.2.i,a.2.h,a.1.shut,a.1.Am,a.1.Ax,a.1.last)))else(Aa (Lr.out (c,g,e,l,j,k,f,d)))
def Bp9 (a:Int×List UInt8×Int×Int×Bool×List Ao×List A0×Int):Option (Lr (Int×List UInt8×Int×Int×Bool×List Ao×List A0×Int) (Int×List UInt8×Int×Int×Bool×List Ao×List A0×Int)):=Bp8 a.1 a.2.1 a.2.2.1 a.2.2.2.1 a.2.2.2.2.1 a.2.2.2.2.2.1 a.2.2.2.2.2.2.1 a.2.2.2.2.2.2.2
def Bp6 (c:B3) (g:Int):Option (Aw×B3):=
 Ac (Mo c 6) λn=>Ac (Td (⟨false,[],[],0⟩:Aw) (⟨#[97]⟩:Cea) n.1) λj=>Ac (K0 n.2 2) λl=>bif l.1 then(both (Ac (Mo l.2 4) λk=>Ac (Td j.1 (⟨#[110,111,116,101,115]⟩:Cea) k.1) λe=>xg (Aq (g+1))<|Ac (Ch k.2 (g+1)) λd=>Ac (Cp (A5o) (d.1,d.2.b,d.2.i,d.2.h,e.1.shut,e.1.Am,e.1.Ax,e.1.last)) λa=>Aa ((⟨a.2.2.2.2.1,a.2.2.2.2.2.1,a.2.2.2.2.2.2.1,a.2.2.2.2.2.2.2⟩:Aw),(⟨a.2.1,a.2.2.1,a.2.2.2.1⟩:B3))) (Ac (Mo l.2 4) λk=>Ac (Td j.1 (⟨#[110,111,116,101,115]⟩:Cea) k.1) λe=>xg (Aq (g+1))<|Ac (Ch k.2 (g+1)) λd=>Ac (Cp (A5o) (d.1,d.2.b,d.2.i,d.2.h,e.1.shut,e.1.Am,e.1.Ax,e.1.last)) λa=>Aa ((⟨a.2.2.2.2.1,a.2.2.2.2.2.1,a.2.2.2.2.2.2.1,a.2.2.2.2.2.2.2⟩:Aw),(⟨a.2.1,a.2.2.1,a.2.2.2.1⟩:B3))))else(xg (Aq (g+1))<|Ac (Ch l.2 (g+1)) λm=>Ac (Cp (Bp9) (m.1,m.2.b,m.2.i,m.2.h,j.1.shut,j.1.Am,j.1.Ax,j.1.last)) λf=>Aa ((⟨f.2.2.2.2.1,f.2.2.2.2.2.1,f.2.2.2.2.2.2.1,f.2.2.2.2.2.2.2⟩:Aw),(⟨f.2.1,f.2.2.1,f.2.2.2.1⟩:B3)))
def Bwh:E Af:=en 14 [Ka,B8] [Azq] (Bw Aes) func14 [Aux,L8,Ab5,Aly,Bwg] [E0 0 [Dw 7,.box 0 0 [.ro (.b 3),.sc 0,.sc 0],.box 5 0 [.sc 1,.ro (.b 7),.ro (.b 9),.sc 0]]] (hx:=λa=>Eq.trans (b:=Bp6 a.1 a.2.1) (by kernel_rfl) (show _=Aes a.1 a.2.1 by simp only[Blb,A45,Blc,A46,Aes,Bp7,A5o,Bp8,Bp9,Bp6,Dv,D8,D3,D5,D2,D4,cond_true,cond_false,D9,Ea,D6,D7,A7h,Blr]<;>rfl))
def Bk4 (n:Int) (b:Bool) (e:List Ao) (c:List A0) (f:Int) (a:List Int) (d:Int):Option (Lr (Bool×List Ao×List A0×Int×List Int×Int) (Bool×List Ao×List A0×Int×List Int×Int)):=
 bif decide ((a.length:Int)<n)then(xg (a.length<1099511627776)<|some (Lr.go (b,e,c,f,a++[-1],d)))else(Aa (Lr.out (b,e,c,f,a,d)))
def A4t (n:Int) (a:Bool×List Ao×List A0×Int×List Int×Int):Option (Lr (Bool×List Ao×List A0×Int×List Int×Int) (Bool×List Ao×List A0×Int×List Int×Int)):=Bk4 n a.1 a.2.1 a.2.2.1 a.2.2.2.1 a.2.2.2.2.1 a.2.2.2.2.2
def Asa (h:Aw) (n:Int):Option (Au×Bool):=
 Ac (Mm h) λe=>Ac (bif !e then(Aa true)else(Ac (Dq n 1 4) λd=>Aa (!d))) λc=>bif c then(Aa ((⟨(⟨false,[],[],0⟩:Aw),[],[],[],0⟩:Au),false))else(Ac (Hk h) λb=>Ac (Cp (A4t n) (b.shut,b.Am,b.Ax,b.last,[],0)) λa=>Aa ((⟨(⟨a.1,a.2.1,a.2.2.1,a.2.2.2.1⟩:Aw),a.2.2.2.2.1,[],[],a.2.2.2.2.2⟩:Au),true))
def Bv5:E Af:=en 15 [Gq,B8] [P0,Bz] (Bw Asa) func15 [Ud,Jl,Uf] [E0 0 [.box 6 0 [.sc 1,.row (.b 7),.row (.b 9),.sc 0,.row (.b 0),.nl,.nl,.sc 0]]]
def Aep (c:B3) (d:Ao):Option (Int×B3):=
 Ac (K0 c 6) λa=>bif a.1 then(Ac (Gy d) λg=>Ac (Rn a.2 d.from_ g) λf=>Aa (f.1,f.2))else(Ac (Gy d) λe=>xg (Aq ((d.list.length:Int)+1))<|Ac (Ch a.2 ((d.list.length:Int)+1)) λb=>xg (Aq (e-b.1))<|some (e-b.1,b.2))
def Bwf:E Af:=en 61 [Ka,Hy] [C4] (Bw Aep) func61 [Nq,L8,A9o,Ab5]
def Ab1 (name:Cea) (d:Ao) (c:B3):Option (Bb×B3):=
 Ac (Ch c 3) λa=>xg (Aq (1+a.1))<|Ac (Tf d (1+a.1)) λh=>xg (Aq (h.1.seq+1))<|Ac (K0 a.2 8) λb=>bif b.1 then(Ac (Ch b.2 2) λe=>xg (Aq (1+e.1))<|Ac (Aep e.2 d) λf=>Ac (Ya f.2 d f.1) λi=>Aa ((⟨2,name,1+a.1,1+e.1,f.1,i.1,[]⟩:Bb),i.2))else(Ac (Aep b.2 d) λg=>Ac (Ya g.2 d g.1) λj=>Aa ((⟨2,name,1+a.1,h.1.seq+1,g.1,j.1,[]⟩:Bb),j.2))
def Alh (name:Cea) (d:Ao) (c:B3):Option (Bb×B3):=
 Ac (Ch c 14) λa=>bif decide (a.1=0)then(Ac (Rp a.2) λo=>Ac (Mo o.2 4) λm=>Aa ((⟨1,o.1,0,0,0,[],m.1⟩:Bb),m.2))else(bif decide (a.1=1)then(Ac (Aep a.2 d) λn=>Aa ((⟨3,name,0,0,n.1,[],[]⟩:Bb),n.2))else(bif decide (a.1=2)then(Aa ((⟨4,name,0,0,0,[],[]⟩:Bb),a.2))else(bif decide (a.1=3)then(Ac (Ch a.2 3) λb=>xg (Aq (1+b.1))<|some ((⟨5,name,0,0,1+b.1,[],[]⟩:Bb),b.2))else(bif decide (a.1=4)then(bif decide (a.1=4)then(Ac (Ch a.2 3) λe=>xg (Aq (1+e.1))<|Ac (Ch e.2 3) λf=>xg (Aq (1+f.1))<|some ((⟨6,Cb,1+e.1,0,1+f.1,[],[]⟩:Bb),f.2))else(bif decide (a.1=6)then(Ac (Ch a.2 3) λg=>xg (Aq (1+g.1))<|some ((⟨7,Cb,1+g.1,0,0,[],[]⟩:Bb),g.2))else(bif decide (a.1=7)then(Ac (K0 a.2 4) λh=>bif h.1 then(Aa ((⟨8,Cb,0,0,0,[],[]⟩:Bb),h.2))else(Ab1 name d h.2))else(Ab1 name d a.2))))else(bif decide (a.1=5)then(Ac (Ch a.2 3) λi=>xg (Aq (1+i.1))<|Ac (Ch i.2 3) λj=>xg (Aq (1+j.1))<|some ((⟨6,Cb,1+i.1,0,1+j.1,[],[]⟩:Bb),j.2))else(bif decide (a.1=6)then(Ac (Ch a.2 3) λk=>xg (Aq (1+k.1))<|some ((⟨7,Cb,1+k.1,0,0,[],[]⟩:Bb),k.2))else(bif decide (a.1=7)then(Ac (K0 a.2 4) λl=>bif l.1 then(Aa ((⟨8,Cb,0,0,0,[],[]⟩:Bb),l.2))else(Ab1 name d l.2))else(Ab1 name d a.2))))))))
def Afq (name:Cea) (h:Aw) (c:B3):Option (Bb×B3):=
 Ac (Lz h name) λr=>bif decide ((0:Int)<=r)then(xg (0<=r/\r<(h.Am.length:Int))<|Alh name (el h.Am r.toNat) c)else(Alh name (⟨Cb,0,[],[],[]⟩:Ao) c)
def Tn (c:B3) (h:Aw):Option (Bb×B3):=
 Ac (Rp c) λr=>bif decide ((0:Int)<(h.Am.length:Int))then(Ac (K0 r.2 6) λq=>bif !q.1 then(Ac (Ch q.2 (h.Am.length:Int)) λk=>xg (0<=k.1/\k.1<(h.Am.length:Int))<|Afq (el h.Am k.1.toNat).name h k.2)else(Afq r.1 h q.2))else(Afq r.1 h r.2)
def Ava:E Af:=en 18 [Ka,Gq] [Ahc] (Bw Tn) func18 [Uc,Auz,L8,Ab5,Aly,Au8,Bwf,A93]
def Aet (k:Int):Option Bool:=
 Ac (Dq k 1 8) λa=>Aa a
def A95:E Af:=en 124 [B8] [Bz] (Bp Aet) func124 [Jl]
def Vl (k:Int):Option Bool:=
 Ac (Dq k 1 5) λa=>Aa a
def Af1:E Af:=en 127 [B8] [Bz] (Bp Vl) func127 [Jl]
def Aa2 (c:Bb):Option Bool:=
 Ac (Aet c.kind) λg=>Ac (bif !g then(Aa true)else(Aa (decide ((8:Int)<(c.Ah.size:Int))))) λd=>Ac (bif d then(Aa true)else(Ac (X9 c.o) λb=>Aa (!b))) λj=>Ac (bif j then(Aa true)else(Ac (Vq c.text) λt=>Aa (!t))) λa=>bif a then(Aa false)else(Ac (Vl c.kind) λs=>Ac (bif !s then(Aa (!decide (c.Ah=(⟨#[]⟩:Cea))))else(Aa false)) λu=>Ac (bif u then(Aa true)else(Ac (bif !decide (c.kind=1)then(Aa (decide ((0:Int)<(c.text.length:Int))))else(Aa false)) λr=>Aa r)) λw=>Ac (bif w then(Aa true)else(Ac (bif !decide (c.kind=2)then(Ac (bif decide ((0:Int)<(c.o.length:Int))then(Aa true)else(Aa (!decide (c.seq=0)))) λv=>Aa v)else(Aa false)) λq=>Aa q)) λh=>bif h then(Aa false)else(Ac (bif decide (c.kind=2)then(Aa true)else(Aa (decide (c.kind=6)))) λi=>Ac (bif i then(Aa true)else(Aa (decide (c.kind=7)))) λx=>Ac (bif decide (c.kind=2)then(Aa true)else(Aa (decide (c.kind=3)))) λf=>Ac (bif f then(Aa true)else(Aa (decide (c.kind=5)))) λp=>Ac (bif p then(Aa true)else(Aa (decide (c.kind=6)))) λe=>Ac (bif x then(Aa true)else(Aa (decide (c.Al=0)))) λm=>Ac (bif m then(Ac (bif e then(Aa true)else(Aa (decide (c.n=0)))) λl=>Aa l)else(Aa false)) λk=>Aa k))
def Alv:E Af:=en 56 [M4] [Bz] (Bp Aa2) func56 [Af1,Au4,Au7,A95]
def Ajl (a:A8) (b:A8):Option Bool:=
 Ac (bif decide (a.Al=b.Al)then(Aa (decide (a.seq=b.seq)))else(Aa false)) λe=>Ac (bif e then(Ac (Aa6 a.o b.o) λd=>Aa d)else(Aa false)) λc=>Aa c
def Bvl:E Af:=en 248 [Uv,Uv] [Bz] (Bw Ajl) func248 [A9g]
def A3x (b:Bi) (a:Bi) (c:Nat) (e:A8):Option (Lr Unit (Sum Unit Unit)):=
 xg (0<=(c:Int)/\(c:Int)<(b.list.length:Int))<|Ac (Ajl e (el b.list c)) λd=>bif !d then(Aa (Lr.out (Bj (()))))else(Aa (Lr.go ()))
def A3y (b:Bi) (a:Bi) (c:Nat) (d:Unit):Option (Lr Unit (Sum Unit Unit)):=A3x b a c (el a.list c)
def Aa1 (a:Bi) (b:Bi):Option Bool:=
 Ac (bif !decide (a.code=b.code)then(Aa true)else(Aa (!decide (a.rev=b.rev)))) λg=>Ac (bif g then(Aa true)else(Ac (Vn a.text b.text) λd=>Aa (!d))) λf=>Ac (bif f then(Aa true)else(Aa (!decide ((a.list.length:Int)=(b.list.length:Int))))) λe=>bif e then(Aa false)else(Ac (A2 (A3y b a) (λj=>(.inl ())) a.list.length 0 ()) λc=>B2 (λi=>Aa true) (λh=>Aa false) c)
def Bn8 (b:Bi) (a:Bi) (c:Nat) (d:A8):Option (Lr Unit (Sum Unit Bool)):=
 xg (0<=(c:Int)/\(c:Int)<(b.list.length:Int))<|Ac (Ajl d (el b.list c)) λe=>bif !e then(Aa (Lr.out (Bj false)))else(Aa (Lr.go ()))
def Bn9 (b:Bi) (a:Bi) (c:Nat) (d:Unit):Option (Lr Unit (Sum Unit Bool)):=Bn8 b a c (el a.list c)
def Bn7 (a:Bi) (b:Bi):Option Bool:=
 Ac (bif !decide (a.code=b.code)then(Aa true)else(Aa (!decide (a.rev=b.rev)))) λe=>Ac (bif e then(Aa true)else(Ac (Vn a.text b.text) λh=>Aa (!h))) λc=>Ac (bif c then(Aa true)else(Aa (!decide ((a.list.length:Int)=(b.list.length:Int))))) λd=>bif d then(Aa false)else(Ac (A2 (Bn9 b a) (λj=>(.inl ())) a.list.length 0 ()) λf=>B2 (λi=>Aa true) (λg=>Aa g) f)
def Bvi:E Af:=en 194 [Ac9,Ac9] [Bz] (Bw Aa1) func194 [Bvl,A9m] [Df 0 39 38 []] (hx:=λa=>Eq.trans (b:=Bn7 a.1 a.2.1) (by kernel_rfl) (show _=Aa1 a.1 a.2.1 by simp only[A3x,A3y,Aa1,Bn8,Bn9,Bn7,Dv,D8,D3,D5,D2,D4,cond_true,cond_false,D9,Ea,D6,D7]<;>rfl))
def Ajw (t:A4):Option Bool:=
 Ac (Aa2 t.c) λn=>Ac (bif !n then(Aa true)else(Ac (Dq t.inv 0 1000000) λi=>Aa (!i))) λf=>Ac (bif f then(Aa true)else(Ac (Dq t.pc 0 4) λh=>Aa (!h))) λo=>bif o then(Aa false)else(Ac (bif decide (t.pc=1)then(Ac (Vl t.c.kind) λv=>Aa (!v))else(Aa false)) λr=>Ac (bif r then(Aa true)else(Ac (bif decide (t.pc=2)then(Aa (!decide (t.c.kind=2)))else(Aa false)) λg=>Aa g)) λj=>bif j then(Aa false)else(bif decide (t.pc<=2)then(Ac (bif decide (t.Bv=(-1))then(Aa (decide (t.Cl=(-1))))else(Aa false)) λp=>Ac (bif p then(Ac (Aa1 t.a (⟨0,0,[],[]⟩:Bi)) λk=>Aa k)else(Aa false)) λd=>Aa d)else(Ac (Aa1 t.a (⟨11,0,[],[]⟩:Bi)) λb=>Ac (bif b then(Aa (decide (t.c.kind=2)))else(Aa false)) λs=>Ac (bif s then(Aa (decide (t.Bv=(-1))))else(Aa false)) λl=>Ac (bif !l then(Ac (Dq t.Bv t.inv 1000000) λe=>Aa (!e))else(Aa false)) λm=>bif m then(Aa false)else(bif decide (t.pc=3)then(Aa (decide (t.Cl=(-1))))else(Ac (Dq t.Cl t.inv 1000000) λu=>Ac (bif u then(Aa (decide (t.Bv<=t.Cl)))else(Aa false)) λq=>Aa q)))))
def Bv1:E Af:=en 120 [W9] [Bz] (Bp Ajw) func120 [Bvi,Alv,Af1,Jl]
def A49 (n:Int) (l:List Int) (b:Nat) (a:Int):Option (Lr Unit (Sum Unit Bool)):=
 bif decide (a=n)then(Aa (Lr.out (Bj (true))))else(Aa (Lr.go ()))
def Ash (n:Int) (l:List Int) (a:Nat) (b:Unit):Option (Lr Unit (Sum Unit Bool)):=A49 n l a (el l a)
def To (l:List Int) (n:Int):Option Bool:=
 Ac (A2 (Ash n l) (λc=>(.inl ())) l.length 0 ()) λb=>B2 (λd=>Aa false) (λa=>Aa a) b
def Bqb (n:Int) (l:List Int) (b:Nat) (a:Int):Option (Lr Unit (Sum Unit Bool)):=
 bif decide (a=n)then(Aa (Lr.out (Bj true)))else(Aa (Lr.go ()))
def Bqc (n:Int) (l:List Int) (a:Nat) (b:Unit):Option (Lr Unit (Sum Unit Bool)):=Bqb n l a (el l a)
def Bqa (l:List Int) (n:Int):Option Bool:=
 Ac (A2 (Bqc n l) (λd=>(.inl ())) l.length 0 ()) λa=>B2 (λc=>Aa false) (λb=>Aa b) a
def A96:E Af:=en 195 [Ii,B8] [Bz] (Bw To) func195 [] [Df 0 9 8 []] (hx:=λa=>Eq.trans (b:=Bqa a.1 a.2.1) (by kernel_rfl) (show _=To a.1 a.2.1 by simp only[A49,Ash,To,Bqb,Bqc,Bqa,Dv,D8,D3,D5,D2,D4,cond_true,cond_false,D9,Ea,D6,D7]<;>rfl))
def Blg (d:Au) (g:Nat) (f:Nat) (a:Int) (b:List Int):Option (Lr (List Int) (Sum (List Int) Bool)):=
 bif decide (a=(-1))then(Aa (Lr.go b))else(Ac (bif decide (d.step<=a)then(Aa true)else(Ac (To b a) λe=>Aa e)) λc=>bif c then(Aa (Lr.out (Bj false)))else(xg (b.length<1099511627776)<|some (Lr.go (b++[a]))))
def A5j (a:Au) (b:Nat) (c:Nat) (d:List Int):Option (Lr (List Int) (Sum (List Int) Bool)):=Blg a b c (el [(el a.Ag b).inv,(el a.Ag b).Bv,(el a.Ag b).Cl] c) d
def Blf (f:Au) (h:Nat) (a:A4) (g:List Int):Option (Lr (List Int) (Sum (List Int) Bool)):=
 Ac (A2 (A5j f h) (λd=>(.inl d)) [a.inv,a.Bv,a.Cl].length 0 g) λc=>B2 (λe=>Aa (Lr.go e)) (λb=>Aa (Lr.out (Bj b))) c
def A5i (a:Au) (b:Nat) (c:List Int):Option (Lr (List Int) (Sum (List Int) Bool)):=Blf a b (el a.Ag b) c
def Akd (a:Au):Option Bool:=
 Ac (A2 (A5i a) (λb=>(.inl b)) a.Ag.length 0 []) λc=>B2 (λe=>Aa true) (λd=>Aa d) c
def Bwo:E Af:=en 121 [G6] [Bz] (Bp Akd) func121 [A96] [Df 2 24 23 [Ev 3 0],Df 0 12 11 [Ev 3 0]]
def Bkk (s:Cea) (b:Int) (a:Int):Option (Lr (Int×Int) Int):=
 bif decide (a<(s.size:Int))then(xg (0<=a/\a<(s.size:Int))<|xg (Aq ((Jv b ((Du s a.toNat).toNat:Int))*16777619))<|xg (0<=((Jv b ((Du s a.toNat).toNat:Int))*16777619)/\0<(4294967296:Int))<|xg (Aq (a+1))<|some (Lr.go (((Jv b ((Du s a.toNat).toNat:Int))*16777619) % 4294967296,a+1)))else(Aa (Lr.out b))
def Bkl (s:Cea) (a:Int×Int):Option (Lr (Int×Int) Int):=Bkk s a.1 a.2
def Ajm (s:Cea):Option Int:=
 Ac (Cp (Bkl s) (2166136261,0)) λa=>Aa a
def Boj (s:Cea) (b:Int) (a:Int):Option (Lr (Int×Int) (Int×Int)):=
 bif decide (a<(s.size:Int))then(xg (0<=a/\a<(s.size:Int))<|xg (Aq ((Jv b ((Du s a.toNat).toNat:Int))*16777619))<|xg (0<=((Jv b ((Du s a.toNat).toNat:Int))*16777619)/\0<(4294967296:Int))<|xg (Aq (a+1))<|some (Lr.go (((Jv b ((Du s a.toNat).toNat:Int))*16777619) % 4294967296,a+1)))else(Aa (Lr.out (b,a)))
def Bok (s:Cea) (a:Int×Int):Option (Lr (Int×Int) (Int×Int)):=Boj s a.1 a.2
def Boi (s:Cea):Option Int:=
 Ac (Cp (Bok s) (2166136261,0)) λa=>Aa a.1
def Bvn:E Af:=en 200 [E9] [C4] (Bp Ajm) func200 [] [E0 0 [Dw 3,Dw 4]] (hx:=λa=>Eq.trans (b:=Boi a.1) (by kernel_rfl) (show _=Ajm a.1 by simp only[Bkk,Bkl,Ajm,Boj,Bok,Boi,Dv,D8,D3,D5,D2,D4,cond_true,cond_false,D9,Ea,D6,D7]<;>rfl))
def Vo (b:Cea) (n:Int):Option Int:=
 bif decide (n<1)then(Aa 0)else(Ac (Ajm b) λa=>xg (0<=a/\0<n)<|some (a % n))
def Au2:E Af:=en 137 [E9,B8] [C4] (Bw Vo) func137 [Bvn]
def A5a (b:Au) (d:Nat) (a:Int):Option (Lr Unit (Sum Unit Unit)):=
 bif decide (a=(-1))then(Aa (Lr.go ()))else(xg (Aq ((b.Ag.length:Int)-1))<|Ac (Dq a 0 ((b.Ag.length:Int)-1)) λf=>Ac (bif !f then(Aa true)else(xg (0<=a/\a<(b.Ag.length:Int))<|some (!decide (((el b.Ag (a.toNat)).pc)=1)))) λg=>Ac (bif g then(Aa true)else(xg (0<=a/\a<(b.Ag.length:Int))<|Ac (Vo ((el b.Ag (a.toNat)).c.Ah) (b.Az.length:Int)) λh=>Aa (!decide (h=(d:Int))))) λe=>bif e then(Aa (Lr.out (Bj (()))))else(Aa (Lr.go ())))
def A5c (b:Au) (a:Nat) (c:Unit):Option (Lr Unit (Sum Unit Unit)):=A5a b a (el b.Az a)
def A5b (a:Au) (f:Nat) (d:A4):Option (Lr Unit (Sum Unit Bool)):=
 Ac (bif decide ((d.pc)=1)then(Ac (Vo (d.c.Ah) (a.Az.length:Int)) λb=>xg (0<=b/\b<(a.Az.length:Int))<|some (!decide ((el a.Az b.toNat)=(f:Int))))else(Aa false)) λe=>bif e then(Aa (Lr.out (Bj (false))))else(Aa (Lr.go ()))
def A5d (a:Au) (b:Nat) (c:Unit):Option (Lr Unit (Sum Unit Bool)):=A5b a b (el a.Ag b)
def Abb (a:Au):Option Bool:=
 Ac (A2 (A5c a) (λh=>(.inl ())) a.Az.length 0 ()) λc=>B2 (λi=>Ac (A2 (A5d a) (λe=>(.inl ())) a.Ag.length 0 ()) λb=>B2 (λg=>Aa true) (λd=>Aa d) b) (λf=>Aa false) c
def Bqe (b:Au) (d:Nat) (a:Int):Option (Lr Unit (Sum Unit Bool)):=
 bif decide (a=(-1))then(Aa (Lr.go ()))else(xg (Aq ((b.Ag.length:Int)-1))<|Ac (Dq a 0 ((b.Ag.length:Int)-1)) λf=>Ac (bif !f then(Aa true)else(xg (0<=a/\a<(b.Ag.length:Int))<|some (!decide (((el b.Ag (a.toNat)).pc)=1)))) λh=>Ac (bif h then(Aa true)else(xg (0<=a/\a<(b.Ag.length:Int))<|Ac (Vo ((el b.Ag (a.toNat)).c.Ah) (b.Az.length:Int)) λe=>Aa (!decide (e=(d:Int))))) λg=>bif g then(Aa (Lr.out (Bj false)))else(Aa (Lr.go ())))
def Bqg (b:Au) (a:Nat) (c:Unit):Option (Lr Unit (Sum Unit Bool)):=Bqe b a (el b.Az a)
def Bqf (b:Au) (e:Nat) (d:A4):Option (Lr Unit (Sum Unit Bool)):=
 Ac (bif decide ((d.pc)=1)then(Ac (Vo (d.c.Ah) (b.Az.length:Int)) λa=>xg (0<=a/\a<(b.Az.length:Int))<|some (!decide ((el b.Az a.toNat)=(e:Int))))else(Aa false)) λf=>bif f then(Aa (Lr.out (Bj false)))else(Aa (Lr.go ()))
def Bqh (b:Au) (a:Nat) (c:Unit):Option (Lr Unit (Sum Unit Bool)):=Bqf b a (el b.Ag a)
def Bqd (a:Au):Option Bool:=
 Ac (A2 (Bqg a) (λf=>(.inl ())) a.Az.length 0 ()) λc=>B2 (λh=>Ac (A2 (Bqh a) (λg=>(.inl ())) a.Ag.length 0 ()) λb=>B2 (λi=>Aa true) (λe=>Aa e) b) (λd=>Aa d) c
def Bwm:E Af:=en 122 [G6] [Bz] (Bp Abb) func122 [Au2,Jl] [Df 0 10 9 [],Df 2 52 51 []] (hx:=λa=>Eq.trans (b:=Bqd a.1) (by kernel_rfl) (show _=Abb a.1 by simp only[A5a,A5c,A5b,A5d,Abb,Bqe,Bqg,Bqf,Bqh,Bqd,Dv,D8,D3,D5,D2,D4,cond_true,cond_false,D9,Ea,D6,D7]<;>rfl))
def A5f (b:Au) (f:Nat) (k:Nat) (a:Int) (d:List Int):Option (Lr (List Int) (Sum (List Int) Bool)):=
 xg (Aq ((b.Ag.length:Int)-1))<|Ac (Dq a 0 ((b.Ag.length:Int)-1)) λg=>Ac (bif !g then(Aa true)else(xg (0<=a/\a<(b.Ag.length:Int))<|some (!decide (((el b.Ag (a.toNat)).pc)=2)))) λe=>Ac (bif e then(Aa true)else(xg (0<=a/\a<(b.Ag.length:Int))<|some (!decide ((el b.Ag (a.toNat)).c.Ah=(el b.An f).Ah)))) λi=>Ac (bif i then(Aa true)else(Ac (To d a) λj=>Aa j)) λh=>bif h then(Aa (Lr.out (Bj (false))))else(xg (d.length<1099511627776)<|some (Lr.go (d++[a])))
def Asj (a:Au) (b:Nat) (c:Nat) (d:List Int):Option (Lr (List Int) (Sum (List Int) Bool)):=A5f a b c (el ((el a.An b).list) c) d
def A5e (c:Au) (a:Nat) (b:Ba) (d:List Int):Option (Lr (List Int) (Sum (List Int) Bool)):=
 Ac (bif decide ((0:Int)<(a:Int))then(xg (Aq ((a:Int)-1))<|xg (0<=((a:Int)-1)/\((a:Int)-1)<(c.An.length:Int))<|some (!Cv ((el c.An (((a:Int)-1).toNat)).Ah) (b.Ah)))else(Aa false)) λf=>Ac (bif f then(Aa true)else(Ac (Dq ((b.list).length:Int) 1 2) λn=>Aa (!n))) λm=>Ac (bif m then(Aa true)else(Ac (Lz c.h (b.Ah)) λg=>Aa (decide (g<0)))) λk=>bif k then(Aa (Lr.out (Bj (false))))else(Ac (A2 (Asj c a) (λj=>(.inl j)) (b.list).length 0 d) λi=>B2 (λe=>Aa (Lr.go e)) (λl=>Aa (Lr.out (Bj (l)))) i)
def Asi (a:Au) (b:Nat) (c:List Int):Option (Lr (List Int) (Sum (List Int) Bool)):=A5e a b (el a.An b) c
def A5g (a:List Int) (f:Au) (e:Nat) (b:A4):Option (Lr Unit (Sum Unit Bool)):=
 Ac (bif decide ((b.pc)=2)then(Ac (To a (e:Int)) λd=>Aa (!d))else(Aa false)) λc=>bif c then(Aa (Lr.out (Bj (false))))else(Aa (Lr.go ()))
def A5h (c:List Int) (a:Au) (b:Nat) (d:Unit):Option (Lr Unit (Sum Unit Bool)):=A5g c a b (el a.Ag b)
def Abc (a:Au):Option Bool:=
 Ac (A2 (Asi a) (λg=>(.inl g)) a.An.length 0 []) λe=>B2 (λf=>Ac (A2 (A5h f a) (λh=>(.inl ())) a.Ag.length 0 ()) λc=>B2 (λi=>Aa true) (λd=>Aa d) c) (λb=>Aa b) e
def Bqk (b:Au) (e:Nat) (k:Nat) (a:Int) (d:List Int):Option (Lr (List Int) (Sum (List Int) Bool)):=
 xg (Aq ((b.Ag.length:Int)-1))<|Ac (Dq a 0 ((b.Ag.length:Int)-1)) λi=>Ac (bif !i then(Aa true)else(xg (0<=a/\a<(b.Ag.length:Int))<|some (!decide (((el b.Ag (a.toNat)).pc)=2)))) λh=>Ac (bif h then(Aa true)else(xg (0<=a/\a<(b.Ag.length:Int))<|some (!decide ((el b.Ag (a.toNat)).c.Ah=(el b.An e).Ah)))) λj=>Ac (bif j then(Aa true)else(Ac (To d a) λf=>Aa f)) λg=>bif g then(Aa (Lr.out (Bj false)))else(xg (d.length<1099511627776)<|some (Lr.go (d++[a])))
def Bqn (a:Au) (b:Nat) (c:Nat) (d:List Int):Option (Lr (List Int) (Sum (List Int) Bool)):=Bqk a b c (el ((el a.An b).list) c) d
def Bqj (b:Au) (a:Nat) (c:Ba) (j:List Int):Option (Lr (List Int) (Sum (List Int) Bool)):=
 Ac (bif decide ((0:Int)<(a:Int))then(xg (Aq ((a:Int)-1))<|xg (0<=((a:Int)-1)/\((a:Int)-1)<(b.An.length:Int))<|some (!Cv ((el b.An (((a:Int)-1).toNat)).Ah) (c.Ah)))else(Aa false)) λk=>Ac (bif k then(Aa true)else(Ac (Dq ((c.list).length:Int) 1 2) λd=>Aa (!d))) λf=>Ac (bif f then(Aa true)else(Ac (Lz b.h (c.Ah)) λl=>Aa (decide (l<0)))) λg=>bif g then(Aa (Lr.out (Bj false)))else(Ac (A2 (Bqn b a) (λi=>(.inl i)) (c.list).length 0 j) λn=>B2 (λm=>Aa (Lr.go m)) (λe=>Aa (Lr.out (Bj e))) n)
def Bqm (a:Au) (b:Nat) (c:List Int):Option (Lr (List Int) (Sum (List Int) Bool)):=Bqj a b (el a.An b) c
def Bql (e:List Int) (f:Au) (c:Nat) (b:A4):Option (Lr Unit (Sum Unit Bool)):=
 Ac (bif decide ((b.pc)=2)then(Ac (To e (c:Int)) λd=>Aa (!d))else(Aa false)) λa=>bif a then(Aa (Lr.out (Bj false)))else(Aa (Lr.go ()))
def Bqo (c:List Int) (a:Au) (b:Nat) (d:Unit):Option (Lr Unit (Sum Unit Bool)):=Bql c a b (el a.Ag b)
def Bqi (a:Au):Option Bool:=
 Ac (A2 (Bqm a) (λf=>(.inl f)) a.An.length 0 []) λb=>B2 (λc=>Ac (A2 (Bqo c a) (λi=>(.inl ())) a.Ag.length 0 ()) λg=>B2 (λh=>Aa true) (λd=>Aa d) g) (λe=>Aa e) b
def Bwn:E Af:=en 123 [G6] [Bz] (Bp Abc) func123 [Uc,Jl,A96] [Df 2 51 50 [Ev 3 0],Df 0 14 13 [Ev 3 0],Df 4 97 96 []] (hx:=λa=>Eq.trans (b:=Bqi a.1) (by kernel_rfl) (show _=Abc a.1 by simp only[A5f,Asj,A5e,Asi,A5g,A5h,Abc,Bqk,Bqn,Bqj,Bqm,Bql,Bqo,Bqi,Dv,D8,D3,D5,D2,D4,cond_true,cond_false,D9,Ea,D6,D7]<;>rfl))
def A4u (d:Au) (c:Nat) (a:A4):Option (Lr Unit (Sum Unit Unit)):=
 Ac (Ajw a) λb=>bif !b then(Aa (Lr.out (Bj (()))))else(Aa (Lr.go ()))
def A4v (b:Au) (a:Nat) (c:Unit):Option (Lr Unit (Sum Unit Unit)):=A4u b a (el b.Ag a)
def X6 (a:Au):Option Bool:=
 Ac (A2 (A4v a) (λr=>(.inl ())) a.Ag.length 0 ()) λk=>B2 (λq=>Ac (Mm a.h) λo=>Ac (bif o then(Ac (Dq (a.Az.length:Int) 1 4) λm=>Aa m)else(Aa false)) λg=>Ac (bif g then(Aa (decide ((a.Ag.length:Int)<=10)))else(Aa false)) λj=>Ac (bif j then(Ac (Dq a.step 0 1000000) λb=>Aa b)else(Aa false)) λl=>Ac (bif l then(Ac (Akd a) λc=>Aa c)else(Aa false)) λe=>Ac (bif e then(Ac (Abb a) λn=>Aa n)else(Aa false)) λf=>Ac (bif f then(Ac (Abc a) λi=>Aa i)else(Aa false)) λd=>Aa d) (λp=>Aa false) k
def Bpi (d:Au) (c:Nat) (a:A4):Option (Lr Unit (Sum Unit Bool)):=
 Ac (Ajw a) λb=>bif !b then(Aa (Lr.out (Bj false)))else(Aa (Lr.go ()))
def Bpj (b:Au) (a:Nat) (c:Unit):Option (Lr Unit (Sum Unit Bool)):=Bpi b a (el b.Ag a)
def Bph (a:Au):Option Bool:=
 Ac (A2 (Bpj a) (λq=>(.inl ())) a.Ag.length 0 ()) λb=>B2 (λr=>Ac (Mm a.h) λg=>Ac (bif g then(Ac (Dq (a.Az.length:Int) 1 4) λl=>Aa l)else(Aa false)) λo=>Ac (bif o then(Aa (decide ((a.Ag.length:Int)<=10)))else(Aa false)) λc=>Ac (bif c then(Ac (Dq a.step 0 1000000) λm=>Aa m)else(Aa false)) λn=>Ac (bif n then(Ac (Akd a) λi=>Aa i)else(Aa false)) λj=>Ac (bif j then(Ac (Abb a) λk=>Aa k)else(Aa false)) λd=>Ac (bif d then(Ac (Abc a) λe=>Aa e)else(Aa false)) λp=>Aa p) (λf=>Aa f) b
def Au5:E Af:=en 55 [G6] [Bz] (Bp X6) func55 [Ud,Bv1,Jl,Bwm,Bwn,Bwo] [Df 0 8 7 []] (hx:=λa=>Eq.trans (b:=Bph a.1) (by kernel_rfl) (show _=X6 a.1 by simp only[A4u,A4v,X6,Bpi,Bpj,Bph,Dv,D8,D3,D5,D2,D4,cond_true,cond_false,D9,Ea,D6,D7]<;>rfl))
def Aka (c:Bb):Option Bb:=
 Ac (Aen c.o) λa=>xg (0+c.text.length<=1099511627776)<|some (⟨c.kind,c.Ah,c.Al,c.seq,c.n,a,[]++c.text⟩:Bb)
def A94:E Af:=en 58 [M4] [Ahc] (Bp Aka) func58 [Au6]
def Asg (a:Bi):Option Bi:=
 xg (0+a.text.length<=1099511627776)<|Ac (Ro a.list) λb=>Aa (⟨a.code,a.rev,[]++a.text,b⟩:Bi)
def Bwj:E Af:=en 198 [Ac9] [Adh] (Bp Asg) func198 [Af3]
def Asl (t:A4):Option A4:=
 Ac (Aka t.c) λb=>Ac (Asg t.a) λd=>Aa (⟨b,t.pc,t.inv,t.Bv,t.Cl,d⟩:A4)
def Bwp:E Af:=en 128 [W9] [⟨true,.b 14,false⟩] (Bp Asl) func128 [Bwj,A94]
def Bld (j:Au) (i:Nat) (a:Ba) (d:Bool) (c:List Ao) (g:List A0) (e:Int) (h:List Int) (b:List Ba) (f:Int):Option (Lr (Bool×List Ao×List A0×Int×List Int×List Ba×Int) (Bool×List Ao×List A0×Int×List Int×List Ba×Int)):=
 xg (0+(a.list).length<=1099511627776)<|xg (b.length+[(⟨a.Ah,[]++(a.list)⟩:Ba)].length<=1099511627776)<|some (Lr.go (d,c,g,e,h,b++[(⟨a.Ah,[]++(a.list)⟩:Ba)],f))
def A47 (c:Au) (b:Nat) (a:Bool×List Ao×List A0×Int×List Int×List Ba×Int):Option (Lr (Bool×List Ao×List A0×Int×List Int×List Ba×Int) (Bool×List Ao×List A0×Int×List Int×List Ba×Int)):=Bld c b (el c.An b) a.1 a.2.1 a.2.2.1 a.2.2.2.1 a.2.2.2.2.1 a.2.2.2.2.2.1 a.2.2.2.2.2.2
def Ble (k:Au) (l:Nat) (i:A4) (c:Bool) (f:List Ao) (g:List A0) (e:Int) (j:List Int) (d:List Ba) (b:List A4) (h:Int):Option (Lr (Bool×List Ao×List A0×Int×List Int×List Ba×List A4×Int) (Bool×List Ao×List A0×Int×List Int×List Ba×List A4×Int)):=
 Ac (Asl i) λa=>xg (b.length+[a].length<=549755813888)<|some (Lr.go (c,f,g,e,j,d,b++[a],h))
def A48 (b:Au) (c:Nat) (a:Bool×List Ao×List A0×Int×List Int×List Ba×List A4×Int):Option (Lr (Bool×List Ao×List A0×Int×List Int×List Ba×List A4×Int) (Bool×List Ao×List A0×Int×List Int×List Ba×List A4×Int)):=Ble b c (el b.Ag c) a.1 a.2.1 a.2.2.1 a.2.2.2.1 a.2.2.2.2.1 a.2.2.2.2.2.1 a.2.2.2.2.2.2.1 a.2.2.2.2.2.2.2
def Qf (a:Au):Option Au:=
 Ac (Hk a.h) λf=>xg (0+a.Az.length<=1099511627776)<|Ac (A2 (A47 a) (λd=>(d.1,d.2.1,d.2.2.1,d.2.2.2.1,d.2.2.2.2.1,d.2.2.2.2.2.1,d.2.2.2.2.2.2)) a.An.length 0 (f.shut,f.Am,f.Ax,f.last,[]++a.Az,[],a.step)) λe=>Ac (A2 (A48 a) (λc=>(c.1,c.2.1,c.2.2.1,c.2.2.2.1,c.2.2.2.2.1,c.2.2.2.2.2.1,c.2.2.2.2.2.2.1,c.2.2.2.2.2.2.2)) a.Ag.length 0 (e.1,e.2.1,e.2.2.1,e.2.2.2.1,e.2.2.2.2.1,e.2.2.2.2.2.1,[],e.2.2.2.2.2.2)) λb=>Aa (⟨(⟨b.1,b.2.1,b.2.2.1,b.2.2.2.1⟩:Aw),b.2.2.2.2.1,b.2.2.2.2.2.1,b.2.2.2.2.2.2.1,b.2.2.2.2.2.2.2⟩:Au)
def Alz:E Af:=en 57 [G6] [P0] (Bp Qf) func57 [Uf,Bwp] [Fb 0 21 20 [.box 3 0 [.sc 1,.row (.b 7),.row (.b 9),.sc 0,.row (.b 0),.row (.b 11),.nl,.sc 0]],Fb 2 41 40 [.box 3 0 [.sc 1,.row (.b 7),.row (.b 9),.sc 0,.row (.b 0),.row (.b 11),.row (.b 14),.sc 0]]]
def Vk (a:Au) (c:Bb):Option (Au×Bool):=
 Ac (X6 a) λg=>Ac (bif !g then(Aa true)else(Ac (Aa2 c) λe=>Aa (!e))) λf=>Ac (bif f then(Aa true)else(Aa (decide ((a.Ag.length:Int)=10)))) λj=>Ac (bif j then(Aa true)else(Aa (decide (a.step=1000000)))) λi=>bif i then(Aa ((⟨(⟨false,[],[],0⟩:Aw),[],[],[],0⟩:Au),false))else(Ac (Qf a) λb=>Ac (Aka c) λd=>xg (b.Ag.length+[(⟨d,0,a.step,-1,-1,(⟨0,0,[],[]⟩:Bi)⟩:A4)].length<=549755813888)<|xg (Aq (a.step+1))<|some ((⟨b.h,b.Az,b.An,b.Ag++[(⟨d,0,a.step,-1,-1,(⟨0,0,[],[]⟩:Bi)⟩:A4)],a.step+1⟩:Au),true))
def Aut:E Af:=en 17 [G6,M4] [P0,Bz] (Bw Vk) func17 [Alv,Au5,A94,Alz]
def Blj (a:Cea) (d:Au) (c:Nat) (b:Ba):Option (Lr Unit (Sum Unit Int)):=
 bif decide (b.Ah=a)then(Aa (Lr.out (Bj (c:Int))))else(Aa (Lr.go ()))
def Bll (c:Cea) (a:Au) (b:Nat) (d:Unit):Option (Lr Unit (Sum Unit Int)):=Blj c a b (el a.An b)
def Aeu (a:Au) (b:Cea):Option Int:=
 Ac (A2 (Bll b a) (λf=>(.inl ())) a.An.length 0 ()) λd=>B2 (λe=>Aa (-1)) (λc=>Aa c) d
def Avc:E Af:=en 135 [G6,E9] [C4] (Bw Aeu) func135 [] [Df 0 10 9 []]
def Ary (d:Ao) (a:Int):Option (List A8×Int):=
 Ac (O7 d) λb=>bif !b then(Aa ([],1))else(Ac (Gy d) λc=>bif decide (c<a)then(Aa ([],2))else(bif decide (a<d.from_)then(Aa ([],3))else(xg (Aq (a-d.from_))<|xg (0<=(a-d.from_)/\(a-d.from_)<=(d.list.length:Int))<|Ac (Ro ((d.list.take d.list.length).drop ((a-d.from_).toNat))) λe=>Aa (e,0))))
def Bvm:E Af:=en 289 [Hy,B8] [Xh,C4] (Bw Ary) func289 [Y1,Nq,Af3]
def Akb (h:Aw) (c:Bb):Option Bi:=
 Ac (Lz h c.Ah) λa=>bif h.shut then(Aa (⟨12,0,[],[]⟩:Bi))else(bif decide (a<0)then(Aa (⟨6,0,[],[]⟩:Bi))else(bif decide (c.kind=4)then(xg (0<=a/\a<(h.Am.length:Int))<|xg (0<=a/\a<(h.Am.length:Int))<|Ac (Aee (el h.Am a.toNat)) λe=>Ac (Gy (el h.Am a.toNat)) λd=>Aa (⟨0,d,e,[]⟩:Bi))else(xg (0<=a/\a<(h.Am.length:Int))<|Ac (Ary (el h.Am a.toNat) c.n) λb=>Aa (⟨b.2,0,[],b.1⟩:Bi))))
def Bwk:E Af:=en 250 [Gq,M4] [Adh] (Bw Akb) func250 [Bvm,Nq,Auw,Uc]
def Ajn (h:Aw):Option (Aw×Int):=
 Ac (Mm h) λb=>bif !b then(Aa ((⟨false,[],[],0⟩:Aw),1))else(bif h.shut then(Aa ((⟨false,[],[],0⟩:Aw),12))else(Ac (Hk h) λa=>Aa ((⟨true,a.Am,a.Ax,a.last⟩:Aw),0)))
def Bvo:E Af:=en 251 [Gq] [Ls,C4] (Bp Ajn) func251 [Ud,Uf]
def Arw (h:Aw) (c:Bb):Option (Aw×Bi):=
 Ac (Mm h) λp=>Ac (bif !p then(Aa true)else(Ac (Aa2 c) λv=>Aa (!v))) λu=>bif u then(Ac (Hk h) λw=>Aa (w,(⟨1,0,[],[]⟩:Bi)))else(bif decide (c.kind=1)then(Ac (Td h c.Ah c.text) λk=>bif !decide (k.2=0)then(Ac (Hk h) λr=>Aa (r,(⟨k.2,0,[],[]⟩:Bi)))else(Aa (k.1,(⟨0,0,[],[]⟩:Bi))))else(bif decide (c.kind=2)then(Ac (Ajo h c.Ah c.Al c.seq c.n c.o) λe=>bif !decide (e.2.2=0)then(Ac (Hk h) λB=>Aa (B,(⟨e.2.2,0,[],[]⟩:Bi)))else(Aa (e.1,(⟨0,e.2.1,[],[]⟩:Bi))))else(bif decide (c.kind=3)then(bif decide (c.kind=3)then(Ac (Hk h) λD=>Ac (Akb h c) λy=>Aa (D,y))else(bif decide (c.kind=5)then(Ac (Aeh h c.Ah c.n) λf=>bif !decide (f.2.2=0)then(Ac (Hk h) λA=>Aa (A,(⟨f.2.2,0,[],[]⟩:Bi)))else(Aa (f.1,(⟨0,f.2.1,[],[]⟩:Bi))))else(bif decide (c.kind=6)then(Ac (Aef h c.Al c.n) λg=>bif !decide (g.2.2=0)then(Ac (Hk h) λs=>Aa (s,(⟨g.2.2,0,[],[]⟩:Bi)))else(Aa (g.1,(⟨0,0,[],g.2.1⟩:Bi))))else(bif decide (c.kind=7)then(Ac (Aeg h c.Al) λb=>bif !decide (b.2.2.2=0)then(Ac (Hk h) λt=>Aa (t,(⟨b.2.2.2,0,[],[]⟩:Bi)))else(Aa (b.1,(⟨0,b.2.2.1,b.2.1,[]⟩:Bi))))else(Ac (Ajn h) λl=>bif !decide (l.2=0)then(Ac (Hk h) λG=>Aa (G,(⟨l.2,0,[],[]⟩:Bi)))else(Aa (l.1,(⟨0,0,[],[]⟩:Bi))))))))else(bif decide (c.kind=4)then(Ac (Hk h) λm=>Ac (Akb h c) λz=>Aa (m,z))else(bif decide (c.kind=5)then(Ac (Aeh h c.Ah c.n) λi=>bif !decide (i.2.2=0)then(Ac (Hk h) λx=>Aa (x,(⟨i.2.2,0,[],[]⟩:Bi)))else(Aa (i.1,(⟨0,i.2.1,[],[]⟩:Bi))))else(bif decide (c.kind=6)then(Ac (Aef h c.Al c.n) λd=>bif !decide (d.2.2=0)then(Ac (Hk h) λq=>Aa (q,(⟨d.2.2,0,[],[]⟩:Bi)))else(Aa (d.1,(⟨0,0,[],d.2.1⟩:Bi))))else(bif decide (c.kind=7)then(Ac (Aeg h c.Al) λa=>bif !decide (a.2.2.2=0)then(Ac (Hk h) λF=>Aa (F,(⟨a.2.2.2,0,[],[]⟩:Bi)))else(Aa (a.1,(⟨0,a.2.2.1,a.2.1,[]⟩:Bi))))else(Ac (Ajn h) λj=>bif !decide (j.2=0)then(Ac (Hk h) λC=>Aa (C,(⟨j.2,0,[],[]⟩:Bi)))else(Aa (j.1,(⟨0,0,[],[]⟩:Bi)))))))))))
def Bvj:E Af:=en 199 [Gq,M4] [Ls,Adh] (Bw Arw) func199 [Alv,Ud,Aux,A89,A9a,Bvo,A9c,A9d,Uf,Bwk]
def Abd (b:Au) (k:Int):Option Au:=
 xg (0<=k/\k<(b.Ag.length:Int))<|Ac (Arw b.h ((el b.Ag k.toNat).c)) λd=>xg (0<=k/\k<(b.Ag.length:Int))<|xg (0<=k/\k<((stE b.Ag k.toNat λz=>(⟨(⟨z.c.kind,z.c.Ah,z.c.Al,z.c.seq,z.c.n,z.c.o,z.c.text⟩:Bb),z.pc,z.inv,z.Bv,z.Cl,d.2⟩:A4)).length:Int))<|xg (0<=k/\k<((stE (stE b.Ag k.toNat λz=>(⟨(⟨z.c.kind,z.c.Ah,z.c.Al,z.c.seq,z.c.n,z.c.o,z.c.text⟩:Bb),z.pc,z.inv,z.Bv,z.Cl,d.2⟩:A4)) k.toNat λz=>(⟨(⟨z.c.kind,z.c.Ah,z.c.Al,z.c.seq,z.c.n,z.c.o,z.c.text⟩:Bb),z.pc,z.inv,b.step,z.Cl,(⟨z.a.code,z.a.rev,z.a.text,z.a.list⟩:Bi)⟩:A4)).length:Int))<|some (⟨d.1,b.Az,b.An,stE (stE (stE b.Ag k.toNat λz=>(⟨(⟨z.c.kind,z.c.Ah,z.c.Al,z.c.seq,z.c.n,z.c.o,z.c.text⟩:Bb),z.pc,z.inv,z.Bv,z.Cl,d.2⟩:A4)) k.toNat λz=>(⟨(⟨z.c.kind,z.c.Ah,z.c.Al,z.c.seq,z.c.n,z.c.o,z.c.text⟩:Bb),z.pc,z.inv,b.step,z.Cl,(⟨z.a.code,z.a.rev,z.a.text,z.a.list⟩:Bi)⟩:A4)) k.toNat λz=>(⟨(⟨z.c.kind,z.c.Ah,z.c.Al,z.c.seq,z.c.n,z.c.o,z.c.text⟩:Bb),3,z.inv,z.Bv,z.Cl,(⟨z.a.code,z.a.rev,z.a.text,z.a.list⟩:Bi)⟩:A4),b.step⟩:Au)
def Avb:E Af:=en 136 [Aod,B8] [] (Bw Abd) func136 [Bvj]
def Tg (c:Au) (f:Cea):Option (Au×Bool):=
 Ac (Aeu c f) λa=>Ac (X6 c) λj=>Ac (bif !j then(Aa true)else(Aa (decide (c.step=1000000)))) λg=>Ac (bif g then(Aa true)else(Aa (decide (a<0)))) λi=>bif i then(Aa ((⟨(⟨false,[],[],0⟩:Aw),[],[],[],0⟩:Au),false))else(Ac (Qf c) λb=>xg (0<=a/\a<(b.An.length:Int))<|xg (0<=(0:Int)/\(0:Int)<(((el b.An a.toNat).list).length:Int))<|xg (0<=a/\a<(b.An.length:Int))<|xg (0<=(1:Int)/\(1:Int)<=(((el b.An a.toNat).list).length:Int))<|xg (0<=a/\a<(b.An.length:Int))<|xg (a.toNat=a.toNat)<|xg (0<=a/\a<((stE b.An a.toNat λz=>(⟨z.Ah,(((el b.An a.toNat).list).take ((el b.An a.toNat).list).length).drop 1⟩:Ba)).length:Int))<|bif decide ((((el (stE b.An a.toNat λz=>(⟨z.Ah,(((el b.An a.toNat).list).take ((el b.An a.toNat).list).length).drop 1⟩:Ba)) a.toNat).list).length:Int)=0)then(xg (0<=a/\a<=((stE b.An a.toNat λz=>(⟨z.Ah,(((el b.An a.toNat).list).take ((el b.An a.toNat).list).length).drop 1⟩:Ba)).length:Int))<|xg (0+a.toNat<=1099511627776)<|xg (Aq (a+1))<|xg ((a.toNat:Int)<=(a+1)/\(a+1)<=((stE b.An a.toNat λz=>(⟨z.Ah,(((el b.An a.toNat).list).take ((el b.An a.toNat).list).length).drop 1⟩:Ba)).length:Int))<|xg (([]++(stE b.An a.toNat λz=>(⟨z.Ah,(((el b.An a.toNat).list).take ((el b.An a.toNat).list).length).drop 1⟩:Ba)).take a.toNat).length+(((stE b.An a.toNat λz=>(⟨z.Ah,(((el b.An a.toNat).list).take ((el b.An a.toNat).list).length).drop 1⟩:Ba)).take (stE b.An a.toNat λz=>(⟨z.Ah,(((el b.An a.toNat).list).take ((el b.An a.toNat).list).length).drop 1⟩:Ba)).length).drop ((a+1).toNat)).length<=1099511627776)<|Ac (Abd (⟨b.h,b.Az,([]++(stE b.An a.toNat λz=>(⟨z.Ah,(((el b.An a.toNat).list).take ((el b.An a.toNat).list).length).drop 1⟩:Ba)).take a.toNat)++(((stE b.An a.toNat λz=>(⟨z.Ah,(((el b.An a.toNat).list).take ((el b.An a.toNat).list).length).drop 1⟩:Ba)).take (stE b.An a.toNat λz=>(⟨z.Ah,(((el b.An a.toNat).list).take ((el b.An a.toNat).list).length).drop 1⟩:Ba)).length).drop ((a+1).toNat)),b.Ag,b.step⟩:Au) (el ((el b.An a.toNat).list) 0)) λe=>xg (Aq (c.step+1))<|some ((⟨e.h,e.Az,e.An,e.Ag,c.step+1⟩:Au),true))else(Ac (Abd (⟨b.h,b.Az,stE b.An a.toNat λz=>(⟨z.Ah,(((el b.An a.toNat).list).take ((el b.An a.toNat).list).length).drop 1⟩:Ba),b.Ag,b.step⟩:Au) (el ((el b.An a.toNat).list) 0)) λd=>xg (Aq (c.step+1))<|some ((⟨d.h,d.Az,d.An,d.Ag,c.step+1⟩:Au),true)))
def A9k:E Af:=en 64 [G6,E9] [P0,Bz] (Bw Tg) func64 [Au5,Alz,Avb,Avc] (mv:=true)
def Blh (b:Au) (k:Int) (a:Int):Option (Lr Int Int):=
 Ac (bif decide (a<(b.An.length:Int))then(xg (0<=a/\a<(b.An.length:Int))<|some (Cv ((el b.An a.toNat).Ah) ((el b.Ag k.toNat).c.Ah)))else(Aa false)) λd=>bif d then(xg (Aq (a+1))<|some (Lr.go (a+1)))else(Aa (Lr.out a))
def Bli (b:Au) (k:Int) (a:Int):Option (Lr Int Int):=Blh b k a
def Asm (b:Au) (k:Int):Option Au:=
 xg (0<=k/\k<(b.Ag.length:Int))<|xg (0<=k/\k<(b.Ag.length:Int))<|Ac (Aeu (⟨b.h,b.Az,b.An,stE b.Ag k.toNat λz=>(⟨(⟨z.c.kind,z.c.Ah,z.c.Al,z.c.seq,z.c.n,z.c.o,z.c.text⟩:Bb),2,z.inv,z.Bv,z.Cl,(⟨z.a.code,z.a.rev,z.a.text,z.a.list⟩:Bi)⟩:A4),b.step⟩:Au) ((el b.Ag k.toNat).c.Ah)) λe=>bif decide ((0:Int)<=e)then(xg (0<=e/\e<(b.An.length:Int))<|xg (((el b.An e.toNat).list).length+[k].length<=1099511627776)<|xg (0<=e/\e<(b.An.length:Int))<|xg (e.toNat=e.toNat)<|some (⟨b.h,b.Az,stE b.An e.toNat λz=>(⟨z.Ah,((el b.An e.toNat).list)++[k]⟩:Ba),stE b.Ag k.toNat λz=>(⟨(⟨z.c.kind,z.c.Ah,z.c.Al,z.c.seq,z.c.n,z.c.o,z.c.text⟩:Bb),2,z.inv,z.Bv,z.Cl,(⟨z.a.code,z.a.rev,z.a.text,z.a.list⟩:Bi)⟩:A4),b.step⟩:Au))else(Ac (Cp (Bli b k) 0) λd=>xg (0<=d/\d<=(b.An.length:Int))<|xg (0+d.toNat<=1099511627776)<|xg (([]++b.An.take d.toNat).length<1099511627776)<|xg ((d.toNat:Int)<=d/\d<=(b.An.length:Int))<|xg ((([]++b.An.take d.toNat)++[(⟨(el b.Ag k.toNat).c.Ah,[k]⟩:Ba)]).length+((b.An.take b.An.length).drop d.toNat).length<=1099511627776)<|some (⟨b.h,b.Az,(([]++b.An.take d.toNat)++[(⟨(el b.Ag k.toNat).c.Ah,[k]⟩:Ba)])++((b.An.take b.An.length).drop d.toNat),stE b.Ag k.toNat λz=>(⟨(⟨z.c.kind,z.c.Ah,z.c.Al,z.c.seq,z.c.n,z.c.o,z.c.text⟩:Bb),2,z.inv,z.Bv,z.Cl,(⟨z.a.code,z.a.rev,z.a.text,z.a.list⟩:Bi)⟩:A4),b.step⟩:Au))
def Bwq:E Af:=en 201 [Aod,B8] [] (Bw Asm) func201 [Avc] [E0 0 [Dw 6]] (mv:=true)
def Asn (b:Au) (k:Int):Option Au:=
 xg (0<=k/\k<(b.Ag.length:Int))<|Ac (Vo ((el b.Ag k.toNat).c.Ah) (b.Az.length:Int)) λd=>xg (0<=d/\d<(b.Az.length:Int))<|Ac (bif !decide (((el b.Ag k.toNat).c.kind)=2)then(Aa true)else(Aa b.h.shut)) λi=>Ac (bif i then(Aa true)else(Ac (Lz b.h ((el b.Ag k.toNat).c.Ah)) λl=>Aa (decide (l<0)))) λg=>bif g then(Ac (Abd (⟨b.h,b.Az.set d.toNat (-1),b.An,b.Ag,b.step⟩:Au) k) λf=>Aa f)else(Ac (Aeu (⟨b.h,b.Az.set d.toNat (-1),b.An,b.Ag,b.step⟩:Au) ((el b.Ag k.toNat).c.Ah)) λe=>Ac (bif decide ((0:Int)<=e)then(xg (0<=e/\e<(b.An.length:Int))<|some (decide ((((el b.An e.toNat).list).length:Int)=2)))else(Aa false)) λm=>bif m then(Aa (⟨b.h,b.Az.set d.toNat (-1),b.An,stE (stE b.Ag k.toNat λz=>(⟨(⟨z.c.kind,z.c.Ah,z.c.Al,z.c.seq,z.c.n,z.c.o,z.c.text⟩:Bb),z.pc,z.inv,z.Bv,z.Cl,(⟨11,0,[],[]⟩:Bi)⟩:A4)) k.toNat λz=>(⟨(⟨z.c.kind,z.c.Ah,z.c.Al,z.c.seq,z.c.n,z.c.o,z.c.text⟩:Bb),3,z.inv,z.Bv,z.Cl,(⟨z.a.code,z.a.rev,z.a.text,z.a.list⟩:Bi)⟩:A4),b.step⟩:Au))else(Ac (Asm (⟨b.h,b.Az.set d.toNat (-1),b.An,b.Ag,b.step⟩:Au) k) λj=>Aa j))
def Bwr:E Af:=en 138 [Aod,B8] [] (Bw Asn) func138 [Uc,Au2,Avb,Bwq,Avc]
def L1 (d:Au) (k:Int):Option (Au×Bool):=
 Ac (X6 d) λi=>Ac (bif !i then(Aa true)else(Aa (decide (d.step=1000000)))) λm=>Ac (bif m then(Aa true)else(xg (Aq ((d.Ag.length:Int)-1))<|Ac (Dq k 0 ((d.Ag.length:Int)-1)) λj=>Aa (!j))) λl=>bif l then(Aa ((⟨(⟨false,[],[],0⟩:Aw),[],[],[],0⟩:Au),false))else(Ac (Qf d) λb=>xg (0<=k/\k<(b.Ag.length:Int))<|bif decide (((el b.Ag k.toNat).pc)=0)then(Ac (Vl ((el b.Ag k.toNat).c.kind)) λp=>bif !p then(Ac (Abd b k) λf=>xg (Aq (d.step+1))<|some ((⟨f.h,f.Az,f.An,f.Ag,d.step+1⟩:Au),true))else(Ac (Vo ((el b.Ag k.toNat).c.Ah) (b.Az.length:Int)) λe=>xg (0<=e/\e<(b.Az.length:Int))<|bif !decide ((el b.Az e.toNat)=(-1))then(Aa ((⟨(⟨false,[],[],0⟩:Aw),[],[],[],0⟩:Au),false))else(xg (0<=e/\e<(b.Az.length:Int))<|xg (Aq (d.step+1))<|some ((⟨b.h,b.Az.set e.toNat k,b.An,stE b.Ag k.toNat λz=>(⟨(⟨z.c.kind,z.c.Ah,z.c.Al,z.c.seq,z.c.n,z.c.o,z.c.text⟩:Bb),1,z.inv,z.Bv,z.Cl,(⟨z.a.code,z.a.rev,z.a.text,z.a.list⟩:Bi)⟩:A4),d.step+1⟩:Au),true))))else(bif decide (((el b.Ag k.toNat).pc)=1)then(Ac (Asn b k) λg=>xg (Aq (d.step+1))<|some ((⟨g.h,g.Az,g.An,g.Ag,d.step+1⟩:Au),true))else(bif decide (((el b.Ag k.toNat).pc)=3)then(xg (Aq (d.step+1))<|some ((⟨b.h,b.Az,b.An,stE (stE b.Ag k.toNat λz=>(⟨(⟨z.c.kind,z.c.Ah,z.c.Al,z.c.seq,z.c.n,z.c.o,z.c.text⟩:Bb),z.pc,z.inv,z.Bv,b.step,(⟨z.a.code,z.a.rev,z.a.text,z.a.list⟩:Bi)⟩:A4)) k.toNat λz=>(⟨(⟨z.c.kind,z.c.Ah,z.c.Al,z.c.seq,z.c.n,z.c.o,z.c.text⟩:Bb),4,z.inv,z.Bv,z.Cl,(⟨z.a.code,z.a.rev,z.a.text,z.a.list⟩:Bi)⟩:A4),d.step+1⟩:Au),true))else(Aa ((⟨(⟨false,[],[],0⟩:Aw),[],[],[],0⟩:Au),false)))))
def A9i:E Af:=en 65 [G6,B8] [P0,Bz] (Bw L1) func65 [Af1,Au2,Au5,Jl,Alz,Avb,Bwr]
def Akc (c:B3) (a:Au):Option (Au×B3):=
 Ac (Ch c 12) λb=>Ac (bif decide ((a.Ag.length:Int)=0)then(Aa true)else(Aa (decide (b.1<2)))) λs=>bif s then(Ac (Tn b.2 a.h) λf=>Ac (Vk a f.1) λl=>bif l.2 then(Aa (l.1,f.2))else(Ac (bif decide (b.1<5)then(Aa (decide ((0:Int)<(a.An.length:Int))))else(Aa false)) λu=>bif u then(Ac (Ch f.2 (a.An.length:Int)) λd=>xg (0<=d.1/\d.1<(a.An.length:Int))<|Ac (Tg a ((el a.An d.1.toNat).Ah)) λq=>bif q.2 then(Aa (q.1,d.2))else(bif decide ((a.Ag.length:Int)=0)then(Aa (a,d.2))else(Ac (Ch d.2 (a.Ag.length:Int)) λg=>Ac (L1 a g.1) λp=>bif p.2 then(Aa (p.1,g.2))else(Aa (a,g.2)))))else(bif decide ((a.Ag.length:Int)=0)then(Aa (a,f.2))else(Ac (Ch f.2 (a.Ag.length:Int)) λj=>Ac (L1 a j.1) λo=>bif o.2 then(Aa (o.1,j.2))else(Aa (a,j.2))))))else(Ac (bif decide (b.1<5)then(Aa (decide ((0:Int)<(a.An.length:Int))))else(Aa false)) λt=>bif t then(Ac (Ch b.2 (a.An.length:Int)) λe=>xg (0<=e.1/\e.1<(a.An.length:Int))<|Ac (Tg a ((el a.An e.1.toNat).Ah)) λr=>bif r.2 then(Aa (r.1,e.2))else(bif decide ((a.Ag.length:Int)=0)then(Aa (a,e.2))else(Ac (Ch e.2 (a.Ag.length:Int)) λk=>Ac (L1 a k.1) λn=>bif n.2 then(Aa (n.1,k.2))else(Aa (a,k.2)))))else(bif decide ((a.Ag.length:Int)=0)then(Aa (a,b.2))else(Ac (Ch b.2 (a.Ag.length:Int)) λi=>Ac (L1 a i.1) λm=>bif m.2 then(Aa (m.1,i.2))else(Aa (a,i.2)))))
def Bwl:E Af:=en 19 [Ka,G6] [⟨false,.b 15,false⟩] (Bw Akc) func19 [Aut,A9i,A9k,L8,Ava]
def Bkp (r:Aw×B3) (d:Int) (p:List UInt8) (q:Int) (o:Int) (k:Bool) (j:List Ao) (n:List A0) (m:Int) (l:List Int) (g:List Ba) (e:List A4) (f:Int):Option (Lr (Int×List UInt8×Int×Int×Bool×List Ao×List A0×Int×List Int×List Ba×List A4×Int) (Int×List UInt8×Int×Int×Bool×List Ao×List A0×Int×List Int×List Ba×List A4×Int)):=
 bif decide ((0:Int)<d)then(Ac (Tn (⟨p,q,o⟩:B3) r.1) λc=>Ac (Vk (⟨(⟨k,j,n,m⟩:Aw),l,g,e,f⟩:Au) c.1) λa=>bif a.2 then(xg (Aq (d-1))<|some (Lr.go (d-1,c.2.b,c.2.i,c.2.h,a.1.h.shut,a.1.h.Am,a.1.h.Ax,a.1.h.last,a.1.Az,a.1.An,a.1.Ag,a.1.step)))else(xg (Aq (d-1))<|some (Lr.go (d-1,c.2.b,c.2.i,c.2.h,k,j,n,m,l,g,e,f))))else(Aa (Lr.out (d,p,q,o,k,j,n,m,l,g,e,f)))
def A4b (b:Aw×B3) (a:Int×List UInt8×Int×Int×Bool×List Ao×List A0×Int×List Int×List Ba×List A4×Int):Option (Lr (Int×List UInt8×Int×Int×Bool×List Ao×List A0×Int×List Int×List Ba×List A4×Int) (Int×List UInt8×Int×Int×Bool×List Ao×List A0×Int×List Int×List Ba×List A4×Int)):=Bkp b a.1 a.2.1 a.2.2.1 a.2.2.2.1 a.2.2.2.2.1 a.2.2.2.2.2.1 a.2.2.2.2.2.2.1 a.2.2.2.2.2.2.2.1 a.2.2.2.2.2.2.2.2.1 a.2.2.2.2.2.2.2.2.2.1 a.2.2.2.2.2.2.2.2.2.2.1 a.2.2.2.2.2.2.2.2.2.2.2
def Bkq (c:Int) (g:List UInt8) (l:Int) (j:Int) (k:Bool) (f:List Ao) (m:List A0) (n:Int) (o:List Int) (e:List Ba) (d:List A4) (p:Int):Option (Lr (Int×List UInt8×Int×Int×Bool×List Ao×List A0×Int×List Int×List Ba×List A4×Int) (Int×List UInt8×Int×Int×Bool×List Ao×List A0×Int×List Int×List Ba×List A4×Int)):=
 bif decide ((0:Int)<c)then(Ac (Akc (⟨g,l,j⟩:B3) (⟨(⟨k,f,m,n⟩:Aw),o,e,d,p⟩:Au)) λa=>xg (Aq (c-1))<|some (Lr.go (c-1,a.2.b,a.2.i,a.2.h,a.1.h.shut,a.1.h.Am,a.1.h.Ax,a.1.h.last,a.1.Az,a.1.An,a.1.Ag,a.1.step)))else(Aa (Lr.out (c,g,l,j,k,f,m,n,o,e,d,p)))
def A4c (a:Int×List UInt8×Int×Int×Bool×List Ao×List A0×Int×List Int×List Ba×List A4×Int):Option (Lr (Int×List UInt8×Int×Int×Bool×List Ao×List A0×Int×List Int×List Ba×List A4×Int) (Int×List UInt8×Int×Int×Bool×List Ao×List A0×Int×List Int×List Ba×List A4×Int)):=Bkq a.1 a.2.1 a.2.2.1 a.2.2.2.1 a.2.2.2.2.1 a.2.2.2.2.2.1 a.2.2.2.2.2.2.1 a.2.2.2.2.2.2.2.1 a.2.2.2.2.2.2.2.2.1 a.2.2.2.2.2.2.2.2.2.1 a.2.2.2.2.2.2.2.2.2.2.1 a.2.2.2.2.2.2.2.2.2.2.2
def Ajr (k:List UInt8):Option (Aw×Au):=
 Ac (Aba k) λl=>Ac (Aes l 6) λe=>Ac (Ch e.2 4) λj=>xg (Aq (1+j.1))<|Ac (Asa e.1 (1+j.1)) λd=>Ac (Ch j.2 6) λg=>Ac (Cp (A4b e) (g.1,g.2.b,g.2.i,g.2.h,d.1.h.shut,d.1.h.Am,d.1.h.Ax,d.1.h.last,d.1.Az,d.1.An,d.1.Ag,d.1.step)) λa=>Ac (Ch (⟨a.2.1,a.2.2.1,a.2.2.2.1⟩:B3) 30) λf=>Ac (Cp (A4c) (f.1,f.2.b,f.2.i,f.2.h,a.2.2.2.2.1,a.2.2.2.2.2.1,a.2.2.2.2.2.2.1,a.2.2.2.2.2.2.2.1,a.2.2.2.2.2.2.2.2.1,a.2.2.2.2.2.2.2.2.2.1,a.2.2.2.2.2.2.2.2.2.2.1,a.2.2.2.2.2.2.2.2.2.2.2)) λc=>Aa (e.1,(⟨(⟨c.2.2.2.2.1,c.2.2.2.2.2.1,c.2.2.2.2.2.2.1,c.2.2.2.2.2.2.2.1⟩:Aw),c.2.2.2.2.2.2.2.2.1,c.2.2.2.2.2.2.2.2.2.1,c.2.2.2.2.2.2.2.2.2.2.1,c.2.2.2.2.2.2.2.2.2.2.2⟩:Au))
def Bvq:E Af:=en 4 [Aoa] [Azq,⟨false,.b 15,false⟩] (Bp Ajr) func4 [Aut,Bv5,L8,A9p,Bwh,Ava,Bwl] [E0 0 [Dw 8,.box 4 0 [.ro (.b 3),.sc 0,.sc 0],.box 6 0 [.sc 1,.row (.b 7),.row (.b 9),.sc 0,.row (.b 0),.row (.b 11),.row (.b 14),.sc 0]],E0 2 [Dw 11,.box 4 0 [.ro (.b 3),.sc 0,.sc 0],.box 6 0 [.sc 1,.ro (.b 7),.ro (.b 9),.sc 0,.ro (.b 0),.ro (.b 11),.ro (.b 14),.sc 0]]]
def Aev (k:Int):Option (Bool×Bool×Bool):=
 Ac (bif decide (k=2)then(Aa true)else(Aa (decide (k=6)))) λe=>Ac (bif e then(Aa true)else(Aa (decide (k=7)))) λc=>Ac (bif decide (k=2)then(Aa true)else(Aa (decide (k=3)))) λd=>Ac (bif d then(Aa true)else(Aa (decide (k=5)))) λb=>Ac (bif b then(Aa true)else(Aa (decide (k=6)))) λa=>Aa (c,decide (k=2),a)
def A97:E Af:=en 203 [B8] [Bz,Bz,Bz] (Bp Aev) func203
def Aa3 (k:Int):Option Cea:=
 Ac (Aet k) λa=>bif !a then(Aa (⟨#[]⟩:Cea))else(xg (0<=k/\k<([(⟨#[]⟩:Cea),(⟨#[111,112,101,110]⟩:Cea),(⟨#[115,117,98,109,105,116]⟩:Cea),(⟨#[102,101,116,99,104]⟩:Cea),(⟨#[115,110,97,112]⟩:Cea),(⟨#[115,117,98]⟩:Cea),(⟨#[112,111,108,108]⟩:Cea),(⟨#[114,101,115,121,110,99]⟩:Cea),(⟨#[115,104,117,116]⟩:Cea)].length:Int))<|some (el [(⟨#[]⟩:Cea),(⟨#[111,112,101,110]⟩:Cea),(⟨#[115,117,98,109,105,116]⟩:Cea),(⟨#[102,101,116,99,104]⟩:Cea),(⟨#[115,110,97,112]⟩:Cea),(⟨#[115,117,98]⟩:Cea),(⟨#[112,111,108,108]⟩:Cea),(⟨#[114,101,115,121,110,99]⟩:Cea),(⟨#[115,104,117,116]⟩:Cea)] k.toNat))
def A88:E Af:=en 204 [B8] [Hr] (Bp Aa3) func204 [A95]
def Bks (a:Int) (b:Cea):Option (Lr (Int×Cea) (Int×Cea)):=
 bif decide ((9:Int)<a)then(xg (0<=a/\0<(10:Int))<|xg (Aq (48+(a % 10)))<|xg ((⟨[y8 (48+(a % 10))].toArray⟩:Cea).size+b.size<=9223372036854775807)<|xg (0<=a/\a<=9223372036854775807/\0<(10:Int))<|some (Lr.go (a/10,(⟨[y8 (48+(a % 10))].toArray⟩:Cea)++b)))else(Aa (Lr.out (a,b)))
def A4e (a:Int×Cea):Option (Lr (Int×Cea) (Int×Cea)):=Bks a.1 a.2
def Mn (n:Int):Option Cea:=
 Ac (Dq n 0 1000000000) λb=>bif !b then(Aa (⟨#[]⟩:Cea))else(Ac (Cp (A4e) (n,(⟨#[]⟩:Cea))) λa=>xg (Aq (48+a.1))<|xg ((⟨[y8 (48+a.1)].toArray⟩:Cea).size+a.2.size<=9223372036854775807)<|some ((⟨[y8 (48+a.1)].toArray⟩:Cea)++a.2))
def Af0:E Af:=en 140 [B8] [Hr] (Bp Mn) func140 [Jl] [E0 0 [Dw 0,Sd 3 2]]
def Bkx (l:List Int) (e:Nat) (c:Int) (a:Cea):Option (Lr Cea Cea):=
 bif decide ((0:Int)<(e:Int))then(xg (a.size+(⟨#[46]⟩:Cea).size<=9223372036854775807)<|Ac (Mn c) λd=>xg ((a++(⟨#[46]⟩:Cea)).size+d.size<=9223372036854775807)<|some (Lr.go ((a++(⟨#[46]⟩:Cea))++d)))else(Ac (Mn c) λb=>xg (a.size+b.size<=9223372036854775807)<|some (Lr.go (a++b)))
def Bky (l:List Int) (a:Nat) (b:Cea):Option (Lr Cea Cea):=Bkx l a (el l a) b
def Aa7 (l:List Int):Option Cea:=
 Ac (Vm l) λb=>bif !b then(Aa (⟨#[]⟩:Cea))else(bif decide ((l.length:Int)=0)then(Aa (⟨#[45]⟩:Cea))else(Ac (A2 (Bky l) (λa=>a) l.length 0 (⟨#[]⟩:Cea)) λc=>Aa c))
def Au0:E Af:=en 206 [Ii] [Hr] (Bp Aa7) func206 [Af0,Au1] [Fb 0 14 13 [Sd 3 2]]
def Bku (j:List Ae) (i:Nat) (b:Ae) (a:Cea):Option (Lr Cea Cea):=
 bif !decide (a=(⟨#[]⟩:Cea))then(xg (a.size+(⟨#[32]⟩:Cea).size<=9223372036854775807)<|bif decide ((b.kind)=1)then(xg ((a++(⟨#[32]⟩:Cea)).size+(⟨#[107]⟩:Cea).size<=9223372036854775807)<|Ac (Mn (b.n)) λe=>xg (((a++(⟨#[32]⟩:Cea))++(⟨#[107]⟩:Cea)).size+e.size<=9223372036854775807)<|some (Lr.go (((a++(⟨#[32]⟩:Cea))++(⟨#[107]⟩:Cea))++e)))else(bif decide ((b.kind)=2)then(xg ((a++(⟨#[32]⟩:Cea)).size+(⟨#[112]⟩:Cea).size<=9223372036854775807)<|Ac (Aa7 (b.Bd)) λh=>xg (((a++(⟨#[32]⟩:Cea))++(⟨#[112]⟩:Cea)).size+h.size<=9223372036854775807)<|some (Lr.go (((a++(⟨#[32]⟩:Cea))++(⟨#[112]⟩:Cea))++h)))else(xg ((a++(⟨#[32]⟩:Cea)).size+(⟨#[100]⟩:Cea).size<=9223372036854775807)<|Ac (Mn (b.n)) λd=>xg (((a++(⟨#[32]⟩:Cea))++(⟨#[100]⟩:Cea)).size+d.size<=9223372036854775807)<|some (Lr.go (((a++(⟨#[32]⟩:Cea))++(⟨#[100]⟩:Cea))++d)))))else(bif decide ((b.kind)=1)then(xg (a.size+(⟨#[107]⟩:Cea).size<=9223372036854775807)<|Ac (Mn (b.n)) λf=>xg ((a++(⟨#[107]⟩:Cea)).size+f.size<=9223372036854775807)<|some (Lr.go ((a++(⟨#[107]⟩:Cea))++f)))else(bif decide ((b.kind)=2)then(xg (a.size+(⟨#[112]⟩:Cea).size<=9223372036854775807)<|Ac (Aa7 (b.Bd)) λg=>xg ((a++(⟨#[112]⟩:Cea)).size+g.size<=9223372036854775807)<|some (Lr.go ((a++(⟨#[112]⟩:Cea))++g)))else(xg (a.size+(⟨#[100]⟩:Cea).size<=9223372036854775807)<|Ac (Mn (b.n)) λc=>xg ((a++(⟨#[100]⟩:Cea)).size+c.size<=9223372036854775807)<|some (Lr.go ((a++(⟨#[100]⟩:Cea))++c)))))
def Bkv (b:List Ae) (a:Nat) (c:Cea):Option (Lr Cea Cea):=Bku b a (el b a) c
def Ajs (o:List Ae):Option Cea:=
 Ac (J5 o) λd=>bif !d then(Aa (⟨#[]⟩:Cea))else(Ac (Aa5 o) λb=>Ac (A2 (Bkv b) (λc=>c) b.length 0 (⟨#[]⟩:Cea)) λa=>bif decide (a=(⟨#[]⟩:Cea))then(Aa (⟨#[45]⟩:Cea))else(Aa a))
def A9h:E Af:=en 254 [Eu] [Hr] (Bp Ajs) func254 [Af0,Auy,Ue,Au0] [Fb 0 12 11 [Sd 3 2]]
def Blo (b:Nat) (a:List UInt8):Option (Lr (List UInt8) (List UInt8)):=
 bif decide (((el a b).toNat:Int)=32)then(xg (0<=(44:Int)/\(44:Int)<=255)<|some (Lr.go (a.set b 44)))else(Aa (Lr.go a))
def A5k (b:Nat) (a:List UInt8):Option (Lr (List UInt8) (List UInt8)):=Blo b a
def Aso (o:List Ae):Option Cea:=
 Ac (Ajs o) λa=>xg (a.size<=1099511627776)<|Ac (A2 (A5k) (λb=>b) a.data.toList.length 0 a.data.toList) λc=>Aa (⟨c.toArray⟩:Cea)
def Bwt:E Af:=en 205 [Eu] [Hr] (Bp Aso) func205 [A9h] [Fb 0 11 10 [J7 3 3]]
def Blm (l:List Cea) (c:Nat) (b:Cea) (a:Cea):Option (Lr Cea Cea):=
 bif decide ((0:Int)<(c:Int))then(xg (a.size+(⟨#[32]⟩:Cea).size<=9223372036854775807)<|xg ((a++(⟨#[32]⟩:Cea)).size+b.size<=9223372036854775807)<|some (Lr.go ((a++(⟨#[32]⟩:Cea))++b)))else(xg (a.size+b.size<=9223372036854775807)<|some (Lr.go (a++b)))
def Bln (l:List Cea) (a:Nat) (b:Cea):Option (Lr Cea Cea):=Blm l a (el l a) b
def Ake (l:List Cea):Option Cea:=
 Ac (A2 (Bln l) (λb=>b) l.length 0 (⟨#[]⟩:Cea)) λa=>Aa a
def Bws:E Af:=en 207 [Ac7] [Hr] (Bp Ake) func207 [] [Fb 0 8 7 [Sd 3 2]]
def Tc (c:Bb):Option Cea:=
 Ac (Aa2 c) λi=>Ac (bif !i then(Aa true)else(Ac (J5 c.o) λp=>Aa (!p))) λj=>Ac (bif j then(Aa true)else(Ac (Dq c.Al 0 1000000000) λw=>Aa (!w))) λt=>Ac (bif t then(Aa true)else(Ac (Dq c.seq 0 1000000000) λy=>Aa (!y))) λk=>Ac (bif k then(Aa true)else(Ac (Dq c.n 0 1000000000) λA=>Aa (!A))) λD=>Ac (bif D then(Aa true)else(Ac (Vl c.kind) λr=>Ac (bif r then(Ac (X5 c.Ah) λu=>Aa (!u))else(Aa false)) λm=>Aa m)) λl=>bif l then(Aa (⟨#[]⟩:Cea))else(Ac (Aev c.kind) λa=>Ac (Aa3 c.kind) λb=>Ac (Vl c.kind) λB=>Ac (bif B then(xg ([b].length<1099511627776)<|some ([b]++[c.Ah]))else(Aa [b])) λe=>Ac (bif a.1 then(Ac (Mn c.Al) λq=>xg (e.length<1099511627776)<|some (e++[q]))else(Aa e)) λd=>Ac (bif a.2.1 then(Ac (Mn c.seq) λz=>xg (d.length<1099511627776)<|some (d++[z]))else(Aa d)) λh=>Ac (bif a.2.2 then(Ac (Mn c.n) λv=>xg (h.length<1099511627776)<|some (h++[v]))else(Aa h)) λf=>Ac (bif a.2.1 then(Ac (Aso c.o) λs=>xg (f.length<1099511627776)<|some (f++[s]))else(Aa f)) λg=>Ac (bif decide (c.kind=1)then(Ac (Aa7 c.text) λF=>xg (g.length<1099511627776)<|some (g++[F]))else(Aa g)) λx=>Ac (Ake x) λC=>Aa C)
def A87:E Af:=en 139 [M4] [Hr] (Bp Tc) func139 [Alv,A88,A9f,Af0,Af1,Ue,Au0,Jl,A97,Bws,Bwt] [E0 100006 [Ev 6 2],E0 100008 [Ev 6 2],E0 100010 [Ev 6 2],E0 100012 [Ev 6 2],E0 100014 [Ev 6 2],E0 100016 [Ev 6 2]]
def Akg (c:B3) (m:Au):Option (Cea×B3):=
 Ac (Ch c 9) λa=>bif decide (a.1=0)then(bif decide (a.1=0)then(Ac (Tn a.2 m.h) λi=>Ac (Tc i.1) λp=>Aa (p,i.2))else(bif decide (a.1=2)then(Ac (Rp a.2) λb=>xg ((⟨#[115,101,114,118,101,32]⟩:Cea).size+b.1.size<=9223372036854775807)<|some ((⟨#[115,101,114,118,101,32]⟩:Cea)++b.1,b.2))else(bif decide (a.1=3)then(Ac (Vr a.2 [(⟨#[]⟩:Cea),(⟨#[112,105,99,107]⟩:Cea),(⟨#[112,105,99,107,32,120]⟩:Cea),(⟨#[112,105,99,107,32,48,49]⟩:Cea),(⟨#[115,101,114,118,101]⟩:Cea),(⟨#[119,104,97,116]⟩:Cea),(⟨#[112,105,99,107,32,49,32,50]⟩:Cea),(⟨#[112,105,99,107,32,57,57]⟩:Cea)]) λl=>Aa (l.1,l.2))else(Ac (Ch a.2 5) λj=>Ac (Mn j.1) λn=>xg ((⟨#[112,105,99,107,32]⟩:Cea).size+n.size<=9223372036854775807)<|some ((⟨#[112,105,99,107,32]⟩:Cea)++n,j.2)))))else(bif decide (a.1=1)then(Ac (Tn a.2 m.h) λk=>Ac (Tc k.1) λo=>Aa (o,k.2))else(bif decide (a.1=2)then(Ac (Rp a.2) λd=>xg ((⟨#[115,101,114,118,101,32]⟩:Cea).size+d.1.size<=9223372036854775807)<|some ((⟨#[115,101,114,118,101,32]⟩:Cea)++d.1,d.2))else(bif decide (a.1=3)then(Ac (Vr a.2 [(⟨#[]⟩:Cea),(⟨#[112,105,99,107]⟩:Cea),(⟨#[112,105,99,107,32,120]⟩:Cea),(⟨#[112,105,99,107,32,48,49]⟩:Cea),(⟨#[115,101,114,118,101]⟩:Cea),(⟨#[119,104,97,116]⟩:Cea),(⟨#[112,105,99,107,32,49,32,50]⟩:Cea),(⟨#[112,105,99,107,32,57,57]⟩:Cea)]) λg=>Aa (g.1,g.2))else(Ac (Ch a.2 5) λe=>Ac (Mn e.1) λf=>xg ((⟨#[112,105,99,107,32]⟩:Cea).size+f.size<=9223372036854775807)<|some ((⟨#[112,105,99,107,32]⟩:Cea)++f,e.2)))))
def Bww:E Af:=en 66 [Ka,G6] [Hr] (Bw Akg) func66 [A87,Af0,L8,A9s,Au8,Ava]
def Bk5 (s:Cea) (d:UInt8) (c:List Cea) (b:Int) (a:Int):Option (Lr (List Cea×Int×Int) (List Cea×Int×Int)):=
 bif decide (a<=(s.size:Int))then(Ac (bif decide (a=(s.size:Int))then(Aa true)else(xg (0<=a/\a<(s.size:Int))<|some (decide (((Du s a.toNat).toNat:Int)=(d.toNat:Int))))) λe=>bif e then(xg (0<=b/\b<=a/\a<=(s.size:Int))<|xg (c.length<1099511627776)<|xg (Aq (a+1))<|xg (Aq (a+1))<|some (Lr.go (c++[s.extract b.toNat a.toNat],a+1,a+1)))else(xg (Aq (a+1))<|some (Lr.go (c,b,a+1))))else(Aa (Lr.out (c,b,a)))
def A4y (s:Cea) (b:UInt8) (a:List Cea×Int×Int):Option (Lr (List Cea×Int×Int) (List Cea×Int×Int)):=Bk5 s b a.1 a.2.1 a.2.2
def Aj1 (s:Cea) (a:UInt8):Option (List Cea):=
 Ac (Cp (A4y s a) ([],0,0)) λb=>Aa b.1
def A9r:E Af:=en 208 [E9,.val false (.b 3)] [Xg] (Bw Aj1) func208 [] [E0 0 [Ev 5 2,Dw 6,Dw 7]]
def Aec (s:Cea):Option (List Cea):=
 Ac (Aj1 s 32) λa=>Aa a
def Auu:E Af:=en 141 [E9] [Xg] (Bp Aec) func141 [A9r]
def Qg (a:List Cea):Option (Cea×List Cea):=
 bif decide ((a.length:Int)=0)then(Aa ((⟨#[]⟩:Cea),a))else(xg (0<=(0:Int)/\(0:Int)<(a.length:Int))<|xg (0<=(1:Int)/\(1:Int)<=(a.length:Int))<|some (el a 0,(a.take a.length).drop 1))
def Bwu:E Af:=en 209 [Ac7] [Hr,⟨false,.sl (.b 2),false⟩] (Bp Qg) func209
def Bk0 (s:Cea) (b:Int) (a:Int):Option (Lr (Int×Int) (Sum (Int×Int) (Int×Bool))):=
 bif decide (a<(s.size:Int))then(xg (0<=a/\a<(s.size:Int))<|xg (Aq (((Du s a.toNat).toNat:Int)-48))<|Ac (bif decide ((((Du s a.toNat).toNat:Int)-48)<0)then(Aa true)else(Aa (decide ((9:Int)<(((Du s a.toNat).toNat:Int)-48))))) λc=>bif c then(Aa (Lr.out (Bj (0,false))))else(xg (Aq (b*10))<|xg (Aq ((b*10)+(((Du s a.toNat).toNat:Int)-48)))<|xg (Aq (a+1))<|some (Lr.go ((b*10)+(((Du s a.toNat).toNat:Int)-48),a+1))))else(Aa (Lr.out (Ej (b,a))))
def A4r (s:Cea) (a:Int×Int):Option (Lr (Int×Int) (Sum (Int×Int) (Int×Bool))):=Bk0 s a.1 a.2
def Th (s:Cea):Option (Int×Bool):=
 Ac (bif decide ((s.size:Int)=0)then(Aa true)else(Aa (decide ((10:Int)<(s.size:Int))))) λc=>bif c then(Aa (0,false))else(Ac (Cp (A4r s) (0,0)) λd=>B2 (λa=>Ac (Mn a.1) λe=>bif !decide (e=s)then(Aa (0,false))else(Aa (a.1,true))) (λb=>Aa b) d)
def Alx:E Af:=en 143 [E9] [C4,Bz] (Bp Th) func143 [Af0] [hnT 0 [Dw 4,Dw 5]]
def Bk3 (g:List Cea) (f:Nat) (e:Cea) (b:List Int):Option (Lr (List Int) (Sum (List Int) (List Int×Bool))):=
 Ac (Th e) λa=>Ac (bif !a.2 then(Aa true)else(Ac (Aej a.1) λc=>Aa (!c))) λd=>bif d then(Aa (Lr.out (Bj ([],false))))else(xg (b.length<1099511627776)<|some (Lr.go (b++[a.1])))
def A4s (b:List Cea) (a:Nat) (c:List Int):Option (Lr (List Int) (Sum (List Int) (List Int×Bool))):=Bk3 b a (el b a) c
def Ael (s:Cea):Option (List Int×Bool):=
 bif decide (s=(⟨#[45]⟩:Cea))then(Aa ([],true))else(Ac (Aj1 s 46) λb=>Ac (A2 (A4s b) (λe=>(.inl e)) b.length 0 []) λf=>B2 (λa=>Ac (Aa7 a) λd=>bif !decide (d=s)then(Aa ([],false))else(Aa (a,true))) (λc=>Aa c) f)
def A9n:E Af:=en 211 [E9] [M7,Bz] (Bp Ael) func211 [A9l,Au0,Alx,A9r] [Df 0 16 15 [Ev 4 0]]
def Bk1 (e:List Cea) (f:Nat) (a:Cea) (b:List Ae):Option (Lr (List Ae) (Sum (List Ae) (List Ae×Bool))):=
 bif decide ((a.size:Int)<2)then(Aa (Lr.out (Bj ([],false))))else(xg (0<=(1:Int)/\(1:Int)<=(a.size:Int))<|Ac (Th (a.extract 1 a.size)) λc=>xg (0<=(0:Int)/\(0:Int)<(a.size:Int))<|bif decide (((Du a 0).toNat:Int)=107)then(bif !c.2 then(Aa (Lr.out (Bj ([],false))))else(xg (b.length<1099511627776)<|some (Lr.go (b++[(⟨1,c.1,[]⟩:Ae)]))))else(bif decide (((Du a 0).toNat:Int)=100)then(bif !c.2 then(Aa (Lr.out (Bj ([],false))))else(xg (b.length<1099511627776)<|some (Lr.go (b++[(⟨3,c.1,[]⟩:Ae)]))))else(bif decide (((Du a 0).toNat:Int)=112)then(xg (0<=(1:Int)/\(1:Int)<=(a.size:Int))<|Ac (Ael (a.extract 1 a.size)) λd=>bif !d.2 then(Aa (Lr.out (Bj ([],false))))else(xg (b.length<1099511627776)<|some (Lr.go (b++[(⟨2,0,d.1⟩:Ae)]))))else(bif !c.2 then(Aa (Lr.out (Bj ([],false))))else(xg (b.length<1099511627776)<|some (Lr.go (b++[(⟨0,c.1,[]⟩:Ae)])))))))
def Bk2 (b:List Cea) (a:Nat) (c:List Ae):Option (Lr (List Ae) (Sum (List Ae) (List Ae×Bool))):=Bk1 b a (el b a) c
def Ar9 (s:Cea):Option (List Ae×Bool):=
 bif decide (s=(⟨#[45]⟩:Cea))then(Aa ([],true))else(Ac (Aec s) λb=>Ac (A2 (Bk2 b) (λe=>(.inl e)) b.length 0 []) λg=>B2 (λa=>Ac (Ajp a) λh=>Ac (bif !h then(Aa true)else(Ac (Ajs a) λc=>Aa (!decide (c=s)))) λf=>bif f then(Aa ([],false))else(Aa (a,true))) (λd=>Aa d) g)
def Bv3:E Af:=en 255 [E9] [Iz,Bz] (Bp Ar9) func255 [Auu,A9e,A9h,Alx,A9n] [Df 0 19 18 [Ev 4 4]]
def Blp (b:Nat) (a:List UInt8):Option (Lr (List UInt8) (List UInt8)):=
 bif decide (((el a b).toNat:Int)=44)then(xg (0<=(32:Int)/\(32:Int)<=255)<|some (Lr.go (a.set b 32)))else(bif decide (((el a b).toNat:Int)=32)then(xg (0<=(44:Int)/\(44:Int)<=255)<|some (Lr.go (a.set b 44)))else(Aa (Lr.go a)))
def A5l (b:Nat) (a:List UInt8):Option (Lr (List UInt8) (List UInt8)):=Blp b a
def Akf (s:Cea):Option (List Ae):=
 xg (s.size<=1099511627776)<|Ac (A2 (A5l) (λc=>c) s.data.toList.length 0 s.data.toList) λa=>Ac (Ar9 (⟨a.toArray⟩:Cea)) λb=>Aa b.1
def Bwv:E Af:=en 210 [E9] [Iz] (Bp Akf) func210 [Bv3] [Fb 0 12 11 [J7 3 3]]
def A4q (g:Cea×List Cea) (a:Int) (f:Int) (b:Cea) (e:Int) (d:Int) (c:Int):Option (Lr (Int×Int×Cea×Int×Int×Int) (Int×Int×Cea×Int×Int×Int)):=
 bif decide (a<=8)then(Ac (Aa3 a) λh=>bif decide (h=g.1)then(xg (Aq (a+1))<|some (Lr.go (a+1,a,b,e,d,c)))else(xg (Aq (a+1))<|some (Lr.go (a+1,f,b,e,d,c))))else(Aa (Lr.out (a,f,b,e,d,c)))
def Ar8 (b:Cea×List Cea) (a:Int×Int×Cea×Int×Int×Int):Option (Lr (Int×Int×Cea×Int×Int×Int) (Int×Int×Cea×Int×Int×Int)):=A4q b a.1 a.2.1 a.2.2.1 a.2.2.2.1 a.2.2.2.2.1 a.2.2.2.2.2
def Ajx (s:Cea):Option (Bb×Bool):=
 Ac (Aec s) λx=>Ac (Qg x) λi=>Ac (Cp (Ar8 i) (1,0,Cb,0,0,0)) λe=>Ac (Aev e.2.1) λh=>Ac (Vl e.2.1) λp=>Ac (bif p then(Ac (Qg i.2) λk=>Aa (k.2,e.2.1,k.1,e.2.2.2.1,e.2.2.2.2.1,e.2.2.2.2.2))else(Aa (i.2,e.2.1,e.2.2.1,e.2.2.2.1,e.2.2.2.2.1,e.2.2.2.2.2))) λg=>Ac (bif h.1 then(Ac (Qg g.1) λj=>Ac (Th j.1) λr=>Aa (j.2,g.2.1,g.2.2.1,r.1,g.2.2.2.2.1,g.2.2.2.2.2))else(Aa (g.1,g.2.1,g.2.2.1,g.2.2.2.1,g.2.2.2.2.1,g.2.2.2.2.2))) λd=>Ac (bif h.2.1 then(Ac (Qg d.1) λm=>Ac (Th m.1) λz=>Aa (m.2,d.2.1,d.2.2.1,d.2.2.2.1,z.1,d.2.2.2.2.2))else(Aa (d.1,d.2.1,d.2.2.1,d.2.2.2.1,d.2.2.2.2.1,d.2.2.2.2.2))) λf=>Ac (bif h.2.2 then(Ac (Qg f.1) λn=>Ac (Th n.1) λw=>Aa (n.2,f.2.1,f.2.2.1,f.2.2.2.1,f.2.2.2.2.1,w.1))else(Aa (f.1,f.2.1,f.2.2.1,f.2.2.2.1,f.2.2.2.2.1,f.2.2.2.2.2))) λc=>Ac (bif h.2.1 then(Ac (Qg c.1) λl=>Ac (Akf l.1) λo=>Aa (l.2,c.2.1,c.2.2.1,c.2.2.2.1,c.2.2.2.2.1,c.2.2.2.2.2,o))else(Aa (c.1,c.2.1,c.2.2.1,c.2.2.2.1,c.2.2.2.2.1,c.2.2.2.2.2,[]))) λb=>Ac (bif decide (b.2.1=1)then(Ac (Qg b.1) λu=>Ac (Ael u.1) λt=>Aa (b.2.1,b.2.2.1,b.2.2.2.1,b.2.2.2.2.1,b.2.2.2.2.2.1,b.2.2.2.2.2.2,t.1))else(Aa (b.2.1,b.2.2.1,b.2.2.2.1,b.2.2.2.2.1,b.2.2.2.2.2.1,b.2.2.2.2.2.2,[]))) λa=>Ac (Tc (⟨a.1,a.2.1,a.2.2.1,a.2.2.2.1,a.2.2.2.2.1,a.2.2.2.2.2.1,a.2.2.2.2.2.2⟩:Bb)) λv=>Ac (bif decide (v=(⟨#[]⟩:Cea))then(Aa true)else(Ac (Tc (⟨a.1,a.2.1,a.2.2.1,a.2.2.2.1,a.2.2.2.2.1,a.2.2.2.2.2.1,a.2.2.2.2.2.2⟩:Bb)) λq=>Aa (!decide (q=s)))) λy=>bif y then(Aa ((⟨0,Cb,0,0,0,[],[]⟩:Bb),false))else(Aa ((⟨a.1,a.2.1,a.2.2.1,a.2.2.2.1,a.2.2.2.2.1,a.2.2.2.2.2.1,a.2.2.2.2.2.2⟩:Bb),true))
def Bv2:E Af:=en 142 [E9] [Ahc,Bz] (Bp Ajx) func142 [A87,A88,Auu,Af1,Alx,A9n,A97,Bwu,Bwv] [E0 0 [Dw 7,.box 6 0 [.sc 0,.sc 2,.sc 0,.sc 0,.sc 0,.nl,.nl]],E0 100011 [.slot 5 (.ro (.b 2)),.box 6 0 [.sc 0,.sc 2,.sc 0,.sc 0,.sc 0,.nl,.nl]],E0 100014 [.slot 5 (.ro (.b 2)),.box 6 0 [.sc 0,.sc 2,.sc 0,.sc 0,.sc 0,.nl,.nl]],E0 100017 [.slot 5 (.ro (.b 2)),.box 6 0 [.sc 0,.sc 2,.sc 0,.sc 0,.sc 0,.nl,.nl]],E0 100020 [.slot 5 (.ro (.b 2)),.box 6 0 [.sc 0,.sc 2,.sc 0,.sc 0,.sc 0,.nl,.nl]],E0 100023 [.slot 5 (.ro (.b 2)),.box 6 0 [.sc 0,.sc 2,.sc 0,.sc 0,.sc 0,.row (.b 4),.nl]],E0 100026 [.box 6 0 [.sc 0,.sc 2,.sc 0,.sc 0,.sc 0,.row (.b 4),.row (.b 0)]]]
def Ar3 (b:Au) (d:Cea):Option (Au×Cea):=
 Ac (Aec d) λa=>Ac (Ajx d) λh=>bif h.2 then(Ac (Vk b h.1) λg=>bif !g.2 then(Ac (Qf b) λl=>Aa (l,(⟨#[110,111]⟩:Cea)))else(Aa (g.1,(⟨#[111,107]⟩:Cea))))else(Ac (bif decide ((a.length:Int)=2)then(xg (0<=(0:Int)/\(0:Int)<(a.length:Int))<|some (decide (el a 0=(⟨#[115,101,114,118,101]⟩:Cea))))else(Aa false)) λo=>bif o then(xg (0<=(1:Int)/\(1:Int)<(a.length:Int))<|Ac (Tg b (el a 1)) λc=>bif !c.2 then(Ac (Qf b) λk=>Aa (k,(⟨#[110,111]⟩:Cea)))else(Aa (c.1,(⟨#[111,107]⟩:Cea))))else(Ac (bif decide ((a.length:Int)=2)then(xg (0<=(0:Int)/\(0:Int)<(a.length:Int))<|some (decide (el a 0=(⟨#[112,105,99,107]⟩:Cea))))else(Aa false)) λm=>bif m then(xg (0<=(1:Int)/\(1:Int)<(a.length:Int))<|Ac (Th (el a 1)) λe=>bif !e.2 then(Ac (Qf b) λi=>Aa (i,(⟨#[119,104,97,116]⟩:Cea)))else(Ac (L1 b e.1) λf=>bif !f.2 then(Ac (Qf b) λj=>Aa (j,(⟨#[110,111]⟩:Cea)))else(Aa (f.1,(⟨#[111,107]⟩:Cea)))))else(Ac (Qf b) λn=>Aa (n,(⟨#[119,104,97,116]⟩:Cea)))))
def Bvv:E Af:=en 67 [G6,E9] [P0,Hr] (Bw Ar3) func67 [Aut,Auu,A9i,A9k,Bv2,Alx,Alz]
def Blq (e:List Cea) (d:Int) (r:List UInt8) (p:Int) (q:Int) (f:Bool) (g:List Ao) (l:List A0) (j:Int) (m:List Int) (k:List Ba) (o:List A4) (n:Int):Option (Lr (List Cea×Int×List UInt8×Int×Int×Bool×List Ao×List A0×Int×List Int×List Ba×List A4×Int) (List Cea×Int×List UInt8×Int×Int×Bool×List Ao×List A0×Int×List Int×List Ba×List A4×Int)):=
 bif decide ((0:Int)<d)then(Ac (Akg (⟨r,p,q⟩:B3) (⟨(⟨f,g,l,j⟩:Aw),m,k,o,n⟩:Au)) λc=>Ac (Ar3 (⟨(⟨f,g,l,j⟩:Aw),m,k,o,n⟩:Au) c.1) λa=>xg (e.length<1099511627776)<|xg (Aq (d-1))<|some (Lr.go (e++[c.1],d-1,c.2.b,c.2.i,c.2.h,a.1.h.shut,a.1.h.Am,a.1.h.Ax,a.1.h.last,a.1.Az,a.1.An,a.1.Ag,a.1.step)))else(Aa (Lr.out (e,d,r,p,q,f,g,l,j,m,k,o,n)))
def A5n (a:List Cea×Int×List UInt8×Int×Int×Bool×List Ao×List A0×Int×List Int×List Ba×List A4×Int):Option (Lr (List Cea×Int×List UInt8×Int×Int×Bool×List Ao×List A0×Int×List Int×List Ba×List A4×Int) (List Cea×Int×List UInt8×Int×Int×Bool×List Ao×List A0×Int×List Int×List Ba×List A4×Int)):=Blq a.1 a.2.1 a.2.2.1 a.2.2.2.1 a.2.2.2.2.1 a.2.2.2.2.2.1 a.2.2.2.2.2.2.1 a.2.2.2.2.2.2.2.1 a.2.2.2.2.2.2.2.2.1 a.2.2.2.2.2.2.2.2.2.1 a.2.2.2.2.2.2.2.2.2.2.1 a.2.2.2.2.2.2.2.2.2.2.2.1 a.2.2.2.2.2.2.2.2.2.2.2.2
def A5m (c:B3) (a:Au) (f:Int):Option (List Cea×B3):=
 xg (Aq (f+1))<|Ac (Ch c (f+1)) λe=>Ac (Cp (A5n) ([],e.1,e.2.b,e.2.i,e.2.h,a.h.shut,a.h.Am,a.h.Ax,a.h.last,a.Az,a.An,a.Ag,a.step)) λd=>Aa (d.1,(⟨d.2.2.1,d.2.2.2.1,d.2.2.2.2.1⟩:B3))
def Bwx:E Af:=en 20 [Ka,G6,B8] [Xg] (Jt A5m) func20 [Bvv,L8,Bww] [E0 0 [Ev 7 2,Dw 8,.box 0 0 [.ro (.b 3),.sc 0,.sc 0],.box 4 0 [.sc 1,.ro (.b 7),.ro (.b 9),.sc 0,.ro (.b 0),.ro (.b 11),.ro (.b 14),.sc 0]]]
def Ajq (d:List UInt8) (c:Au):Option (List Cea):=
 Ac (Aba d) λa=>xg (Aq (a.h+29))<|Ac (A5m (⟨a.b,a.i,a.h+29⟩:B3) c 14) λe=>Aa e.1
def Bvp:E Af:=en 5 [Aoa,G6] [Xg] (Bw Ajq) func5 [A9p,Bwx]
def Ad2 (s:Cea):Option (List Cea):=
 Ac (Aau s (⟨#[32]⟩:Cea)) λa=>Aa a
def Auj:E Af:=en 21 [E9] [Xg] (Bp Ad2) func21 [A8j]
def Da (n:Int) (c:Int) (b:Int):Option Bool:=
 Ac (bif decide (c<=n)then(Aa (decide (n<=b)))else(Aa false)) λa=>Aa a
def I8:E Af:=en 29 [B8,B8,B8] [Bz] (Jt Da) func29
def Xv (k:Int):Option Cea:=
 Ac (Da k 1 8) λa=>bif !a then(Aa (⟨#[]⟩:Cea))else(xg (Aq (k-1))<|xg (0<=(k-1)/\(k-1)<([(⟨#[111,112,101,110]⟩:Cea),(⟨#[115,117,98,109,105,116]⟩:Cea),(⟨#[102,101,116,99,104]⟩:Cea),(⟨#[115,110,97,112]⟩:Cea),(⟨#[115,117,98]⟩:Cea),(⟨#[112,111,108,108]⟩:Cea),(⟨#[114,101,115,121,110,99]⟩:Cea),(⟨#[115,104,117,116]⟩:Cea)].length:Int))<|some (el [(⟨#[111,112,101,110]⟩:Cea),(⟨#[115,117,98,109,105,116]⟩:Cea),(⟨#[102,101,116,99,104]⟩:Cea),(⟨#[115,110,97,112]⟩:Cea),(⟨#[115,117,98]⟩:Cea),(⟨#[112,111,108,108]⟩:Cea),(⟨#[114,101,115,121,110,99]⟩:Cea),(⟨#[115,104,117,116]⟩:Cea)] ((k-1).toNat)))
def Aui:E Af:=en 69 [B8] [Hr] (Bp Xv) func69 [I8]
def Qb (k:Int):Option Bool:=
 Ac (Da k 1 5) λa=>Aa a
def Wd:E Af:=en 70 [B8] [Bz] (Bp Qb) func70 [I8]
def Gj (n:Int):Option Cea:=
 Ac (Da n 0 1000000000) λa=>bif !a then(Aa (⟨#[]⟩:Cea))else(Ac (Aib n) λb=>Aa b)
def Afv:E Af:=en 45 [B8] [Hr] (Bp Gj) func45 [Bta,I8]
def Aiz (s:Cea):Option (Int×Bool):=
 xg (s.size<=281474976710656)<|Ac (bif !(L6 s).2 then Aa true else Aa (decide (s=(⟨#[]⟩:Cea)))) λc=>Ac (bif c then Aa true else Ac (Gj (L6 s).1) λr=>Aa (!decide (r=s))) λc=>bif c then Aa (0,false)else Aa ((L6 s).1,true)
def A8w:E Af:=en 73 [E9] [C4,Bz] (Bp Aiz) func73 [Afv] (inl:=Awy) (hi:=Bz5 (by simp))
def Bj0 (d:List Cea) (e:Nat) (c:Cea) (b:List Int):Option (Lr (List Int) (Sum (List Int) (List Int×Bool))):=
 Ac (Aiz c) λa=>bif !a.2 then(Aa (Lr.out (Bj ([],false))))else(xg (b.length<1099511627776)<|some (Lr.go (b++[a.1])))
def A26 (a:List Cea) (b:Nat) (c:List Int):Option (Lr (List Int) (Sum (List Int) (List Int×Bool))):=Bj0 a b (el a b) c
def Ai9 (s:Cea):Option (List Int×Bool):=
 Ac (Aau s (⟨#[46]⟩:Cea)) λa=>Ac (A2 (A26 a) (λd=>(.inl d)) a.length 0 []) λe=>B2 (λc=>Aa (c,true)) (λb=>Aa b) e
def A83:E Af:=en 145 [E9] [M7,Bz] (Bp Ai9) func145 [A8j,A8w] [Df 0 12 11 [Ev 4 0]]
def Aiu (n:Int):Option Bool:=
 Ac (Da n 0 1114111) λc=>Ac (bif c then(Ac (Da n 55296 57343) λa=>Aa (!a))else(Aa false)) λb=>Aa b
def Bue:E Af:=en 215 [B8] [Bz] (Bp Aiu) func215 [I8]
def A2p (l:List Int) (c:Nat) (a:Int):Option (Lr Unit (Sum Unit Unit)):=
 Ac (Aiu a) λb=>bif !b then(Aa (Lr.out (Bj (()))))else(Aa (Lr.go ()))
def A2q (l:List Int) (a:Nat) (b:Unit):Option (Lr Unit (Sum Unit Unit)):=A2p l a (el l a)
def S7 (l:List Int):Option Bool:=
 Ac (A2 (A2q l) (λb=>(.inl ())) l.length 0 ()) λa=>B2 (λc=>Aa true) (λd=>Aa false) a
def Bmm (l:List Int) (c:Nat) (b:Int):Option (Lr Unit (Sum Unit Bool)):=
 Ac (Aiu b) λa=>bif !a then(Aa (Lr.out (Bj false)))else(Aa (Lr.go ()))
def Bmn (l:List Int) (a:Nat) (b:Unit):Option (Lr Unit (Sum Unit Bool)):=Bmm l a (el l a)
def Bml (l:List Int):Option Bool:=
 Ac (A2 (Bmn l) (λc=>(.inl ())) l.length 0 ()) λa=>B2 (λd=>Aa true) (λb=>Aa b) a
def Alr:E Af:=en 146 [Ii] [Bz] (Bp S7) func146 [Bue] [Df 0 7 6 []] (hx:=λa=>Eq.trans (b:=Bml a.1) (by kernel_rfl) (show _=S7 a.1 by simp only[A2p,A2q,S7,Bmm,Bmn,Bml,Dv,D8,D3,D5,D2,D4,cond_true,cond_false,D9,Ea,D6,D7]<;>rfl))
def Aq7 (s:Cea):Option (List Int×Bool):=
 bif decide (s=(⟨#[45]⟩:Cea))then(Aa ([],true))else(Ac (Ai9 s) λa=>Ac (bif !a.2 then(Aa true)else(Ac (S7 a.1) λb=>Aa (!b))) λc=>bif c then(Aa ([],false))else(Aa (a.1,true)))
def Bul:E Af:=en 71 [E9] [M7,Bz] (Bp Aq7) func71 [Alr,A83]
def Air (p:Ae):Option Bool:=
 bif decide (p.kind=1)then(bif decide (p.kind=1)then(Ac (Da p.n 0 200) λi=>Ac (bif i then(Aa (decide ((p.Bd.length:Int)=0)))else(Aa false)) λj=>Aa j)else(bif decide (p.kind=2)then(Ac (bif decide (p.n=0)then(Aa (decide ((p.Bd.length:Int)<=200)))else(Aa false)) λf=>Ac (bif f then(Ac (S7 p.Bd) λa=>Aa a)else(Aa false)) λh=>Aa h)else(Aa false)))else(bif decide (p.kind=3)then(Ac (Da p.n 0 200) λb=>Ac (bif b then(Aa (decide ((p.Bd.length:Int)=0)))else(Aa false)) λc=>Aa c)else(bif decide (p.kind=2)then(Ac (bif decide (p.n=0)then(Aa (decide ((p.Bd.length:Int)<=200)))else(Aa false)) λd=>Ac (bif d then(Ac (S7 p.Bd) λe=>Aa e)else(Aa false)) λg=>Aa g)else(Aa false)))
def Bt1:E Af:=en 222 [Ac8] [Bz] (Bp Air) func222 [Alr,I8]
def A2z (o:List Ae) (c:Nat) (b:Ae):Option (Lr Unit (Sum Unit Unit)):=
 Ac (Air b) λa=>bif !a then(Aa (Lr.out (Bj (()))))else(Aa (Lr.go ()))
def A20 (o:List Ae) (a:Nat) (b:Unit):Option (Lr Unit (Sum Unit Unit)):=A2z o a (el o a)
def X1 (o:List Ae):Option Bool:=
 Ac (A2 (A20 o) (λc=>(.inl ())) o.length 0 ()) λa=>B2 (λb=>Aa (decide ((o.length:Int)<=600))) (λd=>Aa false) a
def Bm5 (o:List Ae) (c:Nat) (a:Ae):Option (Lr Unit (Sum Unit Bool)):=
 Ac (Air a) λb=>bif !b then(Aa (Lr.out (Bj false)))else(Aa (Lr.go ()))
def Bm6 (o:List Ae) (a:Nat) (b:Unit):Option (Lr Unit (Sum Unit Bool)):=Bm5 o a (el o a)
def Bm4 (o:List Ae):Option Bool:=
 Ac (A2 (Bm6 o) (λd=>(.inl ())) o.length 0 ()) λb=>B2 (λc=>Aa (decide ((o.length:Int)<=600))) (λa=>Aa a) b
def Aur:E Af:=en 153 [Eu] [Bz] (Bp X1) func153 [Bt1] [Df 0 7 6 []] (hx:=λa=>Eq.trans (b:=Bm4 a.1) (by kernel_rfl) (show _=X1 a.1 by simp only[A2z,A20,X1,Bm5,Bm6,Bm4,Dv,D8,D3,D5,D2,D4,cond_true,cond_false,D9,Ea,D6,D7]<;>rfl))
def Rl (t:List Int):Option Bool:=
 Ac (bif decide ((t.length:Int)<=200)then(Ac (S7 t) λb=>Aa b)else(Aa false)) λa=>Aa a
def Afy:E Af:=en 154 [Ii] [Bz] (Bp Rl) func154 [Alr]
def Arn (c:Bb):Option Bb:=
 Ac (Qb c.kind) λa=>bif a then(bif decide (c.kind=1)then(Aa (⟨c.kind,c.Ah,0,0,0,[],c.text⟩:Bb))else(bif decide (c.kind=2)then(Aa (⟨c.kind,c.Ah,c.Al,c.seq,c.n,c.o,[]⟩:Bb))else(bif decide (c.kind=3)then(bif decide (c.kind=3)then(Aa (⟨c.kind,c.Ah,0,0,c.n,[],[]⟩:Bb))else(bif decide (c.kind=6)then(Aa (⟨c.kind,c.Ah,c.Al,0,c.n,[],[]⟩:Bb))else(bif decide (c.kind=7)then(Aa (⟨c.kind,c.Ah,c.Al,0,0,[],[]⟩:Bb))else(Aa (⟨c.kind,c.Ah,0,0,0,[],[]⟩:Bb)))))else(bif decide (c.kind=5)then(Aa (⟨c.kind,c.Ah,0,0,c.n,[],[]⟩:Bb))else(bif decide (c.kind=6)then(Aa (⟨c.kind,c.Ah,c.Al,0,c.n,[],[]⟩:Bb))else(bif decide (c.kind=7)then(Aa (⟨c.kind,c.Ah,c.Al,0,0,[],[]⟩:Bb))else(Aa (⟨c.kind,c.Ah,0,0,0,[],[]⟩:Bb))))))))else(bif decide (c.kind=1)then(Aa (⟨c.kind,Cb,0,0,0,[],c.text⟩:Bb))else(bif decide (c.kind=2)then(Aa (⟨c.kind,Cb,c.Al,c.seq,c.n,c.o,[]⟩:Bb))else(bif decide (c.kind=3)then(bif decide (c.kind=3)then(Aa (⟨c.kind,Cb,0,0,c.n,[],[]⟩:Bb))else(bif decide (c.kind=6)then(Aa (⟨c.kind,Cb,c.Al,0,c.n,[],[]⟩:Bb))else(bif decide (c.kind=7)then(Aa (⟨c.kind,Cb,c.Al,0,0,[],[]⟩:Bb))else(Aa (⟨c.kind,Cb,0,0,0,[],[]⟩:Bb)))))else(bif decide (c.kind=5)then(Aa (⟨c.kind,Cb,0,0,c.n,[],[]⟩:Bb))else(bif decide (c.kind=6)then(Aa (⟨c.kind,Cb,c.Al,0,c.n,[],[]⟩:Bb))else(bif decide (c.kind=7)then(Aa (⟨c.kind,Cb,c.Al,0,0,[],[]⟩:Bb))else(Aa (⟨c.kind,Cb,0,0,0,[],[]⟩:Bb))))))))
def Bu3:E Af:=en 155 [M4] [⟨false,.b 12,false⟩] (Bp Arn) func155 [Wd]
def A3l (b:List Int) (d:List Int) (a:Nat) (c:Int):Option (Lr Unit (Sum Unit Unit)):=
 xg (0<=(a:Int)/\(a:Int)<(b.length:Int))<|bif !decide (c=(el b a))then(Aa (Lr.out (Bj (()))))else(Aa (Lr.go ()))
def A3m (c:List Int) (a:List Int) (b:Nat) (d:Unit):Option (Lr Unit (Sum Unit Unit)):=A3l c a b (el a b)
def O5 (a:List Int) (b:List Int):Option Bool:=
 bif !decide ((a.length:Int)=(b.length:Int))then(Aa false)else(Ac (A2 (A3m b a) (λf=>(.inl ())) a.length 0 ()) λc=>B2 (λd=>Aa true) (λe=>Aa false) c)
def Bnw (b:List Int) (d:List Int) (a:Nat) (c:Int):Option (Lr Unit (Sum Unit Bool)):=
 xg (0<=(a:Int)/\(a:Int)<(b.length:Int))<|bif !decide (c=(el b a))then(Aa (Lr.out (Bj false)))else(Aa (Lr.go ()))
def Bnx (c:List Int) (a:List Int) (b:Nat) (d:Unit):Option (Lr Unit (Sum Unit Bool)):=Bnw c a b (el a b)
def Bnv (a:List Int) (b:List Int):Option Bool:=
 bif !decide ((a.length:Int)=(b.length:Int))then(Aa false)else(Ac (A2 (Bnx b a) (λf=>(.inl ())) a.length 0 ()) λc=>B2 (λe=>Aa true) (λd=>Aa d) c)
def Y0:E Af:=en 32 [Ii,Ii] [Bz] (Bw O5) func32 [] [Df 0 13 12 []] (hx:=λa=>Eq.trans (b:=Bnv a.1 a.2.1) (by kernel_rfl) (show _=O5 a.1 a.2.1 by simp only[A3l,A3m,O5,Bnw,Bnx,Bnv,Dv,D8,D3,D5,D2,D4,cond_true,cond_false,D9,Ea,D6,D7]<;>rfl))
def Aja (a:Ae) (b:Ae):Option Bool:=
 Ac (bif decide (a.kind=b.kind)then(Aa (decide (a.n=b.n)))else(Aa false)) λe=>Ac (bif e then(Ac (O5 a.Bd b.Bd) λd=>Aa d)else(Aa false)) λc=>Aa c
def Buy:E Af:=en 227 [Ac8,Ac8] [Bz] (Bw Aja) func227 [Y0]
def A3h (b:List Ae) (e:List Ae) (a:Nat) (d:Ae):Option (Lr Unit (Sum Unit Unit)):=
 xg (0<=(a:Int)/\(a:Int)<(b.length:Int))<|Ac (Aja d (el b a)) λc=>bif !c then(Aa (Lr.out (Bj (()))))else(Aa (Lr.go ()))
def A3i (c:List Ae) (a:List Ae) (b:Nat) (d:Unit):Option (Lr Unit (Sum Unit Unit)):=A3h c a b (el a b)
def Aje (a:List Ae) (b:List Ae):Option Bool:=
 bif !decide ((a.length:Int)=(b.length:Int))then(Aa false)else(Ac (A2 (A3i b a) (λf=>(.inl ())) a.length 0 ()) λc=>B2 (λd=>Aa true) (λe=>Aa false) c)
def Bnq (b:List Ae) (e:List Ae) (a:Nat) (d:Ae):Option (Lr Unit (Sum Unit Bool)):=
 xg (0<=(a:Int)/\(a:Int)<(b.length:Int))<|Ac (Aja d (el b a)) λc=>bif !c then(Aa (Lr.out (Bj false)))else(Aa (Lr.go ()))
def Bnr (c:List Ae) (a:List Ae) (b:Nat) (d:Unit):Option (Lr Unit (Sum Unit Bool)):=Bnq c a b (el a b)
def Bnp (a:List Ae) (b:List Ae):Option Bool:=
 bif !decide ((a.length:Int)=(b.length:Int))then(Aa false)else(Ac (A2 (Bnr b a) (λf=>(.inl ())) a.length 0 ()) λd=>B2 (λe=>Aa true) (λc=>Aa c) d)
def Bu6:E Af:=en 226 [Eu,Eu,.fn 227 0] [Bz] (Bw Aje) func226 [Buy] [Df 0 17 16 []] (hx:=λa=>Eq.trans (b:=Bnp a.1 a.2.1) (by kernel_rfl) (show _=Aje a.1 a.2.1 by simp only[A3h,A3i,Aje,Bnq,Bnr,Bnp,Dv,D8,D3,D5,D2,D4,cond_true,cond_false,D9,Ea,D6,D7]<;>rfl))
def Ad3 (a:List Ae) (b:List Ae):Option Bool:=
 Ac (Aje a b) λc=>Aa c
def Aum:E Af:=en 166 [Eu,Eu] [Bz] (Bw Ad3) func166 [Bu6]
def Aid (a:Bb) (b:Bb):Option Bool:=
 Ac (bif decide (a.kind=b.kind)then(Aa (decide (a.Ah=b.Ah)))else(Aa false)) λi=>Ac (bif i then(Aa (decide (a.Al=b.Al)))else(Aa false)) λh=>Ac (bif h then(Aa (decide (a.seq=b.seq)))else(Aa false)) λe=>Ac (bif e then(Aa (decide (a.n=b.n)))else(Aa false)) λc=>Ac (bif c then(Ac (Ad3 a.o b.o) λf=>Aa f)else(Aa false)) λd=>Ac (bif d then(Ac (O5 a.text b.text) λj=>Aa j)else(Aa false)) λg=>Aa g
def A8m:E Af:=en 95 [M4,M4] [Bz] (Bw Aid) func95 [Aum,Y0]
def Aav (c:Bb):Option Bool:=
 Ac (Da c.kind 1 8) λg=>Ac (bif g then(Aa (decide ((c.Ah.size:Int)<=8)))else(Aa false)) λf=>Ac (bif f then(Ac (X1 c.o) λh=>Aa h)else(Aa false)) λj=>Ac (bif j then(Ac (Rl c.text) λe=>Aa e)else(Aa false)) λa=>Ac (bif a then(Ac (Arn c) λi=>Ac (Aid c i) λb=>Aa b)else(Aa false)) λd=>Aa d
def Alo:E Af:=en 81 [M4] [Bz] (Bp Aav) func81 [A8m,Afy,Aur,Bu3,I8]
def O4 (p:Ae):Option Int:=
 xg (Aq (p.n+(p.Bd.length:Int)))<|some (p.n+(p.Bd.length:Int))
def Alt:E Af:=en 280 [Ac8] [C4] (Bp O4) func280
def Bj2 (d:Int) (o:List Ae) (e:Nat) (c:Ae) (a:Int):Option (Lr Int Int):=
 bif !decide ((c.kind)=d)then(Ac (O4 c) λb=>xg (Aq (a+b))<|some (Lr.go (a+b)))else(Aa (Lr.go a))
def Bj3 (c:Int) (o:List Ae) (a:Nat) (b:Int):Option (Lr Int Int):=Bj2 c o a (el o a) b
def Ajb (o:List Ae) (b:Int):Option Int:=
 Ac (X1 o) λa=>bif !a then(Aa 0)else(Ac (A2 (Bj3 b o) (λc=>c) o.length 0 0) λd=>Aa d)
def A85:E Af:=en 240 [Eu,B8] [C4] (Bw Ajb) func240 [Aur,Alt] [Fb 0 13 12 [Dw 5]]
def Rj (o:List Ae):Option Int:=
 Ac (Ajb o 2) λa=>Aa a
def Alp:E Af:=en 176 [Eu] [C4] (Bp Rj) func176 [A85]
def Aqp (o:List Ae):Option Int:=
 Ac (Ajb o 3) λa=>Aa a
def Btw:E Af:=en 177 [Eu] [C4] (Bp Aqp) func177 [A85]
def Je (o:List Ae):Option Bool:=
 Ac (X1 o) λc=>Ac (bif c then(Ac (Rj o) λe=>Aa (decide (e<=200)))else(Aa false)) λd=>Ac (bif d then(Ac (Aqp o) λa=>Aa (decide (a<=200)))else(Aa false)) λb=>Aa b
def R6:E Af:=en 102 [Eu] [Bz] (Bp Je) func102 [Alp,Btw,Aur]
def Aqo (s:Cea) (a:Int):Option (Lr Int (Sum Unit Unit)):=
 bif decide (a<(s.size:Int))then(xg (0<=a/\a<(s.size:Int))<|Ac (bif decide (((Du s a.toNat).toNat:Int)<97)then(Aa true)else(xg (0<=a/\a<(s.size:Int))<|some (decide ((122:Int)<((Du s a.toNat).toNat:Int))))) λb=>bif b then(Aa (Lr.out (Bj (()))))else(xg (Aq (a+1))<|some (Lr.go (a+1))))else(Aa (Lr.out (Ej ())))
def Xx (s:Cea) (a:Int):Option (Lr Int (Sum Unit Unit)):=Aqo s a
def Ml (s:Cea):Option Bool:=
 Ac (Cp (Xx s) 0) λb=>B2 (λd=>Ac (Da (s.size:Int) 1 8) λa=>Aa a) (λc=>Aa false) b
def Bmd (s:Cea) (a:Int):Option (Lr Int (Sum Int Bool)):=
 bif decide (a<(s.size:Int))then(xg (0<=a/\a<(s.size:Int))<|Ac (bif decide (((Du s a.toNat).toNat:Int)<97)then(Aa true)else(xg (0<=a/\a<(s.size:Int))<|some (decide ((122:Int)<((Du s a.toNat).toNat:Int))))) λb=>bif b then(Aa (Lr.out (Bj false)))else(xg (Aq (a+1))<|some (Lr.go (a+1))))else(Aa (Lr.out (Ej a)))
def Bme (s:Cea) (a:Int):Option (Lr Int (Sum Int Bool)):=Bmd s a
def Bmc (s:Cea):Option Bool:=
 Ac (Cp (Bme s) 0) λb=>B2 (λd=>Ac (Da (s.size:Int) 1 8) λc=>Aa c) (λa=>Aa a) b
def Aul:E Af:=en 103 [E9] [Bz] (Bp Ml) func103 [I8] [hnT 0 [Dw 3]] (hx:=λa=>Eq.trans (b:=Bmc a.1) (by kernel_rfl) (show _=Ml a.1 by simp only[Aqo,Xx,Ml,Bmd,Bme,Bmc,Dv,D8,D3,D5,D2,D4,cond_true,cond_false,D9,Ea,D6,D7]<;>rfl))
def Bjx (l:List Int) (d:Nat) (b:Int) (a:List Cea):Option (Lr (List Cea) (List Cea)):=
 Ac (Gj b) λc=>xg (a.length<1099511627776)<|some (Lr.go (a++[c]))
def Bjy (l:List Int) (a:Nat) (b:List Cea):Option (Lr (List Cea) (List Cea)):=Bjx l a (el l a) b
def Ai5 (l:List Int):Option Cea:=
 Ac (A2 (Bjy l) (λa=>a) l.length 0 []) λc=>Ac (Aas c (⟨#[46]⟩:Cea)) λb=>Aa b
def A80:E Af:=en 178 [Ii] [Hr] (Bp Ai5) func178 [A8h,Afv] [Fb 0 8 7 [Ev 3 2]]
def Aiv (l:List Int):Option Cea:=
 Ac (S7 l) λb=>bif !b then(Aa (⟨#[]⟩:Cea))else(bif decide ((l.length:Int)=0)then(Aa (⟨#[45]⟩:Cea))else(Ac (Ai5 l) λa=>Aa a))
def Buf:E Af:=en 104 [Ii] [Hr] (Bp Aiv) func104 [Alr,A80]
def Aay (p:List Int) (a:List Ae) (b:Int):Option (List Int×List Ae×Int):=
 bif decide ((0:Int)<(p.length:Int))then(xg (a.length<1099511627776)<|bif decide ((0:Int)<b)then(xg ((a++[(⟨2,0,p⟩:Ae)]).length<1099511627776)<|some ([],(a++[(⟨2,0,p⟩:Ae)])++[(⟨3,b,[]⟩:Ae)],0))else(Aa ([],a++[(⟨2,0,p⟩:Ae)],0)))else(bif decide ((0:Int)<b)then(xg (a.length<1099511627776)<|some ([],a++[(⟨3,b,[]⟩:Ae)],0))else(Aa ([],a,0)))
def Bus:E Af:=en 296 [.box .ow (.sl (.b 0)),.box .ow (.sl (.b 4)),.box .ow (.b 0)] [] (Jt Aay) func296
def A2x (o:List Ae) (g:Nat) (b:Ae) (c:List Int) (d:Int) (e:List Ae):Option (Lr (List Int×Int×List Ae) (List Ae×List Int×Int)):=
 bif decide ((b.kind)=2)then(xg (c.length+(b.Bd).length<=1099511627776)<|some (Lr.go (c++(b.Bd),d,e)))else(bif decide ((b.kind)=3)then(xg (Aq (d+(b.n)))<|some (Lr.go (c,d+(b.n),e)))else(bif decide ((0:Int)<(b.n))then(Ac (Aay c e d) λa=>Ac (bif decide ((0:Int)<(a.2.1.length:Int))then(xg (Aq ((a.2.1.length:Int)-1))<|xg (0<=((a.2.1.length:Int)-1)/\((a.2.1.length:Int)-1)<(a.2.1.length:Int))<|some (decide (((el a.2.1 (((a.2.1.length:Int)-1).toNat)).kind)=1)))else(Aa false)) λf=>bif f then(xg (Aq ((a.2.1.length:Int)-1))<|xg (0<=((a.2.1.length:Int)-1)/\((a.2.1.length:Int)-1)<(a.2.1.length:Int))<|xg (Aq (((el a.2.1 (((a.2.1.length:Int)-1).toNat)).n)+(b.n)))<|xg (0<=((a.2.1.length:Int)-1)/\((a.2.1.length:Int)-1)<(a.2.1.length:Int))<|some (Lr.go (a.1,a.2.2,a.2.1.set (((a.2.1.length:Int)-1).toNat) (⟨(el a.2.1 (((a.2.1.length:Int)-1).toNat)).kind,((el a.2.1 (((a.2.1.length:Int)-1).toNat)).n)+(b.n),(el a.2.1 (((a.2.1.length:Int)-1).toNat)).Bd⟩:Ae))))else(xg (a.2.1.length<1099511627776)<|some (Lr.go (a.1,a.2.2,a.2.1++[(⟨1,b.n,[]⟩:Ae)]))))else(Aa (Lr.go (c,d,e)))))
def Ari (o:List Ae) (b:Nat) (a:List Int×Int×List Ae):Option (Lr (List Int×Int×List Ae) (List Ae×List Int×Int)):=A2x o b (el o b) a.1 a.2.1 a.2.2
def Ta (o:List Ae):Option (List Ae):=
 Ac (A2 (Ari o) (λa=>(a.2.2,a.1,a.2.1)) o.length 0 ([],0,[])) λb=>Ac (Aay b.2.1 b.1 b.2.2) λc=>Aa c.2.1
def Bm2 (o:List Ae) (g:Nat) (b:Ae) (c:List Int) (d:Int) (e:List Ae):Option (Lr (List Int×Int×List Ae) (List Int×Int×List Ae)):=
 bif decide ((b.kind)=2)then(xg (c.length+(b.Bd).length<=1099511627776)<|some (Lr.go (c++(b.Bd),d,e)))else(bif decide ((b.kind)=3)then(xg (Aq (d+(b.n)))<|some (Lr.go (c,d+(b.n),e)))else(bif decide ((0:Int)<(b.n))then(Ac (Aay c e d) λa=>Ac (bif decide ((0:Int)<(a.2.1.length:Int))then(xg (Aq ((a.2.1.length:Int)-1))<|xg (0<=((a.2.1.length:Int)-1)/\((a.2.1.length:Int)-1)<(a.2.1.length:Int))<|some (decide (((el a.2.1 (((a.2.1.length:Int)-1).toNat)).kind)=1)))else(Aa false)) λf=>bif f then(xg (Aq ((a.2.1.length:Int)-1))<|xg (0<=((a.2.1.length:Int)-1)/\((a.2.1.length:Int)-1)<(a.2.1.length:Int))<|xg (Aq (((el a.2.1 (((a.2.1.length:Int)-1).toNat)).n)+(b.n)))<|xg (0<=((a.2.1.length:Int)-1)/\((a.2.1.length:Int)-1)<(a.2.1.length:Int))<|some (Lr.go (a.1,a.2.2,a.2.1.set (((a.2.1.length:Int)-1).toNat) (⟨(el a.2.1 (((a.2.1.length:Int)-1).toNat)).kind,((el a.2.1 (((a.2.1.length:Int)-1).toNat)).n)+(b.n),(el a.2.1 (((a.2.1.length:Int)-1).toNat)).Bd⟩:Ae))))else(xg (a.2.1.length<1099511627776)<|some (Lr.go (a.1,a.2.2,a.2.1++[(⟨1,b.n,[]⟩:Ae)]))))else(Aa (Lr.go (c,d,e)))))
def Bm3 (o:List Ae) (b:Nat) (a:List Int×Int×List Ae):Option (Lr (List Int×Int×List Ae) (List Int×Int×List Ae)):=Bm2 o b (el o b) a.1 a.2.1 a.2.2
def Bm1 (o:List Ae):Option (List Ae):=
 Ac (A2 (Bm3 o) (λa=>(a.1,a.2.1,a.2.2)) o.length 0 ([],0,[])) λb=>Ac (Aay b.1 b.2.2 b.2.1) λc=>Aa c.2.1
def A81:E Af:=en 260 [Eu] [Iz] (Bp Ta) func260 [Bus] [Fb 0 13 12 [.box 4 0 [.row (.b 0)],.box 5 0 [.sc 0],.box 3 0 [.row (.b 4)]]] (hx:=λa=>Eq.trans (b:=Bm1 a.1) (by kernel_rfl) (show _=Ta a.1 by simp only[A2x,Ari,Ta,Bm2,Bm3,Bm1,Dv,D8,D3,D5,D2,D4,cond_true,cond_false,D9,Ea,D6,D7]<;>rfl))
def Xy (o:List Ae):Option (List Ae):=
 Ac (Je o) λa=>bif !a then(Aa [])else(Ac (Ta o) λb=>Aa b)
def Alq:E Af:=en 216 [Eu] [Iz] (Bp Xy) func216 [R6,A81]
def Bje (g:List Ae) (f:Nat) (b:Ae) (a:List Cea):Option (Lr (List Cea) (List Cea)):=
 bif decide ((b.kind)=1)then(Ac (Gj (b.n)) λe=>xg ((⟨#[107]⟩:Cea).size+e.size<=9223372036854775807)<|xg (a.length<1099511627776)<|some (Lr.go (a++[(⟨#[107]⟩:Cea)++e])))else(bif decide ((b.kind)=3)then(Ac (Gj (b.n)) λd=>xg ((⟨#[100]⟩:Cea).size+d.size<=9223372036854775807)<|xg (a.length<1099511627776)<|some (Lr.go (a++[(⟨#[100]⟩:Cea)++d])))else(Ac (Ai5 (b.Bd)) λc=>xg ((⟨#[112]⟩:Cea).size+c.size<=9223372036854775807)<|xg (a.length<1099511627776)<|some (Lr.go (a++[(⟨#[112]⟩:Cea)++c]))))
def Bjf (a:List Ae) (b:Nat) (c:List Cea):Option (Lr (List Cea) (List Cea)):=Bje a b (el a b) c
def Aiq (o:List Ae):Option Cea:=
 Ac (Je o) λc=>bif !c then(Aa (⟨#[]⟩:Cea))else(Ac (Xy o) λb=>Ac (A2 (Bjf b) (λe=>e) b.length 0 []) λa=>bif decide ((a.length:Int)=0)then(Aa (⟨#[45]⟩:Cea))else(Ac (Aas a (⟨#[32]⟩:Cea)) λd=>Aa d))
def A8s:E Af:=en 179 [Eu] [Hr] (Bp Aiq) func179 [A8h,Afv,Alq,R6,A80] [Fb 0 12 11 [Ev 3 2]]
def Ai7 (o:List Ae):Option Cea:=
 Ac (Aiq o) λa=>Ac (Aat a (⟨#[32]⟩:Cea) (⟨#[44]⟩:Cea)) λb=>Aa b
def But:E Af:=en 105 [Eu] [Hr] (Bp Ai7) func105 [A8i,A8s]
def O2 (c:Bb):Option Cea:=
 Ac (Aav c) λT=>Ac (bif !T then(Aa true)else(Ac (Je c.o) λF=>Aa (!F))) λL=>Ac (bif L then(Aa true)else(Ac (Qb c.kind) λI=>Ac (bif I then(Ac (Ml c.Ah) λH=>Aa (!H))else(Aa false)) λK=>Aa K)) λG=>Ac (bif G then(Aa true)else(Ac (Da c.Al 0 1000000000) λP=>Aa (!P))) λS=>Ac (bif S then(Aa true)else(Ac (Da c.seq 0 1000000000) λM=>Aa (!M))) λN=>Ac (bif N then(Aa true)else(Ac (Da c.n 0 1000000000) λO=>Aa (!O))) λR=>bif R then(Aa (⟨#[]⟩:Cea))else(Ac (Xv c.kind) λa=>Ac (Qb c.kind) λQ=>bif Q then(xg ((⟨#[32]⟩:Cea).size+c.Ah.size<=9223372036854775807)<|xg (a.size+((⟨#[32]⟩:Cea)++c.Ah).size<=9223372036854775807)<|bif decide (c.kind=1)then(Ac (Aiv c.text) λx=>xg ((⟨#[32]⟩:Cea).size+x.size<=9223372036854775807)<|xg ((a++((⟨#[32]⟩:Cea)++c.Ah)).size+((⟨#[32]⟩:Cea)++x).size<=9223372036854775807)<|some ((a++((⟨#[32]⟩:Cea)++c.Ah))++((⟨#[32]⟩:Cea)++x)))else(bif decide (c.kind=2)then(Ac (Gj c.Al) λb=>xg ((⟨#[32]⟩:Cea).size+b.size<=9223372036854775807)<|xg (((⟨#[32]⟩:Cea)++b).size+(⟨#[32]⟩:Cea).size<=9223372036854775807)<|Ac (Gj c.seq) λf=>xg ((((⟨#[32]⟩:Cea)++b)++(⟨#[32]⟩:Cea)).size+f.size<=9223372036854775807)<|xg (((((⟨#[32]⟩:Cea)++b)++(⟨#[32]⟩:Cea))++f).size+(⟨#[32]⟩:Cea).size<=9223372036854775807)<|Ac (Gj c.n) λj=>xg ((((((⟨#[32]⟩:Cea)++b)++(⟨#[32]⟩:Cea))++f)++(⟨#[32]⟩:Cea)).size+j.size<=9223372036854775807)<|xg (((((((⟨#[32]⟩:Cea)++b)++(⟨#[32]⟩:Cea))++f)++(⟨#[32]⟩:Cea))++j).size+(⟨#[32]⟩:Cea).size<=9223372036854775807)<|Ac (Ai7 c.o) λD=>xg ((((((((⟨#[32]⟩:Cea)++b)++(⟨#[32]⟩:Cea))++f)++(⟨#[32]⟩:Cea))++j)++(⟨#[32]⟩:Cea)).size+D.size<=9223372036854775807)<|xg ((a++((⟨#[32]⟩:Cea)++c.Ah)).size+((((((((⟨#[32]⟩:Cea)++b)++(⟨#[32]⟩:Cea))++f)++(⟨#[32]⟩:Cea))++j)++(⟨#[32]⟩:Cea))++D).size<=9223372036854775807)<|some ((a++((⟨#[32]⟩:Cea)++c.Ah))++((((((((⟨#[32]⟩:Cea)++b)++(⟨#[32]⟩:Cea))++f)++(⟨#[32]⟩:Cea))++j)++(⟨#[32]⟩:Cea))++D)))else(bif decide (c.kind=3)then(bif decide (c.kind=3)then(Ac (Gj c.n) λC=>xg ((⟨#[32]⟩:Cea).size+C.size<=9223372036854775807)<|xg ((a++((⟨#[32]⟩:Cea)++c.Ah)).size+((⟨#[32]⟩:Cea)++C).size<=9223372036854775807)<|some ((a++((⟨#[32]⟩:Cea)++c.Ah))++((⟨#[32]⟩:Cea)++C)))else(bif decide (c.kind=6)then(Ac (Gj c.Al) λh=>xg ((⟨#[32]⟩:Cea).size+h.size<=9223372036854775807)<|xg (((⟨#[32]⟩:Cea)++h).size+(⟨#[32]⟩:Cea).size<=9223372036854775807)<|Ac (Gj c.n) λt=>xg ((((⟨#[32]⟩:Cea)++h)++(⟨#[32]⟩:Cea)).size+t.size<=9223372036854775807)<|xg ((a++((⟨#[32]⟩:Cea)++c.Ah)).size+((((⟨#[32]⟩:Cea)++h)++(⟨#[32]⟩:Cea))++t).size<=9223372036854775807)<|some ((a++((⟨#[32]⟩:Cea)++c.Ah))++((((⟨#[32]⟩:Cea)++h)++(⟨#[32]⟩:Cea))++t)))else(bif decide (c.kind=7)then(Ac (Gj c.Al) λm=>xg ((⟨#[32]⟩:Cea).size+m.size<=9223372036854775807)<|xg ((a++((⟨#[32]⟩:Cea)++c.Ah)).size+((⟨#[32]⟩:Cea)++m).size<=9223372036854775807)<|some ((a++((⟨#[32]⟩:Cea)++c.Ah))++((⟨#[32]⟩:Cea)++m)))else(Aa (a++((⟨#[32]⟩:Cea)++c.Ah))))))else(bif decide (c.kind=5)then(Ac (Gj c.n) λy=>xg ((⟨#[32]⟩:Cea).size+y.size<=9223372036854775807)<|xg ((a++((⟨#[32]⟩:Cea)++c.Ah)).size+((⟨#[32]⟩:Cea)++y).size<=9223372036854775807)<|some ((a++((⟨#[32]⟩:Cea)++c.Ah))++((⟨#[32]⟩:Cea)++y)))else(bif decide (c.kind=6)then(Ac (Gj c.Al) λk=>xg ((⟨#[32]⟩:Cea).size+k.size<=9223372036854775807)<|xg (((⟨#[32]⟩:Cea)++k).size+(⟨#[32]⟩:Cea).size<=9223372036854775807)<|Ac (Gj c.n) λs=>xg ((((⟨#[32]⟩:Cea)++k)++(⟨#[32]⟩:Cea)).size+s.size<=9223372036854775807)<|xg ((a++((⟨#[32]⟩:Cea)++c.Ah)).size+((((⟨#[32]⟩:Cea)++k)++(⟨#[32]⟩:Cea))++s).size<=9223372036854775807)<|some ((a++((⟨#[32]⟩:Cea)++c.Ah))++((((⟨#[32]⟩:Cea)++k)++(⟨#[32]⟩:Cea))++s)))else(bif decide (c.kind=7)then(Ac (Gj c.Al) λp=>xg ((⟨#[32]⟩:Cea).size+p.size<=9223372036854775807)<|xg ((a++((⟨#[32]⟩:Cea)++c.Ah)).size+((⟨#[32]⟩:Cea)++p).size<=9223372036854775807)<|some ((a++((⟨#[32]⟩:Cea)++c.Ah))++((⟨#[32]⟩:Cea)++p)))else(Aa (a++((⟨#[32]⟩:Cea)++c.Ah)))))))))else(bif decide (c.kind=1)then(Ac (Aiv c.text) λv=>xg ((⟨#[32]⟩:Cea).size+v.size<=9223372036854775807)<|xg (a.size+((⟨#[32]⟩:Cea)++v).size<=9223372036854775807)<|some (a++((⟨#[32]⟩:Cea)++v)))else(bif decide (c.kind=2)then(Ac (Gj c.Al) λd=>xg ((⟨#[32]⟩:Cea).size+d.size<=9223372036854775807)<|xg (((⟨#[32]⟩:Cea)++d).size+(⟨#[32]⟩:Cea).size<=9223372036854775807)<|Ac (Gj c.seq) λe=>xg ((((⟨#[32]⟩:Cea)++d)++(⟨#[32]⟩:Cea)).size+e.size<=9223372036854775807)<|xg (((((⟨#[32]⟩:Cea)++d)++(⟨#[32]⟩:Cea))++e).size+(⟨#[32]⟩:Cea).size<=9223372036854775807)<|Ac (Gj c.n) λi=>xg ((((((⟨#[32]⟩:Cea)++d)++(⟨#[32]⟩:Cea))++e)++(⟨#[32]⟩:Cea)).size+i.size<=9223372036854775807)<|xg (((((((⟨#[32]⟩:Cea)++d)++(⟨#[32]⟩:Cea))++e)++(⟨#[32]⟩:Cea))++i).size+(⟨#[32]⟩:Cea).size<=9223372036854775807)<|Ac (Ai7 c.o) λu=>xg ((((((((⟨#[32]⟩:Cea)++d)++(⟨#[32]⟩:Cea))++e)++(⟨#[32]⟩:Cea))++i)++(⟨#[32]⟩:Cea)).size+u.size<=9223372036854775807)<|xg (a.size+((((((((⟨#[32]⟩:Cea)++d)++(⟨#[32]⟩:Cea))++e)++(⟨#[32]⟩:Cea))++i)++(⟨#[32]⟩:Cea))++u).size<=9223372036854775807)<|some (a++((((((((⟨#[32]⟩:Cea)++d)++(⟨#[32]⟩:Cea))++e)++(⟨#[32]⟩:Cea))++i)++(⟨#[32]⟩:Cea))++u)))else(bif decide (c.kind=3)then(bif decide (c.kind=3)then(Ac (Gj c.n) λr=>xg ((⟨#[32]⟩:Cea).size+r.size<=9223372036854775807)<|xg (a.size+((⟨#[32]⟩:Cea)++r).size<=9223372036854775807)<|some (a++((⟨#[32]⟩:Cea)++r)))else(bif decide (c.kind=6)then(Ac (Gj c.Al) λl=>xg ((⟨#[32]⟩:Cea).size+l.size<=9223372036854775807)<|xg (((⟨#[32]⟩:Cea)++l).size+(⟨#[32]⟩:Cea).size<=9223372036854775807)<|Ac (Gj c.n) λq=>xg ((((⟨#[32]⟩:Cea)++l)++(⟨#[32]⟩:Cea)).size+q.size<=9223372036854775807)<|xg (a.size+((((⟨#[32]⟩:Cea)++l)++(⟨#[32]⟩:Cea))++q).size<=9223372036854775807)<|some (a++((((⟨#[32]⟩:Cea)++l)++(⟨#[32]⟩:Cea))++q)))else(bif decide (c.kind=7)then(Ac (Gj c.Al) λA=>xg ((⟨#[32]⟩:Cea).size+A.size<=9223372036854775807)<|xg (a.size+((⟨#[32]⟩:Cea)++A).size<=9223372036854775807)<|some (a++((⟨#[32]⟩:Cea)++A)))else(Aa a))))else(bif decide (c.kind=5)then(Ac (Gj c.n) λz=>xg ((⟨#[32]⟩:Cea).size+z.size<=9223372036854775807)<|xg (a.size+((⟨#[32]⟩:Cea)++z).size<=9223372036854775807)<|some (a++((⟨#[32]⟩:Cea)++z)))else(bif decide (c.kind=6)then(Ac (Gj c.Al) λg=>xg ((⟨#[32]⟩:Cea).size+g.size<=9223372036854775807)<|xg (((⟨#[32]⟩:Cea)++g).size+(⟨#[32]⟩:Cea).size<=9223372036854775807)<|Ac (Gj c.n) λB=>xg ((((⟨#[32]⟩:Cea)++g)++(⟨#[32]⟩:Cea)).size+B.size<=9223372036854775807)<|xg (a.size+((((⟨#[32]⟩:Cea)++g)++(⟨#[32]⟩:Cea))++B).size<=9223372036854775807)<|some (a++((((⟨#[32]⟩:Cea)++g)++(⟨#[32]⟩:Cea))++B)))else(bif decide (c.kind=7)then(Ac (Gj c.Al) λw=>xg ((⟨#[32]⟩:Cea).size+w.size<=9223372036854775807)<|xg (a.size+((⟨#[32]⟩:Cea)++w).size<=9223372036854775807)<|some (a++((⟨#[32]⟩:Cea)++w)))else(Aa a))))))))
def A8n:E Af:=en 44 [M4] [Hr] (Bp O2) func44 [Alo,Aui,Aul,Afv,Wd,R6,Buf,But,I8]
def Ly (a:List Cea) (k:Int):Option Int:=
 bif decide ((a.length:Int)<=k)then(Aa (-1))else(xg (0<=k/\k<(a.length:Int))<|Ac (Aiz (el a k.toNat)) λb=>bif !b.2 then(Aa (-1))else(Aa b.1))
def A82:E Af:=en 23 [Ac7,B8] [C4] (Bw Ly) func23 [A8w]
def Bjl (d:List Cea) (e:Nat) (a:Cea) (c:List Ae):Option (Lr (List Ae) (Sum (List Ae) (List Ae×Bool))):=
 bif decide (a=(⟨#[]⟩:Cea))then(Aa (Lr.out (Bj ([],false))))else(xg (0<=(1:Int)/\(1:Int)<=(a.size:Int))<|Ac (Ai9 (a.extract 1 a.size)) λb=>bif !b.2 then(Aa (Lr.out (Bj ([],false))))else(xg (0<=(0:Int)/\(0:Int)<(a.size:Int))<|bif decide (((Du a 0).toNat:Int)=107)then(xg (0<=(0:Int)/\(0:Int)<(b.1.length:Int))<|xg (c.length<1099511627776)<|some (Lr.go (c++[(⟨1,el b.1 0,[]⟩:Ae)])))else(bif decide (((Du a 0).toNat:Int)=100)then(xg (0<=(0:Int)/\(0:Int)<(b.1.length:Int))<|xg (c.length<1099511627776)<|some (Lr.go (c++[(⟨3,el b.1 0,[]⟩:Ae)])))else(xg (c.length<1099511627776)<|some (Lr.go (c++[(⟨2,0,b.1⟩:Ae)]))))))
def Bjm (b:List Cea) (a:Nat) (c:List Ae):Option (Lr (List Ae) (Sum (List Ae) (List Ae×Bool))):=Bjl b a (el b a) c
def Aq6 (s:Cea):Option (List Ae×Bool):=
 bif decide (s=(⟨#[45]⟩:Cea))then(Aa ([],true))else(Ac (Ad2 s) λb=>Ac (A2 (Bjm b) (λh=>(.inl h)) b.length 0 []) λe=>B2 (λa=>Ac (Je a) λi=>Ac (bif !i then(Aa true)else(Ac (Aiq a) λc=>Aa (!decide (c=s)))) λd=>bif d then(Aa ([],false))else(Ac (Xy a) λg=>Aa (g,true))) (λf=>Aa f) e)
def Buk:E Af:=en 147 [E9] [Iz,Bz] (Bp Aq6) func147 [Auj,Alq,R6,A8s,A83] [Df 0 14 13 [Ev 4 4]]
def Aro (s:Cea):Option (List Ae×Bool):=
 Ac (Aat s (⟨#[44]⟩:Cea) (⟨#[32]⟩:Cea)) λb=>Ac (Aq6 b) λa=>Aa (a.1,a.2)
def Bu4:E Af:=en 72 [E9] [Iz,Bz] (Bp Aro) func72 [A8i,Buk]
def A2r (g:List Cea) (a:Int) (f:Int) (c:Cea) (b:Int) (e:Int) (d:Int):Option (Lr (Int×Int×Cea×Int×Int×Int) (Int×Int×Cea×Int×Int×Int)):=
 bif decide (a<=8)then(Ac (Xv a) λh=>xg (0<=(0:Int)/\(0:Int)<(g.length:Int))<|bif decide (h=el g 0)then(xg (Aq (a+1))<|some (Lr.go (a+1,a,c,b,e,d)))else(xg (Aq (a+1))<|some (Lr.go (a+1,f,c,b,e,d))))else(Aa (Lr.out (a,f,c,b,e,d)))
def Aq5 (b:List Cea) (a:Int×Int×Cea×Int×Int×Int):Option (Lr (Int×Int×Cea×Int×Int×Int) (Int×Int×Cea×Int×Int×Int)):=A2r b a.1 a.2.1 a.2.2.1 a.2.2.2.1 a.2.2.2.2.1 a.2.2.2.2.2
def Aiy (s:Cea):Option (Bb×Bool):=
 Ac (Ad2 s) λb=>Ac (Cp (Aq5 b) (1,0,Cb,0,0,0)) λc=>Ac (Qb c.2.1) λv=>Ac (bif v then(Aa (decide ((1:Int)<(b.length:Int))))else(Aa false)) λF=>Ac (bif F then(xg (0<=(1:Int)/\(1:Int)<(b.length:Int))<|some (c.2.1,el b 1,c.2.2.2.1,c.2.2.2.2.1,c.2.2.2.2.2))else(Aa (c.2.1,c.2.2.1,c.2.2.2.1,c.2.2.2.2.1,c.2.2.2.2.2))) λa=>bif decide (a.1=1)then(bif decide ((b.length:Int)=3)then(xg (0<=(2:Int)/\(2:Int)<(b.length:Int))<|Ac (Aq7 (el b 2)) λg=>Ac (O2 (⟨a.1,a.2.1,a.2.2.1,a.2.2.2.1,a.2.2.2.2,[],g.1⟩:Bb)) λj=>Ac (bif decide (j=(⟨#[]⟩:Cea))then(Aa true)else(Aa (!decide (j=s)))) λC=>bif C then(Aa ((⟨0,Cb,0,0,0,[],[]⟩:Bb),false))else(Aa ((⟨a.1,a.2.1,a.2.2.1,a.2.2.2.1,a.2.2.2.2,[],g.1⟩:Bb),true)))else(Ac (O2 (⟨a.1,a.2.1,a.2.2.1,a.2.2.2.1,a.2.2.2.2,[],[]⟩:Bb)) λr=>Ac (bif decide (r=(⟨#[]⟩:Cea))then(Aa true)else(Aa (!decide (r=s)))) λw=>bif w then(Aa ((⟨0,Cb,0,0,0,[],[]⟩:Bb),false))else(Aa ((⟨a.1,a.2.1,a.2.2.1,a.2.2.2.1,a.2.2.2.2,[],[]⟩:Bb),true))))else(bif decide (a.1=2)then(Ac (Ly b 2) λf=>Ac (Ly b 3) λe=>Ac (Ly b 4) λd=>bif decide ((b.length:Int)=6)then(xg (0<=(5:Int)/\(5:Int)<(b.length:Int))<|Ac (Aro (el b 5)) λh=>Ac (O2 (⟨a.1,a.2.1,f,e,d,h.1,[]⟩:Bb)) λk=>Ac (bif decide (k=(⟨#[]⟩:Cea))then(Aa true)else(Aa (!decide (k=s)))) λG=>bif G then(Aa ((⟨0,Cb,0,0,0,[],[]⟩:Bb),false))else(Aa ((⟨a.1,a.2.1,f,e,d,h.1,[]⟩:Bb),true)))else(Ac (O2 (⟨a.1,a.2.1,f,e,d,[],[]⟩:Bb)) λl=>Ac (bif decide (l=(⟨#[]⟩:Cea))then(Aa true)else(Aa (!decide (l=s)))) λA=>bif A then(Aa ((⟨0,Cb,0,0,0,[],[]⟩:Bb),false))else(Aa ((⟨a.1,a.2.1,f,e,d,[],[]⟩:Bb),true))))else(Ac (bif decide (a.1=3)then(Aa (decide (a.1=3)))else(Aa (decide (a.1=5)))) λD=>bif D then(Ac (Ly b 2) λp=>Ac (O2 (⟨a.1,a.2.1,a.2.2.1,a.2.2.2.1,p,[],[]⟩:Bb)) λt=>Ac (bif decide (t=(⟨#[]⟩:Cea))then(Aa true)else(Aa (!decide (t=s)))) λz=>bif z then(Aa ((⟨0,Cb,0,0,0,[],[]⟩:Bb),false))else(Aa ((⟨a.1,a.2.1,a.2.2.1,a.2.2.2.1,p,[],[]⟩:Bb),true)))else(bif decide (a.1=6)then(Ac (Ly b 1) λq=>Ac (Ly b 2) λm=>Ac (O2 (⟨a.1,a.2.1,q,a.2.2.2.1,m,[],[]⟩:Bb)) λn=>Ac (bif decide (n=(⟨#[]⟩:Cea))then(Aa true)else(Aa (!decide (n=s)))) λx=>bif x then(Aa ((⟨0,Cb,0,0,0,[],[]⟩:Bb),false))else(Aa ((⟨a.1,a.2.1,q,a.2.2.2.1,m,[],[]⟩:Bb),true)))else(bif decide (a.1=7)then(Ac (Ly b 1) λi=>Ac (O2 (⟨a.1,a.2.1,i,a.2.2.2.1,a.2.2.2.2,[],[]⟩:Bb)) λu=>Ac (bif decide (u=(⟨#[]⟩:Cea))then(Aa true)else(Aa (!decide (u=s)))) λB=>bif B then(Aa ((⟨0,Cb,0,0,0,[],[]⟩:Bb),false))else(Aa ((⟨a.1,a.2.1,i,a.2.2.2.1,a.2.2.2.2,[],[]⟩:Bb),true)))else(Ac (O2 (⟨a.1,a.2.1,a.2.2.1,a.2.2.2.1,a.2.2.2.2,[],[]⟩:Bb)) λo=>Ac (bif decide (o=(⟨#[]⟩:Cea))then(Aa true)else(Aa (!decide (o=s)))) λy=>bif y then(Aa ((⟨0,Cb,0,0,0,[],[]⟩:Bb),false))else(Aa ((⟨a.1,a.2.1,a.2.2.1,a.2.2.2.1,a.2.2.2.2,[],[]⟩:Bb),true)))))))
def Buj:E Af:=en 22 [E9] [Ahc,Bz] (Bp Aiy) func22 [A8n,Aui,Auj,Wd,Bul,A82,Bu4] [E0 0 [Dw 6,.box 5 0 [.sc 0,.sc 2,.sc 0,.sc 0,.sc 0,.nl,.nl]],E0 100009 [.box 5 0 [.sc 0,.sc 2,.sc 0,.sc 0,.sc 0,.nl,.nl]],E0 100019 [Sd 71 1]]
def Aqm (o:List Ae):Option Bool:=
 Ac (Je o) λa=>Ac (bif a then(Ac (Xy o) λc=>Ac (Ad3 o c) λd=>Aa d)else(Aa false)) λb=>Aa b
def Btu:E Af:=en 224 [Eu] [Bz] (Bp Aqm) func224 [Alq,R6,Aum]
def Xw (e:A8):Option Bool:=
 Ac (Da e.Al 1 8) λa=>Ac (bif a then(Ac (Da e.seq 1 1000000000) λc=>Aa c)else(Aa false)) λd=>Ac (bif d then(Ac (Aqm e.o) λf=>Aa f)else(Aa false)) λb=>Aa b
def Auk:E Af:=en 160 [Uv] [Bz] (Bp Xw) func160 [Btu,I8]
def Qd (l:List Int):Option (List Int):=
 xg (0+l.length<=1099511627776)<|some ([]++l)
def Yy:E Af:=en 84 [Ii] [M7] (Bp Qd) func84
def Bjt (o:List Ae) (d:Nat) (a:Ae) (b:List Ae):Option (Lr (List Ae) (List Ae)):=
 Ac (Qd (a.Bd)) λc=>xg (b.length<1099511627776)<|some (Lr.go (b++[(⟨a.kind,a.n,c⟩:Ae)]))
def Bju (o:List Ae) (a:Nat) (b:List Ae):Option (Lr (List Ae) (List Ae)):=Bjt o a (el o a) b
def Ad8 (o:List Ae):Option (List Ae):=
 Ac (A2 (Bju o) (λa=>a) o.length 0 []) λb=>Aa b
def Auo:E Af:=en 156 [Eu] [Iz] (Bp Ad8) func156 [Yy] [Fb 0 8 7 [Ev 3 4]]
def Bjz (e:List A8) (d:Nat) (b:A8) (a:List (List Ae)):Option (Lr (List (List Ae)) (List (List Ae))):=
 Ac (Ad8 (b.o)) λc=>xg (a.length<1099511627776)<|some (Lr.go (a++[c]))
def A2y (b:List A8) (a:Nat) (c:List (List Ae)):Option (Lr (List (List Ae)) (List (List Ae))):=Bjz b a (el b a) c
def Aaz (a:List A8):Option (List (List Ae)):=
 Ac (A2 (A2y a) (λb=>b) a.length 0 []) λc=>Aa c
def Auq:E Af:=en 162 [Ag1] [Ahb] (Bp Aaz) func162 [Auo] [Fb 0 8 7 [.slot 3 (.row (.sl (.b 4)))]]
def A16 (t:List Int) (o:List Ae) (d:Nat) (b:Ae) (c:List Int) (a:Int):Option (Lr (List Int×Int) (List Int)):=
 bif decide ((b.kind)=1)then(xg (Aq (a+(b.n)))<|xg (0<=a/\a<=(a+(b.n))/\(a+(b.n))<=(t.length:Int))<|xg (c.length+((t.take ((a+(b.n)).toNat)).drop a.toNat).length<=1099511627776)<|xg (Aq (a+(b.n)))<|some (Lr.go (c++((t.take ((a+(b.n)).toNat)).drop a.toNat),a+(b.n))))else(bif decide ((b.kind)=3)then(xg (Aq (a+(b.n)))<|some (Lr.go (c,a+(b.n))))else(xg (c.length+(b.Bd).length<=1099511627776)<|some (Lr.go (c++(b.Bd),a))))
def Aic (t:List Int) (o:List Ae) (b:Nat) (a:List Int×Int):Option (Lr (List Int×Int) (List Int)):=A16 t o b (el o b) a.1 a.2
def S6 (o:List Ae) (t:List Int):Option (List Int×Bool):=
 Ac (Je o) λe=>Ac (bif !e then(Aa true)else(Ac (Rl t) λc=>Aa (!c))) λa=>Ac (bif a then(Aa true)else(Ac (Rj o) λd=>Aa (!decide (d=(t.length:Int))))) λf=>bif f then(Aa ([],false))else(Ac (A2 (Aic t o) (λg=>g.1) o.length 0 ([],0)) λb=>Aa (b,true))
def Blx (t:List Int) (o:List Ae) (d:Nat) (b:Ae) (c:List Int) (a:Int):Option (Lr (List Int×Int) (List Int×Int)):=
 bif decide ((b.kind)=1)then(xg (Aq (a+(b.n)))<|xg (0<=a/\a<=(a+(b.n))/\(a+(b.n))<=(t.length:Int))<|xg (c.length+((t.take ((a+(b.n)).toNat)).drop a.toNat).length<=1099511627776)<|xg (Aq (a+(b.n)))<|some (Lr.go (c++((t.take ((a+(b.n)).toNat)).drop a.toNat),a+(b.n))))else(bif decide ((b.kind)=3)then(xg (Aq (a+(b.n)))<|some (Lr.go (c,a+(b.n))))else(xg (c.length+(b.Bd).length<=1099511627776)<|some (Lr.go (c++(b.Bd),a))))
def Bly (t:List Int) (o:List Ae) (a:Nat) (b:List Int×Int):Option (Lr (List Int×Int) (List Int×Int)):=Blx t o a (el o a) b.1 b.2
def Blt (o:List Ae) (t:List Int):Option (List Int×Bool):=
 Ac (Je o) λf=>Ac (bif !f then(Aa true)else(Ac (Rl t) λg=>Aa (!g))) λb=>Ac (bif b then(Aa true)else(Ac (Rj o) λd=>Aa (!decide (d=(t.length:Int))))) λe=>bif e then(Aa ([],false))else(Ac (A2 (Bly t o) (λa=>(a.1,a.2)) o.length 0 ([],0)) λc=>Aa (c.1,true))
def A8k:E Af:=en 225 [Eu,Ii] [M7,Bz] (Bw S6) func225 [Alp,R6,Afy] [Fb 0 27 26 [Ev 6 0,Dw 7]] (hx:=λa=>Eq.trans (b:=Blt a.1 a.2.1) (by kernel_rfl) (show _=S6 a.1 a.2.1 by simp only[A16,Aic,S6,Blx,Bly,Blt,Dv,D8,D3,D5,D2,D4,cond_true,cond_false,D9,Ea,D6,D7]<;>rfl))
def A15 (l:List (List Ae)) (d:Nat) (b:List Ae) (c:List Int):Option (Lr (List Int) (Sum (List Int) Unit)):=
 Ac (S6 b c) λa=>bif !a.2 then(Aa (Lr.out (Bj (()))))else(Aa (Lr.go a.1))
def Aqc (l:List (List Ae)) (a:Nat) (b:List Int):Option (Lr (List Int) (Sum (List Int) Unit)):=A15 l a (el l a) b
def Xu (l:List (List Ae)) (t:List Int):Option (List Int×Bool):=
 Ac (Rl t) λc=>bif !c then(Aa ([],false))else(Ac (Qd t) λa=>Ac (A2 (Aqc l) (λd=>(.inl d)) l.length 0 a) λb=>B2 (λe=>Aa (e,true)) (λf=>Aa ([],false)) b)
def Blv (l:List (List Ae)) (d:Nat) (c:List Ae) (b:List Int):Option (Lr (List Int) (Sum (List Int) (List Int×Bool))):=
 Ac (S6 c b) λa=>bif !a.2 then(Aa (Lr.out (Bj ([],false))))else(Aa (Lr.go a.1))
def Blw (l:List (List Ae)) (a:Nat) (b:List Int):Option (Lr (List Int) (Sum (List Int) (List Int×Bool))):=Blv l a (el l a) b
def Blu (l:List (List Ae)) (t:List Int):Option (List Int×Bool):=
 Ac (Rl t) λf=>bif !f then(Aa ([],false))else(Ac (Qd t) λe=>Ac (A2 (Blw l) (λc=>(.inl c)) l.length 0 e) λd=>B2 (λb=>Aa (b,true)) (λa=>Aa a) d)
def A8l:E Af:=en 161 [Ag2,Ii] [M7,Bz] (Bw Xu) func161 [A8k,Afy,Yy] [Df 0 18 17 [Ev 6 0]] (hx:=λa=>Eq.trans (b:=Blu a.1 a.2.1) (by kernel_rfl) (show _=Xu a.1 a.2.1 by simp only[A15,Aqc,Xu,Blv,Blw,Blu,Dv,D8,D3,D5,D2,D4,cond_true,cond_false,D9,Ea,D6,D7]<;>rfl))
def It (d:Ao):Option Int:=
 xg (Aq (d.from_+(d.list.length:Int)))<|some (d.from_+(d.list.length:Int))
def Qq:E Af:=en 88 [Hy] [C4] (Bp It) func88
def A18 (d:Ao) (c:Nat) (a:A8):Option (Lr Unit (Sum Unit Unit)):=
 Ac (Xw a) λb=>bif !b then(Aa (Lr.out (Bj (()))))else(Aa (Lr.go ()))
def A2a (d:Ao) (a:Nat) (b:Unit):Option (Lr Unit (Sum Unit Unit)):=A18 d a (el d.list a)
def A19 (d:Ao) (a:Nat) (b:Cm):Option (Lr Unit (Sum Unit Bool)):=
 Ac (Da (b.Al) 1 8) λg=>Ac (bif !g then(Aa true)else(Ac (bif decide ((0:Int)<(a:Int))then(xg (Aq ((a:Int)-1))<|xg (0<=((a:Int)-1)/\((a:Int)-1)<(d.seen.length:Int))<|some (decide ((b.Al)<=((el d.seen (((a:Int)-1).toNat)).Al))))else(Aa false)) λi=>Aa i)) λj=>Ac (bif j then(Aa true)else(Ac (Da (b.seq) 1 1000000000) λk=>Aa (!k))) λc=>Ac (bif c then(Aa true)else(Ac (It d) λh=>Ac (Da (b.rev) 1 h) λf=>Aa (!f))) λe=>bif e then(Aa (Lr.out (Bj (false))))else(Aa (Lr.go ()))
def Aig (d:Ao) (a:Nat) (b:Unit):Option (Lr Unit (Sum Unit Bool)):=A19 d a (el d.seen a)
def O3 (d:Ao):Option Bool:=
 Ac (Ml d.name) λb=>Ac (bif !b then(Aa true)else(Ac (Da d.from_ 0 999999000) λc=>Aa (!c))) λa=>Ac (bif a then(Aa true)else(Ac (Rl d.text) λe=>Aa (!e))) λg=>Ac (bif g then(Aa true)else(Aa (decide ((8:Int)<(d.list.length:Int))))) λf=>bif f then(Aa false)else(Ac (A2 (A2a d) (λp=>(.inl ())) d.list.length 0 ()) λh=>B2 (λn=>Ac (Aaz d.list) λl=>Ac (Xu l d.text) λj=>bif !j.2 then(Aa false)else(Ac (A2 (Aig d) (λo=>(.inl ())) d.seen.length 0 ()) λk=>B2 (λq=>Aa true) (λi=>Aa i) k)) (λm=>Aa false) h)
def Bl0 (d:Ao) (c:Nat) (b:A8):Option (Lr Unit (Sum Unit Bool)):=
 Ac (Xw b) λa=>bif !a then(Aa (Lr.out (Bj false)))else(Aa (Lr.go ()))
def Bl2 (d:Ao) (a:Nat) (b:Unit):Option (Lr Unit (Sum Unit Bool)):=Bl0 d a (el d.list a)
def Bl1 (d:Ao) (a:Nat) (b:Cm):Option (Lr Unit (Sum Unit Bool)):=
 Ac (Da (b.Al) 1 8) λi=>Ac (bif !i then(Aa true)else(Ac (bif decide ((0:Int)<(a:Int))then(xg (Aq ((a:Int)-1))<|xg (0<=((a:Int)-1)/\((a:Int)-1)<(d.seen.length:Int))<|some (decide ((b.Al)<=((el d.seen (((a:Int)-1).toNat)).Al))))else(Aa false)) λf=>Aa f)) λk=>Ac (bif k then(Aa true)else(Ac (Da (b.seq) 1 1000000000) λh=>Aa (!h))) λe=>Ac (bif e then(Aa true)else(Ac (It d) λj=>Ac (Da (b.rev) 1 j) λc=>Aa (!c))) λg=>bif g then(Aa (Lr.out (Bj false)))else(Aa (Lr.go ()))
def Bl3 (d:Ao) (a:Nat) (b:Unit):Option (Lr Unit (Sum Unit Bool)):=Bl1 d a (el d.seen a)
def Blz (d:Ao):Option Bool:=
 Ac (Ml d.name) λe=>Ac (bif !e then(Aa true)else(Ac (Da d.from_ 0 999999000) λf=>Aa (!f))) λi=>Ac (bif i then(Aa true)else(Ac (Rl d.text) λl=>Aa (!l))) λj=>Ac (bif j then(Aa true)else(Aa (decide ((8:Int)<(d.list.length:Int))))) λm=>bif m then(Aa false)else(Ac (A2 (Bl2 d) (λo=>(.inl ())) d.list.length 0 ()) λk=>B2 (λp=>Ac (Aaz d.list) λb=>Ac (Xu b d.text) λg=>bif !g.2 then(Aa false)else(Ac (A2 (Bl3 d) (λq=>(.inl ())) d.seen.length 0 ()) λc=>B2 (λn=>Aa true) (λh=>Aa h) c)) (λa=>Aa a) k)
def Yx:E Af:=en 86 [Hy] [Bz] (Bp O3) func86 [A8l,Auk,Qq,Aul,Afy,Auq,I8] [Df 0 34 33 [],Df 2 56 55 []] (hx:=λa=>Eq.trans (b:=Blz a.1) (by kernel_rfl) (show _=O3 a.1 by simp only[A18,A2a,A19,Aig,O3,Bl0,Bl2,Bl1,Bl3,Blz,Dv,D8,D3,D5,D2,D4,cond_true,cond_false,D9,Ea,D6,D7]<;>rfl))
def Aqi (d:Ao) (p:Cea):Option (Bool×Cea):=
 Aa (decide (d.name=p),p)
def Btm:E Af:=en 151 [Hy,.box .ow (.b 2)] [Bz] (Bw Aqi) func151
def A3n (s:List Ao) (c:Nat) (b:Ao) (d:Cea):Option (Lr Cea (Sum Cea (Int×Cea))):=
 Ac (Aqi b d) λa=>bif a.1 then(Aa (Lr.out (Bj (((c:Int),a.2)))))else(Aa (Lr.go a.2))
def A3o (s:List Ao) (a:Nat) (b:Cea):Option (Lr Cea (Sum Cea (Int×Cea))):=A3n s a (el s a) b
def Ajf (s:List Ao) (c:Cea):Option (Int×Cea):=
 Ac (A2 (A3o s) (λb=>(.inl b)) s.length 0 c) λd=>B2 (λe=>Aa (-1,e)) (λa=>Aa (a.1,a.2)) d
def Bnz (s:List Ao) (c:Nat) (b:Ao) (d:Cea):Option (Lr Cea (Sum Cea (Int×Cea))):=
 Ac (Aqi b d) λa=>bif a.1 then(Aa (Lr.out (Bj ((c:Int),a.2))))else(Aa (Lr.go a.2))
def Bn0 (s:List Ao) (a:Nat) (b:Cea):Option (Lr Cea (Sum Cea (Int×Cea))):=Bnz s a (el s a) b
def Bny (s:List Ao) (c:Cea):Option (Int×Cea):=
 Ac (A2 (Bn0 s) (λa=>(.inl a)) s.length 0 c) λd=>B2 (λe=>Aa (-1,e)) (λb=>Aa b) d
def Bvb:E Af:=en 150 [Ay3,.fn 151 1,.cap .ow (.b 2)] [C4] (Bw Ajf) func150 [Btm] [Df 0 8 7 [.box 1 1 [.sc 2]]] (hx:=λa=>Eq.trans (b:=Bny a.1 a.2.1) (by kernel_rfl) (show _=Ajf a.1 a.2.1 by simp only[A3n,A3o,Ajf,Bnz,Bn0,Bny,Dv,D8,D3,D5,D2,D4,cond_true,cond_false,D9,Ea,D6,D7]<;>rfl))
def N6 (h:Aw) (a:Cea):Option Int:=
 Ac (Ajf h.Am a) λb=>Aa b.1
def R5:E Af:=en 76 [Gq,E9] [C4] (Bw N6) func76 [Bvb]
def A2j (c:Db) (d:Nat) (a:A8):Option (Lr Unit (Sum Unit Unit)):=
 Ac (Xw a) λb=>bif !b then(Aa (Lr.out (Bj (()))))else(Aa (Lr.go ()))
def A2k (b:Db) (a:Nat) (c:Unit):Option (Lr Unit (Sum Unit Unit)):=A2j b a (el b.list a)
def Rk (a:Db):Option Bool:=
 Ac (Da a.cap 1 6) λc=>Ac (bif !c then(Aa true)else(Ac (Da a.next 1 1000000000) λd=>Aa (!d))) λb=>Ac (bif b then(Aa true)else(Aa (decide (a.cap<(a.list.length:Int))))) λh=>Ac (bif h then(Aa true)else(Ac (bif a.out then(Aa (decide ((0:Int)<(a.list.length:Int))))else(Aa false)) λe=>Aa e)) λf=>bif f then(Aa false)else(Ac (A2 (A2k a) (λk=>(.inl ())) a.list.length 0 ()) λg=>B2 (λj=>Aa true) (λi=>Aa false) g)
def Bmg (d:Db) (c:Nat) (a:A8):Option (Lr Unit (Sum Unit Bool)):=
 Ac (Xw a) λb=>bif !b then(Aa (Lr.out (Bj false)))else(Aa (Lr.go ()))
def Bmh (b:Db) (a:Nat) (c:Unit):Option (Lr Unit (Sum Unit Bool)):=Bmg b a (el b.list a)
def Bmf (a:Db):Option Bool:=
 Ac (Da a.cap 1 6) λh=>Ac (bif !h then(Aa true)else(Ac (Da a.next 1 1000000000) λg=>Aa (!g))) λf=>Ac (bif f then(Aa true)else(Aa (decide (a.cap<(a.list.length:Int))))) λi=>Ac (bif i then(Aa true)else(Ac (bif a.out then(Aa (decide ((0:Int)<(a.list.length:Int))))else(Aa false)) λe=>Aa e)) λd=>bif d then(Aa false)else(Ac (A2 (Bmh a) (λk=>(.inl ())) a.list.length 0 ()) λc=>B2 (λj=>Aa true) (λb=>Aa b) c)
def Afw:E Af:=en 87 [Pw] [Bz] (Bp Rk) func87 [Auk,I8] [Df 0 36 35 []] (hx:=λa=>Eq.trans (b:=Bmf a.1) (by kernel_rfl) (show _=Rk a.1 by simp only[A2j,A2k,Rk,Bmg,Bmh,Bmf,Dv,D8,D3,D5,D2,D4,cond_true,cond_false,D9,Ea,D6,D7]<;>rfl))
def A2d (h:Aw) (a:Nat) (b:Ao):Option (Lr Unit (Sum Unit Unit)):=
 Ac (O3 b) λe=>Ac (bif !e then(Aa true)else(Ac (bif decide ((0:Int)<(a:Int))then(xg (Aq ((a:Int)-1))<|xg (0<=((a:Int)-1)/\((a:Int)-1)<(h.Am.length:Int))<|some (!Cv ((el h.Am (((a:Int)-1).toNat)).name) (b.name)))else(Aa false)) λc=>Aa c)) λd=>bif d then(Aa (Lr.out (Bj (()))))else(Aa (Lr.go ()))
def A2f (h:Aw) (a:Nat) (b:Unit):Option (Lr Unit (Sum Unit Unit)):=A2d h a (el h.Am a)
def A2e (h:Aw) (b:Nat) (a:A0):Option (Lr Unit (Sum Unit Bool)):=
 Ac (N6 h (a.Ah)) λc=>Ac (Da (a.id) 1 h.last) λi=>Ac (bif !i then(Aa true)else(Ac (bif decide ((0:Int)<(b:Int))then(xg (Aq ((b:Int)-1))<|xg (0<=((b:Int)-1)/\((b:Int)-1)<(h.Ax.length:Int))<|some (decide ((a.id)<=((el h.Ax (((b:Int)-1).toNat)).id))))else(Aa false)) λe=>Aa e)) λk=>Ac (bif k then(Aa true)else(Ac (Rk (a.r)) λf=>Aa (!f))) λg=>Ac (bif g then(Aa true)else(Aa (decide (c<0)))) λj=>bif j then(Aa (Lr.out (Bj (false))))else(Ac (bif !(a.r.out)then(xg (Aq ((a.r.next)+((a.r.list).length:Int)))<|xg (0<=c/\c<(h.Am.length:Int))<|Ac (It (el h.Am c.toNat)) λd=>xg (Aq (d+1))<|some (!decide (((a.r.next)+((a.r.list).length:Int))=(d+1))))else(Aa false)) λl=>bif l then(Aa (Lr.out (Bj (false))))else(Aa (Lr.go ())))
def A2g (h:Aw) (a:Nat) (b:Unit):Option (Lr Unit (Sum Unit Bool)):=A2e h a (el h.Ax a)
def Mk (h:Aw):Option Bool:=
 Ac (bif decide ((5:Int)<(h.Am.length:Int))then(Aa true)else(Aa (decide ((6:Int)<(h.Ax.length:Int))))) λe=>Ac (bif e then(Aa true)else(Ac (Da h.last 0 1000000000) λd=>Aa (!d))) λf=>bif f then(Aa false)else(Ac (A2 (A2f h) (λl=>(.inl ())) h.Am.length 0 ()) λa=>B2 (λk=>Ac (A2 (A2g h) (λg=>(.inl ())) h.Ax.length 0 ()) λc=>B2 (λj=>Aa true) (λb=>Aa b) c) (λi=>Aa false) a)
def Bl8 (h:Aw) (a:Nat) (b:Ao):Option (Lr Unit (Sum Unit Bool)):=
 Ac (O3 b) λe=>Ac (bif !e then(Aa true)else(Ac (bif decide ((0:Int)<(a:Int))then(xg (Aq ((a:Int)-1))<|xg (0<=((a:Int)-1)/\((a:Int)-1)<(h.Am.length:Int))<|some (!Cv ((el h.Am (((a:Int)-1).toNat)).name) (b.name)))else(Aa false)) λc=>Aa c)) λd=>bif d then(Aa (Lr.out (Bj false)))else(Aa (Lr.go ()))
def Bma (h:Aw) (a:Nat) (b:Unit):Option (Lr Unit (Sum Unit Bool)):=Bl8 h a (el h.Am a)
def Bl9 (h:Aw) (b:Nat) (a:A0):Option (Lr Unit (Sum Unit Bool)):=
 Ac (N6 h (a.Ah)) λc=>Ac (Da (a.id) 1 h.last) λf=>Ac (bif !f then(Aa true)else(Ac (bif decide ((0:Int)<(b:Int))then(xg (Aq ((b:Int)-1))<|xg (0<=((b:Int)-1)/\((b:Int)-1)<(h.Ax.length:Int))<|some (decide ((a.id)<=((el h.Ax (((b:Int)-1).toNat)).id))))else(Aa false)) λg=>Aa g)) λl=>Ac (bif l then(Aa true)else(Ac (Rk (a.r)) λe=>Aa (!e))) λi=>Ac (bif i then(Aa true)else(Aa (decide (c<0)))) λj=>bif j then(Aa (Lr.out (Bj false)))else(Ac (bif !(a.r.out)then(xg (Aq ((a.r.next)+((a.r.list).length:Int)))<|xg (0<=c/\c<(h.Am.length:Int))<|Ac (It (el h.Am c.toNat)) λd=>xg (Aq (d+1))<|some (!decide (((a.r.next)+((a.r.list).length:Int))=(d+1))))else(Aa false)) λk=>bif k then(Aa (Lr.out (Bj false)))else(Aa (Lr.go ())))
def Bmb (h:Aw) (a:Nat) (b:Unit):Option (Lr Unit (Sum Unit Bool)):=Bl9 h a (el h.Ax a)
def Bl7 (h:Aw):Option Bool:=
 Ac (bif decide ((5:Int)<(h.Am.length:Int))then(Aa true)else(Aa (decide ((6:Int)<(h.Ax.length:Int))))) λe=>Ac (bif e then(Aa true)else(Ac (Da h.last 0 1000000000) λb=>Aa (!b))) λa=>bif a then(Aa false)else(Ac (A2 (Bma h) (λi=>(.inl ())) h.Am.length 0 ()) λf=>B2 (λk=>Ac (A2 (Bmb h) (λj=>(.inl ())) h.Ax.length 0 ()) λc=>B2 (λl=>Aa true) (λg=>Aa g) c) (λd=>Aa d) f)
def Ua:E Af:=en 28 [Gq] [Bz] (Bp Mk) func28 [Yx,Qq,R5,Afw,I8] [Df 0 27 26 [],Df 2 55 54 []] (hx:=λa=>Eq.trans (b:=Bl7 a.1) (by kernel_rfl) (show _=Mk a.1 by simp only[A2d,A2f,A2e,A2g,Mk,Bl8,Bma,Bl9,Bmb,Bl7,Dv,D8,D3,D5,D2,D4,cond_true,cond_false,D9,Ea,D6,D7]<;>rfl))
def Aih (a:A8) (b:A8):Option Bool:=
 Ac (bif decide (a.Al=b.Al)then(Aa (decide (a.seq=b.seq)))else(Aa false)) λe=>Ac (bif e then(Ac (Ad3 a.o b.o) λd=>Aa d)else(Aa false)) λc=>Aa c
def Btj:E Af:=en 101 [Uv,Uv] [Bz] (Bw Aih) func101 [Aum]
def A3f (b:List A8) (e:List A8) (a:Nat) (d:A8):Option (Lr Unit (Sum Unit Unit)):=
 xg (0<=(a:Int)/\(a:Int)<(b.length:Int))<|Ac (Aih d (el b a)) λc=>bif !c then(Aa (Lr.out (Bj (()))))else(Aa (Lr.go ()))
def A3g (c:List A8) (a:List A8) (b:Nat) (d:Unit):Option (Lr Unit (Sum Unit Unit)):=A3f c a b (el a b)
def X3 (a:List A8) (b:List A8):Option Bool:=
 bif !decide ((a.length:Int)=(b.length:Int))then(Aa false)else(Ac (A2 (A3g b a) (λf=>(.inl ())) a.length 0 ()) λc=>B2 (λd=>Aa true) (λe=>Aa false) c)
def Bnn (b:List A8) (e:List A8) (a:Nat) (d:A8):Option (Lr Unit (Sum Unit Bool)):=
 xg (0<=(a:Int)/\(a:Int)<(b.length:Int))<|Ac (Aih d (el b a)) λc=>bif !c then(Aa (Lr.out (Bj false)))else(Aa (Lr.go ()))
def Bno (c:List A8) (a:List A8) (b:Nat) (d:Unit):Option (Lr Unit (Sum Unit Bool)):=Bnn c a b (el a b)
def Bnm (a:List A8) (b:List A8):Option Bool:=
 bif !decide ((a.length:Int)=(b.length:Int))then(Aa false)else(Ac (A2 (Bno b a) (λf=>(.inl ())) a.length 0 ()) λd=>B2 (λe=>Aa true) (λc=>Aa c) d)
def Aus:E Af:=en 100 [Ag1,Ag1,.fn 101 0] [Bz] (Bw X3) func100 [Btj] [Df 0 17 16 []] (hx:=λa=>Eq.trans (b:=Bnm a.1 a.2.1) (by kernel_rfl) (show _=X3 a.1 a.2.1 by simp only[A3f,A3g,X3,Bnn,Bno,Bnm,Dv,D8,D3,D5,D2,D4,cond_true,cond_false,D9,Ea,D6,D7]<;>rfl))
def N5 (a:Bi) (b:Bi):Option Bool:=
 Ac (bif decide (a.code=b.code)then(Aa (decide (a.rev=b.rev)))else(Aa false)) λf=>Ac (bif f then(Ac (O5 a.text b.text) λe=>Aa e)else(Aa false)) λc=>Ac (bif c then(Ac (X3 a.list b.list) λg=>Aa g)else(Aa false)) λd=>Aa d
def Auh:E Af:=en 43 [Ac9,Ac9] [Bz] (Bw N5) func43 [Aus,Y0]
def Aiw (t:A4):Option Bool:=
 Ac (Aav t.c) λr8=>Ac (bif !r8 then(Aa true)else(Ac (Da t.inv 0 1000000) λo=>Aa (!o))) λU=>bif U then(Aa false)else(bif decide (t.pc=0)then(bif decide (t.pc=0)then(Ac (bif decide (t.pc=1)then(Ac (Qb t.c.kind) λj=>Aa (!j))else(Aa false)) λP=>Ac (bif P then(Aa true)else(Ac (bif decide (t.pc=2)then(Aa (!decide (t.c.kind=2)))else(Aa false)) λd=>Aa d)) λY=>bif Y then(Aa false)else(Ac (bif decide (t.Bv=(-1))then(Aa (decide (t.Cl=(-1))))else(Aa false)) λh=>Ac (bif h then(Ac (N5 t.a (⟨0,0,[],[]⟩:Bi)) λN=>Aa N)else(Aa false)) λX=>Aa X))else(bif decide (t.pc=3)then(bif decide (t.pc=3)then(Ac (N5 t.a (⟨11,0,[],[]⟩:Bi)) λp=>Ac (bif p then(Aa (decide (t.c.kind=2)))else(Aa false)) λG=>Ac (bif G then(Aa (decide (t.Bv=(-1))))else(Aa false)) λI=>Ac (bif !I then(Ac (Da t.Bv t.inv 1000000) λM=>Aa (!M))else(Aa false)) λq=>bif q then(Aa false)else(bif decide (t.pc=3)then(Aa (decide (t.Cl=(-1))))else(Ac (Da t.Cl (max t.inv t.Bv) 1000000) λW=>Aa W)))else(Aa false))else(bif decide (t.pc=4)then(Ac (N5 t.a (⟨11,0,[],[]⟩:Bi)) λd0=>Ac (bif d0 then(Aa (decide (t.c.kind=2)))else(Aa false)) λR=>Ac (bif R then(Aa (decide (t.Bv=(-1))))else(Aa false)) λe=>Ac (bif !e then(Ac (Da t.Bv t.inv 1000000) λl=>Aa (!l))else(Aa false)) λd4=>bif d4 then(Aa false)else(bif decide (t.pc=3)then(Aa (decide (t.Cl=(-1))))else(Ac (Da t.Cl (max t.inv t.Bv) 1000000) λd6=>Aa d6)))else(Aa false))))else(bif decide (t.pc=1)then(bif decide (t.pc=1)then(Ac (bif decide (t.pc=1)then(Ac (Qb t.c.kind) λV=>Aa (!V))else(Aa false)) λz=>Ac (bif z then(Aa true)else(Ac (bif decide (t.pc=2)then(Aa (!decide (t.c.kind=2)))else(Aa false)) λB=>Aa B)) λy=>bif y then(Aa false)else(Ac (bif decide (t.Bv=(-1))then(Aa (decide (t.Cl=(-1))))else(Aa false)) λO=>Ac (bif O then(Ac (N5 t.a (⟨0,0,[],[]⟩:Bi)) λr=>Aa r)else(Aa false)) λD=>Aa D))else(bif decide (t.pc=3)then(bif decide (t.pc=3)then(Ac (N5 t.a (⟨11,0,[],[]⟩:Bi)) λC=>Ac (bif C then(Aa (decide (t.c.kind=2)))else(Aa false)) λx=>Ac (bif x then(Aa (decide (t.Bv=(-1))))else(Aa false)) λc4=>Ac (bif !c4 then(Ac (Da t.Bv t.inv 1000000) λH=>Aa (!H))else(Aa false)) λc7=>bif c7 then(Aa false)else(bif decide (t.pc=3)then(Aa (decide (t.Cl=(-1))))else(Ac (Da t.Cl (max t.inv t.Bv) 1000000) λF=>Aa F)))else(Aa false))else(bif decide (t.pc=4)then(Ac (N5 t.a (⟨11,0,[],[]⟩:Bi)) λd2=>Ac (bif d2 then(Aa (decide (t.c.kind=2)))else(Aa false)) λd3=>Ac (bif d3 then(Aa (decide (t.Bv=(-1))))else(Aa false)) λw=>Ac (bif !w then(Ac (Da t.Bv t.inv 1000000) λv=>Aa (!v))else(Aa false)) λc5=>bif c5 then(Aa false)else(bif decide (t.pc=3)then(Aa (decide (t.Cl=(-1))))else(Ac (Da t.Cl (max t.inv t.Bv) 1000000) λg=>Aa g)))else(Aa false))))else(bif decide (t.pc=2)then(Ac (bif decide (t.pc=1)then(Ac (Qb t.c.kind) λc6=>Aa (!c6))else(Aa false)) λs=>Ac (bif s then(Aa true)else(Ac (bif decide (t.pc=2)then(Aa (!decide (t.c.kind=2)))else(Aa false)) λQ=>Aa Q)) λc9=>bif c9 then(Aa false)else(Ac (bif decide (t.Bv=(-1))then(Aa (decide (t.Cl=(-1))))else(Aa false)) λk=>Ac (bif k then(Ac (N5 t.a (⟨0,0,[],[]⟩:Bi)) λm=>Aa m)else(Aa false)) λd1=>Aa d1))else(bif decide (t.pc=3)then(bif decide (t.pc=3)then(Ac (N5 t.a (⟨11,0,[],[]⟩:Bi)) λn=>Ac (bif n then(Aa (decide (t.c.kind=2)))else(Aa false)) λf=>Ac (bif f then(Aa (decide (t.Bv=(-1))))else(Aa false)) λS=>Ac (bif !S then(Ac (Da t.Bv t.inv 1000000) λu=>Aa (!u))else(Aa false)) λA=>bif A then(Aa false)else(bif decide (t.pc=3)then(Aa (decide (t.Cl=(-1))))else(Ac (Da t.Cl (max t.inv t.Bv) 1000000) λi=>Aa i)))else(Aa false))else(bif decide (t.pc=4)then(Ac (N5 t.a (⟨11,0,[],[]⟩:Bi)) λb=>Ac (bif b then(Aa (decide (t.c.kind=2)))else(Aa false)) λL=>Ac (bif L then(Aa (decide (t.Bv=(-1))))else(Aa false)) λd5=>Ac (bif !d5 then(Ac (Da t.Bv t.inv 1000000) λK=>Aa (!K))else(Aa false)) λT=>bif T then(Aa false)else(bif decide (t.pc=3)then(Aa (decide (t.Cl=(-1))))else(Ac (Da t.Cl (max t.inv t.Bv) 1000000) λc8=>Aa c8)))else(Aa false))))))
def Buh:E Af:=en 30 [W9] [Bz] (Bp Aiw) func30 [Auh,Alo,Wd,I8]
def A2c (s:Cea) (b:Int) (a:Int):Option (Lr (Int×Int) Int):=
 bif decide (a<(s.size:Int))then(xg (0<=a/\a<(s.size:Int))<|xg (Aq ((Jv b ((Du s a.toNat).toNat:Int))*16777619))<|xg (0<=((Jv b ((Du s a.toNat).toNat:Int))*16777619)/\0<(4294967296:Int))<|xg (Aq (a+1))<|some (Lr.go (((Jv b ((Du s a.toNat).toNat:Int))*16777619) % 4294967296,a+1)))else(Aa (Lr.out b))
def Aqh (s:Cea) (a:Int×Int):Option (Lr (Int×Int) Int):=A2c s a.1 a.2
def Vf (s:Cea):Option Int:=
 Ac (Cp (Aqh s) (2166136261,0)) λa=>Aa a
def Bl5 (s:Cea) (b:Int) (a:Int):Option (Lr (Int×Int) (Int×Int)):=
 bif decide (a<(s.size:Int))then(xg (0<=a/\a<(s.size:Int))<|xg (Aq ((Jv b ((Du s a.toNat).toNat:Int))*16777619))<|xg (0<=((Jv b ((Du s a.toNat).toNat:Int))*16777619)/\0<(4294967296:Int))<|xg (Aq (a+1))<|some (Lr.go (((Jv b ((Du s a.toNat).toNat:Int))*16777619) % 4294967296,a+1)))else(Aa (Lr.out (b,a)))
def Bl6 (s:Cea) (a:Int×Int):Option (Lr (Int×Int) (Int×Int)):=Bl5 s a.1 a.2
def Bl4 (s:Cea):Option Int:=
 Ac (Cp (Bl6 s) (2166136261,0)) λa=>Aa a.1
def Btl:E Af:=en 89 [E9] [C4] (Bp Vf) func89 [] [E0 0 [Dw 3,Dw 4]] (hx:=λa=>Eq.trans (b:=Bl4 a.1) (by kernel_rfl) (show _=Vf a.1 by simp only[A2c,Aqh,Vf,Bl5,Bl6,Bl4,Dv,D8,D3,D5,D2,D4,cond_true,cond_false,D9,Ea,D6,D7]<;>rfl))
def Aaw (b:Cea) (n:Int):Option Int:=
 bif decide (n<1)then(Aa 0)else(Ac (Vf b) λa=>xg (0<=a/\0<n)<|some (a % n))
def Afx:E Af:=en 31 [E9,B8] [C4] (Bw Aaw) func31 [Btl]
def A3r (v:Int) (s:List Int) (a:Nat) (b:Int):Option (Lr Unit (Sum Unit Int)):=
 bif decide (v=b)then(Aa (Lr.out (Bj ((a:Int)))))else(Aa (Lr.go ()))
def A3s (v:Int) (s:List Int) (a:Nat) (b:Unit):Option (Lr Unit (Sum Unit Int)):=A3r v s a (el s a)
def Ajh (s:List Int) (v:Int):Option Int:=
 Ac (A2 (A3s v s) (λd=>(.inl ())) s.length 0 ()) λb=>B2 (λc=>Aa (-1)) (λa=>Aa a) b
def Bn5 (v:Int) (s:List Int) (b:Nat) (a:Int):Option (Lr Unit (Sum Unit Int)):=
 bif decide (v=a)then(Aa (Lr.out (Bj (b:Int))))else(Aa (Lr.go ()))
def Bn6 (v:Int) (s:List Int) (a:Nat) (b:Unit):Option (Lr Unit (Sum Unit Int)):=Bn5 v s a (el s a)
def Bn4 (s:List Int) (v:Int):Option Int:=
 Ac (A2 (Bn6 v s) (λc=>(.inl ())) s.length 0 ()) λa=>B2 (λd=>Aa (-1)) (λb=>Aa b) a
def Bve:E Af:=en 163 [Ii,B8] [C4] (Bw Ajh) func163 [] [Df 0 8 7 []] (hx:=λa=>Eq.trans (b:=Bn4 a.1 a.2.1) (by kernel_rfl) (show _=Ajh a.1 a.2.1 by simp only[A3r,A3s,Ajh,Bn5,Bn6,Bn4,Dv,D8,D3,D5,D2,D4,cond_true,cond_false,D9,Ea,D6,D7]<;>rfl))
def X2 (s:List Int) (v:Int):Option Bool:=
 Ac (Ajh s v) λa=>Aa (decide ((0:Int)<=a))
def A86:E Af:=en 90 [Ii,B8] [Bz] (Bw X2) func90 [Bve]
def Bj5 (c:Int) (g:List A4) (h:Nat) (f:Nat) (a:Int) (b:List Int):Option (Lr (List Int) (Sum (List Int) Bool)):=
 bif decide (a=(-1))then(Aa (Lr.go b))else(Ac (bif decide (c<=a)then(Aa true)else(Ac (X2 b a) λe=>Aa e)) λd=>bif d then(Aa (Lr.out (Bj false)))else(xg (b.length<1099511627776)<|some (Lr.go (b++[a]))))
def A3b (e:Int) (a:List A4) (b:Nat) (c:Nat) (d:List Int):Option (Lr (List Int) (Sum (List Int) Bool)):=Bj5 e a b c (el [(el a b).inv,(el a b).Bv,(el a b).Cl] c) d
def Bj4 (d:Int) (g:List A4) (h:Nat) (a:A4) (c:List Int):Option (Lr (List Int) (Sum (List Int) Bool)):=
 Ac (A2 (A3b d g h) (λf=>(.inl f)) [a.inv,a.Bv,a.Cl].length 0 c) λb=>B2 (λi=>Aa (Lr.go i)) (λe=>Aa (Lr.out (Bj e))) b
def A3a (c:Int) (a:List A4) (b:Nat) (d:List Int):Option (Lr (List Int) (Sum (List Int) Bool)):=Bj4 c a b (el a b) d
def Ajc (a:List A4) (d:Int):Option Bool:=
 Ac (A2 (A3a d a) (λe=>(.inl e)) a.length 0 []) λc=>B2 (λf=>Aa true) (λb=>Aa b) c
def Bu2:E Af:=en 33 [Aoe,B8] [Bz] (Bw Ajc) func33 [A86] [Df 2 24 23 [Ev 5 0],Df 0 12 11 [Ev 5 0]]
def A23 (b:Au) (e:Nat) (k:Nat) (a:Int) (d:List Int):Option (Lr (List Int) (Sum (List Int) Bool)):=
 xg (Aq ((b.Ag.length:Int)-1))<|Ac (Da a 0 ((b.Ag.length:Int)-1)) λh=>Ac (bif !h then(Aa true)else(xg (0<=a/\a<(b.Ag.length:Int))<|some (!decide (((el b.Ag (a.toNat)).pc)=2)))) λg=>Ac (bif g then(Aa true)else(xg (0<=a/\a<(b.Ag.length:Int))<|some (!decide ((el b.Ag (a.toNat)).c.Ah=(el b.An e).Ah)))) λj=>Ac (bif j then(Aa true)else(Ac (X2 d a) λi=>Aa i)) λf=>bif f then(Aa (Lr.out (Bj (false))))else(xg (d.length<1099511627776)<|some (Lr.go (d++[a])))
def Arl (a:Au) (c:Nat) (b:Nat) (d:List Int):Option (Lr (List Int) (Sum (List Int) Bool)):=A23 a c b (el ((el a.An c).list) b) d
def A22 (c:Au) (a:Nat) (b:Ba) (d:List Int):Option (Lr (List Int) (Sum (List Int) Bool)):=
 Ac (bif decide ((0:Int)<(a:Int))then(xg (Aq ((a:Int)-1))<|xg (0<=((a:Int)-1)/\((a:Int)-1)<(c.An.length:Int))<|some (!Cv ((el c.An (((a:Int)-1).toNat)).Ah) (b.Ah)))else(Aa false)) λk=>Ac (bif k then(Aa true)else(Ac (Da ((b.list).length:Int) 1 2) λj=>Aa (!j))) λg=>Ac (bif g then(Aa true)else(Ac (N6 c.h (b.Ah)) λl=>Aa (decide (l<0)))) λm=>bif m then(Aa (Lr.out (Bj (false))))else(Ac (A2 (Arl c a) (λn=>(.inl n)) (b.list).length 0 d) λe=>B2 (λi=>Aa (Lr.go i)) (λf=>Aa (Lr.out (Bj (f)))) e)
def Ark (a:Au) (b:Nat) (c:List Int):Option (Lr (List Int) (Sum (List Int) Bool)):=A22 a b (el a.An b) c
def A24 (e:List Int) (f:Au) (c:Nat) (a:A4):Option (Lr Unit (Sum Unit Bool)):=
 Ac (bif decide ((a.pc)=2)then(Ac (X2 e (c:Int)) λb=>Aa (!b))else(Aa false)) λd=>bif d then(Aa (Lr.out (Bj (false))))else(Aa (Lr.go ()))
def A25 (c:List Int) (a:Au) (b:Nat) (d:Unit):Option (Lr Unit (Sum Unit Bool)):=A24 c a b (el a.Ag b)
def Aa0 (a:Au):Option Bool:=
 Ac (A2 (Ark a) (λc=>(.inl c)) a.An.length 0 []) λf=>B2 (λd=>Ac (A2 (A25 d a) (λi=>(.inl ())) a.Ag.length 0 ()) λe=>B2 (λh=>Aa true) (λb=>Aa b) e) (λg=>Aa g) f
def Bnc (b:Au) (j:Nat) (k:Nat) (a:Int) (d:List Int):Option (Lr (List Int) (Sum (List Int) Bool)):=
 xg (Aq ((b.Ag.length:Int)-1))<|Ac (Da a 0 ((b.Ag.length:Int)-1)) λf=>Ac (bif !f then(Aa true)else(xg (0<=a/\a<(b.Ag.length:Int))<|some (!decide (((el b.Ag (a.toNat)).pc)=2)))) λh=>Ac (bif h then(Aa true)else(xg (0<=a/\a<(b.Ag.length:Int))<|some (!decide ((el b.Ag (a.toNat)).c.Ah=(el b.An j).Ah)))) λe=>Ac (bif e then(Aa true)else(Ac (X2 d a) λg=>Aa g)) λi=>bif i then(Aa (Lr.out (Bj false)))else(xg (d.length<1099511627776)<|some (Lr.go (d++[a])))
def Bnf (a:Au) (c:Nat) (b:Nat) (d:List Int):Option (Lr (List Int) (Sum (List Int) Bool)):=Bnc a c b (el ((el a.An c).list) b) d
def Bnb (b:Au) (a:Nat) (c:Ba) (g:List Int):Option (Lr (List Int) (Sum (List Int) Bool)):=
 Ac (bif decide ((0:Int)<(a:Int))then(xg (Aq ((a:Int)-1))<|xg (0<=((a:Int)-1)/\((a:Int)-1)<(b.An.length:Int))<|some (!Cv ((el b.An (((a:Int)-1).toNat)).Ah) (c.Ah)))else(Aa false)) λi=>Ac (bif i then(Aa true)else(Ac (Da ((c.list).length:Int) 1 2) λm=>Aa (!m))) λf=>Ac (bif f then(Aa true)else(Ac (N6 b.h (c.Ah)) λl=>Aa (decide (l<0)))) λj=>bif j then(Aa (Lr.out (Bj false)))else(Ac (A2 (Bnf b a) (λn=>(.inl n)) (c.list).length 0 g) λk=>B2 (λe=>Aa (Lr.go e)) (λd=>Aa (Lr.out (Bj d))) k)
def Bne (a:Au) (b:Nat) (c:List Int):Option (Lr (List Int) (Sum (List Int) Bool)):=Bnb a b (el a.An b) c
def Bnd (e:List Int) (f:Au) (c:Nat) (b:A4):Option (Lr Unit (Sum Unit Bool)):=
 Ac (bif decide ((b.pc)=2)then(Ac (X2 e (c:Int)) λd=>Aa (!d))else(Aa false)) λa=>bif a then(Aa (Lr.out (Bj false)))else(Aa (Lr.go ()))
def Bng (c:List Int) (b:Au) (a:Nat) (d:Unit):Option (Lr Unit (Sum Unit Bool)):=Bnd c b a (el b.Ag a)
def Bna (a:Au):Option Bool:=
 Ac (A2 (Bne a) (λg=>(.inl g)) a.An.length 0 []) λd=>B2 (λe=>Ac (A2 (Bng e a) (λh=>(.inl ())) a.Ag.length 0 ()) λc=>B2 (λi=>Aa true) (λf=>Aa f) c) (λb=>Aa b) d
def Buv:E Af:=en 34 [G6] [Bz] (Bp Aa0) func34 [R5,I8,A86] [Df 2 50 49 [Ev 3 0],Df 0 13 12 [Ev 3 0],Df 4 96 95 []] (hx:=λa=>Eq.trans (b:=Bna a.1) (by kernel_rfl) (show _=Aa0 a.1 by simp only[A23,Arl,A22,Ark,A24,A25,Aa0,Bnc,Bnf,Bnb,Bne,Bnd,Bng,Bna,Dv,D8,D3,D5,D2,D4,cond_true,cond_false,D9,Ea,D6,D7]<;>rfl))
def A2s (a:Nat) (b:List Int):Option (Lr (List Int) (List Int)):=
 Aa (Lr.go (b.set a (-1)))
def Ai1 (b:Nat) (a:List Int):Option (Lr (List Int) (List Int)):=A2s b a
def A2t (f:Au) (g:Nat) (d:A4) (b:List Int):Option (Lr (List Int) (Sum (List Int) Bool)):=
 Ac (Aiw d) λe=>bif !e then(Aa (Lr.out (Bj (false))))else(bif decide ((d.pc)=1)then(Ac (Aaw (d.c.Ah) (f.Az.length:Int)) λa=>xg (0<=a/\a<(b.length:Int))<|bif !decide ((el b a.toNat)=(-1))then(Aa (Lr.out (Bj (false))))else(xg (0<=a/\a<(b.length:Int))<|some (Lr.go (b.set a.toNat (g:Int)))))else(Aa (Lr.go b)))
def Aq8 (b:Au) (a:Nat) (c:List Int):Option (Lr (List Int) (Sum (List Int) Bool)):=A2t b a (el b.Ag a) c
def Qc (a:Au):Option Bool:=
 Ac (Mk a.h) λs=>Ac (bif !s then(Aa true)else(Ac (Da (a.Az.length:Int) 1 4) λg=>Aa (!g))) λb=>Ac (bif b then(Aa true)else(Aa (decide ((10:Int)<(a.Ag.length:Int))))) λc=>Ac (bif c then(Aa true)else(Ac (Da a.step 0 1000000) λd=>Aa (!d))) λl=>bif l then(Aa false)else(xg (0<=(a.Az.length:Int)/\(a.Az.length:Int)<=1099511627776)<|Ac (A2 (Ai1) (λk=>k) (Ey ((a.Az.length:Int).toNat) (0:Int)).length 0 (Ey ((a.Az.length:Int).toNat) (0:Int))) λo=>Ac (A2 (Aq8 a) (λn=>(.inl n)) a.Ag.length 0 o) λq=>B2 (λr=>Ac (O5 r a.Az) λm=>Ac (bif m then(Ac (Ajc a.Ag a.step) λe=>Aa e)else(Aa false)) λf=>Ac (bif f then(Ac (Aa0 a) λi=>Aa i)else(Aa false)) λp=>Aa p) (λj=>Aa j) q)
def Bms (b:Nat) (a:List Int):Option (Lr (List Int) (List Int)):=
 Aa (Lr.go (a.set b (-1)))
def Bmu (a:Nat) (b:List Int):Option (Lr (List Int) (List Int)):=Bms a b
def Bmt (e:Au) (f:Nat) (d:A4) (b:List Int):Option (Lr (List Int) (Sum (List Int) Bool)):=
 Ac (Aiw d) λg=>bif !g then(Aa (Lr.out (Bj false)))else(bif decide ((d.pc)=1)then(Ac (Aaw (d.c.Ah) (e.Az.length:Int)) λa=>xg (0<=a/\a<(b.length:Int))<|bif !decide ((el b a.toNat)=(-1))then(Aa (Lr.out (Bj false)))else(xg (0<=a/\a<(b.length:Int))<|some (Lr.go (b.set a.toNat (f:Int)))))else(Aa (Lr.go b)))
def Bmv (a:Au) (b:Nat) (c:List Int):Option (Lr (List Int) (Sum (List Int) Bool)):=Bmt a b (el a.Ag b) c
def Bmr (a:Au):Option Bool:=
 Ac (Mk a.h) λn=>Ac (bif !n then(Aa true)else(Ac (Da (a.Az.length:Int) 1 4) λl=>Aa (!l))) λd=>Ac (bif d then(Aa true)else(Aa (decide ((10:Int)<(a.Ag.length:Int))))) λg=>Ac (bif g then(Aa true)else(Ac (Da a.step 0 1000000) λm=>Aa (!m))) λj=>bif j then(Aa false)else(xg (0<=(a.Az.length:Int)/\(a.Az.length:Int)<=1099511627776)<|Ac (A2 (Bmu) (λk=>k) (Ey ((a.Az.length:Int).toNat) (0:Int)).length 0 (Ey ((a.Az.length:Int).toNat) (0:Int))) λf=>Ac (A2 (Bmv a) (λs=>(.inl s)) a.Ag.length 0 f) λp=>B2 (λc=>Ac (O5 c a.Az) λq=>Ac (bif q then(Ac (Ajc a.Ag a.step) λb=>Aa b)else(Aa false)) λi=>Ac (bif i then(Ac (Aa0 a) λo=>Aa o)else(Aa false)) λe=>Aa e) (λr=>Aa r) p)
def We:E Af:=en 7 [G6] [Bz] (Bp Qc) func7 [Ua,Afx,Buh,Buv,Bu2,I8,Y0] [Fb 0 37 36 [J7 4 0],Df 2 47 46 [J7 4 0]] (hx:=λa=>Eq.trans (b:=Bmr a.1) (by kernel_rfl) (show _=Qc a.1 by simp only[A2s,Ai1,A2t,Aq8,Qc,Bms,Bmu,Bmt,Bmv,Bmr,Dv,D8,D3,D5,D2,D4,cond_true,cond_false,D9,Ea,D6,D7]<;>rfl))
def Arc (a:Au) (k:Int):Option Bool:=
 Ac (bif decide (a.step=1000000)then(Aa true)else(xg (Aq ((a.Ag.length:Int)-1))<|Ac (Da k 0 ((a.Ag.length:Int)-1)) λd=>Aa (!d))) λe=>bif e then(Aa false)else(xg (0<=k/\k<(a.Ag.length:Int))<|Ac (bif decide (((el a.Ag k.toNat).pc)=0)then(Ac (Qb ((el a.Ag k.toNat).c.kind)) λf=>Aa f)else(Aa false)) λh=>bif h then(Ac (Aaw ((el a.Ag k.toNat).c.Ah) (a.Az.length:Int)) λb=>xg (0<=b/\b<(a.Az.length:Int))<|some (decide ((el a.Az b.toNat)=(-1))))else(Ac (bif !decide (((el a.Ag k.toNat).pc)=2)then(Aa (!decide (((el a.Ag k.toNat).pc)=4)))else(Aa false)) λg=>Aa g))
def Aun:E Af:=en 74 [G6,B8] [Bz] (Bw Arc) func74 [Wd,Afx,I8]
def Bjr (d:List A8) (e:Nat) (a:A8) (b:List A8):Option (Lr (List A8) (List A8)):=
 Ac (Ad8 (a.o)) λc=>xg (b.length<1099511627776)<|some (Lr.go (b++[(⟨a.Al,a.seq,c⟩:A8)]))
def Bjs (b:List A8) (a:Nat) (c:List A8):Option (Lr (List A8) (List A8)):=Bjr b a (el b a) c
def X0 (a:List A8):Option (List A8):=
 Ac (A2 (Bjs a) (λb=>b) a.length 0 []) λc=>Aa c
def Afz:E Af:=en 223 [Ag1] [Xh] (Bp X0) func223 [Auo] [Fb 0 8 7 [Ev 3 5]]
def Vg (d:Ao):Option Ao:=
 Ac (Qd d.text) λb=>Ac (X0 d.list) λa=>xg (0+d.seen.length<=1099511627776)<|some (⟨d.name,d.from_,b,a,[]++d.seen⟩:Ao)
def A8z:E Af:=en 157 [Hy] [Adg] (Bp Vg) func157 [Afz,Yy]
def Vh (a:Db):Option Db:=
 Ac (X0 a.list) λb=>Aa (⟨a.cap,a.next,a.out,b⟩:Db)
def Aup:E Af:=en 158 [Pw] [Sp] (Bp Vh) func158 [Afz]
def Are (h:Aw) (f:Nat) (c:Ao) (d:Bool) (a:List Ao) (e:Int):Option (Lr (Bool×List Ao×Int) (Bool×List Ao×Int)):=
 Ac (Vg c) λb=>xg (a.length+[b].length<=1099511627776)<|some (Lr.go (d,a++[b],e))
def Ad6 (h:Aw) (b:Nat) (a:Bool×List Ao×Int):Option (Lr (Bool×List Ao×Int) (Bool×List Ao×Int)):=Are h b (el h.Am b) a.1 a.2.1 a.2.2
def Arf (h:Aw) (g:Nat) (a:A0) (c:Bool) (e:List Ao) (b:List A0) (d:Int):Option (Lr (Bool×List Ao×List A0×Int) (Bool×List Ao×List A0×Int)):=
 Ac (Vh (a.r)) λf=>xg (b.length<1099511627776)<|some (Lr.go (c,e,b++[(⟨a.id,a.Ah,f⟩:A0)],d))
def Ad7 (h:Aw) (b:Nat) (a:Bool×List Ao×List A0×Int):Option (Lr (Bool×List Ao×List A0×Int) (Bool×List Ao×List A0×Int)):=Arf h b (el h.Ax b) a.1 a.2.1 a.2.2.1 a.2.2.2
def Hj (h:Aw):Option Aw:=
 Ac (A2 (Ad6 h) (λd=>(d.1,d.2.1,d.2.2)) h.Am.length 0 (h.shut,[],h.last)) λc=>Ac (A2 (Ad7 h) (λa=>(a.1,a.2.1,a.2.2.1,a.2.2.2)) h.Ax.length 0 (c.1,c.2.1,[],c.2.2)) λb=>Aa (⟨b.1,b.2.1,b.2.2.1,b.2.2.2⟩:Aw)
def Bmx (h:Aw) (f:Nat) (d:Ao) (c:Bool) (a:List Ao) (e:Int):Option (Lr (Bool×List Ao×Int) (Bool×List Ao×Int)):=
 Ac (Vg d) λb=>xg (a.length+[b].length<=1099511627776)<|some (Lr.go (c,a++[b],e))
def Bmz (h:Aw) (b:Nat) (a:Bool×List Ao×Int):Option (Lr (Bool×List Ao×Int) (Bool×List Ao×Int)):=Bmx h b (el h.Am b) a.1 a.2.1 a.2.2
def Bmy (h:Aw) (g:Nat) (a:A0) (c:Bool) (f:List Ao) (b:List A0) (e:Int):Option (Lr (Bool×List Ao×List A0×Int) (Bool×List Ao×List A0×Int)):=
 Ac (Vh (a.r)) λd=>xg (b.length<1099511627776)<|some (Lr.go (c,f,b++[(⟨a.id,a.Ah,d⟩:A0)],e))
def Bm0 (h:Aw) (b:Nat) (a:Bool×List Ao×List A0×Int):Option (Lr (Bool×List Ao×List A0×Int) (Bool×List Ao×List A0×Int)):=Bmy h b (el h.Ax b) a.1 a.2.1 a.2.2.1 a.2.2.2
def Bmw (h:Aw):Option Aw:=
 Ac (A2 (Bmz h) (λc=>(c.1,c.2.1,c.2.2)) h.Am.length 0 (h.shut,[],h.last)) λd=>Ac (A2 (Bm0 h) (λa=>(a.1,a.2.1,a.2.2.1,a.2.2.2)) h.Ax.length 0 (d.1,d.2.1,[],d.2.2)) λb=>Aa (⟨b.1,b.2.1,b.2.2.1,b.2.2.2⟩:Aw)
def Ub:E Af:=en 83 [Gq] [Ls] (Bp Hj) func83 [A8z,Aup] [Fb 0 16 15 [.box 3 0 [.sc 1,.row (.b 7),.nl,.sc 0]],Fb 2 31 30 [.box 3 0 [.sc 1,.row (.b 7),.row (.b 9),.sc 0]]] (hx:=λa=>Eq.trans (b:=Bmw a.1) (by kernel_rfl) (show _=Hj a.1 by simp only[Are,Ad6,Arf,Ad7,Hj,Bmx,Bmz,Bmy,Bm0,Bmw,Dv,D8,D3,D5,D2,D4,cond_true,cond_false,D9,Ea,D6,D7]<;>rfl))
def Ai4 (c:Bb):Option Bb:=
 Ac (Ad8 c.o) λa=>Ac (Qd c.text) λb=>Aa (⟨c.kind,c.Ah,c.Al,c.seq,c.n,a,b⟩:Bb)
def A8y:E Af:=en 82 [M4] [Ahc] (Bp Ai4) func82 [Yy,Auo]
def Ard (a:Bi):Option Bi:=
 Ac (Qd a.text) λb=>Ac (X0 a.list) λc=>Aa (⟨a.code,a.rev,b,c⟩:Bi)
def Bup:E Af:=en 159 [Ac9] [Adh] (Bp Ard) func159 [Afz,Yy]
def Bjv (h:List A4) (g:Nat) (b:A4) (d:List A4):Option (Lr (List A4) (List A4)):=
 Ac (Ai4 (b.c)) λe=>Ac (Ard (b.a)) λf=>xg (d.length<549755813888)<|some (Lr.go (d++[(⟨e,b.pc,b.inv,b.Bv,b.Cl,f⟩:A4)]))
def A2v (b:List A4) (a:Nat) (c:List A4):Option (Lr (List A4) (List A4)):=Bjv b a (el b a) c
def Arh (a:List A4):Option (List A4):=
 Ac (A2 (A2v a) (λc=>c) a.length 0 []) λb=>Aa b
def Buq:E Af:=en 85 [Aoe] [⟨true,.sl (.b 14),false⟩] (Bp Arh) func85 [Bup,A8y] [Fb 0 8 7 [Ev 3 14]]
def Bjw (l:Au) (k:Nat) (a:Ba) (d:Bool) (f:List Ao) (h:List A0) (j:Int) (e:List Int) (b:List Ba) (i:List A4) (g:Int):Option (Lr (Bool×List Ao×List A0×Int×List Int×List Ba×List A4×Int) (Bool×List Ao×List A0×Int×List Int×List Ba×List A4×Int)):=
 Ac (Qd (a.list)) λc=>xg (b.length+[(⟨a.Ah,c⟩:Ba)].length<=1099511627776)<|some (Lr.go (d,f,h,j,e,b++[(⟨a.Ah,c⟩:Ba)],i,g))
def A2w (b:Au) (c:Nat) (a:Bool×List Ao×List A0×Int×List Int×List Ba×List A4×Int):Option (Lr (Bool×List Ao×List A0×Int×List Int×List Ba×List A4×Int) (Bool×List Ao×List A0×Int×List Int×List Ba×List A4×Int)):=Bjw b c (el b.An c) a.1 a.2.1 a.2.2.1 a.2.2.2.1 a.2.2.2.2.1 a.2.2.2.2.2.1 a.2.2.2.2.2.2.1 a.2.2.2.2.2.2.2
def Qe (c:Au):Option Au:=
 Ac (Hj c.h) λd=>Ac (Qd c.Az) λf=>Ac (Arh c.Ag) λe=>Ac (A2 (A2w c) (λa=>(a.1,a.2.1,a.2.2.1,a.2.2.2.1,a.2.2.2.2.1,a.2.2.2.2.2.1,a.2.2.2.2.2.2.1,a.2.2.2.2.2.2.2)) c.An.length 0 (d.shut,d.Am,d.Ax,d.last,f,[],e,c.step)) λb=>Aa (⟨(⟨b.1,b.2.1,b.2.2.1,b.2.2.2.1⟩:Aw),b.2.2.2.2.1,b.2.2.2.2.2.1,b.2.2.2.2.2.2.1,b.2.2.2.2.2.2.2⟩:Au)
def Yz:E Af:=en 27 [G6] [P0] (Bp Qe) func27 [Ub,Yy,Buq] [Fb 0 21 20 [.box 3 0 [.sc 1,.row (.b 7),.row (.b 9),.sc 0,.row (.b 0),.row (.b 11),.row (.b 14),.sc 0]]]
def Aqf (b:Cea) (t:List Int):Option (Ao×Bool):=
 Ac (Qd t) λa=>Ac (O3 (⟨b,0,a,[],[]⟩:Ao)) λc=>bif !c then(Aa ((⟨Cb,0,[],[],[]⟩:Ao),false))else(Aa ((⟨b,0,a,[],[]⟩:Ao),true))
def Bth:E Af:=en 230 [E9,Ii] [Adg,Bz] (Bw Aqf) func230 [Yx,Yy]
def Bi6 (b:Aw) (c:Cea) (a:Int):Option (Lr Int Int):=
 Ac (bif decide (a<(b.Am.length:Int))then(xg (0<=a/\a<(b.Am.length:Int))<|some (Cv ((el b.Am a.toNat).name) c))else(Aa false)) λd=>bif d then(xg (Aq (a+1))<|some (Lr.go (a+1)))else(Aa (Lr.out a))
def Bi7 (a:Aw) (b:Cea) (c:Int):Option (Lr Int Int):=Bi6 a b c
def Aqj (h:Aw) (b:Cea) (t:List Int):Option (Aw×Int):=
 Ac (Mk h) λc=>Ac (bif !c then(Aa true)else(Ac (Ml b) λf=>Aa (!f))) λl=>Ac (bif l then(Aa true)else(Ac (Rl t) λj=>Aa (!j))) λk=>bif k then(Aa ((⟨false,[],[],0⟩:Aw),1))else(bif h.shut then(Aa ((⟨false,[],[],0⟩:Aw),12))else(Ac (N6 h b) λi=>bif decide ((0:Int)<=i)then(Aa ((⟨false,[],[],0⟩:Aw),7))else(bif decide ((h.Am.length:Int)=5)then(Aa ((⟨false,[],[],0⟩:Aw),10))else(Ac (Aqf b t) λd=>Ac (Hj h) λa=>Ac (Cp (Bi7 a b) 0) λe=>Ac (Aar a.Am e [d.1]) λg=>Aa ((⟨a.shut,g,a.Ax,a.last⟩:Aw),0)))))
def Btn:E Af:=en 169 [Gq,E9,Ii] [Ls,C4] (Jt Aqj) func169 [Bs8,Bth,R5,Ua,Aul,Afy,Ub] [E0 1 [Dw 11]]
def A2m (b:Int) (d:Ao) (c:Nat) (a:Cm):Option (Lr Unit (Sum Unit (Bool×Int×Int×Int))):=
 bif decide ((a.Al)=b)then(Aa (Lr.out (Bj ((true,a.Al,a.seq,a.rev)))))else(Aa (Lr.go ()))
def A2n (b:Int) (d:Ao) (a:Nat) (c:Unit):Option (Lr Unit (Sum Unit (Bool×Int×Int×Int))):=A2m b d a (el d.seen a)
def Ad4 (d:Ao) (c:Int):Option (Cm×Bool):=
 Ac (A2 (A2n c d) (λf=>(.inl ())) d.seen.length 0 ()) λb=>B2 (λe=>Aa ((⟨0,0,0⟩:Cm),false)) (λa=>Aa ((⟨a.2.1,a.2.2.1,a.2.2.2⟩:Cm),a.1)) b
def Bmj (b:Int) (d:Ao) (c:Nat) (a:Cm):Option (Lr Unit (Sum Unit (Cm×Bool))):=
 bif decide ((a.Al)=b)then(Aa (Lr.out (Bj (a,true))))else(Aa (Lr.go ()))
def Bmk (b:Int) (d:Ao) (a:Nat) (c:Unit):Option (Lr Unit (Sum Unit (Cm×Bool))):=Bmj b d a (el d.seen a)
def Bmi (d:Ao) (a:Int):Option (Cm×Bool):=
 Ac (A2 (Bmk a d) (λe=>(.inl ())) d.seen.length 0 ()) λc=>B2 (λf=>Aa ((⟨0,0,0⟩:Cm),false)) (λb=>Aa b) c
def Bub:E Af:=en 273 [Hy,B8] [⟨true,.b 6,false⟩,Bz] (Bw Ad4) func273 [] [Df 0 11 10 []] (hx:=λa=>Eq.trans (b:=Bmi a.1 a.2.1) (by kernel_rfl) (show _=Ad4 a.1 a.2.1 by simp only[A2m,A2n,Ad4,Bmj,Bmk,Bmi,Dv,D8,D3,D5,D2,D4,cond_true,cond_false,D9,Ea,D6,D7]<;>rfl))
def Ai3 (d:Ao) (a:Int):Option Int:=
 Ac (It d) λb=>bif decide (b<a)then(Aa 2)else(bif decide (a<d.from_)then(Aa 3)else(Aa 0))
def A8x:E Af:=en 277 [Hy,B8] [C4] (Bw Ai3) func277 [Qq]
def Aix (d:Ao) (a:Int):Option (List Int×Bool):=
 Ac (O3 d) λe=>Ac (bif !e then(Aa true)else(Ac (It d) λc=>Ac (Da a d.from_ c) λf=>Aa (!f))) λg=>bif g then(Aa ([],false))else(xg (Aq (a-d.from_))<|xg (0<=(a-d.from_)/\(a-d.from_)<=(d.list.length:Int))<|Ac (Aaz ((d.list.take ((a-d.from_).toNat)).drop 0)) λh=>Ac (Xu h d.text) λb=>Aa (b.1,b.2))
def A8v:E Af:=en 276 [Hy,B8] [M7,Bz] (Bw Aix) func276 [A8l,Yx,Qq,Auq,I8]
def Aqq (d:Ao) (a:Int):Option (List (List Ae)×Bool):=
 Ac (O3 d) λc=>Ac (bif !c then(Aa true)else(Ac (It d) λb=>Ac (Da a d.from_ b) λf=>Aa (!f))) λg=>bif g then(Aa ([],false))else(xg (Aq (a-d.from_))<|xg (0<=(a-d.from_)/\(a-d.from_)<=(d.list.length:Int))<|Ac (Aaz ((d.list.take d.list.length).drop ((a-d.from_).toNat))) λe=>Aa (e,true))
def Btx:E Af:=en 305 [Hy,B8] [Ahb,Bz] (Bw Aqq) func305 [Yx,Qq,Auq,I8]
def Bj1 (a:List Ae):Option (Lr (List Ae) (List Ae)):=
 Ac (bif decide ((0:Int)<(a.length:Int))then(xg (0<=(0:Int)/\(0:Int)<(a.length:Int))<|Ac (O4 (el a 0)) λc=>Aa (decide (c=0)))else(Aa false)) λb=>bif b then(xg (0<=(1:Int)/\(1:Int)<=(a.length:Int))<|some (Lr.go ((a.take a.length).drop 1)))else(Aa (Lr.out a))
def Arm (a:List Ae):Option (Lr (List Ae) (List Ae)):=Bj1 a
def Ju (b:Jh):Option (Ae×Jh):=
 Ac (Cp (Arm) b.parts) λa=>bif decide ((a.length:Int)=0)then(Aa ((⟨0,0,[]⟩:Ae),(⟨a⟩:Jh)))else(xg (0<=(0:Int)/\(0:Int)<(a.length:Int))<|some (el a 0,(⟨a⟩:Jh)))
def Buw:E Af:=en 338 [Ay4] [Azr] (Bp Ju) func338 [Alt] [E0 0 [.box 0 0 [.ro (.b 4)]]]
def Tb (a:Jh) (n:Int):Option (Ae×Jh):=
 xg (0<=(0:Int)/\(0:Int)<(a.parts.length:Int))<|bif decide (((el a.parts 0).kind)=2)then(xg (0<=n/\n<=(((el a.parts 0).Bd).length:Int))<|xg (0<=n/\n<=(((el a.parts 0).Bd).length:Int))<|xg (0<=(1:Int)/\(1:Int)<=(a.parts.length:Int))<|xg ([(⟨(el a.parts 0).kind,(el a.parts 0).n,(((el a.parts 0).Bd).take ((el a.parts 0).Bd).length).drop n.toNat⟩:Ae)].length+((a.parts.take a.parts.length).drop 1).length<=1099511627776)<|some ((⟨(el a.parts 0).kind,(el a.parts 0).n,(((el a.parts 0).Bd).take n.toNat).drop 0⟩:Ae),(⟨[(⟨(el a.parts 0).kind,(el a.parts 0).n,(((el a.parts 0).Bd).take ((el a.parts 0).Bd).length).drop n.toNat⟩:Ae)]++((a.parts.take a.parts.length).drop 1)⟩:Jh)))else(xg (Aq (((el a.parts 0).n)-n))<|xg (0<=(1:Int)/\(1:Int)<=(a.parts.length:Int))<|xg ([(⟨(el a.parts 0).kind,((el a.parts 0).n)-n,(el a.parts 0).Bd⟩:Ae)].length+((a.parts.take a.parts.length).drop 1).length<=1099511627776)<|some ((⟨(el a.parts 0).kind,n,(el a.parts 0).Bd⟩:Ae),(⟨[(⟨(el a.parts 0).kind,((el a.parts 0).n)-n,(el a.parts 0).Bd⟩:Ae)]++((a.parts.take a.parts.length).drop 1)⟩:Jh)))
def A84:E Af:=en 340 [Ay4,B8] [Azr] (Bw Tb) func340
def Vj (a:Jh):Option (Ae×Jh):=
 xg (0<=(0:Int)/\(0:Int)<(a.parts.length:Int))<|Ac (O4 (el a.parts 0)) λc=>Ac (Tb a c) λb=>Aa (b.1,b.2)
def Bux:E Af:=en 339 [Ay4] [Azr] (Bp Vj) func339 [A84,Alt]
def S8 (b:List Ae) (a:List Ae) (q:List Ae) (k:List Ae):Option (Lr (List Ae×List Ae×List Ae×List Ae) (List Ae×List Ae)):=
 Ac (Ju (⟨q⟩:Jh)) λm=>Ac (bif !decide (m.1.kind=0)then(Aa (true,k))else(Ac (Ju (⟨k⟩:Jh)) λl=>Aa (!decide (l.1.kind=0),l.2.parts))) λi=>bif i.1 then(Ac (Ju m.2) λe=>bif decide (e.1.kind=2)then(Ac (Vj e.2) λh=>xg (b.length<1099511627776)<|xg (a.length<1099511627776)<|some (Lr.go (b++[h.1],a++[(⟨1,(h.1.Bd.length:Int),[]⟩:Ae)],h.2.parts,i.2)))else(Ac (Ju (⟨i.2⟩:Jh)) λf=>bif decide (f.1.kind=2)then(Ac (Vj f.2) λg=>xg (b.length<1099511627776)<|xg (a.length<1099511627776)<|some (Lr.go (b++[(⟨1,(g.1.Bd.length:Int),[]⟩:Ae)],a++[g.1],e.2.parts,g.2.parts)))else(Ac (Ju e.2) λo=>Ac (O4 o.1) λj=>Ac (Ju f.2) λn=>Ac (O4 n.1) λp=>Ac (Tb o.2 (min j p)) λc=>Ac (Tb n.2 (min j p)) λd=>bif decide (d.1.kind=1)then(xg (b.length<1099511627776)<|bif decide (c.1.kind=1)then(xg (a.length<1099511627776)<|some (Lr.go (b++[c.1],a++[d.1],c.2.parts,d.2.parts)))else(Aa (Lr.go (b++[c.1],a,c.2.parts,d.2.parts))))else(bif decide (c.1.kind=1)then(xg (a.length<1099511627776)<|some (Lr.go (b,a++[d.1],c.2.parts,d.2.parts)))else(Aa (Lr.go (b,a,c.2.parts,d.2.parts)))))))else(Aa (Lr.out (b,a)))
def Ai0 (a:List Ae×List Ae×List Ae×List Ae):Option (Lr (List Ae×List Ae×List Ae×List Ae) (List Ae×List Ae)):=S8 a.1 a.2.1 a.2.2.1 a.2.2.2
def Aax (a:List Ae) (b:List Ae):Option (List Ae×List Ae×Bool):=
 Ac (Je a) λf=>Ac (bif !f then(Aa true)else(Ac (Je b) λh=>Aa (!h))) λg=>Ac (bif g then(Aa true)else(Ac (Rj a) λl=>Ac (Rj b) λk=>Aa (!decide (l=k)))) λm=>bif m then(Aa ([],[],false))else(Ac (Cp (Ai0) ([],[],a,b)) λc=>Ac (Ta c.1) λd=>Ac (Ta c.2) λe=>Ac (Je d) λj=>Ac (bif !j then(Aa true)else(Ac (Je e) λi=>Aa (!i))) λn=>bif n then(Aa ([],[],false))else(Aa (d,e,true)))
def Bmp (b:List Ae) (a:List Ae) (z:List Ae) (o:List Ae):Option (Lr (List Ae×List Ae×List Ae×List Ae) (List Ae×List Ae×List Ae×List Ae)):=
 Ac (Ju (⟨z⟩:Jh)) λj=>bif !decide (j.1.kind=0)then(Ac (Ju j.2) λg=>bif decide (g.1.kind=2)then(Ac (Vj g.2) λm=>xg (b.length<1099511627776)<|xg (a.length<1099511627776)<|some (Lr.go (b++[m.1],a++[(⟨1,(m.1.Bd.length:Int),[]⟩:Ae)],m.2.parts,o)))else(Ac (Ju (⟨o⟩:Jh)) λq=>bif decide (q.1.kind=2)then(Ac (Vj q.2) λk=>xg (b.length<1099511627776)<|xg (a.length<1099511627776)<|some (Lr.go (b++[(⟨1,(k.1.Bd.length:Int),[]⟩:Ae)],a++[k.1],g.2.parts,k.2.parts)))else(Ac (Ju g.2) λv=>Ac (O4 v.1) λx=>Ac (Ju q.2) λw=>Ac (O4 w.1) λt=>Ac (Tb v.2 (min x t)) λd=>Ac (Tb w.2 (min x t)) λe=>bif decide (e.1.kind=1)then(xg (b.length<1099511627776)<|bif decide (d.1.kind=1)then(xg (a.length<1099511627776)<|some (Lr.go (b++[d.1],a++[e.1],d.2.parts,e.2.parts)))else(Aa (Lr.go (b++[d.1],a,d.2.parts,e.2.parts))))else(bif decide (d.1.kind=1)then(xg (a.length<1099511627776)<|some (Lr.go (b,a++[e.1],d.2.parts,e.2.parts)))else(Aa (Lr.go (b,a,d.2.parts,e.2.parts)))))))else(Ac (Ju (⟨o⟩:Jh)) λi=>bif !decide (i.1.kind=0)then(Ac (Ju j.2) λh=>bif decide (h.1.kind=2)then(Ac (Vj h.2) λl=>xg (b.length<1099511627776)<|xg (a.length<1099511627776)<|some (Lr.go (b++[l.1],a++[(⟨1,(l.1.Bd.length:Int),[]⟩:Ae)],l.2.parts,i.2.parts)))else(Ac (Ju i.2) λn=>bif decide (n.1.kind=2)then(Ac (Vj n.2) λp=>xg (b.length<1099511627776)<|xg (a.length<1099511627776)<|some (Lr.go (b++[(⟨1,(p.1.Bd.length:Int),[]⟩:Ae)],a++[p.1],h.2.parts,p.2.parts)))else(Ac (Ju h.2) λy=>Ac (O4 y.1) λs=>Ac (Ju n.2) λu=>Ac (O4 u.1) λr=>Ac (Tb y.2 (min s r)) λc=>Ac (Tb u.2 (min s r)) λf=>bif decide (f.1.kind=1)then(xg (b.length<1099511627776)<|bif decide (c.1.kind=1)then(xg (a.length<1099511627776)<|some (Lr.go (b++[c.1],a++[f.1],c.2.parts,f.2.parts)))else(Aa (Lr.go (b++[c.1],a,c.2.parts,f.2.parts))))else(bif decide (c.1.kind=1)then(xg (a.length<1099511627776)<|some (Lr.go (b,a++[f.1],c.2.parts,f.2.parts)))else(Aa (Lr.go (b,a,c.2.parts,f.2.parts)))))))else(Aa (Lr.out (b,a,j.2.parts,i.2.parts))))
def Bmq (a:List Ae×List Ae×List Ae×List Ae):Option (Lr (List Ae×List Ae×List Ae×List Ae) (List Ae×List Ae×List Ae×List Ae)):=Bmp a.1 a.2.1 a.2.2.1 a.2.2.2
def Bmo (a:List Ae) (b:List Ae):Option (List Ae×List Ae×Bool):=
 Ac (Je a) λf=>Ac (bif !f then(Aa true)else(Ac (Je b) λk=>Aa (!k))) λn=>Ac (bif n then(Aa true)else(Ac (Rj a) λl=>Ac (Rj b) λm=>Aa (!decide (l=m)))) λi=>bif i then(Aa ([],[],false))else(Ac (Cp (Bmq) ([],[],a,b)) λd=>Ac (Ta d.1) λc=>Ac (Ta d.2.1) λe=>Ac (Je c) λg=>Ac (bif !g then(Aa true)else(Ac (Je e) λh=>Aa (!h))) λj=>bif j then(Aa ([],[],false))else(Aa (c,e,true)))
def Bum:E Af:=en 332 [Eu,Eu] [Iz,Iz,Bz] (Bw Aax) func332 [Alp,R6,A81,Buw,A84,Bux,Alt] [E0 0 [.slot 9 (.C9 (.b 4)),.slot 10 (.C9 (.b 4)),.box 7 0 [.ro (.b 4)],.box 8 0 [.ro (.b 4)]]] (hx:=λa=>Eq.trans (b:=Bmo a.1 a.2.1) (by kernel_rfl) (show _=Aax a.1 a.2.1 by simp only[S8,Ai0,Aax,Bmp,Bmq,Bmo,Dv,D8,D3,D5,D2,D4,cond_true,cond_false,D9,Ea,D6,D7]<;>rfl))
def A21 (l:List (List Ae)) (e:Nat) (c:List Ae) (b:List (List Ae)) (d:List Ae):Option (Lr (List (List Ae)×List Ae) (Sum (List (List Ae)×List Ae) Unit)):=
 Ac (Aax c d) λa=>bif !a.2.2 then(Aa (Lr.out (Bj (()))))else(xg (b.length<1099511627776)<|some (Lr.go (b++[a.1],a.2.1)))
def Arj (l:List (List Ae)) (b:Nat) (a:List (List Ae)×List Ae):Option (Lr (List (List Ae)×List Ae) (Sum (List (List Ae)×List Ae) Unit)):=A21 l b (el l b) a.1 a.2
def Ai8 (l:List (List Ae)) (b:List Ae):Option (List (List Ae)×List Ae×Bool):=
 Ac (Je b) λd=>bif !d then(Aa ([],[],false))else(Ac (Xy b) λe=>Ac (A2 (Arj l) (λa=>(.inl (a.1,a.2))) l.length 0 ([],e)) λf=>B2 (λc=>Aa (c.1,c.2,true)) (λg=>Aa ([],[],false)) f)
def Bm8 (l:List (List Ae)) (e:Nat) (c:List Ae) (b:List (List Ae)) (d:List Ae):Option (Lr (List (List Ae)×List Ae) (Sum (List (List Ae)×List Ae) (List (List Ae)×List Ae×Bool))):=
 Ac (Aax c d) λa=>bif !a.2.2 then(Aa (Lr.out (Bj ([],[],false))))else(xg (b.length<1099511627776)<|some (Lr.go (b++[a.1],a.2.1)))
def Bm9 (l:List (List Ae)) (b:Nat) (a:List (List Ae)×List Ae):Option (Lr (List (List Ae)×List Ae) (Sum (List (List Ae)×List Ae) (List (List Ae)×List Ae×Bool))):=Bm8 l b (el l b) a.1 a.2
def Bm7 (l:List (List Ae)) (b:List Ae):Option (List (List Ae)×List Ae×Bool):=
 Ac (Je b) λf=>bif !f then(Aa ([],[],false))else(Ac (Xy b) λd=>Ac (A2 (Bm9 l) (λc=>(.inl (c.1,c.2))) l.length 0 ([],d)) λg=>B2 (λa=>Aa (a.1,a.2,true)) (λe=>Aa e) g)
def Buu:E Af:=en 326 [Ag2,Eu] [Ahb,Iz,Bz] (Bw Ai8) func326 [Alq,R6,Bum] [Df 0 21 20 [.slot 7 (.row (.sl (.b 4))),Ev 8 4]] (hx:=λa=>Eq.trans (b:=Bm7 a.1 a.2.1) (by kernel_rfl) (show _=Ai8 a.1 a.2.1 by simp only[A21,Arj,Ai8,Bm8,Bm9,Bm7,Dv,D8,D3,D5,D2,D4,cond_true,cond_false,D9,Ea,D6,D7]<;>rfl))
def Aqv (l:List (List Ae)) (b:List Ae):Option (List Ae×Bool):=
 Ac (Ai8 l b) λa=>Aa (a.2.1,a.2.2)
def Bt2:E Af:=en 306 [Ag2,Eu] [Iz,Bz] (Bw Aqv) func306 [Buu]
def Aqy (d:Ao) (a:Int) (o:List Ae):Option (List Ae×Int):=
 Ac (O3 d) λh=>Ac (bif !h then(Aa true)else(Ac (Je o) λf=>Aa (!f))) λg=>bif g then(Aa ([],1))else(Ac (Ai3 d a) λb=>bif !decide (b=0)then(Aa ([],b))else(Ac (Aix d a) λj=>Ac (Rj o) λe=>bif !decide (e=(j.1.length:Int))then(Aa ([],1))else(Ac (Aqq d a) λi=>Ac (Aqv i.1 o) λc=>bif !c.2 then(Aa ([],5))else(Aa (c.1,0)))))
def Bt6:E Af:=en 274 [Hy,B8,Eu] [Iz,C4] (Jt Aqy) func274 [Yx,Alp,R6,Btx,Bt2,A8v,A8x]
def Bjk (b:Ao) (c:Int) (a:Int):Option (Lr Int Int):=
 Ac (bif decide (a<(b.seen.length:Int))then(xg (0<=a/\a<(b.seen.length:Int))<|some (decide (((el b.seen a.toNat).Al)<c)))else(Aa false)) λd=>bif d then(xg (Aq (a+1))<|some (Lr.go (a+1)))else(Aa (Lr.out a))
def Aq4 (a:Ao) (c:Int) (b:Int):Option (Lr Int Int):=Bjk a c b
def Aq3 (d:Ao) (b:Int) (c:Int) (r:Int) (o:List Ae):Option (Ao×Int×Int):=
 Ac (O3 d) λv=>Ac (bif !v then(Aa true)else(Ac (Da b 1 8) λq=>Aa (!q))) λj=>Ac (bif j then(Aa true)else(Ac (Da c 1 1000000000) λn=>Aa (!n))) λk=>Ac (bif k then(Aa true)else(Ac (Je o) λl=>Aa (!l))) λp=>bif p then(Aa ((⟨Cb,0,[],[],[]⟩:Ao),0,1))else(Ac (Ad4 d b) λh=>bif decide (h.1.seq=c)then(Ac (Vg d) λs=>Aa (s,h.1.rev,0))else(xg (Aq (h.1.seq+1))<|bif !decide ((h.1.seq+1)=c)then(Aa ((⟨Cb,0,[],[],[]⟩:Ao),0,4))else(Ac (Aqy d r o) λe=>bif !decide (e.2=0)then(Aa ((⟨Cb,0,[],[],[]⟩:Ao),0,e.2))else(Ac (It d) λt=>bif decide ((999999000:Int)<=t)then(Aa ((⟨Cb,0,[],[],[]⟩:Ao),0,5))else(Ac (Vg d) λa=>xg (a.list.length<1099511627776)<|Ac (It (⟨a.name,a.from_,a.text,a.list++[(⟨b,c,e.1⟩:A8)],a.seen⟩:Ao)) λg=>Ac (Cp (Aq4 a b) 0) λf=>Ac (bif decide (f<(a.seen.length:Int))then(xg (0<=f/\f<(a.seen.length:Int))<|some (decide (((el a.seen f.toNat).Al)=b)))else(Aa false)) λu=>bif u then(xg (0<=f/\f<(a.seen.length:Int))<|bif decide ((8:Int)<((a.list++[(⟨b,c,e.1⟩:A8)]).length:Int))then(xg (0<=(0:Int)/\(0:Int)<((a.list++[(⟨b,c,e.1⟩:A8)]).length:Int))<|Ac (S6 ((el (a.list++[(⟨b,c,e.1⟩:A8)]) 0).o) a.text) λm=>xg (Aq (a.from_+1))<|xg (0<=(1:Int)/\(1:Int)<=((a.list++[(⟨b,c,e.1⟩:A8)]).length:Int))<|some ((⟨a.name,a.from_+1,m.1,((a.list++[(⟨b,c,e.1⟩:A8)]).take ((a.list++[(⟨b,c,e.1⟩:A8)]).length)).drop 1,a.seen.set f.toNat (⟨b,c,g⟩:Cm)⟩:Ao),g,0))else(Aa ((⟨a.name,a.from_,a.text,a.list++[(⟨b,c,e.1⟩:A8)],a.seen.set f.toNat (⟨b,c,g⟩:Cm)⟩:Ao),g,0)))else(Ac (Aar a.seen f [(⟨b,c,g⟩:Cm)]) λi=>bif decide ((8:Int)<((a.list++[(⟨b,c,e.1⟩:A8)]).length:Int))then(xg (0<=(0:Int)/\(0:Int)<((a.list++[(⟨b,c,e.1⟩:A8)]).length:Int))<|Ac (S6 ((el (a.list++[(⟨b,c,e.1⟩:A8)]) 0).o) a.text) λw=>xg (Aq (a.from_+1))<|xg (0<=(1:Int)/\(1:Int)<=((a.list++[(⟨b,c,e.1⟩:A8)]).length:Int))<|some ((⟨a.name,a.from_+1,w.1,((a.list++[(⟨b,c,e.1⟩:A8)]).take ((a.list++[(⟨b,c,e.1⟩:A8)]).length)).drop 1,i⟩:Ao),g,0))else(Aa ((⟨a.name,a.from_,a.text,a.list++[(⟨b,c,e.1⟩:A8)],i⟩:Ao),g,0))))))))
def Bug:E Af:=en 232 [Hy,B8,B8,B8,Eu] [Adg,C4,C4] (uc5 Aq3) func232 [Bs9,A8k,Yx,Qq,R6,Bt6,Bub,A8z,I8] [E0 2 [Dw 19]]
def Aq0 (b:Db) (e:A8):Option Db:=
 Ac (Vh b) λa=>Ac (Rk b) λd=>Ac (bif !d then(Aa true)else(Ac (Xw e) λg=>Aa (!g))) λf=>Ac (bif f then(Aa true)else(Aa b.out)) λh=>bif h then(Aa a)else(bif decide ((b.list.length:Int)=b.cap)then(Aa (⟨a.cap,a.next,true,[]⟩:Db))else(Ac (X0 [e]) λc=>xg (a.list.length+c.length<=1099511627776)<|some (⟨a.cap,a.next,a.out,a.list++c⟩:Db)))
def Bt8:E Af:=en 233 [Pw,Uv] [Sp] (Bw Aq0) func233 [Auk,Afw,Afz,Aup]
def Bi8 (d:Cea) (a:Ao×Int×Int) (g:Int) (f:Int) (o:List Ae) (c:Nat) (b:List A0):Option (Lr (List A0) (List A0)):=
 bif decide ((el b c).Ah=d)then(xg (Aq ((a.1.list.length:Int)-1))<|xg (0<=((a.1.list.length:Int)-1)/\((a.1.list.length:Int)-1)<(a.1.list.length:Int))<|Ac (Aq0 ((el b c).r) (⟨(el a.1.list (((a.1.list.length:Int)-1).toNat)).Al,(el a.1.list (((a.1.list.length:Int)-1).toNat)).seq,(el a.1.list (((a.1.list.length:Int)-1).toNat)).o⟩:A8)) λe=>Aa (Lr.go (b.set c (⟨(el b c).id,(el b c).Ah,e⟩:A0))))else(Aa (Lr.go b))
def A2h (a:Cea) (c:Ao×Int×Int) (e:Int) (f:Int) (o:List Ae) (b:Nat) (d:List A0):Option (Lr (List A0) (List A0)):=Bi8 a c e f o b d
def Aql (h:Aw) (d:Cea) (f:Int) (e:Int) (m:Int) (o:List Ae):Option (Aw×Int×Int):=
 Ac (N6 h d) λa=>Ac (Mk h) λj=>bif !j then(Aa ((⟨false,[],[],0⟩:Aw),0,1))else(bif h.shut then(Aa ((⟨false,[],[],0⟩:Aw),0,12))else(bif decide (a<0)then(Aa ((⟨false,[],[],0⟩:Aw),0,6))else(xg (0<=a/\a<(h.Am.length:Int))<|Ac (Aq3 (el h.Am a.toNat) f e m o) λc=>bif !decide (c.2.2=0)then(Aa ((⟨false,[],[],0⟩:Aw),0,c.2.2))else(Ac (Hj h) λb=>xg (0<=a/\a<(b.Am.length:Int))<|Ac (It c.1) λg=>xg (0<=a/\a<(h.Am.length:Int))<|Ac (It (el h.Am a.toNat)) λl=>bif decide (l<g)then(Ac (A2 (A2h d c f e o) (λi=>i) b.Ax.length 0 b.Ax) λk=>Aa ((⟨b.shut,b.Am.set a.toNat c.1,k,b.last⟩:Aw),c.2.1,0))else(Aa ((⟨b.shut,b.Am.set a.toNat c.1,b.Ax,b.last⟩:Aw),c.2.1,0))))))
def Bts:E Af:=en 170 [Gq,E9,B8,B8,B8,Eu] [Ls,C4,C4] (uc6 Aql) func170 [Qq,R5,Ua,Bt8,Bug,Ub] [Fb 1 75 74 [J7 73 9]]
def Aii (d:Ao):Option (List Int):=
 Ac (It d) λb=>Ac (Aix d b) λa=>Aa a.1
def A8p:E Af:=en 234 [Hy] [M7] (Bp Aii) func234 [Qq,A8v]
def Aqg (d:Ao) (a:Int):Option (List A8×Int):=
 Ac (O3 d) λc=>bif !c then(Aa ([],1))else(Ac (Ai3 d a) λb=>bif !decide (b=0)then(Aa ([],b))else(xg (Aq (a-d.from_))<|xg (0<=(a-d.from_)/\(a-d.from_)<=(d.list.length:Int))<|Ac (X0 ((d.list.take d.list.length).drop ((a-d.from_).toNat))) λe=>Aa (e,0)))
def Btk:E Af:=en 235 [Hy,B8] [Xh,C4] (Bw Aqg) func235 [Yx,A8x,Afz]
def Ai6 (h:Aw) (c:Bb):Option Bi:=
 Ac (N6 h c.Ah) λa=>bif h.shut then(Aa (⟨12,0,[],[]⟩:Bi))else(bif decide (a<0)then(Aa (⟨6,0,[],[]⟩:Bi))else(bif decide (c.kind=4)then(xg (0<=a/\a<(h.Am.length:Int))<|xg (0<=a/\a<(h.Am.length:Int))<|Ac (Aii (el h.Am a.toNat)) λd=>Ac (It (el h.Am a.toNat)) λe=>Aa (⟨0,e,d,[]⟩:Bi))else(xg (0<=a/\a<(h.Am.length:Int))<|Ac (Aqg (el h.Am a.toNat) c.n) λb=>Aa (⟨b.2,0,[],b.1⟩:Bi))))
def Bur:E Af:=en 171 [Gq,M4] [Adh] (Bw Ai6) func171 [Btk,Qq,A8p,R5]
def Ait (b:Int) (a:Int):Option (Db×Bool):=
 xg (Aq (a+1))<|Ac (Rk (⟨b,a+1,false,[]⟩:Db)) λc=>bif !c then(Aa ((⟨0,0,false,[]⟩:Db),false))else(Aa ((⟨b,a+1,false,[]⟩:Db),true))
def A8u:E Af:=en 236 [B8,B8] [Sp,Bz] (Bw Ait) func236 [Afw]
def Aio (h:Aw) (c:Cea) (d:Int):Option (Aw×Int×Int):=
 Ac (N6 h c) λb=>Ac (Mk h) λi=>Ac (bif !i then(Aa true)else(Ac (Da d 1 6) λk=>Aa (!k))) λj=>bif j then(Aa ((⟨false,[],[],0⟩:Aw),0,1))else(bif h.shut then(Aa ((⟨false,[],[],0⟩:Aw),0,12))else(bif decide (b<0)then(Aa ((⟨false,[],[],0⟩:Aw),0,6))else(Ac (bif decide ((h.Ax.length:Int)=6)then(Aa true)else(Aa (decide (h.last=1000000000)))) λf=>bif f then(Aa ((⟨false,[],[],0⟩:Aw),0,10))else(Ac (Hj h) λa=>xg (Aq (a.last+1))<|xg (0<=b/\b<(h.Am.length:Int))<|Ac (It (el h.Am b.toNat)) λg=>Ac (Ait d g) λe=>xg (a.Ax.length<1099511627776)<|some ((⟨a.shut,a.Am,a.Ax++[(⟨a.last+1,c,e.1⟩:A0)],a.last+1⟩:Aw),a.last+1,0)))))
def Btt:E Af:=en 172 [Gq,E9,B8] [Ls,C4,C4] (Jt Aio) func172 [Qq,R5,Ua,A8u,Ub,I8]
def Aqk (s:A0) (p:Int):Option (Bool×Int):=
 Aa (decide (s.id=p),p)
def Btr:E Af:=en 279 [Aoc,.box .ow (.b 0)] [Bz] (Bw Aqk) func279
def A3p (s:List A0) (c:Nat) (b:A0) (d:Int):Option (Lr Int (Sum Int (Int×Int))):=
 Ac (Aqk b d) λa=>bif a.1 then(Aa (Lr.out (Bj (((c:Int),a.2)))))else(Aa (Lr.go a.2))
def A3q (s:List A0) (a:Nat) (b:Int):Option (Lr Int (Sum Int (Int×Int))):=A3p s a (el s a) b
def Ajg (s:List A0) (c:Int):Option (Int×Int):=
 Ac (A2 (A3q s) (λb=>(.inl b)) s.length 0 c) λe=>B2 (λd=>Aa (-1,d)) (λa=>Aa (a.1,a.2)) e
def Bn2 (s:List A0) (d:Nat) (c:A0) (b:Int):Option (Lr Int (Sum Int (Int×Int))):=
 Ac (Aqk c b) λa=>bif a.1 then(Aa (Lr.out (Bj ((d:Int),a.2))))else(Aa (Lr.go a.2))
def Bn3 (s:List A0) (a:Nat) (b:Int):Option (Lr Int (Sum Int (Int×Int))):=Bn2 s a (el s a) b
def Bn1 (s:List A0) (c:Int):Option (Int×Int):=
 Ac (A2 (Bn3 s) (λb=>(.inl b)) s.length 0 c) λe=>B2 (λa=>Aa (-1,a)) (λd=>Aa d) e
def Bvd:E Af:=en 278 [Ay5,.fn 279 1,.cap .ow (.b 0)] [C4] (Bw Ajg) func278 [Btr] [Df 0 8 7 [.box 1 1 [.sc 0]]] (hx:=λa=>Eq.trans (b:=Bn1 a.1 a.2.1) (by kernel_rfl) (show _=Ajg a.1 a.2.1 by simp only[A3p,A3q,Ajg,Bn2,Bn3,Bn1,Dv,D8,D3,D5,D2,D4,cond_true,cond_false,D9,Ea,D6,D7]<;>rfl))
def Ain (h:Aw) (b:Int):Option Int:=
 Ac (Ajg h.Ax b) λa=>Aa a.1
def A8r:E Af:=en 237 [Gq,B8] [C4] (Bw Ain) func237 [Bvd]
def Aqz (a:Db) (n:Int):Option (Db×List A8×Int):=
 Ac (Vh a) λb=>Ac (Rk a) λc=>Ac (bif !c then(Aa true)else(Aa (decide (n<1)))) λd=>bif d then(Aa (b,[],1))else(bif a.out then(Aa (b,[],9))else(xg (0<=(min n (a.list.length:Int))/\(min n (a.list.length:Int))=(min n (a.list.length:Int))/\(min n (a.list.length:Int))<=(b.list.length:Int))<|xg (0<=(min n (a.list.length:Int))/\(min n (a.list.length:Int))<=(b.list.length:Int))<|xg (((min n (a.list.length:Int)).toNat)<=((min n (a.list.length:Int)).toNat)/\((min n (a.list.length:Int)).toNat)<=b.list.length)<|xg (Aq (b.next+(min n (a.list.length:Int))))<|some ((⟨b.cap,b.next+(min n (a.list.length:Int)),b.out,(b.list.take b.list.length).drop ((min n (a.list.length:Int)).toNat)⟩:Db),(b.list.take ((min n (a.list.length:Int)).toNat)).drop 0,0)))
def Bt7:E Af:=en 238 [Pw,B8] [Sp,Xh,C4] (Bw Aqz) func238 [Afw,Aup]
def Aij (h:Aw) (d:Int) (n:Int):Option (Aw×List A8×Int):=
 Ac (Ain h d) λa=>Ac (Mk h) λf=>Ac (bif !f then(Aa true)else(Aa (decide (n<1)))) λe=>bif e then(Aa ((⟨false,[],[],0⟩:Aw),[],1))else(bif decide (a<0)then(Aa ((⟨false,[],[],0⟩:Aw),[],8))else(xg (0<=a/\a<(h.Ax.length:Int))<|Ac (Aqz ((el h.Ax a.toNat).r) n) λc=>bif !decide (c.2.2=0)then(Aa ((⟨false,[],[],0⟩:Aw),[],c.2.2))else(Ac (Hj h) λb=>xg (0<=a/\a<(b.Ax.length:Int))<|some ((⟨b.shut,b.Am,b.Ax.set a.toNat (⟨(el b.Ax a.toNat).id,(el b.Ax a.toNat).Ah,c.1⟩:A0),b.last⟩:Aw),c.2.1,0))))
def Bto:E Af:=en 173 [Gq,B8,B8] [Ls,Xh,C4] (Jt Aij) func173 [Ua,A8r,Bt7,Ub]
def Aq1 (b:Db) (d:Int):Option (Db×Bool):=
 Ac (Rk b) λc=>bif !c then(Aa ((⟨0,0,false,[]⟩:Db),false))else(Ac (Ait b.cap d) λa=>Aa (a.1,a.2))
def Bt9:E Af:=en 239 [Pw,B8] [Sp,Bz] (Bw Aq1) func239 [A8u,Afw]
def Aik (h:Aw) (e:Int):Option (Aw×List Int×Int×Int):=
 Ac (Ain h e) λa=>Ac (Mk h) λi=>bif !i then(Aa ((⟨false,[],[],0⟩:Aw),[],0,1))else(bif decide (a<0)then(Aa ((⟨false,[],[],0⟩:Aw),[],0,8))else(xg (0<=a/\a<(h.Ax.length:Int))<|Ac (N6 h ((el h.Ax a.toNat).Ah)) λc=>xg (0<=c/\c<(h.Am.length:Int))<|Ac (Hj h) λb=>xg (0<=a/\a<(h.Ax.length:Int))<|Ac (It (el h.Am c.toNat)) λg=>Ac (Aq1 ((el h.Ax a.toNat).r) g) λd=>xg (0<=a/\a<(b.Ax.length:Int))<|Ac (Aii (el h.Am c.toNat)) λf=>Ac (It (el h.Am c.toNat)) λj=>Aa ((⟨b.shut,b.Am,b.Ax.set a.toNat (⟨(el b.Ax a.toNat).id,(el b.Ax a.toNat).Ah,d.1⟩:A0),b.last⟩:Aw),f,j,0)))
def Btp:E Af:=en 174 [Gq,B8] [Ls,M7,C4,C4] (Bw Aik) func174 [Qq,A8p,R5,Ua,A8r,Bt9,Ub]
def Aim (h:Aw):Option (Aw×Int):=
 Ac (Mk h) λb=>bif !b then(Aa ((⟨false,[],[],0⟩:Aw),1))else(bif h.shut then(Aa ((⟨false,[],[],0⟩:Aw),12))else(Ac (Hj h) λa=>Aa ((⟨true,a.Am,a.Ax,a.last⟩:Aw),0)))
def Btq:E Af:=en 175 [Gq] [Ls,C4] (Bp Aim) func175 [Ua,Ub]
def Aif (h:Aw) (c:Bb):Option (Aw×Bi):=
 Ac (Mk h) λs=>Ac (bif !s then(Aa true)else(Ac (Aav c) λw=>Aa (!w))) λv=>bif v then(Ac (Hj h) λy=>Aa (y,(⟨1,0,[],[]⟩:Bi)))else(bif decide (c.kind=1)then(Ac (Aqj h c.Ah c.text) λk=>bif !decide (k.2=0)then(Ac (Hj h) λx=>Aa (x,(⟨k.2,0,[],[]⟩:Bi)))else(Aa (k.1,(⟨k.2,0,[],[]⟩:Bi))))else(bif decide (c.kind=2)then(Ac (Aql h c.Ah c.Al c.seq c.n c.o) λe=>bif !decide (e.2.2=0)then(Ac (Hj h) λt=>Aa (t,(⟨e.2.2,0,[],[]⟩:Bi)))else(Aa (e.1,(⟨e.2.2,e.2.1,[],[]⟩:Bi))))else(bif decide (c.kind=3)then(bif decide (c.kind=3)then(Ac (Hj h) λG=>Ac (Ai6 h c) λq=>Aa (G,q))else(bif decide (c.kind=5)then(Ac (Aio h c.Ah c.n) λf=>bif !decide (f.2.2=0)then(Ac (Hj h) λA=>Aa (A,(⟨f.2.2,0,[],[]⟩:Bi)))else(Aa (f.1,(⟨f.2.2,f.2.1,[],[]⟩:Bi))))else(bif decide (c.kind=6)then(Ac (Aij h c.Al c.n) λd=>bif !decide (d.2.2=0)then(Ac (Hj h) λF=>Aa (F,(⟨d.2.2,0,[],[]⟩:Bi)))else(Aa (d.1,(⟨d.2.2,0,[],d.2.1⟩:Bi))))else(bif decide (c.kind=7)then(Ac (Aik h c.Al) λb=>bif !decide (b.2.2.2=0)then(Ac (Hj h) λm=>Aa (m,(⟨b.2.2.2,0,[],[]⟩:Bi)))else(Aa (b.1,(⟨b.2.2.2,b.2.2.1,b.2.1,[]⟩:Bi))))else(Ac (Aim h) λj=>bif !decide (j.2=0)then(Ac (Hj h) λB=>Aa (B,(⟨j.2,0,[],[]⟩:Bi)))else(Aa (j.1,(⟨j.2,0,[],[]⟩:Bi))))))))else(bif decide (c.kind=4)then(Ac (Hj h) λu=>Ac (Ai6 h c) λC=>Aa (u,C))else(bif decide (c.kind=5)then(Ac (Aio h c.Ah c.n) λg=>bif !decide (g.2.2=0)then(Ac (Hj h) λz=>Aa (z,(⟨g.2.2,0,[],[]⟩:Bi)))else(Aa (g.1,(⟨g.2.2,g.2.1,[],[]⟩:Bi))))else(bif decide (c.kind=6)then(Ac (Aij h c.Al c.n) λi=>bif !decide (i.2.2=0)then(Ac (Hj h) λp=>Aa (p,(⟨i.2.2,0,[],[]⟩:Bi)))else(Aa (i.1,(⟨i.2.2,0,[],i.2.1⟩:Bi))))else(bif decide (c.kind=7)then(Ac (Aik h c.Al) λa=>bif !decide (a.2.2.2=0)then(Ac (Hj h) λr=>Aa (r,(⟨a.2.2.2,0,[],[]⟩:Bi)))else(Aa (a.1,(⟨a.2.2.2,a.2.2.1,a.2.1,[]⟩:Bi))))else(Ac (Aim h) λl=>bif !decide (l.2=0)then(Ac (Hj h) λD=>Aa (D,(⟨l.2,0,[],[]⟩:Bi)))else(Aa (l.1,(⟨l.2,0,[],[]⟩:Bi)))))))))))
def A8o:E Af:=en 99 [Gq,M4] [Ls,Adh] (Bw Aif) func99 [Alo,Ua,Btn,Bto,Btp,Btq,Bts,Btt,Ub,Bur]
def Ad9 (b:Au) (k:Int):Option Au:=
 xg (0<=k/\k<(b.Ag.length:Int))<|Ac (Aif b.h ((el b.Ag k.toNat).c)) λd=>Aa (⟨d.1,b.Az,b.An,stE (stE (stE b.Ag k.toNat λz=>(⟨(⟨z.c.kind,z.c.Ah,z.c.Al,z.c.seq,z.c.n,z.c.o,z.c.text⟩:Bb),z.pc,z.inv,z.Bv,z.Cl,d.2⟩:A4)) k.toNat λz=>(⟨(⟨z.c.kind,z.c.Ah,z.c.Al,z.c.seq,z.c.n,z.c.o,z.c.text⟩:Bb),z.pc,z.inv,b.step,z.Cl,(⟨z.a.code,z.a.rev,z.a.text,z.a.list⟩:Bi)⟩:A4)) k.toNat λz=>(⟨(⟨z.c.kind,z.c.Ah,z.c.Al,z.c.seq,z.c.n,z.c.o,z.c.text⟩:Bb),3,z.inv,z.Bv,z.Cl,(⟨z.a.code,z.a.rev,z.a.text,z.a.list⟩:Bi)⟩:A4),b.step⟩:Au)
def Als:E Af:=en 75 [Aod,B8] [] (Bw Ad9) func75 [A8o]
def Bjh (b:Au) (k:Int) (a:Int):Option (Lr Int Int):=
 Ac (bif decide (a<(b.An.length:Int))then(xg (0<=a/\a<(b.An.length:Int))<|some (Cv ((el b.An a.toNat).Ah) ((el b.Ag k.toNat).c.Ah)))else(Aa false)) λd=>bif d then(xg (Aq (a+1))<|some (Lr.go (a+1)))else(Aa (Lr.out a))
def Bji (a:Au) (k:Int) (b:Int):Option (Lr Int Int):=Bjh a k b
def Aqx (j:Au) (k:Int):Option (Au×Bool):=
 Ac (Qc j) λq=>Ac (bif !q then(Aa true)else(Ac (Arc j k) λp=>Aa (!p))) λs=>bif s then(Aa ((⟨(⟨false,[],[],0⟩:Aw),[],[],[],0⟩:Au),false))else(Ac (Qe j) λb=>xg (0<=k/\k<(b.Ag.length:Int))<|Ac (Aaw ((el b.Ag k.toNat).c.Ah) (b.Az.length:Int)) λe=>Ac (bif decide (((el b.Ag k.toNat).pc)=0)then(Ac (Qb ((el b.Ag k.toNat).c.kind)) λr=>Aa r)else(Aa false)) λu=>bif u then(xg (0<=e/\e<(b.Az.length:Int))<|xg (Aq (b.step+1))<|some ((⟨b.h,b.Az.set e.toNat k,b.An,stE b.Ag k.toNat λz=>(⟨(⟨z.c.kind,z.c.Ah,z.c.Al,z.c.seq,z.c.n,z.c.o,z.c.text⟩:Bb),1,z.inv,z.Bv,z.Cl,(⟨z.a.code,z.a.rev,z.a.text,z.a.list⟩:Bi)⟩:A4),b.step+1⟩:Au),true))else(bif decide (((el b.Ag k.toNat).pc)=0)then(Ac (Ad9 b k) λi=>xg (Aq (i.step+1))<|some ((⟨i.h,i.Az,i.An,i.Ag,i.step+1⟩:Au),true))else(bif decide (((el b.Ag k.toNat).pc)=1)then(xg (0<=e/\e<(b.Az.length:Int))<|Ac (bif !decide (((el b.Ag k.toNat).c.kind)=2)then(Aa true)else(Aa b.h.shut)) λt=>Ac (bif t then(Aa true)else(Ac (N6 b.h ((el b.Ag k.toNat).c.Ah)) λl=>Aa (decide (l<0)))) λv=>bif v then(Ac (Ad9 (⟨b.h,b.Az.set e.toNat (-1),b.An,b.Ag,b.step⟩:Au) k) λg=>xg (Aq (g.step+1))<|some ((⟨g.h,g.Az,g.An,g.Ag,g.step+1⟩:Au),true))else(xg (0<=k/\k<(b.Ag.length:Int))<|Ac (Cp (Bji b k) 0) λd=>Ac (bif decide (d=(b.An.length:Int))then(Aa true)else(xg (0<=d/\d<(b.An.length:Int))<|some (!decide ((el b.An d.toNat).Ah=(el b.Ag k.toNat).c.Ah)))) λm=>bif m then(Ac (Aar b.An d [(⟨(el b.Ag k.toNat).c.Ah,[]⟩:Ba)]) λf=>xg (0<=d/\d<(f.length:Int))<|bif decide ((((el f d.toNat).list).length:Int)=2)then(xg (Aq (b.step+1))<|some ((⟨b.h,b.Az.set e.toNat (-1),f,stE (stE b.Ag k.toNat λz=>(⟨(⟨z.c.kind,z.c.Ah,z.c.Al,z.c.seq,z.c.n,z.c.o,z.c.text⟩:Bb),z.pc,z.inv,z.Bv,z.Cl,(⟨11,0,[],[]⟩:Bi)⟩:A4)) k.toNat λz=>(⟨(⟨z.c.kind,z.c.Ah,z.c.Al,z.c.seq,z.c.n,z.c.o,z.c.text⟩:Bb),3,z.inv,z.Bv,z.Cl,(⟨z.a.code,z.a.rev,z.a.text,z.a.list⟩:Bi)⟩:A4),b.step+1⟩:Au),true))else(xg (0<=d/\d<(f.length:Int))<|xg (((el f d.toNat).list).length+[k].length<=1099511627776)<|xg (0<=d/\d<(f.length:Int))<|xg (d.toNat=d.toNat)<|xg (Aq (b.step+1))<|some ((⟨b.h,b.Az.set e.toNat (-1),stE f d.toNat λz=>(⟨z.Ah,((el f d.toNat).list)++[k]⟩:Ba),stE b.Ag k.toNat λz=>(⟨(⟨z.c.kind,z.c.Ah,z.c.Al,z.c.seq,z.c.n,z.c.o,z.c.text⟩:Bb),2,z.inv,z.Bv,z.Cl,(⟨z.a.code,z.a.rev,z.a.text,z.a.list⟩:Bi)⟩:A4),b.step+1⟩:Au),true)))else(xg (0<=d/\d<(b.An.length:Int))<|bif decide ((((el b.An d.toNat).list).length:Int)=2)then(xg (Aq (b.step+1))<|some ((⟨b.h,b.Az.set e.toNat (-1),b.An,stE (stE b.Ag k.toNat λz=>(⟨(⟨z.c.kind,z.c.Ah,z.c.Al,z.c.seq,z.c.n,z.c.o,z.c.text⟩:Bb),z.pc,z.inv,z.Bv,z.Cl,(⟨11,0,[],[]⟩:Bi)⟩:A4)) k.toNat λz=>(⟨(⟨z.c.kind,z.c.Ah,z.c.Al,z.c.seq,z.c.n,z.c.o,z.c.text⟩:Bb),3,z.inv,z.Bv,z.Cl,(⟨z.a.code,z.a.rev,z.a.text,z.a.list⟩:Bi)⟩:A4),b.step+1⟩:Au),true))else(xg (0<=d/\d<(b.An.length:Int))<|xg (((el b.An d.toNat).list).length+[k].length<=1099511627776)<|xg (0<=d/\d<(b.An.length:Int))<|xg (d.toNat=d.toNat)<|xg (Aq (b.step+1))<|some ((⟨b.h,b.Az.set e.toNat (-1),stE b.An d.toNat λz=>(⟨z.Ah,((el b.An d.toNat).list)++[k]⟩:Ba),stE b.Ag k.toNat λz=>(⟨(⟨z.c.kind,z.c.Ah,z.c.Al,z.c.seq,z.c.n,z.c.o,z.c.text⟩:Bb),2,z.inv,z.Bv,z.Cl,(⟨z.a.code,z.a.rev,z.a.text,z.a.list⟩:Bi)⟩:A4),b.step+1⟩:Au),true)))))else(xg (Aq (b.step+1))<|some ((⟨b.h,b.Az,b.An,stE (stE b.Ag k.toNat λz=>(⟨(⟨z.c.kind,z.c.Ah,z.c.Al,z.c.seq,z.c.n,z.c.o,z.c.text⟩:Bb),z.pc,z.inv,z.Bv,b.step,(⟨z.a.code,z.a.rev,z.a.text,z.a.list⟩:Bi)⟩:A4)) k.toNat λz=>(⟨(⟨z.c.kind,z.c.Ah,z.c.Al,z.c.seq,z.c.n,z.c.o,z.c.text⟩:Bb),4,z.inv,z.Bv,z.Cl,(⟨z.a.code,z.a.rev,z.a.text,z.a.list⟩:Bi)⟩:A4),b.step+1⟩:Au),true)))))
def Bt4:E Af:=en 24 [G6,B8] [P0,Bz] (Bw Aqx) func24 [Aug,R5,Wd,Afx,We,Aun,Yz,Als] (inl:=(Awz 77 ⟨f77.ntmps,cs [Aug,R5,Wd,Afx,We,Aun,Yz,Als],[E0 0 [Dw 6]],false,false,false,Amv⟩ f77.results.toList (Afn f77) Amv)) (hi:=(Bz6 ⟨csh [Aug,R5,Wd,Afx,We,Aun,Yz,Als],Amw⟩ func77 rfl rfl (by kernel_rfl) Amw))
def A2o (q:Ba) (p:Cea):Option (Bool×Cea):=
 Aa (decide (q.Ah=p),p)
def Bud:E Af:=en 79 [Ay6,.box .ow (.b 2)] [Bz] (Bw A2o) func79
def Bke (s:List Ba) (d:Nat) (c:Ba) (b:Cea):Option (Lr Cea (Sum Cea (Int×Cea))):=
 Ac (A2o c b) λa=>bif a.1 then(Aa (Lr.out (Bj ((d:Int),a.2))))else(Aa (Lr.go a.2))
def Bkf (s:List Ba) (a:Nat) (b:Cea):Option (Lr Cea (Sum Cea (Int×Cea))):=Bke s a (el s a) b
def Art (s:List Ba) (c:Cea):Option (Int×Cea):=
 Ac (A2 (Bkf s) (λb=>(.inl b)) s.length 0 c) λe=>B2 (λa=>Aa (-1,a)) (λd=>Aa d) e
def Bvc:E Af:=en 78 [Ay7,.fn 79 1,.cap .ow (.b 2)] [C4] (Bw Art) func78 [Bud] [Df 0 8 7 [.box 1 1 [.sc 2]]]
def Aq2 (c:Au) (e:Cea):Option (Au×Bool):=
 Ac (Art c.An e) λa=>Ac (bif decide (a.1<0)then(Aa true)else(Ac (Qc c) λj=>Aa (!j))) λi=>Ac (bif i then(Aa true)else(Aa (decide (c.step=1000000)))) λf=>bif f then(Aa ((⟨(⟨false,[],[],0⟩:Aw),[],[],[],0⟩:Au),false))else(Ac (Qe c) λd=>xg (0<=a.1/\a.1<(d.An.length:Int))<|xg (0<=(0:Int)/\(0:Int)<(((el d.An a.1.toNat).list).length:Int))<|Ac (Ad9 d (el ((el d.An a.1.toNat).list) 0)) λb=>xg (0<=a.1/\a.1<(b.An.length:Int))<|xg (0<=(1:Int)/\(1:Int)<=(((el b.An a.1.toNat).list).length:Int))<|xg (0<=a.1/\a.1<(b.An.length:Int))<|xg (a.1.toNat=a.1.toNat)<|xg (0<=a.1/\a.1<((stE b.An a.1.toNat λz=>(⟨z.Ah,(((el b.An a.1.toNat).list).take ((el b.An a.1.toNat).list).length).drop 1⟩:Ba)).length:Int))<|bif decide ((((el (stE b.An a.1.toNat λz=>(⟨z.Ah,(((el b.An a.1.toNat).list).take ((el b.An a.1.toNat).list).length).drop 1⟩:Ba)) a.1.toNat).list).length:Int)=0)then(xg (Aq (a.1+1))<|Ac (Ad1 (stE b.An a.1.toNat λz=>(⟨z.Ah,(((el b.An a.1.toNat).list).take ((el b.An a.1.toNat).list).length).drop 1⟩:Ba)) a.1 (a.1+1)) λg=>xg (Aq (b.step+1))<|some ((⟨b.h,b.Az,g,b.Ag,b.step+1⟩:Au),true))else(xg (Aq (b.step+1))<|some ((⟨b.h,b.Az,stE b.An a.1.toNat λz=>(⟨z.Ah,(((el b.An a.1.toNat).list).take ((el b.An a.1.toNat).list).length).drop 1⟩:Ba),b.Ag,b.step+1⟩:Au),true)))
def Buc:E Af:=en 25 [G6,E9] [P0,Bz] (Bw Aq2) func25 [Bs7,We,Yz,Als,Bvc]
def Aqd (b:Au) (c:Bb):Option (Au×Bool):=
 Ac (Qc b) λg=>Ac (bif !g then(Aa true)else(Ac (Aav c) λe=>Aa (!e))) λf=>Ac (bif f then(Aa true)else(Aa (decide ((b.Ag.length:Int)=10)))) λj=>Ac (bif j then(Aa true)else(Aa (decide (b.step=1000000)))) λi=>bif i then(Aa ((⟨(⟨false,[],[],0⟩:Aw),[],[],[],0⟩:Au),false))else(Ac (Qe b) λa=>Ac (Ai4 c) λd=>xg (a.Ag.length+[(⟨d,0,b.step,-1,-1,(⟨0,0,[],[]⟩:Bi)⟩:A4)].length<=549755813888)<|xg (Aq (a.step+1))<|some ((⟨a.h,a.Az,a.An,a.Ag++[(⟨d,0,b.step,-1,-1,(⟨0,0,[],[]⟩:Bi)⟩:A4)],a.step+1⟩:Au),true))
def Btf:E Af:=en 26 [G6,M4] [P0,Bz] (Bw Aqd) func26 [Alo,We,A8y,Yz]
def Xz (b:Au) (c:Cea):Option (Au×Cea):=
 Ac (Ad2 c) λa=>Ac (Aiy c) λe=>Ac (bif decide ((a.length:Int)=2)then(xg (0<=(0:Int)/\(0:Int)<(a.length:Int))<|some (decide (el a 0=(⟨#[112,105,99,107]⟩:Cea))))else(Aa false)) λp=>Ac (bif p then(Ac (Ly a 1) λn=>Aa (decide ((0:Int)<=n)))else(Aa false)) λj=>bif j then(Ac (Ly a 1) λk=>Ac (Aqx b k) λd=>bif !d.2 then(Ac (Qe b) λo=>Aa (o,(⟨#[110,111]⟩:Cea)))else(Aa (d.1,(⟨#[111,107]⟩:Cea))))else(Ac (bif decide ((a.length:Int)=2)then(xg (0<=(0:Int)/\(0:Int)<(a.length:Int))<|some (decide (el a 0=(⟨#[115,101,114,118,101]⟩:Cea))))else(Aa false)) λi=>bif i then(xg (0<=(1:Int)/\(1:Int)<(a.length:Int))<|Ac (Aq2 b (el a 1)) λf=>bif !f.2 then(Ac (Qe b) λl=>Aa (l,(⟨#[110,111]⟩:Cea)))else(Aa (f.1,(⟨#[111,107]⟩:Cea))))else(bif e.2 then(Ac (Aqd b e.1) λg=>bif !g.2 then(Ac (Qe b) λh=>Aa (h,(⟨#[110,111]⟩:Cea)))else(Aa (g.1,(⟨#[111,107]⟩:Cea))))else(Ac (Qe b) λm=>Aa (m,(⟨#[119,104,97,116]⟩:Cea)))))
def A8t:E Af:=en 6 [G6,E9] [P0,Hr] (Bw Xz) func6 [Btf,Auj,Bt4,Buc,Buj,Yz,A82]
def A3j (b:List Cm) (d:List Cm) (a:Nat) (c:Cm):Option (Lr Unit (Sum Unit Unit)):=
 xg (0<=(a:Int)/\(a:Int)<(b.length:Int))<|bif !((decide ((c.Al)=((el b a).Al))&&decide ((c.seq)=((el b a).seq)))&&decide ((c.rev)=((el b a).rev)))then(Aa (Lr.out (Bj (()))))else(Aa (Lr.go ()))
def A3k (c:List Cm) (a:List Cm) (b:Nat) (d:Unit):Option (Lr Unit (Sum Unit Unit)):=A3j c a b (el a b)
def Aeb (a:List Cm) (b:List Cm):Option Bool:=
 bif !decide ((a.length:Int)=(b.length:Int))then(Aa false)else(Ac (A2 (A3k b a) (λf=>(.inl ())) a.length 0 ()) λc=>B2 (λd=>Aa true) (λe=>Aa false) c)
def Bnt (b:List Cm) (d:List Cm) (a:Nat) (c:Cm):Option (Lr Unit (Sum Unit Bool)):=
 xg (0<=(a:Int)/\(a:Int)<(b.length:Int))<|bif !((decide ((c.Al)=((el b a).Al))&&decide ((c.seq)=((el b a).seq)))&&decide ((c.rev)=((el b a).rev)))then(Aa (Lr.out (Bj false)))else(Aa (Lr.go ()))
def Bnu (c:List Cm) (a:List Cm) (b:Nat) (d:Unit):Option (Lr Unit (Sum Unit Bool)):=Bnt c a b (el a b)
def Bns (a:List Cm) (b:List Cm):Option Bool:=
 bif !decide ((a.length:Int)=(b.length:Int))then(Aa false)else(Ac (A2 (Bnu b a) (λf=>(.inl ())) a.length 0 ()) λc=>B2 (λe=>Aa true) (λd=>Aa d) c)
def Bva:E Af:=en 164 [.val false (.sl (.b 6)),.val false (.sl (.b 6))] [Bz] (Bw Aeb) func164 [] [Df 0 13 12 []] (hx:=λa=>Eq.trans (b:=Bns a.1 a.2.1) (by kernel_rfl) (show _=Aeb a.1 a.2.1 by simp only[A3j,A3k,Aeb,Bnt,Bnu,Bns,Dv,D8,D3,D5,D2,D4,cond_true,cond_false,D9,Ea,D6,D7]<;>rfl))
def A2b (a:Ao) (b:Ao):Option Bool:=
 Ac (bif decide (a.name=b.name)then(Aa (decide (a.from_=b.from_)))else(Aa false)) λh=>Ac (bif h then(Ac (O5 a.text b.text) λe=>Aa e)else(Aa false)) λg=>Ac (bif g then(Ac (X3 a.list b.list) λi=>Aa i)else(Aa false)) λc=>Ac (bif c then(Ac (Aeb a.seen b.seen) λd=>Aa d)else(Aa false)) λf=>Aa f
def Bti:E Af:=en 92 [Hy,Hy] [Bz] (Bw A2b) func92 [Aus,Bva,Y0]
def Bj6 (b:List Ao) (e:List Ao) (a:Nat) (d:Ao):Option (Lr Unit (Sum Unit Bool)):=
 xg (0<=(a:Int)/\(a:Int)<(b.length:Int))<|Ac (A2b d (el b a)) λc=>bif !c then(Aa (Lr.out (Bj false)))else(Aa (Lr.go ()))
def Bj7 (c:List Ao) (a:List Ao) (b:Nat) (d:Unit):Option (Lr Unit (Sum Unit Bool)):=Bj6 c a b (el a b)
def Arp (a:List Ao) (b:List Ao):Option Bool:=
 bif !decide ((a.length:Int)=(b.length:Int))then(Aa false)else(Ac (A2 (Bj7 b a) (λf=>(.inl ())) a.length 0 ()) λd=>B2 (λe=>Aa true) (λc=>Aa c) d)
def Bu5:E Af:=en 91 [Ay3,Ay3,.fn 92 0] [Bz] (Bw Arp) func91 [Bti] [Df 0 17 16 []]
def A2l (a:Db) (b:Db):Option Bool:=
 Ac (bif decide (a.cap=b.cap)then(Aa (decide (a.next=b.next)))else(Aa false)) λc=>Ac (bif c then(Aa (a.out==b.out))else(Aa false)) λd=>Ac (bif d then(Ac (X3 a.list b.list) λf=>Aa f)else(Aa false)) λe=>Aa e
def Bua:E Af:=en 165 [Pw,Pw] [Bz] (Bw A2l) func165 [Aus]
def A28 (a:A0) (b:A0):Option Bool:=
 Ac (bif decide (a.id=b.id)then(Aa (decide (a.Ah=b.Ah)))else(Aa false)) λe=>Ac (bif e then(Ac (A2l a.r b.r) λd=>Aa d)else(Aa false)) λc=>Aa c
def Bu0:E Af:=en 94 [Aoc,Aoc] [Bz] (Bw A28) func94 [Bua]
def Bka (b:List A0) (e:List A0) (a:Nat) (d:A0):Option (Lr Unit (Sum Unit Bool)):=
 xg (0<=(a:Int)/\(a:Int)<(b.length:Int))<|Ac (A28 d (el b a)) λc=>bif !c then(Aa (Lr.out (Bj false)))else(Aa (Lr.go ()))
def Bkb (c:List A0) (a:List A0) (b:Nat) (d:Unit):Option (Lr Unit (Sum Unit Bool)):=Bka c a b (el a b)
def Arr (a:List A0) (b:List A0):Option Bool:=
 bif !decide ((a.length:Int)=(b.length:Int))then(Aa false)else(Ac (A2 (Bkb b a) (λf=>(.inl ())) a.length 0 ()) λd=>B2 (λe=>Aa true) (λc=>Aa c) d)
def Bu8:E Af:=en 93 [Ay5,Ay5,.fn 94 0] [Bz] (Bw Arr) func93 [Bu0] [Df 0 17 16 []]
def Ail (a:Aw) (b:Aw):Option Bool:=
 Ac (bif a.shut==b.shut then(Aa (decide (a.last=b.last)))else(Aa false)) λf=>Ac (bif f then(Ac (Arp a.Am b.Am) λe=>Aa e)else(Aa false)) λc=>Ac (bif c then(Ac (Arr a.Ax b.Ax) λg=>Aa g)else(Aa false)) λd=>Aa d
def A8q:E Af:=en 35 [Gq,Gq] [Bz] (Bw Ail) func35 [Bu5,Bu8]
def A27 (a:Ba) (b:Ba):Option Bool:=
 Ac (bif decide (a.Ah=b.Ah)then(Ac (O5 a.list b.list) λc=>Aa c)else(Aa false)) λd=>Aa d
def Buz:E Af:=en 37 [Ay6,Ay6] [Bz] (Bw A27) func37 [Y0]
def Bj8 (b:List Ba) (e:List Ba) (a:Nat) (d:Ba):Option (Lr Unit (Sum Unit Bool)):=
 xg (0<=(a:Int)/\(a:Int)<(b.length:Int))<|Ac (A27 d (el b a)) λc=>bif !c then(Aa (Lr.out (Bj false)))else(Aa (Lr.go ()))
def Bj9 (c:List Ba) (a:List Ba) (b:Nat) (d:Unit):Option (Lr Unit (Sum Unit Bool)):=Bj8 c a b (el a b)
def Arq (a:List Ba) (b:List Ba):Option Bool:=
 bif !decide ((a.length:Int)=(b.length:Int))then(Aa false)else(Ac (A2 (Bj9 b a) (λf=>(.inl ())) a.length 0 ()) λd=>B2 (λe=>Aa true) (λc=>Aa c) d)
def Bu7:E Af:=en 36 [Ay7,Ay7,.fn 37 0] [Bz] (Bw Arq) func36 [Buz] [Df 0 17 16 []]
def A29 (a:A4) (b:A4):Option Bool:=
 Ac (Aid a.c b.c) λi=>Ac (bif i then(Aa (decide (a.pc=b.pc)))else(Aa false)) λd=>Ac (bif d then(Aa (decide (a.inv=b.inv)))else(Aa false)) λe=>Ac (bif e then(Aa (decide (a.Bv=b.Bv)))else(Aa false)) λh=>Ac (bif h then(Aa (decide (a.Cl=b.Cl)))else(Aa false)) λg=>Ac (bif g then(Ac (N5 a.a b.a) λf=>Aa f)else(Aa false)) λj=>Aa j
def Bu1:E Af:=en 39 [W9,W9] [Bz] (Bw A29) func39 [Auh,A8m]
def Bkc (b:List A4) (e:List A4) (a:Nat) (c:A4):Option (Lr Unit (Sum Unit Bool)):=
 xg (0<=(a:Int)/\(a:Int)<(b.length:Int))<|Ac (A29 c (el b a)) λd=>bif !d then(Aa (Lr.out (Bj false)))else(Aa (Lr.go ()))
def Bkd (c:List A4) (a:List A4) (b:Nat) (d:Unit):Option (Lr Unit (Sum Unit Bool)):=Bkc c a b (el a b)
def Ars (a:List A4) (b:List A4):Option Bool:=
 bif !decide ((a.length:Int)=(b.length:Int))then(Aa false)else(Ac (A2 (Bkd b a) (λe=>(.inl ())) a.length 0 ()) λd=>B2 (λf=>Aa true) (λc=>Aa c) d)
def Bu9:E Af:=en 38 [Aoe,Aoe,.fn 39 0] [Bz] (Bw Ars) func38 [Bu1] [Df 0 17 16 []]
def S9 (a:Au) (b:Au):Option Bool:=
 Ac (Ail a.h b.h) λd=>Ac (bif d then(Ac (O5 a.Az b.Az) λk=>Aa k)else(Aa false)) λf=>Ac (bif f then(Ac (Arq a.An b.An) λe=>Aa e)else(Aa false)) λc=>Ac (bif c then(Ac (Ars a.Ag b.Ag) λi=>Aa i)else(Aa false)) λg=>Ac (bif g then(Aa (decide (a.step=b.step)))else(Aa false)) λj=>Aa j
def Bun:E Af:=en 8 [G6,G6] [Bz] (Bw S9) func8 [A8q,Bu7,Bu9,Y0]
def Bjj (m:List Cea) (n:Nat) (j:Cea) (b:List Cea) (d:Bool) (f:List Ao) (l:List A0) (i:Int) (g:List Int) (c:List Ba) (e:List A4) (k:Int):Option (Lr (List Cea×Bool×List Ao×List A0×Int×List Int×List Ba×List A4×Int) (List Cea×Bool×List Ao×List A0×Int×List Int×List Ba×List A4×Int)):=
 Ac (Xz (⟨(⟨d,f,l,i⟩:Aw),g,c,e,k⟩:Au) j) λa=>xg (b.length<1099511627776)<|some (Lr.go (b++[a.2],a.1.h.shut,a.1.h.Am,a.1.h.Ax,a.1.h.last,a.1.Az,a.1.An,a.1.Ag,a.1.step))
def A2i (c:List Cea) (b:Nat) (a:List Cea×Bool×List Ao×List A0×Int×List Int×List Ba×List A4×Int):Option (Lr (List Cea×Bool×List Ao×List A0×Int×List Int×List Ba×List A4×Int) (List Cea×Bool×List Ao×List A0×Int×List Int×List Ba×List A4×Int)):=Bjj c b (el c b) a.1 a.2.1 a.2.2.1 a.2.2.2.1 a.2.2.2.2.1 a.2.2.2.2.2.1 a.2.2.2.2.2.2.1 a.2.2.2.2.2.2.2.1 a.2.2.2.2.2.2.2.2
def Ais (e:Au) (d:List Cea):Option (Au×List Cea):=
 Ac (Qe e) λc=>Ac (A2 (A2i d) (λb=>(b.1,b.2.1,b.2.2.1,b.2.2.2.1,b.2.2.2.2.1,b.2.2.2.2.2.1,b.2.2.2.2.2.2.1,b.2.2.2.2.2.2.2.1,b.2.2.2.2.2.2.2.2)) d.length 0 ([],c.h.shut,c.h.Am,c.h.Ax,c.h.last,c.Az,c.An,c.Ag,c.step)) λa=>Aa ((⟨(⟨a.2.1,a.2.2.1,a.2.2.2.1,a.2.2.2.2.1⟩:Aw),a.2.2.2.2.2.1,a.2.2.2.2.2.2.1,a.2.2.2.2.2.2.2.1,a.2.2.2.2.2.2.2.2⟩:Au),a.1)
def Bt5:E Af:=en 9 [G6,Ac7] [P0,Xg] (Bw Ais) func9 [A8t,Yz] [Fb 0 16 15 [Ev 7 2,.box 6 0 [.sc 1,.row (.b 7),.row (.b 9),.sc 0,.row (.b 0),.row (.b 11),.row (.b 14),.sc 0]]]
def Aqb (x:Int):Option Bool:=
 Aa (!decide (x=x))
def Btc:E Af:=en 168 [B8] [Bz] (Bp Aqb) func168
def A13 (x:Int) (a:Int):Option Int:=
 Ac (Aqb x) λc=>Ac (Aqb a) λb=>bif c then(bif b then(Aa 0)else(Aa (-1)))else(bif b then(Aa 1)else(bif decide (x<a)then(Aa (-1))else(bif decide (a<x)then(Aa 1)else(Aa 0))))
def Btb:E Af:=en 98 [B8,B8] [C4] (Bw A13) func98 [Btc]
def Aqs (a:Int) (b:Int) (p:Au):Option Int:=
 xg (0<=a/\a<(p.Ag.length:Int))<|xg (0<=b/\b<(p.Ag.length:Int))<|Ac (A13 ((el p.Ag a.toNat).Bv) ((el p.Ag b.toNat).Bv)) λc=>Aa c
def Btz:E Af:=en 97 [B8,B8,.box .lo (.b 15)] [C4] (Jt Aqs) func97 [Btb]
def Bkh (a:Int) (c:Au) (b:Int) (d:List Int):Option (Lr (Int×List Int) (Int×List Int)):=
 bif decide (a<b)then(xg (0<=b/\b<(d.length:Int))<|xg (Aq (b-1))<|xg (0<=(b-1)/\(b-1)<(d.length:Int))<|Ac (Aqs (el d b.toNat) (el d ((b-1).toNat)) c) λe=>bif decide (e<0)then(xg (Aq (b-1))<|xg (Aq (b-1))<|xg (0<=(b-1)/\(b-1)<(d.length:Int))<|xg (0<=b/\b<(d.length:Int))<|xg (0<=b/\b<(d.length:Int))<|xg (0<=(b-1)/\(b-1)<((d.set b.toNat (el d ((b-1).toNat))).length:Int))<|xg (Aq (b-1))<|some (Lr.go (b-1,(d.set b.toNat (el d ((b-1).toNat))).set ((b-1).toNat) (el d b.toNat))))else(Aa (Lr.out (b,d))))else(Aa (Lr.out (b,d)))
def Arv (a:Int) (c:Au) (b:Int×List Int):Option (Lr (Int×List Int) (Int×List Int)):=Bkh a c b.1 b.2
def Bkg (b:Int) (a:Int) (c:Au) (d:Int) (e:List Int):Option (Lr (Int×List Int) (Int×List Int)):=
 bif decide (d<b)then(Ac (Cp (Arv a c) (d,e)) λf=>xg (Aq (d+1))<|some (Lr.go (d+1,f.2)))else(Aa (Lr.out (d,e)))
def A3t (b:Int) (a:Int) (c:Au) (d:Int×List Int):Option (Lr (Int×List Int) (Int×List Int)):=Bkg b a c d.1 d.2
def Aji (d:List Int) (a:Int) (b:Int) (c:Au):Option (List Int):=
 xg (Aq (a+1))<|Ac (Cp (A3t b a c) (a+1,d)) λe=>Aa e.2
def Bvg:E Af:=en 228 [Ay8,B8,B8,.fn 97 1,Ay9] [] (uc4 Aji) func228 [Btz] [E0 2 [Dw 9,J7 0 0],E0 0 [Dw 8,J7 0 0]]
def Bki (n:Int) (c:Au) (b:Int) (a:Int) (d:List Int):Option (Lr (Int×Int×List Int) (Int×Int×List Int)):=
 bif decide (a<=n)then(Ac (Aji d b a c) λe=>xg (Aq (a+20))<|some (Lr.go (a,a+20,e)))else(Aa (Lr.out (b,a,d)))
def A3v (n:Int) (c:Au) (a:Int×Int×List Int):Option (Lr (Int×Int×List Int) (Int×Int×List Int)):=Bki n c a.1 a.2.1 a.2.2
def Cd4 (n:Int) (blockSize231:Int) (b:Int) (a:Int):Option (Lr (Int×Int) (Int×Int)):=
 bif decide (a<=n)then(xg (Aq (b+blockSize231))<|none)else(Aa (Lr.out (b,a)))
def Cd5 (n:Int) (blockSize231:Int) (a:Int×Int):Option (Lr (Int×Int) (Int×Int)):=Cd4 n blockSize231 a.1 a.2
def Bkj (n:Int) (blockSize231:Int):Option (Lr Int Int):=
 bif decide (blockSize231<n)then(xg (Aq (2*blockSize231))<|Ac (Cp (Cd5 n blockSize231) (0,2*blockSize231)) λa=>xg (Aq (a.1+blockSize231))<|bif decide ((a.1+blockSize231)<n)then(Ab)else(xg (Aq (blockSize231*2))<|some (Lr.go (blockSize231*2))))else(Aa (Lr.out blockSize231))
def A3w (n:Int) (a:Int):Option (Lr Int Int):=Bkj n a
def A3u (b:List Int) (n:Int) (c:Au):Option (List Int):=
 Ac (Cp (A3v n c) (0,20,b)) λa=>Ac (Aji a.2.2 a.1 n c) λd=>Ac (Cp (A3w n) 20) λe=>Aa d
def Bvh:E Af:=en 167 [Ay8,B8,.fn 97 1,Ay9] [] (Jt A3u) func167 [Bvg] [E0 0 [Dw 7,Dw 8,J7 0 0],E0 4 [Dw 7,Dw 8],E0 2 [Dw 6]]
def Aru (x:List Int) (c:Au):Option (List Int):=
 Ac (A3u x (x.length:Int) c) λa=>Aa a
def Bvf:E Af:=en 96 [Ay8,.fn 97 1,Ay9] [] (Bw Aru) func96 [Bvh]
def Bjg (d:Au) (c:Nat) (b:A4) (a:List Int):Option (Lr (List Int) (List Int)):=
 bif !decide ((b.Bv)=(-1))then(xg (a.length<1099511627776)<|some (Lr.go (a++[(c:Int)])))else(Aa (Lr.go a))
def Aqt (a:Au) (b:Nat) (c:List Int):Option (Lr (List Int) (List Int)):=Bjg a b (el a.Ag b) c
def Aqr (a:Au):Option (List Int):=
 Ac (A2 (Aqt a) (λc=>c) a.Ag.length 0 []) λb=>Ac (Aru b a) λd=>Aa d
def Bty:E Af:=en 40 [G6] [M7] (Bp Aqr) func40 [Bvf] [Fb 0 9 8 [Ev 3 0]]
def A14 (a:A4) (b:A4):Option Bool:=
 Ac (bif !decide (a.Cl=(-1))then(Aa (decide (a.Cl<b.inv)))else(Aa false)) λc=>Aa c
def Btd:E Af:=en 41 [W9,W9] [Bz] (Bw A14) func41
def Bi5 (l:List Bb) (h:Nat) (c:Bb) (b:List Bi) (e:Bool) (g:List Ao) (f:List A0) (d:Int):Option (Lr (List Bi×Bool×List Ao×List A0×Int) (List Bi×Bool×List Ao×List A0×Int)):=
 Ac (Aif (⟨e,g,f,d⟩:Aw) c) λa=>xg (b.length<1099511627776)<|some (Lr.go (b++[a.2],a.1.shut,a.1.Am,a.1.Ax,a.1.last))
def A17 (l:List Bb) (b:Nat) (a:List Bi×Bool×List Ao×List A0×Int):Option (Lr (List Bi×Bool×List Ao×List A0×Int) (List Bi×Bool×List Ao×List A0×Int)):=Bi5 l b (el l b) a.1 a.2.1 a.2.2.1 a.2.2.2.1 a.2.2.2.2
def Aqe (h:Aw) (l:List Bb):Option (Aw×List Bi):=
 Ac (Hj h) λc=>Ac (A2 (A17 l) (λb=>(b.1,b.2.1,b.2.2.1,b.2.2.2.1,b.2.2.2.2)) l.length 0 ([],c.shut,c.Am,c.Ax,c.last)) λa=>Aa ((⟨a.2.1,a.2.2.1,a.2.2.2.1,a.2.2.2.2⟩:Aw),a.1)
def Btg:E Af:=en 42 [Gq,.val false (.sl (.b 12))] [Ls,⟨true,.sl (.b 13),false⟩] (Bw Aqe) func42 [A8o,Ub] [Fb 0 16 15 [Ev 7 13,.box 6 0 [.sc 1,.row (.b 7),.row (.b 9),.sc 0]]]
def Bja (d:List Int) (e:Nat) (b:Au) (h:Nat) (f:Int):Option (Lr Unit (Sum Unit Bool)):=
 xg (0<=(el d e)/\(el d e)<(b.Ag.length:Int))<|xg (0<=f/\f<(b.Ag.length:Int))<|Ac (A14 (⟨(⟨(el b.Ag ((el d e).toNat)).c.kind,(el b.Ag ((el d e).toNat)).c.Ah,(el b.Ag ((el d e).toNat)).c.Al,(el b.Ag ((el d e).toNat)).c.seq,(el b.Ag ((el d e).toNat)).c.n,(el b.Ag ((el d e).toNat)).c.o,(el b.Ag ((el d e).toNat)).c.text⟩:Bb),(el b.Ag ((el d e).toNat)).pc,(el b.Ag ((el d e).toNat)).inv,(el b.Ag ((el d e).toNat)).Bv,(el b.Ag ((el d e).toNat)).Cl,(⟨(el b.Ag ((el d e).toNat)).a.code,(el b.Ag ((el d e).toNat)).a.rev,(el b.Ag ((el d e).toNat)).a.text,(el b.Ag ((el d e).toNat)).a.list⟩:Bi)⟩:A4) (⟨(⟨(el b.Ag (f.toNat)).c.kind,(el b.Ag (f.toNat)).c.Ah,(el b.Ag (f.toNat)).c.Al,(el b.Ag (f.toNat)).c.seq,(el b.Ag (f.toNat)).c.n,(el b.Ag (f.toNat)).c.o,(el b.Ag (f.toNat)).c.text⟩:Bb),(el b.Ag (f.toNat)).pc,(el b.Ag (f.toNat)).inv,(el b.Ag (f.toNat)).Bv,(el b.Ag (f.toNat)).Cl,(⟨(el b.Ag (f.toNat)).a.code,(el b.Ag (f.toNat)).a.rev,(el b.Ag (f.toNat)).a.text,(el b.Ag (f.toNat)).a.list⟩:Bi)⟩:A4)) λg=>bif g then(Aa (Lr.out (Bj false)))else(Aa (Lr.go ()))
def Bjc (a:List Int) (b:Nat) (d:Au) (c:Nat) (e:Unit):Option (Lr Unit (Sum Unit Bool)):=Bja a b d c (el ((a.take b).drop 0) c)
def Bi9 (b:Au) (e:List Int) (d:Nat) (a:Int) (f:List Bb):Option (Lr (List Bb) (Sum (List Bb) Bool)):=
 xg (0<=a/\a<(b.Ag.length:Int))<|xg (f.length<1099511627776)<|xg (0<=(d:Int)/\(d:Int)<=(e.length:Int))<|Ac (A2 (Bjc e d b) (λj=>(.inl ())) ((e.take d).drop 0).length 0 ()) λh=>B2 (λi=>Aa (Lr.go (f++[(⟨(el b.Ag (a.toNat)).c.kind,(el b.Ag (a.toNat)).c.Ah,(el b.Ag (a.toNat)).c.Al,(el b.Ag (a.toNat)).c.seq,(el b.Ag (a.toNat)).c.n,(el b.Ag (a.toNat)).c.o,(el b.Ag (a.toNat)).c.text⟩:Bb)]))) (λg=>Aa (Lr.out (Bj g))) h
def Aqn (d:Au) (a:List Int) (b:Nat) (c:List Bb):Option (Lr (List Bb) (Sum (List Bb) Bool)):=Bi9 d a b (el a b) c
def Bjb (e:Aw×List Bi) (c:Au) (g:List Int) (d:Nat) (b:Int):Option (Lr Unit (Sum Unit Bool)):=
 xg (0<=(d:Int)/\(d:Int)<(e.2.length:Int))<|xg (0<=b/\b<(c.Ag.length:Int))<|Ac (N5 (el e.2 d) (⟨(el c.Ag (b.toNat)).a.code,(el c.Ag (b.toNat)).a.rev,(el c.Ag (b.toNat)).a.text,(el c.Ag (b.toNat)).a.list⟩:Bi)) λf=>bif !f then(Aa (Lr.out (Bj false)))else(Aa (Lr.go ()))
def Bjd (d:Aw×List Bi) (c:Au) (a:List Int) (b:Nat) (e:Unit):Option (Lr Unit (Sum Unit Bool)):=Bjb d c a b (el a b)
def Aip (h:Aw) (a:Au):Option Bool:=
 Ac (Mk h) λl=>Ac (bif !l then(Aa true)else(Ac (Qc a) λm=>Aa (!m))) λi=>bif i then(Aa false)else(Ac (Aqr a) λb=>Ac (A2 (Aqn a b) (λd=>(.inl d)) b.length 0 []) λf=>B2 (λg=>Ac (Aqe h g) λc=>Ac (A2 (Bjd c a b) (λp=>(.inl ())) b.length 0 ()) λj=>B2 (λo=>Ac (Ail c.1 a.h) λe=>Aa e) (λk=>Aa k) j) (λn=>Aa n) f)
def Btv:E Af:=en 10 [Gq,G6] [Bz] (Bw Aip) func10 [Btd,Auh,Btg,Ua,A8q,Bty,We] [Df 2 45 44 [],Df 0 27 26 [.slot 6 (.C9 (.b 12))],Df 4 70 69 []]
def Bi3 (e:Au) (f:Nat) (d:A4) (a:List Cea):Option (Lr (List Cea) (List Cea)):=
 Ac (O2 (d.c)) λb=>xg (a.length<1099511627776)<|some (Lr.go (a++[b]))
def Bi4 (a:Au) (b:Nat) (c:List Cea):Option (Lr (List Cea) (List Cea)):=Bi3 a b (el a.Ag b) c
def Aie (a:Au):Option (List Cea):=
 Ac (A2 (Bi4 a) (λc=>c) a.Ag.length 0 []) λb=>Aa b
def Bte:E Af:=en 11 [G6] [Xg] (Bp Aie) func11 [A8n] [Fb 0 9 8 [Ev 3 2]]
def Aqw (a:Int):Option Cea:=
 Ac (Da a 0 4) λb=>bif !b then(Aa (⟨#[]⟩:Cea))else(xg (0<=a/\a<([(⟨#[115,116,97,114,116]⟩:Cea),(⟨#[108,111,99,107,101,100]⟩:Cea),(⟨#[119,97,105,116]⟩:Cea),(⟨#[115,101,110,100]⟩:Cea),(⟨#[100,111,110,101]⟩:Cea)].length:Int))<|some (el [(⟨#[115,116,97,114,116]⟩:Cea),(⟨#[108,111,99,107,101,100]⟩:Cea),(⟨#[119,97,105,116]⟩:Cea),(⟨#[115,101,110,100]⟩:Cea),(⟨#[100,111,110,101]⟩:Cea)] a.toNat))
def Bt3:E Af:=en 107 [B8] [Hr] (Bp Aqw) func107 [I8]
def Aqu (a:Int):Option Cea:=
 Ac (Da a 0 12) λb=>bif !b then(Aa (⟨#[]⟩:Cea))else(xg (0<=a/\a<([(⟨#[111,107]⟩:Cea),(⟨#[105,110,118,97,108,105,100]⟩:Cea),(⟨#[102,117,116,117,114,101]⟩:Cea),(⟨#[111,108,100]⟩:Cea),(⟨#[115,101,113]⟩:Cea),(⟨#[108,97,114,103,101]⟩:Cea),(⟨#[110,111,100,111,99]⟩:Cea),(⟨#[104,97,118,101]⟩:Cea),(⟨#[110,111,115,117,98]⟩:Cea),(⟨#[101,118,105,99,116,101,100]⟩:Cea),(⟨#[102,117,108,108]⟩:Cea),(⟨#[98,117,115,121]⟩:Cea),(⟨#[99,108,111,115,101,100]⟩:Cea)].length:Int))<|some (el [(⟨#[111,107]⟩:Cea),(⟨#[105,110,118,97,108,105,100]⟩:Cea),(⟨#[102,117,116,117,114,101]⟩:Cea),(⟨#[111,108,100]⟩:Cea),(⟨#[115,101,113]⟩:Cea),(⟨#[108,97,114,103,101]⟩:Cea),(⟨#[110,111,100,111,99]⟩:Cea),(⟨#[104,97,118,101]⟩:Cea),(⟨#[110,111,115,117,98]⟩:Cea),(⟨#[101,118,105,99,116,101,100]⟩:Cea),(⟨#[102,117,108,108]⟩:Cea),(⟨#[98,117,115,121]⟩:Cea),(⟨#[99,108,111,115,101,100]⟩:Cea)] a.toNat))
def Bt0:E Af:=en 108 [B8] [Hr] (Bp Aqu) func108 [I8]
def Ad5 (t:A4):Option Cea:=
 Ac (Xv t.c.kind) λb=>xg (b.size+(⟨#[32]⟩:Cea).size<=9223372036854775807)<|Ac (Aqw t.pc) λd=>xg ((b++(⟨#[32]⟩:Cea)).size+d.size<=9223372036854775807)<|Ac (bif decide (t.pc=3)then(Aa true)else(Aa (decide (t.pc=4)))) λf=>bif f then(Ac (Aqu t.a.code) λe=>xg ((⟨#[32]⟩:Cea).size+e.size<=9223372036854775807)<|xg (((b++(⟨#[32]⟩:Cea))++d).size+((⟨#[32]⟩:Cea)++e).size<=9223372036854775807)<|some (((b++(⟨#[32]⟩:Cea))++d)++((⟨#[32]⟩:Cea)++e)))else(Aa ((b++(⟨#[32]⟩:Cea))++d))
def Bui:E Af:=en 46 [W9] [Hr] (Bp Ad5) func46 [Aui,Bt0,Bt3]
def Bjn (d:Au) (e:Nat) (c:Int) (a:Cea):Option (Lr Cea Cea):=
 bif decide (c=(-1))then(xg (a.size+(⟨#[108,111,99,107,32,45,10]⟩:Cea).size<=9223372036854775807)<|some (Lr.go (a++(⟨#[108,111,99,107,32,45,10]⟩:Cea))))else(Ac (Gj c) λb=>xg ((⟨#[108,111,99,107,32]⟩:Cea).size+b.size<=9223372036854775807)<|xg (((⟨#[108,111,99,107,32]⟩:Cea)++b).size+(⟨#[10]⟩:Cea).size<=9223372036854775807)<|xg (a.size+(((⟨#[108,111,99,107,32]⟩:Cea)++b)++(⟨#[10]⟩:Cea)).size<=9223372036854775807)<|some (Lr.go (a++(((⟨#[108,111,99,107,32]⟩:Cea)++b)++(⟨#[10]⟩:Cea)))))
def Aq9 (a:Au) (b:Nat) (c:Cea):Option (Lr Cea Cea):=Bjn a b (el a.Az b) c
def Bjp (f:Au) (e:Nat) (d:Nat) (c:Int) (b:Cea):Option (Lr Cea Cea):=
 Ac (Gj c) λa=>xg ((⟨#[32]⟩:Cea).size+a.size<=9223372036854775807)<|xg (b.size+((⟨#[32]⟩:Cea)++a).size<=9223372036854775807)<|some (Lr.go (b++((⟨#[32]⟩:Cea)++a)))
def A2u (b:Au) (a:Nat) (c:Nat) (d:Cea):Option (Lr Cea Cea):=Bjp b a c (el ((el b.An a).list) c) d
def Bjo (e:Au) (d:Nat) (a:Ba) (b:Cea):Option (Lr Cea Cea):=
 xg ((⟨#[113,117,101,117,101,32]⟩:Cea).size+(a.Ah).size<=9223372036854775807)<|xg (b.size+((⟨#[113,117,101,117,101,32]⟩:Cea)++(a.Ah)).size<=9223372036854775807)<|Ac (A2 (A2u e d) (λf=>f) (a.list).length 0 (b++((⟨#[113,117,101,117,101,32]⟩:Cea)++(a.Ah)))) λc=>xg (c.size+(⟨#[10]⟩:Cea).size<=9223372036854775807)<|some (Lr.go (c++(⟨#[10]⟩:Cea)))
def Ara (b:Au) (a:Nat) (c:Cea):Option (Lr Cea Cea):=Bjo b a (el b.An a) c
def Bjq (d:Au) (e:Nat) (c:A4) (b:Cea):Option (Lr Cea Cea):=
 Ac (Ad5 c) λa=>xg (a.size+(⟨#[10]⟩:Cea).size<=9223372036854775807)<|xg (b.size+(a++(⟨#[10]⟩:Cea)).size<=9223372036854775807)<|some (Lr.go (b++(a++(⟨#[10]⟩:Cea))))
def Arb (a:Au) (b:Nat) (c:Cea):Option (Lr Cea Cea):=Bjq a b (el a.Ag b) c
def Ai2 (a:Au):Option Cea:=
 Ac (Qc a) λd=>bif !d then(Aa (⟨#[]⟩:Cea))else(Ac (Gj a.step) λb=>xg ((⟨#[115,116,101,112,32]⟩:Cea).size+b.size<=9223372036854775807)<|xg (((⟨#[115,116,101,112,32]⟩:Cea)++b).size+(⟨#[10]⟩:Cea).size<=9223372036854775807)<|Ac (A2 (Aq9 a) (λg=>g) a.Az.length 0 (((⟨#[115,116,101,112,32]⟩:Cea)++b)++(⟨#[10]⟩:Cea))) λf=>Ac (A2 (Ara a) (λe=>e) a.An.length 0 f) λh=>Ac (A2 (Arb a) (λc=>c) a.Ag.length 0 h) λi=>Aa i)
def Buo:E Af:=en 12 [G6] [Hr] (Bp Ai2) func12 [Afv,Bui,We] [Fb 0 23 22 [Sd 3 2],Fb 4 53 52 [Sd 3 2],Fb 2 41 40 [Sd 3 2],Fb 6 69 68 [Sd 3 2]]
def A3c (q:List Cea) (r:Nat) (n:Cea) (g:List Cea) (j:Bool) (c:List Ao) (b:List A0) (k:Int) (f:List Int) (d:List Ba) (e:List A4) (i:Int):Option (Lr (List Cea×Bool×List Ao×List A0×Int×List Int×List Ba×List A4×Int) (Sum (List Cea×Bool×List Ao×List A0×Int×List Int×List Ba×List A4×Int) Unit)):=
 Ac (Xz (⟨(⟨j,c,b,k⟩:Aw),f,d,e,i⟩:Au) n) λa=>Ac (Qc a.1) λo=>Ac (bif !o then(Aa true)else(Ac (bif !decide (a.2=(⟨#[111,107]⟩:Cea))then(Ac (S9 a.1 (⟨(⟨j,c,b,k⟩:Aw),f,d,e,i⟩:Au)) λp=>Aa (!p))else(Aa false)) λl=>Aa l)) λm=>bif m then(Aa (Lr.out (Bj (()))))else(xg (g.length<1099511627776)<|some (Lr.go (g++[a.2],a.1.h.shut,a.1.h.Am,a.1.h.Ax,a.1.h.last,a.1.Az,a.1.An,a.1.Ag,a.1.step)))
def Ajd (b:List Cea) (c:Nat) (a:List Cea×Bool×List Ao×List A0×Int×List Int×List Ba×List A4×Int):Option (Lr (List Cea×Bool×List Ao×List A0×Int×List Int×List Ba×List A4×Int) (Sum (List Cea×Bool×List Ao×List A0×Int×List Int×List Ba×List A4×Int) Unit)):=A3c b c (el b c) a.1 a.2.1 a.2.2.1 a.2.2.2.1 a.2.2.2.2.1 a.2.2.2.2.2.1 a.2.2.2.2.2.2.1 a.2.2.2.2.2.2.2.1 a.2.2.2.2.2.2.2.2
def A3d (b:List Cea×Bool×List Ao×List A0×Int×List Int×List Ba×List A4×Int) (d:Au×List Cea) (a:Nat) (c:Cea):Option (Lr Unit (Sum Unit Bool)):=
 xg (0<=(a:Int)/\(a:Int)<(b.1.length:Int))<|bif !decide (c=el b.1 a)then(Aa (Lr.out (Bj (false))))else(Aa (Lr.go ()))
def A3e (c:List Cea×Bool×List Ao×List A0×Int×List Int×List Ba×List A4×Int) (b:Au×List Cea) (a:Nat) (d:Unit):Option (Lr Unit (Sum Unit Bool)):=A3d c b a (el b.2 a)
def Aea (f:List UInt8):Option Bool:=
 bif decide ((1048576:Int)<(f.length:Int))then(Aa true)else(Ac (Ajr f) λa=>Ac (Ajq f a.2) λe=>Ac (A2 (Ajd e) (λc=>(.inl (c.1,c.2.1,c.2.2.1,c.2.2.2.1,c.2.2.2.2.1,c.2.2.2.2.2.1,c.2.2.2.2.2.2.1,c.2.2.2.2.2.2.2.1,c.2.2.2.2.2.2.2.2))) e.length 0 ([],a.2.h.shut,a.2.h.Am,a.2.h.Ax,a.2.h.last,a.2.Az,a.2.An,a.2.Ag,a.2.step)) λp=>B2 (λb=>Ac (Ais a.2 e) λd=>Ac (bif !decide ((d.2.length:Int)=(b.1.length:Int))then(Aa true)else(Ac (S9 d.1 (⟨(⟨b.2.1,b.2.2.1,b.2.2.2.1,b.2.2.2.2.1⟩:Aw),b.2.2.2.2.2.1,b.2.2.2.2.2.2.1,b.2.2.2.2.2.2.2.1,b.2.2.2.2.2.2.2.2⟩:Au)) λk=>Aa (!k))) λq=>bif q then(Aa false)else(Ac (A2 (A3e b d) (λs=>(.inl ())) d.2.length 0 ()) λl=>B2 (λt=>Ac (Aip a.1 d.1) λn=>Ac (bif n then(Ac (Aie d.1) λj=>Aa (decide ((j.length:Int)=(d.1.Ag.length:Int))))else(Aa false)) λo=>Ac (bif o then(Ac (Ai2 d.1) λi=>Aa (!decide (i=(⟨#[]⟩:Cea))))else(Aa false)) λg=>Aa g) (λm=>Aa m) l)) (λr=>Aa false) p)
def Bni (q:List Cea) (r:Nat) (m:Cea) (d:List Cea) (k:Bool) (g:List Ao) (c:List A0) (e:Int) (j:List Int) (i:List Ba) (b:List A4) (f:Int):Option (Lr (List Cea×Bool×List Ao×List A0×Int×List Int×List Ba×List A4×Int) (Sum (List Cea×Bool×List Ao×List A0×Int×List Int×List Ba×List A4×Int) Bool)):=
 Ac (Xz (⟨(⟨k,g,c,e⟩:Aw),j,i,b,f⟩:Au) m) λa=>Ac (Qc a.1) λp=>Ac (bif !p then(Aa true)else(Ac (bif !decide (a.2=(⟨#[111,107]⟩:Cea))then(Ac (S9 a.1 (⟨(⟨k,g,c,e⟩:Aw),j,i,b,f⟩:Au)) λo=>Aa (!o))else(Aa false)) λl=>Aa l)) λn=>bif n then(Aa (Lr.out (Bj false)))else(xg (d.length<1099511627776)<|some (Lr.go (d++[a.2],a.1.h.shut,a.1.h.Am,a.1.h.Ax,a.1.h.last,a.1.Az,a.1.An,a.1.Ag,a.1.step)))
def Bnk (c:List Cea) (b:Nat) (a:List Cea×Bool×List Ao×List A0×Int×List Int×List Ba×List A4×Int):Option (Lr (List Cea×Bool×List Ao×List A0×Int×List Int×List Ba×List A4×Int) (Sum (List Cea×Bool×List Ao×List A0×Int×List Int×List Ba×List A4×Int) Bool)):=Bni c b (el c b) a.1 a.2.1 a.2.2.1 a.2.2.2.1 a.2.2.2.2.1 a.2.2.2.2.2.1 a.2.2.2.2.2.2.1 a.2.2.2.2.2.2.2.1 a.2.2.2.2.2.2.2.2
def Bnj (b:List Cea×Bool×List Ao×List A0×Int×List Int×List Ba×List A4×Int) (d:Au×List Cea) (a:Nat) (c:Cea):Option (Lr Unit (Sum Unit Bool)):=
 xg (0<=(a:Int)/\(a:Int)<(b.1.length:Int))<|bif !decide (c=el b.1 a)then(Aa (Lr.out (Bj false)))else(Aa (Lr.go ()))
def Bnl (c:List Cea×Bool×List Ao×List A0×Int×List Int×List Ba×List A4×Int) (a:Au×List Cea) (b:Nat) (d:Unit):Option (Lr Unit (Sum Unit Bool)):=Bnj c a b (el a.2 b)
def Bnh (f:List UInt8):Option Bool:=
 bif decide ((1048576:Int)<(f.length:Int))then(Aa true)else(Ac (Ajr f) λa=>Ac (Ajq f a.2) λe=>Ac (A2 (Bnk e) (λc=>(.inl (c.1,c.2.1,c.2.2.1,c.2.2.2.1,c.2.2.2.2.1,c.2.2.2.2.2.1,c.2.2.2.2.2.2.1,c.2.2.2.2.2.2.2.1,c.2.2.2.2.2.2.2.2))) e.length 0 ([],a.2.h.shut,a.2.h.Am,a.2.h.Ax,a.2.h.last,a.2.Az,a.2.An,a.2.Ag,a.2.step)) λk=>B2 (λb=>Ac (Ais a.2 e) λd=>Ac (bif !decide ((d.2.length:Int)=(b.1.length:Int))then(Aa true)else(Ac (S9 d.1 (⟨(⟨b.2.1,b.2.2.1,b.2.2.2.1,b.2.2.2.2.1⟩:Aw),b.2.2.2.2.2.1,b.2.2.2.2.2.2.1,b.2.2.2.2.2.2.2.1,b.2.2.2.2.2.2.2.2⟩:Au)) λj=>Aa (!j))) λq=>bif q then(Aa false)else(Ac (A2 (Bnl b d) (λs=>(.inl ())) d.2.length 0 ()) λr=>B2 (λt=>Ac (Aip a.1 d.1) λi=>Ac (bif i then(Ac (Aie d.1) λn=>Aa (decide ((n.length:Int)=(d.1.Ag.length:Int))))else(Aa false)) λo=>Ac (bif o then(Ac (Ai2 d.1) λl=>Aa (!decide (l=(⟨#[]⟩:Cea))))else(Aa false)) λg=>Aa g) (λp=>Aa p) r)) (λm=>Aa m) k)
def e_laws_FnPlay:E Af:=en 3 [Aoa] [Bz] (Bp Aea) func3 [Bte,Btv,Bt5,A8t,We,Bun,Buo,Bvp,Bvq] [Df 0 30 29 [Ev 7 2,.box 6 0 [.sc 1,.ro (.b 7),.ro (.b 9),.sc 0,.ro (.b 0),.ro (.b 11),.ro (.b 14),.sc 0]],Df 2 78 77 []] (hx:=λa=>Eq.trans (b:=Bnh a.1) (by kernel_rfl) (show _=Aea a.1 by simp only[A3c,Ajd,A3d,A3e,Aea,Bni,Bnk,Bnj,Bnl,Bnh,Dv,D8,D3,D5,D2,D4,cond_true,cond_false,D9,Ea,D6,D7]<;>rfl))
end
section
open Go.RowKit
theorem Bss w X S d (s_code:Sv) (K:SX X S w) (hT:rTab.ok S w) (hU:rMax.ok S w) (hE:rErr.ok S w) (a_code_0:(Ar 1 fY d).rd S w s_code.v) (O:Sep [] X w){r} (hx:Aea d=Aa r):Ret prog 3 [s_code.v] w (KV X S w (bv r)):=by
 have h:=e_laws_FnPlay.h w X S ((d,()):PArgs e_laws_FnPlay.c.ps) [s_code.v] [] [] r (Gr.ro (t:=.sl (.b 3)) (vs:=[s_code.v]) ⟨s_code.v,[],rfl,a_code_0,rfl⟩ Gr.nil) O K (λq k=>by
   simp only[Af,Bq,Ae3,or_false]at k;rcases k with rfl|rfl|rfl<;>assumption) hx
 refine h.mono λu w' ⟨vs,m,V,hu,I,H⟩=>?_;obtain⟨f,lsO,o,p,x,y,z,e2,j,A,e5⟩:=I;have e:[[A5.b r]]=f++lsO:=z;cases lsO with
 |cons a l=>exact j.elim
 |nil=>
  rw[Hu]at e;subst e;obtain⟨N,o2⟩:=j;obtain⟨i,g,n,s,Y,B,f2,⟨g1,g2,g3⟩,⟨C,D⟩,G,f6⟩:=e2;match i,B with
  |[v],_=>subst g1 g2 g3 D C G N A;obtain⟨R,F,T,U,_⟩:=H;obtain⟨P,F1,W,Q,_⟩:=T;have M:v=.bool r:=Q.1;subst M;exact⟨(),hu,R,F,P,U,λ_ L=>by cases L⟩
end
end
end Go.Proofs.YtbbefmccoomfhaaGreatDoor
