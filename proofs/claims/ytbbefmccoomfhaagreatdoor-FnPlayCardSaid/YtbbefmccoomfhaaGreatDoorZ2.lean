/- Part 2 of the proof: lemmas. No condition. -/
import Derived.Laws.BytesString
import Derived.Laws.IdiomStrings
import Derived.WideLaws
import Derived.Great.FillDense
import Derived.Test.YtbbefmccoomfhaaGreatDoorZ1
open Option renaming some->Aa,none->Ab,bind->Ac,bind_some->Ad,map_eq_some_iff->Di,some->D1,map_some->Pc,isSome_none->Tv,map_none->Tw
open List renaming mem_cons_of_mem->Bf,mem_cons_self->Bm,mem_cons->Bq,length_append->Bt,length_cons->B5,append_assoc->Ci,perm_middle->Ct,length_take->Dh,length_drop->D0,mem_append->Ei,replicate->Ey,map_cons->Fa,all_eq_true->Ff,cons_append->Fi,length_set->Ft,foldl_cons->Fx,flatMap_cons->F4,mem_append_right->F5,perm_append_comm->Gg,length_map->Gz,take_length->Hd,append_nil->Hu,mem_append_left->Hv,flatMap_append->H2,getElem?_eq_some_iff->H3,nil_append->Iu,eq_nil_of_length_eq_zero->I4,take_append_drop->Kk,all_cons->K5,getElem?_drop->K6,mem_map->K7,drop_drop->Mq,drop_zero->Nh,getElem?_append_left->Nj,getElem?_take->Nk,toArray->Pa,size_toArray->Qk,foldl_nil->Tq,getElem?_append_right->Tr,map_map->V2,drop_take->Yd,getElem?_map->Abi,perm_append_comm_assoc->Abm,tail_cons->Ae6,take_take->Ae8,getElem?_toArray->Ata,mapM_cons->A6a,map_set->A6c,set_set->A6i,take_zero->A6o,zipIdx_cons->A6p,getElem?_append->Bq5
open Int renaming toNat_of_nonneg->A5w
open Nat renaming beq->Ay,eq_of_beq_eq_true->Br,blt->C1,zero_le->Dk,ble->Dm,le_refl->Ef,add_assoc->Er,mul_le_mul_right->E4,add_mul->Gk,sub_mul->I5,lt_of_lt_of_le->K8,zero_mul->K9,zero_add->L3,le_succ->N8,min_eq_left->Pb,le_of_ble_eq_true->Ql,mul_le_mul->Rw,lt_or_ge->Tt,le_trans->V6,add_comm->Yf,one_mul->Yg,add_zero->Ae9,ble_eq_true_of_le->Afa,lt_irrefl->Aku,mul_one->Akx,sub_zero->Aky,add_sub_cancel_left->Atk
open Bool renaming and_eq_true->A9,or_eq_true->Ha,or_eq_false_iff->Il,false_eq_true->I3,true_and->K1
open UInt8 renaming ofNat->Tx,toNat_ofNat'->Atp
open Array renaming length_toList->Ew,getElem?_toList->Qi,range->Vw,size_append->Vx,ext'->Ast,ext_getElem?->A5q,foldl_toList->Bqt,toList_zipIdx->Bqy
open Sum renaming elim->B2
namespace Go.Proofs.YtbbefmccoomfhaaGreatDoor
set_option linter.unusedVariables false
set_option linter.unusedSimpArgs false
open Tryz
noncomputable section
section
open Go.RowKit
section
variable {R:Type}
def CT.ty:CT->Ty
 |.sc n=>.b n
 |.row t=>.sl t
 |.ro t=>.sl t
 |.C9 t=>.sl t
 |.nl=>.b 0
def CT.isNl:CT->Bool
 |.nl=>true
 |_=>false
def S4:List CT->List Ty
 |[]=>[]
 |c::cs=>bif c.isNl then S4 cs else c.ty::S4 cs
def VK.tys:VK->List Ty
 |.slot _ c=>[c.ty]
 |.Qs _ t=>[.sl t]
 |.box _ _ cs=>S4 cs
def Aao:List VK->List Ty
 |[]=>[]
 |v::r=>v.tys++Aao r
def Y6 (c:CT) (x:Cell) (st:Ai):Option (A5×Ai):=match c with
 |.sc n=>(Ado (.b n) x).map λl=>(l,st)
 |.row t=>(Agy (.sl t) x st.own).map λp=>(p.1, {st with own:=p.2})
 |.ro t=>match x with
  |.nil=>Aa (.sl t [],st)
  |.sl h=>match Jq h st.own with
   |some p=>Aa (.sl p.1.t p.1.L, {st with own:=p.2})
   |none=>match Nb h st.own with
    |some p=>Aa (.sl p.1.t p.1.L, {st with own:=p.2})
    |none=>(Ob h st.Bg).map λc=>(.sl c.t c.L,st)
  |_=>Ab
 |.C9 t=>match x with
  |.nil=>Aa (.sl t [],st)
  |.sl h=>match Nb h st.own with
   |some p=>Aa (.sl p.1.t p.1.L, {st with own:=p.2})
   |none=>(Jq h st.own).map λp=>(.sl p.1.t p.1.L, {st with own:=p.2})
  |_=>Ab
 |.nl=>Ab
def Af5:List CT->List Cell->Ai->Option (List A5×Ai)
 |[],[],st=>Aa ([],st)
 |c::cs,x::xs,st=>bif c.isNl then(match x with
   |.nil=>Af5 cs xs st
   |_=>Ab)else Ac (Y6 c x st) λp=>Ac (Af5 cs xs p.2) λq=>Aa (p.1::q.1,q.2)
 |_,_,_=>Ab
def Agl (e:List (Nat×Option SV)) (s k:Nat):Option Nat:=match Bo e s with
 |some (.v (.c (.ptr h o)))=>bif Ay k 0&&Ay o 0 then Aa h else Ab
 |some (.v (.c (.fn _ Bu)))=>match k with
  |0=>Ab
  |k+1=>match nth Bu k with
   |some (h,o)=>bif Ay o 0 then Aa h else Ab
   |none=>Ab
 |_=>Ab
def Mv (e:List (Nat×Option SV)):List VK->Ai->Option (List A5×Ai)
 |[],st=>Aa ([],st)
 |.slot s c::r,st=>match Bo st.env s with
  |some (.v (.c x))=>Ac (Y6 c x st) λp=>Ac (Mv e r p.2) λq=>Aa (p.1::q.1,q.2)
  |_=>Ab
 |.Qs s _::r,st=>match Bo e s with
  |some (.v (.c (.sl h)))=>Ac (Jq h st.own) λp=>Ac (Mv e r {st with own:=p.2}) λq=>Aa (.sl p.1.t p.1.L::q.1,q.2)
  |_=>Ab
 |.box s k cs::r,st=>match Agl e s k with
  |some h=>Ac (Qo h st.own) λp=>Ac (Af5 cs p.1 {st with own:=p.2}) λq=>Ac (Mv e r q.2) λz=>Aa (q.1++z.1,z.2)
  |none=>Ab
def Fl (c:CT) (l:A5) (st:Ai):Cell×Ai:=match l with
 |.i n=>(.i .i64 n,st)
 |.b n=>(.b n,st)
 |.s n=>(.s n,st)
 |.y n=>(.y n,st)
 |.sl t L=>match c with
  |.ro _=>(.sl st.Ak, {st with Bg:=⟨st.Ak,t,L,.no⟩::st.Bg,Ak:=st.Ak+1})
  |.C9 _=>(.sl st.Ak, {st with own:=.C9 st.Ak st.Ak t L::st.own,Ak:=st.Ak+1})
  |_=>(.sl st.Ak, {st with own:=.row st.Ak st.Ak t L []::st.own,Ak:=st.Ak+1})
def G4:List CT->List A5->Ai->List Cell×Ai
 |[],_,st=>([],st)
 |c::cs,ls,st=>bif c.isNl then(let q:=G4 cs ls st;(.nil::q.1,q.2))else(match ls with
   |l::ls=>let p:=Fl c l st;let q:=G4 cs ls p.2;(p.1::q.1,q.2)
   |[]=>([],st))
def Ko (e:List (Nat×Option SV)):List VK->List A5->Ai->Ai
 |.slot s c::r,l::ls,st=>let p:=Fl c l st;Ko e r ls (p.2.put s (.v (.c p.1)))
 |.Qs s _::r,l::ls,st=>match Bo e s,l with
  |some (.v (.c (.sl h))),.sl t L=>Ko e r ls {st with own:=.row h st.Ak t L []::st.own,Ak:=st.Ak+1}
  |_,_=>st
 |.box s k cs::r,ls,st=>match Agl e s k with
  |some h=>let p:=G4 cs (ls.take (S4 cs).length) st;Ko e r (ls.drop (S4 cs).length) {p.2 with own:=.box h p.2.Ak p.1::p.2.own,Ak:=p.2.Ak+1}
  |_=>st
 |_,_,st=>st
def Z8:List A5->List (List A5)
 |[]=>[]
 |l::r=>[l]::Z8 r
def S5:List (List A5)->List A5
 |[]=>[]
 |l::r=>l++S5 r
abbrev VT (v:List VK):Type:=Tup (Aao v)
def Hn (v:List VK) (x:VT v) (st:Ai):Ai:=Ko st.env v (S5 (Nf (Aao v) x)) st
def Cz:List VK->List Nat
 |[]=>[]
 |.slot s _::r=>s::Cz r
 |_::r=>Cz r
def Ahw (e:List (Nat×Option SV)):List (Nat×Option SV)->Bool
 |[]=>true
 |(k,Aa _)::r=>(match Bo e k with
  |some _=>true
  |none=>false)&&Ahw e r
 |_::r=>Ahw e r
def S1 (w:List Nat):List Nat->Bool
 |[]=>true
 |a::l=>Bn w a&&S1 w l
def Ho (v:List VK) (base:Ai) (st:Ai):Option (VT v):=Ac (Mv base.env v st) λp=>bif Ox base.own p.2.own&&Ahw st.env base.env then Xs (Aao v) (Z8 p.1)else Ab
def wr:Code->List Nat
 |.region _ b _=>Cy b.toList
 |.seq a c=>wr a++wr c
 |.cond _ a c=>wr a++wr c
 |.block _ c=>wr c
 |.loop c=>wr c
 |_=>[]
def Dp (w:List Nat):List (Nat×Option SV)->List (Nat×Option SV)
 |[]=>[]
 |(k,v)::r=>bif Bn w k then Dp w r else(k,v)::Dp w r
def Awc (k:Nat):List Hint->Option Hint
 |[]=>Ab
 |h::r=>bif Ay h.key k then Aa h else Awc k r
def Aga:Code->Option (Nat×Nat×Nat×Nat)
 |.seq (.region _ ops false) (.seq (.cond (.tmp c) .skip (.exit e)) _)=>match ops.toList with
  |[⟨Aa d,.binOp .lss _ (.tmp k) (.tmp n) _,_,_,_,Ab⟩]=>bif Ay c d then Aa (k,n,e,d)else Ab
  |_=>Ab
 |_=>Ab
def Wb:Code->Option Nat
 |.region id _ _=>Aa id
 |.seq a c=>match Wb a with
  |some k=>Aa k
  |none=>Wb c
 |.cond _ a c=>match Wb a with
  |some k=>Aa k
  |none=>Wb c
 |.block _ c=>Wb c
 |.loop c=>Wb c
 |_=>Ab
def B0m (a c:Code):Nat:=match Wb a with
 |some k=>100000+k
 |none=>match Wb c with
  |some k=>100000+k
  |none=>100000
def Y4 (a k h:Nat) (st:Ai):Ai:= {st with env:=(a,Aa (.v (.c (.ix st.Ak k h))))::st.env,Ak:=st.Ak+1}
def Agf (u:Nat):Option Cell->Bool
 |some (.sx v _ _)=>Ay u v
 |_=>false
def Yt {A:Type} (f:Ai->Option A):Option Nat->Ai->Option A
 |none,st=>f st
 |some _,_=>Ab
def T7 {A:Type} (b:Nat) (go out:Ai->Option A):Option Nat->Ai->Option A
 |none,st=>go st
 |some j,st=>bif Ay j b then out st else Ab
def A7y (i:Nat) (K:Option Nat->Ai->Option R):Option Nat->Ai->Option R
 |none,st=>K Ab st
 |some j,st=>bif Ay j i then K Ab st else K (Aa j) st
def Bsn (f:Ai->Option R) (K:Option Nat->Ai->Option R):Option Nat->Ai->Option R
 |none,st=>f st
 |some i,st=>K (Aa i) st
def run (C:Es) {f:Type} (De:Ai->Option f):Code->Nat->Ai-> {R:Type}->(f->Option R)->(Option Nat->Ai->Option R)->Option R
 |.skip,_,st,_,_,K=>K Ab st
 |.region _ ops draw,_,st,_,_,K=>Azw C ops.toList draw st (K Ab)
 |.seq a c,b,st,_,rt,K=>run C De a b st rt (Bsn (λst=>run C De c b st rt K) K)
 |.cond o a c,b,st,R,rt,K=>match evB st.env o with
  |none=>Ab
  |some t=>match Awc (B0m a c) C.Ba4 with
   |none=>bif t then run C De a b st rt K else run C De c b st rt K
   |some h=>let g:=Dp (Cz h.C6++(wr a++wr c)) st.env
    match Mv g h.C6 st with
    |none=>Ab
    |some p=>
     let base:Ai:= {p.2 with env:=g}
     bif !(J8 st&&S1 (wr a++wr c) (Cz h.C6))then Ab else bif h.esc then
      Ac (bif t then run C De a b st (R:=Sum (VT h.C6) f) (λr=>Aa (.inr r)) (Yt λst=>(Ho h.C6 base st).map .inl)
       else run C De c b st (R:=Sum (VT h.C6) f) (λr=>Aa (.inr r)) (Yt λst=>(Ho h.C6 base st).map .inl)) λy=>B2 (λy=>K Ab (Hn h.C6 y base)) rt y
     else
      Ac (bif t then run C De a b st (R:=VT h.C6) (λ_=>Ab) (Yt λst=>Ho h.C6 base st)
       else run C De c b st (R:=VT h.C6) (λ_=>Ab) (Yt λst=>Ho h.C6 base st)) λy=>K Ab (Hn h.C6 y base)
 |.block i c,_,st,_,rt,K=>run C De c i st rt (A7y i K)
 |.loop c,b,st,R,rt,K=>match Awc b C.Ba4 with
  |none=>Ab
  |some h=>let g:=Dp (Cz h.C6++wr c) st.env
   match Mv g h.C6 st with
   |none=>Ab
   |some p=>
    let base:Ai:= {p.2 with env:=g}
    bif !S1 (wr c) (Cz h.C6)then Ab else match Xs (Aao h.C6) (Z8 p.1)with
    |none=>Ab
    |some x0=>match h.each with
     |some (ks,ns)=>match Aga c,evC base.env (.tmp ns),evC st.env (.tmp ks)with
      |some (k',n',e,d),Aa (.ln hh n),Aa (.i .i64 0)=>bif (Ay ks k'&&Ay ns n')&&(Ay e b&&(C1 d C.n&&!Bn (Cz h.C6) d))&&(Bn (wr c) d&&Bn (wr c) ks)then
        (bif h.esc then
         Ac (A2 (λk (x:VT h.C6)=>let s:=Hn h.C6 x base
          bif !J8 s then Ab else run C De c b (Y4 ks k hh s) (R:=Lr (VT h.C6) (Sum (VT h.C6) f)) (λr=>Aa (.out (.inr r))) (T7 b (λst=>bif Agf s.Ak (evC st.env (.tmp ks))then(Ho h.C6 base st).map .go else Ab) (λst=>(Ho h.C6 base st).map λy=>.out (.inl y))))
          (λx=>(.inl x:Sum (VT h.C6) f)) n 0 x0) λy=>B2 (λy=>K (Aa b) (Hn h.C6 y base)) rt y
        else
         Ac (A2 (λk (x:VT h.C6)=>let s:=Hn h.C6 x base
          bif !J8 s then Ab else run C De c b (Y4 ks k hh s) (R:=Lr (VT h.C6) (VT h.C6)) (λ_=>Ab) (T7 b (λst=>bif Agf s.Ak (evC st.env (.tmp ks))then(Ho h.C6 base st).map .go else Ab) (λst=>(Ho h.C6 base st).map .out)))
          (λx=>x) n 0 x0) λy=>K (Aa b) (Hn h.C6 y base))
        else Ab
      |_,_,_=>Ab
     |none=>bif h.esc then
       Ac (Cp (λ(x:VT h.C6)=>bif !J8 (Hn h.C6 x base)then Ab else run C De c b (Hn h.C6 x base) (R:=Lr (VT h.C6) (Sum (VT h.C6) f)) (λr=>Aa (.out (.inr r))) (T7 b (λst=>(Ho h.C6 base st).map .go) (λst=>(Ho h.C6 base st).map λy=>.out (.inl y)))) x0)
        λy=>B2 (λy=>K (Aa b) (Hn h.C6 y base)) rt y
      else
       Ac (Cp (λ(x:VT h.C6)=>bif !J8 (Hn h.C6 x base)then Ab else run C De c b (Hn h.C6 x base) (R:=Lr (VT h.C6) (VT h.C6)) (λ_=>Ab) (T7 b (λst=>(Ho h.C6 base st).map .go) (λst=>(Ho h.C6 base st).map .out))) x0)
        λy=>K (Aa b) (Hn h.C6 y base)
 |.exit i,_,st,_,_,K=>K (Aa i) st
 |.ret,_,st,_,rt,_=>Ac (De st) rt
 |_,_,_,_,_,_=>Ab
def Aaa:Nat->List V1->List (Nat×Option SV)
 |_,[]=>[]
 |k,v::r=>(k,Aa (.v v))::Aaa (k+1) r
def Xe (st:Ai):List ResultVar->Option (List V1)
 |[]=>Aa []
 |.tmp t::r=>Ac (ev1 st.env (.tmp t)) λv=>Ac (Xe st r) λvs=>Aa (v::vs)
 |.cell a t::r=>match evC st.env (.tmp a),Jr t with
  |some (.ptr h 0),Aa ti=>Ac (Yn h st.own) λcs=>bif Ay cs.length ti.size then Ac (Agm ti cs 0) λv=>Ac (Xe st r) λvs=>Aa (v::vs)else Ab
  |_,_=>Ab
def Al8 (e:List (Nat×Option SV)) (rv:List ResultVar) (K:SV->Ai->Option R) (st:Ai):Option R:=Ac (Xe st rv) λvs=>K (Xp vs) {st with env:=e}
def Awz (d:FuncId) (C:Es) (rv:List ResultVar) (a:Code) (b:Inl):Inl:=λ_ f vs st K=>
 bif Ay f d then(bif Dm vs.length C.n then run C (λc=>Ac (Xe c rv) λus=>Aa (us,c)) a 0 {st with env:=Aaa 0 vs} (λp=>K (Xp p.1) {p.2 with env:=st.env}) (Yt (Al8 st.env rv K))else Ab)else b _ f vs st K
structure Ini where
 vs:List V1
 Bu:List (Nat×Nat)
 bx:List (Nat×Nat×BM×Ty)
 st:Ai
def Ks:(ps:List PK)->PArgs ps->Ai->Ini
 |[],_,st=>⟨[],[],[],st⟩
 |.val own t::r,a,st=>let p:=B6 own (Cf t a.1) st;let z:=Ks r a.2 p.2;⟨mkV t p.1::z.vs,z.Bu,z.bx,z.st⟩
 |.box m t::r,a,st=>let p:=B6 m.isOw (Cf t a.1) st;let h:=p.2.Ak;let z:=Ks r a.2 {p.2 with own:=.box h h p.1::p.2.own,Ak:=h+1};⟨.c (.ptr h 0)::z.vs,z.Bu,(h,h,m,t)::z.bx,z.st⟩
 |.Od t::r,a,st=>let p:=B6 true (Cf t a.1) st;let h:=p.2.Ak;let z:=Ks r a.2 {p.2 with own:=.box h h p.1::p.2.own,Ak:=h+1};⟨.c (.ptr h 0)::z.vs,z.Bu,z.bx,z.st⟩
 |.lit t::r,a,st=>let p:=B6 true (Cf t a.1) st;let h:=p.2.Ak;let z:=Ks r a.2 {p.2 with own:=.box h h p.1::p.2.own,Ak:=h+1};⟨.c (.lt h)::z.vs,z.Bu,z.bx,z.st⟩
 |.fn f n::r,a,st=>let z:=Ks r a st;⟨.c (.fn f (z.Bu.drop (z.Bu.length-n)))::z.vs,z.Bu.take (z.Bu.length-n),z.bx,z.st⟩
 |.cap m t::r,a,st=>let p:=B6 m.isOw (Cf t a.1) st;let h:=p.2.Ak;let z:=Ks r a.2 {p.2 with own:=.box h h p.1::p.2.own,Ak:=h+1};⟨z.vs,(h,0)::z.Bu,(h,h,m,t)::z.bx,z.st⟩
 |.len t::r,a,st=>let h:=st.Ak;let z:=Ks r a.2 {st with own:=.row h h t a.1 []::st.own,Ak:=h+1};⟨.c (.sl h)::z.vs,z.Bu,(h,h,.le,.sl t)::z.bx,z.st⟩
def Aal:List RK->List V1->List Chunk->Option ((List (List A5)×List (List Cell))×List Chunk)
 |[],[],own=>Aa (([],[]),own)
 |k::ks,v::vs,own=>bif k.bx then(match v with
   |.c (.ptr h 0)=>Ac (Gt h own) λb=>bif k.own then Ac (Kv (Iw k.t) b.1.2 b.2) λp=>Ac (Aal ks vs p.2) λq=>Aa ((p.1::q.1.1,q.1.2),q.2)
     else Ac (Aal ks vs b.2) λq=>Aa ((q.1.1,b.1.2::q.1.2),q.2)
   |_=>Ab)
  else bif k.own then Ac (Yq k.t v) λcs=>Ac (Kv (Iw k.t) cs own) λp=>Ac (Aal ks vs p.2) λq=>Aa ((p.1::q.1.1,q.1.2),q.2)
  else Ac (Yq k.t v) λcs=>Ac (Aal ks vs own) λq=>Aa ((q.1.1,cs::q.1.2),q.2)
 |_,_,_=>Ab
def S2:List (Nat×Nat×BM×Ty)->List Chunk->Option ((List (List A5)×List (List Cell))×List Chunk)
 |[],own=>Aa (([],[]),own)
 |(h,g,.ow,t)::r,own=>Ac (Gt h own) λb=>Ac (Kv (Iw t) b.1.2 b.2) λp=>Ac (S2 r p.2) λq=>Aa ((p.1::q.1.1,q.1.2),q.2)
 |(h,g,.rd,t)::r,own=>Ac (Gt h own) λb=>Ac (S2 r b.2) λq=>Aa ((q.1.1,b.1.2::q.1.2),q.2)
 |(h,g,.lo,t)::r,own=>Ac (Gt h own) λb=>bif Ay b.1.1 g then S2 r b.2 else Ab
 |(h,g,.le,t)::r,own=>Ac (Jq h own) λp=>Ac (S2 r p.2) λq=>Aa (([.sl p.1.t p.1.L]::q.1.1,q.1.2),q.2)
def So (st:Ai):List (Nat×Nat×BM×Ty)->List (List A5)->List (List Cell)->Option (List (List A5))
 |[],ls,_=>Aa ls
 |(_,_,.ow,_)::r,ls,cs=>(match ls with
   |l::ls=>Ac (So st r ls cs) λq=>Aa (l::q)
   |[]=>Ab)
 |(_,_,.le,_)::r,ls,cs=>(match ls with
   |l::ls=>Ac (So st r ls cs) λq=>Aa (l::q)
   |[]=>Ab)
 |(_,_,.rd,t)::r,ls,cs=>(match cs with
   |c::cs=>Ac (Ot st (Iw t) c) λl=>Ac (So st r ls cs) λq=>Aa (l::q)
   |[]=>Ab)
 |(_,_,.lo,_)::r,ls,cs=>So st r ls cs
def Xd (st:Ai):List RK->List (List A5)->List (List Cell)->Option (List (List A5))
 |[],ls,_=>Aa ls
 |k::ks,ls,cs=>bif k.own then(match ls with
   |l::ls=>Ac (Xd st ks ls cs) λq=>Aa (l::q)
   |[]=>Ab)else(match cs with
   |c::cs=>Ac (Ot st (Iw k.t) c) λl=>Ac (Xd st ks ls cs) λq=>Aa (l::q)
   |[]=>Ab)
def Al9 (rv:List ResultVar) (ps:List PK) (rs:List RK) (a:List (Nat×Nat×BM×Ty)) (st:Ai):Option (PRes ps rs):=
 Ac (Xe st rv) λvs=>Ac (Aal rs vs st.own) λp=>Ac (S2 a p.2) λq=>Ac (Xd {st with own:=q.2} rs p.1.1 p.1.2) λl=>Ac (So {st with own:=q.2} a q.1.1 q.1.2) λo=>Xs _ (l++o)
def Aox (C:Es) (rv:List ResultVar) (b:Code) (ps:List PK) (rs:List RK) (a:PArgs ps):Option (PRes ps rs):=
 let z:=Ks ps a ⟨[],[],[],0⟩
 bif !J8 z.st then Ab else run C (Al9 rv ps rs z.bx) b 0 {z.st with env:=Aaa 0 z.vs} Aa (Yt (Al9 rv ps rs z.bx))
end
end
section
open Go.RowKit
def All2 {α β:Type} (R:α->β->Prop):List α->List β->Prop
 |[],[]=>True
 |a::l,b::m=>R a b/\All2 R l m
 |_,_=>False
section
variable {α β:Type} {R S:α->β->Prop}
theorem All2.mono (h:∀a b,R a b->S a b):∀ {l:List α} {m:List β},All2 R l m->All2 S l m
 |[],[],_=>trivial
 |_::_,_::_,⟨h1,h2⟩=>⟨h _ _ h1,All2.mono h h2⟩
 |[],_::_,h=>h.elim
 |_::_,[],h=>h.elim
theorem All2.len:∀ {l:List α} {m:List β},All2 R l m->l.length=m.length
 |[],[],_=>rfl
 |_::_,_::_,⟨_,h2⟩=>by simp[All2.len h2]
 |[],_::_,h=>h.elim
 |_::_,[],h=>h.elim
theorem All2.append:∀ {l:List α} {m:List β} {l':List α} {m':List β},All2 R l m->All2 R l' m'->All2 R (l++l') (m++m')
 |[],[],_,_,_,h=>h
 |_::_,_::_,_,_,⟨h1,h2⟩,h=>⟨h1,All2.append h2 h⟩
 |[],_::_,_,_,h,_=>h.elim
 |_::_,[],_,_,h,_=>h.elim
theorem All2.take:∀(k:Nat) {l:List α} {m:List β},All2 R l m->All2 R (l.take k) (m.take k)
 |0,_,_,_=>by simp[All2]
 |k+1,[],[],_=>trivial
 |k+1,_::_,_::_,⟨h1,h2⟩=>⟨h1,All2.take k h2⟩
 |_+1,[],_::_,h=>h.elim
 |_+1,_::_,[],h=>h.elim
theorem All2.drop:∀(k:Nat) {l:List α} {m:List β},All2 R l m->All2 R (l.drop k) (m.drop k)
 |0,_,_,h=>by simpa using h
 |k+1,[],[],_=>trivial
 |k+1,_::_,_::_,⟨_,h2⟩=>by simpa using All2.drop k h2
 |_+1,[],_::_,h=>h.elim
 |_+1,_::_,[],h=>h.elim
theorem All2.nth:∀ {l:List α} {m:List β} {k:Nat} {a:α},All2 R l m->Go.Proofs.YtbbefmccoomfhaaGreatDoor.nth l k=Aa a->∃b,m[k]?=Aa b/\R a b
 |_::_,_::_,0,_,⟨h1,_⟩,h=>by cases h;exact⟨_,rfl,h1⟩
 |_::_,_::_,k+1,_,⟨_,h2⟩,h=>by simpa using All2.nth h2 h
 |[],[],_,_,_,h=>by cases h
 |[],_::_,_,_,h,_=>h.elim
 |_::_,[],_,_,h,_=>h.elim
theorem Ol:∀ {l:List α} {k:Nat},Go.Proofs.YtbbefmccoomfhaaGreatDoor.nth l k=l[k]?
 |[],_=>rfl
 |_::_,0=>rfl
 |_::_,k+1=>by simpa [Go.Proofs.YtbbefmccoomfhaaGreatDoor.nth]using Ol
end
def Ext (ρ ρ':List HV):Prop:=∃x,ρ'=ρ++x
theorem Ext.refl ρ:Ext ρ ρ:=⟨[],by simp⟩
theorem Ext.one ρ x:Ext ρ (ρ++[x]):=⟨[x],rfl⟩
theorem Ext.trans{a b c} (h:Ext a b) (k:Ext b c):Ext a c:=by obtain⟨x,rfl⟩:=h;obtain⟨y,rfl⟩:=k;exact⟨x++y,by simp⟩
theorem Ext.get{ρ ρ'} (h:Ext ρ ρ') {k:Nat}{x} (a:ρ[k]?=Aa x):ρ'[k]?=Aa x:=by obtain⟨y,rfl⟩:=h;have:=(H3.1 a).1;rw[Nj this,a]
theorem Ext.back{ρ ρ'} (h:Ext ρ ρ') {k:Nat}{x y} (b:ρ'[k]?=Aa x) (a:ρ[k]?=Aa y):ρ[k]?=Aa x:=by rw[a,<-h.get a,b]
theorem Gn ρ (x:HV):(ρ++[x])[ρ.length]?=Aa x:=by simp
def CapIs (ρ:List HV) (p:Nat×Nat) (u:Value):Prop:=∃b,ρ[p.1]?=Aa (.box b)/\u=pt b p.2
def Cell.Den (ρ:List HV):Cell->Value->Prop
 |.i k x,z=>z=.int k x
 |.y x,z=>z=.int .u8 (x.toNat:Int)
 |.b x,z=>z=.bool x
 |.s x,z=>z=.string x
 |.sl h,z=>∃q:Sv,ρ[h]?=Aa (.row q)/\z=q.v
 |.nil,z=>z=.slice Ab 0 0
 |.ptr h o,z=>∃x,ρ[h]?=Aa (.box x)/\z=pt x o
 |.ep h k m j,z=>∃q:Sv,ρ[h]?=Aa (.row q)/\z=.pointer (Aa (Et q.v (m*k+j)))/\m<q.n/\∃a o,q.p=Aa ⟨a,o,Ab⟩
 |.ix u k h,z=>z=iv (k:Int)/\ρ[u]?=Aa (.num k)/\∃q:Sv,ρ[h]?=Aa (.row q)/\k<q.n/\q.n<=9223372036854775807
 |.sx u k _,z=>z=iv ((k:Int)+1)/\ρ[u]?=Aa (.num k)
 |.ln h x,z=>z=iv (x:Int)/\∃q:Sv,ρ[h]?=Aa (.row q)/\q.n=x/\x<=9223372036854775807
 |.fn f Bu,z=>∃vs,z=.func (.func f) #[] (Pa vs)/\All2 (CapIs ρ) Bu vs
 |.lt h,z=>∃x,ρ[h]?=Aa (.box x)/\z=Sv.v ⟨Aa ⟨x,0,Ab⟩,1,1⟩
 |.er ok,z=>(ok=true/\z=.nilIface)\/(ok=false/\∃t u,z=.iface t u)
 |.Q4 u,z=>z=u/\u.oneCell'=true
def V1.Den (ρ:List HV):V1->Value->Prop
 |.c x,z=>x.Den ρ z
 |.a l,z=>∃vs:List Value,All2 (Cell.Den ρ) l vs/\z=.agg vs.toArray
def SV.Den (ρ:List HV):SV->Value->Prop
 |.v x,z=>x.Den ρ z
 |.t l,z=>∃vs:List Value,All2 (V1.Den ρ) l vs/\z=.tuple vs.toArray
section
variable {ρ ρ':List HV}
theorem CapIs.mono (hx:Ext ρ ρ'){p u} (h:CapIs ρ p u):CapIs ρ' p u:=by obtain⟨b,a,c⟩:=h;exact⟨b,hx.get a,c⟩
theorem Cell.Den.mono (hx:Ext ρ ρ') {c:Cell}{v} (h:c.Den ρ v):c.Den ρ' v:=by
 cases c with
 |sl k=>obtain⟨s,a,b⟩:=h;exact⟨s,hx.get a,b⟩
 |ptr k o=>obtain⟨s,a,b⟩:=h;exact⟨s,hx.get a,b⟩
 |lt k=>obtain⟨s,a,b⟩:=h;exact⟨s,hx.get a,b⟩
 |ep k q i j=>obtain⟨s,a,b⟩:=h;exact⟨s,hx.get a,b⟩
 |ix u k q=>obtain⟨d,a,s,b,e⟩:=h;exact⟨d,hx.get a,s,hx.get b,e⟩
 |sx u k q=>obtain⟨d,a⟩:=h;exact⟨d,hx.get a⟩
 |ln k n=>obtain⟨d,s,b,e⟩:=h;exact⟨d,s,hx.get b,e⟩
 |fn f Bu=>obtain⟨vs,a,b⟩:=h;exact⟨vs,a,b.mono λ_ _=>CapIs.mono hx⟩
 |_=>exact h
theorem V1.Den.mono (hx:Ext ρ ρ') {c:V1}{v} (h:c.Den ρ v):c.Den ρ' v:=by
 cases c with
 |c x=>exact Cell.Den.mono hx h
 |a l=>obtain⟨vs,b,d⟩:=h;exact⟨vs,b.mono λ_ _=>Cell.Den.mono hx,d⟩
theorem SV.Den.mono (hx:Ext ρ ρ') {c:SV}{v} (h:c.Den ρ v):c.Den ρ' v:=by
 cases c with
 |v x=>exact V1.Den.mono hx h
 |t l=>obtain⟨vs,a,b⟩:=h;exact⟨vs,a.mono λ_ _=>V1.Den.mono hx,b⟩
theorem All2.back{α R b S} (c:∀a v u,b a v->R a u->S a v):∀ {l:List α} {vs us:List Value},All2 b l vs->All2 R l us->All2 S l vs
 |[],[],[],_,_=>trivial
 |_::_,_::_,_::_,⟨h1,h2⟩,⟨k1,k2⟩=>⟨c _ _ _ h1 k1,All2.back c h2 k2⟩
 |[],_::_,_,h,_=>h.elim
 |_::_,[],_,h,_=>h.elim
 |[],[],_::_,_,h=>h.elim
 |_::_,_::_,[],_,h=>h.elim
theorem CapIs.back (hx:Ext ρ ρ'){c v u} (h:CapIs ρ' c v) (a:CapIs ρ c u):CapIs ρ c v:=by obtain⟨b,d,e⟩:=h;obtain⟨g,f,k2⟩:=a;exact⟨b,hx.back d f,e⟩
theorem Cell.Den.back (hx:Ext ρ ρ') {c:Cell}{v u} (h:c.Den ρ' v) (l:c.Den ρ u):c.Den ρ v:=by
 cases c with
 |sl k=>obtain⟨s,b,d⟩:=h;obtain⟨s',g,k2⟩:=l;exact⟨s,hx.back b g,d⟩
 |ptr k o=>obtain⟨s,b,d⟩:=h;obtain⟨s',g,k2⟩:=l;exact⟨s,hx.back b g,d⟩
 |lt k=>obtain⟨s,b,d⟩:=h;obtain⟨s',g,k2⟩:=l;exact⟨s,hx.back b g,d⟩
 |ep k q i j=>obtain⟨s,b,d⟩:=h;obtain⟨s',g,k2⟩:=l;exact⟨s,hx.back b g,d⟩
 |ix u k q=>obtain⟨e,b,s,d,m⟩:=h;obtain⟨_,g,s',k2,_⟩:=l;exact⟨e,hx.back b g,s,hx.back d k2,m⟩
 |sx u k q=>obtain⟨e,b⟩:=h;obtain⟨_,g⟩:=l;exact⟨e,hx.back b g⟩
 |ln k n=>obtain⟨e,s,d,m⟩:=h;obtain⟨_,s',k2,_⟩:=l;exact⟨e,s,hx.back d k2,m⟩
 |fn f Bu=>obtain⟨vs,b,d⟩:=h;obtain⟨us,_,k2⟩:=l;exact⟨vs,b,d.back (λ_ _ _ a c=>a.back hx c) k2⟩
 |_=>exact h
theorem V1.Den.back (hx:Ext ρ ρ') {c:V1}{v u} (h:c.Den ρ' v) (b:c.Den ρ u):c.Den ρ v:=by
 cases c with
 |c x=>exact Cell.Den.back hx h b
 |a l=>obtain⟨vs,d,e⟩:=h;obtain⟨us,f,_⟩:=b;exact⟨vs,d.back (λ_ _ _ a c=>a.back hx c) f,e⟩
theorem SV.Den.back (hx:Ext ρ ρ') {c:SV}{v u} (h:c.Den ρ' v) (b:c.Den ρ u):c.Den ρ v:=by
 cases c with
 |v x=>exact V1.Den.back hx h b
 |t l=>obtain⟨vs,d,e⟩:=h;obtain⟨us,f,_⟩:=b;exact⟨vs,d.back (λ_ _ _ a c=>a.back hx c) f,e⟩
theorem Cell.Den.one {c:Cell}{v} (h:c.Den ρ v):v.oneCell'=true:=by
 cases c with
 |sl k=>obtain⟨s,_,rfl⟩:=h;rfl
 |ptr k o=>obtain⟨s,_,rfl⟩:=h;rfl
 |lt k=>obtain⟨s,_,rfl⟩:=h;rfl
 |ep k q i j=>obtain⟨s,_,rfl,_⟩:=h;rfl
 |ix u k q=>obtain⟨rfl,_⟩:=h;rfl
 |sx u k q=>obtain⟨rfl,_⟩:=h;rfl
 |ln k n=>obtain⟨rfl,_⟩:=h;rfl
 |fn f Bu=>obtain⟨vs,rfl,_⟩:=h;rfl
 |er ok=>rcases h with⟨_,rfl⟩|⟨_,t,u,rfl⟩<;>rfl
 |Q4 u=>obtain⟨rfl,h⟩:=h;exact h
 |i k m=>cases h;rfl
 |y m=>cases h;rfl
 |b m=>cases h;rfl
 |s m=>cases h;rfl
 |nil=>cases h;rfl
theorem Abs {c:Cell}{v k n} (h:c.Den ρ v) (a:c.asInt=Aa (k,n)):v=.int k n:=by
 cases c with
 |i k' n'=>cases a;exact h
 |y n'=>cases a;exact h
 |ix u k' q=>cases a;exact h.1
 |sx u k' q=>cases a;exact h.1
 |ln k' n'=>cases a;exact h.1
 |_=>cases a
theorem A7p v (b:v.oneCell'=true):(Afo v).Den ρ v:=by
 unfold Afo;split
 ·rename_i n;cases a:(decide (0<=n)&&decide (n<=255))with
  |false=>exact⟨rfl,b⟩
  |true=>
   simp only[A9,decide_eq_true_eq]at a;show _=_;have c:(Tx n.toNat).toNat=n.toNat:=by rw[Atp];omega
   rw[c,A5w a.1]
 ·rfl
 ·rfl
 ·rfl
 ·rfl
 ·exact⟨rfl,b⟩
theorem All2_cellOf:∀ {l:List Value},(l.all (·.oneCell'))=true->All2 (Cell.Den ρ) (l.map Afo) l
 |[],_=>trivial
 |v::l,h=>by simp only[K5,A9]at h;exact⟨A7p v h.1,All2_cellOf h.2⟩
theorem B85{v sv} (h:A07 v=Aa sv):sv.Den ρ v:=by
 unfold A07 at h;split at h
 ·rename_i cs;cases a:cs.toList.all (·.oneCell')with
  |false=>rw[a]at h;cases h
  |true=>rw[a]at h;cases h;exact⟨cs.toList,All2_cellOf a,by simp⟩
 ·cases a:v.oneCell' with
  |false=>rw[a]at h;cases h
  |true=>rw[a]at h;cases h;exact A7p v a
def EnvOk (ρ:List HV) (se:List (Nat×Option SV)) (env:Env):Prop:=∀t sv,Bo se t=Aa sv->∃v,lk env t=Aa v/\sv.Den ρ v
variable {se:List (Nat×Option SV)} {env:Env}
theorem EnvOk.mono (hx:Ext ρ ρ') (h:EnvOk ρ se env):EnvOk ρ' se env:=λt sv c=>by obtain⟨v,a,b⟩:=h t sv c;exact⟨v,a,b.mono hx⟩
theorem EnvOk.put (h:EnvOk ρ se env){sv v} (c:sv.Den ρ v) d:EnvOk ρ ((d,Aa sv)::se) ((d,v)::env):=λt x a=>by
 simp only[Bo,lk]at a⊢;cases b:Ay d t with
 |true=>rw[b]at a;cases a;exact⟨v,rfl,c⟩
 |false=>rw[b]at a;exact h t x a
theorem EnvOk.none (h:EnvOk ρ se env) {v:Value} (d:Nat):EnvOk ρ ((d,Ab)::se) ((d,v)::env):=λt x a=>by
 simp only[Bo,lk]at a⊢;cases b:Ay d t with
 |true=>rw[b]at a;cases a
 |false=>rw[b]at a;exact h t x a
theorem EnvOk.evS (h:EnvOk ρ se env) {o:Operand} {sv:SV} (ho:evS se o=Aa sv):∃v,ev env o=Aa v/\sv.Den ρ v:=by
 cases o with
 |tmp t=>exact h t sv ho
 |const v=>exact⟨v,rfl,B85 ho⟩
 |global g=>cases ho
 |func f=>cases ho;exact⟨_,rfl,[],rfl,trivial⟩
theorem EnvOk.ev1 (h:EnvOk ρ se env) {o:Operand} {x:V1} (ho:ev1 se o=Aa x):∃v,ev env o=Aa v/\x.Den ρ v:=by
 unfold Go.Proofs.YtbbefmccoomfhaaGreatDoor.ev1 at ho;split at ho
 ·rename_i y a;cases ho;exact h.evS a
 ·cases ho
theorem EnvOk.evC (h:EnvOk ρ se env) {o:Operand} {x:Cell} (ho:evC se o=Aa x):∃v,ev env o=Aa v/\x.Den ρ v:=by
 unfold Go.Proofs.YtbbefmccoomfhaaGreatDoor.evC at ho;split at ho
 ·rename_i y a;cases ho;exact h.evS a
 ·cases ho
theorem EnvOk.evB (h:EnvOk ρ se env) {o:Operand} {x:Bool} (ho:evB se o=Aa x):ev env o=Aa (.bool x):=by
 unfold Go.Proofs.YtbbefmccoomfhaaGreatDoor.evB at ho;split at ho
 ·rename_i y c;cases ho;obtain⟨v,a,b⟩:=h.evC c;cases b;exact a
 ·cases ho
end
def Sv.cut3 (s:Sv) (hi:Nat):Sv:=⟨s.p,hi,hi⟩
def VP.At (s:Sv) (t:Ty) (L:List (C7 t)) (c:J6) (s':Sv):VP->List Vi->Prop
 |.no,ex=>ex=[]
 |.ei i j,ex=>i<L.length/\(Cf t (el L i))[j]?=Aa (.sl c.t c.L)/\ex=[vC (Et s.v (i*sz t+j)) s'.v]
 |.cut lo hi,ex=>lo<=hi/\hi<=L.length/\c=⟨t,(L.take hi).drop lo⟩/\s'=s.cut (sz t) lo hi/\ex=[]
 |.ec i j lo hi,ex=>i<L.length/\∃(a:J6) (b:Sv),(Cf t (el L i))[j]?=Aa (.sl a.t a.L)/\lo<=hi/\hi<=a.L.length/\c=⟨a.t,(a.L.take hi).drop lo⟩/\s'=b.cut (sz a.t) lo hi/\ex=[vC (Et s.v (i*sz t+j)) b.v]
 |.c3 hi,ex=>hi<=L.length/\c=⟨t,(L.take hi).drop 0⟩/\s'=s.cut3 hi/\ex=[]
def View.Is (ρ:List HV) (s:Sv) (t:Ty) (L:List (C7 t)) (v:View) (l:List Vi):Prop:=
 ∃s' ex,ρ[v.h]?=Aa (.row s')/\v.pos.At s t L ⟨v.t,v.L⟩ s' ex/\l=vR s'.v (Ar (sz v.t) (fD v.t) v.L)::ex
def ViewsAre (ρ:List HV) (s:Sv) (t:Ty) (L:List (C7 t)):List View->List Vi->Prop
 |[],l=>l=[]
 |v::vs,l=>∃a b,l=a++b/\v.Is ρ s t L a/\ViewsAre ρ s t L vs b
def Chunk.Is (ρ:List HV) (rs:List Rd):Chunk->As->Prop
 |.box h _ cs,z=>∃b e vs,ρ[h]?=Aa (.box b)/\All2 (Cell.Den ρ) cs vs/\z=Cc b (Pa vs) e
 |.row h _ t L vs,z=>∃q c,ρ[h]?=Aa (.row q)/\ViewsAre ρ q t L vs c/\z=oV (oC (Ar (sz t) (fD t) L) q.v) c
 |.C9 h _ t L,z=>∃q xs,ρ[h]?=Aa (.row q)/\z=Cx (sz t) q.v L.length xs/\rX xs (L.flatMap (fD t))∈rs
 |.El h _ t L i j o,z=>∃q a,ρ[h]?=Aa (.row q)/\ρ[o]?=Aa (.row a)/\z=Mf (sz t) (fD t) L q.v (i*sz t+j) (Sv.v a)
 |.rem h _ t L i,z=>∃q,ρ[h]?=Aa (.row q)/\z=oRe (sz t) (fD t) L q.v i
def View.Rd (ρ:List HV) (x:View) (r:Rd):Prop:=∃q,ρ[x.h]?=Aa (.row q)/\r=rV q.v (Ar (sz x.t) (fD x.t) x.L)
section
variable {ρ ρ':List HV} {rs rs':List Rd}
theorem View.Is.mono (hx:Ext ρ ρ'){s t L} {v:View}{l} (h:v.Is ρ s t L l):v.Is ρ' s t L l:=by obtain⟨s',ex,a,b⟩:=h;exact⟨s',ex,hx.get a,b⟩
theorem ViewsAre.mono (hx:Ext ρ ρ'){s t L}:∀ {vs:List View} {l:List Vi},ViewsAre ρ s t L vs l->ViewsAre ρ' s t L vs l
 |[],_,h=>h
 |_::_,_,⟨l1,l2,h1,h2,h3⟩=>⟨l1,l2,h1,h2.mono hx,ViewsAre.mono hx h3⟩
theorem Chunk.Is.mono (hx:Ext ρ ρ') (n:∀r∈rs,r∈rs') {c:Chunk}{a} (h:c.Is ρ rs a):c.Is ρ' rs' a:=by
 cases c with
 |box k g cs=>obtain⟨b,e,vs,d,f,l⟩:=h;exact⟨b,e,vs,hx.get d,f.mono λ_ _=>Cell.Den.mono hx,l⟩
 |row k g t L vs=>obtain⟨s,u,d,f,l⟩:=h;exact⟨s,u,hx.get d,f.mono hx,l⟩
 |C9 k g t L=>obtain⟨s,xs,d,f,l⟩:=h;exact⟨s,xs,hx.get d,f,n _ l⟩
 |El k g t L i j o=>obtain⟨q,p,d,m,f⟩:=h;exact⟨q,p,hx.get d,hx.get m,f⟩
 |rem k g t L i=>obtain⟨q,d,f⟩:=h;exact⟨q,hx.get d,f⟩
theorem View.Rd.mono (hx:Ext ρ ρ') {c:View}{a} (h:c.Rd ρ a):c.Rd ρ' a:=by obtain⟨s,b,d⟩:=h;exact⟨s,hx.get b,d⟩
end
abbrev OwnOk (ρ:List HV) (rs:List Rd) (own:List Chunk) (m:List As):Prop:=All2 (Chunk.Is ρ rs) own m
def RdsOk (ρ:List HV) (a:List View) (rs:List Rd):Prop:=∀x∈a,∃r∈rs,x.Rd ρ r
structure Sat (B:Dn) (Af:List Rd) (ρ:List HV) (st:Ai) (env:Env) (w:World):Prop where
 len:ρ.length=st.Ak
 env:EnvOk ρ st.env env
 mem:∃m rs,OwnOk ρ rs st.own m/\RdsOk ρ st.Bg rs/\(∀r∈Af,r∈rs)/\St B m rs w
section
variable {ρ ρ':List HV} {rs rs':List Rd}
theorem OwnOk.mono (hx:Ext ρ ρ') (a:∀r∈rs,r∈rs'){own m} (h:OwnOk ρ rs own m):OwnOk ρ' rs' own m:=All2.mono (λ_ _=>Chunk.Is.mono hx a) h
theorem RdsOk.mono (hx:Ext ρ ρ') (d:∀r∈rs,r∈rs'){Bg} (h:RdsOk ρ Bg rs):RdsOk ρ' Bg rs':=λx c=>by obtain⟨r,a,b⟩:=h x c;exact⟨r,d r a,b.mono hx⟩
theorem At3{h c}:∀ {vs:List View},Ob h vs=Aa c->∃v∈vs,v.h=h/\c=⟨v.t,v.L⟩/\On h vs=v.pos
 |[],hc=>by cases hc
 |v::r,hc=>by
  simp only[Ob]at hc;cases a:Ay v.h h with
  |true=>rw[a]at hc;cases hc;exact⟨v,Bm ..,Br a,rfl,by simp[On,a]⟩
  |false=>rw[a]at hc;obtain⟨u,b,d,e,f⟩:=At3 hc;exact⟨u,Bf _ b,d,e,by simp[On,a,f]⟩
theorem T8{h c vs} (e:Ob h vs=Aa c):∃v∈vs,v.h=h/\c=⟨v.t,v.L⟩:=by obtain⟨v,a,b,d,_⟩:=At3 e;exact⟨v,a,b,d⟩
theorem ViewsAre.at_{s t L}:∀ {vs:List View} {l:List Vi},ViewsAre ρ s t L vs l->∀v∈vs,∃s' ex,ρ[v.h]?=Aa (.row s')/\v.pos.At s t L ⟨v.t,v.L⟩ s' ex/\vR s'.v (Ar (sz v.t) (fD v.t) v.L)∈l/\∀x∈ex,x∈l
 |[],_,_,v,a=>by cases a
 |u::us,l,⟨l1,l2,h1,⟨s',ex,h2,h5,h3⟩,h4⟩,v,a=>by
  subst h1;rcases Bq.1 a with rfl|a
  ·exact⟨s',ex,h2,h5,Hv _ (by rw[h3];exact Bm ..),λx hx=>Hv _ (by rw[h3];exact Bf _ hx)⟩
  ·obtain⟨q,b,c,k2,d,e⟩:=ViewsAre.at_ h4 v a;exact⟨q,b,c,k2,F5 _ d,λx hx=>F5 _ (e x hx)⟩
theorem ViewsAre.get{s t L vs l} (h:ViewsAre ρ s t L vs l) v (c:v∈vs):∃s',ρ[v.h]?=Aa (.row s')/\vR s'.v (Ar (sz v.t) (fD v.t) v.L)∈l:=by obtain⟨s',_,a,_,b,_⟩:=h.at_ v c;exact⟨s',a,b⟩
variable {B:Dn} {Af:List Rd} {st:Ai} {env:Env} {w:World}
theorem B5o{k T f} {L:List T} {q:Sv}{xs m} (y:St B m rs w) (A:Cx k q.v L.length xs∈m) (C:rX xs (L.flatMap f)∈rs):(Ar k f L).rd (al w) w q.v:=by
 obtain⟨_,_,F,p,_,r⟩:=y;obtain⟨F',H,s⟩:=p.mem A;have t:=Z0 (S':=al w) (λb c=>c.2.1) (Lc.refl _ _) _ _ (r _ C);obtain⟨o,hx,x⟩:=s;rcases x with⟨e,l⟩|⟨b,off,cap,cur,e,G,n,c,z,a,d,D,i⟩
 ·rw[e];exact⟨Ab,0,by rw[l],by omega,by simp[maxLen],λh=>absurd (I4 l) h⟩
 ·rw[n];exact⟨_,cap,rfl,a,d,λ_=>⟨b,off,xs,rfl,λj g=>o _ (c j (K8 g (E4 _ a))),hx,λj u g=>Aov z.1 i g,t⟩⟩
theorem Abz{h c m0} (e:St B m0 rs w):∀ {own:List Chunk} {m:List As},OwnOk ρ rs own m->(∀a∈m,a∈m0)->Fg h own=Aa c->∃s,ρ[h]?=Aa (.row s)/\(Ar (sz c.t) (fD c.t) c.L).rd (al w) w s.v
 |[],[],_,_,hc=>by cases hc
 |.box k g cs::own,a::m,⟨_,h2⟩,hm,hc=>Abz e h2 (λa b=>hm a (Bf _ b)) hc
 |.row k g t L vs::own,a::m,⟨h1,h2⟩,hm,hc=>by
  obtain⟨q,r,i,k2,rfl⟩:=h1;have d:=hm _ (Bm ..);simp only[Fg]at hc;cases f:Ay k h with
  |true=>rw[f]at hc;cases hc;cases Br f;exact⟨q,i,e.seeOV d⟩
  |false=>
   rw[f]at hc;simp only[cond_false]at hc;split at hc
   ·rename_i c' j;cases hc;obtain⟨v,n,o,p⟩:=T8 j;obtain⟨s',s1,l⟩:=k2.get v n;subst p;exact⟨s',by rw[<-o];exact s1,e.seeV d l⟩
   ·exact Abz e h2 (λa b=>hm a (Bf _ b)) hc
 |.C9 k g t L::own,a::m,⟨h1,h2⟩,hm,hc=>by
  obtain⟨q,xs,i,rfl,k2⟩:=h1;have d:=hm _ (Bm ..);simp only[Fg]at hc;cases f:Ay k h with
  |true=>rw[f]at hc;cases hc;cases Br f;exact⟨q,i,B5o e d k2⟩
  |false=>rw[f]at hc;exact Abz e h2 (λa b=>hm a (Bf _ b)) hc
 |.El _ _ _ _ _ _ _::own,a::m,⟨_,h2⟩,hm,hc=>Abz e h2 (λa b=>hm a (Bf _ b)) hc
 |.rem _ _ _ _ _::own,a::m,⟨_,h2⟩,hm,hc=>Abz e h2 (λa b=>hm a (Bf _ b)) hc
 |[],_::_,h,_,_=>h.elim
 |.box _ _ _::_,[],h,_,_=>h.elim
 |.row _ _ _ _ _::_,[],h,_,_=>h.elim
 |.C9 _ _ _ _::_,[],h,_,_=>h.elim
 |.El _ _ _ _ _ _ _::_,[],h,_,_=>h.elim
 |.rem _ _ _ _ _::_,[],h,_,_=>h.elim
theorem Sat.rd (g:Sat B Af ρ st env w){h c} (a:st.cont h=Aa c):∃s,ρ[h]?=Aa (.row s)/\(Ar (sz c.t) (fD c.t) c.L).rd (al w) w s.v:=by
 obtain⟨m,rs,d,e,p,b⟩:=g.mem;unfold Ai.cont at a;split at a
 ·rename_i c' f;cases a;exact Abz b d (λ_ h=>h) f
 ·obtain⟨v,l,n,o⟩:=T8 a;obtain⟨r,k,q,i,j⟩:=e v l;subst o j;exact⟨q,by rw[<-n];exact i,b.seeR k⟩
theorem Sat.rel (a:Sat B Af ρ st env w){w'} (f:Rel w w'):Sat B Af ρ st env w':=by obtain⟨m,rs,b,c,d,e⟩:=a.mem;exact⟨a.len,a.env,m,rs,b,c,d,e.call f⟩
theorem Yo{h cs}:∀ {own:List Chunk} {m:List As},OwnOk ρ rs own m->Yn h own=Aa cs->∃b e vs,ρ[h]?=Aa (.box b)/\All2 (Cell.Den ρ) cs vs/\Cc b vs.toArray e∈m
 |[],[],_,hc=>by cases hc
 |.box k g cs::own,a::m,⟨h1,h2⟩,hc=>by
  simp only[Yn]at hc;cases f:Ay k h with
  |true=>rw[f]at hc;cases hc;cases Br f;obtain⟨b,e,vs,c,k2,rfl⟩:=h1;exact⟨b,e,vs,c,k2,Bm ..⟩
  |false=>rw[f]at hc;obtain⟨b,e,vs,c,k2,d⟩:=Yo h2 hc;exact⟨b,e,vs,c,k2,Bf _ d⟩
 |.row k g t L vs::own,a::m,⟨h1,h2⟩,hc=>by obtain⟨b,e,vs,c,k2,d⟩:=Yo h2 hc;exact⟨b,e,vs,c,k2,Bf _ d⟩
 |.C9 k g t L::own,a::m,⟨h1,h2⟩,hc=>by obtain⟨b,e,vs,c,k2,d⟩:=Yo h2 hc;exact⟨b,e,vs,c,k2,Bf _ d⟩
 |.El k g t L i j o::own,a::m,⟨h1,h2⟩,hc=>by obtain⟨b,e,vs,c,k2,d⟩:=Yo h2 hc;exact⟨b,e,vs,c,k2,Bf _ d⟩
 |.rem k g t L i::own,a::m,⟨h1,h2⟩,hc=>by obtain⟨b,e,vs,c,k2,d⟩:=Yo h2 hc;exact⟨b,e,vs,c,k2,Bf _ d⟩
 |[],_::_,h,_=>h.elim
 |.box _ _ _::_,[],h,_=>h.elim
 |.row _ _ _ _ _::_,[],h,_=>h.elim
 |.C9 _ _ _ _::_,[],h,_=>h.elim
 |.El _ _ _ _ _ _ _::_,[],h,_=>h.elim
 |.rem _ _ _ _ _::_,[],h,_=>h.elim
theorem Aby{h c}:∀ {own:List Chunk} {m:List As},OwnOk ρ rs own m->Acj h own=Aa c->∃(q b:Sv) (j:Nat),ρ[h]?=Aa (.row q)/\Mf (sz c.t) (fD c.t) c.L q.v j b.v∈m
 |[],[],_,hc=>by cases hc
 |.El k g t L i j o::own,a::m,⟨h1,h2⟩,hc=>by
  simp only[Acj]at hc;cases e:Ay k h with
  |true=>rw[e]at hc;cases hc;cases Br e;obtain⟨q,b,d,_,rfl⟩:=h1;exact⟨q,b,_,d,Bm ..⟩
  |false=>rw[e]at hc;obtain⟨q,b,j,d,k2⟩:=Aby h2 hc;exact⟨q,b,j,d,Bf _ k2⟩
 |.box _ _ _::own,a::m,⟨_,h2⟩,hc=>by obtain⟨q,b,j,d,k2⟩:=Aby (own:=own) h2 hc;exact⟨q,b,j,d,Bf _ k2⟩
 |.row _ _ _ _ _::own,a::m,⟨_,h2⟩,hc=>by obtain⟨q,b,j,d,k2⟩:=Aby (own:=own) h2 hc;exact⟨q,b,j,d,Bf _ k2⟩
 |.C9 _ _ _ _::own,a::m,⟨_,h2⟩,hc=>by obtain⟨q,b,j,d,k2⟩:=Aby (own:=own) h2 hc;exact⟨q,b,j,d,Bf _ k2⟩
 |.rem _ _ _ _ _::own,a::m,⟨_,h2⟩,hc=>by obtain⟨q,b,j,d,k2⟩:=Aby (own:=own) h2 hc;exact⟨q,b,j,d,Bf _ k2⟩
 |[],_::_,h,_=>h.elim
 |.box _ _ _::_,[],h,_=>h.elim
 |.row _ _ _ _ _::_,[],h,_=>h.elim
 |.C9 _ _ _ _::_,[],h,_=>h.elim
 |.El _ _ _ _ _ _ _::_,[],h,_=>h.elim
 |.rem _ _ _ _ _::_,[],h,_=>h.elim
abbrev Ck (k:Nat):Type:= {l:List Ce//l.length=k}
instance (k:Nat):Inhabited (Ck k):=⟨⟨Ey k (cI 0),by simp⟩⟩
theorem Bia{k}:∀ {n:Nat} {cs:List Ce},cs.length=n*k->∃a:List (Ck k),a.length=n/\a.flatMap Subtype.val=cs
 |0,cs,h=>⟨[],rfl,by
  rw[K9]at h;rw[I4 h];rfl⟩
 |n+1,cs,h=>by rw[Gk,Yg]at h;obtain⟨a,b,c⟩:=Bia (k:=k) (n:=n) (cs:=cs.drop k) (by rw[D0];omega);exact⟨⟨cs.take k,by rw[Dh];omega⟩::a,by simp[b],by simp[c]⟩
theorem Ba6{k T f} {L:List T}{v q u} hu (i:∀x,(f x).length=k):∃a:List (Ck k),a.length=L.length/\a.flatMap Subtype.val=(L.flatMap f).set q (cV u hu)/\∀F w,(Mf k f L v q u).ok F w->(oC (Ar k Subtype.val a) v).ok F w:=by
 obtain⟨a,g,c⟩:=Bia (k:=k) (n:=L.length) (cs:=(L.flatMap f).set q (cV u hu)) (by rw[Ft,Mw i]);refine⟨a,g,c,λF w h=>?_⟩;obtain⟨xs,g1,g2,g3⟩:=h;refine⟨xs,by rw[c,Ft,g1],?_⟩;obtain⟨d,hx⟩:=H3.1 g2
 have e:∀(q:Nat) (cs:List Ce) (vs:List Value),vs[q]?=Aa u->Bc (cs.set q (cV u hu)) vs=(Bc cs vs).set q (oC (cV u hu) u):=by
  intro q;induction q with
  |zero=>intro cs vs j;cases cs<;>cases vs<;>simp_all [Bc]
  |succ q l=>intro cs vs j;cases cs<;>cases vs<;>simp_all [Bc]
 have b:Sep (oC (cV u hu) u::Cx k v L.length xs::(Bc (L.flatMap f) xs).eraseIdx q) F w:=
  ⟨g3.lt,λ_=>False,F,⟨rfl,λ_ h=>h.elim⟩,g3,(λ_ h=>h.elim),(λ_ h=>h.elim),λ_ h=>h⟩
 show Sep (Cx k v a.length xs::Bc (a.flatMap Subtype.val) xs) F w;rw[g,c,e _ _ _ g2];exact b.perm ((List.Perm.swap ..).trans ((Beb (by rw[Ass g1];exact d)).cons _))
theorem Sat.rdI (l:Sat B Af ρ st env w){h c} (e:st.contI h=Aa c):∃s,ρ[h]?=Aa (.row s)/\∃(T:Type) (f:T->List Ce) (L:List T),L.length=c.L.length/\(Ar (sz c.t) f L).rd (al w) w s.v:=by
 unfold Ai.contI at e;split at e
 ·rename_i c' i;cases e;obtain⟨s,g,k⟩:=l.rd i;exact⟨s,g,_,_,_,rfl,k⟩
 ·obtain⟨m,rs,g,k,z,p⟩:=l.mem;obtain⟨q,y,j,x,k2⟩:=Aby g e;obtain⟨F,o⟩:=p.at' k2;obtain⟨a,n,_,d⟩:=Ba6 (L:=c.L) (v:=q.v) (q:=j) (u:=y.v) rfl (Fu c.t);replace d:=d F w o;exact⟨q,x,_,_,a,n,(Ar (sz c.t) Subtype.val a).mono (λb r=>(Ar (sz c.t) Subtype.val a).lt d r) (Lc.refl _ _) ((Ar (sz c.t) Subtype.val a).seen d)⟩
end
end
section
open Go.RowKit
def Chunk.Le (c c':Chunk):Prop:=c=c'\/∃h g t L vs ex,c=.row h g t L vs/\c'=.row h g t L (ex++vs)
theorem Chunk.Le.g{c c'} (h:c.Le c'):H9 c=H9 c':=by rcases h with rfl|⟨k,g,t,L,vs,ex,rfl,rfl⟩<;>rfl
theorem Chunk.Le.trans {a b c:Chunk} (h:a.Le b) (k:b.Le c):a.Le c:=by
 rcases h with rfl|⟨e,g,t,L,vs,ex,rfl,rfl⟩
 ·exact k
 ·rcases k with rfl|⟨k2,j,l,L',i,d,f,rfl⟩
  ·exact .inr ⟨e,g,t,L,vs,ex,rfl,rfl⟩
  ·cases f;exact .inr ⟨e,g,t,L,vs,d++ex,rfl,by simp⟩
structure Be (st st':Ai):Prop where
 Ak:st.Ak<=st'.Ak
 own:∀c'∈st'.own,H9 c'<st.Ak->∃c∈st.own,c.Le c'
 Bg:∃x,st'.Bg=x++st.Bg
theorem Be.refl st:Be st st:=⟨Ef _,λc h _=>⟨c,h,.inl rfl⟩,[],rfl⟩
theorem Be.trans{a b c} (h:Be a b) (k:Be b c):Be a c:=by
 refine⟨V6 h.Ak k.Ak,λc' n e=>?_,?_⟩
 ·obtain⟨i,j,d⟩:=k.own c' n (K8 e h.Ak);obtain⟨f,l,m⟩:=h.own i j (by rw[d.g];exact e);exact⟨f,l,m.trans d⟩
 ·obtain⟨x,hx⟩:=h.Bg;obtain⟨y,o⟩:=k.Bg;exact⟨y++x,by rw[o,hx];simp⟩
theorem Be.env{a b} (h:Be a b) e e':Be {a with env:=e} {b with env:=e'}:=⟨h.Ak,h.own,h.Bg⟩
section
variable {ρ ρ':List HV} {rs rs':List Rd} {B:Dn} {Af:List Rd} {st:Ai} {env:Env} {w:World}
theorem All2.split{α g R}:∀ {a c:List α} {m:List g},All2 R (a++c) m->∃m1 m2,m=m1++m2/\All2 R a m1/\All2 R c m2
 |[],_,m,h=>⟨[],m,rfl,trivial,h⟩
 |_::a,c,b::m,⟨h1,h2⟩=>by obtain⟨m1,m2,e,d,f⟩:=All2.split h2;exact⟨b::m1,m2,by rw[e];rfl,⟨h1,d⟩,f⟩
 |_::_,_,[],h=>h.elim
theorem Yh{h v}:∀ {own:List Chunk},Fg h own=Ab->addV h v own=Ab
 |[],_=>rfl
 |.box k g cs::r,hc=>by simp only[Fg]at hc;simp[addV,Yh hc]
 |.row k g t L vs::r,hc=>by
  simp only[Fg]at hc;simp only[addV];cases a:Ay k h with
  |true=>rw[a]at hc;cases hc
  |false=>
   rw[a]at hc;simp only[cond_false]at hc⊢;split at hc
   ·cases hc
   ·simp[Yh hc]
 |.C9 k g t L::r,hc=>by
  simp only[Fg]at hc;simp only[addV];cases a:Ay k h with
  |true=>rfl
  |false=>rw[a]at hc;simp[Yh (own:=r) hc]
 |.El k g t L i j o::r,hc=>by simp only[Fg]at hc;simp[addV,Yh hc]
 |.rem k g t L i::r,hc=>by simp only[Fg]at hc;simp[addV,Yh hc]
theorem Yi{h v c}:∀ {own:List Chunk},Fg h own=Aa c->
  (∃e f g vs,own=e++ .row h g c.t c.L vs::f/\addV h v own=Aa (e++ .row h g c.t c.L (v::vs)::f))\/
  (∃e f k g t L vs,own=e++ .row k g t L vs::f/\Ob h vs=Aa c/\addV h v own=Aa (e++ .row k g t L ({v with pos:=(On h vs).sub v.pos}::vs)::f))\/
  (∃e f g,own=e++ .C9 h g c.t c.L::f/\addV h v own=Ab)
 |[],hc=>by cases hc
 |.box k g cs::r,hc=>by
  simp only[Fg]at hc;rcases Yi (v:=v) hc with⟨d,o2,b,vs,a,e2⟩|⟨d,o2,k',b,t,L,vs,a,e2,m⟩|⟨d,o2,b,a,e2⟩
  ·exact .inl ⟨.box k g cs::d,o2,b,vs,by rw[a];rfl,by simp[addV,e2]⟩
  ·exact .inr (.inl ⟨.box k g cs::d,o2,k',b,t,L,vs,by rw[a];rfl,e2,by simp[addV,m]⟩)
  ·exact .inr (.inr ⟨.box k g cs::d,o2,b,by rw[a];rfl,by simp[addV,e2]⟩)
 |.row k g t L vs::r,hc=>by
  simp only[Fg]at hc;cases l:Ay k h with
  |true=>rw[l]at hc;cases hc;cases Br l;exact .inl ⟨[],r,g,vs,rfl,by simp[addV]⟩
  |false=>
   rw[l]at hc;simp only[cond_false]at hc;split at hc
   ·rename_i c' q;cases hc;exact .inr (.inl ⟨[],r,k,g,t,L,vs,rfl,q,by simp[addV,l,q]⟩)
   ·rename_i q;rcases Yi (v:=v) hc with⟨d,o2,b,p,a,e2⟩|⟨d,o2,k',b,n,L',p,a,e2,m⟩|⟨d,o2,b,a,e2⟩
    ·exact .inl ⟨.row k g t L vs::d,o2,b,p,by rw[a];rfl,by simp[addV,l,q,e2]⟩
    ·exact .inr (.inl ⟨.row k g t L vs::d,o2,k',b,n,L',p,by rw[a];rfl,e2,by simp[addV,l,q,m]⟩)
    ·exact .inr (.inr ⟨.row k g t L vs::d,o2,b,by rw[a];rfl,by simp[addV,l,q,e2]⟩)
 |.C9 k g t L::r,hc=>by
  simp only[Fg]at hc;cases l:Ay k h with
  |true=>rw[l]at hc;cases hc;cases Br l;exact .inr (.inr ⟨[],r,g,rfl,by simp[addV]⟩)
  |false=>
   rw[l]at hc;rcases Yi (v:=v) hc with⟨d,o2,b,vs,a,e2⟩|⟨d,o2,k',b,n,L',vs,a,e2,m⟩|⟨d,o2,b,a,e2⟩
   ·exact .inl ⟨.C9 k g t L::d,o2,b,vs,by rw[a];rfl,by simp[addV,l,e2]⟩
   ·exact .inr (.inl ⟨.C9 k g t L::d,o2,k',b,n,L',vs,by rw[a];rfl,e2,by simp[addV,l,m]⟩)
   ·exact .inr (.inr ⟨.C9 k g t L::d,o2,b,by rw[a];rfl,by simp[addV,l,e2]⟩)
 |.El k g t L i j o::r,hc=>by
  simp only[Fg]at hc;rcases Yi (v:=v) hc with⟨d,o2,b,vs,a,e2⟩|⟨d,o2,k',b,n,L',vs,a,e2,m⟩|⟨d,o2,b,a,e2⟩
  ·exact .inl ⟨.El k g t L i j o::d,o2,b,vs,by rw[a];rfl,by simp[addV,e2]⟩
  ·exact .inr (.inl ⟨.El k g t L i j o::d,o2,k',b,n,L',vs,by rw[a];rfl,e2,by simp[addV,m]⟩)
  ·exact .inr (.inr ⟨.El k g t L i j o::d,o2,b,by rw[a];rfl,by simp[addV,e2]⟩)
 |.rem k g t L i::r,hc=>by
  simp only[Fg]at hc;rcases Yi (v:=v) hc with⟨d,o2,b,vs,a,e2⟩|⟨d,o2,k',b,n,L',vs,a,e2,m⟩|⟨d,o2,b,a,e2⟩
  ·exact .inl ⟨.rem k g t L i::d,o2,b,vs,by rw[a];rfl,by simp[addV,e2]⟩
  ·exact .inr (.inl ⟨.rem k g t L i::d,o2,k',b,n,L',vs,by rw[a];rfl,e2,by simp[addV,m]⟩)
  ·exact .inr (.inr ⟨.rem k g t L i::d,o2,b,by rw[a];rfl,by simp[addV,e2]⟩)
theorem St.mid{m1 m2 a} (h:St B (m1++a::m2) rs w):St B (a::(m1++m2)) rs w:=h.perm Ct
theorem St.back'{m1 m2 a} (h:St B (a::(m1++m2)) rs w):St B (m1++a::m2) rs w:=h.perm Ct.symm
theorem Yu{h c x own2 a x'} (hx:Fg h (x::own2)=Aa c->Fg h (x'::a)=Aa c):∀ {b:List Chunk},Fg h (b++x::own2)=Aa c->Fg h (b++x'::a)=Aa c
 |[],hc=>hx hc
 |.box k g cs::r,hc=>by simp only[Fi,Fg]at hc⊢;exact Yu hx hc
 |.row k g t L vs::r,hc=>by
  simp only[Fi,Fg]at hc⊢;cases d:Ay k h with
  |true=>rw[d]at hc;simpa using hc
  |false=>
   rw[d]at hc;simp only[cond_false]at hc⊢;split at hc
   ·exact hc
   ·exact Yu hx hc
 |.C9 k g t L::r,hc=>by
  simp only[Fi,Fg]at hc⊢;cases d:Ay k h with
  |true=>rw[d]at hc;simpa using hc
  |false=>rw[d]at hc;simp only[cond_false]at hc⊢;exact Yu hx hc
 |.El k g t L i j o::r,hc=>by simp only[Fi,Fg]at hc⊢;exact Yu hx hc
 |.rem k g t L i::r,hc=>by simp only[Fi,Fg]at hc⊢;exact Yu hx hc
theorem Sat.lt (b:Sat B Af ρ st env w){h x} (a:ρ[h]?=Aa x):h<st.Ak:=by rw[<-b.len];exact(H3.1 a).1
theorem B0s{k T} [Inhabited T]{f} {L:List T}{T' k' f'} {L':List T'} {q:Sv}{xs m} (n:St B m rs w) (C:Cx k q.v L.length xs∈m) (D:rX xs (L.flatMap f)∈rs) (p:∀x,(f x).length=k){i j} (hi:i<L.length) (o:(f (el L i))[j]?=Aa (Ar k' f' L')):
  ∃s:Sv,St B m (rV s.v (Ar k' f' L')::rs) w/\∀e,Rel w e->e.cell? (Et q.v (i*k+j))=Aa s.v:=by
 have A:j<k:=by have:=(H3.1 o).1;rw[p]at this;exact this
 have g:(L.flatMap f)[i*k+j]?=Aa (Ar k' f' L'):=by rw[Amd p L i j hi A];exact o
 obtain⟨F,y⟩:=n.at' C;have a:∀S,(∀r∈rs,r.ok S w)->Eg S w (L.flatMap f) xs:=λS h=>h _ D;obtain⟨_,_,u,_,_,l⟩:=n;obtain⟨v,b,d⟩:=Aoo (a _ l) g;obtain⟨s,rfl⟩:=Cs.sv d;refine⟨s,St.more ⟨‹_›,‹_›,u,‹_›,‹_›,l⟩ (λS z=>?_),λe c=>?_⟩
 ·obtain⟨G,t,k2⟩:=Aoo (a S z) g;rw[b]at t;cases t;exact k2
 ·exact Aow (As.loc _ (c.lc F) y) b
theorem B7v (u:Sat B Af ρ st env w){h c} (G:st.cont h=Aa c){s} (H:ρ[h]?=Aa (.row s)){i j} (hi:i<c.L.length){t l} (M:(Cf c.t (el c.L i))[j]?=Aa (.sl t l)):
  ∃s',Sat B Af (ρ++[.row s']) (st.see h ⟨st.Ak,t,l,.ei i j⟩) env w/\(st.see h ⟨st.Ak,t,l,.ei i j⟩).cont h=Aa c/\Be st (st.see h ⟨st.Ak,t,l,.ei i j⟩)/\(st.see h ⟨st.Ak,t,l,.ei i j⟩).Ak=st.Ak+1/\(st.see h ⟨st.Ak,t,l,.ei i j⟩).env=st.env/\∀w1,Rel w w1->w1.cell? (Et s.v (i*sz c.t+j))=Aa s'.v:=by
 have T:(fD c.t (el c.L i))[j]?=Aa (Ar (sz t) (fD t) l):=by rw[Gl,Abi,M];rfl
 have N:Ay st.Ak h=false:=Nl λe=>by have:=u.lt H;omega
 obtain⟨m,rs,D,K,R,S⟩:=u.mem;have hx:=λs':Sv=>Ext.one ρ (.row s');have d:=λs':Sv=>Gn ρ (.row s');rw[u.len]at d;unfold Ai.cont at G;cases y:Fg h st.own with
 |some c'=>
  rw[y]at G;cases G;rcases Yi (v:=⟨st.Ak,t,l,.ei i j⟩) y with⟨o1,o2,g,vs,z,e2⟩|⟨o1,o2,k,g,t',L',vs,z,e2,C⟩|⟨o1,o2,g,z,e2⟩
  ·rw[z]at D;obtain⟨m1,m2,rfl,P,A⟩:=D.split;cases m2 with
   |nil=>exact A.elim
   |cons a m2=>
    obtain⟨⟨q,vl,F,k2,rfl⟩,Q⟩:=A;rw[H]at F;cases F;obtain⟨s',n,b⟩:=S.mid.leafV (Fu c.t) hi T;refine⟨s',⟨by simp[Ai.see,e2,u.len],by simp only[Ai.see,e2];exact u.env.mono (hx s'),_,rs,?_,?_,R,n.back'⟩,?_,?_,by simp[Ai.see,e2],by simp[Ai.see,e2],b⟩
    ·simp only[Ai.see,e2];exact(P.mono λ_ _=>Chunk.Is.mono (hx s') λ_ h=>h).append ⟨⟨s,_,(hx s').get H,⟨_,vl,rfl,⟨s',_,d s',⟨hi,M,rfl⟩,rfl⟩,k2.mono (hx s')⟩,rfl⟩,Q.mono λ_ _=>Chunk.Is.mono (hx s') λ_ h=>h⟩
    ·simp only[Ai.see,e2];exact K.mono (hx s') λ_ h=>h
    ·simp only[Ai.see,e2,Ai.cont];rw[z]at y;rw[Yu (λh=>by simp[Fg]at h⊢) y]
    ·simp only[Ai.see,e2];refine⟨N8 _,λc' o _=>?_,[],rfl⟩;rw[z];rcases Ei.1 o with f|f
     ·exact⟨c',Hv _ f,.inl rfl⟩
     ·rcases Bq.1 f with rfl|f
      ·exact⟨_,F5 _ (Bm ..),.inr ⟨_,_,_,_,vs,[_],rfl,rfl⟩⟩
      ·exact⟨c',F5 _ (Bf _ f),.inl rfl⟩
  ·rw[z]at D;obtain⟨m1,m2,rfl,P,A⟩:=D.split;cases m2 with
   |nil=>exact A.elim
   |cons a m2=>
    obtain⟨⟨q,vl,F,k2,rfl⟩,Q⟩:=A;obtain⟨v,W,X,Y⟩:=T8 e2;obtain⟨sv,s1,s2⟩:=k2.get v W;rw[X,H]at s1;cases s1;subst Y;obtain⟨s',n,b⟩:=S.mid.leafW s2 (Fu v.t) hi T;refine⟨s',⟨by simp[Ai.see,C,u.len],by simp only[Ai.see,C];exact u.env.mono (hx s'),_,rs,?_,?_,R,n.back'⟩,?_,?_,by simp[Ai.see,C],by simp[Ai.see,C],b⟩
    ·simp only[Ai.see,C];exact(P.mono λ_ _=>Chunk.Is.mono (hx s') λ_ h=>h).append ⟨⟨q,_,(hx s').get F,⟨[_],vl,rfl,⟨s',[],d s',by cases On h vs<;>rfl,rfl⟩,k2.mono (hx s')⟩,rfl⟩,Q.mono λ_ _=>Chunk.Is.mono (hx s') λ_ h=>h⟩
    ·simp only[Ai.see,C];exact K.mono (hx s') λ_ h=>h
    ·simp only[Ai.see,C,Ai.cont];rw[z]at y
     rw[Yu (λf=>by
      simp only[Fg]at f⊢;cases hb:Ay k h with
      |true=>rw[hb]at f;simpa using f
      |false=>rw[hb]at f;simp only[cond_false]at f⊢;simp only[Ob,N,cond_false];exact f) y]
    ·simp only[Ai.see,C];refine⟨N8 _,λc' o _=>?_,[],rfl⟩;rw[z];rcases Ei.1 o with f|f
     ·exact⟨c',Hv _ f,.inl rfl⟩
     ·rcases Bq.1 f with rfl|f
      ·exact⟨_,F5 _ (Bm ..),.inr ⟨_,_,_,_,vs,[_],rfl,rfl⟩⟩
      ·exact⟨c',F5 _ (Bf _ f),.inl rfl⟩
  ·have I:=D;rw[z]at I;obtain⟨m1,m2,rfl,P,A⟩:=I.split;cases m2 with
   |nil=>exact A.elim
   |cons a m2=>
    obtain⟨⟨q,xs,F,rfl,k2⟩,Q⟩:=A;rw[H]at F;cases F;obtain⟨s',n,b⟩:=B0s S (F5 _ (Bm ..)) k2 (Fu c.t) hi T;refine⟨s',⟨by simp[Ai.see,e2,u.len],by simp only[Ai.see,e2];exact u.env.mono (hx s'),_,_,?_,?_,λr U=>Bf _ (R r U),n⟩,?_,?_,by simp[Ai.see,e2],by simp[Ai.see,e2],b⟩
    ·simp only[Ai.see,e2];exact OwnOk.mono (hx s') (λ_ h=>Bf _ h) D
    ·simp only[Ai.see,e2];intro x p;rcases Bq.1 p with rfl|p
     ·exact⟨_,Bm ..,s',d s',rfl⟩
     ·obtain⟨r,O,V⟩:=K x p;exact⟨r,Bf _ O,V.mono (hx s')⟩
    ·simp[Ai.see,e2,Ai.cont,y]
    ·simp only[Ai.see,e2];exact⟨N8 _,λc' o _=>⟨c',o,.inl rfl⟩,[_],rfl⟩
 |none=>
  rw[y]at G;obtain⟨v,W,X,Y⟩:=T8 G;obtain⟨r,O,q,q1,q2⟩:=K v W;rw[X,H]at q1;cases q1;subst Y q2;have e2:=Yh (v:=⟨st.Ak,t,l,.ei i j⟩) y;obtain⟨s',n,b⟩:=S.leaf O (Fu v.t) hi T;refine⟨s',⟨by simp[Ai.see,e2,u.len],by simp only[Ai.see,e2];exact u.env.mono (hx s'),_,_,?_,?_,λr U=>Bf _ (R r U),n⟩,?_,?_,by simp[Ai.see,e2],by simp[Ai.see,e2],b⟩
  ·simp only[Ai.see,e2];exact OwnOk.mono (hx s') (λ_ h=>Bf _ h) D
  ·simp only[Ai.see,e2];intro x p;rcases Bq.1 p with rfl|p
   ·exact⟨_,Bm ..,s',d s',rfl⟩
   ·obtain⟨r,O,V⟩:=K x p;exact⟨r,Bf _ O,V.mono (hx s')⟩
  ·simp only[Ai.see,e2,Ai.cont,y,Ob,N,cond_false];exact G
  ·simp only[Ai.see,e2];exact⟨N8 _,λc' o _=>⟨c',o,.inl rfl⟩,[_],rfl⟩
theorem Z.trans{a b c} (h:Z w a b) (k:Z w b c):Z w a c:=λF d=>k F (h F d)
theorem Z.perm{a b} (h:a.Perm b):Z w a b:=λ_ c=>c.perm h
theorem Z.app{a b c} (h:Z w a b):Z w (a++c) (b++c):=λF d=>by obtain⟨F1,f,g1,g2,g3,g4,g5⟩:=d.split;exact(Sep.join (h F1 g1) g2 g3).up (λb e=>e.elim (g4 b) (g5 b)) d.lt
theorem Z.cons{a b c} (h:Z w b c):Z w (a::b) (a::c):=λ_ d=>d.cons_mono h
theorem St.z{m} (h:St B m rs w){m'} (a:Z w m m'):St B m' rs w:=by have:=St.iso (l:=m) (l':=m') (m:=[]) (by simpa using h) a;simpa using this
theorem Z.unV{o vl l}:Z w (oV o vl::l) (o::l):=λF h=>by obtain⟨b,F1,a,c,d,e,f,g⟩:=h;exact⟨b,F1,a,c.1,d,e,f,g⟩
theorem Z.toV{o l}:Z w (o::l) (oV o []::l):=λF i=>by obtain⟨b,F1,a,c,d,e,f,g⟩:=i;exact⟨b,F1,a,⟨c,λ_ h=>by cases h⟩,d,e,f,g⟩
theorem St.moreVX{o vl ex c c' u u' m} (h:St B (oV o vl::m) rs w) (i:vR u c∈vl) (f:∀S,c.rd S w u->c'.rd S w u') (b:∀x∈ex,x∈vl):St B (oV o (vR u' c'::ex++vl)::m) rs w:=by
 refine St.iso (l:=[oV o vl]) (l':=[oV o (vR u' c'::ex++vl)]) h λF ⟨e,F1,d,⟨g1,gv⟩,g⟩=>⟨e,F1,d,⟨g1,λr a=>?_⟩,g⟩;rcases Ei.1 a with a|a
 ·rcases Bq.1 a with rfl|a
  ·exact f _ (vRg (gv _ i))
  ·exact gv r (b r a)
 ·exact gv r a
theorem St.moreO{vl c c' u u' m} (h:St B (oV (oC c u) vl::m) rs w) (e:∀S,c.rd S w u->c'.rd S w u'):St B (oV (oC c u) (vR u' c'::vl)::m) rs w:=by
 refine St.iso (l:=[oV (oC c u) vl]) (l':=[oV (oC c u) (vR u' c'::vl)]) h λF ⟨d,F1,b,⟨g1,gv⟩,g⟩=>⟨d,F1,b,⟨g1,λr a=>?_⟩,g⟩;rcases Bq.1 a with rfl|a
 ·exact e _ (c.seen g1)
 ·exact gv r a
theorem Bip (n:Sat B Af ρ st env w){h c} (F:st.cont h=Aa c){s} (H:ρ[h]?=Aa (.row s)){t l s' p} (hn:∀c',Fg h st.own=Aa c'->addV h ⟨st.Ak,t,l,p⟩ st.own≠Ab) (T:∀S,(Ar (sz c.t) (fD c.t) c.L).rd S w s.v->(Ar (sz t) (fD t) l).rd S w s'.v) (hp:p.At s c.t c.L ⟨t,l⟩ s' []) (hq:∀z hi,p=.cut z hi->z<=hi/\hi<=c.L.length/\(⟨t,l⟩:J6)=⟨c.t,(c.L.take hi).drop z⟩/\s'=s.cut (sz c.t) z hi):
  Sat B Af (ρ++[.row s']) (st.see h ⟨st.Ak,t,l,p⟩) env w/\Be st (st.see h ⟨st.Ak,t,l,p⟩)/\(st.see h ⟨st.Ak,t,l,p⟩).env=st.env:=by
 obtain⟨m,rs,C,G,O,Q⟩:=n.mem;have hx:=Ext.one ρ (.row s');have b:=Gn ρ (.row s');rw[n.len]at b;unfold Ai.cont at F;cases D:Fg h st.own with
 |some c'=>
  rw[D]at F;cases F;rcases Yi (v:=⟨st.Ak,t,l,p⟩) D with⟨Y,o2,g,vs,u,e2⟩|⟨Y,o2,k,g,t',L',vs,u,e2,y⟩|⟨Y,o2,g,u,e2⟩
  ·rw[u]at C;obtain⟨m1,m2,rfl,M,A⟩:=C.split;cases m2 with
   |nil=>exact A.elim
   |cons a m2=>
    obtain⟨⟨q,K,I,k2,rfl⟩,N⟩:=A;rw[H]at I;cases I;have e:=Q.mid.moreO T;refine⟨⟨by simp[Ai.see,e2,n.len],by simp only[Ai.see,e2];exact n.env.mono hx,_,rs,?_,?_,O,e.back'⟩,?_,by simp[Ai.see,e2]⟩
    ·simp only[Ai.see,e2];exact(M.mono λ_ _=>Chunk.Is.mono hx λ_ h=>h).append ⟨⟨s,_,hx.get H,⟨[_],K,rfl,⟨s',[],b,hp,rfl⟩,k2.mono hx⟩,rfl⟩,N.mono λ_ _=>Chunk.Is.mono hx λ_ h=>h⟩
    ·simp only[Ai.see,e2];exact G.mono hx λ_ h=>h
    ·simp only[Ai.see,e2];refine⟨N8 _,λc' f _=>?_,[],rfl⟩;rw[u];rcases Ei.1 f with d|d
     ·exact⟨c',Hv _ d,.inl rfl⟩
     ·rcases Bq.1 d with rfl|d
      ·exact⟨_,F5 _ (Bm ..),.inr ⟨_,_,_,_,vs,[_],rfl,rfl⟩⟩
      ·exact⟨c',F5 _ (Bf _ d),.inl rfl⟩
  ·rw[u]at C;obtain⟨m1,m2,rfl,M,A⟩:=C.split;cases m2 with
   |nil=>exact A.elim
   |cons a m2=>
    obtain⟨⟨q,K,I,k2,rfl⟩,N⟩:=A;obtain⟨v,V,W,X,v4⟩:=At3 e2;obtain⟨sv,b3,s1,s0,s2,s3⟩:=k2.at_ v V;rw[W,H]at s1;cases s1;subst X
    obtain⟨ex,P,R⟩:∃ex,((On h vs).sub p).At q t' L' ⟨t,l⟩ s' ex/\∀x∈ex,x∈K:=by
     rw[v4];cases hv:v.pos with
     |ei i j=>
      rw[hv]at s0;obtain⟨b1,b2,rfl⟩:=s0;cases p with
      |cut z hi=>obtain⟨c1,c2,c3,c4⟩:=hq z hi rfl;exact⟨_,⟨b1,⟨v.t,v.L⟩,s,b2,c1,c2,c3,c4,rfl⟩,s3⟩
      |_=>exact⟨[],rfl,λ_ h=>by cases h⟩
     |_=>exact⟨[],rfl,λ_ h=>by cases h⟩
    have e:=Q.mid.moreVX s2 T R;refine⟨⟨by simp[Ai.see,y,n.len],by simp only[Ai.see,y];exact n.env.mono hx,_,rs,?_,?_,O,e.back'⟩,?_,by simp[Ai.see,y]⟩
    ·simp only[Ai.see,y];exact(M.mono λ_ _=>Chunk.Is.mono hx λ_ h=>h).append ⟨⟨q,_,hx.get I,⟨_,K,rfl,⟨s',_,b,P,rfl⟩,k2.mono hx⟩,rfl⟩,N.mono λ_ _=>Chunk.Is.mono hx λ_ h=>h⟩
    ·simp only[Ai.see,y];exact G.mono hx λ_ h=>h
    ·simp only[Ai.see,y];refine⟨N8 _,λc' f _=>?_,[],rfl⟩;rw[u];rcases Ei.1 f with d|d
     ·exact⟨c',Hv _ d,.inl rfl⟩
     ·rcases Bq.1 d with rfl|d
      ·exact⟨_,F5 _ (Bm ..),.inr ⟨_,_,_,_,vs,[_],rfl,rfl⟩⟩
      ·exact⟨c',F5 _ (Bf _ d),.inl rfl⟩
  ·exact absurd e2 (hn c D)
 |none=>
  rw[D]at F;obtain⟨v,V,W,X⟩:=T8 F;obtain⟨r,U,q,q1,q2⟩:=G v V;rw[W,H]at q1;cases q1;subst X q2;have e2:=Yh (v:=⟨st.Ak,t,l,p⟩) D;have e:=Q.more (r:=rV s'.v (Ar (sz t) (fD t) l)) λS hS=>T S (hS _ U);refine⟨⟨by simp[Ai.see,e2,n.len],by simp only[Ai.see,e2];exact n.env.mono hx,_,_,?_,?_,λr hr=>Bf _ (O r hr),e⟩,?_,by simp[Ai.see,e2]⟩
  ·simp only[Ai.see,e2];exact OwnOk.mono hx (λ_ h=>Bf _ h) C
  ·simp only[Ai.see,e2];intro x o;rcases Bq.1 o with rfl|o
   ·exact⟨_,Bm ..,s',b,rfl⟩
   ·obtain⟨r,U,r2⟩:=G x o;exact⟨r,Bf _ U,r2.mono hx⟩
  ·simp only[Ai.see,e2];exact⟨N8 _,λc' f _=>⟨c',f,.inl rfl⟩,[_],rfl⟩
theorem Bsu (s:Sv) k hi:(s.cut k 0 hi).p=s.p:=by
 unfold Sv.cut;simp only[K9];split
 ·rfl
 ·cases s.p with
  |none=>rfl
  |some a=>simp[Addr.add]
theorem Cs.cut3{k T f} {L:List T}{S} (g:∀x,(f x).length=k) {s:Sv}{hi} (c:hi<=L.length) (h:(Ar k f L).rd S w s.v):(Ar k f ((L.take hi).drop 0)).rd S w (s.cut3 hi).v:=by
 obtain⟨a,cap,e,j,l,d⟩:=Cs.cut g (Dk hi) c h;have i:((L.take hi).drop 0).length=hi:=by simp;omega
 obtain⟨b,_,_⟩:(s.cut k 0 hi).p=a/\_/\_:=by simpa [Sv.v]using e
 rw[Bsu]at b;exact⟨a,hi,by simp only[Sv.cut3,Sv.v,b,i],by omega,by omega,d⟩
theorem Own.split{k T f} {L:List T} (z:∀x,(f x).length=k) {s:Sv}{hi lo} (h1:hi<=lo) (h2:lo<=L.length){F} (h:(Ar k f L).ow F w s.v):Sep [oC (Ar k f ((L.take hi).drop 0)) (s.cut3 hi).v,oC (Ar k f ((L.take L.length).drop lo)) (s.cut k lo L.length).v] F w:=by
 obtain⟨xs,hx,h0,F1,V,⟨g0,S,Y⟩,g2,g3,g4,g5⟩:=h;have b0:=E4 k h1;have b2:=E4 k h2;have o:((L.take L.length).drop lo).length=L.length-lo:=by simp
 have m:((L.take hi).drop 0).length=hi:=by simp;omega
 have N:Sep (((Bc (L.flatMap f) xs).take (hi*k))++((Bc (L.flatMap f) xs).drop (hi*k))) V w:=by rw[Kk];exact g2
 obtain⟨Q,y,R,G,W,I,K⟩:=N.split;have H:Sep ((Bc (L.flatMap f) xs).drop (lo*k)) y w:=by have:=G.drop (lo*k-hi*k);rw[Mq,show hi*k+(lo*k-hi*k)=lo*k by omega]at this;exact this
 have zA:Bc (((L.take hi).drop 0).flatMap f) (xs.take (hi*k))=(Bc (L.flatMap f) xs).take (hi*k):=by rw[Nh,Acg z,Akh]
 have zB:Bc (((L.take L.length).drop lo).flatMap f) (xs.drop (lo*k))=(Bc (L.flatMap f) xs).drop (lo*k):=by rw[Hd,Amc z,Asr]
 have r:(xs.take (hi*k)).length=hi*k:=by rw[Dh,S];omega
 have a:(xs.drop (lo*k)).length=(L.length-lo)*k:=by rw[D0,S,I5]
 have u:∃i d:Bs,(Cx k (s.cut3 hi).v hi (xs.take (hi*k))).ok i w/\(Cx k (s.cut k lo L.length).v (L.length-lo) (xs.drop (lo*k))).ok d w/\(∀b,i b->¬d b)/\(∀b,i b->F1 b)/\(∀b,d b->F1 b):=by
  rcases Y with⟨e,hn⟩|⟨b,off,cap,cur,M,O,e,U,P,b4,a9,b5,q⟩
  ·obtain⟨l,e2,X⟩:s.p=Ab/\s.n=0/\s.c=0:=by simpa [Sv.v]using e
   have:lo=0:=by omega
   have:hi=0:=by omega
   subst_vars
   refine⟨λ_=>False,λ_=>False,⟨(λ_ h=>h.elim),by simp,.inl ⟨by simp[Sv.cut3,Sv.v,l],rfl⟩⟩,⟨(λ_ h=>h.elim),by simpa using a,.inl ⟨by simp[Sv.cut,Sv.v,l,X,hn],by omega⟩⟩,(λ_ h=>h.elim),(λ_ h=>h.elim),λ_ h=>h.elim⟩
  ·obtain⟨l,e2,rfl⟩:s.p=Aa ⟨b,off,Ab⟩/\s.n=L.length/\s.c=cap:=by simpa [Sv.v]using e
   have a8:=E4 k (show lo<=s.c by omega);refine⟨λx=>F1 x/\x.1=b/\off<=x.2/\x.2<off+hi*k,λx=>F1 x/\¬(x.1=b/\off<=x.2/\x.2<off+hi*k),⟨λx hx=>g0 x hx.1,r,.inr ⟨b,off,hi,cur,M,O,by simp[Sv.cut3,Sv.v,l],λj A=>⟨U j (by omega),rfl,by simp only;omega,by simp only;omega⟩,P,Ef _,by omega,by omega,?_⟩⟩,⟨λx hx=>g0 x hx.1,a,.inr ?_⟩,λx h k=>k.2 h.2,(λx h=>h.1),λx h=>h.1⟩
   ·rw[<-q,Ae8,Pb (by omega)]
   ·by_cases C:s.c-lo=0
    ·refine⟨b,off,s.c-lo,cur,M,O,by simp only[Sv.cut,Sv.v,if_pos C,l],λj A=>by rw[C,K9]at A;omega,P,by omega,by omega,by rw[C,K9];omega,?_⟩;rw[show L.length-lo=0 by omega,K9,A6o];symm;apply I4;rw[a,show L.length-lo=0 by omega,K9]
    ·refine⟨b,off+lo*k,s.c-lo,cur,M,O,by simp only[Sv.cut,Sv.v,if_neg C,l];simp[Addr.add_lit],λj A=>?_,P,by omega,by omega,?_,?_⟩
     ·rw[I5]at A;refine⟨by rw[Er];exact U _ (by omega),λhk=>?_⟩;simp only at hk;omega
     ·rw[I5];omega
     ·rw[<-q,Yd,Mq,<-I5]
 obtain⟨i,d,r1,r2,r3,D,t⟩:=u;refine⟨h0,λx=>i x\/Q x,λx=>d x\/y x,⟨xs.take (hi*k),by rw[Mw z,m,r],?_⟩,⟨λx hx=>?_,λx=>d x\/y x,λ_=>False,⟨xs.drop (lo*k),by rw[Mw z,o,a],?_⟩,(λ_ h=>h.elim),(λ_ _ h=>h),(λ_ h=>h),λ_ h=>h.elim⟩,λx hx g=>?_,λx hx=>?_,λx hx=>?_⟩
 ·rw[m,zA];exact⟨λx hx=>hx.elim (λh=>g0 x (D x h)) (λh=>R.lt x h),i,Q,r1,R,λx h k=>g3 x (D x h) (I x k),(λ_ h=>.inl h),λ_ h=>.inr h⟩
 ·exact hx.elim (λh=>g0 x (t x h)) (λh=>G.lt x h)
 ·rw[o,zB];exact⟨λx hx=>hx.elim (λh=>g0 x (t x h)) (λh=>G.lt x h),d,y,r2,H,λx h k=>g3 x (t x h) (K x k),(λ_ h=>.inl h),λ_ h=>.inr h⟩
 ·rcases hx with hx|hx<;>rcases g with g|g
  ·exact r3 x hx g
  ·exact g3 x (D x hx) (K x g)
  ·exact g3 x (t x g) (I x hx)
  ·exact W x hx g
 ·exact hx.elim (λh=>g4 x (D x h)) (λh=>g5 x (I x h))
 ·exact hx.elim (λh=>g4 x (t x h)) (λh=>g5 x (K x h))
end
end
section
open Go.RowKit
theorem Ben:∀(L:List UInt8) (r:Cea),(L.map λy=>((y.toNat:Nat):Int)).foldl (λr n=>r.push (Tx n.toNat)) r=⟨r.data++L.toArray⟩
 |[],r=>by simp
 |x::L,r=>by
  rw[Fa,Fx,Ben L];have e:Tx ((x.toNat:Int)).toNat=x:=by simp
  rw[e];cases r with
  |mk a=>show ByteArray.mk (a.push x++L.toArray)=ByteArray.mk (a++(x::L).toArray);congr 1;apply Ast;simp
theorem Be8{S w}:∀(L:List UInt8) (xs:List Value),Eg S w (L.flatMap fY) xs->xs=L.map λy=>Value.int .u8 (y.toNat:Int)
 |[],xs,h=>h
 |y::L,xs,h=>by obtain⟨v,r,e,a,b⟩:=h;have:=Be8 L r b;rw[e,this,a];rfl
section
variable {P:Program} {n:Nat} {env:Env} {w:World} {d:Option Tmp} {ty:TypeId} {pos:String} {af:Array Edge} {g:Option (Nat×Bool)}
theorem B4c{x s t e v L S} (D:P.underlying s=Aa (.slice e)) (F:P.underlying t=Aa .string) (B:P.underlying e=Aa (.int .u8))
  (hx:ev env x=Aa v) (h:(Ar 1 fY L).rd S w v):Runs P n env w ⟨d,.convert s t x,ty,pos,af,g⟩ (.string ⟨L.toArray⟩) w:=λa z=>by
 obtain⟨c,cap,rfl,G,H,q⟩:=h
 have o:(Conv.bytesToString (.slice c L.length cap)).run P w=.ok (.string ⟨L.toArray⟩) w:=by
  by_cases p:L=[]
  ·subst p;cases c with
   |none=>rfl
   |some c=>have k:=run_loadCells_list (P:=P) (w:=w) c [] (λj u l=>by simp at l);have:=run_bytesToString (P:=P) w c 0 cap [] (by simpa using k);simp only[Tq]at this;exact this
  ·obtain⟨b,off,xs,rfl,I,K,A,C⟩:=q p;have i:=Be8 L xs C;have k:=run_loadCells_list (P:=P) (w:=w) ⟨b,off,Ab⟩ xs (λj u l=>by rw[Addr.add_lit];exact A j u l);have f:xs.length=L.length:=by rw[i,Gz]
   rw[f]at k;have r:=run_bytesToString (P:=P) w ⟨b,off,Ab⟩ L.length cap (L.map λy=>((y.toNat:Nat):Int)) (by rw[k,i,V2];rfl);rw[r,Ben];congr 2;simp
 simp[execOp,z.ev hx,convert,run_underlying D,run_underlying F,run_underlying B,o]
end
section
variable {P:Program} {n:Nat} {env:Env} {w:World} {w0:Dn} {m:List As} {rs:List Rd} {ty:TypeId} {pos:String} {af:Array Edge}
theorem St.allocRowH{k} (h:St w0 m rs w){q cap} xs sp cur e hd (o:Wr hd cur.size) (c:cur.toList=xs++sp) (f:xs.length=q*k) (j:q<=cap) (i:cap<=maxLen) (r:cur.size=cap*k):
  St w0 (Cx k (Sv.v ⟨Aa ⟨w.heap.size,0,Ab⟩,q,cap⟩) q xs::m) rs (w.alloc (.cells cur e hd)):=
 St.upd (l:=[]) (l':=[Cx k (Sv.v ⟨Aa ⟨w.heap.size,0,Ab⟩,q,cap⟩) q xs]) h λF p=>⟨λb=>b.1=w.heap.size,⟨λb a=>by rw[show b.1=w.heap.size from a];simp,λb=>b.1=w.heap.size,λ_=>False,⟨λb a=>by rw[show b.1=w.heap.size from a];simp,f,.inr ⟨_,0,cap,_,e,hd,rfl,λ_ _=>rfl,⟨heap_alloc_new w _,o⟩,j,i,by omega,by rw[c];simp[<-f]⟩⟩,(λ_ h=>h.elim),(λ_ _ h=>h),(λ_ h=>h),λ_ h=>h.elim⟩,(Rel.alloc w _).x F,λb a=>.inr (Nat.le_of_eq (Eq.symm a))⟩
theorem A5p {T:Type} (f:T->Ce) g (h:∀x w,(oC (f x) (g x)).ok (λ_=>False) w) w:∀l:List T,Z w [] (Bc (l.flatMap λx=>[f x]) (l.map g))
 |[]=>zN
 |x::l=>by rw[F4,Fa];exact zP (h x) (A5p f g h w l)
theorem Cd3{K} {d:Nat}{x s t e v} (B:P.underlying s=Aa .string) (C:P.underlying t=Aa (.slice e)) (u:P.underlying e=Aa (.int .u8)) (hx:ev env x=Aa (.string v)) (F:v.size<=1099511627776) (o:St w0 m rs w)
  (h:∀(s':Sv) w',Rel w w'->St w0 (oC (Ar 1 fY v.data.toList) s'.v::m) rs w'->K s'.v w'):Ex P n env w ⟨Aa d,.convert s t x,ty,pos,af,Ab⟩ K:=by
 have A:=run_bytes_of_string (P:=P) w s t e v B C u;have c:=grownCap_ge w v.size 0 e;have r:=grownCap_le_maxLen w v.size 0 e (by simp only[maxLen];omega);have f:(bytesRow v (grownCap w v.size 0 e)).size=grownCap w v.size 0 e*1:=by unfold bytesRow;rw[Vx,Array.size_map,Array.size_replicate,show v.data.size=v.size from rfl];omega
 refine Li (v:=Sv.v ⟨Aa ⟨w.heap.size,0,Ab⟩,v.size,grownCap w v.size 0 e⟩) (w':=w.drew.alloc (.cells (bytesRow v (grownCap w v.size 0 e)) e ((bytesRow v (grownCap w v.size 0 e)).size,(bytesRow v (grownCap w v.size 0 e)).size+1))) (λa p=>by simp only[execOp,p.ev hx,Sem.run_bind,A,Result.andThen_ok,Sem.run_pure];rfl) (h _ _ ((Rel.refl w).drew.trans (Rel.alloc _ _)) ?_)
 have i:=(o.drew).allocRowH (k:=1) (q:=v.size) (cap:=grownCap w v.size 0 e) (v.data.toList.map λy=>Value.int .u8 (y.toNat:Int)) (Ey (grownCap w v.size 0 e-v.size) (.int .u8 0)) (bytesRow v (grownCap w v.size 0 e)) e ((bytesRow v (grownCap w v.size 0 e)).size,(bytesRow v (grownCap w v.size 0 e)).size+1)
  (λj D z=>by simp only at z;omega) (by unfold bytesRow;simp) (by rw[Gz,Ew,Akx];rfl) c r f
 have b:v.data.toList.length=v.size:=by rw[Ew];rfl
 refine St.rerow (xs:=v.data.toList.map λy=>Value.int .u8 (y.toNat:Int)) (by rw[Gz];exact(Mw (k:=1) (λ_=>rfl) _).trans (Akx _)) ?_;rw[b];exact(St.iso (l:=[]) (l':=Bc (v.data.toList.flatMap fY) (v.data.toList.map λy:UInt8=>Value.int .u8 (y.toNat:Int))) (m:=Cx 1 _ v.size _::m) i (A5p (λy:UInt8=>cY y) (λy:UInt8=>Value.int .u8 (y.toNat:Int)) (λy _=>⟨rfl,λ_ h=>h.elim⟩) _ v.data.toList)).perm Ct
end
end
section
open Go.RowKit
section
variable {ρ ρ':List HV} {rs rs':List Rd} {B:Dn} {Af:List Rd} {st:Ai} {env:Env} {w:World} {R:Type} {r:R}
theorem Bsa{t x} {j:Nat}{l} (h:(Cf t x)[j]?=Aa l):(fD t x)[j]?=Aa l.ce:=by rw[Gl,Abi,h];rfl
theorem Axo{h i c s} (hi:i<c.L.length):∀ls j st ρ,Sat B Af ρ st env w->st.cont h=Aa c->ρ[h]?=Aa (.row s)->(∀q x,ls[q]?=Aa x->(Cf c.t (el c.L i))[j+q]?=Aa x)->
  ∃ρ' vs,Ext ρ ρ'/\Sat B Af ρ' (M0 h i ls j st).2 env w/\All2 (Cell.Den ρ') (M0 h i ls j st).1 vs/\Be st (M0 h i ls j st).2/\(M0 h i ls j st).2.env=st.env/\∀a,Rel w a->∀q u,vs[q]?=Aa u->a.cell? (Et s.v (i*sz c.t+(j+q)))=Aa u
 |[],j,st,ρ,hs,_,_,_=>⟨ρ,[],Ext.refl ρ,hs,trivial,Be.refl st,rfl,λ_ _ q u h=>by simp at h⟩
 |l::ls,j,st,ρ,hs,hc,hh,hl=>by
  have H:=hl 0 l rfl;have m:∀q x,ls[q]?=Aa x->(Cf c.t (el c.L i))[j+1+q]?=Aa x:=λq x g=>by have:=hl (q+1) x (by simpa using g);rwa [show j+1+q=j+(q+1)by omega]
  have n:∀(u:Value) (hu:u.oneCell'=true),l.ce=cV u hu->∀a,Rel w a->a.cell? (Et s.v (i*sz c.t+j))=Aa u:=λu hu F a f=>by obtain⟨s',I,k2⟩:=(hs.rel f).rd hc;rw[hh]at I;cases I;refine Cs.get (hu:=hu) k2 (Fu c.t) hi ?_;rw[Bsa (j:=j) (by simpa using H),F]
  have De:∀(x:Cell) (u:Value),x.Den ρ u->(∀a,Rel w a->a.cell? (Et s.v (i*sz c.t+j))=Aa u)->
    ∃ρ' vs,Ext ρ ρ'/\Sat B Af ρ' (M0 h i ls (j+1) st).2 env w/\All2 (Cell.Den ρ') (x::(M0 h i ls (j+1) st).1) vs/\Be st (M0 h i ls (j+1) st).2/\(M0 h i ls (j+1) st).2.env=st.env/\∀a,Rel w a->∀q u,vs[q]?=Aa u->a.cell? (Et s.v (i*sz c.t+(j+q)))=Aa u:=λx u hx d=>by
   obtain⟨ρ',vs,k,o,p,z,A,C⟩:=Axo hi ls (j+1) st ρ hs hc hh m;refine⟨ρ',u::vs,k,o,⟨hx.mono k,p⟩,z,A,λa f q v g=>?_⟩;cases q with
   |zero=>cases g;exact d a f
   |succ q=>rw[show j+(q+1)=j+1+q by omega];exact C a f q v (by simpa using g)
  cases l with
  |i x=>exact De (.i .i64 x) (.int .i64 x) rfl (n _ rfl rfl)
  |b x=>exact De (.b x) (.bool x) rfl (n _ rfl rfl)
  |s x=>exact De (.s x) (.string x) rfl (n _ rfl rfl)
  |y x=>exact De (.y x) (.int .u8 (x.toNat:Int)) rfl (n _ rfl rfl)
  |sl t L=>
   obtain⟨s',G,D,M,N,F,d⟩:=B7v hs hc hh hi (j:=j) (t:=t) (l:=L) (by simpa using H);have hx:=Ext.one ρ (.row s');obtain⟨ρ',vs,k,o,p,z,A,C⟩:=Axo hi ls (j+1) _ _ G D (hx.get hh) m;have e:=Gn ρ (.row s');rw[hs.len]at e;refine⟨ρ',s'.v::vs,hx.trans k,o,⟨⟨s',k.get e,rfl⟩,p⟩,M.trans z,A.trans F,λa f q v g=>?_⟩;cases q with
   |zero=>cases g;exact d a f
   |succ q=>rw[show j+(q+1)=j+1+q by omega];exact C a f q v (by simpa using g)
theorem Bwz {s:Sv}{a o} (h:s.p=Aa ⟨a,o,Ab⟩) j q:(Et s.v j).add q=Et s.v (j+q):=by
 obtain⟨p,m,c⟩:=s;simp only at h;subst h;simp only[Sv.v,Et];unfold Addr.add;split
 ·rename_i b;rw[b,Ae9]
 ·rw[Er]
theorem Acy{h i}:∀ls j st,(M0 h i ls j st).1.length=ls.length
 |[],_,_=>rfl
 |.i _::r,j,st=>congrArg (· +1) (Acy r (j+1) st)
 |.b _::r,j,st=>congrArg (· +1) (Acy r (j+1) st)
 |.s _::r,j,st=>congrArg (· +1) (Acy r (j+1) st)
 |.y _::r,j,st=>congrArg (· +1) (Acy r (j+1) st)
 |.sl _ _::r,j,st=>congrArg (· +1) (Acy r (j+1) _)
def LkOk (B:Dn) (Af:List Rd) (ρ:List HV) (st:Ai) (env:Env) (w:World) (op:Op) (K:SV->Ai->Option R) (r:R):Prop:=
 ∃sv v a ρ',K sv a=Aa r/\Ext ρ ρ'/\Sat B Af ρ' a env w/\sv.Den ρ' v/\Be st a/\a.env=st.env/\∀b,Rel w b->∀n d ty pos af g,Runs prog n env b ⟨d,op,ty,pos,af,g⟩ v b
def LkAll (B:Dn) (Af:List Rd) (ρ:List HV) (st:Ai) (env:Env) (w:World) (op:Op) (K:SV->Ai->Option R) (r:R):Prop:=
 ∃sv v a ρ',K sv a=Aa r/\Ext ρ ρ'/\Sat B Af ρ' a env w/\sv.Den ρ' v/\Be st a/\a.env=st.env/\∀b n d ty pos af g,Runs prog n env b ⟨d,op,ty,pos,af,g⟩ v b
variable {op:Op} {K:SV->Ai->Option R}
theorem LkAll.ok (h:LkAll B Af ρ st env w op K r):LkOk B Af ρ st env w op K r:=by obtain⟨sv,v,a,ρ',b,c,d,e,f,g,i⟩:=h;exact⟨sv,v,a,ρ',b,c,d,e,f,g,λj _=>i j⟩
theorem LkAll.same (f:Sat B Af ρ st env w){sv v} (c:K sv st=Aa r) (b:sv.Den ρ v) (e:∀a n d ty pos af g,Runs prog n env a ⟨d,op,ty,pos,af,g⟩ v a):LkAll B Af ρ st env w op K r:=
 ⟨sv,v,st,ρ,c,Ext.refl ρ,f,b,Be.refl st,rfl,e⟩
theorem LkOk.same (f:Sat B Af ρ st env w){sv v} (c:K sv st=Aa r) (b:sv.Den ρ v) (e:∀a,Rel w a->∀n d ty pos af g,Runs prog n env a ⟨d,op,ty,pos,af,g⟩ v a):LkOk B Af ρ st env w op K r:=
 ⟨sv,v,st,ρ,c,Ext.refl ρ,f,b,Be.refl st,rfl,e⟩
theorem B1f (a:Sat B Af ρ st env w){x} (h:Wv st x K=Aa r):LkOk B Af ρ st env w (.move x) K r:=by
 unfold Wv at h;split at h
 ·rename_i v d;obtain⟨u,b,c⟩:=a.env.evS d;exact .same a h c λ_ _ _ _ _ _ _ _=>Azi b
 ·cases h
theorem B00 (a:Sat B Af ρ st env w){x} (h:Wv st x K=Aa r):LkOk B Af ρ st env w (.assign x) K r:=by
 unfold Wv at h;split at h
 ·rename_i v d;obtain⟨u,b,c⟩:=a.env.evS d;exact .same a h c λ_ _ _ _ _ _ _ _=>Aze b
 ·cases h
theorem B1g (a:Sat B Af ρ st env w){x} (h:Anh st x K=Aa r):LkOk B Af ρ st env w (.nilCheck x) K r:=by
 unfold Anh at h;split at h
 ·rename_i k o e;obtain⟨u,c,b,d,rfl⟩:=a.env.evC e;exact .same a h ⟨b,d,rfl⟩ λ_ _ _ _ _ _ _ _=>Be5 c
 ·rename_i k q i j e;obtain⟨u,c,b,d,rfl,f⟩:=a.env.evC e;exact .same a h ⟨b,d,rfl,f⟩ λ_ _ _ _ _ _ _ _=>Be5 c
 ·cases h
theorem B06 (a:Sat B Af ρ st env w){x i} (h:Anb st x i K=Aa r):LkOk B Af ρ st env w (.extract x i) K r:=by
 unfold Anb at h;split at h
 ·rename_i l g;split at h
  ·rename_i v f;obtain⟨u,b,vs,c,rfl⟩:=a.env.evS g;obtain⟨z,d,e⟩:=c.nth f;exact .same a h e λ_ _ _ _ _ _ _ _=>B4k b (by simpa using d)
  ·cases h
 ·cases h
theorem B1h (a:Sat B Af ρ st env w){x t} (h:Ani st x K=Aa r):LkOk B Af ρ st env w (.unOp .not t x) K r:=by
 unfold Ani at h;split at h
 ·rename_i b d;exact .same a h (sv:=.v (.c (.b !b))) rfl λ_ _ _ _ _ _ _ _=>Aol (a.env.evB d)
 ·cases h
theorem B4n{n env w d ty pos af g x t q off j} {s:Sv}{a o fs fd size bytes z} (h:prog.underlying t=Aa (.struct fs)) (e:fs[q]?=Aa fd) (ho:fd.offset=off)
  (f:Sz prog fd.type size bytes z) (b:s.p=Aa ⟨a,o,Ab⟩) (hx:ev env x=Aa (.pointer (Aa (Et s.v j)))):
  Runs prog n env w ⟨d,.fieldAddr t x q,ty,pos,af,g⟩ (.pointer (Aa (Et s.v (j+off)))) w:=by
 obtain⟨p,m,c⟩:=s;simp only at b;subst b;simp only[Sv.v,Et]at hx⊢;rw[<-Er];exact Be2 h e ho f hx
theorem Jb{a b} (h:kq a b=true):a=b:=of_decide_eq_true h
theorem Bb1{t} (h:Aw3 t=true):prog.underlying t=Aa .bool:=by
 unfold Aw3 at h;split at h
 ·rename_i ti e;obtain⟨⟨d,c,b⟩,_⟩:=Js e;split at h
  ·rename_i a;rw[a]at b;cases b;exact c
  ·cases h
 ·cases h
theorem Age{t} (h:Zf t=true):prog.underlying t=Aa .string:=by
 unfold Zf at h;split at h
 ·rename_i ti e;obtain⟨⟨d,c,b⟩,_⟩:=Js e;split at h
  ·rename_i a;rw[a]at b;cases b;exact c
  ·cases h
 ·cases h
theorem Y3{t e ei} (h:R8 t=Aa (e,ei)):prog.underlying t=Aa (.slice e)/\Abo prog e ei:=by
 unfold R8 at h;split at h
 ·rename_i ti j;obtain⟨⟨d,g,c⟩,_⟩:=Js j;split at h
  ·rename_i f b;rw[b]at c;cases c;cases a:Jr f with
   |none=>rw[a]at h;cases h
   |some i=>rw[a]at h;cases h;exact⟨g,Js a⟩
  ·cases h
 ·cases h
theorem bt{b x} (h:(bif b then x else Ab)=Aa r):b=true/\x=Aa r:=by
 cases b with
 |true=>exact⟨rfl,h⟩
 |false=>cases h
theorem B0h{t} (h:Bb2 t=true):prog.underlying t=Aa (.interface (prog.methodsAt t)):=by cases Br h;kernel_rfl
theorem B05 (p:Sat B Af ρ st env w){op x y t u ok v} (hx:ev env x=Aa v) (k:ev env y=Aa .nilIface) (o:(Cell.er ok).Den ρ v) (h:Ana st op t y ok K=Aa r):LkOk B Af ρ st env w (.binOp op t x y u) K r:=by
 unfold Ana at h;have e:=(bt h).1;replace h:=(bt h).2;have j:=B0h e;split at h
 ·rename_i q;refine .same p h (sv:=.v (.c (.b ok))) (v:=.bool ok) rfl λi _ n d ty pos af g a f=>?_;rcases o with⟨rfl,rfl⟩|⟨rfl,l,m,rfl⟩
  ·simp[execOp,f.ev hx,f.ev k,eqGuard,Go.run_eql_nil_nil (P:=prog) i t j]
  ·simp[execOp,f.ev hx,f.ev k,eqGuard,Go.run_eql_held_nil (P:=prog) i t l m j]
 ·rename_i q;refine .same p h (sv:=.v (.c (.b !ok))) (v:=.bool !ok) rfl λi _ n d ty pos af g a f=>?_;rcases o with⟨rfl,rfl⟩|⟨rfl,l,m,rfl⟩
  ·simp[execOp,f.ev hx,f.ev k,eqGuard,Go.run_neq_nil_nil (P:=prog) i t j]
  ·simp[execOp,f.ev hx,f.ev k,eqGuard,Go.run_neq_held_nil (P:=prog) i t l m j]
 ·cases h
theorem A6z:∀ {l:List IntKind},Ak1 l=true->∀k∈l,k=.i64
 |[],_,_,h=>by cases h
 |a::l,h,k,b=>by
  simp only[Ak1,A9]at h;rcases Bq.1 b with rfl|b
  ·exact Jb h.1
  ·exact A6z h.2 k b
theorem B0z (C:Sat B Af ρ st env w){op x y t u} (L:is3 t=true){a b va vb} (n:ev env x=Aa va) (o:ev env y=Aa vb) (D:a.Den ρ va) (F:b.Den ρ vb) (h:lk3 st op a b K=Aa r):LkOk B Af ρ st env w (.binOp op t x y u) K r:=by
 unfold lk3 at h;split at h
 ·rename_i P f k2 j Q k M m1 N m2 O m3;have d:=A6z (bt h).1;replace h:=(bt h).2;have l:=d P (by simp);have e2:=d k2 (by simp);have m:=d Q (by simp);have G:=d M (by simp);have H:=d N (by simp);have I:=d O (by simp);subst l e2 m G H I
  have C7:∀ {f j k:Int} {v:Value},V1.Den ρ (.a [.i .i64 f,.i .i64 j,.i .i64 k]) v->v=.agg #[.int .i64 f,.int .i64 j,.int .i64 k]:=λ{f j k v} ⟨vs,g,e⟩=>by
   match vs,g with
   |[u1,u2,u3],⟨g1,g2,g3,_⟩=>have l:u1=.int .i64 f:=g1;have e2:u2=.int .i64 j:=g2;have m:u3=.int .i64 k:=g3;rw[e,l,e2,m]
   |[],g=>exact g.elim
   |[_],⟨_,g⟩=>exact g.elim
   |[_,_],⟨_,_,g⟩=>exact g.elim
   |_::_::_::_::_,⟨_,_,_,g⟩=>exact g.elim
  cases C7 D;cases C7 F;cases Br L;have p:prog.underlying 111=Aa (.struct (prog.fieldsOf 111)):=by kernel_rfl
  have q:prog.stoodInHeld 111=false:=by kernel_rfl
  have s:prog.eqGuardType prog.depth 111=false:=by kernel_rfl
  have z:fl3 prog 111 3=true:=by kernel_rfl
  have A:prog.underlying 3=Aa (.int .i64):=by kernel_rfl
  split at h
  ·exact .same C h (sv:=.v (.c (.b _))) rfl λ_ _ _ _ _ _ _ _=>B4h p q s z A n o
  ·exact .same C h (sv:=.v (.c (.b _))) rfl λ_ _ _ _ _ _ _ _=>B43 p q s z A n o
  ·cases h
 ·cases h
theorem B02{C} (l:Sat B Af ρ st env w){op x y t u} (h:Am8 C st op t x y K=Aa r):LkOk B Af ρ st env w (.binOp op t x y u) K r:=by
 unfold Am8 at h;split at h
 ·rename_i ok I L;obtain⟨T,o,A⟩:=l.env.ev1 I;obtain⟨U,p,D⟩:=l.env.ev1 L;cases D.1;exact B05 l o p A h
 ·rename_i a b I L;obtain⟨T,o,A⟩:=l.env.ev1 I;obtain⟨U,p,D⟩:=l.env.ev1 L;cases H:is3 t with
  |true=>rw[H]at h;exact B0z l H o p A D h
  |false=>
  rw[H]at h;simp only[cond_false]at h;unfold bin at h;split at h
  ·rename_i a b;split at h
   ·rename_i c F;unfold Bg9 at F;split at F
    ·rename_i N k q X m;obtain⟨Q,F⟩:=bt F;cases F;cases Br Q;obtain⟨rfl,_,s,s1,S,_⟩:=A;obtain⟨rfl,s',M,Y⟩:=D;rw[s1]at M;cases M;refine .same l h (sv:=.v (.c (.b true))) (v:=.bool true) rfl λV _ n d ty pos af g=>?_;have:=Azh (P:=prog) (n:=n) (w:=V) (d:=d) (ty:=ty) (pos:=pos) (af:=af) (g:=g) (t:=t) (u:=u) o p;rwa [show decide ((k:Int)<(m:Int))=true by simp;omega]at this
    ·rename_i N k q;cases F;obtain⟨rfl,z,s,s1,S,M⟩:=A;cases D;exact .same l h (sv:=.v (.c (.sx N k q))) (v:=iv ((k:Int)+1)) ⟨rfl,z⟩ λ_ _ _ _ _ _ _ _=>J0 o p ⟨by omega,by omega⟩
    ·cases F
   ·split at h
    ·rename_i W i k2 j z O;cases Abs A z;cases Abs D O;unfold Afm at h;split at h
     ·obtain⟨e,f⟩:=bt h;cases Jb e;exact .same l f (sv:=.v (.c (.b _))) rfl λ_ _ _ _ _ _ _ _=>Azh o p
     ·obtain⟨e,f⟩:=bt h;cases Jb e;exact .same l f (sv:=.v (.c (.b _))) rfl λ_ _ _ _ _ _ _ _=>B4v o p
     ·obtain⟨e,f⟩:=bt h;cases Jb e;exact .same l f (sv:=.v (.c (.b _))) rfl λ_ _ _ _ _ _ _ _=>Aok o p
     ·obtain⟨e,f⟩:=bt h;cases Jb e;exact .same l f (sv:=.v (.c (.b _))) rfl λ_ _ _ _ _ _ _ _=>B4o o p
     ·obtain⟨e,f⟩:=bt h;cases Jb e;exact .same l f (sv:=.v (.c (.b _))) rfl λ_ _ _ _ _ _ _ _=>Xb o p
     ·obtain⟨e,f⟩:=bt h;cases Jb e;exact .same l f (sv:=.v (.c (.b _))) rfl λ_ _ _ _ _ _ _ _=>B42 o p
     ·obtain⟨e,f⟩:=bt h;simp only[A9]at e;cases Jb e.1;cases Jb e.2;cases G:C.wrap with
      |true=>rw[G]at f;exact .same l f (sv:=.v (.c (.i .i64 _))) rfl λ_ _ _ _ _ _ _ _=>B4a o p
      |false=>rw[G]at f;obtain⟨z,f⟩:=C8 f;exact .same l f (sv:=.v (.c (.i .i64 _))) rfl λ_ _ _ _ _ _ _ _=>J0 o p z
     ·obtain⟨e,f⟩:=bt h;simp only[A9]at e;cases Jb e.1;cases Jb e.2;obtain⟨z,f⟩:=C8 f;exact .same l f (sv:=.v (.c (.i .i64 _))) rfl λ_ _ _ _ _ _ _ _=>Aom o p z
     ·obtain⟨e,f⟩:=bt h;simp only[A9]at e;cases Jb e.1;cases Jb e.2;cases G:C.wrap with
      |true=>rw[G]at f;exact .same l f (sv:=.v (.c (.i .i64 _))) rfl λ_ _ _ _ _ _ _ _=>B41 o p
      |false=>rw[G]at f;obtain⟨z,f⟩:=C8 f;exact .same l f (sv:=.v (.c (.i .i64 _))) rfl λ_ _ _ _ _ _ _ _=>B40 o p z
     ·obtain⟨e,f⟩:=bt h;simp only[A9]at e;cases Jb e.1;cases Jb e.2;obtain⟨z,f⟩:=C8 f;exact .same l f (sv:=.v (.c (.i .i64 _))) rfl λ_ _ _ _ _ _ _ _=>B49 o p z
     ·obtain⟨e,f⟩:=bt h;simp only[A9]at e;cases Jb e.1;cases Jb e.2;obtain⟨z,f⟩:=C8 f;exact .same l f (sv:=.v (.c (.i .i64 _))) rfl λ_ _ _ _ _ _ _ _=>B48 o p z
     ·obtain⟨e,f⟩:=bt h;simp only[A9]at e;cases Jb e.1;cases Jb e.2;exact .same l f (sv:=.v (.c (.i .i64 _))) rfl λ_ _ _ _ _ _ _ _=>B4b o p
     ·obtain⟨e,f⟩:=bt h;simp only[A9]at e;cases Jb e.1;cases Jb e.2;exact .same l f (sv:=.v (.c (.i .i64 _))) rfl λ_ _ _ _ _ _ _ _=>B5m o p
     ·obtain⟨e,f⟩:=bt h;cases Jb e;obtain⟨z,f⟩:=C8 f;exact .same l f (sv:=.v (.c (.i .i64 _))) rfl λ_ _ _ _ _ _ _ _=>B5a o p z
     ·cases h
    ·split at h
     ·cases A;cases D;split at h
      ·have e:=(bt h).1;replace h:=(bt h).2;exact .same l h (sv:=.v (.c (.b _))) rfl λ_ _ _ _ _ _ _ _=>B4i (Bb1 e) o p
      ·have e:=(bt h).1;replace h:=(bt h).2;exact .same l h (sv:=.v (.c (.b _))) rfl λ_ _ _ _ _ _ _ _=>B44 (Bb1 e) o p
      ·cases h
     ·cases A;cases D;split at h
      ·have z:=(C8 h).1;replace h:=(C8 h).2;exact .same l h (sv:=.v (.c (.s _))) rfl λ_ _ _ _ _ _ _ _=>B39 o p z
      ·exact .same l h (sv:=.v (.c (.b _))) rfl λ_ _ _ _ _ _ _ _=>B4j o p
      ·exact .same l h (sv:=.v (.c (.b _))) rfl λ_ _ _ _ _ _ _ _=>B45 o p
      ·exact .same l h (sv:=.v (.c (.b _))) rfl λ_ _ _ _ _ _ _ _=>B4w o p
      ·exact .same l h (sv:=.v (.c (.b _))) rfl λ_ _ _ _ _ _ _ _=>B4p o p
      ·cases h
     ·cases h
  ·cases h
 ·cases h
theorem Avv{t k off fi} (h:Al7 t k=Aa (off,fi)):∃fs f,prog.underlying t=Aa (.struct fs)/\fs[k]?=Aa f/\f.offset=off/\Abo prog f.type fi:=by
 unfold Al7 at h;split at h
 ·rename_i ti o;obtain⟨⟨d,m,g⟩,_⟩:=Js o;split at h
  ·rename_i fs e;rw[e]at g;obtain⟨l,rfl,n⟩:=g;split at h
   ·rename_i j p b;rw[Ol,<-n,Abi]at b;cases c:l.toList[k]? with
    |none=>rw[c]at b;cases b
    |some f=>
     rw[c]at b;cases b;cases a:Jr f.type with
     |none=>rw[a]at h;cases h
     |some i=>rw[a]at h;cases h;exact⟨l,f,m,by simpa using c,rfl,Js a⟩
   ·cases h
  ·cases h
 ·cases h
theorem B07 (a:Sat B Af ρ st env w){x t k} (h:Anc st t x k K=Aa r):LkOk B Af ρ st env w (.fieldAddr t x k) K r:=by
 unfold Anc at h;split at h
 ·rename_i q o off A hx p;obtain⟨fs,f,d,e,g,⟨_,z,l,_⟩⟩:=Avv p;obtain⟨u,m,b,n,rfl⟩:=a.env.evC hx;exact .same a h (sv:=.v (.c (.ptr q (o+off)))) ⟨b,n,rfl⟩ λ_ _ _ _ _ _ _ _=>Be2 d e g l m
 ·rename_i q s i j off A hx p;obtain⟨fs,f,d,e,g,⟨_,z,l,_⟩⟩:=Avv p;obtain⟨u,m,b,n,rfl,C,D,F,y⟩:=a.env.evC hx;exact .same a h (sv:=.v (.c (.ep q s i (j+off)))) ⟨b,n,by rw[<-Er],C,D,F,y⟩ λ_ _ _ _ _ _ _ _=>B4n d e g l y m
 ·cases h
theorem Apx{k d} (h:k.Is d) (a:Ze k=false):Ac0 d=true:=by
 cases k with
 |struct fs=>cases a
 |other=>exact h
 |_=>cases h;rfl
theorem B0f{t d} (hu:prog.underlying t=Aa d) (a:Ac0 d=true) w:(isAgg t).run prog w=.ok false w:=by simp only[isAgg,Sem.run_bind,run_underlying hu,Result.andThen_ok];cases d<;>first|rfl|cases a
theorem Axn{ti cs o v} (h:Agm ti cs o=Aa v){vs} (d:All2 (Cell.Den ρ) cs vs):
  (Ze ti.k=true/\((vs.drop o).take ti.size).length=ti.size/\v.Den ρ (.agg ((vs.drop o).take ti.size).toArray))\/(Ze ti.k=false/\∃u,vs[o]?=Aa u/\v.Den ρ u):=by
 unfold Agm at h;cases f:Ze ti.k with
 |true=>rw[f]at h;have e:=(bt h).1;replace h:=(bt h).2;cases h;have a:=(d.drop o).take ti.size;exact .inl ⟨rfl,by rw[<-a.len];exact Br e,_,a,rfl⟩
 |false=>
  rw[f]at h;cases b:nth cs o with
  |none=>rw[b]at h;cases h
  |some c=>rw[b]at h;cases h;obtain⟨u,a,g⟩:=d.nth b;exact .inr ⟨rfl,u,a,g⟩
theorem B08 (e:Sat B Af ρ st env w){x t k} (h:Ane st t x k K=Aa r):LkOk B Af ρ st env w (.field t x k) K r:=by
 unfold Ane at h;split at h
 ·rename_i cs off q hx y;obtain⟨fs,f,i,j,m,⟨⟨d,o,c⟩,z,p,_⟩⟩:=Avv y;obtain⟨u,n,vs,s,rfl⟩:=e.env.ev1 hx;split at h
  ·rename_i v A;rcases Axn A s with⟨b,k2,g⟩|⟨b,u,k2,g⟩
   ·refine .same e h (sv:=.v v) g λC _ _ _ _ _ _ _=>B4m i j n (λw=>?_) p ?_
    ·cases a:q.k with
     |struct l=>rw[a]at c;obtain⟨l',rfl,_⟩:=c;exact Brj o w
     |_=>rw[a]at b;cases b
    ·rw[m];apply Ast;simp[List.extract_eq_take_drop]
   ·exact .same e h (sv:=.v v) g λC _ _ _ _ _ _ _=>B4l i j n (λw=>B0f o (Apx c b) w) (by rw[m];simpa using k2)
  ·cases h
 ·cases h
theorem B1c (C:Sat B Af ρ st env w){x t} (h:Ang st t x K=Aa r):LkOk B Af ρ st env w (.load t x) K r:=by
 unfold Ang at h;split at h
 ·rename_i q o ti hx V;obtain⟨u,F,b,N,rfl⟩:=C.env.evC hx;obtain⟨⟨d,G,A⟩,z,X,_⟩:=Js V;split at h
  ·rename_i cs hb;split at h
   ·rename_i v hv;obtain⟨m,rs,m1,m2,m3,hM⟩:=C.mem;obtain⟨b',e,vs,T,b2,U⟩:=Yo m1 hb;rw[N]at T;cases T;rcases Axn hv b2 with⟨P,k2,Y⟩|⟨P,u,k2,Y⟩
    ·cases f:ti.k with
     |struct l=>rw[f]at A;obtain⟨l',rfl,_⟩:=A;exact .same C h (sv:=.v v) Y λM D _ _ _ _ _ _=>B4s G X F k2 (hM.call D) U rfl
     |_=>rw[f]at P;cases P
    ·exact .same C h (sv:=.v v) Y λM D _ _ _ _ _ _=>B4r G (Apx A P) F (hM.call D) U (by simpa using k2)
   ·cases h
  ·cases h
 ·rename_i q k i j ti hx V;obtain⟨u,F,s,N,rfl,h3,a,o,h4⟩:=C.env.evC hx;obtain⟨⟨d,G,A⟩,z,X,_⟩:=Js V;split at h
  ·rename_i c hc;have e:=(bt h).1;replace h:=(bt h).2;simp only[A9]at e;have e1:=Br e.1;have e2:j+ti.size<=k:=Ql e.2;subst e1;obtain⟨s',s1,s2⟩:=C.rd hc;rw[N]at s1;cases s1;obtain⟨sf,I,c3,_,_⟩:=Cs.form s2
   have hi:i<c.L.length:=by
    have:s=sf:=by obtain⟨Q,S,n⟩:=s;obtain⟨T,b2,U⟩:=sf;simp only[Sv.v,Value.slice.injEq]at I;obtain⟨rfl,rfl,rfl⟩:=I;rfl
    subst this;omega
   have H:(((Cf c.t (el c.L i)).drop j).take ti.size).length=ti.size:=by rw[Dh,D0,Kz];omega
   obtain⟨ρ',vs,Q,S,n,a4,a5,a6⟩:=Axo (s:=s) hi (((Cf c.t (el c.L i)).drop j).take ti.size) j st ρ C hc N (λp x O=>by
    rw[Nk]at O;split at O
    ·rwa [K6]at O
    ·cases O)
   have W:vs.length=ti.size:=by rw[<-n.len,Acy,H]
   cases g:Ze ti.k with
   |true=>
    rw[g]at h;refine⟨.v (.a _),.agg vs.toArray,_,ρ',h,Q,S,⟨vs,n,rfl⟩,a4,a5,λM D _ _ _ _ _ _=>?_⟩;cases f:ti.k with
    |struct l=>rw[f]at A;obtain⟨l',rfl,_⟩:=A;refine Be4 G X F W λq u hq=>?_;have:=a6 M D q u hq;rw[<-this];rw[Bwz h4,Er]
    |_=>rw[f]at g;cases g
   |false=>
    rw[g]at h;simp only[cond_false]at h;split at h
    ·rename_i y hy;rw[hy]at n;cases vs with
     |nil=>exact n.elim
     |cons v vs=>
      cases vs with
      |nil=>exact⟨.v (.c _),v,_,ρ',h,Q,S,n.1,a4,a5,λM D _ _ _ _ _ _=>Be3 G (Apx A g) F (by have:=a6 M D 0 v rfl;simpa using this)⟩
      |cons v' vs=>exact n.2.elim
    ·cases h
  ·cases h
 ·cases h
theorem Bcq (l:Sat B Af ρ st env w){x y t} (h:Acu st t x y K=Aa r):LkAll B Af ρ st env w (.indexAddr t x y) K r:=by
 unfold Acu at h;split at h
 ·rename_i q i e ei hx X V;obtain⟨u,S,s,F,rfl⟩:=l.env.evC hx;obtain⟨v,g1,g2⟩:=l.env.evC X;obtain⟨t1,_,z,N,_⟩:=Y3 V;split at h
  ·rename_i c T;have P:=(bt h).1;replace h:=(bt h).2;rw[Br P]at N;obtain⟨s',s1,T0,f0,L0,s3,C⟩:=l.rdI T;rw[F]at s1;cases s1;have a:∀n:Int,v=.int .i64 n->0<=n/\n<(c.L.length:Int)->(SV.v (.c (.ep q (sz c.t) n.toNat 0))).Den ρ (.pointer (Aa (Et s.v (n.toNat*sz c.t))))/\∀I n' d ty pos af g,Runs prog n' env I ⟨d,.indexAddr t x y,ty,pos,af,g⟩ (.pointer (Aa (Et s.v (n.toNat*sz c.t)))) I:=λn W A=>by subst W;obtain⟨b,off,Y,cap,M⟩:=Cs.ptr C (i:=n.toNat) (by omega);obtain⟨H,f,j,_,_⟩:=Cs.form C;obtain⟨p,m,O⟩:=s;obtain⟨p',m',D⟩:=H;simp only[Sv.v,Value.slice.injEq]at M f j;refine⟨⟨_,F,by rw[Ae9],by simp only;omega,b,off,M.1⟩,λI _ _ _ _ _ _=>B4q t1 N S g1 C (by omega)⟩
   split at h
   ·rename_i u' k Q;obtain⟨rfl,_,s',g3,g4,_⟩:=g2;cases G:Ay q Q with
    |true=>
     rw[G]at h;cases Br G;rw[F]at g3;cases g3;obtain⟨H,f,j,_,_⟩:=Cs.form C;have U:k<c.L.length:=by obtain⟨p,m,O⟩:=s;obtain⟨p',m',D⟩:=H;simp only[Sv.v,Value.slice.injEq]at f j g4;omega
     obtain⟨o,k2⟩:=a (k:Int) rfl ⟨by omega,by omega⟩;exact .same l h o k2
    |false=>rw[G]at h;have A:=(C8 h).1;replace h:=(C8 h).2;obtain⟨o,k2⟩:=a (k:Int) rfl A;exact .same l h o k2
   ·rename_i n;cases g2;have A:=(C8 h).1;replace h:=(C8 h).2;obtain⟨o,k2⟩:=a n rfl A;exact .same l h o k2
   ·cases h
  ·cases h
 ·cases h
theorem B1a (a:Sat B Af ρ st env w){x y t} (h:Acu st t x y K=Aa r):LkOk B Af ρ st env w (.indexAddr t x y) K r:=(Bcq a h).ok
theorem B1i (a:Sat B Af ρ st env w){x y t} (h:Anj st t x y K=Aa r):LkOk B Af ρ st env w (.index t x y) K r:=by
 unfold Anj at h;split at h
 ·rename_i s c hx i;obtain⟨u,b,d⟩:=a.env.evC hx;cases d;obtain⟨v,g1,g2⟩:=a.env.evC i;split at h
  ·rename_i n g;cases Abs g2 g;have e:=(bt h).1;replace h:=(bt h).2;have f:=(C8 h).1;replace h:=(C8 h).2;exact .same a h (sv:=.v (.c (.y _))) rfl λ_ _ _ _ _ _ _ _=>B5b (Age e) b g1 f
  ·cases h
 ·cases h
theorem Qp{a b l m} (h:Mt a b l=Aa m):∃e:a=b,e▸l=m:=by
 unfold Mt at h;split at h
 ·rename_i c;cases h;exact⟨Ty.eq_of_beq c,rfl⟩
 ·cases h
theorem Bac{t} (h:Al2 t=true):∃e,prog.underlying t=Aa (.slice e)/\prog.underlying e=Aa (.int .u8):=by
 unfold Al2 at h;split at h
 ·rename_i e ei f;obtain⟨g,⟨d,c,b⟩,_⟩:=Y3 f;unfold isY at h;split at h
  ·rename_i a;rw[a]at b;cases b;exact⟨e,g,c⟩
  ·cases h
 ·cases h
theorem B01 (b:Sat B Af ρ st env w){x s t q v} (g1:ev env x=Aa v.v) (g2:ρ[q]?=Aa (.row v)) (h:Am7 st s t q K=Aa r):LkOk B Af ρ st env w (.convert s t x) K r:=by
 unfold Am7 at h;have e:=(bt h).1;replace h:=(bt h).2;simp only[A9]at e;obtain⟨l,g,e2⟩:=Bac e.2;split at h
 ·rename_i c j;split at h
  ·rename_i L i;obtain⟨m,L'⟩:=c;obtain⟨d,k2⟩:=Qp i;simp only at d;subst d;simp only at k2;subst k2;refine .same b h (sv:=.v (.c (.s _))) rfl λo k _ _ _ _ _ _=>?_;obtain⟨n,a,f⟩:=(b.rel k).rd j;rw[g2]at a;cases a;exact B4c (L:=L') g (Age e.1) e2 g1 f
  ·cases h
 ·cases h
theorem B04 (f:Sat B Af ρ st env w){x s t} (h:Am9 st s t x K=Aa r):LkOk B Af ρ st env w (.convert s t x) K r:=by
 unfold Am9 at h;split at h
 ·rename_i n m ti hx g j;obtain⟨u,g1,g2⟩:=f.env.evC hx;cases g2;obtain⟨⟨d,k,_⟩,_⟩:=Js g;obtain⟨⟨o,b,a⟩,_⟩:=Js j;split at h
  ·rename_i l;rw[l]at a;cases a;exact .same f h (sv:=.v (.c (.i .i64 _))) rfl λ_ _ _ _ _ _ _ _=>B4f k b g1 (Cdg _)
  ·cases h
 ·rename_i n m ti hx g j;obtain⟨u,g1,g2⟩:=f.env.evC hx;cases g2;obtain⟨⟨d,k,_⟩,_⟩:=Js g;obtain⟨⟨o,b,a⟩,_⟩:=Js j;have e:=(bt h).1;replace h:=(bt h).2;unfold isY at e;split at e
  ·rename_i l;rw[l]at a;cases a;exact .same f h (sv:=.v (.c (.y _))) rfl λ_ _ _ _ _ _ _ _=>B4g k b g1
  ·cases e
 ·rename_i q m ti hx g j;obtain⟨u,g1,v,g2,rfl⟩:=f.env.evC hx;exact B01 f g1 g2 h
 ·cases h
theorem Bai (a:EnvOk ρ st.env env):∀ {os:List Operand} {l:List (Nat×Nat)},Al6 st.env os=Aa l->∃vs,Hw env os=Aa vs/\All2 (CapIs ρ) l vs
 |[],l,h=>by cases h;exact⟨[],rfl,trivial⟩
 |o::os,l,h=>by
  unfold Al6 at h;split at h
  ·rename_i q k ho;obtain⟨l',c,d⟩:=A1 h;cases d;obtain⟨u,g1,b,g2,rfl⟩:=a.evC ho;obtain⟨vs,e,k2⟩:=Bai a c;exact⟨pt b k::vs,by simp[Hw,g1,e],⟨b,g2,rfl⟩,k2⟩
  ·cases h
theorem B09 (a:Sat B Af ρ st env w){f Bu} (h:Anf st f Bu K=Aa r):LkOk B Af ρ st env w (.makeFunc (.func f) #[] Bu.toArray) K r:=by
 unfold Anf at h;split at h
 ·rename_i l e;obtain⟨vs,b,d⟩:=Bai a.env e;exact .same a h (sv:=.v (.c (.fn f l))) ⟨vs,rfl,d⟩ λ_ _ _ _ _ _ _ _=>B4z b
 ·cases h
theorem Bcr (a:Sat B Af ρ st env w){args tys} (h:Acv st args tys K=Aa r):LkAll B Af ρ st env w (.call ⟨.builtin .len,args.toArray,tys.toArray⟩) K r:=by
 unfold Acv at h;split at h
 ·rename_i x t;split at h
  ·rename_i q hx;obtain⟨u,d,s,b,rfl⟩:=a.env.evC hx;split at h
   ·rename_i c e n f;obtain⟨s',s1,k⟩:=a.rd n;rw[b]at s1;cases s1;obtain⟨o,g,j,y,z⟩:=Cs.form k;refine .same a h (sv:=.v (.c (.ln q c.L.length))) (v:=.int .i64 (c.L.length:Int)) ⟨rfl,s,b,?_⟩ λ_ _ _ _ _ _ _=>B4t (Y3 (e:=e.1) (ei:=e.2) f).1 d k;obtain⟨p,m,A⟩:=s;obtain⟨C,m',l⟩:=o;simp only[Sv.v,Value.slice.injEq]at g j;simp only[maxLen]at*;omega
   ·cases h
  ·rename_i hx;obtain⟨u,d,b⟩:=a.env.evC hx;cases b;split at h
   ·rename_i e f;exact .same a h (sv:=.v (.c (.i .i64 0))) (v:=.int .i64 ((0:Nat):Int)) rfl λ_ _ _ _ _ _ _=>Q2 (Y3 (e:=e.1) (ei:=e.2) f).1 d
   ·cases h
  ·rename_i s hx;obtain⟨u,d,b⟩:=a.env.evC hx;cases b;have e:=(bt h).1;replace h:=(bt h).2;exact .same a h (sv:=.v (.c (.i .i64 _))) rfl λ_ _ _ _ _ _ _=>B4u (Age e) d
  ·cases h
 ·cases h
theorem B1b (a:Sat B Af ρ st env w){args tys} (h:Acv st args tys K=Aa r):LkOk B Af ρ st env w (.call ⟨.builtin .len,args.toArray,tys.toArray⟩) K r:=(Bcr a h).ok
theorem Ns (b:EnvOk ρ st.env env){o n} (h:Nr st.env o=Aa n):ev env o=Aa (.int .i64 n):=by
 unfold Nr at h;split at h
 ·rename_i c a;obtain⟨v,e,f⟩:=b.evC a;split at h
  ·rename_i m d;cases h;rw[e,Abs f d]
  ·cases h
 ·cases h
theorem B4y{P n x y tys i j} {d:Option Nat}{ty pos af g} (hx:ev env x=Aa (.int .i64 i)) (c:ev env y=Aa (.int .i64 j)):
  Runs P n env w ⟨d,.call {callee:=.builtin .min,args:= #[x,y],argTypes:=tys},ty,pos,af,g⟩ (.int .i64 (min i j)) w:=λa b=>by
 have:(if j<i then j else i)=min i j:=by split<;>omega
 simp[execOp,resolve,invoke,builtin,b.ev hx,b.ev c,Builtin.min_,Builtin.min2,this]
theorem B4x{P n x y tys i j} {d:Option Nat}{ty pos af g} (hx:ev env x=Aa (.int .i64 i)) (c:ev env y=Aa (.int .i64 j)):
  Runs P n env w ⟨d,.call {callee:=.builtin .max,args:= #[x,y],argTypes:=tys},ty,pos,af,g⟩ (.int .i64 (max i j)) w:=λa b=>by
 have:(if i<j then j else i)=max i j:=by split<;>omega
 simp[execOp,resolve,invoke,builtin,b.ev hx,b.ev c,Builtin.max_,Builtin.max2,this]
theorem B1e (d:Sat B Af ρ st env w){args tys} (h:Wu st min args K=Aa r):LkOk B Af ρ st env w (.call ⟨.builtin .min,args.toArray,tys⟩) K r:=by
 unfold Wu at h;split at h
 ·split at h
  ·rename_i a b e f;exact .same d h (sv:=.v (.c (.i .i64 _))) rfl λ_ _ _ _ _ _ _ _=>B4y (Ns d.env e) (Ns d.env f)
  ·cases h
 ·cases h
theorem B1d (d:Sat B Af ρ st env w){args tys} (h:Wu st max args K=Aa r):LkOk B Af ρ st env w (.call ⟨.builtin .max,args.toArray,tys⟩) K r:=by
 unfold Wu at h;split at h
 ·split at h
  ·rename_i a b e f;exact .same d h (sv:=.v (.c (.i .i64 _))) rfl λ_ _ _ _ _ _ _ _=>B4x (Ns d.env e) (Ns d.env f)
  ·cases h
 ·cases h
theorem At7 (j:Sat B Af ρ st env w){op q c} (y:st.cont q=Aa c){s} (z:ρ[q]?=Aa (.row s)){lo hi} (a:lo<=hi) (b:hi<=c.L.length) (h:R2 st q c.t ((c.L.take hi).drop lo) (.cut lo hi) K=Aa r)
  (C:∀k n d ty pos af g,Runs prog n env k ⟨d,op,ty,pos,af,g⟩ (s.cut (sz c.t) lo hi).v k):LkAll B Af ρ st env w op K r:=by
 unfold R2 at h;have i:=(bt h).1;replace h:=(bt h).2;obtain⟨m,o,u⟩:=Bip j y z (t:=c.t) (l:=(c.L.take hi).drop lo) (s':=s.cut (sz c.t) lo hi) (p:=.cut lo hi) (λc' f e=>by simp[Ax9,f,e]at i) (λS x=>Cs.cut (Fu c.t) a b x) ⟨a,b,rfl,rfl,rfl⟩ λD A e=>by cases e;exact⟨a,b,rfl,rfl⟩
 exact⟨_,_,_,_,h,Ext.one ρ _,m,⟨_,by rw[<-j.len];exact Gn _ _,rfl⟩,o,u,C⟩
theorem A7j{p}:∀ {vs:List View},c3V vs=Aa p->∃v∈vs,v.h=p.1/\v.pos=.c3 p.2
 |[],h=>by cases h
 |v::r,h=>by
  unfold c3V at h;split at h
  ·rename_i hi c;cases h;exact⟨v,Bm ..,rfl,c⟩
  ·obtain⟨u,a,b⟩:=A7j h;exact⟨u,Bf _ a,b⟩
theorem Bg8{h n i k p}:∀ {own:List Chunk},Sy h n i k own=Aa p->∃a b g t L vs f,own=a++ .row h g t L vs::b/\c3V vs=Aa (f,p.1.1)/\p.1.2=L.length/\sz t=k/\p.2=a++ .row f (n+1) t ((L.take p.1.1).drop 0) []::.row n (n+2) t ((L.take L.length).drop i) []::b
 |[],hc=>by cases hc
 |c::r,hc=>by
  have d:(∃z,Sy h n i k r=Aa z/\(z.1,c::z.2)=p)->∃a b g t L vs f,c::r=a++ .row h g t L vs::b/\c3V vs=Aa (f,p.1.1)/\p.1.2=L.length/\sz t=k/\p.2=a++ .row f (n+1) t ((L.take p.1.1).drop 0) []::.row n (n+2) t ((L.take L.length).drop i) []::b:=λ⟨z,v,e⟩=>by subst e;obtain⟨y,o2,g,t,L,vs,f,j,e2,m,o,s⟩:=Bg8 v;exact⟨c::y,o2,g,t,L,vs,f,by rw[j];rfl,e2,m,o,by simp only[s];rfl⟩
  cases c with
  |row u g t L vs=>
   simp only[Sy]at hc;cases l:Ay u h with
   |true=>
    rw[l]at hc;simp only[cond_true]at hc;split at hc
    ·rename_i q x;have j:=(bt hc).1;replace hc:=(bt hc).2;cases hc;cases Br l;exact⟨[],r,g,t,L,vs,q.1,rfl,x,rfl,Br j,rfl⟩
    ·cases hc
   |false=>rw[l]at hc;simp only[cond_false,Di]at hc;exact d hc
  |box _ _ _=>simp only[Sy,Di]at hc;exact d hc
  |C9 _ _ _ _=>simp only[Sy,Di]at hc;exact d hc
  |El _ _ _ _ _ _ _=>simp only[Sy,Di]at hc;exact d hc
  |rem _ _ _ _ _=>simp only[Sy,Di]at hc;exact d hc
theorem B8q (e:Sat B Af ρ st env w){op q c} (W:st.cont q=Aa c){s} (C:ρ[q]?=Aa (.row s)){lo} (U:lo<=c.L.length) (h:splitK st q lo c.t ((c.L.take c.L.length).drop lo) (.cut lo c.L.length) K=Aa r)
  (Y:∀(T:Type) (f:T->List Ce) (L:List T),(Ar (sz c.t) f L).rd (al w) w s.v->lo<=L.length->∀w1 n d ty pos af g,Runs prog n env w1 ⟨d,op,ty,pos,af,g⟩ (s.cut (sz c.t) lo L.length).v w1):LkAll B Af ρ st env w op K r:=by
 unfold splitK at h;split at h
 ·rename_i p hp;have x:=(C8 h).1;replace h:=(C8 h).2;obtain⟨o1,o2,g,t,L,vs,hA,O,e2,e3,P,Q⟩:=Bg8 hp;rw[e3]at x;obtain⟨m,rs,S,g2,g3,V⟩:=e.mem;rw[O]at S;obtain⟨m1,m2,rfl,a1,I⟩:=S.split;cases m2 with
  |nil=>exact I.elim
  |cons a m2=>
   obtain⟨⟨q',vl,k,k2,rfl⟩,a3⟩:=I;rw[C]at k;cases k;obtain⟨v,v1,v2,v3⟩:=A7j e2;obtain⟨sA,ex,M,N,_,_⟩:=k2.at_ v v1;rw[v3]at N;obtain⟨c1,c2,c3,_⟩:=N;simp only at v2;rw[v2]at M;have D:=V.mid.seeOV (Bm ..)
   have y:St B ([oC (Ar (sz t) (fD t) ((L.take p.1.1).drop 0)) (s.cut3 p.1.1).v,oC (Ar (sz t) (fD t) ((L.take L.length).drop lo)) (s.cut (sz t) lo L.length).v]++(m1++m2)) rs w:=
    St.iso (l:=[oC (Ar (sz t) (fD t) L) s.v]) V.mid.unview λF ⟨h0,F1,F2,f1,f2,f3,f4,f5⟩=>(Own.split (Fu t) x.1 x.2 f1).up f4 h0
   have G:=Ext.one ρ (.row (s.cut (sz t) lo L.length));have hx:Ext ρ (ρ++[.row (s.cut (sz t) lo L.length)]++[.num 0]++[.num 0]):=(G.trans (Ext.one _ _)).trans (Ext.one _ _);have X:(ρ++[.row (s.cut (sz t) lo L.length)]++[.num 0]++[.num 0])[st.Ak]?=Aa (.row (s.cut (sz t) lo L.length)):=by have:=Gn ρ (.row (s.cut (sz t) lo L.length));rw[e.len]at this;exact(Ext.one _ _).get ((Ext.one _ _).get this)
   have A:St B (m1++oV (oC (Ar (sz t) (fD t) ((L.take p.1.1).drop 0)) (s.cut3 p.1.1).v) []::oV (oC (Ar (sz t) (fD t) ((L.take L.length).drop lo)) (s.cut (sz t) lo L.length).v) []::m2) rs w:=by
    refine(St.perm (m':=m1++([oC (Ar (sz t) (fD t) ((L.take p.1.1).drop 0)) (s.cut3 p.1.1).v,oC (Ar (sz t) (fD t) ((L.take L.length).drop lo)) (s.cut (sz t) lo L.length).v]++m2)) y (by
     rw[<-Ci,<-Ci];exact Gg.append_right m2)).z λF hF=>?_
    have u:∀ {o:As} {l:List As} {F:Bs},Sep (o::l) F w->Sep (oV o []::l) F w:=λh=>Z.toV _ h
    have H:∀(m1:List As) {F:Bs},Sep (m1++oC (Ar (sz t) (fD t) ((L.take p.1.1).drop 0)) (s.cut3 p.1.1).v::oC (Ar (sz t) (fD t) ((L.take L.length).drop lo)) (s.cut (sz t) lo L.length).v::m2) F w->Sep (m1++oV (oC (Ar (sz t) (fD t) ((L.take p.1.1).drop 0)) (s.cut3 p.1.1).v) []::oV (oC (Ar (sz t) (fD t) ((L.take L.length).drop lo)) (s.cut (sz t) lo L.length).v) []::m2) F w:=by
     intro m1;induction m1 with
     |nil=>intro F h;exact u (h.cons_mono λ_=>u)
     |cons a m1 ih=>intro F h;exact h.cons_mono λ_=>ih
    exact H m1 hF
   refine⟨_,_,_,_,h,hx,⟨by simp[e.len],e.env.mono hx,_,rs,?_,g2.mono hx λ_ h=>h,g3,A⟩,⟨_,X,rfl⟩,⟨by simp only;omega,λc' i j=>?_,[],rfl⟩,rfl,by rw[P];exact Y _ _ _ (by rw[<-P];exact D) x.2⟩
   ·simp only[Q];exact(a1.mono λ_ _=>Chunk.Is.mono hx λ_ h=>h).append ⟨⟨_,[],hx.get M,rfl,by rw[c3]⟩,⟨_,[],X,rfl,rfl⟩,a3.mono λ_ _=>Chunk.Is.mono hx λ_ h=>h⟩
   ·rw[O];simp only[Q]at i;rcases Ei.1 i with b|b
    ·exact⟨c',Hv _ b,.inl rfl⟩
    ·rcases Bq.1 b with rfl|b
     ·simp only[H9]at j;omega
     ·rcases Bq.1 b with rfl|b
      ·simp only[H9]at j;omega
      ·exact⟨c',F5 _ (Bf _ b),.inl rfl⟩
 ·refine At7 e W C U (Ef _) h ?_;obtain⟨s',k,k2⟩:=e.rd W;rw[C]at k;cases k;exact Y _ _ _ k2 U
theorem B5f{T f} {L:List T}{k n S w1 w P env} {d:Option Nat}{ty pos af g x hi mx t e bytes z} {s:Sv}{j} (D:P.underlying t=Aa (.slice e)) (C:Sz P e k bytes z)
  (hx:ev env x=Aa s.v) (l:ev env hi=Aa (.int .i64 j)) (m:ev env mx=Aa (.int .i64 j)) (h:(Ar k f L).rd S w1 s.v) (F:0<=j/\j<=(L.length:Int)):
  Runs P n env w ⟨d,.slice t x Ab (Aa hi) (Aa mx),ty,pos,af,g⟩ (s.cut3 j.toNat).v w:=λb i=>by
 obtain⟨s',q,e2,G,_⟩:=Cs.form h;obtain rfl:s=s':=by cases s;cases s';simpa [Sv.v]using q
 have u:0<=j/\j<=(s.c:Int):=by omega
 have y:0<=j/\j<=(j.toNat:Int):=by omega
 have o:b.eval x=.slice s.p s.n s.c:=i.ev hx
 have A:(if j.toNat=0 then s.p else s.p.map (·.add (0*k)))=s.p:=by
  split
  ·rfl
  ·cases s.p with
   |none=>rfl
   |some a=>simp[Addr.add]
 simp only[execOp,o,i.ev l,i.ev m,Pc,Tw,Instr.sliceAt,Sem.run_bind,run_underlying D,Result.andThen_ok,Instr.slice,Instr.sliceBounds,Instr.sliceBound,asIntOf,Sem.run_pure,Sem.run_ite,if_pos u,if_pos y,C.run,Aky,Sv.cut3,Sv.v,A]
theorem B5k{P n env w} {d:Option Nat}{ty pos af g x lo hi t s i j} (k:P.underlying t=Aa .string)
  (hx:ev env x=Aa (.string s)) (e:ev env lo=Aa (.int .i64 i)) (c:ev env hi=Aa (.int .i64 j)) (l:0<=i/\i<=j/\j<=(s.size:Int)):
  Runs P n env w ⟨d,.slice t x (Aa lo) (Aa hi) Ab,ty,pos,af,g⟩ (.string (s.extract i.toNat j.toNat)) w:=λb a=>by
 have f:0<=j/\j<=(s.size:Int):=by omega
 have h:0<=i/\i<=(j.toNat:Int):=by omega
 simp only[execOp,a.ev hx,a.ev e,a.ev c,Pc,Tw,Instr.sliceAt,Sem.run_bind,run_underlying k,Result.andThen_ok,Instr.slice,Instr.sliceBounds,Instr.sliceBound,asIntOf,Sem.run_pure,Sem.run_ite,if_pos f,if_pos h,Tv,I3,if_false]
theorem B5l{P n env w} {d:Option Nat}{ty pos af g x lo t s i} (f:P.underlying t=Aa .string)
  (hx:ev env x=Aa (.string s)) (a:ev env lo=Aa (.int .i64 i)) (e:0<=i/\i<=(s.size:Int)):
  Runs P n env w ⟨d,.slice t x (Aa lo) Ab Ab,ty,pos,af,g⟩ (.string (s.extract i.toNat s.size)) w:=λb c=>by
 simp only[execOp,c.ev hx,c.ev a,Pc,Tw,Instr.sliceAt,Sem.run_bind,run_underlying f,Result.andThen_ok,Instr.slice,Instr.sliceBounds,Instr.sliceBound,asIntOf,Sem.run_pure,Sem.run_ite,if_pos e,Tv,I3,if_false]
theorem B1l (b:Sat B Af ρ st env w){x t s lo hi} (hx:ev env x=Aa (.string s)) (h:Anl st t s lo hi K=Aa r):LkAll B Af ρ st env w (.slice t x lo hi Ab) K r:=by
 unfold Anl at h;have e:=(bt h).1;replace h:=(bt h).2;have g:=Age e;split at h
 ·split at h
  ·rename_i i j a f;have d:=(C8 h).1;replace h:=(C8 h).2;exact .same b h (sv:=.v (.c (.s _))) rfl λ_ _ _ _ _ _ _=>B5k g hx (Ns b.env a) (Ns b.env f) d
  ·cases h
 ·split at h
  ·rename_i i a;have d:=(C8 h).1;replace h:=(C8 h).2;exact .same b h (sv:=.v (.c (.s _))) rfl λ_ _ _ _ _ _ _=>B5l g hx (Ns b.env a) d
  ·cases h
 ·cases h
theorem Bfb{h p}:∀ {own:List Chunk},Z1 h own=Aa p->∃a b g,own=a++ .rem h g p.1.t p.1.L p.1.hi::b/\p.2=a++b
 |[],hc=>by cases hc
 |c::r,hc=>by
  have d:(∃z,Z1 h r=Aa z/\(z.1,c::z.2)=p)->∃a b g,c::r=a++ .rem h g p.1.t p.1.L p.1.hi::b/\p.2=a++b:=λ⟨z,j,e⟩=>by subst e;obtain⟨l,o2,g,i,e2⟩:=Bfb j;exact⟨c::l,o2,g,by rw[i];rfl,by simp only[e2];rfl⟩
  cases c with
  |rem k g t L hi=>
   simp only[Z1]at hc;cases f:Ay k h with
   |true=>rw[f]at hc;cases hc;cases Br f;exact⟨[],r,g,rfl,rfl⟩
   |false=>rw[f]at hc;simp only[cond_false,Di]at hc;exact d hc
  |_=>simp only[Z1,Di]at hc;exact d hc
theorem B5i {T:Type}{k n w P env} {d:Option Nat}{ty pos af g x lo t e bytes z} {s:Sv}{i} {L:List T} (u:P.underlying t=Aa (.slice e)) (q:Sz P e k bytes z)
  (hx:ev env x=Aa s.v) (a:ev env lo=Aa (.int .i64 i)) (h:s.n=L.length/\s.n<=s.c) (m:0<=i/\i<=(L.length:Int)):
  Runs P n env w ⟨d,.slice t x (Aa lo) Ab Ab,ty,pos,af,g⟩ (s.cut k i.toNat L.length).v w:=λb j=>by
 have o:0<=i/\i<=(L.length:Int):=m;have l:(s.c-i.toNat=0)=(s.c=i.toNat):=by apply propext;omega
 have f:b.eval x=.slice s.p L.length s.c:=by rw[<-h.1];exact j.ev hx
 simp only[execOp,f,j.ev a,Pc,Tw,Instr.sliceAt,Sem.run_bind,run_underlying u,Result.andThen_ok,Instr.slice,Instr.sliceBounds,Instr.sliceBound,asIntOf,Sem.run_pure,Sem.run_ite,if_pos o,q.run,Tv,I3,if_false,l,Sv.cut_eq]
theorem B5q (j:Sat B Af ρ st env w){x t e ei q C hi s} (V:R8 t=Aa (e,ei)) (g1:ev env x=Aa s.v) (g2:ρ[q]?=Aa (.row s)) (h:Ade st q ei.size C hi K=Aa r):LkAll B Af ρ st env w (.slice t x C hi Ab) K r:=by
 obtain⟨Y,_,z,I,_⟩:=Y3 V;unfold Ade at h;split at h
 ·rename_i C;split at h
  ·rename_i i d own A U;have P:=(bt h).1;replace h:=(bt h).2;have hg:=(C8 h).1;replace h:=(C8 h).2;rw[Br P]at I;obtain⟨o1,o2,g,e2,k⟩:=Bfb U;simp only at e2 k;obtain⟨m,rs,F,W,X,T⟩:=j.mem;rw[e2]at F;obtain⟨m1,m2,rfl,N,D⟩:=F.split;cases m2 with
   |nil=>exact D.elim
   |cons a m2=>
    obtain⟨⟨q',H,rfl⟩,O⟩:=D;rw[g2]at H;cases H;have c:=T.mid;obtain⟨F0,u⟩:=c.at' (Bm ..);have f:=oRe.form u
    have p:St B (oC (Ar (sz d.t) (fD d.t) ((d.L.take d.L.length).drop i.toNat)) (s.cut (sz d.t) i.toNat d.L.length).v::(m1++m2)) rs w:=
     St.iso (l:=[oRe (sz d.t) (fD d.t) d.L s.v d.hi]) (l':=[oC (Ar (sz d.t) (fD d.t) ((d.L.take d.L.length).drop i.toNat)) (s.cut (sz d.t) i.toNat d.L.length).v]) c λ_ ⟨Q,F1,M,S,h⟩=>⟨Q,F1,M,oRe.cut (Fu d.t) (by omega) (by omega) S,h⟩
    have hx:=Ext.one ρ (.row (s.cut (sz d.t) i.toNat d.L.length));have G:(ρ++[.row (s.cut (sz d.t) i.toNat d.L.length)])[st.Ak]?=Aa (.row (s.cut (sz d.t) i.toNat d.L.length)):=by have:=Gn ρ (.row (s.cut (sz d.t) i.toNat d.L.length));rw[j.len]at this;exact this
    refine⟨_,_,_,_,h,hx,⟨by simp[j.len],j.env.mono hx,oV (oC (Ar (sz d.t) (fD d.t) ((d.L.take d.L.length).drop i.toNat)) (s.cut (sz d.t) i.toNat d.L.length).v) []::(m1++m2),rs,⟨⟨_,[],G,rfl,rfl⟩,?_⟩,W.mono hx λ_ h=>h,X,p.z Z.toV⟩,⟨_,G,rfl⟩,⟨by simp only;omega,λc' b y=>?_,[],rfl⟩,rfl,λw1 n d' ty pos af g=>B5i Y I g1 (Ns j.env A) f (by omega)⟩
    ·simp only[k];exact(N.mono λ_ _=>Chunk.Is.mono hx λ_ h=>h).append (O.mono λ_ _=>Chunk.Is.mono hx λ_ h=>h)
    ·rw[e2];rcases Bq.1 b with rfl|b
     ·simp only[H9]at y;omega
     ·simp only[k]at b;rcases Ei.1 b with o|o
      ·exact⟨c',Hv _ o,.inl rfl⟩
      ·exact⟨c',F5 _ (Bf _ o),.inl rfl⟩
  ·cases h
 ·cases h
theorem Bcs (a:Sat B Af ρ st env w){x t l hi} (h:Acw st t x l hi K=Aa r):LkAll B Af ρ st env w (.slice t x l hi Ab) K r:=by
 unfold Acw at h;split at h
 ·rename_i q e ei hx o;obtain⟨u,g1,s,g2,rfl⟩:=a.env.evC hx;obtain⟨n,_,z,m,_⟩:=Y3 o;split at h
  ·rename_i c g;have y:=(bt h).1;replace h:=(bt h).2;rw[Br y]at m;obtain⟨s',s1,p⟩:=a.rd g;rw[g2]at s1;cases s1;split at h
   ·rename_i l hi;split at h
    ·rename_i i j b d;have k:=(C8 h).1;replace h:=(C8 h).2;exact At7 a g g2 (by omega) (by omega) h λv _ _ _ _ _ _=>B5e n m g1 (Ns a.env b) (Ns a.env d) p k
    ·cases h
   ·rename_i hi;split at h
    ·rename_i j d;have k:=(C8 h).1;replace h:=(C8 h).2;exact At7 a g g2 (by omega) (by omega) h λv _ _ _ _ _ _=>B5g n m g1 (Ns a.env d) p k
    ·cases h
   ·rename_i l;split at h
    ·rename_i i b;have k:=(C8 h).1;replace h:=(C8 h).2;exact B8q a g g2 (by omega) h λT f L A C v _ _ _ _ _ _=>B5h n m g1 (Ns a.env b) A (by omega)
    ·cases h
   ·cases h
  ·exact B5q a o g1 g2 h
 ·rename_i s hx;obtain⟨u,g1,g2⟩:=a.env.evC hx;cases g2;exact B1l a g1 h
 ·cases h
theorem B1k (a:Sat B Af ρ st env w){x t lo hi} (h:Acw st t x lo hi K=Aa r):LkOk B Af ρ st env w (.slice t x lo hi Ab) K r:=(Bcs a h).ok
theorem B1j (a:Sat B Af ρ st env w){x hi mx t} (h:Ank st t x hi mx K=Aa r):LkOk B Af ρ st env w (.slice t x Ab (Aa hi) (Aa mx)) K r:=by
 unfold Ank at h;split at h
 ·rename_i q e ei hx H;obtain⟨u,g1,s,g2,rfl⟩:=a.env.evC hx;obtain⟨N,_,z,m,_⟩:=Y3 H;split at h
  ·rename_i c j mm k F G;have y:=(bt h).1;replace h:=(bt h).2;rw[Br y]at m;obtain⟨s',s1,M⟩:=a.rd k;rw[g2]at s1;cases s1;have C:=(C8 h).1;replace h:=(C8 h).2;obtain⟨d,f,g⟩:=C;subst f;unfold R2 at h;have i:=(bt h).1;replace h:=(bt h).2;obtain⟨n,o,v⟩:=Bip a k g2 (t:=c.t) (l:=(c.L.take j.toNat).drop 0) (s':=s.cut3 j.toNat) (p:=.c3 j.toNat) (λc' b e=>by simp only[Ax9,b,e,I3]at i) (λS A=>Cs.cut3 (Fu c.t) (by omega) A) ⟨by omega,rfl,rfl,rfl⟩ λI D e=>by cases e
   exact⟨_,_,_,_,h,Ext.one ρ _,n,⟨_,by rw[<-a.len];exact Gn _ _,rfl⟩,o,v,λO _ _ _ _ _ _ _=>B5f N m g1 (Ns a.env F) (Ns a.env G) M ⟨d,g⟩⟩
  ·cases h
 ·cases h
theorem Axq{C} (a:Sat B Af ρ st env w){op} (h:Pp C st op K=Aa r):LkOk B Af ρ st env w op K r:=by
 unfold Pp at h;split at h
 ·exact B1f a h
 ·exact B00 a h
 ·exact B1g a h
 ·exact B06 a h
 ·exact B02 a h
 ·exact B1h a h
 ·exact B07 a h
 ·exact B08 a h
 ·exact B1c a h
 ·exact B1a a h
 ·exact B1i a h
 ·exact B04 a h
 ·rename_i f b Bu;split at h
  ·rename_i c;have:b= #[]:=by cases b;simpa using c
   subst this;exact B09 a h
  ·cases h
 ·exact B1b a h
 ·exact B1e a h
 ·exact B1d a h
 ·exact B1k a h
 ·exact B1j a h
 ·cases h
end
end
section
open Go.RowKit
section
variable {ρ ρ':List HV} {rs rs':List Rd} {B:Dn} {Af:List Rd} {st:Ai} {env:Env} {w:World} {m:List As}
theorem Adj{h p}:∀ {own:List Chunk},Jq h own=Aa p->∃e f g vs,own=e++ .row h g p.1.t p.1.L vs::f/\p.2=e++f
 |[],hc=>by cases hc
 |.box k g cs::r,hc=>by simp only[Jq,Di]at hc;obtain⟨q,c,rfl⟩:=hc;obtain⟨d,o2,b,vs,a,e2⟩:=Adj c;exact⟨.box k g cs::d,o2,b,vs,by rw[a];rfl,by simp[e2]⟩
 |.C9 k g t L::r,hc=>by simp only[Jq,Di]at hc;obtain⟨q,c,rfl⟩:=hc;obtain⟨d,o2,b,vs,a,e2⟩:=Adj c;exact⟨.C9 k g t L::d,o2,b,vs,by rw[a];rfl,by simp[e2]⟩
 |.El k g t L i j o::r,hc=>by simp only[Jq,Di]at hc;obtain⟨q,c,rfl⟩:=hc;obtain⟨d,o2,b,vs,a,e2⟩:=Adj c;exact⟨.El k g t L i j o::d,o2,b,vs,by rw[a];rfl,by simp[e2]⟩
 |.rem k g t L i::r,hc=>by simp only[Jq,Di]at hc;obtain⟨q,c,rfl⟩:=hc;obtain⟨d,o2,b,vs,a,e2⟩:=Adj c;exact⟨.rem k g t L i::d,o2,b,vs,by rw[a];rfl,by simp[e2]⟩
 |.row k g t L vs::r,hc=>by
  simp only[Jq]at hc;cases l:Ay k h with
  |true=>rw[l]at hc;cases hc;cases Br l;exact⟨[],r,g,vs,rfl,rfl⟩
  |false=>rw[l]at hc;simp only[cond_false,Di]at hc;obtain⟨q,c,rfl⟩:=hc;obtain⟨d,o2,b,n,a,e2⟩:=Adj c;exact⟨.row k g t L vs::d,o2,b,n,by rw[a];rfl,by simp[e2]⟩
theorem Abv{h p}:∀ {own:List Chunk},Gt h own=Aa p->∃d e,own=d++ .box h p.1.1 p.1.2::e/\p.2=d++e
 |[],hc=>by cases hc
 |.row k g t L vs::r,hc=>by simp only[Gt,Di]at hc;obtain⟨q,b,rfl⟩:=hc;obtain⟨c,o2,a,e2⟩:=Abv b;exact⟨.row k g t L vs::c,o2,by rw[a];rfl,by simp[e2]⟩
 |.C9 k g t L::r,hc=>by simp only[Gt,Di]at hc;obtain⟨q,b,rfl⟩:=hc;obtain⟨c,o2,a,e2⟩:=Abv b;exact⟨.C9 k g t L::c,o2,by rw[a];rfl,by simp[e2]⟩
 |.El k g t L i j o::r,hc=>by simp only[Gt,Di]at hc;obtain⟨q,b,rfl⟩:=hc;obtain⟨c,o2,a,e2⟩:=Abv b;exact⟨.El k g t L i j o::c,o2,by rw[a];rfl,by simp[e2]⟩
 |.rem k g t L i::r,hc=>by simp only[Gt,Di]at hc;obtain⟨q,b,rfl⟩:=hc;obtain⟨c,o2,a,e2⟩:=Abv b;exact⟨.rem k g t L i::c,o2,by rw[a];rfl,by simp[e2]⟩
 |.box k g cs::r,hc=>by
  simp only[Gt]at hc;cases f:Ay k h with
  |true=>rw[f]at hc;cases hc;cases Br f;exact⟨[],r,rfl,rfl⟩
  |false=>rw[f]at hc;simp only[cond_false,Di]at hc;obtain⟨q,b,rfl⟩:=hc;obtain⟨c,o2,a,e2⟩:=Abv b;exact⟨.box k g cs::c,o2,by rw[a];rfl,by simp[e2]⟩
def OwnLe (own a:List Chunk):Prop:=∀c∈a,c∈own
theorem OwnLe.refl own:OwnLe own own:=λ_ h=>h
theorem OwnLe.trans{a b c} (h:OwnLe a b) (k:OwnLe b c):OwnLe a c:=λx hx=>h x (k x hx)
theorem OwnLe.mid{own1 a x}:OwnLe (own1++x::a) (own1++a):=λc h=>by
 rcases Ei.1 h with h|h
 ·exact Hv _ h
 ·exact F5 _ (Bf _ h)
theorem Q5{h p own} (i:Jq h own=Aa p) (f:OwnOk ρ rs own m):OwnLe own p.2/\∃s m',ρ[h]?=Aa (.row s)/\OwnOk ρ rs p.2 m'/\∀w,Z w m (oC (Ar (sz p.1.t) (fD p.1.t) p.1.L) s.v::m'):=by
 obtain⟨k,o2,g,vs,e,e2⟩:=Adj i;subst e;obtain⟨m1,m2,rfl,c,b⟩:=f.split;cases m2 with
 |nil=>exact b.elim
 |cons a m2=>obtain⟨⟨s,l,j,k2,rfl⟩,d⟩:=b;exact⟨by rw[e2];exact OwnLe.mid,s,m1++m2,j,by rw[e2];exact c.append d,λw=>(Z.perm Ct).trans Z.unV⟩
theorem A72{h c}:∀ {vs:List View},cutV h vs=Aa c->∃v∈vs,v.h=h/\c=⟨v.t,v.L⟩/\∃b hi,v.pos=.cut b hi
 |[],hc=>by cases hc
 |v::r,hc=>by
  simp only[cutV]at hc;cases a:Ay v.h h with
  |true=>
   rw[a]at hc;simp only[cond_true]at hc;split at hc
   ·rename_i b hi f;cases hc;exact⟨v,Bm ..,Br a,rfl,b,hi,f⟩
   ·cases hc
  |false=>rw[a]at hc;obtain⟨u,d,e⟩:=A72 hc;exact⟨u,Bf _ d,e⟩
theorem Bfe{h}:∀ {own:List Chunk} {p:J6×List Chunk} {m:List As},Sr h own=Aa p->OwnOk ρ rs own m->OwnLe own p.2/\∃s m',ρ[h]?=Aa (.row s)/\OwnOk ρ rs p.2 m'/\∀w,Z w m (oC (Ar (sz p.1.t) (fD p.1.t) p.1.L) s.v::m')
 |[],p,m,hc,_=>by cases hc
 |c::r,p,[],_,h1=>h1.elim
 |c::r,p,a::m,hc,⟨h1,h2⟩=>by
  have b:(∃z,Sr h r=Aa z/\(z.1,c::z.2)=p)->OwnLe (c::r) p.2/\∃s m',ρ[h]?=Aa (.row s)/\OwnOk ρ rs p.2 m'/\∀w,Z w (a::m) (oC (Ar (sz p.1.t) (fD p.1.t) p.1.L) s.v::m'):=λ⟨z,I,e⟩=>by
   subst e;obtain⟨O,s,m',f,k2,N⟩:=Bfe I h2
   exact⟨λx hx=>by
    rcases Bq.1 hx with rfl|hx
    ·exact Bm ..
    ·exact Bf _ (O x hx),s,a::m',f,⟨h1,k2⟩,λw=>(N w).cons.trans (Z.perm (List.Perm.swap ..))⟩
  cases c with
  |row k g t L vs=>
   simp only[Sr]at hc;obtain⟨q,T,f,k2,rfl⟩:=h1;cases d:Ay k h with
   |true=>rw[d]at hc;cases hc;cases Br d;exact⟨λx hx=>Bf _ hx,q,m,f,h2,λw=>Z.unV⟩
   |false=>
    rw[d]at hc;simp only[cond_false]at hc;split at hc
    ·rename_i c M;cases hc;obtain⟨v,Q,R,rfl,P,hi,S⟩:=A72 M;obtain⟨s',ex,i,j,_,_⟩:=k2.at_ v Q;rw[S]at j;obtain⟨n,o,u,rfl,_⟩:=j;rw[R]at i;refine⟨λx hx=>Bf _ hx,q.cut (sz t) P hi,m,i,h2,λw F K=>?_⟩;obtain⟨H,F1,l,y,A,C,D,G⟩:=K;refine⟨H,F1,l,?_,A,C,D,G⟩;rw[u];exact Own.cut (Fu t) n o y.1
    ·simp only[Di]at hc;exact b hc
  |box _ _ _=>simp only[Sr,Di]at hc;exact b hc
  |C9 _ _ _ _=>simp only[Sr,Di]at hc;exact b hc
  |El _ _ _ _ _ _ _=>simp only[Sr,Di]at hc;exact b hc
  |rem _ _ _ _ _=>simp only[Sr,Di]at hc;exact b hc
theorem Bdr{h p}:∀ {vs:List View},opV h vs=Aa p->∃v∈vs,v.h=h/\p.2=⟨v.t,v.L⟩/\On h vs=v.pos/\(v.pos=.ei p.1.1 p.1.2\/∃c hi,v.pos=.ec p.1.1 p.1.2 c hi)
 |[],hc=>by cases hc
 |v::r,hc=>by
  simp only[opV]at hc;cases a:Ay v.h h with
  |true=>
   rw[a]at hc;simp only[cond_true]at hc;split at hc
   ·rename_i i j b;cases hc;exact⟨v,Bm ..,Br a,rfl,by simp only[On,a,cond_true],.inl b⟩
   ·rename_i i j c hi b;cases hc;exact⟨v,Bm ..,Br a,rfl,by simp only[On,a,cond_true],.inr ⟨c,hi,b⟩⟩
   ·cases hc
  |false=>rw[a]at hc;obtain⟨u,d,e,f,g,k⟩:=Bdr hc;exact⟨u,Bf _ d,e,f,by simp only[On,a,cond_false];exact g,k⟩
theorem Bdv{t L} {q:Sv}{vl i j} {a:Sv}{t0 L0} (d:vC (Et q.v (i*sz t+j)) a.v∈vl) (hi:i<L.length) (c:(Cf t (el L i))[j]?=Aa (.sl t0 L0)) (b:St B (oV (oC (Ar (sz t) (fD t) L) q.v) vl::m) rs w):
  St B (oC (Ar (sz t0) (fD t0) L0) a.v::Mf (sz t) (fD t) L q.v (i*sz t+j) a.v::m) rs w:=
 b.open d (Fu t) hi (by rw[Gl,Abi,c];rfl)
theorem Bfd{h n p}:∀ {own:List Chunk},Sq h n own=Aa p->∃a b k g t L vs z,own=a++ .row k g t L vs::b/\opV h vs=Aa z/\p.1=z.2/\p.2=a++ .El k n t L z.1.1 z.1.2 (Ac6 h n vs)::b
 |[],hc=>by cases hc
 |c::r,hc=>by
  have d:(∃z,Sq h n r=Aa z/\(z.1,c::z.2)=p)->∃a b k g t L vs z,c::r=a++ .row k g t L vs::b/\opV h vs=Aa z/\p.1=z.2/\p.2=a++ .El k n t L z.1.1 z.1.2 (Ac6 h n vs)::b:=λ⟨z,l,e⟩=>by subst e;obtain⟨q,o2,k,g,t,L,vs,s,f,e2,i,j⟩:=Bfd l;exact⟨c::q,o2,k,g,t,L,vs,s,by rw[f];rfl,e2,i,by simp only[j];rfl⟩
  cases c with
  |row k g t L vs=>
   simp only[Sq]at hc;split at hc
   ·rename_i z o;cases hc;exact⟨[],r,k,g,t,L,vs,z,rfl,o,rfl,rfl⟩
   ·simp only[Di]at hc;exact d hc
  |box _ _ _=>simp only[Sq,Di]at hc;exact d hc
  |C9 _ _ _ _=>simp only[Sq,Di]at hc;exact d hc
  |El _ _ _ _ _ _ _=>simp only[Sq,Di]at hc;exact d hc
  |rem _ _ _ _ _=>simp only[Sq,Di]at hc;exact d hc
theorem B2x (i:Sat B Af ρ st env w) h:∃ρ',Ext ρ ρ'/\Sat B Af ρ' (W3 h st) env w/\Be st (W3 h st)/\(W3 h st).env=st.env:=by
 unfold W3;split
 ·rename_i p T;obtain⟨o1,o2,k,g,t,L,vs,z,F,e2,R,G⟩:=Bfd T;obtain⟨m,rs,H,g2,g3,I⟩:=i.mem;rw[F]at H;obtain⟨m1,m2,rfl,M,A⟩:=H.split;cases m2 with
  |nil=>exact A.elim
  |cons a m2=>
   obtain⟨⟨q,vl,U,k2,rfl⟩,N⟩:=A;obtain⟨v,V,W,X,K,d⟩:=Bdr e2;obtain⟨sv,ex,l,j,_,C⟩:=k2.at_ v V;rw[W]at l
   have y:∃b:Sv,(∀ρ':List HV,Ext ρ ρ'->ρ'[st.Ak]?=Aa (.row b)->ρ'[Ac6 h st.Ak vs]?=Aa (.row b))/\St B (oC (Ar (sz v.t) (fD v.t) v.L) sv.v::Mf (sz t) (fD t) L q.v (z.1.1*sz t+z.1.2) (Sv.v b)::(m1++m2)) rs w:=by
    rcases d with d|⟨Y,hi,d⟩
    ·rw[d]at j;obtain⟨n,o,r⟩:=j;exact⟨sv,λρ' x _=>by unfold Ac6;rw[K,d];exact x.get l,Bdv (C _ (by rw[r];exact Bm ..)) n o I.mid⟩
    ·rw[d]at j;obtain⟨n,O,b,o,r,P,D,rfl,Q⟩:=j;have S:=(Bdv (C _ (by rw[Q];exact Bm ..)) n o I.mid).cutO (Fu O.t) r P;refine⟨b,λρ' _ u=>by unfold Ac6;rw[K,d];exact u,?_⟩;obtain⟨vh,vt,vL,vq⟩:=v;simp only at D⊢;cases D;exact S
   obtain⟨b,ho,s⟩:=y;have hx:Ext ρ (ρ++[.row b]++[.num 0]):=(Ext.one ρ _).trans (Ext.one _ _);have u:(ρ++[.row b]++[.num 0])[st.Ak]?=Aa (.row b):=by have:=Gn ρ (.row b);rw[i.len]at this;exact(Ext.one _ _).get this
   refine⟨_,hx,⟨by simp[i.len],i.env.mono hx,oV (oC (Ar (sz v.t) (fD v.t) v.L) sv.v) []::(m1++Mf (sz t) (fD t) L q.v (z.1.1*sz t+z.1.2) (Sv.v b)::m2),rs,⟨?_,?_⟩,g2.mono hx λ_ h=>h,g3,?_⟩,⟨by simp only;omega,λc' c f=>?_,[],rfl⟩,rfl⟩
   ·rw[R,X];exact⟨sv,[],hx.get l,rfl,rfl⟩
   ·simp only[G];exact(M.mono λ_ _=>Chunk.Is.mono hx λ_ h=>h).append ⟨⟨q,b,hx.get U,ho _ hx u,rfl⟩,N.mono λ_ _=>Chunk.Is.mono hx λ_ h=>h⟩
   ·exact(s.z Z.toV).perm (List.Perm.cons _ Ct.symm)
   ·rw[F];rcases Bq.1 c with rfl|c
    ·simp only[H9]at f;omega
    ·simp only[G]at c;rcases Ei.1 c with e|e
     ·exact⟨c',Hv _ e,.inl rfl⟩
     ·rcases Bq.1 e with rfl|e
      ·simp only[H9]at f;omega
      ·exact⟨c',F5 _ (Bf _ e),.inl rfl⟩
 ·exact⟨ρ,Ext.refl ρ,i,Be.refl st,rfl⟩
theorem Agx:∀ {l:List Cell} {st:Ai} {ρ:List HV},Sat B Af ρ st env w->∃ρ',Ext ρ ρ'/\Sat B Af ρ' (Pt l st) env w/\Be st (Pt l st)/\(Pt l st).env=st.env
 |[],st,ρ,hs=>⟨ρ,Ext.refl ρ,hs,Be.refl st,rfl⟩
 |c::l,st,ρ,hs=>by
  unfold Pt;split
  ·rename_i h;obtain⟨n,b,d,e,f⟩:=B2x hs h;obtain⟨a,g,i,j,k⟩:=Agx (l:=l) d;exact⟨a,b.trans g,i,e.trans j,k.trans f⟩
  ·exact Agx hs
theorem Bdu (a:Sat B Af ρ st env w) o:∃ρ',Ext ρ ρ'/\Sat B Af ρ' (Om o st) env w/\Be st (Om o st)/\(Om o st).env=st.env:=by
 unfold Om;split
 ·exact Agx a
 ·exact⟨ρ,Ext.refl ρ,a,Be.refl st,rfl⟩
theorem Ba5{h}:∀ {own:List Chunk} {p:Akz×List Chunk} {m:List As},Sc h own=Aa p->OwnOk ρ rs own m->OwnLe own p.2/\∃(q d:Sv) (m':List As),ρ[h]?=Aa (.row q)/\OwnOk ρ rs p.2 m'/\∀w,Z w m (Mf (sz p.1.t) (fD p.1.t) p.1.L q.v (p.1.i*sz p.1.t+p.1.j) d.v::m')
 |[],p,m,hc,_=>by cases hc
 |c::r,p,[],_,h1=>h1.elim
 |c::r,p,a::m,hc,⟨h1,h2⟩=>by
  have b:(∃z,Sc h r=Aa z/\(z.1,c::z.2)=p)->OwnLe (c::r) p.2/\∃(q d:Sv) (m':List As),ρ[h]?=Aa (.row q)/\OwnOk ρ rs p.2 m'/\∀w,Z w (a::m) (Mf (sz p.1.t) (fD p.1.t) p.1.L q.v (p.1.i*sz p.1.t+p.1.j) d.v::m'):=λ⟨z,n,e⟩=>by
   subst e;obtain⟨u,q,d,m',l,k2,s⟩:=Ba5 n h2
   exact⟨λx hx=>by
    rcases Bq.1 hx with rfl|hx
    ·exact Bm ..
    ·exact Bf _ (u x hx),q,d,a::m',l,⟨h1,k2⟩,λw=>(s w).cons.trans (Z.perm (List.Perm.swap ..))⟩
  cases c with
  |El k g t L i j o=>
   simp only[Sc]at hc;cases f:Ay k h with
   |true=>rw[f]at hc;cases hc;cases Br f;obtain⟨q,d,l,_,rfl⟩:=h1;exact⟨λx hx=>Bf _ hx,q,d,m,l,h2,λw=>zI⟩
   |false=>rw[f]at hc;simp only[cond_false,Di]at hc;exact b hc
  |box _ _ _=>simp only[Sc,Di]at hc;exact b hc
  |C9 _ _ _ _=>simp only[Sc,Di]at hc;exact b hc
  |row _ _ _ _ _=>simp only[Sc,Di]at hc;exact b hc
  |rem _ _ _ _ _=>simp only[Sc,Di]at hc;exact b hc
theorem T5{h p own} (j:Gt h own=Aa p) (i:OwnOk ρ rs own m):OwnLe own p.2/\(Chunk.box h p.1.1 p.1.2∈own)/\∃b e vs m',ρ[h]?=Aa (.box b)/\All2 (Cell.Den ρ) p.1.2 vs/\OwnOk ρ rs p.2 m'/\∀w,Z w m (Cc b vs.toArray e::m'):=by
 obtain⟨l,o2,g,e2⟩:=Abv j;subst g;obtain⟨m1,m2,rfl,d,c⟩:=i.split;cases m2 with
 |nil=>exact c.elim
 |cons a m2=>obtain⟨⟨b,e,vs,k,k2,rfl⟩,f⟩:=c;exact⟨by rw[e2];exact OwnLe.mid,F5 _ (Bm ..),b,e,vs,m1++m2,k,k2,by rw[e2];exact d.append f,λw=>Z.perm Ct⟩
theorem Abu{h}:∀ {own:List Chunk},Qo h own=(Gt h own).map λp=>(p.1.2,p.2)
 |[]=>rfl
 |.row k g t L vs::r=>by simp only[Qo,Gt,Abu (own:=r)];cases Gt h r<;>rfl
 |.C9 k g t L::r=>by simp only[Qo,Gt,Abu (own:=r)];cases Gt h r<;>rfl
 |.El k g t L i j o::r=>by simp only[Qo,Gt,Abu (own:=r)];cases Gt h r<;>rfl
 |.rem k g t L i::r=>by simp only[Qo,Gt,Abu (own:=r)];cases Gt h r<;>rfl
 |.box k g cs::r=>by
  simp only[Qo,Gt];cases Ay k h with
  |true=>rfl
  |false=>simp only[cond_false,Abu (own:=r)];cases Gt h r<;>rfl
theorem A7i{h p own} (a:Qo h own=Aa p):∃g,Gt h own=Aa ((g,p.1),p.2):=by rw[Abu,Di]at a;obtain⟨⟨⟨g,cs⟩,o⟩,b,rfl⟩:=a;exact⟨g,b⟩
theorem Ao8{e c l v} (h:Ado e c=Aa l) (a:c.Den ρ v):l.ty=e/\∀w,(oC l.ce v).ok (λ_=>False) w:=by
 unfold Ado at h;split at h
 ·split at h
  ·rename_i b;cases h;cases Abs a b;exact⟨rfl,pV _ rfl⟩
  ·cases h
 ·cases h;cases a;exact⟨rfl,pV _ rfl⟩
 ·cases h;cases a;exact⟨rfl,pV _ rfl⟩
 ·cases h;cases a;exact⟨rfl,pV _ rfl⟩
 ·cases h;cases a;exact⟨rfl,pN _ _⟩
 ·cases h
theorem Aym{e c own p v} (h:Agy e c own=Aa p) (f:c.Den ρ v) (d:OwnOk ρ rs own m):OwnLe own p.2/\∃m',OwnOk ρ rs p.2 m'/\∀w,Z w m (oC p.1.ce v::m'):=by
 unfold Agy at h;split at h
 ·rw[Di]at h;obtain⟨q,a,rfl⟩:=h;obtain⟨s,s1,rfl⟩:=f;obtain⟨b,s',m',g,k2,i⟩:=Bfe a d;rw[s1]at g;cases g;exact⟨b,m',k2,i⟩
 ·rw[Di]at h;obtain⟨q,a,rfl⟩:=h;exact⟨OwnLe.refl _,m,d,λw=>zP (Ao8 a f).2 zI⟩
theorem Q1:∀ {a:List Ty} {cs:List Cell} {own:List Chunk} {p:List A5×List Chunk} {vs:List Value} {m:List As},Kv a cs own=Aa p->All2 (Cell.Den ρ) cs vs->OwnOk ρ rs own m->OwnLe own p.2/\p.1.length=vs.length/\∃m',OwnOk ρ rs p.2 m'/\∀w,Z w m (Bc (p.1.map A5.ce) vs++m')
 |[],[],own,p,[],m,h,_,h1=>by cases h;exact⟨OwnLe.refl _,rfl,m,h1,λw=>zI⟩
 |e::a,c::cs,own,p,v::vs,m,h,⟨d1,d2⟩,h1=>by unfold Kv at h;obtain⟨q,b,d⟩:=A1 h;obtain⟨z,f,g⟩:=A1 d;cases g;obtain⟨l,m1,i,k2⟩:=Aym b d1 h1;obtain⟨n,o,m2,j,k⟩:=Q1 f d2 i;exact⟨l.trans n,by simp[o],m2,j,λw=>(k2 w).trans (k w).cons⟩
 |[],[],_,_,_::_,_,_,h,_=>h.elim
 |[],_::_,_,_,_,_,h,_,_=>by cases h
 |_::_,[],_,_,_,_,h,_,_=>by cases h
 |_::_,_::_,_,_,[],_,_,h,_=>h.elim
def Sees (S:Bs) (w:World) (m:List As) (rs:List Rd):Prop:=(∀r∈rs,r.ok S w)/\∀a∈m,∃F,(∀b,F b->S b)/\a.ok F w
theorem St.sees (h:St B m rs w):Sees (al w) w m rs:=by obtain⟨_,_,F,d,_,e⟩:=h;refine⟨λr j=>r.mono (λb c=>c.2.1) (Lc.refl _ _) (e r j),λa i=>?_⟩;obtain⟨F',f,g⟩:=d.mem i;exact⟨F',λb c=>d.lt b (f b c),g⟩
theorem B5p{S k T f} {L:List T} {q:Sv}{xs} (i:Sees S w m rs) (t:Cx k q.v L.length xs∈m) (x:rX xs (L.flatMap f)∈rs):(Ar k f L).rd S w q.v:=by
 obtain⟨F,y,A,hx,p⟩:=i.2 _ t;have o:Eg S w (L.flatMap f) xs:=i.1 _ x;rcases p with⟨e,l⟩|⟨b,off,cap,cur,e,C,n,r,s,a,c,z,h⟩
 ·rw[e];exact⟨Ab,0,by rw[l],by omega,by simp[maxLen],λg=>absurd (I4 l) g⟩
 ·rw[n];exact⟨_,cap,rfl,a,c,λ_=>⟨b,off,xs,rfl,λj d=>y _ (r j (K8 d (E4 _ a))),hx,λj u d=>Aov s.1 h d,o⟩⟩
theorem Ab0{S h c m0} (e:Sees S w m0 rs):∀ {own:List Chunk} {m:List As},OwnOk ρ rs own m->(∀a∈m,a∈m0)->Fg h own=Aa c->∃s,ρ[h]?=Aa (.row s)/\(Ar (sz c.t) (fD c.t) c.L).rd S w s.v
 |[],[],_,_,hc=>by cases hc
 |.box k g cs::own,a::m,⟨_,h2⟩,hm,hc=>Ab0 e h2 (λa b=>hm a (Bf _ b)) hc
 |.row k g t L vs::own,a::m,⟨h1,h2⟩,hm,hc=>by
  obtain⟨q,r,i,k2,rfl⟩:=h1;have d:=hm _ (Bm ..);simp only[Fg]at hc;cases f:Ay k h with
  |true=>rw[f]at hc;cases hc;cases Br f;exact⟨q,i,B7t e.2 d⟩
  |false=>
   rw[f]at hc;simp only[cond_false]at hc;split at hc
   ·rename_i c' j;cases hc;obtain⟨v,n,o,p⟩:=T8 j;obtain⟨s',s1,l⟩:=k2.get v n;subst p;exact⟨s',by rw[<-o];exact s1,B7u e.2 d l⟩
   ·exact Ab0 e h2 (λa b=>hm a (Bf _ b)) hc
 |.C9 k g t L::own,a::m,⟨h1,h2⟩,hm,hc=>by
  obtain⟨q,xs,i,rfl,k2⟩:=h1;have d:=hm _ (Bm ..);simp only[Fg]at hc;cases f:Ay k h with
  |true=>rw[f]at hc;cases hc;cases Br f;exact⟨q,i,B5p e d k2⟩
  |false=>rw[f]at hc;exact Ab0 e h2 (λa b=>hm a (Bf _ b)) hc
 |[],_::_,h,_,_=>h.elim
 |.box _ _ _::_,[],h,_,_=>h.elim
 |.row _ _ _ _ _::_,[],h,_,_=>h.elim
 |.C9 _ _ _ _::_,[],h,_,_=>h.elim
 |.El _ _ _ _ _ _ _::own,_::_,⟨_,h2⟩,hm,hc=>Ab0 e h2 (λa b=>hm a (Bf _ b)) hc
 |.rem _ _ _ _ _::own,_::_,⟨_,h2⟩,hm,hc=>Ab0 e h2 (λa b=>hm a (Bf _ b)) hc
 |.El _ _ _ _ _ _ _::_,[],h,_,_=>h.elim
 |.rem _ _ _ _ _::_,[],h,_,_=>h.elim
theorem Bso{S} (b:Sees S w m rs) (d:OwnOk ρ rs st.own m) (e:RdsOk ρ st.Bg rs){h c} (a:st.cont h=Aa c):∃s,ρ[h]?=Aa (.row s)/\(Ar (sz c.t) (fD c.t) c.L).rd S w s.v:=by
 unfold Ai.cont at a;split at a
 ·rename_i c' f;cases a;exact Ab0 b d (λ_ h=>h) f
 ·obtain⟨v,k,l,n⟩:=T8 a;obtain⟨r,j,q,g,i⟩:=e v k;subst n i;exact⟨q,by rw[<-l];exact g,b.1 _ j⟩
theorem B3t{S c v} (h:∀w,(oC c v).ok (λ_=>False) w):c.rd S w v:=c.mono (λ_ h=>h.elim) (Lc.refl _ _) (c.seen (h w))
theorem B5w{S} (i:Sees S w m rs) (d:OwnOk ρ rs st.own m) (f:RdsOk ρ st.Bg rs){e c l v} (h:Azs st e c=Aa l) (a:c.Den ρ v):l.ce.rd S w v:=by
 unfold Azs at h;split at h
 ·rw[Di]at h;obtain⟨q,g,rfl⟩:=h;obtain⟨s,s1,rfl⟩:=a;obtain⟨s',b,k2⟩:=Bso i d f g;rw[s1]at b;cases b;exact k2
 ·exact B3t (Ao8 h a).2
theorem Z2{S} (f:Sees S w m rs) (b:OwnOk ρ rs st.own m) (d:RdsOk ρ st.Bg rs):∀ {a:List Ty} {cs:List Cell} {ls:List A5} {vs:List Value},Ot st a cs=Aa ls->All2 (Cell.Den ρ) cs vs->Eg S w (ls.map A5.ce) vs
 |[],[],ls,[],h,_=>by cases h;rfl
 |e::a,c::cs,ls,v::vs,h,⟨d1,d2⟩=>by unfold Ot at h;obtain⟨l,g,i⟩:=A1 h;obtain⟨n,j,k⟩:=A1 i;cases k;exact⟨v,vs,rfl,B5w f b d g d1,Z2 f b d j d2⟩
 |[],[],_,_::_,_,h=>h.elim
 |[],_::_,_,_,h,_=>by cases h
 |_::_,[],_,_,h,_=>by cases h
 |_::_,_::_,_,[],_,h=>h.elim
theorem T4{x}:∀ls st ρ vs m,ρ.length=st.Ak->OwnOk ρ rs st.own m->ls.length=vs.length->St B (Bc (ls.map A5.ce) vs++(m++x)) rs w->
  ∃ρ' m',Ext ρ ρ'/\ρ'.length=(B6 true ls st).2.Ak/\OwnOk ρ' rs (B6 true ls st).2.own m'/\St B (m'++x) rs w/\All2 (Cell.Den ρ') (B6 true ls st).1 vs/\Be st (B6 true ls st).2/\(B6 true ls st).2.env=st.env/\(B6 true ls st).2.Bg=st.Bg
 |[],st,ρ,[],m,hn,h1,_,hM=>⟨ρ,m,Ext.refl ρ,hn,h1,hM,trivial,Be.refl st,rfl,rfl⟩
 |l::ls,st,ρ,v::vs,m,hn,h1,hl,hM=>by
  have d:ls.length=vs.length:=by simpa using hl
  have f:∀(y:Cell) (u:Value) (hu:u.oneCell'=true),l.ce=cV u hu->(∀ρ,y.Den ρ u)->∃ρ' m',Ext ρ ρ'/\ρ'.length=(B6 true ls st).2.Ak/\OwnOk ρ' rs (B6 true ls st).2.own m'/\St B (m'++x) rs w/\All2 (Cell.Den ρ') (y::(B6 true ls st).1) (v::vs)/\Be st (B6 true ls st).2/\(B6 true ls st).2.env=st.env/\(B6 true ls st).2.Bg=st.Bg:=λy u hu C hx=>by simp only[Fa,Bc,Fi,C]at hM;obtain⟨rfl,c⟩:=hM.valV;obtain⟨ρ',m',e,g,j,k,n,o,p,q⟩:=T4 ls st ρ vs m hn h1 d c;exact⟨ρ',m',e,g,j,k,⟨hx ρ',n⟩,o,p,q⟩
  cases l with
  |i y=>exact f (.i .i64 y) _ rfl rfl λ_=>rfl
  |b y=>exact f (.b y) _ rfl rfl λ_=>rfl
  |s y=>exact f (.s y) _ rfl rfl λ_=>rfl
  |y y=>exact f (.y y) _ rfl rfl λ_=>rfl
  |sl t L=>
   simp only[Fa,Bc,Fi,A5.ce]at hM;obtain⟨s,rfl,c⟩:=hM.valS;have hx:=Ext.one ρ (.row s);have a:=Gn ρ (.row s);rw[hn]at a;have r:St B (Bc (ls.map A5.ce) vs++((oV (oC (Ar (sz t) (fD t) L) s.v) []::m)++x)) rs w:=(c.z Z.toV).perm Ct.symm;obtain⟨ρ',m',e,g,j,k,n,o,p,q⟩:=T4 ls {st with own:=.row st.Ak st.Ak t L []::st.own,Ak:=st.Ak+1} (ρ++[.row s]) vs (oV (oC (Ar (sz t) (fD t) L) s.v) []::m) (by simp[hn]) ⟨⟨s,[],a,rfl,rfl⟩,OwnOk.mono hx (λ_ h=>h) h1⟩ d r;refine⟨ρ',m',hx.trans e,g,j,k,⟨⟨s,e.get a,rfl⟩,n⟩,Be.trans (b:= {st with own:=.row st.Ak st.Ak t L []::st.own,Ak:=st.Ak+1}) ⟨N8 _,λc' A D=>?_,[],rfl⟩ o,p,q⟩;rcases Bq.1 A with rfl|A
   ·exact absurd D (Aku _)
   ·exact⟨c',A,.inl rfl⟩
 |[],_,_,_::_,_,_,_,h,_=>by simp at h
 |_::_,_,_,[],_,_,_,h,_=>by simp at h
theorem Yl{x0}:∀ls st ρ vs rs,ρ.length=st.Ak->OwnOk ρ rs st.own m->RdsOk ρ st.Bg rs->(∀S,(∀r∈rs,r.ok S w)->Eg S w (ls.map A5.ce) vs)->St B (m++x0) rs w->
  ∃ρ' rs',Ext ρ ρ'/\(∀r∈rs,r∈rs')/\ρ'.length=(B6 false ls st).2.Ak/\OwnOk ρ' rs' (B6 false ls st).2.own m/\RdsOk ρ' (B6 false ls st).2.Bg rs'/\St B (m++x0) rs' w/\All2 (Cell.Den ρ') (B6 false ls st).1 vs/\Be st (B6 false ls st).2/\(B6 false ls st).2.env=st.env/\(B6 false ls st).2.own=st.own
 |[],st,ρ,vs,rs,hn,h1,h2,hr,hM=>by have:vs=[]:=hr _ hM.sees.1;subst this;exact⟨ρ,rs,Ext.refl ρ,λ_ h=>h,hn,h1,h2,hM,trivial,Be.refl st,rfl,rfl⟩
 |l::ls,st,ρ,vs,rs,hn,h1,h2,hr,hM=>by
  obtain⟨v,c,rfl,_,_⟩:=hr _ hM.sees.1;have H:∀S,(∀r∈rs,r.ok S w)->l.ce.rd S w v:=λS g=>by obtain⟨R,O,e,I,_⟩:=hr S g;cases e;exact I
  have j:∀S,(∀r∈rs,r.ok S w)->Eg S w (ls.map A5.ce) c:=λS g=>by obtain⟨R,O,e,_,I⟩:=hr S g;cases e;exact I
  have n:∀(x:Cell) (u:Value) (hu:u.oneCell'=true),l.ce=cV u hu->(∀ρ,x.Den ρ u)->∃ρ' rs',Ext ρ ρ'/\(∀r∈rs,r∈rs')/\ρ'.length=(B6 false ls st).2.Ak/\OwnOk ρ' rs' (B6 false ls st).2.own m/\RdsOk ρ' (B6 false ls st).2.Bg rs'/\St B (m++x0) rs' w/\All2 (Cell.Den ρ') (x::(B6 false ls st).1) (v::c)/\Be st (B6 false ls st).2/\(B6 false ls st).2.env=st.env/\(B6 false ls st).2.own=st.own:=λx u hu N hx=>by have e:=H _ hM.sees.1;rw[N]at e;have K:v=u:=e;subst K;obtain⟨ρ',rs',k,o,p,q,z,A,C,D,F,f⟩:=Yl ls st ρ c rs hn h1 h2 j hM;exact⟨ρ',rs',k,o,p,q,z,A,⟨hx ρ',C⟩,D,F,f⟩
  cases l with
  |i x=>exact n (.i .i64 x) _ rfl rfl λ_=>rfl
  |b x=>exact n (.b x) _ rfl rfl λ_=>rfl
  |s x=>exact n (.s x) _ rfl rfl λ_=>rfl
  |y x=>exact n (.y x) _ rfl rfl λ_=>rfl
  |sl t L=>
   obtain⟨s,rfl⟩:=Cs.sv (H _ hM.sees.1);have hx:=Ext.one ρ (.row s);have a:=Gn ρ (.row s);rw[hn]at a;have d:∀r∈rs,r∈rV s.v (Ar (sz t) (fD t) L)::rs:=λ_ h=>Bf _ h
   obtain⟨ρ',rs',k,o,p,q,z,A,C,D,F,f⟩:=Yl ls {st with Bg:=⟨st.Ak,t,L,.no⟩::st.Bg,Ak:=st.Ak+1} (ρ++[.row s]) c (rV s.v (Ar (sz t) (fD t) L)::rs) (by simp[hn]) (OwnOk.mono hx d h1) (λx G=>by
    rcases Bq.1 G with rfl|G
    ·exact⟨_,Bm ..,s,a,rfl⟩
    ·obtain⟨r,P,Q⟩:=h2 x G;exact⟨r,Bf _ P,Q.mono hx⟩) (λS g=>j S λr h=>g r (Bf _ h)) (hM.more H)
   refine⟨ρ',rs',hx.trans k,λr h=>o r (d r h),p,q,z,A,⟨⟨s,k.get a,rfl⟩,C⟩,Be.trans (b:= {st with Bg:=⟨st.Ak,t,L,.no⟩::st.Bg,Ak:=st.Ak+1}) ⟨N8 _,λc' M _=>⟨c',M,.inl rfl⟩,[_],rfl⟩ D,F,f⟩
theorem U4{h}:∀ {own:List Chunk} {p:J6×List Chunk} {m:List As},Nb h own=Aa p->OwnOk ρ rs own m->OwnLe own p.2/\∃q xs m',ρ[h]?=Aa (.row q)/\OwnOk ρ rs p.2 m'/\(∀w,Z w m (Cx (sz p.1.t) q.v p.1.L.length xs::m'))/\rX xs (p.1.L.flatMap (fD p.1.t))∈rs
 |[],_,_,h,_=>by cases h
 |.C9 k g t L::own,p,a::m,b,⟨h1,h2⟩=>by
  simp only[Nb]at b;cases r:Ay k h with
  |true=>rw[r]at b;cases b;cases Br r;obtain⟨q,xs,d,rfl,k2⟩:=h1;exact⟨λc b=>Bf _ b,q,xs,m,d,h2,λw=>zI,k2⟩
  |false=>
   rw[r]at b;simp only[cond_false,Di]at b;obtain⟨z,e,rfl⟩:=b;obtain⟨n,q,xs,m',d,k2,f,l⟩:=U4 e h2
   exact⟨λc b=>by
    rcases Bq.1 b with rfl|b
    ·exact Bm ..
    ·exact Bf _ (n c b),q,xs,a::m',d,⟨h1,k2⟩,λw=>(f w).cons.trans (Z.perm (List.Perm.swap ..)),l⟩
 |.row k g t L vs::own,p,a::m,b,⟨h1,h2⟩=>by
  simp only[Nb,Di]at b;obtain⟨z,e,rfl⟩:=b;obtain⟨n,q,xs,m',d,k2,f,l⟩:=U4 e h2
  exact⟨λc b=>by
   rcases Bq.1 b with rfl|b
   ·exact Bm ..
   ·exact Bf _ (n c b),q,xs,a::m',d,⟨h1,k2⟩,λw=>(f w).cons.trans (Z.perm (List.Perm.swap ..)),l⟩
 |.box k g cs::own,p,a::m,b,⟨h1,h2⟩=>by
  simp only[Nb,Di]at b;obtain⟨z,e,rfl⟩:=b;obtain⟨n,q,xs,m',d,k2,f,l⟩:=U4 e h2
  exact⟨λc b=>by
   rcases Bq.1 b with rfl|b
   ·exact Bm ..
   ·exact Bf _ (n c b),q,xs,a::m',d,⟨h1,k2⟩,λw=>(f w).cons.trans (Z.perm (List.Perm.swap ..)),l⟩
 |.El k g t L i j o::own,p,a::m,b,⟨h1,h2⟩=>by
  simp only[Nb,Di]at b;obtain⟨z,e,rfl⟩:=b;obtain⟨n,q,xs,m',d,k2,f,l⟩:=U4 e h2
  exact⟨λc b=>by
   rcases Bq.1 b with rfl|b
   ·exact Bm ..
   ·exact Bf _ (n c b),q,xs,a::m',d,⟨h1,k2⟩,λw=>(f w).cons.trans (Z.perm (List.Perm.swap ..)),l⟩
 |.rem k g t L i::own,p,a::m,b,⟨h1,h2⟩=>by
  simp only[Nb,Di]at b;obtain⟨z,e,rfl⟩:=b;obtain⟨n,q,xs,m',d,k2,f,l⟩:=U4 e h2
  exact⟨λc b=>by
   rcases Bq.1 b with rfl|b
   ·exact Bm ..
   ·exact Bf _ (n c b),q,xs,a::m',d,⟨h1,k2⟩,λw=>(f w).cons.trans (Z.perm (List.Perm.swap ..)),l⟩
 |_::_,_,[],_,h=>h.elim
theorem Adi{h}:∀ {own:List Chunk} {p:(Nat×J6×List View)×List Chunk} {m:List As},P1 h own=Aa p->OwnOk ρ rs own m->OwnLe own p.2/\∃q d m',ρ[p.1.1]?=Aa (.row q)/\ViewsAre ρ q p.1.2.1.t p.1.2.1.L p.1.2.2 d/\OwnOk ρ rs p.2 m'/\∀w,Z w m (oV (oC (Ar (sz p.1.2.1.t) (fD p.1.2.1.t) p.1.2.1.L) q.v) d::m')
 |[],_,_,h,_=>by cases h
 |.row k g t L vs::own,p,a::m,b,⟨h1,h2⟩=>by
  simp only[P1]at b;cases s:Ay k h||inV h vs with
  |true=>rw[s]at b;cases b;obtain⟨q,d,e,k2,rfl⟩:=h1;exact⟨λc b=>Bf _ b,q,d,m,e,k2,h2,λw=>zI⟩
  |false=>
   rw[s]at b;simp only[cond_false,Di]at b;obtain⟨z,f,rfl⟩:=b;obtain⟨r,q,d,m',e,k2,l,n⟩:=Adi f h2
   exact⟨λc b=>by
    rcases Bq.1 b with rfl|b
    ·exact Bm ..
    ·exact Bf _ (r c b),q,d,a::m',e,k2,⟨h1,l⟩,λw=>(n w).cons.trans (Z.perm (List.Perm.swap ..))⟩
 |.C9 k g t L::own,p,a::m,b,⟨h1,h2⟩=>by
  simp only[P1,Di]at b;obtain⟨z,f,rfl⟩:=b;obtain⟨r,q,d,m',e,k2,l,n⟩:=Adi f h2
  exact⟨λc b=>by
   rcases Bq.1 b with rfl|b
   ·exact Bm ..
   ·exact Bf _ (r c b),q,d,a::m',e,k2,⟨h1,l⟩,λw=>(n w).cons.trans (Z.perm (List.Perm.swap ..))⟩
 |.box k g cs::own,p,a::m,b,⟨h1,h2⟩=>by
  simp only[P1,Di]at b;obtain⟨z,f,rfl⟩:=b;obtain⟨r,q,d,m',e,k2,l,n⟩:=Adi f h2
  exact⟨λc b=>by
   rcases Bq.1 b with rfl|b
   ·exact Bm ..
   ·exact Bf _ (r c b),q,d,a::m',e,k2,⟨h1,l⟩,λw=>(n w).cons.trans (Z.perm (List.Perm.swap ..))⟩
 |.El k g t L i j o::own,p,a::m,b,⟨h1,h2⟩=>by
  simp only[P1,Di]at b;obtain⟨z,f,rfl⟩:=b;obtain⟨r,q,d,m',e,k2,l,n⟩:=Adi f h2
  exact⟨λc b=>by
   rcases Bq.1 b with rfl|b
   ·exact Bm ..
   ·exact Bf _ (r c b),q,d,a::m',e,k2,⟨h1,l⟩,λw=>(n w).cons.trans (Z.perm (List.Perm.swap ..))⟩
 |.rem k g t L i::own,p,a::m,b,⟨h1,h2⟩=>by
  simp only[P1,Di]at b;obtain⟨z,f,rfl⟩:=b;obtain⟨r,q,d,m',e,k2,l,n⟩:=Adi f h2
  exact⟨λc b=>by
   rcases Bq.1 b with rfl|b
   ·exact Bm ..
   ·exact Bf _ (r c b),q,d,a::m',e,k2,⟨h1,l⟩,λw=>(n w).cons.trans (Z.perm (List.Perm.swap ..))⟩
 |_::_,_,[],_,h=>h.elim
theorem St.sealV {q:Sv}{t L vl} (g:St B (oV (oC (Ar (sz t) (fD t) L) q.v) vl::m) rs w):∃b,St B m (b::rs) w/\(∀S w,b.ok S w->(rV q.v (Ar (sz t) (fD t) L)).ok S w)/\∀u c,vR u c∈vl->∀S w,b.ok S w->(rV u c).ok S w:=by let b:Rd:=⟨λS w=>(rV q.v (Ar (sz t) (fD t) L)).ok S w/\∀(u:Value) (c:Ce),vR u c∈vl->(rV u c).ok S w,λ{S S' w w'} d e f=>⟨Rd.mono _ d e f.1,λu c a=>Rd.mono _ d e (f.2 u c a)⟩⟩;exact⟨b,g.unV λF i ho=>⟨(Ar (sz t) (fD t) L).seen ho,λu c a=>i _ a⟩,λS w h=>h.1,λu c a S w h=>h.2 u c a⟩
theorem St.moreL{r0}:∀ {rl:List Rd} {rs:List Rd},St B m rs w->r0∈rs->(∀r∈rl,∀S w,r0.ok S w->r.ok S w)->St B m (rl++rs) w
 |[],_,hs,_,_=>hs
 |r::rl,rs,hs,h0,hr=>(St.moreL (rl:=rl) hs h0 λc a=>hr c (Bf _ a)).more λS b=>hr r (Bm ..) S w (b r0 (F5 _ h0))
theorem Biq{q t L}:∀ {vs:List View} {a:List Vi},ViewsAre ρ q t L vs a->∃rl,RdsOk ρ (Ap2 vs) rl/\∀r∈rl,∃u c,r=rV u c/\vR u c∈a
 |[],a,_=>⟨[],(λ_ h=>by cases h),λ_ h=>by cases h⟩
 |v::vs,a,⟨l1,l2,e,⟨s',_,h1,_,h2⟩,h3⟩=>by
  obtain⟨rl,f,k2⟩:=Biq h3;refine⟨rV s'.v (Ar (sz v.t) (fD v.t) v.L)::rl,λx hx=>?_,λr b=>?_⟩
  ·rcases Bq.1 hx with rfl|hx
   ·exact⟨_,Bm ..,s',h1,rfl⟩
   ·obtain⟨r,g,i⟩:=f x hx;exact⟨r,Bf _ g,i⟩
  ·rcases Bq.1 b with rfl|b
   ·exact⟨_,_,rfl,by rw[e,h2];exact Hv _ (Bm ..)⟩
   ·obtain⟨u,c,d,e2⟩:=k2 r b;exact⟨u,c,d,by rw[e];exact F5 _ e2⟩
theorem Bgo (d:Sat B Af ρ st env w) h:Sat B Af ρ (Q9 h st) env w/\Be st (Q9 h st)/\(Q9 h st).env=st.env:=by
 unfold Q9;obtain⟨m,rs,y,A,C,D⟩:=d.mem;split
 ·rename_i p i;obtain⟨n,q,N,m',j,k2,k,l⟩:=Adi i y;obtain⟨M,F,G,H⟩:=(D.z (l w)).sealV;obtain⟨rl,I,K⟩:=Biq k2
  have b:=St.moreL (rl:=rV q.v (Ar (sz p.1.2.1.t) (fD p.1.2.1.t) p.1.2.1.L)::rl) F (Bm ..) λr a S w s=>by
   rcases Bq.1 a with rfl|a
   ·exact G S w s
   ·obtain⟨u,c,rfl,e2⟩:=K r a;exact H u c e2 S w s
  have a:∀o∈rs,o∈(rV q.v (Ar (sz p.1.2.1.t) (fD p.1.2.1.t) p.1.2.1.L)::rl)++M::rs:=λ_ h=>F5 _ (Bf _ h);refine⟨⟨d.len,d.env,m',_,OwnOk.mono (Ext.refl ρ) a k,λx hx=>?_,λr h=>a r (C r h),b⟩,⟨Ef _,λc' g _=>⟨c',n c' g,.inl rfl⟩,_::Ap2 p.1.2.2,rfl⟩,rfl⟩;rcases Bq.1 hx with rfl|hx
  ·exact⟨_,Hv _ (Bm ..),q,j,rfl⟩
  ·rcases Ei.1 hx with hx|hx
   ·obtain⟨r,e,f⟩:=I x hx;exact⟨r,Hv _ (Bf _ e),f⟩
   ·obtain⟨r,e,f⟩:=A x hx;exact⟨r,a r e,f⟩
 ·split
  ·rename_i p i;obtain⟨n,q,xs,m',j,k2,k,l⟩:=U4 i y;have b:=(D.z (k w)).sealS (Fu p.1.t) l;have a:∀o∈rs,o∈rV q.v (Ar (sz p.1.t) (fD p.1.t) p.1.L)::rs:=λ_ h=>Bf _ h;refine⟨⟨d.len,d.env,m',_,OwnOk.mono (Ext.refl ρ) a k2,λx hx=>?_,λr h=>a r (C r h),b⟩,⟨Ef _,λc' g _=>⟨c',n c' g,.inl rfl⟩,[_],rfl⟩,rfl⟩;rcases Bq.1 hx with rfl|hx
   ·exact⟨_,Bm ..,q,j,rfl⟩
   ·obtain⟨r,e,f⟩:=A x hx;exact⟨r,a r e,f⟩
  ·exact⟨d,Be.refl st,rfl⟩
theorem Adp:∀ {l:List Cell} {st:Ai},Sat B Af ρ st env w->Sat B Af ρ (Na l st) env w/\Be st (Na l st)/\(Na l st).env=st.env
 |[],st,hs=>⟨hs,Be.refl st,rfl⟩
 |c::l,st,hs=>by
  unfold Na;split
  ·rename_i h;obtain⟨a,b,d⟩:=Bgo hs h;obtain⟨e,f,g⟩:=Adp (l:=l) a;exact⟨e,b.trans f,g.trans d⟩
  ·exact Adp hs
theorem Z6:∀ {l:List Cell} {st:Ai},(Na l st).Ak=st.Ak
 |[],_=>rfl
 |c::l,st=>by
  unfold Na;split
  ·rename_i h;rw[Z6];unfold Q9;split
   ·rfl
   ·split<;>rfl
  ·exact Z6
theorem Bgn{h}:(Q9 h st).Ak=st.Ak:=by
 unfold Q9;split
 ·rfl
 ·split<;>rfl
theorem A0m{c ty own p v} (h:Apb c ty own=Aa p) (o:c.Den ρ v) (g:OwnOk ρ rs own m) (j:St B m rs w):
  OwnLe own p.2/\∃(s:Sv) (xs:List Value) (m':List As) (rs':List Rd),v=s.v/\(∀r∈rs,r∈rs')/\OwnOk ρ rs' p.2 m'/\St B (Cx (sz ty) s.v p.1.length xs::m') rs' w/\rX xs (p.1.flatMap (fD ty))∈rs':=by
 have a:∀r:Rd,∀y∈rs,y∈r::rs:=λ_ _ h=>Bf _ h;unfold Apb at h;split at h
 ·cases h;cases o;exact⟨OwnLe.refl _,nS,[],m,_,rfl,a _,OwnOk.mono (Ext.refl ρ) (a _) g,j.nilS (sz ty) (fD ty),Bm ..⟩
 ·obtain⟨s,s1,rfl⟩:=o;split at h
  ·rename_i q x;simp only[Di]at h;obtain⟨l,i,rfl⟩:=h;obtain⟨n,C,xs,m',b,k2,d,t⟩:=U4 x g;rw[s1]at b;cases b;obtain⟨e,e2⟩:=Qp i;obtain⟨⟨A,L'⟩,f⟩:=q;simp only at e e2 d t;subst e e2;exact⟨n,s,xs,m',rs,rfl,λ_ h=>h,k2,j.z (d w),t⟩
  ·obtain⟨q,u,h⟩:=A1 h;simp only[Di]at h;obtain⟨l,i,rfl⟩:=h;obtain⟨n,s',m',b,k2,d⟩:=Q5 u g;rw[s1]at b;cases b;obtain⟨e,e2⟩:=Qp i;obtain⟨⟨A,L'⟩,f⟩:=q;simp only at e e2 d;subst e e2;obtain⟨xs,k⟩:=(j.z (d w)).toS;exact⟨n,s,xs,m',_,rfl,a _,OwnOk.mono (Ext.refl ρ) (a _) k2,k,Bm ..⟩
 ·cases h
theorem Azk (b:RdsOk ρ st.Bg rs){ty cs a us} (h:Aha st ty cs=Aa a) (f:All2 (Cell.Den ρ) cs us):∀S w,(∀r∈rs,r.ok S w)->Eg S w (fD ty a) us:=λS w e=>by unfold Aha at h;obtain⟨l,c,d⟩:=A1 h;rw[Gl,Ic d];exact Z2 (st:= {st with own:=[]}) (m:=[]) ⟨e,λ_ h=>by cases h⟩ (show OwnOk ρ rs [] []from trivial) b c f
theorem Sat.C9 (a:Sat B Af ρ st env w){own' m' rs s t L xs w'} (c:OwnOk ρ rs own' m') (d:RdsOk ρ st.Bg rs) (e:∀r∈Af,r∈rs) (f:rX xs (L.flatMap (fD t))∈rs) (g:St B (Cx (sz t) s.v L.length xs::m') rs w'):
  Sat B Af (ρ++[.row s]) {st with own:=.C9 st.Ak st.Ak t L::own',Ak:=st.Ak+1} env w':=by
 have hx:=Ext.one ρ (.row s);have b:=Gn ρ (.row s);rw[a.len]at b;exact⟨by simp[a.len],a.env.mono hx,Cx (sz t) s.v L.length xs::m',rs,⟨⟨s,xs,b,rfl,f⟩,OwnOk.mono hx (λ_ h=>h) c⟩,d.mono hx λ_ h=>h,e,g⟩
end
end
section
open Go.RowKit
section
variable {ρ ρ':List HV} {rs rs':List Rd} {B:Dn} {Af:List Rd} {st:Ai} {env:Env} {w:World} {m:List As} {R:Type} {r:R} {op:Op} {K:SV->Ai->Option R}
def After (B:Dn) (Af:List Rd) (ρ:List HV) (st:Ai) (env:Env) (K:SV->Ai->Option R) (r:R) (v:Value) (w':World):Prop:=
 ∃sv a ρ',K sv a=Aa r/\Ext ρ ρ'/\Sat B Af ρ' a env w'/\sv.Den ρ' v/\Be st a/\a.env=st.env
def MkOk (q:Bool) (B:Dn) (Af:List Rd) (ρ:List HV) (st:Ai) (env:Env) (w:World) (op:Op) (K:SV->Ai->Option R) (r:R):Prop:=
 ∀n d ty pos af,Ex prog n env w ⟨Aa d,op,ty,pos,af,Ab⟩ λv w'=>(q=true->Rel w w')/\After B Af ρ st env K r v w'
theorem LkOk.mk q (h:LkOk B Af ρ st env w op K r):MkOk q B Af ρ st env w op K r:=λn d ty pos af=>by obtain⟨sv,v,a,ρ',b,c,e,f,g,i,j⟩:=h;exact exq (j w (Rel.refl w) _ _ _ _ _ _) ⟨λ_=>Rel.refl w,sv,a,ρ',b,c,e,f,g,i⟩
theorem Be.fresh{own' c} (d:H9 c=st.Ak) (b:OwnLe st.own own'):Be st {st with own:=c::own',Ak:=st.Ak+1}:=⟨N8 _,λc' a h=>by
 rcases Bq.1 a with rfl|a
 ·rw[d]at h;exact absurd h (Aku _)
 ·exact⟨c',b c' a,.inl rfl⟩,[],rfl⟩
theorem Sat.row (a:Sat B Af ρ st env w){own' m' rs s t L w'} (c:OwnOk ρ rs own' m') (d:RdsOk ρ st.Bg rs) (e:∀r∈Af,r∈rs) (f:St B (oC (Ar (sz t) (fD t) L) s.v::m') rs w'):
  Sat B Af (ρ++[.row s]) {st with own:=.row st.Ak st.Ak t L []::own',Ak:=st.Ak+1} env w':=by
 have hx:=Ext.one ρ (.row s);have b:=Gn ρ (.row s);rw[a.len]at b;exact⟨by simp[a.len],a.env.mono hx,oV (oC (Ar (sz t) (fD t) L) s.v) []::m',rs,⟨⟨s,[],b,rfl,rfl⟩,OwnOk.mono hx (λ_ h=>h) c⟩,d.mono hx λ_ h=>h,e,f.z Z.toV⟩
theorem Sat.rowDen (b:Sat B Af ρ st env w) s:(SV.v (.c (.sl st.Ak))).Den (ρ++[.row s]) s.v:=by have a:=Gn ρ (.row s);rw[b.len]at a;exact⟨s,a,rfl⟩
theorem Sat.newBox (d:Sat B Af ρ st env w){b e cs vs rs w'} (f:OwnOk ρ rs st.own m) (g:RdsOk ρ st.Bg rs) (i:∀r∈Af,r∈rs) (k:All2 (Cell.Den ρ) cs vs) (j:St B (Cc b vs.toArray e::m) rs w'):
  Sat B Af (ρ++[.box b]) {st with own:=.box st.Ak st.Ak cs::st.own,Ak:=st.Ak+1} env w'/\(SV.v (.c (.ptr st.Ak 0))).Den (ρ++[.box b]) (pt b 0):=by
 have hx:=Ext.one ρ (.box b);have a:=Gn ρ (.box b);rw[d.len]at a;exact⟨⟨by simp[d.len],d.env.mono hx,Cc b vs.toArray e::m,rs,⟨⟨b,e,vs,a,k.mono λ_ _=>Cell.Den.mono hx,rfl⟩,OwnOk.mono hx (λ_ h=>h) f⟩,g.mono hx λ_ h=>h,i,j⟩,⟨b,a,rfl⟩⟩
theorem A0o {c:Cell} (h:c.shut=true):c.Den ρ c.val:=by
 cases c with
 |Q4 u=>exact⟨rfl,h⟩
 |i k x=>rfl
 |y x=>rfl
 |b x=>rfl
 |s x=>rfl
 |nil=>rfl
 |_=>cases h
theorem Apd:∀ {l:List Cell},l.all Cell.shut=true->All2 (Cell.Den ρ) l (l.map Cell.val)
 |[],_=>trivial
 |c::l,h=>by simp only[K5,A9]at h;exact⟨A0o h.1,Apd h.2⟩
theorem B2l (i:Sat B Af ρ st env w){e} (h:Agv st e K=Aa r):MkOk true B Af ρ st env w (.alloc e) K r:=λn d ty pos af=>by
 unfold Agv at h;split at h
 ·rename_i ti q;cases c:ti.zero.all Cell.shut with
  |false=>rw[c]at h;cases h
  |true=>rw[c]at h;obtain⟨_,z,s,f⟩:=Js q;obtain⟨m,rs,j,k,l,o⟩:=i.mem;refine Biz s o λb w' p a=>?_;have g:=Apd (ρ:=ρ) c;rw[<-f]at g;obtain⟨t,k2⟩:=i.newBox (e:=e) j k l g (by simpa using a);exact⟨λ_=>p,_,_,_,h,Ext.one ρ _,t,k2,Be.fresh rfl (OwnLe.refl _),rfl⟩
 ·cases h
theorem Bsc {v:Value} (h:v.oneCell'=true):v.cells= #[v]:=by cases v<;>first|rfl|cases h
theorem V1.Den.cells {x:V1}{v} (h:x.Den ρ v):All2 (Cell.Den ρ) x.cells v.cells.toList:=by
 cases x with
 |c c=>rw[Bsc (Cell.Den.one h)];exact⟨h,trivial⟩
 |a l=>obtain⟨vs,b,rfl⟩:=h;simpa [V1.cells,Value.cells]using b
theorem B2m (c:Sat B Af ρ st env w){x e} (h:Ayb st x K=Aa r):MkOk true B Af ρ st env w (.box e x) K r:=λn d ty pos af=>by
 unfold Ayb at h;split at h
 ·rename_i v l;obtain⟨u,p,u2⟩:=c.env.ev1 l;obtain⟨m,rs,f,g,i,j⟩:=c.mem;refine Cdy p j λb w' k a=>?_;obtain⟨o,k2⟩:=c.newBox (e:=e) f g i u2.cells (by simpa using a);exact⟨λ_=>k,_,_,_,h,Ext.one ρ _,o,k2,Be.fresh rfl (OwnLe.refl _),rfl⟩
 ·cases h
theorem All2.splice{α b R} {l l':List α} {m m':List b}{o} (h:All2 R l m) (a:All2 R l' m'):All2 R (Go.Proofs.YtbbefmccoomfhaaGreatDoor.splice l o l') (Go.Proofs.YtbbefmccoomfhaaGreatDoor.splice m o m'):=by unfold Go.Proofs.YtbbefmccoomfhaaGreatDoor.splice;rw[a.len];exact((h.take o).append a).append (h.drop _)
theorem B8p{α} {l m:List α}{o} (h:o+m.length<=l.length) k:(splice l o m)[k]?=if o<=k/\k<o+m.length then m[k-o]? else l[k]?:=by
 unfold splice;rw[Ci,Bq5,Dh,Pb (by omega)];by_cases a:k<o
 ·rw[if_pos a,if_neg (by omega),Nk,if_pos a]
 ·rw[if_neg a,Bq5];by_cases b:k-o<m.length
  ·rw[if_pos b,if_pos (by omega)]
  ·rw[if_neg b,if_neg (by omega),K6];congr 1;omega
theorem Bxs off l cells (h:off+l.length<=cells.size):
  ((l.zipIdx 0).foldl (λcs (x:Value×Nat)=>cs.setIfInBounds (off+x.2) x.1) cells)=(splice cells.toList off l).toArray:=by
 obtain⟨c,b⟩:=Great.foldl_set off l 0 cells;apply A5q;intro k;rw[b,Ata (xs:=splice cells.toList off l),B8p (by simpa using h),Ae9,Qi];by_cases a:off<=k/\k<off+l.length
 ·rw[if_pos a,if_pos ⟨a.1,a.2,by omega⟩]
 ·rw[if_neg a,if_neg (by omega),Qi]
theorem Beo{se} (e:EnvOk ρ se env){pl}:∀ {ps:List (Nat×Operand)} {cs cs':List Cell} {us:List Value},Aoj cs pl ps se=Aa cs'->All2 (Cell.Den ρ) cs us->
  ∃a c,evP env ps=Aa a/\Instr.fill (pl.toArray[·]?) us.toArray a=Aa (Pa c)/\All2 (Cell.Den ρ) cs' c
 |[],cs,cs',us,h,hd=>by cases h;exact⟨[],us,rfl,rfl,hd⟩
 |(i,x)::ps,cs,cs',us,h,hd=>by
  unfold Aoj at h;split at h
  ·rename_i off b v f k;have d:=(bt h).1;replace h:=(bt h).2;simp only[A9]at d;have g:=Br d.1;have s:off+b<=cs.length:=Ql d.2;obtain⟨u,q,u2⟩:=e.ev1 k;have u3:=u2.cells;obtain⟨a,c,l,k2,n⟩:=Beo e h (hd.splice (o:=off) u3);have p:=u3.len;have t:=hd.len;refine⟨(i,u)::a,c,by simp[evP,q,l],?_,n⟩;unfold Instr.fill;have j:pl.toArray[i]?=Aa (off,b):=by rw[Ol]at f;simpa using f
   simp only[j];have y:u.cells.size=b:=by rw[<-Ew,<-p];exact g
   rw[if_neg (by simp only[Qk];simp;omega)];have e2:(u.cells.zipIdx.foldl (λcs (x:Value×Nat)=>cs.setIfInBounds (off+x.2) x.1) us.toArray)=(splice us off u.cells.toList).toArray:=by have:=Bxs off u.cells.toList us.toArray (by simp;omega);rw[<-this,<-Bqt,Bqy]
   exact(by rw[<-k2,<-e2])
  ·cases h
theorem Bef:∀ {fs:List Field} {a:List (Nat×Nat)},places (fs.map λf=>(f.offset,f.type))=Aa a->fs.mapM (λf=>(prog.info? f.type).map λi=>(f.offset,i.size))=Aa a
 |[],a,h=>by cases h;rfl
 |f::fs,a,h=>by
  simp only[Fa,places]at h;split at h
  ·rename_i i l hi b;cases h;obtain⟨_,z,c,_⟩:=Js hi;obtain⟨k,d,g,e,j⟩:=c.info;simp[A6a,d,Bef b,e]
  ·cases h
theorem Bdq (n:Sat B Af ρ st env w){t ps} (h:Zs st t ps K=Aa r):LkOk B Af ρ st env w (.build t ps.toArray) K r:=by
 unfold Zs at h;split at h
 ·rename_i ti u;obtain⟨⟨d,q,k⟩,z,x,i⟩:=Js u;split at h
  ·rename_i fs f;rw[f]at k;obtain⟨l,rfl,s⟩:=k;split at h
   ·rename_i I g;split at h
    ·rename_i cs b
     have c:ti.zero.all Cell.shut=true:=by
      cases p:ti.zero.all Cell.shut with
      |true=>rfl
      |false=>rw[p]at b;cases b
     rw[c]at b;have e:=Apd (ρ:=ρ) c;obtain⟨o,j,C,k2,D⟩:=Beo n.env b e;obtain⟨H,y,A,F,G⟩:=x.info;refine .same n h (sv:=.v (.a cs)) ⟨j,D,rfl⟩ λ_ _ _ _ _ _ _ _=>B4d C ?_;unfold Program.built;simp only[y,q,A,Bef (fs:=l.toList) (by rw[s];exact g)];rw[<-k2,<-i]
    ·cases h
   ·cases h
  ·cases h
 ·cases h
theorem R9{t e ei ty} (h:Oe t=Aa (e,ei,ty)):prog.underlying t=Aa (.slice e)/\Abo prog e ei:=by
 unfold Oe at h;split at h
 ·rename_i ti i;obtain⟨⟨d,f,b⟩,_⟩:=Js i;split at h
  ·rename_i j a;rw[a]at b;cases b;split at h
   ·rename_i c g;split at h
    ·cases h;exact⟨f,Js g⟩
    ·cases h
   ·cases h
  ·cases h
 ·cases h
theorem Avw{k}:∀ {a:List Value},(∀v∈a,v.cells.size=k)->(a.flatMap λv=>v.cells.toList).length=a.length*k
 |[],_=>by simp
 |v::a,h=>by rw[F4,Bt,Avw λu hu=>h u (Bf _ hu),Ew,h v (Bm ..),B5,Gk,Yg,Yf]
theorem Bco (g:EnvOk ρ st.env env){ty}:∀ {k:Nat} {ps:List (Nat×Operand)} {own:List Chunk} {p:List (C7 ty)×List Chunk} {m:List As},Am4 st ty k ps own=Aa p->OwnOk ρ rs own m->
  OwnLe own p.2/\p.1.length=ps.length/\∃(c:List Value) (m':List As),evP env ps=Aa ((c.zipIdx k).map λx=>(x.2,x.1))/\c.length=ps.length/\(∀v∈c,v.cells.size=sz ty)/\OwnOk ρ rs p.2 m'/\(∀w,Z w m (Bc (p.1.flatMap (fD ty)) (c.flatMap λv=>v.cells.toList)++m'))
 |_,[],own,p,m,h,h1=>by cases h;exact⟨OwnLe.refl _,rfl,[],m,rfl,rfl,(λ_ h=>by cases h),h1,λw=>zI⟩
 |k,(i,x)::ps,own,p,m,h,h1=>by
  unfold Am4 at h;have hi:=Br (bt h).1;replace h:=(bt h).2;subst hi;obtain⟨v,N,h⟩:=A1 h;obtain⟨q,L,h⟩:=A1 h;obtain⟨a,e,h⟩:=A1 h;obtain⟨z,z1,h⟩:=A1 h;cases h;obtain⟨u,M,u2⟩:=g.ev1 N;obtain⟨D,G,m1,o,k2⟩:=Q1 L u2.cells h1;obtain⟨H,I,c,m2,s,t,y,A,C⟩:=Bco g z1 o;have n:fD ty a=q.1.map A5.ce:=by rw[Gl,Ic e]
  have hu:u.cells.toList.length=sz ty:=by rw[<-G,<-Kz ty a,Ic e]
  refine⟨D.trans H,by simp[I],u::c,m2,?_,by simp[t],λv d=>?_,A,λw=>?_⟩
  ·simp[evP,M,s,A6p]
  ·rcases Bq.1 d with rfl|d
   ·simpa using hu
   ·exact y v d
  ·simp only[F4];rw[O8 (by rw[Fu,hu]),Ci,n];refine(k2 w).trans ?_;intro F f;obtain⟨F1,j,g1,g2,g3,g4,g5⟩:=f.split;exact(Sep.join g1 (C w j g2) g3).up (λb l=>l.elim (g4 b) (g5 b)) f.lt
theorem Be.C9{st1} (c:Be st st1) (d:st1.Ak=st.Ak){own' t L} (b:OwnLe st1.own own'):Be st {st1 with own:=.C9 st.Ak st.Ak t L::own',Ak:=st.Ak+1}:=⟨N8 _,λc' a h=>by
 rcases Bq.1 a with rfl|a
 ·exact absurd h (Aku _)
 ·exact c.own c' (b c' a) h,c.Bg⟩
theorem A0j:∀ {ps:List (Nat×Operand)} {st:Ai},Sat B Af ρ st env w->Sat B Af ρ (U2 ps st) env w/\Be st (U2 ps st)/\(U2 ps st).env=st.env/\(U2 ps st).Ak=st.Ak
 |[],st,hs=>⟨hs,Be.refl st,rfl,rfl⟩
 |p::ps,st,hs=>by
  unfold U2;split
  ·rename_i v _;obtain⟨a,b,c⟩:=Adp (l:=v.cells) hs;obtain⟨d,e,f,g⟩:=A0j (ps:=ps) a;exact⟨d,b.trans e,f.trans c,g.trans Z6⟩
  ·exact A0j hs
theorem Bcn (s:EnvOk ρ st.env env) (g:RdsOk ρ st.Bg rs){ty}:∀ {k:Nat} {ps:List (Nat×Operand)} {l:List (C7 ty)},Am5 st ty k ps=Aa l->
  l.length=ps.length/\∃(b:List Value),evP env ps=Aa ((b.zipIdx k).map λx=>(x.2,x.1))/\b.length=ps.length/\(∀v∈b,v.cells.size=sz ty)/\∀S w,(∀r∈rs,r.ok S w)->Eg S w (l.flatMap (fD ty)) (b.flatMap λv=>v.cells.toList)
 |_,[],l,h=>by cases h;exact⟨rfl,[],rfl,rfl,(λ_ h=>by cases h),λ_ _ _=>rfl⟩
 |k,(i,x)::ps,l,h=>by
  unfold Am5 at h;have hi:=Br (bt h).1;replace h:=(bt h).2;subst hi;obtain⟨v,N,h⟩:=A1 h;obtain⟨a,f,h⟩:=A1 h;obtain⟨z,z1,h⟩:=A1 h;cases h;obtain⟨u,M,u2⟩:=s.ev1 N;obtain⟨L,b,F,G,H,I⟩:=Bcn s g z1;have j:=Azk g f u2.cells
  have hu:u.cells.toList.length=sz ty:=by
   unfold Aha at f;obtain⟨O,t,y⟩:=A1 f
   have:∀ {d:List Ty} {cs:List Cell} {ls:List A5} {st:Ai},Ot st d cs=Aa ls->ls.length=cs.length:=λ{d}=>by
    induction d with
    |nil=>intro cs ls st h;cases cs with
     |nil=>cases h;rfl
     |cons _ _=>cases h
    |cons e d o=>intro cs ls st h;cases cs with
     |nil=>cases h
     |cons c cs=>unfold Ot at h;obtain⟨q,g,A⟩:=A1 h;obtain⟨z,C,D⟩:=A1 A;cases D;simp[o C]
   rw[<-u2.cells.len,<-this t,<-Kz ty a,Ic y]
  refine⟨by simp[L],u::b,?_,by simp[G],λv n=>?_,λS w p=>?_⟩
  ·simp[evP,M,F,A6p]
  ·rcases Bq.1 n with rfl|n
   ·simpa using hu
   ·exact H v n
  ·simp only[F4];exact Ag8 (j S w p) (I S w p)
theorem B2o (i:Sat B Af ρ st env w){t len ps} (h:Ayc st t len ps K=Aa r):MkOk true B Af ρ st env w (.buildSlice t len ps.toArray) K r:=λn d ty pos af=>by
 unfold Ayc at h;split at h
 ·rename_i e ei te V;obtain⟨N,_,z,k,_⟩:=R9 V;split at h
  ·rename_i l own H;have b:=(bt h).1;replace h:=(bt h).2;simp only[A9]at b;have C:=Br b.1.1;have D:=Br b.1.2;obtain⟨m,rs,F,o,y,G⟩:=i.mem;obtain⟨P,A,a,m',I,k2,x,O,M⟩:=Bco i.env H F;have q:=G.z (M w);subst C;rw[<-D]at k b;cases ps with
   |nil=>
    cases a with
    |cons _ _=>simp at k2
    |nil=>
     cases l with
     |cons _ _=>simp at A
     |nil=>exact Cdz (T:=C7 te) N k (Fu te) q λs w' u c=>⟨λ_=>u,_,_,_,h,Ext.one ρ _,i.row O o y c,i.rowDen s,Be.fresh rfl P,rfl⟩
   |cons p ps=>
    have g:(a.flatMap λv=>v.cells.toList).length=(p::ps).length*sz te:=by rw[Avw x,k2]
    refine Cd0 l _ (p::ps).length N k (Fu te) I A g (by simp) b.2 ?_ (λw=>zI) q λs w' u c=>⟨λ_=>u,_,_,_,h,Ext.one ρ _,i.row O o y c,i.rowDen s,Be.fresh rfl P,rfl⟩;exact Great.fill_whole k.2.2 a _ x (by rw[k2];simp)
  ·split at h
   ·rename_i l H;have b:=(bt h).1;replace h:=(bt h).2;simp only[A9]at b;have C:=Br b.1.1.1;have D:=Br b.1.2;obtain⟨Q,W,S,U⟩:=A0j (ps:=ps) i;obtain⟨m,rs,F,o,y,G⟩:=Q.mem;obtain⟨A,a,I,k2,x,M⟩:=Bcn (by rw[S];exact i.env) o H;subst C;rw[<-D]at k b;have g:(a.flatMap λv=>v.cells.toList).length=ps.length*sz te:=by rw[Avw x,k2]
    refine Cd1 (f:=fD te) l _ ps.length N k I A g b.1.1.2 b.2 ?_ M G λs w' u c=>⟨λ_=>u,_,_,_,h,Ext.one ρ _,?_,i.rowDen s,Be.C9 W U (OwnLe.refl _),S⟩
    ·exact Great.fill_whole k.2.2 a _ x (by rw[k2];simp)
    ·have j:∀r∈rs,r∈rX (a.flatMap λv=>v.cells.toList) (l.flatMap (fD te))::rs:=λ_ h=>Bf _ h;have:=Q.C9 (L:=l) (OwnOk.mono (Ext.refl ρ) j F) (o.mono (Ext.refl ρ) j) (λr h=>j r (y r h)) (Bm ..) c;rw[U]at this;exact this
   ·cases h
 ·cases h
theorem B2p (g:Sat B Af ρ st env w){t x} (h:Ayd st t x K=Aa r):MkOk true B Af ρ st env w (.buildSlice t 1 #[(0,x)]) K r:=λn d ty pos af=>by
 unfold Ayd at h;split at h
 ·rename_i v e ei te hx L;obtain⟨M,_,z,q,_⟩:=R9 L;have l:=(bt h).1;replace h:=(bt h).2;simp only[A9]at l;obtain⟨u,N,u2⟩:=g.env.ev1 hx;have u3:=u2.cells;have H:u.cells.size=ei.size:=by rw[<-Ew,<-u3.len];exact Br l.1
  have I:=Ql l.2.2;obtain⟨i,hi,o,c,G⟩:=q.info;obtain⟨m,rs,A,C,j,D⟩:=g.mem;have y:=q.2.2;refine Li (v:=Sv.v ⟨Aa ⟨w.heap.size,0,Ab⟩,1,1⟩) (w':=w.alloc (.cells u.cells e)) (λa F=>?_) ?_
  ·have j:=run_buildSlice (P:=prog) w t e 1 (#[(0,x)].map λp=>(p.1,a.eval p.2)) u.cells i z M hi o (by rw[c];omega) (by rw[c];omega) (by
    have:=Great.fill_whole (s:=ei.size) y [u] ((Vw (1*i.size)).map (z.cells[· % z.cells.size]!)) (by simpa using H) (by simp[c]);rw[c]at this⊢;simpa [F.ev N]using this)
   simp only[execOp,Sem.run_bind,j,Result.andThen_ok,Sem.run_pure];rfl
  ·have k:=D.alloc u.cells e;have b:=Ext.one ρ (.box w.heap.size);have f:=Gn ρ (.box w.heap.size);rw[g.len]at f;refine⟨λ_=>Rel.alloc w _,_,_,_,h,b,⟨by simp[g.len],g.env.mono b,Cc w.heap.size u.cells e::m,rs,⟨⟨w.heap.size,e,u.cells.toList,f,u3.mono λ_ _=>Cell.Den.mono b,by simp⟩,OwnOk.mono b (λ_ h=>h) A⟩,C.mono b λ_ h=>h,j,k⟩,⟨w.heap.size,f,rfl⟩,Be.fresh rfl (OwnLe.refl _),rfl⟩
 ·cases h
theorem Bqq:∀ {a:List Ty} {cs:List Cell} {ls:List A5},Asq a cs=Aa ls->(∀c∈cs,c.shut=true)->ls.length=cs.length/\∀w,Z w [] (Bc (ls.map A5.ce) (cs.map Cell.val))
 |[],[],ls,h,_=>by cases h;exact⟨rfl,λw=>zN⟩
 |e::a,c::cs,ls,h,hc=>by unfold Asq at h;obtain⟨l,b,h⟩:=A1 h;obtain⟨g,d,h⟩:=A1 h;cases h;obtain⟨f,k2⟩:=Bqq d λc h=>hc c (Bf _ h);exact⟨by simp[f],λw=>zP (Ao8 (ρ:=[]) b (A0o (hc c (Bm ..)))).2 (k2 w)⟩
 |[],_::_,_,h,_=>by cases h
 |_::_,[],_,h,_=>by cases h
theorem B2t{x y} (h:Ayh x y=true):x=y:=by
 unfold Ayh at h;split at h
 ·rw[Br h]
 ·cases h
theorem B2q (b:Sat B Af ρ st env w){t x y} (h:Aye st t x y K=Aa r):MkOk true B Af ρ st env w (.makeSlice t x y) K r:=λn d ty pos af=>by
 unfold Aye at h;split at h
 ·rename_i c e ei te hx G;obtain⟨H,_,z,l,k⟩:=R9 G;obtain⟨u,I,u2⟩:=b.env.evC hx;split at h
  ·rename_i n' M D j;have a:=(bt h).1;replace h:=(bt h).2;simp only[A9]at a;have C:=(C8 h).1;replace h:=(C8 h).2;cases Abs u2 D;cases B2t a.2;have o:=Br a.1.2.1;obtain⟨ls,z1,L⟩:=A1 j;have g:∀c∈ei.zero,c.shut=true:=by simpa using a.1.2.2
   obtain⟨N,k2⟩:=Bqq z1 g;obtain⟨m,rs,p,q,v,A⟩:=b.mem;rw[<-o]at l;have i:ev env x=Aa (.int .i64 ((n'.toNat:Nat):Int)):=by rw[I,A5w C.1]
   exact Cd2 M H l (Fu te) (λw=>by rw[Gl,Ic L,k];exact k2 w) i (by omega) a.1.1 A λs w' F f=>⟨λ_=>F,_,_,_,h,Ext.one ρ _,b.row p q v f,b.rowDen s,Be.fresh rfl (OwnLe.refl _),rfl⟩
  ·cases h
 ·cases h
theorem B2s (a:Sat B Af ρ st env w){s t x} (h:Ayg st s t x K=Aa r):MkOk true B Af ρ st env w (.convert s t x) K r:=λn d ty pos af=>by
 unfold Ayg at h;split at h
 ·rename_i v hx;obtain⟨u,p,u2⟩:=a.env.evC hx;cases u2;have e:=(bt h).1;replace h:=(bt h).2;simp only[A9]at e;have l:=(C8 h).1;replace h:=(C8 h).2;obtain⟨q,f,e2⟩:=Bac e.2;obtain⟨m,rs,g,i,j,k⟩:=a.mem;exact Cd3 (Age e.1) f e2 p l k λs w' o c=>⟨λ_=>o,_,_,_,h,Ext.one ρ _,a.row (t:=.b 3) g i j c,a.rowDen s,Be.fresh rfl (OwnLe.refl _),rfl⟩
 ·cases h
theorem Amf{t} (h:Wj t=true):FlatE (fD t):=λx c a=>by
 cases t with
 |sl e=>cases h
 |b n=>
  rw[Gl,K7]at a;obtain⟨l,d,rfl⟩:=a;have f:l.ty∈Iw (.b n):=by rw[<-Bcw _ x];exact List.mem_map_of_mem d
  have g:=Ff.1 h l.ty f;cases l with
  |sl t L=>cases g
  |i x=>exact⟨_,rfl,rfl⟩
  |b x=>exact⟨_,rfl,rfl⟩
  |s x=>exact⟨_,rfl,rfl⟩
  |y x=>exact⟨_,rfl,rfl⟩
theorem Aff{c ty own p v} (h:Abr c ty own=Aa p) (b:c.Den ρ v) (a:OwnOk ρ rs own m):
  OwnLe own p.2/\∃(s:Sv) (m':List As),v=s.v/\OwnOk ρ rs p.2 m'/\∀w,Z w m (oC (Ar (sz ty) (fD ty) p.1) s.v::m'):=by
 unfold Abr at h;split at h
 ·cases h;cases b;exact⟨OwnLe.refl _,nS,m,rfl,a,λw=>zP (pN _ _) zI⟩
 ·obtain⟨q,i,h⟩:=A1 h;obtain⟨l,j,h⟩:=A1 h;cases h;obtain⟨s,s1,rfl⟩:=b;obtain⟨k,s',m',d,k2,f⟩:=Q5 i a;rw[s1]at d;cases d;obtain⟨e,e2⟩:=Qp j;obtain⟨⟨n,L'⟩,g⟩:=q;simp only at e e2 f;subst e e2;exact⟨k,s,m',rfl,k2,f⟩
 ·cases h
theorem A08 {s s':Sv} (h:s.v=s'.v):s=s':=by obtain⟨a,b,c⟩:=s;obtain⟨d,e,f⟩:=s';simp only[Sv.v,Value.slice.injEq]at h;obtain⟨rfl,rfl,rfl⟩:=h;rfl
def Wz (st:Ai) (x:Operand):Bool:=match evC st.env x with
 |some .nil=>true
 |_=>false
theorem Brl (g:Sat B Af ρ st env w){t x y cx cy e ei te} (hx:evC st.env x=Aa cx) (X:evC st.env y=Aa cy) (W:Oe t=Aa (e,ei,te)) (p:Ay (sz te) ei.size=true) (l:Dm ei.bytes 127=true) (h:Afg st cx cy te K=Aa r) (n d:Nat) ty pos af:
  Ex prog n env w ⟨Aa d,.call ⟨.builtin .append,#[x,y],#[t,t]⟩,ty,pos,af,Ab⟩ λv w'=>After B Af ρ st env K r v w':=by
 obtain⟨t1,_,z,D,_⟩:=R9 W;rw[<-Br p]at D;unfold Afg at h;split at h
 ·rename_i V;obtain⟨F,q2,q3⟩:=Bgo g V;obtain⟨u,u1,u2⟩:=g.env.evC hx;obtain⟨v,v1,sv,s1,rfl⟩:=g.env.evC X;split at h
  ·rename_i L own Q;split at h
   ·rename_i c U;split at h
    ·rename_i M j;have T:=(C8 h).1;replace h:=(C8 h).2;obtain⟨m,rs,O,C,P,S⟩:=F.mem;obtain⟨l1,s,xs,m',rs',rfl,o,k2,Y,k4⟩:=A0m Q u2 O S;obtain⟨N,g1,g2,g3⟩:=T8 U;obtain⟨r0,G,a5,H,r3⟩:=C N g1;subst g3 r3;rw[g2,s1]at H;cases H;obtain⟨A,f⟩:=Qp j;obtain⟨hv,I,i,pv⟩:=N;simp only at A f G;subst A f;refine Cdx (L:=L) (M:=i) t1 D v1 u1 (Fu I) Y k4 (o _ G) T l λs' q w' k=>?_;have b:∀r∈rs',r∈rX q ((L++i).flatMap (fD I))::rs':=λ_ h=>Bf _ h;have a:=F.C9 (L:=L++i) (OwnOk.mono (Ext.refl ρ) b k2) (C.mono (Ext.refl ρ) λr h=>b r (o r h)) (λr h=>b r (o r (P r h))) (Bm ..) k;rw[Bgn]at a;exact⟨_,_,_,h,Ext.one ρ _,a,g.rowDen s',Be.C9 q2 Bgn l1,q3⟩
    ·cases h
   ·cases h
  ·cases h
 ·cases h
theorem Bej{h hi}:∀ {vs:List View},Ada h vs=Aa hi->∃v∈vs,v.h=h/\v.pos=.cut 0 hi
 |[],h=>by cases h
 |v::r,hh=>by
  unfold Ada at hh;cases a:Ay v.h h with
  |true=>
   rw[a]at hh;simp only[cond_true]at hh;split at hh
   ·rename_i d;cases hh;exact⟨v,Bm ..,Br a,d⟩
   ·cases hh
  |false=>rw[a]at hh;obtain⟨u,b,c⟩:=Bej hh;exact⟨u,Bf _ b,c⟩
theorem Bcz{h n p}:∀ {own:List Chunk},Zm h n own=Aa p->∃a b k g vs,own=a++ .row k g p.1.1.t p.1.1.L vs::b/\Ada h vs=Aa p.1.2/\p.2=a++ .rem k n p.1.1.t p.1.1.L p.1.2::b
 |[],hc=>by cases hc
 |c::r,hc=>by
  have d:(∃z,Zm h n r=Aa z/\(z.1,c::z.2)=p)->∃a b k g vs,c::r=a++ .row k g p.1.1.t p.1.1.L vs::b/\Ada h vs=Aa p.1.2/\p.2=a++ .rem k n p.1.1.t p.1.1.L p.1.2::b:=λ⟨z,j,e⟩=>by subst e;obtain⟨o,o2,k,g,vs,f,e2,i⟩:=Bcz j;exact⟨c::o,o2,k,g,vs,by rw[f];rfl,e2,by simp only[i];rfl⟩
  cases c with
  |row k g t L vs=>
   simp only[Zm]at hc;split at hc
   ·rename_i hi l;cases hc;exact⟨[],r,k,g,vs,rfl,l,rfl⟩
   ·simp only[Di]at hc;exact d hc
  |_=>simp only[Zm,Di]at hc;exact d hc
theorem Brn (f:Sat B Af ρ st env w){mv t x y} (h:Aty mv st t x y K=Aa r):MkOk (Wz st x&&Nt t) B Af ρ st env w (.call ⟨.builtin .append,#[x,y],#[t,t]⟩) K r:=λn d ty pos af=>by
 unfold Aty at h;split at h
 ·rename_i cx cy e ei te hx hy T;obtain⟨t1,_,z,Q,_⟩:=R9 T;obtain⟨u,u1,u2⟩:=f.env.evC hx;obtain⟨v,v1,v2⟩:=f.env.evC hy;obtain⟨m,rs,h1,V,X,hM⟩:=f.mem;cases p:(Dm ei.bytes 127&&Ay (sz te) ei.size)with
  |false=>
   rw[p]at h;simp only[cond_false]at h;have p:=(bt h).1;replace h:=(bt h).2;simp only[A9]at p;obtain⟨⟨o,H⟩,c6⟩:=p;rw[<-Br H]at Q;have A:Nt t=false:=by simp only[Nt,T];rw[show Wj te=false by simpa using c6];rfl
   unfold A64 at h;split at h
   ·rename_i L own q P;split at h
    ·rename_i c N C;split at h
     ·rename_i M j;have F:=(C8 h).1;replace h:=(C8 h).2;obtain⟨D,s,m',rfl,k2,S⟩:=Aff P u2 h1;have b:=hM.z (S w);obtain⟨sv,s1,rfl⟩:=v2;obtain⟨l2,s',m2,O,k4,k5⟩:=Q5 C k2;rw[s1]at O;cases O;obtain⟨e,e2⟩:=Qp j;obtain⟨i,L'⟩:=c;simp only at e e2 k5;subst e e2;have W:ei.bytes<=255:=by simpa using o
      have Y:L.length+L'.length<=549755813888:=F;have a4:=Rw Y W;exact Bi1 t1 Q v1 u1 (b.z (k5 w).cons) (V6 Y (by decide)) (V6 a4 (by decide)) λs' w' l=>⟨(λh=>by rw[A]at h;simp at h),_,_,_,h,Ext.one ρ _,f.row k4 V X l,f.rowDen s',Be.fresh rfl (D.trans l2),rfl⟩
     ·cases h
    ·cases h
   ·cases h
  |true=>
  rw[p]at h;simp only[cond_true]at h;simp only[A9]at p;obtain⟨o,H⟩:=p;rw[<-Br H]at Q
  have a6:Wj te=false->Afg st cx cy te K=Aa r->Ex prog n env w ⟨Aa d,.call ⟨.builtin .append,#[x,y],#[t,t]⟩,ty,pos,af,Ab⟩ λv w'=>((Wz st x&&Nt t)=true->Rel w w')/\After B Af ρ st env K r v w':=λhf h=>by
   obtain⟨v,w',e1,e2⟩:=Brl f hx hy T H o h n d ty pos af;have A:Nt t=false:=by simp only[Nt,T];rw[hf];rfl
   exact⟨v,w',e1,(λh=>by rw[A]at h;simp at h),e2⟩
  cases I:Wj te with
  |true=>
   rw[I]at h;simp only[cond_true]at h;split at h
   ·rename_i L own q P;obtain⟨D,s,m',rfl,k2,S⟩:=Aff P u2 h1;have b:=hM.z (S w);split at h
    ·rename_i c C;split at h
     ·rename_i M j;have F:=(C8 h).1;replace h:=(C8 h).2;obtain⟨sv,s1,rfl⟩:=v2;obtain⟨s',O,s3⟩:=f.rd C;rw[s1]at O;cases O;obtain⟨e,e2⟩:=Qp j;obtain⟨i,L'⟩:=c;simp only at e e2 s3;subst e e2;cases hn:Wz st x with
      |false=>exact Cdu t1 Q v1 u1 s3 (Amf I) b F o λs' w' l=>⟨(λh=>by simp at h),_,_,_,h,Ext.one ρ _,f.row k2 V X l,f.rowDen s',Be.fresh rfl D,rfl⟩
      |true=>
       have c0:cx=.nil:=by unfold Wz at hn;rw[hx]at hn;cases cx<;>first|rfl|cases hn
       subst c0;cases P;have e0:s=nS:=A08 u2;subst e0;exact Cdv t1 Q v1 u1 s3 (Amf I) b F o λs' w' hr l=>⟨λ_=>hr,_,_,_,h,Ext.one ρ _,f.row k2 V X l,f.rowDen s',Be.fresh rfl D,rfl⟩
     ·cases h
    ·cases h
   ·cases h
  |false=>
   rw[I]at h;simp only[cond_false]at h;split at h
   ·rename_i L own q P;split at h
    ·rename_i c N C;split at h
     ·rename_i M j;have F:=(C8 h).1;replace h:=(C8 h).2;obtain⟨D,s,m',rfl,k2,S⟩:=Aff P u2 h1;have b:=hM.z (S w);obtain⟨sv,s1,rfl⟩:=v2;obtain⟨l2,s',m2,O,k4,k5⟩:=Q5 C k2;rw[s1]at O;cases O;obtain⟨e,e2⟩:=Qp j;obtain⟨i,L'⟩:=c;simp only at e e2 k5;subst e e2;have A:Nt t=false:=by simp only[Nt,T];rw[I];rfl
      exact Aqa t1 Q v1 u1 (b.z (k5 w).cons) F o λs' w' l=>⟨(λh=>by rw[A]at h;simp at h),_,_,_,h,Ext.one ρ _,f.row k4 V X l,f.rowDen s',Be.fresh rfl (D.trans l2),rfl⟩
     ·cases h
    ·cases mv with
     |false=>exact a6 I h
     |true=>
      simp only[cond_true]at h;unfold A65 at h;split at h
      ·rename_i c N c4;split at h
       ·rename_i M j;have F:=(C8 h).1;replace h:=(C8 h).2;obtain⟨D,s,m',rfl,k2,S⟩:=Aff P u2 h1;have b:=hM.z (S w);obtain⟨sv,s1,rfl⟩:=v2;obtain⟨o1,o2,k,g,vs,e1,e2,e3⟩:=Bcz c4;simp only at e1 e2 e3;rw[e1]at k2 D;obtain⟨m1,m2,rfl,a1,a2⟩:=k2.split;cases m2 with
        |nil=>exact a2.elim
        |cons a m2=>
         obtain⟨⟨q,vl,b1,b2,rfl⟩,a3⟩:=a2;obtain⟨v,v3,v4,v5⟩:=Bej e2;obtain⟨sA,ex,c1,c2,_,_⟩:=b2.at_ v v3;rw[v5]at c2;obtain⟨_,c3,_,rfl,_⟩:=c2;rw[v4,s1]at c1;cases c1;obtain⟨e4,e5⟩:=Qp j;obtain⟨⟨i,L'⟩,hi⟩:=c;simp only at e4 e5 b1 b2 c3 h F e3 D;subst e4 e5;have A:Nt t=false:=by simp only[Nt,T];rw[I];rfl
         have b8:St B (oC (Ar (sz i) (fD i) L) s.v::oC (Ar (sz i) (fD i) L') q.v::(m1++m2)) rs w:=by have h6:St B (oV (oC (Ar (sz i) (fD i) L') q.v) vl::(oC (Ar (sz i) (fD i) L) s.v::(m1++m2))) rs w:=b.perm ((Ct.cons _).trans (List.Perm.swap ..));exact h6.unview.perm (List.Perm.swap ..)
         exact Cdw t1 Q v1 u1 (Fu i) c3 b8 F o λs' w' b9=>by
          have hx:Ext ρ (ρ++[.row s']++[.num 0]):=(Ext.one ρ _).trans (Ext.one _ _);have hl:(ρ++[.row s']++[.num 0])[st.Ak]?=Aa (.row s'):=by have:=Gn ρ (.row s');rw[f.len]at this;exact(Ext.one _ _).get this
          refine⟨(λh=>by rw[A]at h;simp at h),_,_,_,h,hx,⟨by simp[f.len],f.env.mono hx,oV (oC (Ar (sz i) (fD i) (L++L'.take hi)) s'.v) []::(m1++oRe (sz i) (fD i) L' q.v hi::m2),rs,⟨⟨s',[],hl,rfl,rfl⟩,?_⟩,V.mono hx λ_ h=>h,X,(b9.perm (Ct.symm.cons _)).z Z.toV⟩,⟨s',hl,rfl⟩,⟨by simp only;omega,λc' G a0=>?_,[],rfl⟩,rfl⟩
          ·simp only[e3];exact(a1.mono λ_ _=>Chunk.Is.mono hx λ_ h=>h).append ⟨⟨q,hx.get b1,rfl⟩,a3.mono λ_ _=>Chunk.Is.mono hx λ_ h=>h⟩
          ·rcases Bq.1 G with rfl|G
           ·simp only[H9]at a0;omega
           ·simp only[e3]at G;rcases Ei.1 G with U|U
            ·exact⟨c',D _ (Hv _ U),.inl rfl⟩
            ·rcases Bq.1 U with rfl|U
             ·simp only[H9]at a0;omega
             ·exact⟨c',D _ (F5 _ (Bf _ U)),.inl rfl⟩
       ·cases h
      ·cases h
   ·exact a6 I h
 ·cases h
theorem After.back{st1 ρ1 v w'} (h:After B Af ρ1 st1 env K r v w') (b:Ext ρ ρ1) (c:Be st st1) (d:st1.env=st.env):After B Af ρ st env K r v w':=by obtain⟨sv,a,ρ',e,f,g,i,j,k⟩:=h;exact⟨sv,a,ρ',e,b.trans f,g,i,c.trans j,k.trans d⟩
theorem B2z{x} (h:Wz st x=true):Om x st=st:=by
 unfold Wz at h;unfold Om;split at h
 ·rename_i hx;rw[hx];rfl
 ·cases h
theorem Bro (j:Sat B Af ρ st env w){mv t x y} (h:A66 mv st t x y K=Aa r) (n d:Nat) ty pos af:
  Ex prog n env w ⟨Aa d,.call ⟨.builtin .append,#[x,y],#[t,t]⟩,ty,pos,af,Ab⟩ λv w'=>((Wz st x&&Nt t)=true->Rel w w')/\After B Af ρ st env K r v w':=by
 obtain⟨k,b,c,e,f⟩:=Bdu j x;obtain⟨v,w',g,e2,i⟩:=Brn c h n d ty pos af;refine⟨v,w',g,λa=>e2 ?_,i.back b e f⟩;simp only[A9]at a⊢;exact⟨by rw[B2z a.1];exact a.1,a.2⟩
end
end
section
open Go.RowKit
section
variable {ρ ρ':List HV} {rs rs':List Rd} {B:Dn} {Af:List Rd} {st:Ai} {env:Env} {w:World} {m:List As} {R:Type} {r:R} {op:Op}
def StOk (B:Dn) (Af:List Rd) (ρ:List HV) (st:Ai) (env:Env) (w:World) (op:Op) (K:Ai->Option R) (r:R):Prop:=
 ∀n ty pos af,ExU prog n env w ⟨Ab,op,ty,pos,af,Ab⟩ λw'=>∃a ρ',K a=Aa r/\Ext ρ ρ'/\Sat B Af ρ' a env w'/\Be st a/\a.env=st.env
theorem Abq:∀ {cs:List Cell} {vs:List Value},All2 (Cell.Den ρ) cs vs->(vs.all (·.oneCell'))=true
 |[],[],_=>rfl
 |_::_,_::_,⟨h1,h2⟩=>by simp only[K5,h1.one,K1];exact Abq h2
 |[],_::_,h=>h.elim
 |_::_,[],h=>h.elim
theorem Bff{S k T f} {L:List T} {s:Sv} (h:(Ar k f L).rd S w s.v):s.n=L.length:=by obtain⟨b,e,a,_⟩:=Cs.form h;rw[A08 e,a]
theorem Sat.box (a:Sat B Af ρ st env w){h b e cs vs own' m' rs w'} (i:ρ[h]?=Aa (.box b)) (c:OwnOk ρ rs own' m') (d:RdsOk ρ st.Bg rs) (f:∀r∈Af,r∈rs) (j:All2 (Cell.Den ρ) cs vs) (g:St B (Cc b vs.toArray e::m') rs w'):
  Sat B Af (ρ++[.num 0]) {st with own:=.box h st.Ak cs::own',Ak:=st.Ak+1} env w':=by
 have hx:=Ext.one ρ (.num 0);exact⟨by simp[a.len],a.env.mono hx,Cc b vs.toArray e::m',rs,⟨⟨b,e,vs,hx.get i,j.mono λ_ _=>Cell.Den.mono hx,rfl⟩,OwnOk.mono hx (λ_ h=>h) c⟩,d.mono hx λ_ h=>h,f,g⟩
theorem Sat.rowAt (a:Sat B Af ρ st env w){h s t L own' m' rs w'} (f:ρ[h]?=Aa (.row s)) (b:OwnOk ρ rs own' m') (c:RdsOk ρ st.Bg rs) (d:∀r∈Af,r∈rs) (e:St B (oC (Ar (sz t) (fD t) L) s.v::m') rs w'):
  Sat B Af (ρ++[.num 0]) {st with own:=.row h st.Ak t L []::own',Ak:=st.Ak+1} env w':=by
 have hx:=Ext.one ρ (.num 0);exact⟨by simp[a.len],a.env.mono hx,oV (oC (Ar (sz t) (fD t) L) s.v) []::m',rs,⟨⟨s,[],hx.get f,rfl,rfl⟩,OwnOk.mono hx (λ_ h=>h) b⟩,c.mono hx λ_ h=>h,d,e.z Z.toV⟩
theorem St.stE2{P n ty pos af own T k f L} [Inhabited T]{t x y} {s:Sv}{u size bytes z i j} (a:T) cs (U:Sz P t size bytes z) (N:∀x,(f x).length=k) (hx:ev env x=Aa (.pointer (Aa (Et s.v (i*k+j))))) (V:ev env y=Aa u) (hi:i<L.length)
  (hu:u.cells.size=size) (S:cs.length=u.cells.toList.length) (O:Dm (j+u.cells.toList.length) k=true) (l:u.cells.toList.all (·.oneCell')=true) (p:f a=(f (el L i)).take j++cs++(f (el L i)).drop (j+u.cells.toList.length)) (W:∀w,Z w own (Bc cs u.cells.toList))
  (M:St B (oC (Ar k f L) s.v::(own++m)) rs w):∃w',RunsU P n env w ⟨Ab,.store t x y,ty,pos,af,Ab⟩ w'/\St B (oC (Ar k f (L.set i a)) s.v::m) rs w'/\∀q v,u.cells.toList[q]?=Aa v->w'.cell? (Et s.v (i*k+(j+q)))=Aa v:=by
 obtain⟨b,o,cur,e,X,H,⟨F,C⟩,d,I⟩:=M.upds N hi S (by simpa using O) p W;have D:s.v=.slice (Aa ⟨b,o,Ab⟩) s.n s.c:=by rw[<-H];rfl
 refine⟨w.setCells b (o+i*k+j) u.cells.toList,λa p=>?_,I,λq v G=>?_⟩
 ·have g:=p.ev hx;rw[D]at g;simp only[Et,<-Er]at g;have K:=Azx (P:=P) (t:=t) U hu l F C d;simp[execOp,g,p.ev V,Instr.storeAt,Instr.sureAddr,K]
 ·have A:q<u.cells.toList.length:=(H3.1 G).1;rw[D];simp only[Et,World.cell?,Adr _ _ _ _ F];rw[Sw _ _ _ (by rw[Ew];exact d)];have h:(cur.toList.take (o+i*k+j)).length=o+i*k+j:=by rw[Dh,Ew];omega
  simp only[Tv,I3,if_false,Ata];rw[Ci,Tr (by omega),h,show o+(i*k+(j+q))-(o+i*k+j)=q by omega,Nj A];exact G
theorem St.app2{P own T f L t k tyy e size bytes z} {s:Sv}{n' news x} {M:List T} (H:P.underlying t=Aa (.slice e)) (G:Sz P e size bytes z) (h:St B (oC (Ar size f L) s.v::(own++m)) rs w) (a:Src P size k x n' news w)
  (u:M.length=n') (A:(M.flatMap f).length=news.length) (I:Z w own (Bc (M.flatMap f) news)) (d:L.length+n'<=maxLen) (g:(L.length+n')*bytes<=140737488355328) (y:(L.flatMap f).length=L.length*size):
  ∃(s':Sv) (w':World),(Builtin.append_ #[t,k] tyy #[s.v,x]).run P w=.ok s'.v w'/\St B (oC (Ar size f (L++M)) s'.v::m) rs w'/\∀q v,news[q]?=Aa v->w'.cell? (Et s'.v (L.length*size+q))=Aa v:=by
 obtain⟨xs,b,o⟩:=h.unrow
 have c:St B (Cx size s.v L.length xs::(Bc (L.flatMap f) xs++(Bc (M.flatMap f) news++m))) rs w:=by
  refine(St.iso (l:=own) (l':=Bc (M.flatMap f) news) (m:=Cx size s.v L.length xs::(Bc (L.flatMap f) xs++m)) (o.perm ?_) I).perm ?_
  ·exact(Abm ..).cons _|>.trans Ct.symm
  ·exact Ct.trans ((Abm ..).cons _)
 obtain⟨s',w',D,i⟩:=c.appRow (tyy:=tyy) H G a d g;refine⟨s',w',D,St.rerow (xs:=xs++news) (by rw[H2,Bt,Bt,b,A]) ?_,λq v C=>?_⟩
 ·rw[H2,O8 b,Ci,Bt,u];exact i
 ·obtain⟨F,p⟩:=i.at' (Bm ..);refine Aow p (j:=L.length*size+q) ?_;rw[<-y,b,Tr (by omega),Atk];exact C
theorem A0z{t L s i} (hi:i<L.length):∀cs ls us j,All2 (Cell.Den ρ) cs us->ls.length=us.length->(∀q x,ls[q]?=Aa x->(Cf t (el L i))[j+q]?=Aa x)->(∀q u,us[q]?=Aa u->w.cell? (Et s.v (i*sz t+(j+q)))=Aa u)->St B (oC (Ar (sz t) (fD t) L) s.v::m) rs w->
  ∃d,ViewsAre ρ s t L (Adt i j cs ls) d/\St B (oV (oC (Ar (sz t) (fD t) L) s.v) d::m) rs w
 |[],ls,us,j,_,_,_,_,hM=>⟨[],by cases ls<;>rfl,hM.z Z.toV⟩
 |_::_,_,[],_,h,_,_,_,_=>h.elim
 |_::_,[],_::_,_,_,h,_,_,_=>by simp at h
 |c::cs,l::ls,u::us,j,⟨h1,h2⟩,hn,hl,hc,hM=>by
  obtain⟨d,o,k2⟩:=A0z hi cs ls us (j+1) h2 (by simpa using hn) (λq x k=>by
   have:=hl (q+1) x (by simpa using k);rwa [show j+(q+1)=j+1+q by omega]at this) (λq v k=>by
   have:=hc (q+1) v (by simpa using k);rwa [show j+(q+1)=j+1+q by omega]at this) hM
  unfold Adt;split
  ·rename_i C y A;obtain⟨p,s1,rfl⟩:=h1;have f:=hl 0 _ rfl;have b:=hc 0 _ rfl;rw[Ae9]at f b;obtain⟨s',g,a⟩:=k2.leafV (Fu t) hi (j:=j) (L':=A) (k':=sz y) (f':=fD y) (by rw[Gl,Abi,f];rfl);have e:=a w (Rel.refl w);rw[b]at e;obtain rfl:p=s':=A08 (D1.inj e);exact⟨_,⟨[_,_],d,rfl,⟨p,_,s1,⟨hi,f,rfl⟩,rfl⟩,o⟩,g⟩
  ·exact⟨d,o,k2⟩
theorem St.stH{P n ty pos af T k f L} [Inhabited T]{t x y} {s H:Sv}{u bytes z i j c'} (a:T) (hs:Sz P t 1 bytes z) (M:∀x,(f x).length=k) (hx:ev env x=Aa (.pointer (Aa (Et s.v (i*k+j))))) (hy:ev env y=Aa u) (h:u.oneCell'=true) (b:u.cells= #[u]) (hi:i<s.n) (o:j<k) (Y:f a=(f (el L i)).set j c')
  (X:St B (Mf k f L s.v (i*k+j) H.v::oC c' u::m) rs w):∃w',RunsU P n env w ⟨Ab,.store t x y,ty,pos,af,Ab⟩ w'/\St B (oC (Ar k f (L.set i a)) s.v::m) rs w':=by
 obtain⟨c,O,S,U⟩:=Ba6 (f:=f) (L:=L) (v:=s.v) (q:=i*k+j) (u:=H.v) rfl M;have e:St B (oC (Ar k Subtype.val c) s.v::([oC c' u]++m)) rs w:=St.iso (l:=[Mf k f L s.v (i*k+j) H.v]) (l':=[oC (Ar k Subtype.val c) s.v]) X λF ⟨C,F1,p,A,f⟩=>⟨C,F1,p,U F1 w A,f⟩;have N:=Bff (e.seeO (Bm ..));have g:i<c.length:=by omega
 have G:i<L.length:=by omega
 have d:(el c i).val.length=k:=(el c i).property
 obtain⟨w',hr,D⟩:=St.stE (P:=P) (n:=n) (ty:=ty) (pos:=pos) (af:=af) (f:=Subtype.val) (⟨(el c i).val.set j c',by rw[Ft];exact d⟩:Ck k) [c'] hs (λx=>x.property) hx hy g (by rw[b];rfl) (by rw[b];rfl) (Afa (by rw[b];exact o)) (by rw[b];simp[h]) (by
  rw[b];exact Ao9 (by rw[d];exact o)) (λw=>by rw[b];exact zI) e
 refine⟨w',hr,D.z λF W=>?_⟩;obtain⟨C,F1,p,⟨xs,A,K⟩,V⟩:=W;have I:(c.set i (⟨(el c i).val.set j c',by rw[Ft];exact d⟩:Ck k)).flatMap Subtype.val=(L.set i a).flatMap f:=by rw[Ame (f:=Subtype.val) (λx:Ck k=>x.property) c i j c' _ g o rfl,S,A6i,Ame M L i j c' a G o Y]
 refine⟨C,F1,p,⟨xs,by rw[<-I];exact A,?_⟩,V⟩;rw[<-I,Ft,<-O];rw[Ft]at K;exact K
theorem B2j {u:Value} (h:u.oneCell'=true):u.cells= #[u]:=by cases u<;>first|rfl|cases h
theorem B80{K} (G:Sat B Af ρ st env w){h0 k i j c} (h:A03 st h0 k i j c K=Aa r){t x y s u bytes z} (hz:Sz prog t 1 bytes z) (hx:ev env x=Aa (.pointer (Aa (Et s.v (i*k+j))))) (hy:ev env y=Aa u) (D:c.Den ρ u) (F:ρ[h0]?=Aa (.row s)) (hi:i<s.n):StOk B Af ρ st env w (.store t x y) K r:=λn ty pos af=>by
 unfold A03 at h;split at h
 ·rename_i d own ho;have f:=(bt h).1;replace h:=(bt h).2;simp only[A9]at f;have N:=Br f.1.1;have O:=Br f.1.2;have C:j<k:=by simpa using f.2
  subst N;split at h
  ·rename_i e he;split at h
   ·rename_i l M Y;split at h
    ·rename_i a W;have X:=(C8 h).1;replace h:=(C8 h).2;obtain⟨m,rs,S,T,U,V⟩:=G.mem;obtain⟨l1,q,q0,m',H,k2,I⟩:=Ba5 ho S;rw[F]at H;cases H;obtain⟨l2,m2,k4,k5⟩:=Aym Y D k2;rw[O,X]at I;have g:=(V.z (I w)).z (k5 w).cons;have b:=D.one;have p:j<(Cf d.t (el d.L i)).length:=by rw[Kz];exact C
     obtain⟨w',hr,o⟩:=St.stH (P:=prog) (n:=n) (ty:=ty) (pos:=pos) (af:=af) a hz (Fu d.t) hx hy b (B2j b) hi C (c':=l.ce) (by
      have A:splice (Cf d.t (el d.L i)) j [l]=(Cf d.t (el d.L i)).set j l:=(Ao9 p).symm;rw[Gl,Ic W,Gl,A,A6c]) g
     exact⟨w',hr,_,_,h,Ext.one ρ _,G.rowAt F k4 T U o,Be.fresh rfl (l1.trans l2),rfl⟩
    ·cases h
   ·cases h
  ·cases h
 ·cases h
theorem Bhc{K} (l:Sat B Af ρ st env w){t x y} (h:Apn st t x y K=Aa r):StOk B Af ρ st env w (.store t x y) K r:=λn ty pos af=>by
 unfold Apn at h;split at h
 ·rename_i q o v ti hx hy ht;obtain⟨_,z,I,_⟩:=Js ht;obtain⟨u,S,b,u2,rfl⟩:=l.env.evC hx;obtain⟨C,T,U⟩:=l.env.ev1 hy;have p:=U.cells;have hv:=p.len;rw[Ew]at hv;split at h
  ·rename_i cs own D;have G:=(bt h).1;replace h:=(bt h).2;simp only[A9]at G;have c1:=Br G.1;have c2:o+ti.size<=cs.length:=Ql G.2;have d:C.cells.size=ti.size:=by rw[<-Ew,<-p.len];exact c1
   obtain⟨g,a2⟩:=A7i D;obtain⟨m,rs,W,X,Y,hM⟩:=l.mem;obtain⟨l1,_,b',e,vs,m',M,k2,k3,k4⟩:=T5 a2 W;rw[u2]at M;cases M;have hl:=k2.len;simp only at hl;obtain⟨w',r1,r2⟩:=St.stB (P:=prog) (n:=n) (ty:=ty) (pos:=pos) (af:=af) (cs':=(splice vs o C.cells.toList).toArray) I S T d (Abq p) (Afa (by rw[Ew,d];simpa using (by omega:o+ti.size<=vs.length))) (by simp[splice]) (hM.z (k4 w));exact⟨w',r1,_,_,h,Ext.one ρ _,l.box u2 k3 X Y (k2.splice p) r2,Be.fresh rfl l1,rfl⟩
  ·cases h
 ·rename_i q k i j v ti hx hy ht;obtain⟨_,z,I,_⟩:=Js ht;obtain⟨u,S,s,u2,rfl,u3,p1,p2,u4⟩:=l.env.evC hx;obtain⟨C,T,U⟩:=l.env.ev1 hy;have p:=U.cells;have hv:=p.len;rw[Ew]at hv;split at h
  ·split at h
   ·rename_i cc;have V:=Br (bt h).1;replace h:=(bt h).2;have v4:cc.Den ρ C:=U;rw[V]at I;exact B80 l h I S T v4 u2 u3 n ty pos af
   ·cases h
  split at h
  ·rename_i c own G;have D:=(bt h).1;replace h:=(bt h).2;simp only[A9]at D;have V:=Br D.1.1;have b2:=Br D.1.2;have b3:j+ti.size<=k:=Ql D.2;subst V;have d:C.cells.size=ti.size:=by rw[<-Ew,<-p.len];exact b2
   split at h
   ·rename_i ls b7 ho;split at h
    ·rename_i a ha;obtain⟨m,rs,W,X,Y,hM⟩:=l.mem;obtain⟨l1,s',m',M,k2,k3⟩:=Q5 G W;rw[u2]at M;cases M;obtain⟨l2,O,m2,k4,k5⟩:=Q1 ho p k2;have F:=hM.z (k3 w);have H:=Bff (F.seeO (Bm ..));have c6:j+ls.length<=(Cf c.t (el c.L i)).length:=by rw[Kz];have:=O;simp only at this;rw[this,Ew,d];exact b3
     have hi:i<c.L.length:=by have:=H;simp only at this;omega
     have a4:fD c.t a=(fD c.t (el c.L i)).take j++ls.map A5.ce++(fD c.t (el c.L i)).drop (j+C.cells.toList.length):=by rw[Gl,Ic ha,Gl];unfold splice;rw[O];simp
     obtain⟨w',hr,a1,A⟩:=St.stE2 (P:=prog) (n:=n) (ty:=ty) (pos:=pos) (af:=af) a (ls.map A5.ce) I (Fu c.t) S T hi d (by rw[Gz];exact O) (Afa (by rw[Ew,d];exact b3)) (Abq p) a4 (λw=>zI) (F.z (k5 w).cons);have a3:el (c.L.set i a) i=a:=by rw[F9 (by rw[Ft];exact hi)];simp
     obtain⟨vl,q1,q2⟩:=A0z (t:=c.t) (L:=c.L.set i a) (s:=s) (i:=i) (by rw[Ft];exact hi) v.cells ls C.cells.toList j p (by rw[O]) (λq x N=>by
      rw[a3,Ic ha];have a5:q<ls.length:=(H3.1 N).1;unfold splice;rw[Ci,Tr (by rw[Dh];omega),Dh,show j+q-min j (Cf c.t (el c.L i)).length=q by omega,Nj a5];exact N) (λq u N=>A q u N) a1
     have f:=Ext.one ρ (.num 0);refine⟨w',hr,_,_,h,f,⟨by simp[l.len],l.env.mono f,oV (oC (Ar (sz c.t) (fD c.t) (c.L.set i a)) s.v) vl::m2,rs,⟨⟨s,vl,f.get u2,q1.mono f,rfl⟩,OwnOk.mono f (λ_ h=>h) k4⟩,X.mono f λ_ h=>h,Y,q2⟩,Be.fresh rfl (l1.trans l2),rfl⟩
    ·cases h
   ·cases h
  ·cases h
 ·cases h
theorem B81{K} (b:Sat B Af ρ st env w){t x y} (h:A04 st t x y K=Aa r):StOk B Af ρ st env w (.store t x y) K r:=by
 unfold A04 at h;split at h
 ·rename_i v _ s;obtain⟨q,c,d,e,f⟩:=Agx (l:=v.cells) b;intro n ty pos af;obtain⟨w',p,a,ρ',g,i,j,k,o⟩:=Bhc d h n ty pos af;exact⟨w',p,a,ρ',g,c.trans i,j,e.trans k,o.trans f⟩
 ·exact Bhc b h
theorem Baj{se d o sv} (h:evS ((d,Ab)::se) o=Aa sv):evS se o=Aa sv:=by
 cases o with
 |tmp t=>
  simp only[evS,Bo]at h⊢;cases a:Ay d t with
  |true=>rw[a]at h;cases h
  |false=>rw[a]at h;exact h
 |_=>exact h
theorem Bah{se d o x} (h:ev1 ((d,Ab)::se) o=Aa x):ev1 se o=Aa x:=by
 unfold ev1 at h⊢;split at h
 ·rename_i y a;cases h;rw[Baj a]
 ·cases h
variable {n:Nat} {ops rest:List Oper} {Q:Post}
theorem B3u{K} (k:Sat B Af ρ st env w){t x y d1 d2} (C:C1 d1 n=true) (D:C1 d2 n=true){ty ty2 pos pos2 af af2 aops}
  (h:Aza {st with env:=(d1,Ab)::st.env} t x y K=Aa r)
  (hk:∀u v w' sv d ρ',K sv d=Aa r->Ext ρ ρ'->Sat B Af ρ' d ((d1,u)::env) w'->sv.Den ρ' v->Be st d->d.env=(d1,Ab)::st.env->WL prog n aops rest Q ((d2,v)::(d1,u)::env) w'):
  WL prog n aops (⟨Aa d1,.buildSlice t 1 #[(0,x)],ty,pos,af,Ab⟩::⟨Aa d2,.call ⟨.builtin .append,#[y,.tmp d1],#[t,t]⟩,ty2,pos2,af2,Ab⟩::rest) Q env w:=by
 unfold Aza at h;split at h
 ·rename_i v cy e ei te hx M ht;have p:=(bt h).1;replace h:=(bt h).2;simp only[A9]at p;have b:∀u,Sat B Af ρ {st with env:=(d1,Ab)::st.env} ((d1,u)::env) w:=λu=>⟨k.len,k.env.none d1,k.mem⟩;obtain⟨t1,_,z,U,_⟩:=R9 ht;obtain⟨u,u1,u2⟩:=k.env.ev1 (Bah hx);obtain⟨c,i,X⟩:=(b .nilFunc).env.evC M;have u3:=u2.cells;have o:=Br p.1.2;rw[<-o]at U
  have I:∀(s:Sv) u,c=s.v->ev ((d1,u)::env) y=Aa s.v:=λs u e=>by
   subst e;obtain⟨c',g1,g2⟩:=(b u).env.evC M;rw[g1];cases y with
   |tmp q=>
    simp only[ev,lk]at g1 i;cases T:Ay d1 q with
    |true=>simp[evC,evS,Bo,T]at M
    |false=>rw[T]at g1 i;simp only[cond_false]at g1 i;rw[<-g1,i]
   |_=>rw[<-g1];exact i
  unfold Aoi at h;split at h
  ·rename_i L own a hL ha;have hb:=(C8 h).1;replace h:=(C8 h).2;obtain⟨N,q2,W⟩:=Adp (l:=v.cells) (b .nilFunc);obtain⟨m,rs,h1,S,h3,hM⟩:=N.mem;obtain⟨l1,s,xs,m',rs',Y,G,k2,V,k4⟩:=A0m hL X h1 hM;have j:=Azk (S.mono (Ext.refl ρ) G) ha u3;have hl:u.cells.toList.length=sz te:=by have:=Zz (j (al w) w λr H=>V.sees.1 r H);rw[this,Fu]
   refine Bir (L:=L) a C D t1 U u1 (by simpa using hl) (by rw[o];exact p.2) (λu=>I s u Y) V k4 j (Abq u3) hb p.1.1 λu s' P w' A=>?_;have g:∀r∈rs',r∈rX P ((L++[a]).flatMap (fD te))::rs':=λ_ h=>Bf _ h;have O:Sat B Af ρ (Na v.cells {st with env:=(d1,Ab)::st.env}) ((d1,u)::env) w:=⟨N.len,by rw[W];exact(b u).env,N.mem⟩;have f:=O.C9 (L:=L++[a]) (OwnOk.mono (Ext.refl ρ) g k2) (S.mono (Ext.refl ρ) λr h=>g r (G r h)) (λr h=>g r (G r (h3 r h))) (Bm ..) A;rw[Z6]at f;have F:=Be.C9 q2 Z6 (L:=L++[a]) l1;exact hk u s'.v w' _ _ _ h (Ext.one ρ _) f (k.rowDen s') ⟨F.Ak,F.own,F.Bg⟩ W
  ·cases h
 ·cases h
theorem B3v{K} (k:Sat B Af ρ st env w){t x y d1 d2} (W:C1 d1 n=true) (X:C1 d2 n=true){ty ty2 pos pos2 af af2 aops}
  (h:Aoh {st with env:=(d1,Ab)::st.env} t x y K=Aa r)
  (hk:∀u v w' sv o ρ',K sv o=Aa r->Ext ρ ρ'->Sat B Af ρ' o ((d1,u)::env) w'->sv.Den ρ' v->Be st o->o.env=(d1,Ab)::st.env->WL prog n aops rest Q ((d2,v)::(d1,u)::env) w'):
  WL prog n aops (⟨Aa d1,.buildSlice t 1 #[(0,x)],ty,pos,af,Ab⟩::⟨Aa d2,.call ⟨.builtin .append,#[y,.tmp d1],#[t,t]⟩,ty2,pos2,af2,Ab⟩::rest) Q env w:=by
 unfold Aoh at h;split at h
 ·rename_i v cy e ei te hx hy ht;have V:=(bt h).1;replace h:=(bt h).2;simp only[A9]at V;have d:∀u,Sat B Af ρ {st with env:=(d1,Ab)::st.env} ((d1,u)::env) w:=λu=>⟨k.len,k.env.none d1,k.mem⟩;obtain⟨t1,_,z,hz,_⟩:=R9 ht;obtain⟨u,u1,u2⟩:=k.env.ev1 (Bah hx);obtain⟨c,N,c2⟩:=(d .nilFunc).env.evC hy;have u3:=u2.cells;have G:=Br V.1.2;rw[<-G]at hz
  have a3:∀(s:Sv) u,c=s.v->ev ((d1,u)::env) y=Aa s.v:=λs u e=>by
   subst e;obtain⟨c',g1,g2⟩:=(d u).env.evC hy;rw[g1];cases y with
   |tmp q=>
    simp only[ev,lk]at g1 N;cases hq:Ay d1 q with
    |true=>simp[evC,evS,Bo,hq]at hy
    |false=>rw[hq]at g1 N;simp only[cond_false]at g1 N;rw[<-g1,N]
   |_=>rw[<-g1];exact N
  split at h
  ·rename_i L vs a own ho;have D:=(C8 h).1;replace h:=(C8 h).2;unfold Bem at ho;obtain⟨p,hL,ho⟩:=A1 ho;obtain⟨q,c0,ho⟩:=A1 ho;obtain⟨a',g,ho⟩:=A1 ho;cases ho;obtain⟨m,rs,h1,h2,h3,hM⟩:=k.mem;obtain⟨l1,s,m',e0,k2,k3⟩:=Aff hL c2 h1;obtain⟨l2,l3,m2,k4,k5⟩:=Q1 c0 u3 k2;have hf:fD te a=q.1.map A5.ce:=by rw[Gl,Ic g]
   have Y:u.cells.toList.length=sz te:=by rw[<-l3,<-Kz te a,Ic g]
   have b7:=Bfm (P:=prog) (w:=w) t1 hz (by simpa using Y) (by rw[G];exact V.2)
   have T:(p.1.length+1)*ei.bytes<=140737488355328/\p.1.length+1<=1099511627776:=by
    have O:ei.bytes<=255:=by simpa using V.1.1
    unfold lim at D;cases h7:Dm ei.bytes 127 with
    |true=>rw[h7]at D;simp only[cond_true]at D;have:=Rw (show p.1.length+1<=1099511627776 by omega) (show ei.bytes<=127 by simpa using h7);omega
    |false=>rw[h7]at D;simp only[cond_false]at D;have:=Rw (show p.1.length+1<=549755813888 by omega) O;omega
   refine wv W (v:=.slice (Aa ⟨w.heap.size,0,Ab⟩) 1 1) (w':=w.alloc (.cells u.cells e)) (λa g=>by simp[execOp,g.ev u1,b7]) ?_;have b6:=((hM.z (k3 w)).z (k5 w).cons).call (Rel.alloc w (.cells u.cells e));have S:(w.alloc (.cells u.cells e)).heap[w.heap.size]?=Aa (.cells u.cells e (0,0)):=heap_alloc_new w _
   have a2:Src prog (sz te) t (.slice (Aa ⟨w.heap.size,0,Ab⟩) 1 1) 1 u.cells.toList (w.alloc (.cells u.cells e)):=
    Src.ofSlice _ t1 _ _ _ _ (by rw[Y];simp) (λj v I=>by
     rw[Addr.add_lit,L3];rw[Qi]at I;simp only[World.cell?,S,Tv,I3,if_false,I]) (λv hv=>Ff.1 (Abq u3) v hv)
   obtain⟨s',w',hr,C,F⟩:=St.app2 (own:=Bc (q.1.map A5.ce) u.cells.toList) (tyy:=ty2) (M:=[a]) (f:=fD te) t1 hz b6 a2 rfl (by simp[Fu,Y]) (by rw[F4,List.flatMap_nil,Hu,hf];exact zI) (by simp only[maxLen];omega) T.1 (Mw (Fu te) p.1);have b8:el (p.1++[a]) p.1.length=a:=by rw[F9 (by simp)];simp
   have b1:OwnOk ρ rs q.2 m2:=k4
   obtain⟨vl,q1,q2⟩:=A0z (t:=te) (L:=p.1++[a]) (s:=s') (i:=p.1.length) (by simp) v.cells q.1 u.cells.toList 0 u3 (by rw[l3]) (λj x I=>by
    rw[b8,Ic g,L3];exact I) (λj x I=>by rw[L3];exact F j x I) C
   refine wv X (v:=s'.v) (w':=w') (λa g=>?_) ?_
   ·have e1:=g.ev (a3 s _ e0);have e2:a.eval (.tmp d1)=.slice (Aa ⟨w.heap.size,0,Ab⟩) 1 1:=g.ev (x:=.tmp d1) (by simp[ev,lk]);simp[execOp,resolve,invoke,builtin,e1,e2,hr]
   have hx:=Ext.one ρ (.row s');have b:=Gn ρ (.row s');rw[k.len]at b;exact hk _ s'.v w' _ _ _ h hx ⟨by simp[k.len],(d _).env.mono hx,oV (oC (Ar (sz te) (fD te) (p.1++[a])) s'.v) vl::m2,rs,⟨⟨s',vl,b,q1.mono hx,rfl⟩,OwnOk.mono hx (λ_ h=>h) b1⟩,h2.mono hx λ_ h=>h,h3,q2⟩ (k.rowDen s') (Be.env (Be.fresh (st:=st) rfl (l1.trans l2)) st.env _) rfl
  ·have U:=(bt h).1;replace h:=(bt h).2;unfold Aoi at h;split at h
   ·rename_i L own a hL g;have D:=(C8 h).1;replace h:=(C8 h).2;obtain⟨q1,q2,q3⟩:=Adp (l:=v.cells) (d .nilFunc);obtain⟨m,rs,h1,h2,h3,hM⟩:=q1.mem;obtain⟨l1,s,xs,m',rs',e0,hr,k2,k3,k4⟩:=A0m hL c2 h1 hM;have a1:=Azk (h2.mono (Ext.refl ρ) hr) g u3;have Y:u.cells.toList.length=sz te:=by have:=Zz (a1 (al w) w λr c3=>k3.sees.1 r c3);rw[this,Fu]
    refine Bir (L:=L) a W X t1 hz u1 (by simpa using Y) (by rw[G];exact V.2) (λu=>a3 s u e0) k3 k4 a1 (Abq u3) D U λu s' c9 w' C=>?_;have H:∀r∈rs',r∈rX c9 ((L++[a]).flatMap (fD te))::rs':=λ_ h=>Bf _ h;have c7:Sat B Af ρ (Na v.cells {st with env:=(d1,Ab)::st.env}) ((d1,u)::env) w:=⟨q1.len,by rw[q3];exact(d u).env,q1.mem⟩;have A:=c7.C9 (L:=L++[a]) (OwnOk.mono (Ext.refl ρ) H k2) (h2.mono (Ext.refl ρ) λr h=>H r (hr r h)) (λr h=>H r (hr r (h3 r h))) (Bm ..) C;rw[Z6]at A;have hg:=Be.C9 q2 Z6 (L:=L++[a]) l1;exact hk u s'.v w' _ _ _ h (Ext.one ρ _) A (k.rowDen s') ⟨hg.Ak,hg.own,hg.Bg⟩ q3
   ·cases h
 ·cases h
theorem B2y{o}:∀ {st:Ai} {e:List (Nat×Option SV)},evC e o=evC st.env o->Om o {st with env:=e}= {Om o st with env:=e}:=λ{st e} f=>by
 have d:∀(h:Nat) (st:Ai),W3 h {st with env:=e}= {W3 h st with env:=e}:=λh st=>by unfold W3;simp only;split<;>rfl
 have b:∀(l:List Cell) (st:Ai),Pt l {st with env:=e}= {Pt l st with env:=e}:=λl=>by
  induction l with
  |nil=>intro st;rfl
  |cons c l a=>
   intro st;unfold Pt;split
   ·rw[d];exact a _
   ·exact a _
 unfold Om;simp only;rw[f];split
 ·exact b _ _
 ·rfl
theorem Bw5{se d o x} (h:evC ((d,Ab)::se) o=Aa x):evC se o=Aa x:=by
 unfold evC at h⊢;split at h
 ·rename_i y a;cases h;rw[Baj a]
 ·cases h
theorem B3w{K} (i:Sat B Af ρ st env w){t x y d1 d2} (b:C1 d1 n=true) (d:C1 d2 n=true){ty ty2 pos pos2 af af2 aops sh} (h:Azb sh {st with env:=(d1,Ab)::st.env} t x y K=Aa r)
  (g:∀u v w' sv a ρ',K sv a=Aa r->Ext ρ ρ'->Sat B Af ρ' a ((d1,u)::env) w'->sv.Den ρ' v->Be st a->a.env=(d1,Ab)::st.env->WL prog n aops rest Q ((d2,v)::(d1,u)::env) w'):
  WL prog n aops (⟨Aa d1,.buildSlice t 1 #[(0,x)],ty,pos,af,Ab⟩::⟨Aa d2,.call ⟨.builtin .append,#[y,.tmp d1],#[t,t]⟩,ty2,pos2,af2,Ab⟩::rest) Q env w:=by
 unfold Azb at h;cases sh with
 |true=>exact B3u i b d h g
 |false=>
 simp only[cond_false]at h;cases e:evC ((d1,Ab)::st.env) y with
 |none=>
  exfalso;unfold Aoh at h;have:(Om y {st with env:=(d1,Ab)::st.env}).env=(d1,Ab)::st.env:=by unfold Om;simp only;rw[e]
  rw[this,e]at h;split at h
  ·rename_i o _;cases o
  ·cases h
 |some c=>rw[B2y (by rw[e,Bw5 e])]at h;obtain⟨C,j,k,l,f⟩:=Bdu i y;rw[<-f]at h;refine B3v k b d h λu v w' sv a ρ' p k2 q s z A=>g u v w' sv a ρ' p (j.trans k2) q s (l.trans z) ?_;rw[A,f]
end
end
section
open Go.RowKit
def W8 (t:Ty) (vs:List Value):Value:=bif Rx t then .agg vs.toArray else vs.headD .nilFunc
abbrev Bx:=Nat×TypeId×List Value
inductive Gr (S:Bs) (w:World):(ps:List PK)->PArgs ps->List Value->List Value->List As->List Bx->Prop
 |nil:Gr S w [] () [] [] [] []
 |ro {t:Ty} {ps:List PK} {x:C7 t} {q:PArgs ps} {vs vals Bu:List Value} {own:List As} {bx:List Bx} (h:Eg S w (fD t x) vs) (k:Gr S w ps q vals Bu own bx):Gr S w (.val false t::ps) (x,q) (W8 t vs::vals) Bu own bx
 |ow {t:Ty} {ps:List PK} {x:C7 t} {q:PArgs ps} {vs vals Bu:List Value} {own:List As} {bx:List Bx} (h:vs.length=sz t) (k:Gr S w ps q vals Bu own bx):Gr S w (.val true t::ps) (x,q) (W8 t vs::vals) Bu (Bc (fD t x) vs++own) bx
 |bo {t:Ty} {ps:List PK} {x:C7 t} {q:PArgs ps} {b:Nat} {e:TypeId} {vs vals Bu:List Value} {own:List As} {bx:List Bx} (h:vs.length=sz t) (k:Gr S w ps q vals Bu own bx):Gr S w (.box .ow t::ps) (x,q) (pt b 0::vals) Bu (Cc b vs.toArray e::(Bc (fD t x) vs++own)) ((b,e,vs)::bx)
 |ea {t:Ty} {ps:List PK} {x:C7 t} {q:PArgs ps} {b:Nat} {e:TypeId} {vs vals Bu:List Value} {own:List As} {bx:List Bx} (h:vs.length=sz t) (k:Gr S w ps q vals Bu own bx):Gr S w (.Od t::ps) (x,q) (pt b 0::vals) Bu (Cc b vs.toArray e::(Bc (fD t x) vs++own)) bx
 |li {t:Ty} {ps:List PK} {x:C7 t} {q:PArgs ps} {b:Nat} {e:TypeId} {vs vals Bu:List Value} {own:List As} {bx:List Bx} (h:vs.length=sz t) (k:Gr S w ps q vals Bu own bx):Gr S w (.lit t::ps) (x,q) (Sv.v ⟨Aa ⟨b,0,Ab⟩,1,1⟩::vals) Bu (Cc b vs.toArray e::(Bc (fD t x) vs++own)) bx
 |br {mm:BM} (hm:mm.isRo=true) {t:Ty} {ps:List PK} {x:C7 t} {q:PArgs ps} {b:Nat} {e:TypeId} {vs vals Bu:List Value} {own:List As} {bx:List Bx} (h:Eg S w (fD t x) vs) (k:Gr S w ps q vals Bu own bx):Gr S w (.box mm t::ps) (x,q) (pt b 0::vals) Bu (Cc b vs.toArray e::own) ((b,e,vs)::bx)
 |fn {f n:Nat} {ps:List PK} {q:PArgs ps} {cs vals Bu:List Value} {own:List As} {bx:List Bx} (h:cs.length=n) (k:Gr S w ps q vals (Bu++cs) own bx):Gr S w (.fn f n::ps) q (.func (.func f) #[] cs.toArray::vals) Bu own bx
 |co {t:Ty} {ps:List PK} {x:C7 t} {q:PArgs ps} {b:Nat} {e:TypeId} {vs vals Bu:List Value} {own:List As} {bx:List Bx} (h:vs.length=sz t) (k:Gr S w ps q vals Bu own bx):Gr S w (.cap .ow t::ps) (x,q) vals (pt b 0::Bu) (Cc b vs.toArray e::(Bc (fD t x) vs++own)) ((b,e,vs)::bx)
 |cr {mm:BM} (hm:mm.isRo=true) {t:Ty} {ps:List PK} {x:C7 t} {q:PArgs ps} {b:Nat} {e:TypeId} {vs vals Bu:List Value} {own:List As} {bx:List Bx} (h:Eg S w (fD t x) vs) (k:Gr S w ps q vals Bu own bx):Gr S w (.cap mm t::ps) (x,q) vals (pt b 0::Bu) (Cc b vs.toArray e::own) ((b,e,vs)::bx)
 |le {t:Ty} {ps:List PK} {x:List (C7 t)} {q:PArgs ps} {v:Value} {vals Bu:List Value} {own:List As} {bx:List Bx} (k:Gr S w ps q vals Bu own bx):Gr S w (.len t::ps) (x,q) (v::vals) Bu (oC (Ar (sz t) (fD t) x) v::own) ((0,0,[v])::bx)
def Lm:List PK->List BM
 |[]=>[]
 |.box m _::r=>m::Lm r
 |.cap m _::r=>m::Lm r
 |.len _::r=>.le::Lm r
 |_::r=>Lm r
def RPack:List RK->List (List A5)->List Value->List As->List Rd->Prop
 |[],[],vals,own,Bg=>vals=[]/\own=[]/\Bg=[]
 |k::ks,l::ls,vals,own,Bg=>∃vs a own' c d,vs.length=l.length/\l.length=sz k.t/\RPack ks ls a own' c/\(bif k.bx then∃b e,vals=pt b 0::a/\d=[Cc b (Pa vs) e]else vals=W8 k.t vs::a/\d=[])/\(bif k.own then own=d++(Bc (l.map A5.ce) vs++own')/\Bg=c else own=d++own'/\Bg=rX vs (l.map A5.ce)::c)
 |_,_,_,_,_=>False
def OPack:List Bx->List BM->List (List A5)->List As->List Rd->Prop
 |[],[],[],own,Bg=>own=[]/\Bg=[]
 |(b,_,_)::bx,.ow::ms,l::ls,own,Bg=>∃vs own' e,vs.length=l.length/\own=Cc b (Pa vs) e::(Bc (l.map A5.ce) vs++own')/\OPack bx ms ls own' Bg
 |(b,_,_)::bx,.rd::ms,l::ls,own,Bg=>∃vs own' a e,vs.length=l.length/\own=Cc b (Pa vs) e::own'/\Bg=rX vs (l.map A5.ce)::a/\OPack bx ms ls own' a
 |(_,_,vs)::bx,.le::ms,l::ls,own,Bg=>∃v t L own',vs=[v]/\l=[.sl t L]/\own=oC (Ar (sz t) (fD t) L) v::own'/\OPack bx ms ls own' Bg
 |(b,_,vs)::bx,.lo::ms,ls,own,Bg=>∃own' e,own=Cc b (Pa vs) e::own'/\OPack bx ms ls own' Bg
 |_,_,_,_,_=>False
def Left (c:I6) (h:List Bx) (r:PRes c.ps c.rs) (vs:List Value) (own:List As) (g:List Rd):Prop:=
 ∃f lsO a b d e,Nf _ r=f++lsO/\RPack c.rs f vs a d/\OPack h (Lm c.ps) lsO b e/\own=a++b/\g=d++e
def Holds (Af:List Rd) (c:I6):Prop:=∀(w:World) (X S:Bs) (a:PArgs c.ps) (vals:List Value) (own:List As) (d:List Bx) (r:PRes c.ps c.rs),
 Gr S w c.ps a vals [] own d->Sep own X w->SX X S w->(∀r∈Af,r.ok S w)->c.x a=Aa r->
  Ret prog c.f vals w λu w'=>∃vs own' b,u=Mh vs/\Left c d r vs own' b/\H5 X S w own' b w'
section
variable {ρ ρ':List HV} {rs rs':List Rd} {B:Dn} {Af:List Rd} {st:Ai} {env:Env} {w:World} {m:List As} {R:Type} {r:R} {K:SV->Ai->Option R}
theorem Ak8{t v cs u} (h:Yq t v=Aa cs) (b:v.Den ρ u):∃vs,u=W8 t vs/\All2 (Cell.Den ρ) cs vs:=by
 unfold Yq at h;split at h
 ·cases a:Rx t with
  |true=>rw[a]at h;cases h
  |false=>rw[a]at h;cases h;exact⟨[u],by simp[W8,a],b,trivial⟩
 ·cases a:Rx t with
  |true=>rw[a]at h;cases h;obtain⟨vs,c,rfl⟩:=b;exact⟨vs,by simp[W8,a],c⟩
  |false=>rw[a]at h;cases h
def BxIs (ρ:List HV) (x:Nat×Nat×BM×List Cell) (y:Bx):Prop:=(x.2.2.1=.le/\∃s:Sv,ρ[x.1]?=Aa (.row s)/\y.2.2=[s.v])\/(x.2.2.1≠ .le/\ρ[x.1]?=Aa (.box y.1)/\All2 (Cell.Den ρ) x.2.2.2 y.2.2)
theorem BxIs.box{ρ x y} (h:BxIs ρ x y) (b:x.2.2.1≠ .le):ρ[x.1]?=Aa (.box y.1)/\All2 (Cell.Den ρ) x.2.2.2 y.2.2:=by
 rcases h with⟨a,_⟩|⟨_,h⟩
 ·exact absurd a b
 ·exact h
theorem BxIs.mono{ρ ρ'} (hx:Ext ρ ρ'){x y} (h:BxIs ρ x y):BxIs ρ' x y:=by
 rcases h with⟨a,s,b,c⟩|⟨a,b,c⟩
 ·exact .inl ⟨a,s,hx.get b,c⟩
 ·exact .inr ⟨a,hx.get b,c.mono λ_ _=>Cell.Den.mono hx⟩
theorem Cbc{mm t h own p} (a:Ah1 mm t h own=Aa p) (j:OwnOk ρ rs own m):
  OwnLe own p.2.2/\p.2.1.1=h/\p.2.1.2.2.1=mm/\Chunk.box h p.2.1.2.1 p.2.1.2.2.2∈own/\∃b e vs m',BxIs ρ p.2.1 (b,e,vs)/\OwnOk ρ rs p.2.2 m'/\
   ((mm=.ow/\∃l,p.1=[l]/\l.length=vs.length/\∀w,Z w m (Cc b vs.toArray e::(Bc (l.map A5.ce) vs++m')))\/(mm.isRo=true/\p.1=[]/\∀w,Z w m (Cc b vs.toArray e::m'))):=by
 unfold Ah1 at a;obtain⟨q,u,a⟩:=A1 a;obtain⟨g,i,b,e,vs,m',c,k2,d,f⟩:=T5 u j;cases mm with
 |ow=>simp only[BM.isOw,cond_true]at a;obtain⟨z,z1,a⟩:=A1 a;cases a;obtain⟨o,s,m2,k,n⟩:=Q1 z1 k2 d;exact⟨g.trans o,rfl,rfl,i,b,e,vs,m2,.inr ⟨by simp,c,k2⟩,k,.inl ⟨rfl,z.1,rfl,s,λw=>(f w).trans (n w).cons⟩⟩
 |lo=>cases a;exact⟨g,rfl,rfl,i,b,e,vs,m',.inr ⟨by simp,c,k2⟩,d,.inr ⟨rfl,rfl,f⟩⟩
 |rd=>cases a;exact⟨g,rfl,rfl,i,b,e,vs,m',.inr ⟨by simp,c,k2⟩,d,.inr ⟨rfl,rfl,f⟩⟩
 |le=>cases a
theorem Z.app2{a b c d} (h:Z w b (c++d)):Z w (a++b) ((a++c)++d):=λF e=>by rw[Ci];obtain⟨F1,f,g1,g2,g3,g4,g5⟩:=e.split;exact(Sep.join g1 (h f g2) g3).up (λb g=>g.elim (g4 b) (g5 b)) e.lt
def Reads (ρ:List HV) (st:Ai) (S:Bs) (w:World):Prop:=∀a cs ls us,Ot st a cs=Aa ls->All2 (Cell.Den ρ) cs us->Eg S w (ls.map A5.ce) us
def TakeOk (ρ:List HV) (rs:List Rd) (ps:List PK) (vs:List V1) (own:List Chunk) (p:Afc×List Chunk) (vals Bu:List Value) (m:List As):Prop:=
 OwnLe own p.2/\(∀x∈p.1.bx,x.2.2.1≠ .le->Chunk.box x.1 x.2.1 x.2.2.2∈own)/\∃c m' b,OwnOk ρ rs p.2 m'/\(∀w,Z w m (c++m'))/\All2 (BxIs ρ) p.1.bx b/\p.1.bx.map (·.2.2.1)=Lm ps/\
  ∀(st:Ai) (S:Bs) (w:World) (a:PArgs ps),Reads ρ st S w->Kd st ps vs p.1.ls p.1.bx=Aa a->Gr S w ps a vals Bu c b
variable {ps:List PK} {vs:List V1} {own own':List Chunk} {p:Afc×List Chunk} {vals Bu:List Value}
theorem Cbi{t v u} (j:v.Den ρ u) (h:TakeOk ρ rs ps vs own p vals Bu m):TakeOk ρ rs (.val false t::ps) (v::vs) own p (u::vals) Bu m:=by obtain⟨y,z,A,m',d,k,k2,n,o,s⟩:=h;refine⟨y,z,A,m',d,k,k2,n,o,λst S w a c b=>?_⟩;simp only[Kd,cond_false]at b;obtain⟨cs,e,b⟩:=A1 b;obtain⟨l,f,b⟩:=A1 b;obtain⟨x,g,b⟩:=A1 b;obtain⟨q,i,b⟩:=A1 b;cases b;obtain⟨us,rfl,e2⟩:=Ak8 e j;exact .ro (by rw[Gl,Ic g];exact c _ _ _ _ f e2) (s st S w q c i)
theorem Cbh{t v u cs z} (k:v.Den ρ u) (g:Yq t v=Aa cs) (i:Kv (Iw t) cs own=Aa z) (l:OwnOk ρ rs own m)
  (h:∀m1,OwnOk ρ rs z.2 m1->TakeOk ρ rs ps vs z.2 p vals Bu m1):TakeOk ρ rs (.val true t::ps) (v::vs) own (⟨z.1::p.1.ls,p.1.bx⟩,p.2) (u::vals) Bu m:=by
 obtain⟨us,rfl,e2⟩:=Ak8 g k;obtain⟨e,c,m1,F,G⟩:=Q1 i e2 l;obtain⟨H,I,L,m',f,s,k2,A,C,D⟩:=h m1 F;refine⟨e.trans H,λx hx o=>e _ (I x hx o),Bc (z.1.map A5.ce) us++L,m',f,s,λw=>(G w).trans (k2 w).app2,A,C,λst S w a q b=>?_⟩;simp only[Kd,cond_true]at b;obtain⟨x,d,b⟩:=A1 b;obtain⟨y,j,b⟩:=A1 b;cases b;have n:fD t x=z.1.map A5.ce:=by rw[Gl,Ic d]
 rw[<-n];exact .ow (by rw[<-c,<-Kz t x,Ic d]) (D st S w y q j)
theorem Bh2{mm t hh i z} (W:ρ[hh]?=Aa (.box i)) (X:Ah1 mm t hh own=Aa z) (h1:OwnOk ρ rs own m)
  (h:∀m1,OwnOk ρ rs z.2.2 m1->TakeOk ρ rs ps vs z.2.2 p vals Bu m1):TakeOk ρ rs (.box mm t::ps) (.c (.ptr hh 0)::vs) own (⟨z.1++p.1.ls,z.2.1::p.1.bx⟩,p.2) (pt i 0::vals) Bu m/\
   TakeOk ρ rs (.cap mm t::ps) vs own (⟨z.1++p.1.ls,z.2.1::p.1.bx⟩,p.2) vals (pt i 0::Bu) m:=by
 obtain⟨u,U,v,n3,b,e,us,m1,A,k6,f⟩:=Cbc X h1;obtain⟨L,l2,T,m',C,F,k2,G,H,I⟩:=h m1 k6
 have P:z.2.1.2.2.1≠ .le:=by
  rw[v];rcases f with⟨rfl,_⟩|⟨g,_⟩
  ·simp
  ·intro h;subst h;cases g
 have V:=A.box P;have hb:i=b:=by have:=V.1;rw[U,W]at this;cases this;rfl
 subst hb
 have j:∀x∈z.2.1::p.1.bx,x.2.2.1≠ .le->Chunk.box x.1 x.2.1 x.2.2.2∈own:=λx hx hm=>by
  rcases Bq.1 hx with rfl|hx
  ·rw[U];exact n3
  ·exact u _ (l2 x hx hm)
 rcases f with⟨rfl,l,N,e2,O⟩|⟨g,N,O⟩
 ·have s:∀w,Z w m ((Cc i us.toArray e::(Bc (l.map A5.ce) us++T))++m'):=λw=>(O w).trans (Z.cons (k2 w).app2);refine⟨⟨u.trans L,j,_,m',(i,e,us)::C,F,s,⟨A,G⟩,by simp[Lm,v,H],λst S w a k d=>?_⟩,⟨u.trans L,j,_,m',(i,e,us)::C,F,s,⟨A,G⟩,by simp[Lm,v,H],λst S w a k d=>?_⟩⟩
  all_goals
   simp only[Kd,Aoq,N,BM.isOw,Fi,Iu,Ae6,cond_true]at d;obtain⟨zz,n,d⟩:=A1 d;obtain⟨x,D,M⟩:=A1 n;cases M;obtain⟨y,o,d⟩:=A1 d;cases d;have hf:fD t x=l.map A5.ce:=by rw[Gl,Ic D]
   rw[<-hf];have q:us.length=sz t:=by rw[<-e2,<-Kz t x,Ic D]
  ·exact .bo q (I st S w y k o)
  ·exact .co q (I st S w y k o)
 ·have Q:mm.isOw=false:=by cases mm<;>first|rfl|cases g
  have s:∀w,Z w m ((Cc i us.toArray e::T)++m'):=λw=>(O w).trans (k2 w).cons;refine⟨⟨u.trans L,j,_,m',(i,e,us)::C,F,s,⟨A,G⟩,by simp[Lm,v,H],λst S w a k d=>?_⟩,⟨u.trans L,j,_,m',(i,e,us)::C,F,s,⟨A,G⟩,by simp[Lm,v,H],λst S w a k d=>?_⟩⟩
  all_goals
   simp only[Kd,Aoq,N,Q,Iu,Ae6,cond_false]at d;obtain⟨zz,n,d⟩:=A1 d;obtain⟨l,Y,n⟩:=A1 n;obtain⟨x,D,M⟩:=A1 n;cases M;obtain⟨y,o,d⟩:=A1 d;cases d;have q:Eg S w (fD t x) us:=by rw[Gl,Ic D];exact k _ _ _ _ Y V.2
  ·exact .br g q (I st S w y k o)
  ·exact .cr g q (I st S w y k o)
theorem Cbd{t hh f b z} (l:ρ[hh]?=Aa (.box f)) (o:Gt hh own=Aa b) (q:Kv (Iw t) b.1.2 b.2=Aa z) (u:OwnOk ρ rs own m)
  (h:∀m1,OwnOk ρ rs z.2 m1->TakeOk ρ rs ps vs z.2 p vals Bu m1):TakeOk ρ rs (.Od t::ps) (.c (.ptr hh 0)::vs) own (⟨z.1::p.1.ls,p.1.bx⟩,p.2) (pt f 0::vals) Bu m:=by
 obtain⟨i,_,V,e,us,m1,k,Q,T,U⟩:=T5 o u;rw[l]at k;cases k;obtain⟨j,O,m2,I,L⟩:=Q1 q Q T;obtain⟨M,N,P,m',n,D,k2,F,G,H⟩:=h m2 I;refine⟨i.trans (j.trans M),λx hx A=>i _ (j _ (N x hx A)),Cc f us.toArray e::(Bc (z.1.map A5.ce) us++P),m',n,D,λw=>(U w).trans (Z.cons ((L w).trans (k2 w).app2)),F,G,λst S w a C d=>?_⟩;simp only[Kd,Ae6]at d;obtain⟨x,g,d⟩:=A1 d;obtain⟨y,s,d⟩:=A1 d;cases d;have v:fD t x=z.1.map A5.ce:=by rw[Gl,Ic g]
 rw[<-v];exact .ea (by rw[<-O,<-Kz t x,Ic g]) (H st S w y C s)
theorem Cbg{t hh f b z} (l:ρ[hh]?=Aa (.box f)) (o:Gt hh own=Aa b) (q:Kv (Iw t) b.1.2 b.2=Aa z) (u:OwnOk ρ rs own m)
  (h:∀m1,OwnOk ρ rs z.2 m1->TakeOk ρ rs ps vs z.2 p vals Bu m1):TakeOk ρ rs (.lit t::ps) (.c (.lt hh)::vs) own (⟨z.1::p.1.ls,p.1.bx⟩,p.2) (Sv.v ⟨Aa ⟨f,0,Ab⟩,1,1⟩::vals) Bu m:=by
 obtain⟨i,_,W,e,us,m1,k,T,U,V⟩:=T5 o u;rw[l]at k;cases k;obtain⟨j,P,m2,L,M⟩:=Q1 q T U;obtain⟨N,O,Q,m',n,F,k2,G,H,I⟩:=h m2 L;refine⟨i.trans (j.trans N),λx hx C=>i _ (j _ (O x hx C)),Cc f us.toArray e::(Bc (z.1.map A5.ce) us++Q),m',n,F,λw=>(V w).trans (Z.cons ((M w).trans (k2 w).app2)),G,H,λst S w a D d=>?_⟩;simp only[Kd,Ae6]at d;obtain⟨x,g,d⟩:=A1 d;obtain⟨y,s,d⟩:=A1 d;cases d;have A:fD t x=z.1.map A5.ce:=by rw[Gl,Ic g]
 rw[<-A];exact .li (by rw[<-P,<-Kz t x,Ic g]) (I st S w y D s)
theorem Cbf{t hh s z} (e:ρ[hh]?=Aa (.row s)) (k:Jq hh own=Aa z) (o:OwnOk ρ rs own m)
  (h:∀m1,OwnOk ρ rs z.2 m1->TakeOk ρ rs ps vs z.2 p vals Bu m1):TakeOk ρ rs (.len t::ps) (.c (.sl hh)::vs) own (⟨[.sl z.1.t z.1.L]::p.1.ls,(hh,0,.le,[])::p.1.bx⟩,p.2) (s.v::vals) Bu m:=by
 obtain⟨g,s',m1,i,G,H⟩:=Q5 k o;rw[e]at i;cases i;obtain⟨I,M,N,m',j,A,k2,C,D,F⟩:=h m1 G;refine⟨g.trans I,λx hx f=>?_,oC (Ar (sz z.1.t) (fD z.1.t) z.1.L) s.v::N,m',(0,0,[s.v])::j,A,λw=>(H w).trans (k2 w).cons,⟨.inl ⟨rfl,s,e,rfl⟩,C⟩,by simp[Lm,D],λst S w a u b=>?_⟩
 ·rcases Bq.1 hx with rfl|hx
  ·exact absurd rfl f
  ·exact g _ (M x hx f)
 ·simp only[Kd,Ae6]at b;obtain⟨x,l,b⟩:=A1 b;obtain⟨y,n,b⟩:=A1 b;cases b;have q:(fD (.sl t) x)=[A5.sl z.1.t z.1.L].map A5.ce:=by rw[Gl,Ic l]
  have d:Ar (sz t) (fD t) x=Ar (sz z.1.t) (fD z.1.t) z.1.L:=by have:[Ar (sz t) (fD t) x]=[Ar (sz z.1.t) (fD z.1.t) z.1.L]:=q;exact(List.cons.inj this).1
  rw[<-d];exact .le (F st S w y u n)
theorem Cbe {f n:Nat}{l us} (e:l.length=us.length) (g:l.length=n) (h:TakeOk ρ rs ps vs own p vals (Bu++us) m):
  TakeOk ρ rs (.fn f n::ps) (.c (.fn f l)::vs) own p (.func (.func f) #[] us.toArray::vals) Bu m:=by
 obtain⟨s,t,u,m',d,j,k2,k,o,q⟩:=h;refine⟨s,t,u,m',d,j,k2,k,o,λst S w a i b=>?_⟩;simp only[Kd,Ae6]at b;exact .fn (by rw[<-e,g]) (q st S w a i b)
theorem Cbb:∀ {ps:List PK} {vs:List V1} {x:List (Nat×Nat)} {own:List Chunk} {p:Afc×List Chunk} {vals Bu:List Value} {m:List As},I1 ps vs x own=Aa p->All2 (V1.Den ρ) vs vals->All2 (CapIs ρ) x Bu->OwnOk ρ rs own m->TakeOk ρ rs ps vs own p vals Bu m:=by
 intro ps;induction ps with
 |nil=>
  intro vs x own p vals Bu m h a c i;unfold I1 at h;split at h
  ·cases h;cases vals with
   |cons _ _=>exact a.elim
   |nil=>
    cases Bu with
    |cons _ _=>exact c.elim
    |nil=>exact⟨OwnLe.refl _,(λ_ h=>by cases h),[],m,[],i,λw=>zI,trivial,rfl,λ_ _ _ _ _ _=>.nil⟩
  ·cases h
 |cons k ps l=>
  intro vs x own p vals Bu m h a c i;cases k with
  |val o t=>
   unfold I1 at h;split at h
   ·cases vals with
    |nil=>exact a.elim
    |cons u vals=>
     cases o with
     |false=>exact Cbi a.1 (l h a.2 c i)
     |true=>simp only[cond_true]at h;obtain⟨cs,d,h⟩:=A1 h;obtain⟨z,v,h⟩:=A1 h;obtain⟨q,e,h⟩:=A1 h;cases h;exact Cbh a.1 d v i λm1 g=>l e a.2 c g
   ·cases h
  |box mm t=>
   unfold I1 at h;split at h
   ·cases vals with
    |nil=>exact a.elim
    |cons u vals=>obtain⟨b,j,rfl⟩:=a.1;obtain⟨z,d,h⟩:=A1 h;obtain⟨q,e,h⟩:=A1 h;cases h;exact(Bh2 j d i λm1 g=>l e a.2 c g).1
   ·cases h
  |Od t=>
   unfold I1 at h;split at h
   ·cases vals with
    |nil=>exact a.elim
    |cons u vals=>obtain⟨b,j,rfl⟩:=a.1;obtain⟨z,d,h⟩:=A1 h;obtain⟨q,v,h⟩:=A1 h;obtain⟨C,e,h⟩:=A1 h;cases h;exact Cbd j d v i λm1 g=>l e a.2 c g
   ·cases h
  |lit t=>
   unfold I1 at h;split at h
   ·cases vals with
    |nil=>exact a.elim
    |cons u vals=>obtain⟨b,j,rfl⟩:=a.1;obtain⟨z,d,h⟩:=A1 h;obtain⟨q,v,h⟩:=A1 h;obtain⟨C,e,h⟩:=A1 h;cases h;exact Cbg j d v i λm1 g=>l e a.2 c g
   ·cases h
  |fn f n=>
   unfold I1 at h;split at h
   ·cases vals with
    |nil=>exact a.elim
    |cons u vals=>obtain⟨us,rfl,A⟩:=a.1;have y:=(bt h).1;replace h:=(bt h).2;simp only[A9]at y;cases Br y.1;exact Cbe A.len (Br y.2) (l h a.2 (c.append A) i)
   ·cases h
  |cap mm t=>
   unfold I1 at h;split at h
   ·cases Bu with
    |nil=>exact c.elim
    |cons u Bu=>obtain⟨b,j,rfl⟩:=c.1;obtain⟨z,d,h⟩:=A1 h;obtain⟨q,e,h⟩:=A1 h;cases h;exact(Bh2 j d i λm1 g=>l e a c.2 g).2
   ·cases h
  |len t=>
   unfold I1 at h;split at h
   ·cases vals with
    |nil=>exact a.elim
    |cons u vals=>obtain⟨s,j,rfl⟩:=a.1;obtain⟨z,d,h⟩:=A1 h;obtain⟨q,e,h⟩:=A1 h;cases h;exact Cbf j d i λm1 g=>l e a.2 c g
   ·cases h
end
end
section
open Go.RowKit
section
variable {ρ ρ':List HV} {rs rs':List Rd} {B:Dn} {Af:List Rd} {st:Ai} {env:Env} {w:World} {m:List As} {R:Type} {r:R} {K:SV->Ai->Option R}
theorem Brh{t} (h:Rx t=false):sz t=1:=by
 cases t with
 |sl e=>rfl
 |b n=>
  match n,h with
  |0,_=>rfl
  |1,_=>rfl
  |2,_=>rfl
  |3,_=>rfl
  |n+4,h=>have:Dm 4 (n+4)=true:=Afa (by omega);rw[show Rx (.b (n+4))=Dm 4 (n+4)from rfl,this]at h;cases h
theorem Axv{t cs vs} (h:All2 (Cell.Den ρ) cs vs) (a:vs.length=sz t):(mkV t cs).Den ρ (W8 t vs):=by
 unfold mkV W8;cases b:Rx t with
 |true=>exact⟨vs,h,rfl⟩
 |false=>
  rw[Brh b]at a;match cs,vs,h,a with
  |[c],[v],h,_=>exact h.1
  |[],[v],h,_=>exact h.elim
  |_::_::_,[v],h,_=>exact h.2.elim
structure Mem (B:Dn) (Af:List Rd) (ρ:List HV) (st:Ai) (x:List As) (rs:List Rd) (w:World):Prop where
 len:ρ.length=st.Ak
 mem:∃m,OwnOk ρ rs st.own m/\RdsOk ρ st.Bg rs/\St B (m++x) rs w
 Af:∀r∈Af,r∈rs
theorem Av6{x lsO}:∀ {s:List RK} {f:List (List A5)} {d:List Value} {own:List As} {j rs:List Rd} {st:Ai} {ρ:List HV},RPack s f d own j->(∀r∈j,r∈rs)->Mem B Af ρ st (own++x) rs w->
  (Ja s (f++lsO) st).2.1=lsO/\∃ρ' rs',Ext ρ ρ'/\(∀r∈rs,r∈rs')/\Mem B Af ρ' (Ja s (f++lsO) st).2.2 x rs' w/\All2 (V1.Den ρ') (Ja s (f++lsO) st).1 d/\Be st (Ja s (f++lsO) st).2.2/\(Ja s (f++lsO) st).2.2.env=st.env
 |[],[],d,own,j,rs,st,ρ,h,_,hM=>by
  obtain⟨rfl,rfl,rfl⟩:=h;have:Ja [] ([]++lsO) st=([],lsO,st):=by cases lsO<;>rfl
  rw[this];exact⟨rfl,ρ,rs,Ext.refl ρ,λ_ h=>h,hM,trivial,Be.refl st,rfl⟩
 |k::s,l::ls,d,own,j,rs,st,ρ,h,hr,hM=>by
  obtain⟨vs,T,a,D,F,U,h2,V,H,G⟩:=h;obtain⟨m,m1,m2,m3⟩:=hM.mem
  have q:∃ρ' rs',Ext ρ ρ'/\(∀r∈rs,r∈rs')/\(∀r∈D,r∈rs')/\Mem B Af ρ' (B6 k.own l st).2 (F++(a++x)) rs' w/\All2 (Cell.Den ρ') (B6 k.own l st).1 vs/\Be st (B6 k.own l st).2/\(B6 k.own l st).2.env=st.env:=by
   cases W:k.own with
   |true=>
    rw[W]at G;obtain⟨rfl,rfl⟩:=G;have m4:St B (Bc (l.map A5.ce) vs++(m++(F++(a++x)))) rs w:=by refine m3.perm ?_;simp only[Ci];refine((Abm F (Bc (l.map A5.ce) vs) (a++x)).append_left m).trans ?_;exact Abm ..
    obtain⟨ρ',m',p,o,v,i,y,z,A,I⟩:=T4 l st ρ vs m hM.len m1 U.symm m4;exact⟨ρ',rs,p,λ_ h=>h,hr,⟨o,⟨m',v,by rw[I];exact m2.mono p λ_ h=>h,i⟩,hM.Af⟩,y,z,A⟩
   |false=>rw[W]at G;obtain⟨rfl,rfl⟩:=G;obtain⟨ρ',rs',p,o,v,i,y,z,A,I,Y,X⟩:=Yl (x0:=(F++a)++x) l st ρ vs rs hM.len m1 m2 (λS hS=>hS _ (hr _ (Bm ..))) m3;exact⟨ρ',rs',p,o,λr h=>o r (hr r (Bf _ h)),⟨v,⟨m,i,y,by simpa [Ci]using z⟩,λr h=>o r (hM.Af r h)⟩,A,I,Y⟩
  obtain⟨n,rs1,p,o,v,i,y,z,A⟩:=q;cases g:k.bx with
  |false=>
   rw[g]at H;obtain⟨rfl,rfl⟩:=H;obtain⟨L,u,t,C,M,N,O,P,Q⟩:=Av6 (lsO:=lsO) (st:=(B6 k.own l st).2) (ρ:=n) (rs:=rs1) (x:=x) V v (by simpa using i);refine⟨?_,u,t,p.trans C,λr h=>M r (o r h),?_,?_,?_,?_⟩
   ·simp only[Fi,Ja,g];exact L
   ·simp only[Fi,Ja,g];exact N
   ·simp only[Fi,Ja,g];exact⟨(Axv y (U.trans h2)).mono C,O⟩
   ·simp only[Fi,Ja,g];exact z.trans P
   ·simp only[Fi,Ja,g];exact Q.trans A
  |true=>
   rw[g]at H;obtain⟨b,e,rfl,rfl⟩:=H;have hx:=Ext.one n (.box b);have c:=Gn n (.box b);rw[i.len]at c;obtain⟨m',n1,n2,n3⟩:=i.mem
   have m5:Mem B Af (n++[.box b]) {(B6 k.own l st).2 with own:=.box (B6 k.own l st).2.Ak (B6 k.own l st).2.Ak (B6 k.own l st).1::(B6 k.own l st).2.own,Ak:=(B6 k.own l st).2.Ak+1} (a++x) rs1 w:=
    ⟨by simp[i.len],⟨Cc b vs.toArray e::m',⟨⟨b,e,vs,c,y.mono λ_ _=>Cell.Den.mono hx,rfl⟩,OwnOk.mono hx (λ_ h=>h) n1⟩,n2.mono hx λ_ h=>h,n3.perm Ct⟩,i.Af⟩
   obtain⟨L,u,t,C,M,N,O,P,Q⟩:=Av6 (lsO:=lsO) (x:=x) V v m5;refine⟨?_,u,t,(p.trans hx).trans C,λr h=>M r (o r h),?_,?_,?_,?_⟩
   ·simp only[Fi,Ja,g];exact L
   ·simp only[Fi,Ja,g];exact N
   ·simp only[Fi,Ja,g];exact⟨⟨b,C.get c,rfl⟩,O⟩
   ·simp only[Fi,Ja,g];exact(z.trans (Be.fresh rfl (OwnLe.refl _))).trans P
   ·simp only[Fi,Ja,g];exact Q.trans A
 |[],_::_,_,_,_,_,_,_,h,_,_=>h.elim
 |_::_,[],_,_,_,_,_,_,h,_,_=>h.elim
theorem Af9{st0}:∀ {xs:List (Nat×Nat×BM×List Cell)} {G:List Bx} {ls:List (List A5)} {own:List As} {i rs:List Rd} {st:Ai} {ρ:List HV},OPack G (xs.map (·.2.2.1)) ls own i->(∀r∈i,r∈rs)->All2 (BxIs ρ) xs G->(∀y∈xs,y.2.2.1≠ .le->Chunk.box y.1 y.2.1 y.2.2.2∈st0.own)->Be st0 st->Mem B Af ρ st own rs w->
  ∃ρ' rs',Ext ρ ρ'/\Mem B Af ρ' (Nu xs ls st) [] rs' w/\Be st0 (Nu xs ls st)/\(Nu xs ls st).env=st.env
 |[],[],ls,own,i,rs,st,ρ,h,_,_,_,hg,hM=>by
  cases ls with
  |cons _ _=>exact h.elim
  |nil=>have h':own=[]:=h.1;subst h';exact⟨ρ,rs,Ext.refl ρ,hM,hg,rfl⟩
 |(hh,g,mm,cs)::xs,(b,_,vs0)::G,ls,own,i,rs,st,ρ,h,hr,⟨hbx,h1⟩,h2,hg,hM=>by
  cases mm with
  |ow=>
   obtain⟨A,u⟩:=hbx.box (by simp);cases ls with
   |nil=>exact h.elim
   |cons l ls=>
    obtain⟨vs,c,e,W,rfl,k2⟩:=h;obtain⟨m,m1,m2,m3⟩:=hM.mem;have m4:St B (Bc (l.map A5.ce) vs++(m++(Cc b vs.toArray e::c))) rs w:=by exact m3.perm (((Ct (a:=Cc b vs.toArray e) (l₁:=Bc (l.map A5.ce) vs) (l₂:=c)).symm.append_left m).trans (Abm ..))
    obtain⟨ρ',m',j,F,H,I,M,N,O,P⟩:=T4 l st ρ vs m hM.len m1 W.symm m4;have hx:=Ext.one ρ' (.num 0)
    have m5:Mem B Af (ρ'++[.num 0]) {(B6 true l st).2 with own:=.box hh (B6 true l st).2.Ak (B6 true l st).1::(B6 true l st).2.own,Ak:=(B6 true l st).2.Ak+1} c rs w:=
     ⟨by simp[F],⟨Cc b vs.toArray e::m',⟨⟨b,e,vs,hx.get (j.get A),M.mono λ_ _=>Cell.Den.mono hx,rfl⟩,OwnOk.mono hx (λ_ h=>h) H⟩,by rw[P];exact m2.mono (j.trans hx) λ_ h=>h,I.perm Ct⟩,hM.Af⟩
    obtain⟨f,d,k,n,o,p⟩:=Af9 (st0:=st0) k2 hr (h1.mono λ_ _ C=>C.mono (j.trans hx)) (λy x=>h2 y (Bf _ x)) ((hg.trans N).trans (Be.fresh rfl (OwnLe.refl _))) m5;exact⟨f,d,(j.trans hx).trans k,n,o,p.trans O⟩
  |rd=>
   obtain⟨A,u⟩:=hbx.box (by simp);cases ls with
   |nil=>exact h.elim
   |cons l ls=>
    obtain⟨vs,c,X,e,W,rfl,rfl,k2⟩:=h;obtain⟨m,m1,m2,m3⟩:=hM.mem;obtain⟨ρ',rs',j,F,H,I,M,N,O,P,a9,Y⟩:=Yl (x0:=Cc b vs.toArray e::c) l st ρ vs rs hM.len m1 m2 (λS hS=>hS _ (hr _ (Bm ..))) m3;have hx:=Ext.one ρ' (.num 0)
    have m5:Mem B Af (ρ'++[.num 0]) {(B6 false l st).2 with own:=.box hh (B6 false l st).2.Ak (B6 false l st).1::(B6 false l st).2.own,Ak:=(B6 false l st).2.Ak+1} c rs' w:=
     ⟨by simp[H],⟨Cc b vs.toArray e::m,⟨⟨b,e,vs,hx.get (j.get A),O.mono λ_ _=>Cell.Den.mono hx,rfl⟩,OwnOk.mono hx (λ_ h=>h) I⟩,M.mono hx λ_ h=>h,N.perm Ct⟩,λr h=>F r (hM.Af r h)⟩
    obtain⟨f,d,k,n,o,p⟩:=Af9 (st0:=st0) k2 (λr h=>F r (hr r (Bf _ h))) (h1.mono λ_ _ C=>C.mono (j.trans hx)) (λy x=>h2 y (Bf _ x)) ((hg.trans P).trans (Be.fresh rfl (OwnLe.refl _))) m5;exact⟨f,d,(j.trans hx).trans k,n,o,p.trans a9⟩
  |lo=>
   obtain⟨A,u⟩:=hbx.box (by simp);obtain⟨c,e,rfl,k2⟩:∃c e,own=Cc b vs0.toArray e::c/\OPack G (xs.map (·.2.2.1)) ls c i:=by cases ls<;>exact h
   obtain⟨m,m1,m2,m3⟩:=hM.mem
   have m5:Mem B Af ρ {st with own:=.box hh g cs::st.own} c rs w:=
    ⟨hM.len,⟨Cc b vs0.toArray e::m,⟨⟨b,e,vs0,A,u,rfl⟩,m1⟩,m2,m3.perm Ct⟩,hM.Af⟩
   have T:Be st0 {st with own:=.box hh g cs::st.own}:=⟨hg.Ak,λc' Q U=>by
    rcases Bq.1 Q with rfl|Q
    ·exact⟨_,h2 _ (Bm ..) (by simp),.inl rfl⟩
    ·exact hg.own c' Q U,hg.Bg⟩
   obtain⟨f,d,k,n,o,p⟩:=Af9 (st0:=st0) k2 hr h1 (λy x=>h2 y (Bf _ x)) T m5;have:Nu ((hh,g,.lo,cs)::xs) ls st=Nu xs ls {st with own:=.box hh g cs::st.own}:=by cases ls<;>rfl
   rw[this];exact⟨f,d,k,n,o,p⟩
  |le=>
   cases ls with
   |nil=>exact h.elim
   |cons l ls=>
    obtain⟨v,t,L,c,V,rfl,rfl,k2⟩:=h
    have D:∃s:Sv,ρ[hh]?=Aa (.row s)/\vs0=[s.v]:=by
     rcases hbx with⟨_,q⟩|⟨q,_⟩
     ·exact q
     ·exact absurd rfl q
    obtain⟨s,q1,q2⟩:=D;rw[q2]at V;cases V;obtain⟨m,m1,m2,m3⟩:=hM.mem;have hx:=Ext.one ρ (.num 0)
    have m5:Mem B Af (ρ++[.num 0]) {st with own:=.row hh st.Ak t L []::st.own,Ak:=st.Ak+1} c rs w:=
     ⟨by simp[hM.len],⟨oV (oC (Ar (sz t) (fD t) L) s.v) []::m,⟨⟨s,[],hx.get q1,rfl,rfl⟩,OwnOk.mono hx (λ_ h=>h) m1⟩,m2.mono hx λ_ h=>h,(St.z (m3.perm Ct) Z.toV)⟩,hM.Af⟩
    obtain⟨f,d,k,n,o,p⟩:=Af9 (st0:=st0) k2 hr (h1.mono λ_ _ C=>C.mono hx) (λy x=>h2 y (Bf _ x)) (hg.trans (Be.fresh rfl (OwnLe.refl _))) m5;exact⟨f,d,hx.trans k,n,o,p⟩
 |[],_::_,_,_,_,_,_,_,h,_,_,_,_,_=>h.elim
 |_::_,[],_,_,_,_,_,_,h,_,_,_,_,_=>h.elim
theorem RPack.own:∀ {c:List RK} {ls:List (List A5)} {a:List Value} {own:List As} {b:List Rd},RPack c ls a own b->c.all (·.own)=true->b=[]
 |[],[],_,_,_,h,_=>h.2.2
 |k::c,l::ls,a,own,b,h,hk=>by obtain⟨vs,d,f,g,j,_,_,i,_,e⟩:=h;simp only[K5,A9]at hk;rw[hk.1]at e;rw[e.2];exact i.own hk.2
 |[],_::_,_,_,_,h,_=>h.elim
 |_::_,[],_,_,_,h,_=>h.elim
theorem Pr:∀ {ps:List PK},Anu ps=true->∀m∈Lm ps,m≠ .rd
 |[],_,m,a=>by cases a
 |.val _ _::r,h,m,a=>Pr (ps:=r) h m a
 |.Od _::r,h,m,a=>Pr (ps:=r) h m a
 |.lit _::r,h,m,a=>Pr (ps:=r) h m a
 |.fn _ _::r,h,m,a=>Pr (ps:=r) h m a
 |.box .lo _::r,h,m,a=>by
  rcases Bq.1 a with rfl|a
  ·simp
  ·exact Pr (ps:=r) h m a
 |.box .ow _::r,h,m,a=>by
  rcases Bq.1 a with rfl|a
  ·simp
  ·exact Pr (ps:=r) h m a
 |.cap .lo _::r,h,m,a=>by
  rcases Bq.1 a with rfl|a
  ·simp
  ·exact Pr (ps:=r) h m a
 |.cap .ow _::r,h,m,a=>by
  rcases Bq.1 a with rfl|a
  ·simp
  ·exact Pr (ps:=r) h m a
 |.box .le _::r,h,m,a=>by
  rcases Bq.1 a with rfl|a
  ·simp
  ·exact Pr (ps:=r) h m a
 |.cap .le _::r,h,m,a=>by
  rcases Bq.1 a with rfl|a
  ·simp
  ·exact Pr (ps:=r) h m a
 |.len _::r,h,m,a=>by
  rcases Bq.1 a with rfl|a
  ·simp
  ·exact Pr (ps:=r) h m a
 |.box .rd _::_,h,_,_=>by cases h
 |.cap .rd _::_,h,_,_=>by cases h
theorem OPack.noM:∀ {d:List BM} {f:List Bx} {ls:List (List A5)} {own:List As} {a:List Rd},OPack f d ls own a->(∀m∈d,m≠ .rd)->a=[]
 |[],[],[],_,_,h,_=>h.2
 |.ow::d,(b,e,vs)::f,l::ls,own,a,h,hm=>by obtain⟨_,_,_,_,_,h⟩:=h;exact h.noM λm h=>hm m (Bf _ h)
 |.lo::d,(b,e,vs)::f,ls,own,a,h,hm=>by
  obtain⟨c,e,_,h⟩:∃c e,own=Cc b vs.toArray e::c/\OPack f d ls c a:=by cases ls<;>exact h
  exact h.noM λm h=>hm m (Bf _ h)
 |.le::d,(b,e,vs)::f,l::ls,own,a,h,hm=>by obtain⟨_,_,_,_,_,_,_,h⟩:=h;exact h.noM λm h=>hm m (Bf _ h)
 |.le::_,[],_,_,_,h,_=>by simp[OPack]at h
 |.le::_,_::_,[],_,_,h,_=>by simp[OPack]at h
 |.rd::d,_,_,_,_,_,hm=>absurd rfl (hm _ (Bm ..))
 |[],[],_::_,_,_,h,_=>h.elim
 |[],_::_,_,_,_,h,_=>by simp[OPack]at h
 |.ow::_,[],_,_,_,h,_=>by simp[OPack]at h
 |.ow::_,_::_,[],_,_,h,_=>by simp[OPack]at h
 |.lo::_,[],_,_,_,h,_=>by simp[OPack]at h
theorem OPack.no{ps bx ls own Bg} (h:OPack bx (Lm ps) ls own Bg) (a:Anu ps=true):Bg=[]:=h.noM (Pr a)
theorem Gr.quiet{S ps a vals Bu own bx} (h:Gr S w ps a vals Bu own bx) (b:Gi ps=true):own=[]:=by
 induction h with
 |nil=>rfl
 |ro _ _ c=>exact c (by simpa [Gi]using b)
 |fn _ _ c=>exact c (by simp only[Gi,K5,A9]at b;exact b.2)
 |_=>simp[Gi]at b
theorem Bhq{l vs} (h:All2 (V1.Den ρ) l vs):(Xp l).Den ρ (Mh vs):=by
 match l,vs,h with
 |[v],[u],h=>exact h.1
 |[],[],_=>exact⟨[],trivial,rfl⟩
 |a::b::l,u::v::vs,h=>exact⟨u::v::vs,h,rfl⟩
 |[],_::_,h=>exact h.elim
 |[_],_::_::_,h=>exact h.2.elim
 |_::_::_,[_],h=>exact h.2.elim
 |_::_,[],h=>exact h.elim
theorem B0v{c xs bx rr vs own Bg st0} (h:Left c bx rr vs own Bg) (n:∀r∈Bg,r∈rs) (L:xs.map (·.2.2.1)=Lm c.ps) (f:All2 (BxIs ρ) xs bx) (F:∀y∈xs,y.2.2.1≠ .le->Chunk.box y.1 y.2.1 y.2.2.2∈st0.own) (I:Be st0 st) (H:EnvOk ρ st.env env) (G:Mem B Af ρ st own rs w)
  (g:(let q:=Ja c.rs (Nf _ rr) st;K (Xp q.1) (Nu xs q.2.1 q.2.2))=Aa r):
  ∃sv a ρ',K sv a=Aa r/\Ext ρ ρ'/\Sat B Af ρ' a env w/\sv.Den ρ' (Mh vs)/\Be st0 a/\a.env=st.env:=by
 obtain⟨N,lsO,o,p,s,t,D,M,k2,rfl,rfl⟩:=h;rw[D]at g;obtain⟨u,O,rs1,b,v,x,z,A,k⟩:=Av6 (lsO:=lsO) M (λr h=>n r (Hv _ h)) G;simp only[u]at g;rw[<-L]at k2;obtain⟨j,i,d,e,C,l⟩:=Af9 (st0:=st0) k2 (λr h=>v r (n r (F5 _ h))) (f.mono λ_ _ f=>f.mono b) F (I.trans A) x;obtain⟨m,m1,m2,m3⟩:=e.mem;exact⟨_,_,j,g,b.trans d,⟨e.len,by rw[l,k];exact H.mono (b.trans d),m,i,m1,m2,e.Af,by simpa using m3⟩,(Bhq z).mono d,C,l.trans k⟩
theorem Br4{c} (W:Sat B Af ρ st env w) (I:Holds Af c){vs vals} (hv:All2 (V1.Den ρ) vs vals) (h:Yp c vs st K=Aa (Aa r)):
  Ret prog c.f vals w λu w'=>(Gi c.ps=true->Rel w w')/\After B Af ρ st env K r u w':=by
 unfold Yp at h;obtain⟨p,p1,h⟩:=A1 h;obtain⟨a,x,h⟩:=A1 h;simp only[D1.injEq]at h;obtain⟨n,r1,h⟩:=A1 h;obtain⟨m,rs,h1,C,P,hM⟩:=W.mem;obtain⟨l1,l2,A,m',l,Y,k2,k3,k4,L⟩:=Cbb (Bu:=[]) p1 hv trivial h1;have k:=hM.z (k2 w);have hg:Be st {st with own:=p.2}:=⟨Ef _,λc' I _=>⟨c',l1 c' I,.inl rfl⟩,[],rfl⟩;have De:∀(rs1:List Rd) (d:List As) (j:List Rd) (vs:List Value) (w':World),Left c l n vs d j->St B (d++m') rs1 w'->(∀r∈j,r∈rs1)->(∀r∈rs,r∈rs1)->After B Af ρ st env K r (Mh vs) w':=λrs1 d j vs w' hL Q U s=>by obtain⟨sv,a2,ρ',g,i,q3,q4,q5,q6⟩:=B0v (st:= {st with own:=p.2}) (B:=B) (Af:=Af) (env:=env) (w:=w') (rs:=rs1) (K:=K) (r:=r) hL U k4 k3 l2 hg W.env ⟨W.len,⟨m',OwnOk.mono (Ext.refl ρ) s Y,C.mono (Ext.refl ρ) s,Q.perm Gg⟩,λr D=>s r (P r D)⟩ h;exact⟨sv,a2,ρ',g,i,q3,q4,q5,q6⟩
 cases e:c.shut with
 |true=>
  rw[e]at x
  have J7:∀X S:Bs,Sep A X w->SX X S w->(∀r∈rs,r.ok S w)->(∀a∈m',∃F,(∀b,F b->S b)/\a.ok F w)->Ret prog c.f vals w (λu w'=>∃y: {q:List Value×List As//Left c l n q.1 q.2 []},u=Mh y.1.1/\H5 X S w y.1.2 [] w'):=λX S G H v x4=>by
   refine(I w X S a vals A l n (L {st with own:=p.2} S w a (λO cs ls us g i=>Z2 (st:= {st with own:=p.2}) (m:=m') ⟨v,x4⟩ Y C g i) x) G H (λr D=>v r (P r D)) r1).mono λu w' ⟨t,d,j,M,e2,N⟩=>?_;have V:j=[]:=by simp only[I6.shut,A9]at e;obtain⟨_,_,_,_,_,_,_,q,q',_,rfl⟩:=e2;rw[q.own e.1,q'.no e.2];rfl
   subst V;exact⟨⟨(t,d),e2⟩,M,N⟩
  cases T:Gi c.ps with
  |true=>
   have o:A=[]:=by have:=L {st with own:=p.2} (al w) w a (λO cs ls us g i=>Z2 (st:= {st with own:=p.2}) (m:=m') (k.z (m':=m') (λF hF=>by obtain⟨F1,F2,_,g2,_,_,g5⟩:=hF.split;exact g2.up g5 hF.lt)).sees Y C g i) x;exact this.quiet T
   subst o;refine(St.callF (l':=λy: {q:List Value×List As//Left c l n q.1 q.2 []}=>y.1.2) (val:=λy=>Mh y.1.1) k λX S G H v x4=>J7 X S G H v x4).mono λu w' ⟨q0,y,g,i⟩=>⟨λ_=>q0,?_⟩;subst g;exact De rs y.1.2 [] y.1.1 w' y.2 i (λ_ h=>by cases h) λ_ h=>h
  |false=>refine(St.callO (l':=λy: {q:List Value×List As//Left c l n q.1 q.2 []}=>y.1.2) (val:=λy=>Mh y.1.1) k J7).mono λu w' ⟨y,g,i⟩=>⟨(λh=>by cases h),?_⟩;subst g;exact De rs y.1.2 [] y.1.1 w' y.2 i (λ_ h=>by cases h) λ_ h=>h
 |false=>
  rw[e]at x;have J7:∀X S:Bs,Sep A X w->SX X S w->(∀r∈rs,r.ok S w)->Ret prog c.f vals w (λu w'=>∃y: {q:List Value×List As×List Rd//Left c l n q.1 q.2.1 q.2.2},u=Mh y.1.1/\H5 X S w y.1.2.1 y.1.2.2 w'):=λX S G H v=>by refine(I w X S a vals A l n (L {st with own:=[]} S w a (λO cs ls us g i=>Z2 (st:= {st with own:=[]}) (m:=[]) (rs:=rs) (ρ:=ρ) ⟨v,λ_ h=>by cases h⟩ (show OwnOk ρ rs [] []from trivial) C g i) x) G H (λr D=>v r (P r D)) r1).mono λu w' ⟨t,d,j,M,e2,N⟩=>?_;exact⟨⟨(t,d,j),e2⟩,M,N⟩
  cases T:Gi c.ps with
  |true=>
   have o:A=[]:=by have:=L {st with own:=[]} (al w) w a (λO cs ls us g i=>Z2 (st:= {st with own:=[]}) (m:=[]) (rs:=rs) (ρ:=ρ) ⟨hM.sees.1,λ_ h=>by cases h⟩ (show OwnOk ρ rs [] []from trivial) C g i) x;exact this.quiet T
   subst o;refine(St.callFR (l':=λy: {q:List Value×List As×List Rd//Left c l n q.1 q.2.1 q.2.2}=>y.1.2.1) (rs1:=λy=>y.1.2.2) (val:=λy=>Mh y.1.1) k J7).mono λu w' ⟨q0,y,g,i⟩=>⟨λ_=>q0,?_⟩;subst g;exact De _ y.1.2.1 y.1.2.2 y.1.1 w' y.2 i (λr h=>Hv _ h) λr h=>F5 _ h
  |false=>refine(St.callR (l':=λy: {q:List Value×List As×List Rd//Left c l n q.1 q.2.1 q.2.2}=>y.1.2.1) (rs1:=λy=>y.1.2.2) (val:=λy=>Mh y.1.1) k J7).mono λu w' ⟨y,g,i⟩=>⟨(λh=>by cases h),?_⟩;subst g;exact De _ y.1.2.1 y.1.2.2 y.1.1 w' y.2 i (λr h=>Hv _ h) λr h=>F5 _ h
theorem U1:∀ {ps:List PK} {vs:List V1} {st:Ai},Sat B Af ρ st env w->Sat B Af ρ (U0 ps vs st) env w/\Be st (U0 ps vs st)/\(U0 ps vs st).env=st.env
 |[],_,st,hs=>⟨hs,Be.refl st,rfl⟩
 |.cap _ _::ps,vs,st,hs=>U1 (ps:=ps) (vs:=vs) hs
 |.val o _::ps,vs,st,hs=>by
  unfold U0;split
  ·cases o with
   |true=>exact U1 hs
   |false=>rename_i v vs;obtain⟨a,b,c⟩:=Adp (l:=Abx v) hs;obtain⟨d,e,f⟩:=U1 (ps:=ps) (vs:=vs) a;exact⟨d,b.trans e,f.trans c⟩
  ·exact⟨hs,Be.refl st,rfl⟩
 |.box _ _::ps,vs,st,hs=>U1 (ps:=ps) (vs:=vs.tail) hs
 |.Od _::ps,vs,st,hs=>U1 (ps:=ps) (vs:=vs.tail) hs
 |.lit _::ps,vs,st,hs=>U1 (ps:=ps) (vs:=vs.tail) hs
 |.fn _ _::ps,vs,st,hs=>U1 (ps:=ps) (vs:=vs.tail) hs
 |.len _::ps,vs,st,hs=>U1 (ps:=ps) (vs:=vs.tail) hs
theorem Uu:∀ {ps:List PK} {vs:List V1} {st:Ai} {ρ:List HV},Sat B Af ρ st env w->∃ρ',Ext ρ ρ'/\Sat B Af ρ' (W4 ps vs st) env w/\Be st (W4 ps vs st)/\(W4 ps vs st).env=st.env
 |[],vs,st,ρ,hs=>⟨ρ,Ext.refl ρ,hs,Be.refl st,rfl⟩
 |.len _::ps,[],st,ρ,hs=>Uu (ps:=ps) (vs:=[]) hs
 |.len _::ps,v::vs,st,ρ,hs=>by obtain⟨j,b,c,d,e⟩:=Agx (l:=Abx v) hs;obtain⟨a,f,g,h,i⟩:=Uu (ps:=ps) (vs:=vs) c;exact⟨a,b.trans f,g,d.trans h,i.trans e⟩
 |.cap _ _::ps,vs,st,ρ,hs=>Uu (ps:=ps) (vs:=vs) hs
 |.val _ _::ps,vs,st,ρ,hs=>Uu (ps:=ps) (vs:=vs.tail) hs
 |.box _ _::ps,vs,st,ρ,hs=>Uu (ps:=ps) (vs:=vs.tail) hs
 |.Od _::ps,vs,st,ρ,hs=>Uu (ps:=ps) (vs:=vs.tail) hs
 |.lit _::ps,vs,st,ρ,hs=>Uu (ps:=ps) (vs:=vs.tail) hs
 |.fn _ _::ps,vs,st,ρ,hs=>Uu (ps:=ps) (vs:=vs.tail) hs
theorem A7v{h}:∀ {own:List Chunk} {p:(Nat×Akz)×List Chunk} {m:List As},Yr h own=Aa p->OwnOk ρ rs own m->OwnLe own p.2/\∃q b m',ρ[p.1.1]?=Aa (.row q)/\ρ[h]?=Aa (.row b)/\OwnOk ρ rs p.2 m'/\∀w,Z w m (Mf (sz p.1.2.t) (fD p.1.2.t) p.1.2.L q.v (p.1.2.i*sz p.1.2.t+p.1.2.j) b.v::m')
 |[],p,m,hc,_=>by cases hc
 |c::r,p,[],_,h1=>h1.elim
 |c::r,p,a::m,hc,⟨h1,h2⟩=>by
  have d:(∃z,Yr h r=Aa z/\(z.1,c::z.2)=p)->OwnLe (c::r) p.2/\∃(q b:Sv) (m':List As),ρ[p.1.1]?=Aa (.row q)/\ρ[h]?=Aa (.row b)/\OwnOk ρ rs p.2 m'/\∀w,Z w (a::m) (Mf (sz p.1.2.t) (fD p.1.2.t) p.1.2.L q.v (p.1.2.i*sz p.1.2.t+p.1.2.j) b.v::m'):=λ⟨z,n,e⟩=>by
   subst e;obtain⟨y,q,b,m',s,l,k2,u⟩:=A7v n h2
   exact⟨λx hx=>by
    rcases Bq.1 hx with rfl|hx
    ·exact Bm ..
    ·exact Bf _ (y x hx),q,b,a::m',s,l,⟨h1,k2⟩,λw=>(u w).cons.trans (Z.perm (List.Perm.swap ..))⟩
  cases c with
  |El k g t L i j o=>
   simp only[Yr]at hc;cases f:Ay o h with
   |true=>rw[f]at hc;cases hc;cases Br f;obtain⟨q,b,l,k2,rfl⟩:=h1;exact⟨λx hx=>Bf _ hx,q,b,m,l,k2,h2,λw=>zI⟩
   |false=>rw[f]at hc;simp only[cond_false,Di]at hc;exact d hc
  |_=>simp only[Yr,Di]at hc;exact d hc
theorem Bsf (f:Sat B Af ρ st env w) h:∃ρ',Ext ρ ρ'/\Sat B Af ρ' (Afp h st) env w/\Be st (Afp h st)/\(Afp h st).env=st.env:=by
 have b:∃ρ',Ext ρ ρ'/\Sat B Af ρ' st env w/\Be st st/\st.env=st.env:=⟨ρ,Ext.refl ρ,f,Be.refl st,rfl⟩;unfold Afp;split
 ·rename_i d own D;split
  ·rename_i c p C;split
   ·rename_i a A;cases o:C1 d.2.j (sz d.2.t)with
    |false=>exact b
    |true=>
     obtain⟨m,rs,x,g2,g3,y⟩:=f.mem;obtain⟨P,q,S,m',H,I,k2,M⟩:=A7v D x;obtain⟨Q,s',m2,s,N,O⟩:=Q5 C k2;rw[I]at s;cases s;have e:=((y.z (M w)).z (O w).cons).perm (List.Perm.swap ..);have G:d.2.j<sz d.2.t:=by simpa using o
     have hi:d.2.i<d.2.L.length:=by
      obtain⟨F,xs,u,e2,_⟩:=e.drop.at' (Bm ..);have n:=(H3.1 e2).1;rw[<-u,Mw (Fu d.2.t)]at n;simp only at n;rcases Tt d.2.i d.2.L.length with h|h
      ·exact h
      ·have:=E4 (sz d.2.t) h;omega
     have k:d.2.j<(Cf d.2.t (el d.2.L d.2.i)).length:=by rw[Kz];exact G
     have g:St B (oC (Ar (sz d.2.t) (fD d.2.t) (d.2.L.set d.2.i a)) q.v::m2) rs w:=St.close a e (Fu d.2.t) hi o (by
      have l:splice (Cf d.2.t (el d.2.L d.2.i)) d.2.j [.sl c.t c.L]=(Cf d.2.t (el d.2.L d.2.i)).set d.2.j (.sl c.t c.L):=(Ao9 k).symm;rw[Gl,Ic A,Gl,l,A6c];rfl)
     have hx:=Ext.one ρ (.num 0);exact⟨_,hx,⟨by simp[f.len],f.env.mono hx,oV (oC (Ar (sz d.2.t) (fD d.2.t) (d.2.L.set d.2.i a)) q.v) []::m2,rs,⟨⟨q,[],hx.get H,rfl,rfl⟩,OwnOk.mono hx (λ_ h=>h) N⟩,g2.mono hx λ_ h=>h,g3,g.z Z.toV⟩,Be.fresh rfl (P.trans Q),rfl⟩
   ·exact b
  ·exact b
 ·exact b
theorem At2:∀ {l:List Cell} {st:Ai} {ρ:List HV},Sat B Af ρ st env w->∃ρ',Ext ρ ρ'/\Sat B Af ρ' (Ys l st) env w/\Be st (Ys l st)/\(Ys l st).env=st.env
 |[],st,ρ,hs=>⟨ρ,Ext.refl ρ,hs,Be.refl st,rfl⟩
 |c::l,st,ρ,hs=>by
  unfold Ys;split
  ·rename_i h;obtain⟨n,b,d,e,f⟩:=Bsf hs h;obtain⟨a,g,i,j,k⟩:=At2 (l:=l) d;exact⟨a,b.trans g,i,e.trans j,k.trans f⟩
  ·exact At2 hs
theorem T6:∀ {ps:List PK} {vs:List V1} {st:Ai} {ρ:List HV},Sat B Af ρ st env w->∃ρ',Ext ρ ρ'/\Sat B Af ρ' (Wc ps vs st) env w/\Be st (Wc ps vs st)/\(Wc ps vs st).env=st.env
 |[],vs,st,ρ,hs=>⟨ρ,Ext.refl ρ,hs,Be.refl st,rfl⟩
 |.len _::ps,[],st,ρ,hs=>T6 (ps:=ps) (vs:=[]) hs
 |.len _::ps,v::vs,st,ρ,hs=>by obtain⟨j,b,c,d,e⟩:=At2 (l:=Abx v) hs;obtain⟨a,f,g,h,i⟩:=T6 (ps:=ps) (vs:=vs) c;exact⟨a,b.trans f,g,d.trans h,i.trans e⟩
 |.cap _ _::ps,vs,st,ρ,hs=>T6 (ps:=ps) (vs:=vs) hs
 |.val _ _::ps,vs,st,ρ,hs=>T6 (ps:=ps) (vs:=vs.tail) hs
 |.box _ _::ps,vs,st,ρ,hs=>T6 (ps:=ps) (vs:=vs.tail) hs
 |.Od _::ps,vs,st,ρ,hs=>T6 (ps:=ps) (vs:=vs.tail) hs
 |.lit _::ps,vs,st,ρ,hs=>T6 (ps:=ps) (vs:=vs.tail) hs
 |.fn _ _::ps,vs,st,ρ,hs=>T6 (ps:=ps) (vs:=vs.tail) hs
theorem A7k{c} (j:Sat B Af ρ st env w) (x:Holds Af c){vs vals} (y:All2 (V1.Den ρ) vs vals) (h:Rz c vs st K=Aa (Aa r)):
  Ret prog c.f vals w λu w'=>(Gi c.ps=true->Rel w w')/\After B Af ρ st env K r u w':=by
 unfold Rz at h
 have k:∃st0,(bif c.shut then st else U0 c.ps vs st)=st0/\Sat B Af ρ st0 env w/\Be st st0/\st0.env=st.env:=by
  cases D:c.shut with
  |true=>exact⟨st,rfl,j,Be.refl st,rfl⟩
  |false=>obtain⟨a,b,d⟩:=U1 (ps:=c.ps) (vs:=vs) j;exact⟨_,rfl,a,b,d⟩
 obtain⟨st0,t,a,b,d⟩:=k;rw[t]at h;obtain⟨C,g,l,n,o⟩:=Uu (ps:=c.ps) (vs:=vs) a;exact(Br4 l x (y.mono λ_ _=>V1.Den.mono g) h).mono λu w' ⟨z,sv,A,ρ',g1,g2,g3,g4,g5,v⟩=>by obtain⟨e,i,p,q,s⟩:=T6 (ps:=c.ps) (vs:=vs) g3;exact⟨z,sv,_,e,g1,(g.trans g2).trans i,p,g4.mono i,((b.trans n).trans g5).trans q,s.trans (v.trans (o.trans d))⟩
theorem Ak7{f} (g:Sat B Af ρ st env w){vs vals} (i:All2 (V1.Den ρ) vs vals):∀ {cs:List I6},(∀c∈cs,Holds Af c)->callF f vs st K cs=Aa r->
  Ret prog f vals w λu w'=>((∀c∈cs,Gi c.ps=true)->Rel w w')/\After B Af ρ st env K r u w'
 |[],_,h=>by cases h
 |c::cs,hc,h=>by
  unfold callF at h;cases e:Ay c.f f with
  |false=>rw[e]at h;exact(Ak7 g i (λc h=>hc c (Bf _ h)) h).mono λu w' ⟨b,d⟩=>⟨λa=>b λc h=>a c (Bf _ h),d⟩
  |true=>
   rw[e]at h;cases Br e;simp only[cond_true]at h;split at h
   ·rename_i x hx;subst h;exact(A7k g (hc c (Bm ..)) i hx).mono λu w' ⟨b,d⟩=>⟨λa=>b (a c (Bm ..)),d⟩
   ·exact(Ak7 g i (λc h=>hc c (Bf _ h)) h).mono λu w' ⟨b,d⟩=>⟨λa=>b λc h=>a c (Bf _ h),d⟩
def InlOk (Af:List Rd) (i:Inl):Prop:=∀(R:Type) (f:FuncId) (vs:List V1) (st:Ai) (K:SV->Ai->Option R) (r:R) (B:Dn) (ρ:List HV) (env:Env) (w:World) (a:List Value),
 i R f vs st K=Aa r->Sat B Af ρ st env w->All2 (V1.Den ρ) vs a->Ret prog f a w λu w'=>After B Af ρ st env K r u w'
theorem Amw:InlOk Af Amv:=λ_ _ _ _ _ _ _ _ _ _ _ h=>by cases h
structure La (Af:List Rd) (C:Es):Prop where
 cons:∀c∈C.cons,Holds Af c
 inl:InlOk Af C.inl
end
end
section
open Go.RowKit
section
variable {ρ ρ':List HV} {rs rs':List Rd} {B:Dn} {Af:List Rd} {st:Ai} {env:Env} {w:World} {m:List As} {R:Type} {r:R} {C:Es}
theorem Sat.put (a:Sat B Af ρ st env w){sv v} (b:sv.Den ρ v) d:Sat B Af ρ (st.put d sv) ((d,v)::env) w:=⟨a.len,a.env.put b d,a.mem⟩
theorem B77 {c:Cell}{v} (h:c.shut=true) (a:c.Den ρ v):v=c.val:=by
 cases c with
 |Q4 u=>exact a.1
 |i k x=>exact a
 |y x=>exact a
 |b x=>exact a
 |s x=>exact a
 |nil=>exact a
 |_=>cases h
theorem A1h:∀ {ps:List PK} {vs:List V1} {own:List Chunk} {p:Afc×List Chunk},Gi ps=true->I1 ps vs [] own=Aa p->p=(⟨[],[]⟩,own)
 |[],vs,own,p,_,h=>by
  unfold I1 at h;split at h
  ·cases h;rfl
  ·cases h
 |k::ps,vs,own,p,hq,h=>by
  simp only[Gi,K5,A9]at hq;cases k with
  |val o t=>
   cases o with
   |true=>simp at hq
   |false=>
    unfold I1 at h;split at h
    ·exact A1h (by simpa [Gi]using hq.2) h
    ·cases h
  |fn f n=>
   unfold I1 at h;split at h
   ·rename_i g l vs;have a:=(bt h).1;replace h:=(bt h).2;simp only[A9]at a;have c:=Br hq.1;have b:=Br a.2;rw[c]at b;rw[I4 b]at h;exact A1h (by simpa [Gi]using hq.2) h
   ·cases h
  |_=>simp at hq
theorem Br3{R' c vs K} (F:R->Option R'):Yp c vs st (λv s=>Ac (K v s) F)=(Yp c vs st K).map (λx=>Ac x F):=by
 unfold Yp;cases I1 c.ps vs [] st.own with
 |none=>rfl
 |some p=>
  simp only[Ad];cases Kd {st with own:=bif c.shut then p.2 else []} c.ps vs p.1.ls p.1.bx with
  |none=>rfl
  |some a=>simp only[Ad,Pc];cases c.x a<;>rfl
theorem Br1{R' c vs K} (F:R->Option R'):Rz c vs st (λv s=>Ac (K v s) F)=(Rz c vs st K).map (λx=>Ac x F):=Br3 F
theorem Ayl:∀ {ps:List PK},Gi ps=true->Q0 ps=[]
 |[],_=>rfl
 |k::ps,h=>by
  simp only[Gi,K5,A9]at h;cases k with
  |val o t=>exact Ayl (ps:=ps) (by simpa [Gi]using h.2)
  |fn f n=>exact Ayl (ps:=ps) (by simpa [Gi]using h.2)
  |_=>simp at h
theorem Bxw{k n} (x:k.t=.b n) (f:k.bx=false) (A:n<=3){ps} (ho:Q0 ps=[]) (d:PRes ps [k]) (K:SV->Ai->Option R):
  ∃e,(let q:=Ja [k] (Nf _ d) st;K (Xp q.1) (Nu [] q.2.1 q.2.2))=K (.v (.c e)) st:=by
 obtain⟨u,G,F⟩:=k;simp only at x f;subst x f
 have p:∀l:List A5,(l.length=1)->(∀y∈l,∀t L,y≠A5.sl t L)->∃e,B6 u l st=([e],st):=λl g a=>by
  match l,g with
  |[y],_=>
   cases y with
   |i z=>exact⟨_,rfl⟩
   |b z=>exact⟨_,rfl⟩
   |s z=>exact⟨_,rfl⟩
   |y z=>exact⟨_,rfl⟩
   |sl t L=>exact absurd rfl (a _ (Bm ..) t L)
 have o:∃z:C7 (.b n),Nf (List.map (·.t) [(⟨u,.b n,false⟩:RK)]++Q0 ps) d=[Cf (.b n) z]:=by revert d;show∀d:Tup (List.map (·.t) [(⟨u,.b n,false⟩:RK)]++Q0 ps),_;rw[ho];intro d;exact⟨d,rfl⟩
 obtain⟨z,D⟩:=o
 have g:(Cf (.b n) z).length=1/\(∀y∈Cf (.b n) z,∀t L,y≠A5.sl t L):=by
  match n,A,z with
  |0,_,z=>exact⟨rfl,λy a t L=>by simp[Cf,H8]at a;subst a;exact A5.noConfusion⟩
  |1,_,z=>exact⟨rfl,λy a t L=>by simp[Cf,H8]at a;subst a;exact A5.noConfusion⟩
  |2,_,z=>exact⟨rfl,λy a t L=>by simp[Cf,H8]at a;subst a;exact A5.noConfusion⟩
  |3,_,z=>exact⟨rfl,λy a t L=>by simp[Cf,H8]at a;subst a;exact A5.noConfusion⟩
 obtain⟨e,j⟩:=p _ g.1 g.2
 have h:Rx (.b n)=false:=by
  match n,A with
  |0,_=>rfl
  |1,_=>rfl
  |2,_=>rfl
  |3,_=>rfl
 refine⟨e,?_⟩;simp only[D,Ja,Nu,j,mkV,h,cond_false,Xp]
theorem An3:∀ {ps:List PK} {vs:List V1} {st:Ai},Gi ps=true->W4 ps vs st=st/\Wc ps vs st=st
 |[],_,_,_=>⟨rfl,rfl⟩
 |.val o t::ps,vs,st,h=>by simp only[Gi,K5,A9]at h;exact An3 (ps:=ps) (vs:=vs.tail) (by simpa [Gi]using h.2)
 |.fn f n::ps,vs,st,h=>by simp only[Gi,K5,A9]at h;exact An3 (ps:=ps) (vs:=vs.tail) (by simpa [Gi]using h.2)
 |.box _ _::_,_,_,h=>by simp[Gi]at h
 |.Od _::_,_,_,h=>by simp[Gi]at h
 |.lit _::_,_,_,h=>by simp[Gi]at h
 |.cap _ _::_,_,_,h=>by simp[Gi]at h
 |.len _::_,_,_,h=>by simp[Gi]at h
theorem Br2{c vs K} (b:c.pure=true) (h:Rz c vs st K=Aa (Aa r)):∃g,K (.v (.c g)) st=Aa r:=by
 unfold I6.pure at b;simp only[A9]at b;obtain⟨⟨d,b⟩,i⟩:=b;unfold Rz at h;rw[i]at h;simp only[cond_true,(An3 d).1,(An3 d).2]at h;unfold Yp at h;obtain⟨p,o,h⟩:=A1 h;obtain⟨a,s,h⟩:=A1 h;simp only[D1.injEq]at h;obtain⟨q,u,h⟩:=A1 h;have e:=A1h d o;subst e;obtain⟨f,ps,t,x⟩:=c;unfold Bdp at b;simp only at b;split at b
 ·rename_i k;split at b
  ·rename_i n l;simp only[A9]at b;obtain⟨g,j⟩:=Bxw (st:=st) l (by simpa using b.2) (Ql b.1) (Ayl d) q K;exact⟨g,j.symm.trans h⟩
  ·cases b
 ·cases b
theorem B3s{f vs K cs} (h:callF f vs st K (Zx f cs)=Aa r):∃c∈cs,c.f=f/\c.pure=true/\Rz c vs st K=Aa (Aa r):=by
 induction cs with
 |nil=>cases h
 |cons d cs g=>
  unfold Zx at h;cases a:Ay d.f f&&d.pure with
  |true=>
   rw[a]at h;simp only[cond_true,A9]at h a;unfold callF at h;rw[a.1]at h;simp only[cond_true]at h;split at h
   ·rename_i x hx;subst h;exact⟨d,Bm ..,Br a.1,a.2,hx⟩
   ·cases h
  |false=>rw[a]at h;obtain⟨c,b,e⟩:=g h;exact⟨c,Bf _ b,e⟩
theorem Al5 (a:EnvOk ρ st.env env):∀ {os:List Operand} {l:List V1},Ab9 st.env os=Aa l->∃vs,Hw env os=Aa vs/\All2 (V1.Den ρ) l vs
 |[],l,h=>by cases h;exact⟨[],rfl,trivial⟩
 |o::os,l,h=>by unfold Ab9 at h;obtain⟨v,b,h⟩:=A1 h;obtain⟨l',c,h⟩:=A1 h;cases h;obtain⟨u,g1,g2⟩:=a.ev1 b;obtain⟨us,d,k2⟩:=Al5 a c;exact⟨u::us,by simp[Hw,g1,d],g2,k2⟩
structure QR (P:Program) (o:Oper) (a:Act) (w:World) (v:Value):Prop where
 get:Adc P o a w v
theorem B33{P n} {d:Nat}{f b ats vs v ty pos af g a} (i:Has n a env) (k:Hw env b.toList=Aa vs) (j:∀c,Rel w c->Ret P f vs c λu w'=>u=v/\Rel c w'):
  QR P ⟨Aa d,.call ⟨.value (.func f),b,ats⟩,ty,pos,af,g⟩ a w v:=by
 cases b with
 |mk b=>exact⟨λc h=>Go.Proofs.YtbbefmccoomfhaaGreatDoor.call_wp i k (j c h) λu w' e=>⟨e.2,by rw[e.1]⟩⟩
theorem Aca (hC:La Af C) (q:Sat B Af ρ st env w){o K} (h:Qr C o st K=Aa r):
  ∃d sv v b ρ',o.dst=Aa d/\C1 d C.n=true/\K (b.put d sv)=Aa r/\Ext ρ ρ'/\Sat B Af ρ' b env w/\sv.Den ρ' v/\Be st b/\b.env=st.env/\∀n a,Has n a env->QR prog o a w v:=by
 unfold Qr at h;split at h
 ·rename_i d O;have l:=(bt h).1;replace h:=(bt h).2;obtain⟨S,M,ty,pos,af,g⟩:=o;simp only at O h;subst O;have Pp:∀ {M:Op},LkOk B Af ρ st env w M (λv st=>K (st.put d v)) r->∃G sv v b ρ',Aa d=Aa G/\C1 G C.n=true/\K (b.put G sv)=Aa r/\Ext ρ ρ'/\Sat B Af ρ' b env w/\sv.Den ρ' v/\Be st b/\b.env=st.env/\∀n a,Has n a env->QR prog ⟨Aa d,M,ty,pos,af,g⟩ a w v:=λhl=>by obtain⟨sv,v,b,ρ',U,H,e,V,W,X,Y⟩:=hl;exact⟨d,sv,v,b,ρ',rfl,l,U,H,e,V,W,X,λn a I=>⟨λk h8=>by unfold Oper.wp;rw[Y k h8 n (Aa d) ty pos af g a I];exact⟨Rel.refl k,rfl⟩⟩⟩
  split at h
  ·rename_i f N a8;split at h
   ·rename_i vs L;obtain⟨z,T,e2⟩:=Al5 q.env L;obtain⟨c,P,rfl,A,Q⟩:=B3s h;have hq:Gi c.ps=true:=by unfold I6.pure at A;simp only[A9]at A;exact A.1.1
    have e:=Br1 (c:=c) (vs:=vs) (st:=st) (K:=λv s=>Aa (v,s)) (λp:SV×Ai=>bif A0n p.1 then K (st.put d p.1)else Ab);simp only[Ad]at e;rw[Q]at e
    obtain⟨i,H,D⟩:∃i,Rz c vs st (λv s=>Aa (v,s))=Aa (Aa (SV.v (.c i),st))/\(bif A0n (.v (.c i))then K (st.put d (.v (.c i)))else Ab)=Aa r:=by
     cases hx:Rz c vs st (λv s=>Aa (v,s))with
     |none=>rw[hx]at e;cases e
     |some x=>
      rw[hx]at e;cases x with
      |none=>cases e
      |some p=>obtain⟨F,k2⟩:=Br2 A hx;cases k2;exact⟨F,rfl,(D1.inj e).symm⟩
    have y:=(bt D).1;replace D:=(bt D).2;refine⟨d,.v (.c i),i.val,st,ρ,rfl,l,D,Ext.refl ρ,q,A0o y,Be.refl st,rfl,λn a I=>?_⟩;have j:∀k,Rel w k->Ret prog c.f z k λu w'=>u=i.val/\Rel k w':=λk hw=>by refine(A7k (q.rel hw) (hC.cons c P) e2 H).mono λu w' ⟨q1,sv,b,ρ',q2,q3,q4,q5,q6,q7⟩=>⟨?_,q1 hq⟩;cases q2;exact B77 y q5
    exact B33 I T j
   ·cases h
  ·rename_i t ps;have:=Pp (Bdq (ps:=ps.toList) q h);simpa using this
  ·exact Pp (Axq q h)
 ·cases h
end
end
section
open Go.RowKit
structure QT (P:Program) (n:Nat) (aops:Array Oper) (T:List Oper->Env->World->Prop) (good:Oper->Prop):Prop where
 q:∀ {o rest env w d v},good o->o.dst=Aa d->C1 d n=true->(∀a,Has n a env->Region.wanted o (yielded aops a.tmps)=true)->(∀a,Has n a env->QR P o a w v)->(∀w',Rel w w'->T rest ((d,v)::env) w')->T (o::rest) env w
 s:∀ {o rest env w d},good o->o.dst=Aa d->C1 d n=true->(∀a,Has n a env->Region.wanted o (yielded aops a.tmps)=false)->(∀w',Rel w w'->T rest ((d,undef)::env) w')->T (o::rest) env w
section
variable {P:Program} {n:Nat} {aops:Array Oper} {Q:Post}
theorem QT.wl:QT P n aops (λl env w=>WL P n aops l Q env w) (λ_=>True) where
 q:=λ{o rest env w d v} _ e b f j h a c=>by unfold wpList;rw[if_pos (f a c)];exact .inl (J4 (λk w' ⟨g,i⟩=>by rw[i,e];exact h w' g _ (c.put b v)) ((j a c).get w (Rel.refl w)))
 s:=λ{o rest env w d} _ e b f h a c=>by unfold wpList;rw[if_neg (by rw[f a c];exact Bool.false_ne_true),e];exact h w (Rel.refl w) _ (c.put b undef)
theorem QT.wo (k:Oper->Nat):QT P n aops (λl env w=>WO P n aops Q (l.map λo=>(o,k o)) env w) (λo=>Dm (k o) 1=true) where
 q:=λ{o rest env w d v} c g e i x h a b=>by
  have f:k o=0\/k o=1:=by have:=Ql c;omega
  rcases f with c|c
  ·simp only[Fa,c];exact⟨v,.inl ⟨i a b,(x a b).get⟩,by rw[g];exact h w (Rel.refl w) _ (b.put e v)⟩
  ·simp only[Fa,c];exact .inl ⟨i a b,λp j=>J4 (λy w' ⟨t,u⟩=>⟨.inr t,v,u,by rw[u,g];exact h w' (j.trans t) _ (b.put e v)⟩) ((x a b).get p j)⟩
 s:=λ{o rest env w d} c g e i h a b=>by
  have f:k o=0\/k o=1:=by have:=Ql c;omega
  rcases f with c|c
  ·simp only[Fa,c];exact⟨undef,.inr ⟨i a b,rfl⟩,by rw[g];exact h w (Rel.refl w) _ (b.put e undef)⟩
  ·simp only[Fa,c];exact .inr ⟨i a b,λp j=>by rw[g];exact h p j _ (b.put e undef)⟩
end
theorem QT.wo2 {P:Program} {n:Nat} {aops:Array Oper} {Q:Post} (k:Oper->Nat):QT P n aops (λl env w=>WO P n aops Q (l.map λo=>(o,k o)) env w) (λo=>Dm (k o) 2=true) where
 q:=λ{o rest env w d v} b i e j x h=>by
  have f:Dm (k o) 1=true\/k o=2:=by
   have:=Ql b;by_cases c:k o=2
   ·exact .inr c
   ·exact .inl (Afa (by omega))
  rcases f with b|b
  ·exact(QT.wo k).q b i e j x h
  ·intro a g;simp only[Fa,b];exact .inl ⟨j a g,λt p=>J4 (λz w' ⟨y,u⟩=>⟨.inl rfl,v,u,by rw[u,i];exact h w' (p.trans y) _ (g.put e v)⟩) ((x a g).get t p)⟩
 s:=λ{o rest env w d} b i e j h=>by
  have f:Dm (k o) 1=true\/k o=2:=by
   have:=Ql b;by_cases c:k o=2
   ·exact .inr c
   ·exact .inl (Afa (by omega))
  rcases f with b|b
  ·exact(QT.wo k).s b i e j h
  ·intro a g;simp only[Fa,b];exact .inr ⟨j a g,λt p=>by rw[i];exact h t p _ (g.put e undef)⟩
section
variable {ρ ρ':List HV} {rs rs':List Rd} {B:Dn} {Af:List Rd} {st:Ai} {env:Env} {w:World} {m:List As} {R:Type} {r:R} {C:Es} {ops:List Oper} {n:Nat}
theorem Mb:∀ {a b:List Nat} {t:Nat},Bn (a++b) t=(Bn a t||Bn b t)
 |[],_,_=>rfl
 |x::a,b,t=>by simp only[Fi,Bn,Mb (a:=a),Bool.or_assoc]
theorem Rh:∀ {a b:List Oper},Cy (a++b)=Cy a++Cy b
 |[],_=>rfl
 |o::a,b=>by simp only[Fi,Cy];split<;>simp[Rh (a:=a)]
theorem Aue{j s} (h:T9 ops j=Aa s):gd ops.toArray env j=lk env s:=by
 unfold T9 at h;split at h
 ·rename_i o ho;rw[Ol]at ho;unfold gd;simp[ho,h]
 ·cases h
theorem Anq{kn o} (h:Zl ops kn st.env o.guard=true) (k:EnvOk ρ st.env env){a} (i:Has n a env):Region.wanted o (yielded ops.toArray a.tmps)=true:=by
 unfold Zl at h;split at h
 ·rename_i c;simp[Region.wanted,c]
 ·rename_i j b c;simp only[A9]at h;have h:=h.2;split at h
  ·rename_i s l;split at h
   ·rename_i g d;have e:=k.evB d;have f:gd ops.toArray env j=Aa (.bool g):=by rw[Aue l];exact e
    exact Cdi i f (by simpa using h) c
   ·cases h
  ·cases h
theorem Aho{c}:∀ {l:List Oper} {f:List Oper} {p:Oper} {x y:Operand} {rest:List Oper},Z7 c l=Aa (f,p,x,y,rest)->l=f++p::rest/\p.op=.pick (.tmp c) x y
 |[],_,_,_,_,_,h=>by cases h
 |o::l,f,p,x,y,rest,h=>by
  unfold Z7 at h;split at h
  ·rename_i t q s ho;cases k:Ay t c with
   |true=>rw[k]at h;cases h;cases Br k;exact⟨rfl,ho⟩
   |false=>rw[k]at h;simp only[cond_false,Di]at h;obtain⟨⟨a,b,c',d,e⟩,i,j⟩:=h;cases j;obtain⟨g,e2⟩:=Aho i;exact⟨by rw[g];rfl,e2⟩
  ·rw[Di]at h;obtain⟨⟨a,b,c',d,e⟩,i,j⟩:=h;cases j;obtain⟨g,e2⟩:=Aho i;exact⟨by rw[g];rfl,e2⟩
def Ow:List Oper->Env->Env
 |[],e=>e
 |o::r,e=>match o.dst with
  |some d=>Ow r ((d,undef)::e)
  |none=>Ow r e
theorem Ahq:∀ {a:List Oper} {b:List (Nat×Option SV)} {env:Env},EnvOk ρ b env->EnvOk ρ (F3 a b) (Ow a env)
 |[],_,_,h=>h
 |o::a,b,env,h=>by
  cases c:o.dst with
  |some d=>simp only[F3,Ow,c];exact Ahq (h.none _)
  |none=>simp only[F3,Ow,c];exact Ahq h
theorem Ahr{T good} (x:QT prog n ops.toArray T good){j b s} (A:T9 ops j=Aa s):∀ {f:List Oper} {F:List Nat} {env:Env} {u:Value} {w:World},(∀o∈f,good o)->Z9 n ops j b F f=true->(∀t,Bn F t=true->lk env t=Aa undef)->lk env s=Aa u->Wp b u=false->∀ {tail:List Oper},(∀w',Rel w w'->T tail (Ow f env) w')->T (f++tail) env w
 |[],_,_,_,w,_,_,_,_,_,_,h=>h w (Rel.refl w)
 |o::f,F,env,u,w,hg,h,hsk,hu,hub,tail,hT'=>by
  unfold Z9 at h;split at h
  ·rename_i k c d v K;simp only[A9]at h;obtain⟨G,L,H⟩:=h;have N:Wp b undef=false:=rfl
   have O:∀a,Has n a env->Region.wanted o (yielded ops.toArray a.tmps)=false:=λa I=>by
    simp only[Ha,A9]at G;rcases G with⟨q,M⟩|q
    ·cases Br q;have:c=b:=by simpa using M
     subst this;exact A1p I (by rw[Aue A];exact hu) hub v
    ·split at q
     ·rename_i s' D;exact A1p I (by rw[Aue D];exact hsk _ q) rfl v
     ·cases q
   have g:∀t,lk ((d,undef)::env) t=if d=t then Aa undef else lk env t:=λt=>by
    simp only[lk];by_cases e:d=t
    ·subst e;simp
    ·rw[Nl e];simp[e]
   refine x.s (hg _ (Bm ..)) K L O λS z=>?_
   have l:∀w',Rel S w'->T tail (Ow f ((d,undef)::env)) w':=λw' y=>by
    have e:Ow (o::f) env=Ow f ((d,undef)::env):=by simp[Ow,K]
    rw[<-e];exact hT' w' (z.trans y)
   by_cases e:d=s
   ·refine Ahr x A (u:=undef) (λo ho=>hg o (Bf _ ho)) H (λt i=>?_) (by rw[g,if_pos e]) rfl l;rw[g];by_cases p:d=t
    ·rw[if_pos p]
    ·rw[if_neg p];exact hsk t (by simp only[Bn,Ha]at i;rcases i with i|i;exact absurd (Br i) p;exact i)
   ·refine Ahr x A (u:=u) (λo ho=>hg o (Bf _ ho)) H (λt i=>?_) (by rw[g,if_neg e];exact hu) hub l;rw[g];by_cases p:d=t
    ·rw[if_pos p]
    ·rw[if_neg p];exact hsk t (by simp only[Bn,Ha]at i;rcases i with i|i;exact absurd (Br i) p;exact i)
  ·cases h
theorem Po:∀ {a:List Oper} {e:List (Nat×Option SV)} {t:Nat},Bn (Cy a) t=false->Bo (F3 a e) t=Bo e t
 |[],_,_,_=>rfl
 |o::a,e,t,h=>by
  unfold Cy at h;unfold F3;split at h
  ·rename_i d b;simp only[Bn,Il]at h;rw[Po h.2];simp[Bo,h.1]
  ·exact Po h
theorem Apz:∀ {a:List Oper} {e:List (Nat×Option SV)} {t:Nat} {sv:SV},Bo (F3 a e) t=Aa sv->Bn (Cy a) t=false/\Bo e t=Aa sv
 |[],_,_,_,h=>⟨rfl,h⟩
 |o::a,e,t,sv,h=>by
  unfold F3 at h;unfold Cy;split at h
  ·rename_i d g;obtain⟨f,b⟩:=Apz h;simp only[Bo]at b;cases c:Ay d t with
   |true=>rw[c]at b;cases b
   |false=>rw[c]at b;exact⟨by simp[Bn,c,f],b⟩
  ·exact Apz h
theorem Sat.join (b:Sat B Af ρ st env w){seg st' ρ' env' w'} (c:Sat B Af ρ' st' env' w') (hx:Ext ρ ρ') (k:Rel w w') (j:∀t sv,Bo (F3 seg st.env) t=Aa sv->∃a,Bo st'.env t=Aa a/\∀v,a.Den ρ' v->sv.Den ρ' v):
  Sat B Af ρ {st with env:=F3 seg st.env} env' w':=by
 obtain⟨m,rs,f,g,h,i⟩:=(b.rel k).mem;refine⟨b.len,λt sv d=>?_,m,rs,f,g,h,i⟩;obtain⟨a,e,e2⟩:=j t sv d;obtain⟨v,l,o⟩:=c.env t a e;obtain⟨u,_,u2⟩:=b.env t sv (Apz d).2;exact⟨v,l,(e2 v o).back hx u2⟩
theorem Ay1 {p:Oper} {s d:Nat}{x y g v} (f:p.op=.pick (.tmp s) x y) (e:p.dst=Aa d) (c:ev env (.tmp s)=Aa (.bool g)) (h:ev env (bif g then x else y)=Aa (.bool v)){a} (l:Has n a env):QR prog p a w (.bool v):=by
 obtain⟨i,o,ty,pos,af,j⟩:=p;simp only at f e;subst f e;refine⟨λb _=>?_⟩;unfold Oper.wp
 have k:Runs prog n env b ⟨Aa d,.pick (.tmp s) x y,ty,pos,af,j⟩ (.bool v) b:=by
  cases g with
  |true=>exact B47 c h
  |false=>exact B46 c h
 rw[k a l];exact⟨Rel.refl b,rfl⟩
theorem EnvOk.lit (e:EnvOk ρ st.env env) {s:Nat}{g} (h:Go.Proofs.YtbbefmccoomfhaaGreatDoor.evB st.env (.tmp s)=Aa g):EnvOk ρ ((s,Aa (.v (.c (.b g))))::st.env) env:=λt sv a=>by
 simp only[Bo]at a;cases d:Ay s t with
 |true=>rw[d]at a;cases a;cases Br d;exact⟨_,e.evB h,rfl⟩
 |false=>rw[d]at a;exact e t sv a
theorem Avk{se} {s:Nat}{g} (h:evB se (.tmp s)=Aa g):Bo se s=Aa (.v (.c (.b g))):=by
 unfold evB at h;split at h
 ·rename_i x hx;cases h;unfold evC at hx;split at hx
  ·rename_i y a;cases hx;exact a
  ·cases hx
 ·cases h
theorem A1q{T good} (hT:QT prog n ops.toArray T good) (D:Sat B Af ρ st env w) {j s d:Nat}{b g v seg} {p:Oper}{x y tail run}
  (hj:T9 ops j=Aa s) (F:evB st.env (.tmp s)=Aa g) (hp:p.op=.pick (.tmp s) x y) (hd:p.dst=Aa d) (V:C1 d n=true) (W:Z9 n ops j b [] seg=true) (H:Bn (Cy seg) s=false) (S:∀o∈seg,good o) (O:good p)
  (hw:∀f,EnvOk ρ (F3 seg st.env) f->∀a,Has n a f->Region.wanted p (yielded ops.toArray a.tmps)=true) (h:Ah8 b run s st (F3 seg st.env) x y g=Aa v)
  (L:∀(g:Bool) (z:Operand) (tl:List Oper),run {st with env:=(s,Aa (.v (.c (.b g))))::st.env} (λst=>evB st.env z)=Aa v->Sat B Af ρ {st with env:=(s,Aa (.v (.c (.b g))))::st.env} env w->
   (∀k ρ' f w',evB k.env z=Aa v->Sat B Af ρ' k f w'->Ext ρ ρ'->(∀t,Bn (Cy seg) t=false->Bo k.env t=Bo ((s,Aa (.v (.c (.b g))))::st.env) t)->Rel w w'->T tl f w')->T (seg++tl) env w)
  (hk:∀f w',Rel w w'->Sat B Af ρ {st with env:=(d,Aa (.v (.c (.b v))))::F3 seg st.env} f w'->T tail f w'):T (seg++p::tail) env w:=by
 have G:=Avk F;have l:∀(f:Env) (w':World),Rel w w'->Sat B Af ρ {st with env:=F3 seg st.env} f w'->ev f (.tmp s)=Aa (.bool g)->ev f (bif g then x else y)=Aa (.bool v)->T (p::tail) f w':=λf w' hr i hc hv=>by refine hT.q O hd V (hw f i.env) (λa ha=>Ay1 hp hd hc hv ha) λw2 K=>hk _ w2 (hr.trans K) ?_;have:=(i.rel K).put (sv:=.v (.c (.b v))) (v:=.bool v) rfl d;exact this
 have A:∀z,z=(bif g then x else y)->run {st with env:=(s,Aa (.v (.c (.b g))))::st.env} (λst=>evB st.env z)=Aa v->T (seg++p::tail) env w:=λz hz h=>by
  refine L g z _ h ⟨D.len,D.env.lit F,D.mem⟩ λk ρ' f w' h1 N h3 h4 h5=>?_;have M:Bo k.env s=Aa (.v (.c (.b g))):=by rw[h4 s H];simp[Bo]
  have U:Sat B Af ρ {st with env:=F3 seg st.env} f w':=D.join N h3 h5 λt sv X=>by
   obtain⟨k1,k2⟩:=Apz X;by_cases e:s=t
   ·subst e;rw[G]at k2;cases k2;exact⟨_,M,λ_ h=>h⟩
   ·refine⟨sv,?_,λ_ h=>h⟩;rw[h4 t k1];simp only[Bo,Nl e];exact k2
  refine l f w' h5 U ?_ ?_
  ·obtain⟨u,Y,u2⟩:=N.env s _ M;cases u2;exact Y
  ·rw[<-hz];exact N.env.evB h1
 have skp:Wp b (.bool g)=false->evB (F3 seg st.env) (bif g then x else y)=Aa v->T (seg++p::tail) env w:=λhb h=>by
  refine Ahr hT hj S W (λt X=>by cases X) (D.env.evB F) hb λw' I=>?_;have i:Sat B Af ρ {st with env:=F3 seg st.env} (Ow seg env) w':=⟨D.len,Ahq D.env,(D.rel I).mem⟩;refine l _ w' I i ?_ (i.env.evB h);have:Bo (F3 seg st.env) s=Aa (.v (.c (.b g))):=by rw[Po H];exact G
  obtain⟨u,Y,u2⟩:=i.env s _ this;cases u2;exact Y
 unfold Ah8 at h;cases g<;>cases b
 ·exact A y rfl h
 ·exact skp rfl h
 ·exact skp rfl h
 ·exact A x rfl h
def StepOk (B:Dn) (Af:List Rd) (C:Es) (ops:List Oper) (T:List Oper->Env->World->Prop) (good:Oper->Prop) (E:(R:Type)->Oper->Ai->(Ai->Option R)->Option R):Prop:=
 ∀(R:Type) (o:Oper) (st:Ai) (K:Ai->Option R) (r:R) (ρ:List HV) (env:Env) (w:World) (rest:List Oper),good o->E R o st K=Aa r->Sat B Af ρ st env w->(∀a,Has C.n a env->Region.wanted o (yielded ops.toArray a.tmps)=true)->
  (∀b ρ' c w',K b=Aa r->Sat B Af ρ' b c w'->Ext ρ ρ'->Be st b->(∀t,Bn (Cy [o]) t=false->Bo b.env t=Bo st.env t)->Rel w w'->T rest c w')->T (o::rest) env w
theorem Bha (x:La Af C){T good} (z:QT prog C.n ops.toArray T good):StepOk B Af C ops T good (λ_ o st K=>Qr C o st K):=λR o st K r ρ env w rest D h F G y=>by obtain⟨d,sv,v,b,ρ',e,e2,i,j,k,l,p,s,u⟩:=Aca x F h;refine z.q D e e2 G (λa A=>u C.n a A) λw' f=>?_;refine y (b.put d sv) ρ' _ w' i ((k.rel f).put l d) j (Be.trans p ⟨Ef _,λc h _=>⟨c,h,.inl rfl⟩,[],rfl⟩) (λt g=>?_) f;simp only[Cy,e,Bn,Il]at g;simp only[Ai.put,Bo,g.1,cond_false,s]
theorem Ahe{E T good} (O:QT prog C.n ops.toArray T good) (N:StepOk B Af C ops T good E):∀f G l st R K r ρ env w tail,(∀o∈l,good o)->Z4 E C ops f G l st R K=Aa r->Sat B Af ρ st env w->
  (∀e ρ' c w',K e=Aa r->Sat B Af ρ' e c w'->Ext ρ ρ'->Be st e->(∀t,Bn (Cy l) t=false->Bo e.env t=Bo st.env t)->Rel w w'->T tail c w')->T (l++tail) env w
 |0,_,_,_,_,_,_,_,_,_,_,_,h,_,_=>by cases h
 |f+1,G,[],st,R,K,r,ρ,env,w,tail,_,h,hs,hK=>hK st ρ env w h hs (Ext.refl ρ) (Be.refl st) (λ_ _=>rfl) (Rel.refl w)
 |f+1,G,o::rest,st,R,K,r,ρ,env,w,tail,hg,h,hs,hK=>by
  unfold Z4 at h;cases Y:Zl ops G st.env o.guard with
  |true=>rw[Y]at h;simp only[cond_true]at h;refine N R o st _ r ρ env w (rest++tail) (hg o (Bm ..)) h hs (λa S=>Anq Y hs.env S) λe ρ' c w' e3 e5 e4 e7 e8 hr=>?_;refine Ahe O N f G rest e R K r ρ' c w' tail (λo ho=>hg o (Bf _ ho)) e3 e5 λH I k w2 k1 k2 k3 M k5 k6=>hK H I k w2 k1 k2 (e4.trans k3) (e7.trans M) (λt u=>?_) (hr.trans k6);rw[show Cy (o::rest)=Cy [o]++Cy rest from Rh (a:=[o]) (b:=rest),Mb,Il]at u;rw[k5 t u.2,e8 t u.1]
  |false=>
   rw[Y]at h;simp only[cond_false]at h;split at h
   ·cases h
   ·rename_i j b b6;split at h
    ·cases h
    ·rename_i s hj;split at h
     ·rename_i g A p x y i U L;obtain⟨W,hp⟩:=Aho L;split at h
      ·cases h
      ·rename_i d hd;have hc:=(bt h).1;replace h:=(bt h).2;simp only[A9]at hc;obtain⟨⟨⟨a2,D⟩,X⟩,a0⟩:=hc;have D:Bn (Cy A) s=false:=by simpa using D
       obtain⟨v,hv,h⟩:=A1 h;rw[W];have q:∀o∈A++p::i,good o:=by rw[<-W];exact hg
       rw[Ci];refine A1q (tail:=i++tail) O hs hj U hp hd X a2 D (λo ho=>q o (Hv _ ho)) (q p (F5 _ (Bm ..))) (λc he a S=>Anq (st:= {st with env:=F3 A st.env}) a0 he S) hv (λg' z tl hz F V=>?_) λc w' hr F=>?_
       ·exact Ahe O N f ((j,b)::G) A _ Bool _ v ρ env w tl (λo ho=>q o (Hv _ ho)) hz F λe ρ' c w' q1 q2 q3 q4 q5 q6=>V e ρ' c w' q1 q2 q3 q5 q6
       ·refine Ahe O N f G i _ R K r ρ c w' tail (λo ho=>q o (F5 _ (Bf _ ho))) h F λH I k w2 k1 k2 k3 M k5 k6=>hK H I k w2 k1 k2 k3 ⟨M.Ak,M.own,M.Bg⟩ (λt u=>?_) (hr.trans k6);rw[W,Rh,Mb]at u;simp only[Cy,hd,Bn,Il]at u;rw[k5 t u.2.2];simp only[Bo,u.2.1,cond_false];exact Po u.1
     ·cases h
end
end
end
end Go.Proofs.YtbbefmccoomfhaaGreatDoor
