/- Part 2 of the proof: lemmas. No condition. -/
import Derived.Laws.BytesString
import Derived.Laws.IdiomStrings
import Derived.WideLaws
import Derived.Great.FillDense
import Derived.Test.YtcdecpdpmpfbnaaGreatDoorZ1
open Option renaming bind->B5h,bind_some->B5i,map_eq_some_iff->B5s,some->B65,isSome_none->B71,map_some->B77,map_none->B8w
open List renaming mem_cons_of_mem->B5j,length_append->B5m,mem_cons_self->B5n,length_cons->B5q,append_assoc->B5r,mem_cons->B5t,perm_middle->B5u,length_take->B5x,length_drop->B50,eq_nil_of_length_eq_zero->B53,mem_append_right->B54,getElem?_eq_some_iff->B55,perm_append_comm->B56,cons_append->B6a,all_eq_true->B6b,mem_append_left->B6f,mem_append->B6g,flatMap_cons->B6h,foldl_cons->B6j,replicate->B6l,take_length->B6m,append_nil->B6o,getElem?_append_left->B6p,map_cons->B6r,take_append_drop->B6t,length_set->B6v,length_map->B6x,getElem?_drop->B6y,flatMap_append->B60,nil_append->B62,getElem?_append_right->B64,getElem?_take->B68,perm_append_comm_assoc->B7l,drop_drop->B7o,size_toArray->B7p,all_cons->B7s,drop_zero->B7v,mem_map->B75,toArray->B8g,foldl_nil->B8i,getElem?_map->B8q,drop_take->B84,getElem?_toArray->B9c,take_take->B9k,tail_cons->B9l,map_map->B9u,zipIdx_cons->Ca1,getElem?_append->Cbb,set_set->Cbf,mapM_cons->Cbi,map_set->Cbu
open Nat renaming eq_of_beq_eq_true->B5k,mul_le_mul_right->B5v,beq->B5w,zero_le->B6c,add_assoc->B6d,le_refl->B6i,lt_of_lt_of_le->B6w,add_mul->B61,blt->B63,le_of_ble_eq_true->B7e,sub_mul->B7g,ble->B7m,zero_mul->B7n,min_eq_left->B7q,zero_add->B7x,mul_le_mul->B70,le_succ->B8b,lt_or_ge->B8u,add_sub_cancel_left->B82,ble_eq_true_of_le->B9a,add_comm->B9b,one_mul->B9f,add_zero->B9v,lt_irrefl->B91,sub_zero->Cad,le_trans->Caf,mul_one->Cbg
open Bool renaming and_eq_true->B5l,or_eq_false_iff->B6k,false_eq_true->B6q,or_eq_true->B6s,true_and->B7t
open UInt8 renaming ofNat->Cac,toNat_ofNat'->Cap
open Array renaming length_toList->B5z,getElem?_toList->B7b,size_append->B79,range->B9z,ext_getElem?->Cas,toList_zipIdx->Cbl,foldl_toList->Cbm,ext'->Cbx
open Sum renaming elim->B59
namespace Go.Proofs.YtcdecpdpmpfbnaaGreatDoor
noncomputable section
section
open Go.RowKit
section
variable {R:Type}
def CT.ty:CT->Ty
 |.sc n=>.b n
 |.row t=>.sl t
 |.ro t=>.sl t
 |.sha t=>.sl t
 |.nl=>.b 0
def CT.isNl:CT->Bool
 |.nl=>true
 |_=>false
def Om:List CT->List Ty
 |[]=>[]
 |c::cs=>bif c.isNl then Om cs else c.ty::Om cs
def VK.tys:VK->List Ty
 |.slot _ c=>[c.ty]
 |.inp _ t=>[.sl t]
 |.box _ _ cs=>Om cs
def Vq:List VK->List Ty
 |[]=>[]
 |v::r=>v.tys++Vq r
def T4 (c:CT) (x:Cell) (st:SSt):Option (Leaf×SSt):=match c with
 |.sc n=>(Ym (.b n) x).map λl=>(l,st)
 |.row t=>(Abu (.sl t) x st.own).map λp=>(p.1, {st with own:=p.2})
 |.ro t=>match x with
  |.nil=>some (.sl t [],st)
  |.sl h=>match F4 h st.own with
   |some p=>some (.sl p.1.t p.1.L, {st with own:=p.2})
   |none=>match Ir h st.own with
    |some p=>some (.sl p.1.t p.1.L, {st with own:=p.2})
    |none=>(Jq h st.rds).map λc=>(.sl c.t c.L,st)
  |_=>none
 |.sha t=>match x with
  |.nil=>some (.sl t [],st)
  |.sl h=>match Ir h st.own with
   |some p=>some (.sl p.1.t p.1.L, {st with own:=p.2})
   |none=>(F4 h st.own).map λp=>(.sl p.1.t p.1.L, {st with own:=p.2})
  |_=>none
 |.nl=>none
def Aax:List CT->List Cell->SSt->Option (List Leaf×SSt)
 |[],[],st=>some ([],st)
 |c::cs,x::xs,st=>bif c.isNl then(match x with
   |.nil=>Aax cs xs st
   |_=>none)else B5h (T4 c x st) λp=>B5h (Aax cs xs p.2) λq=>some (p.1::q.1,q.2)
 |_,_,_=>none
def Abg (e:List (Nat×Option SV)) (s k:Nat):Option Nat:=match Au e s with
 |some (.v (.c (.ptr h o)))=>bif B5w k 0&&B5w o 0 then some h else none
 |some (.v (.c (.fn _ caps)))=>match k with
  |0=>none
  |k+1=>match nth caps k with
   |some (h,o)=>bif B5w o 0 then some h else none
   |none=>none
 |_=>none
def Ib (e:List (Nat×Option SV)):List VK->SSt->Option (List Leaf×SSt)
 |[],st=>some ([],st)
 |.slot s c::r,st=>match Au st.env s with
  |some (.v (.c x))=>B5h (T4 c x st) λp=>B5h (Ib e r p.2) λq=>some (p.1::q.1,q.2)
  |_=>none
 |.inp s _::r,st=>match Au e s with
  |some (.v (.c (.sl h)))=>B5h (F4 h st.own) λp=>B5h (Ib e r {st with own:=p.2}) λq=>some (.sl p.1.t p.1.L::q.1,q.2)
  |_=>none
 |.box s k cs::r,st=>match Abg e s k with
  |some h=>B5h (Lq h st.own) λp=>B5h (Aax cs p.1 {st with own:=p.2}) λq=>B5h (Ib e r q.2) λz=>some (q.1++z.1,z.2)
  |none=>none
def Cx (c:CT) (l:Leaf) (st:SSt):Cell×SSt:=match l with
 |.i n=>(.i .i64 n,st)
 |.b n=>(.b n,st)
 |.s n=>(.s n,st)
 |.y n=>(.y n,st)
 |.sl t L=>match c with
  |.ro _=>(.sl st.nxt, {st with rds:=⟨st.nxt,t,L,.no⟩::st.rds,nxt:=st.nxt+1})
  |.sha _=>(.sl st.nxt, {st with own:=.sha st.nxt st.nxt t L::st.own,nxt:=st.nxt+1})
  |_=>(.sl st.nxt, {st with own:=.row st.nxt st.nxt t L []::st.own,nxt:=st.nxt+1})
def D2:List CT->List Leaf->SSt->List Cell×SSt
 |[],_,st=>([],st)
 |c::cs,ls,st=>bif c.isNl then(let q:=D2 cs ls st;(.nil::q.1,q.2))else(match ls with
   |l::ls=>let p:=Cx c l st;let q:=D2 cs ls p.2;(p.1::q.1,q.2)
   |[]=>([],st))
def Gw (e:List (Nat×Option SV)):List VK->List Leaf->SSt->SSt
 |.slot s c::r,l::ls,st=>let p:=Cx c l st;Gw e r ls (p.2.put s (.v (.c p.1)))
 |.inp s _::r,l::ls,st=>match Au e s,l with
  |some (.v (.c (.sl h))),.sl t L=>Gw e r ls {st with own:=.row h st.nxt t L []::st.own,nxt:=st.nxt+1}
  |_,_=>st
 |.box s k cs::r,ls,st=>match Abg e s k with
  |some h=>let p:=D2 cs (ls.take (Om cs).length) st;Gw e r (ls.drop (Om cs).length) {p.2 with own:=.box h p.2.nxt p.1::p.2.own,nxt:=p.2.nxt+1}
  |_=>st
 |_,_,st=>st
def Vc:List Leaf->List (List Leaf)
 |[]=>[]
 |l::r=>[l]::Vc r
def On:List (List Leaf)->List Leaf
 |[]=>[]
 |l::r=>l++On r
abbrev VT (v:List VK):Type:=Tup (Vq v)
def Ee (v:List VK) (x:VT v) (st:SSt):SSt:=Gw st.env v (On (Iu (Vq v) x)) st
def Bd:List VK->List Nat
 |[]=>[]
 |.slot s _::r=>s::Bd r
 |_::r=>Bd r
def Acn (e:List (Nat×Option SV)):List (Nat×Option SV)->Bool
 |[]=>true
 |(k,some _)::r=>(match Au e k with
  |some _=>true
  |none=>false)&&Acn e r
 |_::r=>Acn e r
def Oh (w:List Nat):List Nat->Bool
 |[]=>true
 |a::l=>An w a&&Oh w l
def Ef (v:List VK) (base:SSt) (st:SSt):Option (VT v):=B5h (Ib base.env v st) λp=>bif J7 base.own p.2.own&&Acn st.env base.env then Sp (Vq v) (Vc p.1)else none
def wr:Code->List Nat
 |.region _ b _=>Bj b.toList
 |.seq a c=>wr a++wr c
 |.cond _ a c=>wr a++wr c
 |.block _ c=>wr c
 |.loop c=>wr c
 |_=>[]
def Bq (w:List Nat):List (Nat×Option SV)->List (Nat×Option SV)
 |[]=>[]
 |(k,v)::r=>bif An w k then Bq w r else(k,v)::Bq w r
def Apm (k:Nat):List Hint->Option Hint
 |[]=>none
 |h::r=>bif B5w h.key k then some h else Apm k r
def Aa5:Code->Option (Nat×Nat×Nat×Nat)
 |.seq (.region _ ops false) (.seq (.cond (.tmp c) .skip (.exit e)) _)=>match ops.toList with
  |[⟨some d,.binOp .lss _ (.tmp k) (.tmp n) _,_,_,_,none⟩]=>bif B5w c d then some (k,n,e,d)else none
  |_=>none
 |_=>none
def Qw:Code->Option Nat
 |.region id _ _=>some id
 |.seq a c=>match Qw a with
  |some k=>some k
  |none=>Qw c
 |.cond _ a c=>match Qw a with
  |some k=>some k
  |none=>Qw c
 |.block _ c=>Qw c
 |.loop c=>Qw c
 |_=>none
def Bqo (a c:Code):Nat:=match Qw a with
 |some k=>100000+k
 |none=>match Qw c with
  |some k=>100000+k
  |none=>100000
def Tz (a k h:Nat) (st:SSt):SSt:= {st with env:=(a,some (.v (.c (.ix st.nxt k h))))::st.env,nxt:=st.nxt+1}
def Abc (u:Nat):Option Cell->Bool
 |some (.sx v _ _)=>B5w u v
 |_=>false
def To {A:Type} (f:SSt->Option A):Option Nat->SSt->Option A
 |none,st=>f st
 |some _,_=>none
def Pc {A:Type} (b:Nat) (go out:SSt->Option A):Option Nat->SSt->Option A
 |none,st=>go st
 |some j,st=>bif B5w j b then out st else none
def Azg (i:Nat) (K:Option Nat->SSt->Option R):Option Nat->SSt->Option R
 |none,st=>K none st
 |some j,st=>bif B5w j i then K none st else K (some j) st
def Bh2 (f:SSt->Option R) (K:Option Nat->SSt->Option R):Option Nat->SSt->Option R
 |none,st=>f st
 |some i,st=>K (some i) st
def run (C:Ctx) {f:Type} (Bp:SSt->Option f):Code->Nat->SSt-> {R:Type}->(f->Option R)->(Option Nat->SSt->Option R)->Option R
 |.skip,_,st,_,_,K=>K none st
 |.region _ ops draw,_,st,_,_,K=>Asr C ops.toList draw st (K none)
 |.seq a c,b,st,_,rt,K=>run C Bp a b st rt (Bh2 (λst=>run C Bp c b st rt K) K)
 |.cond o a c,b,st,_,rt,K=>match evB st.env o with
  |none=>none
  |some t=>match Apm (Bqo a c) C.hints with
   |none=>bif t then run C Bp a b st rt K else run C Bp c b st rt K
   |some h=>let g:=Bq (Bd h.vary++(wr a++wr c)) st.env
    match Ib g h.vary st with
    |none=>none
    |some p=>
     let base:SSt:= {p.2 with env:=g}
     bif !(Gi st&&Oh (wr a++wr c) (Bd h.vary))then none else bif h.esc then
      B5h (bif t then run C Bp a b st (R:=Sum (VT h.vary) f) (λr=>some (.inr r)) (To λst=>(Ef h.vary base st).map .inl)
       else run C Bp c b st (R:=Sum (VT h.vary) f) (λr=>some (.inr r)) (To λst=>(Ef h.vary base st).map .inl)) λy=>B59 (λy=>K none (Ee h.vary y base)) rt y
     else
      B5h (bif t then run C Bp a b st (R:=VT h.vary) (λ_=>none) (To λst=>Ef h.vary base st)
       else run C Bp c b st (R:=VT h.vary) (λ_=>none) (To λst=>Ef h.vary base st)) λy=>K none (Ee h.vary y base)
 |.block i c,_,st,_,rt,K=>run C Bp c i st rt (Azg i K)
 |.loop c,b,st,_,rt,K=>match Apm b C.hints with
  |none=>none
  |some h=>let g:=Bq (Bd h.vary++wr c) st.env
   match Ib g h.vary st with
   |none=>none
   |some p=>
    let base:SSt:= {p.2 with env:=g}
    bif !Oh (wr c) (Bd h.vary)then none else match Sp (Vq h.vary) (Vc p.1)with
    |none=>none
    |some x0=>match h.each with
     |some (ks,ns)=>match Aa5 c,evC base.env (.tmp ns),evC st.env (.tmp ks)with
      |some (k',n',e,d),some (.ln hh n),some (.i .i64 0)=>bif (B5w ks k'&&B5w ns n')&&(B5w e b&&(B63 d C.n&&!An (Bd h.vary) d))&&(An (wr c) d&&An (wr c) ks)then
        (bif h.esc then
         B5h (Ai (λk (x:VT h.vary)=>let s:=Ee h.vary x base
          bif !Gi s then none else run C Bp c b (Tz ks k hh s) (R:=Lr (VT h.vary) (Sum (VT h.vary) f)) (λr=>some (.out (.inr r))) (Pc b (λst=>bif Abc s.nxt (evC st.env (.tmp ks))then(Ef h.vary base st).map .go else none) (λst=>(Ef h.vary base st).map λy=>.out (.inl y))))
          (λx=>(.inl x:Sum (VT h.vary) f)) n 0 x0) λy=>B59 (λy=>K (some b) (Ee h.vary y base)) rt y
        else
         B5h (Ai (λk (x:VT h.vary)=>let s:=Ee h.vary x base
          bif !Gi s then none else run C Bp c b (Tz ks k hh s) (R:=Lr (VT h.vary) (VT h.vary)) (λ_=>none) (Pc b (λst=>bif Abc s.nxt (evC st.env (.tmp ks))then(Ef h.vary base st).map .go else none) (λst=>(Ef h.vary base st).map .out)))
          (λx=>x) n 0 x0) λy=>K (some b) (Ee h.vary y base))
        else none
      |_,_,_=>none
     |none=>bif h.esc then
       B5h (Bc (λ(x:VT h.vary)=>bif !Gi (Ee h.vary x base)then none else run C Bp c b (Ee h.vary x base) (R:=Lr (VT h.vary) (Sum (VT h.vary) f)) (λr=>some (.out (.inr r))) (Pc b (λst=>(Ef h.vary base st).map .go) (λst=>(Ef h.vary base st).map λy=>.out (.inl y)))) x0)
        λy=>B59 (λy=>K (some b) (Ee h.vary y base)) rt y
      else
       B5h (Bc (λ(x:VT h.vary)=>bif !Gi (Ee h.vary x base)then none else run C Bp c b (Ee h.vary x base) (R:=Lr (VT h.vary) (VT h.vary)) (λ_=>none) (Pc b (λst=>(Ef h.vary base st).map .go) (λst=>(Ef h.vary base st).map .out))) x0)
        λy=>K (some b) (Ee h.vary y base)
 |.exit i,_,st,_,_,K=>K (some i) st
 |.ret,_,st,_,rt,_=>B5h (Bp st) rt
 |_,_,_,_,_,_=>none
def Ve:Nat->List V1->List (Nat×Option SV)
 |_,[]=>[]
 |k,v::r=>(k,some (.v v))::Ve (k+1) r
def R9 (st:SSt):List ResultVar->Option (List V1)
 |[]=>some []
 |.tmp t::r=>B5h (ev1 st.env (.tmp t)) λv=>B5h (R9 st r) λvs=>some (v::vs)
 |.cell a t::r=>match evC st.env (.tmp a),F6 t with
  |some (.ptr h 0),some ti=>B5h (Tg h st.own) λcs=>bif B5w cs.length ti.size then B5h (Abh ti cs 0) λv=>B5h (R9 st r) λvs=>some (v::vs)else none
  |_,_=>none
def Agi (e:List (Nat×Option SV)) (rv:List ResultVar) (K:SV->SSt->Option R) (st:SSt):Option R:=B5h (R9 st rv) λvs=>K (Sl vs) {st with env:=e}
def Uc (d:FuncId) (C:Ctx) (rv:List ResultVar) (a:Code) (b:Inl):Inl:=λ_ f vs st K=>
 bif B5w f d then(bif B7m vs.length C.n then run C (λc=>B5h (R9 c rv) λus=>some (us,c)) a 0 {st with env:=Ve 0 vs} (λp=>K (Sl p.1) {p.2 with env:=st.env}) (To (Agi st.env rv K))else none)else b _ f vs st K
structure Ini where
 vs:List V1
 caps:List (Nat×Nat)
 bx:List (Nat×Nat×BM×Ty)
 st:SSt
def Gy:(ps:List PK)->PArgs ps->SSt->Ini
 |[],_,st=>⟨[],[],[],st⟩
 |.val own t::r,a,st=>let p:=Ay own (A3 t a.1) st;let z:=Gy r a.2 p.2;⟨mkV t p.1::z.vs,z.caps,z.bx,z.st⟩
 |.box m t::r,a,st=>let p:=Ay m.isOw (A3 t a.1) st;let h:=p.2.nxt;let z:=Gy r a.2 {p.2 with own:=.box h h p.1::p.2.own,nxt:=h+1};⟨.c (.ptr h 0)::z.vs,z.caps,(h,h,m,t)::z.bx,z.st⟩
 |.eat t::r,a,st=>let p:=Ay true (A3 t a.1) st;let h:=p.2.nxt;let z:=Gy r a.2 {p.2 with own:=.box h h p.1::p.2.own,nxt:=h+1};⟨.c (.ptr h 0)::z.vs,z.caps,z.bx,z.st⟩
 |.lit t::r,a,st=>let p:=Ay true (A3 t a.1) st;let h:=p.2.nxt;let z:=Gy r a.2 {p.2 with own:=.box h h p.1::p.2.own,nxt:=h+1};⟨.c (.lt h)::z.vs,z.caps,z.bx,z.st⟩
 |.fn f n::r,a,st=>let z:=Gy r a st;⟨.c (.fn f (z.caps.drop (z.caps.length-n)))::z.vs,z.caps.take (z.caps.length-n),z.bx,z.st⟩
 |.cap m t::r,a,st=>let p:=Ay m.isOw (A3 t a.1) st;let h:=p.2.nxt;let z:=Gy r a.2 {p.2 with own:=.box h h p.1::p.2.own,nxt:=h+1};⟨z.vs,(h,0)::z.caps,(h,h,m,t)::z.bx,z.st⟩
 |.len t::r,a,st=>let h:=st.nxt;let z:=Gy r a.2 {st with own:=.row h h t a.1 []::st.own,nxt:=h+1};⟨.c (.sl h)::z.vs,z.caps,(h,h,.le,.sl t)::z.bx,z.st⟩
def Vn:List RK->List V1->List Chunk->Option ((List (List Leaf)×List (List Cell))×List Chunk)
 |[],[],own=>some (([],[]),own)
 |k::ks,v::vs,own=>bif k.bx then(match v with
   |.c (.ptr h 0)=>B5h (Dw h own) λb=>bif k.own then B5h (G0 (Fg k.t) b.1.2 b.2) λp=>B5h (Vn ks vs p.2) λq=>some ((p.1::q.1.1,q.1.2),q.2)
     else B5h (Vn ks vs b.2) λq=>some ((q.1.1,b.1.2::q.1.2),q.2)
   |_=>none)
  else bif k.own then B5h (Tk k.t v) λcs=>B5h (G0 (Fg k.t) cs own) λp=>B5h (Vn ks vs p.2) λq=>some ((p.1::q.1.1,q.1.2),q.2)
  else B5h (Tk k.t v) λcs=>B5h (Vn ks vs own) λq=>some ((q.1.1,cs::q.1.2),q.2)
 |_,_,_=>none
def Oj:List (Nat×Nat×BM×Ty)->List Chunk->Option ((List (List Leaf)×List (List Cell))×List Chunk)
 |[],own=>some (([],[]),own)
 |(h,_,.ow,t)::r,own=>B5h (Dw h own) λb=>B5h (G0 (Fg t) b.1.2 b.2) λp=>B5h (Oj r p.2) λq=>some ((p.1::q.1.1,q.1.2),q.2)
 |(h,_,.rd,_)::r,own=>B5h (Dw h own) λb=>B5h (Oj r b.2) λq=>some ((q.1.1,b.1.2::q.1.2),q.2)
 |(h,g,.lo,_)::r,own=>B5h (Dw h own) λb=>bif B5w b.1.1 g then Oj r b.2 else none
 |(h,_,.le,_)::r,own=>B5h (F4 h own) λp=>B5h (Oj r p.2) λq=>some (([.sl p.1.t p.1.L]::q.1.1,q.1.2),q.2)
def N8 (st:SSt):List (Nat×Nat×BM×Ty)->List (List Leaf)->List (List Cell)->Option (List (List Leaf))
 |[],ls,_=>some ls
 |(_,_,.ow,_)::r,ls,cs=>(match ls with
   |l::ls=>B5h (N8 st r ls cs) λq=>some (l::q)
   |[]=>none)
 |(_,_,.le,_)::r,ls,cs=>(match ls with
   |l::ls=>B5h (N8 st r ls cs) λq=>some (l::q)
   |[]=>none)
 |(_,_,.rd,t)::r,ls,cs=>(match cs with
   |c::cs=>B5h (J6 st (Fg t) c) λl=>B5h (N8 st r ls cs) λq=>some (l::q)
   |[]=>none)
 |(_,_,.lo,_)::r,ls,cs=>N8 st r ls cs
def R8 (st:SSt):List RK->List (List Leaf)->List (List Cell)->Option (List (List Leaf))
 |[],ls,_=>some ls
 |k::ks,ls,cs=>bif k.own then(match ls with
   |l::ls=>B5h (R8 st ks ls cs) λq=>some (l::q)
   |[]=>none)else(match cs with
   |c::cs=>B5h (J6 st (Fg k.t) c) λl=>B5h (R8 st ks ls cs) λq=>some (l::q)
   |[]=>none)
def Agj (rv:List ResultVar) (ps:List PK) (rs:List RK) (a:List (Nat×Nat×BM×Ty)) (st:SSt):Option (PRes ps rs):=
 B5h (R9 st rv) λvs=>B5h (Vn rs vs st.own) λp=>B5h (Oj a p.2) λq=>B5h (R8 {st with own:=q.2} rs p.1.1 p.1.2) λl=>B5h (N8 {st with own:=q.2} a q.1.1 q.1.2) λo=>Sp _ (l++o)
def Aiw (C:Ctx) (rv:List ResultVar) (b:Code) (ps:List PK) (rs:List RK) (a:PArgs ps):Option (PRes ps rs):=
 let z:=Gy ps a ⟨[],[],[],0⟩
 bif !Gi z.st then none else run C (Agj rv ps rs z.bx) b 0 {z.st with env:=Ve 0 z.vs} some (To (Agj rv ps rs z.bx))
end
end
section
open Go.RowKit
def All2 {α β:Type} (R:α->β->Prop):List α->List β->Prop
 |[],[]=>True
 |a::l,b::m=>R a b/\All2 R l m
 |_,_=>False
section
variable {α β:Type} {R S:α->β->Prop}
theorem All2.mono (h:∀a b,R a b->S a b):∀ {l:List α} {m:List β},All2 R l m->All2 S l m
 |[],[],_=>trivial
 |_::_,_::_,⟨h1,h2⟩=>⟨h _ _ h1,All2.mono h h2⟩
 |[],_::_,h=>h.elim
 |_::_,[],h=>h.elim
theorem All2.len:∀ {l:List α} {m:List β},All2 R l m->l.length=m.length
 |[],[],_=>rfl
 |_::_,_::_,⟨_,h2⟩=>by simp[All2.len h2]
 |[],_::_,h=>h.elim
 |_::_,[],h=>h.elim
theorem All2.append:∀ {l:List α} {m:List β} {l':List α} {m':List β},All2 R l m->All2 R l' m'->All2 R (l++l') (m++m')
 |[],[],_,_,_,h=>h
 |_::_,_::_,_,_,⟨h1,h2⟩,h=>⟨h1,All2.append h2 h⟩
 |[],_::_,_,_,h,_=>h.elim
 |_::_,[],_,_,h,_=>h.elim
theorem All2.take:∀(k:Nat) {l:List α} {m:List β},All2 R l m->All2 R (l.take k) (m.take k)
 |0,_,_,_=>by simp[All2]
 |k+1,[],[],_=>trivial
 |k+1,_::_,_::_,⟨h1,h2⟩=>⟨h1,All2.take k h2⟩
 |_+1,[],_::_,h=>h.elim
 |_+1,_::_,[],h=>h.elim
theorem All2.drop:∀(k:Nat) {l:List α} {m:List β},All2 R l m->All2 R (l.drop k) (m.drop k)
 |0,_,_,h=>by simpa using h
 |k+1,[],[],_=>trivial
 |k+1,_::_,_::_,⟨_,h2⟩=>by simpa using All2.drop k h2
 |_+1,[],_::_,h=>h.elim
 |_+1,_::_,[],h=>h.elim
theorem All2.nth:∀ {l:List α} {m:List β} {k:Nat} {a:α},All2 R l m->Go.Proofs.YtcdecpdpmpfbnaaGreatDoor.nth l k=some a->∃b,m[k]?=some b/\R a b
 |_::_,_::_,0,_,⟨h1,_⟩,h=>by cases h;exact⟨_,rfl,h1⟩
 |_::_,_::_,k+1,_,⟨_,h2⟩,h=>by simpa using All2.nth h2 h
 |[],[],_,_,_,h=>by cases h
 |[],_::_,_,_,h,_=>h.elim
 |_::_,[],_,_,h,_=>h.elim
theorem Jv:∀ {l:List α} {k:Nat},Go.Proofs.YtcdecpdpmpfbnaaGreatDoor.nth l k=l[k]?
 |[],_=>rfl
 |_::_,0=>rfl
 |_::_,k+1=>by simpa [Go.Proofs.YtcdecpdpmpfbnaaGreatDoor.nth]using Jv
end
def Ext (ρ ρ':List HV):Prop:=∃x,ρ'=ρ++x
theorem Ext.refl ρ:Ext ρ ρ:=⟨[],by simp⟩
theorem Ext.one ρ x:Ext ρ (ρ++[x]):=⟨[x],rfl⟩
theorem Ext.trans{a b c} (h:Ext a b) (k:Ext b c):Ext a c:=by obtain⟨x,rfl⟩:=h;obtain⟨y,rfl⟩:=k;exact⟨x++y,by simp⟩
theorem Ext.get{ρ ρ'} (h:Ext ρ ρ') {k:Nat}{x} (a:ρ[k]?=some x):ρ'[k]?=some x:=by obtain⟨y,rfl⟩:=h;have:=(B55.1 a).1;rw[B6p this,a]
theorem Ext.back{ρ ρ'} (h:Ext ρ ρ') {k:Nat}{x y} (b:ρ'[k]?=some x) (a:ρ[k]?=some y):ρ[k]?=some x:=by rw[a,<-h.get a,b]
theorem Dp ρ (x:HV):(ρ++[x])[ρ.length]?=some x:=by simp
def CapIs (ρ:List HV) (p:Nat×Nat) (u:Value):Prop:=∃b,ρ[p.1]?=some (.box b)/\u=pt b p.2
def Cell.Den (ρ:List HV):Cell->Value->Prop
 |.i k x,z=>z=.int k x
 |.y x,z=>z=.int .u8 (x.toNat:Int)
 |.b x,z=>z=.bool x
 |.s x,z=>z=.string x
 |.sl h,z=>∃q:Sv,ρ[h]?=some (.row q)/\z=q.v
 |.nil,z=>z=.slice none 0 0
 |.ptr h o,z=>∃x,ρ[h]?=some (.box x)/\z=pt x o
 |.ep h k m j,z=>∃q:Sv,ρ[h]?=some (.row q)/\z=.pointer (some (Ch q.v (m*k+j)))/\m<q.n/\∃a o,q.p=some ⟨a,o,none⟩
 |.ix u k h,z=>z=iv (k:Int)/\ρ[u]?=some (.num k)/\∃q:Sv,ρ[h]?=some (.row q)/\k<q.n/\q.n<=9223372036854775807
 |.sx u k _,z=>z=iv ((k:Int)+1)/\ρ[u]?=some (.num k)
 |.ln h x,z=>z=iv (x:Int)/\∃q:Sv,ρ[h]?=some (.row q)/\q.n=x/\x<=9223372036854775807
 |.fn f caps,z=>∃vs,z=.func (.func f) #[] (B8g vs)/\All2 (CapIs ρ) caps vs
 |.lt h,z=>∃x,ρ[h]?=some (.box x)/\z=Sv.v ⟨some ⟨x,0,none⟩,1,1⟩
 |.er ok,z=>(ok=true/\z=.nilIface)\/(ok=false/\∃t u,z=.iface t u)
 |.raw u,z=>z=u/\u.oneCell'=true
def V1.Den (ρ:List HV):V1->Value->Prop
 |.c x,z=>x.Den ρ z
 |.a l,z=>∃vs:List Value,All2 (Cell.Den ρ) l vs/\z=.agg vs.toArray
def SV.Den (ρ:List HV):SV->Value->Prop
 |.v x,z=>x.Den ρ z
 |.t l,z=>∃vs:List Value,All2 (V1.Den ρ) l vs/\z=.tuple vs.toArray
section
variable {ρ ρ':List HV}
theorem CapIs.mono (hx:Ext ρ ρ'){p u} (h:CapIs ρ p u):CapIs ρ' p u:=by obtain⟨b,a,c⟩:=h;exact⟨b,hx.get a,c⟩
theorem Cell.Den.mono (hx:Ext ρ ρ') {c:Cell}{v} (h:c.Den ρ v):c.Den ρ' v:=by
 cases c with
 |sl k=>obtain⟨s,a,b⟩:=h;exact⟨s,hx.get a,b⟩
 |ptr k o=>obtain⟨s,a,b⟩:=h;exact⟨s,hx.get a,b⟩
 |lt k=>obtain⟨s,a,b⟩:=h;exact⟨s,hx.get a,b⟩
 |ep k q i j=>obtain⟨s,a,b⟩:=h;exact⟨s,hx.get a,b⟩
 |ix u k q=>obtain⟨d,a,s,b,e⟩:=h;exact⟨d,hx.get a,s,hx.get b,e⟩
 |sx u k q=>obtain⟨d,a⟩:=h;exact⟨d,hx.get a⟩
 |ln k n=>obtain⟨d,s,b,e⟩:=h;exact⟨d,s,hx.get b,e⟩
 |fn f caps=>obtain⟨vs,a,b⟩:=h;exact⟨vs,a,b.mono λ_ _=>CapIs.mono hx⟩
 |_=>exact h
theorem V1.Den.mono (hx:Ext ρ ρ') {c:V1}{v} (h:c.Den ρ v):c.Den ρ' v:=by
 cases c with
 |c x=>exact Cell.Den.mono hx h
 |a l=>obtain⟨vs,b,d⟩:=h;exact⟨vs,b.mono λ_ _=>Cell.Den.mono hx,d⟩
theorem SV.Den.mono (hx:Ext ρ ρ') {c:SV}{v} (h:c.Den ρ v):c.Den ρ' v:=by
 cases c with
 |v x=>exact V1.Den.mono hx h
 |t l=>obtain⟨vs,a,b⟩:=h;exact⟨vs,a.mono λ_ _=>V1.Den.mono hx,b⟩
theorem All2.back{α R b S} (c:∀a v u,b a v->R a u->S a v):∀ {l:List α} {vs us:List Value},All2 b l vs->All2 R l us->All2 S l vs
 |[],[],[],_,_=>trivial
 |_::_,_::_,_::_,⟨h1,h2⟩,⟨k1,k2⟩=>⟨c _ _ _ h1 k1,All2.back c h2 k2⟩
 |[],_::_,_,h,_=>h.elim
 |_::_,[],_,h,_=>h.elim
 |[],[],_::_,_,h=>h.elim
 |_::_,_::_,[],_,h=>h.elim
theorem CapIs.back (hx:Ext ρ ρ'){c v u} (h:CapIs ρ' c v) (a:CapIs ρ c u):CapIs ρ c v:=by obtain⟨b,d,e⟩:=h;obtain⟨g,f,k2⟩:=a;exact⟨b,hx.back d f,e⟩
theorem Cell.Den.back (hx:Ext ρ ρ') {c:Cell}{v u} (h:c.Den ρ' v) (l:c.Den ρ u):c.Den ρ v:=by
 cases c with
 |sl k=>obtain⟨s,b,d⟩:=h;obtain⟨s',g,k2⟩:=l;exact⟨s,hx.back b g,d⟩
 |ptr k o=>obtain⟨s,b,d⟩:=h;obtain⟨s',g,k2⟩:=l;exact⟨s,hx.back b g,d⟩
 |lt k=>obtain⟨s,b,d⟩:=h;obtain⟨s',g,k2⟩:=l;exact⟨s,hx.back b g,d⟩
 |ep k q i j=>obtain⟨s,b,d⟩:=h;obtain⟨s',g,k2⟩:=l;exact⟨s,hx.back b g,d⟩
 |ix u k q=>obtain⟨e,b,s,d,m⟩:=h;obtain⟨_,g,s',k2,_⟩:=l;exact⟨e,hx.back b g,s,hx.back d k2,m⟩
 |sx u k q=>obtain⟨e,b⟩:=h;obtain⟨_,g⟩:=l;exact⟨e,hx.back b g⟩
 |ln k n=>obtain⟨e,s,d,m⟩:=h;obtain⟨_,s',k2,_⟩:=l;exact⟨e,s,hx.back d k2,m⟩
 |fn f caps=>obtain⟨vs,b,d⟩:=h;obtain⟨us,_,k2⟩:=l;exact⟨vs,b,d.back (λ_ _ _ a c=>a.back hx c) k2⟩
 |_=>exact h
theorem V1.Den.back (hx:Ext ρ ρ') {c:V1}{v u} (h:c.Den ρ' v) (b:c.Den ρ u):c.Den ρ v:=by
 cases c with
 |c x=>exact Cell.Den.back hx h b
 |a l=>obtain⟨vs,d,e⟩:=h;obtain⟨us,f,_⟩:=b;exact⟨vs,d.back (λ_ _ _ a c=>a.back hx c) f,e⟩
theorem SV.Den.back (hx:Ext ρ ρ') {c:SV}{v u} (h:c.Den ρ' v) (b:c.Den ρ u):c.Den ρ v:=by
 cases c with
 |v x=>exact V1.Den.back hx h b
 |t l=>obtain⟨vs,d,e⟩:=h;obtain⟨us,f,_⟩:=b;exact⟨vs,d.back (λ_ _ _ a c=>a.back hx c) f,e⟩
theorem Cell.Den.one {c:Cell}{v} (h:c.Den ρ v):v.oneCell'=true:=by
 cases c with
 |sl k=>obtain⟨s,_,rfl⟩:=h;rfl
 |ptr k o=>obtain⟨s,_,rfl⟩:=h;rfl
 |lt k=>obtain⟨s,_,rfl⟩:=h;rfl
 |ep k q i j=>obtain⟨s,_,rfl,_⟩:=h;rfl
 |ix u k q=>obtain⟨rfl,_⟩:=h;rfl
 |sx u k q=>obtain⟨rfl,_⟩:=h;rfl
 |ln k n=>obtain⟨rfl,_⟩:=h;rfl
 |fn f caps=>obtain⟨vs,rfl,_⟩:=h;rfl
 |er ok=>rcases h with⟨_,rfl⟩|⟨_,t,u,rfl⟩<;>rfl
 |raw u=>obtain⟨rfl,h⟩:=h;exact h
 |i k m=>cases h;rfl
 |y m=>cases h;rfl
 |b m=>cases h;rfl
 |s m=>cases h;rfl
 |nil=>cases h;rfl
theorem Wo {c:Cell}{v k n} (h:c.Den ρ v) (a:c.asInt=some (k,n)):v=.int k n:=by
 cases c with
 |i k' n'=>cases a;exact h
 |y n'=>cases a;exact h
 |ix u k' q=>cases a;exact h.1
 |sx u k' q=>cases a;exact h.1
 |ln k' n'=>cases a;exact h.1
 |_=>cases a
theorem Ay8 v (b:v.oneCell'=true):(Z7 v).Den ρ v:=by
 unfold Z7;split
 ·rename_i n;cases a:(decide (0<=n)&&decide (n<=255))with
  |false=>exact⟨rfl,b⟩
  |true=>
   simp only[B5l,decide_eq_true_eq]at a;show _=_;have c:(Cac n.toNat).toNat=n.toNat:=by rw[Cap];omega
   rw[c,Int.toNat_of_nonneg a.1]
 ·rfl
 ·rfl
 ·rfl
 ·rfl
 ·exact⟨rfl,b⟩
theorem All2_cellOf:∀ {l:List Value},(l.all (·.oneCell'))=true->All2 (Cell.Den ρ) (l.map Z7) l
 |[],_=>trivial
 |v::l,h=>by simp only[B7s,B5l]at h;exact⟨Ay8 v h.1,All2_cellOf h.2⟩
theorem Byu{v sv} (h:Atw v=some sv):sv.Den ρ v:=by
 unfold Atw at h;split at h
 ·rename_i cs;cases a:cs.toList.all (·.oneCell')with
  |false=>rw[a]at h;cases h
  |true=>rw[a]at h;cases h;exact⟨cs.toList,All2_cellOf a,by simp⟩
 ·cases a:v.oneCell' with
  |false=>rw[a]at h;cases h
  |true=>rw[a]at h;cases h;exact Ay8 v a
def EnvOk (ρ:List HV) (se:List (Nat×Option SV)) (env:Env):Prop:=∀t sv,Au se t=some sv->∃v,lk env t=some v/\sv.Den ρ v
variable {se:List (Nat×Option SV)} {env:Env}
theorem EnvOk.mono (hx:Ext ρ ρ') (h:EnvOk ρ se env):EnvOk ρ' se env:=λt sv c=>by obtain⟨v,a,b⟩:=h t sv c;exact⟨v,a,b.mono hx⟩
theorem EnvOk.put (h:EnvOk ρ se env){sv v} (c:sv.Den ρ v) d:EnvOk ρ ((d,some sv)::se) ((d,v)::env):=λt x a=>by
 simp only[Au,lk]at a⊢;cases b:B5w d t with
 |true=>rw[b]at a;cases a;exact⟨v,rfl,c⟩
 |false=>rw[b]at a;exact h t x a
theorem EnvOk.none (h:EnvOk ρ se env) {v:Value} (d:Nat):EnvOk ρ ((d,none)::se) ((d,v)::env):=λt x a=>by
 simp only[Au,lk]at a⊢;cases b:B5w d t with
 |true=>rw[b]at a;cases a
 |false=>rw[b]at a;exact h t x a
theorem EnvOk.evS (h:EnvOk ρ se env) {o:Operand} {sv:SV} (ho:evS se o=some sv):∃v,ev env o=some v/\sv.Den ρ v:=by
 cases o with
 |tmp t=>exact h t sv ho
 |const v=>exact⟨v,rfl,Byu ho⟩
 |global g=>cases ho
 |func f=>cases ho;exact⟨_,rfl,[],rfl,trivial⟩
theorem EnvOk.ev1 (h:EnvOk ρ se env) {o:Operand} {x:V1} (ho:ev1 se o=some x):∃v,ev env o=some v/\x.Den ρ v:=by
 unfold Go.Proofs.YtcdecpdpmpfbnaaGreatDoor.ev1 at ho;split at ho
 ·rename_i y a;cases ho;exact h.evS a
 ·cases ho
theorem EnvOk.evC (h:EnvOk ρ se env) {o:Operand} {x:Cell} (ho:evC se o=some x):∃v,ev env o=some v/\x.Den ρ v:=by
 unfold Go.Proofs.YtcdecpdpmpfbnaaGreatDoor.evC at ho;split at ho
 ·rename_i y a;cases ho;exact h.evS a
 ·cases ho
theorem EnvOk.evB (h:EnvOk ρ se env) {o:Operand} {x:Bool} (ho:evB se o=some x):ev env o=some (.bool x):=by
 unfold Go.Proofs.YtcdecpdpmpfbnaaGreatDoor.evB at ho;split at ho
 ·rename_i y c;cases ho;obtain⟨v,a,b⟩:=h.evC c;cases b;exact a
 ·cases ho
end
def Sv.cut3 (s:Sv) (hi:Nat):Sv:=⟨s.p,hi,hi⟩
def VP.At (s:Sv) (t:Ty) (L:List (Bi t)) (c:Cont) (s':Sv):VP->List Vi->Prop
 |.no,ex=>ex=[]
 |.ei i j,ex=>i<L.length/\(A3 t (el L i))[j]?=some (.sl c.t c.L)/\ex=[vC (Ch s.v (i*sz t+j)) s'.v]
 |.cut lo hi,ex=>lo<=hi/\hi<=L.length/\c=⟨t,(L.take hi).drop lo⟩/\s'=s.cut (sz t) lo hi/\ex=[]
 |.ec i j lo hi,ex=>i<L.length/\∃(a:Cont) (b:Sv),(A3 t (el L i))[j]?=some (.sl a.t a.L)/\lo<=hi/\hi<=a.L.length/\c=⟨a.t,(a.L.take hi).drop lo⟩/\s'=b.cut (sz a.t) lo hi/\ex=[vC (Ch s.v (i*sz t+j)) b.v]
 |.c3 hi,ex=>hi<=L.length/\c=⟨t,(L.take hi).drop 0⟩/\s'=s.cut3 hi/\ex=[]
def View.Is (ρ:List HV) (s:Sv) (t:Ty) (L:List (Bi t)) (v:View) (l:List Vi):Prop:=
 ∃s' ex,ρ[v.h]?=some (.row s')/\v.pos.At s t L ⟨v.t,v.L⟩ s' ex/\l=vR s'.v (Ac (sz v.t) (fD v.t) v.L)::ex
def ViewsAre (ρ:List HV) (s:Sv) (t:Ty) (L:List (Bi t)):List View->List Vi->Prop
 |[],l=>l=[]
 |v::vs,l=>∃a b,l=a++b/\v.Is ρ s t L a/\ViewsAre ρ s t L vs b
def Chunk.Is (ρ:List HV) (rs:List Rd):Chunk->As->Prop
 |.box h _ cs,z=>∃b e vs,ρ[h]?=some (.box b)/\All2 (Cell.Den ρ) cs vs/\z=A2 b (B8g vs) e
 |.row h _ t L vs,z=>∃q c,ρ[h]?=some (.row q)/\ViewsAre ρ q t L vs c/\z=oV (oC (Ac (sz t) (fD t) L) q.v) c
 |.sha h _ t L,z=>∃q xs,ρ[h]?=some (.row q)/\z=Bb (sz t) q.v L.length xs/\rX xs (L.flatMap (fD t))∈rs
 |.hol h _ t L i j o,z=>∃q a,ρ[h]?=some (.row q)/\ρ[o]?=some (.row a)/\z=H0 (sz t) (fD t) L q.v (i*sz t+j) (Sv.v a)
 |.rem h _ t L i,z=>∃q,ρ[h]?=some (.row q)/\z=oRe (sz t) (fD t) L q.v i
def View.Rd (ρ:List HV) (x:View) (r:Rd):Prop:=∃q,ρ[x.h]?=some (.row q)/\r=rV q.v (Ac (sz x.t) (fD x.t) x.L)
section
variable {ρ ρ':List HV} {rs rs':List Rd}
theorem View.Is.mono (hx:Ext ρ ρ'){s t L} {v:View}{l} (h:v.Is ρ s t L l):v.Is ρ' s t L l:=by obtain⟨s',ex,a,b⟩:=h;exact⟨s',ex,hx.get a,b⟩
theorem ViewsAre.mono (hx:Ext ρ ρ'){s t L}:∀ {vs:List View} {l:List Vi},ViewsAre ρ s t L vs l->ViewsAre ρ' s t L vs l
 |[],_,h=>h
 |_::_,_,⟨l1,l2,h1,h2,h3⟩=>⟨l1,l2,h1,h2.mono hx,ViewsAre.mono hx h3⟩
theorem Chunk.Is.mono (hx:Ext ρ ρ') (n:∀r∈rs,r∈rs') {c:Chunk}{a} (h:c.Is ρ rs a):c.Is ρ' rs' a:=by
 cases c with
 |box k g cs=>obtain⟨b,e,vs,d,f,l⟩:=h;exact⟨b,e,vs,hx.get d,f.mono λ_ _=>Cell.Den.mono hx,l⟩
 |row k g t L vs=>obtain⟨s,u,d,f,l⟩:=h;exact⟨s,u,hx.get d,f.mono hx,l⟩
 |sha k g t L=>obtain⟨s,xs,d,f,l⟩:=h;exact⟨s,xs,hx.get d,f,n _ l⟩
 |hol k g t L i j o=>obtain⟨q,p,d,m,f⟩:=h;exact⟨q,p,hx.get d,hx.get m,f⟩
 |rem k g t L i=>obtain⟨q,d,f⟩:=h;exact⟨q,hx.get d,f⟩
theorem View.Rd.mono (hx:Ext ρ ρ') {c:View}{a} (h:c.Rd ρ a):c.Rd ρ' a:=by obtain⟨s,b,d⟩:=h;exact⟨s,hx.get b,d⟩
end
abbrev OwnOk (ρ:List HV) (rs:List Rd) (own:List Chunk) (m:List As):Prop:=All2 (Chunk.Is ρ rs) own m
def RdsOk (ρ:List HV) (a:List View) (rs:List Rd):Prop:=∀x∈a,∃r∈rs,x.Rd ρ r
structure Sat (B:Base) (amb:List Rd) (ρ:List HV) (st:SSt) (env:Env) (w:World):Prop where
 len:ρ.length=st.nxt
 env:EnvOk ρ st.env env
 mem:∃m rs,OwnOk ρ rs st.own m/\RdsOk ρ st.rds rs/\(∀r∈amb,r∈rs)/\St B m rs w
section
variable {ρ ρ':List HV} {rs rs':List Rd}
theorem OwnOk.mono (hx:Ext ρ ρ') (a:∀r∈rs,r∈rs'){own m} (h:OwnOk ρ rs own m):OwnOk ρ' rs' own m:=All2.mono (λ_ _=>Chunk.Is.mono hx a) h
theorem RdsOk.mono (hx:Ext ρ ρ') (d:∀r∈rs,r∈rs'){rds} (h:RdsOk ρ rds rs):RdsOk ρ' rds rs':=λx c=>by obtain⟨r,a,b⟩:=h x c;exact⟨r,d r a,b.mono hx⟩
theorem Ann{h c}:∀ {vs:List View},Jq h vs=some c->∃v∈vs,v.h=h/\c=⟨v.t,v.L⟩/\J0 h vs=v.pos
 |[],hc=>by cases hc
 |v::r,hc=>by
  simp only[Jq]at hc;cases a:B5w v.h h with
  |true=>rw[a]at hc;cases hc;exact⟨v,B5n ..,B5k a,rfl,by simp[J0,a]⟩
  |false=>rw[a]at hc;obtain⟨u,b,d,e,f⟩:=Ann hc;exact⟨u,B5j _ b,d,e,by simp[J0,a,f]⟩
theorem Pd{h c vs} (e:Jq h vs=some c):∃v∈vs,v.h=h/\c=⟨v.t,v.L⟩:=by obtain⟨v,a,b,d,_⟩:=Ann e;exact⟨v,a,b,d⟩
theorem ViewsAre.at_{s t L}:∀ {vs:List View} {l:List Vi},ViewsAre ρ s t L vs l->∀v∈vs,∃s' ex,ρ[v.h]?=some (.row s')/\v.pos.At s t L ⟨v.t,v.L⟩ s' ex/\vR s'.v (Ac (sz v.t) (fD v.t) v.L)∈l/\∀x∈ex,x∈l
 |[],_,_,v,a=>by cases a
 |u::us,l,⟨l1,l2,h1,⟨s',ex,h2,h5,h3⟩,h4⟩,v,a=>by
  subst h1;rcases B5t.1 a with rfl|a
  ·exact⟨s',ex,h2,h5,B6f _ (by rw[h3];exact B5n ..),λx hx=>B6f _ (by rw[h3];exact B5j _ hx)⟩
  ·obtain⟨q,b,c,k2,d,e⟩:=ViewsAre.at_ h4 v a;exact⟨q,b,c,k2,B54 _ d,λx hx=>B54 _ (e x hx)⟩
theorem ViewsAre.get{s t L vs l} (h:ViewsAre ρ s t L vs l) v (c:v∈vs):∃s',ρ[v.h]?=some (.row s')/\vR s'.v (Ac (sz v.t) (fD v.t) v.L)∈l:=by obtain⟨s',_,a,_,b,_⟩:=h.at_ v c;exact⟨s',a,b⟩
variable {B:Base} {amb:List Rd} {st:SSt} {env:Env} {w:World}
theorem Bvf{k T f} {L:List T} {q:Sv}{xs m} (z:St B m rs w) (C:Bb k q.v L.length xs∈m) (D:rX xs (L.flatMap f)∈rs):(Ac k f L).rd (al w) w q.v:=by
 obtain⟨_,_,F,r,_,s⟩:=z;obtain⟨F',I,t⟩:=r.mem C;have x:=U2 (S':=al w) (λb c=>c.2.1) (Lc.refl _ _) _ _ (s _ D);obtain⟨p,hx,y⟩:=t;rcases y with⟨e,l⟩|⟨b,off,cap,n,e,H,o,c,A,a,d,G,i⟩
 ·rw[e];exact⟨none,0,by rw[l],by omega,by simp[maxLen],λh=>absurd (B53 l) h⟩
 ·rw[o];exact⟨_,cap,rfl,a,d,λ_=>⟨b,off,xs,rfl,λj g=>p _ (c j (B6w g (B5v _ a))),hx,λj u g=>Aiu A.1 i g,x⟩⟩
theorem Wz{h c m0} (e:St B m0 rs w):∀ {own:List Chunk} {m:List As},OwnOk ρ rs own m->(∀a∈m,a∈m0)->Ct h own=some c->∃s,ρ[h]?=some (.row s)/\(Ac (sz c.t) (fD c.t) c.L).rd (al w) w s.v
 |[],[],_,_,hc=>by cases hc
 |.box k g cs::own,a::m,⟨_,h2⟩,hm,hc=>Wz e h2 (λa b=>hm a (B5j _ b)) hc
 |.row k g t L vs::own,a::m,⟨h1,h2⟩,hm,hc=>by
  obtain⟨q,r,i,k2,rfl⟩:=h1;have d:=hm _ (B5n ..);simp only[Ct]at hc;cases f:B5w k h with
  |true=>rw[f]at hc;cases hc;cases B5k f;exact⟨q,i,e.seeOV d⟩
  |false=>
   rw[f]at hc;simp only[cond_false]at hc;split at hc
   ·rename_i c' j;cases hc;obtain⟨v,n,o,p⟩:=Pd j;obtain⟨s',s1,l⟩:=k2.get v n;subst p;exact⟨s',by rw[<-o];exact s1,e.seeV d l⟩
   ·exact Wz e h2 (λa b=>hm a (B5j _ b)) hc
 |.sha k g t L::own,a::m,⟨h1,h2⟩,hm,hc=>by
  obtain⟨q,xs,i,rfl,k2⟩:=h1;have d:=hm _ (B5n ..);simp only[Ct]at hc;cases f:B5w k h with
  |true=>rw[f]at hc;cases hc;cases B5k f;exact⟨q,i,Bvf e d k2⟩
  |false=>rw[f]at hc;exact Wz e h2 (λa b=>hm a (B5j _ b)) hc
 |.hol _ _ _ _ _ _ _::own,a::m,⟨_,h2⟩,hm,hc=>Wz e h2 (λa b=>hm a (B5j _ b)) hc
 |.rem _ _ _ _ _::own,a::m,⟨_,h2⟩,hm,hc=>Wz e h2 (λa b=>hm a (B5j _ b)) hc
 |[],_::_,h,_,_=>h.elim
 |.box _ _ _::_,[],h,_,_=>h.elim
 |.row _ _ _ _ _::_,[],h,_,_=>h.elim
 |.sha _ _ _ _::_,[],h,_,_=>h.elim
 |.hol _ _ _ _ _ _ _::_,[],h,_,_=>h.elim
 |.rem _ _ _ _ _::_,[],h,_,_=>h.elim
theorem Sat.rd (g:Sat B amb ρ st env w){h c} (a:st.cont h=some c):∃s,ρ[h]?=some (.row s)/\(Ac (sz c.t) (fD c.t) c.L).rd (al w) w s.v:=by
 obtain⟨m,rs,d,e,p,b⟩:=g.mem;unfold SSt.cont at a;split at a
 ·rename_i c' f;cases a;exact Wz b d (λ_ h=>h) f
 ·obtain⟨v,l,n,o⟩:=Pd a;obtain⟨r,k,q,i,j⟩:=e v l;subst o j;exact⟨q,by rw[<-n];exact i,b.seeR k⟩
theorem Sat.rel (a:Sat B amb ρ st env w){w'} (f:Rel w w'):Sat B amb ρ st env w':=by obtain⟨m,rs,b,c,d,e⟩:=a.mem;exact⟨a.len,a.env,m,rs,b,c,d,e.call f⟩
theorem Th{h cs}:∀ {own:List Chunk} {m:List As},OwnOk ρ rs own m->Tg h own=some cs->∃b e vs,ρ[h]?=some (.box b)/\All2 (Cell.Den ρ) cs vs/\A2 b vs.toArray e∈m
 |[],[],_,hc=>by cases hc
 |.box k g cs::own,a::m,⟨h1,h2⟩,hc=>by
  simp only[Tg]at hc;cases f:B5w k h with
  |true=>rw[f]at hc;cases hc;cases B5k f;obtain⟨b,e,vs,c,k2,rfl⟩:=h1;exact⟨b,e,vs,c,k2,B5n ..⟩
  |false=>rw[f]at hc;obtain⟨b,e,vs,c,k2,d⟩:=Th h2 hc;exact⟨b,e,vs,c,k2,B5j _ d⟩
 |.row k g t L vs::own,a::m,⟨h1,h2⟩,hc=>by obtain⟨b,e,vs,c,k2,d⟩:=Th h2 hc;exact⟨b,e,vs,c,k2,B5j _ d⟩
 |.sha k g t L::own,a::m,⟨h1,h2⟩,hc=>by obtain⟨b,e,vs,c,k2,d⟩:=Th h2 hc;exact⟨b,e,vs,c,k2,B5j _ d⟩
 |.hol k g t L i j o::own,a::m,⟨h1,h2⟩,hc=>by obtain⟨b,e,vs,c,k2,d⟩:=Th h2 hc;exact⟨b,e,vs,c,k2,B5j _ d⟩
 |.rem k g t L i::own,a::m,⟨h1,h2⟩,hc=>by obtain⟨b,e,vs,c,k2,d⟩:=Th h2 hc;exact⟨b,e,vs,c,k2,B5j _ d⟩
 |[],_::_,h,_=>h.elim
 |.box _ _ _::_,[],h,_=>h.elim
 |.row _ _ _ _ _::_,[],h,_=>h.elim
 |.sha _ _ _ _::_,[],h,_=>h.elim
 |.hol _ _ _ _ _ _ _::_,[],h,_=>h.elim
 |.rem _ _ _ _ _::_,[],h,_=>h.elim
theorem Wy{h c}:∀ {own:List Chunk} {m:List As},OwnOk ρ rs own m->Xj h own=some c->∃(q b:Sv) (j:Nat),ρ[h]?=some (.row q)/\H0 (sz c.t) (fD c.t) c.L q.v j b.v∈m
 |[],[],_,hc=>by cases hc
 |.hol k g t L i j o::own,a::m,⟨h1,h2⟩,hc=>by
  simp only[Xj]at hc;cases e:B5w k h with
  |true=>rw[e]at hc;cases hc;cases B5k e;obtain⟨q,b,d,_,rfl⟩:=h1;exact⟨q,b,_,d,B5n ..⟩
  |false=>rw[e]at hc;obtain⟨q,b,j,d,k2⟩:=Wy h2 hc;exact⟨q,b,j,d,B5j _ k2⟩
 |.box _ _ _::own,a::m,⟨_,h2⟩,hc=>by obtain⟨q,b,j,d,k2⟩:=Wy (own:=own) h2 hc;exact⟨q,b,j,d,B5j _ k2⟩
 |.row _ _ _ _ _::own,a::m,⟨_,h2⟩,hc=>by obtain⟨q,b,j,d,k2⟩:=Wy (own:=own) h2 hc;exact⟨q,b,j,d,B5j _ k2⟩
 |.sha _ _ _ _::own,a::m,⟨_,h2⟩,hc=>by obtain⟨q,b,j,d,k2⟩:=Wy (own:=own) h2 hc;exact⟨q,b,j,d,B5j _ k2⟩
 |.rem _ _ _ _ _::own,a::m,⟨_,h2⟩,hc=>by obtain⟨q,b,j,d,k2⟩:=Wy (own:=own) h2 hc;exact⟨q,b,j,d,B5j _ k2⟩
 |[],_::_,h,_=>h.elim
 |.box _ _ _::_,[],h,_=>h.elim
 |.row _ _ _ _ _::_,[],h,_=>h.elim
 |.sha _ _ _ _::_,[],h,_=>h.elim
 |.hol _ _ _ _ _ _ _::_,[],h,_=>h.elim
 |.rem _ _ _ _ _::_,[],h,_=>h.elim
abbrev Ck (k:Nat):Type:= {l:List Ce//l.length=k}
instance (k:Nat):Inhabited (Ck k):=⟨⟨B6l k (cI 0),by simp⟩⟩
theorem A87{k}:∀ {n:Nat} {cs:List Ce},cs.length=n*k->∃a:List (Ck k),a.length=n/\a.flatMap Subtype.val=cs
 |0,cs,h=>⟨[],rfl,by
  rw[B7n]at h;rw[B53 h];rfl⟩
 |n+1,cs,h=>by rw[B61,B9f]at h;obtain⟨a,b,c⟩:=A87 (k:=k) (n:=n) (cs:=cs.drop k) (by rw[B50];omega);exact⟨⟨cs.take k,by rw[B5x];omega⟩::a,by simp[b],by simp[c]⟩
theorem A2q{k T f} {L:List T}{v q u} hu (i:∀x,(f x).length=k):∃a:List (Ck k),a.length=L.length/\a.flatMap Subtype.val=(L.flatMap f).set q (cV u hu)/\∀F w,(H0 k f L v q u).ok F w->(oC (Ac k Subtype.val a) v).ok F w:=by
 obtain⟨a,g,c⟩:=A87 (k:=k) (n:=L.length) (cs:=(L.flatMap f).set q (cV u hu)) (by rw[B6v,Ic i]);refine⟨a,g,c,λF w h=>?_⟩;obtain⟨xs,g1,g2,g3⟩:=h;refine⟨xs,by rw[c,B6v,g1],?_⟩;obtain⟨d,hx⟩:=B55.1 g2
 have e:∀(q:Nat) (cs:List Ce) (vs:List Value),vs[q]?=some u->Aj (cs.set q (cV u hu)) vs=(Aj cs vs).set q (oC (cV u hu) u):=by
  intro q;induction q with
  |zero=>intro cs vs j;cases cs<;>cases vs<;>simp_all [Aj]
  |succ q l=>intro cs vs j;cases cs<;>cases vs<;>simp_all [Aj]
 have b:Sep (oC (cV u hu) u::Bb k v L.length xs::(Aj (L.flatMap f) xs).eraseIdx q) F w:=
  ⟨g3.lt,λ_=>False,F,⟨rfl,λ_ h=>h.elim⟩,g3,(λ_ h=>h.elim),(λ_ h=>h.elim),λ_ h=>h⟩
 show Sep (Bb k v a.length xs::Aj (a.flatMap Subtype.val) xs) F w;rw[g,c,e _ _ _ g2];exact b.perm ((List.Perm.swap ..).trans ((A5w (by rw[Am5 g1];exact d)).cons _))
theorem Sat.rdI (l:Sat B amb ρ st env w){h c} (e:st.contI h=some c):∃s,ρ[h]?=some (.row s)/\∃(T:Type) (f:T->List Ce) (L:List T),L.length=c.L.length/\(Ac (sz c.t) f L).rd (al w) w s.v:=by
 unfold SSt.contI at e;split at e
 ·rename_i c' i;cases e;obtain⟨s,g,k⟩:=l.rd i;exact⟨s,g,_,_,_,rfl,k⟩
 ·obtain⟨m,rs,g,k,z,p⟩:=l.mem;obtain⟨q,y,j,x,k2⟩:=Wy g e;obtain⟨F,o⟩:=p.at' k2;obtain⟨a,n,_,d⟩:=A2q (L:=c.L) (v:=q.v) (q:=j) (u:=y.v) rfl (C3 c.t);replace d:=d F w o;exact⟨q,x,_,_,a,n,(Ac (sz c.t) Subtype.val a).mono (λb r=>(Ac (sz c.t) Subtype.val a).lt d r) (Lc.refl _ _) ((Ac (sz c.t) Subtype.val a).seen d)⟩
end
end
section
open Go.RowKit
def Chunk.Le (c c':Chunk):Prop:=c=c'\/∃h g t L vs ex,c=.row h g t L vs/\c'=.row h g t L (ex++vs)
theorem Chunk.Le.g{c c'} (h:c.Le c'):Ew c=Ew c':=by rcases h with rfl|⟨k,g,t,L,vs,ex,rfl,rfl⟩<;>rfl
theorem Chunk.Le.trans {a b c:Chunk} (h:a.Le b) (k:b.Le c):a.Le c:=by
 rcases h with rfl|⟨e,g,t,L,vs,ex,rfl,rfl⟩
 ·exact k
 ·rcases k with rfl|⟨k2,j,l,L',i,d,f,rfl⟩
  ·exact .inr ⟨e,g,t,L,vs,ex,rfl,rfl⟩
  ·cases f;exact .inr ⟨e,g,t,L,vs,d++ex,rfl,by simp⟩
structure Grow (st st':SSt):Prop where
 nxt:st.nxt<=st'.nxt
 own:∀c'∈st'.own,Ew c'<st.nxt->∃c∈st.own,c.Le c'
 rds:∃x,st'.rds=x++st.rds
theorem Grow.refl st:Grow st st:=⟨B6i _,λc h _=>⟨c,h,.inl rfl⟩,[],rfl⟩
theorem Grow.trans{a b c} (h:Grow a b) (k:Grow b c):Grow a c:=by
 refine⟨Caf h.nxt k.nxt,λc' n e=>?_,?_⟩
 ·obtain⟨i,j,d⟩:=k.own c' n (B6w e h.nxt);obtain⟨f,l,m⟩:=h.own i j (by rw[d.g];exact e);exact⟨f,l,m.trans d⟩
 ·obtain⟨x,hx⟩:=h.rds;obtain⟨y,o⟩:=k.rds;exact⟨y++x,by rw[o,hx];simp⟩
theorem Grow.env{a b} (h:Grow a b) e e':Grow {a with env:=e} {b with env:=e'}:=⟨h.nxt,h.own,h.rds⟩
section
variable {ρ ρ':List HV} {rs rs':List Rd} {B:Base} {amb:List Rd} {st:SSt} {env:Env} {w:World}
theorem All2.split{α g R}:∀ {a c:List α} {m:List g},All2 R (a++c) m->∃m1 m2,m=m1++m2/\All2 R a m1/\All2 R c m2
 |[],_,m,h=>⟨[],m,rfl,trivial,h⟩
 |_::a,c,b::m,⟨h1,h2⟩=>by obtain⟨m1,m2,e,d,f⟩:=All2.split h2;exact⟨b::m1,m2,by rw[e];rfl,⟨h1,d⟩,f⟩
 |_::_,_,[],h=>h.elim
theorem Tb{h v}:∀ {own:List Chunk},Ct h own=none->addV h v own=none
 |[],_=>rfl
 |.box k g cs::r,hc=>by simp only[Ct]at hc;simp[addV,Tb hc]
 |.row k g t L vs::r,hc=>by
  simp only[Ct]at hc;simp only[addV];cases a:B5w k h with
  |true=>rw[a]at hc;cases hc
  |false=>
   rw[a]at hc;simp only[cond_false]at hc⊢;split at hc
   ·cases hc
   ·simp[Tb hc]
 |.sha k g t L::r,hc=>by
  simp only[Ct]at hc;simp only[addV];cases a:B5w k h with
  |true=>rfl
  |false=>rw[a]at hc;simp[Tb (own:=r) hc]
 |.hol k g t L i j o::r,hc=>by simp only[Ct]at hc;simp[addV,Tb hc]
 |.rem k g t L i::r,hc=>by simp only[Ct]at hc;simp[addV,Tb hc]
theorem Tc{h v c}:∀ {own:List Chunk},Ct h own=some c->
  (∃e f g vs,own=e++ .row h g c.t c.L vs::f/\addV h v own=some (e++ .row h g c.t c.L (v::vs)::f))\/
  (∃e f k g t L vs,own=e++ .row k g t L vs::f/\Jq h vs=some c/\addV h v own=some (e++ .row k g t L ({v with pos:=(J0 h vs).sub v.pos}::vs)::f))\/
  (∃e f g,own=e++ .sha h g c.t c.L::f/\addV h v own=none)
 |[],hc=>by cases hc
 |.box k g cs::r,hc=>by
  simp only[Ct]at hc;rcases Tc (v:=v) hc with⟨d,o2,b,vs,a,e2⟩|⟨d,o2,k',b,t,L,vs,a,e2,m⟩|⟨d,o2,b,a,e2⟩
  ·exact .inl ⟨.box k g cs::d,o2,b,vs,by rw[a];rfl,by simp[addV,e2]⟩
  ·exact .inr (.inl ⟨.box k g cs::d,o2,k',b,t,L,vs,by rw[a];rfl,e2,by simp[addV,m]⟩)
  ·exact .inr (.inr ⟨.box k g cs::d,o2,b,by rw[a];rfl,by simp[addV,e2]⟩)
 |.row k g t L vs::r,hc=>by
  simp only[Ct]at hc;cases l:B5w k h with
  |true=>rw[l]at hc;cases hc;cases B5k l;exact .inl ⟨[],r,g,vs,rfl,by simp[addV]⟩
  |false=>
   rw[l]at hc;simp only[cond_false]at hc;split at hc
   ·rename_i c' q;cases hc;exact .inr (.inl ⟨[],r,k,g,t,L,vs,rfl,q,by simp[addV,l,q]⟩)
   ·rename_i q;rcases Tc (v:=v) hc with⟨d,o2,b,p,a,e2⟩|⟨d,o2,k',b,n,L',p,a,e2,m⟩|⟨d,o2,b,a,e2⟩
    ·exact .inl ⟨.row k g t L vs::d,o2,b,p,by rw[a];rfl,by simp[addV,l,q,e2]⟩
    ·exact .inr (.inl ⟨.row k g t L vs::d,o2,k',b,n,L',p,by rw[a];rfl,e2,by simp[addV,l,q,m]⟩)
    ·exact .inr (.inr ⟨.row k g t L vs::d,o2,b,by rw[a];rfl,by simp[addV,l,q,e2]⟩)
 |.sha k g t L::r,hc=>by
  simp only[Ct]at hc;cases l:B5w k h with
  |true=>rw[l]at hc;cases hc;cases B5k l;exact .inr (.inr ⟨[],r,g,rfl,by simp[addV]⟩)
  |false=>
   rw[l]at hc;rcases Tc (v:=v) hc with⟨d,o2,b,vs,a,e2⟩|⟨d,o2,k',b,n,L',vs,a,e2,m⟩|⟨d,o2,b,a,e2⟩
   ·exact .inl ⟨.sha k g t L::d,o2,b,vs,by rw[a];rfl,by simp[addV,l,e2]⟩
   ·exact .inr (.inl ⟨.sha k g t L::d,o2,k',b,n,L',vs,by rw[a];rfl,e2,by simp[addV,l,m]⟩)
   ·exact .inr (.inr ⟨.sha k g t L::d,o2,b,by rw[a];rfl,by simp[addV,l,e2]⟩)
 |.hol k g t L i j o::r,hc=>by
  simp only[Ct]at hc;rcases Tc (v:=v) hc with⟨d,o2,b,vs,a,e2⟩|⟨d,o2,k',b,n,L',vs,a,e2,m⟩|⟨d,o2,b,a,e2⟩
  ·exact .inl ⟨.hol k g t L i j o::d,o2,b,vs,by rw[a];rfl,by simp[addV,e2]⟩
  ·exact .inr (.inl ⟨.hol k g t L i j o::d,o2,k',b,n,L',vs,by rw[a];rfl,e2,by simp[addV,m]⟩)
  ·exact .inr (.inr ⟨.hol k g t L i j o::d,o2,b,by rw[a];rfl,by simp[addV,e2]⟩)
 |.rem k g t L i::r,hc=>by
  simp only[Ct]at hc;rcases Tc (v:=v) hc with⟨d,o2,b,vs,a,e2⟩|⟨d,o2,k',b,n,L',vs,a,e2,m⟩|⟨d,o2,b,a,e2⟩
  ·exact .inl ⟨.rem k g t L i::d,o2,b,vs,by rw[a];rfl,by simp[addV,e2]⟩
  ·exact .inr (.inl ⟨.rem k g t L i::d,o2,k',b,n,L',vs,by rw[a];rfl,e2,by simp[addV,m]⟩)
  ·exact .inr (.inr ⟨.rem k g t L i::d,o2,b,by rw[a];rfl,by simp[addV,e2]⟩)
theorem St.mid{m1 m2 a} (h:St B (m1++a::m2) rs w):St B (a::(m1++m2)) rs w:=h.perm B5u
theorem St.back'{m1 m2 a} (h:St B (a::(m1++m2)) rs w):St B (m1++a::m2) rs w:=h.perm B5u.symm
theorem Tp{h c x own2 a x'} (hx:Ct h (x::own2)=some c->Ct h (x'::a)=some c):∀ {b:List Chunk},Ct h (b++x::own2)=some c->Ct h (b++x'::a)=some c
 |[],hc=>hx hc
 |.box k g cs::r,hc=>by simp only[B6a,Ct]at hc⊢;exact Tp hx hc
 |.row k g t L vs::r,hc=>by
  simp only[B6a,Ct]at hc⊢;cases d:B5w k h with
  |true=>rw[d]at hc;simpa using hc
  |false=>
   rw[d]at hc;simp only[cond_false]at hc⊢;split at hc
   ·exact hc
   ·exact Tp hx hc
 |.sha k g t L::r,hc=>by
  simp only[B6a,Ct]at hc⊢;cases d:B5w k h with
  |true=>rw[d]at hc;simpa using hc
  |false=>rw[d]at hc;simp only[cond_false]at hc⊢;exact Tp hx hc
 |.hol k g t L i j o::r,hc=>by simp only[B6a,Ct]at hc⊢;exact Tp hx hc
 |.rem k g t L i::r,hc=>by simp only[B6a,Ct]at hc⊢;exact Tp hx hc
theorem Sat.lt (b:Sat B amb ρ st env w){h x} (a:ρ[h]?=some x):h<st.nxt:=by rw[<-b.len];exact(B55.1 a).1
theorem Bqu{k T} [Inhabited T]{f} {L:List T}{T' k' f'} {L':List T'} {q:Sv}{xs m} (n:St B m rs w) (C:Bb k q.v L.length xs∈m) (D:rX xs (L.flatMap f)∈rs) (p:∀x,(f x).length=k){i j} (hi:i<L.length) (o:(f (el L i))[j]?=some (Ac k' f' L')):
  ∃s:Sv,St B m (rV s.v (Ac k' f' L')::rs) w/\∀e,Rel w e->e.cell? (Ch q.v (i*k+j))=some s.v:=by
 have A:j<k:=by have:=(B55.1 o).1;rw[p]at this;exact this
 have g:(L.flatMap f)[i*k+j]?=some (Ac k' f' L'):=by rw[Agn p L i j hi A];exact o
 obtain⟨F,y⟩:=n.at' C;have a:∀S,(∀r∈rs,r.ok S w)->Br S w (L.flatMap f) xs:=λS h=>h _ D;obtain⟨_,_,u,_,_,l⟩:=n;obtain⟨v,b,d⟩:=Aio (a _ l) g;obtain⟨s,rfl⟩:=Cs.sv d;refine⟨s,St.more ⟨‹_›,‹_›,u,‹_›,‹_›,l⟩ (λS z=>?_),λe c=>?_⟩
 ·obtain⟨G,t,k2⟩:=Aio (a S z) g;rw[b]at t;cases t;exact k2
 ·exact Aiv (As.loc _ (c.lc F) y) b
theorem Bxr (u:Sat B amb ρ st env w){h c} (G:st.cont h=some c){s} (H:ρ[h]?=some (.row s)){i j} (hi:i<c.L.length){t l} (M:(A3 c.t (el c.L i))[j]?=some (.sl t l)):
  ∃s',Sat B amb (ρ++[.row s']) (st.see h ⟨st.nxt,t,l,.ei i j⟩) env w/\(st.see h ⟨st.nxt,t,l,.ei i j⟩).cont h=some c/\Grow st (st.see h ⟨st.nxt,t,l,.ei i j⟩)/\(st.see h ⟨st.nxt,t,l,.ei i j⟩).nxt=st.nxt+1/\(st.see h ⟨st.nxt,t,l,.ei i j⟩).env=st.env/\∀w1,Rel w w1->w1.cell? (Ch s.v (i*sz c.t+j))=some s'.v:=by
 have T:(fD c.t (el c.L i))[j]?=some (Ac (sz t) (fD t) l):=by rw[Dm,B8q,M];rfl
 have N:B5w st.nxt h=false:=Jn λe=>by have:=u.lt H;omega
 obtain⟨m,rs,D,K,R,S⟩:=u.mem;have hx:=λs':Sv=>Ext.one ρ (.row s');have d:=λs':Sv=>Dp ρ (.row s');rw[u.len]at d;unfold SSt.cont at G;cases y:Ct h st.own with
 |some c'=>
  rw[y]at G;cases G;rcases Tc (v:=⟨st.nxt,t,l,.ei i j⟩) y with⟨o1,o2,g,vs,z,e2⟩|⟨o1,o2,k,g,t',L',vs,z,e2,C⟩|⟨o1,o2,g,z,e2⟩
  ·rw[z]at D;obtain⟨m1,m2,rfl,P,A⟩:=D.split;cases m2 with
   |nil=>exact A.elim
   |cons a m2=>
    obtain⟨⟨q,vl,F,k2,rfl⟩,Q⟩:=A;rw[H]at F;cases F;obtain⟨s',n,b⟩:=S.mid.leafV (C3 c.t) hi T;refine⟨s',⟨by simp[SSt.see,e2,u.len],by simp only[SSt.see,e2];exact u.env.mono (hx s'),_,rs,?_,?_,R,n.back'⟩,?_,?_,by simp[SSt.see,e2],by simp[SSt.see,e2],b⟩
    ·simp only[SSt.see,e2];exact(P.mono λ_ _=>Chunk.Is.mono (hx s') λ_ h=>h).append ⟨⟨s,_,(hx s').get H,⟨_,vl,rfl,⟨s',_,d s',⟨hi,M,rfl⟩,rfl⟩,k2.mono (hx s')⟩,rfl⟩,Q.mono λ_ _=>Chunk.Is.mono (hx s') λ_ h=>h⟩
    ·simp only[SSt.see,e2];exact K.mono (hx s') λ_ h=>h
    ·simp only[SSt.see,e2,SSt.cont];rw[z]at y;rw[Tp (λh=>by simp[Ct]at h⊢) y]
    ·simp only[SSt.see,e2];refine⟨B8b _,λc' o _=>?_,[],rfl⟩;rw[z];rcases B6g.1 o with f|f
     ·exact⟨c',B6f _ f,.inl rfl⟩
     ·rcases B5t.1 f with rfl|f
      ·exact⟨_,B54 _ (B5n ..),.inr ⟨_,_,_,_,vs,[_],rfl,rfl⟩⟩
      ·exact⟨c',B54 _ (B5j _ f),.inl rfl⟩
  ·rw[z]at D;obtain⟨m1,m2,rfl,P,A⟩:=D.split;cases m2 with
   |nil=>exact A.elim
   |cons a m2=>
    obtain⟨⟨q,vl,F,k2,rfl⟩,Q⟩:=A;obtain⟨v,W,X,Y⟩:=Pd e2;obtain⟨sv,s1,s2⟩:=k2.get v W;rw[X,H]at s1;cases s1;subst Y;obtain⟨s',n,b⟩:=S.mid.leafW s2 (C3 v.t) hi T;refine⟨s',⟨by simp[SSt.see,C,u.len],by simp only[SSt.see,C];exact u.env.mono (hx s'),_,rs,?_,?_,R,n.back'⟩,?_,?_,by simp[SSt.see,C],by simp[SSt.see,C],b⟩
    ·simp only[SSt.see,C];exact(P.mono λ_ _=>Chunk.Is.mono (hx s') λ_ h=>h).append ⟨⟨q,_,(hx s').get F,⟨[_],vl,rfl,⟨s',[],d s',by cases J0 h vs<;>rfl,rfl⟩,k2.mono (hx s')⟩,rfl⟩,Q.mono λ_ _=>Chunk.Is.mono (hx s') λ_ h=>h⟩
    ·simp only[SSt.see,C];exact K.mono (hx s') λ_ h=>h
    ·simp only[SSt.see,C,SSt.cont];rw[z]at y
     rw[Tp (λf=>by
      simp only[Ct]at f⊢;cases hb:B5w k h with
      |true=>rw[hb]at f;simpa using f
      |false=>rw[hb]at f;simp only[cond_false]at f⊢;simp only[Jq,N,cond_false];exact f) y]
    ·simp only[SSt.see,C];refine⟨B8b _,λc' o _=>?_,[],rfl⟩;rw[z];rcases B6g.1 o with f|f
     ·exact⟨c',B6f _ f,.inl rfl⟩
     ·rcases B5t.1 f with rfl|f
      ·exact⟨_,B54 _ (B5n ..),.inr ⟨_,_,_,_,vs,[_],rfl,rfl⟩⟩
      ·exact⟨c',B54 _ (B5j _ f),.inl rfl⟩
  ·have I:=D;rw[z]at I;obtain⟨m1,m2,rfl,P,A⟩:=I.split;cases m2 with
   |nil=>exact A.elim
   |cons a m2=>
    obtain⟨⟨q,xs,F,rfl,k2⟩,Q⟩:=A;rw[H]at F;cases F;obtain⟨s',n,b⟩:=Bqu S (B54 _ (B5n ..)) k2 (C3 c.t) hi T;refine⟨s',⟨by simp[SSt.see,e2,u.len],by simp only[SSt.see,e2];exact u.env.mono (hx s'),_,_,?_,?_,λr U=>B5j _ (R r U),n⟩,?_,?_,by simp[SSt.see,e2],by simp[SSt.see,e2],b⟩
    ·simp only[SSt.see,e2];exact OwnOk.mono (hx s') (λ_ h=>B5j _ h) D
    ·simp only[SSt.see,e2];intro x p;rcases B5t.1 p with rfl|p
     ·exact⟨_,B5n ..,s',d s',rfl⟩
     ·obtain⟨r,O,V⟩:=K x p;exact⟨r,B5j _ O,V.mono (hx s')⟩
    ·simp[SSt.see,e2,SSt.cont,y]
    ·simp only[SSt.see,e2];exact⟨B8b _,λc' o _=>⟨c',o,.inl rfl⟩,[_],rfl⟩
 |none=>
  rw[y]at G;obtain⟨v,W,X,Y⟩:=Pd G;obtain⟨r,O,q,q1,q2⟩:=K v W;rw[X,H]at q1;cases q1;subst Y q2;have e2:=Tb (v:=⟨st.nxt,t,l,.ei i j⟩) y;obtain⟨s',n,b⟩:=S.leaf O (C3 v.t) hi T;refine⟨s',⟨by simp[SSt.see,e2,u.len],by simp only[SSt.see,e2];exact u.env.mono (hx s'),_,_,?_,?_,λr U=>B5j _ (R r U),n⟩,?_,?_,by simp[SSt.see,e2],by simp[SSt.see,e2],b⟩
  ·simp only[SSt.see,e2];exact OwnOk.mono (hx s') (λ_ h=>B5j _ h) D
  ·simp only[SSt.see,e2];intro x p;rcases B5t.1 p with rfl|p
   ·exact⟨_,B5n ..,s',d s',rfl⟩
   ·obtain⟨r,O,V⟩:=K x p;exact⟨r,B5j _ O,V.mono (hx s')⟩
  ·simp only[SSt.see,e2,SSt.cont,y,Jq,N,cond_false];exact G
  ·simp only[SSt.see,e2];exact⟨B8b _,λc' o _=>⟨c',o,.inl rfl⟩,[_],rfl⟩
theorem Z.trans{a b c} (h:Z w a b) (k:Z w b c):Z w a c:=λF d=>k F (h F d)
theorem Z.perm{a b} (h:a.Perm b):Z w a b:=λ_ c=>c.perm h
theorem Z.app{a b c} (h:Z w a b):Z w (a++c) (b++c):=λF d=>by obtain⟨F1,f,g1,g2,g3,g4,g5⟩:=d.split;exact(Sep.join (h F1 g1) g2 g3).up (λb e=>e.elim (g4 b) (g5 b)) d.lt
theorem Z.cons{a b c} (h:Z w b c):Z w (a::b) (a::c):=λ_ d=>d.cons_mono h
theorem St.z{m} (h:St B m rs w){m'} (a:Z w m m'):St B m' rs w:=by have:=St.iso (l:=m) (l':=m') (m:=[]) (by simpa using h) a;simpa using this
theorem Z.unV{o vl l}:Z w (oV o vl::l) (o::l):=λF h=>by obtain⟨b,F1,a,c,d,e,f,g⟩:=h;exact⟨b,F1,a,c.1,d,e,f,g⟩
theorem Z.toV{o l}:Z w (o::l) (oV o []::l):=λF i=>by obtain⟨b,F1,a,c,d,e,f,g⟩:=i;exact⟨b,F1,a,⟨c,λ_ h=>by cases h⟩,d,e,f,g⟩
theorem St.moreVX{o vl ex c c' u u' m} (h:St B (oV o vl::m) rs w) (i:vR u c∈vl) (f:∀S,c.rd S w u->c'.rd S w u') (b:∀x∈ex,x∈vl):St B (oV o (vR u' c'::ex++vl)::m) rs w:=by
 refine St.iso (l:=[oV o vl]) (l':=[oV o (vR u' c'::ex++vl)]) h λF ⟨e,F1,d,⟨g1,gv⟩,g⟩=>⟨e,F1,d,⟨g1,λr a=>?_⟩,g⟩;rcases B6g.1 a with a|a
 ·rcases B5t.1 a with rfl|a
  ·exact f _ (vRg (gv _ i))
  ·exact gv r (b r a)
 ·exact gv r a
theorem St.moreO{vl c c' u u' m} (h:St B (oV (oC c u) vl::m) rs w) (e:∀S,c.rd S w u->c'.rd S w u'):St B (oV (oC c u) (vR u' c'::vl)::m) rs w:=by
 refine St.iso (l:=[oV (oC c u) vl]) (l':=[oV (oC c u) (vR u' c'::vl)]) h λF ⟨d,F1,b,⟨g1,gv⟩,g⟩=>⟨d,F1,b,⟨g1,λr a=>?_⟩,g⟩;rcases B5t.1 a with rfl|a
 ·exact e _ (c.seen g1)
 ·exact gv r a
theorem A9o (n:Sat B amb ρ st env w){h c} (F:st.cont h=some c){s} (H:ρ[h]?=some (.row s)){t l s' p} (hn:∀c',Ct h st.own=some c'->addV h ⟨st.nxt,t,l,p⟩ st.own≠none) (T:∀S,(Ac (sz c.t) (fD c.t) c.L).rd S w s.v->(Ac (sz t) (fD t) l).rd S w s'.v) (hp:p.At s c.t c.L ⟨t,l⟩ s' []) (hq:∀z hi,p=.cut z hi->z<=hi/\hi<=c.L.length/\(⟨t,l⟩:Cont)=⟨c.t,(c.L.take hi).drop z⟩/\s'=s.cut (sz c.t) z hi):
  Sat B amb (ρ++[.row s']) (st.see h ⟨st.nxt,t,l,p⟩) env w/\Grow st (st.see h ⟨st.nxt,t,l,p⟩)/\(st.see h ⟨st.nxt,t,l,p⟩).env=st.env:=by
 obtain⟨m,rs,C,G,O,Q⟩:=n.mem;have hx:=Ext.one ρ (.row s');have b:=Dp ρ (.row s');rw[n.len]at b;unfold SSt.cont at F;cases D:Ct h st.own with
 |some c'=>
  rw[D]at F;cases F;rcases Tc (v:=⟨st.nxt,t,l,p⟩) D with⟨Y,o2,g,vs,u,e2⟩|⟨Y,o2,k,g,t',L',vs,u,e2,y⟩|⟨Y,o2,g,u,e2⟩
  ·rw[u]at C;obtain⟨m1,m2,rfl,M,A⟩:=C.split;cases m2 with
   |nil=>exact A.elim
   |cons a m2=>
    obtain⟨⟨q,K,I,k2,rfl⟩,N⟩:=A;rw[H]at I;cases I;have e:=Q.mid.moreO T;refine⟨⟨by simp[SSt.see,e2,n.len],by simp only[SSt.see,e2];exact n.env.mono hx,_,rs,?_,?_,O,e.back'⟩,?_,by simp[SSt.see,e2]⟩
    ·simp only[SSt.see,e2];exact(M.mono λ_ _=>Chunk.Is.mono hx λ_ h=>h).append ⟨⟨s,_,hx.get H,⟨[_],K,rfl,⟨s',[],b,hp,rfl⟩,k2.mono hx⟩,rfl⟩,N.mono λ_ _=>Chunk.Is.mono hx λ_ h=>h⟩
    ·simp only[SSt.see,e2];exact G.mono hx λ_ h=>h
    ·simp only[SSt.see,e2];refine⟨B8b _,λc' f _=>?_,[],rfl⟩;rw[u];rcases B6g.1 f with d|d
     ·exact⟨c',B6f _ d,.inl rfl⟩
     ·rcases B5t.1 d with rfl|d
      ·exact⟨_,B54 _ (B5n ..),.inr ⟨_,_,_,_,vs,[_],rfl,rfl⟩⟩
      ·exact⟨c',B54 _ (B5j _ d),.inl rfl⟩
  ·rw[u]at C;obtain⟨m1,m2,rfl,M,A⟩:=C.split;cases m2 with
   |nil=>exact A.elim
   |cons a m2=>
    obtain⟨⟨q,K,I,k2,rfl⟩,N⟩:=A;obtain⟨v,V,W,X,v4⟩:=Ann e2;obtain⟨sv,b3,s1,s0,s2,s3⟩:=k2.at_ v V;rw[W,H]at s1;cases s1;subst X
    obtain⟨ex,P,R⟩:∃ex,((J0 h vs).sub p).At q t' L' ⟨t,l⟩ s' ex/\∀x∈ex,x∈K:=by
     rw[v4];cases hv:v.pos with
     |ei i j=>
      rw[hv]at s0;obtain⟨b1,b2,rfl⟩:=s0;cases p with
      |cut z hi=>obtain⟨c1,c2,c3,c4⟩:=hq z hi rfl;exact⟨_,⟨b1,⟨v.t,v.L⟩,s,b2,c1,c2,c3,c4,rfl⟩,s3⟩
      |_=>exact⟨[],rfl,λ_ h=>by cases h⟩
     |_=>exact⟨[],rfl,λ_ h=>by cases h⟩
    have e:=Q.mid.moreVX s2 T R;refine⟨⟨by simp[SSt.see,y,n.len],by simp only[SSt.see,y];exact n.env.mono hx,_,rs,?_,?_,O,e.back'⟩,?_,by simp[SSt.see,y]⟩
    ·simp only[SSt.see,y];exact(M.mono λ_ _=>Chunk.Is.mono hx λ_ h=>h).append ⟨⟨q,_,hx.get I,⟨_,K,rfl,⟨s',_,b,P,rfl⟩,k2.mono hx⟩,rfl⟩,N.mono λ_ _=>Chunk.Is.mono hx λ_ h=>h⟩
    ·simp only[SSt.see,y];exact G.mono hx λ_ h=>h
    ·simp only[SSt.see,y];refine⟨B8b _,λc' f _=>?_,[],rfl⟩;rw[u];rcases B6g.1 f with d|d
     ·exact⟨c',B6f _ d,.inl rfl⟩
     ·rcases B5t.1 d with rfl|d
      ·exact⟨_,B54 _ (B5n ..),.inr ⟨_,_,_,_,vs,[_],rfl,rfl⟩⟩
      ·exact⟨c',B54 _ (B5j _ d),.inl rfl⟩
  ·exact absurd e2 (hn c D)
 |none=>
  rw[D]at F;obtain⟨v,V,W,X⟩:=Pd F;obtain⟨r,U,q,q1,q2⟩:=G v V;rw[W,H]at q1;cases q1;subst X q2;have e2:=Tb (v:=⟨st.nxt,t,l,p⟩) D;have e:=Q.more (r:=rV s'.v (Ac (sz t) (fD t) l)) λS hS=>T S (hS _ U);refine⟨⟨by simp[SSt.see,e2,n.len],by simp only[SSt.see,e2];exact n.env.mono hx,_,_,?_,?_,λr hr=>B5j _ (O r hr),e⟩,?_,by simp[SSt.see,e2]⟩
  ·simp only[SSt.see,e2];exact OwnOk.mono hx (λ_ h=>B5j _ h) C
  ·simp only[SSt.see,e2];intro x o;rcases B5t.1 o with rfl|o
   ·exact⟨_,B5n ..,s',b,rfl⟩
   ·obtain⟨r,U,r2⟩:=G x o;exact⟨r,B5j _ U,r2.mono hx⟩
  ·simp only[SSt.see,e2];exact⟨B8b _,λc' f _=>⟨c',f,.inl rfl⟩,[_],rfl⟩
theorem Bh9 (s:Sv) k hi:(s.cut k 0 hi).p=s.p:=by
 unfold Sv.cut;simp only[B7n];split
 ·rfl
 ·cases s.p with
  |none=>rfl
  |some a=>simp[Addr.add]
theorem Cs.cut3{k T f} {L:List T}{S} (g:∀x,(f x).length=k) {s:Sv}{hi} (c:hi<=L.length) (h:(Ac k f L).rd S w s.v):(Ac k f ((L.take hi).drop 0)).rd S w (s.cut3 hi).v:=by
 obtain⟨a,cap,e,j,l,d⟩:=Cs.cut g (B6c hi) c h;have i:((L.take hi).drop 0).length=hi:=by simp;omega
 obtain⟨b,_,_⟩:(s.cut k 0 hi).p=a/\_/\_:=by simpa [Sv.v]using e
 rw[Bh9]at b;exact⟨a,hi,by simp only[Sv.cut3,Sv.v,b,i],by omega,by omega,d⟩
theorem Own.split{k T f} {L:List T} (A:∀x,(f x).length=k) {s:Sv}{hi lo} (h1:hi<=lo) (h2:lo<=L.length){F} (h:(Ac k f L).ow F w s.v):Sep [oC (Ac k f ((L.take hi).drop 0)) (s.cut3 hi).v,oC (Ac k f ((L.take L.length).drop lo)) (s.cut k lo L.length).v] F w:=by
 obtain⟨xs,hx,h0,F1,W,⟨g0,U,gr⟩,g2,g3,g4,g5⟩:=h;have b1:=B5v k h1;have b3:=B5v k h2;have q:((L.take L.length).drop lo).length=L.length-lo:=by simp
 have o:((L.take hi).drop 0).length=hi:=by simp;omega
 have O:Sep (((Aj (L.flatMap f) xs).take (hi*k))++((Aj (L.flatMap f) xs).drop (hi*k))) W w:=by rw[B6t];exact g2
 obtain⟨R,z,S,H,X,K,M⟩:=O.split;have I:Sep ((Aj (L.flatMap f) xs).drop (lo*k)) z w:=by have:=H.drop (lo*k-hi*k);rw[B7o,show hi*k+(lo*k-hi*k)=lo*k by omega]at this;exact this
 have zA:Aj (((L.take hi).drop 0).flatMap f) (xs.take (hi*k))=(Aj (L.flatMap f) xs).take (hi*k):=by rw[B7v,Xf A,Ae3]
 have zB:Aj (((L.take L.length).drop lo).flatMap f) (xs.drop (lo*k))=(Aj (L.flatMap f) xs).drop (lo*k):=by rw[B6m,Agm A,Am4]
 have t:(xs.take (hi*k)).length=hi*k:=by rw[B5x,U];omega
 have a:(xs.drop (lo*k)).length=(L.length-lo)*k:=by rw[B50,U,B7g]
 have y:∃l d:Bs,(Bb k (s.cut3 hi).v hi (xs.take (hi*k))).ok l w/\(Bb k (s.cut k lo L.length).v (L.length-lo) (xs.drop (lo*k))).ok d w/\(∀b,l b->¬d b)/\(∀b,l b->F1 b)/\(∀b,d b->F1 b):=by
  rcases gr with⟨e,hn⟩|⟨b,off,cap,g,N,P,e,V,Q,b5,b0,b6,r⟩
  ·obtain⟨m,e2,Y⟩:s.p=none/\s.n=0/\s.c=0:=by simpa [Sv.v]using e
   have:lo=0:=by omega
   have:hi=0:=by omega
   subst_vars
   refine⟨λ_=>False,λ_=>False,⟨(λ_ h=>h.elim),by simp,.inl ⟨by simp[Sv.cut3,Sv.v,m],rfl⟩⟩,⟨(λ_ h=>h.elim),by simpa using a,.inl ⟨by simp[Sv.cut,Sv.v,m,Y,hn],by omega⟩⟩,(λ_ h=>h.elim),(λ_ h=>h.elim),λ_ h=>h.elim⟩
  ·obtain⟨m,e2,rfl⟩:s.p=some ⟨b,off,none⟩/\s.n=L.length/\s.c=cap:=by simpa [Sv.v]using e
   have a9:=B5v k (show lo<=s.c by omega);refine⟨λx=>F1 x/\x.1=b/\off<=x.2/\x.2<off+hi*k,λx=>F1 x/\¬(x.1=b/\off<=x.2/\x.2<off+hi*k),⟨λx hx=>g0 x hx.1,t,.inr ⟨b,off,hi,g,N,P,by simp[Sv.cut3,Sv.v,m],λj C=>⟨V j (by omega),rfl,by simp only;omega,by simp only;omega⟩,Q,B6i _,by omega,by omega,?_⟩⟩,⟨λx hx=>g0 x hx.1,a,.inr ?_⟩,λx h k=>k.2 h.2,(λx h=>h.1),λx h=>h.1⟩
   ·rw[<-r,B9k,B7q (by omega)]
   ·by_cases D:s.c-lo=0
    ·refine⟨b,off,s.c-lo,g,N,P,by simp only[Sv.cut,Sv.v,if_pos D,m],λj C=>by rw[D,B7n]at C;omega,Q,by omega,by omega,by rw[D,B7n];omega,?_⟩;rw[show L.length-lo=0 by omega,B7n,List.take_zero];symm;apply B53;rw[a,show L.length-lo=0 by omega,B7n]
    ·refine⟨b,off+lo*k,s.c-lo,g,N,P,by simp only[Sv.cut,Sv.v,if_neg D,m];simp[Addr.add_lit],λj C=>?_,Q,by omega,by omega,?_,?_⟩
     ·rw[B7g]at C;refine⟨by rw[B6d];exact V _ (by omega),λhk=>?_⟩;simp only at hk;omega
     ·rw[B7g];omega
     ·rw[<-r,B84,B7o,<-B7g]
 obtain⟨l,d,r1,r2,r3,G,u⟩:=y;refine⟨h0,λx=>l x\/R x,λx=>d x\/z x,⟨xs.take (hi*k),by rw[Ic A,o,t],?_⟩,⟨λx hx=>?_,λx=>d x\/z x,λ_=>False,⟨xs.drop (lo*k),by rw[Ic A,q,a],?_⟩,(λ_ h=>h.elim),(λ_ _ h=>h),(λ_ h=>h),λ_ h=>h.elim⟩,λx hx i=>?_,λx hx=>?_,λx hx=>?_⟩
 ·rw[o,zA];exact⟨λx hx=>hx.elim (λh=>g0 x (G x h)) (λh=>S.lt x h),l,R,r1,S,λx h k=>g3 x (G x h) (K x k),(λ_ h=>.inl h),λ_ h=>.inr h⟩
 ·exact hx.elim (λh=>g0 x (u x h)) (λh=>H.lt x h)
 ·rw[q,zB];exact⟨λx hx=>hx.elim (λh=>g0 x (u x h)) (λh=>H.lt x h),d,z,r2,I,λx h k=>g3 x (u x h) (M x k),(λ_ h=>.inl h),λ_ h=>.inr h⟩
 ·rcases hx with hx|hx<;>rcases i with i|i
  ·exact r3 x hx i
  ·exact g3 x (G x hx) (M x i)
  ·exact g3 x (u x i) (K x hx)
  ·exact X x hx i
 ·exact hx.elim (λh=>g4 x (G x h)) (λh=>g5 x (K x h))
 ·exact hx.elim (λh=>g4 x (u x h)) (λh=>g5 x (M x h))
end
end
section
open Go.RowKit
theorem A56:∀(L:List UInt8) (r:ByteArray),(L.map λy=>((y.toNat:Nat):Int)).foldl (λr n=>r.push (Cac n.toNat)) r=⟨r.data++L.toArray⟩
 |[],r=>by simp
 |x::L,r=>by
  rw[B6r,B6j,A56 L];have e:Cac ((x.toNat:Int)).toNat=x:=by simp
  rw[e];cases r with
  |mk a=>show ByteArray.mk (a.push x++L.toArray)=ByteArray.mk (a++(x::L).toArray);congr 1;apply Cbx;simp
theorem A6s{S w}:∀(L:List UInt8) (xs:List Value),Br S w (L.flatMap fY) xs->xs=L.map λy=>Value.int .u8 (y.toNat:Int)
 |[],xs,h=>h
 |y::L,xs,h=>by obtain⟨v,r,e,a,b⟩:=h;have:=A6s L r b;rw[e,this,a];rfl
section
variable {P:Program} {n:Nat} {env:Env} {w:World} {d:Option Tmp} {ty:TypeId} {pos:String} {af:Array Edge} {g:Option (Nat×Bool)}
theorem Bt5{x s t e v L S} (D:P.underlying s=some (.slice e)) (F:P.underlying t=some .string) (B:P.underlying e=some (.int .u8))
  (hx:ev env x=some v) (h:(Ac 1 fY L).rd S w v):Runs P n env w ⟨d,.convert s t x,ty,pos,af,g⟩ (.string ⟨L.toArray⟩) w:=λa z=>by
 obtain⟨c,cap,rfl,G,H,q⟩:=h
 have o:(Conv.bytesToString (.slice c L.length cap)).run P w=.ok (.string ⟨L.toArray⟩) w:=by
  by_cases p:L=[]
  ·subst p;cases c with
   |none=>rfl
   |some c=>have k:=run_loadCells_list (P:=P) (w:=w) c [] (λj u l=>by simp at l);have:=run_bytesToString (P:=P) w c 0 cap [] (by simpa using k);simp only[B8i]at this;exact this
  ·obtain⟨b,off,xs,rfl,I,K,A,C⟩:=q p;have i:=A6s L xs C;have k:=run_loadCells_list (P:=P) (w:=w) ⟨b,off,none⟩ xs (λj u l=>by rw[Addr.add_lit];exact A j u l);have f:xs.length=L.length:=by rw[i,B6x]
   rw[f]at k;have r:=run_bytesToString (P:=P) w ⟨b,off,none⟩ L.length cap (L.map λy=>((y.toNat:Nat):Int)) (by rw[k,i,B9u];rfl);rw[r,A56];congr 2;simp
 simp[execOp,z.ev hx,convert,run_underlying D,run_underlying F,run_underlying B,o]
end
section
variable {P:Program} {n:Nat} {env:Env} {w:World} {w0:Base} {m:List As} {rs:List Rd} {ty:TypeId} {pos:String} {af:Array Edge}
theorem St.allocRowH{k} (h:St w0 m rs w){q cap} xs sp cur e hd (o:Wr hd cur.size) (c:cur.toList=xs++sp) (f:xs.length=q*k) (j:q<=cap) (i:cap<=maxLen) (r:cur.size=cap*k):
  St w0 (Bb k (Sv.v ⟨some ⟨w.heap.size,0,none⟩,q,cap⟩) q xs::m) rs (w.alloc (.cells cur e hd)):=
 St.upd (l:=[]) (l':=[Bb k (Sv.v ⟨some ⟨w.heap.size,0,none⟩,q,cap⟩) q xs]) h λF p=>⟨λb=>b.1=w.heap.size,⟨λb a=>by rw[show b.1=w.heap.size from a];simp,λb=>b.1=w.heap.size,λ_=>False,⟨λb a=>by rw[show b.1=w.heap.size from a];simp,f,.inr ⟨_,0,cap,_,e,hd,rfl,λ_ _=>rfl,⟨heap_alloc_new w _,o⟩,j,i,by omega,by rw[c];simp[<-f]⟩⟩,(λ_ h=>h.elim),(λ_ _ h=>h),(λ_ h=>h),λ_ h=>h.elim⟩,(Rel.alloc w _).x F,λb a=>.inr (Nat.le_of_eq (Eq.symm a))⟩
theorem Ayh {T:Type} (f:T->Ce) g (h:∀x w,(oC (f x) (g x)).ok (λ_=>False) w) w:∀l:List T,Z w [] (Aj (l.flatMap λx=>[f x]) (l.map g))
 |[]=>zN
 |x::l=>by rw[B6h,B6r];exact zP (h x) (Ayh f g h w l)
theorem B46{K} {d:Nat}{x s t e v} (B:P.underlying s=some .string) (C:P.underlying t=some (.slice e)) (u:P.underlying e=some (.int .u8)) (hx:ev env x=some (.string v)) (F:v.size<=1099511627776) (o:St w0 m rs w)
  (h:∀(s':Sv) w',Rel w w'->St w0 (oC (Ac 1 fY v.data.toList) s'.v::m) rs w'->K s'.v w'):Ex P n env w ⟨some d,.convert s t x,ty,pos,af,none⟩ K:=by
 have A:=run_bytes_of_string (P:=P) w s t e v B C u;have c:=grownCap_ge w v.size 0 e;have r:=grownCap_le_maxLen w v.size 0 e (by simp only[maxLen];omega);have f:(bytesRow v (grownCap w v.size 0 e)).size=grownCap w v.size 0 e*1:=by unfold bytesRow;rw[B79,Array.size_map,Array.size_replicate,show v.data.size=v.size from rfl];omega
 refine Ha (v:=Sv.v ⟨some ⟨w.heap.size,0,none⟩,v.size,grownCap w v.size 0 e⟩) (w':=w.drew.alloc (.cells (bytesRow v (grownCap w v.size 0 e)) e ((bytesRow v (grownCap w v.size 0 e)).size,(bytesRow v (grownCap w v.size 0 e)).size+1))) (λa p=>by simp only[execOp,p.ev hx,Sem.run_bind,A,Result.andThen_ok,Sem.run_pure];rfl) (h _ _ ((Rel.refl w).drew.trans (Rel.alloc _ _)) ?_)
 have i:=(o.drew).allocRowH (k:=1) (q:=v.size) (cap:=grownCap w v.size 0 e) (v.data.toList.map λy=>Value.int .u8 (y.toNat:Int)) (B6l (grownCap w v.size 0 e-v.size) (.int .u8 0)) (bytesRow v (grownCap w v.size 0 e)) e ((bytesRow v (grownCap w v.size 0 e)).size,(bytesRow v (grownCap w v.size 0 e)).size+1)
  (λj D z=>by simp only at z;omega) (by unfold bytesRow;simp) (by rw[B6x,B5z,Cbg];rfl) c r f
 have b:v.data.toList.length=v.size:=by rw[B5z];rfl
 refine St.rerow (xs:=v.data.toList.map λy=>Value.int .u8 (y.toNat:Int)) (by rw[B6x];exact(Ic (k:=1) (λ_=>rfl) _).trans (Cbg _)) ?_;rw[b];exact(St.iso (l:=[]) (l':=Aj (v.data.toList.flatMap fY) (v.data.toList.map λy:UInt8=>Value.int .u8 (y.toNat:Int))) (m:=Bb 1 _ v.size _::m) i (Ayh (λy:UInt8=>cY y) (λy:UInt8=>Value.int .u8 (y.toNat:Int)) (λy _=>⟨rfl,λ_ h=>h.elim⟩) _ v.data.toList)).perm B5u
end
end
section
open Go.RowKit
section
variable {ρ ρ':List HV} {rs rs':List Rd} {B:Base} {amb:List Rd} {st:SSt} {env:Env} {w:World} {R:Type} {r:R}
theorem Bg8{t x} {j:Nat}{l} (h:(A3 t x)[j]?=some l):(fD t x)[j]?=some l.ce:=by rw[Dm,B8q,h];rfl
theorem Aqq{h i c s} (hi:i<c.L.length):∀ls j st ρ,Sat B amb ρ st env w->st.cont h=some c->ρ[h]?=some (.row s)->(∀q x,ls[q]?=some x->(A3 c.t (el c.L i))[j+q]?=some x)->
  ∃ρ' vs,Ext ρ ρ'/\Sat B amb ρ' (Ih h i ls j st).2 env w/\All2 (Cell.Den ρ') (Ih h i ls j st).1 vs/\Grow st (Ih h i ls j st).2/\(Ih h i ls j st).2.env=st.env/\∀a,Rel w a->∀q u,vs[q]?=some u->a.cell? (Ch s.v (i*sz c.t+(j+q)))=some u
 |[],j,st,ρ,hs,_,_,_=>⟨ρ,[],Ext.refl ρ,hs,trivial,Grow.refl st,rfl,λ_ _ q u h=>by simp at h⟩
 |l::ls,j,st,ρ,hs,hc,hh,hl=>by
  have H:=hl 0 l rfl;have m:∀q x,ls[q]?=some x->(A3 c.t (el c.L i))[j+1+q]?=some x:=λq x g=>by have:=hl (q+1) x (by simpa using g);rwa [show j+1+q=j+(q+1)by omega]
  have n:∀(u:Value) (hu:u.oneCell'=true),l.ce=cV u hu->∀a,Rel w a->a.cell? (Ch s.v (i*sz c.t+j))=some u:=λu hu F a f=>by obtain⟨s',I,k2⟩:=(hs.rel f).rd hc;rw[hh]at I;cases I;refine Cs.get (hu:=hu) k2 (C3 c.t) hi ?_;rw[Bg8 (j:=j) (by simpa using H),F]
  have Bp:∀(x:Cell) (u:Value),x.Den ρ u->(∀a,Rel w a->a.cell? (Ch s.v (i*sz c.t+j))=some u)->
    ∃ρ' vs,Ext ρ ρ'/\Sat B amb ρ' (Ih h i ls (j+1) st).2 env w/\All2 (Cell.Den ρ') (x::(Ih h i ls (j+1) st).1) vs/\Grow st (Ih h i ls (j+1) st).2/\(Ih h i ls (j+1) st).2.env=st.env/\∀a,Rel w a->∀q u,vs[q]?=some u->a.cell? (Ch s.v (i*sz c.t+(j+q)))=some u:=λx u hx d=>by
   obtain⟨ρ',vs,k,o,p,z,A,C⟩:=Aqq hi ls (j+1) st ρ hs hc hh m;refine⟨ρ',u::vs,k,o,⟨hx.mono k,p⟩,z,A,λa f q v g=>?_⟩;cases q with
   |zero=>cases g;exact d a f
   |succ q=>rw[show j+(q+1)=j+1+q by omega];exact C a f q v (by simpa using g)
  cases l with
  |i x=>exact Bp (.i .i64 x) (.int .i64 x) rfl (n _ rfl rfl)
  |b x=>exact Bp (.b x) (.bool x) rfl (n _ rfl rfl)
  |s x=>exact Bp (.s x) (.string x) rfl (n _ rfl rfl)
  |y x=>exact Bp (.y x) (.int .u8 (x.toNat:Int)) rfl (n _ rfl rfl)
  |sl t L=>
   obtain⟨s',G,D,M,N,F,d⟩:=Bxr hs hc hh hi (j:=j) (t:=t) (l:=L) (by simpa using H);have hx:=Ext.one ρ (.row s');obtain⟨ρ',vs,k,o,p,z,A,C⟩:=Aqq hi ls (j+1) _ _ G D (hx.get hh) m;have e:=Dp ρ (.row s');rw[hs.len]at e;refine⟨ρ',s'.v::vs,hx.trans k,o,⟨⟨s',k.get e,rfl⟩,p⟩,M.trans z,A.trans F,λa f q v g=>?_⟩;cases q with
   |zero=>cases g;exact d a f
   |succ q=>rw[show j+(q+1)=j+1+q by omega];exact C a f q v (by simpa using g)
theorem Bm5 {s:Sv}{a o} (h:s.p=some ⟨a,o,none⟩) j q:(Ch s.v j).add q=Ch s.v (j+q):=by
 obtain⟨p,m,c⟩:=s;simp only at h;subst h;simp only[Sv.v,Ch];unfold Addr.add;split
 ·rename_i b;rw[b,B9v]
 ·rw[B6d]
theorem Xw{h i}:∀ls j st,(Ih h i ls j st).1.length=ls.length
 |[],_,_=>rfl
 |.i _::r,j,st=>congrArg (· +1) (Xw r (j+1) st)
 |.b _::r,j,st=>congrArg (· +1) (Xw r (j+1) st)
 |.s _::r,j,st=>congrArg (· +1) (Xw r (j+1) st)
 |.y _::r,j,st=>congrArg (· +1) (Xw r (j+1) st)
 |.sl _ _::r,j,_=>congrArg (· +1) (Xw r (j+1) _)
def LkOk (B:Base) (amb:List Rd) (ρ:List HV) (st:SSt) (env:Env) (w:World) (op:Op) (K:SV->SSt->Option R) (r:R):Prop:=
 ∃sv v a ρ',K sv a=some r/\Ext ρ ρ'/\Sat B amb ρ' a env w/\sv.Den ρ' v/\Grow st a/\a.env=st.env/\∀b,Rel w b->∀n d ty pos af g,Runs Tryz.prog n env b ⟨d,op,ty,pos,af,g⟩ v b
def LkAll (B:Base) (amb:List Rd) (ρ:List HV) (st:SSt) (env:Env) (w:World) (op:Op) (K:SV->SSt->Option R) (r:R):Prop:=
 ∃sv v a ρ',K sv a=some r/\Ext ρ ρ'/\Sat B amb ρ' a env w/\sv.Den ρ' v/\Grow st a/\a.env=st.env/\∀b n d ty pos af g,Runs Tryz.prog n env b ⟨d,op,ty,pos,af,g⟩ v b
variable {op:Op} {K:SV->SSt->Option R}
theorem LkAll.ok (h:LkAll B amb ρ st env w op K r):LkOk B amb ρ st env w op K r:=by obtain⟨sv,v,a,ρ',b,c,d,e,f,g,i⟩:=h;exact⟨sv,v,a,ρ',b,c,d,e,f,g,λj _=>i j⟩
theorem LkAll.same (f:Sat B amb ρ st env w){sv v} (c:K sv st=some r) (b:sv.Den ρ v) (e:∀a n d ty pos af g,Runs Tryz.prog n env a ⟨d,op,ty,pos,af,g⟩ v a):LkAll B amb ρ st env w op K r:=
 ⟨sv,v,st,ρ,c,Ext.refl ρ,f,b,Grow.refl st,rfl,e⟩
theorem LkOk.same (f:Sat B amb ρ st env w){sv v} (c:K sv st=some r) (b:sv.Den ρ v) (e:∀a,Rel w a->∀n d ty pos af g,Runs Tryz.prog n env a ⟨d,op,ty,pos,af,g⟩ v a):LkOk B amb ρ st env w op K r:=
 ⟨sv,v,st,ρ,c,Ext.refl ρ,f,b,Grow.refl st,rfl,e⟩
theorem Brf (a:Sat B amb ρ st env w){x} (h:Rp st x K=some r):LkOk B amb ρ st env w (.move x) K r:=by
 unfold Rp at h;split at h
 ·rename_i v d;obtain⟨u,b,c⟩:=a.env.evS d;exact .same a h c λ_ _ _ _ _ _ _ _=>Asd b
 ·cases h
theorem Bq0 (a:Sat B amb ρ st env w){x} (h:Rp st x K=some r):LkOk B amb ρ st env w (.assign x) K r:=by
 unfold Rp at h;split at h
 ·rename_i v d;obtain⟨u,b,c⟩:=a.env.evS d;exact .same a h c λ_ _ _ _ _ _ _ _=>Ar9 b
 ·cases h
theorem Brg (a:Sat B amb ρ st env w){x} (h:Ahl st x K=some r):LkOk B amb ρ st env w (.nilCheck x) K r:=by
 unfold Ahl at h;split at h
 ·rename_i k o e;obtain⟨u,c,b,d,rfl⟩:=a.env.evC e;exact .same a h ⟨b,d,rfl⟩ λ_ _ _ _ _ _ _ _=>A6p c
 ·rename_i k q i j e;obtain⟨u,c,b,d,rfl,f⟩:=a.env.evC e;exact .same a h ⟨b,d,rfl,f⟩ λ_ _ _ _ _ _ _ _=>A6p c
 ·cases h
theorem Bq6 (a:Sat B amb ρ st env w){x i} (h:Ahg st x i K=some r):LkOk B amb ρ st env w (.extract x i) K r:=by
 unfold Ahg at h;split at h
 ·rename_i l g;split at h
  ·rename_i v f;obtain⟨u,b,vs,c,rfl⟩:=a.env.evS g;obtain⟨z,d,e⟩:=c.nth f;exact .same a h e λ_ _ _ _ _ _ _ _=>Buc b (by simpa using d)
  ·cases h
 ·cases h
theorem Brh (a:Sat B amb ρ st env w){x t} (h:Ahm st x K=some r):LkOk B amb ρ st env w (.unOp .not t x) K r:=by
 unfold Ahm at h;split at h
 ·rename_i b d;exact .same a h (sv:=.v (.c (.b !b))) rfl λ_ _ _ _ _ _ _ _=>Ail (a.env.evB d)
 ·cases h
theorem Buf{n env w d ty pos af g x t q off j} {s:Sv}{a o fs fd size bytes z} (h:Tryz.prog.underlying t=some (.struct fs)) (e:fs[q]?=some fd) (ho:fd.offset=off)
  (f:Sz Tryz.prog fd.type size bytes z) (b:s.p=some ⟨a,o,none⟩) (hx:ev env x=some (.pointer (some (Ch s.v j)))):
  Runs Tryz.prog n env w ⟨d,.fieldAddr t x q,ty,pos,af,g⟩ (.pointer (some (Ch s.v (j+off)))) w:=by
 obtain⟨p,m,c⟩:=s;simp only at b;subst b;simp only[Sv.v,Ch]at hx⊢;rw[<-B6d];exact A6m h e ho f hx
theorem Fu{a b} (h:kq a b=true):a=b:=of_decide_eq_true h
theorem A3i{t} (h:Ap9 t=true):Tryz.prog.underlying t=some .bool:=by
 unfold Ap9 at h;split at h
 ·rename_i ti e;obtain⟨⟨d,c,b⟩,_⟩:=F7 e;split at h
  ·rename_i a;rw[a]at b;cases b;exact c
  ·cases h
 ·cases h
theorem Abb{t} (h:Ug t=true):Tryz.prog.underlying t=some .string:=by
 unfold Ug at h;split at h
 ·rename_i ti e;obtain⟨⟨d,c,b⟩,_⟩:=F7 e;split at h
  ·rename_i a;rw[a]at b;cases b;exact c
  ·cases h
 ·cases h
theorem Tx{t e ei} (h:Nh t=some (e,ei)):Tryz.prog.underlying t=some (.slice e)/\TIok Tryz.prog e ei:=by
 unfold Nh at h;split at h
 ·rename_i ti j;obtain⟨⟨d,g,c⟩,_⟩:=F7 j;split at h
  ·rename_i f b;rw[b]at c;cases c;cases a:F6 f with
   |none=>rw[a]at h;cases h
   |some i=>rw[a]at h;cases h;exact⟨g,F7 a⟩
  ·cases h
 ·cases h
theorem bt{b x} (h:(bif b then x else none)=some r):b=true/\x=some r:=by
 cases b with
 |true=>exact⟨rfl,h⟩
 |false=>cases h
theorem Bqj{t} (h:A3j t=true):Tryz.prog.underlying t=some (.interface (Tryz.prog.methodsAt t)):=by cases B5k h;kernel_rfl
theorem Bq5 (p:Sat B amb ρ st env w){op x y t u ok v} (hx:ev env x=some v) (k:ev env y=some .nilIface) (o:(Cell.er ok).Den ρ v) (h:Ahf st op t y ok K=some r):LkOk B amb ρ st env w (.binOp op t x y u) K r:=by
 unfold Ahf at h;have e:=(bt h).1;replace h:=(bt h).2;have j:=Bqj e;split at h
 ·rename_i q;refine .same p h (sv:=.v (.c (.b ok))) (v:=.bool ok) rfl λi _ n d ty pos af g a f=>?_;rcases o with⟨rfl,rfl⟩|⟨rfl,l,m,rfl⟩
  ·simp[execOp,f.ev hx,f.ev k,eqGuard,Go.run_eql_nil_nil (P:=Tryz.prog) i t j]
  ·simp[execOp,f.ev hx,f.ev k,eqGuard,Go.run_eql_held_nil (P:=Tryz.prog) i t l m j]
 ·rename_i q;refine .same p h (sv:=.v (.c (.b !ok))) (v:=.bool !ok) rfl λi _ n d ty pos af g a f=>?_;rcases o with⟨rfl,rfl⟩|⟨rfl,l,m,rfl⟩
  ·simp[execOp,f.ev hx,f.ev k,eqGuard,Go.run_neq_nil_nil (P:=Tryz.prog) i t j]
  ·simp[execOp,f.ev hx,f.ev k,eqGuard,Go.run_neq_held_nil (P:=Tryz.prog) i t l m j]
 ·cases h
theorem Bq2{C} (l:Sat B amb ρ st env w){op x y t u} (h:Ahd C st op t x y K=some r):LkOk B amb ρ st env w (.binOp op t x y u) K r:=by
 unfold Ahd at h;split at h
 ·rename_i ok H I;obtain⟨S,o,A⟩:=l.env.ev1 H;obtain⟨T,p,D⟩:=l.env.ev1 I;cases D.1;exact Bq5 l o p A h
 ·rename_i a b H I;obtain⟨S,o,A⟩:=l.env.ev1 H;obtain⟨T,p,D⟩:=l.env.ev1 I;unfold Z5 at h;split at h
  ·rename_i a b;split at h
   ·rename_i c F;unfold A78 at F;split at F
    ·rename_i M k q W m;obtain⟨O,F⟩:=bt F;cases F;cases B5k O;obtain⟨rfl,_,s,s1,Q,_⟩:=A;obtain⟨rfl,s',L,X⟩:=D;rw[s1]at L;cases L;refine .same l h (sv:=.v (.c (.b true))) (v:=.bool true) rfl λU _ n d ty pos af g=>?_;have:=Asc (P:=Tryz.prog) (n:=n) (w:=U) (d:=d) (ty:=ty) (pos:=pos) (af:=af) (g:=g) (t:=t) (u:=u) o p;rwa [show decide ((k:Int)<(m:Int))=true by simp;omega]at this
    ·rename_i M k q;cases F;obtain⟨rfl,z,s,s1,Q,L⟩:=A;cases D;exact .same l h (sv:=.v (.c (.sx M k q))) (v:=iv ((k:Int)+1)) ⟨rfl,z⟩ λ_ _ _ _ _ _ _ _=>Gd o p ⟨by omega,by omega⟩
    ·cases F
   ·split at h
    ·rename_i V i k2 j z N;cases Wo A z;cases Wo D N;unfold Z6 at h;split at h
     ·obtain⟨e,f⟩:=bt h;cases Fu e;exact .same l f (sv:=.v (.c (.b _))) rfl λ_ _ _ _ _ _ _ _=>Asc o p
     ·obtain⟨e,f⟩:=bt h;cases Fu e;exact .same l f (sv:=.v (.c (.b _))) rfl λ_ _ _ _ _ _ _ _=>Bun o p
     ·obtain⟨e,f⟩:=bt h;cases Fu e;exact .same l f (sv:=.v (.c (.b _))) rfl λ_ _ _ _ _ _ _ _=>Aik o p
     ·obtain⟨e,f⟩:=bt h;cases Fu e;exact .same l f (sv:=.v (.c (.b _))) rfl λ_ _ _ _ _ _ _ _=>Bug o p
     ·obtain⟨e,f⟩:=bt h;cases Fu e;exact .same l f (sv:=.v (.c (.b _))) rfl λ_ _ _ _ _ _ _ _=>R6 o p
     ·obtain⟨e,f⟩:=bt h;cases Fu e;exact .same l f (sv:=.v (.c (.b _))) rfl λ_ _ _ _ _ _ _ _=>Buu o p
     ·obtain⟨e,f⟩:=bt h;simp only[B5l]at e;cases Fu e.1;cases Fu e.2;cases G:C.wrap with
      |true=>rw[G]at f;exact .same l f (sv:=.v (.c (.i .i64 _))) rfl λ_ _ _ _ _ _ _ _=>Bt3 o p
      |false=>rw[G]at f;obtain⟨z,f⟩:=Bf f;exact .same l f (sv:=.v (.c (.i .i64 _))) rfl λ_ _ _ _ _ _ _ _=>Gd o p z
     ·obtain⟨e,f⟩:=bt h;simp only[B5l]at e;cases Fu e.1;cases Fu e.2;obtain⟨z,f⟩:=Bf f;exact .same l f (sv:=.v (.c (.i .i64 _))) rfl λ_ _ _ _ _ _ _ _=>Aim o p z
     ·obtain⟨e,f⟩:=bt h;simp only[B5l]at e;cases Fu e.1;cases Fu e.2;cases G:C.wrap with
      |true=>rw[G]at f;exact .same l f (sv:=.v (.c (.i .i64 _))) rfl λ_ _ _ _ _ _ _ _=>But o p
      |false=>rw[G]at f;obtain⟨z,f⟩:=Bf f;exact .same l f (sv:=.v (.c (.i .i64 _))) rfl λ_ _ _ _ _ _ _ _=>Bus o p z
     ·obtain⟨e,f⟩:=bt h;simp only[B5l]at e;cases Fu e.1;cases Fu e.2;obtain⟨z,f⟩:=Bf f;exact .same l f (sv:=.v (.c (.i .i64 _))) rfl λ_ _ _ _ _ _ _ _=>Bu0 o p z
     ·obtain⟨e,f⟩:=bt h;simp only[B5l]at e;cases Fu e.1;cases Fu e.2;obtain⟨z,f⟩:=Bf f;exact .same l f (sv:=.v (.c (.i .i64 _))) rfl λ_ _ _ _ _ _ _ _=>Buz o p z
     ·obtain⟨e,f⟩:=bt h;simp only[B5l]at e;cases Fu e.1;cases Fu e.2;exact .same l f (sv:=.v (.c (.i .i64 _))) rfl λ_ _ _ _ _ _ _ _=>Bt4 o p
     ·obtain⟨e,f⟩:=bt h;simp only[B5l]at e;cases Fu e.1;cases Fu e.2;exact .same l f (sv:=.v (.c (.i .i64 _))) rfl λ_ _ _ _ _ _ _ _=>Bvd o p
     ·obtain⟨e,f⟩:=bt h;cases Fu e;obtain⟨z,f⟩:=Bf f;exact .same l f (sv:=.v (.c (.i .i64 _))) rfl λ_ _ _ _ _ _ _ _=>Bu1 o p z
     ·cases h
    ·split at h
     ·cases A;cases D;split at h
      ·have e:=(bt h).1;replace h:=(bt h).2;exact .same l h (sv:=.v (.c (.b _))) rfl λ_ _ _ _ _ _ _ _=>Bua (A3i e) o p
      ·have e:=(bt h).1;replace h:=(bt h).2;exact .same l h (sv:=.v (.c (.b _))) rfl λ_ _ _ _ _ _ _ _=>Buv (A3i e) o p
      ·cases h
     ·cases A;cases D;split at h
      ·have z:=(Bf h).1;replace h:=(Bf h).2;exact .same l h (sv:=.v (.c (.s _))) rfl λ_ _ _ _ _ _ _ _=>Bt2 o p z
      ·exact .same l h (sv:=.v (.c (.b _))) rfl λ_ _ _ _ _ _ _ _=>Bub o p
      ·exact .same l h (sv:=.v (.c (.b _))) rfl λ_ _ _ _ _ _ _ _=>Buw o p
      ·exact .same l h (sv:=.v (.c (.b _))) rfl λ_ _ _ _ _ _ _ _=>Buo o p
      ·exact .same l h (sv:=.v (.c (.b _))) rfl λ_ _ _ _ _ _ _ _=>Buh o p
      ·cases h
     ·cases h
  ·cases h
 ·cases h
theorem Ao5{t k off fi} (h:Agh t k=some (off,fi)):∃fs f,Tryz.prog.underlying t=some (.struct fs)/\fs[k]?=some f/\f.offset=off/\TIok Tryz.prog f.type fi:=by
 unfold Agh at h;split at h
 ·rename_i ti o;obtain⟨⟨d,m,g⟩,_⟩:=F7 o;split at h
  ·rename_i fs e;rw[e]at g;obtain⟨l,rfl,n⟩:=g;split at h
   ·rename_i j p b;rw[Jv,<-n,B8q]at b;cases c:l.toList[k]? with
    |none=>rw[c]at b;cases b
    |some f=>
     rw[c]at b;cases b;cases a:F6 f.type with
     |none=>rw[a]at h;cases h
     |some i=>rw[a]at h;cases h;exact⟨l,f,m,by simpa using c,rfl,F7 a⟩
   ·cases h
  ·cases h
 ·cases h
theorem Bq7 (a:Sat B amb ρ st env w){x t k} (h:Ahh st t x k K=some r):LkOk B amb ρ st env w (.fieldAddr t x k) K r:=by
 unfold Ahh at h;split at h
 ·rename_i q o off A hx p;obtain⟨fs,f,d,e,g,⟨_,z,l,_⟩⟩:=Ao5 p;obtain⟨u,m,b,n,rfl⟩:=a.env.evC hx;exact .same a h (sv:=.v (.c (.ptr q (o+off)))) ⟨b,n,rfl⟩ λ_ _ _ _ _ _ _ _=>A6m d e g l m
 ·rename_i q s i j off A hx p;obtain⟨fs,f,d,e,g,⟨_,z,l,_⟩⟩:=Ao5 p;obtain⟨u,m,b,n,rfl,C,D,F,y⟩:=a.env.evC hx;exact .same a h (sv:=.v (.c (.ep q s i (j+off)))) ⟨b,n,by rw[<-B6d],C,D,F,y⟩ λ_ _ _ _ _ _ _ _=>Buf d e g l y m
 ·cases h
theorem Ajs{k d} (h:k.Is d) (a:Uf k=false):Xz d=true:=by
 cases k with
 |struct fs=>cases a
 |other=>exact h
 |_=>cases h;rfl
theorem Bqh{t d} (hu:Tryz.prog.underlying t=some d) (a:Xz d=true) w:(isAgg t).run Tryz.prog w=.ok false w:=by simp only[isAgg,Sem.run_bind,run_underlying hu,Result.andThen_ok];cases d<;>first|rfl|cases a
theorem Aqp{ti cs o v} (h:Abh ti cs o=some v){vs} (d:All2 (Cell.Den ρ) cs vs):
  (Uf ti.k=true/\((vs.drop o).take ti.size).length=ti.size/\v.Den ρ (.agg ((vs.drop o).take ti.size).toArray))\/(Uf ti.k=false/\∃u,vs[o]?=some u/\v.Den ρ u):=by
 unfold Abh at h;cases f:Uf ti.k with
 |true=>rw[f]at h;have e:=(bt h).1;replace h:=(bt h).2;cases h;have a:=(d.drop o).take ti.size;exact .inl ⟨rfl,by rw[<-a.len];exact B5k e,_,a,rfl⟩
 |false=>
  rw[f]at h;cases b:nth cs o with
  |none=>rw[b]at h;cases h
  |some c=>rw[b]at h;cases h;obtain⟨u,a,g⟩:=d.nth b;exact .inr ⟨rfl,u,a,g⟩
theorem Bq8 (e:Sat B amb ρ st env w){x t k} (h:Ahi st t x k K=some r):LkOk B amb ρ st env w (.field t x k) K r:=by
 unfold Ahi at h;split at h
 ·rename_i cs off q hx y;obtain⟨fs,f,i,j,m,⟨⟨d,o,c⟩,z,p,_⟩⟩:=Ao5 y;obtain⟨u,n,vs,s,rfl⟩:=e.env.ev1 hx;split at h
  ·rename_i v A;rcases Aqp A s with⟨b,k2,g⟩|⟨b,u,k2,g⟩
   ·refine .same e h (sv:=.v v) g λC _ _ _ _ _ _ _=>Bue i j n (λw=>?_) p ?_
    ·cases a:q.k with
     |struct l=>rw[a]at c;obtain⟨l',rfl,_⟩:=c;exact Bgi o w
     |_=>rw[a]at b;cases b
    ·rw[m];apply Cbx;simp[List.extract_eq_take_drop]
   ·exact .same e h (sv:=.v v) g λC _ _ _ _ _ _ _=>Bud i j n (λw=>Bqh o (Ajs c b) w) (by rw[m];simpa using k2)
  ·cases h
 ·cases h
theorem Brc (C:Sat B amb ρ st env w){x t} (h:Ahk st t x K=some r):LkOk B amb ρ st env w (.load t x) K r:=by
 unfold Ahk at h;split at h
 ·rename_i q o ti hx V;obtain⟨u,F,b,N,rfl⟩:=C.env.evC hx;obtain⟨⟨d,G,A⟩,z,X,_⟩:=F7 V;split at h
  ·rename_i cs hb;split at h
   ·rename_i v hv;obtain⟨m,rs,m1,m2,m3,hM⟩:=C.mem;obtain⟨b',e,vs,T,b2,U⟩:=Th m1 hb;rw[N]at T;cases T;rcases Aqp hv b2 with⟨P,k2,Y⟩|⟨P,u,k2,Y⟩
    ·cases f:ti.k with
     |struct l=>rw[f]at A;obtain⟨l',rfl,_⟩:=A;exact .same C h (sv:=.v v) Y λM D _ _ _ _ _ _=>Buk G X F k2 (hM.call D) U rfl
     |_=>rw[f]at P;cases P
    ·exact .same C h (sv:=.v v) Y λM D _ _ _ _ _ _=>Buj G (Ajs A P) F (hM.call D) U (by simpa using k2)
   ·cases h
  ·cases h
 ·rename_i q k i j ti hx V;obtain⟨u,F,s,N,rfl,h3,a,o,h4⟩:=C.env.evC hx;obtain⟨⟨d,G,A⟩,z,X,_⟩:=F7 V;split at h
  ·rename_i c hc;have e:=(bt h).1;replace h:=(bt h).2;simp only[B5l]at e;have e1:=B5k e.1;have e2:j+ti.size<=k:=B7e e.2;subst e1;obtain⟨s',s1,s2⟩:=C.rd hc;rw[N]at s1;cases s1;obtain⟨sf,I,c3,_,_⟩:=Cs.form s2
   have hi:i<c.L.length:=by
    have:s=sf:=by obtain⟨Q,S,n⟩:=s;obtain⟨T,b2,U⟩:=sf;simp only[Sv.v,Value.slice.injEq]at I;obtain⟨rfl,rfl,rfl⟩:=I;rfl
    subst this;omega
   have H:(((A3 c.t (el c.L i)).drop j).take ti.size).length=ti.size:=by rw[B5x,B50,G5];omega
   obtain⟨ρ',vs,Q,S,n,a4,a5,a6⟩:=Aqq (s:=s) hi (((A3 c.t (el c.L i)).drop j).take ti.size) j st ρ C hc N (λp x O=>by
    rw[B68]at O;split at O
    ·rwa [B6y]at O
    ·cases O)
   have W:vs.length=ti.size:=by rw[<-n.len,Xw,H]
   cases g:Uf ti.k with
   |true=>
    rw[g]at h;refine⟨.v (.a _),.agg vs.toArray,_,ρ',h,Q,S,⟨vs,n,rfl⟩,a4,a5,λM D _ _ _ _ _ _=>?_⟩;cases f:ti.k with
    |struct l=>rw[f]at A;obtain⟨l',rfl,_⟩:=A;refine A6o G X F W λq u hq=>?_;have:=a6 M D q u hq;rw[<-this];rw[Bm5 h4,B6d]
    |_=>rw[f]at g;cases g
   |false=>
    rw[g]at h;simp only[cond_false]at h;split at h
    ·rename_i y hy;rw[hy]at n;cases vs with
     |nil=>exact n.elim
     |cons v vs=>
      cases vs with
      |nil=>exact⟨.v (.c _),v,_,ρ',h,Q,S,n.1,a4,a5,λM D _ _ _ _ _ _=>A6n G (Ajs A g) F (by have:=a6 M D 0 v rfl;simpa using this)⟩
      |cons v' vs=>exact n.2.elim
    ·cases h
  ·cases h
 ·cases h
theorem A38 (l:Sat B amb ρ st env w){x y t} (h:Xs st t x y K=some r):LkAll B amb ρ st env w (.indexAddr t x y) K r:=by
 unfold Xs at h;split at h
 ·rename_i q i e ei hx X V;obtain⟨u,S,s,F,rfl⟩:=l.env.evC hx;obtain⟨v,g1,g2⟩:=l.env.evC X;obtain⟨t1,_,z,N,_⟩:=Tx V;split at h
  ·rename_i c T;have P:=(bt h).1;replace h:=(bt h).2;rw[B5k P]at N;obtain⟨s',s1,T0,f0,L0,s3,C⟩:=l.rdI T;rw[F]at s1;cases s1;have a:∀n:Int,v=.int .i64 n->0<=n/\n<(c.L.length:Int)->(SV.v (.c (.ep q (sz c.t) n.toNat 0))).Den ρ (.pointer (some (Ch s.v (n.toNat*sz c.t))))/\∀I n' d ty pos af g,Runs Tryz.prog n' env I ⟨d,.indexAddr t x y,ty,pos,af,g⟩ (.pointer (some (Ch s.v (n.toNat*sz c.t)))) I:=λn W A=>by subst W;obtain⟨b,off,Y,cap,M⟩:=Cs.ptr C (i:=n.toNat) (by omega);obtain⟨H,f,j,_,_⟩:=Cs.form C;obtain⟨p,m,O⟩:=s;obtain⟨p',m',D⟩:=H;simp only[Sv.v,Value.slice.injEq]at M f j;refine⟨⟨_,F,by rw[B9v],by simp only;omega,b,off,M.1⟩,λI _ _ _ _ _ _=>Bui t1 N S g1 C (by omega)⟩
   split at h
   ·rename_i u' k Q;obtain⟨rfl,_,s',g3,g4,_⟩:=g2;cases G:B5w q Q with
    |true=>
     rw[G]at h;cases B5k G;rw[F]at g3;cases g3;obtain⟨H,f,j,_,_⟩:=Cs.form C;have U:k<c.L.length:=by obtain⟨p,m,O⟩:=s;obtain⟨p',m',D⟩:=H;simp only[Sv.v,Value.slice.injEq]at f j g4;omega
     obtain⟨o,k2⟩:=a (k:Int) rfl ⟨by omega,by omega⟩;exact .same l h o k2
    |false=>rw[G]at h;have A:=(Bf h).1;replace h:=(Bf h).2;obtain⟨o,k2⟩:=a (k:Int) rfl A;exact .same l h o k2
   ·rename_i n;cases g2;have A:=(Bf h).1;replace h:=(Bf h).2;obtain⟨o,k2⟩:=a n rfl A;exact .same l h o k2
   ·cases h
  ·cases h
 ·cases h
theorem Bra (a:Sat B amb ρ st env w){x y t} (h:Xs st t x y K=some r):LkOk B amb ρ st env w (.indexAddr t x y) K r:=(A38 a h).ok
theorem Bri (a:Sat B amb ρ st env w){x y t} (h:Ahn st t x y K=some r):LkOk B amb ρ st env w (.index t x y) K r:=by
 unfold Ahn at h;split at h
 ·rename_i s c hx i;obtain⟨u,b,d⟩:=a.env.evC hx;cases d;obtain⟨v,g1,g2⟩:=a.env.evC i;split at h
  ·rename_i n g;cases Wo g2 g;have e:=(bt h).1;replace h:=(bt h).2;have f:=(Bf h).1;replace h:=(Bf h).2;exact .same a h (sv:=.v (.c (.y _))) rfl λ_ _ _ _ _ _ _ _=>Bu2 (Abb e) b g1 f
  ·cases h
 ·cases h
theorem Ls{a b l m} (h:Ia a b l=some m):∃e:a=b,e▸l=m:=by
 unfold Ia at h;split at h
 ·rename_i c;cases h;exact⟨Ty.eq_of_beq c,rfl⟩
 ·cases h
theorem A1j{t} (h:Aga t=true):∃e,Tryz.prog.underlying t=some (.slice e)/\Tryz.prog.underlying e=some (.int .u8):=by
 unfold Aga at h;split at h
 ·rename_i e ei f;obtain⟨g,⟨d,c,b⟩,_⟩:=Tx f;unfold isY at h;split at h
  ·rename_i a;rw[a]at b;cases b;exact⟨e,g,c⟩
  ·cases h
 ·cases h
theorem Bq1 (b:Sat B amb ρ st env w){x s t q v} (g1:ev env x=some v.v) (g2:ρ[q]?=some (.row v)) (h:Ahc st s t q K=some r):LkOk B amb ρ st env w (.convert s t x) K r:=by
 unfold Ahc at h;have e:=(bt h).1;replace h:=(bt h).2;simp only[B5l]at e;obtain⟨l,g,e2⟩:=A1j e.2;split at h
 ·rename_i c j;split at h
  ·rename_i L i;obtain⟨m,L'⟩:=c;obtain⟨d,k2⟩:=Ls i;simp only at d;subst d;simp only at k2;subst k2;refine .same b h (sv:=.v (.c (.s _))) rfl λo k _ _ _ _ _ _=>?_;obtain⟨n,a,f⟩:=(b.rel k).rd j;rw[g2]at a;cases a;exact Bt5 (L:=L') g (Abb e.1) e2 g1 f
  ·cases h
 ·cases h
theorem Bq4 (f:Sat B amb ρ st env w){x s t} (h:Ahe st s t x K=some r):LkOk B amb ρ st env w (.convert s t x) K r:=by
 unfold Ahe at h;split at h
 ·rename_i n m ti hx g j;obtain⟨u,g1,g2⟩:=f.env.evC hx;cases g2;obtain⟨⟨d,k,_⟩,_⟩:=F7 g;obtain⟨⟨o,b,a⟩,_⟩:=F7 j;split at h
  ·rename_i l;rw[l]at a;cases a;exact .same f h (sv:=.v (.c (.i .i64 _))) rfl λ_ _ _ _ _ _ _ _=>Bt8 k b g1 (B4g _)
  ·cases h
 ·rename_i n m ti hx g j;obtain⟨u,g1,g2⟩:=f.env.evC hx;cases g2;obtain⟨⟨d,k,_⟩,_⟩:=F7 g;obtain⟨⟨o,b,a⟩,_⟩:=F7 j;have e:=(bt h).1;replace h:=(bt h).2;unfold isY at e;split at e
  ·rename_i l;rw[l]at a;cases a;exact .same f h (sv:=.v (.c (.y _))) rfl λ_ _ _ _ _ _ _ _=>Bt9 k b g1
  ·cases e
 ·rename_i q m ti hx g j;obtain⟨u,g1,v,g2,rfl⟩:=f.env.evC hx;exact Bq1 f g1 g2 h
 ·cases h
theorem A1t (a:EnvOk ρ st.env env):∀ {os:List Operand} {l:List (Nat×Nat)},Agf st.env os=some l->∃vs,evs env os=some vs/\All2 (CapIs ρ) l vs
 |[],l,h=>by cases h;exact⟨[],rfl,trivial⟩
 |o::os,l,h=>by
  unfold Agf at h;split at h
  ·rename_i q k ho;obtain⟨l',c,d⟩:=Af h;cases d;obtain⟨u,g1,b,g2,rfl⟩:=a.evC ho;obtain⟨vs,e,k2⟩:=A1t a c;exact⟨pt b k::vs,by simp[evs,g1,e],⟨b,g2,rfl⟩,k2⟩
  ·cases h
theorem Bq9 (a:Sat B amb ρ st env w){f caps} (h:Ahj st f caps K=some r):LkOk B amb ρ st env w (.makeFunc (.func f) #[] caps.toArray) K r:=by
 unfold Ahj at h;split at h
 ·rename_i l e;obtain⟨vs,b,d⟩:=A1t a.env e;exact .same a h (sv:=.v (.c (.fn f l))) ⟨vs,rfl,d⟩ λ_ _ _ _ _ _ _ _=>Bur b
 ·cases h
theorem A39 (a:Sat B amb ρ st env w){args tys} (h:Xt st args tys K=some r):LkAll B amb ρ st env w (.call ⟨.builtin .len,args.toArray,tys.toArray⟩) K r:=by
 unfold Xt at h;split at h
 ·rename_i x t;split at h
  ·rename_i q hx;obtain⟨u,d,s,b,rfl⟩:=a.env.evC hx;split at h
   ·rename_i c e n f;obtain⟨s',s1,k⟩:=a.rd n;rw[b]at s1;cases s1;obtain⟨o,g,j,y,z⟩:=Cs.form k;refine .same a h (sv:=.v (.c (.ln q c.L.length))) (v:=.int .i64 (c.L.length:Int)) ⟨rfl,s,b,?_⟩ λ_ _ _ _ _ _ _=>Bul (Tx (e:=e.1) (ei:=e.2) f).1 d k;obtain⟨p,m,A⟩:=s;obtain⟨C,m',l⟩:=o;simp only[Sv.v,Value.slice.injEq]at g j;simp only[maxLen]at*;omega
   ·cases h
  ·rename_i hx;obtain⟨u,d,b⟩:=a.env.evC hx;cases b;split at h
   ·rename_i e f;exact .same a h (sv:=.v (.c (.i .i64 0))) (v:=.int .i64 ((0:Nat):Int)) rfl λ_ _ _ _ _ _ _=>Mb (Tx (e:=e.1) (ei:=e.2) f).1 d
   ·cases h
  ·rename_i s hx;obtain⟨u,d,b⟩:=a.env.evC hx;cases b;have e:=(bt h).1;replace h:=(bt h).2;exact .same a h (sv:=.v (.c (.i .i64 _))) rfl λ_ _ _ _ _ _ _=>Bum (Abb e) d
  ·cases h
 ·cases h
theorem Brb (a:Sat B amb ρ st env w){args tys} (h:Xt st args tys K=some r):LkOk B amb ρ st env w (.call ⟨.builtin .len,args.toArray,tys.toArray⟩) K r:=(A39 a h).ok
theorem I1 (b:EnvOk ρ st.env env){o n} (h:I0 st.env o=some n):ev env o=some (.int .i64 n):=by
 unfold I0 at h;split at h
 ·rename_i c a;obtain⟨v,e,f⟩:=b.evC a;split at h
  ·rename_i m d;cases h;rw[e,Wo f d]
  ·cases h
 ·cases h
theorem Buq{P n x y tys i j} {d:Option Nat}{ty pos af g} (hx:ev env x=some (.int .i64 i)) (c:ev env y=some (.int .i64 j)):
  Runs P n env w ⟨d,.call {callee:=.builtin .min,args:= #[x,y],argTypes:=tys},ty,pos,af,g⟩ (.int .i64 (min i j)) w:=λa b=>by
 have:(if j<i then j else i)=min i j:=by split<;>omega
 simp[execOp,resolve,invoke,builtin,b.ev hx,b.ev c,Builtin.min_,Builtin.min2,this]
theorem Bup{P n x y tys i j} {d:Option Nat}{ty pos af g} (hx:ev env x=some (.int .i64 i)) (c:ev env y=some (.int .i64 j)):
  Runs P n env w ⟨d,.call {callee:=.builtin .max,args:= #[x,y],argTypes:=tys},ty,pos,af,g⟩ (.int .i64 (max i j)) w:=λa b=>by
 have:(if i<j then j else i)=max i j:=by split<;>omega
 simp[execOp,resolve,invoke,builtin,b.ev hx,b.ev c,Builtin.max_,Builtin.max2,this]
theorem Bre (d:Sat B amb ρ st env w){args tys} (h:Ro st min args K=some r):LkOk B amb ρ st env w (.call ⟨.builtin .min,args.toArray,tys⟩) K r:=by
 unfold Ro at h;split at h
 ·split at h
  ·rename_i a b e f;exact .same d h (sv:=.v (.c (.i .i64 _))) rfl λ_ _ _ _ _ _ _ _=>Buq (I1 d.env e) (I1 d.env f)
  ·cases h
 ·cases h
theorem Brd (d:Sat B amb ρ st env w){args tys} (h:Ro st max args K=some r):LkOk B amb ρ st env w (.call ⟨.builtin .max,args.toArray,tys⟩) K r:=by
 unfold Ro at h;split at h
 ·split at h
  ·rename_i a b e f;exact .same d h (sv:=.v (.c (.i .i64 _))) rfl λ_ _ _ _ _ _ _ _=>Bup (I1 d.env e) (I1 d.env f)
  ·cases h
 ·cases h
theorem Anq (j:Sat B amb ρ st env w){op q c} (y:st.cont q=some c){s} (z:ρ[q]?=some (.row s)){lo hi} (a:lo<=hi) (b:hi<=c.L.length) (h:M1 st q c.t ((c.L.take hi).drop lo) (.cut lo hi) K=some r)
  (C:∀k n d ty pos af g,Runs Tryz.prog n env k ⟨d,op,ty,pos,af,g⟩ (s.cut (sz c.t) lo hi).v k):LkAll B amb ρ st env w op K r:=by
 unfold M1 at h;have i:=(bt h).1;replace h:=(bt h).2;obtain⟨m,o,u⟩:=A9o j y z (t:=c.t) (l:=(c.L.take hi).drop lo) (s':=s.cut (sz c.t) lo hi) (p:=.cut lo hi) (λc' f e=>by simp[Aq9,f,e]at i) (λS x=>Cs.cut (C3 c.t) a b x) ⟨a,b,rfl,rfl,rfl⟩ λD A e=>by cases e;exact⟨a,b,rfl,rfl⟩
 exact⟨_,_,_,_,h,Ext.one ρ _,m,⟨_,by rw[<-j.len];exact Dp _ _,rfl⟩,o,u,C⟩
theorem Ay4{p}:∀ {vs:List View},Wt vs=some p->∃v∈vs,v.h=p.1/\v.pos=.c3 p.2
 |[],h=>by cases h
 |v::r,h=>by
  unfold Wt at h;split at h
  ·rename_i hi c;cases h;exact⟨v,B5n ..,rfl,c⟩
  ·obtain⟨u,a,b⟩:=Ay4 h;exact⟨u,B5j _ a,b⟩
theorem A77{h n i k p}:∀ {own:List Chunk},Of h n i k own=some p->∃a b g t L vs f,own=a++ .row h g t L vs::b/\Wt vs=some (f,p.1.1)/\p.1.2=L.length/\sz t=k/\p.2=a++ .row f (n+1) t ((L.take p.1.1).drop 0) []::.row n (n+2) t ((L.take L.length).drop i) []::b
 |[],hc=>by cases hc
 |c::r,hc=>by
  have d:(∃z,Of h n i k r=some z/\(z.1,c::z.2)=p)->∃a b g t L vs f,c::r=a++ .row h g t L vs::b/\Wt vs=some (f,p.1.1)/\p.1.2=L.length/\sz t=k/\p.2=a++ .row f (n+1) t ((L.take p.1.1).drop 0) []::.row n (n+2) t ((L.take L.length).drop i) []::b:=λ⟨z,v,e⟩=>by subst e;obtain⟨y,o2,g,t,L,vs,f,j,e2,m,o,s⟩:=A77 v;exact⟨c::y,o2,g,t,L,vs,f,by rw[j];rfl,e2,m,o,by simp only[s];rfl⟩
  cases c with
  |row u g t L vs=>
   simp only[Of]at hc;cases l:B5w u h with
   |true=>
    rw[l]at hc;simp only[cond_true]at hc;split at hc
    ·rename_i q x;have j:=(bt hc).1;replace hc:=(bt hc).2;cases hc;cases B5k l;exact⟨[],r,g,t,L,vs,q.1,rfl,x,rfl,B5k j,rfl⟩
    ·cases hc
   |false=>rw[l]at hc;simp only[cond_false,B5s]at hc;exact d hc
  |box _ _ _=>simp only[Of,B5s]at hc;exact d hc
  |sha _ _ _ _=>simp only[Of,B5s]at hc;exact d hc
  |hol _ _ _ _ _ _ _=>simp only[Of,B5s]at hc;exact d hc
  |rem _ _ _ _ _=>simp only[Of,B5s]at hc;exact d hc
theorem Byi (e:Sat B amb ρ st env w){op q c} (W:st.cont q=some c){s} (C:ρ[q]?=some (.row s)){lo} (U:lo<=c.L.length) (h:splitK st q lo c.t ((c.L.take c.L.length).drop lo) (.cut lo c.L.length) K=some r)
  (Y:∀(T:Type) (f:T->List Ce) (L:List T),(Ac (sz c.t) f L).rd (al w) w s.v->lo<=L.length->∀w1 n d ty pos af g,Runs Tryz.prog n env w1 ⟨d,op,ty,pos,af,g⟩ (s.cut (sz c.t) lo L.length).v w1):LkAll B amb ρ st env w op K r:=by
 unfold splitK at h;split at h
 ·rename_i p hp;have x:=(Bf h).1;replace h:=(Bf h).2;obtain⟨o1,o2,g,t,L,vs,hA,O,e2,e3,P,Q⟩:=A77 hp;rw[e3]at x;obtain⟨m,rs,S,g2,g3,V⟩:=e.mem;rw[O]at S;obtain⟨m1,m2,rfl,a1,I⟩:=S.split;cases m2 with
  |nil=>exact I.elim
  |cons a m2=>
   obtain⟨⟨q',vl,k,k2,rfl⟩,a3⟩:=I;rw[C]at k;cases k;obtain⟨v,v1,v2,v3⟩:=Ay4 e2;obtain⟨sA,ex,M,N,_,_⟩:=k2.at_ v v1;rw[v3]at N;obtain⟨c1,c2,c3,_⟩:=N;simp only at v2;rw[v2]at M;have D:=V.mid.seeOV (B5n ..)
   have y:St B ([oC (Ac (sz t) (fD t) ((L.take p.1.1).drop 0)) (s.cut3 p.1.1).v,oC (Ac (sz t) (fD t) ((L.take L.length).drop lo)) (s.cut (sz t) lo L.length).v]++(m1++m2)) rs w:=
    St.iso (l:=[oC (Ac (sz t) (fD t) L) s.v]) V.mid.unview λF ⟨h0,F1,F2,f1,f2,f3,f4,f5⟩=>(Own.split (C3 t) x.1 x.2 f1).up f4 h0
   have G:=Ext.one ρ (.row (s.cut (sz t) lo L.length));have hx:Ext ρ (ρ++[.row (s.cut (sz t) lo L.length)]++[.num 0]++[.num 0]):=(G.trans (Ext.one _ _)).trans (Ext.one _ _);have X:(ρ++[.row (s.cut (sz t) lo L.length)]++[.num 0]++[.num 0])[st.nxt]?=some (.row (s.cut (sz t) lo L.length)):=by have:=Dp ρ (.row (s.cut (sz t) lo L.length));rw[e.len]at this;exact(Ext.one _ _).get ((Ext.one _ _).get this)
   have A:St B (m1++oV (oC (Ac (sz t) (fD t) ((L.take p.1.1).drop 0)) (s.cut3 p.1.1).v) []::oV (oC (Ac (sz t) (fD t) ((L.take L.length).drop lo)) (s.cut (sz t) lo L.length).v) []::m2) rs w:=by
    refine(St.perm (m':=m1++([oC (Ac (sz t) (fD t) ((L.take p.1.1).drop 0)) (s.cut3 p.1.1).v,oC (Ac (sz t) (fD t) ((L.take L.length).drop lo)) (s.cut (sz t) lo L.length).v]++m2)) y (by
     rw[<-B5r,<-B5r];exact B56.append_right m2)).z λF hF=>?_
    have u:∀ {o:As} {l:List As} {F:Bs},Sep (o::l) F w->Sep (oV o []::l) F w:=λh=>Z.toV _ h
    have H:∀(m1:List As) {F:Bs},Sep (m1++oC (Ac (sz t) (fD t) ((L.take p.1.1).drop 0)) (s.cut3 p.1.1).v::oC (Ac (sz t) (fD t) ((L.take L.length).drop lo)) (s.cut (sz t) lo L.length).v::m2) F w->Sep (m1++oV (oC (Ac (sz t) (fD t) ((L.take p.1.1).drop 0)) (s.cut3 p.1.1).v) []::oV (oC (Ac (sz t) (fD t) ((L.take L.length).drop lo)) (s.cut (sz t) lo L.length).v) []::m2) F w:=by
     intro m1;induction m1 with
     |nil=>intro F h;exact u (h.cons_mono λ_=>u)
     |cons a m1 ih=>intro F h;exact h.cons_mono λ_=>ih
    exact H m1 hF
   refine⟨_,_,_,_,h,hx,⟨by simp[e.len],e.env.mono hx,_,rs,?_,g2.mono hx λ_ h=>h,g3,A⟩,⟨_,X,rfl⟩,⟨by simp only;omega,λc' i j=>?_,[],rfl⟩,rfl,by rw[P];exact Y _ _ _ (by rw[<-P];exact D) x.2⟩
   ·simp only[Q];exact(a1.mono λ_ _=>Chunk.Is.mono hx λ_ h=>h).append ⟨⟨_,[],hx.get M,rfl,by rw[c3]⟩,⟨_,[],X,rfl,rfl⟩,a3.mono λ_ _=>Chunk.Is.mono hx λ_ h=>h⟩
   ·rw[O];simp only[Q]at i;rcases B6g.1 i with b|b
    ·exact⟨c',B6f _ b,.inl rfl⟩
    ·rcases B5t.1 b with rfl|b
     ·simp only[Ew]at j;omega
     ·rcases B5t.1 b with rfl|b
      ·simp only[Ew]at j;omega
      ·exact⟨c',B54 _ (B5j _ b),.inl rfl⟩
 ·refine Anq e W C U (B6i _) h ?_;obtain⟨s',k,k2⟩:=e.rd W;rw[C]at k;cases k;exact Y _ _ _ k2 U
theorem Bu6{T f} {L:List T}{k n S w1 w P env} {d:Option Nat}{ty pos af g x hi mx t e bytes z} {s:Sv}{j} (D:P.underlying t=some (.slice e)) (C:Sz P e k bytes z)
  (hx:ev env x=some s.v) (l:ev env hi=some (.int .i64 j)) (m:ev env mx=some (.int .i64 j)) (h:(Ac k f L).rd S w1 s.v) (F:0<=j/\j<=(L.length:Int)):
  Runs P n env w ⟨d,.slice t x none (some hi) (some mx),ty,pos,af,g⟩ (s.cut3 j.toNat).v w:=λb i=>by
 obtain⟨s',q,e2,G,_⟩:=Cs.form h;obtain rfl:s=s':=by cases s;cases s';simpa [Sv.v]using q
 have u:0<=j/\j<=(s.c:Int):=by omega
 have y:0<=j/\j<=(j.toNat:Int):=by omega
 have o:b.eval x=.slice s.p s.n s.c:=i.ev hx
 have A:(if j.toNat=0 then s.p else s.p.map (·.add (0*k)))=s.p:=by
  split
  ·rfl
  ·cases s.p with
   |none=>rfl
   |some a=>simp[Addr.add]
 simp only[execOp,o,i.ev l,i.ev m,B77,B8w,Instr.sliceAt,Sem.run_bind,run_underlying D,Result.andThen_ok,Instr.slice,Instr.sliceBounds,Instr.sliceBound,asIntOf,Sem.run_pure,Sem.run_ite,if_pos u,if_pos y,C.run,Cad,Sv.cut3,Sv.v,A]
theorem Bvb{P n env w} {d:Option Nat}{ty pos af g x lo hi t s i j} (k:P.underlying t=some .string)
  (hx:ev env x=some (.string s)) (e:ev env lo=some (.int .i64 i)) (c:ev env hi=some (.int .i64 j)) (l:0<=i/\i<=j/\j<=(s.size:Int)):
  Runs P n env w ⟨d,.slice t x (some lo) (some hi) none,ty,pos,af,g⟩ (.string (s.extract i.toNat j.toNat)) w:=λb a=>by
 have f:0<=j/\j<=(s.size:Int):=by omega
 have h:0<=i/\i<=(j.toNat:Int):=by omega
 simp only[execOp,a.ev hx,a.ev e,a.ev c,B77,B8w,Instr.sliceAt,Sem.run_bind,run_underlying k,Result.andThen_ok,Instr.slice,Instr.sliceBounds,Instr.sliceBound,asIntOf,Sem.run_pure,Sem.run_ite,if_pos f,if_pos h,B71,B6q,if_false]
theorem Bvc{P n env w} {d:Option Nat}{ty pos af g x lo t s i} (f:P.underlying t=some .string)
  (hx:ev env x=some (.string s)) (a:ev env lo=some (.int .i64 i)) (e:0<=i/\i<=(s.size:Int)):
  Runs P n env w ⟨d,.slice t x (some lo) none none,ty,pos,af,g⟩ (.string (s.extract i.toNat s.size)) w:=λb c=>by
 simp only[execOp,c.ev hx,c.ev a,B77,B8w,Instr.sliceAt,Sem.run_bind,run_underlying f,Result.andThen_ok,Instr.slice,Instr.sliceBounds,Instr.sliceBound,asIntOf,Sem.run_pure,Sem.run_ite,if_pos e,B71,B6q,if_false]
theorem Brl (b:Sat B amb ρ st env w){x t s lo hi} (hx:ev env x=some (.string s)) (h:Ahp st t s lo hi K=some r):LkAll B amb ρ st env w (.slice t x lo hi none) K r:=by
 unfold Ahp at h;have e:=(bt h).1;replace h:=(bt h).2;have g:=Abb e;split at h
 ·split at h
  ·rename_i i j a f;have d:=(Bf h).1;replace h:=(Bf h).2;exact .same b h (sv:=.v (.c (.s _))) rfl λ_ _ _ _ _ _ _=>Bvb g hx (I1 b.env a) (I1 b.env f) d
  ·cases h
 ·split at h
  ·rename_i i a;have d:=(Bf h).1;replace h:=(Bf h).2;exact .same b h (sv:=.v (.c (.s _))) rfl λ_ _ _ _ _ _ _=>Bvc g hx (I1 b.env a) d
  ·cases h
 ·cases h
theorem A6v{h p}:∀ {own:List Chunk},U3 h own=some p->∃a b g,own=a++ .rem h g p.1.t p.1.L p.1.hi::b/\p.2=a++b
 |[],hc=>by cases hc
 |c::r,hc=>by
  have d:(∃z,U3 h r=some z/\(z.1,c::z.2)=p)->∃a b g,c::r=a++ .rem h g p.1.t p.1.L p.1.hi::b/\p.2=a++b:=λ⟨z,j,e⟩=>by subst e;obtain⟨l,o2,g,i,e2⟩:=A6v j;exact⟨c::l,o2,g,by rw[i];rfl,by simp only[e2];rfl⟩
  cases c with
  |rem k g t L hi=>
   simp only[U3]at hc;cases f:B5w k h with
   |true=>rw[f]at hc;cases hc;cases B5k f;exact⟨[],r,g,rfl,rfl⟩
   |false=>rw[f]at hc;simp only[cond_false,B5s]at hc;exact d hc
  |_=>simp only[U3,B5s]at hc;exact d hc
theorem Bu9 {T:Type}{k n w P env} {d:Option Nat}{ty pos af g x lo t e bytes z} {s:Sv}{i} {L:List T} (u:P.underlying t=some (.slice e)) (q:Sz P e k bytes z)
  (hx:ev env x=some s.v) (a:ev env lo=some (.int .i64 i)) (h:s.n=L.length/\s.n<=s.c) (m:0<=i/\i<=(L.length:Int)):
  Runs P n env w ⟨d,.slice t x (some lo) none none,ty,pos,af,g⟩ (s.cut k i.toNat L.length).v w:=λb j=>by
 have o:0<=i/\i<=(L.length:Int):=m;have l:(s.c-i.toNat=0)=(s.c=i.toNat):=by apply propext;omega
 have f:b.eval x=.slice s.p L.length s.c:=by rw[<-h.1];exact j.ev hx
 simp only[execOp,f,j.ev a,B77,B8w,Instr.sliceAt,Sem.run_bind,run_underlying u,Result.andThen_ok,Instr.slice,Instr.sliceBounds,Instr.sliceBound,asIntOf,Sem.run_pure,Sem.run_ite,if_pos o,q.run,B71,B6q,if_false,l,Sv.cut_eq]
theorem Bvh (j:Sat B amb ρ st env w){x t e ei q C hi s} (V:Nh t=some (e,ei)) (g1:ev env x=some s.v) (g2:ρ[q]?=some (.row s)) (h:Yf st q ei.size C hi K=some r):LkAll B amb ρ st env w (.slice t x C hi none) K r:=by
 obtain⟨Y,_,z,I,_⟩:=Tx V;unfold Yf at h;split at h
 ·rename_i C;split at h
  ·rename_i i d own A U;have P:=(bt h).1;replace h:=(bt h).2;have hg:=(Bf h).1;replace h:=(Bf h).2;rw[B5k P]at I;obtain⟨o1,o2,g,e2,k⟩:=A6v U;simp only at e2 k;obtain⟨m,rs,F,W,X,T⟩:=j.mem;rw[e2]at F;obtain⟨m1,m2,rfl,N,D⟩:=F.split;cases m2 with
   |nil=>exact D.elim
   |cons a m2=>
    obtain⟨⟨q',H,rfl⟩,O⟩:=D;rw[g2]at H;cases H;have c:=T.mid;obtain⟨F0,u⟩:=c.at' (B5n ..);have f:=oRe.form u
    have p:St B (oC (Ac (sz d.t) (fD d.t) ((d.L.take d.L.length).drop i.toNat)) (s.cut (sz d.t) i.toNat d.L.length).v::(m1++m2)) rs w:=
     St.iso (l:=[oRe (sz d.t) (fD d.t) d.L s.v d.hi]) (l':=[oC (Ac (sz d.t) (fD d.t) ((d.L.take d.L.length).drop i.toNat)) (s.cut (sz d.t) i.toNat d.L.length).v]) c λ_ ⟨Q,F1,M,S,h⟩=>⟨Q,F1,M,oRe.cut (C3 d.t) (by omega) (by omega) S,h⟩
    have hx:=Ext.one ρ (.row (s.cut (sz d.t) i.toNat d.L.length));have G:(ρ++[.row (s.cut (sz d.t) i.toNat d.L.length)])[st.nxt]?=some (.row (s.cut (sz d.t) i.toNat d.L.length)):=by have:=Dp ρ (.row (s.cut (sz d.t) i.toNat d.L.length));rw[j.len]at this;exact this
    refine⟨_,_,_,_,h,hx,⟨by simp[j.len],j.env.mono hx,oV (oC (Ac (sz d.t) (fD d.t) ((d.L.take d.L.length).drop i.toNat)) (s.cut (sz d.t) i.toNat d.L.length).v) []::(m1++m2),rs,⟨⟨_,[],G,rfl,rfl⟩,?_⟩,W.mono hx λ_ h=>h,X,p.z Z.toV⟩,⟨_,G,rfl⟩,⟨by simp only;omega,λc' b y=>?_,[],rfl⟩,rfl,λw1 n d' ty pos af g=>Bu9 Y I g1 (I1 j.env A) f (by omega)⟩
    ·simp only[k];exact(N.mono λ_ _=>Chunk.Is.mono hx λ_ h=>h).append (O.mono λ_ _=>Chunk.Is.mono hx λ_ h=>h)
    ·rw[e2];rcases B5t.1 b with rfl|b
     ·simp only[Ew]at y;omega
     ·simp only[k]at b;rcases B6g.1 b with o|o
      ·exact⟨c',B6f _ o,.inl rfl⟩
      ·exact⟨c',B54 _ (B5j _ o),.inl rfl⟩
  ·cases h
 ·cases h
theorem A4a (a:Sat B amb ρ st env w){x t l hi} (h:Xu st t x l hi K=some r):LkAll B amb ρ st env w (.slice t x l hi none) K r:=by
 unfold Xu at h;split at h
 ·rename_i q e ei hx o;obtain⟨u,g1,s,g2,rfl⟩:=a.env.evC hx;obtain⟨n,_,z,m,_⟩:=Tx o;split at h
  ·rename_i c g;have y:=(bt h).1;replace h:=(bt h).2;rw[B5k y]at m;obtain⟨s',s1,p⟩:=a.rd g;rw[g2]at s1;cases s1;split at h
   ·rename_i l hi;split at h
    ·rename_i i j b d;have k:=(Bf h).1;replace h:=(Bf h).2;exact Anq a g g2 (by omega) (by omega) h λv _ _ _ _ _ _=>Bu5 n m g1 (I1 a.env b) (I1 a.env d) p k
    ·cases h
   ·rename_i hi;split at h
    ·rename_i j d;have k:=(Bf h).1;replace h:=(Bf h).2;exact Anq a g g2 (by omega) (by omega) h λv _ _ _ _ _ _=>Bu7 n m g1 (I1 a.env d) p k
    ·cases h
   ·rename_i l;split at h
    ·rename_i i b;have k:=(Bf h).1;replace h:=(Bf h).2;exact Byi a g g2 (by omega) h λT f L A C v _ _ _ _ _ _=>Bu8 n m g1 (I1 a.env b) A (by omega)
    ·cases h
   ·cases h
  ·exact Bvh a o g1 g2 h
 ·rename_i s hx;obtain⟨u,g1,g2⟩:=a.env.evC hx;cases g2;exact Brl a g1 h
 ·cases h
theorem Brk (a:Sat B amb ρ st env w){x t lo hi} (h:Xu st t x lo hi K=some r):LkOk B amb ρ st env w (.slice t x lo hi none) K r:=(A4a a h).ok
theorem Brj (a:Sat B amb ρ st env w){x hi mx t} (h:Aho st t x hi mx K=some r):LkOk B amb ρ st env w (.slice t x none (some hi) (some mx)) K r:=by
 unfold Aho at h;split at h
 ·rename_i q e ei hx H;obtain⟨u,g1,s,g2,rfl⟩:=a.env.evC hx;obtain⟨N,_,z,m,_⟩:=Tx H;split at h
  ·rename_i c j mm k F G;have y:=(bt h).1;replace h:=(bt h).2;rw[B5k y]at m;obtain⟨s',s1,M⟩:=a.rd k;rw[g2]at s1;cases s1;have C:=(Bf h).1;replace h:=(Bf h).2;obtain⟨d,f,g⟩:=C;subst f;unfold M1 at h;have i:=(bt h).1;replace h:=(bt h).2;obtain⟨n,o,v⟩:=A9o a k g2 (t:=c.t) (l:=(c.L.take j.toNat).drop 0) (s':=s.cut3 j.toNat) (p:=.c3 j.toNat) (λc' b e=>by simp only[Aq9,b,e,B6q]at i) (λS A=>Cs.cut3 (C3 c.t) (by omega) A) ⟨by omega,rfl,rfl,rfl⟩ λI D e=>by cases e
   exact⟨_,_,_,_,h,Ext.one ρ _,n,⟨_,by rw[<-a.len];exact Dp _ _,rfl⟩,o,v,λO _ _ _ _ _ _ _=>Bu6 N m g1 (I1 a.env F) (I1 a.env G) M ⟨d,g⟩⟩
  ·cases h
 ·cases h
theorem Aqs{C} (a:Sat B amb ρ st env w){op} (h:Ku C st op K=some r):LkOk B amb ρ st env w op K r:=by
 unfold Ku at h;split at h
 ·exact Brf a h
 ·exact Bq0 a h
 ·exact Brg a h
 ·exact Bq6 a h
 ·exact Bq2 a h
 ·exact Brh a h
 ·exact Bq7 a h
 ·exact Bq8 a h
 ·exact Brc a h
 ·exact Bra a h
 ·exact Bri a h
 ·exact Bq4 a h
 ·rename_i f b caps;split at h
  ·rename_i c;have:b= #[]:=by cases b;simpa using c
   subst this;exact Bq9 a h
  ·cases h
 ·exact Brb a h
 ·exact Bre a h
 ·exact Brd a h
 ·exact Brk a h
 ·exact Brj a h
 ·cases h
end
end
section
open Go.RowKit
section
variable {ρ ρ':List HV} {rs rs':List Rd} {B:Base} {amb:List Rd} {st:SSt} {env:Env} {w:World} {m:List As}
theorem Yi{h p}:∀ {own:List Chunk},F4 h own=some p->∃e f g vs,own=e++ .row h g p.1.t p.1.L vs::f/\p.2=e++f
 |[],hc=>by cases hc
 |.box k g cs::r,hc=>by simp only[F4,B5s]at hc;obtain⟨q,c,rfl⟩:=hc;obtain⟨d,o2,b,vs,a,e2⟩:=Yi c;exact⟨.box k g cs::d,o2,b,vs,by rw[a];rfl,by simp[e2]⟩
 |.sha k g t L::r,hc=>by simp only[F4,B5s]at hc;obtain⟨q,c,rfl⟩:=hc;obtain⟨d,o2,b,vs,a,e2⟩:=Yi c;exact⟨.sha k g t L::d,o2,b,vs,by rw[a];rfl,by simp[e2]⟩
 |.hol k g t L i j o::r,hc=>by simp only[F4,B5s]at hc;obtain⟨q,c,rfl⟩:=hc;obtain⟨d,o2,b,vs,a,e2⟩:=Yi c;exact⟨.hol k g t L i j o::d,o2,b,vs,by rw[a];rfl,by simp[e2]⟩
 |.rem k g t L i::r,hc=>by simp only[F4,B5s]at hc;obtain⟨q,c,rfl⟩:=hc;obtain⟨d,o2,b,vs,a,e2⟩:=Yi c;exact⟨.rem k g t L i::d,o2,b,vs,by rw[a];rfl,by simp[e2]⟩
 |.row k g t L vs::r,hc=>by
  simp only[F4]at hc;cases l:B5w k h with
  |true=>rw[l]at hc;cases hc;cases B5k l;exact⟨[],r,g,vs,rfl,rfl⟩
  |false=>rw[l]at hc;simp only[cond_false,B5s]at hc;obtain⟨q,c,rfl⟩:=hc;obtain⟨d,o2,b,n,a,e2⟩:=Yi c;exact⟨.row k g t L vs::d,o2,b,n,by rw[a];rfl,by simp[e2]⟩
theorem Ws{h p}:∀ {own:List Chunk},Dw h own=some p->∃d e,own=d++ .box h p.1.1 p.1.2::e/\p.2=d++e
 |[],hc=>by cases hc
 |.row k g t L vs::r,hc=>by simp only[Dw,B5s]at hc;obtain⟨q,b,rfl⟩:=hc;obtain⟨c,o2,a,e2⟩:=Ws b;exact⟨.row k g t L vs::c,o2,by rw[a];rfl,by simp[e2]⟩
 |.sha k g t L::r,hc=>by simp only[Dw,B5s]at hc;obtain⟨q,b,rfl⟩:=hc;obtain⟨c,o2,a,e2⟩:=Ws b;exact⟨.sha k g t L::c,o2,by rw[a];rfl,by simp[e2]⟩
 |.hol k g t L i j o::r,hc=>by simp only[Dw,B5s]at hc;obtain⟨q,b,rfl⟩:=hc;obtain⟨c,o2,a,e2⟩:=Ws b;exact⟨.hol k g t L i j o::c,o2,by rw[a];rfl,by simp[e2]⟩
 |.rem k g t L i::r,hc=>by simp only[Dw,B5s]at hc;obtain⟨q,b,rfl⟩:=hc;obtain⟨c,o2,a,e2⟩:=Ws b;exact⟨.rem k g t L i::c,o2,by rw[a];rfl,by simp[e2]⟩
 |.box k g cs::r,hc=>by
  simp only[Dw]at hc;cases f:B5w k h with
  |true=>rw[f]at hc;cases hc;cases B5k f;exact⟨[],r,rfl,rfl⟩
  |false=>rw[f]at hc;simp only[cond_false,B5s]at hc;obtain⟨q,b,rfl⟩:=hc;obtain⟨c,o2,a,e2⟩:=Ws b;exact⟨.box k g cs::c,o2,by rw[a];rfl,by simp[e2]⟩
def OwnLe (own a:List Chunk):Prop:=∀c∈a,c∈own
theorem OwnLe.refl own:OwnLe own own:=λ_ h=>h
theorem OwnLe.trans{a b c} (h:OwnLe a b) (k:OwnLe b c):OwnLe a c:=λx hx=>h x (k x hx)
theorem OwnLe.mid{own1 a x}:OwnLe (own1++x::a) (own1++a):=λc h=>by
 rcases B6g.1 h with h|h
 ·exact B6f _ h
 ·exact B54 _ (B5j _ h)
theorem Md{h p own} (i:F4 h own=some p) (f:OwnOk ρ rs own m):OwnLe own p.2/\∃s m',ρ[h]?=some (.row s)/\OwnOk ρ rs p.2 m'/\∀w,Z w m (oC (Ac (sz p.1.t) (fD p.1.t) p.1.L) s.v::m'):=by
 obtain⟨k,o2,g,vs,e,e2⟩:=Yi i;subst e;obtain⟨m1,m2,rfl,c,b⟩:=f.split;cases m2 with
 |nil=>exact b.elim
 |cons a m2=>obtain⟨⟨s,l,j,k2,rfl⟩,d⟩:=b;exact⟨by rw[e2];exact OwnLe.mid,s,m1++m2,j,by rw[e2];exact c.append d,λw=>(Z.perm B5u).trans Z.unV⟩
theorem Azk{h c}:∀ {vs:List View},cutV h vs=some c->∃v∈vs,v.h=h/\c=⟨v.t,v.L⟩/\∃b hi,v.pos=.cut b hi
 |[],hc=>by cases hc
 |v::r,hc=>by
  simp only[cutV]at hc;cases a:B5w v.h h with
  |true=>
   rw[a]at hc;simp only[cond_true]at hc;split at hc
   ·rename_i b hi f;cases hc;exact⟨v,B5n ..,B5k a,rfl,b,hi,f⟩
   ·cases hc
  |false=>rw[a]at hc;obtain⟨u,d,e⟩:=Azk hc;exact⟨u,B5j _ d,e⟩
theorem A6x{h}:∀ {own:List Chunk} {p:Cont×List Chunk} {m:List As},Oa h own=some p->OwnOk ρ rs own m->OwnLe own p.2/\∃s m',ρ[h]?=some (.row s)/\OwnOk ρ rs p.2 m'/\∀w,Z w m (oC (Ac (sz p.1.t) (fD p.1.t) p.1.L) s.v::m')
 |[],p,m,hc,_=>by cases hc
 |c::r,p,[],_,h1=>h1.elim
 |c::r,p,a::m,hc,⟨h1,h2⟩=>by
  have b:(∃z,Oa h r=some z/\(z.1,c::z.2)=p)->OwnLe (c::r) p.2/\∃s m',ρ[h]?=some (.row s)/\OwnOk ρ rs p.2 m'/\∀w,Z w (a::m) (oC (Ac (sz p.1.t) (fD p.1.t) p.1.L) s.v::m'):=λ⟨z,I,e⟩=>by
   subst e;obtain⟨O,s,m',f,k2,N⟩:=A6x I h2
   exact⟨λx hx=>by
    rcases B5t.1 hx with rfl|hx
    ·exact B5n ..
    ·exact B5j _ (O x hx),s,a::m',f,⟨h1,k2⟩,λw=>(N w).cons.trans (Z.perm (List.Perm.swap ..))⟩
  cases c with
  |row k g t L vs=>
   simp only[Oa]at hc;obtain⟨q,T,f,k2,rfl⟩:=h1;cases d:B5w k h with
   |true=>rw[d]at hc;cases hc;cases B5k d;exact⟨λx hx=>B5j _ hx,q,m,f,h2,λw=>Z.unV⟩
   |false=>
    rw[d]at hc;simp only[cond_false]at hc;split at hc
    ·rename_i c M;cases hc;obtain⟨v,Q,R,rfl,P,hi,S⟩:=Azk M;obtain⟨s',ex,i,j,_,_⟩:=k2.at_ v Q;rw[S]at j;obtain⟨n,o,u,rfl,_⟩:=j;rw[R]at i;refine⟨λx hx=>B5j _ hx,q.cut (sz t) P hi,m,i,h2,λw F K=>?_⟩;obtain⟨H,F1,l,y,A,C,D,G⟩:=K;refine⟨H,F1,l,?_,A,C,D,G⟩;rw[u];exact Own.cut (C3 t) n o y.1
    ·simp only[B5s]at hc;exact b hc
  |box _ _ _=>simp only[Oa,B5s]at hc;exact b hc
  |sha _ _ _ _=>simp only[Oa,B5s]at hc;exact b hc
  |hol _ _ _ _ _ _ _=>simp only[Oa,B5s]at hc;exact b hc
  |rem _ _ _ _ _=>simp only[Oa,B5s]at hc;exact b hc
theorem A49{h p}:∀ {vs:List View},X2 h vs=some p->∃v∈vs,v.h=h/\p.2=⟨v.t,v.L⟩/\J0 h vs=v.pos/\(v.pos=.ei p.1.1 p.1.2\/∃c hi,v.pos=.ec p.1.1 p.1.2 c hi)
 |[],hc=>by cases hc
 |v::r,hc=>by
  simp only[X2]at hc;cases a:B5w v.h h with
  |true=>
   rw[a]at hc;simp only[cond_true]at hc;split at hc
   ·rename_i i j b;cases hc;exact⟨v,B5n ..,B5k a,rfl,by simp only[J0,a,cond_true],.inl b⟩
   ·rename_i i j c hi b;cases hc;exact⟨v,B5n ..,B5k a,rfl,by simp only[J0,a,cond_true],.inr ⟨c,hi,b⟩⟩
   ·cases hc
  |false=>rw[a]at hc;obtain⟨u,d,e,f,g,k⟩:=A49 hc;exact⟨u,B5j _ d,e,f,by simp only[J0,a,cond_false];exact g,k⟩
theorem A5d{t L} {q:Sv}{vl i j} {a:Sv}{t0 L0} (d:vC (Ch q.v (i*sz t+j)) a.v∈vl) (hi:i<L.length) (c:(A3 t (el L i))[j]?=some (.sl t0 L0)) (b:St B (oV (oC (Ac (sz t) (fD t) L) q.v) vl::m) rs w):
  St B (oC (Ac (sz t0) (fD t0) L0) a.v::H0 (sz t) (fD t) L q.v (i*sz t+j) a.v::m) rs w:=
 b.open d (C3 t) hi (by rw[Dm,B8q,c];rfl)
theorem A6w{h n p}:∀ {own:List Chunk},N9 h n own=some p->∃a b k g t L vs z,own=a++ .row k g t L vs::b/\X2 h vs=some z/\p.1=z.2/\p.2=a++ .hol k n t L z.1.1 z.1.2 (X5 h n vs)::b
 |[],hc=>by cases hc
 |c::r,hc=>by
  have d:(∃z,N9 h n r=some z/\(z.1,c::z.2)=p)->∃a b k g t L vs z,c::r=a++ .row k g t L vs::b/\X2 h vs=some z/\p.1=z.2/\p.2=a++ .hol k n t L z.1.1 z.1.2 (X5 h n vs)::b:=λ⟨z,l,e⟩=>by subst e;obtain⟨q,o2,k,g,t,L,vs,s,f,e2,i,j⟩:=A6w l;exact⟨c::q,o2,k,g,t,L,vs,s,by rw[f];rfl,e2,i,by simp only[j];rfl⟩
  cases c with
  |row k g t L vs=>
   simp only[N9]at hc;split at hc
   ·rename_i z o;cases hc;exact⟨[],r,k,g,t,L,vs,z,rfl,o,rfl,rfl⟩
   ·simp only[B5s]at hc;exact d hc
  |box _ _ _=>simp only[N9,B5s]at hc;exact d hc
  |sha _ _ _ _=>simp only[N9,B5s]at hc;exact d hc
  |hol _ _ _ _ _ _ _=>simp only[N9,B5s]at hc;exact d hc
  |rem _ _ _ _ _=>simp only[N9,B5s]at hc;exact d hc
theorem Bsr (i:Sat B amb ρ st env w) h:∃ρ',Ext ρ ρ'/\Sat B amb ρ' (Rx h st) env w/\Grow st (Rx h st)/\(Rx h st).env=st.env:=by
 unfold Rx;split
 ·rename_i p T;obtain⟨o1,o2,k,g,t,L,vs,z,F,e2,R,G⟩:=A6w T;obtain⟨m,rs,H,g2,g3,I⟩:=i.mem;rw[F]at H;obtain⟨m1,m2,rfl,M,A⟩:=H.split;cases m2 with
  |nil=>exact A.elim
  |cons a m2=>
   obtain⟨⟨q,vl,U,k2,rfl⟩,N⟩:=A;obtain⟨v,V,W,X,K,d⟩:=A49 e2;obtain⟨sv,ex,l,j,_,C⟩:=k2.at_ v V;rw[W]at l
   have y:∃b:Sv,(∀ρ':List HV,Ext ρ ρ'->ρ'[st.nxt]?=some (.row b)->ρ'[X5 h st.nxt vs]?=some (.row b))/\St B (oC (Ac (sz v.t) (fD v.t) v.L) sv.v::H0 (sz t) (fD t) L q.v (z.1.1*sz t+z.1.2) (Sv.v b)::(m1++m2)) rs w:=by
    rcases d with d|⟨Y,hi,d⟩
    ·rw[d]at j;obtain⟨n,o,r⟩:=j;exact⟨sv,λρ' x _=>by unfold X5;rw[K,d];exact x.get l,A5d (C _ (by rw[r];exact B5n ..)) n o I.mid⟩
    ·rw[d]at j;obtain⟨n,O,b,o,r,P,D,rfl,Q⟩:=j;have S:=(A5d (C _ (by rw[Q];exact B5n ..)) n o I.mid).cutO (C3 O.t) r P;refine⟨b,λρ' _ u=>by unfold X5;rw[K,d];exact u,?_⟩;obtain⟨vh,vt,vL,vq⟩:=v;simp only at D⊢;cases D;exact S
   obtain⟨b,ho,s⟩:=y;have hx:Ext ρ (ρ++[.row b]++[.num 0]):=(Ext.one ρ _).trans (Ext.one _ _);have u:(ρ++[.row b]++[.num 0])[st.nxt]?=some (.row b):=by have:=Dp ρ (.row b);rw[i.len]at this;exact(Ext.one _ _).get this
   refine⟨_,hx,⟨by simp[i.len],i.env.mono hx,oV (oC (Ac (sz v.t) (fD v.t) v.L) sv.v) []::(m1++H0 (sz t) (fD t) L q.v (z.1.1*sz t+z.1.2) (Sv.v b)::m2),rs,⟨?_,?_⟩,g2.mono hx λ_ h=>h,g3,?_⟩,⟨by simp only;omega,λc' c f=>?_,[],rfl⟩,rfl⟩
   ·rw[R,X];exact⟨sv,[],hx.get l,rfl,rfl⟩
   ·simp only[G];exact(M.mono λ_ _=>Chunk.Is.mono hx λ_ h=>h).append ⟨⟨q,b,hx.get U,ho _ hx u,rfl⟩,N.mono λ_ _=>Chunk.Is.mono hx λ_ h=>h⟩
   ·exact(s.z Z.toV).perm (List.Perm.cons _ B5u.symm)
   ·rw[F];rcases B5t.1 c with rfl|c
    ·simp only[Ew]at f;omega
    ·simp only[G]at c;rcases B6g.1 c with e|e
     ·exact⟨c',B6f _ e,.inl rfl⟩
     ·rcases B5t.1 e with rfl|e
      ·simp only[Ew]at f;omega
      ·exact⟨c',B54 _ (B5j _ e),.inl rfl⟩
 ·exact⟨ρ,Ext.refl ρ,i,Grow.refl st,rfl⟩
theorem Abt:∀ {l:List Cell} {st:SSt} {ρ:List HV},Sat B amb ρ st env w->∃ρ',Ext ρ ρ'/\Sat B amb ρ' (Kz l st) env w/\Grow st (Kz l st)/\(Kz l st).env=st.env
 |[],st,ρ,hs=>⟨ρ,Ext.refl ρ,hs,Grow.refl st,rfl⟩
 |c::l,st,ρ,hs=>by
  unfold Kz;split
  ·rename_i h;obtain⟨n,b,d,e,f⟩:=Bsr hs h;obtain⟨a,g,i,j,k⟩:=Abt (l:=l) d;exact⟨a,b.trans g,i,e.trans j,k.trans f⟩
  ·exact Abt hs
theorem A5c (a:Sat B amb ρ st env w) o:∃ρ',Ext ρ ρ'/\Sat B amb ρ' (Jy o st) env w/\Grow st (Jy o st)/\(Jy o st).env=st.env:=by
 unfold Jy;split
 ·exact Abt a
 ·exact⟨ρ,Ext.refl ρ,a,Grow.refl st,rfl⟩
theorem A2p{h}:∀ {own:List Chunk} {p:HolD×List Chunk} {m:List As},Nn h own=some p->OwnOk ρ rs own m->OwnLe own p.2/\∃(q d:Sv) (m':List As),ρ[h]?=some (.row q)/\OwnOk ρ rs p.2 m'/\∀w,Z w m (H0 (sz p.1.t) (fD p.1.t) p.1.L q.v (p.1.i*sz p.1.t+p.1.j) d.v::m')
 |[],p,m,hc,_=>by cases hc
 |c::r,p,[],_,h1=>h1.elim
 |c::r,p,a::m,hc,⟨h1,h2⟩=>by
  have b:(∃z,Nn h r=some z/\(z.1,c::z.2)=p)->OwnLe (c::r) p.2/\∃(q d:Sv) (m':List As),ρ[h]?=some (.row q)/\OwnOk ρ rs p.2 m'/\∀w,Z w (a::m) (H0 (sz p.1.t) (fD p.1.t) p.1.L q.v (p.1.i*sz p.1.t+p.1.j) d.v::m'):=λ⟨z,n,e⟩=>by
   subst e;obtain⟨u,q,d,m',l,k2,s⟩:=A2p n h2
   exact⟨λx hx=>by
    rcases B5t.1 hx with rfl|hx
    ·exact B5n ..
    ·exact B5j _ (u x hx),q,d,a::m',l,⟨h1,k2⟩,λw=>(s w).cons.trans (Z.perm (List.Perm.swap ..))⟩
  cases c with
  |hol k g t L i j o=>
   simp only[Nn]at hc;cases f:B5w k h with
   |true=>rw[f]at hc;cases hc;cases B5k f;obtain⟨q,d,l,_,rfl⟩:=h1;exact⟨λx hx=>B5j _ hx,q,d,m,l,h2,λw=>zI⟩
   |false=>rw[f]at hc;simp only[cond_false,B5s]at hc;exact b hc
  |box _ _ _=>simp only[Nn,B5s]at hc;exact b hc
  |sha _ _ _ _=>simp only[Nn,B5s]at hc;exact b hc
  |row _ _ _ _ _=>simp only[Nn,B5s]at hc;exact b hc
  |rem _ _ _ _ _=>simp only[Nn,B5s]at hc;exact b hc
theorem O8{h p own} (j:Dw h own=some p) (i:OwnOk ρ rs own m):OwnLe own p.2/\(Chunk.box h p.1.1 p.1.2∈own)/\∃b e vs m',ρ[h]?=some (.box b)/\All2 (Cell.Den ρ) p.1.2 vs/\OwnOk ρ rs p.2 m'/\∀w,Z w m (A2 b vs.toArray e::m'):=by
 obtain⟨l,o2,g,e2⟩:=Ws j;subst g;obtain⟨m1,m2,rfl,d,c⟩:=i.split;cases m2 with
 |nil=>exact c.elim
 |cons a m2=>obtain⟨⟨b,e,vs,k,k2,rfl⟩,f⟩:=c;exact⟨by rw[e2];exact OwnLe.mid,B54 _ (B5n ..),b,e,vs,m1++m2,k,k2,by rw[e2];exact d.append f,λw=>Z.perm B5u⟩
theorem Wq{h}:∀ {own:List Chunk},Lq h own=(Dw h own).map λp=>(p.1.2,p.2)
 |[]=>rfl
 |.row k g t L vs::r=>by simp only[Lq,Dw,Wq (own:=r)];cases Dw h r<;>rfl
 |.sha k g t L::r=>by simp only[Lq,Dw,Wq (own:=r)];cases Dw h r<;>rfl
 |.hol k g t L i j o::r=>by simp only[Lq,Dw,Wq (own:=r)];cases Dw h r<;>rfl
 |.rem k g t L i::r=>by simp only[Lq,Dw,Wq (own:=r)];cases Dw h r<;>rfl
 |.box k g cs::r=>by
  simp only[Lq,Dw];cases B5w k h with
  |true=>rfl
  |false=>simp only[cond_false,Wq (own:=r)];cases Dw h r<;>rfl
theorem Ay3{h p own} (a:Lq h own=some p):∃g,Dw h own=some ((g,p.1),p.2):=by rw[Wq,B5s]at a;obtain⟨⟨⟨g,cs⟩,o⟩,b,rfl⟩:=a;exact⟨g,b⟩
theorem Ai6{e c l v} (h:Ym e c=some l) (a:c.Den ρ v):l.ty=e/\∀w,(oC l.ce v).ok (λ_=>False) w:=by
 unfold Ym at h;split at h
 ·split at h
  ·rename_i b;cases h;cases Wo a b;exact⟨rfl,pV _ rfl⟩
  ·cases h
 ·cases h;cases a;exact⟨rfl,pV _ rfl⟩
 ·cases h;cases a;exact⟨rfl,pV _ rfl⟩
 ·cases h;cases a;exact⟨rfl,pV _ rfl⟩
 ·cases h;cases a;exact⟨rfl,pN _ _⟩
 ·cases h
theorem Arm{e c own p v} (h:Abu e c own=some p) (f:c.Den ρ v) (d:OwnOk ρ rs own m):OwnLe own p.2/\∃m',OwnOk ρ rs p.2 m'/\∀w,Z w m (oC p.1.ce v::m'):=by
 unfold Abu at h;split at h
 ·rw[B5s]at h;obtain⟨q,a,rfl⟩:=h;obtain⟨s,s1,rfl⟩:=f;obtain⟨b,s',m',g,k2,i⟩:=A6x a d;rw[s1]at g;cases g;exact⟨b,m',k2,i⟩
 ·rw[B5s]at h;obtain⟨q,a,rfl⟩:=h;exact⟨OwnLe.refl _,m,d,λw=>zP (Ai6 a f).2 zI⟩
theorem L8:∀ {a:List Ty} {cs:List Cell} {own:List Chunk} {p:List Leaf×List Chunk} {vs:List Value} {m:List As},G0 a cs own=some p->All2 (Cell.Den ρ) cs vs->OwnOk ρ rs own m->OwnLe own p.2/\p.1.length=vs.length/\∃m',OwnOk ρ rs p.2 m'/\∀w,Z w m (Aj (p.1.map Leaf.ce) vs++m')
 |[],[],own,p,[],m,h,_,h1=>by cases h;exact⟨OwnLe.refl _,rfl,m,h1,λw=>zI⟩
 |e::a,c::cs,own,p,v::vs,m,h,⟨d1,d2⟩,h1=>by unfold G0 at h;obtain⟨q,b,d⟩:=Af h;obtain⟨z,f,g⟩:=Af d;cases g;obtain⟨l,m1,i,k2⟩:=Arm b d1 h1;obtain⟨n,o,m2,j,k⟩:=L8 f d2 i;exact⟨l.trans n,by simp[o],m2,j,λw=>(k2 w).trans (k w).cons⟩
 |[],[],_,_,_::_,_,_,h,_=>h.elim
 |[],_::_,_,_,_,_,h,_,_=>by cases h
 |_::_,[],_,_,_,_,h,_,_=>by cases h
 |_::_,_::_,_,_,[],_,_,h,_=>h.elim
def Sees (S:Bs) (w:World) (m:List As) (rs:List Rd):Prop:=(∀r∈rs,r.ok S w)/\∀a∈m,∃F,(∀b,F b->S b)/\a.ok F w
theorem St.sees (h:St B m rs w):Sees (al w) w m rs:=by obtain⟨_,_,F,d,_,e⟩:=h;refine⟨λr j=>r.mono (λb c=>c.2.1) (Lc.refl _ _) (e r j),λa i=>?_⟩;obtain⟨F',f,g⟩:=d.mem i;exact⟨F',λb c=>d.lt b (f b c),g⟩
theorem Bvg{S k T f} {L:List T} {q:Sv}{xs} (i:Sees S w m rs) (x:Bb k q.v L.length xs∈m) (y:rX xs (L.flatMap f)∈rs):(Ac k f L).rd S w q.v:=by
 obtain⟨F,z,C,hx,r⟩:=i.2 _ x;have p:Br S w (L.flatMap f) xs:=i.1 _ y;rcases r with⟨e,l⟩|⟨b,off,cap,n,e,D,o,s,t,a,c,A,h⟩
 ·rw[e];exact⟨none,0,by rw[l],by omega,by simp[maxLen],λg=>absurd (B53 l) g⟩
 ·rw[o];exact⟨_,cap,rfl,a,c,λ_=>⟨b,off,xs,rfl,λj d=>z _ (s j (B6w d (B5v _ a))),hx,λj u d=>Aiu t.1 h d,p⟩⟩
theorem W0{S h c m0} (e:Sees S w m0 rs):∀ {own:List Chunk} {m:List As},OwnOk ρ rs own m->(∀a∈m,a∈m0)->Ct h own=some c->∃s,ρ[h]?=some (.row s)/\(Ac (sz c.t) (fD c.t) c.L).rd S w s.v
 |[],[],_,_,hc=>by cases hc
 |.box k g cs::own,a::m,⟨_,h2⟩,hm,hc=>W0 e h2 (λa b=>hm a (B5j _ b)) hc
 |.row k g t L vs::own,a::m,⟨h1,h2⟩,hm,hc=>by
  obtain⟨q,r,i,k2,rfl⟩:=h1;have d:=hm _ (B5n ..);simp only[Ct]at hc;cases f:B5w k h with
  |true=>rw[f]at hc;cases hc;cases B5k f;exact⟨q,i,Bxp e.2 d⟩
  |false=>
   rw[f]at hc;simp only[cond_false]at hc;split at hc
   ·rename_i c' j;cases hc;obtain⟨v,n,o,p⟩:=Pd j;obtain⟨s',s1,l⟩:=k2.get v n;subst p;exact⟨s',by rw[<-o];exact s1,Bxq e.2 d l⟩
   ·exact W0 e h2 (λa b=>hm a (B5j _ b)) hc
 |.sha k g t L::own,a::m,⟨h1,h2⟩,hm,hc=>by
  obtain⟨q,xs,i,rfl,k2⟩:=h1;have d:=hm _ (B5n ..);simp only[Ct]at hc;cases f:B5w k h with
  |true=>rw[f]at hc;cases hc;cases B5k f;exact⟨q,i,Bvg e d k2⟩
  |false=>rw[f]at hc;exact W0 e h2 (λa b=>hm a (B5j _ b)) hc
 |[],_::_,h,_,_=>h.elim
 |.box _ _ _::_,[],h,_,_=>h.elim
 |.row _ _ _ _ _::_,[],h,_,_=>h.elim
 |.sha _ _ _ _::_,[],h,_,_=>h.elim
 |.hol _ _ _ _ _ _ _::own,_::_,⟨_,h2⟩,hm,hc=>W0 e h2 (λa b=>hm a (B5j _ b)) hc
 |.rem _ _ _ _ _::own,_::_,⟨_,h2⟩,hm,hc=>W0 e h2 (λa b=>hm a (B5j _ b)) hc
 |.hol _ _ _ _ _ _ _::_,[],h,_,_=>h.elim
 |.rem _ _ _ _ _::_,[],h,_,_=>h.elim
theorem Bh3{S} (b:Sees S w m rs) (d:OwnOk ρ rs st.own m) (e:RdsOk ρ st.rds rs){h c} (a:st.cont h=some c):∃s,ρ[h]?=some (.row s)/\(Ac (sz c.t) (fD c.t) c.L).rd S w s.v:=by
 unfold SSt.cont at a;split at a
 ·rename_i c' f;cases a;exact W0 b d (λ_ h=>h) f
 ·obtain⟨v,k,l,n⟩:=Pd a;obtain⟨r,j,q,g,i⟩:=e v k;subst n i;exact⟨q,by rw[<-l];exact g,b.1 _ j⟩
theorem Btp{S c v} (h:∀w,(oC c v).ok (λ_=>False) w):c.rd S w v:=c.mono (λ_ h=>h.elim) (Lc.refl _ _) (c.seen (h w))
theorem Bvo{S} (i:Sees S w m rs) (d:OwnOk ρ rs st.own m) (f:RdsOk ρ st.rds rs){e c l v} (h:Aso st e c=some l) (a:c.Den ρ v):l.ce.rd S w v:=by
 unfold Aso at h;split at h
 ·rw[B5s]at h;obtain⟨q,g,rfl⟩:=h;obtain⟨s,s1,rfl⟩:=a;obtain⟨s',b,k2⟩:=Bh3 i d f g;rw[s1]at b;cases b;exact k2
 ·exact Btp (Ai6 h a).2
theorem U7{S} (f:Sees S w m rs) (b:OwnOk ρ rs st.own m) (d:RdsOk ρ st.rds rs):∀ {a:List Ty} {cs:List Cell} {ls:List Leaf} {vs:List Value},J6 st a cs=some ls->All2 (Cell.Den ρ) cs vs->Br S w (ls.map Leaf.ce) vs
 |[],[],ls,[],h,_=>by cases h;rfl
 |e::a,c::cs,ls,v::vs,h,⟨d1,d2⟩=>by unfold J6 at h;obtain⟨l,g,i⟩:=Af h;obtain⟨n,j,k⟩:=Af i;cases k;exact⟨v,vs,rfl,Bvo f b d g d1,U7 f b d j d2⟩
 |[],[],_,_::_,_,h=>h.elim
 |[],_::_,_,_,h,_=>by cases h
 |_::_,[],_,_,h,_=>by cases h
 |_::_,_::_,_,[],_,h=>h.elim
theorem O6{x}:∀ls st ρ vs m,ρ.length=st.nxt->OwnOk ρ rs st.own m->ls.length=vs.length->St B (Aj (ls.map Leaf.ce) vs++(m++x)) rs w->
  ∃ρ' m',Ext ρ ρ'/\ρ'.length=(Ay true ls st).2.nxt/\OwnOk ρ' rs (Ay true ls st).2.own m'/\St B (m'++x) rs w/\All2 (Cell.Den ρ') (Ay true ls st).1 vs/\Grow st (Ay true ls st).2/\(Ay true ls st).2.env=st.env/\(Ay true ls st).2.rds=st.rds
 |[],st,ρ,[],m,hn,h1,_,hM=>⟨ρ,m,Ext.refl ρ,hn,h1,hM,trivial,Grow.refl st,rfl,rfl⟩
 |l::ls,st,ρ,v::vs,m,hn,h1,hl,hM=>by
  have d:ls.length=vs.length:=by simpa using hl
  have f:∀(y:Cell) (u:Value) (hu:u.oneCell'=true),l.ce=cV u hu->(∀ρ,y.Den ρ u)->∃ρ' m',Ext ρ ρ'/\ρ'.length=(Ay true ls st).2.nxt/\OwnOk ρ' rs (Ay true ls st).2.own m'/\St B (m'++x) rs w/\All2 (Cell.Den ρ') (y::(Ay true ls st).1) (v::vs)/\Grow st (Ay true ls st).2/\(Ay true ls st).2.env=st.env/\(Ay true ls st).2.rds=st.rds:=λy u hu C hx=>by simp only[B6r,Aj,B6a,C]at hM;obtain⟨rfl,c⟩:=hM.valV;obtain⟨ρ',m',e,g,j,k,n,o,p,q⟩:=O6 ls st ρ vs m hn h1 d c;exact⟨ρ',m',e,g,j,k,⟨hx ρ',n⟩,o,p,q⟩
  cases l with
  |i y=>exact f (.i .i64 y) _ rfl rfl λ_=>rfl
  |b y=>exact f (.b y) _ rfl rfl λ_=>rfl
  |s y=>exact f (.s y) _ rfl rfl λ_=>rfl
  |y y=>exact f (.y y) _ rfl rfl λ_=>rfl
  |sl t L=>
   simp only[B6r,Aj,B6a,Leaf.ce]at hM;obtain⟨s,rfl,c⟩:=hM.valS;have hx:=Ext.one ρ (.row s);have a:=Dp ρ (.row s);rw[hn]at a;have r:St B (Aj (ls.map Leaf.ce) vs++((oV (oC (Ac (sz t) (fD t) L) s.v) []::m)++x)) rs w:=(c.z Z.toV).perm B5u.symm;obtain⟨ρ',m',e,g,j,k,n,o,p,q⟩:=O6 ls {st with own:=.row st.nxt st.nxt t L []::st.own,nxt:=st.nxt+1} (ρ++[.row s]) vs (oV (oC (Ac (sz t) (fD t) L) s.v) []::m) (by simp[hn]) ⟨⟨s,[],a,rfl,rfl⟩,OwnOk.mono hx (λ_ h=>h) h1⟩ d r;refine⟨ρ',m',hx.trans e,g,j,k,⟨⟨s,e.get a,rfl⟩,n⟩,Grow.trans (b:= {st with own:=.row st.nxt st.nxt t L []::st.own,nxt:=st.nxt+1}) ⟨B8b _,λc' A D=>?_,[],rfl⟩ o,p,q⟩;rcases B5t.1 A with rfl|A
   ·exact absurd D (B91 _)
   ·exact⟨c',A,.inl rfl⟩
 |[],_,_,_::_,_,_,_,h,_=>by simp at h
 |_::_,_,_,[],_,_,_,h,_=>by simp at h
theorem Te{x0}:∀ls st ρ vs rs,ρ.length=st.nxt->OwnOk ρ rs st.own m->RdsOk ρ st.rds rs->(∀S,(∀r∈rs,r.ok S w)->Br S w (ls.map Leaf.ce) vs)->St B (m++x0) rs w->
  ∃ρ' rs',Ext ρ ρ'/\(∀r∈rs,r∈rs')/\ρ'.length=(Ay false ls st).2.nxt/\OwnOk ρ' rs' (Ay false ls st).2.own m/\RdsOk ρ' (Ay false ls st).2.rds rs'/\St B (m++x0) rs' w/\All2 (Cell.Den ρ') (Ay false ls st).1 vs/\Grow st (Ay false ls st).2/\(Ay false ls st).2.env=st.env/\(Ay false ls st).2.own=st.own
 |[],st,ρ,vs,rs,hn,h1,h2,hr,hM=>by have:vs=[]:=hr _ hM.sees.1;subst this;exact⟨ρ,rs,Ext.refl ρ,λ_ h=>h,hn,h1,h2,hM,trivial,Grow.refl st,rfl,rfl⟩
 |l::ls,st,ρ,vs,rs,hn,h1,h2,hr,hM=>by
  obtain⟨v,c,rfl,_,_⟩:=hr _ hM.sees.1;have H:∀S,(∀r∈rs,r.ok S w)->l.ce.rd S w v:=λS g=>by obtain⟨R,O,e,I,_⟩:=hr S g;cases e;exact I
  have j:∀S,(∀r∈rs,r.ok S w)->Br S w (ls.map Leaf.ce) c:=λS g=>by obtain⟨R,O,e,_,I⟩:=hr S g;cases e;exact I
  have n:∀(x:Cell) (u:Value) (hu:u.oneCell'=true),l.ce=cV u hu->(∀ρ,x.Den ρ u)->∃ρ' rs',Ext ρ ρ'/\(∀r∈rs,r∈rs')/\ρ'.length=(Ay false ls st).2.nxt/\OwnOk ρ' rs' (Ay false ls st).2.own m/\RdsOk ρ' (Ay false ls st).2.rds rs'/\St B (m++x0) rs' w/\All2 (Cell.Den ρ') (x::(Ay false ls st).1) (v::c)/\Grow st (Ay false ls st).2/\(Ay false ls st).2.env=st.env/\(Ay false ls st).2.own=st.own:=λx u hu N hx=>by have e:=H _ hM.sees.1;rw[N]at e;have K:v=u:=e;subst K;obtain⟨ρ',rs',k,o,p,q,z,A,C,D,F,f⟩:=Te ls st ρ c rs hn h1 h2 j hM;exact⟨ρ',rs',k,o,p,q,z,A,⟨hx ρ',C⟩,D,F,f⟩
  cases l with
  |i x=>exact n (.i .i64 x) _ rfl rfl λ_=>rfl
  |b x=>exact n (.b x) _ rfl rfl λ_=>rfl
  |s x=>exact n (.s x) _ rfl rfl λ_=>rfl
  |y x=>exact n (.y x) _ rfl rfl λ_=>rfl
  |sl t L=>
   obtain⟨s,rfl⟩:=Cs.sv (H _ hM.sees.1);have hx:=Ext.one ρ (.row s);have a:=Dp ρ (.row s);rw[hn]at a;have d:∀r∈rs,r∈rV s.v (Ac (sz t) (fD t) L)::rs:=λ_ h=>B5j _ h
   obtain⟨ρ',rs',k,o,p,q,z,A,C,D,F,f⟩:=Te ls {st with rds:=⟨st.nxt,t,L,.no⟩::st.rds,nxt:=st.nxt+1} (ρ++[.row s]) c (rV s.v (Ac (sz t) (fD t) L)::rs) (by simp[hn]) (OwnOk.mono hx d h1) (λx G=>by
    rcases B5t.1 G with rfl|G
    ·exact⟨_,B5n ..,s,a,rfl⟩
    ·obtain⟨r,P,Q⟩:=h2 x G;exact⟨r,B5j _ P,Q.mono hx⟩) (λS g=>j S λr h=>g r (B5j _ h)) (hM.more H)
   refine⟨ρ',rs',hx.trans k,λr h=>o r (d r h),p,q,z,A,⟨⟨s,k.get a,rfl⟩,C⟩,Grow.trans (b:= {st with rds:=⟨st.nxt,t,L,.no⟩::st.rds,nxt:=st.nxt+1}) ⟨B8b _,λc' M _=>⟨c',M,.inl rfl⟩,[_],rfl⟩ D,F,f⟩
theorem P7{h}:∀ {own:List Chunk} {p:Cont×List Chunk} {m:List As},Ir h own=some p->OwnOk ρ rs own m->OwnLe own p.2/\∃q xs m',ρ[h]?=some (.row q)/\OwnOk ρ rs p.2 m'/\(∀w,Z w m (Bb (sz p.1.t) q.v p.1.L.length xs::m'))/\rX xs (p.1.L.flatMap (fD p.1.t))∈rs
 |[],_,_,h,_=>by cases h
 |.sha k g t L::own,p,a::m,b,⟨h1,h2⟩=>by
  simp only[Ir]at b;cases r:B5w k h with
  |true=>rw[r]at b;cases b;cases B5k r;obtain⟨q,xs,d,rfl,k2⟩:=h1;exact⟨λc b=>B5j _ b,q,xs,m,d,h2,λw=>zI,k2⟩
  |false=>
   rw[r]at b;simp only[cond_false,B5s]at b;obtain⟨z,e,rfl⟩:=b;obtain⟨n,q,xs,m',d,k2,f,l⟩:=P7 e h2
   exact⟨λc b=>by
    rcases B5t.1 b with rfl|b
    ·exact B5n ..
    ·exact B5j _ (n c b),q,xs,a::m',d,⟨h1,k2⟩,λw=>(f w).cons.trans (Z.perm (List.Perm.swap ..)),l⟩
 |.row k g t L vs::own,p,a::m,b,⟨h1,h2⟩=>by
  simp only[Ir,B5s]at b;obtain⟨z,e,rfl⟩:=b;obtain⟨n,q,xs,m',d,k2,f,l⟩:=P7 e h2
  exact⟨λc b=>by
   rcases B5t.1 b with rfl|b
   ·exact B5n ..
   ·exact B5j _ (n c b),q,xs,a::m',d,⟨h1,k2⟩,λw=>(f w).cons.trans (Z.perm (List.Perm.swap ..)),l⟩
 |.box k g cs::own,p,a::m,b,⟨h1,h2⟩=>by
  simp only[Ir,B5s]at b;obtain⟨z,e,rfl⟩:=b;obtain⟨n,q,xs,m',d,k2,f,l⟩:=P7 e h2
  exact⟨λc b=>by
   rcases B5t.1 b with rfl|b
   ·exact B5n ..
   ·exact B5j _ (n c b),q,xs,a::m',d,⟨h1,k2⟩,λw=>(f w).cons.trans (Z.perm (List.Perm.swap ..)),l⟩
 |.hol k g t L i j o::own,p,a::m,b,⟨h1,h2⟩=>by
  simp only[Ir,B5s]at b;obtain⟨z,e,rfl⟩:=b;obtain⟨n,q,xs,m',d,k2,f,l⟩:=P7 e h2
  exact⟨λc b=>by
   rcases B5t.1 b with rfl|b
   ·exact B5n ..
   ·exact B5j _ (n c b),q,xs,a::m',d,⟨h1,k2⟩,λw=>(f w).cons.trans (Z.perm (List.Perm.swap ..)),l⟩
 |.rem k g t L i::own,p,a::m,b,⟨h1,h2⟩=>by
  simp only[Ir,B5s]at b;obtain⟨z,e,rfl⟩:=b;obtain⟨n,q,xs,m',d,k2,f,l⟩:=P7 e h2
  exact⟨λc b=>by
   rcases B5t.1 b with rfl|b
   ·exact B5n ..
   ·exact B5j _ (n c b),q,xs,a::m',d,⟨h1,k2⟩,λw=>(f w).cons.trans (Z.perm (List.Perm.swap ..)),l⟩
 |_::_,_,[],_,h=>h.elim
theorem Yh{h}:∀ {own:List Chunk} {p:(Nat×Cont×List View)×List Chunk} {m:List As},K4 h own=some p->OwnOk ρ rs own m->OwnLe own p.2/\∃q d m',ρ[p.1.1]?=some (.row q)/\ViewsAre ρ q p.1.2.1.t p.1.2.1.L p.1.2.2 d/\OwnOk ρ rs p.2 m'/\∀w,Z w m (oV (oC (Ac (sz p.1.2.1.t) (fD p.1.2.1.t) p.1.2.1.L) q.v) d::m')
 |[],_,_,h,_=>by cases h
 |.row k g t L vs::own,p,a::m,b,⟨h1,h2⟩=>by
  simp only[K4]at b;cases s:B5w k h||inV h vs with
  |true=>rw[s]at b;cases b;obtain⟨q,d,e,k2,rfl⟩:=h1;exact⟨λc b=>B5j _ b,q,d,m,e,k2,h2,λw=>zI⟩
  |false=>
   rw[s]at b;simp only[cond_false,B5s]at b;obtain⟨z,f,rfl⟩:=b;obtain⟨r,q,d,m',e,k2,l,n⟩:=Yh f h2
   exact⟨λc b=>by
    rcases B5t.1 b with rfl|b
    ·exact B5n ..
    ·exact B5j _ (r c b),q,d,a::m',e,k2,⟨h1,l⟩,λw=>(n w).cons.trans (Z.perm (List.Perm.swap ..))⟩
 |.sha k g t L::own,p,a::m,b,⟨h1,h2⟩=>by
  simp only[K4,B5s]at b;obtain⟨z,f,rfl⟩:=b;obtain⟨r,q,d,m',e,k2,l,n⟩:=Yh f h2
  exact⟨λc b=>by
   rcases B5t.1 b with rfl|b
   ·exact B5n ..
   ·exact B5j _ (r c b),q,d,a::m',e,k2,⟨h1,l⟩,λw=>(n w).cons.trans (Z.perm (List.Perm.swap ..))⟩
 |.box k g cs::own,p,a::m,b,⟨h1,h2⟩=>by
  simp only[K4,B5s]at b;obtain⟨z,f,rfl⟩:=b;obtain⟨r,q,d,m',e,k2,l,n⟩:=Yh f h2
  exact⟨λc b=>by
   rcases B5t.1 b with rfl|b
   ·exact B5n ..
   ·exact B5j _ (r c b),q,d,a::m',e,k2,⟨h1,l⟩,λw=>(n w).cons.trans (Z.perm (List.Perm.swap ..))⟩
 |.hol k g t L i j o::own,p,a::m,b,⟨h1,h2⟩=>by
  simp only[K4,B5s]at b;obtain⟨z,f,rfl⟩:=b;obtain⟨r,q,d,m',e,k2,l,n⟩:=Yh f h2
  exact⟨λc b=>by
   rcases B5t.1 b with rfl|b
   ·exact B5n ..
   ·exact B5j _ (r c b),q,d,a::m',e,k2,⟨h1,l⟩,λw=>(n w).cons.trans (Z.perm (List.Perm.swap ..))⟩
 |.rem k g t L i::own,p,a::m,b,⟨h1,h2⟩=>by
  simp only[K4,B5s]at b;obtain⟨z,f,rfl⟩:=b;obtain⟨r,q,d,m',e,k2,l,n⟩:=Yh f h2
  exact⟨λc b=>by
   rcases B5t.1 b with rfl|b
   ·exact B5n ..
   ·exact B5j _ (r c b),q,d,a::m',e,k2,⟨h1,l⟩,λw=>(n w).cons.trans (Z.perm (List.Perm.swap ..))⟩
 |_::_,_,[],_,h=>h.elim
theorem St.sealV {q:Sv}{t L vl} (g:St B (oV (oC (Ac (sz t) (fD t) L) q.v) vl::m) rs w):∃b,St B m (b::rs) w/\(∀S w,b.ok S w->(rV q.v (Ac (sz t) (fD t) L)).ok S w)/\∀u c,vR u c∈vl->∀S w,b.ok S w->(rV u c).ok S w:=by let b:Rd:=⟨λS w=>(rV q.v (Ac (sz t) (fD t) L)).ok S w/\∀(u:Value) (c:Ce),vR u c∈vl->(rV u c).ok S w,λ{S S' w w'} d e f=>⟨Rd.mono _ d e f.1,λu c a=>Rd.mono _ d e (f.2 u c a)⟩⟩;exact⟨b,g.unV λF i ho=>⟨(Ac (sz t) (fD t) L).seen ho,λu c a=>i _ a⟩,λS w h=>h.1,λu c a S w h=>h.2 u c a⟩
theorem St.moreL{r0}:∀ {rl:List Rd} {rs:List Rd},St B m rs w->r0∈rs->(∀r∈rl,∀S w,r0.ok S w->r.ok S w)->St B m (rl++rs) w
 |[],_,hs,_,_=>hs
 |r::rl,_,hs,h0,hr=>(St.moreL (rl:=rl) hs h0 λc a=>hr c (B5j _ a)).more λS b=>hr r (B5n ..) S w (b r0 (B54 _ h0))
theorem A9p{q t L}:∀ {vs:List View} {a:List Vi},ViewsAre ρ q t L vs a->∃rl,RdsOk ρ (Ajy vs) rl/\∀r∈rl,∃u c,r=rV u c/\vR u c∈a
 |[],a,_=>⟨[],(λ_ h=>by cases h),λ_ h=>by cases h⟩
 |v::vs,a,⟨l1,l2,e,⟨s',_,h1,_,h2⟩,h3⟩=>by
  obtain⟨rl,f,k2⟩:=A9p h3;refine⟨rV s'.v (Ac (sz v.t) (fD v.t) v.L)::rl,λx hx=>?_,λr b=>?_⟩
  ·rcases B5t.1 hx with rfl|hx
   ·exact⟨_,B5n ..,s',h1,rfl⟩
   ·obtain⟨r,g,i⟩:=f x hx;exact⟨r,B5j _ g,i⟩
  ·rcases B5t.1 b with rfl|b
   ·exact⟨_,_,rfl,by rw[e,h2];exact B6f _ (B5n ..)⟩
   ·obtain⟨u,c,d,e2⟩:=k2 r b;exact⟨u,c,d,by rw[e];exact B54 _ e2⟩
theorem A7u (d:Sat B amb ρ st env w) h:Sat B amb ρ (Mg h st) env w/\Grow st (Mg h st)/\(Mg h st).env=st.env:=by
 unfold Mg;obtain⟨m,rs,y,A,C,D⟩:=d.mem;split
 ·rename_i p i;obtain⟨n,q,N,m',j,k2,k,l⟩:=Yh i y;obtain⟨M,F,G,H⟩:=(D.z (l w)).sealV;obtain⟨rl,I,K⟩:=A9p k2
  have b:=St.moreL (rl:=rV q.v (Ac (sz p.1.2.1.t) (fD p.1.2.1.t) p.1.2.1.L)::rl) F (B5n ..) λr a S w s=>by
   rcases B5t.1 a with rfl|a
   ·exact G S w s
   ·obtain⟨u,c,rfl,e2⟩:=K r a;exact H u c e2 S w s
  have a:∀o∈rs,o∈(rV q.v (Ac (sz p.1.2.1.t) (fD p.1.2.1.t) p.1.2.1.L)::rl)++M::rs:=λ_ h=>B54 _ (B5j _ h);refine⟨⟨d.len,d.env,m',_,OwnOk.mono (Ext.refl ρ) a k,λx hx=>?_,λr h=>a r (C r h),b⟩,⟨B6i _,λc' g _=>⟨c',n c' g,.inl rfl⟩,_::Ajy p.1.2.2,rfl⟩,rfl⟩;rcases B5t.1 hx with rfl|hx
  ·exact⟨_,B6f _ (B5n ..),q,j,rfl⟩
  ·rcases B6g.1 hx with hx|hx
   ·obtain⟨r,e,f⟩:=I x hx;exact⟨r,B6f _ (B5j _ e),f⟩
   ·obtain⟨r,e,f⟩:=A x hx;exact⟨r,a r e,f⟩
 ·split
  ·rename_i p i;obtain⟨n,q,xs,m',j,k2,k,l⟩:=P7 i y;have b:=(D.z (k w)).sealS (C3 p.1.t) l;have a:∀o∈rs,o∈rV q.v (Ac (sz p.1.t) (fD p.1.t) p.1.L)::rs:=λ_ h=>B5j _ h;refine⟨⟨d.len,d.env,m',_,OwnOk.mono (Ext.refl ρ) a k2,λx hx=>?_,λr h=>a r (C r h),b⟩,⟨B6i _,λc' g _=>⟨c',n c' g,.inl rfl⟩,[_],rfl⟩,rfl⟩;rcases B5t.1 hx with rfl|hx
   ·exact⟨_,B5n ..,q,j,rfl⟩
   ·obtain⟨r,e,f⟩:=A x hx;exact⟨r,a r e,f⟩
  ·exact⟨d,Grow.refl st,rfl⟩
theorem Yn:∀ {l:List Cell} {st:SSt},Sat B amb ρ st env w->Sat B amb ρ (Iq l st) env w/\Grow st (Iq l st)/\(Iq l st).env=st.env
 |[],st,hs=>⟨hs,Grow.refl st,rfl⟩
 |c::l,st,hs=>by
  unfold Iq;split
  ·rename_i h;obtain⟨a,b,d⟩:=A7u hs h;obtain⟨e,f,g⟩:=Yn (l:=l) a;exact⟨e,b.trans f,g.trans d⟩
  ·exact Yn hs
theorem Va:∀ {l:List Cell} {st:SSt},(Iq l st).nxt=st.nxt
 |[],_=>rfl
 |c::l,st=>by
  unfold Iq;split
  ·rename_i h;rw[Va];unfold Mg;split
   ·rfl
   ·split<;>rfl
  ·exact Va
theorem A7t{h}:(Mg h st).nxt=st.nxt:=by
 unfold Mg;split
 ·rfl
 ·split<;>rfl
theorem Atc{c ty own p v} (h:Ai9 c ty own=some p) (o:c.Den ρ v) (g:OwnOk ρ rs own m) (j:St B m rs w):
  OwnLe own p.2/\∃(s:Sv) (xs:List Value) (m':List As) (rs':List Rd),v=s.v/\(∀r∈rs,r∈rs')/\OwnOk ρ rs' p.2 m'/\St B (Bb (sz ty) s.v p.1.length xs::m') rs' w/\rX xs (p.1.flatMap (fD ty))∈rs':=by
 have a:∀r:Rd,∀y∈rs,y∈r::rs:=λ_ _ h=>B5j _ h;unfold Ai9 at h;split at h
 ·cases h;cases o;exact⟨OwnLe.refl _,nS,[],m,_,rfl,a _,OwnOk.mono (Ext.refl ρ) (a _) g,j.nilS (sz ty) (fD ty),B5n ..⟩
 ·obtain⟨s,s1,rfl⟩:=o;split at h
  ·rename_i q x;simp only[B5s]at h;obtain⟨l,i,rfl⟩:=h;obtain⟨n,C,xs,m',b,k2,d,t⟩:=P7 x g;rw[s1]at b;cases b;obtain⟨e,e2⟩:=Ls i;obtain⟨⟨A,L'⟩,f⟩:=q;simp only at e e2 d t;subst e e2;exact⟨n,s,xs,m',rs,rfl,λ_ h=>h,k2,j.z (d w),t⟩
  ·obtain⟨q,u,h⟩:=Af h;simp only[B5s]at h;obtain⟨l,i,rfl⟩:=h;obtain⟨n,s',m',b,k2,d⟩:=Md u g;rw[s1]at b;cases b;obtain⟨e,e2⟩:=Ls i;obtain⟨⟨A,L'⟩,f⟩:=q;simp only at e e2 d;subst e e2;obtain⟨xs,k⟩:=(j.z (d w)).toS;exact⟨n,s,xs,m',_,rfl,a _,OwnOk.mono (Ext.refl ρ) (a _) k2,k,B5n ..⟩
 ·cases h
theorem Asf (b:RdsOk ρ st.rds rs){ty cs a us} (h:Ab5 st ty cs=some a) (f:All2 (Cell.Den ρ) cs us):∀S w,(∀r∈rs,r.ok S w)->Br S w (fD ty a) us:=λS w e=>by unfold Ab5 at h;obtain⟨l,c,d⟩:=Af h;rw[Dm,E0 d];exact U7 (st:= {st with own:=[]}) (m:=[]) ⟨e,λ_ h=>by cases h⟩ (show OwnOk ρ rs [] []from trivial) b c f
theorem Sat.sha (a:Sat B amb ρ st env w){own' m' rs s t L xs w'} (c:OwnOk ρ rs own' m') (d:RdsOk ρ st.rds rs) (e:∀r∈amb,r∈rs) (f:rX xs (L.flatMap (fD t))∈rs) (g:St B (Bb (sz t) s.v L.length xs::m') rs w'):
  Sat B amb (ρ++[.row s]) {st with own:=.sha st.nxt st.nxt t L::own',nxt:=st.nxt+1} env w':=by
 have hx:=Ext.one ρ (.row s);have b:=Dp ρ (.row s);rw[a.len]at b;exact⟨by simp[a.len],a.env.mono hx,Bb (sz t) s.v L.length xs::m',rs,⟨⟨s,xs,b,rfl,f⟩,OwnOk.mono hx (λ_ h=>h) c⟩,d.mono hx λ_ h=>h,e,g⟩
end
end
section
open Go.RowKit
section
variable {ρ ρ':List HV} {rs rs':List Rd} {B:Base} {amb:List Rd} {st:SSt} {env:Env} {w:World} {m:List As} {R:Type} {r:R} {op:Op} {K:SV->SSt->Option R}
def After (B:Base) (amb:List Rd) (ρ:List HV) (st:SSt) (env:Env) (K:SV->SSt->Option R) (r:R) (v:Value) (w':World):Prop:=
 ∃sv a ρ',K sv a=some r/\Ext ρ ρ'/\Sat B amb ρ' a env w'/\sv.Den ρ' v/\Grow st a/\a.env=st.env
def MkOk (q:Bool) (B:Base) (amb:List Rd) (ρ:List HV) (st:SSt) (env:Env) (w:World) (op:Op) (K:SV->SSt->Option R) (r:R):Prop:=
 ∀n d ty pos af,Ex Tryz.prog n env w ⟨some d,op,ty,pos,af,none⟩ λv w'=>(q=true->Rel w w')/\After B amb ρ st env K r v w'
theorem LkOk.mk q (h:LkOk B amb ρ st env w op K r):MkOk q B amb ρ st env w op K r:=λn d ty pos af=>by obtain⟨sv,v,a,ρ',b,c,e,f,g,i,j⟩:=h;exact exq (j w (Rel.refl w) _ _ _ _ _ _) ⟨λ_=>Rel.refl w,sv,a,ρ',b,c,e,f,g,i⟩
theorem Grow.fresh{own' c} (d:Ew c=st.nxt) (b:OwnLe st.own own'):Grow st {st with own:=c::own',nxt:=st.nxt+1}:=⟨B8b _,λc' a h=>by
 rcases B5t.1 a with rfl|a
 ·rw[d]at h;exact absurd h (B91 _)
 ·exact⟨c',b c' a,.inl rfl⟩,[],rfl⟩
theorem Sat.row (a:Sat B amb ρ st env w){own' m' rs s t L w'} (c:OwnOk ρ rs own' m') (d:RdsOk ρ st.rds rs) (e:∀r∈amb,r∈rs) (f:St B (oC (Ac (sz t) (fD t) L) s.v::m') rs w'):
  Sat B amb (ρ++[.row s]) {st with own:=.row st.nxt st.nxt t L []::own',nxt:=st.nxt+1} env w':=by
 have hx:=Ext.one ρ (.row s);have b:=Dp ρ (.row s);rw[a.len]at b;exact⟨by simp[a.len],a.env.mono hx,oV (oC (Ac (sz t) (fD t) L) s.v) []::m',rs,⟨⟨s,[],b,rfl,rfl⟩,OwnOk.mono hx (λ_ h=>h) c⟩,d.mono hx λ_ h=>h,e,f.z Z.toV⟩
theorem Sat.rowDen (b:Sat B amb ρ st env w) s:(SV.v (.c (.sl st.nxt))).Den (ρ++[.row s]) s.v:=by have a:=Dp ρ (.row s);rw[b.len]at a;exact⟨s,a,rfl⟩
theorem Sat.newBox (d:Sat B amb ρ st env w){b e cs vs rs w'} (f:OwnOk ρ rs st.own m) (g:RdsOk ρ st.rds rs) (i:∀r∈amb,r∈rs) (k:All2 (Cell.Den ρ) cs vs) (j:St B (A2 b vs.toArray e::m) rs w'):
  Sat B amb (ρ++[.box b]) {st with own:=.box st.nxt st.nxt cs::st.own,nxt:=st.nxt+1} env w'/\(SV.v (.c (.ptr st.nxt 0))).Den (ρ++[.box b]) (pt b 0):=by
 have hx:=Ext.one ρ (.box b);have a:=Dp ρ (.box b);rw[d.len]at a;exact⟨⟨by simp[d.len],d.env.mono hx,A2 b vs.toArray e::m,rs,⟨⟨b,e,vs,a,k.mono λ_ _=>Cell.Den.mono hx,rfl⟩,OwnOk.mono hx (λ_ h=>h) f⟩,g.mono hx λ_ h=>h,i,j⟩,⟨b,a,rfl⟩⟩
theorem Ate {c:Cell} (h:c.shut=true):c.Den ρ c.val:=by
 cases c with
 |raw u=>exact⟨rfl,h⟩
 |i k x=>rfl
 |y x=>rfl
 |b x=>rfl
 |s x=>rfl
 |nil=>rfl
 |_=>cases h
theorem Ajb:∀ {l:List Cell},l.all Cell.shut=true->All2 (Cell.Den ρ) l (l.map Cell.val)
 |[],_=>trivial
 |c::l,h=>by simp only[B7s,B5l]at h;exact⟨Ate h.1,Ajb h.2⟩
theorem Bsf (i:Sat B amb ρ st env w){e} (h:Abr st e K=some r):MkOk true B amb ρ st env w (.alloc e) K r:=λn d ty pos af=>by
 unfold Abr at h;split at h
 ·rename_i ti q;cases c:ti.zero.all Cell.shut with
  |false=>rw[c]at h;cases h
  |true=>rw[c]at h;obtain⟨_,z,s,f⟩:=F7 q;obtain⟨m,rs,j,k,l,o⟩:=i.mem;refine A9y s o λb w' p a=>?_;have g:=Ajb (ρ:=ρ) c;rw[<-f]at g;obtain⟨t,k2⟩:=i.newBox (e:=e) j k l g (by simpa using a);exact⟨λ_=>p,_,_,_,h,Ext.one ρ _,t,k2,Grow.fresh rfl (OwnLe.refl _),rfl⟩
 ·cases h
theorem Bha {v:Value} (h:v.oneCell'=true):v.cells= #[v]:=by cases v<;>first|rfl|cases h
theorem V1.Den.cells {x:V1}{v} (h:x.Den ρ v):All2 (Cell.Den ρ) x.cells v.cells.toList:=by
 cases x with
 |c c=>rw[Bha (Cell.Den.one h)];exact⟨h,trivial⟩
 |a l=>obtain⟨vs,b,rfl⟩:=h;simpa [V1.cells,Value.cells]using b
theorem Bsg (c:Sat B amb ρ st env w){x e} (h:Ara st x K=some r):MkOk true B amb ρ st env w (.box e x) K r:=λn d ty pos af=>by
 unfold Ara at h;split at h
 ·rename_i v l;obtain⟨u,p,u2⟩:=c.env.ev1 l;obtain⟨m,rs,f,g,i,j⟩:=c.mem;refine B41 p j λb w' k a=>?_;obtain⟨o,k2⟩:=c.newBox (e:=e) f g i u2.cells (by simpa using a);exact⟨λ_=>k,_,_,_,h,Ext.one ρ _,o,k2,Grow.fresh rfl (OwnLe.refl _),rfl⟩
 ·cases h
theorem All2.splice{α b R} {l l':List α} {m m':List b}{o} (h:All2 R l m) (a:All2 R l' m'):All2 R (Go.Proofs.YtcdecpdpmpfbnaaGreatDoor.splice l o l') (Go.Proofs.YtcdecpdpmpfbnaaGreatDoor.splice m o m'):=by unfold Go.Proofs.YtcdecpdpmpfbnaaGreatDoor.splice;rw[a.len];exact((h.take o).append a).append (h.drop _)
theorem Byh{α} {l m:List α}{o} (h:o+m.length<=l.length) k:(splice l o m)[k]?=if o<=k/\k<o+m.length then m[k-o]? else l[k]?:=by
 unfold splice;rw[B5r,Cbb,B5x,B7q (by omega)];by_cases a:k<o
 ·rw[if_pos a,if_neg (by omega),B68,if_pos a]
 ·rw[if_neg a,Cbb];by_cases b:k-o<m.length
  ·rw[if_pos b,if_pos (by omega)]
  ·rw[if_neg b,if_neg (by omega),B6y];congr 1;omega
theorem Bnt off l cells (h:off+l.length<=cells.size):
  ((l.zipIdx 0).foldl (λcs (x:Value×Nat)=>cs.setIfInBounds (off+x.2) x.1) cells)=(splice cells.toList off l).toArray:=by
 obtain⟨c,b⟩:=Great.foldl_set off l 0 cells;apply Cas;intro k;rw[b,B9c (xs:=splice cells.toList off l),Byh (by simpa using h),B9v,B7b];by_cases a:off<=k/\k<off+l.length
 ·rw[if_pos a,if_pos ⟨a.1,a.2,by omega⟩]
 ·rw[if_neg a,if_neg (by omega),B7b]
theorem A57{se} (e:EnvOk ρ se env){pl}:∀ {ps:List (Nat×Operand)} {cs cs':List Cell} {us:List Value},Aii cs pl ps se=some cs'->All2 (Cell.Den ρ) cs us->
  ∃a c,evP env ps=some a/\Instr.fill (pl.toArray[·]?) us.toArray a=some (B8g c)/\All2 (Cell.Den ρ) cs' c
 |[],cs,cs',us,h,hd=>by cases h;exact⟨[],us,rfl,rfl,hd⟩
 |(i,x)::ps,cs,cs',us,h,hd=>by
  unfold Aii at h;split at h
  ·rename_i off b v f k;have d:=(bt h).1;replace h:=(bt h).2;simp only[B5l]at d;have g:=B5k d.1;have s:off+b<=cs.length:=B7e d.2;obtain⟨u,q,u2⟩:=e.ev1 k;have u3:=u2.cells;obtain⟨a,c,l,k2,n⟩:=A57 e h (hd.splice (o:=off) u3);have p:=u3.len;have t:=hd.len;refine⟨(i,u)::a,c,by simp[evP,q,l],?_,n⟩;unfold Instr.fill;have j:pl.toArray[i]?=some (off,b):=by rw[Jv]at f;simpa using f
   simp only[j];have y:u.cells.size=b:=by rw[<-B5z,<-p];exact g
   rw[if_neg (by simp only[B7p];simp;omega)];have e2:(u.cells.zipIdx.foldl (λcs (x:Value×Nat)=>cs.setIfInBounds (off+x.2) x.1) us.toArray)=(splice us off u.cells.toList).toArray:=by have:=Bnt off u.cells.toList us.toArray (by simp;omega);rw[<-this,<-Cbm,Cbl]
   exact(by rw[<-k2,<-e2])
  ·cases h
theorem A5z:∀ {fs:List Field} {a:List (Nat×Nat)},places (fs.map λf=>(f.offset,f.type))=some a->fs.mapM (λf=>(Tryz.prog.info? f.type).map λi=>(f.offset,i.size))=some a
 |[],a,h=>by cases h;rfl
 |f::fs,a,h=>by
  simp only[B6r,places]at h;split at h
  ·rename_i i l hi b;cases h;obtain⟨_,z,c,_⟩:=F7 hi;obtain⟨k,d,g,e,j⟩:=c.info;simp[Cbi,d,A5z b,e]
  ·cases h
theorem A48 (n:Sat B amb ρ st env w){t ps} (h:Us st t ps K=some r):LkOk B amb ρ st env w (.build t ps.toArray) K r:=by
 unfold Us at h;split at h
 ·rename_i ti u;obtain⟨⟨d,q,k⟩,z,x,i⟩:=F7 u;split at h
  ·rename_i fs f;rw[f]at k;obtain⟨l,rfl,s⟩:=k;split at h
   ·rename_i I g;split at h
    ·rename_i cs b
     have c:ti.zero.all Cell.shut=true:=by
      cases p:ti.zero.all Cell.shut with
      |true=>rfl
      |false=>rw[p]at b;cases b
     rw[c]at b;have e:=Ajb (ρ:=ρ) c;obtain⟨o,j,C,k2,D⟩:=A57 n.env b e;obtain⟨H,y,A,F,G⟩:=x.info;refine .same n h (sv:=.v (.a cs)) ⟨j,D,rfl⟩ λ_ _ _ _ _ _ _ _=>Bt6 C ?_;unfold Program.built;simp only[y,q,A,A5z (fs:=l.toList) (by rw[s];exact g)];rw[<-k2,<-i]
    ·cases h
   ·cases h
  ·cases h
 ·cases h
theorem Ni{t e ei ty} (h:Js t=some (e,ei,ty)):Tryz.prog.underlying t=some (.slice e)/\TIok Tryz.prog e ei:=by
 unfold Js at h;split at h
 ·rename_i ti i;obtain⟨⟨d,f,b⟩,_⟩:=F7 i;split at h
  ·rename_i j a;rw[a]at b;cases b;split at h
   ·rename_i c g;split at h
    ·cases h;exact⟨f,F7 g⟩
    ·cases h
   ·cases h
  ·cases h
 ·cases h
theorem Ao6{k}:∀ {a:List Value},(∀v∈a,v.cells.size=k)->(a.flatMap λv=>v.cells.toList).length=a.length*k
 |[],_=>by simp
 |v::a,h=>by rw[B6h,B5m,Ao6 λu hu=>h u (B5j _ hu),B5z,h v (B5n ..),B5q,B61,B9f,B9b]
theorem A36 (g:EnvOk ρ st.env env){ty}:∀ {k:Nat} {ps:List (Nat×Operand)} {own:List Chunk} {p:List (Bi ty)×List Chunk} {m:List As},Aha st ty k ps own=some p->OwnOk ρ rs own m->
  OwnLe own p.2/\p.1.length=ps.length/\∃(c:List Value) (m':List As),evP env ps=some ((c.zipIdx k).map λx=>(x.2,x.1))/\c.length=ps.length/\(∀v∈c,v.cells.size=sz ty)/\OwnOk ρ rs p.2 m'/\(∀w,Z w m (Aj (p.1.flatMap (fD ty)) (c.flatMap λv=>v.cells.toList)++m'))
 |_,[],own,p,m,h,h1=>by cases h;exact⟨OwnLe.refl _,rfl,[],m,rfl,rfl,(λ_ h=>by cases h),h1,λw=>zI⟩
 |k,(i,x)::ps,own,p,m,h,h1=>by
  unfold Aha at h;have hi:=B5k (bt h).1;replace h:=(bt h).2;subst hi;obtain⟨v,N,h⟩:=Af h;obtain⟨q,L,h⟩:=Af h;obtain⟨a,e,h⟩:=Af h;obtain⟨z,O,h⟩:=Af h;cases h;obtain⟨u,M,u2⟩:=g.ev1 N;obtain⟨D,G,m1,o,k2⟩:=L8 L u2.cells h1;obtain⟨H,I,c,m2,s,t,y,A,C⟩:=A36 g O o;have n:fD ty a=q.1.map Leaf.ce:=by rw[Dm,E0 e]
  have hu:u.cells.toList.length=sz ty:=by rw[<-G,<-G5 ty a,E0 e]
  refine⟨D.trans H,by simp[I],u::c,m2,?_,by simp[t],λv d=>?_,A,λw=>?_⟩
  ·simp[evP,M,s,Ca1]
  ·rcases B5t.1 d with rfl|d
   ·simpa using hu
   ·exact y v d
  ·simp only[B6h];rw[Kh (by rw[C3,hu]),B5r,n];refine(k2 w).trans ?_;intro F f;obtain⟨F1,j,g1,g2,g3,g4,g5⟩:=f.split;exact(Sep.join g1 (C w j g2) g3).up (λb l=>l.elim (g4 b) (g5 b)) f.lt
theorem Grow.sha{st1} (c:Grow st st1) (_:st1.nxt=st.nxt){own' t L} (b:OwnLe st1.own own'):Grow st {st1 with own:=.sha st.nxt st.nxt t L::own',nxt:=st.nxt+1}:=⟨B8b _,λc' a h=>by
 rcases B5t.1 a with rfl|a
 ·exact absurd h (B91 _)
 ·exact c.own c' (b c' a) h,c.rds⟩
theorem Atb:∀ {ps:List (Nat×Operand)} {st:SSt},Sat B amb ρ st env w->Sat B amb ρ (P5 ps st) env w/\Grow st (P5 ps st)/\(P5 ps st).env=st.env/\(P5 ps st).nxt=st.nxt
 |[],st,hs=>⟨hs,Grow.refl st,rfl,rfl⟩
 |p::ps,st,hs=>by
  unfold P5;split
  ·rename_i v _;obtain⟨a,b,c⟩:=Yn (l:=v.cells) hs;obtain⟨d,e,f,g⟩:=Atb (ps:=ps) a;exact⟨d,b.trans e,f.trans c,g.trans Va⟩
  ·exact Atb hs
theorem A35 (s:EnvOk ρ st.env env) (g:RdsOk ρ st.rds rs){ty}:∀ {k:Nat} {ps:List (Nat×Operand)} {l:List (Bi ty)},Ahb st ty k ps=some l->
  l.length=ps.length/\∃(b:List Value),evP env ps=some ((b.zipIdx k).map λx=>(x.2,x.1))/\b.length=ps.length/\(∀v∈b,v.cells.size=sz ty)/\∀S w,(∀r∈rs,r.ok S w)->Br S w (l.flatMap (fD ty)) (b.flatMap λv=>v.cells.toList)
 |_,[],l,h=>by cases h;exact⟨rfl,[],rfl,rfl,(λ_ h=>by cases h),λ_ _ _=>rfl⟩
 |k,(i,x)::ps,l,h=>by
  unfold Ahb at h;have hi:=B5k (bt h).1;replace h:=(bt h).2;subst hi;obtain⟨v,N,h⟩:=Af h;obtain⟨a,f,h⟩:=Af h;obtain⟨z,O,h⟩:=Af h;cases h;obtain⟨u,M,u2⟩:=s.ev1 N;obtain⟨L,b,F,G,H,I⟩:=A35 s g O;have j:=Asf g f u2.cells
  have hu:u.cells.toList.length=sz ty:=by
   unfold Ab5 at f;obtain⟨P,t,y⟩:=Af f
   have:∀ {d:List Ty} {cs:List Cell} {ls:List Leaf} {st:SSt},J6 st d cs=some ls->ls.length=cs.length:=λ{d}=>by
    induction d with
    |nil=>intro cs ls st h;cases cs with
     |nil=>cases h;rfl
     |cons _ _=>cases h
    |cons e d o=>intro cs ls st h;cases cs with
     |nil=>cases h
     |cons c cs=>unfold J6 at h;obtain⟨q,g,A⟩:=Af h;obtain⟨z,C,D⟩:=Af A;cases D;simp[o C]
   rw[<-u2.cells.len,<-this t,<-G5 ty a,E0 y]
  refine⟨by simp[L],u::b,?_,by simp[G],λv n=>?_,λS w p=>?_⟩
  ·simp[evP,M,F,Ca1]
  ·rcases B5t.1 n with rfl|n
   ·simpa using hu
   ·exact H v n
  ·simp only[B6h];exact Ye (j S w p) (I S w p)
theorem Bsi (i:Sat B amb ρ st env w){t len ps} (h:Arb st t len ps K=some r):MkOk true B amb ρ st env w (.buildSlice t len ps.toArray) K r:=λn d ty pos af=>by
 unfold Arb at h;split at h
 ·rename_i e ei te V;obtain⟨N,_,z,k,_⟩:=Ni V;split at h
  ·rename_i l own H;have b:=(bt h).1;replace h:=(bt h).2;simp only[B5l]at b;have C:=B5k b.1.1;have D:=B5k b.1.2;obtain⟨m,rs,F,o,y,G⟩:=i.mem;obtain⟨P,A,a,m',I,k2,x,O,M⟩:=A36 i.env H F;have q:=G.z (M w);subst C;rw[<-D]at k b;cases ps with
   |nil=>
    cases a with
    |cons _ _=>simp at k2
    |nil=>
     cases l with
     |cons _ _=>simp at A
     |nil=>exact B42 (T:=Bi te) N k (C3 te) q λs w' u c=>⟨λ_=>u,_,_,_,h,Ext.one ρ _,i.row O o y c,i.rowDen s,Grow.fresh rfl P,rfl⟩
   |cons p ps=>
    have g:(a.flatMap λv=>v.cells.toList).length=(p::ps).length*sz te:=by rw[Ao6 x,k2]
    refine B43 l _ (p::ps).length N k (C3 te) I A g (by simp) b.2 ?_ (λw=>zI) q λs w' u c=>⟨λ_=>u,_,_,_,h,Ext.one ρ _,i.row O o y c,i.rowDen s,Grow.fresh rfl P,rfl⟩;exact Great.fill_whole k.2.2 a _ x (by rw[k2];simp)
  ·split at h
   ·rename_i l H;have b:=(bt h).1;replace h:=(bt h).2;simp only[B5l]at b;have C:=B5k b.1.1.1;have D:=B5k b.1.2;obtain⟨Q,W,S,U⟩:=Atb (ps:=ps) i;obtain⟨m,rs,F,o,y,G⟩:=Q.mem;obtain⟨A,a,I,k2,x,M⟩:=A35 (by rw[S];exact i.env) o H;subst C;rw[<-D]at k b;have g:(a.flatMap λv=>v.cells.toList).length=ps.length*sz te:=by rw[Ao6 x,k2]
    refine B44 (f:=fD te) l _ ps.length N k I A g b.1.1.2 b.2 ?_ M G λs w' u c=>⟨λ_=>u,_,_,_,h,Ext.one ρ _,?_,i.rowDen s,Grow.sha W U (OwnLe.refl _),S⟩
    ·exact Great.fill_whole k.2.2 a _ x (by rw[k2];simp)
    ·have j:∀r∈rs,r∈rX (a.flatMap λv=>v.cells.toList) (l.flatMap (fD te))::rs:=λ_ h=>B5j _ h;have:=Q.sha (L:=l) (OwnOk.mono (Ext.refl ρ) j F) (o.mono (Ext.refl ρ) j) (λr h=>j r (y r h)) (B5n ..) c;rw[U]at this;exact this
   ·cases h
 ·cases h
theorem Bsj (g:Sat B amb ρ st env w){t x} (h:Arc st t x K=some r):MkOk true B amb ρ st env w (.buildSlice t 1 #[(0,x)]) K r:=λn d ty pos af=>by
 unfold Arc at h;split at h
 ·rename_i v e ei te hx L;obtain⟨M,_,z,q,_⟩:=Ni L;have l:=(bt h).1;replace h:=(bt h).2;simp only[B5l]at l;obtain⟨u,N,u2⟩:=g.env.ev1 hx;have u3:=u2.cells;have H:u.cells.size=ei.size:=by rw[<-B5z,<-u3.len];exact B5k l.1
  have I:=B7e l.2.2;obtain⟨i,hi,o,c,G⟩:=q.info;obtain⟨m,rs,A,C,j,D⟩:=g.mem;have y:=q.2.2;refine Ha (v:=Sv.v ⟨some ⟨w.heap.size,0,none⟩,1,1⟩) (w':=w.alloc (.cells u.cells e)) (λa F=>?_) ?_
  ·have j:=run_buildSlice (P:=Tryz.prog) w t e 1 (#[(0,x)].map λp=>(p.1,a.eval p.2)) u.cells i z M hi o (by rw[c];omega) (by rw[c];omega) (by
    have:=Great.fill_whole (s:=ei.size) y [u] ((B9z (1*i.size)).map (z.cells[· % z.cells.size]!)) (by simpa using H) (by simp[c]);rw[c]at this⊢;simpa [F.ev N]using this)
   simp only[execOp,Sem.run_bind,j,Result.andThen_ok,Sem.run_pure];rfl
  ·have k:=D.alloc u.cells e;have b:=Ext.one ρ (.box w.heap.size);have f:=Dp ρ (.box w.heap.size);rw[g.len]at f;refine⟨λ_=>Rel.alloc w _,_,_,_,h,b,⟨by simp[g.len],g.env.mono b,A2 w.heap.size u.cells e::m,rs,⟨⟨w.heap.size,e,u.cells.toList,f,u3.mono λ_ _=>Cell.Den.mono b,by simp⟩,OwnOk.mono b (λ_ h=>h) A⟩,C.mono b λ_ h=>h,j,k⟩,⟨w.heap.size,f,rfl⟩,Grow.fresh rfl (OwnLe.refl _),rfl⟩
 ·cases h
theorem Bgd:∀ {a:List Ty} {cs:List Cell} {ls:List Leaf},Am3 a cs=some ls->(∀c∈cs,c.shut=true)->ls.length=cs.length/\∀w,Z w [] (Aj (ls.map Leaf.ce) (cs.map Cell.val))
 |[],[],ls,h,_=>by cases h;exact⟨rfl,λw=>zN⟩
 |e::a,c::cs,ls,h,hc=>by unfold Am3 at h;obtain⟨l,b,h⟩:=Af h;obtain⟨g,d,h⟩:=Af h;cases h;obtain⟨f,k2⟩:=Bgd d λc h=>hc c (B5j _ h);exact⟨by simp[f],λw=>zP (Ai6 (ρ:=[]) b (Ate (hc c (B5n ..)))).2 (k2 w)⟩
 |[],_::_,_,h,_=>by cases h
 |_::_,[],_,h,_=>by cases h
theorem Bsn{x y} (h:Arg x y=true):x=y:=by
 unfold Arg at h;split at h
 ·rw[B5k h]
 ·cases h
theorem Bsk (b:Sat B amb ρ st env w){t x y} (h:Ard st t x y K=some r):MkOk true B amb ρ st env w (.makeSlice t x y) K r:=λn d ty pos af=>by
 unfold Ard at h;split at h
 ·rename_i c e ei te hx G;obtain⟨H,_,z,l,k⟩:=Ni G;obtain⟨u,I,u2⟩:=b.env.evC hx;split at h
  ·rename_i n' N D j;have a:=(bt h).1;replace h:=(bt h).2;simp only[B5l]at a;have C:=(Bf h).1;replace h:=(Bf h).2;cases Wo u2 D;cases Bsn a.2;have o:=B5k a.1.2.1;obtain⟨ls,L,M⟩:=Af j;have g:∀c∈ei.zero,c.shut=true:=by simpa using a.1.2.2
   obtain⟨O,k2⟩:=Bgd L g;obtain⟨m,rs,p,q,v,A⟩:=b.mem;rw[<-o]at l;have i:ev env x=some (.int .i64 ((n'.toNat:Nat):Int)):=by rw[I,Int.toNat_of_nonneg C.1]
   exact B45 N H l (C3 te) (λw=>by rw[Dm,E0 M,k];exact k2 w) i (by omega) a.1.1 A λs w' F f=>⟨λ_=>F,_,_,_,h,Ext.one ρ _,b.row p q v f,b.rowDen s,Grow.fresh rfl (OwnLe.refl _),rfl⟩
  ·cases h
 ·cases h
theorem Bsm (a:Sat B amb ρ st env w){s t x} (h:Arf st s t x K=some r):MkOk true B amb ρ st env w (.convert s t x) K r:=λn d ty pos af=>by
 unfold Arf at h;split at h
 ·rename_i v hx;obtain⟨u,p,u2⟩:=a.env.evC hx;cases u2;have e:=(bt h).1;replace h:=(bt h).2;simp only[B5l]at e;have l:=(Bf h).1;replace h:=(Bf h).2;obtain⟨q,f,e2⟩:=A1j e.2;obtain⟨m,rs,g,i,j,k⟩:=a.mem;exact B46 (Abb e.1) f e2 p l k λs w' o c=>⟨λ_=>o,_,_,_,h,Ext.one ρ _,a.row (t:=.b 3) g i j c,a.rowDen s,Grow.fresh rfl (OwnLe.refl _),rfl⟩
 ·cases h
theorem Agp{t} (h:Re t=true):FlatE (fD t):=λx c a=>by
 cases t with
 |sl e=>cases h
 |b n=>
  rw[Dm,B75]at a;obtain⟨l,d,rfl⟩:=a;have f:l.ty∈Fg (.b n):=by rw[<-A4d _ x];exact List.mem_map_of_mem d
  have g:=B6b.1 h l.ty f;cases l with
  |sl t L=>cases g
  |i x=>exact⟨_,rfl,rfl⟩
  |b x=>exact⟨_,rfl,rfl⟩
  |s x=>exact⟨_,rfl,rfl⟩
  |y x=>exact⟨_,rfl,rfl⟩
theorem Z0{c ty own p v} (h:Wn c ty own=some p) (b:c.Den ρ v) (a:OwnOk ρ rs own m):
  OwnLe own p.2/\∃(s:Sv) (m':List As),v=s.v/\OwnOk ρ rs p.2 m'/\∀w,Z w m (oC (Ac (sz ty) (fD ty) p.1) s.v::m'):=by
 unfold Wn at h;split at h
 ·cases h;cases b;exact⟨OwnLe.refl _,nS,m,rfl,a,λw=>zP (pN _ _) zI⟩
 ·obtain⟨q,i,h⟩:=Af h;obtain⟨l,j,h⟩:=Af h;cases h;obtain⟨s,s1,rfl⟩:=b;obtain⟨k,s',m',d,k2,f⟩:=Md i a;rw[s1]at d;cases d;obtain⟨e,e2⟩:=Ls j;obtain⟨⟨n,L'⟩,g⟩:=q;simp only at e e2 f;subst e e2;exact⟨k,s,m',rfl,k2,f⟩
 ·cases h
theorem Atx {s s':Sv} (h:s.v=s'.v):s=s':=by obtain⟨a,b,c⟩:=s;obtain⟨d,e,f⟩:=s';simp only[Sv.v,Value.slice.injEq]at h;obtain⟨rfl,rfl,rfl⟩:=h;rfl
def Rt (st:SSt) (x:Operand):Bool:=match evC st.env x with
 |some .nil=>true
 |_=>false
theorem Bgk (g:Sat B amb ρ st env w){t x y cx cy e ei te} (hx:evC st.env x=some cx) (X:evC st.env y=some cy) (W:Js t=some (e,ei,te)) (p:B5w (sz te) ei.size=true) (l:B7m ei.bytes 127=true) (h:Z1 st cx cy te K=some r) (n d:Nat) ty pos af:
  Ex Tryz.prog n env w ⟨some d,.call ⟨.builtin .append,#[x,y],#[t,t]⟩,ty,pos,af,none⟩ λv w'=>After B amb ρ st env K r v w':=by
 obtain⟨t1,_,z,D,_⟩:=Ni W;rw[<-B5k p]at D;unfold Z1 at h;split at h
 ·rename_i V;obtain⟨F,q2,q3⟩:=A7u g V;obtain⟨u,u1,u2⟩:=g.env.evC hx;obtain⟨v,v1,sv,s1,rfl⟩:=g.env.evC X;split at h
  ·rename_i L own Q;split at h
   ·rename_i c U;split at h
    ·rename_i M j;have T:=(Bf h).1;replace h:=(Bf h).2;obtain⟨m,rs,O,C,P,S⟩:=F.mem;obtain⟨l1,s,xs,m',rs',rfl,o,k2,Y,k4⟩:=Atc Q u2 O S;obtain⟨N,g1,g2,g3⟩:=Pd U;obtain⟨r0,G,a5,H,r3⟩:=C N g1;subst g3 r3;rw[g2,s1]at H;cases H;obtain⟨A,f⟩:=Ls j;obtain⟨hv,I,i,pv⟩:=N;simp only at A f G;subst A f;refine B40 (L:=L) (M:=i) t1 D v1 u1 (C3 I) Y k4 (o _ G) T l λs' q w' k=>?_;have b:∀r∈rs',r∈rX q ((L++i).flatMap (fD I))::rs':=λ_ h=>B5j _ h;have a:=F.sha (L:=L++i) (OwnOk.mono (Ext.refl ρ) b k2) (C.mono (Ext.refl ρ) λr h=>b r (o r h)) (λr h=>b r (o r (P r h))) (B5n ..) k;rw[A7t]at a;exact⟨_,_,_,h,Ext.one ρ _,a,g.rowDen s',Grow.sha q2 A7t l1,q3⟩
    ·cases h
   ·cases h
  ·cases h
 ·cases h
theorem A52{h hi}:∀ {vs:List View},Ya h vs=some hi->∃v∈vs,v.h=h/\v.pos=.cut 0 hi
 |[],h=>by cases h
 |v::r,hh=>by
  unfold Ya at hh;cases a:B5w v.h h with
  |true=>
   rw[a]at hh;simp only[cond_true]at hh;split at hh
   ·rename_i d;cases hh;exact⟨v,B5n ..,B5k a,d⟩
   ·cases hh
  |false=>rw[a]at hh;obtain⟨u,b,c⟩:=A52 hh;exact⟨u,B5j _ b,c⟩
theorem A4g{h n p}:∀ {own:List Chunk},Uk h n own=some p->∃a b k g vs,own=a++ .row k g p.1.1.t p.1.1.L vs::b/\Ya h vs=some p.1.2/\p.2=a++ .rem k n p.1.1.t p.1.1.L p.1.2::b
 |[],hc=>by cases hc
 |c::r,hc=>by
  have d:(∃z,Uk h n r=some z/\(z.1,c::z.2)=p)->∃a b k g vs,c::r=a++ .row k g p.1.1.t p.1.1.L vs::b/\Ya h vs=some p.1.2/\p.2=a++ .rem k n p.1.1.t p.1.1.L p.1.2::b:=λ⟨z,j,e⟩=>by subst e;obtain⟨o,o2,k,g,vs,f,e2,i⟩:=A4g j;exact⟨c::o,o2,k,g,vs,by rw[f];rfl,e2,by simp only[i];rfl⟩
  cases c with
  |row k g t L vs=>
   simp only[Uk]at hc;split at hc
   ·rename_i hi l;cases hc;exact⟨[],r,k,g,vs,rfl,l,rfl⟩
   ·simp only[B5s]at hc;exact d hc
  |_=>simp only[Uk,B5s]at hc;exact d hc
theorem Bgm (f:Sat B amb ρ st env w){mv t x y} (h:Ane mv st t x y K=some r):MkOk (Rt st x&&I2 t) B amb ρ st env w (.call ⟨.builtin .append,#[x,y],#[t,t]⟩) K r:=λn d ty pos af=>by
 unfold Ane at h;split at h
 ·rename_i cx cy e ei te hx hy T;obtain⟨t1,_,z,Q,_⟩:=Ni T;obtain⟨u,u1,u2⟩:=f.env.evC hx;obtain⟨v,v1,v2⟩:=f.env.evC hy;obtain⟨m,rs,h1,V,X,hM⟩:=f.mem;cases p:(B7m ei.bytes 127&&B5w (sz te) ei.size)with
  |false=>
   rw[p]at h;simp only[cond_false]at h;have p:=(bt h).1;replace h:=(bt h).2;simp only[B5l]at p;obtain⟨⟨o,H⟩,c6⟩:=p;rw[<-B5k H]at Q;have A:I2 t=false:=by simp only[I2,T];rw[show Re te=false by simpa using c6];rfl
   unfold Ayq at h;split at h
   ·rename_i L own q P;split at h
    ·rename_i c N C;split at h
     ·rename_i M j;have F:=(Bf h).1;replace h:=(Bf h).2;obtain⟨D,s,m',rfl,k2,S⟩:=Z0 P u2 h1;have b:=hM.z (S w);obtain⟨sv,s1,rfl⟩:=v2;obtain⟨l2,s',m2,O,k4,k5⟩:=Md C k2;rw[s1]at O;cases O;obtain⟨e,e2⟩:=Ls j;obtain⟨i,L'⟩:=c;simp only at e e2 k5;subst e e2;have W:ei.bytes<=255:=by simpa using o
      have Y:L.length+L'.length<=549755813888:=F;have a4:=B70 Y W;exact A90 t1 Q v1 u1 (b.z (k5 w).cons) (Caf Y (by decide)) (Caf a4 (by decide)) λs' w' l=>⟨(λh=>by rw[A]at h;simp at h),_,_,_,h,Ext.one ρ _,f.row k4 V X l,f.rowDen s',Grow.fresh rfl (D.trans l2),rfl⟩
     ·cases h
    ·cases h
   ·cases h
  |true=>
  rw[p]at h;simp only[cond_true]at h;simp only[B5l]at p;obtain⟨o,H⟩:=p;rw[<-B5k H]at Q
  have a6:Re te=false->Z1 st cx cy te K=some r->Ex Tryz.prog n env w ⟨some d,.call ⟨.builtin .append,#[x,y],#[t,t]⟩,ty,pos,af,none⟩ λv w'=>((Rt st x&&I2 t)=true->Rel w w')/\After B amb ρ st env K r v w':=λhf h=>by
   obtain⟨v,w',e1,e2⟩:=Bgk f hx hy T H o h n d ty pos af;have A:I2 t=false:=by simp only[I2,T];rw[hf];rfl
   exact⟨v,w',e1,(λh=>by rw[A]at h;simp at h),e2⟩
  cases I:Re te with
  |true=>
   rw[I]at h;simp only[cond_true]at h;split at h
   ·rename_i L own q P;obtain⟨D,s,m',rfl,k2,S⟩:=Z0 P u2 h1;have b:=hM.z (S w);split at h
    ·rename_i c C;split at h
     ·rename_i M j;have F:=(Bf h).1;replace h:=(Bf h).2;obtain⟨sv,s1,rfl⟩:=v2;obtain⟨s',O,s3⟩:=f.rd C;rw[s1]at O;cases O;obtain⟨e,e2⟩:=Ls j;obtain⟨i,L'⟩:=c;simp only at e e2 s3;subst e e2;cases hn:Rt st x with
      |false=>exact B4x t1 Q v1 u1 s3 (Agp I) b F o λs' w' l=>⟨(λh=>by simp at h),_,_,_,h,Ext.one ρ _,f.row k2 V X l,f.rowDen s',Grow.fresh rfl D,rfl⟩
      |true=>
       have c0:cx=.nil:=by unfold Rt at hn;rw[hx]at hn;cases cx<;>first|rfl|cases hn
       subst c0;cases P;have e0:s=nS:=Atx u2;subst e0;exact B4y t1 Q v1 u1 s3 (Agp I) b F o λs' w' hr l=>⟨λ_=>hr,_,_,_,h,Ext.one ρ _,f.row k2 V X l,f.rowDen s',Grow.fresh rfl D,rfl⟩
     ·cases h
    ·cases h
   ·cases h
  |false=>
   rw[I]at h;simp only[cond_false]at h;split at h
   ·rename_i L own q P;split at h
    ·rename_i c N C;split at h
     ·rename_i M j;have F:=(Bf h).1;replace h:=(Bf h).2;obtain⟨D,s,m',rfl,k2,S⟩:=Z0 P u2 h1;have b:=hM.z (S w);obtain⟨sv,s1,rfl⟩:=v2;obtain⟨l2,s',m2,O,k4,k5⟩:=Md C k2;rw[s1]at O;cases O;obtain⟨e,e2⟩:=Ls j;obtain⟨i,L'⟩:=c;simp only at e e2 k5;subst e e2;have A:I2 t=false:=by simp only[I2,T];rw[I];rfl
      exact Aj8 t1 Q v1 u1 (b.z (k5 w).cons) F o λs' w' l=>⟨(λh=>by rw[A]at h;simp at h),_,_,_,h,Ext.one ρ _,f.row k4 V X l,f.rowDen s',Grow.fresh rfl (D.trans l2),rfl⟩
     ·cases h
    ·cases mv with
     |false=>exact a6 I h
     |true=>
      simp only[cond_true]at h;unfold Ayr at h;split at h
      ·rename_i c N c4;split at h
       ·rename_i M j;have F:=(Bf h).1;replace h:=(Bf h).2;obtain⟨D,s,m',rfl,k2,S⟩:=Z0 P u2 h1;have b:=hM.z (S w);obtain⟨sv,s1,rfl⟩:=v2;obtain⟨o1,o2,k,g,vs,e1,e2,e3⟩:=A4g c4;simp only at e1 e2 e3;rw[e1]at k2 D;obtain⟨m1,m2,rfl,a1,a2⟩:=k2.split;cases m2 with
        |nil=>exact a2.elim
        |cons a m2=>
         obtain⟨⟨q,vl,b1,b2,rfl⟩,a3⟩:=a2;obtain⟨v,v3,v4,v5⟩:=A52 e2;obtain⟨sA,ex,c1,c2,_,_⟩:=b2.at_ v v3;rw[v5]at c2;obtain⟨_,c3,_,rfl,_⟩:=c2;rw[v4,s1]at c1;cases c1;obtain⟨e4,e5⟩:=Ls j;obtain⟨⟨i,L'⟩,hi⟩:=c;simp only at e4 e5 b1 b2 c3 h F e3 D;subst e4 e5;have A:I2 t=false:=by simp only[I2,T];rw[I];rfl
         have b8:St B (oC (Ac (sz i) (fD i) L) s.v::oC (Ac (sz i) (fD i) L') q.v::(m1++m2)) rs w:=by have h6:St B (oV (oC (Ac (sz i) (fD i) L') q.v) vl::(oC (Ac (sz i) (fD i) L) s.v::(m1++m2))) rs w:=b.perm ((B5u.cons _).trans (List.Perm.swap ..));exact h6.unview.perm (List.Perm.swap ..)
         exact B4z t1 Q v1 u1 (C3 i) c3 b8 F o λs' w' b9=>by
          have hx:Ext ρ (ρ++[.row s']++[.num 0]):=(Ext.one ρ _).trans (Ext.one _ _);have hl:(ρ++[.row s']++[.num 0])[st.nxt]?=some (.row s'):=by have:=Dp ρ (.row s');rw[f.len]at this;exact(Ext.one _ _).get this
          refine⟨(λh=>by rw[A]at h;simp at h),_,_,_,h,hx,⟨by simp[f.len],f.env.mono hx,oV (oC (Ac (sz i) (fD i) (L++L'.take hi)) s'.v) []::(m1++oRe (sz i) (fD i) L' q.v hi::m2),rs,⟨⟨s',[],hl,rfl,rfl⟩,?_⟩,V.mono hx λ_ h=>h,X,(b9.perm (B5u.symm.cons _)).z Z.toV⟩,⟨s',hl,rfl⟩,⟨by simp only;omega,λc' G a0=>?_,[],rfl⟩,rfl⟩
          ·simp only[e3];exact(a1.mono λ_ _=>Chunk.Is.mono hx λ_ h=>h).append ⟨⟨q,hx.get b1,rfl⟩,a3.mono λ_ _=>Chunk.Is.mono hx λ_ h=>h⟩
          ·rcases B5t.1 G with rfl|G
           ·simp only[Ew]at a0;omega
           ·simp only[e3]at G;rcases B6g.1 G with U|U
            ·exact⟨c',D _ (B6f _ U),.inl rfl⟩
            ·rcases B5t.1 U with rfl|U
             ·simp only[Ew]at a0;omega
             ·exact⟨c',D _ (B54 _ (B5j _ U)),.inl rfl⟩
       ·cases h
      ·cases h
   ·exact a6 I h
 ·cases h
theorem After.back{st1 ρ1 v w'} (h:After B amb ρ1 st1 env K r v w') (b:Ext ρ ρ1) (c:Grow st st1) (d:st1.env=st.env):After B amb ρ st env K r v w':=by obtain⟨sv,a,ρ',e,f,g,i,j,k⟩:=h;exact⟨sv,a,ρ',e,b.trans f,g,i,c.trans j,k.trans d⟩
theorem Bst{x} (h:Rt st x=true):Jy x st=st:=by
 unfold Rt at h;unfold Jy;split at h
 ·rename_i hx;rw[hx];rfl
 ·cases h
theorem Bgn (j:Sat B amb ρ st env w){mv t x y} (h:Ays mv st t x y K=some r) (n d:Nat) ty pos af:
  Ex Tryz.prog n env w ⟨some d,.call ⟨.builtin .append,#[x,y],#[t,t]⟩,ty,pos,af,none⟩ λv w'=>((Rt st x&&I2 t)=true->Rel w w')/\After B amb ρ st env K r v w':=by
 obtain⟨k,b,c,e,f⟩:=A5c j x;obtain⟨v,w',g,e2,i⟩:=Bgm c h n d ty pos af;refine⟨v,w',g,λa=>e2 ?_,i.back b e f⟩;simp only[B5l]at a⊢;exact⟨by rw[Bst a.1];exact a.1,a.2⟩
end
end
section
open Go.RowKit
section
variable {ρ ρ':List HV} {rs rs':List Rd} {B:Base} {amb:List Rd} {st:SSt} {env:Env} {w:World} {m:List As} {R:Type} {r:R} {op:Op}
def StOk (B:Base) (amb:List Rd) (ρ:List HV) (st:SSt) (env:Env) (w:World) (op:Op) (K:SSt->Option R) (r:R):Prop:=
 ∀n ty pos af,ExU Tryz.prog n env w ⟨none,op,ty,pos,af,none⟩ λw'=>∃a ρ',K a=some r/\Ext ρ ρ'/\Sat B amb ρ' a env w'/\Grow st a/\a.env=st.env
theorem Wm:∀ {cs:List Cell} {vs:List Value},All2 (Cell.Den ρ) cs vs->(vs.all (·.oneCell'))=true
 |[],[],_=>rfl
 |_::_,_::_,⟨h1,h2⟩=>by simp only[B7s,h1.one,B7t];exact Wm h2
 |[],_::_,h=>h.elim
 |_::_,[],h=>h.elim
theorem A6y{S k T f} {L:List T} {s:Sv} (h:(Ac k f L).rd S w s.v):s.n=L.length:=by obtain⟨b,e,a,_⟩:=Cs.form h;rw[Atx e,a]
theorem Sat.box (a:Sat B amb ρ st env w){h b e cs vs own' m' rs w'} (i:ρ[h]?=some (.box b)) (c:OwnOk ρ rs own' m') (d:RdsOk ρ st.rds rs) (f:∀r∈amb,r∈rs) (j:All2 (Cell.Den ρ) cs vs) (g:St B (A2 b vs.toArray e::m') rs w'):
  Sat B amb (ρ++[.num 0]) {st with own:=.box h st.nxt cs::own',nxt:=st.nxt+1} env w':=by
 have hx:=Ext.one ρ (.num 0);exact⟨by simp[a.len],a.env.mono hx,A2 b vs.toArray e::m',rs,⟨⟨b,e,vs,hx.get i,j.mono λ_ _=>Cell.Den.mono hx,rfl⟩,OwnOk.mono hx (λ_ h=>h) c⟩,d.mono hx λ_ h=>h,f,g⟩
theorem Sat.rowAt (a:Sat B amb ρ st env w){h s t L own' m' rs w'} (f:ρ[h]?=some (.row s)) (b:OwnOk ρ rs own' m') (c:RdsOk ρ st.rds rs) (d:∀r∈amb,r∈rs) (e:St B (oC (Ac (sz t) (fD t) L) s.v::m') rs w'):
  Sat B amb (ρ++[.num 0]) {st with own:=.row h st.nxt t L []::own',nxt:=st.nxt+1} env w':=by
 have hx:=Ext.one ρ (.num 0);exact⟨by simp[a.len],a.env.mono hx,oV (oC (Ac (sz t) (fD t) L) s.v) []::m',rs,⟨⟨s,[],hx.get f,rfl,rfl⟩,OwnOk.mono hx (λ_ h=>h) b⟩,c.mono hx λ_ h=>h,d,e.z Z.toV⟩
theorem St.stE2{P n ty pos af own T k f L} [Inhabited T]{t x y} {s:Sv}{u size bytes z i j} (a:T) cs (V:Sz P t size bytes z) (O:∀x,(f x).length=k) (hx:ev env x=some (.pointer (some (Ch s.v (i*k+j))))) (W:ev env y=some u) (hi:i<L.length)
  (hu:u.cells.size=size) (U:cs.length=u.cells.toList.length) (S:B7m (j+u.cells.toList.length) k=true) (l:u.cells.toList.all (·.oneCell')=true) (p:f a=(f (el L i)).take j++cs++(f (el L i)).drop (j+u.cells.toList.length)) (X:∀w,Z w own (Aj cs u.cells.toList))
  (N:St B (oC (Ac k f L) s.v::(own++m)) rs w):∃w',RunsU P n env w ⟨none,.store t x y,ty,pos,af,none⟩ w'/\St B (oC (Ac k f (L.set i a)) s.v::m) rs w'/\∀q v,u.cells.toList[q]?=some v->w'.cell? (Ch s.v (i*k+(j+q)))=some v:=by
 obtain⟨b,o,A,e,Y,I,⟨G,D⟩,d,K⟩:=N.upds O hi U (by simpa using S) p X;have F:s.v=.slice (some ⟨b,o,none⟩) s.n s.c:=by rw[<-I];rfl
 refine⟨w.setCells b (o+i*k+j) u.cells.toList,λa p=>?_,K,λq v H=>?_⟩
 ·have g:=p.ev hx;rw[F]at g;simp only[Ch,<-B6d]at g;have M:=Ass (P:=P) (t:=t) V hu l G D d;simp[execOp,g,p.ev W,Instr.storeAt,Instr.sureAddr,M]
 ·have C:q<u.cells.toList.length:=(B55.1 H).1;rw[F];simp only[Ch,World.cell?,Yq _ _ _ _ G];rw[Oe _ _ _ (by rw[B5z];exact d)];have h:(A.toList.take (o+i*k+j)).length=o+i*k+j:=by rw[B5x,B5z];omega
  simp only[B71,B6q,if_false,B9c];rw[B5r,B64 (by omega),h,show o+(i*k+(j+q))-(o+i*k+j)=q by omega,B6p C];exact H
theorem St.app2{P own T f L t k tyy e size bytes z} {s:Sv}{n' news x} {M:List T} (H:P.underlying t=some (.slice e)) (G:Sz P e size bytes z) (h:St B (oC (Ac size f L) s.v::(own++m)) rs w) (a:Src P size k x n' news w)
  (u:M.length=n') (A:(M.flatMap f).length=news.length) (I:Z w own (Aj (M.flatMap f) news)) (d:L.length+n'<=maxLen) (g:(L.length+n')*bytes<=140737488355328) (y:(L.flatMap f).length=L.length*size):
  ∃(s':Sv) (w':World),(Builtin.append_ #[t,k] tyy #[s.v,x]).run P w=.ok s'.v w'/\St B (oC (Ac size f (L++M)) s'.v::m) rs w'/\∀q v,news[q]?=some v->w'.cell? (Ch s'.v (L.length*size+q))=some v:=by
 obtain⟨xs,b,o⟩:=h.unrow
 have c:St B (Bb size s.v L.length xs::(Aj (L.flatMap f) xs++(Aj (M.flatMap f) news++m))) rs w:=by
  refine(St.iso (l:=own) (l':=Aj (M.flatMap f) news) (m:=Bb size s.v L.length xs::(Aj (L.flatMap f) xs++m)) (o.perm ?_) I).perm ?_
  ·exact(B7l ..).cons _|>.trans B5u.symm
  ·exact B5u.trans ((B7l ..).cons _)
 obtain⟨s',w',D,i⟩:=c.appRow (tyy:=tyy) H G a d g;refine⟨s',w',D,St.rerow (xs:=xs++news) (by rw[B60,B5m,B5m,b,A]) ?_,λq v C=>?_⟩
 ·rw[B60,Kh b,B5r,B5m,u];exact i
 ·obtain⟨F,p⟩:=i.at' (B5n ..);refine Aiv p (j:=L.length*size+q) ?_;rw[<-y,b,B64 (by omega),B82];exact C
theorem Atp{t L s i} (hi:i<L.length):∀cs ls us j,All2 (Cell.Den ρ) cs us->ls.length=us.length->(∀q x,ls[q]?=some x->(A3 t (el L i))[j+q]?=some x)->(∀q u,us[q]?=some u->w.cell? (Ch s.v (i*sz t+(j+q)))=some u)->St B (oC (Ac (sz t) (fD t) L) s.v::m) rs w->
  ∃d,ViewsAre ρ s t L (Yt i j cs ls) d/\St B (oV (oC (Ac (sz t) (fD t) L) s.v) d::m) rs w
 |[],ls,us,j,_,_,_,_,hM=>⟨[],by cases ls<;>rfl,hM.z Z.toV⟩
 |_::_,_,[],_,h,_,_,_,_=>h.elim
 |_::_,[],_::_,_,_,h,_,_,_=>by simp at h
 |c::cs,l::ls,u::us,j,⟨h1,h2⟩,hn,hl,hc,hM=>by
  obtain⟨d,o,k2⟩:=Atp hi cs ls us (j+1) h2 (by simpa using hn) (λq x k=>by
   have:=hl (q+1) x (by simpa using k);rwa [show j+(q+1)=j+1+q by omega]at this) (λq v k=>by
   have:=hc (q+1) v (by simpa using k);rwa [show j+(q+1)=j+1+q by omega]at this) hM
  unfold Yt;split
  ·rename_i C y A;obtain⟨p,s1,rfl⟩:=h1;have f:=hl 0 _ rfl;have b:=hc 0 _ rfl;rw[B9v]at f b;obtain⟨s',g,a⟩:=k2.leafV (C3 t) hi (j:=j) (L':=A) (k':=sz y) (f':=fD y) (by rw[Dm,B8q,f];rfl);have e:=a w (Rel.refl w);rw[b]at e;obtain rfl:p=s':=Atx (B65.inj e);exact⟨_,⟨[_,_],d,rfl,⟨p,_,s1,⟨hi,f,rfl⟩,rfl⟩,o⟩,g⟩
  ·exact⟨d,o,k2⟩
theorem St.stH{P n ty pos af T k f L} [Inhabited T]{t x y} {s H:Sv}{u bytes z i j c'} (a:T) (hs:Sz P t 1 bytes z) (M:∀x,(f x).length=k) (hx:ev env x=some (.pointer (some (Ch s.v (i*k+j))))) (hy:ev env y=some u) (h:u.oneCell'=true) (b:u.cells= #[u]) (hi:i<s.n) (o:j<k) (Y:f a=(f (el L i)).set j c')
  (X:St B (H0 k f L s.v (i*k+j) H.v::oC c' u::m) rs w):∃w',RunsU P n env w ⟨none,.store t x y,ty,pos,af,none⟩ w'/\St B (oC (Ac k f (L.set i a)) s.v::m) rs w':=by
 obtain⟨c,O,S,U⟩:=A2q (f:=f) (L:=L) (v:=s.v) (q:=i*k+j) (u:=H.v) rfl M;have e:St B (oC (Ac k Subtype.val c) s.v::([oC c' u]++m)) rs w:=St.iso (l:=[H0 k f L s.v (i*k+j) H.v]) (l':=[oC (Ac k Subtype.val c) s.v]) X λF ⟨C,F1,p,A,f⟩=>⟨C,F1,p,U F1 w A,f⟩;have N:=A6y (e.seeO (B5n ..));have g:i<c.length:=by omega
 have G:i<L.length:=by omega
 have d:(el c i).val.length=k:=(el c i).property
 obtain⟨w',hr,D⟩:=St.stE (P:=P) (n:=n) (ty:=ty) (pos:=pos) (af:=af) (f:=Subtype.val) (⟨(el c i).val.set j c',by rw[B6v];exact d⟩:Ck k) [c'] hs (λx=>x.property) hx hy g (by rw[b];rfl) (by rw[b];rfl) (B9a (by rw[b];exact o)) (by rw[b];simp[h]) (by
  rw[b];exact Ai7 (by rw[d];exact o)) (λw=>by rw[b];exact zI) e
 refine⟨w',hr,D.z λF W=>?_⟩;obtain⟨C,F1,p,⟨xs,A,K⟩,V⟩:=W;have I:(c.set i (⟨(el c i).val.set j c',by rw[B6v];exact d⟩:Ck k)).flatMap Subtype.val=(L.set i a).flatMap f:=by rw[Ago (f:=Subtype.val) (λx:Ck k=>x.property) c i j c' _ g o rfl,S,Cbf,Ago M L i j c' a G o Y]
 refine⟨C,F1,p,⟨xs,by rw[<-I];exact A,?_⟩,V⟩;rw[<-I,B6v,<-O];rw[B6v]at K;exact K
theorem Bsd {u:Value} (h:u.oneCell'=true):u.cells= #[u]:=by cases u<;>first|rfl|cases h
theorem Byn{K} (G:Sat B amb ρ st env w){h0 k i j c} (h:Atr st h0 k i j c K=some r){t x y s u bytes z} (hz:Sz Tryz.prog t 1 bytes z) (hx:ev env x=some (.pointer (some (Ch s.v (i*k+j))))) (hy:ev env y=some u) (D:c.Den ρ u) (F:ρ[h0]?=some (.row s)) (hi:i<s.n):StOk B amb ρ st env w (.store t x y) K r:=λn ty pos af=>by
 unfold Atr at h;split at h
 ·rename_i d own ho;have f:=(bt h).1;replace h:=(bt h).2;simp only[B5l]at f;have N:=B5k f.1.1;have O:=B5k f.1.2;have C:j<k:=by simpa using f.2
  subst N;split at h
  ·rename_i e he;split at h
   ·rename_i l M Y;split at h
    ·rename_i a W;have X:=(Bf h).1;replace h:=(Bf h).2;obtain⟨m,rs,S,T,U,V⟩:=G.mem;obtain⟨l1,q,q0,m',H,k2,I⟩:=A2p ho S;rw[F]at H;cases H;obtain⟨l2,m2,k4,k5⟩:=Arm Y D k2;rw[O,X]at I;have g:=(V.z (I w)).z (k5 w).cons;have b:=D.one;have p:j<(A3 d.t (el d.L i)).length:=by rw[G5];exact C
     obtain⟨w',hr,o⟩:=St.stH (P:=Tryz.prog) (n:=n) (ty:=ty) (pos:=pos) (af:=af) a hz (C3 d.t) hx hy b (Bsd b) hi C (c':=l.ce) (by
      have A:splice (A3 d.t (el d.L i)) j [l]=(A3 d.t (el d.L i)).set j l:=(Ai7 p).symm;rw[Dm,E0 W,Dm,A,Cbu]) g
     exact⟨w',hr,_,_,h,Ext.one ρ _,G.rowAt F k4 T U o,Grow.fresh rfl (l1.trans l2),rfl⟩
    ·cases h
   ·cases h
  ·cases h
 ·cases h
theorem A8a{K} (l:Sat B amb ρ st env w){t x y} (h:Ajo st t x y K=some r):StOk B amb ρ st env w (.store t x y) K r:=λn ty pos af=>by
 unfold Ajo at h;split at h
 ·rename_i q o v ti hx hy ht;obtain⟨_,z,I,_⟩:=F7 ht;obtain⟨u,S,b,u2,rfl⟩:=l.env.evC hx;obtain⟨C,T,U⟩:=l.env.ev1 hy;have p:=U.cells;have hv:=p.len;rw[B5z]at hv;split at h
  ·rename_i cs own D;have G:=(bt h).1;replace h:=(bt h).2;simp only[B5l]at G;have c1:=B5k G.1;have c2:o+ti.size<=cs.length:=B7e G.2;have d:C.cells.size=ti.size:=by rw[<-B5z,<-p.len];exact c1
   obtain⟨g,a2⟩:=Ay3 D;obtain⟨m,rs,W,X,Y,hM⟩:=l.mem;obtain⟨l1,_,b',e,vs,m',M,k2,k3,k4⟩:=O8 a2 W;rw[u2]at M;cases M;have hl:=k2.len;simp only at hl;obtain⟨w',r1,r2⟩:=St.stB (P:=Tryz.prog) (n:=n) (ty:=ty) (pos:=pos) (af:=af) (cs':=(splice vs o C.cells.toList).toArray) I S T d (Wm p) (B9a (by rw[B5z,d];simpa using (by omega:o+ti.size<=vs.length))) (by simp[splice]) (hM.z (k4 w));exact⟨w',r1,_,_,h,Ext.one ρ _,l.box u2 k3 X Y (k2.splice p) r2,Grow.fresh rfl l1,rfl⟩
  ·cases h
 ·rename_i q k i j v ti hx hy ht;obtain⟨_,z,I,_⟩:=F7 ht;obtain⟨u,S,s,u2,rfl,u3,p1,p2,u4⟩:=l.env.evC hx;obtain⟨C,T,U⟩:=l.env.ev1 hy;have p:=U.cells;have hv:=p.len;rw[B5z]at hv;split at h
  ·split at h
   ·rename_i cc;have V:=B5k (bt h).1;replace h:=(bt h).2;have v4:cc.Den ρ C:=U;rw[V]at I;exact Byn l h I S T v4 u2 u3 n ty pos af
   ·cases h
  split at h
  ·rename_i c own G;have D:=(bt h).1;replace h:=(bt h).2;simp only[B5l]at D;have V:=B5k D.1.1;have b2:=B5k D.1.2;have b3:j+ti.size<=k:=B7e D.2;subst V;have d:C.cells.size=ti.size:=by rw[<-B5z,<-p.len];exact b2
   split at h
   ·rename_i ls b7 ho;split at h
    ·rename_i a ha;obtain⟨m,rs,W,X,Y,hM⟩:=l.mem;obtain⟨l1,s',m',M,k2,k3⟩:=Md G W;rw[u2]at M;cases M;obtain⟨l2,O,m2,k4,k5⟩:=L8 ho p k2;have F:=hM.z (k3 w);have H:=A6y (F.seeO (B5n ..));have c6:j+ls.length<=(A3 c.t (el c.L i)).length:=by rw[G5];have:=O;simp only at this;rw[this,B5z,d];exact b3
     have hi:i<c.L.length:=by have:=H;simp only at this;omega
     have a4:fD c.t a=(fD c.t (el c.L i)).take j++ls.map Leaf.ce++(fD c.t (el c.L i)).drop (j+C.cells.toList.length):=by rw[Dm,E0 ha,Dm];unfold splice;rw[O];simp
     obtain⟨w',hr,a1,A⟩:=St.stE2 (P:=Tryz.prog) (n:=n) (ty:=ty) (pos:=pos) (af:=af) a (ls.map Leaf.ce) I (C3 c.t) S T hi d (by rw[B6x];exact O) (B9a (by rw[B5z,d];exact b3)) (Wm p) a4 (λw=>zI) (F.z (k5 w).cons);have a3:el (c.L.set i a) i=a:=by rw[Gb (by rw[B6v];exact hi)];simp
     obtain⟨vl,q1,q2⟩:=Atp (t:=c.t) (L:=c.L.set i a) (s:=s) (i:=i) (by rw[B6v];exact hi) v.cells ls C.cells.toList j p (by rw[O]) (λq x N=>by
      rw[a3,E0 ha];have a5:q<ls.length:=(B55.1 N).1;unfold splice;rw[B5r,B64 (by rw[B5x];omega),B5x,show j+q-min j (A3 c.t (el c.L i)).length=q by omega,B6p a5];exact N) (λq u N=>A q u N) a1
     have f:=Ext.one ρ (.num 0);refine⟨w',hr,_,_,h,f,⟨by simp[l.len],l.env.mono f,oV (oC (Ac (sz c.t) (fD c.t) (c.L.set i a)) s.v) vl::m2,rs,⟨⟨s,vl,f.get u2,q1.mono f,rfl⟩,OwnOk.mono f (λ_ h=>h) k4⟩,X.mono f λ_ h=>h,Y,q2⟩,Grow.fresh rfl (l1.trans l2),rfl⟩
    ·cases h
   ·cases h
  ·cases h
 ·cases h
theorem Byo{K} (b:Sat B amb ρ st env w){t x y} (h:Ats st t x y K=some r):StOk B amb ρ st env w (.store t x y) K r:=by
 unfold Ats at h;split at h
 ·rename_i v _ s;obtain⟨q,c,d,e,f⟩:=Abt (l:=v.cells) b;intro n ty pos af;obtain⟨w',p,a,ρ',g,i,j,k,o⟩:=A8a d h n ty pos af;exact⟨w',p,a,ρ',g,c.trans i,j,e.trans k,o.trans f⟩
 ·exact A8a b h
theorem A1u{se d o sv} (h:evS ((d,none)::se) o=some sv):evS se o=some sv:=by
 cases o with
 |tmp t=>
  simp only[evS,Au]at h⊢;cases a:B5w d t with
  |true=>rw[a]at h;cases h
  |false=>rw[a]at h;exact h
 |_=>exact h
theorem A1r{se d o x} (h:ev1 ((d,none)::se) o=some x):ev1 se o=some x:=by
 unfold ev1 at h⊢;split at h
 ·rename_i y a;cases h;rw[A1u a]
 ·cases h
variable {n:Nat} {ops rest:List Oper} {Q:Post}
theorem Btq{K} (k:Sat B amb ρ st env w){t x y d1 d2} (C:B63 d1 n=true) (D:B63 d2 n=true){ty ty2 pos pos2 af af2 aops}
  (h:Ar4 {st with env:=(d1,none)::st.env} t x y K=some r)
  (hk:∀u v w' sv d ρ',K sv d=some r->Ext ρ ρ'->Sat B amb ρ' d ((d1,u)::env) w'->sv.Den ρ' v->Grow st d->d.env=(d1,none)::st.env->WL Tryz.prog n aops rest Q ((d2,v)::(d1,u)::env) w'):
  WL Tryz.prog n aops (⟨some d1,.buildSlice t 1 #[(0,x)],ty,pos,af,none⟩::⟨some d2,.call ⟨.builtin .append,#[y,.tmp d1],#[t,t]⟩,ty2,pos2,af2,none⟩::rest) Q env w:=by
 unfold Ar4 at h;split at h
 ·rename_i v cy e ei te hx M ht;have p:=(bt h).1;replace h:=(bt h).2;simp only[B5l]at p;have b:∀u,Sat B amb ρ {st with env:=(d1,none)::st.env} ((d1,u)::env) w:=λu=>⟨k.len,k.env.none d1,k.mem⟩;obtain⟨t1,_,z,U,_⟩:=Ni ht;obtain⟨u,u1,u2⟩:=k.env.ev1 (A1r hx);obtain⟨c,i,X⟩:=(b .nilFunc).env.evC M;have u3:=u2.cells;have o:=B5k p.1.2;rw[<-o]at U
  have I:∀(s:Sv) u,c=s.v->ev ((d1,u)::env) y=some s.v:=λs u e=>by
   subst e;obtain⟨c',g1,g2⟩:=(b u).env.evC M;rw[g1];cases y with
   |tmp q=>
    simp only[ev,lk]at g1 i;cases T:B5w d1 q with
    |true=>simp[evC,evS,Au,T]at M
    |false=>rw[T]at g1 i;simp only[cond_false]at g1 i;rw[<-g1,i]
   |_=>rw[<-g1];exact i
  unfold Aih at h;split at h
  ·rename_i L own a hL ha;have hb:=(Bf h).1;replace h:=(Bf h).2;obtain⟨N,q2,W⟩:=Yn (l:=v.cells) (b .nilFunc);obtain⟨m,rs,h1,S,h3,hM⟩:=N.mem;obtain⟨l1,s,xs,m',rs',Y,G,k2,V,k4⟩:=Atc hL X h1 hM;have j:=Asf (S.mono (Ext.refl ρ) G) ha u3;have hl:u.cells.toList.length=sz te:=by have:=U1 (j (al w) w λr H=>V.sees.1 r H);rw[this,C3]
   refine A9q (L:=L) a C D t1 U u1 (by simpa using hl) (by rw[o];exact p.2) (λu=>I s u Y) V k4 j (Wm u3) hb p.1.1 λu s' P w' A=>?_;have g:∀r∈rs',r∈rX P ((L++[a]).flatMap (fD te))::rs':=λ_ h=>B5j _ h;have O:Sat B amb ρ (Iq v.cells {st with env:=(d1,none)::st.env}) ((d1,u)::env) w:=⟨N.len,by rw[W];exact(b u).env,N.mem⟩;have f:=O.sha (L:=L++[a]) (OwnOk.mono (Ext.refl ρ) g k2) (S.mono (Ext.refl ρ) λr h=>g r (G r h)) (λr h=>g r (G r (h3 r h))) (B5n ..) A;rw[Va]at f;have F:=Grow.sha q2 Va (L:=L++[a]) l1;exact hk u s'.v w' _ _ _ h (Ext.one ρ _) f (k.rowDen s') ⟨F.nxt,F.own,F.rds⟩ W
  ·cases h
 ·cases h
theorem Btr{K} (k:Sat B amb ρ st env w){t x y d1 d2} (W:B63 d1 n=true) (X:B63 d2 n=true){ty ty2 pos pos2 af af2 aops}
  (h:Aig {st with env:=(d1,none)::st.env} t x y K=some r)
  (hk:∀u v w' sv o ρ',K sv o=some r->Ext ρ ρ'->Sat B amb ρ' o ((d1,u)::env) w'->sv.Den ρ' v->Grow st o->o.env=(d1,none)::st.env->WL Tryz.prog n aops rest Q ((d2,v)::(d1,u)::env) w'):
  WL Tryz.prog n aops (⟨some d1,.buildSlice t 1 #[(0,x)],ty,pos,af,none⟩::⟨some d2,.call ⟨.builtin .append,#[y,.tmp d1],#[t,t]⟩,ty2,pos2,af2,none⟩::rest) Q env w:=by
 unfold Aig at h;split at h
 ·rename_i v cy e ei te hx hy ht;have V:=(bt h).1;replace h:=(bt h).2;simp only[B5l]at V;have d:∀u,Sat B amb ρ {st with env:=(d1,none)::st.env} ((d1,u)::env) w:=λu=>⟨k.len,k.env.none d1,k.mem⟩;obtain⟨t1,_,z,hz,_⟩:=Ni ht;obtain⟨u,u1,u2⟩:=k.env.ev1 (A1r hx);obtain⟨c,N,c2⟩:=(d .nilFunc).env.evC hy;have u3:=u2.cells;have G:=B5k V.1.2;rw[<-G]at hz
  have a3:∀(s:Sv) u,c=s.v->ev ((d1,u)::env) y=some s.v:=λs u e=>by
   subst e;obtain⟨c',g1,g2⟩:=(d u).env.evC hy;rw[g1];cases y with
   |tmp q=>
    simp only[ev,lk]at g1 N;cases hq:B5w d1 q with
    |true=>simp[evC,evS,Au,hq]at hy
    |false=>rw[hq]at g1 N;simp only[cond_false]at g1 N;rw[<-g1,N]
   |_=>rw[<-g1];exact N
  split at h
  ·rename_i L vs a own ho;have D:=(Bf h).1;replace h:=(Bf h).2;unfold A55 at ho;obtain⟨p,hL,ho⟩:=Af ho;obtain⟨q,c0,ho⟩:=Af ho;obtain⟨a',g,ho⟩:=Af ho;cases ho;obtain⟨m,rs,h1,h2,h3,hM⟩:=k.mem;obtain⟨l1,s,m',e0,k2,k3⟩:=Z0 hL c2 h1;obtain⟨l2,l3,m2,k4,k5⟩:=L8 c0 u3 k2;have hf:fD te a=q.1.map Leaf.ce:=by rw[Dm,E0 g]
   have Y:u.cells.toList.length=sz te:=by rw[<-l3,<-G5 te a,E0 g]
   have b7:=A64 (P:=Tryz.prog) (w:=w) t1 hz (by simpa using Y) (by rw[G];exact V.2)
   have T:(p.1.length+1)*ei.bytes<=140737488355328/\p.1.length+1<=1099511627776:=by
    have O:ei.bytes<=255:=by simpa using V.1.1
    unfold lim at D;cases h7:B7m ei.bytes 127 with
    |true=>rw[h7]at D;simp only[cond_true]at D;have:=B70 (show p.1.length+1<=1099511627776 by omega) (show ei.bytes<=127 by simpa using h7);omega
    |false=>rw[h7]at D;simp only[cond_false]at D;have:=B70 (show p.1.length+1<=549755813888 by omega) O;omega
   refine wv W (v:=.slice (some ⟨w.heap.size,0,none⟩) 1 1) (w':=w.alloc (.cells u.cells e)) (λa g=>by simp[execOp,g.ev u1,b7]) ?_;have b6:=((hM.z (k3 w)).z (k5 w).cons).call (Rel.alloc w (.cells u.cells e));have S:(w.alloc (.cells u.cells e)).heap[w.heap.size]?=some (.cells u.cells e (0,0)):=heap_alloc_new w _
   have a2:Src Tryz.prog (sz te) t (.slice (some ⟨w.heap.size,0,none⟩) 1 1) 1 u.cells.toList (w.alloc (.cells u.cells e)):=
    Src.ofSlice _ t1 _ _ _ _ (by rw[Y];simp) (λj v I=>by
     rw[Addr.add_lit,B7x];rw[B7b]at I;simp only[World.cell?,S,B71,B6q,if_false,I]) (λv hv=>B6b.1 (Wm u3) v hv)
   obtain⟨s',w',hr,C,F⟩:=St.app2 (own:=Aj (q.1.map Leaf.ce) u.cells.toList) (tyy:=ty2) (M:=[a]) (f:=fD te) t1 hz b6 a2 rfl (by simp[C3,Y]) (by rw[B6h,List.flatMap_nil,B6o,hf];exact zI) (by simp only[maxLen];omega) T.1 (Ic (C3 te) p.1);have b8:el (p.1++[a]) p.1.length=a:=by rw[Gb (by simp)];simp
   have b1:OwnOk ρ rs q.2 m2:=k4
   obtain⟨vl,q1,q2⟩:=Atp (t:=te) (L:=p.1++[a]) (s:=s') (i:=p.1.length) (by simp) v.cells q.1 u.cells.toList 0 u3 (by rw[l3]) (λj x I=>by
    rw[b8,E0 g,B7x];exact I) (λj x I=>by rw[B7x];exact F j x I) C
   refine wv X (v:=s'.v) (w':=w') (λa g=>?_) ?_
   ·have e1:=g.ev (a3 s _ e0);have e2:a.eval (.tmp d1)=.slice (some ⟨w.heap.size,0,none⟩) 1 1:=g.ev (x:=.tmp d1) (by simp[ev,lk]);simp[execOp,resolve,invoke,builtin,e1,e2,hr]
   have hx:=Ext.one ρ (.row s');have b:=Dp ρ (.row s');rw[k.len]at b;exact hk _ s'.v w' _ _ _ h hx ⟨by simp[k.len],(d _).env.mono hx,oV (oC (Ac (sz te) (fD te) (p.1++[a])) s'.v) vl::m2,rs,⟨⟨s',vl,b,q1.mono hx,rfl⟩,OwnOk.mono hx (λ_ h=>h) b1⟩,h2.mono hx λ_ h=>h,h3,q2⟩ (k.rowDen s') (Grow.env (Grow.fresh (st:=st) rfl (l1.trans l2)) st.env _) rfl
  ·have U:=(bt h).1;replace h:=(bt h).2;unfold Aih at h;split at h
   ·rename_i L own a hL g;have D:=(Bf h).1;replace h:=(Bf h).2;obtain⟨q1,q2,q3⟩:=Yn (l:=v.cells) (d .nilFunc);obtain⟨m,rs,h1,h2,h3,hM⟩:=q1.mem;obtain⟨l1,s,xs,m',rs',e0,hr,k2,k3,k4⟩:=Atc hL c2 h1 hM;have a1:=Asf (h2.mono (Ext.refl ρ) hr) g u3;have Y:u.cells.toList.length=sz te:=by have:=U1 (a1 (al w) w λr c3=>k3.sees.1 r c3);rw[this,C3]
    refine A9q (L:=L) a W X t1 hz u1 (by simpa using Y) (by rw[G];exact V.2) (λu=>a3 s u e0) k3 k4 a1 (Wm u3) D U λu s' c9 w' C=>?_;have H:∀r∈rs',r∈rX c9 ((L++[a]).flatMap (fD te))::rs':=λ_ h=>B5j _ h;have c7:Sat B amb ρ (Iq v.cells {st with env:=(d1,none)::st.env}) ((d1,u)::env) w:=⟨q1.len,by rw[q3];exact(d u).env,q1.mem⟩;have A:=c7.sha (L:=L++[a]) (OwnOk.mono (Ext.refl ρ) H k2) (h2.mono (Ext.refl ρ) λr h=>H r (hr r h)) (λr h=>H r (hr r (h3 r h))) (B5n ..) C;rw[Va]at A;have hg:=Grow.sha q2 Va (L:=L++[a]) l1;exact hk u s'.v w' _ _ _ h (Ext.one ρ _) A (k.rowDen s') ⟨hg.nxt,hg.own,hg.rds⟩ q3
   ·cases h
 ·cases h
theorem Bss{o}:∀ {st:SSt} {e:List (Nat×Option SV)},evC e o=evC st.env o->Jy o {st with env:=e}= {Jy o st with env:=e}:=λ{st e} f=>by
 have d:∀(h:Nat) (st:SSt),Rx h {st with env:=e}= {Rx h st with env:=e}:=λh st=>by unfold Rx;simp only;split<;>rfl
 have b:∀(l:List Cell) (st:SSt),Kz l {st with env:=e}= {Kz l st with env:=e}:=λl=>by
  induction l with
  |nil=>intro st;rfl
  |cons c l a=>
   intro st;unfold Kz;split
   ·rw[d];exact a _
   ·exact a _
 unfold Jy;simp only;rw[f];split
 ·exact b _ _
 ·rfl
theorem Bnb{se d o x} (h:evC ((d,none)::se) o=some x):evC se o=some x:=by
 unfold evC at h⊢;split at h
 ·rename_i y a;cases h;rw[A1u a]
 ·cases h
theorem Bts{K} (i:Sat B amb ρ st env w){t x y d1 d2} (b:B63 d1 n=true) (d:B63 d2 n=true){ty ty2 pos pos2 af af2 aops sh} (h:Ar5 sh {st with env:=(d1,none)::st.env} t x y K=some r)
  (g:∀u v w' sv a ρ',K sv a=some r->Ext ρ ρ'->Sat B amb ρ' a ((d1,u)::env) w'->sv.Den ρ' v->Grow st a->a.env=(d1,none)::st.env->WL Tryz.prog n aops rest Q ((d2,v)::(d1,u)::env) w'):
  WL Tryz.prog n aops (⟨some d1,.buildSlice t 1 #[(0,x)],ty,pos,af,none⟩::⟨some d2,.call ⟨.builtin .append,#[y,.tmp d1],#[t,t]⟩,ty2,pos2,af2,none⟩::rest) Q env w:=by
 unfold Ar5 at h;cases sh with
 |true=>exact Btq i b d h g
 |false=>
 simp only[cond_false]at h;cases e:evC ((d1,none)::st.env) y with
 |none=>
  exfalso;unfold Aig at h;have:(Jy y {st with env:=(d1,none)::st.env}).env=(d1,none)::st.env:=by unfold Jy;simp only;rw[e]
  rw[this,e]at h;split at h
  ·rename_i o _;cases o
  ·cases h
 |some c=>rw[Bss (by rw[e,Bnb e])]at h;obtain⟨C,j,k,l,f⟩:=A5c i y;rw[<-f]at h;refine Btr k b d h λu v w' sv a ρ' p k2 q s z A=>g u v w' sv a ρ' p (j.trans k2) q s (l.trans z) ?_;rw[A,f]
end
end
section
open Go.RowKit
def R4 (t:Ty) (vs:List Value):Value:=bif My t then .agg vs.toArray else vs.headD .nilFunc
abbrev Bx:=Nat×TypeId×List Value
inductive PIn (S:Bs) (w:World):(ps:List PK)->PArgs ps->List Value->List Value->List As->List Bx->Prop
 |nil:PIn S w [] () [] [] [] []
 |ro {t:Ty} {ps:List PK} {x:Bi t} {q:PArgs ps} {vs vals caps:List Value} {own:List As} {bx:List Bx} (h:Br S w (fD t x) vs) (k:PIn S w ps q vals caps own bx):PIn S w (.val false t::ps) (x,q) (R4 t vs::vals) caps own bx
 |ow {t:Ty} {ps:List PK} {x:Bi t} {q:PArgs ps} {vs vals caps:List Value} {own:List As} {bx:List Bx} (h:vs.length=sz t) (k:PIn S w ps q vals caps own bx):PIn S w (.val true t::ps) (x,q) (R4 t vs::vals) caps (Aj (fD t x) vs++own) bx
 |bo {t:Ty} {ps:List PK} {x:Bi t} {q:PArgs ps} {b:Nat} {e:TypeId} {vs vals caps:List Value} {own:List As} {bx:List Bx} (h:vs.length=sz t) (k:PIn S w ps q vals caps own bx):PIn S w (.box .ow t::ps) (x,q) (pt b 0::vals) caps (A2 b vs.toArray e::(Aj (fD t x) vs++own)) ((b,e,vs)::bx)
 |ea {t:Ty} {ps:List PK} {x:Bi t} {q:PArgs ps} {b:Nat} {e:TypeId} {vs vals caps:List Value} {own:List As} {bx:List Bx} (h:vs.length=sz t) (k:PIn S w ps q vals caps own bx):PIn S w (.eat t::ps) (x,q) (pt b 0::vals) caps (A2 b vs.toArray e::(Aj (fD t x) vs++own)) bx
 |li {t:Ty} {ps:List PK} {x:Bi t} {q:PArgs ps} {b:Nat} {e:TypeId} {vs vals caps:List Value} {own:List As} {bx:List Bx} (h:vs.length=sz t) (k:PIn S w ps q vals caps own bx):PIn S w (.lit t::ps) (x,q) (Sv.v ⟨some ⟨b,0,none⟩,1,1⟩::vals) caps (A2 b vs.toArray e::(Aj (fD t x) vs++own)) bx
 |br {mm:BM} (hm:mm.isRo=true) {t:Ty} {ps:List PK} {x:Bi t} {q:PArgs ps} {b:Nat} {e:TypeId} {vs vals caps:List Value} {own:List As} {bx:List Bx} (h:Br S w (fD t x) vs) (k:PIn S w ps q vals caps own bx):PIn S w (.box mm t::ps) (x,q) (pt b 0::vals) caps (A2 b vs.toArray e::own) ((b,e,vs)::bx)
 |fn {f n:Nat} {ps:List PK} {q:PArgs ps} {cs vals caps:List Value} {own:List As} {bx:List Bx} (h:cs.length=n) (k:PIn S w ps q vals (caps++cs) own bx):PIn S w (.fn f n::ps) q (.func (.func f) #[] cs.toArray::vals) caps own bx
 |co {t:Ty} {ps:List PK} {x:Bi t} {q:PArgs ps} {b:Nat} {e:TypeId} {vs vals caps:List Value} {own:List As} {bx:List Bx} (h:vs.length=sz t) (k:PIn S w ps q vals caps own bx):PIn S w (.cap .ow t::ps) (x,q) vals (pt b 0::caps) (A2 b vs.toArray e::(Aj (fD t x) vs++own)) ((b,e,vs)::bx)
 |cr {mm:BM} (hm:mm.isRo=true) {t:Ty} {ps:List PK} {x:Bi t} {q:PArgs ps} {b:Nat} {e:TypeId} {vs vals caps:List Value} {own:List As} {bx:List Bx} (h:Br S w (fD t x) vs) (k:PIn S w ps q vals caps own bx):PIn S w (.cap mm t::ps) (x,q) vals (pt b 0::caps) (A2 b vs.toArray e::own) ((b,e,vs)::bx)
 |le {t:Ty} {ps:List PK} {x:List (Bi t)} {q:PArgs ps} {v:Value} {vals caps:List Value} {own:List As} {bx:List Bx} (k:PIn S w ps q vals caps own bx):PIn S w (.len t::ps) (x,q) (v::vals) caps (oC (Ac (sz t) (fD t) x) v::own) ((0,0,[v])::bx)
def He:List PK->List BM
 |[]=>[]
 |.box m _::r=>m::He r
 |.cap m _::r=>m::He r
 |.len _::r=>.le::He r
 |_::r=>He r
def RPack:List RK->List (List Leaf)->List Value->List As->List Rd->Prop
 |[],[],vals,own,rds=>vals=[]/\own=[]/\rds=[]
 |k::ks,l::ls,vals,own,rds=>∃vs a own' c d,vs.length=l.length/\l.length=sz k.t/\RPack ks ls a own' c/\(bif k.bx then∃b e,vals=pt b 0::a/\d=[A2 b (B8g vs) e]else vals=R4 k.t vs::a/\d=[])/\(bif k.own then own=d++(Aj (l.map Leaf.ce) vs++own')/\rds=c else own=d++own'/\rds=rX vs (l.map Leaf.ce)::c)
 |_,_,_,_,_=>False
def OPack:List Bx->List BM->List (List Leaf)->List As->List Rd->Prop
 |[],[],[],own,rds=>own=[]/\rds=[]
 |(b,_,_)::bx,.ow::ms,l::ls,own,rds=>∃vs own' e,vs.length=l.length/\own=A2 b (B8g vs) e::(Aj (l.map Leaf.ce) vs++own')/\OPack bx ms ls own' rds
 |(b,_,_)::bx,.rd::ms,l::ls,own,rds=>∃vs own' a e,vs.length=l.length/\own=A2 b (B8g vs) e::own'/\rds=rX vs (l.map Leaf.ce)::a/\OPack bx ms ls own' a
 |(_,_,vs)::bx,.le::ms,l::ls,own,rds=>∃v t L own',vs=[v]/\l=[.sl t L]/\own=oC (Ac (sz t) (fD t) L) v::own'/\OPack bx ms ls own' rds
 |(b,_,vs)::bx,.lo::ms,ls,own,rds=>∃own' e,own=A2 b (B8g vs) e::own'/\OPack bx ms ls own' rds
 |_,_,_,_,_=>False
def Left (c:Con) (h:List Bx) (r:PRes c.ps c.rs) (vs:List Value) (own:List As) (g:List Rd):Prop:=
 ∃f lsO a b d e,Iu _ r=f++lsO/\RPack c.rs f vs a d/\OPack h (He c.ps) lsO b e/\own=a++b/\g=d++e
def Holds (amb:List Rd) (c:Con):Prop:=∀(w:World) (X S:Bs) (a:PArgs c.ps) (vals:List Value) (own:List As) (d:List Bx) (r:PRes c.ps c.rs),
 PIn S w c.ps a vals [] own d->Sep own X w->SX X S w->(∀r∈amb,r.ok S w)->c.x a=some r->
  Ret Tryz.prog c.f vals w λu w'=>∃vs own' b,u=H2 vs/\Left c d r vs own' b/\Gives X S w own' b w'
section
variable {ρ ρ':List HV} {rs rs':List Rd} {B:Base} {amb:List Rd} {st:SSt} {env:Env} {w:World} {m:List As} {R:Type} {r:R} {K:SV->SSt->Option R}
theorem Afb{t v cs u} (h:Tk t v=some cs) (b:v.Den ρ u):∃vs,u=R4 t vs/\All2 (Cell.Den ρ) cs vs:=by
 unfold Tk at h;split at h
 ·cases a:My t with
  |true=>rw[a]at h;cases h
  |false=>rw[a]at h;cases h;exact⟨[u],by simp[R4,a],b,trivial⟩
 ·cases a:My t with
  |true=>rw[a]at h;cases h;obtain⟨vs,c,rfl⟩:=b;exact⟨vs,by simp[R4,a],c⟩
  |false=>rw[a]at h;cases h
def BxIs (ρ:List HV) (x:Nat×Nat×BM×List Cell) (y:Bx):Prop:=(x.2.2.1=.le/\∃s:Sv,ρ[x.1]?=some (.row s)/\y.2.2=[s.v])\/(x.2.2.1≠ .le/\ρ[x.1]?=some (.box y.1)/\All2 (Cell.Den ρ) x.2.2.2 y.2.2)
theorem BxIs.box{ρ x y} (h:BxIs ρ x y) (b:x.2.2.1≠ .le):ρ[x.1]?=some (.box y.1)/\All2 (Cell.Den ρ) x.2.2.2 y.2.2:=by
 rcases h with⟨a,_⟩|⟨_,h⟩
 ·exact absurd a b
 ·exact h
theorem BxIs.mono{ρ ρ'} (hx:Ext ρ ρ'){x y} (h:BxIs ρ x y):BxIs ρ' x y:=by
 rcases h with⟨a,s,b,c⟩|⟨a,b,c⟩
 ·exact .inl ⟨a,s,hx.get b,c⟩
 ·exact .inr ⟨a,hx.get b,c.mono λ_ _=>Cell.Den.mono hx⟩
theorem B1w{mm t h own p} (a:Acr mm t h own=some p) (j:OwnOk ρ rs own m):
  OwnLe own p.2.2/\p.2.1.1=h/\p.2.1.2.2.1=mm/\Chunk.box h p.2.1.2.1 p.2.1.2.2.2∈own/\∃b e vs m',BxIs ρ p.2.1 (b,e,vs)/\OwnOk ρ rs p.2.2 m'/\
   ((mm=.ow/\∃l,p.1=[l]/\l.length=vs.length/\∀w,Z w m (A2 b vs.toArray e::(Aj (l.map Leaf.ce) vs++m')))\/(mm.isRo=true/\p.1=[]/\∀w,Z w m (A2 b vs.toArray e::m'))):=by
 unfold Acr at a;obtain⟨q,u,a⟩:=Af a;obtain⟨g,i,b,e,vs,m',c,k2,d,f⟩:=O8 u j;cases mm with
 |ow=>simp only[BM.isOw,cond_true]at a;obtain⟨z,v,a⟩:=Af a;cases a;obtain⟨o,s,m2,k,n⟩:=L8 v k2 d;exact⟨g.trans o,rfl,rfl,i,b,e,vs,m2,.inr ⟨by simp,c,k2⟩,k,.inl ⟨rfl,z.1,rfl,s,λw=>(f w).trans (n w).cons⟩⟩
 |lo=>cases a;exact⟨g,rfl,rfl,i,b,e,vs,m',.inr ⟨by simp,c,k2⟩,d,.inr ⟨rfl,rfl,f⟩⟩
 |rd=>cases a;exact⟨g,rfl,rfl,i,b,e,vs,m',.inr ⟨by simp,c,k2⟩,d,.inr ⟨rfl,rfl,f⟩⟩
 |le=>cases a
theorem Z.app2{a b c d} (h:Z w b (c++d)):Z w (a++b) ((a++c)++d):=λF e=>by rw[B5r];obtain⟨F1,f,g1,g2,g3,g4,g5⟩:=e.split;exact(Sep.join g1 (h f g2) g3).up (λb g=>g.elim (g4 b) (g5 b)) e.lt
def Reads (ρ:List HV) (st:SSt) (S:Bs) (w:World):Prop:=∀a cs ls us,J6 st a cs=some ls->All2 (Cell.Den ρ) cs us->Br S w (ls.map Leaf.ce) us
def TakeOk (ρ:List HV) (rs:List Rd) (ps:List PK) (vs:List V1) (own:List Chunk) (p:Lent×List Chunk) (vals caps:List Value) (m:List As):Prop:=
 OwnLe own p.2/\(∀x∈p.1.bx,x.2.2.1≠ .le->Chunk.box x.1 x.2.1 x.2.2.2∈own)/\∃c m' b,OwnOk ρ rs p.2 m'/\(∀w,Z w m (c++m'))/\All2 (BxIs ρ) p.1.bx b/\p.1.bx.map (·.2.2.1)=He ps/\
  ∀(st:SSt) (S:Bs) (w:World) (a:PArgs ps),Reads ρ st S w->Gl st ps vs p.1.ls p.1.bx=some a->PIn S w ps a vals caps c b
variable {ps:List PK} {vs:List V1} {own own':List Chunk} {p:Lent×List Chunk} {vals caps:List Value}
theorem B12{t v u} (j:v.Den ρ u) (h:TakeOk ρ rs ps vs own p vals caps m):TakeOk ρ rs (.val false t::ps) (v::vs) own p (u::vals) caps m:=by obtain⟨y,z,A,m',d,k,k2,n,o,s⟩:=h;refine⟨y,z,A,m',d,k,k2,n,o,λst S w a c b=>?_⟩;simp only[Gl,cond_false]at b;obtain⟨cs,e,b⟩:=Af b;obtain⟨l,f,b⟩:=Af b;obtain⟨x,g,b⟩:=Af b;obtain⟨q,i,b⟩:=Af b;cases b;obtain⟨us,rfl,e2⟩:=Afb e j;exact .ro (by rw[Dm,E0 g];exact c _ _ _ _ f e2) (s st S w q c i)
theorem B11{t v u cs z} (k:v.Den ρ u) (g:Tk t v=some cs) (i:G0 (Fg t) cs own=some z) (l:OwnOk ρ rs own m)
  (h:∀m1,OwnOk ρ rs z.2 m1->TakeOk ρ rs ps vs z.2 p vals caps m1):TakeOk ρ rs (.val true t::ps) (v::vs) own (⟨z.1::p.1.ls,p.1.bx⟩,p.2) (u::vals) caps m:=by
 obtain⟨us,rfl,e2⟩:=Afb g k;obtain⟨e,c,m1,F,G⟩:=L8 i e2 l;obtain⟨H,I,L,m',f,s,k2,A,C,D⟩:=h m1 F;refine⟨e.trans H,λx hx o=>e _ (I x hx o),Aj (z.1.map Leaf.ce) us++L,m',f,s,λw=>(G w).trans (k2 w).app2,A,C,λst S w a q b=>?_⟩;simp only[Gl,cond_true]at b;obtain⟨x,d,b⟩:=Af b;obtain⟨y,j,b⟩:=Af b;cases b;have n:fD t x=z.1.map Leaf.ce:=by rw[Dm,E0 d]
 rw[<-n];exact .ow (by rw[<-c,<-G5 t x,E0 d]) (D st S w y q j)
theorem A8z{mm t hh i z} (W:ρ[hh]?=some (.box i)) (X:Acr mm t hh own=some z) (h1:OwnOk ρ rs own m)
  (h:∀m1,OwnOk ρ rs z.2.2 m1->TakeOk ρ rs ps vs z.2.2 p vals caps m1):TakeOk ρ rs (.box mm t::ps) (.c (.ptr hh 0)::vs) own (⟨z.1++p.1.ls,z.2.1::p.1.bx⟩,p.2) (pt i 0::vals) caps m/\
   TakeOk ρ rs (.cap mm t::ps) vs own (⟨z.1++p.1.ls,z.2.1::p.1.bx⟩,p.2) vals (pt i 0::caps) m:=by
 obtain⟨u,U,v,n3,b,e,us,m1,A,k6,f⟩:=B1w X h1;obtain⟨L,l2,T,m',C,F,k2,G,H,I⟩:=h m1 k6
 have P:z.2.1.2.2.1≠ .le:=by
  rw[v];rcases f with⟨rfl,_⟩|⟨g,_⟩
  ·simp
  ·intro h;subst h;cases g
 have V:=A.box P;have hb:i=b:=by have:=V.1;rw[U,W]at this;cases this;rfl
 subst hb
 have j:∀x∈z.2.1::p.1.bx,x.2.2.1≠ .le->Chunk.box x.1 x.2.1 x.2.2.2∈own:=λx hx hm=>by
  rcases B5t.1 hx with rfl|hx
  ·rw[U];exact n3
  ·exact u _ (l2 x hx hm)
 rcases f with⟨rfl,l,N,e2,O⟩|⟨g,N,O⟩
 ·have s:∀w,Z w m ((A2 i us.toArray e::(Aj (l.map Leaf.ce) us++T))++m'):=λw=>(O w).trans (Z.cons (k2 w).app2);refine⟨⟨u.trans L,j,_,m',(i,e,us)::C,F,s,⟨A,G⟩,by simp[He,v,H],λst S w a k d=>?_⟩,⟨u.trans L,j,_,m',(i,e,us)::C,F,s,⟨A,G⟩,by simp[He,v,H],λst S w a k d=>?_⟩⟩
  all_goals
   simp only[Gl,Aiq,N,BM.isOw,B6a,B62,B9l,cond_true]at d;obtain⟨zz,n,d⟩:=Af d;obtain⟨x,D,M⟩:=Af n;cases M;obtain⟨y,o,d⟩:=Af d;cases d;have hf:fD t x=l.map Leaf.ce:=by rw[Dm,E0 D]
   rw[<-hf];have q:us.length=sz t:=by rw[<-e2,<-G5 t x,E0 D]
  ·exact .bo q (I st S w y k o)
  ·exact .co q (I st S w y k o)
 ·have Q:mm.isOw=false:=by cases mm<;>first|rfl|cases g
  have s:∀w,Z w m ((A2 i us.toArray e::T)++m'):=λw=>(O w).trans (k2 w).cons;refine⟨⟨u.trans L,j,_,m',(i,e,us)::C,F,s,⟨A,G⟩,by simp[He,v,H],λst S w a k d=>?_⟩,⟨u.trans L,j,_,m',(i,e,us)::C,F,s,⟨A,G⟩,by simp[He,v,H],λst S w a k d=>?_⟩⟩
  all_goals
   simp only[Gl,Aiq,N,Q,B62,B9l,cond_false]at d;obtain⟨zz,n,d⟩:=Af d;obtain⟨l,Y,n⟩:=Af n;obtain⟨x,D,M⟩:=Af n;cases M;obtain⟨y,o,d⟩:=Af d;cases d;have q:Br S w (fD t x) us:=by rw[Dm,E0 D];exact k _ _ _ _ Y V.2
  ·exact .br g q (I st S w y k o)
  ·exact .cr g q (I st S w y k o)
theorem B1x{t hh f b z} (l:ρ[hh]?=some (.box f)) (o:Dw hh own=some b) (q:G0 (Fg t) b.1.2 b.2=some z) (u:OwnOk ρ rs own m)
  (h:∀m1,OwnOk ρ rs z.2 m1->TakeOk ρ rs ps vs z.2 p vals caps m1):TakeOk ρ rs (.eat t::ps) (.c (.ptr hh 0)::vs) own (⟨z.1::p.1.ls,p.1.bx⟩,p.2) (pt f 0::vals) caps m:=by
 obtain⟨i,_,V,e,us,m1,k,Q,T,U⟩:=O8 o u;rw[l]at k;cases k;obtain⟨j,O,m2,I,L⟩:=L8 q Q T;obtain⟨M,N,P,m',n,D,k2,F,G,H⟩:=h m2 I;refine⟨i.trans (j.trans M),λx hx A=>i _ (j _ (N x hx A)),A2 f us.toArray e::(Aj (z.1.map Leaf.ce) us++P),m',n,D,λw=>(U w).trans (Z.cons ((L w).trans (k2 w).app2)),F,G,λst S w a C d=>?_⟩;simp only[Gl,B9l]at d;obtain⟨x,g,d⟩:=Af d;obtain⟨y,s,d⟩:=Af d;cases d;have v:fD t x=z.1.map Leaf.ce:=by rw[Dm,E0 g]
 rw[<-v];exact .ea (by rw[<-O,<-G5 t x,E0 g]) (H st S w y C s)
theorem B10{t hh f b z} (l:ρ[hh]?=some (.box f)) (o:Dw hh own=some b) (q:G0 (Fg t) b.1.2 b.2=some z) (u:OwnOk ρ rs own m)
  (h:∀m1,OwnOk ρ rs z.2 m1->TakeOk ρ rs ps vs z.2 p vals caps m1):TakeOk ρ rs (.lit t::ps) (.c (.lt hh)::vs) own (⟨z.1::p.1.ls,p.1.bx⟩,p.2) (Sv.v ⟨some ⟨f,0,none⟩,1,1⟩::vals) caps m:=by
 obtain⟨i,_,W,e,us,m1,k,T,U,V⟩:=O8 o u;rw[l]at k;cases k;obtain⟨j,P,m2,L,M⟩:=L8 q T U;obtain⟨N,O,Q,m',n,F,k2,G,H,I⟩:=h m2 L;refine⟨i.trans (j.trans N),λx hx C=>i _ (j _ (O x hx C)),A2 f us.toArray e::(Aj (z.1.map Leaf.ce) us++Q),m',n,F,λw=>(V w).trans (Z.cons ((M w).trans (k2 w).app2)),G,H,λst S w a D d=>?_⟩;simp only[Gl,B9l]at d;obtain⟨x,g,d⟩:=Af d;obtain⟨y,s,d⟩:=Af d;cases d;have A:fD t x=z.1.map Leaf.ce:=by rw[Dm,E0 g]
 rw[<-A];exact .li (by rw[<-P,<-G5 t x,E0 g]) (I st S w y D s)
theorem B1z{t hh s z} (e:ρ[hh]?=some (.row s)) (k:F4 hh own=some z) (o:OwnOk ρ rs own m)
  (h:∀m1,OwnOk ρ rs z.2 m1->TakeOk ρ rs ps vs z.2 p vals caps m1):TakeOk ρ rs (.len t::ps) (.c (.sl hh)::vs) own (⟨[.sl z.1.t z.1.L]::p.1.ls,(hh,0,.le,[])::p.1.bx⟩,p.2) (s.v::vals) caps m:=by
 obtain⟨g,s',m1,i,G,H⟩:=Md k o;rw[e]at i;cases i;obtain⟨I,M,N,m',j,A,k2,C,D,F⟩:=h m1 G;refine⟨g.trans I,λx hx f=>?_,oC (Ac (sz z.1.t) (fD z.1.t) z.1.L) s.v::N,m',(0,0,[s.v])::j,A,λw=>(H w).trans (k2 w).cons,⟨.inl ⟨rfl,s,e,rfl⟩,C⟩,by simp[He,D],λst S w a u b=>?_⟩
 ·rcases B5t.1 hx with rfl|hx
  ·exact absurd rfl f
  ·exact g _ (M x hx f)
 ·simp only[Gl,B9l]at b;obtain⟨x,l,b⟩:=Af b;obtain⟨y,n,b⟩:=Af b;cases b;have q:(fD (.sl t) x)=[Leaf.sl z.1.t z.1.L].map Leaf.ce:=by rw[Dm,E0 l]
  have d:Ac (sz t) (fD t) x=Ac (sz z.1.t) (fD z.1.t) z.1.L:=by have:[Ac (sz t) (fD t) x]=[Ac (sz z.1.t) (fD z.1.t) z.1.L]:=q;exact(List.cons.inj this).1
  rw[<-d];exact .le (F st S w y u n)
theorem B1y {f n:Nat}{l us} (e:l.length=us.length) (g:l.length=n) (h:TakeOk ρ rs ps vs own p vals (caps++us) m):
  TakeOk ρ rs (.fn f n::ps) (.c (.fn f l)::vs) own p (.func (.func f) #[] us.toArray::vals) caps m:=by
 obtain⟨s,t,u,m',d,j,k2,k,o,q⟩:=h;refine⟨s,t,u,m',d,j,k2,k,o,λst S w a i b=>?_⟩;simp only[Gl,B9l]at b;exact .fn (by rw[<-e,g]) (q st S w a i b)
theorem B1v:∀ {ps:List PK} {vs:List V1} {x:List (Nat×Nat)} {own:List Chunk} {p:Lent×List Chunk} {vals caps:List Value} {m:List As},Fj ps vs x own=some p->All2 (V1.Den ρ) vs vals->All2 (CapIs ρ) x caps->OwnOk ρ rs own m->TakeOk ρ rs ps vs own p vals caps m:=by
 intro ps;induction ps with
 |nil=>
  intro vs x own p vals caps m h a c i;unfold Fj at h;split at h
  ·cases h;cases vals with
   |cons _ _=>exact a.elim
   |nil=>
    cases caps with
    |cons _ _=>exact c.elim
    |nil=>exact⟨OwnLe.refl _,(λ_ h=>by cases h),[],m,[],i,λw=>zI,trivial,rfl,λ_ _ _ _ _ _=>.nil⟩
  ·cases h
 |cons k ps l=>
  intro vs x own p vals caps m h a c i;cases k with
  |val o t=>
   unfold Fj at h;split at h
   ·cases vals with
    |nil=>exact a.elim
    |cons u vals=>
     cases o with
     |false=>exact B12 a.1 (l h a.2 c i)
     |true=>simp only[cond_true]at h;obtain⟨cs,d,h⟩:=Af h;obtain⟨z,v,h⟩:=Af h;obtain⟨q,e,h⟩:=Af h;cases h;exact B11 a.1 d v i λm1 g=>l e a.2 c g
   ·cases h
  |box mm t=>
   unfold Fj at h;split at h
   ·cases vals with
    |nil=>exact a.elim
    |cons u vals=>obtain⟨b,j,rfl⟩:=a.1;obtain⟨z,d,h⟩:=Af h;obtain⟨q,e,h⟩:=Af h;cases h;exact(A8z j d i λm1 g=>l e a.2 c g).1
   ·cases h
  |eat t=>
   unfold Fj at h;split at h
   ·cases vals with
    |nil=>exact a.elim
    |cons u vals=>obtain⟨b,j,rfl⟩:=a.1;obtain⟨z,d,h⟩:=Af h;obtain⟨q,v,h⟩:=Af h;obtain⟨C,e,h⟩:=Af h;cases h;exact B1x j d v i λm1 g=>l e a.2 c g
   ·cases h
  |lit t=>
   unfold Fj at h;split at h
   ·cases vals with
    |nil=>exact a.elim
    |cons u vals=>obtain⟨b,j,rfl⟩:=a.1;obtain⟨z,d,h⟩:=Af h;obtain⟨q,v,h⟩:=Af h;obtain⟨C,e,h⟩:=Af h;cases h;exact B10 j d v i λm1 g=>l e a.2 c g
   ·cases h
  |fn f n=>
   unfold Fj at h;split at h
   ·cases vals with
    |nil=>exact a.elim
    |cons u vals=>obtain⟨us,rfl,A⟩:=a.1;have y:=(bt h).1;replace h:=(bt h).2;simp only[B5l]at y;cases B5k y.1;exact B1y A.len (B5k y.2) (l h a.2 (c.append A) i)
   ·cases h
  |cap mm t=>
   unfold Fj at h;split at h
   ·cases caps with
    |nil=>exact c.elim
    |cons u caps=>obtain⟨b,j,rfl⟩:=c.1;obtain⟨z,d,h⟩:=Af h;obtain⟨q,e,h⟩:=Af h;cases h;exact(A8z j d i λm1 g=>l e a c.2 g).2
   ·cases h
  |len t=>
   unfold Fj at h;split at h
   ·cases vals with
    |nil=>exact a.elim
    |cons u vals=>obtain⟨s,j,rfl⟩:=a.1;obtain⟨z,d,h⟩:=Af h;obtain⟨q,e,h⟩:=Af h;cases h;exact B1z j d i λm1 g=>l e a.2 c g
   ·cases h
end
end
section
open Go.RowKit
section
variable {ρ ρ':List HV} {rs rs':List Rd} {B:Base} {amb:List Rd} {st:SSt} {env:Env} {w:World} {m:List As} {R:Type} {r:R} {K:SV->SSt->Option R}
theorem Bgh{t} (h:My t=false):sz t=1:=by
 cases t with
 |sl e=>rfl
 |b n=>
  match n,h with
  |0,_=>rfl
  |1,_=>rfl
  |2,_=>rfl
  |3,_=>rfl
  |n+4,h=>have:B7m 4 (n+4)=true:=B9a (by omega);rw[show My (.b (n+4))=B7m 4 (n+4)from rfl,this]at h;cases h
theorem Aqy{t cs vs} (h:All2 (Cell.Den ρ) cs vs) (a:vs.length=sz t):(mkV t cs).Den ρ (R4 t vs):=by
 unfold mkV R4;cases b:My t with
 |true=>exact⟨vs,h,rfl⟩
 |false=>
  rw[Bgh b]at a;match cs,vs,h,a with
  |[c],[v],h,_=>exact h.1
  |[],[v],h,_=>exact h.elim
  |_::_::_,[v],h,_=>exact h.2.elim
structure Mem (B:Base) (amb:List Rd) (ρ:List HV) (st:SSt) (x:List As) (rs:List Rd) (w:World):Prop where
 len:ρ.length=st.nxt
 mem:∃m,OwnOk ρ rs st.own m/\RdsOk ρ st.rds rs/\St B (m++x) rs w
 amb:∀r∈amb,r∈rs
theorem Aph{x lsO}:∀ {s:List RK} {f:List (List Leaf)} {d:List Value} {own:List As} {j rs:List Rd} {st:SSt} {ρ:List HV},RPack s f d own j->(∀r∈j,r∈rs)->Mem B amb ρ st (own++x) rs w->
  (Fo s (f++lsO) st).2.1=lsO/\∃ρ' rs',Ext ρ ρ'/\(∀r∈rs,r∈rs')/\Mem B amb ρ' (Fo s (f++lsO) st).2.2 x rs' w/\All2 (V1.Den ρ') (Fo s (f++lsO) st).1 d/\Grow st (Fo s (f++lsO) st).2.2/\(Fo s (f++lsO) st).2.2.env=st.env
 |[],[],d,own,j,rs,st,ρ,h,_,hM=>by
  obtain⟨rfl,rfl,rfl⟩:=h;have:Fo [] ([]++lsO) st=([],lsO,st):=by cases lsO<;>rfl
  rw[this];exact⟨rfl,ρ,rs,Ext.refl ρ,λ_ h=>h,hM,trivial,Grow.refl st,rfl⟩
 |k::s,l::ls,d,own,j,rs,st,ρ,h,hr,hM=>by
  obtain⟨vs,T,a,D,F,U,h2,V,H,G⟩:=h;obtain⟨m,m1,m2,m3⟩:=hM.mem
  have q:∃ρ' rs',Ext ρ ρ'/\(∀r∈rs,r∈rs')/\(∀r∈D,r∈rs')/\Mem B amb ρ' (Ay k.own l st).2 (F++(a++x)) rs' w/\All2 (Cell.Den ρ') (Ay k.own l st).1 vs/\Grow st (Ay k.own l st).2/\(Ay k.own l st).2.env=st.env:=by
   cases W:k.own with
   |true=>
    rw[W]at G;obtain⟨rfl,rfl⟩:=G;have m4:St B (Aj (l.map Leaf.ce) vs++(m++(F++(a++x)))) rs w:=by refine m3.perm ?_;simp only[B5r];refine((B7l F (Aj (l.map Leaf.ce) vs) (a++x)).append_left m).trans ?_;exact B7l ..
    obtain⟨ρ',m',p,o,v,i,y,z,A,I⟩:=O6 l st ρ vs m hM.len m1 U.symm m4;exact⟨ρ',rs,p,λ_ h=>h,hr,⟨o,⟨m',v,by rw[I];exact m2.mono p λ_ h=>h,i⟩,hM.amb⟩,y,z,A⟩
   |false=>rw[W]at G;obtain⟨rfl,rfl⟩:=G;obtain⟨ρ',rs',p,o,v,i,y,z,A,I,Y,X⟩:=Te (x0:=(F++a)++x) l st ρ vs rs hM.len m1 m2 (λS hS=>hS _ (hr _ (B5n ..))) m3;exact⟨ρ',rs',p,o,λr h=>o r (hr r (B5j _ h)),⟨v,⟨m,i,y,by simpa [B5r]using z⟩,λr h=>o r (hM.amb r h)⟩,A,I,Y⟩
  obtain⟨n,rs1,p,o,v,i,y,z,A⟩:=q;cases g:k.bx with
  |false=>
   rw[g]at H;obtain⟨rfl,rfl⟩:=H;obtain⟨L,u,t,C,M,N,O,P,Q⟩:=Aph (lsO:=lsO) (st:=(Ay k.own l st).2) (ρ:=n) (rs:=rs1) (x:=x) V v (by simpa using i);refine⟨?_,u,t,p.trans C,λr h=>M r (o r h),?_,?_,?_,?_⟩
   ·simp only[B6a,Fo,g];exact L
   ·simp only[B6a,Fo,g];exact N
   ·simp only[B6a,Fo,g];exact⟨(Aqy y (U.trans h2)).mono C,O⟩
   ·simp only[B6a,Fo,g];exact z.trans P
   ·simp only[B6a,Fo,g];exact Q.trans A
  |true=>
   rw[g]at H;obtain⟨b,e,rfl,rfl⟩:=H;have hx:=Ext.one n (.box b);have c:=Dp n (.box b);rw[i.len]at c;obtain⟨m',n1,n2,n3⟩:=i.mem
   have m5:Mem B amb (n++[.box b]) {(Ay k.own l st).2 with own:=.box (Ay k.own l st).2.nxt (Ay k.own l st).2.nxt (Ay k.own l st).1::(Ay k.own l st).2.own,nxt:=(Ay k.own l st).2.nxt+1} (a++x) rs1 w:=
    ⟨by simp[i.len],⟨A2 b vs.toArray e::m',⟨⟨b,e,vs,c,y.mono λ_ _=>Cell.Den.mono hx,rfl⟩,OwnOk.mono hx (λ_ h=>h) n1⟩,n2.mono hx λ_ h=>h,n3.perm B5u⟩,i.amb⟩
   obtain⟨L,u,t,C,M,N,O,P,Q⟩:=Aph (lsO:=lsO) (x:=x) V v m5;refine⟨?_,u,t,(p.trans hx).trans C,λr h=>M r (o r h),?_,?_,?_,?_⟩
   ·simp only[B6a,Fo,g];exact L
   ·simp only[B6a,Fo,g];exact N
   ·simp only[B6a,Fo,g];exact⟨⟨b,C.get c,rfl⟩,O⟩
   ·simp only[B6a,Fo,g];exact(z.trans (Grow.fresh rfl (OwnLe.refl _))).trans P
   ·simp only[B6a,Fo,g];exact Q.trans A
 |[],_::_,_,_,_,_,_,_,h,_,_=>h.elim
 |_::_,[],_,_,_,_,_,_,h,_,_=>h.elim
theorem Aa4{st0}:∀ {xs:List (Nat×Nat×BM×List Cell)} {G:List Bx} {ls:List (List Leaf)} {own:List As} {i rs:List Rd} {st:SSt} {ρ:List HV},OPack G (xs.map (·.2.2.1)) ls own i->(∀r∈i,r∈rs)->All2 (BxIs ρ) xs G->(∀y∈xs,y.2.2.1≠ .le->Chunk.box y.1 y.2.1 y.2.2.2∈st0.own)->Grow st0 st->Mem B amb ρ st own rs w->
  ∃ρ' rs',Ext ρ ρ'/\Mem B amb ρ' (I3 xs ls st) [] rs' w/\Grow st0 (I3 xs ls st)/\(I3 xs ls st).env=st.env
 |[],[],ls,own,i,rs,st,ρ,h,_,_,_,hg,hM=>by
  cases ls with
  |cons _ _=>exact h.elim
  |nil=>have h':own=[]:=h.1;subst h';exact⟨ρ,rs,Ext.refl ρ,hM,hg,rfl⟩
 |(hh,g,mm,cs)::xs,(b,_,vs0)::G,ls,own,i,rs,st,ρ,h,hr,⟨hbx,h1⟩,h2,hg,hM=>by
  cases mm with
  |ow=>
   obtain⟨A,u⟩:=hbx.box (by simp);cases ls with
   |nil=>exact h.elim
   |cons l ls=>
    obtain⟨vs,c,e,W,rfl,k2⟩:=h;obtain⟨m,m1,m2,m3⟩:=hM.mem;have m4:St B (Aj (l.map Leaf.ce) vs++(m++(A2 b vs.toArray e::c))) rs w:=by exact m3.perm (((B5u (a:=A2 b vs.toArray e) (l₁:=Aj (l.map Leaf.ce) vs) (l₂:=c)).symm.append_left m).trans (B7l ..))
    obtain⟨ρ',m',j,F,H,I,M,N,O,P⟩:=O6 l st ρ vs m hM.len m1 W.symm m4;have hx:=Ext.one ρ' (.num 0)
    have m5:Mem B amb (ρ'++[.num 0]) {(Ay true l st).2 with own:=.box hh (Ay true l st).2.nxt (Ay true l st).1::(Ay true l st).2.own,nxt:=(Ay true l st).2.nxt+1} c rs w:=
     ⟨by simp[F],⟨A2 b vs.toArray e::m',⟨⟨b,e,vs,hx.get (j.get A),M.mono λ_ _=>Cell.Den.mono hx,rfl⟩,OwnOk.mono hx (λ_ h=>h) H⟩,by rw[P];exact m2.mono (j.trans hx) λ_ h=>h,I.perm B5u⟩,hM.amb⟩
    obtain⟨f,d,k,n,o,p⟩:=Aa4 (st0:=st0) k2 hr (h1.mono λ_ _ C=>C.mono (j.trans hx)) (λy x=>h2 y (B5j _ x)) ((hg.trans N).trans (Grow.fresh rfl (OwnLe.refl _))) m5;exact⟨f,d,(j.trans hx).trans k,n,o,p.trans O⟩
  |rd=>
   obtain⟨A,u⟩:=hbx.box (by simp);cases ls with
   |nil=>exact h.elim
   |cons l ls=>
    obtain⟨vs,c,X,e,W,rfl,rfl,k2⟩:=h;obtain⟨m,m1,m2,m3⟩:=hM.mem;obtain⟨ρ',rs',j,F,H,I,M,N,O,P,a9,Y⟩:=Te (x0:=A2 b vs.toArray e::c) l st ρ vs rs hM.len m1 m2 (λS hS=>hS _ (hr _ (B5n ..))) m3;have hx:=Ext.one ρ' (.num 0)
    have m5:Mem B amb (ρ'++[.num 0]) {(Ay false l st).2 with own:=.box hh (Ay false l st).2.nxt (Ay false l st).1::(Ay false l st).2.own,nxt:=(Ay false l st).2.nxt+1} c rs' w:=
     ⟨by simp[H],⟨A2 b vs.toArray e::m,⟨⟨b,e,vs,hx.get (j.get A),O.mono λ_ _=>Cell.Den.mono hx,rfl⟩,OwnOk.mono hx (λ_ h=>h) I⟩,M.mono hx λ_ h=>h,N.perm B5u⟩,λr h=>F r (hM.amb r h)⟩
    obtain⟨f,d,k,n,o,p⟩:=Aa4 (st0:=st0) k2 (λr h=>F r (hr r (B5j _ h))) (h1.mono λ_ _ C=>C.mono (j.trans hx)) (λy x=>h2 y (B5j _ x)) ((hg.trans P).trans (Grow.fresh rfl (OwnLe.refl _))) m5;exact⟨f,d,(j.trans hx).trans k,n,o,p.trans a9⟩
  |lo=>
   obtain⟨A,u⟩:=hbx.box (by simp);obtain⟨c,e,rfl,k2⟩:∃c e,own=A2 b vs0.toArray e::c/\OPack G (xs.map (·.2.2.1)) ls c i:=by cases ls<;>exact h
   obtain⟨m,m1,m2,m3⟩:=hM.mem
   have m5:Mem B amb ρ {st with own:=.box hh g cs::st.own} c rs w:=
    ⟨hM.len,⟨A2 b vs0.toArray e::m,⟨⟨b,e,vs0,A,u,rfl⟩,m1⟩,m2,m3.perm B5u⟩,hM.amb⟩
   have T:Grow st0 {st with own:=.box hh g cs::st.own}:=⟨hg.nxt,λc' Q U=>by
    rcases B5t.1 Q with rfl|Q
    ·exact⟨_,h2 _ (B5n ..) (by simp),.inl rfl⟩
    ·exact hg.own c' Q U,hg.rds⟩
   obtain⟨f,d,k,n,o,p⟩:=Aa4 (st0:=st0) k2 hr h1 (λy x=>h2 y (B5j _ x)) T m5;have:I3 ((hh,g,.lo,cs)::xs) ls st=I3 xs ls {st with own:=.box hh g cs::st.own}:=by cases ls<;>rfl
   rw[this];exact⟨f,d,k,n,o,p⟩
  |le=>
   cases ls with
   |nil=>exact h.elim
   |cons l ls=>
    obtain⟨v,t,L,c,V,rfl,rfl,k2⟩:=h
    have D:∃s:Sv,ρ[hh]?=some (.row s)/\vs0=[s.v]:=by
     rcases hbx with⟨_,q⟩|⟨q,_⟩
     ·exact q
     ·exact absurd rfl q
    obtain⟨s,q1,q2⟩:=D;rw[q2]at V;cases V;obtain⟨m,m1,m2,m3⟩:=hM.mem;have hx:=Ext.one ρ (.num 0)
    have m5:Mem B amb (ρ++[.num 0]) {st with own:=.row hh st.nxt t L []::st.own,nxt:=st.nxt+1} c rs w:=
     ⟨by simp[hM.len],⟨oV (oC (Ac (sz t) (fD t) L) s.v) []::m,⟨⟨s,[],hx.get q1,rfl,rfl⟩,OwnOk.mono hx (λ_ h=>h) m1⟩,m2.mono hx λ_ h=>h,(St.z (m3.perm B5u) Z.toV)⟩,hM.amb⟩
    obtain⟨f,d,k,n,o,p⟩:=Aa4 (st0:=st0) k2 hr (h1.mono λ_ _ C=>C.mono hx) (λy x=>h2 y (B5j _ x)) (hg.trans (Grow.fresh rfl (OwnLe.refl _))) m5;exact⟨f,d,hx.trans k,n,o,p⟩
 |[],_::_,_,_,_,_,_,_,h,_,_,_,_,_=>h.elim
 |_::_,[],_,_,_,_,_,_,h,_,_,_,_,_=>h.elim
theorem RPack.own:∀ {c:List RK} {ls:List (List Leaf)} {a:List Value} {own:List As} {b:List Rd},RPack c ls a own b->c.all (·.own)=true->b=[]
 |[],[],_,_,_,h,_=>h.2.2
 |k::c,l::ls,a,own,b,h,hk=>by obtain⟨vs,d,f,g,j,_,_,i,_,e⟩:=h;simp only[B7s,B5l]at hk;rw[hk.1]at e;rw[e.2];exact i.own hk.2
 |[],_::_,_,_,_,h,_=>h.elim
 |_::_,[],_,_,_,h,_=>h.elim
theorem Kw:∀ {ps:List PK},Ahy ps=true->∀m∈He ps,m≠ .rd
 |[],_,m,a=>by cases a
 |.val _ _::r,h,m,a=>Kw (ps:=r) h m a
 |.eat _::r,h,m,a=>Kw (ps:=r) h m a
 |.lit _::r,h,m,a=>Kw (ps:=r) h m a
 |.fn _ _::r,h,m,a=>Kw (ps:=r) h m a
 |.box .lo _::r,h,m,a=>by
  rcases B5t.1 a with rfl|a
  ·simp
  ·exact Kw (ps:=r) h m a
 |.box .ow _::r,h,m,a=>by
  rcases B5t.1 a with rfl|a
  ·simp
  ·exact Kw (ps:=r) h m a
 |.cap .lo _::r,h,m,a=>by
  rcases B5t.1 a with rfl|a
  ·simp
  ·exact Kw (ps:=r) h m a
 |.cap .ow _::r,h,m,a=>by
  rcases B5t.1 a with rfl|a
  ·simp
  ·exact Kw (ps:=r) h m a
 |.box .le _::r,h,m,a=>by
  rcases B5t.1 a with rfl|a
  ·simp
  ·exact Kw (ps:=r) h m a
 |.cap .le _::r,h,m,a=>by
  rcases B5t.1 a with rfl|a
  ·simp
  ·exact Kw (ps:=r) h m a
 |.len _::r,h,m,a=>by
  rcases B5t.1 a with rfl|a
  ·simp
  ·exact Kw (ps:=r) h m a
 |.box .rd _::_,h,_,_=>by cases h
 |.cap .rd _::_,h,_,_=>by cases h
theorem OPack.noM:∀ {d:List BM} {f:List Bx} {ls:List (List Leaf)} {own:List As} {a:List Rd},OPack f d ls own a->(∀m∈d,m≠ .rd)->a=[]
 |[],[],[],_,_,h,_=>h.2
 |.ow::d,(b,e,vs)::f,l::ls,own,a,h,hm=>by obtain⟨_,_,_,_,_,h⟩:=h;exact h.noM λm h=>hm m (B5j _ h)
 |.lo::d,(b,e,vs)::f,ls,own,a,h,hm=>by
  obtain⟨c,e,_,h⟩:∃c e,own=A2 b vs.toArray e::c/\OPack f d ls c a:=by cases ls<;>exact h
  exact h.noM λm h=>hm m (B5j _ h)
 |.le::d,(b,e,vs)::f,l::ls,own,a,h,hm=>by obtain⟨_,_,_,_,_,_,_,h⟩:=h;exact h.noM λm h=>hm m (B5j _ h)
 |.le::_,[],_,_,_,h,_=>by simp[OPack]at h
 |.le::_,_::_,[],_,_,h,_=>by simp[OPack]at h
 |.rd::d,_,_,_,_,_,hm=>absurd rfl (hm _ (B5n ..))
 |[],[],_::_,_,_,h,_=>h.elim
 |[],_::_,_,_,_,h,_=>by simp[OPack]at h
 |.ow::_,[],_,_,_,h,_=>by simp[OPack]at h
 |.ow::_,_::_,[],_,_,h,_=>by simp[OPack]at h
 |.lo::_,[],_,_,_,h,_=>by simp[OPack]at h
theorem OPack.no{ps bx ls own rds} (h:OPack bx (He ps) ls own rds) (a:Ahy ps=true):rds=[]:=h.noM (Kw a)
theorem PIn.quiet{S ps a vals caps own bx} (h:PIn S w ps a vals caps own bx) (b:Dl ps=true):own=[]:=by
 induction h with
 |nil=>rfl
 |ro _ _ c=>exact c (by simpa [Dl]using b)
 |fn _ _ c=>exact c (by simp only[Dl,B7s,B5l]at b;exact b.2)
 |_=>simp[Dl]at b
theorem A8o{l vs} (h:All2 (V1.Den ρ) l vs):(Sl l).Den ρ (H2 vs):=by
 match l,vs,h with
 |[v],[u],h=>exact h.1
 |[],[],_=>exact⟨[],trivial,rfl⟩
 |a::b::l,u::v::vs,h=>exact⟨u::v::vs,h,rfl⟩
 |[],_::_,h=>exact h.elim
 |[_],_::_::_,h=>exact h.2.elim
 |_::_::_,[_],h=>exact h.2.elim
 |_::_,[],h=>exact h.elim
theorem Bqx{c xs bx rr vs own rds st0} (h:Left c bx rr vs own rds) (n:∀r∈rds,r∈rs) (L:xs.map (·.2.2.1)=He c.ps) (f:All2 (BxIs ρ) xs bx) (F:∀y∈xs,y.2.2.1≠ .le->Chunk.box y.1 y.2.1 y.2.2.2∈st0.own) (I:Grow st0 st) (H:EnvOk ρ st.env env) (G:Mem B amb ρ st own rs w)
  (g:(let q:=Fo c.rs (Iu _ rr) st;K (Sl q.1) (I3 xs q.2.1 q.2.2))=some r):
  ∃sv a ρ',K sv a=some r/\Ext ρ ρ'/\Sat B amb ρ' a env w/\sv.Den ρ' (H2 vs)/\Grow st0 a/\a.env=st.env:=by
 obtain⟨N,lsO,o,p,s,t,D,M,k2,rfl,rfl⟩:=h;rw[D]at g;obtain⟨u,O,rs1,b,v,x,z,A,k⟩:=Aph (lsO:=lsO) M (λr h=>n r (B6f _ h)) G;simp only[u]at g;rw[<-L]at k2;obtain⟨j,i,d,e,C,l⟩:=Aa4 (st0:=st0) k2 (λr h=>v r (n r (B54 _ h))) (f.mono λ_ _ f=>f.mono b) F (I.trans A) x;obtain⟨m,m1,m2,m3⟩:=e.mem;exact⟨_,_,j,g,b.trans d,⟨e.len,by rw[l,k];exact H.mono (b.trans d),m,i,m1,m2,e.amb,by simpa using m3⟩,(A8o z).mono d,C,l.trans k⟩
theorem Bg3{c} (W:Sat B amb ρ st env w) (I:Holds amb c){vs vals} (hv:All2 (V1.Den ρ) vs vals) (h:Tj c vs st K=some (some r)):
  Ret Tryz.prog c.f vals w λu w'=>(Dl c.ps=true->Rel w w')/\After B amb ρ st env K r u w':=by
 unfold Tj at h;obtain⟨p,p1,h⟩:=Af h;obtain⟨a,x,h⟩:=Af h;simp only[B65.injEq]at h;obtain⟨n,r1,h⟩:=Af h;obtain⟨m,rs,h1,C,P,hM⟩:=W.mem;obtain⟨l1,l2,A,m',l,Y,k2,k3,k4,L⟩:=B1v (caps:=[]) p1 hv trivial h1;have k:=hM.z (k2 w);have hg:Grow st {st with own:=p.2}:=⟨B6i _,λc' I _=>⟨c',l1 c' I,.inl rfl⟩,[],rfl⟩;have Bp:∀(rs1:List Rd) (d:List As) (j:List Rd) (vs:List Value) (w':World),Left c l n vs d j->St B (d++m') rs1 w'->(∀r∈j,r∈rs1)->(∀r∈rs,r∈rs1)->After B amb ρ st env K r (H2 vs) w':=λrs1 d j vs w' hL Q U s=>by obtain⟨sv,a2,ρ',g,i,q3,q4,q5,q6⟩:=Bqx (st:= {st with own:=p.2}) (B:=B) (amb:=amb) (env:=env) (w:=w') (rs:=rs1) (K:=K) (r:=r) hL U k4 k3 l2 hg W.env ⟨W.len,⟨m',OwnOk.mono (Ext.refl ρ) s Y,C.mono (Ext.refl ρ) s,Q.perm B56⟩,λr D=>s r (P r D)⟩ h;exact⟨sv,a2,ρ',g,i,q3,q4,q5,q6⟩
 cases e:c.shut with
 |true=>
  rw[e]at x
  have Dy:∀X S:Bs,Sep A X w->SX X S w->(∀r∈rs,r.ok S w)->(∀a∈m',∃F,(∀b,F b->S b)/\a.ok F w)->Ret Tryz.prog c.f vals w (λu w'=>∃y: {q:List Value×List As//Left c l n q.1 q.2 []},u=H2 y.1.1/\Gives X S w y.1.2 [] w'):=λX S G H v x4=>by
   refine(I w X S a vals A l n (L {st with own:=p.2} S w a (λO cs ls us g i=>U7 (st:= {st with own:=p.2}) (m:=m') ⟨v,x4⟩ Y C g i) x) G H (λr D=>v r (P r D)) r1).mono λu w' ⟨t,d,j,M,e2,N⟩=>?_;have V:j=[]:=by simp only[Con.shut,B5l]at e;obtain⟨_,_,_,_,_,_,_,q,q',_,rfl⟩:=e2;rw[q.own e.1,q'.no e.2];rfl
   subst V;exact⟨⟨(t,d),e2⟩,M,N⟩
  cases T:Dl c.ps with
  |true=>
   have o:A=[]:=by have:=L {st with own:=p.2} (al w) w a (λO cs ls us g i=>U7 (st:= {st with own:=p.2}) (m:=m') (k.z (m':=m') (λF hF=>by obtain⟨F1,F2,_,g2,_,_,g5⟩:=hF.split;exact g2.up g5 hF.lt)).sees Y C g i) x;exact this.quiet T
   subst o;refine(St.callF (l':=λy: {q:List Value×List As//Left c l n q.1 q.2 []}=>y.1.2) (val:=λy=>H2 y.1.1) k λX S G H v x4=>Dy X S G H v x4).mono λu w' ⟨q0,y,g,i⟩=>⟨λ_=>q0,?_⟩;subst g;exact Bp rs y.1.2 [] y.1.1 w' y.2 i (λ_ h=>by cases h) λ_ h=>h
  |false=>refine(St.callO (l':=λy: {q:List Value×List As//Left c l n q.1 q.2 []}=>y.1.2) (val:=λy=>H2 y.1.1) k Dy).mono λu w' ⟨y,g,i⟩=>⟨(λh=>by cases h),?_⟩;subst g;exact Bp rs y.1.2 [] y.1.1 w' y.2 i (λ_ h=>by cases h) λ_ h=>h
 |false=>
  rw[e]at x;have Dy:∀X S:Bs,Sep A X w->SX X S w->(∀r∈rs,r.ok S w)->Ret Tryz.prog c.f vals w (λu w'=>∃y: {q:List Value×List As×List Rd//Left c l n q.1 q.2.1 q.2.2},u=H2 y.1.1/\Gives X S w y.1.2.1 y.1.2.2 w'):=λX S G H v=>by refine(I w X S a vals A l n (L {st with own:=[]} S w a (λO cs ls us g i=>U7 (st:= {st with own:=[]}) (m:=[]) (rs:=rs) (ρ:=ρ) ⟨v,λ_ h=>by cases h⟩ (show OwnOk ρ rs [] []from trivial) C g i) x) G H (λr D=>v r (P r D)) r1).mono λu w' ⟨t,d,j,M,e2,N⟩=>?_;exact⟨⟨(t,d,j),e2⟩,M,N⟩
  cases T:Dl c.ps with
  |true=>
   have o:A=[]:=by have:=L {st with own:=[]} (al w) w a (λO cs ls us g i=>U7 (st:= {st with own:=[]}) (m:=[]) (rs:=rs) (ρ:=ρ) ⟨hM.sees.1,λ_ h=>by cases h⟩ (show OwnOk ρ rs [] []from trivial) C g i) x;exact this.quiet T
   subst o;refine(St.callFR (l':=λy: {q:List Value×List As×List Rd//Left c l n q.1 q.2.1 q.2.2}=>y.1.2.1) (rs1:=λy=>y.1.2.2) (val:=λy=>H2 y.1.1) k Dy).mono λu w' ⟨q0,y,g,i⟩=>⟨λ_=>q0,?_⟩;subst g;exact Bp _ y.1.2.1 y.1.2.2 y.1.1 w' y.2 i (λr h=>B6f _ h) λr h=>B54 _ h
  |false=>refine(St.callR (l':=λy: {q:List Value×List As×List Rd//Left c l n q.1 q.2.1 q.2.2}=>y.1.2.1) (rs1:=λy=>y.1.2.2) (val:=λy=>H2 y.1.1) k Dy).mono λu w' ⟨y,g,i⟩=>⟨(λh=>by cases h),?_⟩;subst g;exact Bp _ y.1.2.1 y.1.2.2 y.1.1 w' y.2 i (λr h=>B6f _ h) λr h=>B54 _ h
theorem P4:∀ {ps:List PK} {vs:List V1} {st:SSt},Sat B amb ρ st env w->Sat B amb ρ (P2 ps vs st) env w/\Grow st (P2 ps vs st)/\(P2 ps vs st).env=st.env
 |[],_,st,hs=>⟨hs,Grow.refl st,rfl⟩
 |.cap _ _::ps,vs,st,hs=>P4 (ps:=ps) (vs:=vs) hs
 |.val o _::ps,vs,st,hs=>by
  unfold P2;split
  ·cases o with
   |true=>exact P4 hs
   |false=>rename_i v vs;obtain⟨a,b,c⟩:=Yn (l:=Wu v) hs;obtain⟨d,e,f⟩:=P4 (ps:=ps) (vs:=vs) a;exact⟨d,b.trans e,f.trans c⟩
  ·exact⟨hs,Grow.refl st,rfl⟩
 |.box _ _::ps,vs,st,hs=>P4 (ps:=ps) (vs:=vs.tail) hs
 |.eat _::ps,vs,st,hs=>P4 (ps:=ps) (vs:=vs.tail) hs
 |.lit _::ps,vs,st,hs=>P4 (ps:=ps) (vs:=vs.tail) hs
 |.fn _ _::ps,vs,st,hs=>P4 (ps:=ps) (vs:=vs.tail) hs
 |.len _::ps,vs,st,hs=>P4 (ps:=ps) (vs:=vs.tail) hs
theorem Pu:∀ {ps:List PK} {vs:List V1} {st:SSt} {ρ:List HV},Sat B amb ρ st env w->∃ρ',Ext ρ ρ'/\Sat B amb ρ' (Ry ps vs st) env w/\Grow st (Ry ps vs st)/\(Ry ps vs st).env=st.env
 |[],vs,st,ρ,hs=>⟨ρ,Ext.refl ρ,hs,Grow.refl st,rfl⟩
 |.len _::ps,[],st,ρ,hs=>Pu (ps:=ps) (vs:=[]) hs
 |.len _::ps,v::vs,st,ρ,hs=>by obtain⟨j,b,c,d,e⟩:=Abt (l:=Wu v) hs;obtain⟨a,f,g,h,i⟩:=Pu (ps:=ps) (vs:=vs) c;exact⟨a,b.trans f,g,d.trans h,i.trans e⟩
 |.cap _ _::ps,vs,st,ρ,hs=>Pu (ps:=ps) (vs:=vs) hs
 |.val _ _::ps,vs,st,ρ,hs=>Pu (ps:=ps) (vs:=vs.tail) hs
 |.box _ _::ps,vs,st,ρ,hs=>Pu (ps:=ps) (vs:=vs.tail) hs
 |.eat _::ps,vs,st,ρ,hs=>Pu (ps:=ps) (vs:=vs.tail) hs
 |.lit _::ps,vs,st,ρ,hs=>Pu (ps:=ps) (vs:=vs.tail) hs
 |.fn _ _::ps,vs,st,ρ,hs=>Pu (ps:=ps) (vs:=vs.tail) hs
theorem Aze{h}:∀ {own:List Chunk} {p:(Nat×HolD)×List Chunk} {m:List As},Tl h own=some p->OwnOk ρ rs own m->OwnLe own p.2/\∃q b m',ρ[p.1.1]?=some (.row q)/\ρ[h]?=some (.row b)/\OwnOk ρ rs p.2 m'/\∀w,Z w m (H0 (sz p.1.2.t) (fD p.1.2.t) p.1.2.L q.v (p.1.2.i*sz p.1.2.t+p.1.2.j) b.v::m')
 |[],p,m,hc,_=>by cases hc
 |c::r,p,[],_,h1=>h1.elim
 |c::r,p,a::m,hc,⟨h1,h2⟩=>by
  have d:(∃z,Tl h r=some z/\(z.1,c::z.2)=p)->OwnLe (c::r) p.2/\∃(q b:Sv) (m':List As),ρ[p.1.1]?=some (.row q)/\ρ[h]?=some (.row b)/\OwnOk ρ rs p.2 m'/\∀w,Z w (a::m) (H0 (sz p.1.2.t) (fD p.1.2.t) p.1.2.L q.v (p.1.2.i*sz p.1.2.t+p.1.2.j) b.v::m'):=λ⟨z,n,e⟩=>by
   subst e;obtain⟨y,q,b,m',s,l,k2,u⟩:=Aze n h2
   exact⟨λx hx=>by
    rcases B5t.1 hx with rfl|hx
    ·exact B5n ..
    ·exact B5j _ (y x hx),q,b,a::m',s,l,⟨h1,k2⟩,λw=>(u w).cons.trans (Z.perm (List.Perm.swap ..))⟩
  cases c with
  |hol k g t L i j o=>
   simp only[Tl]at hc;cases f:B5w o h with
   |true=>rw[f]at hc;cases hc;cases B5k f;obtain⟨q,b,l,k2,rfl⟩:=h1;exact⟨λx hx=>B5j _ hx,q,b,m,l,k2,h2,λw=>zI⟩
   |false=>rw[f]at hc;simp only[cond_false,B5s]at hc;exact d hc
  |_=>simp only[Tl,B5s]at hc;exact d hc
theorem Bhd (f:Sat B amb ρ st env w) h:∃ρ',Ext ρ ρ'/\Sat B amb ρ' (Z8 h st) env w/\Grow st (Z8 h st)/\(Z8 h st).env=st.env:=by
 have b:∃ρ',Ext ρ ρ'/\Sat B amb ρ' st env w/\Grow st st/\st.env=st.env:=⟨ρ,Ext.refl ρ,f,Grow.refl st,rfl⟩;unfold Z8;split
 ·rename_i d own D;split
  ·rename_i c p C;split
   ·rename_i a A;cases o:B63 d.2.j (sz d.2.t)with
    |false=>exact b
    |true=>
     obtain⟨m,rs,x,g2,g3,y⟩:=f.mem;obtain⟨P,q,S,m',H,I,k2,M⟩:=Aze D x;obtain⟨Q,s',m2,s,N,O⟩:=Md C k2;rw[I]at s;cases s;have e:=((y.z (M w)).z (O w).cons).perm (List.Perm.swap ..);have G:d.2.j<sz d.2.t:=by simpa using o
     have hi:d.2.i<d.2.L.length:=by
      obtain⟨F,xs,u,e2,_⟩:=e.drop.at' (B5n ..);have n:=(B55.1 e2).1;rw[<-u,Ic (C3 d.2.t)]at n;simp only at n;rcases B8u d.2.i d.2.L.length with h|h
      ·exact h
      ·have:=B5v (sz d.2.t) h;omega
     have k:d.2.j<(A3 d.2.t (el d.2.L d.2.i)).length:=by rw[G5];exact G
     have g:St B (oC (Ac (sz d.2.t) (fD d.2.t) (d.2.L.set d.2.i a)) q.v::m2) rs w:=St.close a e (C3 d.2.t) hi o (by
      have l:splice (A3 d.2.t (el d.2.L d.2.i)) d.2.j [.sl c.t c.L]=(A3 d.2.t (el d.2.L d.2.i)).set d.2.j (.sl c.t c.L):=(Ai7 k).symm;rw[Dm,E0 A,Dm,l,Cbu];rfl)
     have hx:=Ext.one ρ (.num 0);exact⟨_,hx,⟨by simp[f.len],f.env.mono hx,oV (oC (Ac (sz d.2.t) (fD d.2.t) (d.2.L.set d.2.i a)) q.v) []::m2,rs,⟨⟨q,[],hx.get H,rfl,rfl⟩,OwnOk.mono hx (λ_ h=>h) N⟩,g2.mono hx λ_ h=>h,g3,g.z Z.toV⟩,Grow.fresh rfl (P.trans Q),rfl⟩
   ·exact b
  ·exact b
 ·exact b
theorem Ank:∀ {l:List Cell} {st:SSt} {ρ:List HV},Sat B amb ρ st env w->∃ρ',Ext ρ ρ'/\Sat B amb ρ' (Tm l st) env w/\Grow st (Tm l st)/\(Tm l st).env=st.env
 |[],st,ρ,hs=>⟨ρ,Ext.refl ρ,hs,Grow.refl st,rfl⟩
 |c::l,st,ρ,hs=>by
  unfold Tm;split
  ·rename_i h;obtain⟨n,b,d,e,f⟩:=Bhd hs h;obtain⟨a,g,i,j,k⟩:=Ank (l:=l) d;exact⟨a,b.trans g,i,e.trans j,k.trans f⟩
  ·exact Ank hs
theorem O9:∀ {ps:List PK} {vs:List V1} {st:SSt} {ρ:List HV},Sat B amb ρ st env w->∃ρ',Ext ρ ρ'/\Sat B amb ρ' (Qx ps vs st) env w/\Grow st (Qx ps vs st)/\(Qx ps vs st).env=st.env
 |[],vs,st,ρ,hs=>⟨ρ,Ext.refl ρ,hs,Grow.refl st,rfl⟩
 |.len _::ps,[],st,ρ,hs=>O9 (ps:=ps) (vs:=[]) hs
 |.len _::ps,v::vs,st,ρ,hs=>by obtain⟨j,b,c,d,e⟩:=Ank (l:=Wu v) hs;obtain⟨a,f,g,h,i⟩:=O9 (ps:=ps) (vs:=vs) c;exact⟨a,b.trans f,g,d.trans h,i.trans e⟩
 |.cap _ _::ps,vs,st,ρ,hs=>O9 (ps:=ps) (vs:=vs) hs
 |.val _ _::ps,vs,st,ρ,hs=>O9 (ps:=ps) (vs:=vs.tail) hs
 |.box _ _::ps,vs,st,ρ,hs=>O9 (ps:=ps) (vs:=vs.tail) hs
 |.eat _::ps,vs,st,ρ,hs=>O9 (ps:=ps) (vs:=vs.tail) hs
 |.lit _::ps,vs,st,ρ,hs=>O9 (ps:=ps) (vs:=vs.tail) hs
 |.fn _ _::ps,vs,st,ρ,hs=>O9 (ps:=ps) (vs:=vs.tail) hs
theorem Ay5{c} (j:Sat B amb ρ st env w) (x:Holds amb c){vs vals} (y:All2 (V1.Den ρ) vs vals) (h:M0 c vs st K=some (some r)):
  Ret Tryz.prog c.f vals w λu w'=>(Dl c.ps=true->Rel w w')/\After B amb ρ st env K r u w':=by
 unfold M0 at h
 have k:∃st0,(bif c.shut then st else P2 c.ps vs st)=st0/\Sat B amb ρ st0 env w/\Grow st st0/\st0.env=st.env:=by
  cases D:c.shut with
  |true=>exact⟨st,rfl,j,Grow.refl st,rfl⟩
  |false=>obtain⟨a,b,d⟩:=P4 (ps:=c.ps) (vs:=vs) j;exact⟨_,rfl,a,b,d⟩
 obtain⟨st0,t,a,b,d⟩:=k;rw[t]at h;obtain⟨C,g,l,n,o⟩:=Pu (ps:=c.ps) (vs:=vs) a;exact(Bg3 l x (y.mono λ_ _=>V1.Den.mono g) h).mono λu w' ⟨z,sv,A,ρ',g1,g2,g3,g4,g5,v⟩=>by obtain⟨e,i,p,q,s⟩:=O9 (ps:=c.ps) (vs:=vs) g3;exact⟨z,sv,_,e,g1,(g.trans g2).trans i,p,g4.mono i,((b.trans n).trans g5).trans q,s.trans (v.trans (o.trans d))⟩
theorem Afa{f} (g:Sat B amb ρ st env w){vs vals} (i:All2 (V1.Den ρ) vs vals):∀ {cs:List Con},(∀c∈cs,Holds amb c)->callF f vs st K cs=some r->
  Ret Tryz.prog f vals w λu w'=>((∀c∈cs,Dl c.ps=true)->Rel w w')/\After B amb ρ st env K r u w'
 |[],_,h=>by cases h
 |c::cs,hc,h=>by
  unfold callF at h;cases e:B5w c.f f with
  |false=>rw[e]at h;exact(Afa g i (λc h=>hc c (B5j _ h)) h).mono λu w' ⟨b,d⟩=>⟨λa=>b λc h=>a c (B5j _ h),d⟩
  |true=>
   rw[e]at h;cases B5k e;simp only[cond_true]at h;split at h
   ·rename_i x hx;subst h;exact(Ay5 g (hc c (B5n ..)) i hx).mono λu w' ⟨b,d⟩=>⟨λa=>b (a c (B5n ..)),d⟩
   ·exact(Afa g i (λc h=>hc c (B5j _ h)) h).mono λu w' ⟨b,d⟩=>⟨λa=>b λc h=>a c (B5j _ h),d⟩
def InlOk (amb:List Rd) (i:Inl):Prop:=∀(R:Type) (f:FuncId) (vs:List V1) (st:SSt) (K:SV->SSt->Option R) (r:R) (B:Base) (ρ:List HV) (env:Env) (w:World) (a:List Value),
 i R f vs st K=some r->Sat B amb ρ st env w->All2 (V1.Den ρ) vs a->Ret Tryz.prog f a w λu w'=>After B amb ρ st env K r u w'
theorem Ns:InlOk amb Nr:=λ_ _ _ _ _ _ _ _ _ _ _ h=>by cases h
structure COk (amb:List Rd) (C:Ctx):Prop where
 cons:∀c∈C.cons,Holds amb c
 inl:InlOk amb C.inl
end
end
section
open Go.RowKit
section
variable {ρ ρ':List HV} {rs rs':List Rd} {B:Base} {amb:List Rd} {st:SSt} {env:Env} {w:World} {m:List As} {R:Type} {r:R} {C:Ctx}
theorem Sat.put (a:Sat B amb ρ st env w){sv v} (b:sv.Den ρ v) d:Sat B amb ρ (st.put d sv) ((d,v)::env) w:=⟨a.len,a.env.put b d,a.mem⟩
theorem Bx2 {c:Cell}{v} (h:c.shut=true) (a:c.Den ρ v):v=c.val:=by
 cases c with
 |raw u=>exact a.1
 |i k x=>exact a
 |y x=>exact a
 |b x=>exact a
 |s x=>exact a
 |nil=>exact a
 |_=>cases h
theorem At1:∀ {ps:List PK} {vs:List V1} {own:List Chunk} {p:Lent×List Chunk},Dl ps=true->Fj ps vs [] own=some p->p=(⟨[],[]⟩,own)
 |[],vs,own,p,_,h=>by
  unfold Fj at h;split at h
  ·cases h;rfl
  ·cases h
 |k::ps,vs,own,p,hq,h=>by
  simp only[Dl,B7s,B5l]at hq;cases k with
  |val o t=>
   cases o with
   |true=>simp at hq
   |false=>
    unfold Fj at h;split at h
    ·exact At1 (by simpa [Dl]using hq.2) h
    ·cases h
  |fn f n=>
   unfold Fj at h;split at h
   ·rename_i g l vs;have a:=(bt h).1;replace h:=(bt h).2;simp only[B5l]at a;have c:=B5k hq.1;have b:=B5k a.2;rw[c]at b;rw[B53 b]at h;exact At1 (by simpa [Dl]using hq.2) h
   ·cases h
  |_=>simp at hq
theorem Bg2{R' c vs K} (F:R->Option R'):Tj c vs st (λv s=>B5h (K v s) F)=(Tj c vs st K).map (λx=>B5h x F):=by
 unfold Tj;cases Fj c.ps vs [] st.own with
 |none=>rfl
 |some p=>
  simp only[B5i];cases Gl {st with own:=bif c.shut then p.2 else []} c.ps vs p.1.ls p.1.bx with
  |none=>rfl
  |some a=>simp only[B5i,B77];cases c.x a<;>rfl
theorem Bg0{R' c vs K} (F:R->Option R'):M0 c vs st (λv s=>B5h (K v s) F)=(M0 c vs st K).map (λx=>B5h x F):=Bg2 F
theorem Arl:∀ {ps:List PK},Dl ps=true->L7 ps=[]
 |[],_=>rfl
 |k::ps,h=>by
  simp only[Dl,B7s,B5l]at h;cases k with
  |val o t=>exact Arl (ps:=ps) (by simpa [Dl]using h.2)
  |fn f n=>exact Arl (ps:=ps) (by simpa [Dl]using h.2)
  |_=>simp at h
theorem Bn3{k n} (x:k.t=.b n) (f:k.bx=false) (A:n<=3){ps} (ho:L7 ps=[]) (d:PRes ps [k]) (K:SV->SSt->Option R):
  ∃e,(let q:=Fo [k] (Iu _ d) st;K (Sl q.1) (I3 [] q.2.1 q.2.2))=K (.v (.c e)) st:=by
 obtain⟨u,G,F⟩:=k;simp only at x f;subst x f
 have p:∀l:List Leaf,(l.length=1)->(∀y∈l,∀t L,y≠Leaf.sl t L)->∃e,Ay u l st=([e],st):=λl g a=>by
  match l,g with
  |[y],_=>
   cases y with
   |i z=>exact⟨_,rfl⟩
   |b z=>exact⟨_,rfl⟩
   |s z=>exact⟨_,rfl⟩
   |y z=>exact⟨_,rfl⟩
   |sl t L=>exact absurd rfl (a _ (B5n ..) t L)
 have o:∃z:Bi (.b n),Iu (List.map (·.t) [(⟨u,.b n,false⟩:RK)]++L7 ps) d=[A3 (.b n) z]:=by revert d;show∀d:Tup (List.map (·.t) [(⟨u,.b n,false⟩:RK)]++L7 ps),_;rw[ho];intro d;exact⟨d,rfl⟩
 obtain⟨z,D⟩:=o
 have g:(A3 (.b n) z).length=1/\(∀y∈A3 (.b n) z,∀t L,y≠Leaf.sl t L):=by
  match n,A,z with
  |0,_,z=>exact⟨rfl,λy a t L=>by simp[A3,E9]at a;subst a;exact Leaf.noConfusion⟩
  |1,_,z=>exact⟨rfl,λy a t L=>by simp[A3,E9]at a;subst a;exact Leaf.noConfusion⟩
  |2,_,z=>exact⟨rfl,λy a t L=>by simp[A3,E9]at a;subst a;exact Leaf.noConfusion⟩
  |3,_,z=>exact⟨rfl,λy a t L=>by simp[A3,E9]at a;subst a;exact Leaf.noConfusion⟩
 obtain⟨e,j⟩:=p _ g.1 g.2
 have h:My (.b n)=false:=by
  match n,A with
  |0,_=>rfl
  |1,_=>rfl
  |2,_=>rfl
  |3,_=>rfl
 refine⟨e,?_⟩;simp only[D,Fo,I3,j,mkV,h,cond_false,Sl]
theorem Ah6:∀ {ps:List PK} {vs:List V1} {st:SSt},Dl ps=true->Ry ps vs st=st/\Qx ps vs st=st
 |[],_,_,_=>⟨rfl,rfl⟩
 |.val o t::ps,vs,st,h=>by simp only[Dl,B7s,B5l]at h;exact Ah6 (ps:=ps) (vs:=vs.tail) (by simpa [Dl]using h.2)
 |.fn f n::ps,vs,st,h=>by simp only[Dl,B7s,B5l]at h;exact Ah6 (ps:=ps) (vs:=vs.tail) (by simpa [Dl]using h.2)
 |.box _ _::_,_,_,h=>by simp[Dl]at h
 |.eat _::_,_,_,h=>by simp[Dl]at h
 |.lit _::_,_,_,h=>by simp[Dl]at h
 |.cap _ _::_,_,_,h=>by simp[Dl]at h
 |.len _::_,_,_,h=>by simp[Dl]at h
theorem Bg1{c vs K} (b:c.pure=true) (h:M0 c vs st K=some (some r)):∃g,K (.v (.c g)) st=some r:=by
 unfold Con.pure at b;simp only[B5l]at b;obtain⟨⟨d,b⟩,i⟩:=b;unfold M0 at h;rw[i]at h;simp only[cond_true,(Ah6 d).1,(Ah6 d).2]at h;unfold Tj at h;obtain⟨p,o,h⟩:=Af h;obtain⟨a,s,h⟩:=Af h;simp only[B65.injEq]at h;obtain⟨q,u,h⟩:=Af h;have e:=At1 d o;subst e;obtain⟨f,ps,t,x⟩:=c;unfold A47 at b;simp only at b;split at b
 ·rename_i k;split at b
  ·rename_i n l;simp only[B5l]at b;obtain⟨g,j⟩:=Bn3 (st:=st) l (by simpa using b.2) (B7e b.1) (Arl d) q K;exact⟨g,j.symm.trans h⟩
  ·cases b
 ·cases b
theorem Bto{f vs K cs} (h:callF f vs st K (Uz f cs)=some r):∃c∈cs,c.f=f/\c.pure=true/\M0 c vs st K=some (some r):=by
 induction cs with
 |nil=>cases h
 |cons d cs g=>
  unfold Uz at h;cases a:B5w d.f f&&d.pure with
  |true=>
   rw[a]at h;simp only[cond_true,B5l]at h a;unfold callF at h;rw[a.1]at h;simp only[cond_true]at h;split at h
   ·rename_i x hx;subst h;exact⟨d,B5n ..,B5k a.1,a.2,hx⟩
   ·cases h
  |false=>rw[a]at h;obtain⟨c,b,e⟩:=g h;exact⟨c,B5j _ b,e⟩
theorem Age (a:EnvOk ρ st.env env):∀ {os:List Operand} {l:List V1},Xa st.env os=some l->∃vs,evs env os=some vs/\All2 (V1.Den ρ) l vs
 |[],l,h=>by cases h;exact⟨[],rfl,trivial⟩
 |o::os,l,h=>by unfold Xa at h;obtain⟨v,b,h⟩:=Af h;obtain⟨l',c,h⟩:=Af h;cases h;obtain⟨u,g1,g2⟩:=a.ev1 b;obtain⟨us,d,k2⟩:=Age a c;exact⟨u::us,by simp[evs,g1,d],g2,k2⟩
structure QR (P:Program) (o:Oper) (a:Act) (w:World) (v:Value):Prop where
 get:Yd P o a w v
theorem Bt1{P n} {d:Nat}{f b ats vs v ty pos af g a} (i:Has n a env) (k:evs env b.toList=some vs) (j:∀c,Rel w c->Ret P f vs c λu w'=>u=v/\Rel c w'):
  QR P ⟨some d,.call ⟨.value (.func f),b,ats⟩,ty,pos,af,g⟩ a w v:=by
 cases b with
 |mk b=>exact⟨λc h=>Go.Proofs.YtcdecpdpmpfbnaaGreatDoor.call_wp i k (j c h) λu w' e=>⟨e.2,by rw[e.1]⟩⟩
theorem Aav (hC:COk amb C) (q:Sat B amb ρ st env w){o K} (h:Nk C o st K=some r):
  ∃d sv v b ρ',o.dst=some d/\B63 d C.n=true/\K (b.put d sv)=some r/\Ext ρ ρ'/\Sat B amb ρ' b env w/\sv.Den ρ' v/\Grow st b/\b.env=st.env/\∀n a,Has n a env->QR Tryz.prog o a w v:=by
 unfold Nk at h;split at h
 ·rename_i d O;have l:=(bt h).1;replace h:=(bt h).2;obtain⟨S,M,ty,pos,af,g⟩:=o;simp only at O h;subst O;have Ku:∀ {M:Op},LkOk B amb ρ st env w M (λv st=>K (st.put d v)) r->∃G sv v b ρ',some d=some G/\B63 G C.n=true/\K (b.put G sv)=some r/\Ext ρ ρ'/\Sat B amb ρ' b env w/\sv.Den ρ' v/\Grow st b/\b.env=st.env/\∀n a,Has n a env->QR Tryz.prog ⟨some d,M,ty,pos,af,g⟩ a w v:=λhl=>by obtain⟨sv,v,b,ρ',U,H,e,V,W,X,Y⟩:=hl;exact⟨d,sv,v,b,ρ',rfl,l,U,H,e,V,W,X,λn a I=>⟨λk h8=>by unfold Oper.wp;rw[Y k h8 n (some d) ty pos af g a I];exact⟨Rel.refl k,rfl⟩⟩⟩
  split at h
  ·rename_i f N a8;split at h
   ·rename_i vs L;obtain⟨z,T,e2⟩:=Age q.env L;obtain⟨c,P,rfl,A,Q⟩:=Bto h;have hq:Dl c.ps=true:=by unfold Con.pure at A;simp only[B5l]at A;exact A.1.1
    have e:=Bg0 (c:=c) (vs:=vs) (st:=st) (K:=λv s=>some (v,s)) (λp:SV×SSt=>bif Atd p.1 then K (st.put d p.1)else none);simp only[B5i]at e;rw[Q]at e
    obtain⟨i,H,D⟩:∃i,M0 c vs st (λv s=>some (v,s))=some (some (SV.v (.c i),st))/\(bif Atd (.v (.c i))then K (st.put d (.v (.c i)))else none)=some r:=by
     cases hx:M0 c vs st (λv s=>some (v,s))with
     |none=>rw[hx]at e;cases e
     |some x=>
      rw[hx]at e;cases x with
      |none=>cases e
      |some p=>obtain⟨F,k2⟩:=Bg1 A hx;cases k2;exact⟨F,rfl,(B65.inj e).symm⟩
    have y:=(bt D).1;replace D:=(bt D).2;refine⟨d,.v (.c i),i.val,st,ρ,rfl,l,D,Ext.refl ρ,q,Ate y,Grow.refl st,rfl,λn a I=>?_⟩;have j:∀k,Rel w k->Ret Tryz.prog c.f z k λu w'=>u=i.val/\Rel k w':=λk hw=>by refine(Ay5 (q.rel hw) (hC.cons c P) e2 H).mono λu w' ⟨q1,sv,b,ρ',q2,q3,q4,q5,q6,q7⟩=>⟨?_,q1 hq⟩;cases q2;exact Bx2 y q5
    exact Bt1 I T j
   ·cases h
  ·rename_i t ps;have:=Ku (A48 (ps:=ps.toList) q h);simpa using this
  ·exact Ku (Aqs q h)
 ·cases h
end
end
section
open Go.RowKit
structure QT (P:Program) (n:Nat) (aops:Array Oper) (T:List Oper->Env->World->Prop) (good:Oper->Prop):Prop where
 q:∀ {o rest env w d v},good o->o.dst=some d->B63 d n=true->(∀a,Has n a env->Region.wanted o (yielded aops a.tmps)=true)->(∀a,Has n a env->QR P o a w v)->(∀w',Rel w w'->T rest ((d,v)::env) w')->T (o::rest) env w
 s:∀ {o rest env w d},good o->o.dst=some d->B63 d n=true->(∀a,Has n a env->Region.wanted o (yielded aops a.tmps)=false)->(∀w',Rel w w'->T rest ((d,undef)::env) w')->T (o::rest) env w
section
variable {P:Program} {n:Nat} {aops:Array Oper} {Q:Post}
theorem QT.wl:QT P n aops (λl env w=>WL P n aops l Q env w) (λ_=>True) where
 q:=λ{o rest env w d v} _ e b f j h a c=>by unfold wpList;rw[if_pos (f a c)];exact .inl (G6 (λk w' ⟨g,i⟩=>by rw[i,e];exact h w' g _ (c.put b v)) ((j a c).get w (Rel.refl w)))
 s:=λ{o rest env w d} _ e b f h a c=>by unfold wpList;rw[if_neg (by rw[f a c];exact Bool.false_ne_true),e];exact h w (Rel.refl w) _ (c.put b undef)
theorem QT.wo (k:Oper->Nat):QT P n aops (λl env w=>WO P n aops Q (l.map λo=>(o,k o)) env w) (λo=>B7m (k o) 1=true) where
 q:=λ{o rest env w d v} c g e i x h a b=>by
  have f:k o=0\/k o=1:=by have:=B7e c;omega
  rcases f with c|c
  ·simp only[B6r,c];exact⟨v,.inl ⟨i a b,(x a b).get⟩,by rw[g];exact h w (Rel.refl w) _ (b.put e v)⟩
  ·simp only[B6r,c];exact .inl ⟨i a b,λp j=>G6 (λy w' ⟨t,u⟩=>⟨.inr t,v,u,by rw[u,g];exact h w' (j.trans t) _ (b.put e v)⟩) ((x a b).get p j)⟩
 s:=λ{o rest env w d} c g e i h a b=>by
  have f:k o=0\/k o=1:=by have:=B7e c;omega
  rcases f with c|c
  ·simp only[B6r,c];exact⟨undef,.inr ⟨i a b,rfl⟩,by rw[g];exact h w (Rel.refl w) _ (b.put e undef)⟩
  ·simp only[B6r,c];exact .inr ⟨i a b,λp j=>by rw[g];exact h p j _ (b.put e undef)⟩
end
section
variable {ρ ρ':List HV} {rs rs':List Rd} {B:Base} {amb:List Rd} {st:SSt} {env:Env} {w:World} {m:List As} {R:Type} {r:R} {C:Ctx} {ops:List Oper} {n:Nat}
theorem I9:∀ {a b:List Nat} {t:Nat},An (a++b) t=(An a t||An b t)
 |[],_,_=>rfl
 |x::a,b,t=>by simp only[B6a,An,I9 (a:=a),Bool.or_assoc]
theorem Qf:∀ {a b:List Oper},Bj (a++b)=Bj a++Bj b
 |[],_=>rfl
 |o::a,b=>by simp only[B6a,Bj];split<;>simp[Qf (a:=a)]
theorem Anw{j s} (h:Pe ops j=some s):gd ops.toArray env j=lk env s:=by
 unfold Pe at h;split at h
 ·rename_i o ho;rw[Jv]at ho;unfold gd;simp[ho,h]
 ·cases h
theorem Aqw{kn o} (h:Xy ops kn st.env o.guard=true) (k:EnvOk ρ st.env env){a} (i:Has n a env):Region.wanted o (yielded ops.toArray a.tmps)=true:=by
 unfold Xy at h;split at h
 ·rename_i c;simp[Region.wanted,c]
 ·rename_i j b c;simp only[B5l]at h;have h:=h.2;split at h
  ·rename_i s l;split at h
   ·rename_i g d;have e:=k.evB d;have f:gd ops.toArray env j=some (.bool g):=by rw[Anw l];exact e
    exact B4n i f (by simpa using h) c
   ·cases h
  ·cases h
theorem Ach{c}:∀ {l:List Oper} {f:List Oper} {p:Oper} {x y:Operand} {rest:List Oper},Vb c l=some (f,p,x,y,rest)->l=f++p::rest/\p.op=.pick (.tmp c) x y
 |[],_,_,_,_,_,h=>by cases h
 |o::l,f,p,x,y,rest,h=>by
  unfold Vb at h;split at h
  ·rename_i t q s ho;cases k:B5w t c with
   |true=>rw[k]at h;cases h;cases B5k k;exact⟨rfl,ho⟩
   |false=>rw[k]at h;simp only[cond_false,B5s]at h;obtain⟨⟨a,b,c',d,e⟩,i,j⟩:=h;cases j;obtain⟨g,e2⟩:=Ach i;exact⟨by rw[g];rfl,e2⟩
  ·rw[B5s]at h;obtain⟨⟨a,b,c',d,e⟩,i,j⟩:=h;cases j;obtain⟨g,e2⟩:=Ach i;exact⟨by rw[g];rfl,e2⟩
def K6:List Oper->Env->Env
 |[],e=>e
 |o::r,e=>match o.dst with
  |some d=>K6 r ((d,undef)::e)
  |none=>K6 r e
theorem Ajc:∀ {a:List Oper} {b:List (Nat×Option SV)} {env:Env},EnvOk ρ b env->EnvOk ρ (Du a b) (K6 a env)
 |[],_,_,h=>h
 |o::a,b,env,h=>by
  cases c:o.dst with
  |some d=>simp only[Du,K6,c];exact Ajc (h.none _)
  |none=>simp only[Du,K6,c];exact Ajc h
theorem Ajd{T good} (x:QT Tryz.prog n ops.toArray T good){j b s} (A:Pe ops j=some s):∀ {f:List Oper} {F:List Nat} {env:Env} {u:Value} {w:World},(∀o∈f,good o)->Vd n ops j b F f=true->(∀t,An F t=true->lk env t=some undef)->lk env s=some u->Ud b u=false->∀ {tail:List Oper},(∀w',Rel w w'->T tail (K6 f env) w')->T (f++tail) env w
 |[],_,_,_,w,_,_,_,_,_,_,h=>h w (Rel.refl w)
 |o::f,F,env,u,w,hg,h,hsk,hu,hub,tail,hT'=>by
  unfold Vd at h;split at h
  ·rename_i k c d v K;simp only[B5l]at h;obtain⟨G,L,H⟩:=h;have N:Ud b undef=false:=rfl
   have O:∀a,Has n a env->Region.wanted o (yielded ops.toArray a.tmps)=false:=λa I=>by
    simp only[B6s,B5l]at G;rcases G with⟨q,M⟩|q
    ·cases B5k q;have:c=b:=by simpa using M
     subst this;exact Aua I (by rw[Anw A];exact hu) hub v
    ·split at q
     ·rename_i s' D;exact Aua I (by rw[Anw D];exact hsk _ q) rfl v
     ·cases q
   have g:∀t,lk ((d,undef)::env) t=if d=t then some undef else lk env t:=λt=>by
    simp only[lk];by_cases e:d=t
    ·subst e;simp
    ·rw[Jn e];simp[e]
   refine x.s (hg _ (B5n ..)) K L O λS z=>?_
   have l:∀w',Rel S w'->T tail (K6 f ((d,undef)::env)) w':=λw' y=>by
    have e:K6 (o::f) env=K6 f ((d,undef)::env):=by simp[K6,K]
    rw[<-e];exact hT' w' (z.trans y)
   by_cases e:d=s
   ·refine Ajd x A (u:=undef) (λo ho=>hg o (B5j _ ho)) H (λt i=>?_) (by rw[g,if_pos e]) rfl l;rw[g];by_cases p:d=t
    ·rw[if_pos p]
    ·rw[if_neg p];exact hsk t (by simp only[An,B6s]at i;rcases i with i|i;exact absurd (B5k i) p;exact i)
   ·refine Ajd x A (u:=u) (λo ho=>hg o (B5j _ ho)) H (λt i=>?_) (by rw[g,if_neg e];exact hu) hub l;rw[g];by_cases p:d=t
    ·rw[if_pos p]
    ·rw[if_neg p];exact hsk t (by simp only[An,B6s]at i;rcases i with i|i;exact absurd (B5k i) p;exact i)
  ·cases h
theorem Pn:∀ {a:List Oper} {e:List (Nat×Option SV)} {t:Nat},An (Bj a) t=false->Au (Du a e) t=Au e t
 |[],_,_,_=>rfl
 |o::a,e,t,h=>by
  unfold Bj at h;unfold Du;split at h
  ·rename_i d b;simp only[An,B6k]at h;rw[Pn h.2];simp[Au,h.1]
  ·exact Pn h
theorem Ajv:∀ {a:List Oper} {e:List (Nat×Option SV)} {t:Nat} {sv:SV},Au (Du a e) t=some sv->An (Bj a) t=false/\Au e t=some sv
 |[],_,_,_,h=>⟨rfl,h⟩
 |o::a,e,t,sv,h=>by
  unfold Du at h;unfold Bj;split at h
  ·rename_i d g;obtain⟨f,b⟩:=Ajv h;simp only[Au]at b;cases c:B5w d t with
   |true=>rw[c]at b;cases b
   |false=>rw[c]at b;exact⟨by simp[An,c,f],b⟩
  ·exact Ajv h
theorem Sat.join (b:Sat B amb ρ st env w){seg st' ρ' env' w'} (c:Sat B amb ρ' st' env' w') (hx:Ext ρ ρ') (k:Rel w w') (j:∀t sv,Au (Du seg st.env) t=some sv->∃a,Au st'.env t=some a/\∀v,a.Den ρ' v->sv.Den ρ' v):
  Sat B amb ρ {st with env:=Du seg st.env} env' w':=by
 obtain⟨m,rs,f,g,h,i⟩:=(b.rel k).mem;refine⟨b.len,λt sv d=>?_,m,rs,f,g,h,i⟩;obtain⟨a,e,e2⟩:=j t sv d;obtain⟨v,l,o⟩:=c.env t a e;obtain⟨u,_,u2⟩:=b.env t sv (Ajv d).2;exact⟨v,l,(e2 v o).back hx u2⟩
theorem A5y {p:Oper} {s d:Nat}{x y g v} (f:p.op=.pick (.tmp s) x y) (e:p.dst=some d) (c:ev env (.tmp s)=some (.bool g)) (h:ev env (bif g then x else y)=some (.bool v)){a} (l:Has n a env):QR Tryz.prog p a w (.bool v):=by
 obtain⟨i,o,ty,pos,af,j⟩:=p;simp only at f e;subst f e;refine⟨λb _=>?_⟩;unfold Oper.wp
 have k:Runs Tryz.prog n env b ⟨some d,.pick (.tmp s) x y,ty,pos,af,j⟩ (.bool v) b:=by
  cases g with
  |true=>exact Buy c h
  |false=>exact Bux c h
 rw[k a l];exact⟨Rel.refl b,rfl⟩
theorem EnvOk.lit (e:EnvOk ρ st.env env) {s:Nat}{g} (h:Go.Proofs.YtcdecpdpmpfbnaaGreatDoor.evB st.env (.tmp s)=some g):EnvOk ρ ((s,some (.v (.c (.b g))))::st.env) env:=λt sv a=>by
 simp only[Au]at a;cases d:B5w s t with
 |true=>rw[d]at a;cases a;cases B5k d;exact⟨_,e.evB h,rfl⟩
 |false=>rw[d]at a;exact e t sv a
theorem A1s{se} {s:Nat}{g} (h:evB se (.tmp s)=some g):Au se s=some (.v (.c (.b g))):=by
 unfold evB at h;split at h
 ·rename_i x hx;cases h;unfold evC at hx;split at hx
  ·rename_i y a;cases hx;exact a
  ·cases hx
 ·cases h
theorem Aub{T good} (hT:QT Tryz.prog n ops.toArray T good) (D:Sat B amb ρ st env w) {j s d:Nat}{b g v seg} {p:Oper}{x y tail run}
  (hj:Pe ops j=some s) (F:evB st.env (.tmp s)=some g) (hp:p.op=.pick (.tmp s) x y) (hd:p.dst=some d) (V:B63 d n=true) (W:Vd n ops j b [] seg=true) (H:An (Bj seg) s=false) (S:∀o∈seg,good o) (O:good p)
  (hw:∀f,EnvOk ρ (Du seg st.env) f->∀a,Has n a f->Region.wanted p (yielded ops.toArray a.tmps)=true) (h:Acx b run s st (Du seg st.env) x y g=some v)
  (L:∀(g:Bool) (z:Operand) (tl:List Oper),run {st with env:=(s,some (.v (.c (.b g))))::st.env} (λst=>evB st.env z)=some v->Sat B amb ρ {st with env:=(s,some (.v (.c (.b g))))::st.env} env w->
   (∀k ρ' f w',evB k.env z=some v->Sat B amb ρ' k f w'->Ext ρ ρ'->(∀t,An (Bj seg) t=false->Au k.env t=Au ((s,some (.v (.c (.b g))))::st.env) t)->Rel w w'->T tl f w')->T (seg++tl) env w)
  (hk:∀f w',Rel w w'->Sat B amb ρ {st with env:=(d,some (.v (.c (.b v))))::Du seg st.env} f w'->T tail f w'):T (seg++p::tail) env w:=by
 have G:=A1s F;have l:∀(f:Env) (w':World),Rel w w'->Sat B amb ρ {st with env:=Du seg st.env} f w'->ev f (.tmp s)=some (.bool g)->ev f (bif g then x else y)=some (.bool v)->T (p::tail) f w':=λf w' hr i hc hv=>by refine hT.q O hd V (hw f i.env) (λa ha=>A5y hp hd hc hv ha) λw2 K=>hk _ w2 (hr.trans K) ?_;have:=(i.rel K).put (sv:=.v (.c (.b v))) (v:=.bool v) rfl d;exact this
 have A:∀z,z=(bif g then x else y)->run {st with env:=(s,some (.v (.c (.b g))))::st.env} (λst=>evB st.env z)=some v->T (seg++p::tail) env w:=λz hz h=>by
  refine L g z _ h ⟨D.len,D.env.lit F,D.mem⟩ λk ρ' f w' h1 N h3 h4 h5=>?_;have M:Au k.env s=some (.v (.c (.b g))):=by rw[h4 s H];simp[Au]
  have U:Sat B amb ρ {st with env:=Du seg st.env} f w':=D.join N h3 h5 λt sv X=>by
   obtain⟨k1,k2⟩:=Ajv X;by_cases e:s=t
   ·subst e;rw[G]at k2;cases k2;exact⟨_,M,λ_ h=>h⟩
   ·refine⟨sv,?_,λ_ h=>h⟩;rw[h4 t k1];simp only[Au,Jn e];exact k2
  refine l f w' h5 U ?_ ?_
  ·obtain⟨u,Y,u2⟩:=N.env s _ M;cases u2;exact Y
  ·rw[<-hz];exact N.env.evB h1
 have skp:Ud b (.bool g)=false->evB (Du seg st.env) (bif g then x else y)=some v->T (seg++p::tail) env w:=λhb h=>by
  refine Ajd hT hj S W (λt X=>by cases X) (D.env.evB F) hb λw' I=>?_;have i:Sat B amb ρ {st with env:=Du seg st.env} (K6 seg env) w':=⟨D.len,Ajc D.env,(D.rel I).mem⟩;refine l _ w' I i ?_ (i.env.evB h);have:Au (Du seg st.env) s=some (.v (.c (.b g))):=by rw[Pn H];exact G
  obtain⟨u,Y,u2⟩:=i.env s _ this;cases u2;exact Y
 unfold Acx at h;cases g<;>cases b
 ·exact A y rfl h
 ·exact skp rfl h
 ·exact skp rfl h
 ·exact A x rfl h
def StepOk (B:Base) (amb:List Rd) (C:Ctx) (ops:List Oper) (T:List Oper->Env->World->Prop) (good:Oper->Prop) (E:(R:Type)->Oper->SSt->(SSt->Option R)->Option R):Prop:=
 ∀(R:Type) (o:Oper) (st:SSt) (K:SSt->Option R) (r:R) (ρ:List HV) (env:Env) (w:World) (rest:List Oper),good o->E R o st K=some r->Sat B amb ρ st env w->(∀a,Has C.n a env->Region.wanted o (yielded ops.toArray a.tmps)=true)->
  (∀b ρ' c w',K b=some r->Sat B amb ρ' b c w'->Ext ρ ρ'->Grow st b->(∀t,An (Bj [o]) t=false->Au b.env t=Au st.env t)->Rel w w'->T rest c w')->T (o::rest) env w
theorem A79 (x:COk amb C){T good} (z:QT Tryz.prog C.n ops.toArray T good):StepOk B amb C ops T good (λ_ o st K=>Nk C o st K):=λR o st K r ρ env w rest D h F G y=>by obtain⟨d,sv,v,b,ρ',e,e2,i,j,k,l,p,s,u⟩:=Aav x F h;refine z.q D e e2 G (λa A=>u C.n a A) λw' f=>?_;refine y (b.put d sv) ρ' _ w' i ((k.rel f).put l d) j (Grow.trans p ⟨B6i _,λc h _=>⟨c,h,.inl rfl⟩,[],rfl⟩) (λt g=>?_) f;simp only[Bj,e,An,B6k]at g;simp only[SSt.put,Au,g.1,cond_false,s]
theorem Aca{E T good} (O:QT Tryz.prog C.n ops.toArray T good) (N:StepOk B amb C ops T good E):∀f G l st R K r ρ env w tail,(∀o∈l,good o)->U8 E C ops f G l st R K=some r->Sat B amb ρ st env w->
  (∀e ρ' c w',K e=some r->Sat B amb ρ' e c w'->Ext ρ ρ'->Grow st e->(∀t,An (Bj l) t=false->Au e.env t=Au st.env t)->Rel w w'->T tail c w')->T (l++tail) env w
 |0,_,_,_,_,_,_,_,_,_,_,_,h,_,_=>by cases h
 |f+1,G,[],st,R,K,r,ρ,env,w,tail,_,h,hs,hK=>hK st ρ env w h hs (Ext.refl ρ) (Grow.refl st) (λ_ _=>rfl) (Rel.refl w)
 |f+1,G,o::rest,st,R,K,r,ρ,env,w,tail,hg,h,hs,hK=>by
  unfold U8 at h;cases Y:Xy ops G st.env o.guard with
  |true=>rw[Y]at h;simp only[cond_true]at h;refine N R o st _ r ρ env w (rest++tail) (hg o (B5n ..)) h hs (λa S=>Aqw Y hs.env S) λe ρ' c w' e3 e5 e4 e7 e8 hr=>?_;refine Aca O N f G rest e R K r ρ' c w' tail (λo ho=>hg o (B5j _ ho)) e3 e5 λH I k w2 k1 k2 k3 M k5 k6=>hK H I k w2 k1 k2 (e4.trans k3) (e7.trans M) (λt u=>?_) (hr.trans k6);rw[show Bj (o::rest)=Bj [o]++Bj rest from Qf (a:=[o]) (b:=rest),I9,B6k]at u;rw[k5 t u.2,e8 t u.1]
  |false=>
   rw[Y]at h;simp only[cond_false]at h;split at h
   ·cases h
   ·rename_i j b b6;split at h
    ·cases h
    ·rename_i s hj;split at h
     ·rename_i g A p x y i U L;obtain⟨W,hp⟩:=Ach L;split at h
      ·cases h
      ·rename_i d hd;have hc:=(bt h).1;replace h:=(bt h).2;simp only[B5l]at hc;obtain⟨⟨⟨a2,D⟩,X⟩,a0⟩:=hc;have D:An (Bj A) s=false:=by simpa using D
       obtain⟨v,hv,h⟩:=Af h;rw[W];have q:∀o∈A++p::i,good o:=by rw[<-W];exact hg
       rw[B5r];refine Aub (tail:=i++tail) O hs hj U hp hd X a2 D (λo ho=>q o (B6f _ ho)) (q p (B54 _ (B5n ..))) (λc he a S=>Aqw (st:= {st with env:=Du A st.env}) a0 he S) hv (λg' z tl hz F V=>?_) λc w' hr F=>?_
       ·exact Aca O N f ((j,b)::G) A _ Bool _ v ρ env w tl (λo ho=>q o (B6f _ ho)) hz F λe ρ' c w' q1 q2 q3 q4 q5 q6=>V e ρ' c w' q1 q2 q3 q5 q6
       ·refine Aca O N f G i _ R K r ρ c w' tail (λo ho=>q o (B54 _ (B5j _ ho))) h F λH I k w2 k1 k2 k3 M k5 k6=>hK H I k w2 k1 k2 k3 ⟨M.nxt,M.own,M.rds⟩ (λt u=>?_) (hr.trans k6);rw[W,Qf,I9]at u;simp only[Bj,hd,An,B6k]at u;rw[k5 t u.2.2];simp only[Au,u.2.1,cond_false];exact Pn u.1
     ·cases h
end
end
end
end Go.Proofs.YtcdecpdpmpfbnaaGreatDoor
