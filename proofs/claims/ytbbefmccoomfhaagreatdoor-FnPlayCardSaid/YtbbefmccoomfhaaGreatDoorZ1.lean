/- Part 1 of the proof: lemmas. No condition. -/
import Derived.WalkKit
import Derived.Orders
import Derived.Still
import Derived.Deep.AppendSrc
import Derived.Great.BuildSlice
import Derived.Laws.IdiomCopy
import Derived.Laws.Strings
import Derived.Test.YtbbefmccoomfhaaGreatDoorSh
import Derived.Test.YtbbefmccoomfhaaGreatDoorProg
import Derived.Laws.StructEq
open Option renaming some->Aa,none->Ab,bind->Ac,bind_some->Ad,some->D1,map_some->Pc,bind_eq_some_iff->Tu,isSome_none->Tv,map_none->Tw,getD_some->Atn
open List renaming mem_cons_of_mem->Bf,mem_cons_self->Bm,mem_cons->Bq,length_append->Bt,length_cons->B5,append_assoc->Ci,perm_middle->Ct,length_nil->C0,length_take->Dh,length_drop->D0,mem_append->Ei,replicate->Ey,map_cons->Fa,all_eq_true->Ff,cons_append->Fi,length_set->Ft,foldl_cons->Fx,flatMap_cons->F4,perm_append_comm->Gg,length_map->Gz,length_singleton->G0,append_nil->Hu,flatMap_append->H2,getElem?_eq_some_iff->H3,nil_append->Iu,eq_nil_of_length_eq_zero->I4,take_append_drop->Kk,all_cons->K5,getElem?_drop->K6,drop_drop->Mq,getD_eq_getElem?_getD->Ni,getElem?_append_left->Nj,getElem?_take->Nk,getElem?_eq_getElem->O9,toArray->Pa,size_toArray->Qk,take_of_length_le->Rv,getElem?_append_right->Tr,range->Ts,map_map->V2,set_cons_zero->V5,drop_take->Yd,mem_flatMap->Ye,drop_succ_cons->Abg,map_append->Abj,perm_append_comm_assoc->Abm,set_append_right->Abn,set_cons_succ->Ae5,take_add_one->Ae7,take_take->Ae8,replicate_succ->Akr,take_append->Aks,drop_append_of_le_length->As7,drop_eq_nil_of_le->As8,flatten_cons->As9,getElem?_toArray->Ata,map_toArray->Ate,mem_range->Atf,set_eq_of_length_le->Atg,take_append_of_le_length->Atj,drop_sublist->A52,eraseIdx_eq_take_drop_succ->A53,flatten_nil->A56,getElem?_set_self->A57,mapM_cons->A6a,set_eq_take_append_cons_drop->A6h,take_set_of_le->A6m,take_succ_cons->A6n,take_zero->A6o,zipIdx_cons->A6p,replicate_succ'->Bq1,drop_set_of_lt->Bq3,getElem?_cons_succ->Bq6
open Int renaming emod_lt_of_pos->As1,emod_nonneg->As2
open Nat renaming beq->Ay,eq_of_beq_eq_true->Br,blt->C1,ble->Dm,le_refl->Ef,add_assoc->Er,mul_le_mul_right->E4,add_mul->Gk,sub_mul->I5,lt_of_lt_of_le->K8,zero_mul->K9,zero_add->L3,min_eq_left->Pb,le_of_ble_eq_true->Ql,mul_le_mul->Rw,lt_or_ge->Tt,le_trans->V6,add_comm->Yf,one_mul->Yg,add_zero->Ae9,lt_irrefl->Aku,mul_eq_zero->Akv,sub_zero->Aky,add_sub_cancel_left->Atk,le_mul_of_pos_right->Brc
open Bool renaming not_true->A6,and_eq_true->A9,not_false->Fs,or_eq_true->Ha,false_eq_true->I3,false_or->Rr,and_false->Akj,false_and->Akl
open ByteArray renaming empty->Cb
open UInt8 renaming ofNat->Tx,toNat_ofNat'->Atp
open Array renaming length_toList->Ew,replicate->Kh,getElem?_toList->Qi,getElem?_eq_none->Tp,range->Vw,size_append->Vx,toList_map->Aki,ext'->Ast,getD_eq_getD_getElem?->Asu,toArray_toList->Asv,ext_getElem?->A5q,getElem?_eq_some_iff->A5r,setIfInBounds_comm->A5s,foldl_toList->Bqt,getElem?_append_left->Bqu,getElem?_modify->Bqv,getElem?_setIfInBounds_ne->Bqw,toList_setIfInBounds->Bqx,toList_zipIdx->Bqy
namespace Go.Proofs.YtbbefmccoomfhaaGreatDoor
set_option linter.unusedVariables false
set_option linter.unusedSimpArgs false
open Tryz
noncomputable section
abbrev Cea:=ByteArray
section
open Go.RowKit
abbrev Env:=List (Nat×Value)
def lk:Env->Nat->Option Value
 |[],_=>Ab
 |(k,v)::r,t=>bif Ay k t then Aa v else lk r t
def ev (env:Env):Operand->Option Value
 |.tmp t=>lk env t
 |.const v=>Aa v
 |.global g=>Aa (.pointer (Aa ⟨g,0,Ab⟩))
 |.func f=>Aa (.func (.func f) #[] #[])
structure Has (n:Nat) (a:Act) (env:Env):Prop where
 df:a.defers=[]
 sz:a.tmps.size=n
 at':∀t v,lk env t=Aa v->a.tmps[t]?=Aa v
theorem Has.ev {n:Nat} {a:Act} {env:Env} (h:Has n a env) {x:Operand} {v:Value} (hx:ev env x=Aa v):a.eval x=v:=by
 cases x with
 |tmp t=>have b:=h.at' t v hx;simp only[Act.eval,Asu,b,Atn]
 |const u=>simp only[Go.Proofs.YtbbefmccoomfhaaGreatDoor.ev,D1.injEq]at hx;simp[Act.eval,hx]
 |global g=>simp only[Go.Proofs.YtbbefmccoomfhaaGreatDoor.ev,D1.injEq]at hx;simp[Act.eval,hx]
 |func f=>simp only[Go.Proofs.YtbbefmccoomfhaaGreatDoor.ev,D1.injEq]at hx;simp[Act.eval,hx]
theorem Nl {a b:Nat} (h:a≠b):Ay a b=false:=by
 cases c:Ay a b with
 |false=>rfl
 |true=>exact absurd (Br c) h
theorem Has.put{n a env} (h:Has n a env){d} (f:C1 d n=true) v:Has n (a.put (Aa d) v) ((d,v)::env):=by
 have c:d<a.tmps.size:=by rw[h.sz];simpa using f
 refine⟨h.df,by simp[Act.put,h.sz],λt u b=>?_⟩;simp only[lk]at b;by_cases e:d=t
 ·subst e;simp at b;subst b;simp[Act.put,c]
 ·rw[Nl e]at b;simp only[Act.put,Bqw e];exact h.at' t u b
theorem Has.skip{n a env} (h:Has n a env) v:Has n (a.put Ab v) env:=h
theorem Has.lose{n a env} (h:Has n a env){env'} (b:∀t v,lk env' t=Aa v->lk env t=Aa v):Has n a env':=
 ⟨h.df,h.sz,λt v c=>h.at' t v (b t v c)⟩
def Cov (env:Env):Env->Prop
 |[]=>True
 |(t,v)::r=>lk env t=Aa v/\Cov env r
theorem Cov.sub{env}:∀ {a:Env},Cov env a->∀t v,lk a t=Aa v->lk env t=Aa v
 |[],_,t,v,h=>by cases h
 |(k,u)::r,h,t,v,ht=>by
  simp only[lk]at ht;by_cases e:k=t
  ·subst e;simp at ht;subst ht;exact h.1
  ·rw[Nl e]at ht;exact h.2.sub t v ht
abbrev Post:=Exit->Env->World->Prop
def Sh (n:Nat) (Q:Post):Exit->Act->World->Prop:=λe a w=>∃env,Has n a env/\Q e env w
def WL (P:Program) (n:Nat) (ops:Array Oper) (l:List Oper) (Q:Post) (env:Env) (w:World):Prop:=
 ∀a,Has n a env->wpList P ops (Sh n Q) l a w
def WC (P:Program) (n:Nat) (c:Code) (Q:Post) (env:Env) (w:World):Prop:=
 ∀a,Has n a env->c.wp P (Sh n Q) a w
def Runs (P:Program) (n:Nat) (env:Env) (w:World) (o:Oper) (v:Value) (w':World):Prop:=
 ∀a,Has n a env->(execOp a.eval o).run P w=.ok (.value v) w'
def RunsU (P:Program) (n:Nat) (env:Env) (w:World) (o:Oper) (w':World):Prop:=
 ∀a,Has n a env->(execOp a.eval o).run P w=.ok .skip w'
section
variable {P:Program} {n:Nat} {ops:Array Oper} {l rest:List Oper} {Q:Post} {env:Env} {w w':World}
theorem WL.lose (h:WL P n ops l Q env w){env0} (c:Cov env0 env):WL P n ops l Q env0 w:=λa b=>h a (b.lose c.sub)
theorem WC.lose{c} (h:WC P n c Q env w){env0} (d:Cov env0 env):WC P n c Q env0 w:=λa b=>h a (b.lose d.sub)
theorem A1u (h:Q .normal env w):WL P n ops [] Q env w:=λ_ a=>⟨env,a,h⟩
theorem wv{d op ty pos af v} (e:C1 d n=true) (f:Runs P n env w ⟨Aa d,op,ty,pos,af,Ab⟩ v w')
  (h:WL P n ops rest Q ((d,v)::env) w'):WL P n ops (⟨Aa d,op,ty,pos,af,Ab⟩::rest) Q env w:=λa b=>
 wpList_plain rfl λK c=>by unfold Oper.wp;rw[f a b];exact c _ _ (h _ (b.put e v))
theorem wvn{op ty pos af v} (d:Runs P n env w ⟨Ab,op,ty,pos,af,Ab⟩ v w')
  (h:WL P n ops rest Q env w'):WL P n ops (⟨Ab,op,ty,pos,af,Ab⟩::rest) Q env w:=λa b=>
 wpList_plain rfl λK c=>by unfold Oper.wp;rw[d a b];exact c _ _ (h _ b)
def gd (ops:Array Oper) (env:Env) (j:Nat):Option Value:=((ops[j]?).bind (·.dst)).bind (lk env)
theorem Bqp{a} (e:Has n a env){j b} (h:gd ops env j=Aa (.bool b)):yielded ops a.tmps j=Aa b:=by
 unfold gd at h;unfold yielded;cases ho:ops[j]? with
 |none=>simp[ho]at h
 |some o=>
  simp only[ho,Ad]at h⊢;cases c:o.dst with
  |none=>simp[c]at h
  |some d=>simp only[c,Ad]at h⊢;have:=e.at' d _ h;simp[this]
theorem wvg{d op ty pos af j b v} (f:gd ops env j=Aa (.bool b)) (e:C1 d n=true)
  (g:Runs P n env w ⟨Aa d,op,ty,pos,af,Aa (j,b)⟩ v w')
  (h:WL P n ops rest Q ((d,v)::env) w'):WL P n ops (⟨Aa d,op,ty,pos,af,Aa (j,b)⟩::rest) Q env w:=λa c=>by
 unfold wpList;rw[if_pos (by simp[Region.wanted,Bqp c f])];refine .inl ?_;unfold Oper.wp;rw[g a c];exact h _ (c.put e v)
theorem A1r{id} (h:WL P n l.toArray l Q env w):WC P n (.region id l.toArray false) Q env w:=λa b=>wp_region_lit (h a b)
def sq (P:Program) (n:Nat) (c:Code) (Q:Post):Post
 |.normal,env,w=>WC P n c Q env w
 |e,env,w=>Q e env w
theorem Ir{x y} (h:WC P n x (sq P n y Q) env w):WC P n (.seq x y) Q env w:=λa g=>
 wp_seq (wp_mono (h a g) λe f w' d=>by
  obtain⟨b,c,d⟩:=d;cases e with
  |normal=>exact d f c
  |_=>exact⟨b,c,d⟩)
theorem Rg (h:Q .normal env w):WC P n .skip Q env w:=λ_ a=>wp_skip ⟨env,a,h⟩
theorem Bis{id} (h:Q (.exit id) env w):WC P n (.exit id) Q env w:=λ_ a=>wp_exit ⟨env,a,h⟩
theorem P9 (h:Q .ret env w):WC P n .ret Q env w:=λ_ a=>wp_ret ⟨env,a,h⟩
theorem Mj{c x y t} (d:ev env c=Aa (.bool t)) (f:t=true->WC P n x Q env w) (e:t=false->WC P n y Q env w):WC P n (.cond c x y) Q env w:=λa b=>
 wp_cond_split (b.ev d) (λh=>f h a b) (λh=>e h a b)
theorem Cdk{c x y} (d:ev env c=Aa (.bool false)) (e:WC P n y Q env w):WC P n (.cond c x y) Q env w:=λa b=>wp_cond_false (b.ev d) (e a b)
def bk (id:Nat) (Q:Post):Post
 |.exit i,env,w=>bif Ay i id then Q .normal env w else Q (.exit i) env w
 |e,env,w=>Q e env w
theorem Cdj{id c} (h:WC P n c (bk id Q) env w):WC P n (.block id c) Q env w:=λa g=>
 wp_block (wp_mono (h a g) λe j w' d=>by
  obtain⟨b,f,d⟩:=d;cases e with
  |exit i=>
   simp only[bk]at d;by_cases e:i=id
   ·subst e;simp at d;simp only[Exit.inBlock,if_true];exact⟨b,f,d⟩
   ·rw[Nl e]at d;simp only[Exit.inBlock,if_neg e];exact⟨b,f,d⟩
  |_=>exact⟨b,f,d⟩)
end
end
section
open Go.RowKit
abbrev Bs:=Nat×Nat->Prop
def Rel (w w':World):Prop:=Below w.heap.size w w'
theorem Rel.refl w:Rel w w:=Below.refl _ _
theorem Rel.size{w w'} (h:Rel w w'):w.heap.size<=w'.heap.size:=Below.size h
theorem Rel.trans{a b c} (h:Rel a b) (k:Rel b c):Rel a c:=Below.trans h (Below.mono k h.size)
theorem Rel.block{w w'} (h:Rel w w'){b} (c:b<w.heap.size):w'.heap[b]?=w.heap[b]?:=Below.block h b c
theorem Rel.cell{w w'} (h:Rel w w'){a} (b:a.block<w.heap.size):w'.cell? a=w.cell? a:=Below.cell h b
theorem Rel.alloc w o:Rel w (w.alloc o):=(Below.refl _ _).alloc (Ef _) o
theorem Rel.drew{w w'} (h:Rel w w'):Rel w w'.drew:=Below.drew h
def Blk (X:Nat->Prop) (o d:Option Obj):Prop:=
 d=o\/∃(cur b:Array Value) (e:TypeId) (c:Nat×Nat),o=Aa (.cells cur e c)/\d=Aa (.cells b e c)/\b.size=cur.size/\∀i,¬X i->b[i]?=cur[i]?
theorem Blk.mono{X Y o o'} (h:Blk X o o') (k:∀i,X i->Y i):Blk Y o o':=
 h.imp id λ⟨c,c',e,j,b,d,f,g⟩=>⟨c,c',e,j,b,d,f,λi hi=>g i λhx=>hi (k i hx)⟩
theorem Blk.trans{X o p q} (h:Blk X o p) (k:Blk X p q):Blk X o q:=by
 rcases h with rfl|⟨c,c',e,b,g,j,n,r⟩
 ·exact k
 ·rcases k with rfl|⟨d,t,u,f,s,k2,v,x⟩
  ·exact .inr ⟨c,c',e,b,g,j,n,r⟩
  ·rw[j]at s;obtain⟨rfl,rfl,rfl⟩:c'=d/\e=u/\b=f:=by simpa using s
   exact .inr ⟨c,t,e,b,g,k2,v.trans n,λi hi=>(x i hi).trans (r i hi)⟩
theorem Blk.same{X o b} (h:Blk X o b) (j:∀i,¬X i):b=o:=by
 rcases h with h|⟨c,c',e,k,d,f,_,g⟩
 ·exact h
 ·have:c'=c:=A5q λi=>g i (j i);rw[d,f,this]
structure Kp (X:Bs) (w w':World):Prop where
 size:w.heap.size<=w'.heap.size
 block:∀b,b<w.heap.size->Blk (λi=>X (b,i)) w.heap[b]? w'.heap[b]?
theorem Kp.refl X w:Kp X w w:=⟨Ef _,λ_ _=>.inl rfl⟩
theorem Kp.mono{X Y w w'} (h:Kp X w w') (d:∀b,X b->Y b):Kp Y w w':=⟨h.size,λb c=>(h.block b c).mono λ_ hx=>d _ hx⟩
theorem Kp.trans{X a b c} (h:Kp X a b) (k:Kp X b c):Kp X a c:=⟨V6 h.size k.size,λi hi=>(h.block i hi).trans (k.block i (K8 hi h.size))⟩
abbrev Lc (F:Bs) (w w':World):Prop:=Kp (λx=>¬F x) w w'
theorem Lc.refl F w:Lc F w w:=Kp.refl _ w
theorem Lc.sub{F G w w'} (h:Lc F w w') (d:∀b,G b->F b):Lc G w w':=Kp.mono h λ_ hx c=>hx (d _ c)
theorem Lc.cells{F w w'} (h:Lc F w w'){b cur e hd} (g:w.heap[b]?=Aa (.cells cur e hd)):
  ∃d,w'.heap[b]?=Aa (.cells d e hd)/\d.size=cur.size/\∀i,F (b,i)->d[i]?=cur[i]?:=by
 have q:b<w.heap.size:=(A5r.1 g).1;rcases h.block b q with h|⟨c,c',k,f,j,n,o,p⟩
 ·exact⟨cur,h.trans g,rfl,λ_ _=>rfl⟩
 ·rw[g]at j;obtain⟨rfl,rfl,rfl⟩:cur=c/\e=k/\hd=f:=by simpa using j
  exact⟨c',n,o,λi hi=>p i λh=>h hi⟩
theorem Bsb {w:World}{b i u} (h:w.cell? ⟨b,i,Ab⟩=Aa u):∃cur e c,w.heap[b]?=Aa (.cells cur e c)/\cur[i]?=Aa u:=by
 unfold World.cell? at h;simp only at h;cases d:w.heap[b]? with
 |none=>rw[d]at h;cases h
 |some o=>
  rw[d]at h;cases o with
  |cells cur e c=>exact⟨cur,e,c,rfl,by simpa using h⟩
  |_=>cases h
theorem A7q {w:World}{b i cur e hd} (c:w.heap[b]?=Aa (.cells cur e hd)):w.cell? ⟨b,i,Ab⟩=cur[i]?:=by simp[World.cell?,c]
theorem Lc.cell{F w w'} (h:Lc F w w'){b i u} (f:F (b,i)) (g:w.cell? ⟨b,i,Ab⟩=Aa u):w'.cell? ⟨b,i,Ab⟩=Aa u:=by obtain⟨cur,e,n,j,hu⟩:=Bsb g;obtain⟨d,c,_,k⟩:=h.cells j;rw[A7q c,k i f];exact hu
theorem Cbj {cur b:Array Value}{o n} (h:∀j,j<n->b[o+j]?=cur[o+j]?):(b.toList.drop o).take n=(cur.toList.drop o).take n:=
 List.ext_getElem? λj=>by
  rw[Nk,Nk];split
  ·rename_i c;rw[K6,K6,Qi,Qi];exact h j c
  ·rfl
structure F6 (X:Bs) (w w':World):Prop where
 os:w'.os=w.os
 tape:w'.tape=w.tape
 output:w'.output=w.output
 kp:Kp X w w'
theorem F6.size{X w w'} (h:F6 X w w'):w.heap.size<=w'.heap.size:=h.kp.size
theorem F6.lc{X F w w'} (h:F6 X w w') (c:∀b,F b->¬X b):Lc F w w':=h.kp.mono λb hx d=>c b d hx
theorem Rel.x{w w'} (h:Rel w w') X:F6 X w w':=⟨Below.os h,Below.tape h,Below.output h,h.size,λ_ b=>.inl (h.block b)⟩
theorem Rel.lc{w w'} (h:Rel w w') F:Lc F w w':=(h.x _).kp
theorem F6.rel{X w w'} (h:F6 X w w') (d:∀b,¬X b):Rel w w':=⟨h.os,h.tape,h.output,h.size,λk c=>(h.kp.block k c).same λ_=>d _⟩
theorem F6.refl X w:F6 X w w:=(Rel.refl w).x X
theorem F6.trans{X a b c} (h:F6 X a b) (k:F6 X b c):F6 X a c:=⟨k.os.trans h.os,k.tape.trans h.tape,k.output.trans h.output,h.kp.trans k.kp⟩
theorem F6.mono{X Y w w'} (h:F6 X w w') (c:∀b,X b->Y b):F6 Y w w':=⟨h.os,h.tape,h.output,h.kp.mono c⟩
theorem F6.step{X Y a b c} (h:F6 X a b) (k:F6 Y b c) (f:∀i,Y i->a.heap.size<=i.1\/X i):F6 X a c:=
 ⟨k.os.trans h.os,k.tape.trans h.tape,k.output.trans h.output,V6 h.size k.size,λi hi=>(h.kp.block i hi).trans ((k.kp.block i (K8 hi h.size)).mono λj e=>by
  rcases f _ e with d|d
  ·have:a.heap.size<=i:=d;omega
  ·exact d)⟩
structure As where
 ok:Bs->World->Prop
 loc:∀ {F:Bs} {w w':World},Lc F w w'->ok F w->ok F w'
 lt:∀ {F:Bs} {w:World} {b:Nat×Nat},ok F w->F b->b.1<w.heap.size
 up:∀ {F F':Bs} {w:World},(∀b,F b->F' b)->(∀b,F' b->b.1<w.heap.size)->ok F w->ok F' w
theorem Ago{F w w'} (h:Lc F w w') (d:∀b,F b->b.1<w.heap.size):∀b,F b->b.1<w'.heap.size:=λb c=>K8 (d b c) h.size
def Sep:List As->Bs->World->Prop
 |[],F,w=>∀b,F b->b.1<w.heap.size
 |a::m,F,w=>(∀b,F b->b.1<w.heap.size)/\∃F1 c:Bs,a.ok F1 w/\Sep m c w/\(∀b,F1 b->¬c b)/\(∀b,F1 b->F b)/\(∀b,c b->F b)
theorem Sep.lt{F w}:∀ {m:List As},Sep m F w->∀b,F b->b.1<w.heap.size
 |[],h=>h
 |_::_,h=>h.1
theorem Sep.up{F F' w} (e:∀b,F b->F' b) (d:∀b,F' b->b.1<w.heap.size):∀ {m:List As},Sep m F w->Sep m F' w
 |[],_=>d
 |_::_,⟨_,F1,F2,h1,h2,h3,h4,h5⟩=>⟨d,F1,F2,h1,h2,h3,λb c=>e b (h4 b c),λb c=>e b (h5 b c)⟩
theorem Sep.loc{F w w'} (h:Lc F w w'):∀ {m:List As},Sep m F w->Sep m F w'
 |[],hk=>Ago h hk
 |_::_,⟨h0,F1,F2,h1,h2,h3,h4,h5⟩=>⟨Ago h h0,F1,F2,As.loc _ (h.sub h4) h1,h2.loc (h.sub h5),h3,h4,h5⟩
theorem Sep.swap{F w a c m} (h:Sep (a::c::m) F w):Sep (c::a::m) F w:=by
 obtain⟨j,F1,v,q,⟨r,p,i,s,t,u,k,g⟩,n,o,f⟩:=h;refine⟨j,p,λb=>F1 b\/i b,s,⟨λb d=>?_,F1,i,q,t,λb d e=>n b d (g b e),λ_ h=>.inl h,λ_ h=>.inr h⟩,λb d e=>?_,λb d=>f b (k b d),λb d=>?_⟩
 ·rcases d with d|d
  ·exact j b (o b d)
  ·exact r b (g b d)
 ·rcases e with e|e
  ·exact n b e (k b d)
  ·exact u b d e
 ·rcases d with d|d
  ·exact o b d
  ·exact f b (g b d)
theorem Sep.cons_mono{F w a m m'} (h:Sep (a::m) F w) (j:∀F,Sep m F w->Sep m' F w):Sep (a::m') F w:=by obtain⟨c,F1,b,d,e,f,g,i⟩:=h;exact⟨c,F1,b,d,j _ e,f,g,i⟩
theorem Sep.tail{F w a m} (h:Sep (a::m) F w):Sep m F w:=by obtain⟨b,F1,e,f,c,g,i,d⟩:=h;exact c.up d b
theorem Sep.perm{w m m'} (e:m.Perm m'):∀ {F:Bs},Sep m F w->Sep m' F w:=by
 induction e with
 |nil=>exactλh=>h
 |cons a _ f=>exactλh=>h.cons_mono λ_=>f
 |swap a b l=>exactλh=>h.swap
 |trans _ _ c d=>exactλh=>d (c h)
theorem Sep.split{w}:∀ {l m:List As} {F:Bs},Sep (l++m) F w->∃F1 d,Sep l F1 w/\Sep m d w/\(∀b,F1 b->¬d b)/\(∀b,F1 b->F b)/\(∀b,d b->F b)
 |[],m,F,h=>⟨λ_=>False,F,(λ_ h=>h.elim),h,(λ_ h=>h.elim),(λ_ h=>h.elim),λ_ h=>h⟩
 |a::l,m,F,⟨h0,F1,d,h1,h2,h3,h4,h5⟩=>by
  obtain⟨f,g,g1,g2,g3,g4,g5⟩:=Sep.split h2;refine⟨λb=>F1 b\/f b,g,⟨λb c=>?_,F1,f,h1,g1,λb c e=>h3 b c (g4 b e),λ_ h=>.inl h,λ_ h=>.inr h⟩,g2,λb c e=>?_,λb c=>?_,λb c=>h5 b (g5 b c)⟩
  ·rcases c with c|c
   ·exact h0 b (h4 b c)
   ·exact h0 b (h5 b (g4 b c))
  ·rcases c with c|c
   ·exact h3 b c (g5 b e)
   ·exact g3 b c e
  ·rcases c with c|c
   ·exact h4 b c
   ·exact h5 b (g4 b c)
theorem Sep.join{w}:∀ {l m:List As} {F1 d:Bs},Sep l F1 w->Sep m d w->(∀b,F1 b->¬d b)->Sep (l++m) (λb=>F1 b\/d b) w
 |[],m,F1,d,h1,h2,_=>h2.up (λ_ h=>.inr h) λb c=>by
  rcases c with c|c
  ·exact h1 b c
  ·exact h2.lt b c
 |a::l,m,F1,d,⟨h0,G1,G2,g1,g2,g3,g4,g5⟩,h2,hd=>by
  have f:=Sep.join g2 h2 λb c=>hd b (g5 b c);refine⟨λb c=>?_,G1,_,g1,f,λb c e=>?_,λb c=>.inl (g4 b c),λb c=>?_⟩
  ·rcases c with c|c
   ·exact h0 b c
   ·exact h2.lt b c
  ·rcases e with e|e
   ·exact g3 b c e
   ·exact hd b (g4 b c) e
  ·rcases c with c|c
   ·exact .inl (g5 b c)
   ·exact .inr c
structure Ce where
 rd:Bs->World->Value->Prop
 mono:∀ {S S':Bs} {w w':World} {v:Value},(∀b,S b->S' b)->Lc S w w'->rd S w v->rd S' w' v
 ow:Bs->World->Value->Prop
 loc:∀ {F:Bs} {w w':World} {v:Value},Lc F w w'->ow F w v->ow F w' v
 lt:∀ {F:Bs} {w:World} {v:Value} {b:Nat×Nat},ow F w v->F b->b.1<w.heap.size
 up:∀ {F F':Bs} {w:World} {v:Value},(∀b,F b->F' b)->(∀b,F' b->b.1<w.heap.size)->ow F w v->ow F' w v
 seen:∀ {F:Bs} {w:World} {v:Value},ow F w v->rd F w v
 one:∀ {S:Bs} {w:World} {v:Value},rd S w v->v.oneCell'=true
def cV (u:Value) (hu:u.oneCell'=true:=by rfl):Ce where
 rd:=λ_ _ v=>v=u
 mono:=λ_ _ h=>h
 ow:=λF w v=>v=u/\∀b,F b->b.1<w.heap.size
 loc:=λh c=>⟨c.1,Ago h c.2⟩
 lt:=λc d=>c.2 _ d
 up:=λ_ e c=>⟨c.1,e⟩
 seen:=λc=>c.1
 one:=λc=>c▸hu
def cI (n:Int):Ce:=cV (.int .i64 n)
def cB (b:Bool):Ce:=cV (.bool b)
def cT (s:Cea):Ce:=cV (.string s)
def cY (n:UInt8):Ce:=cV (.int .u8 (n.toNat:Int))
def oC (c:Ce) (v:Value):As:=⟨λF w=>c.ow F w v,c.loc,c.lt,c.up⟩
def Bc:List Ce->List Value->List As
 |c::cs,v::vs=>oC c v::Bc cs vs
 |_,_=>[]
theorem O8:∀ {cs b:List Ce} {vs us:List Value},cs.length=vs.length->Bc (cs++b) (vs++us)=Bc cs vs++Bc b us
 |[],_,[],_,_=>rfl
 |[],_,_::_,_,h=>by simp at h
 |_::_,_,[],_,h=>by simp at h
 |c::cs,b,v::vs,us,h=>by simp only[Fi,Bc,List.cons.injEq,true_and];exact O8 (by simpa using h)
def Eg (S:Bs) (w:World):List Ce->List Value->Prop
 |[],vs=>vs=[]
 |c::cs,vs=>∃v r,vs=v::r/\c.rd S w v/\Eg S w cs r
theorem Z0{S S' w w'} (h:∀b,S b->S' b) (d:Lc S w w'):∀cs vs,Eg S w cs vs->Eg S' w' cs vs
 |[],_,hk=>hk
 |c::cs,_,⟨v,r,e,h1,h2⟩=>⟨v,r,e,c.mono h d h1,Z0 h d cs r h2⟩
theorem Zz{S w}:∀ {cs:List Ce} {vs:List Value},Eg S w cs vs->vs.length=cs.length
 |[],_,h=>by rw[h];rfl
 |_::_,_,⟨v,r,e,_,h2⟩=>by rw[e,B5,Zz h2,B5]
theorem Ag8{S w}:∀ {cs b:List Ce} {vs us:List Value},Eg S w cs vs->Eg S w b us->Eg S w (cs++b) (vs++us)
 |[],_,_,_,h,h'=>by have:_=[]:=h;subst this;exact h'
 |c::cs,b,_,us,⟨v,r,e,h1,h2⟩,h'=>by subst e;exact⟨v,r++us,rfl,h1,Ag8 h2 h'⟩
theorem Aoo{S w}:∀ {cs:List Ce} {vs:List Value},Eg S w cs vs->∀ {j:Nat} {c:Ce},cs[j]?=Aa c->∃v,vs[j]?=Aa v/\c.rd S w v
 |[],_,_,j,c,hj=>by simp at hj
 |c::cs,_,⟨v,r,e,h1,h2⟩,0,c',hj=>by simp at hj;subst hj;subst e;exact⟨v,rfl,h1⟩
 |c::cs,_,⟨v,r,e,h1,h2⟩,j+1,c',hj=>by subst e;exact Aoo h2 (by simpa using hj)
theorem Aex{w}:∀ {cs:List Ce} {vs:List Value} {F:Bs},cs.length=vs.length->Sep (Bc cs vs) F w->Eg F w cs vs
 |[],[],_,_,_=>rfl
 |[],_::_,_,h,_=>by simp at h
 |_::_,[],_,h,_=>by simp at h
 |c::cs,v::vs,F,hl,⟨_,F1,F2,h1,h2,_,h4,h5⟩=>
  ⟨v,vs,rfl,c.mono h4 (Lc.refl _ _) (c.seen h1),Z0 h5 (Lc.refl _ _) _ _ (Aex (by simpa using hl) h2)⟩
def Wr (b:Nat×Nat) (n:Nat):Prop:=∀j,j<n->¬(b.1<=j/\j<b.2)
theorem wr0 n:Wr (0,0) n:=λj _ h=>by simp at h
def Cx (k:Nat) (v:Value) (n:Nat) (xs:List Value):As where
 ok:=λF w=>(∀b,F b->b.1<w.heap.size)/\xs.length=n*k/\((v=.slice Ab 0 0/\n=0)\/∃b off cap cur e d,v=.slice (Aa ⟨b,off,Ab⟩) n cap/\(∀j,j<cap*k->F (b,off+j))/\(w.heap[b]?=Aa (.cells cur e d)/\Wr d cur.size)/\n<=cap/\cap<=maxLen/\off+cap*k<=cur.size/\(cur.toList.drop off).take (n*k)=xs)
 loc:=λh ⟨i,o,p⟩=>⟨Ago h i,o,p.imp id λ⟨b,off,cap,cur,e,d,g,c,u,x,z,y,hx⟩=>by
  obtain⟨f,q,t,A⟩:=h.cells u.1;refine⟨b,off,cap,f,e,d,g,c,⟨q,by rw[t];exact u.2⟩,x,z,by omega,?_⟩;rw[<-hx];exact Cbj λj s=>A _ (c j (K8 s (E4 _ x)))⟩
 lt:=λ⟨i,_⟩ c=>i _ c
 up:=λy B ⟨_,o,p⟩=>⟨B,o,p.imp id λ⟨b,off,cap,cur,e,d,g,c,r⟩=>⟨b,off,cap,cur,e,d,g,λj s=>y _ (c j s),r⟩⟩
def Cc (b:Nat) (cs:Array Value) (e:TypeId):As where
 ok:=λF w=>(∀b,F b->b.1<w.heap.size)/\(∀j,j<cs.size->F (b,j))/\w.heap[b]?=Aa (.cells cs e (0,0))
 loc:=λh ⟨f,d,g⟩=>⟨Ago h f,d,by
  obtain⟨c,k,s,o⟩:=h.cells g
  have:c=cs:=A5q λi=>by
   by_cases hi:i<cs.size
   ·exact o i (d i hi)
   ·rw[Tp (by omega),Tp (by omega)]
  rw[k,this]⟩
 lt:=λ⟨f,_⟩ n=>f _ n
 up:=λr q ⟨_,d,g⟩=>⟨q,λj p=>r _ (d j p),g⟩
theorem Aov{k} {w:World}{n xs cur e hd b off} (f:w.heap[b]?=Aa (.cells cur e hd)) (d:(cur.toList.drop off).take (n*k)=xs){j u} (c:xs[j]?=Aa u):w.cell? ⟨b,off+j,Ab⟩=Aa u:=by
 rw[<-d,Nk]at c;split at c
 ·rw[K6,Qi]at c;rw[A7q f];exact c
 ·cases c
def Ar (k:Nat) {T:Type} (f:T->List Ce) (L:List T):Ce where
 rd:=λS w v=>∃a cap,v=.slice a L.length cap/\L.length<=cap/\cap<=maxLen/\(L≠[]->∃b off xs,a=Aa ⟨b,off,Ab⟩/\(∀j,j<L.length*k->S (b,off+j))/\xs.length=L.length*k/\(∀j u,xs[j]?=Aa u->w.cell? ⟨b,off+j,Ab⟩=Aa u)/\Eg S w (L.flatMap f) xs)
 mono:=λ{S S' w w' v} h s ⟨a,cap,e,g,c,y⟩=>⟨a,cap,e,g,c,λp=>by
  obtain⟨b,off,xs,x,i,hx,D,G⟩:=y p;exact⟨b,off,xs,x,λj d=>h _ (i j d),hx,λj u d=>s.cell (i j (by rw[<-hx];exact(H3.1 d).1)) (D j u d),Z0 h s _ _ G⟩⟩
 ow:=λF w v=>∃xs:List Value,(L.flatMap f).length=xs.length/\Sep (Cx k v L.length xs::Bc (L.flatMap f) xs) F w
 loc:=λh ⟨xs,g,c⟩=>⟨xs,g,c.loc h⟩
 lt:=λ⟨_,_,c⟩ i=>c.lt _ i
 up:=λK p ⟨xs,g,c⟩=>⟨xs,g,c.up K p⟩
 seen:=λ{F w v} ⟨xs,g,c⟩=>by
  obtain⟨O,F1,N,⟨_,hx,I⟩,z,_,A,B⟩:=c;have C:=Z0 B (Lc.refl _ _) _ _ (Aex g z);rcases I with⟨rfl,t⟩|⟨b,off,cap,cur,e,P,rfl,i,H,n,o,M,r⟩
  ·exact⟨Ab,0,by rw[t],by omega,by simp[maxLen],λq=>absurd (I4 t) q⟩
  ·exact⟨_,cap,rfl,n,o,λ_=>⟨b,off,xs,rfl,λj d=>A _ (i j (K8 d (E4 _ n))),hx,λj u d=>Aov H.1 r d,C⟩⟩
 one:=λ⟨_,_,e,_⟩=>by rw[e];rfl
structure Vi where
 ok:Bs->World->Prop
 loc:∀ {F:Bs} {w w':World},Lc F w w'->ok F w->ok F w'
 up:∀ {F F':Bs} {w:World},(∀b,F b->F' b)->ok F w->ok F' w
def vR (v:Value) (c:Ce):Vi:=⟨λF w=>c.rd F w v,λh b=>c.mono (λ_ d=>d) h b,λh b=>c.mono h (Lc.refl _ _) b⟩
def vC (a:Addr) (v:Value):Vi:=⟨λF w=>F (a.block,a.off)/\a.spot=Ab/\w.cell? a=Aa v,λh c=>⟨c.1,c.2.1,by obtain⟨b,o,s⟩:=a;obtain⟨d,rfl,e⟩:=c;exact h.cell d e⟩,λh c=>⟨h _ c.1,c.2⟩⟩
def oV (o:As) (l:List Vi):As where
 ok:=λF w=>o.ok F w/\∀r∈l,r.ok F w
 loc:=λh ⟨b,c⟩=>⟨o.loc h b,λr d=>r.loc h (c r d)⟩
 lt:=λ⟨b,_⟩ f=>o.lt b f
 up:=λe g ⟨b,c⟩=>⟨o.up e g b,λr d=>r.up e (c r d)⟩
structure Rd where
 ok:Bs->World->Prop
 mono:∀ {S S':Bs} {w w':World},(∀b,S b->S' b)->Lc S w w'->ok S w->ok S' w'
def rV (v:Value) (c:Ce):Rd:=⟨λS w=>c.rd S w v,c.mono⟩
def rX (vs:List Value) (cs:List Ce):Rd:=⟨λS w=>Eg S w cs vs,λh c b=>Z0 h c _ _ b⟩
structure Dn where
 w:World
 X:Bs
 S:Bs
structure St (w0:Dn) (m:List As) (rs:List Rd) (w:World):Prop where
 Aor:F6 w0.X w0.w w
 base:∀b,w0.S b->b.1<w0.w.heap.size/\¬w0.X b
 ex:∃F:Bs,Sep m F w/\(∀b,F b->w0.w.heap.size<=b.1\/w0.X b)/\∀r∈rs,r.ok (λb=>(w0.S b\/w0.X b\/w0.w.heap.size<=b.1)/\b.1<w.heap.size/\¬F b) w
structure H5 (X S:Bs) (w:World) (m:List As) (rs:List Rd) (w':World):Prop where
 Aor:F6 X w w'
 ex:∃F:Bs,Sep m F w'/\(∀b,F b->w.heap.size<=b.1\/X b)/\∀r∈rs,r.ok (λb=>(S b\/X b\/w.heap.size<=b.1)/\b.1<w'.heap.size/\¬F b) w'
section
variable {w0:Dn} {w w':World} {m l l':List As} {rs rs':List Rd} {a a':As}
theorem St.enter{X S} (c:Sep m X w) (d:∀b,S b->b.1<w.heap.size/\¬X b):St ⟨w,X,S⟩ m [] w:=
 ⟨F6.refl _ _,d,X,c,λ_ h=>.inr h,(λ_ h=>by cases h)⟩
theorem St.addE{X S} (h:St ⟨w,X,S⟩ m rs w){r} (q:r.ok S w):St ⟨w,X,S⟩ m (r::rs) w:=by
 obtain⟨k,f,F,n,g,o⟩:=h;refine⟨k,f,F,n,g,λj d=>?_⟩;rcases Bq.1 d with rfl|d
 ·refine j.mono (λb c=>⟨.inl c,(f b c).1,λp=>?_⟩) (Lc.refl _ _) q;have i:=f b c;rcases g b p with e|e
  ·have:b.1<w.heap.size:=i.1;have:w.heap.size<=b.1:=e;omega
  ·exact i.2 e
 ·exact o j d
theorem St.gives (h:St w0 m rs w):H5 w0.X w0.S w0.w m rs w:=⟨h.Aor,h.ex⟩
theorem H5.fewer{X S} (h:H5 X S w m rs w') (g:∀r∈rs',r∈rs):H5 X S w m rs' w':=by obtain⟨b,F,c,d,e⟩:=h;exact⟨b,F,c,d,λr f=>e r (g r f)⟩
theorem St.iso (h:St w0 (l++m) rs w) (hi:∀F,Sep l F w->Sep l' F w):St w0 (l'++m) rs w:=by
 obtain⟨f,c,F,d,g,i⟩:=h;obtain⟨F1,j,g1,g2,g3,g4,g5⟩:=d.split
 have e:=(Sep.join (hi F1 g1) g2 g3).up (F':=F) (λb c=>by
  rcases c with c|c
  ·exact g4 b c
  ·exact g5 b c) d.lt
 exact⟨f,c,F,e,g,i⟩
theorem St.perm{m'} (h:St w0 m rs w) (g:m.Perm m'):St w0 m' rs w:=by obtain⟨b,f,F,c,d,e⟩:=h;exact⟨b,f,F,c.perm g,d,e⟩
theorem St.upd (h:St w0 (l++m) rs w) (hi:∀F,Sep l F w->∃F',Sep l' F' w'/\F6 F w w'/\∀b,F' b->F b\/w.heap.size<=b.1):St w0 (l'++m) rs w':=by
 obtain⟨o,g,F,p,j,q⟩:=h;obtain⟨F1,n,g1,g2,g3,g4,g5⟩:=p.split;obtain⟨F',u,k2,k⟩:=hi F1 g1;have i:Sep m n w':=g2.loc (k2.lc λb g d=>g3 b d g)
 have s:∀b,F' b->¬n b:=λb g d=>by
  rcases k b g with f|f
  ·exact g3 b f d
  ·have:=g2.lt b d;omega
 refine⟨o.step k2 λb g=>j b (g4 b g),g,_,Sep.join u i s,λb c=>?_,λr t=>?_⟩
 ·rcases c with c|c
  ·rcases k b c with d|d
   ·exact j b (g4 b d)
   ·have:=o.size;exact .inl (by omega)
  ·exact j b (g5 b c)
 ·refine r.mono (λb c=>⟨c.1,K8 c.2.1 k2.size,λd=>?_⟩) (k2.lc λb c e=>c.2.2 (g4 b e)) (q r t);rcases d with d|d
  ·rcases k b d with f|f
   ·exact c.2.2 (g4 b f)
   ·have:=c.2.1;omega
  ·exact c.2.2 (g5 b d)
theorem St.call (h:St w0 m rs w) (d:Rel w w'):St w0 m rs w':=
 St.upd (l:=[]) (l':=[]) h λF e=>⟨F,λb c=>K8 (e b c) d.size,d.x F,λ_ c=>.inl c⟩
theorem St.fix{r} (h:St w0 (l++m) rs w) (p:∀F,Sep l F w->r.ok F w):St w0 m (r::rs) w:=by
 obtain⟨k,o,F,f,g,n⟩:=h;obtain⟨F1,i,g1,g2,g3,g4,g5⟩:=f.split;refine⟨k,o,i,g2,λb c=>g b (g5 b c),λe d=>?_⟩;rcases Bq.1 d with rfl|d
 ·refine e.mono (λb c=>⟨?_,f.lt b (g4 b c),g3 b c⟩) (Lc.refl _ _) (p F1 g1);exact .inr ((g b (g4 b c)).elim .inr .inl)
 ·exact e.mono (λb c=>⟨c.1,c.2.1,λj=>c.2.2 (g5 b j)⟩) (Lc.refl _ _) (n e d)
end
end
section
open Go.RowKit
section
variable {P:Program} {n:Nat} {env:Env} {w:World} {d:Option Tmp} {ty:TypeId} {pos:String} {af:Array Edge} {g:Option (Nat×Bool)}
theorem Azi{x v} (hx:ev env x=Aa v):Runs P n env w ⟨d,.move x,ty,pos,af,g⟩ v w:=λa b=>by simp[execOp,b.ev hx]
theorem Aze{x v} (hx:ev env x=Aa v):Runs P n env w ⟨d,.assign x,ty,pos,af,g⟩ v w:=λa b=>by simp[execOp,b.ev hx]
theorem B47{c x y v} (e:ev env c=Aa (.bool true)) (hx:ev env x=Aa v):Runs P n env w ⟨d,.pick c x y,ty,pos,af,g⟩ v w:=λa b=>by simp[execOp,b.ev e,b.ev hx,asBool]
theorem B46{c x y v} (e:ev env c=Aa (.bool false)) (f:ev env y=Aa v):Runs P n env w ⟨d,.pick c x y,ty,pos,af,g⟩ v w:=λa b=>by simp[execOp,b.ev e,b.ev f,asBool]
theorem Aol{x t b} (hx:ev env x=Aa (.bool b)):Runs P n env w ⟨d,.unOp .not t x,ty,pos,af,g⟩ (.bool !b) w:=λa c=>by simp[execOp,c.ev hx,Op.unary]
theorem i64_in{x} (h: -9223372036854775808<=x/\x<=9223372036854775807):IntKind.i64.wrap x=x:=by have a:IntKind.i64.min= -9223372036854775808:=rfl;exact IntWalk.i64_in _ h
theorem J0{x y t u i j} (hx:ev env x=Aa (.int .i64 i)) (c:ev env y=Aa (.int .i64 j)) (h: -9223372036854775808<=i+j/\i+j<=9223372036854775807):
  Runs P n env w ⟨d,.binOp .add t x y u,ty,pos,af,g⟩ (.int .i64 (i+j)) w:=λa b=>by
 simp[execOp,b.ev hx,b.ev c,eqGuard,binOp,Op.intArith,i64_in h]
theorem Aom{x y t u i j} (hx:ev env x=Aa (.int .i64 i)) (c:ev env y=Aa (.int .i64 j)) (h: -9223372036854775808<=i-j/\i-j<=9223372036854775807):
  Runs P n env w ⟨d,.binOp .sub t x y u,ty,pos,af,g⟩ (.int .i64 (i-j)) w:=λa b=>by
 simp[execOp,b.ev hx,b.ev c,eqGuard,binOp,Op.intArith,i64_in h]
theorem B40{x y t u i j} (hx:ev env x=Aa (.int .i64 i)) (c:ev env y=Aa (.int .i64 j)) (h: -9223372036854775808<=i*j/\i*j<=9223372036854775807):
  Runs P n env w ⟨d,.binOp .mul t x y u,ty,pos,af,g⟩ (.int .i64 (i*j)) w:=λa b=>by
 simp[execOp,b.ev hx,b.ev c,eqGuard,binOp,Op.intArith,i64_in h]
theorem Azh{x y t u k i j} (hx:ev env x=Aa (.int k i)) (c:ev env y=Aa (.int k j)):
  Runs P n env w ⟨d,.binOp .lss t x y u,ty,pos,af,g⟩ (.bool (decide (i<j))) w:=λa b=>by
 simp[execOp,b.ev hx,b.ev c,eqGuard,binOp,Op.intCmp]
theorem B4v{x y t u k i j} (hx:ev env x=Aa (.int k i)) (c:ev env y=Aa (.int k j)):
  Runs P n env w ⟨d,.binOp .leq t x y u,ty,pos,af,g⟩ (.bool (decide (i<=j))) w:=λa b=>by
 simp[execOp,b.ev hx,b.ev c,eqGuard,binOp,Op.intCmp]
theorem Aok{x y t u k i j} (hx:ev env x=Aa (.int k i)) (c:ev env y=Aa (.int k j)):
  Runs P n env w ⟨d,.binOp .gtr t x y u,ty,pos,af,g⟩ (.bool (decide (j<i))) w:=λa b=>by
 simp[execOp,b.ev hx,b.ev c,eqGuard,binOp,Op.intCmp]
theorem B4o{x y t u k i j} (hx:ev env x=Aa (.int k i)) (c:ev env y=Aa (.int k j)):
  Runs P n env w ⟨d,.binOp .geq t x y u,ty,pos,af,g⟩ (.bool (decide (j<=i))) w:=λa b=>by
 simp[execOp,b.ev hx,b.ev c,eqGuard,binOp,Op.intCmp]
theorem Xb{x y t u k i j} (hx:ev env x=Aa (.int k i)) (c:ev env y=Aa (.int k j)):
  Runs P n env w ⟨d,.binOp .eql t x y u,ty,pos,af,g⟩ (.bool (decide (i=j))) w:=λa b=>by
 simp[execOp,b.ev hx,b.ev c,eqGuard,binOp,Op.intCmp];rfl
theorem B42{x y t u k i j} (hx:ev env x=Aa (.int k i)) (c:ev env y=Aa (.int k j)):
  Runs P n env w ⟨d,.binOp .neq t x y u,ty,pos,af,g⟩ (.bool (!decide (i=j))) w:=λa b=>by
 simp[execOp,b.ev hx,b.ev c,eqGuard,binOp,Op.intCmp];rfl
theorem Bfj{t} k i j (a:P.underlying t=Aa .bool) w:(Op.equalIn (k+1) t (.bool i) (.bool j)).run P w=.ok (i==j) w:=by simp[Op.equalIn,run_underlying a]
theorem B4i{x y t u i j} (e:P.underlying t=Aa .bool) (hx:ev env x=Aa (.bool i)) (f:ev env y=Aa (.bool j)):
  Runs P n env w ⟨d,.binOp .eql t x y u,ty,pos,af,g⟩ (.bool (i==j)) w:=λa b=>by
 have c:=Bfj 9999 i j e w;simp only[execOp,b.ev hx,b.ev f,eqGuard,binOp,Op.equal,Op.maxDepth,Sem.run_bind,Sem.run_pure];simp[c]
theorem B44{x y t u i j} (e:P.underlying t=Aa .bool) (hx:ev env x=Aa (.bool i)) (f:ev env y=Aa (.bool j)):
  Runs P n env w ⟨d,.binOp .neq t x y u,ty,pos,af,g⟩ (.bool (!(i==j))) w:=λa b=>by
 have c:=Bfj 9999 i j e w;simp only[execOp,b.ev hx,b.ev f,eqGuard,binOp,Op.equal,Op.maxDepth,Sem.run_bind,Sem.run_pure];simp[c]
theorem Q2{x t e a0 l c} (f:P.underlying t=Aa (.slice e)) (hx:ev env x=Aa (.slice a0 l c)):
  Runs P n env w ⟨d,.call {callee:=.builtin .len,args:= #[x],argTypes:= #[t]},ty,pos,af,g⟩ (.int .i64 (l:Int)) w:=λa b=>by
 simp[execOp,resolve,invoke,builtin,b.ev hx,Builtin.len_,run_underlying f,goInt]
theorem B4u{x t s} (c:P.underlying t=Aa .string) (hx:ev env x=Aa (.string s)):
  Runs P n env w ⟨d,.call {callee:=.builtin .len,args:= #[x],argTypes:= #[t]},ty,pos,af,g⟩ (.int .i64 (s.size:Int)) w:=λa b=>by
 simp[execOp,resolve,invoke,builtin,b.ev hx,Builtin.len_,run_underlying c,goInt]
theorem B4k{x i vs v} (hx:ev env x=Aa (.tuple vs)) (c:vs[i]?=Aa v):
  Runs P n env w ⟨d,.extract x i,ty,pos,af,g⟩ v w:=λa b=>by
 simp[execOp,b.ev hx,Instr.extract,c]
theorem Be5{x a0} (hx:ev env x=Aa (.pointer (Aa a0))):Runs P n env w ⟨d,.nilCheck x,ty,pos,af,g⟩ (.pointer (Aa a0)) w:=λa b=>by simp[execOp,b.ev hx]
def Sz (P:Program) (t:TypeId) (a b:Nat) (z:Value):Prop:=(P.info? t).map (λi=>(i.zero,i.size,i.bytes))=Aa (Aa z,a,b)/\z.cells.size=a/\0<a
theorem Sz.info{t size a z} (h:Sz P t size a z):∃i,P.info? t=Aa i/\i.zero=Aa z/\i.size=size/\i.bytes=a:=by
 obtain⟨h,_,_⟩:=h;cases hi:P.info? t with
 |none=>simp[hi]at h
 |some i=>simp[hi]at h;exact⟨i,rfl,h.1,h.2.1,h.2.2⟩
theorem Sz.run{t size a z} (h:Sz P t size a z) w:(sizeOf t).run P w=.ok size w:=by obtain⟨i,b,_,c,_⟩:=h.info;simp[sizeOf,typeInfo,b,c]
theorem Sz.zero{t size a z} (h:Sz P t size a z) w:(zeroValue t).run P w=.ok z w:=by obtain⟨i,b,c,_⟩:=h.info;simp[zeroValue,typeInfo,b,c]
theorem Be2{x t k off b o fs f size bytes z} (j:P.underlying t=Aa (.struct fs)) (i:fs[k]?=Aa f) (ho:f.offset=off)
  (c:Sz P f.type size bytes z) (hx:ev env x=Aa (.pointer (Aa ⟨b,o,Ab⟩))):
  Runs P n env w ⟨d,.fieldAddr t x k,ty,pos,af,g⟩ (.pointer (Aa ⟨b,o+off,Ab⟩)) w:=λa h=>by
 have e:¬size=0:=Nat.pos_iff_ne_zero.1 c.2.2;simp[execOp,h.ev hx,Instr.fieldAt,run_underlying j,i,Instr.sureAddr,fieldPlace,c.run,e,ho,Addr.add_lit]
def Ac0:TypeDesc->Bool
 |.struct _|.array _ _=>false
 |_=>true
theorem Be3{x t a0 v td} (h:P.underlying t=Aa td) (f:Ac0 td=true) (hx:ev env x=Aa (.pointer (Aa a0))) (e:w.cell? a0=Aa v):
  Runs P n env w ⟨d,.load t x,ty,pos,af,g⟩ v w:=λa c=>by
 have b:(isAgg t).run P w=.ok false w:=by simp only[isAgg,Sem.run_bind,run_underlying h,Result.andThen_ok];cases td<;>first|rfl|cases f
 simp only[execOp,c.ev hx,Instr.loadAt,Instr.sureAddr,loadVar,Sem.run_bind,Sem.run_pure,Result.andThen_ok,b,I3,if_false,run_load,e]
theorem Be4{x t a0 fs size b z} {cs:List Value} (k:P.underlying t=Aa (.struct fs)) (i:Sz P t size b z) (hx:ev env x=Aa (.pointer (Aa a0))) (h:cs.length=size)
  (f:∀(j:Nat) u,cs[j]?=Aa u->w.cell? (a0.add j)=Aa u):
  Runs P n env w ⟨d,.load t x,ty,pos,af,g⟩ (.agg cs.toArray) w:=λa e=>by
 have c:=run_loadCells_list (P:=P) (w:=w) a0 cs f;rw[h]at c;simp[execOp,e.ev hx,Instr.loadAt,Instr.sureAddr,loadVar,isAgg,run_underlying k,i.run,c]
def RV (P:Program) (w:World) (env:Env):ResultVar->Value->Prop
 |.tmp t,v=>lk env t=Aa v
 |.cell a t,v=>∃b,lk env a=Aa (.pointer (Aa b))/\(loadVar t b).run P w=.ok v w
def RVs (P:Program) (w:World) (env:Env):List ResultVar->List Value->Prop
 |[],[]=>True
 |r::rs,v::vs=>RV P w env r v/\RVs P w env rs vs
 |_,_=>False
def Mh:List Value->Value
 |[v]=>v
 |vs=>.tuple vs.toArray
def Ahf (b:Array Value):ResultVar->Sem Value
 |.tmp t=>pure (b.getD t undef)
 |.cell a t=>do loadVar t (<-asAddr (b.getD a undef))
theorem B52{a} (c:Has n a env){r v} (h:RV P w env r v):(Ahf a.tmps r).run P w=.ok v w:=by
 cases r with
 |tmp t=>have:=c.at' t v h;simp[Ahf,Asu,this]
 |cell b t=>obtain⟨i,e,f⟩:=h;have:=c.at' b _ e;simp[Ahf,Asu,this,asAddr,f]
theorem Bfk{a} (b:Has n a env):∀rs vs,RVs P w env rs vs->(rs.mapM (Ahf a.tmps)).run P w=.ok vs w
 |[],[],_=>by simp
 |r::rs,v::vs,h=>by have c:=Bfk b rs vs h.2;simp only[A6a,Sem.run_bind,B52 b h.1,Result.andThen_ok,c,Sem.run_pure]
 |[],_::_,h=>h.elim
 |_::_,[],h=>h.elim
theorem B5v b a:results b a=(do
  let vs<-b.results.mapM (Ahf a)
  pure (if h:vs.size=1 then vs[0]else .tuple vs)):=by
 unfold results;congr 1
theorem B51{fn a} (c:Has n a env){vs} (h:RVs P w env fn.results.toList vs):(results fn a.tmps).run P w=.ok (Mh vs) w:=by
 have b:=Bfk (P:=P) (w:=w) c _ _ h;rw[B5v,<-Asv (xs:=fn.results),List.mapM_toArray];simp only[Sem.run_bind,Sem.run_map,b,Result.andThen_ok,Sem.run_pure];congr 1;match vs with
 |[]=>rfl
 |[v]=>rfl
 |v::u::r=>rw[dif_neg (by simp)];rfl
def De (P:Program) (rs:List ResultVar) (K:Value->World->Prop):Post:=λe env w=>(e=.normal\/e=.ret)/\∃vs,RVs P w env rs vs/\K (Mh vs) w
theorem Of{rs K} vs (h:RVs P w env rs vs) (a:K (Mh vs) w):De P rs K .ret env w:=⟨.inr rfl,vs,h,a⟩
theorem Baq{rs K} vs (h:RVs P w env rs vs) (a:K (Mh vs) w):De P rs K .normal env w:=⟨.inl rfl,vs,h,a⟩
def Can (P : Program) (f : FuncId) : Prop := ∃ a, P.funcs[f]? = some a /\ (a.name == "runtime.NumGoroutine") = false /\ a.body.isNone = false
def Ret (P:Program) (f:FuncId) (vs:List Value) (w:World) (K:Value->World->Prop):Prop:=
 Can P f/\Calls P f vs.toArray w (λe w'=>∃v,e=.returned v/\K v w')
theorem Ret.mono{f vs K a} (h:Ret P f vs w K) (b:∀v w',K v w'->a v w'):Ret P f vs w a:=
 ⟨h.1,h.2.mono λ_ _ ⟨v,e,k⟩=>⟨v,e,b _ _ k⟩⟩
def Y5:Nat->List Value->Env
 |_,[]=>[]
 |i,v::r=>(i,v)::Y5 (i+1) r
theorem Bag:∀vs i t v,lk (Y5 i vs) t=Aa v->i<=t/\vs[t-i]?=Aa v
 |[],_,_,_,h=>by cases h
 |u::r,i,t,v,h=>by
  simp only[Y5,lk]at h;by_cases e:i=t
  ·subst e;simp at h;subst h;simp
  ·rw[Nl e]at h;have a:=Bag r (i+1) t v h;refine⟨by omega,?_⟩;obtain⟨k,b⟩:∃k,t-i=k+1:=⟨t-i-1,by omega⟩;rw[b,Bq6];rw[show t-(i+1)=k by omega]at a;exact a.2
theorem enter{f fn c vs K} (l : P.funcs[f]? = some fn) (k : fn.body = some c) (r : fn.ntmps = n) (b : (fn.name == "runtime.NumGoroutine") = false)
  (p:Dm vs.length n=true) (h:WC P n c (De P fn.results.toList K) (Y5 0 vs) w):Ret P f vs w K:=by
 have q:vs.length<=n:=by simpa using p
 refine⟨⟨fn,l,b,by simp[k]⟩,calls_of_wp l k ?_⟩;refine wp_mono (h _ ⟨rfl,by simp[r];omega,λt v x=>?_⟩) λe z w' s=>?_
 ·have:=Bag vs 0 t v x;simp only[Aky]at this;rw[Bqu (by have:=(H3.1 this.2).1;simpa using this)];simpa using this.2
 ·obtain⟨i,a,o,y,u,m⟩:=s;have j:=B51 a u;rcases o with rfl|rfl
  ·exact⟨a.df,_,j,_,rfl,m⟩
  ·exact⟨a.df,_,j,_,rfl,m⟩
def Hw (env:Env):List Operand->Option (List Value)
 |[]=>Aa []
 |x::r=>match ev env x,Hw env r with
  |some v,Aa vs=>Aa (v::vs)
  |_,_=>Ab
theorem Has.Hw {a:Act} (c:Has n a env):∀(l:List Operand) (vs:List Value),Hw env l=Aa vs->l.map a.eval=vs
 |[],vs,h=>by simp only[Go.Proofs.YtbbefmccoomfhaaGreatDoor.Hw,D1.injEq]at h;simp[<-h]
 |x::r,vs,h=>by
  simp only[Go.Proofs.YtbbefmccoomfhaaGreatDoor.Hw]at h;split at h
  ·rename_i v b e f;simp only[D1.injEq]at h;rw[<-h,Fa,c.ev e,Has.Hw c r b f]
  ·cases h
variable {ops:Array Oper} {rest:List Oper} {Q:Post}
end
end
section
open Go.RowKit
section
variable {P:Program} {ops:Array Oper} {QA:Act->World->Prop}
def Uq:Exit->Act->World->Prop:=λ_ _ _=>False
def Lo (P:Program) (ops:Array Oper) (z:Bool) (i:Nat) (K:Act->World->Prop) (a:Act) (w:World):Prop:=
 match ops[i]? with
 |none=>False
 |some o=>if Region.wanted o (yielded ops a.tmps)then o.wp P a w (λb w'=>(z=true\/Rel w w')/\∃v,b=a.put o.dst v/\K b w') Uq else K (a.put o.dst undef) w
def Afd (ops:Array Oper):Nat->Nat->Nat->Bool
 |0,_,_=>false
 |n+1,i,j=>
  match ops[i]? with
  |none=>false
  |some o=>o.after.any λe=>Region.binds .any e&&(Ay e.on j||Afd ops n e.on j)
def Uo (o:Oper):Bool:=match o.op with
 |.move _=>true
 |_=>false
def mvB (ops:Array Oper) (j:Nat):Bool:=match ops[j]? with
 |some o=>Uo o
 |none=>false
def Kl (ops:Array Oper) (a:Array Bool) (i:Nat):Bool:=(Ts ops.size).all λj=>!(a.getD j false)||(mvB ops j||Afd ops ops.size i j)
theorem Atr{listed i j} (h:Kl ops (listed.setIfInBounds i true) j=true):Kl ops listed j=true:=by
 unfold Kl at h⊢;refine Ff.2 λq d=>?_;have b:=Ff.1 h q d;by_cases a:i=q
 ·subst a;rcases Tt i listed.size with c|c
  ·simp[c]at b;simp[b]
  ·simp[Tp c]
 ·rw[getD_set_ne false a]at b;exact b
def Down (ops:Array Oper) (a:Array Bool):Prop:=∀i o,a.getD i false=true->ops[i]?=Aa o->∀e∈o.after,Region.binds .any e=true->a.getD e.on false=true
theorem A6y{listed} (d:Down ops listed):∀ {n i j:Nat} {o:Oper},Afd ops n i j=true->ops[i]?=Aa o->(∀e∈o.after,Region.binds .any e=true->listed.getD e.on false=true)->listed.getD j false=true
 |0,_,_,_,h,_,_=>by cases h
 |n+1,i,j,o,h,hi,ha=>by
  unfold Afd at h;simp only[hi]at h;rw[Array.any_eq_true']at h;obtain⟨e,f,b⟩:=h;simp only[A9,Ha]at b;have c:=ha e f b.1;rcases b.2 with a|a
  ·rw[Br a]at c;exact c
  ·cases n with
   |zero=>cases a
   |succ n=>
    cases ho:ops[e.on]? with
    |none=>unfold Afd at a;simp[ho]at a
    |some g=>exact A6y d a ho (d _ _ c ho)
theorem A60{i j o listed listed'} (c:Down ops listed) (h:Kl ops listed' i=true) (hi:ops[i]?=Aa o) (d:j<ops.size) (f:listed'.getD j false=true) (b:∀e∈o.after,Region.binds .any e=true->listed.getD e.on false=true):mvB ops j=true\/listed.getD j false=true:=by unfold Kl at h;have a:=Ff.1 h j (Atf.2 d);rw[f]at a;simp only[A6,Rr,Ha]at a;exact a.imp id λa=>A6y c a hi b
theorem Down.set{listed} (s:Down ops listed){j} (t:j∈Region.ready .any ops listed):Down ops (listed.setIfInBounds j true):=λi o l hi e k h=>by
 have p:∀q,listed.getD q false=true->(listed.setIfInBounds j true).getD q false=true:=λq m=>by
  by_cases c:j=q
  ·subst c
   have g:j<listed.size:=by
    rcases Tt j listed.size with f|f
    ·exact f
    ·simp[Tp f]at m
   simp[g]
  ·rw[getD_set_ne false c];exact m
 by_cases b:j=i
 ·subst b;obtain⟨_,u,d,a⟩:=mem_ready.1 t;rw[hi]at d;obtain rfl:o=u:=by simpa using d
  exact p _ (a e k h)
 ·rw[getD_set_ne false b]at l;exact p _ (s i o l hi e k h)
theorem Down.init n:Down ops (Kh n false):=λi o b=>by
 rcases Tt i n with a|a
 ·simp[a]at b
 ·simp[a]at b
def Ve (P:Program) (ops:Array Oper) (QA:Act->World->Prop):Nat->Array Bool->Act->World->Prop
 |0,listed,a,w=>Region.ready .any ops listed=[]/\∀b,Rel w b->QA a b
 |k+1,listed,a,w=>(Region.ready .any ops listed=[]->∀b,Rel w b->QA a b)/\
   ∀i∈Region.ready .any ops listed,∀b,Rel w b->Lo P ops (Kl ops listed i) i (Ve P ops QA k (listed.setIfInBounds i true)) a b
theorem A1z:∀ {k:Nat} {b:Array Bool} {a:Act} {w w':World},Ve P ops QA k b a w->Rel w w'->Ve P ops QA k b a w'
 |0,_,_,_,_,h,hr=>⟨h.1,λd c=>h.2 d (hr.trans c)⟩
 |_+1,_,_,_,_,h,hr=>⟨λe d c=>h.1 e d (hr.trans c),λi hi d c=>h.2 i hi d (hr.trans c)⟩
theorem J4 {o:Oper}{a w K K' Q} (h:∀a w,K a w->K' a w) (d:o.wp P a w K Uq):o.wp P a w K' Q:=by
 unfold Oper.wp at*
 generalize (execOp a.eval o).run P w=r at*
 cases r with
 |ok m w'=>
  cases m<;>simp only[Oper.upon]at d⊢ <;>
   first
    |exact h _ _ d
    |exact Calls.mono d (λe f b=>by
      cases e with
      |returned v=>exact h _ _ b
      |panicked c=>exact(b:False).elim
      |outgrown=>obtain⟨_,_,b⟩:=b;exact(b:False).elim)
    |exact Rows.mono d (λ_ _ b=>h _ _ b)
 |halt x w'=>cases x<;>simp only[Oper.upon]at d⊢ <;>exact(d:False).elim
theorem A1x{Q} (d:∀a w,QA a w->Q .normal a w):∀k b a w,Ve P ops QA k b a w->wpAny P .any ops Q k b a w
 |0,_,_,w,h=>⟨h.1,d _ _ (h.2 w (Rel.refl w))⟩
 |k+1,b,a,w,h=>⟨λf=>d _ _ (h.1 f w (Rel.refl w)),λi hi=>by
   have c:=h.2 i hi w (Rel.refl w);unfold Lo at c;unfold wpOp;split
   ·rename_i ho;simp only[ho]at c
   ·rename_i o ho;simp only[ho]at c;split
    ·rename_i e;simp only[e,if_true]at c;exact .inl (J4 (λ_ _ ⟨_,_,_,g⟩=>A1x d k _ _ _ g) c)
    ·rename_i e;simp only[e]at c;exact A1x d k _ _ _ c⟩
def Adc (P:Program) (o:Oper) (a:Act) (w:World) (v:Value):Prop:=∀b,Rel w b->o.wp P a b (λc w'=>Rel b w'/\c=a.put o.dst v) Uq
def Rq (P:Program) (ops:Array Oper) (o:Oper) (a:Act) (w:World) (v:Value):Prop:=
 (Region.wanted o (yielded ops a.tmps)=true/\Adc P o a w v)\/(Region.wanted o (yielded ops a.tmps)=false/\v=undef)
theorem A11 {o:Oper}{a w x v} {K:Act->World->Prop} {R:World->Prop} (s:∀cs b,o.op≠ .select cs b) (l:∀d,x=Aa d->d∉o.looksAt ops)
  (h:o.wp P (a.put x v) w (λj w'=>R w'/\∃u,j=(a.put x v).put o.dst u/\K j w') Uq):
  o.wp P a w (λj w'=>R w'/\∃u,j=a.put o.dst u/\K ((a.put x v).put o.dst u) w') Uq:=by
 unfold Oper.wp at*
 rw[execOp_put o s a x v l]at h;generalize (execOp a.eval o).run P w=r at*
 cases r with
 |ok m w'=>
  cases m<;>simp only[Oper.upon]at h⊢
  case value u=>obtain⟨g,_,_,i⟩:=h;exact⟨g,u,rfl,i⟩
  case skip=>obtain⟨g,_,_,i⟩:=h;exact⟨g,undef,rfl,i⟩
  case defer dd=>
   obtain⟨g,z,p,i⟩:=h;have:=congrArg (λb:Act=>b.defers.length) p;have q:∀(b:Act) (y:Option Tmp) (u:Value),(b.put y u).defers=b.defers:=λb y u=>by cases y<;>rfl
   simp[q]at this
  case enter f args=>
   refine Calls.mono h λe t k=>?_;cases e with
   |returned u=>obtain⟨g,_,_,i⟩:=k;exact⟨g,u,rfl,i⟩
   |panicked c=>exact k
   |outgrown=>exact k
  case row row args=>exact Rows.mono h λu _ ⟨g,_,_,i⟩=>⟨g,u,rfl,i⟩
 |halt y w'=>cases y<;>simp only[Oper.upon]at h⊢ <;>exact h
theorem Aew{z i o a w b v K} (hi:ops[i]?=Aa o) (j:Rq P ops o a w v) (g:Rel w b) (h:∀w',Rel b w'->K (a.put o.dst v) w'):Lo P ops z i K a b:=by
 unfold Lo;simp only[hi];rcases j with⟨c,f⟩|⟨c,rfl⟩
 ·simp only[c,if_true];exact J4 (λk w' ⟨d,e⟩=>⟨.inr d,v,e,e▸h w' d⟩) (f b g)
 ·simp only[c,I3,if_false];exact h b (Rel.refl b)
theorem Ag6{o a w w' x u v} (B:∀cs b,o.op≠ .select cs b) (t:∀d,x=Aa d->d∉o.looksAt ops) (q:∀d,x=Aa d->o.dst≠Aa d)
  (h:Adc P o a w v) (A:Rel w w'):Adc P o (a.put x u) w' v:=λs l=>by
 have i:=h s (A.trans l);unfold Oper.wp at*
 rw[execOp_put o B a x u t];generalize (execOp a.eval o).run P s=r at*
 have g:∀j,a.put o.dst j=a.put o.dst v->(a.put x u).put o.dst j=(a.put x u).put o.dst v:=λj k=>by rw[Act.put_comm a u j q,Act.put_comm a u v q,k]
 cases r with
 |ok m C=>
  cases m<;>simp only[Oper.upon]at i⊢
  case value j=>exact⟨i.1,g j i.2⟩
  case skip=>exact⟨i.1,g undef i.2⟩
  case defer dd=>
   have:=congrArg (λb:Act=>b.defers.length) i.2;have z:∀(b:Act) (y:Option Tmp) (u:Value),(b.put y u).defers=b.defers:=λb y u=>by cases y<;>rfl
   simp[z]at this
  case enter f args=>
   refine Calls.mono i λe p k=>?_;cases e with
   |returned j=>exact⟨k.1,g j k.2⟩
   |panicked c=>exact k
   |outgrown=>exact k
  case row row args=>exact Rows.mono i λj p k=>⟨k.1,g j k.2⟩
 |halt y C=>cases y<;>simp only[Oper.upon]at i⊢ <;>exact i
theorem Bey{o a w w' v} (b:Uo o=true) (h:Adc P o a w v):Adc P o a w' v:=λi _=>by
 have c:=h w (Rel.refl w);unfold Uo at b;split at b
 ·rename_i x hx;unfold Oper.wp at*
  have e:∀w,(execOp a.eval o).run P w=.ok (.value (a.eval x)) w:=λw=>by obtain⟨d,f,ty,pos,af,g⟩:=o;simp only at hx;subst hx;simp[execOp]
  rw[e]at c⊢;exact⟨Rel.refl _,c.2⟩
 ·cases b
theorem Cdr{i o v} (hi:ops[i]?=Aa o) (C:∀(j:Nat) (o:Oper) cs b,ops[j]?=Aa o->o.op≠ .select cs b):
  ∀k c a w,Down ops c->
   (∀j l,ops[j]?=Aa l->j≠i->c.getD j true=false->(∀e∈l.after,Region.binds .any e=true->e.on≠i)->o.apart ops l=true)->
   i∈Region.ready .any ops c->Rq P ops o a w v->
   Ve P ops QA k (c.setIfInBounds i true) (a.put o.dst v) w->Ve P ops QA (k+1) c a w:=by
 intro k;induction k with
 |zero=>
  intro c a w _ _ B O H;refine⟨λh=>(by rw[h]at B;cases B),λj S K g=>?_⟩;by_cases f:j=i
  ·subst f;exact Aew hi O g λw' I=>A1z H (g.trans I)
  ·have:=ready_mono S f;rw[H.1]at this;cases this
 |succ k ih=>
  intro c a w M p B O H;refine⟨λh=>(by rw[h]at B;cases B),λj S K g=>?_⟩;by_cases f:j=i
  ·subst f;exact Aew hi O g λw' I=>A1z H (g.trans I)
  ·have F:=H.2 j (ready_mono S f) K g;obtain⟨A,l,t,z⟩:=mem_ready.1 S
   have U:∀e∈l.after,Region.binds .any e=true->e.on≠i:=λe he hb a3=>by
    have g:=z e he hb;have h0:=(mem_ready.1 B).1;rw[a3]at g;rcases Tt i c.size with y|y
    ·simp[y]at h0 g;rw[h0]at g;cases g
    ·simp[Tp y]at g
   have a2:=p j l t f A U
   have a5:Kl ops (c.setIfInBounds i true) j=true->Uo o=true:=λhl=>by
    have h9:=(mem_ready.1 B).1;rcases Tt i c.size with y|y
    ·rcases A60 M hl t ((A5r.1 hi).1) (by simp[y]) z with L|L
     ·unfold mvB at L;simpa only[hi]using L
     ·simp[y]at L h9;rw[h9]at L;cases L
    ·simp[Tp y]at h9
   obtain⟨p1,p2,p3⟩:=Oper.apart_spec a2
   have s:∀m Y,ops[m]?=Aa Y->m≠i->(c.setIfInBounds j true).getD m true=false->
     (∀e∈Y.after,Region.binds .any e=true->e.on≠i)->o.apart ops Y=true:=λm Y hm a4 W a6=>by
    refine p m Y hm a4 ?_ a6;by_cases T:j=m
    ·subst T;exact A
    ·rw[getD_set_ne true T]at W;exact W
   have V:=λcs b=>C i o cs b hi;have a7:=λcs b=>C j l cs b t
   have X:∀u x,(Uo o=true\/Rel K x)->Rq P ops o (a.put l.dst u) x v:=λu x q=>by
    unfold Rq at*
    rw[wanted_put o a l.dst u p3];rcases O with⟨N,hq⟩|O
    ·rcases q with q|q
     ·exact .inl ⟨N,Bey q (Ag6 V p3 (λd M=>λG=>p2 d G M) hq (Rel.refl w))⟩
     ·exact .inl ⟨N,Ag6 V p3 (λd M=>λG=>p2 d G M) hq (g.trans q)⟩
    ·exact .inr O
   have D:∀u x,(Uo o=true\/Rel K x)->Ve P ops QA k ((c.setIfInBounds i true).setIfInBounds j true) ((a.put o.dst v).put l.dst u) x->Ve P ops QA (k+1) (c.setIfInBounds j true) (a.put l.dst u) x:=λu x q h4=>by refine ih (c.setIfInBounds j true) _ _ (M.set S) s (ready_mono B (Ne.symm f)) (X u x q) ?_;rw[A5s _ _ f,<-Act.put_comm a v u p2];exact h4
   unfold Lo at F⊢;simp only[t]at F⊢;rw[wanted_put l a o.dst v p1]at F;split
   ·rename_i N;simp only[N,if_true]at F;exact J4 (λa' w' ⟨q,u,h4,h5⟩=>⟨q.imp Atr id,u,h4,h4▸D u w' (q.imp a5 id) h5⟩) (A11 (R:=λw'=>Kl ops (c.setIfInBounds i true) j=true\/Rel K w') a7 p1 F)
   ·rename_i N;simp only[N]at F;exact D undef K (.inr (Rel.refl K)) F
def wpO (P:Program) (ops:Array Oper) (QA:Act->World->Prop):List (Oper×Nat)->Act->World->Prop
 |[],a,w=>∀b,Rel w b->QA a b
 |(o,0)::r,a,w=>∃v,Rq P ops o a w v/\wpO P ops QA r (a.put o.dst v) w
 |(o,f+1)::r,a,w=>(Region.wanted o (yielded ops a.tmps)=true/\∀b,Rel w b->o.wp P a b (λc w'=>(Ay f 1=true\/Rel b w')/\∃v,c=a.put o.dst v/\wpO P ops QA r c w') Uq)\/
   (Region.wanted o (yielded ops a.tmps)=false/\∀b,Rel w b->wpO P ops QA r (a.put o.dst undef) b)
def W5 (ops:Array Oper):List (Nat×Nat)->Array Bool->Bool
 |[],listed=>(Region.ready .any ops listed).isEmpty
 |(k,f)::r,listed=>(match f with
  |0=>(Region.ready .any ops listed).contains k&&Region.free .any ops listed k
  |f+1=>Region.ready .any ops listed==[k]&&(!Ay f 1||Kl ops listed k))&&W5 ops r (listed.setIfInBounds k true)
theorem Ap7 (t:Region.noSelect ops=true):∀e l b a w,Down ops b->
  e.map (λk=>(ops[k.1]?.map λo=>(o,k.2)))=l.map Aa->W5 ops e b=true->wpO P ops QA l a w->Ve P ops QA e.length b a w
 |[],[],_,_,_,_,_,hB,h=>⟨by simpa [W5]using hB,h⟩
 |[],_::_,_,_,_,_,d,_,_=>by simp at d
 |_::_,[],_,_,_,_,d,_,_=>by simp at d
 |(k,f)::e,(o,f')::l,b,a,w,hd,d,hB,h=>by
  simp only[Fa,List.cons.injEq]at d;obtain⟨q,d⟩:=d
  have ho:ops[k]?=Aa o/\f=f':=by
   cases A:ops[k]? with
   |none=>simp[A]at q
   |some G=>simp[A]at q;exact⟨by rw[q.1],q.2⟩
  obtain⟨ho,rfl⟩:=ho;simp only[W5,A9]at hB;obtain⟨c,g⟩:=hB;cases f with
  |zero=>
   simp only[A9]at c;obtain⟨v,F,m⟩:=h;have p:k∈Region.ready .any ops b:=by simpa using c.1
   exact Cdr ho (Region.noSelect_spec t) e.length b a w hd (Region.free_spec ho c.2) p F (Ap7 t e l _ _ _ (hd.set p) d g m)
  |succ f=>
   simp only[A9]at c;have s:Region.ready .any ops b=[k]:=by simpa using c.1
   refine⟨(λy=>by rw[s]at y;cases y),λi hi B z=>?_⟩;rw[s]at hi;have u:i=k:=by simpa using hi
   subst u;unfold Lo;rcases h with⟨x,m⟩|⟨x,m⟩
   rotate_left
   ·simp only[ho,x,I3,if_false];exact Ap7 t e l _ _ _ (hd.set (by rw[s];simp)) d g (m B z)
   simp only[ho,x,if_true];refine J4 (λ_ _ ⟨j,v,C,D⟩=>⟨?_,v,C,Ap7 t e l _ _ _ (hd.set (by rw[s];simp)) d g D⟩) (m B z);rcases j with j|j
   ·left;have:=c.2;rw[j]at this;simpa using this
   ·exact .inr j
end
section
variable {P:Program} {n:Nat} {ops:Array Oper} {Q:Post} {env:Env} {w:World} {r:List (Oper×Nat)} {ty:TypeId} {pos:String} {af:Array Edge}
def WO (P:Program) (n:Nat) (ops:Array Oper) (Q:Post) (l:List (Oper×Nat)) (env:Env) (w:World):Prop:=
 ∀a,Has n a env->wpO P ops (λa w=>Sh n Q .normal a w) l a w
def Pu (l:List Oper):List (Nat×Nat)->List (Oper×Nat)
 |[]=>[]
 |k::ks=>match l[k.1]? with
  |some o=>(o,k.2)::Pu l ks
  |none=>Pu l ks
theorem Bdx l:∀a,(a.all λk=>C1 k.1 l.length)=true->a.map (λk=>(l.toArray[k.1]?.map λo=>(o,k.2)))=(Pu l a).map Aa
 |[],_=>rfl
 |k::a,h=>by
  simp only[K5,A9]at h;have b:k.1<l.length:=by simpa using h.1
  simp only[Fa,Pu,Ata,O9 b,Pc];rw[<-Bdx l a h.2];simp
theorem Xt{id l} b (j:P.follows .mixedOrders=true) (m:Region.noSelect l.toArray=true) (i:Ay b.length l.length=true)
  (e:W5 l.toArray b (Kh l.length false)=true) (g:(b.all λk=>C1 k.1 l.length)=true) (h:WO P n l.toArray Q (Pu l b) env w):WC P n (.region id l.toArray true) Q env w:=λa f=>by
 refine wp_region_any j (A1x (QA:=λa w=>Sh n Q .normal a w) (λ_ _ h=>h) _ _ _ _ ?_);have c:b.length=l.length:=Br i;have d:=Ap7 m b (Pu l b) (Kh l.length false) a w (Down.init _) (Bdx l b g) e (h a f);rw[c]at d;simpa using A1z d (Rel.drew (Rel.refl w))
theorem Bdc (h:∀a,Rel w a->Q .normal env a):WO P n ops Q [] env w:=λ_ c a b=>⟨env,c,h a b⟩
theorem ov{d op v} (f:C1 d n=true) (g:∀b,Rel w b->Runs P n env b ⟨Aa d,op,ty,pos,af,Ab⟩ v b)
  (h:WO P n ops Q r ((d,v)::env) w):WO P n ops Q ((⟨Aa d,op,ty,pos,af,Ab⟩,0)::r) env w:=λa c=>
 ⟨v,.inl ⟨rfl,λb e=>by unfold Oper.wp;rw[g b e a c];exact⟨Rel.refl b,rfl⟩⟩,h _ (c.put f v)⟩
theorem call_wp {d:Nat}{f args ats vs K gu a} (i:Has n a env) (p:Hw env args=Aa vs) (k:Ret P f vs w K){N} (h:∀v w',K v w'->N (a.put (Aa d) v) w'):Oper.wp P ⟨Aa d,.call {callee:=.value (.func f),args:=args.toArray,argTypes:=ats},ty,pos,af,gu⟩ a w N Uq:=by
 obtain⟨⟨q,m,c,j⟩,b⟩:=k;have g:(execOp a.eval ⟨Aa d,.call {callee:=.value (.func f),args:=args.toArray,argTypes:=ats},ty,pos,af,gu⟩).run P w=.ok (.enter f vs.toArray) w:=by simp only[execOp,resolve,Act.eval,Deferred.ofValue,invoke,callFunc,Sem.run_bind,Sem.run_pure,Result.andThen_ok,run_program,m,c,j,Ate,i.Hw _ _ p];simp
 unfold Oper.wp;rw[g];exact b.mono λe w' ⟨v,l,o⟩=>by subst l;exact h v w' o
def Ex (P:Program) (n:Nat) (env:Env) (w:World) (o:Oper) (K:Value->World->Prop):Prop:=∃v w',Runs P n env w o v w'/\K v w'
def ExU (P:Program) (n:Nat) (env:Env) (w:World) (o:Oper) (K:World->Prop):Prop:=∃w',RunsU P n env w o w'/\K w'
theorem P8{d op l} (a:C1 d n=true) (h:Ex P n env w ⟨Aa d,op,ty,pos,af,Ab⟩ λv w'=>WL P n ops l Q ((d,v)::env) w'):WL P n ops (⟨Aa d,op,ty,pos,af,Ab⟩::l) Q env w:=by obtain⟨v,w',c,b⟩:=h;exact wv a c b
theorem Zo{d op} (f:C1 d n=true) (h:∀b,Rel w b->Ex P n env b ⟨Aa d,op,ty,pos,af,Ab⟩ λv w'=>WO P n ops Q r ((d,v)::env) w'):WO P n ops Q ((⟨Aa d,op,ty,pos,af,Ab⟩,2)::r) env w:=λa c=>
 .inl ⟨rfl,λb e=>by
  obtain⟨v,w',i,g⟩:=h b e;unfold Oper.wp;rw[i a c];exact⟨.inl rfl,v,rfl,g _ (c.put f v)⟩⟩
end
end
section
open Go.RowKit
section
variable {P:Program} {n:Nat} {ops:Array Oper} {l rest:List Oper} {Q:Post} {env:Env} {w w':World} {r:List (Oper×Nat)} {ty:TypeId} {pos:String} {af:Array Edge}
theorem Runs.lose{o v env0} (h:Runs P n env w o v w') (c:Cov env0 env):Runs P n env0 w o v w':=λa b=>h a (b.lose c.sub)
def Wp (b:Bool):Value->Bool
 |.bool c=>c==b
 |_=>false
theorem Cdi{o a} (d:Has n a env){j b c} (f:gd ops env j=Aa (.bool c)) (e:c=b) (ho:o.guard=Aa (j,b)):Region.wanted o (yielded ops a.tmps)=true:=by simp[Region.wanted,ho,Bqp d f,e]
theorem A1p{o a} (h:Has n a env){j b u} (c:gd ops env j=Aa u) (i:Wp b u=false) (ho:o.guard=Aa (j,b)):Region.wanted o (yielded ops a.tmps)=false:=by
 have g:yielded ops a.tmps j≠Aa b:=by
  unfold gd at c;unfold yielded;cases f:ops[j]? with
  |none=>simp[f]at c
  |some p=>
   simp only[f,Ad]at c⊢;cases e:p.dst with
   |none=>simp[e]at c
   |some d=>simp only[e,Ad]at c⊢;rw[h.at' d _ c];cases u<;>first|(simp;done)|(simpa [Wp]using i)
 simpa [Region.wanted,ho]using g
theorem gv{d op j b c v} (f:gd ops env j=Aa (.bool c)) (a:c=b) (e:C1 d n=true)
  (g:Runs P n env w ⟨Aa d,op,ty,pos,af,Aa (j,b)⟩ v w')
  (h:WL P n ops rest Q ((d,v)::env) w'):WL P n ops (⟨Aa d,op,ty,pos,af,Aa (j,b)⟩::rest) Q env w:=wvg (by rw[f,a]) e g h
theorem gs{d op j b u} (g:gd ops env j=Aa u) (e:Wp b u=false) (f:C1 d n=true)
  (h:WL P n ops rest Q ((d,undef)::env) w):WL P n ops (⟨Aa d,op,ty,pos,af,Aa (j,b)⟩::rest) Q env w:=λa c=>by
 unfold wpList;rw[if_neg (by rw[A1p c g e rfl];exact Bool.false_ne_true)];exact h _ (c.put f undef)
end
end
section
open Go.RowKit
section
variable {P:Program} {n:Nat} {Q:Post} {env:Env} {w:World} {c:Code} {i id:Nat}
theorem Ky (h:WC P n c Q env w):sq P n c Q .normal env w:=h
theorem S0 (h:Q .ret env w):sq P n c Q .ret env w:=h
end
end
section
open Go.RowKit
def iw (x:Int):Int:=IntKind.i64.wrap x
def Qn (x y:Int):Int:=IntKind.i64.wrap ((BitVec.ofInt 64 x&&&BitVec.ofInt 64 y).toNat:Int)
def Jv (x y:Int):Int:=IntKind.i64.wrap ((BitVec.ofInt 64 x^^^BitVec.ofInt 64 y).toNat:Int)
def Yj (x y:Int):Int:=x.fdiv (2^(min y.toNat 64))
theorem Atz x y (h:0<=y/\y<=9223372036854775807):0<=Qn x y/\Qn x y<=y:=by
 have b:(BitVec.ofInt 64 x&&&BitVec.ofInt 64 y).toNat<=y.toNat:=by rw[BitVec.toNat_and];refine V6 Nat.and_le_right ?_;rw[BitVec.toNat_ofInt];omega
 have a:IntKind.i64.wrap ((BitVec.ofInt 64 x&&&BitVec.ofInt 64 y).toNat:Int)=((BitVec.ofInt 64 x&&&BitVec.ofInt 64 y).toNat:Int):=i64_in (by omega);unfold Qn;rw[a];omega
section
variable {P:Program} {n:Nat} {env:Env} {w:World} {d:Option Tmp} {ty:TypeId} {pos:String} {af:Array Edge} {g:Option (Nat×Bool)}
theorem B4a{x y t u i j} (hx:ev env x=Aa (.int .i64 i)) (c:ev env y=Aa (.int .i64 j)):
  Runs P n env w ⟨d,.binOp .add t x y u,ty,pos,af,g⟩ (.int .i64 (iw (i+j))) w:=λa b=>by
 simp[execOp,b.ev hx,b.ev c,eqGuard,binOp,Op.intArith,iw]
theorem B41{x y t u i j} (hx:ev env x=Aa (.int .i64 i)) (c:ev env y=Aa (.int .i64 j)):
  Runs P n env w ⟨d,.binOp .mul t x y u,ty,pos,af,g⟩ (.int .i64 (iw (i*j))) w:=λa b=>by
 simp[execOp,b.ev hx,b.ev c,eqGuard,binOp,Op.intArith,iw]
theorem B4b{x y t u i j} (hx:ev env x=Aa (.int .i64 i)) (c:ev env y=Aa (.int .i64 j)):
  Runs P n env w ⟨d,.binOp .and t x y u,ty,pos,af,g⟩ (.int .i64 (Qn i j)) w:=λa b=>by
 simp[execOp,b.ev hx,b.ev c,eqGuard,binOp,Op.intBits,Qn,IntKind.bits,-BitVec.toNat_and,-BitVec.toNat_ofInt];rfl
theorem B5m{x y t u i j} (hx:ev env x=Aa (.int .i64 i)) (c:ev env y=Aa (.int .i64 j)):
  Runs P n env w ⟨d,.binOp .xor t x y u,ty,pos,af,g⟩ (.int .i64 (Jv i j)) w:=λa b=>by
 simp[execOp,b.ev hx,b.ev c,eqGuard,binOp,Op.intBits,Jv,IntKind.bits,-BitVec.toNat_xor,-BitVec.toNat_ofInt];rfl
theorem B5a{x y t u k i j} (hx:ev env x=Aa (.int .i64 i)) (c:ev env y=Aa (.int k j)) (e:0<=j):
  Runs P n env w ⟨d,.binOp .shr t x y u,ty,pos,af,g⟩ (.int .i64 (Yj i j)) w:=λa b=>by
 simp[execOp,b.ev hx,b.ev c,eqGuard,binOp,Op.shift,Yj,IntKind.bits,show¬j<0 by omega]
theorem B49{x y t u i j} (hx:ev env x=Aa (.int .i64 i)) (c:ev env y=Aa (.int .i64 j)) (h:0<=i/\0<j):
  Runs P n env w ⟨d,.binOp .rem t x y u,ty,pos,af,g⟩ (.int .i64 (i % j)) w:=λa b=>by
 simp[execOp,b.ev hx,b.ev c,eqGuard,binOp,Op.intDiv,show¬j=0 by omega,Int.tmod_eq_emod_of_nonneg h.1]
theorem B48{x y t u i j} (hx:ev env x=Aa (.int .i64 i)) (c:ev env y=Aa (.int .i64 j)) (h:0<=i/\i<=9223372036854775807/\0<j):
  Runs P n env w ⟨d,.binOp .quo t x y u,ty,pos,af,g⟩ (.int .i64 (i/j)) w:=λa b=>by
 have e:0<=i/j:=Int.ediv_nonneg h.1 (by omega);have f:i/j<=i:=Int.ediv_le_self _ h.1;simp[execOp,b.ev hx,b.ev c,eqGuard,binOp,Op.intDiv,show¬j=0 by omega,Int.tdiv_eq_ediv_of_nonneg h.1,i64_in (x:=i/j) (by omega)]
theorem B4f{x s t k k' td i} (c:P.underlying s=Aa td) (e:P.underlying t=Aa (.int k)) (hx:ev env x=Aa (.int k' i)) (h:k.wrap i=i):
  Runs P n env w ⟨d,.convert s t x,ty,pos,af,g⟩ (.int k i) w:=λa b=>by
 simp[execOp,b.ev hx,convert,run_underlying c,run_underlying e,Conv.intToInt,h]
end
section
variable {P:Program} {n:Nat} {env:Env} {w:World} {ty:TypeId} {pos:String} {af:Array Edge} {ops:Array Oper} {rest:List Oper} {Q:Post}
end
structure Sv where
 p:Option Addr
 n:Nat
 c:Nat
def Sv.v (s:Sv):Value:=.slice s.p s.n s.c
end
section
open Go.RowKit
def el {T:Type} [Inhabited T] (L:List T) (i:Nat):T:=L.getD i default
theorem F9{T} [Inhabited T] {L:List T}{i} h:el L i=L[i]:=by unfold el;rw[Ni,O9 h];rfl
theorem A99{T} [Inhabited T] x (L:List T) i:el (x::L) (i+1)=el L i:=rfl
theorem Mw {T A:Type}{k} {f:T->List A} (a:∀x,(f x).length=k):∀L:List T,(L.flatMap f).length=L.length*k
 |[]=>by simp
 |x::L=>by rw[F4,Bt,a,Mw a L,B5,Gk];omega
theorem Amd {T A:Type} [Inhabited T]{k} {f:T->List A} (a:∀x,(f x).length=k):∀L i j,i<L.length->j<k->(L.flatMap f)[i*k+j]?=(f (el L i))[j]?
 |[],i,j,hi,_=>by simp at hi
 |x::L,0,j,_,hj=>by rw[F4,K9,L3,Nj (by rw[a];exact hj)];rfl
 |x::L,i+1,j,hi,hj=>by rw[F4,Tr (by rw[a,Gk];omega),a];rw[show(i+1)*k+j-k=i*k+j by rw[Gk];omega];rw[Amd a L i j (by simpa using hi) hj];rfl
theorem Ame {T A:Type} [Inhabited T]{k f} (a:∀x,(f x).length=k):∀(L:List T) (i j:Nat) (u:A) (y:T),i<L.length->j<k->f y=(f (el L i)).set j u->(L.set i y).flatMap f=(L.flatMap f).set (i*k+j) u
 |[],i,j,_,_,hi,_,_=>by simp at hi
 |x::L,0,j,u,y,_,hj,hx=>by have b:f y=(f x).set j u:=hx;rw[F4,K9,L3,List.set_append_left _ _ (by rw[a];exact hj),V5,F4,b]
 |x::L,i+1,j,u,y,hi,hj,hx=>by rw[F4,Abn _ _ (by rw[a,Gk];omega),a,Ae5,F4];rw[show(i+1)*k+j-k=i*k+j by rw[Gk];omega];rw[Ame a L i j u y (by simpa using hi) hj hx]
def Et:Value->Nat->Addr
 |.slice (Aa a) _ _,j=>⟨a.block,a.off+j,Ab⟩
 |_,_=>⟨0,0,Ab⟩
def al (w:World):Bs:=λb=>b.1<w.heap.size
section
variable {w0:Dn} {w w':World} {m l l':List As} {rs:List Rd} {c:Ce} {v:Value} {S:Bs}
theorem St.seeR (h:St w0 m rs w) (i:rV v c∈rs):c.rd (al w) w v:=by obtain⟨_,_,F,_,_,a⟩:=h;exact c.mono (λb e=>e.2.1) (Lc.refl _ _) (a _ i)
theorem Sep.mem{F a}:∀ {m:List As},Sep m F w->a∈m->∃F',(∀b,F' b->F b)/\a.ok F' w
 |c::m,⟨_,F1,F2,h1,h2,_,h4,h5⟩,e=>by
  rcases Bq.1 e with rfl|e
  ·exact⟨F1,h4,h1⟩
  ·obtain⟨F',h,i⟩:=h2.mem e;exact⟨F',λb j=>h5 b (h b j),i⟩
theorem St.at' (h:St w0 m rs w){a} (i:a∈m):∃F,a.ok F w:=by obtain⟨_,_,F,e,_,_⟩:=h;obtain⟨F',_,b⟩:=e.mem i;exact⟨F',b⟩
theorem St.seeO (h:St w0 m rs w) (i:oC c v∈m):c.rd (al w) w v:=by obtain⟨F,a⟩:=h.at' i;exact c.mono (λb e=>c.lt a e) (Lc.refl _ _) (c.seen a)
theorem St.seeOV (h:St w0 m rs w){l} (i:oV (oC c v) l∈m):c.rd (al w) w v:=by obtain⟨F,a,_⟩:=h.at' i;exact c.mono (λb e=>c.lt a e) (Lc.refl _ _) (c.seen a)
theorem St.seeV (h:St w0 m rs w){o l} (j:oV o l∈m) (p:vR v c∈l):c.rd (al w) w v:=by obtain⟨F,e,a⟩:=h.at' j;exact c.mono (λb i=>o.lt e i) (Lc.refl _ _) (a _ p)
variable {T:Type} {k:Nat} {f:T->List Ce} {L:List T}
theorem Cs.form (h:(Ar k f L).rd S w v):∃s:Sv,v=s.v/\s.n=L.length/\L.length<=s.c/\s.c<=maxLen:=by obtain⟨a,cap,rfl,b,e,_⟩:=h;exact⟨⟨a,_,cap⟩,rfl,rfl,b,e⟩
theorem Cs.sv (h:(Ar k f L).rd S w v):∃s:Sv,v=s.v:=by obtain⟨s,h,_⟩:=Cs.form h;exact⟨s,h⟩
theorem Cs.le (h:(Ar k f L).rd S w v):(L.length:Int)<=9223372036854775807:=by obtain⟨s,_,b,e,a⟩:=Cs.form h;simp only[maxLen]at a;omega
theorem Cs.ptr (h:(Ar k f L).rd S w v){i} (hi:i<L.length):∃b off j cap,v=.slice (Aa ⟨b,off,Ab⟩) j cap:=by obtain⟨a,cap,rfl,p,q,o⟩:=h;obtain⟨b,off,xs,rfl,_⟩:=o (by intro e;subst e;simp at hi);exact⟨b,off,_,_,rfl⟩
theorem Cs.at' [Inhabited T] (h:(Ar k f L).rd S w v) (r:∀x,(f x).length=k){i j} (hi:i<L.length) (q:(f (el L i))[j]?=Aa c):∃u,w.cell? (Et v (i*k+j))=Aa u/\c.rd S w u/\S ((Et v (i*k+j)).block,(Et v (i*k+j)).off)/\(Et v (i*k+j)).spot=Ab:=by
 obtain⟨a,cap,rfl,B,C,s⟩:=h;obtain⟨b,off,xs,rfl,y,D,hx,A⟩:=s (by intro e;subst e;simp at hi);have z:j<k:=by have:=(H3.1 q).1;rwa [r]at this
 have t:(L.flatMap f)[i*k+j]?=Aa c:=by rw[Amd r L i j hi z];exact q
 obtain⟨u,hu,o⟩:=Aoo A t;have p:i*k+j<L.length*k:=by have:=E4 k (Nat.succ_le_of_lt hi);rw[Nat.succ_mul]at this;omega
 exact⟨u,by simpa [Et]using hx _ u hu,o,y _ p,rfl⟩
theorem Cs.get [Inhabited T] (h:(Ar k f L).rd S w v) (o:∀x,(f x).length=k){i j u hu} (hi:i<L.length) (e:(f (el L i))[j]?=Aa (cV u hu)):w.cell? (Et v (i*k+j))=Aa u:=by obtain⟨p,a,b,_⟩:=Cs.at' h o hi e;have:p=u:=b;rw[<-this];exact a
theorem rVg{c v S w} (h:(rV v c).ok S w):c.rd S w v:=h
theorem vRg{c v S w} (h:(vR v c).ok S w):c.rd S w v:=h
theorem St.leaf [Inhabited T]{T' k' f'} {L':List T'} (h:St w0 m rs w) (z:rV v (Ar k f L)∈rs) (y:∀x,(f x).length=k){i j} (hi:i<L.length) (t:(f (el L i))[j]?=Aa (Ar k' f' L')):
  ∃s:Sv,St w0 m (rV s.v (Ar k' f' L')::rs) w/\∀w1,Rel w w1->w1.cell? (Et v (i*k+j))=Aa s.v:=by
 obtain⟨e,q,F,o,p,b⟩:=h;obtain⟨u,g1,g2,g3⟩:=Cs.at' (rVg (b _ z)) y hi t;obtain⟨s,rfl⟩:=Cs.sv g2;refine⟨s,⟨e,q,F,o,p,λr a=>?_⟩,λw1 A=>(A.cell g3.1.2.1).trans g1⟩;rcases Bq.1 a with rfl|a
 ·exact g2
 ·exact b r a
theorem St.leafV [Inhabited T]{T' k' f'} {L':List T'}{vl} (h:St w0 (oV (oC (Ar k f L) v) vl::m) rs w) (B:∀x,(f x).length=k){i j} (hi:i<L.length) (A:(f (el L i))[j]?=Aa (Ar k' f' L')):
  ∃s:Sv,St w0 (oV (oC (Ar k f L) v) (vR s.v (Ar k' f' L')::vC (Et v (i*k+j)) s.v::vl)::m) rs w/\∀w1,Rel w w1->w1.cell? (Et v (i*k+j))=Aa s.v:=by
 obtain⟨q,z,F,⟨e,F1,p,⟨g1,gv⟩,g2,g3,g4,g5⟩,t,y⟩:=h;obtain⟨u,o,k2,b⟩:=Cs.at' ((Ar k f L).seen g1) B hi A;obtain⟨s,rfl⟩:=Cs.sv k2;refine⟨s,⟨q,z,F,⟨e,F1,p,⟨g1,λr a=>?_⟩,g2,g3,g4,g5⟩,t,y⟩,λw1 C=>(C.cell (e _ (g4 _ b.1))).trans o⟩;rcases Bq.1 a with rfl|a
 ·exact k2
 rcases Bq.1 a with rfl|a
 ·exact⟨b.1,b.2,o⟩
 ·exact gv r a
theorem St.unview{o vl} (h:St w0 (oV o vl::m) rs w):St w0 (o::m) rs w:=
 St.iso (l:=[oV o vl]) (l':=[o]) h λ_ ⟨b,F1,a,⟨e,_⟩,h⟩=>⟨b,F1,a,e,h⟩
theorem St.leafW [Inhabited T]{T' k' f'} {L':List T'}{o vl} (h:St w0 (oV o vl::m) rs w) (B:vR v (Ar k f L)∈vl) (A:∀x,(f x).length=k){i j} (hi:i<L.length) (z:(f (el L i))[j]?=Aa (Ar k' f' L')):
  ∃s:Sv,St w0 (oV o (vR s.v (Ar k' f' L')::vl)::m) rs w/\∀w1,Rel w w1->w1.cell? (Et v (i*k+j))=Aa s.v:=by
 obtain⟨p,y,F,⟨b,F1,e,⟨g1,gv⟩,g2,g3,g4,g5⟩,q,t⟩:=h;obtain⟨u,D,k2,G⟩:=Cs.at' (vRg (gv _ B)) A hi z;obtain⟨s,rfl⟩:=Cs.sv k2;refine⟨s,⟨p,y,F,⟨b,F1,e,⟨g1,λr a=>?_⟩,g2,g3,g4,g5⟩,q,t⟩,λw1 C=>(C.cell (b _ (g4 _ G.1))).trans D⟩;rcases Bq.1 a with rfl|a
 ·exact k2
 ·exact gv r a
def Sv.cut (s:Sv) (k a hi:Nat):Sv:=⟨if s.c-a=0 then s.p else s.p.map (·.add (a*k)),hi-a,s.c-a⟩
theorem Acg {A:Type} {f:T->List A} (a:∀x,(f x).length=k):∀(L:List T) (i:Nat),(L.take i).flatMap f=(L.flatMap f).take (i*k)
 |[],i=>by simp
 |x::L,0=>by simp
 |x::L,i+1=>by rw[A6n,F4,Acg a L i,F4,Aks,a,Rv (l:=f x) (by rw[a,Gk];omega)];congr 2;rw[Gk];omega
theorem Amc {A:Type} {f:T->List A} (a:∀x,(f x).length=k):∀(L:List T) (i:Nat),(L.drop i).flatMap f=(L.flatMap f).drop (i*k)
 |[],i=>by simp
 |x::L,0=>by simp
 |x::L,i+1=>by rw[Abg,Amc a L i,F4,List.drop_append,a, @As8 _ (f x) _ (by rw[a,Gk];omega),Iu];congr 1;rw[Gk];omega
theorem Be6{S}:∀(n:Nat) {cs:List Ce} {vs:List Value},Eg S w cs vs->Eg S w (cs.drop n) (vs.drop n)
 |0,_,_,h=>by simpa using h
 |n+1,[],_,h=>by have:_=[]:=h;subst this;simp[Eg]
 |n+1,c::cs,_,⟨v,r,e,_,h2⟩=>by subst e;simpa using Be6 n h2
theorem Be7{S}:∀(n:Nat) {cs:List Ce} {vs:List Value},Eg S w cs vs->Eg S w (cs.take n) (vs.take n)
 |0,_,_,h=>by simp[Eg]
 |n+1,[],_,h=>by have:_=[]:=h;subst this;simp[Eg]
 |n+1,c::cs,_,⟨v,r,e,h1,h2⟩=>by subst e;exact⟨v,r.take n,rfl,h1,Be7 n h2⟩
theorem Cs.cut (y:∀x,(f x).length=k) {s:Sv}{lo hi} (K:lo<=hi) (r:hi<=L.length) (h:(Ar k f L).rd S w s.v):(Ar k f ((L.take hi).drop lo)).rd S w (s.cut k lo hi).v:=by
 obtain⟨a,cap,e,C,D,A⟩:=h;obtain⟨rfl,e2,rfl⟩:s.p=a/\s.n=L.length/\s.c=cap:=by simpa [Sv.v]using e
 have i:((L.take hi).drop lo).length=hi-lo:=by simp;omega
 refine⟨_,s.c-lo,by rw[i];rfl,by omega,by omega,λt=>?_⟩;have H:lo<hi:=by have:((L.take hi).drop lo).length≠0:=λe=>t (I4 e);omega
 obtain⟨b,off,xs,z,B,G,o,I⟩:=A (by intro e;subst e;simp at r;omega);have F:=E4 k r;refine⟨b,off+lo*k,(xs.take (hi*k)).drop (lo*k),?_,λj q=>?_,?_,λj u q=>?_,?_⟩
 ·simp only[Sv.cut];rw[if_neg (by omega),z];simp[Addr.add_lit]
 ·rw[i,I5]at q;rw[Er];exact B _ (by omega)
 ·rw[D0,Dh,G,i,I5];have:=E4 k r;omega
 ·rw[K6,Nk]at q;split at q
  ·rw[Er];exact o _ _ q
  ·cases q
 ·rw[Amc y,Acg y];exact Be6 _ (Be7 _ I)
theorem St.cutV (p:∀x,(f x).length=k) {s:Sv}{lo hi o vl} (i:lo<=hi) (j:hi<=L.length) (h:St w0 (oV o vl::m) rs w) (q:vR s.v (Ar k f L)∈vl):St w0 (oV o (vR (s.cut k lo hi).v (Ar k f ((L.take hi).drop lo))::vl)::m) rs w:=by
 refine St.iso (l:=[oV o vl]) (l':=[oV o (vR (s.cut k lo hi).v (Ar k f ((L.take hi).drop lo))::vl)]) h λF ⟨e,F1,b,⟨g1,gv⟩,g⟩=>⟨e,F1,b,⟨g1,λr a=>?_⟩,g⟩;rcases Bq.1 a with rfl|a
 ·exact Cs.cut p i j (vRg (gv _ q))
 ·exact gv r a
theorem Akh:∀n cs vs,Bc (cs.take n) (vs.take n)=(Bc cs vs).take n
 |0,_,_=>by simp[Bc]
 |n+1,[],_=>by simp[Bc]
 |n+1,_::_,[]=>by simp[Bc]
 |n+1,c::cs,v::vs=>by simp[Bc,Akh n cs vs]
theorem Asr:∀n cs vs,Bc (cs.drop n) (vs.drop n)=(Bc cs vs).drop n
 |0,_,_=>by simp
 |n+1,[],_=>by simp[Bc]
 |n+1,_::_,[]=>by simp[Bc]
 |n+1,c::cs,v::vs=>by simpa [Bc]using Asr n cs vs
theorem Sep.take{F m} n (h:Sep m F w):Sep (m.take n) F w:=by rw[<-Kk n m]at h;obtain⟨F1,e,a,_,_,b,_⟩:=h.split;exact a.up b (by rw[Kk]at h;exact h.lt)
theorem Sep.drop{F m} n (h:Sep m F w):Sep (m.drop n) F w:=by rw[<-Kk n m]at h;obtain⟨F1,e,_,a,_,_,b⟩:=h.split;exact a.up b (by rw[Kk]at h;exact h.lt)
theorem Own.cut' (r:∀x,(f x).length=k) {s:Sv}{lo hi} (K:lo<=hi) (M:hi<=L.length){F xs} (hx:(L.flatMap f).length=xs.length) (h:Sep (Cx k s.v L.length xs::((Bc (L.flatMap f) xs).take (hi*k)).drop (lo*k)) F w):(Ar k f ((L.take hi).drop lo)).ow F w (s.cut k lo hi).v:=by
 obtain⟨I,F1,C,⟨g0,G,H⟩,g2,g3,g4,g5⟩:=h;have a:((L.take hi).drop lo).length=hi-lo:=by simp;omega
 have R:=E4 k K;have t:=E4 k M;have i:((xs.take (hi*k)).drop (lo*k)).length=(hi-lo)*k:=by rw[D0,Dh,G,I5];omega
 refine⟨(xs.take (hi*k)).drop (lo*k),by rw[Mw r,a,i],I,F1,C,⟨g0,by rw[a,i],?_⟩,?_,g3,g4,g5⟩
 ·rcases H with⟨e,W⟩|⟨b,off,cap,cur,z,A,e,N,B,U,Q,V,y⟩
  ·left;obtain⟨o,e2,D⟩:s.p=Ab/\s.n=0/\s.c=0:=by simpa [Sv.v]using e
   have:hi=0:=by omega
   have:lo=0:=by omega
   subst_vars
   refine⟨?_,by omega⟩;simp[Sv.cut,Sv.v,o,D]
  ·right;obtain⟨o,e2,rfl⟩:s.p=Aa ⟨b,off,Ab⟩/\s.n=L.length/\s.c=cap:=by simpa [Sv.v]using e
   by_cases q:s.c-lo=0
   ·refine⟨b,off,s.c-lo,cur,z,A,?_,λj u=>by rw[q,K9]at u;omega,B,by omega,by omega,?_,?_⟩
    ·simp only[Sv.cut,Sv.v,if_pos q,o,a]
    ·rw[q,K9];omega
    ·rw[a,show hi-lo=0 by omega,K9,A6o];symm;apply I4;rw[i,show hi-lo=0 by omega,K9]
   ·have O:=E4 k (show lo<=s.c by omega)
    refine⟨b,off+lo*k,s.c-lo,cur,z,A,?_,λj u=>by
     rw[I5]at u;rw[Er];exact N _ (by omega),B,by omega,by omega,?_,?_⟩
    ·simp only[Sv.cut,Sv.v,if_neg q,o,a];simp[Addr.add_lit]
    ·rw[I5];have:=E4 k (show lo<=s.c by omega);omega
    ·rw[a,<-y,Ae8,Pb t,Yd,Mq,<-I5]
 ·rw[Amc r,Acg r,Asr,Akh];exact g2
theorem Own.cut (j:∀x,(f x).length=k) {s:Sv}{lo hi} (e:lo<=hi) (i:hi<=L.length){F} (h:(Ar k f L).ow F w s.v):(Ar k f ((L.take hi).drop lo)).ow F w (s.cut k lo hi).v:=by obtain⟨xs,hx,b,F1,a,g1,g2,g3,g4,g5⟩:=h;exact Own.cut' j e i hx ⟨b,F1,a,g1,(g2.take _).drop _,g3,g4,g5⟩
theorem St.cutO (o:∀x,(f x).length=k) {s:Sv}{lo hi} (e:lo<=hi) (i:hi<=L.length) (h:St w0 (oC (Ar k f L) s.v::m) rs w):St w0 (oC (Ar k f ((L.take hi).drop lo)) (s.cut k lo hi).v::m) rs w:=
 St.iso (l:=[oC (Ar k f L) s.v]) (l':=[oC (Ar k f ((L.take hi).drop lo)) (s.cut k lo hi).v]) h λ_ ⟨b,F1,a,j,h⟩=>⟨b,F1,a,Own.cut o e i j,h⟩
end
section
variable {P:Program} {n:Nat} {env:Env} {w:World} {d:Option Tmp} {ty:TypeId} {pos:String} {af:Array Edge} {g:Option (Nat×Bool)}
variable {T:Type} {k:Nat} {f:T->List Ce} {L:List T} {S:Bs} {w1:World} {v:Value}
theorem B4t{x t e} (b:P.underlying t=Aa (.slice e)) (hx:ev env x=Aa v) (h:(Ar k f L).rd S w1 v):
  Runs P n env w ⟨d,.call {callee:=.builtin .len,args:= #[x],argTypes:= #[t]},ty,pos,af,g⟩ (.int .i64 (L.length:Int)) w:=by
 obtain⟨a,cap,rfl,_⟩:=h;exact Q2 b hx
theorem B4q{x y t e bytes z i} (u:P.underlying t=Aa (.slice e)) (s:Sz P e k bytes z)
  (hx:ev env x=Aa v) (A:ev env y=Aa (.int .i64 i)) (h:(Ar k f L).rd S w1 v) (r:0<=i/\i<(L.length:Int)):
  Runs P n env w ⟨d,.indexAddr t x y,ty,pos,af,g⟩ (.pointer (Aa (Et v (i.toNat*k)))) w:=λa p=>by
 obtain⟨b,off,j,cap,rfl⟩:=Cs.ptr h (i:=i.toNat) (by omega);obtain⟨B,o,q,_⟩:=h;obtain⟨_,rfl,_⟩:_/\j=L.length/\_:=by simpa using q
 simp[execOp,p.ev hx,p.ev A,Instr.indexAt,run_underlying u,asIntOf,r,s.run,Et,Addr.add_lit]
theorem Sv.cut_eq (s:Sv) k lo hi:(s.cut k lo hi).v=.slice (if s.c-lo=0 then s.p else s.p.map (·.add (lo*k))) (hi-lo) (s.c-lo):=rfl
theorem B5e{x lo hi t e bytes z} {s:Sv}{i j} (D:P.underlying t=Aa (.slice e)) (C:Sz P e k bytes z)
  (hx:ev env x=Aa s.v) (q:ev env lo=Aa (.int .i64 i)) (o:ev env hi=Aa (.int .i64 j)) (h:(Ar k f L).rd S w1 s.v) (F:0<=i/\i<=j/\j<=(L.length:Int)):
  Runs P n env w ⟨d,.slice t x (Aa lo) (Aa hi) Ab,ty,pos,af,g⟩ (s.cut k i.toNat j.toNat).v w:=λb a=>by
 obtain⟨s',u,e2,G,_⟩:=Cs.form h;obtain rfl:s=s':=by cases s;cases s';simpa [Sv.v]using u
 have A:0<=j/\j<=(s.c:Int):=by omega
 have B:0<=i/\i<=(j.toNat:Int):=by omega
 have y:(s.c-i.toNat=0)=(s.c=i.toNat):=by apply propext;omega
 have r:b.eval x=.slice s.p s.n s.c:=a.ev hx;simp only[execOp,r,a.ev q,a.ev o,Pc,Tw,Instr.sliceAt,Sem.run_bind,run_underlying D,Result.andThen_ok,Instr.slice,Instr.sliceBounds,Instr.sliceBound,asIntOf,Sem.run_pure,Sem.run_ite,if_pos A,if_pos B,C.run,Tv,I3,if_false,y,Sv.cut_eq]
theorem B5g{x hi t e bytes z} {s:Sv}{j} (y:P.underlying t=Aa (.slice e)) (u:Sz P e k bytes z)
  (hx:ev env x=Aa s.v) (a:ev env hi=Aa (.int .i64 j)) (h:(Ar k f L).rd S w1 s.v) (A:0<=j/\j<=(L.length:Int)):
  Runs P n env w ⟨d,.slice t x Ab (Aa hi) Ab,ty,pos,af,g⟩ (s.cut k 0 j.toNat).v w:=λb o=>by
 obtain⟨s',q,e2,B,_⟩:=Cs.form h;obtain rfl:s=s':=by cases s;cases s';simpa [Sv.v]using q
 have r:0<=j/\j<=(s.c:Int):=by omega
 have i:b.eval x=.slice s.p s.n s.c:=o.ev hx;simp only[execOp,i,o.ev a,Pc,Tw,Instr.sliceAt,Sem.run_bind,run_underlying y,Result.andThen_ok,Instr.slice,Instr.sliceBounds,Instr.sliceBound,asIntOf,Sem.run_pure,Sem.run_ite,if_pos r,u.run,Aky,Sv.cut_eq]
theorem B5h{x q t e bytes z} {s:Sv}{i} (C:P.underlying t=Aa (.slice e)) (B:Sz P e k bytes z)
  (hx:ev env x=Aa s.v) (a:ev env q=Aa (.int .i64 i)) (h:(Ar k f L).rd S w1 s.v) (y:0<=i/\i<=(L.length:Int)):
  Runs P n env w ⟨d,.slice t x (Aa q) Ab Ab,ty,pos,af,g⟩ (s.cut k i.toNat L.length).v w:=λb o=>by
 obtain⟨s',r,e2,D,_⟩:=Cs.form h;obtain rfl:s=s':=by cases s;cases s';simpa [Sv.v]using r
 have A:0<=i/\i<=(L.length:Int):=y;have u:(s.c-i.toNat=0)=(s.c=i.toNat):=by apply propext;omega
 have j:b.eval x=.slice s.p L.length s.c:=by rw[<-e2];exact o.ev hx
 simp only[execOp,j,o.ev a,Pc,Tw,Instr.sliceAt,Sem.run_bind,run_underlying C,Result.andThen_ok,Instr.slice,Instr.sliceBounds,Instr.sliceBound,asIntOf,Sem.run_pure,Sem.run_ite,if_pos A,B.run,Tv,I3,if_false,u,Sv.cut_eq]
end
end
section
open Go.RowKit
section
variable {w0:Dn} {w w':World} {m l l' own:List As} {rs:List Rd} {c:Ce} {v:Value} {S:Bs}
variable {T:Type} {k:Nat} {f:T->List Ce} {L:List T}
def Z (w:World) (own l:List As):Prop:=∀F,Sep own F w->Sep l F w
theorem zN:Z w [] []:=λ_ h=>h
theorem zI:Z w l l:=λ_ h=>h
theorem Sep.cons0{F a} (b:∀w,a.ok (λ_=>False) w) (h:Sep m F w):Sep (a::m) F w:=
 ⟨h.lt,λ_=>False,F,b w,h,(λ_ h=>h.elim),(λ_ h=>h.elim),λ_ h=>h⟩
theorem zP{a} (d:∀w,a.ok (λ_=>False) w) (h:Z w own l):Z w own (a::l):=λF b=>Sep.cons0 d (h F b)
theorem pV u hu:∀w,(oC (cV u hu) u).ok (λ_=>False) w:=λ_=>⟨rfl,λ_ h=>h.elim⟩
theorem Bfg k:∀w,(Cx k (.slice Ab 0 0) 0 []).ok (λ_=>False) w:=λ_=>⟨(λ_ h=>h.elim),by simp,.inl ⟨rfl,rfl⟩⟩
theorem pN k (f:T->List Ce):∀w,(oC (Ar k f []) (.slice Ab 0 0)).ok (λ_=>False) w:=λw=>
 ⟨[],rfl,(λ_ h=>h.elim),λ_=>False,λ_=>False,Bfg k w,(λ_ h=>h.elim),(λ_ h=>h.elim),(λ_ h=>h.elim),λ_ h=>h.elim⟩
theorem St.pure (h:St w0 m rs w){a} (d:∀w,a.ok (λ_=>False) w):St w0 (a::m) rs w:=
 St.iso (l:=[]) (l':=[a]) h λ_ b=>Sep.cons0 d b
theorem St.nil (h:St w0 m rs w) k (f:T->List Ce):St w0 (oC (Ar k f []) (.slice Ab 0 0)::m) rs w:=h.pure (pN k f)
theorem St.drop{a} (h:St w0 (a::m) rs w):St w0 m rs w:=St.iso (l:=[a]) (l':=[]) h λ_ b=>b.tail
def Aog:List Nat->List As->List As
 |[],m=>m
 |k::ks,m=>match m[k]? with
  |some a=>Aog ks (a::m.eraseIdx k)
  |none=>m
theorem St.sel:∀(b:List Nat) {m:List As},St w0 m rs w->St w0 (Aog b m) rs w
 |[],_,h=>h
 |k::b,m,h=>by
  unfold Aog;cases g:m[k]? with
  |none=>exact h
  |some a=>
   refine St.sel b (h.perm ?_);have d:=(H3.1 g);obtain⟨i,rfl⟩:=d;have e:m=m.take k++m[k]::m.drop (k+1):=by simp
   rw[A53]
   conv=>lhs;rw[e]
   exact Ct
theorem St.pl a (h:St w0 m rs w):St w0 (Aog a m) rs w:=St.sel a h
theorem St.tk n (h:St w0 m rs w):St w0 (m.take n) rs w:=by obtain⟨a,g,F,b,d,e⟩:=h;exact⟨a,g,F,b.take n,d,e⟩
theorem St.selO (h:St w0 (oC c v::m) rs w):St w0 m (rV v c::rs) w:=
 St.fix (l:=[oC c v]) (r:=rV v c) h λ_F ⟨_,_F1,_,a,_,_,b,_⟩=>c.mono b (Lc.refl _ _) (c.seen a)
theorem St.nilR (h:St w0 m rs w) k (f:T->List Ce):St w0 m (rV (.slice Ab 0 0) (Ar k f [])::rs) w:=(h.nil k f).selO
theorem St.unrow (h:St w0 (oC (Ar k f L) v::m) rs w):∃xs,(L.flatMap f).length=xs.length/\St w0 (Cx k v L.length xs::(Bc (L.flatMap f) xs++m)) rs w:=by
 obtain⟨g,a,F,⟨e,F1,p,⟨xs,g1,g2⟩,g3,g4,g5,d⟩,i,j⟩:=h
 have o:=(Sep.join g2 g3 g4).up (F':=F) (λb a=>by
  rcases a with a|a
  ·exact g5 b a
  ·exact d b a) e
 exact⟨xs,g1,g,a,F,o,i,j⟩
theorem St.rerow{xs} (b:(L.flatMap f).length=xs.length) (h:St w0 (Cx k v L.length xs::(Bc (L.flatMap f) xs++m)) rs w):St w0 (oC (Ar k f L) v::m) rs w:=
 St.iso (l:=Cx k v L.length xs::Bc (L.flatMap f) xs) (l':=[oC (Ar k f L) v]) h λF a=>⟨a.lt,F,λ_=>False,⟨xs,b,a⟩,(λ_ h=>h.elim),(λ_ _ h=>h),(λ_ h=>h),λ_ h=>h.elim⟩
theorem Bgv{b j cs e hd u} (h:w.heap[b]?=Aa (.cells cs e hd)):(w.setCell ⟨b,j,Ab⟩ u).heap[b]?=Aa (.cells (cs.setIfInBounds j u) e hd):=by simp[World.setCell,Bqv,h]
theorem B71{b j u X} (d:X (b,j)):F6 X w (w.setCell ⟨b,j,Ab⟩ u):=
 ⟨rfl,rfl,rfl,by simp[World.setCell],λk h=>by
  by_cases e:k=b
  ·subst e;cases a:w.heap[k]? with
   |none=>rw[Array.getElem?_eq_getElem h]at a;cases a
   |some o=>
    cases o with
    |cells cs e g=>exact .inr ⟨cs,cs.setIfInBounds j u,e,g,rfl,Bgv a,by simp,λi hi=>Bqw λe=>hi (by rw[<-e];exact d)⟩
    |_=>exact .inl (by simp[World.setCell,Bqv,a])
  ·exact .inl (Below.heap_setCell _ _ _ _ e)⟩
def Xj:List Value->Nat->List Value->List Value
 |cs,_,[]=>cs
 |cs,o,v::r=>Xj (cs.set o v) (o+1) r
theorem Sw:∀vs cs o,o+vs.length<=cs.length->Xj cs o vs=cs.take o++vs++cs.drop (o+vs.length)
 |[],cs,o,_=>by simp[Xj]
 |v::r,cs,o,h=>by
  simp only[B5]at h;rw[Xj,Sw r _ _ (by rw[Ft];omega)];have a:(cs.set o v).take (o+1)=cs.take o++[v]:=by rw[Ae7,A6m (Ef _),A57 (by omega)];rfl
  have b:(cs.set o v).drop (o+1+r.length)=cs.drop (o+(r.length+1)):=by rw[Bq3 (by omega)];congr 1;omega
  rw[a,b];simp
theorem Adr{b e hd}:∀(vs:List Value) (o:Nat) (cs:Array Value) (w:World),w.heap[b]?=Aa (.cells cs e hd)->(w.setCells b o vs).heap[b]?=Aa (.cells (Xj cs.toList o vs).toArray e hd)
 |[],o,cs,w,h=>by simpa [World.setCells,Xj]using h
 |v::r,o,cs,w,h=>by rw[World.setCells,Adr r (o+1) _ _ (Bgv h),Xj,Bqx]
theorem Ahp{b X}:∀vs o w,(∀j,o<=j->j<o+vs.length->X (b,j))->F6 X w (w.setCells b o vs)
 |[],_,w,_=>F6.refl X w
 |v::r,o,w,hX=>(B71 (hX o (Ef _) (by simp))).trans (Ahp r (o+1) _ λj a d=>hX j (by omega) (by simp only[B5];omega))
theorem frz{b x cur e hd} (i:w.heap[b]?=Aa (.cells cur e hd)) (j:Wr hd cur.size) (hx:x<cur.size):w.frozen? ⟨b,x,Ab⟩=false:=by
 have h:=j x hx;obtain⟨d,hi⟩:=hd;have e:w.frozen? ⟨b,x,Ab⟩=(decide (d<=x)&&decide (x<hi)):=by simp only[World.frozen?,i]
 rw[e];by_cases a:d<=x
 ·rw[decide_eq_false λg=>h ⟨a,g⟩,Akj]
 ·rw[decide_eq_false a,Akl]
theorem Sep.head{F a j} (h:Sep (a::m) F w) (hi:∀F,a.ok F w->∃F',j.ok F' w'/\F6 F w w'/\∀b,F' b->F b\/w.heap.size<=b.1):∃F',Sep (j::m) F' w'/\F6 F w w'/\∀b,F' b->F b\/w.heap.size<=b.1:=by
 obtain⟨x,F1,i,t,o,p,q,u⟩:=h;obtain⟨F',r,k2,s⟩:=hi F1 t;have g2:Sep m i w':=o.loc (k2.lc λb d g=>p b g d);refine⟨λb=>F' b\/i b,⟨λb d=>?_,F',i,r,g2,λb d g=>?_,λ_ h=>.inl h,λ_ h=>.inr h⟩,k2.mono q,λb d=>?_⟩
 ·rcases d with d|d
  ·exact j.lt r d
  ·exact g2.lt b d
 ·rcases s b d with e|e
  ·exact p b e g
  ·have:=o.lt b g;omega
 ·rcases d with d|d
  ·exact(s b d).imp (q b) id
  ·exact .inl (u b d)
theorem St.updHead{a d} (h:St w0 (a::m) rs w) (hi:∀F,a.ok F w->∃F',d.ok F' w'/\F6 F w w'/\∀b,F' b->F b\/w.heap.size<=b.1):St w0 (d::m) rs w':=
 St.upd (l:=[a]) (l':=[d]) h λ_ e=>e.head hi
theorem St.alloc (h:St w0 m rs w) cs e:St w0 (Cc w.heap.size cs e::m) rs (w.alloc (.cells cs e)):=
 St.upd (l:=[]) (l':=[Cc w.heap.size cs e]) h λF d=>⟨λb=>b.1=w.heap.size,⟨λb a=>by rw[show b.1=w.heap.size from a];simp,λb=>b.1=w.heap.size,λ_=>False,⟨λb a=>by rw[show b.1=w.heap.size from a];simp,λ_ _=>rfl,heap_alloc_new w _⟩,(λ_ h=>h.elim),(λ_ _ h=>h),(λ_ h=>h),λ_ h=>h.elim⟩,(Rel.alloc w _).x F,λb a=>.inr (Nat.le_of_eq (Eq.symm a))⟩
theorem St.allocRow (h:St w0 m rs w){n cap} xs sp cur e (a:cur.toList=xs++sp) (b:xs.length=n*k) (s:n<=cap) (r:cap<=maxLen) (u:cur.size=cap*k):St w0 (Cx k (Sv.v ⟨Aa ⟨w.heap.size,0,Ab⟩,n,cap⟩) n xs::m) rs (w.alloc (.cells cur e)):=
 St.iso (l:=[Cc w.heap.size cur e]) (l':=[Cx k (Sv.v ⟨Aa ⟨w.heap.size,0,Ab⟩,n,cap⟩) n xs]) (h.alloc cur e) λ_ ⟨g,F1,d,⟨i,o,p⟩,q⟩=>
  ⟨g,F1,d,⟨i,b,.inr ⟨_,0,cap,_,e,_,rfl,λj t=>by rw[L3];exact o j (by omega),⟨p,wr0 _⟩,s,r,by omega,by rw[a];simp[<-b]⟩⟩,q⟩
theorem St.drew (h:St w0 m rs w):St w0 m rs w.drew:=h.call ((Rel.refl w).drew)
end
section
variable {P:Program} {n:Nat} {ops:Array Oper} {Q:Post} {env:Env} {w:World} {w0:Dn} {rest:List Oper} {ty:TypeId} {pos:String} {af:Array Edge} {m own:List As} {rs:List Rd}
variable {T:Type} {k:Nat} {f:T->List Ce} {L:List T}
theorem St.appRow{t Y tyy e size bytes z} {s:Sv}{n n' xs news x} (ht:P.underlying t=Aa (.slice e)) (hs:Sz P e size bytes z) (h:St w0 (Cx size s.v n xs::m) rs w) (a:Src P size Y x n' news w)
  (a3:n+n'<=maxLen) (I:(n+n')*bytes<=140737488355328):
  ∃(s':Sv) (w':World),(Builtin.append_ #[t,Y] tyy #[s.v,x]).run P w=.ok s'.v w'/\St w0 (Cx size s'.v (n+n') (xs++news)::m) rs w':=by
 obtain⟨i,hi,hz,b4,H⟩:=hs.info;subst b4;have U:=hs.2.1;have h63i:((n+n':Nat):Int)<=9223372036854775807:=by simp only[maxLen]at a3;omega
 obtain⟨F0,g0,y,gr⟩:=h.at' (Bm ..);have g:=a.newsLen;rcases gr with⟨q,rfl⟩|⟨b,off,cap,cur,e',K,q,hb,⟨M,R⟩,b0,a5,c5,O⟩
 ·obtain⟨ep,en,ec⟩:s.p=Ab/\s.n=0/\s.c=0:=by simpa [Sv.v]using q
  have b5:xs=[]:=I4 (by simpa using y);subst b5;by_cases a9:n'=0
  ·subst a9;have b1:news=[]:=I4 (by simpa using g);subst b1;refine⟨s,w,?_,by simpa using h⟩;rw[q];rcases a.kind with⟨e2,hk⟩|hk<;>simp[Builtin.append_,run_underlying ht,run_underlying hk,sizeOf,typeInfo,hi,a.len,a.cells]
  ·have N:=run_append_grow_src (P:=P) w t Y tyy e i z ht hi hz Ab 0 0 [] (run_firstCells_none _ _ _ _ _) x n' news a (by omega) (by simpa using h63i) (by rw[H];exact growslice_fits (by omega) (by simpa using I));refine⟨⟨Aa ⟨w.heap.size,0,Ab⟩,0+n',grownCap w (0+n') 0 e⟩,_,by rw[q];exact N,?_⟩;have K:=(h.drop).drew;have B:=grownCap_ge w (0+n') 0 e;have hc:=grownCap_le_maxLen w (0+n') 0 e (by omega)
   exact K.allocRow (k:=i.size) (n:=0+n') (cap:=grownCap w (0+n') 0 e) ([]++news) (Builtin.zeroCells z.cells (grownCap w (0+n') 0 e-(0+n'))).toList _ e (by simp) (by simpa using g) B hc (by
    rw[Vx,size_zeroCells,U,Iu,Qk,g,<-Gk];congr 1;omega)
 ·obtain⟨ep,en,ec⟩:s.p=Aa ⟨b,off,Ab⟩/\s.n=n/\s.c=cap:=by simpa [Sv.v]using q
  have c6:n*i.size<=cap*i.size:=E4 _ b0;by_cases d:n+n'<=cap
  ·have o:off+n*i.size+news.length<=cur.size:=by have:=E4 i.size d;rw[Gk]at this;omega
   have N:=run_append_room_src (P:=P) w t Y tyy e i ht hi b off n cap x n' news a d
    (λj C=>by simp only[World.cell?,M];simp;omega)
    (λj C=>frz M R (by omega))
   refine⟨⟨Aa ⟨b,off,Ab⟩,n+n',cap⟩,_,by rw[q];exact N,?_⟩;refine h.updHead λF ⟨q0,ql,qr⟩=>?_;rcases qr with⟨W,_⟩|⟨b2,V,D,G,e2,a7,W,qb,⟨qg,qw⟩,_,_,_,c9⟩
   ·rw[q]at W;cases W
   ·obtain⟨⟨rfl,rfl⟩,rfl⟩:(b=b2/\off=V)/\cap=D:=by rw[q]at W;simpa using W
    rw[M]at qg;obtain⟨rfl,rfl,rfl⟩:cur=G/\e'=e2/\K=a7:=by simpa using qg
    have b3:=E4 i.size d;rw[Gk]at b3;have r:=Ahp (X:=F) (b:=b) news (off+n*i.size) w λj h1 h2=>by have:=qb (j-off) (by omega);rwa [show off+(j-off)=j by omega]at this
    refine⟨F,⟨λb hb=>K8 (q0 b hb) r.size,by rw[Bt,y,g,Gk],.inr ⟨b,off,cap,_,e',K,rfl,qb,⟨Adr news _ cur w M,?_⟩,d,a5,?_,?_⟩⟩,r,λ_ hb=>.inl hb⟩
    ·rw[Sw _ _ _ (by rw[Ew];exact o),show(cur.toList.take (off+n*i.size)++news++cur.toList.drop (off+n*i.size+news.length)).toArray.size=cur.size by simp only[Qk,Bt,Dh,D0,Ew];omega];exact R
    ·rw[Sw _ _ _ (by rw[Ew];exact o)];simp only[Qk,Bt,Dh,D0,Ew];omega
    ·rw[Sw _ _ _ (by rw[Ew];exact o)];have ha:(cur.toList.take (off+n*i.size)).length=off+n*i.size:=by rw[Dh,Ew];omega
     have a6:(cur.toList.take (off+n*i.size)).drop off=xs:=by rw[Yd,Atk];exact O
     rw[Ci,As7 (by omega),a6,<-Ci,Atj (by rw[Bt,y,g,Gk];omega)];rw[Rv (by rw[Bt,y,g,Gk];omega)]
  ·have A:∀j u,xs[j]?=Aa u->w.drew.cell? ((⟨b,off,Ab⟩:Addr).add j)=Aa u:=λj u C=>by
    rw[<-O,Nk]at C;split at C
    ·rw[K6,Qi]at C;rw[Addr.add_lit];have a8:w.drew.heap[b]?=Aa (.cells cur e' K):=M;simp[World.cell?,a8,C]
    ·cases C
   have N:=run_append_grow_src (P:=P) w t Y tyy e i z ht hi hz (Aa ⟨b,off,Ab⟩) n cap xs (run_firstCells_some _ _ _ _ _ _ _ y A) x n' news a (by omega) h63i (by rw[H];exact growslice_fits (by omega) I);refine⟨⟨Aa ⟨w.heap.size,0,Ab⟩,n+n',grownCap w (n+n') cap e⟩,_,by rw[q];exact N,?_⟩;have B:=grownCap_ge w (n+n') cap e;have hc:=grownCap_le_maxLen w (n+n') cap e (by omega)
   exact((h.drop).drew).allocRow (k:=i.size) (n:=n+n') (cap:=grownCap w (n+n') cap e) (xs++news) (Builtin.zeroCells z.cells (grownCap w (n+n') cap e-(n+n'))).toList _ e (by simp) (by rw[Bt,y,g,Gk]) B hc (by
    rw[Vx,size_zeroCells,U,Qk,Bt,y,g,<-Gk,<-Gk];congr 1;omega)
theorem St.app{t j tyy e size bytes z} {s:Sv}{n' news x M} (A:P.underlying t=Aa (.slice e)) (y:Sz P e size bytes z) (h:St w0 (oC (Ar size f L) s.v::(own++m)) rs w) (a:Src P size j x n' news w)
  (q:M.length=n') (r:(M.flatMap f).length=news.length) (B:Z w own (Bc (M.flatMap f) news)) (d:L.length+n'<=maxLen) (g:(L.length+n')*bytes<=140737488355328):
  ∃(s':Sv) (w':World),(Builtin.append_ #[t,j] tyy #[s.v,x]).run P w=.ok s'.v w'/\St w0 (oC (Ar size f (L++M)) s'.v::m) rs w':=by
 obtain⟨xs,i,o⟩:=h.unrow
 have b:St w0 (Cx size s.v L.length xs::(Bc (L.flatMap f) xs++(Bc (M.flatMap f) news++m))) rs w:=by
  refine(St.iso (l:=own) (l':=Bc (M.flatMap f) news) (m:=Cx size s.v L.length xs::(Bc (L.flatMap f) xs++m)) (o.perm ?_) B).perm ?_
  ·exact(Abm ..).cons _|>.trans Ct.symm
  ·exact Ct.trans ((Abm ..).cons _)
 obtain⟨s',w',u,p⟩:=b.appRow (tyy:=tyy) A y a d g;refine⟨s',w',u,St.rerow (xs:=xs++news) (by rw[H2,Bt,Bt,i,r]) ?_⟩;rw[H2,O8 i,Ci,Bt,q];exact p
theorem Bfm{t e size bytes z v} (C:P.underlying t=Aa (.slice e)) (x:Sz P e size bytes z) (d:v.cells.size=size) (o:Dm size 1000=true):
  (Instr.buildSlice t 1 #[(0,v)]).run P w=.ok (.slice (Aa ⟨w.heap.size,0,Ab⟩) 1 1) (w.alloc (.cells v.cells e)):=by
 obtain⟨i,hi,D,b,B⟩:=x.info;have s:=x.2.2;have y:size<=1000:=by simpa using o
 have a:Instr.fill (λj=>Aa (j*i.size,i.size)) ((Vw (1*i.size)).map (z.cells[· % z.cells.size]!)) [(0,v)]=Aa v.cells:=by
  have r:∀(l:List Value) (p:Nat) (cs:Array Value),p+l.length=cs.size->(l.zipIdx p).foldl (λcs (q:Value×Nat)=>cs.setIfInBounds q.2 q.1) cs=(cs.toList.take p++l).toArray:=by
   intro l;induction l with
   |nil=>intro p cs g;simp at g;simp[g,Rv]
   |cons u l F=>
    intro p cs g;simp only[A6p,Fx,B5]at g⊢;rw[F (p+1) _ (by simp;omega)];congr 1;have h:p<cs.toList.length:=by simp;omega
    rw[Bqx,Ae7,List.take_set,A57 h,Atg (by simp;omega)];simp
  have A:=r v.cells.toList 0 ((Vw size).map (z.cells[· % z.cells.size]!)) (by simp[d]);simp only[Instr.fill,b,K9,L3,Yg,d,Array.size_map,Array.size_range,ne_eq,not_true_eq_false,decide_false,Rr,gt_iff_lt,Aku,I3,if_false,D1.injEq];rw[<-Bqt,Bqy];simpa using A
 exact run_buildSlice (P:=P) w t e 1 #[(0,v)] v.cells i z C hi D (by simp[b];omega) (by simp[b];omega) a
def FlatE (f:T->List Ce):Prop:=∀x,∀c∈f x,∃u,∃hu:u.oneCell'=true,c=cV u hu
theorem Amg (a:FlatE f){S}:∀ {cs:List Ce} {vs:List Value},(∀c∈cs,∃u,∃hu,c=cV u hu)->Eg S w cs vs->∀w,Z w [] (Bc cs vs)
 |[],vs,_,_=>λ_=>zN
 |c::cs,_,hc,⟨v,r,rfl,h1,h2⟩=>by
  obtain⟨u,hu,rfl⟩:=hc c (Bm ..);obtain rfl:v=u:=h1
  exactλw=>zP (pV v hu) (Amg a (λc h=>hc c (Bf _ h)) h2 w)
theorem Ag9{S}:∀ {cs:List Ce} {vs:List Value},Eg S w cs vs->∀u∈vs,u.oneCell'=true
 |[],_,h,u,hu=>by have:_=[]:=h;subst this;cases hu
 |c::cs,_,⟨v,r,rfl,h1,h2⟩,u,hu=>by
  rcases Bq.1 hu with rfl|hu
  ·exact c.one h1
  ·exact Ag9 h2 u hu
theorem Cs.src{S t e v} (g:P.underlying t=Aa (.slice e)) (h:(Ar k f L).rd S w v):∃xs,Src P k t v L.length xs w/\Eg S w (L.flatMap f) xs:=by
 obtain⟨a,cap,rfl,r,s,p⟩:=h;by_cases i:L=[]
 ·subst i;cases a with
  |none=>exact⟨[],Src.ofNil w g cap,rfl⟩
  |some a=>exact⟨[],Src.ofSlice w g a _ cap [] (by simp) (λj u d=>by simp at d) (λu hu=>by cases hu),rfl⟩
 ·obtain⟨b,off,xs,rfl,_,q,hx,o⟩:=p i;exact⟨xs,Src.ofSlice w g _ _ cap xs q (λj u d=>by rw[Addr.add_lit];exact hx j u d) (Ag9 o),o⟩
theorem Li{o K v w'} (b:Runs P n env w o v w') (a:K v w'):Ex P n env w o K:=⟨v,w',b,a⟩
theorem Cdu{K} {d:Nat}{x y t e size bytes z xv} {s:Sv}{M S} (u:P.underlying t=Aa (.slice e)) (G:Sz P e size bytes z) (hx:ev env x=Aa xv) (q:ev env y=Aa s.v)
  (i:(Ar size f M).rd S w xv) (g:FlatE f) (C:St w0 (oC (Ar size f L) s.v::m) rs w) (o:L.length+M.length<=1099511627776) (p:Dm bytes 127=true)
  (h:∀(s':Sv) w',St w0 (oC (Ar size f (L++M)) s'.v::m) rs w'->K (s'.v) w'):
  Ex P n env w ⟨Aa d,.call {callee:=.builtin .append,args:= #[y,x],argTypes:= #[t,t]},ty,pos,af,Ab⟩ K:=by
 obtain⟨xs,A,r⟩:=Cs.src u i;have b:bytes<=127:=by simpa using p
 obtain⟨s',w',F,B⟩:=St.app (tyy:=ty) (own:=[]) (M:=M) u G C A rfl (Zz r).symm (Amg g (λc D=>by
  obtain⟨a,_,j⟩:=Ye.1 D;exact g a c j) r w) (by simp only[maxLen];omega) (by
  have:=Rw o b;omega)
 refine Li (v:=s'.v) (w':=w') (λa j=>?_) (h s' w' B);simp[execOp,resolve,invoke,builtin,j.ev q,j.ev hx,F]
theorem Bi1{K} {d:Nat}{x y t e size bytes z} {s g:Sv}{M} (ht:P.underlying t=Aa (.slice e)) (hs:Sz P e size bytes z) (hx:ev env x=Aa g.v) (Y:ev env y=Aa s.v)
  (hM:St w0 (oC (Ar size f L) s.v::oC (Ar size f M) g.v::m) rs w) (a9:L.length+M.length<=1099511627776) (X:(L.length+M.length)*bytes<=140737488355328)
  (h:∀(s':Sv) w',St w0 (oC (Ar size f (L++M)) s'.v::m) rs w'->K (s'.v) w'):
  Ex P n env w ⟨Aa d,.call {callee:=.builtin .append,args:= #[y,x],argTypes:= #[t,t]},ty,pos,af,Ab⟩ K:=by
 have a0:=St.unrow (hM.perm (List.Perm.swap ..));obtain⟨xs,hl,G⟩:=a0;have A:=G.at' (Bm ..);have H:=G.drop
 have i:∀j u,xs[j]?=Aa u->∃a,g.p=Aa a/\w.cell? (a.add j)=Aa u:=λj u o=>by
  obtain⟨F,_,D,U⟩:=A;rcases U with⟨C,O⟩|⟨b,off,cap,cur,e',hd,C,hb,⟨hg,_⟩,_,_,_,a2⟩
  ·rw[O,K9]at D;rw[I4 D]at o;simp at o
  ·obtain⟨ep,_⟩:g.p=Aa ⟨b,off,Ab⟩/\_:=by simpa [Sv.v]using C
   rw[<-a2,Nk]at o;split at o
   ·rw[K6,Qi]at o;exact⟨_,ep,by rw[Addr.add_lit];simp[World.cell?,hg,o]⟩
   ·cases o
 have B:∃S,Eg S w (M.flatMap f) xs:=by obtain⟨_,_,F,N,_⟩:=H;obtain⟨F1,_,V,_⟩:=N.split;exact⟨F1,Aex hl V⟩
 obtain⟨S,B⟩:=B;obtain⟨F,_,D,U⟩:=A
 have O:g.n=M.length:=by
  rcases U with⟨C,O⟩|⟨b,off,cap,cur,e',hd,C,_⟩
  ·obtain⟨_,N,_⟩:g.p=Ab/\g.n=0/\g.c=0:=by simpa [Sv.v]using C
   omega
  ·obtain⟨_,N,_⟩:g.p=Aa ⟨b,off,Ab⟩/\g.n=M.length/\g.c=cap:=by simpa [Sv.v]using C
   exact N
 have I:Src P size t g.v M.length xs w:=by
  have e0:g.v=.slice g.p M.length g.c:=by rw[<-O];rfl
  cases R:g.p with
  |none=>
   have a3:xs=[]:=by
    cases xs with
    |nil=>rfl
    |cons u r=>obtain⟨a,q,_⟩:=i 0 u rfl;rw[R]at q;cases q
   subst a3;have hz:M.length=0:=by have:=hs.2.2;rcases Akv.1 D.symm with h|h<;>omega
   rw[e0,R,hz];exact Src.ofNil w ht _
  |some a=>rw[e0,R];exact Src.ofSlice w ht a _ _ xs D (λj u o=>by obtain⟨a',q,hc⟩:=i j u o;rw[R]at q;cases q;exact hc) (Ag9 B)
 have W:St w0 (oC (Ar size f L) s.v::(Bc (M.flatMap f) xs++m)) rs w:=H.perm Ct;obtain⟨s',w',hr,V⟩:=St.app (tyy:=ty) (M:=M) ht hs W I rfl hl zI (by simp only[maxLen];omega) X;refine Li (v:=s'.v) (w':=w') (λa q=>?_) (h s' w' V);simp[execOp,resolve,invoke,builtin,q.ev Y,q.ev hx,hr]
theorem Aqa{K} {d:Nat}{x y t e size bytes z} {s j:Sv}{M} (q:P.underlying t=Aa (.slice e)) (p:Sz P e size bytes z) (hx:ev env x=Aa j.v) (i:ev env y=Aa s.v)
  (o:St w0 (oC (Ar size f L) s.v::oC (Ar size f M) j.v::m) rs w) (a:L.length+M.length<=1099511627776) (g:Dm bytes 127=true)
  (h:∀(s':Sv) w',St w0 (oC (Ar size f (L++M)) s'.v::m) rs w'->K (s'.v) w'):
  Ex P n env w ⟨Aa d,.call {callee:=.builtin .append,args:= #[y,x],argTypes:= #[t,t]},ty,pos,af,Ab⟩ K:=
 Bi1 q p hx i o a (by
  have b:bytes<=127:=by simpa using g
  have:=Rw a b;omega) h
end
end
section
open Go.RowKit
theorem Sep.sub{w l l'} (d:List.Sublist l' l):∀ {F:Bs},Sep l F w->Sep l' F w:=by
 induction d with
 |slnil=>exactλh=>h
 |cons a _ b=>exactλh=>b h.tail
 |cons_cons a _ b=>exactλh=>h.cons_mono λ_=>b
theorem Bar {T A:Type} [Inhabited T]{k f} (a:∀x,(f x).length=k):∀(L:List T) (i j:Nat) (us:List A) (y:T),i<L.length->j+us.length<=k->f y=(f (el L i)).take j++us++(f (el L i)).drop (j+us.length)->
  (L.set i y).flatMap f=(L.flatMap f).take (i*k+j)++us++(L.flatMap f).drop (i*k+j+us.length)
 |[],i,j,_,_,hi,_,_=>by simp at hi
 |x::L,0,j,us,y,_,hj,hx=>by have b:f y=(f x).take j++us++(f x).drop (j+us.length):=hx;rw[V5,F4,F4,b,K9,L3,Atj (by rw[a];omega),As7 (by rw[a];omega)];simp[Ci]
 |x::L,i+1,j,us,y,hi,hj,hx=>by rw[Ae5,F4,F4,Bar a L i j us y (by simpa using hi) hj hx];rw[show(i+1)*k+j=k+(i*k+j)by rw[Gk];omega];rw[Aks,List.drop_append,a,Rv (l:=f x) (by rw[a];omega), @As8 _ (f x) _ (by rw[a];omega)];rw[Atk,show k+(i*k+j)+us.length-k=i*k+j+us.length by omega];simp[Ci]
section
variable {w0:Dn} {w w':World} {m l l' own:List As} {rs:List Rd} {c:Ce} {v:Value} {S:Bs}
variable {T:Type} {k:Nat} {f:T->List Ce} {L:List T}
theorem St.upds [Inhabited T]{i j y cs us} {s:Sv} (H:∀x,(f x).length=k) (hi:i<L.length) (U:cs.length=us.length) (hj:j+us.length<=k) (hy:f y=(f (el L i)).take j++cs++(f (el L i)).drop (j+us.length))
  (hz:∀w,Z w own (Bc cs us)) (h:St w0 (oC (Ar k f L) s.v::(own++m)) rs w):
  ∃b o cur e q,s.p=Aa ⟨b,o,Ab⟩/\(w.heap[b]?=Aa (.cells cur e q)/\Wr q cur.size)/\o+i*k+j+us.length<=cur.size/\St w0 (oC (Ar k f (L.set i y)) s.v::m) rs (w.setCells b (o+i*k+j) us):=by
 obtain⟨xs,h1,N⟩:=h.unrow;have a7:i*k+k<=L.length*k:=by rw[<-Nat.succ_mul];exact E4 k hi
 have a6:(L.flatMap f).length=L.length*k:=Mw H L;have M:Bc ((L.set i y).flatMap f) (xs.take (i*k+j)++us++xs.drop (i*k+j+us.length))=(Bc (L.flatMap f) xs).take (i*k+j)++Bc cs us++(Bc (L.flatMap f) xs).drop (i*k+j+us.length):=by rw[Bar H L i j cs y hi (by omega) (by rw[U];exact hy),U];rw[O8 (by rw[Bt,Bt,Dh,Dh];omega),O8 (by rw[Dh,Dh];omega),Akh,Asr]
 have O:St w0 (Cx k s.v L.length xs::(Bc ((L.set i y).flatMap f) (xs.take (i*k+j)++us++xs.drop (i*k+j+us.length))++m)) rs w:=by
  refine(St.iso (l:=Bc (L.flatMap f) xs++own) (l':=Bc ((L.set i y).flatMap f) (xs.take (i*k+j)++us++xs.drop (i*k+j+us.length))) (m:=Cx k s.v L.length xs::m) (N.perm ?_) λF R=>?_).perm ?_
  ·rw[<-Ci];exact Ct.symm
  ·rw[M];obtain⟨F1,Y,g1,g2,g3,g4,g5⟩:=R.split
   have C:Sep ((Bc (L.flatMap f) xs).take (i*k+j)++(Bc (L.flatMap f) xs).drop (i*k+j+us.length)) F1 w:=Sep.sub (by
    conv=>rhs;rw[<-Kk (i*k+j) (Bc (L.flatMap f) xs)]
    refine List.Sublist.append_left ?_ _;rw[<-Mq];exact A52 _ _) g1
   have g6:=(Sep.join C (hz w Y g2) g3).up (F':=F) (λb d=>by
    rcases d with d|d
    ·exact g4 b d
    ·exact g5 b d) R.lt
   refine g6.perm ?_;rw[Ci,Ci];exact List.Perm.append_left _ Gg
  ·exact Ct
 obtain⟨F0,g0,gl,gr⟩:=O.at' (Bm ..);rcases gr with⟨u,hn⟩|⟨b,o,cap,cur,e,q,u,d,⟨I,A⟩,z,D,a9,K⟩
 ·omega
 ·obtain⟨ep,en,ec⟩:s.p=Aa ⟨b,o,Ab⟩/\s.n=L.length/\s.c=cap:=by simpa [Sv.v]using u
  have a8:L.length*k<=cap*k:=E4 _ z;have a:o+i*k+j+us.length<=cur.size:=by omega
  refine⟨b,o,cur,e,q,ep,⟨I,A⟩,a,St.rerow (xs:=xs.take (i*k+j)++us++xs.drop (i*k+j+us.length)) ?_ ?_⟩
  ·rw[Mw H,Ft,Bt,Bt,Dh,D0];omega
  ·rw[Ft];refine O.updHead λF ⟨q0,ql,qr⟩=>?_;rcases qr with⟨B,_⟩|⟨b2,o2,r,t,e2,G,B,V,⟨W,qw⟩,_,_,_,b5⟩
   ·rw[u]at B;cases B
   ·obtain⟨⟨rfl,rfl⟩,rfl⟩:(b=b2/\o=o2)/\cap=r:=by rw[u]at B;simpa using B
    rw[I]at W;obtain⟨rfl,rfl,rfl⟩:cur=t/\e=e2/\q=G:=by simpa using W
    have g:=Ahp (X:=F) (b:=b) us (o+i*k+j) w λx h1 N=>by have:=V (x-o) (by omega);rwa [show o+(x-o)=x by omega]at this
    refine⟨F,⟨λb d=>K8 (q0 b d) g.size,by rw[Bt,Bt,Dh,D0];omega,.inr ⟨b,o,cap,_,e,q,u,V,⟨Adr us _ cur w I,?_⟩,z,D,?_,?_⟩⟩,g,λ_ d=>.inl d⟩
    ·rw[Sw _ _ _ (by rw[Ew];exact a),show(cur.toList.take (o+i*k+j)++us++cur.toList.drop (o+i*k+j+us.length)).toArray.size=cur.size by simp only[Qk,Bt,Dh,D0,Ew];omega];exact A
    ·rw[Sw _ _ _ (by rw[Ew];exact a)];simp only[Qk,Bt,Dh,D0,Ew];omega
    ·rw[Sw _ _ _ (by rw[Ew];exact a),<-K];have a5:cur.toList.length=cur.size:=Ew;rw[Ae8,Yd,Mq,show min (i*k+j) (L.length*k)=i*k+j by omega];rw[Ci,As7 (by rw[Dh];omega),Yd,show o+i*k+j-o=i*k+j by omega];rw[<-Ci,Aks,Bt,Dh,D0];rw[Rv (by rw[Bt,Dh,D0];omega)];congr 1;rw[show o+i*k+j+us.length=o+(i*k+j+us.length)by omega];congr 1;omega
end
section
variable {P:Program} {n:Nat} {ops:Array Oper} {Q:Post} {env:Env} {w w':World} {w0:Dn} {rest:List Oper} {ty:TypeId} {pos:String} {af:Array Edge} {m own:List As} {rs:List Rd}
variable {T:Type} {k:Nat} {f:T->List Ce} {L:List T}
theorem Azx{t size d z u b o cur e} (q:Sz P t size d z) (hu:u.cells.size=size) (g:u.cells.toList.all (·.oneCell')=true){hd} (p:w.heap[b]?=Aa (.cells cur e hd)) (s:Wr hd cur.size) (a:o+u.cells.toList.length<=cur.size):
  (storeVar t ⟨b,o,Ab⟩ u).run P w=.ok () (w.setCells b o u.cells.toList):=by
 have i:=run_storeCells_cells (P:=P) b o u.cells.toList 0 w (λj h=>by simp only[World.cell?,p];simp;rw[Ew]at h a;omega) (λj h=>frz p s (by rw[Ew]at a;simp only[Ew]at h;omega)) (λv r=>Ff.1 g v r);simp only[Ae9]at i;simp[storeVar,q.run,hu,i]
theorem St.stE [Inhabited T]{t x y} {s:Sv}{u size bytes z i j} a cs (K:Sz P t size bytes z) (F:∀x,(f x).length=k) (hx:ev env x=Aa (.pointer (Aa (Et s.v (i*k+j))))) (M:ev env y=Aa u) (hi:i<L.length)
  (hu:u.cells.size=size) (I:cs.length=u.cells.toList.length) (H:Dm (j+u.cells.toList.length) k=true) (h:u.cells.toList.all (·.oneCell')=true) (p:f a=(f (el L i)).take j++cs++(f (el L i)).drop (j+u.cells.toList.length)) (N:∀w,Z w own (Bc cs u.cells.toList))
  (D:St w0 (oC (Ar k f L) s.v::(own++m)) rs w):∃w',RunsU P n env w ⟨Ab,.store t x y,ty,pos,af,Ab⟩ w'/\St w0 (oC (Ar k f (L.set i a)) s.v::m) rs w':=by
 obtain⟨b,o,cur,e,O,A,⟨G,q⟩,g,B⟩:=D.upds F hi I (by simpa using H) p N;refine⟨w.setCells b (o+i*k+j) u.cells.toList,λa p=>?_,B⟩;have d:=p.ev hx;have r:s.v=.slice (Aa ⟨b,o,Ab⟩) s.n s.c:=by rw[<-A];rfl
 rw[r]at d;simp only[Et,<-Er]at d;have C:=Azx (P:=P) (t:=t) K hu h G q g;simp[execOp,d,p.ev M,Instr.storeAt,Instr.sureAddr,C]
theorem Ak6{b j cs e v} (a:St w0 m rs w) (h:Cc b cs e∈m) (d:cs[j]?=Aa v):w.cell? ⟨b,j,Ab⟩=Aa v:=by obtain⟨F,_,_,g⟩:=a.at' h;rw[cell_of_row w b j cs e (0,0) g];exact d
theorem B4r{d g x t b j cs e v td} (p:P.underlying t=Aa td) (o:Ac0 td=true) (hx:ev env x=Aa (.pointer (Aa ⟨b,j,Ab⟩)))
  (a:St w0 m rs w) (i:Cc b cs e∈m) (h:cs[j]?=Aa v):Runs P n env w ⟨d,.load t x,ty,pos,af,g⟩ v w:=Be3 p o hx (Ak6 a i h)
theorem B4s{d g x t b o fs size bytes z us cs e} (s:P.underlying t=Aa (.struct fs)) (r:Sz P t size bytes z) (hx:ev env x=Aa (.pointer (Aa ⟨b,o,Ab⟩)))
  (p:us.length=size) (h:St w0 m rs w) (q:Cc b cs e∈m) (i:(cs.toList.drop o).take size=us):Runs P n env w ⟨d,.load t x,ty,pos,af,g⟩ (.agg us.toArray) w:=
 Be4 s r hx p λj u a=>by
  rw[Addr.add_lit];refine Ak6 h q ?_;rw[<-i,Nk]at a;split at a
  ·rw[K6,Qi]at a;exact a
  ·cases a
theorem Biz{K} {d:Nat}{e size bytes z} (i:Sz P e size bytes z) (g:St w0 m rs w)
  (h:∀b w',Rel w w'->St w0 (Cc b z.cells e::m) rs w'->K (.pointer (Aa ⟨b,0,Ab⟩)) w'):Ex P n env w ⟨Aa d,.alloc e,ty,pos,af,Ab⟩ K:=
 Li (w':=w.alloc (.cells z.cells e)) (λa j=>by
  simp[execOp,Instr.alloc,i.zero,newVar,newRow]) (h _ _ (Rel.alloc w _) (g.alloc _ _))
theorem Cdy{K} {d:Nat}{e x v} (hx:ev env x=Aa v) (g:St w0 m rs w)
  (h:∀b w',Rel w w'->St w0 (Cc b v.cells e::m) rs w'->K (.pointer (Aa ⟨b,0,Ab⟩)) w'):Ex P n env w ⟨Aa d,.box e x,ty,pos,af,Ab⟩ K:=
 Li (w':=w.alloc (.cells v.cells e)) (λa i=>by
  simp[execOp,i.ev hx,Instr.box,newVar,newRow]) (h _ _ (Rel.alloc w _) (g.alloc _ _))
theorem St.stB{t x y b j cs cs' e u size bytes z} (D:Sz P t size bytes z) (hx:ev env x=Aa (.pointer (Aa ⟨b,j,Ab⟩))) (G:ev env y=Aa u) (hu:u.cells.size=size) (h:u.cells.toList.all (·.oneCell')=true)
  (C:Dm (j+u.cells.toList.length) cs.size=true) (q:cs'.toList=cs.toList.take j++u.cells.toList++cs.toList.drop (j+u.cells.toList.length)) (o:St w0 (Cc b cs e::m) rs w):∃w',RunsU P n env w ⟨Ab,.store t x y,ty,pos,af,Ab⟩ w'/\St w0 (Cc b cs' e::m) rs w':=by
 obtain⟨_,_,_,r⟩:=o.at' (Bm ..);have g:j+u.cells.toList.length<=cs.size:=by simpa using C
 have A:=Azx (P:=P) (t:=t) D hu h r (wr0 _) g;refine⟨w.setCells b j u.cells.toList,λa p=>by simp[execOp,p.ev hx,p.ev G,Instr.storeAt,Instr.sureAddr,A],o.updHead λF ⟨H,s,_⟩=>?_⟩;have d:=Ahp (X:=F) (b:=b) u.cells.toList j w λx I K=>s x (by omega);have B:cs'.size=cs.size:=by rw[<-Ew,q];simp only[Bt,Dh,D0,Ew]at g⊢;omega
 refine⟨F,⟨λb i=>K8 (H b i) d.size,λx hx=>s x (by omega),?_⟩,d,λ_ i=>.inl i⟩;rw[Adr _ _ _ _ r,Sw _ _ _ (by rw[Ew];exact g),<-q]
theorem Bqs{c0 zs} (e:c0.length=zs.length) (g:∀w,Z w [] (Bc c0 zs)):∀n w,Z w [] (Bc ((Ey n c0).flatten) ((Ey n zs).flatten))
 |0,_=>zN
 |n+1,w=>λF j=>by
  rw[Akr,As9,Akr,As9,O8 e];have i:=g w (λ_=>False) (λ_ h=>h.elim);have d:=Bqs e g n w F j
  exact(Sep.join i d (λ_ h=>h.elim)).up (λb a=>by
   rcases a with a|a
   ·exact a.elim
   ·exact a) d.lt
theorem Cd9{size} (cs:List Value) (e:cs.length=size) k:((Vw (k*size)).map λj=>(cs.toArray[j % size]?).getD default)=((Ey k cs).flatten).toArray:=by
 apply Ast;simp only[Aki,Array.toList_range];induction k with
 |zero=>simp
 |succ k h=>
  rw[Bq1,List.flatten_append,Gk,Yg,List.range_add,Abj,h];congr 1;simp only[As9,A56,Hu,V2];apply List.ext_getElem
  ·simp[e]
  ·intro j a b;have g:j<size:=by simpa using a
   have d:(k*size+j) % size=j:=by rw[Yf,Nat.add_mul_mod_self_right,Nat.mod_eq_of_lt g]
   simp[d,O9 b]
theorem St.newRow (g:St w0 (own++m) rs w){us len} e (h:∀x,(f x).length=k) (b:L.length=len) (a:us.length=len*k) (j:∀w,Z w own (Bc (L.flatMap f) us)) (i:len<=maxLen):
  St w0 (oC (Ar k f L) (Sv.v ⟨Aa ⟨w.heap.size,0,Ab⟩,len,len⟩)::m) rs (w.alloc (.cells us.toArray e)):=by
 have d:=g.allocRow (k:=k) (n:=len) (cap:=len) us [] us.toArray e (by simp) a (Ef _) i (by simpa using a);refine St.rerow (xs:=us) (by rw[Mw h,b,a]) ?_;rw[b];exact(St.iso (l:=own) (l':=Bc (L.flatMap f) us) (m:=Cx k _ len us::m) (d.perm Ct.symm) (j _)).perm Ct
theorem Cd2{K} {d:Nat}{x t e size b z} {k:Nat} y (I:P.underlying t=Aa (.slice e)) (j:Sz P e size b z) (G:∀x,(f x).length=size) (V:∀w,Z w [] (Bc (f y) z.cells.toList)) (hx:ev env x=Aa (.int .i64 (k:Int)))
  (O:k<=1099511627776) (u:Dm b 255=true) (M:St w0 m rs w)
  (h:∀(s:Sv) w',Rel w w'->St w0 (oC (Ar size f (Ey k y)) s.v::m) rs w'->K s.v w'):Ex P n env w ⟨Aa d,.makeSlice t x x,ty,pos,af,Ab⟩ K:=by
 obtain⟨i,hi,Y,R,r⟩:=j.info;have o:b<=255:=by simpa using u
 have hb:(b:Int)*(k:Int)<=281474976710656:=by have:=Rw o O;omega
 have U:IntKind.i64.wrap (k:Int)=(k:Int):=i64_in ⟨by omega,by omega⟩;have g:z.cells.toList.length=size:=by rw[Ew];exact j.2.1
 have p:=Cd9 z.cells.toList g k;have H:=j.2.2
 have q:(Instr.makeSlice t (.int .i64 (k:Int)) (.int .i64 (k:Int))).run P w=.ok (.slice (Aa ⟨w.heap.size,0,Ab⟩) k k) (w.alloc (.cells ((Ey k z.cells.toList).flatten).toArray e)):=by
  by_cases B:k=0
  ·subst B;have C:IntKind.i64.wrap 0=0:=i64_in ⟨by omega,by omega⟩;simp[Instr.makeSlice,run_underlying I,asInt,asIntOf,typeInfo,hi,C,j.run,Go.newRow];rw[show(Vw 0).map (λ_=>(default:Value))= #[]from by simp]
  ·have D:z.cells=z.cells.toList.toArray:=by simp
   have X:z.cells.toList.toArray.size=size:=by simpa using g
   simp only[Instr.makeSlice,run_underlying I,asInt,asIntOf,typeInfo,hi,U,r,Sem.run_bind,Sem.run_pure,Result.andThen_ok,run_program];simp only[Sem.run_ite];generalize W:z.cells.toList=zl at*
   simp[g,Go.newRow,j.zero,j.run,D];rw[if_neg (by omega)];have F:=p;simp only[Ata]at F;rw[F,if_neg (by rw[Akv];omega)]
 refine Li (v:=Sv.v ⟨Aa ⟨w.heap.size,0,Ab⟩,k,k⟩) (w':=w.alloc (.cells ((Ey k z.cells.toList).flatten).toArray e)) (λa N=>by simp[execOp,N.ev hx,q,Sv.v]) (h _ _ (Rel.alloc w _) ?_);refine St.newRow (own:=[]) M e G (by simp) ?_ (λw=>?_) (by simp only[maxLen];omega)
 ·rw[List.length_flatten];simp[j.2.1]
 ·have A:(Ey k y).flatMap f=(Ey k (f y)).flatten:=by rw[List.flatMap_def,List.map_replicate]
  rw[A];exact Bqs (by rw[G,g]) V k w
theorem Cdz{K} {d:Nat}{t e size bytes z} (j:P.underlying t=Aa (.slice e)) (i:Sz P e size bytes z) (g:∀x,(f x).length=size) (b:St w0 m rs w)
  (h:∀(s:Sv) w',Rel w w'->St w0 (oC (Ar size f ([]:List T)) s.v::m) rs w'->K s.v w'):Ex P n env w ⟨Aa d,.buildSlice t 0 #[],ty,pos,af,Ab⟩ K:=by
 refine Li (v:=Sv.v ⟨Aa ⟨w.heap.size,0,Ab⟩,0,0⟩) (w':=w.alloc (.cells #[] e)) (λa o=>?_) (h _ _ (Rel.alloc w _) ?_)
 ·simp[execOp,Instr.buildSlice,run_underlying j,i.run,Instr.fill,Go.newRow];rw[show(Vw 0).map (λ_=>(default:Value))= #[]from by simp];exact⟨rfl,rfl⟩
 ·exact St.newRow (own:=[]) (us:=[]) b e g rfl (by simp) (λ_=>zN) (by simp[maxLen])
def evP (env:Env):List (Nat×Operand)->Option (List (Nat×Value))
 |[]=>Aa []
 |(i,x)::r=>match ev env x,evP env r with
  |some v,Aa vs=>Aa ((i,v)::vs)
  |_,_=>Ab
theorem Has.evP{n a env} (h:Has n a env):∀ {l:List (Nat×Operand)} {vs:List (Nat×Value)},Go.Proofs.YtbbefmccoomfhaaGreatDoor.evP env l=Aa vs->l.map (λp=>(p.1,a.eval p.2))=vs
 |[],vs,hv=>by simp[Go.Proofs.YtbbefmccoomfhaaGreatDoor.evP]at hv;simp[hv]
 |(i,x)::r,vs,hv=>by
  unfold Go.Proofs.YtbbefmccoomfhaaGreatDoor.evP at hv;split at hv
  ·rename_i v e b d;simp at hv;subst hv;simp[h.ev b,h.evP d]
  ·cases hv
theorem B4d{d g t parts vs cells} (j:evP env parts=Aa vs) (h:P.built t vs=Aa cells):
  Runs P n env w ⟨d,.build t parts.toArray,ty,pos,af,g⟩ (.agg cells) w:=λa i=>by
 have b:=i.evP j;have e:(Instr.build t (parts.toArray.map λp=>(p.1,a.eval p.2))).run P w=.ok (.agg cells) w:=run_build w t _ cells (by rw[Aki,<-h,<-b]);simp only[execOp,Sem.run_bind,e,Result.andThen_ok,Sem.run_pure]
theorem Cd0{K g} {d:Nat}{t e size bytes z parts vs} l us len (V:P.underlying t=Aa (.slice e)) (B:Sz P e size bytes z) (O:∀x,(f x).length=size)
  (U:evP env parts=Aa vs) (R:l.length=len) (y:us.length=len*size) (o:C1 0 len=true) (u:Dm (len*size) 1000=true)
  (b:Instr.fill (λi=>Aa (i*size,size)) ((Vw (len*size)).map (z.cells[· % z.cells.size]!)) vs=Aa us.toArray) (W:∀w,Z w own (Bc (l.flatMap f) us))
  (I:St w0 (own++m) rs w) (h:∀(s:Sv) w',Rel w w'->St w0 (oC (Ar size f l) s.v::m) rs w'->K s.v w'):
  Ex P n env w ⟨Aa d,.buildSlice t len parts.toArray,ty,pos,af,g⟩ K:=by
 obtain⟨i,hi,A,j,N⟩:=B.info;have C:=Ql u;have r:0<len:=by simpa using o
 have Dw:=B.2.2;have q:¬len*size=0:=by intro D;rcases Akv.1 D with h|h<;>omega
 refine Li (v:=Sv.v ⟨Aa ⟨w.heap.size,0,Ab⟩,len,len⟩) (w':=w.alloc (.cells us.toArray e)) (λa M=>?_) (h _ _ (Rel.alloc w _) (St.newRow I e O R y W ?_))
 ·have F:=M.evP U;have G:(parts.toArray.map λ(i,x)=>(i,a.eval x)).toList=vs:=by rw[Aki,<-F]
  have H:=run_buildSlice (P:=P) w t e len (parts.toArray.map λp=>(p.1,a.eval p.2)) us.toArray i z V hi A (by rw[j];omega) (by rw[j];exact q) (by rw[j,G];exact b);simp only[execOp,Sem.run_bind,H,Result.andThen_ok,Sem.run_pure];rfl
 ·simp only[maxLen];have:len<=len*size:=Brc _ Dw;omega
end
end
section
open Go.RowKit
inductive Lr (σ ρ:Type) where
 |go (s:σ)
 |out (r:ρ)
def xg (p:Prop) [Decidable p] {α:Type} (x:Option α):Option α:=if p then x else Ab
def Lr.on {a ρ α:Type} (r:Lr a ρ) (f:a->α) (g:ρ->α):α:=match r with
 |.go s=>f s
 |.out r=>g r
def Lk {a ρ:Type} (f:a->Option (Lr a ρ)):Nat->a->Option ρ
 |0,_=>Ab
 |n+1,s=>(f s).bind λr=>r.on (Lk f n) Aa
open Classical in
def Cp {a ρ:Type} (f:a->Option (Lr a ρ)) (s:a):Option ρ:=
 if h:∃n r,Lk f n s=Aa r then Aa h.choose_spec.choose else Ab
theorem Aw8{σ ρ f}:∀ {n m:Nat} {s:σ} {r:ρ},Lk f n s=Aa r->n<=m->Lk f m s=Aa r
 |0,_,_,_,h,_=>by cases h
 |n+1,0,_,_,_,hm=>by omega
 |n+1,m+1,s,r,h,hm=>by
  unfold Lk at h⊢;cases a:f s with
  |none=>rw[a]at h;cases h
  |some x=>
   rw[a]at h;cases x with
   |go s'=>exact Aw8 (n:=n) h (by omega)
   |out b=>exact h
theorem Wq{σ ρ f} {s:σ} {r:ρ}:Cp f s=Aa r↔∃n,Lk f n s=Aa r:=by
 unfold Cp;constructor
 ·intro h;split at h
  ·rename_i hx;simp only[D1.injEq]at h;subst h;exact⟨_,hx.choose_spec.choose_spec⟩
  ·cases h
 ·rintro ⟨n,hn⟩;have hx:∃n r,Lk f n s=Aa r:=⟨n,r,hn⟩;rw[dif_pos hx];have b:=hx.choose_spec.choose_spec;have c:=Aw8 b (Nat.le_max_left hx.choose n);have a:=Aw8 hn (Nat.le_max_right hx.choose n);rw[c]at a;exact a
theorem Aw9{σ ρ} (f:σ->Option (Lr σ ρ)) s:Cp f s=(f s).bind λr=>r.on (Cp f) Aa:=by
 cases b:f s with
 |none=>
  cases h:Cp f s with
  |none=>rfl
  |some r=>
   obtain⟨n,a⟩:=Wq.1 h;cases n with
   |zero=>cases a
   |succ n=>unfold Lk at a;rw[b]at a;cases a
 |some x=>
  cases x with
  |out r=>show Cp f s=Aa r;exact Wq.2 ⟨1,by unfold Lk;rw[b];rfl⟩
  |go s'=>
   show Cp f s=Cp f s';cases h:Cp f s' with
   |some r=>obtain⟨n,a⟩:=Wq.1 h;exact Wq.2 ⟨n+1,by unfold Lk;rw[b];exact a⟩
   |none=>
    cases c:Cp f s with
    |none=>rfl
    |some r=>
     obtain⟨n,a⟩:=Wq.1 c;cases n with
     |zero=>cases a
     |succ n=>unfold Lk at a;rw[b]at a;rw[Wq.2 ⟨n,a⟩]at h;cases h
def A2 {a ρ:Type} (f:Nat->a->Option (Lr a ρ)) (e:a->ρ):Nat->Nat->a->Option ρ
 |0,_,s=>Aa (e s)
 |m+1,k,s=>(f k s).bind λr=>r.on (A2 f e m (k+1)) Aa
section
variable {α β:Type}
theorem A1{x} {f:α->Option β}{r} (h:x.bind f=Aa r):∃y,x=Aa y/\f y=Aa r:=Tu.1 h
theorem C8{p} [Decidable p]{x} {r:α} (h:xg p x=Aa r):p/\x=Aa r:=by
 unfold xg at h;split at h
 ·exact⟨by assumption,h⟩
 ·cases h
theorem Bb8{σ ρ f} {s:σ} {r:ρ} (h:Cp f s=Aa r):∃n,Lk f n s=Aa r:=Wq.1 h
theorem B0l{σ ρ f n} {s:σ} {r:ρ} (h:Lk f n s=Aa r):∃m z,n=m+1/\f s=Aa z/\z.on (Lk f m) Aa=Aa r:=by
 cases n with
 |zero=>cases h
 |succ m=>obtain⟨z,a,b⟩:=A1 (x:=f s) h;exact⟨m,z,rfl,a,b⟩
end
@[reducible] def un {α β : Type} {γ : Sort _} (f : α -> β -> γ) : α × β -> γ
 |(a,b)=>f a b
def Aq (x:Int):Prop:= -9223372036854775808<=x/\x<=9223372036854775807
def Aww:Int->Bool
 |.ofNat n=>Dm n 9223372036854775807
 |.negSucc n=>Dm n 9223372036854775807
theorem Bz3:∀x,Aww x=true↔Aq x
 |.ofNat n=>by have:Aww (.ofNat n)=Dm n 9223372036854775807:=rfl;rw[this,Nat.ble_eq];show _↔(-9223372036854775808:Int)<=(n:Int)/\(n:Int)<=9223372036854775807;omega
 |.negSucc n=>by have:Aww (.negSucc n)=Dm n 9223372036854775807:=rfl;rw[this,Nat.ble_eq];unfold Aq;omega
instance (x:Int):Decidable (Aq x):=decidable_of_iff _ (Bz3 x)
section
variable {P:Program} {w:World} {w0:Dn} {l m:List As} {rs:List Rd} {f:FuncId} {vs:List Value}
theorem St.back {F F1 h S:Bs}{w' l' rs1} (o:F6 w0.X w0.w w) (g:∀b,w0.S b->b.1<w0.w.heap.size/\¬w0.X b) (g2:Sep m h w) (g3:∀b,F1 b->¬h b) (g4:∀b,F1 b->F b) (g5:∀b,h b->F b)
  (j:∀b,F b->w0.w.heap.size<=b.1\/w0.X b) (q:∀r∈rs,r.ok (λb=>(w0.S b\/w0.X b\/w0.w.heap.size<=b.1)/\b.1<w.heap.size/\¬F b) w) (G:H5 F1 S w l' rs1 w') (k:rs1=[]\/∀b,S b->(w0.S b\/w0.X b\/w0.w.heap.size<=b.1)/\¬h b):St w0 (l'++m) (rs1++rs) w':=by
 obtain⟨k2,F',t,p,u⟩:=G;have n:Sep m h w':=g2.loc (k2.lc λb g c=>g3 b c g)
 have s:∀b,F' b->¬h b:=λb g c=>by
  rcases p b g with d|d
  ·have:=g2.lt b c;omega
  ·exact g3 b d c
 refine⟨o.step k2 λb g=>j b (g4 b g),g,_,Sep.join t n s,λb a=>?_,λr i=>?_⟩
 ·rcases a with a|a
  ·rcases p b a with c|c
   ·have:=o.size;exact .inl (by omega)
   ·exact j b (g4 b c)
  ·exact j b (g5 b a)
 ·rcases Ei.1 i with i|i
  ·rcases k with rfl|k
   ·cases i
   ·refine r.mono (λb a=>⟨?_,a.2.1,λc=>?_⟩) (Lc.refl _ _) (u r i)
    ·rcases a.1 with c|c|c
     ·exact(k b c).1
     ·exact .inr ((j b (g4 b c)).elim .inr .inl)
     ·have:=o.size;exact .inr (.inr (by omega))
    ·rcases c with c|c
     ·exact a.2.2 c
     ·rcases a.1 with d|d|d
      ·exact(k b d).2 c
      ·exact g3 b d c
      ·have:=g2.lt b c;omega
  ·refine r.mono (λb a=>⟨a.1,K8 a.2.1 k2.size,λc=>?_⟩) (k2.lc λb a e=>a.2.2 (g4 b e)) (q r i);rcases c with c|c
   ·rcases p b c with d|d
    ·have:=a.2.1;omega
    ·exact a.2.2 (g4 b d)
   ·exact a.2.2 (g5 b c)
theorem St.callO {Y:Type} {val:Y->Value} {l':Y->List As} (h:St w0 (l++m) rs w)
  (q:∀X S:Bs,Sep l X w->(∀b,S b->b.1<w.heap.size/\¬X b)->(∀r∈rs,r.ok S w)->(∀a∈m,∃F,(∀b,F b->S b)/\a.ok F w)->Ret P f vs w (λu w'=>∃y,u=val y/\H5 X S w (l' y) [] w')):
  Ret P f vs w (λu w'=>∃y,u=val y/\St w0 (l' y++m) rs w'):=by
 obtain⟨i,p,F,j,k,e⟩:=h;obtain⟨F1,t,g1,g2,g3,g4,g5⟩:=j.split;refine(q F1 (λb=>b.1<w.heap.size/\¬F1 b) g1 (λ_ h=>h) (λr s=>r.mono (λb c=>⟨c.2.1,λd=>c.2.2 (g4 b d)⟩) (Lc.refl _ _) (e r s)) (λa o=>?_)).mono λu w' ⟨y,hu,G⟩=>⟨y,hu,St.back i p g2 g3 g4 g5 k e G (.inl rfl)⟩;obtain⟨F',g,n⟩:=g2.mem o;exact⟨F',λb c=>⟨g2.lt b (g b c),λd=>g3 b d (g b c)⟩,n⟩
theorem St.callR {Y:Type} {val:Y->Value} {l':Y->List As} {rs1:Y->List Rd} (h:St w0 (l++m) rs w)
  (k:∀X S:Bs,Sep l X w->(∀b,S b->b.1<w.heap.size/\¬X b)->(∀r∈rs,r.ok S w)->Ret P f vs w (λu w'=>∃y,u=val y/\H5 X S w (l' y) (rs1 y) w')):
  Ret P f vs w (λu w'=>∃y,u=val y/\St w0 (l' y++m) (rs1 y++rs) w'):=by
 obtain⟨e,j,F,g,i,d⟩:=h;obtain⟨F1,n,g1,g2,g3,g4,g5⟩:=g.split;refine(k F1 (λb=>(w0.S b\/w0.X b\/w0.w.heap.size<=b.1)/\b.1<w.heap.size/\¬F b) g1 (λb a=>⟨a.2.1,λc=>a.2.2 (g4 b c)⟩) d).mono λu w' ⟨y,hu,G⟩=>⟨y,hu,St.back e j g2 g3 g4 g5 i d G (.inr λb a=>⟨a.1,λc=>a.2.2 (g5 b c)⟩)⟩
theorem H5.rel{S w'} (h:H5 (λ_=>False) S w m rs w'):Rel w w':=h.Aor.rel λ_ h=>h
theorem St.callF {Y:Type} {val:Y->Value} {l':Y->List As} (h:St w0 m rs w)
  (p:∀X S:Bs,Sep [] X w->(∀b,S b->b.1<w.heap.size/\¬X b)->(∀r∈rs,r.ok S w)->(∀a∈m,∃F,(∀b,F b->S b)/\a.ok F w)->Ret P f vs w (λu w'=>∃y,u=val y/\H5 X S w (l' y) [] w')):
  Ret P f vs w (λu w'=>Rel w w'/\∃y,u=val y/\St w0 (l' y++m) rs w'):=by
 obtain⟨g,o,F,d,i,e⟩:=h;refine(p (λ_=>False) (λb=>b.1<w.heap.size) (λ_ h=>h.elim) (λ_ h=>⟨h,λh=>h⟩) (λr q=>r.mono (λb c=>c.2.1) (Lc.refl _ _) (e r q)) (λa n=>?_)).mono λu w' ⟨y,hu,G⟩=>⟨G.rel,y,hu,St.back (F1:=λ_=>False) g o d (λ_ h=>h.elim) (λ_ h=>h.elim) (λ_ h=>h) i e G (.inl rfl)⟩;obtain⟨F',j,k⟩:=d.mem n;exact⟨F',λb c=>d.lt b (j b c),k⟩
theorem St.callFR {Y:Type} {val:Y->Value} {l':Y->List As} {rs1:Y->List Rd} (h:St w0 m rs w)
  (k:∀X S:Bs,Sep [] X w->(∀b,S b->b.1<w.heap.size/\¬X b)->(∀r∈rs,r.ok S w)->Ret P f vs w (λu w'=>∃y,u=val y/\H5 X S w (l' y) (rs1 y) w')):
  Ret P f vs w (λu w'=>Rel w w'/\∃y,u=val y/\St w0 (l' y++m) (rs1 y++rs) w'):=by
 obtain⟨e,j,F,g,i,c⟩:=h;exact(k (λ_=>False) (λb=>(w0.S b\/w0.X b\/w0.w.heap.size<=b.1)/\b.1<w.heap.size/\¬F b) (λ_ h=>h.elim) (λb a=>⟨a.2.1,λd=>d⟩) c).mono λu w' ⟨y,hu,G⟩=>⟨G.rel,y,hu,St.back (F1:=λ_=>False) e j g (λ_ h=>h.elim) (λ_ h=>h.elim) (λ_ h=>h) i c G (.inr λb a=>⟨a.1,a.2.2⟩)⟩
theorem B7t{S c v vl} (h:∀a∈m,∃F,(∀b,F b->S b)/\a.ok F w) (g:oV (oC c v) vl∈m):c.rd S w v:=by obtain⟨F,d,e,_⟩:=h _ g;exact c.mono d (Lc.refl _ _) (c.seen e)
theorem B7u{S c v o vl} (h:∀a∈m,∃F,(∀b,F b->S b)/\a.ok F w) (g:oV o vl∈m) (i:vR v c∈vl):c.rd S w v:=by obtain⟨F,d,_,e⟩:=h _ g;exact c.mono d (Lc.refl _ _) (e _ i)
end
end
section
open Go.RowKit
theorem Ao9 {A:Type} {l:List A}{q a} (h:q<l.length):l.set q a=l.take q++[a]++l.drop (q+1):=by rw[A6h,if_pos h];simp
theorem Bqr:∀ {q:Nat} {cs:List Ce} {vs:List Value} {c:Ce} {v:Value},cs[q]?=Aa c->vs[q]?=Aa v->(Bc cs vs)[q]?=Aa (oC c v)
 |0,c::cs,v::vs,_,_,h1,h2=>by simp at h1 h2;subst h1;subst h2;rfl
 |q+1,c::cs,v::vs,_,_,h1,h2=>by simp only[Bc,Bq6];exact Bqr (by simpa using h1) (by simpa using h2)
 |_,[],_,_,_,h1,_=>by simp at h1
 |_,_::_,[],_,_,_,h2=>by simp at h2
theorem Ass:∀ {cs:List Ce} {vs:List Value},cs.length=vs.length->(Bc cs vs).length=vs.length
 |[],[],_=>rfl
 |[],_::_,h=>by simp at h
 |_::_,[],h=>by simp at h
 |_::_,_::_,h=>by simp[Bc];exact Ass (by simpa using h)
theorem B3k {A:Type} {l:List A}{q a} (h:l[q]?=Aa a):l.Perm (a::l.eraseIdx q):=by
 obtain⟨d,rfl⟩:=H3.1 h;rw[A53];have b:l=l.take q++l[q]::l.drop (q+1):=by simp
 conv=>lhs;rw[b]
 exact Ct
theorem Beb {A:Type} {l:List A}{q a} (h:q<l.length):(a::l.eraseIdx q).Perm (l.set q a):=by rw[A53,Ao9 h,Ci];exact Ct.symm
def Mf (k:Nat) {T:Type} (f:T->List Ce) (L:List T) (v:Value) (q:Nat) (u:Value):As where
 ok:=λF w=>∃xs:List Value,(L.flatMap f).length=xs.length/\xs[q]?=Aa u/\Sep (Cx k v L.length xs::(Bc (L.flatMap f) xs).eraseIdx q) F w
 loc:=λh ⟨xs,b,d,a⟩=>⟨xs,b,d,a.loc h⟩
 lt:=λ⟨_,_,_,a⟩ e=>a.lt _ e
 up:=λi g ⟨xs,b,d,a⟩=>⟨xs,b,d,a.up i g⟩
section
variable {w0:Dn} {w w':World} {m l l' own:List As} {rs:List Rd} {c c':Ce} {v:Value} {S:Bs}
variable {T:Type} {k:Nat} {f:T->List Ce} {L:List T}
theorem Aow{F n xs} (h:(Cx k v n xs).ok F w){j u} (a:xs[j]?=Aa u):w.cell? (Et v j)=Aa u:=by
 obtain⟨_,g,i⟩:=h;rcases i with⟨rfl,p⟩|⟨b,off,cap,cur,e,r,rfl,q,⟨o,_⟩,_,_,_,d⟩
 ·rw[p,K9]at g;rw[I4 g]at a;simp at a
 ·exact Aov o d a
def oRe (k:Nat) {T:Type} (f:T->List Ce) (L:List T) (v:Value) (hi:Nat):As where
 ok:=λF w=>∃xs:List Value,(L.flatMap f).length=xs.length/\Sep (Cx k v L.length xs::(Bc (L.flatMap f) xs).drop (hi*k)) F w
 loc:=λh ⟨xs,b,a⟩=>⟨xs,b,a.loc h⟩
 lt:=λ⟨_,_,a⟩ d=>a.lt _ d
 up:=λg e ⟨xs,b,a⟩=>⟨xs,b,a.up g e⟩
theorem oRe.cut (a:∀x,(f x).length=k) {s:Sv}{hi lo} (g:hi<=lo) (i:lo<=L.length){F} (h:(oRe k f L s.v hi).ok F w):(Ar k f ((L.take L.length).drop lo)).ow F w (s.cut k lo L.length).v:=by obtain⟨xs,hx,d,F1,b,g1,g2,g3,g4,g5⟩:=h;have j:=E4 k g;have e:=g2.drop (lo*k-hi*k);rw[Mq,show hi*k+(lo*k-hi*k)=lo*k by omega]at e;refine Own.cut' a i (Ef _) hx ⟨d,F1,b,g1,?_,g3,g4,g5⟩;rw[Rv (by rw[Ass hx,<-hx,Mw a];exact Ef _)];exact e
theorem oRe.form{F} {s:Sv}{hi} (h:(oRe k f L s.v hi).ok F w):s.n=L.length/\s.n<=s.c:=by
 obtain⟨xs,hx,r,F1,j,⟨g0,q,g⟩,_⟩:=h;rcases g with⟨e,y⟩|⟨b,off,cap,cur,o,u,e,t,x,i,_⟩
 ·obtain⟨a,e2,d⟩:s.p=Ab/\s.n=0/\s.c=0:=by simpa [Sv.v]using e
  omega
 ·obtain⟨a,e2,d⟩:s.p=Aa ⟨b,off,Ab⟩/\s.n=L.length/\s.c=cap:=by simpa [Sv.v]using e
  omega
theorem Cdw{P n env ty pos af K} {d:Nat}{x y t e size bytes hi z} {s g:Sv}{f M} (ht:P.underlying t=Aa (.slice e)) (hs:Sz P e size bytes z) (hx:ev env x=Aa (g.cut size 0 hi).v) (a2:ev env y=Aa s.v)
  (O:∀x,(f x).length=size) (G:hi<=M.length) (hM:St w0 (oC (Ar size f L) s.v::oC (Ar size f M) g.v::m) rs w) (V:L.length+hi<=1099511627776) (a0:Dm bytes 127=true)
  (h:∀(s':Sv) w',St w0 (oC (Ar size f (L++M.take hi)) s'.v::oRe size f M g.v hi::m) rs w'->K (s'.v) w'):
  Ex P n env w ⟨Aa d,.call {callee:=.builtin .append,args:= #[y,x],argTypes:= #[t,t]},ty,pos,af,Ab⟩ K:=by
 have a3:=St.unrow (hM.perm (List.Perm.swap ..));obtain⟨xs,hl,A⟩:=a3;have H:=A.at' (Bm ..);have W:=A.drop
 have i:∀j u,xs[j]?=Aa u->∃a,g.p=Aa a/\w.cell? (a.add j)=Aa u:=λj u o=>by
  obtain⟨F,_,gl,gr⟩:=H;rcases gr with⟨e1,hn⟩|⟨b,off,cap,cur,e',hd,e1,hb,⟨hg,_⟩,_,_,_,a5⟩
  ·rw[hn,K9]at gl;rw[I4 gl]at o;simp at o
  ·obtain⟨ep,_⟩:g.p=Aa ⟨b,off,Ab⟩/\_:=by simpa [Sv.v]using e1
   rw[<-a5,Nk]at o;split at o
   ·rw[K6,Qi]at o;exact⟨_,ep,by rw[Addr.add_lit];simp[World.cell?,hg,o]⟩
   ·cases o
 have N:Bc ((M.take hi).flatMap f) (xs.take (hi*size))=(Bc (M.flatMap f) xs).take (hi*size):=by rw[Acg O,Akh]
 have c0:=E4 size G;have Y:(M.flatMap f).length=M.length*size:=Mw O M;have B:((M.take hi).flatMap f).length=(xs.take (hi*size)).length:=by rw[Acg O,Dh,Dh,hl]
 have C:∃S,Eg S w ((M.take hi).flatMap f) (xs.take (hi*size)):=by obtain⟨_,_,F,h2,_⟩:=W;obtain⟨F1,_,U,_⟩:=h2.split;exact⟨F1,Aex B (by rw[N];exact U.take _)⟩
 obtain⟨S,C⟩:=C
 have e0:(g.cut size 0 hi).v=.slice g.p hi g.c:=by
  have R:(if g.c=0 then g.p else g.p.map (·.add (0*size)))=g.p:=by
   split
   ·rfl
   ·cases g.p with
    |none=>rfl
    |some a=>simp[Addr.add]
  simp only[Sv.cut,Sv.v,Aky,R]
 have I:Src P size t (g.cut size 0 hi).v hi (xs.take (hi*size)) w:=by
  rw[e0];cases R:g.p with
  |none=>
   have a6:xs=[]:=by
    cases xs with
    |nil=>rfl
    |cons u r=>obtain⟨a,q,_⟩:=i 0 u rfl;rw[R]at q;cases q
   subst a6
   have hz:hi=0:=by
    have:=hs.2.2;have:M.length*size=0:=by rw[<-Y,hl];rfl
    rcases Akv.1 this with h|h<;>omega
   subst hz;simpa using Src.ofNil w ht _
  |some a=>
   exact Src.ofSlice w ht a _ _ _ (by rw[<-B,Mw O,Dh,Pb G]) (λj u o=>by
    rw[Nk]at o;split at o
    ·obtain⟨a',q,hc⟩:=i j u o;rw[R]at q;cases q;exact hc
    ·cases o) (Ag9 C)
 have D:bytes<=127:=by simpa using a0
 have X:St w0 (oC (Ar size f L) s.v::(Bc ((M.take hi).flatMap f) (xs.take (hi*size))++(Cx size g.v M.length xs::((Bc (M.flatMap f) xs).drop (hi*size)++m)))) rs w:=by
  refine A.perm ?_;rw[N]
  conv=>lhs;rw[<-Kk (hi*size) (Bc (M.flatMap f) xs)]
  have p1:(Cx size g.v M.length xs::((Bc (M.flatMap f) xs).take (hi*size)++(Bc (M.flatMap f) xs).drop (hi*size)++oC (Ar size f L) s.v::m)).Perm (oC (Ar size f L) s.v::Cx size g.v M.length xs::((Bc (M.flatMap f) xs).take (hi*size)++((Bc (M.flatMap f) xs).drop (hi*size)++m))):=by refine((Ct (a:=oC (Ar size f L) s.v)).cons _).trans ((List.Perm.swap ..).trans ?_);rw[Ci]
  exact p1.trans (Ct.symm.cons _)
 obtain⟨s',w',hr,U⟩:=St.app (tyy:=ty) (M:=M.take hi) ht hs X I (by rw[Dh];omega) B zI (by simp only[maxLen];omega) (by
  have:=Rw V D;omega)
 have h4:St w0 (oC (Ar size f (L++M.take hi)) s'.v::oRe size f M g.v hi::m) rs w':=by
  have h5:St w0 ((Cx size g.v M.length xs::(Bc (M.flatMap f) xs).drop (hi*size))++(oC (Ar size f (L++M.take hi)) s'.v::m)) rs w':=U.perm (by
   rw[Fi];exact(List.Perm.swap ..).trans (Ct.symm.cons _))
  exact(St.iso (l':=[oRe size f M g.v hi]) h5 λF hF=>⟨hF.lt,F,λ_=>False,⟨xs,hl,hF⟩,(λ_ h=>h.elim),(λ_ _ h=>h),(λ_ h=>h),λ_ h=>h.elim⟩).perm (List.Perm.swap ..)
 refine Li (v:=s'.v) (w':=w') (λa q=>?_) (h s' w' h4);simp[execOp,resolve,invoke,builtin,q.ev a2,q.ev hx,hr]
theorem St.open [Inhabited T]{vl i j} {s:Sv} (h:St w0 (oV (oC (Ar k f L) v) vl::m) rs w) (B:vC (Et v (i*k+j)) s.v∈vl) (q:∀x,(f x).length=k) (hi:i<L.length) (p:(f (el L i))[j]?=Aa c):
  St w0 (oC c s.v::Mf k f L v (i*k+j) s.v::m) rs w:=by
 refine St.iso (l:=[oV (oC (Ar k f L) v) vl]) (l':=[oC c s.v,Mf k f L v (i*k+j) s.v]) h λF ⟨y,F1,K,⟨⟨xs,g1,g2⟩,gv⟩,_,_,o,_⟩=>?_;have z:j<k:=by have:=(H3.1 p).1;rwa [q]at this
 have r:(L.flatMap f)[i*k+j]?=Aa c:=by rw[Amd q L i j hi z];exact p
 have d:i*k+j<xs.length:=by rw[<-g1];exact(H3.1 r).1
 have a:w.cell? (Et v (i*k+j))=Aa s.v:=(gv _ B).2.2;obtain⟨_,M,_,C,_⟩:=id g2;have hx:xs[i*k+j]?=Aa s.v:=by have:=Aow C (O9 d);rw[this]at a;rw[O9 d];exact a
 have A:=B3k (Bqr r hx);have g3:Sep (oC c s.v::Cx k v L.length xs::(Bc (L.flatMap f) xs).eraseIdx (i*k+j)) F1 w:=g2.perm ((A.cons _).trans (List.Perm.swap ..));obtain⟨N,u,g,D,t,G,H,I⟩:=g3;exact⟨y,u,g,D,⟨t.lt,g,λ_=>False,⟨xs,g1,hx,t⟩,(λ_ h=>h.elim),(λ_ _ h=>h),(λ_ h=>h),λ_ h=>h.elim⟩,G,λb e=>o b (H b e),λb e=>o b (I b e)⟩
theorem St.close [Inhabited T]{i j u} a (h:St w0 (oC c' u::Mf k f L v (i*k+j) u::m) rs w) (H:∀x,(f x).length=k) (hi:i<L.length) (I:C1 j k=true) (D:f a=(f (el L i)).set j c'):St w0 (oC (Ar k f (L.set i a)) v::m) rs w:=by
 refine St.iso (l:=[oC c' u,Mf k f L v (i*k+j) u]) (l':=[oC (Ar k f (L.set i a)) v]) h λF ⟨g,F1,s,A,⟨_,N,_,⟨xs,g1,g2,g3⟩,_,_,g5,_⟩,B,C,t⟩=>?_;have o:j<k:=by simpa using I
 have e:=g3.up (F':=s) g5 (λb G=>g b (t b G));obtain⟨p,hx⟩:=H3.1 g2;have d:(L.set i a).flatMap f=(L.flatMap f).set (i*k+j) c':=Ame H L i j c' a hi o D
 have M:Bc ((L.set i a).flatMap f) xs=(Bc (L.flatMap f) xs).set (i*k+j) (oC c' u):=by
  have r:∀(q:Nat) (cs:List Ce) (vs:List Value),vs[q]?=Aa u->Bc (cs.set q c') vs=(Bc cs vs).set q (oC c' u):=by
   intro q;induction q with
   |zero=>intro cs vs K;cases cs<;>cases vs<;>simp_all [Bc]
   |succ q O=>intro cs vs K;cases cs<;>cases vs<;>simp_all [Bc]
  rw[d,r _ _ _ g2]
 have y:Sep (Cx k v L.length xs::Bc ((L.set i a).flatMap f) xs) F w:=by have z:Sep (oC c' u::Cx k v L.length xs::(Bc (L.flatMap f) xs).eraseIdx (i*k+j)) F w:=⟨g,F1,s,A,e,B,C,t⟩;rw[M];exact z.perm ((List.Perm.swap ..).trans ((Beb (by rw[Ass g1];exact p)).cons _))
 exact⟨g,F,λ_=>False,⟨xs,by rw[d,Ft,g1],by rw[Ft];exact y⟩,(λ_ h=>h.elim),(λ_ _ h=>h),(λ_ h=>h),λ_ h=>h.elim⟩
theorem St.more{r} (h:St w0 m rs w) (j:∀S,(∀r∈rs,r.ok S w)->r.ok S w):St w0 m (r::rs) w:=by
 obtain⟨d,i,F,e,g,b⟩:=h;refine⟨d,i,F,e,g,λo a=>?_⟩;rcases Bq.1 a with rfl|a
 ·exact j _ b
 ·exact b o a
theorem St.nilS (h:St w0 m rs w) k f:St w0 (Cx k (.slice Ab 0 0) ([]:List T).length []::m) (rX [] (([]:List T).flatMap f)::rs) w:=
 (h.pure (Bfg k)).more λ_ _=>rfl
theorem St.toS (h:St w0 (oC (Ar k f L) v::m) rs w):∃xs,St w0 (Cx k v L.length xs::m) (rX xs (L.flatMap f)::rs) w:=by obtain⟨xs,e,a⟩:=h.unrow;refine⟨xs,?_⟩;have b:=a.perm (m':=Bc (L.flatMap f) xs++(Cx k v L.length xs::m)) Ct.symm;exact St.fix (l:=Bc (L.flatMap f) xs) (r:=rX xs (L.flatMap f)) b λF d=>Aex e d
theorem St.sealS{xs} (h:St w0 (Cx k v L.length xs::m) rs w) (_hf:∀x,(f x).length=k) (N:rX xs (L.flatMap f)∈rs):St w0 m (rV v (Ar k f L)::rs) w:=by
 obtain⟨I,M,F,K,A,B⟩:=h;obtain⟨H,F1,z,g1,g2,g3,g4,g5⟩:=K;have hx:=B _ N;refine⟨I,M,z,g2,λb a=>A b (g5 b a),λr d=>?_⟩;rcases Bq.1 d with rfl|d
 ·have y:Eg (λb=>(w0.S b\/w0.X b\/w0.w.heap.size<=b.1)/\b.1<w.heap.size/\¬z b) w (L.flatMap f) xs:=Z0 (λb a=>⟨a.1,a.2.1,λi=>a.2.2 (g5 b i)⟩) (Lc.refl _ _) _ _ hx;obtain⟨_,D,G⟩:=id g1;rcases G with⟨rfl,C⟩|⟨b,off,cap,cur,e,U,rfl,p,V,g,q,O,R⟩
  ·exact⟨Ab,0,by rw[C],by omega,by simp[maxLen],λt=>absurd (I4 C) t⟩
  ·refine⟨_,cap,rfl,g,q,λ_=>⟨b,off,xs,rfl,λj s=>?_,D,λj u s=>?_,y⟩⟩
   ·have o:=p j (K8 s (E4 _ g));exact⟨.inr ((A _ (g4 _ o)).elim .inr .inl),H _ (g4 _ o),g3 _ o⟩
   ·have:=Aow g1 s;simpa [Et]using this
 ·exact r.mono (λb a=>⟨a.1,a.2.1,λi=>a.2.2 (g5 b i)⟩) (Lc.refl _ _) (B r d)
theorem St.unV{o vl} (h:St w0 (oV o vl::m) rs w){r} (e:∀F,(∀x∈vl,x.ok F w)->o.ok F w->r.ok F w):St w0 m (r::rs) w:=
 St.fix (l:=[oV o vl]) (r:=r) h λ_F ⟨_,F1,_,⟨a,b⟩,_,_,d,_⟩=>r.mono d (Lc.refl _ _) (e F1 b a)
end
section
variable {P:Program} {n:Nat} {ops:Array Oper} {Q:Post} {env:Env} {w:World} {w0:Dn} {rest:List Oper} {ty:TypeId} {pos:String} {af:Array Edge} {m own:List As} {rs:List Rd}
variable {T:Type} {k:Nat} {f:T->List Ce} {L:List T}
theorem Bir{d1 q x y t e ty2 pos2 af2 size bytes z v} {s:Sv}{xs} a (C:C1 d1 n=true) (D:C1 q n=true)
  (I:P.underlying t=Aa (.slice e)) (N:Sz P e size bytes z) (hx:ev env x=Aa v) (o:v.cells.size=size) (G:Dm size 1000=true) (H:∀u,ev ((d1,u)::env) y=Aa s.v)
  (V:St w0 (Cx size s.v L.length xs::m) rs w) (F:rX xs (L.flatMap f)∈rs) (Y:∀S w,(∀r∈rs,r.ok S w)->Eg S w (f a) v.cells.toList) (g:v.cells.toList.all (·.oneCell')=true) (U:L.length<1099511627776) (B:Dm bytes 127=true)
  (h:∀u (s':Sv) xs' w',St w0 (Cx size s'.v (L++[a]).length xs'::m) (rX xs' ((L++[a]).flatMap f)::rs) w'->WL P n ops rest Q ((q,s'.v)::(d1,u)::env) w'):
  WL P n ops (⟨Aa d1,.buildSlice t 1 #[(0,x)],ty,pos,af,Ab⟩::⟨Aa q,.call {callee:=.builtin .append,args:= #[y,.tmp d1],argTypes:= #[t,t]},ty2,pos2,af2,Ab⟩::rest) Q env w:=by
 have W:=Bfm (P:=P) (w:=w) I N o G;have d:bytes<=127:=by simpa using B
 refine wv C (v:=.slice (Aa ⟨w.heap.size,0,Ab⟩) 1 1) (w':=w.alloc (.cells v.cells e)) (λa p=>by simp[execOp,p.ev hx,W]) ?_;have A:=V.call (Rel.alloc w (.cells v.cells e));have b:(w.alloc (.cells v.cells e)).heap[w.heap.size]?=Aa (.cells v.cells e (0,0)):=heap_alloc_new w _
 have i:Src P size t (.slice (Aa ⟨w.heap.size,0,Ab⟩) 1 1) 1 v.cells.toList (w.alloc (.cells v.cells e)):=
  Src.ofSlice _ I _ _ _ _ (by simp[o]) (λj u M=>by
   rw[Addr.add_lit,L3];rw[Qi]at M;simp only[World.cell?,b,Tv,I3,if_false,M]) (λu hu=>Ff.1 g u hu)
 obtain⟨s',w',X,R⟩:=A.appRow (tyy:=ty2) I N i (by simp only[maxLen];omega) (by
  have:=Rw (show L.length+1<=1099511627776 by omega) d;omega)
 refine wv D (v:=s'.v) (w':=w') (λa p=>?_) (h _ s' (xs++v.cells.toList) w' ?_)
 ·have O:=p.ev (H _);have e2:a.eval (.tmp d1)=.slice (Aa ⟨w.heap.size,0,Ab⟩) 1 1:=p.ev (x:=.tmp d1) (by simp[ev,lk]);simp[execOp,resolve,invoke,builtin,O,e2,X]
 ·rw[Bt,G0];refine R.more λS K=>?_;show Eg S w' _ _;rw[H2,F4,List.flatMap_nil,Hu];exact Ag8 (K _ F) (Y S w' K)
theorem Cdx{K} {d:Nat}{x y t e size bytes z xv} {s:Sv}{xs M} (I:P.underlying t=Aa (.slice e)) (U:Sz P e size bytes z) (hx:ev env x=Aa xv) (C:ev env y=Aa s.v)
  (_hf:∀x,(f x).length=size) (R:St w0 (Cx size s.v L.length xs::m) rs w) (B:rX xs (L.flatMap f)∈rs) (i:rV xv (Ar size f M)∈rs) (p:L.length+M.length<=1099511627776) (A:Dm bytes 127=true)
  (h:∀(s':Sv) xs' w',St w0 (Cx size s'.v (L++M).length xs'::m) (rX xs' ((L++M).flatMap f)::rs) w'->K (s'.v) w'):
  Ex P n env w ⟨Aa d,.call {callee:=.builtin .append,args:= #[y,x],argTypes:= #[t,t]},ty,pos,af,Ab⟩ K:=by
 have g:bytes<=127:=by simpa using A
 have D:∃us,Src P size t xv M.length us w/\St w0 (Cx size s.v L.length xs::m) (rX us (M.flatMap f)::rs) w:=by
  obtain⟨N,u,F,O,o,j⟩:=R;obtain⟨us,g1,g2⟩:=Cs.src I (rVg (j _ i));refine⟨us,g1,N,u,F,O,o,λr b=>?_⟩;rcases Bq.1 b with rfl|b
  ·exact g2
  ·exact j r b
 obtain⟨us,Ev,q⟩:=D
 obtain⟨s',w',b,o⟩:=q.appRow (tyy:=ty) I U Ev (by simp only[maxLen];omega) (by
  have:=Rw p g;omega)
 refine Li (v:=s'.v) (w':=w') (λa H=>?_) (h s' (xs++us) w' ?_)
 ·simp[execOp,resolve,invoke,builtin,H.ev C,H.ev hx,b]
 ·rw[Bt];have j:=o.more (r:=rX (xs++us) ((L++M).flatMap f)) λS G=>by show Eg S w' _ _;rw[H2];exact Ag8 (G _ (Bf _ B)) (G _ (Bm ..))
  obtain⟨V,u,F,W,X,Y⟩:=j;refine⟨V,u,F,W,X,λr b=>Y r ?_⟩;rcases Bq.1 b with rfl|b
  ·exact Bm ..
  ·exact Bf _ (Bf _ b)
theorem Cd1{K} {d:Nat}{t e size bytes z parts vs} (l:List T) us len (W:P.underlying t=Aa (.slice e)) (C:Sz P e size bytes z)
  (V:evP env parts=Aa vs) (U:l.length=len) (o:us.length=len*size) (j:C1 0 len=true) (A:Dm (len*size) 1000=true)
  (b:Instr.fill (λi=>Aa (i*size,size)) ((Vw (len*size)).map (z.cells[· % z.cells.size]!)) vs=Aa us.toArray) (X:∀S w,(∀r∈rs,r.ok S w)->Eg S w (l.flatMap f) us)
  (M:St w0 m rs w) (h:∀(s:Sv) w',Rel w w'->St w0 (Cx size s.v l.length us::m) (rX us (l.flatMap f)::rs) w'->K s.v w'):
  Ex P n env w ⟨Aa d,.buildSlice t len parts.toArray,ty,pos,af,Ab⟩ K:=by
 obtain⟨i,hi,B,g,R⟩:=C.info;have D:=Ql A;have y:0<len:=by simpa using j
 have Dw:=C.2.2;have u:¬len*size=0:=by intro F;rcases Akv.1 F with h|h<;>omega
 have q:len<=maxLen:=by simp only[maxLen];have:len<=len*size:=Brc _ Dw;omega
 refine Li (v:=Sv.v ⟨Aa ⟨w.heap.size,0,Ab⟩,len,len⟩) (w':=w.alloc (.cells us.toArray e)) (λa O=>?_) (h _ _ (Rel.alloc w _) ?_)
 ·have G:=O.evP V;have H:(parts.toArray.map λ(i,x)=>(i,a.eval x)).toList=vs:=by rw[Aki,<-G]
  have I:=run_buildSlice (P:=P) w t e len (parts.toArray.map λp=>(p.1,a.eval p.2)) us.toArray i z W hi B (by rw[g];omega) (by rw[g];exact u) (by rw[g,H];exact b);simp only[execOp,Sem.run_bind,I,Result.andThen_ok,Sem.run_pure];rfl
 ·rw[U];exact(M.allocRow (k:=size) (n:=len) (cap:=len) us [] us.toArray e (by simp) o (Ef _) q (by simpa using o)).more λS N=>X S _ N
end
end
section
open Go.RowKit
def nS:Sv:=⟨Ab,0,0⟩
section
variable {w0:Dn} {w w':World} {m l l' own:List As} {rs rs':List Rd} {c c':Ce} {v:Value} {S:Bs}
variable {T:Type} {k:Nat} {f:T->List Ce} {L:List T}
theorem St.fewer (h:St w0 m rs w) (p:∀r∈rs',r∈rs):St w0 m rs' w:=by obtain⟨a,j,F,b,e,i⟩:=h;exact⟨a,j,F,b,e,λr o=>i r (p r o)⟩
end
section
variable {P:Program} {n:Nat} {env:Env} {w:World} {d:Option Tmp} {ty:TypeId} {pos:String} {af:Array Edge} {g:Option (Nat×Bool)} {Q:Post}
theorem B4z{f Bu vs} (h:Hw env Bu=Aa vs):Runs P n env w ⟨d,.makeFunc (.func f) #[] Bu.toArray,ty,pos,af,g⟩ (.func (.func f) #[] vs.toArray) w:=λa e=>by have b:=e.Hw _ _ h;simp only[execOp,Instr.makeFunc,Ate,b,Sem.run_bind,Sem.run_pure,Result.andThen_ok];rfl
theorem Cdg (x:UInt8):IntKind.i64.wrap (x.toNat:Int)=(x.toNat:Int):=i64_in (by have:=x.toNat_lt;omega)
theorem B53{w0 m rs} {a t b:Nat}{fs size bytes z} {cs:List Value}{e} (s:P.underlying t=Aa (.struct fs)) (r:Sz P t size bytes z) (p:cs.length=size) (hx:lk env a=Aa (.pointer (Aa ⟨b,0,Ab⟩)))
  (i:St w0 m rs w) (q:Cc b cs.toArray e∈m):RV P w env (.cell a t) (.agg cs.toArray):=by
 refine⟨_,hx,?_⟩;have h:=run_loadCells_list (P:=P) (w:=w) ⟨b,0,Ab⟩ cs (λj u o=>by rw[Addr.add_lit,L3];exact Ak6 i q (by simpa using o));rw[p]at h;simp[loadVar,isAgg,run_underlying s,r.run,h]
theorem B54{w0 m rs} {a t b:Nat}{td cs v e} (r:P.underlying t=Aa td) (q:Ac0 td=true) (hx:lk env a=Aa (.pointer (Aa ⟨b,0,Ab⟩)))
  (j:St w0 m rs w) (p:Cc b cs e∈m) (o:cs[0]?=Aa v):RV P w env (.cell a t) v:=by
 refine⟨_,hx,?_⟩;have i:=Ak6 j p o;have h:(isAgg t).run P w=.ok false w:=by simp only[isAgg,Sem.run_bind,run_underlying r,Result.andThen_ok];cases td<;>first|rfl|cases q
 simp only[loadVar,Sem.run_bind,h,Result.andThen_ok,I3,if_false,run_load,i]
end
end
section
open Go.RowKit
section
variable {P:Program} {ops:Array Oper} {QA:Act->World->Prop}
end
section
variable {P:Program} {n:Nat} {l:List Oper} {Q:Post} {env:Env} {w:World} {listed:Array Bool}
end
section
variable {P:Program} {n:Nat} {env:Env} {w:World} {ty:TypeId} {pos:String} {af:Array Edge} {w0:Dn} {m:List As} {rs:List Rd} {T:Type} {f:T->List Ce}
theorem Bi2{K} {d:Nat}{t e size bytes z} (k:P.underlying t=Aa (.slice e)) (j:Sz P e size bytes z) (i:∀x,(f x).length=size) (c:St w0 m rs w)
  (h:∀(b:Nat) w',Rel w w'->St w0 (oC (Ar size f ([]:List T)) (Sv.v ⟨Aa ⟨b,0,Ab⟩,0,0⟩)::m) rs w'->K (Sv.v ⟨Aa ⟨b,0,Ab⟩,0,0⟩) w'):Ex P n env w ⟨Aa d,.buildSlice t 0 #[],ty,pos,af,Ab⟩ K:=by
 refine Li (v:=Sv.v ⟨Aa ⟨w.heap.size,0,Ab⟩,0,0⟩) (w':=w.alloc (.cells #[] e)) (λa o=>?_) (h _ _ (Rel.alloc w _) ?_)
 ·simp[execOp,Instr.buildSlice,run_underlying k,j.run,Instr.fill,Go.newRow];rw[show(Vw 0).map (λ_=>(default:Value))= #[]from by simp];exact⟨rfl,rfl⟩
 ·exact St.newRow (own:=[]) (us:=[]) c e i rfl (by simp) (λ_=>zN) (by simp[maxLen])
theorem Bi0{K} {d:Nat}{x y t e size bytes z xv b M S} (D:P.underlying t=Aa (.slice e)) (W:Sz P e size bytes z) (hx:ev env x=Aa xv) (O:ev env y=Aa (Sv.v ⟨Aa ⟨b,0,Ab⟩,0,0⟩))
  (B:(Ar size f M).rd S w xv) (r:FlatE f) (Y:St w0 (oC (Ar size f ([]:List T)) (Sv.v ⟨Aa ⟨b,0,Ab⟩,0,0⟩)::m) rs w) (F:0+M.length<=1099511627776) (H:Dm bytes 127=true)
  (h:∀(s':Sv) w',Rel w w'->St w0 (oC (Ar size f ([]++M)) s'.v::m) rs w'->K (s'.v) w'):
  Ex P n env w ⟨Aa d,.call {callee:=.builtin .append,args:= #[y,x],argTypes:= #[t,t]},ty,pos,af,Ab⟩ K:=by
 obtain⟨xs,o,V⟩:=Cs.src D B;have q:bytes<=127:=by simpa using H
 have p:(0+M.length)*bytes<=140737488355328:=by have:=Rw F q;omega
 obtain⟨s',w',s,X⟩:=St.app (tyy:=ty) (own:=[]) (M:=M) (L:=([]:List T)) D W Y o rfl (Zz V).symm (Amg r (λc hc=>by
  obtain⟨a,_,C⟩:=Ye.1 hc;exact r a c C) V w) (by simp only[maxLen,C0];omega) (by simpa using p)
 obtain⟨i,hi,hz,R,G⟩:=W.info;subst R
 have A:Rel w w':=by
  by_cases N:M.length=0
  ·have k:=run_append_room_src (P:=P) w t t ty e i D hi b 0 0 0 xv M.length xs o (by omega) (λj I=>by
    have:=o.newsLen;rw[N]at this;omega) (λj I=>by
    have:=o.newsLen;rw[N]at this;omega)
   have U:xs=[]:=I4 (by have:=o.newsLen;rw[N]at this;omega);rw[show(#[Sv.v ⟨Aa ⟨b,0,Ab⟩,0,0⟩,xv]:Array Value)= #[.slice (Aa ⟨b,0,Ab⟩) 0 0,xv]from rfl,k,U]at s;obtain⟨_,rfl⟩:_/\w.setCells b (0+0*i.size) []=w':=by simpa using s
   exact Rel.refl w
  ·have k:=run_append_grow_src (P:=P) w t t ty e i z D hi hz (Aa ⟨b,0,Ab⟩) 0 0 [] (run_firstCells_some _ _ _ _ _ _ _ (by simp) (λj u I=>by simp at I)) xv M.length xs o (by omega) (by omega) (by rw[G];exact growslice_fits (by omega) p);rw[show(#[Sv.v ⟨Aa ⟨b,0,Ab⟩,0,0⟩,xv]:Array Value)= #[.slice (Aa ⟨b,0,Ab⟩) 0 0,xv]from rfl,k]at s;obtain⟨_,rfl⟩:_/\(w.drew.alloc (.cells (([]++xs).toArray++Builtin.zeroCells z.cells (grownCap w (0+M.length) 0 e-(0+M.length))) e))=w':=by simpa using s
   exact(Rel.refl w).drew.trans (Rel.alloc _ _)
 refine Li (v:=s'.v) (w':=w') (λa C=>?_) (h s' w' A X);simp[execOp,resolve,invoke,builtin,C.ev O,C.ev hx,s]
end
section
variable {P:Program} {n:Nat} {env:Env} {w:World} {ty:TypeId} {pos:String} {af:Array Edge} {d:Option Tmp} {g:Option (Nat×Bool)}
theorem B4l{x t fs f i cs v} (c:P.underlying t=Aa (.struct fs)) (hi:fs[i]?=Aa f) (hx:ev env x=Aa (.agg cs))
  (b:∀w,(isAgg f.type).run P w=.ok false w) (e:cs[f.offset]?=Aa v):Runs P n env w ⟨d,.field t x i,ty,pos,af,g⟩ v w:=λa h=>by
 simp[execOp,h.ev hx,Instr.field,run_underlying c,hi,asAgg,part,b,e]
theorem B4m{x t fs f i cs vs size bytes z} (e:P.underlying t=Aa (.struct fs)) (hi:fs[i]?=Aa f) (hx:ev env x=Aa (.agg cs))
  (b:∀w,(isAgg f.type).run P w=.ok true w) (c:Sz P f.type size bytes z) (j:cs.extract f.offset (f.offset+size)=vs):Runs P n env w ⟨d,.field t x i,ty,pos,af,g⟩ (.agg vs) w:=λa h=>by
 simp[execOp,h.ev hx,Instr.field,run_underlying e,hi,asAgg,part,b,c.run,j]
theorem Bri{t k} (a:P.underlying t=Aa (.int k)) w:(isAgg t).run P w=.ok false w:=by simp[isAgg,run_underlying a]
theorem Brj{t fs} (a:P.underlying t=Aa (.struct fs)) w:(isAgg t).run P w=.ok true w:=by simp[isAgg,run_underlying a]
end
end
section
open Go.RowKit
def Du (s:Cea) (i:Nat):UInt8:=(s[i]?).getD 0
section
variable {P:Program} {n:Nat} {env:Env} {w:World} {ty:TypeId} {pos:String} {af:Array Edge} {d:Option Tmp} {g:Option (Nat×Bool)}
theorem B5b{x i t s m} (f:P.underlying t=Aa .string) (hx:ev env x=Aa (.string s)) (hi:ev env i=Aa (.int .i64 m)) (h:0<=m/\m<(s.size:Int)):
  Runs P n env w ⟨d,.index t x i,ty,pos,af,g⟩ (.int .u8 ((Du s m.toNat).toNat:Int)) w:=λa b=>by
 have c:m.toNat<s.size:=by omega
 have e:s[m.toNat]?=Aa (Du s m.toNat):=by unfold Du;simp[c]
 simp[execOp,b.ev hx,b.ev hi,Instr.index,asIntOf,run_underlying f,h.1,e]
theorem B39{x y t u s r} (hx:ev env x=Aa (.string s)) (e:ev env y=Aa (.string r)) (h:s.size+r.size<=9223372036854775807):
  Runs P n env w ⟨d,.binOp .add t x y u,ty,pos,af,g⟩ (.string (s++r)) w:=λa b=>by
 have c:¬IntKind.i64.max<((s.size:Int)+(r.size:Int)):=by have f:IntKind.i64.max=9223372036854775807:=rfl;omega
 simp[execOp,b.ev hx,b.ev e,eqGuard,binOp,Op.stringOp,c];omega
theorem A7d (a b:Cea):(a.toList==b.toList)=decide (a=b):=by
 rw[ByteArray.toList_eq,ByteArray.toList_eq];by_cases h:a=b
 ·subst h;simp
 ·rw[decide_eq_false h];refine beq_eq_false_iff_ne.2 λe=>h ?_;have:=Array.toList_inj.1 e;cases a;cases b;simp only at this;rw[this]
theorem B4j{x y t u s r} (hx:ev env x=Aa (.string s)) (c:ev env y=Aa (.string r)):
  Runs P n env w ⟨d,.binOp .eql t x y u,ty,pos,af,g⟩ (.bool (decide (s=r))) w:=λa b=>by
 rw[<-A7d];simp[execOp,b.ev hx,b.ev c,eqGuard,binOp,Op.stringOp]
theorem B45{x y t u s r} (hx:ev env x=Aa (.string s)) (c:ev env y=Aa (.string r)):
  Runs P n env w ⟨d,.binOp .neq t x y u,ty,pos,af,g⟩ (.bool (!decide (s=r))) w:=λa b=>by
 rw[<-A7d];simp[execOp,b.ev hx,b.ev c,eqGuard,binOp,Op.stringOp]
def Cv (a b:Cea):Bool:=Op.bytesLess a.toList b.toList
theorem B4w{x y t u s r} (hx:ev env x=Aa (.string s)) (c:ev env y=Aa (.string r)):
  Runs P n env w ⟨d,.binOp .lss t x y u,ty,pos,af,g⟩ (.bool (Cv s r)) w:=λa b=>by
 simp[execOp,b.ev hx,b.ev c,eqGuard,binOp,Op.stringOp,Cv]
theorem B4p{x y t u s r} (hx:ev env x=Aa (.string s)) (c:ev env y=Aa (.string r)):
  Runs P n env w ⟨d,.binOp .geq t x y u,ty,pos,af,g⟩ (.bool (!Cv s r)) w:=λa b=>by
 simp[execOp,b.ev hx,b.ev c,eqGuard,binOp,Op.stringOp,Cv]
end
end
section
open Go.RowKit
section
variable {P:Program} {ops:Array Oper} {QA:Act->World->Prop} {I:World->Prop}
def Lx (P:Program) (ops:Array Oper) (QA:Act->World->Prop) (I:World->Prop):Nat->Array Bool->Array Bool->Act->World->Prop
 |0,listed,_,a,w=>(∀b,Rel w b->I b)/\Region.ready .any ops listed=[]/\∀b,Rel w b->QA a b
 |k+1,listed,moved,a,w=>(∀b,Rel w b->I b)/\(Region.ready .any ops listed=[]->∀b,Rel w b->QA a b)/\
   ∀i∈Region.ready .any ops listed,∀b,Rel w b->Lo P ops (Kl ops moved i) i (Lx P ops QA I k (listed.setIfInBounds i true) moved) a b
theorem Ah9:∀ {k:Nat} {listed moved:Array Bool} {a:Act} {w w':World},Lx P ops QA I k listed moved a w->Rel w w'->Lx P ops QA I k listed moved a w'
 |0,_,_,_,_,_,h,hr=>⟨λc b=>h.1 c (hr.trans b),h.2.1,λc b=>h.2.2 c (hr.trans b)⟩
 |_+1,_,_,_,_,_,h,hr=>⟨λc b=>h.1 c (hr.trans b),λd c b=>h.2.1 d c (hr.trans b),λi hi c b=>h.2.2 i hi c (hr.trans b)⟩
theorem B2r{z d i a w K K'} (j:z=true->d=true) (h:∀a w,K a w->K' a w) (b:Lo P ops z i K a w):Lo P ops d i K' a w:=by
 unfold Lo at*
 split
 ·rename_i ho;simp only[ho]at b
 ·rename_i o ho;simp only[ho]at b;split
  ·rename_i c;simp only[c,if_true]at b;exact J4 (λ_ _ ⟨e,v,f,g⟩=>⟨e.imp j id,v,f,h _ _ g⟩) b
  ·rename_i c;simp only[c]at b;exact h _ _ b
theorem A1y{i}:∀ {k:Nat} {listed moved:Array Bool} {a:Act} {w:World},Lx P ops QA I k listed (moved.setIfInBounds i true) a w->Lx P ops QA I k listed moved a w
 |0,_,_,_,_,h=>h
 |_+1,_,_,_,_,h=>⟨h.1,h.2.1,λj d e b=>B2r Atr (λ_ _ c=>A1y c) (h.2.2 j d e b)⟩
theorem A1w{Q} (c:∀a w,QA a w->Q .normal a w):∀k listed moved a w,Lx P ops QA I k listed moved a w->wpAny P .any ops Q k listed a w
 |0,_,_,_,w,h=>⟨h.2.1,c _ _ (h.2.2 w (Rel.refl w))⟩
 |k+1,listed,moved,a,w,h=>⟨λe=>c _ _ (h.2.1 e w (Rel.refl w)),λi hi=>by
   have b:=h.2.2 i hi w (Rel.refl w);unfold Lo at b;unfold wpOp;split
   ·rename_i ho;simp only[ho]at b
   ·rename_i o ho;simp only[ho]at b;split
    ·rename_i d;simp only[d,if_true]at b;exact .inl (J4 (λ_ _ ⟨_,_,_,f⟩=>A1w c k _ _ _ _ f) b)
    ·rename_i d;simp only[d]at b;exact A1w c k _ _ _ _ b⟩
theorem Cdq{i o v} (hi:ops[i]?=Aa o) (A:∀(j:Nat) (o:Oper) cs b,ops[j]?=Aa o->o.op≠ .select cs b):
  ∀k listed moved a w,Down ops listed->moved.size=listed.size->
   (∀j g,ops[j]?=Aa g->j≠i->listed.getD j true=false->(∀e∈g.after,Region.binds .any e=true->e.on≠i)->o.apart ops g=true)->
   i∈Region.ready .any ops listed->Rq P ops o a w v->
   Lx P ops QA I k (listed.setIfInBounds i true) (moved.setIfInBounds i true) (a.put o.dst v) w->Lx P ops QA I (k+1) listed moved a w:=by
 intro k;induction k with
 |zero=>
  intro listed moved a w _ _ _ z O H;refine⟨H.1,λh=>(by rw[h]at z;cases z),λj S K f=>?_⟩;by_cases c:j=i
  ·subst c;exact Aew hi O f λw' G=>A1y (Ah9 H (f.trans G))
  ·have:=ready_mono S c;rw[H.2.1]at this;cases this
 |succ k ih=>
  intro listed moved a w M b9 p z O H;refine⟨H.1,λh=>(by rw[h]at z;cases z),λj S K f=>?_⟩;by_cases c:j=i
  ·subst c;exact Aew hi O f λw' G=>A1y (Ah9 H (f.trans G))
  ·have D:=H.2.2 j (ready_mono S c) K f;obtain⟨y,g,s,x⟩:=mem_ready.1 S
   have U:∀e∈g.after,Region.binds .any e=true->e.on≠i:=λe he hb b4=>by
    have f:=x e he hb;have h0:=(mem_ready.1 z).1;rw[b4]at f;rcases Tt i listed.size with C|C
    ·simp[C]at h0 f;rw[h0]at f;cases f
    ·simp[Tp C]at f
   have b3:=p j g s c y U
   have b6:Kl ops (moved.setIfInBounds i true) j=true->Uo o=true:=λhl=>by
    have h9:=(mem_ready.1 z).1;rcases Tt i listed.size with C|C
    ·have b1:i<moved.size:=by omega
     rcases A60 M hl s ((A5r.1 hi).1) (by simp[b1]) x with L|L
     ·unfold mvB at L;simpa only[hi]using L
     ·simp[C]at L h9;rw[h9]at L;cases L
    ·simp[Tp C]at h9
   obtain⟨p1,p2,p3⟩:=Oper.apart_spec b3
   have r:∀m Y,ops[m]?=Aa Y->m≠i->(listed.setIfInBounds j true).getD m true=false->
     (∀e∈Y.after,Region.binds .any e=true->e.on≠i)->o.apart ops Y=true:=λm Y hm b5 W b7=>by
    refine p m Y hm b5 ?_ b7;by_cases T:j=m
    ·subst T;exact y
    ·rw[getD_set_ne true T]at W;exact W
   have V:=λcs b=>A i o cs b hi;have b8:=λcs b=>A j g cs b s
   have X:∀u t,(Uo o=true\/Rel K t)->Rq P ops o (a.put g.dst u) t v:=λu t q=>by
    unfold Rq at*
    rw[wanted_put o a g.dst u p3];rcases O with⟨N,hq⟩|O
    ·rcases q with q|q
     ·exact .inl ⟨N,Bey q (Ag6 V p3 (λd M=>λF=>p2 d F M) hq (Rel.refl w))⟩
     ·exact .inl ⟨N,Ag6 V p3 (λd M=>λF=>p2 d F M) hq (f.trans q)⟩
    ·exact .inr O
   have B:∀u t,(Uo o=true\/Rel K t)->Lx P ops QA I k ((listed.setIfInBounds i true).setIfInBounds j true) (moved.setIfInBounds i true) ((a.put o.dst v).put g.dst u) t->Lx P ops QA I (k+1) (listed.setIfInBounds j true) moved (a.put g.dst u) t:=λu t q h4=>by refine ih (listed.setIfInBounds j true) moved _ _ (M.set S) (by simpa using b9) r (ready_mono z (Ne.symm c)) (X u t q) ?_;rw[A5s _ _ c,<-Act.put_comm a v u p2];exact h4
   unfold Lo at D⊢;simp only[s]at D⊢;rw[wanted_put g a o.dst v p1]at D;split
   ·rename_i N;simp only[N,if_true]at D;exact J4 (λa' w' ⟨q,u,h4,h5⟩=>⟨q.imp Atr id,u,h4,h4▸B u w' (q.imp b6 id) h5⟩) (A11 (R:=λw'=>Kl ops (moved.setIfInBounds i true) j=true\/Rel K w') b8 p1 D)
   ·rename_i N;simp only[N]at D;exact B undef K (.inr (Rel.refl K)) D
theorem Bix{i o v} (hi:ops[i]?=Aa o) (x:∀(j:Nat) (o:Oper) cs b,ops[j]?=Aa o->o.op≠ .select cs b):
  ∀k listed moved a w,Down ops listed->moved.size=listed.size->
   (∀j g,ops[j]?=Aa g->j≠i->listed.getD j true=false->(∀e∈g.after,Region.binds .any e=true->e.on≠i)->o.apart ops g=true)->
   i∈Region.ready .any ops listed->(∀w',(∀q,Rel w' q->I q)->Rq P ops o a w' v)->
   Lx P ops QA I k (listed.setIfInBounds i true) moved (a.put o.dst v) w->Lx P ops QA I (k+1) listed moved a w:=by
 intro k;induction k with
 |zero=>
  intro listed moved a w _ _ _ B U H;refine⟨H.1,λh=>(by rw[h]at B;cases B),λj G q f=>?_⟩;by_cases c:j=i
  ·subst c;exact Aew hi (U w H.1) f λw' C=>Ah9 H (f.trans C)
  ·have:=ready_mono G c;rw[H.2.1]at this;cases this
 |succ k ih=>
  intro listed moved a w X b5 p B U H;refine⟨H.1,λh=>(by rw[h]at B;cases B),λj G q f=>?_⟩;by_cases c:j=i
  ·subst c;exact Aew hi (U w H.1) f λw' C=>Ah9 H (f.trans C)
  ·have z:=H.2.2 j (ready_mono G c) q f;obtain⟨t,g,A,F⟩:=mem_ready.1 G
   have L:∀e∈g.after,Region.binds .any e=true->e.on≠i:=λe he hb b0=>by
    have f:=F e he hb;have h0:=(mem_ready.1 B).1;rw[b0]at f;rcases Tt i listed.size with V|V
    ·simp[V]at h0 f;rw[h0]at f;cases f
    ·simp[Tp V]at f
   have W:=p j g A c t L;obtain⟨p1,p2,p3⟩:=Oper.apart_spec W
   have r:∀m S,ops[m]?=Aa S->m≠i->(listed.setIfInBounds j true).getD m true=false->
     (∀e∈S.after,Region.binds .any e=true->e.on≠i)->o.apart ops S=true:=λm S hm b1 M b2=>by
    refine p m S hm b1 ?_ b2;by_cases K:j=m
    ·subst K;exact t
    ·rw[getD_set_ne true K]at M;exact M
   have b3:=λcs b=>x i o cs b hi;have b4:=λcs b=>x j g cs b A
   have O:∀u s,(∀q,Rel s q->I q)->Rq P ops o (a.put g.dst u) s v:=λu s hI=>by
    have D:=U s hI;unfold Rq at*
    rw[wanted_put o a g.dst u p3];rcases D with⟨N,hq⟩|D
    ·exact .inl ⟨N,Ag6 b3 p3 (λd X=>λY=>p2 d Y X) hq (Rel.refl s)⟩
    ·exact .inr D
   have y:∀u s,Lx P ops QA I k ((listed.setIfInBounds i true).setIfInBounds j true) moved ((a.put o.dst v).put g.dst u) s->Lx P ops QA I (k+1) (listed.setIfInBounds j true) moved (a.put g.dst u) s:=λu s T=>by refine ih (listed.setIfInBounds j true) moved _ _ (X.set G) (by simpa using b5) r (ready_mono B (Ne.symm c)) (O u) ?_;rw[A5s _ _ c,<-Act.put_comm a v u p2];exact T
   unfold Lo at z⊢;simp only[A]at z⊢;rw[wanted_put g a o.dst v p1]at z;split
   ·rename_i N;simp only[N,if_true]at z;exact J4 (λa' w' ⟨h3,u,T,h5⟩=>⟨h3,u,T,T▸y u w' h5⟩) (A11 (R:=λw'=>Kl ops moved j=true\/Rel q w') b4 p1 z)
   ·rename_i N;simp only[N]at z;exact y undef q z
end
section
variable {P:Program} {n:Nat} {l:List Oper} {Q:Post} {env:Env} {w:World} {listed moved:Array Bool} {I:World->Prop}
end
section
variable {P:Program} {n:Nat} {env:Env} {w:World}
theorem exq{o v K} (a:Runs P n env w o v w) (h:K v w):Ex P n env w o K:=⟨v,w,a,h⟩
end
section
variable {w0:Dn} {rs:List Rd} {w:World} {m:List As} {a0 a1 a2 a3 a4 a5 a6 a7 a8 a9 a10 a11 a12 a13 a14:As}
theorem St.p1 (h:St w0 (a0::a1::m) rs w):St w0 (a1::a0::m) rs w:=h.pl [1]
theorem St.p2 (h:St w0 (a0::a1::a2::m) rs w):St w0 (a2::a0::a1::m) rs w:=h.pl [2]
theorem St.p3 (h:St w0 (a0::a1::a2::a3::m) rs w):St w0 (a3::a0::a1::a2::m) rs w:=h.pl [3]
theorem St.p4 (h:St w0 (a0::a1::a2::a3::a4::m) rs w):St w0 (a4::a0::a1::a2::a3::m) rs w:=h.pl [4]
theorem St.p5 (h:St w0 (a0::a1::a2::a3::a4::a5::m) rs w):St w0 (a5::a0::a1::a2::a3::a4::m) rs w:=h.pl [5]
theorem St.p6 (h:St w0 (a0::a1::a2::a3::a4::a5::a6::m) rs w):St w0 (a6::a0::a1::a2::a3::a4::a5::m) rs w:=h.pl [6]
theorem St.p7 (h:St w0 (a0::a1::a2::a3::a4::a5::a6::a7::m) rs w):St w0 (a7::a0::a1::a2::a3::a4::a5::a6::m) rs w:=h.pl [7]
theorem St.t0 (h:St w0 (m) rs w):St w0 [] rs w:=h.tk 0
theorem St.t1 (h:St w0 (a0::m) rs w):St w0 [a0] rs w:=h.tk 1
theorem St.t2 (h:St w0 (a0::a1::m) rs w):St w0 [a0,a1] rs w:=h.tk 2
theorem St.t3 (h:St w0 (a0::a1::a2::m) rs w):St w0 [a0,a1,a2] rs w:=h.tk 3
theorem St.t4 (h:St w0 (a0::a1::a2::a3::m) rs w):St w0 [a0,a1,a2,a3] rs w:=h.tk 4
theorem St.t5 (h:St w0 (a0::a1::a2::a3::a4::m) rs w):St w0 [a0,a1,a2,a3,a4] rs w:=h.tk 5
theorem St.t9 (h:St w0 (a0::a1::a2::a3::a4::a5::a6::a7::a8::m) rs w):St w0 [a0,a1,a2,a3,a4,a5,a6,a7,a8] rs w:=h.tk 9
end
end
section
open Go.RowKit
section
variable {w0:Dn} {w:World} {m:List As} {rs:List Rd} {T:Type} {k q:Nat} {f:T->List Ce} {L:List T} {v:Value}
theorem St.valV{u b hu} (h:St w0 (oC (cV u hu) b::m) rs w):b=u/\St w0 m rs w:=by refine⟨?_,h.drop⟩;obtain⟨F,e⟩:=h.at' (a:=oC (cV u hu) b) (.head _);exact e.1
theorem St.valS{T' k' f'} {L':List T'}{u} (h:St w0 (oC (Ar k' f' L') u::m) rs w):∃s:Sv,u=s.v/\St w0 (oC (Ar k' f' L') s.v::m) rs w:=by obtain⟨s,e⟩:=Cs.sv (h.seeO (.head _));exact⟨s,e,e▸h⟩
end
section
variable {P:Program} {n:Nat} {env:Env} {w:World} {d:Option Tmp} {ty:TypeId} {pos:String} {af:Array Edge} {g:Option (Nat×Bool)} {k n0:Nat} {v:Value}
end
section
variable {P:Program} {n:Nat} {env:Env} {w:World} {d:Option Tmp} {ty:TypeId} {pos:String} {af:Array Edge} {g:Option (Nat×Bool)}
def y8 (n:Int):UInt8:=Tx (n % 256).toNat
theorem Cd6 n:IntKind.u8.wrap n=((y8 n).toNat:Int):=by
 unfold IntKind.wrap y8;have a:=As2 n (show(256:Int)≠0 by decide);have b:=As1 n (show(0:Int)<256 by decide);simp only[IntKind.signed,IntKind.bits,Atp]
 first
  |(simp;omega)
  |(simp[BitVec.toNat_ofInt];omega)
theorem B4g{x s t k' td i} (e:P.underlying s=Aa td) (h:P.underlying t=Aa (.int .u8)) (hx:ev env x=Aa (.int k' i)):
  Runs P n env w ⟨d,.convert s t x,ty,pos,af,g⟩ (.int .u8 ((y8 i).toNat:Int)) w:=λa b=>by
 simp[execOp,b.ev hx,convert,run_underlying e,run_underlying h,Conv.intToInt,Cd6]
end
section
variable {P:Program} {n:Nat} {Q:Post} {env:Env} {w:World} {c:Code} {ops:Array Oper} {l rest:List Oper} {ty:TypeId} {pos:String} {af:Array Edge} {r:List (Oper×Nat)}
theorem Dz (h:WC P n c Q env w):WL P n ops [] (sq P n c Q) env w:=A1u (Ky h)
theorem Dy{id y} (h:WL P n l.toArray l (sq P n y Q) env w):WC P n (.seq (.region id l.toArray false) y) Q env w:=Ir (A1r h)
theorem B4{d x v} (a:C1 d n=true) (hx:ev env x=Aa v) (h:WL P n ops rest Q ((d,v)::env) w):WL P n ops (⟨Aa d,.move x,ty,pos,af,Ab⟩::rest) Q env w:=wv a (Azi hx) h
theorem Hi{d x v} (a:C1 d n=true) (hx:ev env x=Aa v) (h:WL P n ops rest Q ((d,v)::env) w):WL P n ops (⟨Aa d,.assign x,ty,pos,af,Ab⟩::rest) Q env w:=wv a (Aze hx) h
theorem Ga{d x v} (a:C1 d n=true) (hx:ev env x=Aa v) (h:WO P n ops Q r ((d,v)::env) w):WO P n ops Q ((⟨Aa d,.move x,ty,pos,af,Ab⟩,0)::r) env w:=ov a (λ_ _=>Azi hx) h
theorem Zp{w0 m rs} (e:St w0 m rs w) (h:∀a,St w0 m rs a->Q .normal env a):WO P n ops Q [] env w:=Bdc λa b=>h a (e.call b)
end
end
section
open Go.RowKit
theorem A1g : prog.globalNamed "internal/strconv.uint64pow10" = some 3 := by kernel_rfl
theorem Lc.whole{F w w'} (h:Lc F w w'){b} (a:∀j,F (b,j)) (c:b<w.heap.size):w'.heap[b]?=w.heap[b]?:=(h.block b c).same λi hx=>hx (a i)
def rTab : Rd := ⟨fun S w => (∀ j, S (3, j)) /\ 3 < w.heap.size /\ Lib.TabIs prog w "internal/strconv.uint64pow10" .u64 Lib.pow10Tab, fun {S S' w w'} d h ⟨b, c, a⟩ => ⟨fun j => d _ (b j), K8 c h.size, by
 unfold Lib.TabIs World.var? at a⊢;rw[A1g]at a⊢;simp only[Ad]at a⊢;rw[h.whole b c];exact a⟩⟩
theorem Bxy w k os:Rel w (Sort.grow (w.drewN k) os):=
 ⟨rfl,rfl,rfl,by simp[Sort.grow],λb a=>by
  simp only[Sort.grow,World.heap_drewN];exact Bqu a⟩
def Aib (n:Int):Option Cea:=xg (Aq n)<|some ⟨(Lib.itoa n).toArray⟩
theorem Bsp w X S n (c:∀b,S b->b.1<w.heap.size/\¬X b) (d:rTab.ok S w) (f:Sep [] X w){r} (hx:Aib n=Aa r):
  Ret prog 106 [(.int .i64 n)] w (λu w'=>∃_:Unit,u=(.string r)/\H5 X S w [] [] w'):=by
 unfold Aib at hx;obtain⟨a,hx⟩:=C8 hx;obtain rfl:=D1.inj hx;refine⟨⟨_,func106,by kernel_rfl,by kernel_rfl⟩,(strconv_Itoa n a.1 a.2 w d.2.2).mono ?_⟩;rintro e w' ⟨rfl,k,os,rfl⟩;exact⟨_,rfl,(),rfl,((St.enter f c).call (Bxy w k os)).gives⟩
end
section
open Go.RowKit
theorem Tryz_mixed:prog.follows .mixedOrders=true:=by rfl
def fI (n:Int):List Ce:=[cI n]
def fB (b:Bool):List Ce:=[cB b]
def fT (s:Cea):List Ce:=[cT s]
def fY (n:UInt8):List Ce:=[cY n]
structure Ae where
 kind:Int
 n:Int
 Bd:List Int
deriving DecidableEq,Inhabited
def Y7 (x:Ae):List Ce:=[cI x.kind,cI x.n,Ar 1 fI x.Bd]
structure A8 where
 Al:Int
 seq:Int
 o:List Ae
deriving DecidableEq,Inhabited
def Acd (x:A8):List Ce:=[cI x.Al,cI x.seq,Ar 3 Y7 x.o]
structure Cm where
 Al:Int
 seq:Int
 rev:Int
deriving DecidableEq,Inhabited
def Bam (x:Cm):List Ce:=[cI x.Al,cI x.seq,cI x.rev]
structure Ao where
 name:Cea
 from_:Int
 text:List Int
 list:List A8
 seen:List Cm
deriving DecidableEq,Inhabited
def Avt (x:Ao):List Ce:=[cT x.name,cI x.from_,Ar 1 fI x.text,Ar 3 Acd x.list,Ar 3 Bam x.seen]
structure Db where
 cap:Int
 next:Int
 out:Bool
 list:List A8
deriving DecidableEq,Inhabited
def Bxj (x:Db):List Ce:=[cI x.cap,cI x.next,cB x.out,Ar 3 Acd x.list]
structure A0 where
 id:Int
 Ah:Cea
 r:Db
deriving DecidableEq,Inhabited
def Avu (x:A0):List Ce:=[cI x.id,cT x.Ah,cI x.r.cap,cI x.r.next,cB x.r.out,Ar 3 Acd x.r.list]
structure Aw where
 shut:Bool
 Am:List Ao
 Ax:List A0
 last:Int
deriving DecidableEq,Inhabited
def Bxe (x:Aw):List Ce:=[cB x.shut,Ar 5 Avt x.Am,Ar 6 Avu x.Ax,cI x.last]
structure Ba where
 Ah:Cea
 list:List Int
deriving DecidableEq,Inhabited
def Bal (x:Ba):List Ce:=[cT x.Ah,Ar 1 fI x.list]
structure Bb where
 kind:Int
 Ah:Cea
 Al:Int
 seq:Int
 n:Int
 o:List Ae
 text:List Int
deriving DecidableEq,Inhabited
def Bxd (x:Bb):List Ce:=[cI x.kind,cT x.Ah,cI x.Al,cI x.seq,cI x.n,Ar 3 Y7 x.o,Ar 1 fI x.text]
structure Bi where
 code:Int
 rev:Int
 text:List Int
 list:List A8
deriving DecidableEq,Inhabited
def Bxc (x:Bi):List Ce:=[cI x.code,cI x.rev,Ar 1 fI x.text,Ar 3 Acd x.list]
structure A4 where
 c:Bb
 pc:Int
 inv:Int
 Bv:Int
 Cl:Int
 a:Bi
deriving DecidableEq,Inhabited
def Ban (x:A4):List Ce:=[cI x.c.kind,cT x.c.Ah,cI x.c.Al,cI x.c.seq,cI x.c.n,Ar 3 Y7 x.c.o,Ar 1 fI x.c.text,cI x.pc,cI x.inv,cI x.Bv,cI x.Cl,cI x.a.code,cI x.a.rev,Ar 1 fI x.a.text,Ar 3 Acd x.a.list]
structure Au where
 h:Aw
 Az:List Int
 An:List Ba
 Ag:List A4
 step:Int
deriving DecidableEq,Inhabited
def Bxk (x:Au):List Ce:=[cB x.h.shut,Ar 5 Avt x.h.Am,Ar 6 Avu x.h.Ax,cI x.h.last,Ar 1 fI x.Az,Ar 2 Bal x.An,Ar 15 Ban x.Ag,cI x.step]
structure B3 where
 b:List UInt8
 i:Int
 h:Int
deriving DecidableEq,Inhabited
def Bxf (x:B3):List Ce:=[Ar 1 fY x.b,cI x.i,cI x.h]
structure Cw where
 list:List Ae
 put:List Int
 drop:Int
deriving DecidableEq,Inhabited
def Bxg (x:Cw):List Ce:=[Ar 3 Y7 x.list,Ar 1 fI x.put,cI x.drop]
structure H4 where
 o:List Ae
 at_:Int
 done:Int
deriving DecidableEq,Inhabited
def Bxh (x:H4):List Ce:=[Ar 3 Y7 x.o,cI x.at_,cI x.done]
structure Jh where
 parts:List Ae
deriving DecidableEq,Inhabited
def Bxi (x:Jh):List Ce:=[Ar 3 Y7 x.parts]
theorem sz2:Sz prog 2 1 8 (.int .i64 0):=⟨by kernel_rfl,rfl,by decide⟩
theorem sz3:Sz prog 3 1 8 (.int .i64 0):=⟨by kernel_rfl,rfl,by decide⟩
theorem sz4:Sz prog 4 1 1 (.bool false):=⟨by kernel_rfl,rfl,by decide⟩
theorem sz5:Sz prog 5 1 1 (.int .u8 0):=⟨by kernel_rfl,rfl,by decide⟩
theorem sz9:Sz prog 9 1 16 (.string Cb):=⟨by kernel_rfl,rfl,by decide⟩
theorem B9a:Sz prog 12 1 8 (.int .u64 0):=⟨by kernel_rfl,rfl,by decide⟩
theorem B9b:Sz prog 13 2 24 (.agg #[.string Cb,.int .u64 0]):=⟨by kernel_rfl,rfl,by decide⟩
theorem B9l:Sz prog 21 1 4 (.int .i32 0):=⟨by kernel_rfl,rfl,by decide⟩
theorem B9o:Sz prog 22 1 24 (.slice Ab 0 0):=⟨by kernel_rfl,rfl,by decide⟩
theorem B9p:Sz prog 23 1 24 (.slice Ab 0 0):=⟨by kernel_rfl,rfl,by decide⟩
theorem B9q:Sz prog 24 1 24 (.slice Ab 0 0):=⟨by kernel_rfl,rfl,by decide⟩
theorem B9r:Sz prog 25 4 64 (.agg #[.bool false,.slice Ab 0 0,.slice Ab 0 0,.int .i64 0]):=⟨by kernel_rfl,rfl,by decide⟩
theorem B9v:Sz prog 26 4 64 (.agg #[.bool false,.slice Ab 0 0,.slice Ab 0 0,.int .i64 0]):=⟨by kernel_rfl,rfl,by decide⟩
theorem B9x:Sz prog 27 1 24 (.slice Ab 0 0):=⟨by kernel_rfl,rfl,by decide⟩
theorem B9y:Sz prog 28 1 24 (.slice Ab 0 0):=⟨by kernel_rfl,rfl,by decide⟩
theorem B9z:Sz prog 29 1 24 (.slice Ab 0 0):=⟨by kernel_rfl,rfl,by decide⟩
theorem B94:Sz prog 30 8 144 (.agg #[.bool false,.slice Ab 0 0,.slice Ab 0 0,.int .i64 0,.slice Ab 0 0,.slice Ab 0 0,.slice Ab 0 0,.int .i64 0]):=⟨by kernel_rfl,rfl,by decide⟩
theorem B97:Sz prog 31 8 144 (.agg #[.bool false,.slice Ab 0 0,.slice Ab 0 0,.int .i64 0,.slice Ab 0 0,.slice Ab 0 0,.slice Ab 0 0,.int .i64 0]):=⟨by kernel_rfl,rfl,by decide⟩
theorem Cae:Sz prog 34 1 24 (.slice Ab 0 0):=⟨by kernel_rfl,rfl,by decide⟩
theorem Cah:Sz prog 53 1 24 (.slice Ab 0 0):=⟨by kernel_rfl,rfl,by decide⟩
theorem Cai:Sz prog 54 7 96 (.agg #[.int .i64 0,.string Cb,.int .i64 0,.int .i64 0,.int .i64 0,.slice Ab 0 0,.slice Ab 0 0]):=⟨by kernel_rfl,rfl,by decide⟩
theorem Caj:Sz prog 55 7 96 (.agg #[.int .i64 0,.string Cb,.int .i64 0,.int .i64 0,.int .i64 0,.slice Ab 0 0,.slice Ab 0 0]):=⟨by kernel_rfl,rfl,by decide⟩
theorem Cak:Sz prog 58 3 40 (.agg #[.slice Ab 0 0,.int .i64 0,.int .i64 0]):=⟨by kernel_rfl,rfl,by decide⟩
theorem Cal:Sz prog 59 3 40 (.agg #[.slice Ab 0 0,.int .i64 0,.int .i64 0]):=⟨by kernel_rfl,rfl,by decide⟩
theorem Cam:Sz prog 70 1 24 (.slice Ab 0 0):=⟨by kernel_rfl,rfl,by decide⟩
theorem Cao:Sz prog 71 4 64 (.agg #[.int .i64 0,.int .i64 0,.slice Ab 0 0,.slice Ab 0 0]):=⟨by kernel_rfl,rfl,by decide⟩
theorem Cap:Sz prog 72 4 64 (.agg #[.int .i64 0,.int .i64 0,.slice Ab 0 0,.slice Ab 0 0]):=⟨by kernel_rfl,rfl,by decide⟩
theorem Caq:Sz prog 73 15 192 (.agg #[.int .i64 0,.string Cb,.int .i64 0,.int .i64 0,.int .i64 0,.slice Ab 0 0,.slice Ab 0 0,.int .i64 0,.int .i64 0,.int .i64 0,.int .i64 0,.int .i64 0,.int .i64 0,.slice Ab 0 0,.slice Ab 0 0]):=⟨by kernel_rfl,rfl,by decide⟩
theorem Car:Sz prog 74 15 192 (.agg #[.int .i64 0,.string Cb,.int .i64 0,.int .i64 0,.int .i64 0,.slice Ab 0 0,.slice Ab 0 0,.int .i64 0,.int .i64 0,.int .i64 0,.int .i64 0,.int .i64 0,.int .i64 0,.slice Ab 0 0,.slice Ab 0 0]):=⟨by kernel_rfl,rfl,by decide⟩
theorem Cas:Sz prog 81 2 40 (.agg #[.string Cb,.slice Ab 0 0]):=⟨by kernel_rfl,rfl,by decide⟩
theorem A09:Sz prog 82 2 40 (.agg #[.string Cb,.slice Ab 0 0]):=⟨by kernel_rfl,rfl,by decide⟩
theorem Cat:Sz prog 87 1 24 (.slice Ab 0 0):=⟨by kernel_rfl,rfl,by decide⟩
theorem Cau:Sz prog 88 1 24 (.slice Ab 0 0):=⟨by kernel_rfl,rfl,by decide⟩
theorem B87:Sz prog 105 1 24 (.slice Ab 0 0):=⟨by kernel_rfl,rfl,by decide⟩
theorem B88:Sz prog 106 5 96 (.agg #[.string Cb,.int .i64 0,.slice Ab 0 0,.slice Ab 0 0,.slice Ab 0 0]):=⟨by kernel_rfl,rfl,by decide⟩
theorem Bhs:Sz prog 107 5 96 (.agg #[.string Cb,.int .i64 0,.slice Ab 0 0,.slice Ab 0 0,.slice Ab 0 0]):=⟨by kernel_rfl,rfl,by decide⟩
theorem B89:Sz prog 110 3 24 (.agg #[.int .i64 0,.int .i64 0,.int .i64 0]):=⟨by kernel_rfl,rfl,by decide⟩
theorem Bht:Sz prog 111 3 24 (.agg #[.int .i64 0,.int .i64 0,.int .i64 0]):=⟨by kernel_rfl,rfl,by decide⟩
theorem B9c:Sz prog 135 4 48 (.agg #[.int .i64 0,.int .i64 0,.bool false,.slice Ab 0 0]):=⟨by kernel_rfl,rfl,by decide⟩
theorem B9d:Sz prog 136 4 48 (.agg #[.int .i64 0,.int .i64 0,.bool false,.slice Ab 0 0]):=⟨by kernel_rfl,rfl,by decide⟩
theorem B9e:Sz prog 137 6 72 (.agg #[.int .i64 0,.string Cb,.int .i64 0,.int .i64 0,.bool false,.slice Ab 0 0]):=⟨by kernel_rfl,rfl,by decide⟩
theorem B9f:Sz prog 138 6 72 (.agg #[.int .i64 0,.string Cb,.int .i64 0,.int .i64 0,.bool false,.slice Ab 0 0]):=⟨by kernel_rfl,rfl,by decide⟩
theorem B9g:Sz prog 153 3 40 (.agg #[.int .i64 0,.int .i64 0,.slice Ab 0 0]):=⟨by kernel_rfl,rfl,by decide⟩
theorem B9h:Sz prog 154 3 40 (.agg #[.int .i64 0,.int .i64 0,.slice Ab 0 0]):=⟨by kernel_rfl,rfl,by decide⟩
theorem B9i:Sz prog 171 1 8 (.int .u64 0):=⟨by kernel_rfl,rfl,by decide⟩
theorem B9j:Sz prog 193 1 24 (.slice Ab 0 0):=⟨by kernel_rfl,rfl,by decide⟩
theorem B9m:Sz prog 216 3 40 (.agg #[.int .i64 0,.int .i64 0,.slice Ab 0 0]):=⟨by kernel_rfl,rfl,by decide⟩
theorem B9n:Sz prog 217 3 40 (.agg #[.int .i64 0,.int .i64 0,.slice Ab 0 0]):=⟨by kernel_rfl,rfl,by decide⟩
theorem B9s:Sz prog 250 2 32 (.agg #[.pointer Ab,.slice Ab 0 0]):=⟨by kernel_rfl,rfl,by decide⟩
theorem B9t:Sz prog 251 2 32 (.agg #[.pointer Ab,.slice Ab 0 0]):=⟨by kernel_rfl,rfl,by decide⟩
theorem B9u:Sz prog 254 1 8 (.int .i64 0):=⟨by kernel_rfl,rfl,by decide⟩
theorem B9w:Sz prog 268 1 8 (.int .u64 0):=⟨by kernel_rfl,rfl,by decide⟩
theorem B90:Sz prog 290 1 4 (.int .u32 0):=⟨by kernel_rfl,rfl,by decide⟩
theorem B91:Sz prog 296 3 56 (.agg #[.slice Ab 0 0,.slice Ab 0 0,.int .i64 0]):=⟨by kernel_rfl,rfl,by decide⟩
theorem B92:Sz prog 297 3 56 (.agg #[.slice Ab 0 0,.slice Ab 0 0,.int .i64 0]):=⟨by kernel_rfl,rfl,by decide⟩
theorem B95:Sz prog 302 2 2 (.agg #[.int .u8 0,.int .u8 0]):=⟨by kernel_rfl,rfl,by decide⟩
theorem B96:Sz prog 303 2 2 (.agg #[.int .u8 0,.int .u8 0]):=⟨by kernel_rfl,rfl,by decide⟩
theorem B98:Sz prog 312 1 16 (.agg #[.string Cb]):=⟨by kernel_rfl,rfl,by decide⟩
theorem B99:Sz prog 313 1 16 (.agg #[.string Cb]):=⟨by kernel_rfl,rfl,by decide⟩
theorem Caa:Sz prog 323 3 40 (.agg #[.slice Ab 0 0,.int .i64 0,.int .i64 0]):=⟨by kernel_rfl,rfl,by decide⟩
theorem Cab:Sz prog 324 3 40 (.agg #[.slice Ab 0 0,.int .i64 0,.int .i64 0]):=⟨by kernel_rfl,rfl,by decide⟩
theorem Cac:Sz prog 328 1 24 (.agg #[.slice Ab 0 0]):=⟨by kernel_rfl,rfl,by decide⟩
theorem Cad:Sz prog 329 1 24 (.agg #[.slice Ab 0 0]):=⟨by kernel_rfl,rfl,by decide⟩
theorem u2:type_of% underlying2:=underlying2
theorem u3:type_of% underlying3:=underlying3
theorem u4:type_of% underlying4:=underlying4
theorem u5:type_of% underlying5:=underlying5
theorem u9:type_of% underlying9:=underlying9
theorem u12:type_of% underlying12:=underlying12
theorem u13:type_of% underlying13:=underlying13
theorem u21:type_of% underlying21:=underlying21
theorem u22:type_of% underlying22:=underlying22
theorem u23:type_of% underlying23:=underlying23
theorem u24:type_of% underlying24:=underlying24
theorem u25:type_of% underlying25:=underlying25
theorem u26:type_of% underlying26:=underlying26
theorem u27:type_of% underlying27:=underlying27
theorem u28:type_of% underlying28:=underlying28
theorem u29:type_of% underlying29:=underlying29
theorem u30:type_of% underlying30:=underlying30
theorem u31:type_of% underlying31:=underlying31
theorem u34:type_of% underlying34:=underlying34
theorem u53:type_of% underlying53:=underlying53
theorem u54:type_of% underlying54:=underlying54
theorem u55:type_of% underlying55:=underlying55
theorem u58:type_of% underlying58:=underlying58
theorem u59:type_of% underlying59:=underlying59
theorem u70:type_of% underlying70:=underlying70
theorem u71:type_of% underlying71:=underlying71
theorem u72:type_of% underlying72:=underlying72
theorem u73:type_of% underlying73:=underlying73
theorem u74:type_of% underlying74:=underlying74
theorem u81:type_of% underlying81:=underlying81
theorem u82:type_of% underlying82:=underlying82
theorem u87:type_of% underlying87:=underlying87
theorem u88:type_of% underlying88:=underlying88
theorem Cbu:type_of% underlying105:=underlying105
theorem Cbv:type_of% underlying106:=underlying106
theorem Cbw:type_of% underlying107:=underlying107
theorem Cbx:type_of% underlying110:=underlying110
theorem Cby:type_of% underlying111:=underlying111
theorem Cb1:type_of% underlying135:=underlying135
theorem Cb2:type_of% underlying136:=underlying136
theorem Cb3:type_of% underlying137:=underlying137
theorem Cb4:type_of% underlying138:=underlying138
theorem Cb5:type_of% underlying153:=underlying153
theorem Cb6:type_of% underlying154:=underlying154
theorem Cb7:type_of% underlying171:=underlying171
theorem Cb8:type_of% underlying193:=underlying193
theorem Cca:type_of% underlying216:=underlying216
theorem Ccb:type_of% underlying217:=underlying217
theorem Ccg:type_of% underlying250:=underlying250
theorem Cch:type_of% underlying251:=underlying251
theorem Cci:type_of% underlying254:=underlying254
theorem Cck:type_of% underlying268:=underlying268
theorem Cco:type_of% underlying290:=underlying290
theorem Ccp:type_of% underlying296:=underlying296
theorem Ccq:type_of% underlying297:=underlying297
theorem Ccs:type_of% underlying302:=underlying302
theorem Cct:type_of% underlying303:=underlying303
theorem Ccv:type_of% underlying312:=underlying312
theorem Ccw:type_of% underlying313:=underlying313
theorem Ccx:type_of% underlying323:=underlying323
theorem Ccy:type_of% underlying324:=underlying324
theorem Ccz:type_of% underlying328:=underlying328
theorem Cc0:type_of% underlying329:=underlying329
end
section
open Go.RowKit
abbrev iv (n:Int):Value:=.int .i64 n
abbrev bv (b:Bool):Value:=.bool b
abbrev pt (b o:Nat):Value:=.pointer (Aa ⟨b,o,Ab⟩)
abbrev SX (X S:Bs) (w:World):Prop:=∀b,S b->b.1<w.heap.size/\¬X b
abbrev KV (X S:Bs) (w:World) (v:Value):Value->World->Prop:=λu w'=>∃_:Unit,u=v/\H5 X S w [] [] w'
section
variable {α:Type} {a b0 b1 b2 b3 b4 b5 b6 b7 b8 b9 b10 b11 b12 b13 b14:α} {l:List α}
theorem m0:a∈a::l:=.head _
theorem m1:a∈b0::a::l:=.tail _ m0
theorem m2:a∈b0::b1::a::l:=.tail _ m1
theorem m3:a∈b0::b1::b2::a::l:=.tail _ m2
theorem m4:a∈b0::b1::b2::b3::a::l:=.tail _ m3
theorem m5:a∈b0::b1::b2::b3::b4::a::l:=.tail _ m4
theorem m6:a∈b0::b1::b2::b3::b4::b5::a::l:=.tail _ m5
end
section
variable {α β:Type} {G:Prop}
theorem bs{x} {f:α->Option β}{r} (h:x.bind f=Aa r) (k:∀y,x=Aa y->f y=Aa r->G):G:=by obtain⟨y,b,c⟩:=A1 h;exact k y b c
end
section
variable {P:Program} {n:Nat} {ops:Array Oper} {Q:Post} {env:Env} {w w1:World} {w0:Dn} {rest l':List Oper} {ty ty2:TypeId} {pos pos2:String} {af af2:Array Edge} {m l:List As} {rs:List Rd}
theorem St.addV{X S} (h:St ⟨w1,X,S⟩ m rs w1){c v} (b:c.rd S w1 v):St ⟨w1,X,S⟩ m (rV v c::rs) w1:=h.addE (r:=rV v c) b
def nm {T:Type} (v:T):Option T:=Aa v
end
end
section
open Go.RowKit
section
variable {P:Program} {n:Nat} {env:Env} {w:World} {d:Option Tmp} {ty:TypeId} {pos:String} {af:Array Edge} {g:Option (Nat×Bool)}
def fl3 (P:Program) (t e:TypeId):Bool:=match(P.fieldsOf t).toList with
 | [f, g, h] => ((f.name != "_" && (f.type == e && f.offset == 0)) && (g.name != "_" && (g.type == e && g.offset == 1))) && (h.name != "_" && (h.type == e && h.offset == 2))
 |_=>false
theorem Bfi{t e} (C:P.underlying t=Aa (.struct (P.fieldsOf t))) (F:P.stoodInHeld t=false) (l:fl3 P t e=true) (s:P.underlying e=Aa (.int .i64)) k a b c a' b' c' w:
  (Op.equalIn (k+2) t (.agg #[.int .i64 a,.int .i64 b,.int .i64 c]) (.agg #[.int .i64 a',.int .i64 b',.int .i64 c'])).run P w=.ok ((decide (a=a')&&decide (b=b'))&&decide (c=c')) w:=by
 rw[run_equalIn_struct w (k+1) t _ _ C F];unfold fl3 at l;split at l
 ·rename_i f g h D;simp only[A9,bne_iff_ne,beq_iff_eq]at l;obtain⟨⟨⟨u,x,y⟩,g1,g2,g3⟩,z,A,B⟩:=l;have q:∀(i j:Int) (w:World),(Op.equalIn (k+1) e (.int .i64 i) (.int .i64 j)).run P w=.ok (decide (i=j)) w:=λi j w=>by rw[run_equalIn_int w k e .i64 .i64 i j s];rfl
  have pt:∀(cs:Array Value) (o:Nat) (v:Value) (w:World),cs[o]?=Aa v->(part e cs o).run P w=.ok v w:=λcs o v w G=>by simp[part,Bri s,G]
  rw[D];simp only[Op.eqFields,if_pos u,if_pos g1,if_pos z,x,y,g2,g3,A,B,Sem.run_bind];rw[pt _ 0 (.int .i64 a) w rfl,Result.andThen_ok,pt _ 0 (.int .i64 a') w rfl,Result.andThen_ok,q,Result.andThen_ok];by_cases p:a=a'
  ·rw[decide_eq_true p,A6,if_neg (by simp),Sem.run_bind,pt _ 1 (.int .i64 b) w rfl,Result.andThen_ok,Sem.run_bind,pt _ 1 (.int .i64 b') w rfl,Result.andThen_ok,Sem.run_bind,q,Result.andThen_ok];by_cases e2:b=b'
   ·rw[decide_eq_true e2,A6,if_neg (by simp),Sem.run_bind,pt _ 2 (.int .i64 c) w rfl,Result.andThen_ok,Sem.run_bind,pt _ 2 (.int .i64 c') w rfl,Result.andThen_ok,Sem.run_bind,q,Result.andThen_ok];by_cases r:c=c'
    ·rw[decide_eq_true r,A6,if_neg (by simp),Sem.run_pure];rfl
    ·rw[decide_eq_false r,Fs,if_pos rfl,Sem.run_pure];rfl
   ·rw[decide_eq_false e2,Fs,if_pos rfl,Sem.run_pure];rfl
  ·rw[decide_eq_false p,Fs,if_pos rfl,Sem.run_pure];rfl
 ·cases l
theorem B43{x y t u e a b c a' b' c'} (i:P.underlying t=Aa (.struct (P.fieldsOf t))) (o:P.stoodInHeld t=false) (l:P.eqGuardType P.depth t=false) (k:fl3 P t e=true) (j:P.underlying e=Aa (.int .i64))
  (hx:ev env x=Aa (.agg #[.int .i64 a,.int .i64 b,.int .i64 c])) (p:ev env y=Aa (.agg #[.int .i64 a',.int .i64 b',.int .i64 c'])):
  Runs P n env w ⟨d,.binOp .neq t x y u,ty,pos,af,g⟩ (.bool (!((decide (a=a')&&decide (b=b'))&&decide (c=c')))) w:=λr h=>by
 simp only[execOp,h.ev hx,h.ev p,Sem.run_bind,run_eqGuard_agg w .neq t x y _ _ l,Result.andThen_ok,run_neq_struct,Bfi i o k j 9998,Sem.run_pure]
theorem B4h{x y t u e a b c a' b' c'} (i:P.underlying t=Aa (.struct (P.fieldsOf t))) (o:P.stoodInHeld t=false) (l:P.eqGuardType P.depth t=false) (k:fl3 P t e=true) (j:P.underlying e=Aa (.int .i64))
  (hx:ev env x=Aa (.agg #[.int .i64 a,.int .i64 b,.int .i64 c])) (p:ev env y=Aa (.agg #[.int .i64 a',.int .i64 b',.int .i64 c'])):
  Runs P n env w ⟨d,.binOp .eql t x y u,ty,pos,af,g⟩ (.bool ((decide (a=a')&&decide (b=b'))&&decide (c=c'))) w:=λr h=>by
 simp only[execOp,h.ev hx,h.ev p,Sem.run_bind,run_eqGuard_agg w .eql t x y _ _ l,Result.andThen_ok,run_eql_struct,Bfi i o k j 9998,Sem.run_pure]
end
section
variable {P:Program} {n:Nat} {env:Env} {w:World} {ty:TypeId} {pos:String} {af:Array Edge} {w0:Dn} {m:List As} {rs:List Rd} {T:Type} {f:T->List Ce}
theorem Cdv{K} {d:Nat}{x y t e size bytes z xv M S} (B:P.underlying t=Aa (.slice e)) (O:Sz P e size bytes z) (hx:ev env x=Aa xv) (G:ev env y=Aa nS.v)
  (q:(Ar size f M).rd S w xv) (o:FlatE f) (R:St w0 (oC (Ar size f ([]:List T)) nS.v::m) rs w) (C:0+M.length<=1099511627776) (F:Dm bytes 127=true)
  (h:∀(s':Sv) w',Rel w w'->St w0 (oC (Ar size f ([]++M)) s'.v::m) rs w'->K (s'.v) w'):
  Ex P n env w ⟨Aa d,.call {callee:=.builtin .append,args:= #[y,x],argTypes:= #[t,t]},ty,pos,af,Ab⟩ K:=by
 obtain⟨xs,j,I⟩:=Cs.src B q;have l:bytes<=127:=by simpa using F
 have k:(0+M.length)*bytes<=140737488355328:=by have:=Rw C l;omega
 obtain⟨s',w',A,Q⟩:=St.app (tyy:=ty) (own:=[]) (M:=M) (L:=([]:List T)) B O R j rfl (Zz I).symm (Amg o (λc s=>by
  obtain⟨a,_,r⟩:=Ye.1 s;exact o a c r) I w) (by simp only[maxLen,C0];omega) (by simpa using k)
 obtain⟨i,hi,V,H,D⟩:=O.info;subst H
 have p:Rel w w':=by
  by_cases U:M.length=0
  ·have u:=j.kind;have s:=j.cells;have N:=j.len;rw[U]at s N;have b:=A;rw[show(#[nS.v,xv]:Array Value)= #[.slice Ab 0 0,xv]from rfl]at b;have:s'.v=nS.v/\w'=w:=by rcases u with⟨e2,u⟩|u<;>(simp[Builtin.append_,run_underlying B,run_underlying u,sizeOf,typeInfo,hi,s,N]at b;exact⟨b.1.symm,b.2.symm⟩)
   rw[this.2];exact Rel.refl w
  ·have b:=run_append_grow_src (P:=P) w t t ty e i z B hi V Ab 0 0 [] (run_firstCells_none _ _ _ _ _) xv M.length xs j (by omega) (by omega) (by rw[D];exact growslice_fits (by omega) k);rw[show(#[nS.v,xv]:Array Value)= #[.slice Ab 0 0,xv]from rfl,b]at A;obtain⟨_,rfl⟩:_/\(w.drew.alloc (.cells (([]++xs).toArray++Builtin.zeroCells z.cells (grownCap w (0+M.length) 0 e-(0+M.length))) e))=w':=by simpa using A
   exact(Rel.refl w).drew.trans (Rel.alloc _ _)
 refine Li (v:=s'.v) (w':=w') (λa r=>?_) (h s' w' p Q);simp[execOp,resolve,invoke,builtin,r.ev G,r.ev hx,A]
end
end
section
open Go.RowKit
inductive HV where
 |row (s:Sv)
 |box (b:Nat)
 |num (k:Nat)
inductive Cell where
 |i (k:IntKind) (n:Int)
 |y (n:UInt8)
 |b (b:Bool)
 |s (s:Cea)
 |sl (h:Nat)
 |nil
 |ptr (h o:Nat)
 |ep (h k i j:Nat)
 |ix (u k h:Nat)
 |sx (u k h:Nat)
 |ln (h n:Nat)
 |fn (f:FuncId) (Bu:List (Nat×Nat))
 |lt (h:Nat)
 |er (ok:Bool)
 |Q4 (v:Value)
inductive V1 where
 |c (x:Cell)
 |a (l:List Cell)
inductive SV where
 |v (x:V1)
 |t (l:List V1)
inductive Ty where
 |b (n:Nat)
 |sl (e:Ty)
def Ty.beq:Ty->Ty->Bool
 |.b m,.b n=>Ay m n
 |.sl x,.sl y=>Ty.beq x y
 |_,_=>false
theorem Ty.eq_of_beq:∀ {x y:Ty},Ty.beq x y=true->x=y
 |.b _,.b _,h=>congrArg Ty.b (Br h)
 |.sl _,.sl _,h=>congrArg Ty.sl (Ty.eq_of_beq (by simpa [Ty.beq]using h))
 |.b _,.sl _,h=>by simp[Ty.beq]at h
 |.sl _,.b _,h=>by simp[Ty.beq]at h
theorem Ty.beq_refl:∀x,Ty.beq x x=true
 |.b n=>by simp[Ty.beq]
 |.sl x=>by simpa [Ty.beq]using Ty.beq_refl x
inductive TK where
 |int (k:IntKind)
 |bool
 |str
 |slice (e:TypeId)
 |struct (fs:List (Nat×TypeId))
 |other
structure TI where
 k:TK
 size:Nat
 bytes:Nat
 zero:List Cell
 ty:Option Ty
def Cell.val:Cell->Value
 |.i k x=>.int k x
 |.y x=>.int .u8 (x.toNat:Int)
 |.b x=>.bool x
 |.s x=>.string x
 |.nil=>.slice Ab 0 0
 |.Q4 x=>x
 |_=>.nilFunc
def TK.Is:TK->TypeDesc->Prop
 |.int k,d=>d=.int k
 |.bool,d=>d=.bool
 |.str,d=>d=.string
 |.slice e,d=>d=.slice e
 |.struct fs,d=>∃l:Array Field,d=.struct l/\l.toList.map (λf=>(f.offset,f.type))=fs
 |.other,d=>Ac0 d=true
structure Abo (P:Program) (t:TypeId) (i:TI):Prop where
 u:∃d,P.underlying t=Aa d/\i.k.Is d
 z:∃z,Sz P t i.size i.bytes z/\z.cells.toList=i.zero.map Cell.val
end
section
open Go.RowKit
def Afr:Nat->Type
 |0=>Int
 |1=>Bool
 |2=>Cea
 |3=>UInt8
 |4=>Ae
 |5=>A8
 |6=>Cm
 |7=>Ao
 |8=>Db
 |9=>A0
 |10=>Aw
 |11=>Ba
 |12=>Bb
 |13=>Bi
 |14=>A4
 |15=>Au
 |16=>B3
 |17=>Cw
 |18=>H4
 |19=>Jh
 |_+20=>Unit
def C7:Ty->Type
 |.b n=>Afr n
 |.sl e=>List (C7 e)
instance inhB (n:Nat):Inhabited (Afr n):=match n with
 |0=>inferInstanceAs (Inhabited Int)
 |1=>inferInstanceAs (Inhabited Bool)
 |2=>inferInstanceAs (Inhabited Cea)
 |3=>inferInstanceAs (Inhabited UInt8)
 |4=>inferInstanceAs (Inhabited Ae)
 |5=>inferInstanceAs (Inhabited A8)
 |6=>inferInstanceAs (Inhabited Cm)
 |7=>inferInstanceAs (Inhabited Ao)
 |8=>inferInstanceAs (Inhabited Db)
 |9=>inferInstanceAs (Inhabited A0)
 |10=>inferInstanceAs (Inhabited Aw)
 |11=>inferInstanceAs (Inhabited Ba)
 |12=>inferInstanceAs (Inhabited Bb)
 |13=>inferInstanceAs (Inhabited Bi)
 |14=>inferInstanceAs (Inhabited A4)
 |15=>inferInstanceAs (Inhabited Au)
 |16=>inferInstanceAs (Inhabited B3)
 |17=>inferInstanceAs (Inhabited Cw)
 |18=>inferInstanceAs (Inhabited H4)
 |19=>inferInstanceAs (Inhabited Jh)
 |_+20=>inferInstanceAs (Inhabited Unit)
instance inhD (t:Ty):Inhabited (C7 t):=match t with
 |.b n=>inhB n
 |.sl _=>⟨[]⟩
inductive A5 where
 |i (n:Int)
 |b (b:Bool)
 |s (s:Cea)
 |y (n:UInt8)
 |sl (t:Ty) (l:List (C7 t))
def szQ:Nat->Nat
 |0=>1
 |1=>1
 |2=>1
 |3=>1
 |4=>3
 |5=>3
 |6=>3
 |7=>5
 |8=>4
 |9=>6
 |10=>4
 |11=>2
 |12=>7
 |13=>4
 |14=>15
 |15=>8
 |16=>3
 |17=>3
 |18=>3
 |19=>1
 |_+20=>0
def sz:Ty->Nat
 |.b n=>szQ n
 |.sl _=>1
def fTB:(n:Nat)->Afr n->List Ce
 |0=>fI
 |1=>fB
 |2=>fT
 |3=>fY
 |4=>Y7
 |5=>Acd
 |6=>Bam
 |7=>Avt
 |8=>Bxj
 |9=>Avu
 |10=>Bxe
 |11=>Bal
 |12=>Bxd
 |13=>Bxc
 |14=>Ban
 |15=>Bxk
 |16=>Bxf
 |17=>Bxg
 |18=>Bxh
 |19=>Bxi
 |_+20=>λ_=>[]
def fD:(t:Ty)->C7 t->List Ce
 |.b n=>fTB n
 |.sl e=>λl=>[Ar (sz e) (fD e) l]
def A5.ce:A5->Ce
 |.i x=>cI x
 |.b x=>cB x
 |.s x=>cT x
 |.y x=>cY x
 |.sl t l=>Ar (sz t) (fD t) l
def A5.ty:A5->Ty
 |.i _=>.b 0
 |.b _=>.b 1
 |.s _=>.b 2
 |.y _=>.b 3
 |.sl t _=>.sl t
def lvB:Nat->List Ty
 |0=>[.b 0]
 |1=>[.b 1]
 |2=>[.b 2]
 |3=>[.b 3]
 |4=>[.b 0,.b 0,.sl (.b 0)]
 |5=>[.b 0,.b 0,.sl (.b 4)]
 |6=>[.b 0,.b 0,.b 0]
 |7=>[.b 2,.b 0,.sl (.b 0),.sl (.b 5),.sl (.b 6)]
 |8=>[.b 0,.b 0,.b 1,.sl (.b 5)]
 |9=>[.b 0,.b 2,.b 0,.b 0,.b 1,.sl (.b 5)]
 |10=>[.b 1,.sl (.b 7),.sl (.b 9),.b 0]
 |11=>[.b 2,.sl (.b 0)]
 |12=>[.b 0,.b 2,.b 0,.b 0,.b 0,.sl (.b 4),.sl (.b 0)]
 |13=>[.b 0,.b 0,.sl (.b 0),.sl (.b 5)]
 |14=>[.b 0,.b 2,.b 0,.b 0,.b 0,.sl (.b 4),.sl (.b 0),.b 0,.b 0,.b 0,.b 0,.b 0,.b 0,.sl (.b 0),.sl (.b 5)]
 |15=>[.b 1,.sl (.b 7),.sl (.b 9),.b 0,.sl (.b 0),.sl (.b 11),.sl (.b 14),.b 0]
 |16=>[.sl (.b 3),.b 0,.b 0]
 |17=>[.sl (.b 4),.sl (.b 0),.b 0]
 |18=>[.sl (.b 4),.b 0,.b 0]
 |19=>[.sl (.b 4)]
 |_+20=>[]
def Iw:Ty->List Ty
 |.b n=>lvB n
 |.sl e=>[.sl e]
def H8:(n:Nat)->Afr n->List A5
 |0=>λx=>[.i x]
 |1=>λx=>[.b x]
 |2=>λx=>[.s x]
 |3=>λx=>[.y x]
 |4=>λ(x:Ae)=>[.i x.kind,.i x.n,.sl (.b 0) x.Bd]
 |5=>λ(x:A8)=>[.i x.Al,.i x.seq,.sl (.b 4) x.o]
 |6=>λ(x:Cm)=>[.i x.Al,.i x.seq,.i x.rev]
 |7=>λ(x:Ao)=>[.s x.name,.i x.from_,.sl (.b 0) x.text,.sl (.b 5) x.list,.sl (.b 6) x.seen]
 |8=>λ(x:Db)=>[.i x.cap,.i x.next,.b x.out,.sl (.b 5) x.list]
 |9=>λ(x:A0)=>[.i x.id,.s x.Ah,.i x.r.cap,.i x.r.next,.b x.r.out,.sl (.b 5) x.r.list]
 |10=>λ(x:Aw)=>[.b x.shut,.sl (.b 7) x.Am,.sl (.b 9) x.Ax,.i x.last]
 |11=>λ(x:Ba)=>[.s x.Ah,.sl (.b 0) x.list]
 |12=>λ(x:Bb)=>[.i x.kind,.s x.Ah,.i x.Al,.i x.seq,.i x.n,.sl (.b 4) x.o,.sl (.b 0) x.text]
 |13=>λ(x:Bi)=>[.i x.code,.i x.rev,.sl (.b 0) x.text,.sl (.b 5) x.list]
 |14=>λ(x:A4)=>[.i x.c.kind,.s x.c.Ah,.i x.c.Al,.i x.c.seq,.i x.c.n,.sl (.b 4) x.c.o,.sl (.b 0) x.c.text,.i x.pc,.i x.inv,.i x.Bv,.i x.Cl,.i x.a.code,.i x.a.rev,.sl (.b 0) x.a.text,.sl (.b 5) x.a.list]
 |15=>λ(x:Au)=>[.b x.h.shut,.sl (.b 7) x.h.Am,.sl (.b 9) x.h.Ax,.i x.h.last,.sl (.b 0) x.Az,.sl (.b 11) x.An,.sl (.b 14) x.Ag,.i x.step]
 |16=>λ(x:B3)=>[.sl (.b 3) x.b,.i x.i,.i x.h]
 |17=>λ(x:Cw)=>[.sl (.b 4) x.list,.sl (.b 0) x.put,.i x.drop]
 |18=>λ(x:H4)=>[.sl (.b 4) x.o,.i x.at_,.i x.done]
 |19=>λ(x:Jh)=>[.sl (.b 4) x.parts]
 |_+20=>λ_=>[]
def Cf:(t:Ty)->C7 t->List A5
 |.b n=>H8 n
 |.sl e=>λl=>[.sl e l]
def Mt (a b:Ty) (l:List (C7 a)):Option (List (C7 b)):=if h:Ty.beq a b=true then Aa (Ty.eq_of_beq h▸l)else Ab
theorem Br9{a b l m} (h:Mt a b l=Aa m):A5.sl a l=A5.sl b m:=by
 unfold Mt at h;split at h
 ·rename_i c;cases Ty.eq_of_beq c;cases h;rfl
 ·cases h
def qI:List A5->Option (Int×List A5)
 |.i n::r=>Aa (n,r)
 |_=>Ab
def qB:List A5->Option (Bool×List A5)
 |.b n::r=>Aa (n,r)
 |_=>Ab
def qT:List A5->Option (Cea×List A5)
 |.s n::r=>Aa (n,r)
 |_=>Ab
def qY:List A5->Option (UInt8×List A5)
 |.y n::r=>Aa (n,r)
 |_=>Ab
def qL (e:Ty):List A5->Option (List (C7 e)×List A5)
 |.sl t l::r=>Ac (Mt t e l) λm=>Aa (m,r)
 |_=>Ab
theorem G7{l q} (h:qI l=Aa q):l=.i q.1::q.2:=by unfold qI at h;split at h<;>cases h;rfl
theorem Azc{l q} (h:qB l=Aa q):l=.b q.1::q.2:=by unfold qB at h;split at h<;>cases h;rfl
theorem Ag4{l q} (h:qT l=Aa q):l=.s q.1::q.2:=by unfold qT at h;split at h<;>cases h;rfl
theorem B3y{l q} (h:qY l=Aa q):l=.y q.1::q.2:=by unfold qY at h;split at h<;>cases h;rfl
theorem Jd{e l q} (h:qL e l=Aa q):l=.sl e q.1::q.2:=by
 unfold qL at h;split at h
 ·obtain⟨m,a,h⟩:=A1 h;cases h;rw[Br9 a]
 ·cases h
def Ayt (l:List A5):Option (Ae×List A5):=Ac (qI l) λa=>Ac (qI a.2) λc=>Ac (qL (.b 0) c.2) λd=>Aa (⟨a.1,c.1,d.1⟩,d.2)
theorem B3a{l q} (h:Ayt l=Aa q):l=H8 4 q.1++q.2:=by unfold Ayt at h;obtain⟨d,a,h⟩:=A1 h;obtain⟨e,b,h⟩:=A1 h;obtain⟨f,c,h⟩:=A1 h;cases h;rw[G7 a,G7 b,Jd c];rfl
def Ayp (l:List A5):Option (A8×List A5):=Ac (qI l) λa=>Ac (qI a.2) λc=>Ac (qL (.b 4) c.2) λd=>Aa (⟨a.1,c.1,d.1⟩,d.2)
theorem B26{l q} (h:Ayp l=Aa q):l=H8 5 q.1++q.2:=by unfold Ayp at h;obtain⟨d,a,h⟩:=A1 h;obtain⟨e,b,h⟩:=A1 h;obtain⟨f,c,h⟩:=A1 h;cases h;rw[G7 a,G7 b,Jd c];rfl
def Ayw (l:List A5):Option (Cm×List A5):=Ac (qI l) λa=>Ac (qI a.2) λb=>Ac (qI b.2) λc=>Aa (⟨a.1,b.1,c.1⟩,c.2)
theorem B3d{l q} (h:Ayw l=Aa q):l=H8 6 q.1++q.2:=by unfold Ayw at h;obtain⟨d,a,h⟩:=A1 h;obtain⟨e,b,h⟩:=A1 h;obtain⟨f,c,h⟩:=A1 h;cases h;rw[G7 a,G7 b,G7 c];rfl
def Ayo (l:List A5):Option (Ao×List A5):=Ac (qT l) λa=>Ac (qI a.2) λc=>Ac (qL (.b 0) c.2) λd=>Ac (qL (.b 5) d.2) λe=>Ac (qL (.b 6) e.2) λf=>Aa (⟨a.1,c.1,d.1,e.1,f.1⟩,f.2)
theorem B25{l q} (h:Ayo l=Aa q):l=H8 7 q.1++q.2:=by unfold Ayo at h;obtain⟨f,a,h⟩:=A1 h;obtain⟨g,b,h⟩:=A1 h;obtain⟨i,c,h⟩:=A1 h;obtain⟨j,d,h⟩:=A1 h;obtain⟨k,e,h⟩:=A1 h;cases h;rw[Ag4 a,G7 b,Jd c,Jd d,Jd e];rfl
def An8 (l:List A5):Option (Db×List A5):=Ac (qI l) λa=>Ac (qI a.2) λc=>Ac (qB c.2) λd=>Ac (qL (.b 5) d.2) λe=>Aa (⟨a.1,c.1,d.1,e.1⟩,e.2)
theorem Bd1{l q} (h:An8 l=Aa q):l=H8 8 q.1++q.2:=by unfold An8 at h;obtain⟨e,a,h⟩:=A1 h;obtain⟨f,b,h⟩:=A1 h;obtain⟨g,c,h⟩:=A1 h;obtain⟨i,d,h⟩:=A1 h;cases h;rw[G7 a,G7 b,Azc c,Jd d];rfl
def Ayx (l:List A5):Option (A0×List A5):=Ac (qI l) λa=>Ac (qT a.2) λb=>Ac (An8 b.2) λc=>Aa (⟨a.1,b.1,c.1⟩,c.2)
theorem B3e{l q} (h:Ayx l=Aa q):l=H8 9 q.1++q.2:=by unfold Ayx at h;obtain⟨d,a,h⟩:=A1 h;obtain⟨e,b,h⟩:=A1 h;obtain⟨f,c,h⟩:=A1 h;cases h;rw[G7 a,Ag4 b,Bd1 c];rfl
def An7 (l:List A5):Option (Aw×List A5):=Ac (qB l) λa=>Ac (qL (.b 7) a.2) λc=>Ac (qL (.b 9) c.2) λd=>Ac (qI d.2) λe=>Aa (⟨a.1,c.1,d.1,e.1⟩,e.2)
theorem Bd0{l q} (h:An7 l=Aa q):l=H8 10 q.1++q.2:=by unfold An7 at h;obtain⟨e,a,h⟩:=A1 h;obtain⟨f,b,h⟩:=A1 h;obtain⟨g,c,h⟩:=A1 h;obtain⟨i,d,h⟩:=A1 h;cases h;rw[Azc a,Jd b,Jd c,G7 d];rfl
def Ayu (l:List A5):Option (Ba×List A5):=Ac (qT l) λa=>Ac (qL (.b 0) a.2) λc=>Aa (⟨a.1,c.1⟩,c.2)
theorem B3b{l q} (h:Ayu l=Aa q):l=H8 11 q.1++q.2:=by unfold Ayu at h;obtain⟨c,a,h⟩:=A1 h;obtain⟨d,b,h⟩:=A1 h;cases h;rw[Ag4 a,Jd b];rfl
def An6 (l:List A5):Option (Bb×List A5):=Ac (qI l) λa=>Ac (qT a.2) λc=>Ac (qI c.2) λd=>Ac (qI d.2) λe=>Ac (qI e.2) λf=>Ac (qL (.b 4) f.2) λg=>Ac (qL (.b 0) g.2) λh=>Aa (⟨a.1,c.1,d.1,e.1,f.1,g.1,h.1⟩,h.2)
theorem Bdz{l q} (h:An6 l=Aa q):l=H8 12 q.1++q.2:=by unfold An6 at h;obtain⟨i,a,h⟩:=A1 h;obtain⟨j,b,h⟩:=A1 h;obtain⟨k,c,h⟩:=A1 h;obtain⟨m,d,h⟩:=A1 h;obtain⟨n,e,h⟩:=A1 h;obtain⟨o,f,h⟩:=A1 h;obtain⟨p,g,h⟩:=A1 h;cases h;rw[G7 a,Ag4 b,G7 c,G7 d,G7 e,Jd f,Jd g];rfl
def An5 (l:List A5):Option (Bi×List A5):=Ac (qI l) λa=>Ac (qI a.2) λc=>Ac (qL (.b 0) c.2) λd=>Ac (qL (.b 5) d.2) λe=>Aa (⟨a.1,c.1,d.1,e.1⟩,e.2)
theorem Bdy{l q} (h:An5 l=Aa q):l=H8 13 q.1++q.2:=by unfold An5 at h;obtain⟨e,a,h⟩:=A1 h;obtain⟨f,b,h⟩:=A1 h;obtain⟨g,c,h⟩:=A1 h;obtain⟨i,d,h⟩:=A1 h;cases h;rw[G7 a,G7 b,Jd c,Jd d];rfl
def Ayy (l:List A5):Option (A4×List A5):=Ac (An6 l) λa=>Ac (qI a.2) λb=>Ac (qI b.2) λc=>Ac (qI c.2) λd=>Ac (qI d.2) λe=>Ac (An5 e.2) λf=>Aa (⟨a.1,b.1,c.1,d.1,e.1,f.1⟩,f.2)
theorem B3f{l q} (h:Ayy l=Aa q):l=H8 14 q.1++q.2:=by unfold Ayy at h;obtain⟨g,a,h⟩:=A1 h;obtain⟨i,b,h⟩:=A1 h;obtain⟨j,c,h⟩:=A1 h;obtain⟨k,d,h⟩:=A1 h;obtain⟨m,e,h⟩:=A1 h;obtain⟨n,f,h⟩:=A1 h;cases h;rw[Bdz a,G7 b,G7 c,G7 d,G7 e,Bdy f];rfl
def Ayz (l:List A5):Option (Au×List A5):=Ac (An7 l) λa=>Ac (qL (.b 0) a.2) λc=>Ac (qL (.b 11) c.2) λd=>Ac (qL (.b 14) d.2) λe=>Ac (qI e.2) λf=>Aa (⟨a.1,c.1,d.1,e.1,f.1⟩,f.2)
theorem B3g{l q} (h:Ayz l=Aa q):l=H8 15 q.1++q.2:=by unfold Ayz at h;obtain⟨f,a,h⟩:=A1 h;obtain⟨g,b,h⟩:=A1 h;obtain⟨i,c,h⟩:=A1 h;obtain⟨j,d,h⟩:=A1 h;obtain⟨k,e,h⟩:=A1 h;cases h;rw[Bd0 a,Jd b,Jd c,Jd d,G7 e];rfl
def Ayq (l:List A5):Option (B3×List A5):=Ac (qL (.b 3) l) λa=>Ac (qI a.2) λc=>Ac (qI c.2) λd=>Aa (⟨a.1,c.1,d.1⟩,d.2)
theorem B27{l q} (h:Ayq l=Aa q):l=H8 16 q.1++q.2:=by unfold Ayq at h;obtain⟨d,a,h⟩:=A1 h;obtain⟨e,b,h⟩:=A1 h;obtain⟨f,c,h⟩:=A1 h;cases h;rw[Jd a,G7 b,G7 c];rfl
def Ayr (l:List A5):Option (Cw×List A5):=Ac (qL (.b 4) l) λa=>Ac (qL (.b 0) a.2) λc=>Ac (qI c.2) λd=>Aa (⟨a.1,c.1,d.1⟩,d.2)
theorem B28{l q} (h:Ayr l=Aa q):l=H8 17 q.1++q.2:=by unfold Ayr at h;obtain⟨d,a,h⟩:=A1 h;obtain⟨e,b,h⟩:=A1 h;obtain⟨f,c,h⟩:=A1 h;cases h;rw[Jd a,Jd b,G7 c];rfl
def Ays (l:List A5):Option (H4×List A5):=Ac (qL (.b 4) l) λa=>Ac (qI a.2) λc=>Ac (qI c.2) λd=>Aa (⟨a.1,c.1,d.1⟩,d.2)
theorem B29{l q} (h:Ays l=Aa q):l=H8 18 q.1++q.2:=by unfold Ays at h;obtain⟨d,a,h⟩:=A1 h;obtain⟨e,b,h⟩:=A1 h;obtain⟨f,c,h⟩:=A1 h;cases h;rw[Jd a,G7 b,G7 c];rfl
def Ayv (l:List A5):Option (Jh×List A5):=Ac (qL (.b 4) l) λa=>Aa (⟨a.1⟩,a.2)
theorem B3c{l q} (h:Ayv l=Aa q):l=H8 19 q.1++q.2:=by unfold Ayv at h;obtain⟨b,a,h⟩:=A1 h;cases h;rw[Jd a];rfl
def Bel:(n:Nat)->List A5->Option (Afr n×List A5)
 |0=>qI
 |1=>qB
 |2=>qT
 |3=>qY
 |4=>Ayt
 |5=>Ayp
 |6=>Ayw
 |7=>Ayo
 |8=>An8
 |9=>Ayx
 |10=>An7
 |11=>Ayu
 |12=>An6
 |13=>An5
 |14=>Ayy
 |15=>Ayz
 |16=>Ayq
 |17=>Ayr
 |18=>Ays
 |19=>Ayv
 |_+20=>λl=>Aa ((),l)
def prs:(t:Ty)->List A5->Option (C7 t×List A5)
 |.b n=>Bel n
 |.sl e=>qL e
theorem B3q n{l q} (h:Bel n l=Aa q):l=H8 n q.1++q.2:=match n with
 |0=>G7 h
 |1=>Azc h
 |2=>Ag4 h
 |3=>B3y h
 |4=>B3a h
 |5=>B26 h
 |6=>B3d h
 |7=>B25 h
 |8=>Bd1 h
 |9=>B3e h
 |10=>Bd0 h
 |11=>B3b h
 |12=>Bdz h
 |13=>Bdy h
 |14=>B3f h
 |15=>B3g h
 |16=>B27 h
 |17=>B28 h
 |18=>B29 h
 |19=>B3c h
 |_+20=>by cases h;rfl
theorem B3r:∀(t:Ty) {l:List A5} {q:C7 t×List A5},prs t l=Aa q->l=Cf t q.1++q.2
 |.b n,_,_,h=>B3q n h
 |.sl _,_,_,h=>Jd h
def mk (t:Ty) (l:List A5):Option (C7 t):=match prs t l with
 |some (x,[])=>Aa x
 |_=>Ab
theorem Ic{t l x} (h:mk t l=Aa x):Cf t x=l:=by
 unfold mk at h;split at h
 ·rename_i y a;cases h;have:=B3r t a;simpa using this.symm
 ·cases h
theorem Bxl n x:fTB n x=(H8 n x).map A5.ce:=match n with
 |0=>rfl
 |1=>rfl
 |2=>rfl
 |3=>rfl
 |4=>rfl
 |5=>rfl
 |6=>rfl
 |7=>rfl
 |8=>rfl
 |9=>rfl
 |10=>rfl
 |11=>rfl
 |12=>rfl
 |13=>rfl
 |14=>rfl
 |15=>rfl
 |16=>rfl
 |17=>rfl
 |18=>rfl
 |19=>rfl
 |_+20=>rfl
theorem Gl:∀t x,fD t x=(Cf t x).map A5.ce
 |.b n,x=>Bxl n x
 |.sl _,_=>rfl
theorem Cax n x:(H8 n x).length=szQ n:=match n with
 |0=>rfl
 |1=>rfl
 |2=>rfl
 |3=>rfl
 |4=>rfl
 |5=>rfl
 |6=>rfl
 |7=>rfl
 |8=>rfl
 |9=>rfl
 |10=>rfl
 |11=>rfl
 |12=>rfl
 |13=>rfl
 |14=>rfl
 |15=>rfl
 |16=>rfl
 |17=>rfl
 |18=>rfl
 |19=>rfl
 |_+20=>rfl
theorem Kz:∀t x,(Cf t x).length=sz t
 |.b n,x=>Cax n x
 |.sl _,_=>rfl
theorem B1s n x:(H8 n x).map A5.ty=lvB n:=match n with
 |0=>rfl
 |1=>rfl
 |2=>rfl
 |3=>rfl
 |4=>rfl
 |5=>rfl
 |6=>rfl
 |7=>rfl
 |8=>rfl
 |9=>rfl
 |10=>rfl
 |11=>rfl
 |12=>rfl
 |13=>rfl
 |14=>rfl
 |15=>rfl
 |16=>rfl
 |17=>rfl
 |18=>rfl
 |19=>rfl
 |_+20=>rfl
theorem Bcw:∀t x,(Cf t x).map A5.ty=Iw t
 |.b n,x=>B1s n x
 |.sl _,_=>rfl
theorem Fu t x:(fD t x).length=sz t:=by rw[Gl,Gz,Kz]
def Bh8:List (Nat×TI):=[
 (2,⟨.int .i64,1,8,[.i .i64 0],Aa (.b 0)⟩),
 (3,⟨.int .i64,1,8,[.i .i64 0],Aa (.b 0)⟩),
 (4,⟨.bool,1,1,[.b false],Aa (.b 1)⟩),
 (5,⟨.int .u8,1,1,[.y 0],Aa (.b 3)⟩),
 (9,⟨.str,1,16,[.s Cb],Aa (.b 2)⟩),
 (12,⟨.int .u64,1,8,[.i .u64 0],Ab⟩),
 (13,⟨.struct [(0,9),(1,12)],2,24,[.s Cb,.i .u64 0],Ab⟩),
 (21,⟨.int .i32,1,4,[.i .i32 0],Ab⟩),
 (22,⟨.slice 5,1,24,[.nil],Aa (.sl (.b 3))⟩),
 (23,⟨.slice 107,1,24,[.nil],Aa (.sl (.b 7))⟩),
 (24,⟨.slice 138,1,24,[.nil],Aa (.sl (.b 9))⟩),
 (25,⟨.struct [(0,4),(1,23),(2,24),(3,3)],4,64,[.b false,.nil,.nil,.i .i64 0],Ab⟩),
 (26,⟨.struct [(0,4),(1,23),(2,24),(3,3)],4,64,[.b false,.nil,.nil,.i .i64 0],Aa (.b 10)⟩),
 (27,⟨.slice 3,1,24,[.nil],Aa (.sl (.b 0))⟩),
 (28,⟨.slice 82,1,24,[.nil],Aa (.sl (.b 11))⟩),
 (29,⟨.slice 74,1,24,[.nil],Aa (.sl (.b 14))⟩),
 (30,⟨.struct [(0,26),(4,27),(5,28),(6,29),(7,3)],8,144,[.b false,.nil,.nil,.i .i64 0,.nil,.nil,.nil,.i .i64 0],Ab⟩),
 (31,⟨.struct [(0,26),(4,27),(5,28),(6,29),(7,3)],8,144,[.b false,.nil,.nil,.i .i64 0,.nil,.nil,.nil,.i .i64 0],Aa (.b 15)⟩),
 (34,⟨.slice 9,1,24,[.nil],Aa (.sl (.b 2))⟩),
 (53,⟨.slice 217,1,24,[.nil],Aa (.sl (.b 4))⟩),
 (54,⟨.struct [(0,3),(1,9),(2,3),(3,3),(4,3),(5,53),(6,27)],7,96,[.i .i64 0,.s Cb,.i .i64 0,.i .i64 0,.i .i64 0,.nil,.nil],Ab⟩),
 (55,⟨.struct [(0,3),(1,9),(2,3),(3,3),(4,3),(5,53),(6,27)],7,96,[.i .i64 0,.s Cb,.i .i64 0,.i .i64 0,.i .i64 0,.nil,.nil],Aa (.b 12)⟩),
 (58,⟨.struct [(0,22),(1,3),(2,3)],3,40,[.nil,.i .i64 0,.i .i64 0],Ab⟩),
 (59,⟨.struct [(0,22),(1,3),(2,3)],3,40,[.nil,.i .i64 0,.i .i64 0],Aa (.b 16)⟩),
 (70,⟨.slice 154,1,24,[.nil],Aa (.sl (.b 5))⟩),
 (71,⟨.struct [(0,3),(1,3),(2,27),(3,70)],4,64,[.i .i64 0,.i .i64 0,.nil,.nil],Ab⟩),
 (72,⟨.struct [(0,3),(1,3),(2,27),(3,70)],4,64,[.i .i64 0,.i .i64 0,.nil,.nil],Aa (.b 13)⟩),
 (73,⟨.struct [(0,55),(7,3),(8,3),(9,3),(10,3),(11,72)],15,192,[.i .i64 0,.s Cb,.i .i64 0,.i .i64 0,.i .i64 0,.nil,.nil,.i .i64 0,.i .i64 0,.i .i64 0,.i .i64 0,.i .i64 0,.i .i64 0,.nil,.nil],Ab⟩),
 (74,⟨.struct [(0,55),(7,3),(8,3),(9,3),(10,3),(11,72)],15,192,[.i .i64 0,.s Cb,.i .i64 0,.i .i64 0,.i .i64 0,.nil,.nil,.i .i64 0,.i .i64 0,.i .i64 0,.i .i64 0,.i .i64 0,.i .i64 0,.nil,.nil],Aa (.b 14)⟩),
 (81,⟨.struct [(0,9),(1,27)],2,40,[.s Cb,.nil],Ab⟩),
 (82,⟨.struct [(0,9),(1,27)],2,40,[.s Cb,.nil],Aa (.b 11)⟩),
 (87,⟨.slice 55,1,24,[.nil],Aa (.sl (.b 12))⟩),
 (88,⟨.slice 72,1,24,[.nil],Aa (.sl (.b 13))⟩),
 (105,⟨.slice 111,1,24,[.nil],Aa (.sl (.b 6))⟩),
 (106,⟨.struct [(0,9),(1,3),(2,27),(3,70),(4,105)],5,96,[.s Cb,.i .i64 0,.nil,.nil,.nil],Ab⟩),
 (107,⟨.struct [(0,9),(1,3),(2,27),(3,70),(4,105)],5,96,[.s Cb,.i .i64 0,.nil,.nil,.nil],Aa (.b 7)⟩),
 (110,⟨.struct [(0,3),(1,3),(2,3)],3,24,[.i .i64 0,.i .i64 0,.i .i64 0],Ab⟩),
 (111,⟨.struct [(0,3),(1,3),(2,3)],3,24,[.i .i64 0,.i .i64 0,.i .i64 0],Aa (.b 6)⟩),
 (135,⟨.struct [(0,3),(1,3),(2,4),(3,70)],4,48,[.i .i64 0,.i .i64 0,.b false,.nil],Ab⟩),
 (136,⟨.struct [(0,3),(1,3),(2,4),(3,70)],4,48,[.i .i64 0,.i .i64 0,.b false,.nil],Aa (.b 8)⟩),
 (137,⟨.struct [(0,3),(1,9),(2,136)],6,72,[.i .i64 0,.s Cb,.i .i64 0,.i .i64 0,.b false,.nil],Ab⟩),
 (138,⟨.struct [(0,3),(1,9),(2,136)],6,72,[.i .i64 0,.s Cb,.i .i64 0,.i .i64 0,.b false,.nil],Aa (.b 9)⟩),
 (153,⟨.struct [(0,3),(1,3),(2,53)],3,40,[.i .i64 0,.i .i64 0,.nil],Ab⟩),
 (154,⟨.struct [(0,3),(1,3),(2,53)],3,40,[.i .i64 0,.i .i64 0,.nil],Aa (.b 5)⟩),
 (171,⟨.int .u64,1,8,[.i .u64 0],Ab⟩),
 (193,⟨.slice 53,1,24,[.nil],Aa (.sl (.sl (.b 4)))⟩),
 (216,⟨.struct [(0,3),(1,3),(2,27)],3,40,[.i .i64 0,.i .i64 0,.nil],Ab⟩),
 (217,⟨.struct [(0,3),(1,3),(2,27)],3,40,[.i .i64 0,.i .i64 0,.nil],Aa (.b 4)⟩),
 (250,⟨.struct [(0,249),(1,22)],2,32,[.Q4 (.pointer Ab),.nil],Ab⟩),
 (251,⟨.struct [(0,249),(1,22)],2,32,[.Q4 (.pointer Ab),.nil],Ab⟩),
 (254,⟨.int .i64,1,8,[.i .i64 0],Aa (.b 0)⟩),
 (268,⟨.int .u64,1,8,[.i .u64 0],Ab⟩),
 (290,⟨.int .u32,1,4,[.i .u32 0],Ab⟩),
 (296,⟨.struct [(0,53),(1,27),(2,3)],3,56,[.nil,.nil,.i .i64 0],Ab⟩),
 (297,⟨.struct [(0,53),(1,27),(2,3)],3,56,[.nil,.nil,.i .i64 0],Aa (.b 17)⟩),
 (302,⟨.struct [(0,5),(1,5)],2,2,[.y 0,.y 0],Ab⟩),
 (303,⟨.struct [(0,5),(1,5)],2,2,[.y 0,.y 0],Ab⟩),
 (312,⟨.struct [(0,9)],1,16,[.s Cb],Ab⟩),
 (313,⟨.struct [(0,9)],1,16,[.s Cb],Ab⟩),
 (323,⟨.struct [(0,53),(1,3),(2,3)],3,40,[.nil,.i .i64 0,.i .i64 0],Ab⟩),
 (324,⟨.struct [(0,53),(1,3),(2,3)],3,40,[.nil,.i .i64 0,.i .i64 0],Aa (.b 18)⟩),
 (328,⟨.struct [(0,53)],1,24,[.nil],Ab⟩),
 (329,⟨.struct [(0,53)],1,24,[.nil],Aa (.b 19)⟩)]
def alw {α:Type} (p:α->Prop):List α->Prop
 |[]=>True
 |a::l=>p a/\alw p l
theorem Cbn:alw (λp=>Abo prog p.1 p.2) Bh8:=⟨
 ⟨⟨_,u2,rfl⟩,⟨_,sz2,rfl⟩⟩,
 ⟨⟨_,u3,rfl⟩,⟨_,sz3,rfl⟩⟩,
 ⟨⟨_,u4,rfl⟩,⟨_,sz4,rfl⟩⟩,
 ⟨⟨_,u5,rfl⟩,⟨_,sz5,rfl⟩⟩,
 ⟨⟨_,u9,rfl⟩,⟨_,sz9,rfl⟩⟩,
 ⟨⟨_,u12,rfl⟩,⟨_,B9a,rfl⟩⟩,
 ⟨⟨_,u13,⟨_,rfl,rfl⟩⟩,⟨_,B9b,rfl⟩⟩,
 ⟨⟨_,u21,rfl⟩,⟨_,B9l,rfl⟩⟩,
 ⟨⟨_,u22,rfl⟩,⟨_,B9o,rfl⟩⟩,
 ⟨⟨_,u23,rfl⟩,⟨_,B9p,rfl⟩⟩,
 ⟨⟨_,u24,rfl⟩,⟨_,B9q,rfl⟩⟩,
 ⟨⟨_,u25,⟨_,rfl,rfl⟩⟩,⟨_,B9r,rfl⟩⟩,
 ⟨⟨_,u26,⟨_,rfl,rfl⟩⟩,⟨_,B9v,rfl⟩⟩,
 ⟨⟨_,u27,rfl⟩,⟨_,B9x,rfl⟩⟩,
 ⟨⟨_,u28,rfl⟩,⟨_,B9y,rfl⟩⟩,
 ⟨⟨_,u29,rfl⟩,⟨_,B9z,rfl⟩⟩,
 ⟨⟨_,u30,⟨_,rfl,rfl⟩⟩,⟨_,B94,rfl⟩⟩,
 ⟨⟨_,u31,⟨_,rfl,rfl⟩⟩,⟨_,B97,rfl⟩⟩,
 ⟨⟨_,u34,rfl⟩,⟨_,Cae,rfl⟩⟩,
 ⟨⟨_,u53,rfl⟩,⟨_,Cah,rfl⟩⟩,
 ⟨⟨_,u54,⟨_,rfl,rfl⟩⟩,⟨_,Cai,rfl⟩⟩,
 ⟨⟨_,u55,⟨_,rfl,rfl⟩⟩,⟨_,Caj,rfl⟩⟩,
 ⟨⟨_,u58,⟨_,rfl,rfl⟩⟩,⟨_,Cak,rfl⟩⟩,
 ⟨⟨_,u59,⟨_,rfl,rfl⟩⟩,⟨_,Cal,rfl⟩⟩,
 ⟨⟨_,u70,rfl⟩,⟨_,Cam,rfl⟩⟩,
 ⟨⟨_,u71,⟨_,rfl,rfl⟩⟩,⟨_,Cao,rfl⟩⟩,
 ⟨⟨_,u72,⟨_,rfl,rfl⟩⟩,⟨_,Cap,rfl⟩⟩,
 ⟨⟨_,u73,⟨_,rfl,rfl⟩⟩,⟨_,Caq,rfl⟩⟩,
 ⟨⟨_,u74,⟨_,rfl,rfl⟩⟩,⟨_,Car,rfl⟩⟩,
 ⟨⟨_,u81,⟨_,rfl,rfl⟩⟩,⟨_,Cas,rfl⟩⟩,
 ⟨⟨_,u82,⟨_,rfl,rfl⟩⟩,⟨_,A09,rfl⟩⟩,
 ⟨⟨_,u87,rfl⟩,⟨_,Cat,rfl⟩⟩,
 ⟨⟨_,u88,rfl⟩,⟨_,Cau,rfl⟩⟩,
 ⟨⟨_,Cbu,rfl⟩,⟨_,B87,rfl⟩⟩,
 ⟨⟨_,Cbv,⟨_,rfl,rfl⟩⟩,⟨_,B88,rfl⟩⟩,
 ⟨⟨_,Cbw,⟨_,rfl,rfl⟩⟩,⟨_,Bhs,rfl⟩⟩,
 ⟨⟨_,Cbx,⟨_,rfl,rfl⟩⟩,⟨_,B89,rfl⟩⟩,
 ⟨⟨_,Cby,⟨_,rfl,rfl⟩⟩,⟨_,Bht,rfl⟩⟩,
 ⟨⟨_,Cb1,⟨_,rfl,rfl⟩⟩,⟨_,B9c,rfl⟩⟩,
 ⟨⟨_,Cb2,⟨_,rfl,rfl⟩⟩,⟨_,B9d,rfl⟩⟩,
 ⟨⟨_,Cb3,⟨_,rfl,rfl⟩⟩,⟨_,B9e,rfl⟩⟩,
 ⟨⟨_,Cb4,⟨_,rfl,rfl⟩⟩,⟨_,B9f,rfl⟩⟩,
 ⟨⟨_,Cb5,⟨_,rfl,rfl⟩⟩,⟨_,B9g,rfl⟩⟩,
 ⟨⟨_,Cb6,⟨_,rfl,rfl⟩⟩,⟨_,B9h,rfl⟩⟩,
 ⟨⟨_,Cb7,rfl⟩,⟨_,B9i,rfl⟩⟩,
 ⟨⟨_,Cb8,rfl⟩,⟨_,B9j,rfl⟩⟩,
 ⟨⟨_,Cca,⟨_,rfl,rfl⟩⟩,⟨_,B9m,rfl⟩⟩,
 ⟨⟨_,Ccb,⟨_,rfl,rfl⟩⟩,⟨_,B9n,rfl⟩⟩,
 ⟨⟨_,Ccg,⟨_,rfl,rfl⟩⟩,⟨_,B9s,rfl⟩⟩,
 ⟨⟨_,Cch,⟨_,rfl,rfl⟩⟩,⟨_,B9t,rfl⟩⟩,
 ⟨⟨_,Cci,rfl⟩,⟨_,B9u,rfl⟩⟩,
 ⟨⟨_,Cck,rfl⟩,⟨_,B9w,rfl⟩⟩,
 ⟨⟨_,Cco,rfl⟩,⟨_,B90,rfl⟩⟩,
 ⟨⟨_,Ccp,⟨_,rfl,rfl⟩⟩,⟨_,B91,rfl⟩⟩,
 ⟨⟨_,Ccq,⟨_,rfl,rfl⟩⟩,⟨_,B92,rfl⟩⟩,
 ⟨⟨_,Ccs,⟨_,rfl,rfl⟩⟩,⟨_,B95,rfl⟩⟩,
 ⟨⟨_,Cct,⟨_,rfl,rfl⟩⟩,⟨_,B96,rfl⟩⟩,
 ⟨⟨_,Ccv,⟨_,rfl,rfl⟩⟩,⟨_,B98,rfl⟩⟩,
 ⟨⟨_,Ccw,⟨_,rfl,rfl⟩⟩,⟨_,B99,rfl⟩⟩,
 ⟨⟨_,Ccx,⟨_,rfl,rfl⟩⟩,⟨_,Caa,rfl⟩⟩,
 ⟨⟨_,Ccy,⟨_,rfl,rfl⟩⟩,⟨_,Cab,rfl⟩⟩,
 ⟨⟨_,Ccz,⟨_,rfl,rfl⟩⟩,⟨_,Cac,rfl⟩⟩,
 ⟨⟨_,Cc0,⟨_,rfl,rfl⟩⟩,⟨_,Cad,rfl⟩⟩,trivial⟩
def lkT:List (Nat×TI)->Nat->Option TI
 |[],_=>Ab
 |(k,v)::r,t=>bif Ay k t then Aa v else lkT r t
def Jr (t:Nat):Option TI:=lkT Bh8 t
theorem Bct {p:Nat->TI->Prop}:∀ {l:List (Nat×TI)},alw (λq=>p q.1 q.2) l->∀ {t:Nat} {i:TI},lkT l t=Aa i->p t i
 |[],_,_,_,h=>by cases h
 |(k,v)::r,⟨h0,h1⟩,t,i,h=>by
  simp only[lkT]at h;cases a:Ay k t with
  |true=>rw[a]at h;cases h;cases Br a;exact h0
  |false=>rw[a]at h;exact Bct h1 h
theorem Js{t i} (h:Jr t=Aa i):Abo prog t i:=Bct (p:=λt i=>Abo prog t i) Cbn h
end
section
open Go.RowKit
inductive VP where
 |no
 |ei (i j:Nat)
 |cut (lo hi:Nat)
 |ec (i j lo hi:Nat)
 |c3 (hi:Nat)
structure View where
 h:Nat
 t:Ty
 L:List (C7 t)
 pos:VP
structure J6 where
 t:Ty
 L:List (C7 t)
inductive Chunk where
 |box (h g:Nat) (cs:List Cell)
 |row (h g:Nat) (t:Ty) (L:List (C7 t)) (vs:List View)
 |C9 (h g:Nat) (t:Ty) (L:List (C7 t))
 |El (h g:Nat) (t:Ty) (L:List (C7 t)) (i j o:Nat)
 |rem (h g:Nat) (t:Ty) (L:List (C7 t)) (hi:Nat)
structure Ai where
 env:List (Nat×Option SV)
 own:List Chunk
 Bg:List View
 Ak:Nat
section
variable {R:Type}
def nth {α:Type}:List α->Nat->Option α
 |[],_=>Ab
 |a::_,0=>Aa a
 |_::l,k+1=>nth l k
def Bo:List (Nat×Option SV)->Nat->Option SV
 |[],_=>Ab
 |(k,v)::r,t=>bif Ay k t then v else Bo r t
def Ai.put (st:Ai) (d:Nat) (v:SV):Ai:= {st with env:=(d,Aa v)::st.env}
def Afo:Value->Cell
 |.int .u8 n=>bif decide (0<=n)&&decide (n<=255)then .y (Tx n.toNat)else .Q4 (.int .u8 n)
 |.int k n=>.i k n
 |.bool x=>.b x
 |.string x=>.s x
 |.slice Ab 0 0=>.nil
 |v=>.Q4 v
def A07:Value->Option SV
 |.agg cs=>bif cs.toList.all (·.oneCell')then Aa (.v (.a (cs.toList.map Afo)))else Ab
 |v=>bif v.oneCell' then Aa (.v (.c (Afo v)))else Ab
def evS (env:List (Nat×Option SV)):Operand->Option SV
 |.tmp t=>Bo env t
 |.const v=>A07 v
 |.func f=>Aa (.v (.c (.fn f [])))
 |.global _=>Ab
def ev1 (env:List (Nat×Option SV)) (o:Operand):Option V1:=match evS env o with
 |some (.v x)=>Aa x
 |_=>Ab
def evC (env:List (Nat×Option SV)) (o:Operand):Option Cell:=match evS env o with
 |some (.v (.c x))=>Aa x
 |_=>Ab
def Cell.asInt:Cell->Option (IntKind×Int)
 |.i k n=>Aa (k,n)
 |.y n=>Aa (.u8,(n.toNat:Int))
 |.ix _ k _=>Aa (.i64,(k:Int))
 |.sx _ k _=>Aa (.i64,(k:Int)+1)
 |.ln _ n=>Aa (.i64,(n:Int))
 |_=>Ab
def evB (env:List (Nat×Option SV)) (o:Operand):Option Bool:=match evC env o with
 |some (.b x)=>Aa x
 |_=>Ab
def Ob (h:Nat):List View->Option J6
 |[]=>Ab
 |v::r=>bif Ay v.h h then Aa ⟨v.t,v.L⟩else Ob h r
def Fg (h:Nat):List Chunk->Option J6
 |[]=>Ab
 |.box _ _ _::r=>Fg h r
 |.row k _ t L vs::r=>bif Ay k h then Aa ⟨t,L⟩else match Ob h vs with
  |some c=>Aa c
  |none=>Fg h r
 |.C9 k _ t L::r=>bif Ay k h then Aa ⟨t,L⟩else Fg h r
 |.El _ _ _ _ _ _ _::r=>Fg h r
 |.rem _ _ _ _ _::r=>Fg h r
def Acj (h:Nat):List Chunk->Option J6
 |[]=>Ab
 |.El k _ t L _ _ _::r=>bif Ay k h then Aa ⟨t,L⟩else Acj h r
 |_::r=>Acj h r
def Ai.cont (st:Ai) (h:Nat):Option J6:=match Fg h st.own with
 |some c=>Aa c
 |none=>Ob h st.Bg
def Yn (h:Nat):List Chunk->Option (List Cell)
 |[]=>Ab
 |.box k _ cs::r=>bif Ay k h then Aa cs else Yn h r
 |_::r=>Yn h r
def Ai.contI (st:Ai) (h:Nat):Option J6:=match st.cont h with
 |some c=>Aa c
 |none=>Acj h st.own
def On (h:Nat):List View->VP
 |[]=>.no
 |v::r=>bif Ay v.h h then v.pos else On h r
def VP.sub:VP->VP->VP
 |.ei i j,.cut lo hi=>.ec i j lo hi
 |_,_=>.no
def addV (h:Nat) (v:View):List Chunk->Option (List Chunk)
 |[]=>Ab
 |.row k g t L vs::r=>bif Ay k h then Aa (.row k g t L (v::vs)::r)else match Ob h vs with
  |some _=>Aa (.row k g t L ({v with pos:=(On h vs).sub v.pos}::vs)::r)
  |none=>(addV h v r).map λr=>.row k g t L vs::r
 |.C9 k g t L::r=>bif Ay k h then Ab else(addV h v r).map λr=>.C9 k g t L::r
 |.box k g cs::r=>(addV h v r).map λr=>.box k g cs::r
 |.El k g t L i j o::r=>(addV h v r).map λr=>.El k g t L i j o::r
 |.rem k g t L i::r=>(addV h v r).map λr=>.rem k g t L i::r
def Ai.see (st:Ai) (h:Nat) (v:View):Ai:=match addV h v st.own with
 |some o=> {st with own:=o,Ak:=st.Ak+1}
 |none=> {st with Bg:= {v with pos:=.no}::st.Bg,Ak:=st.Ak+1}
def M0 (h i:Nat):List A5->Nat->Ai->List Cell×Ai
 |[],_,st=>([],st)
 |.i n::r,j,st=>let p:=M0 h i r (j+1) st;(.i .i64 n::p.1,p.2)
 |.b n::r,j,st=>let p:=M0 h i r (j+1) st;(.b n::p.1,p.2)
 |.s n::r,j,st=>let p:=M0 h i r (j+1) st;(.s n::p.1,p.2)
 |.y n::r,j,st=>let p:=M0 h i r (j+1) st;(.y n::p.1,p.2)
 |.sl t l::r,j,st=>let p:=M0 h i r (j+1) (st.see h ⟨st.Ak,t,l,.ei i j⟩);(.sl st.Ak::p.1,p.2)
def Jq (h:Nat):List Chunk->Option (J6×List Chunk)
 |[]=>Ab
 |.row k g t L vs::r=>bif Ay k h then Aa (⟨t,L⟩,r)else(Jq h r).map λp=>(p.1,.row k g t L vs::p.2)
 |c::r=>(Jq h r).map λp=>(p.1,c::p.2)
def cutV (h:Nat):List View->Option J6
 |[]=>Ab
 |v::r=>bif Ay v.h h then(match v.pos with
  |.cut _ _=>Aa ⟨v.t,v.L⟩
  |_=>Ab)else cutV h r
def Sr (h:Nat):List Chunk->Option (J6×List Chunk)
 |[]=>Ab
 |.row k g t L vs::r=>bif Ay k h then Aa (⟨t,L⟩,r)else match cutV h vs with
  |some c=>Aa (c,r)
  |none=>(Sr h r).map λp=>(p.1,.row k g t L vs::p.2)
 |c::r=>(Sr h r).map λp=>(p.1,c::p.2)
def opV (h:Nat):List View->Option ((Nat×Nat)×J6)
 |[]=>Ab
 |v::r=>bif Ay v.h h then(match v.pos with
  |.ei i j=>Aa ((i,j),⟨v.t,v.L⟩)
  |.ec i j _ _=>Aa ((i,j),⟨v.t,v.L⟩)
  |_=>Ab)else opV h r
def Ac6 (h n:Nat) (vs:List View):Nat:=match On h vs with
 |.ei _ _=>h
 |_=>n
def Sq (h n:Nat):List Chunk->Option (J6×List Chunk)
 |[]=>Ab
 |.row k g t L vs::r=>match opV h vs with
  |some p=>Aa (p.2,.El k n t L p.1.1 p.1.2 (Ac6 h n vs)::r)
  |none=>(Sq h n r).map λp=>(p.1,.row k g t L vs::p.2)
 |c::r=>(Sq h n r).map λp=>(p.1,c::p.2)
def W3 (h:Nat) (st:Ai):Ai:=match Sq h st.Ak st.own with
 |some p=> {st with own:=.row h (st.Ak+1) p.1.t p.1.L []::p.2,Ak:=st.Ak+2}
 |none=>st
def Pt:List Cell->Ai->Ai
 |[],st=>st
 |c::r,st=>match c with
  |.sl h=>Pt r (W3 h st)
  |_=>Pt r st
structure Akz where
 t:Ty
 L:List (C7 t)
 i:Nat
 j:Nat
def Sc (h:Nat):List Chunk->Option (Akz×List Chunk)
 |[]=>Ab
 |.El k g t L i j o::r=>bif Ay k h then Aa (⟨t,L,i,j⟩,r)else(Sc h r).map λp=>(p.1,.El k g t L i j o::p.2)
 |c::r=>(Sc h r).map λp=>(p.1,c::p.2)
def Ada (h:Nat):List View->Option Nat
 |[]=>Ab
 |v::r=>bif Ay v.h h then(match v.pos with
  |.cut 0 hi=>Aa hi
  |_=>Ab)else Ada h r
def Zm (h n:Nat):List Chunk->Option ((J6×Nat)×List Chunk)
 |[]=>Ab
 |.row k g t L vs::r=>match Ada h vs with
  |some hi=>Aa ((⟨t,L⟩,hi),.rem k n t L hi::r)
  |none=>(Zm h n r).map λp=>(p.1,.row k g t L vs::p.2)
 |c::r=>(Zm h n r).map λp=>(p.1,c::p.2)
structure Bre where
 t:Ty
 L:List (C7 t)
 hi:Nat
def Z1 (h:Nat):List Chunk->Option (Bre×List Chunk)
 |[]=>Ab
 |.rem k g t L hi::r=>bif Ay k h then Aa (⟨t,L,hi⟩,r)else(Z1 h r).map λp=>(p.1,.rem k g t L hi::p.2)
 |c::r=>(Z1 h r).map λp=>(p.1,c::p.2)
def Qo (h:Nat):List Chunk->Option (List Cell×List Chunk)
 |[]=>Ab
 |.box k g cs::r=>bif Ay k h then Aa (cs,r)else(Qo h r).map λp=>(p.1,.box k g cs::p.2)
 |c::r=>(Qo h r).map λp=>(p.1,c::p.2)
def Ado:Ty->Cell->Option A5
 |.b 0,c=>match c.asInt with
  |some (.i64,n)=>Aa (.i n)
  |_=>Ab
 |.b 1,.b x=>Aa (.b x)
 |.b 2,.s x=>Aa (.s x)
 |.b 3,.y x=>Aa (.y x)
 |.sl e,.nil=>Aa (.sl e [])
 |_,_=>Ab
def Azs (st:Ai) (e:Ty) (c:Cell):Option A5:=match c with
 |.sl h=>(st.cont h).map λc=>.sl c.t c.L
 |c=>Ado e c
def Ot (st:Ai):List Ty->List Cell->Option (List A5)
 |[],[]=>Aa []
 |e::es,c::cs=>Ac (Azs st e c) λl=>Ac (Ot st es cs) λls=>Aa (l::ls)
 |_,_=>Ab
def Agy (e:Ty) (c:Cell) (own:List Chunk):Option (A5×List Chunk):=match c with
 |.sl h=>(Sr h own).map λp=>(.sl p.1.t p.1.L,p.2)
 |c=>(Ado e c).map λl=>(l,own)
def Kv:List Ty->List Cell->List Chunk->Option (List A5×List Chunk)
 |[],[],own=>Aa ([],own)
 |e::es,c::cs,own=>Ac (Agy e c own) λp=>Ac (Kv es cs p.2) λq=>Aa (p.1::q.1,q.2)
 |_,_,_=>Ab
def Rx:Ty->Bool
 |.b n=>Dm 4 n
 |.sl _=>false
def Yq (t:Ty):V1->Option (List Cell)
 |.c x=>bif Rx t then Ab else Aa [x]
 |.a l=>bif Rx t then Aa l else Ab
def mkV (t:Ty) (cs:List Cell):V1:=bif Rx t then .a cs else match cs with
 |[c]=>.c c
 |l=>.a l
def B6 (own:Bool):List A5->Ai->List Cell×Ai
 |[],st=>([],st)
 |.i n::r,st=>let p:=B6 own r st;(.i .i64 n::p.1,p.2)
 |.b n::r,st=>let p:=B6 own r st;(.b n::p.1,p.2)
 |.s n::r,st=>let p:=B6 own r st;(.s n::p.1,p.2)
 |.y n::r,st=>let p:=B6 own r st;(.y n::p.1,p.2)
 |.sl t l::r,st=>let p:=B6 own r (bif own then {st with own:=.row st.Ak st.Ak t l []::st.own,Ak:=st.Ak+1}else {st with Bg:=⟨st.Ak,t,l,.no⟩::st.Bg,Ak:=st.Ak+1});(.sl st.Ak::p.1,p.2)
inductive BM where
 |lo
 |ow
 |rd
 |le
def BM.isOw:BM->Bool
 |.ow=>true
 |_=>false
def BM.isRo:BM->Bool
 |.lo=>true
 |.rd=>true
 |_=>false
inductive PK where
 |val (own:Bool) (t:Ty)
 |box (m:BM) (t:Ty)
 |Od (t:Ty)
 |lit (t:Ty)
 |fn (f:FuncId) (n:Nat)
 |cap (m:BM) (t:Ty)
 |len (t:Ty)
structure RK where
 own:Bool
 t:Ty
 bx:Bool
def PArgs:List PK->Type
 |[]=>Unit
 |.val _ t::r=>C7 t×PArgs r
 |.box _ t::r=>C7 t×PArgs r
 |.Od t::r=>C7 t×PArgs r
 |.lit t::r=>C7 t×PArgs r
 |.fn _ _::r=>PArgs r
 |.cap _ t::r=>C7 t×PArgs r
 |.len t::r=>List (C7 t)×PArgs r
def Q0:List PK->List Ty
 |[]=>[]
 |.box .ow t::r=>t::Q0 r
 |.box .rd t::r=>t::Q0 r
 |.cap .ow t::r=>t::Q0 r
 |.cap .rd t::r=>t::Q0 r
 |.len t::r=>.sl t::Q0 r
 |_::r=>Q0 r
def Tup:List Ty->Type
 |[]=>Unit
 |[a]=>C7 a
 |a::b::r=>C7 a×Tup (b::r)
abbrev PRes (ps:List PK) (rs:List RK):Type:=Tup (rs.map (·.t)++Q0 ps)
structure I6 where
 f:FuncId
 ps:List PK
 rs:List RK
 x:PArgs ps->Option (PRes ps rs)
inductive CT where
 |sc (t:Nat)
 |row (t:Ty)
 |ro (t:Ty)
 |C9 (t:Ty)
 |nl
inductive VK where
 |slot (s:Nat) (c:CT)
 |Qs (s:Nat) (t:Ty)
 |box (s k:Nat) (cs:List CT)
structure Hint where
 key:Nat
 each:Option (Nat×Nat)
 esc:Bool
 C6:List VK
abbrev Inl:Type 1:=(R:Type)->FuncId->List V1->Ai->(SV->Ai->Option R)->Option R
structure Es where
 n:Nat
 cons:List I6
 Ba4:List Hint
 wrap:Bool
 B75:Bool
 mov:Bool
 inl:Inl
def Amv:Inl:=λ_ _ _ _ _=>Ab
def kq (a b:IntKind):Bool:=decide (a=b)
def Afm (C:Es) (c:BinOp) (a k2:IntKind) (i j:Int) (K:Cell->Option R):Option R:=
 match c with
 |.lss=>bif kq a k2 then K (.b (decide (i<j)))else Ab
 |.leq=>bif kq a k2 then K (.b (decide (i<=j)))else Ab
 |.gtr=>bif kq a k2 then K (.b (decide (j<i)))else Ab
 |.geq=>bif kq a k2 then K (.b (decide (j<=i)))else Ab
 |.eql=>bif kq a k2 then K (.b (decide (i=j)))else Ab
 |.neq=>bif kq a k2 then K (.b (!decide (i=j)))else Ab
 |.add=>bif kq a .i64&&kq k2 .i64 then(bif C.wrap then K (.i .i64 (iw (i+j)))else xg (Aq (i+j)) (K (.i .i64 (i+j))))else Ab
 |.sub=>bif kq a .i64&&kq k2 .i64 then xg (Aq (i-j)) (K (.i .i64 (i-j)))else Ab
 |.mul=>bif kq a .i64&&kq k2 .i64 then(bif C.wrap then K (.i .i64 (iw (i*j)))else xg (Aq (i*j)) (K (.i .i64 (i*j))))else Ab
 |.rem=>bif kq a .i64&&kq k2 .i64 then xg (0<=i/\0<j) (K (.i .i64 (i % j)))else Ab
 |.quo=>bif kq a .i64&&kq k2 .i64 then xg (0<=i/\i<=9223372036854775807/\0<j) (K (.i .i64 (i/j)))else Ab
 |.and=>bif kq a .i64&&kq k2 .i64 then K (.i .i64 (Qn i j))else Ab
 |.xor=>bif kq a .i64&&kq k2 .i64 then K (.i .i64 (Jv i j))else Ab
 |.shr=>bif kq a .i64 then xg (0<=j) (K (.i .i64 (Yj i j)))else Ab
 |_=>Ab
def Bg9 (c:BinOp) (a b:Cell):Option Cell:=match c,a,b with
 |.lss,.ix _ _ h,.ln h' _=>bif Ay h h' then Aa (.b true)else Ab
 |.add,.ix u k h,.i .i64 1=>Aa (.sx u k h)
 |_,_,_=>Ab
def bin (C:Es) (d:BinOp) (e:Bool) (x y:V1) (K:Cell->Option R):Option R:=
 match x,y with
 |.c a,.c b=>match Bg9 d a b with|some c=>K c|none=>match a.asInt,b.asInt with
  |some (k1,i),Aa (k2,j)=>Afm C d k1 k2 i j K
  |_,_=>match a,b with
   |.b i,.b j=>match d with
    |.eql=>bif e then K (.b (i==j))else Ab
    |.neq=>bif e then K (.b (!(i==j)))else Ab
    |_=>Ab
   |.s i,.s j=>match d with
    |.add=>xg (i.size+j.size<=9223372036854775807) (K (.s (i++j)))
    |.eql=>K (.b (decide (i=j)))
    |.neq=>K (.b (!decide (i=j)))
    |.lss=>K (.b (Cv i j))
    |.geq=>K (.b (!Cv i j))
    |_=>Ab
   |_,_=>Ab
 |_,_=>Ab
def Al7 (t k:Nat):Option (Nat×TI):=match Jr t with
 |some ti=>match ti.k with
  |.struct fs=>match nth fs k with
   |some (off,ft)=>(Jr ft).map λa=>(off,a)
   |none=>Ab
  |_=>Ab
 |none=>Ab
def Ze:TK->Bool
 |.struct _=>true
 |_=>false
def Agm (ti:TI) (cs:List Cell) (o:Nat):Option V1:=bif Ze ti.k then(let l:=(cs.drop o).take ti.size;bif Ay l.length ti.size then Aa (.a l)else Ab)else(nth cs o).map .c
def R8 (t:TypeId):Option (TypeId×TI):=match Jr t with
 |some ti=>match ti.k with
  |.slice e=>(Jr e).map λei=>(e,ei)
  |_=>Ab
 |none=>Ab
def Zf (t:TypeId):Bool:=match Jr t with
 |some ti=>match ti.k with
  |.str=>true
  |_=>false
 |none=>false
def Aw3 (t:TypeId):Bool:=match Jr t with
 |some ti=>match ti.k with
  |.bool=>true
  |_=>false
 |none=>false
def Wv (st:Ai) (x:Operand) (K:SV->Ai->Option R):Option R:=match evS st.env x with
 |some v=>K v st
 |none=>Ab
def Anh (st:Ai) (x:Operand) (K:SV->Ai->Option R):Option R:=match evC st.env x with
 |some (.ptr h o)=>K (.v (.c (.ptr h o))) st
 |some (.ep h k i j)=>K (.v (.c (.ep h k i j))) st
 |_=>Ab
def Anb (st:Ai) (x:Operand) (i:Nat) (K:SV->Ai->Option R):Option R:=match evS st.env x with
 |some (.t l)=>match nth l i with
  |some v=>K (.v v) st
  |none=>Ab
 |_=>Ab
def Bb2 (t:TypeId):Bool:=Ay t 184
def Ana (st:Ai) (a:BinOp) (t:TypeId) (y:Operand) (ok:Bool) (K:SV->Ai->Option R):Option R:=bif Bb2 t then(match a,y with
 |.eql,.const _=>K (.v (.c (.b ok))) st
 |.neq,.const _=>K (.v (.c (.b !ok))) st
 |_,_=>Ab)else Ab
def is3 (t:TypeId):Bool:=Ay t 111
def Ak1:List IntKind->Bool
 |[]=>true
 |k::r=>kq k .i64&&Ak1 r
def lk3 (st:Ai) (d:BinOp) (a b:V1) (K:SV->Ai->Option R):Option R:=match a,b with
 |.a [.i k1 a1,.i k2 a2,.i k3 a3],.a [.i j1 b1,.i j2 b2,.i j3 b3]=>bif Ak1 [k1,k2,k3,j1,j2,j3]then(match d with
  |.eql=>K (.v (.c (.b ((decide (a1=b1)&&decide (a2=b2))&&decide (a3=b3))))) st
  |.neq=>K (.v (.c (.b (!((decide (a1=b1)&&decide (a2=b2))&&decide (a3=b3)))))) st
  |_=>Ab)else Ab
 |_,_=>Ab
def Am8 (C:Es) (st:Ai) (d:BinOp) (t:TypeId) (x y:Operand) (K:SV->Ai->Option R):Option R:=match ev1 st.env x,ev1 st.env y with
 |some (.c (.er ok)),Aa (.c (.Q4 .nilIface))=>Ana st d t y ok K
 |some a,Aa b=>bif is3 t then lk3 st d a b K else bin C d (Aw3 t) a b λc=>K (.v (.c c)) st
 |_,_=>Ab
def Ani (st:Ai) (x:Operand) (K:SV->Ai->Option R):Option R:=match evB st.env x with
 |some b=>K (.v (.c (.b !b))) st
 |none=>Ab
def Anc (st:Ai) (t:TypeId) (x:Operand) (k:Nat) (K:SV->Ai->Option R):Option R:=match evC st.env x,Al7 t k with
 |some (.ptr h o),Aa (off,_)=>K (.v (.c (.ptr h (o+off)))) st
 |some (.ep h s i j),Aa (off,_)=>K (.v (.c (.ep h s i (j+off)))) st
 |_,_=>Ab
def Ane (st:Ai) (t:TypeId) (x:Operand) (k:Nat) (K:SV->Ai->Option R):Option R:=match ev1 st.env x,Al7 t k with
 |some (.a cs),Aa (off,fi)=>match Agm fi cs off with
  |some v=>K (.v v) st
  |none=>Ab
 |_,_=>Ab
def Ang (st:Ai) (t:TypeId) (x:Operand) (K:SV->Ai->Option R):Option R:=match evC st.env x,Jr t with
 |some (.ptr h o),Aa ti=>match Yn h st.own with
  |some cs=>match Agm ti cs o with
   |some v=>K (.v v) st
   |none=>Ab
  |none=>Ab
 |some (.ep h k i j),Aa ti=>match st.cont h with
  |some c=>bif Ay (sz c.t) k&&Dm (j+ti.size) k then
    (let p:=M0 h i (((Cf c.t (el c.L i)).drop j).take ti.size) j st
     bif Ze ti.k then K (.v (.a p.1)) p.2 else match p.1 with
     |[x]=>K (.v (.c x)) p.2
     |_=>Ab)else Ab
  |none=>Ab
 |_,_=>Ab
def Acu (st:Ai) (t:TypeId) (x y:Operand) (K:SV->Ai->Option R):Option R:=match evC st.env x,evC st.env y,R8 t with
 |some (.sl h),Aa i,Aa (_,ei)=>match st.contI h with
  |some c=>bif Ay ei.size (sz c.t)then(match i with
   |.ix _ k a=>bif Ay h a then K (.v (.c (.ep h (sz c.t) k 0))) st else xg (0<=(k:Int)/\(k:Int)<(c.L.length:Int)) (K (.v (.c (.ep h (sz c.t) k 0))) st)
   |.i .i64 n=>xg (0<=n/\n<(c.L.length:Int)) (K (.v (.c (.ep h (sz c.t) n.toNat 0))) st)
   |_=>Ab)else Ab
  |none=>Ab
 |_,_,_=>Ab
def Anj (st:Ai) (t:TypeId) (x y:Operand) (K:SV->Ai->Option R):Option R:=match evC st.env x,evC st.env y with
 |some (.s s),Aa c=>match c.asInt with
  |some (.i64,n)=>bif Zf t then xg (0<=n/\n<(s.size:Int)) (K (.v (.c (.y (Du s n.toNat)))) st)else Ab
  |_=>Ab
 |_,_=>Ab
def isY (i:TI):Bool:=match i.k with
 |.int .u8=>true
 |_=>false
def Al2 (t:TypeId):Bool:=match R8 t with
 |some (_,ei)=>isY ei
 |none=>false
def Am7 (st:Ai) (s t:TypeId) (h:Nat) (K:SV->Ai->Option R):Option R:=bif Zf t&&Al2 s then(match st.cont h with
 |some c=>match Mt c.t (.b 3) c.L with
  |some L=>K (.v (.c (.s (⟨Pa L⟩:Cea)))) st
  |none=>Ab
 |none=>Ab)else Ab
def Am9 (st:Ai) (s t:TypeId) (x:Operand) (K:SV->Ai->Option R):Option R:=match evC st.env x,Jr s,Jr t with
 |some (.y n),Aa _,Aa ti=>match ti.k with
  |.int .i64=>K (.v (.c (.i .i64 (n.toNat:Int)))) st
  |_=>Ab
 |some (.i .i64 n),Aa _,Aa ti=>bif isY ti then K (.v (.c (.y (y8 n)))) st else Ab
 |some (.sl h),Aa _,Aa _=>Am7 st s t h K
 |_,_,_=>Ab
def Al6 (env:List (Nat×Option SV)):List Operand->Option (List (Nat×Nat))
 |[]=>Aa []
 |o::os=>match evC env o with
  |some (.ptr h k)=>Ac (Al6 env os) λl=>Aa ((h,k)::l)
  |_=>Ab
def Anf (st:Ai) (f:FuncId) (Bu:List Operand) (K:SV->Ai->Option R):Option R:=match Al6 st.env Bu with
 |some l=>K (.v (.c (.fn f l))) st
 |none=>Ab
def Acv (st:Ai) (a:List Operand) (b:List TypeId) (K:SV->Ai->Option R):Option R:=match a,b with
 |[x],[t]=>match evC st.env x with
  |some (.sl h)=>match st.cont h,R8 t with
   |some c,Aa _=>K (.v (.c (.ln h c.L.length))) st
   |_,_=>Ab
  |some .nil=>match R8 t with
   |some _=>K (.v (.c (.i .i64 0))) st
   |none=>Ab
  |some (.s s)=>bif Zf t then K (.v (.c (.i .i64 (s.size:Int)))) st else Ab
  |_=>Ab
 |_,_=>Ab
def Nr (env:List (Nat×Option SV)) (o:Operand):Option Int:=match evC env o with
 |some c=>match c.asInt with
  |some (.i64,n)=>Aa n
  |_=>Ab
 |none=>Ab
def Wu (st:Ai) (f:Int->Int->Int) (d:List Operand) (K:SV->Ai->Option R):Option R:=match d with
 |[x,y]=>match Nr st.env x,Nr st.env y with
  |some a,Aa b=>K (.v (.c (.i .i64 (f a b)))) st
  |_,_=>Ab
 |_=>Ab
def Ax9 (st:Ai) (h:Nat) (v:View):Bool:=match Fg h st.own with
 |none=>true
 |some _=>match addV h v st.own with
  |some _=>true
  |none=>false
def R2 (st:Ai) (h:Nat) (t:Ty) (l:List (C7 t)) (p:VP) (K:SV->Ai->Option R):Option R:=bif Ax9 st h ⟨st.Ak,t,l,p⟩then K (.v (.c (.sl st.Ak))) (st.see h ⟨st.Ak,t,l,p⟩)else Ab
def c3V:List View->Option (Nat×Nat)
 |[]=>Ab
 |v::r=>match v.pos with
  |.c3 hi=>Aa (v.h,hi)
  |_=>c3V r
def Sy (h n a k:Nat):List Chunk->Option ((Nat×Nat)×List Chunk)
 |[]=>Ab
 |.row h' g t L vs::r=>bif Ay h' h then(match c3V vs with
   |some p=>bif Ay (sz t) k then Aa ((p.2,L.length),.row p.1 (n+1) t ((L.take p.2).drop 0) []::.row n (n+2) t ((L.take L.length).drop a) []::r)else Ab
   |none=>Ab)else(Sy h n a k r).map λp=>(p.1,.row h' g t L vs::p.2)
 |c::r=>(Sy h n a k r).map λp=>(p.1,c::p.2)
def splitK (st:Ai) (h a:Nat) (t:Ty) (l:List (C7 t)) (p:VP) (K:SV->Ai->Option R):Option R:=match Sy h st.Ak a (sz t) st.own with
 |some q=>xg (q.1.1<=a/\a<=q.1.2) (K (.v (.c (.sl st.Ak))) {st with own:=q.2,Ak:=st.Ak+3})
 |none=>R2 st h t l p K
def Anl (st:Ai) (t:TypeId) (s:Cea) (a hi:Option Operand) (K:SV->Ai->Option R):Option R:=bif Zf t then(match a,hi with
 |some a,Aa hi=>match Nr st.env a,Nr st.env hi with
  |some i,Aa j=>xg (0<=i/\i<=j/\j<=(s.size:Int)) (K (.v (.c (.s (s.extract i.toNat j.toNat)))) st)
  |_,_=>Ab
 |some a,Ab=>match Nr st.env a with
  |some i=>xg (0<=i/\i<=(s.size:Int)) (K (.v (.c (.s (s.extract i.toNat s.size)))) st)
  |none=>Ab
 |_,_=>Ab)else Ab
def Ade (st:Ai) (h a:Nat) (b hi:Option Operand) (K:SV->Ai->Option R):Option R:=match b,hi with
 |some b,Ab=>match Nr st.env b,Z1 h st.own with
  |some i,Aa (d,own)=>bif Ay a (sz d.t)then xg ((d.hi:Int)<=i/\i<=(d.L.length:Int)) (K (.v (.c (.sl st.Ak))) {st with own:=.row st.Ak st.Ak d.t ((d.L.take d.L.length).drop i.toNat) []::own,Ak:=st.Ak+1})else Ab
  |_,_=>Ab
 |_,_=>Ab
def Acw (st:Ai) (t:TypeId) (x:Operand) (a hi:Option Operand) (K:SV->Ai->Option R):Option R:=match evC st.env x,R8 t with
 |some (.sl h),Aa (_,ei)=>match st.cont h with
  |some c=>bif Ay ei.size (sz c.t)then(match a,hi with
   |some a,Aa hi=>match Nr st.env a,Nr st.env hi with
    |some i,Aa j=>xg (0<=i/\i<=j/\j<=(c.L.length:Int)) (R2 st h c.t ((c.L.take j.toNat).drop i.toNat) (.cut i.toNat j.toNat) K)
    |_,_=>Ab
   |none,Aa hi=>match Nr st.env hi with
    |some j=>xg (0<=j/\j<=(c.L.length:Int)) (R2 st h c.t ((c.L.take j.toNat).drop 0) (.cut 0 j.toNat) K)
    |none=>Ab
   |some a,Ab=>match Nr st.env a with
    |some i=>xg (0<=i/\i<=(c.L.length:Int)) (splitK st h i.toNat c.t ((c.L.take c.L.length).drop i.toNat) (.cut i.toNat c.L.length) K)
    |none=>Ab
   |none,Ab=>Ab)else Ab
  |none=>Ade st h ei.size a hi K
 |some (.s s),_=>Anl st t s a hi K
 |_,_=>Ab
def Ank (st:Ai) (t:TypeId) (x hi a:Operand) (K:SV->Ai->Option R):Option R:=match evC st.env x,R8 t with
 |some (.sl h),Aa (_,ei)=>match st.cont h,Nr st.env hi,Nr st.env a with
  |some c,Aa j,Aa m=>bif Ay ei.size (sz c.t)then xg (0<=j/\j=m/\j<=(c.L.length:Int)) (R2 st h c.t ((c.L.take j.toNat).drop 0) (.c3 j.toNat) K)else Ab
  |_,_,_=>Ab
 |_,_=>Ab
def Pp (C:Es) (st:Ai) (a:Op) (K:SV->Ai->Option R):Option R:=
 match a with
 |.move x=>Wv st x K
 |.assign x=>Wv st x K
 |.nilCheck x=>Anh st x K
 |.extract x i=>Anb st x i K
 |.binOp a t x y _=>Am8 C st a t x y K
 |.unOp .not _ x=>Ani st x K
 |.fieldAddr t x k=>Anc st t x k K
 |.field t x k=>Ane st t x k K
 |.load t x=>Ang st t x K
 |.indexAddr t x y=>Acu st t x y K
 |.index t x y=>Anj st t x y K
 |.convert s t x=>Am9 st s t x K
 |.makeFunc (.func f) first Bu=>match first.toList with
  |[]=>Anf st f Bu.toList K
  |_=>Ab
 |.call ⟨.builtin .len,args,tys⟩=>Acv st args.toList tys.toList K
 |.call ⟨.builtin .min,args,_⟩=>Wu st min args.toList K
 |.call ⟨.builtin .max,args,_⟩=>Wu st max args.toList K
 |.slice t x b hi Ab=>Acw st t x b hi K
 |.slice t x Ab (Aa hi) (Aa mx)=>Ank st t x hi mx K
 |_=>Ab
structure Afc where
 ls:List (List A5)
 bx:List (Nat×Nat×BM×List Cell)
def Gt (h:Nat):List Chunk->Option ((Nat×List Cell)×List Chunk)
 |[]=>Ab
 |.box k g cs::r=>bif Ay k h then Aa ((g,cs),r)else(Gt h r).map λp=>(p.1,.box k g cs::p.2)
 |c::r=>(Gt h r).map λp=>(p.1,c::p.2)
def Ah1 (m:BM) (t:Ty) (h:Nat) (own:List Chunk):Option (List (List A5)×(Nat×Nat×BM×List Cell)×List Chunk):=
 Ac (Gt h own) λb=>bif m.isOw then Ac (Kv (Iw t) b.1.2 b.2) λp=>Aa ([p.1],(h,b.1.1,m,b.1.2),p.2)else bif m.isRo then Aa ([],(h,b.1.1,m,b.1.2),b.2)else Ab
def I1:List PK->List V1->List (Nat×Nat)->List Chunk->Option (Afc×List Chunk)
 |[],vs,cp,own=>match vs,cp with
  |[],[]=>Aa (⟨[],[]⟩,own)
  |_,_=>Ab
 |.val o t::ps,vs,cp,own=>match vs with
  |v::vs=>bif o then Ac (Yq t v) λcs=>Ac (Kv (Iw t) cs own) λp=>Ac (I1 ps vs cp p.2) λq=>Aa (⟨p.1::q.1.ls,q.1.bx⟩,q.2)
    else I1 ps vs cp own
  |[]=>Ab
 |.box m t::ps,vs,cp,own=>match vs with
  |.c (.ptr h 0)::vs=>Ac (Ah1 m t h own) λp=>Ac (I1 ps vs cp p.2.2) λq=>Aa (⟨p.1++q.1.ls,p.2.1::q.1.bx⟩,q.2)
  |_=>Ab
 |.Od t::ps,vs,cp,own=>match vs with
  |.c (.ptr h 0)::vs=>Ac (Gt h own) λb=>Ac (Kv (Iw t) b.1.2 b.2) λp=>Ac (I1 ps vs cp p.2) λq=>Aa (⟨p.1::q.1.ls,q.1.bx⟩,q.2)
  |_=>Ab
 |.lit t::ps,vs,cp,own=>match vs with
  |.c (.lt h)::vs=>Ac (Gt h own) λb=>Ac (Kv (Iw t) b.1.2 b.2) λp=>Ac (I1 ps vs cp p.2) λq=>Aa (⟨p.1::q.1.ls,q.1.bx⟩,q.2)
  |_=>Ab
 |.fn f n::ps,vs,cp,own=>match vs with
  |.c (.fn g l)::vs=>bif Ay f g&&Ay l.length n then I1 ps vs (cp++l) own else Ab
  |_=>Ab
 |.cap m t::ps,vs,cp,own=>match cp with
  |(h,0)::cp=>Ac (Ah1 m t h own) λp=>Ac (I1 ps vs cp p.2.2) λq=>Aa (⟨p.1++q.1.ls,p.2.1::q.1.bx⟩,q.2)
  |_=>Ab
 |.len t::ps,vs,cp,own=>match vs with
  |.c (.sl h)::vs=>Ac (Jq h own) λp=>Ac (I1 ps vs cp p.2) λq=>Aa (⟨[.sl p.1.t p.1.L]::q.1.ls,(h,0,.le,[])::q.1.bx⟩,q.2)
  |_=>Ab
def Aoq (st:Ai) (m:BM) (t:Ty) (ls:List (List A5)) (c:List (Nat×Nat×BM×List Cell)):Option (C7 t×List (List A5)×List (Nat×Nat×BM×List Cell)):=match c with
 |b::c=>bif m.isOw then(match ls with
   |l::ls=>Ac (mk t l) λa=>Aa (a,ls,c)
   |[]=>Ab)else Ac (Ot st (Iw t) b.2.2.2) λl=>Ac (mk t l) λa=>Aa (a,ls,c)
 |[]=>Ab
def Kd (st:Ai):(ps:List PK)->List V1->List (List A5)->List (Nat×Nat×BM×List Cell)->Option (PArgs ps)
 |[],_,_,_=>Aa ()
 |.val o t::ps,vs,ls,bx=>match vs with
  |v::vs=>bif o then(match ls with
    |l::ls=>Ac (mk t l) λa=>Ac (Kd st ps vs ls bx) λq=>Aa (a,q)
    |[]=>Ab)else Ac (Yq t v) λcs=>Ac (Ot st (Iw t) cs) λl=>Ac (mk t l) λa=>Ac (Kd st ps vs ls bx) λq=>Aa (a,q)
  |[]=>Ab
 |.box m t::ps,vs,ls,bx=>Ac (Aoq st m t ls bx) λz=>Ac (Kd st ps vs.tail z.2.1 z.2.2) λq=>Aa (z.1,q)
 |.Od t::ps,vs,ls,bx=>match ls with
  |l::ls=>Ac (mk t l) λa=>Ac (Kd st ps vs.tail ls bx) λq=>Aa (a,q)
  |[]=>Ab
 |.lit t::ps,vs,ls,bx=>match ls with
  |l::ls=>Ac (mk t l) λa=>Ac (Kd st ps vs.tail ls bx) λq=>Aa (a,q)
  |[]=>Ab
 |.fn _ _::ps,vs,ls,bx=>Kd st ps vs.tail ls bx
 |.cap m t::ps,vs,ls,bx=>Ac (Aoq st m t ls bx) λz=>Ac (Kd st ps vs z.2.1 z.2.2) λq=>Aa (z.1,q)
 |.len t::ps,vs,ls,bx=>match ls,bx with
  |l::ls,_::bx=>Ac (mk (.sl t) l) λa=>Ac (Kd st ps vs.tail ls bx) λq=>Aa (a,q)
  |_,_=>Ab
def Nf:(ts:List Ty)->Tup ts->List (List A5)
 |[],_=>[]
 |[a],x=>[Cf a x]
 |a::b::r,x=>Cf a x.1::Nf (b::r) x.2
def Xs:(ts:List Ty)->List (List A5)->Option (Tup ts)
 |[],[]=>Aa ()
 |[a],[l]=>mk a l
 |a::b::r,l::ls=>Ac (mk a l) λx=>Ac (Xs (b::r) ls) λy=>Aa (x,y)
 |_,_=>Ab
def Ja:List RK->List (List A5)->Ai->List V1×List (List A5)×Ai
 |k::ks,l::ls,st=>let p:=B6 k.own l st;bif k.bx then(let q:=Ja ks ls {p.2 with own:=.box p.2.Ak p.2.Ak p.1::p.2.own,Ak:=p.2.Ak+1};(.c (.ptr p.2.Ak 0)::q.1,q.2))else(let q:=Ja ks ls p.2;(mkV k.t p.1::q.1,q.2))
 |_,ls,st=>([],ls,st)
def Nu:List (Nat×Nat×BM×List Cell)->List (List A5)->Ai->Ai
 |(h,_,.ow,_)::bx,l::ls,st=>let p:=B6 true l st;Nu bx ls {p.2 with own:=.box h p.2.Ak p.1::p.2.own,Ak:=p.2.Ak+1}
 |(h,_,.rd,_)::bx,l::ls,st=>let p:=B6 false l st;Nu bx ls {p.2 with own:=.box h p.2.Ak p.1::p.2.own,Ak:=p.2.Ak+1}
 |(h,_,.le,_)::bx,l::ls,st=>match l with
  |[.sl t L]=>Nu bx ls {st with own:=.row h st.Ak t L []::st.own,Ak:=st.Ak+1}
  |_=>Nu bx ls st
 |(h,g,_,cs)::bx,ls,st=>Nu bx ls {st with own:=.box h g cs::st.own}
 |[],_,st=>st
def Xp:List V1->SV
 |[v]=>.v v
 |l=>.t l
def Anu:List PK->Bool
 |[]=>true
 |.box .rd _::_=>false
 |.cap .rd _::_=>false
 |_::r=>Anu r
def V1.cells:V1->List Cell
 |.c x=>[x]
 |.a l=>l
def Nb (h:Nat):List Chunk->Option (J6×List Chunk)
 |[]=>Ab
 |.C9 k g t L::r=>bif Ay k h then Aa (⟨t,L⟩,r)else(Nb h r).map λp=>(p.1,.C9 k g t L::p.2)
 |.row k g t L vs::r=>(Nb h r).map λp=>(p.1,.row k g t L vs::p.2)
 |.box k g cs::r=>(Nb h r).map λp=>(p.1,.box k g cs::p.2)
 |.El k g t L i j o::r=>(Nb h r).map λp=>(p.1,.El k g t L i j o::p.2)
 |.rem k g t L i::r=>(Nb h r).map λp=>(p.1,.rem k g t L i::p.2)
def inV (h:Nat) (vs:List View):Bool:=match Ob h vs with
 |some _=>true
 |none=>false
def P1 (h:Nat):List Chunk->Option ((Nat×J6×List View)×List Chunk)
 |[]=>Ab
 |.row k g t L vs::r=>bif Ay k h||inV h vs then Aa ((k,⟨t,L⟩,vs),r)else(P1 h r).map λp=>(p.1,.row k g t L vs::p.2)
 |.C9 k g t L::r=>(P1 h r).map λp=>(p.1,.C9 k g t L::p.2)
 |.box k g cs::r=>(P1 h r).map λp=>(p.1,.box k g cs::p.2)
 |.El k g t L i j o::r=>(P1 h r).map λp=>(p.1,.El k g t L i j o::p.2)
 |.rem k g t L i::r=>(P1 h r).map λp=>(p.1,.rem k g t L i::p.2)
def Ap2:List View->List View
 |[]=>[]
 |v::r=> {v with pos:=.no}::Ap2 r
def Q9 (h:Nat) (st:Ai):Ai:=match P1 h st.own with
 |some p=> {st with own:=p.2,Bg:=⟨p.1.1,p.1.2.1.t,p.1.2.1.L,.no⟩::(Ap2 p.1.2.2++st.Bg)}
 |none=>match Nb h st.own with
  |some p=> {st with own:=p.2,Bg:=⟨h,p.1.t,p.1.L,.no⟩::st.Bg}
  |none=>st
def Na:List Cell->Ai->Ai
 |[],st=>st
 |c::r,st=>match c with
  |.sl h=>Na r (Q9 h st)
  |_=>Na r st
def Abx:V1->List Cell
 |.c x=>[x]
 |.a l=>l
def U0:List PK->List V1->Ai->Ai
 |[],_,st=>st
 |.cap _ _::ps,vs,st=>U0 ps vs st
 |.val o _::ps,vs,st=>match vs with
  |v::vs=>U0 ps vs (bif o then st else Na (Abx v) st)
  |[]=>st
 |_::ps,vs,st=>U0 ps vs.tail st
def I6.shut (c:I6):Bool:=c.rs.all (·.own)&&Anu c.ps
def Yp (c:I6) (vs:List V1) (st:Ai) (K:SV->Ai->Option R):Option (Option R):=
 Ac (I1 c.ps vs [] st.own) λp=>Ac (Kd {st with own:=bif c.shut then p.2 else []} c.ps vs p.1.ls p.1.bx) λa=>
  Aa (Ac (c.x a) λr=>let q:=Ja c.rs (Nf _ r) {st with own:=p.2};K (Xp q.1) (Nu p.1.bx q.2.1 q.2.2))
def splice {α:Type} (l:List α) (o:Nat) (m:List α):List α:=l.take o++m++l.drop (o+m.length)
def W4:List PK->List V1->Ai->Ai
 |.len _::ps,v::vs,st=>W4 ps vs (Pt (Abx v) st)
 |.cap _ _::ps,vs,st=>W4 ps vs st
 |_::ps,vs,st=>W4 ps vs.tail st
 |[],_,st=>st
def Yr (h:Nat):List Chunk->Option ((Nat×Akz)×List Chunk)
 |[]=>Ab
 |.El k g t L i j o::r=>bif Ay o h then Aa ((k,⟨t,L,i,j⟩),r)else(Yr h r).map λp=>(p.1,.El k g t L i j o::p.2)
 |c::r=>(Yr h r).map λp=>(p.1,c::p.2)
def Afp (h:Nat) (st:Ai):Ai:=match Yr h st.own with
 |some (d,own)=>match Jq h own with
  |some (c,own)=>match mk d.2.t (splice (Cf d.2.t (el d.2.L d.2.i)) d.2.j [.sl c.t c.L])with
   |some a=>bif C1 d.2.j (sz d.2.t)then {st with own:=.row d.1 st.Ak d.2.t (d.2.L.set d.2.i a) []::own,Ak:=st.Ak+1}else st
   |none=>st
  |none=>st
 |none=>st
def Ys:List Cell->Ai->Ai
 |[],st=>st
 |c::r,st=>match c with
  |.sl h=>Ys r (Afp h st)
  |_=>Ys r st
def Wc:List PK->List V1->Ai->Ai
 |.len _::ps,v::vs,st=>Wc ps vs (Ys (Abx v) st)
 |.cap _ _::ps,vs,st=>Wc ps vs st
 |_::ps,vs,st=>Wc ps vs.tail st
 |[],_,st=>st
def Rz (c:I6) (vs:List V1) (st:Ai) (K:SV->Ai->Option R):Option (Option R):=Yp c vs (W4 c.ps vs (bif c.shut then st else U0 c.ps vs st)) λv st=>K v (Wc c.ps vs st)
def callF (f:FuncId) (vs:List V1) (st:Ai) (K:SV->Ai->Option R):List I6->Option R
 |[]=>Ab
 |c::cs=>bif Ay c.f f then(match Rz c vs st K with
  |some r=>r
  |none=>callF f vs st K cs)else callF f vs st K cs
def Ab9 (env:List (Nat×Option SV)):List Operand->Option (List V1)
 |[]=>Aa []
 |o::os=>Ac (ev1 env o) λv=>Ac (Ab9 env os) λvs=>Aa (v::vs)
def Gi (ps:List PK):Bool:=ps.all λp=>match p with
 |.val false _=>true
 |.fn _ n=>Ay n 0
 |_=>false
def Bdp:List RK->Bool
 |[k]=>match k.t with
  |.b n=>Dm n 3&&!k.bx
  |_=>false
 |_=>false
def I6.pure (c:I6):Bool:=(Gi c.ps&&Bdp c.rs)&&c.shut
def Adt (i:Nat):Nat->List Cell->List A5->List View
 |j,c::cs,l::ls=>match c,l with
  |.sl h,.sl t L=>⟨h,t,L,.ei i j⟩::Adt i (j+1) cs ls
  |_,_=>Adt i (j+1) cs ls
 |_,_,_=>[]
def A03 (st:Ai) (h k i j:Nat) (c:Cell) (K:Ai->Option R):Option R:=match Sc h st.own with
 |some (d,own)=>bif (Ay (sz d.t) k&&Ay d.j j)&&C1 j k then(match nth (Iw d.t) j with
  |some e=>match Agy e c own with
   |some (l,own)=>match mk d.t (splice (Cf d.t (el d.L i)) j [l])with
    |some a=>xg (d.i=i) (K {st with own:=.row h st.Ak d.t (d.L.set i a) []::own,Ak:=st.Ak+1})
    |none=>Ab
   |none=>Ab
  |none=>Ab)else Ab
 |none=>Ab
def Apn (st:Ai) (t:TypeId) (a v:Operand) (K:Ai->Option R):Option R:=
 match evC st.env a,ev1 st.env v,Jr t with
 |some (.ptr h o),Aa v,Aa ti=>match Qo h st.own with
  |some (cs,own)=>bif Ay v.cells.length ti.size&&Dm (o+ti.size) cs.length then K {st with own:=.box h st.Ak (splice cs o v.cells)::own,Ak:=st.Ak+1}else Ab
  |none=>Ab
 |some (.ep h k i j),Aa v,Aa ti=>match Acj h st.own with
  |some _=>(match v with
   |.c c=>bif Ay ti.size 1 then A03 st h k i j c K else Ab
   |.a _=>Ab)
  |none=>match Jq h st.own with
  |some (c,own)=>bif Ay (sz c.t) k&&Ay v.cells.length ti.size&&Dm (j+ti.size) k then
    (match Kv (((Iw c.t).drop j).take ti.size) v.cells own with
     |some (ls,own)=>match mk c.t (splice (Cf c.t (el c.L i)) j ls)with
      |some a=>K {st with own:=.row h st.Ak c.t (c.L.set i a) (Adt i j v.cells ls)::own,Ak:=st.Ak+1}
      |none=>Ab
     |none=>Ab)else Ab
  |none=>Ab
 |_,_,_=>Ab
def A04 (st:Ai) (t:TypeId) (a v:Operand) (K:Ai->Option R):Option R:=
 match evC st.env a,ev1 st.env v with
 |some (.ep _ _ _ _),Aa x=>Apn (Pt x.cells st) t a v K
 |_,_=>Apn st t a v K
def Wj:Ty->Bool
 |.b n=>(lvB n).all λe=>match e with
  |.b _=>true
  |_=>false
 |.sl _=>false
def Oe (t:TypeId):Option (TypeId×TI×Ty):=match Jr t with
 |some ti=>match ti.k with
  |.slice e=>match Jr e with
   |some ei=>match ei.ty with
    |some ty=>Aa (e,ei,ty)
    |none=>Ab
   |none=>Ab
  |_=>Ab
 |none=>Ab
def Abr (c:Cell) (ty:Ty) (own:List Chunk):Option (List (C7 ty)×List Chunk):=match c with
 |.nil=>Aa ([],own)
 |.sl h=>Ac (Jq h own) λp=>Ac (Mt p.1.t ty p.1.L) λl=>Aa (l,p.2)
 |_=>Ab
def Apb (c:Cell) (ty:Ty) (own:List Chunk):Option (List (C7 ty)×List Chunk):=match c with
 |.nil=>Aa ([],own)
 |.sl h=>match Nb h own with
  |some p=>(Mt p.1.t ty p.1.L).map λl=>(l,p.2)
  |none=>Ac (Jq h own) λp=>(Mt p.1.t ty p.1.L).map λl=>(l,p.2)
 |_=>Ab
def Afg (st:Ai) (b d:Cell) (ty:Ty) (K:SV->Ai->Option R):Option R:=match d with
 |.sl a=>match Apb b ty (Q9 a st).own with
  |some (L,own)=>match Ob a (Q9 a st).Bg with
   |some c=>match Mt c.t ty c.L with
    |some M=>xg (L.length+M.length<=1099511627776) (K (.v (.c (.sl st.Ak))) {Q9 a st with own:=.C9 st.Ak st.Ak ty (L++M)::own,Ak:=st.Ak+1})
    |none=>Ab
   |none=>Ab
  |none=>Ab
 |_=>Ab
def A65 (st:Ai) (ty:Ty) (L:List (C7 ty)) (own:List Chunk) (h:Nat) (K:SV->Ai->Option R):Option R:=match Zm h (st.Ak+1) own with
 |some (c,own)=>match Mt c.1.t ty c.1.L with
  |some M=>xg (L.length+c.2<=1099511627776) (K (.v (.c (.sl st.Ak))) {st with own:=.row st.Ak st.Ak ty (L++M.take c.2) []::own,Ak:=st.Ak+2})
  |none=>Ab
 |none=>Ab
def A64 (st:Ai) (a b:Cell) (ty:Ty) (K:SV->Ai->Option R):Option R:=match Abr a ty st.own,b with
 |some (L,own),.sl h=>(match Jq h own with
  |some (c,own)=>match Mt c.t ty c.L with
   |some M=>xg (L.length+M.length<=549755813888) (K (.v (.c (.sl st.Ak))) {st with own:=.row st.Ak st.Ak ty (L++M) []::own,Ak:=st.Ak+1})
   |none=>Ab
  |none=>Ab)
 |_,_=>Ab
def Aty (mv:Bool) (st:Ai) (t:TypeId) (x y:Operand) (K:SV->Ai->Option R):Option R:=
 match evC st.env x,evC st.env y,Oe t with
 |some cx,Aa cy,Aa (_,ei,ty)=>bif Dm ei.bytes 127&&Ay (sz ty) ei.size then
   (bif Wj ty then(match Abr cx ty st.own,cy with
    |some (L,own),.sl h=>match st.cont h with
     |some c=>match Mt c.t ty c.L with
      |some M=>xg (L.length+M.length<=1099511627776) (K (.v (.c (.sl st.Ak))) {st with own:=.row st.Ak st.Ak ty (L++M) []::own,Ak:=st.Ak+1})
      |none=>Ab
     |none=>Ab
    |_,_=>Ab)
   else match Abr cx ty st.own,cy with
    |some (L,own),.sl h=>(match Jq h own with
     |some (c,own)=>match Mt c.t ty c.L with
      |some M=>xg (L.length+M.length<=1099511627776) (K (.v (.c (.sl st.Ak))) {st with own:=.row st.Ak st.Ak ty (L++M) []::own,Ak:=st.Ak+1})
      |none=>Ab
     |none=>bif mv then A65 st ty L own h K else Afg st cx cy ty K)
    |_,_=>Afg st cx cy ty K)else bif (Dm ei.bytes 255&&Ay (sz ty) ei.size)&&!Wj ty then A64 st cx cy ty K else Ab
 |_,_,_=>Ab
def Om (o:Operand) (st:Ai):Ai:=match evC st.env o with
 |some c=>Pt [c] st
 |none=>st
def A66 (mv:Bool) (st:Ai) (t:TypeId) (x y:Operand) (K:SV->Ai->Option R):Option R:=Aty mv (Om x st) t x y K
def Bem (ty:Ty) (y:Cell) (v:V1) (own:List Chunk):Option ((List (C7 ty)×List View)×C7 ty×List Chunk):=Ac (Abr y ty own) λp=>Ac (Kv (Iw ty) v.cells p.2) λq=>Ac (mk ty q.1) λa=>Aa ((p.1,Adt p.1.length 0 v.cells q.1),a,q.2)
def Aha (st:Ai) (ty:Ty) (cs:List Cell):Option (C7 ty):=Ac (Ot {st with own:=[]} (Iw ty) cs) (mk ty)
def Aoi (st:Ai) (v:V1) (y:Cell) (ty:Ty) (K:SV->Ai->Option R):Option R:=match Apb y ty (Na v.cells st).own,Aha (Na v.cells st) ty v.cells with
 |some (L,own),Aa a=>xg (L.length<1099511627776) (K (.v (.c (.sl st.Ak))) {Na v.cells st with own:=.C9 st.Ak st.Ak ty (L++[a])::own,Ak:=st.Ak+1})
 |_,_=>Ab
def lim (b:Nat):Nat:=bif Dm b 127 then 1099511627776 else 549755813888
def Aoh (st:Ai) (t:TypeId) (x y:Operand) (K:SV->Ai->Option R):Option R:=
 match ev1 st.env x,evC st.env y,Oe t with
 |some v,Aa y,Aa (_,ei,ty)=>bif Dm ei.bytes 255&&Ay (sz ty) ei.size&&Dm ei.size 1000 then(match Bem ty y v st.own with
  |some ((L,vs),a,own)=>xg (L.length<lim ei.bytes) (K (.v (.c (.sl st.Ak))) {st with own:=.row st.Ak st.Ak ty (L++[a]) vs::own,Ak:=st.Ak+1})
  |none=>bif Dm ei.bytes 127 then Aoi st v y ty K else Ab)else Ab
 |_,_,_=>Ab
def Aza (st:Ai) (t:TypeId) (x y:Operand) (K:SV->Ai->Option R):Option R:=
 match ev1 st.env x,evC st.env y,Oe t with
 |some v,Aa y,Aa (_,ei,ty)=>bif Dm ei.bytes 127&&Ay (sz ty) ei.size&&Dm ei.size 1000 then Aoi st v y ty K else Ab
 |_,_,_=>Ab
def Azb (a:Bool) (st:Ai) (t:TypeId) (x y:Operand) (K:SV->Ai->Option R):Option R:=bif a then Aza st t x y K else Aoh (Om y st) t x y K
def Am4 (st:Ai) (ty:Ty):Nat->List (Nat×Operand)->List Chunk->Option (List (C7 ty)×List Chunk)
 |_,[],own=>Aa ([],own)
 |k,(i,x)::r,own=>bif Ay i k then Ac (ev1 st.env x) λv=>Ac (Kv (Iw ty) v.cells own) λp=>Ac (mk ty p.1) λa=>Ac (Am4 st ty (k+1) r p.2) λq=>Aa (a::q.1,q.2)else Ab
def Aoj (cs:List Cell):List (Nat×Nat)->List (Nat×Operand)->List (Nat×Option SV)->Option (List Cell)
 |_,[],_=>Aa cs
 |pl,(i,x)::r,env=>match nth pl i,ev1 env x with
  |some (off,size),Aa v=>bif Ay v.cells.length size&&Dm (off+size) cs.length then Aoj (splice cs off v.cells) pl r env else Ab
  |_,_=>Ab
def places (fs:List (Nat×TypeId)):Option (List (Nat×Nat)):=match fs with
 |[]=>Aa []
 |(o,t)::r=>match Jr t,places r with
  |some i,Aa l=>Aa ((o,i.size)::l)
  |_,_=>Ab
def Cell.shut:Cell->Bool
 |.i _ _=>true
 |.y _=>true
 |.b _=>true
 |.s _=>true
 |.nil=>true
 |.Q4 u=>u.oneCell'
 |_=>false
def Agv (st:Ai) (e:TypeId) (K:SV->Ai->Option R):Option R:=match Jr e with
 |some ti=>bif !ti.zero.all Cell.shut then Ab else K (.v (.c (.ptr st.Ak 0))) {st with own:=.box st.Ak st.Ak ti.zero::st.own,Ak:=st.Ak+1}
 |none=>Ab
def Ayb (st:Ai) (x:Operand) (K:SV->Ai->Option R):Option R:=match ev1 st.env x with
 |some v=>K (.v (.c (.ptr st.Ak 0))) {st with own:=.box st.Ak st.Ak v.cells::st.own,Ak:=st.Ak+1}
 |none=>Ab
def Zs (st:Ai) (t:TypeId) (ps:List (Nat×Operand)) (K:SV->Ai->Option R):Option R:=match Jr t with
 |some ti=>match ti.k with
  |.struct fs=>match places fs with
   |some b=>match bif ti.zero.all Cell.shut then Aoj ti.zero b ps st.env else Ab with
    |some cs=>K (.v (.a cs)) st
    |none=>Ab
   |none=>Ab
  |_=>Ab
 |none=>Ab
def U2:List (Nat×Operand)->Ai->Ai
 |[],st=>st
 |p::r,st=>U2 r (match ev1 st.env p.2 with
  |some v=>Na v.cells st
  |none=>st)
def Am5 (st:Ai) (ty:Ty):Nat->List (Nat×Operand)->Option (List (C7 ty))
 |_,[]=>Aa []
 |k,(i,x)::r=>bif Ay i k then Ac (ev1 st.env x) λv=>Ac (Aha st ty v.cells) λa=>Ac (Am5 st ty (k+1) r) λq=>Aa (a::q)else Ab
def Ayc (st:Ai) (t:TypeId) (a:Nat) (ps:List (Nat×Operand)) (K:SV->Ai->Option R):Option R:=match Oe t with
 |some (_,ei,ty)=>match Am4 st ty 0 ps st.own with
  |some (l,own)=>bif Ay ps.length a&&Ay (sz ty) ei.size&&Dm (a*ei.size) 1000 then K (.v (.c (.sl st.Ak))) {st with own:=.row st.Ak st.Ak ty l []::own,Ak:=st.Ak+1}else Ab
  |none=>match Am5 (U2 ps st) ty 0 ps with
   |some l=>bif (Ay ps.length a&&C1 0 a)&&Ay (sz ty) ei.size&&Dm (a*ei.size) 1000 then K (.v (.c (.sl st.Ak))) {U2 ps st with own:=.C9 st.Ak st.Ak ty l::(U2 ps st).own,Ak:=st.Ak+1}else Ab
   |none=>Ab
 |none=>Ab
def Asq:List Ty->List Cell->Option (List A5)
 |[],[]=>Aa []
 |e::es,c::cs=>Ac (Ado e c) λl=>Ac (Asq es cs) λls=>Aa (l::ls)
 |_,_=>Ab
def Ayh:Operand->Operand->Bool
 |.tmp x,.tmp y=>Ay x y
 |_,_=>false
def Aye (st:Ai) (t:TypeId) (x y:Operand) (K:SV->Ai->Option R):Option R:=match evC st.env x,Oe t with
 |some c,Aa (_,ei,ty)=>match c.asInt,Ac (Asq (Iw ty) ei.zero) (mk ty)with
  |some (.i64,n),Aa z=>bif (Dm ei.bytes 255&&(Ay (sz ty) ei.size&&ei.zero.all Cell.shut))&&Ayh x y then xg (0<=n/\n<=1099511627776) (K (.v (.c (.sl st.Ak))) {st with own:=.row st.Ak st.Ak ty (Ey n.toNat z) []::st.own,Ak:=st.Ak+1})else Ab
  |_,_=>Ab
 |_,_=>Ab
def Apy (t:TypeId):Bool:=match R8 t with
 |some _=>true
 |none=>false
def Ayg (st:Ai) (s t:TypeId) (x:Operand) (K:SV->Ai->Option R):Option R:=match evC st.env x with
 |some (.s v)=>bif Zf s&&Al2 t then xg (v.size<=1099511627776) (K (.v (.c (.sl st.Ak))) {st with own:=.row st.Ak st.Ak (.b 3) v.data.toList []::st.own,Ak:=st.Ak+1})else Ab
 |_=>Ab
def Nn (f:FuncId):List I6->List I6
 |[]=>[]
 |c::cs=>bif Ay c.f f then c::Nn f cs else Nn f cs
def At0:List (Nat×Nat)->List V1
 |[]=>[]
 |p::l=>.c (.ptr p.1 p.2)::At0 l
def Ayj (C:Es) (st:Ai) (op:Op) (K:SV->Ai->Option R):Option R:=
 match op with
 |.alloc e=>Agv st e K
 |.box _ x=>Ayb st x K
 |.build t ps=>Zs st t ps.toList K
 |.buildSlice t a ps=>Ayc st t a ps.toList K
 |.makeSlice t x y=>Aye st t x y K
 |.convert s t x=>bif Apy t then Ayg st s t x K else Pp C st (.convert s t x) K
 |.call ⟨.builtin .append,args,tys⟩=>match args.toList,tys.toList with
  |[x,y],[t,t']=>bif Ay t t' then A66 C.mov st t x y K else Ab
  |_,_=>Ab
 |.call ⟨.value (.func f),args,_⟩=>match Ab9 st.env args.toList with
  |some vs=>(match Nn f C.cons with
   |[]=>C.inl R f vs st K
   |c::cs=>callF f vs st K (c::cs))
  |none=>Ab
 |.call ⟨.value (.tmp t),args,_⟩=>match evC st.env (.tmp t),Ab9 st.env args.toList with
  |some (.fn f Bu),Aa vs=>callF f (vs++At0 Bu) st K (Nn f C.cons)
  |_,_=>Ab
 |op=>Pp C st op K
def Wh (C:Es) (o:Oper) (st:Ai) (K:Ai->Option R):Option R:=match o.dst with
 |some d=>bif C1 d C.n then Ayj C st o.op λv st=>K (st.put d v)else Ab
 |none=>match o.op with
  |.store t a v=>A04 st t a v K
  |_=>Ab
def Zx (f:FuncId):List I6->List I6
 |[]=>[]
 |c::cs=>bif Ay c.f f&&c.pure then [c]else Zx f cs
def A0n:SV->Bool
 |.v (.c c)=>c.shut
 |_=>false
def Qr (C:Es) (o:Oper) (st:Ai) (K:Ai->Option R):Option R:=match o.dst with
 |some d=>bif C1 d C.n then(match o.op with
  |.call ⟨.value (.func f),args,_⟩=>match Ab9 st.env args.toList with
   |some vs=>callF f vs st (λv _=>bif A0n v then K (st.put d v)else Ab) (Zx f C.cons)
   |none=>Ab
  |.build t ps=>Zs st t ps.toList λv st=>K (st.put d v)
  |op=>Pp C st op λv st=>K (st.put d v))else Ab
 |none=>Ab
def Ba0:List (Nat×Bool)->Nat->Bool->Bool
 |[],_,_=>false
 |(j,b)::r,k,c=>(Ay j k&&(b==c))||Ba0 r k c
def T9 (a:List Oper) (j:Nat):Option Nat:=match nth a j with
 |some o=>o.dst
 |none=>Ab
def Z7 (c:Nat):List Oper->Option (List Oper×Oper×Operand×Operand×List Oper)
 |[]=>Ab
 |o::r=>match o.op with
  |.pick (.tmp t) x y=>bif Ay t c then Aa ([],o,x,y,r)else(Z7 c r).map λp=>(o::p.1,p.2)
  |_=>(Z7 c r).map λp=>(o::p.1,p.2)
def Bn:List Nat->Nat->Bool
 |[],_=>false
 |a::l,n=>Ay a n||Bn l n
def Z9 (n:Nat) (a:List Oper) (j:Nat) (b:Bool):List Nat->List Oper->Bool
 |_,[]=>true
 |sk,o::r=>match o.guard,o.dst with
  |some (k,c),Aa d=>((Ay k j&&(c==b))||(match T9 a k with
   |some s=>Bn sk s
   |none=>false))&&(C1 d n&&Z9 n a j b (d::sk) r)
  |_,_=>false
def F3:List Oper->List (Nat×Option SV)->List (Nat×Option SV)
 |[],e=>e
 |o::r,e=>match o.dst with
  |some d=>F3 r ((d,Ab)::e)
  |none=>F3 r e
def Zl (a:List Oper) (c:List (Nat×Bool)) (env:List (Nat×Option SV)):Option (Nat×Bool)->Bool
 |none=>true
 |some (j,b)=>Ba0 c j b&&(match T9 a j with
  |some s=>match evB env (.tmp s)with
   |some g=>g==b
   |none=>false
  |none=>false)
def isNone {α:Type}:Option α->Bool
 |none=>true
 |some _=>false
def Cy:List Oper->List Nat
 |[]=>[]
 |o::r=>match o.dst with
  |some d=>d::Cy r
  |none=>Cy r
def Ah8 (b:Bool) (run:Ai->(Ai->Option Bool)->Option Bool) (s:Nat) (st:Ai) (te:List (Nat×Option SV)) (x y:Operand) (g:Bool):Option Bool:=
 bif g then(bif b then run {st with env:=(s,Aa (.v (.c (.b true))))::st.env} (λst=>evB st.env x)else evB te x)
 else(bif b then evB te y else run {st with env:=(s,Aa (.v (.c (.b false))))::st.env} (λst=>evB st.env y))
def Z4 (E:(R:Type)->Oper->Ai->(Ai->Option R)->Option R) (C:Es) (a:List Oper):Nat->List (Nat×Bool)->List Oper->Ai->(R:Type)->(Ai->Option R)->Option R
 |0,_,_,_,_,_=>Ab
 |_+1,_,[],st,_,K=>K st
 |f+1,kn,o::rest,st,R,K=>bif Zl a kn st.env o.guard then E R o st λst=>Z4 E C a f kn rest st R K else match o.guard with
  |none=>Ab
  |some (j,b)=>match T9 a j with
   |none=>Ab
   |some s=>match evB st.env (.tmp s),Z7 s (o::rest)with
    |some g,Aa (seg,p,x,y,rest)=>match p.dst with
     |none=>Ab
     |some d=>bif ((Z9 C.n a j b [] seg&&!Bn (Cy seg) s)&&C1 d C.n)&&Zl a kn (F3 seg st.env) p.guard then
       Ac (Ah8 b (λst K=>Z4 E C a f ((j,b)::kn) seg st Bool K) s st (F3 seg st.env) x y g) λv=>
        Z4 E C a f kn rest {st with env:=(d,Aa (.v (.c (.b v))))::F3 seg st.env} R K
      else Ab
    |_,_=>Ab
def Nt (t:TypeId):Bool:=match Oe t with
 |some (_,ei,ty)=>Wj ty&&Ay (sz ty) ei.size
 |none=>false
def Ph:List Oper->List Nat
 |[]=>[]
 |o::r=>match o.op,o.dst with
  |.buildSlice _ 0 _,Aa d=>d::Ph r
  |_,_=>Ph r
def Dg (C:Es) (E:List Nat) (o:Oper):Nat:=match o.op,o.dst with
 |.call ⟨.value (.func f),_,_⟩,Aa _=>match Zx f C.cons with
  |[]=>bif !(Nn f C.cons).isEmpty&&(Nn f C.cons).all λc=>Gi c.ps then 1 else 2
  |_=>0
 |.call ⟨.value _,_,_⟩,_=>2
 |.call ⟨.builtin .append,args,tys⟩,_=>match args.toList with
  |[.const (.slice Ab 0 0),_]=>match tys.toList with
   |[t,_]=>bif Nt t then 1 else 2
   |_=>2
  |[.tmp d,_]=>bif Bn E d then 1 else 2
  |_=>2
 |.alloc _,_=>1
 |.box _ _,_=>1
 |.buildSlice _ _ _,_=>1
 |.makeSlice _ _ _,_=>1
 |.convert _ t _,_=>bif Apy t then 1 else 0
 |.store _ _ _,_=>2
 |_,_=>0
def Acb (C:Es) (o:Oper) (st:Ai) (K:Ai->Option R):Option R:=bif Ay (Dg C [] o) 0 then Qr C o st K else bif Ay (Dg C [] o) 1 then Wh C {o with guard:=Ab} st K else Ab
def Aw2:List Oper->Option (TypeId×Operand×Nat×Nat×List Oper)
 |⟨Aa d1,.buildSlice t len ps,_,_,_,Ab⟩::⟨Aa d2,.call ⟨.builtin .append,args,tys⟩,_,_,_,Ab⟩::rest=>
  match ps.toList,args.toList,tys.toList with
  |[],[.tmp d,x],[t1,t2]=>bif (Ay d d1&&Ay len 0)&&(Ay t t1&&Ay t t2)then Aa (t,x,d1,d2,rest)else Ab
  |_,_,_=>Ab
 |_=>Ab
def Afe (st:Ai) (t:TypeId) (y:Operand) (K:SV->Ai->Option R):Option R:=
 match evC st.env y,Oe t with
 |some (.sl h),Aa (_,ei,ty)=>bif Dm ei.bytes 127&&(Wj ty&&Ay (sz ty) ei.size)then(match st.cont h with
  |some c=>match Mt c.t ty c.L with
   |some M=>xg (0+M.length<=1099511627776) (K (.v (.c (.sl st.Ak))) {st with own:=.row st.Ak st.Ak ty ([]++M) []::st.own,Ak:=st.Ak+1})
   |none=>Ab
  |none=>Ab)else Ab
 |_,_=>Ab
def Aw6:List Oper->Option (TypeId×Operand×Operand×Nat×Nat×List Oper)
 |⟨Aa d1,.buildSlice t len ps,_,_,_,Ab⟩::⟨Aa d2,.call ⟨.builtin .append,args,tys⟩,_,_,_,Ab⟩::rest=>
  match ps.toList,args.toList,tys.toList with
  |[(0,x)],[y,.tmp d],[t1,t2]=>bif (Ay d d1&&Ay len 1)&&(Ay t t1&&Ay t t2)then Aa (t,x,y,d1,d2,rest)else Ab
  |_,_,_=>Ab
 |_=>Ab
def Pk (K:Bool->Ai->Option R) (z:Operand) (st:Ai):Option R:=match evB st.env z with
 |some v=>K v st
 |none=>Ab
def Ap4 (b:Bool) (run:Ai->(Ai->Option R)->Option R) (s:Nat) (st:Ai) (te:List (Nat×Option SV)) (x y:Operand) (g:Bool) (K:Bool->Ai->Option R):Option R:=
 bif g then(bif b then run {st with env:=(s,Aa (.v (.c (.b true))))::st.env} (Pk K x)else Pk K x {st with env:=te})
 else(bif b then Pk K y {st with env:=te}else run {st with env:=(s,Aa (.v (.c (.b false))))::st.env} (Pk K y))
def Ahd (C:Es) (a:List Oper) (b:List (Nat×Bool)):List Oper->Ai-> {R:Type}->(Ai->Option R)->Option R
 |[],st,_,K=>K st
 |o::r,st,_,K=>bif Zl a b st.env o.guard then Wh C {o with guard:=Ab} st λst=>Ahd C a b r st K else Ab
def Bcp:List PK->Bool
 |[]=>false
 |.lit _::_=>true
 |_::r=>Bcp r
def Aw5 (C:Es):List Oper->Option (TypeId×Operand)
 |⟨Aa d,.buildSlice t len ps,_,_,_,Ab⟩::⟨_,.call ⟨.value (.func f),args,_⟩,_,_,_,_⟩::_=>match ps.toList,args.toList.getLast? with
  |[(0,x)],Aa (.tmp e)=>bif (Ay d e&&Ay len 1)&&(Nn f C.cons).any λc=>Bcp c.ps then Aa (t,x)else Ab
  |_,_=>Ab
 |_=>Ab
def Ayd (st:Ai) (t:TypeId) (x:Operand) (K:SV->Ai->Option R):Option R:=match ev1 st.env x,Oe t with
 |some v,Aa (_,ei,ty)=>bif Ay v.cells.length ei.size&&(Ay (sz ty) ei.size&&Dm ei.size 1000)then K (.v (.c (.lt st.Ak))) {st with own:=.box st.Ak st.Ak v.cells::st.own,Ak:=st.Ak+1}else Ab
 |_,_=>Ab
def Q6 (C:Es) (a:List Oper):Nat->List Oper->Ai-> {R:Type}->(Ai->Option R)->Option R
 |0,_,_,_,_=>Ab
 |_+1,[],st,_,K=>K st
 |f+1,o::rest,st,_,K=>match o.guard with
  |none=>match Aw6 (o::rest)with
   |some (t,x,y,d1,d2,rest')=>bif C1 d1 C.n&&C1 d2 C.n then Azb C.B75 {st with env:=(d1,Ab)::st.env} t x y (λv st=>Q6 C a f rest' (st.put d2 v) K)else Ab
   |none=>match Aw5 C (o::rest),o.dst with
    |some (t,x),Aa d=>bif C1 d C.n then Ayd st t x λv st=>Q6 C a f rest (st.put d v) K else Ab
    |_,_=>Wh C o st λst=>Q6 C a f rest st K
  |some (j,b)=>match T9 a j with
   |none=>Ab
   |some s=>match evB st.env (.tmp s),Z7 s (o::rest)with
    |some g,Aa (seg,p,x,y,rest)=>match p.dst with
     |none=>Ab
     |some d=>bif ((Z9 C.n a j b [] seg&&!Bn (Cy seg) s)&&C1 d C.n)&&isNone p.guard then
       bif seg.any λo=>Ay (Dg C [] o) 2 then Ap4 b (λst K=>Ahd C a [(j,b)] seg st K) s st (F3 seg st.env) x y g λv st=>Q6 C a f rest {st with env:=(d,Aa (.v (.c (.b v))))::st.env} K
       else Ac (Ah8 b (λst K=>Z4 (λ_ o st K=>Acb C o st K) C a (f+1) [(j,b)] seg st Bool K) s st (F3 seg st.env) x y g) λv=>
        Q6 C a f rest {st with env:=(d,Aa (.v (.c (.b v))))::F3 seg st.env} K
      else Ab
    |_,_=>Ab
def Bec (C:Es) (E:List Nat) (a:List Oper):List Nat->Option (Nat×Nat)
 |[]=>Ab
 |k::r=>match nth a k with
  |none=>Ab
  |some o=>bif Ay (Dg C E o) 0 then Aa (k,0)else match Bec C E a r with
   |some (j,0)=>Aa (j,0)
   |_=>Aa (k,Dg C E o)
def Uw (C:Es) (E:List Nat) (a:List Oper):Nat->Array Bool->List (Nat×Nat)
 |0,_=>[]
 |f+1,listed=>match Bec C E a (Region.ready .any a.toArray listed)with
  |none=>[]
  |some p=>p::Uw C E a f (listed.setIfInBounds p.1 true)
def Aci:List (Oper×Nat)->List Oper
 |[]=>[]
 |p::r=>p.1::Aci r
def Agj (C:Es) (E:List Nat):List (Oper×Nat)->Bool
 |[]=>true
 |p::r=>Ay p.2 (Dg C E p.1)&&Agj C E r
def Z3 (C:Es) (E:List Nat) (a:List Oper) (b:List (Nat×Bool)):List Oper->Ai-> {R:Type}->(Ai->Option R)->Option R
 |[],st,_,K=>K st
 |o::r,st,_,K=>bif Zl a b st.env o.guard then(bif Ay (Dg C E o) 0 then Qr C o st λst=>Z3 C E a b r st K else bif Ay (Dg C E o) (Dg C [] o)then Wh C {o with guard:=Ab} st λst=>Z3 C E a b r st K else Ab)else Ab
def Ou (C:Es) (E:List Nat) (a:List Oper):Nat->List Oper->Ai-> {R:Type}->(Ai->Option R)->Option R
 |0,_,_,_,_=>Ab
 |_+1,[],st,_,K=>K st
 |f+1,o::rest,st,_,K=>match o.guard with
  |none=>match Aw2 (o::rest)with
   |some (t,y,d1,d2,rest')=>bif (C1 d1 C.n&&C1 d2 C.n)&&Bn E d1 then Afe {st with env:=(d1,Ab)::st.env} t y (λv st=>Ou C E a f rest' (st.put d2 v) K)else Ab
   |none=>bif Ay (Dg C E o) 0 then Qr C o st λst=>Ou C E a f rest st K else bif Ay (Dg C E o) (Dg C [] o)then Wh C o st λst=>Ou C E a f rest st K else Ab
  |some (j,b)=>match T9 a j with
   |none=>Ab
   |some s=>match evB st.env (.tmp s),Z7 s (o::rest)with
    |some g,Aa (seg,p,x,y,rest)=>match p.dst with
     |none=>Ab
     |some d=>bif ((Z9 C.n a j b [] seg&&!Bn (Cy seg) s)&&C1 d C.n)&&isNone p.guard then
       bif seg.all λo=>Dm (Dg C E o) 1&&Ay (Dg C E o) (Dg C [] o)then
       Ac (Ah8 b (λst K=>Z4 (λ_ o st K=>Acb C o st K) C a (f+1) [(j,b)] seg st Bool K) s st (F3 seg st.env) x y g) λv=>
        Ou C E a f rest {st with env:=(d,Aa (.v (.c (.b v))))::F3 seg st.env} K
       else Ap4 b (λst K=>Z3 C E a [(j,b)] seg st K) s st (F3 seg st.env) x y g λv st=>Ou C E a f rest {st with env:=(d,Aa (.v (.c (.b v))))::st.env} K
      else Ab
    |_,_=>Ab
def H9:Chunk->Nat
 |.box _ g _=>g
 |.row _ g _ _ _=>g
 |.C9 _ g _ _=>g
 |.El _ g _ _ _ _ _=>g
 |.rem _ g _ _ _=>g
def Ox:List Chunk->List Chunk->Bool
 |[],_=>true
 |_::_,[]=>false
 |a::l,b::m=>bif Ay (H9 a) (H9 b)then Ox l m else Ox (a::l) m
def W0:List Nat->Bool
 |[]=>true
 |a::l=>!Bn l a&&W0 l
def Uk:List Chunk->List Nat
 |[]=>[]
 |c::r=>H9 c::Uk r
def Ann (n:Nat):List Nat->Bool
 |[]=>true
 |a::l=>C1 a n&&Ann n l
def J8 (st:Ai):Bool:=W0 (Uk st.own)&&Ann st.Ak (Uk st.own)
inductive PS where
 |lk (k:Nat)
 |qk (k:Nat)
 |op (k:Nat)
 |gh (f:Nat)
 |li (f:Nat)
 |ap (k f:Nat)
inductive PT where
 |nil
 |cons (p:PS) (r:PT)
 |fork (k1:Nat) (p1:PT) (k2:Nat) (p2:PT)
def Atu (d:Nat):List Oper->Bool
 |[]=>false
 |o::r=>(match o.op with
  |.call ⟨.builtin .append,args,_⟩=>match args.toList with
   |[.tmp e,_]=>Ay e d
   |_=>false
  |_=>false)||Atu d r
def Bdd (e:TypeId):Bool:=match Jr e with
 |some ti=>ti.zero.all Cell.shut
 |none=>false
def Ax6 (t:TypeId):Bool:=match Oe t with
 |some (_,ei,ty)=>Ay (sz ty) ei.size
 |none=>false
def Ach (a:List Oper) (o:Oper):Nat:=match o.guard,o.op,o.dst with
 |none,.alloc e,Aa _=>bif Bdd e then 1 else 0
 |none,.buildSlice t len ps,Aa d=>bif (Ay len 0&&Ay ps.toList.length 0)&&(Ax6 t&&Atu d a)then 2 else 0
 |_,_,_=>0
def Kq (a:List Oper) (k:Nat):Nat:=match nth a k with
 |some o=>Ach a o
 |none=>0
def Mx (a:List Oper):Nat->List Oper->List (Nat×Nat)
 |_,[]=>[]
 |k,o::r=>match o.dst with
  |some d=>bif Ay (Ach a o) 0 then Mx a (k+1) r else(k,d)::Mx a (k+1) r
  |none=>Mx a (k+1) r
def H7:List (Nat×Nat)->List Nat
 |[]=>[]
 |p::r=>p.2::H7 r
def Bbx (d:Nat):List (Nat×Nat)->Option Nat
 |[]=>Ab
 |p::r=>bif Ay p.2 d then Aa p.1 else Bbx d r
def Ama (p:Nat->Bool):List Nat->Option Nat
 |[]=>Ab
 |a::l=>bif p a then Aa a else Ama p l
def Zd (C:Es) (k:Nat) (a:List Oper):Bool:=match nth a k with
 |some o=>(match o.op with
  |.call ⟨.value _,_,_⟩=>false
  |_=>Ay (Dg C [] o) 0)&&isNone o.guard
 |none=>false
def B8v (a:List Oper) (b:List (Nat×Nat)) (k:Nat):PS:=match nth a k with
 |some o=>(match o.op with
  |.call ⟨.builtin .append,args,_⟩=>match args.toList with
   |[.tmp d,_]=>match Bbx d b with
    |some f=>.ap k f
    |none=>.op k
   |_=>.op k
  |_=>.op k)
 |none=>.op k
def Am3 (C:Es) (a:List Oper) (k:Nat):Nat:=match nth a k with
 |some o=>Dg C [] o
 |none=>3
def B32 (C:Es) (a:List Oper) (k:Nat):Bool:=match nth a k with
 |some o=>isNone o.guard&&Ay (Dg C [] o) 0
 |none=>false
def okQ (C:Es) (c:List Oper) (a b:Array Bool) (k:Nat):Bool:=(Ts c.length).all λj=>(a.getD j false||Ay j k)||(!Ay (Am3 C c j) 2||Kl c.toArray (b.setIfInBounds k true) j)
def Zv (C:Es) (a:List Oper) (b:Nat->Bool) (c:List (Nat×Nat)):Nat->Array Bool->Array Bool->PT
 |0,_,_=>.nil
 |n+1,listed,moved=>let R:=Region.ready .any a.toArray listed
  match Ama (λk=>Zd C k a&&b k) R with
  |some k=>.cons (.lk k) (Zv C a b c n (listed.setIfInBounds k true) moved)
  |none=>let d:=R.filter λk=>Ay (Kq a k) 0
   match Ama (λk=>B32 C a k&&okQ C a listed moved k) (match d with
    |[k]=>bif Kl a.toArray moved k||Ay (Am3 C a k) 1 then []else d
    |_=>d)with
   |some k=>.cons (.qk k) (Zv C a b c n (listed.setIfInBounds k true) (moved.setIfInBounds k true))
   |none=>match d with
    |[k1,k2]=>.fork k1 (Zv C a b c n (listed.setIfInBounds k1 true) moved) k2 (Zv C a b c n (listed.setIfInBounds k2 true) moved)
    |k::_=>.cons (B8v a c k) (Zv C a b c n (listed.setIfInBounds k true) moved)
    |[]=>match R with
     |[]=>.nil
     |f::_=>.cons (bif Ay (Kq a f) 1 then PS.gh f else PS.li f) (Zv C a b c n (listed.setIfInBounds f true) moved)
def Agq (C:Es) (b:List Oper) (a:Array Bool) (k:Nat):Bool:=Kl b.toArray a k||Ay (Am3 C b k) 1
def Gu (C:Es) (a:List Oper):Nat->Nat->Array Bool->Array Bool->PT->Bool
 |0,_,_,_,_=>false
 |_+1,_,listed,_,.nil=>(Region.ready .any a.toArray listed).isEmpty
 |n+1,m,listed,moved,.fork k1 p1 k2 p2=>match m with
  |0=>false
  |m+1=>!(Region.ready .any a.toArray listed).isEmpty&&(Region.ready .any a.toArray listed).all λi=>bif Ay i k1 then Agq C a moved k1&&Gu C a n m (listed.setIfInBounds i true) moved p1 else bif Ay i k2 then Agq C a moved k2&&Gu C a n m (listed.setIfInBounds i true) moved p2 else !Ay (Kq a i) 0&&Gu C a n m (listed.setIfInBounds i true) moved (.fork k1 p1 k2 p2)
 |n+1,m,listed,moved,.cons (.lk k) r=>match m with
  |0=>false
  |m+1=>((Region.ready .any a.toArray listed).contains k&&Region.free .any a.toArray listed k)&&Gu C a n m (listed.setIfInBounds k true) moved r
 |n+1,m,listed,moved,.cons (.qk k) r=>match m with
  |0=>false
  |m+1=>((Region.ready .any a.toArray listed).contains k&&Region.free .any a.toArray listed k)&&Gu C a n m (listed.setIfInBounds k true) (moved.setIfInBounds k true) r
 |n+1,m,listed,moved,.cons (.gh f) r=>bif listed.getD f false then Gu C a n m listed moved r else match m with
  |0=>false
  |m+1=>!(Region.ready .any a.toArray listed).isEmpty&&(Region.ready .any a.toArray listed).all λi=>!Ay (Kq a i) 0&&Gu C a n m (listed.setIfInBounds i true) moved (.cons (.gh f) r)
 |n+1,m,listed,moved,.cons (.li f) r=>bif listed.getD f false then Gu C a n m listed moved r else match m with
  |0=>false
  |m+1=>!(Region.ready .any a.toArray listed).isEmpty&&(Region.ready .any a.toArray listed).all λi=>!Ay (Kq a i) 0&&Gu C a n m (listed.setIfInBounds i true) moved (.cons (.li f) r)
 |n+1,m,listed,moved,.cons (.op k) r=>match m with
  |0=>false
  |m+1=>!(Region.ready .any a.toArray listed).isEmpty&&(Region.ready .any a.toArray listed).all λi=>bif Ay i k then Agq C a moved k&&Gu C a n m (listed.setIfInBounds i true) moved r else !Ay (Kq a i) 0&&Gu C a n m (listed.setIfInBounds i true) moved (.cons (.op k) r)
 |n+1,m,listed,moved,.cons (.ap k f) r=>match m with
  |0=>false
  |m+1=>listed.getD f false&&(!(Region.ready .any a.toArray listed).isEmpty&&(Region.ready .any a.toArray listed).all λi=>bif Ay i k then Gu C a n m (listed.setIfInBounds i true) moved r else !Ay (Kq a i) 0&&Gu C a n m (listed.setIfInBounds i true) moved (.cons (.ap k f) r))
def Jy:PT->List Nat
 |.nil=>[]
 |.cons (.gh f) r=>f::Jy r
 |.cons (.ap _ f) r=>f::Jy r
 |.cons _ r=>Jy r
 |.fork _ a _ b=>Jy a++Jy b
def Mc:PT->Bool
 |.nil=>true
 |.cons (.gh f) r=>!Bn (Jy r) f&&Mc r
 |.cons (.ap _ f) r=>!Bn (Jy r) f&&Mc r
 |.cons _ r=>Mc r
 |.fork _ a _ b=>Mc a&&Mc b
def both {A:Type} (a b:Option A):Option A:=open Classical in if a=b then a else Ab
def Ali:Cell->Bool
 |.i _ _=>true
 |.y _=>true
 |.b _=>true
 |.s _=>true
 |.sl _=>true
 |.nil=>true
 |.ptr _ _=>true
 |.ep _ _ _ _=>true
 |.ln _ _=>true
 |_=>false
def Alk:V1->Bool
 |.c c=>Ali c
 |.a l=>l.all Ali
def Alj:Option SV->Bool
 |some (.v x)=>Alk x
 |some (.t l)=>l.all Alk
 |none=>false
def Avm (C:Es) (base:List Chunk) (o:Oper) (st:Ai) (K:Ai->Option R):Option R:=match o.dst with
 |some d=>Qr C o {st with own:=base,Bg:=[]} λa=>bif Ay a.Ak st.Ak&&Alj (Bo a.env d)then K {st with env:=a.env}else Ab
 |none=>Ab
def Aw7 (o:Oper):Bool:=match o.op with
 |.slice _ _ _ _ Ab=>true
 |.indexAddr _ _ _=>true
 |.call ⟨.builtin .len,_,_⟩=>true
 |_=>false
def Avn (C:Es) (o:Oper) (st:Ai) (K:Ai->Option R):Option R:=match o.dst,o.op with
 |some d,.slice t x lo hi Ab=>bif C1 d C.n then Acw st t x lo hi (λv st=>K (st.put d v))else Ab
 |some d,.indexAddr t x y=>bif C1 d C.n then Acu st t x y (λv st=>K (st.put d v))else Ab
 |some d,.call ⟨.builtin .len,args,tys⟩=>bif C1 d C.n then Acv st args.toList tys.toList (λv st=>K (st.put d v))else Ab
 |_,_=>Ab
def Yw (a:List Nat) (o:Oper):Bool:=match o.dst with
 |some d=>Bn a d
 |none=>false
def opM (C:Es) (a:List Oper) (b:List Nat) (base:List Chunk) (k:Nat) (st:Ai) {R:Type} (K:Ai->Option R):Option R:=match nth a k with
 |some o=>bif (isNone o.guard&&Ay (Kq a k) 0)&&!Yw b o then Wh C o st λst=>bif Ox base st.own then K st else Ab else Ab
 |none=>Ab
def Ke (C:Es) (a:List Oper) (b:List Nat) (base:List Chunk):PT->Ai-> {R:Type}->(Ai->Option R)->Option R
 |.nil,st,_,K=>K st
 |.fork k1 p1 k2 p2,st,_,K=>both (opM C a b base k1 st λst=>Ke C a b base p1 st K) (opM C a b base k2 st λst=>Ke C a b base p2 st K)
 |.cons (.lk k) r,st,_,K=>match nth a k with
  |some o=>bif (Zd C k a&&Ay (Kq a k) 0)&&!Yw b o then(bif Aw7 o then Avn C o st λst=>bif Ox base st.own then Ke C a b base r st K else Ab else Avm C base o st λst=>Ke C a b base r st K)else Ab
  |none=>Ab
 |.cons (.qk k) r,st,_,K=>match nth a k with
  |some o=>bif (isNone o.guard&&Ay (Kq a k) 0)&&!Yw b o then Qr C o st λst=>bif Ox base st.own then Ke C a b base r st K else Ab else Ab
  |none=>Ab
 |.cons (.op k) r,st,_,K=>opM C a b base k st λst=>Ke C a b base r st K
 |.cons (.gh f) r,st,_,K=>match nth a f with
  |some ⟨Aa d,.alloc e,_,_,_,Ab⟩=>bif C1 d C.n&&Bn b d then Agv st e λv st=>bif Ox base st.own then Ke C a b base r (st.put d v) K else Ab else Ab
  |_=>Ab
 |.cons (.li _) r,st,_,K=>Ke C a b base r st K
 |.cons (.ap k f) r,st,_,K=>match nth a k,nth a f with
  |some ⟨Aa d2,.call ⟨.builtin .append,args,tys⟩,_,_,_,Ab⟩,Aa ⟨Aa d1,.buildSlice t _ _,_,_,_,Ab⟩=>match args.toList,tys.toList with
   |[.tmp d,y],[t1,t2]=>bif ((Ay d d1&&Bn b d1)&&(Ay t t1&&Ay t t2))&&((C1 d2 C.n&&Ay (Kq a k) 0)&&!Bn b d2)then Afe st t y λv st=>bif Ox base st.own then Ke C a b base r (st.put d2 v) K else Ab else Ab
   |_,_=>Ab
  |_,_=>Ab
def Ux (env:List (Nat×Option SV)) (a:List Oper):Nat->Operand->List Nat
 |0,_=>[]
 |n+1,.tmp t=>match Ama (λk=>match nth a k with
   |some o=>(match o.dst with
    |some d=>Ay d t
    |none=>false)
   |none=>false) (Ts a.length)with
  |some k=>match nth a k with
   |some o=>(match o.op with
    |.fieldAddr _ x _=>Ux env a n x
    |.indexAddr _ x _=>Ux env a n x
    |.move x=>Ux env a n x
    |.nilCheck x=>Ux env a n x
    |_=>[])
   |none=>[]
  |none=>match evC env (.tmp t)with
   |some (.ptr h _)=>[h]
   |some (.sl h)=>[h]
   |some (.ep h _ _ _)=>[h]
   |some (.fn _ l)=>l.map (·.1)
   |_=>[]
 |_+1,_=>[]
def Azt (env:List (Nat×Option SV)) (b:List Oper):List Oper->List Nat
 |[]=>[]
 |o::r=>(match o.op with
  |.store _ a _=>Ux env b (b.length+1) a
  |.call ⟨.value f,args,_⟩=>Ux env b (b.length+1) f++args.toList.flatMap (Ux env b (b.length+1))
  |.call ⟨.builtin .append,args,_⟩=>args.toList.flatMap (Ux env b (b.length+1))
  |_=>[])++Azt env b r
def hOf:Chunk->Nat
 |.box h _ _=>h
 |.row h _ _ _ _=>h
 |.C9 h _ _ _=>h
 |.El h _ _ _ _ _ _=>h
 |.rem h _ _ _ _=>h
def Aw4:Chunk->Bool
 |.box _ _ _=>true
 |_=>false
def Zh (W:List Nat):List Chunk->List Chunk
 |[]=>[]
 |c::r=>bif Aw4 c&&!Bn W (hOf c)then c::Zh W r else Zh W r
def B19 (env:List (Nat×Option SV)) (a:List Oper) (base:List Chunk) (k:Nat):Bool:=match nth a k with
 |some o=>(match o.op with
  |.load _ x=>let b:=Ux env a (a.length+1) x
   !b.isEmpty&&b.all λh=>match Yn h base with
    |some _=>true
    |none=>false
  |_=>true)
 |none=>false
def Azw (C:Es) (a:List Oper) (b:Bool) (st:Ai) (K:Ai->Option R):Option R:=
 bif b then
  let E:=Ph a;let e:=Uw C E a a.length (Kh a.length false)
  bif Region.noSelect a.toArray&&W5 a.toArray e (Kh a.length false)then(bif (Ay e.length a.length&&e.all λk=>C1 k.1 a.length)&&Agj C E (Pu a e)then Ou C E a (a.length+1) (Aci (Pu a e)) st K else Ab)
  else
   let c:=Mx a 0 a;let base:=Zh (Azt st.env a a) st.own;let g:=Zv C a (B19 st.env a base) c a.length (Kh a.length false) (Kh a.length false)
   bif ((Region.noSelect a.toArray&&J8 st)&&(((W0 (H7 c)&&Mc g)&&((H7 c).all (λd=>C1 d C.n)&&(Jy g).all λf=>!Ay (Kq a f) 0))&&Gu C a (3*a.length) a.length (Kh a.length false) (Kh a.length false) g))&&Ox base st.own then Ke C a (H7 c) base g {st with env:=(H7 c).map (λd=>(d,Ab))++st.env} K else Ab
 else Q6 C a (a.length+1) a st K
end
end
end
end Go.Proofs.YtbbefmccoomfhaaGreatDoor
