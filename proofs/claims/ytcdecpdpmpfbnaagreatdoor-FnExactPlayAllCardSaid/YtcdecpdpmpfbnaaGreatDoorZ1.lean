/- Part 1 of the proof: lemmas. No condition. -/
import Derived.WalkKit
import Derived.Orders
import Derived.Still
import Derived.Deep.AppendSrc
import Derived.Great.BuildSlice
import Derived.Laws.IdiomCopy
import Derived.Laws.Strings
import Derived.Test.YtcdecpdpmpfbnaaGreatDoorSh
import Derived.Test.YtcdecpdpmpfbnaaGreatDoorProg
import Derived.Laws.StructEq
open Option renaming bind->B5h,bind_some->B5i,some->B65,bind_eq_some_iff->B7i,isSome_none->B71,map_some->B77,map_none->B8w,getD_some->Cat
open List renaming mem_cons_of_mem->B5j,length_append->B5m,mem_cons_self->B5n,getElem?_eq_getElem->B5p,length_cons->B5q,append_assoc->B5r,mem_cons->B5t,perm_middle->B5u,length_take->B5x,length_nil->B5y,length_drop->B50,length_singleton->B51,eq_nil_of_length_eq_zero->B53,getElem?_eq_some_iff->B55,perm_append_comm->B56,cons_append->B6a,all_eq_true->B6b,mem_append->B6g,flatMap_cons->B6h,foldl_cons->B6j,replicate->B6l,getD_eq_getElem?_getD->B6n,append_nil->B6o,getElem?_append_left->B6p,map_cons->B6r,take_append_drop->B6t,length_set->B6v,length_map->B6x,getElem?_drop->B6y,flatMap_append->B60,nil_append->B62,getElem?_append_right->B64,getElem?_take->B68,take_of_length_le->B7a,perm_append_comm_assoc->B7l,drop_drop->B7o,size_toArray->B7p,set_cons_zero->B7r,all_cons->B7s,set_append_right->B7y,drop_succ_cons->B8a,take_append_of_le_length->B8c,drop_append_of_le_length->B8d,toArray->B8g,drop_eq_nil_of_le->B8n,replicate_succ->B8o,eraseIdx_eq_take_drop_succ->B8z,set_cons_succ->B80,set_eq_of_length_le->B83,drop_take->B84,take_add_one->B85,getElem?_toArray->B9c,take_append->B9i,take_take->B9k,getElem?_set_self->B9p,map_append->B9r,map_map->B9u,flatten_cons->B9w,mem_flatMap->B92,map_toArray->B93,take_set_of_le->B96,take_succ_cons->B97,getElem?_cons_succ->Caq,flatten_nil->Ca0,zipIdx_cons->Ca1,drop_set_of_lt->Cbe,mapM_cons->Cbi
open Nat renaming eq_of_beq_eq_true->B5k,mul_le_mul_right->B5v,beq->B5w,add_assoc->B6d,le_refl->B6i,lt_of_lt_of_le->B6w,add_mul->B61,blt->B63,le_of_ble_eq_true->B7e,sub_mul->B7g,ble->B7m,zero_mul->B7n,min_eq_left->B7q,zero_add->B7x,mul_le_mul->B70,lt_or_ge->B8u,add_sub_cancel_left->B82,add_comm->B9b,one_mul->B9f,mul_eq_zero->B9h,add_zero->B9v,lt_irrefl->B91,sub_zero->Cad,le_trans->Caf,le_mul_of_pos_right->Cao
open Bool renaming and_eq_true->B5l,not_true->B5o,false_eq_true->B6q,or_eq_true->B6s,false_or->B8v,and_false->B90,false_and->Car
open ByteArray renaming empty->B52
open UInt8 renaming ofNat->Cac,toNat_ofNat'->Cap
open Array renaming length_toList->B5z,getElem?_toList->B7b,replicate->B7c,getElem?_eq_none->B7h,size_append->B79,getD_eq_getD_getElem?->B8p,getElem?_eq_some_iff->B9e,toArray_toList->B9g,setIfInBounds_comm->B9j,toList_map->B9q,getElem?_setIfInBounds_ne->B9s,range->B9z,getElem?_append_left->Cab,toList_setIfInBounds->Cae,ext_getElem?->Cas,getElem?_modify->Cba,toList_zipIdx->Cbl,foldl_toList->Cbm,ext'->Cbx
namespace Go.Proofs.YtcdecpdpmpfbnaaGreatDoor
noncomputable section
section
open Go.RowKit
abbrev Env:=List (Nat×Value)
def lk:Env->Nat->Option Value
 |[],_=>none
 |(k,v)::r,t=>bif B5w k t then some v else lk r t
def ev (env:Env):Operand->Option Value
 |.tmp t=>lk env t
 |.const v=>some v
 |.global g=>some (.pointer (some ⟨g,0,none⟩))
 |.func f=>some (.func (.func f) #[] #[])
structure Has (n:Nat) (a:Act) (env:Env):Prop where
 df:a.defers=[]
 sz:a.tmps.size=n
 at':∀t v,lk env t=some v->a.tmps[t]?=some v
theorem Has.ev {n:Nat} {a:Act} {env:Env} (h:Has n a env) {x:Operand} {v:Value} (hx:ev env x=some v):a.eval x=v:=by
 cases x with
 |tmp t=>have b:=h.at' t v hx;simp only[Act.eval,B8p,b,Cat]
 |const u=>simp only[Go.Proofs.YtcdecpdpmpfbnaaGreatDoor.ev,B65.injEq]at hx;simp[Act.eval,hx]
 |global g=>simp only[Go.Proofs.YtcdecpdpmpfbnaaGreatDoor.ev,B65.injEq]at hx;simp[Act.eval,hx]
 |func f=>simp only[Go.Proofs.YtcdecpdpmpfbnaaGreatDoor.ev,B65.injEq]at hx;simp[Act.eval,hx]
theorem Jn {a b:Nat} (h:a≠b):B5w a b=false:=by
 cases c:B5w a b with
 |false=>rfl
 |true=>exact absurd (B5k c) h
theorem Has.put{n a env} (h:Has n a env){d} (f:B63 d n=true) v:Has n (a.put (some d) v) ((d,v)::env):=by
 have c:d<a.tmps.size:=by rw[h.sz];simpa using f
 refine⟨h.df,by simp[Act.put,h.sz],λt u b=>?_⟩;simp only[lk]at b;by_cases e:d=t
 ·subst e;simp at b;subst b;simp[Act.put,c]
 ·rw[Jn e]at b;simp only[Act.put,B9s e];exact h.at' t u b
theorem Has.skip{n a env} (h:Has n a env) v:Has n (a.put none v) env:=h
theorem Has.lose{n a env} (h:Has n a env){env'} (b:∀t v,lk env' t=some v->lk env t=some v):Has n a env':=
 ⟨h.df,h.sz,λt v c=>h.at' t v (b t v c)⟩
def Cov (env:Env):Env->Prop
 |[]=>True
 |(t,v)::r=>lk env t=some v/\Cov env r
theorem Cov.sub{env}:∀ {a:Env},Cov env a->∀t v,lk a t=some v->lk env t=some v
 |[],_,t,v,h=>by cases h
 |(k,u)::r,h,t,v,ht=>by
  simp only[lk]at ht;by_cases e:k=t
  ·subst e;simp at ht;subst ht;exact h.1
  ·rw[Jn e]at ht;exact h.2.sub t v ht
abbrev Post:=Exit->Env->World->Prop
def Nv (n:Nat) (Q:Post):Exit->Act->World->Prop:=λe a w=>∃env,Has n a env/\Q e env w
def WL (P:Program) (n:Nat) (ops:Array Oper) (l:List Oper) (Q:Post) (env:Env) (w:World):Prop:=
 ∀a,Has n a env->wpList P ops (Nv n Q) l a w
def WC (P:Program) (n:Nat) (c:Code) (Q:Post) (env:Env) (w:World):Prop:=
 ∀a,Has n a env->c.wp P (Nv n Q) a w
def Runs (P:Program) (n:Nat) (env:Env) (w:World) (o:Oper) (v:Value) (w':World):Prop:=
 ∀a,Has n a env->(execOp a.eval o).run P w=.ok (.value v) w'
def RunsU (P:Program) (n:Nat) (env:Env) (w:World) (o:Oper) (w':World):Prop:=
 ∀a,Has n a env->(execOp a.eval o).run P w=.ok .skip w'
section
variable {P:Program} {n:Nat} {ops:Array Oper} {l rest:List Oper} {Q:Post} {env:Env} {w w':World}
theorem WL.lose (h:WL P n ops l Q env w){env0} (c:Cov env0 env):WL P n ops l Q env0 w:=λa b=>h a (b.lose c.sub)
theorem WC.lose{c} (h:WC P n c Q env w){env0} (d:Cov env0 env):WC P n c Q env0 w:=λa b=>h a (b.lose d.sub)
theorem Auj (h:Q .normal env w):WL P n ops [] Q env w:=λ_ a=>⟨env,a,h⟩
theorem wv{d op ty pos af v} (e:B63 d n=true) (f:Runs P n env w ⟨some d,op,ty,pos,af,none⟩ v w')
  (h:WL P n ops rest Q ((d,v)::env) w'):WL P n ops (⟨some d,op,ty,pos,af,none⟩::rest) Q env w:=λa b=>
 wpList_plain rfl λK c=>by unfold Oper.wp;rw[f a b];exact c _ _ (h _ (b.put e v))
theorem wvn{op ty pos af v} (d:Runs P n env w ⟨none,op,ty,pos,af,none⟩ v w')
  (h:WL P n ops rest Q env w'):WL P n ops (⟨none,op,ty,pos,af,none⟩::rest) Q env w:=λa b=>
 wpList_plain rfl λK c=>by unfold Oper.wp;rw[d a b];exact c _ _ (h _ b)
def gd (ops:Array Oper) (env:Env) (j:Nat):Option Value:=((ops[j]?).bind (·.dst)).bind (lk env)
theorem Bgc{a} (e:Has n a env){j b} (h:gd ops env j=some (.bool b)):yielded ops a.tmps j=some b:=by
 unfold gd at h;unfold yielded;cases ho:ops[j]? with
 |none=>simp[ho]at h
 |some o=>
  simp only[ho,B5i]at h⊢;cases c:o.dst with
  |none=>simp[c]at h
  |some d=>simp only[c,B5i]at h⊢;have:=e.at' d _ h;simp[this]
theorem wvg{d op ty pos af j b v} (f:gd ops env j=some (.bool b)) (e:B63 d n=true)
  (g:Runs P n env w ⟨some d,op,ty,pos,af,some (j,b)⟩ v w')
  (h:WL P n ops rest Q ((d,v)::env) w'):WL P n ops (⟨some d,op,ty,pos,af,some (j,b)⟩::rest) Q env w:=λa c=>by
 unfold wpList;rw[if_pos (by simp[Region.wanted,Bgc c f])];refine .inl ?_;unfold Oper.wp;rw[g a c];exact h _ (c.put e v)
theorem Auc{id} (h:WL P n l.toArray l Q env w):WC P n (.region id l.toArray false) Q env w:=λa b=>wp_region_lit (h a b)
def sq (P:Program) (n:Nat) (c:Code) (Q:Post):Post
 |.normal,env,w=>WC P n c Q env w
 |e,env,w=>Q e env w
theorem Fc{x y} (h:WC P n x (sq P n y Q) env w):WC P n (.seq x y) Q env w:=λa g=>
 wp_seq (wp_mono (h a g) λe f w' d=>by
  obtain⟨b,c,d⟩:=d;cases e with
  |normal=>exact d f c
  |_=>exact⟨b,c,d⟩)
theorem Mn (h:Q .normal env w):WC P n .skip Q env w:=λ_ a=>wp_skip ⟨env,a,h⟩
theorem A9s{id} (h:Q (.exit id) env w):WC P n (.exit id) Q env w:=λ_ a=>wp_exit ⟨env,a,h⟩
theorem Lf (h:Q .ret env w):WC P n .ret Q env w:=λ_ a=>wp_ret ⟨env,a,h⟩
theorem H5{c x y t} (d:ev env c=some (.bool t)) (f:t=true->WC P n x Q env w) (e:t=false->WC P n y Q env w):WC P n (.cond c x y) Q env w:=λa b=>
 wp_cond_split (b.ev d) (λh=>f h a b) (λh=>e h a b)
theorem B4p{c x y} (d:ev env c=some (.bool false)) (e:WC P n y Q env w):WC P n (.cond c x y) Q env w:=λa b=>wp_cond_false (b.ev d) (e a b)
def bk (id:Nat) (Q:Post):Post
 |.exit i,env,w=>bif B5w i id then Q .normal env w else Q (.exit i) env w
 |e,env,w=>Q e env w
theorem B4o{id c} (h:WC P n c (bk id Q) env w):WC P n (.block id c) Q env w:=λa g=>
 wp_block (wp_mono (h a g) λe j w' d=>by
  obtain⟨b,f,d⟩:=d;cases e with
  |exit i=>
   simp only[bk]at d;by_cases e:i=id
   ·subst e;simp at d;simp only[Exit.inBlock,if_true];exact⟨b,f,d⟩
   ·rw[Jn e]at d;simp only[Exit.inBlock,if_neg e];exact⟨b,f,d⟩
  |_=>exact⟨b,f,d⟩)
end
end
section
open Go.RowKit
abbrev Bs:=Nat×Nat->Prop
def Rel (w w':World):Prop:=Below w.heap.size w w'
theorem Rel.refl w:Rel w w:=Below.refl _ _
theorem Rel.size{w w'} (h:Rel w w'):w.heap.size<=w'.heap.size:=Below.size h
theorem Rel.trans{a b c} (h:Rel a b) (k:Rel b c):Rel a c:=Below.trans h (Below.mono k h.size)
theorem Rel.block{w w'} (h:Rel w w'){b} (c:b<w.heap.size):w'.heap[b]?=w.heap[b]?:=Below.block h b c
theorem Rel.cell{w w'} (h:Rel w w'){a} (b:a.block<w.heap.size):w'.cell? a=w.cell? a:=Below.cell h b
theorem Rel.alloc w o:Rel w (w.alloc o):=(Below.refl _ _).alloc (B6i _) o
theorem Rel.drew{w w'} (h:Rel w w'):Rel w w'.drew:=Below.drew h
def Blk (X:Nat->Prop) (o f:Option Obj):Prop:=
 f=o\/∃(c b:Array Value) (e:TypeId) (d:Nat×Nat),o=some (.cells c e d)/\f=some (.cells b e d)/\b.size=c.size/\∀i,¬X i->b[i]?=c[i]?
theorem Blk.mono{X Y o o'} (h:Blk X o o') (k:∀i,X i->Y i):Blk Y o o':=
 h.imp id λ⟨c,c',e,j,b,d,f,g⟩=>⟨c,c',e,j,b,d,f,λi hi=>g i λhx=>hi (k i hx)⟩
theorem Blk.trans{X o p q} (h:Blk X o p) (k:Blk X p q):Blk X o q:=by
 rcases h with rfl|⟨c,c',e,b,g,j,n,r⟩
 ·exact k
 ·rcases k with rfl|⟨d,t,u,f,s,k2,v,x⟩
  ·exact .inr ⟨c,c',e,b,g,j,n,r⟩
  ·rw[j]at s;obtain⟨rfl,rfl,rfl⟩:c'=d/\e=u/\b=f:=by simpa using s
   exact .inr ⟨c,t,e,b,g,k2,v.trans n,λi hi=>(x i hi).trans (r i hi)⟩
theorem Blk.same{X o b} (h:Blk X o b) (j:∀i,¬X i):b=o:=by
 rcases h with h|⟨c,c',e,k,d,f,_,g⟩
 ·exact h
 ·have:c'=c:=Cas λi=>g i (j i);rw[d,f,this]
structure Kp (X:Bs) (w w':World):Prop where
 size:w.heap.size<=w'.heap.size
 block:∀b,b<w.heap.size->Blk (λi=>X (b,i)) w.heap[b]? w'.heap[b]?
theorem Kp.refl X w:Kp X w w:=⟨B6i _,λ_ _=>.inl rfl⟩
theorem Kp.mono{X Y w w'} (h:Kp X w w') (d:∀b,X b->Y b):Kp Y w w':=⟨h.size,λb c=>(h.block b c).mono λ_ hx=>d _ hx⟩
theorem Kp.trans{X a b c} (h:Kp X a b) (k:Kp X b c):Kp X a c:=⟨Caf h.size k.size,λi hi=>(h.block i hi).trans (k.block i (B6w hi h.size))⟩
abbrev Lc (F:Bs) (w w':World):Prop:=Kp (λx=>¬F x) w w'
theorem Lc.refl F w:Lc F w w:=Kp.refl _ w
theorem Lc.sub{F G w w'} (h:Lc F w w') (d:∀b,G b->F b):Lc G w w':=Kp.mono h λ_ hx c=>hx (d _ c)
theorem Lc.cells{F w w'} (h:Lc F w w'){b cur e hd} (g:w.heap[b]?=some (.cells cur e hd)):
  ∃d,w'.heap[b]?=some (.cells d e hd)/\d.size=cur.size/\∀i,F (b,i)->d[i]?=cur[i]?:=by
 have q:b<w.heap.size:=(B9e.1 g).1;rcases h.block b q with h|⟨c,c',k,f,j,n,o,p⟩
 ·exact⟨cur,h.trans g,rfl,λ_ _=>rfl⟩
 ·rw[g]at j;obtain⟨rfl,rfl,rfl⟩:cur=c/\e=k/\hd=f:=by simpa using j
  exact⟨c',n,o,λi hi=>p i λh=>h hi⟩
theorem Bg9 {w:World}{b i u} (h:w.cell? ⟨b,i,none⟩=some u):∃c e d,w.heap[b]?=some (.cells c e d)/\c[i]?=some u:=by
 unfold World.cell? at h;simp only at h;cases f:w.heap[b]? with
 |none=>rw[f]at h;cases h
 |some o=>
  rw[f]at h;cases o with
  |cells c e d=>exact⟨c,e,d,rfl,by simpa using h⟩
  |_=>cases h
theorem Ay9 {w:World}{b i cur e hd} (c:w.heap[b]?=some (.cells cur e hd)):w.cell? ⟨b,i,none⟩=cur[i]?:=by simp[World.cell?,c]
theorem Lc.cell{F w w'} (h:Lc F w w'){b i u} (g:F (b,i)) (j:w.cell? ⟨b,i,none⟩=some u):w'.cell? ⟨b,i,none⟩=some u:=by obtain⟨f,e,o,k,hu⟩:=Bg9 j;obtain⟨d,c,_,n⟩:=h.cells k;rw[Ay9 c,n i g];exact hu
theorem B13 {c b:Array Value}{o n} (h:∀j,j<n->b[o+j]?=c[o+j]?):(b.toList.drop o).take n=(c.toList.drop o).take n:=
 List.ext_getElem? λj=>by
  rw[B68,B68];split
  ·rename_i d;rw[B6y,B6y,B7b,B7b];exact h j d
  ·rfl
structure RelX (X:Bs) (w w':World):Prop where
 os:w'.os=w.os
 tape:w'.tape=w.tape
 output:w'.output=w.output
 kp:Kp X w w'
theorem RelX.size{X w w'} (h:RelX X w w'):w.heap.size<=w'.heap.size:=h.kp.size
theorem RelX.lc{X F w w'} (h:RelX X w w') (c:∀b,F b->¬X b):Lc F w w':=h.kp.mono λb hx d=>c b d hx
theorem Rel.x{w w'} (h:Rel w w') X:RelX X w w':=⟨Below.os h,Below.tape h,Below.output h,h.size,λ_ b=>.inl (h.block b)⟩
theorem Rel.lc{w w'} (h:Rel w w') F:Lc F w w':=(h.x _).kp
theorem RelX.rel{X w w'} (h:RelX X w w') (d:∀b,¬X b):Rel w w':=⟨h.os,h.tape,h.output,h.size,λk c=>(h.kp.block k c).same λ_=>d _⟩
theorem RelX.refl X w:RelX X w w:=(Rel.refl w).x X
theorem RelX.trans{X a b c} (h:RelX X a b) (k:RelX X b c):RelX X a c:=⟨k.os.trans h.os,k.tape.trans h.tape,k.output.trans h.output,h.kp.trans k.kp⟩
theorem RelX.mono{X Y w w'} (h:RelX X w w') (c:∀b,X b->Y b):RelX Y w w':=⟨h.os,h.tape,h.output,h.kp.mono c⟩
theorem RelX.step{X Y a b c} (h:RelX X a b) (k:RelX Y b c) (f:∀i,Y i->a.heap.size<=i.1\/X i):RelX X a c:=
 ⟨k.os.trans h.os,k.tape.trans h.tape,k.output.trans h.output,Caf h.size k.size,λi hi=>(h.kp.block i hi).trans ((k.kp.block i (B6w hi h.size)).mono λj e=>by
  rcases f _ e with d|d
  ·have:a.heap.size<=i:=d;omega
  ·exact d)⟩
structure As where
 ok:Bs->World->Prop
 loc:∀ {F:Bs} {w w':World},Lc F w w'->ok F w->ok F w'
 lt:∀ {F:Bs} {w:World} {b:Nat×Nat},ok F w->F b->b.1<w.heap.size
 up:∀ {F F':Bs} {w:World},(∀b,F b->F' b)->(∀b,F' b->b.1<w.heap.size)->ok F w->ok F' w
theorem Abk{F w w'} (h:Lc F w w') (d:∀b,F b->b.1<w.heap.size):∀b,F b->b.1<w'.heap.size:=λb c=>B6w (d b c) h.size
def Sep:List As->Bs->World->Prop
 |[],F,w=>∀b,F b->b.1<w.heap.size
 |a::m,F,w=>(∀b,F b->b.1<w.heap.size)/\∃F1 c:Bs,a.ok F1 w/\Sep m c w/\(∀b,F1 b->¬c b)/\(∀b,F1 b->F b)/\(∀b,c b->F b)
theorem Sep.lt{F w}:∀ {m:List As},Sep m F w->∀b,F b->b.1<w.heap.size
 |[],h=>h
 |_::_,h=>h.1
theorem Sep.up{F F' w} (e:∀b,F b->F' b) (d:∀b,F' b->b.1<w.heap.size):∀ {m:List As},Sep m F w->Sep m F' w
 |[],_=>d
 |_::_,⟨_,F1,F2,h1,h2,h3,h4,h5⟩=>⟨d,F1,F2,h1,h2,h3,λb c=>e b (h4 b c),λb c=>e b (h5 b c)⟩
theorem Sep.loc{F w w'} (h:Lc F w w'):∀ {m:List As},Sep m F w->Sep m F w'
 |[],hk=>Abk h hk
 |_::_,⟨h0,F1,F2,h1,h2,h3,h4,h5⟩=>⟨Abk h h0,F1,F2,As.loc _ (h.sub h4) h1,h2.loc (h.sub h5),h3,h4,h5⟩
theorem Sep.swap{F w a c m} (h:Sep (a::c::m) F w):Sep (c::a::m) F w:=by
 obtain⟨j,F1,v,q,⟨r,p,i,s,t,u,k,g⟩,n,o,f⟩:=h;refine⟨j,p,λb=>F1 b\/i b,s,⟨λb d=>?_,F1,i,q,t,λb d e=>n b d (g b e),λ_ h=>.inl h,λ_ h=>.inr h⟩,λb d e=>?_,λb d=>f b (k b d),λb d=>?_⟩
 ·rcases d with d|d
  ·exact j b (o b d)
  ·exact r b (g b d)
 ·rcases e with e|e
  ·exact n b e (k b d)
  ·exact u b d e
 ·rcases d with d|d
  ·exact o b d
  ·exact f b (g b d)
theorem Sep.cons_mono{F w a m m'} (h:Sep (a::m) F w) (j:∀F,Sep m F w->Sep m' F w):Sep (a::m') F w:=by obtain⟨c,F1,b,d,e,f,g,i⟩:=h;exact⟨c,F1,b,d,j _ e,f,g,i⟩
theorem Sep.tail{F w a m} (h:Sep (a::m) F w):Sep m F w:=by obtain⟨b,F1,e,f,c,g,i,d⟩:=h;exact c.up d b
theorem Sep.perm{w m m'} (e:m.Perm m'):∀ {F:Bs},Sep m F w->Sep m' F w:=by
 induction e with
 |nil=>exactλh=>h
 |cons a _ f=>exactλh=>h.cons_mono λ_=>f
 |swap a b l=>exactλh=>h.swap
 |trans _ _ c d=>exactλh=>d (c h)
theorem Sep.split{w}:∀ {l m:List As} {F:Bs},Sep (l++m) F w->∃F1 d,Sep l F1 w/\Sep m d w/\(∀b,F1 b->¬d b)/\(∀b,F1 b->F b)/\(∀b,d b->F b)
 |[],m,F,h=>⟨λ_=>False,F,(λ_ h=>h.elim),h,(λ_ h=>h.elim),(λ_ h=>h.elim),λ_ h=>h⟩
 |a::l,m,F,⟨h0,F1,d,h1,h2,h3,h4,h5⟩=>by
  obtain⟨f,g,g1,g2,g3,g4,g5⟩:=Sep.split h2;refine⟨λb=>F1 b\/f b,g,⟨λb c=>?_,F1,f,h1,g1,λb c e=>h3 b c (g4 b e),λ_ h=>.inl h,λ_ h=>.inr h⟩,g2,λb c e=>?_,λb c=>?_,λb c=>h5 b (g5 b c)⟩
  ·rcases c with c|c
   ·exact h0 b (h4 b c)
   ·exact h0 b (h5 b (g4 b c))
  ·rcases c with c|c
   ·exact h3 b c (g5 b e)
   ·exact g3 b c e
  ·rcases c with c|c
   ·exact h4 b c
   ·exact h5 b (g4 b c)
theorem Sep.join{w}:∀ {l m:List As} {F1 d:Bs},Sep l F1 w->Sep m d w->(∀b,F1 b->¬d b)->Sep (l++m) (λb=>F1 b\/d b) w
 |[],m,F1,d,h1,h2,_=>h2.up (λ_ h=>.inr h) λb c=>by
  rcases c with c|c
  ·exact h1 b c
  ·exact h2.lt b c
 |a::l,m,F1,d,⟨h0,G1,G2,g1,g2,g3,g4,g5⟩,h2,hd=>by
  have f:=Sep.join g2 h2 λb c=>hd b (g5 b c);refine⟨λb c=>?_,G1,_,g1,f,λb c e=>?_,λb c=>.inl (g4 b c),λb c=>?_⟩
  ·rcases c with c|c
   ·exact h0 b c
   ·exact h2.lt b c
  ·rcases e with e|e
   ·exact g3 b c e
   ·exact hd b (g4 b c) e
  ·rcases c with c|c
   ·exact .inl (g5 b c)
   ·exact .inr c
structure Ce where
 rd:Bs->World->Value->Prop
 mono:∀ {S S':Bs} {w w':World} {v:Value},(∀b,S b->S' b)->Lc S w w'->rd S w v->rd S' w' v
 ow:Bs->World->Value->Prop
 loc:∀ {F:Bs} {w w':World} {v:Value},Lc F w w'->ow F w v->ow F w' v
 lt:∀ {F:Bs} {w:World} {v:Value} {b:Nat×Nat},ow F w v->F b->b.1<w.heap.size
 up:∀ {F F':Bs} {w:World} {v:Value},(∀b,F b->F' b)->(∀b,F' b->b.1<w.heap.size)->ow F w v->ow F' w v
 seen:∀ {F:Bs} {w:World} {v:Value},ow F w v->rd F w v
 one:∀ {S:Bs} {w:World} {v:Value},rd S w v->v.oneCell'=true
def cV (u:Value) (hu:u.oneCell'=true:=by rfl):Ce where
 rd:=λ_ _ v=>v=u
 mono:=λ_ _ h=>h
 ow:=λF w v=>v=u/\∀b,F b->b.1<w.heap.size
 loc:=λh c=>⟨c.1,Abk h c.2⟩
 lt:=λc d=>c.2 _ d
 up:=λ_ e c=>⟨c.1,e⟩
 seen:=λc=>c.1
 one:=λc=>c▸hu
def cI (n:Int):Ce:=cV (.int .i64 n)
def cB (b:Bool):Ce:=cV (.bool b)
def cT (s:ByteArray):Ce:=cV (.string s)
def cY (n:UInt8):Ce:=cV (.int .u8 (n.toNat:Int))
def oC (c:Ce) (v:Value):As:=⟨λF w=>c.ow F w v,c.loc,c.lt,c.up⟩
def Aj:List Ce->List Value->List As
 |c::cs,v::vs=>oC c v::Aj cs vs
 |_,_=>[]
theorem Kh:∀ {cs b:List Ce} {vs us:List Value},cs.length=vs.length->Aj (cs++b) (vs++us)=Aj cs vs++Aj b us
 |[],_,[],_,_=>rfl
 |[],_,_::_,_,h=>by simp at h
 |_::_,_,[],_,h=>by simp at h
 |c::cs,b,v::vs,us,h=>by simp only[B6a,Aj,List.cons.injEq,true_and];exact Kh (by simpa using h)
def Br (S:Bs) (w:World):List Ce->List Value->Prop
 |[],vs=>vs=[]
 |c::cs,vs=>∃v r,vs=v::r/\c.rd S w v/\Br S w cs r
theorem U2{S S' w w'} (h:∀b,S b->S' b) (d:Lc S w w'):∀cs vs,Br S w cs vs->Br S' w' cs vs
 |[],_,hk=>hk
 |c::cs,_,⟨v,r,e,h1,h2⟩=>⟨v,r,e,c.mono h d h1,U2 h d cs r h2⟩
theorem U1{S w}:∀ {cs:List Ce} {vs:List Value},Br S w cs vs->vs.length=cs.length
 |[],_,h=>by rw[h];rfl
 |_::_,_,⟨v,r,e,_,h2⟩=>by rw[e,B5q,U1 h2,B5q]
theorem Ye{S w}:∀ {cs b:List Ce} {vs us:List Value},Br S w cs vs->Br S w b us->Br S w (cs++b) (vs++us)
 |[],_,_,_,h,h'=>by have:_=[]:=h;subst this;exact h'
 |c::cs,b,_,us,⟨v,r,e,h1,h2⟩,h'=>by subst e;exact⟨v,r++us,rfl,h1,Ye h2 h'⟩
theorem Aio{S w}:∀ {cs:List Ce} {vs:List Value},Br S w cs vs->∀ {j:Nat} {c:Ce},cs[j]?=some c->∃v,vs[j]?=some v/\c.rd S w v
 |[],_,_,j,c,hj=>by simp at hj
 |c::cs,_,⟨v,r,e,h1,h2⟩,0,c',hj=>by simp at hj;subst hj;subst e;exact⟨v,rfl,h1⟩
 |c::cs,_,⟨v,r,e,h1,h2⟩,j+1,c',hj=>by subst e;exact Aio h2 (by simpa using hj)
theorem Zx{w}:∀ {cs:List Ce} {vs:List Value} {F:Bs},cs.length=vs.length->Sep (Aj cs vs) F w->Br F w cs vs
 |[],[],_,_,_=>rfl
 |[],_::_,_,h,_=>by simp at h
 |_::_,[],_,h,_=>by simp at h
 |c::cs,v::vs,F,hl,⟨_,F1,F2,h1,h2,_,h4,h5⟩=>
  ⟨v,vs,rfl,c.mono h4 (Lc.refl _ _) (c.seen h1),U2 h5 (Lc.refl _ _) _ _ (Zx (by simpa using hl) h2)⟩
def Wr (b:Nat×Nat) (n:Nat):Prop:=∀j,j<n->¬(b.1<=j/\j<b.2)
theorem wr0 n:Wr (0,0) n:=λj _ h=>by simp at h
def Bb (k:Nat) (v:Value) (n:Nat) (xs:List Value):As where
 ok:=λF w=>(∀b,F b->b.1<w.heap.size)/\xs.length=n*k/\((v=.slice none 0 0/\n=0)\/∃b off cap c e f,v=.slice (some ⟨b,off,none⟩) n cap/\(∀j,j<cap*k->F (b,off+j))/\(w.heap[b]?=some (.cells c e f)/\Wr f c.size)/\n<=cap/\cap<=maxLen/\off+cap*k<=c.size/\(c.toList.drop off).take (n*k)=xs)
 loc:=λh ⟨o,p,q⟩=>⟨Abk h o,p,q.imp id λ⟨b,off,cap,c,e,f,i,d,x,y,A,z,hx⟩=>by
  obtain⟨g,s,u,B⟩:=h.cells x.1;refine⟨b,off,cap,g,e,f,i,d,⟨s,by rw[u];exact x.2⟩,y,A,by omega,?_⟩;rw[<-hx];exact B13 λj t=>B _ (d j (B6w t (B5v _ y)))⟩
 lt:=λ⟨o,_⟩ d=>o _ d
 up:=λz C ⟨_,p,q⟩=>⟨C,p,q.imp id λ⟨b,off,cap,c,e,f,i,d,r⟩=>⟨b,off,cap,c,e,f,i,λj t=>z _ (d j t),r⟩⟩
def A2 (b:Nat) (cs:Array Value) (e:TypeId):As where
 ok:=λF w=>(∀b,F b->b.1<w.heap.size)/\(∀j,j<cs.size->F (b,j))/\w.heap[b]?=some (.cells cs e (0,0))
 loc:=λh ⟨f,d,g⟩=>⟨Abk h f,d,by
  obtain⟨c,k,s,o⟩:=h.cells g
  have:c=cs:=Cas λi=>by
   by_cases hi:i<cs.size
   ·exact o i (d i hi)
   ·rw[B7h (by omega),B7h (by omega)]
  rw[k,this]⟩
 lt:=λ⟨f,_⟩ n=>f _ n
 up:=λr q ⟨_,d,g⟩=>⟨q,λj p=>r _ (d j p),g⟩
theorem Aiu{k} {w:World}{n xs cur e hd b off} (f:w.heap[b]?=some (.cells cur e hd)) (d:(cur.toList.drop off).take (n*k)=xs){j u} (c:xs[j]?=some u):w.cell? ⟨b,off+j,none⟩=some u:=by
 rw[<-d,B68]at c;split at c
 ·rw[B6y,B7b]at c;rw[Ay9 f];exact c
 ·cases c
def Ac (k:Nat) {T:Type} (f:T->List Ce) (L:List T):Ce where
 rd:=λS w v=>∃a cap,v=.slice a L.length cap/\L.length<=cap/\cap<=maxLen/\(L≠[]->∃b off xs,a=some ⟨b,off,none⟩/\(∀j,j<L.length*k->S (b,off+j))/\xs.length=L.length*k/\(∀j u,xs[j]?=some u->w.cell? ⟨b,off+j,none⟩=some u)/\Br S w (L.flatMap f) xs)
 mono:=λ{S S' w w' v} h s ⟨a,cap,e,g,c,z⟩=>⟨a,cap,e,g,c,λp=>by
  obtain⟨b,off,xs,y,i,hx,G,H⟩:=z p;exact⟨b,off,xs,y,λj d=>h _ (i j d),hx,λj u d=>s.cell (i j (by rw[<-hx];exact(B55.1 d).1)) (G j u d),U2 h s _ _ H⟩⟩
 ow:=λF w v=>∃xs:List Value,(L.flatMap f).length=xs.length/\Sep (Bb k v L.length xs::Aj (L.flatMap f) xs) F w
 loc:=λh ⟨xs,g,c⟩=>⟨xs,g,c.loc h⟩
 lt:=λ⟨_,_,c⟩ i=>c.lt _ i
 up:=λM p ⟨xs,g,c⟩=>⟨xs,g,c.up M p⟩
 seen:=λ{F w v} ⟨xs,g,c⟩=>by
  obtain⟨P,F1,O,⟨_,hx,K⟩,A,_,B,C⟩:=c;have D:=U2 C (Lc.refl _ _) _ _ (Zx g A);rcases K with⟨rfl,t⟩|⟨b,off,cap,x,e,Q,rfl,i,I,n,o,N,r⟩
  ·exact⟨none,0,by rw[t],by omega,by simp[maxLen],λq=>absurd (B53 t) q⟩
  ·exact⟨_,cap,rfl,n,o,λ_=>⟨b,off,xs,rfl,λj d=>B _ (i j (B6w d (B5v _ n))),hx,λj u d=>Aiu I.1 r d,D⟩⟩
 one:=λ⟨_,_,e,_⟩=>by rw[e];rfl
structure Vi where
 ok:Bs->World->Prop
 loc:∀ {F:Bs} {w w':World},Lc F w w'->ok F w->ok F w'
 up:∀ {F F':Bs} {w:World},(∀b,F b->F' b)->ok F w->ok F' w
def vR (v:Value) (c:Ce):Vi:=⟨λF w=>c.rd F w v,λh b=>c.mono (λ_ d=>d) h b,λh b=>c.mono h (Lc.refl _ _) b⟩
def vC (a:Addr) (v:Value):Vi:=⟨λF w=>F (a.block,a.off)/\a.spot=none/\w.cell? a=some v,λh c=>⟨c.1,c.2.1,by obtain⟨b,o,s⟩:=a;obtain⟨d,rfl,e⟩:=c;exact h.cell d e⟩,λh c=>⟨h _ c.1,c.2⟩⟩
def oV (o:As) (l:List Vi):As where
 ok:=λF w=>o.ok F w/\∀r∈l,r.ok F w
 loc:=λh ⟨b,c⟩=>⟨o.loc h b,λr d=>r.loc h (c r d)⟩
 lt:=λ⟨b,_⟩ f=>o.lt b f
 up:=λe g ⟨b,c⟩=>⟨o.up e g b,λr d=>r.up e (c r d)⟩
structure Rd where
 ok:Bs->World->Prop
 mono:∀ {S S':Bs} {w w':World},(∀b,S b->S' b)->Lc S w w'->ok S w->ok S' w'
def rV (v:Value) (c:Ce):Rd:=⟨λS w=>c.rd S w v,c.mono⟩
def rX (vs:List Value) (cs:List Ce):Rd:=⟨λS w=>Br S w cs vs,λh c b=>U2 h c _ _ b⟩
structure Base where
 w:World
 X:Bs
 S:Bs
structure St (w0:Base) (m:List As) (rs:List Rd) (w:World):Prop where
 relx:RelX w0.X w0.w w
 base:∀b,w0.S b->b.1<w0.w.heap.size/\¬w0.X b
 ex:∃F:Bs,Sep m F w/\(∀b,F b->w0.w.heap.size<=b.1\/w0.X b)/\∀r∈rs,r.ok (λb=>(w0.S b\/w0.X b\/w0.w.heap.size<=b.1)/\b.1<w.heap.size/\¬F b) w
structure Gives (X S:Bs) (w:World) (m:List As) (rs:List Rd) (w':World):Prop where
 relx:RelX X w w'
 ex:∃F:Bs,Sep m F w'/\(∀b,F b->w.heap.size<=b.1\/X b)/\∀r∈rs,r.ok (λb=>(S b\/X b\/w.heap.size<=b.1)/\b.1<w'.heap.size/\¬F b) w'
section
variable {w0:Base} {w w':World} {m l l':List As} {rs rs':List Rd} {a a':As}
theorem St.enter{X S} (c:Sep m X w) (d:∀b,S b->b.1<w.heap.size/\¬X b):St ⟨w,X,S⟩ m [] w:=
 ⟨RelX.refl _ _,d,X,c,λ_ h=>.inr h,(λ_ h=>by cases h)⟩
theorem St.addE{X S} (h:St ⟨w,X,S⟩ m rs w){r} (q:r.ok S w):St ⟨w,X,S⟩ m (r::rs) w:=by
 obtain⟨k,f,F,n,g,o⟩:=h;refine⟨k,f,F,n,g,λj d=>?_⟩;rcases B5t.1 d with rfl|d
 ·refine j.mono (λb c=>⟨.inl c,(f b c).1,λp=>?_⟩) (Lc.refl _ _) q;have i:=f b c;rcases g b p with e|e
  ·have:b.1<w.heap.size:=i.1;have:w.heap.size<=b.1:=e;omega
  ·exact i.2 e
 ·exact o j d
theorem St.gives (h:St w0 m rs w):Gives w0.X w0.S w0.w m rs w:=⟨h.relx,h.ex⟩
theorem Gives.fewer{X S} (h:Gives X S w m rs w') (g:∀r∈rs',r∈rs):Gives X S w m rs' w':=by obtain⟨b,F,c,d,e⟩:=h;exact⟨b,F,c,d,λr f=>e r (g r f)⟩
theorem St.iso (h:St w0 (l++m) rs w) (hi:∀F,Sep l F w->Sep l' F w):St w0 (l'++m) rs w:=by
 obtain⟨f,c,F,d,g,i⟩:=h;obtain⟨F1,j,g1,g2,g3,g4,g5⟩:=d.split
 have e:=(Sep.join (hi F1 g1) g2 g3).up (F':=F) (λb c=>by
  rcases c with c|c
  ·exact g4 b c
  ·exact g5 b c) d.lt
 exact⟨f,c,F,e,g,i⟩
theorem St.perm{m'} (h:St w0 m rs w) (g:m.Perm m'):St w0 m' rs w:=by obtain⟨b,f,F,c,d,e⟩:=h;exact⟨b,f,F,c.perm g,d,e⟩
theorem St.upd (h:St w0 (l++m) rs w) (hi:∀F,Sep l F w->∃F',Sep l' F' w'/\RelX F w w'/\∀b,F' b->F b\/w.heap.size<=b.1):St w0 (l'++m) rs w':=by
 obtain⟨o,g,F,p,j,q⟩:=h;obtain⟨F1,n,g1,g2,g3,g4,g5⟩:=p.split;obtain⟨F',u,k2,k⟩:=hi F1 g1;have i:Sep m n w':=g2.loc (k2.lc λb g d=>g3 b d g)
 have s:∀b,F' b->¬n b:=λb g d=>by
  rcases k b g with f|f
  ·exact g3 b f d
  ·have:=g2.lt b d;omega
 refine⟨o.step k2 λb g=>j b (g4 b g),g,_,Sep.join u i s,λb c=>?_,λr t=>?_⟩
 ·rcases c with c|c
  ·rcases k b c with d|d
   ·exact j b (g4 b d)
   ·have:=o.size;exact .inl (by omega)
  ·exact j b (g5 b c)
 ·refine r.mono (λb c=>⟨c.1,B6w c.2.1 k2.size,λd=>?_⟩) (k2.lc λb c e=>c.2.2 (g4 b e)) (q r t);rcases d with d|d
  ·rcases k b d with f|f
   ·exact c.2.2 (g4 b f)
   ·have:=c.2.1;omega
  ·exact c.2.2 (g5 b d)
theorem St.call (h:St w0 m rs w) (d:Rel w w'):St w0 m rs w':=
 St.upd (l:=[]) (l':=[]) h λF e=>⟨F,λb c=>B6w (e b c) d.size,d.x F,λ_ c=>.inl c⟩
theorem St.fix{r} (h:St w0 (l++m) rs w) (p:∀F,Sep l F w->r.ok F w):St w0 m (r::rs) w:=by
 obtain⟨k,o,F,f,g,n⟩:=h;obtain⟨F1,i,g1,g2,g3,g4,g5⟩:=f.split;refine⟨k,o,i,g2,λb c=>g b (g5 b c),λe d=>?_⟩;rcases B5t.1 d with rfl|d
 ·refine e.mono (λb c=>⟨?_,f.lt b (g4 b c),g3 b c⟩) (Lc.refl _ _) (p F1 g1);exact .inr ((g b (g4 b c)).elim .inr .inl)
 ·exact e.mono (λb c=>⟨c.1,c.2.1,λj=>c.2.2 (g5 b j)⟩) (Lc.refl _ _) (n e d)
end
end
section
open Go.RowKit
section
variable {P:Program} {n:Nat} {env:Env} {w:World} {d:Option Tmp} {ty:TypeId} {pos:String} {af:Array Edge} {g:Option (Nat×Bool)}
theorem Asd{x v} (hx:ev env x=some v):Runs P n env w ⟨d,.move x,ty,pos,af,g⟩ v w:=λa b=>by simp[execOp,b.ev hx]
theorem Ar9{x v} (hx:ev env x=some v):Runs P n env w ⟨d,.assign x,ty,pos,af,g⟩ v w:=λa b=>by simp[execOp,b.ev hx]
theorem Buy{c x y v} (e:ev env c=some (.bool true)) (hx:ev env x=some v):Runs P n env w ⟨d,.pick c x y,ty,pos,af,g⟩ v w:=λa b=>by simp[execOp,b.ev e,b.ev hx,asBool]
theorem Bux{c x y v} (e:ev env c=some (.bool false)) (f:ev env y=some v):Runs P n env w ⟨d,.pick c x y,ty,pos,af,g⟩ v w:=λa b=>by simp[execOp,b.ev e,b.ev f,asBool]
theorem Ail{x t b} (hx:ev env x=some (.bool b)):Runs P n env w ⟨d,.unOp .not t x,ty,pos,af,g⟩ (.bool !b) w:=λa c=>by simp[execOp,c.ev hx,Op.unary]
theorem i64_in{x} (h: -9223372036854775808<=x/\x<=9223372036854775807):IntKind.i64.wrap x=x:=by have a:IntKind.i64.min= -9223372036854775808:=rfl;exact IntWalk.i64_in _ h
theorem Gd{x y t u i j} (hx:ev env x=some (.int .i64 i)) (c:ev env y=some (.int .i64 j)) (h: -9223372036854775808<=i+j/\i+j<=9223372036854775807):
  Runs P n env w ⟨d,.binOp .add t x y u,ty,pos,af,g⟩ (.int .i64 (i+j)) w:=λa b=>by
 simp[execOp,b.ev hx,b.ev c,eqGuard,binOp,Op.intArith,i64_in h]
theorem Aim{x y t u i j} (hx:ev env x=some (.int .i64 i)) (c:ev env y=some (.int .i64 j)) (h: -9223372036854775808<=i-j/\i-j<=9223372036854775807):
  Runs P n env w ⟨d,.binOp .sub t x y u,ty,pos,af,g⟩ (.int .i64 (i-j)) w:=λa b=>by
 simp[execOp,b.ev hx,b.ev c,eqGuard,binOp,Op.intArith,i64_in h]
theorem Bus{x y t u i j} (hx:ev env x=some (.int .i64 i)) (c:ev env y=some (.int .i64 j)) (h: -9223372036854775808<=i*j/\i*j<=9223372036854775807):
  Runs P n env w ⟨d,.binOp .mul t x y u,ty,pos,af,g⟩ (.int .i64 (i*j)) w:=λa b=>by
 simp[execOp,b.ev hx,b.ev c,eqGuard,binOp,Op.intArith,i64_in h]
theorem Asc{x y t u k i j} (hx:ev env x=some (.int k i)) (c:ev env y=some (.int k j)):
  Runs P n env w ⟨d,.binOp .lss t x y u,ty,pos,af,g⟩ (.bool (decide (i<j))) w:=λa b=>by
 simp[execOp,b.ev hx,b.ev c,eqGuard,binOp,Op.intCmp]
theorem Bun{x y t u k i j} (hx:ev env x=some (.int k i)) (c:ev env y=some (.int k j)):
  Runs P n env w ⟨d,.binOp .leq t x y u,ty,pos,af,g⟩ (.bool (decide (i<=j))) w:=λa b=>by
 simp[execOp,b.ev hx,b.ev c,eqGuard,binOp,Op.intCmp]
theorem Aik{x y t u k i j} (hx:ev env x=some (.int k i)) (c:ev env y=some (.int k j)):
  Runs P n env w ⟨d,.binOp .gtr t x y u,ty,pos,af,g⟩ (.bool (decide (j<i))) w:=λa b=>by
 simp[execOp,b.ev hx,b.ev c,eqGuard,binOp,Op.intCmp]
theorem Bug{x y t u k i j} (hx:ev env x=some (.int k i)) (c:ev env y=some (.int k j)):
  Runs P n env w ⟨d,.binOp .geq t x y u,ty,pos,af,g⟩ (.bool (decide (j<=i))) w:=λa b=>by
 simp[execOp,b.ev hx,b.ev c,eqGuard,binOp,Op.intCmp]
theorem R6{x y t u k i j} (hx:ev env x=some (.int k i)) (c:ev env y=some (.int k j)):
  Runs P n env w ⟨d,.binOp .eql t x y u,ty,pos,af,g⟩ (.bool (decide (i=j))) w:=λa b=>by
 simp[execOp,b.ev hx,b.ev c,eqGuard,binOp,Op.intCmp];rfl
theorem Buu{x y t u k i j} (hx:ev env x=some (.int k i)) (c:ev env y=some (.int k j)):
  Runs P n env w ⟨d,.binOp .neq t x y u,ty,pos,af,g⟩ (.bool (!decide (i=j))) w:=λa b=>by
 simp[execOp,b.ev hx,b.ev c,eqGuard,binOp,Op.intCmp];rfl
theorem A61{t} k i j (a:P.underlying t=some .bool) w:(Op.equalIn (k+1) t (.bool i) (.bool j)).run P w=.ok (i==j) w:=by simp[Op.equalIn,run_underlying a]
theorem Bua{x y t u i j} (e:P.underlying t=some .bool) (hx:ev env x=some (.bool i)) (f:ev env y=some (.bool j)):
  Runs P n env w ⟨d,.binOp .eql t x y u,ty,pos,af,g⟩ (.bool (i==j)) w:=λa b=>by
 have c:=A61 9999 i j e w;simp only[execOp,b.ev hx,b.ev f,eqGuard,binOp,Op.equal,Op.maxDepth,Sem.run_bind,Sem.run_pure];simp[c]
theorem Buv{x y t u i j} (e:P.underlying t=some .bool) (hx:ev env x=some (.bool i)) (f:ev env y=some (.bool j)):
  Runs P n env w ⟨d,.binOp .neq t x y u,ty,pos,af,g⟩ (.bool (!(i==j))) w:=λa b=>by
 have c:=A61 9999 i j e w;simp only[execOp,b.ev hx,b.ev f,eqGuard,binOp,Op.equal,Op.maxDepth,Sem.run_bind,Sem.run_pure];simp[c]
theorem Mb{x t e a0 l c} (f:P.underlying t=some (.slice e)) (hx:ev env x=some (.slice a0 l c)):
  Runs P n env w ⟨d,.call {callee:=.builtin .len,args:= #[x],argTypes:= #[t]},ty,pos,af,g⟩ (.int .i64 (l:Int)) w:=λa b=>by
 simp[execOp,resolve,invoke,builtin,b.ev hx,Builtin.len_,run_underlying f,goInt]
theorem Bum{x t s} (c:P.underlying t=some .string) (hx:ev env x=some (.string s)):
  Runs P n env w ⟨d,.call {callee:=.builtin .len,args:= #[x],argTypes:= #[t]},ty,pos,af,g⟩ (.int .i64 (s.size:Int)) w:=λa b=>by
 simp[execOp,resolve,invoke,builtin,b.ev hx,Builtin.len_,run_underlying c,goInt]
theorem Buc{x i vs v} (hx:ev env x=some (.tuple vs)) (c:vs[i]?=some v):
  Runs P n env w ⟨d,.extract x i,ty,pos,af,g⟩ v w:=λa b=>by
 simp[execOp,b.ev hx,Instr.extract,c]
theorem A6p{x a0} (hx:ev env x=some (.pointer (some a0))):Runs P n env w ⟨d,.nilCheck x,ty,pos,af,g⟩ (.pointer (some a0)) w:=λa b=>by simp[execOp,b.ev hx]
def Sz (P:Program) (t:TypeId) (a b:Nat) (z:Value):Prop:=(P.info? t).map (λi=>(i.zero,i.size,i.bytes))=some (some z,a,b)/\z.cells.size=a/\0<a
theorem Sz.info{t size a z} (h:Sz P t size a z):∃i,P.info? t=some i/\i.zero=some z/\i.size=size/\i.bytes=a:=by
 obtain⟨h,_,_⟩:=h;cases hi:P.info? t with
 |none=>simp[hi]at h
 |some i=>simp[hi]at h;exact⟨i,rfl,h.1,h.2.1,h.2.2⟩
theorem Sz.run{t size a z} (h:Sz P t size a z) w:(sizeOf t).run P w=.ok size w:=by obtain⟨i,b,_,c,_⟩:=h.info;simp[sizeOf,typeInfo,b,c]
theorem Sz.zero{t size a z} (h:Sz P t size a z) w:(zeroValue t).run P w=.ok z w:=by obtain⟨i,b,c,_⟩:=h.info;simp[zeroValue,typeInfo,b,c]
theorem A6m{x t k off b o fs f size bytes z} (j:P.underlying t=some (.struct fs)) (i:fs[k]?=some f) (ho:f.offset=off)
  (c:Sz P f.type size bytes z) (hx:ev env x=some (.pointer (some ⟨b,o,none⟩))):
  Runs P n env w ⟨d,.fieldAddr t x k,ty,pos,af,g⟩ (.pointer (some ⟨b,o+off,none⟩)) w:=λa h=>by
 have e:¬size=0:=Nat.pos_iff_ne_zero.1 c.2.2;simp[execOp,h.ev hx,Instr.fieldAt,run_underlying j,i,Instr.sureAddr,fieldPlace,c.run,e,ho,Addr.add_lit]
def Xz:TypeDesc->Bool
 |.struct _|.array _ _=>false
 |_=>true
theorem A6n{x t a0 v td} (h:P.underlying t=some td) (f:Xz td=true) (hx:ev env x=some (.pointer (some a0))) (e:w.cell? a0=some v):
  Runs P n env w ⟨d,.load t x,ty,pos,af,g⟩ v w:=λa c=>by
 have b:(isAgg t).run P w=.ok false w:=by simp only[isAgg,Sem.run_bind,run_underlying h,Result.andThen_ok];cases td<;>first|rfl|cases f
 simp only[execOp,c.ev hx,Instr.loadAt,Instr.sureAddr,loadVar,Sem.run_bind,Sem.run_pure,Result.andThen_ok,b,B6q,if_false,run_load,e]
theorem A6o{x t a0 fs size b z} {cs:List Value} (k:P.underlying t=some (.struct fs)) (i:Sz P t size b z) (hx:ev env x=some (.pointer (some a0))) (h:cs.length=size)
  (f:∀(j:Nat) u,cs[j]?=some u->w.cell? (a0.add j)=some u):
  Runs P n env w ⟨d,.load t x,ty,pos,af,g⟩ (.agg cs.toArray) w:=λa e=>by
 have c:=run_loadCells_list (P:=P) (w:=w) a0 cs f;rw[h]at c;simp[execOp,e.ev hx,Instr.loadAt,Instr.sureAddr,loadVar,isAgg,run_underlying k,i.run,c]
def RV (P:Program) (w:World) (env:Env):ResultVar->Value->Prop
 |.tmp t,v=>lk env t=some v
 |.cell a t,v=>∃b,lk env a=some (.pointer (some b))/\(loadVar t b).run P w=.ok v w
def RVs (P:Program) (w:World) (env:Env):List ResultVar->List Value->Prop
 |[],[]=>True
 |r::rs,v::vs=>RV P w env r v/\RVs P w env rs vs
 |_,_=>False
def H2:List Value->Value
 |[v]=>v
 |vs=>.tuple vs.toArray
def Acb (b:Array Value):ResultVar->Sem Value
 |.tmp t=>pure (b.getD t undef)
 |.cell a t=>do loadVar t (<-asAddr (b.getD a undef))
theorem Bvu{a} (c:Has n a env){r v} (h:RV P w env r v):(Acb a.tmps r).run P w=.ok v w:=by
 cases r with
 |tmp t=>have:=c.at' t v h;simp[Acb,B8p,this]
 |cell b t=>obtain⟨i,e,f⟩:=h;have:=c.at' b _ e;simp[Acb,B8p,this,asAddr,f]
theorem A62{a} (b:Has n a env):∀rs vs,RVs P w env rs vs->(rs.mapM (Acb a.tmps)).run P w=.ok vs w
 |[],[],_=>by simp
 |r::rs,v::vs,h=>by have c:=A62 b rs vs h.2;simp only[Cbi,Sem.run_bind,Bvu b h.1,Result.andThen_ok,c,Sem.run_pure]
 |[],_::_,h=>h.elim
 |_::_,[],h=>h.elim
theorem Bvm b a:results b a=(do
  let vs<-b.results.mapM (Acb a)
  pure (if h:vs.size=1 then vs[0]else .tuple vs)):=by
 unfold results;congr 1
theorem Bvt{fn a} (c:Has n a env){vs} (h:RVs P w env fn.results.toList vs):(results fn a.tmps).run P w=.ok (H2 vs) w:=by
 have b:=A62 (P:=P) (w:=w) c _ _ h;rw[Bvm,<-B9g (xs:=fn.results),List.mapM_toArray];simp only[Sem.run_bind,Sem.run_map,b,Result.andThen_ok,Sem.run_pure];congr 1;match vs with
 |[]=>rfl
 |[v]=>rfl
 |v::u::r=>rw[dif_neg (by simp)];rfl
def Bp (P:Program) (rs:List ResultVar) (K:Value->World->Prop):Post:=λe env w=>(e=.normal\/e=.ret)/\∃vs,RVs P w env rs vs/\K (H2 vs) w
theorem Jt{rs K} vs (h:RVs P w env rs vs) (a:K (H2 vs) w):Bp P rs K .ret env w:=⟨.inr rfl,vs,h,a⟩
theorem A12{rs K} vs (h:RVs P w env rs vs) (a:K (H2 vs) w):Bp P rs K .normal env w:=⟨.inl rfl,vs,h,a⟩
def Can (P : Program) (f : FuncId) : Prop := ∃ a, P.funcs[f]? = some a /\ (a.name == "runtime.NumGoroutine") = false /\ a.body.isNone = false
def Ret (P:Program) (f:FuncId) (vs:List Value) (w:World) (K:Value->World->Prop):Prop:=
 Can P f/\Calls P f vs.toArray w (λe w'=>∃v,e=.returned v/\K v w')
theorem Ret.mono{f vs K a} (h:Ret P f vs w K) (b:∀v w',K v w'->a v w'):Ret P f vs w a:=
 ⟨h.1,h.2.mono λ_ _ ⟨v,e,k⟩=>⟨v,e,b _ _ k⟩⟩
def T1:Nat->List Value->Env
 |_,[]=>[]
 |i,v::r=>(i,v)::T1 (i+1) r
theorem A1o:∀vs i t v,lk (T1 i vs) t=some v->i<=t/\vs[t-i]?=some v
 |[],_,_,_,h=>by cases h
 |u::r,i,t,v,h=>by
  simp only[T1,lk]at h;by_cases e:i=t
  ·subst e;simp at h;subst h;simp
  ·rw[Jn e]at h;have a:=A1o r (i+1) t v h;refine⟨by omega,?_⟩;obtain⟨k,b⟩:∃k,t-i=k+1:=⟨t-i-1,by omega⟩;rw[b,Caq];rw[show t-(i+1)=k by omega]at a;exact a.2
theorem enter{f fn c vs K} (l : P.funcs[f]? = some fn) (k : fn.body = some c) (r : fn.ntmps = n) (b : (fn.name == "runtime.NumGoroutine") = false)
  (p:B7m vs.length n=true) (h:WC P n c (Bp P fn.results.toList K) (T1 0 vs) w):Ret P f vs w K:=by
 have q:vs.length<=n:=by simpa using p
 refine⟨⟨fn,l,b,by simp[k]⟩,calls_of_wp l k ?_⟩;refine wp_mono (h _ ⟨rfl,by simp[r];omega,λt v x=>?_⟩) λe z w' s=>?_
 ·have:=A1o vs 0 t v x;simp only[Cad]at this;rw[Cab (by have:=(B55.1 this.2).1;simpa using this)];simpa using this.2
 ·obtain⟨i,a,o,y,u,m⟩:=s;have j:=Bvt a u;rcases o with rfl|rfl
  ·exact⟨a.df,_,j,_,rfl,m⟩
  ·exact⟨a.df,_,j,_,rfl,m⟩
def evs (env:Env):List Operand->Option (List Value)
 |[]=>some []
 |x::r=>match ev env x,evs env r with
  |some v,some vs=>some (v::vs)
  |_,_=>none
theorem Has.evs {a:Act} (c:Has n a env):∀(l:List Operand) (vs:List Value),evs env l=some vs->l.map a.eval=vs
 |[],vs,h=>by simp only[Go.Proofs.YtcdecpdpmpfbnaaGreatDoor.evs,B65.injEq]at h;simp[<-h]
 |x::r,vs,h=>by
  simp only[Go.Proofs.YtcdecpdpmpfbnaaGreatDoor.evs]at h;split at h
  ·rename_i v b e f;simp only[B65.injEq]at h;rw[<-h,B6r,c.ev e,Has.evs c r b f]
  ·cases h
variable {ops:Array Oper} {rest:List Oper} {Q:Post}
end
end
section
open Go.RowKit
section
variable {P:Program} {ops:Array Oper} {QA:Act->World->Prop}
def Pq:Exit->Act->World->Prop:=λ_ _ _=>False
def Hg (P:Program) (ops:Array Oper) (z:Bool) (i:Nat) (K:Act->World->Prop) (a:Act) (w:World):Prop:=
 match ops[i]? with
 |none=>False
 |some o=>if Region.wanted o (yielded ops a.tmps)then o.wp P a w (λb w'=>(z=true\/Rel w w')/\∃v,b=a.put o.dst v/\K b w') Pq else K (a.put o.dst undef) w
def Zy (ops:Array Oper):Nat->Nat->Nat->Bool
 |0,_,_=>false
 |n+1,i,j=>
  match ops[i]? with
  |none=>false
  |some o=>o.after.any λe=>Region.binds .any e&&(B5w e.on j||Zy ops n e.on j)
def Pm (o:Oper):Bool:=match o.op with
 |.move _=>true
 |_=>false
def mvB (ops:Array Oper) (j:Nat):Bool:=match ops[j]? with
 |some o=>Pm o
 |none=>false
def Gr (ops:Array Oper) (a:Array Bool) (i:Nat):Bool:=(List.range ops.size).all λj=>!(a.getD j false)||(mvB ops j||Zy ops ops.size i j)
theorem Am7{listed i j} (h:Gr ops (listed.setIfInBounds i true) j=true):Gr ops listed j=true:=by
 unfold Gr at h⊢;refine B6b.2 λq d=>?_;have b:=B6b.1 h q d;by_cases a:i=q
 ·subst a;rcases B8u i listed.size with c|c
  ·simp[c]at b;simp[b]
  ·simp[B7h c]
 ·rw[getD_set_ne false a]at b;exact b
def Down (ops:Array Oper) (a:Array Bool):Prop:=∀i o,a.getD i false=true->ops[i]?=some o->∀e∈o.after,Region.binds .any e=true->a.getD e.on false=true
theorem Ayl{listed} (d:Down ops listed):∀ {n i j:Nat} {o:Oper},Zy ops n i j=true->ops[i]?=some o->(∀e∈o.after,Region.binds .any e=true->listed.getD e.on false=true)->listed.getD j false=true
 |0,_,_,_,h,_,_=>by cases h
 |n+1,i,j,o,h,hi,ha=>by
  unfold Zy at h;simp only[hi]at h;rw[Array.any_eq_true']at h;obtain⟨e,f,b⟩:=h;simp only[B5l,B6s]at b;have c:=ha e f b.1;rcases b.2 with a|a
  ·rw[B5k a]at c;exact c
  ·cases n with
   |zero=>cases a
   |succ n=>
    cases ho:ops[e.on]? with
    |none=>unfold Zy at a;simp[ho]at a
    |some g=>exact Ayl d a ho (d _ _ c ho)
theorem Aym{i j o listed listed'} (c:Down ops listed) (h:Gr ops listed' i=true) (hi:ops[i]?=some o) (d:j<ops.size) (f:listed'.getD j false=true) (b:∀e∈o.after,Region.binds .any e=true->listed.getD e.on false=true):mvB ops j=true\/listed.getD j false=true:=by unfold Gr at h;have a:=B6b.1 h j (List.mem_range.2 d);rw[f]at a;simp only[B5o,B8v,B6s]at a;exact a.imp id λa=>Ayl c a hi b
theorem Down.set{listed} (s:Down ops listed){j} (t:j∈Region.ready .any ops listed):Down ops (listed.setIfInBounds j true):=λi o l hi e k h=>by
 have p:∀q,listed.getD q false=true->(listed.setIfInBounds j true).getD q false=true:=λq m=>by
  by_cases c:j=q
  ·subst c
   have g:j<listed.size:=by
    rcases B8u j listed.size with f|f
    ·exact f
    ·simp[B7h f]at m
   simp[g]
  ·rw[getD_set_ne false c];exact m
 by_cases b:j=i
 ·subst b;obtain⟨_,u,d,a⟩:=mem_ready.1 t;rw[hi]at d;obtain rfl:o=u:=by simpa using d
  exact p _ (a e k h)
 ·rw[getD_set_ne false b]at l;exact p _ (s i o l hi e k h)
theorem Down.init n:Down ops (B7c n false):=λi o b=>by
 rcases B8u i n with a|a
 ·simp[a]at b
 ·simp[a]at b
def Qe (P:Program) (ops:Array Oper) (QA:Act->World->Prop):Nat->Array Bool->Act->World->Prop
 |0,listed,a,w=>Region.ready .any ops listed=[]/\∀b,Rel w b->QA a b
 |k+1,listed,a,w=>(Region.ready .any ops listed=[]->∀b,Rel w b->QA a b)/\
   ∀i∈Region.ready .any ops listed,∀b,Rel w b->Hg P ops (Gr ops listed i) i (Qe P ops QA k (listed.setIfInBounds i true)) a b
theorem Auo:∀ {k:Nat} {b:Array Bool} {a:Act} {w w':World},Qe P ops QA k b a w->Rel w w'->Qe P ops QA k b a w'
 |0,_,_,_,_,h,hr=>⟨h.1,λd c=>h.2 d (hr.trans c)⟩
 |_+1,_,_,_,_,h,hr=>⟨λe d c=>h.1 e d (hr.trans c),λi hi d c=>h.2 i hi d (hr.trans c)⟩
theorem G6 {o:Oper}{a w K K' Q} (h:∀a w,K a w->K' a w) (d:o.wp P a w K Pq):o.wp P a w K' Q:=by
 unfold Oper.wp at*
 generalize (execOp a.eval o).run P w=r at*
 cases r with
 |ok m w'=>
  cases m<;>simp only[Oper.upon]at d⊢ <;>
   first
    |exact h _ _ d
    |exact Calls.mono d (λe f b=>by
      cases e with
      |returned v=>exact h _ _ b
      |panicked c=>exact(b:False).elim
      |outgrown=>obtain⟨_,_,b⟩:=b;exact(b:False).elim)
    |exact Rows.mono d (λ_ _ b=>h _ _ b)
 |halt x w'=>cases x<;>simp only[Oper.upon]at d⊢ <;>exact(d:False).elim
theorem Aum{Q} (d:∀a w,QA a w->Q .normal a w):∀k b a w,Qe P ops QA k b a w->wpAny P .any ops Q k b a w
 |0,_,_,w,h=>⟨h.1,d _ _ (h.2 w (Rel.refl w))⟩
 |k+1,b,a,w,h=>⟨λf=>d _ _ (h.1 f w (Rel.refl w)),λi hi=>by
   have c:=h.2 i hi w (Rel.refl w);unfold Hg at c;unfold wpOp;split
   ·rename_i ho;simp only[ho]at c
   ·rename_i o ho;simp only[ho]at c;split
    ·rename_i e;simp only[e,if_true]at c;exact .inl (G6 (λ_ _ ⟨_,_,_,g⟩=>Aum d k _ _ _ g) c)
    ·rename_i e;simp only[e]at c;exact Aum d k _ _ _ c⟩
def Yd (P:Program) (o:Oper) (a:Act) (w:World) (v:Value):Prop:=∀b,Rel w b->o.wp P a b (λc w'=>Rel b w'/\c=a.put o.dst v) Pq
def Mx (P:Program) (ops:Array Oper) (o:Oper) (a:Act) (w:World) (v:Value):Prop:=
 (Region.wanted o (yielded ops a.tmps)=true/\Yd P o a w v)\/(Region.wanted o (yielded ops a.tmps)=false/\v=undef)
theorem Auq {o:Oper}{a w x v} {K:Act->World->Prop} {R:World->Prop} (s:∀cs b,o.op≠ .select cs b) (l:∀d,x=some d->d∉o.looksAt ops)
  (h:o.wp P (a.put x v) w (λj w'=>R w'/\∃u,j=(a.put x v).put o.dst u/\K j w') Pq):
  o.wp P a w (λj w'=>R w'/\∃u,j=a.put o.dst u/\K ((a.put x v).put o.dst u) w') Pq:=by
 unfold Oper.wp at*
 rw[execOp_put o s a x v l]at h;generalize (execOp a.eval o).run P w=r at*
 cases r with
 |ok m w'=>
  cases m<;>simp only[Oper.upon]at h⊢
  case value u=>obtain⟨g,_,_,i⟩:=h;exact⟨g,u,rfl,i⟩
  case skip=>obtain⟨g,_,_,i⟩:=h;exact⟨g,undef,rfl,i⟩
  case defer dd=>
   obtain⟨g,z,p,i⟩:=h;have:=congrArg (λb:Act=>b.defers.length) p;have q:∀(b:Act) (y:Option Tmp) (u:Value),(b.put y u).defers=b.defers:=λb y u=>by cases y<;>rfl
   simp[q]at this
  case enter f args=>
   refine Calls.mono h λe t k=>?_;cases e with
   |returned u=>obtain⟨g,_,_,i⟩:=k;exact⟨g,u,rfl,i⟩
   |panicked c=>exact k
   |outgrown=>exact k
  case row row args=>exact Rows.mono h λu _ ⟨g,_,_,i⟩=>⟨g,u,rfl,i⟩
 |halt y w'=>cases y<;>simp only[Oper.upon]at h⊢ <;>exact h
theorem Zw{z i o a w b v K} (hi:ops[i]?=some o) (j:Mx P ops o a w v) (g:Rel w b) (h:∀w',Rel b w'->K (a.put o.dst v) w'):Hg P ops z i K a b:=by
 unfold Hg;simp only[hi];rcases j with⟨c,f⟩|⟨c,rfl⟩
 ·simp only[c,if_true];exact G6 (λk w' ⟨d,e⟩=>⟨.inr d,v,e,e▸h w' d⟩) (f b g)
 ·simp only[c,B6q,if_false];exact h b (Rel.refl b)
theorem Ab2{o a w w' x u v} (B:∀cs b,o.op≠ .select cs b) (t:∀d,x=some d->d∉o.looksAt ops) (q:∀d,x=some d->o.dst≠some d)
  (h:Yd P o a w v) (A:Rel w w'):Yd P o (a.put x u) w' v:=λs l=>by
 have i:=h s (A.trans l);unfold Oper.wp at*
 rw[execOp_put o B a x u t];generalize (execOp a.eval o).run P s=r at*
 have g:∀j,a.put o.dst j=a.put o.dst v->(a.put x u).put o.dst j=(a.put x u).put o.dst v:=λj k=>by rw[Act.put_comm a u j q,Act.put_comm a u v q,k]
 cases r with
 |ok m C=>
  cases m<;>simp only[Oper.upon]at i⊢
  case value j=>exact⟨i.1,g j i.2⟩
  case skip=>exact⟨i.1,g undef i.2⟩
  case defer dd=>
   have:=congrArg (λb:Act=>b.defers.length) i.2;have z:∀(b:Act) (y:Option Tmp) (u:Value),(b.put y u).defers=b.defers:=λb y u=>by cases y<;>rfl
   simp[z]at this
  case enter f args=>
   refine Calls.mono i λe p k=>?_;cases e with
   |returned j=>exact⟨k.1,g j k.2⟩
   |panicked c=>exact k
   |outgrown=>exact k
  case row row args=>exact Rows.mono i λj p k=>⟨k.1,g j k.2⟩
 |halt y C=>cases y<;>simp only[Oper.upon]at i⊢ <;>exact i
theorem A6k{o a w w' v} (b:Pm o=true) (h:Yd P o a w v):Yd P o a w' v:=λi _=>by
 have c:=h w (Rel.refl w);unfold Pm at b;split at b
 ·rename_i x hx;unfold Oper.wp at*
  have e:∀w,(execOp a.eval o).run P w=.ok (.value (a.eval x)) w:=λw=>by obtain⟨d,f,ty,pos,af,g⟩:=o;simp only at hx;subst hx;simp[execOp]
  rw[e]at c⊢;exact⟨Rel.refl _,c.2⟩
 ·cases b
theorem B4u{i o v} (hi:ops[i]?=some o) (C:∀(j:Nat) (o:Oper) cs b,ops[j]?=some o->o.op≠ .select cs b):
  ∀k c a w,Down ops c->
   (∀j l,ops[j]?=some l->j≠i->c.getD j true=false->(∀e∈l.after,Region.binds .any e=true->e.on≠i)->o.apart ops l=true)->
   i∈Region.ready .any ops c->Mx P ops o a w v->
   Qe P ops QA k (c.setIfInBounds i true) (a.put o.dst v) w->Qe P ops QA (k+1) c a w:=by
 intro k;induction k with
 |zero=>
  intro c a w _ _ B O H;refine⟨λh=>(by rw[h]at B;cases B),λj S K g=>?_⟩;by_cases f:j=i
  ·subst f;exact Zw hi O g λw' I=>Auo H (g.trans I)
  ·have:=ready_mono S f;rw[H.1]at this;cases this
 |succ k ih=>
  intro c a w M p B O H;refine⟨λh=>(by rw[h]at B;cases B),λj S K g=>?_⟩;by_cases f:j=i
  ·subst f;exact Zw hi O g λw' I=>Auo H (g.trans I)
  ·have F:=H.2 j (ready_mono S f) K g;obtain⟨A,l,t,z⟩:=mem_ready.1 S
   have U:∀e∈l.after,Region.binds .any e=true->e.on≠i:=λe he hb a3=>by
    have g:=z e he hb;have h0:=(mem_ready.1 B).1;rw[a3]at g;rcases B8u i c.size with y|y
    ·simp[y]at h0 g;rw[h0]at g;cases g
    ·simp[B7h y]at g
   have a2:=p j l t f A U
   have a5:Gr ops (c.setIfInBounds i true) j=true->Pm o=true:=λhl=>by
    have h9:=(mem_ready.1 B).1;rcases B8u i c.size with y|y
    ·rcases Aym M hl t ((B9e.1 hi).1) (by simp[y]) z with L|L
     ·unfold mvB at L;simpa only[hi]using L
     ·simp[y]at L h9;rw[h9]at L;cases L
    ·simp[B7h y]at h9
   obtain⟨p1,p2,p3⟩:=Oper.apart_spec a2
   have s:∀m Y,ops[m]?=some Y->m≠i->(c.setIfInBounds j true).getD m true=false->
     (∀e∈Y.after,Region.binds .any e=true->e.on≠i)->o.apart ops Y=true:=λm Y hm a4 W a6=>by
    refine p m Y hm a4 ?_ a6;by_cases T:j=m
    ·subst T;exact A
    ·rw[getD_set_ne true T]at W;exact W
   have V:=λcs b=>C i o cs b hi;have a7:=λcs b=>C j l cs b t
   have X:∀u x,(Pm o=true\/Rel K x)->Mx P ops o (a.put l.dst u) x v:=λu x q=>by
    unfold Mx at*
    rw[wanted_put o a l.dst u p3];rcases O with⟨N,hq⟩|O
    ·rcases q with q|q
     ·exact .inl ⟨N,A6k q (Ab2 V p3 (λd M=>λG=>p2 d G M) hq (Rel.refl w))⟩
     ·exact .inl ⟨N,Ab2 V p3 (λd M=>λG=>p2 d G M) hq (g.trans q)⟩
    ·exact .inr O
   have D:∀u x,(Pm o=true\/Rel K x)->Qe P ops QA k ((c.setIfInBounds i true).setIfInBounds j true) ((a.put o.dst v).put l.dst u) x->Qe P ops QA (k+1) (c.setIfInBounds j true) (a.put l.dst u) x:=λu x q h4=>by refine ih (c.setIfInBounds j true) _ _ (M.set S) s (ready_mono B (Ne.symm f)) (X u x q) ?_;rw[B9j _ _ f,<-Act.put_comm a v u p2];exact h4
   unfold Hg at F⊢;simp only[t]at F⊢;rw[wanted_put l a o.dst v p1]at F;split
   ·rename_i N;simp only[N,if_true]at F;exact G6 (λa' w' ⟨q,u,h4,h5⟩=>⟨q.imp Am7 id,u,h4,h4▸D u w' (q.imp a5 id) h5⟩) (Auq (R:=λw'=>Gr ops (c.setIfInBounds i true) j=true\/Rel K w') a7 p1 F)
   ·rename_i N;simp only[N]at F;exact D undef K (.inr (Rel.refl K)) F
def wpO (P:Program) (ops:Array Oper) (QA:Act->World->Prop):List (Oper×Nat)->Act->World->Prop
 |[],a,w=>∀b,Rel w b->QA a b
 |(o,0)::r,a,w=>∃v,Mx P ops o a w v/\wpO P ops QA r (a.put o.dst v) w
 |(o,f+1)::r,a,w=>(Region.wanted o (yielded ops a.tmps)=true/\∀b,Rel w b->o.wp P a b (λc w'=>(B5w f 1=true\/Rel b w')/\∃v,c=a.put o.dst v/\wpO P ops QA r c w') Pq)\/
   (Region.wanted o (yielded ops a.tmps)=false/\∀b,Rel w b->wpO P ops QA r (a.put o.dst undef) b)
def Rz (ops:Array Oper):List (Nat×Nat)->Array Bool->Bool
 |[],listed=>(Region.ready .any ops listed).isEmpty
 |(k,f)::r,listed=>(match f with
  |0=>(Region.ready .any ops listed).contains k&&Region.free .any ops listed k
  |f+1=>Region.ready .any ops listed==[k]&&(!B5w f 1||Gr ops listed k))&&Rz ops r (listed.setIfInBounds k true)
theorem Aj5 (t:Region.noSelect ops=true):∀e l b a w,Down ops b->
  e.map (λk=>(ops[k.1]?.map λo=>(o,k.2)))=l.map some->Rz ops e b=true->wpO P ops QA l a w->Qe P ops QA e.length b a w
 |[],[],_,_,_,_,_,hB,h=>⟨by simpa [Rz]using hB,h⟩
 |[],_::_,_,_,_,_,d,_,_=>by simp at d
 |_::_,[],_,_,_,_,d,_,_=>by simp at d
 |(k,f)::e,(o,f')::l,b,a,w,hd,d,hB,h=>by
  simp only[B6r,List.cons.injEq]at d;obtain⟨q,d⟩:=d
  have ho:ops[k]?=some o/\f=f':=by
   cases A:ops[k]? with
   |none=>simp[A]at q
   |some G=>simp[A]at q;exact⟨by rw[q.1],q.2⟩
  obtain⟨ho,rfl⟩:=ho;simp only[Rz,B5l]at hB;obtain⟨c,g⟩:=hB;cases f with
  |zero=>
   simp only[B5l]at c;obtain⟨v,F,m⟩:=h;have p:k∈Region.ready .any ops b:=by simpa using c.1
   exact B4u ho (Region.noSelect_spec t) e.length b a w hd (Region.free_spec ho c.2) p F (Aj5 t e l _ _ _ (hd.set p) d g m)
  |succ f=>
   simp only[B5l]at c;have s:Region.ready .any ops b=[k]:=by simpa using c.1
   refine⟨(λy=>by rw[s]at y;cases y),λi hi B z=>?_⟩;rw[s]at hi;have u:i=k:=by simpa using hi
   subst u;unfold Hg;rcases h with⟨x,m⟩|⟨x,m⟩
   rotate_left
   ·simp only[ho,x,B6q,if_false];exact Aj5 t e l _ _ _ (hd.set (by rw[s];simp)) d g (m B z)
   simp only[ho,x,if_true];refine G6 (λ_ _ ⟨j,v,C,D⟩=>⟨?_,v,C,Aj5 t e l _ _ _ (hd.set (by rw[s];simp)) d g D⟩) (m B z);rcases j with j|j
   ·left;have:=c.2;rw[j]at this;simpa using this
   ·exact .inr j
end
section
variable {P:Program} {n:Nat} {ops:Array Oper} {Q:Post} {env:Env} {w:World} {r:List (Oper×Nat)} {ty:TypeId} {pos:String} {af:Array Edge}
def WO (P:Program) (n:Nat) (ops:Array Oper) (Q:Post) (l:List (Oper×Nat)) (env:Env) (w:World):Prop:=
 ∀a,Has n a env->wpO P ops (λa w=>Nv n Q .normal a w) l a w
def K0 (l:List Oper):List (Nat×Nat)->List (Oper×Nat)
 |[]=>[]
 |k::ks=>match l[k.1]? with
  |some o=>(o,k.2)::K0 l ks
  |none=>K0 l ks
theorem A5i l:∀a,(a.all λk=>B63 k.1 l.length)=true->a.map (λk=>(l.toArray[k.1]?.map λo=>(o,k.2)))=(K0 l a).map some
 |[],_=>rfl
 |k::a,h=>by
  simp only[B7s,B5l]at h;have b:k.1<l.length:=by simpa using h.1
  simp only[B6r,K0,B9c,B5p b,B77];rw[<-A5i l a h.2];simp
theorem Sq{id l} b (j:P.follows .mixedOrders=true) (m:Region.noSelect l.toArray=true) (i:B5w b.length l.length=true)
  (e:Rz l.toArray b (B7c l.length false)=true) (g:(b.all λk=>B63 k.1 l.length)=true) (h:WO P n l.toArray Q (K0 l b) env w):WC P n (.region id l.toArray true) Q env w:=λa f=>by
 refine wp_region_any j (Aum (QA:=λa w=>Nv n Q .normal a w) (λ_ _ h=>h) _ _ _ _ ?_);have c:b.length=l.length:=B5k i;have d:=Aj5 m b (K0 l b) (B7c l.length false) a w (Down.init _) (A5i l b g) e (h a f);rw[c]at d;simpa using Auo d (Rel.drew (Rel.refl w))
theorem A4u (h:∀a,Rel w a->Q .normal env a):WO P n ops Q [] env w:=λ_ c a b=>⟨env,c,h a b⟩
theorem ov{d op v} (f:B63 d n=true) (g:∀b,Rel w b->Runs P n env b ⟨some d,op,ty,pos,af,none⟩ v b)
  (h:WO P n ops Q r ((d,v)::env) w):WO P n ops Q ((⟨some d,op,ty,pos,af,none⟩,0)::r) env w:=λa c=>
 ⟨v,.inl ⟨rfl,λb e=>by unfold Oper.wp;rw[g b e a c];exact⟨Rel.refl b,rfl⟩⟩,h _ (c.put f v)⟩
theorem call_wp {d:Nat}{f args ats vs K gu a} (i:Has n a env) (p:evs env args=some vs) (k:Ret P f vs w K){N} (h:∀v w',K v w'->N (a.put (some d) v) w'):Oper.wp P ⟨some d,.call {callee:=.value (.func f),args:=args.toArray,argTypes:=ats},ty,pos,af,gu⟩ a w N Pq:=by
 obtain⟨⟨q,m,c,j⟩,b⟩:=k;have g:(execOp a.eval ⟨some d,.call {callee:=.value (.func f),args:=args.toArray,argTypes:=ats},ty,pos,af,gu⟩).run P w=.ok (.enter f vs.toArray) w:=by simp only[execOp,resolve,Act.eval,Deferred.ofValue,invoke,callFunc,Sem.run_bind,Sem.run_pure,Result.andThen_ok,run_program,m,c,j,B93,i.evs _ _ p];simp
 unfold Oper.wp;rw[g];exact b.mono λe w' ⟨v,l,o⟩=>by subst l;exact h v w' o
def Ex (P:Program) (n:Nat) (env:Env) (w:World) (o:Oper) (K:Value->World->Prop):Prop:=∃v w',Runs P n env w o v w'/\K v w'
def ExU (P:Program) (n:Nat) (env:Env) (w:World) (o:Oper) (K:World->Prop):Prop:=∃w',RunsU P n env w o w'/\K w'
theorem Ld{d op l} (a:B63 d n=true) (h:Ex P n env w ⟨some d,op,ty,pos,af,none⟩ λv w'=>WL P n ops l Q ((d,v)::env) w'):WL P n ops (⟨some d,op,ty,pos,af,none⟩::l) Q env w:=by obtain⟨v,w',c,b⟩:=h;exact wv a c b
theorem Um{d op} (f:B63 d n=true) (h:∀b,Rel w b->Ex P n env b ⟨some d,op,ty,pos,af,none⟩ λv w'=>WO P n ops Q r ((d,v)::env) w'):WO P n ops Q ((⟨some d,op,ty,pos,af,none⟩,2)::r) env w:=λa c=>
 .inl ⟨rfl,λb e=>by
  obtain⟨v,w',i,g⟩:=h b e;unfold Oper.wp;rw[i a c];exact⟨.inl rfl,v,rfl,g _ (c.put f v)⟩⟩
end
end
section
open Go.RowKit
section
variable {P:Program} {n:Nat} {ops:Array Oper} {l rest:List Oper} {Q:Post} {env:Env} {w w':World} {r:List (Oper×Nat)} {ty:TypeId} {pos:String} {af:Array Edge}
theorem Runs.lose{o v env0} (h:Runs P n env w o v w') (c:Cov env0 env):Runs P n env0 w o v w':=λa b=>h a (b.lose c.sub)
def Ud (b:Bool):Value->Bool
 |.bool c=>c==b
 |_=>false
theorem B4n{o a} (d:Has n a env){j b c} (f:gd ops env j=some (.bool c)) (e:c=b) (ho:o.guard=some (j,b)):Region.wanted o (yielded ops a.tmps)=true:=by simp[Region.wanted,ho,Bgc d f,e]
theorem Aua{o a} (h:Has n a env){j b u} (c:gd ops env j=some u) (i:Ud b u=false) (ho:o.guard=some (j,b)):Region.wanted o (yielded ops a.tmps)=false:=by
 have g:yielded ops a.tmps j≠some b:=by
  unfold gd at c;unfold yielded;cases f:ops[j]? with
  |none=>simp[f]at c
  |some p=>
   simp only[f,B5i]at c⊢;cases e:p.dst with
   |none=>simp[e]at c
   |some d=>simp only[e,B5i]at c⊢;rw[h.at' d _ c];cases u<;>first|(simp;done)|(simpa [Ud]using i)
 simpa [Region.wanted,ho]using g
theorem gv{d op j b c v} (f:gd ops env j=some (.bool c)) (a:c=b) (e:B63 d n=true)
  (g:Runs P n env w ⟨some d,op,ty,pos,af,some (j,b)⟩ v w')
  (h:WL P n ops rest Q ((d,v)::env) w'):WL P n ops (⟨some d,op,ty,pos,af,some (j,b)⟩::rest) Q env w:=wvg (by rw[f,a]) e g h
theorem gs{d op j b u} (g:gd ops env j=some u) (e:Ud b u=false) (f:B63 d n=true)
  (h:WL P n ops rest Q ((d,undef)::env) w):WL P n ops (⟨some d,op,ty,pos,af,some (j,b)⟩::rest) Q env w:=λa c=>by
 unfold wpList;rw[if_neg (by rw[Aua c g e rfl];exact Bool.false_ne_true)];exact h _ (c.put f undef)
end
end
section
open Go.RowKit
section
variable {P:Program} {n:Nat} {Q:Post} {env:Env} {w:World} {c:Code} {i id:Nat}
theorem G4 (h:WC P n c Q env w):sq P n c Q .normal env w:=h
theorem Og (h:Q .ret env w):sq P n c Q .ret env w:=h
end
end
section
open Go.RowKit
def iw (x:Int):Int:=IntKind.i64.wrap x
def Anf (x y:Int):Int:=IntKind.i64.wrap ((BitVec.ofInt 64 x&&&BitVec.ofInt 64 y).toNat:Int)
def Gt (x y:Int):Int:=IntKind.i64.wrap ((BitVec.ofInt 64 x^^^BitVec.ofInt 64 y).toNat:Int)
def Ang (x y:Int):Int:=x.fdiv (2^(min y.toNat 64))
section
variable {P:Program} {n:Nat} {env:Env} {w:World} {d:Option Tmp} {ty:TypeId} {pos:String} {af:Array Edge} {g:Option (Nat×Bool)}
theorem Bt3{x y t u i j} (hx:ev env x=some (.int .i64 i)) (c:ev env y=some (.int .i64 j)):
  Runs P n env w ⟨d,.binOp .add t x y u,ty,pos,af,g⟩ (.int .i64 (iw (i+j))) w:=λa b=>by
 simp[execOp,b.ev hx,b.ev c,eqGuard,binOp,Op.intArith,iw]
theorem But{x y t u i j} (hx:ev env x=some (.int .i64 i)) (c:ev env y=some (.int .i64 j)):
  Runs P n env w ⟨d,.binOp .mul t x y u,ty,pos,af,g⟩ (.int .i64 (iw (i*j))) w:=λa b=>by
 simp[execOp,b.ev hx,b.ev c,eqGuard,binOp,Op.intArith,iw]
theorem Bt4{x y t u i j} (hx:ev env x=some (.int .i64 i)) (c:ev env y=some (.int .i64 j)):
  Runs P n env w ⟨d,.binOp .and t x y u,ty,pos,af,g⟩ (.int .i64 (Anf i j)) w:=λa b=>by
 simp[execOp,b.ev hx,b.ev c,eqGuard,binOp,Op.intBits,Anf,IntKind.bits,-BitVec.toNat_and,-BitVec.toNat_ofInt];rfl
theorem Bvd{x y t u i j} (hx:ev env x=some (.int .i64 i)) (c:ev env y=some (.int .i64 j)):
  Runs P n env w ⟨d,.binOp .xor t x y u,ty,pos,af,g⟩ (.int .i64 (Gt i j)) w:=λa b=>by
 simp[execOp,b.ev hx,b.ev c,eqGuard,binOp,Op.intBits,Gt,IntKind.bits,-BitVec.toNat_xor,-BitVec.toNat_ofInt];rfl
theorem Bu1{x y t u k i j} (hx:ev env x=some (.int .i64 i)) (c:ev env y=some (.int k j)) (e:0<=j):
  Runs P n env w ⟨d,.binOp .shr t x y u,ty,pos,af,g⟩ (.int .i64 (Ang i j)) w:=λa b=>by
 simp[execOp,b.ev hx,b.ev c,eqGuard,binOp,Op.shift,Ang,IntKind.bits,show¬j<0 by omega]
theorem Bu0{x y t u i j} (hx:ev env x=some (.int .i64 i)) (c:ev env y=some (.int .i64 j)) (h:0<=i/\0<j):
  Runs P n env w ⟨d,.binOp .rem t x y u,ty,pos,af,g⟩ (.int .i64 (i % j)) w:=λa b=>by
 simp[execOp,b.ev hx,b.ev c,eqGuard,binOp,Op.intDiv,show¬j=0 by omega,Int.tmod_eq_emod_of_nonneg h.1]
theorem Buz{x y t u i j} (hx:ev env x=some (.int .i64 i)) (c:ev env y=some (.int .i64 j)) (h:0<=i/\i<=9223372036854775807/\0<j):
  Runs P n env w ⟨d,.binOp .quo t x y u,ty,pos,af,g⟩ (.int .i64 (i/j)) w:=λa b=>by
 have e:0<=i/j:=Int.ediv_nonneg h.1 (by omega);have f:i/j<=i:=Int.ediv_le_self _ h.1;simp[execOp,b.ev hx,b.ev c,eqGuard,binOp,Op.intDiv,show¬j=0 by omega,Int.tdiv_eq_ediv_of_nonneg h.1,i64_in (x:=i/j) (by omega)]
theorem Bt8{x s t k k' td i} (c:P.underlying s=some td) (e:P.underlying t=some (.int k)) (hx:ev env x=some (.int k' i)) (h:k.wrap i=i):
  Runs P n env w ⟨d,.convert s t x,ty,pos,af,g⟩ (.int k i) w:=λa b=>by
 simp[execOp,b.ev hx,convert,run_underlying c,run_underlying e,Conv.intToInt,h]
end
section
variable {P:Program} {n:Nat} {env:Env} {w:World} {ty:TypeId} {pos:String} {af:Array Edge} {ops:Array Oper} {rest:List Oper} {Q:Post}
end
structure Sv where
 p:Option Addr
 n:Nat
 c:Nat
def Sv.v (s:Sv):Value:=.slice s.p s.n s.c
end
section
open Go.RowKit
def el {T:Type} [Inhabited T] (L:List T) (i:Nat):T:=L.getD i default
theorem Gb{T} [Inhabited T] {L:List T}{i} h:el L i=L[i]:=by unfold el;rw[B6n,B5p h];rfl
theorem A1f{T} [Inhabited T] x (L:List T) i:el (x::L) (i+1)=el L i:=rfl
theorem Ic {T A:Type}{k} {f:T->List A} (a:∀x,(f x).length=k):∀L:List T,(L.flatMap f).length=L.length*k
 |[]=>by simp
 |x::L=>by rw[B6h,B5m,a,Ic a L,B5q,B61];omega
theorem Agn {T A:Type} [Inhabited T]{k} {f:T->List A} (a:∀x,(f x).length=k):∀L i j,i<L.length->j<k->(L.flatMap f)[i*k+j]?=(f (el L i))[j]?
 |[],i,j,hi,_=>by simp at hi
 |x::L,0,j,_,hj=>by rw[B6h,B7n,B7x,B6p (by rw[a];exact hj)];rfl
 |x::L,i+1,j,hi,hj=>by rw[B6h,B64 (by rw[a,B61];omega),a];rw[show(i+1)*k+j-k=i*k+j by rw[B61];omega];rw[Agn a L i j (by simpa using hi) hj];rfl
theorem Ago {T A:Type} [Inhabited T]{k f} (a:∀x,(f x).length=k):∀(L:List T) (i j:Nat) (u:A) (y:T),i<L.length->j<k->f y=(f (el L i)).set j u->(L.set i y).flatMap f=(L.flatMap f).set (i*k+j) u
 |[],i,j,_,_,hi,_,_=>by simp at hi
 |x::L,0,j,u,y,_,hj,hx=>by have b:f y=(f x).set j u:=hx;rw[B6h,B7n,B7x,List.set_append_left _ _ (by rw[a];exact hj),B7r,B6h,b]
 |x::L,i+1,j,u,y,hi,hj,hx=>by rw[B6h,B7y _ _ (by rw[a,B61];omega),a,B80,B6h];rw[show(i+1)*k+j-k=i*k+j by rw[B61];omega];rw[Ago a L i j u y (by simpa using hi) hj hx]
def Ch:Value->Nat->Addr
 |.slice (some a) _ _,j=>⟨a.block,a.off+j,none⟩
 |_,_=>⟨0,0,none⟩
def al (w:World):Bs:=λb=>b.1<w.heap.size
section
variable {w0:Base} {w w':World} {m l l':List As} {rs:List Rd} {c:Ce} {v:Value} {S:Bs}
theorem St.seeR (h:St w0 m rs w) (i:rV v c∈rs):c.rd (al w) w v:=by obtain⟨_,_,F,_,_,a⟩:=h;exact c.mono (λb e=>e.2.1) (Lc.refl _ _) (a _ i)
theorem Sep.mem{F a}:∀ {m:List As},Sep m F w->a∈m->∃F',(∀b,F' b->F b)/\a.ok F' w
 |c::m,⟨_,F1,F2,h1,h2,_,h4,h5⟩,e=>by
  rcases B5t.1 e with rfl|e
  ·exact⟨F1,h4,h1⟩
  ·obtain⟨F',h,i⟩:=h2.mem e;exact⟨F',λb j=>h5 b (h b j),i⟩
theorem St.at' (h:St w0 m rs w){a} (i:a∈m):∃F,a.ok F w:=by obtain⟨_,_,F,e,_,_⟩:=h;obtain⟨F',_,b⟩:=e.mem i;exact⟨F',b⟩
theorem St.seeO (h:St w0 m rs w) (i:oC c v∈m):c.rd (al w) w v:=by obtain⟨F,a⟩:=h.at' i;exact c.mono (λb e=>c.lt a e) (Lc.refl _ _) (c.seen a)
theorem St.seeOV (h:St w0 m rs w){l} (i:oV (oC c v) l∈m):c.rd (al w) w v:=by obtain⟨F,a,_⟩:=h.at' i;exact c.mono (λb e=>c.lt a e) (Lc.refl _ _) (c.seen a)
theorem St.seeV (h:St w0 m rs w){o l} (j:oV o l∈m) (p:vR v c∈l):c.rd (al w) w v:=by obtain⟨F,e,a⟩:=h.at' j;exact c.mono (λb i=>o.lt e i) (Lc.refl _ _) (a _ p)
variable {T:Type} {k:Nat} {f:T->List Ce} {L:List T}
theorem Cs.form (h:(Ac k f L).rd S w v):∃s:Sv,v=s.v/\s.n=L.length/\L.length<=s.c/\s.c<=maxLen:=by obtain⟨a,cap,rfl,b,e,_⟩:=h;exact⟨⟨a,_,cap⟩,rfl,rfl,b,e⟩
theorem Cs.sv (h:(Ac k f L).rd S w v):∃s:Sv,v=s.v:=by obtain⟨s,h,_⟩:=Cs.form h;exact⟨s,h⟩
theorem Cs.le (h:(Ac k f L).rd S w v):(L.length:Int)<=9223372036854775807:=by obtain⟨s,_,b,e,a⟩:=Cs.form h;simp only[maxLen]at a;omega
theorem Cs.ptr (h:(Ac k f L).rd S w v){i} (hi:i<L.length):∃b off j cap,v=.slice (some ⟨b,off,none⟩) j cap:=by obtain⟨a,cap,rfl,p,q,o⟩:=h;obtain⟨b,off,xs,rfl,_⟩:=o (by intro e;subst e;simp at hi);exact⟨b,off,_,_,rfl⟩
theorem Cs.at' [Inhabited T] (h:(Ac k f L).rd S w v) (r:∀x,(f x).length=k){i j} (hi:i<L.length) (q:(f (el L i))[j]?=some c):∃u,w.cell? (Ch v (i*k+j))=some u/\c.rd S w u/\S ((Ch v (i*k+j)).block,(Ch v (i*k+j)).off)/\(Ch v (i*k+j)).spot=none:=by
 obtain⟨a,cap,rfl,B,C,s⟩:=h;obtain⟨b,off,xs,rfl,y,D,hx,A⟩:=s (by intro e;subst e;simp at hi);have z:j<k:=by have:=(B55.1 q).1;rwa [r]at this
 have t:(L.flatMap f)[i*k+j]?=some c:=by rw[Agn r L i j hi z];exact q
 obtain⟨u,hu,o⟩:=Aio A t;have p:i*k+j<L.length*k:=by have:=B5v k (Nat.succ_le_of_lt hi);rw[Nat.succ_mul]at this;omega
 exact⟨u,by simpa [Ch]using hx _ u hu,o,y _ p,rfl⟩
theorem Cs.get [Inhabited T] (h:(Ac k f L).rd S w v) (o:∀x,(f x).length=k){i j u hu} (hi:i<L.length) (e:(f (el L i))[j]?=some (cV u hu)):w.cell? (Ch v (i*k+j))=some u:=by obtain⟨p,a,b,_⟩:=Cs.at' h o hi e;have:p=u:=b;rw[<-this];exact a
theorem rVg{c v S w} (h:(rV v c).ok S w):c.rd S w v:=h
theorem vRg{c v S w} (h:(vR v c).ok S w):c.rd S w v:=h
theorem St.leaf [Inhabited T]{T' k' f'} {L':List T'} (h:St w0 m rs w) (z:rV v (Ac k f L)∈rs) (y:∀x,(f x).length=k){i j} (hi:i<L.length) (t:(f (el L i))[j]?=some (Ac k' f' L')):
  ∃s:Sv,St w0 m (rV s.v (Ac k' f' L')::rs) w/\∀w1,Rel w w1->w1.cell? (Ch v (i*k+j))=some s.v:=by
 obtain⟨e,q,F,o,p,b⟩:=h;obtain⟨u,g1,g2,g3⟩:=Cs.at' (rVg (b _ z)) y hi t;obtain⟨s,rfl⟩:=Cs.sv g2;refine⟨s,⟨e,q,F,o,p,λr a=>?_⟩,λw1 A=>(A.cell g3.1.2.1).trans g1⟩;rcases B5t.1 a with rfl|a
 ·exact g2
 ·exact b r a
theorem St.leafV [Inhabited T]{T' k' f'} {L':List T'}{vl} (h:St w0 (oV (oC (Ac k f L) v) vl::m) rs w) (B:∀x,(f x).length=k){i j} (hi:i<L.length) (A:(f (el L i))[j]?=some (Ac k' f' L')):
  ∃s:Sv,St w0 (oV (oC (Ac k f L) v) (vR s.v (Ac k' f' L')::vC (Ch v (i*k+j)) s.v::vl)::m) rs w/\∀w1,Rel w w1->w1.cell? (Ch v (i*k+j))=some s.v:=by
 obtain⟨q,z,F,⟨e,F1,p,⟨g1,gv⟩,g2,g3,g4,g5⟩,t,y⟩:=h;obtain⟨u,o,k2,b⟩:=Cs.at' ((Ac k f L).seen g1) B hi A;obtain⟨s,rfl⟩:=Cs.sv k2;refine⟨s,⟨q,z,F,⟨e,F1,p,⟨g1,λr a=>?_⟩,g2,g3,g4,g5⟩,t,y⟩,λw1 C=>(C.cell (e _ (g4 _ b.1))).trans o⟩;rcases B5t.1 a with rfl|a
 ·exact k2
 rcases B5t.1 a with rfl|a
 ·exact⟨b.1,b.2,o⟩
 ·exact gv r a
theorem St.unview{o vl} (h:St w0 (oV o vl::m) rs w):St w0 (o::m) rs w:=
 St.iso (l:=[oV o vl]) (l':=[o]) h λ_ ⟨b,F1,a,⟨e,_⟩,h⟩=>⟨b,F1,a,e,h⟩
theorem St.leafW [Inhabited T]{T' k' f'} {L':List T'}{o vl} (h:St w0 (oV o vl::m) rs w) (B:vR v (Ac k f L)∈vl) (A:∀x,(f x).length=k){i j} (hi:i<L.length) (z:(f (el L i))[j]?=some (Ac k' f' L')):
  ∃s:Sv,St w0 (oV o (vR s.v (Ac k' f' L')::vl)::m) rs w/\∀w1,Rel w w1->w1.cell? (Ch v (i*k+j))=some s.v:=by
 obtain⟨p,y,F,⟨b,F1,e,⟨g1,gv⟩,g2,g3,g4,g5⟩,q,t⟩:=h;obtain⟨u,D,k2,G⟩:=Cs.at' (vRg (gv _ B)) A hi z;obtain⟨s,rfl⟩:=Cs.sv k2;refine⟨s,⟨p,y,F,⟨b,F1,e,⟨g1,λr a=>?_⟩,g2,g3,g4,g5⟩,q,t⟩,λw1 C=>(C.cell (b _ (g4 _ G.1))).trans D⟩;rcases B5t.1 a with rfl|a
 ·exact k2
 ·exact gv r a
def Sv.cut (s:Sv) (k a hi:Nat):Sv:=⟨if s.c-a=0 then s.p else s.p.map (·.add (a*k)),hi-a,s.c-a⟩
theorem Xf {A:Type} {f:T->List A} (a:∀x,(f x).length=k):∀(L:List T) (i:Nat),(L.take i).flatMap f=(L.flatMap f).take (i*k)
 |[],i=>by simp
 |x::L,0=>by simp
 |x::L,i+1=>by rw[B97,B6h,Xf a L i,B6h,B9i,a,B7a (l:=f x) (by rw[a,B61];omega)];congr 2;rw[B61];omega
theorem Agm {A:Type} {f:T->List A} (a:∀x,(f x).length=k):∀(L:List T) (i:Nat),(L.drop i).flatMap f=(L.flatMap f).drop (i*k)
 |[],i=>by simp
 |x::L,0=>by simp
 |x::L,i+1=>by rw[B8a,Agm a L i,B6h,List.drop_append,a, @B8n _ (f x) _ (by rw[a,B61];omega),B62];congr 1;rw[B61];omega
theorem A6q{S}:∀(n:Nat) {cs:List Ce} {vs:List Value},Br S w cs vs->Br S w (cs.drop n) (vs.drop n)
 |0,_,_,h=>by simpa using h
 |n+1,[],_,h=>by have:_=[]:=h;subst this;simp[Br]
 |n+1,c::cs,_,⟨v,r,e,_,h2⟩=>by subst e;simpa using A6q n h2
theorem A6r{S}:∀(n:Nat) {cs:List Ce} {vs:List Value},Br S w cs vs->Br S w (cs.take n) (vs.take n)
 |0,_,_,h=>by simp[Br]
 |n+1,[],_,h=>by have:_=[]:=h;subst this;simp[Br]
 |n+1,c::cs,_,⟨v,r,e,h1,h2⟩=>by subst e;exact⟨v,r.take n,rfl,h1,A6r n h2⟩
theorem Cs.cut (y:∀x,(f x).length=k) {s:Sv}{lo hi} (K:lo<=hi) (r:hi<=L.length) (h:(Ac k f L).rd S w s.v):(Ac k f ((L.take hi).drop lo)).rd S w (s.cut k lo hi).v:=by
 obtain⟨a,cap,e,C,D,A⟩:=h;obtain⟨rfl,e2,rfl⟩:s.p=a/\s.n=L.length/\s.c=cap:=by simpa [Sv.v]using e
 have i:((L.take hi).drop lo).length=hi-lo:=by simp;omega
 refine⟨_,s.c-lo,by rw[i];rfl,by omega,by omega,λt=>?_⟩;have H:lo<hi:=by have:((L.take hi).drop lo).length≠0:=λe=>t (B53 e);omega
 obtain⟨b,off,xs,z,B,G,o,I⟩:=A (by intro e;subst e;simp at r;omega);have F:=B5v k r;refine⟨b,off+lo*k,(xs.take (hi*k)).drop (lo*k),?_,λj q=>?_,?_,λj u q=>?_,?_⟩
 ·simp only[Sv.cut];rw[if_neg (by omega),z];simp[Addr.add_lit]
 ·rw[i,B7g]at q;rw[B6d];exact B _ (by omega)
 ·rw[B50,B5x,G,i,B7g];have:=B5v k r;omega
 ·rw[B6y,B68]at q;split at q
  ·rw[B6d];exact o _ _ q
  ·cases q
 ·rw[Agm y,Xf y];exact A6q _ (A6r _ I)
theorem St.cutV (p:∀x,(f x).length=k) {s:Sv}{lo hi o vl} (i:lo<=hi) (j:hi<=L.length) (h:St w0 (oV o vl::m) rs w) (q:vR s.v (Ac k f L)∈vl):St w0 (oV o (vR (s.cut k lo hi).v (Ac k f ((L.take hi).drop lo))::vl)::m) rs w:=by
 refine St.iso (l:=[oV o vl]) (l':=[oV o (vR (s.cut k lo hi).v (Ac k f ((L.take hi).drop lo))::vl)]) h λF ⟨e,F1,b,⟨g1,gv⟩,g⟩=>⟨e,F1,b,⟨g1,λr a=>?_⟩,g⟩;rcases B5t.1 a with rfl|a
 ·exact Cs.cut p i j (vRg (gv _ q))
 ·exact gv r a
theorem Ae3:∀n cs vs,Aj (cs.take n) (vs.take n)=(Aj cs vs).take n
 |0,_,_=>by simp[Aj]
 |n+1,[],_=>by simp[Aj]
 |n+1,_::_,[]=>by simp[Aj]
 |n+1,c::cs,v::vs=>by simp[Aj,Ae3 n cs vs]
theorem Am4:∀n cs vs,Aj (cs.drop n) (vs.drop n)=(Aj cs vs).drop n
 |0,_,_=>by simp
 |n+1,[],_=>by simp[Aj]
 |n+1,_::_,[]=>by simp[Aj]
 |n+1,c::cs,v::vs=>by simpa [Aj]using Am4 n cs vs
theorem Sep.take{F m} n (h:Sep m F w):Sep (m.take n) F w:=by rw[<-B6t n m]at h;obtain⟨F1,e,a,_,_,b,_⟩:=h.split;exact a.up b (by rw[B6t]at h;exact h.lt)
theorem Sep.drop{F m} n (h:Sep m F w):Sep (m.drop n) F w:=by rw[<-B6t n m]at h;obtain⟨F1,e,_,a,_,_,b⟩:=h.split;exact a.up b (by rw[B6t]at h;exact h.lt)
theorem Own.cut' (t:∀x,(f x).length=k) {s:Sv}{lo hi} (M:lo<=hi) (N:hi<=L.length){F xs} (hx:(L.flatMap f).length=xs.length) (h:Sep (Bb k s.v L.length xs::((Aj (L.flatMap f) xs).take (hi*k)).drop (lo*k)) F w):(Ac k f ((L.take hi).drop lo)).ow F w (s.cut k lo hi).v:=by
 obtain⟨K,F1,D,⟨g0,H,I⟩,g2,g3,g4,g5⟩:=h;have a:((L.take hi).drop lo).length=hi-lo:=by simp;omega
 have U:=B5v k M;have u:=B5v k N;have i:((xs.take (hi*k)).drop (lo*k)).length=(hi-lo)*k:=by rw[B50,B5x,H,B7g];omega
 refine⟨(xs.take (hi*k)).drop (lo*k),by rw[Ic t,a,i],K,F1,D,⟨g0,by rw[a,i],?_⟩,?_,g3,g4,g5⟩
 ·rcases I with⟨e,X⟩|⟨b,off,cap,o,A,B,e,O,C,V,R,W,z⟩
  ·left;obtain⟨q,e2,G⟩:s.p=none/\s.n=0/\s.c=0:=by simpa [Sv.v]using e
   have:hi=0:=by omega
   have:lo=0:=by omega
   subst_vars
   refine⟨?_,by omega⟩;simp[Sv.cut,Sv.v,q,G]
  ·right;obtain⟨q,e2,rfl⟩:s.p=some ⟨b,off,none⟩/\s.n=L.length/\s.c=cap:=by simpa [Sv.v]using e
   by_cases r:s.c-lo=0
   ·refine⟨b,off,s.c-lo,o,A,B,?_,λj y=>by rw[r,B7n]at y;omega,C,by omega,by omega,?_,?_⟩
    ·simp only[Sv.cut,Sv.v,if_pos r,q,a]
    ·rw[r,B7n];omega
    ·rw[a,show hi-lo=0 by omega,B7n,List.take_zero];symm;apply B53;rw[i,show hi-lo=0 by omega,B7n]
   ·have Q:=B5v k (show lo<=s.c by omega)
    refine⟨b,off+lo*k,s.c-lo,o,A,B,?_,λj y=>by
     rw[B7g]at y;rw[B6d];exact O _ (by omega),C,by omega,by omega,?_,?_⟩
    ·simp only[Sv.cut,Sv.v,if_neg r,q,a];simp[Addr.add_lit]
    ·rw[B7g];have:=B5v k (show lo<=s.c by omega);omega
    ·rw[a,<-z,B9k,B7q u,B84,B7o,<-B7g]
 ·rw[Agm t,Xf t,Am4,Ae3];exact g2
theorem Own.cut (j:∀x,(f x).length=k) {s:Sv}{lo hi} (e:lo<=hi) (i:hi<=L.length){F} (h:(Ac k f L).ow F w s.v):(Ac k f ((L.take hi).drop lo)).ow F w (s.cut k lo hi).v:=by obtain⟨xs,hx,b,F1,a,g1,g2,g3,g4,g5⟩:=h;exact Own.cut' j e i hx ⟨b,F1,a,g1,(g2.take _).drop _,g3,g4,g5⟩
theorem St.cutO (o:∀x,(f x).length=k) {s:Sv}{lo hi} (e:lo<=hi) (i:hi<=L.length) (h:St w0 (oC (Ac k f L) s.v::m) rs w):St w0 (oC (Ac k f ((L.take hi).drop lo)) (s.cut k lo hi).v::m) rs w:=
 St.iso (l:=[oC (Ac k f L) s.v]) (l':=[oC (Ac k f ((L.take hi).drop lo)) (s.cut k lo hi).v]) h λ_ ⟨b,F1,a,j,h⟩=>⟨b,F1,a,Own.cut o e i j,h⟩
end
section
variable {P:Program} {n:Nat} {env:Env} {w:World} {d:Option Tmp} {ty:TypeId} {pos:String} {af:Array Edge} {g:Option (Nat×Bool)}
variable {T:Type} {k:Nat} {f:T->List Ce} {L:List T} {S:Bs} {w1:World} {v:Value}
theorem Bul{x t e} (b:P.underlying t=some (.slice e)) (hx:ev env x=some v) (h:(Ac k f L).rd S w1 v):
  Runs P n env w ⟨d,.call {callee:=.builtin .len,args:= #[x],argTypes:= #[t]},ty,pos,af,g⟩ (.int .i64 (L.length:Int)) w:=by
 obtain⟨a,cap,rfl,_⟩:=h;exact Mb b hx
theorem Bui{x y t e bytes z i} (u:P.underlying t=some (.slice e)) (s:Sz P e k bytes z)
  (hx:ev env x=some v) (A:ev env y=some (.int .i64 i)) (h:(Ac k f L).rd S w1 v) (r:0<=i/\i<(L.length:Int)):
  Runs P n env w ⟨d,.indexAddr t x y,ty,pos,af,g⟩ (.pointer (some (Ch v (i.toNat*k)))) w:=λa p=>by
 obtain⟨b,off,j,cap,rfl⟩:=Cs.ptr h (i:=i.toNat) (by omega);obtain⟨B,o,q,_⟩:=h;obtain⟨_,rfl,_⟩:_/\j=L.length/\_:=by simpa using q
 simp[execOp,p.ev hx,p.ev A,Instr.indexAt,run_underlying u,asIntOf,r,s.run,Ch,Addr.add_lit]
theorem Sv.cut_eq (s:Sv) k lo hi:(s.cut k lo hi).v=.slice (if s.c-lo=0 then s.p else s.p.map (·.add (lo*k))) (hi-lo) (s.c-lo):=rfl
theorem Bu5{x lo hi t e bytes z} {s:Sv}{i j} (D:P.underlying t=some (.slice e)) (C:Sz P e k bytes z)
  (hx:ev env x=some s.v) (q:ev env lo=some (.int .i64 i)) (o:ev env hi=some (.int .i64 j)) (h:(Ac k f L).rd S w1 s.v) (F:0<=i/\i<=j/\j<=(L.length:Int)):
  Runs P n env w ⟨d,.slice t x (some lo) (some hi) none,ty,pos,af,g⟩ (s.cut k i.toNat j.toNat).v w:=λb a=>by
 obtain⟨s',u,e2,G,_⟩:=Cs.form h;obtain rfl:s=s':=by cases s;cases s';simpa [Sv.v]using u
 have A:0<=j/\j<=(s.c:Int):=by omega
 have B:0<=i/\i<=(j.toNat:Int):=by omega
 have y:(s.c-i.toNat=0)=(s.c=i.toNat):=by apply propext;omega
 have r:b.eval x=.slice s.p s.n s.c:=a.ev hx;simp only[execOp,r,a.ev q,a.ev o,B77,B8w,Instr.sliceAt,Sem.run_bind,run_underlying D,Result.andThen_ok,Instr.slice,Instr.sliceBounds,Instr.sliceBound,asIntOf,Sem.run_pure,Sem.run_ite,if_pos A,if_pos B,C.run,B71,B6q,if_false,y,Sv.cut_eq]
theorem Bu7{x hi t e bytes z} {s:Sv}{j} (y:P.underlying t=some (.slice e)) (u:Sz P e k bytes z)
  (hx:ev env x=some s.v) (a:ev env hi=some (.int .i64 j)) (h:(Ac k f L).rd S w1 s.v) (A:0<=j/\j<=(L.length:Int)):
  Runs P n env w ⟨d,.slice t x none (some hi) none,ty,pos,af,g⟩ (s.cut k 0 j.toNat).v w:=λb o=>by
 obtain⟨s',q,e2,B,_⟩:=Cs.form h;obtain rfl:s=s':=by cases s;cases s';simpa [Sv.v]using q
 have r:0<=j/\j<=(s.c:Int):=by omega
 have i:b.eval x=.slice s.p s.n s.c:=o.ev hx;simp only[execOp,i,o.ev a,B77,B8w,Instr.sliceAt,Sem.run_bind,run_underlying y,Result.andThen_ok,Instr.slice,Instr.sliceBounds,Instr.sliceBound,asIntOf,Sem.run_pure,Sem.run_ite,if_pos r,u.run,Cad,Sv.cut_eq]
theorem Bu8{x q t e bytes z} {s:Sv}{i} (C:P.underlying t=some (.slice e)) (B:Sz P e k bytes z)
  (hx:ev env x=some s.v) (a:ev env q=some (.int .i64 i)) (h:(Ac k f L).rd S w1 s.v) (y:0<=i/\i<=(L.length:Int)):
  Runs P n env w ⟨d,.slice t x (some q) none none,ty,pos,af,g⟩ (s.cut k i.toNat L.length).v w:=λb o=>by
 obtain⟨s',r,e2,D,_⟩:=Cs.form h;obtain rfl:s=s':=by cases s;cases s';simpa [Sv.v]using r
 have A:0<=i/\i<=(L.length:Int):=y;have u:(s.c-i.toNat=0)=(s.c=i.toNat):=by apply propext;omega
 have j:b.eval x=.slice s.p L.length s.c:=by rw[<-e2];exact o.ev hx
 simp only[execOp,j,o.ev a,B77,B8w,Instr.sliceAt,Sem.run_bind,run_underlying C,Result.andThen_ok,Instr.slice,Instr.sliceBounds,Instr.sliceBound,asIntOf,Sem.run_pure,Sem.run_ite,if_pos A,B.run,B71,B6q,if_false,u,Sv.cut_eq]
end
end
section
open Go.RowKit
section
variable {w0:Base} {w w':World} {m l l' own:List As} {rs:List Rd} {c:Ce} {v:Value} {S:Bs}
variable {T:Type} {k:Nat} {f:T->List Ce} {L:List T}
def Z (w:World) (own l:List As):Prop:=∀F,Sep own F w->Sep l F w
theorem zN:Z w [] []:=λ_ h=>h
theorem zI:Z w l l:=λ_ h=>h
theorem Sep.cons0{F a} (b:∀w,a.ok (λ_=>False) w) (h:Sep m F w):Sep (a::m) F w:=
 ⟨h.lt,λ_=>False,F,b w,h,(λ_ h=>h.elim),(λ_ h=>h.elim),λ_ h=>h⟩
theorem zP{a} (d:∀w,a.ok (λ_=>False) w) (h:Z w own l):Z w own (a::l):=λF b=>Sep.cons0 d (h F b)
theorem pV u hu:∀w,(oC (cV u hu) u).ok (λ_=>False) w:=λ_=>⟨rfl,λ_ h=>h.elim⟩
theorem A6z k:∀w,(Bb k (.slice none 0 0) 0 []).ok (λ_=>False) w:=λ_=>⟨(λ_ h=>h.elim),by simp,.inl ⟨rfl,rfl⟩⟩
theorem pN k (f:T->List Ce):∀w,(oC (Ac k f []) (.slice none 0 0)).ok (λ_=>False) w:=λw=>
 ⟨[],rfl,(λ_ h=>h.elim),λ_=>False,λ_=>False,A6z k w,(λ_ h=>h.elim),(λ_ h=>h.elim),(λ_ h=>h.elim),λ_ h=>h.elim⟩
theorem St.pure (h:St w0 m rs w){a} (d:∀w,a.ok (λ_=>False) w):St w0 (a::m) rs w:=
 St.iso (l:=[]) (l':=[a]) h λ_ b=>Sep.cons0 d b
theorem St.nil (h:St w0 m rs w) k (f:T->List Ce):St w0 (oC (Ac k f []) (.slice none 0 0)::m) rs w:=h.pure (pN k f)
theorem St.drop{a} (h:St w0 (a::m) rs w):St w0 m rs w:=St.iso (l:=[a]) (l':=[]) h λ_ b=>b.tail
def Aif:List Nat->List As->List As
 |[],m=>m
 |k::ks,m=>match m[k]? with
  |some a=>Aif ks (a::m.eraseIdx k)
  |none=>m
theorem St.sel:∀(b:List Nat) {m:List As},St w0 m rs w->St w0 (Aif b m) rs w
 |[],_,h=>h
 |k::b,m,h=>by
  unfold Aif;cases g:m[k]? with
  |none=>exact h
  |some a=>
   refine St.sel b (h.perm ?_);have d:=(B55.1 g);obtain⟨i,rfl⟩:=d;have e:m=m.take k++m[k]::m.drop (k+1):=by simp
   rw[B8z]
   conv=>lhs;rw[e]
   exact B5u
theorem St.pl a (h:St w0 m rs w):St w0 (Aif a m) rs w:=St.sel a h
theorem St.tk n (h:St w0 m rs w):St w0 (m.take n) rs w:=by obtain⟨a,g,F,b,d,e⟩:=h;exact⟨a,g,F,b.take n,d,e⟩
theorem St.selO (h:St w0 (oC c v::m) rs w):St w0 m (rV v c::rs) w:=
 St.fix (l:=[oC c v]) (r:=rV v c) h λ_F ⟨_,_F1,_,a,_,_,b,_⟩=>c.mono b (Lc.refl _ _) (c.seen a)
theorem St.nilR (h:St w0 m rs w) k (f:T->List Ce):St w0 m (rV (.slice none 0 0) (Ac k f [])::rs) w:=(h.nil k f).selO
theorem St.unrow (h:St w0 (oC (Ac k f L) v::m) rs w):∃xs,(L.flatMap f).length=xs.length/\St w0 (Bb k v L.length xs::(Aj (L.flatMap f) xs++m)) rs w:=by
 obtain⟨g,a,F,⟨e,F1,p,⟨xs,g1,g2⟩,g3,g4,g5,d⟩,i,j⟩:=h
 have o:=(Sep.join g2 g3 g4).up (F':=F) (λb a=>by
  rcases a with a|a
  ·exact g5 b a
  ·exact d b a) e
 exact⟨xs,g1,g,a,F,o,i,j⟩
theorem St.rerow{xs} (b:(L.flatMap f).length=xs.length) (h:St w0 (Bb k v L.length xs::(Aj (L.flatMap f) xs++m)) rs w):St w0 (oC (Ac k f L) v::m) rs w:=
 St.iso (l:=Bb k v L.length xs::Aj (L.flatMap f) xs) (l':=[oC (Ac k f L) v]) h λF a=>⟨a.lt,F,λ_=>False,⟨xs,b,a⟩,(λ_ h=>h.elim),(λ_ _ h=>h),(λ_ h=>h),λ_ h=>h.elim⟩
theorem A70{b j cs e hd u} (h:w.heap[b]?=some (.cells cs e hd)):(w.setCell ⟨b,j,none⟩ u).heap[b]?=some (.cells (cs.setIfInBounds j u) e hd):=by simp[World.setCell,Cba,h]
theorem Bxw{b j u X} (d:X (b,j)):RelX X w (w.setCell ⟨b,j,none⟩ u):=
 ⟨rfl,rfl,rfl,by simp[World.setCell],λk h=>by
  by_cases e:k=b
  ·subst e;cases a:w.heap[k]? with
   |none=>rw[Array.getElem?_eq_getElem h]at a;cases a
   |some o=>
    cases o with
    |cells cs e g=>exact .inr ⟨cs,cs.setIfInBounds j u,e,g,rfl,A70 a,by simp,λi hi=>B9s λe=>hi (by rw[<-e];exact d)⟩
    |_=>exact .inl (by simp[World.setCell,Cba,a])
  ·exact .inl (Below.heap_setCell _ _ _ _ e)⟩
def Sd:List Value->Nat->List Value->List Value
 |cs,_,[]=>cs
 |cs,o,v::r=>Sd (cs.set o v) (o+1) r
theorem Oe:∀vs cs o,o+vs.length<=cs.length->Sd cs o vs=cs.take o++vs++cs.drop (o+vs.length)
 |[],cs,o,_=>by simp[Sd]
 |v::r,cs,o,h=>by
  simp only[B5q]at h;rw[Sd,Oe r _ _ (by rw[B6v];omega)];have a:(cs.set o v).take (o+1)=cs.take o++[v]:=by rw[B85,B96 (B6i _),B9p (by omega)];rfl
  have b:(cs.set o v).drop (o+1+r.length)=cs.drop (o+(r.length+1)):=by rw[Cbe (by omega)];congr 1;omega
  rw[a,b];simp
theorem Yq{b e hd}:∀(vs:List Value) (o:Nat) (cs:Array Value) (w:World),w.heap[b]?=some (.cells cs e hd)->(w.setCells b o vs).heap[b]?=some (.cells (Sd cs.toList o vs).toArray e hd)
 |[],o,cs,w,h=>by simpa [World.setCells,Sd]using h
 |v::r,o,cs,w,h=>by rw[World.setCells,Yq r (o+1) _ _ (A70 h),Sd,Cae]
theorem Aci{b X}:∀vs o w,(∀j,o<=j->j<o+vs.length->X (b,j))->RelX X w (w.setCells b o vs)
 |[],_,w,_=>RelX.refl X w
 |v::r,o,w,hX=>(Bxw (hX o (B6i _) (by simp))).trans (Aci r (o+1) _ λj a d=>hX j (by omega) (by simp only[B5q];omega))
theorem frz{b x cur e hd} (i:w.heap[b]?=some (.cells cur e hd)) (j:Wr hd cur.size) (hx:x<cur.size):w.frozen? ⟨b,x,none⟩=false:=by
 have h:=j x hx;obtain⟨d,hi⟩:=hd;have e:w.frozen? ⟨b,x,none⟩=(decide (d<=x)&&decide (x<hi)):=by simp only[World.frozen?,i]
 rw[e];by_cases a:d<=x
 ·rw[decide_eq_false λg=>h ⟨a,g⟩,B90]
 ·rw[decide_eq_false a,Car]
theorem Sep.head{F a j} (h:Sep (a::m) F w) (hi:∀F,a.ok F w->∃F',j.ok F' w'/\RelX F w w'/\∀b,F' b->F b\/w.heap.size<=b.1):∃F',Sep (j::m) F' w'/\RelX F w w'/\∀b,F' b->F b\/w.heap.size<=b.1:=by
 obtain⟨x,F1,i,t,o,p,q,u⟩:=h;obtain⟨F',r,k2,s⟩:=hi F1 t;have g2:Sep m i w':=o.loc (k2.lc λb d g=>p b g d);refine⟨λb=>F' b\/i b,⟨λb d=>?_,F',i,r,g2,λb d g=>?_,λ_ h=>.inl h,λ_ h=>.inr h⟩,k2.mono q,λb d=>?_⟩
 ·rcases d with d|d
  ·exact j.lt r d
  ·exact g2.lt b d
 ·rcases s b d with e|e
  ·exact p b e g
  ·have:=o.lt b g;omega
 ·rcases d with d|d
  ·exact(s b d).imp (q b) id
  ·exact .inl (u b d)
theorem St.updHead{a d} (h:St w0 (a::m) rs w) (hi:∀F,a.ok F w->∃F',d.ok F' w'/\RelX F w w'/\∀b,F' b->F b\/w.heap.size<=b.1):St w0 (d::m) rs w':=
 St.upd (l:=[a]) (l':=[d]) h λ_ e=>e.head hi
theorem St.alloc (h:St w0 m rs w) cs e:St w0 (A2 w.heap.size cs e::m) rs (w.alloc (.cells cs e)):=
 St.upd (l:=[]) (l':=[A2 w.heap.size cs e]) h λF d=>⟨λb=>b.1=w.heap.size,⟨λb a=>by rw[show b.1=w.heap.size from a];simp,λb=>b.1=w.heap.size,λ_=>False,⟨λb a=>by rw[show b.1=w.heap.size from a];simp,λ_ _=>rfl,heap_alloc_new w _⟩,(λ_ h=>h.elim),(λ_ _ h=>h),(λ_ h=>h),λ_ h=>h.elim⟩,(Rel.alloc w _).x F,λb a=>.inr (Nat.le_of_eq (Eq.symm a))⟩
theorem St.allocRow (h:St w0 m rs w){n cap} xs sp cur e (a:cur.toList=xs++sp) (b:xs.length=n*k) (s:n<=cap) (r:cap<=maxLen) (u:cur.size=cap*k):St w0 (Bb k (Sv.v ⟨some ⟨w.heap.size,0,none⟩,n,cap⟩) n xs::m) rs (w.alloc (.cells cur e)):=
 St.iso (l:=[A2 w.heap.size cur e]) (l':=[Bb k (Sv.v ⟨some ⟨w.heap.size,0,none⟩,n,cap⟩) n xs]) (h.alloc cur e) λ_ ⟨g,F1,d,⟨i,o,p⟩,q⟩=>
  ⟨g,F1,d,⟨i,b,.inr ⟨_,0,cap,_,e,_,rfl,λj t=>by rw[B7x];exact o j (by omega),⟨p,wr0 _⟩,s,r,by omega,by rw[a];simp[<-b]⟩⟩,q⟩
theorem St.drew (h:St w0 m rs w):St w0 m rs w.drew:=h.call ((Rel.refl w).drew)
end
section
variable {P:Program} {n:Nat} {ops:Array Oper} {Q:Post} {env:Env} {w:World} {w0:Base} {rest:List Oper} {ty:TypeId} {pos:String} {af:Array Edge} {m own:List As} {rs:List Rd}
variable {T:Type} {k:Nat} {f:T->List Ce} {L:List T}
theorem St.appRow{t tx tyy e size bytes z} {s:Sv}{n n' xs news x} (ht:P.underlying t=some (.slice e)) (hs:Sz P e size bytes z) (h:St w0 (Bb size s.v n xs::m) rs w) (a:Src P size tx x n' news w)
  (a4:n+n'<=maxLen) (K:(n+n')*bytes<=140737488355328):
  ∃(s':Sv) (w':World),(Builtin.append_ #[t,tx] tyy #[s.v,x]).run P w=.ok s'.v w'/\St w0 (Bb size s'.v (n+n') (xs++news)::m) rs w':=by
 obtain⟨i,hi,hz,b5,I⟩:=hs.info;subst b5;have V:=hs.2.1;have h63i:((n+n':Nat):Int)<=9223372036854775807:=by simp only[maxLen]at a4;omega
 obtain⟨F0,g0,A,gr⟩:=h.at' (B5n ..);have o:=a.newsLen;rcases gr with⟨r,rfl⟩|⟨b,off,cap,d,e',M,r,hb,⟨N,U⟩,b1,a6,c6,R⟩
 ·obtain⟨ep,en,ec⟩:s.p=none/\s.n=0/\s.c=0:=by simpa [Sv.v]using r
  have b6:xs=[]:=B53 (by simpa using A);subst b6;by_cases b0:n'=0
  ·subst b0;have b3:news=[]:=B53 (by simpa using o);subst b3;refine⟨s,w,?_,by simpa using h⟩;rw[r];rcases a.kind with⟨e2,hk⟩|hk<;>simp[Builtin.append_,run_underlying ht,run_underlying hk,sizeOf,typeInfo,hi,a.len,a.cells]
  ·have O:=run_append_grow_src (P:=P) w t tx tyy e i z ht hi hz none 0 0 [] (run_firstCells_none _ _ _ _ _) x n' news a (by omega) (by simpa using h63i) (by rw[I];exact growslice_fits (by omega) (by simpa using K));refine⟨⟨some ⟨w.heap.size,0,none⟩,0+n',grownCap w (0+n') 0 e⟩,_,by rw[r];exact O,?_⟩;have M:=(h.drop).drew;have C:=grownCap_ge w (0+n') 0 e;have hc:=grownCap_le_maxLen w (0+n') 0 e (by omega)
   exact M.allocRow (k:=i.size) (n:=0+n') (cap:=grownCap w (0+n') 0 e) ([]++news) (Builtin.zeroCells z.cells (grownCap w (0+n') 0 e-(0+n'))).toList _ e (by simp) (by simpa using o) C hc (by
    rw[B79,size_zeroCells,V,B62,B7p,o,<-B61];congr 1;omega)
 ·obtain⟨ep,en,ec⟩:s.p=some ⟨b,off,none⟩/\s.n=n/\s.c=cap:=by simpa [Sv.v]using r
  have c7:n*i.size<=cap*i.size:=B5v _ b1;by_cases g:n+n'<=cap
  ·have q:off+n*i.size+news.length<=d.size:=by have:=B5v i.size g;rw[B61]at this;omega
   have O:=run_append_room_src (P:=P) w t tx tyy e i ht hi b off n cap x n' news a g
    (λj D=>by simp only[World.cell?,N];simp;omega)
    (λj D=>frz N U (by omega))
   refine⟨⟨some ⟨b,off,none⟩,n+n',cap⟩,_,by rw[r];exact O,?_⟩;refine h.updHead λF ⟨q0,ql,qr⟩=>?_;rcases qr with⟨Y,_⟩|⟨b2,W,G,H,e2,a8,Y,qb,⟨qg,qw⟩,_,_,_,d0⟩
   ·rw[r]at Y;cases Y
   ·obtain⟨⟨rfl,rfl⟩,rfl⟩:(b=b2/\off=W)/\cap=G:=by rw[r]at Y;simpa using Y
    rw[N]at qg;obtain⟨rfl,rfl,rfl⟩:d=H/\e'=e2/\M=a8:=by simpa using qg
    have b4:=B5v i.size g;rw[B61]at b4;have y:=Aci (X:=F) (b:=b) news (off+n*i.size) w λj h1 h2=>by have:=qb (j-off) (by omega);rwa [show off+(j-off)=j by omega]at this
    refine⟨F,⟨λb hb=>B6w (q0 b hb) y.size,by rw[B5m,A,o,B61],.inr ⟨b,off,cap,_,e',M,rfl,qb,⟨Yq news _ d w N,?_⟩,g,a6,?_,?_⟩⟩,y,λ_ hb=>.inl hb⟩
    ·rw[Oe _ _ _ (by rw[B5z];exact q),show(d.toList.take (off+n*i.size)++news++d.toList.drop (off+n*i.size+news.length)).toArray.size=d.size by simp only[B7p,B5m,B5x,B50,B5z];omega];exact U
    ·rw[Oe _ _ _ (by rw[B5z];exact q)];simp only[B7p,B5m,B5x,B50,B5z];omega
    ·rw[Oe _ _ _ (by rw[B5z];exact q)];have ha:(d.toList.take (off+n*i.size)).length=off+n*i.size:=by rw[B5x,B5z];omega
     have a7:(d.toList.take (off+n*i.size)).drop off=xs:=by rw[B84,B82];exact R
     rw[B5r,B8d (by omega),a7,<-B5r,B8c (by rw[B5m,A,o,B61];omega)];rw[B7a (by rw[B5m,A,o,B61];omega)]
  ·have B:∀j u,xs[j]?=some u->w.drew.cell? ((⟨b,off,none⟩:Addr).add j)=some u:=λj u D=>by
    rw[<-R,B68]at D;split at D
    ·rw[B6y,B7b]at D;rw[Addr.add_lit];have a9:w.drew.heap[b]?=some (.cells d e' M):=N;simp[World.cell?,a9,D]
    ·cases D
   have O:=run_append_grow_src (P:=P) w t tx tyy e i z ht hi hz (some ⟨b,off,none⟩) n cap xs (run_firstCells_some _ _ _ _ _ _ _ A B) x n' news a (by omega) h63i (by rw[I];exact growslice_fits (by omega) K);refine⟨⟨some ⟨w.heap.size,0,none⟩,n+n',grownCap w (n+n') cap e⟩,_,by rw[r];exact O,?_⟩;have C:=grownCap_ge w (n+n') cap e;have hc:=grownCap_le_maxLen w (n+n') cap e (by omega)
   exact((h.drop).drew).allocRow (k:=i.size) (n:=n+n') (cap:=grownCap w (n+n') cap e) (xs++news) (Builtin.zeroCells z.cells (grownCap w (n+n') cap e-(n+n'))).toList _ e (by simp) (by rw[B5m,A,o,B61]) C hc (by
    rw[B79,size_zeroCells,V,B7p,B5m,A,o,<-B61,<-B61];congr 1;omega)
theorem St.app{t j tyy e size bytes z} {s:Sv}{n' news x M} (A:P.underlying t=some (.slice e)) (y:Sz P e size bytes z) (h:St w0 (oC (Ac size f L) s.v::(own++m)) rs w) (a:Src P size j x n' news w)
  (q:M.length=n') (r:(M.flatMap f).length=news.length) (B:Z w own (Aj (M.flatMap f) news)) (d:L.length+n'<=maxLen) (g:(L.length+n')*bytes<=140737488355328):
  ∃(s':Sv) (w':World),(Builtin.append_ #[t,j] tyy #[s.v,x]).run P w=.ok s'.v w'/\St w0 (oC (Ac size f (L++M)) s'.v::m) rs w':=by
 obtain⟨xs,i,o⟩:=h.unrow
 have b:St w0 (Bb size s.v L.length xs::(Aj (L.flatMap f) xs++(Aj (M.flatMap f) news++m))) rs w:=by
  refine(St.iso (l:=own) (l':=Aj (M.flatMap f) news) (m:=Bb size s.v L.length xs::(Aj (L.flatMap f) xs++m)) (o.perm ?_) B).perm ?_
  ·exact(B7l ..).cons _|>.trans B5u.symm
  ·exact B5u.trans ((B7l ..).cons _)
 obtain⟨s',w',u,p⟩:=b.appRow (tyy:=tyy) A y a d g;refine⟨s',w',u,St.rerow (xs:=xs++news) (by rw[B60,B5m,B5m,i,r]) ?_⟩;rw[B60,Kh i,B5r,B5m,q];exact p
theorem A64{t e size bytes z v} (C:P.underlying t=some (.slice e)) (x:Sz P e size bytes z) (d:v.cells.size=size) (o:B7m size 1000=true):
  (Instr.buildSlice t 1 #[(0,v)]).run P w=.ok (.slice (some ⟨w.heap.size,0,none⟩) 1 1) (w.alloc (.cells v.cells e)):=by
 obtain⟨i,hi,D,b,B⟩:=x.info;have s:=x.2.2;have y:size<=1000:=by simpa using o
 have a:Instr.fill (λj=>some (j*i.size,i.size)) ((B9z (1*i.size)).map (z.cells[· % z.cells.size]!)) [(0,v)]=some v.cells:=by
  have r:∀(l:List Value) (p:Nat) (cs:Array Value),p+l.length=cs.size->(l.zipIdx p).foldl (λcs (q:Value×Nat)=>cs.setIfInBounds q.2 q.1) cs=(cs.toList.take p++l).toArray:=by
   intro l;induction l with
   |nil=>intro p cs g;simp at g;simp[g,B7a]
   |cons u l F=>
    intro p cs g;simp only[Ca1,B6j,B5q]at g⊢;rw[F (p+1) _ (by simp;omega)];congr 1;have h:p<cs.toList.length:=by simp;omega
    rw[Cae,B85,List.take_set,B9p h,B83 (by simp;omega)];simp
  have A:=r v.cells.toList 0 ((B9z size).map (z.cells[· % z.cells.size]!)) (by simp[d]);simp only[Instr.fill,b,B7n,B7x,B9f,d,Array.size_map,Array.size_range,ne_eq,not_true_eq_false,decide_false,B8v,gt_iff_lt,B91,B6q,if_false,B65.injEq];rw[<-Cbm,Cbl];simpa using A
 exact run_buildSlice (P:=P) w t e 1 #[(0,v)] v.cells i z C hi D (by simp[b];omega) (by simp[b];omega) a
def FlatE (f:T->List Ce):Prop:=∀x,∀c∈f x,∃u,∃hu:u.oneCell'=true,c=cV u hu
theorem Agq (a:FlatE f){S}:∀ {cs:List Ce} {vs:List Value},(∀c∈cs,∃u,∃hu,c=cV u hu)->Br S w cs vs->∀w,Z w [] (Aj cs vs)
 |[],vs,_,_=>λ_=>zN
 |c::cs,_,hc,⟨v,r,rfl,h1,h2⟩=>by
  obtain⟨u,hu,rfl⟩:=hc c (B5n ..);obtain rfl:v=u:=h1
  exactλw=>zP (pV v hu) (Agq a (λc h=>hc c (B5j _ h)) h2 w)
theorem Ab4{S}:∀ {cs:List Ce} {vs:List Value},Br S w cs vs->∀u∈vs,u.oneCell'=true
 |[],_,h,u,hu=>by have:_=[]:=h;subst this;cases hu
 |c::cs,_,⟨v,r,rfl,h1,h2⟩,u,hu=>by
  rcases B5t.1 hu with rfl|hu
  ·exact c.one h1
  ·exact Ab4 h2 u hu
theorem Cs.src{S t e v} (g:P.underlying t=some (.slice e)) (h:(Ac k f L).rd S w v):∃xs,Src P k t v L.length xs w/\Br S w (L.flatMap f) xs:=by
 obtain⟨a,cap,rfl,r,s,p⟩:=h;by_cases i:L=[]
 ·subst i;cases a with
  |none=>exact⟨[],Src.ofNil w g cap,rfl⟩
  |some a=>exact⟨[],Src.ofSlice w g a _ cap [] (by simp) (λj u d=>by simp at d) (λu hu=>by cases hu),rfl⟩
 ·obtain⟨b,off,xs,rfl,_,q,hx,o⟩:=p i;exact⟨xs,Src.ofSlice w g _ _ cap xs q (λj u d=>by rw[Addr.add_lit];exact hx j u d) (Ab4 o),o⟩
theorem Ha{o K v w'} (b:Runs P n env w o v w') (a:K v w'):Ex P n env w o K:=⟨v,w',b,a⟩
theorem B4x{K} {d:Nat}{x y t e size bytes z xv} {s:Sv}{M S} (u:P.underlying t=some (.slice e)) (G:Sz P e size bytes z) (hx:ev env x=some xv) (q:ev env y=some s.v)
  (i:(Ac size f M).rd S w xv) (g:FlatE f) (C:St w0 (oC (Ac size f L) s.v::m) rs w) (o:L.length+M.length<=1099511627776) (p:B7m bytes 127=true)
  (h:∀(s':Sv) w',St w0 (oC (Ac size f (L++M)) s'.v::m) rs w'->K (s'.v) w'):
  Ex P n env w ⟨some d,.call {callee:=.builtin .append,args:= #[y,x],argTypes:= #[t,t]},ty,pos,af,none⟩ K:=by
 obtain⟨xs,A,r⟩:=Cs.src u i;have b:bytes<=127:=by simpa using p
 obtain⟨s',w',F,B⟩:=St.app (tyy:=ty) (own:=[]) (M:=M) u G C A rfl (U1 r).symm (Agq g (λc D=>by
  obtain⟨a,_,j⟩:=B92.1 D;exact g a c j) r w) (by simp only[maxLen];omega) (by
  have:=B70 o b;omega)
 refine Ha (v:=s'.v) (w':=w') (λa j=>?_) (h s' w' B);simp[execOp,resolve,invoke,builtin,j.ev q,j.ev hx,F]
theorem A90{K} {d:Nat}{x y t e size bytes z} {s g:Sv}{M} (ht:P.underlying t=some (.slice e)) (hs:Sz P e size bytes z) (hx:ev env x=some g.v) (a0:ev env y=some s.v)
  (hM:St w0 (oC (Ac size f L) s.v::oC (Ac size f M) g.v::m) rs w) (b0:L.length+M.length<=1099511627776) (Y:(L.length+M.length)*bytes<=140737488355328)
  (h:∀(s':Sv) w',St w0 (oC (Ac size f (L++M)) s'.v::m) rs w'->K (s'.v) w'):
  Ex P n env w ⟨some d,.call {callee:=.builtin .append,args:= #[y,x],argTypes:= #[t,t]},ty,pos,af,none⟩ K:=by
 have a1:=St.unrow (hM.perm (List.Perm.swap ..));obtain⟨xs,hl,G⟩:=a1;have A:=G.at' (B5n ..);have H:=G.drop
 have i:∀j u,xs[j]?=some u->∃a,g.p=some a/\w.cell? (a.add j)=some u:=λj u o=>by
  obtain⟨F,_,D,V⟩:=A;rcases V with⟨C,O⟩|⟨b,off,cap,U,e',hd,C,hb,⟨hg,_⟩,_,_,_,a3⟩
  ·rw[O,B7n]at D;rw[B53 D]at o;simp at o
  ·obtain⟨ep,_⟩:g.p=some ⟨b,off,none⟩/\_:=by simpa [Sv.v]using C
   rw[<-a3,B68]at o;split at o
   ·rw[B6y,B7b]at o;exact⟨_,ep,by rw[Addr.add_lit];simp[World.cell?,hg,o]⟩
   ·cases o
 have B:∃S,Br S w (M.flatMap f) xs:=by obtain⟨_,_,F,N,_⟩:=H;obtain⟨F1,_,W,_⟩:=N.split;exact⟨F1,Zx hl W⟩
 obtain⟨S,B⟩:=B;obtain⟨F,_,D,V⟩:=A
 have O:g.n=M.length:=by
  rcases V with⟨C,O⟩|⟨b,off,cap,U,e',hd,C,_⟩
  ·obtain⟨_,N,_⟩:g.p=none/\g.n=0/\g.c=0:=by simpa [Sv.v]using C
   omega
  ·obtain⟨_,N,_⟩:g.p=some ⟨b,off,none⟩/\g.n=M.length/\g.c=cap:=by simpa [Sv.v]using C
   exact N
 have I:Src P size t g.v M.length xs w:=by
  have e0:g.v=.slice g.p M.length g.c:=by rw[<-O];rfl
  cases R:g.p with
  |none=>
   have a4:xs=[]:=by
    cases xs with
    |nil=>rfl
    |cons u r=>obtain⟨a,q,_⟩:=i 0 u rfl;rw[R]at q;cases q
   subst a4;have hz:M.length=0:=by have:=hs.2.2;rcases B9h.1 D.symm with h|h<;>omega
   rw[e0,R,hz];exact Src.ofNil w ht _
  |some a=>rw[e0,R];exact Src.ofSlice w ht a _ _ xs D (λj u o=>by obtain⟨a',q,hc⟩:=i j u o;rw[R]at q;cases q;exact hc) (Ab4 B)
 have X:St w0 (oC (Ac size f L) s.v::(Aj (M.flatMap f) xs++m)) rs w:=H.perm B5u;obtain⟨s',w',hr,W⟩:=St.app (tyy:=ty) (M:=M) ht hs X I rfl hl zI (by simp only[maxLen];omega) Y;refine Ha (v:=s'.v) (w':=w') (λa q=>?_) (h s' w' W);simp[execOp,resolve,invoke,builtin,q.ev a0,q.ev hx,hr]
theorem Aj8{K} {d:Nat}{x y t e size bytes z} {s j:Sv}{M} (q:P.underlying t=some (.slice e)) (p:Sz P e size bytes z) (hx:ev env x=some j.v) (i:ev env y=some s.v)
  (o:St w0 (oC (Ac size f L) s.v::oC (Ac size f M) j.v::m) rs w) (a:L.length+M.length<=1099511627776) (g:B7m bytes 127=true)
  (h:∀(s':Sv) w',St w0 (oC (Ac size f (L++M)) s'.v::m) rs w'->K (s'.v) w'):
  Ex P n env w ⟨some d,.call {callee:=.builtin .append,args:= #[y,x],argTypes:= #[t,t]},ty,pos,af,none⟩ K:=
 A90 q p hx i o a (by
  have b:bytes<=127:=by simpa using g
  have:=B70 a b;omega) h
end
end
section
open Go.RowKit
theorem Sep.sub{w l l'} (d:List.Sublist l' l):∀ {F:Bs},Sep l F w->Sep l' F w:=by
 induction d with
 |slnil=>exactλh=>h
 |cons a _ b=>exactλh=>b h.tail
 |cons_cons a _ b=>exactλh=>h.cons_mono λ_=>b
theorem A13 {T A:Type} [Inhabited T]{k f} (a:∀x,(f x).length=k):∀(L:List T) (i j:Nat) (us:List A) (y:T),i<L.length->j+us.length<=k->f y=(f (el L i)).take j++us++(f (el L i)).drop (j+us.length)->
  (L.set i y).flatMap f=(L.flatMap f).take (i*k+j)++us++(L.flatMap f).drop (i*k+j+us.length)
 |[],i,j,_,_,hi,_,_=>by simp at hi
 |x::L,0,j,us,y,_,hj,hx=>by have b:f y=(f x).take j++us++(f x).drop (j+us.length):=hx;rw[B7r,B6h,B6h,b,B7n,B7x,B8c (by rw[a];omega),B8d (by rw[a];omega)];simp[B5r]
 |x::L,i+1,j,us,y,hi,hj,hx=>by rw[B80,B6h,B6h,A13 a L i j us y (by simpa using hi) hj hx];rw[show(i+1)*k+j=k+(i*k+j)by rw[B61];omega];rw[B9i,List.drop_append,a,B7a (l:=f x) (by rw[a];omega), @B8n _ (f x) _ (by rw[a];omega)];rw[B82,show k+(i*k+j)+us.length-k=i*k+j+us.length by omega];simp[B5r]
section
variable {w0:Base} {w w':World} {m l l' own:List As} {rs:List Rd} {c:Ce} {v:Value} {S:Bs}
variable {T:Type} {k:Nat} {f:T->List Ce} {L:List T}
theorem St.upds [Inhabited T]{i j y cs us} {s:Sv} (I:∀x,(f x).length=k) (hi:i<L.length) (V:cs.length=us.length) (hj:j+us.length<=k) (hy:f y=(f (el L i)).take j++cs++(f (el L i)).drop (j+us.length))
  (hz:∀w,Z w own (Aj cs us)) (h:St w0 (oC (Ac k f L) s.v::(own++m)) rs w):
  ∃b o a e r,s.p=some ⟨b,o,none⟩/\(w.heap[b]?=some (.cells a e r)/\Wr r a.size)/\o+i*k+j+us.length<=a.size/\St w0 (oC (Ac k f (L.set i y)) s.v::m) rs (w.setCells b (o+i*k+j) us):=by
 obtain⟨xs,h1,O⟩:=h.unrow;have a8:i*k+k<=L.length*k:=by rw[<-Nat.succ_mul];exact B5v k hi
 have a7:(L.flatMap f).length=L.length*k:=Ic I L;have N:Aj ((L.set i y).flatMap f) (xs.take (i*k+j)++us++xs.drop (i*k+j+us.length))=(Aj (L.flatMap f) xs).take (i*k+j)++Aj cs us++(Aj (L.flatMap f) xs).drop (i*k+j+us.length):=by rw[A13 I L i j cs y hi (by omega) (by rw[V];exact hy),V];rw[Kh (by rw[B5m,B5m,B5x,B5x];omega),Kh (by rw[B5x,B5x];omega),Ae3,Am4]
 have R:St w0 (Bb k s.v L.length xs::(Aj ((L.set i y).flatMap f) (xs.take (i*k+j)++us++xs.drop (i*k+j+us.length))++m)) rs w:=by
  refine(St.iso (l:=Aj (L.flatMap f) xs++own) (l':=Aj ((L.set i y).flatMap f) (xs.take (i*k+j)++us++xs.drop (i*k+j+us.length))) (m:=Bb k s.v L.length xs::m) (O.perm ?_) λF U=>?_).perm ?_
  ·rw[<-B5r];exact B5u.symm
  ·rw[N];obtain⟨F1,F2,g1,g2,g3,g4,g5⟩:=U.split
   have D:Sep ((Aj (L.flatMap f) xs).take (i*k+j)++(Aj (L.flatMap f) xs).drop (i*k+j+us.length)) F1 w:=Sep.sub (by
    conv=>rhs;rw[<-B6t (i*k+j) (Aj (L.flatMap f) xs)]
    refine List.Sublist.append_left ?_ _;rw[<-B7o];exact List.drop_sublist _ _) g1
   have g6:=(Sep.join D (hz w F2 g2) g3).up (F':=F) (λb g=>by
    rcases g with g|g
    ·exact g4 b g
    ·exact g5 b g) U.lt
   refine g6.perm ?_;rw[B5r,B5r];exact List.Perm.append_left _ B56
  ·exact B5u
 obtain⟨F0,g0,gl,gr⟩:=R.at' (B5n ..);rcases gr with⟨z,hn⟩|⟨b,o,cap,a,e,r,z,g,⟨K,B⟩,A,G,b0,M⟩
 ·omega
 ·obtain⟨ep,en,ec⟩:s.p=some ⟨b,o,none⟩/\s.n=L.length/\s.c=cap:=by simpa [Sv.v]using z
  have a9:L.length*k<=cap*k:=B5v _ A;have d:o+i*k+j+us.length<=a.size:=by omega
  refine⟨b,o,a,e,r,ep,⟨K,B⟩,d,St.rerow (xs:=xs.take (i*k+j)++us++xs.drop (i*k+j+us.length)) ?_ ?_⟩
  ·rw[Ic I,B6v,B5m,B5m,B5x,B50];omega
  ·rw[B6v];refine R.updHead λF ⟨q0,ql,qr⟩=>?_;rcases qr with⟨C,_⟩|⟨b2,o2,t,u,e2,H,C,W,⟨Y,qw⟩,_,_,_,b6⟩
   ·rw[z]at C;cases C
   ·obtain⟨⟨rfl,rfl⟩,rfl⟩:(b=b2/\o=o2)/\cap=t:=by rw[z]at C;simpa using C
    rw[K]at Y;obtain⟨rfl,rfl,rfl⟩:a=u/\e=e2/\r=H:=by simpa using Y
    have q:=Aci (X:=F) (b:=b) us (o+i*k+j) w λx h1 O=>by have:=W (x-o) (by omega);rwa [show o+(x-o)=x by omega]at this
    refine⟨F,⟨λb g=>B6w (q0 b g) q.size,by rw[B5m,B5m,B5x,B50];omega,.inr ⟨b,o,cap,_,e,r,z,W,⟨Yq us _ a w K,?_⟩,A,G,?_,?_⟩⟩,q,λ_ g=>.inl g⟩
    ·rw[Oe _ _ _ (by rw[B5z];exact d),show(a.toList.take (o+i*k+j)++us++a.toList.drop (o+i*k+j+us.length)).toArray.size=a.size by simp only[B7p,B5m,B5x,B50,B5z];omega];exact B
    ·rw[Oe _ _ _ (by rw[B5z];exact d)];simp only[B7p,B5m,B5x,B50,B5z];omega
    ·rw[Oe _ _ _ (by rw[B5z];exact d),<-M];have a6:a.toList.length=a.size:=B5z;rw[B9k,B84,B7o,show min (i*k+j) (L.length*k)=i*k+j by omega];rw[B5r,B8d (by rw[B5x];omega),B84,show o+i*k+j-o=i*k+j by omega];rw[<-B5r,B9i,B5m,B5x,B50];rw[B7a (by rw[B5m,B5x,B50];omega)];congr 1;rw[show o+i*k+j+us.length=o+(i*k+j+us.length)by omega];congr 1;omega
end
section
variable {P:Program} {n:Nat} {ops:Array Oper} {Q:Post} {env:Env} {w w':World} {w0:Base} {rest:List Oper} {ty:TypeId} {pos:String} {af:Array Edge} {m own:List As} {rs:List Rd}
variable {T:Type} {k:Nat} {f:T->List Ce} {L:List T}
theorem Ass{t size d z u b o cur e} (q:Sz P t size d z) (hu:u.cells.size=size) (g:u.cells.toList.all (·.oneCell')=true){hd} (p:w.heap[b]?=some (.cells cur e hd)) (s:Wr hd cur.size) (a:o+u.cells.toList.length<=cur.size):
  (storeVar t ⟨b,o,none⟩ u).run P w=.ok () (w.setCells b o u.cells.toList):=by
 have i:=run_storeCells_cells (P:=P) b o u.cells.toList 0 w (λj h=>by simp only[World.cell?,p];simp;rw[B5z]at h a;omega) (λj h=>frz p s (by rw[B5z]at a;simp only[B5z]at h;omega)) (λv r=>B6b.1 g v r);simp only[B9v]at i;simp[storeVar,q.run,hu,i]
theorem St.stE [Inhabited T]{t x y} {s:Sv}{u size bytes z i j} a cs (M:Sz P t size bytes z) (G:∀x,(f x).length=k) (hx:ev env x=some (.pointer (some (Ch s.v (i*k+j))))) (N:ev env y=some u) (hi:i<L.length)
  (hu:u.cells.size=size) (K:cs.length=u.cells.toList.length) (I:B7m (j+u.cells.toList.length) k=true) (h:u.cells.toList.all (·.oneCell')=true) (p:f a=(f (el L i)).take j++cs++(f (el L i)).drop (j+u.cells.toList.length)) (O:∀w,Z w own (Aj cs u.cells.toList))
  (F:St w0 (oC (Ac k f L) s.v::(own++m)) rs w):∃w',RunsU P n env w ⟨none,.store t x y,ty,pos,af,none⟩ w'/\St w0 (oC (Ac k f (L.set i a)) s.v::m) rs w':=by
 obtain⟨b,o,r,e,R,B,⟨H,q⟩,g,C⟩:=F.upds G hi K (by simpa using I) p O;refine⟨w.setCells b (o+i*k+j) u.cells.toList,λa p=>?_,C⟩;have d:=p.ev hx;have A:s.v=.slice (some ⟨b,o,none⟩) s.n s.c:=by rw[<-B];rfl
 rw[A]at d;simp only[Ch,<-B6d]at d;have D:=Ass (P:=P) (t:=t) M hu h H q g;simp[execOp,d,p.ev N,Instr.storeAt,Instr.sureAddr,D]
theorem Ae9{b j cs e v} (a:St w0 m rs w) (h:A2 b cs e∈m) (d:cs[j]?=some v):w.cell? ⟨b,j,none⟩=some v:=by obtain⟨F,_,_,g⟩:=a.at' h;rw[cell_of_row w b j cs e (0,0) g];exact d
theorem Buj{d g x t b j cs e v td} (p:P.underlying t=some td) (o:Xz td=true) (hx:ev env x=some (.pointer (some ⟨b,j,none⟩)))
  (a:St w0 m rs w) (i:A2 b cs e∈m) (h:cs[j]?=some v):Runs P n env w ⟨d,.load t x,ty,pos,af,g⟩ v w:=A6n p o hx (Ae9 a i h)
theorem Buk{d g x t b o fs size bytes z us cs e} (s:P.underlying t=some (.struct fs)) (r:Sz P t size bytes z) (hx:ev env x=some (.pointer (some ⟨b,o,none⟩)))
  (p:us.length=size) (h:St w0 m rs w) (q:A2 b cs e∈m) (i:(cs.toList.drop o).take size=us):Runs P n env w ⟨d,.load t x,ty,pos,af,g⟩ (.agg us.toArray) w:=
 A6o s r hx p λj u a=>by
  rw[Addr.add_lit];refine Ae9 h q ?_;rw[<-i,B68]at a;split at a
  ·rw[B6y,B7b]at a;exact a
  ·cases a
theorem A9y{K} {d:Nat}{e size bytes z} (i:Sz P e size bytes z) (g:St w0 m rs w)
  (h:∀b w',Rel w w'->St w0 (A2 b z.cells e::m) rs w'->K (.pointer (some ⟨b,0,none⟩)) w'):Ex P n env w ⟨some d,.alloc e,ty,pos,af,none⟩ K:=
 Ha (w':=w.alloc (.cells z.cells e)) (λa j=>by
  simp[execOp,Instr.alloc,i.zero,newVar,newRow]) (h _ _ (Rel.alloc w _) (g.alloc _ _))
theorem B41{K} {d:Nat}{e x v} (hx:ev env x=some v) (g:St w0 m rs w)
  (h:∀b w',Rel w w'->St w0 (A2 b v.cells e::m) rs w'->K (.pointer (some ⟨b,0,none⟩)) w'):Ex P n env w ⟨some d,.box e x,ty,pos,af,none⟩ K:=
 Ha (w':=w.alloc (.cells v.cells e)) (λa i=>by
  simp[execOp,i.ev hx,Instr.box,newVar,newRow]) (h _ _ (Rel.alloc w _) (g.alloc _ _))
theorem St.stB{t x y b j cs cs' e u size bytes z} (D:Sz P t size bytes z) (hx:ev env x=some (.pointer (some ⟨b,j,none⟩))) (G:ev env y=some u) (hu:u.cells.size=size) (h:u.cells.toList.all (·.oneCell')=true)
  (C:B7m (j+u.cells.toList.length) cs.size=true) (q:cs'.toList=cs.toList.take j++u.cells.toList++cs.toList.drop (j+u.cells.toList.length)) (o:St w0 (A2 b cs e::m) rs w):∃w',RunsU P n env w ⟨none,.store t x y,ty,pos,af,none⟩ w'/\St w0 (A2 b cs' e::m) rs w':=by
 obtain⟨_,_,_,r⟩:=o.at' (B5n ..);have g:j+u.cells.toList.length<=cs.size:=by simpa using C
 have A:=Ass (P:=P) (t:=t) D hu h r (wr0 _) g;refine⟨w.setCells b j u.cells.toList,λa p=>by simp[execOp,p.ev hx,p.ev G,Instr.storeAt,Instr.sureAddr,A],o.updHead λF ⟨H,s,_⟩=>?_⟩;have d:=Aci (X:=F) (b:=b) u.cells.toList j w λx I K=>s x (by omega);have B:cs'.size=cs.size:=by rw[<-B5z,q];simp only[B5m,B5x,B50,B5z]at g⊢;omega
 refine⟨F,⟨λb i=>B6w (H b i) d.size,λx hx=>s x (by omega),?_⟩,d,λ_ i=>.inl i⟩;rw[Yq _ _ _ _ r,Oe _ _ _ (by rw[B5z];exact g),<-q]
theorem Bgf{c0 zs} (e:c0.length=zs.length) (g:∀w,Z w [] (Aj c0 zs)):∀n w,Z w [] (Aj ((B6l n c0).flatten) ((B6l n zs).flatten))
 |0,_=>zN
 |n+1,w=>λF j=>by
  rw[B8o,B9w,B8o,B9w,Kh e];have i:=g w (λ_=>False) (λ_ h=>h.elim);have d:=Bgf e g n w F j
  exact(Sep.join i d (λ_ h=>h.elim)).up (λb a=>by
   rcases a with a|a
   ·exact a.elim
   ·exact a) d.lt
theorem B5e{size} (cs:List Value) (e:cs.length=size) k:((B9z (k*size)).map λj=>(cs.toArray[j % size]?).getD default)=((B6l k cs).flatten).toArray:=by
 apply Cbx;simp only[B9q,Array.toList_range];induction k with
 |zero=>simp
 |succ k h=>
  rw[List.replicate_succ',List.flatten_append,B61,B9f,List.range_add,B9r,h];congr 1;simp only[B9w,Ca0,B6o,B9u];apply List.ext_getElem
  ·simp[e]
  ·intro j a b;have g:j<size:=by simpa using a
   have d:(k*size+j) % size=j:=by rw[B9b,Nat.add_mul_mod_self_right,Nat.mod_eq_of_lt g]
   simp[d,B5p b]
theorem St.newRow (g:St w0 (own++m) rs w){us len} e (h:∀x,(f x).length=k) (b:L.length=len) (a:us.length=len*k) (j:∀w,Z w own (Aj (L.flatMap f) us)) (i:len<=maxLen):
  St w0 (oC (Ac k f L) (Sv.v ⟨some ⟨w.heap.size,0,none⟩,len,len⟩)::m) rs (w.alloc (.cells us.toArray e)):=by
 have d:=g.allocRow (k:=k) (n:=len) (cap:=len) us [] us.toArray e (by simp) a (B6i _) i (by simpa using a);refine St.rerow (xs:=us) (by rw[Ic h,b,a]) ?_;rw[b];exact(St.iso (l:=own) (l':=Aj (L.flatMap f) us) (m:=Bb k _ len us::m) (d.perm B5u.symm) (j _)).perm B5u
theorem B45{K} {d:Nat}{x t e size b z} {k:Nat} y (I:P.underlying t=some (.slice e)) (j:Sz P e size b z) (G:∀x,(f x).length=size) (V:∀w,Z w [] (Aj (f y) z.cells.toList)) (hx:ev env x=some (.int .i64 (k:Int)))
  (O:k<=1099511627776) (u:B7m b 255=true) (M:St w0 m rs w)
  (h:∀(s:Sv) w',Rel w w'->St w0 (oC (Ac size f (B6l k y)) s.v::m) rs w'->K s.v w'):Ex P n env w ⟨some d,.makeSlice t x x,ty,pos,af,none⟩ K:=by
 obtain⟨i,hi,Y,R,r⟩:=j.info;have o:b<=255:=by simpa using u
 have hb:(b:Int)*(k:Int)<=281474976710656:=by have:=B70 o O;omega
 have U:IntKind.i64.wrap (k:Int)=(k:Int):=i64_in ⟨by omega,by omega⟩;have g:z.cells.toList.length=size:=by rw[B5z];exact j.2.1
 have p:=B5e z.cells.toList g k;have H:=j.2.2
 have q:(Instr.makeSlice t (.int .i64 (k:Int)) (.int .i64 (k:Int))).run P w=.ok (.slice (some ⟨w.heap.size,0,none⟩) k k) (w.alloc (.cells ((B6l k z.cells.toList).flatten).toArray e)):=by
  by_cases B:k=0
  ·subst B;have C:IntKind.i64.wrap 0=0:=i64_in ⟨by omega,by omega⟩;simp[Instr.makeSlice,run_underlying I,asInt,asIntOf,typeInfo,hi,C,j.run,Go.newRow];rw[show(B9z 0).map (λ_=>(default:Value))= #[]from by simp]
  ·have D:z.cells=z.cells.toList.toArray:=by simp
   have X:z.cells.toList.toArray.size=size:=by simpa using g
   simp only[Instr.makeSlice,run_underlying I,asInt,asIntOf,typeInfo,hi,U,r,Sem.run_bind,Sem.run_pure,Result.andThen_ok,run_program];simp only[Sem.run_ite];generalize W:z.cells.toList=zl at*
   simp[g,Go.newRow,j.zero,j.run,D];rw[if_neg (by omega)];have F:=p;simp only[B9c]at F;rw[F,if_neg (by rw[B9h];omega)]
 refine Ha (v:=Sv.v ⟨some ⟨w.heap.size,0,none⟩,k,k⟩) (w':=w.alloc (.cells ((B6l k z.cells.toList).flatten).toArray e)) (λa N=>by simp[execOp,N.ev hx,q,Sv.v]) (h _ _ (Rel.alloc w _) ?_);refine St.newRow (own:=[]) M e G (by simp) ?_ (λw=>?_) (by simp only[maxLen];omega)
 ·rw[List.length_flatten];simp[j.2.1]
 ·have A:(B6l k y).flatMap f=(B6l k (f y)).flatten:=by rw[List.flatMap_def,List.map_replicate]
  rw[A];exact Bgf (by rw[G,g]) V k w
theorem B42{K} {d:Nat}{t e size bytes z} (j:P.underlying t=some (.slice e)) (i:Sz P e size bytes z) (g:∀x,(f x).length=size) (b:St w0 m rs w)
  (h:∀(s:Sv) w',Rel w w'->St w0 (oC (Ac size f ([]:List T)) s.v::m) rs w'->K s.v w'):Ex P n env w ⟨some d,.buildSlice t 0 #[],ty,pos,af,none⟩ K:=by
 refine Ha (v:=Sv.v ⟨some ⟨w.heap.size,0,none⟩,0,0⟩) (w':=w.alloc (.cells #[] e)) (λa o=>?_) (h _ _ (Rel.alloc w _) ?_)
 ·simp[execOp,Instr.buildSlice,run_underlying j,i.run,Instr.fill,Go.newRow];rw[show(B9z 0).map (λ_=>(default:Value))= #[]from by simp];exact⟨rfl,rfl⟩
 ·exact St.newRow (own:=[]) (us:=[]) b e g rfl (by simp) (λ_=>zN) (by simp[maxLen])
def evP (env:Env):List (Nat×Operand)->Option (List (Nat×Value))
 |[]=>some []
 |(i,x)::r=>match ev env x,evP env r with
  |some v,some vs=>some ((i,v)::vs)
  |_,_=>none
theorem Has.evP{n a env} (h:Has n a env):∀ {l:List (Nat×Operand)} {vs:List (Nat×Value)},Go.Proofs.YtcdecpdpmpfbnaaGreatDoor.evP env l=some vs->l.map (λp=>(p.1,a.eval p.2))=vs
 |[],vs,hv=>by simp[Go.Proofs.YtcdecpdpmpfbnaaGreatDoor.evP]at hv;simp[hv]
 |(i,x)::r,vs,hv=>by
  unfold Go.Proofs.YtcdecpdpmpfbnaaGreatDoor.evP at hv;split at hv
  ·rename_i v e b d;simp at hv;subst hv;simp[h.ev b,h.evP d]
  ·cases hv
theorem Bt6{d g t parts vs cells} (j:evP env parts=some vs) (h:P.built t vs=some cells):
  Runs P n env w ⟨d,.build t parts.toArray,ty,pos,af,g⟩ (.agg cells) w:=λa i=>by
 have b:=i.evP j;have e:(Instr.build t (parts.toArray.map λp=>(p.1,a.eval p.2))).run P w=.ok (.agg cells) w:=run_build w t _ cells (by rw[B9q,<-h,<-b]);simp only[execOp,Sem.run_bind,e,Result.andThen_ok,Sem.run_pure]
theorem B43{K g} {d:Nat}{t e size bytes z parts vs} l us len (V:P.underlying t=some (.slice e)) (B:Sz P e size bytes z) (O:∀x,(f x).length=size)
  (U:evP env parts=some vs) (R:l.length=len) (y:us.length=len*size) (o:B63 0 len=true) (u:B7m (len*size) 1000=true)
  (b:Instr.fill (λi=>some (i*size,size)) ((B9z (len*size)).map (z.cells[· % z.cells.size]!)) vs=some us.toArray) (W:∀w,Z w own (Aj (l.flatMap f) us))
  (I:St w0 (own++m) rs w) (h:∀(s:Sv) w',Rel w w'->St w0 (oC (Ac size f l) s.v::m) rs w'->K s.v w'):
  Ex P n env w ⟨some d,.buildSlice t len parts.toArray,ty,pos,af,g⟩ K:=by
 obtain⟨i,hi,A,j,N⟩:=B.info;have C:=B7e u;have r:0<len:=by simpa using o
 have Ax:=B.2.2;have q:¬len*size=0:=by intro D;rcases B9h.1 D with h|h<;>omega
 refine Ha (v:=Sv.v ⟨some ⟨w.heap.size,0,none⟩,len,len⟩) (w':=w.alloc (.cells us.toArray e)) (λa M=>?_) (h _ _ (Rel.alloc w _) (St.newRow I e O R y W ?_))
 ·have F:=M.evP U;have G:(parts.toArray.map λ(i,x)=>(i,a.eval x)).toList=vs:=by rw[B9q,<-F]
  have H:=run_buildSlice (P:=P) w t e len (parts.toArray.map λp=>(p.1,a.eval p.2)) us.toArray i z V hi A (by rw[j];omega) (by rw[j];exact q) (by rw[j,G];exact b);simp only[execOp,Sem.run_bind,H,Result.andThen_ok,Sem.run_pure];rfl
 ·simp only[maxLen];have:len<=len*size:=Cao _ Ax;omega
end
end
section
open Go.RowKit
inductive Lr (σ ρ:Type) where
 |go (s:σ)
 |out (r:ρ)
def xg (p:Prop) [Decidable p] {α:Type} (x:Option α):Option α:=if p then x else none
def Lr.on {a ρ α:Type} (r:Lr a ρ) (f:a->α) (g:ρ->α):α:=match r with
 |.go s=>f s
 |.out r=>g r
def Hc {a ρ:Type} (f:a->Option (Lr a ρ)):Nat->a->Option ρ
 |0,_=>none
 |n+1,s=>(f s).bind λr=>r.on (Hc f n) some
open Classical in
def Bc {a ρ:Type} (f:a->Option (Lr a ρ)) (s:a):Option ρ:=
 if h:∃n r,Hc f n s=some r then some h.choose_spec.choose else none
theorem Aqe{σ ρ f}:∀ {n m:Nat} {s:σ} {r:ρ},Hc f n s=some r->n<=m->Hc f m s=some r
 |0,_,_,_,h,_=>by cases h
 |n+1,0,_,_,_,hm=>by omega
 |n+1,m+1,s,r,h,hm=>by
  unfold Hc at h⊢;cases a:f s with
  |none=>rw[a]at h;cases h
  |some x=>
   rw[a]at h;cases x with
   |go s'=>exact Aqe (n:=n) h (by omega)
   |out b=>exact h
theorem Rk{σ ρ f} {s:σ} {r:ρ}:Bc f s=some r↔∃n,Hc f n s=some r:=by
 unfold Bc;constructor
 ·intro h;split at h
  ·rename_i hx;simp only[B65.injEq]at h;subst h;exact⟨_,hx.choose_spec.choose_spec⟩
  ·cases h
 ·rintro ⟨n,hn⟩;have hx:∃n r,Hc f n s=some r:=⟨n,r,hn⟩;rw[dif_pos hx];have b:=hx.choose_spec.choose_spec;have c:=Aqe b (Nat.le_max_left hx.choose n);have a:=Aqe hn (Nat.le_max_right hx.choose n);rw[c]at a;exact a
theorem Nt{σ ρ} (f:σ->Option (Lr σ ρ)) s:Bc f s=(f s).bind λr=>r.on (Bc f) some:=by
 cases b:f s with
 |none=>
  cases h:Bc f s with
  |none=>rfl
  |some r=>
   obtain⟨n,a⟩:=Rk.1 h;cases n with
   |zero=>cases a
   |succ n=>unfold Hc at a;rw[b]at a;cases a
 |some x=>
  cases x with
  |out r=>show Bc f s=some r;exact Rk.2 ⟨1,by unfold Hc;rw[b];rfl⟩
  |go s'=>
   show Bc f s=Bc f s';cases h:Bc f s' with
   |some r=>obtain⟨n,a⟩:=Rk.1 h;exact Rk.2 ⟨n+1,by unfold Hc;rw[b];exact a⟩
   |none=>
    cases c:Bc f s with
    |none=>rfl
    |some r=>
     obtain⟨n,a⟩:=Rk.1 c;cases n with
     |zero=>cases a
     |succ n=>unfold Hc at a;rw[b]at a;rw[Rk.2 ⟨n,a⟩]at h;cases h
def Ai {a ρ:Type} (f:Nat->a->Option (Lr a ρ)) (e:a->ρ):Nat->Nat->a->Option ρ
 |0,_,s=>some (e s)
 |m+1,k,s=>(f k s).bind λr=>r.on (Ai f e m (k+1)) some
section
variable {α β:Type}
theorem Af{x} {f:α->Option β}{r} (h:x.bind f=some r):∃y,x=some y/\f y=some r:=B7i.1 h
theorem Bf{p} [Decidable p]{x} {r:α} (h:xg p x=some r):p/\x=some r:=by
 unfold xg at h;split at h
 ·exact⟨by assumption,h⟩
 ·cases h
theorem A3o{σ ρ f} {s:σ} {r:ρ} (h:Bc f s=some r):∃n,Hc f n s=some r:=Rk.1 h
theorem Bqn{σ ρ f n} {s:σ} {r:ρ} (h:Hc f n s=some r):∃m z,n=m+1/\f s=some z/\z.on (Hc f m) some=some r:=by
 cases n with
 |zero=>cases h
 |succ m=>obtain⟨z,a,b⟩:=Af (x:=f s) h;exact⟨m,z,rfl,a,b⟩
end
@[reducible] def un {α β : Type} {γ : Sort _} (f : α -> β -> γ) : α × β -> γ
 |(a,b)=>f a b
def Ae (x:Int):Prop:= -9223372036854775808<=x/\x<=9223372036854775807
def Ap4:Int->Bool
 |.ofNat n=>B7m n 9223372036854775807
 |.negSucc n=>B7m n 9223372036854775807
theorem Bp6:∀x,Ap4 x=true↔Ae x
 |.ofNat n=>by have:Ap4 (.ofNat n)=B7m n 9223372036854775807:=rfl;rw[this,Nat.ble_eq];show _↔(-9223372036854775808:Int)<=(n:Int)/\(n:Int)<=9223372036854775807;omega
 |.negSucc n=>by have:Ap4 (.negSucc n)=B7m n 9223372036854775807:=rfl;rw[this,Nat.ble_eq];unfold Ae;omega
instance (x:Int):Decidable (Ae x):=decidable_of_iff _ (Bp6 x)
section
variable {P:Program} {w:World} {w0:Base} {l m:List As} {rs:List Rd} {f:FuncId} {vs:List Value}
theorem St.back {F F1 h S:Bs}{w' l' rs1} (o:RelX w0.X w0.w w) (g:∀b,w0.S b->b.1<w0.w.heap.size/\¬w0.X b) (g2:Sep m h w) (g3:∀b,F1 b->¬h b) (g4:∀b,F1 b->F b) (g5:∀b,h b->F b)
  (j:∀b,F b->w0.w.heap.size<=b.1\/w0.X b) (q:∀r∈rs,r.ok (λb=>(w0.S b\/w0.X b\/w0.w.heap.size<=b.1)/\b.1<w.heap.size/\¬F b) w) (G:Gives F1 S w l' rs1 w') (k:rs1=[]\/∀b,S b->(w0.S b\/w0.X b\/w0.w.heap.size<=b.1)/\¬h b):St w0 (l'++m) (rs1++rs) w':=by
 obtain⟨k2,F',t,p,u⟩:=G;have n:Sep m h w':=g2.loc (k2.lc λb g c=>g3 b c g)
 have s:∀b,F' b->¬h b:=λb g c=>by
  rcases p b g with d|d
  ·have:=g2.lt b c;omega
  ·exact g3 b d c
 refine⟨o.step k2 λb g=>j b (g4 b g),g,_,Sep.join t n s,λb a=>?_,λr i=>?_⟩
 ·rcases a with a|a
  ·rcases p b a with c|c
   ·have:=o.size;exact .inl (by omega)
   ·exact j b (g4 b c)
  ·exact j b (g5 b a)
 ·rcases B6g.1 i with i|i
  ·rcases k with rfl|k
   ·cases i
   ·refine r.mono (λb a=>⟨?_,a.2.1,λc=>?_⟩) (Lc.refl _ _) (u r i)
    ·rcases a.1 with c|c|c
     ·exact(k b c).1
     ·exact .inr ((j b (g4 b c)).elim .inr .inl)
     ·have:=o.size;exact .inr (.inr (by omega))
    ·rcases c with c|c
     ·exact a.2.2 c
     ·rcases a.1 with d|d|d
      ·exact(k b d).2 c
      ·exact g3 b d c
      ·have:=g2.lt b c;omega
  ·refine r.mono (λb a=>⟨a.1,B6w a.2.1 k2.size,λc=>?_⟩) (k2.lc λb a e=>a.2.2 (g4 b e)) (q r i);rcases c with c|c
   ·rcases p b c with d|d
    ·have:=a.2.1;omega
    ·exact a.2.2 (g4 b d)
   ·exact a.2.2 (g5 b c)
theorem St.callO {Y:Type} {val:Y->Value} {l':Y->List As} (h:St w0 (l++m) rs w)
  (q:∀X S:Bs,Sep l X w->(∀b,S b->b.1<w.heap.size/\¬X b)->(∀r∈rs,r.ok S w)->(∀a∈m,∃F,(∀b,F b->S b)/\a.ok F w)->Ret P f vs w (λu w'=>∃y,u=val y/\Gives X S w (l' y) [] w')):
  Ret P f vs w (λu w'=>∃y,u=val y/\St w0 (l' y++m) rs w'):=by
 obtain⟨i,p,F,j,k,e⟩:=h;obtain⟨F1,t,g1,g2,g3,g4,g5⟩:=j.split;refine(q F1 (λb=>b.1<w.heap.size/\¬F1 b) g1 (λ_ h=>h) (λr s=>r.mono (λb c=>⟨c.2.1,λd=>c.2.2 (g4 b d)⟩) (Lc.refl _ _) (e r s)) (λa o=>?_)).mono λu w' ⟨y,hu,G⟩=>⟨y,hu,St.back i p g2 g3 g4 g5 k e G (.inl rfl)⟩;obtain⟨F',g,n⟩:=g2.mem o;exact⟨F',λb c=>⟨g2.lt b (g b c),λd=>g3 b d (g b c)⟩,n⟩
theorem St.callR {Y:Type} {val:Y->Value} {l':Y->List As} {rs1:Y->List Rd} (h:St w0 (l++m) rs w)
  (k:∀X S:Bs,Sep l X w->(∀b,S b->b.1<w.heap.size/\¬X b)->(∀r∈rs,r.ok S w)->Ret P f vs w (λu w'=>∃y,u=val y/\Gives X S w (l' y) (rs1 y) w')):
  Ret P f vs w (λu w'=>∃y,u=val y/\St w0 (l' y++m) (rs1 y++rs) w'):=by
 obtain⟨e,j,F,g,i,d⟩:=h;obtain⟨F1,n,g1,g2,g3,g4,g5⟩:=g.split;refine(k F1 (λb=>(w0.S b\/w0.X b\/w0.w.heap.size<=b.1)/\b.1<w.heap.size/\¬F b) g1 (λb a=>⟨a.2.1,λc=>a.2.2 (g4 b c)⟩) d).mono λu w' ⟨y,hu,G⟩=>⟨y,hu,St.back e j g2 g3 g4 g5 i d G (.inr λb a=>⟨a.1,λc=>a.2.2 (g5 b c)⟩)⟩
theorem Gives.rel{S w'} (h:Gives (λ_=>False) S w m rs w'):Rel w w':=h.relx.rel λ_ h=>h
theorem St.callF {Y:Type} {val:Y->Value} {l':Y->List As} (h:St w0 m rs w)
  (p:∀X S:Bs,Sep [] X w->(∀b,S b->b.1<w.heap.size/\¬X b)->(∀r∈rs,r.ok S w)->(∀a∈m,∃F,(∀b,F b->S b)/\a.ok F w)->Ret P f vs w (λu w'=>∃y,u=val y/\Gives X S w (l' y) [] w')):
  Ret P f vs w (λu w'=>Rel w w'/\∃y,u=val y/\St w0 (l' y++m) rs w'):=by
 obtain⟨g,o,F,d,i,e⟩:=h;refine(p (λ_=>False) (λb=>b.1<w.heap.size) (λ_ h=>h.elim) (λ_ h=>⟨h,λh=>h⟩) (λr q=>r.mono (λb c=>c.2.1) (Lc.refl _ _) (e r q)) (λa n=>?_)).mono λu w' ⟨y,hu,G⟩=>⟨G.rel,y,hu,St.back (F1:=λ_=>False) g o d (λ_ h=>h.elim) (λ_ h=>h.elim) (λ_ h=>h) i e G (.inl rfl)⟩;obtain⟨F',j,k⟩:=d.mem n;exact⟨F',λb c=>d.lt b (j b c),k⟩
theorem St.callFR {Y:Type} {val:Y->Value} {l':Y->List As} {rs1:Y->List Rd} (h:St w0 m rs w)
  (k:∀X S:Bs,Sep [] X w->(∀b,S b->b.1<w.heap.size/\¬X b)->(∀r∈rs,r.ok S w)->Ret P f vs w (λu w'=>∃y,u=val y/\Gives X S w (l' y) (rs1 y) w')):
  Ret P f vs w (λu w'=>Rel w w'/\∃y,u=val y/\St w0 (l' y++m) (rs1 y++rs) w'):=by
 obtain⟨e,j,F,g,i,c⟩:=h;exact(k (λ_=>False) (λb=>(w0.S b\/w0.X b\/w0.w.heap.size<=b.1)/\b.1<w.heap.size/\¬F b) (λ_ h=>h.elim) (λb a=>⟨a.2.1,λd=>d⟩) c).mono λu w' ⟨y,hu,G⟩=>⟨G.rel,y,hu,St.back (F1:=λ_=>False) e j g (λ_ h=>h.elim) (λ_ h=>h.elim) (λ_ h=>h) i c G (.inr λb a=>⟨a.1,a.2.2⟩)⟩
theorem Bxp{S c v vl} (h:∀a∈m,∃F,(∀b,F b->S b)/\a.ok F w) (g:oV (oC c v) vl∈m):c.rd S w v:=by obtain⟨F,d,e,_⟩:=h _ g;exact c.mono d (Lc.refl _ _) (c.seen e)
theorem Bxq{S c v o vl} (h:∀a∈m,∃F,(∀b,F b->S b)/\a.ok F w) (g:oV o vl∈m) (i:vR v c∈vl):c.rd S w v:=by obtain⟨F,d,_,e⟩:=h _ g;exact c.mono d (Lc.refl _ _) (e _ i)
end
end
section
open Go.RowKit
theorem Ai7 {A:Type} {l:List A}{q a} (h:q<l.length):l.set q a=l.take q++[a]++l.drop (q+1):=by rw[List.set_eq_take_append_cons_drop,if_pos h];simp
theorem Bge:∀ {q:Nat} {cs:List Ce} {vs:List Value} {c:Ce} {v:Value},cs[q]?=some c->vs[q]?=some v->(Aj cs vs)[q]?=some (oC c v)
 |0,c::cs,v::vs,_,_,h1,h2=>by simp at h1 h2;subst h1;subst h2;rfl
 |q+1,c::cs,v::vs,_,_,h1,h2=>by simp only[Aj,Caq];exact Bge (by simpa using h1) (by simpa using h2)
 |_,[],_,_,_,h1,_=>by simp at h1
 |_,_::_,[],_,_,_,h2=>by simp at h2
theorem Am5:∀ {cs:List Ce} {vs:List Value},cs.length=vs.length->(Aj cs vs).length=vs.length
 |[],[],_=>rfl
 |[],_::_,h=>by simp at h
 |_::_,[],h=>by simp at h
 |_::_,_::_,h=>by simp[Aj];exact Am5 (by simpa using h)
theorem Btj {A:Type} {l:List A}{q a} (h:l[q]?=some a):l.Perm (a::l.eraseIdx q):=by
 obtain⟨d,rfl⟩:=B55.1 h;rw[B8z];have b:l=l.take q++l[q]::l.drop (q+1):=by simp
 conv=>lhs;rw[b]
 exact B5u
theorem A5w {A:Type} {l:List A}{q a} (h:q<l.length):(a::l.eraseIdx q).Perm (l.set q a):=by rw[B8z,Ai7 h,B5r];exact B5u.symm
def H0 (k:Nat) {T:Type} (f:T->List Ce) (L:List T) (v:Value) (q:Nat) (u:Value):As where
 ok:=λF w=>∃xs:List Value,(L.flatMap f).length=xs.length/\xs[q]?=some u/\Sep (Bb k v L.length xs::(Aj (L.flatMap f) xs).eraseIdx q) F w
 loc:=λh ⟨xs,b,d,a⟩=>⟨xs,b,d,a.loc h⟩
 lt:=λ⟨_,_,_,a⟩ e=>a.lt _ e
 up:=λi g ⟨xs,b,d,a⟩=>⟨xs,b,d,a.up i g⟩
section
variable {w0:Base} {w w':World} {m l l' own:List As} {rs:List Rd} {c c':Ce} {v:Value} {S:Bs}
variable {T:Type} {k:Nat} {f:T->List Ce} {L:List T}
theorem Aiv{F n xs} (h:(Bb k v n xs).ok F w){j u} (a:xs[j]?=some u):w.cell? (Ch v j)=some u:=by
 obtain⟨_,g,o⟩:=h;rcases o with⟨rfl,q⟩|⟨b,off,cap,i,e,s,rfl,r,⟨p,_⟩,_,_,_,d⟩
 ·rw[q,B7n]at g;rw[B53 g]at a;simp at a
 ·exact Aiu p d a
def oRe (k:Nat) {T:Type} (f:T->List Ce) (L:List T) (v:Value) (hi:Nat):As where
 ok:=λF w=>∃xs:List Value,(L.flatMap f).length=xs.length/\Sep (Bb k v L.length xs::(Aj (L.flatMap f) xs).drop (hi*k)) F w
 loc:=λh ⟨xs,b,a⟩=>⟨xs,b,a.loc h⟩
 lt:=λ⟨_,_,a⟩ d=>a.lt _ d
 up:=λg e ⟨xs,b,a⟩=>⟨xs,b,a.up g e⟩
theorem oRe.cut (a:∀x,(f x).length=k) {s:Sv}{hi lo} (g:hi<=lo) (i:lo<=L.length){F} (h:(oRe k f L s.v hi).ok F w):(Ac k f ((L.take L.length).drop lo)).ow F w (s.cut k lo L.length).v:=by obtain⟨xs,hx,d,F1,b,g1,g2,g3,g4,g5⟩:=h;have j:=B5v k g;have e:=g2.drop (lo*k-hi*k);rw[B7o,show hi*k+(lo*k-hi*k)=lo*k by omega]at e;refine Own.cut' a i (B6i _) hx ⟨d,F1,b,g1,?_,g3,g4,g5⟩;rw[B7a (by rw[Am5 hx,<-hx,Ic a];exact B6i _)];exact e
theorem oRe.form{F} {s:Sv}{hi} (h:(oRe k f L s.v hi).ok F w):s.n=L.length/\s.n<=s.c:=by
 obtain⟨xs,hx,t,F1,o,⟨g0,r,i⟩,_⟩:=h;rcases i with⟨e,z⟩|⟨b,off,cap,a,q,x,e,u,y,j,_⟩
 ·obtain⟨d,e2,g⟩:s.p=none/\s.n=0/\s.c=0:=by simpa [Sv.v]using e
  omega
 ·obtain⟨d,e2,g⟩:s.p=some ⟨b,off,none⟩/\s.n=L.length/\s.c=cap:=by simpa [Sv.v]using e
  omega
theorem B4z{P n env ty pos af K} {d:Nat}{x y t e size bytes hi z} {s g:Sv}{f M} (ht:P.underlying t=some (.slice e)) (hs:Sz P e size bytes z) (hx:ev env x=some (g.cut size 0 hi).v) (a2:ev env y=some s.v)
  (O:∀x,(f x).length=size) (G:hi<=M.length) (hM:St w0 (oC (Ac size f L) s.v::oC (Ac size f M) g.v::m) rs w) (V:L.length+hi<=1099511627776) (a0:B7m bytes 127=true)
  (h:∀(s':Sv) w',St w0 (oC (Ac size f (L++M.take hi)) s'.v::oRe size f M g.v hi::m) rs w'->K (s'.v) w'):
  Ex P n env w ⟨some d,.call {callee:=.builtin .append,args:= #[y,x],argTypes:= #[t,t]},ty,pos,af,none⟩ K:=by
 have a3:=St.unrow (hM.perm (List.Perm.swap ..));obtain⟨xs,hl,A⟩:=a3;have H:=A.at' (B5n ..);have W:=A.drop
 have i:∀j u,xs[j]?=some u->∃a,g.p=some a/\w.cell? (a.add j)=some u:=λj u o=>by
  obtain⟨F,_,gl,gr⟩:=H;rcases gr with⟨e1,hn⟩|⟨b,off,cap,b1,e',hd,e1,hb,⟨hg,_⟩,_,_,_,a5⟩
  ·rw[hn,B7n]at gl;rw[B53 gl]at o;simp at o
  ·obtain⟨ep,_⟩:g.p=some ⟨b,off,none⟩/\_:=by simpa [Sv.v]using e1
   rw[<-a5,B68]at o;split at o
   ·rw[B6y,B7b]at o;exact⟨_,ep,by rw[Addr.add_lit];simp[World.cell?,hg,o]⟩
   ·cases o
 have N:Aj ((M.take hi).flatMap f) (xs.take (hi*size))=(Aj (M.flatMap f) xs).take (hi*size):=by rw[Xf O,Ae3]
 have c1:=B5v size G;have Y:(M.flatMap f).length=M.length*size:=Ic O M;have B:((M.take hi).flatMap f).length=(xs.take (hi*size)).length:=by rw[Xf O,B5x,B5x,hl]
 have C:∃S,Br S w ((M.take hi).flatMap f) (xs.take (hi*size)):=by obtain⟨_,_,F,h2,_⟩:=W;obtain⟨F1,_,U,_⟩:=h2.split;exact⟨F1,Zx B (by rw[N];exact U.take _)⟩
 obtain⟨S,C⟩:=C
 have e0:(g.cut size 0 hi).v=.slice g.p hi g.c:=by
  have R:(if g.c=0 then g.p else g.p.map (·.add (0*size)))=g.p:=by
   split
   ·rfl
   ·cases g.p with
    |none=>rfl
    |some a=>simp[Addr.add]
  simp only[Sv.cut,Sv.v,Cad,R]
 have I:Src P size t (g.cut size 0 hi).v hi (xs.take (hi*size)) w:=by
  rw[e0];cases R:g.p with
  |none=>
   have a6:xs=[]:=by
    cases xs with
    |nil=>rfl
    |cons u r=>obtain⟨a,q,_⟩:=i 0 u rfl;rw[R]at q;cases q
   subst a6
   have hz:hi=0:=by
    have:=hs.2.2;have:M.length*size=0:=by rw[<-Y,hl];rfl
    rcases B9h.1 this with h|h<;>omega
   subst hz;simpa using Src.ofNil w ht _
  |some a=>
   exact Src.ofSlice w ht a _ _ _ (by rw[<-B,Ic O,B5x,B7q G]) (λj u o=>by
    rw[B68]at o;split at o
    ·obtain⟨a',q,hc⟩:=i j u o;rw[R]at q;cases q;exact hc
    ·cases o) (Ab4 C)
 have D:bytes<=127:=by simpa using a0
 have X:St w0 (oC (Ac size f L) s.v::(Aj ((M.take hi).flatMap f) (xs.take (hi*size))++(Bb size g.v M.length xs::((Aj (M.flatMap f) xs).drop (hi*size)++m)))) rs w:=by
  refine A.perm ?_;rw[N]
  conv=>lhs;rw[<-B6t (hi*size) (Aj (M.flatMap f) xs)]
  have p1:(Bb size g.v M.length xs::((Aj (M.flatMap f) xs).take (hi*size)++(Aj (M.flatMap f) xs).drop (hi*size)++oC (Ac size f L) s.v::m)).Perm (oC (Ac size f L) s.v::Bb size g.v M.length xs::((Aj (M.flatMap f) xs).take (hi*size)++((Aj (M.flatMap f) xs).drop (hi*size)++m))):=by refine((B5u (a:=oC (Ac size f L) s.v)).cons _).trans ((List.Perm.swap ..).trans ?_);rw[B5r]
  exact p1.trans (B5u.symm.cons _)
 obtain⟨s',w',hr,U⟩:=St.app (tyy:=ty) (M:=M.take hi) ht hs X I (by rw[B5x];omega) B zI (by simp only[maxLen];omega) (by
  have:=B70 V D;omega)
 have h4:St w0 (oC (Ac size f (L++M.take hi)) s'.v::oRe size f M g.v hi::m) rs w':=by
  have h5:St w0 ((Bb size g.v M.length xs::(Aj (M.flatMap f) xs).drop (hi*size))++(oC (Ac size f (L++M.take hi)) s'.v::m)) rs w':=U.perm (by
   rw[B6a];exact(List.Perm.swap ..).trans (B5u.symm.cons _))
  exact(St.iso (l':=[oRe size f M g.v hi]) h5 λF hF=>⟨hF.lt,F,λ_=>False,⟨xs,hl,hF⟩,(λ_ h=>h.elim),(λ_ _ h=>h),(λ_ h=>h),λ_ h=>h.elim⟩).perm (List.Perm.swap ..)
 refine Ha (v:=s'.v) (w':=w') (λa q=>?_) (h s' w' h4);simp[execOp,resolve,invoke,builtin,q.ev a2,q.ev hx,hr]
theorem St.open [Inhabited T]{vl i j} {s:Sv} (h:St w0 (oV (oC (Ac k f L) v) vl::m) rs w) (B:vC (Ch v (i*k+j)) s.v∈vl) (q:∀x,(f x).length=k) (hi:i<L.length) (p:(f (el L i))[j]?=some c):
  St w0 (oC c s.v::H0 k f L v (i*k+j) s.v::m) rs w:=by
 refine St.iso (l:=[oV (oC (Ac k f L) v) vl]) (l':=[oC c s.v,H0 k f L v (i*k+j) s.v]) h λF ⟨y,F1,K,⟨⟨xs,g1,g2⟩,gv⟩,_,_,o,_⟩=>?_;have z:j<k:=by have:=(B55.1 p).1;rwa [q]at this
 have r:(L.flatMap f)[i*k+j]?=some c:=by rw[Agn q L i j hi z];exact p
 have d:i*k+j<xs.length:=by rw[<-g1];exact(B55.1 r).1
 have a:w.cell? (Ch v (i*k+j))=some s.v:=(gv _ B).2.2;obtain⟨_,M,_,C,_⟩:=id g2;have hx:xs[i*k+j]?=some s.v:=by have:=Aiv C (B5p d);rw[this]at a;rw[B5p d];exact a
 have A:=Btj (Bge r hx);have g3:Sep (oC c s.v::Bb k v L.length xs::(Aj (L.flatMap f) xs).eraseIdx (i*k+j)) F1 w:=g2.perm ((A.cons _).trans (List.Perm.swap ..));obtain⟨N,u,g,D,t,G,H,I⟩:=g3;exact⟨y,u,g,D,⟨t.lt,g,λ_=>False,⟨xs,g1,hx,t⟩,(λ_ h=>h.elim),(λ_ _ h=>h),(λ_ h=>h),λ_ h=>h.elim⟩,G,λb e=>o b (H b e),λb e=>o b (I b e)⟩
theorem St.close [Inhabited T]{i j u} a (h:St w0 (oC c' u::H0 k f L v (i*k+j) u::m) rs w) (H:∀x,(f x).length=k) (hi:i<L.length) (I:B63 j k=true) (D:f a=(f (el L i)).set j c'):St w0 (oC (Ac k f (L.set i a)) v::m) rs w:=by
 refine St.iso (l:=[oC c' u,H0 k f L v (i*k+j) u]) (l':=[oC (Ac k f (L.set i a)) v]) h λF ⟨g,F1,s,A,⟨_,N,_,⟨xs,g1,g2,g3⟩,_,_,g5,_⟩,B,C,t⟩=>?_;have o:j<k:=by simpa using I
 have e:=g3.up (F':=s) g5 (λb G=>g b (t b G));obtain⟨p,hx⟩:=B55.1 g2;have d:(L.set i a).flatMap f=(L.flatMap f).set (i*k+j) c':=Ago H L i j c' a hi o D
 have M:Aj ((L.set i a).flatMap f) xs=(Aj (L.flatMap f) xs).set (i*k+j) (oC c' u):=by
  have r:∀(q:Nat) (cs:List Ce) (vs:List Value),vs[q]?=some u->Aj (cs.set q c') vs=(Aj cs vs).set q (oC c' u):=by
   intro q;induction q with
   |zero=>intro cs vs K;cases cs<;>cases vs<;>simp_all [Aj]
   |succ q O=>intro cs vs K;cases cs<;>cases vs<;>simp_all [Aj]
  rw[d,r _ _ _ g2]
 have y:Sep (Bb k v L.length xs::Aj ((L.set i a).flatMap f) xs) F w:=by have z:Sep (oC c' u::Bb k v L.length xs::(Aj (L.flatMap f) xs).eraseIdx (i*k+j)) F w:=⟨g,F1,s,A,e,B,C,t⟩;rw[M];exact z.perm ((List.Perm.swap ..).trans ((A5w (by rw[Am5 g1];exact p)).cons _))
 exact⟨g,F,λ_=>False,⟨xs,by rw[d,B6v,g1],by rw[B6v];exact y⟩,(λ_ h=>h.elim),(λ_ _ h=>h),(λ_ h=>h),λ_ h=>h.elim⟩
theorem St.more{r} (h:St w0 m rs w) (j:∀S,(∀r∈rs,r.ok S w)->r.ok S w):St w0 m (r::rs) w:=by
 obtain⟨d,i,F,e,g,b⟩:=h;refine⟨d,i,F,e,g,λo a=>?_⟩;rcases B5t.1 a with rfl|a
 ·exact j _ b
 ·exact b o a
theorem St.nilS (h:St w0 m rs w) k f:St w0 (Bb k (.slice none 0 0) ([]:List T).length []::m) (rX [] (([]:List T).flatMap f)::rs) w:=
 (h.pure (A6z k)).more λ_ _=>rfl
theorem St.toS (h:St w0 (oC (Ac k f L) v::m) rs w):∃xs,St w0 (Bb k v L.length xs::m) (rX xs (L.flatMap f)::rs) w:=by obtain⟨xs,e,a⟩:=h.unrow;refine⟨xs,?_⟩;have b:=a.perm (m':=Aj (L.flatMap f) xs++(Bb k v L.length xs::m)) B5u.symm;exact St.fix (l:=Aj (L.flatMap f) xs) (r:=rX xs (L.flatMap f)) b λF d=>Zx e d
theorem St.sealS{xs} (h:St w0 (Bb k v L.length xs::m) rs w) (_hf:∀x,(f x).length=k) (O:rX xs (L.flatMap f)∈rs):St w0 m (rV v (Ac k f L)::rs) w:=by
 obtain⟨K,N,F,M,A,B⟩:=h;obtain⟨I,F1,z,g1,g2,g3,g4,g5⟩:=M;have hx:=B _ O;refine⟨K,N,z,g2,λb a=>A b (g5 b a),λr d=>?_⟩;rcases B5t.1 d with rfl|d
 ·have y:Br (λb=>(w0.S b\/w0.X b\/w0.w.heap.size<=b.1)/\b.1<w.heap.size/\¬z b) w (L.flatMap f) xs:=U2 (λb a=>⟨a.1,a.2.1,λi=>a.2.2 (g5 b i)⟩) (Lc.refl _ _) _ _ hx;obtain⟨_,G,H⟩:=id g1;rcases H with⟨rfl,C⟩|⟨b,off,cap,D,e,V,rfl,p,W,g,q,R,U⟩
  ·exact⟨none,0,by rw[C],by omega,by simp[maxLen],λt=>absurd (B53 C) t⟩
  ·refine⟨_,cap,rfl,g,q,λ_=>⟨b,off,xs,rfl,λj s=>?_,G,λj u s=>?_,y⟩⟩
   ·have o:=p j (B6w s (B5v _ g));exact⟨.inr ((A _ (g4 _ o)).elim .inr .inl),I _ (g4 _ o),g3 _ o⟩
   ·have:=Aiv g1 s;simpa [Ch]using this
 ·exact r.mono (λb a=>⟨a.1,a.2.1,λi=>a.2.2 (g5 b i)⟩) (Lc.refl _ _) (B r d)
theorem St.unV{o vl} (h:St w0 (oV o vl::m) rs w){r} (e:∀F,(∀x∈vl,x.ok F w)->o.ok F w->r.ok F w):St w0 m (r::rs) w:=
 St.fix (l:=[oV o vl]) (r:=r) h λ_F ⟨_,F1,_,⟨a,b⟩,_,_,d,_⟩=>r.mono d (Lc.refl _ _) (e F1 b a)
end
section
variable {P:Program} {n:Nat} {ops:Array Oper} {Q:Post} {env:Env} {w:World} {w0:Base} {rest:List Oper} {ty:TypeId} {pos:String} {af:Array Edge} {m own:List As} {rs:List Rd}
variable {T:Type} {k:Nat} {f:T->List Ce} {L:List T}
theorem A9q{d1 q x y t e ty2 pos2 af2 size bytes z v} {s:Sv}{xs} a (C:B63 d1 n=true) (D:B63 q n=true)
  (I:P.underlying t=some (.slice e)) (N:Sz P e size bytes z) (hx:ev env x=some v) (o:v.cells.size=size) (G:B7m size 1000=true) (H:∀u,ev ((d1,u)::env) y=some s.v)
  (V:St w0 (Bb size s.v L.length xs::m) rs w) (F:rX xs (L.flatMap f)∈rs) (Y:∀S w,(∀r∈rs,r.ok S w)->Br S w (f a) v.cells.toList) (g:v.cells.toList.all (·.oneCell')=true) (U:L.length<1099511627776) (B:B7m bytes 127=true)
  (h:∀u (s':Sv) xs' w',St w0 (Bb size s'.v (L++[a]).length xs'::m) (rX xs' ((L++[a]).flatMap f)::rs) w'->WL P n ops rest Q ((q,s'.v)::(d1,u)::env) w'):
  WL P n ops (⟨some d1,.buildSlice t 1 #[(0,x)],ty,pos,af,none⟩::⟨some q,.call {callee:=.builtin .append,args:= #[y,.tmp d1],argTypes:= #[t,t]},ty2,pos2,af2,none⟩::rest) Q env w:=by
 have W:=A64 (P:=P) (w:=w) I N o G;have d:bytes<=127:=by simpa using B
 refine wv C (v:=.slice (some ⟨w.heap.size,0,none⟩) 1 1) (w':=w.alloc (.cells v.cells e)) (λa p=>by simp[execOp,p.ev hx,W]) ?_;have A:=V.call (Rel.alloc w (.cells v.cells e));have b:(w.alloc (.cells v.cells e)).heap[w.heap.size]?=some (.cells v.cells e (0,0)):=heap_alloc_new w _
 have i:Src P size t (.slice (some ⟨w.heap.size,0,none⟩) 1 1) 1 v.cells.toList (w.alloc (.cells v.cells e)):=
  Src.ofSlice _ I _ _ _ _ (by simp[o]) (λj u M=>by
   rw[Addr.add_lit,B7x];rw[B7b]at M;simp only[World.cell?,b,B71,B6q,if_false,M]) (λu hu=>B6b.1 g u hu)
 obtain⟨s',w',X,R⟩:=A.appRow (tyy:=ty2) I N i (by simp only[maxLen];omega) (by
  have:=B70 (show L.length+1<=1099511627776 by omega) d;omega)
 refine wv D (v:=s'.v) (w':=w') (λa p=>?_) (h _ s' (xs++v.cells.toList) w' ?_)
 ·have O:=p.ev (H _);have e2:a.eval (.tmp d1)=.slice (some ⟨w.heap.size,0,none⟩) 1 1:=p.ev (x:=.tmp d1) (by simp[ev,lk]);simp[execOp,resolve,invoke,builtin,O,e2,X]
 ·rw[B5m,B51];refine R.more λS K=>?_;show Br S w' _ _;rw[B60,B6h,List.flatMap_nil,B6o];exact Ye (K _ F) (Y S w' K)
theorem B40{K} {d:Nat}{x y t e size bytes z xv} {s:Sv}{xs M} (I:P.underlying t=some (.slice e)) (U:Sz P e size bytes z) (hx:ev env x=some xv) (C:ev env y=some s.v)
  (_hf:∀x,(f x).length=size) (R:St w0 (Bb size s.v L.length xs::m) rs w) (B:rX xs (L.flatMap f)∈rs) (i:rV xv (Ac size f M)∈rs) (p:L.length+M.length<=1099511627776) (A:B7m bytes 127=true)
  (h:∀(s':Sv) xs' w',St w0 (Bb size s'.v (L++M).length xs'::m) (rX xs' ((L++M).flatMap f)::rs) w'->K (s'.v) w'):
  Ex P n env w ⟨some d,.call {callee:=.builtin .append,args:= #[y,x],argTypes:= #[t,t]},ty,pos,af,none⟩ K:=by
 have g:bytes<=127:=by simpa using A
 have D:∃us,Src P size t xv M.length us w/\St w0 (Bb size s.v L.length xs::m) (rX us (M.flatMap f)::rs) w:=by
  obtain⟨N,u,F,O,o,j⟩:=R;obtain⟨us,g1,g2⟩:=Cs.src I (rVg (j _ i));refine⟨us,g1,N,u,F,O,o,λr b=>?_⟩;rcases B5t.1 b with rfl|b
  ·exact g2
  ·exact j r b
 obtain⟨us,C1,q⟩:=D
 obtain⟨s',w',b,o⟩:=q.appRow (tyy:=ty) I U C1 (by simp only[maxLen];omega) (by
  have:=B70 p g;omega)
 refine Ha (v:=s'.v) (w':=w') (λa H=>?_) (h s' (xs++us) w' ?_)
 ·simp[execOp,resolve,invoke,builtin,H.ev C,H.ev hx,b]
 ·rw[B5m];have j:=o.more (r:=rX (xs++us) ((L++M).flatMap f)) λS G=>by show Br S w' _ _;rw[B60];exact Ye (G _ (B5j _ B)) (G _ (B5n ..))
  obtain⟨V,u,F,W,X,Y⟩:=j;refine⟨V,u,F,W,X,λr b=>Y r ?_⟩;rcases B5t.1 b with rfl|b
  ·exact B5n ..
  ·exact B5j _ (B5j _ b)
theorem B44{K} {d:Nat}{t e size bytes z parts vs} (l:List T) us len (W:P.underlying t=some (.slice e)) (C:Sz P e size bytes z)
  (V:evP env parts=some vs) (U:l.length=len) (o:us.length=len*size) (j:B63 0 len=true) (A:B7m (len*size) 1000=true)
  (b:Instr.fill (λi=>some (i*size,size)) ((B9z (len*size)).map (z.cells[· % z.cells.size]!)) vs=some us.toArray) (X:∀S w,(∀r∈rs,r.ok S w)->Br S w (l.flatMap f) us)
  (M:St w0 m rs w) (h:∀(s:Sv) w',Rel w w'->St w0 (Bb size s.v l.length us::m) (rX us (l.flatMap f)::rs) w'->K s.v w'):
  Ex P n env w ⟨some d,.buildSlice t len parts.toArray,ty,pos,af,none⟩ K:=by
 obtain⟨i,hi,B,g,R⟩:=C.info;have D:=B7e A;have y:0<len:=by simpa using j
 have Ax:=C.2.2;have u:¬len*size=0:=by intro F;rcases B9h.1 F with h|h<;>omega
 have q:len<=maxLen:=by simp only[maxLen];have:len<=len*size:=Cao _ Ax;omega
 refine Ha (v:=Sv.v ⟨some ⟨w.heap.size,0,none⟩,len,len⟩) (w':=w.alloc (.cells us.toArray e)) (λa O=>?_) (h _ _ (Rel.alloc w _) ?_)
 ·have G:=O.evP V;have H:(parts.toArray.map λ(i,x)=>(i,a.eval x)).toList=vs:=by rw[B9q,<-G]
  have I:=run_buildSlice (P:=P) w t e len (parts.toArray.map λp=>(p.1,a.eval p.2)) us.toArray i z W hi B (by rw[g];omega) (by rw[g];exact u) (by rw[g,H];exact b);simp only[execOp,Sem.run_bind,I,Result.andThen_ok,Sem.run_pure];rfl
 ·rw[U];exact(M.allocRow (k:=size) (n:=len) (cap:=len) us [] us.toArray e (by simp) o (B6i _) q (by simpa using o)).more λS N=>X S _ N
end
end
section
open Go.RowKit
def nS:Sv:=⟨none,0,0⟩
section
variable {w0:Base} {w w':World} {m l l' own:List As} {rs rs':List Rd} {c c':Ce} {v:Value} {S:Bs}
variable {T:Type} {k:Nat} {f:T->List Ce} {L:List T}
theorem St.fewer (h:St w0 m rs w) (p:∀r∈rs',r∈rs):St w0 m rs' w:=by obtain⟨a,j,F,b,e,i⟩:=h;exact⟨a,j,F,b,e,λr o=>i r (p r o)⟩
end
section
variable {P:Program} {n:Nat} {env:Env} {w:World} {d:Option Tmp} {ty:TypeId} {pos:String} {af:Array Edge} {g:Option (Nat×Bool)} {Q:Post}
theorem Bur{f caps vs} (h:evs env caps=some vs):Runs P n env w ⟨d,.makeFunc (.func f) #[] caps.toArray,ty,pos,af,g⟩ (.func (.func f) #[] vs.toArray) w:=λa e=>by have b:=e.evs _ _ h;simp only[execOp,Instr.makeFunc,B93,b,Sem.run_bind,Sem.run_pure,Result.andThen_ok];rfl
theorem B4g (x:UInt8):IntKind.i64.wrap (x.toNat:Int)=(x.toNat:Int):=i64_in (by have:=x.toNat_lt;omega)
theorem Bvv{w0 m rs} {a t b:Nat}{fs size bytes z} {cs:List Value}{e} (s:P.underlying t=some (.struct fs)) (r:Sz P t size bytes z) (p:cs.length=size) (hx:lk env a=some (.pointer (some ⟨b,0,none⟩)))
  (i:St w0 m rs w) (q:A2 b cs.toArray e∈m):RV P w env (.cell a t) (.agg cs.toArray):=by
 refine⟨_,hx,?_⟩;have h:=run_loadCells_list (P:=P) (w:=w) ⟨b,0,none⟩ cs (λj u o=>by rw[Addr.add_lit,B7x];exact Ae9 i q (by simpa using o));rw[p]at h;simp[loadVar,isAgg,run_underlying s,r.run,h]
theorem Bvw{w0 m rs} {a t b:Nat}{td cs v e} (r:P.underlying t=some td) (q:Xz td=true) (hx:lk env a=some (.pointer (some ⟨b,0,none⟩)))
  (j:St w0 m rs w) (p:A2 b cs e∈m) (o:cs[0]?=some v):RV P w env (.cell a t) v:=by
 refine⟨_,hx,?_⟩;have i:=Ae9 j p o;have h:(isAgg t).run P w=.ok false w:=by simp only[isAgg,Sem.run_bind,run_underlying r,Result.andThen_ok];cases td<;>first|rfl|cases q
 simp only[loadVar,Sem.run_bind,h,Result.andThen_ok,B6q,if_false,run_load,i]
end
end
section
open Go.RowKit
section
variable {P:Program} {ops:Array Oper} {QA:Act->World->Prop}
end
section
variable {P:Program} {n:Nat} {l:List Oper} {Q:Post} {env:Env} {w:World} {listed:Array Bool}
end
section
variable {P:Program} {n:Nat} {env:Env} {w:World} {ty:TypeId} {pos:String} {af:Array Edge} {w0:Base} {m:List As} {rs:List Rd} {T:Type} {f:T->List Ce}
theorem A91{K} {d:Nat}{t e size bytes z} (k:P.underlying t=some (.slice e)) (j:Sz P e size bytes z) (i:∀x,(f x).length=size) (c:St w0 m rs w)
  (h:∀(b:Nat) w',Rel w w'->St w0 (oC (Ac size f ([]:List T)) (Sv.v ⟨some ⟨b,0,none⟩,0,0⟩)::m) rs w'->K (Sv.v ⟨some ⟨b,0,none⟩,0,0⟩) w'):Ex P n env w ⟨some d,.buildSlice t 0 #[],ty,pos,af,none⟩ K:=by
 refine Ha (v:=Sv.v ⟨some ⟨w.heap.size,0,none⟩,0,0⟩) (w':=w.alloc (.cells #[] e)) (λa o=>?_) (h _ _ (Rel.alloc w _) ?_)
 ·simp[execOp,Instr.buildSlice,run_underlying k,j.run,Instr.fill,Go.newRow];rw[show(B9z 0).map (λ_=>(default:Value))= #[]from by simp];exact⟨rfl,rfl⟩
 ·exact St.newRow (own:=[]) (us:=[]) c e i rfl (by simp) (λ_=>zN) (by simp[maxLen])
theorem A9z{K} {d:Nat}{x y t e size bytes z xv b M S} (D:P.underlying t=some (.slice e)) (W:Sz P e size bytes z) (hx:ev env x=some xv) (O:ev env y=some (Sv.v ⟨some ⟨b,0,none⟩,0,0⟩))
  (B:(Ac size f M).rd S w xv) (r:FlatE f) (Y:St w0 (oC (Ac size f ([]:List T)) (Sv.v ⟨some ⟨b,0,none⟩,0,0⟩)::m) rs w) (F:0+M.length<=1099511627776) (H:B7m bytes 127=true)
  (h:∀(s':Sv) w',Rel w w'->St w0 (oC (Ac size f ([]++M)) s'.v::m) rs w'->K (s'.v) w'):
  Ex P n env w ⟨some d,.call {callee:=.builtin .append,args:= #[y,x],argTypes:= #[t,t]},ty,pos,af,none⟩ K:=by
 obtain⟨xs,o,V⟩:=Cs.src D B;have q:bytes<=127:=by simpa using H
 have p:(0+M.length)*bytes<=140737488355328:=by have:=B70 F q;omega
 obtain⟨s',w',s,X⟩:=St.app (tyy:=ty) (own:=[]) (M:=M) (L:=([]:List T)) D W Y o rfl (U1 V).symm (Agq r (λc hc=>by
  obtain⟨a,_,C⟩:=B92.1 hc;exact r a c C) V w) (by simp only[maxLen,B5y];omega) (by simpa using p)
 obtain⟨i,hi,hz,R,G⟩:=W.info;subst R
 have A:Rel w w':=by
  by_cases N:M.length=0
  ·have k:=run_append_room_src (P:=P) w t t ty e i D hi b 0 0 0 xv M.length xs o (by omega) (λj I=>by
    have:=o.newsLen;rw[N]at this;omega) (λj I=>by
    have:=o.newsLen;rw[N]at this;omega)
   have U:xs=[]:=B53 (by have:=o.newsLen;rw[N]at this;omega);rw[show(#[Sv.v ⟨some ⟨b,0,none⟩,0,0⟩,xv]:Array Value)= #[.slice (some ⟨b,0,none⟩) 0 0,xv]from rfl,k,U]at s;obtain⟨_,rfl⟩:_/\w.setCells b (0+0*i.size) []=w':=by simpa using s
   exact Rel.refl w
  ·have k:=run_append_grow_src (P:=P) w t t ty e i z D hi hz (some ⟨b,0,none⟩) 0 0 [] (run_firstCells_some _ _ _ _ _ _ _ (by simp) (λj u I=>by simp at I)) xv M.length xs o (by omega) (by omega) (by rw[G];exact growslice_fits (by omega) p);rw[show(#[Sv.v ⟨some ⟨b,0,none⟩,0,0⟩,xv]:Array Value)= #[.slice (some ⟨b,0,none⟩) 0 0,xv]from rfl,k]at s;obtain⟨_,rfl⟩:_/\(w.drew.alloc (.cells (([]++xs).toArray++Builtin.zeroCells z.cells (grownCap w (0+M.length) 0 e-(0+M.length))) e))=w':=by simpa using s
   exact(Rel.refl w).drew.trans (Rel.alloc _ _)
 refine Ha (v:=s'.v) (w':=w') (λa C=>?_) (h s' w' A X);simp[execOp,resolve,invoke,builtin,C.ev O,C.ev hx,s]
end
section
variable {P:Program} {n:Nat} {env:Env} {w:World} {ty:TypeId} {pos:String} {af:Array Edge} {d:Option Tmp} {g:Option (Nat×Bool)}
theorem Bud{x t fs f i cs v} (c:P.underlying t=some (.struct fs)) (hi:fs[i]?=some f) (hx:ev env x=some (.agg cs))
  (b:∀w,(isAgg f.type).run P w=.ok false w) (e:cs[f.offset]?=some v):Runs P n env w ⟨d,.field t x i,ty,pos,af,g⟩ v w:=λa h=>by
 simp[execOp,h.ev hx,Instr.field,run_underlying c,hi,asAgg,part,b,e]
theorem Bue{x t fs f i cs vs size bytes z} (e:P.underlying t=some (.struct fs)) (hi:fs[i]?=some f) (hx:ev env x=some (.agg cs))
  (b:∀w,(isAgg f.type).run P w=.ok true w) (c:Sz P f.type size bytes z) (j:cs.extract f.offset (f.offset+size)=vs):Runs P n env w ⟨d,.field t x i,ty,pos,af,g⟩ (.agg vs) w:=λa h=>by
 simp[execOp,h.ev hx,Instr.field,run_underlying e,hi,asAgg,part,b,c.run,j]
theorem Bgi{t fs} (a:P.underlying t=some (.struct fs)) w:(isAgg t).run P w=.ok true w:=by simp[isAgg,run_underlying a]
end
end
section
open Go.RowKit
def Bz (s:ByteArray) (i:Nat):UInt8:=(s[i]?).getD 0
section
variable {P:Program} {n:Nat} {env:Env} {w:World} {ty:TypeId} {pos:String} {af:Array Edge} {d:Option Tmp} {g:Option (Nat×Bool)}
theorem Bu2{x i t s m} (f:P.underlying t=some .string) (hx:ev env x=some (.string s)) (hi:ev env i=some (.int .i64 m)) (h:0<=m/\m<(s.size:Int)):
  Runs P n env w ⟨d,.index t x i,ty,pos,af,g⟩ (.int .u8 ((Bz s m.toNat).toNat:Int)) w:=λa b=>by
 have c:m.toNat<s.size:=by omega
 have e:s[m.toNat]?=some (Bz s m.toNat):=by unfold Bz;simp[c]
 simp[execOp,b.ev hx,b.ev hi,Instr.index,asIntOf,run_underlying f,h.1,e]
theorem Bt2{x y t u s r} (hx:ev env x=some (.string s)) (c:ev env y=some (.string r)) (h:s.size+r.size<=9223372036854775807):
  Runs P n env w ⟨d,.binOp .add t x y u,ty,pos,af,g⟩ (.string (s++r)) w:=λa b=>by
 have f:¬IntKind.i64.max<((s.size:Int)+(r.size:Int)):=by have e:IntKind.i64.max=9223372036854775807:=rfl;omega
 simp[execOp,b.ev hx,b.ev c,eqGuard,binOp,Op.stringOp];omega
theorem Ayz (a b:ByteArray):(a.toList==b.toList)=decide (a=b):=by
 rw[ByteArray.toList_eq,ByteArray.toList_eq];by_cases h:a=b
 ·subst h;simp
 ·rw[decide_eq_false h];refine beq_eq_false_iff_ne.2 λe=>h ?_;have:=Array.toList_inj.1 e;cases a;cases b;simp only at this;rw[this]
theorem Bub{x y t u s r} (hx:ev env x=some (.string s)) (c:ev env y=some (.string r)):
  Runs P n env w ⟨d,.binOp .eql t x y u,ty,pos,af,g⟩ (.bool (decide (s=r))) w:=λa b=>by
 rw[<-Ayz];simp[execOp,b.ev hx,b.ev c,eqGuard,binOp,Op.stringOp]
theorem Buw{x y t u s r} (hx:ev env x=some (.string s)) (c:ev env y=some (.string r)):
  Runs P n env w ⟨d,.binOp .neq t x y u,ty,pos,af,g⟩ (.bool (!decide (s=r))) w:=λa b=>by
 rw[<-Ayz];simp[execOp,b.ev hx,b.ev c,eqGuard,binOp,Op.stringOp]
def Bv (a b:ByteArray):Bool:=Op.bytesLess a.toList b.toList
theorem Buo{x y t u s r} (hx:ev env x=some (.string s)) (c:ev env y=some (.string r)):
  Runs P n env w ⟨d,.binOp .lss t x y u,ty,pos,af,g⟩ (.bool (Bv s r)) w:=λa b=>by
 simp[execOp,b.ev hx,b.ev c,eqGuard,binOp,Op.stringOp,Bv]
theorem Buh{x y t u s r} (hx:ev env x=some (.string s)) (c:ev env y=some (.string r)):
  Runs P n env w ⟨d,.binOp .geq t x y u,ty,pos,af,g⟩ (.bool (!Bv s r)) w:=λa b=>by
 simp[execOp,b.ev hx,b.ev c,eqGuard,binOp,Op.stringOp,Bv]
end
end
section
open Go.RowKit
section
variable {P:Program} {ops:Array Oper} {QA:Act->World->Prop} {I:World->Prop}
def Hp (P:Program) (ops:Array Oper) (QA:Act->World->Prop) (I:World->Prop):Nat->Array Bool->Array Bool->Act->World->Prop
 |0,listed,_,a,w=>(∀b,Rel w b->I b)/\Region.ready .any ops listed=[]/\∀b,Rel w b->QA a b
 |k+1,listed,moved,a,w=>(∀b,Rel w b->I b)/\(Region.ready .any ops listed=[]->∀b,Rel w b->QA a b)/\
   ∀i∈Region.ready .any ops listed,∀b,Rel w b->Hg P ops (Gr ops moved i) i (Hp P ops QA I k (listed.setIfInBounds i true) moved) a b
theorem Acz:∀ {k:Nat} {listed moved:Array Bool} {a:Act} {w w':World},Hp P ops QA I k listed moved a w->Rel w w'->Hp P ops QA I k listed moved a w'
 |0,_,_,_,_,_,h,hr=>⟨λc b=>h.1 c (hr.trans b),h.2.1,λc b=>h.2.2 c (hr.trans b)⟩
 |_+1,_,_,_,_,_,h,hr=>⟨λc b=>h.1 c (hr.trans b),λd c b=>h.2.1 d c (hr.trans b),λi hi c b=>h.2.2 i hi c (hr.trans b)⟩
theorem Bsl{z d i a w K K'} (j:z=true->d=true) (h:∀a w,K a w->K' a w) (b:Hg P ops z i K a w):Hg P ops d i K' a w:=by
 unfold Hg at*
 split
 ·rename_i ho;simp only[ho]at b
 ·rename_i o ho;simp only[ho]at b;split
  ·rename_i c;simp only[c,if_true]at b;exact G6 (λ_ _ ⟨e,v,f,g⟩=>⟨e.imp j id,v,f,h _ _ g⟩) b
  ·rename_i c;simp only[c]at b;exact h _ _ b
theorem Aun{i}:∀ {k:Nat} {listed moved:Array Bool} {a:Act} {w:World},Hp P ops QA I k listed (moved.setIfInBounds i true) a w->Hp P ops QA I k listed moved a w
 |0,_,_,_,_,h=>h
 |_+1,_,_,_,_,h=>⟨h.1,h.2.1,λj d e b=>Bsl Am7 (λ_ _ c=>Aun c) (h.2.2 j d e b)⟩
theorem Aul{Q} (c:∀a w,QA a w->Q .normal a w):∀k listed moved a w,Hp P ops QA I k listed moved a w->wpAny P .any ops Q k listed a w
 |0,_,_,_,w,h=>⟨h.2.1,c _ _ (h.2.2 w (Rel.refl w))⟩
 |k+1,listed,moved,a,w,h=>⟨λe=>c _ _ (h.2.1 e w (Rel.refl w)),λi hi=>by
   have b:=h.2.2 i hi w (Rel.refl w);unfold Hg at b;unfold wpOp;split
   ·rename_i ho;simp only[ho]at b
   ·rename_i o ho;simp only[ho]at b;split
    ·rename_i d;simp only[d,if_true]at b;exact .inl (G6 (λ_ _ ⟨_,_,_,f⟩=>Aul c k _ _ _ _ f) b)
    ·rename_i d;simp only[d]at b;exact Aul c k _ _ _ _ b⟩
theorem B4t{i o v} (hi:ops[i]?=some o) (A:∀(j:Nat) (o:Oper) cs b,ops[j]?=some o->o.op≠ .select cs b):
  ∀k listed moved a w,Down ops listed->moved.size=listed.size->
   (∀j g,ops[j]?=some g->j≠i->listed.getD j true=false->(∀e∈g.after,Region.binds .any e=true->e.on≠i)->o.apart ops g=true)->
   i∈Region.ready .any ops listed->Mx P ops o a w v->
   Hp P ops QA I k (listed.setIfInBounds i true) (moved.setIfInBounds i true) (a.put o.dst v) w->Hp P ops QA I (k+1) listed moved a w:=by
 intro k;induction k with
 |zero=>
  intro listed moved a w _ _ _ z O H;refine⟨H.1,λh=>(by rw[h]at z;cases z),λj S K f=>?_⟩;by_cases c:j=i
  ·subst c;exact Zw hi O f λw' G=>Aun (Acz H (f.trans G))
  ·have:=ready_mono S c;rw[H.2.1]at this;cases this
 |succ k ih=>
  intro listed moved a w M b9 p z O H;refine⟨H.1,λh=>(by rw[h]at z;cases z),λj S K f=>?_⟩;by_cases c:j=i
  ·subst c;exact Zw hi O f λw' G=>Aun (Acz H (f.trans G))
  ·have D:=H.2.2 j (ready_mono S c) K f;obtain⟨y,g,s,x⟩:=mem_ready.1 S
   have U:∀e∈g.after,Region.binds .any e=true->e.on≠i:=λe he hb b4=>by
    have f:=x e he hb;have h0:=(mem_ready.1 z).1;rw[b4]at f;rcases B8u i listed.size with C|C
    ·simp[C]at h0 f;rw[h0]at f;cases f
    ·simp[B7h C]at f
   have b3:=p j g s c y U
   have b6:Gr ops (moved.setIfInBounds i true) j=true->Pm o=true:=λhl=>by
    have h9:=(mem_ready.1 z).1;rcases B8u i listed.size with C|C
    ·have b1:i<moved.size:=by omega
     rcases Aym M hl s ((B9e.1 hi).1) (by simp[b1]) x with L|L
     ·unfold mvB at L;simpa only[hi]using L
     ·simp[C]at L h9;rw[h9]at L;cases L
    ·simp[B7h C]at h9
   obtain⟨p1,p2,p3⟩:=Oper.apart_spec b3
   have r:∀m Y,ops[m]?=some Y->m≠i->(listed.setIfInBounds j true).getD m true=false->
     (∀e∈Y.after,Region.binds .any e=true->e.on≠i)->o.apart ops Y=true:=λm Y hm b5 W b7=>by
    refine p m Y hm b5 ?_ b7;by_cases T:j=m
    ·subst T;exact y
    ·rw[getD_set_ne true T]at W;exact W
   have V:=λcs b=>A i o cs b hi;have b8:=λcs b=>A j g cs b s
   have X:∀u t,(Pm o=true\/Rel K t)->Mx P ops o (a.put g.dst u) t v:=λu t q=>by
    unfold Mx at*
    rw[wanted_put o a g.dst u p3];rcases O with⟨N,hq⟩|O
    ·rcases q with q|q
     ·exact .inl ⟨N,A6k q (Ab2 V p3 (λd M=>λF=>p2 d F M) hq (Rel.refl w))⟩
     ·exact .inl ⟨N,Ab2 V p3 (λd M=>λF=>p2 d F M) hq (f.trans q)⟩
    ·exact .inr O
   have B:∀u t,(Pm o=true\/Rel K t)->Hp P ops QA I k ((listed.setIfInBounds i true).setIfInBounds j true) (moved.setIfInBounds i true) ((a.put o.dst v).put g.dst u) t->Hp P ops QA I (k+1) (listed.setIfInBounds j true) moved (a.put g.dst u) t:=λu t q h4=>by refine ih (listed.setIfInBounds j true) moved _ _ (M.set S) (by simpa using b9) r (ready_mono z (Ne.symm c)) (X u t q) ?_;rw[B9j _ _ c,<-Act.put_comm a v u p2];exact h4
   unfold Hg at D⊢;simp only[s]at D⊢;rw[wanted_put g a o.dst v p1]at D;split
   ·rename_i N;simp only[N,if_true]at D;exact G6 (λa' w' ⟨q,u,h4,h5⟩=>⟨q.imp Am7 id,u,h4,h4▸B u w' (q.imp b6 id) h5⟩) (Auq (R:=λw'=>Gr ops (moved.setIfInBounds i true) j=true\/Rel K w') b8 p1 D)
   ·rename_i N;simp only[N]at D;exact B undef K (.inr (Rel.refl K)) D
theorem A9w{i o v} (hi:ops[i]?=some o) (x:∀(j:Nat) (o:Oper) cs b,ops[j]?=some o->o.op≠ .select cs b):
  ∀k listed moved a w,Down ops listed->moved.size=listed.size->
   (∀j g,ops[j]?=some g->j≠i->listed.getD j true=false->(∀e∈g.after,Region.binds .any e=true->e.on≠i)->o.apart ops g=true)->
   i∈Region.ready .any ops listed->(∀w',(∀q,Rel w' q->I q)->Mx P ops o a w' v)->
   Hp P ops QA I k (listed.setIfInBounds i true) moved (a.put o.dst v) w->Hp P ops QA I (k+1) listed moved a w:=by
 intro k;induction k with
 |zero=>
  intro listed moved a w _ _ _ B U H;refine⟨H.1,λh=>(by rw[h]at B;cases B),λj G q f=>?_⟩;by_cases c:j=i
  ·subst c;exact Zw hi (U w H.1) f λw' C=>Acz H (f.trans C)
  ·have:=ready_mono G c;rw[H.2.1]at this;cases this
 |succ k ih=>
  intro listed moved a w X b5 p B U H;refine⟨H.1,λh=>(by rw[h]at B;cases B),λj G q f=>?_⟩;by_cases c:j=i
  ·subst c;exact Zw hi (U w H.1) f λw' C=>Acz H (f.trans C)
  ·have z:=H.2.2 j (ready_mono G c) q f;obtain⟨t,g,A,F⟩:=mem_ready.1 G
   have L:∀e∈g.after,Region.binds .any e=true->e.on≠i:=λe he hb b0=>by
    have f:=F e he hb;have h0:=(mem_ready.1 B).1;rw[b0]at f;rcases B8u i listed.size with V|V
    ·simp[V]at h0 f;rw[h0]at f;cases f
    ·simp[B7h V]at f
   have W:=p j g A c t L;obtain⟨p1,p2,p3⟩:=Oper.apart_spec W
   have r:∀m S,ops[m]?=some S->m≠i->(listed.setIfInBounds j true).getD m true=false->
     (∀e∈S.after,Region.binds .any e=true->e.on≠i)->o.apart ops S=true:=λm S hm b1 M b2=>by
    refine p m S hm b1 ?_ b2;by_cases K:j=m
    ·subst K;exact t
    ·rw[getD_set_ne true K]at M;exact M
   have b3:=λcs b=>x i o cs b hi;have b4:=λcs b=>x j g cs b A
   have O:∀u s,(∀q,Rel s q->I q)->Mx P ops o (a.put g.dst u) s v:=λu s hI=>by
    have D:=U s hI;unfold Mx at*
    rw[wanted_put o a g.dst u p3];rcases D with⟨N,hq⟩|D
    ·exact .inl ⟨N,Ab2 b3 p3 (λd X=>λY=>p2 d Y X) hq (Rel.refl s)⟩
    ·exact .inr D
   have y:∀u s,Hp P ops QA I k ((listed.setIfInBounds i true).setIfInBounds j true) moved ((a.put o.dst v).put g.dst u) s->Hp P ops QA I (k+1) (listed.setIfInBounds j true) moved (a.put g.dst u) s:=λu s T=>by refine ih (listed.setIfInBounds j true) moved _ _ (X.set G) (by simpa using b5) r (ready_mono B (Ne.symm c)) (O u) ?_;rw[B9j _ _ c,<-Act.put_comm a v u p2];exact T
   unfold Hg at z⊢;simp only[A]at z⊢;rw[wanted_put g a o.dst v p1]at z;split
   ·rename_i N;simp only[N,if_true]at z;exact G6 (λa' w' ⟨h3,u,T,h5⟩=>⟨h3,u,T,T▸y u w' h5⟩) (Auq (R:=λw'=>Gr ops moved j=true\/Rel q w') b4 p1 z)
   ·rename_i N;simp only[N]at z;exact y undef q z
end
section
variable {P:Program} {n:Nat} {l:List Oper} {Q:Post} {env:Env} {w:World} {listed moved:Array Bool} {I:World->Prop}
end
section
variable {P:Program} {n:Nat} {env:Env} {w:World}
theorem exq{o v K} (a:Runs P n env w o v w) (h:K v w):Ex P n env w o K:=⟨v,w,a,h⟩
end
section
variable {w0:Base} {rs:List Rd} {w:World} {m:List As} {a0 a1 a2 a3 a4 a5 a6 a7 a8 a9 a10 a11 a12 a13 a14:As}
theorem St.p1 (h:St w0 (a0::a1::m) rs w):St w0 (a1::a0::m) rs w:=h.pl [1]
theorem St.p2 (h:St w0 (a0::a1::a2::m) rs w):St w0 (a2::a0::a1::m) rs w:=h.pl [2]
theorem St.p3 (h:St w0 (a0::a1::a2::a3::m) rs w):St w0 (a3::a0::a1::a2::m) rs w:=h.pl [3]
theorem St.t0 (h:St w0 (m) rs w):St w0 [] rs w:=h.tk 0
theorem St.t1 (h:St w0 (a0::m) rs w):St w0 [a0] rs w:=h.tk 1
theorem St.t2 (h:St w0 (a0::a1::m) rs w):St w0 [a0,a1] rs w:=h.tk 2
theorem St.t3 (h:St w0 (a0::a1::a2::m) rs w):St w0 [a0,a1,a2] rs w:=h.tk 3
theorem St.t4 (h:St w0 (a0::a1::a2::a3::m) rs w):St w0 [a0,a1,a2,a3] rs w:=h.tk 4
theorem St.t5 (h:St w0 (a0::a1::a2::a3::a4::m) rs w):St w0 [a0,a1,a2,a3,a4] rs w:=h.tk 5
theorem St.t9 (h:St w0 (a0::a1::a2::a3::a4::a5::a6::a7::a8::m) rs w):St w0 [a0,a1,a2,a3,a4,a5,a6,a7,a8] rs w:=h.tk 9
end
end
section
open Go.RowKit
section
variable {w0:Base} {w:World} {m:List As} {rs:List Rd} {T:Type} {k q:Nat} {f:T->List Ce} {L:List T} {v:Value}
theorem St.valV{u b hu} (h:St w0 (oC (cV u hu) b::m) rs w):b=u/\St w0 m rs w:=by refine⟨?_,h.drop⟩;obtain⟨F,e⟩:=h.at' (a:=oC (cV u hu) b) (.head _);exact e.1
theorem St.valS{T' k' f'} {L':List T'}{u} (h:St w0 (oC (Ac k' f' L') u::m) rs w):∃s:Sv,u=s.v/\St w0 (oC (Ac k' f' L') s.v::m) rs w:=by obtain⟨s,e⟩:=Cs.sv (h.seeO (.head _));exact⟨s,e,e▸h⟩
end
section
variable {P:Program} {n:Nat} {env:Env} {w:World} {d:Option Tmp} {ty:TypeId} {pos:String} {af:Array Edge} {g:Option (Nat×Bool)} {k n0:Nat} {v:Value}
end
section
variable {P:Program} {n:Nat} {env:Env} {w:World} {d:Option Tmp} {ty:TypeId} {pos:String} {af:Array Edge} {g:Option (Nat×Bool)}
def y8 (n:Int):UInt8:=Cac (n % 256).toNat
theorem B47 n:IntKind.u8.wrap n=((y8 n).toNat:Int):=by
 unfold IntKind.wrap y8;have a:=Int.emod_nonneg n (show(256:Int)≠0 by decide);have b:=Int.emod_lt_of_pos n (show(0:Int)<256 by decide);simp only[IntKind.signed,IntKind.bits,Cap]
 first
  |(simp;omega)
  |(simp[BitVec.toNat_ofInt];omega)
theorem Bt9{x s t k' td i} (e:P.underlying s=some td) (h:P.underlying t=some (.int .u8)) (hx:ev env x=some (.int k' i)):
  Runs P n env w ⟨d,.convert s t x,ty,pos,af,g⟩ (.int .u8 ((y8 i).toNat:Int)) w:=λa b=>by
 simp[execOp,b.ev hx,convert,run_underlying e,run_underlying h,Conv.intToInt,B47]
end
section
variable {P:Program} {n:Nat} {Q:Post} {env:Env} {w:World} {c:Code} {ops:Array Oper} {l rest:List Oper} {ty:TypeId} {pos:String} {af:Array Edge} {r:List (Oper×Nat)}
theorem B3 (h:WC P n c Q env w):WL P n ops [] (sq P n c Q) env w:=Auj (G4 h)
theorem B2{id y} (h:WL P n l.toArray l (sq P n y Q) env w):WC P n (.seq (.region id l.toArray false) y) Q env w:=Fc (Auc h)
theorem Aw{d x v} (a:B63 d n=true) (hx:ev env x=some v) (h:WL P n ops rest Q ((d,v)::env) w):WL P n ops (⟨some d,.move x,ty,pos,af,none⟩::rest) Q env w:=wv a (Asd hx) h
theorem Ed{d x v} (a:B63 d n=true) (hx:ev env x=some v) (h:WL P n ops rest Q ((d,v)::env) w):WL P n ops (⟨some d,.assign x,ty,pos,af,none⟩::rest) Q env w:=wv a (Ar9 hx) h
theorem Db{d x v} (a:B63 d n=true) (hx:ev env x=some v) (h:WO P n ops Q r ((d,v)::env) w):WO P n ops Q ((⟨some d,.move x,ty,pos,af,none⟩,0)::r) env w:=ov a (λ_ _=>Asd hx) h
theorem Un{w0 m rs} (e:St w0 m rs w) (h:∀a,St w0 m rs a->Q .normal env a):WO P n ops Q [] env w:=A4u λa b=>h a (e.call b)
end
end
section
open Go.RowKit
theorem Acq : Tryz.prog.globalNamed "internal/strconv.uint64pow10" = some 5 := by kernel_rfl
theorem Lc.whole{F w w'} (h:Lc F w w'){b} (a:∀j,F (b,j)) (c:b<w.heap.size):w'.heap[b]?=w.heap[b]?:=(h.block b c).same λi hx=>hx (a i)
def rTab : Rd := ⟨fun S w => (∀ j, S (5, j)) /\ 5 < w.heap.size /\ Lib.TabIs Tryz.prog w "internal/strconv.uint64pow10" .u64 Lib.pow10Tab, fun {S S' w w'} d h ⟨b, c, a⟩ => ⟨fun j => d _ (b j), B6w c h.size, by
 unfold Lib.TabIs World.var? at a⊢;rw[Acq]at a⊢;simp only[B5i]at a⊢;rw[h.whole b c];exact a⟩⟩
theorem Bn6 w k os:Rel w (Sort.grow (w.drewN k) os):=
 ⟨rfl,rfl,rfl,by simp[Sort.grow],λb a=>by
  simp only[Sort.grow,World.heap_drewN];exact Cab a⟩
def Ac1 (n:Int):Option ByteArray:=xg (Ae n)<|some ⟨(Lib.itoa n).toArray⟩
theorem Bh4 w X S n (c:∀b,S b->b.1<w.heap.size/\¬X b) (d:rTab.ok S w) (f:Sep [] X w){r} (hx:Ac1 n=some r):
  Ret Tryz.prog 219 [(.int .i64 n)] w (λu w'=>∃_:Unit,u=(.string r)/\Gives X S w [] [] w'):=by
 unfold Ac1 at hx;obtain⟨a,hx⟩:=Bf hx;obtain rfl:=B65.inj hx;refine⟨⟨_,Tryz.func219,by kernel_rfl,by kernel_rfl⟩,(Tryz.strconv_Itoa n a.1 a.2 w d.2.2).mono ?_⟩;rintro e w' ⟨rfl,k,os,rfl⟩;exact⟨_,rfl,(),rfl,((St.enter f c).call (Bn6 w k os)).gives⟩
end
section
open Go.RowKit
theorem Tryz_mixed:Tryz.prog.follows .mixedOrders=true:=by rfl
def fI (n:Int):List Ce:=[cI n]
def fB (b:Bool):List Ce:=[cB b]
def fT (s:ByteArray):List Ce:=[cT s]
def fY (n:UInt8):List Ce:=[cY n]
structure DPart where
 kind:Int
 n:Int
 signs:List Int
deriving DecidableEq,Inhabited
def Ra (x:DPart):List Ce:=[cI x.kind,cI x.n,Ac 1 fI x.signs]
structure DEntry where
 client:Int
 seq:Int
 o:List DPart
deriving DecidableEq,Inhabited
def T5 (x:DEntry):List Ce:=[cI x.client,cI x.seq,Ac 3 Ra x.o]
structure DSeen where
 client:Int
 seq:Int
 rev:Int
deriving DecidableEq,Inhabited
def Ao4 (x:DSeen):List Ce:=[cI x.client,cI x.seq,cI x.rev]
structure DDoc where
 name:ByteArray
 from_:Int
 text:List Int
 list:List DEntry
 seen:List DSeen
deriving DecidableEq,Inhabited
def Xc (x:DDoc):List Ce:=[cT x.name,cI x.from_,Ac 1 fI x.text,Ac 3 T5 x.list,Ac 3 Ao4 x.seen]
structure DRing where
 cap:Int
 next:Int
 out:Bool
 list:List DEntry
deriving DecidableEq,Inhabited
def A1z (x:DRing):List Ce:=[cI x.cap,cI x.next,cB x.out,Ac 3 T5 x.list]
structure DSub where
 id:Int
 doc:ByteArray
 r:DRing
deriving DecidableEq,Inhabited
def Xd (x:DSub):List Ce:=[cI x.id,cT x.doc,cI x.r.cap,cI x.r.next,cB x.r.out,Ac 3 T5 x.r.list]
structure DHub where
 shut:Bool
 docs:List DDoc
 subs:List DSub
 last:Int
deriving DecidableEq,Inhabited
def A1y (x:DHub):List Ce:=[cB x.shut,Ac 5 Xc x.docs,Ac 6 Xd x.subs,cI x.last]
structure DQueue where
 doc:ByteArray
 list:List Int
deriving DecidableEq,Inhabited
def Aaz (x:DQueue):List Ce:=[cT x.doc,Ac 1 fI x.list]
structure DCall where
 kind:Int
 doc:ByteArray
 client:Int
 seq:Int
 n:Int
 o:List DPart
 text:List Int
deriving DecidableEq,Inhabited
def A1x (x:DCall):List Ce:=[cI x.kind,cT x.doc,cI x.client,cI x.seq,cI x.n,Ac 3 Ra x.o,Ac 1 fI x.text]
structure DAnswer where
 code:Int
 rev:Int
 text:List Int
 list:List DEntry
deriving DecidableEq,Inhabited
def A1w (x:DAnswer):List Ce:=[cI x.code,cI x.rev,Ac 1 fI x.text,Ac 3 T5 x.list]
structure DTask where
 c:DCall
 pc:Int
 inv:Int
 lin:Int
 res:Int
 a:DAnswer
deriving DecidableEq,Inhabited
def Aa0 (x:DTask):List Ce:=[cI x.c.kind,cT x.c.doc,cI x.c.client,cI x.c.seq,cI x.c.n,Ac 3 Ra x.c.o,Ac 1 fI x.c.text,cI x.pc,cI x.inv,cI x.lin,cI x.res,cI x.a.code,cI x.a.rev,Ac 1 fI x.a.text,Ac 3 T5 x.a.list]
structure DWorld where
 h:DHub
 locks:List Int
 queues:List DQueue
 tasks:List DTask
 step:Int
deriving DecidableEq,Inhabited
def Agg (x:DWorld):List Ce:=[cB x.h.shut,Ac 5 Xc x.h.docs,Ac 6 Xd x.h.subs,cI x.h.last,Ac 1 fI x.locks,Ac 2 Aaz x.queues,Ac 15 Aa0 x.tasks,cI x.step]
structure DL02B where
 list:List DPart
 put:List Int
 drop:Int
deriving DecidableEq,Inhabited
def Bni (x:DL02B):List Ce:=[Ac 3 Ra x.list,Ac 1 fI x.put,cI x.drop]
structure DL04Cur where
 o:List DPart
 at_:Int
 done:Int
deriving DecidableEq,Inhabited
def Bnj (x:DL04Cur):List Ce:=[Ac 3 Ra x.o,cI x.at_,cI x.done]
structure DRest where
 parts:List DPart
deriving DecidableEq,Inhabited
def Bnk (x:DRest):List Ce:=[Ac 3 Ra x.parts]
theorem sz2:Sz Tryz.prog 2 1 8 (.int .i64 0):=⟨by kernel_rfl,rfl,by decide⟩
theorem sz3:Sz Tryz.prog 3 1 8 (.int .i64 0):=⟨by kernel_rfl,rfl,by decide⟩
theorem sz4:Sz Tryz.prog 4 1 1 (.bool false):=⟨by kernel_rfl,rfl,by decide⟩
theorem sz5:Sz Tryz.prog 5 1 1 (.int .u8 0):=⟨by kernel_rfl,rfl,by decide⟩
theorem sz9:Sz Tryz.prog 9 1 16 (.string B52):=⟨by kernel_rfl,rfl,by decide⟩
theorem By0:Sz Tryz.prog 12 1 8 (.int .u64 0):=⟨by kernel_rfl,rfl,by decide⟩
theorem By1:Sz Tryz.prog 13 2 24 (.agg #[.string B52,.int .u64 0]):=⟨by kernel_rfl,rfl,by decide⟩
theorem Bzl:Sz Tryz.prog 21 1 4 (.int .i32 0):=⟨by kernel_rfl,rfl,by decide⟩
theorem Bzm:Sz Tryz.prog 22 1 24 (.slice none 0 0):=⟨by kernel_rfl,rfl,by decide⟩
theorem Bzn:Sz Tryz.prog 23 1 24 (.slice none 0 0):=⟨by kernel_rfl,rfl,by decide⟩
theorem Bzp:Sz Tryz.prog 24 4 64 (.agg #[.bool false,.slice none 0 0,.slice none 0 0,.int .i64 0]):=⟨by kernel_rfl,rfl,by decide⟩
theorem Bzt:Sz Tryz.prog 25 4 64 (.agg #[.bool false,.slice none 0 0,.slice none 0 0,.int .i64 0]):=⟨by kernel_rfl,rfl,by decide⟩
theorem Bzu:Sz Tryz.prog 26 1 24 (.slice none 0 0):=⟨by kernel_rfl,rfl,by decide⟩
theorem Bzw:Sz Tryz.prog 27 1 24 (.slice none 0 0):=⟨by kernel_rfl,rfl,by decide⟩
theorem Bz0:Sz Tryz.prog 28 1 24 (.slice none 0 0):=⟨by kernel_rfl,rfl,by decide⟩
theorem Bz2:Sz Tryz.prog 29 8 144 (.agg #[.bool false,.slice none 0 0,.slice none 0 0,.int .i64 0,.slice none 0 0,.slice none 0 0,.slice none 0 0,.int .i64 0]):=⟨by kernel_rfl,rfl,by decide⟩
theorem Bz6:Sz Tryz.prog 30 8 144 (.agg #[.bool false,.slice none 0 0,.slice none 0 0,.int .i64 0,.slice none 0 0,.slice none 0 0,.slice none 0 0,.int .i64 0]):=⟨by kernel_rfl,rfl,by decide⟩
theorem Bz9:Sz Tryz.prog 32 1 24 (.slice none 0 0):=⟨by kernel_rfl,rfl,by decide⟩
theorem B0d:Sz Tryz.prog 33 1 24 (.slice none 0 0):=⟨by kernel_rfl,rfl,by decide⟩
theorem B0e:Sz Tryz.prog 34 4 64 (.agg #[.bool false,.slice none 0 0,.slice none 0 0,.int .i64 0]):=⟨by kernel_rfl,rfl,by decide⟩
theorem B0h:Sz Tryz.prog 35 4 64 (.agg #[.bool false,.slice none 0 0,.slice none 0 0,.int .i64 0]):=⟨by kernel_rfl,rfl,by decide⟩
theorem B0k:Sz Tryz.prog 36 1 24 (.slice none 0 0):=⟨by kernel_rfl,rfl,by decide⟩
theorem B0n:Sz Tryz.prog 37 1 24 (.slice none 0 0):=⟨by kernel_rfl,rfl,by decide⟩
theorem B0o:Sz Tryz.prog 38 8 144 (.agg #[.bool false,.slice none 0 0,.slice none 0 0,.int .i64 0,.slice none 0 0,.slice none 0 0,.slice none 0 0,.int .i64 0]):=⟨by kernel_rfl,rfl,by decide⟩
theorem B0p:Sz Tryz.prog 39 8 144 (.agg #[.bool false,.slice none 0 0,.slice none 0 0,.int .i64 0,.slice none 0 0,.slice none 0 0,.slice none 0 0,.int .i64 0]):=⟨by kernel_rfl,rfl,by decide⟩
theorem B0r:Sz Tryz.prog 46 1 24 (.slice none 0 0):=⟨by kernel_rfl,rfl,by decide⟩
theorem B0t:Sz Tryz.prog 58 1 24 (.slice none 0 0):=⟨by kernel_rfl,rfl,by decide⟩
theorem B0u:Sz Tryz.prog 59 7 96 (.agg #[.int .i64 0,.string B52,.int .i64 0,.int .i64 0,.int .i64 0,.slice none 0 0,.slice none 0 0]):=⟨by kernel_rfl,rfl,by decide⟩
theorem B0v:Sz Tryz.prog 60 7 96 (.agg #[.int .i64 0,.string B52,.int .i64 0,.int .i64 0,.int .i64 0,.slice none 0 0,.slice none 0 0]):=⟨by kernel_rfl,rfl,by decide⟩
theorem B0w:Sz Tryz.prog 85 2 40 (.agg #[.string B52,.slice none 0 0]):=⟨by kernel_rfl,rfl,by decide⟩
theorem B0x:Sz Tryz.prog 86 2 40 (.agg #[.string B52,.slice none 0 0]):=⟨by kernel_rfl,rfl,by decide⟩
theorem B0y:Sz Tryz.prog 88 1 24 (.slice none 0 0):=⟨by kernel_rfl,rfl,by decide⟩
theorem B0z:Sz Tryz.prog 89 7 96 (.agg #[.int .i64 0,.string B52,.int .i64 0,.int .i64 0,.int .i64 0,.slice none 0 0,.slice none 0 0]):=⟨by kernel_rfl,rfl,by decide⟩
theorem B01:Sz Tryz.prog 90 7 96 (.agg #[.int .i64 0,.string B52,.int .i64 0,.int .i64 0,.int .i64 0,.slice none 0 0,.slice none 0 0]):=⟨by kernel_rfl,rfl,by decide⟩
theorem B02:Sz Tryz.prog 91 1 24 (.slice none 0 0):=⟨by kernel_rfl,rfl,by decide⟩
theorem B03:Sz Tryz.prog 92 4 64 (.agg #[.int .i64 0,.int .i64 0,.slice none 0 0,.slice none 0 0]):=⟨by kernel_rfl,rfl,by decide⟩
theorem B04:Sz Tryz.prog 93 4 64 (.agg #[.int .i64 0,.int .i64 0,.slice none 0 0,.slice none 0 0]):=⟨by kernel_rfl,rfl,by decide⟩
theorem B05:Sz Tryz.prog 94 15 192 (.agg #[.int .i64 0,.string B52,.int .i64 0,.int .i64 0,.int .i64 0,.slice none 0 0,.slice none 0 0,.int .i64 0,.int .i64 0,.int .i64 0,.int .i64 0,.int .i64 0,.int .i64 0,.slice none 0 0,.slice none 0 0]):=⟨by kernel_rfl,rfl,by decide⟩
theorem B06:Sz Tryz.prog 95 15 192 (.agg #[.int .i64 0,.string B52,.int .i64 0,.int .i64 0,.int .i64 0,.slice none 0 0,.slice none 0 0,.int .i64 0,.int .i64 0,.int .i64 0,.int .i64 0,.int .i64 0,.int .i64 0,.slice none 0 0,.slice none 0 0]):=⟨by kernel_rfl,rfl,by decide⟩
theorem Byv:Sz Tryz.prog 109 1 24 (.slice none 0 0):=⟨by kernel_rfl,rfl,by decide⟩
theorem Byw:Sz Tryz.prog 110 4 64 (.agg #[.int .i64 0,.int .i64 0,.slice none 0 0,.slice none 0 0]):=⟨by kernel_rfl,rfl,by decide⟩
theorem Byx:Sz Tryz.prog 111 4 64 (.agg #[.int .i64 0,.int .i64 0,.slice none 0 0,.slice none 0 0]):=⟨by kernel_rfl,rfl,by decide⟩
theorem Byy:Sz Tryz.prog 112 15 192 (.agg #[.int .i64 0,.string B52,.int .i64 0,.int .i64 0,.int .i64 0,.slice none 0 0,.slice none 0 0,.int .i64 0,.int .i64 0,.int .i64 0,.int .i64 0,.int .i64 0,.int .i64 0,.slice none 0 0,.slice none 0 0]):=⟨by kernel_rfl,rfl,by decide⟩
theorem Byz:Sz Tryz.prog 113 15 192 (.agg #[.int .i64 0,.string B52,.int .i64 0,.int .i64 0,.int .i64 0,.slice none 0 0,.slice none 0 0,.int .i64 0,.int .i64 0,.int .i64 0,.int .i64 0,.int .i64 0,.int .i64 0,.slice none 0 0,.slice none 0 0]):=⟨by kernel_rfl,rfl,by decide⟩
theorem Aty:Sz Tryz.prog 115 2 40 (.agg #[.string B52,.slice none 0 0]):=⟨by kernel_rfl,rfl,by decide⟩
theorem By2:Sz Tryz.prog 145 1 24 (.slice none 0 0):=⟨by kernel_rfl,rfl,by decide⟩
theorem By3:Sz Tryz.prog 147 1 24 (.slice none 0 0):=⟨by kernel_rfl,rfl,by decide⟩
theorem By4:Sz Tryz.prog 148 5 96 (.agg #[.string B52,.int .i64 0,.slice none 0 0,.slice none 0 0,.slice none 0 0]):=⟨by kernel_rfl,rfl,by decide⟩
theorem By5:Sz Tryz.prog 149 5 96 (.agg #[.string B52,.int .i64 0,.slice none 0 0,.slice none 0 0,.slice none 0 0]):=⟨by kernel_rfl,rfl,by decide⟩
theorem By6:Sz Tryz.prog 151 4 48 (.agg #[.int .i64 0,.int .i64 0,.bool false,.slice none 0 0]):=⟨by kernel_rfl,rfl,by decide⟩
theorem By7:Sz Tryz.prog 152 4 48 (.agg #[.int .i64 0,.int .i64 0,.bool false,.slice none 0 0]):=⟨by kernel_rfl,rfl,by decide⟩
theorem By8:Sz Tryz.prog 153 6 72 (.agg #[.int .i64 0,.string B52,.int .i64 0,.int .i64 0,.bool false,.slice none 0 0]):=⟨by kernel_rfl,rfl,by decide⟩
theorem By9:Sz Tryz.prog 154 6 72 (.agg #[.int .i64 0,.string B52,.int .i64 0,.int .i64 0,.bool false,.slice none 0 0]):=⟨by kernel_rfl,rfl,by decide⟩
theorem Bza:Sz Tryz.prog 168 1 24 (.slice none 0 0):=⟨by kernel_rfl,rfl,by decide⟩
theorem Bzb:Sz Tryz.prog 169 5 96 (.agg #[.string B52,.int .i64 0,.slice none 0 0,.slice none 0 0,.slice none 0 0]):=⟨by kernel_rfl,rfl,by decide⟩
theorem A8p:Sz Tryz.prog 170 5 96 (.agg #[.string B52,.int .i64 0,.slice none 0 0,.slice none 0 0,.slice none 0 0]):=⟨by kernel_rfl,rfl,by decide⟩
theorem Bzc:Sz Tryz.prog 172 4 48 (.agg #[.int .i64 0,.int .i64 0,.bool false,.slice none 0 0]):=⟨by kernel_rfl,rfl,by decide⟩
theorem Bzd:Sz Tryz.prog 173 4 48 (.agg #[.int .i64 0,.int .i64 0,.bool false,.slice none 0 0]):=⟨by kernel_rfl,rfl,by decide⟩
theorem Bze:Sz Tryz.prog 174 6 72 (.agg #[.int .i64 0,.string B52,.int .i64 0,.int .i64 0,.bool false,.slice none 0 0]):=⟨by kernel_rfl,rfl,by decide⟩
theorem Bzf:Sz Tryz.prog 175 6 72 (.agg #[.int .i64 0,.string B52,.int .i64 0,.int .i64 0,.bool false,.slice none 0 0]):=⟨by kernel_rfl,rfl,by decide⟩
theorem Bzg:Sz Tryz.prog 199 3 40 (.agg #[.int .i64 0,.int .i64 0,.slice none 0 0]):=⟨by kernel_rfl,rfl,by decide⟩
theorem Bzi:Sz Tryz.prog 200 3 40 (.agg #[.int .i64 0,.int .i64 0,.slice none 0 0]):=⟨by kernel_rfl,rfl,by decide⟩
theorem Bzj:Sz Tryz.prog 201 3 40 (.agg #[.int .i64 0,.int .i64 0,.slice none 0 0]):=⟨by kernel_rfl,rfl,by decide⟩
theorem Bzk:Sz Tryz.prog 202 3 40 (.agg #[.int .i64 0,.int .i64 0,.slice none 0 0]):=⟨by kernel_rfl,rfl,by decide⟩
theorem Bzo:Sz Tryz.prog 237 3 24 (.agg #[.int .i64 0,.int .i64 0,.int .i64 0]):=⟨by kernel_rfl,rfl,by decide⟩
theorem A8q:Sz Tryz.prog 238 3 24 (.agg #[.int .i64 0,.int .i64 0,.int .i64 0]):=⟨by kernel_rfl,rfl,by decide⟩
theorem Bzq:Sz Tryz.prog 240 3 40 (.agg #[.int .i64 0,.int .i64 0,.slice none 0 0]):=⟨by kernel_rfl,rfl,by decide⟩
theorem Bzr:Sz Tryz.prog 241 3 40 (.agg #[.int .i64 0,.int .i64 0,.slice none 0 0]):=⟨by kernel_rfl,rfl,by decide⟩
theorem Bzs:Sz Tryz.prog 243 3 40 (.agg #[.int .i64 0,.int .i64 0,.slice none 0 0]):=⟨by kernel_rfl,rfl,by decide⟩
theorem Bzv:Sz Tryz.prog 265 3 24 (.agg #[.int .i64 0,.int .i64 0,.int .i64 0]):=⟨by kernel_rfl,rfl,by decide⟩
theorem Bzx:Sz Tryz.prog 272 2 32 (.agg #[.pointer none,.slice none 0 0]):=⟨by kernel_rfl,rfl,by decide⟩
theorem Bzy:Sz Tryz.prog 273 2 32 (.agg #[.pointer none,.slice none 0 0]):=⟨by kernel_rfl,rfl,by decide⟩
theorem Bzz:Sz Tryz.prog 276 1 8 (.int .i64 0):=⟨by kernel_rfl,rfl,by decide⟩
theorem Bz1:Sz Tryz.prog 283 1 24 (.slice none 0 0):=⟨by kernel_rfl,rfl,by decide⟩
theorem Bz3:Sz Tryz.prog 291 3 56 (.agg #[.slice none 0 0,.slice none 0 0,.int .i64 0]):=⟨by kernel_rfl,rfl,by decide⟩
theorem Bz4:Sz Tryz.prog 292 3 56 (.agg #[.slice none 0 0,.slice none 0 0,.int .i64 0]):=⟨by kernel_rfl,rfl,by decide⟩
theorem Bz7:Sz Tryz.prog 303 1 8 (.int .u64 0):=⟨by kernel_rfl,rfl,by decide⟩
theorem Bz8:Sz Tryz.prog 307 1 8 (.int .u64 0):=⟨by kernel_rfl,rfl,by decide⟩
theorem B0a:Sz Tryz.prog 325 2 2 (.agg #[.int .u8 0,.int .u8 0]):=⟨by kernel_rfl,rfl,by decide⟩
theorem B0b:Sz Tryz.prog 326 2 2 (.agg #[.int .u8 0,.int .u8 0]):=⟨by kernel_rfl,rfl,by decide⟩
theorem B0c:Sz Tryz.prog 328 1 4 (.int .u32 0):=⟨by kernel_rfl,rfl,by decide⟩
theorem B0f:Sz Tryz.prog 341 1 16 (.agg #[.string B52]):=⟨by kernel_rfl,rfl,by decide⟩
theorem B0g:Sz Tryz.prog 342 1 16 (.agg #[.string B52]):=⟨by kernel_rfl,rfl,by decide⟩
theorem B0i:Sz Tryz.prog 356 3 40 (.agg #[.slice none 0 0,.int .i64 0,.int .i64 0]):=⟨by kernel_rfl,rfl,by decide⟩
theorem B0j:Sz Tryz.prog 357 3 40 (.agg #[.slice none 0 0,.int .i64 0,.int .i64 0]):=⟨by kernel_rfl,rfl,by decide⟩
theorem B0l:Sz Tryz.prog 364 1 24 (.agg #[.slice none 0 0]):=⟨by kernel_rfl,rfl,by decide⟩
theorem B0m:Sz Tryz.prog 365 1 24 (.agg #[.slice none 0 0]):=⟨by kernel_rfl,rfl,by decide⟩
theorem u2:type_of% Tryz.underlying2:=Tryz.underlying2
theorem u3:type_of% Tryz.underlying3:=Tryz.underlying3
theorem u4:type_of% Tryz.underlying4:=Tryz.underlying4
theorem u5:type_of% Tryz.underlying5:=Tryz.underlying5
theorem u9:type_of% Tryz.underlying9:=Tryz.underlying9
theorem u12:type_of% Tryz.underlying12:=Tryz.underlying12
theorem u13:type_of% Tryz.underlying13:=Tryz.underlying13
theorem u21:type_of% Tryz.underlying21:=Tryz.underlying21
theorem u22:type_of% Tryz.underlying22:=Tryz.underlying22
theorem u23:type_of% Tryz.underlying23:=Tryz.underlying23
theorem u24:type_of% Tryz.underlying24:=Tryz.underlying24
theorem u25:type_of% Tryz.underlying25:=Tryz.underlying25
theorem u26:type_of% Tryz.underlying26:=Tryz.underlying26
theorem u27:type_of% Tryz.underlying27:=Tryz.underlying27
theorem u28:type_of% Tryz.underlying28:=Tryz.underlying28
theorem u29:type_of% Tryz.underlying29:=Tryz.underlying29
theorem u30:type_of% Tryz.underlying30:=Tryz.underlying30
theorem u32:type_of% Tryz.underlying32:=Tryz.underlying32
theorem u33:type_of% Tryz.underlying33:=Tryz.underlying33
theorem u34:type_of% Tryz.underlying34:=Tryz.underlying34
theorem u35:type_of% Tryz.underlying35:=Tryz.underlying35
theorem u36:type_of% Tryz.underlying36:=Tryz.underlying36
theorem u37:type_of% Tryz.underlying37:=Tryz.underlying37
theorem u38:type_of% Tryz.underlying38:=Tryz.underlying38
theorem u39:type_of% Tryz.underlying39:=Tryz.underlying39
theorem u46:type_of% Tryz.underlying46:=Tryz.underlying46
theorem u58:type_of% Tryz.underlying58:=Tryz.underlying58
theorem u59:type_of% Tryz.underlying59:=Tryz.underlying59
theorem u60:type_of% Tryz.underlying60:=Tryz.underlying60
theorem u85:type_of% Tryz.underlying85:=Tryz.underlying85
theorem u86:type_of% Tryz.underlying86:=Tryz.underlying86
theorem u88:type_of% Tryz.underlying88:=Tryz.underlying88
theorem u89:type_of% Tryz.underlying89:=Tryz.underlying89
theorem u90:type_of% Tryz.underlying90:=Tryz.underlying90
theorem u91:type_of% Tryz.underlying91:=Tryz.underlying91
theorem u92:type_of% Tryz.underlying92:=Tryz.underlying92
theorem u93:type_of% Tryz.underlying93:=Tryz.underlying93
theorem u94:type_of% Tryz.underlying94:=Tryz.underlying94
theorem u95:type_of% Tryz.underlying95:=Tryz.underlying95
theorem B2d:type_of% Tryz.underlying109:=Tryz.underlying109
theorem B2e:type_of% Tryz.underlying110:=Tryz.underlying110
theorem B2f:type_of% Tryz.underlying111:=Tryz.underlying111
theorem B2g:type_of% Tryz.underlying112:=Tryz.underlying112
theorem B2h:type_of% Tryz.underlying113:=Tryz.underlying113
theorem B2i:type_of% Tryz.underlying115:=Tryz.underlying115
theorem B2l:type_of% Tryz.underlying145:=Tryz.underlying145
theorem B2m:type_of% Tryz.underlying147:=Tryz.underlying147
theorem B2n:type_of% Tryz.underlying148:=Tryz.underlying148
theorem B2o:type_of% Tryz.underlying149:=Tryz.underlying149
theorem B2p:type_of% Tryz.underlying151:=Tryz.underlying151
theorem B2q:type_of% Tryz.underlying152:=Tryz.underlying152
theorem B2r:type_of% Tryz.underlying153:=Tryz.underlying153
theorem B2s:type_of% Tryz.underlying154:=Tryz.underlying154
theorem B2t:type_of% Tryz.underlying168:=Tryz.underlying168
theorem B2u:type_of% Tryz.underlying169:=Tryz.underlying169
theorem B2v:type_of% Tryz.underlying170:=Tryz.underlying170
theorem B2w:type_of% Tryz.underlying172:=Tryz.underlying172
theorem B2x:type_of% Tryz.underlying173:=Tryz.underlying173
theorem B2y:type_of% Tryz.underlying174:=Tryz.underlying174
theorem B2z:type_of% Tryz.underlying175:=Tryz.underlying175
theorem B20:type_of% Tryz.underlying199:=Tryz.underlying199
theorem B21:type_of% Tryz.underlying200:=Tryz.underlying200
theorem B22:type_of% Tryz.underlying201:=Tryz.underlying201
theorem B23:type_of% Tryz.underlying202:=Tryz.underlying202
theorem B27:type_of% Tryz.underlying237:=Tryz.underlying237
theorem B28:type_of% Tryz.underlying238:=Tryz.underlying238
theorem B3a:type_of% Tryz.underlying240:=Tryz.underlying240
theorem B3b:type_of% Tryz.underlying241:=Tryz.underlying241
theorem B3c:type_of% Tryz.underlying243:=Tryz.underlying243
theorem B3f:type_of% Tryz.underlying265:=Tryz.underlying265
theorem B3h:type_of% Tryz.underlying272:=Tryz.underlying272
theorem B3i:type_of% Tryz.underlying273:=Tryz.underlying273
theorem B3j:type_of% Tryz.underlying276:=Tryz.underlying276
theorem B3l:type_of% Tryz.underlying283:=Tryz.underlying283
theorem B3n:type_of% Tryz.underlying291:=Tryz.underlying291
theorem B3o:type_of% Tryz.underlying292:=Tryz.underlying292
theorem B3q:type_of% Tryz.underlying303:=Tryz.underlying303
theorem B3r:type_of% Tryz.underlying307:=Tryz.underlying307
theorem B3s:type_of% Tryz.underlying325:=Tryz.underlying325
theorem B3t:type_of% Tryz.underlying326:=Tryz.underlying326
theorem B3u:type_of% Tryz.underlying328:=Tryz.underlying328
theorem B3x:type_of% Tryz.underlying341:=Tryz.underlying341
theorem B3y:type_of% Tryz.underlying342:=Tryz.underlying342
theorem B30:type_of% Tryz.underlying356:=Tryz.underlying356
theorem B31:type_of% Tryz.underlying357:=Tryz.underlying357
theorem B33:type_of% Tryz.underlying364:=Tryz.underlying364
theorem B34:type_of% Tryz.underlying365:=Tryz.underlying365
end
section
open Go.RowKit
abbrev iv (n:Int):Value:=.int .i64 n
abbrev bv (b:Bool):Value:=.bool b
abbrev pt (b o:Nat):Value:=.pointer (some ⟨b,o,none⟩)
abbrev SX (X S:Bs) (w:World):Prop:=∀b,S b->b.1<w.heap.size/\¬X b
abbrev KV (X S:Bs) (w:World) (v:Value):Value->World->Prop:=λu w'=>∃_:Unit,u=v/\Gives X S w [] [] w'
section
variable {α:Type} {a b0 b1 b2 b3 b4 b5 b6 b7 b8 b9 b10 b11 b12 b13 b14:α} {l:List α}
theorem m0:a∈a::l:=.head _
theorem m1:a∈b0::a::l:=.tail _ m0
theorem m2:a∈b0::b1::a::l:=.tail _ m1
theorem m3:a∈b0::b1::b2::a::l:=.tail _ m2
theorem m4:a∈b0::b1::b2::b3::a::l:=.tail _ m3
theorem m5:a∈b0::b1::b2::b3::b4::a::l:=.tail _ m4
theorem m6:a∈b0::b1::b2::b3::b4::b5::a::l:=.tail _ m5
end
section
variable {α β:Type} {G:Prop}
theorem bs{x} {f:α->Option β}{r} (h:x.bind f=some r) (k:∀y,x=some y->f y=some r->G):G:=by obtain⟨y,b,c⟩:=Af h;exact k y b c
end
section
variable {P:Program} {n:Nat} {ops:Array Oper} {Q:Post} {env:Env} {w w1:World} {w0:Base} {rest l':List Oper} {ty ty2:TypeId} {pos pos2:String} {af af2:Array Edge} {m l:List As} {rs:List Rd}
theorem St.addV{X S} (h:St ⟨w1,X,S⟩ m rs w1){c v} (b:c.rd S w1 v):St ⟨w1,X,S⟩ m (rV v c::rs) w1:=h.addE (r:=rV v c) b
def nm {T:Type} (v:T):Option T:=some v
end
end
section
open Go.RowKit
section
variable {P:Program} {n:Nat} {env:Env} {w:World} {d:Option Tmp} {ty:TypeId} {pos:String} {af:Array Edge} {g:Option (Nat×Bool)}
end
section
variable {P:Program} {n:Nat} {env:Env} {w:World} {ty:TypeId} {pos:String} {af:Array Edge} {w0:Base} {m:List As} {rs:List Rd} {T:Type} {f:T->List Ce}
theorem B4y{K} {d:Nat}{x y t e size bytes z xv M S} (A:P.underlying t=some (.slice e)) (O:Sz P e size bytes z) (hx:ev env x=some xv) (G:ev env y=some nS.v)
  (q:(Ac size f M).rd S w xv) (o:FlatE f) (R:St w0 (oC (Ac size f ([]:List T)) nS.v::m) rs w) (B:0+M.length<=1099511627776) (D:B7m bytes 127=true)
  (h:∀(s':Sv) w',Rel w w'->St w0 (oC (Ac size f ([]++M)) s'.v::m) rs w'->K (s'.v) w'):
  Ex P n env w ⟨some d,.call {callee:=.builtin .append,args:= #[y,x],argTypes:= #[t,t]},ty,pos,af,none⟩ K:=by
 obtain⟨xs,j,I⟩:=Cs.src A q;have l:bytes<=127:=by simpa using D
 have k:(0+M.length)*bytes<=140737488355328:=by have:=B70 B l;omega
 obtain⟨s',w',u,Q⟩:=St.app (tyy:=ty) (own:=[]) (M:=M) (L:=([]:List T)) A O R j rfl (U1 I).symm (Agq o (λc s=>by
  obtain⟨a,_,r⟩:=B92.1 s;exact o a c r) I w) (by simp only[maxLen,B5y];omega) (by simpa using k)
 obtain⟨i,hi,V,H,C⟩:=O.info;subst H
 have p:Rel w w':=by
  by_cases U:M.length=0
  ·have F:=j.kind;have s:=j.cells;have N:=j.len;rw[U]at s N;have b:=u;rw[show(#[nS.v,xv]:Array Value)= #[.slice none 0 0,xv]from rfl]at b;have:s'.v=nS.v/\w'=w:=by rcases F with⟨e2,F⟩|F<;>(simp[Builtin.append_,run_underlying A,sizeOf,typeInfo,hi,s,N]at b;exact⟨b.1.symm,b.2.symm⟩)
   rw[this.2];exact Rel.refl w
  ·have b:=run_append_grow_src (P:=P) w t t ty e i z A hi V none 0 0 [] (run_firstCells_none _ _ _ _ _) xv M.length xs j (by omega) (by omega) (by rw[C];exact growslice_fits (by omega) k);rw[show(#[nS.v,xv]:Array Value)= #[.slice none 0 0,xv]from rfl,b]at u;obtain⟨_,rfl⟩:_/\(w.drew.alloc (.cells (([]++xs).toArray++Builtin.zeroCells z.cells (grownCap w (0+M.length) 0 e-(0+M.length))) e))=w':=by simpa using u
   exact(Rel.refl w).drew.trans (Rel.alloc _ _)
 refine Ha (v:=s'.v) (w':=w') (λa r=>?_) (h s' w' p Q);simp[execOp,resolve,invoke,builtin,r.ev G,r.ev hx,u]
end
end
section
open Go.RowKit
inductive HV where
 |row (s:Sv)
 |box (b:Nat)
 |num (k:Nat)
inductive Cell where
 |i (k:IntKind) (n:Int)
 |y (n:UInt8)
 |b (b:Bool)
 |s (s:ByteArray)
 |sl (h:Nat)
 |nil
 |ptr (h o:Nat)
 |ep (h k i j:Nat)
 |ix (u k h:Nat)
 |sx (u k h:Nat)
 |ln (h n:Nat)
 |fn (f:FuncId) (caps:List (Nat×Nat))
 |lt (h:Nat)
 |er (ok:Bool)
 |raw (v:Value)
inductive V1 where
 |c (x:Cell)
 |a (l:List Cell)
inductive SV where
 |v (x:V1)
 |t (l:List V1)
inductive Ty where
 |b (n:Nat)
 |sl (e:Ty)
def Ty.beq:Ty->Ty->Bool
 |.b m,.b n=>B5w m n
 |.sl x,.sl y=>Ty.beq x y
 |_,_=>false
theorem Ty.eq_of_beq:∀ {x y:Ty},Ty.beq x y=true->x=y
 |.b _,.b _,h=>congrArg Ty.b (B5k h)
 |.sl _,.sl _,h=>congrArg Ty.sl (Ty.eq_of_beq (by simpa [Ty.beq]using h))
 |.b _,.sl _,h=>by simp[Ty.beq]at h
 |.sl _,.b _,h=>by simp[Ty.beq]at h
theorem Ty.beq_refl:∀x,Ty.beq x x=true
 |.b n=>by simp[Ty.beq]
 |.sl x=>by simpa [Ty.beq]using Ty.beq_refl x
inductive TK where
 |int (k:IntKind)
 |bool
 |str
 |slice (e:TypeId)
 |struct (fs:List (Nat×TypeId))
 |other
structure TI where
 k:TK
 size:Nat
 bytes:Nat
 zero:List Cell
 ty:Option Ty
def Cell.val:Cell->Value
 |.i k x=>.int k x
 |.y x=>.int .u8 (x.toNat:Int)
 |.b x=>.bool x
 |.s x=>.string x
 |.nil=>.slice none 0 0
 |.raw x=>x
 |_=>.nilFunc
def TK.Is:TK->TypeDesc->Prop
 |.int k,d=>d=.int k
 |.bool,d=>d=.bool
 |.str,d=>d=.string
 |.slice e,d=>d=.slice e
 |.struct fs,d=>∃l:Array Field,d=.struct l/\l.toList.map (λf=>(f.offset,f.type))=fs
 |.other,d=>Xz d=true
structure TIok (P:Program) (t:TypeId) (i:TI):Prop where
 u:∃d,P.underlying t=some d/\i.k.Is d
 z:∃z,Sz P t i.size i.bytes z/\z.cells.toList=i.zero.map Cell.val
end
section
open Go.RowKit
def Aab:Nat->Type
 |0=>Int
 |1=>Bool
 |2=>ByteArray
 |3=>UInt8
 |4=>DPart
 |5=>DEntry
 |6=>DSeen
 |7=>DDoc
 |8=>DRing
 |9=>DSub
 |10=>DHub
 |11=>DQueue
 |12=>DCall
 |13=>DAnswer
 |14=>DTask
 |15=>DWorld
 |16=>DL02B
 |17=>DL04Cur
 |18=>DRest
 |_+19=>Unit
def Bi:Ty->Type
 |.b n=>Aab n
 |.sl e=>List (Bi e)
instance inhB (n:Nat):Inhabited (Aab n):=match n with
 |0=>inferInstanceAs (Inhabited Int)
 |1=>inferInstanceAs (Inhabited Bool)
 |2=>inferInstanceAs (Inhabited ByteArray)
 |3=>inferInstanceAs (Inhabited UInt8)
 |4=>inferInstanceAs (Inhabited DPart)
 |5=>inferInstanceAs (Inhabited DEntry)
 |6=>inferInstanceAs (Inhabited DSeen)
 |7=>inferInstanceAs (Inhabited DDoc)
 |8=>inferInstanceAs (Inhabited DRing)
 |9=>inferInstanceAs (Inhabited DSub)
 |10=>inferInstanceAs (Inhabited DHub)
 |11=>inferInstanceAs (Inhabited DQueue)
 |12=>inferInstanceAs (Inhabited DCall)
 |13=>inferInstanceAs (Inhabited DAnswer)
 |14=>inferInstanceAs (Inhabited DTask)
 |15=>inferInstanceAs (Inhabited DWorld)
 |16=>inferInstanceAs (Inhabited DL02B)
 |17=>inferInstanceAs (Inhabited DL04Cur)
 |18=>inferInstanceAs (Inhabited DRest)
 |_+19=>inferInstanceAs (Inhabited Unit)
instance inhD (t:Ty):Inhabited (Bi t):=match t with
 |.b n=>inhB n
 |.sl _=>⟨[]⟩
inductive Leaf where
 |i (n:Int)
 |b (b:Bool)
 |s (s:ByteArray)
 |y (n:UInt8)
 |sl (t:Ty) (l:List (Bi t))
def szQ:Nat->Nat
 |0=>1
 |1=>1
 |2=>1
 |3=>1
 |4=>3
 |5=>3
 |6=>3
 |7=>5
 |8=>4
 |9=>6
 |10=>4
 |11=>2
 |12=>7
 |13=>4
 |14=>15
 |15=>8
 |16=>3
 |17=>3
 |18=>1
 |_+19=>0
def sz:Ty->Nat
 |.b n=>szQ n
 |.sl _=>1
def fTB:(n:Nat)->Aab n->List Ce
 |0=>fI
 |1=>fB
 |2=>fT
 |3=>fY
 |4=>Ra
 |5=>T5
 |6=>Ao4
 |7=>Xc
 |8=>A1z
 |9=>Xd
 |10=>A1y
 |11=>Aaz
 |12=>A1x
 |13=>A1w
 |14=>Aa0
 |15=>Agg
 |16=>Bni
 |17=>Bnj
 |18=>Bnk
 |_+19=>λ_=>[]
def fD:(t:Ty)->Bi t->List Ce
 |.b n=>fTB n
 |.sl e=>λl=>[Ac (sz e) (fD e) l]
def Leaf.ce:Leaf->Ce
 |.i x=>cI x
 |.b x=>cB x
 |.s x=>cT x
 |.y x=>cY x
 |.sl t l=>Ac (sz t) (fD t) l
def Leaf.ty:Leaf->Ty
 |.i _=>.b 0
 |.b _=>.b 1
 |.s _=>.b 2
 |.y _=>.b 3
 |.sl t _=>.sl t
def lvB:Nat->List Ty
 |0=>[.b 0]
 |1=>[.b 1]
 |2=>[.b 2]
 |3=>[.b 3]
 |4=>[.b 0,.b 0,.sl (.b 0)]
 |5=>[.b 0,.b 0,.sl (.b 4)]
 |6=>[.b 0,.b 0,.b 0]
 |7=>[.b 2,.b 0,.sl (.b 0),.sl (.b 5),.sl (.b 6)]
 |8=>[.b 0,.b 0,.b 1,.sl (.b 5)]
 |9=>[.b 0,.b 2,.b 0,.b 0,.b 1,.sl (.b 5)]
 |10=>[.b 1,.sl (.b 7),.sl (.b 9),.b 0]
 |11=>[.b 2,.sl (.b 0)]
 |12=>[.b 0,.b 2,.b 0,.b 0,.b 0,.sl (.b 4),.sl (.b 0)]
 |13=>[.b 0,.b 0,.sl (.b 0),.sl (.b 5)]
 |14=>[.b 0,.b 2,.b 0,.b 0,.b 0,.sl (.b 4),.sl (.b 0),.b 0,.b 0,.b 0,.b 0,.b 0,.b 0,.sl (.b 0),.sl (.b 5)]
 |15=>[.b 1,.sl (.b 7),.sl (.b 9),.b 0,.sl (.b 0),.sl (.b 11),.sl (.b 14),.b 0]
 |16=>[.sl (.b 4),.sl (.b 0),.b 0]
 |17=>[.sl (.b 4),.b 0,.b 0]
 |18=>[.sl (.b 4)]
 |_+19=>[]
def Fg:Ty->List Ty
 |.b n=>lvB n
 |.sl e=>[.sl e]
def E9:(n:Nat)->Aab n->List Leaf
 |0=>λx=>[.i x]
 |1=>λx=>[.b x]
 |2=>λx=>[.s x]
 |3=>λx=>[.y x]
 |4=>λ(x:DPart)=>[.i x.kind,.i x.n,.sl (.b 0) x.signs]
 |5=>λ(x:DEntry)=>[.i x.client,.i x.seq,.sl (.b 4) x.o]
 |6=>λ(x:DSeen)=>[.i x.client,.i x.seq,.i x.rev]
 |7=>λ(x:DDoc)=>[.s x.name,.i x.from_,.sl (.b 0) x.text,.sl (.b 5) x.list,.sl (.b 6) x.seen]
 |8=>λ(x:DRing)=>[.i x.cap,.i x.next,.b x.out,.sl (.b 5) x.list]
 |9=>λ(x:DSub)=>[.i x.id,.s x.doc,.i x.r.cap,.i x.r.next,.b x.r.out,.sl (.b 5) x.r.list]
 |10=>λ(x:DHub)=>[.b x.shut,.sl (.b 7) x.docs,.sl (.b 9) x.subs,.i x.last]
 |11=>λ(x:DQueue)=>[.s x.doc,.sl (.b 0) x.list]
 |12=>λ(x:DCall)=>[.i x.kind,.s x.doc,.i x.client,.i x.seq,.i x.n,.sl (.b 4) x.o,.sl (.b 0) x.text]
 |13=>λ(x:DAnswer)=>[.i x.code,.i x.rev,.sl (.b 0) x.text,.sl (.b 5) x.list]
 |14=>λ(x:DTask)=>[.i x.c.kind,.s x.c.doc,.i x.c.client,.i x.c.seq,.i x.c.n,.sl (.b 4) x.c.o,.sl (.b 0) x.c.text,.i x.pc,.i x.inv,.i x.lin,.i x.res,.i x.a.code,.i x.a.rev,.sl (.b 0) x.a.text,.sl (.b 5) x.a.list]
 |15=>λ(x:DWorld)=>[.b x.h.shut,.sl (.b 7) x.h.docs,.sl (.b 9) x.h.subs,.i x.h.last,.sl (.b 0) x.locks,.sl (.b 11) x.queues,.sl (.b 14) x.tasks,.i x.step]
 |16=>λ(x:DL02B)=>[.sl (.b 4) x.list,.sl (.b 0) x.put,.i x.drop]
 |17=>λ(x:DL04Cur)=>[.sl (.b 4) x.o,.i x.at_,.i x.done]
 |18=>λ(x:DRest)=>[.sl (.b 4) x.parts]
 |_+19=>λ_=>[]
def A3:(t:Ty)->Bi t->List Leaf
 |.b n=>E9 n
 |.sl e=>λl=>[.sl e l]
def Ia (a b:Ty) (l:List (Bi a)):Option (List (Bi b)):=if h:Ty.beq a b=true then some (Ty.eq_of_beq h▸l)else none
theorem Bg7{a b l m} (h:Ia a b l=some m):Leaf.sl a l=Leaf.sl b m:=by
 unfold Ia at h;split at h
 ·rename_i c;cases Ty.eq_of_beq c;cases h;rfl
 ·cases h
def qI:List Leaf->Option (Int×List Leaf)
 |.i n::r=>some (n,r)
 |_=>none
def qB:List Leaf->Option (Bool×List Leaf)
 |.b n::r=>some (n,r)
 |_=>none
def qT:List Leaf->Option (ByteArray×List Leaf)
 |.s n::r=>some (n,r)
 |_=>none
def qY:List Leaf->Option (UInt8×List Leaf)
 |.y n::r=>some (n,r)
 |_=>none
def qL (e:Ty):List Leaf->Option (List (Bi e)×List Leaf)
 |.sl t l::r=>B5h (Ia t e l) λm=>some (m,r)
 |_=>none
theorem Ei{l q} (h:qI l=some q):l=.i q.1::q.2:=by unfold qI at h;split at h<;>cases h;rfl
theorem Ar6{l q} (h:qB l=some q):l=.b q.1::q.2:=by unfold qB at h;split at h<;>cases h;rfl
theorem Ab1{l q} (h:qT l=some q):l=.s q.1::q.2:=by unfold qT at h;split at h<;>cases h;rfl
theorem Btu{l q} (h:qY l=some q):l=.y q.1::q.2:=by unfold qY at h;split at h<;>cases h;rfl
theorem Fx{e l q} (h:qL e l=some q):l=.sl e q.1::q.2:=by
 unfold qL at h;split at h
 ·obtain⟨m,a,h⟩:=Af h;cases h;rw[Bg7 a]
 ·cases h
def Ars (l:List Leaf):Option (DPart×List Leaf):=B5h (qI l) λa=>B5h (qI a.2) λc=>B5h (qL (.b 0) c.2) λd=>some (⟨a.1,c.1,d.1⟩,d.2)
theorem Bs9{l q} (h:Ars l=some q):l=E9 4 q.1++q.2:=by unfold Ars at h;obtain⟨d,a,h⟩:=Af h;obtain⟨e,b,h⟩:=Af h;obtain⟨f,c,h⟩:=Af h;cases h;rw[Ei a,Ei b,Fx c];rfl
def Arp (l:List Leaf):Option (DEntry×List Leaf):=B5h (qI l) λa=>B5h (qI a.2) λc=>B5h (qL (.b 4) c.2) λd=>some (⟨a.1,c.1,d.1⟩,d.2)
theorem Bs6{l q} (h:Arp l=some q):l=E9 5 q.1++q.2:=by unfold Arp at h;obtain⟨d,a,h⟩:=Af h;obtain⟨e,b,h⟩:=Af h;obtain⟨f,c,h⟩:=Af h;cases h;rw[Ei a,Ei b,Fx c];rfl
def Arv (l:List Leaf):Option (DSeen×List Leaf):=B5h (qI l) λa=>B5h (qI a.2) λb=>B5h (qI b.2) λc=>some (⟨a.1,b.1,c.1⟩,c.2)
theorem Btc{l q} (h:Arv l=some q):l=E9 6 q.1++q.2:=by unfold Arv at h;obtain⟨d,a,h⟩:=Af h;obtain⟨e,b,h⟩:=Af h;obtain⟨f,c,h⟩:=Af h;cases h;rw[Ei a,Ei b,Ei c];rfl
def Aro (l:List Leaf):Option (DDoc×List Leaf):=B5h (qT l) λa=>B5h (qI a.2) λc=>B5h (qL (.b 0) c.2) λd=>B5h (qL (.b 5) d.2) λe=>B5h (qL (.b 6) e.2) λf=>some (⟨a.1,c.1,d.1,e.1,f.1⟩,f.2)
theorem Bs5{l q} (h:Aro l=some q):l=E9 7 q.1++q.2:=by unfold Aro at h;obtain⟨f,a,h⟩:=Af h;obtain⟨g,b,h⟩:=Af h;obtain⟨i,c,h⟩:=Af h;obtain⟨j,d,h⟩:=Af h;obtain⟨k,e,h⟩:=Af h;cases h;rw[Ab1 a,Ei b,Fx c,Fx d,Fx e];rfl
def Aia (l:List Leaf):Option (DRing×List Leaf):=B5h (qI l) λa=>B5h (qI a.2) λc=>B5h (qB c.2) λd=>B5h (qL (.b 5) d.2) λe=>some (⟨a.1,c.1,d.1,e.1⟩,e.2)
theorem A5m{l q} (h:Aia l=some q):l=E9 8 q.1++q.2:=by unfold Aia at h;obtain⟨e,a,h⟩:=Af h;obtain⟨f,b,h⟩:=Af h;obtain⟨g,c,h⟩:=Af h;obtain⟨i,d,h⟩:=Af h;cases h;rw[Ei a,Ei b,Ar6 c,Fx d];rfl
def Arw (l:List Leaf):Option (DSub×List Leaf):=B5h (qI l) λa=>B5h (qT a.2) λb=>B5h (Aia b.2) λc=>some (⟨a.1,b.1,c.1⟩,c.2)
theorem Btd{l q} (h:Arw l=some q):l=E9 9 q.1++q.2:=by unfold Arw at h;obtain⟨d,a,h⟩:=Af h;obtain⟨e,b,h⟩:=Af h;obtain⟨f,c,h⟩:=Af h;cases h;rw[Ei a,Ab1 b,A5m c];rfl
def Ah9 (l:List Leaf):Option (DHub×List Leaf):=B5h (qB l) λa=>B5h (qL (.b 7) a.2) λc=>B5h (qL (.b 9) c.2) λd=>B5h (qI d.2) λe=>some (⟨a.1,c.1,d.1,e.1⟩,e.2)
theorem A5l{l q} (h:Ah9 l=some q):l=E9 10 q.1++q.2:=by unfold Ah9 at h;obtain⟨e,a,h⟩:=Af h;obtain⟨f,b,h⟩:=Af h;obtain⟨g,c,h⟩:=Af h;obtain⟨i,d,h⟩:=Af h;cases h;rw[Ar6 a,Fx b,Fx c,Ei d];rfl
def Art (l:List Leaf):Option (DQueue×List Leaf):=B5h (qT l) λa=>B5h (qL (.b 0) a.2) λc=>some (⟨a.1,c.1⟩,c.2)
theorem Bta{l q} (h:Art l=some q):l=E9 11 q.1++q.2:=by unfold Art at h;obtain⟨c,a,h⟩:=Af h;obtain⟨d,b,h⟩:=Af h;cases h;rw[Ab1 a,Fx b];rfl
def Ah8 (l:List Leaf):Option (DCall×List Leaf):=B5h (qI l) λa=>B5h (qT a.2) λc=>B5h (qI c.2) λd=>B5h (qI d.2) λe=>B5h (qI e.2) λf=>B5h (qL (.b 4) f.2) λg=>B5h (qL (.b 0) g.2) λh=>some (⟨a.1,c.1,d.1,e.1,f.1,g.1,h.1⟩,h.2)
theorem A5k{l q} (h:Ah8 l=some q):l=E9 12 q.1++q.2:=by unfold Ah8 at h;obtain⟨i,a,h⟩:=Af h;obtain⟨j,b,h⟩:=Af h;obtain⟨k,c,h⟩:=Af h;obtain⟨m,d,h⟩:=Af h;obtain⟨n,e,h⟩:=Af h;obtain⟨o,f,h⟩:=Af h;obtain⟨p,g,h⟩:=Af h;cases h;rw[Ei a,Ab1 b,Ei c,Ei d,Ei e,Fx f,Fx g];rfl
def Ah7 (l:List Leaf):Option (DAnswer×List Leaf):=B5h (qI l) λa=>B5h (qI a.2) λc=>B5h (qL (.b 0) c.2) λd=>B5h (qL (.b 5) d.2) λe=>some (⟨a.1,c.1,d.1,e.1⟩,e.2)
theorem A5j{l q} (h:Ah7 l=some q):l=E9 13 q.1++q.2:=by unfold Ah7 at h;obtain⟨e,a,h⟩:=Af h;obtain⟨f,b,h⟩:=Af h;obtain⟨g,c,h⟩:=Af h;obtain⟨i,d,h⟩:=Af h;cases h;rw[Ei a,Ei b,Fx c,Fx d];rfl
def Arx (l:List Leaf):Option (DTask×List Leaf):=B5h (Ah8 l) λa=>B5h (qI a.2) λb=>B5h (qI b.2) λc=>B5h (qI c.2) λd=>B5h (qI d.2) λe=>B5h (Ah7 e.2) λf=>some (⟨a.1,b.1,c.1,d.1,e.1,f.1⟩,f.2)
theorem Bte{l q} (h:Arx l=some q):l=E9 14 q.1++q.2:=by unfold Arx at h;obtain⟨g,a,h⟩:=Af h;obtain⟨i,b,h⟩:=Af h;obtain⟨j,c,h⟩:=Af h;obtain⟨k,d,h⟩:=Af h;obtain⟨m,e,h⟩:=Af h;obtain⟨n,f,h⟩:=Af h;cases h;rw[A5k a,Ei b,Ei c,Ei d,Ei e,A5j f];rfl
def Ary (l:List Leaf):Option (DWorld×List Leaf):=B5h (Ah9 l) λa=>B5h (qL (.b 0) a.2) λc=>B5h (qL (.b 11) c.2) λd=>B5h (qL (.b 14) d.2) λe=>B5h (qI e.2) λf=>some (⟨a.1,c.1,d.1,e.1,f.1⟩,f.2)
theorem Btf{l q} (h:Ary l=some q):l=E9 15 q.1++q.2:=by unfold Ary at h;obtain⟨f,a,h⟩:=Af h;obtain⟨g,b,h⟩:=Af h;obtain⟨i,c,h⟩:=Af h;obtain⟨j,d,h⟩:=Af h;obtain⟨k,e,h⟩:=Af h;cases h;rw[A5l a,Fx b,Fx c,Fx d,Ei e];rfl
def Arq (l:List Leaf):Option (DL02B×List Leaf):=B5h (qL (.b 4) l) λa=>B5h (qL (.b 0) a.2) λc=>B5h (qI c.2) λd=>some (⟨a.1,c.1,d.1⟩,d.2)
theorem Bs7{l q} (h:Arq l=some q):l=E9 16 q.1++q.2:=by unfold Arq at h;obtain⟨d,a,h⟩:=Af h;obtain⟨e,b,h⟩:=Af h;obtain⟨f,c,h⟩:=Af h;cases h;rw[Fx a,Fx b,Ei c];rfl
def Arr (l:List Leaf):Option (DL04Cur×List Leaf):=B5h (qL (.b 4) l) λa=>B5h (qI a.2) λc=>B5h (qI c.2) λd=>some (⟨a.1,c.1,d.1⟩,d.2)
theorem Bs8{l q} (h:Arr l=some q):l=E9 17 q.1++q.2:=by unfold Arr at h;obtain⟨d,a,h⟩:=Af h;obtain⟨e,b,h⟩:=Af h;obtain⟨f,c,h⟩:=Af h;cases h;rw[Fx a,Ei b,Ei c];rfl
def Aru (l:List Leaf):Option (DRest×List Leaf):=B5h (qL (.b 4) l) λa=>some (⟨a.1⟩,a.2)
theorem Btb{l q} (h:Aru l=some q):l=E9 18 q.1++q.2:=by unfold Aru at h;obtain⟨b,a,h⟩:=Af h;cases h;rw[Fx a];rfl
def A54:(n:Nat)->List Leaf->Option (Aab n×List Leaf)
 |0=>qI
 |1=>qB
 |2=>qT
 |3=>qY
 |4=>Ars
 |5=>Arp
 |6=>Arv
 |7=>Aro
 |8=>Aia
 |9=>Arw
 |10=>Ah9
 |11=>Art
 |12=>Ah8
 |13=>Ah7
 |14=>Arx
 |15=>Ary
 |16=>Arq
 |17=>Arr
 |18=>Aru
 |_+19=>λl=>some ((),l)
def prs:(t:Ty)->List Leaf->Option (Bi t×List Leaf)
 |.b n=>A54 n
 |.sl e=>qL e
theorem Btm n{l q} (h:A54 n l=some q):l=E9 n q.1++q.2:=match n with
 |0=>Ei h
 |1=>Ar6 h
 |2=>Ab1 h
 |3=>Btu h
 |4=>Bs9 h
 |5=>Bs6 h
 |6=>Btc h
 |7=>Bs5 h
 |8=>A5m h
 |9=>Btd h
 |10=>A5l h
 |11=>Bta h
 |12=>A5k h
 |13=>A5j h
 |14=>Bte h
 |15=>Btf h
 |16=>Bs7 h
 |17=>Bs8 h
 |18=>Btb h
 |_+19=>by cases h;rfl
theorem Btn:∀(t:Ty) {l:List Leaf} {q:Bi t×List Leaf},prs t l=some q->l=A3 t q.1++q.2
 |.b n,_,_,h=>Btm n h
 |.sl _,_,_,h=>Fx h
def mk (t:Ty) (l:List Leaf):Option (Bi t):=match prs t l with
 |some (x,[])=>some x
 |_=>none
theorem E0{t l x} (h:mk t l=some x):A3 t x=l:=by
 unfold mk at h;split at h
 ·rename_i y a;cases h;have:=Btn t a;simpa using this.symm
 ·cases h
theorem Bnl n x:fTB n x=(E9 n x).map Leaf.ce:=match n with
 |0=>rfl
 |1=>rfl
 |2=>rfl
 |3=>rfl
 |4=>rfl
 |5=>rfl
 |6=>rfl
 |7=>rfl
 |8=>rfl
 |9=>rfl
 |10=>rfl
 |11=>rfl
 |12=>rfl
 |13=>rfl
 |14=>rfl
 |15=>rfl
 |16=>rfl
 |17=>rfl
 |18=>rfl
 |_+19=>rfl
theorem Dm:∀t x,fD t x=(A3 t x).map Leaf.ce
 |.b n,x=>Bnl n x
 |.sl _,_=>rfl
theorem B08 n x:(E9 n x).length=szQ n:=match n with
 |0=>rfl
 |1=>rfl
 |2=>rfl
 |3=>rfl
 |4=>rfl
 |5=>rfl
 |6=>rfl
 |7=>rfl
 |8=>rfl
 |9=>rfl
 |10=>rfl
 |11=>rfl
 |12=>rfl
 |13=>rfl
 |14=>rfl
 |15=>rfl
 |16=>rfl
 |17=>rfl
 |18=>rfl
 |_+19=>rfl
theorem G5:∀t x,(A3 t x).length=sz t
 |.b n,x=>B08 n x
 |.sl _,_=>rfl
theorem Brr n x:(E9 n x).map Leaf.ty=lvB n:=match n with
 |0=>rfl
 |1=>rfl
 |2=>rfl
 |3=>rfl
 |4=>rfl
 |5=>rfl
 |6=>rfl
 |7=>rfl
 |8=>rfl
 |9=>rfl
 |10=>rfl
 |11=>rfl
 |12=>rfl
 |13=>rfl
 |14=>rfl
 |15=>rfl
 |16=>rfl
 |17=>rfl
 |18=>rfl
 |_+19=>rfl
theorem A4d:∀t x,(A3 t x).map Leaf.ty=Fg t
 |.b n,x=>Brr n x
 |.sl _,_=>rfl
theorem C3 t x:(fD t x).length=sz t:=by rw[Dm,B6x,G5]
def A85:List (Nat×TI):=[
 (2,⟨.int .i64,1,8,[.i .i64 0],some (.b 0)⟩),
 (3,⟨.int .i64,1,8,[.i .i64 0],some (.b 0)⟩),
 (4,⟨.bool,1,1,[.b false],some (.b 1)⟩),
 (5,⟨.int .u8,1,1,[.y 0],some (.b 3)⟩),
 (9,⟨.str,1,16,[.s B52],some (.b 2)⟩),
 (12,⟨.int .u64,1,8,[.i .u64 0],none⟩),
 (13,⟨.struct [(0,9),(1,12)],2,24,[.s B52,.i .u64 0],none⟩),
 (21,⟨.int .i32,1,4,[.i .i32 0],none⟩),
 (22,⟨.slice 149,1,24,[.nil],some (.sl (.b 7))⟩),
 (23,⟨.slice 154,1,24,[.nil],some (.sl (.b 9))⟩),
 (24,⟨.struct [(0,4),(1,22),(2,23),(3,3)],4,64,[.b false,.nil,.nil,.i .i64 0],none⟩),
 (25,⟨.struct [(0,4),(1,22),(2,23),(3,3)],4,64,[.b false,.nil,.nil,.i .i64 0],some (.b 10)⟩),
 (26,⟨.slice 3,1,24,[.nil],some (.sl (.b 0))⟩),
 (27,⟨.slice 86,1,24,[.nil],some (.sl (.b 11))⟩),
 (28,⟨.slice 95,1,24,[.nil],some (.sl (.b 14))⟩),
 (29,⟨.struct [(0,25),(4,26),(5,27),(6,28),(7,3)],8,144,[.b false,.nil,.nil,.i .i64 0,.nil,.nil,.nil,.i .i64 0],none⟩),
 (30,⟨.struct [(0,25),(4,26),(5,27),(6,28),(7,3)],8,144,[.b false,.nil,.nil,.i .i64 0,.nil,.nil,.nil,.i .i64 0],some (.b 15)⟩),
 (32,⟨.slice 170,1,24,[.nil],some (.sl (.b 7))⟩),
 (33,⟨.slice 175,1,24,[.nil],some (.sl (.b 9))⟩),
 (34,⟨.struct [(0,4),(1,32),(2,33),(3,3)],4,64,[.b false,.nil,.nil,.i .i64 0],none⟩),
 (35,⟨.struct [(0,4),(1,32),(2,33),(3,3)],4,64,[.b false,.nil,.nil,.i .i64 0],some (.b 10)⟩),
 (36,⟨.slice 115,1,24,[.nil],some (.sl (.b 11))⟩),
 (37,⟨.slice 113,1,24,[.nil],some (.sl (.b 14))⟩),
 (38,⟨.struct [(0,35),(4,26),(5,36),(6,37),(7,3)],8,144,[.b false,.nil,.nil,.i .i64 0,.nil,.nil,.nil,.i .i64 0],none⟩),
 (39,⟨.struct [(0,35),(4,26),(5,36),(6,37),(7,3)],8,144,[.b false,.nil,.nil,.i .i64 0,.nil,.nil,.nil,.i .i64 0],some (.b 15)⟩),
 (46,⟨.slice 9,1,24,[.nil],some (.sl (.b 2))⟩),
 (58,⟨.slice 200,1,24,[.nil],some (.sl (.b 4))⟩),
 (59,⟨.struct [(0,3),(1,9),(2,3),(3,3),(4,3),(5,58),(6,26)],7,96,[.i .i64 0,.s B52,.i .i64 0,.i .i64 0,.i .i64 0,.nil,.nil],none⟩),
 (60,⟨.struct [(0,3),(1,9),(2,3),(3,3),(4,3),(5,58),(6,26)],7,96,[.i .i64 0,.s B52,.i .i64 0,.i .i64 0,.i .i64 0,.nil,.nil],some (.b 12)⟩),
 (85,⟨.struct [(0,9),(1,26)],2,40,[.s B52,.nil],none⟩),
 (86,⟨.struct [(0,9),(1,26)],2,40,[.s B52,.nil],some (.b 11)⟩),
 (88,⟨.slice 243,1,24,[.nil],some (.sl (.b 4))⟩),
 (89,⟨.struct [(0,3),(1,9),(2,3),(3,3),(4,3),(5,88),(6,26)],7,96,[.i .i64 0,.s B52,.i .i64 0,.i .i64 0,.i .i64 0,.nil,.nil],none⟩),
 (90,⟨.struct [(0,3),(1,9),(2,3),(3,3),(4,3),(5,88),(6,26)],7,96,[.i .i64 0,.s B52,.i .i64 0,.i .i64 0,.i .i64 0,.nil,.nil],some (.b 12)⟩),
 (91,⟨.slice 241,1,24,[.nil],some (.sl (.b 5))⟩),
 (92,⟨.struct [(0,3),(1,3),(2,26),(3,91)],4,64,[.i .i64 0,.i .i64 0,.nil,.nil],none⟩),
 (93,⟨.struct [(0,3),(1,3),(2,26),(3,91)],4,64,[.i .i64 0,.i .i64 0,.nil,.nil],some (.b 13)⟩),
 (94,⟨.struct [(0,90),(7,3),(8,3),(9,3),(10,3),(11,93)],15,192,[.i .i64 0,.s B52,.i .i64 0,.i .i64 0,.i .i64 0,.nil,.nil,.i .i64 0,.i .i64 0,.i .i64 0,.i .i64 0,.i .i64 0,.i .i64 0,.nil,.nil],none⟩),
 (95,⟨.struct [(0,90),(7,3),(8,3),(9,3),(10,3),(11,93)],15,192,[.i .i64 0,.s B52,.i .i64 0,.i .i64 0,.i .i64 0,.nil,.nil,.i .i64 0,.i .i64 0,.i .i64 0,.i .i64 0,.i .i64 0,.i .i64 0,.nil,.nil],some (.b 14)⟩),
 (109,⟨.slice 202,1,24,[.nil],some (.sl (.b 5))⟩),
 (110,⟨.struct [(0,3),(1,3),(2,26),(3,109)],4,64,[.i .i64 0,.i .i64 0,.nil,.nil],none⟩),
 (111,⟨.struct [(0,3),(1,3),(2,26),(3,109)],4,64,[.i .i64 0,.i .i64 0,.nil,.nil],some (.b 13)⟩),
 (112,⟨.struct [(0,60),(7,3),(8,3),(9,3),(10,3),(11,111)],15,192,[.i .i64 0,.s B52,.i .i64 0,.i .i64 0,.i .i64 0,.nil,.nil,.i .i64 0,.i .i64 0,.i .i64 0,.i .i64 0,.i .i64 0,.i .i64 0,.nil,.nil],none⟩),
 (113,⟨.struct [(0,60),(7,3),(8,3),(9,3),(10,3),(11,111)],15,192,[.i .i64 0,.s B52,.i .i64 0,.i .i64 0,.i .i64 0,.nil,.nil,.i .i64 0,.i .i64 0,.i .i64 0,.i .i64 0,.i .i64 0,.i .i64 0,.nil,.nil],some (.b 14)⟩),
 (115,⟨.struct [(0,9),(1,26)],2,40,[.s B52,.nil],some (.b 11)⟩),
 (145,⟨.slice 5,1,24,[.nil],some (.sl (.b 3))⟩),
 (147,⟨.slice 265,1,24,[.nil],some (.sl (.b 6))⟩),
 (148,⟨.struct [(0,9),(1,3),(2,26),(3,91),(4,147)],5,96,[.s B52,.i .i64 0,.nil,.nil,.nil],none⟩),
 (149,⟨.struct [(0,9),(1,3),(2,26),(3,91),(4,147)],5,96,[.s B52,.i .i64 0,.nil,.nil,.nil],some (.b 7)⟩),
 (151,⟨.struct [(0,3),(1,3),(2,4),(3,91)],4,48,[.i .i64 0,.i .i64 0,.b false,.nil],none⟩),
 (152,⟨.struct [(0,3),(1,3),(2,4),(3,91)],4,48,[.i .i64 0,.i .i64 0,.b false,.nil],some (.b 8)⟩),
 (153,⟨.struct [(0,3),(1,9),(2,152)],6,72,[.i .i64 0,.s B52,.i .i64 0,.i .i64 0,.b false,.nil],none⟩),
 (154,⟨.struct [(0,3),(1,9),(2,152)],6,72,[.i .i64 0,.s B52,.i .i64 0,.i .i64 0,.b false,.nil],some (.b 9)⟩),
 (168,⟨.slice 238,1,24,[.nil],some (.sl (.b 6))⟩),
 (169,⟨.struct [(0,9),(1,3),(2,26),(3,109),(4,168)],5,96,[.s B52,.i .i64 0,.nil,.nil,.nil],none⟩),
 (170,⟨.struct [(0,9),(1,3),(2,26),(3,109),(4,168)],5,96,[.s B52,.i .i64 0,.nil,.nil,.nil],some (.b 7)⟩),
 (172,⟨.struct [(0,3),(1,3),(2,4),(3,109)],4,48,[.i .i64 0,.i .i64 0,.b false,.nil],none⟩),
 (173,⟨.struct [(0,3),(1,3),(2,4),(3,109)],4,48,[.i .i64 0,.i .i64 0,.b false,.nil],some (.b 8)⟩),
 (174,⟨.struct [(0,3),(1,9),(2,173)],6,72,[.i .i64 0,.s B52,.i .i64 0,.i .i64 0,.b false,.nil],none⟩),
 (175,⟨.struct [(0,3),(1,9),(2,173)],6,72,[.i .i64 0,.s B52,.i .i64 0,.i .i64 0,.b false,.nil],some (.b 9)⟩),
 (199,⟨.struct [(0,3),(1,3),(2,26)],3,40,[.i .i64 0,.i .i64 0,.nil],none⟩),
 (200,⟨.struct [(0,3),(1,3),(2,26)],3,40,[.i .i64 0,.i .i64 0,.nil],some (.b 4)⟩),
 (201,⟨.struct [(0,3),(1,3),(2,58)],3,40,[.i .i64 0,.i .i64 0,.nil],none⟩),
 (202,⟨.struct [(0,3),(1,3),(2,58)],3,40,[.i .i64 0,.i .i64 0,.nil],some (.b 5)⟩),
 (237,⟨.struct [(0,3),(1,3),(2,3)],3,24,[.i .i64 0,.i .i64 0,.i .i64 0],none⟩),
 (238,⟨.struct [(0,3),(1,3),(2,3)],3,24,[.i .i64 0,.i .i64 0,.i .i64 0],some (.b 6)⟩),
 (240,⟨.struct [(0,3),(1,3),(2,88)],3,40,[.i .i64 0,.i .i64 0,.nil],none⟩),
 (241,⟨.struct [(0,3),(1,3),(2,88)],3,40,[.i .i64 0,.i .i64 0,.nil],some (.b 5)⟩),
 (243,⟨.struct [(0,3),(1,3),(2,26)],3,40,[.i .i64 0,.i .i64 0,.nil],some (.b 4)⟩),
 (265,⟨.struct [(0,3),(1,3),(2,3)],3,24,[.i .i64 0,.i .i64 0,.i .i64 0],some (.b 6)⟩),
 (272,⟨.struct [(0,271),(1,145)],2,32,[.raw (.pointer none),.nil],none⟩),
 (273,⟨.struct [(0,271),(1,145)],2,32,[.raw (.pointer none),.nil],none⟩),
 (276,⟨.int .i64,1,8,[.i .i64 0],some (.b 0)⟩),
 (283,⟨.slice 58,1,24,[.nil],some (.sl (.sl (.b 4)))⟩),
 (291,⟨.struct [(0,58),(1,26),(2,3)],3,56,[.nil,.nil,.i .i64 0],none⟩),
 (292,⟨.struct [(0,58),(1,26),(2,3)],3,56,[.nil,.nil,.i .i64 0],some (.b 16)⟩),
 (303,⟨.int .u64,1,8,[.i .u64 0],none⟩),
 (307,⟨.int .u64,1,8,[.i .u64 0],none⟩),
 (325,⟨.struct [(0,5),(1,5)],2,2,[.y 0,.y 0],none⟩),
 (326,⟨.struct [(0,5),(1,5)],2,2,[.y 0,.y 0],none⟩),
 (328,⟨.int .u32,1,4,[.i .u32 0],none⟩),
 (341,⟨.struct [(0,9)],1,16,[.s B52],none⟩),
 (342,⟨.struct [(0,9)],1,16,[.s B52],none⟩),
 (356,⟨.struct [(0,58),(1,3),(2,3)],3,40,[.nil,.i .i64 0,.i .i64 0],none⟩),
 (357,⟨.struct [(0,58),(1,3),(2,3)],3,40,[.nil,.i .i64 0,.i .i64 0],some (.b 17)⟩),
 (364,⟨.struct [(0,58)],1,24,[.nil],none⟩),
 (365,⟨.struct [(0,58)],1,24,[.nil],some (.b 18)⟩)]
def alw {α:Type} (p:α->Prop):List α->Prop
 |[]=>True
 |a::l=>p a/\alw p l
theorem B16:alw (λp=>TIok Tryz.prog p.1 p.2) A85:=⟨
 ⟨⟨_,u2,rfl⟩,⟨_,sz2,rfl⟩⟩,
 ⟨⟨_,u3,rfl⟩,⟨_,sz3,rfl⟩⟩,
 ⟨⟨_,u4,rfl⟩,⟨_,sz4,rfl⟩⟩,
 ⟨⟨_,u5,rfl⟩,⟨_,sz5,rfl⟩⟩,
 ⟨⟨_,u9,rfl⟩,⟨_,sz9,rfl⟩⟩,
 ⟨⟨_,u12,rfl⟩,⟨_,By0,rfl⟩⟩,
 ⟨⟨_,u13,⟨_,rfl,rfl⟩⟩,⟨_,By1,rfl⟩⟩,
 ⟨⟨_,u21,rfl⟩,⟨_,Bzl,rfl⟩⟩,
 ⟨⟨_,u22,rfl⟩,⟨_,Bzm,rfl⟩⟩,
 ⟨⟨_,u23,rfl⟩,⟨_,Bzn,rfl⟩⟩,
 ⟨⟨_,u24,⟨_,rfl,rfl⟩⟩,⟨_,Bzp,rfl⟩⟩,
 ⟨⟨_,u25,⟨_,rfl,rfl⟩⟩,⟨_,Bzt,rfl⟩⟩,
 ⟨⟨_,u26,rfl⟩,⟨_,Bzu,rfl⟩⟩,
 ⟨⟨_,u27,rfl⟩,⟨_,Bzw,rfl⟩⟩,
 ⟨⟨_,u28,rfl⟩,⟨_,Bz0,rfl⟩⟩,
 ⟨⟨_,u29,⟨_,rfl,rfl⟩⟩,⟨_,Bz2,rfl⟩⟩,
 ⟨⟨_,u30,⟨_,rfl,rfl⟩⟩,⟨_,Bz6,rfl⟩⟩,
 ⟨⟨_,u32,rfl⟩,⟨_,Bz9,rfl⟩⟩,
 ⟨⟨_,u33,rfl⟩,⟨_,B0d,rfl⟩⟩,
 ⟨⟨_,u34,⟨_,rfl,rfl⟩⟩,⟨_,B0e,rfl⟩⟩,
 ⟨⟨_,u35,⟨_,rfl,rfl⟩⟩,⟨_,B0h,rfl⟩⟩,
 ⟨⟨_,u36,rfl⟩,⟨_,B0k,rfl⟩⟩,
 ⟨⟨_,u37,rfl⟩,⟨_,B0n,rfl⟩⟩,
 ⟨⟨_,u38,⟨_,rfl,rfl⟩⟩,⟨_,B0o,rfl⟩⟩,
 ⟨⟨_,u39,⟨_,rfl,rfl⟩⟩,⟨_,B0p,rfl⟩⟩,
 ⟨⟨_,u46,rfl⟩,⟨_,B0r,rfl⟩⟩,
 ⟨⟨_,u58,rfl⟩,⟨_,B0t,rfl⟩⟩,
 ⟨⟨_,u59,⟨_,rfl,rfl⟩⟩,⟨_,B0u,rfl⟩⟩,
 ⟨⟨_,u60,⟨_,rfl,rfl⟩⟩,⟨_,B0v,rfl⟩⟩,
 ⟨⟨_,u85,⟨_,rfl,rfl⟩⟩,⟨_,B0w,rfl⟩⟩,
 ⟨⟨_,u86,⟨_,rfl,rfl⟩⟩,⟨_,B0x,rfl⟩⟩,
 ⟨⟨_,u88,rfl⟩,⟨_,B0y,rfl⟩⟩,
 ⟨⟨_,u89,⟨_,rfl,rfl⟩⟩,⟨_,B0z,rfl⟩⟩,
 ⟨⟨_,u90,⟨_,rfl,rfl⟩⟩,⟨_,B01,rfl⟩⟩,
 ⟨⟨_,u91,rfl⟩,⟨_,B02,rfl⟩⟩,
 ⟨⟨_,u92,⟨_,rfl,rfl⟩⟩,⟨_,B03,rfl⟩⟩,
 ⟨⟨_,u93,⟨_,rfl,rfl⟩⟩,⟨_,B04,rfl⟩⟩,
 ⟨⟨_,u94,⟨_,rfl,rfl⟩⟩,⟨_,B05,rfl⟩⟩,
 ⟨⟨_,u95,⟨_,rfl,rfl⟩⟩,⟨_,B06,rfl⟩⟩,
 ⟨⟨_,B2d,rfl⟩,⟨_,Byv,rfl⟩⟩,
 ⟨⟨_,B2e,⟨_,rfl,rfl⟩⟩,⟨_,Byw,rfl⟩⟩,
 ⟨⟨_,B2f,⟨_,rfl,rfl⟩⟩,⟨_,Byx,rfl⟩⟩,
 ⟨⟨_,B2g,⟨_,rfl,rfl⟩⟩,⟨_,Byy,rfl⟩⟩,
 ⟨⟨_,B2h,⟨_,rfl,rfl⟩⟩,⟨_,Byz,rfl⟩⟩,
 ⟨⟨_,B2i,⟨_,rfl,rfl⟩⟩,⟨_,Aty,rfl⟩⟩,
 ⟨⟨_,B2l,rfl⟩,⟨_,By2,rfl⟩⟩,
 ⟨⟨_,B2m,rfl⟩,⟨_,By3,rfl⟩⟩,
 ⟨⟨_,B2n,⟨_,rfl,rfl⟩⟩,⟨_,By4,rfl⟩⟩,
 ⟨⟨_,B2o,⟨_,rfl,rfl⟩⟩,⟨_,By5,rfl⟩⟩,
 ⟨⟨_,B2p,⟨_,rfl,rfl⟩⟩,⟨_,By6,rfl⟩⟩,
 ⟨⟨_,B2q,⟨_,rfl,rfl⟩⟩,⟨_,By7,rfl⟩⟩,
 ⟨⟨_,B2r,⟨_,rfl,rfl⟩⟩,⟨_,By8,rfl⟩⟩,
 ⟨⟨_,B2s,⟨_,rfl,rfl⟩⟩,⟨_,By9,rfl⟩⟩,
 ⟨⟨_,B2t,rfl⟩,⟨_,Bza,rfl⟩⟩,
 ⟨⟨_,B2u,⟨_,rfl,rfl⟩⟩,⟨_,Bzb,rfl⟩⟩,
 ⟨⟨_,B2v,⟨_,rfl,rfl⟩⟩,⟨_,A8p,rfl⟩⟩,
 ⟨⟨_,B2w,⟨_,rfl,rfl⟩⟩,⟨_,Bzc,rfl⟩⟩,
 ⟨⟨_,B2x,⟨_,rfl,rfl⟩⟩,⟨_,Bzd,rfl⟩⟩,
 ⟨⟨_,B2y,⟨_,rfl,rfl⟩⟩,⟨_,Bze,rfl⟩⟩,
 ⟨⟨_,B2z,⟨_,rfl,rfl⟩⟩,⟨_,Bzf,rfl⟩⟩,
 ⟨⟨_,B20,⟨_,rfl,rfl⟩⟩,⟨_,Bzg,rfl⟩⟩,
 ⟨⟨_,B21,⟨_,rfl,rfl⟩⟩,⟨_,Bzi,rfl⟩⟩,
 ⟨⟨_,B22,⟨_,rfl,rfl⟩⟩,⟨_,Bzj,rfl⟩⟩,
 ⟨⟨_,B23,⟨_,rfl,rfl⟩⟩,⟨_,Bzk,rfl⟩⟩,
 ⟨⟨_,B27,⟨_,rfl,rfl⟩⟩,⟨_,Bzo,rfl⟩⟩,
 ⟨⟨_,B28,⟨_,rfl,rfl⟩⟩,⟨_,A8q,rfl⟩⟩,
 ⟨⟨_,B3a,⟨_,rfl,rfl⟩⟩,⟨_,Bzq,rfl⟩⟩,
 ⟨⟨_,B3b,⟨_,rfl,rfl⟩⟩,⟨_,Bzr,rfl⟩⟩,
 ⟨⟨_,B3c,⟨_,rfl,rfl⟩⟩,⟨_,Bzs,rfl⟩⟩,
 ⟨⟨_,B3f,⟨_,rfl,rfl⟩⟩,⟨_,Bzv,rfl⟩⟩,
 ⟨⟨_,B3h,⟨_,rfl,rfl⟩⟩,⟨_,Bzx,rfl⟩⟩,
 ⟨⟨_,B3i,⟨_,rfl,rfl⟩⟩,⟨_,Bzy,rfl⟩⟩,
 ⟨⟨_,B3j,rfl⟩,⟨_,Bzz,rfl⟩⟩,
 ⟨⟨_,B3l,rfl⟩,⟨_,Bz1,rfl⟩⟩,
 ⟨⟨_,B3n,⟨_,rfl,rfl⟩⟩,⟨_,Bz3,rfl⟩⟩,
 ⟨⟨_,B3o,⟨_,rfl,rfl⟩⟩,⟨_,Bz4,rfl⟩⟩,
 ⟨⟨_,B3q,rfl⟩,⟨_,Bz7,rfl⟩⟩,
 ⟨⟨_,B3r,rfl⟩,⟨_,Bz8,rfl⟩⟩,
 ⟨⟨_,B3s,⟨_,rfl,rfl⟩⟩,⟨_,B0a,rfl⟩⟩,
 ⟨⟨_,B3t,⟨_,rfl,rfl⟩⟩,⟨_,B0b,rfl⟩⟩,
 ⟨⟨_,B3u,rfl⟩,⟨_,B0c,rfl⟩⟩,
 ⟨⟨_,B3x,⟨_,rfl,rfl⟩⟩,⟨_,B0f,rfl⟩⟩,
 ⟨⟨_,B3y,⟨_,rfl,rfl⟩⟩,⟨_,B0g,rfl⟩⟩,
 ⟨⟨_,B30,⟨_,rfl,rfl⟩⟩,⟨_,B0i,rfl⟩⟩,
 ⟨⟨_,B31,⟨_,rfl,rfl⟩⟩,⟨_,B0j,rfl⟩⟩,
 ⟨⟨_,B33,⟨_,rfl,rfl⟩⟩,⟨_,B0l,rfl⟩⟩,
 ⟨⟨_,B34,⟨_,rfl,rfl⟩⟩,⟨_,B0m,rfl⟩⟩,trivial⟩
def lkT:List (Nat×TI)->Nat->Option TI
 |[],_=>none
 |(k,v)::r,t=>bif B5w k t then some v else lkT r t
def F6 (t:Nat):Option TI:=lkT A85 t
theorem A4b {p:Nat->TI->Prop}:∀ {l:List (Nat×TI)},alw (λq=>p q.1 q.2) l->∀ {t:Nat} {i:TI},lkT l t=some i->p t i
 |[],_,_,_,h=>by cases h
 |(k,v)::r,⟨h0,h1⟩,t,i,h=>by
  simp only[lkT]at h;cases a:B5w k t with
  |true=>rw[a]at h;cases h;cases B5k a;exact h0
  |false=>rw[a]at h;exact A4b h1 h
theorem F7{t i} (h:F6 t=some i):TIok Tryz.prog t i:=A4b (p:=λt i=>TIok Tryz.prog t i) B16 h
end
section
open Go.RowKit
inductive VP where
 |no
 |ei (i j:Nat)
 |cut (lo hi:Nat)
 |ec (i j lo hi:Nat)
 |c3 (hi:Nat)
structure View where
 h:Nat
 t:Ty
 L:List (Bi t)
 pos:VP
structure Cont where
 t:Ty
 L:List (Bi t)
inductive Chunk where
 |box (h g:Nat) (cs:List Cell)
 |row (h g:Nat) (t:Ty) (L:List (Bi t)) (vs:List View)
 |sha (h g:Nat) (t:Ty) (L:List (Bi t))
 |hol (h g:Nat) (t:Ty) (L:List (Bi t)) (i j o:Nat)
 |rem (h g:Nat) (t:Ty) (L:List (Bi t)) (hi:Nat)
structure SSt where
 env:List (Nat×Option SV)
 own:List Chunk
 rds:List View
 nxt:Nat
section
variable {R:Type}
def nth {α:Type}:List α->Nat->Option α
 |[],_=>none
 |a::_,0=>some a
 |_::l,k+1=>nth l k
def Au:List (Nat×Option SV)->Nat->Option SV
 |[],_=>none
 |(k,v)::r,t=>bif B5w k t then v else Au r t
def SSt.put (st:SSt) (d:Nat) (v:SV):SSt:= {st with env:=(d,some v)::st.env}
def Z7:Value->Cell
 |.int .u8 n=>bif decide (0<=n)&&decide (n<=255)then .y (Cac n.toNat)else .raw (.int .u8 n)
 |.int k n=>.i k n
 |.bool x=>.b x
 |.string x=>.s x
 |.slice none 0 0=>.nil
 |v=>.raw v
def Atw:Value->Option SV
 |.agg cs=>bif cs.toList.all (·.oneCell')then some (.v (.a (cs.toList.map Z7)))else none
 |v=>bif v.oneCell' then some (.v (.c (Z7 v)))else none
def evS (env:List (Nat×Option SV)):Operand->Option SV
 |.tmp t=>Au env t
 |.const v=>Atw v
 |.func f=>some (.v (.c (.fn f [])))
 |.global _=>none
def ev1 (env:List (Nat×Option SV)) (o:Operand):Option V1:=match evS env o with
 |some (.v x)=>some x
 |_=>none
def evC (env:List (Nat×Option SV)) (o:Operand):Option Cell:=match evS env o with
 |some (.v (.c x))=>some x
 |_=>none
def Cell.asInt:Cell->Option (IntKind×Int)
 |.i k n=>some (k,n)
 |.y n=>some (.u8,(n.toNat:Int))
 |.ix _ k _=>some (.i64,(k:Int))
 |.sx _ k _=>some (.i64,(k:Int)+1)
 |.ln _ n=>some (.i64,(n:Int))
 |_=>none
def evB (env:List (Nat×Option SV)) (o:Operand):Option Bool:=match evC env o with
 |some (.b x)=>some x
 |_=>none
def Jq (h:Nat):List View->Option Cont
 |[]=>none
 |v::r=>bif B5w v.h h then some ⟨v.t,v.L⟩else Jq h r
def Ct (h:Nat):List Chunk->Option Cont
 |[]=>none
 |.box _ _ _::r=>Ct h r
 |.row k _ t L vs::r=>bif B5w k h then some ⟨t,L⟩else match Jq h vs with
  |some c=>some c
  |none=>Ct h r
 |.sha k _ t L::r=>bif B5w k h then some ⟨t,L⟩else Ct h r
 |.hol _ _ _ _ _ _ _::r=>Ct h r
 |.rem _ _ _ _ _::r=>Ct h r
def Xj (h:Nat):List Chunk->Option Cont
 |[]=>none
 |.hol k _ t L _ _ _::r=>bif B5w k h then some ⟨t,L⟩else Xj h r
 |_::r=>Xj h r
def SSt.cont (st:SSt) (h:Nat):Option Cont:=match Ct h st.own with
 |some c=>some c
 |none=>Jq h st.rds
def Tg (h:Nat):List Chunk->Option (List Cell)
 |[]=>none
 |.box k _ cs::r=>bif B5w k h then some cs else Tg h r
 |_::r=>Tg h r
def SSt.contI (st:SSt) (h:Nat):Option Cont:=match st.cont h with
 |some c=>some c
 |none=>Xj h st.own
def J0 (h:Nat):List View->VP
 |[]=>.no
 |v::r=>bif B5w v.h h then v.pos else J0 h r
def VP.sub:VP->VP->VP
 |.ei i j,.cut lo hi=>.ec i j lo hi
 |_,_=>.no
def addV (h:Nat) (v:View):List Chunk->Option (List Chunk)
 |[]=>none
 |.row k g t L vs::r=>bif B5w k h then some (.row k g t L (v::vs)::r)else match Jq h vs with
  |some _=>some (.row k g t L ({v with pos:=(J0 h vs).sub v.pos}::vs)::r)
  |none=>(addV h v r).map λr=>.row k g t L vs::r
 |.sha k g t L::r=>bif B5w k h then none else(addV h v r).map λr=>.sha k g t L::r
 |.box k g cs::r=>(addV h v r).map λr=>.box k g cs::r
 |.hol k g t L i j o::r=>(addV h v r).map λr=>.hol k g t L i j o::r
 |.rem k g t L i::r=>(addV h v r).map λr=>.rem k g t L i::r
def SSt.see (st:SSt) (h:Nat) (v:View):SSt:=match addV h v st.own with
 |some o=> {st with own:=o,nxt:=st.nxt+1}
 |none=> {st with rds:= {v with pos:=.no}::st.rds,nxt:=st.nxt+1}
def Ih (h i:Nat):List Leaf->Nat->SSt->List Cell×SSt
 |[],_,st=>([],st)
 |.i n::r,j,st=>let p:=Ih h i r (j+1) st;(.i .i64 n::p.1,p.2)
 |.b n::r,j,st=>let p:=Ih h i r (j+1) st;(.b n::p.1,p.2)
 |.s n::r,j,st=>let p:=Ih h i r (j+1) st;(.s n::p.1,p.2)
 |.y n::r,j,st=>let p:=Ih h i r (j+1) st;(.y n::p.1,p.2)
 |.sl t l::r,j,st=>let p:=Ih h i r (j+1) (st.see h ⟨st.nxt,t,l,.ei i j⟩);(.sl st.nxt::p.1,p.2)
def F4 (h:Nat):List Chunk->Option (Cont×List Chunk)
 |[]=>none
 |.row k g t L vs::r=>bif B5w k h then some (⟨t,L⟩,r)else(F4 h r).map λp=>(p.1,.row k g t L vs::p.2)
 |c::r=>(F4 h r).map λp=>(p.1,c::p.2)
def cutV (h:Nat):List View->Option Cont
 |[]=>none
 |v::r=>bif B5w v.h h then(match v.pos with
  |.cut _ _=>some ⟨v.t,v.L⟩
  |_=>none)else cutV h r
def Oa (h:Nat):List Chunk->Option (Cont×List Chunk)
 |[]=>none
 |.row k g t L vs::r=>bif B5w k h then some (⟨t,L⟩,r)else match cutV h vs with
  |some c=>some (c,r)
  |none=>(Oa h r).map λp=>(p.1,.row k g t L vs::p.2)
 |c::r=>(Oa h r).map λp=>(p.1,c::p.2)
def X2 (h:Nat):List View->Option ((Nat×Nat)×Cont)
 |[]=>none
 |v::r=>bif B5w v.h h then(match v.pos with
  |.ei i j=>some ((i,j),⟨v.t,v.L⟩)
  |.ec i j _ _=>some ((i,j),⟨v.t,v.L⟩)
  |_=>none)else X2 h r
def X5 (h n:Nat) (vs:List View):Nat:=match J0 h vs with
 |.ei _ _=>h
 |_=>n
def N9 (h n:Nat):List Chunk->Option (Cont×List Chunk)
 |[]=>none
 |.row k g t L vs::r=>match X2 h vs with
  |some p=>some (p.2,.hol k n t L p.1.1 p.1.2 (X5 h n vs)::r)
  |none=>(N9 h n r).map λp=>(p.1,.row k g t L vs::p.2)
 |c::r=>(N9 h n r).map λp=>(p.1,c::p.2)
def Rx (h:Nat) (st:SSt):SSt:=match N9 h st.nxt st.own with
 |some p=> {st with own:=.row h (st.nxt+1) p.1.t p.1.L []::p.2,nxt:=st.nxt+2}
 |none=>st
def Kz:List Cell->SSt->SSt
 |[],st=>st
 |c::r,st=>match c with
  |.sl h=>Kz r (Rx h st)
  |_=>Kz r st
structure HolD where
 t:Ty
 L:List (Bi t)
 i:Nat
 j:Nat
def Nn (h:Nat):List Chunk->Option (HolD×List Chunk)
 |[]=>none
 |.hol k g t L i j o::r=>bif B5w k h then some (⟨t,L,i,j⟩,r)else(Nn h r).map λp=>(p.1,.hol k g t L i j o::p.2)
 |c::r=>(Nn h r).map λp=>(p.1,c::p.2)
def Ya (h:Nat):List View->Option Nat
 |[]=>none
 |v::r=>bif B5w v.h h then(match v.pos with
  |.cut 0 hi=>some hi
  |_=>none)else Ya h r
def Uk (h n:Nat):List Chunk->Option ((Cont×Nat)×List Chunk)
 |[]=>none
 |.row k g t L vs::r=>match Ya h vs with
  |some hi=>some ((⟨t,L⟩,hi),.rem k n t L hi::r)
  |none=>(Uk h n r).map λp=>(p.1,.row k g t L vs::p.2)
 |c::r=>(Uk h n r).map λp=>(p.1,c::p.2)
structure RemD where
 t:Ty
 L:List (Bi t)
 hi:Nat
def U3 (h:Nat):List Chunk->Option (RemD×List Chunk)
 |[]=>none
 |.rem k g t L hi::r=>bif B5w k h then some (⟨t,L,hi⟩,r)else(U3 h r).map λp=>(p.1,.rem k g t L hi::p.2)
 |c::r=>(U3 h r).map λp=>(p.1,c::p.2)
def Lq (h:Nat):List Chunk->Option (List Cell×List Chunk)
 |[]=>none
 |.box k g cs::r=>bif B5w k h then some (cs,r)else(Lq h r).map λp=>(p.1,.box k g cs::p.2)
 |c::r=>(Lq h r).map λp=>(p.1,c::p.2)
def Ym:Ty->Cell->Option Leaf
 |.b 0,c=>match c.asInt with
  |some (.i64,n)=>some (.i n)
  |_=>none
 |.b 1,.b x=>some (.b x)
 |.b 2,.s x=>some (.s x)
 |.b 3,.y x=>some (.y x)
 |.sl e,.nil=>some (.sl e [])
 |_,_=>none
def Aso (st:SSt) (e:Ty) (c:Cell):Option Leaf:=match c with
 |.sl h=>(st.cont h).map λc=>.sl c.t c.L
 |c=>Ym e c
def J6 (st:SSt):List Ty->List Cell->Option (List Leaf)
 |[],[]=>some []
 |e::es,c::cs=>B5h (Aso st e c) λl=>B5h (J6 st es cs) λls=>some (l::ls)
 |_,_=>none
def Abu (e:Ty) (c:Cell) (own:List Chunk):Option (Leaf×List Chunk):=match c with
 |.sl h=>(Oa h own).map λp=>(.sl p.1.t p.1.L,p.2)
 |c=>(Ym e c).map λl=>(l,own)
def G0:List Ty->List Cell->List Chunk->Option (List Leaf×List Chunk)
 |[],[],own=>some ([],own)
 |e::es,c::cs,own=>B5h (Abu e c own) λp=>B5h (G0 es cs p.2) λq=>some (p.1::q.1,q.2)
 |_,_,_=>none
def My:Ty->Bool
 |.b n=>B7m 4 n
 |.sl _=>false
def Tk (t:Ty):V1->Option (List Cell)
 |.c x=>bif My t then none else some [x]
 |.a l=>bif My t then some l else none
def mkV (t:Ty) (cs:List Cell):V1:=bif My t then .a cs else match cs with
 |[c]=>.c c
 |l=>.a l
def Ay (own:Bool):List Leaf->SSt->List Cell×SSt
 |[],st=>([],st)
 |.i n::r,st=>let p:=Ay own r st;(.i .i64 n::p.1,p.2)
 |.b n::r,st=>let p:=Ay own r st;(.b n::p.1,p.2)
 |.s n::r,st=>let p:=Ay own r st;(.s n::p.1,p.2)
 |.y n::r,st=>let p:=Ay own r st;(.y n::p.1,p.2)
 |.sl t l::r,st=>let p:=Ay own r (bif own then {st with own:=.row st.nxt st.nxt t l []::st.own,nxt:=st.nxt+1}else {st with rds:=⟨st.nxt,t,l,.no⟩::st.rds,nxt:=st.nxt+1});(.sl st.nxt::p.1,p.2)
inductive BM where
 |lo
 |ow
 |rd
 |le
def BM.isOw:BM->Bool
 |.ow=>true
 |_=>false
def BM.isRo:BM->Bool
 |.lo=>true
 |.rd=>true
 |_=>false
inductive PK where
 |val (own:Bool) (t:Ty)
 |box (m:BM) (t:Ty)
 |eat (t:Ty)
 |lit (t:Ty)
 |fn (f:FuncId) (n:Nat)
 |cap (m:BM) (t:Ty)
 |len (t:Ty)
structure RK where
 own:Bool
 t:Ty
 bx:Bool
def PArgs:List PK->Type
 |[]=>Unit
 |.val _ t::r=>Bi t×PArgs r
 |.box _ t::r=>Bi t×PArgs r
 |.eat t::r=>Bi t×PArgs r
 |.lit t::r=>Bi t×PArgs r
 |.fn _ _::r=>PArgs r
 |.cap _ t::r=>Bi t×PArgs r
 |.len t::r=>List (Bi t)×PArgs r
def L7:List PK->List Ty
 |[]=>[]
 |.box .ow t::r=>t::L7 r
 |.box .rd t::r=>t::L7 r
 |.cap .ow t::r=>t::L7 r
 |.cap .rd t::r=>t::L7 r
 |.len t::r=>.sl t::L7 r
 |_::r=>L7 r
def Tup:List Ty->Type
 |[]=>Unit
 |[a]=>Bi a
 |a::b::r=>Bi a×Tup (b::r)
abbrev PRes (ps:List PK) (rs:List RK):Type:=Tup (rs.map (·.t)++L7 ps)
structure Con where
 f:FuncId
 ps:List PK
 rs:List RK
 x:PArgs ps->Option (PRes ps rs)
inductive CT where
 |sc (t:Nat)
 |row (t:Ty)
 |ro (t:Ty)
 |sha (t:Ty)
 |nl
inductive VK where
 |slot (s:Nat) (c:CT)
 |inp (s:Nat) (t:Ty)
 |box (s k:Nat) (cs:List CT)
structure Hint where
 key:Nat
 each:Option (Nat×Nat)
 esc:Bool
 vary:List VK
abbrev Inl:Type 1:=(R:Type)->FuncId->List V1->SSt->(SV->SSt->Option R)->Option R
structure Ctx where
 n:Nat
 cons:List Con
 hints:List Hint
 wrap:Bool
 share:Bool
 mov:Bool
 inl:Inl
def Nr:Inl:=λ_ _ _ _ _=>none
def kq (a b:IntKind):Bool:=decide (a=b)
def Z6 (C:Ctx) (c:BinOp) (a k2:IntKind) (i j:Int) (K:Cell->Option R):Option R:=
 match c with
 |.lss=>bif kq a k2 then K (.b (decide (i<j)))else none
 |.leq=>bif kq a k2 then K (.b (decide (i<=j)))else none
 |.gtr=>bif kq a k2 then K (.b (decide (j<i)))else none
 |.geq=>bif kq a k2 then K (.b (decide (j<=i)))else none
 |.eql=>bif kq a k2 then K (.b (decide (i=j)))else none
 |.neq=>bif kq a k2 then K (.b (!decide (i=j)))else none
 |.add=>bif kq a .i64&&kq k2 .i64 then(bif C.wrap then K (.i .i64 (iw (i+j)))else xg (Ae (i+j)) (K (.i .i64 (i+j))))else none
 |.sub=>bif kq a .i64&&kq k2 .i64 then xg (Ae (i-j)) (K (.i .i64 (i-j)))else none
 |.mul=>bif kq a .i64&&kq k2 .i64 then(bif C.wrap then K (.i .i64 (iw (i*j)))else xg (Ae (i*j)) (K (.i .i64 (i*j))))else none
 |.rem=>bif kq a .i64&&kq k2 .i64 then xg (0<=i/\0<j) (K (.i .i64 (i % j)))else none
 |.quo=>bif kq a .i64&&kq k2 .i64 then xg (0<=i/\i<=9223372036854775807/\0<j) (K (.i .i64 (i/j)))else none
 |.and=>bif kq a .i64&&kq k2 .i64 then K (.i .i64 (Anf i j))else none
 |.xor=>bif kq a .i64&&kq k2 .i64 then K (.i .i64 (Gt i j))else none
 |.shr=>bif kq a .i64 then xg (0<=j) (K (.i .i64 (Ang i j)))else none
 |_=>none
def A78 (c:BinOp) (a b:Cell):Option Cell:=match c,a,b with
 |.lss,.ix _ _ h,.ln h' _=>bif B5w h h' then some (.b true)else none
 |.add,.ix u k h,.i .i64 1=>some (.sx u k h)
 |_,_,_=>none
def Z5 (C:Ctx) (d:BinOp) (e:Bool) (x y:V1) (K:Cell->Option R):Option R:=
 match x,y with
 |.c a,.c b=>match A78 d a b with|some c=>K c|none=>match a.asInt,b.asInt with
  |some (k1,i),some (k2,j)=>Z6 C d k1 k2 i j K
  |_,_=>match a,b with
   |.b i,.b j=>match d with
    |.eql=>bif e then K (.b (i==j))else none
    |.neq=>bif e then K (.b (!(i==j)))else none
    |_=>none
   |.s i,.s j=>match d with
    |.add=>xg (i.size+j.size<=9223372036854775807) (K (.s (i++j)))
    |.eql=>K (.b (decide (i=j)))
    |.neq=>K (.b (!decide (i=j)))
    |.lss=>K (.b (Bv i j))
    |.geq=>K (.b (!Bv i j))
    |_=>none
   |_,_=>none
 |_,_=>none
def Agh (t k:Nat):Option (Nat×TI):=match F6 t with
 |some ti=>match ti.k with
  |.struct fs=>match nth fs k with
   |some (off,ft)=>(F6 ft).map λa=>(off,a)
   |none=>none
  |_=>none
 |none=>none
def Uf:TK->Bool
 |.struct _=>true
 |_=>false
def Abh (ti:TI) (cs:List Cell) (o:Nat):Option V1:=bif Uf ti.k then(let l:=(cs.drop o).take ti.size;bif B5w l.length ti.size then some (.a l)else none)else(nth cs o).map .c
def Nh (t:TypeId):Option (TypeId×TI):=match F6 t with
 |some ti=>match ti.k with
  |.slice e=>(F6 e).map λei=>(e,ei)
  |_=>none
 |none=>none
def Ug (t:TypeId):Bool:=match F6 t with
 |some ti=>match ti.k with
  |.str=>true
  |_=>false
 |none=>false
def Ap9 (t:TypeId):Bool:=match F6 t with
 |some ti=>match ti.k with
  |.bool=>true
  |_=>false
 |none=>false
def Rp (st:SSt) (x:Operand) (K:SV->SSt->Option R):Option R:=match evS st.env x with
 |some v=>K v st
 |none=>none
def Ahl (st:SSt) (x:Operand) (K:SV->SSt->Option R):Option R:=match evC st.env x with
 |some (.ptr h o)=>K (.v (.c (.ptr h o))) st
 |some (.ep h k i j)=>K (.v (.c (.ep h k i j))) st
 |_=>none
def Ahg (st:SSt) (x:Operand) (i:Nat) (K:SV->SSt->Option R):Option R:=match evS st.env x with
 |some (.t l)=>match nth l i with
  |some v=>K (.v v) st
  |none=>none
 |_=>none
def A3j (t:TypeId):Bool:=B5w t 186
def Ahf (st:SSt) (a:BinOp) (t:TypeId) (y:Operand) (ok:Bool) (K:SV->SSt->Option R):Option R:=bif A3j t then(match a,y with
 |.eql,.const _=>K (.v (.c (.b ok))) st
 |.neq,.const _=>K (.v (.c (.b !ok))) st
 |_,_=>none)else none
def Ahd (C:Ctx) (st:SSt) (d:BinOp) (t:TypeId) (x y:Operand) (K:SV->SSt->Option R):Option R:=match ev1 st.env x,ev1 st.env y with
 |some (.c (.er ok)),some (.c (.raw .nilIface))=>Ahf st d t y ok K
 |some a,some b=>Z5 C d (Ap9 t) a b λc=>K (.v (.c c)) st
 |_,_=>none
def Ahm (st:SSt) (x:Operand) (K:SV->SSt->Option R):Option R:=match evB st.env x with
 |some b=>K (.v (.c (.b !b))) st
 |none=>none
def Ahh (st:SSt) (t:TypeId) (x:Operand) (k:Nat) (K:SV->SSt->Option R):Option R:=match evC st.env x,Agh t k with
 |some (.ptr h o),some (off,_)=>K (.v (.c (.ptr h (o+off)))) st
 |some (.ep h s i j),some (off,_)=>K (.v (.c (.ep h s i (j+off)))) st
 |_,_=>none
def Ahi (st:SSt) (t:TypeId) (x:Operand) (k:Nat) (K:SV->SSt->Option R):Option R:=match ev1 st.env x,Agh t k with
 |some (.a cs),some (off,fi)=>match Abh fi cs off with
  |some v=>K (.v v) st
  |none=>none
 |_,_=>none
def Ahk (st:SSt) (t:TypeId) (x:Operand) (K:SV->SSt->Option R):Option R:=match evC st.env x,F6 t with
 |some (.ptr h o),some ti=>match Tg h st.own with
  |some cs=>match Abh ti cs o with
   |some v=>K (.v v) st
   |none=>none
  |none=>none
 |some (.ep h k i j),some ti=>match st.cont h with
  |some c=>bif B5w (sz c.t) k&&B7m (j+ti.size) k then
    (let p:=Ih h i (((A3 c.t (el c.L i)).drop j).take ti.size) j st
     bif Uf ti.k then K (.v (.a p.1)) p.2 else match p.1 with
     |[x]=>K (.v (.c x)) p.2
     |_=>none)else none
  |none=>none
 |_,_=>none
def Xs (st:SSt) (t:TypeId) (x y:Operand) (K:SV->SSt->Option R):Option R:=match evC st.env x,evC st.env y,Nh t with
 |some (.sl h),some i,some (_,ei)=>match st.contI h with
  |some c=>bif B5w ei.size (sz c.t)then(match i with
   |.ix _ k a=>bif B5w h a then K (.v (.c (.ep h (sz c.t) k 0))) st else xg (0<=(k:Int)/\(k:Int)<(c.L.length:Int)) (K (.v (.c (.ep h (sz c.t) k 0))) st)
   |.i .i64 n=>xg (0<=n/\n<(c.L.length:Int)) (K (.v (.c (.ep h (sz c.t) n.toNat 0))) st)
   |_=>none)else none
  |none=>none
 |_,_,_=>none
def Ahn (st:SSt) (t:TypeId) (x y:Operand) (K:SV->SSt->Option R):Option R:=match evC st.env x,evC st.env y with
 |some (.s s),some c=>match c.asInt with
  |some (.i64,n)=>bif Ug t then xg (0<=n/\n<(s.size:Int)) (K (.v (.c (.y (Bz s n.toNat)))) st)else none
  |_=>none
 |_,_=>none
def isY (i:TI):Bool:=match i.k with
 |.int .u8=>true
 |_=>false
def Aga (t:TypeId):Bool:=match Nh t with
 |some (_,ei)=>isY ei
 |none=>false
def Ahc (st:SSt) (s t:TypeId) (h:Nat) (K:SV->SSt->Option R):Option R:=bif Ug t&&Aga s then(match st.cont h with
 |some c=>match Ia c.t (.b 3) c.L with
  |some L=>K (.v (.c (.s (⟨B8g L⟩:ByteArray)))) st
  |none=>none
 |none=>none)else none
def Ahe (st:SSt) (s t:TypeId) (x:Operand) (K:SV->SSt->Option R):Option R:=match evC st.env x,F6 s,F6 t with
 |some (.y n),some _,some ti=>match ti.k with
  |.int .i64=>K (.v (.c (.i .i64 (n.toNat:Int)))) st
  |_=>none
 |some (.i .i64 n),some _,some ti=>bif isY ti then K (.v (.c (.y (y8 n)))) st else none
 |some (.sl h),some _,some _=>Ahc st s t h K
 |_,_,_=>none
def Agf (env:List (Nat×Option SV)):List Operand->Option (List (Nat×Nat))
 |[]=>some []
 |o::os=>match evC env o with
  |some (.ptr h k)=>B5h (Agf env os) λl=>some ((h,k)::l)
  |_=>none
def Ahj (st:SSt) (f:FuncId) (caps:List Operand) (K:SV->SSt->Option R):Option R:=match Agf st.env caps with
 |some l=>K (.v (.c (.fn f l))) st
 |none=>none
def Xt (st:SSt) (a:List Operand) (b:List TypeId) (K:SV->SSt->Option R):Option R:=match a,b with
 |[x],[t]=>match evC st.env x with
  |some (.sl h)=>match st.cont h,Nh t with
   |some c,some _=>K (.v (.c (.ln h c.L.length))) st
   |_,_=>none
  |some .nil=>match Nh t with
   |some _=>K (.v (.c (.i .i64 0))) st
   |none=>none
  |some (.s s)=>bif Ug t then K (.v (.c (.i .i64 (s.size:Int)))) st else none
  |_=>none
 |_,_=>none
def I0 (env:List (Nat×Option SV)) (o:Operand):Option Int:=match evC env o with
 |some c=>match c.asInt with
  |some (.i64,n)=>some n
  |_=>none
 |none=>none
def Ro (st:SSt) (f:Int->Int->Int) (d:List Operand) (K:SV->SSt->Option R):Option R:=match d with
 |[x,y]=>match I0 st.env x,I0 st.env y with
  |some a,some b=>K (.v (.c (.i .i64 (f a b)))) st
  |_,_=>none
 |_=>none
def Aq9 (st:SSt) (h:Nat) (v:View):Bool:=match Ct h st.own with
 |none=>true
 |some _=>match addV h v st.own with
  |some _=>true
  |none=>false
def M1 (st:SSt) (h:Nat) (t:Ty) (l:List (Bi t)) (p:VP) (K:SV->SSt->Option R):Option R:=bif Aq9 st h ⟨st.nxt,t,l,p⟩then K (.v (.c (.sl st.nxt))) (st.see h ⟨st.nxt,t,l,p⟩)else none
def Wt:List View->Option (Nat×Nat)
 |[]=>none
 |v::r=>match v.pos with
  |.c3 hi=>some (v.h,hi)
  |_=>Wt r
def Of (h n a k:Nat):List Chunk->Option ((Nat×Nat)×List Chunk)
 |[]=>none
 |.row h' g t L vs::r=>bif B5w h' h then(match Wt vs with
   |some p=>bif B5w (sz t) k then some ((p.2,L.length),.row p.1 (n+1) t ((L.take p.2).drop 0) []::.row n (n+2) t ((L.take L.length).drop a) []::r)else none
   |none=>none)else(Of h n a k r).map λp=>(p.1,.row h' g t L vs::p.2)
 |c::r=>(Of h n a k r).map λp=>(p.1,c::p.2)
def splitK (st:SSt) (h a:Nat) (t:Ty) (l:List (Bi t)) (p:VP) (K:SV->SSt->Option R):Option R:=match Of h st.nxt a (sz t) st.own with
 |some q=>xg (q.1.1<=a/\a<=q.1.2) (K (.v (.c (.sl st.nxt))) {st with own:=q.2,nxt:=st.nxt+3})
 |none=>M1 st h t l p K
def Ahp (st:SSt) (t:TypeId) (s:ByteArray) (a hi:Option Operand) (K:SV->SSt->Option R):Option R:=bif Ug t then(match a,hi with
 |some a,some hi=>match I0 st.env a,I0 st.env hi with
  |some i,some j=>xg (0<=i/\i<=j/\j<=(s.size:Int)) (K (.v (.c (.s (s.extract i.toNat j.toNat)))) st)
  |_,_=>none
 |some a,none=>match I0 st.env a with
  |some i=>xg (0<=i/\i<=(s.size:Int)) (K (.v (.c (.s (s.extract i.toNat s.size)))) st)
  |none=>none
 |_,_=>none)else none
def Yf (st:SSt) (h a:Nat) (b hi:Option Operand) (K:SV->SSt->Option R):Option R:=match b,hi with
 |some b,none=>match I0 st.env b,U3 h st.own with
  |some i,some (d,own)=>bif B5w a (sz d.t)then xg ((d.hi:Int)<=i/\i<=(d.L.length:Int)) (K (.v (.c (.sl st.nxt))) {st with own:=.row st.nxt st.nxt d.t ((d.L.take d.L.length).drop i.toNat) []::own,nxt:=st.nxt+1})else none
  |_,_=>none
 |_,_=>none
def Xu (st:SSt) (t:TypeId) (x:Operand) (a hi:Option Operand) (K:SV->SSt->Option R):Option R:=match evC st.env x,Nh t with
 |some (.sl h),some (_,ei)=>match st.cont h with
  |some c=>bif B5w ei.size (sz c.t)then(match a,hi with
   |some a,some hi=>match I0 st.env a,I0 st.env hi with
    |some i,some j=>xg (0<=i/\i<=j/\j<=(c.L.length:Int)) (M1 st h c.t ((c.L.take j.toNat).drop i.toNat) (.cut i.toNat j.toNat) K)
    |_,_=>none
   |none,some hi=>match I0 st.env hi with
    |some j=>xg (0<=j/\j<=(c.L.length:Int)) (M1 st h c.t ((c.L.take j.toNat).drop 0) (.cut 0 j.toNat) K)
    |none=>none
   |some a,none=>match I0 st.env a with
    |some i=>xg (0<=i/\i<=(c.L.length:Int)) (splitK st h i.toNat c.t ((c.L.take c.L.length).drop i.toNat) (.cut i.toNat c.L.length) K)
    |none=>none
   |none,none=>none)else none
  |none=>Yf st h ei.size a hi K
 |some (.s s),_=>Ahp st t s a hi K
 |_,_=>none
def Aho (st:SSt) (t:TypeId) (x hi a:Operand) (K:SV->SSt->Option R):Option R:=match evC st.env x,Nh t with
 |some (.sl h),some (_,ei)=>match st.cont h,I0 st.env hi,I0 st.env a with
  |some c,some j,some m=>bif B5w ei.size (sz c.t)then xg (0<=j/\j=m/\j<=(c.L.length:Int)) (M1 st h c.t ((c.L.take j.toNat).drop 0) (.c3 j.toNat) K)else none
  |_,_,_=>none
 |_,_=>none
def Ku (C:Ctx) (st:SSt) (a:Op) (K:SV->SSt->Option R):Option R:=
 match a with
 |.move x=>Rp st x K
 |.assign x=>Rp st x K
 |.nilCheck x=>Ahl st x K
 |.extract x i=>Ahg st x i K
 |.binOp a t x y _=>Ahd C st a t x y K
 |.unOp .not _ x=>Ahm st x K
 |.fieldAddr t x k=>Ahh st t x k K
 |.field t x k=>Ahi st t x k K
 |.load t x=>Ahk st t x K
 |.indexAddr t x y=>Xs st t x y K
 |.index t x y=>Ahn st t x y K
 |.convert s t x=>Ahe st s t x K
 |.makeFunc (.func f) first caps=>match first.toList with
  |[]=>Ahj st f caps.toList K
  |_=>none
 |.call ⟨.builtin .len,args,tys⟩=>Xt st args.toList tys.toList K
 |.call ⟨.builtin .min,args,_⟩=>Ro st min args.toList K
 |.call ⟨.builtin .max,args,_⟩=>Ro st max args.toList K
 |.slice t x b hi none=>Xu st t x b hi K
 |.slice t x none (some hi) (some mx)=>Aho st t x hi mx K
 |_=>none
structure Lent where
 ls:List (List Leaf)
 bx:List (Nat×Nat×BM×List Cell)
def Dw (h:Nat):List Chunk->Option ((Nat×List Cell)×List Chunk)
 |[]=>none
 |.box k g cs::r=>bif B5w k h then some ((g,cs),r)else(Dw h r).map λp=>(p.1,.box k g cs::p.2)
 |c::r=>(Dw h r).map λp=>(p.1,c::p.2)
def Acr (m:BM) (t:Ty) (h:Nat) (own:List Chunk):Option (List (List Leaf)×(Nat×Nat×BM×List Cell)×List Chunk):=
 B5h (Dw h own) λb=>bif m.isOw then B5h (G0 (Fg t) b.1.2 b.2) λp=>some ([p.1],(h,b.1.1,m,b.1.2),p.2)else bif m.isRo then some ([],(h,b.1.1,m,b.1.2),b.2)else none
def Fj:List PK->List V1->List (Nat×Nat)->List Chunk->Option (Lent×List Chunk)
 |[],vs,cp,own=>match vs,cp with
  |[],[]=>some (⟨[],[]⟩,own)
  |_,_=>none
 |.val o t::ps,vs,cp,own=>match vs with
  |v::vs=>bif o then B5h (Tk t v) λcs=>B5h (G0 (Fg t) cs own) λp=>B5h (Fj ps vs cp p.2) λq=>some (⟨p.1::q.1.ls,q.1.bx⟩,q.2)
    else Fj ps vs cp own
  |[]=>none
 |.box m t::ps,vs,cp,own=>match vs with
  |.c (.ptr h 0)::vs=>B5h (Acr m t h own) λp=>B5h (Fj ps vs cp p.2.2) λq=>some (⟨p.1++q.1.ls,p.2.1::q.1.bx⟩,q.2)
  |_=>none
 |.eat t::ps,vs,cp,own=>match vs with
  |.c (.ptr h 0)::vs=>B5h (Dw h own) λb=>B5h (G0 (Fg t) b.1.2 b.2) λp=>B5h (Fj ps vs cp p.2) λq=>some (⟨p.1::q.1.ls,q.1.bx⟩,q.2)
  |_=>none
 |.lit t::ps,vs,cp,own=>match vs with
  |.c (.lt h)::vs=>B5h (Dw h own) λb=>B5h (G0 (Fg t) b.1.2 b.2) λp=>B5h (Fj ps vs cp p.2) λq=>some (⟨p.1::q.1.ls,q.1.bx⟩,q.2)
  |_=>none
 |.fn f n::ps,vs,cp,own=>match vs with
  |.c (.fn g l)::vs=>bif B5w f g&&B5w l.length n then Fj ps vs (cp++l) own else none
  |_=>none
 |.cap m t::ps,vs,cp,own=>match cp with
  |(h,0)::cp=>B5h (Acr m t h own) λp=>B5h (Fj ps vs cp p.2.2) λq=>some (⟨p.1++q.1.ls,p.2.1::q.1.bx⟩,q.2)
  |_=>none
 |.len _::ps,vs,cp,own=>match vs with
  |.c (.sl h)::vs=>B5h (F4 h own) λp=>B5h (Fj ps vs cp p.2) λq=>some (⟨[.sl p.1.t p.1.L]::q.1.ls,(h,0,.le,[])::q.1.bx⟩,q.2)
  |_=>none
def Aiq (st:SSt) (m:BM) (t:Ty) (ls:List (List Leaf)) (c:List (Nat×Nat×BM×List Cell)):Option (Bi t×List (List Leaf)×List (Nat×Nat×BM×List Cell)):=match c with
 |b::c=>bif m.isOw then(match ls with
   |l::ls=>B5h (mk t l) λa=>some (a,ls,c)
   |[]=>none)else B5h (J6 st (Fg t) b.2.2.2) λl=>B5h (mk t l) λa=>some (a,ls,c)
 |[]=>none
def Gl (st:SSt):(ps:List PK)->List V1->List (List Leaf)->List (Nat×Nat×BM×List Cell)->Option (PArgs ps)
 |[],_,_,_=>some ()
 |.val o t::ps,vs,ls,bx=>match vs with
  |v::vs=>bif o then(match ls with
    |l::ls=>B5h (mk t l) λa=>B5h (Gl st ps vs ls bx) λq=>some (a,q)
    |[]=>none)else B5h (Tk t v) λcs=>B5h (J6 st (Fg t) cs) λl=>B5h (mk t l) λa=>B5h (Gl st ps vs ls bx) λq=>some (a,q)
  |[]=>none
 |.box m t::ps,vs,ls,bx=>B5h (Aiq st m t ls bx) λz=>B5h (Gl st ps vs.tail z.2.1 z.2.2) λq=>some (z.1,q)
 |.eat t::ps,vs,ls,bx=>match ls with
  |l::ls=>B5h (mk t l) λa=>B5h (Gl st ps vs.tail ls bx) λq=>some (a,q)
  |[]=>none
 |.lit t::ps,vs,ls,bx=>match ls with
  |l::ls=>B5h (mk t l) λa=>B5h (Gl st ps vs.tail ls bx) λq=>some (a,q)
  |[]=>none
 |.fn _ _::ps,vs,ls,bx=>Gl st ps vs.tail ls bx
 |.cap m t::ps,vs,ls,bx=>B5h (Aiq st m t ls bx) λz=>B5h (Gl st ps vs z.2.1 z.2.2) λq=>some (z.1,q)
 |.len t::ps,vs,ls,bx=>match ls,bx with
  |l::ls,_::bx=>B5h (mk (.sl t) l) λa=>B5h (Gl st ps vs.tail ls bx) λq=>some (a,q)
  |_,_=>none
def Iu:(ts:List Ty)->Tup ts->List (List Leaf)
 |[],_=>[]
 |[a],x=>[A3 a x]
 |a::b::r,x=>A3 a x.1::Iu (b::r) x.2
def Sp:(ts:List Ty)->List (List Leaf)->Option (Tup ts)
 |[],[]=>some ()
 |[a],[l]=>mk a l
 |a::b::r,l::ls=>B5h (mk a l) λx=>B5h (Sp (b::r) ls) λy=>some (x,y)
 |_,_=>none
def Fo:List RK->List (List Leaf)->SSt->List V1×List (List Leaf)×SSt
 |k::ks,l::ls,st=>let p:=Ay k.own l st;bif k.bx then(let q:=Fo ks ls {p.2 with own:=.box p.2.nxt p.2.nxt p.1::p.2.own,nxt:=p.2.nxt+1};(.c (.ptr p.2.nxt 0)::q.1,q.2))else(let q:=Fo ks ls p.2;(mkV k.t p.1::q.1,q.2))
 |_,ls,st=>([],ls,st)
def I3:List (Nat×Nat×BM×List Cell)->List (List Leaf)->SSt->SSt
 |(h,_,.ow,_)::bx,l::ls,st=>let p:=Ay true l st;I3 bx ls {p.2 with own:=.box h p.2.nxt p.1::p.2.own,nxt:=p.2.nxt+1}
 |(h,_,.rd,_)::bx,l::ls,st=>let p:=Ay false l st;I3 bx ls {p.2 with own:=.box h p.2.nxt p.1::p.2.own,nxt:=p.2.nxt+1}
 |(h,_,.le,_)::bx,l::ls,st=>match l with
  |[.sl t L]=>I3 bx ls {st with own:=.row h st.nxt t L []::st.own,nxt:=st.nxt+1}
  |_=>I3 bx ls st
 |(h,g,_,cs)::bx,ls,st=>I3 bx ls {st with own:=.box h g cs::st.own}
 |[],_,st=>st
def Sl:List V1->SV
 |[v]=>.v v
 |l=>.t l
def Ahy:List PK->Bool
 |[]=>true
 |.box .rd _::_=>false
 |.cap .rd _::_=>false
 |_::r=>Ahy r
def V1.cells:V1->List Cell
 |.c x=>[x]
 |.a l=>l
def Ir (h:Nat):List Chunk->Option (Cont×List Chunk)
 |[]=>none
 |.sha k g t L::r=>bif B5w k h then some (⟨t,L⟩,r)else(Ir h r).map λp=>(p.1,.sha k g t L::p.2)
 |.row k g t L vs::r=>(Ir h r).map λp=>(p.1,.row k g t L vs::p.2)
 |.box k g cs::r=>(Ir h r).map λp=>(p.1,.box k g cs::p.2)
 |.hol k g t L i j o::r=>(Ir h r).map λp=>(p.1,.hol k g t L i j o::p.2)
 |.rem k g t L i::r=>(Ir h r).map λp=>(p.1,.rem k g t L i::p.2)
def inV (h:Nat) (vs:List View):Bool:=match Jq h vs with
 |some _=>true
 |none=>false
def K4 (h:Nat):List Chunk->Option ((Nat×Cont×List View)×List Chunk)
 |[]=>none
 |.row k g t L vs::r=>bif B5w k h||inV h vs then some ((k,⟨t,L⟩,vs),r)else(K4 h r).map λp=>(p.1,.row k g t L vs::p.2)
 |.sha k g t L::r=>(K4 h r).map λp=>(p.1,.sha k g t L::p.2)
 |.box k g cs::r=>(K4 h r).map λp=>(p.1,.box k g cs::p.2)
 |.hol k g t L i j o::r=>(K4 h r).map λp=>(p.1,.hol k g t L i j o::p.2)
 |.rem k g t L i::r=>(K4 h r).map λp=>(p.1,.rem k g t L i::p.2)
def Ajy:List View->List View
 |[]=>[]
 |v::r=> {v with pos:=.no}::Ajy r
def Mg (h:Nat) (st:SSt):SSt:=match K4 h st.own with
 |some p=> {st with own:=p.2,rds:=⟨p.1.1,p.1.2.1.t,p.1.2.1.L,.no⟩::(Ajy p.1.2.2++st.rds)}
 |none=>match Ir h st.own with
  |some p=> {st with own:=p.2,rds:=⟨h,p.1.t,p.1.L,.no⟩::st.rds}
  |none=>st
def Iq:List Cell->SSt->SSt
 |[],st=>st
 |c::r,st=>match c with
  |.sl h=>Iq r (Mg h st)
  |_=>Iq r st
def Wu:V1->List Cell
 |.c x=>[x]
 |.a l=>l
def P2:List PK->List V1->SSt->SSt
 |[],_,st=>st
 |.cap _ _::ps,vs,st=>P2 ps vs st
 |.val o _::ps,vs,st=>match vs with
  |v::vs=>P2 ps vs (bif o then st else Iq (Wu v) st)
  |[]=>st
 |_::ps,vs,st=>P2 ps vs.tail st
def Con.shut (c:Con):Bool:=c.rs.all (·.own)&&Ahy c.ps
def Tj (c:Con) (vs:List V1) (st:SSt) (K:SV->SSt->Option R):Option (Option R):=
 B5h (Fj c.ps vs [] st.own) λp=>B5h (Gl {st with own:=bif c.shut then p.2 else []} c.ps vs p.1.ls p.1.bx) λa=>
  some (B5h (c.x a) λr=>let q:=Fo c.rs (Iu _ r) {st with own:=p.2};K (Sl q.1) (I3 p.1.bx q.2.1 q.2.2))
def splice {α:Type} (l:List α) (o:Nat) (m:List α):List α:=l.take o++m++l.drop (o+m.length)
def Ry:List PK->List V1->SSt->SSt
 |.len _::ps,v::vs,st=>Ry ps vs (Kz (Wu v) st)
 |.cap _ _::ps,vs,st=>Ry ps vs st
 |_::ps,vs,st=>Ry ps vs.tail st
 |[],_,st=>st
def Tl (h:Nat):List Chunk->Option ((Nat×HolD)×List Chunk)
 |[]=>none
 |.hol k g t L i j o::r=>bif B5w o h then some ((k,⟨t,L,i,j⟩),r)else(Tl h r).map λp=>(p.1,.hol k g t L i j o::p.2)
 |c::r=>(Tl h r).map λp=>(p.1,c::p.2)
def Z8 (h:Nat) (st:SSt):SSt:=match Tl h st.own with
 |some (d,own)=>match F4 h own with
  |some (c,own)=>match mk d.2.t (splice (A3 d.2.t (el d.2.L d.2.i)) d.2.j [.sl c.t c.L])with
   |some a=>bif B63 d.2.j (sz d.2.t)then {st with own:=.row d.1 st.nxt d.2.t (d.2.L.set d.2.i a) []::own,nxt:=st.nxt+1}else st
   |none=>st
  |none=>st
 |none=>st
def Tm:List Cell->SSt->SSt
 |[],st=>st
 |c::r,st=>match c with
  |.sl h=>Tm r (Z8 h st)
  |_=>Tm r st
def Qx:List PK->List V1->SSt->SSt
 |.len _::ps,v::vs,st=>Qx ps vs (Tm (Wu v) st)
 |.cap _ _::ps,vs,st=>Qx ps vs st
 |_::ps,vs,st=>Qx ps vs.tail st
 |[],_,st=>st
def M0 (c:Con) (vs:List V1) (st:SSt) (K:SV->SSt->Option R):Option (Option R):=Tj c vs (Ry c.ps vs (bif c.shut then st else P2 c.ps vs st)) λv st=>K v (Qx c.ps vs st)
def callF (f:FuncId) (vs:List V1) (st:SSt) (K:SV->SSt->Option R):List Con->Option R
 |[]=>none
 |c::cs=>bif B5w c.f f then(match M0 c vs st K with
  |some r=>r
  |none=>callF f vs st K cs)else callF f vs st K cs
def Xa (env:List (Nat×Option SV)):List Operand->Option (List V1)
 |[]=>some []
 |o::os=>B5h (ev1 env o) λv=>B5h (Xa env os) λvs=>some (v::vs)
def Dl (ps:List PK):Bool:=ps.all λp=>match p with
 |.val false _=>true
 |.fn _ n=>B5w n 0
 |_=>false
def A47:List RK->Bool
 |[k]=>match k.t with
  |.b n=>B7m n 3&&!k.bx
  |_=>false
 |_=>false
def Con.pure (c:Con):Bool:=(Dl c.ps&&A47 c.rs)&&c.shut
def Yt (i:Nat):Nat->List Cell->List Leaf->List View
 |j,c::cs,l::ls=>match c,l with
  |.sl h,.sl t L=>⟨h,t,L,.ei i j⟩::Yt i (j+1) cs ls
  |_,_=>Yt i (j+1) cs ls
 |_,_,_=>[]
def Atr (st:SSt) (h k i j:Nat) (c:Cell) (K:SSt->Option R):Option R:=match Nn h st.own with
 |some (d,own)=>bif (B5w (sz d.t) k&&B5w d.j j)&&B63 j k then(match nth (Fg d.t) j with
  |some e=>match Abu e c own with
   |some (l,own)=>match mk d.t (splice (A3 d.t (el d.L i)) j [l])with
    |some a=>xg (d.i=i) (K {st with own:=.row h st.nxt d.t (d.L.set i a) []::own,nxt:=st.nxt+1})
    |none=>none
   |none=>none
  |none=>none)else none
 |none=>none
def Ajo (st:SSt) (t:TypeId) (a v:Operand) (K:SSt->Option R):Option R:=
 match evC st.env a,ev1 st.env v,F6 t with
 |some (.ptr h o),some v,some ti=>match Lq h st.own with
  |some (cs,own)=>bif B5w v.cells.length ti.size&&B7m (o+ti.size) cs.length then K {st with own:=.box h st.nxt (splice cs o v.cells)::own,nxt:=st.nxt+1}else none
  |none=>none
 |some (.ep h k i j),some v,some ti=>match Xj h st.own with
  |some _=>(match v with
   |.c c=>bif B5w ti.size 1 then Atr st h k i j c K else none
   |.a _=>none)
  |none=>match F4 h st.own with
  |some (c,own)=>bif B5w (sz c.t) k&&B5w v.cells.length ti.size&&B7m (j+ti.size) k then
    (match G0 (((Fg c.t).drop j).take ti.size) v.cells own with
     |some (ls,own)=>match mk c.t (splice (A3 c.t (el c.L i)) j ls)with
      |some a=>K {st with own:=.row h st.nxt c.t (c.L.set i a) (Yt i j v.cells ls)::own,nxt:=st.nxt+1}
      |none=>none
     |none=>none)else none
  |none=>none
 |_,_,_=>none
def Ats (st:SSt) (t:TypeId) (a v:Operand) (K:SSt->Option R):Option R:=
 match evC st.env a,ev1 st.env v with
 |some (.ep _ _ _ _),some x=>Ajo (Kz x.cells st) t a v K
 |_,_=>Ajo st t a v K
def Re:Ty->Bool
 |.b n=>(lvB n).all λe=>match e with
  |.b _=>true
  |_=>false
 |.sl _=>false
def Js (t:TypeId):Option (TypeId×TI×Ty):=match F6 t with
 |some ti=>match ti.k with
  |.slice e=>match F6 e with
   |some ei=>match ei.ty with
    |some ty=>some (e,ei,ty)
    |none=>none
   |none=>none
  |_=>none
 |none=>none
def Wn (c:Cell) (ty:Ty) (own:List Chunk):Option (List (Bi ty)×List Chunk):=match c with
 |.nil=>some ([],own)
 |.sl h=>B5h (F4 h own) λp=>B5h (Ia p.1.t ty p.1.L) λl=>some (l,p.2)
 |_=>none
def Ai9 (c:Cell) (ty:Ty) (own:List Chunk):Option (List (Bi ty)×List Chunk):=match c with
 |.nil=>some ([],own)
 |.sl h=>match Ir h own with
  |some p=>(Ia p.1.t ty p.1.L).map λl=>(l,p.2)
  |none=>B5h (F4 h own) λp=>(Ia p.1.t ty p.1.L).map λl=>(l,p.2)
 |_=>none
def Z1 (st:SSt) (b d:Cell) (ty:Ty) (K:SV->SSt->Option R):Option R:=match d with
 |.sl a=>match Ai9 b ty (Mg a st).own with
  |some (L,own)=>match Jq a (Mg a st).rds with
   |some c=>match Ia c.t ty c.L with
    |some M=>xg (L.length+M.length<=1099511627776) (K (.v (.c (.sl st.nxt))) {Mg a st with own:=.sha st.nxt st.nxt ty (L++M)::own,nxt:=st.nxt+1})
    |none=>none
   |none=>none
  |none=>none
 |_=>none
def Ayr (st:SSt) (ty:Ty) (L:List (Bi ty)) (own:List Chunk) (h:Nat) (K:SV->SSt->Option R):Option R:=match Uk h (st.nxt+1) own with
 |some (c,own)=>match Ia c.1.t ty c.1.L with
  |some M=>xg (L.length+c.2<=1099511627776) (K (.v (.c (.sl st.nxt))) {st with own:=.row st.nxt st.nxt ty (L++M.take c.2) []::own,nxt:=st.nxt+2})
  |none=>none
 |none=>none
def Ayq (st:SSt) (a b:Cell) (ty:Ty) (K:SV->SSt->Option R):Option R:=match Wn a ty st.own,b with
 |some (L,own),.sl h=>(match F4 h own with
  |some (c,own)=>match Ia c.t ty c.L with
   |some M=>xg (L.length+M.length<=549755813888) (K (.v (.c (.sl st.nxt))) {st with own:=.row st.nxt st.nxt ty (L++M) []::own,nxt:=st.nxt+1})
   |none=>none
  |none=>none)
 |_,_=>none
def Ane (mv:Bool) (st:SSt) (t:TypeId) (x y:Operand) (K:SV->SSt->Option R):Option R:=
 match evC st.env x,evC st.env y,Js t with
 |some cx,some cy,some (_,ei,ty)=>bif B7m ei.bytes 127&&B5w (sz ty) ei.size then
   (bif Re ty then(match Wn cx ty st.own,cy with
    |some (L,own),.sl h=>match st.cont h with
     |some c=>match Ia c.t ty c.L with
      |some M=>xg (L.length+M.length<=1099511627776) (K (.v (.c (.sl st.nxt))) {st with own:=.row st.nxt st.nxt ty (L++M) []::own,nxt:=st.nxt+1})
      |none=>none
     |none=>none
    |_,_=>none)
   else match Wn cx ty st.own,cy with
    |some (L,own),.sl h=>(match F4 h own with
     |some (c,own)=>match Ia c.t ty c.L with
      |some M=>xg (L.length+M.length<=1099511627776) (K (.v (.c (.sl st.nxt))) {st with own:=.row st.nxt st.nxt ty (L++M) []::own,nxt:=st.nxt+1})
      |none=>none
     |none=>bif mv then Ayr st ty L own h K else Z1 st cx cy ty K)
    |_,_=>Z1 st cx cy ty K)else bif (B7m ei.bytes 255&&B5w (sz ty) ei.size)&&!Re ty then Ayq st cx cy ty K else none
 |_,_,_=>none
def Jy (o:Operand) (st:SSt):SSt:=match evC st.env o with
 |some c=>Kz [c] st
 |none=>st
def Ays (mv:Bool) (st:SSt) (t:TypeId) (x y:Operand) (K:SV->SSt->Option R):Option R:=Ane mv (Jy x st) t x y K
def A55 (ty:Ty) (y:Cell) (v:V1) (own:List Chunk):Option ((List (Bi ty)×List View)×Bi ty×List Chunk):=B5h (Wn y ty own) λp=>B5h (G0 (Fg ty) v.cells p.2) λq=>B5h (mk ty q.1) λa=>some ((p.1,Yt p.1.length 0 v.cells q.1),a,q.2)
def Ab5 (st:SSt) (ty:Ty) (cs:List Cell):Option (Bi ty):=B5h (J6 {st with own:=[]} (Fg ty) cs) (mk ty)
def Aih (st:SSt) (v:V1) (y:Cell) (ty:Ty) (K:SV->SSt->Option R):Option R:=match Ai9 y ty (Iq v.cells st).own,Ab5 (Iq v.cells st) ty v.cells with
 |some (L,own),some a=>xg (L.length<1099511627776) (K (.v (.c (.sl st.nxt))) {Iq v.cells st with own:=.sha st.nxt st.nxt ty (L++[a])::own,nxt:=st.nxt+1})
 |_,_=>none
def lim (b:Nat):Nat:=bif B7m b 127 then 1099511627776 else 549755813888
def Aig (st:SSt) (t:TypeId) (x y:Operand) (K:SV->SSt->Option R):Option R:=
 match ev1 st.env x,evC st.env y,Js t with
 |some v,some y,some (_,ei,ty)=>bif B7m ei.bytes 255&&B5w (sz ty) ei.size&&B7m ei.size 1000 then(match A55 ty y v st.own with
  |some ((L,vs),a,own)=>xg (L.length<lim ei.bytes) (K (.v (.c (.sl st.nxt))) {st with own:=.row st.nxt st.nxt ty (L++[a]) vs::own,nxt:=st.nxt+1})
  |none=>bif B7m ei.bytes 127 then Aih st v y ty K else none)else none
 |_,_,_=>none
def Ar4 (st:SSt) (t:TypeId) (x y:Operand) (K:SV->SSt->Option R):Option R:=
 match ev1 st.env x,evC st.env y,Js t with
 |some v,some y,some (_,ei,ty)=>bif B7m ei.bytes 127&&B5w (sz ty) ei.size&&B7m ei.size 1000 then Aih st v y ty K else none
 |_,_,_=>none
def Ar5 (a:Bool) (st:SSt) (t:TypeId) (x y:Operand) (K:SV->SSt->Option R):Option R:=bif a then Ar4 st t x y K else Aig (Jy y st) t x y K
def Aha (st:SSt) (ty:Ty):Nat->List (Nat×Operand)->List Chunk->Option (List (Bi ty)×List Chunk)
 |_,[],own=>some ([],own)
 |k,(i,x)::r,own=>bif B5w i k then B5h (ev1 st.env x) λv=>B5h (G0 (Fg ty) v.cells own) λp=>B5h (mk ty p.1) λa=>B5h (Aha st ty (k+1) r p.2) λq=>some (a::q.1,q.2)else none
def Aii (cs:List Cell):List (Nat×Nat)->List (Nat×Operand)->List (Nat×Option SV)->Option (List Cell)
 |_,[],_=>some cs
 |pl,(i,x)::r,env=>match nth pl i,ev1 env x with
  |some (off,size),some v=>bif B5w v.cells.length size&&B7m (off+size) cs.length then Aii (splice cs off v.cells) pl r env else none
  |_,_=>none
def places (fs:List (Nat×TypeId)):Option (List (Nat×Nat)):=match fs with
 |[]=>some []
 |(o,t)::r=>match F6 t,places r with
  |some i,some l=>some ((o,i.size)::l)
  |_,_=>none
def Cell.shut:Cell->Bool
 |.i _ _=>true
 |.y _=>true
 |.b _=>true
 |.s _=>true
 |.nil=>true
 |.raw u=>u.oneCell'
 |_=>false
def Abr (st:SSt) (e:TypeId) (K:SV->SSt->Option R):Option R:=match F6 e with
 |some ti=>bif !ti.zero.all Cell.shut then none else K (.v (.c (.ptr st.nxt 0))) {st with own:=.box st.nxt st.nxt ti.zero::st.own,nxt:=st.nxt+1}
 |none=>none
def Ara (st:SSt) (x:Operand) (K:SV->SSt->Option R):Option R:=match ev1 st.env x with
 |some v=>K (.v (.c (.ptr st.nxt 0))) {st with own:=.box st.nxt st.nxt v.cells::st.own,nxt:=st.nxt+1}
 |none=>none
def Us (st:SSt) (t:TypeId) (ps:List (Nat×Operand)) (K:SV->SSt->Option R):Option R:=match F6 t with
 |some ti=>match ti.k with
  |.struct fs=>match places fs with
   |some b=>match bif ti.zero.all Cell.shut then Aii ti.zero b ps st.env else none with
    |some cs=>K (.v (.a cs)) st
    |none=>none
   |none=>none
  |_=>none
 |none=>none
def P5:List (Nat×Operand)->SSt->SSt
 |[],st=>st
 |p::r,st=>P5 r (match ev1 st.env p.2 with
  |some v=>Iq v.cells st
  |none=>st)
def Ahb (st:SSt) (ty:Ty):Nat->List (Nat×Operand)->Option (List (Bi ty))
 |_,[]=>some []
 |k,(i,x)::r=>bif B5w i k then B5h (ev1 st.env x) λv=>B5h (Ab5 st ty v.cells) λa=>B5h (Ahb st ty (k+1) r) λq=>some (a::q)else none
def Arb (st:SSt) (t:TypeId) (a:Nat) (ps:List (Nat×Operand)) (K:SV->SSt->Option R):Option R:=match Js t with
 |some (_,ei,ty)=>match Aha st ty 0 ps st.own with
  |some (l,own)=>bif B5w ps.length a&&B5w (sz ty) ei.size&&B7m (a*ei.size) 1000 then K (.v (.c (.sl st.nxt))) {st with own:=.row st.nxt st.nxt ty l []::own,nxt:=st.nxt+1}else none
  |none=>match Ahb (P5 ps st) ty 0 ps with
   |some l=>bif (B5w ps.length a&&B63 0 a)&&B5w (sz ty) ei.size&&B7m (a*ei.size) 1000 then K (.v (.c (.sl st.nxt))) {P5 ps st with own:=.sha st.nxt st.nxt ty l::(P5 ps st).own,nxt:=st.nxt+1}else none
   |none=>none
 |none=>none
def Am3:List Ty->List Cell->Option (List Leaf)
 |[],[]=>some []
 |e::es,c::cs=>B5h (Ym e c) λl=>B5h (Am3 es cs) λls=>some (l::ls)
 |_,_=>none
def Arg:Operand->Operand->Bool
 |.tmp x,.tmp y=>B5w x y
 |_,_=>false
def Ard (st:SSt) (t:TypeId) (x y:Operand) (K:SV->SSt->Option R):Option R:=match evC st.env x,Js t with
 |some c,some (_,ei,ty)=>match c.asInt,B5h (Am3 (Fg ty) ei.zero) (mk ty)with
  |some (.i64,n),some z=>bif (B7m ei.bytes 255&&(B5w (sz ty) ei.size&&ei.zero.all Cell.shut))&&Arg x y then xg (0<=n/\n<=1099511627776) (K (.v (.c (.sl st.nxt))) {st with own:=.row st.nxt st.nxt ty (B6l n.toNat z) []::st.own,nxt:=st.nxt+1})else none
  |_,_=>none
 |_,_=>none
def Aju (t:TypeId):Bool:=match Nh t with
 |some _=>true
 |none=>false
def Arf (st:SSt) (s t:TypeId) (x:Operand) (K:SV->SSt->Option R):Option R:=match evC st.env x with
 |some (.s v)=>bif Ug s&&Aga t then xg (v.size<=1099511627776) (K (.v (.c (.sl st.nxt))) {st with own:=.row st.nxt st.nxt (.b 3) v.data.toList []::st.own,nxt:=st.nxt+1})else none
 |_=>none
def Iy (f:FuncId):List Con->List Con
 |[]=>[]
 |c::cs=>bif B5w c.f f then c::Iy f cs else Iy f cs
def Anh:List (Nat×Nat)->List V1
 |[]=>[]
 |p::l=>.c (.ptr p.1 p.2)::Anh l
def Arj (C:Ctx) (st:SSt) (op:Op) (K:SV->SSt->Option R):Option R:=
 match op with
 |.alloc e=>Abr st e K
 |.box _ x=>Ara st x K
 |.build t ps=>Us st t ps.toList K
 |.buildSlice t a ps=>Arb st t a ps.toList K
 |.makeSlice t x y=>Ard st t x y K
 |.convert s t x=>bif Aju t then Arf st s t x K else Ku C st (.convert s t x) K
 |.call ⟨.builtin .append,args,tys⟩=>match args.toList,tys.toList with
  |[x,y],[t,t']=>bif B5w t t' then Ays C.mov st t x y K else none
  |_,_=>none
 |.call ⟨.value (.func f),args,_⟩=>match Xa st.env args.toList with
  |some vs=>(match Iy f C.cons with
   |[]=>C.inl R f vs st K
   |c::cs=>callF f vs st K (c::cs))
  |none=>none
 |.call ⟨.value (.tmp t),args,_⟩=>match evC st.env (.tmp t),Xa st.env args.toList with
  |some (.fn f caps),some vs=>callF f (vs++Anh caps) st K (Iy f C.cons)
  |_,_=>none
 |op=>Ku C st op K
def T3 (C:Ctx) (o:Oper) (st:SSt) (K:SSt->Option R):Option R:=match o.dst with
 |some d=>bif B63 d C.n then Arj C st o.op λv st=>K (st.put d v)else none
 |none=>match o.op with
  |.store t a v=>Ats st t a v K
  |_=>none
def Uz (f:FuncId):List Con->List Con
 |[]=>[]
 |c::cs=>bif B5w c.f f&&c.pure then [c]else Uz f cs
def Atd:SV->Bool
 |.v (.c c)=>c.shut
 |_=>false
def Nk (C:Ctx) (o:Oper) (st:SSt) (K:SSt->Option R):Option R:=match o.dst with
 |some d=>bif B63 d C.n then(match o.op with
  |.call ⟨.value (.func f),args,_⟩=>match Xa st.env args.toList with
   |some vs=>callF f vs st (λv _=>bif Atd v then K (st.put d v)else none) (Uz f C.cons)
   |none=>none
  |.build t ps=>Us st t ps.toList λv st=>K (st.put d v)
  |op=>Ku C st op λv st=>K (st.put d v))else none
 |none=>none
def A2n:List (Nat×Bool)->Nat->Bool->Bool
 |[],_,_=>false
 |(j,b)::r,k,c=>(B5w j k&&(b==c))||A2n r k c
def Pe (a:List Oper) (j:Nat):Option Nat:=match nth a j with
 |some o=>o.dst
 |none=>none
def Vb (c:Nat):List Oper->Option (List Oper×Oper×Operand×Operand×List Oper)
 |[]=>none
 |o::r=>match o.op with
  |.pick (.tmp t) x y=>bif B5w t c then some ([],o,x,y,r)else(Vb c r).map λp=>(o::p.1,p.2)
  |_=>(Vb c r).map λp=>(o::p.1,p.2)
def An:List Nat->Nat->Bool
 |[],_=>false
 |a::l,n=>B5w a n||An l n
def Vd (n:Nat) (a:List Oper) (j:Nat) (b:Bool):List Nat->List Oper->Bool
 |_,[]=>true
 |sk,o::r=>match o.guard,o.dst with
  |some (k,c),some d=>((B5w k j&&(c==b))||(match Pe a k with
   |some s=>An sk s
   |none=>false))&&(B63 d n&&Vd n a j b (d::sk) r)
  |_,_=>false
def Du:List Oper->List (Nat×Option SV)->List (Nat×Option SV)
 |[],e=>e
 |o::r,e=>match o.dst with
  |some d=>Du r ((d,none)::e)
  |none=>Du r e
def Xy (a:List Oper) (c:List (Nat×Bool)) (env:List (Nat×Option SV)):Option (Nat×Bool)->Bool
 |none=>true
 |some (j,b)=>A2n c j b&&(match Pe a j with
  |some s=>match evB env (.tmp s)with
   |some g=>g==b
   |none=>false
  |none=>false)
def isNone {α:Type}:Option α->Bool
 |none=>true
 |some _=>false
def Bj:List Oper->List Nat
 |[]=>[]
 |o::r=>match o.dst with
  |some d=>d::Bj r
  |none=>Bj r
def Acx (b:Bool) (run:SSt->(SSt->Option Bool)->Option Bool) (s:Nat) (st:SSt) (te:List (Nat×Option SV)) (x y:Operand) (g:Bool):Option Bool:=
 bif g then(bif b then run {st with env:=(s,some (.v (.c (.b true))))::st.env} (λst=>evB st.env x)else evB te x)
 else(bif b then evB te y else run {st with env:=(s,some (.v (.c (.b false))))::st.env} (λst=>evB st.env y))
def U8 (E:(R:Type)->Oper->SSt->(SSt->Option R)->Option R) (C:Ctx) (a:List Oper):Nat->List (Nat×Bool)->List Oper->SSt->(R:Type)->(SSt->Option R)->Option R
 |0,_,_,_,_,_=>none
 |_+1,_,[],st,_,K=>K st
 |f+1,kn,o::rest,st,R,K=>bif Xy a kn st.env o.guard then E R o st λst=>U8 E C a f kn rest st R K else match o.guard with
  |none=>none
  |some (j,b)=>match Pe a j with
   |none=>none
   |some s=>match evB st.env (.tmp s),Vb s (o::rest)with
    |some g,some (seg,p,x,y,rest)=>match p.dst with
     |none=>none
     |some d=>bif ((Vd C.n a j b [] seg&&!An (Bj seg) s)&&B63 d C.n)&&Xy a kn (Du seg st.env) p.guard then
       B5h (Acx b (λst K=>U8 E C a f ((j,b)::kn) seg st Bool K) s st (Du seg st.env) x y g) λv=>
        U8 E C a f kn rest {st with env:=(d,some (.v (.c (.b v))))::Du seg st.env} R K
      else none
    |_,_=>none
def I2 (t:TypeId):Bool:=match Js t with
 |some (_,ei,ty)=>Re ty&&B5w (sz ty) ei.size
 |none=>false
def Ko:List Oper->List Nat
 |[]=>[]
 |o::r=>match o.op,o.dst with
  |.buildSlice _ 0 _,some d=>d::Ko r
  |_,_=>Ko r
def Cl (C:Ctx) (E:List Nat) (o:Oper):Nat:=match o.op,o.dst with
 |.call ⟨.value (.func f),_,_⟩,some _=>match Uz f C.cons with
  |[]=>bif !(Iy f C.cons).isEmpty&&(Iy f C.cons).all λc=>Dl c.ps then 1 else 2
  |_=>0
 |.call ⟨.value _,_,_⟩,_=>2
 |.call ⟨.builtin .append,args,tys⟩,_=>match args.toList with
  |[.const (.slice none 0 0),_]=>match tys.toList with
   |[t,_]=>bif I2 t then 1 else 2
   |_=>2
  |[.tmp d,_]=>bif An E d then 1 else 2
  |_=>2
 |.alloc _,_=>1
 |.box _ _,_=>1
 |.buildSlice _ _ _,_=>1
 |.makeSlice _ _ _,_=>1
 |.convert _ t _,_=>bif Aju t then 1 else 0
 |.store _ _ _,_=>2
 |_,_=>0
def Xb (C:Ctx) (o:Oper) (st:SSt) (K:SSt->Option R):Option R:=bif B5w (Cl C [] o) 0 then Nk C o st K else bif B5w (Cl C [] o) 1 then T3 C {o with guard:=none} st K else none
def Ap8:List Oper->Option (TypeId×Operand×Nat×Nat×List Oper)
 |⟨some d1,.buildSlice t len ps,_,_,_,none⟩::⟨some d2,.call ⟨.builtin .append,args,tys⟩,_,_,_,none⟩::rest=>
  match ps.toList,args.toList,tys.toList with
  |[],[.tmp d,x],[t1,t2]=>bif (B5w d d1&&B5w len 0)&&(B5w t t1&&B5w t t2)then some (t,x,d1,d2,rest)else none
  |_,_,_=>none
 |_=>none
def Zz (st:SSt) (t:TypeId) (y:Operand) (K:SV->SSt->Option R):Option R:=
 match evC st.env y,Js t with
 |some (.sl h),some (_,ei,ty)=>bif B7m ei.bytes 127&&(Re ty&&B5w (sz ty) ei.size)then(match st.cont h with
  |some c=>match Ia c.t ty c.L with
   |some M=>xg (0+M.length<=1099511627776) (K (.v (.c (.sl st.nxt))) {st with own:=.row st.nxt st.nxt ty ([]++M) []::st.own,nxt:=st.nxt+1})
   |none=>none
  |none=>none)else none
 |_,_=>none
def Aqc:List Oper->Option (TypeId×Operand×Operand×Nat×Nat×List Oper)
 |⟨some d1,.buildSlice t len ps,_,_,_,none⟩::⟨some d2,.call ⟨.builtin .append,args,tys⟩,_,_,_,none⟩::rest=>
  match ps.toList,args.toList,tys.toList with
  |[(0,x)],[y,.tmp d],[t1,t2]=>bif (B5w d d1&&B5w len 1)&&(B5w t t1&&B5w t t2)then some (t,x,y,d1,d2,rest)else none
  |_,_,_=>none
 |_=>none
def Rc (K:Bool->SSt->Option R) (z:Operand) (st:SSt):Option R:=match evB st.env z with
 |some v=>K v st
 |none=>none
def A9r (b:Bool) (run:SSt->(SSt->Option R)->Option R) (s:Nat) (st:SSt) (te:List (Nat×Option SV)) (x y:Operand) (g:Bool) (K:Bool->SSt->Option R):Option R:=
 bif g then(bif b then run {st with env:=(s,some (.v (.c (.b true))))::st.env} (Rc K x)else Rc K x {st with env:=te})
 else(bif b then Rc K y {st with env:=te}else run {st with env:=(s,some (.v (.c (.b false))))::st.env} (Rc K y))
def Ab8 (C:Ctx) (a:List Oper) (b:List (Nat×Bool)):List Oper->SSt-> {R:Type}->(SSt->Option R)->Option R
 |[],st,_,K=>K st
 |o::r,st,_,K=>bif Xy a b st.env o.guard then T3 C {o with guard:=none} st λst=>Ab8 C a b r st K else none
def A37:List PK->Bool
 |[]=>false
 |.lit _::_=>true
 |_::r=>A37 r
def Aqb (C:Ctx):List Oper->Option (TypeId×Operand)
 |⟨some d,.buildSlice t len ps,_,_,_,none⟩::⟨_,.call ⟨.value (.func f),args,_⟩,_,_,_,_⟩::_=>match ps.toList,args.toList.getLast? with
  |[(0,x)],some (.tmp e)=>bif (B5w d e&&B5w len 1)&&(Iy f C.cons).any λc=>A37 c.ps then some (t,x)else none
  |_,_=>none
 |_=>none
def Arc (st:SSt) (t:TypeId) (x:Operand) (K:SV->SSt->Option R):Option R:=match ev1 st.env x,Js t with
 |some v,some (_,ei,ty)=>bif B5w v.cells.length ei.size&&(B5w (sz ty) ei.size&&B7m ei.size 1000)then K (.v (.c (.lt st.nxt))) {st with own:=.box st.nxt st.nxt v.cells::st.own,nxt:=st.nxt+1}else none
 |_,_=>none
def Me (C:Ctx) (a:List Oper):Nat->List Oper->SSt-> {R:Type}->(SSt->Option R)->Option R
 |0,_,_,_,_=>none
 |_+1,[],st,_,K=>K st
 |f+1,o::rest,st,_,K=>match o.guard with
  |none=>match Aqc (o::rest)with
   |some (t,x,y,d1,d2,rest')=>bif B63 d1 C.n&&B63 d2 C.n then Ar5 C.share {st with env:=(d1,none)::st.env} t x y (λv st=>Me C a f rest' (st.put d2 v) K)else none
   |none=>match Aqb C (o::rest),o.dst with
    |some (t,x),some d=>bif B63 d C.n then Arc st t x λv st=>Me C a f rest (st.put d v) K else none
    |_,_=>T3 C o st λst=>Me C a f rest st K
  |some (j,b)=>match Pe a j with
   |none=>none
   |some s=>match evB st.env (.tmp s),Vb s (o::rest)with
    |some g,some (seg,p,x,y,rest)=>match p.dst with
     |none=>none
     |some d=>bif ((Vd C.n a j b [] seg&&!An (Bj seg) s)&&B63 d C.n)&&isNone p.guard then
       bif seg.any λo=>B5w (Cl C [] o) 2 then A9r b (λst K=>Ab8 C a [(j,b)] seg st K) s st (Du seg st.env) x y g λv st=>Me C a f rest {st with env:=(d,some (.v (.c (.b v))))::st.env} K
       else B5h (Acx b (λst K=>U8 (λ_ o st K=>Xb C o st K) C a (f+1) [(j,b)] seg st Bool K) s st (Du seg st.env) x y g) λv=>
        Me C a f rest {st with env:=(d,some (.v (.c (.b v))))::Du seg st.env} K
      else none
    |_,_=>none
def A5x (C:Ctx) (E:List Nat) (a:List Oper):List Nat->Option (Nat×Nat)
 |[]=>none
 |k::r=>match nth a k with
  |none=>none
  |some o=>bif B5w (Cl C E o) 0 then some (k,0)else match A5x C E a r with
   |some (j,0)=>some (j,0)
   |_=>some (k,Cl C E o)
def Pv (C:Ctx) (E:List Nat) (a:List Oper):Nat->Array Bool->List (Nat×Nat)
 |0,_=>[]
 |f+1,listed=>match A5x C E a (Region.ready .any a.toArray listed)with
  |none=>[]
  |some p=>p::Pv C E a f (listed.setIfInBounds p.1 true)
def Xh:List (Oper×Nat)->List Oper
 |[]=>[]
 |p::r=>p.1::Xh r
def Abe (C:Ctx) (E:List Nat):List (Oper×Nat)->Bool
 |[]=>true
 |p::r=>B5w p.2 (Cl C E p.1)&&Abe C E r
def Pz (C:Ctx) (E:List Nat) (a:List Oper):Nat->List Oper->SSt-> {R:Type}->(SSt->Option R)->Option R
 |0,_,_,_,_=>none
 |_+1,[],st,_,K=>K st
 |f+1,o::rest,st,_,K=>match o.guard with
  |none=>match Ap8 (o::rest)with
   |some (t,y,d1,d2,rest')=>bif (B63 d1 C.n&&B63 d2 C.n)&&An E d1 then Zz {st with env:=(d1,none)::st.env} t y (λv st=>Pz C E a f rest' (st.put d2 v) K)else none
   |none=>bif B5w (Cl C E o) 0 then Nk C o st λst=>Pz C E a f rest st K else bif B5w (Cl C E o) (Cl C [] o)then T3 C o st λst=>Pz C E a f rest st K else none
  |some (j,b)=>match Pe a j with
   |none=>none
   |some s=>match evB st.env (.tmp s),Vb s (o::rest)with
    |some g,some (seg,p,x,y,rest)=>match p.dst with
     |none=>none
     |some d=>bif ((Vd C.n a j b [] seg&&!An (Bj seg) s)&&B63 d C.n)&&(isNone p.guard&&seg.all λo=>B7m (Cl C E o) 1&&B5w (Cl C E o) (Cl C [] o))then
       B5h (Acx b (λst K=>U8 (λ_ o st K=>Xb C o st K) C a (f+1) [(j,b)] seg st Bool K) s st (Du seg st.env) x y g) λv=>
        Pz C E a f rest {st with env:=(d,some (.v (.c (.b v))))::Du seg st.env} K
      else none
    |_,_=>none
def Ew:Chunk->Nat
 |.box _ g _=>g
 |.row _ g _ _ _=>g
 |.sha _ g _ _=>g
 |.hol _ g _ _ _ _ _=>g
 |.rem _ g _ _ _=>g
def J7:List Chunk->List Chunk->Bool
 |[],_=>true
 |_::_,[]=>false
 |a::l,b::m=>bif B5w (Ew a) (Ew b)then J7 l m else J7 (a::l) m
def Ru:List Nat->Bool
 |[]=>true
 |a::l=>!An l a&&Ru l
def Pj:List Chunk->List Nat
 |[]=>[]
 |c::r=>Ew c::Pj r
def Ahr (n:Nat):List Nat->Bool
 |[]=>true
 |a::l=>B63 a n&&Ahr n l
def Gi (st:SSt):Bool:=Ru (Pj st.own)&&Ahr st.nxt (Pj st.own)
inductive PS where
 |lk (k:Nat)
 |qk (k:Nat)
 |op (k:Nat)
 |gh (f:Nat)
 |li (f:Nat)
 |ap (k f:Nat)
inductive PT where
 |nil
 |cons (p:PS) (r:PT)
 |fork (k1:Nat) (p1:PT) (k2:Nat) (p2:PT)
def Anc (d:Nat):List Oper->Bool
 |[]=>false
 |o::r=>(match o.op with
  |.call ⟨.builtin .append,args,_⟩=>match args.toList with
   |[.tmp e,_]=>B5w e d
   |_=>false
  |_=>false)||Anc d r
def A4v (e:TypeId):Bool:=match F6 e with
 |some ti=>ti.zero.all Cell.shut
 |none=>false
def Aq6 (t:TypeId):Bool:=match Js t with
 |some (_,ei,ty)=>B5w (sz ty) ei.size
 |none=>false
def Xg (a:List Oper) (o:Oper):Nat:=match o.guard,o.op,o.dst with
 |none,.alloc e,some _=>bif A4v e then 1 else 0
 |none,.buildSlice t len ps,some d=>bif (B5w len 0&&B5w ps.toList.length 0)&&(Aq6 t&&Anc d a)then 2 else 0
 |_,_,_=>0
def Gx (a:List Oper) (k:Nat):Nat:=match nth a k with
 |some o=>Xg a o
 |none=>0
def Ie (a:List Oper):Nat->List Oper->List (Nat×Nat)
 |_,[]=>[]
 |k,o::r=>match o.dst with
  |some d=>bif B5w (Xg a o) 0 then Ie a (k+1) r else(k,d)::Ie a (k+1) r
  |none=>Ie a (k+1) r
def Ev:List (Nat×Nat)->List Nat
 |[]=>[]
 |p::r=>p.2::Ev r
def A3e (d:Nat):List (Nat×Nat)->Option Nat
 |[]=>none
 |p::r=>bif B5w p.2 d then some p.1 else A3e d r
def Agk (p:Nat->Bool):List Nat->Option Nat
 |[]=>none
 |a::l=>bif p a then some a else Agk p l
def Ue (C:Ctx) (k:Nat) (a:List Oper):Bool:=match nth a k with
 |some o=>(match o.op with
  |.call ⟨.value _,_,_⟩=>false
  |_=>B5w (Cl C [] o) 0)&&isNone o.guard
 |none=>false
def Byl (a:List Oper) (b:List (Nat×Nat)) (k:Nat):PS:=match nth a k with
 |some o=>(match o.op with
  |.call ⟨.builtin .append,args,_⟩=>match args.toList with
   |[.tmp d,_]=>match A3e d b with
    |some f=>.ap k f
    |none=>.op k
   |_=>.op k
  |_=>.op k)
 |none=>.op k
def Ag9 (C:Ctx) (a:List Oper) (k:Nat):Nat:=match nth a k with
 |some o=>Cl C [] o
 |none=>3
def Bt0 (C:Ctx) (a:List Oper) (k:Nat):Bool:=match nth a k with
 |some o=>isNone o.guard&&B5w (Cl C [] o) 0
 |none=>false
def okQ (C:Ctx) (c:List Oper) (a b:Array Bool) (k:Nat):Bool:=(List.range c.length).all λj=>(a.getD j false||B5w j k)||(!B5w (Ag9 C c j) 2||Gr c.toArray (b.setIfInBounds k true) j)
def Ux (C:Ctx) (a:List Oper) (b:Nat->Bool) (c:List (Nat×Nat)):Nat->Array Bool->Array Bool->PT
 |0,_,_=>.nil
 |n+1,listed,moved=>let R:=Region.ready .any a.toArray listed
  match Agk (λk=>Ue C k a&&b k) R with
  |some k=>.cons (.lk k) (Ux C a b c n (listed.setIfInBounds k true) moved)
  |none=>let d:=R.filter λk=>B5w (Gx a k) 0
   match Agk (λk=>Bt0 C a k&&okQ C a listed moved k) (match d with
    |[k]=>bif Gr a.toArray moved k||B5w (Ag9 C a k) 1 then []else d
    |_=>d)with
   |some k=>.cons (.qk k) (Ux C a b c n (listed.setIfInBounds k true) (moved.setIfInBounds k true))
   |none=>match d with
    |[k1,k2]=>.fork k1 (Ux C a b c n (listed.setIfInBounds k1 true) moved) k2 (Ux C a b c n (listed.setIfInBounds k2 true) moved)
    |k::_=>.cons (Byl a c k) (Ux C a b c n (listed.setIfInBounds k true) moved)
    |[]=>match R with
     |[]=>.nil
     |f::_=>.cons (bif B5w (Gx a f) 1 then PS.gh f else PS.li f) (Ux C a b c n (listed.setIfInBounds f true) moved)
def Abm (C:Ctx) (b:List Oper) (a:Array Bool) (k:Nat):Bool:=Gr b.toArray a k||B5w (Ag9 C b k) 1
def Dx (C:Ctx) (a:List Oper):Nat->Nat->Array Bool->Array Bool->PT->Bool
 |0,_,_,_,_=>false
 |_+1,_,listed,_,.nil=>(Region.ready .any a.toArray listed).isEmpty
 |n+1,m,listed,moved,.fork k1 p1 k2 p2=>match m with
  |0=>false
  |m+1=>!(Region.ready .any a.toArray listed).isEmpty&&(Region.ready .any a.toArray listed).all λi=>bif B5w i k1 then Abm C a moved k1&&Dx C a n m (listed.setIfInBounds i true) moved p1 else bif B5w i k2 then Abm C a moved k2&&Dx C a n m (listed.setIfInBounds i true) moved p2 else !B5w (Gx a i) 0&&Dx C a n m (listed.setIfInBounds i true) moved (.fork k1 p1 k2 p2)
 |n+1,m,listed,moved,.cons (.lk k) r=>match m with
  |0=>false
  |m+1=>((Region.ready .any a.toArray listed).contains k&&Region.free .any a.toArray listed k)&&Dx C a n m (listed.setIfInBounds k true) moved r
 |n+1,m,listed,moved,.cons (.qk k) r=>match m with
  |0=>false
  |m+1=>((Region.ready .any a.toArray listed).contains k&&Region.free .any a.toArray listed k)&&Dx C a n m (listed.setIfInBounds k true) (moved.setIfInBounds k true) r
 |n+1,m,listed,moved,.cons (.gh f) r=>bif listed.getD f false then Dx C a n m listed moved r else match m with
  |0=>false
  |m+1=>!(Region.ready .any a.toArray listed).isEmpty&&(Region.ready .any a.toArray listed).all λi=>!B5w (Gx a i) 0&&Dx C a n m (listed.setIfInBounds i true) moved (.cons (.gh f) r)
 |n+1,m,listed,moved,.cons (.li f) r=>bif listed.getD f false then Dx C a n m listed moved r else match m with
  |0=>false
  |m+1=>!(Region.ready .any a.toArray listed).isEmpty&&(Region.ready .any a.toArray listed).all λi=>!B5w (Gx a i) 0&&Dx C a n m (listed.setIfInBounds i true) moved (.cons (.li f) r)
 |n+1,m,listed,moved,.cons (.op k) r=>match m with
  |0=>false
  |m+1=>!(Region.ready .any a.toArray listed).isEmpty&&(Region.ready .any a.toArray listed).all λi=>bif B5w i k then Abm C a moved k&&Dx C a n m (listed.setIfInBounds i true) moved r else !B5w (Gx a i) 0&&Dx C a n m (listed.setIfInBounds i true) moved (.cons (.op k) r)
 |n+1,m,listed,moved,.cons (.ap k f) r=>match m with
  |0=>false
  |m+1=>listed.getD f false&&(!(Region.ready .any a.toArray listed).isEmpty&&(Region.ready .any a.toArray listed).all λi=>bif B5w i k then Dx C a n m (listed.setIfInBounds i true) moved r else !B5w (Gx a i) 0&&Dx C a n m (listed.setIfInBounds i true) moved (.cons (.ap k f) r))
def Gc:PT->List Nat
 |.nil=>[]
 |.cons (.gh f) r=>f::Gc r
 |.cons (.ap _ f) r=>f::Gc r
 |.cons _ r=>Gc r
 |.fork _ a _ b=>Gc a++Gc b
def Hy:PT->Bool
 |.nil=>true
 |.cons (.gh f) r=>!An (Gc r) f&&Hy r
 |.cons (.ap _ f) r=>!An (Gc r) f&&Hy r
 |.cons _ r=>Hy r
 |.fork _ a _ b=>Hy a&&Hy b
def both {A:Type} (a b:Option A):Option A:=open Classical in if a=b then a else none
def Afp:Cell->Bool
 |.i _ _=>true
 |.y _=>true
 |.b _=>true
 |.s _=>true
 |.sl _=>true
 |.nil=>true
 |.ptr _ _=>true
 |.ep _ _ _ _=>true
 |.ln _ _=>true
 |_=>false
def Afr:V1->Bool
 |.c c=>Afp c
 |.a l=>l.all Afp
def Afq:Option SV->Bool
 |some (.v x)=>Afr x
 |some (.t l)=>l.all Afr
 |none=>false
def Aoz (C:Ctx) (base:List Chunk) (o:Oper) (st:SSt) (K:SSt->Option R):Option R:=match o.dst with
 |some d=>Nk C o {st with own:=base,rds:=[]} λa=>bif B5w a.nxt st.nxt&&Afq (Au a.env d)then K {st with env:=a.env}else none
 |none=>none
def Aqd (o:Oper):Bool:=match o.op with
 |.slice _ _ _ _ none=>true
 |.indexAddr _ _ _=>true
 |.call ⟨.builtin .len,_,_⟩=>true
 |_=>false
def Ao0 (C:Ctx) (o:Oper) (st:SSt) (K:SSt->Option R):Option R:=match o.dst,o.op with
 |some d,.slice t x lo hi none=>bif B63 d C.n then Xu st t x lo hi (λv st=>K (st.put d v))else none
 |some d,.indexAddr t x y=>bif B63 d C.n then Xs st t x y (λv st=>K (st.put d v))else none
 |some d,.call ⟨.builtin .len,args,tys⟩=>bif B63 d C.n then Xt st args.toList tys.toList (λv st=>K (st.put d v))else none
 |_,_=>none
def Tr (a:List Nat) (o:Oper):Bool:=match o.dst with
 |some d=>An a d
 |none=>false
def opM (C:Ctx) (a:List Oper) (b:List Nat) (base:List Chunk) (k:Nat) (st:SSt) {R:Type} (K:SSt->Option R):Option R:=match nth a k with
 |some o=>bif (isNone o.guard&&B5w (Gx a k) 0)&&!Tr b o then T3 C o st λst=>bif J7 base st.own then K st else none else none
 |none=>none
def Gm (C:Ctx) (a:List Oper) (b:List Nat) (base:List Chunk):PT->SSt-> {R:Type}->(SSt->Option R)->Option R
 |.nil,st,_,K=>K st
 |.fork k1 p1 k2 p2,st,_,K=>both (opM C a b base k1 st λst=>Gm C a b base p1 st K) (opM C a b base k2 st λst=>Gm C a b base p2 st K)
 |.cons (.lk k) r,st,_,K=>match nth a k with
  |some o=>bif (Ue C k a&&B5w (Gx a k) 0)&&!Tr b o then(bif Aqd o then Ao0 C o st λst=>bif J7 base st.own then Gm C a b base r st K else none else Aoz C base o st λst=>Gm C a b base r st K)else none
  |none=>none
 |.cons (.qk k) r,st,_,K=>match nth a k with
  |some o=>bif (isNone o.guard&&B5w (Gx a k) 0)&&!Tr b o then Nk C o st λst=>bif J7 base st.own then Gm C a b base r st K else none else none
  |none=>none
 |.cons (.op k) r,st,_,K=>opM C a b base k st λst=>Gm C a b base r st K
 |.cons (.gh f) r,st,_,K=>match nth a f with
  |some ⟨some d,.alloc e,_,_,_,none⟩=>bif B63 d C.n&&An b d then Abr st e λv st=>bif J7 base st.own then Gm C a b base r (st.put d v) K else none else none
  |_=>none
 |.cons (.li _) r,st,_,K=>Gm C a b base r st K
 |.cons (.ap k f) r,st,_,K=>match nth a k,nth a f with
  |some ⟨some d2,.call ⟨.builtin .append,args,tys⟩,_,_,_,none⟩,some ⟨some d1,.buildSlice t _ _,_,_,_,none⟩=>match args.toList,tys.toList with
   |[.tmp d,y],[t1,t2]=>bif ((B5w d d1&&An b d1)&&(B5w t t1&&B5w t t2))&&((B63 d2 C.n&&B5w (Gx a k) 0)&&!An b d2)then Zz st t y λv st=>bif J7 base st.own then Gm C a b base r (st.put d2 v) K else none else none
   |_,_=>none
  |_,_=>none
def Py (env:List (Nat×Option SV)) (a:List Oper):Nat->Operand->List Nat
 |0,_=>[]
 |n+1,.tmp t=>match Agk (λk=>match nth a k with
   |some o=>(match o.dst with
    |some d=>B5w d t
    |none=>false)
   |none=>false) (List.range a.length)with
  |some k=>match nth a k with
   |some o=>(match o.op with
    |.fieldAddr _ x _=>Py env a n x
    |.indexAddr _ x _=>Py env a n x
    |.move x=>Py env a n x
    |.nilCheck x=>Py env a n x
    |_=>[])
   |none=>[]
  |none=>match evC env (.tmp t)with
   |some (.ptr h _)=>[h]
   |some (.sl h)=>[h]
   |some (.ep h _ _ _)=>[h]
   |some (.fn _ l)=>l.map (·.1)
   |_=>[]
 |_+1,_=>[]
def Asp (env:List (Nat×Option SV)) (b:List Oper):List Oper->List Nat
 |[]=>[]
 |o::r=>(match o.op with
  |.store _ a _=>Py env b (b.length+1) a
  |.call ⟨.value f,args,_⟩=>Py env b (b.length+1) f++args.toList.flatMap (Py env b (b.length+1))
  |.call ⟨.builtin .append,args,_⟩=>args.toList.flatMap (Py env b (b.length+1))
  |_=>[])++Asp env b r
def hOf:Chunk->Nat
 |.box h _ _=>h
 |.row h _ _ _ _=>h
 |.sha h _ _ _=>h
 |.hol h _ _ _ _ _ _=>h
 |.rem h _ _ _ _=>h
def Aqa:Chunk->Bool
 |.box _ _ _=>true
 |_=>false
def Ui (W:List Nat):List Chunk->List Chunk
 |[]=>[]
 |c::r=>bif Aqa c&&!An W (hOf c)then c::Ui W r else Ui W r
def Br3 (env:List (Nat×Option SV)) (a:List Oper) (base:List Chunk) (k:Nat):Bool:=match nth a k with
 |some o=>(match o.op with
  |.load _ x=>let b:=Py env a (a.length+1) x
   !b.isEmpty&&b.all λh=>match Tg h base with
    |some _=>true
    |none=>false
  |_=>true)
 |none=>false
def Asr (C:Ctx) (a:List Oper) (b:Bool) (st:SSt) (K:SSt->Option R):Option R:=
 bif b then
  let E:=Ko a;let e:=Pv C E a a.length (B7c a.length false)
  bif Region.noSelect a.toArray&&Rz a.toArray e (B7c a.length false)then(bif (B5w e.length a.length&&e.all λk=>B63 k.1 a.length)&&Abe C E (K0 a e)then Pz C E a (a.length+1) (Xh (K0 a e)) st K else none)
  else
   let c:=Ie a 0 a;let base:=Ui (Asp st.env a a) st.own;let g:=Ux C a (Br3 st.env a base) c a.length (B7c a.length false) (B7c a.length false)
   bif ((Region.noSelect a.toArray&&Gi st)&&(((Ru (Ev c)&&Hy g)&&((Ev c).all (λd=>B63 d C.n)&&(Gc g).all λf=>!B5w (Gx a f) 0))&&Dx C a (3*a.length) a.length (B7c a.length false) (B7c a.length false) g))&&J7 base st.own then Gm C a (Ev c) base g {st with env:=(Ev c).map (λd=>(d,none))++st.env} K else none
 else Me C a (a.length+1) a st K
end
end
end
end Go.Proofs.YtcdecpdpmpfbnaaGreatDoor
