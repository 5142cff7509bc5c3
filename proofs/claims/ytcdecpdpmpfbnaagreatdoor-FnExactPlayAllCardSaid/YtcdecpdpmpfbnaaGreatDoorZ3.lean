/- Part 3 of the proof: lemmas. No condition. -/
import Derived.Laws.IdiomCopy
import Derived.Lib.AppendZerosOnto
import Derived.Lib.Overlaps
import Derived.Test.YtcdecpdpmpfbnaaGreatDoorSh
import Derived.Lib.SplitLaws
import Derived.Test.YtcdecpdpmpfbnaaGreatDoorZ2
open Option renaming bind->B5h,bind_some->B5i,map_eq_some_iff->B5s,some->B65,bind_none->B69,bind_eq_some_iff->B7i,isSome_none->B71,map_some->B77,map_none->B8w,isSome_some->Cbt
open List renaming mem_cons_of_mem->B5j,length_append->B5m,mem_cons_self->B5n,length_cons->B5q,append_assoc->B5r,mem_cons->B5t,perm_middle->B5u,length_take->B5x,length_drop->B50,eq_nil_of_length_eq_zero->B53,mem_append_right->B54,getElem?_eq_some_iff->B55,perm_append_comm->B56,cons_append->B6a,all_eq_true->B6b,mem_append_left->B6f,mem_append->B6g,flatMap_cons->B6h,replicate->B6l,take_length->B6m,append_nil->B6o,getElem?_append_left->B6p,map_cons->B6r,take_append_drop->B6t,length_map->B6x,getElem?_drop->B6y,mem_of_mem_drop->B6z,flatMap_append->B60,getElem?_take->B68,take_of_length_le->B7a,drop_drop->B7o,size_toArray->B7p,all_cons->B7s,drop_zero->B7v,drop_length->B72,mem_of_getElem?->B74,mem_map->B75,take_append_of_le_length->B8c,drop_append_of_le_length->B8d,toArray->B8g,getElem?_map->B8q,drop_take->B84,take_append->B9i,take_take->B9k,map_append->B9r,map_toArray->B93,take_left'->Cag,drop_of_length_le->Caz,take_left->Cbj,drop->Cbw
open Int renaming toNat_natCast->B58,eq_ofNat_of_zero_le->B8f,natCast_add->Ca3
open Nat renaming eq_of_beq_eq_true->B5k,mul_le_mul_right->B5v,beq->B5w,add_assoc->B6d,le_refl->B6i,lt_of_lt_of_le->B6w,add_mul->B61,blt->B63,sub_mul->B7g,ble->B7m,min_eq_left->B7q,zero_add->B7x,le_succ->B8b,min_def->B8r,lt_or_ge->B8u,add_sub_cancel_left->B82,one_mul->B9f,add_zero->B9v,lt_succ_self->B9x,sub_zero->Cad,strongRecOn->Ca4,beq_refl->Ca5,mul_one->Cbg
open Bool renaming and_eq_true->B5l,or_eq_false_iff->B6k,false_eq_true->B6q,or_eq_true->B6s,not_eq_true'->B66,or_false->B8x
open Array renaming length_toList->B5z,getElem?_toList->B7b,replicate->B7c,getElem?_eq_none->B7h,size_append->B79,getD_eq_getD_getElem?->B8p,toList_append->B81,toArray_toList->B9g,toList_map->B9q
open Sum renaming elim->B59,inr->B6e,inl->B7k
open Go.Lib renaming join->B7w,countB->B73,splitB->B86,run_append_grow_zeros->B9d,run_overlaps_apart->B9m,replaceAll->B9t,countB_le->Cbk
namespace Go.Proofs.YtcdecpdpmpfbnaaGreatDoor
noncomputable section
section
open Go.RowKit
def putE (d:Option Nat) (v:Value) (env:Env):Env:=match d with
 |some d=>(d,v)::env
 |none=>env
structure OD (P:Program) (n:Nat) (env:Env) (w:World) (o:Oper) (N:Value->World->Prop):Prop where
 get:∀a,Has n a env->o.wp P a w (λa' w'=>∃v,a'=a.put o.dst v/\N v w') Pq
section
variable {P:Program} {n:Nat} {env:Env} {w:World} {o:Oper} {N N':Value->World->Prop} {aops:Array Oper} {rest:List Oper} {Q:Post}
theorem OD.mono (h:OD P n env w o N) (c:∀v w',N v w'->N' v w'):OD P n env w o N':=⟨λa b=>G6 (λ_ w' ⟨v,e,k⟩=>⟨v,e,c v w' k⟩) (h.get a b)⟩
theorem OD.ex {d:Nat}{op ty pos af} (h:Ex P n env w ⟨some d,op,ty,pos,af,none⟩ N):OD P n env w ⟨some d,op,ty,pos,af,none⟩ N:=⟨λa b=>by
 obtain⟨v,w',e,c⟩:=h;unfold Oper.wp;rw[e a b];exact⟨v,rfl,c⟩⟩
theorem OD.exu{op ty pos af K} (h:ExU P n env w ⟨none,op,ty,pos,af,none⟩ K):OD P n env w ⟨none,op,ty,pos,af,none⟩ (λ_ w'=>K w'):=⟨λa b=>by
 obtain⟨w',d,c⟩:=h;unfold Oper.wp;rw[d a b];exact⟨undef,rfl,c⟩⟩
theorem OD.call {d:Nat}{f b ats vs ty pos af} (h:evs env b.toList=some vs) (e:Ret P f vs w N):OD P n env w ⟨some d,.call ⟨.value (.func f),b,ats⟩,ty,pos,af,none⟩ N:=⟨λa c=>by
 cases b with
 |mk b=>exact Go.Proofs.YtcdecpdpmpfbnaaGreatDoor.call_wp c h e λv w' g=>⟨v,rfl,g⟩⟩
theorem OD.callv {d:Nat}{f x args ats vs cap ty pos af} (hx:ev env x=some (.func (.func f) #[] cap.toArray)) (q:evs env args.toList=some vs) (j:Ret P f (vs++cap) w N):OD P n env w ⟨some d,.call ⟨.value x,args,ats⟩,ty,pos,af,none⟩ N:=⟨λa g=>by
 cases args with
 |mk args=>
  obtain⟨⟨s,l,c,i⟩,b⟩:=j;have h:(execOp a.eval ⟨some d,.call {callee:=.value x,args:=args.toArray,argTypes:=ats},ty,pos,af,none⟩).run P w=.ok (.enter f (vs++cap).toArray) w:=by simp only[execOp,resolve,g.ev hx,Deferred.ofValue,invoke,callFunc,Sem.run_bind,Sem.run_pure,Result.andThen_ok,run_program,l,c,i,B93,g.evs _ _ q];simp
  show Oper.wp P ⟨some d,.call {callee:=.value x,args:=args.toArray,argTypes:=ats},ty,pos,af,none⟩ a w _ Pq;unfold Oper.wp;rw[h];exact b.mono λe w' ⟨v,k,p⟩=>by subst k;exact⟨v,rfl,p⟩⟩
theorem Has.putE {a:Act} (c:Has n a env) (b:∀d,o.dst=some d->B63 d n=true) (v:Value):Has n (a.put o.dst v) (putE o.dst v env):=by
 cases e:o.dst with
 |none=>exact c
 |some d=>exact c.put (b d e) v
theorem Bng f {a:Option Nat}{op ty pos af g}:execOp f ⟨a,op,ty,pos,af,g⟩=execOp f ⟨a,op,ty,pos,af,none⟩:=by cases op<;>rfl
theorem Aup {b:Option Nat}{op ty pos af g a nx Q} (h:Oper.wp P ⟨b,op,ty,pos,af,none⟩ a w nx Q):Oper.wp P ⟨b,op,ty,pos,af,g⟩ a w nx Q:=by unfold Oper.wp at h⊢;rw[Bng];exact h
theorem A9u (f:o.guard=none) (b:∀d,o.dst=some d->B63 d n=true) (h:OD P n env w o N) (g:∀v w',N v w'->WL P n aops rest Q (putE o.dst v env) w'):WL P n aops (o::rest) Q env w:=λa c=>by unfold wpList;rw[if_pos (by simp[Region.wanted,f])];refine .inl (G6 (λi w' ⟨v,e,k⟩=>?_) (h.get a c));subst e;exact g v w' k _ (c.putE b v)
theorem Auk{r} (i:o.guard=none) (c:∀d,o.dst=some d->B63 d n=true) (h:∀b,Rel w b->OD P n env b o λv w'=>Rel b w'/\WO P n aops Q r (putE o.dst v env) w'):WO P n aops Q ((o,1)::r) env w:=λa f=>
 .inl ⟨by simp[Region.wanted,i],λb g=>G6 (λj w' ⟨v,e,k⟩=>⟨.inr k.1,v,e,by subst e;exact k.2 _ (f.putE c v)⟩) ((h b g).get a f)⟩
theorem B4q{r} (i:∀a,Has n a env->Region.wanted o (yielded aops a.tmps)=true) (f:∀d,o.dst=some d->B63 d n=true) (h:∀b,Rel w b->OD P n env b o λv w'=>Rel b w'/\WO P n aops Q r (putE o.dst v env) w'):WO P n aops Q ((o,1)::r) env w:=λa c=>
 .inl ⟨i a c,λb g=>G6 (λj w' ⟨v,e,k⟩=>⟨.inr k.1,v,e,by subst e;exact k.2 _ (c.putE f v)⟩) ((h b g).get a c)⟩
theorem B4r{r} (i:o.guard=none) (c:∀d,o.dst=some d->B63 d n=true) (h:∀b,Rel w b->OD P n env b o λv w'=>WO P n aops Q r (putE o.dst v env) w'):WO P n aops Q ((o,2)::r) env w:=λa f=>
 .inl ⟨by simp[Region.wanted,i],λb g=>G6 (λj w' ⟨v,e,k⟩=>⟨.inl rfl,v,e,by subst e;exact k _ (f.putE c v)⟩) ((h b g).get a f)⟩
end
section
variable {ρ ρ':List HV} {rs rs':List Rd} {B:Base} {amb:List Rd} {st:SSt} {env:Env} {w:World} {m:List As} {R:Type} {r:R} {C:Ctx} {ops:List Oper} {n:Nat}
theorem Afi{f}:∀ {cs:List Con},∀c∈Iy f cs,c∈cs
 |[],c,h=>by cases h
 |d::cs,c,h=>by
  unfold Iy at h;cases a:B5w d.f f with
  |true=>
   rw[a]at h;rcases B5t.1 h with rfl|h
   ·exact B5n ..
   ·exact B5j _ (Afi c h)
  |false=>rw[a]at h;exact B5j _ (Afi c h)
theorem Ay7:∀ {caps:List (Nat×Nat)} {us:List Value},All2 (CapIs ρ) caps us->All2 (V1.Den ρ) (Anh caps) us
 |[],[],_=>trivial
 |p::caps,_::us,⟨⟨b,h1,h2⟩,h3⟩=>⟨⟨b,h1,h2⟩,Ay7 h3⟩
 |[],_::_,h=>h.elim
 |_::_,[],h=>h.elim
theorem Bs4 (H:COk amb C) (i:Sat B amb ρ st env w){op K} (h:Arj C st op K=some r) (n d:Nat) ty pos af:
  OD Tryz.prog n env w ⟨some d,op,ty,pos,af,none⟩ λv w'=>(Cl C [] ⟨some d,op,ty,pos,af,none⟩=1->Rel w w')/\After B amb ρ st env K r v w':=by
 unfold Arj at h;split at h
 ·exact(OD.ex (Bsf i h n d ty pos af)).mono λv w' ⟨g,a⟩=>⟨λ_=>g rfl,a⟩
 ·exact(OD.ex (Bsg i h n d ty pos af)).mono λv w' ⟨g,a⟩=>⟨λ_=>g rfl,a⟩
 ·rename_i t ps;have:=(A48 (ps:=ps.toList) i h).mk true n d ty pos af;rw[B9g]at this;exact(OD.ex this).mono λv w' ⟨g,a⟩=>⟨λ_=>g rfl,a⟩
 ·rename_i t Y ps;have:=Bsi (ps:=ps.toList) i h n d ty pos af;rw[B9g]at this;exact(OD.ex this).mono λv w' ⟨g,a⟩=>⟨λ_=>g rfl,a⟩
 ·exact(OD.ex (Bsk i h n d ty pos af)).mono λv w' ⟨g,a⟩=>⟨λ_=>g rfl,a⟩
 ·rename_i s t x;cases q:Aju t with
  |true=>rw[q]at h;exact(OD.ex (Bsm i h n d ty pos af)).mono λv w' ⟨g,a⟩=>⟨λ_=>g rfl,a⟩
  |false=>rw[q]at h;have U:Ku C st (.convert s t x) K=some r:=h;exact(OD.ex ((Aqs i U).mk true n d ty pos af)).mono λv w' ⟨g,a⟩=>⟨λ_=>g rfl,a⟩
 ·rename_i j p;split at h
  ·rename_i x y t t' V W;have e:=B5k (bt h).1;replace h:=(bt h).2;subst e;have A:j= #[x,y]:=by cases j;simpa using V
   have e2:p= #[t,t]:=by cases p;simpa using W
   subst A e2;refine(OD.ex (Bgn i h n d ty pos af)).mono λv w' ⟨g,a⟩=>⟨λb=>g ?_,a⟩;unfold Cl at b;simp only at b;split at b
   ·rename_i y' S;simp only[List.cons.injEq]at S;cases I:I2 t with
    |false=>rw[I]at b;simp at b
    |true=>rw[S.1];have M:Rt st (.const (.slice none 0 0))=true:=rfl;rw[M];rfl
   ·simp[An]at b
   ·cases b
  ·cases h
 ·rename_i f j p;split at h
  ·rename_i vs z;obtain⟨G,A,e2⟩:=Age i.env z;split at h
   ·rename_i k;refine OD.call A ((H.inl _ _ _ _ _ _ _ _ _ _ _ h i e2).mono λu w' a=>⟨λb=>?_,a⟩);unfold Cl at b;simp only at b;split at b
    ·rw[k]at b;simp at b
    ·rename_i O
     exact absurd O (by
      have:∀l:List Con,Iy f l=[]->Uz f l=[]:=λl=>by
       induction l with
       |nil=>intro _;rfl
       |cons c l X=>
        intro F;unfold Iy at F;unfold Uz;cases q:B5w c.f f with
        |true=>rw[q]at F;cases F
        |false=>rw[q]at F;exact X F
      intro L;exact L (this _ k))
   ·rename_i c0 T k;rw[<-k]at h;refine OD.call A ((Afa i e2 (λc D=>H.cons c (Afi c D)) h).mono λu w' ⟨g,a⟩=>⟨λb=>g λc D=>?_,a⟩);unfold Cl at b;simp only at b;split at b
    ·cases q:(Iy f C.cons).all λc=>Dl c.ps with
     |true=>exact B6b.1 q c D
     |false=>rw[q]at b;simp at b
    ·cases b
  ·cases h
 ·rename_i t j p;split at h
  ·rename_i f caps vs I z;obtain⟨G,A,e2⟩:=Age i.env z;obtain⟨u,u1,us,rfl,u2⟩:=i.env.evC I;exact OD.callv u1 A ((Afa i (e2.append (Ay7 u2)) (λc D=>H.cons c (Afi c D)) h).mono λu w' ⟨_,a⟩=>⟨λb=>absurd b (by simp[Cl]),a⟩)
  ·cases h
 ·exact(OD.ex ((Aqs i h).mk true n d ty pos af)).mono λv w' ⟨g,a⟩=>⟨λ_=>g rfl,a⟩
def Next (B:Base) (amb:List Rd) (ρ:List HV) (st:SSt) (env:Env) (K:SSt->Option R) (r:R) (W:List Nat) (d:Option Nat) (v:Value) (w':World):Prop:=
 ∃a ρ',K a=some r/\Ext ρ ρ'/\Sat B amb ρ' a (putE d v env) w'/\Grow st a/\∀t,An W t=false->Au a.env t=Au st.env t
theorem Nj (z:COk amb C) (p:Sat B amb ρ st env w){o K} (l:o.guard=none) (h:T3 C o st K=some r):
  (∀d,o.dst=some d->B63 d C.n=true)/\OD Tryz.prog C.n env w o λv w'=>(Cl C [] o=1->Rel w w')/\Next B amb ρ st env K r (Bj [o]) o.dst v w':=by
 obtain⟨u,G,ty,pos,af,g⟩:=o;simp only at l;subst l;unfold T3 at h;simp only at h;split at h
 ·rename_i d;have e:=(bt h).1;replace h:=(bt h).2;refine⟨λs c=>by cases c;exact e,(Bs4 z p h C.n d ty pos af).mono λv w' ⟨D,sv,a,ρ',f,i,j,k,b,F⟩=>⟨D,a.put d sv,ρ',f,i,j.put k d,⟨b.nxt,b.own,b.rds⟩,λt q=>?_⟩⟩;simp only[Bj,An,B8x]at q;simp only[SSt.put,Au,q,cond_false,F]
 ·refine⟨(λs c=>by cases c),?_⟩;split at h
  ·rename_i t x y;exact(OD.exu (Byo p h C.n ty pos af)).mono λv w' ⟨a,ρ',f,i,j,k,b⟩=>⟨λA=>absurd A (by simp[Cl]),a,ρ',f,i,j,k,λt _=>by rw[b]⟩
  ·cases h
theorem Bym (p:COk amb C){Q}:StepOk B amb C ops (λl env w=>WL Tryz.prog C.n ops.toArray l Q env w) (λ_=>True) (λ_ o st K=>Xb C o st K):=λR o st K r ρ env w rest I h s t q=>by
 simp only[Xb]at h;cases j:B5w (Cl C [] o) 0 with
 |true=>rw[j]at h;exact A79 p (QT.wl (Q:=Q)) R o st K r ρ env w rest trivial h s t q
 |false=>rw[j]at h;simp only[cond_false]at h;have x:=B5k (bt h).1;replace h:=(bt h).2;obtain⟨d,f⟩:=Nj (o:= {o with guard:=none}) p s rfl h;obtain⟨b,u,ty,pos,af,g⟩:=o;intro a c;unfold wpList;rw[if_pos (t a c)];refine .inl (G6 (o:=⟨b,u,ty,pos,af,g⟩) (λH w' ⟨v,e,k⟩=>?_) (Aup (f.get a c)));subst e;obtain⟨y,i,ρ',z,A,D,F,G⟩:=k;exact q i ρ' _ w' z D A F G (y x) _ (c.putE (o:=⟨b,u,ty,pos,af,g⟩) d v)
theorem OD.guard {b:Option Nat}{op ty pos af g P N} (h:OD P n env w ⟨b,op,ty,pos,af,none⟩ N):OD P n env w ⟨b,op,ty,pos,af,g⟩ N:=⟨λa c=>Aup (h.get a c)⟩
theorem QT.imp{P n aops T good a} (h:QT P n aops T good) (c:∀o,a o->good o):QT P n aops T a:=⟨λb=>h.q (c _ b),λb=>h.s (c _ b)⟩
def T7 (C:Ctx) (E:List Nat) (o:Oper):Prop:=(B7m (Cl C E o) 1&&B5w (Cl C E o) (Cl C [] o))=true
theorem QT.wo'{P n aops Q} E:QT P n aops (λl env w=>WO P n aops Q (l.map λo=>(o,Cl C E o)) env w) (T7 C E):=(QT.wo (Cl C E)).imp λo h=>by simp only[T7,B5l]at h;exact h.1
theorem Byk (d:COk amb C){E Q}:StepOk B amb C ops (λl env w=>WO Tryz.prog C.n ops.toArray Q (l.map λo=>(o,Cl C E o)) env w) (T7 C E) (λ_ o st K=>Xb C o st K):=λR o st K r ρ env w rest s h i t q=>by
 simp only[Xb]at h;have a:=s;simp only[T7,B5l]at a;have y:=B5k a.2;cases p:B5w (Cl C [] o) 0 with
 |true=>rw[p]at h;exact A79 d (QT.wo' (Q:=Q) E) R o st K r ρ env w rest s h i t q
 |false=>rw[p]at h;simp only[cond_false]at h;have c:=B5k (bt h).1;replace h:=(bt h).2;have e:=(Nj (o:= {o with guard:=none}) d i rfl h).1;have f:=λk (b:Rel w k)=>(Nj (o:= {o with guard:=none}) d (i.rel b) rfl h).2;simp only[B6r,y,c];obtain⟨x,H,ty,pos,af,g⟩:=o;refine B4q t e λk b=>(OD.guard (f k b)).mono λv w' ⟨u,j,ρ',z,A,D,F,G⟩=>⟨u c,?_⟩;exact q j ρ' _ w' z D A F G (b.trans (u c))
theorem Bqi{l t x d1 j rest} (h:Ap8 l=some (t,x,d1,j,rest)):∃ty e pos a af c,l=⟨some d1,.buildSlice t 0 #[],ty,pos,af,none⟩::⟨some j,.call ⟨.builtin .append,#[.tmp d1,x],#[t,t]⟩,e,a,c,none⟩::rest:=by
 unfold Ap8 at h;split at h
 ·rename_i k A z ps ty pos af p b g e a c i;split at h
  ·rename_i d G D F v u y;have f:=(bt h).1;replace h:=(bt h).2;cases h;simp only[B5l]at f;cases B5k f.1.1;cases B5k f.1.2;cases B5k f.2.1;cases B5k f.2.2;have q:ps= #[]:=by cases ps;simpa using v
   have s:b= #[.tmp d1,x]:=by cases b;simpa using u
   have e2:g= #[t,t]:=by cases g;simpa using y
   subst q s e2;exact⟨ty,e,pos,a,af,c,rfl⟩
  ·cases h
 ·cases h
theorem Bgj (p:Sat B amb ρ st env w){t y d1 d2 K Q aops rr ty ty2 pos pos2 af af2} (F:B63 d1 n=true) (G:B63 d2 n=true) (h:Zz {st with env:=(d1,none)::st.env} t y K=some r)
  (W:∀u v w' sv g ρ',K sv g=some r->Ext ρ ρ'->Sat B amb ρ' g ((d1,u)::env) w'->sv.Den ρ' v->Grow {st with env:=(d1,none)::st.env} g->g.env=(d1,none)::st.env->WO Tryz.prog n aops Q rr ((d2,v)::(d1,u)::env) w'):
  WO Tryz.prog n aops Q ((⟨some d1,.buildSlice t 0 #[],ty,pos,af,none⟩,1)::(⟨some d2,.call ⟨.builtin .append,#[.tmp d1,y],#[t,t]⟩,ty2,pos2,af2,none⟩,1)::rr) env w:=by
 unfold Zz at h;split at h
 ·rename_i hh e ei te hy ht;obtain⟨V,_,z,L,_⟩:=Ni ht;have l:=(bt h).1;replace h:=(bt h).2;simp only[B5l]at l;rw[<-B5k l.2.2]at L;split at h
  ·rename_i c A;split at h
   ·rename_i M q;have Y:=(Bf h).1;replace h:=(Bf h).2;refine Auk rfl (λd D=>by cases D;exact F) λw1 O=>?_;obtain⟨m,rs,m1,m2,m3,X⟩:=(p.rel O).mem;refine OD.ex (A91 (T:=Bi te) (f:=fD te) V L (λx=>C3 te x) X λb w2 j i=>⟨j,?_⟩);have I:Sat B amb ρ {st with env:=(d1,none)::st.env} ((d1,Sv.v ⟨some ⟨b,0,none⟩,0,0⟩)::env) w2:=⟨p.len,p.env.none d1,((p.rel O).rel j).mem⟩;refine Auk rfl (λd D=>by cases D;exact G) λw3 k=>?_;have a:=I.rel k;obtain⟨v,v1,sv,s1,rfl⟩:=a.env.evC hy;obtain⟨s',S,U⟩:=a.rd A;rw[s1]at S;cases S;obtain⟨e,e2⟩:=Ls q;obtain⟨t',L'⟩:=c;simp only at e e2 U;subst e e2;refine OD.ex (A9z V L v1 (by simp[putE,ev,lk]) U (Agp l.2.1) (i.call k) Y l.1 λs' w4 H s=>⟨H,?_⟩);exact W _ _ w4 _ _ _ h (Ext.one ρ _) (a.row m1 m2 m3 s) (a.rowDen s') (Grow.fresh rfl (OwnLe.refl _)) rfl
   ·cases h
  ·cases h
 ·cases h
theorem Bql{l t x y d1 d2 rest} (h:Aqc l=some (t,x,y,d1,d2,rest)):∃ty e pos a af c,l=⟨some d1,.buildSlice t 1 #[(0,x)],ty,pos,af,none⟩::⟨some d2,.call ⟨.builtin .append,#[y,.tmp d1],#[t,t]⟩,e,a,c,none⟩::rest:=by
 unfold Aqc at h;split at h
 ·rename_i j A z ps ty pos af k b g e a c i;split at h
  ·rename_i G H d D F u s v;have f:=(bt h).1;replace h:=(bt h).2;cases h;simp only[B5l]at f;cases B5k f.1.1;cases B5k f.1.2;cases B5k f.2.1;cases B5k f.2.2;have p:ps= #[(0,x)]:=by cases ps;simpa using u
   have q:b= #[y,.tmp d1]:=by cases b;simpa using s
   have e2:g= #[t,t]:=by cases g;simpa using v
   subst p q e2;exact⟨ty,e,pos,a,af,c,rfl⟩
  ·cases h
 ·cases h
theorem Bqk{o rest t x} {d:Nat} (h:Aqb C (o::rest)=some (t,x)) (j:o.dst=some d):∃ty pos af,o=⟨some d,.buildSlice t 1 #[(0,x)],ty,pos,af,none⟩:=by
 unfold Aqb at h;split at h
 ·rename_i s z l ps ty pos af u f b q p g i g2 y a;cases a;split at h
  ·rename_i A e k v;have c:=(bt h).1;replace h:=(bt h).2;cases h;cases j;simp only[B5l]at c;cases B5k c.1.2;have a:ps= #[(0,x)]:=by cases ps;simpa using k
   subst a;exact⟨ty,pos,af,rfl⟩
  ·cases h
 ·cases h
theorem A60 (A:COk amb C){Q}:∀l p st K ρ env w tail,Ab8 C ops p l st K=some r->Sat B amb ρ st env w->
  (∀c ρ' d w',K c=some r->Sat B amb ρ' c d w'->Ext ρ ρ'->Grow st c->(∀t,An (Bj l) t=false->Au c.env t=Au st.env t)->WL Tryz.prog C.n ops.toArray tail Q d w')->WL Tryz.prog C.n ops.toArray (l++tail) Q env w
 |[],p,st,K,ρ,env,w,tail,h,hs,hK=>hK st ρ env w h hs (Ext.refl ρ) (Grow.refl st) λ_ _=>rfl
 |o::l,p,st,K,ρ,env,w,tail,h,hs,hK=>by
  unfold Ab8 at h;have D:=(bt h).1;replace h:=(bt h).2;obtain⟨q,u⟩:=Nj (o:= {o with guard:=none}) A hs rfl h;have s:∀a,Has C.n a env->Region.wanted o (yielded ops.toArray a.tmps)=true:=λa i=>Aqw D hs.env i;obtain⟨b,j,ty,pos,af,g⟩:=o;intro a i;show wpList _ _ _ (⟨b,j,ty,pos,af,g⟩::(l++tail)) a w;unfold wpList;rw[if_pos (s a i)];refine .inl (G6 (o:=⟨b,j,ty,pos,af,g⟩) (λW w' ⟨v,e,k⟩=>?_) (Aup (u.get a i)));subst e;obtain⟨_,c,ρ',M,O,S,T,U⟩:=k;refine A60 A l p c K ρ' _ w' tail M S (λy z f V G k2 H I L=>hK y z f V G k2 (O.trans H) (T.trans I) λt x=>?_) _ (i.putE (o:=⟨b,j,ty,pos,af,g⟩) q v);have F:Bj (⟨b,j,ty,pos,af,g⟩::l)=Bj [⟨b,j,ty,pos,af,none⟩]++Bj l:=by cases b<;>rfl
  rw[F,I9,B6k]at x;rw[L t x.2,U t x.1]
theorem Yj (hC:COk amb C){Q}:∀f l st K ρ env w,Me C ops f l st K=some r->Sat B amb ρ st env w->
  (∀G ρ' F w',K G=some r->Sat B amb ρ' G F w'->Ext ρ ρ'->Grow st G->(∀t,An (Bj l) t=false->Au G.env t=Au st.env t)->Q .normal F w')->WL Tryz.prog C.n ops.toArray l Q env w
 |0,_,_,_,_,_,_,h,_,_=>by cases h
 |f+1,[],st,K,ρ,env,w,h,hs,hK=>Auj (hK st ρ env w h hs (Ext.refl ρ) (Grow.refl st) λ_ _=>rfl)
 |f+1,o::rest,st,K,ρ,env,w,h,hs,hK=>by
  unfold Me at h;split at h
  ·rename_i hg;split at h
   ·rename_i t x y d1 d2 i hp;obtain⟨ty,f6,pos,e3,af,e4,e⟩:=Bql hp;have hc:=(bt h).1;replace h:=(bt h).2;simp only[B5l]at hc;rw[e]at hK⊢;refine Bts hs hc.1 hc.2 h λu v w' sv G ρ' X k2 Y O W k6=>?_;refine Yj hC f i _ K ρ' _ w' X (Y.put O d2) λL M A w2 g1 g2 g3 g4 g5=>hK L M A w2 g1 g2 (k2.trans g3) (Grow.trans W ⟨g4.nxt,g4.own,g4.rds⟩) λt k=>?_;simp only[Bj,An,B6k]at k;rw[g5 t k.2.2];simp only[SSt.put,Au,k.2.1,cond_false,k6,k.1]
   ·split at h
    ·rename_i t x d c7 c1;obtain⟨ty,pos,af,e⟩:=Bqk c7 c1;have a1:=(bt h).1;replace h:=(bt h).2;subst e;refine A9u rfl (λd' hd=>by cases hd;exact a1) (OD.ex (Bsj hs h C.n d ty pos af)) λv w' ⟨_,sv,G,ρ',X,k2,Y,O,W,k6⟩=>?_;refine Yj hC f rest _ K ρ' _ w' X (Y.put O d) λL M A w2 g1 g2 g3 g4 g5=>hK L M A w2 g1 g2 (k2.trans g3) (Grow.trans W ⟨g4.nxt,g4.own,g4.rds⟩) λt k=>?_;simp only[Bj,An,B6k]at k;rw[g5 t k.2];simp only[SSt.put,Au,k.1,cond_false,k6]
    ·obtain⟨e1,e2⟩:=Nj hC hs hg h;refine A9u hg e1 e2 λv w' ⟨_,G,ρ',X,k2,Y,O,W⟩=>?_;refine Yj hC f rest G K ρ' _ w' X Y λL M A w2 g1 g2 g3 g4 g5=>hK L M A w2 g1 g2 (k2.trans g3) (Grow.trans O g4) λt k=>?_;have hw:Bj (o::rest)=Bj [o]++Bj rest:=by rw[<-Qf];rfl
     rw[hw,I9,B6k]at k;rw[g5 t k.2,W t k.1]
  ·rename_i j b e8;split at h
   ·cases h
   ·rename_i s hj;split at h
    ·rename_i g D p x y i a0 b4;obtain⟨hl,hp⟩:=Ach b4;split at h
     ·cases h
     ·rename_i d hd;have hc:=(bt h).1;replace h:=(bt h).2;simp only[B5l]at hc;obtain⟨⟨⟨b5,S⟩,a1⟩,a8⟩:=hc;have S:An (Bj D) s=false:=by simpa using S
      have b2:p.guard=none:=by unfold isNone at a8;split at a8;assumption;cases a8
      cases a6:D.any λo=>B5w (Cl C [] o) 2 with
      |true=>
       rw[a6]at h;simp only[cond_true]at h;rw[hl]
       have Bp:∀(z:Operand) (I:SSt) (V:List HV) (H:Env) (w1:World),z=(bif g then x else y)->Rc (λv st=>Me C ops f i {st with env:=(d,some (.v (.c (.b v))))::st.env} K) z I=some r->Sat B amb V I H w1->ev H (.tmp s)=some (.bool g)->Ext ρ V->Grow st I->(∀t,An (Bj D) t=false->s≠t->Au I.env t=Au st.env t)->(Au I.env s=Au st.env s)->WL Tryz.prog C.n ops.toArray (p::i) Q H w1:=λz I V H w1 hz h1 b3 c5 d5 c4 c2 c3=>by
        unfold Rc at h1;split at h1
        ·rename_i v hv;refine(QT.wl (Q:=Q)).q trivial hd a1 (λa ha=>by simp[Region.wanted,b2]) (λa ha=>A5y hp hd c5 (by rw[<-hz];exact b3.env.evB hv) ha) λw2 d0=>?_;have d3:=(b3.rel d0).put (sv:=.v (.c (.b v))) (v:=.bool v) rfl d;refine Yj hC f i _ K V _ w2 h1 d3 λL M A w3 X k2 Y O W=>hK L M A w3 X k2 (d5.trans Y) (c4.trans ⟨O.nxt,O.own,O.rds⟩) λt k=>?_;rw[hl,Qf,I9]at k;simp only[Bj,hd,An,B6k]at k;rw[W t k.2.2];simp only[Au,k.2.1,cond_false];by_cases a2:s=t
         ·rw[<-a2];exact c3
         ·exact c2 t k.1 a2
        ·cases h1
       have b1:=A1s a0
       have skp:Ud b (.bool g)=false->Rc (λv st=>Me C ops f i {st with env:=(d,some (.v (.c (.b v))))::st.env} K) (bif g then x else y) {st with env:=Du D st.env}=some r->WL Tryz.prog C.n ops.toArray (D++p::i) Q env w:=λhb h1=>by
        refine Ajd (T:=λl env w=>WL Tryz.prog C.n ops.toArray l Q env w) (good:=λ_=>True) QT.wl hj (λ_ _=>trivial) b5 (λt k=>by cases k) (hs.env.evB a0) hb λw' c9=>?_;have U:Sat B amb ρ {st with env:=Du D st.env} (K6 D env) w':=⟨hs.len,Ajc hs.env,(hs.rel c9).mem⟩;have c8:Au (Du D st.env) s=some (.v (.c (.b g))):=by rw[Pn S];exact b1
        refine Bp _ _ ρ _ w' rfl h1 U ?_ (Ext.refl ρ) ⟨B6i _,λc h _=>⟨c,h,.inl rfl⟩,[],rfl⟩ (λt k _=>Pn k) (Pn S);obtain⟨u,u1,u2⟩:=U.env s _ c8;cases u2;exact u1
       have b0:Ab8 C ops [(j,b)] D {st with env:=(s,some (.v (.c (.b g))))::st.env} (Rc (λv st=>Me C ops f i {st with env:=(d,some (.v (.c (.b v))))::st.env} K) (bif g then x else y))=some r->WL Tryz.prog C.n ops.toArray (D++p::i) Q env w:=λh1=>by
        refine A60 hC D [(j,b)] _ _ ρ env w _ h1 ⟨hs.len,hs.env.lit a0,hs.mem⟩ λI V H w1 X k2 Y O W=>?_;have b6:Au I.env s=some (.v (.c (.b g))):=by rw[W s S];simp[Au]
        refine Bp _ I V H w1 rfl X k2 ?_ Y ⟨O.nxt,O.own,O.rds⟩ (λt k a2=>?_) (by rw[b6,b1])
        ·obtain⟨u,u1,u2⟩:=k2.env s _ b6;cases u2;exact u1
        ·rw[W t k];simp only[Au,Jn a2,cond_false]
       unfold A9r at h;cases g<;>cases b
       ·exact b0 h
       ·exact skp rfl h
       ·exact skp rfl h
       ·exact b0 h
      |false=>
      rw[a6]at h;simp only[cond_false]at h;obtain⟨v,hv,h⟩:=Af h;rw[hl];refine Aub (T:=λl env w=>WL Tryz.prog C.n ops.toArray l Q env w) (good:=λ_=>True) QT.wl hs hj a0 hp hd a1 b5 S (λ_ _=>trivial) trivial (λF he a ha=>by simp[Region.wanted,b2]) hv (λg' z tl hz U c6=>?_) λF w' hr U=>?_
      ·exact Aca (QT.wl (Q:=Q)) (Bym hC) (f+1) [(j,b)] D _ Bool _ v ρ env w tl (λ_ _=>trivial) hz U λG ρ' F w' q1 q2 q3 q4 q5 q6=>c6 G ρ' F w' q1 q2 q3 q5 q6
      ·refine Yj hC f i _ K ρ F w' h U λL M A w2 X k2 Y O W=>hK L M A w2 X k2 Y ⟨O.nxt,O.own,O.rds⟩ λt k=>?_;rw[hl,Qf,I9]at k;simp only[Bj,hd,An,B6k]at k;rw[W t k.2.2];simp only[Au,k.2.1,cond_false];exact Pn k.1
    ·cases h
theorem Bqr{E} o:Cl C E o=0\/Cl C E o=1\/Cl C E o=2:=by
 unfold Cl;split
 ·split
  ·generalize (!(Iy _ C.cons).isEmpty&&(Iy _ C.cons).all λc=>Dl c.ps)=b;cases b<;>simp
  ·simp
 ·simp
 ·split
  ·split
   ·rename_i t _ _;cases I2 t<;>simp
   ·simp
  ·rename_i d _ _;cases An E d<;>simp
  ·simp
 all_goals first
  |simp;done
  |(generalize Aju _=b;cases b<;>simp)
theorem Ab9 (L:COk amb C){E Q}:∀f l st K ρ env w,Pz C E ops f l st K=some r->Sat B amb ρ st env w->
  (∀k ρ' c w',K k=some r->Sat B amb ρ' k c w'->Ext ρ ρ'->Grow st k->(∀t,An (Bj l) t=false->Au k.env t=Au st.env t)->Q .normal c w')->WO Tryz.prog C.n ops.toArray Q (l.map λo=>(o,Cl C E o)) env w
 |0,_,_,_,_,_,_,h,_,_=>by cases h
 |f+1,[],st,K,ρ,env,w,h,hs,hK=>A4u λS O=>hK st ρ env S h (hs.rel O) (Ext.refl ρ) (Grow.refl st) λ_ _=>rfl
 |f+1,o::rest,st,K,ρ,env,w,h,hs,hK=>by
  have hw:Bj (o::rest)=Bj [o]++Bj rest:=by rw[<-Qf];rfl
  unfold Pz at h;split at h
  ·rename_i V;split at h
   ·rename_i t y d1 d2 D hp;obtain⟨ty,c2,pos,a9,af,b2,e⟩:=Bqi hp;have U:=(bt h).1;replace h:=(bt h).2;simp only[B5l]at U;rw[e]at hK⊢;simp only[B6r]
    rw[show Cl C E ⟨some d1,.buildSlice t 0 #[],ty,pos,af,none⟩=1 from rfl,show Cl C E ⟨some d2,.call ⟨.builtin .append,#[.tmp d1,y],#[t,t]⟩,c2,a9,b2,none⟩=1 from by
     show(bif An E d1 then 1 else 2)=1;rw[U.2];rfl]
    refine Bgj hs U.1.1 U.1.2 h λu v w' sv k ρ' k1 k2 k3 I M k6=>?_;refine Ab9 L f D _ K ρ' _ w' k1 (k3.put I d2) λF G i w2 g1 g2 g3 g4 g5=>hK F G i w2 g1 g2 (k2.trans g3) (Grow.trans ⟨M.nxt,M.own,M.rds⟩ ⟨g4.nxt,g4.own,g4.rds⟩) λt A=>?_;simp only[Bj,An,B6k]at A;rw[g5 t A.2.2];simp only[SSt.put,Au,A.2.1,cond_false,k6,A.1]
   cases hk:B5w (Cl C E o) 0 with
   |true=>rw[hk]at h;simp only[cond_true]at h;have b8:=B5k hk;obtain⟨d,sv,v,k,ρ',e1,e2,e3,e4,e5,e6,e7,e8,e9⟩:=Aav L hs h;refine(QT.wo (Q:=Q) (aops:=ops.toArray) (Cl C E)).q (rest:=rest) (by rw[b8];rfl) e1 e2 (λa ha=>by simp[Region.wanted,V]) (λa ha=>e9 C.n a ha) λw' hr=>?_;refine Ab9 L f rest _ K ρ' _ w' e3 ((e5.rel hr).put e6 d) λF G i w2 k1 k2 k3 I M=>hK F G i w2 k1 k2 (e4.trans k3) (Grow.trans e7 ⟨I.nxt,I.own,I.rds⟩) λt A=>?_;simp only[Bj,e1,An,B6k]at A;rw[M t A.2];simp only[SSt.put,Au,A.1,cond_false,e8]
   |false=>
    rw[hk]at h;simp only[cond_false]at h;have hE:=B5k (bt h).1;replace h:=(bt h).2;have go:∀S,Rel w S->∀v w',Next B amb ρ st env (λst=>Pz C E ops f rest st K) r (Bj [o]) o.dst v w'->WO Tryz.prog C.n ops.toArray Q (rest.map λo=>(o,Cl C E o)) (putE o.dst v env) w':=λS O v w' ⟨k,ρ',k1,k2,k3,I,M⟩=>by refine Ab9 L f rest k K ρ' _ w' k1 k3 λF G i w2 g1 g2 g3 g4 g5=>hK F G i w2 g1 g2 (k2.trans g3) (Grow.trans I g4) λt A=>?_;rw[hw,I9,B6k]at A;rw[g5 t A.2,M t A.1]
    simp only[B6r];rcases Bqr (C:=C) (E:=E) o with H|H|H
    ·rw[H]at hk;cases hk
    ·rw[H];refine Auk V (Nj L hs V h).1 λS O=>?_;exact(Nj L (hs.rel O) V h).2.mono λv w' ⟨q1,q2⟩=>⟨q1 (hE▸H),go S O v w' q2⟩
    ·rw[H];refine B4r V (Nj L hs V h).1 λS O=>?_;exact(Nj L (hs.rel O) V h).2.mono λv w' ⟨q1,q2⟩=>go S O v w' q2
  ·rename_i j b d8;split at h
   ·cases h
   ·rename_i s hj;split at h
    ·rename_i g a2 p x y D b6 a8;obtain⟨hl,hp⟩:=Ach a8;split at h
     ·cases h
     ·rename_i d hd;have U:=(bt h).1;replace h:=(bt h).2;simp only[B5l]at U;obtain⟨⟨⟨c1,X⟩,b9⟩,W,a4⟩:=U;have X:An (Bj a2) s=false:=by simpa using X
      have c0:p.guard=none:=by unfold isNone at W;split at W;assumption;cases W
      have a5:∀o∈a2,T7 C E o:=λo ho=>B6b.1 a4 o ho;have b5:T7 C E p:=by obtain⟨pd,f3,_,_,_,_⟩:=p;simp only at hp;subst hp;rfl
      obtain⟨v,hv,h⟩:=Af h;rw[hl];refine Aub (T:=λl env w=>WO Tryz.prog C.n ops.toArray Q (l.map λo=>(o,Cl C E o)) env w) (good:=T7 C E) (QT.wo' E) hs hj b6 hp hd b9 c1 X a5 b5 (λc he a ha=>by simp[Region.wanted,c0]) hv (λg' z tl hz Y b7=>?_) λc w' hr Y=>?_
      ·exact Aca (QT.wo' (Q:=Q) E) (Byk L) (f+1) [(j,b)] a2 _ Bool _ v ρ env w tl a5 hz Y λk ρ' c w' q1 q2 q3 q4 q5 q6=>b7 k ρ' c w' q1 q2 q3 q5 q6
      ·refine Ab9 L f D _ K ρ c w' h Y λF G i w2 k1 k2 k3 I M=>hK F G i w2 k1 k2 k3 ⟨I.nxt,I.own,I.rds⟩ λt A=>?_;rw[hl,Qf,I9]at A;simp only[Bj,hd,An,B6k]at A;rw[M t A.2.2];simp only[Au,A.2.1,cond_false];exact Pn A.1
    ·cases h
theorem A3z{E}:∀ {l:List (Oper×Nat)},Abe C E l=true->l=(Xh l).map λo=>(o,Cl C E o)
 |[],_=>rfl
 |p::r,h=>by simp only[Abe,B5l]at h;simp only[Xh,B6r];rw[<-A3z h.2,<-B5k h.1]
theorem Ark{l}:∀ {a:List (Nat×Nat)},∀o∈Xh (K0 l a),o∈l
 |[],_,h=>by cases h
 |k::a,o,h=>by
  simp only[K0]at h;split at h
  ·rename_i b ho;rcases B5t.1 h with rfl|h
   ·exact B74 ho
   ·exact Ark o h
  ·exact Ark o h
theorem A9x{t o r} (h:An (Bj (o::r)) t=false):o.dst≠some t/\An (Bj r) t=false:=by rw[show Bj (o::r)=Bj [o]++Bj r from Qf (a:=[o]) (b:=r),I9,B6k]at h;refine⟨λe=>?_,h.2⟩;have c:=h.1;simp[Bj,e,An]at c
theorem Vs{t l} (h:An (Bj l) t=false):∀o∈l,o.dst≠some t:=by
 induction l with
 |nil=>intro o ho;cases ho
 |cons b r a=>
  intro o ho;rcases B5t.1 ho with e|ho
  ·rw[e];exact(A9x h).1
  ·exact a (A9x h).2 o ho
theorem Aj6 {t:Nat}:∀ {l:List Oper},(∀o∈l,o.dst≠some t)->An (Bj l) t=false
 |[],_=>rfl
 |o::r,h=>by
  have b:=h o (B5n ..);have a:=Aj6 (l:=r) λo ho=>h o (B5j _ ho);simp only[Bj];split
  ·rename_i d c;simp only[An,a,B8x];exact Jn λe=>b (by rw[c,e])
  ·exact a
theorem Bvp (l:COk amb C){Q id aops K} (c:Region.noSelect aops.toList.toArray=true) (d:Rz aops.toList.toArray (Pv C (Ko aops.toList) aops.toList aops.toList.length (B7c aops.toList.length false)) (B7c aops.toList.length false)=true)
  (h:(bif (B5w (Pv C (Ko aops.toList) aops.toList aops.toList.length (B7c aops.toList.length false)).length aops.toList.length&&(Pv C (Ko aops.toList) aops.toList aops.toList.length (B7c aops.toList.length false)).all λk=>B63 k.1 aops.toList.length)&&Abe C (Ko aops.toList) (K0 aops.toList (Pv C (Ko aops.toList) aops.toList aops.toList.length (B7c aops.toList.length false)))then Pz C (Ko aops.toList) aops.toList (aops.toList.length+1) (Xh (K0 aops.toList (Pv C (Ko aops.toList) aops.toList aops.toList.length (B7c aops.toList.length false)))) st K else none)=some r) (q:Sat B amb ρ st env w)
  (p:∀b ρ' a w',K b=some r->Sat B amb ρ' b a w'->Ext ρ ρ'->Grow st b->(∀t,An (Bj aops.toList) t=false->Au b.env t=Au st.env t)->Q .normal a w'):WC Tryz.prog C.n (.region id aops true) Q env w:=by
 have e:aops=aops.toList.toArray:=by simp
 have j:=(bt h).1;replace h:=(bt h).2;simp only[B5l]at j;obtain⟨⟨f,g⟩,i⟩:=j;rw[e];refine Sq (Pv C (Ko aops.toList) aops.toList aops.toList.length (B7c aops.toList.length false)) Tryz_mixed c f d g ?_;rw[A3z i];exact Ab9 l _ _ st K ρ env w h q λb ρ' a w' u k2 v x y=>p b ρ' a w' u k2 v x λt s=>y t (Aj6 λo ho=>Vs s o (Ark o ho))
end
end
section
open Go.RowKit
section
variable {ρ ρ':List HV} {rs rs':List Rd} {B:Base} {amb:List Rd} {st:SSt} {env:Env} {w:World} {m:List As}
def CIn (rs:List Rd) (c:CT) (l:Leaf) (u:Value) (m:List As):Prop:=match c with
 |.ro _=>m=[]/\∃t L,l=.sl t L/\rV u l.ce∈rs
 |.sha _=>∃t L xs,l=.sl t L/\m=[Bb (sz t) u L.length xs]/\rX xs (L.flatMap (fD t))∈rs
 |_=>m=[oC l.ce u]
def CsIn (rs:List Rd):List CT->List Leaf->List Value->List As->Prop
 |[],ls,us,m=>ls=[]/\us=[]/\m=[]
 |c::cs,ls,us,m=>(c.isNl=true/\∃a,us=.slice none 0 0::a/\CsIn rs cs ls a m)\/(c.isNl=false/\∃l l' u a m1 m2,ls=l::l'/\us=u::a/\m=m1++m2/\CIn rs c l u m1/\CsIn rs cs l' a m2)
def VIn (ρ:List HV) (rs:List Rd) (env:Env) (e:List (Nat×Option SV)):List VK->List Leaf->List As->Prop
 |[],ls,m=>ls=[]/\m=[]
 |.slot s c::r,ls,m=>∃l l' u m1 m2,ls=l::l'/\lk env s=some u/\m=m1++m2/\CIn rs c l u m1/\VIn ρ rs env e r l' m2
 |.inp s _::r,ls,m=>∃h t L l' q m2,ls=.sl t L::l'/\Au e s=some (.v (.c (.sl h)))/\ρ[h]?=some (.row q)/\m=oC (Ac (sz t) (fD t) L) q.v::m2/\VIn ρ rs env e r l' m2
 |.box s k cs::r,ls,m=>∃h b ty a d us m1 m2,ls=a++d/\Abg e s k=some h/\ρ[h]?=some (.box b)/\CsIn rs cs a us m1/\m=A2 b (B8g us) ty::(m1++m2)/\VIn ρ rs env e r d m2
theorem Bq3{e env0} (d:EnvOk ρ e env0){s k h} (a:Abg e s k=some h):∃b,ρ[h]?=some (.box b):=by
 unfold Abg at a;split at a
 ·rename_i g o c;have i:=(bt a).1;replace a:=(bt a).2;cases a;obtain⟨_,_,b,l,_⟩:=d _ _ c;exact⟨b,l⟩
 ·rename_i f caps c;split at a
  ·cases a
  ·rename_i k';split at a
   ·rename_i g o j;have i:=(bt a).1;replace a:=(bt a).2;cases a;obtain⟨_,_,vs,_,k2⟩:=d _ _ c;obtain⟨u,_,b,n,_⟩:=k2.nth j;exact⟨b,n⟩
   ·cases a
 ·cases a
theorem CIn.mono (b:∀r∈rs,r∈rs'){c l u} (h:CIn rs c l u m):CIn rs' c l u m:=by
 cases c with
 |ro t=>exact⟨h.1,by obtain⟨t,L,e,a⟩:=h.2;exact⟨t,L,e,b _ a⟩⟩
 |sha t=>obtain⟨t,L,xs,d,e2,a⟩:=h;exact⟨t,L,xs,d,e2,b _ a⟩
 |_=>exact h
theorem CsIn.mono (a:∀r∈rs,r∈rs'):∀ {cs:List CT} {ls:List Leaf} {us:List Value} {m:List As},CsIn rs cs ls us m->CsIn rs' cs ls us m
 |[],_,_,_,h=>h
 |_::_,_,_,_,.inl ⟨h0,u',e,h⟩=>.inl ⟨h0,u',e,CsIn.mono a h⟩
 |_::_,_,_,_,.inr ⟨h0,l,l',u,u',m1,m2,e1,e2,e3,h1,h2⟩=>.inr ⟨h0,l,l',u,u',m1,m2,e1,e2,e3,h1.mono a,CsIn.mono a h2⟩
theorem CsIn.len:∀ {cs:List CT} {ls:List Leaf} {us:List Value} {m:List As},CsIn rs cs ls us m->ls.length=(Om cs).length
 |[],_,_,_,h=>by rw[h.1];rfl
 |_::_,_,_,_,.inl ⟨h0,u',e,h⟩=>by simp only[Om,h0,cond_true];exact CsIn.len h
 |_::_,_,_,_,.inr ⟨h0,l,l',u,u',m1,m2,e1,e2,e3,h1,h2⟩=>by rw[e1];simp[Om,h0,CsIn.len h2]
theorem VIn.mono (hx:Ext ρ ρ') (a:∀r∈rs,r∈rs'){e}:∀ {v:List VK} {ls:List Leaf} {m:List As},VIn ρ rs env e v ls m->VIn ρ' rs' env e v ls m
 |[],_,_,h=>h
 |.slot _ _::_,_,_,⟨l,l',u,m1,m2,e1,e2,e3,h1,h2⟩=>⟨l,l',u,m1,m2,e1,e2,e3,h1.mono a,VIn.mono hx a h2⟩
 |.inp _ _::_,_,_,⟨h,t,L,l',q,m2,e1,e2,e3,e4,h2⟩=>⟨h,t,L,l',q,m2,e1,e2,hx.get e3,e4,VIn.mono hx a h2⟩
 |.box _ _ _::_,_,_,⟨h,b,ty,l1,l2,us,m1,m2,e1,e2,e3,h1,e4,h2⟩=>⟨h,b,ty,l1,l2,us,m1,m2,e1,e2,hx.get e3,h1.mono a,e4,VIn.mono hx a h2⟩
theorem VIn.back (hx:Ext ρ ρ'){e env0} (a:EnvOk ρ e env0):∀ {v:List VK} {ls:List Leaf} {m:List As},VIn ρ' rs env e v ls m->VIn ρ rs env e v ls m
 |[],_,_,h=>h
 |.slot _ _::_,_,_,⟨l,l',u,m1,m2,e1,e2,e3,h1,h2⟩=>⟨l,l',u,m1,m2,e1,e2,e3,h1,VIn.back hx a h2⟩
 |.inp _ _::_,_,_,⟨h,t,L,l',q,m2,e1,e2,e3,e4,h2⟩=>⟨h,t,L,l',q,m2,e1,e2,by
   obtain⟨_,_,d,c,_⟩:=a _ _ e2;exact hx.back e3 c,e4,VIn.back hx a h2⟩
 |.box _ _ _::_,_,_,⟨h,b,ty,l1,l2,us,m1,m2,e1,e2,e3,h1,e4,h2⟩=>⟨h,b,ty,l1,l2,us,m1,m2,e1,e2,by
   obtain⟨d,c⟩:=Bq3 a e2;exact hx.back e3 c,h1,e4,VIn.back hx a h2⟩
theorem VIn.inEnv{env' e}:∀ {v:List VK} {ls:List Leaf} {m:List As},VIn ρ rs env e v ls m->(∀t,An (Bd v) t=true->lk env' t=lk env t)->VIn ρ rs env' e v ls m
 |[],_,_,h,_=>h
 |.slot s _::_,_,_,⟨l,l',u,m1,m2,e1,e2,e3,h1,h2⟩,he=>⟨l,l',u,m1,m2,e1,by rw[he s (by simp[Bd,An]),e2],e3,h1,VIn.inEnv h2 λt a=>he t (by simp[Bd,An,a])⟩
 |.inp _ _::_,_,_,⟨h,t,L,l',q,m2,e1,e2,e3,e4,h2⟩,he=>⟨h,t,L,l',q,m2,e1,e2,e3,e4,VIn.inEnv h2 λt a=>he t a⟩
 |.box _ _ _::_,_,_,⟨h,b,ty,l1,l2,us,m1,m2,e1,e2,e3,h1,e4,h2⟩,he=>⟨h,b,ty,l1,l2,us,m1,m2,e1,e2,e3,h1,e4,VIn.inEnv h2 λt a=>he t a⟩
theorem Z.appL{a b c} (h:Z w a b):Z w (c++a) (c++b):=(Z.perm B56).trans ((Z.app h).trans (Z.perm B56))
theorem A1v{c x p u mm} (h:T4 c x st=some p) (k:x.Den ρ u) (d:OwnOk ρ rs st.own m) (C:RdsOk ρ st.rds rs) (e:St B (mm++m) rs w):
  ∃m1 m2 rs',(∀r∈rs,r∈rs')/\CIn rs' c p.1 u m1/\OwnOk ρ rs' p.2.own m2/\St B (mm++(m1++m2)) rs' w/\OwnLe st.own p.2.own/\p.2= {st with own:=p.2.own}:=by
 have a:∀r:Rd,∀F∈rs,F∈r::rs:=λ_ _ h=>B5j _ h;cases c with
 |sc n=>simp only[T4,B5s]at h;obtain⟨l,o,rfl⟩:=h;exact⟨_,m,rs,λ_ h=>h,rfl,d,e.z (zP (Ai6 o k).2 zI).appL,OwnLe.refl _,rfl⟩
 |row t=>simp only[T4,B5s]at h;obtain⟨z,o,rfl⟩:=h;obtain⟨f,m',b,k2⟩:=Arm o k d;exact⟨_,m',rs,λ_ h=>h,rfl,b,e.z (k2 w).appL,f,rfl⟩
 |ro t=>
  simp only[T4]at h;split at h
  ·cases h;cases k;exact⟨[],m,_,a _,⟨rfl,_,_,rfl,B5n ..⟩,OwnOk.mono (Ext.refl ρ) (a _) d,e.nilR _ _,OwnLe.refl _,rfl⟩
  ·obtain⟨s,s1,rfl⟩:=k;split at h
   ·rename_i q i;cases h;obtain⟨f,s',m',b,k2,j⟩:=Md i d;rw[s1]at b;cases b;exact⟨[],m',_,a _,⟨rfl,_,_,rfl,B5n ..⟩,OwnOk.mono (Ext.refl ρ) (a _) k2,((e.z (j w).appL).z (Z.perm B5u)).selO,f,rfl⟩
   ·split at h
    ·rename_i q i;cases h;obtain⟨f,s',xs,m',b,k2,j,y⟩:=P7 i d;rw[s1]at b;cases b;have g:=((e.z (j w).appL).z (Z.perm B5u)).sealS (C3 q.1.t) y;exact⟨[],m',_,a _,⟨rfl,_,_,rfl,B5n ..⟩,OwnOk.mono (Ext.refl ρ) (a _) k2,g,f,rfl⟩
    ·simp only[B5s]at h;obtain⟨L,o,rfl⟩:=h;obtain⟨v,H,I,K⟩:=Pd o;obtain⟨r,G,q,A,D⟩:=C v H;subst K D;rw[I,s1]at A;cases A;exact⟨[],m,rs,λ_ h=>h,⟨rfl,_,_,rfl,G⟩,d,e,OwnLe.refl _,rfl⟩
  ·cases h
 |sha t=>
  simp only[T4]at h;split at h
  ·cases h;cases k;refine⟨[Bb (sz t) (.slice none 0 0) ([]:List (Bi t)).length []],m,_,a _,⟨t,[],[],rfl,rfl,B5n ..⟩,OwnOk.mono (Ext.refl ρ) (a _) d,?_,OwnLe.refl _,rfl⟩;exact(e.nilS (sz t) (fD t)).perm B5u.symm
  ·obtain⟨s,s1,rfl⟩:=k;split at h
   ·rename_i q i;cases h;obtain⟨f,s',xs,m',b,k2,j,y⟩:=P7 i d;rw[s1]at b;cases b;exact⟨_,m',rs,λ_ h=>h,⟨_,_,xs,rfl,rfl,y⟩,k2,e.z (j w).appL,f,rfl⟩
   ·simp only[B5s]at h;obtain⟨q,i,rfl⟩:=h;obtain⟨f,s',m',b,k2,j⟩:=Md i d;rw[s1]at b;cases b;obtain⟨xs,g⟩:=((e.z (j w).appL).z (Z.perm B5u)).toS;exact⟨_,m',_,a _,⟨_,_,xs,rfl,rfl,B5n ..⟩,OwnOk.mono (Ext.refl ρ) (a _) k2,g.perm B5u.symm,f,rfl⟩
  ·cases h
 |nl=>cases h
theorem SSt.eta {a b:SSt} (c:b.env=a.env) (d:b.rds=a.rds) (e:b.nxt=a.nxt):b= {a with own:=b.own}:=by cases a;cases b;simp only at c d e;subst c d e;rfl
theorem Ao2:∀ {cs:List CT} {xs:List Cell} {st:SSt} {p:List Leaf×SSt} {us:List Value} {mm m:List As} {rs:List Rd},Aax cs xs st=some p->All2 (Cell.Den ρ) xs us->OwnOk ρ rs st.own m->RdsOk ρ st.rds rs->St B (mm++m) rs w->
  ∃m1 m2 rs',(∀r∈rs,r∈rs')/\CsIn rs' cs p.1 us m1/\OwnOk ρ rs' p.2.own m2/\St B (mm++(m1++m2)) rs' w/\OwnLe st.own p.2.own/\p.2= {st with own:=p.2.own}
 |[],[],st,p,[],mm,m,rs,h,_,h1,_,hM=>by cases h;exact⟨[],m,rs,λ_ h=>h,⟨rfl,rfl,rfl⟩,h1,hM,OwnLe.refl _,rfl⟩
 |c::cs,x::xs,st,p,u::us,mm,m,rs,h,⟨d1,d2⟩,h1,h2,hM=>by
  unfold Aax at h;cases e:c.isNl with
  |true=>
   rw[e]at h;simp only[cond_true]at h;split at h
   ·cases d1;obtain⟨m1,m2,rs1,b,f,g,d,i,a⟩:=Ao2 h d2 h1 h2 hM;exact⟨m1,m2,rs1,b,.inl ⟨e,us,rfl,f⟩,g,d,i,a⟩
   ·cases h
  |false=>
  rw[e]at h;simp only[cond_false]at h;obtain⟨q,C,D⟩:=Af h;obtain⟨z,F,G⟩:=Af D;cases G;obtain⟨m1,m2,rs1,b,f,g,d,i,a⟩:=A1v C d1 h1 h2 hM;rw[<-B5r]at d;have k:RdsOk ρ q.2.rds rs1:=by rw[a];exact h2.mono (Ext.refl ρ) b
  obtain⟨m3,m4,l,n,o,s,t,v,j⟩:=Ao2 F d2 g k d;refine⟨m1++m3,m4,l,λr H=>n r (b r H),.inr ⟨e,_,_,_,_,m1,m3,rfl,rfl,rfl,f.mono n,o⟩,s,by simpa [B5r]using t,i.trans v,?_⟩;have y:z.2.env=st.env:=by rw[j,a]
  have e2:z.2.rds=st.rds:=by rw[j,a]
  have A:z.2.nxt=st.nxt:=by rw[j,a]
  exact SSt.eta y e2 A
 |[],[],_,_,_::_,_,_,_,_,h,_,_,_=>h.elim
 |[],_::_,_,_,_,_,_,_,h,_,_,_,_=>by cases h
 |_::_,[],_,_,_,_,_,_,h,_,_,_,_=>by cases h
 |_::_,_::_,_,_,[],_,_,_,_,h,_,_,_=>h.elim
theorem Aay{e}:∀ {v:List VK} {st:SSt} {p:List Leaf×SSt} {mm m:List As} {rs:List Rd},Ib e v st=some p->EnvOk ρ st.env env->OwnOk ρ rs st.own m->RdsOk ρ st.rds rs->St B (mm++m) rs w->
  ∃m1 m2 rs',(∀r∈rs,r∈rs')/\VIn ρ rs' env e v p.1 m1/\OwnOk ρ rs' p.2.own m2/\St B (mm++(m1++m2)) rs' w/\OwnLe st.own p.2.own/\p.2= {st with own:=p.2.own}
 |[],st,p,mm,m,rs,h,_,h1,_,hM=>by cases h;exact⟨[],m,rs,λ_ h=>h,⟨rfl,rfl⟩,h1,hM,OwnLe.refl _,rfl⟩
 |.slot s c::r,st,p,mm,m,rs,h,he,h1,h2,hM=>by
  unfold Ib at h;split at h
  ·rename_i x hx;obtain⟨u,u1,u2⟩:=he _ _ hx;obtain⟨q,D,F⟩:=Af h;obtain⟨z,G,H⟩:=Af F;cases H;obtain⟨m1,m2,rs1,R,V,W,S,X,o⟩:=A1v D u2 h1 h2 hM;rw[<-B5r]at S;have l:RdsOk ρ q.2.rds rs1:=by rw[o];exact h2.mono (Ext.refl ρ) R
   have j:EnvOk ρ q.2.env env:=by rw[o];exact he
   obtain⟨m3,m4,d,f,y,A,n,C,a⟩:=Aay G j W l S;refine⟨m1++m3,m4,d,λr M=>f r (R r M),⟨_,_,u,m1,m3,rfl,u1,rfl,V.mono f,y⟩,A,by simpa [B5r]using n,X.trans C,?_⟩;exact SSt.eta (by rw[a,o]) (by rw[a,o]) (by rw[a,o])
  ·cases h
 |.inp s t::r,st,p,mm,m,rs,h,he,h1,h2,hM=>by
  unfold Ib at h;split at h
  ·rename_i K hx;obtain⟨q,D,F⟩:=Af h;obtain⟨z,G,H⟩:=Af F;cases H;obtain⟨P,s',m',N,k2,O⟩:=Md D h1;have i:St B ((mm++[oC (Ac (sz q.1.t) (fD q.1.t) q.1.L) s'.v])++m') rs w:=by simpa [B5r]using hM.z (O w).appL
   obtain⟨m3,m4,d,f,y,A,n,C,a⟩:=Aay (st:= {st with own:=q.2}) G he k2 h2 i;refine⟨_::m3,m4,d,f,⟨K,_,_,_,s',m3,rfl,hx,N,rfl,y⟩,A,by simpa [B5r]using n,P.trans C,?_⟩;exact SSt.eta (by rw[a]) (by rw[a]) (by rw[a])
  ·cases h
 |.box s k cs::r,st,p,mm,m,rs,h,he,h1,h2,hM=>by
  unfold Ib at h;split at h
  ·rename_i K hx;obtain⟨q,D,F⟩:=Af h;obtain⟨U,G,H⟩:=Af F;obtain⟨z,h7,h8⟩:=Af H;cases h8;obtain⟨g,hq⟩:=Ay3 D;obtain⟨P,_,b,ty,vs,m',N,k2,O,k4⟩:=O8 hq h1;have i:St B ((mm++[A2 b vs.toArray ty])++m') rs w:=by simpa [B5r]using hM.z (k4 w).appL
   obtain⟨m3,m4,d,f,y,A,n,C,a⟩:=Ao2 (st:= {st with own:=q.2}) G k2 O h2 i;rw[<-B5r]at n;have l:RdsOk ρ U.2.rds d:=by rw[a];exact h2.mono (Ext.refl ρ) f
   have j:EnvOk ρ U.2.env env:=by rw[a];exact he
   obtain⟨m5,m6,Q,T,Y,c3,c4,c5,I⟩:=Aay h7 j A l n;refine⟨A2 b vs.toArray ty::(m3++m5),m6,Q,λr M=>T r (f r M),⟨K,b,ty,_,_,vs,m3,m5,rfl,hx,N,y.mono T,rfl,Y⟩,c3,by simpa [B5r]using c4,P.trans (C.trans c5),?_⟩;exact SSt.eta (by rw[I,a]) (by rw[I,a]) (by rw[I,a])
  ·cases h
end
end
section
open Go.RowKit
section
variable {ρ ρ':List HV} {rs rs':List Rd} {B:Base} {amb:List Rd} {st:SSt} {env:Env} {w:World} {m:List As}
theorem St.swp{a b c} (h:St B ((a++b)++c) rs w):St B (b++(a++c)) rs w:=by have:=h.perm ((B56 (l₁:=a) (l₂:=b)).append_right c);simpa [B5r]using this
theorem EnvOk.set{se} (h:EnvOk ρ se env){s u sv} (hu:lk env s=some u) (c:sv.Den ρ u):EnvOk ρ ((s,some sv)::se) env:=λt x a=>by
 simp only[Au]at a;cases b:B5w s t with
 |true=>rw[b]at a;cases a;cases B5k b;exact⟨u,hu,c⟩
 |false=>rw[b]at a;exact h t x a
structure PutSt (st st':SSt):Prop where
 grow:Grow st st'
 own:∀c∈st.own,c∈st'.own
theorem PutSt.refl st:PutSt st st:=⟨Grow.refl st,λ_ h=>h⟩
theorem PutSt.trans{a b c} (h:PutSt a b) (k:PutSt b c):PutSt a c:=⟨h.grow.trans k.grow,λx hx=>k.own x (h.own x hx)⟩
theorem PutSt.one{a} c (b:a.nxt<=Ew c):PutSt a {a with own:=c::a.own,nxt:=a.nxt+1}:=⟨⟨B8b _,λc' h d=>by
 rcases B5t.1 h with rfl|h
 ·omega
 ·exact⟨c',h,.inl rfl⟩,[],rfl⟩,λ_ h=>B5j _ h⟩
theorem PutSt.setE{a b} (h:PutSt a b) e:PutSt a {b with env:=e}:=⟨⟨h.grow.nxt,h.grow.own,h.grow.rds⟩,h.own⟩
theorem A1l{c l u mm m1} (g:CIn rs c l u m1) (j:ρ.length=st.nxt) (o:OwnOk ρ rs st.own m) (p:RdsOk ρ st.rds rs) (k:St B (mm++(m1++m)) rs w):
  ∃ρ' m',Ext ρ ρ'/\ρ'.length=(Cx c l st).2.nxt/\OwnOk ρ' rs (Cx c l st).2.own m'/\RdsOk ρ' (Cx c l st).2.rds rs/\St B (mm++m') rs w/\(Cx c l st).1.Den ρ' u/\PutSt st (Cx c l st).2/\(Cx c l st).2.env=st.env:=by
 have own:∀(l:Leaf),CIn rs (.row (.b 0)) l u m1->∃ρ' m',Ext ρ ρ'/\ρ'.length=(Cx (.row (.b 0)) l st).2.nxt/\OwnOk ρ' rs (Cx (.row (.b 0)) l st).2.own m'/\RdsOk ρ' (Cx (.row (.b 0)) l st).2.rds rs/\St B (mm++m') rs w/\(Cx (.row (.b 0)) l st).1.Den ρ' u/\PutSt st (Cx (.row (.b 0)) l st).2/\(Cx (.row (.b 0)) l st).2.env=st.env:=λl g=>by
  have D:m1=[oC l.ce u]:=g;subst D;have f:St B (oC l.ce u::(mm++m)) rs w:=k.perm B5u;have sc:∀(y:Cell) (v:Value) (H:v.oneCell'=true),l.ce=cV v H->(∀ρ,y.Den ρ v)->Cx (.row (.b 0)) l st=(y,st)->∃ρ' m',Ext ρ ρ'/\ρ'.length=(Cx (.row (.b 0)) l st).2.nxt/\OwnOk ρ' rs (Cx (.row (.b 0)) l st).2.own m'/\RdsOk ρ' (Cx (.row (.b 0)) l st).2.rds rs/\St B (mm++m') rs w/\(Cx (.row (.b 0)) l st).1.Den ρ' u/\PutSt st (Cx (.row (.b 0)) l st).2/\(Cx (.row (.b 0)) l st).2.env=st.env:=λy v H M N e=>by rw[M]at f;obtain⟨rfl,d⟩:=f.valV;rw[e];exact⟨ρ,m,Ext.refl ρ,j,o,p,d,N ρ,PutSt.refl st,rfl⟩
  cases l with
  |i y=>exact sc (.i .i64 y) _ rfl rfl (λ_=>rfl) rfl
  |b y=>exact sc (.b y) _ rfl rfl (λ_=>rfl) rfl
  |s y=>exact sc (.s y) _ rfl rfl (λ_=>rfl) rfl
  |y y=>exact sc (.y y) _ rfl rfl (λ_=>rfl) rfl
  |sl t L=>obtain⟨s,rfl,d⟩:=f.valS;have hx:=Ext.one ρ (.row s);have a:=Dp ρ (.row s);rw[j]at a;have C:St B (mm++(oV (oC (Ac (sz t) (fD t) L) s.v) []::m)) rs w:=(d.z Z.toV).perm B5u.symm;exact⟨ρ++[.row s],oV (oC (Ac (sz t) (fD t) L) s.v) []::m,hx,by simp[Cx,j],⟨⟨s,[],a,rfl,rfl⟩,OwnOk.mono hx (λ_ h=>h) o⟩,p.mono hx λ_ h=>h,C,⟨s,a,rfl⟩,PutSt.one _ (B6i _),rfl⟩
 cases c with
 |ro t=>
  obtain⟨rfl,I,L,rfl,q⟩:=g;obtain⟨s,e⟩:=Cs.sv (k.seeR q);subst e;have hx:=Ext.one ρ (.row s);have a:=Dp ρ (.row s);rw[j]at a;refine⟨ρ++[.row s],m,hx,by simp[Cx,j],OwnOk.mono hx (λ_ h=>h) o,λx G=>?_,k,⟨s,a,rfl⟩,⟨⟨B8b _,λc' h _=>⟨c',h,.inl rfl⟩,[_],rfl⟩,λ_ h=>h⟩,rfl⟩;rcases B5t.1 G with rfl|G
  ·exact⟨_,q,s,a,rfl⟩
  ·obtain⟨r,O,P⟩:=p x G;exact⟨r,O,P.mono hx⟩
 |sha t=>
  obtain⟨I,L,xs,rfl,rfl,q⟩:=g
  obtain⟨s,e⟩:∃s:Sv,u=s.v:=by
   obtain⟨F,_,_,K⟩:=k.at' (B54 _ (B6f _ (B5n ..)));rcases K with⟨A,_⟩|⟨b,off,cap,_,_,_,A,_⟩
   ·exact⟨nS,A⟩
   ·exact⟨⟨some ⟨b,off,none⟩,L.length,cap⟩,A⟩
  subst e;have hx:=Ext.one ρ (.row s);have a:=Dp ρ (.row s);rw[j]at a;exact⟨ρ++[.row s],Bb (sz I) s.v L.length xs::m,hx,by simp[Cx,j],⟨⟨s,xs,a,rfl,q⟩,OwnOk.mono hx (λ_ h=>h) o⟩,p.mono hx λ_ h=>h,k,⟨s,a,rfl⟩,PutSt.one _ (B6i _),rfl⟩
 |sc n=>
  have e:Cx (.sc n) l st=Cx (.row (.b 0)) l st:=by cases l<;>rfl
  rw[e];exact own l g
 |nl=>
  have e:Cx .nl l st=Cx (.row (.b 0)) l st:=by cases l<;>rfl
  rw[e];exact own l g
 |row t=>
  have e:Cx (.row t) l st=Cx (.row (.b 0)) l st:=by cases l<;>rfl
  rw[e];exact own l g
theorem Aow:∀ {cs:List CT} {ls:List Leaf} {us:List Value} {st:SSt} {ρ:List HV} {mm m1 m:List As},CsIn rs cs ls us m1->ρ.length=st.nxt->OwnOk ρ rs st.own m->RdsOk ρ st.rds rs->St B (mm++(m1++m)) rs w->
  ∃ρ' m',Ext ρ ρ'/\ρ'.length=(D2 cs ls st).2.nxt/\OwnOk ρ' rs (D2 cs ls st).2.own m'/\RdsOk ρ' (D2 cs ls st).2.rds rs/\St B (mm++m') rs w/\All2 (Cell.Den ρ') (D2 cs ls st).1 us/\PutSt st (D2 cs ls st).2/\(D2 cs ls st).2.env=st.env
 |[],_,_,st,ρ,mm,_,m,⟨rfl,rfl,rfl⟩,hn,h1,h2,hM=>⟨ρ,m,Ext.refl ρ,hn,h1,h2,hM,trivial,PutSt.refl st,rfl⟩
 |c::cs,ls,_,st,ρ,mm,m1,m,.inl ⟨h0,u',rfl,hcs⟩,hn,h1,h2,hM=>by
  obtain⟨a,m4,b,d,f,g,h,i,j,k⟩:=Aow hcs hn h1 h2 hM;have e:D2 (c::cs) ls st=(.nil::(D2 cs ls st).1,(D2 cs ls st).2):=by simp only[D2,h0,cond_true]
  rw[e];exact⟨a,m4,b,d,f,g,h,⟨rfl,i⟩,j,k⟩
 |c::cs,_,_,st,ρ,mm,_,m,.inr ⟨h0,l,l',u,u',m1,m2,rfl,rfl,rfl,hc,hcs⟩,hn,h1,h2,hM=>by
  have e:D2 (c::cs) (l::l') st=((Cx c l st).1::(D2 cs l' (Cx c l st).2).1,(D2 cs l' (Cx c l st).2).2):=by simp only[D2,h0,cond_false]
  rw[e]
  have n:St B ((mm++m2)++(m1++m)) rs w:=hM.perm (by
   rw[B5r mm m2];exact List.Perm.append_left mm (by simpa [B5r]using (B56 (l₁:=m1) (l₂:=m2)).append_right m))
  obtain⟨y,m3,p,q,r,s,o,t,v,x⟩:=A1l hc hn h1 h2 n;rw[B5r]at o;obtain⟨a,m4,b,d,f,g,h,i,j,k⟩:=Aow hcs q r s o;exact⟨a,m4,p.trans b,d,f,g,h,⟨t.mono b,i⟩,v.trans j,k.trans x⟩
theorem Agb{e}:∀ {v:List VK} {ls:List Leaf} {st:SSt} {ρ:List HV} {m1 m:List As},VIn ρ rs env e v ls m1->EnvOk ρ st.env env->ρ.length=st.nxt->OwnOk ρ rs st.own m->RdsOk ρ st.rds rs->(∀r∈amb,r∈rs)->St B (m1++m) rs w->
  ∃ρ',Ext ρ ρ'/\Sat B amb ρ' (Gw e v ls st) env w/\PutSt st (Gw e v ls st)/\∀t,An (Bd v) t=false->Au (Gw e v ls st).env t=Au st.env t
 |[],ls,st,ρ,_,m,⟨H,e2⟩,he,hn,h1,h2,h3,hM=>by subst H e2;exact⟨ρ,Ext.refl ρ,⟨hn,he,m,rs,h1,h2,h3,hM⟩,PutSt.refl st,λ_ _=>rfl⟩
 |.slot s c::r,_,st,ρ,_,m,⟨l,l',u,m1,m2,rfl,hu,rfl,hc,hr⟩,he,hn,h1,h2,h3,hM=>by obtain⟨i,m3,d,y,A,C,D,F,G,j⟩:=A1l hc hn h1 h2 hM.swp;have M:EnvOk i ((Cx c l st).2.put s (.v (.c (Cx c l st).1))).env env:=EnvOk.set (by rw[j];exact he.mono d) hu F;obtain⟨a,n,o,p,x⟩:=Agb (st:=(Cx c l st).2.put s (.v (.c (Cx c l st).1))) (hr.mono d λ_ h=>h) M y A C h3 D;refine⟨a,d.trans n,o,(G.setE _).trans p,λt g=>?_⟩;simp only[Bd,An,B6k]at g;show Au (Gw e r l' _).env t=_;rw[x t g.2];show(bif B5w s t then _ else Au (Cx c l st).2.env t)=_;rw[g.1,j];rfl
 |.inp s t::r,_,st,ρ,_,m,⟨h,t',L,l',q,m2,rfl,hs,hq,rfl,hr⟩,he,hn,h1,h2,h3,hM=>by
  have hx:=Ext.one ρ (.num 0);have f:St B (m2++(oV (oC (Ac (sz t') (fD t') L) q.v) []::m)) rs w:=(hM.z Z.toV).perm B5u.symm;obtain⟨a,n,o,p,x⟩:=Agb (e:=e) (v:=r) (ls:=l') (st:= {st with own:=.row h st.nxt t' L []::st.own,nxt:=st.nxt+1}) (m:=_::m) (hr.mono hx λ_ h=>h) (he.mono hx) (by simp[hn]) ⟨⟨q,[],hx.get hq,rfl,rfl⟩,OwnOk.mono hx (λ_ h=>h) h1⟩ (h2.mono hx λ_ h=>h) h3 f;have I:Gw e (.inp s t::r) (.sl t' L::l') st=Gw e r l' {st with own:=.row h st.nxt t' L []::st.own,nxt:=st.nxt+1}:=by simp only[Gw,hs]
  rw[I];exact⟨a,hx.trans n,o,PutSt.trans (PutSt.one _ (B6i _)) p,λt g=>x t g⟩
 |.box s k cs::r,_,st,ρ,_,m,⟨h,b,ty,l1,l2,us,m1,m2,rfl,hs,hb,hc,rfl,hr⟩,he,hn,h1,h2,h3,hM=>by
  have K:St B ((A2 b us.toArray ty::m2)++(m1++m)) rs w:=by
   have:=hM.perm (m:=A2 b us.toArray ty::(m1++m2)++m) (m':=(A2 b us.toArray ty::m2)++(m1++m)) (by
    simp only[B6a];exact List.Perm.cons _ (by simpa [B5r]using (B56 (l₁:=m1) (l₂:=m2)).append_right m))
   exact this
  obtain⟨i,m3,d,y,A,C,D,F,G,j⟩:=Aow hc hn h1 h2 K;have hx:=Ext.one i (.num 0);have f:St B (m2++(A2 b us.toArray ty::m3)) rs w:=D.perm B5u.symm;obtain⟨a,n,o,p,x⟩:=Agb (e:=e) (v:=r) (ls:=l2) (st:= {(D2 cs l1 st).2 with own:=.box h (D2 cs l1 st).2.nxt (D2 cs l1 st).1::(D2 cs l1 st).2.own,nxt:=(D2 cs l1 st).2.nxt+1}) (m:=_::m3) (hr.mono (d.trans hx) λ_ h=>h) (by show EnvOk _ (D2 cs l1 st).2.env env;rw[j];exact he.mono (d.trans hx)) (by simp[y]) ⟨⟨b,ty,us,(d.trans hx).get hb,F.mono λ_ _=>Cell.Den.mono hx,rfl⟩,OwnOk.mono hx (λ_ h=>h) A⟩ (C.mono hx λ_ h=>h) h3 f;have H:(l1++l2).take (Om cs).length=l1:=by rw[<-hc.len];simp
  have e2:(l1++l2).drop (Om cs).length=l2:=by rw[<-hc.len];simp
  have I:Gw e (.box s k cs::r) (l1++l2) st=Gw e r l2 {(D2 cs l1 st).2 with own:=.box h (D2 cs l1 st).2.nxt (D2 cs l1 st).1::(D2 cs l1 st).2.own,nxt:=(D2 cs l1 st).2.nxt+1}:=by simp only[Gw,hs,H,e2]
  rw[I];refine⟨a,d.trans (hx.trans n),o,G.trans (PutSt.trans (PutSt.one _ (B6i _)) p),λt g=>?_⟩;rw[x t g];show Au (D2 cs l1 st).2.env t=_;rw[j]
theorem ViewsAre.tail{s t L}:∀ {ex vs:List View} {l:List Vi},ViewsAre ρ s t L (ex++vs) l->∃c d,l=c++d/\ViewsAre ρ s t L vs d
 |[],_,l,h=>⟨[],l,rfl,h⟩
 |_::ex,vs,l,⟨c,d,e,_,h⟩=>by obtain⟨a,b,f,g⟩:=ViewsAre.tail (ex:=ex) h;exact⟨c++a,b,by rw[e,f,B5r],g⟩
theorem ViewsAre.back (hx:Ext ρ ρ'){s t L}:∀ {vs:List View} {l a:List Vi},ViewsAre ρ' s t L vs l->ViewsAre ρ s t L vs a->ViewsAre ρ s t L vs l
 |[],_,_,h,_=>h
 |_::_,_,_,⟨l1,l2,e,⟨s',ex,h1,h2⟩,h3⟩,⟨_,_,_,⟨_,_,k1,_⟩,k3⟩=>⟨l1,l2,e,⟨s',ex,hx.back h1 k1,h2⟩,ViewsAre.back hx h3 k3⟩
theorem Chunk.Is.back (hx:Ext ρ ρ') {c:Chunk}{z z0 rs0} (h:c.Is ρ' rs z) (p:c.Is ρ rs0 z0):c.Is ρ rs z:=by
 cases c with
 |box k g cs=>obtain⟨b,e,vs,f,l,n⟩:=h;obtain⟨C,D,y,d,k2,_⟩:=p;exact⟨b,e,vs,hx.back f d,l.back (λ_ _ _ a c=>a.back hx c) k2,n⟩
 |row k g t L vs=>obtain⟨q,v,f,l,n⟩:=h;obtain⟨s,x,d,k2,_⟩:=p;have r:=hx.back f d;rw[d]at r;cases r;exact⟨q,v,d,l.back hx k2,n⟩
 |sha k g t L=>obtain⟨q,xs,f,l,n⟩:=h;obtain⟨s,A,d,_,_⟩:=p;exact⟨q,xs,hx.back f d,l,n⟩
 |hol k g t L i j o=>obtain⟨q,u,f,l,n⟩:=h;obtain⟨s,_,d,k2,_⟩:=p;exact⟨q,u,hx.back f d,hx.back l k2,n⟩
 |rem k g t L i=>obtain⟨q,f,l⟩:=h;obtain⟨s,d,_⟩:=p;exact⟨q,hx.back f d,l⟩
theorem View.Rd.back (hx:Ext ρ ρ') {x:View}{r r0} (h:x.Rd ρ' r) (a:x.Rd ρ r0):x.Rd ρ r:=by obtain⟨q,b,c⟩:=h;obtain⟨e,d,_⟩:=a;exact⟨q,hx.back b d,c⟩
theorem RdsOk.back (hx:Ext ρ ρ'){rds rs0} (h:RdsOk ρ' rds rs) (b:RdsOk ρ rds rs0):RdsOk ρ rds rs:=λx a=>by obtain⟨r,c,d⟩:=h x a;obtain⟨e,_,k2⟩:=b x a;exact⟨r,c,View.Rd.back hx d k2⟩
theorem Z.fewV{o v1 b}:Z w [oV o (v1++b)] [oV o b]:=λF i=>by obtain⟨d,F1,c,a,e,f,g,h⟩:=i;exact⟨d,F1,c,⟨a.1,λx hx=>a.2 x (B54 _ hx)⟩,e,f,g,h⟩
theorem Chunk.Le.back (hx:Ext ρ ρ') {a b:Chunk} (n:a.Le b){z z0 rs0} (h:b.Is ρ' rs z) (c:a.Is ρ rs0 z0):∃e,a.Is ρ rs e/\∀w,Z w [z] [e]:=by
 rcases n with rfl|⟨k,g,t,L,vs,ex,rfl,rfl⟩
 ·exact⟨z,h.back hx c,λw=>zI⟩
 ·obtain⟨q,p,i,j,rfl⟩:=h;obtain⟨o,d,rfl,l⟩:=j.tail;have f:(Chunk.row k g t L vs).Is ρ' rs (oV (oC (Ac (sz t) (fD t) L) q.v) d):=⟨q,d,i,l,rfl⟩;exact⟨_,f.back hx c,λw=>Z.fewV⟩
theorem Ajp (hx:Ext ρ ρ'):∀ {own base:List Chunk} {m m0:List As} {d:List Rd},J7 base own=true->OwnOk ρ' rs own m->OwnOk ρ d base m0->(∀a∈base,∀b∈own,Ew a=Ew b->a.Le b)->∃m',OwnOk ρ rs base m'/\∀w,Z w m m'
 |own,[],m,m0,d,_,_,_,_=>⟨[],trivial,λw F g=>by
   have n:∀ {m:List As} {F:Bs},Sep m F w->Sep [] F w:=λ{m}=>by
    induction m with
    |nil=>exactλh=>h
    |cons a m o=>exactλh=>o h.tail
   exact n g⟩
 |[],_::_,_,_,_,h,_,_,_=>by cases h
 |b::own,a::base,z::m,z0::m0,d,h,⟨h1,h2⟩,⟨k1,k2⟩,hle=>by
  simp only[J7]at h;cases i:B5w (Ew a) (Ew b)with
  |true=>rw[i]at h;obtain⟨p,k,l⟩:=(hle a (B5n ..) b (B5n ..) (B5k i)).back hx h1 k1;obtain⟨m',e,f⟩:=Ajp hx h h2 k2 λx hx y j=>hle x (B5j _ hx) y (B5j _ j);exact⟨p::m',⟨k,e⟩,λw=>(Z.app (c:=m) (l w)).trans (f w).cons⟩
  |false=>rw[i]at h;obtain⟨m',e,f⟩:=Ajp hx (base:=a::base) (m0:=z0::m0) h h2 ⟨k1,k2⟩ λx hx y j=>hle x hx y (B5j _ j);exact⟨m',e,λw F g=>f w F g.tail⟩
 |_::_,_::_,[],_,_,_,h,_,_=>h.elim
 |_::_,_::_,_::_,[],_,_,_,h,_=>h.elim
end
end
section
open Go.RowKit
section
variable {P:Program} {n:Nat} {env:Env} {w:World} {Q:Post}
def lpE {α:Type} (b:α->Env->World->Prop) (a:α->Nat) (x:α) (Q:Post):Post
 |.normal,env,w=>∃y,a y<a x/\b y env w
 |e,env,w=>Q e env w
theorem A9t{α} o q (x0:α){c} (v:o x0 env w)
  (G:∀x env w,o x env w->WC P n c (lpE o q x Q) env w):WC P n (.loop c) Q env w:=by
 intro a D b k cs
 have i:∀m x a env w,q x=m->Has n a env->o x env w->
   ∃e j w',Nv n Q e j w'/\Arrives P (lone (b.at a (.code c::.inLoop c::k)) cs w) b k cs e j w':=by
  intro m;induction m using Ca4 with
  |_ m I=>
   intro x a env w F z A;obtain⟨e,s,t,⟨f,h,l⟩,d⟩:=G x env w A a z b (.inLoop c::k) cs;cases e with
   |normal=>obtain⟨y,H,hΦ⟩:=l;obtain⟨e2,u,L,p,g⟩:=I (q y) (F▸H) y s f t rfl h hΦ;exact⟨e2,u,L,p,.of_steps (Steps.trans d (.one step_inLoop)) g⟩
   |_=>exact⟨_,s,t,⟨f,h,l⟩,.pass (x:=.inLoop c) rfl (λ_ _=>.inl (by simp)) d⟩
 obtain⟨e,j,w',l,d⟩:=i _ x0 a env w rfl D v;exact⟨e,j,w',l,.of_steps (.one step_loop) d⟩
end
section
variable {ρ ρ':List HV} {rs rs':List Rd} {B:Base} {amb:List Rd} {st:SSt} {env:Env} {w:World} {m:List As}
theorem Acw:∀ {ts:List Ty} {ls:List (List Leaf)} {x:Tup ts},Sp ts ls=some x->Iu ts x=ls
 |[],[],_,_=>rfl
 |[a],[l],x,h=>by exact congrArg (λz=>[z]) (E0 (t:=a) (l:=l) (x:=x) h)
 |a::b::r,l::ls,x,h=>by have c:B5h (mk a l) (λx=>B5h (Sp (b::r) ls) λy=>some (x,y))=some x:=h;obtain⟨y,d,e⟩:=B7i.1 c;obtain⟨z,f,g⟩:=B7i.1 e;have i:=Acw f;have j:=E0 d;have k:(y,z)=x:=B65.inj g;subst k;exact(congrArg (λu=>u::Iu (b::r) z) j).trans (congrArg (λu=>l::u) i)
 |[],_::_,_,h=>by cases h
 |[_],[],_,h=>by cases h
 |[_],_::_::_,_,h=>by cases h
 |_::_::_,[],_,h=>by cases h
theorem Ajz:∀ {ls:List Leaf},On (Vc ls)=ls
 |[]=>rfl
 |l::ls=>by simp[Vc,On,Ajz (ls:=ls)]
theorem Rm{wl t sv}:∀ {e:List (Nat×Option SV)},Au (Bq wl e) t=some sv->An wl t=false/\Au e t=some sv
 |[],h=>by cases h
 |(k,v)::r,h=>by
  simp only[Bq]at h;cases c:An wl k with
  |true=>
   rw[c]at h;have b:=Rm (e:=r) h;refine⟨b.1,?_⟩;cases a:B5w k t with
   |true=>cases B5k a;rw[c]at b;cases b.1
   |false=>simp only[Au,a,cond_false];exact b.2
  |false=>
   rw[c]at h;simp only[cond_false,Au]at h;cases a:B5w k t with
   |true=>rw[a]at h;cases B5k a;exact⟨c,by simp only[Au,a,cond_true];exact h⟩
   |false=>rw[a]at h;have b:=Rm (e:=r) h;exact⟨b.1,by simp only[Au,a,cond_false];exact b.2⟩
theorem A8c{wl t}:∀ {l:List Nat},Oh wl l=true->An wl t=false->An l t=false
 |[],_,_=>rfl
 |a::l,h,ht=>by
  simp only[Oh,B5l]at h;simp only[An,B6k];refine⟨?_,A8c h.2 ht⟩;cases b:B5w a t with
  |false=>rfl
  |true=>cases B5k b;rw[h.1]at ht;cases ht
theorem Atq{e t sv}:∀ {b:List (Nat×Option SV)},Acn e b=true->Au b t=some sv->∃c,Au e t=some c
 |[],_,h=>by cases h
 |(k,some x)::r,hs,h=>by
  simp only[Acn,B5l]at hs;simp only[Au]at h;cases a:B5w k t with
  |true=>
   cases B5k a;have:=hs.1;split at this
   ·rename_i x hx;exact⟨x,hx⟩
   ·cases this
  |false=>rw[a]at h;exact Atq hs.2 h
 |(k,none)::r,hs,h=>by
  simp only[Au]at h;cases a:B5w k t with
  |true=>rw[a]at h;cases h
  |false=>rw[a]at h;exact Atq (b:=r) hs h
theorem Apj{a}:∀ {own:List Chunk},a∈own->An (Pj own) (Ew a)=true
 |b::r,h=>by
  simp only[Pj,An,B6s];rcases B5t.1 h with rfl|h
  ·exact .inl (Ca5 _)
  ·exact .inr (Apj h)
theorem Agv{a c}:∀ {own:List Chunk},Ru (Pj own)=true->a∈own->c∈own->Ew a=Ew c->a=c
 |b::r,hn,ha,hc,e=>by
  simp only[Pj,Ru,B5l,B66]at hn;rcases B5t.1 ha with d|d<;>rcases B5t.1 hc with f|f
  ·rw[d,f]
  ·have:=Apj f;rw[<-e,d,hn.1]at this;cases this
  ·have:=Apj d;rw[e,f,hn.1]at this;cases this
  ·exact Agv hn.2 d f e
theorem Ahs{k a}:∀ {own:List Chunk},Ahr k (Pj own)=true->a∈own->Ew a<k
 |b::r,h,c=>by
  simp only[Pj,Ahr,B5l]at h;rcases B5t.1 c with rfl|c
  ·simpa using h.1
  ·exact Ahs h.2 c
structure Inv (B:Base) (amb:List Rd) (ρ:List HV) (base:SSt) (v:List VK) (ls:List Leaf) (env:Env) (w:World):Prop where
 len:ρ.length=base.nxt
 evs:EnvOk ρ base.env env
 mem:∃m1 m2 rs,VIn ρ rs env base.env v ls m1/\OwnOk ρ rs base.own m2/\RdsOk ρ base.rds rs/\(∀r∈amb,r∈rs)/\St B (m1++m2) rs w
theorem Inv.enter (a:Sat B amb ρ st env w){e v p} (h:Ib e v st=some p) (s:∀t sv,Au e t=some sv->Au st.env t=some sv):
  Inv B amb ρ {p.2 with env:=e} v p.1 env w/\(∀c∈p.2.own,c∈st.own)/\p.2= {st with own:=p.2.own}:=by
 obtain⟨m,rs,l,f,o,q⟩:=a.mem;obtain⟨m1,m2,rs',d,g,i,j,k,b⟩:=Aay (mm:=[]) h a.env l f q;refine⟨⟨?_,λt sv x=>a.env t sv (s t sv x),m1,m2,rs',g,i,?_,λr u=>d r (o r u),j⟩,k,b⟩
 ·show ρ.length=p.2.nxt;rw[b];exact a.len
 ·show RdsOk ρ p.2.rds rs';rw[b];exact f.mono (Ext.refl ρ) d
theorem Inv.sat{base v ls} (h:Inv B amb ρ base v ls env w):∃ρ',Ext ρ ρ'/\Sat B amb ρ' (Gw base.env v ls base) env w/\PutSt base (Gw base.env v ls base)/\∀t,An (Bd v) t=false->Au (Gw base.env v ls base).env t=Au base.env t:=by obtain⟨m1,m2,rs,a,b,c,d,e⟩:=h.mem;exact Agb a h.evs h.len b c d e
theorem Inv.put{base v ls} (h:Inv B amb ρ base v ls env w){d u} (c:An (Bd v) d=false) (f:Au base.env d=none):Inv B amb ρ base v ls ((d,u)::env) w:=by
 have b:∀t,t≠d->lk ((d,u)::env) t=lk env t:=λt a=>by simp only[lk];rw[Jn (Ne.symm a)];rfl
 obtain⟨m1,m2,rs,i,k2,j,k,g⟩:=h.mem;refine⟨h.len,λt sv a=>?_,m1,m2,rs,i.inEnv λt a=>b t λe=>?_,k2,j,k,g⟩
 ·rw[b t λe=>by rw[e,f]at a;cases a];exact h.evs t sv a
 ·rw[e,c]at a;cases a
theorem Inv.back{base s1 d v ls0 env0 env' w0 w' y} (l:Inv B amb ρ base v ls0 env0 w0) (h:Gi s1=true) (f:∀a∈base.own,a∈s1.own)
  (i:Sat B amb ρ' d env' w') (hx:Ext ρ ρ') (hg:Grow s1 d) (D:∃x,d.rds=x++base.rds) (hE:∀t sv,Au base.env t=some sv->Au d.env t=none\/Au d.env t=some sv) (M:Ef v base d=some y):
  Inv B amb ρ base v (On (Iu _ y)) env' w':=by
 unfold Ef at M;obtain⟨p,h1,k⟩:=Af M;have o:=(bt k).1;replace k:=(bt k).2;rw[Acw k,Ajz];simp only[B5l]at o;obtain⟨m0,c0,k1,k2,k3,hM⟩:=i.mem;obtain⟨m1,m2,rs1,I,O,S,T,U,a6⟩:=Aay (mm:=[]) h1 i.env k1 k2 hM;obtain⟨_,b7,c3,_,V,W,_,_⟩:=l.mem
 have he:EnvOk ρ base.env env':=λt sv F=>by
  obtain⟨c4,N⟩:=Atq o.2 F;rcases hE t sv F with q|q
  ·rw[q]at N;cases N
  ·obtain⟨u,u1,u2⟩:=i.env t sv q;obtain⟨u0,_,u3⟩:=l.evs t sv F;exact⟨u,u1,u2.back hx u3⟩
 simp only[Gi,B5l]at h;obtain⟨H,X,Y⟩:=Ajp (rs:=rs1) hx o.1 S V λa L b s e=>by have A:=U b s;obtain⟨c,g1,g2⟩:=hg.own b A (by rw[<-e];exact Ahs h.2 (f a L));rw[Agv h.1 (f a L) g1 (by rw[e,g2.g])];exact g2
 obtain⟨x,G⟩:=D
 have j:RdsOk ρ base.rds rs1:=by
  have q:RdsOk ρ' base.rds rs1:=λz hz=>by obtain⟨r,r1,r2⟩:=k2 z (by rw[G];exact B54 _ hz);exact⟨r,I r r1,r2⟩
  exact q.back hx W
 exact⟨l.len,he,m1,H,rs1,O.back hx l.evs,X,j,λr hr=>I r (k3 r hr),(show St B (m1++m2) rs1 w' from T).z (Y w').appL⟩
def Bnc:Option Nat->Exit
 |none=>.normal
 |some i=>.exit i
def Fr (l:List Nat) (st a:SSt):Prop:=∀t,An l t=false->Au a.env t=none\/Au a.env t=Au st.env t
theorem Fr.refl l st:Fr l st st:=λ_ _=>.inr rfl
theorem Fr.trans{l a b c} (h:Fr l a b) (k:Fr l b c):Fr l a c:=λt d=>by
 rcases k t d with k|k
 ·exact .inl k
 ·rw[k];exact h t d
theorem Fr.mono{l l' a b} (h:Fr l a b) (c:∀t,An l' t=false->An l t=false):Fr l' a b:=λt d=>h t (c t d)
structure Nx (B:Base) (amb:List Rd) (l:List Nat) (ρ:List HV) (st:SSt) (ρ':List HV) (st':SSt) (env':Env) (w':World):Prop where
 sat:Sat B amb ρ' st' env' w'
 ext:Ext ρ ρ'
 grow:Grow st st'
 fr:Fr l st st'
theorem Nx.trans{l ρ1 a s1 s2 e1 e2 w1 w2} (h:Nx B amb l ρ st ρ1 s1 e1 w1) (k:Nx B amb l ρ1 s1 a s2 e2 w2):Nx B amb l ρ st a s2 e2 w2:=⟨k.sat,h.ext.trans k.ext,h.grow.trans k.grow,h.fr.trans k.fr⟩
theorem Nx.mono{l l' ρ1 s1 e1 w1} (h:Nx B amb l ρ st ρ1 s1 e1 w1) (a:∀t,An l' t=false->An l t=false):Nx B amb l' ρ st ρ1 s1 e1 w1:=⟨h.sat,h.ext,h.grow,h.fr.mono a⟩
theorem Nx.refl{l} (h:Sat B amb ρ st env w):Nx B amb l ρ st ρ st env w:=⟨h,Ext.refl ρ,Grow.refl st,Fr.refl l st⟩
abbrev KOk (B:Base) (amb:List Rd) (l:List Nat) (ρ:List HV) (st:SSt) {R:Type} (K:Option Nat->SSt->Option R) (r:R) (Q:Post):Prop:=∀e st' ρ' env' w',K e st'=some r->Nx B amb l ρ st ρ' st' env' w'->Q (Bnc e) env' w'
abbrev ROk (B:Base) (amb:List Rd) (ρ:List HV) (st:SSt) {R0 R:Type} (Bp:SSt->Option R0) (rt:R0->Option R) (r:R) (Q:Post):Prop:=∀st' r0 ρ' env' w',Bp st'=some r0->rt r0=some r->Sat B amb ρ' st' env' w'->Ext ρ ρ'->Grow st st'->Q .ret env' w'
def RunOk (B:Base) (amb:List Rd) (C:Ctx) {R0:Type} (Bp:SSt->Option R0) (c:Code):Prop:=
 ∀(R:Type) (b:Nat) (st:SSt) (rt:R0->Option R) (K:Option Nat->SSt->Option R) (r:R) (ρ:List HV) (env:Env) (w:World) (Q:Post),
  run C Bp c b st rt K=some r->Sat B amb ρ st env w->KOk B amb (wr c) ρ st K r Q->ROk B amb ρ st Bp rt r Q->WC Tryz.prog C.n c Q env w
variable {C:Ctx} {R0 R:Type} {Bp:SSt->Option R0} {rt:R0->Option R} {K:Option Nat->SSt->Option R} {r:R} {Q:Post}
theorem Bxt{a c} (H:RunOk B amb C Bp a) (I:RunOk B amb C Bp c):RunOk B amb C Bp (.seq a c):=λR b st rt K r ρ env w Q h L F G=>by
 refine Fc (H R b st rt _ r ρ env w _ h L (λe g ρ' d w' D p=>?_) λg z ρ' d w' q o s u v=>G g z ρ' d w' q o s u v);have x:∀t,An (wr (.seq a c)) t=false->An (wr a) t=false/\An (wr c) t=false:=λt j=>by simpa [wr,I9]using j
 cases e with
 |some i=>exact F (some i) g ρ' d w' D (p.mono λt j=>(x t j).1)
 |none=>show WC _ _ c Q d w';refine I R b g rt K r ρ' d w' Q D p.sat (λe k l f A o y=>F e k l f A o ((p.mono λt j=>(x t j).1).trans (y.mono λt j=>(x t j).2))) λk z l f A q o s u v=>G k z l f A q o s (p.ext.trans u) (p.grow.trans v)
theorem Bgx{i c} (v:RunOk B amb C Bp c):RunOk B amb C Bp (.block i c):=λR b st rt K r ρ env w Q h x g u=>by
 refine B4o (v R i st rt _ r ρ env w _ h x (λe d ρ' a w' f k=>?_) λd y ρ' a w' o p q s t=>u d y ρ' a w' o p q s t);cases e with
 |none=>exact g none d ρ' a w' f k
 |some j=>
  show(bif B5w j i then Q .normal a w' else Q (.exit j) a w');simp only[Azg]at f;cases l:B5w j i with
  |true=>rw[l]at f;exact g none d ρ' a w' f k
  |false=>rw[l]at f;exact g (some j) d ρ' a w' f k
theorem Ag5{v wl ls} {p:List Leaf×SSt}{env' w'} (k:∀c∈p.2.own,c∈st.own) (f:p.2= {st with own:=p.2.own}) (d:Oh wl (Bd v)=true)
  (e:Inv B amb ρ {p.2 with env:=Bq (Bd v++wl) st.env} v ls env' w'):∃a,Nx B amb wl ρ st a (Gw (Bq (Bd v++wl) st.env) v ls {p.2 with env:=Bq (Bd v++wl) st.env}) env' w':=by
 obtain⟨a,g,h,i,j⟩:=e.sat;refine⟨a,h,g,Grow.trans (b:= {p.2 with env:=Bq (Bd v++wl) st.env}) ⟨?_,?_,?_⟩ i.grow,λt q=>?_⟩
 ·show st.nxt<=p.2.nxt;rw[f];exact B6i _
 ·exactλc l _=>⟨c,k c l,.inl rfl⟩
 ·show∃x,p.2.rds=x++st.rds;rw[f];exact⟨[],rfl⟩
 ·rw[j t (A8c d q)];show Au (Bq (Bd v++wl) st.env) t=none\/Au (Bq (Bd v++wl) st.env) t=_;cases o:Au (Bq (Bd v++wl) st.env) t with
  |none=>exact .inl rfl
  |some sv=>exact .inr (Rm o).2.symm
theorem Abd{v wl t sv e} (a:Au (Bq (Bd v++wl) e) t=some sv):An (Bd v) t=false/\An wl t=false:=by have:=(Rm a).1;rwa [I9,B6k]at this
theorem Brw{v wl p y} (k:Sat B amb ρ st env w) (j:Ib (Bq (Bd v++wl) st.env) v st=some p) (e:Gi st=true) (b:Oh wl (Bd v)=true){st' env' w'} (a:Nx B amb wl ρ st ρ' st' env' w') (l:Ef v {p.2 with env:=Bq (Bd v++wl) st.env} st'=some y):
  ∃f,Nx B amb wl ρ st f (Ee v y {p.2 with env:=Bq (Bd v++wl) st.env}) env' w':=by
 obtain⟨i,g,h⟩:=Inv.enter k j λt sv c=>(Rm c).2
 have d:=i.back (s1:=st) e g a.sat a.ext a.grow (by
  show∃x,st'.rds=x++p.2.rds;rw[h];exact a.grow.rds) (λt sv c=>by
  rcases a.fr t (Abd c).2 with q|q
  ·exact .inl q
  ·exact .inr (by rw[q];exact(Rm c).2)) l
 exact Ag5 g h b d
theorem Ag8{a} (S:RunOk B amb C Bp a){b wl} (D:∀t,An wl t=false->An (wr a) t=false){v p} (H:Sat B amb ρ st env w) (U:Ib (Bq (Bd v++wl) st.env) v st=some p) (A:Gi st=true) (i:Oh wl (Bd v)=true){R1} {inj:VT v->R1}{rt1 Aaw} (g:∀l z,Aaw l=some z->∃f,Ef v {p.2 with env:=Bq (Bd v++wl) st.env} l=some f/\inj f=z){y}
  (h:run C Bp a b st rt1 (To Aaw)=some y) (s:∀f,inj f=y->K none (Ee v f {p.2 with env:=Bq (Bd v++wl) st.env})=some r) (u:∀k,rt1 k=some y->rt k=some r)
  (N:KOk B amb wl ρ st K r Q) (O:ROk B amb ρ st Bp rt r Q):WC Tryz.prog C.n a Q env w:=by
 refine S R1 b st rt1 _ y ρ env w Q h H (λe d ρ' c w' G T=>?_) λd k ρ' c w' o q I L M=>O d k ρ' c w' o (u k q) I L M;cases e with
 |some j=>cases G
 |none=>obtain⟨f,o,q⟩:=g d y G;obtain⟨F,x⟩:=Brw H U A i (T.mono D) o;exact N none _ F c w' (s f q) x
end
end
section
open Go.RowKit
section
variable {R R':Type} {st:SSt} {C:Ctx} {K:SV->SSt->Option R} (F:R->Option R')
theorem Lp{α a p} [Decidable p]{x} {G:α->Option a}:B5h (xg p x) G=xg p (B5h x G):=by unfold xg;split<;>rfl
theorem Ht {α a:Type}{c x y} {G:α->Option a}:B5h (bif c then x else y) G=bif c then B5h x G else B5h y G:=by cases c<;>rfl
theorem Bgs{op k1 k2 i j K}:Z6 C op k1 k2 i j (λc=>B5h (K c) F)=B5h (Z6 C op k1 k2 i j K) F:=by unfold Z6;split<;>simp only[Ht,Lp,B69]
theorem Bgt{op tb x y K}:Z5 C op tb x y (λc=>B5h (K c) F)=B5h (Z5 C op tb x y K) F:=by
 unfold Z5;split
 ·split
  ·rfl
  ·split
   ·exact Bgs F
   ·split<;>(try split)<;>simp only[Ht,Lp,B69]
 ·rfl
theorem Afl{h t l p}:M1 st h t l p (λv s=>B5h (K v s) F)=B5h (M1 st h t l p K) F:=by unfold M1;simp only[Ht,B69]
theorem Byj{h a t l p}:splitK st h a t l p (λv s=>B5h (K v s) F)=B5h (splitK st h a t l p K) F:=by
 unfold splitK;split
 ·simp only[Lp]
 ·exact Afl F
theorem Bvi{h a lo hi}:Yf st h a lo hi (λv s=>B5h (K v s) F)=B5h (Yf st h a lo hi K) F:=by
 unfold Yf;split
 ·split
  ·simp only[Ht,Lp,B69]
  ·rfl
 ·rfl
theorem Bro a:Ku C st a (λv s=>B5h (K v s) F)=B5h (Ku C st a K) F:=by
 unfold Ku;split
 ·unfold Rp;split<;>rfl
 ·unfold Rp;split<;>rfl
 ·unfold Ahl;split<;>rfl
 ·unfold Ahg;split
  ·split<;>rfl
  ·rfl
 ·unfold Ahd;split
  ·unfold Ahf;simp only[Ht,B69];congr 1;split<;>rfl
  ·exact Bgt F
  ·rfl
 ·unfold Ahm;split<;>rfl
 ·unfold Ahh;split<;>rfl
 ·unfold Ahi;split
  ·split<;>rfl
  ·rfl
 ·unfold Ahk;split
  ·split
   ·split<;>rfl
   ·rfl
  ·split
   ·simp only[Ht,B69];congr 1;congr 1;split<;>rfl
   ·rfl
  ·rfl
 ·unfold Xs;split
  ·split
   ·simp only[Ht,B69];congr 1;split<;>simp only[Ht,Lp,B69]
   ·rfl
  ·rfl
 ·unfold Ahn;split
  ·split<;>simp only[Ht,Lp,B69]
  ·rfl
 ·unfold Ahe;split
  ·split<;>rfl
  ·simp only[Ht,B69]
  ·unfold Ahc;simp only[Ht,B69];congr 1;split
   ·split<;>rfl
   ·rfl
  ·rfl
 ·split
  ·unfold Ahj;split<;>rfl
  ·rfl
 ·unfold Xt;split
  ·split
   ·split<;>rfl
   ·split<;>rfl
   ·simp only[Ht,B69]
   ·rfl
  ·rfl
 ·unfold Ro;split
  ·split<;>rfl
  ·rfl
 ·unfold Ro;split
  ·split<;>rfl
  ·rfl
 ·unfold Xu;split
  ·split
   ·simp only[Ht,B69];congr 1;split
    ·split<;>simp only[Lp,Afl,B69]
    ·split<;>simp only[Lp,Afl,B69]
    ·split<;>simp only[Lp,Byj,B69]
    ·rfl
   ·exact Bvi F
  ·unfold Ahp;simp only[Ht,B69];congr 1;split
   ·split<;>simp only[Lp,B69]
   ·split<;>simp only[Lp,B69]
   ·rfl
  ·rfl
 ·unfold Aho;split
  ·split
   ·simp only[Ht,Lp,Afl,B69]
   ·rfl
  ·rfl
 ·rfl
theorem Bsh{t ps}:Us st t ps (λv s=>B5h (K v s) F)=B5h (Us st t ps K) F:=by
 unfold Us;split
 ·split
  ·split
   ·split<;>rfl
   ·rfl
  ·rfl
 ·rfl
theorem Bne{ops k o} (ho:nth ops k=some o) (a:Ue C k ops=true){K}:Nk C o st (λs=>B5h (K s) F)=B5h (Nk C o st K) F:=by
 unfold Ue at a;rw[ho]at a;unfold Nk;split
 ·simp only[Ht,B69];congr 1;split
  ·rename_i f b d c;simp[c]at a
  ·exact Bsh F
  ·exact Bro F _
 ·rfl
end
theorem A4i {R:Type}{r b} {x:Option R} (h:(bif !b then none else x)=some r):b=true/\x=some r:=by
 cases b with
 |true=>exact⟨rfl,h⟩
 |false=>cases h
section
variable {ρ ρ' ρ0:List HV} {rs rs':List Rd} {B:Base} {amb:List Rd} {st:SSt} {env:Env} {w:World} {m:List As} {R:Type} {r:R} {C:Ctx} {ops:List Oper} {n:Nat} {X:List As}
theorem Azp{c u v} (h:Afp c=true) (a:c.Den ρ u) (d:c.Den ρ v):u=v:=by
 cases c with
 |i _ _=>exact a.trans d.symm
 |y _=>exact a.trans d.symm
 |b _=>exact a.trans d.symm
 |s _=>exact a.trans d.symm
 |nil=>exact a.trans d.symm
 |sl k=>obtain⟨s,e,rfl⟩:=a;obtain⟨s',k2,rfl⟩:=d;rw[e]at k2;cases k2;rfl
 |ptr k o=>obtain⟨s,e,rfl⟩:=a;obtain⟨s',k2,rfl⟩:=d;rw[e]at k2;cases k2;rfl
 |ep k q i j=>obtain⟨s,e,rfl,_⟩:=a;obtain⟨s',k2,rfl,_⟩:=d;rw[e]at k2;cases k2;rfl
 |ln k q=>exact a.1.trans d.1.symm
 |_=>cases h
theorem Azo:∀ {cs:List Cell} {us vs:List Value},cs.all Afp=true->All2 (Cell.Den ρ) cs us->All2 (Cell.Den ρ) cs vs->us=vs
 |[],[],[],_,_,_=>rfl
 |c::cs,u::us,v::vs,h,⟨h1,h2⟩,⟨k1,k2⟩=>by simp only[B7s,B5l]at h;rw[Azp h.1 h1 k1,Azo h.2 h2 k2]
 |[],_::_,_,_,h,_=>h.elim
 |[],[],_::_,_,_,h=>h.elim
 |_::_,[],_,_,h,_=>h.elim
 |_::_,_::_,[],_,_,h=>h.elim
theorem Azr{x u v} (h:Afr x=true) (b:x.Den ρ u) (d:x.Den ρ v):u=v:=by
 cases x with
 |c c=>exact Azp h b d
 |a l=>obtain⟨vs,e,rfl⟩:=b;obtain⟨us,k2,rfl⟩:=d;rw[Azo h e k2]
theorem Azq:∀ {cs:List V1} {us vs:List Value},cs.all Afr=true->All2 (V1.Den ρ) cs us->All2 (V1.Den ρ) cs vs->us=vs
 |[],[],[],_,_,_=>rfl
 |c::cs,u::us,v::vs,h,⟨h1,h2⟩,⟨k1,k2⟩=>by simp only[B7s,B5l]at h;rw[Azr h.1 h1 k1,Azq h.2 h2 k2]
 |[],_::_,_,_,h,_=>h.elim
 |[],[],_::_,_,_,h=>h.elim
 |_::_,[],_,_,h,_=>h.elim
 |_::_,_::_,[],_,_,h=>h.elim
theorem Bif{sv u v} (h:Afq (some sv)=true) (a:sv.Den ρ u) (b:sv.Den ρ v):u=v:=by
 cases sv with
 |t l=>obtain⟨vs,c,rfl⟩:=a;obtain⟨us,k2,rfl⟩:=b;rw[Azq h c k2]
 |v x=>exact Azr h a b
theorem Ext.eq (h:Ext ρ ρ') (a:ρ'.length=ρ.length):ρ'=ρ:=by obtain⟨x,rfl⟩:=h;have:x=[]:=B53 (by rw[B5m]at a;omega);simp[this]
theorem Bnf (u:Sat B amb ρ st env w){o} (_:Aqd o=true){K} (h:Ao0 C o st K=some r):
  ∃d sv v a ρ',o.dst=some d/\B63 d C.n=true/\K (a.put d sv)=some r/\Ext ρ ρ'/\Sat B amb ρ' a env w/\sv.Den ρ' v/\Grow st a/\a.env=st.env/\∀e n ty pos af g,Runs Tryz.prog n env e ⟨o.dst,o.op,ty,pos,af,g⟩ v e:=by
 unfold Ao0 at h;split at h
 ·rename_i d t x D hi f c;have b:=(bt h).1;replace h:=(bt h).2;obtain⟨sv,v,a,ρ',i,k2,j,k,p,q,s⟩:=A4a u h;exact⟨d,sv,v,a,ρ',f,b,i,k2,j,k,p,q,λe n ty pos af g=>by rw[c];exact s e n _ ty pos af g⟩
 ·rename_i d t x y f c;have b:=(bt h).1;replace h:=(bt h).2;obtain⟨sv,v,a,ρ',i,k2,j,k,p,q,s⟩:=A38 u h;exact⟨d,sv,v,a,ρ',f,b,i,k2,j,k,p,q,λe n ty pos af g=>by rw[c];exact s e n _ ty pos af g⟩
 ·rename_i d z A f c;have b:=(bt h).1;replace h:=(bt h).2;obtain⟨sv,v,a,ρ',i,k2,j,k,p,q,s⟩:=A39 u h;exact⟨d,sv,v,a,ρ',f,b,i,k2,j,k,p,q,λe n ty pos af g=>by rw[c];exact s e n _ ty pos af g⟩
 ·cases h
theorem Bgy{A a b} {r:A} (h:both a b=some r):a=some r/\b=some r:=by
 unfold both at h;split at h
 ·rename_i e;exact⟨h,e▸h⟩
 ·cases h
theorem Bnd (M:COk amb C){base k o} (ho:nth ops k=some o) (Y:Ue C k ops=true){K} (h:Aoz C base o st K=some r) (N:ρ.length=st.nxt) (he:EnvOk ρ st.env env)
  (V:∃(B:Base) (w:World),Sat B amb ρ {st with own:=base,rds:=[]} env w):
  ∃d sv v,o.dst=some d/\B63 d C.n=true/\K {st with env:=(d,some sv)::st.env}=some r/\sv.Den ρ v/\∀B w,Sat B amb ρ {st with own:=base,rds:=[]} env w->∀n a,Has n a env->QR Tryz.prog o a w v:=by
 unfold Aoz at h;split at h
 ·rename_i d y;have I:=Bne (st:= {st with own:=base,rds:=[]}) (R:=SSt) (K:=some) (λb=>bif B5w b.nxt st.nxt&&Afq (Au b.env d)then K {st with env:=b.env}else none) ho Y;simp only[B5i]at I;rw[I]at h;obtain⟨s,L,i⟩:=Af h;have u:=(bt i).1;replace i:=(bt i).2;simp only[B5l]at u;have p:=B5k u.1;obtain⟨B0,w0,Ax⟩:=V;obtain⟨d',sv,v,b,ρ',G,e2,O,P,Q,H,e7,S,e9⟩:=Aav M Ax L;rw[y]at G;obtain rfl:=B65.inj G;have f:b.put d sv=s:=B65.inj O;have z:b.nxt=st.nxt:=by rw[<-p,<-f];rfl
  have hρ:ρ'=ρ:=P.eq (by rw[Q.len,z,N]);subst hρ;have q:s.env=(d,some sv)::st.env:=by rw[<-f];show(d,some sv)::b.env=_;rw[S]
  rw[q]at i u;have j:Afq (some sv)=true:=by have:=u.2;simp only[Au]at this;rw[show B5w d d=true from Ca5 d]at this;exact this
  refine⟨d,sv,v,y,e2,i,H,λB w hs n a W=>?_⟩;obtain⟨d2,e,v2,c,D,g1,g2,g3,g4,g5,T,g7,g8,U⟩:=Aav M hs L;rw[y]at g1;obtain rfl:=B65.inj g1;have g:c.put d e=s:=B65.inj g3;have t:c.nxt=st.nxt:=by rw[<-p,<-g];rfl
  have hρ2:D=ρ':=g4.eq (by rw[g5.len,t,N]);subst hρ2
  have A:e=sv:=by
   have x:s.env=(d,some e)::c.env:=by rw[<-g];rfl
   rw[q]at x;simp only[List.cons.injEq,Prod.mk.injEq,B65.injEq,true_and]at x;exact x.1.symm
  subst A;rw[Bif j H T];exact U n a W
 ·cases h
def IW (amb:List Rd) (ρ0:List HV) (base:List Chunk) (w:World):Prop:=∃(B:Base) (m:List As) (rs:List Rd),OwnOk ρ0 rs base m/\(∀r∈amb,r∈rs)/\St B m rs w
structure SatX (B:Base) (amb:List Rd) (ρ:List HV) (st:SSt) (env:Env) (w:World) (X:List As):Prop where
 len:ρ.length=st.nxt
 env:EnvOk ρ st.env env
 mem:∃m rs,OwnOk ρ rs st.own m/\RdsOk ρ st.rds rs/\(∀r∈amb,r∈rs)/\St B (m++X) rs w
theorem SatX.rel (h:SatX B amb ρ st env w X){w'} (e:Rel w w'):SatX B amb ρ st env w' X:=by obtain⟨m,rs,a,b,c,d⟩:=h.mem;exact⟨h.len,h.env,m,rs,a,b,c,d.call e⟩
theorem Sep.left{m2 F}:∀ {m1:List As},Sep (m1++m2) F w->Sep m1 F w
 |[],h=>h.lt
 |_::_,⟨h0,F1,F2,h1,h2,h3,h4,h5⟩=>⟨h0,F1,F2,h1,Sep.left h2,h3,h4,h5⟩
theorem SatX.sat (h:SatX B amb ρ st env w X):Sat B amb ρ st env w:=by obtain⟨m,rs,a,b,c,e⟩:=h.mem;exact⟨h.len,h.env,m,rs,a,b,c,e.z λF d=>d.left⟩
theorem SatX.iw{base rs0 m0} (h:SatX B amb ρ st env w X) (hx:Ext ρ0 ρ) (s:OwnOk ρ0 rs0 base m0){st0} (f:∀a∈base,a∈st0.own) (c:Gi st0=true) (t:Grow st0 st) (u:J7 base st.own=true):IW amb ρ0 base w:=by
 obtain⟨m,rs,k,x,o,q⟩:=h.mem;simp only[Gi,B5l]at c;obtain⟨m',v,k2⟩:=Ajp hx u k s λa i b d e=>by obtain⟨j,g1,g2⟩:=t.own b d (by rw[<-e];exact Ahs c.2 (f a i));have:j=a:=Agv c.1 g1 (f a i) (by rw[g2.g,e]);rw[<-this];exact g2
 exact⟨B,m',rs,v,o,(q.z λF p=>p.left).z (k2 w)⟩
theorem SatX.frame (h:SatX B amb ρ st env w X):∃k,Sat k amb ρ st env w/\∀ρ' e a w',Ext ρ ρ'->Sat k amb ρ' e a w'->SatX B amb ρ' e a w' X:=by obtain⟨m,rs,v,x,y,z⟩:=h.mem;obtain⟨g0,u,F,g1,g2,g3⟩:=z;obtain⟨F1,H,D,k2,G,j,p⟩:=g1.split;let S':Bs:=λb=>(B.S b\/B.X b\/B.w.heap.size<=b.1)/\b.1<w.heap.size/\¬F b;have g:∀b,S' b->b.1<w.heap.size/\¬F1 b:=λb c=>⟨c.2.1,λf=>c.2.2 (j b f)⟩;have A:St ⟨w,F1,S'⟩ m rs w:=⟨RelX.refl _ _,g,F1,D,λ_ h=>.inr h,λr d=>r.mono (λb c=>⟨.inl c,c.2.1,λf=>c.2.2 (j b f)⟩) (Lc.refl _ _) (g3 r d)⟩;refine⟨⟨w,F1,S'⟩,⟨h.len,h.env,m,rs,v,x,y,A⟩,λρ' e a w' hx i=>?_⟩;obtain⟨m',rs',q,s,t,o⟩:=i.mem;have:=St.back (l':=m') (rs1:=rs') g0 u k2 G j p g2 g3 ⟨o.relx,o.ex⟩ (.inr λb c=>⟨c.1,λf=>c.2.2 (p b f)⟩);exact⟨i.len,i.env,m',rs'++rs,OwnOk.mono (Ext.refl _) (λr d=>B6f _ d) q,s.mono (Ext.refl _) (λr d=>B6f _ d),λr d=>B6f _ (t r d),this⟩
structure FE where
 f:Nat
 d:Nat
 v:Value
 x:As
def FIs (o:Oper) (v:Value) (x:As):Prop:=match o.op with
 |.alloc e=>∃b ty ti,F6 e=some ti/\v=pt b 0/\x=A2 b (B8g (ti.zero.map Cell.val)) ty
 |.buildSlice t _ _=>∃e ei te b,Js t=some (e,ei,te)/\v=Sv.v ⟨some ⟨b,0,none⟩,0,0⟩/\x=oC (Ac (sz te) (fD te) ([]:List (Bi te))) (Sv.v ⟨some ⟨b,0,none⟩,0,0⟩)
 |_=>False
theorem A1n{se} (h:EnvOk ρ se env){d v} (c:Au se d=none):EnvOk ρ se ((d,v)::env):=λt sv a=>by
 obtain⟨u,e,u2⟩:=h t sv a;refine⟨u,?_,u2⟩;simp only[lk];cases b:B5w d t with
 |true=>cases B5k b;rw[c]at a;cases a
 |false=>exact e
theorem Br1{α l k} {a:α} (h:nth l k=some a):k<l.length:=by rw[Jv]at h;exact(B55.1 h).1
theorem Bnp (h:SatX B amb ρ st env w X){k o} (ho:nth ops k=some o) (a:B5w (Gx ops k) 0=false) n:
  o.guard=none/\∃d,o.dst=some d/\(Au st.env d=none->OD Tryz.prog n env w o λv w'=>Rel w w'/\∃x,FIs o v x/\SatX B amb ρ st ((d,v)::env) w' (x::X)):=by
 unfold Gx at a;rw[ho]at a;simp only[Xg]at a;obtain⟨Q,V,ty,pos,af,g⟩:=o;simp only at a;split at a
 ·rename_i e d;refine⟨rfl,d,rfl,λI=>?_⟩;unfold A4v at a;split at a
  ·rename_i ti i;cases N:ti.zero.all Cell.shut with
   |false=>rw[N]at a;simp at a
   |true=>
   obtain⟨_,z,j,O⟩:=F7 i;obtain⟨m,rs,p,q,s,u⟩:=h.mem;refine OD.ex (A9y j u λb w' S y=>?_);refine⟨S,A2 b (B8g (ti.zero.map Cell.val)) e,⟨b,e,ti,i,rfl,rfl⟩,h.len,A1n h.env I,m,rs,p,q,s,?_⟩;rw[<-O];exact St.perm (by simpa using y) B5u.symm
  ·simp at a
 ·rename_i t P ps d;refine⟨rfl,d,rfl,λI=>?_⟩;cases D:(B5w P 0&&B5w ps.toList.length 0)&&(Aq6 t&&Anc d ops)with
  |false=>rw[D]at a;simp at a
  |true=>
   simp only[B5l]at D;obtain⟨⟨G,H⟩,c,_⟩:=D;cases B5k G
   have L:ps= #[]:=by
    cases ps with
    |mk l=>have:=B53 (B5k H);simp at this;simp[this]
   subst L;unfold Aq6 at c;split at c
   ·rename_i e ei te i;obtain⟨U,_,z,j,_⟩:=Ni i;rw[<-B5k c]at j;obtain⟨m,rs,p,q,s,u⟩:=h.mem;refine OD.ex (A91 (T:=Bi te) (f:=fD te) U j (λx=>C3 te x) u λb W M A=>⟨M,_,⟨e,ei,te,b,i,rfl,rfl⟩,?_⟩);exact⟨h.len,A1n h.env I,m,rs,p,q,s,A.perm B5u.symm⟩
   ·cases c
 ·simp at a
theorem Are{P aops z i o N K a} (hi:aops[i]?=some o) (c:o.guard=none) (f:z=true\/∀v w',N v w'->Rel w w') (b:Has n a env) (h:OD P n env w o N) (d:∀v w',N v w'->K (a.put o.dst v) w'):Hg P aops z i K a w:=by unfold Hg;simp only[hi];rw[if_pos (by simp[Region.wanted,c])];exact G6 (λg w' ⟨v,e,k⟩=>⟨f.imp id λh=>h v w' k,v,e,e▸d v w' k⟩) (h.get a b)
theorem A2j {listed:Array Bool}{i j} (h:(listed.setIfInBounds i true).getD j false=true):i=j\/listed.getD j false=true:=by
 by_cases a:i=j
 ·exact .inl a
 ·rw[getD_set_ne false a]at h;exact .inr h
theorem Agt {listed:Array Bool}{i j} (h:listed.getD j false=true):(listed.setIfInBounds i true).getD j false=true:=by
 by_cases a:i=j
 ·subst a;rcases B8u i listed.size with b|b
  ·simp[b]
  ·simp[B7h b]at h
 ·rw[getD_set_ne false a];exact h
theorem Bn0 {listed:Array Bool}{i} (h:i<listed.size):(listed.setIfInBounds i true).getD i false=true:=by simp[h]
theorem A15{all} {f d:Nat}{o}:∀ {l:List Oper} {k i:Nat},nth l i=some o->Ie all k l=Ie all k l->o.dst=some d->B5w (Xg all o) 0=false->f=k+i->(f,d)∈Ie all k l
 |[],_,_,h,_,_,_,_=>by cases h
 |q::l,k,0,h,_,hd,hf,e=>by cases h;simp only[Ie,hd,hf,cond_false];rw[e];exact B5n ..
 |q::l,k,i+1,h,_,hd,hf,e=>by
  have a:=A15 (l:=l) (k:=k+1) (i:=i) (f:=f) h rfl hd hf (by omega);simp only[Ie];split
  ·rename_i b _;cases B5w (Xg all q) 0 with
   |true=>exact a
   |false=>exact B5j _ a
  ·exact a
theorem Xx{f d}:∀ {l:List (Nat×Nat)},(f,d)∈l->An (Ev l) d=true
 |[],h=>by cases h
 |p::l,h=>by
  simp only[Ev,An,B6s];rcases B5t.1 h with rfl|h
  ·exact .inl (Ca5 _)
  ·exact .inr (Xx h)
theorem Anx{f g d}:∀ {l:List (Nat×Nat)},Ru (Ev l)=true->(f,d)∈l->(g,d)∈l->f=g
 |[],_,h,_=>by cases h
 |p::l,hn,h,k=>by
  simp only[Ev,Ru,B5l]at hn;have b:(∃q,(q,p.2)∈l)->False:=λ⟨q,e⟩=>by have c:=Xx e;simp[c]at hn
  rcases B5t.1 h with a|a
  ·rcases B5t.1 k with k'|k'
   ·rw[<-a]at k';cases k';rfl
   ·rw[<-a]at b;exact(b ⟨g,k'⟩).elim
  ·rcases B5t.1 k with k'|k'
   ·rw[<-k']at b;exact(b ⟨f,a⟩).elim
   ·exact Anx hn.2 a k'
theorem A9c{fl e t} (h:An fl t=true):Au (fl.map (λd=>(d,none))++e) t=none:=by
 induction fl with
 |nil=>cases h
 |cons a l c=>
  simp only[An,B6s]at h;simp only[B6r,B6a,Au];cases b:B5w a t with
  |true=>rfl
  |false=>
   rcases h with h|h
   ·rw[b]at h;cases h
   ·exact c h
theorem A9d{fl e t} (h:An fl t=false):Au (fl.map (λd=>(d,none))++e) t=Au e t:=by
 induction fl with
 |nil=>rfl
 |cons a l b=>simp only[An,B6k]at h;simp only[B6r,B6a,Au,h.1,cond_false];exact b h.2
structure EOk (ops:List Oper) (fl:List (Nat×Nat)) (listed:Array Bool) (env:Env) (st:SSt) (l:PT) (E:List FE):Prop where
 sz:listed.size=ops.length
 e:∀e∈E,listed.getD e.f false=true/\lk env e.d=some e.v/\(e.f,e.d)∈fl/\∃o,nth ops e.f=some o/\o.dst=some e.d/\FIs o e.v e.x
 in_:∀f∈Gc l,listed.getD f false=true->∃e∈E,e.f=f
 no:Hy l=true
 fls:∀f∈Gc l,B5w (Gx ops f) 0=false
 out:∀f d,(f,d)∈fl->listed.getD f false=false->Au st.env d=none
theorem Xv{d t v} (h:d≠t):lk ((d,v)::env) t=lk env t:=by simp only[lk,Jn h,cond_false]
theorem Ny{d t v se} (h:d≠t):Au ((d,v)::se) t=Au se t:=by simp only[Au,Jn h,cond_false]
variable {fl:List (Nat×Nat)} {listed:Array Bool} {l:PT} {E:List FE}
theorem Rq{d t fl} (h:An fl d=false) (k:An fl t=true):d≠t:=λe=>by rw[e,k]at h;cases h
theorem EOk.step {p:PT} {k:Nat} {c:SSt} {a:Env} (h:EOk ops fl listed env st p E) (j:∀f∈Gc l,f∈Gc p) (y:Hy l=true) (x:Gx ops k=0) (_:fl=Ie ops 0 ops) (v:∀t,An (Ev fl) t=true->lk a t=lk env t) (A:∀t,An (Ev fl) t=true->Au c.env t=Au st.env t):EOk ops fl (listed.setIfInBounds k true) a c l E where
 sz:=by simp[h.sz]
 e:=λe i=>by obtain⟨q,s,o,u⟩:=h.e e i;exact⟨Agt q,by rw[v _ (Xx o)];exact s,o,u⟩
 in_:=λf g b=>by
  rcases A2j b with e|b
  ·subst e;have:=h.fls _ (j _ g);rw[x]at this;cases this
  ·exact h.in_ f (j f g) b
 no:=y
 fls:=λf g=>h.fls f (j f g)
 out:=λf d i b=>by
  rw[A _ (Xx i)];refine h.out f d i ?_;cases z:listed.getD f false with
  |false=>rfl
  |true=>rw[Agt z]at b;cases b
theorem A3p{base} (h:IW amb ρ0 base w) (hx:Ext ρ0 ρ) (e:ρ.length=st.nxt) (d:EnvOk ρ st.env env):∃B,Sat B amb ρ {st with own:=base,rds:=[]} env w:=by obtain⟨B,m,rs,a,b,c⟩:=h;exact⟨B,e,d,m,rs,OwnOk.mono hx (λ_ h=>h) a,(λ_ h=>by cases h),b,c⟩
theorem SatX.perm{X'} (h:SatX B amb ρ st env w X) (e:X.Perm X'):SatX B amb ρ st env w X':=by obtain⟨m,rs,a,b,c,d⟩:=h.mem;exact⟨h.len,h.env,m,rs,a,b,c,d.perm (e.append_left m)⟩
theorem Aqv{f}:∀ {E:List FE},(∃e∈E,e.f=f)->∃e b c,E=b++e::c/\e.f=f
 |[],⟨_,h,_⟩=>by cases h
 |a::E,⟨e,h,he⟩=>by
  rcases B5t.1 h with rfl|h
  ·exact⟨e,[],E,rfl,he⟩
  ·obtain⟨d,b,c,g,i⟩:=Aqv ⟨e,h,he⟩;exact⟨d,a::b,c,by rw[g];rfl,i⟩
theorem A4e{a}:∀ {l:List Nat},a∈l->An l a=true
 |[],h=>by cases h
 |b::l,h=>by
  simp only[An,B6s];rcases B5t.1 h with rfl|h
  ·exact .inl (Ca5 _)
  ·exact .inr (A4e h)
theorem EOk.used {s u:List FE} {e:FE} {f:Nat} (h:EOk ops fl listed env st l (s++e::u)) (x:e.f=f) {l':PT} {j:SSt} (v:Gc l=f::Gc l') (i:An (Gc l') f=false) (q:Hy l'=true) (y:∀t,(∀g d,(g,d)∈fl->listed.getD g false=false->d≠t)\/Au j.env t=Au st.env t):EOk ops fl listed env j l' (s++u) where
 sz:=h.sz
 e:=λk c=>h.e k (by
  rcases B6g.1 c with c|c
  ·exact B6f _ c
  ·exact B54 _ (B5j _ c))
 in_:=λg o b=>by
  obtain⟨k,a,p⟩:=h.in_ g (by rw[v];exact B5j _ o) b;rcases B6g.1 a with a|a
  ·exact⟨k,B6f _ a,p⟩
  ·rcases B5t.1 a with rfl|a
   ·have:An (Gc l') f=true:=A4e (by rw[<-x,p];exact o);rw[this]at i;cases i
   ·exact⟨k,B54 _ a,p⟩
 no:=q
 fls:=λg o=>h.fls g (by rw[v];exact B5j _ o)
 out:=λg d c b=>by
  rcases y d with a|a
  ·exact absurd rfl (a g d c b)
  ·rw[a];exact h.out g d c b
theorem Bvq (hC:COk amb C){Q base rs0 m0 st0} (hb:OwnOk ρ0 rs0 base m0) (h0:∀a∈base,a∈st0.own) (p3:Gi st0=true) (h7:Region.noSelect ops.toArray=true) (c9:fl=Ie ops 0 ops) (j9:Ru (Ev fl)=true) (n4:((Ev fl).all λd=>B63 d C.n)=true):
  ∀a8 m listed j l E st K ρ env w,Gm C ops (Ev fl) base l st K=some r->Dx C ops a8 m listed j l=true->j.size=ops.length->SatX B amb ρ st env w (E.map FE.x)->EOk ops fl listed env st l E->Ext ρ0 ρ->Grow st0 st->J7 base st.own=true->Down ops.toArray listed->
   (∀u ρ' O w',K u=some r->Sat B amb ρ' u O w'->Ext ρ ρ'->Grow st u->(∀t,An (Bj ops) t=false->Au u.env t=Au st.env t)->Q .normal O w')->
   ∀a,Has C.n a env->Hp Tryz.prog ops.toArray (λa w=>Nv C.n Q .normal a w) (IW amb ρ0 base) m listed j a w:=by
 intro a8;induction a8 with
 |zero=>intro m listed j l E st K ρ env w h s;cases s
 |succ a8 ih=>
 intro m listed j l E st K ρ env w h s Y U D hx hg c6 hd hK a ha;have hI:∀G,Rel w G->IW amb ρ0 base G:=λG h1=>(U.rel h1).iw hx hb h0 p3 hg c6;have P:∀ {i:Nat} {o:Oper},nth ops i=some o->ops.toArray[i]?=some o:=λ{i o} h=>by rw[Jv]at h;simpa using h
 have H:∀m',(∀i∈Region.ready .any ops.toArray listed,B5w (Gx ops i) 0=false->Dx C ops a8 m' (listed.setIfInBounds i true) j l=true->∀G,Rel w G->Hg Tryz.prog ops.toArray (Gr ops.toArray j i) i (Hp Tryz.prog ops.toArray (λa w=>Nv C.n Q .normal a w) (IW amb ρ0 base) m' (listed.setIfInBounds i true) j) a G):=λm' i hi hf n5 G h1=>by
  obtain⟨k9,o,ho,_⟩:=mem_ready.1 hi;have N:nth ops i=some o:=by rw[Jv];simpa using ho
  obtain⟨a6,d,b6,h8⟩:=Bnp (U.rel h1) N hf C.n;have b9:i<ops.length:=Br1 N
  have f9:listed.getD i false=false:=by
   have:i<listed.size:=by rw[D.sz];exact b9
   simp[this]at k9⊢;exact k9
  have c5:(i,d)∈fl:=by rw[c9];refine A15 N rfl b6 ?_ (by omega);unfold Gx at hf;rw[N]at hf;exact hf
  have j6:B63 d C.n=true:=by
   have h2:=Xx c5
   have:∀ {l:List Nat},An l d=true->(l.all λd=>B63 d C.n)=true->B63 d C.n=true:=λ{l}=>by
    induction l with
    |nil=>intro h;cases h
    |cons b l q8=>
     intro h3 h4;simp only[B7s,B5l]at h4;simp only[An,B6s]at h3;rcases h3 with h3|h3
     ·cases B5k h3;exact h4.1
     ·exact q8 h3 h4.2
   exact this h2 n4
  refine Are ho a6 (.inr λv w' h=>h.1) ha (h8 (D.out i d c5 f9)) λv w' ⟨_,x,p9,p7⟩=>?_;rw[b6];refine ih m' _ j l (⟨i,d,v,x⟩::E) st K ρ ((d,v)::env) w' h n5 Y p7 ⟨by simp[D.sz],λe he=>?_,λf n8 hl=>?_,D.no,D.fls,λf d' hm hl=>?_⟩ hx hg c6 (hd.set hi) hK _ (ha.put j6 v)
  ·rcases B5t.1 he with rfl|he
   ·exact⟨Bn0 (by rw[D.sz];exact b9),by simp[lk],c5,o,N,b6,p9⟩
   ·obtain⟨e1,e2,e3,e4⟩:=D.e e he;refine⟨Agt e1,?_,e3,e4⟩;rw[Xv λc7=>?_]
    ·exact e2
    ·subst c7;have:=Anx j9 c5 e3;subst this;rw[f9]at e1;cases e1
  ·rcases A2j hl with e|hl
   ·exact⟨_,B5n ..,e⟩
   ·obtain⟨e,e1,e2⟩:=D.in_ f n8 hl;exact⟨e,B5j _ e1,e2⟩
  ·refine D.out f d' hm ?_;cases hq:listed.getD f false with
   |false=>rfl
   |true=>rw[Agt hq]at hl;cases hl
 have b2:∀m' k (l':PT),(∀f∈Gc l',f∈Gc l)->Hy l'=true->k∈Region.ready .any ops.toArray listed->(Abm C ops j k&&Dx C ops a8 m' (listed.setIfInBounds k true) j l')=true->opM C ops (Ev fl) base k st (λst=>Gm C ops (Ev fl) base l' st K)=some r->
   ∀G,Rel w G->Hg Tryz.prog ops.toArray (Gr ops.toArray j k) k (Hp Tryz.prog ops.toArray (λa w=>Nv C.n Q .normal a w) (IW amb ρ0 base) m' (listed.setIfInBounds k true) j) a G:=λm' k l' n9 T hi f8 h G h1=>by
  simp only[B5l]at f8;obtain⟨j8,q⟩:=f8;unfold opM at h;split at h
  ·rename_i o ho;have S:=(bt h).1;replace h:=(bt h).2;simp only[B5l]at S;obtain⟨⟨c2,c8⟩,I⟩:=S;have a6:o.guard=none:=by unfold isNone at c2;split at c2;assumption;cases c2
   obtain⟨B',d4,V⟩:=(U.rel h1).frame;obtain⟨b9,h8⟩:=Nj hC d4 a6 h;have k0:∀t,An (Ev fl) t=true->o.dst≠some t:=λt A e=>by unfold Tr at I;rw[e]at I;simp[A]at I
   refine Are (P ho) a6 (by
    simp only[Abm,B6s]at j8;refine j8.imp id λh9 v w' k=>k.1 ?_;unfold Ag9 at h9;rw[ho]at h9;exact B5k h9) ha h8 λv w' ⟨_,u,ρ',k1,k2,k3,k4,k5⟩=>?_
   have b1:=(bt k1).1;replace k1:=(bt k1).2;refine ih m' _ j l' E u K ρ' (putE o.dst v env) w' k1 q Y (V ρ' u _ w' k2 k3) (D.step n9 T (B5k c8) c9 (λt A=>?_) λt A=>?_) (hx.trans k2) (hg.trans k4) b1 (hd.set hi) (λe6 e7 b5 w2 g1 g2 g3 g4 g5=>hK e6 e7 b5 w2 g1 g2 (k2.trans g3) (Grow.trans k4 g4) λt A=>?_) _ (ha.putE b9 v)
   ·have:=k0 t A;cases b6:o.dst with
    |none=>rfl
    |some d'=>exact Xv λe=>this (by rw[b6,e])
   ·refine k5 t (Aj6 λo' N=>?_);rcases B5t.1 N with rfl|N
    ·exact k0 t A
    ·cases N
   ·rw[g5 t A];refine k5 t (Aj6 λo' N=>?_);rcases B5t.1 N with rfl|N
    ·exact Vs A _ (by rw[Jv]at ho;exact B74 ho)
    ·cases N
  ·cases h
 cases l with
 |nil=>
  simp only[Dx]at s;simp only[Gm]at h;have hr:Region.ready .any ops.toArray listed=[]:=by simpa using s
  have hQ:∀G,Rel w G->Nv C.n Q .normal a G:=λG h1=>⟨env,ha,hK st ρ env G h (U.rel h1).sat (Ext.refl ρ) (Grow.refl st) λ_ _=>rfl⟩;cases m with
  |zero=>exact⟨hI,hr,hQ⟩
  |succ m=>exact⟨hI,λ_=>hQ,λi hi=>by rw[hr]at hi;cases hi⟩
 |fork k1 p1 k2 p2=>
  cases m with
  |zero=>simp[Dx]at s
  |succ m=>
  simp only[Dx,B5l]at s;simp only[Gm]at h;obtain⟨p4,p5⟩:=Bgy h;have T:=D.no;simp only[Hy,B5l]at T;refine⟨hI,λh'=>by rw[h']at s;simp at s,λi hi G h1=>?_⟩;have q:=B6b.1 s.2 i hi;cases W:B5w i k1 with
  |true=>rw[W]at q;simp only[cond_true]at q;cases B5k W;exact b2 m _ p1 (λf hf=>B6f _ hf) T.1 hi q p4 G h1
  |false=>
   rw[W]at q;simp only[cond_false]at q;cases d8:B5w i k2 with
   |true=>rw[d8]at q;simp only[cond_true]at q;cases B5k d8;exact b2 m _ p2 (λf hf=>B54 _ hf) T.2 hi q p5 G h1
   |false=>rw[d8]at q;simp only[cond_false,B5l]at q;exact H m i hi (by simpa using q.1) q.2 G h1
 |cons p l=>
 cases p with
 |lk k=>
  have T:Hy l=true:=D.no;cases m with
  |zero=>simp[Dx]at s
  |succ m=>
  simp only[Dx,B5l]at s;simp only[Gm]at h;split at h
  ·rename_i o ho;have S:=(bt h).1;replace h:=(bt h).2;simp only[B5l]at S;obtain⟨⟨b0,c8⟩,I⟩:=S;cases j1:Aqd o with
   |true=>
    rw[j1]at h;simp only[cond_true]at h;obtain⟨B',d4,V⟩:=U.frame;obtain⟨d,sv,v,u,ρ',e1,b9,k1,k2,k3,k4,k5,k6,k7⟩:=Bnf d4 j1 h;have b1:=(bt k1).1;replace k1:=(bt k1).2
    have a6:o.guard=none:=by
     unfold Ue at b0;rw[ho]at b0;simp only[B5l]at b0;have h9:=b0.2;unfold isNone at h9;split at h9
     ·assumption
     ·cases h9
    have c0:k∈Region.ready .any ops.toArray listed:=by simpa using s.1.1
    have a5:An (Ev fl) d=false:=by unfold Tr at I;rw[e1]at I;simpa using I
    have b7:(u.put d sv).env=(d,some sv)::st.env:=by show(d,some sv)::u.env=_;rw[k6]
    refine A9w (v:=v) (P ho) (Region.noSelect_spec h7) m listed j a w hd (by rw[Y,D.sz]) (Region.free_spec (P ho) s.1.2) c0 (λw' _=>?_) ?_
    ·refine .inl ⟨by simp[Region.wanted,a6],?_⟩;obtain⟨d0,v4,r2,s4,t5,g0⟩:=o;intro G _;unfold Oper.wp;rw[k7 G C.n _ _ _ _ a ha];exact⟨Rel.refl G,rfl⟩
    ·rw[e1];refine ih m _ j l E (u.put d sv) K ρ' ((d,v)::env) w k1 s.2 Y (V ρ' (u.put d sv) ((d,v)::env) w k2 ⟨k3.len,k3.env.put k4 d,k3.mem⟩) (D.step (λf hf=>hf) T (B5k c8) c9 (λt A=>Xv (Rq a5 A)) λt A=>by rw[b7];exact Ny (Rq a5 A)) (hx.trans k2) (hg.trans ⟨k5.nxt,k5.own,k5.rds⟩) b1 (hd.set c0) (λe6 e7 b5 w2 g1 g2 g3 g4 g5=>hK e6 e7 b5 w2 g1 g2 (k2.trans g3) (Grow.trans ⟨k5.nxt,k5.own,k5.rds⟩ ⟨g4.nxt,g4.own,g4.rds⟩) λt A=>?_) _ (ha.put b9 v);rw[g5 t A,b7];exact Ny λa9=>Vs A o (by rw[Jv]at ho;exact B74 ho) (by rw[e1,a9])
   |false=>
   rw[j1]at h;simp only[cond_false]at h;obtain⟨B0,m7⟩:=A3p (hI w (Rel.refl w)) hx U.len U.env;obtain⟨d,sv,v,e1,e2,e3,e4,e5⟩:=Bnd hC ho b0 h U.len U.env ⟨B0,w,m7⟩
   have a6:o.guard=none:=by
    unfold Ue at b0;rw[ho]at b0;simp only[B5l]at b0;have h9:=b0.2;unfold isNone at h9;split at h9
    ·assumption
    ·cases h9
   have c0:k∈Region.ready .any ops.toArray listed:=by simpa using s.1.1
   have a5:An (Ev fl) d=false:=by unfold Tr at I;rw[e1]at I;simpa using I
   refine A9w (v:=v) (P ho) (Region.noSelect_spec h7) m listed j a w hd (by rw[Y,D.sz]) (Region.free_spec (P ho) s.1.2) c0 (λw' n0=>?_) ?_
   ·obtain⟨B1,m8⟩:=A3p (n0 w' (Rel.refl w')) hx U.len U.env;exact .inl ⟨by simp[Region.wanted,a6],(e5 B1 w' m8 C.n a ha).get⟩
   ·rw[e1];refine ih m _ j l E {st with env:=(d,some sv)::st.env} K ρ ((d,v)::env) w e3 s.2 Y ⟨U.len,U.env.put e4 d,U.mem⟩ (D.step (λf hf=>hf) T (B5k c8) c9 (λt A=>Xv (Rq a5 A)) λt A=>Ny (Rq a5 A)) hx ⟨hg.nxt,hg.own,hg.rds⟩ c6 (hd.set c0) (λu ρ' O w' k1 k2 k3 k4 k5=>hK u ρ' O w' k1 k2 k3 ⟨k4.nxt,k4.own,k4.rds⟩ λt A=>?_) _ (ha.put e2 v);rw[k5 t A];exact Ny λa9=>Vs A o (by rw[Jv]at ho;exact B74 ho) (by rw[e1,a9])
  ·cases h
 |qk k=>
  have T:Hy l=true:=D.no;cases m with
  |zero=>simp[Dx]at s
  |succ m=>
  simp only[Dx,B5l]at s;simp only[Gm]at h;split at h
  ·rename_i o ho;have S:=(bt h).1;replace h:=(bt h).2;simp only[B5l]at S;obtain⟨⟨c2,c8⟩,I⟩:=S;have a6:o.guard=none:=by unfold isNone at c2;split at c2;assumption;cases c2
   obtain⟨B',d4,V⟩:=U.frame;obtain⟨d,sv,v,u,ρ',e1,b9,k1,k2,k3,k4,k5,k6,k7⟩:=Aav hC d4 h;have b1:=(bt k1).1;replace k1:=(bt k1).2;have c0:k∈Region.ready .any ops.toArray listed:=by simpa using s.1.1
   have a5:An (Ev fl) d=false:=by unfold Tr at I;rw[e1]at I;simpa using I
   have b7:(u.put d sv).env=(d,some sv)::st.env:=by show(d,some sv)::u.env=_;rw[k6]
   refine B4t (v:=v) (P ho) (Region.noSelect_spec h7) m listed j a w hd (by rw[Y,D.sz]) (Region.free_spec (P ho) s.1.2) c0 (.inl ⟨by simp[Region.wanted,a6],(k7 C.n a ha).get⟩) ?_;rw[e1];refine ih m _ (j.setIfInBounds k true) l E (u.put d sv) K ρ' ((d,v)::env) w k1 s.2 (by simp[Y]) (V ρ' (u.put d sv) ((d,v)::env) w k2 ⟨k3.len,k3.env.put k4 d,k3.mem⟩) (D.step (λf hf=>hf) T (B5k c8) c9 (λt A=>Xv (Rq a5 A)) λt A=>by rw[b7];exact Ny (Rq a5 A)) (hx.trans k2) (hg.trans ⟨k5.nxt,k5.own,k5.rds⟩) b1 (hd.set c0) (λe6 e7 b5 w2 g1 g2 g3 g4 g5=>hK e6 e7 b5 w2 g1 g2 (k2.trans g3) (Grow.trans ⟨k5.nxt,k5.own,k5.rds⟩ ⟨g4.nxt,g4.own,g4.rds⟩) λt A=>?_) _ (ha.put b9 v);rw[g5 t A,b7];exact Ny λa9=>Vs A o (by rw[Jv]at ho;exact B74 ho) (by rw[e1,a9])
  ·cases h
 |op k=>
  have T:Hy l=true:=D.no;cases m with
  |zero=>simp[Dx]at s
  |succ m=>
  simp only[Dx,B5l]at s;refine⟨hI,λh'=>by rw[h']at s;simp at s,λi hi G h1=>?_⟩;have q:=B6b.1 s.2 i hi;cases W:B5w i k with
  |false=>rw[W]at q;simp only[cond_false,B5l]at q;exact H m i hi (by simpa using q.1) q.2 G h1
  |true=>rw[W]at q;simp only[cond_true]at q;cases B5k W;exact b2 m _ l (λf hf=>hf) T hi q h G h1
 |gh f=>
  simp only[Dx]at s;cases b8:listed.getD f false with
  |false=>
   rw[b8]at s;simp only[cond_false]at s;cases m with
   |zero=>cases s
   |succ m=>
   simp only[B5l]at s;refine⟨hI,λh'=>by rw[h']at s;simp at s,λi hi G h1=>?_⟩;have q:=B6b.1 s.2 i hi;simp only[B5l]at q;exact H m i hi (by simpa using q.1) q.2 G h1
  |true=>
   rw[b8]at s;simp only[cond_true]at s;have a0:=D.no;simp only[Hy,B5l]at a0;have h6:An (Gc l) f=false:=by simpa using a0.1
   obtain⟨e,E1,E2,rfl,d6⟩:=Aqv (D.in_ f (B5n ..) b8);obtain⟨e1,e2,e3,o,o1,o2,o3⟩:=D.e e (B54 _ (B5n ..));simp only[Gm]at h;split at h
   ·rename_i d r2 ty pos af ho;rw[d6,ho]at o1;obtain rfl:=B65.inj o1;have c7:d=e.d:=B65.inj o2;have S:=(bt h).1;replace h:=(bt h).2;obtain⟨b,j3,ti,t1,t2,t3⟩:=o3;unfold Abr at h;rw[t1]at h;simp only at h;have q0:=(A4i h).1;replace h:=(A4i h).2;have b1:=(bt h).1;replace h:=(bt h).2;have a1:=Ext.one ρ (.box b);have hl:=Dp ρ (.box b);rw[U.len]at hl;obtain⟨m1,rs1,g1,g2,g3,hM⟩:=U.mem;have g8:St B ((A2 b (B8g (ti.zero.map Cell.val)) j3::m1)++(E1++E2).map FE.x) rs1 w:=by refine hM.perm ?_;simp only[B9r,B6r,t3,B6a,<-B5r];exact B5u
    have gr:∀L,Grow st {st with own:=.box st.nxt st.nxt L::st.own,nxt:=st.nxt+1}:=λL=>Grow.fresh rfl (OwnLe.refl _);have d9:OwnOk (ρ++[.box b]) rs1 (.box st.nxt st.nxt ti.zero::st.own) (A2 b (B8g (ti.zero.map Cell.val)) j3::m1):=⟨⟨b,j3,_,hl,Ajb q0,rfl⟩,OwnOk.mono a1 (λ_ h=>h) g1⟩;refine ih m listed j l (E1++E2) _ K (ρ++[.box b]) env w h s Y ⟨by simp[U.len,SSt.put],?_,_,rs1,d9,g2.mono a1 λ_ h=>h,g3,g8⟩ (D.used d6 rfl h6 a0.2 λt=>?_) (hx.trans a1) (hg.trans ⟨(gr ti.zero).nxt,(gr ti.zero).own,(gr ti.zero).rds⟩) b1 hd (λu ρ' O w' k1 k2 k3 k4 k5=>hK u ρ' O w' k1 k2 (a1.trans k3) (Grow.trans (gr ti.zero) ⟨k4.nxt,k4.own,k4.rds⟩) λt A=>?_) a ha
    ·exact EnvOk.set (U.env.mono a1) (by rw[c7];exact e2) (by rw[t2];exact⟨b,hl,rfl⟩)
    ·by_cases A:d=t
     ·subst A;refine .inl λg d' hm j7 a5=>?_;subst a5;rw[c7]at hm;have:=Anx j9 hm e3;subst this;rw[e1]at j7;cases j7
     ·exact .inr (Ny A)
    ·rw[k5 t A];exact Ny λa9=>Vs A _ (by rw[Jv]at ho;exact B74 ho) (by rw[a9])
   ·cases h
 |li f=>
  simp only[Dx]at s;cases b8:listed.getD f false with
  |false=>
   rw[b8]at s;simp only[cond_false]at s;cases m with
   |zero=>cases s
   |succ m=>
   simp only[B5l]at s;refine⟨hI,λh'=>by rw[h']at s;simp at s,λi hi G h1=>?_⟩;have q:=B6b.1 s.2 i hi;simp only[B5l]at q;exact H m i hi (by simpa using q.1) q.2 G h1
  |true=>rw[b8]at s;simp only[cond_true]at s;simp only[Gm]at h;exact ih m listed j l E st K ρ env w h s Y U ⟨D.sz,D.e,D.in_,D.no,D.fls,D.out⟩ hx hg c6 hd hK a ha
 |ap k f=>
  cases m with
  |zero=>simp[Dx]at s
  |succ m=>
  simp only[Dx,B5l]at s;obtain⟨b8,s⟩:=s;refine⟨hI,λh'=>by rw[h']at s;simp at s,λi hi G h1=>?_⟩;have q:=B6b.1 s.2 i hi;cases W:B5w i k with
  |false=>rw[W]at q;simp only[cond_false,B5l]at q;exact H m i hi (by simpa using q.1) q.2 G h1
  |true=>
   rw[W]at q;simp only[cond_true]at q;cases B5k W;have a0:=D.no;simp only[Hy,B5l]at a0;have h6:An (Gc l) f=false:=by simpa using a0.1
   obtain⟨e,E1,E2,rfl,d6⟩:=Aqv (D.in_ f (B5n ..) b8);obtain⟨e1,e2,e3,o,o1,o2,o3⟩:=D.e e (B54 _ (B5n ..));simp only[Gm]at h;split at h
   ·rename_i d2 f6 l2 w8 s5 t6 d1 t v2 ps ty pos af ho p0;split at h
    ·rename_i dd y t1 t2 h5 k8;have S:=(bt h).1;replace h:=(bt h).2;simp only[B5l]at S;obtain⟨⟨⟨q1,q2⟩,q3,q4⟩,⟨q5,q6⟩,q7⟩:=S;cases B5k q1;cases B5k q3;cases B5k q4;have f1:f6= #[.tmp d1,y]:=by cases f6;simpa using h5
     have j2:l2= #[t,t]:=by cases l2;simpa using k8
     subst f1 j2;rw[d6,p0]at o1;obtain rfl:=B65.inj o1;have c7:d1=e.d:=B65.inj o2;obtain⟨ee,ei,te,b,l3,r3,r4⟩:=o3;have j0:=U.rel h1;have l1:An (Ev fl) d2=false:=by simpa using q7
     unfold Zz at h;split at h
     ·rename_i hh e' t8 w7 hy A;rw[l3]at A;cases A;obtain⟨u1,_,z,hz,_⟩:=Ni l3;have f2:=(bt h).1;replace h:=(bt h).2;simp only[B5l]at f2;rw[<-B5k f2.2.2]at hz;split at h
      ·rename_i c n6;split at h
       ·rename_i M g8;have n3:=(Bf h).1;replace h:=(Bf h).2;have b1:=(bt h).1;replace h:=(bt h).2;obtain⟨vv,v1,sv,s1,rfl⟩:=j0.env.evC hy;obtain⟨s',s2,s3⟩:=j0.sat.rd n6;rw[s1]at s2;cases s2;obtain⟨ec,j5⟩:=Ls g8;obtain⟨t',L'⟩:=c;simp only at ec j5 s3;subst ec j5;obtain⟨m1,rs1,g1,g2,g3,hM⟩:=j0.mem;have n2:St B (oC (Ac (sz t') (fD t') ([]:List (Bi t'))) (Sv.v ⟨some ⟨b,0,none⟩,0,0⟩)::(m1++(E1++E2).map FE.x)) rs1 G:=by refine hM.perm ?_;simp only[B9r,B6r,r4,<-B5r];exact B5u
        refine Are (P ho) rfl (.inr λv w' h=>h.1) ha (OD.ex (A9z u1 hz v1 (by rw[c7];simp only[ev];rw[e2,r3]) s3 (Agp f2.2.1) n2 n3 f2.1 (K:=λv w'=>Rel G w'/\∃sn:Sv,v=sn.v/\St B (oC (Ac (sz t') (fD t') ([]++L')) sn.v::(m1++(E1++E2).map FE.x)) rs1 w') λs' w4 p6 g9=>⟨p6,s',rfl,g9⟩)) λv w' ⟨_,sn,hv,g9⟩=>?_;subst hv;have a1:=Ext.one ρ (.row sn);have hl:=Dp ρ (.row sn);rw[U.len]at hl;have gr:∀L,Grow st {st with own:=.row st.nxt st.nxt t' L []::st.own,nxt:=st.nxt+1}:=λL=>Grow.fresh rfl (OwnLe.refl _);have d9:OwnOk (ρ++[.row sn]) rs1 (.row st.nxt st.nxt t' ([]++L') []::st.own) (oV (oC (Ac (sz t') (fD t') ([]++L')) sn.v) []::m1):=⟨⟨sn,[],hl,rfl,rfl⟩,OwnOk.mono a1 (λ_ h=>h) g1⟩;refine ih m _ j l (E1++E2) _ K (ρ++[.row sn]) ((d2,sn.v)::env) w' h q Y ⟨by simp[U.len,SSt.put],?_,_,rs1,d9,g2.mono a1 λ_ h=>h,g3,g9.z Z.toV⟩ ?_ (hx.trans a1) (hg.trans ⟨(gr ([]++L')).nxt,(gr ([]++L')).own,(gr ([]++L')).rds⟩) b1 (hd.set hi) (λu ρ' O w' k1 k2 k3 k4 k5=>hK u ρ' O w' k1 k2 (a1.trans k3) (Grow.trans (gr ([]++L')) ⟨k4.nxt,k4.own,k4.rds⟩) λt A=>?_) _ (ha.put q5 _)
        ·exact(U.env.mono a1).put (sv:=.v (.c (.sl st.nxt))) ⟨sn,hl,rfl⟩ d2
        ·have hu:EOk ops fl listed env st l (E1++E2):=D.used d6 rfl h6 a0.2 λt=>.inr rfl;have p8:EOk ops fl listed env st (.cons (.lk k) l) (E1++E2):=⟨hu.sz,hu.e,hu.in_,hu.no,hu.fls,hu.out⟩;exact p8.step (λf hf=>hf) hu.no (B5k q6) c9 (λt A=>Xv (Rq l1 A)) λt A=>Ny (Rq l1 A)
        ·rw[k5 t A];exact Ny λa9=>Vs A _ (by rw[Jv]at ho;exact B74 ho) (by rw[a9])
       ·cases h
      ·cases h
     ·cases h
    ·cases h
   ·cases h
theorem Aqj{W}:∀ {own:List Chunk},∀a∈Ui W own,a∈own
 |[],a,h=>h
 |c::own,a,h=>by
  simp only[Ui]at h;cases b:Aqa c&&!An W (hOf c)with
  |true=>
   rw[b]at h;rcases B5t.1 h with rfl|h
   ·exact B5n ..
   ·exact B5j _ (Aqj a h)
  |false=>rw[b]at h;exact B5j _ (Aqj a h)
theorem A3w{W}:∀ {own:List Chunk} {m:List As},OwnOk ρ rs own m->∃m',OwnOk ρ rs (Ui W own) m'
 |[],[],_=>⟨[],trivial⟩
 |c::own,a::m,⟨h1,h2⟩=>by
  obtain⟨m',b⟩:=A3w (W:=W) h2;simp only[Ui];cases Aqa c&&!An W (hOf c)with
  |true=>exact⟨a::m',h1,b⟩
  |false=>exact⟨m',b⟩
 |[],_::_,h=>h.elim
 |_::_,[],h=>h.elim
theorem Bvr (x:COk amb C){Q id aops draw K} (h:Asr C aops.toList draw st K=some r) (u:Sat B amb ρ st env w)
  (y:∀g ρ' b w',K g=some r->Sat B amb ρ' g b w'->Ext ρ ρ'->Grow st g->(∀t,An (Bj aops.toList) t=false->Au g.env t=Au st.env t)->Q .normal b w'):WC Tryz.prog C.n (.region id aops draw) Q env w:=by
 have e:aops=aops.toList.toArray:=by simp
 unfold Asr at h;cases draw with
 |false=>rw[e];exact Auc (Yj x _ _ st K ρ env w h u y)
 |true=>
  simp only[cond_true]at h;cases i:Region.noSelect aops.toList.toArray&&Rz aops.toList.toArray (Pv C (Ko aops.toList) aops.toList aops.toList.length (B7c aops.toList.length false)) (B7c aops.toList.length false)with
  |true=>rw[i]at h;simp only[cond_true]at h;simp only[B5l]at i;exact Bvp x i.1 i.2 h u y
  |false=>
   rw[i]at h;simp only[cond_false]at h;have G:=(bt h).1;replace h:=(bt h).2;simp only[B5l]at G;obtain⟨⟨⟨L,M⟩,⟨⟨N,O⟩,P,S⟩,T⟩,U⟩:=G;obtain⟨m,rs,D,V,Y,hM⟩:=u.mem;obtain⟨m0,z⟩:=A3w (W:=Asp st.env aops.toList aops.toList) D;rw[e];intro a ha;have hw:=Bvq (B:=B) x (Q:=Q) (ρ0:=ρ) (st0:=st) z (λa h=>Aqj a h) M L rfl N P _ _ _ _ _ [] _ K ρ env w h T (by simp) ⟨u.len,λt sv o=>?_,m,rs,D,V,Y,by simpa using hM⟩ ⟨by simp,(λ_ h=>by cases h),λf H I=>?_,O,λf H=>by simpa using B6b.1 S f H,λf d hm _=>A9c (Xx hm)⟩ (Ext.refl ρ) ⟨B6i _,λc h _=>⟨c,h,.inl rfl⟩,[],rfl⟩ U (Down.init _) (λg ρ' b w' k1 k2 k3 A k5=>y g ρ' b w' k1 k2 k3 ⟨A.nxt,A.own,A.rds⟩ λt o=>?_) a ha
   ·exact wp_region_any Tryz_mixed (Aul (QA:=λa w=>Nv C.n Q .normal a w) (λ_ _ h=>h) _ _ _ _ _ (by simpa using Acz hw (Rel.drew (Rel.refl w))))
   ·cases j:An (Ev (Ie aops.toList 0 aops.toList)) t with
    |true=>rw[A9c j]at o;cases o
    |false=>rw[A9d j]at o;exact u.env t sv o
   ·exfalso;have v:(B7c aops.toList.length false).getD f false=false:=by rw[B8p,Array.getElem?_replicate];split<;>rfl
    rw[v]at I;cases I
   ·rw[k5 t o];refine A9d ?_;cases j:An (Ev (Ie aops.toList 0 aops.toList)) t with
    |false=>rfl
    |true=>
     exfalso
     have:∀ {p l:List Oper} {k:Nat},An (Ev (Ie p k l)) t=true->An (Bj l) t=true:=λ{p l k}=>by
      induction l generalizing k with
      |nil=>intro h;cases h
      |cons q l s=>
       intro h;simp only[Ie]at h;simp only[Bj];split at h
       ·rename_i d hd;simp only[An,B6s];cases v:B5w (Xg p q) 0 with
        |true=>rw[v]at h;exact .inr (s h)
        |false=>rw[v]at h;simp only[cond_false,Ev,An,B6s]at h;exact h.imp (λh=>h) s
       ·rename_i hd;exact s h
     rw[this j]at o;cases o
end
end
section
open Go.RowKit
section
variable {ρ ρ':List HV} {rs rs':List Rd} {B:Base} {amb:List Rd} {st:SSt} {env:Env} {w:World} {m:List As}
variable {C:Ctx} {R0 R:Type} {Bp:SSt->Option R0} {rt:R0->Option R} {K:Option Nat->SSt->Option R} {r:R} {Q:Post}
theorem Po {α a:Type}{x} {f:α->a}{z} (h:x.map f=some z):∃y,x=some y/\f y=z:=B5s.1 h
theorem N0{b x} (h:(bif !b then none else x)=some r):b=true/\x=some r:=by
 cases b with
 |true=>exact⟨rfl,h⟩
 |false=>cases h
theorem Bhz{o a c} (M:RunOk B amb C Bp a) (N:RunOk B amb C Bp c):RunOk B amb C Bp (.cond o a c):=λR b st rt K r ρ env w Q h u D F=>by
 have q:∀t,An (wr a++wr c) t=false->An (wr a) t=false:=λt v=>by rw[I9,B6k]at v;exact v.1
 have s:∀t,An (wr a++wr c) t=false->An (wr c) t=false:=λt v=>by rw[I9,B6k]at v;exact v.2
 rw[run]at h;split at h
 ·cases h
 ·rename_i t v;have O:=u.env.evB v;split at h
  ·refine H5 O (λe=>?_) (λe=>?_)
   ·rw[e]at h;exact M R b st rt K r ρ env w Q h u (λe x ρ' j w' L P=>D e x ρ' j w' L (P.mono q)) F
   ·rw[e]at h;exact N R b st rt K r ρ env w Q h u (λe x ρ' j w' L P=>D e x ρ' j w' L (P.mono s)) F
  ·rename_i f _;dsimp only at h;split at h
   ·cases h
   ·rename_i p I;have n:=(N0 h).1;replace h:=(N0 h).2;simp only[B5l]at n;cases hx:f.esc with
    |true=>
     rw[hx]at h;simp only[cond_true]at h;obtain⟨y,l,A⟩:=Af h;have d:∀(g:SSt) (z:Sum (VT f.vary) R0),Option.map B7k (Ef f.vary {p.2 with env:=Bq (Bd f.vary++(wr a++wr c)) st.env} g)=some z->∃i,Ef f.vary {p.2 with env:=Bq (Bd f.vary++(wr a++wr c)) st.env} g=some i/\(B7k i:Sum (VT f.vary) R0)=z:=λg z S=>Po S;have k:∀i,(B7k i:Sum (VT f.vary) R0)=y->K none (Ee f.vary i {p.2 with env:=Bq (Bd f.vary++(wr a++wr c)) st.env})=some r:=λi e=>by rw[<-e]at A;exact A
     have G:∀H,some (B6e H:Sum (VT f.vary) R0)=some y->rt H=some r:=λH e=>by cases e;exact A
     refine H5 O (λe=>?_) (λe=>?_)
     ·rw[e]at l;exact Ag8 M q u I n.1 n.2 d l k G D F
     ·rw[e]at l;exact Ag8 N s u I n.1 n.2 d l k G D F
    |false=>
     rw[hx]at h;simp only[cond_false]at h;obtain⟨y,l,A⟩:=Af h;have d:∀g z,Ef f.vary {p.2 with env:=Bq (Bd f.vary++(wr a++wr c)) st.env} g=some z->∃i,Ef f.vary {p.2 with env:=Bq (Bd f.vary++(wr a++wr c)) st.env} g=some i/\id i=z:=λg z S=>⟨z,S,rfl⟩;have k:∀i,id i=y->K none (Ee f.vary i {p.2 with env:=Bq (Bd f.vary++(wr a++wr c)) st.env})=some r:=λi e=>by rw[<-e]at A;exact A
     refine H5 O (λe=>?_) (λe=>?_)
     ·rw[e]at l;exact Ag8 M q u I n.1 n.2 d l k (λH e=>by cases e) D F
     ·rw[e]at l;exact Ag8 N s u I n.1 n.2 d l k (λH e=>by cases e) D F
theorem A9k{v wl} {p:List Leaf×SSt}{s1 st' ρ1 ls0 env0 env' w0 w' y}
  (g:Inv B amb ρ {p.2 with env:=Bq (Bd v++wl) st.env} v ls0 env0 w0) (b:Gi s1=true) (hx:Ext ρ ρ1) (c:PutSt {p.2 with env:=Bq (Bd v++wl) st.env} s1)
  (h:∀t sv,Au (Bq (Bd v++wl) st.env) t=some sv->Au s1.env t=some sv) (a:Nx B amb wl ρ1 s1 ρ' st' env' w') (i:Ef v {p.2 with env:=Bq (Bd v++wl) st.env} st'=some y):
  Inv B amb ρ {p.2 with env:=Bq (Bd v++wl) st.env} v (On (Iu _ y)) env' w':=
 g.back b c.own a.sat (hx.trans a.ext) a.grow (by
  obtain⟨x,e⟩:=a.grow.rds;obtain⟨z,f⟩:=c.grow.rds;exact⟨x++z,by rw[e,f,B5r]⟩) (λt sv d=>by
  rcases a.fr t (Abd d).2 with q|q
  ·exact .inl q
  ·exact .inr (by rw[q];exact h t sv d)) i
theorem PutSt.grow0 {p:List Leaf×SSt}{e s} (d:∀c∈p.2.own,c∈st.own) (a:p.2= {st with own:=p.2.own}) (h:PutSt {p.2 with env:=e} s):Grow st s:=by
 refine Grow.trans (b:= {p.2 with env:=e}) ⟨?_,λc f _=>⟨c,d c f,.inl rfl⟩,?_⟩ h.grow
 ·show st.nxt<=p.2.nxt;rw[a];exact B6i _
 ·show∃x,p.2.rds=x++st.rds;rw[a];exact⟨[],rfl⟩
theorem A3n{c} (hc:RunOk B amb C Bp c){b v p} (hs:Sat B amb ρ st env w) (hp:Ib (Bq (Bd v++wr c) st.env) v st=some p) (D:Oh (wr c) (Bd v)=true)
  {x0:VT v} (T:Sp (Vq v) (Vc p.1)=some x0){R1} {inj:VT v->R1}{rt1}{go out}{f}{y}
  (hf:∀x z,f x=some z->Gi (Ee v x {p.2 with env:=Bq (Bd v++wr c) st.env})=true/\run C Bp c b (Ee v x {p.2 with env:=Bq (Bd v++wr c) st.env}) rt1 (Pc b go out)=some z)
  (L:∀i z,go i=some z->∃a,Ef v {p.2 with env:=Bq (Bd v++wr c) st.env} i=some a/\z=.go a)
  (u:∀i z,out i=some z->∃a,Ef v {p.2 with env:=Bq (Bd v++wr c) st.env} i=some a/\z=.out (inj a))
  (S:∀F z,rt1 F=some z->∃q,z=.out q/\(q=y->rt F=some r)) (h:Bc f x0=some y)
  (I:∀a,inj a=y->K (some b) (Ee v a {p.2 with env:=Bq (Bd v++wr c) st.env})=some r) (hK:KOk B amb (wr c) ρ st K r Q) (hR:ROk B amb ρ st Bp rt r Q):WC Tryz.prog C.n (.loop c) Q env w:=by
 obtain⟨hI,h1,h2⟩:=Inv.enter hs hp λt sv G=>(Rm G).2;rw[<-Ajz (ls:=p.1),<-Acw T]at hI;obtain⟨n,hn⟩:=A3o h;refine A9t (α:=Nat×VT v) (λs env w=>Inv B amb ρ {p.2 with env:=Bq (Bd v++wr c) st.env} v (On (Iu _ s.2)) env w/\Hc f s.1 s.2=some y) (λs=>s.1) (n,x0) ⟨hI,hn⟩ ?_;rintro ⟨m,x⟩ env1 w1 ⟨hI1,hm⟩;obtain⟨m',z,rfl,hz,k⟩:=Bqn hm;obtain⟨P,A⟩:=hf x z hz;obtain⟨V,X,a2,Y,a4⟩:=hI1.sat;refine hc _ b _ rt1 _ z V env1 w1 _ A a2 (λe g ρ' d w' l O=>?_) λg F ρ' d w' k1 k2 k3 k4 k5=>?_
 ·have o:∀a,Ef v {p.2 with env:=Bq (Bd v++wr c) st.env} g=some a->Inv B amb ρ {p.2 with env:=Bq (Bd v++wr c) st.env} v (On (Iu _ a)) d w':=λa U=>
   A9k hI1 P X Y (λt sv G=>(a4 t (Abd G).1).trans G) O U
  cases e with
  |none=>obtain⟨a,H,rfl⟩:=L g z l;exact⟨(m',a),B9x _,o a H,k⟩
  |some j=>simp only[Pc]at l;have M:=(bt l).1;replace l:=(bt l).2;obtain⟨a,H,rfl⟩:=u g z l;obtain⟨W,N⟩:=Ag5 h1 h2 D (o a H);have M:=B5k M;subst M;exact hK (some _) _ W d w' (I a (B65.inj k)) N
 ·obtain⟨q,rfl,hq⟩:=S F z k2;exact hR g F ρ' d w' k1 (hq (B65.inj k)) k3 (X.trans k4) ((Y.grow0 h1 h2).trans k5)
theorem Boa{c k n e d} (h:Aa5 c=some (k,n,e,d)):∃id t u ty pos af rest,c=.seq (.region id #[⟨some d,.binOp .lss t (.tmp k) (.tmp n) u,ty,pos,af,none⟩] false) (.seq (.cond (.tmp d) .skip (.exit e)) rest):=by
 unfold Aa5 at h;split at h
 ·rename_i id b c' i rest;split at h
  ·rename_i g t k' n' u ty pos af a;have f:=(bt h).1;replace h:=(bt h).2;cases h;cases B5k f;refine⟨id,t,u,ty,pos,af,rest,?_⟩;have:b=b.toList.toArray:=by simp
   rw[this,a]
  ·cases h
 ·cases h
theorem Bog{c k n e d N} (h:Aa5 c=some (k,n,e,d)) (o:B63 d N=true){i j} (f:lk env k=some (.int .i64 i)) (g:lk env n=some (.int .i64 j)) (a:¬i<j) (p:Q (.exit e) ((d,.bool false)::env) w):WC Tryz.prog N c Q env w:=by
 obtain⟨id,t,u,ty,pos,af,rest,rfl⟩:=Boa h;refine Fc (Auc (l:=[_]) (wv o (Asc f g) (Auj ?_)));show WC _ _ _ Q _ w;have b:(Value.bool (decide (i<j)))=.bool false:=by simp[a]
 rw[b];exact Fc (B4p (by simp[ev,lk]) (A9s p))
theorem Bqm{u x} (h:Abc u x=true):∃k q,x=some (.sx u k q):=by
 unfold Abc at h;split at h
 ·rename_i a k q;cases B5k h;exact⟨k,q,rfl⟩
 ·cases h
theorem Aoy{se} {s:Nat}{x} (h:evC se (.tmp s)=some x):Au se s=some (.v (.c x)):=by
 unfold evC at h;split at h
 ·rename_i y a;cases h;exact a
 ·cases h
theorem A1e{c} (hc:RunOk B amb C Bp c){b v p} (hs:Sat B amb ρ st env w) (hp:Ib (Bq (Bd v++wr c) st.env) v st=some p) (I:Oh (wr c) (Bd v)=true)
  {x0:VT v} (c7:Sp (Vq v) (Vc p.1)=some x0){ks ns d hh n} (L:Aa5 c=some (ks,ns,b,d)) (hd:B63 d C.n=true) (b5:An (Bd v) d=false) (b6:An (wr c) d=true) (c0:An (wr c) ks=true)
  (c1:evC (Bq (Bd v++wr c) st.env) (.tmp ns)=some (.ln hh n)) (a8:evC st.env (.tmp ks)=some (.i .i64 0)){R1}{inj}{rt1} {go out:SSt->Option (Lr (VT v) R1)}{f}{y}
  (hf:∀k x z,f k x=some z->Gi (Ee v x {p.2 with env:=Bq (Bd v++wr c) st.env})=true/\run C Bp c b (Tz ks k hh (Ee v x {p.2 with env:=Bq (Bd v++wr c) st.env})) rt1 (Pc b (λg=>bif Abc (Ee v x {p.2 with env:=Bq (Bd v++wr c) st.env}).nxt (evC g.env (.tmp ks))then go g else none) out)=some z)
  (b7:∀g z,go g=some z->∃a,Ef v {p.2 with env:=Bq (Bd v++wr c) st.env} g=some a/\z=.go a)
  (W:∀g z,out g=some z->∃a,Ef v {p.2 with env:=Bq (Bd v++wr c) st.env} g=some a/\z=.out (inj a))
  (c5:∀r0 z,rt1 r0=some z->∃q,z=.out q/\(q=y->rt r0=some r)) (h:Ai f inj n 0 x0=some y)
  (T:∀a,inj a=y->K (some b) (Ee v a {p.2 with env:=Bq (Bd v++wr c) st.env})=some r) (hK:KOk B amb (wr c) ρ st K r Q) (hR:ROk B amb ρ st Bp rt r Q):WC Tryz.prog C.n (.loop c) Q env w:=by
 obtain⟨hI,h1,h2⟩:=Inv.enter hs hp λt sv H=>(Rm H).2;rw[<-Ajz (ls:=p.1),<-Acw c7]at hI;have b8:lk env ks=some (iv ((0:Nat):Int)):=by obtain⟨u,u1,u2⟩:=hs.env _ _ (Aoy a8);cases u2;exact u1
 refine A9t (α:=Nat×Nat×VT v) (λs env w=>Inv B amb ρ {p.2 with env:=Bq (Bd v++wr c) st.env} v (On (Iu _ s.2.2)) env w/\lk env ks=some (iv (s.2.1:Int))/\s.2.1+s.1=n/\Ai f inj s.1 s.2.1 s.2.2=some y) (λs=>s.1) (n,0,x0) ⟨hI,b8,by simp,h⟩ ?_;rintro ⟨m,k,x⟩ env1 w1 ⟨hI1,hk,hkm,hm⟩;obtain⟨u,u1,u2,q,q1,q2,q3⟩:=hI1.evs _ _ (Aoy c1);subst u2;replace hkm:k+m=n:=hkm;cases m with
 |zero=>
  have b9:k=n:=hkm;refine Bog L hd hk u1 (by subst b9;exact Int.lt_irrefl _) ?_
  have b4:Au (Bq (Bd v++wr c) st.env) d=none:=by
   cases hq:Au (Bq (Bd v++wr c) st.env) d with
   |none=>rfl
   |some sv=>have:=(Abd hq).2;rw[b6]at this;cases this
  obtain⟨P,M⟩:=Ag5 h1 h2 I (hI1.put (d:=d) (u:=.bool false) b5 b4);exact hK (some b) _ P _ w1 (T x (B65.inj hm)) M
 |succ m'=>
  obtain⟨z,hz,O⟩:=Af (x:=f k x) hm;obtain⟨c3,X⟩:=hf k x z hz;obtain⟨F,a1,a2,a3,a4⟩:=hI1.sat;have A:=Ext.one F (.num k);have l:=Dp F (.num k);rw[a2.len]at l;have c2:∀t,An (wr c) t=false->B5w ks t=false:=λt H=>Jn λe=>by rw[<-e,c0]at H;cases H
  have Y:Sat B amb (F++[.num k]) (Tz ks k hh (Ee v x {p.2 with env:=Bq (Bd v++wr c) st.env})) env1 w1:=by obtain⟨m0,c9,b1,b2,b3,hM⟩:=a2.mem;refine⟨by simp[Tz,<-a2.len,Ee],EnvOk.set (a2.env.mono A) hk ?_,m0,c9,OwnOk.mono A (λ_ h=>h) b1,b2.mono A λ_ h=>h,b3,hM⟩;exact⟨rfl,l,q,A.get (a1.get q1),by omega,by omega⟩
  have V:Nx B amb (wr c) F (Ee v x {p.2 with env:=Bq (Bd v++wr c) st.env}) (F++[.num k]) (Tz ks k hh (Ee v x {p.2 with env:=Bq (Bd v++wr c) st.env})) env1 w1:=
   ⟨Y,A,⟨B8b _,λc' h _=>⟨c',h,.inl rfl⟩,[],rfl⟩,λt H=>.inr (by simp only[Tz,Au,c2 t H,cond_false])⟩
  refine hc _ b _ rt1 _ z _ env1 w1 _ X Y (λe D ρ' o w' G N=>?_) λD r0 ρ' o w' k1 k2 k3 k4 k5=>?_
  ·have S:∀a,Ef v {p.2 with env:=Bq (Bd v++wr c) st.env} D=some a->Inv B amb ρ {p.2 with env:=Bq (Bd v++wr c) st.env} v (On (Iu _ a)) o w':=λa c8=>
    A9k hI1 c3 a1 a3 (λt sv H=>(a4 t (Abd H).1).trans H) (V.trans N) c8
   cases e with
   |none=>simp only[Pc]at G;have U:=(bt G).1;replace G:=(bt G).2;obtain⟨a,e1,rfl⟩:=b7 D z G;refine⟨(m',k+1,a),B9x _,S a e1,?_,by show k+1+m'=n;omega,O⟩;obtain⟨k',q',c6⟩:=Bqm U;obtain⟨u',v1,v2,v3⟩:=N.sat.env _ _ (Aoy c6);have v4:=N.ext.get l;have v5:some (HV.num k')=some (HV.num k):=v3.symm.trans v4;cases v5;rw[v1,v2];show some (iv ((k:Int)+1))=some (iv ((k+1:Nat):Int));rw[Ca3];rfl
   |some j=>simp only[Pc]at G;have U:=(bt G).1;replace G:=(bt G).2;obtain⟨a,e1,rfl⟩:=W D z G;obtain⟨P,M⟩:=Ag5 h1 h2 I (S a e1);have U:=B5k U;subst U;exact hK (some _) _ P o w' (T a (B65.inj O)) M
  ·obtain⟨q,rfl,hq⟩:=c5 r0 z k2;exact hR D r0 ρ' o w' k1 (hq (B65.inj O)) k3 (a1.trans (A.trans k4)) (((a3.grow0 h1 h2).trans V.grow).trans k5)
theorem Brp{c} (F:RunOk B amb C Bp c):RunOk B amb C Bp (.loop c):=λR b st rt K r ρ env w Q h I A D=>by
 rw[run]at h;split at h
 ·cases h
 ·rename_i G _;dsimp only at h;split at h
  ·cases h
  ·rename_i p H;have o:=(N0 h).1;replace h:=(N0 h).2;split at h
   ·cases h
   ·rename_i x0 s;split at h
    ·rename_i Y ns X;split at h
     ·rename_i k' n' e d q n j v u;have S:=(bt h).1;replace h:=(bt h).2;simp only[B5l,B66]at S;obtain⟨⟨⟨T,U⟩,V,M,N⟩,O,P⟩:=S;have g:=B5k T;have e2:=B5k U;have W:=B5k V;rw[<-g,<-e2,W]at j;cases hx:G.esc with
      |true=>
       rw[hx]at h;simp only[cond_true]at h;obtain⟨y,t,i⟩:=Af h
       exact A1e F I H o s j M N O P v u (inj:=λx=>(B7k x:Sum (VT G.vary) _)) (λk x z a=>N0 a) (λl z a=>by obtain⟨f,g,e2⟩:=Po a;exact⟨f,g,e2.symm⟩) (λl z a=>by obtain⟨f,g,e2⟩:=Po a;exact⟨f,g,e2.symm⟩)
        (λL z a=>by cases a;exact⟨_,rfl,λe=>by rw[<-e]at i;exact i⟩) t (λf e=>by rw[<-e]at i;exact i) A D
      |false=>
       rw[hx]at h;simp only[cond_false]at h;obtain⟨y,t,i⟩:=Af h
       exact A1e F I H o s j M N O P v u (inj:=λx=>x) (λk x z a=>N0 a) (λl z a=>by obtain⟨f,g,e2⟩:=Po a;exact⟨f,g,e2.symm⟩) (λl z a=>by obtain⟨f,g,e2⟩:=Po a;exact⟨f,g,e2.symm⟩)
        (λL z a=>by cases a) t (λf e=>by rw[<-e]at i;exact i) A D
     ·cases h
    ·cases hx:G.esc with
     |true=>
      rw[hx]at h;simp only[cond_true]at h;obtain⟨y,t,i⟩:=Af h
      exact A3n F I H o s (inj:=λx=>(B7k x:Sum (VT G.vary) _)) (λx z a=>N0 a) (λl z a=>by obtain⟨f,g,e2⟩:=Po a;exact⟨f,g,e2.symm⟩) (λl z a=>by obtain⟨f,g,e2⟩:=Po a;exact⟨f,g,e2.symm⟩)
       (λL z a=>by cases a;exact⟨_,rfl,λe=>by rw[<-e]at i;exact i⟩) t (λf e=>by rw[<-e]at i;exact i) A D
     |false=>
      rw[hx]at h;simp only[cond_false]at h;obtain⟨y,t,i⟩:=Af h
      exact A3n F I H o s (inj:=λx=>x) (λx z a=>N0 a) (λl z a=>by obtain⟨f,g,e2⟩:=Po a;exact⟨f,g,e2.symm⟩) (λl z a=>by obtain⟨f,g,e2⟩:=Po a;exact⟨f,g,e2.symm⟩)
       (λL z a=>by cases a) t (λf e=>by rw[<-e]at i;exact i) A D
theorem A63 (x:COk amb C) c:RunOk B amb C Bp c:=by
 induction c with
 |skip=>exactλR b st rt K r ρ env w Q h d e j=>Mn (e none st ρ env w h (Nx.refl d))
 |region id z q=>exactλR b st rt K r ρ env w Q h d e j=>Bvr x h d λp ρ' g w' k l s u v=>e none p ρ' g w' k ⟨l,s,u,λt y=>.inr (v t y)⟩
 |seq a c n f=>exact Bxt n f
 |cond o a c n f=>exact Bhz n f
 |block i c f=>exact Bgx f
 |loop c f=>exact Brp f
 |exit i=>exactλR b st rt K r ρ env w Q h d e j=>A9s (e (some i) st ρ env w h (Nx.refl d))
 |ret=>intro R b st rt K r ρ env w Q h d e j;obtain⟨A,k,l⟩:=Af h;exact Lf (j st A ρ env w k l d (Ext.refl ρ) (Grow.refl st))
 |_=>exactλR b st rt K r ρ env w Q h d e j=>by cases h
end
end
section
open Go.RowKit
section
variable {ρ ρ':List HV} {rs rs':List Rd} {B:Base} {amb:List Rd} {st:SSt} {env:Env} {w:World} {m:List As}
def Cell.det:Cell->Bool
 |.i _ _=>true
 |.y _=>true
 |.b _=>true
 |.s _=>true
 |.sl _=>true
 |_=>false
theorem Big {c:Cell}{u v} (h:c.det=true) (a:c.Den ρ u) (d:c.Den ρ v):u=v:=by
 cases c with
 |i _ _=>exact a.trans d.symm
 |y _=>exact a.trans d.symm
 |b _=>exact a.trans d.symm
 |s _=>exact a.trans d.symm
 |sl k=>obtain⟨s,e,rfl⟩:=a;obtain⟨s',k2,rfl⟩:=d;rw[e]at k2;cases k2;rfl
 |_=>cases h
theorem Azs:∀ {cs:List Cell} {us vs:List Value},cs.all Cell.det=true->All2 (Cell.Den ρ) cs us->All2 (Cell.Den ρ) cs vs->us=vs
 |[],[],[],_,_,_=>rfl
 |c::cs,u::us,v::vs,h,⟨h1,h2⟩,⟨k1,k2⟩=>by simp only[B7s,B5l]at h;rw[Big h.1 h1 k1,Azs h.2 h2 k2]
 |[],_::_,_,_,h,_=>h.elim
 |[],[],_::_,_,_,h=>h.elim
 |_::_,[],_,_,h,_=>h.elim
 |_::_,_::_,[],_,_,h=>h.elim
theorem O5{o}:∀ {ls:List Leaf} {st:SSt},(Ay o ls st).1.all Cell.det=true
 |[],_=>rfl
 |.i _::r,st=>by simp[Ay,Cell.det,O5 (ls:=r)]
 |.b _::r,st=>by simp[Ay,Cell.det,O5 (ls:=r)]
 |.s _::r,st=>by simp[Ay,Cell.det,O5 (ls:=r)]
 |.y _::r,st=>by simp[Ay,Cell.det,O5 (ls:=r)]
 |.sl _ _::r,st=>by simp[Ay,Cell.det,O5 (ls:=r)]
theorem Jo{o}:∀ {ls:List Leaf} {st:SSt},∀c∈st.own,c∈(Ay o ls st).2.own
 |[],_,_,h=>h
 |.i _::r,st,c,h=>Jo (ls:=r) c h
 |.b _::r,st,c,h=>Jo (ls:=r) c h
 |.s _::r,st,c,h=>Jo (ls:=r) c h
 |.y _::r,st,c,h=>Jo (ls:=r) c h
 |.sl _ _::r,st,c,h=>Jo (ls:=r) c (by
   cases o with
   |true=>exact B5j _ h
   |false=>exact h)
def BxOk (ρ:List HV) (own:List Chunk) (x:Nat×Nat×BM×Ty) (y:Bx):Prop:=(x.2.2.1=.le/\∃s:Sv,ρ[x.1]?=some (.row s)/\y.2.2=[s.v])\/(x.2.2.1≠ .le/\ρ[x.1]?=some (.box y.1)/\∃cs,Chunk.box x.1 x.2.1 cs∈own/\All2 (Cell.Den ρ) cs y.2.2/\cs.all Cell.det=true)
theorem BxOk.box{ρ own x y} (h:BxOk ρ own x y) (b:x.2.2.1≠ .le):ρ[x.1]?=some (.box y.1)/\∃cs,Chunk.box x.1 x.2.1 cs∈own/\All2 (Cell.Den ρ) cs y.2.2/\cs.all Cell.det=true:=by
 rcases h with⟨a,_⟩|⟨_,h⟩
 ·exact absurd a b
 ·exact h
theorem BxOk.mono (hx:Ext ρ ρ'){own own'} (h:∀c∈own,c∈own'){x y} (k:BxOk ρ own x y):BxOk ρ' own' x y:=by
 rcases k with⟨a,s,b,k2⟩|⟨a,b,cs,k2,d,e⟩
 ·exact .inl ⟨a,s,hx.get b,k2⟩
 ·exact .inr ⟨a,hx.get b,cs,h _ k2,d.mono λ_ _=>Cell.Den.mono hx,e⟩
def IniOk (X S:Bs) (w:World) (amb:List Rd) (ρ:List HV) (st:SSt) (z:Ini) (ps:List PK) (a caps:List Value) (b:List Bx):Prop:=
 ∃ρ' rs' m',Ext ρ ρ'/\ρ'.length=z.st.nxt/\OwnOk ρ' rs' z.st.own m'/\RdsOk ρ' z.st.rds rs'/\(∀r∈amb,r∈rs')/\St ⟨w,X,S⟩ m' rs' w/\All2 (V1.Den ρ') z.vs a/\All2 (CapIs ρ') z.caps caps/\All2 (BxOk ρ' z.st.own) z.bx b/\z.bx.map (·.2.2.1)=He ps/\∀c∈st.own,c∈z.st.own
theorem Bp7{X S ps a o caps own bx} (h:PIn S w ps a o caps own bx):∀ {st:SSt} {ρ:List HV} {m:List As} {rs:List Rd},ρ.length=st.nxt->OwnOk ρ rs st.own m->RdsOk ρ st.rds rs->(∀r∈amb,r∈rs)->St ⟨w,X,S⟩ (own++m) rs w->IniOk X S w amb ρ st (Gy ps a st) ps o caps bx:=by
 induction h with
 |nil=>intro st ρ m rs A D G H y;exact⟨ρ,rs,m,Ext.refl ρ,A,D,G,H,y,trivial,trivial,trivial,rfl,λ_ h=>h⟩
 | @ro t ps x q vs o caps own bx h _ T=>intro st ρ m rs A D G H y;have hr:∀r'∈rs,r'∈rX vs (fD t x)::rs:=λ_ h=>B5j _ h;have u:St ⟨w,X,S⟩ (m++own) (rX vs (fD t x)::rs) w:=(y.addE (r:=rX vs (fD t x)) h).perm B56;obtain⟨l,rs1,I,K,U,Y,V,a6,a7,a8,a9,c6⟩:=Te (x0:=own) (A3 t x) st ρ vs _ A (OwnOk.mono (Ext.refl ρ) hr D) (G.mono (Ext.refl ρ) hr) (λS' c1=>by rw[<-Dm];exact c1 _ (B5n ..)) u;obtain⟨i,k,m2,p,L,M,N,O,P,Q,C,R,j,g⟩:=T U Y V (λr c3=>K r (hr r (H r c3))) (a6.perm B56);exact⟨i,k,m2,I.trans p,L,M,N,O,P,⟨(Aqy a7 (by rw[U1 h,C3])).mono p,Q⟩,C,R,j,λc W=>g c (Jo c W)⟩
 | @ow t ps x q vs o caps own bx h _ T=>
  intro st ρ m rs A D G H y;have u:St ⟨w,X,S⟩ (Aj ((A3 t x).map Leaf.ce) vs++(m++own)) rs w:=by rw[<-Dm];exact y.perm (by rw[B5r];exact B56.append_left _)
  obtain⟨l,m1,I,K,U,Y,V,a6,a7,a8⟩:=O6 (x:=own) (A3 t x) st ρ vs m A D (by rw[G5,h]) u;obtain⟨i,k,m2,p,L,M,N,O,P,Q,C,R,j,g⟩:=T K U (by rw[a8];exact G.mono I λ_ h=>h) H (Y.perm B56);exact⟨i,k,m2,I.trans p,L,M,N,O,P,⟨(Aqy V h).mono p,Q⟩,C,R,j,λc W=>g c (Jo c W)⟩
 | @bo t ps x q b e vs o caps own bx h _ T=>
  intro st ρ m rs A D G H y;have u:St ⟨w,X,S⟩ (Aj ((A3 t x).map Leaf.ce) vs++(m++(A2 b vs.toArray e::own))) rs w:=by rw[<-Dm];refine y.perm ?_;simp only[B6a,B5r];refine(B5u.symm).trans (List.Perm.append_left _ ?_);exact(List.Perm.cons _ B56).trans B5u.symm
  obtain⟨l,m1,I,K,U,Y,V,a6,a7,a8⟩:=O6 (x:=A2 b vs.toArray e::own) (A3 t x) st ρ vs m A D (by rw[G5,h]) u;have hx:=Ext.one l (.box b);have d:=Dp l (.box b);rw[K]at d;obtain⟨i,k,m2,p,L,M,N,O,P,Q,C,R,j,g⟩:=T (st:= {(Ay true (A3 t x) st).2 with own:=.box (Ay true (A3 t x) st).2.nxt (Ay true (A3 t x) st).2.nxt (Ay true (A3 t x) st).1::(Ay true (A3 t x) st).2.own,nxt:=(Ay true (A3 t x) st).2.nxt+1}) (m:=A2 b vs.toArray e::m1) (by simp[K]) ⟨⟨b,e,vs,d,V.mono λ_ _=>Cell.Den.mono hx,rfl⟩,OwnOk.mono hx (λ_ h=>h) U⟩ (by rw[show(_:SSt).rds=_ from a8];exact G.mono (I.trans hx) λ_ h=>h) H (Y.perm (B5u.trans ((List.Perm.cons _ B56).trans B5u.symm)));exact⟨i,k,m2,(I.trans hx).trans p,L,M,N,O,P,⟨⟨b,p.get d,rfl⟩,Q⟩,C,⟨.inr ⟨by simp,p.get d,_,g _ (B5n ..),V.mono λ_ _=>Cell.Den.mono (hx.trans p),O5⟩,R⟩,congrArg _ j,λc W=>g c (B5j _ (Jo c W))⟩
 | @ea t ps x q b e vs o caps own bx h _ T=>
  intro st ρ m rs A D G H y;have u:St ⟨w,X,S⟩ (Aj ((A3 t x).map Leaf.ce) vs++(m++(A2 b vs.toArray e::own))) rs w:=by rw[<-Dm];refine y.perm ?_;simp only[B6a,B5r];refine(B5u.symm).trans (List.Perm.append_left _ ?_);exact(List.Perm.cons _ B56).trans B5u.symm
  obtain⟨l,m1,I,K,U,Y,V,a6,a7,a8⟩:=O6 (x:=A2 b vs.toArray e::own) (A3 t x) st ρ vs m A D (by rw[G5,h]) u;have hx:=Ext.one l (.box b);have d:=Dp l (.box b);rw[K]at d;obtain⟨i,k,m2,p,L,M,N,O,P,Q,C,R,j,g⟩:=T (st:= {(Ay true (A3 t x) st).2 with own:=.box (Ay true (A3 t x) st).2.nxt (Ay true (A3 t x) st).2.nxt (Ay true (A3 t x) st).1::(Ay true (A3 t x) st).2.own,nxt:=(Ay true (A3 t x) st).2.nxt+1}) (m:=A2 b vs.toArray e::m1) (by simp[K]) ⟨⟨b,e,vs,d,V.mono λ_ _=>Cell.Den.mono hx,rfl⟩,OwnOk.mono hx (λ_ h=>h) U⟩ (by rw[show(_:SSt).rds=_ from a8];exact G.mono (I.trans hx) λ_ h=>h) H (Y.perm (B5u.trans ((List.Perm.cons _ B56).trans B5u.symm)));exact⟨i,k,m2,(I.trans hx).trans p,L,M,N,O,P,⟨⟨b,p.get d,rfl⟩,Q⟩,C,R,j,λc W=>g c (B5j _ (Jo c W))⟩
 | @li t ps x q b e vs o caps own bx h _ T=>
  intro st ρ m rs A D G H y;have u:St ⟨w,X,S⟩ (Aj ((A3 t x).map Leaf.ce) vs++(m++(A2 b vs.toArray e::own))) rs w:=by rw[<-Dm];refine y.perm ?_;simp only[B6a,B5r];refine(B5u.symm).trans (List.Perm.append_left _ ?_);exact(List.Perm.cons _ B56).trans B5u.symm
  obtain⟨l,m1,I,K,U,Y,V,a6,a7,a8⟩:=O6 (x:=A2 b vs.toArray e::own) (A3 t x) st ρ vs m A D (by rw[G5,h]) u;have hx:=Ext.one l (.box b);have d:=Dp l (.box b);rw[K]at d;obtain⟨i,k,m2,p,L,M,N,O,P,Q,C,R,j,g⟩:=T (st:= {(Ay true (A3 t x) st).2 with own:=.box (Ay true (A3 t x) st).2.nxt (Ay true (A3 t x) st).2.nxt (Ay true (A3 t x) st).1::(Ay true (A3 t x) st).2.own,nxt:=(Ay true (A3 t x) st).2.nxt+1}) (m:=A2 b vs.toArray e::m1) (by simp[K]) ⟨⟨b,e,vs,d,V.mono λ_ _=>Cell.Den.mono hx,rfl⟩,OwnOk.mono hx (λ_ h=>h) U⟩ (by rw[show(_:SSt).rds=_ from a8];exact G.mono (I.trans hx) λ_ h=>h) H (Y.perm (B5u.trans ((List.Perm.cons _ B56).trans B5u.symm)));exact⟨i,k,m2,(I.trans hx).trans p,L,M,N,O,P,⟨⟨b,p.get d,rfl⟩,Q⟩,C,R,j,λc W=>g c (B5j _ (Jo c W))⟩
 | @br mm hm t ps x q b e vs o caps own bx h _ T=>
  cases mm
  case ow=>cases hm
  case le=>cases hm
  all_goals
   intro st ρ m rs A D G H y;have hr:∀r'∈rs,r'∈rX vs (fD t x)::rs:=λ_ h=>B5j _ h;have u:St ⟨w,X,S⟩ (m++(A2 b vs.toArray e::own)) (rX vs (fD t x)::rs) w:=(y.addE (r:=rX vs (fD t x)) h).perm B56;obtain⟨l,rs1,I,K,U,Y,V,a6,a7,a8,a9,c6⟩:=Te (x0:=A2 b vs.toArray e::own) (A3 t x) st ρ vs _ A (OwnOk.mono (Ext.refl ρ) hr D) (G.mono (Ext.refl ρ) hr) (λS' c1=>by rw[<-Dm];exact c1 _ (B5n ..)) u;have hx:=Ext.one l (.box b);have d:=Dp l (.box b);rw[U]at d;obtain⟨i,k,m2,p,L,M,N,O,P,Q,C,R,j,g⟩:=T (st:= {(Ay false (A3 t x) st).2 with own:=.box (Ay false (A3 t x) st).2.nxt (Ay false (A3 t x) st).2.nxt (Ay false (A3 t x) st).1::(Ay false (A3 t x) st).2.own,nxt:=(Ay false (A3 t x) st).2.nxt+1}) (m:=A2 b vs.toArray e::m) (by simp[U]) ⟨⟨b,e,vs,d,a7.mono λ_ _=>Cell.Den.mono hx,rfl⟩,OwnOk.mono hx (λ_ h=>h) Y⟩ (V.mono hx λ_ h=>h) (λr c3=>K r (hr r (H r c3))) (a6.perm (B5u.trans ((List.Perm.cons _ B56).trans B5u.symm)));exact⟨i,k,m2,(I.trans hx).trans p,L,M,N,O,P,⟨⟨b,p.get d,rfl⟩,Q⟩,C,⟨.inr ⟨by simp,p.get d,_,g _ (B5n ..),a7.mono λ_ _=>Cell.Den.mono (hx.trans p),O5⟩,R⟩,congrArg _ j,λc W=>g c (B5j _ (Jo c W))⟩
 | @fn f n ps q cs o caps own bx h _ T=>
  intro st ρ m rs A D G H y;obtain⟨i,k,m2,p,L,M,N,O,P,Q,C,R,j,g⟩:=T A D G H y;have hl:(Gy ps q st).caps.length-n=caps.length:=by rw[C.len,B5m,h];omega
  have e1:All2 (CapIs i) ((Gy ps q st).caps.drop ((Gy ps q st).caps.length-n)) cs:=by have:=C.drop caps.length;rw[List.drop_left]at this;rw[hl];exact this
  have e2:All2 (CapIs i) ((Gy ps q st).caps.take ((Gy ps q st).caps.length-n)) caps:=by have:=C.take caps.length;rw[Cbj]at this;rw[hl];exact this
  exact⟨i,k,m2,p,L,M,N,O,P,⟨⟨cs,rfl,e1⟩,Q⟩,e2,R,j,g⟩
 | @co t ps x q b e vs o caps own bx h _ T=>
  intro st ρ m rs A D G H y;have u:St ⟨w,X,S⟩ (Aj ((A3 t x).map Leaf.ce) vs++(m++(A2 b vs.toArray e::own))) rs w:=by rw[<-Dm];refine y.perm ?_;simp only[B6a,B5r];refine(B5u.symm).trans (List.Perm.append_left _ ?_);exact(List.Perm.cons _ B56).trans B5u.symm
  obtain⟨l,m1,I,K,U,Y,V,a6,a7,a8⟩:=O6 (x:=A2 b vs.toArray e::own) (A3 t x) st ρ vs m A D (by rw[G5,h]) u;have hx:=Ext.one l (.box b);have d:=Dp l (.box b);rw[K]at d;obtain⟨i,k,m2,p,L,M,N,O,P,Q,C,R,j,g⟩:=T (st:= {(Ay true (A3 t x) st).2 with own:=.box (Ay true (A3 t x) st).2.nxt (Ay true (A3 t x) st).2.nxt (Ay true (A3 t x) st).1::(Ay true (A3 t x) st).2.own,nxt:=(Ay true (A3 t x) st).2.nxt+1}) (m:=A2 b vs.toArray e::m1) (by simp[K]) ⟨⟨b,e,vs,d,V.mono λ_ _=>Cell.Den.mono hx,rfl⟩,OwnOk.mono hx (λ_ h=>h) U⟩ (by rw[show(_:SSt).rds=_ from a8];exact G.mono (I.trans hx) λ_ h=>h) H (Y.perm (B5u.trans ((List.Perm.cons _ B56).trans B5u.symm)));exact⟨i,k,m2,(I.trans hx).trans p,L,M,N,O,P,Q,⟨⟨b,p.get d,rfl⟩,C⟩,⟨.inr ⟨by simp,p.get d,_,g _ (B5n ..),V.mono λ_ _=>Cell.Den.mono (hx.trans p),O5⟩,R⟩,congrArg _ j,λc W=>g c (B5j _ (Jo c W))⟩
 | @cr mm hm t ps x q b e vs o caps own bx h _ T=>
  cases mm
  case ow=>cases hm
  case le=>cases hm
  all_goals
   intro st ρ m rs A D G H y;have hr:∀r'∈rs,r'∈rX vs (fD t x)::rs:=λ_ h=>B5j _ h;have u:St ⟨w,X,S⟩ (m++(A2 b vs.toArray e::own)) (rX vs (fD t x)::rs) w:=(y.addE (r:=rX vs (fD t x)) h).perm B56;obtain⟨l,rs1,I,K,U,Y,V,a6,a7,a8,a9,c6⟩:=Te (x0:=A2 b vs.toArray e::own) (A3 t x) st ρ vs _ A (OwnOk.mono (Ext.refl ρ) hr D) (G.mono (Ext.refl ρ) hr) (λS' c1=>by rw[<-Dm];exact c1 _ (B5n ..)) u;have hx:=Ext.one l (.box b);have d:=Dp l (.box b);rw[U]at d;obtain⟨i,k,m2,p,L,M,N,O,P,Q,C,R,j,g⟩:=T (st:= {(Ay false (A3 t x) st).2 with own:=.box (Ay false (A3 t x) st).2.nxt (Ay false (A3 t x) st).2.nxt (Ay false (A3 t x) st).1::(Ay false (A3 t x) st).2.own,nxt:=(Ay false (A3 t x) st).2.nxt+1}) (m:=A2 b vs.toArray e::m) (by simp[U]) ⟨⟨b,e,vs,d,a7.mono λ_ _=>Cell.Den.mono hx,rfl⟩,OwnOk.mono hx (λ_ h=>h) Y⟩ (V.mono hx λ_ h=>h) (λr c3=>K r (hr r (H r c3))) (a6.perm (B5u.trans ((List.Perm.cons _ B56).trans B5u.symm)));exact⟨i,k,m2,(I.trans hx).trans p,L,M,N,O,P,Q,⟨⟨b,p.get d,rfl⟩,C⟩,⟨.inr ⟨by simp,p.get d,_,g _ (B5n ..),a7.mono λ_ _=>Cell.Den.mono (hx.trans p),O5⟩,R⟩,congrArg _ j,λc W=>g c (B5j _ (Jo c W))⟩
 | @le t ps x q v o caps own bx _ T=>
  intro st ρ m rs A D G H y;have c9:∃s:Sv,v=s.v:=by obtain⟨F,hF⟩:=y.at' (B5n ..);obtain⟨a,cap,e,_⟩:=(Ac (sz t) (fD t) x).seen hF;exact⟨⟨a,x.length,cap⟩,e⟩
  obtain⟨s,rfl⟩:=c9;have hx:=Ext.one ρ (.row s);have hl:(ρ++[.row s])[st.nxt]?=some (.row s):=by have:=Dp ρ (.row s);rw[A]at this;exact this
  obtain⟨i,k,m2,p,L,M,N,O,P,Q,C,R,j,g⟩:=T (st:= {st with own:=.row st.nxt st.nxt t x []::st.own,nxt:=st.nxt+1}) (m:=oV (oC (Ac (sz t) (fD t) x) s.v) []::m) (by simp[A]) ⟨⟨s,[],hl,rfl,rfl⟩,OwnOk.mono hx (λ_ h=>h) D⟩ (G.mono hx λ_ h=>h) H ((St.z y Z.toV).perm B5u.symm);exact⟨i,k,m2,hx.trans p,L,M,N,O,P,⟨⟨s,p.get hl,rfl⟩,Q⟩,C,⟨.inl ⟨rfl,s,p.get hl,rfl⟩,R⟩,congrArg _ j,λc W=>g c (B5j _ W)⟩
end
end
section
open Go.RowKit
section
variable {ρ ρ':List HV} {rs rs':List Rd} {B:Base} {amb:List Rd} {st:SSt} {env:Env} {w:World} {m:List As}
theorem Aht t:(Fg t).length=sz t:=by rw[<-A4d t default,B6x,G5]
theorem Arn:∀ {a:List Ty} {cs:List Cell} {own:List Chunk} {p:List Leaf×List Chunk},G0 a cs own=some p->p.1.length=a.length
 |[],[],_,_,h=>by cases h;rfl
 |e::a,c::cs,own,p,h=>by unfold G0 at h;obtain⟨q,g,b⟩:=Af h;obtain⟨z,d,f⟩:=Af b;cases f;simp[Arn d]
 |[],_::_,_,_,h=>by cases h
 |_::_,[],_,_,h=>by cases h
theorem Ait:∀ {a:List Ty} {cs:List Cell} {ls:List Leaf},J6 st a cs=some ls->ls.length=a.length/\ls.length=cs.length
 |[],[],_,h=>by cases h;exact⟨rfl,rfl⟩
 |e::a,c::cs,ls,h=>by unfold J6 at h;obtain⟨q,g,b⟩:=Af h;obtain⟨z,d,f⟩:=Af b;cases f;have:=Ait d;simp[this.1,<-this.2]
 |[],_::_,_,h=>by cases h
 |_::_,[],_,h=>by cases h
theorem Air (j:Sat B amb ρ st env w):∀ {rv:List ResultVar} {vs:List V1},R9 st rv=some vs->∃c,RVs Tryz.prog w env rv c/\All2 (V1.Den ρ) vs c
 |[],_,h=>by cases h;exact⟨[],trivial,trivial⟩
 |.tmp t::r,_,h=>by unfold R9 at h;obtain⟨v,x,f⟩:=Af h;obtain⟨vs,y,F⟩:=Af f;cases F;obtain⟨u,s,u2⟩:=j.env.ev1 x;obtain⟨c,p,k2⟩:=Air j y;exact⟨u::c,⟨s,p⟩,u2,k2⟩
 |.cell a t::r,_,h=>by
  unfold R9 at h;split at h
  ·rename_i q ti hx X;obtain⟨cs,x,f⟩:=Af h;have i:=B5k (bt f).1;replace f:=(bt f).2;obtain⟨v,y,F⟩:=Af f;obtain⟨vs,V,W⟩:=Af F;cases W;obtain⟨c,p,k2⟩:=Air j V;obtain⟨u,s,b,u2,rfl⟩:=j.env.evC hx;obtain⟨⟨d,S,L⟩,z,Y,_⟩:=F7 X;obtain⟨m,rs,m1,m2,m3,Q⟩:=j.mem;obtain⟨b',e,us,N,O,P⟩:=Th m1 x;rw[u2]at N;cases N;rcases Aqp y O with⟨n,M,o⟩|⟨n,u,M,o⟩
   ·have T:us.length=ti.size:=by rw[<-O.len,i]
    have U:(us.drop 0).take ti.size=us:=by rw[B7v,<-T,B6m]
    rw[U]at o;cases g:ti.k with
    |struct l=>rw[g]at L;obtain⟨l',rfl,_⟩:=L;exact⟨_::c,⟨Bvv S Y T s Q P,p⟩,o,k2⟩
    |_=>rw[g]at n;cases n
   ·exact⟨u::c,⟨Bvw S (Ajs L n) s Q P (by simpa using M),p⟩,o,k2⟩
  ·cases h
theorem Acu:∀ {ks:List RK} {vs:List V1} {own:List Chunk} {p:(List (List Leaf)×List (List Cell))×List Chunk} {d:List Value} {m:List As},Vn ks vs own=some p->All2 (V1.Den ρ) vs d->OwnOk ρ rs own m->
  OwnLe own p.2/\∃n m',OwnOk ρ rs p.2 m'/\(∀w,Z w m (n++m'))/\∀c ls,R8 c ks p.1.1 p.1.2=some ls->∃a,RPack ks ls d n a/\∀S w,Reads ρ c S w->∀r∈a,r.ok S w
 |[],[],own,p,[],m,h,_,h1=>by cases h;exact⟨OwnLe.refl _,[],m,h1,λw=>zI,λc ls f=>by cases f;exact⟨[],⟨rfl,rfl,rfl⟩,λ_ _ _ _ h=>by cases h⟩⟩
 |k::ks,v::vs,own,p,u::d,m,h,⟨d1,d2⟩,h1=>by
  unfold Vn at h;cases U:k.bx with
  |true=>
   rw[U]at h;simp only[cond_true]at h;split at h
   ·rename_i hh;obtain⟨X,q1,rfl⟩:=d1;obtain⟨z,V,h⟩:=Af h;obtain⟨l0,_,b,e,us,m0,k0,F,n1,n2⟩:=O8 V h1;rw[q1]at k0;cases k0;cases o:k.own with
    |true=>rw[o]at h;simp only[cond_true]at h;obtain⟨y,s,h⟩:=Af h;obtain⟨q,t,h⟩:=Af h;cases h;obtain⟨l1,l2,m1,k1,k2⟩:=L8 s F n1;obtain⟨O,n,m2,L,M,N⟩:=Acu t d2 k1;refine⟨l0.trans (l1.trans O),[A2 X us.toArray e]++(Aj (y.1.map Leaf.ce) us++n),m2,L,λw=>(n2 w).trans (Z.cons ((k2 w).trans (by simpa [B5r]using (M w).appL))),λc ls f=>?_⟩;simp only[R8,o,cond_true]at f;obtain⟨P,i,j⟩:=Af f;cases j;obtain⟨a,Q,T⟩:=N c P i;exact⟨a,⟨us,d,n,a,_,l2.symm,by rw[Arn s,Aht],Q,by rw[U];exact⟨X,e,rfl,rfl⟩,by rw[o];exact⟨rfl,rfl⟩⟩,T⟩
    |false=>
     rw[o]at h;simp only[cond_false]at h;obtain⟨q,t,h⟩:=Af h;cases h;obtain⟨O,n,m2,L,M,N⟩:=Acu t d2 n1;refine⟨l0.trans O,[A2 X us.toArray e]++n,m2,L,λw=>(n2 w).trans (Z.cons (M w)),λc ls f=>?_⟩;simp only[R8,o,cond_false]at f;obtain⟨l,s,f⟩:=Af f;obtain⟨P,i,j⟩:=Af f;cases j;obtain⟨a,Q,T⟩:=N c P i;have g:=Ait s;refine⟨rX us (l.map Leaf.ce)::a,⟨us,d,n,a,_,by rw[g.2,F.len],by rw[g.1,Aht],Q,by rw[U];exact⟨X,e,rfl,rfl⟩,by rw[o];exact⟨rfl,rfl⟩⟩,λS w W r x=>?_⟩;rcases B5t.1 x with rfl|x
     ·exact W _ _ _ _ s F
     ·exact T S w W r x
   ·cases h
  |false=>
  rw[U]at h;simp only[cond_false]at h;cases o:k.own with
  |true=>rw[o]at h;simp only[cond_true]at h;obtain⟨cs,V,h⟩:=Af h;obtain⟨z,s,h⟩:=Af h;obtain⟨q,t,h⟩:=Af h;cases h;obtain⟨us,rfl,Y⟩:=Afb V d1;obtain⟨l1,l2,m1,k1,k2⟩:=L8 s Y h1;obtain⟨O,n,m2,L,M,N⟩:=Acu t d2 k1;refine⟨l1.trans O,Aj (z.1.map Leaf.ce) us++n,m2,L,λw=>(k2 w).trans (by simpa [B5r]using (M w).appL),λc ls f=>?_⟩;simp only[R8,o,cond_true]at f;obtain⟨P,i,j⟩:=Af f;cases j;obtain⟨a,Q,T⟩:=N c P i;exact⟨a,⟨us,d,n,a,[],l2.symm,by rw[Arn s,Aht],Q,by rw[U];exact⟨rfl,rfl⟩,by rw[o];exact⟨rfl,rfl⟩⟩,T⟩
  |false=>
   rw[o]at h;simp only[cond_false]at h;obtain⟨cs,V,h⟩:=Af h;obtain⟨q,t,h⟩:=Af h;cases h;obtain⟨O,n,m2,L,M,N⟩:=Acu t d2 h1;refine⟨O,n,m2,L,M,λc ls f=>?_⟩;simp only[R8,o,cond_false]at f;obtain⟨l,s,f⟩:=Af f;obtain⟨P,i,j⟩:=Af f;cases j;obtain⟨us,rfl,Y⟩:=Afb V d1;obtain⟨a,Q,T⟩:=N c P i;have g:=Ait s;refine⟨rX us (l.map Leaf.ce)::a,⟨us,d,n,a,[],by rw[g.2,Y.len],by rw[g.1,Aht],Q,by rw[U];exact⟨rfl,rfl⟩,by rw[o];exact⟨rfl,rfl⟩⟩,λS w W r x=>?_⟩;rcases B5t.1 x with rfl|x
   ·exact W _ _ _ _ s Y
   ·exact T S w W r x
 |[],[],_,_,_::_,_,_,h,_=>h.elim
 |[],_::_,_,_,_,_,h,_,_=>by cases h
 |_::_,[],_,_,_,_,h,_,_=>by cases h
 |_::_,_::_,_,_,[],_,_,h,_=>h.elim
theorem Acs (hx:Ext ρ ρ'){own0}:∀ {k:List (Nat×Nat×BM×Ty)} {bs:List Bx} {own:List Chunk} {p:(List (List Leaf)×List (List Cell))×List Chunk} {m:List As},Oj k own=some p->All2 (BxOk ρ own0) k bs->(∀c'∈own,∀c∈own0,Ew c'=Ew c->c.Le c')->OwnOk ρ' rs own m->
  ∃i m',OwnOk ρ' rs p.2 m'/\(∀w,Z w m (i++m'))/\∀d ls,N8 d k p.1.1 p.1.2=some ls->∃a,OPack bs (k.map (·.2.2.1)) ls i a/\∀S w,Reads ρ' d S w->∀r∈a,r.ok S w
 |[],[],own,p,m,h,_,_,h1=>by cases h;exact⟨[],m,h1,λw=>zI,λd ls f=>by cases f;exact⟨[],⟨rfl,rfl⟩,λ_ _ _ _ h=>by cases h⟩⟩
 |(hh,g,.ow,t)::k,(b,e,vs0)::bs,own,p,m,h,⟨hbx,hB⟩,hG,h1=>by obtain⟨T,u,b2,b3,b4⟩:=hbx.box (by simp);unfold Oj at h;obtain⟨z,o,h⟩:=Af h;obtain⟨F,l2,b',n,vs,m1,j,k2,y,k4⟩:=O8 o h1;have W:=hx.get T;rw[W]at j;cases j;obtain⟨q,c2,h⟩:=Af h;obtain⟨q2,U,h⟩:=Af h;cases h;obtain⟨l3,l4,m2,k5,k6⟩:=L8 c2 k2 y;obtain⟨i,m3,P,Q,O⟩:=Acs hx U hB (λc' x=>hG c' (F _ (l3 _ x))) k5;refine⟨A2 b vs.toArray n::(Aj (q.1.map Leaf.ce) vs++i),m3,P,λw=>(k4 w).trans (Z.cons ((k6 w).trans (by simpa [B5r]using (Q w).appL))),λd ls f=>?_⟩;unfold N8 at f;obtain⟨q3,V,f⟩:=Af f;cases f;obtain⟨a,M,N⟩:=O d q3 V;exact⟨a,⟨vs,i,n,l4.symm,rfl,M⟩,N⟩
 |(hh,g,.rd,t)::k,(b,e,vs0)::bs,own,p,m,h,⟨hbx,hB⟩,hG,h1=>by
  obtain⟨T,u,b2,b3,b4⟩:=hbx.box (by simp);unfold Oj at h;obtain⟨z,o,h⟩:=Af h;obtain⟨F,l2,b',n,vs,m1,j,k2,y,k4⟩:=O8 o h1;have W:=hx.get T;rw[W]at j;cases j;obtain⟨q,U,h⟩:=Af h;cases h;obtain⟨i,m3,P,Q,O⟩:=Acs hx U hB (λc' x=>hG c' (F _ x)) y;refine⟨A2 b vs.toArray n::i,m3,P,λw=>(k4 w).trans (Q w).cons,λd ls f=>?_⟩;unfold N8 at f;obtain⟨l,c2,f⟩:=Af f;obtain⟨q3,V,f⟩:=Af f;cases f;obtain⟨a,M,N⟩:=O d q3 V;have Y:=Ait c2;refine⟨rX vs (l.map Leaf.ce)::a,⟨vs,i,a,n,by rw[Y.2,k2.len],rfl,rfl,M⟩,λS w hr r hm=>?_⟩;rcases B5t.1 hm with rfl|hm
  ·exact hr _ _ _ _ c2 k2
  ·exact N S w hr r hm
 |(hh,g,.lo,t)::k,(b,e,vs0)::bs,own,p,m,h,⟨hbx,hB⟩,hG,h1=>by
  obtain⟨T,u,b2,b3,b4⟩:=hbx.box (by simp);unfold Oj at h;obtain⟨z,o,h⟩:=Af h;obtain⟨F,l2,b',n,vs,m1,j,k2,y,k4⟩:=O8 o h1;have W:=hx.get T;rw[W]at j;cases j;have hg:=B5k (bt h).1;replace h:=(bt h).2;obtain⟨i,m3,P,Q,O⟩:=Acs hx h hB (λc' x=>hG c' (F _ x)) y;have a7:=hG _ l2 _ b2 hg
  have a6:z.1.2=u:=by
   rcases a7 with e|⟨_,_,_,_,_,_,e,_⟩
   ·cases e;rfl
   ·cases e
  rw[a6]at k2;have hv:=Azs b4 k2 (b3.mono λ_ _=>Cell.Den.mono hx);subst hv;refine⟨A2 b vs.toArray n::i,m3,P,λw=>(k4 w).trans (Q w).cons,λd ls f=>?_⟩;unfold N8 at f;obtain⟨a,M,N⟩:=O d ls f;exact⟨a,by cases ls<;>exact⟨i,n,rfl,M⟩,N⟩
 |(hh,g,.le,t)::k,(b,e,vs0)::bs,own,p,m,h,⟨hbx,hB⟩,hG,h1=>by
  have X:∃s:Sv,ρ[hh]?=some (.row s)/\vs0=[s.v]:=by
   rcases hbx with⟨_,q⟩|⟨q,_⟩
   ·exact q
   ·exact absurd rfl q
  obtain⟨s,q1,rfl⟩:=X;unfold Oj at h;obtain⟨z,o,h⟩:=Af h;obtain⟨q,U,h⟩:=Af h;cases h;obtain⟨F,s',m1,j,k2,y⟩:=Md o h1;rw[hx.get q1]at j;cases j;obtain⟨i,m3,P,Q,O⟩:=Acs hx U hB (λc' x=>hG c' (F _ x)) k2;refine⟨oC (Ac (sz z.1.t) (fD z.1.t) z.1.L) s.v::i,m3,P,λw=>(y w).trans (Q w).cons,λd ls f=>?_⟩;unfold N8 at f;obtain⟨q3,V,f⟩:=Af f;cases f;obtain⟨a,M,N⟩:=O d q3 V;exact⟨a,⟨s.v,z.1.t,z.1.L,i,rfl,rfl,rfl,M⟩,N⟩
 |[],_::_,_,_,_,_,h,_,_=>h.elim
 |_::_,[],_,_,_,_,h,_,_=>h.elim
theorem St.letGo{l lr} (h:St B (l++m) rs w) (f:∀S,Sees S w m rs->∀r∈lr,r.ok S w):St B l lr w:=by
 obtain⟨j,q,F,k,i,n⟩:=h;obtain⟨F1,s,g1,g2,g3,g4,g5⟩:=k.split;refine⟨j,q,F1,g1,λb c=>i b (g4 b c),λr g=>f _ ⟨λr f=>?_,λa p=>?_⟩ r g⟩
 ·exact r.mono (λb c=>⟨c.1,c.2.1,λd=>c.2.2 (g4 b d)⟩) (Lc.refl _ _) (n r f)
 ·obtain⟨F',e,o⟩:=g2.mem p;refine⟨F',λb c=>⟨?_,g2.lt b (e b c),λd=>g3 b d (e b c)⟩,o⟩;exact .inr ((i b (g5 b (e b c))).elim .inr .inl)
theorem A11{X S w0 f ps ks x rv z bx bs r} (M:Sat ⟨w0,X,S⟩ amb ρ' st env w) (hx:Ext ρ ρ') (hg:Grow z st) (n:Gi z=true)
  (Y:All2 (BxOk ρ z.own) bx bs) (hm:bx.map (·.2.2.1)=He ps) (h:Agj rv ps ks bx st=some r):∃a,RVs Tryz.prog w env rv a/\∃k d,Left ⟨f,ps,ks,x⟩ bs r a k d/\Gives X S w0 k d w:=by
 unfold Agj at h;obtain⟨vs,Q,h⟩:=Af h;obtain⟨p,T,h⟩:=Af h;obtain⟨q,U,h⟩:=Af h;obtain⟨l,V,h⟩:=Af h;obtain⟨o,W,h⟩:=Af h;obtain⟨a,v1,v2⟩:=Air M Q;obtain⟨m,rs,m1,m2,m3,hM⟩:=M.mem;obtain⟨l1,s,m',k1,k2,k3⟩:=Acu T v2 m1;simp only[Gi,B5l]at n
 obtain⟨j,F,r2,r3,r1⟩:=Acs hx U Y (λc' y c L e=>by
  obtain⟨P,g1,g2⟩:=hg.own c' (l1 c' y) (by rw[e];exact Ahs n.2 L);have:P=c:=Agv n.1 g1 L (by rw[g2.g,e]);rw[<-this];exact g2) k1
 obtain⟨d,p1,p2⟩:=k3 _ l V;have u:St ⟨w0,X,S⟩ ((s++j)++F) rs w:=by have:=(hM.z (k2 w)).z (r3 w).appL;simpa [B5r]using this
 obtain⟨i,r4,r5⟩:=r1 _ o W;refine⟨a,v1,s++j,d++i,⟨l,o,s,j,d,i,Acw h,p1,by show OPack bs (He ps) o j i;rw[<-hm];exact r4,rfl,rfl⟩,?_⟩
 exact(u.letGo λS' v r b=>by
  have t:Reads ρ' {st with own:=q.2} S' w:=λes cs ls us N O=>U7 (st:= {st with own:=q.2}) v r2 m2 N O;rcases B6g.1 b with b|b
  ·exact p2 S' w t r b
  ·exact r5 S' w t r b).gives
def nV:List PK->Nat
 |[]=>0
 |.cap _ _::r=>nV r
 |_::r=>nV r+1
theorem PIn.len{S ps a vals caps own bx} (h:PIn S w ps a vals caps own bx):vals.length=nV ps:=by
 induction h with
 |nil=>rfl
 |co _ _ b=>exact b
 |cr _ _ _ b=>exact b
 |_=>rename_i b;simp[nV,b]
theorem Atg:∀ {vs:List V1} {a:List Value} {k:Nat},All2 (V1.Den ρ) vs a->EnvOk ρ (Ve k vs) (T1 k a)
 |[],[],_,_=>λt sv h=>by cases h
 |v::vs,u::a,k,⟨h1,h2⟩=>EnvOk.put (Atg h2) (sv:=.v v) h1 k
 |[],_::_,_,h=>h.elim
 |_::_,[],_,h=>h.elim
theorem St.addEs{X S m} (h:St ⟨w,X,S⟩ m [] w):∀ {rs:List Rd},(∀r∈rs,r.ok S w)->St ⟨w,X,S⟩ m rs w
 |[],_=>h
 |r::rs,hr=>(St.addEs h λb a=>hr b (B5j _ a)).addE (hr r (B5n ..))
theorem Aba{f0 C} (M : COk amb C){fn c nx} (O : Tryz.prog.funcs[f0]? = some fn) (N : fn.body = some c) (Q : fn.ntmps = C.n) (x : (fn.name == "runtime.NumGoroutine") = false) (hx : InlOk amb nx) : InlOk amb (Uc f0 C fn.results.toList c nx) := fun R f vs st K r B ρ env w s h t z => by
 unfold Uc at h;cases g:B5w f f0 with
 |false=>rw[g]at h;exact hx _ _ _ _ _ _ _ _ _ _ _ h t z
 |true=>
  rw[g]at h;cases B5k g;have P:=(bt h).1;replace h:=(bt h).2;have y:Sat B amb ρ {st with env:=Ve 0 vs} (T1 0 s) w:=⟨t.len,Atg z,t.mem⟩;have o:∀(b:SSt) (ρ':List HV) (a:Env) (w':World),Agi st.env fn.results.toList K b=some r->Sat B amb ρ' b a w'->Ext ρ ρ'->Grow {st with env:=Ve 0 vs} b->∃d,RVs Tryz.prog w' a fn.results.toList d/\After B amb ρ st env K r (H2 d) w':=λb ρ' a w' u k2 v l=>by unfold Agi at u;obtain⟨us,F,u2⟩:=Af u;obtain⟨k,p,q⟩:=Air k2 F;exact⟨k,p,Sl us, {b with env:=st.env},ρ',u2,v,⟨k2.len,t.env.mono v,k2.mem⟩,A8o q,⟨l.nxt,l.own,l.rds⟩,rfl⟩
  refine enter O N Q x (by rw[<-z.len];exact P) (A63 M c R 0 _ _ _ r ρ _ w _ h y (λe b ρ' a w' L i=>?_) λb T ρ' a w' u k2 v l S=>?_)
  ·cases e with
   |some j=>cases L
   |none=>obtain⟨d,p,q⟩:=o b ρ' a w' L i.sat i.ext i.grow;exact A12 d p q
  ·obtain⟨us,F,u2⟩:=Af u;cases u2;obtain⟨d,p,q⟩:=o b ρ' a w' (by unfold Agi;rw[F];exact k2) v l S;exact Jt d p q
theorem Bok{C} (Y : COk amb C){f fn c ps ks x} (hf : Tryz.prog.funcs[f]? = some fn) (hb : fn.body = some c) (hn : fn.ntmps = C.n) (q : (fn.name == "runtime.NumGoroutine") = false)
  (hl:B7m (nV ps) C.n=true) (hx:∀a r,x a=some r->Aiw C fn.results.toList c ps ks a=some r):Holds amb ⟨f,ps,ks,x⟩:=λw X S a o own bx r N hL hS hr s=>by
 have h:=hx a r s;unfold Aiw at h;have l:=(N0 h).1;replace h:=(N0 h).2;obtain⟨p,rs1,m1,a1,P,Q,T,U,V,W,a8,L,i,O⟩:=Bp7 (amb:=amb) N (st:=⟨[],[],[],0⟩) (ρ:=[]) (m:=[]) (rs:=amb) rfl trivial (λ_ h=>by cases h) (λ_ h=>h) (by rw[B6o];exact(St.enter hL hS).addEs hr);have hs:Sat ⟨w,X,S⟩ amb p {(Gy ps a ⟨[],[],[],0⟩).st with env:=Ve 0 (Gy ps a ⟨[],[],[],0⟩).vs} (T1 0 o) w:=⟨P,Atg W,m1,rs1,Q,T,U,V⟩;refine enter hf hb hn q (by rw[N.len];exact hl) (A63 Y c (PRes ps ks) 0 _ some _ r p _ w _ h hs (λe u ρ' k w' M b=>?_) λu r0 ρ' k w' k1 k2 k3 k4 t=>?_)
 ·cases e with
  |some j=>cases M
  |none=>obtain⟨vs,v,d,g,y,F⟩:=A11 (f:=f) (x:=x) b.sat b.ext (z:=(Gy ps a ⟨[],[],[],0⟩).st) ⟨b.grow.nxt,b.grow.own,b.grow.rds⟩ l L i M;exact A12 vs v ⟨vs,d,g,rfl,y,F⟩
 ·have e:r0=r:=B65.inj k2;subst e;obtain⟨vs,v,d,g,y,F⟩:=A11 (f:=f) (x:=x) k3 k4 (z:=(Gy ps a ⟨[],[],[],0⟩).st) ⟨t.nxt,t.own,t.rds⟩ l L i k1;exact Jt vs v ⟨vs,d,g,rfl,y,F⟩
def O7 (f:Func):Code:=f.body.getD .skip
theorem ho{c F} C (d:∀k∈C.cons,Holds amb k) (g:Tryz.prog.funcs[c.f]?=some F) (j:F.ntmps=C.n) (hx:∀a,Aiw C F.results.toList (O7 F) c.ps c.rs a=c.x a)
  (e : F.body = some (O7 F) := by rfl) (b : (F.name == "runtime.NumGoroutine") = false := by kernel_rfl) (i : B7m (nV c.ps) C.n = true := by decide) (hi : InlOk amb C.inl := by exact Ns) : Holds amb c :=
 Bok (x:=c.x) ⟨d,hi⟩ g e j b i λa _ h=>(hx a).trans h
structure E (amb:List Rd) where
 c:Con
 h:Holds amb c
def cs (l:List (E amb)):List Con:=l.map (·.c)
theorem Tq:∀(l:List (E amb)),∀k∈cs l,Holds amb k
 |[],_,h=>by cases h
 |e::l,k,h=>by
  rcases B5t.1 h with rfl|h
  ·exact e.h
  ·exact Tq l k h
def en (f:FuncId) (ps:List PK) (rs:List RK) (x:PArgs ps->Option (PRes ps rs)) {F:Func} (h:Tryz.prog.funcs[f]?=some F) (b:List (E amb):=[]) (d:List Hint:=[]) (wr:Bool:=false) (e:Bool:=false) (mv:Bool:=false) (inl:Inl:=Nr)
  (hi:InlOk amb inl:=by exact Ns) (hx:∀a,Aiw ⟨F.ntmps,cs b,d,wr,e,mv,inl⟩ F.results.toList (O7 F) ps rs a=x a:=by intro a;kernel_rfl)
  (g : F.body = some (O7 F) := by rfl) (c : (F.name == "runtime.NumGoroutine") = false := by kernel_rfl) (i : B7m (nV ps) F.ntmps = true := by kernel_rfl) : E amb :=
 ⟨⟨f,ps,rs,x⟩,ho ⟨F.ntmps,cs b,d,wr,e,mv,inl⟩ (Tq b) h rfl hx g c i hi⟩
section
variable {A B C D G H I J K R:Type}
def Am (f:A->R) (a:A×Unit):R:=f a.1
def Ak (f:A->B->R) (a:A×B×Unit):R:=f a.1 a.2.1
def H4 (f:A->B->C->R) (a:A×B×C×Unit):R:=f a.1 a.2.1 a.2.2.1
def uc5 (f:A->B->C->D->G->R) (a:A×B×C×D×G×Unit):R:=f a.1 a.2.1 a.2.2.1 a.2.2.2.1 a.2.2.2.2.1
def uc6 (f:A->B->C->D->G->H->R) (a:A×B×C×D×G×H×Unit):R:=f a.1 a.2.1 a.2.2.1 a.2.2.2.1 a.2.2.2.2.1 a.2.2.2.2.2.1
end
end
end
def Aor {a R:Type} (f:Nat->a->(a->Option R)->Option R) (e:a->Option R):Nat->Nat->a->Option R
 |0,_,s=>e s
 |m+1,k,s=>f k s (Aor f e m (k+1))
theorem C2{σ ρ R f e} {K:ρ->Option R}:∀ {n k:Nat} {s:σ},B5h (Ai f e n k s) K=Aor (λk s G=>B5h (f k s) λz=>z.on G K) (λs=>K (e s)) n k s
 |0,_,_=>rfl
 |n+1,k,s=>by
  show B5h (B5h (f k s) λr=>r.on (Ai f e n (k+1)) some) K=B5h (f k s) λz=>z.on (Aor _ _ n (k+1)) K;cases f k s with
  |none=>rfl
  |some z=>
   cases z with
   |go s=>exact C2 (n:=n)
   |out y=>rfl
def Ag7 {a R:Type} (f:a->(a->Option R)->Option R):Nat->a->Option R
 |0,_=>none
 |n+1,s=>f s (Ag7 f n)
open Classical in
def A3m {a R:Type} (f:a->(a->Option R)->Option R) (s:a):Option R:=
 if h:∃n r,Ag7 f n s=some r then some h.choose_spec.choose else none
theorem iterKn_eq{σ ρ R f} {K:ρ->Option R}:∀ {n:Nat} {s:σ},Ag7 (λs G=>B5h (f s) λz=>z.on G K) n s=B5h (Hc f n s) K
 |0,_=>rfl
 |n+1,s=>by
  show B5h (f s) (λz=>z.on (Ag7 _ n) K)=B5h (B5h (f s) λr=>r.on (Hc f n) some) K;cases f s with
  |none=>rfl
  |some z=>
   cases z with
   |go s=>exact iterKn_eq (n:=n)
   |out y=>rfl
theorem Rh{σ ρ R f} {K:ρ->Option R} {s:σ}:B5h (Bc f s) K=A3m (λs G=>B5h (f s) λz=>z.on G K) s:=by
 unfold A3m;split
 ·rename_i h;have b:=iterKn_eq.symm.trans h.choose_spec.choose_spec;obtain⟨y,c,d⟩:=Af b;exact(congrArg (λz=>B5h z K) (Rk.2 ⟨_,c⟩)).trans d
 ·rename_i h;cases hi:Bc f s with
  |none=>rfl
  |some y=>
   obtain⟨n,e⟩:=A3o hi;cases a:K y with
   |none=>exact a
   |some r=>exact absurd ⟨n,r,by rw[iterKn_eq,e];exact a⟩ h
theorem Cq {α a:Type}{b x y} {K:α->Option a}:B5h (bif b then x else y) K=bif b then B5h x K else B5h y K:=by cases b<;>rfl
theorem D1{α a p} [Decidable p]{x} {K:α->Option a}:B5h (xg p x) K=xg p (B5h x K):=by unfold xg;split<;>rfl
theorem D8 {α a b:Type}{x} {f:α->Option a} {K:a->Option b}:B5h (B5h x f) K=B5h x λy=>B5h (f y) K:=by cases x<;>rfl
theorem Cj {α a:Type}{x} {K:α->Option a}:B5h (some x) K=K x:=rfl
theorem Cm{σ ρ a s} {G:σ->a} {K:ρ->a}:Lr.on (.go s) G K=G s:=rfl
theorem Cy{σ ρ a y} {G:σ->a} {K:ρ->a}:Lr.on (.out y) G K=K y:=rfl
theorem Df {α b a:Type}{x} {f:α->a} {g:b->a}:B59 f g (.inl x)=f x:=rfl
theorem Dg {α b a:Type}{x} {f:α->a} {g:b->a}:B59 f g (.inr x)=g x:=rfl
section
open Go.RowKit
section
variable {P:Program} {w:World} {w0:Base} {m:List As} {rs:List Rd} {k:Nat}
theorem K5 w t B ty e i b o c l a h q n cs
  (hu:P.underlying t=some (.slice e)) (hi:P.info? e=some i) (A:Nat.min h c=n) (r:cs.length=n*i.size)
  (p:∀j v,cs[j]?=some v->w.cell? (a.add j)=some v) (y:∀j,j<cs.length->(w.cell? ⟨b,o+j,none⟩).isSome=true) (z:∀j,j<cs.length->w.frozen? ⟨b,o+j,none⟩=false) (x:∀v∈cs,v.oneCell'=true):
  (Builtin.copy_ #[t,B] ty #[.slice (some ⟨b,o,none⟩) c l,.slice (some a) h q]).run P w=.ok (goInt n) (w.setCells b o cs):=by
 have u:=run_loadCells_list (P:=P) w a cs p;have s:=run_storeCells_cells (P:=P) b o cs 0 w (by simpa using y) (by simpa using z) x;rw[r]at u;simp[Builtin.copy_,run_underlying hu,Builtin.lenOf,Builtin.firstCells,sizeOf,typeInfo,hi,A,u,s]
theorem St.rowAt {s:Sv}{n xs} (h:St w0 m rs w) (G:Bb k s.v n xs∈m) (K:0<n):
  ∃b off cap a e o,s=⟨some ⟨b,off,none⟩,n,cap⟩/\(w.heap[b]?=some (.cells a e o)/\Wr o a.size)/\n<=cap/\cap<=maxLen/\off+cap*k<=a.size/\xs.length=n*k/\(∀j u,xs[j]?=some u->w.cell? ⟨b,off+j,none⟩=some u):=by
 obtain⟨F,_,C,D⟩:=h.at' G;rcases D with⟨_,H⟩|⟨b,off,cap,a,e,o,B,I,A,t,q,r,x⟩
 ·omega
 ·obtain⟨z,en,y⟩:s.p=some ⟨b,off,none⟩/\s.n=n/\s.c=cap:=by simpa [Sv.v]using B
  refine⟨b,off,cap,a,e,o,by cases s;simp only at z en y;rw[z,en,y],A,t,q,r,C,λj u l=>?_⟩;rw[<-x,B68]at l;split at l
  ·rw[B6y,B7b]at l;simp[World.cell?,A.1,l]
  ·cases l
theorem Je{b off n cap cur e hd} (a:w.heap[b]?=some (.cells cur e hd)/\Wr hd cur.size) (o:off+cap*k<=cur.size) (h:n<=cap):(∀j,j<n*k->(w.cell? ⟨b,off+j,none⟩).isSome=true)/\∀j,j<n*k->w.frozen? ⟨b,off+j,none⟩=false:=by have l:=B5v k h;refine⟨λj c=>?_,λj c=>frz a.1 a.2 (by omega)⟩;simp only[World.cell?,a.1];simp;omega
theorem St.boxAt{b e} {cs:List Value} (h:St w0 m rs w) (l:A2 b cs.toArray e∈m):w.heap[b]?=some (.cells cs.toArray e (0,0))/\∀j u,cs[j]?=some u->w.cell? ⟨b,0+j,none⟩=some u:=by obtain⟨F,_,_,a⟩:=h.at' l;refine⟨a,λj u c=>?_⟩;simp[World.cell?,a,c]
theorem St.boxRow{b e cs} (h:St w0 (A2 b cs.toArray e::m) rs w) (s:cs.length=k):St w0 (Bb k (Sv.v ⟨some ⟨b,0,none⟩,1,1⟩) 1 cs::m) rs w:=
 St.iso (l:=[A2 b cs.toArray e]) (l':=[Bb k (Sv.v ⟨some ⟨b,0,none⟩,1,1⟩) 1 cs]) h λ_ ⟨c,F1,a,⟨o,p,q⟩,r⟩=>
  ⟨c,F1,a,⟨o,by omega,.inr ⟨b,0,1,_,e,_,rfl,λj t=>by rw[B7x];exact p j (by simp;omega),⟨q,wr0 _⟩,B6i _,by simp[maxLen],by simp;omega,by simp[<-s]⟩⟩,r⟩
theorem St.apart{b off n c j} {xs vs:List Value}{ve} (h:St w0 (Bb k (Sv.v ⟨some ⟨b,off,none⟩,n,c⟩) n xs::A2 j vs.toArray ve::m) rs w) (s:0<c*k):j≠b:=by
 obtain⟨_,_,F,⟨_,F1,x,⟨_,_,g1⟩,⟨_,y,z,⟨_,g2,g3⟩,_,_,g5,_⟩,t,_,_⟩,_⟩:=h;rcases g1 with⟨q,_⟩|⟨l,_,_,o,_,_,q,r,u,_,_,A,_⟩
 ·simp[Sv.v]at q
 obtain⟨⟨rfl,rfl⟩,rfl⟩:(b=l/\off=_)/\c=_:=by simpa [Sv.v]using q
 intro e;subst e;have a:=u.1;rw[g3]at a;cases B65.inj a;have p:=r 0 s;exact t _ p (g5 _ (g2 _ (by omega)))
theorem St.spare{b off n cap xs} (h:St w0 (Bb k (Sv.v ⟨some ⟨b,off,none⟩,n,cap⟩) n xs::m) rs w) m' (r:n+m'<=cap):∃ys,ys.length=m'*k/\St w0 (Bb k (Sv.v ⟨some ⟨b,off,none⟩,n+m',cap⟩) (n+m') (xs++ys)::m) rs w:=by
 obtain⟨F,_,x,y⟩:=h.at' (B5n ..);rcases y with⟨l,_⟩|⟨o,c,a,j,e,A,l,t,G,Q,I,N,p⟩
 ·simp[Sv.v]at l
 obtain⟨⟨rfl,rfl⟩,rfl⟩:(b=o/\off=c)/\cap=a:=by simpa [Sv.v]using l
 have C:=B5v k r;rw[B61]at C;have s:((j.toList.drop (off+n*k)).take (m'*k)).length=m'*k:=by rw[B5x,B50,B5z];omega
 refine⟨(j.toList.drop (off+n*k)).take (m'*k),s,h.updHead λF ⟨D,O,K⟩=>?_⟩;rcases K with⟨l,_⟩|⟨o,c,a,q,e2,B,l,t,H,_,_,_,u⟩
 ·simp[Sv.v]at l
 obtain⟨⟨rfl,rfl⟩,rfl⟩:(b=o/\off=c)/\cap=a:=by simpa [Sv.v]using l
 refine⟨F,⟨D,by rw[B5m,x,s,B61],.inr ⟨b,off,cap,j,e,A,rfl,t,G,r,I,N,?_⟩⟩,RelX.refl F w,λ_ z=>.inl z⟩;rw[B61,<-p,<-B7o,<-List.take_add]
theorem St.blit{b off n cap o xs cs} (h:St w0 (Bb k (Sv.v ⟨some ⟨b,off,none⟩,n,cap⟩) n xs::m) rs w) (y:o+cs.length<=n*k):St w0 (Bb k (Sv.v ⟨some ⟨b,off,none⟩,n,cap⟩) n (xs.take o++cs++xs.drop (o+cs.length))::m) rs (w.setCells b (off+o) cs):=by
 refine h.updHead λF ⟨G,V,I⟩=>?_;rcases I with⟨u,_⟩|⟨C,q,l,a,e,D,u,z,A,B,H,K,r⟩
 ·simp[Sv.v]at u
 obtain⟨⟨rfl,rfl⟩,rfl⟩:(b=C/\off=q)/\cap=l:=by simpa [Sv.v]using u
 have S:=B5v k B;have c:=Aci (X:=F) (b:=b) cs (off+o) w λj Q R=>by have:=z (j-off) (by omega);rw[show off+(j-off)=j by omega]at this;exact this
 have t:off+n*k<=a.toList.length:=by rw[B5z];omega
 have x:=Oe cs a.toList (off+o) (by omega);have p:(Sd a.toList (off+o) cs).toArray.size=a.size:=by rw[x];simp only[B7p,B5m,B5x,B50,B5z]at t⊢;omega
 refine⟨F,⟨λb s=>B6w (G b s) c.size,by simp;omega,.inr ⟨b,off,cap,_,e,D,rfl,z,⟨Yq cs _ a w A.1,by rw[p];exact A.2⟩,B,H,by rw[p];exact K,?_⟩⟩,c,λ_ s=>.inl s⟩;rw[x];have N:(a.toList.take (off+o)).drop off=xs.take o:=by rw[B84,B82,<-r,B9k,B7q (by omega)]
 have O:xs.drop (o+cs.length)=(a.toList.drop (off+o+cs.length)).take (n*k-(o+cs.length)):=by rw[<-r,B84,B7o];congr 2;omega
 have U:(a.toList.take (off+o)).length=off+o:=by rw[B5x];omega
 simp only;rw[B5r,B8d (by omega),N,O,<-B5r,B9i,B7a (by simp;omega)];congr 2;simp;omega
end
section
variable {P:Program} {n:Nat} {env:Env} {w:World} {d:Option Tmp} {ty:TypeId} {pos:String} {af:Array Edge} {g:Option (Nat×Bool)} {k:Nat}
theorem Bva{x hi t e bytes z} {s:Sv}{j} (r:P.underlying t=some (.slice e)) (q:Sz P e k bytes z)
  (hx:ev env x=some s.v) (a:ev env hi=some (.int .i64 j)) (o:0<=j/\j<=(s.c:Int)):
  Runs P n env w ⟨d,.slice t x none (some hi) none,ty,pos,af,g⟩ (s.cut k 0 j.toNat).v w:=λb l=>by
 have h:b.eval x=.slice s.p s.n s.c:=l.ev hx;simp only[execOp,h,l.ev a,B77,B8w,Instr.sliceAt,Sem.run_bind,run_underlying r,Result.andThen_ok,Instr.slice,Instr.sliceBounds,Instr.sliceBound,asIntOf,Sem.run_pure,Sem.run_ite,if_pos o,q.run,Cad,Sv.cut_eq]
theorem Ab3{x l t e bytes z} {s:Sv}{i} (u:P.underlying t=some (.slice e)) (r:Sz P e k bytes z)
  (hx:ev env x=some s.v) (a:ev env l=some (.int .i64 i)) (q:0<=i/\i<=(s.n:Int)) (y:s.n<=s.c):
  Runs P n env w ⟨d,.slice t x (some l) none none,ty,pos,af,g⟩ (s.cut k i.toNat s.n).v w:=λb j=>by
 have o:(s.c-i.toNat=0)=(s.c=i.toNat):=by apply propext;omega
 have h:b.eval x=.slice s.p s.n s.c:=j.ev hx;simp only[execOp,h,j.ev a,B77,B8w,Instr.sliceAt,Sem.run_bind,run_underlying u,Result.andThen_ok,Instr.slice,Instr.sliceBounds,Instr.sliceBound,asIntOf,Sem.run_pure,Sem.run_ite,if_pos q,r.run,B71,B6q,if_false,o,Sv.cut_eq]
theorem Anr{b off n c i n'} (h:i<c):Sv.cut ⟨some ⟨b,off,none⟩,n,c⟩ k i n'=⟨some ⟨b,off+i*k,none⟩,n'-i,c-i⟩:=by unfold Sv.cut;simp only;rw[if_neg (by omega)];simp[Addr.add_lit]
theorem Bia{b off n c n'} (h:0<c):Sv.cut ⟨some ⟨b,off,none⟩,n,c⟩ k 0 n'=⟨some ⟨b,off,none⟩,n',c⟩:=by rw[Anr h];simp
theorem Asa{x t e} {s:Sv} (j:P.underlying t=some (.slice e)) (hx:ev env x=some s.v):
  Runs P n env w ⟨d,.call {callee:=.builtin .cap,args:= #[x],argTypes:= #[t]},ty,pos,af,g⟩ (.int .i64 (s.c:Int)) w:=λa h=>by
 have b:a.eval x=.slice s.p s.n s.c:=h.ev hx;simp[execOp,resolve,invoke,builtin,b,Builtin.cap_,run_underlying j,goInt]
theorem Asb{f args ats vs v} (e:evs env args=some vs) (c:(callFunc f vs.toArray).run P w=.ok (.value v) w):
  Runs P n env w ⟨d,.call {callee:=.value (.func f),args:=args.toArray,argTypes:=ats},ty,pos,af,g⟩ v w:=λa b=>by
 simp only[execOp,resolve,Act.eval,Deferred.ofValue,invoke,Sem.run_bind,Sem.run_pure,Result.andThen_ok,B93,b.evs _ _ e];simpa using c
theorem Lg{K} {d:Nat}{x y t u a b r w'} (hx:ev env x=some a) (l:ev env y=some b) (j:(Builtin.copy_ #[t,u] ty #[a,b]).run P w=.ok r w') (h:K r w'):
  Ex P n env w ⟨some d,.call {callee:=.builtin .copy,args:= #[x,y],argTypes:= #[t,u]},ty,pos,af,none⟩ K:=by
 refine Ha (v:=r) (w':=w') (λc e=>?_) h;simp[execOp,resolve,invoke,builtin,e.ev hx,e.ev l,j]
theorem Aj7{K} {d:Nat}{x y t u a b r w'} (hx:ev env x=some a) (l:ev env y=some b) (j:(Builtin.append_ #[t,u] ty #[a,b]).run P w=.ok r w') (h:K r w'):
  Ex P n env w ⟨some d,.call {callee:=.builtin .append,args:= #[x,y],argTypes:= #[t,u]},ty,pos,af,none⟩ K:=by
 refine Ha (v:=r) (w':=w') (λc e=>?_) h;simp[execOp,resolve,invoke,builtin,e.ev hx,e.ev l,j]
end
section
variable {w:World} {w0:Base} {m:List As} {rs:List Rd} {k:Nat} {T:Type} {f:T->List Ce} {L M:List T}
theorem St.zipOne{cs xs} (e:cs.length=xs.length) (h:St w0 (Aj cs xs++m) rs w):∀v∈xs,v.oneCell'=true:=by
 have a:∃S,Br S w cs xs:=by obtain⟨_,_,F,b,_⟩:=h;obtain⟨F1,_,c,_⟩:=b.split;exact⟨F1,Zx e c⟩
 obtain⟨S,a⟩:=a;exact Ab4 a
theorem Nm (a:∀x,(f x).length=k):∀L:List T,(L.flatMap f).length=L.length*k
 |[]=>by simp
 |x::L=>by rw[B6h,B5m,a,Nm a L,B5q,B61];omega
theorem St.insDone{i xs vs} {s':Sv} (a:∀x,(f x).length=k) (hi:i<=L.length) (hx:(L.flatMap f).length=xs.length) (c:(M.flatMap f).length=vs.length)
  (h:St w0 (Bb k s'.v (L.length+M.length) (xs.take (i*k)++vs++xs.drop (i*k))::(Aj (L.flatMap f) xs++(Aj (M.flatMap f) vs++m))) rs w):St w0 (oC (Ac k f (L.take i++M++L.drop i)) s'.v::m) rs w:=by
 have e:L.flatMap f=(L.take i).flatMap f++(L.drop i).flatMap f:=by rw[<-B60,B6t]
 have b:((L.take i).flatMap f).length=(xs.take (i*k)).length:=by rw[Nm a,B5x,B5x,B7q hi,B7q];rw[<-hx,Nm a];exact B5v k hi
 have l:((L.drop i).flatMap f).length=(xs.drop (i*k)).length:=by rw[Nm a,B50,B50,<-hx,Nm a,B7g]
 have e2:Aj (L.flatMap f) xs=Aj ((L.take i).flatMap f) (xs.take (i*k))++Aj ((L.drop i).flatMap f) (xs.drop (i*k)):=by
  conv=>lhs;rw[e,<-B6t (i*k) xs]
  exact Kh b
 have j:(L.take i++M++L.drop i).length=L.length+M.length:=by simp;omega
 refine St.rerow (xs:=xs.take (i*k)++vs++xs.drop (i*k)) (by rw[B60,B60,B5m,B5m,B5m,B5m,b,c,l]) ?_;rw[j,B60,B60,Kh (by rw[B5m,B5m,b,c]),Kh b];rw[e2]at h;refine h.perm (List.Perm.cons _ ?_);rw[B5r,B5r,B5r];refine List.Perm.append_left _ ?_;rw[<-B5r,<-B5r];exact List.Perm.append_right _ B56
end
section
variable {k i n:Nat} {xs zs ys vs:List Value}
theorem Ap6 (hx:xs.length=n*k) (j:zs.length=(n+1-i)*k) (e:vs.length=k) (hi:i<=n):
  (((xs.take (i*k)++zs).take (i*k)++vs++(xs.take (i*k)++zs).drop (i*k+vs.length)).take ((i+1)*k)++xs.drop (i*k)++((xs.take (i*k)++zs).take (i*k)++vs++(xs.take (i*k)++zs).drop (i*k+vs.length)).drop ((i+1)*k+(xs.drop (i*k)).length))
   =xs.take (i*k)++vs++xs.drop (i*k):=by
 have l:=B5v k hi;have c:(i+1)*k=i*k+k:=by rw[B61,B9f]
 have e2:(n+1-i)*k=n*k+k-i*k:=by rw[B7g,B61,B9f]
 have b:(xs.take (i*k)).length=i*k:=by rw[B5x];omega
 have a:∀(X T:List Value) (q:Nat),T.length<=q->X++T.drop q=X:=λX T q h=>by rw[Caz h,B6o]
 rw[Cag b];refine(a _ _ _ ?_).trans ?_
 ·simp only[B5m,B50,b,j,e,hx,c,e2];omega
 ·rw[Cag (by rw[B5m,b,e,c])]
theorem Ap7 (hx:xs.length=n*k) (b:ys.length=1*k) (c:vs.length=k) (hi:i+1<=n):
  (((xs++ys).take ((i+1)*k)++xs.drop (i*k)++(xs++ys).drop ((i+1)*k+(xs.drop (i*k)).length)).take (i*k)++vs++((xs++ys).take ((i+1)*k)++xs.drop (i*k)++(xs++ys).drop ((i+1)*k+(xs.drop (i*k)).length)).drop (i*k+vs.length))
   =xs.take (i*k)++vs++xs.drop (i*k):=by
 have h:=B5v k hi;have a:(i+1)*k=i*k+k:=by rw[B61,B9f]
 have e:((xs++ys).take ((i+1)*k)).length=i*k+k:=by rw[B5x,B5m,hx,b,a];omega
 rw[Caz (l:=xs++ys),B6o,c,List.drop_left' e,B8c (by omega),B9k,B7q (by omega),B8c (by omega)];simp only[B5m,B50,hx,b,a];omega
end
section
variable {P:Program} {n:Nat} {env:Env} {w:World} {d:Option Tmp} {ty:TypeId} {pos:String} {af:Array Edge} {g:Option (Nat×Bool)} {k:Nat}
theorem Fy{x h t e bytes z} {b off l c i:Nat}{j} (r:P.underlying t=some (.slice e)) (q:Sz P e k bytes z)
  (hx:ev env x=some (Sv.v ⟨some ⟨b,off,none⟩,l,c⟩)) (a:ev env h=some (.int .i64 j)) (p:j=(i:Int)) (s:i<=l) (o:l<=c) (hi:i<c):
  Runs P n env w ⟨d,.slice t x (some h) none none,ty,pos,af,g⟩ (Sv.v ⟨some ⟨b,off+i*k,none⟩,l-i,c-i⟩) w:=by
 subst p;rw[<-Anr hi];exact Ab3 r q hx a ⟨by omega,by simp only;omega⟩ o
theorem U0{x hi t e bytes z} {b off l c i:Nat}{j} (q:P.underlying t=some (.slice e)) (p:Sz P e k bytes z)
  (hx:ev env x=some (Sv.v ⟨some ⟨b,off,none⟩,l,c⟩)) (a:ev env hi=some (.int .i64 j)) (o:j=(i:Int)) (r:i<=c) (h:0<c):
  Runs P n env w ⟨d,.slice t x none (some hi) none,ty,pos,af,g⟩ (Sv.v ⟨some ⟨b,off,none⟩,i,c⟩) w:=by
 subst o;rw[<-Bia (k:=k) (n:=l) h];exact Bva q p hx a ⟨by omega,by simp only;omega⟩
end
end
section
open Go.RowKit
def stE {T:Type} [Inhabited T] (L:List T) (i:Nat) (f:T->T):List T:=L.set i (f (el L i))
def Mp {T:Type} (L:List T) (i:Int) (a:T):Option (List T):=xg (0<=i/\i<=(L.length:Int))<|xg (L.length<=1000000)<|some (L.take i.toNat++[a]++L.drop i.toNat)
def Vt {T:Type} (L:List T) (i:Int) (M:List T):Option (List T):=match M with
 |[a]=>Mp L i a
 |_=>none
theorem Bqd{T L i a} {r:List T} (h:Mp L i a=some r):(0<=i/\i<=(L.length:Int))/\L.length<=1000000/\L.take i.toNat++[a]++L.drop i.toNat=r:=by unfold Mp at h;obtain⟨b,h⟩:=Bf h;obtain⟨c,h⟩:=Bf h;exact⟨b,c,B65.inj h⟩
def InsOk (f:FuncId) (t:Ty):Prop:=∀(w:World) (X S:Bs) (L:List (Bi t)) (s:Sv) (i:Int) (a:Bi t) (vs:List Value) (c:Nat) (d:TypeId),vs.length=sz t->(∀b,S b->b.1<w.heap.size/\¬X b)->Sep (oC (Ac (sz t) (fD t) L) s.v::(A2 c vs.toArray d::Aj (fD t a) vs)) X w->(0<=i/\i<=(L.length:Int))->L.length<=1000000->
  Ret Tryz.prog f [s.v,.int .i64 i,Sv.v ⟨some ⟨c,0,none⟩,1,1⟩] w (λu w'=>∃y:Sv,u=y.v/\Gives X S w [oC (Ac (sz t) (fD t) (L.take i.toNat++[a]++L.drop i.toNat)) y.v] [] w')
theorem A4t{k T f} {L:List T}{v w F m} (h:Sep (oC (Ac k f L) v::m) F w):∃s:Sv,v=s.v:=by obtain⟨_,F1,_,b,_⟩:=h;obtain⟨a,cap,e,_⟩:=(Ac k f L).seen b;exact⟨⟨a,L.length,cap⟩,e⟩
theorem Apl{amb f t} (h:InsOk f t):Holds amb ⟨f,[.val true (.sl t),.val false (.b 0),.lit t],[⟨true,.sl t,false⟩],λa=>Mp a.1 a.2.1 a.2.2.1⟩:=by
 intro w X S a x own M r G D F N hx;cases G with
 | @ow _ _ L _ d _ _ _ _ A k=>
 cases k with
 | @ro _ _ i _ K _ _ _ _ B k=>
 cases k with
 | @li _ _ e _ b te g _ _ _ _ C k=>
 cases k;have l:d.length=1:=A
 obtain⟨H,rfl⟩:∃v,d=[v]:=by
  match d,l with
  |[v],_=>exact⟨v,rfl⟩
 obtain⟨I,rest,rfl,m,n⟩:=B;have j:rest=[]:=n;subst j;have hi:I=.int .i64 i:=m;subst hi;have c:Sep (oC (Ac (sz t) (fD t) L) H::(A2 b g.toArray te::(Aj (fD t e) g++[]))) X w:=D;rw[B6o]at c;obtain⟨s,rfl⟩:=A4t c;obtain⟨p,q,o⟩:=Bqd (T:=Bi t) (L:=L) (i:=i) (a:=e) hx;subst o;refine(h w X S L s i e g b te C F c p q).mono λu w' ⟨y,z,e2⟩=>⟨[y.v],_,[],z,?_,e2⟩;exact⟨[[.sl t _]],[],_,[],[],[],rfl,⟨[y.v],[],[],[],[],rfl,rfl,⟨rfl,rfl,rfl⟩,⟨rfl,rfl⟩,⟨rfl,rfl⟩⟩,⟨rfl,rfl⟩,rfl,rfl⟩
end
section
open Go.RowKit
theorem Bqa w X S{T f} (hf:∀x,(f x).length=2) L (s:Sv) i (a:T) vs vb ve (W:vs.length=2) (hS:∀b,S b->b.1<w.heap.size/\¬X b) (oL:Sep (oC (Ac 2 f L) s.v::(A2 vb vs.toArray ve::Aj (f a) vs)) X w) (hi:0<=i/\i<=(L.length:Int)) (hL:L.length<=1000000):
  Ret Tryz.prog 166 [s.v,.int .i64 i,Sv.v ⟨some ⟨vb,0,none⟩,1,1⟩] w (λu w'=>∃y:Sv,u=y.v/\Gives X S w [oC (Ac 2 f (L.take i.toNat++[a]++L.drop i.toNat)) y.v] [] w'):=by
 obtain⟨d6,f8⟩:=hi;obtain⟨p,rfl⟩:=B8f d6;rw[B58];have c4:∃z,Sz Tryz.prog 115 2 40 z:=⟨_,Aty⟩;obtain⟨z0,g⟩:=c4;have hp:p<=L.length:=by omega
 refine enter Tryz.func166 rfl Tryz.ntmps166 (by kernel_rfl) rfl ?_;have a5:=St.enter oL hS
 have d8:s.n=L.length/\s.n<=s.c:=by
  obtain⟨a,cap,e,h1,h2,_⟩:=a5.seeO (.head _);obtain⟨_,e2,e3⟩:s.p=a/\s.n=L.length/\s.c=cap:=by simpa [Sv.v]using e
  omega
 have hM0r:St ⟨w,X,S⟩ (oC (Ac 2 f L) s.v::(oC (Ac 2 f [a]) (Sv.v ⟨some ⟨vb,0,none⟩,1,1⟩)::[])) [] w:=by
  have h1:=(a5.perm (B56 (l₁:=[oC (Ac 2 f L) s.v]) (l₂:=A2 vb vs.toArray ve::Aj (f a) vs))).boxRow W;have h2:St ⟨w,X,S⟩ (Bb 2 (Sv.v ⟨some ⟨vb,0,none⟩,1,1⟩) [a].length vs::(Aj ([a].flatMap f) vs++[oC (Ac 2 f L) s.v])) [] w:=by simpa using h1
  exact(St.rerow (by simpa [hf]using W.symm) h2).perm (List.Perm.swap ..)
 obtain⟨xs,b0,c0⟩:=a5.unrow;have d:St ⟨w,X,S⟩ (Bb 2 s.v L.length xs::A2 vb vs.toArray ve::(Aj (L.flatMap f) xs++(Aj (f a) vs++[]))) [] w:=by refine c0.perm (List.Perm.cons _ ?_);rw[B6o];exact B5u
 clear c0;refine B2 ?_;refine Ed rfl rfl ?_;refine B3 ?_;refine B2 ?_;refine Aw rfl rfl ?_;refine Aw rfl rfl ?_;refine wv rfl (Ab3 Tryz.underlying36 g rfl rfl ⟨by omega,by omega⟩ d8.2) ?_;refine B3 ?_;refine B2 ?_;refine Aw rfl rfl ?_;refine wv rfl (Mb Tryz.underlying36 rfl) ?_;refine Ed rfl rfl ?_;refine B3 ?_;refine Fc ?_;refine B2 ?_;refine Aw rfl rfl ?_;refine wv rfl (R6 rfl rfl) ?_;refine B3 ?_;refine H5 rfl (λF=>absurd (of_decide_eq_true F) (by simp)) (λ_=>?_);refine Mn ?_;refine G4 ?_;refine B2 ?_;refine Aw rfl rfl ?_;refine wv rfl (Mb Tryz.underlying36 rfl) ?_;refine Ed rfl rfl ?_;refine B3 ?_;refine Fc ?_;refine B2 ?_;refine Aw rfl rfl ?_;refine Aw rfl rfl ?_;refine wv rfl (R6 rfl rfl) ?_;refine B3 ?_;refine H5 rfl (λF=>?_) (λF=>?_)
 ·have a2:p=L.length:=by have:=of_decide_eq_true F;omega
  refine B2 ?_;refine Aw rfl rfl ?_;refine Aw rfl rfl ?_;refine Ld rfl (Aj8 Tryz.underlying36 g rfl rfl hM0r (by simp;omega) (by decide) ?_);intro s' w1 d;refine Ed rfl rfl ?_;refine B3 ?_;refine Lf ?_;refine Og ?_;refine Jt [s'.v] ⟨rfl,trivial⟩ ?_;rw[a2,B6m,B72,B6o];exact⟨s',rfl,d.gives⟩
 have a2:p<L.length:=by have:=of_decide_eq_false F;omega
 obtain⟨b,off,cap,d0,e,hd,rfl,hg,f9,d2,f5,A,a1⟩:=d.rowAt (.head _) (by omega);have d9:=d.apart (by omega);have h1x:=St.zipOne b0 d.drop.drop;have h1v:∀u∈vs,u.oneCell'=true:=St.zipOne (cs:=f a) (m:=Aj (L.flatMap f) xs) (by rw[hf a,W]) (d.drop.drop.perm (by rw[B6o];exact B56));have a4:vs.length=1*2:=by omega
 simp only[maxLen]at d2;refine Mn ?_;refine G4 ?_;refine Fc ?_;refine B2 ?_;refine Aw rfl rfl ?_;refine Aw rfl rfl ?_;refine wv rfl (Gd rfl rfl ⟨by simp only;omega,by simp only;omega⟩) ?_;refine Aw rfl rfl ?_;refine wv rfl (Asa Tryz.underlying36 rfl) ?_;refine wv rfl (Aik rfl rfl) ?_;refine B3 ?_;refine H5 rfl (λF=>?_) (λF=>?_)
 ·have d5:cap<L.length+1:=by have:=of_decide_eq_true F;simp only at this;omega
  have a9:(xs.drop (p*2)).length=(L.length-p)*2:=by rw[B50,A,B7g]
  have d7:=B5v 2 a2;obtain⟨h,l,hz,B,c2⟩:=g.info;refine B2 ?_;refine Aw rfl rfl ?_;refine Aw rfl rfl ?_;refine wv rfl (U0 (i:=p) Tryz.underlying36 g rfl rfl rfl (by omega) (by omega)) ?_;refine Aw rfl rfl ?_;refine Aw rfl rfl ?_;refine wv rfl (Gd rfl rfl ⟨by simp only;omega,by simp only;omega⟩) ?_;refine Aw rfl rfl ?_;refine wv rfl (Aim rfl rfl ⟨by simp only;omega,by simp only;omega⟩) ?_;have a8:(xs.take (p*2)).length=p*h.size:=by rw[B5x,A,B];omega
  have c3:(Builtin.firstCells h.size p (.slice (some ⟨b,off,none⟩) p cap)).run Tryz.prog w.drew=.ok (xs.take (p*2)).toArray w.drew:=
   run_firstCells_some w.drew h.size p ⟨b,off,none⟩ p cap _ a8 λj u r=>by
    rw[Addr.add_lit];rw[B68]at r;split at r
    ·exact a1 _ _ r
    ·cases r
  have c1:=B9d (P:=Tryz.prog) w 36 3 36 115 h _ .i64 .i64 Tryz.underlying36 Tryz.underlying3 l hz (some ⟨b,off,none⟩) p cap (xs.take (p*2)) c3 (L.length+1-p) (by omega) (by omega) (by omega) (by omega) (by rw[c2];omega) (by rw[c2];exact growslice_fits (by omega) (by omega));have r:(((L.length:Nat):Int)+((1:Nat):Int)-(p:Int))=((L.length+1-p:Nat):Int):=by omega
  have hq:p+(L.length+1-p)=L.length+1:=by omega
  rw[hq]at c1;have hG:=grownCap_ge w (L.length+1) cap 115;have b9:=grownCap_le_maxLen w (L.length+1) cap 115 (by simp only[maxLen];omega);have a3:∀q,(Builtin.zeroCells (z0).cells q).size=q*2:=λq=>by rw[size_zeroCells,g.2.1]
  have d:=d.drew.allocRow (k:=2) (n:=L.length+1) (cap:=grownCap w (L.length+1) cap 115) (xs.take (p*2)++(Builtin.zeroCells (z0).cells (L.length+1-p)).toList)
   (Builtin.zeroCells (z0).cells (grownCap w (L.length+1) cap 115-(L.length+1))).toList ((xs.take (p*2)).toArray++Builtin.zeroCells (z0).cells (L.length+1-p)++Builtin.zeroCells (z0).cells (grownCap w (L.length+1) cap 115-(L.length+1))) 115 (by rw[B81,B81]) (by rw[B5m,a8,B5z,a3,B];omega) hG b9
   (by rw[B79,B79,a3,a3,B7p,a8,B];omega)
  refine Ld rfl (Aj7 rfl rfl (by simp only at r⊢;rw[r];exact c1) ?_);generalize grownCap w (L.length+1) cap 115=G at d hG b9⊢;generalize World.alloc _ _=w1 at d⊢;rw[show w.drew.heap.size=w.heap.size from rfl]at d;generalize w.heap.size=nb at d⊢;refine Ed rfl rfl ?_;refine B3 ?_;refine B2 ?_;refine Aw rfl rfl ?_;refine Aw rfl rfl ?_;refine wv rfl (Fy (i:=p) Tryz.underlying36 g rfl rfl rfl (by omega) (by omega) (by omega)) ?_;refine Aw rfl rfl ?_;obtain⟨b3,a0,D,b8,e3,d4,q3,a7,U,_,O,_,I⟩:=d.rowAt (.head _) (by omega);obtain⟨⟨rfl,rfl⟩,rfl⟩:(nb=b3/\0=a0)/\G=D:=by simpa using q3
  have Q:=Je a7 O U;obtain⟨_,t⟩:=d.boxAt (.tail _ (.tail _ (.head _)));refine Ld rfl (Lg rfl rfl (K5 w1 36 36 _ 115 h nb (0+p*2) _ _ ⟨vb,0,none⟩ 1 1 1 vs Tryz.underlying36 l (by simp only[B8r];split<;>omega) (by rw[B];exact a4) (λj u r=>?_) (λj r=>?_) (λj r=>?_) h1v) ?_)
  ·rw[Addr.add_lit];exact t _ _ r
  ·rw[B6d];refine Q.1 _ ?_;omega
  ·rw[B6d];refine Q.2 _ ?_;omega
  have d:=d.blit (o:=p*2) (cs:=vs) (by omega);refine B3 ?_;refine Fc ?_;refine Sq [(0,0),(1,0),(2,0),(3,0),(4,0),(5,0),(6,0),(7,0),(8,2)] Tryz_mixed (by kernel_rfl) rfl (by kernel_rfl) rfl ?_;refine Db rfl rfl ?_;refine Db rfl rfl ?_;refine Db rfl rfl ?_;refine ov rfl (λ_ _=>Gd rfl rfl ⟨by simp only;omega,by simp only;omega⟩) ?_;refine ov rfl (λ_ _=>Fy (i:=p+1) Tryz.underlying36 g rfl rfl (by simp) (by omega) (by omega) (by omega)) ?_;refine Db rfl rfl ?_;refine Db rfl rfl ?_;refine ov rfl (λ_ _=>Fy (i:=p) Tryz.underlying36 g rfl rfl rfl (by omega) (by omega) (by omega)) ?_;refine Um rfl λw2 hR=>?_;have d:=d.call hR;obtain⟨b2,Y,C,b7,e2,d3,q2,a6,R,_,N,_,_⟩:=d.rowAt (.head _) (by omega);obtain⟨⟨rfl,rfl⟩,rfl⟩:(nb=b2/\0=Y)/\G=C:=by simpa using q2
  obtain⟨b5,c5,b6,e7,e5,f6,q5,_,_,_,_,_,K⟩:=d.rowAt (.tail _ (.head _)) (by omega);obtain⟨⟨rfl,rfl⟩,rfl⟩:(b=b5/\off=c5)/\cap=b6:=by simpa using q5
  have Q:=Je a6 N R;refine Lg rfl rfl (K5 w2 36 36 _ 115 h nb (0+(p+1)*2) _ _ ⟨b,off+p*2,none⟩ _ _ (L.length-p) (xs.drop (p*2)) Tryz.underlying36 l (by simp only[B8r];split<;>omega) (by rw[B,a9]) (λj u r=>?_) (λj r=>?_) (λj r=>?_) (λu hu=>h1x u (B6z hu))) ?_
  ·rw[B6y]at r;rw[Addr.add_lit,B6d];exact K _ _ r
  ·rw[B6d];refine Q.1 _ ?_;omega
  ·rw[B6d];refine Q.2 _ ?_;omega
  have d:=d.blit (o:=(p+1)*2) (cs:=xs.drop (p*2)) (by omega);rw[Ap6 A (by rw[B5z,a3]) (by omega) (by omega)]at d;refine Un d λw3 d=>?_;refine G4 ?_;refine B2 ?_;refine Aw rfl rfl ?_;refine Ed rfl rfl ?_;refine B3 ?_;refine Lf ?_;refine Og ?_;refine Jt [Sv.v ⟨some ⟨nb,0,none⟩,L.length+1,G⟩] ⟨rfl,trivial⟩ ?_;have d:=((((d.perm (List.Perm.swap ..)).drop).perm (List.Perm.swap ..)).drop);exact⟨_,rfl,(St.insDone (m:=[]) (M:=[a]) (vs:=vs) (xs:=xs) hf hp b0 (by simp[hf,W]) (by simpa using d)).gives⟩
 have V:L.length+1<=cap:=by have:=of_decide_eq_false F;simp only at this;omega
 refine Mn ?_;refine G4 ?_;obtain⟨ys,e0,d⟩:=d.spare 1 V;refine B2 ?_;refine Aw rfl rfl ?_;refine Aw rfl rfl ?_;refine Aw rfl rfl ?_;refine wv rfl (Gd rfl rfl ⟨by simp only;omega,by simp only;omega⟩) ?_;refine wv rfl (U0 (i:=L.length+1) Tryz.underlying36 g rfl rfl (by simp) V (by omega)) ?_;refine Ed rfl rfl ?_;refine B3 ?_;refine Fc ?_;refine B2 ?_;refine Aw rfl rfl ?_;refine Aw rfl rfl ?_;refine Aw rfl rfl ?_;refine Aw rfl rfl ?_;refine wv rfl (Gd rfl rfl ⟨by simp only;omega,by simp only;omega⟩) ?_;refine wv rfl (Fy (i:=p+1) Tryz.underlying36 g rfl rfl (by simp) (by omega) (by omega) (by omega)) ?_;have b1:=(d.boxAt (.tail _ (.head _))).1;refine wv rfl (Asb rfl (v:=.bool false) ?_) ?_
 ·rw[run_callFunc_extern Tryz.func234 (by kernel_rfl) (by kernel_rfl) (by kernel_rfl) (e:=Extern.SlicesOverlaps.overlaps #[36,36] #[4]) (by kernel_rfl)];simp only[Sv.v];rw[B9m w 36 4 115 Tryz.underlying36 2 g.run ⟨vb,0,none⟩ ⟨b,off+(p+1)*2,none⟩ 1 1 _ _ d9 ve e vs.toArray.size d0.size (by simp[World.shape?,b1]) (by simp[World.shape?,hg.1]) (by omega) (by simp[World.frozen?,b1]) (by simp[World.frozen?,b1])];rfl
 refine wv rfl (Ail rfl) ?_;refine B3 ?_;refine H5 rfl (λ_=>?_) (λF=>absurd F (by simp));have a9:(xs.drop (p*2)).length=(L.length-p)*2:=by rw[B50,A,B7g]
 have d7:=B5v 2 a2;refine Fc ?_;refine Sq [(0,0),(1,0),(2,0),(3,0),(4,0),(5,0),(6,0),(7,0),(8,2)] Tryz_mixed (by kernel_rfl) rfl (by kernel_rfl) rfl ?_;refine Db rfl rfl ?_;refine Db rfl rfl ?_;refine Db rfl rfl ?_;refine ov rfl (λ_ _=>Gd rfl rfl ⟨by simp only;omega,by simp only;omega⟩) ?_;refine ov rfl (λ_ _=>Fy (i:=p+1) Tryz.underlying36 g rfl rfl (by simp) (by omega) (by omega) (by omega)) ?_;refine Db rfl rfl ?_;refine Db rfl rfl ?_;refine ov rfl (λ_ _=>Fy (i:=p) Tryz.underlying36 g rfl rfl rfl (by omega) (by omega) (by omega)) ?_;refine Um rfl λw1 hR=>?_;have d:=d.call hR;obtain⟨b2,Y,C,b7,e2,d3,q2,a6,R,_,N,_,H⟩:=d.rowAt (.head _) (by omega);obtain⟨⟨rfl,rfl⟩,rfl⟩:(b=b2/\off=Y)/\cap=C:=by simpa using q2
 obtain⟨h,l,_,B,_⟩:=g.info;have Q:=Je a6 N R;refine Lg rfl rfl (K5 w1 36 36 _ 115 h b (off+(p+1)*2) _ _ ⟨b,off+p*2,none⟩ _ _ (L.length-p) (xs.drop (p*2)) Tryz.underlying36 l (by simp only[B8r];split<;>omega) (by rw[B,a9]) (λj u r=>?_) (λj r=>?_) (λj r=>?_) (λu hu=>h1x u (B6z hu))) ?_
 ·rw[B6y]at r;rw[Addr.add_lit,B6d];refine H _ _ ?_;rw[B6p (B55.1 r).1];exact r
 ·rw[B6d];refine Q.1 _ ?_;omega
 ·rw[B6d];refine Q.2 _ ?_;omega
 have d:=d.blit (o:=(p+1)*2) (cs:=xs.drop (p*2)) (by omega);refine Un d λw2 d=>?_;refine G4 ?_;refine B2 ?_;refine Aw rfl rfl ?_;refine Aw rfl rfl ?_;refine wv rfl (Fy (i:=p) Tryz.underlying36 g rfl rfl rfl (by omega) (by omega) (by omega)) ?_;refine Aw rfl rfl ?_;obtain⟨b3,a0,D,b8,e3,d4,q3,a7,U,_,O,_,I⟩:=d.rowAt (.head _) (by omega);obtain⟨⟨rfl,rfl⟩,rfl⟩:(b=b3/\off=a0)/\cap=D:=by simpa using q3
 have Q:=Je a7 O U;obtain⟨_,t⟩:=d.boxAt (.tail _ (.head _));refine Ld rfl (Lg rfl rfl (K5 w2 36 36 _ 115 h b (off+p*2) _ _ ⟨vb,0,none⟩ 1 1 1 vs Tryz.underlying36 l (by simp only[B8r];split<;>omega) (by rw[B];exact a4) (λj u r=>?_) (λj r=>?_) (λj r=>?_) h1v) ?_)
 ·rw[Addr.add_lit];exact t _ _ r
 ·rw[B6d];refine Q.1 _ ?_;omega
 ·rw[B6d];refine Q.2 _ ?_;omega
 have d:=d.blit (o:=p*2) (cs:=vs) (by omega);rw[Ap7 A e0 (by omega) (by omega)]at d;refine B3 ?_;refine B2 ?_;refine Aw rfl rfl ?_;refine Ed rfl rfl ?_;refine B3 ?_;refine Lf ?_;refine Og ?_;refine Jt [Sv.v ⟨some ⟨b,off,none⟩,L.length+1,cap⟩] ⟨rfl,trivial⟩ ?_;have d:=(d.perm (List.Perm.swap ..)).drop;exact⟨_,rfl,(St.insDone (m:=[]) (M:=[a]) (vs:=vs) (xs:=xs) hf hp b0 (by simp[hf,W]) (by simpa using d)).gives⟩
theorem Bp9 w X S{T f} (hf:∀x,(f x).length=5) L (s:Sv) i (a:T) vs vb ve (W:vs.length=5) (hS:∀b,S b->b.1<w.heap.size/\¬X b) (oL:Sep (oC (Ac 5 f L) s.v::(A2 vb vs.toArray ve::Aj (f a) vs)) X w) (hi:0<=i/\i<=(L.length:Int)) (hL:L.length<=1000000):
  Ret Tryz.prog 288 [s.v,.int .i64 i,Sv.v ⟨some ⟨vb,0,none⟩,1,1⟩] w (λu w'=>∃y:Sv,u=y.v/\Gives X S w [oC (Ac 5 f (L.take i.toNat++[a]++L.drop i.toNat)) y.v] [] w'):=by
 obtain⟨d6,f8⟩:=hi;obtain⟨p,rfl⟩:=B8f d6;rw[B58];have c4:∃z,Sz Tryz.prog 170 5 96 z:=⟨_,A8p⟩;obtain⟨z0,g⟩:=c4;have hp:p<=L.length:=by omega
 refine enter Tryz.func288 rfl Tryz.ntmps288 (by kernel_rfl) rfl ?_;have a5:=St.enter oL hS
 have d8:s.n=L.length/\s.n<=s.c:=by
  obtain⟨a,cap,e,h1,h2,_⟩:=a5.seeO (.head _);obtain⟨_,e2,e3⟩:s.p=a/\s.n=L.length/\s.c=cap:=by simpa [Sv.v]using e
  omega
 have hM0r:St ⟨w,X,S⟩ (oC (Ac 5 f L) s.v::(oC (Ac 5 f [a]) (Sv.v ⟨some ⟨vb,0,none⟩,1,1⟩)::[])) [] w:=by
  have h1:=(a5.perm (B56 (l₁:=[oC (Ac 5 f L) s.v]) (l₂:=A2 vb vs.toArray ve::Aj (f a) vs))).boxRow W;have h2:St ⟨w,X,S⟩ (Bb 5 (Sv.v ⟨some ⟨vb,0,none⟩,1,1⟩) [a].length vs::(Aj ([a].flatMap f) vs++[oC (Ac 5 f L) s.v])) [] w:=by simpa using h1
  exact(St.rerow (by simpa [hf]using W.symm) h2).perm (List.Perm.swap ..)
 obtain⟨xs,b0,c0⟩:=a5.unrow;have d:St ⟨w,X,S⟩ (Bb 5 s.v L.length xs::A2 vb vs.toArray ve::(Aj (L.flatMap f) xs++(Aj (f a) vs++[]))) [] w:=by refine c0.perm (List.Perm.cons _ ?_);rw[B6o];exact B5u
 clear c0;refine B2 ?_;refine Ed rfl rfl ?_;refine B3 ?_;refine B2 ?_;refine Aw rfl rfl ?_;refine Aw rfl rfl ?_;refine wv rfl (Ab3 Tryz.underlying32 g rfl rfl ⟨by omega,by omega⟩ d8.2) ?_;refine B3 ?_;refine B2 ?_;refine Aw rfl rfl ?_;refine wv rfl (Mb Tryz.underlying32 rfl) ?_;refine Ed rfl rfl ?_;refine B3 ?_;refine Fc ?_;refine B2 ?_;refine Aw rfl rfl ?_;refine wv rfl (R6 rfl rfl) ?_;refine B3 ?_;refine H5 rfl (λF=>absurd (of_decide_eq_true F) (by simp)) (λ_=>?_);refine Mn ?_;refine G4 ?_;refine B2 ?_;refine Aw rfl rfl ?_;refine wv rfl (Mb Tryz.underlying32 rfl) ?_;refine Ed rfl rfl ?_;refine B3 ?_;refine Fc ?_;refine B2 ?_;refine Aw rfl rfl ?_;refine Aw rfl rfl ?_;refine wv rfl (R6 rfl rfl) ?_;refine B3 ?_;refine H5 rfl (λF=>?_) (λF=>?_)
 ·have a2:p=L.length:=by have:=of_decide_eq_true F;omega
  refine B2 ?_;refine Aw rfl rfl ?_;refine Aw rfl rfl ?_;refine Ld rfl (Aj8 Tryz.underlying32 g rfl rfl hM0r (by simp;omega) (by decide) ?_);intro s' w1 d;refine Ed rfl rfl ?_;refine B3 ?_;refine Lf ?_;refine Og ?_;refine Jt [s'.v] ⟨rfl,trivial⟩ ?_;rw[a2,B6m,B72,B6o];exact⟨s',rfl,d.gives⟩
 have a2:p<L.length:=by have:=of_decide_eq_false F;omega
 obtain⟨b,off,cap,d0,e,hd,rfl,hg,f9,d2,f5,A,a1⟩:=d.rowAt (.head _) (by omega);have d9:=d.apart (by omega);have h1x:=St.zipOne b0 d.drop.drop;have h1v:∀u∈vs,u.oneCell'=true:=St.zipOne (cs:=f a) (m:=Aj (L.flatMap f) xs) (by rw[hf a,W]) (d.drop.drop.perm (by rw[B6o];exact B56));have a4:vs.length=1*5:=by omega
 simp only[maxLen]at d2;refine Mn ?_;refine G4 ?_;refine Fc ?_;refine B2 ?_;refine Aw rfl rfl ?_;refine Aw rfl rfl ?_;refine wv rfl (Gd rfl rfl ⟨by simp only;omega,by simp only;omega⟩) ?_;refine Aw rfl rfl ?_;refine wv rfl (Asa Tryz.underlying32 rfl) ?_;refine wv rfl (Aik rfl rfl) ?_;refine B3 ?_;refine H5 rfl (λF=>?_) (λF=>?_)
 ·have d5:cap<L.length+1:=by have:=of_decide_eq_true F;simp only at this;omega
  have a9:(xs.drop (p*5)).length=(L.length-p)*5:=by rw[B50,A,B7g]
  have d7:=B5v 5 a2;obtain⟨h,l,hz,B,c2⟩:=g.info;refine B2 ?_;refine Aw rfl rfl ?_;refine Aw rfl rfl ?_;refine wv rfl (U0 (i:=p) Tryz.underlying32 g rfl rfl rfl (by omega) (by omega)) ?_;refine Aw rfl rfl ?_;refine Aw rfl rfl ?_;refine wv rfl (Gd rfl rfl ⟨by simp only;omega,by simp only;omega⟩) ?_;refine Aw rfl rfl ?_;refine wv rfl (Aim rfl rfl ⟨by simp only;omega,by simp only;omega⟩) ?_;have a8:(xs.take (p*5)).length=p*h.size:=by rw[B5x,A,B];omega
  have c3:(Builtin.firstCells h.size p (.slice (some ⟨b,off,none⟩) p cap)).run Tryz.prog w.drew=.ok (xs.take (p*5)).toArray w.drew:=
   run_firstCells_some w.drew h.size p ⟨b,off,none⟩ p cap _ a8 λj u r=>by
    rw[Addr.add_lit];rw[B68]at r;split at r
    ·exact a1 _ _ r
    ·cases r
  have c1:=B9d (P:=Tryz.prog) w 32 3 32 170 h _ .i64 .i64 Tryz.underlying32 Tryz.underlying3 l hz (some ⟨b,off,none⟩) p cap (xs.take (p*5)) c3 (L.length+1-p) (by omega) (by omega) (by omega) (by omega) (by rw[c2];omega) (by rw[c2];exact growslice_fits (by omega) (by omega));have r:(((L.length:Nat):Int)+((1:Nat):Int)-(p:Int))=((L.length+1-p:Nat):Int):=by omega
  have hq:p+(L.length+1-p)=L.length+1:=by omega
  rw[hq]at c1;have hG:=grownCap_ge w (L.length+1) cap 170;have b9:=grownCap_le_maxLen w (L.length+1) cap 170 (by simp only[maxLen];omega);have a3:∀q,(Builtin.zeroCells (z0).cells q).size=q*5:=λq=>by rw[size_zeroCells,g.2.1]
  have d:=d.drew.allocRow (k:=5) (n:=L.length+1) (cap:=grownCap w (L.length+1) cap 170) (xs.take (p*5)++(Builtin.zeroCells (z0).cells (L.length+1-p)).toList)
   (Builtin.zeroCells (z0).cells (grownCap w (L.length+1) cap 170-(L.length+1))).toList ((xs.take (p*5)).toArray++Builtin.zeroCells (z0).cells (L.length+1-p)++Builtin.zeroCells (z0).cells (grownCap w (L.length+1) cap 170-(L.length+1))) 170 (by rw[B81,B81]) (by rw[B5m,a8,B5z,a3,B];omega) hG b9
   (by rw[B79,B79,a3,a3,B7p,a8,B];omega)
  refine Ld rfl (Aj7 rfl rfl (by simp only at r⊢;rw[r];exact c1) ?_);generalize grownCap w (L.length+1) cap 170=G at d hG b9⊢;generalize World.alloc _ _=w1 at d⊢;rw[show w.drew.heap.size=w.heap.size from rfl]at d;generalize w.heap.size=nb at d⊢;refine Ed rfl rfl ?_;refine B3 ?_;refine B2 ?_;refine Aw rfl rfl ?_;refine Aw rfl rfl ?_;refine wv rfl (Fy (i:=p) Tryz.underlying32 g rfl rfl rfl (by omega) (by omega) (by omega)) ?_;refine Aw rfl rfl ?_;obtain⟨b3,a0,D,b8,e3,d4,q3,a7,U,_,O,_,I⟩:=d.rowAt (.head _) (by omega);obtain⟨⟨rfl,rfl⟩,rfl⟩:(nb=b3/\0=a0)/\G=D:=by simpa using q3
  have Q:=Je a7 O U;obtain⟨_,t⟩:=d.boxAt (.tail _ (.tail _ (.head _)));refine Ld rfl (Lg rfl rfl (K5 w1 32 32 _ 170 h nb (0+p*5) _ _ ⟨vb,0,none⟩ 1 1 1 vs Tryz.underlying32 l (by simp only[B8r];split<;>omega) (by rw[B];exact a4) (λj u r=>?_) (λj r=>?_) (λj r=>?_) h1v) ?_)
  ·rw[Addr.add_lit];exact t _ _ r
  ·rw[B6d];refine Q.1 _ ?_;omega
  ·rw[B6d];refine Q.2 _ ?_;omega
  have d:=d.blit (o:=p*5) (cs:=vs) (by omega);refine B3 ?_;refine Fc ?_;refine Sq [(0,0),(1,0),(2,0),(3,0),(4,0),(5,0),(6,0),(7,0),(8,2)] Tryz_mixed (by kernel_rfl) rfl (by kernel_rfl) rfl ?_;refine Db rfl rfl ?_;refine Db rfl rfl ?_;refine Db rfl rfl ?_;refine ov rfl (λ_ _=>Gd rfl rfl ⟨by simp only;omega,by simp only;omega⟩) ?_;refine ov rfl (λ_ _=>Fy (i:=p+1) Tryz.underlying32 g rfl rfl (by simp) (by omega) (by omega) (by omega)) ?_;refine Db rfl rfl ?_;refine Db rfl rfl ?_;refine ov rfl (λ_ _=>Fy (i:=p) Tryz.underlying32 g rfl rfl rfl (by omega) (by omega) (by omega)) ?_;refine Um rfl λw2 hR=>?_;have d:=d.call hR;obtain⟨b2,Y,C,b7,e2,d3,q2,a6,R,_,N,_,_⟩:=d.rowAt (.head _) (by omega);obtain⟨⟨rfl,rfl⟩,rfl⟩:(nb=b2/\0=Y)/\G=C:=by simpa using q2
  obtain⟨b5,c5,b6,e7,e5,f6,q5,_,_,_,_,_,K⟩:=d.rowAt (.tail _ (.head _)) (by omega);obtain⟨⟨rfl,rfl⟩,rfl⟩:(b=b5/\off=c5)/\cap=b6:=by simpa using q5
  have Q:=Je a6 N R;refine Lg rfl rfl (K5 w2 32 32 _ 170 h nb (0+(p+1)*5) _ _ ⟨b,off+p*5,none⟩ _ _ (L.length-p) (xs.drop (p*5)) Tryz.underlying32 l (by simp only[B8r];split<;>omega) (by rw[B,a9]) (λj u r=>?_) (λj r=>?_) (λj r=>?_) (λu hu=>h1x u (B6z hu))) ?_
  ·rw[B6y]at r;rw[Addr.add_lit,B6d];exact K _ _ r
  ·rw[B6d];refine Q.1 _ ?_;omega
  ·rw[B6d];refine Q.2 _ ?_;omega
  have d:=d.blit (o:=(p+1)*5) (cs:=xs.drop (p*5)) (by omega);rw[Ap6 A (by rw[B5z,a3]) (by omega) (by omega)]at d;refine Un d λw3 d=>?_;refine G4 ?_;refine B2 ?_;refine Aw rfl rfl ?_;refine Ed rfl rfl ?_;refine B3 ?_;refine Lf ?_;refine Og ?_;refine Jt [Sv.v ⟨some ⟨nb,0,none⟩,L.length+1,G⟩] ⟨rfl,trivial⟩ ?_;have d:=((((d.perm (List.Perm.swap ..)).drop).perm (List.Perm.swap ..)).drop);exact⟨_,rfl,(St.insDone (m:=[]) (M:=[a]) (vs:=vs) (xs:=xs) hf hp b0 (by simp[hf,W]) (by simpa using d)).gives⟩
 have V:L.length+1<=cap:=by have:=of_decide_eq_false F;simp only at this;omega
 refine Mn ?_;refine G4 ?_;obtain⟨ys,e0,d⟩:=d.spare 1 V;refine B2 ?_;refine Aw rfl rfl ?_;refine Aw rfl rfl ?_;refine Aw rfl rfl ?_;refine wv rfl (Gd rfl rfl ⟨by simp only;omega,by simp only;omega⟩) ?_;refine wv rfl (U0 (i:=L.length+1) Tryz.underlying32 g rfl rfl (by simp) V (by omega)) ?_;refine Ed rfl rfl ?_;refine B3 ?_;refine Fc ?_;refine B2 ?_;refine Aw rfl rfl ?_;refine Aw rfl rfl ?_;refine Aw rfl rfl ?_;refine Aw rfl rfl ?_;refine wv rfl (Gd rfl rfl ⟨by simp only;omega,by simp only;omega⟩) ?_;refine wv rfl (Fy (i:=p+1) Tryz.underlying32 g rfl rfl (by simp) (by omega) (by omega) (by omega)) ?_;have b1:=(d.boxAt (.tail _ (.head _))).1;refine wv rfl (Asb rfl (v:=.bool false) ?_) ?_
 ·rw[run_callFunc_extern Tryz.func326 (by kernel_rfl) (by kernel_rfl) (by kernel_rfl) (e:=Extern.SlicesOverlaps.overlaps #[32,32] #[4]) (by kernel_rfl)];simp only[Sv.v];rw[B9m w 32 4 170 Tryz.underlying32 5 g.run ⟨vb,0,none⟩ ⟨b,off+(p+1)*5,none⟩ 1 1 _ _ d9 ve e vs.toArray.size d0.size (by simp[World.shape?,b1]) (by simp[World.shape?,hg.1]) (by omega) (by simp[World.frozen?,b1]) (by simp[World.frozen?,b1])];rfl
 refine wv rfl (Ail rfl) ?_;refine B3 ?_;refine H5 rfl (λ_=>?_) (λF=>absurd F (by simp));have a9:(xs.drop (p*5)).length=(L.length-p)*5:=by rw[B50,A,B7g]
 have d7:=B5v 5 a2;refine Fc ?_;refine Sq [(0,0),(1,0),(2,0),(3,0),(4,0),(5,0),(6,0),(7,0),(8,2)] Tryz_mixed (by kernel_rfl) rfl (by kernel_rfl) rfl ?_;refine Db rfl rfl ?_;refine Db rfl rfl ?_;refine Db rfl rfl ?_;refine ov rfl (λ_ _=>Gd rfl rfl ⟨by simp only;omega,by simp only;omega⟩) ?_;refine ov rfl (λ_ _=>Fy (i:=p+1) Tryz.underlying32 g rfl rfl (by simp) (by omega) (by omega) (by omega)) ?_;refine Db rfl rfl ?_;refine Db rfl rfl ?_;refine ov rfl (λ_ _=>Fy (i:=p) Tryz.underlying32 g rfl rfl rfl (by omega) (by omega) (by omega)) ?_;refine Um rfl λw1 hR=>?_;have d:=d.call hR;obtain⟨b2,Y,C,b7,e2,d3,q2,a6,R,_,N,_,H⟩:=d.rowAt (.head _) (by omega);obtain⟨⟨rfl,rfl⟩,rfl⟩:(b=b2/\off=Y)/\cap=C:=by simpa using q2
 obtain⟨h,l,_,B,_⟩:=g.info;have Q:=Je a6 N R;refine Lg rfl rfl (K5 w1 32 32 _ 170 h b (off+(p+1)*5) _ _ ⟨b,off+p*5,none⟩ _ _ (L.length-p) (xs.drop (p*5)) Tryz.underlying32 l (by simp only[B8r];split<;>omega) (by rw[B,a9]) (λj u r=>?_) (λj r=>?_) (λj r=>?_) (λu hu=>h1x u (B6z hu))) ?_
 ·rw[B6y]at r;rw[Addr.add_lit,B6d];refine H _ _ ?_;rw[B6p (B55.1 r).1];exact r
 ·rw[B6d];refine Q.1 _ ?_;omega
 ·rw[B6d];refine Q.2 _ ?_;omega
 have d:=d.blit (o:=(p+1)*5) (cs:=xs.drop (p*5)) (by omega);refine Un d λw2 d=>?_;refine G4 ?_;refine B2 ?_;refine Aw rfl rfl ?_;refine Aw rfl rfl ?_;refine wv rfl (Fy (i:=p) Tryz.underlying32 g rfl rfl rfl (by omega) (by omega) (by omega)) ?_;refine Aw rfl rfl ?_;obtain⟨b3,a0,D,b8,e3,d4,q3,a7,U,_,O,_,I⟩:=d.rowAt (.head _) (by omega);obtain⟨⟨rfl,rfl⟩,rfl⟩:(b=b3/\off=a0)/\cap=D:=by simpa using q3
 have Q:=Je a7 O U;obtain⟨_,t⟩:=d.boxAt (.tail _ (.head _));refine Ld rfl (Lg rfl rfl (K5 w2 32 32 _ 170 h b (off+p*5) _ _ ⟨vb,0,none⟩ 1 1 1 vs Tryz.underlying32 l (by simp only[B8r];split<;>omega) (by rw[B];exact a4) (λj u r=>?_) (λj r=>?_) (λj r=>?_) h1v) ?_)
 ·rw[Addr.add_lit];exact t _ _ r
 ·rw[B6d];refine Q.1 _ ?_;omega
 ·rw[B6d];refine Q.2 _ ?_;omega
 have d:=d.blit (o:=p*5) (cs:=vs) (by omega);rw[Ap7 A e0 (by omega) (by omega)]at d;refine B3 ?_;refine B2 ?_;refine Aw rfl rfl ?_;refine Ed rfl rfl ?_;refine B3 ?_;refine Lf ?_;refine Og ?_;refine Jt [Sv.v ⟨some ⟨b,off,none⟩,L.length+1,cap⟩] ⟨rfl,trivial⟩ ?_;have d:=(d.perm (List.Perm.swap ..)).drop;exact⟨_,rfl,(St.insDone (m:=[]) (M:=[a]) (vs:=vs) (xs:=xs) hf hp b0 (by simp[hf,W]) (by simpa using d)).gives⟩
theorem Bqb w X S{T f} (hf:∀x,(f x).length=3) L (s:Sv) i (a:T) vs vb ve (W:vs.length=3) (hS:∀b,S b->b.1<w.heap.size/\¬X b) (oL:Sep (oC (Ac 3 f L) s.v::(A2 vb vs.toArray ve::Aj (f a) vs)) X w) (hi:0<=i/\i<=(L.length:Int)) (hL:L.length<=1000000):
  Ret Tryz.prog 330 [s.v,.int .i64 i,Sv.v ⟨some ⟨vb,0,none⟩,1,1⟩] w (λu w'=>∃y:Sv,u=y.v/\Gives X S w [oC (Ac 3 f (L.take i.toNat++[a]++L.drop i.toNat)) y.v] [] w'):=by
 obtain⟨d6,f8⟩:=hi;obtain⟨p,rfl⟩:=B8f d6;rw[B58];have c4:∃z,Sz Tryz.prog 238 3 24 z:=⟨_,A8q⟩;obtain⟨z0,g⟩:=c4;have hp:p<=L.length:=by omega
 refine enter Tryz.func330 rfl Tryz.ntmps330 (by kernel_rfl) rfl ?_;have a5:=St.enter oL hS
 have d8:s.n=L.length/\s.n<=s.c:=by
  obtain⟨a,cap,e,h1,h2,_⟩:=a5.seeO (.head _);obtain⟨_,e2,e3⟩:s.p=a/\s.n=L.length/\s.c=cap:=by simpa [Sv.v]using e
  omega
 have hM0r:St ⟨w,X,S⟩ (oC (Ac 3 f L) s.v::(oC (Ac 3 f [a]) (Sv.v ⟨some ⟨vb,0,none⟩,1,1⟩)::[])) [] w:=by
  have h1:=(a5.perm (B56 (l₁:=[oC (Ac 3 f L) s.v]) (l₂:=A2 vb vs.toArray ve::Aj (f a) vs))).boxRow W;have h2:St ⟨w,X,S⟩ (Bb 3 (Sv.v ⟨some ⟨vb,0,none⟩,1,1⟩) [a].length vs::(Aj ([a].flatMap f) vs++[oC (Ac 3 f L) s.v])) [] w:=by simpa using h1
  exact(St.rerow (by simpa [hf]using W.symm) h2).perm (List.Perm.swap ..)
 obtain⟨xs,b0,c0⟩:=a5.unrow;have d:St ⟨w,X,S⟩ (Bb 3 s.v L.length xs::A2 vb vs.toArray ve::(Aj (L.flatMap f) xs++(Aj (f a) vs++[]))) [] w:=by refine c0.perm (List.Perm.cons _ ?_);rw[B6o];exact B5u
 clear c0;refine B2 ?_;refine Ed rfl rfl ?_;refine B3 ?_;refine B2 ?_;refine Aw rfl rfl ?_;refine Aw rfl rfl ?_;refine wv rfl (Ab3 Tryz.underlying168 g rfl rfl ⟨by omega,by omega⟩ d8.2) ?_;refine B3 ?_;refine B2 ?_;refine Aw rfl rfl ?_;refine wv rfl (Mb Tryz.underlying168 rfl) ?_;refine Ed rfl rfl ?_;refine B3 ?_;refine Fc ?_;refine B2 ?_;refine Aw rfl rfl ?_;refine wv rfl (R6 rfl rfl) ?_;refine B3 ?_;refine H5 rfl (λF=>absurd (of_decide_eq_true F) (by simp)) (λ_=>?_);refine Mn ?_;refine G4 ?_;refine B2 ?_;refine Aw rfl rfl ?_;refine wv rfl (Mb Tryz.underlying168 rfl) ?_;refine Ed rfl rfl ?_;refine B3 ?_;refine Fc ?_;refine B2 ?_;refine Aw rfl rfl ?_;refine Aw rfl rfl ?_;refine wv rfl (R6 rfl rfl) ?_;refine B3 ?_;refine H5 rfl (λF=>?_) (λF=>?_)
 ·have a2:p=L.length:=by have:=of_decide_eq_true F;omega
  refine B2 ?_;refine Aw rfl rfl ?_;refine Aw rfl rfl ?_;refine Ld rfl (Aj8 Tryz.underlying168 g rfl rfl hM0r (by simp;omega) (by decide) ?_);intro s' w1 d;refine Ed rfl rfl ?_;refine B3 ?_;refine Lf ?_;refine Og ?_;refine Jt [s'.v] ⟨rfl,trivial⟩ ?_;rw[a2,B6m,B72,B6o];exact⟨s',rfl,d.gives⟩
 have a2:p<L.length:=by have:=of_decide_eq_false F;omega
 obtain⟨b,off,cap,d0,e,hd,rfl,hg,f9,d2,f5,A,a1⟩:=d.rowAt (.head _) (by omega);have d9:=d.apart (by omega);have h1x:=St.zipOne b0 d.drop.drop;have h1v:∀u∈vs,u.oneCell'=true:=St.zipOne (cs:=f a) (m:=Aj (L.flatMap f) xs) (by rw[hf a,W]) (d.drop.drop.perm (by rw[B6o];exact B56));have a4:vs.length=1*3:=by omega
 simp only[maxLen]at d2;refine Mn ?_;refine G4 ?_;refine Fc ?_;refine B2 ?_;refine Aw rfl rfl ?_;refine Aw rfl rfl ?_;refine wv rfl (Gd rfl rfl ⟨by simp only;omega,by simp only;omega⟩) ?_;refine Aw rfl rfl ?_;refine wv rfl (Asa Tryz.underlying168 rfl) ?_;refine wv rfl (Aik rfl rfl) ?_;refine B3 ?_;refine H5 rfl (λF=>?_) (λF=>?_)
 ·have d5:cap<L.length+1:=by have:=of_decide_eq_true F;simp only at this;omega
  have a9:(xs.drop (p*3)).length=(L.length-p)*3:=by rw[B50,A,B7g]
  have d7:=B5v 3 a2;obtain⟨h,l,hz,B,c2⟩:=g.info;refine B2 ?_;refine Aw rfl rfl ?_;refine Aw rfl rfl ?_;refine wv rfl (U0 (i:=p) Tryz.underlying168 g rfl rfl rfl (by omega) (by omega)) ?_;refine Aw rfl rfl ?_;refine Aw rfl rfl ?_;refine wv rfl (Gd rfl rfl ⟨by simp only;omega,by simp only;omega⟩) ?_;refine Aw rfl rfl ?_;refine wv rfl (Aim rfl rfl ⟨by simp only;omega,by simp only;omega⟩) ?_;have a8:(xs.take (p*3)).length=p*h.size:=by rw[B5x,A,B];omega
  have c3:(Builtin.firstCells h.size p (.slice (some ⟨b,off,none⟩) p cap)).run Tryz.prog w.drew=.ok (xs.take (p*3)).toArray w.drew:=
   run_firstCells_some w.drew h.size p ⟨b,off,none⟩ p cap _ a8 λj u r=>by
    rw[Addr.add_lit];rw[B68]at r;split at r
    ·exact a1 _ _ r
    ·cases r
  have c1:=B9d (P:=Tryz.prog) w 168 3 168 238 h _ .i64 .i64 Tryz.underlying168 Tryz.underlying3 l hz (some ⟨b,off,none⟩) p cap (xs.take (p*3)) c3 (L.length+1-p) (by omega) (by omega) (by omega) (by omega) (by rw[c2];omega) (by rw[c2];exact growslice_fits (by omega) (by omega));have r:(((L.length:Nat):Int)+((1:Nat):Int)-(p:Int))=((L.length+1-p:Nat):Int):=by omega
  have hq:p+(L.length+1-p)=L.length+1:=by omega
  rw[hq]at c1;have hG:=grownCap_ge w (L.length+1) cap 238;have b9:=grownCap_le_maxLen w (L.length+1) cap 238 (by simp only[maxLen];omega);have a3:∀q,(Builtin.zeroCells (z0).cells q).size=q*3:=λq=>by rw[size_zeroCells,g.2.1]
  have d:=d.drew.allocRow (k:=3) (n:=L.length+1) (cap:=grownCap w (L.length+1) cap 238) (xs.take (p*3)++(Builtin.zeroCells (z0).cells (L.length+1-p)).toList)
   (Builtin.zeroCells (z0).cells (grownCap w (L.length+1) cap 238-(L.length+1))).toList ((xs.take (p*3)).toArray++Builtin.zeroCells (z0).cells (L.length+1-p)++Builtin.zeroCells (z0).cells (grownCap w (L.length+1) cap 238-(L.length+1))) 238 (by rw[B81,B81]) (by rw[B5m,a8,B5z,a3,B];omega) hG b9
   (by rw[B79,B79,a3,a3,B7p,a8,B];omega)
  refine Ld rfl (Aj7 rfl rfl (by simp only at r⊢;rw[r];exact c1) ?_);generalize grownCap w (L.length+1) cap 238=G at d hG b9⊢;generalize World.alloc _ _=w1 at d⊢;rw[show w.drew.heap.size=w.heap.size from rfl]at d;generalize w.heap.size=nb at d⊢;refine Ed rfl rfl ?_;refine B3 ?_;refine B2 ?_;refine Aw rfl rfl ?_;refine Aw rfl rfl ?_;refine wv rfl (Fy (i:=p) Tryz.underlying168 g rfl rfl rfl (by omega) (by omega) (by omega)) ?_;refine Aw rfl rfl ?_;obtain⟨b3,a0,D,b8,e3,d4,q3,a7,U,_,O,_,I⟩:=d.rowAt (.head _) (by omega);obtain⟨⟨rfl,rfl⟩,rfl⟩:(nb=b3/\0=a0)/\G=D:=by simpa using q3
  have Q:=Je a7 O U;obtain⟨_,t⟩:=d.boxAt (.tail _ (.tail _ (.head _)));refine Ld rfl (Lg rfl rfl (K5 w1 168 168 _ 238 h nb (0+p*3) _ _ ⟨vb,0,none⟩ 1 1 1 vs Tryz.underlying168 l (by simp only[B8r];split<;>omega) (by rw[B];exact a4) (λj u r=>?_) (λj r=>?_) (λj r=>?_) h1v) ?_)
  ·rw[Addr.add_lit];exact t _ _ r
  ·rw[B6d];refine Q.1 _ ?_;omega
  ·rw[B6d];refine Q.2 _ ?_;omega
  have d:=d.blit (o:=p*3) (cs:=vs) (by omega);refine B3 ?_;refine Fc ?_;refine Sq [(0,0),(1,0),(2,0),(3,0),(4,0),(5,0),(6,0),(7,0),(8,2)] Tryz_mixed (by kernel_rfl) rfl (by kernel_rfl) rfl ?_;refine Db rfl rfl ?_;refine Db rfl rfl ?_;refine Db rfl rfl ?_;refine ov rfl (λ_ _=>Gd rfl rfl ⟨by simp only;omega,by simp only;omega⟩) ?_;refine ov rfl (λ_ _=>Fy (i:=p+1) Tryz.underlying168 g rfl rfl (by simp) (by omega) (by omega) (by omega)) ?_;refine Db rfl rfl ?_;refine Db rfl rfl ?_;refine ov rfl (λ_ _=>Fy (i:=p) Tryz.underlying168 g rfl rfl rfl (by omega) (by omega) (by omega)) ?_;refine Um rfl λw2 hR=>?_;have d:=d.call hR;obtain⟨b2,Y,C,b7,e2,d3,q2,a6,R,_,N,_,_⟩:=d.rowAt (.head _) (by omega);obtain⟨⟨rfl,rfl⟩,rfl⟩:(nb=b2/\0=Y)/\G=C:=by simpa using q2
  obtain⟨b5,c5,b6,e7,e5,f6,q5,_,_,_,_,_,K⟩:=d.rowAt (.tail _ (.head _)) (by omega);obtain⟨⟨rfl,rfl⟩,rfl⟩:(b=b5/\off=c5)/\cap=b6:=by simpa using q5
  have Q:=Je a6 N R;refine Lg rfl rfl (K5 w2 168 168 _ 238 h nb (0+(p+1)*3) _ _ ⟨b,off+p*3,none⟩ _ _ (L.length-p) (xs.drop (p*3)) Tryz.underlying168 l (by simp only[B8r];split<;>omega) (by rw[B,a9]) (λj u r=>?_) (λj r=>?_) (λj r=>?_) (λu hu=>h1x u (B6z hu))) ?_
  ·rw[B6y]at r;rw[Addr.add_lit,B6d];exact K _ _ r
  ·rw[B6d];refine Q.1 _ ?_;omega
  ·rw[B6d];refine Q.2 _ ?_;omega
  have d:=d.blit (o:=(p+1)*3) (cs:=xs.drop (p*3)) (by omega);rw[Ap6 A (by rw[B5z,a3]) (by omega) (by omega)]at d;refine Un d λw3 d=>?_;refine G4 ?_;refine B2 ?_;refine Aw rfl rfl ?_;refine Ed rfl rfl ?_;refine B3 ?_;refine Lf ?_;refine Og ?_;refine Jt [Sv.v ⟨some ⟨nb,0,none⟩,L.length+1,G⟩] ⟨rfl,trivial⟩ ?_;have d:=((((d.perm (List.Perm.swap ..)).drop).perm (List.Perm.swap ..)).drop);exact⟨_,rfl,(St.insDone (m:=[]) (M:=[a]) (vs:=vs) (xs:=xs) hf hp b0 (by simp[hf,W]) (by simpa using d)).gives⟩
 have V:L.length+1<=cap:=by have:=of_decide_eq_false F;simp only at this;omega
 refine Mn ?_;refine G4 ?_;obtain⟨ys,e0,d⟩:=d.spare 1 V;refine B2 ?_;refine Aw rfl rfl ?_;refine Aw rfl rfl ?_;refine Aw rfl rfl ?_;refine wv rfl (Gd rfl rfl ⟨by simp only;omega,by simp only;omega⟩) ?_;refine wv rfl (U0 (i:=L.length+1) Tryz.underlying168 g rfl rfl (by simp) V (by omega)) ?_;refine Ed rfl rfl ?_;refine B3 ?_;refine Fc ?_;refine B2 ?_;refine Aw rfl rfl ?_;refine Aw rfl rfl ?_;refine Aw rfl rfl ?_;refine Aw rfl rfl ?_;refine wv rfl (Gd rfl rfl ⟨by simp only;omega,by simp only;omega⟩) ?_;refine wv rfl (Fy (i:=p+1) Tryz.underlying168 g rfl rfl (by simp) (by omega) (by omega) (by omega)) ?_;have b1:=(d.boxAt (.tail _ (.head _))).1;refine wv rfl (Asb rfl (v:=.bool false) ?_) ?_
 ·rw[run_callFunc_extern Tryz.func352 (by kernel_rfl) (by kernel_rfl) (by kernel_rfl) (e:=Extern.SlicesOverlaps.overlaps #[168,168] #[4]) (by kernel_rfl)];simp only[Sv.v];rw[B9m w 168 4 238 Tryz.underlying168 3 g.run ⟨vb,0,none⟩ ⟨b,off+(p+1)*3,none⟩ 1 1 _ _ d9 ve e vs.toArray.size d0.size (by simp[World.shape?,b1]) (by simp[World.shape?,hg.1]) (by omega) (by simp[World.frozen?,b1]) (by simp[World.frozen?,b1])];rfl
 refine wv rfl (Ail rfl) ?_;refine B3 ?_;refine H5 rfl (λ_=>?_) (λF=>absurd F (by simp));have a9:(xs.drop (p*3)).length=(L.length-p)*3:=by rw[B50,A,B7g]
 have d7:=B5v 3 a2;refine Fc ?_;refine Sq [(0,0),(1,0),(2,0),(3,0),(4,0),(5,0),(6,0),(7,0),(8,2)] Tryz_mixed (by kernel_rfl) rfl (by kernel_rfl) rfl ?_;refine Db rfl rfl ?_;refine Db rfl rfl ?_;refine Db rfl rfl ?_;refine ov rfl (λ_ _=>Gd rfl rfl ⟨by simp only;omega,by simp only;omega⟩) ?_;refine ov rfl (λ_ _=>Fy (i:=p+1) Tryz.underlying168 g rfl rfl (by simp) (by omega) (by omega) (by omega)) ?_;refine Db rfl rfl ?_;refine Db rfl rfl ?_;refine ov rfl (λ_ _=>Fy (i:=p) Tryz.underlying168 g rfl rfl rfl (by omega) (by omega) (by omega)) ?_;refine Um rfl λw1 hR=>?_;have d:=d.call hR;obtain⟨b2,Y,C,b7,e2,d3,q2,a6,R,_,N,_,H⟩:=d.rowAt (.head _) (by omega);obtain⟨⟨rfl,rfl⟩,rfl⟩:(b=b2/\off=Y)/\cap=C:=by simpa using q2
 obtain⟨h,l,_,B,_⟩:=g.info;have Q:=Je a6 N R;refine Lg rfl rfl (K5 w1 168 168 _ 238 h b (off+(p+1)*3) _ _ ⟨b,off+p*3,none⟩ _ _ (L.length-p) (xs.drop (p*3)) Tryz.underlying168 l (by simp only[B8r];split<;>omega) (by rw[B,a9]) (λj u r=>?_) (λj r=>?_) (λj r=>?_) (λu hu=>h1x u (B6z hu))) ?_
 ·rw[B6y]at r;rw[Addr.add_lit,B6d];refine H _ _ ?_;rw[B6p (B55.1 r).1];exact r
 ·rw[B6d];refine Q.1 _ ?_;omega
 ·rw[B6d];refine Q.2 _ ?_;omega
 have d:=d.blit (o:=(p+1)*3) (cs:=xs.drop (p*3)) (by omega);refine Un d λw2 d=>?_;refine G4 ?_;refine B2 ?_;refine Aw rfl rfl ?_;refine Aw rfl rfl ?_;refine wv rfl (Fy (i:=p) Tryz.underlying168 g rfl rfl rfl (by omega) (by omega) (by omega)) ?_;refine Aw rfl rfl ?_;obtain⟨b3,a0,D,b8,e3,d4,q3,a7,U,_,O,_,I⟩:=d.rowAt (.head _) (by omega);obtain⟨⟨rfl,rfl⟩,rfl⟩:(b=b3/\off=a0)/\cap=D:=by simpa using q3
 have Q:=Je a7 O U;obtain⟨_,t⟩:=d.boxAt (.tail _ (.head _));refine Ld rfl (Lg rfl rfl (K5 w2 168 168 _ 238 h b (off+p*3) _ _ ⟨vb,0,none⟩ 1 1 1 vs Tryz.underlying168 l (by simp only[B8r];split<;>omega) (by rw[B];exact a4) (λj u r=>?_) (λj r=>?_) (λj r=>?_) h1v) ?_)
 ·rw[Addr.add_lit];exact t _ _ r
 ·rw[B6d];refine Q.1 _ ?_;omega
 ·rw[B6d];refine Q.2 _ ?_;omega
 have d:=d.blit (o:=p*3) (cs:=vs) (by omega);rw[Ap7 A e0 (by omega) (by omega)]at d;refine B3 ?_;refine B2 ?_;refine Aw rfl rfl ?_;refine Ed rfl rfl ?_;refine B3 ?_;refine Lf ?_;refine Og ?_;refine Jt [Sv.v ⟨some ⟨b,off,none⟩,L.length+1,cap⟩] ⟨rfl,trivial⟩ ?_;have d:=(d.perm (List.Perm.swap ..)).drop;exact⟨_,rfl,(St.insDone (m:=[]) (M:=[a]) (vs:=vs) (xs:=xs) hf hp b0 (by simp[hf,W]) (by simpa using d)).gives⟩
end
section
open Go.RowKit
section
variable {amb:List Rd} {f:FuncId}
theorem Bn4{X S w w' r} (h:Gives X S w [] [] w'):Gives X S w [oC (cT r) (.string r)] [] w':=by obtain⟨c,F,d,e,_⟩:=h;have a:∀b,F b->b.1<w'.heap.size:=d;exact⟨c,F,⟨a,λ_=>False,F,⟨rfl,λ_ h=>h.elim⟩,a,λ_ h=>h.elim,λ_ h=>h.elim,λ_ h=>h⟩,e,λ_ g=>by cases g⟩
theorem Aqn{w w' X S} {ps:List PK}{r lsO u} (l:lsO=[]) (h:KV X S w (.string r) u w'):
  ∃vs a j,u=H2 vs/\(∃i c d e g,[[Leaf.s r]]=i++lsO/\RPack [⟨true,.b 2,false⟩] i vs c e/\OPack [] [] lsO d g/\a=c++d/\j=e++g)/\Gives X S w a j w':=by
 obtain⟨_,rfl,k⟩:=h;subst l;exact⟨[.string r],[oC (cT r) (.string r)],[],rfl,⟨[[Leaf.s r]],[oC (cT r) (.string r)],[],[],[],rfl,⟨[.string r],[],[],[],[],rfl,rfl,⟨rfl,rfl,rfl⟩,⟨rfl,rfl⟩,⟨rfl,rfl⟩⟩,⟨rfl,rfl⟩,rfl,rfl⟩,Bn4 k⟩
theorem R7{S w c vs} (h:Br S w [c] vs):∃v,vs=[v]/\c.rd S w v:=by obtain⟨v,rest,rfl,a,b⟩:=h;have:rest=[]:=b;subst this;exact⟨v,rfl,a⟩
theorem Boc {x:Int->Option ByteArray} (h:∀(w:World) (X S:Bs) (n:Int),SX X S w->(∀r∈amb,r.ok S w)->Sep [] X w->∀ {r},x n=some r->Ret Tryz.prog f [.int .i64 n] w (KV X S w (.string r))):
  Holds amb ⟨f,[.val false (.b 0)],[⟨true,.b 2,false⟩],λa=>x a.1⟩:=by
 intro w X S a g own K r B y z C hx;cases B with
 | @ro _ _ i _ I _ _ _ _ v k=>
 cases k;obtain⟨H,rfl,g1⟩:=R7 v;have t:H=.int .i64 i:=g1;subst t;refine(h w X S i z C y hx).mono λu w' A=>?_;obtain⟨vs,c,e,j,⟨d,D,o2,F,G,m,o,p,q,s⟩,l⟩:=Aqn (ps:=[]) rfl A;exact⟨vs,c,e,j,⟨d,[],D,o2,F,G,m,o,p,q,s⟩,l⟩
theorem Bof {x:ByteArray->ByteArray->ByteArray->Option ByteArray} (h:∀(w:World) (X S:Bs) (s p q:ByteArray),SX X S w->(∀r∈amb,r.ok S w)->Sep [] X w->∀ {r},x s p q=some r->Ret Tryz.prog f [.string s,.string p,.string q] w (KV X S w (.string r))):
  Holds amb ⟨f,[.val false (.b 2),.val false (.b 2),.val false (.b 2)],[⟨true,.b 2,false⟩],λa=>x a.1 a.2.1 a.2.2.1⟩:=by
 intro w X S a g own W r K G H L hx;cases K with
 | @ro _ _ i _ T _ _ _ _ C k=>
 cases k with
 | @ro _ _ j _ U _ _ _ _ D k=>
 cases k with
 | @ro _ _ l _ V _ _ _ _ F k=>
 cases k;obtain⟨P,rfl,g1⟩:=R7 C;obtain⟨Q,rfl,g2⟩:=R7 D;obtain⟨R,rfl,g3⟩:=R7 F;have A:P=.string i:=g1;have e2:Q=.string j:=g2;have B:R=.string l:=g3;subst A e2 B;refine(h w X S i j l H L G hx).mono λu w' I=>?_;obtain⟨vs,c,e,m,⟨d,M,o2,N,O,o,t,v,y,z⟩,n⟩:=Aqn (ps:=[]) rfl I;exact⟨vs,c,e,m,⟨d,[],M,o2,N,O,o,t,v,y,z⟩,n⟩
theorem Bod {x:List ByteArray->ByteArray->Option ByteArray} (h:∀(w:World) (X S:Bs) (l:List ByteArray) (s:Sv) (p:ByteArray),SX X S w->(∀r∈amb,r.ok S w)->(Ac 1 fT l).rd S w s.v->Sep [] X w->∀ {r},x l p=some r->Ret Tryz.prog f [s.v,.string p] w (KV X S w (.string r))):
  Holds amb ⟨f,[.val false (.sl (.b 2)),.val false (.b 2)],[⟨true,.b 2,false⟩],λa=>x a.1 a.2.1⟩:=by
 intro w X S a t own W r N K L O hx;cases N with
 | @ro _ _ i _ U _ _ _ _ H k=>
 cases k with
 | @ro _ _ j _ V _ _ _ _ I k=>
 cases k;obtain⟨q,rfl,g1⟩:=R7 H;obtain⟨T,rfl,g2⟩:=R7 I;have c:(Ac 1 fT i).rd S w q:=g1;have d:=c;obtain⟨g,F,G,_⟩:=d;have e2:T=.string j:=g2;subst e2;have m:q=(⟨g,_,F⟩:Sv).v:=G;subst m;refine(h w X S i _ j L O c K hx).mono λu w' M=>?_;obtain⟨vs,e,o,g,⟨n,P,o2,Q,R,z,A,B,C,D⟩,y⟩:=Aqn (ps:=[]) rfl M;exact⟨vs,e,o,g,⟨n,[],P,o2,Q,R,z,A,B,C,D⟩,y⟩
end
end
section
open Go.RowKit
theorem A6t{S w}:∀(L:List ByteArray) (xs:List Value),Br S w (L.flatMap fT) xs->xs=L.map λy=>Value.string y
 |[],xs,h=>h
 |y::L,xs,h=>by obtain⟨v,r,e,a,b⟩:=h;rw[e,A6t L r b,a];rfl
def jn (l:List ByteArray) (sep:ByteArray):ByteArray:=⟨(B7w (l.map (·.data.toList)) sep.data.toList).toArray⟩
def Vu (l:List ByteArray) (sep:ByteArray):Option ByteArray:=xg (l.length<=1099511627776/\(B7w (l.map (·.data.toList)) sep.data.toList).length<=140737488355328)<|some (jn l sep)
theorem Bh5 w X S l (s_l:Sv) sep (i:SX X S w) (a_l:(Ac 1 fT l).rd S w s_l.v) (t:Sep [] X w){r} (hx:Vu l sep=some r):
  Ret Tryz.prog 269 [s_l.v,(.string sep)] w (KV X S w (.string r)):=by
 unfold Vu at hx;obtain⟨p,hx⟩:=Bf hx;obtain rfl:=B65.inj hx
 have h:Calls Tryz.prog 269 #[s_l.v,.string sep] w λe w'=>e=.returned (.string (jn l sep))/\Rel w w':=by
  obtain⟨a,cap,e,k,u,m⟩:=a_l;rw[e];cases l with
  |nil=>exact(Tryz.strings_Join_none a cap sep w).mono λe w' ⟨f,c⟩=>⟨f,c▸Rel.refl w⟩
  |cons x r=>obtain⟨b,off,xs,rfl,d,z,o,s⟩:=m (by simp);have g:=A6t _ _ s;have n:b<w.heap.size:=(i _ (d 0 (by simp))).1;exact(Tryz.strings_Join b off cap (x::r) sep w (λj y q=>o j _ (by rw[g,B8q,q];rfl)) n (by omega) k p.2).mono λe w' ⟨f,c⟩=>⟨f,c⟩
 refine⟨⟨_,Tryz.func269,by kernel_rfl,by kernel_rfl⟩,h.mono ?_⟩;rintro e w' ⟨rfl,c⟩;exact⟨_,rfl,(),rfl,((St.enter t i).call c).gives⟩
def rMax:Rd:=⟨λS w=>S (0,0)/\∃m,w.cell? ⟨0,0,none⟩=some (.int .i64 m),λc h ⟨a,m,b⟩=>⟨c _ a,m,h.cell a b⟩⟩
def rpl (s b a:ByteArray):ByteArray:=⟨(B9t s.data.toList b.data.toList a.data.toList).toArray⟩
def Vv (s a b:ByteArray):Option ByteArray:=xg (s.size<4294967281/\1<=a.size/\s.size+B73 s a*b.size<=140737488355328)<|some (rpl s a b)
theorem Bh6 w X S s b a (d:SX X S w) (f:rMax.ok S w) (h:Sep [] X w){r} (hx:Vv s b a=some r):
  Ret Tryz.prog 150 [(.string s),(.string b),(.string a)] w (KV X S w (.string r)):=by
 unfold Vv at hx;obtain⟨c,hx⟩:=Bf hx;obtain rfl:=B65.inj hx;obtain⟨_,m,g⟩:=f;refine⟨⟨_,Tryz.func150,by kernel_rfl,by kernel_rfl⟩,(Tryz.strings_ReplaceAll s b a m w c.1 g c.2.1 c.2.2).mono ?_⟩;rintro e w' ⟨rfl,hw⟩;exact⟨_,rfl,(),rfl,((St.enter h d).call hw).gives⟩
end
section
open Go.RowKit
def Vw (s p:ByteArray):Option (List ByteArray):=xg (s.size<4294967281/\1<=p.size)<|some (B86 p 0 (B73 s p) s)
theorem Boe{amb} (A:rMax∈amb):Holds amb ⟨81,[.val false (.b 2),.val false (.b 2)],[⟨true,.sl (.b 2),false⟩],λa=>Vw a.1 a.2.1⟩:=by
 intro w X S a o own L r D u z F hx;cases D with
 | @ro _ _ i _ I _ _ _ _ s k=>
 cases k with
 | @ro _ _ j _ K _ _ _ _ t k=>
 cases k;obtain⟨G,rfl,g1⟩:=R7 s;obtain⟨H,rfl,g2⟩:=R7 t;have p:G=.string i:=g1;have e2:H=.string j:=g2;subst p e2;obtain⟨f,hx⟩:=Bf (show Vw i j=some r from hx);obtain rfl:=B65.inj hx;obtain⟨_,m,C⟩:=F _ A;refine⟨⟨_,Tryz.func81,by kernel_rfl,by kernel_rfl⟩,(Tryz.strings_Split i j m w f.1 C f.2).mono ?_⟩;rintro e w' ⟨rfl,rfl⟩;have c:=Lib.splitB_all j f.2 0 (B73 i j) i rfl;have B:=Cbk j f.2 i.size i (B6i _);have q:St ⟨w,X,S⟩ [] [] w:=St.enter u z;have d:((B86 j 0 (B73 i j) i).map Value.string).length=(B73 i j+1)*1:=by rw[B6x,c,Cbg]
 have g:=q.allocRow (k:=1) (n:=B73 i j+1) (cap:=B73 i j+1) ((B86 j 0 (B73 i j) i).map Value.string) [] ((B86 j 0 (B73 i j) i).map Value.string).toArray 9 (by simp) d (B6i _) (by simp only[maxLen];omega) (by rw[B7p];exact d);have x:St ⟨w,X,S⟩ [oC (Ac 1 fT (B86 j 0 (B73 i j) i)) (Sv.v ⟨some ⟨w.heap.size,0,none⟩,B73 i j+1,B73 i j+1⟩)] [] (w.alloc (.cells ((B86 j 0 (B73 i j) i).map Value.string).toArray 9)):=by refine St.rerow (xs:=(B86 j 0 (B73 i j) i).map Value.string) (by rw[B6x];exact(Ic (k:=1) (λ_=>rfl) _).trans (Cbg _)) ?_;rw[c];exact(St.iso (l:=[]) (l':=Aj ((B86 j 0 (B73 i j) i).flatMap fT) ((B86 j 0 (B73 i j) i).map Value.string)) g (Ayh (λy:ByteArray=>cT y) Value.string (λy _=>⟨rfl,λ_ h=>h.elim⟩) _ (B86 j 0 (B73 i j) i))).perm B5u
 exact⟨_,rfl,[_],[oC (Ac 1 fT (B86 j 0 (B73 i j) i)) _],[],rfl,⟨[[.sl (.b 2) _]],[],_,[],[],[],rfl,⟨[_],[],[],[],[],rfl,rfl,⟨rfl,rfl,rfl⟩,⟨rfl,rfl⟩,⟨rfl,rfl⟩⟩,⟨rfl,rfl⟩,rfl,rfl⟩,x.gives⟩
def rErr:Rd:=⟨λS w=>(S (1,0)/\S (2,0))/\∀g,g=1\/g=2->∃ev,w.cell? ⟨g,0,none⟩=some ev/\(ev=.nilIface\/∃te i,ev=.iface te i),
 λb h ⟨⟨d,e⟩,f⟩=>⟨⟨b _ d,b _ e⟩,λg a=>by
  obtain⟨ev,c,e2⟩:=f g a;exact⟨ev,h.cell (by rcases a with rfl|rfl<;>assumption) c,e2⟩⟩⟩
def Hr (s:ByteArray):Int×Bool:=match Lib.atoiAll s.data.toList with
 |.ok v=>(v,true)
 |.range=>(Lib.atoiSat s.data.toList,false)
 |_=>(0,false)
def Ap5:Inl:=λ_ f vs st K=>bif B5w f 156 then(match vs with
 |[.c (.s s)]=>xg (s.size<=281474976710656) (K (.t [.c (.i .i64 (Hr s).1),.c (.er (Hr s).2)]) st)
 |_=>none)else none
theorem Bp8{amb} (n:rErr∈amb):InlOk amb Ap5:=λR f vs st K r B ρ env w b h k a=>by
 unfold Ap5 at h;have o:=(bt h).1;replace h:=(bt h).2;cases B5k o;split at h
 ·rename_i s;have j:=(Bf h).1;replace h:=(Bf h).2;match b,a with
  |[u],⟨hu,_⟩=>
   have g:u=.string s:=hu;subst g;obtain⟨m,rs,m1,m2,m3,l⟩:=k.mem;have c:=l.sees.1 _ (m3 _ n);obtain⟨_,c⟩:=c
   have i:Calls Tryz.prog 156 #[.string s] w λe w'=>∃v,e=.returned (.tuple #[.int .i64 (Hr s).1,v])/\(Cell.er (Hr s).2).Den ρ v/\Rel w w':=by
    unfold Hr;cases a:Lib.atoiAll s.data.toList with
    |ok v=>
     refine(Tryz.strconv_Atoi_ok s (by omega) v a w).mono ?_;rintro e w' ⟨rfl,hw⟩;refine⟨_,rfl,.inl ⟨rfl,rfl⟩,?_⟩;rcases hw with rfl|⟨t,rfl⟩
     ·exact Rel.refl _
     ·exact Lib.bytesWorld_below _ _ _
    |range=>obtain⟨ev,d,e2⟩:=c 2 (.inr rfl);refine(Tryz.strconv_Atoi_range s j a ev w d e2).mono ?_;rintro e w' ⟨N,rfl,_,_,hw⟩;exact⟨_,rfl,.inr ⟨rfl,_,_,rfl⟩,hw⟩
    |_=>obtain⟨ev,d,e2⟩:=c 1 (.inl rfl);refine(Tryz.strconv_Atoi_syntax s j (by rw[a]) ev w d e2).mono ?_;rintro e w' ⟨N,rfl,_,_,hw⟩;exact⟨_,rfl,.inr ⟨rfl,_,_,rfl⟩,hw⟩
   refine⟨⟨_,Tryz.func156,by kernel_rfl,by kernel_rfl⟩,i.mono ?_⟩;rintro e w' ⟨v,rfl,hd,hw⟩;exact⟨_,rfl,_,st,ρ,h,Ext.refl ρ,k.rel hw,⟨[.int .i64 (Hr s).1,v],⟨rfl,hd,trivial⟩,rfl⟩,Grow.refl st,rfl⟩
  |[],h=>exact h.elim
  |_::_::_,⟨_,h⟩=>exact h.elim
 ·cases h
def Y4 {T:Type} (L:List T) (i j:Int):Option (List T):=xg (0<=i/\i<=j/\j<=(L.length:Int))<|xg (L.length<=1000000)<|some (L.take i.toNat++L.drop j.toNat)
end
section
open Go.RowKit
inductive MF (T:Type):Type 1 where
 |i (g:T->Int) (p:T->Int->T)
 |s (t:Int->Option ByteArray) (g:T->ByteArray) (p:T->ByteArray->T)
 |b (g:T->Bool) (p:T->Bool->T)
 |l {E:Type} (m:List E->Int->Option (Int×List E)) (h:List E->Int->Option Int) (g:T->List E) (p:T->List E->T)
section
variable {T R:Type} [Inhabited T]
def Vm (a:List T) (n:Int) (K:Int->Option Int):Option Int:=xg (Ae (n-(a.length:Int)))<|bif decide ((n-(a.length:Int))<0)then some (-1)else K (n-(a.length:Int))
def Sm (f:T->Int->Option Int) (a:List T) (n:Int):Option Int:=Vm a n λn=>B5h (Bc (λs:Int×Int=>
 (bif decide (s.2<(a.length:Int))then xg (0<=s.2/\s.2<(a.length:Int))<|B5h (f (el a s.2.toNat) s.1) λr=>bif decide (r<0)then some (.out (.inr (-1)))else xg (Ae (s.2+1))<|some (.go (r,s.2+1))else some (.out (.inl (s.1,s.2))):Option (Lr (Int×Int) (Sum (Int×Int) Int)))) (n,0)) λy=>B59 (λy=>some y.1) (λy=>some y) y
def toG (z:T) (a:List T) (F:Int->List T->(T->Option (Lr (Int×List T) (Int×List T)))->Option (Lr (Int×List T) (Int×List T))):Option (List T):=xg (0<=(a.length:Int)/\(a.length:Int)<=1099511627776)<|B5h (Bc (λs:Int×List T=>
 bif decide (s.1<(a.length:Int))then xg (0<=s.1/\s.1<(a.length:Int))<|F s.1 s.2 λr=>xg (0<=s.1/\s.1<(s.2.length:Int))<|xg (Ae (s.1+1))<|some (.go (s.1+1,s.2.set s.1.toNat r))else some (.out (s.1,s.2))) (0,B6l ((a.length:Int).toNat) z)) λy=>some y.2
def So (z:T) (f:T->Option T) (a:List T):Option (List T):=toG z a λi _ K=>B5h (f (el a i.toNat)) K
def toF (z:T) (a:List T):Option (List T):=toG z a λi _ K=>K (el a i.toNat)
def eqG (F:T->T->Option (Lr Int (Sum Int Bool))->Option (Lr Int (Sum Int Bool))) (a b:List T):Option Bool:=bif !decide ((a.length:Int)=(b.length:Int))then some false else B5h (Bc (λi:Int=>
 bif decide (i<(a.length:Int))then xg (0<=i/\i<(a.length:Int))<|xg (0<=i/\i<(b.length:Int))<|F (el a i.toNat) (el b i.toNat) (xg (Ae (i+1))<|some (.go (i+1)))else some (.out (.inl i))) 0) λy=>B59 (λ_=>some true) (λy=>some y) y
def Q9 (f:T->T->Option Bool) (a b:List T):Option Bool:=eqG (λx y K=>B5h (f x y) λr=>bif !r then some (.out (.inr false))else K) a b
def eqF [DecidableEq T] (a b:List T):Option Bool:=eqG (λx y K=>bif !decide (x=y)then some (.out (.inr false))else K) a b
def I8 (i:Int):List (MF T)->Int->List T->(Int->List T->Option R)->Option R
 |[],k,l,K=>K k l
 |.i _ p::r,k,l,K=>xg (0<=i/\i<(l.length:Int))<|xg (Ae (k+1))<|I8 i r (k+1) (l.set i.toNat (p (el l i.toNat) k)) K
 |.s t _ p::r,k,l,K=>B5h (t k) λx=>xg (0<=i/\i<(l.length:Int))<|xg (Ae (k+1))<|I8 i r (k+1) (l.set i.toNat (p (el l i.toNat) x)) K
 |.b _ p::r,k,l,K=>xg (0<=k/\0<(3:Int))<|xg (0<=i/\i<(l.length:Int))<|xg (Ae (k+1))<|I8 i r (k+1) (l.set i.toNat (p (el l i.toNat) (decide (k % 3=0)))) K
 |.l m _ g p::r,k,l,K=>xg (0<=i/\i<(l.length:Int))<|B5h (m (g (el l i.toNat)) k) λq=>I8 i r q.1 (l.set i.toNat (p (el l i.toNat) q.2)) K
def L5 (fs:List (MF T)) (a:List T) (k:Int):Option (Int×List T):=B5h (Bc (λs:Int×Int×List T=>
 bif decide (s.2.1<(s.2.2.length:Int))then I8 s.2.1 fs s.1 s.2.2 λk l=>xg (Ae (s.2.1+1))<|some (.go (k,s.2.1+1,l))else some (.out (s.1,s.2.1,s.2.2))) (k,0,a)) λy=>some (y.1,y.2.2)
def I4 (a:List T) (i:Int) (E:Option R):List (MF T)->Int->(Int->Option R)->Option R
 |[],k,K=>K k
 |.i g _::r,k,K=>xg (0<=i/\i<(a.length:Int))<|bif !decide (g (el a i.toNat)=k)then E else xg (Ae (k+1))<|I4 a i E r (k+1) K
 |.s t g _::r,k,K=>xg (0<=i/\i<(a.length:Int))<|B5h (t k) λx=>bif !decide (g (el a i.toNat)=x)then E else xg (Ae (k+1))<|I4 a i E r (k+1) K
 |.b g _::r,k,K=>xg (0<=i/\i<(a.length:Int))<|xg (0<=k/\0<(3:Int))<|bif !(g (el a i.toNat)==decide (k % 3=0))then E else xg (Ae (k+1))<|I4 a i E r (k+1) K
 |.l _ h g _::r,k,K=>xg (0<=i/\i<(a.length:Int))<|B5h (h (g (el a i.toNat)) k) λq=>bif decide (q<0)then E else I4 a i E r q K
def Lx (fs:List (MF T)) (a:List T) (k:Int):Option Int:=B5h (Bc (λs:Int×Int=>
 (bif decide (s.2<(a.length:Int))then I4 a s.2 (some (.out (.inr (-1)))) fs s.1 λk=>xg (Ae (s.2+1))<|some (.go (k,s.2+1))else some (.out (.inl (s.1,s.2))):Option (Lr (Int×Int) (Sum (Int×Int) Int)))) (k,0)) λy=>B59 (λy=>some y.1) (λy=>some y) y
end
end
section
open Go.RowKit
theorem B5d{cs n} (h:cs.toList.all Value.oneCell'=true):∀u∈(Builtin.zeroCells cs n).toList,u.oneCell'=true:=λu hu=>by
 unfold Builtin.zeroCells at hu;rw[B9q,B75]at hu;obtain⟨i,hi,rfl⟩:=hu;by_cases a:cs.size=0
 ·rw[a]at hi;simp at hi
 ·rw[getElem!_pos cs (i % cs.size) (Nat.mod_lt _ (by omega))];exact B6b.1 h _ (by simp)
theorem Bvs{P} w t e ty z (p:P.underlying t=some (.slice e)) (q:∀w,(zeroValue e).run P w=.ok z w) (h:z.cells.toList.all Value.oneCell'=true) b o n c (r:0<n)
  (i:∀j,j<(Builtin.zeroCells z.cells n).toList.length->(w.cell? ⟨b,o+j,none⟩).isSome=true) (l:∀j,j<(Builtin.zeroCells z.cells n).toList.length->w.frozen? ⟨b,o+j,none⟩=false):
  (Builtin.clear_ #[t] ty #[.slice (some ⟨b,o,none⟩) n c]).run P w=.ok (.tuple #[]) (w.setCells b o (Builtin.zeroCells z.cells n).toList):=by
 have a:=run_storeCells_cells (P:=P) b o (Builtin.zeroCells z.cells n).toList 0 w (by simpa using i) (by simpa using l) (B5d h);simp only[B9v]at a;obtain⟨m,rfl⟩:∃m,n=m+1:=⟨n-1,by omega⟩;simp[Builtin.clear_,run_underlying p,q,a]
section
variable {P:Program} {n:Nat} {env:Env} {w:World} {d:Option Tmp} {ty:TypeId} {pos:String} {af:Array Edge} {g:Option (Nat×Bool)} {k:Nat}
theorem Bu3{t e bytes z} {s:Sv}{i j m} (D:P.underlying t=some (.slice e)) (C:Sz P e k bytes z) (F:0<=i/\i<=j/\j<=m/\m<=(s.c:Int)):
  ∃v,∀ {n:Nat} {env:Env} {d:Option Tmp} {ty:TypeId} {pos:String} {af:Array Edge} {g:Option (Nat×Bool)} {x r hi u:Operand},ev env x=some s.v->ev env r=some (.int .i64 i)->ev env hi=some (.int .i64 j)->ev env u=some (.int .i64 m)->
   Runs P n env w ⟨d,.slice t x (some r) (some hi) (some u),ty,pos,af,g⟩ v w:=by
 refine⟨.slice (if m.toNat=i.toNat then s.p else s.p.map (·.add (i.toNat*k))) (j.toNat-i.toNat) (m.toNat-i.toNat),λ{n env d ty pos af g x r hi u} hx l h o b a=>?_⟩;have y:0<=m/\m<=(s.c:Int):=by omega
 have A:0<=j/\j<=(m.toNat:Int):=by omega
 have B:0<=i/\i<=(j.toNat:Int):=by omega
 have q:b.eval x=.slice s.p s.n s.c:=a.ev hx;simp only[execOp,q,a.ev l,a.ev h,a.ev o,B77,Instr.sliceAt,Sem.run_bind,run_underlying D,Result.andThen_ok,Instr.slice,Instr.sliceBounds,Instr.sliceBound,asIntOf,Sem.run_pure,Sem.run_ite,if_pos y,if_pos A,if_pos B,C.run,Cbt,if_true]
theorem Bu4{t e bytes z b off l c i j} (A:P.underlying t=some (.slice e)) (y:Sz P e k bytes z) (B:i<j) (C:j<=c) (_:l<=c):
  ∃v,v=.slice (some ⟨b,off+i*k,none⟩) (j-i) (c-i)/\∀ {n:Nat} {env:Env} {d:Option Tmp} {ty:TypeId} {pos:String} {af:Array Edge} {g:Option (Nat×Bool)} {x q hi:Operand},ev env x=some (Sv.v ⟨some ⟨b,off,none⟩,l,c⟩)->ev env q=some (.int .i64 (i:Int))->ev env hi=some (.int .i64 (j:Int))->
   Runs P n env w ⟨d,.slice t x (some q) (some hi) none,ty,pos,af,g⟩ v w:=by
 refine⟨_,rfl,λ{n env d ty pos af g x q hi} hx o h r a=>?_⟩;have s:(0:Int)<=(j:Int)/\(j:Int)<=(c:Int):=by omega
 have u:(0:Int)<=(i:Int)/\(i:Int)<=(j:Int):=by omega
 have p:r.eval x=.slice (some ⟨b,off,none⟩) l c:=a.ev hx;simp only[execOp,p,a.ev o,a.ev h,B77,B8w,Instr.sliceAt,Sem.run_bind,run_underlying A,Result.andThen_ok,Instr.slice,Instr.sliceBounds,Instr.sliceBound,asIntOf,Sem.run_pure,Sem.run_ite,if_pos s,B58,if_pos u,y.run,B71,B6q,if_false];rw[if_neg (by omega),Addr.add_lit]
theorem Bt7{x t a r w'} (hx:ev env x=some a) (e:(Builtin.clear_ #[t] ty #[a]).run P w=.ok r w'):
  Runs P n env w ⟨none,.call {callee:=.builtin .clear,args:= #[x],argTypes:= #[t]},ty,pos,af,none⟩ r w':=λc b=>by
 simp[execOp,resolve,invoke,builtin,b.ev hx,e]
end
section
variable {w:World} {w0:Base} {m:List As} {rs:List Rd} {k:Nat} {T:Type} {f:T->List Ce} {L:List T}
theorem St.chop{b off n n' cap xs} (h:St w0 (Bb k (Sv.v ⟨some ⟨b,off,none⟩,n,cap⟩) n xs::m) rs w) (q:n'<=n):St w0 (Bb k (Sv.v ⟨some ⟨b,off,none⟩,n',cap⟩) n' (xs.take (n'*k))::m) rs w:=by
 refine h.updHead λF ⟨t,y,A⟩=>?_;rcases A with⟨j,_⟩|⟨o,c,a,i,e,r,j,u,x,C,z,B,l⟩
 ·simp[Sv.v]at j
 obtain⟨⟨rfl,rfl⟩,rfl⟩:(b=o/\off=c)/\cap=a:=by simpa [Sv.v]using j
 have s:=B5v k q;refine⟨F,⟨t,by rw[B5x,y];omega,.inr ⟨b,off,cap,i,e,r,rfl,u,x,by omega,z,B,?_⟩⟩,RelX.refl F w,λ_ p=>.inl p⟩;rw[<-l,B9k,B7q s]
theorem St.dropL:∀ {l:List As},St w0 (l++m) rs w->St w0 m rs w
 |[],h=>h
 |_::_,h=>St.dropL (h.drop)
theorem Bid {xs b:List Value}{p q n} (hx:xs.length=n*k) (a:p<=q) (h:q<=n) (_:b.length=(n-(p+(n-q)))*k):
  ((xs.take (p*k)++xs.drop (q*k)++xs.drop (p*k+(xs.drop (q*k)).length)).take ((p+(n-q))*k)++b++(xs.take (p*k)++xs.drop (q*k)++xs.drop (p*k+(xs.drop (q*k)).length)).drop ((p+(n-q))*k+b.length)).take ((p+(n-q))*k)=xs.take (p*k)++xs.drop (q*k):=by
 have l:=B5v k a;have o:=B5v k h;have i:(xs.take (p*k)).length=p*k:=by rw[B5x];omega
 have j:(xs.drop (q*k)).length=(n-q)*k:=by rw[B50,hx,B7g]
 have c:(xs.take (p*k)++xs.drop (q*k)).length=(p+(n-q))*k:=by rw[B5m,i,j,B61]
 have e:(xs.take (p*k)++xs.drop (q*k)++xs.drop (p*k+(xs.drop (q*k)).length)).take ((p+(n-q))*k)=xs.take (p*k)++xs.drop (q*k):=by rw[<-c,Cbj]
 rw[e,B5r,<-c,Cbj]
theorem St.delDone{p q xs v} (b:∀x,(f x).length=k) (c:p<=q) (t:q<=L.length) (hx:(L.flatMap f).length=xs.length)
  (h:St w0 (Bb k v (p+(L.length-q)) (xs.take (p*k)++xs.drop (q*k))::(Aj (L.flatMap f) xs++m)) rs w):St w0 (oC (Ac k f (L.take p++L.drop q)) v::m) rs w:=by
 have s:p<=L.length:=by omega
 have o:=B5v k c;have r:=B5v k t;have a:xs.length=L.length*k:=by rw[<-hx,Nm b]
 have i:((L.take p).flatMap f).length=(xs.take (p*k)).length:=by rw[Nm b,B5x,B5x,B7q s,B7q (by omega)]
 have u:((L.drop q).flatMap f).length=(xs.drop (q*k)).length:=by rw[Nm b,B50,B50,a,B7g]
 have y:(((L.drop p).take (q-p)).flatMap f).length=((xs.drop (p*k)).take ((q-p)*k)).length:=by have e:(q-p)*k=q*k-p*k:=B7g ..;rw[Nm b,B5x,B50,B5x,B50,B7q (by omega),a,B7q (by omega)]
 have s1:L=L.take p++((L.drop p).take (q-p)++L.drop q):=by
  conv=>lhs;rw[<-B6t p L,<-B6t (q-p) (L.drop p)]
  rw[B7o,show p+(q-p)=q by omega]
 have z:xs=xs.take (p*k)++((xs.drop (p*k)).take ((q-p)*k)++xs.drop (q*k)):=by
  conv=>lhs;rw[<-B6t (p*k) xs,<-B6t ((q-p)*k) (xs.drop (p*k))]
  rw[B7o,B7g,show p*k+(q*k-p*k)=q*k by omega]
 have e2:Aj (L.flatMap f) xs=Aj ((L.take p).flatMap f) (xs.take (p*k))++(Aj (((L.drop p).take (q-p)).flatMap f) ((xs.drop (p*k)).take ((q-p)*k))++Aj ((L.drop q).flatMap f) (xs.drop (q*k))):=by
  have:L.flatMap f=(L.take p).flatMap f++(((L.drop p).take (q-p)).flatMap f++(L.drop q).flatMap f):=by
   conv=>lhs;rw[s1]
   rw[B60,B60]
  rw[this]
  conv=>lhs;rw[z]
  rw[Kh i,Kh y]
 have j:(L.take p++L.drop q).length=p+(L.length-q):=by simp;omega
 refine St.rerow (xs:=xs.take (p*k)++xs.drop (q*k)) (by rw[B60,B5m,B5m,i,u]) ?_;rw[j,B60,Kh i];rw[e2]at h;refine St.dropL (l:=Aj (((L.drop p).take (q-p)).flatMap f) ((xs.drop (p*k)).take ((q-p)*k))) (h.perm ?_);refine List.Perm.trans ?_ B5u.symm;refine List.Perm.cons _ ?_;rw[B5r,B5r,B5r,<-B5r,<-B5r (Aj (List.flatMap f (List.take (q-p) (Cbw p L))) _)];exact List.Perm.append_right _ B56
end
theorem Bic w X S{T f} (hf:∀x,(f x).length=2) (L:List T) (s:Sv) i j (hS:∀b,S b->b.1<w.heap.size/\¬X b) (oL:Sep [oC (Ac 2 f L) s.v] X w) (hi:0<=i/\i<=j/\j<=(L.length:Int)) (hL:L.length<=1000000):
  Ret Tryz.prog 96 [s.v,.int .i64 i,.int .i64 j] w (λu w'=>∃y:Sv,u=y.v/\Gives X S w [oC (Ac 2 f (L.take i.toNat++L.drop j.toNat)) y.v] [] w'):=by
 obtain⟨b5,d8,d9⟩:=hi;obtain⟨p,rfl⟩:=B8f b5;obtain⟨q,rfl⟩:=B8f (show 0<=j by omega);rw[B58,B58];have a4:∃z,Sz Tryz.prog 115 2 40 z/\z.cells.toList.all Value.oneCell'=true:=⟨_,Aty,by kernel_rfl⟩;obtain⟨z0,t,b9⟩:=a4;have a1:p<=q:=by omega
 have hq:q<=L.length:=by omega
 refine enter Tryz.func96 rfl Tryz.ntmps96 (by kernel_rfl) rfl ?_;have H:=St.enter oL hS
 have e1:s.n=L.length/\s.n<=s.c:=by
  obtain⟨a,cap,e,h1,h2,_⟩:=H.seeO (.head _);obtain⟨_,e2,e3⟩:s.p=a/\s.n=L.length/\s.c=cap:=by simpa [Sv.v]using e
  omega
 obtain⟨xs,K,r⟩:=H.unrow;have a3:xs.length=L.length*2:=by rw[<-K,Nm hf]
 refine B2 ?_;refine Ed rfl rfl ?_;refine B3 ?_;refine B2 ?_;refine Aw rfl rfl ?_;refine Aw rfl rfl ?_;refine Aw rfl rfl ?_;refine Aw rfl rfl ?_;refine wv rfl (Mb Tryz.underlying36 rfl) ?_;obtain⟨v3,b6⟩:=Bu3 (P:=Tryz.prog) (w:=w) (k:=2) (s:=s) (i:=(p:Int)) (j:=(q:Int)) (m:=(s.n:Int)) Tryz.underlying36 t ⟨by omega,by omega,by omega,by omega⟩;refine wv rfl (b6 rfl rfl rfl rfl) ?_;refine B3 ?_;refine Fc ?_;refine B2 ?_;refine Aw rfl rfl ?_;refine Aw rfl rfl ?_;refine wv rfl (R6 rfl rfl) ?_;refine B3 ?_;refine H5 rfl (λhc=>?_) (λhc=>?_)
 ·have a0:p=q:=by have:=of_decide_eq_true hc;omega
  refine B2 ?_;refine Aw rfl rfl ?_;refine Ed rfl rfl ?_;refine B3 ?_;refine Lf ?_;refine Og ?_;refine Jt [s.v] ⟨rfl,trivial⟩ ?_;rw[a0,B6t];exact⟨s,rfl,H.gives⟩
 have a0:p<q:=by have:=of_decide_eq_false hc;omega
 obtain⟨b,off,cap,d0,e,hd,rfl,hg,e0,b0,d5,c5,a7⟩:=r.rowAt (.head _) (by omega);have h1x:=St.zipOne K r.drop;simp only[maxLen]at b0;refine Mn ?_;refine G4 ?_;refine B2 ?_;refine Aw rfl rfl ?_;refine wv rfl (Mb Tryz.underlying36 rfl) ?_;refine Ed rfl rfl ?_;refine B3 ?_;have U:(xs.drop (q*2)).length=(L.length-q)*2:=by rw[B50,a3,B7g]
 obtain⟨A,hA,a8⟩:∃A:Addr,(Sv.cut ⟨some ⟨b,off,none⟩,L.length,cap⟩ 2 q L.length).v=Value.slice (some A) (L.length-q) (cap-q)/\((xs.drop (q*2))=[]\/A=⟨b,off+q*2,none⟩):=by
  by_cases h:q<cap
  ·exact⟨⟨b,off+q*2,none⟩,by rw[Anr h];rfl,.inr rfl⟩
  ·refine⟨⟨b,off,none⟩,?_,.inl (B53 (by rw[U];omega))⟩;rw[Sv.cut_eq];simp only;rw[if_pos (by omega)]
 refine Fc ?_;refine Sq [(0,0),(1,0),(2,0),(3,0),(4,0),(5,0),(6,2),(7,0)] Tryz_mixed (by kernel_rfl) rfl (by kernel_rfl) rfl ?_;refine Db rfl rfl ?_;refine Db rfl rfl ?_;refine ov rfl (λ_ _=>U0 (i:=p) Tryz.underlying36 t rfl rfl rfl (by omega) (by omega)) ?_;refine Db rfl rfl ?_;refine Db rfl rfl ?_;refine ov rfl (λ_ _=>Ab3 Tryz.underlying36 t rfl rfl ⟨by omega,by simp only;omega⟩ (by simp only;omega)) ?_;rw[B58];simp only;rw[hA];refine Um rfl λw1 hR=>?_;have r:=r.call hR;obtain⟨b2,a5,M,c2,e2,d6,q2,b1,W,_,Q,_,C⟩:=r.rowAt (.head _) (by omega);obtain⟨⟨rfl,rfl⟩,rfl⟩:(b=b2/\off=a5)/\cap=M:=by simpa using q2
 obtain⟨G,I,hz,B,_⟩:=t.info;have V:=Je b1 Q W
 have a2:Src Tryz.prog G.size 36 (.slice (some A) (L.length-q) (cap-q)) (L.length-q) (xs.drop (q*2)) w1:=by
  refine Src.ofSlice w1 Tryz.underlying36 A _ _ _ (by rw[B,U]) (λj u D=>?_) (λu hu=>h1x u (B6z hu));rcases a8 with h|h
  ·rw[h]at D;simp at D
  ·rw[B6y]at D;rw[h,Addr.add_lit,B6d];exact C _ _ D
 refine Aj7 rfl rfl (run_append_room_src w1 36 36 _ 115 G Tryz.underlying36 I b off p cap _ (L.length-q) (xs.drop (q*2)) a2 (by omega) (λj D=>?_) (λj D=>?_)) ?_
 ·rw[B,B6d];refine V.1 _ ?_;omega
 ·rw[B,B6d];refine V.2 _ ?_;omega
 have r:=r.blit (o:=p*2) (cs:=xs.drop (q*2)) (by omega);rw[<-B]at r;simp only[B]at r;refine ov rfl (λ_ _=>Ar9 rfl) ?_;rw[B];refine Un r λw2 r=>?_;refine G4 ?_;refine B2 ?_;refine Aw rfl rfl ?_;refine Aw rfl rfl ?_;refine wv rfl (Mb Tryz.underlying36 rfl) ?_;refine Aw rfl rfl ?_;obtain⟨v5,b7,b8⟩:=Bu4 (P:=Tryz.prog) (w:=w2) (k:=2) (b:=b) (off:=off) (l:=p+(L.length-q)) (c:=cap) (i:=p+(L.length-q)) (j:=L.length) Tryz.underlying36 t (by omega) (by omega) (by omega);refine wv rfl (b8 rfl rfl rfl) ?_;subst b7;obtain⟨b3,a6,N,c3,e3,d7,q3,b4,Y,_,R,_,_⟩:=r.rowAt (.head _) (by omega);obtain⟨⟨rfl,rfl⟩,rfl⟩:(b=b3/\off=a6)/\cap=N:=by simpa using q3
 have V:=Je b4 R Y;have F:(Builtin.zeroCells z0.cells (L.length-(p+(L.length-q)))).toList.length=(L.length-(p+(L.length-q)))*2:=by rw[B5z,size_zeroCells,t.2.1]
 refine wvn (Bt7 rfl (Bvs w2 36 115 _ z0 Tryz.underlying36 (λw=>t.zero w) b9 b (off+(p+(L.length-q))*2) _ _ (by omega) (λj D=>?_) (λj D=>?_))) ?_
 ·rw[B6d];refine V.1 _ ?_;rw[F]at D;omega
 ·rw[B6d];refine V.2 _ ?_;rw[F]at D;omega
 have r:=r.blit (o:=(p+(L.length-q))*2) (cs:=(Builtin.zeroCells z0.cells (L.length-(p+(L.length-q)))).toList) (by rw[F];omega);refine B3 ?_;refine B2 ?_;refine Aw rfl rfl ?_;refine Ed rfl rfl ?_;refine B3 ?_;refine Lf ?_;refine Jt [Sv.v ⟨some ⟨b,off,none⟩,p+(L.length-q),cap⟩] ⟨rfl,trivial⟩ ?_;have O:=r.chop (n':=p+(L.length-q)) (by omega);rw[Bid a3 a1 hq (by rw[F])]at O;exact⟨_,rfl,(St.delDone hf a1 hq K O).gives⟩
theorem Bie{T L i j} {r:List T} (h:Y4 L i j=some r):(0<=i/\i<=j/\j<=(L.length:Int))/\L.length<=1000000/\L.take i.toNat++L.drop j.toNat=r:=by unfold Y4 at h;obtain⟨a,h⟩:=Bf h;obtain⟨b,h⟩:=Bf h;exact⟨a,b,B65.inj h⟩
theorem Bob{amb}:Holds amb ⟨96,[.val true (.sl (.b 11)),.val false (.b 0),.val false (.b 0)],[⟨true,.sl (.b 11),false⟩],λa=>Y4 a.1 a.2.1 a.2.2.1⟩:=by
 intro w X S a C own W r N I K Y hx;cases N with
 | @ow _ _ L _ c _ _ _ _ F k=>
 cases k with
 | @ro _ _ i _ U _ _ _ _ G k=>
 cases k with
 | @ro _ _ j _ V _ _ _ _ H k=>
 cases k;have o:c.length=1:=F
 obtain⟨O,rfl⟩:∃v,c=[v]:=by
  match c,o with
  |[v],_=>exact⟨v,rfl⟩
 obtain⟨Q,rest,rfl,p,q⟩:=G;have e:rest=[]:=q;subst e;have hi:Q=.int .i64 i:=p;subst hi;obtain⟨R,rest,rfl,t,x⟩:=H;have h:rest=[]:=x;subst h;have M:R=.int .i64 j:=t;subst M;have l:Sep [oC (Ac 2 (fD (.b 11)) L) O] X w:=I;obtain⟨s,rfl⟩:=A4t l;obtain⟨A,B,z⟩:=Bie (T:=Bi (.b 11)) (L:=L) (i:=i) (j:=j) hx;subst z;refine(Bic w X S (f:=fD (.b 11)) (λ_=>rfl) L s i j K l A B).mono λu w' ⟨y,D,e2⟩=>⟨[y.v],_,[],D,?_,e2⟩;exact⟨[[.sl (.b 11) _]],[],_,[],[],[],rfl,⟨[y.v],[],[],[],[],rfl,rfl,⟨rfl,rfl,rfl⟩,⟨rfl,rfl⟩,⟨rfl,rfl⟩⟩,⟨rfl,rfl⟩,rfl,rfl⟩
end
end
end Go.Proofs.YtcdecpdpmpfbnaaGreatDoor
