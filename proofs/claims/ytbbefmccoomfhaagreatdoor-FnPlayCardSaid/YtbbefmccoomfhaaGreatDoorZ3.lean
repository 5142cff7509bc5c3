/- Part 3 of the proof: lemmas. No condition. -/
import Derived.Laws.IdiomCopy
import Derived.Lib.AppendZerosOnto
import Derived.Lib.Overlaps
import Derived.Test.YtbbefmccoomfhaaGreatDoorSh
import Derived.Lib.SplitLaws
import Derived.Test.YtbbefmccoomfhaaGreatDoorZ2
open Option renaming some->Aa,none->Ab,bind->Ac,bind_some->Ad,map_eq_some_iff->Di,some->D1,bind_none->Jf,map_some->Pc,bind_eq_some_iff->Tu,isSome_none->Tv,map_none->Tw,isSome_some->Brd
open List renaming mem_cons_of_mem->Bf,mem_cons_self->Bm,mem_cons->Bq,length_append->Bt,length_cons->B5,append_assoc->Ci,perm_middle->Ct,length_take->Dh,length_drop->D0,mem_append->Ei,map_cons->Fa,all_eq_true->Ff,cons_append->Fi,flatMap_cons->F4,mem_append_right->F5,perm_append_comm->Gg,length_map->Gz,take_length->Hd,append_nil->Hu,mem_append_left->Hv,flatMap_append->H2,getElem?_eq_some_iff->H3,eq_nil_of_length_eq_zero->I4,mem_of_mem_drop->Kj,take_append_drop->Kk,all_cons->K5,getElem?_drop->K6,mem_map->K7,drop_drop->Mq,drop_zero->Nh,getElem?_append_left->Nj,getElem?_take->Nk,toArray->Pa,size_toArray->Qk,take_of_length_le->Rv,drop_length->Vy,drop_take->Yd,getElem?_map->Abi,map_append->Abj,mem_of_getElem?->Abk,take_take->Ae8,drop->Ako,take_append->Aks,take_left'->As5,drop_append_of_le_length->As7,map_toArray->Ate,take_append_of_le_length->Atj,take_left->A6l,drop_of_length_le->Bq2
open Int renaming toNat_natCast->Gb,eq_ofNat_of_zero_le->Abf,natCast_add->A5u,ofNat_eq_natCast->A5v
open Nat renaming beq->Ay,eq_of_beq_eq_true->Br,blt->C1,ble->Dm,le_refl->Ef,add_assoc->Er,mul_le_mul_right->E4,add_mul->Gk,sub_mul->I5,lt_of_lt_of_le->K8,zero_add->L3,le_succ->N8,min_eq_left->Pb,min_def->Qm,lt_or_ge->Tt,one_mul->Yg,add_zero->Ae9,mul_one->Akx,sub_zero->Aky,add_sub_cancel_left->Atk,beq_refl->Atl,lt_succ_self->Atm,strongRecOn->A6t
open Bool renaming and_eq_true->A9,or_eq_true->Ha,or_eq_false_iff->Il,false_eq_true->I3,not_eq_true'->L2,or_false->Rs
open Array renaming length_toList->Ew,replicate->Kh,getElem?_toList->Qi,getElem?_eq_none->Tp,size_append->Vx,toList_append->Aey,toList_map->Aki,getD_eq_getD_getElem?->Asu,toArray_toList->Asv
open Sum renaming inr->Bj,elim->B2,inl->Ej
open Go.Lib renaming join->Hc,countB->K2,splitB->Qj,replaceAll->Akm,countB_le->A5x,run_append_grow_zeros->A5z,run_overlaps_apart->A50
namespace Go.Proofs.YtbbefmccoomfhaaGreatDoor
set_option linter.unusedVariables false
set_option linter.unusedSimpArgs false
open Tryz
noncomputable section
section
open Go.RowKit
def putE (d:Option Nat) (v:Value) (env:Env):Env:=match d with
 |some d=>(d,v)::env
 |none=>env
structure OD (P:Program) (n:Nat) (env:Env) (w:World) (o:Oper) (N:Value->World->Prop):Prop where
 get:∀a,Has n a env->o.wp P a w (λa' w'=>∃v,a'=a.put o.dst v/\N v w') Uq
section
variable {P:Program} {n:Nat} {env:Env} {w:World} {o:Oper} {N N':Value->World->Prop} {aops:Array Oper} {rest:List Oper} {Q:Post}
theorem OD.mono (h:OD P n env w o N) (c:∀v w',N v w'->N' v w'):OD P n env w o N':=⟨λa b=>J4 (λd w' ⟨v,e,k⟩=>⟨v,e,c v w' k⟩) (h.get a b)⟩
theorem OD.ex {d:Nat}{op ty pos af} (h:Ex P n env w ⟨Aa d,op,ty,pos,af,Ab⟩ N):OD P n env w ⟨Aa d,op,ty,pos,af,Ab⟩ N:=⟨λa b=>by
 obtain⟨v,w',e,c⟩:=h;unfold Oper.wp;rw[e a b];exact⟨v,rfl,c⟩⟩
theorem OD.exu{op ty pos af K} (h:ExU P n env w ⟨Ab,op,ty,pos,af,Ab⟩ K):OD P n env w ⟨Ab,op,ty,pos,af,Ab⟩ (λ_ w'=>K w'):=⟨λa b=>by
 obtain⟨w',d,c⟩:=h;unfold Oper.wp;rw[d a b];exact⟨undef,rfl,c⟩⟩
theorem OD.call {d:Nat}{f b ats vs ty pos af} (h:Hw env b.toList=Aa vs) (e:Ret P f vs w N):OD P n env w ⟨Aa d,.call ⟨.value (.func f),b,ats⟩,ty,pos,af,Ab⟩ N:=⟨λa c=>by
 cases b with
 |mk b=>exact Go.Proofs.YtbbefmccoomfhaaGreatDoor.call_wp c h e λv w' g=>⟨v,rfl,g⟩⟩
theorem OD.callv {d:Nat}{f x args ats vs cap ty pos af} (hx:ev env x=Aa (.func (.func f) #[] cap.toArray)) (q:Hw env args.toList=Aa vs) (j:Ret P f (vs++cap) w N):OD P n env w ⟨Aa d,.call ⟨.value x,args,ats⟩,ty,pos,af,Ab⟩ N:=⟨λa g=>by
 cases args with
 |mk args=>
  obtain⟨⟨s,l,c,i⟩,b⟩:=j;have h:(execOp a.eval ⟨Aa d,.call {callee:=.value x,args:=args.toArray,argTypes:=ats},ty,pos,af,Ab⟩).run P w=.ok (.enter f (vs++cap).toArray) w:=by simp only[execOp,resolve,g.ev hx,Deferred.ofValue,invoke,callFunc,Sem.run_bind,Sem.run_pure,Result.andThen_ok,run_program,l,c,i,Ate,g.Hw _ _ q];simp
  show Oper.wp P ⟨Aa d,.call {callee:=.value x,args:=args.toArray,argTypes:=ats},ty,pos,af,Ab⟩ a w _ Uq;unfold Oper.wp;rw[h];exact b.mono λe w' ⟨v,k,p⟩=>by subst k;exact⟨v,rfl,p⟩⟩
theorem Has.putE {a:Act} (c:Has n a env) (b:∀d,o.dst=Aa d->C1 d n=true) (v:Value):Has n (a.put o.dst v) (putE o.dst v env):=by
 cases e:o.dst with
 |none=>exact c
 |some d=>exact c.put (b d e) v
theorem Bxa f {a:Option Nat}{op ty pos af g}:execOp f ⟨a,op,ty,pos,af,g⟩=execOp f ⟨a,op,ty,pos,af,Ab⟩:=by cases op<;>rfl
theorem A10 {b:Option Nat}{op ty pos af g a nx Q} (h:Oper.wp P ⟨b,op,ty,pos,af,Ab⟩ a w nx Q):Oper.wp P ⟨b,op,ty,pos,af,g⟩ a w nx Q:=by unfold Oper.wp at h⊢;rw[Bxa];exact h
theorem Biu (f:o.guard=Ab) (b:∀d,o.dst=Aa d->C1 d n=true) (h:OD P n env w o N) (g:∀v w',N v w'->WL P n aops rest Q (putE o.dst v env) w'):WL P n aops (o::rest) Q env w:=λa c=>by unfold wpList;rw[if_pos (by simp[Region.wanted,f])];refine .inl (J4 (λi w' ⟨v,e,k⟩=>?_) (h.get a c));subst e;exact g v w' k _ (c.putE b v)
theorem A1v{r} (i:o.guard=Ab) (c:∀d,o.dst=Aa d->C1 d n=true) (h:∀b,Rel w b->OD P n env b o λv w'=>Rel b w'/\WO P n aops Q r (putE o.dst v env) w'):WO P n aops Q ((o,1)::r) env w:=λa f=>
 .inl ⟨by simp[Region.wanted,i],λb g=>J4 (λj w' ⟨v,e,k⟩=>⟨.inr k.1,v,e,by subst e;exact k.2 _ (f.putE c v)⟩) ((h b g).get a f)⟩
theorem Biv{r} (i:∀a,Has n a env->Region.wanted o (yielded aops a.tmps)=true) (f:∀d,o.dst=Aa d->C1 d n=true) (h:∀b,Rel w b->OD P n env b o λv w'=>Rel b w'/\WO P n aops Q r (putE o.dst v env) w'):WO P n aops Q ((o,1)::r) env w:=λa c=>
 .inl ⟨i a c,λb g=>J4 (λj w' ⟨v,e,k⟩=>⟨.inr k.1,v,e,by subst e;exact k.2 _ (c.putE f v)⟩) ((h b g).get a c)⟩
theorem Cdm{r} (i:∀a,Has n a env->Region.wanted o (yielded aops a.tmps)=true) (f:∀d,o.dst=Aa d->C1 d n=true) (h:∀b,Rel w b->OD P n env b o λv w'=>WO P n aops Q r (putE o.dst v env) w'):WO P n aops Q ((o,2)::r) env w:=λa c=>
 .inl ⟨i a c,λb g=>J4 (λj w' ⟨v,e,k⟩=>⟨.inl rfl,v,e,by subst e;exact k _ (c.putE f v)⟩) ((h b g).get a c)⟩
theorem Cdl{r} (i:o.guard=Ab) (c:∀d,o.dst=Aa d->C1 d n=true) (h:∀b,Rel w b->OD P n env b o λv w'=>WO P n aops Q r (putE o.dst v env) w'):WO P n aops Q ((o,2)::r) env w:=λa f=>
 .inl ⟨by simp[Region.wanted,i],λb g=>J4 (λj w' ⟨v,e,k⟩=>⟨.inl rfl,v,e,by subst e;exact k _ (f.putE c v)⟩) ((h b g).get a f)⟩
end
section
variable {ρ ρ':List HV} {rs rs':List Rd} {B:Dn} {Af:List Rd} {st:Ai} {env:Env} {w:World} {m:List As} {R:Type} {r:R} {C:Es} {ops:List Oper} {n:Nat}
theorem Ala{f}:∀ {cs:List I6},∀c∈Nn f cs,c∈cs
 |[],c,h=>by cases h
 |d::cs,c,h=>by
  unfold Nn at h;cases a:Ay d.f f with
  |true=>
   rw[a]at h;rcases Bq.1 h with rfl|h
   ·exact Bm ..
   ·exact Bf _ (Ala c h)
  |false=>rw[a]at h;exact Bf _ (Ala c h)
theorem A7o:∀ {Bu:List (Nat×Nat)} {us:List Value},All2 (CapIs ρ) Bu us->All2 (V1.Den ρ) (At0 Bu) us
 |[],[],_=>trivial
 |p::Bu,u::us,⟨⟨b,h1,h2⟩,h3⟩=>⟨⟨b,h1,h2⟩,A7o h3⟩
 |[],_::_,h=>h.elim
 |_::_,[],h=>h.elim
theorem B22 (H:La Af C) (i:Sat B Af ρ st env w){op K} (h:Ayj C st op K=Aa r) (n d:Nat) ty pos af:
  OD prog n env w ⟨Aa d,op,ty,pos,af,Ab⟩ λv w'=>(Dg C [] ⟨Aa d,op,ty,pos,af,Ab⟩=1->Rel w w')/\After B Af ρ st env K r v w':=by
 unfold Ayj at h;split at h
 ·exact(OD.ex (B2l i h n d ty pos af)).mono λv w' ⟨g,a⟩=>⟨λ_=>g rfl,a⟩
 ·exact(OD.ex (B2m i h n d ty pos af)).mono λv w' ⟨g,a⟩=>⟨λ_=>g rfl,a⟩
 ·rename_i t ps;have:=(Bdq (ps:=ps.toList) i h).mk true n d ty pos af;rw[Asv]at this;exact(OD.ex this).mono λv w' ⟨g,a⟩=>⟨λ_=>g rfl,a⟩
 ·rename_i t Y ps;have:=B2o (ps:=ps.toList) i h n d ty pos af;rw[Asv]at this;exact(OD.ex this).mono λv w' ⟨g,a⟩=>⟨λ_=>g rfl,a⟩
 ·exact(OD.ex (B2q i h n d ty pos af)).mono λv w' ⟨g,a⟩=>⟨λ_=>g rfl,a⟩
 ·rename_i s t x;cases q:Apy t with
  |true=>rw[q]at h;exact(OD.ex (B2s i h n d ty pos af)).mono λv w' ⟨g,a⟩=>⟨λ_=>g rfl,a⟩
  |false=>rw[q]at h;have U:Pp C st (.convert s t x) K=Aa r:=h;exact(OD.ex ((Axq i U).mk true n d ty pos af)).mono λv w' ⟨g,a⟩=>⟨λ_=>g rfl,a⟩
 ·rename_i j p;split at h
  ·rename_i x y t t' V W;have e:=Br (bt h).1;replace h:=(bt h).2;subst e;have A:j= #[x,y]:=by cases j;simpa using V
   have e2:p= #[t,t]:=by cases p;simpa using W
   subst A e2;refine(OD.ex (Bro i h n d ty pos af)).mono λv w' ⟨g,a⟩=>⟨λb=>g ?_,a⟩;unfold Dg at b;simp only at b;split at b
   ·rename_i y' S;simp only[List.cons.injEq]at S;cases I:Nt t with
    |false=>rw[I]at b;simp at b
    |true=>rw[S.1];have M:Wz st (.const (.slice Ab 0 0))=true:=rfl;rw[M];rfl
   ·simp[Bn]at b
   ·cases b
  ·cases h
 ·rename_i f j p;split at h
  ·rename_i vs z;obtain⟨G,A,e2⟩:=Al5 i.env z;split at h
   ·rename_i k;refine OD.call A ((H.inl _ _ _ _ _ _ _ _ _ _ _ h i e2).mono λu w' a=>⟨λb=>?_,a⟩);unfold Dg at b;simp only at b;split at b
    ·rw[k]at b;simp at b
    ·rename_i O
     exact absurd O (by
      have:∀l:List I6,Nn f l=[]->Zx f l=[]:=λl=>by
       induction l with
       |nil=>intro _;rfl
       |cons c l X=>
        intro F;unfold Nn at F;unfold Zx;cases q:Ay c.f f with
        |true=>rw[q]at F;cases F
        |false=>rw[q]at F;exact X F
      intro L;exact L (this _ k))
   ·rename_i c0 T k;rw[<-k]at h;refine OD.call A ((Ak7 i e2 (λc D=>H.cons c (Ala c D)) h).mono λu w' ⟨g,a⟩=>⟨λb=>g λc D=>?_,a⟩);unfold Dg at b;simp only at b;split at b
    ·cases q:(Nn f C.cons).all λc=>Gi c.ps with
     |true=>exact Ff.1 q c D
     |false=>rw[q]at b;simp at b
    ·cases b
  ·cases h
 ·rename_i t j p;split at h
  ·rename_i f Bu vs I z;obtain⟨G,A,e2⟩:=Al5 i.env z;obtain⟨u,u1,us,rfl,u2⟩:=i.env.evC I;exact OD.callv u1 A ((Ak7 i (e2.append (A7o u2)) (λc D=>H.cons c (Ala c D)) h).mono λu w' ⟨_,a⟩=>⟨λb=>absurd b (by simp[Dg]),a⟩)
  ·cases h
 ·exact(OD.ex ((Axq i h).mk true n d ty pos af)).mono λv w' ⟨g,a⟩=>⟨λ_=>g rfl,a⟩
def Next (B:Dn) (Af:List Rd) (ρ:List HV) (st:Ai) (env:Env) (K:Ai->Option R) (r:R) (W:List Nat) (d:Option Nat) (v:Value) (w':World):Prop:=
 ∃a ρ',K a=Aa r/\Ext ρ ρ'/\Sat B Af ρ' a (putE d v env) w'/\Be st a/\∀t,Bn W t=false->Bo a.env t=Bo st.env t
theorem Pj (z:La Af C) (p:Sat B Af ρ st env w){o K} (l:o.guard=Ab) (h:Wh C o st K=Aa r):
  (∀d,o.dst=Aa d->C1 d C.n=true)/\OD prog C.n env w o λv w'=>(Dg C [] o=1->Rel w w')/\Next B Af ρ st env K r (Cy [o]) o.dst v w':=by
 obtain⟨u,G,ty,pos,af,g⟩:=o;simp only at l;subst l;unfold Wh at h;simp only at h;split at h
 ·rename_i d;have e:=(bt h).1;replace h:=(bt h).2;refine⟨λs c=>by cases c;exact e,(B22 z p h C.n d ty pos af).mono λv w' ⟨D,sv,a,ρ',f,i,j,k,b,F⟩=>⟨D,a.put d sv,ρ',f,i,j.put k d,⟨b.Ak,b.own,b.Bg⟩,λt q=>?_⟩⟩;simp only[Cy,Bn,Rs]at q;simp only[Ai.put,Bo,q,cond_false,F]
 ·refine⟨(λs c=>by cases c),?_⟩;split at h
  ·rename_i t x y;exact(OD.exu (B81 p h C.n ty pos af)).mono λv w' ⟨a,ρ',f,i,j,k,b⟩=>⟨λA=>absurd A (by simp[Dg]),a,ρ',f,i,j,k,λt _=>by rw[b]⟩
  ·cases h
theorem B8w (p:La Af C){Q}:StepOk B Af C ops (λl env w=>WL prog C.n ops.toArray l Q env w) (λ_=>True) (λ_ o st K=>Acb C o st K):=λR o st K r ρ env w rest I h s t q=>by
 simp only[Acb]at h;cases j:Ay (Dg C [] o) 0 with
 |true=>rw[j]at h;exact Bha p (QT.wl (Q:=Q)) R o st K r ρ env w rest trivial h s t q
 |false=>rw[j]at h;simp only[cond_false]at h;have x:=Br (bt h).1;replace h:=(bt h).2;obtain⟨d,f⟩:=Pj (o:= {o with guard:=Ab}) p s rfl h;obtain⟨b,u,ty,pos,af,g⟩:=o;intro a c;unfold wpList;rw[if_pos (t a c)];refine .inl (J4 (o:=⟨b,u,ty,pos,af,g⟩) (λH w' ⟨v,e,k⟩=>?_) (A10 (f.get a c)));subst e;obtain⟨y,i,ρ',z,A,D,F,G⟩:=k;exact q i ρ' _ w' z D A F G (y x) _ (c.putE (o:=⟨b,u,ty,pos,af,g⟩) d v)
theorem OD.guard {b:Option Nat}{op ty pos af g P N} (h:OD P n env w ⟨b,op,ty,pos,af,Ab⟩ N):OD P n env w ⟨b,op,ty,pos,af,g⟩ N:=⟨λa c=>A10 (h.get a c)⟩
theorem QT.imp{P n aops T good a} (h:QT P n aops T good) (c:∀o,a o->good o):QT P n aops T a:=⟨λb=>h.q (c _ b),λb=>h.s (c _ b)⟩
def Y9 (C:Es) (E:List Nat) (o:Oper):Prop:=(Dm (Dg C E o) 1&&Ay (Dg C E o) (Dg C [] o))=true
theorem QT.wo'{P n aops Q} E:QT P n aops (λl env w=>WO P n aops Q (l.map λo=>(o,Dg C E o)) env w) (Y9 C E):=(QT.wo (Dg C E)).imp λo h=>by simp only[Y9,A9]at h;exact h.1
theorem B8u (d:La Af C){E Q}:StepOk B Af C ops (λl env w=>WO prog C.n ops.toArray Q (l.map λo=>(o,Dg C E o)) env w) (Y9 C E) (λ_ o st K=>Acb C o st K):=λR o st K r ρ env w rest s h i t q=>by
 simp only[Acb]at h;have a:=s;simp only[Y9,A9]at a;have y:=Br a.2;cases p:Ay (Dg C [] o) 0 with
 |true=>rw[p]at h;exact Bha d (QT.wo' (Q:=Q) E) R o st K r ρ env w rest s h i t q
 |false=>rw[p]at h;simp only[cond_false]at h;have c:=Br (bt h).1;replace h:=(bt h).2;have e:=(Pj (o:= {o with guard:=Ab}) d i rfl h).1;have f:=λk (b:Rel w k)=>(Pj (o:= {o with guard:=Ab}) d (i.rel b) rfl h).2;simp only[Fa,y,c];obtain⟨x,H,ty,pos,af,g⟩:=o;refine Biv t e λk b=>(OD.guard (f k b)).mono λv w' ⟨u,j,ρ',z,A,D,F,G⟩=>⟨u c,?_⟩;exact q j ρ' _ w' z D A F G (b.trans (u c))
theorem B0g{l t x d1 j rest} (h:Aw2 l=Aa (t,x,d1,j,rest)):∃ty e pos a af c,l=⟨Aa d1,.buildSlice t 0 #[],ty,pos,af,Ab⟩::⟨Aa j,.call ⟨.builtin .append,#[.tmp d1,x],#[t,t]⟩,e,a,c,Ab⟩::rest:=by
 unfold Aw2 at h;split at h
 ·rename_i k A z ps ty pos af p b g e a c i;split at h
  ·rename_i d G D F v u y;have f:=(bt h).1;replace h:=(bt h).2;cases h;simp only[A9]at f;cases Br f.1.1;cases Br f.1.2;cases Br f.2.1;cases Br f.2.2;have q:ps= #[]:=by cases ps;simpa using v
   have s:b= #[.tmp d1,x]:=by cases b;simpa using u
   have e2:g= #[t,t]:=by cases g;simpa using y
   subst q s e2;exact⟨ty,e,pos,a,af,c,rfl⟩
  ·cases h
 ·cases h
theorem Brk (p:Sat B Af ρ st env w){t y d1 d2 K Q aops rr ty ty2 pos pos2 af af2} (F:C1 d1 n=true) (G:C1 d2 n=true) (h:Afe {st with env:=(d1,Ab)::st.env} t y K=Aa r)
  (W:∀u v w' sv g ρ',K sv g=Aa r->Ext ρ ρ'->Sat B Af ρ' g ((d1,u)::env) w'->sv.Den ρ' v->Be {st with env:=(d1,Ab)::st.env} g->g.env=(d1,Ab)::st.env->WO prog n aops Q rr ((d2,v)::(d1,u)::env) w'):
  WO prog n aops Q ((⟨Aa d1,.buildSlice t 0 #[],ty,pos,af,Ab⟩,1)::(⟨Aa d2,.call ⟨.builtin .append,#[.tmp d1,y],#[t,t]⟩,ty2,pos2,af2,Ab⟩,1)::rr) env w:=by
 unfold Afe at h;split at h
 ·rename_i hh e ei te hy ht;obtain⟨V,_,z,L,_⟩:=R9 ht;have l:=(bt h).1;replace h:=(bt h).2;simp only[A9]at l;rw[<-Br l.2.2]at L;split at h
  ·rename_i c A;split at h
   ·rename_i M q;have Y:=(C8 h).1;replace h:=(C8 h).2;refine A1v rfl (λd D=>by cases D;exact F) λw1 O=>?_;obtain⟨m,rs,m1,m2,m3,X⟩:=(p.rel O).mem;refine OD.ex (Bi2 (T:=C7 te) (f:=fD te) V L (λx=>Fu te x) X λb w2 j i=>⟨j,?_⟩);have I:Sat B Af ρ {st with env:=(d1,Ab)::st.env} ((d1,Sv.v ⟨Aa ⟨b,0,Ab⟩,0,0⟩)::env) w2:=⟨p.len,p.env.none d1,((p.rel O).rel j).mem⟩;refine A1v rfl (λd D=>by cases D;exact G) λw3 k=>?_;have a:=I.rel k;obtain⟨v,v1,sv,s1,rfl⟩:=a.env.evC hy;obtain⟨s',S,U⟩:=a.rd A;rw[s1]at S;cases S;obtain⟨e,e2⟩:=Qp q;obtain⟨t',L'⟩:=c;simp only at e e2 U;subst e e2;refine OD.ex (Bi0 V L v1 (by simp[putE,ev,lk]) U (Amf l.2.1) (i.call k) Y l.1 λs' w4 H s=>⟨H,?_⟩);exact W _ _ w4 _ _ _ h (Ext.one ρ _) (a.row m1 m2 m3 s) (a.rowDen s') (Be.fresh rfl (OwnLe.refl _)) rfl
   ·cases h
  ·cases h
 ·cases h
theorem B0j{l t x y d1 d2 rest} (h:Aw6 l=Aa (t,x,y,d1,d2,rest)):∃ty e pos a af c,l=⟨Aa d1,.buildSlice t 1 #[(0,x)],ty,pos,af,Ab⟩::⟨Aa d2,.call ⟨.builtin .append,#[y,.tmp d1],#[t,t]⟩,e,a,c,Ab⟩::rest:=by
 unfold Aw6 at h;split at h
 ·rename_i j A z ps ty pos af k b g e a c i;split at h
  ·rename_i G H d D F u s v;have f:=(bt h).1;replace h:=(bt h).2;cases h;simp only[A9]at f;cases Br f.1.1;cases Br f.1.2;cases Br f.2.1;cases Br f.2.2;have p:ps= #[(0,x)]:=by cases ps;simpa using u
   have q:b= #[y,.tmp d1]:=by cases b;simpa using s
   have e2:g= #[t,t]:=by cases g;simpa using v
   subst p q e2;exact⟨ty,e,pos,a,af,c,rfl⟩
  ·cases h
 ·cases h
theorem B0i{o rest t x} {d:Nat} (h:Aw5 C (o::rest)=Aa (t,x)) (j:o.dst=Aa d):∃ty pos af,o=⟨Aa d,.buildSlice t 1 #[(0,x)],ty,pos,af,Ab⟩:=by
 unfold Aw5 at h;split at h
 ·rename_i s z l ps ty pos af u f b q p g i g2 y a;cases a;split at h
  ·rename_i A e k v;have c:=(bt h).1;replace h:=(bt h).2;cases h;cases j;simp only[A9]at c;cases Br c.1.2;have a:ps= #[(0,x)]:=by cases ps;simpa using k
   subst a;exact⟨ty,pos,af,rfl⟩
  ·cases h
 ·cases h
theorem Bfh (A:La Af C){Q}:∀l p st K ρ env w tail,Ahd C ops p l st K=Aa r->Sat B Af ρ st env w->
  (∀c ρ' d w',K c=Aa r->Sat B Af ρ' c d w'->Ext ρ ρ'->Be st c->(∀t,Bn (Cy l) t=false->Bo c.env t=Bo st.env t)->WL prog C.n ops.toArray tail Q d w')->WL prog C.n ops.toArray (l++tail) Q env w
 |[],p,st,K,ρ,env,w,tail,h,hs,hK=>hK st ρ env w h hs (Ext.refl ρ) (Be.refl st) λ_ _=>rfl
 |o::l,p,st,K,ρ,env,w,tail,h,hs,hK=>by
  unfold Ahd at h;have D:=(bt h).1;replace h:=(bt h).2;obtain⟨q,u⟩:=Pj (o:= {o with guard:=Ab}) A hs rfl h;have s:∀a,Has C.n a env->Region.wanted o (yielded ops.toArray a.tmps)=true:=λa i=>Anq D hs.env i;obtain⟨b,j,ty,pos,af,g⟩:=o;intro a i;show wpList _ _ _ (⟨b,j,ty,pos,af,g⟩::(l++tail)) a w;unfold wpList;rw[if_pos (s a i)];refine .inl (J4 (o:=⟨b,j,ty,pos,af,g⟩) (λW w' ⟨v,e,k⟩=>?_) (A10 (u.get a i)));subst e;obtain⟨_,c,ρ',M,O,S,T,U⟩:=k;refine Bfh A l p c K ρ' _ w' tail M S (λy z f V G k2 H I L=>hK y z f V G k2 (O.trans H) (T.trans I) λt x=>?_) _ (i.putE (o:=⟨b,j,ty,pos,af,g⟩) q v);have F:Cy (⟨b,j,ty,pos,af,g⟩::l)=Cy [⟨b,j,ty,pos,af,Ab⟩]++Cy l:=by cases b<;>rfl
  rw[F,Mb,Il]at x;rw[L t x.2,U t x.1]
theorem Adk (hC:La Af C){Q}:∀f l st K ρ env w,Q6 C ops f l st K=Aa r->Sat B Af ρ st env w->
  (∀G ρ' F w',K G=Aa r->Sat B Af ρ' G F w'->Ext ρ ρ'->Be st G->(∀t,Bn (Cy l) t=false->Bo G.env t=Bo st.env t)->Q .normal F w')->WL prog C.n ops.toArray l Q env w
 |0,_,_,_,_,_,_,h,_,_=>by cases h
 |f+1,[],st,K,ρ,env,w,h,hs,hK=>A1u (hK st ρ env w h hs (Ext.refl ρ) (Be.refl st) λ_ _=>rfl)
 |f+1,o::rest,st,K,ρ,env,w,h,hs,hK=>by
  unfold Q6 at h;split at h
  ·rename_i hg;split at h
   ·rename_i t x y d1 d2 i hp;obtain⟨ty,f6,pos,e3,af,e4,e⟩:=B0j hp;have hc:=(bt h).1;replace h:=(bt h).2;simp only[A9]at hc;rw[e]at hK⊢;refine B3w hs hc.1 hc.2 h λu v w' sv G ρ' X k2 Y O W k6=>?_;refine Adk hC f i _ K ρ' _ w' X (Y.put O d2) λL M A w2 g1 g2 g3 g4 g5=>hK L M A w2 g1 g2 (k2.trans g3) (Be.trans W ⟨g4.Ak,g4.own,g4.Bg⟩) λt k=>?_;simp only[Cy,Bn,Il]at k;rw[g5 t k.2.2];simp only[Ai.put,Bo,k.2.1,cond_false,k6,k.1]
   ·split at h
    ·rename_i t x d c7 c1;obtain⟨ty,pos,af,e⟩:=B0i c7 c1;have a1:=(bt h).1;replace h:=(bt h).2;subst e;refine Biu rfl (λd' hd=>by cases hd;exact a1) (OD.ex (B2p hs h C.n d ty pos af)) λv w' ⟨_,sv,G,ρ',X,k2,Y,O,W,k6⟩=>?_;refine Adk hC f rest _ K ρ' _ w' X (Y.put O d) λL M A w2 g1 g2 g3 g4 g5=>hK L M A w2 g1 g2 (k2.trans g3) (Be.trans W ⟨g4.Ak,g4.own,g4.Bg⟩) λt k=>?_;simp only[Cy,Bn,Il]at k;rw[g5 t k.2];simp only[Ai.put,Bo,k.1,cond_false,k6]
    ·obtain⟨e1,e2⟩:=Pj hC hs hg h;refine Biu hg e1 e2 λv w' ⟨_,G,ρ',X,k2,Y,O,W⟩=>?_;refine Adk hC f rest G K ρ' _ w' X Y λL M A w2 g1 g2 g3 g4 g5=>hK L M A w2 g1 g2 (k2.trans g3) (Be.trans O g4) λt k=>?_;have hw:Cy (o::rest)=Cy [o]++Cy rest:=by rw[<-Rh];rfl
     rw[hw,Mb,Il]at k;rw[g5 t k.2,W t k.1]
  ·rename_i j b e8;split at h
   ·cases h
   ·rename_i s hj;split at h
    ·rename_i g D p x y i a0 b4;obtain⟨hl,hp⟩:=Aho b4;split at h
     ·cases h
     ·rename_i d hd;have hc:=(bt h).1;replace h:=(bt h).2;simp only[A9]at hc;obtain⟨⟨⟨b5,S⟩,a1⟩,a8⟩:=hc;have S:Bn (Cy D) s=false:=by simpa using S
      have b2:p.guard=Ab:=by unfold isNone at a8;split at a8;assumption;cases a8
      cases a6:D.any λo=>Ay (Dg C [] o) 2 with
      |true=>
       rw[a6]at h;simp only[cond_true]at h;rw[hl]
       have De:∀(z:Operand) (I:Ai) (V:List HV) (H:Env) (w1:World),z=(bif g then x else y)->Pk (λv st=>Q6 C ops f i {st with env:=(d,Aa (.v (.c (.b v))))::st.env} K) z I=Aa r->Sat B Af V I H w1->ev H (.tmp s)=Aa (.bool g)->Ext ρ V->Be st I->(∀t,Bn (Cy D) t=false->s≠t->Bo I.env t=Bo st.env t)->(Bo I.env s=Bo st.env s)->WL prog C.n ops.toArray (p::i) Q H w1:=λz I V H w1 hz h1 b3 c5 d5 c4 c2 c3=>by
        unfold Pk at h1;split at h1
        ·rename_i v hv;refine(QT.wl (Q:=Q)).q trivial hd a1 (λa ha=>by simp[Region.wanted,b2]) (λa ha=>Ay1 hp hd c5 (by rw[<-hz];exact b3.env.evB hv) ha) λw2 d0=>?_;have d3:=(b3.rel d0).put (sv:=.v (.c (.b v))) (v:=.bool v) rfl d;refine Adk hC f i _ K V _ w2 h1 d3 λL M A w3 X k2 Y O W=>hK L M A w3 X k2 (d5.trans Y) (c4.trans ⟨O.Ak,O.own,O.Bg⟩) λt k=>?_;rw[hl,Rh,Mb]at k;simp only[Cy,hd,Bn,Il]at k;rw[W t k.2.2];simp only[Bo,k.2.1,cond_false];by_cases a2:s=t
         ·rw[<-a2];exact c3
         ·exact c2 t k.1 a2
        ·cases h1
       have b1:=Avk a0
       have skp:Wp b (.bool g)=false->Pk (λv st=>Q6 C ops f i {st with env:=(d,Aa (.v (.c (.b v))))::st.env} K) (bif g then x else y) {st with env:=F3 D st.env}=Aa r->WL prog C.n ops.toArray (D++p::i) Q env w:=λhb h1=>by
        refine Ahr (T:=λl env w=>WL prog C.n ops.toArray l Q env w) (good:=λ_=>True) QT.wl hj (λ_ _=>trivial) b5 (λt k=>by cases k) (hs.env.evB a0) hb λw' c9=>?_;have U:Sat B Af ρ {st with env:=F3 D st.env} (Ow D env) w':=⟨hs.len,Ahq hs.env,(hs.rel c9).mem⟩;have c8:Bo (F3 D st.env) s=Aa (.v (.c (.b g))):=by rw[Po S];exact b1
        refine De _ _ ρ _ w' rfl h1 U ?_ (Ext.refl ρ) ⟨Ef _,λc h _=>⟨c,h,.inl rfl⟩,[],rfl⟩ (λt k _=>Po k) (Po S);obtain⟨u,u1,u2⟩:=U.env s _ c8;cases u2;exact u1
       have b0:Ahd C ops [(j,b)] D {st with env:=(s,Aa (.v (.c (.b g))))::st.env} (Pk (λv st=>Q6 C ops f i {st with env:=(d,Aa (.v (.c (.b v))))::st.env} K) (bif g then x else y))=Aa r->WL prog C.n ops.toArray (D++p::i) Q env w:=λh1=>by
        refine Bfh hC D [(j,b)] _ _ ρ env w _ h1 ⟨hs.len,hs.env.lit a0,hs.mem⟩ λI V H w1 X k2 Y O W=>?_;have b6:Bo I.env s=Aa (.v (.c (.b g))):=by rw[W s S];simp[Bo]
        refine De _ I V H w1 rfl X k2 ?_ Y ⟨O.Ak,O.own,O.Bg⟩ (λt k a2=>?_) (by rw[b6,b1])
        ·obtain⟨u,u1,u2⟩:=k2.env s _ b6;cases u2;exact u1
        ·rw[W t k];simp only[Bo,Nl a2,cond_false]
       unfold Ap4 at h;cases g<;>cases b
       ·exact b0 h
       ·exact skp rfl h
       ·exact skp rfl h
       ·exact b0 h
      |false=>
      rw[a6]at h;simp only[cond_false]at h;obtain⟨v,hv,h⟩:=A1 h;rw[hl];refine A1q (T:=λl env w=>WL prog C.n ops.toArray l Q env w) (good:=λ_=>True) QT.wl hs hj a0 hp hd a1 b5 S (λ_ _=>trivial) trivial (λF he a ha=>by simp[Region.wanted,b2]) hv (λg' z tl hz U c6=>?_) λF w' hr U=>?_
      ·exact Ahe (QT.wl (Q:=Q)) (B8w hC) (f+1) [(j,b)] D _ Bool _ v ρ env w tl (λ_ _=>trivial) hz U λG ρ' F w' q1 q2 q3 q4 q5 q6=>c6 G ρ' F w' q1 q2 q3 q5 q6
      ·refine Adk hC f i _ K ρ F w' h U λL M A w2 X k2 Y O W=>hK L M A w2 X k2 Y ⟨O.Ak,O.own,O.Bg⟩ λt k=>?_;rw[hl,Rh,Mb]at k;simp only[Cy,hd,Bn,Il]at k;rw[W t k.2.2];simp only[Bo,k.2.1,cond_false];exact Po k.1
    ·cases h
theorem Axe{E} o:Dg C E o=0\/Dg C E o=1\/Dg C E o=2:=by
 unfold Dg;split
 ·split
  ·generalize (!(Nn _ C.cons).isEmpty&&(Nn _ C.cons).all λc=>Gi c.ps)=b;cases b<;>simp
  ·simp
 ·simp
 ·split
  ·split
   ·rename_i t _ _;cases Nt t<;>simp
   ·simp
  ·rename_i d _ _;cases Bn E d<;>simp
  ·simp
 all_goals first
  |simp;done
  |(generalize Apy _=b;cases b<;>simp)
theorem Azv (u:La Af C){E Q}:∀l s st K ρ env w tail,Z3 C E ops s l st K=Aa r->Sat B Af ρ st env w->
  (∀b ρ' f w',K b=Aa r->Sat B Af ρ' b f w'->Ext ρ ρ'->Be st b->(∀t,Bn (Cy l) t=false->Bo b.env t=Bo st.env t)->WO prog C.n ops.toArray Q (tail.map λo=>(o,Dg C E o)) f w')->WO prog C.n ops.toArray Q ((l++tail).map λo=>(o,Dg C E o)) env w
 |[],s,st,K,ρ,env,w,tail,h,hs,hK=>hK st ρ env w h hs (Ext.refl ρ) (Be.refl st) λ_ _=>rfl
 |o::l,s,st,K,ρ,env,w,tail,h,hs,hK=>by
  have L:Cy (o::l)=Cy [o]++Cy l:=by rw[<-Rh];rfl
  unfold Z3 at h;have hm:=(bt h).1;replace h:=(bt h).2;have i:∀a,Has C.n a env->Region.wanted o (yielded ops.toArray a.tmps)=true:=λa H=>Anq hm hs.env H;cases x:Ay (Dg C E o) 0 with
  |true=>rw[x]at h;simp only[cond_true]at h;have I:=Br x;obtain⟨d,sv,v,b,ρ',V,e2,W,X,Y,e6,e7,e8,e9⟩:=Aca u hs h;refine(QT.wo (Q:=Q) (aops:=ops.toArray) (Dg C E)).q (rest:=l++tail) (by rw[I];rfl) V e2 i (λa H=>e9 C.n a H) λw' hr=>?_;refine Azv u l s _ K ρ' _ w' tail W ((Y.rel hr).put e6 d) λk p e U M k2 O A S=>hK k p e U M k2 (X.trans O) (Be.trans e7 ⟨A.Ak,A.own,A.Bg⟩) λt j=>?_;simp only[Cy,V,Bn,Il]at j;rw[S t j.2];simp only[Ai.put,Bo,j.1,cond_false,e8]
  |false=>
   rw[x]at h;simp only[cond_false]at h;have hE:=Br (bt h).1;replace h:=(bt h).2;have y:=(Pj (o:= {o with guard:=Ab}) u hs rfl h).1;have z:=λD (h2:Rel w D)=>(Pj (o:= {o with guard:=Ab}) u (hs.rel h2) rfl h).2
   have go:∀v w',Next B Af ρ st env (λst=>Z3 C E ops s l st K) r (Cy [{o with guard:=Ab}]) o.dst v w'->WO prog C.n ops.toArray Q ((l++tail).map λo=>(o,Dg C E o)) (putE o.dst v env) w':=λv w' ⟨b,ρ',M,k2,O,A,S⟩=>by
    refine Azv u l s b K ρ' _ w' tail M O λk p e U g1 g2 g3 g4 g5=>hK k p e U g1 g2 (k2.trans g3) (Be.trans A g4) λt j=>?_;rw[L,Mb,Il]at j;rw[g5 t j.2];refine S t ?_;have:Cy [{o with guard:=Ab}]=Cy [o]:=by cases o;rfl
    rw[this];exact j.1
   simp only[Fi,Fa];obtain⟨F,op,ty,pos,af,g⟩:=o;rcases Axe (C:=C) (E:=E) ⟨F,op,ty,pos,af,g⟩with c|c|c
   ·rw[c]at x;cases x
   ·rw[c];refine Biv i y λD G=>(OD.guard (z D G)).mono λv w' ⟨q1,T⟩=>⟨q1 (hE▸c),go v w' T⟩
   ·rw[c];exact Cdm i y λD G=>(OD.guard (z D G)).mono λv w' ⟨_,T⟩=>go v w' T
theorem Adl (hC:La Af C){E Q}:∀f l st K ρ env w,Ou C E ops f l st K=Aa r->Sat B Af ρ st env w->
  (∀G ρ' F w',K G=Aa r->Sat B Af ρ' G F w'->Ext ρ ρ'->Be st G->(∀t,Bn (Cy l) t=false->Bo G.env t=Bo st.env t)->Q .normal F w')->WO prog C.n ops.toArray Q (l.map λo=>(o,Dg C E o)) env w
 |0,_,_,_,_,_,_,h,_,_=>by cases h
 |f+1,[],st,K,ρ,env,w,h,hs,hK=>Bdc λV S=>hK st ρ env V h (hs.rel S) (Ext.refl ρ) (Be.refl st) λ_ _=>rfl
 |f+1,o::rest,st,K,ρ,env,w,h,hs,hK=>by
  have hw:Cy (o::rest)=Cy [o]++Cy rest:=by rw[<-Rh];rfl
  unfold Ou at h;split at h
  ·rename_i hg;split at h
   ·rename_i t y d1 d2 i hp;obtain⟨ty,f5,pos,c5,af,c9,e⟩:=B0g hp;have hc:=(bt h).1;replace h:=(bt h).2;simp only[A9]at hc;rw[e]at hK⊢;simp only[Fa]
    rw[show Dg C E ⟨Aa d1,.buildSlice t 0 #[],ty,pos,af,Ab⟩=1 from rfl,show Dg C E ⟨Aa d2,.call ⟨.builtin .append,#[.tmp d1,y],#[t,t]⟩,f5,c5,c9,Ab⟩=1 from by
     show(bif Bn E d1 then 1 else 2)=1;rw[hc.2];rfl]
    refine Brk hs hc.1.1 hc.1.2 h λu v w' sv G ρ' k1 k2 k3 I U k6=>?_;refine Adl hC f i _ K ρ' _ w' k1 (k3.put I d2) λM O A w2 g1 g2 g3 g4 g5=>hK M O A w2 g1 g2 (k2.trans g3) (Be.trans ⟨U.Ak,U.own,U.Bg⟩ ⟨g4.Ak,g4.own,g4.Bg⟩) λt k=>?_;simp only[Cy,Bn,Il]at k;rw[g5 t k.2.2];simp only[Ai.put,Bo,k.2.1,cond_false,k6,k.1]
   cases hk:Ay (Dg C E o) 0 with
   |true=>rw[hk]at h;simp only[cond_true]at h;have d8:=Br hk;obtain⟨d,sv,v,G,ρ',e1,e2,e3,e4,e5,e6,e7,e8,e9⟩:=Aca hC hs h;refine(QT.wo (Q:=Q) (aops:=ops.toArray) (Dg C E)).q (rest:=rest) (by rw[d8];rfl) e1 e2 (λa ha=>by simp[Region.wanted,hg]) (λa ha=>e9 C.n a ha) λw' hr=>?_;refine Adl hC f rest _ K ρ' _ w' e3 ((e5.rel hr).put e6 d) λM O A w2 k1 k2 k3 I U=>hK M O A w2 k1 k2 (e4.trans k3) (Be.trans e7 ⟨I.Ak,I.own,I.Bg⟩) λt k=>?_;simp only[Cy,e1,Bn,Il]at k;rw[U t k.2];simp only[Ai.put,Bo,k.1,cond_false,e8]
   |false=>
    rw[hk]at h;simp only[cond_false]at h;have hE:=Br (bt h).1;replace h:=(bt h).2;have go:∀V,Rel w V->∀v w',Next B Af ρ st env (λst=>Ou C E ops f rest st K) r (Cy [o]) o.dst v w'->WO prog C.n ops.toArray Q (rest.map λo=>(o,Dg C E o)) (putE o.dst v env) w':=λV S v w' ⟨G,ρ',k1,k2,k3,I,U⟩=>by refine Adl hC f rest G K ρ' _ w' k1 k3 λM O A w2 g1 g2 g3 g4 g5=>hK M O A w2 g1 g2 (k2.trans g3) (Be.trans I g4) λt k=>?_;rw[hw,Mb,Il]at k;rw[g5 t k.2,U t k.1]
    simp only[Fa];rcases Axe (C:=C) (E:=E) o with W|W|W
    ·rw[W]at hk;cases hk
    ·rw[W];refine A1v hg (Pj hC hs hg h).1 λV S=>?_;exact(Pj hC (hs.rel S) hg h).2.mono λv w' ⟨q1,q2⟩=>⟨q1 (hE▸W),go V S v w' q2⟩
    ·rw[W];refine Cdl hg (Pj hC hs hg h).1 λV S=>?_;exact(Pj hC (hs.rel S) hg h).2.mono λv w' ⟨q1,q2⟩=>go V S v w' q2
  ·rename_i j b h8;split at h
   ·cases h
   ·rename_i s hj;split at h
    ·rename_i g D p x y i a6 c2;obtain⟨hl,hp⟩:=Aho c2;split at h
     ·cases h
     ·rename_i d hd;have hc:=(bt h).1;replace h:=(bt h).2;simp only[A9]at hc;obtain⟨⟨⟨c3,X⟩,b9⟩,b2⟩:=hc;have X:Bn (Cy D) s=false:=by simpa using X
      have c0:p.guard=Ab:=by unfold isNone at b2;split at b2;assumption;cases b2
      cases a2:D.all λo=>Dm (Dg C E o) 1&&Ay (Dg C E o) (Dg C [] o)with
      |false=>
       rw[a2]at h;simp only[cond_false]at h;rw[hl];have hT:=QT.wo2 (P:=prog) (n:=C.n) (aops:=ops.toArray) (Q:=Q) (Dg C E);have a9:∀o:Oper,Dm (Dg C E o) 2=true:=λo=>by rcases Axe (C:=C) (E:=E) o with e|e|e<;>rw[e]<;>rfl
       have De:∀(z:Operand) (L:Ai) (a0:List HV) (H:Env) (V:World),z=(bif g then x else y)->Pk (λv st=>Ou C E ops f i {st with env:=(d,Aa (.v (.c (.b v))))::st.env} K) z L=Aa r->Sat B Af a0 L H V->ev H (.tmp s)=Aa (.bool g)->Ext ρ a0->Be st L->(∀t,Bn (Cy D) t=false->s≠t->Bo L.env t=Bo st.env t)->Bo L.env s=Bo st.env s->WO prog C.n ops.toArray Q ((p::i).map λo=>(o,Dg C E o)) H V:=λz L a0 H V hz S c1 a5 f3 d5 d3 d4=>by
        unfold Pk at S;split at S
        ·rename_i v hv;refine hT.q (rest:=i) (a9 p) hd b9 (λa ha=>by simp[Region.wanted,c0]) (λa ha=>Ay1 hp hd a5 (by rw[<-hz];exact c1.env.evB hv) ha) λw2 f0=>?_;have f1:=(c1.rel f0).put (sv:=.v (.c (.b v))) (v:=.bool v) rfl d;refine Adl hC f i _ K a0 _ w2 S f1 λM O A w3 k1 k2 k3 I U=>hK M O A w3 k1 k2 (f3.trans k3) (d5.trans ⟨I.Ak,I.own,I.Bg⟩) λt k=>?_;rw[hl,Rh,Mb]at k;simp only[Cy,hd,Bn,Il]at k;rw[U t k.2.2];simp only[Bo,k.2.1,cond_false];by_cases a7:s=t
         ·rw[<-a7];exact d4
         ·exact d3 t k.1 a7
        ·cases S
       have b8:=Avk a6
       have skp:Wp b (.bool g)=false->Pk (λv st=>Ou C E ops f i {st with env:=(d,Aa (.v (.c (.b v))))::st.env} K) (bif g then x else y) {st with env:=F3 D st.env}=Aa r->WO prog C.n ops.toArray Q ((D++p::i).map λo=>(o,Dg C E o)) env w:=λhb S=>by
        refine Ahr (T:=λl env w=>WO prog C.n ops.toArray Q (l.map λo=>(o,Dg C E o)) env w) (good:=λo=>Dm (Dg C E o) 2=true) hT hj (λo _=>a9 o) c3 (λt k=>by cases k) (hs.env.evB a6) hb λw' e0=>?_;have Y:Sat B Af ρ {st with env:=F3 D st.env} (Ow D env) w':=⟨hs.len,Ahq hs.env,(hs.rel e0).mem⟩;have d9:Bo (F3 D st.env) s=Aa (.v (.c (.b g))):=by rw[Po X];exact b8
        refine De _ _ ρ _ w' rfl S Y ?_ (Ext.refl ρ) ⟨Ef _,λc h _=>⟨c,h,.inl rfl⟩,[],rfl⟩ (λt k _=>Po k) (Po X);obtain⟨u,u1,u2⟩:=Y.env s _ d9;cases u2;exact u1
       have b5:Z3 C E ops [(j,b)] D {st with env:=(s,Aa (.v (.c (.b g))))::st.env} (Pk (λv st=>Ou C E ops f i {st with env:=(d,Aa (.v (.c (.b v))))::st.env} K) (bif g then x else y))=Aa r->WO prog C.n ops.toArray Q ((D++p::i).map λo=>(o,Dg C E o)) env w:=λS=>by
        refine Azv hC D [(j,b)] _ _ ρ env w _ S ⟨hs.len,hs.env.lit a6,hs.mem⟩ λL a0 H V k1 k2 k3 I U=>?_;have c4:Bo L.env s=Aa (.v (.c (.b g))):=by rw[U s X];simp[Bo]
        refine De _ L a0 H V rfl k1 k2 ?_ k3 ⟨I.Ak,I.own,I.Bg⟩ (λt k a7=>?_) (by rw[c4,b8])
        ·obtain⟨u,u1,u2⟩:=k2.env s _ c4;cases u2;exact u1
        ·rw[U t k];simp only[Bo,Nl a7,cond_false]
       unfold Ap4 at h;cases g<;>cases b
       ·exact b5 h
       ·exact skp rfl h
       ·exact skp rfl h
       ·exact b5 h
      |true=>
      rw[a2]at h;simp only[cond_true]at h;have a5:∀o∈D,Y9 C E o:=λo ho=>Ff.1 a2 o ho;have d6:Y9 C E p:=by obtain⟨pd,j1,_,_,_,_⟩:=p;simp only at hp;subst hp;rfl
      obtain⟨v,hv,h⟩:=A1 h;rw[hl];refine A1q (T:=λl env w=>WO prog C.n ops.toArray Q (l.map λo=>(o,Dg C E o)) env w) (good:=Y9 C E) (QT.wo' E) hs hj a6 hp hd b9 c3 X a5 d6 (λF he a ha=>by simp[Region.wanted,c0]) hv (λg' z tl hz Y d7=>?_) λF w' hr Y=>?_
      ·exact Ahe (QT.wo' (Q:=Q) E) (B8u hC) (f+1) [(j,b)] D _ Bool _ v ρ env w tl a5 hz Y λG ρ' F w' q1 q2 q3 q4 q5 q6=>d7 G ρ' F w' q1 q2 q3 q5 q6
      ·refine Adl hC f i _ K ρ F w' h Y λM O A w2 k1 k2 k3 I U=>hK M O A w2 k1 k2 k3 ⟨I.Ak,I.own,I.Bg⟩ λt k=>?_;rw[hl,Rh,Mb]at k;simp only[Cy,hd,Bn,Il]at k;rw[U t k.2.2];simp only[Bo,k.2.1,cond_false];exact Po k.1
    ·cases h
theorem Bci{E}:∀ {l:List (Oper×Nat)},Agj C E l=true->l=(Aci l).map λo=>(o,Dg C E o)
 |[],_=>rfl
 |p::r,h=>by simp only[Agj,A9]at h;simp only[Aci,Fa];rw[<-Bci h.2,<-Br h.1]
theorem Ayk{l}:∀ {a:List (Nat×Nat)},∀o∈Aci (Pu l a),o∈l
 |[],_,h=>by cases h
 |k::a,o,h=>by
  simp only[Pu]at h;split at h
  ·rename_i b ho;rcases Bq.1 h with rfl|h
   ·exact Abk ho
   ·exact Ayk o h
  ·exact Ayk o h
theorem Biy{t o r} (h:Bn (Cy (o::r)) t=false):o.dst≠Aa t/\Bn (Cy r) t=false:=by rw[show Cy (o::r)=Cy [o]++Cy r from Rh (a:=[o]) (b:=r),Mb,Il]at h;refine⟨λe=>?_,h.2⟩;have c:=h.1;simp[Cy,e,Bn]at c
theorem Aaq{t l} (h:Bn (Cy l) t=false):∀o∈l,o.dst≠Aa t:=by
 induction l with
 |nil=>intro o ho;cases ho
 |cons b r a=>
  intro o ho;rcases Bq.1 ho with e|ho
  ·rw[e];exact(Biy h).1
  ·exact a (Biy h).2 o ho
theorem Ap8 {t:Nat}:∀ {l:List Oper},(∀o∈l,o.dst≠Aa t)->Bn (Cy l) t=false
 |[],_=>rfl
 |o::r,h=>by
  have b:=h o (Bm ..);have a:=Ap8 (l:=r) λo ho=>h o (Bf _ ho);simp only[Cy];split
  ·rename_i d c;simp only[Bn,a,Rs];exact Nl λe=>b (by rw[c,e])
  ·exact a
theorem B5x (l:La Af C){Q id aops K} (c:Region.noSelect aops.toList.toArray=true) (d:W5 aops.toList.toArray (Uw C (Ph aops.toList) aops.toList aops.toList.length (Kh aops.toList.length false)) (Kh aops.toList.length false)=true)
  (h:(bif (Ay (Uw C (Ph aops.toList) aops.toList aops.toList.length (Kh aops.toList.length false)).length aops.toList.length&&(Uw C (Ph aops.toList) aops.toList aops.toList.length (Kh aops.toList.length false)).all λk=>C1 k.1 aops.toList.length)&&Agj C (Ph aops.toList) (Pu aops.toList (Uw C (Ph aops.toList) aops.toList aops.toList.length (Kh aops.toList.length false)))then Ou C (Ph aops.toList) aops.toList (aops.toList.length+1) (Aci (Pu aops.toList (Uw C (Ph aops.toList) aops.toList aops.toList.length (Kh aops.toList.length false)))) st K else Ab)=Aa r) (q:Sat B Af ρ st env w)
  (p:∀b ρ' a w',K b=Aa r->Sat B Af ρ' b a w'->Ext ρ ρ'->Be st b->(∀t,Bn (Cy aops.toList) t=false->Bo b.env t=Bo st.env t)->Q .normal a w'):WC prog C.n (.region id aops true) Q env w:=by
 have e:aops=aops.toList.toArray:=by simp
 have j:=(bt h).1;replace h:=(bt h).2;simp only[A9]at j;obtain⟨⟨f,g⟩,i⟩:=j;rw[e];refine Xt (Uw C (Ph aops.toList) aops.toList aops.toList.length (Kh aops.toList.length false)) Tryz_mixed c f d g ?_;rw[Bci i];exact Adl l _ _ st K ρ env w h q λb ρ' a w' u k2 v x y=>p b ρ' a w' u k2 v x λt s=>y t (Ap8 λo ho=>Aaq s o (Ayk o ho))
end
end
section
open Go.RowKit
section
variable {ρ ρ':List HV} {rs rs':List Rd} {B:Dn} {Af:List Rd} {st:Ai} {env:Env} {w:World} {m:List As}
def CIn (rs:List Rd) (c:CT) (l:A5) (u:Value) (m:List As):Prop:=match c with
 |.ro _=>m=[]/\∃t L,l=.sl t L/\rV u l.ce∈rs
 |.C9 _=>∃t L xs,l=.sl t L/\m=[Cx (sz t) u L.length xs]/\rX xs (L.flatMap (fD t))∈rs
 |_=>m=[oC l.ce u]
def CsIn (rs:List Rd):List CT->List A5->List Value->List As->Prop
 |[],ls,us,m=>ls=[]/\us=[]/\m=[]
 |c::cs,ls,us,m=>(c.isNl=true/\∃a,us=.slice Ab 0 0::a/\CsIn rs cs ls a m)\/(c.isNl=false/\∃l l' u a m1 m2,ls=l::l'/\us=u::a/\m=m1++m2/\CIn rs c l u m1/\CsIn rs cs l' a m2)
def VIn (ρ:List HV) (rs:List Rd) (env:Env) (e:List (Nat×Option SV)):List VK->List A5->List As->Prop
 |[],ls,m=>ls=[]/\m=[]
 |.slot s c::r,ls,m=>∃l l' u m1 m2,ls=l::l'/\lk env s=Aa u/\m=m1++m2/\CIn rs c l u m1/\VIn ρ rs env e r l' m2
 |.Qs s _::r,ls,m=>∃h t L l' q m2,ls=.sl t L::l'/\Bo e s=Aa (.v (.c (.sl h)))/\ρ[h]?=Aa (.row q)/\m=oC (Ar (sz t) (fD t) L) q.v::m2/\VIn ρ rs env e r l' m2
 |.box s k cs::r,ls,m=>∃h b ty a d us m1 m2,ls=a++d/\Agl e s k=Aa h/\ρ[h]?=Aa (.box b)/\CsIn rs cs a us m1/\m=Cc b (Pa us) ty::(m1++m2)/\VIn ρ rs env e r d m2
theorem B03{e env0} (d:EnvOk ρ e env0){s k h} (a:Agl e s k=Aa h):∃b,ρ[h]?=Aa (.box b):=by
 unfold Agl at a;split at a
 ·rename_i g o c;have i:=(bt a).1;replace a:=(bt a).2;cases a;obtain⟨_,_,b,l,_⟩:=d _ _ c;exact⟨b,l⟩
 ·rename_i f Bu c;split at a
  ·cases a
  ·rename_i k';split at a
   ·rename_i g o j;have i:=(bt a).1;replace a:=(bt a).2;cases a;obtain⟨_,_,vs,_,k2⟩:=d _ _ c;obtain⟨u,_,b,n,_⟩:=k2.nth j;exact⟨b,n⟩
   ·cases a
 ·cases a
theorem CIn.mono (b:∀r∈rs,r∈rs'){c l u} (h:CIn rs c l u m):CIn rs' c l u m:=by
 cases c with
 |ro t=>exact⟨h.1,by obtain⟨t,L,e,a⟩:=h.2;exact⟨t,L,e,b _ a⟩⟩
 |C9 t=>obtain⟨t,L,xs,d,e2,a⟩:=h;exact⟨t,L,xs,d,e2,b _ a⟩
 |_=>exact h
theorem CsIn.mono (a:∀r∈rs,r∈rs'):∀ {cs:List CT} {ls:List A5} {us:List Value} {m:List As},CsIn rs cs ls us m->CsIn rs' cs ls us m
 |[],_,_,_,h=>h
 |_::_,_,_,_,.inl ⟨h0,u',e,h⟩=>.inl ⟨h0,u',e,CsIn.mono a h⟩
 |_::_,_,_,_,.inr ⟨h0,l,l',u,u',m1,m2,e1,e2,e3,h1,h2⟩=>.inr ⟨h0,l,l',u,u',m1,m2,e1,e2,e3,h1.mono a,CsIn.mono a h2⟩
theorem CsIn.len:∀ {cs:List CT} {ls:List A5} {us:List Value} {m:List As},CsIn rs cs ls us m->ls.length=(S4 cs).length
 |[],_,_,_,h=>by rw[h.1];rfl
 |_::_,_,_,_,.inl ⟨h0,u',e,h⟩=>by simp only[S4,h0,cond_true];exact CsIn.len h
 |_::_,_,_,_,.inr ⟨h0,l,l',u,u',m1,m2,e1,e2,e3,h1,h2⟩=>by rw[e1];simp[S4,h0,CsIn.len h2]
theorem VIn.mono (hx:Ext ρ ρ') (a:∀r∈rs,r∈rs'){e}:∀ {v:List VK} {ls:List A5} {m:List As},VIn ρ rs env e v ls m->VIn ρ' rs' env e v ls m
 |[],_,_,h=>h
 |.slot _ _::_,_,_,⟨l,l',u,m1,m2,e1,e2,e3,h1,h2⟩=>⟨l,l',u,m1,m2,e1,e2,e3,h1.mono a,VIn.mono hx a h2⟩
 |.Qs _ _::_,_,_,⟨h,t,L,l',q,m2,e1,e2,e3,e4,h2⟩=>⟨h,t,L,l',q,m2,e1,e2,hx.get e3,e4,VIn.mono hx a h2⟩
 |.box _ _ _::_,_,_,⟨h,b,ty,l1,l2,us,m1,m2,e1,e2,e3,h1,e4,h2⟩=>⟨h,b,ty,l1,l2,us,m1,m2,e1,e2,hx.get e3,h1.mono a,e4,VIn.mono hx a h2⟩
theorem VIn.back (hx:Ext ρ ρ'){e env0} (a:EnvOk ρ e env0):∀ {v:List VK} {ls:List A5} {m:List As},VIn ρ' rs env e v ls m->VIn ρ rs env e v ls m
 |[],_,_,h=>h
 |.slot _ _::_,_,_,⟨l,l',u,m1,m2,e1,e2,e3,h1,h2⟩=>⟨l,l',u,m1,m2,e1,e2,e3,h1,VIn.back hx a h2⟩
 |.Qs _ _::_,_,_,⟨h,t,L,l',q,m2,e1,e2,e3,e4,h2⟩=>⟨h,t,L,l',q,m2,e1,e2,by
   obtain⟨_,_,d,c,_⟩:=a _ _ e2;exact hx.back e3 c,e4,VIn.back hx a h2⟩
 |.box _ _ _::_,_,_,⟨h,b,ty,l1,l2,us,m1,m2,e1,e2,e3,h1,e4,h2⟩=>⟨h,b,ty,l1,l2,us,m1,m2,e1,e2,by
   obtain⟨d,c⟩:=B03 a e2;exact hx.back e3 c,h1,e4,VIn.back hx a h2⟩
theorem VIn.inEnv{env' e}:∀ {v:List VK} {ls:List A5} {m:List As},VIn ρ rs env e v ls m->(∀t,Bn (Cz v) t=true->lk env' t=lk env t)->VIn ρ rs env' e v ls m
 |[],_,_,h,_=>h
 |.slot s _::_,_,_,⟨l,l',u,m1,m2,e1,e2,e3,h1,h2⟩,he=>⟨l,l',u,m1,m2,e1,by rw[he s (by simp[Cz,Bn]),e2],e3,h1,VIn.inEnv h2 λt a=>he t (by simp[Cz,Bn,a])⟩
 |.Qs _ _::_,_,_,⟨h,t,L,l',q,m2,e1,e2,e3,e4,h2⟩,he=>⟨h,t,L,l',q,m2,e1,e2,e3,e4,VIn.inEnv h2 λt a=>he t a⟩
 |.box _ _ _::_,_,_,⟨h,b,ty,l1,l2,us,m1,m2,e1,e2,e3,h1,e4,h2⟩,he=>⟨h,b,ty,l1,l2,us,m1,m2,e1,e2,e3,h1,e4,VIn.inEnv h2 λt a=>he t a⟩
theorem Z.appL{a b c} (h:Z w a b):Z w (c++a) (c++b):=(Z.perm Gg).trans ((Z.app h).trans (Z.perm Gg))
theorem Bak{c x p u mm} (h:Y6 c x st=Aa p) (k:x.Den ρ u) (d:OwnOk ρ rs st.own m) (C:RdsOk ρ st.Bg rs) (e:St B (mm++m) rs w):
  ∃m1 m2 rs',(∀r∈rs,r∈rs')/\CIn rs' c p.1 u m1/\OwnOk ρ rs' p.2.own m2/\St B (mm++(m1++m2)) rs' w/\OwnLe st.own p.2.own/\p.2= {st with own:=p.2.own}:=by
 have a:∀r:Rd,∀F∈rs,F∈r::rs:=λ_ _ h=>Bf _ h;cases c with
 |sc n=>simp only[Y6,Di]at h;obtain⟨l,o,rfl⟩:=h;exact⟨_,m,rs,λ_ h=>h,rfl,d,e.z (zP (Ao8 o k).2 zI).appL,OwnLe.refl _,rfl⟩
 |row t=>simp only[Y6,Di]at h;obtain⟨z,o,rfl⟩:=h;obtain⟨f,m',b,k2⟩:=Aym o k d;exact⟨_,m',rs,λ_ h=>h,rfl,b,e.z (k2 w).appL,f,rfl⟩
 |ro t=>
  simp only[Y6]at h;split at h
  ·cases h;cases k;exact⟨[],m,_,a _,⟨rfl,_,_,rfl,Bm ..⟩,OwnOk.mono (Ext.refl ρ) (a _) d,e.nilR _ _,OwnLe.refl _,rfl⟩
  ·obtain⟨s,s1,rfl⟩:=k;split at h
   ·rename_i q i;cases h;obtain⟨f,s',m',b,k2,j⟩:=Q5 i d;rw[s1]at b;cases b;exact⟨[],m',_,a _,⟨rfl,_,_,rfl,Bm ..⟩,OwnOk.mono (Ext.refl ρ) (a _) k2,((e.z (j w).appL).z (Z.perm Ct)).selO,f,rfl⟩
   ·split at h
    ·rename_i q i;cases h;obtain⟨f,s',xs,m',b,k2,j,y⟩:=U4 i d;rw[s1]at b;cases b;have g:=((e.z (j w).appL).z (Z.perm Ct)).sealS (Fu q.1.t) y;exact⟨[],m',_,a _,⟨rfl,_,_,rfl,Bm ..⟩,OwnOk.mono (Ext.refl ρ) (a _) k2,g,f,rfl⟩
    ·simp only[Di]at h;obtain⟨L,o,rfl⟩:=h;obtain⟨v,H,I,K⟩:=T8 o;obtain⟨r,G,q,A,D⟩:=C v H;subst K D;rw[I,s1]at A;cases A;exact⟨[],m,rs,λ_ h=>h,⟨rfl,_,_,rfl,G⟩,d,e,OwnLe.refl _,rfl⟩
  ·cases h
 |C9 t=>
  simp only[Y6]at h;split at h
  ·cases h;cases k;refine⟨[Cx (sz t) (.slice Ab 0 0) ([]:List (C7 t)).length []],m,_,a _,⟨t,[],[],rfl,rfl,Bm ..⟩,OwnOk.mono (Ext.refl ρ) (a _) d,?_,OwnLe.refl _,rfl⟩;exact(e.nilS (sz t) (fD t)).perm Ct.symm
  ·obtain⟨s,s1,rfl⟩:=k;split at h
   ·rename_i q i;cases h;obtain⟨f,s',xs,m',b,k2,j,y⟩:=U4 i d;rw[s1]at b;cases b;exact⟨_,m',rs,λ_ h=>h,⟨_,_,xs,rfl,rfl,y⟩,k2,e.z (j w).appL,f,rfl⟩
   ·simp only[Di]at h;obtain⟨q,i,rfl⟩:=h;obtain⟨f,s',m',b,k2,j⟩:=Q5 i d;rw[s1]at b;cases b;obtain⟨xs,g⟩:=((e.z (j w).appL).z (Z.perm Ct)).toS;exact⟨_,m',_,a _,⟨_,_,xs,rfl,rfl,Bm ..⟩,OwnOk.mono (Ext.refl ρ) (a _) k2,g.perm Ct.symm,f,rfl⟩
  ·cases h
 |nl=>cases h
theorem Ai.eta {a b:Ai} (c:b.env=a.env) (d:b.Bg=a.Bg) (e:b.Ak=a.Ak):b= {a with own:=b.own}:=by cases a;cases b;simp only at c d e;subst c d e;rfl
theorem Avr:∀ {cs:List CT} {xs:List Cell} {st:Ai} {p:List A5×Ai} {us:List Value} {mm m:List As} {rs:List Rd},Af5 cs xs st=Aa p->All2 (Cell.Den ρ) xs us->OwnOk ρ rs st.own m->RdsOk ρ st.Bg rs->St B (mm++m) rs w->
  ∃m1 m2 rs',(∀r∈rs,r∈rs')/\CsIn rs' cs p.1 us m1/\OwnOk ρ rs' p.2.own m2/\St B (mm++(m1++m2)) rs' w/\OwnLe st.own p.2.own/\p.2= {st with own:=p.2.own}
 |[],[],st,p,[],mm,m,rs,h,_,h1,_,hM=>by cases h;exact⟨[],m,rs,λ_ h=>h,⟨rfl,rfl,rfl⟩,h1,hM,OwnLe.refl _,rfl⟩
 |c::cs,x::xs,st,p,u::us,mm,m,rs,h,⟨d1,d2⟩,h1,h2,hM=>by
  unfold Af5 at h;cases e:c.isNl with
  |true=>
   rw[e]at h;simp only[cond_true]at h;split at h
   ·cases d1;obtain⟨m1,m2,rs1,b,f,g,d,i,a⟩:=Avr h d2 h1 h2 hM;exact⟨m1,m2,rs1,b,.inl ⟨e,us,rfl,f⟩,g,d,i,a⟩
   ·cases h
  |false=>
  rw[e]at h;simp only[cond_false]at h;obtain⟨q,C,D⟩:=A1 h;obtain⟨z,F,G⟩:=A1 D;cases G;obtain⟨m1,m2,rs1,b,f,g,d,i,a⟩:=Bak C d1 h1 h2 hM;rw[<-Ci]at d;have k:RdsOk ρ q.2.Bg rs1:=by rw[a];exact h2.mono (Ext.refl ρ) b
  obtain⟨m3,m4,l,n,o,s,t,v,j⟩:=Avr F d2 g k d;refine⟨m1++m3,m4,l,λr H=>n r (b r H),.inr ⟨e,_,_,_,_,m1,m3,rfl,rfl,rfl,f.mono n,o⟩,s,by simpa [Ci]using t,i.trans v,?_⟩;have y:z.2.env=st.env:=by rw[j,a]
  have e2:z.2.Bg=st.Bg:=by rw[j,a]
  have A:z.2.Ak=st.Ak:=by rw[j,a]
  exact Ai.eta y e2 A
 |[],[],_,_,_::_,_,_,_,_,h,_,_,_=>h.elim
 |[],_::_,_,_,_,_,_,_,h,_,_,_,_=>by cases h
 |_::_,[],_,_,_,_,_,_,h,_,_,_,_=>by cases h
 |_::_,_::_,_,_,[],_,_,_,_,h,_,_,_=>h.elim
theorem Af6{e}:∀ {v:List VK} {st:Ai} {p:List A5×Ai} {mm m:List As} {rs:List Rd},Mv e v st=Aa p->EnvOk ρ st.env env->OwnOk ρ rs st.own m->RdsOk ρ st.Bg rs->St B (mm++m) rs w->
  ∃m1 m2 rs',(∀r∈rs,r∈rs')/\VIn ρ rs' env e v p.1 m1/\OwnOk ρ rs' p.2.own m2/\St B (mm++(m1++m2)) rs' w/\OwnLe st.own p.2.own/\p.2= {st with own:=p.2.own}
 |[],st,p,mm,m,rs,h,_,h1,_,hM=>by cases h;exact⟨[],m,rs,λ_ h=>h,⟨rfl,rfl⟩,h1,hM,OwnLe.refl _,rfl⟩
 |.slot s c::r,st,p,mm,m,rs,h,he,h1,h2,hM=>by
  unfold Mv at h;split at h
  ·rename_i x hx;obtain⟨u,u1,u2⟩:=he _ _ hx;obtain⟨q,D,F⟩:=A1 h;obtain⟨z,G,H⟩:=A1 F;cases H;obtain⟨m1,m2,rs1,R,V,W,S,X,o⟩:=Bak D u2 h1 h2 hM;rw[<-Ci]at S;have l:RdsOk ρ q.2.Bg rs1:=by rw[o];exact h2.mono (Ext.refl ρ) R
   have j:EnvOk ρ q.2.env env:=by rw[o];exact he
   obtain⟨m3,m4,d,f,y,A,n,C,a⟩:=Af6 G j W l S;refine⟨m1++m3,m4,d,λr M=>f r (R r M),⟨_,_,u,m1,m3,rfl,u1,rfl,V.mono f,y⟩,A,by simpa [Ci]using n,X.trans C,?_⟩;exact Ai.eta (by rw[a,o]) (by rw[a,o]) (by rw[a,o])
  ·cases h
 |.Qs s t::r,st,p,mm,m,rs,h,he,h1,h2,hM=>by
  unfold Mv at h;split at h
  ·rename_i K hx;obtain⟨q,D,F⟩:=A1 h;obtain⟨z,G,H⟩:=A1 F;cases H;obtain⟨P,s',m',N,k2,O⟩:=Q5 D h1;have i:St B ((mm++[oC (Ar (sz q.1.t) (fD q.1.t) q.1.L) s'.v])++m') rs w:=by simpa [Ci]using hM.z (O w).appL
   obtain⟨m3,m4,d,f,y,A,n,C,a⟩:=Af6 (st:= {st with own:=q.2}) G he k2 h2 i;refine⟨_::m3,m4,d,f,⟨K,_,_,_,s',m3,rfl,hx,N,rfl,y⟩,A,by simpa [Ci]using n,P.trans C,?_⟩;exact Ai.eta (by rw[a]) (by rw[a]) (by rw[a])
  ·cases h
 |.box s k cs::r,st,p,mm,m,rs,h,he,h1,h2,hM=>by
  unfold Mv at h;split at h
  ·rename_i K hx;obtain⟨q,D,F⟩:=A1 h;obtain⟨U,G,H⟩:=A1 F;obtain⟨z,h7,h8⟩:=A1 H;cases h8;obtain⟨g,hq⟩:=A7i D;obtain⟨P,_,b,ty,vs,m',N,k2,O,k4⟩:=T5 hq h1;have i:St B ((mm++[Cc b vs.toArray ty])++m') rs w:=by simpa [Ci]using hM.z (k4 w).appL
   obtain⟨m3,m4,d,f,y,A,n,C,a⟩:=Avr (st:= {st with own:=q.2}) G k2 O h2 i;rw[<-Ci]at n;have l:RdsOk ρ U.2.Bg d:=by rw[a];exact h2.mono (Ext.refl ρ) f
   have j:EnvOk ρ U.2.env env:=by rw[a];exact he
   obtain⟨m5,m6,Q,T,Y,c3,c4,c5,I⟩:=Af6 h7 j A l n;refine⟨Cc b vs.toArray ty::(m3++m5),m6,Q,λr M=>T r (f r M),⟨K,b,ty,_,_,vs,m3,m5,rfl,hx,N,y.mono T,rfl,Y⟩,c3,by simpa [Ci]using c4,P.trans (C.trans c5),?_⟩;exact Ai.eta (by rw[I,a]) (by rw[I,a]) (by rw[I,a])
  ·cases h
end
end
section
open Go.RowKit
section
variable {ρ ρ':List HV} {rs rs':List Rd} {B:Dn} {Af:List Rd} {st:Ai} {env:Env} {w:World} {m:List As}
theorem St.swp{a b c} (h:St B ((a++b)++c) rs w):St B (b++(a++c)) rs w:=by have:=h.perm ((Gg (l₁:=a) (l₂:=b)).append_right c);simpa [Ci]using this
theorem EnvOk.set{se} (h:EnvOk ρ se env){s u sv} (hu:lk env s=Aa u) (c:sv.Den ρ u):EnvOk ρ ((s,Aa sv)::se) env:=λt x a=>by
 simp only[Bo]at a;cases b:Ay s t with
 |true=>rw[b]at a;cases a;cases Br b;exact⟨u,hu,c⟩
 |false=>rw[b]at a;exact h t x a
structure G3 (st st':Ai):Prop where
 grow:Be st st'
 own:∀c∈st.own,c∈st'.own
theorem G3.refl st:G3 st st:=⟨Be.refl st,λ_ h=>h⟩
theorem G3.trans{a b c} (h:G3 a b) (k:G3 b c):G3 a c:=⟨h.grow.trans k.grow,λx hx=>k.own x (h.own x hx)⟩
theorem G3.one{a} c (b:a.Ak<=H9 c):G3 a {a with own:=c::a.own,Ak:=a.Ak+1}:=⟨⟨N8 _,λc' h d=>by
 rcases Bq.1 h with rfl|h
 ·omega
 ·exact⟨c',h,.inl rfl⟩,[],rfl⟩,λ_ h=>Bf _ h⟩
theorem G3.setE{a b} (h:G3 a b) e:G3 a {b with env:=e}:=⟨⟨h.grow.Ak,h.grow.own,h.grow.Bg⟩,h.own⟩
theorem Bad{c l u mm m1} (g:CIn rs c l u m1) (j:ρ.length=st.Ak) (o:OwnOk ρ rs st.own m) (p:RdsOk ρ st.Bg rs) (k:St B (mm++(m1++m)) rs w):
  ∃ρ' m',Ext ρ ρ'/\ρ'.length=(Fl c l st).2.Ak/\OwnOk ρ' rs (Fl c l st).2.own m'/\RdsOk ρ' (Fl c l st).2.Bg rs/\St B (mm++m') rs w/\(Fl c l st).1.Den ρ' u/\G3 st (Fl c l st).2/\(Fl c l st).2.env=st.env:=by
 have own:∀(l:A5),CIn rs (.row (.b 0)) l u m1->∃ρ' m',Ext ρ ρ'/\ρ'.length=(Fl (.row (.b 0)) l st).2.Ak/\OwnOk ρ' rs (Fl (.row (.b 0)) l st).2.own m'/\RdsOk ρ' (Fl (.row (.b 0)) l st).2.Bg rs/\St B (mm++m') rs w/\(Fl (.row (.b 0)) l st).1.Den ρ' u/\G3 st (Fl (.row (.b 0)) l st).2/\(Fl (.row (.b 0)) l st).2.env=st.env:=λl g=>by
  have D:m1=[oC l.ce u]:=g;subst D;have f:St B (oC l.ce u::(mm++m)) rs w:=k.perm Ct;have sc:∀(y:Cell) (v:Value) (H:v.oneCell'=true),l.ce=cV v H->(∀ρ,y.Den ρ v)->Fl (.row (.b 0)) l st=(y,st)->∃ρ' m',Ext ρ ρ'/\ρ'.length=(Fl (.row (.b 0)) l st).2.Ak/\OwnOk ρ' rs (Fl (.row (.b 0)) l st).2.own m'/\RdsOk ρ' (Fl (.row (.b 0)) l st).2.Bg rs/\St B (mm++m') rs w/\(Fl (.row (.b 0)) l st).1.Den ρ' u/\G3 st (Fl (.row (.b 0)) l st).2/\(Fl (.row (.b 0)) l st).2.env=st.env:=λy v H M N e=>by rw[M]at f;obtain⟨rfl,d⟩:=f.valV;rw[e];exact⟨ρ,m,Ext.refl ρ,j,o,p,d,N ρ,G3.refl st,rfl⟩
  cases l with
  |i y=>exact sc (.i .i64 y) _ rfl rfl (λ_=>rfl) rfl
  |b y=>exact sc (.b y) _ rfl rfl (λ_=>rfl) rfl
  |s y=>exact sc (.s y) _ rfl rfl (λ_=>rfl) rfl
  |y y=>exact sc (.y y) _ rfl rfl (λ_=>rfl) rfl
  |sl t L=>obtain⟨s,rfl,d⟩:=f.valS;have hx:=Ext.one ρ (.row s);have a:=Gn ρ (.row s);rw[j]at a;have C:St B (mm++(oV (oC (Ar (sz t) (fD t) L) s.v) []::m)) rs w:=(d.z Z.toV).perm Ct.symm;exact⟨ρ++[.row s],oV (oC (Ar (sz t) (fD t) L) s.v) []::m,hx,by simp[Fl,j],⟨⟨s,[],a,rfl,rfl⟩,OwnOk.mono hx (λ_ h=>h) o⟩,p.mono hx λ_ h=>h,C,⟨s,a,rfl⟩,G3.one _ (Ef _),rfl⟩
 cases c with
 |ro t=>
  obtain⟨rfl,I,L,rfl,q⟩:=g;obtain⟨s,e⟩:=Cs.sv (k.seeR q);subst e;have hx:=Ext.one ρ (.row s);have a:=Gn ρ (.row s);rw[j]at a;refine⟨ρ++[.row s],m,hx,by simp[Fl,j],OwnOk.mono hx (λ_ h=>h) o,λx G=>?_,k,⟨s,a,rfl⟩,⟨⟨N8 _,λc' h _=>⟨c',h,.inl rfl⟩,[_],rfl⟩,λ_ h=>h⟩,rfl⟩;rcases Bq.1 G with rfl|G
  ·exact⟨_,q,s,a,rfl⟩
  ·obtain⟨r,O,P⟩:=p x G;exact⟨r,O,P.mono hx⟩
 |C9 t=>
  obtain⟨I,L,xs,rfl,rfl,q⟩:=g
  obtain⟨s,e⟩:∃s:Sv,u=s.v:=by
   obtain⟨F,_,_,K⟩:=k.at' (F5 _ (Hv _ (Bm ..)));rcases K with⟨A,_⟩|⟨b,off,cap,_,_,_,A,_⟩
   ·exact⟨nS,A⟩
   ·exact⟨⟨Aa ⟨b,off,Ab⟩,L.length,cap⟩,A⟩
  subst e;have hx:=Ext.one ρ (.row s);have a:=Gn ρ (.row s);rw[j]at a;exact⟨ρ++[.row s],Cx (sz I) s.v L.length xs::m,hx,by simp[Fl,j],⟨⟨s,xs,a,rfl,q⟩,OwnOk.mono hx (λ_ h=>h) o⟩,p.mono hx λ_ h=>h,k,⟨s,a,rfl⟩,G3.one _ (Ef _),rfl⟩
 |sc n=>
  have e:Fl (.sc n) l st=Fl (.row (.b 0)) l st:=by cases l<;>rfl
  rw[e];exact own l g
 |nl=>
  have e:Fl .nl l st=Fl (.row (.b 0)) l st:=by cases l<;>rfl
  rw[e];exact own l g
 |row t=>
  have e:Fl (.row t) l st=Fl (.row (.b 0)) l st:=by cases l<;>rfl
  rw[e];exact own l g
theorem Avj:∀ {cs:List CT} {ls:List A5} {us:List Value} {st:Ai} {ρ:List HV} {mm m1 m:List As},CsIn rs cs ls us m1->ρ.length=st.Ak->OwnOk ρ rs st.own m->RdsOk ρ st.Bg rs->St B (mm++(m1++m)) rs w->
  ∃ρ' m',Ext ρ ρ'/\ρ'.length=(G4 cs ls st).2.Ak/\OwnOk ρ' rs (G4 cs ls st).2.own m'/\RdsOk ρ' (G4 cs ls st).2.Bg rs/\St B (mm++m') rs w/\All2 (Cell.Den ρ') (G4 cs ls st).1 us/\G3 st (G4 cs ls st).2/\(G4 cs ls st).2.env=st.env
 |[],_,_,st,ρ,mm,_,m,⟨rfl,rfl,rfl⟩,hn,h1,h2,hM=>⟨ρ,m,Ext.refl ρ,hn,h1,h2,hM,trivial,G3.refl st,rfl⟩
 |c::cs,ls,_,st,ρ,mm,m1,m,.inl ⟨h0,u',rfl,hcs⟩,hn,h1,h2,hM=>by
  obtain⟨a,m4,b,d,f,g,h,i,j,k⟩:=Avj hcs hn h1 h2 hM;have e:G4 (c::cs) ls st=(.nil::(G4 cs ls st).1,(G4 cs ls st).2):=by simp only[G4,h0,cond_true]
  rw[e];exact⟨a,m4,b,d,f,g,h,⟨rfl,i⟩,j,k⟩
 |c::cs,_,_,st,ρ,mm,_,m,.inr ⟨h0,l,l',u,u',m1,m2,rfl,rfl,rfl,hc,hcs⟩,hn,h1,h2,hM=>by
  have e:G4 (c::cs) (l::l') st=((Fl c l st).1::(G4 cs l' (Fl c l st).2).1,(G4 cs l' (Fl c l st).2).2):=by simp only[G4,h0,cond_false]
  rw[e]
  have n:St B ((mm++m2)++(m1++m)) rs w:=hM.perm (by
   rw[Ci mm m2];exact List.Perm.append_left mm (by simpa [Ci]using (Gg (l₁:=m1) (l₂:=m2)).append_right m))
  obtain⟨y,m3,p,q,r,s,o,t,v,x⟩:=Bad hc hn h1 h2 n;rw[Ci]at o;obtain⟨a,m4,b,d,f,g,h,i,j,k⟩:=Avj hcs q r s o;exact⟨a,m4,p.trans b,d,f,g,h,⟨t.mono b,i⟩,v.trans j,k.trans x⟩
theorem Al3{e}:∀ {v:List VK} {ls:List A5} {st:Ai} {ρ:List HV} {m1 m:List As},VIn ρ rs env e v ls m1->EnvOk ρ st.env env->ρ.length=st.Ak->OwnOk ρ rs st.own m->RdsOk ρ st.Bg rs->(∀r∈Af,r∈rs)->St B (m1++m) rs w->
  ∃ρ',Ext ρ ρ'/\Sat B Af ρ' (Ko e v ls st) env w/\G3 st (Ko e v ls st)/\∀t,Bn (Cz v) t=false->Bo (Ko e v ls st).env t=Bo st.env t
 |[],ls,st,ρ,_,m,⟨H,e2⟩,he,hn,h1,h2,h3,hM=>by subst H e2;exact⟨ρ,Ext.refl ρ,⟨hn,he,m,rs,h1,h2,h3,hM⟩,G3.refl st,λ_ _=>rfl⟩
 |.slot s c::r,_,st,ρ,_,m,⟨l,l',u,m1,m2,rfl,hu,rfl,hc,hr⟩,he,hn,h1,h2,h3,hM=>by obtain⟨i,m3,d,y,A,C,D,F,G,j⟩:=Bad hc hn h1 h2 hM.swp;have M:EnvOk i ((Fl c l st).2.put s (.v (.c (Fl c l st).1))).env env:=EnvOk.set (by rw[j];exact he.mono d) hu F;obtain⟨a,n,o,p,x⟩:=Al3 (st:=(Fl c l st).2.put s (.v (.c (Fl c l st).1))) (hr.mono d λ_ h=>h) M y A C h3 D;refine⟨a,d.trans n,o,(G.setE _).trans p,λt g=>?_⟩;simp only[Cz,Bn,Il]at g;show Bo (Ko e r l' _).env t=_;rw[x t g.2];show(bif Ay s t then _ else Bo (Fl c l st).2.env t)=_;rw[g.1,j];rfl
 |.Qs s t::r,_,st,ρ,_,m,⟨h,t',L,l',q,m2,rfl,hs,hq,rfl,hr⟩,he,hn,h1,h2,h3,hM=>by
  have hx:=Ext.one ρ (.num 0);have f:St B (m2++(oV (oC (Ar (sz t') (fD t') L) q.v) []::m)) rs w:=(hM.z Z.toV).perm Ct.symm;obtain⟨a,n,o,p,x⟩:=Al3 (e:=e) (v:=r) (ls:=l') (st:= {st with own:=.row h st.Ak t' L []::st.own,Ak:=st.Ak+1}) (m:=_::m) (hr.mono hx λ_ h=>h) (he.mono hx) (by simp[hn]) ⟨⟨q,[],hx.get hq,rfl,rfl⟩,OwnOk.mono hx (λ_ h=>h) h1⟩ (h2.mono hx λ_ h=>h) h3 f;have I:Ko e (.Qs s t::r) (.sl t' L::l') st=Ko e r l' {st with own:=.row h st.Ak t' L []::st.own,Ak:=st.Ak+1}:=by simp only[Ko,hs]
  rw[I];exact⟨a,hx.trans n,o,G3.trans (G3.one _ (Ef _)) p,λt g=>x t g⟩
 |.box s k cs::r,_,st,ρ,_,m,⟨h,b,ty,l1,l2,us,m1,m2,rfl,hs,hb,hc,rfl,hr⟩,he,hn,h1,h2,h3,hM=>by
  have K:St B ((Cc b us.toArray ty::m2)++(m1++m)) rs w:=by
   have:=hM.perm (m:=Cc b us.toArray ty::(m1++m2)++m) (m':=(Cc b us.toArray ty::m2)++(m1++m)) (by
    simp only[Fi];exact List.Perm.cons _ (by simpa [Ci]using (Gg (l₁:=m1) (l₂:=m2)).append_right m))
   exact this
  obtain⟨i,m3,d,y,A,C,D,F,G,j⟩:=Avj hc hn h1 h2 K;have hx:=Ext.one i (.num 0);have f:St B (m2++(Cc b us.toArray ty::m3)) rs w:=D.perm Ct.symm;obtain⟨a,n,o,p,x⟩:=Al3 (e:=e) (v:=r) (ls:=l2) (st:= {(G4 cs l1 st).2 with own:=.box h (G4 cs l1 st).2.Ak (G4 cs l1 st).1::(G4 cs l1 st).2.own,Ak:=(G4 cs l1 st).2.Ak+1}) (m:=_::m3) (hr.mono (d.trans hx) λ_ h=>h) (by show EnvOk _ (G4 cs l1 st).2.env env;rw[j];exact he.mono (d.trans hx)) (by simp[y]) ⟨⟨b,ty,us,(d.trans hx).get hb,F.mono λ_ _=>Cell.Den.mono hx,rfl⟩,OwnOk.mono hx (λ_ h=>h) A⟩ (C.mono hx λ_ h=>h) h3 f;have H:(l1++l2).take (S4 cs).length=l1:=by rw[<-hc.len];simp
  have e2:(l1++l2).drop (S4 cs).length=l2:=by rw[<-hc.len];simp
  have I:Ko e (.box s k cs::r) (l1++l2) st=Ko e r l2 {(G4 cs l1 st).2 with own:=.box h (G4 cs l1 st).2.Ak (G4 cs l1 st).1::(G4 cs l1 st).2.own,Ak:=(G4 cs l1 st).2.Ak+1}:=by simp only[Ko,hs,H,e2]
  rw[I];refine⟨a,d.trans (hx.trans n),o,G.trans (G3.trans (G3.one _ (Ef _)) p),λt g=>?_⟩;rw[x t g];show Bo (G4 cs l1 st).2.env t=_;rw[j]
theorem ViewsAre.tail{s t L}:∀ {ex vs:List View} {l:List Vi},ViewsAre ρ s t L (ex++vs) l->∃c d,l=c++d/\ViewsAre ρ s t L vs d
 |[],_,l,h=>⟨[],l,rfl,h⟩
 |_::ex,vs,l,⟨c,d,e,_,h⟩=>by obtain⟨a,b,f,g⟩:=ViewsAre.tail (ex:=ex) h;exact⟨c++a,b,by rw[e,f,Ci],g⟩
theorem ViewsAre.back (hx:Ext ρ ρ'){s t L}:∀ {vs:List View} {l a:List Vi},ViewsAre ρ' s t L vs l->ViewsAre ρ s t L vs a->ViewsAre ρ s t L vs l
 |[],_,_,h,_=>h
 |_::_,_,_,⟨l1,l2,e,⟨s',ex,h1,h2⟩,h3⟩,⟨_,_,_,⟨s0,_,k1,_⟩,k3⟩=>⟨l1,l2,e,⟨s',ex,hx.back h1 k1,h2⟩,ViewsAre.back hx h3 k3⟩
theorem Chunk.Is.back (hx:Ext ρ ρ') {c:Chunk}{z z0 rs0} (h:c.Is ρ' rs z) (p:c.Is ρ rs0 z0):c.Is ρ rs z:=by
 cases c with
 |box k g cs=>obtain⟨b,e,vs,f,l,n⟩:=h;obtain⟨C,D,y,d,k2,_⟩:=p;exact⟨b,e,vs,hx.back f d,l.back (λ_ _ _ a c=>a.back hx c) k2,n⟩
 |row k g t L vs=>obtain⟨q,v,f,l,n⟩:=h;obtain⟨s,x,d,k2,_⟩:=p;have r:=hx.back f d;rw[d]at r;cases r;exact⟨q,v,d,l.back hx k2,n⟩
 |C9 k g t L=>obtain⟨q,xs,f,l,n⟩:=h;obtain⟨s,A,d,_,_⟩:=p;exact⟨q,xs,hx.back f d,l,n⟩
 |El k g t L i j o=>obtain⟨q,u,f,l,n⟩:=h;obtain⟨s,_,d,k2,_⟩:=p;exact⟨q,u,hx.back f d,hx.back l k2,n⟩
 |rem k g t L i=>obtain⟨q,f,l⟩:=h;obtain⟨s,d,_⟩:=p;exact⟨q,hx.back f d,l⟩
theorem View.Rd.back (hx:Ext ρ ρ') {x:View}{r r0} (h:x.Rd ρ' r) (a:x.Rd ρ r0):x.Rd ρ r:=by obtain⟨q,b,c⟩:=h;obtain⟨e,d,_⟩:=a;exact⟨q,hx.back b d,c⟩
theorem RdsOk.back (hx:Ext ρ ρ'){Bg rs0} (h:RdsOk ρ' Bg rs) (b:RdsOk ρ Bg rs0):RdsOk ρ Bg rs:=λx a=>by obtain⟨r,c,d⟩:=h x a;obtain⟨e,_,k2⟩:=b x a;exact⟨r,c,View.Rd.back hx d k2⟩
theorem Z.fewV{o v1 b}:Z w [oV o (v1++b)] [oV o b]:=λF i=>by obtain⟨d,F1,c,a,e,f,g,h⟩:=i;exact⟨d,F1,c,⟨a.1,λx hx=>a.2 x (F5 _ hx)⟩,e,f,g,h⟩
theorem Chunk.Le.back (hx:Ext ρ ρ') {a b:Chunk} (n:a.Le b){z z0 rs0} (h:b.Is ρ' rs z) (c:a.Is ρ rs0 z0):∃e,a.Is ρ rs e/\∀w,Z w [z] [e]:=by
 rcases n with rfl|⟨k,g,t,L,vs,ex,rfl,rfl⟩
 ·exact⟨z,h.back hx c,λw=>zI⟩
 ·obtain⟨q,p,i,j,rfl⟩:=h;obtain⟨o,d,rfl,l⟩:=j.tail;have f:(Chunk.row k g t L vs).Is ρ' rs (oV (oC (Ar (sz t) (fD t) L) q.v) d):=⟨q,d,i,l,rfl⟩;exact⟨_,f.back hx c,λw=>Z.fewV⟩
theorem Apo (hx:Ext ρ ρ'):∀ {own base:List Chunk} {m m0:List As} {d:List Rd},Ox base own=true->OwnOk ρ' rs own m->OwnOk ρ d base m0->(∀a∈base,∀b∈own,H9 a=H9 b->a.Le b)->∃m',OwnOk ρ rs base m'/\∀w,Z w m m'
 |own,[],m,m0,d,_,_,_,_=>⟨[],trivial,λw F g=>by
   have n:∀ {m:List As} {F:Bs},Sep m F w->Sep [] F w:=λ{m}=>by
    induction m with
    |nil=>exactλh=>h
    |cons a m o=>exactλh=>o h.tail
   exact n g⟩
 |[],_::_,_,_,_,h,_,_,_=>by cases h
 |b::own,a::base,z::m,z0::m0,d,h,⟨h1,h2⟩,⟨k1,k2⟩,hle=>by
  simp only[Ox]at h;cases i:Ay (H9 a) (H9 b)with
  |true=>rw[i]at h;obtain⟨p,k,l⟩:=(hle a (Bm ..) b (Bm ..) (Br i)).back hx h1 k1;obtain⟨m',e,f⟩:=Apo hx h h2 k2 λx hx y j=>hle x (Bf _ hx) y (Bf _ j);exact⟨p::m',⟨k,e⟩,λw=>(Z.app (c:=m) (l w)).trans (f w).cons⟩
  |false=>rw[i]at h;obtain⟨m',e,f⟩:=Apo hx (base:=a::base) (m0:=z0::m0) h h2 ⟨k1,k2⟩ λx hx y j=>hle x hx y (Bf _ j);exact⟨m',e,λw F g=>f w F g.tail⟩
 |_::_,_::_,[],_,_,_,h,_,_=>h.elim
 |_::_,_::_,_::_,[],_,_,_,h,_=>h.elim
end
end
section
open Go.RowKit
section
variable {P:Program} {n:Nat} {env:Env} {w:World} {Q:Post}
def lpE {α:Type} (b:α->Env->World->Prop) (a:α->Nat) (x:α) (Q:Post):Post
 |.normal,env,w=>∃y,a y<a x/\b y env w
 |e,env,w=>Q e env w
theorem Bit{α} o q (x0:α){c} (v:o x0 env w)
  (G:∀x env w,o x env w->WC P n c (lpE o q x Q) env w):WC P n (.loop c) Q env w:=by
 intro a D b k cs
 have i:∀m x a env w,q x=m->Has n a env->o x env w->
   ∃e j w',Sh n Q e j w'/\Arrives P (lone (b.at a (.code c::.inLoop c::k)) cs w) b k cs e j w':=by
  intro m;induction m using A6t with
  |_ m I=>
   intro x a env w F z A;obtain⟨e,s,t,⟨f,h,l⟩,d⟩:=G x env w A a z b (.inLoop c::k) cs;cases e with
   |normal=>obtain⟨y,H,hΦ⟩:=l;obtain⟨e2,u,L,p,g⟩:=I (q y) (F▸H) y s f t rfl h hΦ;exact⟨e2,u,L,p,.of_steps (Steps.trans d (.one step_inLoop)) g⟩
   |_=>exact⟨_,s,t,⟨f,h,l⟩,.pass (x:=.inLoop c) rfl (λ_ _=>.inl (by simp)) d⟩
 obtain⟨e,j,w',l,d⟩:=i _ x0 a env w rfl D v;exact⟨e,j,w',l,.of_steps (.one step_loop) d⟩
end
section
variable {ρ ρ':List HV} {rs rs':List Rd} {B:Dn} {Af:List Rd} {st:Ai} {env:Env} {w:World} {m:List As}
theorem Ah7:∀ {ts:List Ty} {ls:List (List A5)} {x:Tup ts},Xs ts ls=Aa x->Nf ts x=ls
 |[],[],_,_=>rfl
 |[a],[l],x,h=>by exact congrArg (λz=>[z]) (Ic (t:=a) (l:=l) (x:=x) h)
 |a::b::r,l::ls,x,h=>by have c:Ac (mk a l) (λx=>Ac (Xs (b::r) ls) λy=>Aa (x,y))=Aa x:=h;obtain⟨y,d,e⟩:=Tu.1 c;obtain⟨z,f,g⟩:=Tu.1 e;have i:=Ah7 f;have j:=Ic d;have k:(y,z)=x:=D1.inj g;subst k;exact(congrArg (λu=>u::Nf (b::r) z) j).trans (congrArg (λu=>l::u) i)
 |[],_::_,_,h=>by cases h
 |[_],[],_,h=>by cases h
 |[_],_::_::_,_,h=>by cases h
 |_::_::_,[],_,h=>by cases h
theorem Ap3:∀ {ls:List A5},S5 (Z8 ls)=ls
 |[]=>rfl
 |l::ls=>by simp[Z8,S5,Ap3 (ls:=ls)]
theorem Wt{wl t sv}:∀ {e:List (Nat×Option SV)},Bo (Dp wl e) t=Aa sv->Bn wl t=false/\Bo e t=Aa sv
 |[],h=>by cases h
 |(k,v)::r,h=>by
  simp only[Dp]at h;cases c:Bn wl k with
  |true=>
   rw[c]at h;have b:=Wt (e:=r) h;refine⟨b.1,?_⟩;cases a:Ay k t with
   |true=>cases Br a;rw[c]at b;cases b.1
   |false=>simp only[Bo,a,cond_false];exact b.2
  |false=>
   rw[c]at h;simp only[cond_false,Bo]at h;cases a:Ay k t with
   |true=>rw[a]at h;cases Br a;exact⟨c,by simp only[Bo,a,cond_true];exact h⟩
   |false=>rw[a]at h;have b:=Wt (e:=r) h;exact⟨b.1,by simp only[Bo,a,cond_false];exact b.2⟩
theorem Bhe{wl t}:∀ {l:List Nat},S1 wl l=true->Bn wl t=false->Bn l t=false
 |[],_,_=>rfl
 |a::l,h,ht=>by
  simp only[S1,A9]at h;simp only[Bn,Il];refine⟨?_,Bhe h.2 ht⟩;cases b:Ay a t with
  |false=>rfl
  |true=>cases Br b;rw[h.1]at ht;cases ht
theorem A02{e t sv}:∀ {b:List (Nat×Option SV)},Ahw e b=true->Bo b t=Aa sv->∃c,Bo e t=Aa c
 |[],_,h=>by cases h
 |(k,Aa x)::r,hs,h=>by
  simp only[Ahw,A9]at hs;simp only[Bo]at h;cases a:Ay k t with
  |true=>
   cases Br a;have:=hs.1;split at this
   ·rename_i x hx;exact⟨x,hx⟩
   ·cases this
  |false=>rw[a]at h;exact A02 hs.2 h
 |(k,Ab)::r,hs,h=>by
  simp only[Bo]at h;cases a:Ay k t with
  |true=>rw[a]at h;cases h
  |false=>rw[a]at h;exact A02 (b:=r) hs h
theorem Av8{a}:∀ {own:List Chunk},a∈own->Bn (Uk own) (H9 a)=true
 |b::r,h=>by
  simp only[Uk,Bn,Ha];rcases Bq.1 h with rfl|h
  ·exact .inl (Atl _)
  ·exact .inr (Av8 h)
theorem Amn{a c}:∀ {own:List Chunk},W0 (Uk own)=true->a∈own->c∈own->H9 a=H9 c->a=c
 |b::r,hn,ha,hc,e=>by
  simp only[Uk,W0,A9,L2]at hn;rcases Bq.1 ha with d|d<;>rcases Bq.1 hc with f|f
  ·rw[d,f]
  ·have:=Av8 f;rw[<-e,d,hn.1]at this;cases this
  ·have:=Av8 d;rw[e,f,hn.1]at this;cases this
  ·exact Amn hn.2 d f e
theorem Ano{k a}:∀ {own:List Chunk},Ann k (Uk own)=true->a∈own->H9 a<k
 |b::r,h,c=>by
  simp only[Uk,Ann,A9]at h;rcases Bq.1 c with rfl|c
  ·simpa using h.1
  ·exact Ano h.2 c
structure Inv (B:Dn) (Af:List Rd) (ρ:List HV) (base:Ai) (v:List VK) (ls:List A5) (env:Env) (w:World):Prop where
 len:ρ.length=base.Ak
 Hw:EnvOk ρ base.env env
 mem:∃m1 m2 rs,VIn ρ rs env base.env v ls m1/\OwnOk ρ rs base.own m2/\RdsOk ρ base.Bg rs/\(∀r∈Af,r∈rs)/\St B (m1++m2) rs w
theorem Inv.enter (a:Sat B Af ρ st env w){e v p} (h:Mv e v st=Aa p) (s:∀t sv,Bo e t=Aa sv->Bo st.env t=Aa sv):
  Inv B Af ρ {p.2 with env:=e} v p.1 env w/\(∀c∈p.2.own,c∈st.own)/\p.2= {st with own:=p.2.own}:=by
 obtain⟨m,rs,l,f,o,q⟩:=a.mem;obtain⟨m1,m2,rs',d,g,i,j,k,b⟩:=Af6 (mm:=[]) h a.env l f q;refine⟨⟨?_,λt sv x=>a.env t sv (s t sv x),m1,m2,rs',g,i,?_,λr u=>d r (o r u),j⟩,k,b⟩
 ·show ρ.length=p.2.Ak;rw[b];exact a.len
 ·show RdsOk ρ p.2.Bg rs';rw[b];exact f.mono (Ext.refl ρ) d
theorem Inv.M9{base v ls} (h:Inv B Af ρ base v ls env w):∃ρ',Ext ρ ρ'/\Sat B Af ρ' (Ko base.env v ls base) env w/\G3 base (Ko base.env v ls base)/\∀t,Bn (Cz v) t=false->Bo (Ko base.env v ls base).env t=Bo base.env t:=by obtain⟨m1,m2,rs,a,b,c,d,e⟩:=h.mem;exact Al3 a h.Hw h.len b c d e
theorem Inv.put{base v ls} (h:Inv B Af ρ base v ls env w){d u} (c:Bn (Cz v) d=false) (f:Bo base.env d=Ab):Inv B Af ρ base v ls ((d,u)::env) w:=by
 have b:∀t,t≠d->lk ((d,u)::env) t=lk env t:=λt a=>by simp only[lk];rw[Nl (Ne.symm a)];rfl
 obtain⟨m1,m2,rs,i,k2,j,k,g⟩:=h.mem;refine⟨h.len,λt sv a=>?_,m1,m2,rs,i.inEnv λt a=>b t λe=>?_,k2,j,k,g⟩
 ·rw[b t λe=>by rw[e,f]at a;cases a];exact h.Hw t sv a
 ·rw[e,c]at a;cases a
theorem Inv.back{base s1 d v ls0 env0 env' w0 w' y} (l:Inv B Af ρ base v ls0 env0 w0) (h:J8 s1=true) (f:∀a∈base.own,a∈s1.own)
  (i:Sat B Af ρ' d env' w') (hx:Ext ρ ρ') (hg:Be s1 d) (D:∃x,d.Bg=x++base.Bg) (hE:∀t sv,Bo base.env t=Aa sv->Bo d.env t=Ab\/Bo d.env t=Aa sv) (M:Ho v base d=Aa y):
  Inv B Af ρ base v (S5 (Nf _ y)) env' w':=by
 unfold Ho at M;obtain⟨p,h1,k⟩:=A1 M;have o:=(bt k).1;replace k:=(bt k).2;rw[Ah7 k,Ap3];simp only[A9]at o;obtain⟨m0,c0,k1,k2,k3,hM⟩:=i.mem;obtain⟨m1,m2,rs1,I,O,S,T,U,a6⟩:=Af6 (mm:=[]) h1 i.env k1 k2 hM;obtain⟨_,b7,c3,_,V,W,_,_⟩:=l.mem
 have he:EnvOk ρ base.env env':=λt sv F=>by
  obtain⟨c4,N⟩:=A02 o.2 F;rcases hE t sv F with q|q
  ·rw[q]at N;cases N
  ·obtain⟨u,u1,u2⟩:=i.env t sv q;obtain⟨u0,_,u3⟩:=l.Hw t sv F;exact⟨u,u1,u2.back hx u3⟩
 simp only[J8,A9]at h;obtain⟨H,X,Y⟩:=Apo (rs:=rs1) hx o.1 S V λa L b s e=>by have A:=U b s;obtain⟨c,g1,g2⟩:=hg.own b A (by rw[<-e];exact Ano h.2 (f a L));rw[Amn h.1 (f a L) g1 (by rw[e,g2.g])];exact g2
 obtain⟨x,G⟩:=D
 have j:RdsOk ρ base.Bg rs1:=by
  have q:RdsOk ρ' base.Bg rs1:=λz hz=>by obtain⟨r,r1,r2⟩:=k2 z (by rw[G];exact F5 _ hz);exact⟨r,I r r1,r2⟩
  exact q.back hx W
 exact⟨l.len,he,m1,H,rs1,O.back hx l.Hw,X,j,λr hr=>I r (k3 r hr),(show St B (m1++m2) rs1 w' from T).z (Y w').appL⟩
def Bw6:Option Nat->Exit
 |none=>.normal
 |some i=>.exit i
def Fr (l:List Nat) (st a:Ai):Prop:=∀t,Bn l t=false->Bo a.env t=Ab\/Bo a.env t=Bo st.env t
theorem Fr.refl l st:Fr l st st:=λ_ _=>.inr rfl
theorem Fr.trans{l a b c} (h:Fr l a b) (k:Fr l b c):Fr l a c:=λt d=>by
 rcases k t d with k|k
 ·exact .inl k
 ·rw[k];exact h t d
theorem Fr.mono{l l' a b} (h:Fr l a b) (c:∀t,Bn l' t=false->Bn l t=false):Fr l' a b:=λt d=>h t (c t d)
structure Nx (B:Dn) (Af:List Rd) (l:List Nat) (ρ:List HV) (st:Ai) (ρ':List HV) (st':Ai) (env':Env) (w':World):Prop where
 M9:Sat B Af ρ' st' env' w'
 ext:Ext ρ ρ'
 grow:Be st st'
 fr:Fr l st st'
theorem Nx.trans{l ρ1 a s1 s2 e1 e2 w1 w2} (h:Nx B Af l ρ st ρ1 s1 e1 w1) (k:Nx B Af l ρ1 s1 a s2 e2 w2):Nx B Af l ρ st a s2 e2 w2:=⟨k.M9,h.ext.trans k.ext,h.grow.trans k.grow,h.fr.trans k.fr⟩
theorem Nx.mono{l l' ρ1 s1 e1 w1} (h:Nx B Af l ρ st ρ1 s1 e1 w1) (a:∀t,Bn l' t=false->Bn l t=false):Nx B Af l' ρ st ρ1 s1 e1 w1:=⟨h.M9,h.ext,h.grow,h.fr.mono a⟩
theorem Nx.refl{l} (h:Sat B Af ρ st env w):Nx B Af l ρ st ρ st env w:=⟨h,Ext.refl ρ,Be.refl st,Fr.refl l st⟩
abbrev KOk (B:Dn) (Af:List Rd) (l:List Nat) (ρ:List HV) (st:Ai) {R:Type} (K:Option Nat->Ai->Option R) (r:R) (Q:Post):Prop:=∀e st' ρ' env' w',K e st'=Aa r->Nx B Af l ρ st ρ' st' env' w'->Q (Bw6 e) env' w'
abbrev ROk (B:Dn) (Af:List Rd) (ρ:List HV) (st:Ai) {R0 R:Type} (De:Ai->Option R0) (rt:R0->Option R) (r:R) (Q:Post):Prop:=∀st' r0 ρ' env' w',De st'=Aa r0->rt r0=Aa r->Sat B Af ρ' st' env' w'->Ext ρ ρ'->Be st st'->Q .ret env' w'
def RunOk (B:Dn) (Af:List Rd) (C:Es) {R0:Type} (De:Ai->Option R0) (c:Code):Prop:=
 ∀(R:Type) (b:Nat) (st:Ai) (rt:R0->Option R) (K:Option Nat->Ai->Option R) (r:R) (ρ:List HV) (env:Env) (w:World) (Q:Post),
  run C De c b st rt K=Aa r->Sat B Af ρ st env w->KOk B Af (wr c) ρ st K r Q->ROk B Af ρ st De rt r Q->WC prog C.n c Q env w
variable {C:Es} {R0 R:Type} {De:Ai->Option R0} {rt:R0->Option R} {K:Option Nat->Ai->Option R} {r:R} {Q:Post}
theorem B7x{a c} (H:RunOk B Af C De a) (I:RunOk B Af C De c):RunOk B Af C De (.seq a c):=λR b st rt K r ρ env w Q h L F G=>by
 refine Ir (H R b st rt _ r ρ env w _ h L (λe g ρ' d w' D p=>?_) λg z ρ' d w' q o s u v=>G g z ρ' d w' q o s u v);have x:∀t,Bn (wr (.seq a c)) t=false->Bn (wr a) t=false/\Bn (wr c) t=false:=λt j=>by simpa [wr,Mb]using j
 cases e with
 |some i=>exact F (Aa i) g ρ' d w' D (p.mono λt j=>(x t j).1)
 |none=>show WC _ _ c Q d w';refine I R b g rt K r ρ' d w' Q D p.M9 (λe k l f A o y=>F e k l f A o ((p.mono λt j=>(x t j).1).trans (y.mono λt j=>(x t j).2))) λk z l f A q o s u v=>G k z l f A q o s (p.ext.trans u) (p.grow.trans v)
theorem Bry{i c} (v:RunOk B Af C De c):RunOk B Af C De (.block i c):=λR b st rt K r ρ env w Q h x g u=>by
 refine Cdj (v R i st rt _ r ρ env w _ h x (λe d ρ' a w' f k=>?_) λd y ρ' a w' o p q s t=>u d y ρ' a w' o p q s t);cases e with
 |none=>exact g Ab d ρ' a w' f k
 |some j=>
  show(bif Ay j i then Q .normal a w' else Q (.exit j) a w');simp only[A7y]at f;cases l:Ay j i with
  |true=>rw[l]at f;exact g Ab d ρ' a w' f k
  |false=>rw[l]at f;exact g (Aa j) d ρ' a w' f k
theorem Amy{v wl ls} {p:List A5×Ai}{env' w'} (k:∀c∈p.2.own,c∈st.own) (f:p.2= {st with own:=p.2.own}) (d:S1 wl (Cz v)=true)
  (e:Inv B Af ρ {p.2 with env:=Dp (Cz v++wl) st.env} v ls env' w'):∃a,Nx B Af wl ρ st a (Ko (Dp (Cz v++wl) st.env) v ls {p.2 with env:=Dp (Cz v++wl) st.env}) env' w':=by
 obtain⟨a,g,h,i,j⟩:=e.M9;refine⟨a,h,g,Be.trans (b:= {p.2 with env:=Dp (Cz v++wl) st.env}) ⟨?_,?_,?_⟩ i.grow,λt q=>?_⟩
 ·show st.Ak<=p.2.Ak;rw[f];exact Ef _
 ·exactλc l _=>⟨c,k c l,.inl rfl⟩
 ·show∃x,p.2.Bg=x++st.Bg;rw[f];exact⟨[],rfl⟩
 ·rw[j t (Bhe d q)];show Bo (Dp (Cz v++wl) st.env) t=Ab\/Bo (Dp (Cz v++wl) st.env) t=_;cases o:Bo (Dp (Cz v++wl) st.env) t with
  |none=>exact .inl rfl
  |some sv=>exact .inr (Wt o).2.symm
theorem Agi{v wl t sv e} (a:Bo (Dp (Cz v++wl) e) t=Aa sv):Bn (Cz v) t=false/\Bn wl t=false:=by have:=(Wt a).1;rwa [Mb,Il]at this
theorem B1v{v wl p y} (k:Sat B Af ρ st env w) (j:Mv (Dp (Cz v++wl) st.env) v st=Aa p) (e:J8 st=true) (b:S1 wl (Cz v)=true){st' env' w'} (a:Nx B Af wl ρ st ρ' st' env' w') (l:Ho v {p.2 with env:=Dp (Cz v++wl) st.env} st'=Aa y):
  ∃f,Nx B Af wl ρ st f (Hn v y {p.2 with env:=Dp (Cz v++wl) st.env}) env' w':=by
 obtain⟨i,g,h⟩:=Inv.enter k j λt sv c=>(Wt c).2
 have d:=i.back (s1:=st) e g a.M9 a.ext a.grow (by
  show∃x,st'.Bg=x++p.2.Bg;rw[h];exact a.grow.Bg) (λt sv c=>by
  rcases a.fr t (Agi c).2 with q|q
  ·exact .inl q
  ·exact .inr (by rw[q];exact(Wt c).2)) l
 exact Amy g h b d
theorem Am2{a} (S:RunOk B Af C De a){b wl} (D:∀t,Bn wl t=false->Bn (wr a) t=false){v p} (H:Sat B Af ρ st env w) (U:Mv (Dp (Cz v++wl) st.env) v st=Aa p) (A:J8 st=true) (i:S1 wl (Cz v)=true){R1} {inj:VT v->R1}{rt1 Af4} (g:∀l z,Af4 l=Aa z->∃f,Ho v {p.2 with env:=Dp (Cz v++wl) st.env} l=Aa f/\inj f=z){y}
  (h:run C De a b st rt1 (Yt Af4)=Aa y) (s:∀f,inj f=y->K Ab (Hn v f {p.2 with env:=Dp (Cz v++wl) st.env})=Aa r) (u:∀k,rt1 k=Aa y->rt k=Aa r)
  (N:KOk B Af wl ρ st K r Q) (O:ROk B Af ρ st De rt r Q):WC prog C.n a Q env w:=by
 refine S R1 b st rt1 _ y ρ env w Q h H (λe d ρ' c w' G T=>?_) λd k ρ' c w' o q I L M=>O d k ρ' c w' o (u k q) I L M;cases e with
 |some j=>cases G
 |none=>obtain⟨f,o,q⟩:=g d y G;obtain⟨F,x⟩:=B1v H U A i (T.mono D) o;exact N Ab _ F c w' (s f q) x
end
end
section
open Go.RowKit
section
variable {R R':Type} {st:Ai} {C:Es} {K:SV->Ai->Option R} (F:R->Option R')
theorem Qh{α a p} [Decidable p]{x} {G:α->Option a}:Ac (xg p x) G=xg p (Ac x G):=by unfold xg;split<;>rfl
theorem Lg {α a:Type}{c x y} {G:α->Option a}:Ac (bif c then x else y) G=bif c then Ac x G else Ac y G:=by cases c<;>rfl
theorem Brt{op k1 k2 i j K}:Afm C op k1 k2 i j (λc=>Ac (K c) F)=Ac (Afm C op k1 k2 i j K) F:=by unfold Afm;split<;>simp only[Lg,Qh,Jf]
theorem Bru{op tb x y K}:bin C op tb x y (λc=>Ac (K c) F)=Ac (bin C op tb x y K) F:=by
 unfold bin;split
 ·split
  ·rfl
  ·split
   ·exact Brt F
   ·split<;>(try split)<;>simp only[Lg,Qh,Jf]
 ·rfl
theorem Ald{h t l p}:R2 st h t l p (λv s=>Ac (K v s) F)=Ac (R2 st h t l p K) F:=by unfold R2;simp only[Lg,Jf]
theorem B8r{h a t l p}:splitK st h a t l p (λv s=>Ac (K v s) F)=Ac (splitK st h a t l p K) F:=by
 unfold splitK;split
 ·simp only[Qh]
 ·exact Ald F
theorem B5r{h a lo hi}:Ade st h a lo hi (λv s=>Ac (K v s) F)=Ac (Ade st h a lo hi K) F:=by
 unfold Ade;split
 ·split
  ·simp only[Lg,Qh,Jf]
  ·rfl
 ·rfl
theorem B1p a:Pp C st a (λv s=>Ac (K v s) F)=Ac (Pp C st a K) F:=by
 unfold Pp;split
 ·unfold Wv;split<;>rfl
 ·unfold Wv;split<;>rfl
 ·unfold Anh;split<;>rfl
 ·unfold Anb;split
  ·split<;>rfl
  ·rfl
 ·unfold Am8;split
  ·unfold Ana;simp only[Lg,Jf];congr 1;split<;>rfl
  ·cases is3 _ with
   |true=>
    simp only[cond_true];unfold lk3;split
    ·simp only[Lg,Jf];congr 1;split<;>rfl
    ·rfl
   |false=>exact Bru F
  ·rfl
 ·unfold Ani;split<;>rfl
 ·unfold Anc;split<;>rfl
 ·unfold Ane;split
  ·split<;>rfl
  ·rfl
 ·unfold Ang;split
  ·split
   ·split<;>rfl
   ·rfl
  ·split
   ·simp only[Lg,Jf];congr 1;congr 1;split<;>rfl
   ·rfl
  ·rfl
 ·unfold Acu;split
  ·split
   ·simp only[Lg,Jf];congr 1;split<;>simp only[Lg,Qh,Jf]
   ·rfl
  ·rfl
 ·unfold Anj;split
  ·split<;>simp only[Lg,Qh,Jf]
  ·rfl
 ·unfold Am9;split
  ·split<;>rfl
  ·simp only[Lg,Jf]
  ·unfold Am7;simp only[Lg,Jf];congr 1;split
   ·split<;>rfl
   ·rfl
  ·rfl
 ·split
  ·unfold Anf;split<;>rfl
  ·rfl
 ·unfold Acv;split
  ·split
   ·split<;>rfl
   ·split<;>rfl
   ·simp only[Lg,Jf]
   ·rfl
  ·rfl
 ·unfold Wu;split
  ·split<;>rfl
  ·rfl
 ·unfold Wu;split
  ·split<;>rfl
  ·rfl
 ·unfold Acw;split
  ·split
   ·simp only[Lg,Jf];congr 1;split
    ·split<;>simp only[Qh,Ald,Jf]
    ·split<;>simp only[Qh,Ald,Jf]
    ·split<;>simp only[Qh,B8r,Jf]
    ·rfl
   ·exact B5r F
  ·unfold Anl;simp only[Lg,Jf];congr 1;split
   ·split<;>simp only[Qh,Jf]
   ·split<;>simp only[Qh,Jf]
   ·rfl
  ·rfl
 ·unfold Ank;split
  ·split
   ·simp only[Lg,Qh,Ald,Jf]
   ·rfl
  ·rfl
 ·rfl
theorem B2n{t ps}:Zs st t ps (λv s=>Ac (K v s) F)=Ac (Zs st t ps K) F:=by
 unfold Zs;split
 ·split
  ·split
   ·split<;>rfl
   ·rfl
  ·rfl
 ·rfl
theorem Bw8{ops k o} (ho:nth ops k=Aa o) (a:Zd C k ops=true){K}:Qr C o st (λs=>Ac (K s) F)=Ac (Qr C o st K) F:=by
 unfold Zd at a;rw[ho]at a;unfold Qr;split
 ·simp only[Lg,Jf];congr 1;split
  ·rename_i f b d c;simp[c]at a
  ·exact B2n F
  ·exact B1p F _
 ·rfl
end
theorem Bc1 {R:Type}{r b} {x:Option R} (h:(bif !b then Ab else x)=Aa r):b=true/\x=Aa r:=by
 cases b with
 |true=>exact⟨rfl,h⟩
 |false=>cases h
section
variable {ρ ρ' ρ0:List HV} {rs rs':List Rd} {B:Dn} {Af:List Rd} {st:Ai} {env:Env} {w:World} {m:List As} {R:Type} {r:R} {C:Es} {ops:List Oper} {n:Nat} {X:List As}
theorem A78{c u v} (h:Ali c=true) (a:c.Den ρ u) (d:c.Den ρ v):u=v:=by
 cases c with
 |i _ _=>exact a.trans d.symm
 |y _=>exact a.trans d.symm
 |b _=>exact a.trans d.symm
 |s _=>exact a.trans d.symm
 |nil=>exact a.trans d.symm
 |sl k=>obtain⟨s,e,rfl⟩:=a;obtain⟨s',k2,rfl⟩:=d;rw[e]at k2;cases k2;rfl
 |ptr k o=>obtain⟨s,e,rfl⟩:=a;obtain⟨s',k2,rfl⟩:=d;rw[e]at k2;cases k2;rfl
 |ep k q i j=>obtain⟨s,e,rfl,_⟩:=a;obtain⟨s',k2,rfl,_⟩:=d;rw[e]at k2;cases k2;rfl
 |ln k q=>exact a.1.trans d.1.symm
 |_=>cases h
theorem A77:∀ {cs:List Cell} {us vs:List Value},cs.all Ali=true->All2 (Cell.Den ρ) cs us->All2 (Cell.Den ρ) cs vs->us=vs
 |[],[],[],_,_,_=>rfl
 |c::cs,u::us,v::vs,h,⟨h1,h2⟩,⟨k1,k2⟩=>by simp only[K5,A9]at h;rw[A78 h.1 h1 k1,A77 h.2 h2 k2]
 |[],_::_,_,_,h,_=>h.elim
 |[],[],_::_,_,_,h=>h.elim
 |_::_,[],_,_,h,_=>h.elim
 |_::_,_::_,[],_,_,h=>h.elim
theorem A8a{x u v} (h:Alk x=true) (b:x.Den ρ u) (d:x.Den ρ v):u=v:=by
 cases x with
 |c c=>exact A78 h b d
 |a l=>obtain⟨vs,e,rfl⟩:=b;obtain⟨us,k2,rfl⟩:=d;rw[A77 h e k2]
theorem A79:∀ {cs:List V1} {us vs:List Value},cs.all Alk=true->All2 (V1.Den ρ) cs us->All2 (V1.Den ρ) cs vs->us=vs
 |[],[],[],_,_,_=>rfl
 |c::cs,u::us,v::vs,h,⟨h1,h2⟩,⟨k1,k2⟩=>by simp only[K5,A9]at h;rw[A8a h.1 h1 k1,A79 h.2 h2 k2]
 |[],_::_,_,_,h,_=>h.elim
 |[],[],_::_,_,_,h=>h.elim
 |_::_,[],_,_,h,_=>h.elim
 |_::_,_::_,[],_,_,h=>h.elim
theorem Bs1{sv u v} (h:Alj (Aa sv)=true) (a:sv.Den ρ u) (b:sv.Den ρ v):u=v:=by
 cases sv with
 |t l=>obtain⟨vs,c,rfl⟩:=a;obtain⟨us,k2,rfl⟩:=b;rw[A79 h c k2]
 |v x=>exact A8a h a b
theorem Ext.eq (h:Ext ρ ρ') (a:ρ'.length=ρ.length):ρ'=ρ:=by obtain⟨x,rfl⟩:=h;have:x=[]:=I4 (by rw[Bt]at a;omega);simp[this]
theorem Bw9 (u:Sat B Af ρ st env w){o} (A:Aw7 o=true){K} (h:Avn C o st K=Aa r):
  ∃d sv v a ρ',o.dst=Aa d/\C1 d C.n=true/\K (a.put d sv)=Aa r/\Ext ρ ρ'/\Sat B Af ρ' a env w/\sv.Den ρ' v/\Be st a/\a.env=st.env/\∀e n ty pos af g,Runs prog n env e ⟨o.dst,o.op,ty,pos,af,g⟩ v e:=by
 unfold Avn at h;split at h
 ·rename_i d t x G hi f c;have b:=(bt h).1;replace h:=(bt h).2;obtain⟨sv,v,a,ρ',i,k2,j,k,p,q,s⟩:=Bcs u h;exact⟨d,sv,v,a,ρ',f,b,i,k2,j,k,p,q,λe n ty pos af g=>by rw[c];exact s e n _ ty pos af g⟩
 ·rename_i d t x y f c;have b:=(bt h).1;replace h:=(bt h).2;obtain⟨sv,v,a,ρ',i,k2,j,k,p,q,s⟩:=Bcq u h;exact⟨d,sv,v,a,ρ',f,b,i,k2,j,k,p,q,λe n ty pos af g=>by rw[c];exact s e n _ ty pos af g⟩
 ·rename_i d z D f c;have b:=(bt h).1;replace h:=(bt h).2;obtain⟨sv,v,a,ρ',i,k2,j,k,p,q,s⟩:=Bcr u h;exact⟨d,sv,v,a,ρ',f,b,i,k2,j,k,p,q,λe n ty pos af g=>by rw[c];exact s e n _ ty pos af g⟩
 ·cases h
theorem Brz{A a b} {r:A} (h:both a b=Aa r):a=Aa r/\b=Aa r:=by
 unfold both at h;split at h
 ·rename_i e;exact⟨h,e▸h⟩
 ·cases h
theorem A7h{A} (a:Option A):both a a=a:=by unfold both;simp
theorem Bw7 (M:La Af C){base k o} (ho:nth ops k=Aa o) (Y:Zd C k ops=true){K} (h:Avm C base o st K=Aa r) (N:ρ.length=st.Ak) (he:EnvOk ρ st.env env)
  (V:∃(B:Dn) (w:World),Sat B Af ρ {st with own:=base,Bg:=[]} env w):
  ∃d sv v,o.dst=Aa d/\C1 d C.n=true/\K {st with env:=(d,Aa sv)::st.env}=Aa r/\sv.Den ρ v/\∀B w,Sat B Af ρ {st with own:=base,Bg:=[]} env w->∀n a,Has n a env->QR prog o a w v:=by
 unfold Avm at h;split at h
 ·rename_i d y;have I:=Bw8 (st:= {st with own:=base,Bg:=[]}) (R:=Ai) (K:=Aa) (λb=>bif Ay b.Ak st.Ak&&Alj (Bo b.env d)then K {st with env:=b.env}else Ab) ho Y;simp only[Ad]at I;rw[I]at h;obtain⟨s,L,i⟩:=A1 h;have u:=(bt i).1;replace i:=(bt i).2;simp only[A9]at u;have p:=Br u.1;obtain⟨B0,w0,Dw⟩:=V;obtain⟨d',sv,v,b,ρ',G,e2,O,P,Q,H,e7,S,e9⟩:=Aca M Dw L;rw[y]at G;obtain rfl:=D1.inj G;have f:b.put d sv=s:=D1.inj O;have z:b.Ak=st.Ak:=by rw[<-p,<-f];rfl
  have hρ:ρ'=ρ:=P.eq (by rw[Q.len,z,N]);subst hρ;have q:s.env=(d,Aa sv)::st.env:=by rw[<-f];show(d,Aa sv)::b.env=_;rw[S]
  rw[q]at i u;have j:Alj (Aa sv)=true:=by have:=u.2;simp only[Bo]at this;rw[show Ay d d=true from Atl d]at this;exact this
  refine⟨d,sv,v,y,e2,i,H,λB w hs n a W=>?_⟩;obtain⟨d2,e,v2,c,D,g1,g2,g3,g4,g5,T,g7,g8,U⟩:=Aca M hs L;rw[y]at g1;obtain rfl:=D1.inj g1;have g:c.put d e=s:=D1.inj g3;have t:c.Ak=st.Ak:=by rw[<-p,<-g];rfl
  have hρ2:D=ρ':=g4.eq (by rw[g5.len,t,N]);subst hρ2
  have A:e=sv:=by
   have x:s.env=(d,Aa e)::c.env:=by rw[<-g];rfl
   rw[q]at x;simp only[List.cons.injEq,Prod.mk.injEq,D1.injEq,true_and]at x;exact x.1.symm
  subst A;rw[Bs1 j H T];exact U n a W
 ·cases h
def IW (Af:List Rd) (ρ0:List HV) (base:List Chunk) (w:World):Prop:=∃(B:Dn) (m:List As) (rs:List Rd),OwnOk ρ0 rs base m/\(∀r∈Af,r∈rs)/\St B m rs w
structure L4 (B:Dn) (Af:List Rd) (ρ:List HV) (st:Ai) (env:Env) (w:World) (X:List As):Prop where
 len:ρ.length=st.Ak
 env:EnvOk ρ st.env env
 mem:∃m rs,OwnOk ρ rs st.own m/\RdsOk ρ st.Bg rs/\(∀r∈Af,r∈rs)/\St B (m++X) rs w
theorem L4.rel (h:L4 B Af ρ st env w X){w'} (e:Rel w w'):L4 B Af ρ st env w' X:=by obtain⟨m,rs,a,b,c,d⟩:=h.mem;exact⟨h.len,h.env,m,rs,a,b,c,d.call e⟩
theorem Sep.left{m2 F}:∀ {m1:List As},Sep (m1++m2) F w->Sep m1 F w
 |[],h=>h.lt
 |_::_,⟨h0,F1,F2,h1,h2,h3,h4,h5⟩=>⟨h0,F1,F2,h1,Sep.left h2,h3,h4,h5⟩
theorem L4.M9 (h:L4 B Af ρ st env w X):Sat B Af ρ st env w:=by obtain⟨m,rs,a,b,c,e⟩:=h.mem;exact⟨h.len,h.env,m,rs,a,b,c,e.z λF d=>d.left⟩
theorem L4.iw{base rs0 m0} (h:L4 B Af ρ st env w X) (hx:Ext ρ0 ρ) (s:OwnOk ρ0 rs0 base m0){st0} (f:∀a∈base,a∈st0.own) (c:J8 st0=true) (t:Be st0 st) (u:Ox base st.own=true):IW Af ρ0 base w:=by
 obtain⟨m,rs,k,x,o,q⟩:=h.mem;simp only[J8,A9]at c;obtain⟨m',v,k2⟩:=Apo hx u k s λa i b d e=>by obtain⟨j,g1,g2⟩:=t.own b d (by rw[<-e];exact Ano c.2 (f a i));have:j=a:=Amn c.1 g1 (f a i) (by rw[g2.g,e]);rw[<-this];exact g2
 exact⟨B,m',rs,v,o,(q.z λF p=>p.left).z (k2 w)⟩
theorem L4.frame (h:L4 B Af ρ st env w X):∃k,Sat k Af ρ st env w/\∀ρ' e a w',Ext ρ ρ'->Sat k Af ρ' e a w'->L4 B Af ρ' e a w' X:=by obtain⟨m,rs,v,x,y,z⟩:=h.mem;obtain⟨g0,u,F,g1,g2,g3⟩:=z;obtain⟨F1,H,D,k2,G,j,p⟩:=g1.split;let S':Bs:=λb=>(B.S b\/B.X b\/B.w.heap.size<=b.1)/\b.1<w.heap.size/\¬F b;have g:∀b,S' b->b.1<w.heap.size/\¬F1 b:=λb c=>⟨c.2.1,λf=>c.2.2 (j b f)⟩;have A:St ⟨w,F1,S'⟩ m rs w:=⟨F6.refl _ _,g,F1,D,λ_ h=>.inr h,λr d=>r.mono (λb c=>⟨.inl c,c.2.1,λf=>c.2.2 (j b f)⟩) (Lc.refl _ _) (g3 r d)⟩;refine⟨⟨w,F1,S'⟩,⟨h.len,h.env,m,rs,v,x,y,A⟩,λρ' e a w' hx i=>?_⟩;obtain⟨m',rs',q,s,t,o⟩:=i.mem;have:=St.back (l':=m') (rs1:=rs') g0 u k2 G j p g2 g3 ⟨o.Aor,o.ex⟩ (.inr λb c=>⟨c.1,λf=>c.2.2 (p b f)⟩);exact⟨i.len,i.env,m',rs'++rs,OwnOk.mono (Ext.refl _) (λr d=>Hv _ d) q,s.mono (Ext.refl _) (λr d=>Hv _ d),λr d=>Hv _ (t r d),this⟩
structure FE where
 f:Nat
 d:Nat
 v:Value
 x:As
def FIs (o:Oper) (v:Value) (x:As):Prop:=match o.op with
 |.alloc e=>∃b ty ti,Jr e=Aa ti/\v=pt b 0/\x=Cc b (Pa (ti.zero.map Cell.val)) ty
 |.buildSlice t _ _=>∃e ei te b,Oe t=Aa (e,ei,te)/\v=Sv.v ⟨Aa ⟨b,0,Ab⟩,0,0⟩/\x=oC (Ar (sz te) (fD te) ([]:List (C7 te))) (Sv.v ⟨Aa ⟨b,0,Ab⟩,0,0⟩)
 |_=>False
theorem Baf{se} (h:EnvOk ρ se env){d v} (c:Bo se d=Ab):EnvOk ρ se ((d,v)::env):=λt sv a=>by
 obtain⟨u,e,u2⟩:=h t sv a;refine⟨u,?_,u2⟩;simp only[lk];cases b:Ay d t with
 |true=>cases Br b;rw[c]at a;cases a
 |false=>exact e
theorem B16{α l k} {a:α} (h:nth l k=Aa a):k<l.length:=by rw[Ol]at h;exact(H3.1 h).1
theorem Bxo (h:L4 B Af ρ st env w X){k o} (ho:nth ops k=Aa o) (a:Ay (Kq ops k) 0=false) n:
  o.guard=Ab/\∃d,o.dst=Aa d/\(Bo st.env d=Ab->OD prog n env w o λv w'=>Rel w w'/\∃x,FIs o v x/\L4 B Af ρ st ((d,v)::env) w' (x::X)):=by
 unfold Kq at a;rw[ho]at a;simp only[Ach]at a;obtain⟨Q,V,ty,pos,af,g⟩:=o;simp only at a;split at a
 ·rename_i e d;refine⟨rfl,d,rfl,λI=>?_⟩;unfold Bdd at a;split at a
  ·rename_i ti i;cases N:ti.zero.all Cell.shut with
   |false=>rw[N]at a;simp at a
   |true=>
   obtain⟨_,z,j,O⟩:=Js i;obtain⟨m,rs,p,q,s,u⟩:=h.mem;refine OD.ex (Biz j u λb w' S y=>?_);refine⟨S,Cc b (Pa (ti.zero.map Cell.val)) e,⟨b,e,ti,i,rfl,rfl⟩,h.len,Baf h.env I,m,rs,p,q,s,?_⟩;rw[<-O];exact St.perm (by simpa using y) Ct.symm
  ·simp at a
 ·rename_i t P ps d;refine⟨rfl,d,rfl,λI=>?_⟩;cases D:(Ay P 0&&Ay ps.toList.length 0)&&(Ax6 t&&Atu d ops)with
  |false=>rw[D]at a;simp at a
  |true=>
   simp only[A9]at D;obtain⟨⟨G,H⟩,c,_⟩:=D;cases Br G
   have L:ps= #[]:=by
    cases ps with
    |mk l=>have:=I4 (Br H);simp at this;simp[this]
   subst L;unfold Ax6 at c;split at c
   ·rename_i e ei te i;obtain⟨U,_,z,j,_⟩:=R9 i;rw[<-Br c]at j;obtain⟨m,rs,p,q,s,u⟩:=h.mem;refine OD.ex (Bi2 (T:=C7 te) (f:=fD te) U j (λx=>Fu te x) u λb W M A=>⟨M,_,⟨e,ei,te,b,i,rfl,rfl⟩,?_⟩);exact⟨h.len,Baf h.env I,m,rs,p,q,s,A.perm Ct.symm⟩
   ·cases c
 ·simp at a
theorem Ayf{P aops z i o N K a} (hi:aops[i]?=Aa o) (c:o.guard=Ab) (f:z=true\/∀v w',N v w'->Rel w w') (b:Has n a env) (h:OD P n env w o N) (d:∀v w',N v w'->K (a.put o.dst v) w'):Lo P aops z i K a w:=by unfold Lo;simp only[hi];rw[if_pos (by simp[Region.wanted,c])];exact J4 (λg w' ⟨v,e,k⟩=>⟨f.imp id λh=>h v w' k,v,e,e▸d v w' k⟩) (h.get a b)
theorem Bax {listed:Array Bool}{i j} (h:(listed.setIfInBounds i true).getD j false=true):i=j\/listed.getD j false=true:=by
 by_cases a:i=j
 ·exact .inl a
 ·rw[getD_set_ne false a]at h;exact .inr h
theorem Aml {listed:Array Bool}{i j} (h:listed.getD j false=true):(listed.setIfInBounds i true).getD j false=true:=by
 by_cases a:i=j
 ·subst a;rcases Tt i listed.size with b|b
  ·simp[b]
  ·simp[Tp b]at h
 ·rw[getD_set_ne false a];exact h
theorem Bxt {listed:Array Bool}{i} (h:i<listed.size):(listed.setIfInBounds i true).getD i false=true:=by simp[h]
theorem Bat{all} {f d:Nat}{o}:∀ {l:List Oper} {k i:Nat},nth l i=Aa o->Mx all k l=Mx all k l->o.dst=Aa d->Ay (Ach all o) 0=false->f=k+i->(f,d)∈Mx all k l
 |[],_,_,h,_,_,_,_=>by cases h
 |q::l,k,0,h,_,hd,hf,e=>by cases h;simp only[Mx,hd,hf,cond_false];rw[e];exact Bm ..
 |q::l,k,i+1,h,_,hd,hf,e=>by
  have a:=Bat (l:=l) (k:=k+1) (i:=i) (f:=f) h rfl hd hf (by omega);simp only[Mx];split
  ·rename_i b _;cases Ay (Ach all q) 0 with
   |true=>exact a
   |false=>exact Bf _ a
  ·exact a
theorem Acz{f d}:∀ {l:List (Nat×Nat)},(f,d)∈l->Bn (H7 l) d=true
 |[],h=>by cases h
 |p::l,h=>by
  simp only[H7,Bn,Ha];rcases Bq.1 h with rfl|h
  ·exact .inl (Atl _)
  ·exact .inr (Acz h)
theorem Auf{f g d}:∀ {l:List (Nat×Nat)},W0 (H7 l)=true->(f,d)∈l->(g,d)∈l->f=g
 |[],_,h,_=>by cases h
 |p::l,hn,h,k=>by
  simp only[H7,W0,A9]at hn;have b:(∃q,(q,p.2)∈l)->False:=λ⟨q,e⟩=>by have c:=Acz e;simp[c]at hn
  rcases Bq.1 h with a|a
  ·rcases Bq.1 k with k'|k'
   ·rw[<-a]at k';cases k';rfl
   ·rw[<-a]at b;exact(b ⟨g,k'⟩).elim
  ·rcases Bq.1 k with k'|k'
   ·rw[<-k']at b;exact(b ⟨f,a⟩).elim
   ·exact Auf hn.2 a k'
theorem Bid{fl e t} (h:Bn fl t=true):Bo (fl.map (λd=>(d,Ab))++e) t=Ab:=by
 induction fl with
 |nil=>cases h
 |cons a l c=>
  simp only[Bn,Ha]at h;simp only[Fa,Fi,Bo];cases b:Ay a t with
  |true=>rfl
  |false=>
   rcases h with h|h
   ·rw[b]at h;cases h
   ·exact c h
theorem Bie{fl e t} (h:Bn fl t=false):Bo (fl.map (λd=>(d,Ab))++e) t=Bo e t:=by
 induction fl with
 |nil=>rfl
 |cons a l b=>simp only[Bn,Il]at h;simp only[Fa,Fi,Bo,h.1,cond_false];exact b h.2
structure T1 (ops:List Oper) (fl:List (Nat×Nat)) (listed:Array Bool) (env:Env) (st:Ai) (l:PT) (E:List FE):Prop where
 sz:listed.size=ops.length
 e:∀e∈E,listed.getD e.f false=true/\lk env e.d=Aa e.v/\(e.f,e.d)∈fl/\∃o,nth ops e.f=Aa o/\o.dst=Aa e.d/\FIs o e.v e.x
 Un:∀f∈Jy l,listed.getD f false=true->∃e∈E,e.f=f
 no:Mc l=true
 Wk:∀f∈Jy l,Ay (Kq ops f) 0=false
 out:∀f d,(f,d)∈fl->listed.getD f false=false->Bo st.env d=Ab
theorem Acx{d t v} (h:d≠t):lk ((d,v)::env) t=lk env t:=by simp only[lk,Nl h,cond_false]
theorem Sj{d t v se} (h:d≠t):Bo ((d,v)::se) t=Bo se t:=by simp only[Bo,Nl h,cond_false]
variable {fl:List (Nat×Nat)} {listed:Array Bool} {l:PT} {E:List FE}
theorem Ww{d t fl} (h:Bn fl d=false) (k:Bn fl t=true):d≠t:=λe=>by rw[e,k]at h;cases h
theorem T1.step {p:PT} {k:Nat} {c:Ai} {a:Env} (h:T1 ops fl listed env st p E) (j:∀f∈Jy l,f∈Jy p) (z:Mc l=true) (y:Kq ops k=0) (x:fl=Mx ops 0 ops) (v:∀t,Bn (H7 fl) t=true->lk a t=lk env t) (D:∀t,Bn (H7 fl) t=true->Bo c.env t=Bo st.env t):T1 ops fl (listed.setIfInBounds k true) a c l E where
 sz:=by simp[h.sz]
 e:=λe i=>by obtain⟨q,s,o,u⟩:=h.e e i;exact⟨Aml q,by rw[v _ (Acz o)];exact s,o,u⟩
 Un:=λf g b=>by
  rcases Bax b with e|b
  ·subst e;have:=h.Wk _ (j _ g);rw[y]at this;cases this
  ·exact h.Un f (j f g) b
 no:=z
 Wk:=λf g=>h.Wk f (j f g)
 out:=λf d i b=>by
  rw[D _ (Acz i)];refine h.out f d i ?_;cases A:listed.getD f false with
  |false=>rfl
  |true=>rw[Aml A]at b;cases b
theorem Bb9{base} (h:IW Af ρ0 base w) (hx:Ext ρ0 ρ) (e:ρ.length=st.Ak) (d:EnvOk ρ st.env env):∃B,Sat B Af ρ {st with own:=base,Bg:=[]} env w:=by obtain⟨B,m,rs,a,b,c⟩:=h;exact⟨B,e,d,m,rs,OwnOk.mono hx (λ_ h=>h) a,(λ_ h=>by cases h),b,c⟩
theorem L4.perm{X'} (h:L4 B Af ρ st env w X) (e:X.Perm X'):L4 B Af ρ st env w X':=by obtain⟨m,rs,a,b,c,d⟩:=h.mem;exact⟨h.len,h.env,m,rs,a,b,c,d.perm (e.append_left m)⟩
theorem Axt{f}:∀ {E:List FE},(∃e∈E,e.f=f)->∃e b c,E=b++e::c/\e.f=f
 |[],⟨_,h,_⟩=>by cases h
 |a::E,⟨e,h,he⟩=>by
  rcases Bq.1 h with rfl|h
  ·exact⟨e,[],E,rfl,he⟩
  ·obtain⟨d,b,c,g,i⟩:=Axt ⟨e,h,he⟩;exact⟨d,a::b,c,by rw[g];rfl,i⟩
theorem Bcx{a}:∀ {l:List Nat},a∈l->Bn l a=true
 |[],h=>by cases h
 |b::l,h=>by
  simp only[Bn,Ha];rcases Bq.1 h with rfl|h
  ·exact .inl (Atl _)
  ·exact .inr (Bcx h)
theorem T1.used {s u:List FE} {e:FE} {f:Nat} (h:T1 ops fl listed env st l (s++e::u)) (x:e.f=f) {l':PT} {j:Ai} (v:Jy l=f::Jy l') (i:Bn (Jy l') f=false) (q:Mc l'=true) (y:∀t,(∀g d,(g,d)∈fl->listed.getD g false=false->d≠t)\/Bo j.env t=Bo st.env t):T1 ops fl listed env j l' (s++u) where
 sz:=h.sz
 e:=λk c=>h.e k (by
  rcases Ei.1 c with c|c
  ·exact Hv _ c
  ·exact F5 _ (Bf _ c))
 Un:=λg o b=>by
  obtain⟨k,a,p⟩:=h.Un g (by rw[v];exact Bf _ o) b;rcases Ei.1 a with a|a
  ·exact⟨k,Hv _ a,p⟩
  ·rcases Bq.1 a with rfl|a
   ·have:Bn (Jy l') f=true:=Bcx (by rw[<-x,p];exact o);rw[this]at i;cases i
   ·exact⟨k,F5 _ a,p⟩
 no:=q
 Wk:=λg o=>h.Wk g (by rw[v];exact Bf _ o)
 out:=λg d c b=>by
  rcases y d with a|a
  ·exact absurd rfl (a g d c b)
  ·rw[a];exact h.out g d c b
theorem B5y (hC:La Af C){Q base rs0 m0 st0} (hb:OwnOk ρ0 rs0 base m0) (h0:∀a∈base,a∈st0.own) (p3:J8 st0=true) (h7:Region.noSelect ops.toArray=true) (c9:fl=Mx ops 0 ops) (j9:W0 (H7 fl)=true) (n4:((H7 fl).all λd=>C1 d C.n)=true):
  ∀a8 m listed j l E st K ρ env w,Ke C ops (H7 fl) base l st K=Aa r->Gu C ops a8 m listed j l=true->j.size=ops.length->L4 B Af ρ st env w (E.map FE.x)->T1 ops fl listed env st l E->Ext ρ0 ρ->Be st0 st->Ox base st.own=true->Down ops.toArray listed->
   (∀u ρ' O w',K u=Aa r->Sat B Af ρ' u O w'->Ext ρ ρ'->Be st u->(∀t,Bn (Cy ops) t=false->Bo u.env t=Bo st.env t)->Q .normal O w')->
   ∀a,Has C.n a env->Lx prog ops.toArray (λa w=>Sh C.n Q .normal a w) (IW Af ρ0 base) m listed j a w:=by
 intro a8;induction a8 with
 |zero=>intro m listed j l E st K ρ env w h s;cases s
 |succ a8 ih=>
 intro m listed j l E st K ρ env w h s Y U D hx hg c6 hd hK a ha;have hI:∀G,Rel w G->IW Af ρ0 base G:=λG h1=>(U.rel h1).iw hx hb h0 p3 hg c6;have P:∀ {i:Nat} {o:Oper},nth ops i=Aa o->ops.toArray[i]?=Aa o:=λ{i o} h=>by rw[Ol]at h;simpa using h
 have H:∀m',(∀i∈Region.ready .any ops.toArray listed,Ay (Kq ops i) 0=false->Gu C ops a8 m' (listed.setIfInBounds i true) j l=true->∀G,Rel w G->Lo prog ops.toArray (Kl ops.toArray j i) i (Lx prog ops.toArray (λa w=>Sh C.n Q .normal a w) (IW Af ρ0 base) m' (listed.setIfInBounds i true) j) a G):=λm' i hi hf n5 G h1=>by
  obtain⟨k9,o,ho,_⟩:=mem_ready.1 hi;have N:nth ops i=Aa o:=by rw[Ol];simpa using ho
  obtain⟨a6,d,b6,h8⟩:=Bxo (U.rel h1) N hf C.n;have b9:i<ops.length:=B16 N
  have f9:listed.getD i false=false:=by
   have:i<listed.size:=by rw[D.sz];exact b9
   simp[this]at k9⊢;exact k9
  have c5:(i,d)∈fl:=by rw[c9];refine Bat N rfl b6 ?_ (by omega);unfold Kq at hf;rw[N]at hf;exact hf
  have j6:C1 d C.n=true:=by
   have h2:=Acz c5
   have:∀ {l:List Nat},Bn l d=true->(l.all λd=>C1 d C.n)=true->C1 d C.n=true:=λ{l}=>by
    induction l with
    |nil=>intro h;cases h
    |cons b l q8=>
     intro h3 h4;simp only[K5,A9]at h4;simp only[Bn,Ha]at h3;rcases h3 with h3|h3
     ·cases Br h3;exact h4.1
     ·exact q8 h3 h4.2
   exact this h2 n4
  refine Ayf ho a6 (.inr λv w' h=>h.1) ha (h8 (D.out i d c5 f9)) λv w' ⟨_,x,p9,p7⟩=>?_;rw[b6];refine ih m' _ j l (⟨i,d,v,x⟩::E) st K ρ ((d,v)::env) w' h n5 Y p7 ⟨by simp[D.sz],λe he=>?_,λf n8 hl=>?_,D.no,D.Wk,λf d' hm hl=>?_⟩ hx hg c6 (hd.set hi) hK _ (ha.put j6 v)
  ·rcases Bq.1 he with rfl|he
   ·exact⟨Bxt (by rw[D.sz];exact b9),by simp[lk],c5,o,N,b6,p9⟩
   ·obtain⟨e1,e2,e3,e4⟩:=D.e e he;refine⟨Aml e1,?_,e3,e4⟩;rw[Acx λc7=>?_]
    ·exact e2
    ·subst c7;have:=Auf j9 c5 e3;subst this;rw[f9]at e1;cases e1
  ·rcases Bax hl with e|hl
   ·exact⟨_,Bm ..,e⟩
   ·obtain⟨e,e1,e2⟩:=D.Un f n8 hl;exact⟨e,Bf _ e1,e2⟩
  ·refine D.out f d' hm ?_;cases hq:listed.getD f false with
   |false=>rfl
   |true=>rw[Aml hq]at hl;cases hl
 have b2:∀m' k (l':PT),(∀f∈Jy l',f∈Jy l)->Mc l'=true->k∈Region.ready .any ops.toArray listed->(Agq C ops j k&&Gu C ops a8 m' (listed.setIfInBounds k true) j l')=true->opM C ops (H7 fl) base k st (λst=>Ke C ops (H7 fl) base l' st K)=Aa r->
   ∀G,Rel w G->Lo prog ops.toArray (Kl ops.toArray j k) k (Lx prog ops.toArray (λa w=>Sh C.n Q .normal a w) (IW Af ρ0 base) m' (listed.setIfInBounds k true) j) a G:=λm' k l' n9 T hi f8 h G h1=>by
  simp only[A9]at f8;obtain⟨j8,q⟩:=f8;unfold opM at h;split at h
  ·rename_i o ho;have S:=(bt h).1;replace h:=(bt h).2;simp only[A9]at S;obtain⟨⟨c2,c8⟩,I⟩:=S;have a6:o.guard=Ab:=by unfold isNone at c2;split at c2;assumption;cases c2
   obtain⟨B',d4,V⟩:=(U.rel h1).frame;obtain⟨b9,h8⟩:=Pj hC d4 a6 h;have k0:∀t,Bn (H7 fl) t=true->o.dst≠Aa t:=λt A e=>by unfold Yw at I;rw[e]at I;simp[A]at I
   refine Ayf (P ho) a6 (by
    simp only[Agq,Ha]at j8;refine j8.imp id λh9 v w' k=>k.1 ?_;unfold Am3 at h9;rw[ho]at h9;exact Br h9) ha h8 λv w' ⟨_,u,ρ',k1,k2,k3,k4,k5⟩=>?_
   have b1:=(bt k1).1;replace k1:=(bt k1).2;refine ih m' _ j l' E u K ρ' (putE o.dst v env) w' k1 q Y (V ρ' u _ w' k2 k3) (D.step n9 T (Br c8) c9 (λt A=>?_) λt A=>?_) (hx.trans k2) (hg.trans k4) b1 (hd.set hi) (λe6 e7 b5 w2 g1 g2 g3 g4 g5=>hK e6 e7 b5 w2 g1 g2 (k2.trans g3) (Be.trans k4 g4) λt A=>?_) _ (ha.putE b9 v)
   ·have:=k0 t A;cases b6:o.dst with
    |none=>rfl
    |some d'=>exact Acx λe=>this (by rw[b6,e])
   ·refine k5 t (Ap8 λo' N=>?_);rcases Bq.1 N with rfl|N
    ·exact k0 t A
    ·cases N
   ·rw[g5 t A];refine k5 t (Ap8 λo' N=>?_);rcases Bq.1 N with rfl|N
    ·exact Aaq A _ (by rw[Ol]at ho;exact Abk ho)
    ·cases N
  ·cases h
 cases l with
 |nil=>
  simp only[Gu]at s;simp only[Ke]at h;have hr:Region.ready .any ops.toArray listed=[]:=by simpa using s
  have hQ:∀G,Rel w G->Sh C.n Q .normal a G:=λG h1=>⟨env,ha,hK st ρ env G h (U.rel h1).M9 (Ext.refl ρ) (Be.refl st) λ_ _=>rfl⟩;cases m with
  |zero=>exact⟨hI,hr,hQ⟩
  |succ m=>exact⟨hI,λ_=>hQ,λi hi=>by rw[hr]at hi;cases hi⟩
 |fork k1 p1 k2 p2=>
  cases m with
  |zero=>simp[Gu]at s
  |succ m=>
  simp only[Gu,A9]at s;simp only[Ke]at h;obtain⟨p4,p5⟩:=Brz h;have T:=D.no;simp only[Mc,A9]at T;refine⟨hI,λh'=>by rw[h']at s;simp at s,λi hi G h1=>?_⟩;have q:=Ff.1 s.2 i hi;cases W:Ay i k1 with
  |true=>rw[W]at q;simp only[cond_true]at q;cases Br W;exact b2 m _ p1 (λf hf=>Hv _ hf) T.1 hi q p4 G h1
  |false=>
   rw[W]at q;simp only[cond_false]at q;cases d8:Ay i k2 with
   |true=>rw[d8]at q;simp only[cond_true]at q;cases Br d8;exact b2 m _ p2 (λf hf=>F5 _ hf) T.2 hi q p5 G h1
   |false=>rw[d8]at q;simp only[cond_false,A9]at q;exact H m i hi (by simpa using q.1) q.2 G h1
 |cons p l=>
 cases p with
 |lk k=>
  have T:Mc l=true:=D.no;cases m with
  |zero=>simp[Gu]at s
  |succ m=>
  simp only[Gu,A9]at s;simp only[Ke]at h;split at h
  ·rename_i o ho;have S:=(bt h).1;replace h:=(bt h).2;simp only[A9]at S;obtain⟨⟨b0,c8⟩,I⟩:=S;cases j1:Aw7 o with
   |true=>
    rw[j1]at h;simp only[cond_true]at h;obtain⟨B',d4,V⟩:=U.frame;obtain⟨d,sv,v,u,ρ',e1,b9,k1,k2,k3,k4,k5,k6,k7⟩:=Bw9 d4 j1 h;have b1:=(bt k1).1;replace k1:=(bt k1).2
    have a6:o.guard=Ab:=by
     unfold Zd at b0;rw[ho]at b0;simp only[A9]at b0;have h9:=b0.2;unfold isNone at h9;split at h9
     ·assumption
     ·cases h9
    have c0:k∈Region.ready .any ops.toArray listed:=by simpa using s.1.1
    have a5:Bn (H7 fl) d=false:=by unfold Yw at I;rw[e1]at I;simpa using I
    have b7:(u.put d sv).env=(d,Aa sv)::st.env:=by show(d,Aa sv)::u.env=_;rw[k6]
    refine Bix (v:=v) (P ho) (Region.noSelect_spec h7) m listed j a w hd (by rw[Y,D.sz]) (Region.free_spec (P ho) s.1.2) c0 (λw' _=>?_) ?_
    ·refine .inl ⟨by simp[Region.wanted,a6],?_⟩;obtain⟨d0,v4,r2,s4,t5,g0⟩:=o;intro G _;unfold Oper.wp;rw[k7 G C.n _ _ _ _ a ha];exact⟨Rel.refl G,rfl⟩
    ·rw[e1];refine ih m _ j l E (u.put d sv) K ρ' ((d,v)::env) w k1 s.2 Y (V ρ' (u.put d sv) ((d,v)::env) w k2 ⟨k3.len,k3.env.put k4 d,k3.mem⟩) (D.step (λf hf=>hf) T (Br c8) c9 (λt A=>Acx (Ww a5 A)) λt A=>by rw[b7];exact Sj (Ww a5 A)) (hx.trans k2) (hg.trans ⟨k5.Ak,k5.own,k5.Bg⟩) b1 (hd.set c0) (λe6 e7 b5 w2 g1 g2 g3 g4 g5=>hK e6 e7 b5 w2 g1 g2 (k2.trans g3) (Be.trans ⟨k5.Ak,k5.own,k5.Bg⟩ ⟨g4.Ak,g4.own,g4.Bg⟩) λt A=>?_) _ (ha.put b9 v);rw[g5 t A,b7];exact Sj λa9=>Aaq A o (by rw[Ol]at ho;exact Abk ho) (by rw[e1,a9])
   |false=>
   rw[j1]at h;simp only[cond_false]at h;obtain⟨B0,m7⟩:=Bb9 (hI w (Rel.refl w)) hx U.len U.env;obtain⟨d,sv,v,e1,e2,e3,e4,e5⟩:=Bw7 hC ho b0 h U.len U.env ⟨B0,w,m7⟩
   have a6:o.guard=Ab:=by
    unfold Zd at b0;rw[ho]at b0;simp only[A9]at b0;have h9:=b0.2;unfold isNone at h9;split at h9
    ·assumption
    ·cases h9
   have c0:k∈Region.ready .any ops.toArray listed:=by simpa using s.1.1
   have a5:Bn (H7 fl) d=false:=by unfold Yw at I;rw[e1]at I;simpa using I
   refine Bix (v:=v) (P ho) (Region.noSelect_spec h7) m listed j a w hd (by rw[Y,D.sz]) (Region.free_spec (P ho) s.1.2) c0 (λw' n0=>?_) ?_
   ·obtain⟨B1,m8⟩:=Bb9 (n0 w' (Rel.refl w')) hx U.len U.env;exact .inl ⟨by simp[Region.wanted,a6],(e5 B1 w' m8 C.n a ha).get⟩
   ·rw[e1];refine ih m _ j l E {st with env:=(d,Aa sv)::st.env} K ρ ((d,v)::env) w e3 s.2 Y ⟨U.len,U.env.put e4 d,U.mem⟩ (D.step (λf hf=>hf) T (Br c8) c9 (λt A=>Acx (Ww a5 A)) λt A=>Sj (Ww a5 A)) hx ⟨hg.Ak,hg.own,hg.Bg⟩ c6 (hd.set c0) (λu ρ' O w' k1 k2 k3 k4 k5=>hK u ρ' O w' k1 k2 k3 ⟨k4.Ak,k4.own,k4.Bg⟩ λt A=>?_) _ (ha.put e2 v);rw[k5 t A];exact Sj λa9=>Aaq A o (by rw[Ol]at ho;exact Abk ho) (by rw[e1,a9])
  ·cases h
 |qk k=>
  have T:Mc l=true:=D.no;cases m with
  |zero=>simp[Gu]at s
  |succ m=>
  simp only[Gu,A9]at s;simp only[Ke]at h;split at h
  ·rename_i o ho;have S:=(bt h).1;replace h:=(bt h).2;simp only[A9]at S;obtain⟨⟨c2,c8⟩,I⟩:=S;have a6:o.guard=Ab:=by unfold isNone at c2;split at c2;assumption;cases c2
   obtain⟨B',d4,V⟩:=U.frame;obtain⟨d,sv,v,u,ρ',e1,b9,k1,k2,k3,k4,k5,k6,k7⟩:=Aca hC d4 h;have b1:=(bt k1).1;replace k1:=(bt k1).2;have c0:k∈Region.ready .any ops.toArray listed:=by simpa using s.1.1
   have a5:Bn (H7 fl) d=false:=by unfold Yw at I;rw[e1]at I;simpa using I
   have b7:(u.put d sv).env=(d,Aa sv)::st.env:=by show(d,Aa sv)::u.env=_;rw[k6]
   refine Cdq (v:=v) (P ho) (Region.noSelect_spec h7) m listed j a w hd (by rw[Y,D.sz]) (Region.free_spec (P ho) s.1.2) c0 (.inl ⟨by simp[Region.wanted,a6],(k7 C.n a ha).get⟩) ?_;rw[e1];refine ih m _ (j.setIfInBounds k true) l E (u.put d sv) K ρ' ((d,v)::env) w k1 s.2 (by simp[Y]) (V ρ' (u.put d sv) ((d,v)::env) w k2 ⟨k3.len,k3.env.put k4 d,k3.mem⟩) (D.step (λf hf=>hf) T (Br c8) c9 (λt A=>Acx (Ww a5 A)) λt A=>by rw[b7];exact Sj (Ww a5 A)) (hx.trans k2) (hg.trans ⟨k5.Ak,k5.own,k5.Bg⟩) b1 (hd.set c0) (λe6 e7 b5 w2 g1 g2 g3 g4 g5=>hK e6 e7 b5 w2 g1 g2 (k2.trans g3) (Be.trans ⟨k5.Ak,k5.own,k5.Bg⟩ ⟨g4.Ak,g4.own,g4.Bg⟩) λt A=>?_) _ (ha.put b9 v);rw[g5 t A,b7];exact Sj λa9=>Aaq A o (by rw[Ol]at ho;exact Abk ho) (by rw[e1,a9])
  ·cases h
 |op k=>
  have T:Mc l=true:=D.no;cases m with
  |zero=>simp[Gu]at s
  |succ m=>
  simp only[Gu,A9]at s;refine⟨hI,λh'=>by rw[h']at s;simp at s,λi hi G h1=>?_⟩;have q:=Ff.1 s.2 i hi;cases W:Ay i k with
  |false=>rw[W]at q;simp only[cond_false,A9]at q;exact H m i hi (by simpa using q.1) q.2 G h1
  |true=>rw[W]at q;simp only[cond_true]at q;cases Br W;exact b2 m _ l (λf hf=>hf) T hi q h G h1
 |gh f=>
  simp only[Gu]at s;cases b8:listed.getD f false with
  |false=>
   rw[b8]at s;simp only[cond_false]at s;cases m with
   |zero=>cases s
   |succ m=>
   simp only[A9]at s;refine⟨hI,λh'=>by rw[h']at s;simp at s,λi hi G h1=>?_⟩;have q:=Ff.1 s.2 i hi;simp only[A9]at q;exact H m i hi (by simpa using q.1) q.2 G h1
  |true=>
   rw[b8]at s;simp only[cond_true]at s;have a0:=D.no;simp only[Mc,A9]at a0;have h6:Bn (Jy l) f=false:=by simpa using a0.1
   obtain⟨e,E1,E2,rfl,d6⟩:=Axt (D.Un f (Bm ..) b8);obtain⟨e1,e2,e3,o,o1,o2,o3⟩:=D.e e (F5 _ (Bm ..));simp only[Ke]at h;split at h
   ·rename_i d r2 ty pos af ho;rw[d6,ho]at o1;obtain rfl:=D1.inj o1;have c7:d=e.d:=D1.inj o2;have S:=(bt h).1;replace h:=(bt h).2;obtain⟨b,j3,ti,t1,t2,t3⟩:=o3;unfold Agv at h;rw[t1]at h;simp only at h;have q0:=(Bc1 h).1;replace h:=(Bc1 h).2;have b1:=(bt h).1;replace h:=(bt h).2;have a1:=Ext.one ρ (.box b);have hl:=Gn ρ (.box b);rw[U.len]at hl;obtain⟨m1,rs1,g1,g2,g3,hM⟩:=U.mem;have g8:St B ((Cc b (Pa (ti.zero.map Cell.val)) j3::m1)++(E1++E2).map FE.x) rs1 w:=by refine hM.perm ?_;simp only[Abj,Fa,t3,Fi,<-Ci];exact Ct
    have gr:∀L,Be st {st with own:=.box st.Ak st.Ak L::st.own,Ak:=st.Ak+1}:=λL=>Be.fresh rfl (OwnLe.refl _);have d9:OwnOk (ρ++[.box b]) rs1 (.box st.Ak st.Ak ti.zero::st.own) (Cc b (Pa (ti.zero.map Cell.val)) j3::m1):=⟨⟨b,j3,_,hl,Apd q0,rfl⟩,OwnOk.mono a1 (λ_ h=>h) g1⟩;refine ih m listed j l (E1++E2) _ K (ρ++[.box b]) env w h s Y ⟨by simp[U.len,Ai.put],?_,_,rs1,d9,g2.mono a1 λ_ h=>h,g3,g8⟩ (D.used d6 rfl h6 a0.2 λt=>?_) (hx.trans a1) (hg.trans ⟨(gr ti.zero).Ak,(gr ti.zero).own,(gr ti.zero).Bg⟩) b1 hd (λu ρ' O w' k1 k2 k3 k4 k5=>hK u ρ' O w' k1 k2 (a1.trans k3) (Be.trans (gr ti.zero) ⟨k4.Ak,k4.own,k4.Bg⟩) λt A=>?_) a ha
    ·exact EnvOk.set (U.env.mono a1) (by rw[c7];exact e2) (by rw[t2];exact⟨b,hl,rfl⟩)
    ·by_cases A:d=t
     ·subst A;refine .inl λg d' hm j7 a5=>?_;subst a5;rw[c7]at hm;have:=Auf j9 hm e3;subst this;rw[e1]at j7;cases j7
     ·exact .inr (Sj A)
    ·rw[k5 t A];exact Sj λa9=>Aaq A _ (by rw[Ol]at ho;exact Abk ho) (by rw[a9])
   ·cases h
 |li f=>
  simp only[Gu]at s;cases b8:listed.getD f false with
  |false=>
   rw[b8]at s;simp only[cond_false]at s;cases m with
   |zero=>cases s
   |succ m=>
   simp only[A9]at s;refine⟨hI,λh'=>by rw[h']at s;simp at s,λi hi G h1=>?_⟩;have q:=Ff.1 s.2 i hi;simp only[A9]at q;exact H m i hi (by simpa using q.1) q.2 G h1
  |true=>rw[b8]at s;simp only[cond_true]at s;simp only[Ke]at h;exact ih m listed j l E st K ρ env w h s Y U ⟨D.sz,D.e,D.Un,D.no,D.Wk,D.out⟩ hx hg c6 hd hK a ha
 |ap k f=>
  cases m with
  |zero=>simp[Gu]at s
  |succ m=>
  simp only[Gu,A9]at s;obtain⟨b8,s⟩:=s;refine⟨hI,λh'=>by rw[h']at s;simp at s,λi hi G h1=>?_⟩;have q:=Ff.1 s.2 i hi;cases W:Ay i k with
  |false=>rw[W]at q;simp only[cond_false,A9]at q;exact H m i hi (by simpa using q.1) q.2 G h1
  |true=>
   rw[W]at q;simp only[cond_true]at q;cases Br W;have a0:=D.no;simp only[Mc,A9]at a0;have h6:Bn (Jy l) f=false:=by simpa using a0.1
   obtain⟨e,E1,E2,rfl,d6⟩:=Axt (D.Un f (Bm ..) b8);obtain⟨e1,e2,e3,o,o1,o2,o3⟩:=D.e e (F5 _ (Bm ..));simp only[Ke]at h;split at h
   ·rename_i d2 f6 l2 w8 s5 t6 d1 t v2 ps ty pos af ho p0;split at h
    ·rename_i dd y t1 t2 h5 k8;have S:=(bt h).1;replace h:=(bt h).2;simp only[A9]at S;obtain⟨⟨⟨q1,q2⟩,q3,q4⟩,⟨q5,q6⟩,q7⟩:=S;cases Br q1;cases Br q3;cases Br q4;have f1:f6= #[.tmp d1,y]:=by cases f6;simpa using h5
     have j2:l2= #[t,t]:=by cases l2;simpa using k8
     subst f1 j2;rw[d6,p0]at o1;obtain rfl:=D1.inj o1;have c7:d1=e.d:=D1.inj o2;obtain⟨ee,ei,te,b,l3,r3,r4⟩:=o3;have j0:=U.rel h1;have l1:Bn (H7 fl) d2=false:=by simpa using q7
     unfold Afe at h;split at h
     ·rename_i hh e' t8 w7 hy A;rw[l3]at A;cases A;obtain⟨u1,_,z,hz,_⟩:=R9 l3;have f2:=(bt h).1;replace h:=(bt h).2;simp only[A9]at f2;rw[<-Br f2.2.2]at hz;split at h
      ·rename_i c n6;split at h
       ·rename_i M g8;have n3:=(C8 h).1;replace h:=(C8 h).2;have b1:=(bt h).1;replace h:=(bt h).2;obtain⟨vv,v1,sv,s1,rfl⟩:=j0.env.evC hy;obtain⟨s',s2,s3⟩:=j0.M9.rd n6;rw[s1]at s2;cases s2;obtain⟨ec,j5⟩:=Qp g8;obtain⟨t',L'⟩:=c;simp only at ec j5 s3;subst ec j5;obtain⟨m1,rs1,g1,g2,g3,hM⟩:=j0.mem;have n2:St B (oC (Ar (sz t') (fD t') ([]:List (C7 t'))) (Sv.v ⟨Aa ⟨b,0,Ab⟩,0,0⟩)::(m1++(E1++E2).map FE.x)) rs1 G:=by refine hM.perm ?_;simp only[Abj,Fa,r4,<-Ci];exact Ct
        refine Ayf (P ho) rfl (.inr λv w' h=>h.1) ha (OD.ex (Bi0 u1 hz v1 (by rw[c7];simp only[ev];rw[e2,r3]) s3 (Amf f2.2.1) n2 n3 f2.1 (K:=λv w'=>Rel G w'/\∃sn:Sv,v=sn.v/\St B (oC (Ar (sz t') (fD t') ([]++L')) sn.v::(m1++(E1++E2).map FE.x)) rs1 w') λs' w4 p6 g9=>⟨p6,s',rfl,g9⟩)) λv w' ⟨_,sn,hv,g9⟩=>?_;subst hv;have a1:=Ext.one ρ (.row sn);have hl:=Gn ρ (.row sn);rw[U.len]at hl;have gr:∀L,Be st {st with own:=.row st.Ak st.Ak t' L []::st.own,Ak:=st.Ak+1}:=λL=>Be.fresh rfl (OwnLe.refl _);have d9:OwnOk (ρ++[.row sn]) rs1 (.row st.Ak st.Ak t' ([]++L') []::st.own) (oV (oC (Ar (sz t') (fD t') ([]++L')) sn.v) []::m1):=⟨⟨sn,[],hl,rfl,rfl⟩,OwnOk.mono a1 (λ_ h=>h) g1⟩;refine ih m _ j l (E1++E2) _ K (ρ++[.row sn]) ((d2,sn.v)::env) w' h q Y ⟨by simp[U.len,Ai.put],?_,_,rs1,d9,g2.mono a1 λ_ h=>h,g3,g9.z Z.toV⟩ ?_ (hx.trans a1) (hg.trans ⟨(gr ([]++L')).Ak,(gr ([]++L')).own,(gr ([]++L')).Bg⟩) b1 (hd.set hi) (λu ρ' O w' k1 k2 k3 k4 k5=>hK u ρ' O w' k1 k2 (a1.trans k3) (Be.trans (gr ([]++L')) ⟨k4.Ak,k4.own,k4.Bg⟩) λt A=>?_) _ (ha.put q5 _)
        ·exact(U.env.mono a1).put (sv:=.v (.c (.sl st.Ak))) ⟨sn,hl,rfl⟩ d2
        ·have hu:T1 ops fl listed env st l (E1++E2):=D.used d6 rfl h6 a0.2 λt=>.inr rfl;have p8:T1 ops fl listed env st (.cons (.lk k) l) (E1++E2):=⟨hu.sz,hu.e,hu.Un,hu.no,hu.Wk,hu.out⟩;exact p8.step (λf hf=>hf) hu.no (Br q6) c9 (λt A=>Acx (Ww l1 A)) λt A=>Sj (Ww l1 A)
        ·rw[k5 t A];exact Sj λa9=>Aaq A _ (by rw[Ol]at ho;exact Abk ho) (by rw[a9])
       ·cases h
      ·cases h
     ·cases h
    ·cases h
   ·cases h
theorem Axd{W}:∀ {own:List Chunk},∀a∈Zh W own,a∈own
 |[],a,h=>h
 |c::own,a,h=>by
  simp only[Zh]at h;cases b:Aw4 c&&!Bn W (hOf c)with
  |true=>
   rw[b]at h;rcases Bq.1 h with rfl|h
   ·exact Bm ..
   ·exact Bf _ (Axd a h)
  |false=>rw[b]at h;exact Bf _ (Axd a h)
theorem Bcf{W}:∀ {own:List Chunk} {m:List As},OwnOk ρ rs own m->∃m',OwnOk ρ rs (Zh W own) m'
 |[],[],_=>⟨[],trivial⟩
 |c::own,a::m,⟨h1,h2⟩=>by
  obtain⟨m',b⟩:=Bcf (W:=W) h2;simp only[Zh];cases Aw4 c&&!Bn W (hOf c)with
  |true=>exact⟨a::m',h1,b⟩
  |false=>exact⟨m',b⟩
 |[],_::_,h=>h.elim
 |_::_,[],h=>h.elim
theorem B5z (x:La Af C){Q id aops draw K} (h:Azw C aops.toList draw st K=Aa r) (u:Sat B Af ρ st env w)
  (y:∀g ρ' b w',K g=Aa r->Sat B Af ρ' g b w'->Ext ρ ρ'->Be st g->(∀t,Bn (Cy aops.toList) t=false->Bo g.env t=Bo st.env t)->Q .normal b w'):WC prog C.n (.region id aops draw) Q env w:=by
 have e:aops=aops.toList.toArray:=by simp
 unfold Azw at h;cases draw with
 |false=>rw[e];exact A1r (Adk x _ _ st K ρ env w h u y)
 |true=>
  simp only[cond_true]at h;cases i:Region.noSelect aops.toList.toArray&&W5 aops.toList.toArray (Uw C (Ph aops.toList) aops.toList aops.toList.length (Kh aops.toList.length false)) (Kh aops.toList.length false)with
  |true=>rw[i]at h;simp only[cond_true]at h;simp only[A9]at i;exact B5x x i.1 i.2 h u y
  |false=>
   rw[i]at h;simp only[cond_false]at h;have G:=(bt h).1;replace h:=(bt h).2;simp only[A9]at G;obtain⟨⟨⟨M,N⟩,⟨⟨O,P⟩,S,T⟩,U⟩,V⟩:=G;obtain⟨m,rs,D,Y,h3,hM⟩:=u.mem;obtain⟨m0,z⟩:=Bcf (W:=Azt st.env aops.toList aops.toList) D;rw[e];intro a ha;have hw:=B5y (B:=B) x (Q:=Q) (ρ0:=ρ) (st0:=st) z (λa h=>Axd a h) N M rfl O S _ _ _ _ _ [] _ K ρ env w h U (by simp) ⟨u.len,λt sv o=>?_,m,rs,D,Y,h3,by simpa using hM⟩ ⟨by simp,(λ_ h=>by cases h),λf I L=>?_,P,λf I=>by simpa using Ff.1 T f I,λf d hm _=>Bid (Acz hm)⟩ (Ext.refl ρ) ⟨Ef _,λc h _=>⟨c,h,.inl rfl⟩,[],rfl⟩ V (Down.init _) (λg ρ' b w' k1 k2 k3 A k5=>y g ρ' b w' k1 k2 k3 ⟨A.Ak,A.own,A.Bg⟩ λt o=>?_) a ha
   ·exact wp_region_any Tryz_mixed (A1w (QA:=λa w=>Sh C.n Q .normal a w) (λ_ _ h=>h) _ _ _ _ _ (by simpa using Ah9 hw (Rel.drew (Rel.refl w))))
   ·cases j:Bn (H7 (Mx aops.toList 0 aops.toList)) t with
    |true=>rw[Bid j]at o;cases o
    |false=>rw[Bie j]at o;exact u.env t sv o
   ·exfalso;have v:(Kh aops.toList.length false).getD f false=false:=by rw[Asu,Array.getElem?_replicate];split<;>rfl
    rw[v]at L;cases L
   ·rw[k5 t o];refine Bie ?_;cases j:Bn (H7 (Mx aops.toList 0 aops.toList)) t with
    |false=>rfl
    |true=>
     exfalso
     have:∀ {p l:List Oper} {k:Nat},Bn (H7 (Mx p k l)) t=true->Bn (Cy l) t=true:=λ{p l k}=>by
      induction l generalizing k with
      |nil=>intro h;cases h
      |cons q l s=>
       intro h;simp only[Mx]at h;simp only[Cy];split at h
       ·rename_i d H;simp only[H,Bn,Ha];cases v:Ay (Ach p q) 0 with
        |true=>rw[v]at h;exact .inr (s h)
        |false=>rw[v]at h;simp only[cond_false,H7,Bn,Ha]at h;exact h.imp (λh=>h) s
       ·rename_i H;exact s h
     rw[this j]at o;cases o
end
end
section
open Go.RowKit
section
variable {ρ ρ':List HV} {rs rs':List Rd} {B:Dn} {Af:List Rd} {st:Ai} {env:Env} {w:World} {m:List As}
variable {C:Es} {R0 R:Type} {De:Ai->Option R0} {rt:R0->Option R} {K:Option Nat->Ai->Option R} {r:R} {Q:Post}
theorem Up {α a:Type}{x} {f:α->a}{z} (h:x.map f=Aa z):∃y,x=Aa y/\f y=z:=Di.1 h
theorem Sl{b x} (h:(bif !b then Ab else x)=Aa r):b=true/\x=Aa r:=by
 cases b with
 |true=>exact⟨rfl,h⟩
 |false=>cases h
theorem Bsk{o a c} (M:RunOk B Af C De a) (N:RunOk B Af C De c):RunOk B Af C De (.cond o a c):=λR b st rt K r ρ env w Q h u D F=>by
 have q:∀t,Bn (wr a++wr c) t=false->Bn (wr a) t=false:=λt v=>by rw[Mb,Il]at v;exact v.1
 have s:∀t,Bn (wr a++wr c) t=false->Bn (wr c) t=false:=λt v=>by rw[Mb,Il]at v;exact v.2
 rw[run]at h;split at h
 ·cases h
 ·rename_i t v;have O:=u.env.evB v;split at h
  ·refine Mj O (λe=>?_) (λe=>?_)
   ·rw[e]at h;exact M R b st rt K r ρ env w Q h u (λe x ρ' j w' L P=>D e x ρ' j w' L (P.mono q)) F
   ·rw[e]at h;exact N R b st rt K r ρ env w Q h u (λe x ρ' j w' L P=>D e x ρ' j w' L (P.mono s)) F
  ·rename_i f _;dsimp only at h;split at h
   ·cases h
   ·rename_i p I;have n:=(Sl h).1;replace h:=(Sl h).2;simp only[A9]at n;cases hx:f.esc with
    |true=>
     rw[hx]at h;simp only[cond_true]at h;obtain⟨y,l,A⟩:=A1 h;have d:∀(g:Ai) (z:Sum (VT f.C6) R0),Option.map Ej (Ho f.C6 {p.2 with env:=Dp (Cz f.C6++(wr a++wr c)) st.env} g)=Aa z->∃i,Ho f.C6 {p.2 with env:=Dp (Cz f.C6++(wr a++wr c)) st.env} g=Aa i/\(Ej i:Sum (VT f.C6) R0)=z:=λg z S=>Up S;have k:∀i,(Ej i:Sum (VT f.C6) R0)=y->K Ab (Hn f.C6 i {p.2 with env:=Dp (Cz f.C6++(wr a++wr c)) st.env})=Aa r:=λi e=>by rw[<-e]at A;exact A
     have G:∀H,Aa (Bj H:Sum (VT f.C6) R0)=Aa y->rt H=Aa r:=λH e=>by cases e;exact A
     refine Mj O (λe=>?_) (λe=>?_)
     ·rw[e]at l;exact Am2 M q u I n.1 n.2 d l k G D F
     ·rw[e]at l;exact Am2 N s u I n.1 n.2 d l k G D F
    |false=>
     rw[hx]at h;simp only[cond_false]at h;obtain⟨y,l,A⟩:=A1 h;have d:∀g z,Ho f.C6 {p.2 with env:=Dp (Cz f.C6++(wr a++wr c)) st.env} g=Aa z->∃i,Ho f.C6 {p.2 with env:=Dp (Cz f.C6++(wr a++wr c)) st.env} g=Aa i/\id i=z:=λg z S=>⟨z,S,rfl⟩;have k:∀i,id i=y->K Ab (Hn f.C6 i {p.2 with env:=Dp (Cz f.C6++(wr a++wr c)) st.env})=Aa r:=λi e=>by rw[<-e]at A;exact A
     refine Mj O (λe=>?_) (λe=>?_)
     ·rw[e]at l;exact Am2 M q u I n.1 n.2 d l k (λH e=>by cases e) D F
     ·rw[e]at l;exact Am2 N s u I n.1 n.2 d l k (λH e=>by cases e) D F
theorem Bil{v wl} {p:List A5×Ai}{s1 st' ρ1 ls0 env0 env' w0 w' y}
  (g:Inv B Af ρ {p.2 with env:=Dp (Cz v++wl) st.env} v ls0 env0 w0) (b:J8 s1=true) (hx:Ext ρ ρ1) (c:G3 {p.2 with env:=Dp (Cz v++wl) st.env} s1)
  (h:∀t sv,Bo (Dp (Cz v++wl) st.env) t=Aa sv->Bo s1.env t=Aa sv) (a:Nx B Af wl ρ1 s1 ρ' st' env' w') (i:Ho v {p.2 with env:=Dp (Cz v++wl) st.env} st'=Aa y):
  Inv B Af ρ {p.2 with env:=Dp (Cz v++wl) st.env} v (S5 (Nf _ y)) env' w':=
 g.back b c.own a.M9 (hx.trans a.ext) a.grow (by
  obtain⟨x,e⟩:=a.grow.Bg;obtain⟨z,f⟩:=c.grow.Bg;exact⟨x++z,by rw[e,f,Ci]⟩) (λt sv d=>by
  rcases a.fr t (Agi d).2 with q|q
  ·exact .inl q
  ·exact .inr (by rw[q];exact h t sv d)) i
theorem G3.grow0 {p:List A5×Ai}{e s} (d:∀c∈p.2.own,c∈st.own) (a:p.2= {st with own:=p.2.own}) (h:G3 {p.2 with env:=e} s):Be st s:=by
 refine Be.trans (b:= {p.2 with env:=e}) ⟨?_,λc f _=>⟨c,d c f,.inl rfl⟩,?_⟩ h.grow
 ·show st.Ak<=p.2.Ak;rw[a];exact Ef _
 ·show∃x,p.2.Bg=x++st.Bg;rw[a];exact⟨[],rfl⟩
theorem Bb6{c} (hc:RunOk B Af C De c){b v p} (hs:Sat B Af ρ st env w) (hp:Mv (Dp (Cz v++wr c) st.env) v st=Aa p) (D:S1 (wr c) (Cz v)=true)
  {x0:VT v} (T:Xs (Aao v) (Z8 p.1)=Aa x0){R1} {inj:VT v->R1}{rt1}{go out}{f}{y}
  (hf:∀x z,f x=Aa z->J8 (Hn v x {p.2 with env:=Dp (Cz v++wr c) st.env})=true/\run C De c b (Hn v x {p.2 with env:=Dp (Cz v++wr c) st.env}) rt1 (T7 b go out)=Aa z)
  (L:∀i z,go i=Aa z->∃a,Ho v {p.2 with env:=Dp (Cz v++wr c) st.env} i=Aa a/\z=.go a)
  (u:∀i z,out i=Aa z->∃a,Ho v {p.2 with env:=Dp (Cz v++wr c) st.env} i=Aa a/\z=.out (inj a))
  (S:∀F z,rt1 F=Aa z->∃q,z=.out q/\(q=y->rt F=Aa r)) (h:Cp f x0=Aa y)
  (I:∀a,inj a=y->K (Aa b) (Hn v a {p.2 with env:=Dp (Cz v++wr c) st.env})=Aa r) (hK:KOk B Af (wr c) ρ st K r Q) (hR:ROk B Af ρ st De rt r Q):WC prog C.n (.loop c) Q env w:=by
 obtain⟨hI,h1,h2⟩:=Inv.enter hs hp λt sv G=>(Wt G).2;rw[<-Ap3 (ls:=p.1),<-Ah7 T]at hI;obtain⟨n,hn⟩:=Bb8 h;refine Bit (α:=Nat×VT v) (λs env w=>Inv B Af ρ {p.2 with env:=Dp (Cz v++wr c) st.env} v (S5 (Nf _ s.2)) env w/\Lk f s.1 s.2=Aa y) (λs=>s.1) (n,x0) ⟨hI,hn⟩ ?_;rintro ⟨m,x⟩ env1 w1 ⟨hI1,hm⟩;obtain⟨m',z,rfl,hz,k⟩:=B0l hm;obtain⟨P,A⟩:=hf x z hz;obtain⟨V,X,a2,Y,a4⟩:=hI1.M9;refine hc _ b _ rt1 _ z V env1 w1 _ A a2 (λe g ρ' d w' l O=>?_) λg F ρ' d w' k1 k2 k3 k4 k5=>?_
 ·have o:∀a,Ho v {p.2 with env:=Dp (Cz v++wr c) st.env} g=Aa a->Inv B Af ρ {p.2 with env:=Dp (Cz v++wr c) st.env} v (S5 (Nf _ a)) d w':=λa U=>
   Bil hI1 P X Y (λt sv G=>(a4 t (Agi G).1).trans G) O U
  cases e with
  |none=>obtain⟨a,H,rfl⟩:=L g z l;exact⟨(m',a),Atm _,o a H,k⟩
  |some j=>simp only[T7]at l;have M:=(bt l).1;replace l:=(bt l).2;obtain⟨a,H,rfl⟩:=u g z l;obtain⟨W,N⟩:=Amy h1 h2 D (o a H);have M:=Br M;subst M;exact hK (Aa _) _ W d w' (I a (D1.inj k)) N
 ·obtain⟨q,rfl,hq⟩:=S F z k2;exact hR g F ρ' d w' k1 (hq (D1.inj k)) k3 (X.trans k4) ((Y.grow0 h1 h2).trans k5)
theorem Bx3{c k n e d} (h:Aga c=Aa (k,n,e,d)):∃id t u ty pos af rest,c=.seq (.region id #[⟨Aa d,.binOp .lss t (.tmp k) (.tmp n) u,ty,pos,af,Ab⟩] false) (.seq (.cond (.tmp d) .skip (.exit e)) rest):=by
 unfold Aga at h;split at h
 ·rename_i id b c' i rest;split at h
  ·rename_i g t k' n' u ty pos af a;have f:=(bt h).1;replace h:=(bt h).2;cases h;cases Br f;refine⟨id,t,u,ty,pos,af,rest,?_⟩;have:b=b.toList.toArray:=by simp
   rw[this,a]
  ·cases h
 ·cases h
theorem Bx9{c k n e d N} (h:Aga c=Aa (k,n,e,d)) (o:C1 d N=true){i j} (f:lk env k=Aa (.int .i64 i)) (g:lk env n=Aa (.int .i64 j)) (a:¬i<j) (p:Q (.exit e) ((d,.bool false)::env) w):WC prog N c Q env w:=by
 obtain⟨id,t,u,ty,pos,af,rest,rfl⟩:=Bx3 h;refine Ir (A1r (l:=[_]) (wv o (Azh f g) (A1u ?_)));show WC _ _ _ Q _ w;have b:(Value.bool (decide (i<j)))=.bool false:=by simp[a]
 rw[b];exact Ir (Cdk (by simp[ev,lk]) (Bis p))
theorem B0k{u x} (h:Agf u x=true):∃k q,x=Aa (.sx u k q):=by
 unfold Agf at h;split at h
 ·rename_i a k q;cases Br h;exact⟨k,q,rfl⟩
 ·cases h
theorem Avl{se} {s:Nat}{x} (h:evC se (.tmp s)=Aa x):Bo se s=Aa (.v (.c x)):=by
 unfold evC at h;split at h
 ·rename_i y a;cases h;exact a
 ·cases h
theorem A98{c} (hc:RunOk B Af C De c){b v p} (hs:Sat B Af ρ st env w) (hp:Mv (Dp (Cz v++wr c) st.env) v st=Aa p) (I:S1 (wr c) (Cz v)=true)
  {x0:VT v} (c7:Xs (Aao v) (Z8 p.1)=Aa x0){ks ns d hh n} (L:Aga c=Aa (ks,ns,b,d)) (hd:C1 d C.n=true) (b5:Bn (Cz v) d=false) (b6:Bn (wr c) d=true) (c0:Bn (wr c) ks=true)
  (c1:evC (Dp (Cz v++wr c) st.env) (.tmp ns)=Aa (.ln hh n)) (a8:evC st.env (.tmp ks)=Aa (.i .i64 0)){R1}{inj}{rt1} {go out:Ai->Option (Lr (VT v) R1)}{f}{y}
  (hf:∀k x z,f k x=Aa z->J8 (Hn v x {p.2 with env:=Dp (Cz v++wr c) st.env})=true/\run C De c b (Y4 ks k hh (Hn v x {p.2 with env:=Dp (Cz v++wr c) st.env})) rt1 (T7 b (λg=>bif Agf (Hn v x {p.2 with env:=Dp (Cz v++wr c) st.env}).Ak (evC g.env (.tmp ks))then go g else Ab) out)=Aa z)
  (b7:∀g z,go g=Aa z->∃a,Ho v {p.2 with env:=Dp (Cz v++wr c) st.env} g=Aa a/\z=.go a)
  (W:∀g z,out g=Aa z->∃a,Ho v {p.2 with env:=Dp (Cz v++wr c) st.env} g=Aa a/\z=.out (inj a))
  (c5:∀r0 z,rt1 r0=Aa z->∃q,z=.out q/\(q=y->rt r0=Aa r)) (h:A2 f inj n 0 x0=Aa y)
  (T:∀a,inj a=y->K (Aa b) (Hn v a {p.2 with env:=Dp (Cz v++wr c) st.env})=Aa r) (hK:KOk B Af (wr c) ρ st K r Q) (hR:ROk B Af ρ st De rt r Q):WC prog C.n (.loop c) Q env w:=by
 obtain⟨hI,h1,h2⟩:=Inv.enter hs hp λt sv H=>(Wt H).2;rw[<-Ap3 (ls:=p.1),<-Ah7 c7]at hI;have b8:lk env ks=Aa (iv ((0:Nat):Int)):=by obtain⟨u,u1,u2⟩:=hs.env _ _ (Avl a8);cases u2;exact u1
 refine Bit (α:=Nat×Nat×VT v) (λs env w=>Inv B Af ρ {p.2 with env:=Dp (Cz v++wr c) st.env} v (S5 (Nf _ s.2.2)) env w/\lk env ks=Aa (iv (s.2.1:Int))/\s.2.1+s.1=n/\A2 f inj s.1 s.2.1 s.2.2=Aa y) (λs=>s.1) (n,0,x0) ⟨hI,b8,by simp,h⟩ ?_;rintro ⟨m,k,x⟩ env1 w1 ⟨hI1,hk,hkm,hm⟩;obtain⟨u,u1,u2,q,q1,q2,q3⟩:=hI1.Hw _ _ (Avl c1);subst u2;replace hkm:k+m=n:=hkm;cases m with
 |zero=>
  have b9:k=n:=hkm;refine Bx9 L hd hk u1 (by subst b9;exact Int.lt_irrefl _) ?_
  have b4:Bo (Dp (Cz v++wr c) st.env) d=Ab:=by
   cases hq:Bo (Dp (Cz v++wr c) st.env) d with
   |none=>rfl
   |some sv=>have:=(Agi hq).2;rw[b6]at this;cases this
  obtain⟨P,M⟩:=Amy h1 h2 I (hI1.put (d:=d) (u:=.bool false) b5 b4);exact hK (Aa b) _ P _ w1 (T x (D1.inj hm)) M
 |succ m'=>
  obtain⟨z,hz,O⟩:=A1 (x:=f k x) hm;obtain⟨c3,X⟩:=hf k x z hz;obtain⟨F,a1,a2,a3,a4⟩:=hI1.M9;have A:=Ext.one F (.num k);have l:=Gn F (.num k);rw[a2.len]at l;have c2:∀t,Bn (wr c) t=false->Ay ks t=false:=λt H=>Nl λe=>by rw[<-e,c0]at H;cases H
  have Y:Sat B Af (F++[.num k]) (Y4 ks k hh (Hn v x {p.2 with env:=Dp (Cz v++wr c) st.env})) env1 w1:=by obtain⟨m0,c9,b1,b2,b3,hM⟩:=a2.mem;refine⟨by simp[Y4,<-a2.len,Hn],EnvOk.set (a2.env.mono A) hk ?_,m0,c9,OwnOk.mono A (λ_ h=>h) b1,b2.mono A λ_ h=>h,b3,hM⟩;exact⟨rfl,l,q,A.get (a1.get q1),by omega,by omega⟩
  have V:Nx B Af (wr c) F (Hn v x {p.2 with env:=Dp (Cz v++wr c) st.env}) (F++[.num k]) (Y4 ks k hh (Hn v x {p.2 with env:=Dp (Cz v++wr c) st.env})) env1 w1:=
   ⟨Y,A,⟨N8 _,λc' h _=>⟨c',h,.inl rfl⟩,[],rfl⟩,λt H=>.inr (by simp only[Y4,Bo,c2 t H,cond_false])⟩
  refine hc _ b _ rt1 _ z _ env1 w1 _ X Y (λe D ρ' o w' G N=>?_) λD r0 ρ' o w' k1 k2 k3 k4 k5=>?_
  ·have S:∀a,Ho v {p.2 with env:=Dp (Cz v++wr c) st.env} D=Aa a->Inv B Af ρ {p.2 with env:=Dp (Cz v++wr c) st.env} v (S5 (Nf _ a)) o w':=λa c8=>
    Bil hI1 c3 a1 a3 (λt sv H=>(a4 t (Agi H).1).trans H) (V.trans N) c8
   cases e with
   |none=>simp only[T7]at G;have U:=(bt G).1;replace G:=(bt G).2;obtain⟨a,e1,rfl⟩:=b7 D z G;refine⟨(m',k+1,a),Atm _,S a e1,?_,by show k+1+m'=n;omega,O⟩;obtain⟨k',q',c6⟩:=B0k U;obtain⟨u',v1,v2,v3⟩:=N.M9.env _ _ (Avl c6);have v4:=N.ext.get l;have v5:Aa (HV.num k')=Aa (HV.num k):=v3.symm.trans v4;cases v5;rw[v1,v2];show Aa (iv ((k:Int)+1))=Aa (iv ((k+1:Nat):Int));rw[A5u];rfl
   |some j=>simp only[T7]at G;have U:=(bt G).1;replace G:=(bt G).2;obtain⟨a,e1,rfl⟩:=W D z G;obtain⟨P,M⟩:=Amy h1 h2 I (S a e1);have U:=Br U;subst U;exact hK (Aa _) _ P o w' (T a (D1.inj O)) M
  ·obtain⟨q,rfl,hq⟩:=c5 r0 z k2;exact hR D r0 ρ' o w' k1 (hq (D1.inj O)) k3 (a1.trans (A.trans k4)) (((a3.grow0 h1 h2).trans V.grow).trans k5)
theorem B1q{c} (F:RunOk B Af C De c):RunOk B Af C De (.loop c):=λR b st rt K r ρ env w Q h I A D=>by
 rw[run]at h;split at h
 ·cases h
 ·rename_i G _;dsimp only at h;split at h
  ·cases h
  ·rename_i p H;have o:=(Sl h).1;replace h:=(Sl h).2;split at h
   ·cases h
   ·rename_i x0 s;split at h
    ·rename_i Y ns X;split at h
     ·rename_i k' n' e d q n j v u;have S:=(bt h).1;replace h:=(bt h).2;simp only[A9,L2]at S;obtain⟨⟨⟨T,U⟩,V,M,N⟩,O,P⟩:=S;have g:=Br T;have e2:=Br U;have W:=Br V;rw[<-g,<-e2,W]at j;cases hx:G.esc with
      |true=>
       rw[hx]at h;simp only[cond_true]at h;obtain⟨y,t,i⟩:=A1 h
       exact A98 F I H o s j M N O P v u (inj:=λx=>(Ej x:Sum (VT G.C6) _)) (λk x z a=>Sl a) (λl z a=>by obtain⟨f,g,e2⟩:=Up a;exact⟨f,g,e2.symm⟩) (λl z a=>by obtain⟨f,g,e2⟩:=Up a;exact⟨f,g,e2.symm⟩)
        (λL z a=>by cases a;exact⟨_,rfl,λe=>by rw[<-e]at i;exact i⟩) t (λf e=>by rw[<-e]at i;exact i) A D
      |false=>
       rw[hx]at h;simp only[cond_false]at h;obtain⟨y,t,i⟩:=A1 h
       exact A98 F I H o s j M N O P v u (inj:=λx=>x) (λk x z a=>Sl a) (λl z a=>by obtain⟨f,g,e2⟩:=Up a;exact⟨f,g,e2.symm⟩) (λl z a=>by obtain⟨f,g,e2⟩:=Up a;exact⟨f,g,e2.symm⟩)
        (λL z a=>by cases a) t (λf e=>by rw[<-e]at i;exact i) A D
     ·cases h
    ·cases hx:G.esc with
     |true=>
      rw[hx]at h;simp only[cond_true]at h;obtain⟨y,t,i⟩:=A1 h
      exact Bb6 F I H o s (inj:=λx=>(Ej x:Sum (VT G.C6) _)) (λx z a=>Sl a) (λl z a=>by obtain⟨f,g,e2⟩:=Up a;exact⟨f,g,e2.symm⟩) (λl z a=>by obtain⟨f,g,e2⟩:=Up a;exact⟨f,g,e2.symm⟩)
       (λL z a=>by cases a;exact⟨_,rfl,λe=>by rw[<-e]at i;exact i⟩) t (λf e=>by rw[<-e]at i;exact i) A D
     |false=>
      rw[hx]at h;simp only[cond_false]at h;obtain⟨y,t,i⟩:=A1 h
      exact Bb6 F I H o s (inj:=λx=>x) (λx z a=>Sl a) (λl z a=>by obtain⟨f,g,e2⟩:=Up a;exact⟨f,g,e2.symm⟩) (λl z a=>by obtain⟨f,g,e2⟩:=Up a;exact⟨f,g,e2.symm⟩)
       (λL z a=>by cases a) t (λf e=>by rw[<-e]at i;exact i) A D
theorem Bfl (x:La Af C) c:RunOk B Af C De c:=by
 induction c with
 |skip=>exactλR b st rt K r ρ env w Q h d e j=>Rg (e Ab st ρ env w h (Nx.refl d))
 |region id z q=>exactλR b st rt K r ρ env w Q h d e j=>B5z x h d λp ρ' g w' k l s u v=>e Ab p ρ' g w' k ⟨l,s,u,λt y=>.inr (v t y)⟩
 |seq a c n f=>exact B7x n f
 |cond o a c n f=>exact Bsk n f
 |block i c f=>exact Bry f
 |loop c f=>exact B1q f
 |exit i=>exactλR b st rt K r ρ env w Q h d e j=>Bis (e (Aa i) st ρ env w h (Nx.refl d))
 |ret=>intro R b st rt K r ρ env w Q h d e j;obtain⟨A,k,l⟩:=A1 h;exact P9 (j st A ρ env w k l d (Ext.refl ρ) (Be.refl st))
 |_=>exactλR b st rt K r ρ env w Q h d e j=>by cases h
end
end
section
open Go.RowKit
section
variable {ρ ρ':List HV} {rs rs':List Rd} {B:Dn} {Af:List Rd} {st:Ai} {env:Env} {w:World} {m:List As}
def Cell.det:Cell->Bool
 |.i _ _=>true
 |.y _=>true
 |.b _=>true
 |.s _=>true
 |.sl _=>true
 |_=>false
theorem Bs2 {c:Cell}{u v} (h:c.det=true) (a:c.Den ρ u) (d:c.Den ρ v):u=v:=by
 cases c with
 |i _ _=>exact a.trans d.symm
 |y _=>exact a.trans d.symm
 |b _=>exact a.trans d.symm
 |s _=>exact a.trans d.symm
 |sl k=>obtain⟨s,e,rfl⟩:=a;obtain⟨s',k2,rfl⟩:=d;rw[e]at k2;cases k2;rfl
 |_=>cases h
theorem A8b:∀ {cs:List Cell} {us vs:List Value},cs.all Cell.det=true->All2 (Cell.Den ρ) cs us->All2 (Cell.Den ρ) cs vs->us=vs
 |[],[],[],_,_,_=>rfl
 |c::cs,u::us,v::vs,h,⟨h1,h2⟩,⟨k1,k2⟩=>by simp only[K5,A9]at h;rw[Bs2 h.1 h1 k1,A8b h.2 h2 k2]
 |[],_::_,_,_,h,_=>h.elim
 |[],[],_::_,_,_,h=>h.elim
 |_::_,[],_,_,h,_=>h.elim
 |_::_,_::_,[],_,_,h=>h.elim
theorem T3{o}:∀ {ls:List A5} {st:Ai},(B6 o ls st).1.all Cell.det=true
 |[],_=>rfl
 |.i _::r,st=>by simp[B6,Cell.det,T3 (ls:=r)]
 |.b _::r,st=>by simp[B6,Cell.det,T3 (ls:=r)]
 |.s _::r,st=>by simp[B6,Cell.det,T3 (ls:=r)]
 |.y _::r,st=>by simp[B6,Cell.det,T3 (ls:=r)]
 |.sl _ _::r,st=>by simp[B6,Cell.det,T3 (ls:=r)]
theorem Oa{o}:∀ {ls:List A5} {st:Ai},∀c∈st.own,c∈(B6 o ls st).2.own
 |[],_,_,h=>h
 |.i _::r,st,c,h=>Oa (ls:=r) c h
 |.b _::r,st,c,h=>Oa (ls:=r) c h
 |.s _::r,st,c,h=>Oa (ls:=r) c h
 |.y _::r,st,c,h=>Oa (ls:=r) c h
 |.sl _ _::r,st,c,h=>Oa (ls:=r) c (by
   cases o with
   |true=>exact Bf _ h
   |false=>exact h)
def BxOk (ρ:List HV) (own:List Chunk) (x:Nat×Nat×BM×Ty) (y:Bx):Prop:=(x.2.2.1=.le/\∃s:Sv,ρ[x.1]?=Aa (.row s)/\y.2.2=[s.v])\/(x.2.2.1≠ .le/\ρ[x.1]?=Aa (.box y.1)/\∃cs,Chunk.box x.1 x.2.1 cs∈own/\All2 (Cell.Den ρ) cs y.2.2/\cs.all Cell.det=true)
theorem BxOk.box{ρ own x y} (h:BxOk ρ own x y) (b:x.2.2.1≠ .le):ρ[x.1]?=Aa (.box y.1)/\∃cs,Chunk.box x.1 x.2.1 cs∈own/\All2 (Cell.Den ρ) cs y.2.2/\cs.all Cell.det=true:=by
 rcases h with⟨a,_⟩|⟨_,h⟩
 ·exact absurd a b
 ·exact h
theorem BxOk.mono (hx:Ext ρ ρ'){own own'} (h:∀c∈own,c∈own'){x y} (k:BxOk ρ own x y):BxOk ρ' own' x y:=by
 rcases k with⟨a,s,b,k2⟩|⟨a,b,cs,k2,d,e⟩
 ·exact .inl ⟨a,s,hx.get b,k2⟩
 ·exact .inr ⟨a,hx.get b,cs,h _ k2,d.mono λ_ _=>Cell.Den.mono hx,e⟩
def IniOk (X S:Bs) (w:World) (Af:List Rd) (ρ:List HV) (st:Ai) (z:Ini) (ps:List PK) (a Bu:List Value) (b:List Bx):Prop:=
 ∃ρ' rs' m',Ext ρ ρ'/\ρ'.length=z.st.Ak/\OwnOk ρ' rs' z.st.own m'/\RdsOk ρ' z.st.Bg rs'/\(∀r∈Af,r∈rs')/\St ⟨w,X,S⟩ m' rs' w/\All2 (V1.Den ρ') z.vs a/\All2 (CapIs ρ') z.Bu Bu/\All2 (BxOk ρ' z.st.own) z.bx b/\z.bx.map (·.2.2.1)=Lm ps/\∀c∈st.own,c∈z.st.own
theorem Bz4{X S ps a o Bu own bx} (h:Gr S w ps a o Bu own bx):∀ {st:Ai} {ρ:List HV} {m:List As} {rs:List Rd},ρ.length=st.Ak->OwnOk ρ rs st.own m->RdsOk ρ st.Bg rs->(∀r∈Af,r∈rs)->St ⟨w,X,S⟩ (own++m) rs w->IniOk X S w Af ρ st (Ks ps a st) ps o Bu bx:=by
 induction h with
 |nil=>intro st ρ m rs A D G H y;exact⟨ρ,rs,m,Ext.refl ρ,A,D,G,H,y,trivial,trivial,trivial,rfl,λ_ h=>h⟩
 | @ro t ps x q vs o Bu own bx h _ T=>intro st ρ m rs A D G H y;have hr:∀r'∈rs,r'∈rX vs (fD t x)::rs:=λ_ h=>Bf _ h;have u:St ⟨w,X,S⟩ (m++own) (rX vs (fD t x)::rs) w:=(y.addE (r:=rX vs (fD t x)) h).perm Gg;obtain⟨l,rs1,I,K,U,Y,V,a6,a7,a8,a9,c6⟩:=Yl (x0:=own) (Cf t x) st ρ vs _ A (OwnOk.mono (Ext.refl ρ) hr D) (G.mono (Ext.refl ρ) hr) (λS' c1=>by rw[<-Gl];exact c1 _ (Bm ..)) u;obtain⟨i,k,m2,p,L,M,N,O,P,Q,C,R,j,g⟩:=T U Y V (λr c3=>K r (hr r (H r c3))) (a6.perm Gg);exact⟨i,k,m2,I.trans p,L,M,N,O,P,⟨(Axv a7 (by rw[Zz h,Fu])).mono p,Q⟩,C,R,j,λc W=>g c (Oa c W)⟩
 | @ow t ps x q vs o Bu own bx h _ T=>
  intro st ρ m rs A D G H y;have u:St ⟨w,X,S⟩ (Bc ((Cf t x).map A5.ce) vs++(m++own)) rs w:=by rw[<-Gl];exact y.perm (by rw[Ci];exact Gg.append_left _)
  obtain⟨l,m1,I,K,U,Y,V,a6,a7,a8⟩:=T4 (x:=own) (Cf t x) st ρ vs m A D (by rw[Kz,h]) u;obtain⟨i,k,m2,p,L,M,N,O,P,Q,C,R,j,g⟩:=T K U (by rw[a8];exact G.mono I λ_ h=>h) H (Y.perm Gg);exact⟨i,k,m2,I.trans p,L,M,N,O,P,⟨(Axv V h).mono p,Q⟩,C,R,j,λc W=>g c (Oa c W)⟩
 | @bo t ps x q b e vs o Bu own bx h _ T=>
  intro st ρ m rs A D G H y;have u:St ⟨w,X,S⟩ (Bc ((Cf t x).map A5.ce) vs++(m++(Cc b vs.toArray e::own))) rs w:=by rw[<-Gl];refine y.perm ?_;simp only[Fi,Ci];refine(Ct.symm).trans (List.Perm.append_left _ ?_);exact(List.Perm.cons _ Gg).trans Ct.symm
  obtain⟨l,m1,I,K,U,Y,V,a6,a7,a8⟩:=T4 (x:=Cc b vs.toArray e::own) (Cf t x) st ρ vs m A D (by rw[Kz,h]) u;have hx:=Ext.one l (.box b);have d:=Gn l (.box b);rw[K]at d;obtain⟨i,k,m2,p,L,M,N,O,P,Q,C,R,j,g⟩:=T (st:= {(B6 true (Cf t x) st).2 with own:=.box (B6 true (Cf t x) st).2.Ak (B6 true (Cf t x) st).2.Ak (B6 true (Cf t x) st).1::(B6 true (Cf t x) st).2.own,Ak:=(B6 true (Cf t x) st).2.Ak+1}) (m:=Cc b vs.toArray e::m1) (by simp[K]) ⟨⟨b,e,vs,d,V.mono λ_ _=>Cell.Den.mono hx,rfl⟩,OwnOk.mono hx (λ_ h=>h) U⟩ (by rw[show(_:Ai).Bg=_ from a8];exact G.mono (I.trans hx) λ_ h=>h) H (Y.perm (Ct.trans ((List.Perm.cons _ Gg).trans Ct.symm)));exact⟨i,k,m2,(I.trans hx).trans p,L,M,N,O,P,⟨⟨b,p.get d,rfl⟩,Q⟩,C,⟨.inr ⟨by simp,p.get d,_,g _ (Bm ..),V.mono λ_ _=>Cell.Den.mono (hx.trans p),T3⟩,R⟩,congrArg _ j,λc W=>g c (Bf _ (Oa c W))⟩
 | @ea t ps x q b e vs o Bu own bx h _ T=>
  intro st ρ m rs A D G H y;have u:St ⟨w,X,S⟩ (Bc ((Cf t x).map A5.ce) vs++(m++(Cc b vs.toArray e::own))) rs w:=by rw[<-Gl];refine y.perm ?_;simp only[Fi,Ci];refine(Ct.symm).trans (List.Perm.append_left _ ?_);exact(List.Perm.cons _ Gg).trans Ct.symm
  obtain⟨l,m1,I,K,U,Y,V,a6,a7,a8⟩:=T4 (x:=Cc b vs.toArray e::own) (Cf t x) st ρ vs m A D (by rw[Kz,h]) u;have hx:=Ext.one l (.box b);have d:=Gn l (.box b);rw[K]at d;obtain⟨i,k,m2,p,L,M,N,O,P,Q,C,R,j,g⟩:=T (st:= {(B6 true (Cf t x) st).2 with own:=.box (B6 true (Cf t x) st).2.Ak (B6 true (Cf t x) st).2.Ak (B6 true (Cf t x) st).1::(B6 true (Cf t x) st).2.own,Ak:=(B6 true (Cf t x) st).2.Ak+1}) (m:=Cc b vs.toArray e::m1) (by simp[K]) ⟨⟨b,e,vs,d,V.mono λ_ _=>Cell.Den.mono hx,rfl⟩,OwnOk.mono hx (λ_ h=>h) U⟩ (by rw[show(_:Ai).Bg=_ from a8];exact G.mono (I.trans hx) λ_ h=>h) H (Y.perm (Ct.trans ((List.Perm.cons _ Gg).trans Ct.symm)));exact⟨i,k,m2,(I.trans hx).trans p,L,M,N,O,P,⟨⟨b,p.get d,rfl⟩,Q⟩,C,R,j,λc W=>g c (Bf _ (Oa c W))⟩
 | @li t ps x q b e vs o Bu own bx h _ T=>
  intro st ρ m rs A D G H y;have u:St ⟨w,X,S⟩ (Bc ((Cf t x).map A5.ce) vs++(m++(Cc b vs.toArray e::own))) rs w:=by rw[<-Gl];refine y.perm ?_;simp only[Fi,Ci];refine(Ct.symm).trans (List.Perm.append_left _ ?_);exact(List.Perm.cons _ Gg).trans Ct.symm
  obtain⟨l,m1,I,K,U,Y,V,a6,a7,a8⟩:=T4 (x:=Cc b vs.toArray e::own) (Cf t x) st ρ vs m A D (by rw[Kz,h]) u;have hx:=Ext.one l (.box b);have d:=Gn l (.box b);rw[K]at d;obtain⟨i,k,m2,p,L,M,N,O,P,Q,C,R,j,g⟩:=T (st:= {(B6 true (Cf t x) st).2 with own:=.box (B6 true (Cf t x) st).2.Ak (B6 true (Cf t x) st).2.Ak (B6 true (Cf t x) st).1::(B6 true (Cf t x) st).2.own,Ak:=(B6 true (Cf t x) st).2.Ak+1}) (m:=Cc b vs.toArray e::m1) (by simp[K]) ⟨⟨b,e,vs,d,V.mono λ_ _=>Cell.Den.mono hx,rfl⟩,OwnOk.mono hx (λ_ h=>h) U⟩ (by rw[show(_:Ai).Bg=_ from a8];exact G.mono (I.trans hx) λ_ h=>h) H (Y.perm (Ct.trans ((List.Perm.cons _ Gg).trans Ct.symm)));exact⟨i,k,m2,(I.trans hx).trans p,L,M,N,O,P,⟨⟨b,p.get d,rfl⟩,Q⟩,C,R,j,λc W=>g c (Bf _ (Oa c W))⟩
 | @br mm hm t ps x q b e vs o Bu own bx h _ T=>
  cases mm
  case ow=>cases hm
  case le=>cases hm
  all_goals
   intro st ρ m rs A D G H y;have hr:∀r'∈rs,r'∈rX vs (fD t x)::rs:=λ_ h=>Bf _ h;have u:St ⟨w,X,S⟩ (m++(Cc b vs.toArray e::own)) (rX vs (fD t x)::rs) w:=(y.addE (r:=rX vs (fD t x)) h).perm Gg;obtain⟨l,rs1,I,K,U,Y,V,a6,a7,a8,a9,c6⟩:=Yl (x0:=Cc b vs.toArray e::own) (Cf t x) st ρ vs _ A (OwnOk.mono (Ext.refl ρ) hr D) (G.mono (Ext.refl ρ) hr) (λS' c1=>by rw[<-Gl];exact c1 _ (Bm ..)) u;have hx:=Ext.one l (.box b);have d:=Gn l (.box b);rw[U]at d;obtain⟨i,k,m2,p,L,M,N,O,P,Q,C,R,j,g⟩:=T (st:= {(B6 false (Cf t x) st).2 with own:=.box (B6 false (Cf t x) st).2.Ak (B6 false (Cf t x) st).2.Ak (B6 false (Cf t x) st).1::(B6 false (Cf t x) st).2.own,Ak:=(B6 false (Cf t x) st).2.Ak+1}) (m:=Cc b vs.toArray e::m) (by simp[U]) ⟨⟨b,e,vs,d,a7.mono λ_ _=>Cell.Den.mono hx,rfl⟩,OwnOk.mono hx (λ_ h=>h) Y⟩ (V.mono hx λ_ h=>h) (λr c3=>K r (hr r (H r c3))) (a6.perm (Ct.trans ((List.Perm.cons _ Gg).trans Ct.symm)));exact⟨i,k,m2,(I.trans hx).trans p,L,M,N,O,P,⟨⟨b,p.get d,rfl⟩,Q⟩,C,⟨.inr ⟨by simp,p.get d,_,g _ (Bm ..),a7.mono λ_ _=>Cell.Den.mono (hx.trans p),T3⟩,R⟩,congrArg _ j,λc W=>g c (Bf _ (Oa c W))⟩
 | @fn f n ps q cs o Bu own bx h _ T=>
  intro st ρ m rs A D G H y;obtain⟨i,k,m2,p,L,M,N,O,P,Q,C,R,j,g⟩:=T A D G H y;have hl:(Ks ps q st).Bu.length-n=Bu.length:=by rw[C.len,Bt,h];omega
  have e1:All2 (CapIs i) ((Ks ps q st).Bu.drop ((Ks ps q st).Bu.length-n)) cs:=by have:=C.drop Bu.length;rw[List.drop_left]at this;rw[hl];exact this
  have e2:All2 (CapIs i) ((Ks ps q st).Bu.take ((Ks ps q st).Bu.length-n)) Bu:=by have:=C.take Bu.length;rw[A6l]at this;rw[hl];exact this
  exact⟨i,k,m2,p,L,M,N,O,P,⟨⟨cs,rfl,e1⟩,Q⟩,e2,R,j,g⟩
 | @co t ps x q b e vs o Bu own bx h _ T=>
  intro st ρ m rs A D G H y;have u:St ⟨w,X,S⟩ (Bc ((Cf t x).map A5.ce) vs++(m++(Cc b vs.toArray e::own))) rs w:=by rw[<-Gl];refine y.perm ?_;simp only[Fi,Ci];refine(Ct.symm).trans (List.Perm.append_left _ ?_);exact(List.Perm.cons _ Gg).trans Ct.symm
  obtain⟨l,m1,I,K,U,Y,V,a6,a7,a8⟩:=T4 (x:=Cc b vs.toArray e::own) (Cf t x) st ρ vs m A D (by rw[Kz,h]) u;have hx:=Ext.one l (.box b);have d:=Gn l (.box b);rw[K]at d;obtain⟨i,k,m2,p,L,M,N,O,P,Q,C,R,j,g⟩:=T (st:= {(B6 true (Cf t x) st).2 with own:=.box (B6 true (Cf t x) st).2.Ak (B6 true (Cf t x) st).2.Ak (B6 true (Cf t x) st).1::(B6 true (Cf t x) st).2.own,Ak:=(B6 true (Cf t x) st).2.Ak+1}) (m:=Cc b vs.toArray e::m1) (by simp[K]) ⟨⟨b,e,vs,d,V.mono λ_ _=>Cell.Den.mono hx,rfl⟩,OwnOk.mono hx (λ_ h=>h) U⟩ (by rw[show(_:Ai).Bg=_ from a8];exact G.mono (I.trans hx) λ_ h=>h) H (Y.perm (Ct.trans ((List.Perm.cons _ Gg).trans Ct.symm)));exact⟨i,k,m2,(I.trans hx).trans p,L,M,N,O,P,Q,⟨⟨b,p.get d,rfl⟩,C⟩,⟨.inr ⟨by simp,p.get d,_,g _ (Bm ..),V.mono λ_ _=>Cell.Den.mono (hx.trans p),T3⟩,R⟩,congrArg _ j,λc W=>g c (Bf _ (Oa c W))⟩
 | @cr mm hm t ps x q b e vs o Bu own bx h _ T=>
  cases mm
  case ow=>cases hm
  case le=>cases hm
  all_goals
   intro st ρ m rs A D G H y;have hr:∀r'∈rs,r'∈rX vs (fD t x)::rs:=λ_ h=>Bf _ h;have u:St ⟨w,X,S⟩ (m++(Cc b vs.toArray e::own)) (rX vs (fD t x)::rs) w:=(y.addE (r:=rX vs (fD t x)) h).perm Gg;obtain⟨l,rs1,I,K,U,Y,V,a6,a7,a8,a9,c6⟩:=Yl (x0:=Cc b vs.toArray e::own) (Cf t x) st ρ vs _ A (OwnOk.mono (Ext.refl ρ) hr D) (G.mono (Ext.refl ρ) hr) (λS' c1=>by rw[<-Gl];exact c1 _ (Bm ..)) u;have hx:=Ext.one l (.box b);have d:=Gn l (.box b);rw[U]at d;obtain⟨i,k,m2,p,L,M,N,O,P,Q,C,R,j,g⟩:=T (st:= {(B6 false (Cf t x) st).2 with own:=.box (B6 false (Cf t x) st).2.Ak (B6 false (Cf t x) st).2.Ak (B6 false (Cf t x) st).1::(B6 false (Cf t x) st).2.own,Ak:=(B6 false (Cf t x) st).2.Ak+1}) (m:=Cc b vs.toArray e::m) (by simp[U]) ⟨⟨b,e,vs,d,a7.mono λ_ _=>Cell.Den.mono hx,rfl⟩,OwnOk.mono hx (λ_ h=>h) Y⟩ (V.mono hx λ_ h=>h) (λr c3=>K r (hr r (H r c3))) (a6.perm (Ct.trans ((List.Perm.cons _ Gg).trans Ct.symm)));exact⟨i,k,m2,(I.trans hx).trans p,L,M,N,O,P,Q,⟨⟨b,p.get d,rfl⟩,C⟩,⟨.inr ⟨by simp,p.get d,_,g _ (Bm ..),a7.mono λ_ _=>Cell.Den.mono (hx.trans p),T3⟩,R⟩,congrArg _ j,λc W=>g c (Bf _ (Oa c W))⟩
 | @le t ps x q v o Bu own bx _ T=>
  intro st ρ m rs A D G H y;have c9:∃s:Sv,v=s.v:=by obtain⟨F,hF⟩:=y.at' (Bm ..);obtain⟨a,cap,e,_⟩:=(Ar (sz t) (fD t) x).seen hF;exact⟨⟨a,x.length,cap⟩,e⟩
  obtain⟨s,rfl⟩:=c9;have hx:=Ext.one ρ (.row s);have hl:(ρ++[.row s])[st.Ak]?=Aa (.row s):=by have:=Gn ρ (.row s);rw[A]at this;exact this
  obtain⟨i,k,m2,p,L,M,N,O,P,Q,C,R,j,g⟩:=T (st:= {st with own:=.row st.Ak st.Ak t x []::st.own,Ak:=st.Ak+1}) (m:=oV (oC (Ar (sz t) (fD t) x) s.v) []::m) (by simp[A]) ⟨⟨s,[],hl,rfl,rfl⟩,OwnOk.mono hx (λ_ h=>h) D⟩ (G.mono hx λ_ h=>h) H ((St.z y Z.toV).perm Ct.symm);exact⟨i,k,m2,hx.trans p,L,M,N,O,P,⟨⟨s,p.get hl,rfl⟩,Q⟩,C,⟨.inl ⟨rfl,s,p.get hl,rfl⟩,R⟩,congrArg _ j,λc W=>g c (Bf _ W)⟩
end
end
section
open Go.RowKit
section
variable {ρ ρ':List HV} {rs rs':List Rd} {B:Dn} {Af:List Rd} {st:Ai} {env:Env} {w:World} {m:List As}
theorem Anp t:(Iw t).length=sz t:=by rw[<-Bcw t default,Gz,Kz]
theorem Ayn:∀ {a:List Ty} {cs:List Cell} {own:List Chunk} {p:List A5×List Chunk},Kv a cs own=Aa p->p.1.length=a.length
 |[],[],_,_,h=>by cases h;rfl
 |e::a,c::cs,own,p,h=>by unfold Kv at h;obtain⟨q,g,b⟩:=A1 h;obtain⟨z,d,f⟩:=A1 b;cases f;simp[Ayn d]
 |[],_::_,_,_,h=>by cases h
 |_::_,[],_,_,h=>by cases h
theorem Aou:∀ {a:List Ty} {cs:List Cell} {ls:List A5},Ot st a cs=Aa ls->ls.length=a.length/\ls.length=cs.length
 |[],[],_,h=>by cases h;exact⟨rfl,rfl⟩
 |e::a,c::cs,ls,h=>by unfold Ot at h;obtain⟨q,g,b⟩:=A1 h;obtain⟨z,d,f⟩:=A1 b;cases f;have:=Aou d;simp[this.1,<-this.2]
 |[],_::_,_,h=>by cases h
 |_::_,[],_,h=>by cases h
theorem Aos (j:Sat B Af ρ st env w):∀ {rv:List ResultVar} {vs:List V1},Xe st rv=Aa vs->∃c,RVs prog w env rv c/\All2 (V1.Den ρ) vs c
 |[],_,h=>by cases h;exact⟨[],trivial,trivial⟩
 |.tmp t::r,_,h=>by unfold Xe at h;obtain⟨v,x,f⟩:=A1 h;obtain⟨vs,y,F⟩:=A1 f;cases F;obtain⟨u,s,u2⟩:=j.env.ev1 x;obtain⟨c,p,k2⟩:=Aos j y;exact⟨u::c,⟨s,p⟩,u2,k2⟩
 |.cell a t::r,_,h=>by
  unfold Xe at h;split at h
  ·rename_i q ti hx X;obtain⟨cs,x,f⟩:=A1 h;have i:=Br (bt f).1;replace f:=(bt f).2;obtain⟨v,y,F⟩:=A1 f;obtain⟨vs,V,W⟩:=A1 F;cases W;obtain⟨c,p,k2⟩:=Aos j V;obtain⟨u,s,b,u2,rfl⟩:=j.env.evC hx;obtain⟨⟨d,S,L⟩,z,Y,_⟩:=Js X;obtain⟨m,rs,m1,m2,m3,Q⟩:=j.mem;obtain⟨b',e,us,N,O,P⟩:=Yo m1 x;rw[u2]at N;cases N;rcases Axn y O with⟨n,M,o⟩|⟨n,u,M,o⟩
   ·have T:us.length=ti.size:=by rw[<-O.len,i]
    have U:(us.drop 0).take ti.size=us:=by rw[Nh,<-T,Hd]
    rw[U]at o;cases g:ti.k with
    |struct l=>rw[g]at L;obtain⟨l',rfl,_⟩:=L;exact⟨_::c,⟨B53 S Y T s Q P,p⟩,o,k2⟩
    |_=>rw[g]at n;cases n
   ·exact⟨u::c,⟨B54 S (Apx L n) s Q P (by simpa using M),p⟩,o,k2⟩
  ·cases h
theorem Ah3:∀ {ks:List RK} {vs:List V1} {own:List Chunk} {p:(List (List A5)×List (List Cell))×List Chunk} {d:List Value} {m:List As},Aal ks vs own=Aa p->All2 (V1.Den ρ) vs d->OwnOk ρ rs own m->
  OwnLe own p.2/\∃n m',OwnOk ρ rs p.2 m'/\(∀w,Z w m (n++m'))/\∀c ls,Xd c ks p.1.1 p.1.2=Aa ls->∃a,RPack ks ls d n a/\∀S w,Reads ρ c S w->∀r∈a,r.ok S w
 |[],[],own,p,[],m,h,_,h1=>by cases h;exact⟨OwnLe.refl _,[],m,h1,λw=>zI,λc ls f=>by cases f;exact⟨[],⟨rfl,rfl,rfl⟩,λ_ _ _ _ h=>by cases h⟩⟩
 |k::ks,v::vs,own,p,u::d,m,h,⟨d1,d2⟩,h1=>by
  unfold Aal at h;cases U:k.bx with
  |true=>
   rw[U]at h;simp only[cond_true]at h;split at h
   ·rename_i hh;obtain⟨X,q1,rfl⟩:=d1;obtain⟨z,V,h⟩:=A1 h;obtain⟨l0,_,b,e,us,m0,k0,F,n1,n2⟩:=T5 V h1;rw[q1]at k0;cases k0;cases o:k.own with
    |true=>rw[o]at h;simp only[cond_true]at h;obtain⟨y,s,h⟩:=A1 h;obtain⟨q,t,h⟩:=A1 h;cases h;obtain⟨l1,l2,m1,k1,k2⟩:=Q1 s F n1;obtain⟨O,n,m2,L,M,N⟩:=Ah3 t d2 k1;refine⟨l0.trans (l1.trans O),[Cc X us.toArray e]++(Bc (y.1.map A5.ce) us++n),m2,L,λw=>(n2 w).trans (Z.cons ((k2 w).trans (by simpa [Ci]using (M w).appL))),λc ls f=>?_⟩;simp only[Xd,o,cond_true]at f;obtain⟨P,i,j⟩:=A1 f;cases j;obtain⟨a,Q,T⟩:=N c P i;exact⟨a,⟨us,d,n,a,_,l2.symm,by rw[Ayn s,Anp],Q,by rw[U];exact⟨X,e,rfl,rfl⟩,by rw[o];exact⟨rfl,rfl⟩⟩,T⟩
    |false=>
     rw[o]at h;simp only[cond_false]at h;obtain⟨q,t,h⟩:=A1 h;cases h;obtain⟨O,n,m2,L,M,N⟩:=Ah3 t d2 n1;refine⟨l0.trans O,[Cc X us.toArray e]++n,m2,L,λw=>(n2 w).trans (Z.cons (M w)),λc ls f=>?_⟩;simp only[Xd,o,cond_false]at f;obtain⟨l,s,f⟩:=A1 f;obtain⟨P,i,j⟩:=A1 f;cases j;obtain⟨a,Q,T⟩:=N c P i;have g:=Aou s;refine⟨rX us (l.map A5.ce)::a,⟨us,d,n,a,_,by rw[g.2,F.len],by rw[g.1,Anp],Q,by rw[U];exact⟨X,e,rfl,rfl⟩,by rw[o];exact⟨rfl,rfl⟩⟩,λS w W r x=>?_⟩;rcases Bq.1 x with rfl|x
     ·exact W _ _ _ _ s F
     ·exact T S w W r x
   ·cases h
  |false=>
  rw[U]at h;simp only[cond_false]at h;cases o:k.own with
  |true=>rw[o]at h;simp only[cond_true]at h;obtain⟨cs,V,h⟩:=A1 h;obtain⟨z,s,h⟩:=A1 h;obtain⟨q,t,h⟩:=A1 h;cases h;obtain⟨us,rfl,Y⟩:=Ak8 V d1;obtain⟨l1,l2,m1,k1,k2⟩:=Q1 s Y h1;obtain⟨O,n,m2,L,M,N⟩:=Ah3 t d2 k1;refine⟨l1.trans O,Bc (z.1.map A5.ce) us++n,m2,L,λw=>(k2 w).trans (by simpa [Ci]using (M w).appL),λc ls f=>?_⟩;simp only[Xd,o,cond_true]at f;obtain⟨P,i,j⟩:=A1 f;cases j;obtain⟨a,Q,T⟩:=N c P i;exact⟨a,⟨us,d,n,a,[],l2.symm,by rw[Ayn s,Anp],Q,by rw[U];exact⟨rfl,rfl⟩,by rw[o];exact⟨rfl,rfl⟩⟩,T⟩
  |false=>
   rw[o]at h;simp only[cond_false]at h;obtain⟨cs,V,h⟩:=A1 h;obtain⟨q,t,h⟩:=A1 h;cases h;obtain⟨O,n,m2,L,M,N⟩:=Ah3 t d2 h1;refine⟨O,n,m2,L,M,λc ls f=>?_⟩;simp only[Xd,o,cond_false]at f;obtain⟨l,s,f⟩:=A1 f;obtain⟨P,i,j⟩:=A1 f;cases j;obtain⟨us,rfl,Y⟩:=Ak8 V d1;obtain⟨a,Q,T⟩:=N c P i;have g:=Aou s;refine⟨rX us (l.map A5.ce)::a,⟨us,d,n,a,[],by rw[g.2,Y.len],by rw[g.1,Anp],Q,by rw[U];exact⟨rfl,rfl⟩,by rw[o];exact⟨rfl,rfl⟩⟩,λS w W r x=>?_⟩;rcases Bq.1 x with rfl|x
   ·exact W _ _ _ _ s Y
   ·exact T S w W r x
 |[],[],_,_,_::_,_,_,h,_=>h.elim
 |[],_::_,_,_,_,_,h,_,_=>by cases h
 |_::_,[],_,_,_,_,h,_,_=>by cases h
 |_::_,_::_,_,_,[],_,_,h,_=>h.elim
theorem Ah2 (hx:Ext ρ ρ'){own0}:∀ {k:List (Nat×Nat×BM×Ty)} {bs:List Bx} {own:List Chunk} {p:(List (List A5)×List (List Cell))×List Chunk} {m:List As},S2 k own=Aa p->All2 (BxOk ρ own0) k bs->(∀c'∈own,∀c∈own0,H9 c'=H9 c->c.Le c')->OwnOk ρ' rs own m->
  ∃i m',OwnOk ρ' rs p.2 m'/\(∀w,Z w m (i++m'))/\∀d ls,So d k p.1.1 p.1.2=Aa ls->∃a,OPack bs (k.map (·.2.2.1)) ls i a/\∀S w,Reads ρ' d S w->∀r∈a,r.ok S w
 |[],[],own,p,m,h,_,_,h1=>by cases h;exact⟨[],m,h1,λw=>zI,λd ls f=>by cases f;exact⟨[],⟨rfl,rfl⟩,λ_ _ _ _ h=>by cases h⟩⟩
 |(hh,g,.ow,t)::k,(b,e,vs0)::bs,own,p,m,h,⟨hbx,hB⟩,hG,h1=>by obtain⟨T,u,b2,b3,b4⟩:=hbx.box (by simp);unfold S2 at h;obtain⟨z,o,h⟩:=A1 h;obtain⟨F,l2,b',n,vs,m1,j,k2,y,k4⟩:=T5 o h1;have W:=hx.get T;rw[W]at j;cases j;obtain⟨q,c2,h⟩:=A1 h;obtain⟨q2,U,h⟩:=A1 h;cases h;obtain⟨l3,l4,m2,k5,k6⟩:=Q1 c2 k2 y;obtain⟨i,m3,P,Q,O⟩:=Ah2 hx U hB (λc' x=>hG c' (F _ (l3 _ x))) k5;refine⟨Cc b vs.toArray n::(Bc (q.1.map A5.ce) vs++i),m3,P,λw=>(k4 w).trans (Z.cons ((k6 w).trans (by simpa [Ci]using (Q w).appL))),λd ls f=>?_⟩;unfold So at f;obtain⟨q3,V,f⟩:=A1 f;cases f;obtain⟨a,M,N⟩:=O d q3 V;exact⟨a,⟨vs,i,n,l4.symm,rfl,M⟩,N⟩
 |(hh,g,.rd,t)::k,(b,e,vs0)::bs,own,p,m,h,⟨hbx,hB⟩,hG,h1=>by
  obtain⟨T,u,b2,b3,b4⟩:=hbx.box (by simp);unfold S2 at h;obtain⟨z,o,h⟩:=A1 h;obtain⟨F,l2,b',n,vs,m1,j,k2,y,k4⟩:=T5 o h1;have W:=hx.get T;rw[W]at j;cases j;obtain⟨q,U,h⟩:=A1 h;cases h;obtain⟨i,m3,P,Q,O⟩:=Ah2 hx U hB (λc' x=>hG c' (F _ x)) y;refine⟨Cc b vs.toArray n::i,m3,P,λw=>(k4 w).trans (Q w).cons,λd ls f=>?_⟩;unfold So at f;obtain⟨l,c2,f⟩:=A1 f;obtain⟨q3,V,f⟩:=A1 f;cases f;obtain⟨a,M,N⟩:=O d q3 V;have Y:=Aou c2;refine⟨rX vs (l.map A5.ce)::a,⟨vs,i,a,n,by rw[Y.2,k2.len],rfl,rfl,M⟩,λS w hr r hm=>?_⟩;rcases Bq.1 hm with rfl|hm
  ·exact hr _ _ _ _ c2 k2
  ·exact N S w hr r hm
 |(hh,g,.lo,t)::k,(b,e,vs0)::bs,own,p,m,h,⟨hbx,hB⟩,hG,h1=>by
  obtain⟨T,u,b2,b3,b4⟩:=hbx.box (by simp);unfold S2 at h;obtain⟨z,o,h⟩:=A1 h;obtain⟨F,l2,b',n,vs,m1,j,k2,y,k4⟩:=T5 o h1;have W:=hx.get T;rw[W]at j;cases j;have hg:=Br (bt h).1;replace h:=(bt h).2;obtain⟨i,m3,P,Q,O⟩:=Ah2 hx h hB (λc' x=>hG c' (F _ x)) y;have a7:=hG _ l2 _ b2 hg
  have a6:z.1.2=u:=by
   rcases a7 with e|⟨_,_,_,_,_,_,e,_⟩
   ·cases e;rfl
   ·cases e
  rw[a6]at k2;have hv:=A8b b4 k2 (b3.mono λ_ _=>Cell.Den.mono hx);subst hv;refine⟨Cc b vs.toArray n::i,m3,P,λw=>(k4 w).trans (Q w).cons,λd ls f=>?_⟩;unfold So at f;obtain⟨a,M,N⟩:=O d ls f;exact⟨a,by cases ls<;>exact⟨i,n,rfl,M⟩,N⟩
 |(hh,g,.le,t)::k,(b,e,vs0)::bs,own,p,m,h,⟨hbx,hB⟩,hG,h1=>by
  have X:∃s:Sv,ρ[hh]?=Aa (.row s)/\vs0=[s.v]:=by
   rcases hbx with⟨_,q⟩|⟨q,_⟩
   ·exact q
   ·exact absurd rfl q
  obtain⟨s,q1,rfl⟩:=X;unfold S2 at h;obtain⟨z,o,h⟩:=A1 h;obtain⟨q,U,h⟩:=A1 h;cases h;obtain⟨F,s',m1,j,k2,y⟩:=Q5 o h1;rw[hx.get q1]at j;cases j;obtain⟨i,m3,P,Q,O⟩:=Ah2 hx U hB (λc' x=>hG c' (F _ x)) k2;refine⟨oC (Ar (sz z.1.t) (fD z.1.t) z.1.L) s.v::i,m3,P,λw=>(y w).trans (Q w).cons,λd ls f=>?_⟩;unfold So at f;obtain⟨q3,V,f⟩:=A1 f;cases f;obtain⟨a,M,N⟩:=O d q3 V;exact⟨a,⟨s.v,z.1.t,z.1.L,i,rfl,rfl,rfl,M⟩,N⟩
 |[],_::_,_,_,_,_,h,_,_=>h.elim
 |_::_,[],_,_,_,_,h,_,_=>h.elim
theorem St.letGo{l lr} (h:St B (l++m) rs w) (f:∀S,Sees S w m rs->∀r∈lr,r.ok S w):St B l lr w:=by
 obtain⟨j,q,F,k,i,n⟩:=h;obtain⟨F1,s,g1,g2,g3,g4,g5⟩:=k.split;refine⟨j,q,F1,g1,λb c=>i b (g4 b c),λr g=>f _ ⟨λr f=>?_,λa p=>?_⟩ r g⟩
 ·exact r.mono (λb c=>⟨c.1,c.2.1,λd=>c.2.2 (g4 b d)⟩) (Lc.refl _ _) (n r f)
 ·obtain⟨F',e,o⟩:=g2.mem p;refine⟨F',λb c=>⟨?_,g2.lt b (e b c),λd=>g3 b d (e b c)⟩,o⟩;exact .inr ((i b (g5 b (e b c))).elim .inr .inl)
theorem Bap{X S w0 f ps ks x rv z bx bs r} (M:Sat ⟨w0,X,S⟩ Af ρ' st env w) (hx:Ext ρ ρ') (hg:Be z st) (n:J8 z=true)
  (Y:All2 (BxOk ρ z.own) bx bs) (hm:bx.map (·.2.2.1)=Lm ps) (h:Al9 rv ps ks bx st=Aa r):∃a,RVs prog w env rv a/\∃k d,Left ⟨f,ps,ks,x⟩ bs r a k d/\H5 X S w0 k d w:=by
 unfold Al9 at h;obtain⟨vs,Q,h⟩:=A1 h;obtain⟨p,T,h⟩:=A1 h;obtain⟨q,U,h⟩:=A1 h;obtain⟨l,V,h⟩:=A1 h;obtain⟨o,W,h⟩:=A1 h;obtain⟨a,v1,v2⟩:=Aos M Q;obtain⟨m,rs,m1,m2,m3,hM⟩:=M.mem;obtain⟨l1,s,m',k1,k2,k3⟩:=Ah3 T v2 m1;simp only[J8,A9]at n
 obtain⟨j,F,r2,r3,r1⟩:=Ah2 hx U Y (λc' y c L e=>by
  obtain⟨P,g1,g2⟩:=hg.own c' (l1 c' y) (by rw[e];exact Ano n.2 L);have:P=c:=Amn n.1 g1 L (by rw[g2.g,e]);rw[<-this];exact g2) k1
 obtain⟨d,p1,p2⟩:=k3 _ l V;have u:St ⟨w0,X,S⟩ ((s++j)++F) rs w:=by have:=(hM.z (k2 w)).z (r3 w).appL;simpa [Ci]using this
 obtain⟨i,r4,r5⟩:=r1 _ o W;refine⟨a,v1,s++j,d++i,⟨l,o,s,j,d,i,Ah7 h,p1,by show OPack bs (Lm ps) o j i;rw[<-hm];exact r4,rfl,rfl⟩,?_⟩
 exact(u.letGo λS' v r b=>by
  have t:Reads ρ' {st with own:=q.2} S' w:=λes cs ls us N O=>Z2 (st:= {st with own:=q.2}) v r2 m2 N O;rcases Ei.1 b with b|b
  ·exact p2 S' w t r b
  ·exact r5 S' w t r b).gives
def nV:List PK->Nat
 |[]=>0
 |.cap _ _::r=>nV r
 |_::r=>nV r+1
theorem Gr.len{S ps a vals Bu own bx} (h:Gr S w ps a vals Bu own bx):vals.length=nV ps:=by
 induction h with
 |nil=>rfl
 |co _ _ b=>exact b
 |cr _ _ _ b=>exact b
 |_=>rename_i b;simp[nV,b]
theorem A0q:∀ {vs:List V1} {a:List Value} {k:Nat},All2 (V1.Den ρ) vs a->EnvOk ρ (Aaa k vs) (Y5 k a)
 |[],[],_,_=>λt sv h=>by cases h
 |v::vs,u::a,k,⟨h1,h2⟩=>EnvOk.put (A0q h2) (sv:=.v v) h1 k
 |[],_::_,_,h=>h.elim
 |_::_,[],_,h=>h.elim
theorem St.addEs{X S m} (h:St ⟨w,X,S⟩ m [] w):∀ {rs:List Rd},(∀r∈rs,r.ok S w)->St ⟨w,X,S⟩ m rs w
 |[],_=>h
 |r::rs,hr=>(St.addEs h λb a=>hr b (Bf _ a)).addE (hr r (Bm ..))
theorem Bz6{f0 C} (M : La Af C){fn c nx} (O : prog.funcs[f0]? = some fn) (N : fn.body = some c) (Q : fn.ntmps = C.n) (x : (fn.name == "runtime.NumGoroutine") = false) (hx : InlOk Af nx) : InlOk Af (Awz f0 C fn.results.toList c nx) := fun R f vs st K r B ρ env w s h t z => by
 unfold Awz at h;cases g:Ay f f0 with
 |false=>rw[g]at h;exact hx _ _ _ _ _ _ _ _ _ _ _ h t z
 |true=>
  rw[g]at h;cases Br g;have P:=(bt h).1;replace h:=(bt h).2;have y:Sat B Af ρ {st with env:=Aaa 0 vs} (Y5 0 s) w:=⟨t.len,A0q z,t.mem⟩;have o:∀(b:Ai) (ρ':List HV) (a:Env) (w':World),Al8 st.env fn.results.toList K b=Aa r->Sat B Af ρ' b a w'->Ext ρ ρ'->Be {st with env:=Aaa 0 vs} b->∃d,RVs prog w' a fn.results.toList d/\After B Af ρ st env K r (Mh d) w':=λb ρ' a w' u k2 v l=>by unfold Al8 at u;obtain⟨us,F,u2⟩:=A1 u;obtain⟨k,p,q⟩:=Aos k2 F;exact⟨k,p,Xp us, {b with env:=st.env},ρ',u2,v,⟨k2.len,t.env.mono v,k2.mem⟩,Bhq q,⟨l.Ak,l.own,l.Bg⟩,rfl⟩
  refine enter O N Q x (by rw[<-z.len];exact P) (Bfl M c R 0 _ _ _ r ρ _ w _ h y (λe b ρ' a w' L i=>?_) λb T ρ' a w' u k2 v l S=>?_)
  ·cases e with
   |some j=>cases L
   |none=>obtain⟨d,p,q⟩:=o b ρ' a w' L i.M9 i.ext i.grow;exact Baq d p q
  ·obtain⟨us,F,u2⟩:=A1 u;cases u2;obtain⟨d,p,q⟩:=o b ρ' a w' (by unfold Al8;rw[F];exact k2) v l S;exact Of d p q
theorem Byc{C} (Y : La Af C){f fn c ps ks x} (hf : prog.funcs[f]? = some fn) (hb : fn.body = some c) (hn : fn.ntmps = C.n) (q : (fn.name == "runtime.NumGoroutine") = false)
  (hl:Dm (nV ps) C.n=true) (hx:∀a r,x a=Aa r->Aox C fn.results.toList c ps ks a=Aa r):Holds Af ⟨f,ps,ks,x⟩:=λw X S a o own bx r N hL hS hr s=>by
 have h:=hx a r s;unfold Aox at h;have l:=(Sl h).1;replace h:=(Sl h).2;obtain⟨p,rs1,m1,a1,P,Q,T,U,V,W,a8,L,i,O⟩:=Bz4 (Af:=Af) N (st:=⟨[],[],[],0⟩) (ρ:=[]) (m:=[]) (rs:=Af) rfl trivial (λ_ h=>by cases h) (λ_ h=>h) (by rw[Hu];exact(St.enter hL hS).addEs hr);have hs:Sat ⟨w,X,S⟩ Af p {(Ks ps a ⟨[],[],[],0⟩).st with env:=Aaa 0 (Ks ps a ⟨[],[],[],0⟩).vs} (Y5 0 o) w:=⟨P,A0q W,m1,rs1,Q,T,U,V⟩;refine enter hf hb hn q (by rw[N.len];exact hl) (Bfl Y c (PRes ps ks) 0 _ Aa _ r p _ w _ h hs (λe u ρ' k w' M b=>?_) λu r0 ρ' k w' k1 k2 k3 k4 t=>?_)
 ·cases e with
  |some j=>cases M
  |none=>obtain⟨vs,v,d,g,y,F⟩:=Bap (f:=f) (x:=x) b.M9 b.ext (z:=(Ks ps a ⟨[],[],[],0⟩).st) ⟨b.grow.Ak,b.grow.own,b.grow.Bg⟩ l L i M;exact Baq vs v ⟨vs,d,g,rfl,y,F⟩
 ·have e:r0=r:=D1.inj k2;subst e;obtain⟨vs,v,d,g,y,F⟩:=Bap (f:=f) (x:=x) k3 k4 (z:=(Ks ps a ⟨[],[],[],0⟩).st) ⟨t.Ak,t.own,t.Bg⟩ l L i k1;exact Of vs v ⟨vs,d,g,rfl,y,F⟩
def Afn (f:Func):Code:=f.body.getD .skip
theorem ho{c F} C (d:∀k∈C.cons,Holds Af k) (g:prog.funcs[c.f]?=Aa F) (j:F.ntmps=C.n) (hx:∀a,Aox C F.results.toList (Afn F) c.ps c.rs a=c.x a)
  (e : F.body = some (Afn F) := by rfl) (b : (F.name == "runtime.NumGoroutine") = false := by kernel_rfl) (i : Dm (nV c.ps) C.n = true := by decide) (hi : InlOk Af C.inl := by exact Amw) : Holds Af c :=
 Byc (x:=c.x) ⟨d,hi⟩ g e j b i λa _ h=>(hx a).trans h
structure E (Af:List Rd) where
 c:I6
 h:Holds Af c
def cs (l:List (E Af)):List I6:=l.map (·.c)
theorem csh:∀(l:List (E Af)),∀k∈cs l,Holds Af k
 |[],_,h=>by cases h
 |e::l,k,h=>by
  rcases Bq.1 h with rfl|h
  ·exact e.h
  ·exact csh l k h
def en (f:FuncId) (ps:List PK) (rs:List RK) (x:PArgs ps->Option (PRes ps rs)) {F:Func} (h:prog.funcs[f]?=Aa F) (b:List (E Af):=[]) (d:List Hint:=[]) (wr:Bool:=false) (e:Bool:=false) (mv:Bool:=false) (inl:Inl:=Amv)
  (hi:InlOk Af inl:=by exact Amw) (hx:∀a,Aox ⟨F.ntmps,cs b,d,wr,e,mv,inl⟩ F.results.toList (Afn F) ps rs a=x a:=by intro a;kernel_rfl)
  (g : F.body = some (Afn F) := by rfl) (c : (F.name == "runtime.NumGoroutine") = false := by kernel_rfl) (i : Dm (nV ps) F.ntmps = true := by kernel_rfl) : E Af :=
 ⟨⟨f,ps,rs,x⟩,ho ⟨F.ntmps,cs b,d,wr,e,mv,inl⟩ (csh b) h rfl hx g c i hi⟩
section
variable {A B C D G H I J K R:Type}
def Bp (f:A->R) (a:A×Unit):R:=f a.1
def Bw (f:A->B->R) (a:A×B×Unit):R:=f a.1 a.2.1
def Jt (f:A->B->C->R) (a:A×B×C×Unit):R:=f a.1 a.2.1 a.2.2.1
def uc4 (f:A->B->C->D->R) (a:A×B×C×D×Unit):R:=f a.1 a.2.1 a.2.2.1 a.2.2.2.1
def uc5 (f:A->B->C->D->G->R) (a:A×B×C×D×G×Unit):R:=f a.1 a.2.1 a.2.2.1 a.2.2.2.1 a.2.2.2.2.1
def uc6 (f:A->B->C->D->G->H->R) (a:A×B×C×D×G×H×Unit):R:=f a.1 a.2.1 a.2.2.1 a.2.2.2.1 a.2.2.2.2.1 a.2.2.2.2.2.1
end
end
end
def Avd {a R:Type} (f:Nat->a->(a->Option R)->Option R) (e:a->Option R):Nat->Nat->a->Option R
 |0,_,s=>e s
 |m+1,k,s=>f k s (Avd f e m (k+1))
theorem Dv{σ ρ R f e} {K:ρ->Option R}:∀ {n k:Nat} {s:σ},Ac (A2 f e n k s) K=Avd (λk s G=>Ac (f k s) λz=>z.on G K) (λs=>K (e s)) n k s
 |0,_,_=>rfl
 |n+1,k,s=>by
  show Ac (Ac (f k s) λr=>r.on (A2 f e n (k+1)) Aa) K=Ac (f k s) λz=>z.on (Avd _ _ n (k+1)) K;cases f k s with
  |none=>rfl
  |some z=>
   cases z with
   |go s=>exact Dv (n:=n)
   |out y=>rfl
def Am1 {a R:Type} (f:a->(a->Option R)->Option R):Nat->a->Option R
 |0,_=>Ab
 |n+1,s=>f s (Am1 f n)
open Classical in
def Bb5 {a R:Type} (f:a->(a->Option R)->Option R) (s:a):Option R:=
 if h:∃n r,Am1 f n s=Aa r then Aa h.choose_spec.choose else Ab
theorem iterKn_eq{σ ρ R f} {K:ρ->Option R}:∀ {n:Nat} {s:σ},Am1 (λs G=>Ac (f s) λz=>z.on G K) n s=Ac (Lk f n s) K
 |0,_=>rfl
 |n+1,s=>by
  show Ac (f s) (λz=>z.on (Am1 _ n) K)=Ac (Ac (f s) λr=>r.on (Lk f n) Aa) K;cases f s with
  |none=>rfl
  |some z=>
   cases z with
   |go s=>exact iterKn_eq (n:=n)
   |out y=>rfl
theorem D8{σ ρ R f} {K:ρ->Option R} {s:σ}:Ac (Cp f s) K=Bb5 (λs G=>Ac (f s) λz=>z.on G K) s:=by
 unfold Bb5;split
 ·rename_i h;have b:=iterKn_eq.symm.trans h.choose_spec.choose_spec;obtain⟨y,c,d⟩:=A1 b;exact(congrArg (λz=>Ac z K) (Wq.2 ⟨_,c⟩)).trans d
 ·rename_i h;cases hi:Cp f s with
  |none=>rfl
  |some y=>
   obtain⟨n,e⟩:=Bb8 hi;cases a:K y with
   |none=>exact a
   |some r=>exact absurd ⟨n,r,by rw[iterKn_eq,e];exact a⟩ h
theorem D3 {α a:Type}{b x y} {K:α->Option a}:Ac (bif b then x else y) K=bif b then Ac x K else Ac y K:=by cases b<;>rfl
theorem D5{α a p} [Decidable p]{x} {K:α->Option a}:Ac (xg p x) K=xg p (Ac x K):=by unfold xg;split<;>rfl
theorem D2 {α a b:Type}{x} {f:α->Option a} {K:a->Option b}:Ac (Ac x f) K=Ac x λy=>Ac (f y) K:=by cases x<;>rfl
theorem D4 {α a:Type}{x} {K:α->Option a}:Ac (Aa x) K=K x:=rfl
theorem Blr{α} [Decidable True] {x:Option α}:xg True x=x:=by unfold xg;simp
theorem D9{σ ρ a s} {G:σ->a} {K:ρ->a}:Lr.on (.go s) G K=G s:=rfl
theorem Ea{σ ρ a y} {G:σ->a} {K:ρ->a}:Lr.on (.out y) G K=K y:=rfl
theorem D6 {α b a:Type}{x} {f:α->a} {g:b->a}:B2 f g (.inl x)=f x:=rfl
theorem D7 {α b a:Type}{x} {f:α->a} {g:b->a}:B2 f g (.inr x)=g x:=rfl
section
open Go.RowKit
section
variable {P:Program} {w:World} {w0:Dn} {m:List As} {rs:List Rd} {k:Nat}
theorem P2 w t B ty e i b o c l a h q n cs
  (hu:P.underlying t=Aa (.slice e)) (hi:P.info? e=Aa i) (A:Nat.min h c=n) (r:cs.length=n*i.size)
  (p:∀j v,cs[j]?=Aa v->w.cell? (a.add j)=Aa v) (y:∀j,j<cs.length->(w.cell? ⟨b,o+j,Ab⟩).isSome=true) (z:∀j,j<cs.length->w.frozen? ⟨b,o+j,Ab⟩=false) (x:∀v∈cs,v.oneCell'=true):
  (Builtin.copy_ #[t,B] ty #[.slice (Aa ⟨b,o,Ab⟩) c l,.slice (Aa a) h q]).run P w=.ok (goInt n) (w.setCells b o cs):=by
 have u:=run_loadCells_list (P:=P) w a cs p;have s:=run_storeCells_cells (P:=P) b o cs 0 w (by simpa using y) (by simpa using z) x;rw[r]at u;simp[Builtin.copy_,run_underlying hu,Builtin.lenOf,Builtin.firstCells,sizeOf,typeInfo,hi,A,u,s]
theorem St.rowAt {s:Sv}{n xs} (h:St w0 m rs w) (D:Cx k s.v n xs∈m) (I:0<n):
  ∃b off cap cur e l,s=⟨Aa ⟨b,off,Ab⟩,n,cap⟩/\(w.heap[b]?=Aa (.cells cur e l)/\Wr l cur.size)/\n<=cap/\cap<=maxLen/\off+cap*k<=cur.size/\xs.length=n*k/\(∀j u,xs[j]?=Aa u->w.cell? ⟨b,off+j,Ab⟩=Aa u):=by
 obtain⟨F,_,B,C⟩:=h.at' D;rcases C with⟨_,G⟩|⟨b,off,cap,cur,e,l,A,H,z,r,o,q,t⟩
 ·omega
 ·obtain⟨y,en,x⟩:s.p=Aa ⟨b,off,Ab⟩/\s.n=n/\s.c=cap:=by simpa [Sv.v]using A
  refine⟨b,off,cap,cur,e,l,by cases s;simp only at y en x;rw[y,en,x],z,r,o,q,B,λj u a=>?_⟩;rw[<-t,Nk]at a;split at a
  ·rw[K6,Qi]at a;simp[World.cell?,z.1,a]
  ·cases a
theorem N1{b off n cap cur e hd} (a:w.heap[b]?=Aa (.cells cur e hd)/\Wr hd cur.size) (o:off+cap*k<=cur.size) (h:n<=cap):(∀j,j<n*k->(w.cell? ⟨b,off+j,Ab⟩).isSome=true)/\∀j,j<n*k->w.frozen? ⟨b,off+j,Ab⟩=false:=by have l:=E4 k h;refine⟨λj c=>?_,λj c=>frz a.1 a.2 (by omega)⟩;simp only[World.cell?,a.1];simp;omega
theorem St.boxAt{b e} {cs:List Value} (h:St w0 m rs w) (l:Cc b cs.toArray e∈m):w.heap[b]?=Aa (.cells cs.toArray e (0,0))/\∀j u,cs[j]?=Aa u->w.cell? ⟨b,0+j,Ab⟩=Aa u:=by obtain⟨F,_,_,a⟩:=h.at' l;refine⟨a,λj u c=>?_⟩;simp[World.cell?,a,c]
theorem St.boxRow{b e cs} (h:St w0 (Cc b cs.toArray e::m) rs w) (s:cs.length=k):St w0 (Cx k (Sv.v ⟨Aa ⟨b,0,Ab⟩,1,1⟩) 1 cs::m) rs w:=
 St.iso (l:=[Cc b cs.toArray e]) (l':=[Cx k (Sv.v ⟨Aa ⟨b,0,Ab⟩,1,1⟩) 1 cs]) h λ_ ⟨c,F1,a,⟨o,p,q⟩,r⟩=>
  ⟨c,F1,a,⟨o,by omega,.inr ⟨b,0,1,_,e,_,rfl,λj t=>by rw[L3];exact p j (by simp;omega),⟨q,wr0 _⟩,Ef _,by simp[maxLen],by simp;omega,by simp[<-s]⟩⟩,r⟩
theorem St.apart{b off n c j} {xs vs:List Value}{ve} (h:St w0 (Cx k (Sv.v ⟨Aa ⟨b,off,Ab⟩,n,c⟩) n xs::Cc j vs.toArray ve::m) rs w) (r:0<c*k):j≠b:=by
 obtain⟨_,_,F,⟨_,F1,u,⟨_,_,g1⟩,⟨_,x,y,⟨_,g2,g3⟩,_,_,g5,_⟩,s,_,_⟩,_⟩:=h;rcases g1 with⟨q,_⟩|⟨l,_,_,cur,_,_,q,p,t,_,_,z,_⟩
 ·simp[Sv.v]at q
 obtain⟨⟨rfl,rfl⟩,rfl⟩:(b=l/\off=_)/\c=_:=by simpa [Sv.v]using q
 intro e;subst e;have a:=t.1;rw[g3]at a;cases D1.inj a;have o:=p 0 r;exact s _ o (g5 _ (g2 _ (by omega)))
theorem St.spare{b off n cap xs} (h:St w0 (Cx k (Sv.v ⟨Aa ⟨b,off,Ab⟩,n,cap⟩) n xs::m) rs w) m' (q:n+m'<=cap):∃ys,ys.length=m'*k/\St w0 (Cx k (Sv.v ⟨Aa ⟨b,off,Ab⟩,n+m',cap⟩) (n+m') (xs++ys)::m) rs w:=by
 obtain⟨F,_,u,x⟩:=h.at' (Bm ..);rcases x with⟨j,_⟩|⟨l,c,a,cur,e,z,j,s,D,O,H,K,o⟩
 ·simp[Sv.v]at j
 obtain⟨⟨rfl,rfl⟩,rfl⟩:(b=l/\off=c)/\cap=a:=by simpa [Sv.v]using j
 have B:=E4 k q;rw[Gk]at B;have r:((cur.toList.drop (off+n*k)).take (m'*k)).length=m'*k:=by rw[Dh,D0,Ew];omega
 refine⟨(cur.toList.drop (off+n*k)).take (m'*k),r,h.updHead λF ⟨C,N,I⟩=>?_⟩;rcases I with⟨j,_⟩|⟨l,c,a,p,e2,A,j,s,G,_,_,_,t⟩
 ·simp[Sv.v]at j
 obtain⟨⟨rfl,rfl⟩,rfl⟩:(b=l/\off=c)/\cap=a:=by simpa [Sv.v]using j
 refine⟨F,⟨C,by rw[Bt,u,r,Gk],.inr ⟨b,off,cap,cur,e,z,rfl,s,D,q,H,K,?_⟩⟩,F6.refl F w,λ_ y=>.inl y⟩;rw[Gk,<-o,<-Mq,<-List.take_add]
theorem St.blit{b off n cap o xs cs} (h:St w0 (Cx k (Sv.v ⟨Aa ⟨b,off,Ab⟩,n,cap⟩) n xs::m) rs w) (x:o+cs.length<=n*k):St w0 (Cx k (Sv.v ⟨Aa ⟨b,off,Ab⟩,n,cap⟩) n (xs.take o++cs++xs.drop (o+cs.length))::m) rs (w.setCells b (off+o) cs):=by
 refine h.updHead λF ⟨D,U,H⟩=>?_;rcases H with⟨t,_⟩|⟨B,p,c,cur,e,C,t,y,z,A,G,I,q⟩
 ·simp[Sv.v]at t
 obtain⟨⟨rfl,rfl⟩,rfl⟩:(b=B/\off=p)/\cap=c:=by simpa [Sv.v]using t
 have R:=E4 k A;have a:=Ahp (X:=F) (b:=b) cs (off+o) w λj O Q=>by have:=y (j-off) (by omega);rw[show off+(j-off)=j by omega]at this;exact this
 have s:off+n*k<=cur.toList.length:=by rw[Ew];omega
 have u:=Sw cs cur.toList (off+o) (by omega);have l:(Xj cur.toList (off+o) cs).toArray.size=cur.size:=by rw[u];simp only[Qk,Bt,Dh,D0,Ew]at s⊢;omega
 refine⟨F,⟨λb r=>K8 (D b r) a.size,by simp;omega,.inr ⟨b,off,cap,_,e,C,rfl,y,⟨Adr cs _ cur w z.1,by rw[l];exact z.2⟩,A,G,by rw[l];exact I,?_⟩⟩,a,λ_ r=>.inl r⟩;rw[u];have K:(cur.toList.take (off+o)).drop off=xs.take o:=by rw[Yd,Atk,<-q,Ae8,Pb (by omega)]
 have N:xs.drop (o+cs.length)=(cur.toList.drop (off+o+cs.length)).take (n*k-(o+cs.length)):=by rw[<-q,Yd,Mq];congr 2;omega
 have S:(cur.toList.take (off+o)).length=off+o:=by rw[Dh];omega
 simp only;rw[Ci,As7 (by omega),K,N,<-Ci,Aks,Rv (by simp;omega)];congr 2;simp;omega
end
section
variable {P:Program} {n:Nat} {env:Env} {w:World} {d:Option Tmp} {ty:TypeId} {pos:String} {af:Array Edge} {g:Option (Nat×Bool)} {k:Nat}
theorem B5j{x hi t e bytes z} {s:Sv}{j} (r:P.underlying t=Aa (.slice e)) (q:Sz P e k bytes z)
  (hx:ev env x=Aa s.v) (a:ev env hi=Aa (.int .i64 j)) (o:0<=j/\j<=(s.c:Int)):
  Runs P n env w ⟨d,.slice t x Ab (Aa hi) Ab,ty,pos,af,g⟩ (s.cut k 0 j.toNat).v w:=λb l=>by
 have h:b.eval x=.slice s.p s.n s.c:=l.ev hx;simp only[execOp,h,l.ev a,Pc,Tw,Instr.sliceAt,Sem.run_bind,run_underlying r,Result.andThen_ok,Instr.slice,Instr.sliceBounds,Instr.sliceBound,asIntOf,Sem.run_pure,Sem.run_ite,if_pos o,q.run,Aky,Sv.cut_eq]
theorem Ag7{x l t e bytes z} {s:Sv}{i} (u:P.underlying t=Aa (.slice e)) (r:Sz P e k bytes z)
  (hx:ev env x=Aa s.v) (a:ev env l=Aa (.int .i64 i)) (q:0<=i/\i<=(s.n:Int)) (y:s.n<=s.c):
  Runs P n env w ⟨d,.slice t x (Aa l) Ab Ab,ty,pos,af,g⟩ (s.cut k i.toNat s.n).v w:=λb j=>by
 have o:(s.c-i.toNat=0)=(s.c=i.toNat):=by apply propext;omega
 have h:b.eval x=.slice s.p s.n s.c:=j.ev hx;simp only[execOp,h,j.ev a,Pc,Tw,Instr.sliceAt,Sem.run_bind,run_underlying u,Result.andThen_ok,Instr.slice,Instr.sliceBounds,Instr.sliceBound,asIntOf,Sem.run_pure,Sem.run_ite,if_pos q,r.run,Tv,I3,if_false,o,Sv.cut_eq]
theorem At8{b off n c i n'} (h:i<c):Sv.cut ⟨Aa ⟨b,off,Ab⟩,n,c⟩ k i n'=⟨Aa ⟨b,off+i*k,Ab⟩,n'-i,c-i⟩:=by unfold Sv.cut;simp only;rw[if_neg (by omega)];simp[Addr.add_lit]
theorem Bsv{b off n c n'} (h:0<c):Sv.cut ⟨Aa ⟨b,off,Ab⟩,n,c⟩ k 0 n'=⟨Aa ⟨b,off,Ab⟩,n',c⟩:=by rw[At8 h];simp
theorem Azf{x t e} {s:Sv} (j:P.underlying t=Aa (.slice e)) (hx:ev env x=Aa s.v):
  Runs P n env w ⟨d,.call {callee:=.builtin .cap,args:= #[x],argTypes:= #[t]},ty,pos,af,g⟩ (.int .i64 (s.c:Int)) w:=λa h=>by
 have b:a.eval x=.slice s.p s.n s.c:=h.ev hx;simp[execOp,resolve,invoke,builtin,b,Builtin.cap_,run_underlying j,goInt]
theorem Azg{f args ats vs v} (e:Hw env args=Aa vs) (c:(callFunc f vs.toArray).run P w=.ok (.value v) w):
  Runs P n env w ⟨d,.call {callee:=.value (.func f),args:=args.toArray,argTypes:=ats},ty,pos,af,g⟩ v w:=λa b=>by
 simp only[execOp,resolve,Act.eval,Deferred.ofValue,invoke,Sem.run_bind,Sem.run_pure,Result.andThen_ok,Ate,b.Hw _ _ e];simpa using c
theorem Qa{K} {d:Nat}{x y t u a b r w'} (hx:ev env x=Aa a) (l:ev env y=Aa b) (j:(Builtin.copy_ #[t,u] ty #[a,b]).run P w=.ok r w') (h:K r w'):
  Ex P n env w ⟨Aa d,.call {callee:=.builtin .copy,args:= #[x,y],argTypes:= #[t,u]},ty,pos,af,Ab⟩ K:=by
 refine Li (v:=r) (w':=w') (λc e=>?_) h;simp[execOp,resolve,invoke,builtin,e.ev hx,e.ev l,j]
theorem Ap9{K} {d:Nat}{x y t u a b r w'} (hx:ev env x=Aa a) (l:ev env y=Aa b) (j:(Builtin.append_ #[t,u] ty #[a,b]).run P w=.ok r w') (h:K r w'):
  Ex P n env w ⟨Aa d,.call {callee:=.builtin .append,args:= #[x,y],argTypes:= #[t,u]},ty,pos,af,Ab⟩ K:=by
 refine Li (v:=r) (w':=w') (λc e=>?_) h;simp[execOp,resolve,invoke,builtin,e.ev hx,e.ev l,j]
end
section
variable {w:World} {w0:Dn} {m:List As} {rs:List Rd} {k:Nat} {T:Type} {f:T->List Ce} {L M:List T}
theorem St.zipOne{cs xs} (e:cs.length=xs.length) (h:St w0 (Bc cs xs++m) rs w):∀v∈xs,v.oneCell'=true:=by
 have a:∃S,Eg S w cs xs:=by obtain⟨_,_,F,b,_⟩:=h;obtain⟨F1,_,c,_⟩:=b.split;exact⟨F1,Aex e c⟩
 obtain⟨S,a⟩:=a;exact Ag9 a
theorem Sb (a:∀x,(f x).length=k):∀L:List T,(L.flatMap f).length=L.length*k
 |[]=>by simp
 |x::L=>by rw[F4,Bt,a,Sb a L,B5,Gk];omega
theorem St.insDone{i xs vs} {s':Sv} (a:∀x,(f x).length=k) (hi:i<=L.length) (hx:(L.flatMap f).length=xs.length) (c:(M.flatMap f).length=vs.length)
  (h:St w0 (Cx k s'.v (L.length+M.length) (xs.take (i*k)++vs++xs.drop (i*k))::(Bc (L.flatMap f) xs++(Bc (M.flatMap f) vs++m))) rs w):St w0 (oC (Ar k f (L.take i++M++L.drop i)) s'.v::m) rs w:=by
 have e:L.flatMap f=(L.take i).flatMap f++(L.drop i).flatMap f:=by rw[<-H2,Kk]
 have b:((L.take i).flatMap f).length=(xs.take (i*k)).length:=by rw[Sb a,Dh,Dh,Pb hi,Pb];rw[<-hx,Sb a];exact E4 k hi
 have l:((L.drop i).flatMap f).length=(xs.drop (i*k)).length:=by rw[Sb a,D0,D0,<-hx,Sb a,I5]
 have e2:Bc (L.flatMap f) xs=Bc ((L.take i).flatMap f) (xs.take (i*k))++Bc ((L.drop i).flatMap f) (xs.drop (i*k)):=by
  conv=>lhs;rw[e,<-Kk (i*k) xs]
  exact O8 b
 have j:(L.take i++M++L.drop i).length=L.length+M.length:=by simp;omega
 refine St.rerow (xs:=xs.take (i*k)++vs++xs.drop (i*k)) (by rw[H2,H2,Bt,Bt,Bt,Bt,b,c,l]) ?_;rw[j,H2,H2,O8 (by rw[Bt,Bt,b,c]),O8 b];rw[e2]at h;refine h.perm (List.Perm.cons _ ?_);rw[Ci,Ci,Ci];refine List.Perm.append_left _ ?_;rw[<-Ci,<-Ci];exact List.Perm.append_right _ Gg
end
section
variable {k i n:Nat} {xs zs ys vs:List Value}
theorem Aw0 (hx:xs.length=n*k) (j:zs.length=(n+1-i)*k) (e:vs.length=k) (hi:i<=n):
  (((xs.take (i*k)++zs).take (i*k)++vs++(xs.take (i*k)++zs).drop (i*k+vs.length)).take ((i+1)*k)++xs.drop (i*k)++((xs.take (i*k)++zs).take (i*k)++vs++(xs.take (i*k)++zs).drop (i*k+vs.length)).drop ((i+1)*k+(xs.drop (i*k)).length))
   =xs.take (i*k)++vs++xs.drop (i*k):=by
 have l:=E4 k hi;have c:(i+1)*k=i*k+k:=by rw[Gk,Yg]
 have e2:(n+1-i)*k=n*k+k-i*k:=by rw[I5,Gk,Yg]
 have b:(xs.take (i*k)).length=i*k:=by rw[Dh];omega
 have a:∀(X T:List Value) (q:Nat),T.length<=q->X++T.drop q=X:=λX T q h=>by rw[Bq2 h,Hu]
 rw[As5 b];refine(a _ _ _ ?_).trans ?_
 ·simp only[Bt,D0,b,j,e,hx,c,e2];omega
 ·rw[As5 (by rw[Bt,b,e,c])]
theorem Aw1 (hx:xs.length=n*k) (b:ys.length=1*k) (c:vs.length=k) (hi:i+1<=n):
  (((xs++ys).take ((i+1)*k)++xs.drop (i*k)++(xs++ys).drop ((i+1)*k+(xs.drop (i*k)).length)).take (i*k)++vs++((xs++ys).take ((i+1)*k)++xs.drop (i*k)++(xs++ys).drop ((i+1)*k+(xs.drop (i*k)).length)).drop (i*k+vs.length))
   =xs.take (i*k)++vs++xs.drop (i*k):=by
 have h:=E4 k hi;have a:(i+1)*k=i*k+k:=by rw[Gk,Yg]
 have e:((xs++ys).take ((i+1)*k)).length=i*k+k:=by rw[Dh,Bt,hx,b,a];omega
 rw[Bq2 (l:=xs++ys),Hu,c,List.drop_left' e,Atj (by omega),Ae8,Pb (by omega),Atj (by omega)];simp only[Bt,D0,hx,b,a];omega
end
section
variable {P:Program} {n:Nat} {env:Env} {w:World} {d:Option Tmp} {ty:TypeId} {pos:String} {af:Array Edge} {g:Option (Nat×Bool)} {k:Nat}
theorem Jp{x h t e bytes z} {b off l c i:Nat}{j} (r:P.underlying t=Aa (.slice e)) (q:Sz P e k bytes z)
  (hx:ev env x=Aa (Sv.v ⟨Aa ⟨b,off,Ab⟩,l,c⟩)) (a:ev env h=Aa (.int .i64 j)) (p:j=(i:Int)) (s:i<=l) (o:l<=c) (hi:i<c):
  Runs P n env w ⟨d,.slice t x (Aa h) Ab Ab,ty,pos,af,g⟩ (Sv.v ⟨Aa ⟨b,off+i*k,Ab⟩,l-i,c-i⟩) w:=by
 subst p;rw[<-At8 hi];exact Ag7 r q hx a ⟨by omega,by simp only;omega⟩ o
theorem Zy{x hi t e bytes z} {b off l c i:Nat}{j} (q:P.underlying t=Aa (.slice e)) (p:Sz P e k bytes z)
  (hx:ev env x=Aa (Sv.v ⟨Aa ⟨b,off,Ab⟩,l,c⟩)) (a:ev env hi=Aa (.int .i64 j)) (o:j=(i:Int)) (r:i<=c) (h:0<c):
  Runs P n env w ⟨d,.slice t x Ab (Aa hi) Ab,ty,pos,af,g⟩ (Sv.v ⟨Aa ⟨b,off,Ab⟩,i,c⟩) w:=by
 subst o;rw[<-Bsv (k:=k) (n:=l) h];exact B5j q p hx a ⟨by omega,by simp only;omega⟩
end
end
section
open Go.RowKit
def stE {T:Type} [Inhabited T] (L:List T) (i:Nat) (f:T->T):List T:=L.set i (f (el L i))
def Ri {T:Type} (L:List T) (i:Int) (a:T):Option (List T):=xg (0<=i/\i<=(L.length:Int))<|xg (L.length<=1000000)<|some (L.take i.toNat++[a]++L.drop i.toNat)
def Aar {T:Type} (L:List T) (i:Int) (M:List T):Option (List T):=match M with
 |[a]=>Ri L i a
 |_=>Ab
theorem B0b{T L i a} {r:List T} (h:Ri L i a=Aa r):(0<=i/\i<=(L.length:Int))/\L.length<=1000000/\L.take i.toNat++[a]++L.drop i.toNat=r:=by unfold Ri at h;obtain⟨b,h⟩:=C8 h;obtain⟨c,h⟩:=C8 h;exact⟨b,c,D1.inj h⟩
def InsOk (f:FuncId) (t:Ty):Prop:=∀(w:World) (X S:Bs) (L:List (C7 t)) (s:Sv) (i:Int) (a:C7 t) (vs:List Value) (c:Nat) (d:TypeId),vs.length=sz t->(∀b,S b->b.1<w.heap.size/\¬X b)->Sep (oC (Ar (sz t) (fD t) L) s.v::(Cc c vs.toArray d::Bc (fD t a) vs)) X w->(0<=i/\i<=(L.length:Int))->L.length<=1000000->
  Ret prog f [s.v,.int .i64 i,Sv.v ⟨Aa ⟨c,0,Ab⟩,1,1⟩] w (λu w'=>∃y:Sv,u=y.v/\H5 X S w [oC (Ar (sz t) (fD t) (L.take i.toNat++[a]++L.drop i.toNat)) y.v] [] w')
theorem Bdb{k T f} {L:List T}{v w F m} (h:Sep (oC (Ar k f L) v::m) F w):∃s:Sv,v=s.v:=by obtain⟨_,F1,_,b,_⟩:=h;obtain⟨a,cap,e,_⟩:=(Ar k f L).seen b;exact⟨⟨a,L.length,cap⟩,e⟩
theorem Awb{Af f t} (h:InsOk f t):Holds Af ⟨f,[.val true (.sl t),.val false (.b 0),.lit t],[⟨true,.sl t,false⟩],λa=>Ri a.1 a.2.1 a.2.2.1⟩:=by
 intro w X S a x own M r G D F N hx;cases G with
 | @ow _ _ L _ d _ _ _ _ A k=>
 cases k with
 | @ro _ _ i _ K _ _ _ _ B k=>
 cases k with
 | @li _ _ e _ b te g _ _ _ _ C k=>
 cases k;have l:d.length=1:=A
 obtain⟨H,rfl⟩:∃v,d=[v]:=by
  match d,l with
  |[v],_=>exact⟨v,rfl⟩
 obtain⟨I,rest,rfl,m,n⟩:=B;have j:rest=[]:=n;subst j;have hi:I=.int .i64 i:=m;subst hi;have c:Sep (oC (Ar (sz t) (fD t) L) H::(Cc b g.toArray te::(Bc (fD t e) g++[]))) X w:=D;rw[Hu]at c;obtain⟨s,rfl⟩:=Bdb c;obtain⟨p,q,o⟩:=B0b (T:=C7 t) (L:=L) (i:=i) (a:=e) hx;subst o;refine(h w X S L s i e g b te C F c p q).mono λu w' ⟨y,z,e2⟩=>⟨[y.v],_,[],z,?_,e2⟩;exact⟨[[.sl t _]],[],_,[],[],[],rfl,⟨[y.v],[],[],[],[],rfl,rfl,⟨rfl,rfl,rfl⟩,⟨rfl,rfl⟩,⟨rfl,rfl⟩⟩,⟨rfl,rfl⟩,rfl,rfl⟩
end
section
open Go.RowKit
theorem Bz8 w X S{T f} (hf:∀x,(f x).length=2) L (s:Sv) i (a:T) vs vb ve (W:vs.length=2) (hS:∀b,S b->b.1<w.heap.size/\¬X b) (oL:Sep (oC (Ar 2 f L) s.v::(Cc vb vs.toArray ve::Bc (f a) vs)) X w) (hi:0<=i/\i<=(L.length:Int)) (hL:L.length<=1000000):
  Ret prog 152 [s.v,.int .i64 i,Sv.v ⟨Aa ⟨vb,0,Ab⟩,1,1⟩] w (λu w'=>∃y:Sv,u=y.v/\H5 X S w [oC (Ar 2 f (L.take i.toNat++[a]++L.drop i.toNat)) y.v] [] w'):=by
 obtain⟨d5,f7⟩:=hi;obtain⟨p,rfl⟩:=Abf d5;rw[Gb];have c4:∃z,Sz prog 82 2 40 z:=⟨_,A09⟩;obtain⟨z0,g⟩:=c4;have hp:p<=L.length:=by omega
 refine enter func152 rfl ntmps152 (by kernel_rfl) rfl ?_;have a5:=St.enter oL hS
 have d7:s.n=L.length/\s.n<=s.c:=by
  obtain⟨a,cap,e,h1,h2,_⟩:=a5.seeO (.head _);obtain⟨_,e2,e3⟩:s.p=a/\s.n=L.length/\s.c=cap:=by simpa [Sv.v]using e
  omega
 have hM0r:St ⟨w,X,S⟩ (oC (Ar 2 f L) s.v::(oC (Ar 2 f [a]) (Sv.v ⟨Aa ⟨vb,0,Ab⟩,1,1⟩)::[])) [] w:=by
  have h1:=(a5.perm (Gg (l₁:=[oC (Ar 2 f L) s.v]) (l₂:=Cc vb vs.toArray ve::Bc (f a) vs))).boxRow W;have h2:St ⟨w,X,S⟩ (Cx 2 (Sv.v ⟨Aa ⟨vb,0,Ab⟩,1,1⟩) [a].length vs::(Bc ([a].flatMap f) vs++[oC (Ar 2 f L) s.v])) [] w:=by simpa using h1
  exact(St.rerow (by simpa [hf]using W.symm) h2).perm (List.Perm.swap ..)
 obtain⟨xs,b0,c0⟩:=a5.unrow;have d:St ⟨w,X,S⟩ (Cx 2 s.v L.length xs::Cc vb vs.toArray ve::(Bc (L.flatMap f) xs++(Bc (f a) vs++[]))) [] w:=by refine c0.perm (List.Perm.cons _ ?_);rw[Hu];exact Ct
 clear c0;refine Dy ?_;refine Hi rfl rfl ?_;refine Dz ?_;refine Dy ?_;refine B4 rfl rfl ?_;refine B4 rfl rfl ?_;refine wv rfl (Ag7 underlying28 g rfl rfl ⟨by omega,by omega⟩ d7.2) ?_;refine Dz ?_;refine Dy ?_;refine B4 rfl rfl ?_;refine wv rfl (Q2 underlying28 rfl) ?_;refine Hi rfl rfl ?_;refine Dz ?_;refine Ir ?_;refine Dy ?_;refine B4 rfl rfl ?_;refine wv rfl (Xb rfl rfl) ?_;refine Dz ?_;refine Mj rfl (λF=>absurd (of_decide_eq_true F) (by simp)) (λ_=>?_);refine Rg ?_;refine Ky ?_;refine Dy ?_;refine B4 rfl rfl ?_;refine wv rfl (Q2 underlying28 rfl) ?_;refine Hi rfl rfl ?_;refine Dz ?_;refine Ir ?_;refine Dy ?_;refine B4 rfl rfl ?_;refine B4 rfl rfl ?_;refine wv rfl (Xb rfl rfl) ?_;refine Dz ?_;refine Mj rfl (λF=>?_) (λF=>?_)
 ·have a2:p=L.length:=by have:=of_decide_eq_true F;omega
  refine Dy ?_;refine B4 rfl rfl ?_;refine B4 rfl rfl ?_;refine P8 rfl (Aqa underlying28 g rfl rfl hM0r (by simp;omega) (by decide) ?_);intro s' w1 d;refine Hi rfl rfl ?_;refine Dz ?_;refine P9 ?_;refine S0 ?_;refine Of [s'.v] ⟨rfl,trivial⟩ ?_;rw[a2,Hd,Vy,Hu];exact⟨s',rfl,d.gives⟩
 have a2:p<L.length:=by have:=of_decide_eq_false F;omega
 obtain⟨b,off,cap,cur,e,hd,rfl,hg,f8,d1,f4,A,a1⟩:=d.rowAt (.head _) (by omega);have d8:=d.apart (by omega);have h1x:=St.zipOne b0 d.drop.drop;have h1v:∀u∈vs,u.oneCell'=true:=St.zipOne (cs:=f a) (m:=Bc (L.flatMap f) xs) (by rw[hf a,W]) (d.drop.drop.perm (by rw[Hu];exact Gg));have a4:vs.length=1*2:=by omega
 simp only[maxLen]at d1;refine Rg ?_;refine Ky ?_;refine Ir ?_;refine Dy ?_;refine B4 rfl rfl ?_;refine B4 rfl rfl ?_;refine wv rfl (J0 rfl rfl ⟨by simp only;omega,by simp only;omega⟩) ?_;refine B4 rfl rfl ?_;refine wv rfl (Azf underlying28 rfl) ?_;refine wv rfl (Aok rfl rfl) ?_;refine Dz ?_;refine Mj rfl (λF=>?_) (λF=>?_)
 ·have d4:cap<L.length+1:=by have:=of_decide_eq_true F;simp only at this;omega
  have a9:(xs.drop (p*2)).length=(L.length-p)*2:=by rw[D0,A,I5]
  have d6:=E4 2 a2;obtain⟨h,l,hz,B,c2⟩:=g.info;refine Dy ?_;refine B4 rfl rfl ?_;refine B4 rfl rfl ?_;refine wv rfl (Zy (i:=p) underlying28 g rfl rfl rfl (by omega) (by omega)) ?_;refine B4 rfl rfl ?_;refine B4 rfl rfl ?_;refine wv rfl (J0 rfl rfl ⟨by simp only;omega,by simp only;omega⟩) ?_;refine B4 rfl rfl ?_;refine wv rfl (Aom rfl rfl ⟨by simp only;omega,by simp only;omega⟩) ?_;have a8:(xs.take (p*2)).length=p*h.size:=by rw[Dh,A,B];omega
  have c3:(Builtin.firstCells h.size p (.slice (Aa ⟨b,off,Ab⟩) p cap)).run prog w.drew=.ok (xs.take (p*2)).toArray w.drew:=
   run_firstCells_some w.drew h.size p ⟨b,off,Ab⟩ p cap _ a8 λj u r=>by
    rw[Addr.add_lit];rw[Nk]at r;split at r
    ·exact a1 _ _ r
    ·cases r
  have c1:=A5z (P:=prog) w 28 3 28 82 h _ .i64 .i64 underlying28 underlying3 l hz (Aa ⟨b,off,Ab⟩) p cap (xs.take (p*2)) c3 (L.length+1-p) (by omega) (by omega) (by omega) (by omega) (by rw[c2];omega) (by rw[c2];exact growslice_fits (by omega) (by omega));have r:(((L.length:Nat):Int)+((1:Nat):Int)-(p:Int))=((L.length+1-p:Nat):Int):=by omega
  have hq:p+(L.length+1-p)=L.length+1:=by omega
  rw[hq]at c1;have hG:=grownCap_ge w (L.length+1) cap 82;have b9:=grownCap_le_maxLen w (L.length+1) cap 82 (by simp only[maxLen];omega);have a3:∀q,(Builtin.zeroCells (z0).cells q).size=q*2:=λq=>by rw[size_zeroCells,g.2.1]
  have d:=d.drew.allocRow (k:=2) (n:=L.length+1) (cap:=grownCap w (L.length+1) cap 82) (xs.take (p*2)++(Builtin.zeroCells (z0).cells (L.length+1-p)).toList)
   (Builtin.zeroCells (z0).cells (grownCap w (L.length+1) cap 82-(L.length+1))).toList ((xs.take (p*2)).toArray++Builtin.zeroCells (z0).cells (L.length+1-p)++Builtin.zeroCells (z0).cells (grownCap w (L.length+1) cap 82-(L.length+1))) 82 (by rw[Aey,Aey]) (by rw[Bt,a8,Ew,a3,B];omega) hG b9
   (by rw[Vx,Vx,a3,a3,Qk,a8,B];omega)
  refine P8 rfl (Ap9 rfl rfl (by simp only[A5v]at r⊢;rw[r];exact c1) ?_);generalize grownCap w (L.length+1) cap 82=G at d hG b9⊢;generalize World.alloc _ _=w1 at d⊢;rw[show w.drew.heap.size=w.heap.size from rfl]at d;generalize w.heap.size=nb at d⊢;refine Hi rfl rfl ?_;refine Dz ?_;refine Dy ?_;refine B4 rfl rfl ?_;refine B4 rfl rfl ?_;refine wv rfl (Jp (i:=p) underlying28 g rfl rfl rfl (by omega) (by omega) (by omega)) ?_;refine B4 rfl rfl ?_;obtain⟨b3,a0,D,b8,e3,d3,q3,a7,U,_,O,_,I⟩:=d.rowAt (.head _) (by omega);obtain⟨⟨rfl,rfl⟩,rfl⟩:(nb=b3/\0=a0)/\G=D:=by simpa using q3
  have Q:=N1 a7 O U;obtain⟨_,t⟩:=d.boxAt (.tail _ (.tail _ (.head _)));refine P8 rfl (Qa rfl rfl (P2 w1 28 28 _ 82 h nb (0+p*2) _ _ ⟨vb,0,Ab⟩ 1 1 1 vs underlying28 l (by simp only[Qm];split<;>omega) (by rw[B];exact a4) (λj u r=>?_) (λj r=>?_) (λj r=>?_) h1v) ?_)
  ·rw[Addr.add_lit];exact t _ _ r
  ·rw[Er];refine Q.1 _ ?_;omega
  ·rw[Er];refine Q.2 _ ?_;omega
  have d:=d.blit (o:=p*2) (cs:=vs) (by omega);refine Dz ?_;refine Ir ?_;refine Xt [(0,0),(1,0),(2,0),(3,0),(4,0),(5,0),(6,0),(7,0),(8,2)] Tryz_mixed (by kernel_rfl) rfl (by kernel_rfl) rfl ?_;refine Ga rfl rfl ?_;refine Ga rfl rfl ?_;refine Ga rfl rfl ?_;refine ov rfl (λ_ _=>J0 rfl rfl ⟨by simp only;omega,by simp only;omega⟩) ?_;refine ov rfl (λ_ _=>Jp (i:=p+1) underlying28 g rfl rfl (by simp) (by omega) (by omega) (by omega)) ?_;refine Ga rfl rfl ?_;refine Ga rfl rfl ?_;refine ov rfl (λ_ _=>Jp (i:=p) underlying28 g rfl rfl rfl (by omega) (by omega) (by omega)) ?_;refine Zo rfl λw2 hR=>?_;have d:=d.call hR;obtain⟨b2,Y,C,b7,e2,d2,q2,a6,R,_,N,_,_⟩:=d.rowAt (.head _) (by omega);obtain⟨⟨rfl,rfl⟩,rfl⟩:(nb=b2/\0=Y)/\G=C:=by simpa using q2
  obtain⟨b5,c5,b6,e6,e5,f5,q5,_,_,_,_,_,K⟩:=d.rowAt (.tail _ (.head _)) (by omega);obtain⟨⟨rfl,rfl⟩,rfl⟩:(b=b5/\off=c5)/\cap=b6:=by simpa using q5
  have Q:=N1 a6 N R;refine Qa rfl rfl (P2 w2 28 28 _ 82 h nb (0+(p+1)*2) _ _ ⟨b,off+p*2,Ab⟩ _ _ (L.length-p) (xs.drop (p*2)) underlying28 l (by simp only[Qm];split<;>omega) (by rw[B,a9]) (λj u r=>?_) (λj r=>?_) (λj r=>?_) (λu hu=>h1x u (Kj hu))) ?_
  ·rw[K6]at r;rw[Addr.add_lit,Er];exact K _ _ r
  ·rw[Er];refine Q.1 _ ?_;omega
  ·rw[Er];refine Q.2 _ ?_;omega
  have d:=d.blit (o:=(p+1)*2) (cs:=xs.drop (p*2)) (by omega);rw[Aw0 A (by rw[Ew,a3]) (by omega) (by omega)]at d;refine Zp d λw3 d=>?_;refine Ky ?_;refine Dy ?_;refine B4 rfl rfl ?_;refine Hi rfl rfl ?_;refine Dz ?_;refine P9 ?_;refine S0 ?_;refine Of [Sv.v ⟨Aa ⟨nb,0,Ab⟩,L.length+1,G⟩] ⟨rfl,trivial⟩ ?_;have d:=((((d.perm (List.Perm.swap ..)).drop).perm (List.Perm.swap ..)).drop);exact⟨_,rfl,(St.insDone (m:=[]) (M:=[a]) (vs:=vs) (xs:=xs) hf hp b0 (by simp[hf,W]) (by simpa using d)).gives⟩
 have V:L.length+1<=cap:=by have:=of_decide_eq_false F;simp only at this;omega
 refine Rg ?_;refine Ky ?_;obtain⟨ys,d9,d⟩:=d.spare 1 V;refine Dy ?_;refine B4 rfl rfl ?_;refine B4 rfl rfl ?_;refine B4 rfl rfl ?_;refine wv rfl (J0 rfl rfl ⟨by simp only;omega,by simp only;omega⟩) ?_;refine wv rfl (Zy (i:=L.length+1) underlying28 g rfl rfl (by simp) V (by omega)) ?_;refine Hi rfl rfl ?_;refine Dz ?_;refine Ir ?_;refine Dy ?_;refine B4 rfl rfl ?_;refine B4 rfl rfl ?_;refine B4 rfl rfl ?_;refine B4 rfl rfl ?_;refine wv rfl (J0 rfl rfl ⟨by simp only;omega,by simp only;omega⟩) ?_;refine wv rfl (Jp (i:=p+1) underlying28 g rfl rfl (by simp) (by omega) (by omega) (by omega)) ?_;have b1:=(d.boxAt (.tail _ (.head _))).1;refine wv rfl (Azg rfl (v:=.bool false) ?_) ?_
 ·rw[run_callFunc_extern func220 (by kernel_rfl) (by kernel_rfl) (by kernel_rfl) (e:=Extern.SlicesOverlaps.overlaps #[28,28] #[4]) (by kernel_rfl)];simp only[Sv.v];rw[A50 w 28 4 82 underlying28 2 g.run ⟨vb,0,Ab⟩ ⟨b,off+(p+1)*2,Ab⟩ 1 1 _ _ d8 ve e vs.toArray.size cur.size (by simp[World.shape?,b1]) (by simp[World.shape?,hg.1]) (by omega) (by simp[World.frozen?,b1]) (by simp[World.frozen?,b1])];rfl
 refine wv rfl (Aol rfl) ?_;refine Dz ?_;refine Mj rfl (λ_=>?_) (λF=>absurd F (by simp));have a9:(xs.drop (p*2)).length=(L.length-p)*2:=by rw[D0,A,I5]
 have d6:=E4 2 a2;refine Ir ?_;refine Xt [(0,0),(1,0),(2,0),(3,0),(4,0),(5,0),(6,0),(7,0),(8,2)] Tryz_mixed (by kernel_rfl) rfl (by kernel_rfl) rfl ?_;refine Ga rfl rfl ?_;refine Ga rfl rfl ?_;refine Ga rfl rfl ?_;refine ov rfl (λ_ _=>J0 rfl rfl ⟨by simp only;omega,by simp only;omega⟩) ?_;refine ov rfl (λ_ _=>Jp (i:=p+1) underlying28 g rfl rfl (by simp) (by omega) (by omega) (by omega)) ?_;refine Ga rfl rfl ?_;refine Ga rfl rfl ?_;refine ov rfl (λ_ _=>Jp (i:=p) underlying28 g rfl rfl rfl (by omega) (by omega) (by omega)) ?_;refine Zo rfl λw1 hR=>?_;have d:=d.call hR;obtain⟨b2,Y,C,b7,e2,d2,q2,a6,R,_,N,_,H⟩:=d.rowAt (.head _) (by omega);obtain⟨⟨rfl,rfl⟩,rfl⟩:(b=b2/\off=Y)/\cap=C:=by simpa using q2
 obtain⟨h,l,_,B,_⟩:=g.info;have Q:=N1 a6 N R;refine Qa rfl rfl (P2 w1 28 28 _ 82 h b (off+(p+1)*2) _ _ ⟨b,off+p*2,Ab⟩ _ _ (L.length-p) (xs.drop (p*2)) underlying28 l (by simp only[Qm];split<;>omega) (by rw[B,a9]) (λj u r=>?_) (λj r=>?_) (λj r=>?_) (λu hu=>h1x u (Kj hu))) ?_
 ·rw[K6]at r;rw[Addr.add_lit,Er];refine H _ _ ?_;rw[Nj (H3.1 r).1];exact r
 ·rw[Er];refine Q.1 _ ?_;omega
 ·rw[Er];refine Q.2 _ ?_;omega
 have d:=d.blit (o:=(p+1)*2) (cs:=xs.drop (p*2)) (by omega);refine Zp d λw2 d=>?_;refine Ky ?_;refine Dy ?_;refine B4 rfl rfl ?_;refine B4 rfl rfl ?_;refine wv rfl (Jp (i:=p) underlying28 g rfl rfl rfl (by omega) (by omega) (by omega)) ?_;refine B4 rfl rfl ?_;obtain⟨b3,a0,D,b8,e3,d3,q3,a7,U,_,O,_,I⟩:=d.rowAt (.head _) (by omega);obtain⟨⟨rfl,rfl⟩,rfl⟩:(b=b3/\off=a0)/\cap=D:=by simpa using q3
 have Q:=N1 a7 O U;obtain⟨_,t⟩:=d.boxAt (.tail _ (.head _));refine P8 rfl (Qa rfl rfl (P2 w2 28 28 _ 82 h b (off+p*2) _ _ ⟨vb,0,Ab⟩ 1 1 1 vs underlying28 l (by simp only[Qm];split<;>omega) (by rw[B];exact a4) (λj u r=>?_) (λj r=>?_) (λj r=>?_) h1v) ?_)
 ·rw[Addr.add_lit];exact t _ _ r
 ·rw[Er];refine Q.1 _ ?_;omega
 ·rw[Er];refine Q.2 _ ?_;omega
 have d:=d.blit (o:=p*2) (cs:=vs) (by omega);rw[Aw1 A d9 (by omega) (by omega)]at d;refine Dz ?_;refine Dy ?_;refine B4 rfl rfl ?_;refine Hi rfl rfl ?_;refine Dz ?_;refine P9 ?_;refine S0 ?_;refine Of [Sv.v ⟨Aa ⟨b,off,Ab⟩,L.length+1,cap⟩] ⟨rfl,trivial⟩ ?_;have d:=(d.perm (List.Perm.swap ..)).drop;exact⟨_,rfl,(St.insDone (m:=[]) (M:=[a]) (vs:=vs) (xs:=xs) hf hp b0 (by simp[hf,W]) (by simpa using d)).gives⟩
theorem Bz7 w X S{T f} (hf:∀x,(f x).length=5) L (s:Sv) i (a:T) vs vb ve (W:vs.length=5) (hS:∀b,S b->b.1<w.heap.size/\¬X b) (oL:Sep (oC (Ar 5 f L) s.v::(Cc vb vs.toArray ve::Bc (f a) vs)) X w) (hi:0<=i/\i<=(L.length:Int)) (hL:L.length<=1000000):
  Ret prog 231 [s.v,.int .i64 i,Sv.v ⟨Aa ⟨vb,0,Ab⟩,1,1⟩] w (λu w'=>∃y:Sv,u=y.v/\H5 X S w [oC (Ar 5 f (L.take i.toNat++[a]++L.drop i.toNat)) y.v] [] w'):=by
 obtain⟨d5,f7⟩:=hi;obtain⟨p,rfl⟩:=Abf d5;rw[Gb];have c4:∃z,Sz prog 107 5 96 z:=⟨_,Bhs⟩;obtain⟨z0,g⟩:=c4;have hp:p<=L.length:=by omega
 refine enter func231 rfl ntmps231 (by kernel_rfl) rfl ?_;have a5:=St.enter oL hS
 have d7:s.n=L.length/\s.n<=s.c:=by
  obtain⟨a,cap,e,h1,h2,_⟩:=a5.seeO (.head _);obtain⟨_,e2,e3⟩:s.p=a/\s.n=L.length/\s.c=cap:=by simpa [Sv.v]using e
  omega
 have hM0r:St ⟨w,X,S⟩ (oC (Ar 5 f L) s.v::(oC (Ar 5 f [a]) (Sv.v ⟨Aa ⟨vb,0,Ab⟩,1,1⟩)::[])) [] w:=by
  have h1:=(a5.perm (Gg (l₁:=[oC (Ar 5 f L) s.v]) (l₂:=Cc vb vs.toArray ve::Bc (f a) vs))).boxRow W;have h2:St ⟨w,X,S⟩ (Cx 5 (Sv.v ⟨Aa ⟨vb,0,Ab⟩,1,1⟩) [a].length vs::(Bc ([a].flatMap f) vs++[oC (Ar 5 f L) s.v])) [] w:=by simpa using h1
  exact(St.rerow (by simpa [hf]using W.symm) h2).perm (List.Perm.swap ..)
 obtain⟨xs,b0,c0⟩:=a5.unrow;have d:St ⟨w,X,S⟩ (Cx 5 s.v L.length xs::Cc vb vs.toArray ve::(Bc (L.flatMap f) xs++(Bc (f a) vs++[]))) [] w:=by refine c0.perm (List.Perm.cons _ ?_);rw[Hu];exact Ct
 clear c0;refine Dy ?_;refine Hi rfl rfl ?_;refine Dz ?_;refine Dy ?_;refine B4 rfl rfl ?_;refine B4 rfl rfl ?_;refine wv rfl (Ag7 underlying23 g rfl rfl ⟨by omega,by omega⟩ d7.2) ?_;refine Dz ?_;refine Dy ?_;refine B4 rfl rfl ?_;refine wv rfl (Q2 underlying23 rfl) ?_;refine Hi rfl rfl ?_;refine Dz ?_;refine Ir ?_;refine Dy ?_;refine B4 rfl rfl ?_;refine wv rfl (Xb rfl rfl) ?_;refine Dz ?_;refine Mj rfl (λF=>absurd (of_decide_eq_true F) (by simp)) (λ_=>?_);refine Rg ?_;refine Ky ?_;refine Dy ?_;refine B4 rfl rfl ?_;refine wv rfl (Q2 underlying23 rfl) ?_;refine Hi rfl rfl ?_;refine Dz ?_;refine Ir ?_;refine Dy ?_;refine B4 rfl rfl ?_;refine B4 rfl rfl ?_;refine wv rfl (Xb rfl rfl) ?_;refine Dz ?_;refine Mj rfl (λF=>?_) (λF=>?_)
 ·have a2:p=L.length:=by have:=of_decide_eq_true F;omega
  refine Dy ?_;refine B4 rfl rfl ?_;refine B4 rfl rfl ?_;refine P8 rfl (Aqa underlying23 g rfl rfl hM0r (by simp;omega) (by decide) ?_);intro s' w1 d;refine Hi rfl rfl ?_;refine Dz ?_;refine P9 ?_;refine S0 ?_;refine Of [s'.v] ⟨rfl,trivial⟩ ?_;rw[a2,Hd,Vy,Hu];exact⟨s',rfl,d.gives⟩
 have a2:p<L.length:=by have:=of_decide_eq_false F;omega
 obtain⟨b,off,cap,cur,e,hd,rfl,hg,f8,d1,f4,A,a1⟩:=d.rowAt (.head _) (by omega);have d8:=d.apart (by omega);have h1x:=St.zipOne b0 d.drop.drop;have h1v:∀u∈vs,u.oneCell'=true:=St.zipOne (cs:=f a) (m:=Bc (L.flatMap f) xs) (by rw[hf a,W]) (d.drop.drop.perm (by rw[Hu];exact Gg));have a4:vs.length=1*5:=by omega
 simp only[maxLen]at d1;refine Rg ?_;refine Ky ?_;refine Ir ?_;refine Dy ?_;refine B4 rfl rfl ?_;refine B4 rfl rfl ?_;refine wv rfl (J0 rfl rfl ⟨by simp only;omega,by simp only;omega⟩) ?_;refine B4 rfl rfl ?_;refine wv rfl (Azf underlying23 rfl) ?_;refine wv rfl (Aok rfl rfl) ?_;refine Dz ?_;refine Mj rfl (λF=>?_) (λF=>?_)
 ·have d4:cap<L.length+1:=by have:=of_decide_eq_true F;simp only at this;omega
  have a9:(xs.drop (p*5)).length=(L.length-p)*5:=by rw[D0,A,I5]
  have d6:=E4 5 a2;obtain⟨h,l,hz,B,c2⟩:=g.info;refine Dy ?_;refine B4 rfl rfl ?_;refine B4 rfl rfl ?_;refine wv rfl (Zy (i:=p) underlying23 g rfl rfl rfl (by omega) (by omega)) ?_;refine B4 rfl rfl ?_;refine B4 rfl rfl ?_;refine wv rfl (J0 rfl rfl ⟨by simp only;omega,by simp only;omega⟩) ?_;refine B4 rfl rfl ?_;refine wv rfl (Aom rfl rfl ⟨by simp only;omega,by simp only;omega⟩) ?_;have a8:(xs.take (p*5)).length=p*h.size:=by rw[Dh,A,B];omega
  have c3:(Builtin.firstCells h.size p (.slice (Aa ⟨b,off,Ab⟩) p cap)).run prog w.drew=.ok (xs.take (p*5)).toArray w.drew:=
   run_firstCells_some w.drew h.size p ⟨b,off,Ab⟩ p cap _ a8 λj u r=>by
    rw[Addr.add_lit];rw[Nk]at r;split at r
    ·exact a1 _ _ r
    ·cases r
  have c1:=A5z (P:=prog) w 23 3 23 107 h _ .i64 .i64 underlying23 underlying3 l hz (Aa ⟨b,off,Ab⟩) p cap (xs.take (p*5)) c3 (L.length+1-p) (by omega) (by omega) (by omega) (by omega) (by rw[c2];omega) (by rw[c2];exact growslice_fits (by omega) (by omega));have r:(((L.length:Nat):Int)+((1:Nat):Int)-(p:Int))=((L.length+1-p:Nat):Int):=by omega
  have hq:p+(L.length+1-p)=L.length+1:=by omega
  rw[hq]at c1;have hG:=grownCap_ge w (L.length+1) cap 107;have b9:=grownCap_le_maxLen w (L.length+1) cap 107 (by simp only[maxLen];omega);have a3:∀q,(Builtin.zeroCells (z0).cells q).size=q*5:=λq=>by rw[size_zeroCells,g.2.1]
  have d:=d.drew.allocRow (k:=5) (n:=L.length+1) (cap:=grownCap w (L.length+1) cap 107) (xs.take (p*5)++(Builtin.zeroCells (z0).cells (L.length+1-p)).toList)
   (Builtin.zeroCells (z0).cells (grownCap w (L.length+1) cap 107-(L.length+1))).toList ((xs.take (p*5)).toArray++Builtin.zeroCells (z0).cells (L.length+1-p)++Builtin.zeroCells (z0).cells (grownCap w (L.length+1) cap 107-(L.length+1))) 107 (by rw[Aey,Aey]) (by rw[Bt,a8,Ew,a3,B];omega) hG b9
   (by rw[Vx,Vx,a3,a3,Qk,a8,B];omega)
  refine P8 rfl (Ap9 rfl rfl (by simp only[A5v]at r⊢;rw[r];exact c1) ?_);generalize grownCap w (L.length+1) cap 107=G at d hG b9⊢;generalize World.alloc _ _=w1 at d⊢;rw[show w.drew.heap.size=w.heap.size from rfl]at d;generalize w.heap.size=nb at d⊢;refine Hi rfl rfl ?_;refine Dz ?_;refine Dy ?_;refine B4 rfl rfl ?_;refine B4 rfl rfl ?_;refine wv rfl (Jp (i:=p) underlying23 g rfl rfl rfl (by omega) (by omega) (by omega)) ?_;refine B4 rfl rfl ?_;obtain⟨b3,a0,D,b8,e3,d3,q3,a7,U,_,O,_,I⟩:=d.rowAt (.head _) (by omega);obtain⟨⟨rfl,rfl⟩,rfl⟩:(nb=b3/\0=a0)/\G=D:=by simpa using q3
  have Q:=N1 a7 O U;obtain⟨_,t⟩:=d.boxAt (.tail _ (.tail _ (.head _)));refine P8 rfl (Qa rfl rfl (P2 w1 23 23 _ 107 h nb (0+p*5) _ _ ⟨vb,0,Ab⟩ 1 1 1 vs underlying23 l (by simp only[Qm];split<;>omega) (by rw[B];exact a4) (λj u r=>?_) (λj r=>?_) (λj r=>?_) h1v) ?_)
  ·rw[Addr.add_lit];exact t _ _ r
  ·rw[Er];refine Q.1 _ ?_;omega
  ·rw[Er];refine Q.2 _ ?_;omega
  have d:=d.blit (o:=p*5) (cs:=vs) (by omega);refine Dz ?_;refine Ir ?_;refine Xt [(0,0),(1,0),(2,0),(3,0),(4,0),(5,0),(6,0),(7,0),(8,2)] Tryz_mixed (by kernel_rfl) rfl (by kernel_rfl) rfl ?_;refine Ga rfl rfl ?_;refine Ga rfl rfl ?_;refine Ga rfl rfl ?_;refine ov rfl (λ_ _=>J0 rfl rfl ⟨by simp only;omega,by simp only;omega⟩) ?_;refine ov rfl (λ_ _=>Jp (i:=p+1) underlying23 g rfl rfl (by simp) (by omega) (by omega) (by omega)) ?_;refine Ga rfl rfl ?_;refine Ga rfl rfl ?_;refine ov rfl (λ_ _=>Jp (i:=p) underlying23 g rfl rfl rfl (by omega) (by omega) (by omega)) ?_;refine Zo rfl λw2 hR=>?_;have d:=d.call hR;obtain⟨b2,Y,C,b7,e2,d2,q2,a6,R,_,N,_,_⟩:=d.rowAt (.head _) (by omega);obtain⟨⟨rfl,rfl⟩,rfl⟩:(nb=b2/\0=Y)/\G=C:=by simpa using q2
  obtain⟨b5,c5,b6,e6,e5,f5,q5,_,_,_,_,_,K⟩:=d.rowAt (.tail _ (.head _)) (by omega);obtain⟨⟨rfl,rfl⟩,rfl⟩:(b=b5/\off=c5)/\cap=b6:=by simpa using q5
  have Q:=N1 a6 N R;refine Qa rfl rfl (P2 w2 23 23 _ 107 h nb (0+(p+1)*5) _ _ ⟨b,off+p*5,Ab⟩ _ _ (L.length-p) (xs.drop (p*5)) underlying23 l (by simp only[Qm];split<;>omega) (by rw[B,a9]) (λj u r=>?_) (λj r=>?_) (λj r=>?_) (λu hu=>h1x u (Kj hu))) ?_
  ·rw[K6]at r;rw[Addr.add_lit,Er];exact K _ _ r
  ·rw[Er];refine Q.1 _ ?_;omega
  ·rw[Er];refine Q.2 _ ?_;omega
  have d:=d.blit (o:=(p+1)*5) (cs:=xs.drop (p*5)) (by omega);rw[Aw0 A (by rw[Ew,a3]) (by omega) (by omega)]at d;refine Zp d λw3 d=>?_;refine Ky ?_;refine Dy ?_;refine B4 rfl rfl ?_;refine Hi rfl rfl ?_;refine Dz ?_;refine P9 ?_;refine S0 ?_;refine Of [Sv.v ⟨Aa ⟨nb,0,Ab⟩,L.length+1,G⟩] ⟨rfl,trivial⟩ ?_;have d:=((((d.perm (List.Perm.swap ..)).drop).perm (List.Perm.swap ..)).drop);exact⟨_,rfl,(St.insDone (m:=[]) (M:=[a]) (vs:=vs) (xs:=xs) hf hp b0 (by simp[hf,W]) (by simpa using d)).gives⟩
 have V:L.length+1<=cap:=by have:=of_decide_eq_false F;simp only at this;omega
 refine Rg ?_;refine Ky ?_;obtain⟨ys,d9,d⟩:=d.spare 1 V;refine Dy ?_;refine B4 rfl rfl ?_;refine B4 rfl rfl ?_;refine B4 rfl rfl ?_;refine wv rfl (J0 rfl rfl ⟨by simp only;omega,by simp only;omega⟩) ?_;refine wv rfl (Zy (i:=L.length+1) underlying23 g rfl rfl (by simp) V (by omega)) ?_;refine Hi rfl rfl ?_;refine Dz ?_;refine Ir ?_;refine Dy ?_;refine B4 rfl rfl ?_;refine B4 rfl rfl ?_;refine B4 rfl rfl ?_;refine B4 rfl rfl ?_;refine wv rfl (J0 rfl rfl ⟨by simp only;omega,by simp only;omega⟩) ?_;refine wv rfl (Jp (i:=p+1) underlying23 g rfl rfl (by simp) (by omega) (by omega) (by omega)) ?_;have b1:=(d.boxAt (.tail _ (.head _))).1;refine wv rfl (Azg rfl (v:=.bool false) ?_) ?_
 ·rw[run_callFunc_extern func271 (by kernel_rfl) (by kernel_rfl) (by kernel_rfl) (e:=Extern.SlicesOverlaps.overlaps #[23,23] #[4]) (by kernel_rfl)];simp only[Sv.v];rw[A50 w 23 4 107 underlying23 5 g.run ⟨vb,0,Ab⟩ ⟨b,off+(p+1)*5,Ab⟩ 1 1 _ _ d8 ve e vs.toArray.size cur.size (by simp[World.shape?,b1]) (by simp[World.shape?,hg.1]) (by omega) (by simp[World.frozen?,b1]) (by simp[World.frozen?,b1])];rfl
 refine wv rfl (Aol rfl) ?_;refine Dz ?_;refine Mj rfl (λ_=>?_) (λF=>absurd F (by simp));have a9:(xs.drop (p*5)).length=(L.length-p)*5:=by rw[D0,A,I5]
 have d6:=E4 5 a2;refine Ir ?_;refine Xt [(0,0),(1,0),(2,0),(3,0),(4,0),(5,0),(6,0),(7,0),(8,2)] Tryz_mixed (by kernel_rfl) rfl (by kernel_rfl) rfl ?_;refine Ga rfl rfl ?_;refine Ga rfl rfl ?_;refine Ga rfl rfl ?_;refine ov rfl (λ_ _=>J0 rfl rfl ⟨by simp only;omega,by simp only;omega⟩) ?_;refine ov rfl (λ_ _=>Jp (i:=p+1) underlying23 g rfl rfl (by simp) (by omega) (by omega) (by omega)) ?_;refine Ga rfl rfl ?_;refine Ga rfl rfl ?_;refine ov rfl (λ_ _=>Jp (i:=p) underlying23 g rfl rfl rfl (by omega) (by omega) (by omega)) ?_;refine Zo rfl λw1 hR=>?_;have d:=d.call hR;obtain⟨b2,Y,C,b7,e2,d2,q2,a6,R,_,N,_,H⟩:=d.rowAt (.head _) (by omega);obtain⟨⟨rfl,rfl⟩,rfl⟩:(b=b2/\off=Y)/\cap=C:=by simpa using q2
 obtain⟨h,l,_,B,_⟩:=g.info;have Q:=N1 a6 N R;refine Qa rfl rfl (P2 w1 23 23 _ 107 h b (off+(p+1)*5) _ _ ⟨b,off+p*5,Ab⟩ _ _ (L.length-p) (xs.drop (p*5)) underlying23 l (by simp only[Qm];split<;>omega) (by rw[B,a9]) (λj u r=>?_) (λj r=>?_) (λj r=>?_) (λu hu=>h1x u (Kj hu))) ?_
 ·rw[K6]at r;rw[Addr.add_lit,Er];refine H _ _ ?_;rw[Nj (H3.1 r).1];exact r
 ·rw[Er];refine Q.1 _ ?_;omega
 ·rw[Er];refine Q.2 _ ?_;omega
 have d:=d.blit (o:=(p+1)*5) (cs:=xs.drop (p*5)) (by omega);refine Zp d λw2 d=>?_;refine Ky ?_;refine Dy ?_;refine B4 rfl rfl ?_;refine B4 rfl rfl ?_;refine wv rfl (Jp (i:=p) underlying23 g rfl rfl rfl (by omega) (by omega) (by omega)) ?_;refine B4 rfl rfl ?_;obtain⟨b3,a0,D,b8,e3,d3,q3,a7,U,_,O,_,I⟩:=d.rowAt (.head _) (by omega);obtain⟨⟨rfl,rfl⟩,rfl⟩:(b=b3/\off=a0)/\cap=D:=by simpa using q3
 have Q:=N1 a7 O U;obtain⟨_,t⟩:=d.boxAt (.tail _ (.head _));refine P8 rfl (Qa rfl rfl (P2 w2 23 23 _ 107 h b (off+p*5) _ _ ⟨vb,0,Ab⟩ 1 1 1 vs underlying23 l (by simp only[Qm];split<;>omega) (by rw[B];exact a4) (λj u r=>?_) (λj r=>?_) (λj r=>?_) h1v) ?_)
 ·rw[Addr.add_lit];exact t _ _ r
 ·rw[Er];refine Q.1 _ ?_;omega
 ·rw[Er];refine Q.2 _ ?_;omega
 have d:=d.blit (o:=p*5) (cs:=vs) (by omega);rw[Aw1 A d9 (by omega) (by omega)]at d;refine Dz ?_;refine Dy ?_;refine B4 rfl rfl ?_;refine Hi rfl rfl ?_;refine Dz ?_;refine P9 ?_;refine S0 ?_;refine Of [Sv.v ⟨Aa ⟨b,off,Ab⟩,L.length+1,cap⟩] ⟨rfl,trivial⟩ ?_;have d:=(d.perm (List.Perm.swap ..)).drop;exact⟨_,rfl,(St.insDone (m:=[]) (M:=[a]) (vs:=vs) (xs:=xs) hf hp b0 (by simp[hf,W]) (by simpa using d)).gives⟩
theorem Bz9 w X S{T f} (hf:∀x,(f x).length=3) L (s:Sv) i (a:T) vs vb ve (W:vs.length=3) (hS:∀b,S b->b.1<w.heap.size/\¬X b) (oL:Sep (oC (Ar 3 f L) s.v::(Cc vb vs.toArray ve::Bc (f a) vs)) X w) (hi:0<=i/\i<=(L.length:Int)) (hL:L.length<=1000000):
  Ret prog 275 [s.v,.int .i64 i,Sv.v ⟨Aa ⟨vb,0,Ab⟩,1,1⟩] w (λu w'=>∃y:Sv,u=y.v/\H5 X S w [oC (Ar 3 f (L.take i.toNat++[a]++L.drop i.toNat)) y.v] [] w'):=by
 obtain⟨d5,f7⟩:=hi;obtain⟨p,rfl⟩:=Abf d5;rw[Gb];have c4:∃z,Sz prog 111 3 24 z:=⟨_,Bht⟩;obtain⟨z0,g⟩:=c4;have hp:p<=L.length:=by omega
 refine enter func275 rfl ntmps275 (by kernel_rfl) rfl ?_;have a5:=St.enter oL hS
 have d7:s.n=L.length/\s.n<=s.c:=by
  obtain⟨a,cap,e,h1,h2,_⟩:=a5.seeO (.head _);obtain⟨_,e2,e3⟩:s.p=a/\s.n=L.length/\s.c=cap:=by simpa [Sv.v]using e
  omega
 have hM0r:St ⟨w,X,S⟩ (oC (Ar 3 f L) s.v::(oC (Ar 3 f [a]) (Sv.v ⟨Aa ⟨vb,0,Ab⟩,1,1⟩)::[])) [] w:=by
  have h1:=(a5.perm (Gg (l₁:=[oC (Ar 3 f L) s.v]) (l₂:=Cc vb vs.toArray ve::Bc (f a) vs))).boxRow W;have h2:St ⟨w,X,S⟩ (Cx 3 (Sv.v ⟨Aa ⟨vb,0,Ab⟩,1,1⟩) [a].length vs::(Bc ([a].flatMap f) vs++[oC (Ar 3 f L) s.v])) [] w:=by simpa using h1
  exact(St.rerow (by simpa [hf]using W.symm) h2).perm (List.Perm.swap ..)
 obtain⟨xs,b0,c0⟩:=a5.unrow;have d:St ⟨w,X,S⟩ (Cx 3 s.v L.length xs::Cc vb vs.toArray ve::(Bc (L.flatMap f) xs++(Bc (f a) vs++[]))) [] w:=by refine c0.perm (List.Perm.cons _ ?_);rw[Hu];exact Ct
 clear c0;refine Dy ?_;refine Hi rfl rfl ?_;refine Dz ?_;refine Dy ?_;refine B4 rfl rfl ?_;refine B4 rfl rfl ?_;refine wv rfl (Ag7 underlying105 g rfl rfl ⟨by omega,by omega⟩ d7.2) ?_;refine Dz ?_;refine Dy ?_;refine B4 rfl rfl ?_;refine wv rfl (Q2 underlying105 rfl) ?_;refine Hi rfl rfl ?_;refine Dz ?_;refine Ir ?_;refine Dy ?_;refine B4 rfl rfl ?_;refine wv rfl (Xb rfl rfl) ?_;refine Dz ?_;refine Mj rfl (λF=>absurd (of_decide_eq_true F) (by simp)) (λ_=>?_);refine Rg ?_;refine Ky ?_;refine Dy ?_;refine B4 rfl rfl ?_;refine wv rfl (Q2 underlying105 rfl) ?_;refine Hi rfl rfl ?_;refine Dz ?_;refine Ir ?_;refine Dy ?_;refine B4 rfl rfl ?_;refine B4 rfl rfl ?_;refine wv rfl (Xb rfl rfl) ?_;refine Dz ?_;refine Mj rfl (λF=>?_) (λF=>?_)
 ·have a2:p=L.length:=by have:=of_decide_eq_true F;omega
  refine Dy ?_;refine B4 rfl rfl ?_;refine B4 rfl rfl ?_;refine P8 rfl (Aqa underlying105 g rfl rfl hM0r (by simp;omega) (by decide) ?_);intro s' w1 d;refine Hi rfl rfl ?_;refine Dz ?_;refine P9 ?_;refine S0 ?_;refine Of [s'.v] ⟨rfl,trivial⟩ ?_;rw[a2,Hd,Vy,Hu];exact⟨s',rfl,d.gives⟩
 have a2:p<L.length:=by have:=of_decide_eq_false F;omega
 obtain⟨b,off,cap,cur,e,hd,rfl,hg,f8,d1,f4,A,a1⟩:=d.rowAt (.head _) (by omega);have d8:=d.apart (by omega);have h1x:=St.zipOne b0 d.drop.drop;have h1v:∀u∈vs,u.oneCell'=true:=St.zipOne (cs:=f a) (m:=Bc (L.flatMap f) xs) (by rw[hf a,W]) (d.drop.drop.perm (by rw[Hu];exact Gg));have a4:vs.length=1*3:=by omega
 simp only[maxLen]at d1;refine Rg ?_;refine Ky ?_;refine Ir ?_;refine Dy ?_;refine B4 rfl rfl ?_;refine B4 rfl rfl ?_;refine wv rfl (J0 rfl rfl ⟨by simp only;omega,by simp only;omega⟩) ?_;refine B4 rfl rfl ?_;refine wv rfl (Azf underlying105 rfl) ?_;refine wv rfl (Aok rfl rfl) ?_;refine Dz ?_;refine Mj rfl (λF=>?_) (λF=>?_)
 ·have d4:cap<L.length+1:=by have:=of_decide_eq_true F;simp only at this;omega
  have a9:(xs.drop (p*3)).length=(L.length-p)*3:=by rw[D0,A,I5]
  have d6:=E4 3 a2;obtain⟨h,l,hz,B,c2⟩:=g.info;refine Dy ?_;refine B4 rfl rfl ?_;refine B4 rfl rfl ?_;refine wv rfl (Zy (i:=p) underlying105 g rfl rfl rfl (by omega) (by omega)) ?_;refine B4 rfl rfl ?_;refine B4 rfl rfl ?_;refine wv rfl (J0 rfl rfl ⟨by simp only;omega,by simp only;omega⟩) ?_;refine B4 rfl rfl ?_;refine wv rfl (Aom rfl rfl ⟨by simp only;omega,by simp only;omega⟩) ?_;have a8:(xs.take (p*3)).length=p*h.size:=by rw[Dh,A,B];omega
  have c3:(Builtin.firstCells h.size p (.slice (Aa ⟨b,off,Ab⟩) p cap)).run prog w.drew=.ok (xs.take (p*3)).toArray w.drew:=
   run_firstCells_some w.drew h.size p ⟨b,off,Ab⟩ p cap _ a8 λj u r=>by
    rw[Addr.add_lit];rw[Nk]at r;split at r
    ·exact a1 _ _ r
    ·cases r
  have c1:=A5z (P:=prog) w 105 3 105 111 h _ .i64 .i64 underlying105 underlying3 l hz (Aa ⟨b,off,Ab⟩) p cap (xs.take (p*3)) c3 (L.length+1-p) (by omega) (by omega) (by omega) (by omega) (by rw[c2];omega) (by rw[c2];exact growslice_fits (by omega) (by omega));have r:(((L.length:Nat):Int)+((1:Nat):Int)-(p:Int))=((L.length+1-p:Nat):Int):=by omega
  have hq:p+(L.length+1-p)=L.length+1:=by omega
  rw[hq]at c1;have hG:=grownCap_ge w (L.length+1) cap 111;have b9:=grownCap_le_maxLen w (L.length+1) cap 111 (by simp only[maxLen];omega);have a3:∀q,(Builtin.zeroCells (z0).cells q).size=q*3:=λq=>by rw[size_zeroCells,g.2.1]
  have d:=d.drew.allocRow (k:=3) (n:=L.length+1) (cap:=grownCap w (L.length+1) cap 111) (xs.take (p*3)++(Builtin.zeroCells (z0).cells (L.length+1-p)).toList)
   (Builtin.zeroCells (z0).cells (grownCap w (L.length+1) cap 111-(L.length+1))).toList ((xs.take (p*3)).toArray++Builtin.zeroCells (z0).cells (L.length+1-p)++Builtin.zeroCells (z0).cells (grownCap w (L.length+1) cap 111-(L.length+1))) 111 (by rw[Aey,Aey]) (by rw[Bt,a8,Ew,a3,B];omega) hG b9
   (by rw[Vx,Vx,a3,a3,Qk,a8,B];omega)
  refine P8 rfl (Ap9 rfl rfl (by simp only[A5v]at r⊢;rw[r];exact c1) ?_);generalize grownCap w (L.length+1) cap 111=G at d hG b9⊢;generalize World.alloc _ _=w1 at d⊢;rw[show w.drew.heap.size=w.heap.size from rfl]at d;generalize w.heap.size=nb at d⊢;refine Hi rfl rfl ?_;refine Dz ?_;refine Dy ?_;refine B4 rfl rfl ?_;refine B4 rfl rfl ?_;refine wv rfl (Jp (i:=p) underlying105 g rfl rfl rfl (by omega) (by omega) (by omega)) ?_;refine B4 rfl rfl ?_;obtain⟨b3,a0,D,b8,e3,d3,q3,a7,U,_,O,_,I⟩:=d.rowAt (.head _) (by omega);obtain⟨⟨rfl,rfl⟩,rfl⟩:(nb=b3/\0=a0)/\G=D:=by simpa using q3
  have Q:=N1 a7 O U;obtain⟨_,t⟩:=d.boxAt (.tail _ (.tail _ (.head _)));refine P8 rfl (Qa rfl rfl (P2 w1 105 105 _ 111 h nb (0+p*3) _ _ ⟨vb,0,Ab⟩ 1 1 1 vs underlying105 l (by simp only[Qm];split<;>omega) (by rw[B];exact a4) (λj u r=>?_) (λj r=>?_) (λj r=>?_) h1v) ?_)
  ·rw[Addr.add_lit];exact t _ _ r
  ·rw[Er];refine Q.1 _ ?_;omega
  ·rw[Er];refine Q.2 _ ?_;omega
  have d:=d.blit (o:=p*3) (cs:=vs) (by omega);refine Dz ?_;refine Ir ?_;refine Xt [(0,0),(1,0),(2,0),(3,0),(4,0),(5,0),(6,0),(7,0),(8,2)] Tryz_mixed (by kernel_rfl) rfl (by kernel_rfl) rfl ?_;refine Ga rfl rfl ?_;refine Ga rfl rfl ?_;refine Ga rfl rfl ?_;refine ov rfl (λ_ _=>J0 rfl rfl ⟨by simp only;omega,by simp only;omega⟩) ?_;refine ov rfl (λ_ _=>Jp (i:=p+1) underlying105 g rfl rfl (by simp) (by omega) (by omega) (by omega)) ?_;refine Ga rfl rfl ?_;refine Ga rfl rfl ?_;refine ov rfl (λ_ _=>Jp (i:=p) underlying105 g rfl rfl rfl (by omega) (by omega) (by omega)) ?_;refine Zo rfl λw2 hR=>?_;have d:=d.call hR;obtain⟨b2,Y,C,b7,e2,d2,q2,a6,R,_,N,_,_⟩:=d.rowAt (.head _) (by omega);obtain⟨⟨rfl,rfl⟩,rfl⟩:(nb=b2/\0=Y)/\G=C:=by simpa using q2
  obtain⟨b5,c5,b6,e6,e5,f5,q5,_,_,_,_,_,K⟩:=d.rowAt (.tail _ (.head _)) (by omega);obtain⟨⟨rfl,rfl⟩,rfl⟩:(b=b5/\off=c5)/\cap=b6:=by simpa using q5
  have Q:=N1 a6 N R;refine Qa rfl rfl (P2 w2 105 105 _ 111 h nb (0+(p+1)*3) _ _ ⟨b,off+p*3,Ab⟩ _ _ (L.length-p) (xs.drop (p*3)) underlying105 l (by simp only[Qm];split<;>omega) (by rw[B,a9]) (λj u r=>?_) (λj r=>?_) (λj r=>?_) (λu hu=>h1x u (Kj hu))) ?_
  ·rw[K6]at r;rw[Addr.add_lit,Er];exact K _ _ r
  ·rw[Er];refine Q.1 _ ?_;omega
  ·rw[Er];refine Q.2 _ ?_;omega
  have d:=d.blit (o:=(p+1)*3) (cs:=xs.drop (p*3)) (by omega);rw[Aw0 A (by rw[Ew,a3]) (by omega) (by omega)]at d;refine Zp d λw3 d=>?_;refine Ky ?_;refine Dy ?_;refine B4 rfl rfl ?_;refine Hi rfl rfl ?_;refine Dz ?_;refine P9 ?_;refine S0 ?_;refine Of [Sv.v ⟨Aa ⟨nb,0,Ab⟩,L.length+1,G⟩] ⟨rfl,trivial⟩ ?_;have d:=((((d.perm (List.Perm.swap ..)).drop).perm (List.Perm.swap ..)).drop);exact⟨_,rfl,(St.insDone (m:=[]) (M:=[a]) (vs:=vs) (xs:=xs) hf hp b0 (by simp[hf,W]) (by simpa using d)).gives⟩
 have V:L.length+1<=cap:=by have:=of_decide_eq_false F;simp only at this;omega
 refine Rg ?_;refine Ky ?_;obtain⟨ys,d9,d⟩:=d.spare 1 V;refine Dy ?_;refine B4 rfl rfl ?_;refine B4 rfl rfl ?_;refine B4 rfl rfl ?_;refine wv rfl (J0 rfl rfl ⟨by simp only;omega,by simp only;omega⟩) ?_;refine wv rfl (Zy (i:=L.length+1) underlying105 g rfl rfl (by simp) V (by omega)) ?_;refine Hi rfl rfl ?_;refine Dz ?_;refine Ir ?_;refine Dy ?_;refine B4 rfl rfl ?_;refine B4 rfl rfl ?_;refine B4 rfl rfl ?_;refine B4 rfl rfl ?_;refine wv rfl (J0 rfl rfl ⟨by simp only;omega,by simp only;omega⟩) ?_;refine wv rfl (Jp (i:=p+1) underlying105 g rfl rfl (by simp) (by omega) (by omega) (by omega)) ?_;have b1:=(d.boxAt (.tail _ (.head _))).1;refine wv rfl (Azg rfl (v:=.bool false) ?_) ?_
 ·rw[run_callFunc_extern func307 (by kernel_rfl) (by kernel_rfl) (by kernel_rfl) (e:=Extern.SlicesOverlaps.overlaps #[105,105] #[4]) (by kernel_rfl)];simp only[Sv.v];rw[A50 w 105 4 111 underlying105 3 g.run ⟨vb,0,Ab⟩ ⟨b,off+(p+1)*3,Ab⟩ 1 1 _ _ d8 ve e vs.toArray.size cur.size (by simp[World.shape?,b1]) (by simp[World.shape?,hg.1]) (by omega) (by simp[World.frozen?,b1]) (by simp[World.frozen?,b1])];rfl
 refine wv rfl (Aol rfl) ?_;refine Dz ?_;refine Mj rfl (λ_=>?_) (λF=>absurd F (by simp));have a9:(xs.drop (p*3)).length=(L.length-p)*3:=by rw[D0,A,I5]
 have d6:=E4 3 a2;refine Ir ?_;refine Xt [(0,0),(1,0),(2,0),(3,0),(4,0),(5,0),(6,0),(7,0),(8,2)] Tryz_mixed (by kernel_rfl) rfl (by kernel_rfl) rfl ?_;refine Ga rfl rfl ?_;refine Ga rfl rfl ?_;refine Ga rfl rfl ?_;refine ov rfl (λ_ _=>J0 rfl rfl ⟨by simp only;omega,by simp only;omega⟩) ?_;refine ov rfl (λ_ _=>Jp (i:=p+1) underlying105 g rfl rfl (by simp) (by omega) (by omega) (by omega)) ?_;refine Ga rfl rfl ?_;refine Ga rfl rfl ?_;refine ov rfl (λ_ _=>Jp (i:=p) underlying105 g rfl rfl rfl (by omega) (by omega) (by omega)) ?_;refine Zo rfl λw1 hR=>?_;have d:=d.call hR;obtain⟨b2,Y,C,b7,e2,d2,q2,a6,R,_,N,_,H⟩:=d.rowAt (.head _) (by omega);obtain⟨⟨rfl,rfl⟩,rfl⟩:(b=b2/\off=Y)/\cap=C:=by simpa using q2
 obtain⟨h,l,_,B,_⟩:=g.info;have Q:=N1 a6 N R;refine Qa rfl rfl (P2 w1 105 105 _ 111 h b (off+(p+1)*3) _ _ ⟨b,off+p*3,Ab⟩ _ _ (L.length-p) (xs.drop (p*3)) underlying105 l (by simp only[Qm];split<;>omega) (by rw[B,a9]) (λj u r=>?_) (λj r=>?_) (λj r=>?_) (λu hu=>h1x u (Kj hu))) ?_
 ·rw[K6]at r;rw[Addr.add_lit,Er];refine H _ _ ?_;rw[Nj (H3.1 r).1];exact r
 ·rw[Er];refine Q.1 _ ?_;omega
 ·rw[Er];refine Q.2 _ ?_;omega
 have d:=d.blit (o:=(p+1)*3) (cs:=xs.drop (p*3)) (by omega);refine Zp d λw2 d=>?_;refine Ky ?_;refine Dy ?_;refine B4 rfl rfl ?_;refine B4 rfl rfl ?_;refine wv rfl (Jp (i:=p) underlying105 g rfl rfl rfl (by omega) (by omega) (by omega)) ?_;refine B4 rfl rfl ?_;obtain⟨b3,a0,D,b8,e3,d3,q3,a7,U,_,O,_,I⟩:=d.rowAt (.head _) (by omega);obtain⟨⟨rfl,rfl⟩,rfl⟩:(b=b3/\off=a0)/\cap=D:=by simpa using q3
 have Q:=N1 a7 O U;obtain⟨_,t⟩:=d.boxAt (.tail _ (.head _));refine P8 rfl (Qa rfl rfl (P2 w2 105 105 _ 111 h b (off+p*3) _ _ ⟨vb,0,Ab⟩ 1 1 1 vs underlying105 l (by simp only[Qm];split<;>omega) (by rw[B];exact a4) (λj u r=>?_) (λj r=>?_) (λj r=>?_) h1v) ?_)
 ·rw[Addr.add_lit];exact t _ _ r
 ·rw[Er];refine Q.1 _ ?_;omega
 ·rw[Er];refine Q.2 _ ?_;omega
 have d:=d.blit (o:=p*3) (cs:=vs) (by omega);rw[Aw1 A d9 (by omega) (by omega)]at d;refine Dz ?_;refine Dy ?_;refine B4 rfl rfl ?_;refine Hi rfl rfl ?_;refine Dz ?_;refine P9 ?_;refine S0 ?_;refine Of [Sv.v ⟨Aa ⟨b,off,Ab⟩,L.length+1,cap⟩] ⟨rfl,trivial⟩ ?_;have d:=(d.perm (List.Perm.swap ..)).drop;exact⟨_,rfl,(St.insDone (m:=[]) (M:=[a]) (vs:=vs) (xs:=xs) hf hp b0 (by simp[hf,W]) (by simpa using d)).gives⟩
end
section
open Go.RowKit
section
variable {Af:List Rd} {f:FuncId}
theorem Bxx{X S w w' r} (h:H5 X S w [] [] w'):H5 X S w [oC (cT r) (.string r)] [] w':=by obtain⟨c,F,d,e,_⟩:=h;have a:∀b,F b->b.1<w'.heap.size:=d;exact⟨c,F,⟨a,λ_=>False,F,⟨rfl,λ_ h=>h.elim⟩,a,λ_ h=>h.elim,λ_ h=>h.elim,λ_ h=>h⟩,e,λ_ g=>by cases g⟩
theorem Axi{w w' X S} {ps:List PK}{r lsO u} (l:lsO=[]) (h:KV X S w (.string r) u w'):
  ∃vs a j,u=Mh vs/\(∃i c d e g,[[A5.s r]]=i++lsO/\RPack [⟨true,.b 2,false⟩] i vs c e/\OPack [] [] lsO d g/\a=c++d/\j=e++g)/\H5 X S w a j w':=by
 obtain⟨_,rfl,k⟩:=h;subst l;exact⟨[.string r],[oC (cT r) (.string r)],[],rfl,⟨[[A5.s r]],[oC (cT r) (.string r)],[],[],[],rfl,⟨[.string r],[],[],[],[],rfl,rfl,⟨rfl,rfl,rfl⟩,⟨rfl,rfl⟩,⟨rfl,rfl⟩⟩,⟨rfl,rfl⟩,rfl,rfl⟩,Bxx k⟩
theorem Xc{S w c vs} (h:Eg S w [c] vs):∃v,vs=[v]/\c.rd S w v:=by obtain⟨v,rest,rfl,a,b⟩:=h;have:rest=[]:=b;subst this;exact⟨v,rfl,a⟩
theorem Bx5 {x:Int->Option Cea} (h:∀(w:World) (X S:Bs) (n:Int),SX X S w->(∀r∈Af,r.ok S w)->Sep [] X w->∀ {r},x n=Aa r->Ret prog f [.int .i64 n] w (KV X S w (.string r))):
  Holds Af ⟨f,[.val false (.b 0)],[⟨true,.b 2,false⟩],λa=>x a.1⟩:=by
 intro w X S a g own K r B y z C hx;cases B with
 | @ro _ _ i _ I _ _ _ _ v k=>
 cases k;obtain⟨H,rfl,g1⟩:=Xc v;have t:H=.int .i64 i:=g1;subst t;refine(h w X S i z C y hx).mono λu w' A=>?_;obtain⟨vs,c,e,j,⟨d,D,o2,F,G,m,o,p,q,s⟩,l⟩:=Axi (ps:=[]) rfl A;exact⟨vs,c,e,j,⟨d,[],D,o2,F,G,m,o,p,q,s⟩,l⟩
theorem Bx8 {x:Cea->Cea->Cea->Option Cea} (h:∀(w:World) (X S:Bs) (s p q:Cea),SX X S w->(∀r∈Af,r.ok S w)->Sep [] X w->∀ {r},x s p q=Aa r->Ret prog f [.string s,.string p,.string q] w (KV X S w (.string r))):
  Holds Af ⟨f,[.val false (.b 2),.val false (.b 2),.val false (.b 2)],[⟨true,.b 2,false⟩],λa=>x a.1 a.2.1 a.2.2.1⟩:=by
 intro w X S a g own W r K G H L hx;cases K with
 | @ro _ _ i _ T _ _ _ _ C k=>
 cases k with
 | @ro _ _ j _ U _ _ _ _ D k=>
 cases k with
 | @ro _ _ l _ V _ _ _ _ F k=>
 cases k;obtain⟨P,rfl,g1⟩:=Xc C;obtain⟨Q,rfl,g2⟩:=Xc D;obtain⟨R,rfl,g3⟩:=Xc F;have A:P=.string i:=g1;have e2:Q=.string j:=g2;have B:R=.string l:=g3;subst A e2 B;refine(h w X S i j l H L G hx).mono λu w' I=>?_;obtain⟨vs,c,e,m,⟨d,M,o2,N,O,o,t,v,y,z⟩,n⟩:=Axi (ps:=[]) rfl I;exact⟨vs,c,e,m,⟨d,[],M,o2,N,O,o,t,v,y,z⟩,n⟩
theorem Bx6 {x:List Cea->Cea->Option Cea} (h:∀(w:World) (X S:Bs) (l:List Cea) (s:Sv) (p:Cea),SX X S w->(∀r∈Af,r.ok S w)->(Ar 1 fT l).rd S w s.v->Sep [] X w->∀ {r},x l p=Aa r->Ret prog f [s.v,.string p] w (KV X S w (.string r))):
  Holds Af ⟨f,[.val false (.sl (.b 2)),.val false (.b 2)],[⟨true,.b 2,false⟩],λa=>x a.1 a.2.1⟩:=by
 intro w X S a t own W r N K L O hx;cases N with
 | @ro _ _ i _ U _ _ _ _ H k=>
 cases k with
 | @ro _ _ j _ V _ _ _ _ I k=>
 cases k;obtain⟨q,rfl,g1⟩:=Xc H;obtain⟨T,rfl,g2⟩:=Xc I;have c:(Ar 1 fT i).rd S w q:=g1;have d:=c;obtain⟨g,F,G,_⟩:=d;have e2:T=.string j:=g2;subst e2;have m:q=(⟨g,_,F⟩:Sv).v:=G;subst m;refine(h w X S i _ j L O c K hx).mono λu w' M=>?_;obtain⟨vs,e,o,g,⟨n,P,o2,Q,R,z,A,B,C,D⟩,y⟩:=Axi (ps:=[]) rfl M;exact⟨vs,e,o,g,⟨n,[],P,o2,Q,R,z,A,B,C,D⟩,y⟩
end
end
section
open Go.RowKit
theorem Be9{S w}:∀(L:List Cea) (xs:List Value),Eg S w (L.flatMap fT) xs->xs=L.map λy=>Value.string y
 |[],xs,h=>h
 |y::L,xs,h=>by obtain⟨v,r,e,a,b⟩:=h;rw[e,Be9 L r b,a];rfl
def jn (l:List Cea) (sep:Cea):Cea:=⟨(Hc (l.map (·.data.toList)) sep.data.toList).toArray⟩
def Aas (l:List Cea) (sep:Cea):Option Cea:=xg (l.length<=1099511627776/\(Hc (l.map (·.data.toList)) sep.data.toList).length<=140737488355328)<|some (jn l sep)
theorem Bsq w X S l (s_l:Sv) sep (i:SX X S w) (a_l:(Ar 1 fT l).rd S w s_l.v) (t:Sep [] X w){r} (hx:Aas l sep=Aa r):
  Ret prog 241 [s_l.v,(.string sep)] w (KV X S w (.string r)):=by
 unfold Aas at hx;obtain⟨p,hx⟩:=C8 hx;obtain rfl:=D1.inj hx
 have h:Calls prog 241 #[s_l.v,.string sep] w λe w'=>e=.returned (.string (jn l sep))/\Rel w w':=by
  obtain⟨a,cap,e,k,u,m⟩:=a_l;rw[e];cases l with
  |nil=>exact(strings_Join_none a cap sep w).mono λe w' ⟨f,c⟩=>⟨f,c▸Rel.refl w⟩
  |cons x r=>obtain⟨b,off,xs,rfl,d,z,o,s⟩:=m (by simp);have g:=Be9 _ _ s;have n:b<w.heap.size:=(i _ (d 0 (by simp))).1;exact(strings_Join b off cap (x::r) sep w (λj y q=>o j _ (by rw[g,Abi,q];rfl)) n (by omega) k p.2).mono λe w' ⟨f,c⟩=>⟨f,c⟩
 refine⟨⟨_,func241,by kernel_rfl,by kernel_rfl⟩,h.mono ?_⟩;rintro e w' ⟨rfl,c⟩;exact⟨_,rfl,(),rfl,((St.enter t i).call c).gives⟩
def rMax:Rd:=⟨λS w=>S (0,0)/\∃m,w.cell? ⟨0,0,Ab⟩=Aa (.int .i64 m),λc h ⟨a,m,b⟩=>⟨c _ a,m,h.cell a b⟩⟩
def rpl (s b a:Cea):Cea:=⟨(Akm s.data.toList b.data.toList a.data.toList).toArray⟩
def Aat (s a b:Cea):Option Cea:=xg (s.size<4294967281/\1<=a.size/\s.size+K2 s a*b.size<=140737488355328)<|some (rpl s a b)
theorem Bsr w X S s b a (d:SX X S w) (f:rMax.ok S w) (h:Sep [] X w){r} (hx:Aat s b a=Aa r):
  Ret prog 148 [(.string s),(.string b),(.string a)] w (KV X S w (.string r)):=by
 unfold Aat at hx;obtain⟨c,hx⟩:=C8 hx;obtain rfl:=D1.inj hx;obtain⟨_,m,g⟩:=f;refine⟨⟨_,func148,by kernel_rfl,by kernel_rfl⟩,(strings_ReplaceAll s b a m w c.1 g c.2.1 c.2.2).mono ?_⟩;rintro e w' ⟨rfl,hw⟩;exact⟨_,rfl,(),rfl,((St.enter h d).call hw).gives⟩
end
section
open Go.RowKit
def Aau (s p:Cea):Option (List Cea):=xg (s.size<4294967281/\1<=p.size)<|some (Qj p 0 (K2 s p) s)
theorem Bx7{Af} (A:rMax∈Af):Holds Af ⟨68,[.val false (.b 2),.val false (.b 2)],[⟨true,.sl (.b 2),false⟩],λa=>Aau a.1 a.2.1⟩:=by
 intro w X S a o own L r D u z F hx;cases D with
 | @ro _ _ i _ I _ _ _ _ s k=>
 cases k with
 | @ro _ _ j _ K _ _ _ _ t k=>
 cases k;obtain⟨G,rfl,g1⟩:=Xc s;obtain⟨H,rfl,g2⟩:=Xc t;have p:G=.string i:=g1;have e2:H=.string j:=g2;subst p e2;obtain⟨f,hx⟩:=C8 (show Aau i j=Aa r from hx);obtain rfl:=D1.inj hx;obtain⟨_,m,C⟩:=F _ A;refine⟨⟨_,func68,by kernel_rfl,by kernel_rfl⟩,(strings_Split i j m w f.1 C f.2).mono ?_⟩;rintro e w' ⟨rfl,rfl⟩;have c:=Lib.splitB_all j f.2 0 (K2 i j) i rfl;have B:=A5x j f.2 i.size i (Ef _);have q:St ⟨w,X,S⟩ [] [] w:=St.enter u z;have d:((Qj j 0 (K2 i j) i).map Value.string).length=(K2 i j+1)*1:=by rw[Gz,c,Akx]
 have g:=q.allocRow (k:=1) (n:=K2 i j+1) (cap:=K2 i j+1) ((Qj j 0 (K2 i j) i).map Value.string) [] ((Qj j 0 (K2 i j) i).map Value.string).toArray 9 (by simp) d (Ef _) (by simp only[maxLen];omega) (by rw[Qk];exact d);have x:St ⟨w,X,S⟩ [oC (Ar 1 fT (Qj j 0 (K2 i j) i)) (Sv.v ⟨Aa ⟨w.heap.size,0,Ab⟩,K2 i j+1,K2 i j+1⟩)] [] (w.alloc (.cells ((Qj j 0 (K2 i j) i).map Value.string).toArray 9)):=by refine St.rerow (xs:=(Qj j 0 (K2 i j) i).map Value.string) (by rw[Gz];exact(Mw (k:=1) (λ_=>rfl) _).trans (Akx _)) ?_;rw[c];exact(St.iso (l:=[]) (l':=Bc ((Qj j 0 (K2 i j) i).flatMap fT) ((Qj j 0 (K2 i j) i).map Value.string)) g (A5p (λy:Cea=>cT y) Value.string (λy _=>⟨rfl,λ_ h=>h.elim⟩) _ (Qj j 0 (K2 i j) i))).perm Ct
 exact⟨_,rfl,[_],[oC (Ar 1 fT (Qj j 0 (K2 i j) i)) _],[],rfl,⟨[[.sl (.b 2) _]],[],_,[],[],[],rfl,⟨[_],[],[],[],[],rfl,rfl,⟨rfl,rfl,rfl⟩,⟨rfl,rfl⟩,⟨rfl,rfl⟩⟩,⟨rfl,rfl⟩,rfl,rfl⟩,x.gives⟩
def rErr:Rd:=⟨λS w=>(S (1,0)/\S (2,0))/\∀g,g=1\/g=2->∃ev,w.cell? ⟨g,0,Ab⟩=Aa ev/\(ev=.nilIface\/∃te i,ev=.iface te i),
 λb h ⟨⟨d,e⟩,f⟩=>⟨⟨b _ d,b _ e⟩,λg a=>by
  obtain⟨ev,c,e2⟩:=f g a;exact⟨ev,h.cell (by rcases a with rfl|rfl<;>assumption) c,e2⟩⟩⟩
def L6 (s:Cea):Int×Bool:=match Lib.atoiAll s.data.toList with
 |.ok v=>(v,true)
 |.range=>(Lib.atoiSat s.data.toList,false)
 |_=>(0,false)
def Awy:Inl:=λ_ f vs st K=>bif Ay f 149 then(match vs with
 |[.c (.s s)]=>xg (s.size<=281474976710656) (K (.t [.c (.i .i64 (L6 s).1),.c (.er (L6 s).2)]) st)
 |_=>Ab)else Ab
theorem Bz5{Af} (n:rErr∈Af):InlOk Af Awy:=λR f vs st K r B ρ env w b h k a=>by
 unfold Awy at h;have o:=(bt h).1;replace h:=(bt h).2;cases Br o;split at h
 ·rename_i s;have j:=(C8 h).1;replace h:=(C8 h).2;match b,a with
  |[u],⟨hu,_⟩=>
   have g:u=.string s:=hu;subst g;obtain⟨m,rs,m1,m2,m3,l⟩:=k.mem;have c:=l.sees.1 _ (m3 _ n);obtain⟨_,c⟩:=c
   have i:Calls prog 149 #[.string s] w λe w'=>∃v,e=.returned (.tuple #[.int .i64 (L6 s).1,v])/\(Cell.er (L6 s).2).Den ρ v/\Rel w w':=by
    unfold L6;cases a:Lib.atoiAll s.data.toList with
    |ok v=>
     refine(strconv_Atoi_ok s (by omega) v a w).mono ?_;rintro e w' ⟨rfl,hw⟩;refine⟨_,rfl,.inl ⟨rfl,rfl⟩,?_⟩;rcases hw with rfl|⟨t,rfl⟩
     ·exact Rel.refl _
     ·exact Lib.bytesWorld_below _ _ _
    |range=>obtain⟨ev,d,e2⟩:=c 2 (.inr rfl);refine(strconv_Atoi_range s j a ev w d e2).mono ?_;rintro e w' ⟨N,rfl,_,_,hw⟩;exact⟨_,rfl,.inr ⟨rfl,_,_,rfl⟩,hw⟩
    |_=>obtain⟨ev,d,e2⟩:=c 1 (.inl rfl);refine(strconv_Atoi_syntax s j (by rw[a]) ev w d e2).mono ?_;rintro e w' ⟨N,rfl,_,_,hw⟩;exact⟨_,rfl,.inr ⟨rfl,_,_,rfl⟩,hw⟩
   refine⟨⟨_,func149,by kernel_rfl,by kernel_rfl⟩,i.mono ?_⟩;rintro e w' ⟨v,rfl,hd,hw⟩;exact⟨_,rfl,_,st,ρ,h,Ext.refl ρ,k.rel hw,⟨[.int .i64 (L6 s).1,v],⟨rfl,hd,trivial⟩,rfl⟩,Be.refl st,rfl⟩
  |[],h=>exact h.elim
  |_::_::_,⟨_,h⟩=>exact h.elim
 ·cases h
def Ad1 {T:Type} (L:List T) (i j:Int):Option (List T):=xg (0<=i/\i<=j/\j<=(L.length:Int))<|xg (L.length<=1000000)<|some (L.take i.toNat++L.drop j.toNat)
end
section
open Go.RowKit
theorem Cd8{cs n} (h:cs.toList.all Value.oneCell'=true):∀u∈(Builtin.zeroCells cs n).toList,u.oneCell'=true:=λu hu=>by
 unfold Builtin.zeroCells at hu;rw[Aki,K7]at hu;obtain⟨i,hi,rfl⟩:=hu;by_cases a:cs.size=0
 ·rw[a]at hi;simp at hi
 ·rw[getElem!_pos cs (i % cs.size) (Nat.mod_lt _ (by omega))];exact Ff.1 h _ (by simp)
theorem B50{P} w t e ty z (p:P.underlying t=Aa (.slice e)) (q:∀w,(zeroValue e).run P w=.ok z w) (h:z.cells.toList.all Value.oneCell'=true) b o n c (r:0<n)
  (i:∀j,j<(Builtin.zeroCells z.cells n).toList.length->(w.cell? ⟨b,o+j,Ab⟩).isSome=true) (l:∀j,j<(Builtin.zeroCells z.cells n).toList.length->w.frozen? ⟨b,o+j,Ab⟩=false):
  (Builtin.clear_ #[t] ty #[.slice (Aa ⟨b,o,Ab⟩) n c]).run P w=.ok (.tuple #[]) (w.setCells b o (Builtin.zeroCells z.cells n).toList):=by
 have a:=run_storeCells_cells (P:=P) b o (Builtin.zeroCells z.cells n).toList 0 w (by simpa using i) (by simpa using l) (Cd8 h);simp only[Ae9]at a;obtain⟨m,rfl⟩:∃m,n=m+1:=⟨n-1,by omega⟩;simp[Builtin.clear_,run_underlying p,q,a]
section
variable {P:Program} {n:Nat} {env:Env} {w:World} {d:Option Tmp} {ty:TypeId} {pos:String} {af:Array Edge} {g:Option (Nat×Bool)} {k:Nat}
theorem B5c{t e bytes z} {s:Sv}{i j m} (D:P.underlying t=Aa (.slice e)) (C:Sz P e k bytes z) (F:0<=i/\i<=j/\j<=m/\m<=(s.c:Int)):
  ∃v,∀ {n:Nat} {env:Env} {d:Option Tmp} {ty:TypeId} {pos:String} {af:Array Edge} {g:Option (Nat×Bool)} {x r hi u:Operand},ev env x=Aa s.v->ev env r=Aa (.int .i64 i)->ev env hi=Aa (.int .i64 j)->ev env u=Aa (.int .i64 m)->
   Runs P n env w ⟨d,.slice t x (Aa r) (Aa hi) (Aa u),ty,pos,af,g⟩ v w:=by
 refine⟨.slice (if m.toNat=i.toNat then s.p else s.p.map (·.add (i.toNat*k))) (j.toNat-i.toNat) (m.toNat-i.toNat),λ{n env d ty pos af g x r hi u} hx l h o b a=>?_⟩;have y:0<=m/\m<=(s.c:Int):=by omega
 have A:0<=j/\j<=(m.toNat:Int):=by omega
 have B:0<=i/\i<=(j.toNat:Int):=by omega
 have q:b.eval x=.slice s.p s.n s.c:=a.ev hx;simp only[execOp,q,a.ev l,a.ev h,a.ev o,Pc,Instr.sliceAt,Sem.run_bind,run_underlying D,Result.andThen_ok,Instr.slice,Instr.sliceBounds,Instr.sliceBound,asIntOf,Sem.run_pure,Sem.run_ite,if_pos y,if_pos A,if_pos B,C.run,Brd,if_true]
theorem B5d{t e bytes z b off l c i j} (A:P.underlying t=Aa (.slice e)) (y:Sz P e k bytes z) (B:i<j) (C:j<=c) (_:l<=c):
  ∃v,v=.slice (Aa ⟨b,off+i*k,Ab⟩) (j-i) (c-i)/\∀ {n:Nat} {env:Env} {d:Option Tmp} {ty:TypeId} {pos:String} {af:Array Edge} {g:Option (Nat×Bool)} {x q hi:Operand},ev env x=Aa (Sv.v ⟨Aa ⟨b,off,Ab⟩,l,c⟩)->ev env q=Aa (.int .i64 (i:Int))->ev env hi=Aa (.int .i64 (j:Int))->
   Runs P n env w ⟨d,.slice t x (Aa q) (Aa hi) Ab,ty,pos,af,g⟩ v w:=by
 refine⟨_,rfl,λ{n env d ty pos af g x q hi} hx o h r a=>?_⟩;have s:(0:Int)<=(j:Int)/\(j:Int)<=(c:Int):=by omega
 have u:(0:Int)<=(i:Int)/\(i:Int)<=(j:Int):=by omega
 have p:r.eval x=.slice (Aa ⟨b,off,Ab⟩) l c:=a.ev hx;simp only[execOp,p,a.ev o,a.ev h,Pc,Tw,Instr.sliceAt,Sem.run_bind,run_underlying A,Result.andThen_ok,Instr.slice,Instr.sliceBounds,Instr.sliceBound,asIntOf,Sem.run_pure,Sem.run_ite,if_pos s,Gb,if_pos u,y.run,Tv,I3,if_false];rw[if_neg (by omega),Addr.add_lit]
theorem B4e{x t a r w'} (hx:ev env x=Aa a) (e:(Builtin.clear_ #[t] ty #[a]).run P w=.ok r w'):
  Runs P n env w ⟨Ab,.call {callee:=.builtin .clear,args:= #[x],argTypes:= #[t]},ty,pos,af,Ab⟩ r w':=λc b=>by
 simp[execOp,resolve,invoke,builtin,b.ev hx,e]
end
section
variable {w:World} {w0:Dn} {m:List As} {rs:List Rd} {k:Nat} {T:Type} {f:T->List Ce} {L:List T}
theorem St.chop{b off n n' cap xs} (h:St w0 (Cx k (Sv.v ⟨Aa ⟨b,off,Ab⟩,n,cap⟩) n xs::m) rs w) (p:n'<=n):St w0 (Cx k (Sv.v ⟨Aa ⟨b,off,Ab⟩,n',cap⟩) n' (xs.take (n'*k))::m) rs w:=by
 refine h.updHead λF ⟨s,x,z⟩=>?_;rcases z with⟨i,_⟩|⟨l,c,a,cur,e,q,i,t,u,B,y,A,j⟩
 ·simp[Sv.v]at i
 obtain⟨⟨rfl,rfl⟩,rfl⟩:(b=l/\off=c)/\cap=a:=by simpa [Sv.v]using i
 have r:=E4 k p;refine⟨F,⟨s,by rw[Dh,x];omega,.inr ⟨b,off,cap,cur,e,q,rfl,t,u,by omega,y,A,?_⟩⟩,F6.refl F w,λ_ o=>.inl o⟩;rw[<-j,Ae8,Pb r]
theorem St.dropL:∀ {l:List As},St w0 (l++m) rs w->St w0 m rs w
 |[],h=>h
 |_::_,h=>St.dropL (h.drop)
theorem Bsz {xs b:List Value}{p q n} (hx:xs.length=n*k) (a:p<=q) (h:q<=n) (_:b.length=(n-(p+(n-q)))*k):
  ((xs.take (p*k)++xs.drop (q*k)++xs.drop (p*k+(xs.drop (q*k)).length)).take ((p+(n-q))*k)++b++(xs.take (p*k)++xs.drop (q*k)++xs.drop (p*k+(xs.drop (q*k)).length)).drop ((p+(n-q))*k+b.length)).take ((p+(n-q))*k)=xs.take (p*k)++xs.drop (q*k):=by
 have l:=E4 k a;have o:=E4 k h;have i:(xs.take (p*k)).length=p*k:=by rw[Dh];omega
 have j:(xs.drop (q*k)).length=(n-q)*k:=by rw[D0,hx,I5]
 have c:(xs.take (p*k)++xs.drop (q*k)).length=(p+(n-q))*k:=by rw[Bt,i,j,Gk]
 have e:(xs.take (p*k)++xs.drop (q*k)++xs.drop (p*k+(xs.drop (q*k)).length)).take ((p+(n-q))*k)=xs.take (p*k)++xs.drop (q*k):=by rw[<-c,A6l]
 rw[e,Ci,<-c,A6l]
theorem St.delDone{p q xs v} (b:∀x,(f x).length=k) (c:p<=q) (t:q<=L.length) (hx:(L.flatMap f).length=xs.length)
  (h:St w0 (Cx k v (p+(L.length-q)) (xs.take (p*k)++xs.drop (q*k))::(Bc (L.flatMap f) xs++m)) rs w):St w0 (oC (Ar k f (L.take p++L.drop q)) v::m) rs w:=by
 have s:p<=L.length:=by omega
 have o:=E4 k c;have r:=E4 k t;have a:xs.length=L.length*k:=by rw[<-hx,Sb b]
 have i:((L.take p).flatMap f).length=(xs.take (p*k)).length:=by rw[Sb b,Dh,Dh,Pb s,Pb (by omega)]
 have u:((L.drop q).flatMap f).length=(xs.drop (q*k)).length:=by rw[Sb b,D0,D0,a,I5]
 have y:(((L.drop p).take (q-p)).flatMap f).length=((xs.drop (p*k)).take ((q-p)*k)).length:=by have e:(q-p)*k=q*k-p*k:=I5 ..;rw[Sb b,Dh,D0,Dh,D0,Pb (by omega),a,Pb (by omega)]
 have s1:L=L.take p++((L.drop p).take (q-p)++L.drop q):=by
  conv=>lhs;rw[<-Kk p L,<-Kk (q-p) (L.drop p)]
  rw[Mq,show p+(q-p)=q by omega]
 have z:xs=xs.take (p*k)++((xs.drop (p*k)).take ((q-p)*k)++xs.drop (q*k)):=by
  conv=>lhs;rw[<-Kk (p*k) xs,<-Kk ((q-p)*k) (xs.drop (p*k))]
  rw[Mq,I5,show p*k+(q*k-p*k)=q*k by omega]
 have e2:Bc (L.flatMap f) xs=Bc ((L.take p).flatMap f) (xs.take (p*k))++(Bc (((L.drop p).take (q-p)).flatMap f) ((xs.drop (p*k)).take ((q-p)*k))++Bc ((L.drop q).flatMap f) (xs.drop (q*k))):=by
  have:L.flatMap f=(L.take p).flatMap f++(((L.drop p).take (q-p)).flatMap f++(L.drop q).flatMap f):=by
   conv=>lhs;rw[s1]
   rw[H2,H2]
  rw[this]
  conv=>lhs;rw[z]
  rw[O8 i,O8 y]
 have j:(L.take p++L.drop q).length=p+(L.length-q):=by simp;omega
 refine St.rerow (xs:=xs.take (p*k)++xs.drop (q*k)) (by rw[H2,Bt,Bt,i,u]) ?_;rw[j,H2,O8 i];rw[e2]at h;refine St.dropL (l:=Bc (((L.drop p).take (q-p)).flatMap f) ((xs.drop (p*k)).take ((q-p)*k))) (h.perm ?_);refine List.Perm.trans ?_ Ct.symm;refine List.Perm.cons _ ?_;rw[Ci,Ci,Ci,<-Ci,<-Ci (Bc (List.flatMap f (List.take (q-p) (Ako p L))) _)];exact List.Perm.append_right _ Gg
end
theorem Bsy w X S{T f} (hf:∀x,(f x).length=2) (L:List T) (s:Sv) i j (hS:∀b,S b->b.1<w.heap.size/\¬X b) (oL:Sep [oC (Ar 2 f L) s.v] X w) (hi:0<=i/\i<=j/\j<=(L.length:Int)) (hL:L.length<=1000000):
  Ret prog 80 [s.v,.int .i64 i,.int .i64 j] w (λu w'=>∃y:Sv,u=y.v/\H5 X S w [oC (Ar 2 f (L.take i.toNat++L.drop j.toNat)) y.v] [] w'):=by
 obtain⟨b5,d7,d8⟩:=hi;obtain⟨p,rfl⟩:=Abf b5;obtain⟨q,rfl⟩:=Abf (show 0<=j by omega);rw[Gb,Gb];have a4:∃z,Sz prog 82 2 40 z/\z.cells.toList.all Value.oneCell'=true:=⟨_,A09,by kernel_rfl⟩;obtain⟨z0,t,b9⟩:=a4;have a1:p<=q:=by omega
 have hq:q<=L.length:=by omega
 refine enter func80 rfl ntmps80 (by kernel_rfl) rfl ?_;have H:=St.enter oL hS
 have e0:s.n=L.length/\s.n<=s.c:=by
  obtain⟨a,cap,e,h1,h2,_⟩:=H.seeO (.head _);obtain⟨_,e2,e3⟩:s.p=a/\s.n=L.length/\s.c=cap:=by simpa [Sv.v]using e
  omega
 obtain⟨xs,K,r⟩:=H.unrow;have a3:xs.length=L.length*2:=by rw[<-K,Sb hf]
 refine Dy ?_;refine Hi rfl rfl ?_;refine Dz ?_;refine Dy ?_;refine B4 rfl rfl ?_;refine B4 rfl rfl ?_;refine B4 rfl rfl ?_;refine B4 rfl rfl ?_;refine wv rfl (Q2 underlying28 rfl) ?_;obtain⟨v3,b6⟩:=B5c (P:=prog) (w:=w) (k:=2) (s:=s) (i:=(p:Int)) (j:=(q:Int)) (m:=(s.n:Int)) underlying28 t ⟨by omega,by omega,by omega,by omega⟩;refine wv rfl (b6 rfl rfl rfl rfl) ?_;refine Dz ?_;refine Ir ?_;refine Dy ?_;refine B4 rfl rfl ?_;refine B4 rfl rfl ?_;refine wv rfl (Xb rfl rfl) ?_;refine Dz ?_;refine Mj rfl (λhc=>?_) (λhc=>?_)
 ·have a0:p=q:=by have:=of_decide_eq_true hc;omega
  refine Dy ?_;refine B4 rfl rfl ?_;refine Hi rfl rfl ?_;refine Dz ?_;refine P9 ?_;refine S0 ?_;refine Of [s.v] ⟨rfl,trivial⟩ ?_;rw[a0,Kk];exact⟨s,rfl,H.gives⟩
 have a0:p<q:=by have:=of_decide_eq_false hc;omega
 obtain⟨b,off,cap,cur,e,hd,rfl,hg,d9,b0,d4,c5,a7⟩:=r.rowAt (.head _) (by omega);have h1x:=St.zipOne K r.drop;simp only[maxLen]at b0;refine Rg ?_;refine Ky ?_;refine Dy ?_;refine B4 rfl rfl ?_;refine wv rfl (Q2 underlying28 rfl) ?_;refine Hi rfl rfl ?_;refine Dz ?_;have U:(xs.drop (q*2)).length=(L.length-q)*2:=by rw[D0,a3,I5]
 obtain⟨A,hA,a8⟩:∃A:Addr,(Sv.cut ⟨Aa ⟨b,off,Ab⟩,L.length,cap⟩ 2 q L.length).v=Value.slice (Aa A) (L.length-q) (cap-q)/\((xs.drop (q*2))=[]\/A=⟨b,off+q*2,Ab⟩):=by
  by_cases h:q<cap
  ·exact⟨⟨b,off+q*2,Ab⟩,by rw[At8 h];rfl,.inr rfl⟩
  ·refine⟨⟨b,off,Ab⟩,?_,.inl (I4 (by rw[U];omega))⟩;rw[Sv.cut_eq];simp only;rw[if_pos (by omega)]
 refine Ir ?_;refine Xt [(0,0),(1,0),(2,0),(3,0),(4,0),(5,0),(6,2),(7,0)] Tryz_mixed (by kernel_rfl) rfl (by kernel_rfl) rfl ?_;refine Ga rfl rfl ?_;refine Ga rfl rfl ?_;refine ov rfl (λ_ _=>Zy (i:=p) underlying28 t rfl rfl rfl (by omega) (by omega)) ?_;refine Ga rfl rfl ?_;refine Ga rfl rfl ?_;refine ov rfl (λ_ _=>Ag7 underlying28 t rfl rfl ⟨by omega,by simp only;omega⟩ (by simp only;omega)) ?_;rw[Gb];simp only;rw[hA];refine Zo rfl λw1 hR=>?_;have r:=r.call hR;obtain⟨b2,a5,M,c2,e2,d5,q2,b1,W,_,Q,_,C⟩:=r.rowAt (.head _) (by omega);obtain⟨⟨rfl,rfl⟩,rfl⟩:(b=b2/\off=a5)/\cap=M:=by simpa using q2
 obtain⟨G,I,hz,B,_⟩:=t.info;have V:=N1 b1 Q W
 have a2:Src prog G.size 28 (.slice (Aa A) (L.length-q) (cap-q)) (L.length-q) (xs.drop (q*2)) w1:=by
  refine Src.ofSlice w1 underlying28 A _ _ _ (by rw[B,U]) (λj u D=>?_) (λu hu=>h1x u (Kj hu));rcases a8 with h|h
  ·rw[h]at D;simp at D
  ·rw[K6]at D;rw[h,Addr.add_lit,Er];exact C _ _ D
 refine Ap9 rfl rfl (run_append_room_src w1 28 28 _ 82 G underlying28 I b off p cap _ (L.length-q) (xs.drop (q*2)) a2 (by omega) (λj D=>?_) (λj D=>?_)) ?_
 ·rw[B,Er];refine V.1 _ ?_;omega
 ·rw[B,Er];refine V.2 _ ?_;omega
 have r:=r.blit (o:=p*2) (cs:=xs.drop (q*2)) (by omega);rw[<-B]at r;simp only[B]at r;refine ov rfl (λ_ _=>Aze rfl) ?_;rw[B];refine Zp r λw2 r=>?_;refine Ky ?_;refine Dy ?_;refine B4 rfl rfl ?_;refine B4 rfl rfl ?_;refine wv rfl (Q2 underlying28 rfl) ?_;refine B4 rfl rfl ?_;obtain⟨v5,b7,b8⟩:=B5d (P:=prog) (w:=w2) (k:=2) (b:=b) (off:=off) (l:=p+(L.length-q)) (c:=cap) (i:=p+(L.length-q)) (j:=L.length) underlying28 t (by omega) (by omega) (by omega);refine wv rfl (b8 rfl rfl rfl) ?_;subst b7;obtain⟨b3,a6,N,c3,e3,d6,q3,b4,Y,_,R,_,_⟩:=r.rowAt (.head _) (by omega);obtain⟨⟨rfl,rfl⟩,rfl⟩:(b=b3/\off=a6)/\cap=N:=by simpa using q3
 have V:=N1 b4 R Y;have F:(Builtin.zeroCells z0.cells (L.length-(p+(L.length-q)))).toList.length=(L.length-(p+(L.length-q)))*2:=by rw[Ew,size_zeroCells,t.2.1]
 refine wvn (B4e rfl (B50 w2 28 82 _ z0 underlying28 (λw=>t.zero w) b9 b (off+(p+(L.length-q))*2) _ _ (by omega) (λj D=>?_) (λj D=>?_))) ?_
 ·rw[Er];refine V.1 _ ?_;rw[F]at D;omega
 ·rw[Er];refine V.2 _ ?_;rw[F]at D;omega
 have r:=r.blit (o:=(p+(L.length-q))*2) (cs:=(Builtin.zeroCells z0.cells (L.length-(p+(L.length-q)))).toList) (by rw[F];omega);refine Dz ?_;refine Dy ?_;refine B4 rfl rfl ?_;refine Hi rfl rfl ?_;refine Dz ?_;refine P9 ?_;refine Of [Sv.v ⟨Aa ⟨b,off,Ab⟩,p+(L.length-q),cap⟩] ⟨rfl,trivial⟩ ?_;have O:=r.chop (n':=p+(L.length-q)) (by omega);rw[Bsz a3 a1 hq (by rw[F])]at O;exact⟨_,rfl,(St.delDone hf a1 hq K O).gives⟩
theorem Bs0{T L i j} {r:List T} (h:Ad1 L i j=Aa r):(0<=i/\i<=j/\j<=(L.length:Int))/\L.length<=1000000/\L.take i.toNat++L.drop j.toNat=r:=by unfold Ad1 at h;obtain⟨a,h⟩:=C8 h;obtain⟨b,h⟩:=C8 h;exact⟨a,b,D1.inj h⟩
theorem Bx4{Af}:Holds Af ⟨80,[.val true (.sl (.b 11)),.val false (.b 0),.val false (.b 0)],[⟨true,.sl (.b 11),false⟩],λa=>Ad1 a.1 a.2.1 a.2.2.1⟩:=by
 intro w X S a C own W r N I K Y hx;cases N with
 | @ow _ _ L _ c _ _ _ _ F k=>
 cases k with
 | @ro _ _ i _ U _ _ _ _ G k=>
 cases k with
 | @ro _ _ j _ V _ _ _ _ H k=>
 cases k;have o:c.length=1:=F
 obtain⟨O,rfl⟩:∃v,c=[v]:=by
  match c,o with
  |[v],_=>exact⟨v,rfl⟩
 obtain⟨Q,rest,rfl,p,q⟩:=G;have e:rest=[]:=q;subst e;have hi:Q=.int .i64 i:=p;subst hi;obtain⟨R,rest,rfl,t,x⟩:=H;have h:rest=[]:=x;subst h;have M:R=.int .i64 j:=t;subst M;have l:Sep [oC (Ar 2 (fD (.b 11)) L) O] X w:=I;obtain⟨s,rfl⟩:=Bdb l;obtain⟨A,B,z⟩:=Bs0 (T:=C7 (.b 11)) (L:=L) (i:=i) (j:=j) hx;subst z;refine(Bsy w X S (f:=fD (.b 11)) (λ_=>rfl) L s i j K l A B).mono λu w' ⟨y,D,e2⟩=>⟨[y.v],_,[],D,?_,e2⟩;exact⟨[[.sl (.b 11) _]],[],_,[],[],[],rfl,⟨[y.v],[],[],[],[],rfl,rfl,⟨rfl,rfl,rfl⟩,⟨rfl,rfl⟩,⟨rfl,rfl⟩⟩,⟨rfl,rfl⟩,rfl,rfl⟩
end
end
end Go.Proofs.YtbbefmccoomfhaaGreatDoor
