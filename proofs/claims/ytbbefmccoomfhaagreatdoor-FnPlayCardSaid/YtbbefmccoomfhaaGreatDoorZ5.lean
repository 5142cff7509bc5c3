/- Part 5 of the proof: lemmas. No condition. -/
import Derived.Test.YtbbefmccoomfhaaGreatDoorZ4
open Option renaming some->Aa,none->Ab,bind->Ac,bind_some->Ad,map_eq_some_iff->Di,some->D1,bind_eq_some_iff->Tu,getD_some->Atn,isSome_some->Brd
open List renaming mem_cons_of_mem->Bf,mem_cons_self->Bm,mem_cons->Bq,length_append->Bt,length_cons->B5,append_assoc->Ci,length_nil->C0,length_take->Dh,length_drop->D0,mem_append->Ei,mem_singleton->Eo,replicate->Ey,map_cons->Fa,all_eq_true->Ff,cons_append->Fi,length_set->Ft,foldl_cons->Fx,flatMap_cons->F4,length_map->Gz,length_singleton->G0,take_length->Hd,append_nil->Hu,getElem?_eq_some_iff->H3,nil_append->Iu,eq_nil_of_length_eq_zero->I4,mem_of_mem_drop->Kj,take_append_drop->Kk,all_cons->K5,mem_map->K7,drop_drop->Mq,drop_zero->Nh,getD_eq_getElem?_getD->Ni,getElem?_append_left->Nj,pairwise_cons->N7,getElem?_eq_getElem->O9,take_of_length_le->Rv,foldl_nil->Tq,getElem?_append_right->Tr,drop_length->Vy,find?_cons->Vz,foldl_append->V0,mem_of_mem_take->V3,mem_or_eq_of_mem_set->V4,set_cons_zero->V5,drop_take->Yd,mem_flatMap->Ye,drop_succ_cons->Abg,getElem?_eq_none->Abh,getElem?_map->Abi,pairwise_map->Abl,drop_eq_getElem_cons->Ae1,length_pos_iff->Ae2,not_mem_nil->Ae3,pairwise_append->Ae4,set_cons_succ->Ae5,take_add_one->Ae7,all_append->Akn,replicate_succ->Akr,take_left'->As5,any_eq_true->As6,drop_eq_nil_of_le->As8,getElem_map->Atb,set_eq_of_length_le->Atg,set_getElem_self->Ath,takeWhile_prefix->Ati,any_cons->A51,findIdx_cons->A55,getElem?_set_self->A57,getElem_mem->A58,map_set->A6c,pairwise_singleton->A6g,set_set->A6i,takeWhile_cons->A6k,take_set_of_le->A6m,take_succ_cons->A6n,findIdx_lt_length_of_exists->Bq4,mem_of_find?_eq_some->Bra
open Int renaming toNat_natCast->Gb,le_refl->Hb,emod_lt_of_pos->As1,emod_nonneg->As2,natCast_add->A5u
open Nat renaming zero_le->Dk,le_refl->Ef,zero_add->L3,add_sub_cancel->Akt,lt_succ_self->Atm,eq_or_lt_of_le->A6q,le_of_not_lt->A6r
open Bool renaming not_true->A6,and_eq_true->A9,not_false->Fs,or_eq_true->Ha,or_eq_false_iff->Il,false_eq_true->I3,true_and->K1,not_eq_true'->L2,false_or->Rr,or_false->Rs,eq_false_iff->Abe,and_false->Akj,and_true->Akk,false_and->Akl,and_self->Asw,not_eq_true->Asx,or_true->Asy,true_or->Asz,or_self->A5t,and_eq_false_iff->Bqz
open ByteArray renaming empty->Cb
open UInt8 renaming toNat_inj->Tz
open Array renaming ext'->Ast
open Sum renaming inr->Bj,elim->B2,inl->Ej,elim_inl->Jg,elim_inr->Ato
open Decidable renaming byContradiction->As0
namespace Go.Proofs.YtbbefmccoomfhaaGreatDoor
set_option linter.unusedVariables false
set_option linter.unusedSimpArgs false
open Tryz
noncomputable section
section
section
variable {α:Type}
theorem Aj{p} [Decidable p] {x:Option α} (h:p):xg p x=x:=if_pos h
theorem Bh{n} {x:Option α} (h: -9223372036854775808<=n) (k:n<=9223372036854775807):xg (Aq n) x=x:=if_pos ⟨h,k⟩
theorem Av{p} [Decidable p] {x y:α} (h:p):(bif decide p then x else y)=x:=by rw[decide_eq_true h];rfl
theorem Ap{p} [Decidable p] {x y:α} (h:¬p):(bif decide p then x else y)=y:=by rw[decide_eq_false h];rfl
theorem C2{c} {x y:α}:(bif !c then x else y)=(bif c then y else x):=by cases c<;>rfl
theorem Cg {x y:α}:(bif true then x else y)=x:=rfl
theorem A3 {x y:α}:(bif false then x else y)=y:=rfl
end
section
variable {T:Type} [Inhabited T]
theorem Wg {l:List T}{i y} (h:i<l.length):el (l.set i y) i=y:=by unfold el;simp[Ni,h]
theorem Uh p x (l:List T):el (p++x::l) p.length=x:=by unfold el;simp[Ni]
omit [Inhabited T]in
theorem B73 (p:List T) (x y:T) (l:List T):(p++x::l).set p.length y=p++y::l:=by simp
theorem Cj {l:List T}{i} (h:i<l.length):el l i∈l:=by rw[F9 h];exact A58 h
end
def wfY (_:UInt8):Prop:=True
def wfL {T:Type} (p:T->Prop) (l:List T):Prop:=l.length<=9223372036854775807/\∀x∈l,p x
def Gw (_:Int):Prop:=True
def smB (_:Bool):Prop:=True
def Sx (s:Cea):Prop:=s.size<=1099511627776
def Gx {T:Type} (p:T->Prop) (l:List T):Prop:=l.length<=1099511627776/\∀x∈l,p x
def Fm {T:Type} (c:T->Nat):List T->Nat
 |[]=>0
 |x::l=>c x+Fm c l
theorem A05{T c}:∀ {l:List T} {x:T},x∈l->c x<=Fm c l
 |y::l,x,h=>by
  rcases Bq.1 h with rfl|h
  ·simp only[Fm];omega
  ·have:=A05 (c:=c) h;simp only[Fm];omega
def E7 {T:Type} (c:T->Nat) (l:List T):Nat:=l.length+Fm c l
theorem Agk{T} c (l:List T):E7 c l=l.length+Fm c l:=rfl
theorem Axj{T c} (h:∀x,c x=0) (l:List T):E7 c l=l.length:=by
 have:Fm c l=0:=by
  induction l with
  |nil=>rfl
  |cons x l a=>simp only[Fm,h,a]
 unfold E7;omega
def Va (_:Int):Nat:=0
def szB (_:Bool):Nat:=0
def Vb (s:Cea):Nat:=s.size
theorem G8 x (_:Va x<=1099511627776):Gw x:=trivial
theorem Bg2 x (_:szB x<=1099511627776):smB x:=trivial
theorem Apj x (h:Vb x<=1099511627776):Sx x:=h
theorem Lv{T c p} (h:∀x,c x<=1099511627776->p x) (l:List T) (a:E7 c l<=1099511627776):Gx p l:=by unfold E7 at a;exact⟨by omega,λx hx=>h x (by have:=A05 (c:=c) hx;omega)⟩
section
variable {T:Type} [Inhabited T]
end
end
section
section
variable {T σ ρ:Type} [Inhabited T]
theorem Fk{F e} l (P:List T->Nat->σ->Prop) (G:List T->Nat->σ->ρ)
  (o:∀s,P [] l.length s->G [] l.length s=e s)
  (q:∀x r k s,k<l.length->el l k=x->P (x::r) k s->(∃s',F k s=Aa (.go s')/\P r (k+1) s'/\G (x::r) k s=G r (k+1) s')\/F k s=Aa (.out (G (x::r) k s))) s (g:P l 0 s):A2 F e l.length 0 s=Aa (G l 0 s):=by
 have f:∀(r p:List T) (s:σ),p++r=l->P r p.length s->A2 F e r.length p.length s=Aa (G r p.length s):=by
  intro r;induction r with
  |nil=>
   intro p s a c;have n:p.length=l.length:=by rw[<-a];simp
   rw[n]at c⊢;show Aa (e s)=_;rw[o s c]
  |cons x r t=>
   intro p s a c;have m:p.length<l.length:=by rw[<-a];simp
   have hx:el l p.length=x:=by rw[<-a];exact Uh p x r
   have b:=λs' h=>t (p++[x]) s' (by simpa using a) (by simpa using h);simp only[Bt,G0]at b;show(F p.length s).bind (λz=>z.on (A2 F e r.length (p.length+1)) Aa)=_;rcases q x r p.length s m hx c with⟨s',d,i,j⟩|d
   ·rw[d,j];exact b s' i
   ·rw[d];rfl
 exact f l [] s rfl g
theorem Ab7{F e} l (P:List T->Nat->σ->Prop) (Q:List T->Nat->σ->ρ->Prop)
  (t:∀s,P [] l.length s->Q [] l.length s (e s))
  (u:∀x r k s,k<l.length->el l k=x->P (x::r) k s->(∃s',F k s=Aa (.go s')/\P r (k+1) s'/\∀y,Q r (k+1) s' y->Q (x::r) k s y)\/∃y,F k s=Aa (.out y)/\Q (x::r) k s y) s (i:P l 0 s):∃y,A2 F e l.length 0 s=Aa y/\Q l 0 s y:=by
 have g:∀(r p:List T) (s:σ),p++r=l->P r p.length s->∃y,A2 F e r.length p.length s=Aa y/\Q r p.length s y:=by
  intro r;induction r with
  |nil=>
   intro p s a c;have q:p.length=l.length:=by rw[<-a];simp
   rw[q]at c⊢;exact⟨e s,rfl,t s c⟩
  |cons x r v=>
   intro p s a c;have o:p.length<l.length:=by rw[<-a];simp
   have hx:el l p.length=x:=by rw[<-a];exact Uh p x r
   have b:=λs' h=>v (p++[x]) s' (by simpa using a) (by simpa using h);simp only[Bt,G0]at b;show∃y,(F p.length s).bind (λz=>z.on (A2 F e r.length (p.length+1)) Aa)=Aa y/\_;rcases u x r p.length s o hx c with⟨s',d,f,j⟩|⟨y,d,f⟩
   ·rw[d];obtain⟨y,m,n⟩:=b s' f;exact⟨y,m,j y n⟩
   ·rw[d];exact⟨y,rfl,f⟩
 exact g l [] s rfl i
theorem I9{F} {e:σ->ρ} l (P:List T->Nat->σ->Prop) g
  (c:∀x r k s,k<l.length->el l k=x->P (x::r) k s->F k s=Aa (.go (g s x))/\P r (k+1) (g s x)) s (d:P l 0 s):A2 F e l.length 0 s=Aa (e (l.foldl g s)):=
 Fk (F:=F) (e:=e) l P (λr _ s=>e (r.foldl g s)) (λ_ _=>rfl) (λx r k s b hx a=>.inl ⟨g s x,(c x r k s b hx a).1,(c x r k s b hx a).2,rfl⟩) s d
theorem Ug{F} {a b:ρ} l (p:T->Bool) (f:∀x k,k<l.length->el l k=x->F k ()=Aa (bif p x then .go ()else .out b)):
  A2 F (λ_=>a) l.length 0 ()=Aa (bif l.all p then a else b):=
 Fk (F:=F) (e:=λ_=>a) l (λ_ _ _=>True) (λr _ _=>bif r.all p then a else b) (λ_ _=>rfl) (λx r k s d hx _=>by
  have h:=f x k d hx;cases c:p x with
  |true=>exact .inl ⟨(),by rw[h,c];rfl,trivial,by simp[c]⟩
  |false=>exact .inr (by rw[h,c];simp[c])) () trivial
theorem Ab6 [DecidableEq T]{F} {x y:ρ} (a b:List T) (j:a.length=b.length)
  (l:∀k,k<a.length->k<b.length->F k ()=Aa (bif decide (el a k=el b k)then .go ()else .out y)):
  A2 F (λ_=>x) a.length 0 ()=Aa (bif decide (a=b)then x else y):=by
 have h:=Fk (F:=F) (e:=λ_=>x) a (λr k _=>r.length+k=a.length) (λr k _=>bif decide (r=b.drop k)then x else y) (λs _=>by
  rw[j,Vy];simp) (λu r k s i hx g=>by
  have c:k<b.length:=by omega
  have f:b.drop k=el b k::b.drop (k+1):=by rw[F9 c];exact Ae1 c
  rw[l k i c,hx];by_cases d:u=el b k
  ·refine .inl ⟨(),by rw[Av d],by simp only[B5]at g;omega,?_⟩;rw[f,d];simp
  ·refine .inr ?_;rw[Ap d,f,decide_eq_false (p:=u::r=el b k::b.drop (k+1)) (by simp[d])];rfl) () (by simp)
 simpa using h
theorem Acp{f} (P:σ->Prop) (a:σ->Nat) (G:σ->ρ) (i:∀s,P s->(∃s',f s=Aa (.go s')/\P s'/\a s'<a s/\G s=G s')\/f s=Aa (.out (G s))):
  ∀s,P s->Cp f s=Aa (G s):=by
 have c:∀(n:Nat) (s:σ),a s<n->P s->Cp f s=Aa (G s):=by
  intro n;induction n with
  |zero=>intro s h;omega
  |succ n j=>
   intro s l g;rw[Aw9];rcases i s g with⟨s',b,d,k,e⟩|b
   ·rw[b,e];exact j s' (by omega) d
   ·rw[b];rfl
 exactλs h=>c (a s+1) s (Atm _) h
theorem Kt{f} (P:σ->Prop) (a:σ->Nat) (Q:ρ->Prop) (g:∀s,P s->(∃s',f s=Aa (.go s')/\P s'/\a s'<a s)\/∃r,f s=Aa (.out r)/\Q r):
  ∀s,P s->∃r,Cp f s=Aa r/\Q r:=by
 have d:∀(n:Nat) (s:σ),a s<n->P s->∃r,Cp f s=Aa r/\Q r:=by
  intro n;induction n with
  |zero=>intro s h;omega
  |succ n i=>
   intro s k e;rw[Aw9];rcases g s e with⟨s',b,c,j⟩|⟨r,b,c⟩
   ·rw[b];exact i s' (by omega) c
   ·rw[b];exact⟨r,rfl,c⟩
 exactλs h=>d (a s+1) s (Atm _) h
theorem Ui{l i j} {y:T} (h:i≠j):el (l.set i y) j=el l j:=by unfold el;simp[Ni,h]
theorem Afu {l:List T}{i} (h:i<l.length):l.drop i=el l i::l.drop (i+1):=by rw[F9 h];exact Ae1 h
theorem Bab{n i} {x:T} (h:i<n):el (Ey n x) i=x:=by unfold el;simp[Ni,h]
end
theorem Dj {α:Type}{c} {a b:α}:(bif c then Aa a else Aa b)=Aa (bif c then a else b):=by cases c<;>rfl
theorem Gc{c a}:(bif c then a else false)=(c&&a):=by cases c<;>rfl
theorem F8{c a}:(bif c then true else a)=(c||a):=by cases c<;>rfl
theorem Lf{c a}:(bif c then false else a)=(!c&&a):=by cases c<;>rfl
theorem Mu{c a}:(bif c then a else true)=(!c||a):=by cases c<;>rfl
theorem Km{a b} (h:a=true↔b=true):Aa a=Aa b:=by rw[Bool.eq_iff_iff.2 h]
def Eb {T:Type} (f:T->Int):List T->Int
 |[]=>0
 |x::l=>f x+Eb f l
theorem Xo{T} f:∀(a b:List T),Eb f (a++b)=Eb f a+Eb f b
 |[],b=>by simp[Eb]
 |x::a,b=>by simp only[Fi,Eb,Xo f a b];omega
theorem Aaf{T f}:∀ {l:List T},(∀x∈l,0<=f x)->0<=Eb f l
 |[],_=>Hb _
 |x::l,h=>by have:=Aaf (f:=f) (l:=l) (λy a=>h y (by simp[a]));have:=h x (by simp);simp only[Eb];omega
theorem Bhj{T f n}:∀ {l:List T},(∀x∈l,f x<=n)->Eb f l<=n*l.length
 |[],_=>by simp[Eb]
 |x::l,h=>by have:=Bhj (f:=f) (n:=n) (l:=l) (λy a=>h y (by simp[a]));have:=h x (by simp);simp only[Eb,B5,A5u,Int.mul_add,Int.natCast_one,Int.mul_one];omega
theorem Bhk{T} f:∀(l:List T) (s:Int),l.foldl (λs x=>s+f x) s=s+Eb f l
 |[],s=>by simp[Eb]
 |x::l,s=>by rw[Fx,Bhk f l];simp only[Eb];omega
theorem Ahx{T f g}:∀ {l:List T},(∀x∈l,f x=g x)->Eb f l=Eb g l
 |[],_=>rfl
 |x::l,h=>by simp only[Eb,h x (by simp),Ahx (f:=f) (g:=g) (l:=l) (λy a=>h y (by simp[a]))]
theorem Bwy{T ρ} [Inhabited T]{F} {e:Int->ρ} l (f:T->Int) (m:Int) (i:0<=m) (p:m*l.length<=4611686018427387904) (g:∀x∈l,0<=f x/\f x<=m)
  (j:∀x k s,k<l.length->el l k=x->x∈l->0<=s->s<=4611686018427387904->F k s=Aa (.go (s+f x))):A2 F e l.length 0 0=Aa (e (Eb f l)):=by
 have h:=I9 (F:=F) (e:=e) l (λr k s=>0<=s/\s+m*r.length<=4611686018427387904) (λs x=>s+f x) (λx r k s c hx b=>by
  have a:x∈l:=hx▸Cj c;have n:=g x a;have o:0<=m*(r.length:Int):=Int.mul_nonneg i (by omega);have d:m*((x::r).length:Int)=m*(r.length:Int)+m:=by simp only[B5,A5u,Int.mul_add,Int.natCast_one,Int.mul_one]
  rw[d]at b;exact⟨j x k s c hx a b.1 (by omega),by omega,by omega⟩) 0 ⟨Hb _,by omega⟩
 rw[h,Bhk,Int.zero_add]
end
theorem Axw (a:Nat):((a:Int)<=200)↔a<=200:=by omega
theorem Bc0 (a:Nat):((a:Int)<=600)↔a<=600:=by omega
def Ds (n:Int):Bool:=decide ((0<=n/\n<=1114111)/\¬(55296<=n/\n<=57343))
def Ed (l:List Int):Bool:=decide (l.length<=200)&&l.all Ds
theorem G5 n a hi:Da n a hi=Aa (decide (a<=n/\n<=hi)):=by unfold Da;simp only[Ad,Dj,Gc,F8,Lf,Mu,C2];refine Km ?_;simp
theorem Hs n a hi:Dq n a hi=Aa (decide (a<=n/\n<=hi)):=by unfold Dq;simp only[Ad,Dj,Gc,F8,Lf,Mu,C2];refine Km ?_;simp
theorem By3 n:Aiu n=Aa (Ds n):=by unfold Aiu Ds;simp only[G5,Ad,Dj,Gc,F8,Lf,Mu,C2];refine Km ?_;simp;try omega
theorem Bgd n:Aej n=Aa (Ds n):=by unfold Aej Ds;simp only[Hs,Ad,Dj,Gc,F8,Lf,Mu,C2];refine Km ?_;simp;try omega
theorem Amt l:S7 l=Aa (l.all Ds):=by
 unfold S7
 rw[Ug (b:=.inr ()) l Ds (λx k a hx=>by
  unfold A2q A2p;rw[hx,By3];cases Ds x<;>rfl)]
 cases l.all Ds<;>rfl
theorem A0b l:Vm l=Aa (l.all Ds):=by
 unfold Vm
 rw[Ug (b:=.inr ()) l Ds (λx k a hx=>by
  unfold A4l A4k;rw[hx,Bgd];cases Ds x<;>rfl)]
 cases l.all Ds<;>rfl
theorem Agc l:Rl l=Aa (Ed l):=by unfold Rl Ed;simp only[Amt,Ad,Dj,Gc,F8,Lf,Mu,C2];refine Km ?_;simp;try omega
theorem Ao4 l:Vq l=Aa (Ed l):=by unfold Vq Ed;simp only[A0b,Ad,Dj,Gc,F8,Lf,Mu,C2];refine Km ?_;simp[Axw,and_comm]
def B7 (p:Ae):Bool:=
 if p.kind=1\/p.kind=3 then decide ((0<=p.n/\p.n<=200)/\p.Bd.length=0)
 else if p.kind=2 then decide (p.n=0/\p.Bd.length<=200)&&p.Bd.all Ds
 else false
theorem Byu p:Air p=Aa (B7 p):=by
 unfold Air B7;simp only[G5,Amt,Ad,Dj,Gc,F8,Lf,Mu,C2];refine Km ?_;by_cases a:p.kind=1
 ·simp[a]
 ·by_cases c:p.kind=3
  ·simp[c]
  ·by_cases b:p.kind=2
   ·simp[b,Axw,and_comm,and_left_comm,and_assoc]
   ·simp[a,b,c]
theorem B6n p:Ajt p=Aa (B7 p):=by
 unfold Ajt B7;simp only[Hs,A0b,Ad,Dj,Gc,F8,Lf,Mu,C2];refine Km ?_;by_cases a:p.kind=1
 ·simp[a]
 ·by_cases c:p.kind=3
  ·simp[c]
  ·by_cases b:p.kind=2
   ·simp[b,Axw,and_comm,and_left_comm,and_assoc]
   ·simp[a,b,c]
def Gf (o:List Ae):Bool:=decide (o.length<=600)&&o.all B7
theorem Awt o:X1 o=Aa (Gf o):=by
 unfold X1 Gf
 rw[Ug (b:=.inr ()) o B7 (λx k a hx=>by
  unfold A20 A2z;rw[hx,Byu];cases B7 x<;>rfl)]
 cases o.all B7<;>simp[Bc0]
theorem Az8 o:X9 o=Aa (Gf o):=by
 unfold X9 Gf
 rw[Ug (b:=.inr ()) o B7 (λx k a hx=>by
  unfold A41 A40;rw[hx,B6n];cases B7 x<;>rfl)]
 cases o.all B7<;>simp[Bc0]
def Fe (p:Ae):Int:=if p.kind=1 then p.n else 0
def E8 (p:Ae):Int:=if p.kind=2 then p.Bd.length else 0
def Fq (p:Ae):Int:=if p.kind=3 then p.n else 0
def Ig (p:Ae):Int:=Fe p+Fq p
def Sn (p:Ae):Int:=Fe p+E8 p
theorem Hf{p} (h:B7 p=true):(p.kind=1/\0<=p.n/\p.n<=200/\p.Bd=[])\/(p.kind=2/\p.n=0/\p.Bd.length<=200/\p.Bd.all Ds=true)\/(p.kind=3/\0<=p.n/\p.n<=200/\p.Bd=[]):=by
 unfold B7 at h;split at h
 ·rename_i a;simp at h;rcases a with a|a
  ·exact .inl ⟨a,h.1.1,h.1.2,h.2⟩
  ·exact .inr (.inr ⟨a,h.1.1,h.1.2,h.2⟩)
 ·split at h
  ·rename_i a;simp only[A9,decide_eq_true_eq]at h;exact .inr (.inl ⟨a,h.1.1,h.1.2,h.2⟩)
  ·cases h
theorem Nz{p} (h:B7 p=true):p.Bd.length<=200/\0<=p.n/\p.n<=200:=by
 rcases Hf h with⟨d,b,a,c⟩|⟨d,b,a,c⟩|⟨d,b,a,c⟩
 ·rw[c];exact⟨by simp,b,a⟩
 ·exact⟨a,by omega,by omega⟩
 ·rw[c];exact⟨by simp,b,a⟩
theorem J9{o} (h:Gf o=true){p} (a:p∈o):B7 p=true:=by unfold Gf at h;simp only[A9,Ff]at h;exact h.2 p a
theorem Ps{o} (h:Gf o=true):o.length<=600:=by unfold Gf at h;simp only[A9,decide_eq_true_eq]at h;exact h.1
def Dl (o:List Ae):Int:=Eb Ig o
def Kf (o:List Ae):Int:=Eb Sn o
def Ee (o:List Ae):Int:=Eb E8 o
def Fy (o:List Ae):Int:=Eb Fq o
def Fh (o:List Ae):Int:=Eb Fe o
theorem Aag o:Dl o=Fh o+Fy o:=by
 unfold Dl Fh Fy;induction o with
 |nil=>rfl
 |cons p o a=>simp only[Eb,a,Ig];omega
theorem Aah o:Kf o=Fh o+Ee o:=by
 unfold Kf Fh Ee;induction o with
 |nil=>rfl
 |cons p o a=>simp only[Eb,a,Sn];omega
theorem Afj{p} (h:B7 p=true):(0<=Fe p/\Fe p<=200)/\(0<=E8 p/\E8 p<=200)/\(0<=Fq p/\Fq p<=200)/\(0<=Ig p/\Ig p<=200)/\(0<=Sn p/\Sn p<=200):=by unfold Ig Sn Fe E8 Fq;rcases Hf h with⟨a,b,c,d⟩|⟨a,b,c,d⟩|⟨a,b,c,d⟩<;>simp[a]<;>omega
theorem Afk{o} (h:Gf o=true):(0<=Fh o/\Fh o<=120000)/\(0<=Ee o/\Ee o<=120000)/\(0<=Fy o/\Fy o<=120000):=by
 have g:=Ps h;have a:∀(f:Ae->Int),(∀p,B7 p=true->0<=f p/\f p<=200)->0<=Eb f o/\Eb f o<=120000:=λf c=>by have d:=Aaf (f:=f) (l:=o) (λx hx=>(c x (J9 h hx)).1);have e:=Bhj (f:=f) (n:=200) (l:=o) (λx hx=>(c x (J9 h hx)).2);omega
 exact⟨a _ λp b=>(Afj b).1,a _ λp b=>(Afj b).2.1,a _ λp b=>(Afj b).2.2.1⟩
theorem Bbu{p} (h:B7 p=true):O4 p=Aa (p.n+p.Bd.length):=by unfold O4;have:=Nz h;rw[Bh (by omega) (by omega)]
theorem Bbv o a:Ajb o a=Aa (if Gf o then Eb (λp=>if p.kind=a then 0 else p.n+p.Bd.length) o else 0):=by
 unfold Ajb;rw[Awt];simp only[Ad];cases h:Gf o with
 |false=>rfl
 |true=>
  have q:=Ps h;simp only[A6,cond_false,if_true]
  rw[Bwy o (λp=>if p.kind=a then 0 else p.n+p.Bd.length) 200 (by decide) (by omega) (λx hx=>by
   rcases Hf (J9 h hx)with⟨e,b,f,c⟩|⟨e,b,f,c⟩|⟨e,b,f,c⟩<;>(try rw[c])<;>(try rw[b])<;>split<;>simp<;>omega) (λx k s m hx i j r=>by
   have g:=J9 h i;unfold Bj3 Bj2;rw[hx,Bbu g];have l:=Nz g;by_cases d:x.kind=a
   ·simp[d]
   ·rw[C2,Ap d,if_neg d];simp only[Ad];rw[Bh (by omega) (by omega)])]
  rfl
theorem Amr o:Rj o=Aa (if Gf o then Dl o else 0):=by
 unfold Rj;rw[Bbv];simp only[Ad];cases h:Gf o with
 |false=>rfl
 |true=>
  simp only[if_true]
  rw[Dl,Ahx (f:=λp=>if p.kind=2 then 0 else p.n+p.Bd.length) (g:=Ig) λp e=>by
   unfold Ig Fe Fq;rcases Hf (J9 h e)with⟨a,c,d,b⟩|⟨a,c,d,b⟩|⟨a,c,d,b⟩<;>simp[a,b]]
theorem Byr o:Aqp o=Aa (if Gf o then Kf o else 0):=by
 unfold Aqp;rw[Bbv];simp only[Ad];cases h:Gf o with
 |false=>rfl
 |true=>
  simp only[if_true]
  rw[Kf,Ahx (f:=λp=>if p.kind=3 then 0 else p.n+p.Bd.length) (g:=Sn) λp e=>by
   unfold Sn Fe E8;rcases Hf (J9 h e)with⟨a,b,d,c⟩|⟨a,b,d,c⟩|⟨a,b,d,c⟩<;>simp[a,b,c]]
def Ca (o:List Ae):Bool:=Gf o&&decide (Dl o<=200)&&decide (Kf o<=200)
theorem Se o:Je o=Aa (Ca o):=by unfold Je Ca;simp only[Awt,Amr,Byr,Ad,Dj,Gc];cases Gf o<;>simp
theorem Bgh o:Aj3 o=Aa (if Gf o then(Fh o,Ee o,Fy o)else(0,0,0)):=by
 unfold Aj3;rw[Az8];simp only[Ad];cases h:Gf o with
 |false=>rfl
 |true=>
  have u:=Ps h;simp only[A6,cond_false,if_true];have q:∀p∈o,B7 p=true:=λp e=>J9 h e
  rw[I9 (F:=A42 o) o (λr k s=>((0<=s.1/\s.1<=200*k)/\(0<=s.2.1/\s.2.1<=200*k)/\(0<=s.2.2/\s.2.2<=200*k))/\k<=600) (λs x=>(s.1+Fe x,s.2.1+E8 x,s.2.2+Fq x)) (λx r k s n hx m=>by
   have e:=q x (hx▸Cj n);obtain⟨s1,v,w⟩:=s;simp only at m⊢;unfold A42 Bk8;rw[hx];simp only;unfold Fe E8 Fq;rcases Hf e with⟨d,g,i,j⟩|⟨d,g,i,j⟩|⟨d,g,i,j⟩
   ·rw[Av d,Bh (by omega) (by omega)];simp[d];omega
   ·rw[Ap (by omega),Av d,Bh (by omega) (by omega)];simp[d];omega
   ·rw[Ap (by omega),Ap (by omega),Bh (by omega) (by omega)];simp[d];omega) (0,0,0) (by simp)]
  simp only[Ad]
  have f:∀(l:List Ae) (a b c:Int),l.foldl (λs x=>(s.1+Fe x,s.2.1+E8 x,s.2.2+Fq x)) (a,b,c)=(a+Eb Fe l,b+Eb E8 l,c+Eb Fq l):=by
   intro l;induction l with
   |nil=>intro a b c;simp[Eb]
   |cons x l t=>intro a b c;rw[Fx,t];simp only[Eb,Int.add_assoc]
  rw[f];simp[Fh,Ee,Fy]
theorem Ahm o:Te o=Aa (if Gf o then Dl o else 0):=by
 unfold Te;rw[Bgh,Aag];cases h:Gf o with
 |false=>rfl
 |true=>have:=Afk h;simp only[Ad,if_true];rw[Bh (by omega) (by omega)]
theorem B6m o:Ar0 o=Aa (if Gf o then Kf o else 0):=by
 unfold Ar0;rw[Bgh,Aah];cases h:Gf o with
 |false=>rfl
 |true=>have:=Afk h;simp only[Ad,if_true];rw[Bh (by omega) (by omega)]
theorem Q8 o:J5 o=Aa (Ca o):=by unfold J5 Ca;simp only[Az8,Ahm,B6m,Ad,Dj,Gc];cases Gf o<;>simp
def Aac (x:Ae):Prop:=Gw x.kind/\Gw x.n/\(Gx Gw) x.Bd
def Mi (x:Ae):Nat:=(E7 Va) x.Bd
theorem A0u x (h:Mi x<=1099511627776):Aac x:=by unfold Mi at h;exact⟨G8 _ (by first|omega|exact Dk _),G8 _ (by first|omega|exact Dk _),(Lv G8) _ (by first|omega|exact Dk _)⟩
def Nc (x:A8):Prop:=Gw x.Al/\Gw x.seq/\(Gx Aac) x.o
def Nd (x:A8):Nat:=(E7 Mi) x.o
theorem A0t x (h:Nd x<=1099511627776):Nc x:=by unfold Nd at h;exact⟨G8 _ (by first|omega|exact Dk _),G8 _ (by first|omega|exact Dk _),(Lv A0u) _ (by first|omega|exact Dk _)⟩
def Bg0 (x:Cm):Prop:=Gw x.Al/\Gw x.seq/\Gw x.rev
def Apt (x:Cm):Nat:=0
theorem B8g x (h:Apt x<=1099511627776):Bg0 x:=by unfold Apt at h;exact⟨G8 _ (by first|omega|exact Dk _),G8 _ (by first|omega|exact Dk _),G8 _ (by first|omega|exact Dk _)⟩
def Ht (x:Ao):Prop:=Sx x.name/\Gw x.from_/\(Gx Gw) x.text/\(Gx Nc) x.list/\(Gx Bg0) x.seen
def Adx (x:Ao):Nat:=Vb x.name+(E7 Va) x.text+(E7 Nd) x.list+(E7 Apt) x.seen
theorem B8c x (h:Adx x<=1099511627776):Ht x:=by unfold Adx at h;exact⟨Apj _ (by first|omega|exact Dk _),G8 _ (by first|omega|exact Dk _),(Lv G8) _ (by first|omega|exact Dk _),(Lv A0t) _ (by first|omega|exact Dk _),(Lv B8g) _ (by first|omega|exact Dk _)⟩
def Aph (x:Db):Prop:=Gw x.cap/\Gw x.next/\smB x.out/\(Gx Nc) x.list
def Aps (x:Db):Nat:=(E7 Nd) x.list
theorem B8f x (h:Aps x<=1099511627776):Aph x:=by unfold Aps at h;exact⟨G8 _ (by first|omega|exact Dk _),G8 _ (by first|omega|exact Dk _),Bg2 _ (by first|omega|exact Dk _),(Lv A0t) _ (by first|omega|exact Dk _)⟩
def Bg1 (x:A0):Prop:=Gw x.id/\Sx x.Ah/\Aph x.r
def Ahz (x:A0):Nat:=Vb x.Ah+Aps x.r
theorem B8h x (h:Ahz x<=1099511627776):Bg1 x:=by unfold Ahz at h;exact⟨G8 _ (by first|omega|exact Dk _),Apj _ (by first|omega|exact Dk _),B8f _ (by first|omega|exact Dk _)⟩
def Aab (x:Aw):Prop:=smB x.shut/\(Gx Ht) x.Am/\(Gx Bg1) x.Ax/\Gw x.last
def Ahy (x:Aw):Nat:=(E7 Adx) x.Am+(E7 Ahz) x.Ax
theorem B8d x (h:Ahy x<=1099511627776):Aab x:=by unfold Ahy at h;exact⟨Bg2 _ (by first|omega|exact Dk _),(Lv B8c) _ (by first|omega|exact Dk _),(Lv B8h) _ (by first|omega|exact Dk _),G8 _ (by first|omega|exact Dk _)⟩
def Bgz (x:Ba):Prop:=Sx x.Ah/\(Gx Gw) x.list
def Ady (x:Ba):Nat:=Vb x.Ah+(E7 Va) x.list
theorem B8e x (h:Ady x<=1099511627776):Bgz x:=by unfold Ady at h;exact⟨Apj _ (by first|omega|exact Dk _),(Lv G8) _ (by first|omega|exact Dk _)⟩
def U6 (x:Bb):Prop:=Gw x.kind/\Sx x.Ah/\Gw x.Al/\Gw x.seq/\Gw x.n/\(Gx Aac) x.o/\(Gx Gw) x.text
def Adw (x:Bb):Nat:=Vb x.Ah+(E7 Mi) x.o+(E7 Va) x.text
theorem Bg3 x (h:Adw x<=1099511627776):U6 x:=by unfold Adw at h;exact⟨G8 _ (by first|omega|exact Dk _),Apj _ (by first|omega|exact Dk _),G8 _ (by first|omega|exact Dk _),G8 _ (by first|omega|exact Dk _),G8 _ (by first|omega|exact Dk _),(Lv A0u) _ (by first|omega|exact Dk _),(Lv G8) _ (by first|omega|exact Dk _)⟩
def Apg (x:Bi):Prop:=Gw x.code/\Gw x.rev/\(Gx Gw) x.text/\(Gx Nc) x.list
def P4 (x:Bi):Nat:=(E7 Va) x.text+(E7 Nd) x.list
theorem B8b x (h:P4 x<=1099511627776):Apg x:=by unfold P4 at h;exact⟨G8 _ (by first|omega|exact Dk _),G8 _ (by first|omega|exact Dk _),(Lv G8) _ (by first|omega|exact Dk _),(Lv A0t) _ (by first|omega|exact Dk _)⟩
def Api (x:A4):Prop:=U6 x.c/\Gw x.pc/\Gw x.inv/\Gw x.Bv/\Gw x.Cl/\Apg x.a
def Oz (x:A4):Nat:=Adw x.c+P4 x.a
theorem B8i x (h:Oz x<=1099511627776):Api x:=by unfold Oz at h;exact⟨Bg3 _ (by first|omega|exact Dk _),G8 _ (by first|omega|exact Dk _),G8 _ (by first|omega|exact Dk _),G8 _ (by first|omega|exact Dk _),G8 _ (by first|omega|exact Dk _),B8b _ (by first|omega|exact Dk _)⟩
def U7 (x:Au):Prop:=Aab x.h/\(Gx Gw) x.Az/\(Gx Bgz) x.An/\(Gx Api) x.Ag/\Gw x.step
def U9 (x:Au):Nat:=Ahy x.h+(E7 Va) x.Az+(E7 Ady) x.An+(E7 Oz) x.Ag
theorem B8j x (h:U9 x<=1099511627776):U7 x:=by unfold U9 at h;exact⟨B8d _ (by first|omega|exact Dk _),(Lv G8) _ (by first|omega|exact Dk _),(Lv B8e) _ (by first|omega|exact Dk _),(Lv B8i) _ (by first|omega|exact Dk _),G8 _ (by first|omega|exact Dk _)⟩
theorem Zb a b:O5 a b=Aa (decide (a=b)):=by
 unfold O5;by_cases c:(a.length:Int)=(b.length:Int)
 ·rw[C2,Av c,Ab6 (y:=.inr ()) a b (by omega) (λk d e=>by
   unfold A3m A3l;rw[Aj ⟨by omega,by omega⟩,C2,Dj])]
  cases decide (a=b)<;>rfl
 ·rw[C2,Ap c,decide_eq_false (p:=a=b) (λh=>c (by rw[h]))]
theorem Bgf a b:Vn a b=Aa (decide (a=b)):=by
 unfold Vn;by_cases c:(a.length:Int)=(b.length:Int)
 ·rw[C2,Av c,Ab6 (y:=.inr ()) a b (by omega) (λk d e=>by
   unfold A4n A4m;rw[Aj ⟨by omega,by omega⟩,C2,Dj])]
  cases decide (a=b)<;>rfl
 ·rw[C2,Ap c,decide_eq_false (p:=a=b) (λh=>c (by rw[h]))]
theorem Ag0 (a b:Ae):(a=b)↔(a.kind=b.kind/\a.n=b.n/\a.Bd=b.Bd):=by cases a;cases b;simp
theorem Bzp a b:Aja a b=Aa (decide (a=b)):=by unfold Aja;simp only[Zb,Ad,Dj,Gc];refine Km ?_;simp[Ag0,and_assoc]
theorem Awl a b:Ad3 a b=Aa (decide (a=b)):=by
 unfold Ad3 Aje;by_cases c:(a.length:Int)=(b.length:Int)
 ·rw[C2,Av c,Ab6 (y:=.inr ()) a b (by omega) (λk d e=>by
   unfold A3i A3h;rw[Aj ⟨by omega,by omega⟩,Bzp,Ad,C2,Dj])]
  cases decide (a=b)<;>rfl
 ·rw[C2,Ap c,decide_eq_false (p:=a=b) (λh=>c (by rw[h]))];rfl
theorem Bf6 a b:Aa6 a b=Aa (decide (a=b)):=by
 unfold Aa6;by_cases e:(a.length:Int)=(b.length:Int)
 ·rw[C2,Av e,Ab6 (y:=.inr ()) a b (by omega) (λk c d=>by
   unfold A4g A4f;rw[Aj ⟨by omega,by omega⟩,Aj ⟨by omega,by omega⟩,Aj ⟨by omega,by omega⟩];simp only[Bgf,Ad,Dj,F8,C2];by_cases c:(el a k).kind=(el b k).kind
   ·by_cases d:(el a k).n=(el b k).n
    ·by_cases f:(el a k).Bd=(el b k).Bd
     ·simp[Ag0,c,d,f]
     ·simp[Ag0,c,d,f]
    ·simp[Ag0,c,d]
   ·simp[Ag0,c])]
  cases decide (a=b)<;>rfl
 ·rw[C2,Ap e,decide_eq_false (p:=a=b) (λh=>e (by rw[h]))]
def Ez (b:Cw):List Ae:=b.list++((if b.put=[]then []else [⟨2,0,b.put⟩])++(if 0<b.drop then [⟨3,b.drop,[]⟩]else []))
def Lb (L:List Ae) (n:Int):List Ae:=
 if 0<L.length/\(el L (L.length-1)).kind=1 then L.set (L.length-1) ⟨(el L (L.length-1)).kind,(el L (L.length-1)).n+n,(el L (L.length-1)).Bd⟩else L++[⟨1,n,[]⟩]
def H6 (b:Cw) (n:Int):Cw:=if 0<n then⟨Lb (Ez b) n,[],0⟩else b
def Pf (b:Cw) (l:List Int):Cw:=⟨b.list,b.put++l,b.drop⟩
def Pe (b:Cw) (n:Int):Cw:=⟨b.list,b.put,b.drop+n⟩
def Cn (b:Cw) (p:Ae):Cw:=if p.kind=2 then Pf b p.Bd else if p.kind=3 then Pe b p.n else H6 b p.n
def bNil:Cw:=⟨[],[],0⟩
def Co (o:List Ae):List Ae:=Ez (o.foldl Cn bNil)
structure He (b:Cw) (m:Nat):Prop where
 len:b.list.length<=3*m
 sz:Fm Mi b.list+b.put.length<=1000000*m
 d0:0<=b.drop
 d1:b.drop<=1000000*m
 el:∀q∈b.list,0<=q.n/\q.n<=1000000*m
theorem Wa:He bNil 0:=⟨by simp[bNil],by simp[bNil,Fm],by simp[bNil],by simp[bNil],by simp[bNil]⟩
theorem Apr{T} c:∀(a b:List T),Fm c (a++b)=Fm c a+Fm c b
 |[],b=>by simp[Fm]
 |x::a,b=>by simp only[Fi,Fm,Apr c a b];omega
theorem Bhm{T} [Inhabited T] c y:∀(l:List T) (i:Nat),i<l.length->c y=c (el l i)->Fm c (l.set i y)=Fm c l
 |x::l,0,_,h=>by simp only[V5,Fm,h];rfl
 |x::l,i+1,hi,h=>by simp only[Ae5,Fm];rw[Bhm c y l i (by simpa using hi) (by rw[h];unfold el;simp[Ni])]
theorem Aaj p:Mi p=p.Bd.length:=by unfold Mi;exact Axj (λ_=>rfl) _
theorem Avx b:(Ez b).length<=b.list.length+2:=by unfold Ez;split<;>split<;>simp<;>omega
theorem Bxq b:Fm Mi (Ez b)=Fm Mi b.list+b.put.length:=by
 unfold Ez;rw[Apr,Apr]
 have:Fm Mi (if b.put=[]then []else [(⟨2,0,b.put⟩:Ae)])=b.put.length:=by
  split
  ·rename_i h;rw[h];rfl
  ·simp[Fm,Aaj]
 rw[this];split<;>simp[Fm,Aaj]
theorem Avy{b m} (h:He b m):∀q∈Ez b,0<=q.n/\q.n<=1000000*m:=by
 intro q a;unfold Ez at a;have:=h.d0;have:=h.d1;simp only[Ei]at a;rcases a with a|a|a
 ·exact h.el q a
 ·split at a
  ·cases a
  ·simp only[Eo]at a;subst a;simp only;omega
 ·split at a
  ·simp only[Eo]at a;subst a;simp only;omega
  ·cases a
theorem Brw{b m n} (h:He b m) (f:n<=1000000):He (H6 b n) (m+1):=by
 have g:=Avx b;have d:=Bxq b;have c:=Avy h;have:=h.len;have:=h.sz;have:=h.d0;have:=h.d1;unfold H6;split
 ·unfold Lb;split
  ·rename_i i;have e:(Ez b).length-1<(Ez b).length:=by omega
   refine⟨by simp;omega,?_,by simp,by simp;omega,λq a=>?_⟩
   ·simp only[C0];rw[Bhm Mi _ _ _ e (by rw[Aaj,Aaj]),d];omega
   ·rcases V4 a with a|a
    ·have:=c q a;omega
    ·have:=c _ (Cj e);subst a;simp only;omega
  ·refine⟨by simp;omega,?_,by simp,by simp;omega,λq a=>?_⟩
   ·simp only[C0,Apr];rw[d];simp[Fm,Aaj];omega
   ·rcases Ei.1 a with a|a
    ·have:=c q a;omega
    ·simp only[Eo]at a;subst a;simp only;omega
 ·exact⟨by omega,by omega,by omega,by omega,λq a=>by have:=h.el q a;omega⟩
theorem Brx{b m l} (h:He b m) (c:l.length<=1000000):He (Pf b l) (m+1):=by have:=h.len;have:=h.sz;have:=h.d0;have:=h.d1;unfold Pf;exact⟨by simp only;omega,by simp only[Bt];omega,by simp only;omega,by simp only;omega,λq a=>by have:=h.el q a;omega⟩
theorem Brv{b m n} (h:He b m) (c:0<=n) (d:n<=1000000):He (Pe b n) (m+1):=by have:=h.len;have:=h.sz;have:=h.d0;have:=h.d1;unfold Pe;exact⟨by simp only;omega,by simp only;omega,by simp only;omega,by simp only;omega,λq a=>by have:=h.el q a;omega⟩
def Y8 (p:Ae):Prop:=0<=p.n/\p.n<=1000000/\p.Bd.length<=1000000
theorem Ut{p} (h:B7 p=true):Y8 p:=by have:=Nz h;exact⟨by omega,by omega,by omega⟩
theorem Ym{b m p} (h:He b m) (a:Y8 p):He (Cn b p) (m+1):=by
 unfold Cn;split
 ·exact Brx h a.2.2
 ·split
  ·exact Brv h a.1 a.2.1
  ·exact Brw h a.2.1
theorem Abt {o:List Ae} (a:∀p∈o,Y8 p):∀ {b:Cw} {m:Nat},He b m->He (o.foldl Cn b) (m+o.length):=by
 induction o with
 |nil=>intro b m h;exact h
 |cons x o d=>intro b m h;have:=d (λp c=>a p (by simp[c])) (Ym h (a x (by simp)));rw[Fx,B5,show m+(o.length+1)=m+1+o.length by omega];exact this
theorem Aof {l:List Int}:((0:Int)<(l.length:Int))↔¬l=[]:=by cases l<;>simp
theorem Bfw{b m} (h:He b m) (d:m<=1000000):Aj2 b=Aa ⟨Ez b,[],0⟩:=by
 have:=h.len;unfold Aj2 Ez;by_cases c:b.put=[]
 ·rw[Ap (λh=>Aof.1 h c),if_pos c];by_cases a:0<b.drop
  ·rw[Av a,if_pos a,Aj (by simp;omega)];rfl
  ·rw[Ap a,if_neg a];simp
 ·rw[Av (Aof.2 c),if_neg c,Aj (by simp;omega)];by_cases a:0<b.drop
  ·rw[Av a,if_pos a,Aj (by simp;omega)];simp
  ·rw[Ap a,if_neg a];simp
theorem Bbq{b m} (h:He b m) (d:m<=1000000):Aay b.put b.list b.drop=Aa ([],Ez b,0):=by
 have:=h.len;unfold Aay Ez;by_cases c:b.put=[]
 ·rw[Ap (λh=>Aof.1 h c),if_pos c];by_cases a:0<b.drop
  ·rw[Av a,if_pos a,Aj (by omega)];rfl
  ·rw[Ap a,if_neg a];simp
 ·rw[Av (Aof.2 c),if_neg c,Aj (by omega)];by_cases a:0<b.drop
  ·rw[Av a,if_pos a,Aj (by simp;omega)];simp
  ·rw[Ap a,if_neg a];simp
theorem Az1{b m} (h:He b m) (a:m<=1000000):Tj b=Aa (Ez b):=by unfold Tj;rw[Bfw h a];rfl
theorem Az9{b m l} (h:He b m) (c:m<1000000) (a:l.length<=1000000):Tm b l=Aa (Pf b l):=by have:=h.sz;unfold Tm;rw[Aj (by omega)];rfl
theorem Az2{b m n} (h:He b m) (d:m<1000000) (a:0<=n) (c:n<=1000000):Tl b n=Aa (Pe b n):=by have:=h.d0;have:=h.d1;unfold Tl;rw[Bh (by omega) (by omega)];rfl
theorem Bck {l:List Ae} (h:0<l.length):((l.length:Int)-1).toNat=l.length-1:=by omega
theorem Ahj{b m n} (h:He b m) (p:m<1000000) (g:0<=n) (j:n<=1000000):Mp b n=Aa (H6 b n):=by
 unfold Mp H6;by_cases e:n=0
 ·rw[Av e,if_neg (by omega)]
 rw[Ap e,if_pos (by omega),Bfw h (by omega)];have k:=Avx b;have f:=Avy h;have:=h.len;generalize Ez b=L at*
 simp only[Ad];unfold Lb;by_cases c:(0:Int)<(L.length:Int)
 ·have d:0<L.length:=by omega
  rw[Av c,Bh (by omega) (by omega),Aj ⟨by omega,by omega⟩,Bck d];have o:=f _ (Cj (l:=L) (i:=L.length-1) (by omega));by_cases a:(el L (L.length-1)).kind=1
  ·rw[if_pos ⟨d,a⟩,decide_eq_true a];simp only[Ad,Cg];rw[Bh (by omega) (by omega),Bh (by omega) (by omega),Aj ⟨by omega,by omega⟩,Bh (by omega) (by omega),Aj ⟨by omega,by omega⟩]
  ·rw[if_neg (λh=>a h.2),decide_eq_false a];simp only[Ad,A3];rw[Aj (by omega)]
 ·rw[Ap c,if_neg (λh=>c (by omega))];simp only[Ad,A3];rw[Aj (by omega)]
theorem Awr{o} (A:∀p∈o,Y8 p) (t:o.length<1000000):Ta o=Aa (Co o):=by
 unfold Ta;have H:=Abt A Wa
 rw[I9 (F:=Ari o) o (λr k s=>(∀p∈r,Y8 p)/\k+r.length=o.length/\He ⟨s.2.2,s.1,s.2.1⟩ k) (λs x=>((Cn ⟨s.2.2,s.1,s.2.1⟩ x).put,(Cn ⟨s.2.2,s.1,s.2.1⟩ x).drop,(Cn ⟨s.2.2,s.1,s.2.1⟩ x).list)) (λx r k s g hx G=>by
  obtain⟨p,d,L⟩:=s;obtain⟨w,B,f⟩:=G;have c:=w x (by simp);have C:k+(r.length+1)=o.length:=by simpa using B
  have y:=Ym f c;refine⟨?_,λq I=>w q (by simp[I]),by omega,y⟩;clear y;simp only at f⊢;unfold Ari A2x Cn;rw[hx];simp only;by_cases a:x.kind=2
  ·have m:=f.sz;have:=c.2.2;dsimp only at m;rw[Av a,if_pos a,Aj (by omega)];rfl
  by_cases e:x.kind=3
  ·have m:=f.d0;have D:=f.d1;have:=c.1;have:=c.2.1;dsimp only at m D;rw[Ap a,Av e,if_neg a,if_pos e,Bh (by omega) (by omega)];rfl
  rw[Ap a,Ap e,if_neg a,if_neg e];unfold H6;by_cases u:0<x.n
  ·have j:=Bbq f (by omega);simp only at j;rw[Av u,if_pos u,j];have g2:=Avx ⟨L,p,d⟩;have g4:=Avy f;have:=f.len;generalize Ez ⟨L,p,d⟩=M at*
   simp only[Ad];unfold Lb;have:=c.1;have:=c.2.1;dsimp only at*
   by_cases t:(0:Int)<(M.length:Int)
   ·have z:0<M.length:=by omega
    rw[Av t,Bh (by omega) (by omega),Aj ⟨by omega,by omega⟩,Bck z];have m:=g4 _ (Cj (l:=M) (i:=M.length-1) (by omega));by_cases g:(el M (M.length-1)).kind=1
    ·rw[if_pos ⟨z,g⟩,decide_eq_true g];simp only[Ad,Cg];rw[Bh (by omega) (by omega),Aj ⟨by omega,by omega⟩,Bh (by omega) (by omega),Aj ⟨by omega,by omega⟩]
    ·rw[if_neg (λh=>g h.2),decide_eq_false g];simp only[Ad,A3];rw[Aj (by omega)]
   ·rw[Ap t,if_neg (λh=>t (by omega))];simp only[Ad,A3];rw[Aj (by omega)]
  ·rw[Ap u,if_neg u]) ([],0,[]) ⟨A,by simp,Wa⟩]
 have v:∀(l:List Ae) (b:Cw),l.foldl (λs x=>((Cn ⟨s.2.2,s.1,s.2.1⟩ x).put,(Cn ⟨s.2.2,s.1,s.2.1⟩ x).drop,(Cn ⟨s.2.2,s.1,s.2.1⟩ x).list)) (b.put,b.drop,b.list)=((l.foldl Cn b).put,(l.foldl Cn b).drop,(l.foldl Cn b).list):=by
  intro l;induction l with
  |nil=>intro b;rfl
  |cons x l K=>intro b;rw[Fx,Fx];exact K _
 have g:=v o bNil;simp only[bNil]at g;rw[g];simp only[Ad];have j:=Bbq H (by omega);simp only[bNil]at j;rw[j];rfl
theorem Hp{o} (h:Ca o=true):Gf o=true:=by unfold Ca at h;simp only[A9]at h;exact h.1.1
theorem B2b{o} (h:Ca o=true):0<=Dl o/\Dl o<=200:=by have a:=Afk (Hp h);rw[Aag];unfold Ca at h;simp only[A9,decide_eq_true_eq,Aag]at h;omega
theorem Bdl{o} (h:Ca o=true):0<=Kf o/\Kf o<=200:=by have a:=Afk (Hp h);rw[Aah];unfold Ca at h;simp only[A9,decide_eq_true_eq,Aah]at h;omega
theorem Bdm{o} (h:Gf o=true):∀p∈o,Y8 p:=λ_ a=>Ut (J9 h a)
theorem Ams o:Xy o=Aa (if Ca o then Co o else []):=by
 unfold Xy;rw[Se,Ad];cases h:Ca o with
 |false=>rfl
 |true=>have a:=Hp h;have:=Ps a;rw[Awr (Bdm a) (by omega)];rfl
theorem Byp o:Aqm o=Aa (Ca o&&decide (o=Co o)):=by unfold Aqm;simp only[Se,Ams,Awl,Ad,Dj,Gc];cases h:Ca o<;>simp
theorem Um{l} (h:l.length<=1099511627776):Qd l=Aa l:=by unfold Qd;rw[Aj (by omega)];rfl
structure Gs where
 done:List (List Int×Nat)
 p:List Int
 d:Nat
def Ge (s:Gs) (q:Ae):Gs:=
 if q.kind=2 then⟨s.done,s.p++q.Bd,s.d⟩else if q.kind=3 then⟨s.done,s.p,s.d+q.n.toNat⟩
 else if 0<q.n then⟨s.done++(s.p,s.d)::Ey (q.n.toNat-1) ([],0),[],0⟩else s
def g0:Gs:=⟨[],[],0⟩
def gst (o:List Ae):Gs:=o.foldl Ge g0
def Amm (s:Gs):List (List Int×Nat):=s.done++[(s.p,s.d)]
def gf (o:List Ae):List (List Int×Nat):=Amm (gst o)
theorem Bxv{s t} (h:Amm s=Amm t):s=t:=by unfold Amm at h;have a:=List.append_inj' h rfl;cases s;cases t;simp at a;simp[a]
theorem Baz b{D} (h:b.list.foldl Ge g0=⟨D,[],0⟩) (d:0<=b.drop):(Ez b).foldl Ge g0=⟨D,b.put,b.drop.toNat⟩:=by
 unfold Ez;rw[V0,V0,h]
 have a:List.foldl Ge ⟨D,[],0⟩ (if b.put=[]then []else [⟨2,0,b.put⟩])=⟨D,b.put,0⟩:=by
  split
  ·rename_i c;rw[c];rfl
  ·simp[Ge]
 rw[a];split
 ·simp[Ge]
 ·have:b.drop=0:=by omega
  simp[this]
theorem Bw0 {L:List Ae} (h:0<L.length):∃M,L=M++[el L (L.length-1)]:=by
 refine⟨L.take (L.length-1),?_⟩;rw[F9 (by omega)]
 conv=>lhs;rw[<-Kk (L.length-1) L]
 congr 1;rw[Ae1 (by omega)];congr 1;rw[show L.length-1+1=L.length by omega,Vy]
theorem B72{M} {x y:Ae}:(M++[x]).set ((M++[x]).length-1) y=M++[y]:=by simp
theorem B5s {α:Type} x a b (c:0<a) (d:0<b) (u:α):(u::Ey (a-1) x)++(x::Ey (b-1) x)=u::Ey (a+b-1) x:=by rw[Fi,<-Akr,show b-1+1=b by omega,List.replicate_append_replicate,show a-1+b=a+b-1 by omega]
theorem Bxz{L s n} (h:L.foldl Ge g0=s) (e:0<n) (f:∀q∈L,0<=q.n):(Lb L n).foldl Ge g0=Ge s ⟨1,n,[]⟩:=by
 unfold Lb;split
 ·rename_i a;obtain⟨M,c⟩:=Bw0 a.1;generalize i:el L (L.length-1)=z at*
  have b:0<=z.n:=f z (by rw[c];simp);subst c;rw[B72,V0]at*
  rw[<-h];generalize List.foldl Ge g0 M=t;obtain⟨k,m,j⟩:=z;simp only at a b;obtain⟨_,rfl⟩:=a;simp only[Fx,Tq];unfold Ge;by_cases g:0<m
  ·simp only[g,e,show 0<m+n by omega,if_true];simp;rw[show(m+n).toNat=m.toNat+n.toNat by omega];have:=B5s (([],0):List Int×Nat) m.toNat n.toNat (by omega) (by omega) (t.p,t.d);simpa using this.symm
  ·have:m=0:=by omega
   subst this;simp[e]
 ·rw[V0,h];rfl
theorem Bx1{b s q} (h:b.list.foldl Ge g0=⟨s.done,[],0⟩) (c:s.p=b.put) (g:s.d=b.drop.toNat) (m:0<=b.drop) (j:∀q∈b.list,0<=q.n) (v:0<=q.n):
  (Cn b q).list.foldl Ge g0=⟨(Ge s q).done,[],0⟩/\(Ge s q).p=(Cn b q).put/\(Ge s q).d=(Cn b q).drop.toNat/\0<=(Cn b q).drop/\∀t∈(Cn b q).list,0<=t.n:=by
 unfold Cn;by_cases e:q.kind=2
 ·simp only[e,if_true,Pf,Ge];exact⟨h,by rw[c],g,m,j⟩
 by_cases f:q.kind=3
 ·simp only[f,if_true,Pe,Ge];exact⟨h,c,by simp;omega,by simp;omega,j⟩
 simp only[e,f,if_false];unfold H6;by_cases a:0<q.n
 ·have r:(Ez b).foldl Ge g0=s:=by rw[Baz b h m];cases s;simp at c g;simp[c,g]
  have k:∀q∈Ez b,0<=q.n:=λx hx=>by
   unfold Ez at hx;simp only[Ei]at hx;rcases hx with hx|hx|hx
   ·exact j x hx
   ·split at hx
    ·cases hx
    ·simp only[Eo]at hx;subst hx;simp
   ·split at hx
    ·simp only[Eo]at hx;subst hx;simp only;omega
    ·cases hx
  have o:Ge s q=Ge s ⟨1,q.n,[]⟩:=by unfold Ge;simp[e,f]
  simp only[a,if_true];rw[Bxz r a k,o];refine⟨?_,?_,?_,by simp,?_⟩
  ·unfold Ge;simp[a]
  ·unfold Ge;simp[a]
  ·unfold Ge;simp[a]
  ·intro x hx;unfold Lb at hx;split at hx
   ·rename_i u;rcases V4 hx with hx|hx
    ·exact k x hx
    ·subst hx;have:=k _ (Cj (l:=Ez b) (i:=(Ez b).length-1) (by omega));simp only;omega
   ·rcases Ei.1 hx with hx|hx
    ·exact k x hx
    ·simp only[Eo]at hx;subst hx;simp only;omega
 ·have o:Ge s q=s:=by unfold Ge;simp[e,f,a]
  simp only[a,if_false,o];exact⟨h,c,g,m,j⟩
theorem Bx0 {o:List Ae} (g:∀q∈o,0<=q.n):∀ {b:Cw} {s:Gs},b.list.foldl Ge g0=⟨s.done,[],0⟩->s.p=b.put->s.d=b.drop.toNat->0<=b.drop->(∀q∈b.list,0<=q.n)->
  (Ez (o.foldl Cn b)).foldl Ge g0=o.foldl Ge s:=by
 induction o with
 |nil=>intro b s h c a e f;rw[Tq,Tq,Baz b h e];cases s;simp at c a;simp[c,a]
 |cons q o i=>intro b s h c a e f;obtain⟨j,k2,k,l,m⟩:=Bx1 h c a e f (g q (by simp));exact i (λx hx=>g x (by simp[hx])) j k2 k l m
theorem Bxu{o} (a:∀q∈o,0<=q.n):gf (Co o)=gf o:=by unfold gf gst Co;rw[Bx0 a (b:=bNil) (s:=g0) rfl rfl rfl (by decide) (λq h=>by cases h)]
def T2 (b:Cw) (g:List Int×Nat):Cw:=Pe (Pf b g.1) g.2
def V8 (s:Gs):Cw:=T2 (s.done.foldl (λb g=>H6 (T2 b g) 1) bNil) (s.p,s.d)
theorem Bxp L:Ez ⟨L,[],0⟩=L:=by simp[Ez]
theorem Brg{L m n}:Lb (Lb L m) n=Lb L (m+n):=by
 unfold Lb;by_cases a:0<L.length/\(el L (L.length-1)).kind=1
 ·simp only[a,and_self,if_true];have b:L.length-1<L.length:=by omega
  simp only[Ft,a.1,true_and];rw[Wg b];simp only[a.2,if_true,A6i,Int.add_assoc]
 ·simp only[a,if_false];have b:el (L++[(⟨1,m,[]⟩:Ae)]) ((L++[(⟨1,m,[]⟩:Ae)]).length-1)=⟨1,m,[]⟩:=by have:=Uh L (⟨1,m,[]⟩:Ae) [];simpa using this
  rw[b];simp
theorem A69{b m n} (a:0<m) (c:0<n):H6 (H6 b m) n=H6 b (m+n):=by unfold H6;simp only[a,c,show 0<m+n by omega,if_true,Bxp,Brg]
theorem A67 b:T2 b ([],0)=b:=by simp[T2,Pe,Pf]
theorem A68:∀k b,(Ey k (([],0):List Int×Nat)).foldl (λb g=>H6 (T2 b g) 1) b=H6 b k
 |0,b=>by simp[H6]
 |k+1,b=>by
  rw[Akr,Fx,A67,A68 k];cases k with
  |zero=>simp[H6]
  |succ k=>rw[A69 (by omega) (by omega)];congr 1;omega
theorem Brr s q (h:0<=q.n):Cn (V8 s) q=V8 (Ge s q):=by
 unfold Cn Ge;by_cases a:q.kind=2
 ·simp[a,V8,T2,Pf,Pe]
 by_cases c:q.kind=3
 ·simp only[c,if_true,V8,T2,Pf,Pe];simp;omega
 simp only[a,c,if_false];by_cases e:0<q.n
 ·simp only[e,if_true];unfold V8;simp only[V0,Fx,A68,A67];generalize T2 (s.done.foldl (λb g=>H6 (T2 b g) 1) bNil) (s.p,s.d)=b;by_cases f:q.n=1
  ·simp[f,H6]
  ·rw[A69 (by omega) (by omega)];congr 1;omega
 ·simp only[e,if_false,H6]
theorem Brq {o:List Ae} (a:∀q∈o,0<=q.n):∀s,o.foldl Cn (V8 s)=V8 (o.foldl Ge s):=by
 induction o with
 |nil=>intro s;rfl
 |cons q o b=>intro s;rw[Fx,Fx,Brr s q (a q (by simp))];exact b (λx hx=>a x (by simp[hx])) _
theorem Bc9{o} (a:∀q∈o,0<=q.n):Co o=Ez (V8 (gst o)):=by unfold Co gst;rw[<-Brq a g0];rfl
theorem B14{o a} (b:∀q∈o,0<=q.n) (c:∀q∈a,0<=q.n) (h:gf o=gf a):Co o=Co a:=by rw[Bc9 b,Bc9 c,Bxv h]
def Bce:List Ae->List Int->List Int
 |[],_=>[]
 |q::o,t=>if q.kind=1 then t.take q.n.toNat++Bce o (t.drop q.n.toNat)else Bce o (t.drop q.n.toNat)
def F7:List Ae->List Int->List Int
 |[],_=>[]
 |q::o,t=>if q.kind=1 then t.take q.n.toNat++F7 o (t.drop q.n.toNat)else if q.kind=2 then q.Bd++F7 o t else F7 o (t.drop q.n.toNat)
def Ma (o:List Ae):Prop:=∀q∈o,(q.kind=1\/q.kind=2\/q.kind=3)/\0<=q.n/\(q.kind=2->q.n=0)
theorem B2e{o} (h:Gf o=true):Ma o:=λq e=>by rcases Hf (J9 h e)with⟨a,b,c,d⟩|⟨a,b,c,d⟩|⟨a,b,c,d⟩<;>simp[a,b]
theorem B15{o} (h:Ma o):Ma (Co o):=by
 have e:∀(o:List Ae),Ma o->∀(b:Cw),Ma b.list->0<=b.drop->Ma (o.foldl Cn b).list/\0<=(o.foldl Cn b).drop:=by
  intro o;induction o with
  |nil=>intro _ b a c;exact⟨a,c⟩
  |cons q o j=>
   intro ho b a c;have f:=ho q (by simp);rw[Fx];refine j (λx hx=>ho x (by simp[hx])) _ ?_ ?_
   ·unfold Cn;split
    ·exact a
    ·split
     ·exact a
     ·unfold H6;split
      ·have d:Ma (Ez b):=by
        intro x hx;unfold Ez at hx;simp only[Ei]at hx;rcases hx with hx|hx|hx
        ·exact a x hx
        ·split at hx
         ·cases hx
         ·simp only[Eo]at hx;subst hx;simp
        ·split at hx
         ·simp only[Eo]at hx;subst hx;exact⟨.inr (.inr rfl),by simp only;omega,by simp⟩
         ·cases hx
       intro x hx;unfold Lb at hx;split at hx
       ·rename_i g;rcases V4 hx with hx|hx
        ·exact d x hx
        ·have:=d _ (Cj (l:=Ez b) (i:=(Ez b).length-1) (by omega));subst hx;simp only[g.2];refine⟨.inl trivial,by omega,by omega⟩
       ·rcases Ei.1 hx with hx|hx
        ·exact d x hx
        ·simp only[Eo]at hx;subst hx;simp only;refine⟨.inl trivial,by omega,by omega⟩
      ·exact a
   ·unfold Cn;split
    ·exact c
    ·split
     ·simp only[Pe];omega
     ·unfold H6;split
      ·simp
      ·exact c
 obtain⟨a,c⟩:=e o h bNil (λq f=>by cases f) (by decide);intro x hx;unfold Co Ez at hx;simp only[Ei]at hx;rcases hx with hx|hx|hx
 ·exact a x hx
 ·split at hx
  ·cases hx
  ·simp only[Eo]at hx;subst hx;simp
 ·split at hx
  ·simp only[Eo]at hx;subst hx;exact⟨.inr (.inr rfl),by simp only;omega,by simp⟩
  ·cases hx
theorem Axg{o} (h:Ma o):∀q∈o,0<=q.n:=λq a=>(h q a).2.1
theorem Anv{o} (h:Ma o):Co (Co o)=Co o:=B14 (Axg (B15 h)) (Axg h) (Bxu (Axg h))
theorem Apq{T} [Inhabited T] c y:∀(l:List T) (i:Nat),i<l.length->Eb c (l.set i y)=Eb c l-c (el l i)+c y
 |x::l,0,_=>by simp only[V5,Eb];show _=c x+Eb c l-c x+c y;omega
 |x::l,i+1,hi=>by simp only[Ae5,Eb];rw[Apq c y l i (by simpa using hi)];show _=c x+Eb c l-c (el l i)+c y;omega
theorem B83 L n:Fh (Lb L n)=Fh L+n/\Ee (Lb L n)=Ee L/\Fy (Lb L n)=Fy L:=by
 unfold Lb Fh Ee Fy;split
 ·rename_i h;have a:L.length-1<L.length:=by omega
  rw[Apq _ _ _ _ a,Apq _ _ _ _ a,Apq _ _ _ _ a];simp[Fe,E8,Fq,h.2];omega
 ·rw[Xo,Xo,Xo];simp[Eb,Fe,E8,Fq]
theorem Bho b (d:0<=b.drop):Fh (Ez b)=Fh b.list/\Ee (Ez b)=Ee b.list+b.put.length/\Fy (Ez b)=Fy b.list+b.drop:=by
 unfold Ez Fh Ee Fy;simp only[Xo];by_cases c:b.put=[]
 ·by_cases a:0<b.drop
  ·simp[c,a,Eb,Fe,E8,Fq]
  ·simp[c,a,Eb];omega
 ·by_cases a:0<b.drop
  ·simp[c,a,Eb,Fe,E8,Fq]
  ·simp[c,a,Eb,Fe,E8,Fq];omega
theorem B84 b p (d:0<=b.drop) (c:(p.kind=1\/p.kind=2\/p.kind=3)/\0<=p.n):0<=(Cn b p).drop/\Fh (Cn b p).list=Fh b.list+Fe p/\Ee (Cn b p).list+(Cn b p).put.length=Ee b.list+b.put.length+E8 p/\Fy (Cn b p).list+(Cn b p).drop=Fy b.list+b.drop+Fq p:=by
 unfold Cn Fe E8 Fq;rcases c.1 with a|a|a
 ·simp only[a];simp;unfold H6;split
  ·have e:=Bho b d;have f:=B83 (Ez b) p.n;simp;omega
  ·have:=c.2;simp;omega
 ·simp[a,Pf];omega
 ·simp[a,Pe];omega
theorem Bhp:∀o b,0<=b.drop->(∀p∈o,(p.kind=1\/p.kind=2\/p.kind=3)/\0<=p.n)->0<=(o.foldl Cn b).drop/\Fh (o.foldl Cn b).list=Fh b.list+Fh o/\Ee (o.foldl Cn b).list+(o.foldl Cn b).put.length=Ee b.list+b.put.length+Ee o/\Fy (o.foldl Cn b).list+(o.foldl Cn b).drop=Fy b.list+b.drop+Fy o
 |[],b,h0,_=>by simp[Fh,Ee,Fy,Eb,h0]
 |p::o,b,h0,h=>by have d:=B84 b p h0 (h p (by simp));have f:=Bhp o (Cn b p) d.1 (λq e=>h q (by simp[e]));rw[Fx];have a:Fh (p::o)=Fe p+Fh o:=rfl;have e2:Ee (p::o)=E8 p+Ee o:=rfl;have c:Fy (p::o)=Fq p+Fy o:=rfl;rw[a,e2,c];omega
theorem A06{o} (h:Ma o):Fh (Co o)=Fh o/\Ee (Co o)=Ee o/\Fy (Co o)=Fy o:=by have b:=Bhp o bNil (by decide) (λp a=>⟨(h p a).1,(h p a).2.1⟩);have g:=Bho (o.foldl Cn bNil) b.1;have c:Fh bNil.list=0:=rfl;have e2:Ee bNil.list=0:=rfl;have d:Fy bNil.list=0:=rfl;have e:bNil.put.length=0:=rfl;have f:bNil.drop=0:=rfl;unfold Co;omega
def P6 (p:Ae):Prop:=(p.kind=1/\0<p.n/\p.Bd=[])\/(p.kind=2/\p.n=0/\p.Bd≠[]/\p.Bd.all Ds=true)\/(p.kind=3/\0<p.n/\p.Bd=[])
theorem Bh5{b} (h:∀p∈b.list,P6 p) (c:b.put.all Ds=true):∀p∈Ez b,P6 p:=by
 intro x hx;unfold Ez at hx;simp only[Ei]at hx;rcases hx with hx|hx|hx
 ·exact h x hx
 ·split at hx
  ·cases hx
  ·rename_i a;simp only[Eo]at hx;subst hx;exact .inr (.inl ⟨rfl,rfl,a,c⟩)
 ·split at hx
  ·rename_i a;simp only[Eo]at hx;subst hx;exact .inr (.inr ⟨rfl,a,rfl⟩)
  ·cases hx
theorem Bh6:∀(o:List Ae),(∀p∈o,p.kind=2->p.Bd.all Ds=true)->∀b,(∀p∈b.list,P6 p)->b.put.all Ds=true->(∀p∈(o.foldl Cn b).list,P6 p)/\(o.foldl Cn b).put.all Ds=true
 |[],_,b,h1,h2=>⟨h1,h2⟩
 |p::o,h,b,h1,h2=>by
  rw[Fx];refine Bh6 o (λq e=>h q (by simp[e])) _ ?_ ?_
  ·unfold Cn;split
   ·exact h1
   ·split
    ·exact h1
    ·unfold H6;split
     ·rename_i d;have c:=Bh5 h1 h2;intro x hx;unfold Lb at hx;split at hx
      ·rename_i a;rcases V4 hx with hx|hx
       ·exact c x hx
       ·have:=c _ (Cj (l:=Ez b) (i:=(Ez b).length-1) (by omega));subst hx;rcases this with h|h|h
        ·exact .inl ⟨h.1,by simp only;omega,h.2.2⟩
        ·rw[h.1]at a;simp at a
        ·rw[h.1]at a;simp at a
      ·rcases Ei.1 hx with hx|hx
       ·exact c x hx
       ·simp only[Eo]at hx;subst hx;exact .inl ⟨rfl,d,rfl⟩
     ·exact h1
  ·unfold Cn;split
   ·rename_i a;simp only[Pf,Akn,h2,h p (by simp) a];rfl
   ·split
    ·exact h2
    ·unfold H6;split
     ·rfl
     ·exact h2
theorem Bh7{o} (h:∀p∈o,p.kind=2->p.Bd.all Ds=true):∀p∈Co o,P6 p:=by obtain⟨a,b⟩:=Bh6 o h bNil (λp c=>by cases c) rfl;exact Bh5 a b
theorem Bh4:∀ {o:List Ae},(∀p∈o,P6 p)->(o.length:Int)<=Fh o+Ee o+Fy o/\0<=Fh o/\0<=Ee o/\0<=Fy o/\∀p∈o,Fe p<=Fh o/\E8 p<=Ee o/\Fq p<=Fy o
 |[],_=>by simp[Fh,Ee,Fy,Eb]
 |p::o,h=>by
  have g:=Bh4 (o:=o) (λq b=>h q (by simp[b]));have e:Fh (p::o)=Fe p+Fh o:=rfl;have e2:Ee (p::o)=E8 p+Ee o:=rfl;have f:Fy (p::o)=Fq p+Fy o:=rfl;rw[e,e2,f]
  have j:1<=Fe p+E8 p+Fq p/\0<=Fe p/\0<=E8 p/\0<=Fq p:=by
   unfold Fe E8 Fq;rcases h p (by simp)with⟨a,d,c⟩|⟨a,d,c,i⟩|⟨a,d,c⟩
   ·simp[a];omega
   ·simp[a];have:=Ae2.2 c;omega
   ·simp[a];omega
  refine⟨by simp only[B5];omega,by omega,by omega,by omega,λq b=>?_⟩;rcases Bq.1 b with rfl|b
  ·omega
  ·have:=g.2.2.2.2 q b;omega
theorem Ax8{o} (h:Gf o=true):∀p∈o,p.kind=2->p.Bd.all Ds=true:=λp c d=>by
 rcases Hf (J9 h c)with⟨a,_⟩|⟨_,_,_,b⟩|⟨a,_⟩
 ·omega
 ·exact b
 ·omega
theorem B2d{o} (h:∀p∈o,P6 p) (a:Fh o+Fy o<=200) (b:Fh o+Ee o<=200):Ca o=true:=by
 have g:=Bh4 h
 have e:o.all B7=true:=Ff.2 λp e=>by
  have d:=g.2.2.2.2 p e;unfold Fe E8 Fq at d;unfold B7;rcases h p e with⟨a,b,c⟩|⟨a,b,c,f⟩|⟨a,b,c⟩
  ·simp[a,c]at d⊢;omega
  ·simp[a]at d;simp only[a,b,f];simp;omega
  ·simp[a,c]at d⊢;omega
 unfold Ca Gf;rw[e,Aag,Aah];simp;omega
theorem Bdk{o} (h:Ca o=true):Fh o+Fy o<=200/\Fh o+Ee o<=200:=by have a:=B2b h;have b:=Bdl h;rw[Aag]at a;rw[Aah]at b;omega
theorem Zr{o} (h:Ca o=true):Ma o:=B2e (Hp h)
theorem Ac3{o} (h:Ca o=true):Ca (Co o)=true:=by have a:=A06 (Zr h);have b:=Bdk h;exact B2d (Bh7 (Ax8 (Hp h))) (by omega) (by omega)
theorem Av4{o} (h:Ma o):Dl (Co o)=Dl o:=by have:=A06 h;rw[Aag,Aag];omega
theorem Bib{o} (h:Ma o):Kf (Co o)=Kf o:=by have:=A06 h;rw[Aah,Aah];omega
theorem Bdi{o} (h:Ca o=true):(o.length:Int)<=600/\0<=Fh o/\0<=Ee o/\0<=Fy o/\Ee o<=200/\Fh o<=200/\Fy o<=200:=by have a:=Ps (Hp h);have b:=Afk (Hp h);have c:=Bdk h;omega
theorem Bhu:∀ {o:List Ae},(∀p∈o,p.kind=2\/p.Bd=[])->((Fm Mi o:Nat):Int)=Ee o
 |[],_=>rfl
 |p::o,h=>by
  have c:=Bhu (o:=o) (λq b=>h q (by simp[b]));have e2:Ee (p::o)=E8 p+Ee o:=rfl
  have a:E8 p=(p.Bd.length:Int):=by
   unfold E8;rcases h p (by simp)with h|h
   ·rw[if_pos h]
   ·rw[h];split<;>rfl
  rw[e2,a,<-c];simp only[Fm,Aaj];omega
theorem Ax7{o} (h:Ca o=true):E7 Mi o<=800:=by
 have b:=Bdi h
 have c:=Bhu (o:=o) (λp a=>by
  rcases Hf (J9 (Hp h) a)with h|h|h
  ·exact .inr h.2.2.2
  ·exact .inl h.1
  ·exact .inr h.2.2.2)
 unfold E7;omega
theorem Afh:∀ {o:List Ae},Ma o->∀ {t:List Int},Dl o=t.length->((F7 o t).length:Int)=Kf o
 |[],_,t,h=>by simp only[Dl,Eb]at h;simp[F7,Kf,Eb]
 |q::o,hk,t,h=>by
  have ho:Ma o:=λx hx=>hk x (by simp[hx]);obtain⟨a,d,e⟩:=hk q (by simp);have b:Dl (q::o)=Ig q+Dl o:=rfl;have e2:Kf (q::o)=Sn q+Kf o:=rfl
  have c:0<=Dl o:=by
   have:∀x∈o,0<=Ig x:=λx hx=>by have:=(ho x hx).2.1;unfold Ig Fe Fq;split<;>split<;>omega
   exact Aaf this
  rw[b]at h;rw[e2];unfold Ig Sn Fe E8 Fq at*
  unfold F7;rcases a with a|a|a
  ·simp[a]at h⊢;have:=Afh ho (t:=t.drop q.n.toNat) (by simp;omega);rw[this];omega
  ·simp[a]at h⊢;have:=Afh ho (t:=t) h;rw[this]
  ·simp[a]at h⊢;have:=Afh ho (t:=t.drop q.n.toNat) (by simp;omega);rw[this]
theorem B7b{o} (ho:∀p∈o,B7 p=true) (t:o.length<1000000):
  A2 (Arz o) (λa=>((a.1,a.2.1,a.2.2):List Ae×List Int×Int)) o.length 0 ([],[],0)=Aa ((o.foldl Cn bNil).list,(o.foldl Cn bNil).put,(o.foldl Cn bNil).drop):=by
 refine Fk (F:=Arz o) o (λr k s=>(∀p∈r,B7 p=true)/\k+r.length=o.length/\He ⟨s.1,s.2.1,s.2.2⟩ k) (λr _ s=>((r.foldl Cn ⟨s.1,s.2.1,s.2.2⟩).list,(r.foldl Cn ⟨s.1,s.2.1,s.2.2⟩).put,(r.foldl Cn ⟨s.1,s.2.1,s.2.2⟩).drop)) (λ_ _=>rfl) (λx r k s n hx j=>?_) _ ⟨ho,by simp,Wa⟩;obtain⟨L,p,d⟩:=s;obtain⟨f,i,c⟩:=j;have e:=f x (by simp);have l:=Ut e;simp only[B5]at i;simp only at c⊢;refine .inl ⟨((Cn ⟨L,p,d⟩ x).list,(Cn ⟨L,p,d⟩ x).put,(Cn ⟨L,p,d⟩ x).drop),?_,⟨λq m=>f q (by simp[m]),by omega,Ym c l⟩,rfl⟩;unfold Arz Bkt Cn;rw[hx];simp only;rcases Hf e with⟨b,k2,g,h⟩|⟨b,k2,g,h⟩|⟨b,k2,g,h⟩
 ·rw[Av b,if_neg (by omega),if_neg (by omega),Ahj c (by omega) (by omega) (by omega)];rfl
 ·rw[Ap (by omega),Av b,if_pos b,Az9 c (by omega) (by omega)];rfl
 ·rw[Ap (by omega),Ap (by omega),if_neg (by omega),if_pos b,Az2 c (by omega) (by omega) (by omega)];rfl
theorem Az6 o:Aa5 o=Aa (if Ca o then Co o else []):=by
 unfold Aa5;rw[Q8,Ad];cases h:Ca o with
 |false=>rfl
 |true=>have a:=Hp h;have c:=Ps a;simp only[A6,cond_false,if_true];rw[B7b (λp b=>J9 a b) (by omega),Ad];have:=Az1 (Abt (Bdm a) Wa) (by omega);simp only;rw[this];rfl
theorem Bf3 o:Ajp o=Aa (Ca o&&decide (o=Co o)):=by
 unfold Ajp;simp only[Q8,Az6,Bf6,Ad,Dj,Gc];cases h:Ca o
 ·simp
 ·simp[eq_comm]
def Gm (o:List Ae) (t:List Int):Bool:=Ca o&&Ed t&&decide (Dl o=t.length)
theorem Amb{o t} (h:Gm o t=true):Ca o=true/\Ed t=true/\Dl o=t.length:=by unfold Gm at h;simp only[A9,decide_eq_true_eq]at h;exact⟨h.1.1,h.1.2,h.2⟩
theorem Ln{t} (h:Ed t=true):t.length<=200:=by unfold Ed at h;simp only[A9,decide_eq_true_eq]at h;exact h.1
theorem Bav x o:Dl (x::o)=Ig x+Dl o:=rfl
theorem Baw{o} (h:∀p∈o,B7 p=true):0<=Dl o:=Aaf λx hx=>(Afj (h x hx)).2.2.2.1.1
theorem Aln {t:List Int} {a n:Int} (b:0<=a) (c:0<=n):t.drop (a+n).toNat=(t.drop a.toNat).drop n.toNat:=by rw[Mq];congr 1;omega
theorem A1i {t:List Int} {a n:Int} (b:0<=a) (c:0<=n):(t.take (a+n).toNat).drop a.toNat=(t.drop a.toNat).take n.toNat:=by rw[Yd];congr 1;omega
theorem Bzd{o t} (ho:∀p∈o,B7 p=true) (A:o.length<=600) (C:t.length<=200) (w:Dl o=t.length):
  A2 (Aic t o) (λg=>(g.1:List Int)) o.length 0 ([],0)=Aa (F7 o t):=by
 have h:=Fk (F:=Aic t o) (e:=λ(s:List Int×Int)=>s.1) o (λr k s=>(∀p∈r,B7 p=true)/\0<=s.2/\s.2+Dl r=t.length/\s.1.length<=200*k/\k+r.length=o.length) (λr _ s=>s.1++F7 r (t.drop s.2.toNat)) (λs _=>by simp[F7]) (λx r k s z hx v=>by
  obtain⟨out,a⟩:=s;obtain⟨j,i,d,q,u⟩:=v;simp only at i d q⊢;rw[Bav]at d;have B:=Baw (o:=r) (λp l=>j p (by simp[l]));have f:=j x (by simp);have y:=Nz f;have c:∀p∈r,B7 p=true:=λp l=>j p (by simp[l]);simp only[B5]at u;unfold Aic A16;rw[hx];simp only;unfold Ig Fe Fq at d;refine .inl ?_;rcases Hf f with⟨b,k2,m,n⟩|⟨b,k2,m,n⟩|⟨b,k2,m,n⟩
  ·simp[b]at d;rw[Av b,Bh (by omega) (by omega),Aj ⟨by omega,by omega,by omega⟩,A1i i k2,Aj (by simp;omega),Bh (by omega) (by omega)];refine⟨_,rfl,⟨c,by simp only;omega,by simp only;omega,by simp;omega,by omega⟩,?_⟩;simp only[F7,b,if_true,Aln i k2,Ci]
  ·simp[b]at d;rw[Ap (by omega),Ap (by omega),Aj (by omega)];refine⟨_,rfl,⟨c,by simp only;omega,by simp only;omega,by simp;omega,by omega⟩,?_⟩;simp[F7,b]
  ·simp[b]at d;rw[Ap (by omega),Av b,Bh (by omega) (by omega)];refine⟨_,rfl,⟨c,by simp only;omega,by simp only;omega,by simp only;omega,by omega⟩,?_⟩;simp[F7,b,Aln i k2]) ([],0) ⟨ho,by simp,by simp[w],by simp,by simp⟩
 simpa using h
theorem Bba o t:S6 o t=Aa (if Gm o t then(F7 o t,true)else([],false)):=by
 unfold S6;simp only[Se,Agc,Amr,Ad,Dj,F8]
 have b:(!Ca o||(!Ed t||!decide ((if Gf o then Dl o else 0)=(t.length:Int))))=!Gm o t:=by
  unfold Gm;cases h:Ca o
  ·simp
  ·rw[Hp h];simp
 rw[<-Bool.or_assoc]at b;rw[b];cases h:Gm o t with
 |false=>rfl
 |true=>obtain⟨a,c,d⟩:=Amb h;have:=Ps (Hp a);simp only[A6,cond_false,if_true];rw[Bzd (λp e=>J9 (Hp a) e) (by omega) (Ln c) d];rfl
theorem B6c o t:Aj4 o t=Aa (Gm o t):=by
 unfold Aj4 Gm;simp only[Q8,Ao4,Ahm,Ad,Dj,Gc];cases h:Ca o
 ·simp
 ·rw[Hp h];simp
theorem B64{o t} (ho:∀p∈o,B7 p=true) (A:o.length<=600) (C:t.length<=200) (w:Dl o=t.length):
  A2 (Ajj t o) (λg=>(g.1:List Int)) o.length 0 ([],0)=Aa (F7 o t):=by
 have h:=Fk (F:=Ajj t o) (e:=λ(s:List Int×Int)=>s.1) o (λr k s=>(∀p∈r,B7 p=true)/\0<=s.2/\s.2+Dl r=t.length/\s.1.length<=200*k/\k+r.length=o.length) (λr _ s=>s.1++F7 r (t.drop s.2.toNat)) (λs _=>by simp[F7]) (λx r k s z hx v=>by
  obtain⟨out,a⟩:=s;obtain⟨j,i,d,q,u⟩:=v;simp only at i d q⊢;rw[Bav]at d;have B:=Baw (o:=r) (λp l=>j p (by simp[l]));have f:=j x (by simp);have y:=Nz f;have c:∀p∈r,B7 p=true:=λp l=>j p (by simp[l]);simp only[B5]at u;unfold Ajj A3z;rw[hx];simp only;unfold Ig Fe Fq at d;refine .inl ?_;rcases Hf f with⟨b,k2,m,n⟩|⟨b,k2,m,n⟩|⟨b,k2,m,n⟩
  ·simp[b]at d;rw[Av b,Bh (by omega) (by omega),Aj ⟨by omega,by omega,by omega⟩,A1i i k2,Aj (by simp;omega),Bh (by omega) (by omega)];refine⟨_,rfl,⟨c,by simp only;omega,by simp only;omega,by simp;omega,by omega⟩,?_⟩;simp only[F7,b,if_true,Aln i k2,Ci]
  ·simp[b]at d;rw[Ap (by omega),Av b,Aj (by omega)];refine⟨_,rfl,⟨c,by simp only;omega,by simp only;omega,by simp;omega,by omega⟩,?_⟩;simp[F7,b]
  ·simp[b]at d;rw[Ap (by omega),Ap (by omega),Bh (by omega) (by omega)];refine⟨_,rfl,⟨c,by simp only;omega,by simp only;omega,by simp only;omega,by omega⟩,?_⟩;simp[F7,b,Aln i k2]) ([],0) ⟨ho,by simp,by simp[w],by simp,by simp⟩
 simpa using h
theorem Adm o t:O6 o t=Aa (if Gm o t then(F7 o t,true)else([],false)):=by
 unfold O6;rw[B6c,Ad];cases h:Gm o t with
 |false=>rfl
 |true=>obtain⟨a,b,c⟩:=Amb h;have:=Ps (Hp a);simp only[A6,cond_false,if_true];rw[B64 (λp d=>J9 (Hp a) d) (by omega) (Ln b) c];rfl
def Apc (a:Int) (b:Bool):List Ae->Int->Int->Int
 |[],_,j=>j
 |q::o,i,j=>if q.kind=1 then(if a<i+q.n then j+a-i else Apc a b o (i+q.n) (j+q.n))else if q.kind=2 then(if a=i/\b=false then j else Apc a b o i (j+q.Bd.length))else(if a<i+q.n then j else Apc a b o (i+q.n) j)
def shift (o:List Ae) (a:Int) (b:Bool):Int×Bool:=if Ca o=true/\0<=a/\a<=Dl o then(Apc a b (Co o) 0 0,true)else(0,false)
def oks (l:List Ae):Prop:=∀p∈l,B7 p=true
theorem B2i:oks []:=λ_ h=>by cases h
theorem M3{p r} (h:oks (p::r)):B7 p=true:=h p (by simp)
theorem Qz{p r} (h:oks (p::r)):oks r:=λq a=>h q (by simp[a])
theorem Agt{p r} (h:B7 p=true) (k:oks r):oks (p::r):=λq a=>by
 rcases Bq.1 a with rfl|a
 ·exact h
 ·exact k q a
def Bl (p:Ae):Int:=p.n+p.Bd.length
theorem Gh{p} (h:B7 p=true):0<=Bl p/\Bl p<=200:=by
 unfold Bl;rcases Hf h with⟨_,b,c,a⟩|⟨_,b,c,_⟩|⟨_,b,c,a⟩
 ·rw[a];simp;omega
 ·omega
 ·rw[a];simp;omega
def Cr (p:Ae) (n:Int):Ae:=if p.kind=2 then⟨p.kind,p.n,(p.Bd.take n.toNat).drop 0⟩else⟨p.kind,n,p.Bd⟩
def Dc (p:Ae) (n:Int):Ae:=if p.kind=2 then⟨p.kind,p.n,(p.Bd.take p.Bd.length).drop n.toNat⟩else⟨p.kind,p.n-n,p.Bd⟩
theorem Ags{k n} (c:k=1\/k=3) (a:0<=n) (b:n<=200):B7 ⟨k,n,[]⟩=true:=by unfold B7;simp[c,a,b]
theorem Bdo{s} (a:s.length<=200) (b:s.all Ds=true):B7 ⟨2,0,s⟩=true:=by unfold B7;rw[if_neg (by simp),if_pos (by rfl)];rw[A9];exact⟨decide_eq_true ⟨rfl,a⟩,b⟩
theorem A62 {l:List Int} (h:l.all Ds=true) {s:List Int} (a:∀x∈s,x∈l):s.all Ds=true:=Ff.2 λx hx=>Ff.1 h x (a x hx)
theorem Gd{p n} (h:B7 p=true) (b:0<=n) (a:n<=Bl p):B7 (Cr p n)=true/\(Cr p n).kind=p.kind/\Bl (Cr p n)=n/\B7 (Dc p n)=true/\(Dc p n).kind=p.kind/\Bl (Dc p n)=Bl p-n:=by
 obtain⟨k,m,s⟩:=p;unfold Bl Cr Dc at*
 simp only at a;rcases Hf h with⟨g1,g2,g3,g4⟩|⟨g1,g2,g3,g4⟩|⟨g1,g2,g3,g4⟩<;>simp only at g1 g2 g3 g4
 ·subst g1 g4;simp only[C0]at a;rw[if_neg (by simp),if_neg (by simp)];dsimp only at*
  exact⟨Ags (.inl rfl) b (by omega),rfl,by simp,Ags (.inl rfl) (by omega) (by omega),rfl,by simp⟩
 ·subst g1 g2;rw[if_pos rfl,if_pos rfl];refine⟨Bdo (by simp;omega) (A62 g4 λx hx=>?_),rfl,by simp;omega,Bdo (by simp;omega) (A62 g4 λx hx=>?_),rfl,by simp;omega⟩
  ·rw[Nh]at hx;exact V3 hx
  ·rw[Hd]at hx;exact Kj hx
 ·subst g1 g4;simp only[C0]at a;rw[if_neg (by simp),if_neg (by simp)];dsimp only at*
  exact⟨Ags (.inr rfl) b (by omega),rfl,by simp,Ags (.inr rfl) (by omega) (by omega),rfl,by simp⟩
def skp:List Ae->List Ae
 |[]=>[]
 |p::r=>if Bl p=0 then skp r else p::r
theorem A0p{p r} (h:Bl p=0):skp (p::r)=skp r:=by rw[skp,if_pos h]
theorem Xl{p r} (h:Bl p≠0):skp (p::r)=p::r:=by rw[skp,if_neg h]
theorem U5:∀l,skp (skp l)=skp l
 |[]=>rfl
 |p::r=>by
  by_cases h:Bl p=0
  ·rw[A0p h];exact U5 r
  ·rw[Xl h,Xl h]
theorem Ape q:(skp q).length<=q.length:=by
 induction q with
 |nil=>simp[skp]
 |cons x q a=>unfold skp;split<;>simp<;>omega
theorem Xk{l p r} (h:skp l=p::r):Bl p≠0:=λc=>by have a:=U5 l;rw[h,A0p c]at a;have b:=Ape r;rw[a]at b;simp at b;omega
theorem Ahs:∀ {l:List Ae},oks l->oks (skp l)
 |[],h=>h
 |p::r,h=>by
  unfold skp;split
  ·exact Ahs (Qz h)
  ·exact h
def Kw (f:Int) (p:Ae):Int:=if p.kind=f then 0 else Bl p
def Jo (f:Int) (l:List Ae):Int:=Eb (Kw f) l
def Cq (l:List Ae):Int:=Eb Bl l
theorem Ll f p r:Jo f (p::r)=Kw f p+Jo f r:=rfl
theorem Re p r:Cq (p::r)=Bl p+Cq r:=rfl
theorem Bcy{f l} (h:oks l):0<=Jo f l:=Aaf λx hx=>by have:=Gh (h x hx);unfold Kw;split<;>omega
theorem Lw{l} (h:oks l):0<=Cq l:=Aaf λx hx=>(Gh (h x hx)).1
theorem Wy f:∀l,Jo f (skp l)=Jo f l
 |[]=>rfl
 |p::r=>by
  unfold skp;split
  ·rename_i h;rw[Ll,Wy f r];unfold Kw;split<;>omega
  ·rfl
theorem Rf:∀l,Cq (skp l)=Cq l
 |[]=>rfl
 |p::r=>by
  unfold skp;split
  ·rename_i h;rw[Re,Rf r];omega
  ·rfl
theorem Anr{l} (h:oks l):Jo 2 l=Dl l:=Ahx λp a=>by unfold Kw Ig Fe Fq Bl;rcases Hf (h p a)with⟨g1,g2,g3,g4⟩|⟨g1,g2,g3,g4⟩|⟨g1,g2,g3,g4⟩<;>simp[g1,g4]
theorem Ans{l} (h:oks l):Jo 3 l=Kf l:=Ahx λp a=>by unfold Kw Sn Fe E8 Bl;rcases Hf (h p a)with⟨g1,g2,g3,g4⟩|⟨g1,g2,g3,g4⟩|⟨g1,g2,g3,g4⟩<;>simp[g1,g2,g4]
theorem Ca1{l} (h:oks l):Cq l=Fh l+Ee l+Fy l:=by
 unfold Fh Ee Fy;induction l with
 |nil=>rfl
 |cons p r a=>
  rw[Re,a (Qz h)];have e:Bl p=Fe p+E8 p+Fq p:=by unfold Fe E8 Fq Bl;rcases Hf (M3 h)with⟨g1,g2,g3,g4⟩|⟨g1,g2,g3,g4⟩|⟨g1,g2,g3,g4⟩<;>simp[g1,g2,g4]
  simp only[Eb];omega
abbrev Em:=Option Ae×Option Ae
def N2 (f:Int):List Ae->List Ae->Option (Em×List Ae×List Ae)
 |[],[]=>Ab
 |[],q::t=>if q.kind=2 then Aa ((Ab,Aa (Cr q (Bl q))),[],Dc q (Bl q)::t)else Ab
 |p::r,[]=>if p.kind=f then Aa ((Aa (Cr p (Bl p)),Ab),Dc p (Bl p)::r,[])else Ab
 |p::r,q::t=>if p.kind=f then Aa ((Aa (Cr p (Bl p)),Ab),Dc p (Bl p)::r,q::t)
  else if q.kind=2 then Aa ((Ab,Aa (Cr q (Bl q))),p::r,Dc q (Bl q)::t)
  else Aa ((Aa (Cr p (min (Bl p) (Bl q))),Aa (Cr q (min (Bl p) (Bl q)))),Dc p (min (Bl p) (Bl q))::r,Dc q (min (Bl p) (Bl q))::t)
structure J (f:Int) (a b:List Ae):Prop where
 oa:oks a
 ob:oks b
 la:a.length<=600
 lb:b.length<=600
 m:Jo f a=Jo 2 b
theorem J.skp {f:Int} {a b:List Ae} (h:J f a b):J f (skp a) (skp b):=⟨Ahs h.oa,Ahs h.ob,by have:=Ape a;have:=h.la;omega,by have:=Ape b;have:=h.lb;omega,by rw[Wy,Wy];exact h.m⟩
theorem Bd2{f p} (h:p.kind=f):Kw f p=0:=if_pos h
theorem W7{f p} (h:p.kind≠f):Kw f p=Bl p:=if_neg h
theorem Zt{f p n} (h:B7 p=true) (b:0<=n) (c:n<=Bl p) (a:p.kind≠f):Kw f (Dc p n)=Kw f p-n:=by have g:=Gd h b c;rw[W7 a,W7 (by rw[g.2.2.2.2.1];exact a),g.2.2.2.2.2]
theorem Agz{f p n} (h:B7 p=true) (b:0<=n) (c:n<=Bl p) (a:p.kind=f):Kw f (Dc p n)=Kw f p:=by have g:=Gd h b c;rw[Bd2 a,Bd2 (by rw[g.2.2.2.2.1];exact a)]
theorem J.left{f p r b} (h:J f (p::r) b) (c:p.kind=f):J f (Dc p (Bl p)::r) b/\Cq (Dc p (Bl p)::r)=Cq (p::r)-Bl p:=by have ho:=M3 h.oa;have a:=Gh ho;have g:=Gd ho a.1 (Hb _);refine⟨⟨Agt g.2.2.2.1 (Qz h.oa),h.ob,by have:=h.la;simpa using this,h.lb,?_⟩,by rw[Re,Re,g.2.2.2.2.2];omega⟩;rw[<-h.m,Ll,Ll,Agz ho a.1 (Hb _) c]
theorem J.right{f q a t} (h:J f a (q::t)) (c:q.kind=2):J f a (Dc q (Bl q)::t)/\Cq (Dc q (Bl q)::t)=Cq (q::t)-Bl q:=by have ho:=M3 h.ob;have b:=Gh ho;have g:=Gd ho b.1 (Hb _);refine⟨⟨h.oa,Agt g.2.2.2.1 (Qz h.ob),h.la,by have:=h.lb;simpa using this,?_⟩,by rw[Re,Re,g.2.2.2.2.2];omega⟩;rw[h.m,Ll,Ll,Agz ho b.1 (Hb _) c]
theorem J.both{f p q r t} (h:J f (p::r) (q::t)) (i:p.kind≠f) (b:q.kind≠2){n} (l:n=min (Bl p) (Bl q)):
  J f (Dc p n::r) (Dc q n::t)/\Cq (Dc p n::r)=Cq (p::r)-n/\Cq (Dc q n::t)=Cq (q::t)-n/\0<=n/\n<=Bl p/\n<=Bl q:=by
 have c:=M3 h.oa;have d:=M3 h.ob;have j:=Gh c;have k:=Gh d;have a:0<=n/\n<=Bl p/\n<=Bl q:=by omega
 have g:=Gd c a.1 a.2.1;have e:=Gd d a.1 a.2.2;refine⟨⟨Agt g.2.2.2.1 (Qz h.oa),Agt e.2.2.2.1 (Qz h.ob),by have:=h.la;simpa using this,by have:=h.lb;simpa using this,?_⟩,by rw[Re,Re,g.2.2.2.2.2];omega,by rw[Re,Re,e.2.2.2.2.2];omega,a⟩;have:=h.m;rw[Ll,Ll]at*
 rw[Zt c a.1 a.2.1 i,Zt d a.1 a.2.2 b];omega
theorem J.no_right{f p r} (h:J f (p::r) []) (c:Bl p≠0):p.kind=f:=by
 by_cases a:p.kind=f
 ·exact a
 ·have b:=h.m;have d:=Bcy (f:=f) (Qz h.oa);have e:=Gh (M3 h.oa);rw[Ll,W7 a]at b;have:Jo 2 []=0:=rfl;omega
theorem J.no_left{f q t} (h:J f [] (q::t)) (c:Bl q≠0):q.kind=2:=by
 by_cases a:q.kind=2
 ·exact a
 ·have b:=h.m;have d:=Bcy (f:=2) (Qz h.ob);have e:=Gh (M3 h.ob);rw[Ll,W7 a]at b;have:Jo f []=0:=rfl;omega
theorem Bhd{f a b j k e} (h:J f a b) (m:∀p r,a=p::r->Bl p≠0) (l:∀p r,b=p::r->Bl p≠0) (c:N2 f a b=Aa (e,j,k)):J f j k/\Cq j+Cq k<Cq a+Cq b:=by
 cases a with
 |nil=>
  cases b with
  |nil=>cases c
  |cons q t=>
   simp only[N2]at c;split at c
   ·rename_i d;simp only[D1.injEq,Prod.mk.injEq]at c;obtain⟨_,rfl,rfl⟩:=c;have g:=h.right d;have:=Gh (M3 h.ob);have:=l q t rfl;exact⟨g.1,by omega⟩
   ·cases c
 |cons p r=>
  have n:=Gh (M3 h.oa);have o:=m p r rfl;cases b with
  |nil=>
   simp only[N2]at c;split at c
   ·rename_i d;simp only[D1.injEq,Prod.mk.injEq]at c;obtain⟨_,rfl,rfl⟩:=c;have g:=h.left d;exact⟨g.1,by omega⟩
   ·cases c
  |cons q t=>
   have s:=Gh (M3 h.ob);have u:=l q t rfl;simp only[N2]at c;split at c
   ·rename_i d;simp only[D1.injEq,Prod.mk.injEq]at c;obtain⟨_,rfl,rfl⟩:=c;have g:=h.left d;exact⟨g.1,by omega⟩
   ·rename_i d;split at c
    ·rename_i i;simp only[D1.injEq,Prod.mk.injEq]at c;obtain⟨_,rfl,rfl⟩:=c;have g:=h.right i;exact⟨g.1,by omega⟩
    ·rename_i i;simp only[D1.injEq,Prod.mk.injEq]at c;obtain⟨_,rfl,rfl⟩:=c;have g:=h.both d i rfl;exact⟨g.1,by omega⟩
def P7 (f:Int):Nat->List Ae->List Ae->List Em
 |0,_,_=>[]
 |k+1,a,b=>match N2 f (skp a) (skp b)with
  |none=>[]
  |some (e,a',b')=>e::P7 f k a' b'
def tr (f:Int) (a b:List Ae):List Em:=P7 f (Cq a+Cq b).toNat a b
theorem Vv:∀ {l:List Ae},oks l->Cq l=0->skp l=[]
 |[],_,_=>rfl
 |p::r,h,hz=>by have a:=Gh (M3 h);have b:=Lw (Qz h);rw[Re]at hz;unfold skp;rw[if_pos (by omega)];exact Vv (Qz h) (by omega)
theorem Bii{f}:∀(k k':Nat) {a b:List Ae},J f a b->Cq a+Cq b<=k->Cq a+Cq b<=k'->P7 f k a b=P7 f k' a b
 |0,0,_,_,_,_,_=>rfl
 |0,k'+1,a,b,h,h1,_=>by have:=Lw h.oa;have:=Lw h.ob;unfold P7;rw[Vv h.oa (by omega),Vv h.ob (by omega)];rfl
 |k+1,0,a,b,h,_,h2=>by have:=Lw h.oa;have:=Lw h.ob;unfold P7;rw[Vv h.oa (by omega),Vv h.ob (by omega)];rfl
 |k+1,k'+1,a,b,h,h1,h2=>by
  unfold P7;cases d:N2 f (skp a) (skp b)with
  |none=>rfl
  |some x=>obtain⟨e,i,j⟩:=x;have g:=Bhd h.skp (λp r c=>Xk c) (λp r c=>Xk c) d;rw[Rf,Rf]at g;simp only;rw[Bii k k' g.1 (by omega) (by omega)]
theorem A1n{f a b c d e} (h:J f a b) (j:N2 f (skp a) (skp b)=Aa (e,c,d)):tr f a b=e::tr f c d:=by have g:=Bhd h.skp (λp r i=>Xk i) (λp r i=>Xk i) j;rw[Rf,Rf]at g;have k:=Lw g.1.oa;have l:=Lw g.1.ob;unfold tr;rw[show(Cq a+Cq b).toNat=((Cq a+Cq b).toNat-1)+1 by omega];rw[P7,j];simp only;rw[Bii _ (Cq c+Cq d).toNat g.1 (by omega) (by omega)]
theorem Cbr{f a b} (c:N2 f (skp a) (skp b)=Ab):tr f a b=[]:=by
 unfold tr;cases (Cq a+Cq b).toNat with
 |zero=>rfl
 |succ k=>rw[P7,c]
theorem Cbt{f} k{a b c d} (e:skp a=skp c) (g:skp b=skp d):P7 f k a b=P7 f k c d:=by
 cases k with
 |zero=>rfl
 |succ k=>unfold P7;rw[e,g]
theorem Ap1{f a b c d} (e:skp a=skp c) (g:skp b=skp d):tr f a b=tr f c d:=by unfold tr;rw[Cbt _ e g,show Cq a=Cq c by rw[<-Rf a,e,Rf],show Cq b=Cq d by rw[<-Rf b,g,Rf]]
def Ia:List Ae->Ae
 |[]=>⟨0,0,[]⟩
 |p::_=>p
theorem Avg p (r:List Ae):el (p::r) 0=p:=rfl
theorem Amu{p} (h:B7 p=true):O4 p=Aa (Bl p):=Bbu h
theorem Bzk{l} (h:oks l) (g:l.length<=600):Cp Arm l=Aa (skp l):=by
 refine Acp (f:=Arm) (λs=>oks s/\s.length<=600) (λs=>s.length) skp (λs d=>?_) l ⟨h,g⟩;obtain⟨b,c⟩:=d;unfold Arm Bj1;cases s with
 |nil=>exact .inr rfl
 |cons p r=>
  have e:((p::r).take (p::r).length).drop 1=r:=by simp
  rw[Av (by simp<;>omega),Aj ⟨by omega,by simp<;>omega⟩,Avg,Amu (M3 b),Ad,Ad];by_cases a:Bl p=0
  ·refine .inl ⟨r,?_,⟨Qz b,by simp at c;omega⟩,by simp,by rw[skp,if_pos a]⟩;rw[Av a,Aj ⟨by omega,by simp<;>omega⟩,e]
  ·exact .inr (by rw[Ap a,skp,if_neg a])
theorem Bbs{l} (h:oks l) (a:l.length<=600):Ju ⟨l⟩=Aa (Ia (skp l),⟨skp l⟩):=by
 unfold Ju;rw[Bzk h a,Ad];cases skp l with
 |nil=>rfl
 |cons p r=>rw[Ap (by simp<;>omega),Aj ⟨by omega,by simp<;>omega⟩];rfl
theorem Awv{p r n} (h:B7 p=true) (f:(p::r).length<=600) (b:0<=n) (d:n<=Bl p):Tb ⟨p::r⟩ n=Aa (Cr p n,⟨Dc p n::r⟩):=by
 have i:=Gh h;unfold Tb Cr Dc;rw[Avg];have e:((p::r).take (p::r).length).drop 1=r:=by simp
 have g:r.length+1<=600:=by simpa using f
 rw[e,Aj ⟨by omega,by simp<;>omega⟩];by_cases a:p.kind=2
 ·have c:n<=p.Bd.length:=by unfold Bl at d;rcases Hf h with⟨g1,_⟩|⟨g1,g2,g3,g4⟩|⟨g1,_⟩<;>omega
  rw[Av a,Aj ⟨b,c⟩,Aj ⟨b,c⟩,Aj ⟨by omega,by simp<;>omega⟩,Aj (by simp<;>omega),if_pos a,if_pos a];rfl
 ·rw[Ap a,Bh (by have:=Nz h;omega) (by have:=Nz h;omega),Aj ⟨by omega,by simp<;>omega⟩,Aj (by simp<;>omega),if_neg a,if_neg a];rfl
theorem Bbw{p r} (h:B7 p=true) (a:(p::r).length<=600):Vj ⟨p::r⟩=Aa (Cr p (Bl p),⟨Dc p (Bl p)::r⟩):=by unfold Vj;rw[Aj ⟨by omega,by simp<;>omega⟩];simp only[Avg,Amu h,Ad];rw[Awv h a (Gh h).1 (Hb _)];rfl
section
theorem J.skpL{f a b} (h:J f a b):J f (Go.Proofs.YtbbefmccoomfhaaGreatDoor.skp a) b:=⟨Ahs h.oa,h.ob,h.skp.la,h.lb,by rw[Wy];exact h.m⟩
theorem Cbq{f p r b} (h:J f (p::r) b) (c:Bl p≠0) (d:p.kind=f):tr f (p::r) b=(Aa (Cr p (Bl p)),Ab)::tr f (Dc p (Bl p)::r) b:=by
 have e:N2 f (skp (p::r)) (skp b)=Aa ((Aa (Cr p (Bl p)),Ab),Dc p (Bl p)::r,skp b):=by rw[Xl c];cases skp b<;>simp only[N2,if_pos d]
 rw[A1n h e,Ap1 rfl (U5 b)]
theorem Big{f q a t} (h:J f a (q::t)) (d:Bl q≠0) (c:q.kind=2) (i:∀p r,skp a=p::r->p.kind≠f):tr f a (q::t)=(Ab,Aa (Cr q (Bl q)))::tr f a (Dc q (Bl q)::t):=by
 have e:N2 f (skp a) (skp (q::t))=Aa ((Ab,Aa (Cr q (Bl q))),skp a,Dc q (Bl q)::t):=by
  rw[Xl d];cases g:skp a with
  |nil=>simp only[N2,if_pos c]
  |cons p r=>simp only[N2,if_neg (i p r g),if_pos c]
 rw[A1n h e,Ap1 (U5 a) rfl]
theorem Cbp{f p q r t} (h:J f (p::r) (q::t)) (d:Bl p≠0) (e:Bl q≠0) (g:p.kind≠f) (c:q.kind≠2){n} (i:n=min (Bl p) (Bl q)):
  tr f (p::r) (q::t)=(Aa (Cr p n),Aa (Cr q n))::tr f (Dc p n::r) (Dc q n::t):=by
 subst i;exact A1n h (by rw[Xl d,Xl e];simp only[N2,if_neg g,if_neg c])
theorem A1l{f a b} (c:skp a=[]) (d:skp b=[]):tr f a b=[]:=Cbr (by rw[c,d];rfl)
theorem A1m{f a b}:tr f (skp a) (skp b)=tr f a b:=Ap1 (U5 a) (U5 b)
theorem Cbs{f a b}:tr f (skp a) b=tr f a b:=Ap1 (U5 a) rfl
def Im:Em->List Ae
 |(Aa p,Aa q)=>if q.kind=1 then [p]else []
 |(Aa p,Ab)=>[p]
 |(Ab,Aa q)=>[⟨1,q.Bd.length,[]⟩]
 |(Ab,Ab)=>[]
def Io:Em->List Ae
 |(Aa p,Aa q)=>if p.kind=1 then [q]else []
 |(Aa p,Ab)=>[⟨1,p.Bd.length,[]⟩]
 |(Ab,Aa q)=>[q]
 |(Ab,Ab)=>[]
def M5 (a b:List Ae):List Ae:=(tr 2 a b).flatMap Im
def M6 (a b:List Ae):List Ae:=(tr 2 a b).flatMap Io
theorem Ap0{f a b} (h:J f a b):
  (skp a=[]/\skp b=[]/\tr f a b=[])\/
  (∃p r,skp a=p::r/\p.kind=f/\B7 p=true/\(p::r).length<=600/\J f (Dc p (Bl p)::r) b/\Cq (Dc p (Bl p)::r)+Cq b<Cq a+Cq b/\tr f a b=(Aa (Cr p (Bl p)),Ab)::tr f (Dc p (Bl p)::r) b)\/
  (∃q t,skp b=q::t/\q.kind=2/\B7 q=true/\(q::t).length<=600/\(skp a=[]\/∃p r,skp a=p::r/\p.kind≠f/\p.kind≠0)/\J f (skp a) (Dc q (Bl q)::t)/\Cq (skp a)+Cq (Dc q (Bl q)::t)<Cq a+Cq b/\tr f a b=(Ab,Aa (Cr q (Bl q)))::tr f (skp a) (Dc q (Bl q)::t))\/
  (∃p r q t n,skp a=p::r/\skp b=q::t/\p.kind≠f/\q.kind≠2/\B7 p=true/\B7 q=true/\(p::r).length<=600/\(q::t).length<=600/\min (Bl p) (Bl q)=n/\0<=n/\n<=Bl p/\n<=Bl q/\J f (Dc p n::r) (Dc q n::t)/\Cq (Dc p n::r)+Cq (Dc q n::t)<Cq a+Cq b/\tr f a b=(Aa (Cr p n),Aa (Cr q n))::tr f (Dc p n::r) (Dc q n::t)):=by
 have c:=h.skp;have z1:=Rf a;have w:=Rf b;cases j:skp a with
 |nil=>
  rw[j]at c z1;cases i:skp b with
  |nil=>exact .inl ⟨rfl,rfl,A1l j i⟩
  |cons q t=>rw[i]at c w;have u:=Xk i;have d:=c.no_left u;have ok:=M3 c.ob;have g:=c.right d;have z:=Gh ok;exact .inr (.inr (.inl ⟨q,t,rfl,d,ok,c.lb,.inl rfl,g.1,by omega,by rw[<-A1m,j,i,Big c u d (λp r m=>by cases m)]⟩))
 |cons p r=>
  rw[j]at c z1;have m:=Xk j;have k:=M3 c.oa;have B:=Gh k;by_cases d:p.kind=f
  ·have v:J f (p::r) b:=by have:=h.skpL;rw[j]at this;exact this
   have g:=v.left d;exact .inr (.inl ⟨p,r,rfl,d,k,c.la,g.1,by omega,by rw[<-Cbs,j,Cbq v m d]⟩)
  ·have A:p.kind≠0:=by rcases Hf k with⟨g1,_⟩|⟨g1,_⟩|⟨g1,_⟩<;>omega
   cases i:skp b with
   |nil=>rw[i]at c;exact absurd (c.no_right m) d
   |cons q t=>
    rw[i]at c w;have u:=Xk i;have l:=M3 c.ob;have z:=Gh l;by_cases e:q.kind=2
    ·have g:=c.right e;exact .inr (.inr (.inl ⟨q,t,rfl,e,l,c.lb,.inr ⟨p,r,rfl,d,A⟩,g.1,by omega,by rw[<-A1m,j,i,Big c u e (λC D s=>by rw[Xl m]at s;cases s;exact d)]⟩))
    ·have g:=c.both d e rfl;exact .inr (.inr (.inr ⟨p,r,q,t,_,rfl,rfl,d,e,k,l,c.la,c.lb,rfl,g.2.2.2.1,g.2.2.2.2.1,g.2.2.2.2.2,g.1,by omega,by rw[<-A1m,j,i,Cbp c m u d e rfl]⟩))
theorem Bcv{σ ρ f F} (A B:σ->List Ae) (P:σ->Prop) (G:σ->List Em->ρ)
  (i:∀s,P s->J f (A s) (B s)->
   (∃e s',F s=Aa (.go s')/\P s'/\J f (A s') (B s')/\Cq (A s')+Cq (B s')<Cq (A s)+Cq (B s)/\tr f (A s) (B s)=e::tr f (A s') (B s')/\∀l,G s (e::l)=G s' l)\/
   (F s=Aa (.out (G s []))/\tr f (A s) (B s)=[])) s (h:P s) (g:J f (A s) (B s)):Cp F s=Aa (G s (tr f (A s) (B s))):=
 Acp (f:=F) (λs=>P s/\J f (A s) (B s)) (λs=>(Cq (A s)+Cq (B s)).toNat) (λs=>G s (tr f (A s) (B s))) (λs c=>by
  rcases i s c.1 c.2 with⟨e,s',g1,g2,g3,g4,g5,d⟩|⟨g1,g2⟩
  ·have j:=Lw g3.oa;have k:=Lw g3.ob;exact .inl ⟨s',g1,⟨g2,g3⟩,by omega,by rw[g5,d]⟩
  ·exact .inr (by rw[g1,g2])) s ⟨h,g⟩
theorem Avh e:(Im e).length<=1:=by obtain⟨_|p,_|q⟩:=e<;>simp only[Im]<;>(try split)<;>simp
theorem Avi e:(Io e).length<=1:=by obtain⟨_|p,_|q⟩:=e<;>simp only[Io]<;>(try split)<;>simp
section
variable {a b r t:List Ae} {p q:Ae} {n:Int}
theorem Acr (h:B7 p=true):p.kind≠0:=by rcases Hf h with⟨g1,_⟩|⟨g1,_⟩|⟨g1,_⟩<;>omega
theorem Wo (h:oks a) (e:a.length<=600){c} (d:skp a=c):Ju ⟨a⟩=Aa (Ia c,⟨c⟩)/\Ju ⟨c⟩=Aa (Ia c,⟨c⟩):=by subst d;refine⟨Bbs h e,?_⟩;have:=Bbs (Ahs h) (by have:=Ape a;omega);rwa [U5]at this
variable {o:List Ae}
end
section
variable {x y:List Ae}
theorem Bzx{a b} (h:J 2 a b) (e:skp a=[]) (f:skp b=[]):S8 x y a b=Aa (.out (x,y)):=by have c:=(Wo h.oa h.la e).1;have d:=(Wo h.ob h.lb f).1;unfold S8;simp(disch:=first|assumption|omega|rfl) only[c,d,Ad,Ia,C2,Cg,A3,decide_true,A6]
theorem Bzy{a b r p} (h:J 2 a b) (ho:x.length<=1000000) (i:y.length<=1000000) (c:skp a=p::r) (g:p.kind=2) (ok:B7 p=true) (d:(p::r).length<=600):S8 x y a b=Aa (.go (x++[Cr p (Bl p)],y++[(⟨1,((Cr p (Bl p)).Bd.length:Int),[]⟩:Ae)],Dc p (Bl p)::r,b)):=by obtain⟨f,e⟩:=Wo h.oa h.la c;have w:=Bbw ok d;have j:=Acr ok;clear c d;unfold S8;simp(disch:=first|assumption|omega|rfl) only[f,e,w,g,Ad,Ia,C2,Ap,Cg,Aj,decide_true]
theorem Bzz{a b t q} (h:J 2 a b) (ho:x.length<=1000000) (l:y.length<=1000000) (i:skp b=q::t) (j:q.kind=2) (ok:B7 q=true) (k:(q::t).length<=600) (c:skp a=[]\/∃p r,skp a=p::r/\p.kind≠2/\p.kind≠0):S8 x y a b=Aa (.go (x++[(⟨1,((Cr q (Bl q)).Bd.length:Int),[]⟩:Ae)],y++[Cr q (Bl q)],skp a,Dc q (Bl q)::t)):=by
 obtain⟨g,f⟩:=Wo h.ob h.lb i;have w:=Bbw ok k;have m:=Acr ok;clear i k;unfold S8;rcases c with c|⟨p,r,c,g1,g2⟩
 ·obtain⟨e,d⟩:=Wo h.oa h.la c;rw[c];clear c;simp(disch:=first|assumption|omega|rfl) only[e,d,g,f,w,j,Ad,Ia,C2,Ap,Cg,Aj,decide_true]
 ·obtain⟨e,d⟩:=Wo h.oa h.la c;rw[c];clear c;simp(disch:=first|assumption|omega|rfl) only[e,d,g,f,w,j,g1,g2,Ad,Ia,C2,Cg,A3,Aj,decide_true,decide_false]
theorem Bzw{a b r t p q n} (h:J 2 a b) (ho:x.length<=1000000) (H:y.length<=1000000) (B:skp a=p::r) (C:skp b=q::t) (D:p.kind≠2) (g:q.kind≠2) (c:B7 p=true) (e:B7 q=true) (F:(p::r).length<=600) (i:(q::t).length<=600)
  (u:min (Bl p) (Bl q)=n) (f:0<=n) (z:n<=Bl p) (A:n<=Bl q):S8 x y a b=Aa (.go (x++Im (Aa (Cr p n),Aa (Cr q n)),y++Io (Aa (Cr p n),Aa (Cr q n)),Dc p n::r,Dc q n::t)):=by
 obtain⟨m,k⟩:=Wo h.oa h.la B;obtain⟨s,l⟩:=Wo h.ob h.lb C;have tp:=Awv (r:=r) c F f z;have w:=Awv (r:=t) e i f A;have v:=Amu c;have sq:=Amu e;have j:=(Gd c f z).2.1;have d:=(Gd e f A).2.1;have G:=Acr c;clear B C F i c e f z A h;unfold S8 Im Io;by_cases g1:q.kind=1
 ·by_cases g2:p.kind=1
  ·simp(disch:=first|assumption|omega|rfl) only[m,s,k,l,v,sq,tp,w,u,j,d,g1,g2,Ad,Ia,C2,Ap,Cg,Aj,decide_true,if_true]
  ·simp(disch:=first|assumption|omega|rfl) only[m,s,k,l,v,sq,tp,w,u,D,G,j,d,g1,g2,Hu,Ad,Ia,C2,Ap,Cg,A3,Aj,decide_true,decide_false,if_false,if_true]
 ·by_cases g2:p.kind=1
  ·simp(disch:=first|assumption|omega|rfl) only[m,s,k,l,v,sq,tp,w,u,g,j,d,g1,g2,Hu,Ad,Ia,C2,Ap,Cg,A3,Aj,decide_true,decide_false,if_false,if_true]
  ·simp(disch:=first|assumption|omega|rfl) only[m,s,k,l,v,sq,tp,w,u,D,g,G,j,d,g1,g2,Hu,Ad,Ia,C2,Cg,A3,Aj,decide_false,if_false]
end
theorem Bz0{a b} (h:J 2 a b) (c:Cq a+Cq b<=100000):Cp Ai0 ([],[],a,b)=Aa (M5 a b,M6 a b):=by
 have u:=Bcv (f:=2) (F:=Ai0) (λs=>s.2.2.1) (λs=>s.2.2.2) (λs=>(s.1.length:Int)+(Cq s.2.2.1+Cq s.2.2.2)<=100000/\(s.2.1.length:Int)+(Cq s.2.2.1+Cq s.2.2.2)<=100000) (λs l=>(s.1++l.flatMap Im,s.2.1++l.flatMap Io)) (λs C h=>by
  obtain⟨x,y,a,b⟩:=s;dsimp only at C h⊢;have I:=Lw h.oa;have K:=Lw h.ob;have ho:x.length<=1000000:=by omega
  have e:y.length<=1000000:=by omega
  rcases Ap0 h with⟨d,i,g⟩|⟨p,r,d,j,ok,c,g1,g2,g⟩|⟨q,t,i,j,ok,c,d,g1,g2,g⟩|⟨p,r,q,t,n,d,i,j,k,v,w,c,m,G,z,A,B,g1,g2,g⟩
  ·exact .inr ⟨by unfold Ai0;rw[Bzx h d i];simp,g⟩
  ·exact .inl ⟨_,(x++[Cr p (Bl p)],y++[(⟨1,((Cr p (Bl p)).Bd.length:Int),[]⟩:Ae)],Dc p (Bl p)::r,b),Bzy h ho e d j ok c,⟨by simp only[Bt,B5,C0];omega,by simp only[Bt,B5,C0];omega⟩,g1,g2,g,λl=>by simp[Im,Io]⟩
  ·exact .inl ⟨_,(x++[(⟨1,((Cr q (Bl q)).Bd.length:Int),[]⟩:Ae)],y++[Cr q (Bl q)],skp a,Dc q (Bl q)::t),Bzz h ho e i j ok c d,⟨by simp only[Bt,B5,C0];omega,by simp only[Bt,B5,C0];omega⟩,g1,g2,g,λl=>by simp[Im,Io]⟩
  ·have H:=Avh (Aa (Cr p n),Aa (Cr q n));have D:=Avi (Aa (Cr p n),Aa (Cr q n));exact .inl ⟨_,(x++Im (Aa (Cr p n),Aa (Cr q n)),y++Io (Aa (Cr p n),Aa (Cr q n)),Dc p n::r,Dc q n::t),Bzw h ho e d i j k v w c m G z A B,⟨by simp only[Bt];omega,by simp only[Bt];omega⟩,g1,g2,g,λl=>by simp⟩) ([],[],a,b) ⟨by simpa using c,by simpa using c⟩ h
 simpa [M5,M6]using u
theorem Bih{f} (Q:Em->Prop) (A:∀p,B7 p=true->Q (Aa p,Ab)) (B:∀p,B7 p=true->Q (Ab,Aa p)) (C:∀p q,B7 p=true->B7 q=true->Q (Aa p,Aa q)):
  ∀(n:Nat) {a b:List Ae},J f a b->Cq a+Cq b<=n->(∀e∈tr f a b,Q e)/\(tr f a b).length<=n:=by
 intro n;induction n with
 |zero=>intro a b h G;have I:=Lw h.oa;have K:=Lw h.ob;rw[A1l (Vv h.oa (by omega)) (Vv h.ob (by omega))];exact⟨λe c=>(by cases c),by simp⟩
 |succ n j=>
  intro a b h G;rcases Ap0 h with⟨i,s,d⟩|⟨p,r,i,u,ok,v,g1,g2,d⟩|⟨q,t,s,u,ok,v,i,g1,g2,d⟩|⟨p,r,q,t,n,i,s,u,D,k,l,v,F,H,m,w,z,g1,g2,d⟩<;>rw[d]
  ·exact⟨λe c=>(by cases c),by simp⟩
  ·have g:=j g1 (by omega);refine⟨λe c=>?_,by simp only[B5];omega⟩;rcases Bq.1 c with rfl|c
   ·exact A _ (Gd ok (Gh ok).1 (Hb _)).1
   ·exact g.1 e c
  ·have g:=j g1 (by omega);refine⟨λe c=>?_,by simp only[B5];omega⟩;rcases Bq.1 c with rfl|c
   ·exact B _ (Gd ok (Gh ok).1 (Hb _)).1
   ·exact g.1 e c
  ·have g:=j g1 (by omega);refine⟨λe c=>?_,by simp only[B5];omega⟩;rcases Bq.1 c with rfl|c
   ·exact C _ _ (Gd k m w).1 (Gd l m z).1
   ·exact g.1 e c
theorem Bas{g} {l:List Em} (f:∀e∈l,∀p∈g e,B7 p=true) (i:∀e,(g e).length<=1):(∀p∈l.flatMap g,B7 p=true)/\(l.flatMap g).length<=l.length:=by
 refine⟨λp d=>?_,?_⟩
 ·obtain⟨e,j,d⟩:=Ye.1 d;exact f e j p d
 ·induction l with
  |nil=>simp
  |cons e l k=>have:=k (λh c=>f h (by simp[c]));have:=i e;simp only[F4,Bt,B5];omega
theorem An1{p} (h:B7 p=true):B7 ⟨1,p.Bd.length,[]⟩=true:=Ags (.inl rfl) (by omega) (by have:=Nz h;omega)
theorem Azj{a b} (h:J 2 a b) (i:Cq a+Cq b<=100000):(∀p∈M5 a b,B7 p=true)/\(M5 a b).length<=100000:=by
 have g:=Bih (f:=2) (λe=>∀p∈Im e,B7 p=true) (λp d q c=>by simp only[Im,Eo]at c;subst c;exact d) (λp d q c=>by simp only[Im,Eo]at c;subst c;exact An1 d)
  (λp q d c x hx=>by
   simp only[Im]at hx;split at hx
   ·simp only[Eo]at hx;subst hx;exact d
   ·cases hx) 100000 h (by omega)
 have k:=Bas g.1 Avh;exact⟨k.1,by unfold M5;omega⟩
theorem Aon{a b} (h:J 2 a b) (i:Cq a+Cq b<=100000):(∀p∈M6 a b,B7 p=true)/\(M6 a b).length<=100000:=by
 have g:=Bih (f:=2) (λe=>∀p∈Io e,B7 p=true) (λp d q c=>by simp only[Io,Eo]at c;subst c;exact An1 d) (λp d q c=>by simp only[Io,Eo]at c;subst c;exact d)
  (λp q d c x hx=>by
   simp only[Io]at hx;split at hx
   ·simp only[Eo]at hx;subst hx;exact c
   ·cases hx) 100000 h (by omega)
 have k:=Bas g.1 Avi;exact⟨k.1,by unfold M6;omega⟩
def Qv (a b:List Ae):List Ae:=Co (M5 a b)
def Mz (a b:List Ae):List Ae:=Co (M6 a b)
theorem Bdj{o} (h:Ca o=true):oks o/\o.length<=600/\Cq o<=600:=by have c:=Hp h;have f:=Bdi h;have d:oks o:=λp e=>J9 c e;exact⟨d,Ps c,by rw[Ca1 d];omega⟩
theorem J2{a b} (e:Ca a=true) (f:Ca b=true) (h:Dl a=Dl b):J 2 a b/\Cq a+Cq b<=100000:=by have c:=Bdj e;have d:=Bdj f;exact⟨⟨c.1,d.1,c.2.1,d.2.1,by rw[Anr c.1,Anr d.1,h]⟩,by omega⟩
def Pn (a b:List Ae):List Ae×List Ae×Bool:=if Ca a=true/\Ca b=true/\Dl a=Dl b/\Ca (Qv a b)=true/\Ca (Mz a b)=true then(Qv a b,Mz a b,true)else([],[],false)
theorem Bza a b:Aax a b=Aa (Pn a b):=by
 unfold Aax Pn;simp only[Se,Amr,Ad];cases h:Ca a with
 |false=>simp
 |true=>
  cases i:Ca b with
  |false=>simp
  |true=>
   simp only[Hp h,Hp i,if_true,A6,A3,Ad];by_cases c:Dl a=Dl b
   ·obtain⟨j,d⟩:=J2 h i c;have g:=Azj j d;have k:=Aon j d;rw[decide_eq_true c,A6,A3,Bz0 j d,Ad,Awr (λp e=>Ut (g.1 p e)) (by omega),Ad,Awr (λp e=>Ut (k.1 p e)) (by omega),Ad];show(Ac (bif !Ca (Qv a b)then _ else Aa (!Ca (Mz a b))) λf=>_)=_;cases l:Ca (Qv a b)with
    |false=>simp
    |true=>
     cases m:Ca (Mz a b)with
     |false=>simp
     |true=>simp[c];exact⟨rfl,rfl⟩
   ·rw[decide_eq_false c];simp[c]
theorem Alf{p n} (ok:B7 p=true) (e:p.kind=2) (c:0<=n) (d:n<=Bl p):((Cr p n).Bd.length:Int)=n:=by have g:=Gd ok c d;have g2:=g.2.2.1;unfold Bl at g2;rcases Hf g.1 with⟨g1,_⟩|⟨_,g3,_⟩|⟨g1,_⟩<;>omega
end
def Dt (c:H4):List Ae:=if c.at_<c.o.length then Dc (el c.o c.at_.toNat) c.done::c.o.drop (c.at_.toNat+1)else []
structure CI (c:H4):Prop where
 ok:oks c.o
 len:c.o.length<=600
 a0:0<=c.at_
 a1:c.at_<=c.o.length
 d0:0<=c.done
 d1:c.done<=200
 d2:c.at_<c.o.length->c.done<=Bl (el c.o c.at_.toNat)
theorem B3h p:Dc p 0=p:=by obtain⟨k,n,s⟩:=p;unfold Dc;simp
theorem Azn o k (h:0<=k):Dt ⟨o,k,0⟩=o.drop k.toNat:=by
 unfold Dt;dsimp only;by_cases a:k<o.length
 ·rw[if_pos a,B3h,<-Afu (by omega)]
 ·rw[if_neg a,As8 (by omega)]
theorem CI.el {c:H4} (h:CI c) (a:c.at_<c.o.length):B7 (el c.o c.at_.toNat)=true:=h.ok _ (Cj (by have:=h.a0;omega))
theorem A0c{p} (h:B7 p=true):Aj6 p=Aa (Bl p):=by
 unfold Aj6 Bl;rcases Hf h with⟨g1,g2,g3,g4⟩|⟨g1,g2,g3,g4⟩|⟨g1,g2,g3,g4⟩
 ·rw[Ap (by omega),g4];simp
 ·rw[Av g1,g2];simp
 ·rw[Ap (by omega),g4];simp
theorem CI.oks{c} (h:CI c):Go.Proofs.YtbbefmccoomfhaaGreatDoor.oks (Dt c):=by
 unfold Dt;split
 ·rename_i a;exact Agt (Gd (h.el a) h.d0 (h.d2 a)).2.2.2.1 (λp b=>h.ok p (Kj b))
 ·exact B2i
theorem B6f{c} (h:CI c):∃c',I2 c=Aa ((Ia (skp (Dt c))).kind,c')/\CI c'/\c'.o=c.o/\Dt c'=skp (Dt c):=by
 obtain⟨r,y,b⟩:=Kt (f:=Aj5) (λs=>s.1=c.o/\CI ⟨c.o,s.2.1,s.2.2⟩/\skp (Dt ⟨c.o,s.2.1,s.2.2⟩)=skp (Dt c)) (λs=>((c.o.length:Int)-s.2.1).toNat) (λr=>r.1=c.o/\CI ⟨c.o,r.2.1,r.2.2⟩/\Dt ⟨c.o,r.2.1,r.2.2⟩=skp (Dt c)) (λs z=>by
  obtain⟨q,k,d⟩:=s;obtain⟨t,g,e⟩:=z;obtain rfl:q=c.o:=t;dsimp only at g e⊢;have j:=g.a0;have p:=g.a1;have x:=g.len;dsimp only at j p x;unfold Aj5 A43;dsimp only;by_cases a:k<c.o.length
  ·have ok:=g.el a;have n:=g.d2 a;have m:=g.d0;dsimp only at ok n m;have sz:=(Gd ok m n).2.2.2.2.2;rw[Av a,Aj ⟨j,a⟩,A0c ok,Ad,Ad];by_cases w:d=Bl (el c.o k.toNat)
   ·refine .inl ⟨(c.o,k+1,0),?_,⟨rfl,⟨g.ok,x,by dsimp only;omega,by dsimp only;omega,by dsimp only;omega,by dsimp only;omega,λv=>?_⟩,?_⟩,?_⟩
    ·rw[Av w,Bh (by omega) (by omega)]
    ·dsimp only at v⊢;exact(Gh (g.ok _ (Cj (l:=c.o) (by omega)))).1
    ·rw[<-e];show skp (Dt ⟨c.o,k+1,0⟩)=_;rw[Azn _ _ (by omega)];unfold Dt;dsimp only;rw[if_pos a,A0p (by omega),show(k+1).toNat=k.toNat+1 by omega]
    ·dsimp only;omega
   ·refine .inr ⟨(c.o,k,d),by rw[Ap w],rfl,g,?_⟩;rw[<-e];unfold Dt;dsimp only;rw[if_pos a,Xl (by omega)]
  ·refine .inr ⟨(c.o,k,d),by rw[Ap a];rfl,rfl,g,?_⟩;rw[<-e];unfold Dt;dsimp only;rw[if_neg a];rfl) (c.o,c.at_,c.done) ⟨rfl,h,rfl⟩
 obtain⟨q,k,d⟩:=r;obtain⟨t,b,u⟩:=b;obtain rfl:q=c.o:=t;dsimp only at b u;refine⟨⟨c.o,k,d⟩,?_,b,rfl,u⟩;have j:=b.a0;have p:=b.a1;dsimp only at j p;unfold I2;rw[y,Ad,<-u];by_cases a:k=c.o.length
 ·rw[Av a];unfold Dt;dsimp only;rw[if_neg (by omega)];rfl
 ·have i:k<c.o.length:=by omega
  have ok:=b.el i;have n:=b.d2 i;have m:=b.d0;dsimp only at ok n m;rw[Ap a,Aj ⟨j,i⟩];unfold Dt;dsimp only;rw[if_pos i];simp only[Ia,(Gd ok m n).2.2.2.2.1]
theorem Azo{c p r} (h:Dt c=p::r):c.at_<c.o.length/\p=Dc (el c.o c.at_.toNat) c.done/\r=c.o.drop (c.at_.toNat+1):=by
 unfold Dt at h;split at h
 ·rename_i a;simp only[List.cons.injEq]at h;exact⟨a,h.1.symm,h.2.symm⟩
 ·cases h
theorem Ao0{c p r} (h:CI c) (d:Dt c=p::r):Ng c=Aa (Bl p,c):=by obtain⟨a,rfl,_⟩:=Azo d;have ok:=h.el a;have b:=Gh ok;have:=h.d0;have:=h.d1;unfold Ng;rw[Aj ⟨h.a0,a⟩,A0c ok,Ad,Bh (by omega) (by omega),(Gd ok h.d0 (h.d2 a)).2.2.2.2.2]
def Ji (c:H4) (n:Int):H4:=⟨c.o,c.at_,c.done+n⟩
theorem B3i{p d n} (b:0<=d) (c:0<=n):Dc p (d+n)=Dc (Dc p d) n:=by
 unfold Dc;by_cases a:p.kind=2
 ·simp only[if_pos a,Hd,Mq];rw[show(d+n).toNat=d.toNat+n.toNat by omega]
 ·simp only[if_neg a];rw[show p.n-(d+n)=p.n-d-n by omega]
theorem Ak0{c p r n} (h:CI c) (f:Dt c=p::r) (d:0<=n) (e:n<=Bl p):CI (Ji c n)/\Dt (Ji c n)=Dc p n::r:=by obtain⟨a,rfl,rfl⟩:=Azo f;have ok:=h.el a;have b:=Gh ok;have:=h.d0;have:=h.d1;rw[(Gd ok h.d0 (h.d2 a)).2.2.2.2.2]at e;refine⟨⟨h.ok,h.len,h.a0,h.a1,by unfold Ji;dsimp only;omega,by unfold Ji;dsimp only;omega,λ_=>by unfold Ji;dsimp only;omega⟩,?_⟩;unfold Dt Ji;dsimp only;rw[if_pos a,B3i h.d0 d]
theorem Bgi{c p r n} (h:CI c) (i:Dt c=p::r) (e:0<=n) (f:n<=Bl p) (a:p.kind=2):Vs c n=Aa ((Cr p n).Bd,Ji c n):=by
 obtain⟨d,rfl,rfl⟩:=Azo i;have ok:=h.el d;have b:=Gh ok;have:=h.d0;have:=h.d1;have g:=Gd ok h.d0 (h.d2 d);rw[g.2.2.2.2.2]at f;rw[g.2.2.2.2.1]at a;have j:Bl (el c.o c.at_.toNat)=(el c.o c.at_.toNat).Bd.length:=by unfold Bl;rcases Hf ok with⟨g1,_⟩|⟨_,g2,_⟩|⟨g1,_⟩<;>omega
 unfold Vs;rw[Aj ⟨h.a0,d⟩,Bh (by omega) (by omega),Aj ⟨by omega,by omega,by omega⟩,Bh (by omega) (by omega)];unfold Ji Cr Dc;simp only[if_pos a,Hd,Nh];rw[<-A1i h.d0 e]
theorem B6k x y:Aeo x y=Aa (min x y):=by
 unfold Aeo;by_cases h:x<y
 ·rw[Av h];congr 1;omega
 ·rw[Ap h];congr 1;omega
theorem A7b{b p} (h:p.kind=2):Cn b p=Pf b p.Bd:=if_pos h
theorem A7a{b p} (h:p.kind=3):Cn b p=Pe b p.n:=by unfold Cn;rw[if_neg (by omega),if_pos h]
theorem Ak3{b p} (h:p.kind=1):Cn b p=H6 b p.n:=by unfold Cn;rw[if_neg (by omega),if_neg (by omega)]
theorem A74{p n} (h:p.kind≠2):(Cr p n).n=n:=by unfold Cr;rw[if_neg h]
theorem B6g{c} (h:CI c) (g:skp (Dt c)=Dt c):I2 c=Aa ((Ia (Dt c)).kind,c):=by
 obtain⟨r,l,m⟩:=Kt (f:=Aj5) (λs=>s=(c.o,c.at_,c.done)) (λ_=>0) (λr=>r=(c.o,c.at_,c.done)) (λs n=>by
  subst n;refine .inr ⟨_,?_,rfl⟩;have d:=h.a0;have i:=h.a1;have j:=h.d0;unfold Aj5 A43;dsimp only;by_cases a:c.at_<c.o.length
  ·have ok:=h.el a;have k:=h.d2 a;have sz:=(Gd ok j k).2.2.2.2.2;have e:Dt c=Dc (el c.o c.at_.toNat) c.done::c.o.drop (c.at_.toNat+1):=by unfold Dt;rw[if_pos a]
   rw[e]at g;have:=Xk g;rw[Av a,Aj ⟨d,a⟩,A0c ok,Ad,Ad,Ap (by omega)]
  ·rw[Ap a];rfl) (c.o,c.at_,c.done) rfl
 subst m;have d:=h.a0;have i:=h.a1;unfold I2;rw[l,Ad];unfold Dt;by_cases a:c.at_=c.o.length
 ·rw[Av a,if_neg (by omega)];rfl
 ·have b:c.at_<c.o.length:=by omega
  rw[Ap a,Aj ⟨d,b⟩,if_pos b];simp only[Ia,(Gd (h.el b) h.d0 (h.d2 b)).2.2.2.2.1]
def Ld (b d:Cw):List Ae×List Int×Int×List Ae×List Int×Int:=(b.list,b.put,b.drop,d.list,d.put,d.drop)
theorem Xi{o k e} (h:CI ⟨o,k,e⟩){A} (f:skp (Dt ⟨o,k,e⟩)=A):∃b k' a,CI ⟨b,k',a⟩/\Dt ⟨b,k',a⟩=A/\I2 ⟨o,k,e⟩=Aa ((Ia A).kind,⟨b,k',a⟩)/\I2 ⟨b,k',a⟩=Aa ((Ia A).kind,⟨b,k',a⟩):=by subst f;obtain⟨⟨b,k',a⟩,g,d,i,c⟩:=B6f h;exact⟨b,k',a,d,c,g,by rw[<-c];exact B6g d (by rw[c];exact U5 _)⟩
theorem A6x{o k e n} (h:CI (Ji ⟨o,k,e⟩ n)):0<=e+n/\e+n<=200:=⟨h.d0,h.d1⟩
theorem A73{p n} (ok:B7 p=true) (a:0<=n) (b:n<=Bl p):(Cr p n).Bd.length<=1000000:=by have:=Nz (Gd ok a b).1;omega
theorem nbd{p n} (ok:B7 p=true) (a:n<=Bl p):n<=1000000:=by have:=Gh ok;omega
theorem okf {l:List Ae} (h:∀p∈l,B7 p=true):∀p∈l,Y8 p:=λp a=>Ut (h p a)
section
section
variable {o1 o2 r t L L':List Ae} {k1 e1 k2 e2 D D' n:Int} {P P':List Int} {p q:Ae} {m m':Nat}
theorem B7o (a:CI ⟨o1,k1,e1⟩) (b:CI ⟨o2,k2,e2⟩) (c:skp (Dt ⟨o1,k1,e1⟩)=[]) (d:skp (Dt ⟨o2,k2,e2⟩)=[]):Ti o1 k1 e1 o2 k2 e2 L P D L' P' D'=Aa (.out (L,P,D,L',P',D')):=by obtain⟨j,k',g,k,l,e,o⟩:=Xi a c;obtain⟨s,i,h,u,v,f,w⟩:=Xi b d;unfold Ti;simp(disch:=first|assumption|omega|rfl) only[e,f,Ad,Ia,C2,Cg,A3,decide_true,A6]
theorem B7p (i:CI ⟨o1,k1,e1⟩) (l:He ⟨L,P,D⟩ m) (s:m<1000000) (e:He ⟨L',P',D'⟩ m') (f:m'<1000000) (j:skp (Dt ⟨o1,k1,e1⟩)=p::r) (b:p.kind=2) (ok:B7 p=true):
  ∃c,Ti o1 k1 e1 o2 k2 e2 L P D L' P' D'=Aa (.go (c.o,c.at_,c.done,o2,k2,e2,Ld (Cn ⟨L,P,D⟩ (Cr p (Bl p))) (Cn ⟨L',P',D'⟩ ⟨1,((Cr p (Bl p)).Bd.length:Int),[]⟩)))/\CI c/\Dt c=Dc p (Bl p)::r:=by
 obtain⟨u,k',k,h,d,v,x⟩:=Xi i j;have y:=Ao0 h d;have a:=Gh ok;have g:=Ak0 h d a.1 (Hb _);have z:=Bgi h d a.1 (Hb _) b;refine⟨Ji ⟨u,k',k⟩ (Bl p),?_,g.1,g.2⟩;have w:=Az9 l s (A73 ok a.1 (Hb _));have w':=Ahj (n:=Bl p) e f a.1 (by omega);have A:=Acr ok;rw[A7b (by rw[(Gd ok a.1 (Hb _)).2.1];exact b),Ak3 rfl,Alf ok b a.1 (Hb _)];clear j i d ok;unfold Ti;simp(disch:=first|assumption|omega|rfl) only[v,x,y,z,w,w',b,Ji,Ld,Ad,Ia,C2,Ap,Cg,A3,decide_true]
theorem B7q (h:CI ⟨o1,k1,e1⟩) (z:CI ⟨o2,k2,e2⟩) (M:He ⟨L,P,D⟩ m) (N:m<1000000) (k:He ⟨L',P',D'⟩ m') (l:m'<1000000) (A:skp (Dt ⟨o2,k2,e2⟩)=q::t) (e:q.kind=2) (ok:B7 q=true)
  (a:skp (Dt ⟨o1,k1,e1⟩)=[]\/∃p r,skp (Dt ⟨o1,k1,e1⟩)=p::r/\p.kind≠2/\p.kind≠0):
  ∃c d,Ti o1 k1 e1 o2 k2 e2 L P D L' P' D'=Aa (.go (c.o,c.at_,c.done,d.o,d.at_,d.done,Ld (Cn ⟨L,P,D⟩ ⟨1,((Cr q (Bl q)).Bd.length:Int),[]⟩) (Cn ⟨L',P',D'⟩ (Cr q (Bl q)))))/\CI c/\CI d/\Dt c=skp (Dt ⟨o1,k1,e1⟩)/\Dt d=Dc q (Bl q)::t:=by
 obtain⟨F,C,B,y,i,G,H⟩:=Xi z A;have I:=Ao0 y i;have b:=Gh ok;have g:=Ak0 y i b.1 (Hb _);have K:=Bgi y i b.1 (Hb _) e;have w:=Az9 k l (A73 ok b.1 (Hb _));have w':=Ahj (n:=Bl q) M N b.1 (by omega);have O:=Acr ok;rw[A7b (p:=Cr q (Bl q)) (by rw[(Gd ok b.1 (Hb _)).2.1];exact e),Ak3 rfl,Alf ok e b.1 (Hb _)];clear A z i ok;unfold Ti;rcases a with a|⟨p,r,a,g1,g2⟩
 ·obtain⟨s,k',j,u,f,v,x⟩:=Xi h a;refine⟨⟨s,k',j⟩,Ji ⟨F,C,B⟩ (Bl q),?_,u,g.1,by rw[a];exact f,g.2⟩;clear a h f;simp(disch:=first|assumption|omega|rfl) only[v,x,G,H,I,K,w,w',e,Ji,Ld,Ad,Ia,C2,Ap,Cg,decide_true]
 ·obtain⟨s,k',j,u,f,v,x⟩:=Xi h a;refine⟨⟨s,k',j⟩,Ji ⟨F,C,B⟩ (Bl q),?_,u,g.1,by rw[a];exact f,g.2⟩;clear a h f;simp(disch:=first|assumption|omega|rfl) only[v,x,G,H,I,K,w,w',e,g1,g2,Ji,Ld,Ad,Ia,C2,Ap,Cg,A3,decide_true,decide_false]
theorem B7n (V:CI ⟨o1,k1,e1⟩) (W:CI ⟨o2,k2,e2⟩) (K:He ⟨L,P,D⟩ m) (hm:m<1000000) (f:He ⟨L',P',D'⟩ m') (v:m'<1000000) (X:skp (Dt ⟨o1,k1,e1⟩)=p::r) (Y:skp (Dt ⟨o2,k2,e2⟩)=q::t) (M:p.kind≠2) (i:q.kind≠2) (a:B7 p=true) (j:B7 q=true)
  (hn:min (Bl p) (Bl q)=n) (e:0<=n) (N:n<=Bl p) (n2:n<=Bl q):
  ∃c d,Ti o1 k1 e1 o2 k2 e2 L P D L' P' D'=Aa (.go (c.o,c.at_,c.done,d.o,d.at_,d.done,Ld ((Im (Aa (Cr p n),Aa (Cr q n))).foldl Cn ⟨L,P,D⟩) ((Io (Aa (Cr p n),Aa (Cr q n))).foldl Cn ⟨L',P',D'⟩)))/\CI c/\CI d/\Dt c=Dc p n::r/\Dt d=Dc q n::t:=by
 obtain⟨o',k',e',q1,O,A,B⟩:=Xi V X;obtain⟨u',j',i',y1,S,F,G⟩:=Xi W Y;have C:=Ao0 q1 O;have H:=Ao0 y1 S;have g:=Ak0 q1 O e N;have I:=Ak0 y1 S e n2;have g1:=A6x g.1;have g2:=A6x I.1;have kp:=Acr a;have x:=(Gd a e N).2.1;have y:=(Gd j e n2).2.1;refine⟨Ji ⟨o',k',e'⟩ n,Ji ⟨u',j',i'⟩ n,?_,g.1,I.1,g.2,I.2⟩;have z:=nbd a N;have wk:=Ahj (n:=n) K hm e z;have wd:=Az2 (n:=n) K hm e z;have R:=Ahj (n:=n) f v e z;have Q:=Az2 (n:=n) f v e z;have w:=B6k (Bl p) (Bl q);rw[hn]at w;have pk:=Hf a;have qk:=Hf j;have U:=A74 (n:=n) M;have T:=A74 (n:=n) i;have P3:p.kind≠1->p.kind=3:=λh=>by rcases pk with⟨g1,_⟩|⟨g1,_⟩|⟨g1,_⟩<;>omega
 have Q3:q.kind≠1->q.kind=3:=λh=>by rcases qk with⟨g1,_⟩|⟨g1,_⟩|⟨g1,_⟩<;>omega
 clear pk qk a j X Y V W O S K f;unfold Ti Im Io;by_cases l:p.kind=1
 ·by_cases k:q.kind=1
  ·have s:=Ak3 (b:=⟨L,P,D⟩) (p:=Cr p n) (by omega);have u:=Ak3 (b:=⟨L',P',D'⟩) (p:=Cr q n) (by omega);rw[U]at s;rw[T]at u;simp(disch:=first|assumption|omega|rfl) only[A,B,F,G,C,H,w,wk,R,x,y,k,l,Fx,Tq,s,u,Ji,Ld,Ad,Ia,C2,Ap,Cg,Bh,decide_true,if_true]
  ·have b5:=Q3 k;have u:=A7a (b:=⟨L',P',D'⟩) (p:=Cr q n) (by omega);rw[T]at u;simp(disch:=first|assumption|omega|rfl) only[A,B,F,G,C,H,w,Q,i,x,y,k,l,Fx,Tq,u,Ji,Ld,Ad,Ia,C2,Ap,Cg,A3,Bh,decide_true,decide_false,if_false,if_true]
 ·have b4:=P3 l;by_cases k:q.kind=1
  ·have s:=A7a (b:=⟨L,P,D⟩) (p:=Cr p n) (by omega);rw[U]at s;simp(disch:=first|assumption|omega|rfl) only[A,B,F,G,C,H,w,wd,M,kp,x,y,k,l,Fx,Tq,s,Ji,Ld,Ad,Ia,C2,Ap,Cg,A3,Bh,decide_true,decide_false,if_false,if_true]
  ·simp(disch:=first|assumption|omega|rfl) only[A,B,F,G,C,H,w,M,i,kp,x,y,k,l,Tq,Ji,Ld,Ad,Ia,C2,Cg,A3,Bh,decide_false,if_false]
end
theorem Bw3{p q} (a:B7 p=true):∀x∈Im (Aa p,Aa q),B7 x=true:=λx hx=>by
 simp only[Im]at hx;split at hx
 ·simp only[Eo]at hx;subst hx;exact a
 ·cases hx
theorem Bw4{p q} (a:B7 q=true):∀x∈Io (Aa p,Aa q),B7 x=true:=λx hx=>by
 simp only[Io]at hx;split at hx
 ·simp only[Eo]at hx;subst hx;exact a
 ·cases hx
theorem B7r{a b} (h:J 2 a b) (W:Cq a+Cq b<=100000):Cp Ajy (a,0,0,b,0,0,[],[],0,[],[],0)=Aa (Ld ((M5 a b).foldl Cn bNil) ((M6 a b).foldl Cn bNil)):=by
 have ca:CI ⟨a,0,0⟩:=⟨h.oa,h.la,by simp,by simp,by simp,by simp,λg=>(Gh (h.oa _ (Cj (l:=a) (by simpa using g)))).1⟩;have cb:CI ⟨b,0,0⟩:=⟨h.ob,h.lb,by simp,by simp,by simp,by simp,λg=>(Gh (h.ob _ (Cj (l:=b) (by simpa using g)))).1⟩;have N:Dt ⟨a,0,0⟩=a:=by rw[Azn _ _ (by omega)];rfl
 have O:Dt ⟨b,0,0⟩=b:=by rw[Azn _ _ (by omega)];rfl
 have o:=Bcv (f:=2) (F:=Ajy) (λs=>Dt ⟨s.1,s.2.1,s.2.2.1⟩) (λs=>Dt ⟨s.2.2.2.1,s.2.2.2.2.1,s.2.2.2.2.2.1⟩)
  (λs=>CI ⟨s.1,s.2.1,s.2.2.1⟩/\CI ⟨s.2.2.2.1,s.2.2.2.2.1,s.2.2.2.2.2.1⟩/\(∃m:Nat,He ⟨s.2.2.2.2.2.2.1,s.2.2.2.2.2.2.2.1,s.2.2.2.2.2.2.2.2.1⟩ m/\(m:Int)+(Cq (Dt ⟨s.1,s.2.1,s.2.2.1⟩)+Cq (Dt ⟨s.2.2.2.1,s.2.2.2.2.1,s.2.2.2.2.2.1⟩))<=100000)/\
   ∃m:Nat,He ⟨s.2.2.2.2.2.2.2.2.2.1,s.2.2.2.2.2.2.2.2.2.2.1,s.2.2.2.2.2.2.2.2.2.2.2⟩ m/\(m:Int)+(Cq (Dt ⟨s.1,s.2.1,s.2.2.1⟩)+Cq (Dt ⟨s.2.2.2.1,s.2.2.2.2.1,s.2.2.2.2.2.1⟩))<=100000)
  (λs l=>Ld ((l.flatMap Im).foldl Cn ⟨s.2.2.2.2.2.2.1,s.2.2.2.2.2.2.2.1,s.2.2.2.2.2.2.2.2.1⟩) ((l.flatMap Io).foldl Cn ⟨s.2.2.2.2.2.2.2.2.2.1,s.2.2.2.2.2.2.2.2.2.2.1,s.2.2.2.2.2.2.2.2.2.2.2⟩)) (λs hP h=>by
  obtain⟨o1,k1,e1,o2,k2,e2,L,P,D,L',P',D'⟩:=s;dsimp only at hP h⊢;obtain⟨Q,R,⟨m,u,hm⟩,m',c,a5⟩:=hP;have n1:=Lw h.oa;have n2:=Lw h.ob;have X:m<1000000:=by omega
  have k:m'<1000000:=by omega
  rcases Ap0 h with⟨j,A,e⟩|⟨p,r,j,g,ok,W,g1,g2,e⟩|⟨q,t,A,g,ok,W,j,g1,g2,e⟩|⟨p,r,q,t,n,j,A,g,V,B,C,W,a4,hn,U,y,z,g1,g2,e⟩
  ·exact .inr ⟨by unfold Ajy;rw[B7o Q R j A];rfl,e⟩
  ·obtain⟨⟨x,w,v⟩,G,H,I⟩:=B7p (o2:=o2) (k2:=k2) (e2:=e2) Q u X c k j g ok;have d:=(Gd ok (Gh ok).1 (Hb _)).1;have K:=Ym u (Ut d);have M:=Ym c (Ut (An1 d));rw[<-I]at g1 g2 e;exact .inl ⟨_,(x,w,v,o2,k2,e2,Ld (Cn ⟨L,P,D⟩ (Cr p (Bl p))) (Cn ⟨L',P',D'⟩ ⟨1,((Cr p (Bl p)).Bd.length:Int),[]⟩)),G,⟨H,R,⟨m+1,K,by dsimp only;omega⟩,m'+1,M,by dsimp only;omega⟩,g1,g2,e,λl=>by simp[Im,Io,Ld]⟩
  ·obtain⟨⟨x,w,v⟩,⟨i,T,S⟩,G,H,I,K,M⟩:=B7q Q R u X c k A g ok j;have d:=(Gd ok (Gh ok).1 (Hb _)).1;have Y:=Ym u (Ut (An1 d));have w7:=Ym c (Ut d);rw[<-K,<-M]at g1 g2 e;exact .inl ⟨_,(x,w,v,i,T,S,Ld (Cn ⟨L,P,D⟩ ⟨1,((Cr q (Bl q)).Bd.length:Int),[]⟩) (Cn ⟨L',P',D'⟩ (Cr q (Bl q)))),G,⟨H,I,⟨m+1,Y,by dsimp only;omega⟩,m'+1,w7,by dsimp only;omega⟩,g1,g2,e,λl=>by simp[Im,Io,Ld]⟩
  ·obtain⟨⟨x,w,v⟩,⟨i,T,S⟩,G,H,I,K,M⟩:=B7n Q R u X c k j A g V B C hn U y z;have Y:=Abt (okf (Bw3 (q:=Cr q n) (Gd B U y).1)) u;have w7:=Avh (Aa (Cr p n),Aa (Cr q n));have w8:=Abt (okf (Bw4 (p:=Cr p n) (Gd C U z).1)) c;have w9:=Avi (Aa (Cr p n),Aa (Cr q n));rw[<-K,<-M]at g1 g2 e;exact .inl ⟨_,(x,w,v,i,T,S,Ld ((Im (Aa (Cr p n),Aa (Cr q n))).foldl Cn ⟨L,P,D⟩) ((Io (Aa (Cr p n),Aa (Cr q n))).foldl Cn ⟨L',P',D'⟩)),G,⟨H,I,⟨_,Y,by dsimp only;omega⟩,_,w8,by dsimp only;omega⟩,g1,g2,e,λl=>by rw[F4,V0,F4,V0];rfl⟩)
  (a,0,0,b,0,0,[],[],0,[],[],0) ⟨ca,cb,⟨0,Wa,by dsimp only;rw[N,O];omega⟩,0,Wa,by dsimp only;rw[N,O];omega⟩ (by dsimp only;rw[N,O];exact h)
 dsimp only at o;rw[N,O]at o;exact o
theorem B62 a b:Aa9 a b=Aa (Pn a b):=by
 unfold Aa9 Pn;simp only[Q8,Ahm,Ad];cases h:Ca a with
 |false=>simp
 |true=>
  cases i:Ca b with
  |false=>simp
  |true=>
   simp only[Hp h,Hp i,if_true,A6,A3,Ad];by_cases c:Dl a=Dl b
   ·obtain⟨j,d⟩:=J2 h i c;have g:=Azj j d;have s:=Aon j d;have w:=Abt (okf g.1) Wa;have w':=Abt (okf s.1) Wa;rw[decide_eq_true c,A6,A3,B7r j d,Ad];have e:=Az1 w (by omega);have o:=Az1 w' (by omega);show(Ac (Tj ((M5 a b).foldl Cn bNil)) λk=>Ac (Tj ((M6 a b).foldl Cn bNil)) λl=>_)=_;rw[e,Ad,o,Ad]
    try simp only
    show(Ac (bif !Ca (Qv a b)then _ else Aa (!Ca (Mz a b))) λf=>_)=_;cases u:Ca (Qv a b)with
    |false=>simp
    |true=>
     cases v:Ca (Mz a b)with
     |false=>simp
     |true=>simp[c];exact⟨rfl,rfl⟩
   ·rw[decide_eq_false c];simp[c]
end
theorem Axu f a b:Jo f (a++b)=Jo f a+Jo f b:=Xo _ a b
theorem Wx f p:Jo f [p]=Kw f p:=by rw[Ll];show Kw f p+0=_;omega
theorem W6{f p n} (h:B7 p=true) (a:0<=n) (b:n<=Bl p):Kw f (Cr p n)=if p.kind=f then 0 else n:=by have g:=Gd h a b;unfold Kw;rw[g.2.1,g.2.2.1]
theorem An9 f (a:f≠1) n:Kw f ⟨1,n,[]⟩=n:=by unfold Kw Bl;rw[if_neg (λh=>a h.symm)];simp
theorem B5n:∀(n:Nat) {a b:List Ae},J 2 a b->Cq a+Cq b<=n->Jo 2 (M5 a b)=Jo 3 b/\Jo 2 (M6 a b)=Jo 3 a/\Jo 3 (M5 a b)=Jo 3 (M6 a b):=by
 intro n;induction n with
 |zero=>intro a b h O;have S:=Lw h.oa;have T:=Lw h.ob;have z1:=Vv h.oa (by omega);have K:=Vv h.ob (by omega);unfold M5 M6;rw[A1l z1 K,<-Wy 3 a,<-Wy 3 b,z1,K];exact⟨rfl,rfl,rfl⟩
 |succ n A=>
  intro a b h O;have C:=Wy 3 a;have D:=Wy 3 b;unfold M5 M6;rcases Ap0 h with⟨u,x,y⟩|⟨p,r,u,s,ok,H,g1,g2,y⟩|⟨q,t,x,s,ok,H,u,g1,g2,y⟩|⟨p,r,q,t,m,u,x,s,z,d,c,H,N,R,i,w,o,g1,g2,y⟩<;>rw[y]
  ·rw[<-C,<-D,u,x];exact⟨rfl,rfl,rfl⟩
  ·have g:=A g1 (by omega);unfold M5 M6 at g;have j:=Gh ok;have l:=W6 (f:=2) ok j.1 (Hb _);have k:=W6 (f:=3) ok j.1 (Hb _);rw[if_pos s]at l;rw[if_neg (by omega)]at k;rw[u,Ll,W7 (by omega)]at C;have e:=g.2.1;rw[Ll,Zt ok j.1 (Hb _) (by omega),W7 (by omega)]at e;simp only[F4,Im,Io,Axu,Wx,l,k,Alf ok s j.1 (Hb _),An9 2 (by omega),An9 3 (by omega)];omega
  ·have g:=A g1 (by omega);unfold M5 M6 at g;have j:=Gh ok;have l:=W6 (f:=2) ok j.1 (Hb _);have k:=W6 (f:=3) ok j.1 (Hb _);rw[if_pos s]at l;rw[if_neg (by omega)]at k;rw[x,Ll,W7 (by omega)]at D;have e:=g.1;rw[Ll,Zt ok j.1 (Hb _) (by omega),W7 (by omega)]at e;simp only[F4,Im,Io,Axu,Wx,l,k,Alf ok s j.1 (Hb _),An9 2 (by omega),An9 3 (by omega)];omega
  ·have g:=A g1 (by omega);unfold M5 M6 at g;have L:p.kind≠1->p.kind=3:=λh=>by rcases Hf d with⟨g1,_⟩|⟨g1,_⟩|⟨g1,_⟩<;>omega
   have F:q.kind≠1->q.kind=3:=λh=>by rcases Hf c with⟨g1,_⟩|⟨g1,_⟩|⟨g1,_⟩<;>omega
   have l:=W6 (f:=2) d i w;have k:=W6 (f:=3) d i w;have M:=W6 (f:=2) c i o;have G:=W6 (f:=3) c i o;have P:=(Gd d i w).2.1;have Q:=(Gd c i o).2.1;rw[u,Ll]at C;rw[x,Ll]at D;have v:=g.1;have e2:=g.2.1;rw[Ll]at v e2;rw[if_neg s]at l;rw[if_neg z]at M;simp only[F4,Im,Io,Axu,P,Q];by_cases B:p.kind=1
   ·rw[if_neg (by omega)]at k;rw[Zt d i w (by omega)]at e2;rw[if_pos B,Wx,Wx];by_cases k2:q.kind=1
    ·rw[if_neg (by omega)]at G;rw[Zt c i o (by omega)]at v;rw[if_pos k2,Wx,Wx];omega
    ·have:=F k2;rw[if_pos this]at G;rw[Agz c i o this]at v;rw[if_neg k2];show 0+_=_/\_/\0+_=_;omega
   ·have I:=L B;rw[if_pos I]at k;rw[Agz d i w I]at e2;rw[if_neg B];by_cases k2:q.kind=1
    ·rw[Zt c i o (by omega)]at v;rw[if_pos k2,Wx,Wx];show _/\0+_=_/\_=0+_;omega
    ·have:=F k2;rw[Agz c i o this]at v;rw[if_neg k2];show 0+_=_/\0+_=_/\0+_=0+_;omega
theorem Axh{a b} (h:(Pn a b).2.2=true):Ca a=true/\Ca b=true/\Dl a=Dl b/\Ca (Qv a b)=true/\Ca (Mz a b)=true/\Pn a b=(Qv a b,Mz a b,true):=by
 unfold Pn at h⊢;split at h
 ·rename_i g;exact⟨g.1,g.2.1,g.2.2.1,g.2.2.2.1,g.2.2.2.2,if_pos g⟩
 ·cases h
theorem Agu{l} (h:∀p∈l,B7 p=true):Ma l:=λq a=>by
 rcases Hf (h q a)with⟨g1,g2,g3,g4⟩|⟨g1,g2,g3,g4⟩|⟨g1,g2,g3,g4⟩
 ·exact⟨.inl g1,g2,λh=>by omega⟩
 ·exact⟨.inr (.inl g1),by omega,λ_=>g2⟩
 ·exact⟨.inr (.inr g1),g2,λh=>by omega⟩
theorem B0u{a b} (d:Ca a=true) (e:Ca b=true) (f:Dl a=Dl b):Dl (Qv a b)=Kf b/\Dl (Mz a b)=Kf a/\Kf (Qv a b)=Kf (Mz a b):=by obtain⟨j,c⟩:=J2 d e f;have g:=B5n 100000 j (by omega);have x:=(Azj j c).1;have y:=(Aon j c).1;unfold Qv Mz;rw[Av4 (Agu x),Av4 (Agu y),Bib (Agu x),Bib (Agu y),<-Anr x,<-Anr y,<-Ans x,<-Ans y,<-Ans j.oa,<-Ans j.ob];exact g
def Amx:List Ae->List Int->List Ae
 |[],_=>[]
 |p::o,t=>if p.kind=1 then p::Amx o (t.drop p.n.toNat)else if p.kind=3 then⟨2,0,t.take p.n.toNat⟩::Amx o (t.drop p.n.toNat)else⟨3,(p.Bd.length:Int),[]⟩::Amx o t
def inv (o:List Ae) (t:List Int):List Ae×Bool:=if Gm o t then(Co (Amx (Co o) t),true)else([],false)
theorem B2g{t} (h:Ed t=true):t.all Ds=true:=by unfold Ed at h;simp only[A9]at h;exact h.2
theorem Alb{T} [Inhabited T]{f} l (d:l.length<=1099511627776) (b:∀k s,k<l.length->s.length<=k->f k s=Aa (.go (s++[el l k]))):A2 f (λs=>(s:List T)) l.length 0 []=Aa l:=by have h:=Fk (F:=f) (e:=λ(s:List T)=>s) l (λr k s=>s.length<=k) (λr _ s=>s++r) (λs _=>by simp) (λx r k s c hx a=>.inl ⟨_,b k s c a,by simp;omega,by simp[hx]⟩) [] (by simp);simpa using h
theorem Awo{o} (h:Gx Aac o):Ad8 o=Aa o:=by
 unfold Ad8
 rw[Alb o h.1 (λk s a d=>by
  have b:=h.2 _ (Cj a);have c:=h.1;unfold Bju Bjt;rw[Um b.2.2.1,Ad,Aj (by omega)])]
 rfl
theorem A0d{o} (h:Gx Aac o):Aen o=Aa o:=by
 unfold Aen
 rw[Alb o h.1 (λk s a e=>by
  have b:=h.2 _ (Cj a);have c:=h.1;have d:=b.2.2.1;unfold Bk7 Bk6;rw[Aj (by omega),Aj (by simp;omega)];rfl)]
 rfl
def push (l:List (List Ae)) (o:List Ae):List (List Ae):=if 8<(l++[o]).length then(l++[o]).drop 1 else l++[o]
def Qu (o:List Ae):Bool:=Ca o&&decide (o=Co o)
theorem Bb4{o} (h:Qu o=true):Ca o=true/\Co o=o:=by unfold Qu at h;simp only[A9,decide_eq_true_eq]at h;exact⟨h.1,h.2.symm⟩
theorem Bhl{T} c:∀(l:List T) (k:Nat),Fm c (l.drop k)<=Fm c l
 |_,0=>by simp
 |[],k+1=>by simp
 |x::l,k+1=>by have:=Bhl c l k;simp only[Abg,Fm];omega
theorem B0w{T} c (l:List T) k:E7 c (l.drop k)<=E7 c l:=by have:=Bhl c l k;unfold E7;rw[D0];omega
theorem Bhn{T} c:∀(l:List T) (k:Nat),Fm c (l.take k)<=Fm c l
 |_,0=>by simp[Fm]
 |[],k+1=>by simp
 |x::l,k+1=>by have:=Bhn c l k;simp only[A6n,Fm];omega
theorem B0y{T} c (l:List T) k:E7 c (l.take k)<=E7 c l:=by have:=Bhn c l k;unfold E7;rw[Dh];omega
def E3 (e:A8):Bool:=(decide (1<=e.Al/\e.Al<=8)&&decide (1<=e.seq/\e.seq<=1000000000))&&Qu e.o
theorem Awj e:Xw e=Aa (E3 e):=by unfold Xw E3;simp only[G5,Byp,Ad,Dj,Gc];rfl
theorem Az3 e:X4 e=Aa (E3 e):=by unfold X4 E3;simp only[Hs,Bf3,Ad,Dj,Gc];rfl
theorem Zc{l} (h:Gx Nc l):X0 l=Aa l:=by
 unfold X0
 rw[Alb l h.1 (λk s a c=>by
  have b:=h.1;unfold Bjs Bjr;rw[Awo (h.2 _ (Cj a)).2.2,Ad,Aj (by omega)])]
 rfl
theorem Bfv{e} (h:Nc e):Aj8 e=Aa e:=by unfold Aj8;rw[A0d h.2.2];rfl
def V7:List (List Ae)->List Int->Option (List Int)
 |[],t=>Aa t
 |o::r,t=>if Gm o t then V7 r (F7 o t)else Ab
def Bic:Option (List Int)->List Int×Bool
 |some u=>(u,true)
 |none=>([],false)
theorem Bbb l t:Xu l t=Aa (if Ed t then Bic (V7 l t)else([],false)):=by
 unfold Xu;rw[Agc,Ad];cases h:Ed t with
 |false=>rfl
 |true=>
  have:=Ln h
  rw[A6,A3,Um (by omega),Ad,Fk (F:=Aqc l) (e:=λ(s:List Int)=>(Ej s:Sum (List Int) Unit)) l (λ_ _ _=>True) (λr _ s=>match V7 r s with|some u=>Ej u|none=>Bj ()) (λs _=>rfl) (λx r k s b hx _=>by
   unfold Aqc A15;rw[hx,Bba,Ad,V7];cases a:Gm x s with
   |false=>exact .inr rfl
   |true=>exact .inl ⟨_,rfl,trivial,rfl⟩) t trivial,Ad]
  cases V7 l t<;>rfl
def Fz:List A8->List Int->Option (List Int)
 |[],t=>Aa t
 |e::r,t=>if Gm e.o t&&E3 e then Fz r (F7 e.o t)else Ab
theorem Avz:∀l t,l.all E3=true->Fz l t=V7 (l.map λe=>e.o) t
 |[],t,_=>rfl
 |e::l,t,h=>by
  simp only[K5,A9]at h;rw[Fz,Fa,V7,h.1,Akk];split
  ·exact Avz l _ h.2
  ·rfl
theorem Av1:∀l t,l.all E3=false->Fz l t=Ab
 |[],t,h=>by cases h
 |e::l,t,h=>by
  rw[Fz];cases a:E3 e with
  |false=>simp
  |true=>
   simp only[K5,a,K1]at h;split
   ·exact Av1 l _ h
   ·rfl
theorem Aws{l} (h:Gx Nc l):Aaz l=Aa (l.map λe=>e.o):=by
 unfold Aaz;have c:=h.1
 rw[Fk (F:=A2y l) (e:=λ(s:List (List Ae))=>s) l (λr k s=>s.length<=k) (λr _ s=>s++r.map λe=>e.o) (λs _=>by simp) (λx r k s a hx b=>by
  unfold A2y Bjz;rw[hx,Awo (h.2 _ (hx▸Cj a)).2.2,Ad,Aj (by omega)];exact .inl ⟨_,rfl,by simp;omega,by simp⟩) [] (by simp)]
 simp
def Gp (s:Cea):Bool:=(Ml s).getD false
theorem Amq s (g:s.size<=9223372036854775807):Ml s=Aa (Gp s):=by
 have a:∃b,Ml s=Aa b:=by
  unfold Ml
  obtain⟨y,d,_⟩:=Kt (f:=Xx s) (λi=>0<=i/\i<=s.size) (λi=>((s.size:Int)-i).toNat) (λ_=>True) (λi c=>by
   unfold Xx Aqo;by_cases hi:i<(s.size:Int)
   ·rw[Av hi,Aj ⟨c.1,hi⟩,Aj ⟨c.1,hi⟩,Dj,Ad];cases (bif decide (((Du s i.toNat).toNat:Int)<97)then true else decide ((122:Int)<((Du s i.toNat).toNat:Int)))with
    |true=>exact .inr ⟨_,rfl,trivial⟩
    |false=>rw[A3,Bh (by omega) (by omega)];exact .inl ⟨_,rfl,⟨by omega,by omega⟩,by omega⟩
   ·rw[Ap hi];exact .inr ⟨_,rfl,trivial⟩) 0 ⟨by omega,by omega⟩
  rw[d,Ad];cases y with
  |inl u=>simp only[Jg];rw[G5];exact⟨_,rfl⟩
  |inr u=>exact⟨_,rfl⟩
 obtain⟨b,e⟩:=a;unfold Gp;rw[e];rfl
theorem Bf4 s (b:s.size<=9223372036854775807):X5 s=Aa (Gp s):=by have h:=Amq s b;have a:A4d=Xx:=rfl;unfold Ml at h;unfold X5;rw[a];simp only[Hs];simp only[G5]at h;exact h
theorem A61:∀ {o:List Ae},(∀p∈o,p.kind=2->p.Bd.all Ds=true)->∀ {t:List Int},t.all Ds=true->(F7 o t).all Ds=true
 |[],_,t,_=>rfl
 |q::o,h,t,a=>by
  have d:∀k,(t.drop k).all Ds=true:=λk=>Ff.2 λx hx=>Ff.1 a x (Kj hx);have b:∀k,(t.take k).all Ds=true:=λk=>Ff.2 λx hx=>Ff.1 a x (V3 hx);have c:∀ {t:List Int},t.all Ds=true->(F7 o t).all Ds=true:=λa=>A61 (λp f=>h p (by simp[f])) a;unfold F7;split
  ·rw[Akn,b,c (d _)];rfl
  ·split
   ·rename_i e;rw[Akn,h q (by simp) e,c a];rfl
   ·exact c (d _)
theorem Anz{o t} (h:Gm o t=true):Ed (F7 o t)=true:=by obtain⟨a,b,c⟩:=Amb h;have e:=Afh (Zr a) c;have f:=Bdl a;have d:=A61 (Ax8 (Hp a)) (B2g b);unfold Ed;rw[d];simp;omega
def Zw:Option Int->Int->Bool
 |none,_=>true
 |some p,i=>decide (p<i)
def H0 (h:Int):List Cm->Option Int->Bool
 |[],_=>true
 |s::r,p=>(((decide (1<=s.Al/\s.Al<=8)&&Zw p s.Al)&&decide (1<=s.seq/\s.seq<=1000000000))&&decide (1<=s.rev/\s.rev<=h))&&H0 h r (Aa s.Al)
def C5 (d:Ao):Bool:=(((Gp d.name&&decide (0<=d.from_/\d.from_<=999999000))&&Ed d.text)&&decide (d.list.length<=8))&&((Fz d.list d.text).isSome&&H0 (d.from_+d.list.length) d.seen Ab)
theorem Bgp (l:List Cm){k} {x:Cm} (b:l.length<=1099511627776) (a:k<l.length):
  (bif decide ((0:Int)<(k:Int))then(xg (Aq ((k:Int)-1))<|xg (0<=((k:Int)-1)/\((k:Int)-1)<(l.length:Int))<|some (decide ((x.Al)<=((el l (((k:Int)-1).toNat)).Al))))else(Aa false))=Aa (!Zw (if k=0 then Ab else Aa (el l (k-1)).Al) x.Al):=by
 cases k with
 |zero=>rfl
 |succ k=>rw[Av (by omega),Bh (by omega) (by omega),Aj ⟨by omega,by omega⟩,if_neg (by omega),show(((k+1:Nat):Int)-1).toNat=k+1-1 by omega,Zw];congr 1;rw[<-decide_not];exact decide_eq_decide.2 (by omega)
theorem Bzs d (f:d.seen.length<=1099511627776) (g:0<=d.from_/\d.from_<=999999000) (i:d.list.length<=8):A2 (Aig d) (λ_=>(Ej ():Sum Unit Bool)) d.seen.length 0 ()=Aa (bif H0 (d.from_+d.list.length) d.seen Ab then Ej ()else Bj false):=by
 have h:=Fk (F:=Aig d) (e:=λ_=>(Ej ():Sum Unit Bool)) d.seen (λ_ _ _=>True) (λr k _=>bif H0 (d.from_+d.list.length) r (if k=0 then Ab else Aa (el d.seen (k-1)).Al)then Ej ()else Bj false) (λ_ _=>rfl) (λx r k s c hx _=>by
  have b:It d=Aa (d.from_+d.list.length):=by unfold It;rw[Bh (by omega) (by omega)]
  unfold Aig A19;rw[hx];simp only[G5,Ad,Bgp d.seen (x:=x) f c,b,Dj,F8];simp only[H0];have a:(if k+1=0 then Ab else Aa (el d.seen (k+1-1)).Al)=Aa x.Al:=by rw[if_neg (by omega),Akt,hx]
  rw[a];generalize Zw (if k=0 then Ab else Aa (el d.seen (k-1)).Al) x.Al=q;generalize H0 (d.from_+d.list.length) r (Aa x.Al)=z;generalize decide (1<=x.Al/\x.Al<=8)=b1;generalize decide (1<=x.seq/\x.seq<=1000000000)=b2;generalize decide (1<=x.rev/\x.rev<=d.from_+d.list.length)=b3;cases b1<;>cases q<;>cases b2<;>cases b3<;>first|exact .inr rfl|exact .inl ⟨(),rfl,trivial,rfl⟩) () trivial
 simpa using h
theorem B7j d (f:d.seen.length<=1099511627776) (g:0<=d.from_/\d.from_<=999999000) (i:d.list.length<=8):A2 (Ajk d) (λ_=>(Ej ():Sum Unit Bool)) d.seen.length 0 ()=Aa (bif H0 (d.from_+d.list.length) d.seen Ab then Ej ()else Bj false):=by
 have h:=Fk (F:=Ajk d) (e:=λ_=>(Ej ():Sum Unit Bool)) d.seen (λ_ _ _=>True) (λr k _=>bif H0 (d.from_+d.list.length) r (if k=0 then Ab else Aa (el d.seen (k-1)).Al)then Ej ()else Bj false) (λ_ _=>rfl) (λx r k s c hx _=>by
  have b:Gy d=Aa (d.from_+d.list.length):=by unfold Gy;rw[Bh (by omega) (by omega)]
  unfold Ajk A31;rw[hx];simp only[Hs,Ad,Bgp d.seen (x:=x) f c,b,Dj,F8];simp only[H0];have a:(if k+1=0 then Ab else Aa (el d.seen (k+1-1)).Al)=Aa x.Al:=by rw[if_neg (by omega),Akt,hx]
  rw[a];generalize Zw (if k=0 then Ab else Aa (el d.seen (k-1)).Al) x.Al=q;generalize H0 (d.from_+d.list.length) r (Aa x.Al)=z;generalize decide (1<=x.Al/\x.Al<=8)=b1;generalize decide (1<=x.seq/\x.seq<=1000000000)=b2;generalize decide (1<=x.rev/\x.rev<=d.from_+d.list.length)=b3;cases b1<;>cases q<;>cases b2<;>cases b3<;>first|exact .inr rfl|exact .inl ⟨(),rfl,trivial,rfl⟩) () trivial
 simpa using h
theorem A8d {d:Ao}{X Y} (g:((Gp d.name=true/\0<=d.from_/\d.from_<=999999000)/\Ed d.text=true)/\d.list.length<=8->X=Y) (f:¬(((Gp d.name=true/\0<=d.from_/\d.from_<=999999000)/\Ed d.text=true)/\d.list.length<=8)->Y=Aa false):
  (bif (((!Gp d.name||!decide (0<=d.from_/\d.from_<=999999000))||!Ed d.text)||decide ((8:Int)<(d.list.length:Int)))then Aa false else X)=Y:=by
 by_cases h:((Gp d.name=true/\0<=d.from_/\d.from_<=999999000)/\Ed d.text=true)/\d.list.length<=8
 ·rw[h.1.1.1,decide_eq_true h.1.1.2,h.1.2,decide_eq_false (p:=(8:Int)<(d.list.length:Int)) (by omega)];exact g h
 ·rw[f h]
  have:(((!Gp d.name||!decide (0<=d.from_/\d.from_<=999999000))||!Ed d.text)||decide ((8:Int)<(d.list.length:Int)))=true:=by
   cases b:Gp d.name
   ·rfl
   ·by_cases a:0<=d.from_/\d.from_<=999999000
    ·cases c:Ed d.text
     ·simp
     ·have:¬d.list.length<=8:=λe=>h ⟨⟨⟨b,a⟩,c⟩,e⟩;rw[decide_eq_true (p:=(8:Int)<(d.list.length:Int)) (by omega)];simp
    ·rw[decide_eq_false a];simp
  rw[this];rfl
theorem Bde{d} (h:¬(((Gp d.name=true/\0<=d.from_/\d.from_<=999999000)/\Ed d.text=true)/\d.list.length<=8)):C5 d=false:=by
 cases a:C5 d with
 |false=>rfl
 |true=>unfold C5 at a;simp only[A9,decide_eq_true_eq]at a;exact absurd ⟨⟨⟨a.1.1.1.1,a.1.1.1.2⟩,a.1.1.2⟩,a.1.2⟩ h
theorem Bdf{d} (h:((Gp d.name=true/\0<=d.from_/\d.from_<=999999000)/\Ed d.text=true)/\d.list.length<=8):C5 d=((Fz d.list d.text).isSome&&H0 (d.from_+d.list.length) d.seen Ab):=by unfold C5;rw[h.1.1.1,decide_eq_true h.1.1.2,h.1.2,decide_eq_true h.2];rfl
theorem Za d (h:Ht d):O3 d=Aa (C5 d):=by
 have g:=h.2.2.2.1;have i:=h.2.2.2.2;have c:=h.1;unfold Sx at c;unfold O3;simp only[Amq d.name (by omega),G5,Agc,Ad,Dj,F8];refine A8d (λa=>?_) (λa=>by rw[Bde a])
 rw[Bdf a,Ug (b:=.inr ()) d.list E3 (λx k j hx=>by
  unfold A2a A18;rw[hx,Awj];cases E3 x<;>rfl),Ad]
 cases f:d.list.all E3 with
 |false=>rw[Av1 _ _ f];rfl
 |true=>
  rw[Avz _ _ f];simp only[cond_true,Jg];rw[Aws g,Ad,Bbb,a.1.2,Ad,if_pos rfl];cases l:V7 (d.list.map λe=>e.o) d.text with
  |none=>rfl
  |some u=>simp only[Bic,A6,cond_false,Brd,K1];rw[Bzs d i.1 a.1.1.2 a.2];cases H0 (d.from_+d.list.length) d.seen Ab<;>rfl
theorem Q7 d (h:Ht d):O7 d=Aa (C5 d):=by
 have g:=h.2.2.2.2;have b:=h.1;unfold Sx at b;unfold O7;simp only[Bf4 d.name (by omega),Hs,Ao4,Ad,Dj,F8];refine A8d (λa=>?_) (λa=>by rw[Bde a])
 rw[Bdf a,Fk (F:=Arx d) (e:=λ(_:List Int)=>(Ej ():Sum Unit Unit)) d.list (λ_ _ s=>Ed s=true) (λr _ s=>bif (Fz r s).isSome then Ej ()else Bj ()) (λs _=>rfl) (λx r k s l hx i=>by
  unfold Arx A30;rw[hx,Adm,Ad,Az3,Ao4,Fz];cases f:Gm x.o s with
  |false=>exact .inr rfl
  |true=>
   have c:=Anz f;cases j:E3 x with
   |false=>exact .inr rfl
   |true=>simp only[if_true,A6,cond_false,Ad,c,Asw];exact .inl ⟨_,rfl,c,rfl⟩) d.text a.1.2,Ad]
 cases (Fz d.list d.text).isSome with
 |false=>rfl
 |true=>simp only[cond_true,Jg,K1];rw[B7j d g.1 a.1.1.2 a.2];cases H0 (d.from_+d.list.length) d.seen Ab<;>rfl
theorem Jc{d} (h:C5 d=true):(0<=d.from_/\d.from_<=999999000)/\d.list.length<=8:=by unfold C5 at h;simp only[A9,decide_eq_true_eq]at h;exact⟨h.1.1.1.2,h.1.2⟩
theorem Bae (a b:A8):(a=b)↔((a.Al=b.Al/\a.seq=b.seq)/\a.o=b.o):=by cases a;cases b;simp[and_assoc]
theorem Byh a b:Aih a b=Aa (decide (a=b)):=by unfold Aih;simp only[Awl,Ad,Dj,Gc];refine Km ?_;simp[Bae]
theorem B6a a b:Ajl a b=Aa (decide (a=b)):=by unfold Ajl;simp only[Bf6,Ad,Dj,Gc];refine Km ?_;simp[Bae]
theorem Aht{l} (h:Gx Nc l) k:Gx Nc (l.drop k):=⟨by have:=h.1;rw[D0];omega,λx hx=>h.2 x (Kj hx)⟩
theorem Ss{l} (h:Gx Nc l):Ro l=Aa l:=by
 unfold Ro
 rw[Alb l h.1 (λk s a c=>by
  have b:=h.1;unfold Bla Bk9;rw[Bfv (h.2 _ (Cj a)),Ad,Aj (by omega)])]
 rfl
def Wi (d:Ao) (a:Int):List A8×Int:=if C5 d then(if d.from_+d.list.length<a then([],2)else if a<d.from_ then([],3)else(d.list.drop (a-d.from_).toNat,0))else([],1)
theorem Byi d a (h:Ht d):Aqg d a=Aa (Wi d a):=by
 unfold Aqg Ai3 It Wi;rw[Za d h,Ad];cases b:C5 d with
 |false=>rfl
 |true=>
  obtain⟨c,e⟩:=Jc b;rw[A6,A3,Bh (by omega) (by omega),Ad,if_pos rfl];by_cases g1:d.from_+d.list.length<a
  ·rw[Av g1,if_pos g1];rfl
  ·rw[Ap g1,if_neg g1];by_cases g2:a<d.from_
   ·rw[Av g2,if_pos g2];rfl
   ·rw[Ap g2,if_neg g2,Ad,decide_eq_true rfl,A6,A3,Bh (by omega) (by omega),Aj ⟨by omega,by omega⟩,Hd,Zc (Aht h.2.2.2.1 _)];rfl
theorem B6b d a (h:Ht d):Ary d a=Aa (Wi d a):=by
 unfold Ary Gy Wi;rw[Q7 d h,Ad];cases b:C5 d with
 |false=>rfl
 |true=>
  obtain⟨c,e⟩:=Jc b;rw[A6,A3,Bh (by omega) (by omega),Ad,if_pos rfl];by_cases g1:d.from_+d.list.length<a
  ·rw[Av g1,if_pos g1]
  ·rw[Ap g1,if_neg g1];by_cases g2:a<d.from_
   ·rw[Av g2,if_pos g2]
   ·rw[Ap g2,if_neg g2,Bh (by omega) (by omega),Aj ⟨by omega,by omega⟩,Hd,Ss (Aht h.2.2.2.1 _)];rfl
theorem Ku{d} (h:C5 d=true):(0<=d.from_/\d.from_<=999999000)/\Ed d.text=true/\d.list.length<=8/\d.list.all E3=true/\H0 (d.from_+d.list.length) d.seen Ab=true:=by
 unfold C5 at h;simp only[A9,decide_eq_true_eq]at h;refine⟨h.1.1.1.2,h.1.1.2,h.1.2,?_,h.2.2⟩;cases a:d.list.all E3 with
 |true=>rfl
 |false=>have:=h.2.1;rw[Av1 _ _ a]at this;cases this
theorem Bgq:∀l q H,H0 H l q=true->(0<=q.getD 0/\q.getD 0<=8)->(l.length:Int)+q.getD 0<=8
 |[],q,H,_,hq=>by simp;omega
 |x::l,q,H,h,hq=>by
  unfold H0 at h;simp only[A9,decide_eq_true_eq]at h;have b:=Bgq l (Aa x.Al) H h.2 ⟨by simp only[Atn];omega,by simp only[Atn];omega⟩;simp only[Atn]at b
  have a:q.getD 0<x.Al:=by
   cases q with
   |none=>simp only[Option.getD_none];omega
   |some c=>have:=h.1.1.1.2;unfold Zw at this;simpa using this
  simp only[B5];omega
theorem Zq{d} (h:C5 d=true):d.seen.length<=8:=by have:=Bgq _ _ _ (Ku h).2.2.2.2 ⟨by simp,by simp⟩;simp only[Option.getD_none]at this;omega
theorem Bs6{l} (h:(l.length:Int)<=200) (a:l.all Ds=true):Ed l=true:=by unfold Ed;rw[a];simp;omega
theorem Agg{n} (h: -9223372036854775808<=n) (k:n<=9223372036854775807):iw n=n:=by
 unfold iw IntKind.wrap;simp only[IntKind.signed,IntKind.bits];have a:(BitVec.ofInt 64 n).toInt=n:=by rw[BitVec.toInt_ofInt,Int.bmod_def];omega
 first|exact a|(simp;omega)|skip
theorem B12 b h (e:0<=h) (c:h<=1073741823):∃y,Cp (Ajz b) (h,0)=Aa y/\0<=y/\y<=1073741823:=by
 refine Kt (f:=Ajz b) (λs=>(0<=s.1/\s.1<=1073741823)/\0<=s.2/\s.2<=4000) (λs=>(4000-s.2).toNat) (λy=>0<=y/\y<=1073741823) (λs j=>?_) (h,0) ⟨⟨e,c⟩,by simp,by simp⟩;obtain⟨a,i⟩:=s;obtain⟨⟨g0,g1⟩,g2,g3⟩:=j;simp only at g0 g1 g2 g3⊢;unfold Ajz A4w;simp only;by_cases d:i<(b.length:Int)/\i<4000
 ·rw[Av d.1,Ad,decide_eq_true d.2,Cg,Aj ⟨by omega,by omega⟩];have k:=Atz (iw (iw (iw (a*43)+((el b i.toNat).toNat:Int))+7)) 1073741823 (by decide);exact .inl ⟨_,rfl,⟨k,by simp only;rw[Agg (by omega) (by omega)];omega,by simp only;rw[Agg (by omega) (by omega)];omega⟩,by simp only;rw[Agg (by omega) (by omega)];omega⟩
 ·have:(bif decide (i<(b.length:Int))then Aa (decide (i<4000))else Aa false)=Aa false:=by
   by_cases c:i<(b.length:Int)
   ·rw[Av c,decide_eq_false (λg=>d ⟨c,g⟩)]
   ·rw[Ap c]
  rw[this];exact .inr ⟨_,rfl,g0,g1⟩
def cur (c:B3):Prop:=0<=c.i/\c.i<=c.b.length/\c.b.length<=1048580
theorem Bf5 a (e:a.length<=1048580):∃c,Aba a=Aa c/\cur c/\0<=c.h/\c.h<=1073741823:=by unfold Aba;rw[Agg (by omega) (by omega)];obtain⟨y,b,d⟩:=B12 a (1621+(a.length:Int)) (by omega) (by omega);rw[b];exact⟨_,rfl,⟨by simp,by simp,e⟩,d⟩
theorem Bst{c} (h:cur c) n:cur ⟨c.b,c.i,n⟩:=h
theorem Ahg c (h:cur c):∃n d,X7 c=Aa (n,d)/\(0<=n/\n<=255)/\cur d:=by
 unfold X7;rw[Aj (by decide),Aj (by decide)];obtain⟨e,g,f⟩:=h;by_cases a:c.i<(c.b.length:Int)
 ·rw[Av a,Aj ⟨e,a⟩,Agg (n:=c.i+1) (by omega) (by omega)];exact⟨_,_,rfl,Atz _ 255 (by decide),by simp only;omega,by simp only;omega,f⟩
 ·rw[Ap a];exact⟨_,_,rfl,Atz _ 255 (by decide),e,g,f⟩
theorem Uy c n (h:cur c):∃m d,Ch c n=Aa (m,d)/\(0<=m/\(m=0\/m<n))/\cur d:=by
 unfold Ch;by_cases e:n<=0
 ·rw[Av e];exact⟨_,_,rfl,by omega,h⟩
 rw[Ap e];by_cases f:n<=256
 ·obtain⟨m,d,u,v,w⟩:=Ahg c h;rw[Av f,u,Ad,Aj ⟨v.1,by omega⟩];have a:=As2 m (show n≠0 by omega);have b:=As1 m (show 0<n by omega);exact⟨_,_,rfl,⟨a,.inr b⟩,w⟩
 ·obtain⟨m1,r,g,x,l⟩:=Ahg c h;obtain⟨m2,s,i,y,o⟩:=Ahg r l;obtain⟨m3,t,j,z,p⟩:=Ahg s o;obtain⟨m4,B,k,A,q⟩:=Ahg t p;rw[Ap f,g,Ad,i,Ad,j,Ad,k,Ad,Bh (by omega) (by omega),Bh (by omega) (by omega),Bh (by omega) (by omega),Bh (by omega) (by omega),Bh (by omega) (by omega),Bh (by omega) (by omega),Aj ⟨by omega,by omega⟩];have a:=As2 (m1*16777216+m2*65536+m3*256+m4) (show n≠0 by omega);have b:=As1 (m1*16777216+m2*65536+m3*256+m4) (show 0<n by omega);exact⟨_,_,rfl,⟨a,.inr b⟩,q⟩
theorem Az5 c n (h:cur c):∃m d,K0 c n=Aa (m,d)/\cur d:=by unfold K0;obtain⟨m,d,a,_,b⟩:=Uy c n h;rw[a];exact⟨_,_,rfl,b⟩
theorem Bf9 c l (h:cur c) (f:0<l.length):∃m d,Aem c l=Aa (m,d)/\m∈l/\cur d:=by unfold Aem;obtain⟨m,d,a,b,e⟩:=Uy c l.length h;rw[a,Ad,Aj ⟨b.1,by omega⟩];exact⟨_,_,rfl,Cj (by omega),e⟩
theorem B6v c (h:cur c):∃m d,Aj0 c=Aa (m,d)/\Ds m=true/\cur d:=by
 unfold Aj0;obtain⟨b,d,j,g⟩:=Az5 c 8 h;rw[j,Ad];simp only;cases b with
 |true=>
  obtain⟨m,e,a,i,f⟩:=Bf9 d [0,127,128,2047,2048,55295,57344,65535,65536,1114111,10,32] g (by decide);rw[Cg,a,Ad];refine⟨_,_,rfl,?_,f⟩;have:∀x∈[0,127,128,2047,2048,55295,57344,65535,65536,1114111,10,32],Ds x=true:=by decide
  exact this m i
 |false=>obtain⟨m,e,a,i,f⟩:=Uy d 6 g;rw[A3,a,Ad,Bh (by omega) (by omega)];refine⟨_,_,rfl,?_,f⟩;unfold Ds;simp only[decide_eq_true_eq];omega
theorem Bge c most (h:cur c) (z:0<=most) (A:most<=100000):∃l d,Mo c most=Aa (l,d)/\(l.length:Int)<=most/\l.all Ds=true/\cur d:=by
 unfold Mo;obtain⟨m,e,g,j,o⟩:=Uy c (most+1) h;rw[Bh (by omega) (by omega),g,Ad]
 obtain⟨y,p,q,r,t⟩:=Kt (f:=Asb) (λs=>0<=s.2.1/\(s.1.length:Int)+s.2.1<=most/\s.1.all Ds=true/\cur ⟨s.2.2.1,s.2.2.2.1,s.2.2.2.2⟩) (λs=>s.2.1.toNat) (λy=>(y.1.length:Int)<=most/\y.1.all Ds=true/\cur ⟨y.2.1,y.2.2.1,y.2.2.2⟩) (λs u=>by
  obtain⟨l,n,b,i,k⟩:=s;obtain⟨g1,g2,g3,g4⟩:=u;simp only at g1 g2 g3 g4⊢;unfold Asb A4x;simp only;by_cases a:0<n
  ·obtain⟨x,d,v,k2,w⟩:=B6v _ g4;rw[Av a,v,Ad,Aj (by omega),Bh (by omega) (by omega)];refine .inl ⟨_,rfl,⟨by simp only;omega,by simp;omega,?_,w⟩,by simp only;omega⟩;simp only[Akn,g3,K5,k2,List.all_nil];rfl
  ·rw[Ap a];exact .inr ⟨_,rfl,by simp only;omega,g3,g4⟩) ([],m,e.b,e.i,e.h) ⟨j.1,by simp only[C0];omega,rfl,o⟩
 rw[p];exact⟨_,_,rfl,q,r,t⟩
def DrI (N:Int) (s:List Ae×Int×Int×List UInt8×Int×Int):Prop:=cur ⟨s.2.2.2.1,s.2.2.2.2.1,s.2.2.2.2.2⟩/\(0<=s.2.1/\s.2.1<=200)/\0<=s.2.2.1/\(∀p∈s.1,B7 p=true)/\s.1.length<=40/\Dl s.1+s.2.1=N/\Ee s.1+s.2.2.1=12
def DrO (N:Int) (y:List Ae×List UInt8×Int×Int):Prop:=cur ⟨y.2.1,y.2.2.1,y.2.2.2⟩/\(∀p∈y.1,B7 p=true)/\y.1.length<=42/\Dl y.1=N/\Ee y.1<=12
theorem Atv o p:Dl (o++[p])=Dl o+Ig p:=by have:Dl (o++[p])=Dl o+Dl [p]:=Xo _ _ _;rw[this];show _+(Ig p+0)=_;omega
theorem Atx o p:Ee (o++[p])=Ee o+E8 p:=by have:Ee (o++[p])=Ee o+Ee [p]:=Xo _ _ _;rw[this];show _+(E8 p+0)=_;omega
theorem Atw{o p} (h:∀q∈o,B7 q=true) (b:B7 p=true):∀q∈o++[p],B7 q=true:=λq a=>by
 rcases Ei.1 a with a|a
 ·exact h q a
 ·rw[Eo.1 a];exact b
theorem Aft{N o p left a b i h} (ho:∀q∈o,B7 q=true) (s:o.length<=40) (j:B7 p=true) (d:0<=left) (f:left<=200) (k:0<=a) (r:Dl o+Ig p+left=N) (e2:Ee o+E8 p+a=12) (g:cur ⟨b,i,h⟩):
  (∃s',(xg (o.length<1099511627776)<|bif decide ((40:Int)<((o++[p]).length:Int))then(xg ((o++[p]).length<1099511627776)<|some (Lr.out ((o++[p])++[(⟨1,left,[]⟩:Ae)],b,i,h)))else(Aa (Lr.go (o++[p],left,a,b,i,h))):Option (Lr (List Ae×Int×Int×List UInt8×Int×Int) (List Ae×List UInt8×Int×Int)))=Aa (.go s')/\DrI N s'/\41-s'.1.length<41-o.length)\/
  ∃y,(xg (o.length<1099511627776)<|bif decide ((40:Int)<((o++[p]).length:Int))then(xg ((o++[p]).length<1099511627776)<|some (Lr.out ((o++[p])++[(⟨1,left,[]⟩:Ae)],b,i,h)))else(Aa (Lr.go (o++[p],left,a,b,i,h))):Option (Lr (List Ae×Int×Int×List UInt8×Int×Int) (List Ae×List UInt8×Int×Int)))=Aa (.out y)/\DrO N y:=by
 have l:B7 ⟨1,left,[]⟩=true:=by unfold B7;simp[d,f]
 have m:Ig ⟨1,left,[]⟩=left:=by simp[Ig,Fe,Fq]
 have n:E8 ⟨1,left,[]⟩=0:=by simp[E8]
 have e:(o++[p]).length=o.length+1:=by simp
 rw[Aj (by omega)];by_cases c:(40:Int)<((o++[p]).length:Int)
 ·rw[Av c,Aj (by omega)];refine .inr ⟨_,rfl,g,Atw (Atw ho j) l,?_,?_,?_⟩
  ·simp only[Bt,G0];omega
  ·simp only;rw[Atv,Atv,m];omega
  ·simp only;rw[Atx,Atx,n];omega
 ·rw[Ap c];refine .inl ⟨_,rfl,⟨g,⟨d,f⟩,k,Atw ho j,?_,?_,?_⟩,?_⟩
  ·simp only;omega
  ·simp only;rw[Atv];omega
  ·simp only;rw[Atx];omega
  ·simp only;omega
theorem B59 c N (h:cur c) (G:0<=N) (S:N<=200):∃o d,Tk c N=Aa (o,d)/\(∀p∈o,B7 p=true)/\o.length<=42/\Dl o=N/\Ee o<=12/\cur d:=by
 unfold Tk
 obtain⟨y,g1,g2⟩:=Kt (f:=Asc) (DrI N) (λs=>41-s.1.length) (DrO N) (λs H=>by
  obtain⟨o,left,r,b,i,k⟩:=s;obtain⟨v,q,K,g,j,L,M⟩:=H;simp only at v q K g j L M⊢;unfold Asc A4z;simp only
  obtain⟨t,d,O,w⟩:∃(t:Bool) (d:B3),(bif decide ((0:Int)<left)then(Aa (true,b,i,k))else(Ac (K0 (⟨b,i,k⟩:B3) 3) λa=>Aa (a.1,a.2.b,a.2.i,a.2.h)))=Aa (t,d.b,d.i,d.h)/\cur d/\(t=false->left=0):=by
   by_cases B:0<left
   ·rw[Av B];exact⟨true,⟨b,i,k⟩,rfl,v,λh=>by cases h⟩
   ·obtain⟨t,d,z,F⟩:=Az5 ⟨b,i,k⟩ 3 v;rw[Ap B,z];exact⟨t,d,rfl,F,λ_=>by omega⟩
  rw[O,Ad];simp only;cases t with
  |false=>rw[A3];have:=w.2 rfl;exact .inr ⟨_,rfl,w.1,g,by simp only;omega,by simp only;omega,by simp only;omega⟩
  |true=>
   rw[Cg];obtain⟨m,e,z,F,A⟩:=Uy d 4 w.1;rw[show Ch (⟨d.b,d.i,d.h⟩:B3) 4=Aa (m,e)from z,Ad];simp only;by_cases m0:m=0
   ·obtain⟨l,f,u,u2,u3,u4⟩:=Bge e 3 A (by omega) (by omega);have T:0<=Ee o:=Aaf λx hx=>(Afj (g x hx)).2.1.1;rw[Av m0,u,Ad];simp only;by_cases D:r<(l.length:Int)
    ·rw[Av D,Bh (by omega) (by omega)];exact Aft g j (by unfold B7;simp) q.1 q.2 (by omega) (by simp[Ig,Fe,Fq];omega) (by simp[E8];omega) u4
    ·rw[Ap D,Bh (by omega) (by omega)];exact Aft g j (by unfold B7;simp[u3];omega) q.1 q.2 (by omega) (by simp[Ig,Fe,Fq];omega) (by simp[E8];omega) u4
   ·rw[Ap m0];by_cases m1:m=1
    ·obtain⟨n,f,u,u2,u3⟩:=Uy e (left+1) A;rw[Av m1,Bh (by omega) (by omega),u,Ad];simp only;by_cases C:(4:Int)<n
     ·rw[Av C,Bh (by omega) (by omega)];exact Aft g j (by unfold B7;simp) (by omega) (by omega) (by omega) (by simp[Ig,Fe,Fq];omega) (by simp[E8];omega) u3
     ·rw[Ap C,Bh (by omega) (by omega)];exact Aft g j (by unfold B7;simp;omega) (by omega) (by omega) (by omega) (by simp[Ig,Fe,Fq];omega) (by simp[E8];omega) u3
    ·obtain⟨n,f,u,u2,u3⟩:=Uy e (left+1) A;rw[Ap m1,Bh (by omega) (by omega),u,Ad];simp only;rw[Bh (by omega) (by omega)];exact Aft g j (by unfold B7;simp;omega) (by omega) (by omega) (by omega) (by simp[Ig,Fe,Fq];omega) (by simp[E8];omega) u3) ([],N,12,c.b,c.i,c.h) ⟨h,⟨G,by simp only;omega⟩,by simp,λ_ I=>(by cases I),by simp,by show Dl []+N=N;show 0+N=N;omega,by show Ee []+12=12;rfl⟩
 obtain⟨z1,P,Q,R,z5⟩:=g2;rw[g1];exact⟨_,_,rfl,P,Q,R,z5,z1⟩
def Hz (l:List A8) (t:List Int):List Int:=l.foldl (λt e=>F7 e.o t) t
theorem Av0:∀a b t,Fz (a++b) t=(Fz a t).bind (Fz b)
 |[],b,t=>rfl
 |e::a,b,t=>by
  rw[Fi,Fz,Fz];split
  ·exact Av0 a b _
  ·rfl
theorem Ami:∀ {l:List A8} {t u:List Int},Fz l t=Aa u->u=Hz l t
 |[],t,u,h=>by cases h;rfl
 |e::l,t,u,h=>by
  rw[Fz]at h;split at h
  ·exact Ami (l:=l) (t:=F7 e.o t) h
  ·cases h
theorem Av2{l t} (h:(Fz l t).isSome=true):Fz l t=Aa (Hz l t):=by obtain⟨u,hu⟩:=Option.isSome_iff_exists.1 h;rw[hu,<-Ami hu]
theorem Amh{l t} (h:(Fz l t).isSome=true) k:Fz (l.take k) t=Aa (Hz (l.take k) t)/\Fz (l.drop k) (Hz (l.take k) t)=Aa (Hz l t):=by
 have a:Fz (l.take k++l.drop k) t=Aa (Hz l t):=by rw[Kk];exact Av2 h
 rw[Av0]at a;cases b:Fz (l.take k) t with
 |none=>rw[b]at a;cases a
 |some u=>rw[b]at a;obtain rfl:=Ami b;exact⟨rfl,a⟩
theorem Av3:∀ {l:List A8} {t u:List Int},Fz l t=Aa u->Ed t=true->Ed u=true
 |[],t,u,h,ht=>by cases h;exact ht
 |e::l,t,u,h,ht=>by
  rw[Fz]at h;split at h
  ·rename_i a;simp only[A9]at a;exact Av3 (l:=l) (t:=F7 e.o t) h (Anz a.1)
  ·cases h
theorem Ac2{d} (h:C5 d=true):(Fz d.list d.text).isSome=true:=by unfold C5 at h;simp only[A9]at h;exact h.2.1
theorem W1{d} (h:C5 d=true):Gp d.name=true:=by unfold C5 at h;simp only[A9]at h;exact h.1.1.1.1
theorem Ax4{d} (a:Gp d.name=true) (b:0<=d.from_/\d.from_<=999999000) (c:Ed d.text=true) (e:d.list.length<=8) (f:(Fz d.list d.text).isSome=true) (g:H0 (d.from_+d.list.length) d.seen Ab=true):C5 d=true:=by unfold C5;rw[a,decide_eq_true b,c,decide_eq_true e,f,g];rfl
theorem Ba3{d} (h:C5 d=true) k:Ed (Hz (d.list.take k) d.text)=true:=Av3 (Amh (Ac2 h) k).1 (Ku h).2.1
theorem Bya{d} (h:C5 d=true):Ed (Hz d.list d.text)=true:=Av3 (Av2 (Ac2 h)) (Ku h).2.1
theorem Uz{d} (h:0<=d.from_/\d.from_<=999999000) (a:d.list.length<=9):Gy d=Aa (d.from_+d.list.length):=by unfold Gy;rw[Bh (by omega) (by omega)]
theorem Acl{d} (h:0<=d.from_/\d.from_<=999999000) (a:d.list.length<=9):It d=Aa (d.from_+d.list.length):=by unfold It;rw[Bh (by omega) (by omega)]
theorem Ao2{d} (h:Ht d) (c:C5 d=true) rev:Vp d rev=Aa (if d.from_<=rev/\rev<=d.from_+d.list.length then(Hz (d.list.take (rev-d.from_).toNat) d.text,true)else([],false)):=by
 obtain⟨g,m⟩:=Jc c;have l:=Ln (Ku c).2.1;have i:=(Amh (Ac2 c) (rev-d.from_).toNat).1;unfold Vp;rw[Q7 d h,Ad,c,A6,A3,Uz g (by omega),Ad,Hs,Ad,Ad];by_cases b:d.from_<=rev/\rev<=d.from_+d.list.length
 ·rw[decide_eq_true b,A6,A3,Aj (by omega),Bh (by omega) (by omega),Aj ⟨by omega,by omega⟩,if_pos b,Nh,Iu]
  rw[I9 (F:=A4p d rev) (e:=λ(s:List Int)=>s) (d.list.take (rev-d.from_).toNat) (λr _ s=>(Fz r s).isSome=true) (λs e=>F7 e.o s) (λx r k s j hx a=>by
   rw[Fz]at a;unfold A4p Bkz;rw[Nh,hx,Adm];cases f:Gm x.o s&&E3 x with
   |false=>rw[f]at a;cases a
   |true=>rw[f,if_pos rfl]at a;simp only[A9]at f;rw[f.1,if_pos rfl,Ad];exact⟨rfl,a⟩) d.text (by rw[i];rfl)]
  rfl
 ·rw[decide_eq_false b,Fs,Cg,if_neg b]
theorem Aoy{d} (h:Ht d) (a:C5 d=true):Aee d=Aa (Hz d.list d.text):=by obtain⟨b,c⟩:=Jc a;unfold Aee;rw[Uz b (by omega),Ad,Ao2 h a,if_pos (by omega),Ad,show(d.from_+(d.list.length:Int)-d.from_).toNat=d.list.length by omega,Hd]
theorem U3 H:∀l p,H0 H l p=true↔(∀s∈l,(1<=s.Al/\s.Al<=8)/\(1<=s.seq/\s.seq<=1000000000)/\1<=s.rev/\s.rev<=H)/\List.Pairwise (λa b=>a.Al<b.Al) l/\∀q,p=Aa q->∀s∈l,q<s.Al
 |[],p=>by simp[H0]
 |x::l,p=>by
  unfold H0;simp only[A9,decide_eq_true_eq,U3 H l (Aa x.Al),List.forall_mem_cons,N7,D1.injEq,forall_eq'];constructor
  ·rintro ⟨⟨⟨⟨a1,a2⟩,a3⟩,a4⟩,b1,b2,b3⟩;refine⟨⟨⟨a1,a3,a4⟩,b1⟩,⟨b3,b2⟩,λq d=>?_⟩;subst d;have c:q<x.Al:=by simpa [Zw]using a2
   exact⟨c,λs e=>by have:=b3 s e;omega⟩
  ·rintro ⟨⟨⟨a1,a3,a4⟩,b1⟩,⟨b3,b2⟩,h⟩;refine⟨⟨⟨⟨a1,?_⟩,a3⟩,a4⟩,b1,b2,b3⟩;cases p with
   |none=>rfl
   |some q=>exact decide_eq_true (h q rfl).1
theorem B6u d c:∃s b,Tf d c=Aa (s,b)/\(s∈d.seen\/s=⟨0,0,0⟩):=by
 unfold Tf
 obtain⟨y,g,h⟩:=Ab7 (F:=Ajv c d) (e:=λ_=>(Ej ():Sum Unit (Bool×Int×Int×Int))) d.seen (λ_ _ _=>True) (λ_ _ _ y=>∀z,y=Bj z->(⟨z.2.1,z.2.2.1,z.2.2.2⟩:Cm)∈d.seen) (λs _ z a=>by cases a) (λx r k s i hx _=>by
  unfold Ajv Ar7;rw[hx];by_cases f:x.Al=c
  ·rw[Av f];exact .inr ⟨_,rfl,λz a=>by cases a;rw[<-hx];exact Cj i⟩
  ·rw[Ap f];exact .inl ⟨(),rfl,trivial,λy j=>j⟩) () trivial
 rw[g,Ad];cases y with
 |inl u=>exact⟨_,_,rfl,.inr rfl⟩
 |inr z=>exact⟨_,_,rfl,.inl (h z rfl)⟩
structure Afb (H c:Int) (r acc:List Cm) (done:Bool):Prop where
 ra:∀s∈acc,(1<=s.Al/\s.Al<=8)/\(1<=s.seq/\s.seq<=1000000000)/\1<=s.rev/\s.rev<=H
 rr:∀s∈r,(1<=s.Al/\s.Al<=8)/\(1<=s.seq/\s.seq<=1000000000)/\1<=s.rev/\s.rev<=H
 pa:List.Pairwise (λa b=>a.Al<b.Al) acc
 pr:List.Pairwise (λa b=>a.Al<b.Al) r
 ar:∀a∈acc,∀b∈r,a.Al<b.Al
 nd:done=false->∀a∈acc,a.Al<c
 dn:done=true->∀b∈r,c<b.Al
 ln:acc.length+r.length<=8+(if done then 1 else 0)
theorem Ag3{l x} (h:List.Pairwise (λa b=>a.Al<b.Al) l) (k:∀a∈l,a.Al<x.Al):List.Pairwise (λa b:Cm=>a.Al<b.Al) (l++[x]):=by rw[Ae4];exact⟨h,A6g _ _,λa c b d=>by rw[Eo.1 d];exact k a c⟩
theorem Sk{l x} {p:Cm->Prop} (h:∀a∈l,p a) (k:p x):∀a∈l++[x],p a:=λa b=>by
 rcases Ei.1 b with b|b
 ·exact h a b
 ·rw[Eo.1 b];exact k
theorem B7k{c seq rv H} d (Q:1<=c/\c<=8) (S:1<=seq/\seq<=1000000000) (T:1<=rv/\rv<=H) (t:H0 H d.seen Ab=true) (R:d.seen.length<=8):
  ∃y,A2 (Aa8 c seq rv d) (λs=>((s.1,s.2):List Cm×Bool)) d.seen.length 0 ([],false)=Aa y/\Afb H c [] y.1 y.2:=by
 obtain⟨N,O,_⟩:=(U3 H d.seen Ab).1 t;refine Ab7 (F:=Aa8 c seq rv d) (e:=λ(s:List Cm×Bool)=>((s.1,s.2):List Cm×Bool)) d.seen (λr _ s=>Afb H c r s.1 s.2) (λ_ _ _ y=>Afb H c [] y.1 y.2) (λs t=>t) (λx r k s V hx P=>?_) ([],false) ⟨by simp,N,by simp,O,by simp,by simp,by simp,by simpa using R⟩;obtain⟨o,q⟩:=s;obtain⟨v,M,u,U,B,z,D,w⟩:=P;simp only at v u B z D w;have L:=M x (by simp);have l:=λs t=>M s (Bf _ t);obtain⟨A,j⟩:=N7.1 U;have C:=λa f=>B a f x (by simp);have m:=λa f b i=>B a f b (Bf x i);simp only[B5]at w;unfold Aa8 A4o;rw[hx];simp only;by_cases e:x.Al=c
 ·rw[Av e];refine .inl ⟨_,rfl,⟨v,l,u,j,m,z,λh b i=>D h b (Bf _ i),by simp only;omega⟩,λy n=>n⟩
 ·rw[Ap e];cases q with
  |true=>
   have I:o.length+(r.length+1)<=9:=by simpa using w
   rw[A6,A3,Ad,A3,Aj (by omega)];refine .inl ⟨_,rfl,⟨Sk v L,l,Ag3 u C,j,λa f b i=>?_,λh=>(by cases h),λh b i=>D h b (Bf _ i),?_⟩,λy n=>n⟩
   ·exact Sk (p:=λa=>a.Al<b.Al) (λa f=>m a f b i) (A b i) a f
   ·simp;omega
  |false=>
   have I:o.length+(r.length+1)<=8:=by simpa using w
   rw[Fs,Cg,Ad];by_cases g:c<x.Al
   ·rw[Av g,Aj (by omega),Aj (by simp;omega)];have K:=z rfl;have m1:=Sk (x:=⟨c,seq,rv⟩) (p:=λs=>(1<=s.Al/\s.Al<=8)/\(1<=s.seq/\s.seq<=1000000000)/\1<=s.rev/\s.rev<=H) v ⟨Q,S,T⟩;have m2:=Sk (x:=⟨c,seq,rv⟩) (p:=λs=>s.Al<x.Al) C g;refine .inl ⟨_,rfl,⟨Sk m1 L,l,Ag3 (Ag3 u K) m2,j,λa f b i=>?_,λh=>(by cases h),λ_ b i=>?_,?_⟩,λy n=>n⟩
    ·have G:=A b i;exact Sk (p:=λa=>a.Al<b.Al) (λa f=>by have:=m2 a f;omega) G a f
    ·have:=A b i;omega
    ·simp;omega
   ·rw[Ap g,Aj (by omega)];refine .inl ⟨_,rfl,⟨Sk v L,l,Ag3 u C,j,λa f b i=>?_,λ_=>Sk (p:=λa=>a.Al<c) (z rfl) (by omega),λh=>(by cases h),?_⟩,λy n=>n⟩
    ·exact Sk (p:=λa=>a.Al<b.Al) (λa f=>m a f b i) (A b i) a f
    ·simp;omega
theorem B0t{a b} (h:(Pn a b).2.2=true):Qu (Mz a b)=true:=by
 have g:=Axh h;obtain⟨j,c⟩:=J2 g.1 g.2.1 g.2.2.1;have y:=(Aon j c).1;unfold Qu;rw[g.2.2.2.2.1];have:Mz a b=Co (Mz a b):=by unfold Mz;exact(Anv (Agu y)).symm
 rw[decide_eq_true this];rfl
theorem Bb3{o} (h:Ca o=true):Qu (Co o)=true:=by unfold Qu;rw[Ac3 h,decide_eq_true (Anv (Zr h)).symm];rfl
def Lp:List (List Ae)->List Ae->Option (List Ae)
 |[],v=>Aa v
 |o::r,v=>if(Pn o v).2.2 then Lp r (Pn o v).2.1 else Ab
theorem Ay0:∀ {l:List (List Ae)} {v u:List Ae},Lp l v=Aa u->Qu v=true->Qu u=true
 |[],v,u,h,hv=>by cases h;exact hv
 |o::r,v,u,h,hv=>by
  rw[Lp]at h;split at h
  ·rename_i a;refine Ay0 h ?_;rw[(Axh a).2.2.2.2.2];exact B0t a
  ·cases h
def Zu (l:List (List Ae)) (b:List Ae):List Ae×Bool:=if Ca b then(match Lp l (Co b)with|some v=>(v,true)|none=>([],false))else([],false)
theorem Bf8 l b (j:l.length<=1000):Ar2 l b=Aa (Zu l b):=by
 unfold Ar2 Aj7 Zu;rw[Q8,Ad];cases ho:Ca b with
 |false=>rfl
 |true=>
  rw[A6,A3,Az6,ho,if_pos rfl,Ad,if_pos rfl]
  obtain⟨y,d,a⟩:=Ab7 (F:=Asd l) (e:=λ(s:List (List Ae)×List Ae)=>(Ej (s.1,s.2):Sum (List (List Ae)×List Ae) Unit)) l (λr k s=>s.1.length<=k) (λr _ s y=>match Lp r s.2 with|some v=>∃z,y=Ej (z,v)|none=>y=Bj ()) (λs _=>⟨_,rfl⟩) (λx r k s i hx g=>by
   unfold Asd A44;rw[hx,B62,Ad];simp only[Lp];cases h:(Pn x s.2).2.2 with
   |false=>exact .inr ⟨_,rfl,rfl⟩
   |true=>rw[A6,A3,Aj (by omega)];exact .inl ⟨_,rfl,by simp;omega,λy f=>f⟩) ([],Co b) (by simp)
  rw[d,Ad];simp only at a;cases c:Lp l (Co b)with
  |some v=>rw[c]at a;obtain⟨z,rfl⟩:=a;rfl
  |none=>rw[c]at a;subst a;rfl
theorem Bxr (l:List A8):∀s,l.foldl (λs e=>s++[e.o]) s=s++l.map λe=>e.o:=by
 induction l with
 |nil=>intro s;simp
 |cons x l a=>intro s;rw[Fx,a];simp
theorem Bf7{d} (h:Ht d) (f:C5 d=true) rev:Ar1 d rev=Aa (if d.from_<=rev/\rev<=d.from_+d.list.length then((d.list.drop (rev-d.from_).toNat).map (λe=>e.o),true)else([],false)):=by
 obtain⟨g,j⟩:=Jc f;have c:=Aht h.2.2.2.1 (rev-d.from_).toNat;have i:(d.list.drop (rev-d.from_).toNat).length<=8:=by rw[D0];omega
 unfold Ar1;rw[Q7 d h,Ad,f,A6,A3,Uz g (by omega),Ad,Hs,Ad,Ad];by_cases a:d.from_<=rev/\rev<=d.from_+d.list.length
 ·rw[decide_eq_true a,A6,A3,Bh (by omega) (by omega),Aj ⟨by omega,by omega⟩,if_pos a,Hd]
  rw[I9 (F:=A4h d rev) (e:=λ(s:List (List Ae))=>s) (d.list.drop (rev-d.from_).toNat) (λr k s=>s.length<=k) (λs e=>s++[e.o]) (λx r k s b hx l=>by
   unfold A4h Bkw;rw[Hd,A0d (c.2 _ (Cj b)).2.2,Ad,Aj (by omega),hx];exact⟨rfl,by simp;omega⟩) [] (by simp),Bxr]
  rfl
 ·rw[decide_eq_false a,Fs,Cg,if_neg a]
theorem B6q{d} (h:Ht d) (a:C5 d=true) base o:∃x c,Aei d base o=Aa (x,c)/\(c=0->Qu x=true/\Gm x (Hz d.list d.text)=true):=by
 obtain⟨f,j⟩:=Jc a;unfold Aei;rw[Q7 d h,Ad,a,A6,A3,Q8,Ad,Ad];cases ho:Ca o with
 |false=>exact⟨_,_,rfl,λh=>absurd h (by decide)⟩
 |true=>
  rw[A6,A3,Uz f (by omega),Ad];by_cases g1:d.from_+(d.list.length:Int)<base
  ·rw[Av g1];exact⟨_,_,rfl,λh=>absurd h (by decide)⟩
  ·rw[Ap g1];by_cases g2:base<d.from_
   ·rw[Av g2];exact⟨_,_,rfl,λh=>absurd h (by decide)⟩
   ·rw[Ap g2,Ao2 h a,if_pos ⟨by omega,by omega⟩,Ad,Ahm,Ad,C2];generalize decide ((if Gf o=true then Dl o else 0)=(((Hz (d.list.take (base-d.from_).toNat) d.text,true).1.length:Nat):Int))=b;cases b with
    |false=>exact⟨_,_,rfl,λh=>absurd h (by decide)⟩
    |true=>
     rw[Cg,Bf7 h a,if_pos ⟨by omega,by omega⟩,Ad,Bf8 _ _ (by simp;omega),Ad];unfold Zu;rw[ho,if_pos rfl];cases i:Lp ((d.list.drop (base-d.from_).toNat).map λe=>e.o) (Co o)with
     |none=>exact⟨_,_,rfl,λh=>absurd h (by decide)⟩
     |some v=>
      simp only;rw[A6,A3,Aoy h a,Ad,Adm,Ad];cases g:Gm v (Hz d.list d.text)with
      |false=>exact⟨_,_,rfl,λh=>absurd h (by decide)⟩
      |true=>exact⟨_,_,rfl,λ_=>⟨Ay0 i (Bb3 ho),g⟩⟩
theorem B2c{o} (h:Ca o=true):Gx Aac o:=Lv A0u o (by have:=Ax7 h;omega)
theorem Al4{e} (h:E3 e=true):Nc e:=by unfold E3 at h;simp only[A9]at h;exact⟨trivial,trivial,B2c (Bb4 h.2).1⟩
theorem A0s{d} (c:d.name.size<=1099511627776) (b:C5 d=true):Ht d:=by have a:=Ku b;have h:=Ln a.2.1;have g:=Zq b;exact⟨c,trivial,⟨by omega,λ_ _=>trivial⟩,⟨by omega,λe f=>Al4 (Ff.1 a.2.2.2.1 e f)⟩,⟨by omega,λ_ _=>⟨trivial,trivial,trivial⟩⟩⟩
theorem Ahi{d} (h:Ht d) (a:C5 d=true):Vt d=Aa d:=by have c:=Ln (Ku a).2.1;have b:=Zq a;unfold Vt;rw[Aj (by omega),Ss h.2.2.2.1,Ad,Aj (by omega)];rfl
theorem Bhf{d e S'} {rv:Int} (j:C5 d=true) (q:E3 e=true) (r:Gm e.o (Hz d.list d.text)=true) (s:d.from_+d.list.length<999999000) (m:H0 (d.from_+d.list.length+1) S' Ab=true):
  ∃c,(bif decide ((8:Int)<((d.list++[e]).length:Int))then(xg (0<=(0:Int)/\(0:Int)<((d.list++[e]).length:Int))<|Ac (O6 ((el (d.list++[e]) 0).o) d.text) λh=>xg (0<=(1:Int)/\(1:Int)<=((d.list++[e]).length:Int))<|xg (Aq (d.from_+1))<|some ((⟨d.name,d.from_+1,h.1,((d.list++[e]).take ((d.list++[e]).length)).drop 1,S'⟩:Ao),rv,(0:Int)))else(Aa ((⟨d.name,d.from_,d.text,d.list++[e],S'⟩:Ao),rv,0)))=Aa (c,rv,0)/\C5 c=true/\c.name=d.name/\c.from_+c.list.length=d.from_+d.list.length+1:=by
 have n:=Ku j;have p:=W1 j;have a:(Fz (d.list++[e]) d.text).isSome=true:=by rw[Av0,Av2 (Ac2 j),Ad,Fz,r,q];rfl
 have b:((d.list++[e]).length:Int)=d.list.length+1:=by simp
 by_cases g:(8:Int)<((d.list++[e]).length:Int)
 ·rw[Av g,Aj ⟨by omega,by omega⟩];cases k:d.list++[e]with
  |nil=>rw[k]at b;simp at b;omega
  |cons i l=>
   rw[k]at a b;rw[Fz]at a;cases f:Gm i.o d.text&&E3 i with
   |false=>rw[f]at a;cases a
   |true=>rw[f,if_pos rfl]at a;simp only[A9]at f;simp only[B5]at b;rw[show el (i::l) 0=i from rfl,Adm,if_pos f.1,Ad,Aj ⟨by omega,by simp only[B5];omega⟩,Bh (by omega) (by omega),Hd];refine⟨_,rfl,Ax4 p ⟨by simp only;omega,by simp only;omega⟩ (Anz f.1) (by simp only[Abg,Nh];omega) a ?_,rfl,by simp only[Abg,Nh];omega⟩;simp only[Abg,Nh];rw[show d.from_+1+(l.length:Int)=d.from_+d.list.length+1 by omega];exact m
 ·rw[Ap g];refine⟨_,rfl,Ax4 p n.1 n.2.1 (by simp only;omega) a ?_,rfl,by simp only;omega⟩;simp only;rw[b,show d.from_+((d.list.length:Int)+1)=d.from_+d.list.length+1 by omega];exact m
theorem B0c{H c acc} (h:Afb H c [] acc true):H0 H acc Ab=true:=(U3 H acc Ab).2 ⟨h.ra,h.pa,λq a=>by cases a⟩
theorem B0d{H c seq rv acc} (h:Afb H c [] acc false) (b:1<=c/\c<=8) (a:1<=seq/\seq<=1000000000) (d:1<=rv/\rv<=H):H0 H (acc++[⟨c,seq,rv⟩]) Ab=true:=
 (U3 H _ Ab).2 ⟨Sk h.ra ⟨b,a,d⟩,Ag3 h.pa (h.nd rfl),λq a=>by cases a⟩
theorem B7w{H a} (f:H<=a){l} (h:H0 H l Ab=true):H0 a l Ab=true:=by obtain⟨b,c,_⟩:=(U3 H l Ab).1 h;exact(U3 a l Ab).2 ⟨λs e=>by have:=b s e;exact⟨this.1,this.2.1,this.2.2.1,by omega⟩,c,λq d=>by cases d⟩
theorem B6y{d} (h:Ht d) (f:C5 d=true) Al seq base o:∃e r c,Aek d Al seq base o=Aa (e,r,c)/\(c=0->C5 e=true/\e.name=d.name/\e.from_+e.list.length<=d.from_+d.list.length+1):=by
 obtain⟨w,Q⟩:=Jc f;have z:=Ku f;unfold Aek;rw[Q7 d h,Ad,f,A6,A3,Hs,Ad,Ad];have a:∀ {X:Option (Ao×Int×Int)} {c:Int},c≠0->X=Aa (⟨Cb,0,[],[],[]⟩,0,c)->∃e r c,X=Aa (e,r,c)/\(c=0->C5 e=true/\e.name=d.name/\e.from_+e.list.length<=d.from_+d.list.length+1):=λG F=>⟨_,_,_,F,λh=>absurd h G⟩;by_cases g:1<=Al/\Al<=8
 ·rw[decide_eq_true g,A6,A3,Hs,Ad,Ad];by_cases i:1<=seq/\seq<=1000000000
  ·rw[decide_eq_true i,A6,A3,Q8,Ad,Ad];cases ho:Ca o with
   |false=>exact a (by decide) rfl
   |true=>
    rw[A6,A3];obtain⟨s,b,s1,m⟩:=B6u d Al;rw[s1,Ad]
    have K:0<=s.seq/\s.seq<=1000000000:=by
     rcases m with m|rfl
     ·have:=((U3 _ _ _).1 z.2.2.2.2).1 s m;omega
     ·simp
    simp only;have D:(bif b then Aa (decide (s.seq=seq))else Aa false)=Aa (b&&decide (s.seq=seq)):=by cases b<;>rfl
    rw[D,Ad];cases R:(b&&decide (s.seq=seq))with
    |true=>rw[Cg,Ahi h f,Ad];exact⟨_,_,_,rfl,λ_=>⟨f,rfl,by omega⟩⟩
    |false=>
     rw[A3,Bh (by omega) (by omega),C2];by_cases u:seq=s.seq+1
     ·rw[Av u];obtain⟨x,c,M,N⟩:=B6q h f base o;rw[M,Ad];simp only;rw[C2];by_cases k:c=0
      ·rw[Av k,Uz w (by omega),Ad];obtain⟨L,B⟩:=N k;by_cases v:(999999000:Int)<=d.from_+d.list.length
       ·rw[Av v];exact a (by decide) rfl
       ·rw[Ap v,Ahi h f,Ad,Aj (by omega),Uz (d:=⟨d.name,d.from_,d.text,d.list++[(⟨Al,seq,x⟩:A8)],d.seen⟩) w (by simp;omega),Ad];have A:E3 ⟨Al,seq,x⟩=true:=by unfold E3;simp only;rw[decide_eq_true g,decide_eq_true i,L];rfl
        have l:d.from_+(((d.list++[(⟨Al,seq,x⟩:A8)]).length:Nat):Int)=d.from_+d.list.length+1:=by simp;omega
        simp only[l];obtain⟨y,P,t⟩:=B7k (c:=Al) (seq:=seq) (rv:=d.from_+d.list.length+1) (H:=d.from_+d.list.length+1) d g i ⟨by omega,by omega⟩ (B7w (by omega) z.2.2.2.2) (Zq f);rw[P,Ad];obtain⟨C,j⟩:=y;cases j with
        |true=>obtain⟨e,n,p,q,O⟩:=Bhf (rv:=d.from_+d.list.length+1) f A B (by omega) (B0c t);simp only[A6,A3];rw[n];exact⟨_,_,_,rfl,λ_=>⟨p,q,by omega⟩⟩
        |false=>have I:=t.ln;simp only[C0,I3,if_false]at I;obtain⟨e,n,p,q,O⟩:=Bhf (rv:=d.from_+d.list.length+1) f A B (by omega) (B0d (seq:=seq) (rv:=d.from_+d.list.length+1) t g i ⟨by omega,by omega⟩);simp only[Fs,Cg];rw[Aj (by omega),n];exact⟨_,_,_,rfl,λ_=>⟨p,q,by omega⟩⟩
      ·rw[Ap k];exact a k rfl
     ·rw[Ap u];exact a (by decide) rfl
  ·rw[decide_eq_false i,Fs,Cg,Ad,Cg];exact a (by decide) rfl
 ·rw[decide_eq_false g,Fs,Cg,Ad,Cg,Ad,Cg];exact a (by decide) rfl
theorem Axx{s} (j:1<=s.size) (k:s.size<=8) (e:∀i,i<s.size->97<=(Du s i).toNat/\(Du s i).toNat<=122):Gp s=true:=by
 have a:Ml s=Aa true:=by
  unfold Ml
  obtain⟨y,c,d⟩:=Kt (f:=Xx s) (λi=>0<=i/\i<=s.size) (λi=>((s.size:Int)-i).toNat) (λy=>y=Ej ()) (λi b=>by
   unfold Xx Aqo;by_cases hi:i<(s.size:Int)
   ·obtain⟨g,h⟩:=e i.toNat (by omega);rw[Av hi,Aj ⟨b.1,hi⟩,Aj ⟨b.1,hi⟩,Ap (by omega),Ad,Ap (by omega),Bh (by omega) (by omega)];exact .inl ⟨_,rfl,⟨by omega,by omega⟩,by omega⟩
   ·rw[Ap hi];exact .inr ⟨_,rfl,rfl⟩) 0 ⟨by omega,by omega⟩
  rw[c,Ad,d,Jg,G5,Ad,decide_eq_true (by omega)]
 unfold Gp;rw[a];rfl
theorem B6x c l (h:cur c) (f:0<l.length):∃m d,Vr c l=Aa (m,d)/\m∈l/\cur d:=by unfold Vr;obtain⟨m,d,a,b,e⟩:=Uy c (l.length:Int) h;rw[a,Ad,Aj ⟨b.1,by simp only;omega⟩];exact⟨_,_,rfl,Cj (by simp only;omega),e⟩
theorem B6l c (h:cur c):∃s d,Rp c=Aa (s,d)/\Gp s=true/\s.size<=8/\cur d:=by
 unfold Rp;obtain⟨m,d,b,a,e⟩:=B6x c [(⟨#[97]⟩:Cea),(⟨#[98]⟩:Cea),(⟨#[110,111,116,101,115]⟩:Cea),(⟨#[116,111,100,111]⟩:Cea)] h (by simp);rw[b,Ad];refine⟨m,d,rfl,?_,?_,e⟩
 ·simp only[Bq,Ae3,or_false]at a;rcases a with rfl|rfl|rfl|rfl<;>exact Axx (by decide) (by decide) (by decide)
 ·simp only[Bq,Ae3,or_false]at a;rcases a with rfl|rfl|rfl|rfl<;>decide
theorem Bfu{name} (c:Gp name=true) (e:name.size<=8){t} (b:Ed t=true):Aed name t=Aa (⟨name,0,t,[],[]⟩,true)/\C5 ⟨name,0,t,[],[]⟩=true:=by have d:=Ln b;have a:C5 ⟨name,0,t,[],[]⟩=true:=Ax4 c ⟨by simp,by simp⟩ b (by simp) rfl rfl;refine⟨?_,a⟩;unfold Aed;rw[Aj (by omega),Iu,Q7 _ (A0s (by simp only;omega) a),a];rfl
section
section
variable {T σ ρ:Type} [Inhabited T]
def Fj (q:Option T->T->Bool):Option T->List T->Bool
 |_,[]=>true
 |p,x::r=>q p x&&Fj q (Aa x) r
theorem Al1{F} {a b:ρ} l (q:Option T->T->Bool) (i:∀k x,k<l.length->el l k=x->F k ()=Aa (bif q (if k=0 then Ab else Aa (el l (k-1))) x then .go ()else .out b)):
  A2 F (λ_=>a) l.length 0 ()=Aa (bif Fj q Ab l then a else b):=by
 have h:=Fk (F:=F) (e:=λ_=>a) l (λ_ _ _=>True) (λr k _=>bif Fj q (if k=0 then Ab else Aa (el l (k-1))) r then a else b) (λ_ _=>rfl) (λx r k s g hx _=>by
  have c:=i k x g hx;have f:(if k+1=0 then Ab else Aa (el l (k+1-1)))=Aa x:=by rw[if_neg (by omega),Akt,hx]
  simp only[f,Fj];cases d:q (if k=0 then Ab else Aa (el l (k-1))) x with
  |true=>exact .inl ⟨(),by rw[c,d];rfl,trivial,by simp⟩
  |false=>exact .inr (by rw[c,d];simp)) () trivial
 simpa using h
omit [Inhabited T]in
theorem At1 {q:Option T->T->Bool}:∀ {l:List T} {p:Option T},Fj q p l=true->∀x∈l,∃p,q p x=true
 |[],_,_,_,h=>by cases h
 |y::r,p,h,x,hx=>by
  simp only[Fj,A9]at h;rcases Bq.1 hx with rfl|hx
  ·exact⟨p,h.1⟩
  ·exact At1 h.2 x hx
def Jz (g:T->Bool):Option T->Bool
 |none=>false
 |some p=>g p
theorem Adb l (g:T->Bool) {k:Nat} (b:l.length<=1099511627776) (a:k<l.length):
  (bif decide ((0:Int)<(k:Int))then(xg (Aq ((k:Int)-1))<|xg (0<=((k:Int)-1)/\((k:Int)-1)<(l.length:Int))<|some (g (el l (((k:Int)-1).toNat))))else(Aa false))=Aa (Jz g (if k=0 then Ab else Aa (el l (k-1)))):=by
 cases k with
 |zero=>rfl
 |succ k=>rw[Av (by omega),Bh (by omega) (by omega),Aj ⟨by omega,by omega⟩,if_neg (by omega),show(((k+1:Nat):Int)-1).toNat=k+1-1 by omega,Jz]
def E6 (p:T->Bool) (l:List T):Int:=if l.any p then(l.findIdx p:Int)else-1
theorem Y2{F e} l (p:T->Bool) (s:σ) (g:Int->ρ) (i:∀x k,k<l.length->el l k=x->F k s=Aa (bif p x then .out (g k)else .go s)):
  A2 F e l.length 0 s=Aa (if 0<=E6 p l then g (E6 p l)else e s):=by
 have h:=Fk (F:=F) (e:=e) l (λ_ _ s'=>s'=s) (λr k _=>if r.any p then g ((k+r.findIdx p:Nat):Int)else e s) (λs' a=>by rw[a];rfl) (λx r k s' f hx a=>by
  subst a;have c:=i x k f hx;rw[A51,A55];cases d:p x with
  |true=>exact .inr (by rw[c,d];simp)
  |false=>refine .inl ⟨s',by rw[c,d];rfl,rfl,?_⟩;simp only[Rr,cond_false];rw[show k+(List.findIdx p r+1)=k+1+List.findIdx p r by omega]) s rfl
 rw[h];unfold E6;by_cases b:l.any p=true
 ·rw[if_pos b,if_pos b,if_pos (by omega),L3]
 ·rw[if_neg b,if_neg b,if_neg (by omega)]
omit [Inhabited T]in
theorem Acq (p:T->Bool) (l:List T): -1<=E6 p l:=by unfold E6;split<;>omega
omit [Inhabited T]in
theorem Zg (p:T->Bool) (l:List T):E6 p l<l.length:=by
 unfold E6;split
 ·rename_i h;obtain⟨x,hx,a⟩:=As6.1 h;have:=Bq4 ⟨x,hx,a⟩;omega
 ·omega
theorem Ws{p} {l:List T} (h:0<=E6 p l):(E6 p l).toNat<l.length/\p (el l (E6 p l).toNat)=true:=by
 have c:=Zg p l;refine⟨by omega,?_⟩;unfold E6 at h⊢;by_cases a:l.any p=true
 ·rw[if_pos a]at h⊢;obtain⟨x,hx,d⟩:=As6.1 a;have b:=Bq4 ⟨x,hx,d⟩;rw[Gb,F9 b];exact List.findIdx_getElem
 ·rw[if_neg a]at h;omega
omit [Inhabited T]in
theorem Agh {p:T->Bool} {l:List T}:E6 p l<0↔∀x∈l,p x=false:=by
 unfold E6;by_cases a:l.any p=true
 ·rw[if_pos a];obtain⟨x,hx,b⟩:=As6.1 a;constructor
  ·intro h;omega
  ·intro h;rw[h x hx]at b;cases b
 ·rw[if_neg a];constructor
  ·intro _ x hx;cases b:p x with
   |false=>rfl
   |true=>exact absurd (As6.2 ⟨x,hx,b⟩) a
  ·intro _;omega
def Mr (p:Nat->T->Bool):Nat->List T->Bool
 |_,[]=>true
 |k,x::r=>p k x&&Mr p (k+1) r
theorem Al0{F} {a b:ρ} l (p:Nat->T->Bool) (f:∀x k,k<l.length->el l k=x->F k ()=Aa (bif p k x then .go ()else .out b)):
  A2 F (λ_=>a) l.length 0 ()=Aa (bif Mr p 0 l then a else b):=
 Fk (F:=F) (e:=λ_=>a) l (λ_ _ _=>True) (λr k _=>bif Mr p k r then a else b) (λ_ _=>rfl) (λx r k s d hx _=>by
  have h:=f x k d hx;cases c:p k x with
  |true=>exact .inl ⟨(),by rw[h,c];rfl,trivial,by simp[Mr,c]⟩
  |false=>exact .inr (by rw[h,c];simp[Mr,c])) () trivial
theorem Abp{p}:∀ {l:List T} {k:Nat},Mr p k l=true↔∀i,i<l.length->p (k+i) (el l i)=true
 |[],k=>by simp[Mr]
 |x::r,k=>by
  rw[Mr,A9,Abp];constructor
  ·rintro ⟨h1,h2⟩ i hi;cases i with
   |zero=>exact h1
   |succ i=>rw[A99,show k+(i+1)=k+1+i by omega];exact h2 i (by simpa using hi)
  ·intro h;refine⟨h 0 (by simp),λi hi=>?_⟩;have:=h (i+1) (by simpa using hi);rwa [A99,show k+(i+1)=k+1+i by omega]at this
end
end
def Gv (r:Db):Bool:=(((decide (1<=r.cap/\r.cap<=6)&&decide (1<=r.next/\r.next<=1000000000))&&decide ((r.list.length:Int)<=r.cap))&&(!r.out||decide (r.list.length=0)))&&r.list.all E3
theorem Agb r:Rk r=Aa (Gv r):=by
 unfold Rk Gv
 rw[Ug (b:=.inr ()) r.list E3 (λx k a hx=>by
  unfold A2k A2j;rw[hx,Awj];cases E3 x<;>rfl)]
 simp only[G5,Ad,Dj,Gc,F8,Lf,Mu,C2];cases r.list.all E3<;>cases r.out<;>simp only[cond_true,cond_false,Jg,Ato,Dj,Lf,A6,Fs,Akl,K1,Akk,Akj,Rs,Rr,Asz,Asy]<;>refine Km ?_<;>simp<;>omega
theorem Ahn r:Rm r=Aa (Gv r):=by
 unfold Rm Gv
 rw[Ug (b:=.inr ()) r.list E3 (λx k a hx=>by
  unfold A4j A4i;rw[hx,Az3];cases E3 x<;>rfl)]
 simp only[Hs,Ad,Dj,Gc,F8,Lf,Mu,C2];cases r.list.all E3<;>cases r.out<;>simp only[cond_true,cond_false,Jg,Ato,Dj,Lf,A6,Fs,Akl,K1,Akk,Akj,Rs,Rr,Asz,Asy]<;>refine Km ?_<;>simp<;>omega
def B9 (l:List Ao) (n:Cea):Int:=E6 (λd=>decide (d.name=n)) l
theorem Ul h n:N6 h n=Aa (B9 h.Am n):=by
 unfold N6 Ajf
 rw[Y2 h.Am (λd=>decide (d.name=n)) n (λk=>.inr (k,n)) (λx k a hx=>by
  unfold A3o A3n Aqi;rw[hx];cases decide (x.name=n)<;>rfl)]
 unfold B9;simp only[Ad];split
 ·rfl
 ·have:=Acq (λd:Ao=>decide (d.name=n)) h.Am;show Aa (-1)=_;congr 1;omega
theorem Su h n:Lz h n=Aa (B9 h.Am n):=by
 unfold Lz
 rw[Y2 h.Am (λd=>decide (d.name=n)) () (λk=>.inr k) (λx k a hx=>by
  unfold A33 A32;rw[hx];cases decide (x.name=n)<;>rfl)]
 unfold B9;simp only[Ad];split
 ·rfl
 ·have:=Acq (λd:Ao=>decide (d.name=n)) h.Am;show Aa (-1)=_;congr 1;omega
def Ec (d:Ao):Int:=d.from_+d.list.length
theorem Ack{d} (h:C5 d=true):It d=Aa (Ec d):=by have:=Jc h;unfold It Ec;rw[Bh (by omega) (by omega)]
theorem Z5{d} (h:C5 d=true):Gy d=Aa (Ec d):=by have:=Jc h;unfold Gy Ec;rw[Bh (by omega) (by omega)]
def Jk (p:Option Ao) (d:Ao):Bool:=C5 d&&!Jz (λp=>!Cv p.name d.name) p
def N3 (h:Aw) (p:Option A0) (s:A0):Bool:=
 (((decide (1<=s.id/\s.id<=h.last)&&!Jz (λp=>decide (s.id<=p.id)) p)&&Gv s.r)&&decide (0<=B9 h.Am s.Ah))&&(s.r.out||decide (s.r.next+(s.r.list.length:Int)=Ec (el h.Am (B9 h.Am s.Ah).toNat)+1))
def Mg (h:Aw):Bool:=((decide (h.Am.length<=5)&&decide (h.Ax.length<=6))&&decide (0<=h.last/\h.last<=1000000000))&&(Fj Jk Ab h.Am&&Fj (N3 h) Ab h.Ax)
theorem N0{r} (h:Gv r=true):(1<=r.cap/\r.cap<=6)/\(1<=r.next/\r.next<=1000000000)/\(r.list.length:Int)<=r.cap/\(r.out=true->r.list=[])/\r.list.all E3=true:=by
 unfold Gv at h;simp only[A9,decide_eq_true_eq,Ha,L2]at h;refine⟨h.1.1.1.1,h.1.1.1.2,h.1.1.2,λho=>?_,h.2⟩;rcases h.1.2 with a|a
 ·rw[ho]at a;cases a
 ·exact I4 a
theorem Ba9 {h:Aw}{X Y} (c:(h.Am.length<=5/\h.Ax.length<=6)/\0<=h.last/\h.last<=1000000000->X=Y) (b:¬((h.Am.length<=5/\h.Ax.length<=6)/\0<=h.last/\h.last<=1000000000)->Y=Aa false):
  (bif ((decide ((5:Int)<(h.Am.length:Int))||decide ((6:Int)<(h.Ax.length:Int)))||!decide (0<=h.last/\h.last<=1000000000))then Aa false else X)=Y:=by
 by_cases a:(h.Am.length<=5/\h.Ax.length<=6)/\0<=h.last/\h.last<=1000000000
 ·rw[decide_eq_true a.2,decide_eq_false (p:=(5:Int)<(h.Am.length:Int)) (by omega),decide_eq_false (p:=(6:Int)<(h.Ax.length:Int)) (by omega)];exact c a
 ·rw[b a];have:((decide ((5:Int)<(h.Am.length:Int))||decide ((6:Int)<(h.Ax.length:Int)))||!decide (0<=h.last/\h.last<=1000000000))=true:=by simp only[Ha,decide_eq_true_eq,L2,decide_eq_false_iff_not];omega
  rw[this];rfl
theorem Bdg{h} (b:¬((h.Am.length<=5/\h.Ax.length<=6)/\0<=h.last/\h.last<=1000000000)):Mg h=false:=by
 cases a:Mg h with
 |false=>rfl
 |true=>unfold Mg at a;simp only[A9,decide_eq_true_eq]at a;exact absurd a.1 b
theorem Ax5{h} (a:(h.Am.length<=5/\h.Ax.length<=6)/\0<=h.last/\h.last<=1000000000):Mg h=(Fj Jk Ab h.Am&&Fj (N3 h) Ab h.Ax):=by unfold Mg;rw[decide_eq_true a.1.1,decide_eq_true a.1.2,decide_eq_true a.2];rfl
theorem Aud{l p} (h:Fj Jk p l=true):∀d∈l,C5 d=true:=λd b=>by obtain⟨q,a⟩:=At1 h d b;unfold Jk at a;simp only[A9]at a;exact a.1
theorem Bbh h (s:Aab h):Mk h=Aa (Mg h):=by
 obtain⟨_,o,u,_⟩:=s;unfold Mk;simp only[G5,Ad,Dj,F8];refine Ba9 (λj=>?_) (λj=>by rw[Bdg j])
 rw[Ax5 j,Al1 (b:=.inr ()) h.Am Jk (λk x g hx=>by
  unfold A2f A2d;have e:=Adb h.Am (λp=>!Cv p.name x.name) o.1 g;rw[hx,Za x (hx▸o.2 _ (Cj g)),Ad,e];simp only[Ad,Dj,F8,Jk];cases C5 x<;>cases Jz (λp=>!Cv p.name x.name) (if k=0 then Ab else Aa (el h.Am (k-1)))<;>rfl),Ad]
 cases a:Fj Jk Ab h.Am with
 |false=>rfl
 |true=>
  have m:=Aud a;simp only[cond_true,Jg,K1]
  rw[Al1 (b:=.inr false) h.Ax (N3 h) (λk x g hx=>by
   unfold A2g A2e;have e:=Adb h.Ax (λp=>decide (x.id<=p.id)) u.1 g;rw[hx,Ul,Ad,e,G5];rw[Agb];simp only[Ad,Dj,F8,N3];generalize Jz (λp:A0=>decide (x.id<=p.id)) (if k=0 then Ab else Aa (el h.Ax (k-1)))=q;generalize z:decide (1<=x.id/\x.id<=h.last)=w;cases t:Gv x.r with
   |false=>cases w<;>cases q<;>rfl
   |true=>
    have v:=N0 t;have n:=Zg (λd:Ao=>decide (d.name=x.Ah)) h.Am;by_cases hi:0<=B9 h.Am x.Ah
    ·have c:B9 h.Am x.Ah<h.Am.length:=n;have f:=m _ (Cj (l:=h.Am) (i:=(B9 h.Am x.Ah).toNat) (by omega));have y:=Jc f;rw[decide_eq_false (p:=B9 h.Am x.Ah<0) (by omega),decide_eq_true hi,Bh (by omega) (by omega),Aj ⟨hi,c⟩,Ack f,Ad,Bh (by unfold Ec;omega) (by unfold Ec;omega)]
     cases w<;>cases q<;>cases x.r.out<;>simp only[cond_true,cond_false,A6,Fs,Rs,Asy,Asz,Rr,Akk,Akj,K1,Akl,Ad]<;>
      cases decide (x.r.next+(x.r.list.length:Int)=Ec (el h.Am (B9 h.Am x.Ah).toNat)+1)<;>rfl
    ·rw[decide_eq_true (p:=B9 h.Am x.Ah<0) (by omega),decide_eq_false hi];cases w<;>cases q<;>rfl),Ad]
  cases Fj (N3 h) Ab h.Ax<;>rfl
theorem Bfx h (s:Aab h):Mm h=Aa (Mg h):=by
 obtain⟨_,o,u,_⟩:=s;unfold Mm;simp only[Hs,Ad,Dj,F8];refine Ba9 (λj=>?_) (λj=>by rw[Bdg j])
 rw[Ax5 j,Al1 (b:=.inr ()) h.Am Jk (λk x g hx=>by
  unfold A36 A34;have e:=Adb h.Am (λp=>!Cv p.name x.name) o.1 g;rw[hx,Q7 x (hx▸o.2 _ (Cj g)),Ad,e];simp only[Ad,Dj,F8,Jk];cases C5 x<;>cases Jz (λp=>!Cv p.name x.name) (if k=0 then Ab else Aa (el h.Am (k-1)))<;>rfl),Ad]
 cases a:Fj Jk Ab h.Am with
 |false=>rfl
 |true=>
  have m:=Aud a;simp only[cond_true,Jg,K1]
  rw[Al1 (b:=.inr false) h.Ax (N3 h) (λk x g hx=>by
   unfold A37 A35;have e:=Adb h.Ax (λp=>decide (x.id<=p.id)) u.1 g;rw[hx,Su,Ad,e,Hs];rw[Ahn];simp only[Ad,Dj,F8,N3];generalize Jz (λp:A0=>decide (x.id<=p.id)) (if k=0 then Ab else Aa (el h.Ax (k-1)))=q;generalize z:decide (1<=x.id/\x.id<=h.last)=w;cases t:Gv x.r with
   |false=>cases w<;>cases q<;>rfl
   |true=>
    have v:=N0 t;have n:=Zg (λd:Ao=>decide (d.name=x.Ah)) h.Am;by_cases hi:0<=B9 h.Am x.Ah
    ·have c:B9 h.Am x.Ah<h.Am.length:=n;have f:=m _ (Cj (l:=h.Am) (i:=(B9 h.Am x.Ah).toNat) (by omega));have y:=Jc f;rw[decide_eq_false (p:=B9 h.Am x.Ah<0) (by omega),decide_eq_true hi,Bh (by omega) (by omega),Aj ⟨hi,c⟩,Z5 f,Ad,Bh (by unfold Ec;omega) (by unfold Ec;omega)]
     cases w<;>cases q<;>cases x.r.out<;>simp only[cond_true,cond_false,A6,Fs,Rs,Asy,Asz,Rr,Akk,Akj,K1,Akl,Ad]<;>
      cases decide (x.r.next+(x.r.list.length:Int)=Ec (el h.Am (B9 h.Am x.Ah).toNat)+1)<;>rfl
    ·rw[decide_eq_true (p:=B9 h.Am x.Ah<0) (by omega),decide_eq_false hi];cases w<;>cases q<;>rfl),Ad]
  cases Fj (N3 h) Ab h.Ax<;>rfl
def Iv:Ao:=⟨Cb,0,[],[],[]⟩
def I0 (l:List Cm) (c:Int):Cm×Bool:=match l.find? (λs=>decide (s.Al=c))with
 |some s=>(s,true)
 |none=>(⟨0,0,0⟩,false)
def Adq (l:List Cm) (c:Int):Sum Unit (Bool×Int×Int×Int):=match l.find? (λs=>decide (s.Al=c))with
 |some s=>Bj (true,s.Al,s.seq,s.rev)
 |none=>Ej ()
theorem Bgs l c:B2 (λb=>Aa ((⟨0,0,0⟩:Cm),false)) (λa=>Aa ((⟨a.2.1,a.2.2.1,a.2.2.2⟩:Cm),a.1)) (Adq l c)=Aa (I0 l c):=by unfold Adq I0;cases l.find? (λs=>decide (s.Al=c))<;>rfl
theorem Bgr{F} l c (b:∀k x,k<l.length->el l k=x->F k ()=bif decide (x.Al=c)then Aa (Lr.out (Bj (true,x.Al,x.seq,x.rev)))else Aa (Lr.go ())):
  A2 F (λ_=>(Ej ():Sum Unit (Bool×Int×Int×Int))) l.length 0 ()=Aa (Adq l c):=
 Fk (F:=F) l (λ_ _ _=>True) (λr _ _=>Adq r c) (λ_ _=>rfl) (λx r k s a hx _=>by
  rw[b k x a hx];by_cases h:x.Al=c
  ·rw[Av h];exact .inr (by unfold Adq;rw[List.find?_cons_of_pos (by simpa using h)])
  ·rw[Ap h];exact .inl ⟨(),rfl,trivial,by unfold Adq;rw[List.find?_cons_of_neg (by simpa using h)]⟩) () trivial
theorem Bzq d c:Ad4 d c=Aa (I0 d.seen c):=by unfold Ad4;rw[Bgr d.seen c (λk x a hx=>by unfold A2n A2m;rw[hx]),Ad,Bgs]
theorem A0h d c:Tf d c=Aa (I0 d.seen c):=by unfold Tf;rw[Bgr d.seen c (λk x a hx=>by unfold Ajv Ar7;rw[hx]),Ad,Bgs]
theorem A0k{d} (a:C5 d=true) c:0<=(I0 d.seen c).1.seq/\(I0 d.seen c).1.seq<=1000000000/\((I0 d.seen c).2=false->(I0 d.seen c).1.seq=0):=by
 unfold I0;cases h:d.seen.find? (λs=>decide (s.Al=c))with
 |none=>exact⟨by simp,by simp,λ_=>rfl⟩
 |some s=>have:=((U3 _ _ _).1 (Ku a).2.2.2.2).1 s (Bra h);exact⟨by simp only;omega,by simp only;omega,λh=>by cases h⟩
theorem Bbm{d} (h:Ht d) (a:C5 d=true) rev:Aix d rev=Aa (if d.from_<=rev/\rev<=d.from_+d.list.length then(Hz (d.list.take (rev-d.from_).toNat) d.text,true)else([],false)):=by
 obtain⟨c,i⟩:=Jc a;have f:=(Amh (Ac2 a) (rev-d.from_).toNat).1;have e:(d.list.take (rev-d.from_).toNat).all E3=true:=Ff.2 λx hx=>Ff.1 (Ku a).2.2.2.1 x (V3 hx);have g:Gx Nc (d.list.take (rev-d.from_).toNat):=⟨by rw[Dh];have:=h.2.2.2.1.1;omega,λx hx=>h.2.2.2.1.2 x (V3 hx)⟩;unfold Aix;rw[Za d h,Ad,a,A6,A3,Acl c (by omega),Ad,G5,Ad,Ad];by_cases b:d.from_<=rev/\rev<=d.from_+d.list.length
 ·rw[decide_eq_true b,A6,A3,Bh (by omega) (by omega),Aj ⟨by omega,by omega⟩,if_pos b,Nh,Aws g,Ad,Bbb,(Ku a).2.1,if_pos rfl,<-Avz _ _ e,f];rfl
 ·rw[decide_eq_false b,Fs,Cg,if_neg b]
theorem Bbg{d} (h:Ht d) (a:C5 d=true):Aii d=Aa (Hz d.list d.text):=by obtain⟨b,c⟩:=Jc a;unfold Aii;rw[Acl b (by omega),Ad,Bbm h a,if_pos (by omega),Ad,show(d.from_+(d.list.length:Int)-d.from_).toNat=d.list.length by omega,Hd]
theorem Bys{d} (h:Ht d) (b:C5 d=true) rev:Aqq d rev=Aa (if d.from_<=rev/\rev<=d.from_+d.list.length then((d.list.drop (rev-d.from_).toNat).map (λe=>e.o),true)else([],false)):=by
 obtain⟨c,f⟩:=Jc b;unfold Aqq;rw[Za d h,Ad,b,A6,A3,Acl c (by omega),Ad,G5,Ad,Ad];by_cases a:d.from_<=rev/\rev<=d.from_+d.list.length
 ·rw[decide_eq_true a,A6,A3,Bh (by omega) (by omega),Aj ⟨by omega,by omega⟩,if_pos a,Hd,Aws (Aht h.2.2.2.1 _)];rfl
 ·rw[decide_eq_false a,Fs,Cg,if_neg a]
theorem Byv l b (j:l.length<=1000):Aqv l b=Aa (Zu l b):=by
 unfold Aqv Ai8 Zu;rw[Se,Ad];cases ho:Ca b with
 |false=>rfl
 |true=>
  rw[A6,A3,Ams,ho,if_pos rfl,Ad,if_pos rfl]
  obtain⟨y,d,a⟩:=Ab7 (F:=Arj l) (e:=λ(s:List (List Ae)×List Ae)=>(Ej (s.1,s.2):Sum (List (List Ae)×List Ae) Unit)) l (λr k s=>s.1.length<=k) (λr _ s y=>match Lp r s.2 with|some v=>∃z,y=Ej (z,v)|none=>y=Bj ()) (λs _=>⟨_,rfl⟩) (λx r k s i hx g=>by
   unfold Arj A21;rw[hx,Bza,Ad];simp only[Lp];cases h:(Pn x s.2).2.2 with
   |false=>exact .inr ⟨_,rfl,rfl⟩
   |true=>rw[A6,A3,Aj (by omega)];exact .inl ⟨_,rfl,by simp;omega,λy f=>f⟩) ([],Co b) (by simp)
  rw[d,Ad];simp only at a;cases c:Lp l (Co b)with
  |some v=>rw[c]at a;obtain⟨z,rfl⟩:=a;rfl
  |none=>rw[c]at a;subst a;rfl
theorem Bea:∀ {l:List A8} {t:List Int} {v u:List Ae},Lp (l.map λe=>e.o) v=Aa u->(Fz l t).isSome=true->Gm v t=true->Gm u (Hz l t)=true
 |[],t,v,u,h,_,hv=>by cases h;exact hv
 |e::l,t,v,u,h,hf,hv=>by
  rw[Fa,Lp]at h;rw[Fz]at hf;cases a:Gm e.o t&&E3 e with
  |false=>rw[a]at hf;cases hf
  |true=>
   rw[a,if_pos rfl]at hf;simp only[A9]at a;split at h
   ·rename_i c;have g:=Axh c;have s:=B0u g.1 g.2.1 g.2.2.1;have b:=Amb a.1;have al:=Afh (Zr g.1) b.2.2;rw[g.2.2.2.2.2]at h;refine Bea (l:=l) (t:=F7 e.o t) h hf ?_;unfold Gm;rw[g.2.2.2.2.1,Anz a.1,decide_eq_true (by rw[s.2.1,al])];rfl
   ·cases h
theorem Bxn{o t} (ho:Ca o=true) (b:Ed t=true) (a:Dl o=t.length):Gm (Co o) t=true:=by unfold Gm;rw[Ac3 ho,b,decide_eq_true (by rw[Av4 (Zr ho),a])];rfl
def Iy (d:Ao) (base:Int) (o:List Ae):List Ae×Int:=
 if Ca o then(if Ec d<base then([],2)else if base<d.from_ then([],3)else
  if Dl o=((Hz (d.list.take (base-d.from_).toNat) d.text).length:Int)then(match Lp ((d.list.drop (base-d.from_).toNat).map λe=>e.o) (Co o)with|some v=>(v,0)|none=>([],5))else([],1))else([],1)
theorem Byy{d} (h:Ht d) (a:C5 d=true) base o:Aqy d base o=Aa (Iy d base o):=by
 obtain⟨b,c⟩:=Jc a;unfold Aqy Iy;rw[Za d h,Ad,a,A6,A3,Se,Ad,Ad];cases ho:Ca o with
 |false=>rfl
 |true=>
  unfold Ai3 Ec;rw[A6,A3,if_pos rfl,Acl b (by omega),Ad];by_cases g1:d.from_+(d.list.length:Int)<base
  ·rw[Av g1,if_pos g1];rfl
  ·rw[Ap g1,if_neg g1];by_cases g2:base<d.from_
   ·rw[Av g2,if_pos g2];rfl
   ·rw[Ap g2,if_neg g2,Ad,decide_eq_true rfl,A6,A3,Bbm h a,if_pos ⟨by omega,by omega⟩,Ad,Amr,Ad,C2,if_pos (Hp ho)];by_cases g3:Dl o=((Hz (d.list.take (base-d.from_).toNat) d.text).length:Int)
    ·rw[Av g3,if_pos g3,Bys h a,if_pos ⟨by omega,by omega⟩,Ad,Byv _ _ (by simp;omega),Ad];unfold Zu;rw[ho,if_pos rfl];cases f:Lp ((d.list.drop (base-d.from_).toNat).map λe=>e.o) (Co o)<;>rfl
    ·rw[Ap g3,if_neg g3]
theorem Bfa{d} (c:C5 d=true){base o} (h:(Iy d base o).2=0):Qu (Iy d base o).1=true/\Gm (Iy d base o).1 (Hz d.list d.text)=true:=by
 unfold Iy Ec at h⊢;cases ho:Ca o with
 |false=>rw[ho]at h;simp at h
 |true=>
  rw[ho,if_pos rfl]at h;rw[if_pos rfl];by_cases g1:d.from_+(d.list.length:Int)<base
  ·rw[if_pos g1]at h;simp at h
  ·rw[if_neg g1]at h⊢;by_cases g2:base<d.from_
   ·rw[if_pos g2]at h;simp at h
   ·rw[if_neg g2]at h⊢;by_cases g3:Dl o=((Hz (d.list.take (base-d.from_).toNat) d.text).length:Int)
    ·rw[if_pos g3]at h⊢;cases a:Lp ((d.list.drop (base-d.from_).toNat).map λe=>e.o) (Co o)with
     |none=>rw[a]at h;simp at h
     |some v=>have b:=Amh (Ac2 c) (base-d.from_).toNat;have f:=Ami b.2;have:=Bea a (by rw[b.2];rfl) (Bxn ho (Ba3 c _) g3);rw[<-f]at this;exact⟨Ay0 a (Bb3 ho),this⟩
    ·rw[if_neg g3]at h;simp at h
theorem B7h{d} (h:Ht d) (a:C5 d=true) base o:Aei d base o=Aa (Iy d base o):=by
 obtain⟨c,g⟩:=Jc a;unfold Aei Iy;rw[Q7 d h,Ad,a,A6,A3,Q8,Ad,Ad];cases ho:Ca o with
 |false=>rfl
 |true=>
  unfold Ec;rw[A6,A3,if_pos rfl,Uz c (by omega),Ad];by_cases g1:d.from_+(d.list.length:Int)<base
  ·rw[Av g1,if_pos g1]
  ·rw[Ap g1,if_neg g1];by_cases g2:base<d.from_
   ·rw[Av g2,if_pos g2]
   ·rw[Ap g2,if_neg g2,Ao2 h a,if_pos ⟨by omega,by omega⟩,Ad,Ahm,Ad,C2,if_pos (Hp ho)];by_cases g3:Dl o=((Hz (d.list.take (base-d.from_).toNat) d.text).length:Int)
    ·rw[Av g3,if_pos g3,Bf7 h a,if_pos ⟨by omega,by omega⟩,Ad,Bf8 _ _ (by simp;omega),Ad];unfold Zu;rw[ho,if_pos rfl];cases f:Lp ((d.list.drop (base-d.from_).toNat).map λe=>e.o) (Co o)with
     |none=>rfl
     |some v=>
      have b:Iy d base o=(v,0):=by unfold Iy Ec;rw[ho,if_pos rfl,if_neg g1,if_neg g2,if_pos g3,f]
      have:=(Bfa a (base:=base) (o:=o) (by rw[b])).2;rw[b]at this;simp only;rw[A6,A3,Aoy h a,Ad,Adm,Ad,this];rfl
    ·rw[Ap g3,if_neg g3]
def Ny (x:Cm):List Cm->List Cm
 |[]=>[x]
 |y::r=>if y.Al<x.Al then y::Ny x r else if y.Al=x.Al then x::r else x::y::r
def Ie (c:Int) (l:List Cm):Nat:=(l.takeWhile λs=>decide (s.Al<c)).length
theorem Bc7 c y l:Ie c (y::l)=if y.Al<c then Ie c l+1 else 0:=by unfold Ie;rw[A6k];by_cases h:y.Al<c<;>simp[h]
theorem B13 c l:Ie c l<=l.length:=(Ati _).length_le
theorem Bc8:∀x l,(if Ie x.Al l<l.length/\(el l (Ie x.Al l)).Al=x.Al then l.set (Ie x.Al l) x else l.take (Ie x.Al l)++[x]++l.drop (Ie x.Al l))=Ny x l
 |x,[]=>by simp[Ny,Ie]
 |x,y::r=>by
  have a:=Bc8 x r;rw[Bc7,Ny];by_cases h:y.Al<x.Al
  ·rw[if_pos h,if_pos h,<-a];have e:el (y::r) (Ie x.Al r+1)=el r (Ie x.Al r):=rfl;rw[e];by_cases g:Ie x.Al r<r.length/\(el r (Ie x.Al r)).Al=x.Al
   ·rw[if_pos g,if_pos ⟨by simp only[B5];omega,g.2⟩];rfl
   ·rw[if_neg g,if_neg (λk=>g ⟨by have:=k.1;simp only[B5]at this;omega,k.2⟩)];rfl
  ·rw[if_neg h,if_neg h];have e:el (y::r) 0=y:=rfl;rw[e];by_cases g:y.Al=x.Al
   ·rw[if_pos ⟨by simp,g⟩,if_pos g];rfl
   ·rw[if_neg (λk=>g k.2),if_neg g];rfl
theorem Bzr d c (j:d.seen.length<=8):Cp (Aq4 d c) 0=Aa ((Ie c d.seen:Nat):Int):=by
 have a:=Acp (f:=Aq4 d c) (λs=>0<=s/\s<=d.seen.length) (λs=>((d.seen.length:Int)-s).toNat) (λs=>s+(Ie c (d.seen.drop s.toNat):Nat)) (λs b=>by
  unfold Aq4 Bjk;by_cases h:s<(d.seen.length:Int)
  ·have e:=Afu (l:=d.seen) (i:=s.toNat) (by omega);rw[Av h,Aj ⟨b.1,h⟩,Ad,e,Bc7];by_cases g:(el d.seen s.toNat).Al<c
   ·rw[Av g,if_pos g,Bh (by omega) (by omega)];exact .inl ⟨_,rfl,by omega,by omega,by rw[show(s+1).toNat=s.toNat+1 by omega];omega⟩
   ·rw[Ap g,if_neg g];exact .inr (by simp)
  ·rw[Ap h,Ad,A3,show s.toNat=d.seen.length by omega,Vy];exact .inr (by simp[Ie])) 0 (by omega)
 rw[a];simp
theorem B0a{x l} (h:∀z∈l,x.Al<z.Al):Ny x l=x::l:=by
 cases l with
 |nil=>rfl
 |cons z r=>have:=h z (by simp);rw[Ny,if_neg (by omega),if_neg (by omega)]
theorem B7i{c seq rv} d (v:List.Pairwise (λa b=>a.Al<b.Al) d.seen) (A:d.seen.length<=8):
  ∃y,A2 (Aa8 c seq rv d) (λs=>((s.1,s.2):List Cm×Bool)) d.seen.length 0 ([],false)=Aa y/\(if y.2 then y.1 else y.1++[⟨c,seq,rv⟩])=Ny ⟨c,seq,rv⟩ d.seen/\y.1.length<=18:=by
 obtain⟨y,p,t,u⟩:=Ab7 (F:=Aa8 c seq rv d) (e:=λ(s:List Cm×Bool)=>((s.1,s.2):List Cm×Bool)) d.seen
  (λr k s=>List.Pairwise (λa b=>a.Al<b.Al) r/\(s.2=true->∀z∈r,c<z.Al)/\s.1.length<=2*k)
  (λr k s y=>(if y.2 then y.1 else y.1++[⟨c,seq,rv⟩])=s.1++(if s.2 then r else Ny ⟨c,seq,rv⟩ r)/\y.1.length<=18)
  (λs m=>by
   refine⟨?_,by simp only;omega⟩;cases l:s.2<;>simp[Ny])
  (λx r k s w hx m=>by
   obtain⟨i,o,B⟩:=m;rw[N7]at i;unfold Aa8 A4o;rw[hx];by_cases g:x.Al=c
   ·rw[Av g]
    have n:s.2=false:=by
     cases l:s.2 with
     |false=>rfl
     |true=>have:=o l x (by simp);omega
    refine .inl ⟨_,rfl,⟨i.2,λh=>(by rw[n]at h;cases h),by simp only;omega⟩,λy f=>⟨?_,f.2⟩⟩;rw[f.1];simp only[n,I3,if_false];rw[B0a (λz j=>by have:=i.1 z j;simp only;omega),Ny,if_neg (by simp only;omega),if_pos g]
   ·rw[Ap g];cases l:s.2 with
    |true=>rw[A6,A3,Ad,A3,Aj (by omega)];refine .inl ⟨_,rfl,⟨i.2,λ_ z j=>o l z (by simp[j]),by simp only[Bt,B5,C0];omega⟩,λy f=>⟨?_,f.2⟩⟩;rw[f.1];simp
    |false=>
     rw[Fs,Cg,Ad];by_cases q:c<x.Al
     ·rw[Av q,Aj (by omega),Aj (by simp only[Bt,B5,C0];omega)];refine .inl ⟨_,rfl,⟨i.2,λ_ z j=>by have:=i.1 z j;omega,by simp only[Bt,B5,C0];omega⟩,λy f=>⟨?_,f.2⟩⟩;rw[f.1];simp only[if_true,I3,if_false];rw[Ny,if_neg (by simp only;omega),if_neg (by simp only;omega)];simp
     ·rw[Ap q,Aj (by omega)];refine .inl ⟨_,rfl,⟨i.2,λh=>(by cases h),by simp only[Bt,B5,C0];omega⟩,λy f=>⟨?_,f.2⟩⟩;rw[f.1];simp only[I3,if_false];rw[Ny,if_pos (by simp only;omega)];simp) ([],false) ⟨v,λh=>(by cases h),by simp⟩
 exact⟨y,p,by rw[t];simp,u⟩
theorem Awh{d} (h:Ht d) (a:C5 d=true):Vg d=Aa d:=by have c:=Ln (Ku a).2.1;have b:=Zq a;unfold Vg;rw[Um (by omega),Ad,Zc h.2.2.2.1,Ad,Aj (by omega)];rfl
def addE (d:Ao) (e:A8):Ao:=
 if 8<(d.list++[e]).length then⟨d.name,d.from_+1,(if Gm (el (d.list++[e]) 0).o d.text then(F7 (el (d.list++[e]) 0).o d.text,true)else([],false)).1,(d.list++[e]).drop 1,Ny ⟨e.Al,e.seq,Ec d+1⟩ d.seen⟩
 else⟨d.name,d.from_,d.text,d.list++[e],Ny ⟨e.Al,e.seq,Ec d+1⟩ d.seen⟩
def J1 (d:Ao) (Al seq base:Int) (o:List Ae):Ao×Int×Int:=
 if(1<=Al/\Al<=8)/\(1<=seq/\seq<=1000000000)/\Ca o=true then
  if(I0 d.seen Al).1.seq=seq then(d,(I0 d.seen Al).1.rev,0)
  else if(I0 d.seen Al).1.seq+1=seq then
   if(Iy d base o).2=0 then(if 999999000<=Ec d then(Iv,0,5)else(addE d ⟨Al,seq,(Iy d base o).1⟩,Ec d+1,0))else(Iv,0,(Iy d base o).2)
  else(Iv,0,4)
 else(Iv,0,1)
theorem By5{d} (h:Ht d) (a:C5 d=true) Al seq base o:Aq3 d Al seq base o=Aa (J1 d Al seq base o):=by
 obtain⟨r,t⟩:=Jc a;have p:=Zq a;unfold Aq3 J1;rw[Za d h,Ad,a,A6,A3,G5,Ad,Ad];by_cases e:1<=Al/\Al<=8
 ·rw[decide_eq_true e,A6,A3,G5,Ad,Ad];by_cases f:1<=seq/\seq<=1000000000
  ·rw[decide_eq_true f,A6,A3,Se,Ad,Ad];cases ho:Ca o with
   |false=>rw[if_neg (λk=>by cases k.2.2)];rfl
   |true=>
    rw[A6,A3,if_pos ⟨e,f,rfl⟩,Bzq,Ad];have w:=A0k a Al;by_cases i:(I0 d.seen Al).1.seq=seq
    ·rw[Av i,if_pos i,Awh h a];rfl
    ·rw[Ap i,if_neg i,Bh (by omega) (by omega),C2];by_cases j:(I0 d.seen Al).1.seq+1=seq
     ·rw[Av j,if_pos j,Byy h a,Ad,C2];by_cases l:(Iy d base o).2=0
      ·rw[Av l,if_pos l,Acl r (by omega),Ad];unfold Ec;by_cases m:(999999000:Int)<=d.from_+d.list.length
       ·rw[Av m,if_pos m];rfl
       ·rw[Ap m,if_neg m,Awh h a,Ad,Aj (by omega),Acl (d:=⟨d.name,d.from_,d.text,d.list++[(⟨Al,seq,(Iy d base o).1⟩:A8)],d.seen⟩) r (by simp;omega),Ad];have n:d.from_+(((d.list++[(⟨Al,seq,(Iy d base o).1⟩:A8)]).length:Nat):Int)=d.from_+d.list.length+1:=by simp;omega
        simp only[n];rw[Bzr d Al p,Ad];have u:=B13 Al d.seen;have s:=Bc8 ⟨Al,seq,d.from_+d.list.length+1⟩ d.seen;simp only at s;have b:((d.list++[(⟨Al,seq,(Iy d base o).1⟩:A8)]).length:Int)=d.list.length+1:=by simp
        unfold addE Ec;simp only;rw[<-s];generalize (Iy d base o).1=v at b⊢
        have q:∀S':List Cm,(bif decide ((8:Int)<((d.list++[(⟨Al,seq,v⟩:A8)]).length:Int))then(xg (0<=(0:Int)/\(0:Int)<((d.list++[(⟨Al,seq,v⟩:A8)]).length:Int))<|Ac (S6 ((el (d.list++[(⟨Al,seq,v⟩:A8)]) 0).o) d.text) λc=>xg (Aq (d.from_+1))<|xg (0<=(1:Int)/\(1:Int)<=((d.list++[(⟨Al,seq,v⟩:A8)]).length:Int))<|some ((⟨d.name,d.from_+1,c.1,((d.list++[(⟨Al,seq,v⟩:A8)]).take ((d.list++[(⟨Al,seq,v⟩:A8)]).length)).drop 1,S'⟩:Ao),d.from_+(d.list.length:Int)+1,(0:Int)))else(Aa ((⟨d.name,d.from_,d.text,d.list++[(⟨Al,seq,v⟩:A8)],S'⟩:Ao),d.from_+(d.list.length:Int)+1,0)))=
          Aa (if 8<(d.list++[(⟨Al,seq,v⟩:A8)]).length then⟨d.name,d.from_+1,(if Gm (el (d.list++[(⟨Al,seq,v⟩:A8)]) 0).o d.text then(F7 (el (d.list++[(⟨Al,seq,v⟩:A8)]) 0).o d.text,true)else([],false)).1,(d.list++[(⟨Al,seq,v⟩:A8)]).drop 1,S'⟩else⟨d.name,d.from_,d.text,d.list++[(⟨Al,seq,v⟩:A8)],S'⟩,d.from_+(d.list.length:Int)+1,0):=by
         intro S';by_cases g:(8:Int)<((d.list++[(⟨Al,seq,v⟩:A8)]).length:Int)
         ·rw[Av g,Aj ⟨by omega,by omega⟩,Bba,Ad,Bh (by omega) (by omega),Aj ⟨by omega,by omega⟩,Hd,if_pos (show 8<(d.list++[(⟨Al,seq,v⟩:A8)]).length by omega)]
         ·rw[Ap g,if_neg (show¬8<(d.list++[(⟨Al,seq,v⟩:A8)]).length by omega)]
        by_cases g1:((Ie Al d.seen:Nat):Int)<d.seen.length
        ·rw[Av g1,Aj ⟨by omega,g1⟩,Ad,Gb];by_cases g2:(el d.seen (Ie Al d.seen)).Al=Al
         ·rw[Av g2,Aj ⟨by omega,g1⟩,if_pos (show(Ie Al d.seen<d.seen.length/\(el d.seen (Ie Al d.seen)).Al=Al)from⟨by omega,g2⟩),q]
         ·rw[Ap g2,if_neg (show¬(Ie Al d.seen<d.seen.length/\(el d.seen (Ie Al d.seen)).Al=Al)fromλk=>g2 k.2)];unfold Aar Ri;simp only;rw[Aj ⟨by omega,by omega⟩,Aj (by omega),Ad,Gb,q]
        ·rw[Ap g1,Ad,A3,if_neg (show¬(Ie Al d.seen<d.seen.length/\(el d.seen (Ie Al d.seen)).Al=Al)fromλk=>by have:=k.1;omega)];unfold Aar Ri;simp only;rw[Aj ⟨by omega,by omega⟩,Aj (by omega),Ad,Gb,q]
      ·rw[Ap l,if_neg l];rfl
     ·rw[Ap j,if_neg j];rfl
  ·rw[decide_eq_false f,Fs,Cg,Ad,Cg,if_neg (λk=>f k.2.1)];rfl
 ·rw[decide_eq_false e,Fs,Cg,Ad,Cg,Ad,Cg,if_neg (λk=>e k.1)];rfl
theorem Bgm{d} (h:Ht d) (a:C5 d=true) Al seq base o:Aek d Al seq base o=Aa (J1 d Al seq base o):=by
 obtain⟨s,D⟩:=Jc a;have r:=Zq a;unfold Aek J1;rw[Q7 d h,Ad,a,A6,A3,Hs,Ad,Ad];by_cases i:1<=Al/\Al<=8
 ·rw[decide_eq_true i,A6,A3,Hs,Ad,Ad];by_cases j:1<=seq/\seq<=1000000000
  ·rw[decide_eq_true j,A6,A3,Q8,Ad,Ad];cases ho:Ca o with
   |false=>rw[if_neg (λk=>by cases k.2.2)];rfl
   |true=>
    rw[A6,A3,if_pos ⟨i,j,rfl⟩,A0h,Ad];have z:=A0k a Al
    have w:(bif (I0 d.seen Al).2 then Aa (decide ((I0 d.seen Al).1.seq=seq))else Aa false)=Aa (decide ((I0 d.seen Al).1.seq=seq)):=by
     cases x:(I0 d.seen Al).2 with
     |true=>rfl
     |false=>have:=z.2.2 x;rw[A3,decide_eq_false (by omega)]
    rw[w,Ad];by_cases l:(I0 d.seen Al).1.seq=seq
    ·rw[Av l,if_pos l,Ahi h a];rfl
    ·rw[Ap l,if_neg l,Bh (by omega) (by omega),C2];by_cases m:(I0 d.seen Al).1.seq+1=seq
     ·rw[Av m.symm,if_pos m,B7h h a,Ad,C2];by_cases n:(Iy d base o).2=0
      ·rw[Av n,if_pos n,Uz s (by omega),Ad];unfold Ec;by_cases p:(999999000:Int)<=d.from_+d.list.length
       ·rw[Av p,if_pos p];rfl
       ·rw[Ap p,if_neg p,Ahi h a,Ad,Aj (by omega),Uz (d:=⟨d.name,d.from_,d.text,d.list++[(⟨Al,seq,(Iy d base o).1⟩:A8)],d.seen⟩) s (by simp;omega),Ad];have q:d.from_+(((d.list++[(⟨Al,seq,(Iy d base o).1⟩:A8)]).length:Nat):Int)=d.from_+d.list.length+1:=by simp;omega
        simp only[q];obtain⟨y,A,B,C⟩:=B7i (c:=Al) (seq:=seq) (rv:=d.from_+d.list.length+1) d ((U3 _ _ _).1 (Ku a).2.2.2.2).2.1 r;rw[A,Ad];have e:((d.list++[(⟨Al,seq,(Iy d base o).1⟩:A8)]).length:Int)=d.list.length+1:=by simp
        unfold addE Ec;simp only;rw[<-B];generalize (Iy d base o).1=v at e⊢
        have t:∀S':List Cm,(bif decide ((8:Int)<((d.list++[(⟨Al,seq,v⟩:A8)]).length:Int))then(xg (0<=(0:Int)/\(0:Int)<((d.list++[(⟨Al,seq,v⟩:A8)]).length:Int))<|Ac (O6 ((el (d.list++[(⟨Al,seq,v⟩:A8)]) 0).o) d.text) λf=>xg (0<=(1:Int)/\(1:Int)<=((d.list++[(⟨Al,seq,v⟩:A8)]).length:Int))<|xg (Aq (d.from_+1))<|some ((⟨d.name,d.from_+1,f.1,((d.list++[(⟨Al,seq,v⟩:A8)]).take ((d.list++[(⟨Al,seq,v⟩:A8)]).length)).drop 1,S'⟩:Ao),d.from_+(d.list.length:Int)+1,(0:Int)))else(Aa ((⟨d.name,d.from_,d.text,d.list++[(⟨Al,seq,v⟩:A8)],S'⟩:Ao),d.from_+(d.list.length:Int)+1,0)))=
          Aa (if 8<(d.list++[(⟨Al,seq,v⟩:A8)]).length then⟨d.name,d.from_+1,(if Gm (el (d.list++[(⟨Al,seq,v⟩:A8)]) 0).o d.text then(F7 (el (d.list++[(⟨Al,seq,v⟩:A8)]) 0).o d.text,true)else([],false)).1,(d.list++[(⟨Al,seq,v⟩:A8)]).drop 1,S'⟩else⟨d.name,d.from_,d.text,d.list++[(⟨Al,seq,v⟩:A8)],S'⟩,d.from_+(d.list.length:Int)+1,0):=by
         intro S';by_cases g:(8:Int)<((d.list++[(⟨Al,seq,v⟩:A8)]).length:Int)
         ·rw[Av g,Aj ⟨by omega,by omega⟩,Adm,Ad,Aj ⟨by omega,by omega⟩,Bh (by omega) (by omega),Hd,if_pos (show 8<(d.list++[(⟨Al,seq,v⟩:A8)]).length by omega)]
         ·rw[Ap g,if_neg (show¬8<(d.list++[(⟨Al,seq,v⟩:A8)]).length by omega)]
        obtain⟨u,b⟩:=y;cases b with
        |true=>simp only[A6,A3,if_true];rw[t]
        |false=>simp only[Fs,Cg,I3,if_false];rw[Aj (by simp only at C;omega),t]
      ·rw[Ap n,if_neg n];rfl
     ·rw[Ap (λk=>m k.symm),if_neg m];rfl
  ·rw[decide_eq_false j,Fs,Cg,Ad,Cg,if_neg (λk=>j k.2.1)];rfl
 ·rw[decide_eq_false i,Fs,Cg,Ad,Cg,Ad,Cg,if_neg (λk=>i k.1)];rfl
theorem App{d} (h:Ht d) (f:C5 d=true){Al seq base o} (b:(J1 d Al seq base o).2.2=0):
  C5 (J1 d Al seq base o).1=true/\(J1 d Al seq base o).1.name=d.name/\((J1 d Al seq base o).1=d\/∃e,(J1 d Al seq base o).1=addE d e/\E3 e=true/\Ec d<999999000):=by
 obtain⟨m,r,c,j,e2⟩:=B6y h f Al seq base o;rw[Bgm h f]at j;have a:=D1.inj j;have g:=e2 (by rw[a]at b;exact b);rw[a]at b⊢;refine⟨g.1,g.2.1,?_⟩;unfold J1 at a;split at a
 ·rename_i k;split at a
  ·left;rw[<-congrArg Prod.fst a]
  ·split at a
   ·split at a
    ·rename_i i;split at a
     ·have:=congrArg (λx=>x.2.2) a;simp only at this b;omega
     ·rename_i l;right;refine⟨_,(congrArg Prod.fst a).symm,?_,by omega⟩;unfold E3;simp only;rw[decide_eq_true k.1,decide_eq_true k.2.1,(Bfa f i).1];rfl
    ·rename_i i;have:=congrArg (λx=>x.2.2) a;simp only at this b;omega
   ·have:=congrArg (λx=>x.2.2) a;simp only at this b;omega
 ·have:=congrArg (λx=>x.2.2) a;simp only at this b;omega
theorem A6w d e:Ec (addE d e)=Ec d+1:=by unfold addE Ec;split<;>simp<;>omega
theorem Atq d e:(addE d e).list<:+d.list++[e]/\0<(addE d e).list.length/\(8<=(addE d e).list.length\/(addE d e).list=d.list++[e]):=by
 unfold addE;split
 ·rename_i h;exact⟨List.drop_suffix _ _,by simp only[D0];omega,.inl (by simp only[D0];omega)⟩
 ·exact⟨List.suffix_refl _,by simp,.inr rfl⟩
theorem Acm k:Qb k=Aa (decide (1<=k/\k<=5)):=by unfold Qb;rw[G5];rfl
theorem Ahl k:Vl k=Aa (decide (1<=k/\k<=5)):=by unfold Vl;rw[Hs];rfl
theorem Bfp k:Aet k=Aa (decide (1<=k/\k<=8)):=by unfold Aet;rw[Hs];rfl
def Aan (c:Bb):Bb:=
 if c.kind=1 then⟨c.kind,c.Ah,0,0,0,[],c.text⟩
 else if c.kind=2 then⟨c.kind,c.Ah,c.Al,c.seq,c.n,c.o,[]⟩
 else if c.kind=3 then⟨c.kind,c.Ah,0,0,c.n,[],[]⟩
 else if c.kind=4 then⟨c.kind,c.Ah,0,0,0,[],[]⟩
 else if c.kind=5 then⟨c.kind,c.Ah,0,0,c.n,[],[]⟩
 else if c.kind=6 then⟨c.kind,Cb,c.Al,0,c.n,[],[]⟩
 else if c.kind=7 then⟨c.kind,Cb,c.Al,0,0,[],[]⟩
 else⟨c.kind,Cb,0,0,0,[],[]⟩
theorem A7m (a b:Bb):(a=b)↔((((((a.kind=b.kind/\a.Ah=b.Ah)/\a.Al=b.Al)/\a.seq=b.seq)/\a.n=b.n)/\a.o=b.o)/\a.text=b.text):=by cases a;cases b;simp[and_assoc]
theorem Sg {k:Int} (h:1<=k/\k<=8):k=1\/k=2\/k=3\/k=4\/k=5\/k=6\/k=7\/k=8:=by omega
theorem Bz1{c} (h:1<=c.kind/\c.kind<=8):Arn c=Aa (Aan c):=by unfold Arn Aan;rw[Acm];rcases Sg h with h|h|h|h|h|h|h|h<;>simp[h]
theorem Bbc a b:Aid a b=Aa (decide (a=b)):=by unfold Aid;simp only[Awl,Zb,Ad,Dj,Gc];refine Km ?_;simp only[A9,decide_eq_true_eq];exact(A7m a b).symm
def Fp (c:Bb):Bool:=(((decide (1<=c.kind/\c.kind<=8)&&decide (c.Ah.size<=8))&&Gf c.o)&&Ed c.text)&&decide (c=Aan c)
theorem Amp c:Aav c=Aa (Fp c):=by
 unfold Aav Fp;rw[G5,Ad];by_cases h:1<=c.kind/\c.kind<=8
 ·rw[Bz1 h];simp only[Awt,Agc,Bbc,Ad,Dj,Gc];rw[decide_eq_true h,show decide ((c.Ah.size:Int)<=8)=decide (c.Ah.size<=8)from decide_eq_decide.2 (by omega)]
 ·rw[decide_eq_false h];rfl
theorem Ahh c:Aa2 c=Aa (Fp c):=by
 unfold Aa2 Fp;rw[Bfp,Ad];by_cases h:1<=c.kind/\c.kind<=8
 ·rw[decide_eq_true h];simp only[Az8,Ao4,Ahl,Ad,Dj,F8,Gc,Lf,Mu,C2,A6,Rr,A3];refine Km ?_;have a:((c.Ah.size:Int)<=8)=(c.Ah.size<=8):=propext (by omega);have b:(⟨#[]⟩:Cea)=Cb:=rfl;rcases Sg h with h|h|h|h|h|h|h|h<;>simp only[a,b,A9,decide_eq_true_eq]<;>simp[h,Aan,A7m,and_assoc,a,b]<;>(intros;constructor<;>intro h<;>simp_all)
 ·rw[decide_eq_false h];rfl
section
theorem Bdh{s} (h:Gp s=true):1<=s.size/\s.size<=8:=by
 unfold Gp at h;cases hx:Ml s with
 |none=>rw[hx]at h;cases h
 |some b=>
  rw[hx]at h;have c:b=true:=h;subst c;unfold Ml at hx;cases hi:Cp (Xx s) 0 with
  |none=>rw[hi]at hx;cases hx
  |some y=>
   rw[hi,Ad]at hx;cases y with
   |inl a=>simp only[Jg]at hx;rw[G5,Ad]at hx;have:=of_decide_eq_true (D1.inj hx);omega
   |inr a=>simp at hx
theorem W2{s} (h:Gp s=true):s.size<=8:=(Bdh h).2
theorem A7f:∀ {a b:List UInt8},Op.bytesLess a b=false->a≠b->Op.bytesLess b a=true
 |[],[],_,h=>absurd rfl h
 |[],b::y,h,_=>by simp[Op.bytesLess]at h
 |a::x,[],_,_=>by simp[Op.bytesLess]
 |a::x,b::y,h,hn=>by
  rw[Op.bytesLess]at h⊢;simp only[Il,Bool.and_eq_false_imp,beq_iff_eq,decide_eq_false_iff_not]at h;by_cases c:a=b
  ·subst c;have:=A7f (h.2 rfl) (λk=>hn (by rw[k]));simp[this]
  ·have d:=h.1;have e:b<a:=by rw[UInt8.lt_iff_toNat_lt]at d⊢;have:a.toNat≠b.toNat:=λk=>c (Tz.1 k);omega
   simp[e]
theorem Bfo{a b} (h:Cv a b=false) (c:a≠b):Cv b a=true:=by unfold Cv at h⊢;exact A7f h (λk=>c (by rw[ByteArray.toList_eq,ByteArray.toList_eq]at k;exact ByteArray.ext (Ast k)))
section
variable {T:Type}
theorem Bca p x (l:List T):E6 p (x::l)=if p x=true then 0 else if 0<=E6 p l then E6 p l+1 else-1:=by
 unfold E6;rw[A51,A55];cases p x with
 |true=>simp
 |false=>
  cases a:l.any p with
  |true=>simp
  |false=>simp
theorem Bcb [Inhabited T] p:∀(l:List T),l.find? p=if 0<=E6 p l then Aa (el l (E6 p l).toNat)else Ab
 |[]=>by simp[E6]
 |x::l=>by
  rw[Bca,Vz];cases h:p x with
  |true=>simp[el]
  |false=>
   simp only[I3,if_false];rw[Bcb p l];by_cases g:0<=E6 p l
   ·rw[if_pos g,if_pos g,if_pos (by omega),show(E6 p l+1).toNat=(E6 p l).toNat+1 by omega];rfl
   ·rw[if_neg g,if_neg g,if_neg (by omega)]
end
def Oc (l:List Ao) (n:Cea):Option Ao:=l.find? (λd=>decide (d.name=n))
theorem Alm l n:Oc l n=if 0<=B9 l n then Aa (el l (B9 l n).toNat)else Ab:=Bcb _ l
theorem Aub{l n d} (h:Oc l n=Aa d):0<=B9 l n/\el l (B9 l n).toNat=d:=by
 rw[Alm]at h;split at h
 ·rename_i g;exact⟨g,D1.inj h⟩
 ·cases h
theorem Ab4{l n d} (h:Oc l n=Aa d):d∈l/\d.name=n:=⟨Bra h,of_decide_eq_true (List.find?_some (p:=λd:Ao=>decide (d.name=n)) h)⟩
theorem Auc{n m d'} (a:d'.name=n):∀ {l:List Ao},0<=B9 l n->Oc (l.set (B9 l n).toNat d') m=if m=n then Aa d' else Oc l m
 |[],h=>by simp[B9,E6]at h
 |x::l,h=>by
  unfold B9 at h⊢;rw[Bca]at h⊢;unfold Oc;by_cases hx:x.name=n
  ·rw[decide_eq_true hx];simp only[if_true];rw[show(0:Int).toNat=0 from rfl,V5,Vz,Vz,a,hx];by_cases g:m=n
   ·subst g;simp
   ·rw[decide_eq_false (λk=>g k.symm),if_neg g]
  ·rw[decide_eq_false hx]at h⊢;simp only[I3,if_false]at h⊢;by_cases g:0<=E6 (λd:Ao=>decide (d.name=n)) l
   ·have b:=Auc a (l:=l) (m:=m) g;unfold Oc B9 at b;rw[if_pos g,show(E6 (λd:Ao=>decide (d.name=n)) l+1).toNat=(E6 (λd:Ao=>decide (d.name=n)) l).toNat+1 by omega,Ae5,Vz,Vz,b];by_cases q:m=n
    ·subst q;rw[decide_eq_false hx]
    ·simp only[if_neg q]
   ·rw[if_neg g]at h;omega
variable {P:Prop}
def sbG (P:Prop) (a:List Ao) (b:Int) (s:A0):Prop:=(1<=s.id/\s.id<=b)/\Gv s.r=true/\∃d,Oc a s.Ah=Aa d/\(s.r.out=false->s.r.next+(s.r.list.length:Int)=Ec d+1/\(P->s.r.list<:+d.list))
structure Cd (P:Prop) (h:Aw):Prop where
 nd:h.Am.length<=5
 ns:h.Ax.length<=6
 la:0<=h.last/\h.last<=1000000000
 cd:Fj Jk Ab h.Am=true
 ci:List.Pairwise (λa b=>a.id<b.id) h.Ax
 sg:∀s∈h.Ax,sbG P h.Am h.last s
theorem Cd.Ah{h} (i:Cd P h){d} (a:d∈h.Am):C5 d=true:=Aud i.cd d a
theorem Cd.sd{h} (i:Cd P h){d} (a:d∈h.Am):Ht d:=A0s (by have:=W2 (W1 (i.Ah a));omega) (i.Ah a)
theorem B82{h s} (g:sbG P h.Am h.last s){p} (b:∀q,p=Aa q->q.id<s.id):N3 h p s=true:=by
 obtain⟨g1,g2,d,g3,g4⟩:=g;obtain⟨a,e2⟩:=Aub g3;unfold N3;rw[decide_eq_true g1,g2,decide_eq_true a,e2]
 have:Jz (λp=>decide (s.id<=p.id)) p=false:=by
  cases p with
  |none=>rfl
  |some q=>have:=b q rfl;exact decide_eq_false (by omega)
 rw[this];cases ho:s.r.out with
 |true=>rfl
 |false=>rw[decide_eq_true (g4 ho).1];rfl
theorem Bhh{h}:∀ {l:List A0} {p:Option A0},List.Pairwise (λa b=>a.id<b.id) l->(∀s∈l,sbG P h.Am h.last s)->(∀q,p=Aa q->∀s∈l,q.id<s.id)->Fj (N3 h) p l=true
 |[],_,_,_,_=>rfl
 |x::l,p,hp,hg,hq=>by rw[N7]at hp;rw[Fj,B82 (hg x (by simp)) (λq c=>hq q c x (by simp)),Bhh hp.2 (λs d=>hg s (by simp[d])) (λq c s d=>by cases c;exact hp.1 s d)];rfl
theorem Cd.ok{h} (i:Cd P h):Mg h=true:=by rw[Ax5 ⟨⟨i.nd,i.ns⟩,i.la⟩,i.cd,Bhh i.ci i.sg (λq a=>by cases a)];rfl
theorem Adf{r} (h:Gv r=true):Gx Nc r.list:=by have g:=N0 h;exact⟨by have:=g.1;have:=g.2.2.1;omega,λe a=>Al4 (Ff.1 g.2.2.2.2 e a)⟩
theorem Cd.sm{h} (i:Cd P h):Aab h:=by refine⟨trivial,⟨by have:=i.nd;omega,λd b=>i.sd b⟩,⟨by have:=i.ns;omega,λs c=>?_⟩,trivial⟩;obtain⟨_,g2,d,g3,_⟩:=i.sg s c;have a:=Ab4 g3;exact⟨trivial,by have:=W2 (W1 (i.Ah a.1));rw[a.2]at this;unfold Sx;omega,trivial,trivial,trivial,Adf g2⟩
theorem Cd.i{h} (i:Cd P h):Mk h=Aa true:=by rw[Bbh h i.sm,i.ok]
theorem Cd.s{h} (i:Cd P h):Mm h=Aa true:=by rw[Bfx h i.sm,i.ok]
theorem Brm {T:Type} l:∀s:List T,l.foldl (λs e=>s++[e]) s=s++l:=by
 induction l with
 |nil=>intro s;simp
 |cons x l a=>intro s;rw[Fx,a];simp
theorem Awp{r} (h:Gv r=true):Vh r=Aa r:=by unfold Vh;rw[Zc (Adf h)];rfl
theorem A0e{r} (h:Gv r=true):Yb r=Aa r:=by unfold Yb;rw[Ss (Adf h)];rfl
theorem Cd.ic{h} (i:Cd P h):Hj h=Aa h:=by
 have m:=I9 (F:=Ad6 h) (e:=λ(b:Bool×List Ao×Int)=>((b.1,b.2.1,b.2.2):Bool×List Ao×Int)) h.Am (λr k s=>s.2.1.length<=k) (λs d=>(s.1,s.2.1++[d],s.2.2)) (λx r k s f hx o=>by
  have c:x∈h.Am:=by rw[<-hx];exact Cj f
  have:=i.nd;unfold Ad6 Are;rw[hx,Awh (i.sd c) (i.Ah c),Ad,Aj (by simp only[B5,C0];omega)];exact⟨rfl,by simp;omega⟩) (h.shut,[],h.last) (by simp)
 have n:=I9 (F:=Ad7 h) (e:=λ(a:Bool×List Ao×List A0×Int)=>((a.1,a.2.1,a.2.2.1,a.2.2.2):Bool×List Ao×List A0×Int)) h.Ax (λr k s=>s.2.2.1.length<=k) (λs d=>(s.1,s.2.1,s.2.2.1++[d],s.2.2.2)) (λx r k s f hx o=>by
  have c:x∈h.Ax:=by rw[<-hx];exact Cj f
  have:=i.ns;unfold Ad7 Arf;rw[hx,Awp (i.sg x c).2.1,Ad,Aj (by omega)];exact⟨rfl,by simp;omega⟩) (h.shut,h.Am,[],h.last) (by simp)
 have j:∀(l:List Ao) (s:Bool×List Ao×Int),l.foldl (λs d=>(s.1,s.2.1++[d],s.2.2)) s=(s.1,s.2.1++l,s.2.2):=λl=>by
  induction l with
  |nil=>intro s;simp
  |cons x l g=>intro s;rw[Fx,g];simp
 have e2:∀(l:List A0) (s:Bool×List Ao×List A0×Int),l.foldl (λs d=>(s.1,s.2.1,s.2.2.1++[d],s.2.2.2)) s=(s.1,s.2.1,s.2.2.1++l,s.2.2.2):=λl=>by
  induction l with
  |nil=>intro s;simp
  |cons x l g=>intro s;rw[Fx,g];simp
 unfold Hj;rw[m,Ad,j];simp only[Iu];rw[n,Ad,e2];rfl
theorem Cd.sc{h} (i:Cd P h):Hk h=Aa h:=by
 have m:=I9 (F:=Aeq h) (e:=λ(b:Bool×List Ao×Int)=>((b.1,b.2.1,b.2.2):Bool×List Ao×Int)) h.Am (λr k s=>s.2.1.length<=k) (λs d=>(s.1,s.2.1++[d],s.2.2)) (λx r k s f hx o=>by
  have c:x∈h.Am:=by rw[<-hx];exact Cj f
  have:=i.nd;unfold Aeq Ase;rw[hx,Ahi (i.sd c) (i.Ah c),Ad,Aj (by simp only[B5,C0];omega)];exact⟨rfl,by simp;omega⟩) (h.shut,[],h.last) (by simp)
 have n:=I9 (F:=Aer h) (e:=λ(a:Bool×List Ao×List A0×Int)=>((a.1,a.2.1,a.2.2.1,a.2.2.2):Bool×List Ao×List A0×Int)) h.Ax (λr k s=>s.2.2.1.length<=k) (λs d=>(s.1,s.2.1,s.2.2.1++[d],s.2.2.2)) (λx r k s f hx o=>by
  have c:x∈h.Ax:=by rw[<-hx];exact Cj f
  have:=i.ns;unfold Aer Asf Aj9;rw[hx,A0e (i.sg x c).2.1,Ad,Ad,Aj (by simp only[B5,C0];omega)];exact⟨rfl,by simp;omega⟩) (h.shut,h.Am,[],h.last) (by simp)
 have j:∀(l:List Ao) (s:Bool×List Ao×Int),l.foldl (λs d=>(s.1,s.2.1++[d],s.2.2)) s=(s.1,s.2.1++l,s.2.2):=λl=>by
  induction l with
  |nil=>intro s;simp
  |cons x l g=>intro s;rw[Fx,g];simp
 have e2:∀(l:List A0) (s:Bool×List Ao×List A0×Int),l.foldl (λs d=>(s.1,s.2.1,s.2.2.1++[d],s.2.2.2)) s=(s.1,s.2.1,s.2.2.1++l,s.2.2.2):=λl=>by
  induction l with
  |nil=>intro s;simp
  |cons x l g=>intro s;rw[Fx,g];simp
 unfold Hk;rw[m,Ad,j];simp only[Iu];rw[n,Ad,e2];rfl
end
section
variable {P:Prop}
def Ib:Aw:=⟨false,[],[],0⟩
def Pz (a b:Int):Db:=⟨a,b+1,false,[]⟩
theorem Aot{room a} (b:1<=room/\room<=6) (c:0<=a/\a<=999999999):Gv (Pz room a)=true:=by unfold Gv Pz;simp only;rw[decide_eq_true b,decide_eq_true (show 1<=a+1/\a+1<=1000000000 by omega),decide_eq_true (show(([]:List A8).length:Int)<=room by simp;omega)];rfl
theorem Bbk{room a} (b:1<=room/\room<=6) (c:0<=a/\a<=999999999):Ait room a=Aa (Pz room a,true):=by have:=Aot b c;unfold Pz at this⊢;unfold Ait;rw[Bh (by omega) (by omega),Agb,this];rfl
theorem Bgb{room a} (b:1<=room/\room<=6) (c:0<=a/\a<=999999999):Aju room a=Aa (Pz room a,true):=by have:=Aot b c;unfold Pz at this⊢;unfold Aju;rw[Ap (by omega),Bh (by omega) (by omega),Ahn,this];rfl
theorem By1{r rev} (h:Gv r=true) (a:0<=rev/\rev<=999999999):Aq1 r rev=Aa (Pz r.cap rev,true):=by unfold Aq1;rw[Agb,h,Ad,A6,A3,Bbk (N0 h).1 a];rfl
theorem B6t{r rev} (h:Gv r=true) (a:0<=rev/\rev<=999999999):Ar6 r rev=Aa (Pz r.cap rev,true):=by unfold Ar6;rw[Ahn,h,Ad,A6,A3,Bgb (N0 h).1 a];rfl
def Xf (r:Db) (e:A8):Db:=if r.out=true then r else if(r.list.length:Int)=r.cap then⟨r.cap,r.next,true,[]⟩else⟨r.cap,r.next,r.out,r.list++[e]⟩
theorem By0{r e} (h:Gv r=true) (a:E3 e=true):Aq0 r e=Aa (Xf r e):=by
 have g:=N0 h;unfold Aq0 Xf;rw[Awp h,Ad,Agb,h,Ad,A6,A3,Awj,a,Ad,Ad,A6,A3,Ad];cases ho:r.out with
 |true=>rfl
 |false=>
  rw[A3,if_neg (by decide)];by_cases c:(r.list.length:Int)=r.cap
  ·rw[Av c,if_pos c]
  ·rw[Ap c,if_neg c,Zc ⟨by simp,λx hx=>by rw[Eo.1 hx];exact Al4 a⟩,Ad,Aj (by simp only[B5,C0];omega)]
theorem B6s{r e} (h:Gv r=true) (a:E3 e=true):Ar5 r e=Aa (Xf r e):=by
 have g:=N0 h;unfold Ar5 Xf;rw[A0e h,Ad,Ahn,h,Ad,A6,A3,Az3,a,Ad,Ad,A6,A3,Ad];cases ho:r.out with
 |true=>rfl
 |false=>
  rw[A3,if_neg (by decide)];by_cases c:(r.list.length:Int)=r.cap
  ·rw[Av c,if_pos c]
  ·rw[Ap c,if_neg c,Bfv (Al4 a),Ad,Aj (by simp only[B5,C0];omega)]
def Oq (r:Db) (n:Int):Db×List A8×Int:=if r.out=true then(r,[],9)else(⟨r.cap,r.next+min n (r.list.length:Int),r.out,r.list.drop (min n (r.list.length:Int)).toNat⟩,r.list.take (min n (r.list.length:Int)).toNat,0)
theorem Byz{r n} (h:Gv r=true) (a:1<=n):Aqz r n=Aa (Oq r n):=by
 have g:=N0 h;unfold Aqz Oq;rw[Awp h,Ad,Agb,h,Ad,A6,A3,Ad,Ap (by omega)];cases ho:r.out with
 |true=>rfl
 |false=>rw[A3,if_neg (by decide),Aj ⟨by omega,rfl,by omega⟩,Aj ⟨by omega,by omega⟩,Aj ⟨by omega,by omega⟩,Bh (by omega) (by omega),Hd,Nh]
theorem B6r{r n} (h:Gv r=true) (b:1<=n):Ar4 r n=Aa (Oq r n):=by
 have g:=N0 h;have a:∀k,Gx Nc (r.list.drop k):=λk=>Aht (Adf h) k;have st:∀k,Gx Nc (r.list.take k):=λk=>⟨by have:=(Adf h).1;rw[Dh];omega,λx hx=>(Adf h).2 x (V3 hx)⟩;unfold Ar4 Oq;rw[A0e h,Ad,Ahn,h,Ad,A6,A3,Ad,Ap (by omega)];cases ho:r.out with
 |true=>rfl
 |false=>
  rw[A3,if_neg (by decide)];by_cases c:(r.list.length:Int)<n
  ·rw[Av c,Aj ⟨by omega,by omega⟩,Hd,Ss (a _),Ad,Bh (by omega) (by omega),Aj ⟨by omega,by omega⟩,Nh,Ss (st _),Ad,show min n (r.list.length:Int)=r.list.length by omega]
  ·rw[Ap c,Aj ⟨by omega,by omega⟩,Hd,Ss (a _),Ad,Bh (by omega) (by omega),Aj ⟨by omega,by omega⟩,Nh,Ss (st _),Ad,show min n (r.list.length:Int)=n by omega]
def Fv (l:List A0) (n:Int):Int:=E6 (λd=>decide (d.id=n)) l
theorem Bbi h n:Ain h n=Aa (Fv h.Ax n):=by
 unfold Ain Ajg
 rw[Y2 h.Ax (λd=>decide (d.id=n)) n (λk=>(Bj (k,n):Sum Int (Int×Int))) (λx k b hx=>by
  unfold A3q A3p Aqk;rw[hx,Ad];cases decide (x.id=n)<;>rfl),Ad]
 have a:=Acq (λd:A0=>decide (d.id=n)) h.Ax;unfold Fv;split
 ·rfl
 ·rw[show E6 (λd:A0=>decide (d.id=n)) h.Ax= -1 by omega];rfl
theorem Bf0 h n:Aa4 h n=Aa (Fv h.Ax n):=by
 unfold Aa4
 rw[Y2 h.Ax (λd=>decide (d.id=n)) () (λk=>(Bj k:Sum Unit Int)) (λx k b hx=>by
  unfold A39 A38;rw[hx];cases decide (x.id=n)<;>rfl),Ad]
 have a:=Acq (λd:A0=>decide (d.id=n)) h.Ax;unfold Fv;split
 ·rfl
 ·rw[show E6 (λd:A0=>decide (d.id=n)) h.Ax= -1 by omega];rfl
theorem Xn{l n} (h:0<=Fv l n):(Fv l n).toNat<l.length/\Fv l n<l.length/\(el l (Fv l n).toNat).id=n/\el l (Fv l n).toNat∈l:=by have g:=Ws h;exact⟨g.1,Zg _ _,of_decide_eq_true g.2,Cj g.1⟩
def Nw (d:Ao):List Ao->List Ao
 |[]=>[d]
 |y::r=>if Cv y.name d.name=true then y::Nw d r else d::y::r
def Ur (n:Cea) (l:List Ao):Nat:=(l.takeWhile λs=>Cv s.name n).length
theorem Bc3 n y l:Ur n (y::l)=if Cv y.name n=true then Ur n l+1 else 0:=by unfold Ur;rw[A6k];cases h:Cv y.name n<;>simp
theorem Bc4 n l:Ur n l<=l.length:=(Ati _).length_le
theorem Axy x:∀l,l.take (Ur x.name l)++[x]++l.drop (Ur x.name l)=Nw x l
 |[]=>rfl
 |y::r=>by
  rw[Bc3,Nw];by_cases h:Cv y.name x.name=true
  ·rw[if_pos h,if_pos h,<-Axy x r];rfl
  ·rw[if_neg h,if_neg h];rfl
theorem Bdw{f} l n (j:l.length<=8)
  (e:∀k:Int,f k=Ac (bif decide (k<(l.length:Int))then(xg (0<=k/\k<(l.length:Int))<|some (Cv ((el l k.toNat).name) n))else(Aa false)) λa=>bif a then(xg (Aq (k+1))<|some (Lr.go (k+1)))else(Aa (Lr.out k))):Cp f 0=Aa ((Ur n l:Nat):Int):=by
 have b:=Acp (f:=f) (λs=>0<=s/\s<=l.length) (λs=>((l.length:Int)-s).toNat) (λs=>s+(Ur n (l.drop s.toNat):Nat)) (λs c=>by
  rw[e];by_cases h:s<(l.length:Int)
  ·have d:=Afu (l:=l) (i:=s.toNat) (by omega);rw[Av h,Aj ⟨c.1,h⟩,Ad,d,Bc3];cases g:Cv (el l s.toNat).name n with
   |true=>rw[Cg,if_pos rfl,Bh (by omega) (by omega)];exact .inl ⟨_,rfl,by omega,by omega,by rw[show(s+1).toNat=s.toNat+1 by omega];omega⟩
   |false=>rw[A3,if_neg (by decide)];exact .inr (by simp)
  ·rw[Ap h,Ad,A3,show s.toNat=l.length by omega,Vy];exact .inr (by simp[Ur])) 0 (by omega)
 rw[b];simp
def Jn (h:Aw) (name:Cea) (t:List Int):Aw×Int:=
 if Gp name=true/\Ed t=true then(if h.shut=true then(Ib,12)else if 0<=B9 h.Am name then(Ib,7)else if h.Am.length=5 then(Ib,10)else(⟨h.shut,Nw ⟨name,0,t,[],[]⟩ h.Am,h.Ax,h.last⟩,0))else(Ib,1)
theorem Bc2{name} (a:Gp name=true){t} (b:Ed t=true):C5 ⟨name,0,t,[],[]⟩=true:=(Bfu a (W2 a) b).2
theorem Byg{name} (b:Gp name=true){t} (c:Ed t=true):Aqf name t=Aa (⟨name,0,t,[],[]⟩,true):=by have d:=Ln c;have a:=Bc2 b c;unfold Aqf;rw[Um (by omega),Ad,Za _ (A0s (by have:=W2 b;simp only;omega) a),a];rfl
theorem Byj{h} (i:Cd P h) name (l:name.size<=1099511627776) t:Aqj h name t=Aa (Jn h name t):=by
 have j:=i.nd;unfold Aqj Jn;rw[i.i,Ad,A6,A3,Amq _ (by omega),Ad,Ad];cases d:Gp name with
 |false=>rw[if_neg (λk=>by cases k.1)];rfl
 |true=>
  rw[A6,A3,Agc,Ad,Ad];cases g:Ed t with
  |false=>rw[if_neg (λk=>by cases k.2)];rfl
  |true=>
   rw[A6,A3,if_pos ⟨rfl,rfl⟩];cases f:h.shut with
   |true=>rfl
   |false=>
    rw[A3,if_neg (by decide),Ul,Ad];by_cases c:0<=B9 h.Am name
    ·rw[Av c,if_pos c];rfl
    ·rw[Ap c,if_neg c];by_cases e:h.Am.length=5
     ·rw[Av (by omega),if_pos e];rfl
     ·have b:=Bc4 name h.Am;have a:=Axy ⟨name,0,t,[],[]⟩ h.Am;simp only at a;rw[Ap (by omega),if_neg e,Byg d g,Ad,i.ic,Ad,Bdw h.Am name (by omega) (λk=>by unfold Bi7 Bi6;rfl),Ad];unfold Aar Ri;simp only;rw[Aj ⟨by omega,by omega⟩,Aj (by omega),Ad,Gb,a,f]
theorem B58{name} (d:name.size<=1099511627776){t} (b:t.length<=1099511627776):Aed name t=Aa (if Gp name=true/\Ed t=true then(⟨name,0,t,[],[]⟩,true)else(Iv,false)):=by
 by_cases c:Gp name=true/\Ed t=true
 ·rw[if_pos c];exact(Bfu c.1 (W2 c.1) c.2).1
 ·unfold Aed;rw[if_neg c,Aj (by omega),Q7 ⟨name,0,[]++t,[],[]⟩ ⟨d,trivial,⟨b,λ_ _=>trivial⟩,⟨by simp,λ_ h=>by cases h⟩,⟨by simp,λ_ h=>by cases h⟩⟩,Ad]
  have:C5 ⟨name,0,[]++t,[],[]⟩=false:=by
   cases a:C5 ⟨name,0,[]++t,[],[]⟩with
   |false=>rfl
   |true=>exact absurd ⟨W1 a,(Ku a).2.1⟩ c
  rw[this];rfl
theorem Aoz{h} (i:Cd P h) name (j:name.size<=1099511627776) t (g:t.length<=1099511627776):Td h name t=Aa (Jn h name t):=by
 have l:=i.nd;unfold Td Jn;rw[B58 j g,Ad,i.s,Ad,A6,A3,Ad];by_cases b:Gp name=true/\Ed t=true
 ·rw[if_pos b,if_pos b];simp only;rw[A6,A3];cases f:h.shut with
  |true=>rfl
  |false=>
   rw[A3,if_neg (by decide),Su,Ad];by_cases c:0<=B9 h.Am name
   ·rw[Av c,if_pos c];rfl
   ·rw[Ap c,if_neg c];by_cases e:h.Am.length=5
    ·rw[Av (by omega),if_pos e];rfl
    ·have d:=Bc4 name h.Am;have a:=Axy ⟨name,0,t,[],[]⟩ h.Am;simp only at a;rw[Ap (by omega),if_neg e,i.sc,Ad,Bdw h.Am name (by omega) (λk=>by unfold Bkn Bkm;rfl),Ad];rw[Aj ⟨by omega,by omega⟩,Aj (by omega),Aj (by simp only[Dh,Iu];omega),Aj ⟨by omega,by omega⟩,Aj (by simp only[Dh,D0,Bt,B5,C0];omega),Gb,Hd,Iu,a,f]
 ·rw[if_neg b,if_neg b];rfl
end
section
variable {P:Prop}
theorem run_map{F} f (q:A0->Prop) l (n:∀s∈l,q s)
  (j:∀k (m:List A0),k<m.length->q (el m k)->F k m=Aa (Lr.go (m.set k (f (el m k))))):A2 F (λs=>s) l.length 0 l=Aa (l.map f):=by
 have g:=Fk (F:=F) (e:=λs=>s) l (λr k m=>(∃p,p.length=k/\m=p++r)/\∀s∈r,q s) (λr k m=>m.take k++r.map f) (λs c=>by
  obtain⟨⟨p,a,b⟩,_⟩:=c;rw[Hu]at b;subst b;rw[<-a,Hd];simp) (λx r k m o hx c=>by
  obtain⟨⟨p,a,b⟩,h⟩:=c;have i:el m k=x:=by rw[b,<-a,Uh]
  have d:m.set k (f x)=p++f x::r:=by rw[b,<-a,B73]
  refine .inl ⟨p++f x::r,?_,⟨⟨p++[f x],by simp[a],by simp⟩,λs d=>h s (by simp[d])⟩,?_⟩
  ·rw[j k m (by rw[b,<-a];simp) (by rw[i];exact h x (by simp)),i,d]
  ·rw[b,<-a,As5]
   ·rw[show p++f x::r=(p++[f x])++r by simp,As5 (by simp)];simp
   ·rfl) l ⟨⟨[],rfl,rfl⟩,n⟩
 rw[g];simp
def Aae (name:Cea) (e:A8) (s:A0):A0:=if s.Ah=name then⟨s.id,s.Ah,Xf s.r e⟩else s
def Og (h:Aw) (name:Cea) (Al seq base:Int) (o:List Ae):Aw×Int×Int:=
 if h.shut=true then(Ib,0,12)else if B9 h.Am name<0 then(Ib,0,6)
 else if(J1 (el h.Am (B9 h.Am name).toNat) Al seq base o).2.2=0 then
  (⟨h.shut,h.Am.set (B9 h.Am name).toNat (J1 (el h.Am (B9 h.Am name).toNat) Al seq base o).1,if Ec (el h.Am (B9 h.Am name).toNat)<Ec (J1 (el h.Am (B9 h.Am name).toNat) Al seq base o).1 then h.Ax.map (Aae name (el (J1 (el h.Am (B9 h.Am name).toNat) Al seq base o).1.list ((J1 (el h.Am (B9 h.Am name).toNat) Al seq base o).1.list.length-1)))else h.Ax,h.last⟩,(J1 (el h.Am (B9 h.Am name).toNat) Al seq base o).2.1,0)
 else(Ib,0,(J1 (el h.Am (B9 h.Am name).toNat) Al seq base o).2.2)
theorem Oy{h} (i:Cd P h){name} (c:0<=B9 h.Am name):(B9 h.Am name).toNat<h.Am.length/\B9 h.Am name<(h.Am.length:Int)/\C5 (el h.Am (B9 h.Am name).toNat)=true/\Ht (el h.Am (B9 h.Am name).toNat):=by have g:=Ws c;have a:=Cj (l:=h.Am) g.1;exact⟨g.1,Zg _ _,i.Ah a,i.sd a⟩
theorem Adv{h} (i:Cd P h):∀s∈h.Ax,Gv s.r=true:=λs a=>(i.sg s a).2.1
theorem Byn{h} (i:Cd P h) name Al seq base o:Aql h name Al seq base o=Aa (Og h name Al seq base o):=by
 unfold Aql Og;rw[Ul,Ad,i.i,Ad,A6,A3];cases n:h.shut with
 |true=>rfl
 |false=>
  rw[A3,if_neg (by decide)];by_cases c:B9 h.Am name<0
  ·rw[Av c,if_pos c];rfl
  ·obtain⟨v,k2,j,p⟩:=Oy i (name:=name) (by omega);rw[Ap c,if_neg c,Aj ⟨by omega,k2⟩,By5 p j,Ad,C2];have d:=App p j (Al:=Al) (seq:=seq) (base:=base) (o:=o);generalize J1 (el h.Am (B9 h.Am name).toNat) Al seq base o=r at d⊢;by_cases a:r.2.2=0
   ·obtain⟨l,o2,f⟩:=d a;rw[Av a,if_pos a,i.ic,Ad,Aj ⟨by omega,k2⟩,Ack l,Ad,Aj ⟨by omega,k2⟩,Ack j,Ad];by_cases b:Ec (el h.Am (B9 h.Am name).toNat)<Ec r.1
    ·rw[Av b,if_pos b]
     have t:0<r.1.list.length/\E3 (el r.1.list (r.1.list.length-1))=true:=by
      rcases f with f|⟨e,f,_⟩
      ·rw[f]at b;omega
      ·have:=(Atq (el h.Am (B9 h.Am name).toNat) e).2.1;rw[<-f]at this;exact⟨this,Ff.1 (Ku l).2.2.2.1 _ (Cj (by omega))⟩
     have w:=(Jc l).2
     rw[run_map (F:=A2h name r Al seq o) (Aae name (el r.1.list (r.1.list.length-1))) (λs=>Gv s.r=true) h.Ax (Adv i) (λk m q u=>by
      unfold A2h Bi8 Aae;by_cases g:(el m k).Ah=name
      ·rw[Av g,if_pos g,Bh (by omega) (by omega),Aj ⟨by omega,by omega⟩,show((r.1.list.length:Int)-1).toNat=r.1.list.length-1 by omega,By0 u t.2];rfl
      ·rw[Ap g,if_neg g,F9 q,Ath]),Ad,n]
    ·rw[Ap b,if_neg b,n]
   ·rw[Ap a,if_neg a];rfl
theorem Bf1{h} (i:Cd P h) name Al seq base o:Ajo h name Al seq base o=Aa (Og h name Al seq base o):=by
 unfold Ajo Og;rw[Su,Ad,i.s,Ad,A6,A3];cases n:h.shut with
 |true=>rfl
 |false=>
  rw[A3,if_neg (by decide)];by_cases c:B9 h.Am name<0
  ·rw[Av c,if_pos c];rfl
  ·obtain⟨v,k2,j,p⟩:=Oy i (name:=name) (by omega);rw[Ap c,if_neg c,Aj ⟨by omega,k2⟩,Bgm p j,Ad,C2];have d:=App p j (Al:=Al) (seq:=seq) (base:=base) (o:=o);generalize J1 (el h.Am (B9 h.Am name).toNat) Al seq base o=r at d⊢;by_cases b:r.2.2=0
   ·obtain⟨l,o2,a⟩:=d b;rw[Av b,if_pos b,i.sc,Ad,Aj ⟨by omega,k2⟩,Z5 l,Ad,Aj ⟨by omega,k2⟩,Z5 j,Ad];by_cases f:Ec (el h.Am (B9 h.Am name).toNat)<Ec r.1
    ·rw[Ap (by omega),if_pos f]
     have t:0<r.1.list.length/\E3 (el r.1.list (r.1.list.length-1))=true:=by
      rcases a with a|⟨e,a,_⟩
      ·rw[a]at f;omega
      ·have:=(Atq (el h.Am (B9 h.Am name).toNat) e).2.1;rw[<-a]at this;exact⟨this,Ff.1 (Ku l).2.2.2.1 _ (Cj (by omega))⟩
     have w:=(Jc l).2
     rw[Bh (by omega) (by omega),Aj ⟨by omega,by omega⟩,run_map (F:=A4a name r Al seq o) (Aae name (el r.1.list (r.1.list.length-1))) (λs=>Gv s.r=true) h.Ax (Adv i) (λk m q u=>by
      unfold A4a Bko Aae;by_cases g:(el m k).Ah=name
      ·rw[Av g,if_pos g,show((r.1.list.length:Int)-1).toNat=r.1.list.length-1 by omega,B6s u t.2];rfl
      ·rw[Ap g,if_neg g,F9 q,Ath]),Ad,n]
    ·have:Ec r.1=Ec (el h.Am (B9 h.Am name).toNat):=by
      rcases a with a|⟨e,a,_⟩
      ·rw[a]
      ·rw[a,A6w]at f;omega
     rw[Av this,if_neg f,n]
   ·rw[Ap b,if_neg b];rfl
theorem Wl{d} (h:C5 d=true):0<=Ec d/\Ec d<=999999008:=by have:=Jc h;unfold Ec;omega
def Oh (h:Aw) (name:Cea) (a:Int):Aw×Int×Int:=
 if 1<=a/\a<=6 then(if h.shut=true then(Ib,0,12)else if B9 h.Am name<0 then(Ib,0,6)else if h.Ax.length=6\/h.last=1000000000 then(Ib,0,10)
  else(⟨h.shut,h.Am,h.Ax++[⟨h.last+1,name,Pz a (Ec (el h.Am (B9 h.Am name).toNat))⟩],h.last+1⟩,h.last+1,0))else(Ib,0,1)
theorem Byo{h} (i:Cd P h) name room:Aio h name room=Aa (Oh h name room):=by
 have k:=i.ns;have f:=i.la;unfold Aio Oh;rw[Ul,Ad,i.i,Ad,A6,A3,G5,Ad,Ad];by_cases a:1<=room/\room<=6
 ·rw[decide_eq_true a,A6,A3,if_pos a];cases g:h.shut with
  |true=>rfl
  |false=>
   rw[A3,if_neg (by decide)];by_cases c:B9 h.Am name<0
   ·rw[Av c,if_pos c];rfl
   ·obtain⟨l,k2,d,m⟩:=Oy i (name:=name) (by omega);have j:=Wl d;rw[Ap c,if_neg c];by_cases e:h.Ax.length=6
    ·rw[Av (by omega),Ad,Cg,if_pos (.inl e)];rfl
    ·rw[Ap (by omega),Ad];by_cases b:h.last=1000000000
     ·rw[Av b,if_pos (.inr b)];rfl
     ·rw[Ap b,if_neg (by omega),i.ic,Ad,Bh (by omega) (by omega),Aj ⟨by omega,k2⟩,Ack d,Ad,Bbk a ⟨by omega,by omega⟩,Ad,Aj (by omega),g]
 ·rw[decide_eq_false a,Fs,Cg,if_neg a];rfl
theorem Bf2{h} (i:Cd P h) name room:Aeh h name room=Aa (Oh h name room):=by
 have k:=i.ns;have f:=i.la;unfold Aeh Oh;rw[Su,Ad,i.s,Ad,A6,A3,Hs,Ad,Ad];by_cases a:1<=room/\room<=6
 ·rw[decide_eq_true a,A6,A3,if_pos a];cases g:h.shut with
  |true=>rfl
  |false=>
   rw[A3,if_neg (by decide)];by_cases c:B9 h.Am name<0
   ·rw[Av c,if_pos c];rfl
   ·obtain⟨l,k2,d,m⟩:=Oy i (name:=name) (by omega);have j:=Wl d;rw[Ap c,if_neg c];by_cases e:h.Ax.length=6
    ·rw[Av (by omega),Ad,Cg,if_pos (.inl e)];rfl
    ·rw[Ap (by omega),Ad];by_cases b:h.last=1000000000
     ·rw[Av b,if_pos (.inr b)];rfl
     ·rw[Ap b,if_neg (by omega),Aj ⟨by omega,k2⟩,Z5 d,Ad,Bgb a ⟨by omega,by omega⟩,Ad,i.sc,Ad,Bh (by omega) (by omega),Aj (by omega),g]
 ·rw[decide_eq_false a,Fs,Cg,if_neg a];rfl
def Nv (h:Aw) (n m:Int):Aw×List A8×Int:=
 if m<1 then(Ib,[],1)else if Fv h.Ax n<0 then(Ib,[],8)
 else if(Oq (el h.Ax (Fv h.Ax n).toNat).r m).2.2=0 then(⟨h.shut,h.Am,h.Ax.set (Fv h.Ax n).toNat ⟨(el h.Ax (Fv h.Ax n).toNat).id,(el h.Ax (Fv h.Ax n).toNat).Ah,(Oq (el h.Ax (Fv h.Ax n).toNat).r m).1⟩,h.last⟩,(Oq (el h.Ax (Fv h.Ax n).toNat).r m).2.1,0)
 else(Ib,[],(Oq (el h.Ax (Fv h.Ax n).toNat).r m).2.2)
theorem Byk{h} (i:Cd P h) n m:Aij h n m=Aa (Nv h n m):=by
 unfold Aij Nv;rw[Bbi,Ad,i.i,Ad,A6,A3,Ad];by_cases a:m<1
 ·rw[Av a,if_pos a];rfl
 ·rw[Ap a,if_neg a];by_cases c:Fv h.Ax n<0
  ·rw[Av c,if_pos c];rfl
  ·obtain⟨e,k2,f,d⟩:=Xn (l:=h.Ax) (n:=n) (by omega);rw[Ap c,if_neg c,Aj ⟨by omega,k2⟩,Byz (Adv i _ d) (by omega),Ad,C2];generalize Oq (el h.Ax (Fv h.Ax n).toNat).r m=r;by_cases b:r.2.2=0
   ·rw[Av b,if_pos b,i.ic,Ad,Aj ⟨by omega,k2⟩]
   ·rw[Ap b,if_neg b];rfl
theorem Bfy{h} (i:Cd P h) n m:Aef h n m=Aa (Nv h n m):=by
 unfold Aef Nv;rw[Bf0,Ad,i.s,Ad,A6,A3,Ad];by_cases a:m<1
 ·rw[Av a,if_pos a];rfl
 ·rw[Ap a,if_neg a];by_cases c:Fv h.Ax n<0
  ·rw[Av c,if_pos c];rfl
  ·obtain⟨e,k2,f,d⟩:=Xn (l:=h.Ax) (n:=n) (by omega);rw[Ap c,if_neg c,Aj ⟨by omega,k2⟩,B6r (Adv i _ d) (by omega),Ad,C2];generalize Oq (el h.Ax (Fv h.Ax n).toNat).r m=r;by_cases b:r.2.2=0
   ·rw[Av b,if_pos b,i.sc,Ad,Aj ⟨by omega,k2⟩]
   ·rw[Ap b,if_neg b];rfl
def My (h:Aw) (n:Int):Aw×List Int×Int×Int:=
 if Fv h.Ax n<0 then(Ib,[],0,8)
 else(⟨h.shut,h.Am,h.Ax.set (Fv h.Ax n).toNat ⟨(el h.Ax (Fv h.Ax n).toNat).id,(el h.Ax (Fv h.Ax n).toNat).Ah,Pz (el h.Ax (Fv h.Ax n).toNat).r.cap (Ec (el h.Am (B9 h.Am (el h.Ax (Fv h.Ax n).toNat).Ah).toNat))⟩,h.last⟩,Hz (el h.Am (B9 h.Am (el h.Ax (Fv h.Ax n).toNat).Ah).toNat).list (el h.Am (B9 h.Am (el h.Ax (Fv h.Ax n).toNat).Ah).toNat).text,Ec (el h.Am (B9 h.Am (el h.Ax (Fv h.Ax n).toNat).Ah).toNat),0)
theorem Cd.dix{h} (i:Cd P h){s} (a:s∈h.Ax):0<=B9 h.Am s.Ah:=by obtain⟨_,_,d,g,_⟩:=i.sg s a;exact(Aub g).1
theorem Byl{h} (i:Cd P h) n:Aik h n=Aa (My h n):=by
 unfold Aik My;rw[Bbi,Ad,i.i,Ad,A6,A3];by_cases c:Fv h.Ax n<0
 ·rw[Av c,if_pos c];rfl
 ·obtain⟨j,k2,k,b⟩:=Xn (l:=h.Ax) (n:=n) (by omega);obtain⟨f,d,a,e⟩:=Oy i (i.dix b);have g:=Wl a;rw[Ap c,if_neg c,Aj ⟨by omega,k2⟩,Ul,Ad,Aj ⟨i.dix b,d⟩,i.ic,Ad,Aj ⟨by omega,k2⟩,Ack a,Ad,By1 (Adv i _ b) ⟨by omega,by omega⟩,Ad,Aj ⟨by omega,k2⟩,Bbg e a,Ad,Ad]
theorem Bfz{h} (i:Cd P h) n:Aeg h n=Aa (My h n):=by
 unfold Aeg My;rw[Bf0,Ad,i.s,Ad,A6,A3];by_cases c:Fv h.Ax n<0
 ·rw[Av c,if_pos c];rfl
 ·obtain⟨j,k2,k,b⟩:=Xn (l:=h.Ax) (n:=n) (by omega);obtain⟨f,d,a,e⟩:=Oy i (i.dix b);have g:=Wl a;rw[Ap c,if_neg c,Aj ⟨by omega,k2⟩,Su,Ad,Aj ⟨i.dix b,d⟩,i.sc,Ad,Aj ⟨by omega,k2⟩,Z5 a,Ad,B6t (Adv i _ b) ⟨by omega,by omega⟩,Ad,Aj ⟨by omega,k2⟩,Aoy e a,Ad,Ad]
def Pl (h:Aw):Aw×Int:=if h.shut=true then(Ib,12)else(⟨true,h.Am,h.Ax,h.last⟩,0)
theorem Bym{h} (i:Cd P h):Aim h=Aa (Pl h):=by
 unfold Aim Pl;rw[i.i,Ad,A6,A3];cases a:h.shut with
 |true=>rfl
 |false=>rw[A3,if_neg (by decide),i.ic];rfl
theorem B6e{h} (i:Cd P h):Ajn h=Aa (Pl h):=by
 unfold Ajn Pl;rw[i.s,Ad,A6,A3];cases a:h.shut with
 |true=>rfl
 |false=>rw[A3,if_neg (by decide),i.sc];rfl
def Wm (h:Aw) (c:Bb):Bi:=
 if h.shut=true then⟨12,0,[],[]⟩else if B9 h.Am c.Ah<0 then⟨6,0,[],[]⟩
 else if c.kind=4 then⟨0,Ec (el h.Am (B9 h.Am c.Ah).toNat),Hz (el h.Am (B9 h.Am c.Ah).toNat).list (el h.Am (B9 h.Am c.Ah).toNat).text,[]⟩
 else⟨(Wi (el h.Am (B9 h.Am c.Ah).toNat) c.n).2,0,[],(Wi (el h.Am (B9 h.Am c.Ah).toNat) c.n).1⟩
theorem Bbr{h} (i:Cd P h) c:Ai6 h c=Aa (Wm h c):=by
 unfold Ai6 Wm;rw[Ul,Ad];cases j:h.shut with
 |true=>rfl
 |false=>
  rw[A3,if_neg (by decide)];by_cases a:B9 h.Am c.Ah<0
  ·rw[Av a,if_pos a]
  ·obtain⟨g,d,e,f⟩:=Oy i (name:=c.Ah) (by omega);rw[Ap a,if_neg a];by_cases b:c.kind=4
   ·rw[Av b,if_pos b,Aj ⟨by omega,d⟩,Aj ⟨by omega,d⟩,Bbg f e,Ad,Ack e,Ad]
   ·rw[Ap b,if_neg b,Aj ⟨by omega,d⟩,Byi _ _ f,Ad]
theorem Bgl{h} (i:Cd P h) c:Akb h c=Aa (Wm h c):=by
 unfold Akb Wm;rw[Su,Ad];cases j:h.shut with
 |true=>rfl
 |false=>
  rw[A3,if_neg (by decide)];by_cases a:B9 h.Am c.Ah<0
  ·rw[Av a,if_pos a]
  ·obtain⟨g,d,e,f⟩:=Oy i (name:=c.Ah) (by omega);rw[Ap a,if_neg a];by_cases b:c.kind=4
   ·rw[Av b,if_pos b,Aj ⟨by omega,d⟩,Aj ⟨by omega,d⟩,Aoy f e,Ad,Z5 e,Ad]
   ·rw[Ap b,if_neg b,Aj ⟨by omega,d⟩,B6b _ _ f,Ad]
def Np (h:Aw) (r:Aw) (a d:Int) (c:List Int) (b:List A8):Aw×Bi:=if a=0 then(r,⟨0,d,c,b⟩)else(h,⟨a,0,[],[]⟩)
def Kn (h:Aw) (c:Bb):Aw×Bi:=
 if Fp c=true then
  (if c.kind=1 then Np h (Jn h c.Ah c.text).1 (Jn h c.Ah c.text).2 0 [] []
  else if c.kind=2 then Np h (Og h c.Ah c.Al c.seq c.n c.o).1 (Og h c.Ah c.Al c.seq c.n c.o).2.2 (Og h c.Ah c.Al c.seq c.n c.o).2.1 [] []
  else if c.kind=3 then(h,Wm h c)else if c.kind=4 then(h,Wm h c)
  else if c.kind=5 then Np h (Oh h c.Ah c.n).1 (Oh h c.Ah c.n).2.2 (Oh h c.Ah c.n).2.1 [] []
  else if c.kind=6 then Np h (Nv h c.Al c.n).1 (Nv h c.Al c.n).2.2 0 [] (Nv h c.Al c.n).2.1
  else if c.kind=7 then Np h (My h c.Al).1 (My h c.Al).2.2.2 (My h c.Al).2.2.1 (My h c.Al).2.1 []
  else Np h (Pl h).1 (Pl h).2 0 [] [])
 else(h,⟨1,0,[],[]⟩)
theorem Anx{c} (h:Fp c=true):c.Ah.size<=8/\c.text.length<=200:=by unfold Fp at h;simp only[A9,decide_eq_true_eq]at h;exact⟨h.1.1.1.2,Ln h.1.2⟩
theorem Bbe{h} (i:Cd P h) c:Aif h c=Aa (Kn h c):=by
 unfold Aif Kn;rw[i.i,Ad,A6,A3,Amp,Ad,Ad];cases l:Fp c with
 |false=>rw[Fs,Cg,i.ic];rfl
 |true=>
  have m:=Anx l;rw[A6,A3,if_pos rfl];unfold Np;by_cases b:c.kind=1
  ·rw[Av b,if_pos b,Byj i _ (by omega),Ad,C2];by_cases k:(Jn h c.Ah c.text).2=0
   ·rw[Av k,if_pos k,k]
   ·rw[Ap k,if_neg k,i.ic];rfl
  rw[Ap b,if_neg b];by_cases d:c.kind=2
  ·rw[Av d,if_pos d,Byn i,Ad,C2];by_cases k:(Og h c.Ah c.Al c.seq c.n c.o).2.2=0
   ·rw[Av k,if_pos k,k]
   ·rw[Ap k,if_neg k,i.ic];rfl
  rw[Ap d,if_neg d];by_cases a:c.kind=3
  ·rw[Av a,if_pos a,Av a,i.ic,Ad,Bbr i];rfl
  rw[Ap a,if_neg a];by_cases e:c.kind=4
  ·rw[Av e,if_pos e,i.ic,Ad,Bbr i];rfl
  rw[Ap e,if_neg e];by_cases f:c.kind=5
  ·rw[Av f,if_pos f,Byo i,Ad,C2];by_cases k:(Oh h c.Ah c.n).2.2=0
   ·rw[Av k,if_pos k,k]
   ·rw[Ap k,if_neg k,i.ic];rfl
  rw[Ap f,if_neg f];by_cases g:c.kind=6
  ·rw[Av g,if_pos g,Byk i,Ad,C2];by_cases k:(Nv h c.Al c.n).2.2=0
   ·rw[Av k,if_pos k,k]
   ·rw[Ap k,if_neg k,i.ic];rfl
  rw[Ap g,if_neg g];by_cases j:c.kind=7
  ·rw[Av j,if_pos j,Byl i,Ad,C2];by_cases k:(My h c.Al).2.2.2=0
   ·rw[Av k,if_pos k,k]
   ·rw[Ap k,if_neg k,i.ic];rfl
  rw[Ap j,if_neg j,Bym i,Ad,C2];by_cases k:(Pl h).2=0
  ·rw[Av k,if_pos k,k]
  ·rw[Ap k,if_neg k,i.ic];rfl
theorem B57{h} (i:Cd P h) c:Arw h c=Aa (Kn h c):=by
 unfold Arw Kn;rw[i.s,Ad,A6,A3,Ahh,Ad,Ad];cases l:Fp c with
 |false=>rw[Fs,Cg,i.sc];rfl
 |true=>
  have m:=Anx l;rw[A6,A3,if_pos rfl];unfold Np;by_cases b:c.kind=1
  ·rw[Av b,if_pos b,Aoz i _ (by omega) _ (by omega),Ad,C2];by_cases k:(Jn h c.Ah c.text).2=0
   ·rw[Av k,if_pos k]
   ·rw[Ap k,if_neg k,i.sc];rfl
  rw[Ap b,if_neg b];by_cases d:c.kind=2
  ·rw[Av d,if_pos d,Bf1 i,Ad,C2];by_cases k:(Og h c.Ah c.Al c.seq c.n c.o).2.2=0
   ·rw[Av k,if_pos k]
   ·rw[Ap k,if_neg k,i.sc];rfl
  rw[Ap d,if_neg d];by_cases a:c.kind=3
  ·rw[Av a,if_pos a,Av a,i.sc,Ad,Bgl i];rfl
  rw[Ap a,if_neg a];by_cases e:c.kind=4
  ·rw[Av e,if_pos e,i.sc,Ad,Bgl i];rfl
  rw[Ap e,if_neg e];by_cases f:c.kind=5
  ·rw[Av f,if_pos f,Bf2 i,Ad,C2];by_cases k:(Oh h c.Ah c.n).2.2=0
   ·rw[Av k,if_pos k]
   ·rw[Ap k,if_neg k,i.sc];rfl
  rw[Ap f,if_neg f];by_cases g:c.kind=6
  ·rw[Av g,if_pos g,Bfy i,Ad,C2];by_cases k:(Nv h c.Al c.n).2.2=0
   ·rw[Av k,if_pos k]
   ·rw[Ap k,if_neg k,i.sc];rfl
  rw[Ap g,if_neg g];by_cases j:c.kind=7
  ·rw[Av j,if_pos j,Bfz i,Ad,C2];by_cases k:(My h c.Al).2.2.2=0
   ·rw[Av k,if_pos k]
   ·rw[Ap k,if_neg k,i.sc];rfl
  rw[Ap j,if_neg j,B6e i,Ad,C2];by_cases k:(Pl h).2=0
  ·rw[Av k,if_pos k]
  ·rw[Ap k,if_neg k,i.sc];rfl
end
section
variable {P:Prop}
theorem Ba7:Cd P Ib:=⟨by simp[Ib],by simp[Ib],by simp[Ib],rfl,List.Pairwise.nil,λs a=>by cases a⟩
theorem A8c{d m} (a:m≠d.name):∀l,Oc (Nw d l) m=Oc l m
 |[]=>by unfold Nw Oc;rw[Vz,decide_eq_false (λk=>a k.symm)]
 |y::r=>by
  have b:=A8c a r;unfold Oc at b⊢;rw[Nw];split
  ·rw[Vz,Vz,b]
  ·rw[Vz,decide_eq_false (λk=>a k.symm)]
theorem Bbz d:∀l,(Nw d l).length=l.length+1
 |[]=>rfl
 |y::r=>by
  rw[Nw];split
  ·rw[B5,B5,Bbz d r]
  ·rfl
theorem A7r{d} (b:C5 d=true):∀ {l:List Ao} {p:Option Ao},Fj Jk p l=true->(∀q,p=Aa q->Cv q.name d.name=true)->(∀x∈l,x.name≠d.name)->Fj Jk p (Nw d l)=true
 |[],p,_,hp,_=>by
  unfold Nw Fj Fj Jk;rw[b];cases p with
  |none=>rfl
  |some q=>simp only[Jz];rw[hp q rfl];rfl
 |y::r,p,h,hp,hn=>by
  rw[Fj,A9]at h;rw[Nw];split
  ·rename_i c;rw[Fj,h.1,A7r b h.2 (λq e=>by cases e;exact c) (λx hx=>hn x (by simp[hx]))];rfl
  ·rename_i c;have f:=Bfo (Abe.2 c) (hn y (by simp));rw[Fj,Fj,h.2];have a:=h.1;unfold Jk at a⊢;simp only[A9]at a;rw[b,a.1];simp only[Jz];rw[f];cases p with
   |none=>rfl
   |some q=>simp only[Jz];rw[hp q rfl];rfl
theorem An4{h} (i:Cd P h){n t} (a:(Jn h n t).2=0):Cd P (Jn h n t).1:=by
 unfold Jn at a⊢;split at a
 ·rename_i c;rw[if_pos c];split at a
  ·simp at a
  ·rename_i g;rw[if_neg g];split at a
   ·simp at a
   ·rename_i e;rw[if_neg e];split at a
    ·simp at a
    ·rename_i j;rw[if_neg j];have b:∀x∈h.Am,x.name≠n:=λx hx=>by have:=(Agh (p:=λd:Ao=>decide (d.name=n)) (l:=h.Am)).1 (by unfold B9 at e;omega) x hx;exact of_decide_eq_false this
     refine⟨by simp only[Bbz];have:=i.nd;omega,i.ns,i.la,A7r (Bc2 c.1 c.2) i.cd (λq k=>by cases k) b,i.ci,λs m=>?_⟩;obtain⟨g1,g2,d,g3,g4⟩:=i.sg s m;refine⟨g1,g2,d,?_,g4⟩;have f:=Ab4 g3;rw[A8c (by simp only;rw[<-f.2];exact b d f.1)];exact g3
 ·simp at a
theorem Bsd{x d} (a:d.name=x.name) r:Fj Jk (Aa d) r=Fj Jk (Aa x) r:=by
 cases r with
 |nil=>rfl
 |cons y r=>rw[Fj,Fj];unfold Jk;simp only[Jz];rw[a]
theorem A7t{d} (c:C5 d=true):∀ {l:List Ao} {k:Nat} {p:Option Ao},k<l.length->d.name=(el l k).name->Fj Jk p l=true->Fj Jk p (l.set k d)=true
 |[],k,p,h,_,_=>by simp at h
 |x::r,0,p,_,hn,h=>by have a:d.name=x.name:=hn;rw[V5,Fj,Bsd a];rw[Fj,A9]at h;rw[h.2];have b:=h.1;unfold Jk at b⊢;rw[A9]at b;rw[c,a,b.2];rfl
 |x::r,k+1,p,hk,hn,h=>by rw[Ae5,Fj];rw[Fj,A9]at h;rw[h.1,A7t c (l:=r) (k:=k) (by simpa using hk) hn h.2];rfl
theorem B0r{s a} {e:A8} (h:s<:+a++[e]) (f:0<s.length):el s (s.length-1)=e:=by
 obtain⟨t,b⟩:=h;have d:t.length+s.length=a.length+1:=by rw[<-Bt,b];simp
 have c:el (t++s) a.length=e:=by rw[b];exact Uh a e []
 rw[<-c];unfold el;rw[Ni,Ni,Tr (by omega)];rw[show a.length-t.length=s.length-1 by omega]
theorem B74 (l:List Ao){k} (h:k<l.length):l.set k (el l k)=l:=by rw[F9 h,Ath]
theorem B3x{r e} (h:Gv r=true) (a:E3 e=true):Gv (Xf r e)=true:=by
 have g:=N0 h;unfold Xf;by_cases c:r.out=true
 ·rw[if_pos c];exact h
 ·rw[if_neg c];split
  ·unfold Gv;simp only;rw[decide_eq_true g.1,decide_eq_true g.2.1,decide_eq_true (show(([]:List A8).length:Int)<=r.cap by simp;omega)];rfl
  ·unfold Gv;simp only;rw[decide_eq_true g.1,decide_eq_true g.2.1,decide_eq_true (show((r.list++[e]).length:Int)<=r.cap by simp;omega),Abe.2 c,Akn,g.2.2.2.2];simp[a]
theorem Bhg{h} (i:Cd P h){n Al seq base o} (c:(Og h n Al seq base o).2.2=0):Cd P (Og h n Al seq base o).1:=by
 unfold Og at c⊢;split at c
 ·simp at c
 ·rename_i C;rw[if_neg C];split at c
  ·simp at c
  ·rename_i D;rw[if_neg D];split at c
   ·rename_i p;rw[if_pos p];obtain⟨A,k2,K,L⟩:=Oy i (name:=n) (by omega);obtain⟨B,o2,f⟩:=App L K p;simp only;generalize J1 (el h.Am (B9 h.Am n).toNat) Al seq base o=r at B o2 f⊢;rcases f with f|⟨e,f,F,e2⟩
    ·rw[f,if_neg (by omega),B74 _ A];exact⟨i.nd,i.ns,i.la,i.cd,i.ci,i.sg⟩
    ·have H:=A6w (el h.Am (B9 h.Am n).toNat) e;have k:=Atq (el h.Am (B9 h.Am n).toNat) e;have y:Oc h.Am n=Aa (el h.Am (B9 h.Am n).toNat):=by rw[Alm,if_pos (by omega)]
     have l:=(Ab4 y).2;rw[<-f]at H k;rw[B0r k.1 k.2.1,if_pos (by omega)];refine⟨by simp only[Ft];exact i.nd,by simp only[Gz];exact i.ns,i.la,A7t B A o2 i.cd,?_,λs z=>?_⟩
     ·simp only;rw[Abl];refine i.ci.imp λ{a b} v=>?_;unfold Aae;split<;>split<;>exact v
     ·simp only at z⊢;obtain⟨g,Dw,rfl⟩:=K7.1 z;obtain⟨g1,g2,d,g3,g4⟩:=i.sg g Dw;unfold Aae;by_cases j:g.Ah=n
      ·rw[if_pos j];rw[j,y]at g3;have u:=D1.inj g3;subst u;refine⟨g1,B3x g2 F,r.1,by simp only;rw[j,Auc (by rw[o2,l]) (by omega),if_pos rfl],λho=>?_⟩;have N:=N0 g2;unfold Xf at ho⊢;simp only at ho⊢;by_cases q:g.r.out=true
       ·rw[if_pos q]at ho;rw[q]at ho;cases ho
       ·rw[if_neg q]at ho⊢;by_cases w:(g.r.list.length:Int)=g.r.cap
        ·rw[if_pos w]at ho;cases ho
        ·rw[if_neg w];obtain⟨O,M⟩:=g4 (Abe.2 q);refine⟨by simp only[Bt,B5,C0];omega,λG=>?_⟩;have m:g.r.list++[e]<:+(el h.Am (B9 h.Am n).toNat).list++[e]:=by obtain⟨t,I⟩:=M G;exact⟨t,by rw[<-I];simp⟩
         refine List.suffix_of_suffix_length_le m k.1 ?_;rcases k.2.2 with x|x
         ·simp only[Bt,B5,C0];omega
         ·rw[x];exact m.length_le
      ·rw[if_neg j];exact⟨g1,g2,d,by rw[Auc (by rw[o2,l]) (by omega),if_neg j];exact g3,g4⟩
   ·rename_i p;exact absurd c p
theorem Bhi{h} (i:Cd P h){n room} (c:(Oh h n room).2.2=0):Cd P (Oh h n room).1:=by
 unfold Oh at c⊢;split at c
 ·rename_i f;rw[if_pos f];split at c
  ·simp at c
  ·rename_i j;rw[if_neg j];split at c
   ·simp at c
   ·rename_i k;rw[if_neg k];split at c
    ·simp at c
    ·rename_i l;rw[if_neg l];obtain⟨r,k2,o,t⟩:=Oy i (name:=n) (by omega);have g:=Wl o;have p:=i.la;have q:=i.ns;refine⟨i.nd,by simp only[Bt,B5,C0];omega,by simp only;omega,i.cd,?_,λs e=>?_⟩
     ·simp only;rw[Ae4];refine⟨i.ci,A6g _ _,λa m b g=>?_⟩;rw[Eo.1 g];have:=(i.sg a m).1;simp only;omega
     ·simp only at e⊢;rcases Ei.1 e with e|e
      ·obtain⟨g1,g2,d,g3,g4⟩:=i.sg s e;exact⟨by omega,g2,d,g3,g4⟩
      ·rw[Eo.1 e];refine⟨by simp only;omega,Aot f ⟨by omega,by omega⟩,el h.Am (B9 h.Am n).toNat,by simp only;rw[Alm,if_pos (by omega)],λ_=>⟨by simp[Pz],λ_=>List.nil_suffix⟩⟩
 ·simp at c
theorem Bgw{h} (i:Cd P h){j y} (m:j<h.Ax.length) (d:y.id=(el h.Ax j).id) (g:sbG P h.Am h.last y):Cd P ⟨h.shut,h.Am,h.Ax.set j y,h.last⟩:=by
 refine⟨i.nd,by simp only[Ft];exact i.ns,i.la,i.cd,?_,λs c=>?_⟩
 ·have e:(h.Ax.set j y).map (λs=>s.id)=h.Ax.map (λs=>s.id):=by
   rw[A6c,d,F9 m];have k:j<(h.Ax.map λs=>s.id).length:=by simpa using m
   have:=Ath k;rw[Atb]at this;exact this
  have l:=i.ci;rw[<-Abl (f:=λs:A0=>s.id) (R:=λa b=>a<b)]at l⊢;simp only;rw[e];exact l
 ·simp only at c⊢;rcases V4 c with c|c
  ·exact i.sg s c
  ·rw[c];exact g
theorem Bei{h} (i:Cd P h){n m} (b:(Nv h n m).2.2=0):Cd P (Nv h n m).1:=by
 unfold Nv at b⊢;split at b
 ·simp at b
 ·rename_i f;rw[if_neg f];split at b
  ·simp at b
  ·rename_i g;rw[if_neg g];split at b
   ·rename_i a;rw[if_pos a];obtain⟨o,k2,u,p⟩:=Xn (l:=h.Ax) (n:=n) (by omega);refine Bgw i o rfl ?_;obtain⟨g1,g2,d,g3,g4⟩:=i.sg _ p;generalize el h.Ax (Fv h.Ax n).toNat=s at a g1 g2 g3 g4⊢;have k:=i.Ah (Ab4 g3).1;have t:=Wl k;have e:=N0 g2;unfold Oq at a⊢;by_cases c:s.r.out=true
    ·rw[if_pos c]at a;simp at a
    ·rw[if_neg c];obtain⟨v,q⟩:=g4 (Abe.2 c);refine⟨g1,?_,d,g3,λ_=>⟨by simp only[D0];omega,λj=>(List.drop_suffix _ _).trans (q j)⟩⟩;unfold Gv;simp only;rw[decide_eq_true e.1,decide_eq_true (show 1<=s.r.next+min m (s.r.list.length:Int)/\s.r.next+min m (s.r.list.length:Int)<=1000000000 by omega),decide_eq_true (show((s.r.list.drop (min m (s.r.list.length:Int)).toNat).length:Int)<=s.r.cap by rw[D0];omega),Abe.2 c];have:(s.r.list.drop (min m (s.r.list.length:Int)).toNat).all E3=true:=Ff.2 λx hx=>Ff.1 e.2.2.2.2 x (Kj hx);rw[this];rfl
   ·rename_i a;exact absurd b a
theorem Bfc{h} (i:Cd P h){n} (a:(My h n).2.2.2=0):Cd P (My h n).1:=by
 unfold My at a⊢;split at a
 ·simp at a
 ·rename_i b;rw[if_neg b];obtain⟨f,k2,k,g⟩:=Xn (l:=h.Ax) (n:=n) (by omega);refine Bgw i f rfl ?_;obtain⟨g1,g2,d,g3,g4⟩:=i.sg _ g;have c:=i.Ah (Ab4 g3).1;have j:=Wl c;have e:=(Aub g3).2;rw[e];exact⟨g1,Aot (N0 g2).1 ⟨by omega,by omega⟩,d,g3,λ_=>⟨by simp[Pz],λ_=>List.nil_suffix⟩⟩
theorem B76{h} (i:Cd P h) (a:(Pl h).2=0):Cd P (Pl h).1:=by
 unfold Pl at a⊢;split at a
 ·simp at a
 ·rename_i b;rw[if_neg b];exact⟨i.nd,i.ns,i.la,i.cd,i.ci,i.sg⟩
theorem Acf{h r} (i:Cd P h){code rev t l} (k:code=0->Cd P r):Cd P (Np h r code rev t l).1:=by
 unfold Np;split
 ·rename_i c;exact k c
 ·exact i
theorem Aua{h} (i:Cd P h) c:Cd P (Kn h c).1:=by
 unfold Kn;split
 ·split
  ·exact Acf i (An4 i)
  split
  ·exact Acf i (Bhg i)
  split
  ·exact i
  split
  ·exact i
  split
  ·exact Acf i (Bhi i)
  split
  ·exact Acf i (Bei i)
  split
  ·exact Acf i (Bfc i)
  ·exact Acf i (B76 i)
 ·exact i
end
theorem A63 (a b:Bi):(a=b)↔(((a.code=b.code/\a.rev=b.rev)/\a.text=b.text)/\a.list=b.list):=by cases a;cases b;simp[and_assoc]
theorem Awk a b:X3 a b=Aa (decide (a=b)):=by
 unfold X3;by_cases h:(a.length:Int)=b.length
 ·rw[decide_eq_true h,A6,cond_false,Ab6 a b (by omega) (y:=.inr ()) (λk c d=>by
   unfold A3g A3f;rw[Aj ⟨by omega,by omega⟩,Byh,Ad];cases decide (el a k=el b k)<;>rfl),Ad]
  cases decide (a=b)<;>rfl
 ·rw[decide_eq_false h,decide_eq_false (p:=a=b) λe=>h (by rw[e])];rfl
theorem Awe a b:N5 a b=Aa (decide (a=b)):=by unfold N5;simp only[Awk,Zb,Ad,Dj,Gc];refine Km ?_;simp only[A9,decide_eq_true_eq];exact(A63 a b).symm
theorem B56 a b:Aa1 a b=Aa (decide (a=b)):=by
 unfold Aa1;simp only[Bgf,Ad,Dj,F8];by_cases h:((a.code=b.code/\a.rev=b.rev)/\a.text=b.text)/\(a.list.length:Int)=b.list.length
 ·rw[decide_eq_true h.1.1.1,decide_eq_true h.1.1.2,decide_eq_true h.1.2,decide_eq_true h.2];simp only[A6,Rs,cond_false]
  rw[Ab6 a.list b.list (by omega) (y:=.inr ()) (λk f c=>by
   unfold A3y A3x;rw[Aj ⟨by omega,by omega⟩,B6a,Ad];cases decide (el a.list k=el b.list k)<;>rfl),Ad]
  have:decide (a=b)=decide (a.list=b.list):=decide_eq_decide.2 ((A63 a b).trans ⟨λh=>h.2,λc=>⟨h.1,c⟩⟩);rw[this];cases decide (a.list=b.list)<;>rfl
 ·rw[decide_eq_false (p:=a=b) λe=>h (by subst e;simp)];have:(((!decide (a.code=b.code)||!decide (a.rev=b.rev))||!decide (a.text=b.text))||!decide ((a.list.length:Int)=b.list.length))=true:=by simp only[Ha,L2,decide_eq_false_iff_not];refine Classical.byContradiction λd=>h ?_;simp only[not_or,Classical.not_not]at d;exact d
  rw[this];rfl
def Ak2:Bi:=⟨0,0,[],[]⟩
def Att:Bi:=⟨11,0,[],[]⟩
def P5 (t:A4):Prop:=
 ((t.pc=0\/(t.pc=1/\1<=t.c.kind/\t.c.kind<=5)\/(t.pc=2/\t.c.kind=2))/\t.Bv= -1/\t.Cl= -1/\t.a=Ak2)\/
 ((t.pc=3\/t.pc=4)/\(((t.a=Att/\t.c.kind=2)/\t.Bv= -1)\/(t.inv<=t.Bv/\t.Bv<=1000000))/\((t.pc=3/\t.Cl= -1)\/(t.pc=4/\max t.inv t.Bv<=t.Cl/\t.Cl<=1000000)))
instance (t:A4):Decidable (P5 t):=inferInstanceAs (Decidable (_\/_))
def Ip (t:A4):Bool:=(Fp t.c&&decide (0<=t.inv/\t.inv<=1000000))&&decide (P5 t)
theorem By6 t:Aiw t=Aa (Ip t):=by
 unfold Aiw Ip;rw[Amp,Ad];simp only[G5,Acm,Awe,Ad,Dj,F8,Gc,Lf,Mu,C2];by_cases a:Fp t.c=true/\0<=t.inv/\t.inv<=1000000
 ·rw[a.1,decide_eq_true a.2];simp only[A6,A5t,cond_false,Asw,K1];by_cases i:0<=t.pc/\t.pc<=4
  ·rcases(show t.pc=0\/t.pc=1\/t.pc=2\/t.pc=3\/t.pc=4 by omega)with h|h|h|h|h
   all_goals simp only[h,P5,Ak2,Att]
   all_goals simp[Bool.and_assoc]
  ·have b:¬t.pc=0:=by omega
   have d:¬t.pc=1:=by omega
   have e2:¬t.pc=2:=by omega
   have e:¬t.pc=3:=by omega
   have f:¬t.pc=4:=by omega
   simp[b,d,e2,e,f,P5]
 ·have:(!Fp t.c||!decide (0<=t.inv/\t.inv<=1000000))=true:=by
   simp only[Ha,L2,decide_eq_false_iff_not];cases h:Fp t.c with
   |false=>exact .inl rfl
   |true=>exact .inr λg=>a ⟨h,g⟩
  rw[this,show(Fp t.c&&decide (0<=t.inv/\t.inv<=1000000))=false by rw[Bqz];rw[Ha]at this;rwa [L2,L2]at this];simp
theorem B6z t:Ajw t=Aa (Ip t):=by
 unfold Ajw Ip;rw[Ahh,Ad];simp only[Hs,Ahl,B56,Ad,Dj,F8,Gc,Lf,Mu,C2];by_cases a:Fp t.c=true/\0<=t.inv/\t.inv<=1000000
 ·rw[a.1,decide_eq_true a.2];simp only[A6,A5t,Rr,cond_false,Asw,K1];by_cases b:0<=t.pc/\t.pc<=4
  ·rw[decide_eq_true b];rcases(show t.pc=0\/t.pc=1\/t.pc=2\/t.pc=3\/t.pc=4 by omega)with h|h|h|h|h
   all_goals simp only[h,P5,Ak2,Att]
   all_goals simp[Bool.and_assoc]
   have i:(max t.inv t.Bv<=t.Cl)↔(t.Bv<=t.Cl/\t.inv<=t.Cl):=by omega
   simp only[i,Bool.decide_and];congr 1;cases decide (t.inv<=t.Cl)<;>cases decide (t.Bv<=t.Cl)<;>simp
  ·have d:¬t.pc=0:=by omega
   have e:¬t.pc=1:=by omega
   have e2:¬t.pc=2:=by omega
   have f:¬t.pc=3:=by omega
   have g:¬t.pc=4:=by omega
   rw[decide_eq_false b];simp[d,e,e2,f,g,P5]
 ·have:(!Fp t.c||!decide (0<=t.inv/\t.inv<=1000000))=true:=by
   simp only[Ha,L2,decide_eq_false_iff_not];cases h:Fp t.c with
   |false=>exact .inl rfl
   |true=>exact .inr λj=>a ⟨h,j⟩
  rw[this,show(Fp t.c&&decide (0<=t.inv/\t.inv<=1000000))=false by rw[Bqz];rw[Ha]at this;rwa [L2,L2]at this];simp
def M1:Nat->List Int->List (Option Nat)->Option (List Int)
 |_,h,[]=>Aa h
 |k,h,Ab::r=>M1 (k+1) h r
 |k,h,Aa s::r=>if el h s= -1 then M1 (k+1) (h.set s k) r else Ab
def Si (h:List Int) (l:List (Option Nat)):Prop:=∀s,s<h.length->el h s= -1\/∃j:Nat,el h s=(j:Int)/\l[j]?=Aa (Aa s)
def Qw (h:List Int) (l:List (Option Nat)):Prop:=∀j s:Nat,l[j]?=Aa (Aa s)->el h s=(j:Int)
theorem Agn{n}:∀r a h d,(∀s,Aa s∈r->s<n)->h.length=n->Si h a->Qw h a->M1 a.length h r=Aa d->d.length=n/\Si d (a++r)/\Qw d (a++r)
 |[],a,h,d,_,hl,hA,hB,he=>by obtain rfl:h=d:=D1.inj he;rw[Hu];exact⟨hl,hA,hB⟩
 |none::r,a,h,d,k,hl,hA,hB,he=>by
  have f:Si h (a++[Ab]):=λs k=>(hA s k).imp id λ⟨j,m,l⟩=>⟨j,m,by rw[Nj (H3.1 l).1];exact l⟩
  have g:Qw h (a++[Ab]):=λj s b=>hB j s (by
   by_cases c:j<a.length
   ·rwa [Nj c]at b
   ·rw[Tr (by omega)]at b;rcases A6q (A6r c)with e|e
    ·rw[<-e]at b;simp at b
    ·rw[Abh (by simp;omega)]at b;cases b)
  have:=Agn r (a++[Ab]) h d (λs i=>k s (Bf _ i)) hl f g (by rw[Bt];exact he);rwa [Ci]at this
 |some s0::r,a,h,d,k,hl,hA,hB,he=>by
  have Dw:s0<n:=k s0 (Bm ..);rw[M1]at he;by_cases o:el h s0= -1
  ·rw[if_pos o]at he
   have f:Si (h.set s0 a.length) (a++[Aa s0]):=λs q=>by
    rw[Ft]at q;by_cases e:s=s0
    ·subst e;exact .inr ⟨a.length,Wg q,by simp⟩
    ·rw[Ui (λx=>e x.symm)];exact(hA s q).imp id λ⟨j,m,l⟩=>⟨j,m,by rw[Nj (H3.1 l).1];exact l⟩
   have g:Qw (h.set s0 a.length) (a++[Aa s0]):=λj s b=>by
    by_cases c:j<a.length
    ·rw[Nj c]at b;have p:s0≠s:=λe=>by have:=hB j s b;rw[<-e,o]at this;omega
     rw[Ui p];exact hB j s b
    ·rw[Tr (by omega)]at b;rcases A6q (A6r c)with e|e
     ·subst e;obtain rfl:s0=s:=by simpa using b
      exact Wg (by omega)
     ·rw[Abh (by simp;omega)]at b;cases b
   have:=Agn r (a++[Aa s0]) _ d (λs i=>k s (Bf _ i)) (by rw[Ft];exact hl) f g (by rw[Bt];exact he);rwa [Ci]at this
  ·rw[if_neg o]at he;cases he
theorem Axp{n L} (o:L.length=n):∀r a h,(∀s,Aa s∈a++r->s<n)->h.length=n->Si h a->Qw h a->Qw L (a++r)->∃q,M1 a.length h r=Aa q
 |[],a,h,_,_,_,_,_=>⟨h,rfl⟩
 |none::r,a,h,g,hl,hA,hB,hLB=>by
  have l:Si h (a++[Ab]):=λs g=>(hA s g).imp id λ⟨j,k,d⟩=>⟨j,k,by rw[Nj (H3.1 d).1];exact d⟩
  have m:Qw h (a++[Ab]):=λj s c=>hB j s (by
   by_cases f:j<a.length
   ·rwa [Nj f]at c
   ·rw[Tr (by omega)]at c;rcases A6q (A6r f)with e|e
    ·rw[<-e]at c;simp at c
    ·rw[Abh (by simp;omega)]at c;cases c)
  have:=Axp o r (a++[Ab]) h (by rwa [Ci]) hl l m (by rwa [Ci]);rwa [Bt]at this
 |some s0::r,a,h,g,hl,hA,hB,hLB=>by
  have Dw:s0<n:=g s0 (by simp)
  have p:el h s0= -1:=by
   rcases hA s0 (by omega)with k|⟨j,_,d⟩
   ·exact k
   ·have c:=(H3.1 d).1;have t:=hLB j s0 (by rw[Nj c];exact d);have e2:=hLB a.length s0 (by simp);omega
  rw[M1,if_pos p];have b:=Agn (n:=n) [Aa s0] a h (h.set s0 a.length) (λs i=>g s (by simp only[Ei,Bq,Ae3,or_false]at i⊢;exact .inr (.inl i))) hl hA hB (by rw[M1,if_pos p];rfl);have:=Axp o r (a++[Aa s0]) _ (by rwa [Ci]) b.1 b.2.1 b.2.2 (by rwa [Ci]);rwa [Bt]at this
theorem B1o{h L l} (k:h.length=L.length) (a:Si h l) (b:Qw h l) (c:Si L l) (d:Qw L l):h=L:=by
 refine List.ext_getElem k λs g i=>?_;rw[<-F9 g,<-F9 i];rcases a s g with e|⟨j,e,f⟩
 ·rcases c s i with e2|⟨j,_,f⟩
  ·rw[e,e2]
  ·have:=b j s f;omega
 ·rw[e];exact(d j s f).symm
theorem B1n{n L l} (g:L.length=n) (d:∀s,Aa s∈l->s<n):M1 0 (Ey n (-1)) l=Aa L↔Si L l/\Qw L l:=by
 have a:Si (Ey n (-1:Int)) []:=λs h=>.inl (Bab (by simpa using h));have b:Qw (Ey n (-1:Int)) []:=λj s h=>by simp at h
 constructor
 ·intro h;exact(Agn l [] _ L d (by simp) a b h).2
 ·rintro ⟨hA,hB⟩;obtain⟨e,f⟩:=Axp g l [] _ d (by simp) a b hB;have c:=Agn l [] _ e d (by simp) a b f;rw[show M1 0 (Ey n (-1)) l=Aa e from f,B1o (by rw[c.1,g]) c.2.1 c.2.2 hA hB]
theorem Brs{x y} (hx:0<=x/\x<4294967296) (b:0<=y/\y<4294967296):0<=Jv x y/\Jv x y<4294967296:=by
 have a:(BitVec.ofInt 64 x^^^BitVec.ofInt 64 y).toNat<2^32:=by rw[BitVec.toNat_xor];refine Nat.xor_lt_two_pow ?_ ?_<;>rw[BitVec.toNat_ofInt]<;>omega
 unfold Jv;rw[i64_in (by omega)];omega
def fnv (s:Cea):Int:=(Vf s).getD 0
theorem Bbf s (g:s.size<=9223372036854775806):Vf s=Aa (fnv s)/\0<=fnv s:=by
 have c:∃r,Vf s=Aa r/\0<=r:=by
  unfold Vf
  obtain⟨r,a,b⟩:=Kt (f:=Aqh s) (λz=>(0<=z.1/\z.1<4294967296)/\0<=z.2/\z.2<=s.size) (λz=>(s.size-z.2).toNat) (λr=>0<=r) (λz ⟨a,b,d⟩=>by
   unfold Aqh A2c;by_cases h:z.2<(s.size:Int)
   ·have e:=(Du s z.2.toNat).toNat_lt;have hx:=Brs a (y:=((Du s z.2.toNat).toNat:Int)) (by omega);rw[Av h,Aj ⟨b,h⟩,Bh (by omega) (by omega),Aj ⟨by omega,by omega⟩,Bh (by omega) (by omega)];exact .inl ⟨_,rfl,⟨⟨by simp only;omega,by simp only;omega⟩,by simp only;omega,by simp only;omega⟩,by simp only;omega⟩
   ·rw[Ap h];exact .inr ⟨_,rfl,a.1⟩) (2166136261,0) ⟨by simp,by simp,by simp⟩
  exact⟨r,by rw[a];rfl,b⟩
 obtain⟨r,a,b⟩:=c;have:fnv s=r:=by unfold fnv;rw[a];rfl
 rw[this];exact⟨a,b⟩
theorem B6d s:Ajm s=Vf s:=rfl
def Ek (s:Cea) (n:Int):Int:=if n<1 then 0 else fnv s % n
theorem Awn s n (a:s.size<=9223372036854775806):Aaw s n=Aa (Ek s n):=by
 unfold Aaw Ek;by_cases h:n<1
 ·rw[Av h,if_pos h]
 ·have:=Bbf s a;rw[Ap h,if_neg h,this.1,Ad,Aj ⟨this.2,by omega⟩]
theorem Ao1 s n (a:s.size<=9223372036854775806):Vo s n=Aa (Ek s n):=by
 unfold Vo Ek;by_cases h:n<1
 ·rw[Av h,if_pos h]
 ·have:=Bbf s a;rw[Ap h,if_neg h,B6d,this.1,Ad,Aj ⟨this.2,by omega⟩]
theorem Adu{s n} (h:1<=n):0<=Ek s n/\Ek s n<n:=by unfold Ek;rw[if_neg (by omega)];exact⟨As2 _ (by omega),As1 _ (by omega)⟩
theorem Awg l n:X2 l n=Aa (decide (n∈l)):=by
 unfold X2 Ajh
 rw[Y2 l (λx=>decide (n=x)) () (λk=>.inr k) (λx k d hx=>by
  unfold A3s A3r;rw[hx];cases decide (n=x)<;>rfl)]
 by_cases h:0<=E6 (λx=>decide (n=x)) l
 ·have b:=Ws h;rw[if_pos h]
  have a:n∈l:=by
   have e:n=el l (E6 (λx=>decide (n=x)) l).toNat:=by simpa using b.2
   rw[e];exact Cj b.1
  simp only[Ad,Ato];rw[decide_eq_true h,decide_eq_true a]
 ·rw[if_neg h];have c:=Agh.1 (show E6 (λx=>decide (n=x)) l<0 by omega);rw[decide_eq_false (p:=n∈l) λa=>by simpa using c n a];rfl
theorem Az4 l n:To l n=Aa (decide (n∈l)):=by
 unfold To
 rw[Fk (F:=Ash n l) (e:=λ_=>(Ej ():Sum Unit Bool)) l (λ_ _ _=>True) (λr _ _=>bif decide (n∈r)then .inr true else .inl ()) (λ_ _=>by simp) (λx r k s a hx _=>by
  unfold Ash A49;rw[hx];by_cases h:x=n
  ·exact .inr (by rw[Av h,h];simp)
  ·refine .inl ⟨(),by rw[Ap h],trivial,?_⟩;have:n∈x::r↔n∈r:=by rw[Bq];exact⟨λq=>q.resolve_left λe=>h e.symm,.inr⟩
   rw[decide_eq_decide.2 this]) () trivial,Ad]
 cases decide (n∈l)<;>rfl
def G9 (a:Int):List Int->List Int->Option (List Int)
 |met,[]=>Aa met
 |met,n::r=>if n= -1 then G9 a met r else if a<=n\/n∈met then Ab else G9 a (met++[n]) r
theorem Apl{step}:∀ {a b met:List Int},G9 step met (a++b)=(G9 step met a).bind (G9 step · b)
 |[],_,_=>rfl
 |n::a,b,met=>by
  rw[Fi,G9,G9];split
  ·exact Apl
  ·split
   ·rfl
   ·exact Apl
theorem Apm{step}:∀ {a met m:List Int},G9 step met a=Aa m->m.length<=met.length+a.length
 |[],met,m,h=>by obtain rfl:=D1.inj h;simp
 |n::a,met,m,h=>by
  rw[G9]at h;split at h
  ·have:=Apm h;simp only[B5];omega
  ·split at h
   ·cases h
   ·have:=Apm h;simp only[B5,Bt,C0]at this⊢;omega
def N4 (o:Option (List Int)):Sum (List Int) Bool:=match o with
 |some m=>.inl m
 |none=>.inr false
def Ik (t:A4):List Int:=[t.inv,t.Bv,t.Cl]
def Qy (l:List A4) (a:Int):Bool:=(G9 a [] (l.flatMap Ik)).isSome
theorem Bzt l a (t:l.length<=1000):Ajc l a=Aa (Qy l a):=by
 unfold Ajc Qy
 rw[Fk (F:=A3a a l) (e:=λs=>(Ej s:Sum (List Int) Bool)) l (λr k s=>s.length<=3*k) (λr _ s=>N4 (G9 a s (r.flatMap Ik))) (λ_ _=>rfl) (λx r k s p hx n=>by
  unfold A3a Bj4
  rw[hx,show [x.inv,x.Bv,x.Cl]=Ik x from rfl,Fk (F:=A3b a l k) (e:=λs=>(Ej s:Sum (List Int) Bool)) (Ik x) (λr j s=>s.length<=3*k+j) (λr _ s=>N4 (G9 a s r)) (λ_ _=>rfl) (λy q j z f i o=>by
   have g:j<3:=f;unfold A3b Bj5;rw[hx];rw[show el [x.inv,x.Bv,x.Cl] j=y from i,Awg];by_cases b:y= -1
   ·exact .inl ⟨z,by rw[Av b],by omega,by rw[G9,if_pos b]⟩
   ·rw[Ap b];by_cases c:a<=y
    ·exact .inr (by rw[Av c,G9,if_neg b,if_pos (.inl c)];rfl)
    ·rw[Ap c];by_cases d:y∈z
     ·exact .inr (by rw[decide_eq_true d,G9,if_neg b,if_pos (.inr d)];rfl)
     ·refine .inl ⟨z++[y],?_,by simp only[Bt,B5,C0];omega,by rw[G9,if_neg b,if_neg (by simp[c,d])]⟩;rw[decide_eq_false d];simp only[Ad,cond_false];rw[Aj (by omega)]) s (by omega),Ad]
  rw[F4,Apl];cases h:G9 a s (Ik x)with
  |none=>exact .inr rfl
  |some m=>exact .inl ⟨m,rfl,by have:=Apm h;have e:(Ik x).length=3:=rfl;omega,rfl⟩) [] (by simp),Ad]
 cases G9 a [] (l.flatMap Ik)<;>rfl
theorem B6w w (o:w.Ag.length<=1000):Akd w=Aa (Qy w.Ag w.step):=by
 unfold Akd Qy
 rw[Fk (F:=A5i w) (e:=λs=>(Ej s:Sum (List Int) Bool)) w.Ag (λr k s=>s.length<=3*k) (λr _ s=>N4 (G9 w.step s (r.flatMap Ik))) (λ_ _=>rfl) (λx r k s n hx i=>by
  unfold A5i Blf
  rw[hx,show [x.inv,x.Bv,x.Cl]=Ik x from rfl,Fk (F:=A5j w k) (e:=λs=>(Ej s:Sum (List Int) Bool)) (Ik x) (λr j s=>s.length<=3*k+j) (λr _ s=>N4 (G9 w.step s r)) (λ_ _=>rfl) (λy q j z d h l=>by
   have f:j<3:=d;unfold A5j Blg;rw[hx];rw[show el [x.inv,x.Bv,x.Cl] j=y from h,Az4];by_cases a:y= -1
   ·exact .inl ⟨z,by rw[Av a],by omega,by rw[G9,if_pos a]⟩
   ·rw[Ap a];by_cases b:w.step<=y
    ·exact .inr (by rw[Av b,G9,if_neg a,if_pos (.inl b)];rfl)
    ·rw[Ap b];by_cases c:y∈z
     ·exact .inr (by rw[decide_eq_true c,G9,if_neg a,if_pos (.inr c)];rfl)
     ·refine .inl ⟨z++[y],?_,by simp only[Bt,B5,C0];omega,by rw[G9,if_neg a,if_neg (by simp[b,c])]⟩;rw[decide_eq_false c];simp only[Ad,cond_false];rw[Aj (by omega)]) s (by omega),Ad]
  rw[F4,Apl];cases g:G9 w.step s (Ik x)with
  |none=>exact .inr rfl
  |some m=>exact .inl ⟨m,rfl,by have:=Apm g;have e:(Ik x).length=3:=rfl;omega,rfl⟩) [] (by simp),Ad]
 cases G9 w.step [] (w.Ag.flatMap Ik)<;>rfl
def Kx (w:Au) (a:Cea):List Int->List Int->Option (List Int)
 |qd,[]=>Aa qd
 |qd,k::r=>if((0<=k/\k<=(w.Ag.length:Int)-1)/\(el w.Ag k.toNat).pc=2)/\(el w.Ag k.toNat).c.Ah=a/\k∉qd then Kx w a (qd++[k]) r else Ab
def Kc (w:Au):Option Ba->List Int->List Ba->Option (List Int)
 |_,qd,[]=>Aa qd
 |p,qd,q::r=>if(Jz (λp=>!Cv p.Ah q.Ah) p=false/\1<=q.list.length/\q.list.length<=2)/\0<=B9 w.h.Am q.Ah then(Kx w q.Ah qd q.list).bind (Kc w (Aa q) · r)else Ab
def Qx (w:Au):Bool:=match Kc w Ab [] w.An with
 |some qd=>Mr (λk t=>!(decide (t.pc=2)&&!decide ((k:Int)∈qd))) 0 w.Ag
 |none=>false
theorem Azd{w Ah}:∀ {a qd m:List Int},Kx w Ah qd a=Aa m->m.length=qd.length+a.length
 |[],qd,m,h=>by obtain rfl:=D1.inj h;simp
 |n::a,qd,m,h=>by
  rw[Kx]at h;split at h
  ·have:=Azd h;simp only[B5,Bt,C0]at this⊢;omega
  ·cases h
theorem Bzn w (B:w.Ag.length<=1000) (C:w.An.length<=1048576):Aa0 w=Aa (Qx w):=by
 unfold Aa0 Qx
 rw[Fk (F:=Ark w) (e:=λs=>(Ej s:Sum (List Int) Bool)) w.An (λr k s=>s.length<=2*k) (λr k s=>N4 (Kc w (if k=0 then Ab else Aa (el w.An (k-1))) s r)) (λ_ _=>rfl) (λx r k s i hx u=>by
  unfold Ark A22;have e:=Adb w.An (λp=>!Cv p.Ah x.Ah) (by omega) i;have n:(if k+1=0 then Ab else Aa (el w.An (k+1-1)))=Aa x:=by rw[if_neg (by omega),Akt,hx]
  rw[hx,e,n,G5,Ul,Kc];generalize Jz (λp:Ba=>!Cv p.Ah x.Ah) (if k=0 then Ab else Aa (el w.An (k-1)))=b;simp only[Ad,Dj,F8];by_cases g:(b=false/\1<=x.list.length/\x.list.length<=2)/\0<=B9 w.h.Am x.Ah
  ·rw[if_pos g,g.1.1,decide_eq_true (p:=1<=(x.list.length:Int)/\(x.list.length:Int)<=2) (by omega),decide_eq_false (p:=B9 w.h.Am x.Ah<0) (by omega)];simp only[A6,Rs,cond_false]
   rw[Fk (F:=Arl w k) (e:=λs=>(Ej s:Sum (List Int) Bool)) x.list (λr j s=>s.length<=2*k+j) (λr _ s=>N4 (Kx w x.Ah s r)) (λ_ _=>rfl) (λy q j z A o v=>by
    unfold Arl A23;rw[hx,o,Bh (by omega) (by omega),G5,Ad,Kx,Awg];by_cases f:0<=y/\y<=(w.Ag.length:Int)-1
    ·rw[decide_eq_true f];simp only[A6,cond_false];rw[Aj ⟨f.1,by omega⟩,Aj ⟨f.1,by omega⟩];simp only[Ad,Dj,F8];by_cases a:((el w.Ag y.toNat).pc=2)/\(el w.Ag y.toNat).c.Ah=x.Ah/\y∉z
     ·refine .inl ⟨z++[y],?_,by simp only[Bt,B5,C0];omega,by rw[if_pos ⟨⟨f,a.1⟩,a.2⟩]⟩;rw[decide_eq_true a.1,decide_eq_true a.2.1,decide_eq_false a.2.2];simp only[A6,Rs,cond_false];rw[Aj (by omega)]
     ·refine .inr ?_;rw[if_neg λh=>a ⟨h.1.2,h.2⟩];have:((!decide ((el w.Ag y.toNat).pc=2)||!decide ((el w.Ag y.toNat).c.Ah=x.Ah))||decide (y∈z))=true:=by simp only[Ha,L2,decide_eq_false_iff_not,decide_eq_true_eq];refine Classical.byContradiction λd=>a ?_;simp only[not_or,Classical.not_not]at d;exact⟨d.1.1,d.1.2,d.2⟩
      rw[this];rfl
    ·refine .inr ?_;rw[decide_eq_false f,if_neg λh=>f h.1.1];rfl) s (by omega),Ad]
   cases l:Kx w x.Ah s x.list with
   |none=>exact .inr rfl
   |some m=>exact .inl ⟨m,rfl,by have:=Azd l;omega,rfl⟩
  ·rw[if_neg g];have:((b||!decide (1<=(x.list.length:Int)/\(x.list.length:Int)<=2))||decide (B9 w.h.Am x.Ah<0))=true:=by simp only[Ha,L2,decide_eq_false_iff_not,decide_eq_true_eq];refine Classical.byContradiction λd=>g ?_;simp only[not_or,Classical.not_not,Asx]at d;exact⟨⟨d.1.1,by omega⟩,by omega⟩
   rw[this];exact .inr rfl) [] (by simp),Ad]
 simp only[if_true];cases l:Kc w Ab [] w.An with
 |none=>rfl
 |some qd=>
  simp only[N4,Jg]
  rw[Al0 (b:=.inr false) w.Ag (λk t=>!(decide (t.pc=2)&&!decide ((k:Int)∈qd))) (λx k i hx=>by
   unfold A25 A24;rw[hx,Awg];simp only[Ad,Dj,Gc];cases decide (x.pc=2)<;>cases decide ((k:Int)∈qd)<;>rfl),Ad]
  cases Mr (λk t=>!(decide (t.pc=2)&&!decide ((k:Int)∈qd))) 0 w.Ag<;>rfl
theorem B6p w (B:w.Ag.length<=1000) (C:w.An.length<=1048576):Abc w=Aa (Qx w):=by
 unfold Abc Qx
 rw[Fk (F:=Asi w) (e:=λs=>(Ej s:Sum (List Int) Bool)) w.An (λr k s=>s.length<=2*k) (λr k s=>N4 (Kc w (if k=0 then Ab else Aa (el w.An (k-1))) s r)) (λ_ _=>rfl) (λx r k s i hx u=>by
  unfold Asi A5e;have e:=Adb w.An (λp=>!Cv p.Ah x.Ah) (by omega) i;have n:(if k+1=0 then Ab else Aa (el w.An (k+1-1)))=Aa x:=by rw[if_neg (by omega),Akt,hx]
  rw[hx,e,n,Hs,Su,Kc];generalize Jz (λp:Ba=>!Cv p.Ah x.Ah) (if k=0 then Ab else Aa (el w.An (k-1)))=b;simp only[Ad,Dj,F8];by_cases g:(b=false/\1<=x.list.length/\x.list.length<=2)/\0<=B9 w.h.Am x.Ah
  ·rw[if_pos g,g.1.1,decide_eq_true (p:=1<=(x.list.length:Int)/\(x.list.length:Int)<=2) (by omega),decide_eq_false (p:=B9 w.h.Am x.Ah<0) (by omega)];simp only[A6,Rs,cond_false]
   rw[Fk (F:=Asj w k) (e:=λs=>(Ej s:Sum (List Int) Bool)) x.list (λr j s=>s.length<=2*k+j) (λr _ s=>N4 (Kx w x.Ah s r)) (λ_ _=>rfl) (λy q j z A o v=>by
    unfold Asj A5f;rw[hx,o,Bh (by omega) (by omega),Hs,Ad,Kx,Az4];by_cases f:0<=y/\y<=(w.Ag.length:Int)-1
    ·rw[decide_eq_true f];simp only[A6,cond_false];rw[Aj ⟨f.1,by omega⟩,Aj ⟨f.1,by omega⟩];simp only[Ad,Dj,F8];by_cases a:((el w.Ag y.toNat).pc=2)/\(el w.Ag y.toNat).c.Ah=x.Ah/\y∉z
     ·refine .inl ⟨z++[y],?_,by simp only[Bt,B5,C0];omega,by rw[if_pos ⟨⟨f,a.1⟩,a.2⟩]⟩;rw[decide_eq_true a.1,decide_eq_true a.2.1,decide_eq_false a.2.2];simp only[A6,Rs,cond_false];rw[Aj (by omega)]
     ·refine .inr ?_;rw[if_neg λh=>a ⟨h.1.2,h.2⟩];have:((!decide ((el w.Ag y.toNat).pc=2)||!decide ((el w.Ag y.toNat).c.Ah=x.Ah))||decide (y∈z))=true:=by simp only[Ha,L2,decide_eq_false_iff_not,decide_eq_true_eq];refine Classical.byContradiction λd=>a ?_;simp only[not_or,Classical.not_not]at d;exact⟨d.1.1,d.1.2,d.2⟩
      rw[this];rfl
    ·refine .inr ?_;rw[decide_eq_false f,if_neg λh=>f h.1.1];rfl) s (by omega),Ad]
   cases l:Kx w x.Ah s x.list with
   |none=>exact .inr rfl
   |some m=>exact .inl ⟨m,rfl,by have:=Azd l;omega,rfl⟩
  ·rw[if_neg g];have:((b||!decide (1<=(x.list.length:Int)/\(x.list.length:Int)<=2))||decide (B9 w.h.Am x.Ah<0))=true:=by simp only[Ha,L2,decide_eq_false_iff_not,decide_eq_true_eq];refine Classical.byContradiction λd=>g ?_;simp only[not_or,Classical.not_not,Asx]at d;exact⟨⟨d.1.1,by omega⟩,by omega⟩
   rw[this];exact .inr rfl) [] (by simp),Ad]
 simp only[if_true];cases l:Kc w Ab [] w.An with
 |none=>rfl
 |some qd=>
  simp only[N4,Jg]
  rw[Al0 (b:=.inr false) w.Ag (λk t=>!(decide (t.pc=2)&&!decide ((k:Int)∈qd))) (λx k i hx=>by
   unfold A5h A5g;rw[hx,Az4];simp only[Ad,Dj,Gc];cases decide (x.pc=2)<;>cases decide ((k:Int)∈qd)<;>rfl),Ad]
  cases Mr (λk t=>!(decide (t.pc=2)&&!decide ((k:Int)∈qd))) 0 w.Ag<;>rfl
def Ra (n:Int) (t:A4):Option Nat:=if t.pc=1 then Aa (Ek t.c.Ah n).toNat else Ab
def M2 (w:Au):Bool:=
 Mr (λs k=>decide (k= -1)||((decide (0<=k/\k<=(w.Ag.length:Int)-1)&&decide ((el w.Ag k.toNat).pc=1))&&decide (Ek (el w.Ag k.toNat).c.Ah w.Az.length=(s:Int)))) 0 w.Az&&
 Mr (λk t=>!(decide (t.pc=1)&&!decide (el w.Az (Ek t.c.Ah w.Az.length).toNat=(k:Int)))) 0 w.Ag
theorem Apf {w:Au}{j s}:(w.Ag.map (Ra w.Az.length))[j]?=Aa (Aa s)↔j<w.Ag.length/\(el w.Ag j).pc=1/\(Ek (el w.Ag j).c.Ah w.Az.length).toNat=s:=by
 rw[Abi,Di];constructor
 ·rintro ⟨t,h1,h2⟩;obtain⟨a,rfl⟩:=H3.1 h1;rw[F9 a];unfold Ra at h2;split at h2
  ·rename_i b;exact⟨a,b,by simpa using h2⟩
  ·cases h2
 ·rintro ⟨a,b,hs⟩;refine⟨el w.Ag j,by rw[F9 a];exact O9 a,?_⟩;unfold Ra;rw[if_pos b,hs]
theorem B2a w (q:1<=w.Az.length):M2 w=true↔M1 0 (Ey w.Az.length (-1)) (w.Ag.map (Ra w.Az.length))=Aa w.Az:=by
 have d:=λs:Cea=>Adu (s:=s) (n:=(w.Az.length:Int)) (by omega)
 rw[B1n rfl (λs b=>by
  obtain⟨t,_,f⟩:=K7.1 b;unfold Ra at f;split at f
  ·have:=d t.c.Ah;have e:(Ek t.c.Ah w.Az.length).toNat=s:=by simpa using f
   omega
  ·cases f)]
 unfold M2;rw[A9,Abp,Abp];refine and_congr ⟨λh s b=>?_,λh s b=>?_⟩ ⟨λh j s l=>?_,λh k m=>?_⟩
 ·have a:=h s b;simp only[Ha,A9,decide_eq_true_eq,L3]at a;refine a.imp id λ⟨⟨g,i⟩,p⟩=>⟨(el w.Az s).toNat,by omega,Apf.2 ⟨by omega,i,by omega⟩⟩
 ·simp only[Ha,A9,decide_eq_true_eq,L3];refine(h s b).imp id λ⟨j,a,g⟩=>?_;obtain⟨g1,g2,g3⟩:=Apf.1 g;rw[a,Gb];have:=d (el w.Ag j).c.Ah;exact⟨⟨by omega,g2⟩,by omega⟩
 ·obtain⟨g1,g2,g3⟩:=Apf.1 l;have a:=h j g1;rw[decide_eq_true g2,g3]at a;simpa using a
 ·cases o:decide ((el w.Ag k).pc=1)with
  |false=>rfl
  |true=>have:=h k _ (Apf.2 ⟨m,by simpa using o,rfl⟩);simp[this]
theorem B6h w (i:U7 w) (m:1<=w.Az.length) (l:w.Ag.length<=1000):Abb w=Aa (M2 w):=by
 have f:=λs:Cea=>Adu (s:=s) (n:=(w.Az.length:Int)) (by omega);have d:∀ {j:Nat},j<w.Ag.length->(el w.Ag j).c.Ah.size<=9223372036854775806:=λh=>by have:=i.2.2.2.1.2 _ (Cj h);have a:(el w.Ag _).c.Ah.size<=1099511627776:=this.1.2.1;omega
 unfold Abb M2
 rw[Al0 (b:=.inr ()) w.Az (λs k=>decide (k= -1)||((decide (0<=k/\k<=(w.Ag.length:Int)-1)&&decide ((el w.Ag k.toNat).pc=1))&&decide (Ek (el w.Ag k.toNat).c.Ah w.Az.length=(s:Int)))) (λx k g hx=>by
  unfold A5c A5a;rw[hx];by_cases e:x= -1
  ·rw[Av e,decide_eq_true e];rfl
  ·rw[Ap e,decide_eq_false e,Bh (by omega) (by omega),Hs,Ad];by_cases a:0<=x/\x<=(w.Ag.length:Int)-1
   ·rw[decide_eq_true a,Aj ⟨a.1,by omega⟩,Aj ⟨a.1,by omega⟩,Ao1 _ _ (d (by omega))];simp only[A6,cond_false,Ad,Dj,F8,K1,Rr];cases decide ((el w.Ag x.toNat).pc=1)<;>cases decide (Ek (el w.Ag x.toNat).c.Ah (w.Az.length:Int)=(k:Int))<;>rfl
   ·rw[decide_eq_false a];rfl),Ad]
 cases Mr (λs k=>decide (k= -1)||((decide (0<=k/\k<=(w.Ag.length:Int)-1)&&decide ((el w.Ag k.toNat).pc=1))&&decide (Ek (el w.Ag k.toNat).c.Ah w.Az.length=(s:Int)))) 0 w.Az with
 |false=>rfl
 |true=>
  simp only[cond_true,Jg,K1]
  rw[Al0 (b:=.inr false) w.Ag (λk t=>!(decide (t.pc=1)&&!decide (el w.Az (Ek t.c.Ah w.Az.length).toNat=(k:Int)))) (λx k g hx=>by
   unfold A5d A5b;have a:=f x.c.Ah;rw[hx,Ao1 _ _ (hx▸d g),Ad,Aj ⟨a.1,a.2⟩];simp only[Ad,Dj,Gc];cases decide (x.pc=1)<;>cases decide (el w.Az (Ek x.c.Ah (w.Az.length:Int)).toNat=(k:Int))<;>rfl),Ad]
  cases Mr (λk t=>!(decide (t.pc=1)&&!decide (el w.Az (Ek t.c.Ah w.Az.length).toNat=(k:Int)))) 0 w.Ag<;>rfl
def Hq (w:Au):Bool:=
 (((Mg w.h&&decide (1<=w.Az.length/\w.Az.length<=4))&&decide (w.Ag.length<=10))&&decide (0<=w.step/\w.step<=1000000))&&(w.Ag.all Ip&&(Qy w.Ag w.step&&(M2 w&&Qx w)))
theorem Bxm n:A2 Ai1 (λs=>(s:List Int)) (Ey n (0:Int)).length 0 (Ey n (0:Int))=Aa (Ey n (-1)):=by
 rw[Fk (F:=Ai1) (e:=λ(s:List Int)=>(s:List Int)) (Ey n (0:Int)) (λr k s=>s.length=k+r.length) (λr k s=>s.take k++Ey r.length (-1)) (λs h=>by rw[Rv (by simp at h⊢;omega)];simp) (λx r k s a hx h=>by
  refine .inl ⟨s.set k (-1),?_,by rw[Ft,h];simp only[B5];omega,?_⟩
  ·unfold Ai1 A2s;simp only[B5]at h;rfl
  ·simp only[B5]at h⊢;rw[Ae7,A6m (Ef _),A57 (by omega),Akr];simp) (Ey n (0:Int)) (by simp)]
 simp
theorem Acn w (q:U7 w) (A:w.An.length<=1048576):Qc w=Aa (Hq w):=by
 unfold Qc Hq;rw[Bbh w.h q.1];simp only[G5,Ad,Dj,F8];by_cases l:((Mg w.h=true/\1<=w.Az.length/\w.Az.length<=4)/\w.Ag.length<=10)/\0<=w.step/\w.step<=1000000
 ·obtain⟨⟨⟨j,b⟩,u⟩,v⟩:=l;rw[j,decide_eq_true (p:=1<=(w.Az.length:Int)/\(w.Az.length:Int)<=4) (by omega),decide_eq_false (p:=(10:Int)<(w.Ag.length:Int)) (by omega),decide_eq_true v,decide_eq_true b,decide_eq_true u];simp only[A6,A5t,cond_false,Asw,K1];rw[Aj ⟨by omega,by omega⟩,Gb,Bxm,Ad]
  rw[Fk (F:=Aq8 w) (e:=λs=>(Ej s:Sum (List Int) Bool)) w.Ag (λr k s=>s.length=w.Az.length) (λr k s=>N4 (if r.all Ip then M1 k s (r.map (Ra w.Az.length))else Ab)) (λ_ _=>rfl) (λx r k s z hx t=>by
   unfold Aq8 A2t;have y:x.c.Ah.size<=9223372036854775806:=by have:=q.2.2.2.1.2 _ (Cj z);rw[hx]at this;have b:x.c.Ah.size<=1099511627776:=this.1.2.1;omega
   have f:=Adu (s:=x.c.Ah) (n:=(w.Az.length:Int)) (by omega);rw[hx];rw[By6,Ad,K5];cases Ip x with
   |false=>exact .inr rfl
   |true=>
    simp only[A6,cond_false,K1,Fa];by_cases i:x.pc=1
    ·rw[Av i,Awn _ _ y,Ad,Aj ⟨f.1,by omega⟩,Aj ⟨f.1,by omega⟩];have e:Ra w.Az.length x=Aa (Ek x.c.Ah w.Az.length).toNat:=by unfold Ra;rw[if_pos i]
     by_cases g:el s (Ek x.c.Ah w.Az.length).toNat= -1
     ·exact .inl ⟨s.set (Ek x.c.Ah w.Az.length).toNat k,by rw[decide_eq_true g];rfl,by rw[Ft];exact t,by rw[e,M1,if_pos g]⟩
     ·exact .inr (by rw[decide_eq_false g,e,M1,if_neg g];simp[N4])
    ·have e:Ra w.Az.length x=Ab:=by unfold Ra;rw[if_neg i]
     exact .inl ⟨s,by rw[Ap i],t,by rw[e,M1]⟩) (Ey w.Az.length (-1)) (by simp),Ad]
  cases o:w.Ag.all Ip with
  |false=>rfl
  |true=>
   simp only[if_true,K1];have a:=B2a w b.1;cases d:M1 0 (Ey w.Az.length (-1)) (w.Ag.map (Ra w.Az.length))with
   |none=>
    have:M2 w=false:=by
     cases ho:M2 w with
     |false=>rfl
     |true=>rw[a.1 ho]at d;cases d
    rw[this];simp[N4]
   |some H=>
    simp only[N4,Jg];rw[Zb,Bzt _ _ (by omega),Bzn w (by omega) A];simp only[Ad,Dj,Gc]
    have:decide (H=w.Az)=M2 w:=by
     by_cases e:H=w.Az
     ·rw[decide_eq_true e,(a.2 (by rw[d,e]))]
     ·rw[decide_eq_false e];cases ho:M2 w with
      |false=>rfl
      |true=>rw[a.1 ho]at d;exact absurd (D1.inj d).symm e
    rw[this];cases M2 w<;>cases Qy w.Ag w.step<;>simp
 ·have j:(((!Mg w.h||!decide (1<=(w.Az.length:Int)/\(w.Az.length:Int)<=4))||decide ((10:Int)<(w.Ag.length:Int)))||!decide (0<=w.step/\w.step<=1000000))=true:=by simp only[Ha,L2,decide_eq_false_iff_not,decide_eq_true_eq];refine Classical.byContradiction λm=>l ?_;simp only[not_or,Classical.not_not,Bool.not_eq_false]at m;exact⟨⟨⟨m.1.1.1,by omega⟩,by omega⟩,m.2⟩
  have b:(((Mg w.h&&decide (1<=w.Az.length/\w.Az.length<=4))&&decide (w.Ag.length<=10))&&decide (0<=w.step/\w.step<=1000000))=false:=by refine Abe.2 λh=>l ?_;simpa only[A9,decide_eq_true_eq]using h
  rw[j,b];rfl
theorem Ao5 w (d:U7 w) (e:w.An.length<=1048576):X6 w=Aa (Hq w):=by
 unfold X6 Hq
 rw[Ug (b:=.inr ()) w.Ag Ip (λx k f hx=>by
  unfold A4v A4u;rw[hx];rw[B6z];cases Ip x<;>rfl),Ad,Bfx w.h d.1]
 cases w.Ag.all Ip with
 |false=>simp
 |true=>
  simp only[cond_true,Jg,Hs,Ad,Dj,Gc];rw[show decide (1<=(w.Az.length:Int)/\(w.Az.length:Int)<=4)=decide (1<=w.Az.length/\w.Az.length<=4)from decide_eq_decide.2 (by omega),show decide ((w.Ag.length:Int)<=10)=decide (w.Ag.length<=10)from decide_eq_decide.2 (by omega)];cases Mg w.h with
  |false=>rfl
  |true=>
   by_cases a:1<=w.Az.length/\w.Az.length<=4
   ·by_cases c:w.Ag.length<=10
    ·rw[decide_eq_true a,decide_eq_true c,B6w w (by omega),B6h w d a.1 (by omega),B6p w (by omega) e];cases decide (0<=w.step/\w.step<=1000000)<;>cases Qy w.Ag w.step<;>cases M2 w<;>simp
    ·rw[decide_eq_false c];simp
   ·rw[decide_eq_false a];simp
theorem Bzf{d} (h:Ht d):Vg d=Aa d:=by have a:=h.2.2.1.1;have b:=h.2.2.2.2.1;unfold Vg;rw[Um (by omega),Ad,Zc h.2.2.2.1,Ad,Aj (by omega)];rfl
theorem B66{d} (h:Ht d):Vt d=Aa d:=by have a:=h.2.2.1.1;have b:=h.2.2.2.2.1;unfold Vt;rw[Aj (by omega),Ss h.2.2.2.1,Ad,Aj (by omega)];rfl
theorem Bzh{r} (h:Aph r):Vh r=Aa r:=by unfold Vh;rw[Zc h.2.2.2];rfl
theorem B68{r} (h:Aph r):Yb r=Aa r:=by unfold Yb;rw[Ss h.2.2.2];rfl
theorem At4:∀(l:List Ao) (s:Bool×List Ao×Int),l.foldl (λs d=>(s.1,s.2.1++[d],s.2.2)) s=(s.1,s.2.1++l,s.2.2)
 |[],s=>by simp
 |x::l,s=>by rw[Fx,At4 l];simp
theorem At5:∀(l:List A0) (s:Bool×List Ao×List A0×Int),l.foldl (λs d=>(s.1,s.2.1,s.2.2.1++[d],s.2.2.2)) s=(s.1,s.2.1,s.2.2.1++l,s.2.2.2)
 |[],s=>by simp
 |x::l,s=>by rw[Fx,At5 l];simp
theorem Bzg{h} (i:Aab h):Hj h=Aa h:=by
 have m:=i.2.1.1;have n:=i.2.2.1.1
 have g:=I9 (F:=Ad6 h) (e:=λ(b:Bool×List Ao×Int)=>((b.1,b.2.1,b.2.2):Bool×List Ao×Int)) h.Am (λr k s=>s.2.1.length<=k) (λs d=>(s.1,s.2.1++[d],s.2.2)) (λx r k s c hx l=>by
  have f:x∈h.Am:=by rw[<-hx];exact Cj c
  unfold Ad6 Are;rw[hx,Bzf (i.2.1.2 x f),Ad,Aj (by simp only[B5,C0];omega)];exact⟨rfl,by simp;omega⟩) (h.shut,[],h.last) (by simp)
 have j:=I9 (F:=Ad7 h) (e:=λ(a:Bool×List Ao×List A0×Int)=>((a.1,a.2.1,a.2.2.1,a.2.2.2):Bool×List Ao×List A0×Int)) h.Ax (λr k s=>s.2.2.1.length<=k) (λs d=>(s.1,s.2.1,s.2.2.1++[d],s.2.2.2)) (λx r k s c hx l=>by
  have f:x∈h.Ax:=by rw[<-hx];exact Cj c
  unfold Ad7 Arf;rw[hx,Bzh (i.2.2.1.2 x f).2.2,Ad,Aj (by omega)];exact⟨rfl,by simp;omega⟩) (h.shut,h.Am,[],h.last) (by simp)
 unfold Hj;rw[g,Ad,At4];simp only[Iu];rw[j,Ad,At5];rfl
theorem B67{h} (i:Aab h):Hk h=Aa h:=by
 have m:=i.2.1.1;have n:=i.2.2.1.1
 have g:=I9 (F:=Aeq h) (e:=λ(b:Bool×List Ao×Int)=>((b.1,b.2.1,b.2.2):Bool×List Ao×Int)) h.Am (λr k s=>s.2.1.length<=k) (λs d=>(s.1,s.2.1++[d],s.2.2)) (λx r k s c hx l=>by
  have f:x∈h.Am:=by rw[<-hx];exact Cj c
  unfold Aeq Ase;rw[hx,B66 (i.2.1.2 x f),Ad,Aj (by simp only[B5,C0];omega)];exact⟨rfl,by simp;omega⟩) (h.shut,[],h.last) (by simp)
 have j:=I9 (F:=Aer h) (e:=λ(a:Bool×List Ao×List A0×Int)=>((a.1,a.2.1,a.2.2.1,a.2.2.2):Bool×List Ao×List A0×Int)) h.Ax (λr k s=>s.2.2.1.length<=k) (λs d=>(s.1,s.2.1,s.2.2.1++[d],s.2.2.2)) (λx r k s c hx l=>by
  have f:x∈h.Ax:=by rw[<-hx];exact Cj c
  unfold Aer Asf Aj9;rw[hx,B68 (i.2.2.1.2 x f).2.2,Ad,Ad,Aj (by simp only[B5,C0];omega)];exact⟨rfl,by simp;omega⟩) (h.shut,h.Am,[],h.last) (by simp)
 unfold Hk;rw[g,Ad,At4];simp only[Iu];rw[j,Ad,At5];rfl
theorem Bbo{c} (h:U6 c):Ai4 c=Aa c:=by unfold Ai4;rw[Awo h.2.2.2.2.2.1,Ad,Um h.2.2.2.2.2.2.1];rfl
theorem Bgk{c} (h:U6 c):Aka c=Aa c:=by have:=h.2.2.2.2.2.2.1;unfold Aka;rw[A0d h.2.2.2.2.2.1,Ad,Aj (by omega)];rfl
theorem Bze{a} (h:Apg a):Ard a=Aa a:=by unfold Ard;rw[Um h.2.2.1.1,Ad,Zc h.2.2.2];rfl
theorem B65{a} (h:Apg a):Asg a=Aa a:=by have:=h.2.2.1.1;unfold Asg;rw[Aj (by omega),Ss h.2.2.2];rfl
theorem Bzi{l} (f:l.length<=549755813888) (h:∀t∈l,Api t):Arh l=Aa l:=by
 unfold Arh
 rw[I9 (F:=A2v l) (e:=λ(s:List A4)=>(s:List A4)) l (λr k s=>s.length<=k) (λs d=>s++[d]) (λx r k s b hx c=>by
  have a:x∈l:=by rw[<-hx];exact Cj b
  unfold A2v Bjv;rw[hx,Bbo (h x a).1,Ad,Bze (h x a).2.2.2.2.2,Ad,Aj (by omega)];exact⟨rfl,by simp;omega⟩) [] (by simp),Ad,Brm,Iu]
theorem B69{t} (h:Api t):Asl t=Aa t:=by unfold Asl;rw[Bgk h.1,Ad,B65 h.2.2.2.2.2,Ad]
abbrev WS:Type:=Bool×List Ao×List A0×Int×List Int×List Ba×List A4×Int
abbrev WS':Type:=Bool×List Ao×List A0×Int×List Int×List Ba×Int
theorem A7z:∀(l:List Ba) (s:WS),l.foldl (λs d=>(s.1,s.2.1,s.2.2.1,s.2.2.2.1,s.2.2.2.2.1,s.2.2.2.2.2.1++[d],s.2.2.2.2.2.2.1,s.2.2.2.2.2.2.2)) s=(s.1,s.2.1,s.2.2.1,s.2.2.2.1,s.2.2.2.2.1,s.2.2.2.2.2.1++l,s.2.2.2.2.2.2.1,s.2.2.2.2.2.2.2)
 |[],s=>by simp
 |x::l,s=>by rw[Fx,A7z l];simp
theorem A70:∀(l:List Ba) (s:WS'),l.foldl (λs d=>(s.1,s.2.1,s.2.2.1,s.2.2.2.1,s.2.2.2.2.1,s.2.2.2.2.2.1++[d],s.2.2.2.2.2.2)) s=(s.1,s.2.1,s.2.2.1,s.2.2.2.1,s.2.2.2.2.1,s.2.2.2.2.2.1++l,s.2.2.2.2.2.2)
 |[],s=>by simp
 |x::l,s=>by rw[Fx,A70 l];simp
theorem A71:∀(l:List A4) (s:WS),l.foldl (λs d=>(s.1,s.2.1,s.2.2.1,s.2.2.2.1,s.2.2.2.2.1,s.2.2.2.2.2.1,s.2.2.2.2.2.2.1++[d],s.2.2.2.2.2.2.2)) s=(s.1,s.2.1,s.2.2.1,s.2.2.2.1,s.2.2.2.2.1,s.2.2.2.2.2.1,s.2.2.2.2.2.2.1++l,s.2.2.2.2.2.2.2)
 |[],s=>by simp
 |x::l,s=>by rw[Fx,A71 l];simp
theorem Aco{w} (h:U7 w) (g:w.Ag.length<=549755813888):Qe w=Aa w:=by
 have c:=h.2.1.1;have j:=h.2.2.1.1;unfold Qe;rw[Bzg h.1,Ad,Um c,Ad,Bzi g h.2.2.2.1.2,Ad]
 rw[I9 (F:=A2w w) (e:=λ(a:WS)=>((a.1,a.2.1,a.2.2.1,a.2.2.2.1,a.2.2.2.2.1,a.2.2.2.2.2.1,a.2.2.2.2.2.2.1,a.2.2.2.2.2.2.2):WS)) w.An (λr k s=>s.2.2.2.2.2.1.length<=k) (λs d=>(s.1,s.2.1,s.2.2.1,s.2.2.2.1,s.2.2.2.2.1,s.2.2.2.2.2.1++[d],s.2.2.2.2.2.2.1,s.2.2.2.2.2.2.2)) (λx r k s b hx i=>by
  have f:x∈w.An:=by rw[<-hx];exact Cj b
  unfold A2w Bjw;rw[hx,Um (h.2.2.1.2 x f).2.1,Ad,Aj (by simp only[B5,C0];omega)];exact⟨rfl,by simp;omega⟩) _ (by simp),Ad,A7z]
 rfl
theorem Adn{w} (h:U7 w) (l:w.Ag.length<=549755813888):Qf w=Aa w:=by
 have i:=h.2.1.1;have j:=h.2.2.1.1;unfold Qf;rw[B67 h.1,Ad,Aj (by omega)]
 rw[I9 (F:=A47 w) (e:=λ(b:WS')=>((b.1,b.2.1,b.2.2.1,b.2.2.2.1,b.2.2.2.2.1,b.2.2.2.2.2.1,b.2.2.2.2.2.2):WS')) w.An (λr k s=>s.2.2.2.2.2.1.length<=k) (λs d=>(s.1,s.2.1,s.2.2.1,s.2.2.2.1,s.2.2.2.2.1,s.2.2.2.2.2.1++[d],s.2.2.2.2.2.2)) (λx r k s c hx g=>by
  have f:x∈w.An:=by rw[<-hx];exact Cj c
  have:=(h.2.2.1.2 x f).2.1;unfold A47 Bld;rw[hx,Aj (by omega),Aj (by simp only[B5,C0];omega)];exact⟨rfl,by simp;omega⟩) _ (by simp),Ad,A70]
 rw[I9 (F:=A48 w) (e:=λ(a:WS)=>((a.1,a.2.1,a.2.2.1,a.2.2.2.1,a.2.2.2.2.1,a.2.2.2.2.2.1,a.2.2.2.2.2.2.1,a.2.2.2.2.2.2.2):WS)) w.Ag (λr k s=>s.2.2.2.2.2.2.1.length<=k) (λs d=>(s.1,s.2.1,s.2.2.1,s.2.2.2.1,s.2.2.2.2.1,s.2.2.2.2.2.1,s.2.2.2.2.2.2.1++[d],s.2.2.2.2.2.2.2)) (λx r k s c hx g=>by
  have f:x∈w.Ag:=by rw[<-hx];exact Cj c
  unfold A48 Ble;rw[hx,B69 (h.2.2.2.1.2 x f),Ad,Aj (by simp only[B5,C0];omega)];exact⟨rfl,by simp;omega⟩) _ (by simp),Ad,A71]
 rfl
theorem A7g:∀ {a b c:List UInt8},Op.bytesLess a b=true->Op.bytesLess b c=true->Op.bytesLess a c=true
 |[],[],_,h,_=>by simp[Op.bytesLess]at h
 |[],_::_,[],_,h=>by simp[Op.bytesLess]at h
 |[],_::_,_::_,_,_=>by simp[Op.bytesLess]
 |_::_,[],_,h,_=>by simp[Op.bytesLess]at h
 |_::_,_::_,[],_,h=>by simp[Op.bytesLess]at h
 |a::x,b::y,c::z,h,k=>by
  rw[Op.bytesLess]at h k⊢;simp only[Ha,A9,beq_iff_eq,decide_eq_true_eq]at h k⊢;rcases h with h|⟨rfl,h⟩
  ·rcases k with k|⟨rfl,k⟩
   ·exact .inl (UInt8.lt_trans h k)
   ·exact .inl h
  ·rcases k with k|⟨rfl,k⟩
   ·exact .inl k
   ·exact .inr ⟨rfl,A7g h k⟩
theorem A7e:∀a,Op.bytesLess a a=false
 |[]=>by simp[Op.bytesLess]
 |a::x=>by rw[Op.bytesLess,A7e x];simp
theorem Azz{a b c} (h:Cv a b=true) (k:Cv b c=true):Cv a c=true:=A7g h k
theorem Bfn a:Cv a a=false:=A7e _
theorem A7s{h}:∀ {l:List A0} {p:Option A0},Fj (N3 h) p l=true->List.Pairwise (λa b=>a.id<b.id) l/\∀q,p=Aa q->∀s∈l,q.id<s.id
 |[],_,_=>⟨List.Pairwise.nil,λ_ _ _ h=>by cases h⟩
 |x::l,p,h=>by
  simp only[Fj,A9]at h;obtain⟨e,f⟩:=h;obtain⟨g,k2⟩:=A7s f;have hx:∀s∈l,x.id<s.id:=k2 x rfl;refine⟨N7.2 ⟨hx,g⟩,λq c s d=>?_⟩;subst c;have c:q.id<x.id:=by unfold N3 at e;simp only[A9,Jz,L2,decide_eq_false_iff_not]at e;omega
  rcases Bq.1 d with rfl|d
  ·exact c
  ·have:=hx s d;omega
theorem Byb{h} (k:Mg h=true):Cd False h:=by
 unfold Mg at k;simp only[A9,decide_eq_true_eq]at k;obtain⟨⟨⟨d,k2⟩,e⟩,f,b⟩:=k;refine⟨d,k2,e,f,(A7s b).1,λs c=>?_⟩;obtain⟨p,a⟩:=At1 b s c;unfold N3 at a;simp only[A9,decide_eq_true_eq,Ha]at a;obtain⟨⟨⟨⟨g1,_⟩,g2⟩,g3⟩,g4⟩:=a;refine⟨g1,g2,el h.Am (B9 h.Am s.Ah).toNat,by rw[Alm,if_pos g3],λho=>?_⟩;rcases g4 with g4|g4
 ·rw[ho]at g4;cases g4
 ·exact⟨g4,λq=>q.elim⟩
structure WV (w:Au):Prop where
 h:Cd False w.h
 ln:1<=w.Az.length/\w.Az.length<=4
 nt:w.Ag.length<=10
 st:0<=w.step/\w.step<=1000000
 tk:∀t∈w.Ag,Ip t=true
 ss:Qy w.Ag w.step=true
 lk:M2 w=true
 qs:Qx w=true
theorem WV.of{w} (k:Hq w=true):WV w:=by unfold Hq at k;simp only[A9,decide_eq_true_eq,Ff]at k;obtain⟨⟨⟨⟨a,k2⟩,b⟩,c⟩,d,e,f,g⟩:=k;exact⟨Byb a,k2,b,c,d,e,f,g⟩
theorem Beq{w Ah}:∀ {a qd m:List Int},Kx w Ah qd a=Aa m->∀k∈a,(0<=k/\k<=(w.Ag.length:Int)-1)/\(el w.Ag k.toNat).pc=2/\(el w.Ag k.toNat).c.Ah=Ah
 |[],_,_,_,_,h=>by cases h
 |n::a,qd,m,h,k,b=>by
  rw[Kx]at h;split at h
  ·rename_i c;rcases Bq.1 b with rfl|b
   ·exact⟨c.1.1,c.1.2,c.2.1⟩
   ·exact Beq h k b
  ·cases h
structure QF (w:Au) (q:Ba):Prop where
 ln:1<=q.list.length/\q.list.length<=2
 hd:0<=B9 w.h.Am q.Ah
 ks:∀k∈q.list,(0<=k/\k<=(w.Ag.length:Int)-1)/\(el w.Ag k.toNat).pc=2/\(el w.Ag k.toNat).c.Ah=q.Ah
theorem Bes{w}:∀ {l:List Ba} {p:Option Ba} {qd m:List Int},Kc w p qd l=Aa m->∀q∈l,QF w q
 |[],_,_,_,_,_,h=>by cases h
 |x::l,p,qd,m,h,q,b=>by
  rw[Kc]at h;split at h
  ·rename_i c;cases a:Kx w x.Ah qd x.list with
   |none=>rw[a]at h;cases h
   |some m'=>
    rw[a]at h;rcases Bq.1 b with rfl|b
    ·exact⟨c.1.2,c.2,Beq a⟩
    ·exact Bes h q b
  ·cases h
theorem Beu{w}:∀ {l:List Ba} {p:Option Ba} {qd m:List Int},Kc w p qd l=Aa m->List.Pairwise (λa b=>Cv a.Ah b.Ah=true) l/\(∀q,p=Aa q->∀s∈l,Cv q.Ah s.Ah=true)
 |[],_,_,_,_=>⟨List.Pairwise.nil,λ_ _ _ h=>by cases h⟩
 |x::l,p,qd,m,h=>by
  rw[Kc]at h;split at h
  ·rename_i c;cases f:Kx w x.Ah qd x.list with
   |none=>rw[f]at h;cases h
   |some m'=>
    rw[f]at h;obtain⟨g,k2⟩:=Beu (l:=l) (p:=Aa x) (qd:=m') (m:=m) h;have hx:=k2 x rfl;refine⟨N7.2 ⟨hx,g⟩,λq d s e=>?_⟩;subst d;have d:Cv q.Ah x.Ah=true:=by simpa [Jz]using c.1.1
    rcases Bq.1 e with rfl|e
    ·exact d
    ·exact Azz d (hx s e)
  ·cases h
theorem WV.q{w} (k:WV w):(∀q∈w.An,QF w q)/\List.Pairwise (λa b=>Cv a.Ah b.Ah=true) w.An:=by
 have h:=k.qs;unfold Qx at h;cases c:Kc w Ab [] w.An with
 |none=>rw[c]at h;cases h
 |some m=>exact⟨Bes c,(Beu c).1⟩
def w00:Au:=⟨⟨false,[],[],0⟩,[],[],[],0⟩
def Pd:Bi:=⟨0,0,[],[]⟩
def Jx (w:Au) (c:Bb):Au×Bool:=
 if Hq w=true/\Fp c=true/\w.Ag.length≠10/\w.step≠1000000 then(⟨w.h,w.Az,w.An,w.Ag++[⟨c,0,w.step,-1,-1,Pd⟩],w.step+1⟩,true)else(w00,false)
structure N9 (w:Au):Prop where
 sm:U7 w
 nt:w.Ag.length<=10000000
 nq:w.An.length<=1048576
theorem Bye{w} (k:N9 w){c} (e:U6 c):Aqd w c=Aa (Jx w c):=by
 unfold Aqd Jx;rw[Acn w k.sm k.nq,Ad];cases f:Hq w with
 |false=>rw[if_neg (λq=>by cases q.1)];rfl
 |true=>
  have d:=WV.of f;rw[A6,A3,Amp,Ad,Ad];cases g:Fp c with
  |false=>rw[if_neg (λq=>by cases q.2.1)];rfl
  |true=>
   rw[A6,A3,Ad];by_cases b:w.Ag.length=10
   ·rw[decide_eq_true (by omega),Cg,Ad,Cg,if_neg (λq=>q.2.2.1 b)];rfl
   ·rw[decide_eq_false (by omega),A3,Ad];by_cases a:w.step=1000000
    ·rw[Av a,if_neg (λq=>q.2.2.2 a)];rfl
    ·have:=d.st;have:=d.nt;rw[Ap a,if_pos ⟨rfl,rfl,b,a⟩,Aco k.sm (by omega),Ad,Bbo e,Ad,Aj (by simp only[B5,C0];omega),Bh (by omega) (by omega)];rfl
theorem Bfs{w} (k:N9 w){c} (e:U6 c):Vk w c=Aa (Jx w c):=by
 unfold Vk Jx;rw[Ao5 w k.sm k.nq,Ad];cases f:Hq w with
 |false=>rw[if_neg (λq=>by cases q.1)];rfl
 |true=>
  have d:=WV.of f;rw[A6,A3,Ahh,Ad,Ad];cases g:Fp c with
  |false=>rw[if_neg (λq=>by cases q.2.1)];rfl
  |true=>
   rw[A6,A3,Ad];by_cases b:w.Ag.length=10
   ·rw[decide_eq_true (by omega),Cg,Ad,Cg,if_neg (λq=>q.2.2.1 b)];rfl
   ·rw[decide_eq_false (by omega),A3,Ad];by_cases a:w.step=1000000
    ·rw[Av a,if_neg (λq=>q.2.2.2 a)];rfl
    ·have:=d.st;have:=d.nt;rw[Ap a,if_pos ⟨rfl,rfl,b,a⟩,Adn k.sm (by omega),Ad,Bgk e,Ad,Aj (by simp only[B5,C0];omega),Bh (by omega) (by omega)];rfl
theorem Hg{T} [Inhabited T] L i (f:T->T):(stE L i f).length=L.length:=by unfold stE;rw[Ft]
theorem Xm{T} [Inhabited T] L i (f g:T->T):stE (stE L i f) i g=stE L i λz=>g (f z):=by
 unfold stE;by_cases h:i<L.length
 ·rw[A6i,show el (L.set i (f (el L i))) i=f (el L i)by unfold el;simp[Ni,h]]
 ·rw[Atg (by rw[Ft];omega),Atg (by omega),Atg (by omega)]
def tP (p:Int) (t:A4):A4:=⟨t.c,p,t.inv,t.Bv,t.Cl,t.a⟩
def tA (p:Int) (a:Bi) (t:A4):A4:=⟨t.c,p,t.inv,t.Bv,t.Cl,a⟩
def tD (s:Int) (t:A4):A4:=⟨t.c,4,t.inv,t.Bv,s,t.a⟩
def tX (s:Int) (a:Bi) (t:A4):A4:=⟨t.c,3,t.inv,s,t.Cl,a⟩
def Jm (w:Au) (k:Int):Au:=⟨(Kn w.h (el w.Ag k.toNat).c).1,w.Az,w.An,stE w.Ag k.toNat (tX w.step (Kn w.h (el w.Ag k.toNat).c).2),w.step⟩
theorem Awq{w} (h:Cd False w.h){k} (a:0<=k/\k<(w.Ag.length:Int)):Ad9 w k=Aa (Jm w k):=by unfold Ad9 Jm;rw[Aj a,Bbe h,Ad,Xm,Xm];rfl
theorem Ao6{w} (h:Cd False w.h){k} (a:0<=k/\k<(w.Ag.length:Int)):Abd w k=Aa (Jm w k):=by unfold Abd Jm;rw[Aj a,B57 h,Ad,Aj a,Aj (by rw[Hg];exact a),Aj (by rw[Hg,Hg];exact a),Xm,Xm];rfl
def Cu (l:List Ba) (n:Cea):Int:=E6 (λq=>decide (q.Ah=n)) l
theorem A0f w n:Aeu w n=Aa (Cu w.An n):=by
 unfold Aeu
 rw[Y2 w.An (λd=>decide (d.Ah=n)) () (λk=>(Bj k:Sum Unit Int)) (λx k b hx=>by
  unfold Bll Blj;rw[hx];cases decide (x.Ah=n)<;>rfl),Ad]
 have a:=Acq (λd:Ba=>decide (d.Ah=n)) w.An;unfold Cu;split
 ·rfl
 ·rw[show E6 (λd:Ba=>decide (d.Ah=n)) w.An= -1 by omega];rfl
theorem Bzm l n:Art l n=Aa (Cu l n,n):=by
 unfold Art
 rw[Y2 l (λd=>decide (d.Ah=n)) n (λk=>(Bj (k,n):Sum Cea (Int×Cea))) (λx k b hx=>by
  unfold Bkf Bke A2o;rw[hx,Ad];cases decide (x.Ah=n)<;>rfl),Ad]
 have a:=Acq (λd:Ba=>decide (d.Ah=n)) l;unfold Cu;split
 ·rfl
 ·rw[show E6 (λd:Ba=>decide (d.Ah=n)) l= -1 by omega];rfl
theorem Px{l n} (h:0<=Cu l n):(Cu l n).toNat<l.length/\Cu l n<l.length/\(el l (Cu l n).toNat).Ah=n/\el l (Cu l n).toNat∈l:=by have g:=Ws h;exact⟨g.1,Zg _ _,of_decide_eq_true g.2,Cj g.1⟩
def Fc (n:Cea) (l:List Ba):Nat:=(l.takeWhile λs=>Cv s.Ah n).length
theorem Bc5 n y l:Fc n (y::l)=if Cv y.Ah n=true then Fc n l+1 else 0:=by unfold Fc;rw[A6k];cases h:Cv y.Ah n<;>simp
theorem Bc6 n l:Fc n l<=l.length:=(Ati _).length_le
theorem Bcd{f} l n (j:l.length<=1048576)
  (e:∀k:Int,f k=Ac (bif decide (k<(l.length:Int))then(xg (0<=k/\k<(l.length:Int))<|some (Cv ((el l k.toNat).Ah) n))else(Aa false)) λa=>bif a then(xg (Aq (k+1))<|some (Lr.go (k+1)))else(Aa (Lr.out k))):Cp f 0=Aa (Fc n l:Int):=by
 have b:=Acp (f:=f) (λs=>0<=s/\s<=l.length) (λs=>((l.length:Int)-s).toNat) (λs=>s+(Fc n (l.drop s.toNat):Nat)) (λs c=>by
  rw[e];by_cases h:s<(l.length:Int)
  ·have d:=Afu (l:=l) (i:=s.toNat) (by omega);rw[Av h,Aj ⟨c.1,h⟩,Ad,d,Bc5];cases g:Cv (el l s.toNat).Ah n with
   |true=>rw[Cg,if_pos rfl,Bh (by omega) (by omega)];exact .inl ⟨_,rfl,by omega,by omega,by rw[show(s+1).toNat=s.toNat+1 by omega];omega⟩
   |false=>rw[A3,if_neg (by decide)];exact .inr (by simp)
  ·rw[Ap h,Ad,A3,show s.toNat=l.length by omega,Vy];exact .inr (by simp[Fc])) 0 (by omega)
 rw[b];simp
theorem Bev{n}:∀ {l:List Ba},List.Pairwise (λa b=>Cv a.Ah b.Ah=true) l->(0<=Cu l n->Cu l n=(Fc n l:Int))/\(Cu l n<0->Fc n l<l.length->(el l (Fc n l)).Ah≠n)
 |[],_=>⟨λh=>absurd h (by simp[Cu,E6]),λ_ h=>absurd h (by simp)⟩
 |y::r,h=>by
  obtain⟨d,f⟩:=N7.1 h;obtain⟨o,k2⟩:=Bev (n:=n) f;rw[Bc5]
  have i:Cu (y::r) n=if y.Ah=n then 0 else if 0<=Cu r n then Cu r n+1 else-1:=by
   have m:Cu r n=if r.any (λq=>decide (q.Ah=n))then(r.findIdx (λq=>decide (q.Ah=n)):Int)else-1:=rfl
   unfold Cu E6;rw[A51,A55];by_cases c:y.Ah=n
   ·rw[if_pos c,decide_eq_true c];rfl
   ·rw[if_neg c,decide_eq_false c,Rr,cond_false];change _=if 0<=Cu r n then Cu r n+1 else-1
    rw[m];cases p:r.any (λq=>decide (q.Ah=n))with
    |true=>simp
    |false=>simp
  rw[i];by_cases c:y.Ah=n
  ·subst c;rw[if_pos rfl,Bfn,if_neg (by decide)];exact⟨λ_=>rfl,λq=>absurd q (by omega)⟩
  ·rw[if_neg c];by_cases g:Cv y.Ah n=true
   ·rw[if_pos g];by_cases e:0<=Cu r n
    ·rw[if_pos e];exact⟨λ_=>by rw[o e];omega,λq=>absurd q (by omega)⟩
    ·rw[if_neg e];exact⟨λq=>absurd q (by omega),λ_ k=>k2 (by omega) (by simpa using k)⟩
   ·rw[if_neg g];have e:Cu r n<0:=Agh.2 λx hx=>decide_eq_false λj=>g (j▸d x hx);rw[if_neg (by omega)];exact⟨λq=>absurd q (by omega),λ_ _=>c⟩
def Pm (l:List Ba) (n:Cea) (k:Int):List Ba:=
 if 0<=Cu l n then stE l (Cu l n).toNat λz=>⟨z.Ah,(el l (Cu l n).toNat).list++[k]⟩else l.take (Fc n l)++[⟨n,[k]⟩]++l.drop (Fc n l)
theorem B7d{w} (f:w.An.length<=1048576) (e:∀q∈w.An,q.list.length<=2){k} (b:0<=k/\k<(w.Ag.length:Int)):
  Asm w k=Aa ⟨w.h,w.Az,Pm w.An (el w.Ag k.toNat).c.Ah k,stE w.Ag k.toNat (tP 2),w.step⟩:=by
 unfold Asm Pm;rw[Aj b,Aj b,A0f,Ad];simp only;by_cases c:0<=Cu w.An (el w.Ag k.toNat).c.Ah
 ·obtain⟨g,a,j,d⟩:=Px c;have:=e _ d;rw[Av c,if_pos c,Aj ⟨c,a⟩,Aj (by simp only[B5,C0];omega),Aj ⟨c,a⟩,Aj trivial];rfl
 ·have l:=Bc6 (el w.Ag k.toNat).c.Ah w.An;rw[Ap c,if_neg c,Bcd w.An (el w.Ag k.toNat).c.Ah f (λi=>by unfold Bli Blh;rfl),Ad];rw[Aj ⟨by omega,by omega⟩,Aj (by omega),Aj (by simp only[Dh,Iu];omega),Aj ⟨by omega,by omega⟩,Aj (by simp only[Dh,D0,Bt,B5,C0];omega),Gb,Hd,Iu];rfl
def Zk (w:Au) (k:Int) (t:A4):Au:=
 if t.c.kind≠2\/w.h.shut=true\/B9 w.h.Am t.c.Ah<0 then Jm w k
 else if 0<=Cu w.An t.c.Ah/\(el w.An (Cu w.An t.c.Ah).toNat).list.length=2 then⟨w.h,w.Az,w.An,stE w.Ag k.toNat (tA 3 ⟨11,0,[],[]⟩),w.step⟩
 else⟨w.h,w.Az,Pm w.An t.c.Ah k,stE w.Ag k.toNat (tP 2),w.step⟩
def Pv (w:Au) (k:Int) (t:A4) (s:Nat):Au×Bool:=
 if t.pc=0 then
  (if 1<=t.c.kind/\t.c.kind<=5 then
   (if el w.Az s= -1 then(⟨w.h,w.Az.set s k,w.An,stE w.Ag k.toNat (tP 1),w.step⟩,true)else(w00,false))
   else(Jm w k,true))
 else if t.pc=1 then(Zk ⟨w.h,w.Az.set s (-1),w.An,w.Ag,w.step⟩ k t,true)
 else if t.pc=3 then(⟨w.h,w.Az,w.An,stE w.Ag k.toNat (tD w.step),w.step⟩,true)
 else(w00,false)
def Jw (s:Int) (r:Au×Bool):Au×Bool:=if r.2=true then(⟨r.1.h,r.1.Az,r.1.An,r.1.Ag,s+1⟩,true)else r
def Lq (w:Au) (k:Int):Au×Bool:=
 if Hq w=true/\w.step≠1000000/\0<=k/\k<(w.Ag.length:Int)then Jw w.step (Pv w k (el w.Ag k.toNat) (Ek (el w.Ag k.toNat).c.Ah w.Az.length).toNat)else(w00,false)
theorem B7e{w} (h:Cd False w.h) (A:w.An.length<=1048576) (z:∀q∈w.An,q.list.length<=2) (B:1<=w.Az.length){k} (m:0<=k/\k<(w.Ag.length:Int)) (C:(el w.Ag k.toNat).c.Ah.size<=8):
  Asn w k=Aa (Zk ⟨w.h,w.Az.set (Ek (el w.Ag k.toNat).c.Ah w.Az.length).toNat (-1),w.An,w.Ag,w.step⟩ k (el w.Ag k.toNat)):=by
 have g:=Adu (s:=(el w.Ag k.toNat).c.Ah) (n:=(w.Az.length:Int)) (by omega);unfold Asn Zk;rw[Aj m,Ao1 _ _ (by omega),Ad,Aj g];simp only;by_cases c:(el w.Ag k.toNat).c.kind≠2\/w.h.shut=true\/B9 w.h.Am (el w.Ag k.toNat).c.Ah<0
 ·rw[if_pos c]
  have e:(Ac (bif !decide (((el w.Ag k.toNat).c.kind)=2)then(Aa true)else(Aa w.h.shut)) λi=>(Ac (bif i then(Aa true)else(Ac (Lz w.h ((el w.Ag k.toNat).c.Ah)) λo=>Aa (decide (o<0)))) λj=>Aa j))=Aa true:=by
   by_cases f:(el w.Ag k.toNat).c.kind=2
   ·rw[decide_eq_true f];cases g:w.h.shut with
    |true=>rfl
    |false=>rw[Su];simp only[A6,cond_false,Ad];rw[decide_eq_true (by rcases c with c|c|c;exact absurd f c;rw[g]at c;cases c;exact c)]
   ·rw[decide_eq_false f];rfl
  obtain⟨a,x,e⟩:=Tu.1 e;obtain⟨b,y,e⟩:=Tu.1 e;cases e;rw[x,Ad,y,Ad,Cg,Ao6 (w:=⟨w.h,w.Az.set (Ek (el w.Ag k.toNat).c.Ah w.Az.length).toNat (-1),w.An,w.Ag,w.step⟩) h m];rfl
 ·rw[if_neg c];have f:(el w.Ag k.toNat).c.kind=2:=As0 λq=>c (.inl q)
  have p:w.h.shut=false:=by cases g:w.h.shut with
   |true=>exact absurd (.inr (.inl g)) c
   |false=>rfl
  have r:¬B9 w.h.Am (el w.Ag k.toNat).c.Ah<0:=λq=>c (.inr (.inr q));rw[decide_eq_true f,p,Su];simp only[A6,cond_false,Ad];rw[decide_eq_false r,A3,A0f,Ad];simp only;by_cases d:0<=Cu w.An (el w.Ag k.toNat).c.Ah/\(el w.An (Cu w.An (el w.Ag k.toNat).c.Ah).toNat).list.length=2
  ·obtain⟨t,l,u,v⟩:=Px d.1;rw[if_pos d,Av d.1,Aj ⟨d.1,l⟩,Ad,Av (by omega),Xm];rfl
  ·rw[if_neg d]
   have e:(bif decide ((0:Int)<=Cu w.An (el w.Ag k.toNat).c.Ah)then(xg (0<=Cu w.An (el w.Ag k.toNat).c.Ah/\Cu w.An (el w.Ag k.toNat).c.Ah<(w.An.length:Int))<|some (decide ((((el w.An (Cu w.An (el w.Ag k.toNat).c.Ah).toNat).list).length:Int)=2)))else(Aa false))=Aa false:=by
    by_cases e:0<=Cu w.An (el w.Ag k.toNat).c.Ah
    ·obtain⟨t,l,u,v⟩:=Px e;rw[Av e,Aj ⟨e,l⟩,decide_eq_false (λq=>d ⟨e,by omega⟩)]
    ·rw[Ap e]
   rw[e,Ad,A3,B7d (w:=⟨w.h,w.Az.set (Ek (el w.Ag k.toNat).c.Ah w.Az.length).toNat (-1),w.An,w.Ag,w.step⟩) A z m];rfl
end
end Go.Proofs.YtbbefmccoomfhaaGreatDoor
