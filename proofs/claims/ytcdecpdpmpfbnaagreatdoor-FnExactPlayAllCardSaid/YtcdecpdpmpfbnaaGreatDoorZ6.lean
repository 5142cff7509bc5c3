/- Part 6 of the proof: lemmas. No condition. -/
import Derived.Lib.ReplaceLaws
import Derived.Lib.SplitLaws
import Derived.Lib.AtoiAllCases
import Derived.ChangeArms
import Derived.ProofKit
import Derived.Test.YtcdecpdpmpfbnaaGreatDoorProg
import Derived.Test.YtcdecpdpmpfbnaaGreatDoorZ5
open Option renaming bind->B5h,bind_some->B5i,map_eq_some_iff->B5s,some->B65,bind_eq_some_iff->B7i
open List renaming mem_cons_of_mem->B5j,length_append->B5m,mem_cons_self->B5n,getElem?_eq_getElem->B5p,length_cons->B5q,append_assoc->B5r,mem_cons->B5t,length_take->B5x,length_nil->B5y,length_drop->B50,length_singleton->B51,eq_nil_of_length_eq_zero->B53,getElem?_eq_some_iff->B55,mem_singleton->B57,cons_append->B6a,all_eq_true->B6b,mem_append->B6g,foldl_cons->B6j,replicate->B6l,take_length->B6m,getD_eq_getElem?_getD->B6n,append_nil->B6o,getElem?_append_left->B6p,map_cons->B6r,take_append_drop->B6t,length_set->B6v,length_map->B6x,mem_of_mem_drop->B6z,flatMap_append->B60,nil_append->B62,getElem?_append_right->B64,take_of_length_le->B7a,mem_or_eq_of_mem_set->B7j,drop_drop->B7o,set_cons_zero->B7r,drop_zero->B7v,set_append_right->B7y,getElem?_eq_none->B7z,drop_length->B72,mem_map->B75,mem_of_mem_take->B76,drop_eq_getElem_cons->B78,drop_succ_cons->B8a,foldl_append->B8e,foldl_nil->B8i,drop_eq_nil_of_le->B8n,replicate_succ->B8o,length_pos_iff->B8s,map_congr_left->B8t,set_getElem_self->B8y,take_add_one->B85,sum_cons->B87,take_append->B9i,map_append->B9r,map_map->B9u,flatten_cons->B9w,take_set_of_le->B96,take_succ_cons->B97,sum_nil->B98,isPrefixOf->Cal,flatten_nil->Ca0,singleton_append->Ca6,drop_set_of_lt->Cbe,set_set->Cbf,mapM_cons->Cbi,map_id->Cbp,length->Cbq,drop->Cbw
open Int renaming toNat_natCast->B58
open Nat renaming mul_le_mul_right->B5v,zero_le->B6c,le_refl->B6i,lt_of_lt_of_le->B6w,add_mul->B61,zero_mul->B7n,add_comm->B9b,one_mul->B9f,lt_irrefl->B91,sub_self->Cah,strongRecOn->Ca4,mul_succ->Cbn
open Bool renaming and_eq_true->B5l,not_true->B5o,not_false->B6u,true_and->B7t,not_eq_true->B95
open ByteArray renaming empty->B52
open UInt8 renaming toNat_inj->B8k,ofNat->Cac,toNat_ofNat'->Cap
open Array renaming toArray_toList->B9g
open Sum renaming inl->B7k,elim_inl->B7u,elim_inr->Ca8
open Go.Lib renaming decDigits->B7d,join_cons->B7f,join->B7w,index->B8l,joinTail->B8m,splitB->B86,count_hit->B9o,replaceAll->B9t,count_miss->Cam,replaceK_hit->Cay,countB_le->Cbk,splitK->Cbr,lens->Cbs
namespace Go.Proofs.YtcdecpdpmpfbnaaGreatDoor
noncomputable section
def Yp (l:List DQueue) (i:Nat):List DQueue:=
 if((el l i).list.drop 1).length=0 then l.take i++l.drop (i+1)else stE l i λz=>⟨z.doc,(el l i).list.drop 1⟩
def Sc (w:DWorld) (name:ByteArray):DWorld×Bool:=
 if H1 w=true/\w.step≠1000000/\0<=Be w.queues name then
  Ti w.step (Hu ⟨w.h,w.locks,Yp w.queues (Be w.queues name).toNat,w.tasks,w.step⟩ (el (el w.queues (Be w.queues name).toNat).list 0),true)
 else(Vr,false)
theorem WV.qf{w} (v:WV w){n} (d:0<=Be w.queues n):1<=(el w.queues (Be w.queues n).toNat).list.length/\0<=el (el w.queues (Be w.queues n).toNat).list 0/\el (el w.queues (Be w.queues n).toNat).list 0<(w.tasks.length:Int):=by obtain⟨g1,g2,g3,g4⟩:=Pw d;have f:=v.q.1 _ g4;have:=(f.ks _ (Bm (l:=(el w.queues (Be w.queues n).toNat).list) (i:=0) (by have:=f.ln;omega))).1;exact⟨f.ln.1,this.1,by omega⟩
theorem A1i{T} [Inhabited T]{L i} (h:i<L.length) (f:T->T):el (stE L i f) i=f (el L i):=by show List.getD _ _ _=_;unfold stE;simp[B6n,h]
theorem A80{T} [Inhabited T] L i (f:T->T):(stE L i f).take i=L.take i:=by unfold stE;rw[B96 (B6i _)]
theorem Azx{T} [Inhabited T] L i (f:T->T):(stE L i f).drop (i+1)=L.drop (i+1):=by unfold stE;rw[Cbe (by omega)]
theorem Bws{w} (x:WS0 w) n:Amp w n=some (Sc w n):=by
 unfold Amp Sc;rw[As9,B5i,As6 w x.sm x.nq,B5i];cases i:H1 w with
 |false=>rw[if_neg (λq=>by cases q.1)];rfl
 |true=>
  have v:=WV.of i;have c:=x.nt;have g:=v.st;have f:=v.q5;rw[B5o,Ag,B5i];by_cases a:w.step=1000000
  ·rw[Ad a,if_neg (λq=>q.2.1 a)];rfl
  rw[Ab a,B5i];by_cases d:0<=Be w.queues n
  rotate_left
  ·rw[Ad (by omega),if_neg (λq=>d q.2.2)];rfl
  obtain⟨g1,g2,g3,g4⟩:=Pw d;obtain⟨j,b⟩:=v.qf d;rw[Ab (by omega),U9 x.sm (by omega),B5i,Aa ⟨d,g2⟩,Aa ⟨by omega,by omega⟩,Aa ⟨d,g2⟩,Aa ⟨by omega,by omega⟩,Aa ⟨d,g2⟩,Aa rfl,Aa ⟨d,by rw[K7];exact g2⟩,if_pos ⟨rfl,a,d⟩,A1i g1,B6m];unfold Yp Ti;simp only[B50];by_cases e:(el w.queues (Be w.queues n).toNat).list.length-1=0
  ·rw[Ad (by omega),if_pos e,K7,Aa ⟨d,by omega⟩,Aa (by omega),Ao (by omega) (by omega),Aa ⟨by omega,by omega⟩,Aa (by simp only[B5m,B5x,B5y,K7];omega),B62,A80,show(stE w.queues (Be w.queues n).toNat λz=>(⟨z.doc,(el w.queues (Be w.queues n).toNat).list.drop 1⟩:DQueue)).take w.queues.length=(stE w.queues (Be w.queues n).toNat λz=>(⟨z.doc,(el w.queues (Be w.queues n).toNat).list.drop 1⟩:DQueue))by rw[B7a (by rw[K7];omega)],show(Be w.queues n+1).toNat=(Be w.queues n).toNat+1 by omega,Azx,Ai4 (w:=⟨w.h,w.locks,w.queues.take (Be w.queues n).toNat++w.queues.drop ((Be w.queues n).toNat+1),w.tasks,w.step⟩) v.h b,B5i,Ao (by omega) (by omega)];rfl
  ·rw[Ab (by omega),if_neg e,Ai4 (w:=⟨w.h,w.locks,stE w.queues (Be w.queues n).toNat λz=>(⟨z.doc,(el w.queues (Be w.queues n).toNat).list.drop 1⟩:DQueue),w.tasks,w.step⟩) v.h b,B5i,Ao (by omega) (by omega)];rfl
theorem Bo9{w} (x:WS0 w) n:Akt w n=some (Sc w n):=by
 unfold Akt Sc;rw[Bpr,B5i];by_cases d:0<=Be w.queues n
 rotate_left
 ·rw[Ad (by omega),if_neg (λq=>d q.2.2)];rfl
 simp only;rw[Ab (by omega),Apv w x.sm x.nq,B5i,B5i];cases i:H1 w with
 |false=>rw[if_neg (λq=>by cases q.1)];rfl
 |true=>
  have v:=WV.of i;have c:=x.nt;have g:=v.st;have f:=v.q5;rw[B5o,Ag,B5i];by_cases a:w.step=1000000
  ·rw[Ad a,if_neg (λq=>q.2.1 a)];rfl
  obtain⟨g1,g2,g3,g4⟩:=Pw d;obtain⟨j,b⟩:=v.qf d;rw[Ab a,Xn x.sm (by omega),B5i,Aa ⟨d,g2⟩,Aa ⟨by omega,by omega⟩,Apy v.h b,B5i,if_pos ⟨rfl,a,d⟩];unfold Hu Yp Ti;simp only[B50];rw[Aa ⟨d,g2⟩,Aa ⟨by omega,by omega⟩,Aa ⟨d,g2⟩,Aa trivial,Aa ⟨d,by rw[K7];exact g2⟩,A1i g1,B6m];simp only[B50];by_cases e:(el w.queues (Be w.queues n).toNat).list.length-1=0
  ·unfold Y4;rw[Ad (by omega),if_pos e,Ao (by omega) (by omega),Aa ⟨by omega,by omega,by rw[K7];omega⟩,Aa (by rw[K7];omega),B5i,A80,show(Be w.queues n+1).toNat=(Be w.queues n).toNat+1 by omega,Azx,Ao (by omega) (by omega)];rfl
  ·rw[Ab (by omega),if_neg e,Ao (by omega) (by omega)];rfl
def Ar (l:List UInt8):ByteArray:=⟨l.toArray⟩
theorem Fs a b:Ar a++Ar b=Ar (a++b):=by refine ByteArray.ext ?_;rw[ByteArray.data_append];simp[Ar]
theorem B4 a:(Ar a).size=a.length:=by simp[Ar,ByteArray.size]
theorem B1u n a hi:Bk n a hi=some (decide (a<=n/\n<=hi)):=by unfold Bk;simp only[B5i,Bo,Dd];refine Gu ?_;simp
theorem B1t n a hi:Bt n a hi=some (decide (a<=n/\n<=hi)):=by unfold Bt;simp only[B5i,Bo,Dd];refine Gu ?_;simp
def B7 (n:Int):List UInt8:=if 0<=n/\n<=1000000000 then B7d n.toNat else []
theorem Bib u:(B7d u).length<=u+1:=by
 induction u using Ca4 with
 |_ u a=>
  rw[B7d];split
  ·simp
  ·rename_i h;have:=a (u/10) (by omega);simp only[B5m,B5q,B5y];omega
theorem Aa6 n:D7 n=some (Ar (B7 n)):=by
 unfold D7 B7;rw[B1u,B5i];by_cases h:0<=n/\n<=1000000000
 ·rw[decide_eq_true h,B5o,cond_false,if_pos h];unfold Ac1;rw[Ao (by omega) (by omega),B5i];unfold Lib.itoa;rw[if_neg (by omega)];rfl
 ·rw[decide_eq_false h,B6u,cond_true,if_neg h];rfl
theorem Bb0 d (h:0<=d/\d<=9):y8 (48+d)=Cac (48+d.toNat):=by unfold y8;congr 1;omega
theorem Ai0 n:Kf n=some (Ar (B7 n)):=by
 unfold Kf B7;rw[B1t,B5i];by_cases h:0<=n/\n<=1000000000
 ·rw[decide_eq_true h,B5o,cond_false,if_pos h];have q:=Bib n.toNat
  obtain⟨y,k,⟨l,m,o,i⟩⟩:=Ri (f:=Axe) (λs=>∃l,s.2=Ar l/\0<=s.1/\s.1<=1000000000/\B7d s.1.toNat++l=B7d n.toNat) (λs=>s.1.toNat)
   (λy=>∃l,y.2=Ar l/\(0<=y.1/\y.1<=9)/\B7d y.1.toNat++l=B7d n.toNat) (λs ⟨l,d,b,p,a⟩=>by
    unfold Axe Ba5;by_cases g:9<s.1
    ·have j:B7d s.1.toNat=B7d (s.1/10).toNat++[Cac (48+(s.1 % 10).toNat)]:=by rw[B7d,dif_neg (by omega),show(s.1/10).toNat=s.1.toNat/10 by omega,show(s.1 % 10).toNat=s.1.toNat % 10 by omega]
     have c:l.length<=1000000001:=by have:=congrArg Cbq a;rw[B5m]at this;omega
     have e:(⟨[y8 (48+(s.1 % 10))].toArray⟩:ByteArray)=Ar [y8 (48+(s.1 % 10))]:=rfl;rw[decide_eq_true g,cond_true,Aa ⟨b,by omega⟩,Ao (by omega) (by omega),e,d,Aa (by rw[B4,B4];simp only[B5q,B5y];omega),Aa ⟨b,by omega,by omega⟩];refine .inl ⟨_,rfl,⟨[y8 (48+(s.1 % 10))]++l,by rw[Fs],by simp only;omega,by simp only;omega,?_⟩,by simp only;omega⟩;rw[j,B5r]at a;rw[Bb0 _ ⟨by omega,by omega⟩];exact a
    ·rw[decide_eq_false g,cond_false];exact .inr ⟨_,rfl,l,d,⟨b,by simp only;omega⟩,a⟩) (n,(⟨#[]⟩:ByteArray)) ⟨[],rfl,h.1,h.2,by simp⟩
  have c:l.length<=1000000001:=by have:=congrArg Cbq i;rw[B5m]at this;omega
  have e:(⟨[y8 (48+y.1)].toArray⟩:ByteArray)=Ar [y8 (48+y.1)]:=rfl;rw[k,B5i,Ao (by omega) (by omega),e,m,Aa (by rw[B4,B4];simp only[B5q,B5y];omega),Fs,<-i,Bb0 _ o,B7d,dif_pos (by omega)]
 ·rw[decide_eq_false h,B6u,cond_true,if_neg h];rfl
section
section
variable {T:Type} [Inhabited T]
theorem At4{F} l (t:T->List UInt8) sep m (g:sep.length<=1) (p:∀x∈l,(t x).length<=m)
  (o:∀x k s,k<l.length->el l k=x->x∈l->s.length<=(m+1)*l.length->(0<k->(∀x∈l,t x≠[])->s≠[])->(k=0->s=[])->F k (Ar s)=some (.go (Ar (s++((if k=0 then []else sep)++t x))))):
  Ai F (λs=>s) l.length 0 ⟨#[]⟩=some (Ar (B7w (l.map t) sep)):=by
 have h:=C6 (e:=λs=>s) (F:=F) l (λr k s=>k+r.length=l.length/\∃u,s=Ar u/\u.length<=(m+1)*k/\(k=0->u=[])/\(0<k->(∀x∈l,t x≠[])->u≠[]))
  (λr k s=>s++Ar (if k=0 then B7w (r.map t) sep else B8m sep (r.map t)))
  (λs=>by
   have:Ar (if l.length=0 then B7w (([]:List T).map t) sep else B8m sep (([]:List T).map t))=⟨#[]⟩:=by split<;>rfl
   rw[this];exactλ_=>ByteArray.append_empty)
  (λx r k s f hx ⟨j,u,e,hu,v,n⟩=>by
   have b:x∈l:=hx▸Bm f;have i:(m+1)*k<=(m+1)*l.length:=Nat.mul_le_mul_left _ (by omega);have d:=o x k u f hx b (by omega) n v;have q:=p x b;refine .inl ⟨_,e▸d,⟨by rw[B5q]at j;omega,_,rfl,?_,by omega,λ_ c a=>c x b ?_⟩,?_⟩
   ·rw[B5m,B5m,Cbn];split<;>(try simp only[B5y])<;>omega
   ·have:=congrArg Cbq a;rw[B5m,B5m]at this;exact B53 (by simp only[B5y]at this;omega)
   ·rw[e,if_neg (Nat.succ_ne_zero k),Fs,Fs];congr 1;by_cases a:k=0
    ·rw[if_pos a,if_pos a,B6r,B7f];simp
    ·rw[if_neg a,if_neg a,B6r];simp[B8m])
  ⟨#[]⟩ ⟨by omega,[],rfl,by simp,λ_=>rfl,λh=>absurd h (B91 0)⟩
 rw[h,if_pos rfl];congr 1
theorem A34{U F} l (u:T->U)
  (c:∀x k s,k<l.length->el l k=x->x∈l->s.length=k->F k s=some (.go (s++[u x]))):Ai F (λs=>s) l.length 0 []=some (l.map u):=by
 have h:=C6 (e:=λs=>s) (F:=F) l (λ_ k s=>s.length=k) (λr _ s=>s++r.map u) (λs _=>by simp)
  (λx r k s a hx b=>.inl ⟨_,c x k s a hx (hx▸Bm a) b,by simp[b],by simp⟩) [] rfl
 exact h
theorem A32{m}:∀ {L:List (List UInt8)},(∀x∈L,x.length<=m)->Cbs L<=m*L.length
 |[],_=>by simp[Cbs]
 |x::L,h=>by have a:=A32 (m:=m) λy b=>h y (B5j _ b);have c:=h x B5n;simp only[Cbs,B6r,B87,B5q,Cbn]at a⊢;omega
theorem A3t{m L sep} (a:sep.length<=1) (h:∀x∈L,x.length<=m):(B7w L sep).length<=(m+1)*L.length:=by
 cases L with
 |nil=>simp[Lib.join_nil]
 |cons x r=>have b:=A32 h;have c:sep.length*r.length<=1*r.length:=B5v _ a;rw[Lib.join_length,B61];simp only[B5q]at b⊢;omega
theorem Ec a:(Ar a).data.toList=a:=by simp[Ar]
omit [Inhabited T]in
theorem A3s (l:List T) (t:T->List UInt8) (sep:List UInt8) (m:Nat) (a:sep.length<=1) (c:∀x∈l,(t x).length<=m) (g:(m+1)*l.length<=1099511627776):
  Vu (l.map λx=>Ar (t x)) (Ar sep)=some (Ar (B7w (l.map t) sep)):=by
 have e:(l.map λx=>Ar (t x)).map (·.data.toList)=l.map t:=by rw[B9u];exact B8t λx _=>Ec _
 have b:=A3t (m:=m) (L:=l.map t) a (λy d=>by obtain⟨x,hx,rfl⟩:=B75.1 d;exact c x hx);have f:1*l.length<=(m+1)*l.length:=B5v _ (by omega);rw[B6x]at b;unfold Vu jn;rw[e,Ec,Aa ⟨by rw[B6x];omega,by omega⟩];rfl
end
theorem Azn:∀k u,u<10^(k+1)->(B7d u).length<=k+1
 |0,u,h=>by rw[B7d,dif_pos (by simpa using h)];simp
 |k+1,u,h=>by
  rw[B7d];split
  ·simp
  ·have:=Azn k (u/10) (by rw[Nat.pow_succ]at h;omega);rw[B5m,B51];omega
theorem Ij n:(B7 n).length<=10:=by
 unfold B7;split
 ·exact Azn 9 n.toNat (by omega)
 ·simp
def Km (l:List Int):List UInt8:=B7w (l.map B7) [46]
theorem Aac l:(Km l).length<=11*l.length:=by have h:=A3t (m:=10) (L:=l.map B7) (sep:=[46]) (B6i 1) (λy a=>by obtain⟨x,_,rfl⟩:=B75.1 a;exact Ij x);rw[B6x]at h;exact h
theorem A26 l (b:l.length<=1000000):Adq l=some (Ar (Km l)):=by
 unfold Adq
 rw[A34 l (λn=>Ar (B7 n)) (λx k s a hx c d=>by
  unfold Bak Baj;rw[hx,Aa6,B5i,Aa (by omega)]),B5i]
 have e:=A3s l B7 [46] 10 (B6i 1) (λx _=>Ij x) (by omega);rw[show(⟨#[46]⟩:ByteArray)=Ar [46]from rfl,e];rfl
def Hl (l:List Int):List UInt8:=if l.all Cc then(if l=[]then [45]else Km l)else []
theorem Aqo {T:Type} {l:List T}:((l.length:Int)=0)↔l=[]:=by cases l<;>simp<;>omega
theorem Bpb l (a:l.length<=1000000):Adh l=some (Ar (Hl l)):=by
 unfold Adh Hl;rw[Ag2,B5i,A26 l a];cases l.all Cc with
 |false=>rfl
 |true=>
  simp only[Aqo];by_cases h:l=[]
  ·rw[Ad h,if_pos h];rfl
  ·rw[Ab h,if_neg h];rfl
theorem As2 l (c:l.length<=1000000):Wg l=some (Ar (Hl l)):=by
 unfold Wg Hl;rw[As3,B5i]
 rw[At4 l B7 [46] 10 (B6i 1) (λx _=>Ij x) (λx k s b hx d e _ f=>by
  unfold Bbc Bbb;have a:=Ij x;rw[hx,Ai0,B5i,B5i,show(⟨#[46]⟩:ByteArray)=Ar [46]from rfl];by_cases h:(0:Int)<(k:Int)
  ·rw[Ad h,if_neg (by omega),Aa (by rw[B4,B4];simp only[B51];omega),Fs,Aa (by rw[B4,B4,B5m];simp only[B51];omega),Fs,B5r]
  ·rw[Ab h,if_pos (by omega),Aa (by rw[B4,B4];omega),Fs];rfl)]
 cases l.all Cc with
 |false=>rfl
 |true=>
  simp only[Aqo];by_cases h:l=[]
  ·rw[Ad h,if_pos h];rfl
  ·rw[Ab h,if_neg h];rfl
def E4 (p:DPart):List UInt8:=if p.kind=1 then 107::B7 p.n else if p.kind=3 then 100::B7 p.n else 112::Km p.signs
theorem A5q{p} (h:p.signs.length<=200):(E4 p).length<=2201:=by
 have a:=Ij p.n;have b:=Aac p.signs;unfold E4;split
 ·rw[B5q];omega
 ·split<;>rw[B5q]<;>omega
theorem A5r p:E4 p≠[]:=by
 unfold E4;split
 ·simp
 ·split<;>simp
def Cg (o:List DPart):List UInt8:=if Az o then(if A7 o=[]then [45]else B7w ((A7 o).map E4) [32])else []
theorem Aq1{o} (h:Az o=true):(A7 o).length<=600/\∀p∈A7 o,p.signs.length<=200/\La p:=by have b:=Eg (X1 h);exact⟨Ky b,λp a=>⟨(Jw (Gj b a)).1,A84 (Aq8 (Eg h)) p a⟩⟩
theorem A5t:∀o,Cbs (o.map E4)<=12*o.length+11*Av Fb o
 |[]=>by simp[Cbs,Av]
 |p::o=>by
  have h:=A5t o;have a:=Ij p.n;have b:=Aac p.signs
  have c:(E4 p).length<=12+11*p.signs.length:=by
   unfold E4;split
   ·rw[B5q];omega
   ·split<;>rw[B5q]<;>omega
  have d:=Vl p;simp only[Cbs,B6r,B87,B5q,Av]at h⊢;omega
theorem Arh o:(Cg o).length<=20000:=by
 unfold Cg;by_cases h:Az o=true
 ·rw[if_pos h];have a:=Aq7 (X1 h);rw[I7]at a;have b:=A5t (A7 o);split
  ·simp
  ·cases c:A7 o with
   |nil=>simp[Lib.join_nil]
   |cons x r=>rw[c]at a b;rw[B6r]at b⊢;rw[Lib.join_length];simp only[B6x,B5q,B5y]at a b⊢;omega
 ·rw[if_neg h];simp
theorem Aps o:Adc o=some (Ar (Cg o)):=by
 unfold Adc Cg;rw[Np,B5i,Ag1];by_cases h:Az o=true
 ·obtain⟨j,d⟩:=Aq1 h;rw[h,B5o,cond_false,if_pos rfl,B5i,if_pos rfl]
  rw[A34 (A7 o) (λp=>Ar (E4 p)) (λx k s m hx g q=>by
   unfold A96 A95;have f:=Ij x.n;have i:=(d x g).1;have l:=Aac x.signs;rw[hx,Aa6,A26 _ (by omega),B5i,B5i,B5i];rw[show(⟨#[107]⟩:ByteArray)=Ar [107]from rfl,show(⟨#[100]⟩:ByteArray)=Ar [100]from rfl,show(⟨#[112]⟩:ByteArray)=Ar [112]from rfl];unfold E4;by_cases a:x.kind=1
   ·rw[Ad a,if_pos a,Aa (by rw[B4,B4];simp only[B51];omega),Aa (by omega),Fs];rfl
   ·rw[Ab a,if_neg a];by_cases b:x.kind=3
    ·rw[Ad b,if_pos b,Aa (by rw[B4,B4];simp only[B51];omega),Aa (by omega),Fs];rfl
    ·rw[Ab b,if_neg b,Aa (by rw[B4,B4];simp only[B51];omega),Aa (by omega),Fs];rfl),B5i]
  simp only[B6x,Aqo];by_cases c:A7 o=[]
  ·rw[Ad c,if_pos c];rfl
  ·rw[Ab c,if_neg c];have e:=A3s (A7 o) E4 [32] 2201 (B6i 1) (λx hx=>A5q (d x hx).1) (by omega);rw[show(⟨#[32]⟩:ByteArray)=Ar [32]from rfl,e];rfl
 ·rw[B95]at h;rw[h];rfl
theorem Ae7 s:(Ar s=(⟨#[]⟩:ByteArray))↔s=[]:=⟨λh=>by have:=congrArg (λb:ByteArray=>b.data.toList) h;simpa [Ar]using this,λh=>by rw[h];rfl⟩
theorem Asz o:Aeg o=some (Ar (Cg o)):=by
 unfold Aeg Cg;rw[Mf,B5i,Asy];by_cases h:Az o=true
 ·obtain⟨A,g⟩:=Aq1 h;rw[h,B5o,cond_false,if_pos rfl,B5i,if_pos rfl]
  rw[At4 (A7 o) E4 [32] 2201 (B6i 1) (λx hx=>A5q (g x hx).1) (λx k s C hx u D i w=>by
   unfold Ba8 Ba7;have m:=Ij x.n;obtain⟨v,l⟩:=g x u;have B:=Aac x.signs
   have d:x.kind=2->Hl x.signs=Km x.signs:=λg=>by
    rcases l with t|t|t
    ·omega
    ·unfold Hl;rw[if_pos t.2.2.2,if_neg t.2.2.1]
    ·omega
   have b:x.kind=1\/x.kind=2\/x.kind=3:=by rcases l with t|t|t<;>simp[t.1]
   rw[hx,Ai0,As2 _ (by omega)];rw[show(⟨#[107]⟩:ByteArray)=Ar [107]from rfl,show(⟨#[100]⟩:ByteArray)=Ar [100]from rfl,show(⟨#[112]⟩:ByteArray)=Ar [112]from rfl,show(⟨#[32]⟩:ByteArray)=Ar [32]from rfl];unfold E4;have z:(1:Int)=1:=rfl;by_cases a:k=0
   ·have Ax:=w a;subst Ax;rw[if_pos a,show(decide (Ar []=(⟨#[]⟩:ByteArray)))=true from decide_eq_true rfl];simp only[B5o,cond_false,B5i];rcases b with c|c|c
    ·rw[c];rw[Ad rfl,if_pos rfl,Aa (by simp only[B4,B51,B5y];omega),Fs,Aa (by simp only[B4,B5m,B51,B5y];omega),Fs];rfl
    ·rw[d c,c];rw[Ab (by decide),Ad rfl,if_neg (by decide),if_neg (by decide),Aa (by simp only[B4,B51,B5y];omega),Fs,Aa (by simp only[B4,B5m,B51,B5y];omega),Fs];rfl
    ·rw[c];rw[Ab (by decide),Ab (by decide),if_neg (by decide),if_pos rfl,Aa (by simp only[B4,B51,B5y];omega),Fs,Aa (by simp only[B4,B5m,B51,B5y];omega),Fs];rfl
   ·have j:=i (by omega) (λy _=>A5r y);rw[if_neg a,decide_eq_false (λe=>j ((Ae7 s).1 e))];simp only[B6u,cond_true,B5i];rw[Aa (by simp only[B4,B51];omega)];simp only[Fs];rcases b with c|c|c
    ·rw[c];rw[Ad rfl,if_pos rfl,Aa (by simp only[B4,B5m,B51];omega),Aa (by simp only[B4,B5m,B51];omega)];simp
    ·rw[d c,c];rw[Ab (by decide),Ad rfl,if_neg (by decide),if_neg (by decide),Aa (by simp only[B4,B5m,B51];omega),Aa (by simp only[B4,B5m,B51];omega)];simp
    ·rw[c];rw[Ab (by decide),Ab (by decide),if_neg (by decide),if_pos rfl,Aa (by simp only[B4,B5m,B51];omega),Aa (by simp only[B4,B5m,B51];omega)];simp),B5i]
  by_cases f:A7 o=[]
  ·rw[if_pos f,f];rfl
  ·rw[if_neg f]
   have q:B7w ((A7 o).map E4) [32]≠[]:=by
    cases p:A7 o with
    |nil=>exact absurd p f
    |cons x r=>rw[B6r,B7f];intro a;exact A5r x (List.append_eq_nil_iff.1 a).1
   rw[decide_eq_false (λe=>q ((Ae7 _).1 e))];rfl
 ·rw[B95]at h;rw[h];rfl
def H9 (x:UInt8):UInt8:=if x=32 then 44 else x
def Qd (o:List DPart):List UInt8:=(Cg o).map H9
theorem Ask a b:∀s,Lib.replaceK [a] [b] (Lib.count s [a]) s=s.map λx=>if x=a then b else x
 |[]=>rfl
 |x::l=>by
  have j:=Ask a b l;have d:([a]:List UInt8)≠[]:=by simp
  rw[B6r,<-j];by_cases hx:x=a
  ·subst hx;have c:B8l (x::l) [x]=((0:Nat):Int):=by unfold B8l;simp[Cal]
   rw[if_pos rfl,B9o d c,B9b,Cay _ _ _ _ _ c];rfl
  ·have f:([a]:List UInt8).isPrefixOf (x::l)=false:=by simp[Cal];exactλh=>hx h.symm
   rw[if_neg hx];by_cases hi:B8l l [a]= -1
   ·have c:B8l (x::l) [a]= -1:=by unfold B8l;rw[f,hi];rfl
    rw[Cam c,Cam hi];rfl
   ·have g:=Lib.index_ge l [a];obtain⟨i,e⟩:∃i:Nat,B8l l [a]=i:=⟨(B8l l [a]).toNat,by omega⟩
    have c:B8l (x::l) [a]=((i+1:Nat):Int):=by
     unfold B8l;rw[f,e];have:((i:Int)== -1)=false:=by rw[beq_eq_false_iff_ne];omega
     rw[this];simp
    rw[B9o d c,B9o d e,B9b 1,B9b 1,Cay _ _ _ _ _ c,Cay _ _ _ _ _ e];rw[show i+1+([a]:List UInt8).length=(i+([a]:List UInt8).length)+1 from by simp,B8a,B97];rfl
theorem Bvl s:B9t s [32] [44]=s.map H9:=by unfold B9t Lib.replace Lib.replaceNum;rw[if_neg (by decide),if_pos (Or.inl (by decide)),Ask];rfl
theorem Bpq o:Ads o=some (Ar (Qd o)):=by unfold Ads;have b:=Arh o;have a:=Cbk (Ar [32]) (B6i 1) (Ar (Cg o)).size (Ar (Cg o)) (B6i _);rw[B4]at a;rw[Aps,B5i,show(⟨#[32]⟩:ByteArray)=Ar [32]from rfl,show(⟨#[44]⟩:ByteArray)=Ar [44]from rfl];unfold Vv rpl;rw[Aa ⟨by rw[B4];omega,B6i 1,by rw[B4,show(Ar [44]).size=1 from rfl];omega⟩,Ec,Ec,Ec,Bvl];rfl
theorem Bxb o:Am2 o=some (Ar (Qd o)):=by
 unfold Am2;have m:=Arh o;rw[Asz,B5i,Aa (by rw[B4];omega),Ec]
 have h:=C6 (e:=λs=>s) (F:=Ayf) (Cg o) (λr k s=>s=((Cg o).take k).map H9++r/\(Cg o).drop k=r) (λ_ _ _=>(Cg o).map H9)
  (λs ⟨h,_⟩=>by rw[h,B6m,B6o])
  (λx r k s i hx ⟨c,j⟩=>by
   have a:(((Cg o).take k).map H9).length=k:=by rw[B6x,B5x];omega
   have f:el s k=x:=by rw[c];have:=Lv (((Cg o).take k).map H9) x r;rw[a]at this;exact this
   have l:k<s.length:=by rw[c,B5m,a,B5q];omega
   have g:((Cg o).take (k+1)).map H9=((Cg o).take k).map H9++[H9 x]:=by rw[B85,B9r,B5p i,<-Gb i,hx];rfl
   have d:(Cg o).drop (k+1)=r:=by rw[<-B7o,j];rfl
   refine .inl ⟨((Cg o).take (k+1)).map H9++r,?_,⟨rfl,d⟩,rfl⟩;unfold Ayf Bby;rw[f,g];by_cases b:x=32
   ·rw[b,Ad (by decide),Aa ⟨by omega,by omega⟩,c,B7y _ _ (by omega),a,Cah,B7r,B5r];rfl
   ·rw[Ab (λe=>b (B8k.1 (by show x.toNat=32;omega))),c,B5r];unfold H9;rw[if_neg b];rfl)
  (Cg o) ⟨by simp,rfl⟩
 rw[h];rfl
end
def Fl (k:Int):List UInt8:=if k=1 then [111,112,101,110]else if k=2 then [115,117,98,109,105,116]else if k=3 then [102,101,116,99,104]else if k=4 then [115,110,97,112]else if k=5 then [115,117,98]else if k=6 then [112,111,108,108]else if k=7 then [114,101,115,121,110,99]else if k=8 then [115,104,117,116]else []
theorem Afc{k} (h:¬(1<=k/\k<=8)):Fl k=[]:=by unfold Fl;rw[if_neg (by omega),if_neg (by omega),if_neg (by omega),if_neg (by omega),if_neg (by omega),if_neg (by omega),if_neg (by omega),if_neg (by omega)]
theorem Azd k:(Fl k).length<=6:=by
 by_cases h:1<=k/\k<=8
 ·rcases Nu h with h|h|h|h|h|h|h|h<;>subst h<;>decide
 ·rw[Afc h];simp
theorem A2v k:Ac3 k=some (Ar (Fl k)):=by
 unfold Ac3;rw[Ez,B5i];by_cases h:1<=k/\k<=8
 ·rw[decide_eq_true h,B5o,cond_false];rcases Nu h with h|h|h|h|h|h|h|h<;>subst h<;>rfl
 ·rw[decide_eq_false h,Afc h];rfl
theorem A67 k:Ad7 k=some (Ar (Fl k)):=by
 unfold Ad7;rw[A66,B5i];by_cases h:1<=k/\k<=8
 ·rw[decide_eq_true h,B5o,cond_false];rcases Nu h with h|h|h|h|h|h|h|h<;>subst h<;>rfl
 ·rw[decide_eq_false h,Afc h];rfl
theorem Z3 s:s=Ar s.data.toList:=by unfold Ar;rw[B9g]
theorem Bxa l m (b:∀x∈l,x.size<=m) (g:(m+1)*l.length<=1000000000):Ae1 l=some (Ar (B7w (l.map (·.data.toList)) [32])):=by
 unfold Ae1;have hb (x:ByteArray):Ar x.data.toList=x:=(Z3 x).symm;have hz (x:ByteArray):x.data.toList.length=x.size:=rfl
 rw[At4 l (·.data.toList) [32] m (B6i 1) (λx hx=>by rw[hz];exact b x hx) (λx k s f hx a i _ e=>by
  unfold Bbx Bbw;have c:=b x a;have d:(m+1)*1<=(m+1)*l.length:=Nat.mul_le_mul_left _ (by omega);rw[hx,show(⟨#[32]⟩:ByteArray)=Ar [32]from rfl];by_cases h:(0:Int)<(k:Int)
  ·rw[Ad h,if_neg (by omega),Aa (by rw[B4,B4];simp only[B51];omega),Fs,Aa (by rw[B4,B5m];simp only[B51];omega)]
   conv=>lhs;rw[<-hb x]
   rw[Fs,B5r]
  ·rw[Ab h,if_pos (by omega),Aa (by rw[B4];omega)]
   conv=>lhs;rw[<-hb x]
   rw[Fs];rfl)]
 rfl
def Hs (c:DCall):List (List UInt8):=
 [Fl c.kind]++(if c.kind<=5 then [c.doc.data.toList]else [])++(if c.kind=2\/c.kind=6\/c.kind=7 then [B7 c.client]else [])++(if c.kind=2 then [B7 c.seq]else [])
  ++(if c.kind=2\/c.kind=3\/c.kind=5\/c.kind=6 then [B7 c.n]else [])++(if c.kind=2 then [Qd c.o]else [])++(if c.kind=1 then [Hl c.text]else [])
def Hv (c:DCall):Bool:=(((((Di c&&Az c.o)&&(!(decide (1<=c.kind/\c.kind<=5))||Eo c.doc))&&decide (0<=c.client/\c.client<=1000000000))&&decide (0<=c.seq/\c.seq<=1000000000))&&decide (0<=c.n/\c.n<=1000000000))
def Fe (c:DCall):List UInt8:=if Hv c then B7w (Hs c) [32]else []
theorem Aq3{c} (h:Di c=true):(1<=c.kind/\c.kind<=8)/\c.doc.size<=8/\c.text.length<=200:=by unfold Di Cf at h;simp only[B5l,decide_eq_true_eq]at h;exact⟨h.1.1.1.1,h.1.1.1.2,h.1.2.1⟩
theorem A4w{c} (h:Di c=false):Fe c=[]:=by unfold Fe Hv;rw[h];rfl
theorem A72{l} (h:l.length<=200):(Hl l).length<=2200:=by
 have:=Aac l;unfold Hl;split
 ·split
  ·simp
  ·omega
 ·simp
theorem A9v o:(Qd o).length<=20000:=by unfold Qd;rw[B6x];exact Arh o
theorem Bg5{c} (h:Di c=true):(Hs c).length<=7/\∀x∈Hs c,x.length<=20000:=by
 obtain⟨_,k,a⟩:=Aq3 h;have b:=Azd c.kind;have d:=Ij c.client;have e:=Ij c.seq;have f:=Ij c.n;have g:=A9v c.o;have i:=A72 a;have j:c.doc.data.toList.length=c.doc.size:=rfl;constructor
 ·unfold Hs;simp only[B5m];have q (p:Prop) [Decidable p] (x:List UInt8):(if p then [x]else []).length<=1:=by split<;>simp
  have:=q (c.kind<=5) c.doc.data.toList;have:=q (c.kind=2\/c.kind=6\/c.kind=7) (B7 c.client);have:=q (c.kind=2) (B7 c.seq);have:=q (c.kind=2\/c.kind=3\/c.kind=5\/c.kind=6) (B7 c.n);have:=q (c.kind=2) (Qd c.o);have:=q (c.kind=1) (Hl c.text);simp only[B51];omega
 ·intro x hx;unfold Hs at hx;have q {p:Prop} [Decidable p] {y:List UInt8} (h:x∈(if p then [y]else [])):x=y:=by split at h<;>simp at h;exact h
  simp only[B6g,B57]at hx;rcases hx with(((((hx|hx)|hx)|hx)|hx)|hx)|hx
  ·rw[hx];omega
  all_goals (rw[q hx];omega)
theorem Bhx {α:Type}{a b n d e f} {x y:α} (h:¬(true&&a&&(!b||n)&&d&&e&&f)=true):(bif bif bif bif bif !a then true else bif b then !n else false then true else !d then true else !e then true else !f then x else y)=x:=by revert h;cases a<;>cases b<;>cases n<;>cases d<;>cases e<;>cases f<;>simp
theorem Bh0 {α:Type}{a b n d e f} {x y:α} (h:(true&&a&&(!b||n)&&d&&e&&f)=true):(bif bif bif bif bif !a then true else bif b then !n else false then true else !d then true else !e then true else !f then x else y)=y:=by revert h;cases a<;>cases b<;>cases n<;>cases d<;>cases e<;>cases f<;>simp
theorem Bhy {α:Type}{a b n d e f} {x y:α} (h:¬(true&&a&&(!b||n)&&d&&e&&f)=true):(bif bif bif bif bif !a then true else !d then true else !e then true else !f then true else bif b then !n else false then x else y)=x:=by revert h;cases a<;>cases b<;>cases n<;>cases d<;>cases e<;>cases f<;>simp
theorem Bh1 {α:Type}{a b n d e f} {x y:α} (h:(true&&a&&(!b||n)&&d&&e&&f)=true):(bif bif bif bif bif !a then true else !d then true else !e then true else !f then true else bif b then !n else false then x else y)=y:=by revert h;cases a<;>cases b<;>cases n<;>cases d<;>cases e<;>cases f<;>simp
theorem z32:(⟨#[32]⟩:ByteArray)=Ar [32]:=rfl
theorem A2u c:Li c=some (Ar (Fe c)):=by
 unfold Li;rw[Agx,B5i];by_cases a:Di c=true
 case neg=>rw[A4w (by simpa using a),show Di c=false by simpa using a];rfl
 obtain⟨i,f,j⟩:=Aq3 a;simp only[a,Np,Agz c.doc (by omega),Ez,Xm,Aa6,Bpb c.text (by omega),Bpq,A2v,B5i,Bo,B5o,cond_false];by_cases b:Hv c=true
 case neg=>unfold Fe;rw[if_neg b];unfold Hv at b;rw[a]at b;rw[Bhx b];rfl
 have e:Fe c=B7w (Hs c) [32]:=if_pos b;unfold Hv at b;rw[a]at b;rw[Bh0 b,e];clear b e;obtain⟨D,d⟩:∃D,c.doc=Ar D:=⟨_,Z3 _⟩;have g:D.length<=8:=by rw[d,B4]at f;exact f
 have k:=Azd c.kind;have l:=Ij c.client;have m:=Ij c.seq;have p:=Ij c.n;have q:=A9v c.o;have r:=A72 j;unfold Hs;rw[d,Ec,z32];rcases Nu i with h|h|h|h|h|h|h|h
 all_goals (simp(disch:=first|omega|(simp only[B4,B5m,B51];omega)) only[Ad,Ab,if_pos,if_neg,Fs,Aa];congr 2;simp[B7f,B8m])
theorem Bv0 c:Wc c=some (Ar (Fe c)):=by
 unfold Wc;rw[Aix,B5i];by_cases a:Di c=true
 case neg=>rw[A4w (by simpa using a),show Di c=false by simpa using a];rfl
 obtain⟨j,n,o⟩:=Aq3 a;simp only[a,Mf,A7e c.doc (by omega),E5,Ace,Ai0,As2 c.text (by omega),Bxb,A67,B5i,Bo,B5o,cond_false];by_cases b:Hv c=true
 case neg=>unfold Fe;rw[if_neg b];unfold Hv at b;rw[a]at b;rw[Bhy b];rfl
 have i:Fe c=B7w (Hs c) [32]:=if_pos b;unfold Hv at b;rw[a]at b;rw[Bh1 b,i];clear b i;obtain⟨k,e⟩:=Bg5 a;have f:∀l,l=(Hs c).map Ar->B5h (Ae1 l) (λr=>some r)=some (Ar (B7w (Hs c) [32])):=λl d=>by rw[Bxa l 20000 (λx hx=>by rw[d]at hx;obtain⟨y,m,rfl⟩:=B75.1 hx;rw[B4];exact e y m) (by rw[d,B6x];omega),B5i,d,B9u];congr 3;exact(B8t λx _=>Ec x).trans (Cbp _)
 obtain⟨D,g⟩:∃D,c.doc=Ar D:=⟨_,Z3 _⟩;unfold Zv;rw[g];rcases Nu j with h|h|h|h|h|h|h|h
 all_goals (simp(disch:=first|omega|(simp only[B5m,B51];omega)) only[Ad,Ab,A9,B5i,Aa];refine f _ ?_;unfold Hs;simp(disch:=omega) only[if_pos,if_neg];simp[g,Ec])
def Ah (b:UInt8):List UInt8->List (List UInt8)
 |[]=>[[]]
 |x::r=>if x=b then []::Ah b r else(x::(Ah b r).headD [])::(Ah b r).tail
theorem Vg b:∀l,Ah b l≠[]
 |[]=>by simp[Ah]
 |x::r=>by rw[Ah];split<;>simp
theorem Atn b l:Ah b l=(Ah b l).headD []::(Ah b l).tail:=by
 cases h:Ah b l with
 |nil=>exact absurd h (Vg b l)
 |cons _ _=>rfl
theorem Byg b l:(Ah b l).headD []∈Ah b l:=by
 cases h:Ah b l with
 |nil=>exact absurd h (Vg b l)
 |cons _ _=>simp
theorem Ato{b}:∀ {p:List UInt8} (r:List UInt8),b∉p->Ah b (p++b::r)=p::Ah b r
 |[],r,_=>by rw[B62,Ah,if_pos rfl]
 |x::p,r,h=>by rw[B6a,Ah,if_neg (λe:x=b=>h (e▸B5n ..)),Ato r (λk=>h (B5j _ k))];rfl
theorem Acm{b}:∀ {p:List UInt8},b∉p->Ah b p=[p]
 |[],_=>rfl
 |x::p,h=>by rw[Ah,if_neg (λe:x=b=>h (e▸B5n ..)),Acm (λk=>h (B5j _ k))];rfl
theorem Ys{b}:∀ {l w:List UInt8},w∈Ah b l->b∉w
 |[],w,h=>by rw[Ah,B57]at h;rw[h];simp
 |x::r,w,h=>by
  rw[Ah]at h;split at h
  ·rcases B5t.1 h with rfl|h
   ·simp
   ·exact Ys h
  ·rename_i hx;rcases B5t.1 h with rfl|h
   ·intro k;rcases B5t.1 k with k|k
    ·exact hx k.symm
    ·exact Ys (l:=r) (w:=(Ah b r).headD []) (Byg b r) k
   ·exact Ys (List.mem_of_mem_tail h)
theorem Ajl{b}:∀ {ws:List (List UInt8)},ws≠[]->(∀w∈ws,b∉w)->Ah b (B7w ws [b])=ws
 |[],h,_=>absurd rfl h
 |[w],_,h=>by rw[B7f];simp only[B8m,List.map_nil,Ca0,B6o];exact Acm (h w (B5n ..))
 |w::v::r,_,h=>by
  have a:=Ajl (ws:=v::r) (by simp) (λx hx=>h x (B5j _ hx));have e:B7w (w::v::r) [b]=w++b::B7w (v::r) [b]:=by rw[B7f,B7f];simp[B8m]
  rw[e,Ato _ (h w (B5n ..)),a]
theorem A74 b:∀l,Cbr [b] 0 (Lib.count l [b]) l=Ah b l
 |[]=>rfl
 |x::l=>by
  have g:=A74 b l;have c:([b]:List UInt8)≠[]:=by simp
  rw[Ah,<-g];by_cases hx:x=b
  ·subst hx;have a:B8l (x::l) [x]=((0:Nat):Int):=by unfold B8l;simp[Cal]
   rw[if_pos rfl,B9o c a,B9b,Cbr,a];rfl
  ·have e:([b]:List UInt8).isPrefixOf (x::l)=false:=by simp[Cal];exactλh=>hx h.symm
   rw[if_neg hx];by_cases hi:B8l l [b]= -1
   ·have a:B8l (x::l) [b]= -1:=by unfold B8l;rw[e,hi];rfl
    rw[Cam a,Cam hi];rfl
   ·have f:=Lib.index_ge l [b];obtain⟨i,d⟩:∃i:Nat,B8l l [b]=i:=⟨(B8l l [b]).toNat,by omega⟩
    have a:B8l (x::l) [b]=((i+1:Nat):Int):=by
     unfold B8l;rw[e,d];have:((i:Int)== -1)=false:=by rw[beq_eq_false_iff_ne];omega
     rw[this];simp
    rw[B9o c a,B9o c d,B9b 1,B9b 1,Cbr,Cbr,a,d,if_neg (by rw[beq_iff_eq];omega),if_neg (by rw[beq_iff_eq];omega)];rw[B58,B58,show i+1+([b]:List UInt8).length=(i+([b]:List UInt8).length)+1 from by simp,B8a];rfl
theorem Td s:Ar s.data.toList=s:=(Z3 s).symm
theorem Brs (l:List ByteArray):(l.map (·.data.toList)).map Ar=l:=by rw[B9u];exact(B8t λx _=>Td x).trans (Cbp _)
def Cr (b:UInt8) (s:ByteArray):List ByteArray:=(Ah b s.data.toList).map Ar
theorem A22 s b (h:s.size<4294967281):Vw s ⟨#[b]⟩=some (Cr b s):=by unfold Vw Cr;rw[Aa ⟨h,B6i 1⟩,<-Brs (B86 _ _ _ _),Lib.splitB_data];congr 2;exact A74 b _
theorem Ai8 s i:Bz s i=(s.data.toList[i]?).getD 0:=by
 unfold Bz;by_cases h:i<s.size
 ·rw[getElem?_pos s i h,B5p (by exact h)];rfl
 ·rw[getElem?_neg s i h,B7z (by exact Nat.not_lt.1 h)]
theorem Ao3 (s:ByteArray) a b:s.extract a b=Ar ((s.data.toList.drop a).take (b-a)):=by rw[Z3 (s.extract a b)];congr 1;rw[Lib.extract_data]
theorem A7m s b (h:s.size<1099511627776):Aeo s b=some (Cr b s):=by
 have p:s.data.toList.length=s.size:=rfl;unfold Aeo
 obtain⟨y,a,d⟩:=Ri (f:=Axw s b) (λz=>(0<=z.2.1/\z.2.1<=z.2.2/\z.2.2<=s.size/\b∉(s.data.toList.drop z.2.1.toNat).take (z.2.2.toNat-z.2.1.toNat)/\z.1++(Ah b (s.data.toList.drop z.2.1.toNat)).map Ar=Cr b s/\(z.1.length:Int)<=z.2.1)\/(z.2.2=s.size+1/\z.1=Cr b s)) (λz=>(s.size+1-z.2.2).toNat) (λy=>y.1=Cr b s) (λz n=>by
  unfold Axw Bbi;rcases n with⟨a,d,j,g,i,m⟩|⟨a,d⟩
  ·rw[Ad j];by_cases c:z.2.2=s.size
   ·have k:(s.data.toList.drop z.2.1.toNat).take (z.2.2.toNat-z.2.1.toNat)=s.data.toList.drop z.2.1.toNat:=B7a (by rw[B50];omega);rw[Ad c,B5i,A9,Aa ⟨a,d,j⟩,Aa (by omega),Ao (by omega) (by omega),Ao (by omega) (by omega)];refine .inl ⟨_,rfl,.inr ⟨by simp only;omega,?_⟩,by simp only;omega⟩;rw[k]at g;rw[<-i,Acm g,Ao3,k];rfl
   ·have hx:s.data.toList.drop z.2.2.toNat=(Bz s z.2.2.toNat)::s.data.toList.drop (z.2.2.toNat+1):=by rw[Ai8,B5p (by omega)];exact B78 _
    have l:s.data.toList.drop z.2.1.toNat=(s.data.toList.drop z.2.1.toNat).take (z.2.2.toNat-z.2.1.toNat)++Bz s z.2.2.toNat::s.data.toList.drop (z.2.2.toNat+1):=by
     conv=>lhs;rw[<-B6t (z.2.2.toNat-z.2.1.toNat) (s.data.toList.drop z.2.1.toNat)]
     rw[B7o,show z.2.1.toNat+(z.2.2.toNat-z.2.1.toNat)=z.2.2.toNat by omega,hx]
    rw[Ab c,Aa ⟨by omega,by omega⟩,B5i];by_cases e:Bz s z.2.2.toNat=b
    ·rw[Ad (by rw[e]),Aa ⟨a,d,j⟩,Aa (by omega),Ao (by omega) (by omega),Ao (by omega) (by omega)];refine .inl ⟨_,rfl,.inl ⟨by simp only;omega,by simp only;omega,by simp only;omega,by simp,?_,by simp only[B5m,B5q,B5y];omega⟩,by simp only;omega⟩;rw[l,e,Ato _ g]at i;simp only;rw[Ao3,show(z.2.2+1).toNat=z.2.2.toNat+1 by omega,<-i,B5r];rfl
    ·rw[Ab (λq=>e (B8k.1 (by omega))),Ao (by omega) (by omega)];refine .inl ⟨_,rfl,.inl ⟨a,by simp only;omega,by simp only;omega,?_,i,m⟩,by simp only;omega⟩;simp only;rw[show(z.2.2+1).toNat-z.2.1.toNat=(z.2.2.toNat-z.2.1.toNat)+1 by omega];intro q;rw[l,B9i]at q;have o:((s.data.toList.drop z.2.1.toNat).take (z.2.2.toNat-z.2.1.toNat)).length=z.2.2.toNat-z.2.1.toNat:=by rw[B5x,B50];omega
     rw[o,B7a (by omega),show z.2.2.toNat-z.2.1.toNat+1-(z.2.2.toNat-z.2.1.toNat)=1 by omega]at q;rcases B6g.1 q with q|q
     ·exact g q
     ·exact e (Eq.symm (by simpa using q))
  ·rw[Ab (by omega)];exact .inr ⟨_,rfl,d⟩) ([],0,0) (.inl ⟨by simp,by simp,by simp,by simp,by simp[Cr],by simp⟩)
 rw[a,B5i,d]
theorem App s (h:s.size<4294967281):Y5 s=some (Cr 32 s):=by unfold Y5;rw[A22 s 32 h];rfl
theorem Ast s (h:s.size<1099511627776):Zi s=some (Cr 32 s):=by unfold Zi;rw[A7m s 32 h];rfl
def En (a:Nat) (l:List UInt8):Nat:=l.foldl (λa c=>a*10+(c.toNat-48)) a
theorem Ah0 a:En a []=a:=by unfold En;rw[B8i]
theorem Abn a c r:En a (c::r)=En (a*10+(c.toNat-48)) r:=by unfold En;rw[B6j]
theorem Br2 l a c:En a (l++[c])=En a l*10+(c.toNat-48):=by unfold En;rw[B8e,B6j,B8i]
theorem A4s:∀l a,a<=En a l
 |[],a=>by rw[Ah0];exact B6i _
 |c::l,a=>by rw[Abn];have:=A4s l (a*10+(c.toNat-48));omega
def W1 (l:List UInt8):Prop:=∀c∈l,48<=c.toNat/\c.toNat<=57
theorem Afs{d} (h:d<10):(Cac (48+d)).toNat=48+d:=by rw[Cap];omega
theorem Ans n:En 0 (B7d n)=n/\W1 (B7d n)/\B7d n≠[]:=by
 induction n using Ca4 with
 |_ n e=>
  rw[B7d];split
  ·rename_i h;refine⟨?_,λc a=>?_,by simp⟩
   ·rw[Abn,Ah0,Afs h];omega
   ·rw[B57.1 a,Afs h];omega
  ·obtain⟨b,d,_⟩:=e (n/10) (by omega);refine⟨?_,λc a=>?_,by simp⟩
   ·rw[Br2,b,Afs (by omega)];omega
   ·rcases B6g.1 a with a|a
    ·exact d c a
    ·rw[B57.1 a,Afs (by omega)];omega
theorem A5o:∀ {l:List UInt8} {a:Nat},W1 l->En a l<1844674407370955162->Lib.parseUint10 a l=.ok (En a l)
 |[],a,_,_=>by rw[Ah0];rfl
 |c::l,a,h,k=>by have b:=h c (B5n ..);rw[Abn]at k;have d:=A4s l (a*10+(c.toNat-48));rw[Lib.parseUint10,if_pos b,if_neg (by omega),if_neg (by omega),Abn,A5o (λx hx=>h x (B5j _ hx)) k]
theorem Ul{n} (h:B7 n≠[]):0<=n/\n<=1000000000/\B7 n=B7d n.toNat/\En 0 (B7 n)=n.toNat/\W1 (B7 n):=by
 unfold B7 at h⊢;by_cases c:0<=n/\n<=1000000000
 ·rw[if_pos c];exact⟨c.1,c.2,rfl,(Ans _).1,(Ans _).2.1⟩
 ·rw[if_neg c]at h;exact absurd rfl h
theorem Aq2{n} (h:0<=n/\n<=1000000000):B7 n≠[]:=by unfold B7;rw[if_pos h];exact(Ans _).2.2
theorem Bgo{n} (h:B7 n≠[]):Lib.atoiAll (B7 n)=.ok n:=by
 obtain⟨f,g,i,b,a⟩:=Ul h;cases e:B7 n with
 |nil=>exact absurd e h
 |cons c r=>
  rw[e]at a b;have j:=a c (B5n ..);have d:Lib.parseMag (c::r)=.ok n.toNat:=by unfold Lib.parseMag;rw[if_neg (by simp),A5o a (by omega),b]
  rw[Lib.atoiAll_plain c r (by omega) (by omega),d,Lib.signless,if_neg (by omega)];congr 1;omega
def Cd (l:List UInt8):Int×Bool:=if l≠[]/\B7 (En 0 l)=l then((En 0 l:Nat),true)else(0,false)
theorem Sn{n} (h:0<=n/\n<=1000000000):Cd (B7 n)=(n,true):=by have g:=Aq2 h;obtain⟨_,_,_,a,_⟩:=Ul g;unfold Cd;rw[a,show((n.toNat:Nat):Int)=n by omega,if_pos ⟨g,rfl⟩]
theorem A86{l} (h:(Cd l).2=true):l=B7 (Cd l).1/\l≠[]/\0<=(Cd l).1/\(Cd l).1<=1000000000:=by
 unfold Cd at h⊢;by_cases c:l≠[]/\B7 (En 0 l)=l
 ·rw[if_pos c];have:=Ul (n:=((En 0 l:Nat):Int)) (by rw[c.2];exact c.1);exact⟨c.2.symm,c.1,this.1,this.2.1⟩
 ·rw[if_neg c]at h;cases h
theorem Ae6{a b} (h:Ar a=Ar b):a=b:=by have:=congrArg (λs:ByteArray=>s.data.toList) h;simpa [Ar]using this
theorem Mz{a s}:(Ar a=s)↔a=s.data.toList:=by
 conv=>lhs;rw[<-Td s]
 exact⟨Ae6,λh=>by rw[h]⟩
theorem A24 s (h:s.size<=281474976710656):Adl s=some (Cd s.data.toList):=by
 unfold Adl;rw[Aa h];by_cases c:s.data.toList≠[]/\B7 (En 0 s.data.toList)=s.data.toList
 ·have d:Hr s=(((En 0 s.data.toList:Nat):Int),true):=by
   unfold Hr
   conv=>lhs;rw[<-c.2]
   rw[Bgo (by rw[c.2];exact c.1)]
  rw[d];simp only[B5o,cond_false,B5i];rw[decide_eq_false (λq=>c.1 (by rw[q])),Ag,Aa6,B5i,B5i,c.2,Td,decide_eq_true rfl,B5o,Ag];unfold Cd;rw[if_pos c]
 ·unfold Cd;rw[if_neg c];cases i:(Hr s).2 with
  |false=>rfl
  |true=>
   rw[B5o,Ag,B5i];by_cases e:s=⟨#[]⟩
   ·rw[decide_eq_true e];rfl
   ·rw[decide_eq_false e,Ag,Aa6,B5i,B5i];have f:¬Ar (B7 (Hr s).1)=s:=λq=>by have b:=Mz.1 q;have a:s.data.toList≠[]:=λz=>e ((Td s).symm.trans (by rw[z];rfl));have g:=Ul (n:=(Hr s).1) (by rw[b];exact a);refine c ⟨a,?_⟩;rw[<-b,g.2.2.2.1,show(((Hr s).1.toNat:Nat):Int)=(Hr s).1 by omega]
    rw[decide_eq_false f];rfl
theorem Ai2 s:Oy s=some (Cd s.data.toList):=by
 have k:s.data.toList.length=s.size:=rfl;unfold Oy;by_cases t:s.size=0
 ·have e:s.data.toList=[]:=B53 (by omega);rw[Ad (by omega),B5i,A9,e];rfl
 rw[Ab (by omega),B5i];by_cases u:10<s.size
 ·have:¬(s.data.toList≠[]/\B7 (En 0 s.data.toList)=s.data.toList):=λq=>by have:=congrArg Cbq q.2;have:=Ij (En 0 s.data.toList);omega
  unfold Cd;rw[decide_eq_true (by omega),A9,if_neg this]
 rw[decide_eq_false (by omega),Ag]
 obtain⟨y,h,b⟩:=Ri (f:=Axs s) (λz=>(0<=z.2/\z.2<=s.size/\0<=z.1/\z.1.toNat<10^z.2.toNat)/\W1 (s.data.toList.take z.2.toNat)/\En z.1.toNat (s.data.toList.drop z.2.toNat)=En 0 s.data.toList) (λz=>(s.size-z.2).toNat)
  (λy=>(∃i:Int,y=.inl (((En 0 s.data.toList:Nat):Int),i))\/(y=.inr (0,false)/\¬W1 s.data.toList)) (λz ⟨⟨h,b,A,m⟩,o,g⟩=>by
  unfold Axs Bbe;by_cases c:z.2<(s.size:Int)
  ·have p:((10:Nat)^z.2.toNat:Nat)<=10^10:=Nat.pow_le_pow_right (by omega) (by omega);have B:=(Bz s z.2.toNat).toNat_lt;have hx:s.data.toList.drop z.2.toNat=(Bz s z.2.toNat)::s.data.toList.drop (z.2.toNat+1):=by rw[Ai8,B5p (by omega)];exact B78 _
   have r:z.1.toNat<10000000000:=B6w m p;rw[Ad c,Aa ⟨h,c⟩,Ao (by omega) (by omega)];by_cases d:(Bz s z.2.toNat).toNat<48\/57<(Bz s z.2.toNat).toNat
   ·refine .inr ⟨.inr (0,false),?_,.inr ⟨rfl,λq=>?_⟩⟩
    ·by_cases w:(Bz s z.2.toNat).toNat<48
     ·rw[Ad (by omega),B5i,A9]
     ·rw[Ab (by omega),B5i,Ad (by omega)]
    ·have:=q (Bz s z.2.toNat) (B6z (i:=z.2.toNat) (by rw[hx];exact B5n ..));omega
   ·rw[Ab (by omega),B5i,Ab (by omega),Ao (by omega) (by omega),Ao (by omega) (by omega),Ao (by omega) (by omega)];refine .inl ⟨_,rfl,⟨⟨by simp only;omega,by simp only;omega,by simp only;omega,?_⟩,?_,?_⟩,by simp only;omega⟩
    ·simp only;rw[show(z.2+1).toNat=z.2.toNat+1 by omega,Nat.pow_succ];omega
    ·simp only;rw[show(z.2+1).toNat=z.2.toNat+1 by omega,B85];intro x a;rcases B6g.1 a with a|a
     ·exact o x a
     ·have:x=Bz s z.2.toNat:=by
       rw[Ai8];cases l:s.data.toList[z.2.toNat]? with
       |none=>rw[l]at a;simp at a
       |some v=>rw[l]at a;simpa using a
      rw[this];omega
    ·simp only;rw[hx,Abn]at g;rw[show(z.2+1).toNat=z.2.toNat+1 by omega,<-g];congr 1;omega
  ·rw[Ab c];refine .inr ⟨_,rfl,.inl ⟨z.2,?_⟩⟩;rw[show z.2.toNat=s.data.toList.length by omega,B72,Ah0]at g;rw[<-g,show((z.1.toNat:Nat):Int)=z.1 by omega]) (0,0) ⟨⟨by simp,by simp,by simp,by simp⟩,by intro x hx;simp at hx,rfl⟩
 rw[h,B5i];rcases b with⟨i,rfl⟩|⟨rfl,b⟩
 ·simp only[B7u];rw[Ai0,B5i];have j:s.data.toList≠[]:=λq=>by rw[q]at k;simp at k;omega
  unfold Cd;by_cases e:B7 (En 0 s.data.toList)=s.data.toList
  ·rw[decide_eq_true (Mz.2 e),B5o,Ag,if_pos ⟨j,e⟩]
  ·rw[decide_eq_false (λq=>e (Mz.1 q)),B6u,A9,if_neg (λq=>e q.2)]
 ·simp only[Ca8];unfold Cd;rw[if_neg (λq=>b (by have:=(Ul (n:=((En 0 s.data.toList:Nat):Int)) (by rw[q.2];exact q.1)).2.2.2.2;rwa [q.2]at this))]
def Fh:List (List UInt8)->Option (List Int)
 |[]=>some []
 |w::r=>if(Cd w).2=true then(Fh r).map ((Cd w).1:: ·)else none
theorem Ash:∀ {ws:List (List UInt8)} {l:List Int},Fh ws=some l->ws=l.map B7/\(∀w∈ws,w≠[])/\∀n∈l,0<=n/\n<=1000000000
 |[],l,h=>by cases h;simp
 |w::r,l,h=>by
  rw[Fh]at h;split at h
  ·rename_i c;obtain⟨m,b,rfl⟩:=B5s.1 h;obtain⟨g1,g2,g3⟩:=Ash b;obtain⟨d,e,f⟩:=A86 c;refine⟨by rw[B6r,<-d,<-g1],λx hx=>?_,λn a=>?_⟩
   ·rcases B5t.1 hx with rfl|hx
    ·exact e
    ·exact g2 x hx
   ·rcases B5t.1 a with rfl|a
    ·exact f
    ·exact g3 n a
  ·cases h
theorem Asg:∀ {l:List Int},(∀n∈l,0<=n/\n<=1000000000)->Fh (l.map B7)=some l
 |[],_=>rfl
 |n::l,h=>by rw[B6r,Fh,Sn (h n (B5n ..)),if_pos rfl,Asg (λx hx=>h x (B5j _ hx))];rfl
theorem A76 b:∀l,(Ah b l).length<=l.length+1
 |[]=>by simp[Ah]
 |x::l=>by
  have a:=A76 b l;rw[Ah];split
  ·simp only[B5q];omega
  ·rw[Atn]at a;simp only[B5q]at a⊢;omega
theorem Aqh b:∀l,B7w (Ah b l) [b]=l
 |[]=>rfl
 |x::l=>by
  have a:=Aqh b l;rw[Ah];rw[Atn,B7f]at a;split
  ·rename_i h;rw[B7f,Atn,h];simp only[B8m,B6r,B9w,B62,B6a]at a⊢;rw[a]
  ·rw[B7f,B6a,a]
theorem A75{b}:∀ {ws:List (List UInt8)},ws≠[]->(∀w∈ws,w≠[])->2*ws.length<=(B7w ws [b]).length+1
 |[],h,_=>absurd rfl h
 |[w],_,h=>by have:=B8s.2 (h w (B5n ..));rw[B7f];simp only[B5m,B5q,B5y];omega
 |w::v::r,_,h=>by
  have a:=A75 (b:=b) (ws:=v::r) (by simp) (λx hx=>h x (B5j _ hx));have:=B8s.2 (h w (B5n ..));have e:B7w (w::v::r) [b]=w++b::B7w (v::r) [b]:=by rw[B7f,B7f];simp[B8m]
  rw[e];simp only[B5m,B5q]at a⊢;omega
theorem Afm b s:(Cr b s).map (·.data.toList)=Ah b s.data.toList:=by unfold Cr;rw[B9u];exact(B8t λx _=>Ec x).trans (Cbp _)
theorem Afk b s:(Cr b s).length<=s.size+1:=by unfold Cr;rw[B6x];exact A76 b _
theorem Bqq{ws b}:∀ {w:List UInt8},w∈ws->w.length<=(B7w ws [b]).length:=by
 induction ws with
 |nil=>intro w h;cases h
 |cons v r a=>
  intro w h;cases r with
  |nil=>rw[B57.1 h,B7f];simp
  |cons u r=>
   have e:B7w (v::u::r) [b]=v++b::B7w (u::r) [b]:=by rw[B7f,B7f];simp[B8m]
   rw[e,B5m,B5q];rcases B5t.1 h with rfl|h
   ·omega
   ·have:=a h;omega
theorem Afo{b s x} (h:x∈Cr b s):x.size<=s.size/\b∉x.data.toList:=by obtain⟨w,a,rfl⟩:=B75.1 h;have:=Bqq (b:=b) a;rw[Aqh]at this;rw[B4,Ec];exact⟨this,Ys a⟩
def rdR (o:Option (List Int)):List Int×Bool:=match o with|some l=>(l,true)|none=>([],false)
theorem A3a s (h:s.size<=1048576):Adu s=some (rdR (Fh (Ah 46 s.data.toList))):=by
 have d:=Afk 46 s;unfold Adu
 rw[A22 s 46 (by omega),B5i,C6 (F:=Avq (Cr 46 s)) (e:=λz=>(B7k z:Sum (List Int) (List Int×Bool))) (Cr 46 s) (λr k z=>z.length<=k)
  (λr _ z=>match Fh (r.map (·.data.toList))with|some l=>.inl (z++l)|none=>.inr ([],false)) (λz _=>by simp[Fh]) (λx r k z a hx c=>by
  have b:x∈Cr 46 s:=hx▸Bm a;unfold Avq Bam;rw[hx,A24 x (by have:=(Afo b).1;omega),B5i,B6r,Fh];cases f:(Cd x.data.toList).2 with
  |false=>exact .inr rfl
  |true=>rw[B5o,Ag,Aa (by omega),if_pos rfl];refine .inl ⟨_,rfl,by simp;omega,?_⟩;cases Fh (r.map (·.data.toList))<;>simp) [] (by simp),B5i,Afm]
 cases Fh (Ah 46 s.data.toList)<;>simp[rdR]
def Ka (w:List UInt8):List Int×Bool:=if w=[45]then([],true)else match Fh (Ah 46 w)with
 |some l=>if l.all Cc=true then(l,true)else([],false)
 |none=>([],false)
theorem Qu{s}:(s=(⟨#[45]⟩:ByteArray))↔s.data.toList=[45]:=⟨λh=>by rw[h],λh=>by rw[<-Td s,h];rfl⟩
theorem Bpg s (h:s.size<=1048576):Aky s=some (Ka s.data.toList):=by
 unfold Aky Ka;by_cases c:s.data.toList=[45]
 ·rw[Ad (Qu.2 c),if_pos c]
 ·rw[Ab (λq=>c (Qu.1 q)),if_neg c,A3a s h,B5i];cases Fh (Ah 46 s.data.toList)with
  |none=>rfl
  |some l=>simp only[rdR,B5o,cond_false];rw[Ag2,B5i,B5i];cases a:l.all Cc<;>rfl
theorem A7p s (h:s.size<=1048576):Zp s=some (Ka s.data.toList):=by
 have i:s.data.toList.length=s.size:=rfl;have m:=Afk 46 s;unfold Zp Ka;by_cases c:s.data.toList=[45]
 ·rw[Ad (Qu.2 c),if_pos c]
 rw[Ab (λq=>c (Qu.1 q)),if_neg c,A7m s 46 (by omega),B5i,C6 (F:=Axt (Cr 46 s)) (e:=λz=>(B7k z:Sum (List Int) (List Int×Bool))) (Cr 46 s) (λr k z=>z.length<=k)
  (λr _ z=>match Fh (r.map (·.data.toList))with|some l=>if l.all Cc=true then .inl (z++l)else .inr ([],false)|none=>.inr ([],false)) (λz _=>by simp[Fh]) (λx r k z n hx j=>by
  unfold Axt Bbh;rw[hx,Ai2 x,B5i,B6r,Fh];cases p:(Cd x.data.toList).2 with
  |false=>exact .inr rfl
  |true=>
   rw[B5o,Ag,A7k,B5i,B5i,if_pos rfl];cases ho:Cc (Cd x.data.toList).1 with
   |false=>refine .inr ?_;cases Fh (r.map (·.data.toList))<;>simp[ho]
   |true=>rw[B5o,Ag,Aa (by omega)];refine .inl ⟨_,rfl,by simp;omega,?_⟩;cases Fh (r.map (·.data.toList))<;>simp[ho]) [] (by simp),B5i,Afm]
 cases e:Fh (Ah 46 s.data.toList)with
 |none=>rfl
 |some l=>
  simp only[B62];obtain⟨g1,g2,g3⟩:=Ash e;cases d:l.all Cc with
  |false=>rfl
  |true=>
   have a:=Aqh 46 s.data.toList;have f:=A75 (b:=46) (Vg 46 s.data.toList) g2;rw[a]at f;have o:l.length=(Ah 46 s.data.toList).length:=by rw[g1,B6x]
   rw[if_pos rfl,if_pos rfl];simp only[B7u];rw[As2 l (by omega),B5i];have g:Hl l=s.data.toList:=by unfold Hl Km;rw[d,if_pos rfl,if_neg (λq=>by rw[q]at g1;exact Vg _ _ g1),<-g1,a]
   rw[decide_eq_true (Mz.2 g)];rfl
theorem Bih{l} (h:W1 l):(46:UInt8)∉l/\(32:UInt8)∉l/\(44:UInt8)∉l:=⟨λq=>by have:=h _ q;simp at this,λq=>by have:=h _ q;simp at this,λq=>by have:=h _ q;simp at this⟩
theorem Ps n:(46:UInt8)∉B7 n/\(32:UInt8)∉B7 n/\(44:UInt8)∉B7 n:=by
 by_cases h:B7 n=[]
 ·rw[h];simp
 ·exact Bih (Ul h).2.2.2.2
theorem Atm{l} (a:l≠[]):Ah 46 (Km l)=l.map B7:=Ajl (by simpa using a) λw b=>by obtain⟨n,_,rfl⟩:=B75.1 b;exact(Ps n).1
theorem A9i{l} (h:l.all Cc=true):Ka (Hl l)=(l,true):=by
 unfold Hl;rw[h,if_pos rfl];by_cases c:l=[]
 ·rw[c];rfl
 ·rw[if_neg c];have a:∀n∈l,0<=n/\n<=1000000000:=λn b=>by have:=B6b.1 h n b;unfold Cc at this;simp only[decide_eq_true_eq]at this;omega
  unfold Ka;rw[if_neg,Atm c,Asg a]
  ·simp only;rw[h,if_pos rfl]
  ·intro q;have:=congrArg (Ah 46) q;rw[Atm c]at this;cases l with
   |nil=>exact c rfl
   |cons n r=>
    have e:B7 n=[45]:=by have:=congrArg (λx=>x.headD []) this;exact this
    have g:=(Ul (n:=n) (by rw[e];simp)).2.2.2.2;rw[e]at g;have:=g 45 (B5n ..);simp at this
def Kv (g:List UInt8->Option DPart):List (List UInt8)->Option (List DPart)
 |[]=>some []
 |w::r=>match g w with
  |none=>none
  |some p=>(Kv g r).map (p:: ·)
theorem Aqu{g}:∀ {o:List DPart},(∀p∈o,g (E4 p)=some p)->Kv g (o.map E4)=some o
 |[],_=>rfl
 |p::o,h=>by rw[B6r,Kv,h p (B5n ..),Aqu (λq a=>h q (B5j _ a))];rfl
theorem A5u {F:Nat->List DPart->Option (Lr (List DPart) (Sum (List DPart) (List DPart×Bool)))} (l:List ByteArray) (g:List UInt8->Option DPart)
  (b:∀x k z,k<l.length->el l k=x->x∈l->z.length<=k->F k z=some (match g x.data.toList with|none=>.out (.inr ([],false))|some p=>.go (z++[p]))):
  Ai F (λz=>(B7k z:Sum (List DPart) (List DPart×Bool))) l.length 0 []=some (match Kv g (l.map (·.data.toList))with|some o=>.inl o|none=>.inr ([],false)):=by
 rw[C6 (F:=F) (e:=λz=>(B7k z:Sum (List DPart) (List DPart×Bool))) l (λr k z=>z.length<=k)
  (λr _ z=>match Kv g (r.map (·.data.toList))with|some o=>.inl (z++o)|none=>.inr ([],false)) (λz _=>by simp[Kv]) (λx r k z a hx c=>by
  rw[b x k z a hx (hx▸Bm a) c,B6r,Kv];cases g x.data.toList with
  |none=>exact .inr rfl
  |some p=>refine .inl ⟨_,rfl,by simp;omega,?_⟩;cases Kv g (r.map (·.data.toList))<;>simp) [] (by simp)]
 simp only[B62]
def L1:List UInt8->Option DPart
 |[]=>none
 |c::r=>match Fh (Ah 46 r)with
  |none=>none
  |some l=>some (if c=107 then⟨1,el l 0,[]⟩else if c=100 then⟨3,el l 0,[]⟩else⟨2,0,l⟩)
def Mj:List UInt8->Option DPart
 |[]=>none
 |c::r=>if r=[]then none else if c=107 then(if(Cd r).2=true then some ⟨1,(Cd r).1,[]⟩else none)else if c=100 then(if(Cd r).2=true then some ⟨3,(Cd r).1,[]⟩else none)
  else if c=112 then(if(Ka r).2=true then some ⟨2,0,(Ka r).1⟩else none)else if(Cd r).2=true then some ⟨0,(Cd r).1,[]⟩else none
theorem okT{p} (h:A4 p=true) (t:La p):(p=⟨1,p.n,[]⟩/\0<=p.n/\p.n<=200)\/(p=⟨2,0,p.signs⟩/\p.signs≠[]/\p.signs.all Cc=true)\/(p=⟨3,p.n,[]⟩/\0<=p.n/\p.n<=200):=by
 have d:=Jw h;have a:p=⟨p.kind,p.n,p.signs⟩:=rfl;rcases t with⟨b,c,e2⟩|⟨b,e2,c,e⟩|⟨b,c,e2⟩
 ·exact .inl ⟨a.trans (by rw[b,e2]),d.2⟩
 ·exact .inr (.inl ⟨a.trans (by rw[b,e2]),c,e⟩)
 ·exact .inr (.inr ⟨a.trans (by rw[b,e2]),d.2⟩)
theorem Bx3 {l:List Int} (h:l.all Cc=true):∀n∈l,0<=n/\n<=1000000000:=λn a=>by have:=B6b.1 h n a;unfold Cc at this;simp only[decide_eq_true_eq]at this;omega
theorem Bqg{p} (h:A4 p=true) (t:La p):L1 (E4 p)=some p:=by
 rcases okT h t with⟨e,a⟩|⟨e,a,b⟩|⟨e,a⟩<;>rw[e]
 ·show L1 (107::B7 p.n)=_;rw[L1,Acm (Ps _).1,Fh,Sn (by omega)];rfl
 ·show L1 (112::Km p.signs)=_;rw[L1,Atm a,Asg (Bx3 b)];rfl
 ·show L1 (100::B7 p.n)=_;rw[L1,Acm (Ps _).1,Fh,Sn (by omega)];rfl
theorem Byf{p} (h:A4 p=true) (t:La p):Mj (E4 p)=some p:=by
 rcases okT h t with⟨e,b⟩|⟨e,b,c⟩|⟨e,b⟩<;>rw[e]
 ·show Mj (107::B7 p.n)=_;rw[Mj,if_neg (Aq2 (by omega)),Sn (by omega)];rfl
 ·show Mj (112::Km p.signs)=_;have a:=A9i c;unfold Hl at a;rw[c,if_pos rfl,if_neg b]at a;have d:Km p.signs≠[]:=λq=>by rw[q]at a;have:Ka []=([],false):=rfl;rw[this]at a;have:=congrArg Prod.snd a;cases this
  rw[Mj,if_neg d,a];rfl
 ·show Mj (100::B7 p.n)=_;rw[Mj,if_neg (Aq2 (by omega)),Sn (by omega)];rfl
theorem Aqg{b c}:∀ {ws:List (List UInt8)},c∈B7w ws [b]->c=b\/∃w∈ws,c∈w
 |[],h=>by cases h
 |[w],h=>by rw[B7f]at h;simp only[B8m,List.map_nil,Ca0,B6o]at h;exact .inr ⟨w,B5n ..,h⟩
 |w::v::r,h=>by
  have e:B7w (w::v::r) [b]=w++b::B7w (v::r) [b]:=by rw[B7f,B7f];simp[B8m]
  rw[e,B6g,B5t]at h;rcases h with h|h|h
  ·exact .inr ⟨w,B5n ..,h⟩
  ·exact .inl h
  ·rcases Aqg h with h|⟨x,hx,h⟩
   ·exact .inl h
   ·exact .inr ⟨x,B5j _ hx,h⟩
theorem Azw l:(32:UInt8)∉Km l/\(44:UInt8)∉Km l:=by
 constructor<;>intro q<;>(rcases Aqg q with q|⟨w,a,q⟩;cases q;obtain⟨n,_,rfl⟩:=B75.1 a)
 ·exact(Ps n).2.1 q
 ·exact(Ps n).2.2 q
theorem A5s p:(32:UInt8)∉E4 p/\(44:UInt8)∉E4 p:=by
 have a:=Ps p.n;have b:=Azw p.signs;unfold E4;split
 ·simp[a]
 ·split<;>simp[a,b]
theorem Bso{o} (h:Az o=true) (n:o=A7 o) (a:o≠[]):Cg o=B7w (o.map E4) [32]:=by unfold Cg;rw[if_pos h,<-n,if_neg a]
theorem A5b{o} (h:Az o=true) (n:o=A7 o) (a:o≠[]):Ah 32 (Cg o)=o.map E4:=by rw[Bso h n a];exact Ajl (by simpa using a) λw b=>by obtain⟨p,_,rfl⟩:=B75.1 b;exact(A5s p).1
theorem Ah5{o} (h:Az o=true) (n:o=A7 o):∀p∈o,A4 p=true/\La p:=λp a=>
 ⟨Gj (Eg h) a,(Aq1 h).2 p (n▸a)|>.2⟩
theorem A5a{o} (h:Az o=true) (n:o=A7 o) (e:Cg o=[45]):o=[]:=by
 cases o with
 |nil=>rfl
 |cons p r=>
  have w:=A5b h n (by simp);rw[e]at w;have:E4 p=[45]:=by have:=congrArg (λx=>x.headD []) w;exact this.symm
  unfold E4 at this;split at this
  ·cases this
  ·split at this<;>cases this
theorem N1:Az []=true/\([]:List DPart)=A7 []/\Cg []=[45]:=by refine⟨by decide,by decide,by decide⟩
open Classical in
def Gq (L:List UInt8):List DPart×Bool:=if h:∃o,Az o=true/\o=A7 o/\Cg o=L then(Classical.choose h,true)else([],false)
theorem X3{o} (h:Az o=true) (n:o=A7 o) (c:Cg o≠[45]):Kv L1 (Ah 32 (Cg o))=some o/\Kv Mj (Ah 32 (Cg o))=some o:=by have b:o≠[]:=λq=>c (by rw[q];exact N1.2.2);rw[A5b h n b];exact⟨Aqu λp a=>Bqg (Ah5 h n p a).1 (Ah5 h n p a).2,Aqu λp a=>Byf (Ah5 h n p a).1 (Ah5 h n p a).2⟩
theorem Bsq{o d} (h:Az o=true) (n:o=A7 o) (f:Az d=true) (n':d=A7 d) (e:Cg o=Cg d):o=d:=by
 by_cases c:Cg o=[45]
 ·rw[A5a h n c,A5a f n' (e▸c)]
 ·have a:=(X3 h n c).1;have b:=(X3 f n' (e▸c)).1;rw[e,b]at a;exact(B65.inj a).symm
theorem Yz{o L} (h:Az o=true) (n:o=A7 o) (e:Cg o=L):Gq L=(o,true):=by have hx:∃o,Az o=true/\o=A7 o/\Cg o=L:=⟨o,h,n,e⟩;unfold Gq;rw[dif_pos hx];have g:=Classical.choose_spec hx;rw[Bsq g.1 g.2.1 h n (g.2.2.trans e.symm)]
theorem Acv{L} (h:∀o,Az o=true->o=A7 o->Cg o≠L):Gq L=([],false):=by unfold Gq;rw[dif_neg];rintro ⟨o,h1,h2,h3⟩;exact h o h1 h2 h3
theorem B17 L:Gq L=([],false)\/((Gq L).2=true/\Az (Gq L).1=true/\(Gq L).1=A7 (Gq L).1/\Cg (Gq L).1=L):=by
 by_cases hx:∃o,Az o=true/\o=A7 o/\Cg o=L
 ·obtain⟨o,a,b,c⟩:=hx;rw[Yz a b c];exact .inr ⟨rfl,a,b,c⟩
 ·exact .inl (Acv λo a b c=>hx ⟨o,a,b,c⟩)
theorem Bsp{o} (h:Az o=true):Cg (A7 o)=Cg o:=by unfold Cg;rw[if_pos h,if_pos (X1 h),Ahz (Uq h)]
theorem Aaw{s c r} (h:s.data.toList=c::r):s.extract 1 s.size=Ar r/\Bz s 0=c:=by
 have a:s.size=r.length+1:=by rw[show s.size=s.data.toList.length from rfl,h];rfl
 rw[Ao3,Ai8,h,a];simp
theorem Ayy{s}:(s=(⟨#[]⟩:ByteArray))↔s.data.toList=[]:=⟨λh=>by rw[h],λh=>by rw[<-Td s,h];rfl⟩
theorem Bpf s (h:s.size<=1048576):Akx s=some (Gq s.data.toList):=by
 unfold Akx;by_cases c:s.data.toList=[45]
 ·rw[Ad (Qu.2 c),c,Yz N1.1 N1.2.1 N1.2.2]
 have v:=Afk 32 s
 rw[Ab (λq=>c (Qu.1 q)),App s (by omega),B5i,A5u (Cr 32 s) L1 (λx k z w hx p B=>by
  have A:=(Afo p).1;unfold Bac Bab;rw[hx];cases b:x.data.toList with
  |nil=>rw[Ad (Ayy.2 b)];rfl
  |cons c r=>
   obtain⟨n,e2⟩:=Aaw b;have u:x.size=r.length+1:=by rw[show x.size=x.data.toList.length from rfl,b];rfl
   rw[Ab (λq=>by rw[Ayy.1 q]at b;cases b),Aa (by omega),n,A3a _ (by rw[B4];omega),Ec,B5i,L1];cases t:Fh (Ah 46 r)with
   |none=>rfl
   |some l=>
    obtain⟨g1,_,_⟩:=Ash t
    have y:0<l.length:=by
     cases l with
     |nil=>exact absurd g1 (Vg 46 r)
     |cons _ _=>simp
    have f:0<=(0:Int)/\(0:Int)<(l.length:Int):=by omega
    show _=some (Lr.go (z++[if c=107 then(⟨1,el l 0,[]⟩:DPart)else if c=100 then⟨3,el l 0,[]⟩else⟨2,0,l⟩]));rw[show rdR (some l)=(l,true)from rfl,B5o,Ag,Aa (by omega),e2];by_cases g:c=107
    ·rw[Ad (by rw[g];rfl),Aa f,Aa (by omega),if_pos g]
    ·rw[Ab (λq=>g (B8k.1 (by rw[show(107:UInt8).toNat=107 from rfl];omega))),if_neg g];by_cases i:c=100
     ·rw[Ad (by rw[i];rfl),Aa f,Aa (by omega),if_pos i]
     ·rw[Ab (λq=>i (B8k.1 (by rw[show(100:UInt8).toNat=100 from rfl];omega))),Aa (by omega),if_neg i]),B5i,Afm]
 cases e:Kv L1 (Ah 32 s.data.toList)with
 |none=>
  rw[Acv λo j m a=>by
   have:=(X3 j m (by rw[a];exact c)).1;rw[a,e]at this;cases this]
  rfl
 |some o=>
  simp only[B7u];rw[Np,B5i];by_cases d:Az o=true/\Cg o=s.data.toList
  ·rw[d.1,B5o,Ag,Aps,B5i,B5i,decide_eq_true (Mz.2 d.2),B5o,Ag,Ag1,d.1,B5i,if_pos rfl,
    Yz (X1 d.1) (Ahz (Uq d.1)).symm ((Bsp d.1).trans d.2)]
  ·rw[Acv λC j m a=>by
    have:=(X3 j m (by rw[a];exact c)).1;rw[a,e]at this;exact d (by rw[B65.inj this];exact⟨j,a⟩)]
   cases ho:Az o with
   |false=>rfl
   |true=>rw[B5o,Ag,Aps,B5i,B5i,decide_eq_false (λq=>d ⟨ho,Mz.1 q⟩)];rfl
theorem Bwx s (h:s.size<=1048576):Amr s=some (Gq s.data.toList):=by
 unfold Amr;by_cases c:s.data.toList=[45]
 ·rw[Ad (Qu.2 c),c,Yz N1.1 N1.2.1 N1.2.2]
 have v:=Afk 32 s
 rw[Ab (λq=>c (Qu.1 q)),Ast s (by omega),B5i,A5u (Cr 32 s) Mj (λx k z w hx t A=>by
  have y:=(Afo t).1;unfold Bbg Bbf;rw[hx];cases m:x.data.toList with
  |nil=>rw[Ad (by rw[show x.size=x.data.toList.length from rfl,m];decide)];rfl
  |cons c r=>
   obtain⟨p,e2⟩:=Aaw m;have n:x.size=r.length+1:=by rw[show x.size=x.data.toList.length from rfl,m];rfl
   rw[Mj];by_cases l:r=[]
   ·rw[Ad (by rw[n,l];decide),if_pos l]
   have u:0<r.length:=B8s.2 l;rw[Ab (by omega),if_neg l,Aa (by omega),p,Ai2,Ec,B5i,Aa (by omega),e2];by_cases b:c=107
   ·rw[Ad (by rw[b];rfl),if_pos b];cases (Cd r).2 with
    |false=>rfl
    |true=>rw[B5o,Ag,Aa (by omega)];rfl
   rw[Ab (λq=>b (B8k.1 (by rw[show(107:UInt8).toNat=107 from rfl];omega))),if_neg b];by_cases f:c=100
   ·rw[Ad (by rw[f];rfl),if_pos f];cases (Cd r).2 with
    |false=>rfl
    |true=>rw[B5o,Ag,Aa (by omega)];rfl
   rw[Ab (λq=>f (B8k.1 (by rw[show(100:UInt8).toNat=100 from rfl];omega))),if_neg f];by_cases g:c=112
   ·rw[Ad (by rw[g];rfl),if_pos g,Aa (by omega),A7p _ (by rw[B4];omega),Ec,B5i];cases (Ka r).2 with
    |false=>rfl
    |true=>rw[B5o,Ag,Aa (by omega)];rfl
   rw[Ab (λq=>g (B8k.1 (by rw[show(112:UInt8).toNat=112 from rfl];omega))),if_neg g];cases (Cd r).2 with
   |false=>rfl
   |true=>rw[B5o,Ag,Aa (by omega)];rfl),B5i,Afm]
 cases e:Kv Mj (Ah 32 s.data.toList)with
 |none=>
  rw[Acv λo i j a=>by
   have:=(X3 i j (by rw[a];exact c)).2;rw[a,e]at this;cases this]
  rfl
 |some o=>
  simp only[B7u];rw[A7d,B5i];by_cases d:Az o=true/\o=A7 o/\Cg o=s.data.toList
  ·rw[d.1,decide_eq_true d.2.1,B7t,B5o,Ag,Asz,B5i,B5i,decide_eq_true (Mz.2 d.2.2),B5o,Ag,Yz d.1 d.2.1 d.2.2]
  ·rw[Acv λB i j a=>by
    have:=(X3 i j (by rw[a];exact c)).2;rw[a,e]at this;exact d (by rw[B65.inj this];exact⟨i,j,a⟩)]
   cases ho:Az o&&decide (o=A7 o)with
   |false=>rfl
   |true=>simp only[B5l,decide_eq_true_eq]at ho;rw[B5o,Ag,Asz,B5i,B5i,decide_eq_false (λq=>d ⟨ho.1,ho.2,Mz.1 q⟩)];rfl
def Bw (w:List UInt8):Int:=if w=Fl 1 then 1 else if w=Fl 2 then 2 else if w=Fl 3 then 3 else if w=Fl 4 then 4 else if w=Fl 5 then 5 else if w=Fl 6 then 6 else if w=Fl 7 then 7 else if w=Fl 8 then 8 else 0
theorem Aqk w:0<=Bw w/\Bw w<=8:=by unfold Bw;(repeat' split)<;>omega
theorem Bqs{k} (h:1<=k/\k<=8):Bw (Fl k)=k:=by rcases Nu h with h|h|h|h|h|h|h|h<;>subst h<;>rfl
theorem A3x{k} (h:1<=k/\k<=8){w}:Fl k=w↔Bw w=k:=by
 constructor
 ·rintro rfl;exact Bqs h
 ·intro e;unfold Bw at e
  repeat' split at e
  all_goals first|(rename_i q;rw[q,<-e])|omega
theorem A3y {F:Int×Int×ByteArray×Int×Int×Int->Option (Lr (Int×Int×ByteArray×Int×Int×Int) (Int×Int×ByteArray×Int×Int×Int))} w
  (d:∀z,1<=z.1->z.1<=8->F z=some (.go (z.1+1,if Fl z.1=w then z.1 else z.2.1,z.2.2))) (g:∀z,¬z.1<=8->F z=some (.out z)):
  Bc F (1,0,B52,0,0,0)=some (9,Bw w,B52,0,0,0):=by
 have h:=Aqk w;refine(Rj (f:=F) (λz=>(1<=z.1/\z.1<=9)/\z.2=(if Bw w<z.1 then Bw w else 0,B52,0,0,0)) (λz=>(9-z.1).toNat) (λ_=>(9,Bw w,B52,0,0,0)) (λz ⟨a,b⟩=>?_) (1,0,B52,0,0,0) ⟨by simp,?_⟩)
 ·by_cases c:z.1<=8
  ·refine .inl ⟨_,d z a.1 c,⟨⟨by simp only;omega,by simp only;omega⟩,?_⟩,by simp only;omega,rfl⟩;rw[b];simp only;by_cases e:Fl z.1=w
   ·have:=(A3x ⟨a.1,c⟩).1 e;rw[if_pos e,if_pos (by omega),this]
   ·have:Bw w≠z.1:=λq=>e ((A3x ⟨a.1,c⟩).2 q);rw[if_neg e];congr 1;by_cases l:Bw w<z.1
    ·rw[if_pos l,if_pos (by omega)]
    ·rw[if_neg l,if_neg (by omega)]
  ·refine .inr ((g z c).trans ?_);have e:z=(z.1,z.2):=rfl;rw[e,b,show z.1=9 by omega,if_pos (by omega)]
 ·simp only;split
  ·rw[show Bw w=0 by omega]
  ·rfl
def J3 (w:List UInt8):List UInt8:=w.map λx=>if x=44 then 32 else x
def Hz (ws:List (List UInt8)) (k:Nat):Int:=if ws.length<=k then-1 else if(Cd (el ws k)).2=true then(Cd (el ws k)).1 else-1
def Hb (ws:List (List UInt8)):DCall:=
 if Bw (el ws 0)=1 then⟨1,if 1<ws.length then Ar (el ws 1)else B52,0,0,0,[],if ws.length=3 then(Ka (el ws 2)).1 else []⟩
 else if Bw (el ws 0)=2 then⟨2,if 1<ws.length then Ar (el ws 1)else B52,Hz ws 2,Hz ws 3,Hz ws 4,if ws.length=6 then(Gq (J3 (el ws 5))).1 else [],[]⟩
 else if Bw (el ws 0)=3 then⟨3,if 1<ws.length then Ar (el ws 1)else B52,0,0,Hz ws 2,[],[]⟩
 else if Bw (el ws 0)=4 then⟨4,if 1<ws.length then Ar (el ws 1)else B52,0,0,0,[],[]⟩
 else if Bw (el ws 0)=5 then⟨5,if 1<ws.length then Ar (el ws 1)else B52,0,0,Hz ws 2,[],[]⟩
 else if Bw (el ws 0)=6 then⟨6,B52,Hz ws 1,0,Hz ws 2,[],[]⟩
 else if Bw (el ws 0)=7 then⟨7,B52,Hz ws 1,0,0,[],[]⟩
 else⟨Bw (el ws 0),B52,0,0,0,[],[]⟩
def Mi (ws:List (List UInt8)):DCall:=
 if Bw (el ws 0)=1 then⟨1,Ar (el ws 1),0,0,0,[],(Ka (el ws 2)).1⟩
 else if Bw (el ws 0)=2 then⟨2,Ar (el ws 1),(Cd (el ws 2)).1,(Cd (el ws 3)).1,(Cd (el ws 4)).1,(Gq (J3 (el ws 5))).1,[]⟩
 else if Bw (el ws 0)=3 then⟨3,Ar (el ws 1),0,0,(Cd (el ws 2)).1,[],[]⟩
 else if Bw (el ws 0)=4 then⟨4,Ar (el ws 1),0,0,0,[],[]⟩
 else if Bw (el ws 0)=5 then⟨5,Ar (el ws 1),0,0,(Cd (el ws 2)).1,[],[]⟩
 else if Bw (el ws 0)=6 then⟨6,B52,(Cd (el ws 1)).1,0,(Cd (el ws 2)).1,[],[]⟩
 else if Bw (el ws 0)=7 then⟨7,B52,(Cd (el ws 1)).1,0,0,[],[]⟩
 else⟨Bw (el ws 0),B52,0,0,0,[],[]⟩
def c00:DCall:=⟨0,B52,0,0,0,[],[]⟩
def Nl (c:DCall) (L:List UInt8):DCall×Bool:=if Fe c≠[]/\Fe c=L then(c,true)else(c00,false)
theorem Nq s C:(B5h (Li C) λr=>B5h (bif decide (r=(⟨#[]⟩:ByteArray))then(some true)else(some (!decide (r=s)))) λc=>bif c then(some ((⟨0,B52,0,0,0,[],[]⟩:DCall),false))else(some (C,true)))=some (Nl C s.data.toList):=by
 rw[A2u,B5i];unfold Nl;by_cases h:Fe C=[]
 ·rw[Ad ((Ae7 _).2 h),B5i,A9,if_neg (λq=>q.1 h)];rfl
 ·rw[Ab (λq=>h ((Ae7 _).1 q)),B5i];by_cases e:Fe C=s.data.toList
  ·rw[decide_eq_true (Mz.2 e),B5o,Ag,if_pos ⟨h,e⟩]
  ·rw[decide_eq_false (λq=>e (Mz.1 q)),B6u,A9,if_neg (λq=>e q.2)];rfl
theorem Bw5 s C:(B5h (Wc C) λb=>B5h (bif decide (b=(⟨#[]⟩:ByteArray))then(some true)else(B5h (Wc C) λc=>some (!decide (c=s)))) λa=>bif a then(some ((⟨0,B52,0,0,0,[],[]⟩:DCall),false))else(some (C,true)))=some (Nl C s.data.toList):=by rw[<-Nq s C,Bv0,A2u];rfl
theorem elm{T U} [Inhabited T] [Inhabited U] {f:T->U}{l i} (h:i<l.length):el (l.map f) i=f (el l i):=by rw[Gb (by simpa using h),Gb h,List.getElem_map]
theorem M3 b s:(Cr b s).length=(Ah b s.data.toList).length:=by unfold Cr;rw[B6x]
theorem M2{b s i} (h:i<(Ah b s.data.toList).length):el (Cr b s) i=Ar (el (Ah b s.data.toList) i)/\(el (Ah b s.data.toList) i).length<=s.size:=by have e:el (Cr b s) i=Ar (el (Ah b s.data.toList) i):=elm h;have:=(Afo (Bm (l:=Cr b s) (i:=i) (by rw[M3];exact h))).1;rw[e,B4]at this;exact⟨e,this⟩
theorem Aa9{s} (d:s.size<=1048576) (k:Nat):Hq (Cr 32 s) (k:Int)=some (Hz (Ah 32 s.data.toList) k):=by
 unfold Hq Hz;rw[M3];by_cases c:(Ah 32 s.data.toList).length<=k
 ·rw[Ad (by omega),if_pos c]
 ·obtain⟨e,a⟩:=M2 (b:=32) (s:=s) (i:=k) (by omega);rw[Ab (by omega),if_neg c,Aa ⟨by omega,by omega⟩,B58,e,A24 _ (by rw[B4];omega),Ec,B5i];cases (Cd (el (Ah 32 s.data.toList) k)).2<;>rfl
theorem Bp5{x} (h:x.size<=1048576):∃b,Alb x=some ((Gq (J3 x.data.toList)).1,b):=by
 have d:=Cbk (Ar [44]) (B6i 1) x.size x (B6i _);unfold Alb Vv rpl;have a:B9t x.data.toList [44] [32]=J3 x.data.toList:=by unfold B9t Lib.replace Lib.replaceNum;rw[if_neg (by decide),if_pos (Or.inl (by decide)),Ask];rfl
 rw[show(⟨#[44]⟩:ByteArray)=Ar [44]from rfl,show(⟨#[32]⟩:ByteArray)=Ar [32]from rfl,Aa ⟨by omega,B6i 1,by rw[show(Ar [32]).size=1 from rfl];omega⟩,Ec,Ec,a,B5i];have c:(Ar (J3 x.data.toList)).size<=1048576:=by rw[B4];unfold J3;rw[B6x];exact h
 rw[show(⟨(J3 x.data.toList).toArray⟩:ByteArray)=Ar (J3 x.data.toList)from rfl,Bpf _ c,Ec,B5i];exact⟨_,rfl⟩
def swp (x:UInt8):UInt8:=if x=44 then 32 else if x=32 then 44 else x
theorem Bxo{x} (h:x.size<=1048576) (hx:(32:UInt8)∉x.data.toList):Ae2 x=some (Gq (J3 x.data.toList)).1:=by
 have m:x.data.toList.length=x.size:=rfl;unfold Ae2;rw[Aa (by omega)];generalize v:x.data.toList=l at hx m⊢
 have o:J3 l=l.map swp:=B8t λy t=>by
  unfold swp;split
  ·rfl
  ·rw[if_neg (λq:y=32=>hx (q▸t))]
 have h:=C6 (e:=λs=>s) (F:=Ayg) l (λr k s=>s=(l.take k).map swp++r/\l.drop k=r) (λ_ _ _=>l.map swp)
  (λs ⟨h,_⟩=>by rw[h,B6m,B6o])
  (λx r k s j hx ⟨d,n⟩=>by
   have a:((l.take k).map swp).length=k:=by rw[B6x,B5x];omega
   have g:el s k=x:=by rw[d];have:=Lv ((l.take k).map swp) x r;rw[a]at this;exact this
   have p:k<s.length:=by rw[d,B5m,a,B5q];omega
   have i:(l.take (k+1)).map swp=(l.take k).map swp++[swp x]:=by rw[B85,B9r,B5p j,<-Gb j,hx];rfl
   have f:l.drop (k+1)=r:=by rw[<-B7o,n];rfl
   refine .inl ⟨(l.take (k+1)).map swp++r,?_,⟨rfl,f⟩,rfl⟩;unfold Ayg Bbz;rw[g,i];by_cases c:x=44
   ·rw[c,Ad (by decide),Aa ⟨by omega,by omega⟩,d,B7y _ _ (by omega),a,Cah,B7r,B5r];rfl
   ·rw[Ab (λe=>c (B8k.1 (by show x.toNat=44;omega)))];by_cases b:x=32
    ·rw[b,Ad (by decide),Aa ⟨by omega,by omega⟩,d,B7y _ _ (by omega),a,Cah,B7r,B5r];rfl
    ·rw[Ab (λe=>b (B8k.1 (by show x.toNat=32;omega))),d,B5r];unfold swp;rw[if_neg c,if_neg b];rfl)
  l ⟨by simp,rfl⟩
 have u:(Ar (l.map swp)).size<=1048576:=by rw[B4,B6x];omega
 rw[h,B5i,show(⟨(l.map swp).toArray⟩:ByteArray)=Ar (l.map swp)from rfl,Bwx _ u,Ec,<-o];rfl
theorem Bpe s (h:s.size<=1048576):Adk s=some (Nl (Hb (Ah 32 s.data.toList)) s.data.toList):=by
 have y:0<(Ah 32 s.data.toList).length:=B8s.2 (Vg _ _);obtain⟨w,_⟩:=M2 (b:=32) (s:=s) y;unfold Adk
 rw[App s (by omega),B5i,A3y (F:=Akw (Cr 32 s)) (el (Ah 32 s.data.toList) 0) (λz H A=>by
  unfold Akw Avc;rw[Ad A,A2v,B5i,Aa ⟨by omega,by rw[M3];omega⟩,w];by_cases c:Fl z.1=el (Ah 32 s.data.toList) 0
  ·rw[Ad (by rw[c]),Ao (by omega) (by omega),if_pos c]
  ·rw[Ab (λq=>c (Ae6 q)),Ao (by omega) (by omega),if_neg c]) (λz h=>by
  unfold Akw Avc;rw[Ab h]),B5i,Xm,B5i]
 simp only
 have f:(B5h (bif decide (1<=Bw (el (Ah 32 s.data.toList) 0)/\Bw (el (Ah 32 s.data.toList) 0)<=5)then(some (decide ((1:Int)<((Cr 32 s).length:Int))))else(some false)) λm=>(bif m then(xg (0<=(1:Int)/\(1:Int)<((Cr 32 s).length:Int))<|some (Bw (el (Ah 32 s.data.toList) 0),el (Cr 32 s) 1,(0:Int),(0:Int),(0:Int)))else(some (Bw (el (Ah 32 s.data.toList) 0),B52,(0:Int),(0:Int),(0:Int)))))
   =some (Bw (el (Ah 32 s.data.toList) 0),if 1<=Bw (el (Ah 32 s.data.toList) 0)/\Bw (el (Ah 32 s.data.toList) 0)<=5 then(if 1<(Ah 32 s.data.toList).length then Ar (el (Ah 32 s.data.toList) 1)else B52)else B52,0,0,0):=by
  by_cases c:1<=Bw (el (Ah 32 s.data.toList) 0)/\Bw (el (Ah 32 s.data.toList) 0)<=5
  ·rw[Ad c,B5i,if_pos c,M3];by_cases d:1<(Ah 32 s.data.toList).length
   ·rw[Ad (by omega),Aa ⟨by omega,by omega⟩,(M2 d).1,if_pos d]
   ·rw[Ab (by omega),if_neg d]
  ·rw[Ab c,B5i,Ag,if_neg c]
 obtain⟨a,t,u⟩:=B7i.1 f;rw[t,B5i,u,B5i];simp only;clear f t u a;have I:=Aqk (el (Ah 32 s.data.toList) 0);have v:Hq (Cr 32 s) 1=_:=Aa9 h 1;have p:Hq (Cr 32 s) 2=_:=Aa9 h 2;have D:Hq (Cr 32 s) 3=_:=Aa9 h 3;have G:Hq (Cr 32 s) 4=_:=Aa9 h 4;unfold Hb;by_cases n:Bw (el (Ah 32 s.data.toList) 0)=1
 ·rw[Ad n,if_pos (by omega),if_pos n,n,M3];by_cases l:(Ah 32 s.data.toList).length=3
  ·obtain⟨e,B⟩:=M2 (b:=32) (s:=s) (i:=2) (by omega);rw[Ad (by omega),Aa ⟨by omega,by omega⟩,e,Bpg _ (by rw[B4];omega),Ec,B5i,Nq,if_pos l]
  ·rw[Ab (by omega),Nq,if_neg l]
 rw[Ab n,if_neg n];by_cases k2:Bw (el (Ah 32 s.data.toList) 0)=2
 ·rw[Ad k2,if_pos (by omega),if_pos k2,k2,p,B5i,D,B5i,G,B5i,M3];by_cases l:(Ah 32 s.data.toList).length=6
  ·obtain⟨e,B⟩:=M2 (b:=32) (s:=s) (i:=5) (by omega);obtain⟨b,C⟩:=Bp5 (x:=Ar (el (Ah 32 s.data.toList) 5)) (by rw[B4];omega);rw[Ad (by omega),Aa ⟨by omega,by omega⟩,e,C,B5i,Nq,if_pos l,Ec]
  ·rw[Ab (by omega),Nq,if_neg l]
 rw[Ab k2,if_neg k2];by_cases j:Bw (el (Ah 32 s.data.toList) 0)=3
 ·rw[Ad j,B5i,Ad j,if_pos (by omega),if_pos j,j,p,B5i,Nq]
 rw[Ab j,B5i,if_neg j];by_cases g:Bw (el (Ah 32 s.data.toList) 0)=5
 ·rw[Ad g,if_pos (by omega),if_neg (show¬Bw (el (Ah 32 s.data.toList) 0)=4 by omega),if_pos g,g,p,B5i,Nq]
 rw[Ab g];by_cases k:Bw (el (Ah 32 s.data.toList) 0)=6
 ·rw[Ad k,if_neg (by omega),if_neg (show¬Bw (el (Ah 32 s.data.toList) 0)=4 by omega),if_neg g,if_pos k,k,v,B5i,p,B5i,Nq]
 rw[Ab k];by_cases o:Bw (el (Ah 32 s.data.toList) 0)=7
 ·rw[Ad o,if_neg (by omega),if_neg (show¬Bw (el (Ah 32 s.data.toList) 0)=4 by omega),if_neg g,if_neg k,if_pos o,o,v,B5i,Nq]
 rw[Ab o,Nq];by_cases r:Bw (el (Ah 32 s.data.toList) 0)=4
 ·rw[if_pos (by omega),if_pos r,r]
 ·rw[if_neg (by omega),if_neg r,if_neg g,if_neg k,if_neg o]
theorem Bxh l:Lo l=some (l.headD (Ar []),l.tail):=by
 unfold Lo;cases l with
 |nil=>rfl
 |cons a r=>rw[decide_eq_false (by simp only[B5q];omega),Ag,Aa ⟨by omega,by simp only[B5q];omega⟩,Aa ⟨by omega,by simp only[B5q];omega⟩,B6m];rfl
theorem Bw7 k:Zv k=some (decide (k=2\/k=6\/k=7),decide (k=2),decide (k=2\/k=3\/k=5\/k=6)):=by
 unfold Zv;by_cases a:k=2
 ·subst a;rfl
 by_cases b:k=3
 ·subst b;rfl
 by_cases c:k=5
 ·subst c;rfl
 by_cases d:k=6
 ·subst d;rfl
 by_cases e:k=7
 ·subst e;rfl
 simp[a,b,c,d,e]
theorem A2o{l n ws} (h:l=(ws.drop n).map Ar):l.headD (Ar [])=Ar (el ws n)/\l.tail=(ws.drop (n+1)).map Ar:=by
 subst h;constructor
 ·by_cases c:n<ws.length
  ·rw[W3 c];rfl
  ·rw[B8n (by omega)];unfold el;rw[B6n,B7z (by omega)];rfl
 ·rw[<-List.map_tail,List.tail_drop]
theorem Bww s (h:s.size<=1048576):Aem s=some (Nl (Mi (Ah 32 s.data.toList)) s.data.toList):=by
 have p:0<(Ah 32 s.data.toList).length:=B8s.2 (Vg _ _)
 have el_sz:∀i,(el (Ah 32 s.data.toList) i).length<=s.size/\(32:UInt8)∉el (Ah 32 s.data.toList) i:=λi=>by
  by_cases c:i<(Ah 32 s.data.toList).length
  ·exact⟨(M2 c).2,Ys (Bm c)⟩
  ·have:el (Ah 32 s.data.toList) i=[]:=by unfold el;rw[B6n,B7z (by omega)];rfl
   rw[this];exact⟨B6c _,by simp⟩
 have b:=A2o (l:=Cr 32 s) (n:=0) (ws:=Ah 32 s.data.toList) rfl;have a:∀n,Lo ((Cbw n (Ah 32 s.data.toList)).map Ar)=some (Ar (el (Ah 32 s.data.toList) n),(Cbw (n+1) (Ah 32 s.data.toList)).map Ar):=λn=>by obtain⟨d,f⟩:=A2o (l:=(Cbw n (Ah 32 s.data.toList)).map Ar) (n:=n) (ws:=Ah 32 s.data.toList) rfl;rw[Bxh,d,f]
 have m:∀n,Oy (Ar (el (Ah 32 s.data.toList) n))=some (Cd (el (Ah 32 s.data.toList) n)):=λn=>by rw[Ai2,Ec]
 have o:∀n,Ae2 (Ar (el (Ah 32 s.data.toList) n))=some (Gq (J3 (el (Ah 32 s.data.toList) n))).1:=λn=>by have:=el_sz n;rw[Bxo (by rw[B4];omega) (by rw[Ec];exact this.2),Ec]
 have ts:∀n,Zp (Ar (el (Ah 32 s.data.toList) n))=some (Ka (el (Ah 32 s.data.toList) n)):=λn=>by have:=el_sz n;rw[A7p _ (by rw[B4];omega),Ec]
 unfold Aem
 rw[Ast s (by omega),B5i,show Lo (Cr 32 s)=_ from a 0,B5i,A3y (F:=Amq (Ar (el (Ah 32 s.data.toList) 0),(Cbw (0+1) (Ah 32 s.data.toList)).map Ar)) (el (Ah 32 s.data.toList) 0) (λz r g=>by
  unfold Amq Axr;rw[Ad g,A67,B5i];by_cases c:Fl z.1=el (Ah 32 s.data.toList) 0
  ·rw[Ad (by rw[c]),Ao (by omega) (by omega),if_pos c]
  ·rw[Ab (λq=>c (Ae6 q)),Ao (by omega) (by omega),if_neg c]) (λz h=>by
  unfold Amq Axr;rw[Ab h]),B5i,Bw7,B5i,Ace,B5i]
 simp only;have j:=Aqk (el (Ah 32 s.data.toList) 0);unfold Mi;generalize Bw (el (Ah 32 s.data.toList) 0)=k at j⊢;clear el_sz b;rcases(show k=1\/k=2\/k=3\/k=4\/k=5\/k=6\/k=7\/k=8\/k=0 by omega)with e|e|e|e|e|e|e|e|e<;>subst e
 all_goals simp(disch:=omega) only[true_or,or_true,decide_true,cond_true,if_true,Ad,Ab,if_neg,a,m,o,ts,B5i]
 all_goals exact Bw5 s _
theorem A2l{c} (h:Hv c=true):(1<=c.kind/\c.kind<=8)/\c.doc.size<=8/\Cf c.text=true/\c=Y0 c/\Az c.o=true/\(0<=c.client/\c.client<=1000000000)/\(0<=c.seq/\c.seq<=1000000000)/\(0<=c.n/\c.n<=1000000000):=by unfold Hv Di at h;simp only[B5l,decide_eq_true_eq]at h;obtain⟨⟨⟨⟨⟨⟨⟨⟨⟨b,d⟩,k⟩,e⟩,f⟩,g⟩,l⟩,i⟩,j⟩,a⟩:=h;exact⟨b,d,e,f,g,i,j,a⟩
theorem Bhc k:(32:UInt8)∉Fl k:=by
 by_cases h:1<=k/\k<=8
 ·rcases Nu h with h|h|h|h|h|h|h|h<;>subst h<;>decide
 ·rw[Afc h];simp
theorem B4s o:(32:UInt8)∉Qd o:=λq=>by
 obtain⟨x,_,e⟩:=B75.1 q;unfold H9 at e;split at e
 ·cases e
 ·rename_i n;exact n e
theorem Bx4 l:(32:UInt8)∉Hl l:=by
 unfold Hl;split
 ·split
  ·decide
  ·exact(Azw l).1
 ·simp
theorem Bse o:(44:UInt8)∉Cg o:=by
 unfold Cg;split
 ·split
  ·decide
  ·intro q;rcases Aqg q with q|⟨w,a,q⟩
   ·cases q
   ·obtain⟨p,_,rfl⟩:=B75.1 a;exact(A5s p).2 q
 ·simp
theorem Bvk o:J3 (Qd o)=Cg o:=by
 unfold J3 Qd;rw[B9u];refine(B8t λx hx=>?_).trans (Cbp _);show(if H9 x=44 then(32:UInt8)else H9 x)=x;unfold H9;by_cases h:x=32
 ·rw[if_pos h,if_pos rfl,h]
 ·rw[if_neg h,if_neg (λq:x=44=>Bse o (q▸hx))]
theorem Bg4{c} (b:(32:UInt8)∉c.doc.data.toList):∀w∈Hs c,(32:UInt8)∉w:=by
 intro w a;have q {p:Prop} [Decidable p] {y:List UInt8} (h:w∈(if p then [y]else [])):w=y:=by split at h<;>simp at h;exact h
 unfold Hs at a;simp only[B6g,B57]at a;rcases a with(((((a|a)|a)|a)|a)|a)|a
 ·rw[a];exact Bhc _
 ·rw[q a];exact b
 ·rw[q a];exact(Ps _).2.1
 ·rw[q a];exact(Ps _).2.1
 ·rw[q a];exact(Ps _).2.1
 ·rw[q a];exact B4s _
 ·rw[q a];exact Bx4 _
theorem Bg6{c} (h:Hv c=true) (a:(32:UInt8)∉c.doc.data.toList):Ah 32 (Fe c)=Hs c:=by unfold Fe;rw[if_pos h];exact Ajl (by unfold Hs;simp) (Bg4 a)
theorem B15{l} (h:Cf l=true):l.all Cc=true:=by unfold Cf at h;simp only[B5l]at h;exact h.2
theorem A5p{c L} (h:Hv c=true) (n:c.o=A7 c.o) (g:(32:UInt8)∉c.doc.data.toList) (e:Fe c=L):Hb (Ah 32 L)=c/\Mi (Ah 32 L)=c:=by
 subst e;rw[Bg6 h g];obtain⟨g1,g2,g3,g4,g5,a,b,d⟩:=A2l h;have l:=A9i (B15 g3);have i:=Yz g5 n rfl;have m:=Sn a;have p:=Sn b;have q:=Sn d;have j:=Bvk c.o;have f:=Td c.doc;clear h g n g3 g5 a b d;obtain⟨k,r,s,sq,t,o,u⟩:=c;simp only at g1 g2 g4 l i m p q j f
 rcases Nu g1 with h|h|h|h|h|h|h|h<;>subst h<;>rw[g4]<;>clear g4<;>simp only[Y0]at* <;>refine⟨?_,?_⟩<;>
  simp[Hs,Hb,Mi,Hz,Bw,Fl,el,l,i,m,p,q,j,f]
theorem A1g L i:(32:UInt8)∉el (Ah 32 L) i:=by
 by_cases c:i<(Ah 32 L).length
 ·exact Ys (Bm c)
 ·have:el (Ah 32 L) i=[]:=by unfold el;rw[B6n,B7z (by omega)];rfl
  rw[this];simp
theorem A9e L:(Gq L).1=A7 (Gq L).1:=by
 rcases B17 L with h|h
 ·rw[h];exact N1.2.1
 ·exact h.2.2.1
theorem A3h L:(Hb (Ah 32 L)).o=A7 (Hb (Ah 32 L)).o/\(32:UInt8)∉(Hb (Ah 32 L)).doc.data.toList/\(Hb (Ah 32 L)).kind=Bw (el (Ah 32 L) 0):=by
 have c:([]:List DPart)=A7 []:=N1.2.1;have a:(32:UInt8)∉(Ar (el (Ah 32 L) 1)).data.toList:=by rw[Ec];exact A1g L 1
 have b:(32:UInt8)∉B52.data.toList:=by show(32:UInt8)∉[];simp
 unfold Hb
 repeat' split
 all_goals refine⟨by first|exact c|exact A9e _,by first|exact a|exact b,by first|rfl|(simp only;omega)⟩
theorem Bye L:(Mi (Ah 32 L)).o=A7 (Mi (Ah 32 L)).o/\(32:UInt8)∉(Mi (Ah 32 L)).doc.data.toList:=by
 have c:([]:List DPart)=A7 []:=N1.2.1;have a:(32:UInt8)∉(Ar (el (Ah 32 L) 1)).data.toList:=by rw[Ec];exact A1g L 1
 have b:(32:UInt8)∉B52.data.toList:=by show(32:UInt8)∉[];simp
 unfold Mi
 repeat' split
 all_goals refine⟨by first|exact c|exact A9e _,by first|exact a|exact b⟩
theorem Api{c} (h:Fe c≠[]):Hv c=true:=by
 cases a:Hv c with
 |true=>rfl
 |false=>exact absurd (by unfold Fe;rw[a];rfl) h
theorem B14 L:Nl (Mi (Ah 32 L)) L=Nl (Hb (Ah 32 L)) L:=by
 have hi:=A3h L;have a:=Bye L;by_cases c:Fe (Hb (Ah 32 L))≠[]/\Fe (Hb (Ah 32 L))=L
 ·rw[(A5p (Api c.1) hi.1 hi.2.1 c.2).2]
 ·by_cases d:Fe (Mi (Ah 32 L))≠[]/\Fe (Mi (Ah 32 L))=L
  ·have e:=(A5p (Api d.1) a.1 a.2 d.2).1;rw[e]at c;exact absurd d c
  ·unfold Nl;rw[if_neg c,if_neg d]
def Ol (L:List UInt8):DCall×Bool:=Nl (Hb (Ah 32 L)) L
theorem Bpy s (h:s.size<=1048576):Adk s=some (Ol s.data.toList):=Bpe s h
theorem Bxi s (h:s.size<=1048576):Aem s=some (Ol s.data.toList):=by rw[Bww s h,B14];rfl
theorem Bti{o} (h:Dj o=true):C0 P9 o:=⟨by have:=Ky h;omega,λp a=>⟨trivial,trivial,by have:=(Jw (Gj h a)).1;omega,λ_ _=>trivial⟩⟩
theorem At3{L} (h:(Ol L).2=true):Sg (Ol L).1/\Hv (Ol L).1=true/\1<=Bw (el (Ah 32 L) 0):=by
 unfold Ol Nl at h⊢;by_cases c:Fe (Hb (Ah 32 L))≠[]/\Fe (Hb (Ah 32 L))=L
 ·rw[if_pos c];have g:=Api c.1;obtain⟨g1,g2,g3,g4,g5,a,b,d⟩:=A2l g;have k:=(A3h L).2.2;have:=Jx g3;show Sg (Hb (Ah 32 L))/\Hv (Hb (Ah 32 L))=true/\_;exact⟨⟨trivial,by unfold Qa;omega,trivial,trivial,trivial,Bti (Eg g5),by omega,λ_ _=>trivial⟩,g,by omega⟩
 ·rw[if_neg c]at h;cases h
theorem Uj{T c B}:∀ {l:List T},(∀x∈l,c x+1<=B)->A5 c l<=B*l.length
 |[],_=>B6c _
 |x::l,h=>by have b:=Uj (l:=l) λy a=>h y (B5j _ a);have hx:=h x (B5n ..);rw[I7]at b⊢;show(x::l).length+(c x+Av c l)<=B*(x::l).length;rw[B5q,Cbn];omega
theorem Rn l:A5 F5 l=l.length:=Abf (λ_=>rfl) l
theorem A31{T c l} {x:T} (h:x∈l):c x<=A5 c l:=by have:=Atu (c:=c) h;rw[I7];omega
theorem B1r{e} (h:Co e=true):Fa e<=800:=by unfold Co at h;simp only[B5l]at h;exact Aq7 (A3l h.2).1
theorem At0{l} (h:∀e∈l,Co e=true):A5 Fa l<=801*l.length:=Uj λe a=>by have:=B1r (h e a);omega
theorem B1q{d} (h:Bg d=true):Jh d<=7000:=by have a:=Gz h;have g:=Jx a.2.1;have f:=Up h;have c:=Rv (Uo h);have b:=At0 (B6b.1 a.2.2.2.1);have e:A5 Mk d.seen=d.seen.length:=Abf (λ_=>rfl) _;have hi:=Rn d.text;unfold Jh Ej;omega
theorem A8y{r} (h:Dz r=true):A5 Fa r.list<=4806:=by obtain⟨b,_,c,_,a⟩:=Ja h;have:=At0 (B6b.1 a);omega
theorem HInv.sz{h} (i:HInv False h):Oi h<=100000:=by
 have f:=Uj (c:=Jh) (B:=7001) (l:=h.docs) λd b=>by have:=B1q (i.doc b);omega
 have g:=Uj (c:=J8) (B:=4900) (l:=h.subs) λs e=>by obtain⟨_,g2,d,g3,_⟩:=i.sg s e;have a:=W2 g3;have:=Rv (Uo (i.doc a.1));rw[a.2]at this;have j:=A8y g2;unfold J8 Qb Ej;omega
 have:=i.nd;have:=i.ns;unfold Oi;omega
theorem A8x{c} (h:Di c=true):K9 c<=130000:=by
 have d:=Ah1 h;unfold Di at h;simp only[B5l,decide_eq_true_eq]at h;have a:=h.1.1.2;have e:=Uj (c:=Fb) (B:=201) (l:=c.o) λp b=>by have:=(Jw (Gj a b)).1;have:=Rn p.signs;unfold Fb;omega
 have:=Ky a;have:=Rn c.text;unfold K9 Ej;omega
theorem B1p{h} (i:HInv False h) c:H3 (M4 h c).2<=10000:=by
 have s:∀ {d:DDoc},Bg d=true->(Er d.list d.text).length<=200:=λo=>Jx (Boi o);have m:∀a b:Int,H3 ⟨a,b,[],[]⟩=0:=λ_ _=>rfl
 have p:∀(r:DHub) (e k:Int) (t:List Int) (l:List DEntry),t.length<=200->A5 Fa l<=8000->H3 (Kl h r e k t l).2<=10000:=λr e k t l z A=>by
  unfold Kl;split
  ·have:=Rn t;unfold H3;simp only;omega
  ·rw[m];omega
 have f:A5 Fa []<=8000:=B6c _
 have x:H3 (Rf h c)<=10000:=by
  unfold Rf;split
  ·rw[m];omega
  ·split
   ·rw[m];omega
   ·rename_i g;obtain⟨u,v,j,w⟩:=K8 i (name:=c.doc) (by omega);split
    ·have:=s j;have:=Rn (Er (el h.docs (A1 h.docs c.doc).toNat).list (el h.docs (A1 h.docs c.doc).toNat).text);unfold H3;simp only;have:A5 Fa []=0:=rfl;omega
    ·have o:=Gz j
     have B:A5 Fa (Rb (el h.docs (A1 h.docs c.doc).toNat) c.n).1<=8000:=by
      unfold Rb;rw[if_pos j];split
      ·exact f
      ·split
       ·exact f
       ·have:=At0 (B6b.1 o.2.2.2.1);have:=Bqy Fa (el h.docs (A1 h.docs c.doc).toNat).list (c.n-(el h.docs (A1 h.docs c.doc).toNat).from_).toNat;simp only;omega
     unfold H3;simp only;have:A5 F5 []=0:=rfl;omega
 unfold M4;split
 ·repeat' (first|exact x|exact p _ _ _ _ _ (B6c _) f|split)
  ·refine p _ _ _ _ _ (B6c _) ?_;unfold Ju;split
   ·exact f
   ·split
    ·exact f
    ·rename_i g;obtain⟨s1,_,_,q⟩:=Sk (l:=h.subs) (n:=c.client) (by omega);obtain⟨_,g2,_⟩:=i.sg _ q;have C:=A8y g2
     have y:A5 Fa (J4 (el h.subs (C4 h.subs c.client).toNat).r c.n).2.1<=8000:=by
      unfold J4;split
      ·exact f
      ·have:=Bqz Fa (el h.subs (C4 h.subs c.client).toNat).r.list (min c.n ((el h.subs (C4 h.subs c.client).toNat).r.list.length:Int)).toNat;simp only;omega
     split
     ·exact y
     ·exact f
  ·refine p _ _ _ _ _ ?_ f;unfold I5;split
   ·exact B6c _
   ·rename_i g;obtain⟨s1,_,_,q⟩:=Sk (l:=h.subs) (n:=c.client) (by omega);obtain⟨u,v,j,w⟩:=K8 i (i.dix q);exact s j
 ·rw[m];omega
structure WR (w:DWorld):Prop where
 h:HInv False w.h
 ln:w.locks.length<=4
 nq:w.queues.length<=6
 qs:∀q∈w.queues,q.doc.size<=8/\q.list.length<=3
 nt:w.tasks.length<=11
 ts:∀t∈w.tasks,Gg t<=2000000
theorem WR.sz{w} (r:WR w):Gn w<=30000000:=by
 have d:=r.h.sz;have e:=Rn w.locks;have f:=Uj (c:=It) (B:=12) (l:=w.queues) λq a=>by have:=r.qs q a;have:=Rn q.list;unfold It Ej;omega
 have g:=Uj (c:=Gg) (B:=2000001) (l:=w.tasks) λt b=>by have:=r.ts t b;omega
 have:=r.ln;have:=r.nq;have:=r.nt;unfold Gn;omega
def WB (w:DWorld):Prop:=Gn w<=1048576\/WR w
theorem WB.sz{w} (b:WB w):Gn w<=30000000:=by
 rcases b with b|b
 ·omega
 ·exact b.sz
theorem WB.ws{w} (b:WB w):WS0 w:=by
 refine⟨Acl w (by have:=b.sz;omega),?_,?_⟩<;>rcases b with b|b
 ·unfold Gn at b;have:=I7 Gg w.tasks;omega
 ·have:=b.nt;omega
 ·unfold Gn at b;have:=I7 It w.queues;omega
 ·have:=b.nq;omega
theorem Azv{h} (i:HInv False h){n} (k:0<=A1 h.docs n):n.size<=8:=by have g:=Xq k;have:=Rv (Uo (i.doc (Bm g.1)));rwa [of_decide_eq_true g.2]at this
theorem WB.r{w} (b:WB w) (v:WV w):WR w:=by
 refine⟨v.h,v.ln.2,by have:=v.q5;omega,λq d=>?_,by have:=v.nt;omega,λt a=>?_⟩
 ·have f:=v.q.1 q d;exact⟨Azv v.h f.hd,by have:=f.ln;omega⟩
 ·rcases b with b|b
  ·have:=A31 (c:=Gg) a;unfold Gn at b;omega
  ·exact b.ts t a
theorem WR.set{w} (r:WR w){h L Q i t s} (c:HInv False h) (a:L.length<=4) (b:Q.length<=6) (d:∀q∈Q,q.doc.size<=8/\q.list.length<=3) (e:Gg t<=2000000):
  WR ⟨h,L,Q,w.tasks.set i t,s⟩:=⟨c,a,b,d,by rw[B6v];exact r.nt,λx hx=>by
 rcases B7j hx with hx|rfl
 ·exact r.ts x hx
 ·exact e⟩
theorem Bqp{l n k} (e:l.length<=5) (b:∀q∈l,q.doc.size<=8/\q.list.length<=2) (c:n.size<=8):(Uh l n k).length<=6/\∀q∈Uh l n k,q.doc.size<=8/\q.list.length<=3:=by
 unfold Uh;by_cases d:0<=Be l n
 ·obtain⟨g1,g2,g3,g4⟩:=Pw d;rw[if_pos d];refine⟨by rw[K7];omega,λq a=>?_⟩;rcases B7j a with a|rfl
  ·have:=b q a;omega
  ·have:=b _ g4;simp only[B5m,B5q,B5y];omega
 ·rw[if_neg d];refine⟨by simp only[B5m,B5x,B50,B5q,B5y];omega,λq a=>?_⟩;rcases B6g.1 a with a|a
  ·rcases B6g.1 a with a|a
   ·have:=b q (B76 a);omega
   ·rw[B57.1 a];exact⟨c,by simp⟩
  ·have:=b q (B6z a);omega
theorem Bxu{l i} (hi:i<l.length) (c:l.length<=5) (b:∀q∈l,q.doc.size<=8/\q.list.length<=2):(Yp l i).length<=6/\∀q∈Yp l i,q.doc.size<=8/\q.list.length<=3:=by
 unfold Yp;split
 ·refine⟨by simp only[B5m,B5x,B50];omega,λq a=>?_⟩;rcases B6g.1 a with a|a
  ·have:=b q (B76 a);omega
  ·have:=b q (B6z a);omega
 ·refine⟨by rw[K7];omega,λq a=>?_⟩;rcases B7j a with a|rfl
  ·have:=b q a;omega
  ·have:=b _ (Bm hi);simp only[B50];omega
theorem WV.qb{w} (v:WV w):∀q∈w.queues,q.doc.size<=8/\q.list.length<=2:=λq a=>⟨Azv v.h (v.q.1 q a).hd,v.ql q a⟩
theorem Bhw{w} (b:WB w){c} (h:(Q0 w c).2=true):WB (Q0 w c).1:=by
 unfold Q0 at h⊢;split at h
 ·rename_i q;rw[if_pos q];have r:=b.r (WV.of q.1);have v:=(WV.of q.1);have:=A8x q.2.1;have:=v.nt;refine .inr ⟨r.h,r.ln,r.nq,r.qs,by simp only[B5m,B5q,B5y];omega,λt a=>?_⟩;rcases B6g.1 a with a|a
  ·exact r.ts t a
  ·rw[B57.1 a];have:H3 a00=0:=rfl;unfold Gg;simp only;omega
 ·cases h
theorem tsz{t} (h:Hf t=true) (p:Int):K9 t.c<=130000:=by unfold Hf at h;simp only[B5l]at h;exact A8x h.1.1
theorem Ao1{w} (r:WR w){L Q k s s'} (ok:Hf (el w.tasks k.toNat)=true) (a:L.length<=4) (b:Q.length<=6) (d:∀q∈Q,q.doc.size<=8/\q.list.length<=3):
  WR ⟨(Hu ⟨w.h,L,Q,w.tasks,s⟩ k).h,(Hu ⟨w.h,L,Q,w.tasks,s⟩ k).locks,(Hu ⟨w.h,L,Q,w.tasks,s⟩ k).queues,(Hu ⟨w.h,L,Q,w.tasks,s⟩ k).tasks,s'⟩:=by
 have e:=tsz ok 0;have f:=B1p r.h (el w.tasks k.toNat).c;refine r.set (Bii r.h _) a b d ?_;unfold tX Gg;simp only;omega
theorem Btk{w} (b:WB w){k} (h:(R5 w k).2=true):WB (R5 w k).1:=by
 unfold R5 at h⊢;split at h
 ·rename_i q;rw[if_pos q];have v:=WV.of q.1;have r:=b.r v;have f:=v.wf ⟨q.2.2.1,q.2.2.2⟩;have o:=tsz f.ok 0;have g:Gg (el w.tasks k.toNat)<=2000000:=r.ts _ (Bm (by have:=q.2.2;omega));have d:∀p,Gg (tP p (el w.tasks k.toNat))<=2000000:=λp=>g;have e:=v.q5;refine .inr ?_;unfold N3 Ti at h⊢;split
  ·split
   ·split
    ·exact r.set r.h (by rw[B6v];exact r.ln) r.nq r.qs (d 1)
    ·rename_i a b c;rw[if_pos a,if_pos b,if_neg c]at h;cases h
   ·exact Ao1 r f.ok r.ln r.nq r.qs
  ·split
   ·simp only[if_true];unfold Abi;split
    ·exact Ao1 r f.ok (by rw[B6v];exact r.ln) r.nq r.qs
    ·split
     ·refine r.set r.h (by rw[B6v];exact r.ln) r.nq r.qs ?_;have:H3 ⟨11,0,[],[]⟩=0:=rfl;unfold tA Gg;simp only;omega
     ·obtain⟨m,n⟩:=Bqp (k:=k) e v.qb f.z;exact r.set r.h (by rw[B6v];exact r.ln) m n (d 2)
   ·split
    ·exact r.set r.h r.ln r.nq r.qs g
    ·rename_i i j l;rw[if_neg i,if_neg j,if_neg l]at h;cases h
 ·cases h
theorem Bxv{w} (b:WB w){n} (h:(Sc w n).2=true):WB (Sc w n).1:=by
 unfold Sc at h⊢;split at h
 ·rename_i q;rw[if_pos q];have v:=WV.of q.1;have r:=b.r v;have g:=v.qf q.2.2;have f:=v.wf g.2;obtain⟨g1,g2,g3,g4⟩:=Pw q.2.2;obtain⟨a,c⟩:=Bxu g1 v.q5 v.qb;exact .inr (Ao1 r f.ok r.ln a c)
 ·cases h
def Qc:List UInt8:=[112,105,99,107]
def Y1:List UInt8:=[115,101,114,118,101]
def Od (w:DWorld) (r:DWorld×Bool):DWorld×ByteArray:=if r.2=true then(r.1,⟨#[111,107]⟩)else(w,⟨#[110,111]⟩)
def Ma (w:DWorld) (L:List UInt8):DWorld×ByteArray:=
 if(Ah 32 L).length=2/\el (Ah 32 L) 0=Qc/\(Cd (el (Ah 32 L) 1)).2=true then Od w (R5 w (Cd (el (Ah 32 L) 1)).1)
 else if(Ah 32 L).length=2/\el (Ah 32 L) 0=Y1 then Od w (Sc w (Ar (el (Ah 32 L) 1)))
 else if(Ol L).2=true then Od w (Q0 w (Ol L).1)else(w,⟨#[119,104,97,116]⟩)
theorem Ap2{w} (x:WS0 w) r:(bif !r.2 then(B5h (Ll w) λa=>some (a,(⟨#[110,111]⟩:ByteArray)))else(some (r.1,(⟨#[111,107]⟩:ByteArray))))=some (Od w r):=by rw[Xn x.sm (by have:=x.nt;omega)];unfold Od;cases r.2<;>rfl
theorem Ata{w} (x:WS0 w) r:(bif !r.2 then(B5h (Kg w) λa=>some (a,(⟨#[110,111]⟩:ByteArray)))else(some (r.1,(⟨#[111,107]⟩:ByteArray))))=some (Od w r):=by rw[U9 x.sm (by have:=x.nt;omega)];unfold Od;cases r.2<;>rfl
theorem Aj4 s W:(bif decide (((Cr 32 s).length:Int)=2)then(xg (0<=(0:Int)/\(0:Int)<((Cr 32 s).length:Int))<|some (decide (el (Cr 32 s) 0=Ar W)))else(some false))=some (decide ((Ah 32 s.data.toList).length=2/\el (Ah 32 s.data.toList) 0=W)):=by
 rw[M3];by_cases c:(Ah 32 s.data.toList).length=2
 ·rw[Ad (by omega),Aa ⟨by omega,by omega⟩,(M2 (by omega)).1];by_cases d:el (Ah 32 s.data.toList) 0=W
  ·rw[d,decide_eq_true rfl,decide_eq_true ⟨c,rfl⟩]
  ·rw[decide_eq_false (λq=>d (Ae6 q)),decide_eq_false (λq=>d q.2)]
 ·rw[Ab (by omega),decide_eq_false (λq=>c q.1)]
theorem Apt{w} (x:WS0 w) s (h:s.size<=1048576):Vy w s=some (Ma w s.data.toList):=by
 unfold Vy Ma;have f:Hq (Cr 32 s) 1=_:=Aa9 h 1;rw[App s (by omega),B5i,Bpy s h,B5i,show(⟨#[112,105,99,107]⟩:ByteArray)=Ar Qc from rfl,Aj4,B5i,f,B5i,show(⟨#[115,101,114,118,101]⟩:ByteArray)=Ar Y1 from rfl,Aj4,B5i];by_cases c:(Ah 32 s.data.toList).length=2/\el (Ah 32 s.data.toList) 0=Qc/\(Cd (el (Ah 32 s.data.toList) 1)).2=true
 ·have a:Hz (Ah 32 s.data.toList) 1=(Cd (el (Ah 32 s.data.toList) 1)).1:=by unfold Hz;rw[if_neg (by omega),if_pos c.2.2]
  have:=(A86 c.2.2).2.2.1;rw[if_pos c,Ad ⟨c.1,c.2.1⟩,a,decide_eq_true this,B5i,A9,Bo4 x,B5i,Ap2 x]
 rw[if_neg c]
 have b:(bif decide ((Ah 32 s.data.toList).length=2/\el (Ah 32 s.data.toList) 0=Qc)then(some (decide ((0:Int)<=Hz (Ah 32 s.data.toList) 1)))else(some false))=some false:=by
  by_cases d:(Ah 32 s.data.toList).length=2/\el (Ah 32 s.data.toList) 0=Qc
  ·have:¬(Cd (el (Ah 32 s.data.toList) 1)).2=true:=λq=>c ⟨d.1,d.2,q⟩;have a:Hz (Ah 32 s.data.toList) 1= -1:=by unfold Hz;rw[if_neg (by omega),if_neg this]
   rw[Ad d,a];rfl
  ·rw[Ab d]
 rw[b,B5i,Ag,B5i];by_cases d:(Ah 32 s.data.toList).length=2/\el (Ah 32 s.data.toList) 0=Y1
 ·rw[Ad d,if_pos d,Aa ⟨by omega,by rw[M3];omega⟩,(M2 (by omega)).1,Bo9 x,B5i,Ap2 x]
 rw[Ab d,if_neg d];cases e:(Ol s.data.toList).2 with
 |true=>rw[A9,Bon x (At3 e).1,B5i,Ap2 x,if_pos rfl]
 |false=>rw[Ag,Xn x.sm (by have:=x.nt;omega),B5i,if_neg (by decide)]
theorem A7i{w} (x:WS0 w) s (h:s.size<=1048576):Zl w s=some (Ma w s.data.toList):=by
 unfold Zl Ma;rw[Ast s (by omega),B5i,Bxi s h,B5i,show(⟨#[112,105,99,107]⟩:ByteArray)=Ar Qc from rfl,Aj4,B5i,show(⟨#[115,101,114,118,101]⟩:ByteArray)=Ar Y1 from rfl,Aj4,B5i];cases c:(Ol s.data.toList).2 with
 |true=>
  have a:=(At3 c).2.2;have b:el (Ah 32 s.data.toList) 0≠Qc:=λq=>by rw[q]at a;revert a;decide
  have f:el (Ah 32 s.data.toList) 0≠Y1:=λq=>by rw[q]at a;revert a;decide
  rw[A9,Bv1 x (At3 c).1,B5i,Ata x,if_neg (λq=>b q.2.1),if_neg (λq=>f q.2),if_pos rfl]
 |false=>
  rw[Ag];by_cases d:(Ah 32 s.data.toList).length=2/\el (Ah 32 s.data.toList) 0=Y1
  ·have b:el (Ah 32 s.data.toList) 0≠Qc:=λq=>by have:=d.2;rw[q]at this;revert this;decide
   rw[Ad d,if_neg (λq=>b q.2.1),if_pos d,Aa ⟨by omega,by rw[M3];omega⟩,(M2 (by omega)).1,Bws x,B5i,Ata x]
  rw[Ab d];by_cases e:(Ah 32 s.data.toList).length=2/\el (Ah 32 s.data.toList) 0=Qc
  ·rw[Ad e,Aa ⟨by omega,by rw[M3];omega⟩,(M2 (by omega)).1,Ai2,Ec,B5i];cases g:(Cd (el (Ah 32 s.data.toList) 1)).2 with
   |true=>rw[B5o,Ag,Bwk x,B5i,Ata x,if_pos ⟨e.1,e.2,rfl⟩]
   |false=>rw[B6u,A9,U9 x.sm (by have:=x.nt;omega),B5i,if_neg (λq=>by cases q.2.2),if_neg d,if_neg (by decide)]
  ·rw[Ab e,U9 x.sm (by have:=x.nt;omega),B5i,if_neg (λq=>e ⟨q.1,q.2.1⟩),if_neg d,if_neg (by decide)]
theorem Ar3{w} (b:WB w) L:WB (Ma w L).1/\(Ma w L).2.size<=4:=by
 have a:∀r:DWorld×Bool,(r.2=true->WB r.1)->WB (Od w r).1/\(Od w r).2.size<=4:=λr h=>by
  unfold Od;split
  ·rename_i c;exact⟨h c,show(⟨#[111,107]⟩:ByteArray).size<=4 by decide⟩
  ·exact⟨b,show(⟨#[110,111]⟩:ByteArray).size<=4 by decide⟩
 unfold Ma;split
 ·exact a _ λh=>Btk b h
 ·split
  ·exact a _ λh=>Bxv b h
  ·split
   ·exact a _ λh=>Bhw b h
   ·exact⟨b,show(⟨#[119,104,97,116]⟩:ByteArray).size<=4 by decide⟩
section
section
variable {T R:Type} [Inhabited T]
def SzF (f:T->Int->Option Int) (p:T->Prop) (c:T->Nat):Prop:=∀x (n:Int),p x->0<=n->n<=1048576->f x n=some (if n<c x then-1 else n-c x)
omit [Inhabited T]in
theorem A8s {a:List T} (d:a.length<=9223372036854775807) {n:Int} (b:0<=n) (c:n<=1048576) {K:Int->Option Int}:Vm a n K=if n<a.length then some (-1)else K (n-a.length):=by
 unfold Vm;rw[Ao (by omega) (by omega)];by_cases h:n<a.length
 ·rw[if_pos h,Ad (by omega)]
 ·rw[if_neg h,Ab (by omega)]
theorem Yx{f p} {c:T->Nat} (h:SzF f p c):SzF (Sm f) (D0 p) (A5 c):=λa n i o q=>by
 unfold Sm;rw[A8s i.1 o q];by_cases g:n<a.length
 ·rw[if_pos g,if_pos (by rw[I7];omega)]
 rw[if_neg g]
 have k:∀(r b:List T) (m:Int),b++r=a->0<=m->m<=1048576->Bc (λs:Int×Int=>
   (bif decide (s.2<(a.length:Int))then xg (0<=s.2/\s.2<(a.length:Int))<|B5h (f (el a s.2.toNat) s.1) λr=>bif decide (r<0)then some (.out (.inr (-1)))else xg (Ae (s.2+1))<|some (.go (r,s.2+1))else some (.out (.inl (s.1,s.2))):Option (Lr (Int×Int) (Sum (Int×Int) Int)))) (m,b.length)
   =some (if m<Av c r then .inr (-1)else .inl (m-Av c r,a.length)):=by
  intro r;induction r with
  |nil=>intro b m e m0 m1;rw[Nt];simp only;rw[Ab (by rw[<-e,B6o];omega)];show some _=_;rw[if_neg (by show¬m<((0:Nat):Int);omega),<-e,B6o];show some (B7k (m,(b.length:Int)))=some (B7k (m-((0:Nat):Int),(b.length:Int)));rw[show m-((0:Nat):Int)=m by omega]
  |cons x r u=>
   intro b m e m0 m1;have g:a.length=b.length+(r.length+1):=by rw[<-e];simp
   have hx:el a b.length=x:=by rw[<-e];exact Lv b x r
   have j:=i.2 x (by rw[<-e];simp);have t:Av c (x::r)=c x+Av c r:=rfl;rw[Nt];simp only;rw[Ad (by omega),Aa ⟨by omega,by omega⟩,B58,hx,h x m j m0 m1,B5i,t];by_cases d:m<c x
   ·rw[if_pos d,Ad (by omega),if_pos (by omega)];rfl
   ·have v:=i.1;rw[if_neg d,Ab (by omega),Ao (by omega) (by omega)];have:=u (b++[x]) (m-c x) (by simp[e]) (by omega) (by omega);rw[B5m,B51]at this;show Bc _ (m-c x,(b.length:Int)+1)=_;rw[show((b.length:Int)+1)=((b.length+1:Nat):Int)by omega,this];by_cases l:m<((c x+Av c r:Nat):Int)
    ·rw[if_pos l,if_pos (by omega)]
    ·rw[if_neg l,if_neg (by omega),show m-(c x:Int)-(Av c r:Int)=m-((c x+Av c r:Nat):Int)by omega]
 have:=k a [] (n-a.length) rfl (by omega) (by omega);rw[show(((([]:List T).length:Nat):Int))=0 from rfl]at this;rw[this,B5i];by_cases d:n<(A5 c a:Int)
 ·rw[if_pos d,if_pos (by rw[I7]at d;omega)];rfl
 ·rw[if_neg d,if_neg (by rw[I7]at d;omega)];show some _=some _;rw[I7,show n-(a.length:Int)-(Av c a:Int)=n-((a.length+Av c a:Nat):Int)by omega]
omit [Inhabited T]in
theorem A8t {p:T->Prop}:SzF (λ(a:List T) n=>Vm a n some) (D0 p) (λa=>a.length):=λa n d b c=>by show Vm a n some=_;rw[A8s d.1 b c];split<;>rfl
theorem A89{z} {a:List T} (g:a.length<=1099511627776) {F} (d:∀(i:Nat) l K,i<a.length->F (i:Int) l K=K (el a i)):toG z a F=some a:=by
 unfold toG;rw[Aa ⟨by omega,by omega⟩]
 have c:∀(r b:List T),b++r=a->Bc (λs:Int×List T=>
   bif decide (s.1<(a.length:Int))then xg (0<=s.1/\s.1<(a.length:Int))<|F s.1 s.2 λr=>xg (0<=s.1/\s.1<(s.2.length:Int))<|xg (Ae (s.1+1))<|some (.go (s.1+1,s.2.set s.1.toNat r))else some (.out (s.1,s.2))) ((b.length:Int),b++B6l r.length z)=some ((a.length:Int),a):=by
  intro r;induction r with
  |nil=>intro b e;rw[Nt];simp only;rw[B6o]at e;rw[Ab (by rw[<-e];omega),B5y,List.replicate_zero,B6o,e];rfl
  |cons x r f=>
   intro b e;have h:a.length=b.length+(r.length+1):=by rw[<-e];simp
   have hx:el a b.length=x:=by rw[<-e];exact Lv b x r
   rw[Nt];simp only;rw[Ad (by omega),Aa ⟨by omega,by omega⟩,d b.length _ _ (by omega),hx,Aa ⟨by omega,by simp only[B5m,List.length_replicate,B5q];omega⟩,Ao (by omega) (by omega)];have:=f (b++[x]) (by simp[e]);rw[B5m,B51]at this;show Bc _ ((b.length:Int)+1,_)=_;rw[B58,B7y _ _ (B6i _),Cah,B5q,B8o,B7r,show((b.length:Int)+1)=((b.length+1:Nat):Int)by omega];simpa using this
 have:=c a [] rfl;rw[show(((([]:List T).length:Nat):Int))=0 from rfl,B62]at this;rw[B58,this];rfl
theorem A88{z} {a:List T} (b:a.length<=1099511627776):toF z a=some a:=A89 b λi l K _=>by rw[B58]
theorem Vp{z f} {a:List T} (b:a.length<=1099511627776) (c:∀x∈a,f x=some x):So z f a=some a:=A89 b λi l K h=>by rw[B58,c _ (Bm h)];rfl
theorem A1q {a:List T} (d:a.length<=1099511627776) {F} (b:∀x K,x∈a->F x x K=K):eqG F a a=some true:=by
 unfold eqG;rw[decide_eq_true rfl,B5o,Ag]
 have h:=Rj (f:=λi:Int=>bif decide (i<(a.length:Int))then xg (0<=i/\i<(a.length:Int))<|xg (0<=i/\i<(a.length:Int))<|F (el a i.toNat) (el a i.toNat) (xg (Ae (i+1))<|some (.go (i+1)))else some (.out (.inl i)))
  (λi=>0<=i/\i<=a.length) (λi=>((a.length:Int)-i).toNat) (λ_=>(B7k (a.length:Int):Sum Int Bool)) (λi hi=>by
   by_cases c:i<(a.length:Int)
   ·rw[Ad c,Aa ⟨hi.1,c⟩,Aa ⟨hi.1,c⟩,b _ _ (Bm (by omega)),Ao (by omega) (by omega)];exact .inl ⟨_,rfl,by omega,by omega,rfl⟩
   ·rw[Ab c,show i=a.length by omega];exact .inr rfl) 0 ⟨by omega,by omega⟩
 rw[h];rfl
theorem A1p [DecidableEq T] {a:List T} (b:a.length<=1099511627776):eqF a a=some true:=A1q b λx K _=>by rw[decide_eq_true rfl];rfl
theorem T2{f} {a:List T} (b:a.length<=1099511627776) (c:∀x∈a,f x x=some true):Q9 f a a=some true:=A1q b λx K hx=>by rw[c x hx];rfl
def MF.ty:MF T->Type
 |.i .. =>Int
 |.s .. =>ByteArray
 |.b .. =>Bool
 |.l (E:=E) .. =>List E
def MF.get:(f:MF T)->T->f.ty
 |.i g _=>g
 |.s _ g _=>g
 |.b g _=>g
 |.l _ _ g _=>g
def MF.put:(f:MF T)->T->f.ty->T
 |.i _ p=>p
 |.s _ _ p=>p
 |.b _ p=>p
 |.l _ _ _ p=>p
def Aqi (f g:MF T):Prop:=∀x v,g.get (f.put x v)=g.get x
def Rl (f:MF T):List (MF T)->Prop
 |[]=>True
 |g::r=>(Aqi f g/\Aqi g f)/\Rl f r
def GoodL {E:Type} (m:List E->Int->Option (Int×List E)) (h:List E->Int->Option Int) (c:List E->Nat):Prop:=
 ∀a (k:Int),0<=k->k+c a<=1000000000000000000->∃b,m a k=some (k+c a,b)/\h b k=some (k+c a)
def GoodF:MF T->(T->Nat)->Prop
 |.i _ _,w=>w=λ_=>1
 |.s t _ _,w=>(w=λ_=>1)/\∀k:Int,0<=k->k<=1000000000000000000->∃x,t k=some x
 |.b _ _,w=>w=λ_=>1
 |.l m h g _,w=>∃c,(w=λx=>c (g x))/\GoodL m h c
def GoodB:List (MF T)->(T->Nat)->Prop
 |[],W=>W=λ_=>0
 |f::r,W=>∃w a,(W=λx=>w x+a x)/\GoodF f w/\(∀x v,f.get (f.put x v)=v)/\Rl f r/\GoodB r a
omit [Inhabited T]in
theorem Bn5 {f g:MF T} {w:T->Nat} (h:GoodF g w) (k:Aqi f g) (x v):w (f.put x v)=w x:=by
 cases g with
 |i _ _=>unfold GoodF at h;rw[h]
 |s _ _ _=>unfold GoodF at h;rw[h.1]
 |b _ _=>unfold GoodF at h;rw[h]
 |l m d a e=>obtain⟨c,rfl,_⟩:=h;exact congrArg c (k x v)
omit [Inhabited T]in
theorem A2k {f:MF T}:∀ {r:List (MF T)} {W:T->Nat},GoodB r W->Rl f r->∀x v,W (f.put x v)=W x
 |[],W,h,_,_,_=>by unfold GoodB at h;rw[h]
 |g::r,W,h,k,x,v=>by obtain⟨w,a,rfl,b,_,_,c⟩:=h;show w _+a _=w x+a x;rw[Bn5 b k.1.1,A2k c k.2]
theorem Bxx {L:List T}{i} (h:i<L.length) y:el (L.set i y) i=y:=by unfold el;simp[B6n,h]
theorem Bnm f{w} (h:GoodF f w) x (k:Int) (e:0<=k) (d:k+w x<=1000000000000000000):∃v,
  (∀ {R:Type} (r:List (MF T)) (l:List T) (i:Nat) (K:Int->List T->Option R),i<l.length->el l i=x->I8 (i:Int) (f::r) k l K=I8 (i:Int) r (k+w x) (l.set i (f.put x v)) K)/\
  (∀ {R:Type} (r:List (MF T)) (a:List T) (i:Nat) (E:Option R) (K:Int->Option R),i<a.length->f.get (el a i)=v->I4 a (i:Int) E (f::r) k K=I4 a (i:Int) E r (k+w x) K):=by
 cases f with
 |i g p=>
  unfold GoodF at h;subst h;simp only at d;refine⟨(k:Int),λr l i K hi hx=>?_,λr a i E K hi hx=>?_⟩
  ·rw[I8,Aa ⟨by omega,by omega⟩,Ao (by omega) (by omega),B58,hx];rfl
  ·have hx:g (el a i)=k:=hx;rw[I4,Aa ⟨by omega,by omega⟩,B58,hx,decide_eq_true rfl,B5o,Ag,Ao (by omega) (by omega)];rfl
 |s t g p=>
  unfold GoodF at h;obtain⟨rfl,h⟩:=h;simp only at d;obtain⟨y,n⟩:=h k e (by omega);refine⟨(y:ByteArray),λr l i K hi hx=>?_,λr a i E K hi hx=>?_⟩
  ·rw[I8,n,B5i,Aa ⟨by omega,by omega⟩,Ao (by omega) (by omega),B58,hx];rfl
  ·have hx:g (el a i)=y:=hx;rw[I4,Aa ⟨by omega,by omega⟩,n,B5i,B58,hx,decide_eq_true rfl,B5o,Ag,Ao (by omega) (by omega)];rfl
 |b g p=>
  unfold GoodF at h;subst h;simp only at d;refine⟨(decide (k % 3=0):Bool),λr l i K hi hx=>?_,λr a i E K hi hx=>?_⟩
  ·rw[I8,Aa ⟨e,by omega⟩,Aa ⟨by omega,by omega⟩,Ao (by omega) (by omega),B58,hx];rfl
  ·have hx:g (el a i)=decide (k % 3=0):=hx;rw[I4,Aa ⟨by omega,by omega⟩,Aa ⟨e,by omega⟩,B58,hx,beq_self_eq_true,B5o,Ag,Ao (by omega) (by omega)];rfl
 | @l E m o g p=>
  obtain⟨c,rfl,h⟩:=h;simp only at d;obtain⟨j,m1,m2⟩:=h (g x) k e d;refine⟨(j:List E),λr l i K hi hx=>?_,λr a i E K hi hx=>?_⟩
  ·rw[I8,Aa ⟨by omega,by omega⟩,B58,hx,m1,B5i];rfl
  ·have hx:g (el a i)=j:=hx;rw[I4,Aa ⟨by omega,by omega⟩,B58,hx,m2,B5i,Ab (by omega)]
theorem A1k:∀ {fs:List (MF T)} {W:T->Nat},GoodB fs W->∀(x:T) (k:Int),0<=k->k+W x<=1000000000000000000->∃b,
  (∀ {R:Type} (l:List T) (i:Nat) (K:Int->List T->Option R),i<l.length->el l i=x->I8 (i:Int) fs k l K=K (k+W x) (l.set i b))/\
  (∀ {R:Type} (a:List T) (i:Nat) (E:Option R) (K:Int->Option R),i<a.length->el a i=b->I4 a (i:Int) E fs k K=K (k+W x))/\
  (∀f,Rl f fs->f.get b=f.get x)
 |[],W,h,x,k,h0,hk=>by
  unfold GoodB at h;subst h;refine⟨x,λl i K hi hx=>?_,λa i E K hi hx=>?_,λ_ _=>rfl⟩
  ·rw[I8,<-hx,show l.set i (el l i)=l by rw[Gb hi,B8y],show k+((0:Nat):Int)=k by omega]
  ·rw[I4,show k+((0:Nat):Int)=k by omega]
 |f::r,W,h,x,k,h0,hk=>by
  obtain⟨w,c,rfl,p,q,j,m⟩:=h;simp only at hk;obtain⟨v,s,t⟩:=Bnm f p x k h0 (by omega);have o:=A2k m j x v;obtain⟨b,d,e2,e⟩:=A1k m (f.put x v) (k+w x) (by omega) (by rw[o];omega);rw[o]at d e2;refine⟨b,λl i K hi hx=>?_,λa i E K hi hx=>?_,λg n=>?_⟩
  ·rw[s r l i K hi hx,d (l.set i (f.put x v)) i K (by rw[B6v];exact hi) (Bxx hi _),Cbf,show k+(w x:Int)+(c x:Int)=k+((w x+c x:Nat):Int)by omega]
  ·rw[t r a i E K hi (by rw[hx,e f j,q]),e2 a i E K hi hx,show k+(w x:Int)+(c x:Int)=k+((w x+c x:Nat):Int)by omega]
  ·rw[e g n.2];exact n.1.2 x v
theorem Pp{fs} {W:T->Nat} (h:GoodB fs W) (q:∀x,1<=W x):GoodL (L5 fs) (Lx fs) (Av W):=λa k d e=>by
 have j:∀(r:List T) (k:Int),0<=k->k+Av W r<=1000000000000000000->∃b:List T,b.length=r.length/\
   (∀p:List T,p.length+r.length<=1000000000000000000->Bc (λs:Int×Int×List T=>bif decide (s.2.1<(s.2.2.length:Int))then I8 s.2.1 fs s.1 s.2.2 λk l=>xg (Ae (s.2.1+1))<|some (.go (k,s.2.1+1,l))else some (.out (s.1,s.2.1,s.2.2))) (k,(p.length:Int),p++r)=some (k+Av W r,((p.length+r.length:Nat):Int),p++b))/\
   (∀p:List T,p.length+r.length<=1000000000000000000->Bc (λs:Int×Int=>(bif decide (s.2<((p++b).length:Int))then I4 (p++b) s.2 (some (.out (.inr (-1)))) fs s.1 λk=>xg (Ae (s.2+1))<|some (.go (k,s.2+1))else some (.out (.inl (s.1,s.2))):Option (Lr (Int×Int) (Sum (Int×Int) Int)))) (k,(p.length:Int))=some (.inl (k+Av W r,((p.length+r.length:Nat):Int)))):=by
  intro r;induction r with
  |nil=>
   intro k d e;refine⟨[],rfl,λp _=>?_,λp _=>?_⟩
   ·rw[Nt];simp only;rw[Ab (by simp)];show some (k,(p.length:Int),p++[])=some (k+((0:Nat):Int),_,_);rw[show k+((0:Nat):Int)=k by omega];rfl
   ·rw[Nt];simp only;rw[Ab (by simp)];show some (B7k (k,(p.length:Int)))=some (B7k (k+((0:Nat):Int),_));rw[show k+((0:Nat):Int)=k by omega];rfl
  |cons x r w=>
   intro k d e;have i:Av W (x::r)=W x+Av W r:=rfl;rw[i]at e;obtain⟨c,o,e2,_⟩:=A1k h x k d (by omega);obtain⟨b,t,u,v⟩:=w (k+W x) (by omega) (by omega);refine⟨c::b,by simp[t],λp f=>?_,λp f=>?_⟩
   ·simp only[B5q]at f;rw[Nt];simp only;rw[Ad (by simp only[B5m,B5q];omega),o (p++x::r) p.length _ (by simp) (Lv p x r),Ao (by omega) (by omega)];have:=u (p++[c]) (by simp only[B5m,B51];omega);rw[B5m,B51]at this;show Bc _ (k+(W x:Int),(p.length:Int)+1,_)=_;rw[B7y _ _ (B6i _),Cah,B7r,show((p.length:Int)+1)=((p.length+1:Nat):Int)by omega,i,B5q];simp only[B5r,Ca6]at this;rw[this,show k+(W x:Int)+(Av W r:Int)=k+((W x+Av W r:Nat):Int)by omega,show p.length+1+r.length=p.length+(r.length+1)by omega]
   ·simp only[B5q]at f;rw[Nt];simp only;rw[Ad (by simp only[B5m,B5q];omega),e2 (p++c::b) p.length _ _ (by simp) (Lv p c b),Ao (by omega) (by omega)];have:=v (p++[c]) (by simp only[B5m,B51];omega);have g:(p++[c]).length=p.length+1:=by simp
    rw[g]at this;show Bc _ (k+(W x:Int),(p.length:Int)+1)=_;rw[show((p.length:Int)+1)=((p.length+1:Nat):Int)by omega,i,B5q];simp only[B5r,Ca6]at this;rw[this,show k+(W x:Int)+(Av W r:Int)=k+((W x+Av W r:Nat):Int)by omega,show p.length+1+r.length=p.length+(r.length+1)by omega]
 obtain⟨n,_,y,k2⟩:=j a k d e;have A:=A8i q a;have z:=y [] (by simp only[B5y];omega);have m:=k2 [] (by simp only[B5y];omega);refine⟨n,?_,?_⟩
 ·unfold L5;show B5h (Bc _ (k,((([]:List T).length:Nat):Int),[]++a)) _=_;rw[z];rfl
 ·unfold Lx;show B5h (Bc _ (k,((([]:List T).length:Nat):Int))) _=_;simp only[B62]at m;rw[m];rfl
end
end
inductive SC where
 |f (g:Int->Option Int)
 |t (s:ByteArray)
def Wv:List SC->Int->Option Int
 |[],n=>some n
 |.f g::r,n=>B5h (g n) λm=>bif decide (m<0)then some (-1)else Wv r m
 |.t s::r,n=>xg (Ae (n-(s.size:Int)))<|bif decide ((n-(s.size:Int))<0)then some (-1)else Wv r (n-(s.size:Int))
def Ani:List SC->List Nat->Prop
 |[],[]=>True
 |.f g::r,c::cs=>(∀n:Int,0<=n->n<=1048576->g n=some (if n<c then-1 else n-c))/\Ani r cs
 |.t s::r,c::cs=>(s.size=c/\s.size<=9223372036854775807)/\Ani r cs
 |_,_=>False
theorem Jp:∀ {l:List SC} {cs:List Nat},Ani l cs->∀ {n:Int},0<=n->n<=1048576->Wv l n=some (if n<cs.sum then-1 else n-cs.sum)
 |[],[],_,n,h0,_=>by rw[Wv,B98,if_neg (by omega)];congr 1;omega
 |.f g::r,c::cs,h,n,h0,h1=>by
  rw[Wv,h.1 n h0 h1,B5i,B87];by_cases d:n<c
  ·rw[if_pos d,Ad (by omega),if_pos (by omega)]
  ·rw[if_neg d,Ab (by omega),Jp h.2 (by omega) (by omega)];by_cases e:n<((c+cs.sum:Nat):Int)
   ·rw[if_pos (by omega),if_pos e]
   ·rw[if_neg (by omega),if_neg e];congr 1;omega
 |.t s::r,c::cs,h,n,h0,h1=>by
  obtain⟨⟨b,i⟩,a⟩:=h;rw[Wv,Ao (by omega) (by omega),B87];by_cases d:n<c
  ·rw[Ad (by omega),if_pos (by omega)]
  ·rw[Ab (by omega),Jp a (by omega) (by omega)];by_cases e:n<((c+cs.sum:Nat):Int)
   ·rw[if_pos (by omega),if_pos e]
   ·rw[if_neg (by omega),if_neg e];congr 1;omega
 |[],_::_,h,_,_,_=>h.elim
 |.f _::_,[],h,_,_,_=>h.elim
 |.t _::_,[],h,_,_,_=>h.elim
theorem Yy:SzF Jm (D0 Dv) (A5 F5):=λa n d b c=>by rw[Rn];exact A8t a n d b c
theorem B1j:SzF Alw (D0 Aui) (A5 Mk):=λa n d b c=>by rw[show A5 Mk a=a.length from Abf (λ_=>rfl) _];exact A8t a n d b c
theorem B1f:SzF Awd Acy Fb:=λx n c a b=>by have:=Jp (l:=[.f λn=>Jm x.signs n]) (cs:=[A5 F5 x.signs]) ⟨λn=>Yy _ n c.2.2,trivial⟩ a b;exact this
theorem A8v:SzF Ze (D0 Acy) (A5 Fb):=Yx B1f
theorem B1d:SzF Awc Y2 Fa:=λx n c a b=>
 Jp (l:=[.f λn=>Ze x.o n]) (cs:=[A5 Fb x.o]) ⟨λn=>A8v _ n c.2.2,trivial⟩ a b
theorem Atz:SzF S2 (D0 Y2) (A5 Fa):=Yx B1d
theorem B1b:SzF Awb Aj0 Jh:=λx n a b c=>by
 have:=Jp (l:=[.t x.name,.f λn=>Jm x.text n,.f λn=>S2 x.list n,.f λn=>Alw x.seen n]) (cs:=[x.name.size,A5 F5 x.text,A5 Fa x.list,A5 Mk x.seen])
  ⟨⟨rfl,a.1⟩,λn=>Yy _ n a.2.2.1,λn=>Atz _ n a.2.2.2.1,λn=>B1j _ n a.2.2.2.2,trivial⟩ b c
 rw[show Jh x=[x.name.size,A5 F5 x.text,A5 Fa x.list,A5 Mk x.seen].sum by unfold Jh Ej;simp only[B87,B98];omega];exact this
theorem B1c:SzF Als (D0 Aj0) (A5 Jh):=Yx B1b
theorem B1i:SzF Alv Auh Qb:=λx n c a b=>
 Jp (l:=[.f λn=>S2 x.list n]) (cs:=[A5 Fa x.list]) ⟨λn=>Atz _ n c.2.2.2,trivial⟩ a b
theorem B1l:SzF Awg Aj2 J8:=λx n a b c=>by have:=Jp (l:=[.t x.doc,.f λn=>Alv x.r n]) (cs:=[x.doc.size,Qb x.r]) ⟨⟨rfl,a.2.1⟩,λn=>B1i _ n a.2.2,trivial⟩ b c;rw[show J8 x=[x.doc.size,Qb x.r].sum by unfold J8 Ej;simp only[B87,B98];omega];exact this
theorem B1m:SzF Aly (D0 Aj2) (A5 J8):=Yx B1l
theorem B1e:SzF Alt Aug Oi:=λx n a b c=>by have:=Jp (l:=[.f λn=>Als x.docs n,.f λn=>Aly x.subs n]) (cs:=[A5 Jh x.docs,A5 J8 x.subs]) ⟨λn=>B1c _ n a.2.1,λn=>B1m _ n a.2.2.1,trivial⟩ b c;exact this
theorem B1g:SzF Awe Aj1 It:=λx n a b c=>by have:=Jp (l:=[.t x.doc,.f λn=>Jm x.list n]) (cs:=[x.doc.size,A5 F5 x.list]) ⟨⟨rfl,a.1⟩,λn=>Yy _ n a.2,trivial⟩ b c;rw[show It x=[x.doc.size,A5 F5 x.list].sum by unfold It Ej;simp only[B87,B98];omega];exact this
theorem B1h:SzF Alu (D0 Aj1) (A5 It):=Yx B1g
theorem B1a:SzF Alr Auf K9:=λx n a b c=>by have:=Jp (l:=[.t x.doc,.f λn=>Ze x.o n,.f λn=>Jm x.text n]) (cs:=[x.doc.size,A5 Fb x.o,A5 F5 x.text]) ⟨⟨rfl,a.2.1⟩,λn=>A8v _ n a.2.2.2.2.2.1,λn=>Yy _ n a.2.2.2.2.2.2,trivial⟩ b c;rw[show K9 x=[x.doc.size,A5 Fb x.o,A5 F5 x.text].sum by unfold K9 Ej;simp only[B87,B98];omega];exact this
theorem B09:SzF Alq Aue H3:=λx n a b c=>by have:=Jp (l:=[.f λn=>Jm x.text n,.f λn=>S2 x.list n]) (cs:=[A5 F5 x.text,A5 Fa x.list]) ⟨λn=>Yy _ n a.2.2.1,λn=>Atz _ n a.2.2.2,trivial⟩ b c;exact this
theorem B1n:SzF Awh Aj3 Gg:=λx n b d e=>by have:=Jp (l:=[.f λn=>Alr x.c n,.f λn=>Alq x.a n]) (cs:=[K9 x.c,H3 x.a]) ⟨λn=>B1a _ n b.1,λn=>B09 _ n b.2.2.2.2.2,trivial⟩ d e;exact this
theorem B1o:SzF Alz (D0 Aj3) (A5 Gg):=Yx B1n
theorem A8w:SzF Al0 Y3 Gn:=λx n a b c=>by
 have:=Jp (l:=[.f λn=>Alt x.h n,.f λn=>Jm x.locks n,.f λn=>Alu x.queues n,.f λn=>Alz x.tasks n]) (cs:=[Oi x.h,A5 F5 x.locks,A5 It x.queues,A5 Gg x.tasks])
  ⟨λn=>B1e _ n a.1,λn=>Yy _ n a.2.1,λn=>B1h _ n a.2.2.1,λn=>B1o _ n a.2.2.2.1,trivial⟩ b c
 rw[show Gn x=[Oi x.h,A5 F5 x.locks,A5 It x.queues,A5 Gg x.tasks].sum by unfold Gn;simp only[B87,B98];omega];exact this
theorem Yc{l} (h:C0 Dt l):S3 l=some l/\S0 l l=some true:=⟨A88 h.1,A1p h.1⟩
theorem A6b{x} (h:P9 x):Al3 x=some x/\Alg x x=some true:=by have a:=Yc h.2.2;unfold Al3 Alg;rw[a.1,a.2];simp
theorem A6c{l} (h:C0 P9 l):Al4 l=some l/\Alh l l=some true:=⟨Vp h.1 λx hx=>(A6b (h.2 x hx)).1,T2 h.1 λx hx=>(A6b (h.2 x hx)).2⟩
theorem A6a{x} (h:Hm x):Al2 x=some x/\Alf x x=some true:=by have a:=A6c h.2.2;unfold Al2 Alf;rw[a.1,a.2];simp
theorem Ar8{l} (h:C0 Hm l):Ad1 l=some l/\Ady l l=some true:=⟨Vp h.1 λx hx=>(A6a (h.2 x hx)).1,T2 h.1 λx hx=>(A6a (h.2 x hx)).2⟩
theorem Btx{l} (h:C0 Ati l):Awo l=some l/\Av0 l l=some true:=⟨Vp h.1 λx hx=>rfl,T2 h.1 λx hx=>by unfold Avz;simp⟩
theorem A59{x} (h:Eb x):Al1 x=some x/\Ale x x=some true:=by have a:=Yc h.2.2.1;have b:=Ar8 h.2.2.2.1;have c:=Btx h.2.2.2.2;unfold Al1 Ale;rw[a.1,a.2,b.1,b.2,c.1,c.2];simp
theorem Btv{l} (h:C0 Eb l):Awk l=some l/\Avv l l=some true:=⟨Vp h.1 λx hx=>(A59 (h.2 x hx)).1,T2 h.1 λx hx=>(A59 (h.2 x hx)).2⟩
theorem A6f{x} (h:Ajj x):Al6 x=some x/\Alj x x=some true:=by have a:=Ar8 h.2.2.2.2.2;unfold Al6 Alj Awn Avy;rw[a.1,a.2];simp
theorem Bty{l} (h:C0 Ajj l):Awp l=some l/\Av1 l l=some true:=⟨Vp h.1 λx hx=>(A6f (h.2 x hx)).1,T2 h.1 λx hx=>(A6f (h.2 x hx)).2⟩
theorem A6d{x} (h:Ajh x):Al5 x=some x/\Ali x x=some true:=by have a:=Yc h.2;unfold Al5 Ali;rw[a.1,a.2];simp
theorem Btw{l} (h:C0 Ajh l):Awm l=some l/\Avx l l=some true:=⟨Vp h.1 λx hx=>(A6d (h.2 x hx)).1,T2 h.1 λx hx=>(A6d (h.2 x hx)).2⟩
theorem A6g{x} (h:Yr x):Al7 x=some x/\Alk x x=some true:=by have a:=A6c h.1.2.2.2.2.2.1;have b:=Yc h.1.2.2.2.2.2.2;have c:=Yc h.2.2.2.2.2.2.2.1;have d:=Ar8 h.2.2.2.2.2.2.2.2;unfold Al7 Alk Awj Avu Awi Avt;rw[a.1,a.2,b.1,b.2,c.1,c.2,d.1,d.2];simp
theorem Btz{l} (h:C0 Yr l):Awq l=some l/\Av2 l l=some true:=⟨Vp h.1 λx hx=>(A6g (h.2 x hx)).1,T2 h.1 λx hx=>(A6g (h.2 x hx)).2⟩
theorem Aij{x} (h:Sh x):Mu x=some x/\Mt x x=some true:=by have a:=Btv h.1.2.1;have b:=Bty h.1.2.2.1;have c:=Yc h.2.1;have d:=Btw h.2.2.1;have e:=Btz h.2.2.2.1;unfold Mu Mt Awl Avw;rw[a.1,a.2,b.1,b.2,c.1,c.2,d.1,d.2,e.1,e.2];simp
theorem A6e{l} (h:l.length<=1099511627776):Zg l=some l/\Zd l l=some true:=⟨A88 h,A1p h⟩
section
theorem Brt k (d:0<=k) (b:k<=1000000000000000000):∃x,Ln k=some x:=by
 unfold Ln;by_cases c:k<=0
 ·rw[Ad c];exact⟨_,rfl⟩
 rw[Ab c]
 obtain⟨y,e,h⟩:=Ri (f:=Alp) (λs=>0<=s.1/\s.1+s.2.size<=1000000000000000000) (λs=>s.1.toNat) (λy=>y.size<=1000000000000000000) (λs ⟨b,g⟩=>by
  unfold Alp Awa;by_cases c:0<s.1
  ·have a:(⟨[y8 (48+(s.1 % 10))].toArray⟩:ByteArray).size=1:=rfl;rw[Ad c,Aa ⟨b,by omega⟩,Ao (by omega) (by omega),Aa (by rw[a];omega),Aa ⟨b,by omega,by omega⟩];exact .inl ⟨_,rfl,⟨by simp only;omega,by simp only[ByteArray.size_append];rw[a];omega⟩,by simp only;omega⟩
  ·rw[Ab c];exact .inr ⟨_,rfl,by omega⟩) (k,(⟨#[]⟩:ByteArray)) ⟨d,by show k+((0:Nat):Int)<=_;omega⟩
 rw[e,B5i,Aa (by show 1+y.size<=_;omega)];exact⟨_,rfl⟩
section
variable {T:Type}
theorem Fn {g:T->Int} {p r W} (b:∀x v,g (p x v)=v) (a:Rl (.i g p) r) (h:GoodB r W):GoodB (.i g p::r) (λx=>1+W x):=⟨λ_=>1,W,rfl,rfl,b,a,h⟩
theorem Bnz {g:T->Bool} {p r W} (c:∀x v,g (p x v)=v) (a:Rl (.b g p) r) (h:GoodB r W):GoodB (.b g p::r) (λx=>1+W x):=⟨λ_=>1,W,rfl,rfl,c,a,h⟩
theorem Aa3 {g:T->ByteArray} {p r W} (b:∀x v,g (p x v)=v) (a:Rl (.s Ln g p) r) (h:GoodB r W):GoodB (.s Ln g p::r) (λx=>1+W x):=⟨λ_=>1,W,rfl,⟨rfl,Brt⟩,b,a,h⟩
theorem Lw{E m h' c} {g:T->List E} {p r W} (b:GoodL m h' c) (d:∀x v,g (p x v)=v) (a:Rl (.l m h' g p) r) (h:GoodB r W):GoodB (.l m h' g p::r) (λx=>c (g x)+W x):=⟨λx=>c (g x),W,rfl,⟨c,rfl,b⟩,d,a,h⟩
theorem Ph:GoodB ([]:List (MF T)) (λ_=>0):=rfl
theorem Pg{fs} {W a:T->Nat} (h:GoodB fs W) (e:∀x,W x=a x):GoodB fs a:=(funext e:W=a)▸h
end
theorem Xi:GoodL Lm S1 (Av Bl):=Pp (Pg (Fn (λ_ _=>rfl) (by repeat' (first|exactλ_ _=>rfl|exact trivial|constructor)) Ph) λ_=>rfl) λ_=>B6i _
theorem A2h:GoodL Aln All (Av Qy):=
 Pp (Pg (Fn (λ_ _=>rfl) (by repeat' (first|exactλ_ _=>rfl|exact trivial|constructor))<|Fn (λ_ _=>rfl) (by repeat' (first|exactλ_ _=>rfl|exact trivial|constructor))<|Lw Xi (λ_ _=>rfl) (by repeat' (first|exactλ_ _=>rfl|exact trivial|constructor)) Ph) λx=>by unfold Qy Bl;omega) λx=>by unfold Qy Bl;omega
theorem Apg:GoodL Ad0 Adz (Av Pa):=
 Pp (Pg (Fn (λ_ _=>rfl) (by repeat' (first|exactλ_ _=>rfl|exact trivial|constructor))<|Fn (λ_ _=>rfl) (by repeat' (first|exactλ_ _=>rfl|exact trivial|constructor))<|Lw A2h (λ_ _=>rfl) (by repeat' (first|exactλ_ _=>rfl|exact trivial|constructor)) Ph) λx=>by unfold Pa Bl;omega) λx=>by unfold Pa Bl;omega
theorem Bnw:GoodL Av9 Av6 (Av Tn):=
 Pp (Pg (Fn (λ_ _=>rfl) (by repeat' (first|exactλ_ _=>rfl|exact trivial|constructor))<|Fn (λ_ _=>rfl) (by repeat' (first|exactλ_ _=>rfl|exact trivial|constructor))<|Fn (λ_ _=>rfl) (by repeat' (first|exactλ_ _=>rfl|exact trivial|constructor)) Ph) λx=>by unfold Tn Bl;omega) λx=>by unfold Tn Bl;omega
theorem Bnu:GoodL V6 Av3 (Av Kk):=
 Pp (Pg (Aa3 (λ_ _=>rfl) (by repeat' (first|exactλ_ _=>rfl|exact trivial|constructor))<|Fn (λ_ _=>rfl) (by repeat' (first|exactλ_ _=>rfl|exact trivial|constructor))<|Lw Xi (λ_ _=>rfl) (by repeat' (first|exactλ_ _=>rfl|exact trivial|constructor))<|Lw Apg (λ_ _=>rfl) (by repeat' (first|exactλ_ _=>rfl|exact trivial|constructor))<|Lw Bnw (λ_ _=>rfl) (by repeat' (first|exactλ_ _=>rfl|exact trivial|constructor)) Ph) λx=>by unfold Kk Bl Fm;omega) λx=>by unfold Kk Bl Fm;omega
theorem Bnx:GoodL V8 Av7 (Av Lt):=
 Pp (Pg (Fn (λ_ _=>rfl) (by repeat' (first|exactλ_ _=>rfl|exact trivial|constructor))<|Aa3 (λ_ _=>rfl) (by repeat' (first|exactλ_ _=>rfl|exact trivial|constructor))<|Fn (λ_ _=>rfl) (by repeat' (first|exactλ_ _=>rfl|exact trivial|constructor))<|Fn (λ_ _=>rfl) (by repeat' (first|exactλ_ _=>rfl|exact trivial|constructor))<|Bnz (λ_ _=>rfl) (by repeat' (first|exactλ_ _=>rfl|exact trivial|constructor))<|Lw Apg (λ_ _=>rfl) (by repeat' (first|exactλ_ _=>rfl|exact trivial|constructor)) Ph) λx=>by unfold Lt Aff Bl Fm Ww;omega) λx=>by unfold Lt Bl Fm;omega
theorem Bnv:GoodL V7 Av5 (Av Pb):=
 Pp (Pg (Aa3 (λ_ _=>rfl) (by repeat' (first|exactλ_ _=>rfl|exact trivial|constructor))<|Lw Xi (λ_ _=>rfl) (by repeat' (first|exactλ_ _=>rfl|exact trivial|constructor)) Ph) λx=>by unfold Pb Fm;omega) λx=>by unfold Pb Fm;omega
theorem Bny:GoodL V9 Av8 (Av Qz):=
 Pp (Pg (Fn (λ_ _=>rfl) (by repeat' (first|exactλ_ _=>rfl|exact trivial|constructor))<|Aa3 (λ_ _=>rfl) (by repeat' (first|exactλ_ _=>rfl|exact trivial|constructor))<|Fn (λ_ _=>rfl) (by repeat' (first|exactλ_ _=>rfl|exact trivial|constructor))<|Fn (λ_ _=>rfl) (by repeat' (first|exactλ_ _=>rfl|exact trivial|constructor))<|Fn (λ_ _=>rfl) (by repeat' (first|exactλ_ _=>rfl|exact trivial|constructor))<|Lw A2h (λ_ _=>rfl) (by repeat' (first|exactλ_ _=>rfl|exact trivial|constructor))<|Lw Xi (λ_ _=>rfl) (by repeat' (first|exactλ_ _=>rfl|exact trivial|constructor))<|
  Fn (λ_ _=>rfl) (by repeat' (first|exactλ_ _=>rfl|exact trivial|constructor))<|Fn (λ_ _=>rfl) (by repeat' (first|exactλ_ _=>rfl|exact trivial|constructor))<|Fn (λ_ _=>rfl) (by repeat' (first|exactλ_ _=>rfl|exact trivial|constructor))<|Fn (λ_ _=>rfl) (by repeat' (first|exactλ_ _=>rfl|exact trivial|constructor))<|Fn (λ_ _=>rfl) (by repeat' (first|exactλ_ _=>rfl|exact trivial|constructor))<|Fn (λ_ _=>rfl) (by repeat' (first|exactλ_ _=>rfl|exact trivial|constructor))<|Lw Xi (λ_ _=>rfl) (by repeat' (first|exactλ_ _=>rfl|exact trivial|constructor))<|Lw Apg (λ_ _=>rfl) (by repeat' (first|exactλ_ _=>rfl|exact trivial|constructor)) Ph)
  λx=>by unfold Qz Z9 Afe Bl Fm;omega) λx=>by unfold Qz Z9 Bl Fm;omega
theorem A2i:GoodL Alo Alm (Av Fm):=Pp (Pg (Aa3 (λ_ _=>rfl) (by repeat' (first|exactλ_ _=>rfl|exact trivial|constructor)) Ph) λ_=>rfl) λ_=>B6i _
end
abbrev PSt:=List ByteArray×Bool×List DDoc×List DSub×Int×List Int×List DQueue×List DTask×Int
def Jj (s:PSt):DWorld×List ByteArray:=(⟨⟨s.2.1,s.2.2.1,s.2.2.2.1,s.2.2.2.2.1⟩,s.2.2.2.2.2.1,s.2.2.2.2.2.2.1,s.2.2.2.2.2.2.2.1,s.2.2.2.2.2.2.2.2⟩,s.1)
def flt (p:DWorld×List ByteArray):PSt:=(p.2,p.1.h.shut,p.1.h.docs,p.1.h.subs,p.1.h.last,p.1.locks,p.1.queues,p.1.tasks,p.1.step)
def Sj (p:DWorld×List ByteArray) (x:ByteArray):DWorld×List ByteArray:=((Ma p.1 x.data.toList).1,p.2++[(Ma p.1 x.data.toList).2])
theorem A9n:∀(ls:List ByteArray) (s:PSt),Jj (ls.foldl (λs x=>flt (Sj (Jj s) x)) s)=ls.foldl Sj (Jj s)
 |[],_=>rfl
 |x::ls,s=>by rw[B6j,B6j,A9n ls];rfl
def L9 (w:DWorld) (ls:List ByteArray):DWorld×List ByteArray:=ls.foldl Sj (w,[])
theorem A51{F w} (b:WB w){ls} (_:ls.length<=1048576) (g:∀x∈ls,x.size<=1048576)
  (d:∀x k (s:PSt),k<ls.length->el ls k=x->WB (Jj s).1->x.size<=1048576->s.1.length<=k->F k s=some (.go (flt (Sj (Jj s) x)))):
  ∃y,Ai F (λs=>s) ls.length 0 (flt (w,[]))=some y/\Jj y=L9 w ls:=by
 have h:=Gv (F:=F) (e:=λ(s:PSt)=>s) ls (λ_ k s=>WB (Jj s).1/\s.1.length<=k) (λs x=>flt (Sj (Jj s) x)) (λx r k s c hx a=>by
  have f:x∈ls:=hx▸Bm c;refine⟨d x k s c hx a.1 (g x f) a.2,(Ar3 a.1 _).1,?_⟩;have:=a.2;show(s.1++[_]).length<=k+1;rw[B5m,B51];omega) (flt (w,[])) ⟨b,B6c _⟩
 exact⟨_,h,A9n ls _⟩
theorem A20{w} (b:WB w){ls} (e:ls.length<=1048576) (f:∀x∈ls,x.size<=1048576):Ade w ls=some (L9 w ls):=by
 obtain⟨y,a,c⟩:=A51 (F:=Au4 ls) b e f (λx k s h hx d g i=>by
  unfold Au4 A99;rw[hx];show B5h (Vy (Jj s).1 x) _=_;rw[Apt (w:=(Jj s).1) d.ws x g,B5i,Aa (by omega)];rfl)
 unfold Ade;rw[Xn b.ws.sm (by have:=b.ws.nt;omega),B5i,<-c];exact congrArg (λz=>B5h z λy=>some (Jj y)) a
theorem Bwl{w} (b:WB w){ls} (e:ls.length<=1048576) (f:∀x∈ls,x.size<=1048576):Amk w ls=some (L9 w ls):=by
 obtain⟨y,a,c⟩:=A51 (F:=Axi ls) b e f (λx k s h hx d g i=>by
  unfold Axi Bba;rw[hx];show B5h (Zl (Jj s).1 x) _=_;rw[A7i (w:=(Jj s).1) d.ws x g,B5i,Aa (by omega)];rfl)
 unfold Amk;rw[U9 b.ws.sm (by have:=b.ws.nt;omega),B5i,<-c];exact congrArg (λz=>B5h z λy=>some (Jj y)) a
theorem A50:∀(ls:List ByteArray) {p:DWorld×List ByteArray},WB p.1->WB (ls.foldl Sj p).1/\(ls.foldl Sj p).2.length=p.2.length+ls.length
 |[],_,b=>⟨b,rfl⟩
 |x::ls,p,b=>by obtain⟨a,c⟩:=A50 ls (p:=Sj p x) (Ar3 b _).1;rw[B6j];refine⟨a,c.trans ?_⟩;show(p.2++[_]).length+ls.length=p.2.length+(x::ls).length;rw[B5m,B51,B5q];omega
structure Marked (w:DWorld) (docs:List DDoc) (subs:List DSub) (locks:List Int) (qs:List DQueue) (ts:List DTask) (k k1 k2 k3 k4 k5:Int):Prop where
 m1:V6 w.h.docs k=some (k1,docs)
 m2:V8 w.h.subs k1=some (k2,subs)
 m3:Lm w.locks k2=some (k3,locks)
 m4:V7 w.queues k3=some (k4,qs)
 m5:V9 w.tasks k4=some (k5,ts)
 held:V5 ⟨⟨w.h.shut,docs,subs,w.h.last⟩,locks,qs,ts,w.step⟩ k=some k5
 nn:0<=k5/\k5<=k+10000000000
theorem Ahu{w} (h:Gn w<=30000000){k} (v:0<=k) (D:k<=1000000000000):∃b c a B ts x k2 y z A,Marked w b c a B ts k x k2 y z A:=by have C:=Bhv w;have e:Afg w=(Ww w.h.shut+Av Kk w.h.docs+Av Lt w.h.subs+Bl w.h.last)+Av Bl w.locks+Av Pb w.queues+Av Qz w.tasks+Bl w.step:=rfl;obtain⟨d,f,n⟩:=Bnu w.h.docs k v (by omega);obtain⟨s,g,o⟩:=Bnx w.h.subs (k+Av Kk w.h.docs) (by omega) (by omega);obtain⟨l,i,p⟩:=Xi w.locks (k+Av Kk w.h.docs+Av Lt w.h.subs) (by omega) (by omega);obtain⟨q,j,r⟩:=Bnv w.queues (k+Av Kk w.h.docs+Av Lt w.h.subs+Av Bl w.locks) (by omega) (by omega);obtain⟨t,m,u⟩:=Bny w.tasks (k+Av Kk w.h.docs+Av Lt w.h.subs+Av Bl w.locks+Av Pb w.queues) (by omega) (by omega);refine⟨d,s,l,q,t,_,_,_,_,_,⟨f,g,i,j,m,?_,by omega,by omega⟩⟩;unfold V5 Av4;simp only;rw[n,B5i,Ab (by omega),o,B5i,Ab (by omega),B5i,Ab (by omega),p,B5i,Ab (by omega),r,B5i,Ab (by omega),u,B5i,Ab (by omega)]
theorem Brv w s (g:Y3 w) (_:Mo s):Ald w s=some true:=by
 unfold Ald;by_cases c:(1048576:Int)<(s.size:Int)
 ·rw[Ad c]
 rw[Ab c,A8w w 1048576 g (by omega) (by omega),B5i];by_cases d:(1048576:Int)<Gn w
 ·rw[if_pos d,Ad (by omega)]
 rw[if_neg d,Ab (by omega)];have b:WB w:=.inl (by omega);have e:=Ar3 b s.data.toList;have q:=Aij (x:=w) (Acl w (by omega));have f:=Aij (x:=(Ma w s.data.toList).1) (Acl _ (by have:=e.1.sz;omega));obtain⟨_,_,_,_,_,_,_,_,_,_,m⟩:=Ahu (w:=w) (by omega) (k:=1) (by omega) (by omega);obtain⟨_,_,_,_,_,_,_,_,_,_,m'⟩:=Ahu (w:=(Ma w s.data.toList).1) e.1.sz (k:=1) (by omega) (by omega);have h:=m.nn;have a:=m'.nn
 rw[q.1,B5i,A7i b.ws s (by omega),B5i,B5i,Apt b.ws s (by omega),B5i,f.2,B5i,decide_eq_true rfl,B5o,Ag,B5i,Ag,B5i,q.2,B5i,B5o,Ag,
  m.m1,B5i,m.m2,B5i,m.m3,B5i,m.m4,B5i,m.m5,B5i]
 simp only;rw[Ab (by omega),B5i,B5i,B5o,Ag,B5i,Ag,m'.m1,B5i,m'.m2,B5i,m'.m3,B5i,m'.m4,B5i,m'.m5,B5i];simp only;rw[m'.held,B5i,Ab (by omega),decide_eq_true rfl,B5o,Ag,B5i,Apt b.ws s (by omega),B5i,f.2,B5i,B5o,Ag,B5i];simp[show¬_<(0:Int)from Int.not_lt.2 a.1]
theorem B1k l (a:D0 Mo l){n} (k:0<=n) (m:n<=1048576):Zf l n=some (if n<A5 Ej l then-1 else n-A5 Ej l):=by
 have p:=a.1;unfold Zf;rw[Ao (by omega) (by omega)];by_cases o:n<l.length
 ·rw[Ad (by omega),if_pos (by rw[I7];omega)]
 rw[Ab (by omega)]
 have h:=Rj (f:=Alx l) (λz=>0<=z.1/\z.1<=1048576/\0<=z.2/\z.2<=l.length) (λz=>((l.length:Int)-z.2).toNat) (λz=>(if z.1<Av Ej (l.drop z.2.toNat)then .inr (-1)else .inl (z.1-Av Ej (l.drop z.2.toNat)):Sum Int Int)) (λz ⟨q,r,j,s⟩=>by
  unfold Alx Awf;by_cases c:z.2<(l.length:Int)
  ·have b:=W3 (l:=l) (i:=z.2.toNat) (by omega);have hx:=a.2 _ (Bm (l:=l) (i:=z.2.toNat) (by omega));unfold Mo at hx;have g:Av Ej (l.drop z.2.toNat)=(el l z.2.toNat).size+Av Ej (l.drop (z.2.toNat+1)):=by rw[b];rfl
   rw[Ad c,Aa ⟨j,c⟩,Ao (by omega) (by omega),g];by_cases d:z.1<((el l z.2.toNat).size:Int)
   ·rw[Ad (by omega),if_pos (by omega)];exact .inr rfl
   ·rw[Ab (by omega),Ao (by omega) (by omega)];refine .inl ⟨_,rfl,⟨by simp only;omega,by simp only;omega,by simp only;omega,by simp only;omega⟩,by simp only;omega,?_⟩;simp only;rw[show(z.2+1).toNat=z.2.toNat+1 by omega];by_cases e:z.1<(((el l z.2.toNat).size+Av Ej (l.drop (z.2.toNat+1)):Nat):Int)
    ·rw[if_pos e,if_pos (by omega)]
    ·rw[if_neg e,if_neg (by omega)];congr 1;omega
  ·rw[Ab c,show z.2.toNat=l.length by omega,B72];refine .inr ?_;show some (Lr.out (B7k z.1))=some (Lr.out (if z.1<((0:Nat):Int)then _ else B7k (z.1-((0:Nat):Int))));rw[if_neg (by omega),show z.1-((0:Nat):Int)=z.1 by omega]) (n-l.length,0) ⟨by simp only;omega,by simp only;omega,by simp only;omega,by simp only;omega⟩
 rw[h,B5i];simp only[Int.toNat_zero,B7v];by_cases d:n<(A5 Ej l:Int)
 ·rw[if_pos d,if_pos (by rw[I7]at d;omega)];rfl
 ·rw[if_neg d,if_neg (by rw[I7]at d;omega),I7,show n-(l.length:Int)-(Av Ej l:Int)=n-((l.length+Av Ej l:Nat):Int)by omega];rfl
theorem A8l l:Av Fm l=l.length:=by
 have:=Abf (c:=λ_:ByteArray=>0) (λ_=>rfl) l
 have h:∀l:List ByteArray,Av Fm l=l.length:=λl=>by
  induction l with
  |nil=>rfl
  |cons x l a=>show Fm x+Av Fm l=_;rw[a,B5q];unfold Fm;omega
 exact h l
theorem Bru w ls (z:Y3 w) (v:D0 Mo ls):Alc w ls=some true:=by
 unfold Alc;rw[A8w w 1048576 z (by omega) (by omega),B5i];by_cases d:(1048576:Int)<Gn w
 ·rw[if_pos d,Ad (by omega)]
 rw[if_neg d,Ab (by omega),B1k ls v (by omega) (by omega),B5i];by_cases e:(1048576:Int)-Gn w<A5 Ej ls
 ·rw[if_pos e,Ad (by omega)]
 rw[if_neg e,Ab (by omega)];have b:WB w:=.inl (by omega);have f:ls.length<=1048576:=by rw[I7]at e;omega
 have g:∀x∈ls,x.size<=1048576:=λx hx=>by have h:Ej x<=A5 Ej ls:=A31 hx;have h:x.size<=A5 Ej ls:=h;omega
 have j:=A50 ls (p:=(w,[])) b;have n:WB (L9 w ls).1:=j.1;have y:(L9 w ls).2.length<=1048576:=by have:(L9 w ls).2.length=0+ls.length:=j.2;omega
 have q:=Aij (x:=w) (Acl w (by omega));have r:=Aij (x:=(L9 w ls).1) (Acl _ (by have:=n.sz;omega));have p:=A6e (l:=ls) (by omega);have o:=A6e (l:=(L9 w ls).2) (by omega);have C:=A8l ls;have u:=A8l (L9 w ls).2;obtain⟨_,_,_,_,_,_,_,_,_,_,m⟩:=Ahu (w:=w) (by omega) (k:=1) (by omega) (by omega);obtain⟨_,_,_,_,_,_,_,_,_,_,m'⟩:=Ahu (w:=(L9 w ls).1) n.sz (k:=1) (by omega) (by omega);have A:=m.nn;have i:=m'.nn;obtain⟨t,s,B⟩:=A2i ls _ A.1 (by omega);obtain⟨D,a,c⟩:=A2i (L9 w ls).2 _ i.1 (by omega)
 rw[q.1,B5i,p.1,B5i,Bwl b f g,B5i,B5i,B5i,A20 b f g,B5i,r.2,B5i,B5o,Ag,o.2,B5i,B5i,B5o,Ag,B5i,q.2,B5i,B5o,Ag,B5i,p.2,B5i,B5o,Ag,
  m.m1,B5i,m.m2,B5i,m.m3,B5i,m.m4,B5i,m.m5,B5i]
 simp only;rw[s,B5i];simp only;rw[Ab (by omega)];simp only[B5i,B5o,cond_false,m'.m1,m'.m2,m'.m3,m'.m4,m'.m5,a,m'.held,c,A20 b f g,r.2,o.2,decide_true];rw[Ab (by omega),Ab (by omega)];rw[Ab (by omega),Ab (by omega)]
section
open Go.RowKit
def Opens (P:Program) (t:TypeId) {T:Type} (f:T->List Ce) (p:T->Prop) (k:Nat):Prop:=
 ∀ {H:Type} (enc:TypeId×Value->H) (w:World) (base:Nat) (a:Nat->Bool) (c:Bool) (b:Nat) (cs:List Value) (x:DataW H×List MemPlace),
  DataW.trod enc P w base a c b t cs=some x->cs.length=k/\∃y:T,p y/\Br (al w) w (f y) cs
theorem B9{S w} {cs:List Value}{o c ds es} (a:Br S w ds ((cs.drop o).take c)) (b:Br S w es (cs.drop (o+c))):Br S w (ds++es) (cs.drop o):=by have h:=Ye a b;rw[<-B7o,B6t]at h;exact h
theorem K2{S w} {cs:List Value}{o} (h:cs.length<=o):Br S w [] (cs.drop o):=B8n h
theorem D3{P t} (g:P.underlying t=some (.int .i64)):Opens P t (λn=>[cI n]) Dv 1:=λenc w base a c b cs x h=>by
 obtain⟨n,rfl,_,i⟩:=DataW.trod_int g h;refine⟨rfl,n,?_,⟨_,_,rfl,rfl,rfl⟩⟩;have d:IntKind.i64.min= -9223372036854775808:=rfl;have e:IntKind.i64.max=9223372036854775807:=rfl;have f: -9223372036854775808<=n/\n<=9223372036854775807:=by simpa [Lit.wf,d,e]using i
 exact f
theorem A5h{P t} (e:P.underlying t=some .bool):Opens P t (λn=>[cB n]) wfB 1:=λenc w base a d c cs x h=>by obtain⟨b,rfl,_⟩:=DataW.trod_bool e h;exact⟨rfl,b,trivial,⟨_,_,rfl,rfl,rfl⟩⟩
theorem X4{P t} (e:P.underlying t=some .string):Opens P t (λs=>[cT s]) Mo 1:=λenc w base a c b cs x h=>by obtain⟨s,rfl,_,d⟩:=DataW.trod_string e h;simp only[maxLen]at d;exact⟨rfl,s,d,⟨_,_,rfl,rfl,rfl⟩⟩
theorem cells?_get {w:World}{base a}:∀ {n:Nat} {cs:List Value},w.cells? base a n=some cs->cs.length=n/\∀j u,cs[j]?=some u->w.cell? (a.add j)=some u:=by
 intro n cs h;unfold World.cells? at h;split at h
 ·have f:∀(l:List Nat) (cs:List Value),l.mapM (λi=>w.cell? (a.add i))=some cs->cs.length=l.length/\∀(j:Nat) u,cs[j]?=some u->∃i,l[j]?=some i/\w.cell? (a.add i)=some u:=by
   intro l;induction l with
   |nil=>intro cs h;simp at h;subst h;simp
   |cons i l k=>
    intro cs h;simp only[Cbi,bind,B7i]at h;obtain⟨u,hu,vs,e,d⟩:=h;simp only[pure,B65.injEq]at d;subst d;have b:=k vs e;refine⟨by simp[b.1],λj v c=>?_⟩;cases j with
    |zero=>simp at c;subst c;exact⟨i,rfl,hu⟩
    |succ j=>simpa using b.2 j v (by simpa using c)
  have b:=f _ _ h;refine⟨by simpa using b.1,λj u c=>?_⟩;obtain⟨i,hi,d⟩:=b.2 j u c;have g:=(B55.1 hi).1;have:i=j:=by have:=(B55.1 hi).2;simpa using this.symm
  subst this;exact d
 ·cases h
theorem Hh{P t e T f p k} (ht:P.underlying t=some (.slice e)) (hk:P.cellsOf e=k) (h0:0<k) (he:Opens P e f p k):Opens P t (λl:List T=>[Ac k f l]) (D0 p) 1:=by
 intro H enc w base L N a2 cs x h;rcases DataW.trod_slice ht h with⟨rfl,_⟩|⟨a,d,cap,U,rest,n,_,rfl,_,hb,hl,hm,a4,W,_,_⟩
 ·exact⟨rfl,[],⟨by simp,λ_ h=>by cases h⟩,⟨_,_,rfl,⟨none,0,rfl,B6i _,by simp[maxLen],λA=>absurd rfl A⟩,rfl⟩⟩
 ·refine⟨rfl,?_⟩;have B:∀i,i<d->∃(y:T) (r:List Value),w.cells? base (a.add (i*k)) k=some r/\r.length=k/\p y/\Br (al w) w (f y) r:=by intro i hi;have h1:=W i hi;rw[hk,B5p (by omega)]at h1;obtain⟨r,F,a0⟩:=B7i.1 h1;obtain⟨v,y,hy⟩:=he enc w base L N n r _ a0;exact⟨y,r,F,v,hy⟩
  have q:0<d->a.spot=none/\a.block<w.heap.size:=λg=>by
   obtain⟨y,r,F,v,_⟩:=B 0 g;have D:=(cells?_get F).2 0 r[0] (B5p (by omega));simp only[B7n]at D;have e0:(a.add 0).add 0=a:=by simp[Addr.add]
   rw[e0]at D;refine⟨World.cell?_spot D,World.block_lt_of_cell? w a D⟩
  have C:∀m,m<=d->∃(l:List T) (s:List Value),l.length=m/\(∀y∈l,p y)/\s.length=m*k/\Br (al w) w (l.flatMap f) s/\∀j u,s[j]?=some u->w.cell? ⟨a.block,a.off+j,none⟩=some u:=by
   intro m;induction m with
   |zero=>intro _;exact⟨[],[],rfl,(λ_ h=>by cases h),by simp,rfl,λj u M=>by simp at M⟩
   |succ m ih=>
    intro b0;obtain⟨l,s,c,I,G,K,F⟩:=ih (by omega);obtain⟨y,r,V,v,Y,hy⟩:=B m (by omega);refine⟨l++[y],s++r,by simp[c],λz S=>?_,by rw[B5m,G,v,B61,B9f],?_,λj u M=>?_⟩
    ·rcases B6g.1 S with S|S
     ·exact I z S
     ·rw[B57.1 S];exact Y
    ·rw[B60];refine Ye K ?_;simpa using hy
    ·by_cases X:j<s.length
     ·rw[B6p X]at M;exact F j u M
     ·rw[B64 (by omega)]at M;have D:=(cells?_get V).2 (j-s.length) u M;have R:=(q (by omega)).1;obtain⟨b,o,sp⟩:=a;simp only at R;subst R;rw[Addr.add_lit,Addr.add_lit]at D;rw[show o+j=o+m*k+(j-s.length)by omega];exact D
  obtain⟨l,s,c,I,G,K,F⟩:=C d (B6i _);refine⟨l,⟨by rw[c];simp only[maxLen]at hm;omega,I⟩,⟨_,_,rfl,⟨some a,cap,by rw[c],by rw[c];exact hl,hm,λA=>?_⟩,rfl⟩⟩
  have g:0<d:=by
   rcases Nat.eq_zero_or_pos d with h|h
   ·subst h;rw[B53 c]at A;exact absurd rfl A
   ·exact h
  obtain⟨O,Q⟩:=q g;obtain⟨b,o,sp⟩:=a;simp only at O Q;subst O;exact⟨b,o,s,rfl,λ_ _=>Q,by rw[c];exact G,F,K⟩
theorem N7{k T f} {L:List T}{S w v} (h:(Ac k f L).rd S w v):∃s:Sv,v=s.v:=by obtain⟨a,cap,e,_⟩:=h;exact⟨⟨a,L.length,cap⟩,e⟩
end
section
open Go.RowKit
theorem A5f:Opens Tryz.prog 243 Ra Acy 3:=by intro H enc w base a b g cs x h;obtain⟨xs,n,_,_,f,d,e⟩:=DataW.trod_struct Tryz.underlying243 h;replace f:cs.length=3:=f.trans (by kernel_rfl);replace d:xs.length=3:=d;have g0:DataW.trod enc Tryz.prog w base a b n 3 ((cs.drop 0).take (Tryz.prog.cellsOf 3))=xs[0]?:=e 0 _ rfl;rw[show Tryz.prog.cellsOf 3=1 from by kernel_rfl,B5p (by omega)]at g0;obtain⟨_,q,m,i⟩:=(D3 Tryz.underlying3) enc w base a b n _ _ g0;have g1:DataW.trod enc Tryz.prog w base a b n 3 ((cs.drop 1).take (Tryz.prog.cellsOf 3))=xs[1]?:=e 1 _ rfl;rw[show Tryz.prog.cellsOf 3=1 from by kernel_rfl,B5p (by omega)]at g1;obtain⟨_,r,s1,j⟩:=(D3 Tryz.underlying3) enc w base a b n _ _ g1;have g2:DataW.trod enc Tryz.prog w base a b n 26 ((cs.drop 2).take (Tryz.prog.cellsOf 26))=xs[2]?:=e 2 _ rfl;rw[show Tryz.prog.cellsOf 26=1 from by kernel_rfl,B5p (by omega)]at g2;obtain⟨_,s,p,l⟩:=(Hh (k:=1) Tryz.underlying26 (by kernel_rfl) (by decide) (D3 Tryz.underlying3)) enc w base a b n _ _ g2;exact⟨f,⟨q,r,s⟩,⟨m,s1,p⟩,B9 (o:=0) (c:=1) i (B9 (o:=1) (c:=1) j (B9 (o:=2) (c:=1) l (K2 (by omega))))⟩
theorem Ari:Opens Tryz.prog 241 T5 Y2 3:=by intro H enc w base a b g cs x h;obtain⟨xs,n,_,_,f,d,e⟩:=DataW.trod_struct Tryz.underlying241 h;replace f:cs.length=3:=f.trans (by kernel_rfl);replace d:xs.length=3:=d;have g0:DataW.trod enc Tryz.prog w base a b n 3 ((cs.drop 0).take (Tryz.prog.cellsOf 3))=xs[0]?:=e 0 _ rfl;rw[show Tryz.prog.cellsOf 3=1 from by kernel_rfl,B5p (by omega)]at g0;obtain⟨_,q,m,i⟩:=(D3 Tryz.underlying3) enc w base a b n _ _ g0;have g1:DataW.trod enc Tryz.prog w base a b n 3 ((cs.drop 1).take (Tryz.prog.cellsOf 3))=xs[1]?:=e 1 _ rfl;rw[show Tryz.prog.cellsOf 3=1 from by kernel_rfl,B5p (by omega)]at g1;obtain⟨_,r,s1,j⟩:=(D3 Tryz.underlying3) enc w base a b n _ _ g1;have g2:DataW.trod enc Tryz.prog w base a b n 88 ((cs.drop 2).take (Tryz.prog.cellsOf 88))=xs[2]?:=e 2 _ rfl;rw[show Tryz.prog.cellsOf 88=1 from by kernel_rfl,B5p (by omega)]at g2;obtain⟨_,s,p,l⟩:=(Hh (k:=3) Tryz.underlying88 (by kernel_rfl) (by decide) (A5f)) enc w base a b n _ _ g2;exact⟨f,⟨q,r,s⟩,⟨m,s1,p⟩,B9 (o:=0) (c:=1) i (B9 (o:=1) (c:=1) j (B9 (o:=2) (c:=1) l (K2 (by omega))))⟩
theorem Bsz:Opens Tryz.prog 265 Ao4 Aui 3:=by intro H enc w base a b g cs x h;obtain⟨xs,n,_,_,f,d,e⟩:=DataW.trod_struct Tryz.underlying265 h;replace f:cs.length=3:=f.trans (by kernel_rfl);replace d:xs.length=3:=d;have g0:DataW.trod enc Tryz.prog w base a b n 3 ((cs.drop 0).take (Tryz.prog.cellsOf 3))=xs[0]?:=e 0 _ rfl;rw[show Tryz.prog.cellsOf 3=1 from by kernel_rfl,B5p (by omega)]at g0;obtain⟨_,p,l,i⟩:=(D3 Tryz.underlying3) enc w base a b n _ _ g0;have g1:DataW.trod enc Tryz.prog w base a b n 3 ((cs.drop 1).take (Tryz.prog.cellsOf 3))=xs[1]?:=e 1 _ rfl;rw[show Tryz.prog.cellsOf 3=1 from by kernel_rfl,B5p (by omega)]at g1;obtain⟨_,q,s1,j⟩:=(D3 Tryz.underlying3) enc w base a b n _ _ g1;have g2:DataW.trod enc Tryz.prog w base a b n 3 ((cs.drop 2).take (Tryz.prog.cellsOf 3))=xs[2]?:=e 2 _ rfl;rw[show Tryz.prog.cellsOf 3=1 from by kernel_rfl,B5p (by omega)]at g2;obtain⟨_,r,m,k⟩:=(D3 Tryz.underlying3) enc w base a b n _ _ g2;exact⟨f,⟨p,q,r⟩,⟨l,s1,m⟩,B9 (o:=0) (c:=1) i (B9 (o:=1) (c:=1) j (B9 (o:=2) (c:=1) k (K2 (by omega))))⟩
theorem Bsv:Opens Tryz.prog 149 Xc Aj0 5:=by intro H enc w base a b g cs x h;obtain⟨xs,n,_,_,f,d,e⟩:=DataW.trod_struct Tryz.underlying149 h;replace f:cs.length=5:=f.trans (by kernel_rfl);replace d:xs.length=5:=d;have g0:DataW.trod enc Tryz.prog w base a b n 9 ((cs.drop 0).take (Tryz.prog.cellsOf 9))=xs[0]?:=e 0 _ rfl;rw[show Tryz.prog.cellsOf 9=1 from by kernel_rfl,B5p (by omega)]at g0;obtain⟨_,u,q,i⟩:=(X4 Tryz.underlying9) enc w base a b n _ _ g0;have g1:DataW.trod enc Tryz.prog w base a b n 3 ((cs.drop 1).take (Tryz.prog.cellsOf 3))=xs[1]?:=e 1 _ rfl;rw[show Tryz.prog.cellsOf 3=1 from by kernel_rfl,B5p (by omega)]at g1;obtain⟨_,v,s1,j⟩:=(D3 Tryz.underlying3) enc w base a b n _ _ g1;have g2:DataW.trod enc Tryz.prog w base a b n 26 ((cs.drop 2).take (Tryz.prog.cellsOf 26))=xs[2]?:=e 2 _ rfl;rw[show Tryz.prog.cellsOf 26=1 from by kernel_rfl,B5p (by omega)]at g2;obtain⟨_,y,r,l⟩:=(Hh (k:=1) Tryz.underlying26 (by kernel_rfl) (by decide) (D3 Tryz.underlying3)) enc w base a b n _ _ g2;have g3:DataW.trod enc Tryz.prog w base a b n 91 ((cs.drop 3).take (Tryz.prog.cellsOf 91))=xs[3]?:=e 3 _ rfl;rw[show Tryz.prog.cellsOf 91=1 from by kernel_rfl,B5p (by omega)]at g3;obtain⟨_,z,s,m⟩:=(Hh (k:=3) Tryz.underlying91 (by kernel_rfl) (by decide) (Ari)) enc w base a b n _ _ g3;have g4:DataW.trod enc Tryz.prog w base a b n 147 ((cs.drop 4).take (Tryz.prog.cellsOf 147))=xs[4]?:=e 4 _ rfl;rw[show Tryz.prog.cellsOf 147=1 from by kernel_rfl,B5p (by omega)]at g4;obtain⟨_,A,t,p⟩:=(Hh (k:=3) Tryz.underlying147 (by kernel_rfl) (by decide) (Bsz)) enc w base a b n _ _ g4;exact⟨f,⟨u,v,y,z,A⟩,⟨q,s1,r,s,t⟩,B9 (o:=0) (c:=1) i (B9 (o:=1) (c:=1) j (B9 (o:=2) (c:=1) l (B9 (o:=3) (c:=1) m (B9 (o:=4) (c:=1) p (K2 (by omega))))))⟩
theorem Bsw:Opens Tryz.prog 152 A1z Auh 4:=by intro H enc w base a b g cs x h;obtain⟨xs,n,_,_,f,d,e⟩:=DataW.trod_struct Tryz.underlying152 h;replace f:cs.length=4:=f.trans (by kernel_rfl);replace d:xs.length=4:=d;have g0:DataW.trod enc Tryz.prog w base a b n 3 ((cs.drop 0).take (Tryz.prog.cellsOf 3))=xs[0]?:=e 0 _ rfl;rw[show Tryz.prog.cellsOf 3=1 from by kernel_rfl,B5p (by omega)]at g0;obtain⟨_,s,p,i⟩:=(D3 Tryz.underlying3) enc w base a b n _ _ g0;have g1:DataW.trod enc Tryz.prog w base a b n 3 ((cs.drop 1).take (Tryz.prog.cellsOf 3))=xs[1]?:=e 1 _ rfl;rw[show Tryz.prog.cellsOf 3=1 from by kernel_rfl,B5p (by omega)]at g1;obtain⟨_,t,s1,j⟩:=(D3 Tryz.underlying3) enc w base a b n _ _ g1;have g2:DataW.trod enc Tryz.prog w base a b n 4 ((cs.drop 2).take (Tryz.prog.cellsOf 4))=xs[2]?:=e 2 _ rfl;rw[show Tryz.prog.cellsOf 4=1 from by kernel_rfl,B5p (by omega)]at g2;obtain⟨_,u,q,l⟩:=(A5h Tryz.underlying4) enc w base a b n _ _ g2;have g3:DataW.trod enc Tryz.prog w base a b n 91 ((cs.drop 3).take (Tryz.prog.cellsOf 91))=xs[3]?:=e 3 _ rfl;rw[show Tryz.prog.cellsOf 91=1 from by kernel_rfl,B5p (by omega)]at g3;obtain⟨_,v,r,m⟩:=(Hh (k:=3) Tryz.underlying91 (by kernel_rfl) (by decide) (Ari)) enc w base a b n _ _ g3;exact⟨f,⟨s,t,u,v⟩,⟨p,s1,q,r⟩,B9 (o:=0) (c:=1) i (B9 (o:=1) (c:=1) j (B9 (o:=2) (c:=1) l (B9 (o:=3) (c:=1) m (K2 (by omega)))))⟩
theorem Bsx:Opens Tryz.prog 154 Xd Aj2 6:=by intro H enc w base a b g cs x h;obtain⟨xs,n,_,_,f,d,e⟩:=DataW.trod_struct Tryz.underlying154 h;replace f:cs.length=6:=f.trans (by kernel_rfl);replace d:xs.length=3:=d;have g0:DataW.trod enc Tryz.prog w base a b n 3 ((cs.drop 0).take (Tryz.prog.cellsOf 3))=xs[0]?:=e 0 _ rfl;rw[show Tryz.prog.cellsOf 3=1 from by kernel_rfl,B5p (by omega)]at g0;obtain⟨_,p,l,i⟩:=(D3 Tryz.underlying3) enc w base a b n _ _ g0;have g1:DataW.trod enc Tryz.prog w base a b n 9 ((cs.drop 1).take (Tryz.prog.cellsOf 9))=xs[1]?:=e 1 _ rfl;rw[show Tryz.prog.cellsOf 9=1 from by kernel_rfl,B5p (by omega)]at g1;obtain⟨_,q,s1,j⟩:=(X4 Tryz.underlying9) enc w base a b n _ _ g1;have g2:DataW.trod enc Tryz.prog w base a b n 152 ((cs.drop 2).take (Tryz.prog.cellsOf 152))=xs[2]?:=e 2 _ rfl;rw[show Tryz.prog.cellsOf 152=4 from by kernel_rfl,B5p (by omega)]at g2;obtain⟨_,r,m,k⟩:=(Bsw) enc w base a b n _ _ g2;exact⟨f,⟨p,q,r⟩,⟨l,s1,m⟩,B9 (o:=0) (c:=1) i (B9 (o:=1) (c:=1) j (B9 (o:=2) (c:=4) k (K2 (by omega))))⟩
theorem Bsy:Opens Tryz.prog 25 A1y Aug 4:=by intro H enc w base a b g cs x h;obtain⟨xs,n,_,_,f,d,e⟩:=DataW.trod_struct Tryz.underlying25 h;replace f:cs.length=4:=f.trans (by kernel_rfl);replace d:xs.length=4:=d;have g0:DataW.trod enc Tryz.prog w base a b n 4 ((cs.drop 0).take (Tryz.prog.cellsOf 4))=xs[0]?:=e 0 _ rfl;rw[show Tryz.prog.cellsOf 4=1 from by kernel_rfl,B5p (by omega)]at g0;obtain⟨_,s,p,i⟩:=(A5h Tryz.underlying4) enc w base a b n _ _ g0;have g1:DataW.trod enc Tryz.prog w base a b n 22 ((cs.drop 1).take (Tryz.prog.cellsOf 22))=xs[1]?:=e 1 _ rfl;rw[show Tryz.prog.cellsOf 22=1 from by kernel_rfl,B5p (by omega)]at g1;obtain⟨_,t,s1,j⟩:=(Hh (k:=5) Tryz.underlying22 (by kernel_rfl) (by decide) (Bsv)) enc w base a b n _ _ g1;have g2:DataW.trod enc Tryz.prog w base a b n 23 ((cs.drop 2).take (Tryz.prog.cellsOf 23))=xs[2]?:=e 2 _ rfl;rw[show Tryz.prog.cellsOf 23=1 from by kernel_rfl,B5p (by omega)]at g2;obtain⟨_,u,q,l⟩:=(Hh (k:=6) Tryz.underlying23 (by kernel_rfl) (by decide) (Bsx)) enc w base a b n _ _ g2;have g3:DataW.trod enc Tryz.prog w base a b n 3 ((cs.drop 3).take (Tryz.prog.cellsOf 3))=xs[3]?:=e 3 _ rfl;rw[show Tryz.prog.cellsOf 3=1 from by kernel_rfl,B5p (by omega)]at g3;obtain⟨_,v,r,m⟩:=(D3 Tryz.underlying3) enc w base a b n _ _ g3;exact⟨f,⟨s,t,u,v⟩,⟨p,s1,q,r⟩,B9 (o:=0) (c:=1) i (B9 (o:=1) (c:=1) j (B9 (o:=2) (c:=1) l (B9 (o:=3) (c:=1) m (K2 (by omega)))))⟩
theorem Bs0:Opens Tryz.prog 86 Aaz Aj1 2:=by intro H enc w base a b f cs x h;obtain⟨xs,n,_,_,e,d,g⟩:=DataW.trod_struct Tryz.underlying86 h;replace e:cs.length=2:=e.trans (by kernel_rfl);replace d:xs.length=2:=d;have g0:DataW.trod enc Tryz.prog w base a b n 9 ((cs.drop 0).take (Tryz.prog.cellsOf 9))=xs[0]?:=g 0 _ rfl;rw[show Tryz.prog.cellsOf 9=1 from by kernel_rfl,B5p (by omega)]at g0;obtain⟨_,m,l,i⟩:=(X4 Tryz.underlying9) enc w base a b n _ _ g0;have g1:DataW.trod enc Tryz.prog w base a b n 26 ((cs.drop 1).take (Tryz.prog.cellsOf 26))=xs[1]?:=g 1 _ rfl;rw[show Tryz.prog.cellsOf 26=1 from by kernel_rfl,B5p (by omega)]at g1;obtain⟨_,p,s1,j⟩:=(Hh (k:=1) Tryz.underlying26 (by kernel_rfl) (by decide) (D3 Tryz.underlying3)) enc w base a b n _ _ g1;exact⟨e,⟨m,p⟩,⟨l,s1⟩,B9 (o:=0) (c:=1) i (B9 (o:=1) (c:=1) j (K2 (by omega)))⟩
theorem Bs1:Opens Tryz.prog 90 A1x Auf 7:=by intro H enc w base a b g cs x h;obtain⟨xs,n,_,_,f,d,e⟩:=DataW.trod_struct Tryz.underlying90 h;replace f:cs.length=7:=f.trans (by kernel_rfl);replace d:xs.length=7:=d;have g0:DataW.trod enc Tryz.prog w base a b n 3 ((cs.drop 0).take (Tryz.prog.cellsOf 3))=xs[0]?:=e 0 _ rfl;rw[show Tryz.prog.cellsOf 3=1 from by kernel_rfl,B5p (by omega)]at g0;obtain⟨_,B,t,j⟩:=(D3 Tryz.underlying3) enc w base a b n _ _ g0;have g1:DataW.trod enc Tryz.prog w base a b n 9 ((cs.drop 1).take (Tryz.prog.cellsOf 9))=xs[1]?:=e 1 _ rfl;rw[show Tryz.prog.cellsOf 9=1 from by kernel_rfl,B5p (by omega)]at g1;obtain⟨_,C,s1,l⟩:=(X4 Tryz.underlying9) enc w base a b n _ _ g1;have g2:DataW.trod enc Tryz.prog w base a b n 3 ((cs.drop 2).take (Tryz.prog.cellsOf 3))=xs[2]?:=e 2 _ rfl;rw[show Tryz.prog.cellsOf 3=1 from by kernel_rfl,B5p (by omega)]at g2;obtain⟨_,D,u,m⟩:=(D3 Tryz.underlying3) enc w base a b n _ _ g2;have g3:DataW.trod enc Tryz.prog w base a b n 3 ((cs.drop 3).take (Tryz.prog.cellsOf 3))=xs[3]?:=e 3 _ rfl;rw[show Tryz.prog.cellsOf 3=1 from by kernel_rfl,B5p (by omega)]at g3;obtain⟨_,F,v,p⟩:=(D3 Tryz.underlying3) enc w base a b n _ _ g3;have g4:DataW.trod enc Tryz.prog w base a b n 3 ((cs.drop 4).take (Tryz.prog.cellsOf 3))=xs[4]?:=e 4 _ rfl;rw[show Tryz.prog.cellsOf 3=1 from by kernel_rfl,B5p (by omega)]at g4;obtain⟨_,G,y,q⟩:=(D3 Tryz.underlying3) enc w base a b n _ _ g4;have g5:DataW.trod enc Tryz.prog w base a b n 88 ((cs.drop 5).take (Tryz.prog.cellsOf 88))=xs[5]?:=e 5 _ rfl;rw[show Tryz.prog.cellsOf 88=1 from by kernel_rfl,B5p (by omega)]at g5;obtain⟨_,I,z,r⟩:=(Hh (k:=3) Tryz.underlying88 (by kernel_rfl) (by decide) (A5f)) enc w base a b n _ _ g5;have i:DataW.trod enc Tryz.prog w base a b n 26 ((cs.drop 6).take (Tryz.prog.cellsOf 26))=xs[6]?:=e 6 _ rfl;rw[show Tryz.prog.cellsOf 26=1 from by kernel_rfl,B5p (by omega)]at i;obtain⟨_,K,A,s⟩:=(Hh (k:=1) Tryz.underlying26 (by kernel_rfl) (by decide) (D3 Tryz.underlying3)) enc w base a b n _ _ i;exact⟨f,⟨B,C,D,F,G,I,K⟩,⟨t,s1,u,v,y,z,A⟩,B9 (o:=0) (c:=1) j (B9 (o:=1) (c:=1) l (B9 (o:=2) (c:=1) m (B9 (o:=3) (c:=1) p (B9 (o:=4) (c:=1) q (B9 (o:=5) (c:=1) r (B9 (o:=6) (c:=1) s (K2 (by omega))))))))⟩
theorem Bs2:Opens Tryz.prog 93 A1w Aue 4:=by intro H enc w base a b g cs x h;obtain⟨xs,n,_,_,f,d,e⟩:=DataW.trod_struct Tryz.underlying93 h;replace f:cs.length=4:=f.trans (by kernel_rfl);replace d:xs.length=4:=d;have g0:DataW.trod enc Tryz.prog w base a b n 3 ((cs.drop 0).take (Tryz.prog.cellsOf 3))=xs[0]?:=e 0 _ rfl;rw[show Tryz.prog.cellsOf 3=1 from by kernel_rfl,B5p (by omega)]at g0;obtain⟨_,s,p,i⟩:=(D3 Tryz.underlying3) enc w base a b n _ _ g0;have g1:DataW.trod enc Tryz.prog w base a b n 3 ((cs.drop 1).take (Tryz.prog.cellsOf 3))=xs[1]?:=e 1 _ rfl;rw[show Tryz.prog.cellsOf 3=1 from by kernel_rfl,B5p (by omega)]at g1;obtain⟨_,t,s1,j⟩:=(D3 Tryz.underlying3) enc w base a b n _ _ g1;have g2:DataW.trod enc Tryz.prog w base a b n 26 ((cs.drop 2).take (Tryz.prog.cellsOf 26))=xs[2]?:=e 2 _ rfl;rw[show Tryz.prog.cellsOf 26=1 from by kernel_rfl,B5p (by omega)]at g2;obtain⟨_,u,q,l⟩:=(Hh (k:=1) Tryz.underlying26 (by kernel_rfl) (by decide) (D3 Tryz.underlying3)) enc w base a b n _ _ g2;have g3:DataW.trod enc Tryz.prog w base a b n 91 ((cs.drop 3).take (Tryz.prog.cellsOf 91))=xs[3]?:=e 3 _ rfl;rw[show Tryz.prog.cellsOf 91=1 from by kernel_rfl,B5p (by omega)]at g3;obtain⟨_,v,r,m⟩:=(Hh (k:=3) Tryz.underlying91 (by kernel_rfl) (by decide) (Ari)) enc w base a b n _ _ g3;exact⟨f,⟨s,t,u,v⟩,⟨p,s1,q,r⟩,B9 (o:=0) (c:=1) i (B9 (o:=1) (c:=1) j (B9 (o:=2) (c:=1) l (B9 (o:=3) (c:=1) m (K2 (by omega)))))⟩
theorem Bs3:Opens Tryz.prog 95 Aa0 Aj3 15:=by intro H enc w base a b g cs x h;obtain⟨xs,n,_,_,f,d,e⟩:=DataW.trod_struct Tryz.underlying95 h;replace f:cs.length=15:=f.trans (by kernel_rfl);replace d:xs.length=6:=d;have g0:DataW.trod enc Tryz.prog w base a b n 90 ((cs.drop 0).take (Tryz.prog.cellsOf 90))=xs[0]?:=e 0 _ rfl;rw[show Tryz.prog.cellsOf 90=7 from by kernel_rfl,B5p (by omega)]at g0;obtain⟨_,v,q,i⟩:=(Bs1) enc w base a b n _ _ g0;have g1:DataW.trod enc Tryz.prog w base a b n 3 ((cs.drop 7).take (Tryz.prog.cellsOf 3))=xs[1]?:=e 1 _ rfl;rw[show Tryz.prog.cellsOf 3=1 from by kernel_rfl,B5p (by omega)]at g1;obtain⟨_,y,s1,j⟩:=(D3 Tryz.underlying3) enc w base a b n _ _ g1;have g2:DataW.trod enc Tryz.prog w base a b n 3 ((cs.drop 8).take (Tryz.prog.cellsOf 3))=xs[2]?:=e 2 _ rfl;rw[show Tryz.prog.cellsOf 3=1 from by kernel_rfl,B5p (by omega)]at g2;obtain⟨_,z,r,k⟩:=(D3 Tryz.underlying3) enc w base a b n _ _ g2;have g3:DataW.trod enc Tryz.prog w base a b n 3 ((cs.drop 9).take (Tryz.prog.cellsOf 3))=xs[3]?:=e 3 _ rfl;rw[show Tryz.prog.cellsOf 3=1 from by kernel_rfl,B5p (by omega)]at g3;obtain⟨_,A,s,l⟩:=(D3 Tryz.underlying3) enc w base a b n _ _ g3;have g4:DataW.trod enc Tryz.prog w base a b n 3 ((cs.drop 10).take (Tryz.prog.cellsOf 3))=xs[4]?:=e 4 _ rfl;rw[show Tryz.prog.cellsOf 3=1 from by kernel_rfl,B5p (by omega)]at g4;obtain⟨_,B,t,m⟩:=(D3 Tryz.underlying3) enc w base a b n _ _ g4;have g5:DataW.trod enc Tryz.prog w base a b n 93 ((cs.drop 11).take (Tryz.prog.cellsOf 93))=xs[5]?:=e 5 _ rfl;rw[show Tryz.prog.cellsOf 93=4 from by kernel_rfl,B5p (by omega)]at g5;obtain⟨_,C,u,p⟩:=(Bs2) enc w base a b n _ _ g5;exact⟨f,⟨v,y,z,A,B,C⟩,⟨q,s1,r,s,t,u⟩,B9 (o:=0) (c:=7) i (B9 (o:=7) (c:=1) j (B9 (o:=8) (c:=1) k (B9 (o:=9) (c:=1) l (B9 (o:=10) (c:=1) m (B9 (o:=11) (c:=4) p (K2 (by omega)))))))⟩
theorem A5g:Opens Tryz.prog 30 Agg Y3 8:=by intro H enc w base a b g cs x h;obtain⟨xs,n,_,_,f,d,e⟩:=DataW.trod_struct Tryz.underlying30 h;replace f:cs.length=8:=f.trans (by kernel_rfl);replace d:xs.length=5:=d;have g0:DataW.trod enc Tryz.prog w base a b n 25 ((cs.drop 0).take (Tryz.prog.cellsOf 25))=xs[0]?:=e 0 _ rfl;rw[show Tryz.prog.cellsOf 25=4 from by kernel_rfl,B5p (by omega)]at g0;obtain⟨_,u,q,i⟩:=(Bsy) enc w base a b n _ _ g0;have g1:DataW.trod enc Tryz.prog w base a b n 26 ((cs.drop 4).take (Tryz.prog.cellsOf 26))=xs[1]?:=e 1 _ rfl;rw[show Tryz.prog.cellsOf 26=1 from by kernel_rfl,B5p (by omega)]at g1;obtain⟨_,v,s1,j⟩:=(Hh (k:=1) Tryz.underlying26 (by kernel_rfl) (by decide) (D3 Tryz.underlying3)) enc w base a b n _ _ g1;have g2:DataW.trod enc Tryz.prog w base a b n 27 ((cs.drop 5).take (Tryz.prog.cellsOf 27))=xs[2]?:=e 2 _ rfl;rw[show Tryz.prog.cellsOf 27=1 from by kernel_rfl,B5p (by omega)]at g2;obtain⟨_,y,r,l⟩:=(Hh (k:=2) Tryz.underlying27 (by kernel_rfl) (by decide) (Bs0)) enc w base a b n _ _ g2;have g3:DataW.trod enc Tryz.prog w base a b n 28 ((cs.drop 6).take (Tryz.prog.cellsOf 28))=xs[3]?:=e 3 _ rfl;rw[show Tryz.prog.cellsOf 28=1 from by kernel_rfl,B5p (by omega)]at g3;obtain⟨_,z,s,m⟩:=(Hh (k:=15) Tryz.underlying28 (by kernel_rfl) (by decide) (Bs3)) enc w base a b n _ _ g3;have g4:DataW.trod enc Tryz.prog w base a b n 3 ((cs.drop 7).take (Tryz.prog.cellsOf 3))=xs[4]?:=e 4 _ rfl;rw[show Tryz.prog.cellsOf 3=1 from by kernel_rfl,B5p (by omega)]at g4;obtain⟨_,A,t,p⟩:=(D3 Tryz.underlying3) enc w base a b n _ _ g4;exact⟨f,⟨u,v,y,z,A⟩,⟨q,s1,r,s,t⟩,B9 (o:=0) (c:=4) i (B9 (o:=4) (c:=1) j (B9 (o:=5) (c:=1) l (B9 (o:=6) (c:=1) m (B9 (o:=7) (c:=1) p (K2 (by omega))))))⟩
end
end
end Go.Proofs.YtcdecpdpmpfbnaaGreatDoor
