/- Part 5 of the proof: lemmas. No condition. -/
import Derived.Test.YtcdecpdpmpfbnaaGreatDoorZ4
open Option renaming bind->B5h,bind_some->B5i,map_eq_some_iff->B5s,some->B65,bind_eq_some_iff->B7i,getD_some->Cat,isSome_some->Cbt
open List renaming mem_cons_of_mem->B5j,length_append->B5m,mem_cons_self->B5n,getElem?_eq_getElem->B5p,length_cons->B5q,append_assoc->B5r,mem_cons->B5t,length_take->B5x,length_nil->B5y,length_drop->B50,eq_nil_of_length_eq_zero->B53,getElem?_eq_some_iff->B55,mem_singleton->B57,cons_append->B6a,all_eq_true->B6b,mem_append->B6g,flatMap_cons->B6h,foldl_cons->B6j,replicate->B6l,take_length->B6m,getD_eq_getElem?_getD->B6n,append_nil->B6o,getElem?_append_left->B6p,map_cons->B6r,take_append_drop->B6t,length_set->B6v,length_map->B6x,mem_of_mem_drop->B6z,nil_append->B62,getElem?_append_right->B64,take_of_length_le->B7a,mem_or_eq_of_mem_set->B7j,drop_drop->B7o,set_cons_zero->B7r,all_cons->B7s,drop_zero->B7v,set_append_right->B7y,getElem?_eq_none->B7z,drop_length->B72,mem_map->B75,mem_of_mem_take->B76,drop_eq_getElem_cons->B78,drop_succ_cons->B8a,foldl_append->B8e,pairwise_cons->B8h,foldl_nil->B8i,find?_cons->B8j,drop_eq_nil_of_le->B8n,replicate_succ->B8o,getElem?_map->B8q,length_pos_iff->B8s,set_getElem_self->B8y,set_cons_succ->B80,set_eq_of_length_le->B83,drop_take->B84,take_add_one->B85,findIdx_lt_length_of_exists->B9n,getElem?_set_self->B9p,takeWhile_prefix->B9y,mem_flatMap->B92,any_eq_true->B94,take_set_of_le->B96,take_succ_cons->B97,takeWhile_cons->B99,take_left'->Cag,all_append->Cai,mem_of_find?_eq_some->Caj,pairwise_map->Cau,findIdx_cons->Cav,pairwise_singleton->Caw,not_mem_nil->Ca2,pairwise_append->Cbd,set_set->Cbf,any_cons->Cbo,map_set->Cbu
open Int renaming toNat_natCast->B58,le_refl->B67
open Nat renaming zero_le->B6c,le_refl->B6i,zero_add->B7x,add_sub_cancel->B89,eq_or_lt_of_le->Caa,le_of_not_lt->Cax
open Bool renaming and_eq_true->B5l,not_true->B5o,or_eq_false_iff->B6k,false_eq_true->B6q,or_eq_true->B6s,not_false->B6u,not_eq_true'->B66,true_and->B7t,false_or->B8v,or_false->B8x,eq_false_iff->B88,and_false->B90,not_eq_true->B95,and_true->Cak,false_and->Car,and_self->Ca7,and_eq_false_iff->Ca9,true_or->Cbh,or_self->Cbv
open ByteArray renaming empty->B52
open UInt8 renaming toNat_inj->B8k
open Array renaming ext'->Cbx
open Sum renaming elim->B59,inr->B6e,inl->B7k,elim_inl->B7u,elim_inr->Ca8
open Decidable renaming byContradiction->Cbc
namespace Go.Proofs.YtcdecpdpmpfbnaaGreatDoor
noncomputable section
theorem Aqz (a:Nat):((a:Int)<=200)↔a<=200:=by omega
theorem A4h (a:Nat):((a:Int)<=600)↔a<=600:=by omega
def Cc (n:Int):Bool:=decide ((0<=n/\n<=1114111)/\¬(55296<=n/\n<=57343))
def Cf (l:List Int):Bool:=decide (l.length<=200)&&l.all Cc
theorem Ez n a hi:Bk n a hi=some (decide (a<=n/\n<=hi)):=by unfold Bk;simp only[B5i,Bo,Dd];refine Gu ?_;simp
theorem E5 n a hi:Bt n a hi=some (decide (a<=n/\n<=hi)):=by unfold Bt;simp only[B5i,Bo,Dd];refine Gu ?_;simp
theorem Bpa n:Adg n=some (Cc n):=by unfold Adg Cc;simp only[Ez,B5i,Bo,Dd];refine Gu ?_;simp;try omega
theorem A7k n:Zn n=some (Cc n):=by unfold Zn Cc;simp only[E5,B5i,Bo,Dd];refine Gu ?_;simp;try omega
theorem Ag2 l:Oq l=some (l.all Cc):=by
 unfold Oq
 rw[Q8 (b:=.inr ()) l Cc (λx k a hx=>by
  unfold Avb Ava;rw[hx,Bpa];cases Cc x<;>rfl)]
 cases l.all Cc<;>rfl
theorem As3 l:Ql l=some (l.all Cc):=by
 unfold Ql
 rw[Q8 (b:=.inr ()) l Cc (λx k a hx=>by
  unfold Axm Axl;rw[hx,A7k];cases Cc x<;>rfl)]
 cases l.all Cc<;>rfl
theorem Aa8 l:Ms l=some (Cf l):=by unfold Ms Cf;simp only[Ag2,B5i,Bo,Dd];refine Gu ?_;simp;try omega
theorem Ai3 l:Qo l=some (Cf l):=by unfold Qo Cf;simp only[As3,B5i,Bo,Dd];refine Gu ?_;simp[Aqz,and_comm]
def A4 (p:DPart):Bool:=
 if p.kind=1\/p.kind=3 then decide ((0<=p.n/\p.n<=200)/\p.signs.length=0)
 else if p.kind=2 then decide (p.n=0/\p.signs.length<=200)&&p.signs.all Cc
 else false
theorem Bo2 p:Add p=some (A4 p):=by
 unfold Add A4;simp only[Ez,Ag2,B5i,Bo,Dd];refine Gu ?_;by_cases a:p.kind=1
 ·simp[a]
 ·by_cases c:p.kind=3
  ·simp[c]
  ·by_cases b:p.kind=2
   ·simp[b,Aqz,and_assoc]
   ·simp[a,b,c]
theorem Bwj p:Aeh p=some (A4 p):=by
 unfold Aeh A4;simp only[E5,As3,B5i,Bo,Dd];refine Gu ?_;by_cases a:p.kind=1
 ·simp[a]
 ·by_cases c:p.kind=3
  ·simp[c]
  ·by_cases b:p.kind=2
   ·simp[b,Aqz,and_comm,and_left_comm,and_assoc]
   ·simp[a,b,c]
def Dj (o:List DPart):Bool:=decide (o.length<=600)&&o.all A4
theorem Ap1 o:Sy o=some (Dj o):=by
 unfold Sy Dj
 rw[Q8 (b:=.inr ()) o A4 (λx k a hx=>by
  unfold Avk Avj;rw[hx,Bo2];cases A4 x<;>rfl)]
 cases o.all A4<;>simp[A4h]
theorem As0 o:S9 o=some (Dj o):=by
 unfold S9 Dj
 rw[Q8 (b:=.inr ()) o A4 (λx k a hx=>by
  unfold Axy Axx;rw[hx,Bwj];cases A4 x<;>rfl)]
 cases o.all A4<;>simp[A4h]
def Dc (p:DPart):Int:=if p.kind=1 then p.n else 0
def Ds (p:DPart):Int:=if p.kind=2 then p.signs.length else 0
def Dr (p:DPart):Int:=if p.kind=3 then p.n else 0
def Im (p:DPart):Int:=Dc p+Dr p
def N2 (p:DPart):Int:=Dc p+Ds p
theorem Ea{p} (h:A4 p=true):(p.kind=1/\0<=p.n/\p.n<=200/\p.signs=[])\/(p.kind=2/\p.n=0/\p.signs.length<=200/\p.signs.all Cc=true)\/(p.kind=3/\0<=p.n/\p.n<=200/\p.signs=[]):=by
 unfold A4 at h;split at h
 ·rename_i a;simp at h;rcases a with a|a
  ·exact .inl ⟨a,h.1.1,h.1.2,h.2⟩
  ·exact .inr (.inr ⟨a,h.1.1,h.1.2,h.2⟩)
 ·split at h
  ·rename_i a;simp only[B5l,decide_eq_true_eq]at h;exact .inr (.inl ⟨a,h.1.1,h.1.2,h.2⟩)
  ·cases h
theorem Jw{p} (h:A4 p=true):p.signs.length<=200/\0<=p.n/\p.n<=200:=by
 rcases Ea h with⟨d,b,a,c⟩|⟨d,b,a,c⟩|⟨d,b,a,c⟩
 ·rw[c];exact⟨by simp,b,a⟩
 ·exact⟨a,by omega,by omega⟩
 ·rw[c];exact⟨by simp,b,a⟩
theorem Gj{o} (h:Dj o=true){p} (a:p∈o):A4 p=true:=by unfold Dj at h;simp only[B5l,B6b]at h;exact h.2 p a
theorem Ky{o} (h:Dj o=true):o.length<=600:=by unfold Dj at h;simp only[B5l,decide_eq_true_eq]at h;exact h.1
def Cb (o:List DPart):Int:=B6 Im o
def Gp (o:List DPart):Int:=B6 N2 o
def Cz (o:List DPart):Int:=B6 Ds o
def C5 (o:List DPart):Int:=B6 Dr o
def Cv (o:List DPart):Int:=B6 Dc o
theorem Vj o:Cb o=Cv o+C5 o:=by
 unfold Cb Cv C5;induction o with
 |nil=>rfl
 |cons p o a=>simp only[B6,a,Im];omega
theorem Vk o:Gp o=Cv o+Cz o:=by
 unfold Gp Cv Cz;induction o with
 |nil=>rfl
 |cons p o a=>simp only[B6,a,N2];omega
theorem Ae8{p} (h:A4 p=true):(0<=Dc p/\Dc p<=200)/\(0<=Ds p/\Ds p<=200)/\(0<=Dr p/\Dr p<=200)/\(0<=Im p/\Im p<=200)/\(0<=N2 p/\N2 p<=200):=by unfold Im N2 Dc Ds Dr;rcases Ea h with⟨a,b,c,d⟩|⟨a,b,c,d⟩|⟨a,b,c,d⟩<;>simp[a]<;>omega
theorem Z4{o} (h:Dj o=true):(0<=Cv o/\Cv o<=120000)/\(0<=Cz o/\Cz o<=120000)/\(0<=C5 o/\C5 o<=120000):=by
 have g:=Ky h;have a:∀(f:DPart->Int),(∀p,A4 p=true->0<=f p/\f p<=200)->0<=B6 f o/\B6 f o<=120000:=λf c=>by have d:=Yw (f:=f) (l:=o) (λx hx=>(c x (Gj h hx)).1);have e:=A8f (f:=f) (n:=200) (l:=o) (λx hx=>(c x (Gj h hx)).2);omega
 exact⟨a _ λp b=>(Ae8 b).1,a _ λp b=>(Ae8 b).2.1,a _ λp b=>(Ae8 b).2.2.1⟩
theorem A3b{p} (h:A4 p=true):Kc p=some (p.n+p.signs.length):=by unfold Kc;have:=Jw h;rw[Ao (by omega) (by omega)]
theorem A3c o a:Adw o a=some (if Dj o then B6 (λp=>if p.kind=a then 0 else p.n+p.signs.length) o else 0):=by
 unfold Adw;rw[Ap1];simp only[B5i];cases h:Dj o with
 |false=>rfl
 |true=>
  have q:=Ky h;simp only[B5o,cond_false,if_true]
  rw[Bm4 o (λp=>if p.kind=a then 0 else p.n+p.signs.length) 200 (by decide) (by omega) (λx hx=>by
   rcases Ea (Gj h hx)with⟨e,b,f,c⟩|⟨e,b,f,c⟩|⟨e,b,f,c⟩<;>(try rw[c])<;>(try rw[b])<;>split<;>simp<;>omega) (λx k s m hx i j r=>by
   have g:=Gj h i;unfold Bap Bao;rw[hx,A3b g];have l:=Jw g;by_cases d:x.kind=a
   ·simp[d]
   ·rw[Bn,Ab d,if_neg d];simp only[B5i];rw[Ao (by omega) (by omega)])]
  rfl
theorem Ag0 o:Mq o=some (if Dj o then Cb o else 0):=by
 unfold Mq;rw[A3c];simp only[B5i];cases h:Dj o with
 |false=>rfl
 |true=>
  simp only[if_true]
  rw[Cb,Acp (f:=λp=>if p.kind=2 then 0 else p.n+p.signs.length) (g:=Im) λp e=>by
   unfold Im Dc Dr;rcases Ea (Gj h e)with⟨a,c,d,b⟩|⟨a,c,d,b⟩|⟨a,c,d,b⟩<;>simp[a,b]]
theorem Bo0 o:Akl o=some (if Dj o then Gp o else 0):=by
 unfold Akl;rw[A3c];simp only[B5i];cases h:Dj o with
 |false=>rfl
 |true=>
  simp only[if_true]
  rw[Gp,Acp (f:=λp=>if p.kind=3 then 0 else p.n+p.signs.length) (g:=N2) λp e=>by
   unfold N2 Dc Ds;rcases Ea (Gj h e)with⟨a,b,d,c⟩|⟨a,b,d,c⟩|⟨a,b,d,c⟩<;>simp[a,b,c]]
def Az (o:List DPart):Bool:=Dj o&&decide (Cb o<=200)&&decide (Gp o<=200)
theorem Np o:Fp o=some (Az o):=by unfold Fp Az;simp only[Ap1,Ag0,Bo0,B5i,Bo,Dd];cases Dj o<;>simp
theorem A7n o:Aeq o=some (if Dj o then(Cv o,Cz o,C5 o)else(0,0,0)):=by
 unfold Aeq;rw[As0];simp only[B5i];cases h:Dj o with
 |false=>rfl
 |true=>
  have u:=Ky h;simp only[B5o,cond_false,if_true];have q:∀p∈o,A4 p=true:=λp e=>Gj h e
  rw[Gv (F:=Axz o) o (λr k s=>((0<=s.1/\s.1<=200*k)/\(0<=s.2.1/\s.2.1<=200*k)/\(0<=s.2.2/\s.2.2<=200*k))/\k<=600) (λs x=>(s.1+Dc x,s.2.1+Ds x,s.2.2+Dr x)) (λx r k s n hx m=>by
   have e:=q x (hx▸Bm n);obtain⟨s1,v,w⟩:=s;simp only at m⊢;unfold Axz Bbl;rw[hx];simp only;unfold Dc Ds Dr;rcases Ea e with⟨d,g,i,j⟩|⟨d,g,i,j⟩|⟨d,g,i,j⟩
   ·rw[Ad d,Ao (by omega) (by omega)];simp[d];omega
   ·rw[Ab (by omega),Ad d,Ao (by omega) (by omega)];simp[d];omega
   ·rw[Ab (by omega),Ab (by omega),Ao (by omega) (by omega)];simp[d];omega) (0,0,0) (by simp)]
  simp only[B5i]
  have f:∀(l:List DPart) (a b c:Int),l.foldl (λs x=>(s.1+Dc x,s.2.1+Ds x,s.2.2+Dr x)) (a,b,c)=(a+B6 Dc l,b+B6 Ds l,c+B6 Dr l):=by
   intro l;induction l with
   |nil=>intro a b c;simp[B6]
   |cons x l t=>intro a b c;rw[B6j,t];simp only[B6,Int.add_assoc]
  rw[f];simp[Cv,Cz,C5]
theorem Acf o:Ox o=some (if Dj o then Cb o else 0):=by
 unfold Ox;rw[A7n,Vj];cases h:Dj o with
 |false=>rfl
 |true=>have:=Z4 h;simp only[B5i,if_true];rw[Ao (by omega) (by omega)]
theorem Bwi o:Amg o=some (if Dj o then Gp o else 0):=by
 unfold Amg;rw[A7n,Vk];cases h:Dj o with
 |false=>rfl
 |true=>have:=Z4 h;simp only[B5i,if_true];rw[Ao (by omega) (by omega)]
theorem Mf o:Gh o=some (Az o):=by unfold Gh Az;simp only[As0,Acf,Bwi,B5i,Bo,Dd];cases Dj o<;>simp
def P9 (x:DPart):Prop:=Dt x.kind/\Dt x.n/\(C0 Dt) x.signs
def Acy (x:DPart):Prop:=Dv x.kind/\Dv x.n/\(D0 Dv) x.signs
def Fb (x:DPart):Nat:=(A5 F5) x.signs
def Qy (x:DPart):Nat:=Bl x.kind+Bl x.n+(Av Bl) x.signs
theorem Atl x (h:Fb x<=1099511627776):P9 x:=by unfold Fb at h;exact⟨D6 _ (by first|omega|exact B6c _),D6 _ (by first|omega|exact B6c _),(Hn D6) _ (by first|omega|exact B6c _)⟩
theorem Bhj x:Qy x<=2+64*Fb x:=by have a:=(G9 Wx) x.signs;unfold Qy Fb;(try simp only[Bl]at*);omega
theorem Azf x:Qy x<=64*(1+Fb x):=by have:=Bhj x;omega
def Hm (x:DEntry):Prop:=Dt x.client/\Dt x.seq/\(C0 P9) x.o
def Y2 (x:DEntry):Prop:=Dv x.client/\Dv x.seq/\(D0 Acy) x.o
def Fa (x:DEntry):Nat:=(A5 Fb) x.o
def Pa (x:DEntry):Nat:=Bl x.client+Bl x.seq+(Av Qy) x.o
theorem Atk x (h:Fa x<=1099511627776):Hm x:=by unfold Fa at h;exact⟨D6 _ (by first|omega|exact B6c _),D6 _ (by first|omega|exact B6c _),(Hn Atl) _ (by first|omega|exact B6c _)⟩
theorem Bhh x:Pa x<=2+64*Fa x:=by have a:=(G9 Azf) x.o;unfold Pa Fa;(try simp only[Bl]at*);omega
theorem Anm x:Pa x<=64*(1+Fa x):=by have:=Bhh x;omega
def Ati (x:DSeen):Prop:=Dt x.client/\Dt x.seq/\Dt x.rev
def Aui (x:DSeen):Prop:=Dv x.client/\Dv x.seq/\Dv x.rev
def Mk (x:DSeen):Nat:=0
def Tn (x:DSeen):Nat:=Bl x.client+Bl x.seq+Bl x.rev
theorem Byb x (h:Mk x<=1099511627776):Ati x:=by unfold Mk at h;exact⟨D6 _ (by first|omega|exact B6c _),D6 _ (by first|omega|exact B6c _),D6 _ (by first|omega|exact B6c _)⟩
theorem Bhm x:Tn x<=3+64*Mk x:=by unfold Tn Mk;(try simp only[Bl]at*);omega
theorem Bhs x:Tn x<=64*(1+Mk x):=by have:=Bhm x;omega
def Eb (x:DDoc):Prop:=Qa x.name/\Dt x.from_/\(C0 Dt) x.text/\(C0 Hm) x.list/\(C0 Ati) x.seen
def Aj0 (x:DDoc):Prop:=Mo x.name/\Dv x.from_/\(D0 Dv) x.text/\(D0 Y2) x.list/\(D0 Aui) x.seen
def Jh (x:DDoc):Nat:=Ej x.name+(A5 F5) x.text+(A5 Fa) x.list+(A5 Mk) x.seen
def Kk (x:DDoc):Nat:=Fm x.name+Bl x.from_+(Av Bl) x.text+(Av Pa) x.list+(Av Tn) x.seen
theorem Bx7 x (h:Jh x<=1099511627776):Eb x:=by unfold Jh at h;exact⟨Ajk _ (by first|omega|exact B6c _),D6 _ (by first|omega|exact B6c _),(Hn D6) _ (by first|omega|exact B6c _),(Hn Atk) _ (by first|omega|exact B6c _),(Hn Byb) _ (by first|omega|exact B6c _)⟩
theorem Bhg x:Kk x<=2+64*Jh x:=by have a:=(G9 Wx) x.text;have b:=(G9 Anm) x.list;have c:=(G9 Bhs) x.seen;unfold Kk Jh;(try simp only[Bl,Fm]at*);omega
theorem Bhq x:Kk x<=64*(1+Jh x):=by have:=Bhg x;omega
def Aji (x:DRing):Prop:=Dt x.cap/\Dt x.next/\smB x.out/\(C0 Hm) x.list
def Auh (x:DRing):Prop:=Dv x.cap/\Dv x.next/\wfB x.out/\(D0 Y2) x.list
def Qb (x:DRing):Nat:=(A5 Fa) x.list
def Aff (x:DRing):Nat:=Bl x.cap+Bl x.next+Ww x.out+(Av Pa) x.list
theorem Bya x (h:Qb x<=1099511627776):Aji x:=by unfold Qb at h;exact⟨D6 _ (by first|omega|exact B6c _),D6 _ (by first|omega|exact B6c _),A73 _ (by first|omega|exact B6c _),(Hn Atk) _ (by first|omega|exact B6c _)⟩
theorem Bhl x:Aff x<=3+64*Qb x:=by have a:=(G9 Anm) x.list;unfold Aff Qb;(try simp only[Bl,Ww]at*);omega
def Ajj (x:DSub):Prop:=Dt x.id/\Qa x.doc/\Aji x.r
def Aj2 (x:DSub):Prop:=Dv x.id/\Mo x.doc/\Auh x.r
def J8 (x:DSub):Nat:=Ej x.doc+Qb x.r
def Lt (x:DSub):Nat:=Bl x.id+Fm x.doc+Aff x.r
theorem Byc x (h:J8 x<=1099511627776):Ajj x:=by unfold J8 at h;exact⟨D6 _ (by first|omega|exact B6c _),Ajk _ (by first|omega|exact B6c _),Bya _ (by first|omega|exact B6c _)⟩
theorem Bhn x:Lt x<=5+64*J8 x:=by have a:=Bhl x.r;unfold Lt J8;(try simp only[Bl,Fm]at*);omega
theorem Bht x:Lt x<=64*(1+J8 x):=by have:=Bhn x;omega
def Vf (x:DHub):Prop:=smB x.shut/\(C0 Eb) x.docs/\(C0 Ajj) x.subs/\Dt x.last
def Aug (x:DHub):Prop:=wfB x.shut/\(D0 Aj0) x.docs/\(D0 Aj2) x.subs/\Dv x.last
def Oi (x:DHub):Nat:=(A5 Jh) x.docs+(A5 J8) x.subs
def Anl (x:DHub):Nat:=Ww x.shut+(Av Kk) x.docs+(Av Lt) x.subs+Bl x.last
theorem Bx8 x (h:Oi x<=1099511627776):Vf x:=by unfold Oi at h;exact⟨A73 _ (by first|omega|exact B6c _),(Hn Bx7) _ (by first|omega|exact B6c _),(Hn Byc) _ (by first|omega|exact B6c _),D6 _ (by first|omega|exact B6c _)⟩
theorem Bhi x:Anl x<=2+64*Oi x:=by have a:=(G9 Bhq) x.docs;have b:=(G9 Bht) x.subs;unfold Anl Oi;(try simp only[Bl,Ww]at*);omega
def Ajh (x:DQueue):Prop:=Qa x.doc/\(C0 Dt) x.list
def Aj1 (x:DQueue):Prop:=Mo x.doc/\(D0 Dv) x.list
def It (x:DQueue):Nat:=Ej x.doc+(A5 F5) x.list
def Pb (x:DQueue):Nat:=Fm x.doc+(Av Bl) x.list
theorem Bx9 x (h:It x<=1099511627776):Ajh x:=by unfold It at h;exact⟨Ajk _ (by first|omega|exact B6c _),(Hn D6) _ (by first|omega|exact B6c _)⟩
theorem Bhk x:Pb x<=1+64*It x:=by have a:=(G9 Wx) x.list;unfold Pb It;(try simp only[Fm]at*);omega
theorem Bhr x:Pb x<=64*(1+It x):=by have:=Bhk x;omega
def Sg (x:DCall):Prop:=Dt x.kind/\Qa x.doc/\Dt x.client/\Dt x.seq/\Dt x.n/\(C0 P9) x.o/\(C0 Dt) x.text
def Auf (x:DCall):Prop:=Dv x.kind/\Mo x.doc/\Dv x.client/\Dv x.seq/\Dv x.n/\(D0 Acy) x.o/\(D0 Dv) x.text
def K9 (x:DCall):Nat:=Ej x.doc+(A5 Fb) x.o+(A5 F5) x.text
def Z9 (x:DCall):Nat:=Bl x.kind+Fm x.doc+Bl x.client+Bl x.seq+Bl x.n+(Av Qy) x.o+(Av Bl) x.text
theorem Bx6 x (h:K9 x<=1099511627776):Sg x:=by unfold K9 at h;exact⟨D6 _ (by first|omega|exact B6c _),Ajk _ (by first|omega|exact B6c _),D6 _ (by first|omega|exact B6c _),D6 _ (by first|omega|exact B6c _),D6 _ (by first|omega|exact B6c _),(Hn Atl) _ (by first|omega|exact B6c _),(Hn D6) _ (by first|omega|exact B6c _)⟩
theorem Bhf x:Z9 x<=5+64*K9 x:=by have a:=(G9 Azf) x.o;have b:=(G9 Wx) x.text;unfold Z9 K9;(try simp only[Bl,Fm]at*);omega
def Ajg (x:DAnswer):Prop:=Dt x.code/\Dt x.rev/\(C0 Dt) x.text/\(C0 Hm) x.list
def Aue (x:DAnswer):Prop:=Dv x.code/\Dv x.rev/\(D0 Dv) x.text/\(D0 Y2) x.list
def H3 (x:DAnswer):Nat:=(A5 F5) x.text+(A5 Fa) x.list
def Afe (x:DAnswer):Nat:=Bl x.code+Bl x.rev+(Av Bl) x.text+(Av Pa) x.list
theorem Bx5 x (h:H3 x<=1099511627776):Ajg x:=by unfold H3 at h;exact⟨D6 _ (by first|omega|exact B6c _),D6 _ (by first|omega|exact B6c _),(Hn D6) _ (by first|omega|exact B6c _),(Hn Atk) _ (by first|omega|exact B6c _)⟩
theorem Bhe x:Afe x<=2+64*H3 x:=by have a:=(G9 Wx) x.text;have b:=(G9 Anm) x.list;unfold Afe H3;(try simp only[Bl]at*);omega
def Yr (x:DTask):Prop:=Sg x.c/\Dt x.pc/\Dt x.inv/\Dt x.lin/\Dt x.res/\Ajg x.a
def Aj3 (x:DTask):Prop:=Auf x.c/\Dv x.pc/\Dv x.inv/\Dv x.lin/\Dv x.res/\Aue x.a
def Gg (x:DTask):Nat:=K9 x.c+H3 x.a
def Qz (x:DTask):Nat:=Z9 x.c+Bl x.pc+Bl x.inv+Bl x.lin+Bl x.res+Afe x.a
theorem Byd x (h:Gg x<=1099511627776):Yr x:=by unfold Gg at h;exact⟨Bx6 _ (by first|omega|exact B6c _),D6 _ (by first|omega|exact B6c _),D6 _ (by first|omega|exact B6c _),D6 _ (by first|omega|exact B6c _),D6 _ (by first|omega|exact B6c _),Bx5 _ (by first|omega|exact B6c _)⟩
theorem Bho x:Qz x<=11+64*Gg x:=by have b:=Bhf x.c;have d:=Bhe x.a;unfold Qz Gg;(try simp only[Bl]at*);omega
theorem Bhu x:Qz x<=64*(1+Gg x):=by have:=Bho x;omega
def Sh (x:DWorld):Prop:=Vf x.h/\(C0 Dt) x.locks/\(C0 Ajh) x.queues/\(C0 Yr) x.tasks/\Dt x.step
def Y3 (x:DWorld):Prop:=Aug x.h/\(D0 Dv) x.locks/\(D0 Aj1) x.queues/\(D0 Aj3) x.tasks/\Dv x.step
def Gn (x:DWorld):Nat:=Oi x.h+(A5 F5) x.locks+(A5 It) x.queues+(A5 Gg) x.tasks
def Afg (x:DWorld):Nat:=Anl x.h+(Av Bl) x.locks+(Av Pb) x.queues+(Av Qz) x.tasks+Bl x.step
theorem Acl x (h:Gn x<=1099511627776):Sh x:=by unfold Gn at h;exact⟨Bx8 _ (by first|omega|exact B6c _),(Hn D6) _ (by first|omega|exact B6c _),(Hn Bx9) _ (by first|omega|exact B6c _),(Hn Byd) _ (by first|omega|exact B6c _),D6 _ (by first|omega|exact B6c _)⟩
theorem Bhp x:Afg x<=3+64*Gn x:=by have a:=Bhi x.h;have b:=(G9 Wx) x.locks;have c:=(G9 Bhr) x.queues;have d:=(G9 Bhu) x.tasks;unfold Afg Gn;(try simp only[Bl]at*);omega
theorem Bhv x:Afg x<=64*(1+Gn x):=by have:=Bhp x;omega
theorem Agy a b:Ow a b=some (decide (a=b)):=by
 unfold Ow;by_cases c:(a.length:Int)=(b.length:Int)
 ·rw[Bn,Ad c,W9 (y:=.inr ()) a b (by omega) (λk d e=>by
   unfold Aww Awv;rw[Aa ⟨by omega,by omega⟩,Bn,Bo])]
  cases decide (a=b)<;>rfl
 ·rw[Bn,Ab c,decide_eq_false (p:=a=b) (λh=>c (by rw[h]))]
theorem A7l a b:Qm a b=some (decide (a=b)):=by
 unfold Qm;by_cases c:(a.length:Int)=(b.length:Int)
 ·rw[Bn,Ad c,W9 (y:=.inr ()) a b (by omega) (λk d e=>by
   unfold Axo Axn;rw[Aa ⟨by omega,by omega⟩,Bn,Bo])]
  cases decide (a=b)<;>rfl
 ·rw[Bn,Ab c,decide_eq_false (p:=a=b) (λh=>c (by rw[h]))]
theorem Abw (a b:DPart):(a=b)↔(a.kind=b.kind/\a.n=b.n/\a.signs=b.signs):=by cases a;cases b;simp
theorem Bpt a b:Adv a b=some (decide (a=b)):=by unfold Adv;simp only[Agy,B5i,Bo,Dd];refine Gu ?_;simp[Abw,and_assoc]
theorem Apr a b:Y7 a b=some (decide (a=b)):=by
 unfold Y7 Ad2;by_cases c:(a.length:Int)=(b.length:Int)
 ·rw[Bn,Ad c,W9 (y:=.inr ()) a b (by omega) (λk d e=>by
   unfold Awu Awt;rw[Aa ⟨by omega,by omega⟩,Bpt,B5i,Bn,Bo])]
  cases decide (a=b)<;>rfl
 ·rw[Bn,Ab c,decide_eq_false (p:=a=b) (λh=>c (by rw[h]))];rfl
theorem A7f a b:Wf a b=some (decide (a=b)):=by
 unfold Wf;by_cases e:(a.length:Int)=(b.length:Int)
 ·rw[Bn,Ad e,W9 (y:=.inr ()) a b (by omega) (λk c d=>by
   unfold Axg Axf;rw[Aa ⟨by omega,by omega⟩,Aa ⟨by omega,by omega⟩,Aa ⟨by omega,by omega⟩];simp only[A7l,B5i,Bo,Ff,Bn];by_cases c:(el a k).kind=(el b k).kind
   ·by_cases d:(el a k).n=(el b k).n
    ·by_cases f:(el a k).signs=(el b k).signs
     ·simp[Abw,c,d,f]
     ·simp[Abw,c,d,f]
    ·simp[Abw,c,d]
   ·simp[Abw,c])]
  cases decide (a=b)<;>rfl
 ·rw[Bn,Ab e,decide_eq_false (p:=a=b) (λh=>e (by rw[h]))]
def Cn (b:DL02B):List DPart:=b.list++((if b.put=[]then []else [⟨2,0,b.put⟩])++(if 0<b.drop then [⟨3,b.drop,[]⟩]else []))
def G7 (L:List DPart) (n:Int):List DPart:=
 if 0<L.length/\(el L (L.length-1)).kind=1 then L.set (L.length-1) ⟨(el L (L.length-1)).kind,(el L (L.length-1)).n+n,(el L (L.length-1)).signs⟩else L++[⟨1,n,[]⟩]
def Eu (b:DL02B) (n:Int):DL02B:=if 0<n then⟨G7 (Cn b) n,[],0⟩else b
def Kj (b:DL02B) (l:List Int):DL02B:=⟨b.list,b.put++l,b.drop⟩
def Ki (b:DL02B) (n:Int):DL02B:=⟨b.list,b.put,b.drop+n⟩
def A6 (b:DL02B) (p:DPart):DL02B:=if p.kind=2 then Kj b p.signs else if p.kind=3 then Ki b p.n else Eu b p.n
def bNil:DL02B:=⟨[],[],0⟩
def A7 (o:List DPart):List DPart:=Cn (o.foldl A6 bNil)
structure Binv (b:DL02B) (m:Nat):Prop where
 len:b.list.length<=3*m
 sz:Av Fb b.list+b.put.length<=1000000*m
 d0:0<=b.drop
 d1:b.drop<=1000000*m
 el:∀q∈b.list,0<=q.n/\q.n<=1000000*m
theorem Qv:Binv bNil 0:=⟨by simp[bNil],by simp[bNil,Av],by simp[bNil],by simp[bNil],by simp[bNil]⟩
theorem Ajr{T} c:∀(a b:List T),Av c (a++b)=Av c a+Av c b
 |[],b=>by simp[Av]
 |x::a,b=>by simp only[B6a,Av,Ajr c a b];omega
theorem A8j{T} [Inhabited T] c y:∀(l:List T) (i:Nat),i<l.length->c y=c (el l i)->Av c (l.set i y)=Av c l
 |x::l,0,_,h=>by simp only[B7r,Av,h];rfl
 |x::l,i+1,hi,h=>by simp only[B80,Av];rw[A8j c y l i (by simpa using hi) (by rw[h];unfold el;simp[B6n])]
theorem Vl p:Fb p=p.signs.length:=by unfold Fb;exact Abf (λ_=>rfl) _
theorem Ao7 b:(Cn b).length<=b.list.length+2:=by unfold Cn;split<;>split<;>simp<;>omega
theorem Bnr b:Av Fb (Cn b)=Av Fb b.list+b.put.length:=by
 unfold Cn;rw[Ajr,Ajr]
 have:Av Fb (if b.put=[]then []else [(⟨2,0,b.put⟩:DPart)])=b.put.length:=by
  split
  ·rename_i h;rw[h];rfl
  ·simp[Av,Vl]
 rw[this];split<;>simp[Av,Vl]
theorem Ao8{b m} (h:Binv b m):∀q∈Cn b,0<=q.n/\q.n<=1000000*m:=by
 intro q a;unfold Cn at a;have:=h.d0;have:=h.d1;simp only[B6g]at a;rcases a with a|a|a
 ·exact h.el q a
 ·split at a
  ·cases a
  ·simp only[B57]at a;subst a;simp only;omega
 ·split at a
  ·simp only[B57]at a;subst a;simp only;omega
  ·cases a
theorem Bgv{b m n} (h:Binv b m) (f:n<=1000000):Binv (Eu b n) (m+1):=by
 have g:=Ao7 b;have d:=Bnr b;have c:=Ao8 h;have:=h.len;have:=h.sz;have:=h.d0;have:=h.d1;unfold Eu;split
 ·unfold G7;split
  ·rename_i i;have e:(Cn b).length-1<(Cn b).length:=by omega
   refine⟨by simp;omega,?_,by simp,by simp;omega,λq a=>?_⟩
   ·simp only[B5y];rw[A8j Fb _ _ _ e (by rw[Vl,Vl]),d];omega
   ·rcases B7j a with a|a
    ·have:=c q a;omega
    ·have:=c _ (Bm e);subst a;simp only;omega
  ·refine⟨by simp;omega,?_,by simp,by simp;omega,λq a=>?_⟩
   ·simp only[B5y,Ajr];rw[d];simp[Av,Vl];omega
   ·rcases B6g.1 a with a|a
    ·have:=c q a;omega
    ·simp only[B57]at a;subst a;simp only;omega
 ·exact⟨by omega,by omega,by omega,by omega,λq a=>by have:=h.el q a;omega⟩
theorem Bgw{b m l} (h:Binv b m) (c:l.length<=1000000):Binv (Kj b l) (m+1):=by have:=h.len;have:=h.sz;have:=h.d0;have:=h.d1;unfold Kj;exact⟨by simp only;omega,by simp only[B5m];omega,by simp only;omega,by simp only;omega,λq a=>by have:=h.el q a;omega⟩
theorem Bgu{b m n} (h:Binv b m) (c:0<=n) (d:n<=1000000):Binv (Ki b n) (m+1):=by have:=h.len;have:=h.sz;have:=h.d0;have:=h.d1;unfold Ki;exact⟨by simp only;omega,by simp only;omega,by simp only;omega,by simp only;omega,λq a=>by have:=h.el q a;omega⟩
def T6 (p:DPart):Prop:=0<=p.n/\p.n<=1000000/\p.signs.length<=1000000
theorem Pt{p} (h:A4 p=true):T6 p:=by have:=Jw h;exact⟨by omega,by omega,by omega⟩
theorem Tf{b m p} (h:Binv b m) (a:T6 p):Binv (A6 b p) (m+1):=by
 unfold A6;split
 ·exact Bgw h a.2.2
 ·split
  ·exact Bgu h a.1 a.2.1
  ·exact Bgv h a.2.1
theorem Wp {o:List DPart} (a:∀p∈o,T6 p):∀ {b:DL02B} {m:Nat},Binv b m->Binv (o.foldl A6 b) (m+o.length):=by
 induction o with
 |nil=>intro b m h;exact h
 |cons x o d=>intro b m h;have:=d (λp c=>a p (by simp[c])) (Tf h (a x (by simp)));rw[B6j,B5q,show m+(o.length+1)=m+1+o.length by omega];exact this
theorem Aie {l:List Int}:((0:Int)<(l.length:Int))↔¬l=[]:=by cases l<;>simp
theorem A7a{b m} (h:Binv b m) (d:m<=1000000):Aep b=some ⟨Cn b,[],0⟩:=by
 have:=h.len;unfold Aep Cn;by_cases c:b.put=[]
 ·rw[Ab (λh=>Aie.1 h c),if_pos c];by_cases a:0<b.drop
  ·rw[Ad a,if_pos a,Aa (by simp;omega)];rfl
  ·rw[Ab a,if_neg a];simp
 ·rw[Ad (Aie.2 c),if_neg c,Aa (by simp;omega)];by_cases a:0<b.drop
  ·rw[Ad a,if_pos a,Aa (by simp;omega)];simp
  ·rw[Ab a,if_neg a];simp
theorem A27{b m} (h:Binv b m) (d:m<=1000000):V2 b.put b.list b.drop=some ([],Cn b,0):=by
 have:=h.len;unfold V2 Cn;by_cases c:b.put=[]
 ·rw[Ab (λh=>Aie.1 h c),if_pos c];by_cases a:0<b.drop
  ·rw[Ad a,if_pos a,Aa (by omega)];rfl
  ·rw[Ab a,if_neg a];simp
 ·rw[Ad (Aie.2 c),if_neg c,Aa (by omega)];by_cases a:0<b.drop
  ·rw[Ad a,if_pos a,Aa (by simp;omega)];simp
  ·rw[Ab a,if_neg a];simp
theorem Asu{b m} (h:Binv b m) (a:m<=1000000):O0 b=some (Cn b):=by unfold O0;rw[A7a h a];rfl
theorem As1{b m l} (h:Binv b m) (c:m<1000000) (a:l.length<=1000000):O2 b l=some (Kj b l):=by have:=h.sz;unfold O2;rw[Aa (by omega)];rfl
theorem Asv{b m n} (h:Binv b m) (d:m<1000000) (a:0<=n) (c:n<=1000000):O1 b n=some (Ki b n):=by have:=h.d0;have:=h.d1;unfold O1;rw[Ao (by omega) (by omega)];rfl
theorem A30 {l:List DPart} (h:0<l.length):((l.length:Int)-1).toNat=l.length-1:=by omega
theorem Acd{b m n} (h:Binv b m) (p:m<1000000) (g:0<=n) (j:n<=1000000):H7 b n=some (Eu b n):=by
 unfold H7 Eu;by_cases e:n=0
 ·rw[Ad e,if_neg (by omega)]
 rw[Ab e,if_pos (by omega),A7a h (by omega)];have k:=Ao7 b;have f:=Ao8 h;have:=h.len;generalize Cn b=L at*
 simp only[B5i];unfold G7;by_cases c:(0:Int)<(L.length:Int)
 ·have d:0<L.length:=by omega
  rw[Ad c,Ao (by omega) (by omega),Aa ⟨by omega,by omega⟩,A30 d];have o:=f _ (Bm (l:=L) (i:=L.length-1) (by omega));by_cases a:(el L (L.length-1)).kind=1
  ·rw[if_pos ⟨d,a⟩,decide_eq_true a];simp only[B5i,A9];rw[Ao (by omega) (by omega),Ao (by omega) (by omega),Aa ⟨by omega,by omega⟩,Ao (by omega) (by omega),Aa ⟨by omega,by omega⟩]
  ·rw[if_neg (λh=>a h.2),decide_eq_false a];simp only[B5i,Ag];rw[Aa (by omega)]
 ·rw[Ab c,if_neg (λh=>c (by omega))];simp only[B5i,Ag];rw[Aa (by omega)]
theorem Apz{o} (A:∀p∈o,T6 p) (t:o.length<1000000):Ou o=some (A7 o):=by
 unfold Ou;have H:=Wp A Qv
 rw[Gv (F:=Ak5 o) o (λr k s=>(∀p∈r,T6 p)/\k+r.length=o.length/\Binv ⟨s.2.2,s.1,s.2.1⟩ k) (λs x=>((A6 ⟨s.2.2,s.1,s.2.1⟩ x).put,(A6 ⟨s.2.2,s.1,s.2.1⟩ x).drop,(A6 ⟨s.2.2,s.1,s.2.1⟩ x).list)) (λx r k s g hx G=>by
  obtain⟨p,d,L⟩:=s;obtain⟨w,B,f⟩:=G;have c:=w x (by simp);have C:k+(r.length+1)=o.length:=by simpa using B
  have y:=Tf f c;refine⟨?_,λq I=>w q (by simp[I]),by omega,y⟩;clear y;simp only at f⊢;unfold Ak5 Avh A6;rw[hx];simp only;by_cases a:x.kind=2
  ·have m:=f.sz;have:=c.2.2;dsimp only at m;rw[Ad a,if_pos a,Aa (by omega)];rfl
  by_cases e:x.kind=3
  ·have m:=f.d0;have D:=f.d1;have:=c.1;have:=c.2.1;dsimp only at m D;rw[Ab a,Ad e,if_neg a,if_pos e,Ao (by omega) (by omega)];rfl
  rw[Ab a,Ab e,if_neg a,if_neg e];unfold Eu;by_cases u:0<x.n
  ·have j:=A27 f (by omega);simp only at j;rw[Ad u,if_pos u,j];have g2:=Ao7 ⟨L,p,d⟩;have g4:=Ao8 f;have:=f.len;generalize Cn ⟨L,p,d⟩=M at*
   simp only[B5i];unfold G7;have:=c.1;have:=c.2.1;dsimp only at*
   by_cases t:(0:Int)<(M.length:Int)
   ·have z:0<M.length:=by omega
    rw[Ad t,Ao (by omega) (by omega),Aa ⟨by omega,by omega⟩,A30 z];have m:=g4 _ (Bm (l:=M) (i:=M.length-1) (by omega));by_cases g:(el M (M.length-1)).kind=1
    ·rw[if_pos ⟨z,g⟩,decide_eq_true g];simp only[B5i,A9];rw[Ao (by omega) (by omega),Aa ⟨by omega,by omega⟩,Ao (by omega) (by omega),Aa ⟨by omega,by omega⟩]
    ·rw[if_neg (λh=>g h.2),decide_eq_false g];simp only[B5i,Ag];rw[Aa (by omega)]
   ·rw[Ab t,if_neg (λh=>t (by omega))];simp only[B5i,Ag];rw[Aa (by omega)]
  ·rw[Ab u,if_neg u]) ([],0,[]) ⟨A,by simp,Qv⟩]
 have v:∀(l:List DPart) (b:DL02B),l.foldl (λs x=>((A6 ⟨s.2.2,s.1,s.2.1⟩ x).put,(A6 ⟨s.2.2,s.1,s.2.1⟩ x).drop,(A6 ⟨s.2.2,s.1,s.2.1⟩ x).list)) (b.put,b.drop,b.list)=((l.foldl A6 b).put,(l.foldl A6 b).drop,(l.foldl A6 b).list):=by
  intro l;induction l with
  |nil=>intro b;rfl
  |cons x l K=>intro b;rw[B6j,B6j];exact K _
 have g:=v o bNil;simp only[bNil]at g;rw[g];simp only[B5i];have j:=A27 H (by omega);simp only[bNil]at j;rw[j];rfl
theorem Eg{o} (h:Az o=true):Dj o=true:=by unfold Az at h;simp only[B5l]at h;exact h.1.1
theorem Br6{o} (h:Az o=true):0<=Cb o/\Cb o<=200:=by have a:=Z4 (Eg h);rw[Vj];unfold Az at h;simp only[B5l,decide_eq_true_eq,Vj]at h;omega
theorem A43{o} (h:Az o=true):0<=Gp o/\Gp o<=200:=by have a:=Z4 (Eg h);rw[Vk];unfold Az at h;simp only[B5l,decide_eq_true_eq,Vk]at h;omega
theorem A44{o} (h:Dj o=true):∀p∈o,T6 p:=λ_ a=>Pt (Gj h a)
theorem Ag1 o:Su o=some (if Az o then A7 o else []):=by
 unfold Su;rw[Np,B5i];cases h:Az o with
 |false=>rfl
 |true=>have a:=Eg h;have:=Ky a;rw[Apz (A44 a) (by omega)];rfl
theorem Boz o:Akk o=some (Az o&&decide (o=A7 o)):=by unfold Akk;simp only[Np,Ag1,Apr,B5i,Bo,Dd];cases h:Az o<;>simp
theorem Pl{l} (h:l.length<=1099511627776):Lk l=some l:=by unfold Lk;rw[Aa (by omega)];rfl
structure Gs where
 done:List (List Int×Nat)
 p:List Int
 d:Nat
def Dh (s:Gs) (q:DPart):Gs:=
 if q.kind=2 then⟨s.done,s.p++q.signs,s.d⟩else if q.kind=3 then⟨s.done,s.p,s.d+q.n.toNat⟩
 else if 0<q.n then⟨s.done++(s.p,s.d)::B6l (q.n.toNat-1) ([],0),[],0⟩else s
def g0:Gs:=⟨[],[],0⟩
def gst (o:List DPart):Gs:=o.foldl Dh g0
def Agu (s:Gs):List (List Int×Nat):=s.done++[(s.p,s.d)]
def gf (o:List DPart):List (List Int×Nat):=Agu (gst o)
theorem Bn2{s t} (h:Agu s=Agu t):s=t:=by unfold Agu at h;have a:=List.append_inj' h rfl;cases s;cases t;simp at a;simp[a]
theorem A2m b{D} (h:b.list.foldl Dh g0=⟨D,[],0⟩) (d:0<=b.drop):(Cn b).foldl Dh g0=⟨D,b.put,b.drop.toNat⟩:=by
 unfold Cn;rw[B8e,B8e,h]
 have a:List.foldl Dh ⟨D,[],0⟩ (if b.put=[]then []else [⟨2,0,b.put⟩])=⟨D,b.put,0⟩:=by
  split
  ·rename_i c;rw[c];rfl
  ·simp[Dh]
 rw[a];split
 ·simp[Dh]
 ·have:b.drop=0:=by omega
  simp[this]
theorem Bm6 {L:List DPart} (h:0<L.length):∃M,L=M++[el L (L.length-1)]:=by
 refine⟨L.take (L.length-1),?_⟩;rw[Gb (by omega)]
 conv=>lhs;rw[<-B6t (L.length-1) L]
 congr 1;rw[B78 (by omega)];congr 1;rw[show L.length-1+1=L.length by omega,B72]
theorem Bxy{M} {x y:DPart}:(M++[x]).set ((M++[x]).length-1) y=M++[y]:=by simp
theorem Bvj {α:Type} x a b (c:0<a) (d:0<b) (u:α):(u::B6l (a-1) x)++(x::B6l (b-1) x)=u::B6l (a+b-1) x:=by rw[B6a,<-B8o,show b-1+1=b by omega,List.replicate_append_replicate,show a-1+b=a+b-1 by omega]
theorem Bn7{L s n} (h:L.foldl Dh g0=s) (e:0<n) (f:∀q∈L,0<=q.n):(G7 L n).foldl Dh g0=Dh s ⟨1,n,[]⟩:=by
 unfold G7;split
 ·rename_i a;obtain⟨M,c⟩:=Bm6 a.1;generalize i:el L (L.length-1)=z at*
  have b:0<=z.n:=f z (by rw[c];simp);subst c;rw[Bxy,B8e]at*
  rw[<-h];generalize List.foldl Dh g0 M=t;obtain⟨k,m,j⟩:=z;simp only at a b;obtain⟨_,rfl⟩:=a;simp only[B6j,B8i];unfold Dh;by_cases g:0<m
  ·simp only[g,e,show 0<m+n by omega,if_true];simp;rw[show(m+n).toNat=m.toNat+n.toNat by omega];have:=Bvj (([],0):List Int×Nat) m.toNat n.toNat (by omega) (by omega) (t.p,t.d);simpa using this.symm
  ·have:m=0:=by omega
   subst this;simp[e]
 ·rw[B8e,h];rfl
theorem Bn9{b s q} (h:b.list.foldl Dh g0=⟨s.done,[],0⟩) (c:s.p=b.put) (g:s.d=b.drop.toNat) (m:0<=b.drop) (j:∀q∈b.list,0<=q.n) (v:0<=q.n):
  (A6 b q).list.foldl Dh g0=⟨(Dh s q).done,[],0⟩/\(Dh s q).p=(A6 b q).put/\(Dh s q).d=(A6 b q).drop.toNat/\0<=(A6 b q).drop/\∀t∈(A6 b q).list,0<=t.n:=by
 unfold A6;by_cases e:q.kind=2
 ·simp only[e,if_true,Kj,Dh];exact⟨h,by rw[c],g,m,j⟩
 by_cases f:q.kind=3
 ·simp only[f,if_true,Ki,Dh];exact⟨h,c,by simp;omega,by simp;omega,j⟩
 simp only[e,f,if_false];unfold Eu;by_cases a:0<q.n
 ·have r:(Cn b).foldl Dh g0=s:=by rw[A2m b h m];cases s;simp at c g;simp[c,g]
  have k:∀q∈Cn b,0<=q.n:=λx hx=>by
   unfold Cn at hx;simp only[B6g]at hx;rcases hx with hx|hx|hx
   ·exact j x hx
   ·split at hx
    ·cases hx
    ·simp only[B57]at hx;subst hx;simp
   ·split at hx
    ·simp only[B57]at hx;subst hx;simp only;omega
    ·cases hx
  have o:Dh s q=Dh s ⟨1,q.n,[]⟩:=by unfold Dh;simp[e,f]
  simp only[a,if_true];rw[Bn7 r a k,o];refine⟨?_,?_,?_,by simp,?_⟩
  ·unfold Dh;simp[a]
  ·unfold Dh;simp[a]
  ·unfold Dh;simp[a]
  ·intro x hx;unfold G7 at hx;split at hx
   ·rename_i u;rcases B7j hx with hx|hx
    ·exact k x hx
    ·subst hx;have:=k _ (Bm (l:=Cn b) (i:=(Cn b).length-1) (by omega));simp only;omega
   ·rcases B6g.1 hx with hx|hx
    ·exact k x hx
    ·simp only[B57]at hx;subst hx;simp only;omega
 ·have o:Dh s q=s:=by unfold Dh;simp[e,f,a]
  simp only[a,if_false,o];exact⟨h,c,g,m,j⟩
theorem Bn8 {o:List DPart} (g:∀q∈o,0<=q.n):∀ {b:DL02B} {s:Gs},b.list.foldl Dh g0=⟨s.done,[],0⟩->s.p=b.put->s.d=b.drop.toNat->0<=b.drop->(∀q∈b.list,0<=q.n)->
  (Cn (o.foldl A6 b)).foldl Dh g0=o.foldl Dh s:=by
 induction o with
 |nil=>intro b s h c a e f;rw[B8i,B8i,A2m b h e];cases s;simp at c a;simp[c,a]
 |cons q o i=>intro b s h c a e f;obtain⟨j,k2,k,l,m⟩:=Bn9 h c a e f (g q (by simp));exact i (λx hx=>g x (by simp[hx])) j k2 k l m
theorem Bn1{o} (a:∀q∈o,0<=q.n):gf (A7 o)=gf o:=by unfold gf gst A7;rw[Bn8 a (b:=bNil) (s:=g0) rfl rfl rfl (by decide) (λq h=>by cases h)]
def O4 (b:DL02B) (g:List Int×Nat):DL02B:=Ki (Kj b g.1) g.2
def Qt (s:Gs):DL02B:=O4 (s.done.foldl (λb g=>Eu (O4 b g) 1) bNil) (s.p,s.d)
theorem Bnq L:Cn ⟨L,[],0⟩=L:=by simp[Cn]
theorem Bgg{L m n}:G7 (G7 L m) n=G7 L (m+n):=by
 unfold G7;by_cases b:0<L.length/\(el L (L.length-1)).kind=1
 ·simp only[b,and_self,if_true];have a:L.length-1<L.length:=by omega
  simp only[B6v,b.1,true_and];rw[Aos a];simp only[if_true,Cbf,Int.add_assoc]
 ·simp only[b,if_false];have a:el (L++[(⟨1,m,[]⟩:DPart)]) ((L++[(⟨1,m,[]⟩:DPart)]).length-1)=⟨1,m,[]⟩:=by have:=Lv L (⟨1,m,[]⟩:DPart) [];simpa using this
  rw[a];simp
theorem Ayv{b m n} (a:0<m) (c:0<n):Eu (Eu b m) n=Eu b (m+n):=by unfold Eu;simp only[a,c,show 0<m+n by omega,if_true,Bnq,Bgg]
theorem Ayt b:O4 b ([],0)=b:=by simp[O4,Ki,Kj]
theorem Ayu:∀k b,(B6l k (([],0):List Int×Nat)).foldl (λb g=>Eu (O4 b g) 1) b=Eu b k
 |0,b=>by simp[Eu]
 |k+1,b=>by
  rw[B8o,B6j,Ayt,Ayu k];cases k with
  |zero=>simp[Eu]
  |succ k=>rw[Ayv (by omega) (by omega)];congr 1;omega
theorem Bgq s q (h:0<=q.n):A6 (Qt s) q=Qt (Dh s q):=by
 unfold A6 Dh;by_cases a:q.kind=2
 ·simp[a,Qt,O4,Kj,Ki]
 by_cases c:q.kind=3
 ·simp only[c,if_true,Qt,O4,Kj,Ki];simp;omega
 simp only[a,c,if_false];by_cases e:0<q.n
 ·simp only[e,if_true];unfold Qt;simp only[B8e,B6j,Ayu,Ayt];generalize O4 (s.done.foldl (λb g=>Eu (O4 b g) 1) bNil) (s.p,s.d)=b;by_cases f:q.n=1
  ·simp[f,Eu]
  ·rw[Ayv (by omega) (by omega)];congr 1;omega
 ·simp only[e,if_false,Eu]
theorem Bgp {o:List DPart} (a:∀q∈o,0<=q.n):∀s,o.foldl A6 (Qt s)=Qt (o.foldl Dh s):=by
 induction o with
 |nil=>intro s;rfl
 |cons q o b=>intro s;rw[B6j,B6j,Bgq s q (a q (by simp))];exact b (λx hx=>a x (by simp[hx])) _
theorem A4r{o} (a:∀q∈o,0<=q.n):A7 o=Cn (Qt (gst o)):=by unfold A7 gst;rw[<-Bgp a g0];rfl
theorem Brz{o a} (b:∀q∈o,0<=q.n) (c:∀q∈a,0<=q.n) (h:gf o=gf a):A7 o=A7 a:=by rw[A4r b,A4r c,Bn2 h]
def A3v:List DPart->List Int->List Int
 |[],_=>[]
 |q::o,t=>if q.kind=1 then t.take q.n.toNat++A3v o (t.drop q.n.toNat)else A3v o (t.drop q.n.toNat)
def C9:List DPart->List Int->List Int
 |[],_=>[]
 |q::o,t=>if q.kind=1 then t.take q.n.toNat++C9 o (t.drop q.n.toNat)else if q.kind=2 then q.signs++C9 o t else C9 o (t.drop q.n.toNat)
def Hx (o:List DPart):Prop:=∀q∈o,(q.kind=1\/q.kind=2\/q.kind=3)/\0<=q.n/\(q.kind=2->q.n=0)
theorem Br9{o} (h:Dj o=true):Hx o:=λq e=>by rcases Ea (Gj h e)with⟨a,b,c,d⟩|⟨a,b,c,d⟩|⟨a,b,c,d⟩<;>simp[a,b]
theorem Br0{o} (h:Hx o):Hx (A7 o):=by
 have e:∀(o:List DPart),Hx o->∀(b:DL02B),Hx b.list->0<=b.drop->Hx (o.foldl A6 b).list/\0<=(o.foldl A6 b).drop:=by
  intro o;induction o with
  |nil=>intro _ b a c;exact⟨a,c⟩
  |cons q o j=>
   intro ho b a c;have f:=ho q (by simp);rw[B6j];refine j (λx hx=>ho x (by simp[hx])) _ ?_ ?_
   ·unfold A6;split
    ·exact a
    ·split
     ·exact a
     ·unfold Eu;split
      ·have d:Hx (Cn b):=by
        intro x hx;unfold Cn at hx;simp only[B6g]at hx;rcases hx with hx|hx|hx
        ·exact a x hx
        ·split at hx
         ·cases hx
         ·simp only[B57]at hx;subst hx;simp
        ·split at hx
         ·simp only[B57]at hx;subst hx;exact⟨.inr (.inr rfl),by simp only;omega,by simp⟩
         ·cases hx
       intro x hx;unfold G7 at hx;split at hx
       ·rename_i g;rcases B7j hx with hx|hx
        ·exact d x hx
        ·have:=d _ (Bm (l:=Cn b) (i:=(Cn b).length-1) (by omega));subst hx;simp only[g.2];refine⟨.inl trivial,by omega,by omega⟩
       ·rcases B6g.1 hx with hx|hx
        ·exact d x hx
        ·simp only[B57]at hx;subst hx;simp only;refine⟨.inl trivial,by omega,by omega⟩
      ·exact a
   ·unfold A6;split
    ·exact c
    ·split
     ·simp only[Ki];omega
     ·unfold Eu;split
      ·simp
      ·exact c
 obtain⟨a,c⟩:=e o h bNil (λq f=>by cases f) (by decide);intro x hx;unfold A7 Cn at hx;simp only[B6g]at hx;rcases hx with hx|hx|hx
 ·exact a x hx
 ·split at hx
  ·cases hx
  ·simp only[B57]at hx;subst hx;simp
 ·split at hx
  ·simp only[B57]at hx;subst hx;exact⟨.inr (.inr rfl),by simp only;omega,by simp⟩
  ·cases hx
theorem Aql{o} (h:Hx o):∀q∈o,0<=q.n:=λq a=>(h q a).2.1
theorem Ahz{o} (h:Hx o):A7 (A7 o)=A7 o:=Brz (Aql (Br0 h)) (Aql h) (Bn1 (Aql h))
theorem Ajq{T} [Inhabited T] c y:∀(l:List T) (i:Nat),i<l.length->B6 c (l.set i y)=B6 c l-c (el l i)+c y
 |x::l,0,_=>by simp only[B7r,B6];show _=c x+B6 c l-c x+c y;omega
 |x::l,i+1,hi=>by simp only[B80,B6];rw[Ajq c y l i (by simpa using hi)];show _=c x+B6 c l-c (el l i)+c y;omega
theorem Bys L n:Cv (G7 L n)=Cv L+n/\Cz (G7 L n)=Cz L/\C5 (G7 L n)=C5 L:=by
 unfold G7 Cv Cz C5;split
 ·rename_i h;have a:L.length-1<L.length:=by omega
  rw[Ajq _ _ _ _ a,Ajq _ _ _ _ a,Ajq _ _ _ _ a];simp[Dc,Ds,Dr,h.2];omega
 ·rw[Yv,Yv,Yv];simp[B6,Dc,Ds,Dr]
theorem A8m b (d:0<=b.drop):Cv (Cn b)=Cv b.list/\Cz (Cn b)=Cz b.list+b.put.length/\C5 (Cn b)=C5 b.list+b.drop:=by
 unfold Cn Cv Cz C5;simp only[Yv];by_cases c:b.put=[]
 ·by_cases a:0<b.drop
  ·simp[c,a,B6,Dc,Ds,Dr]
  ·simp[c,a,B6];omega
 ·by_cases a:0<b.drop
  ·simp[c,a,B6,Dc,Ds,Dr]
  ·simp[c,a,B6,Dc,Ds,Dr];omega
theorem Byt b p (d:0<=b.drop) (c:(p.kind=1\/p.kind=2\/p.kind=3)/\0<=p.n):0<=(A6 b p).drop/\Cv (A6 b p).list=Cv b.list+Dc p/\Cz (A6 b p).list+(A6 b p).put.length=Cz b.list+b.put.length+Ds p/\C5 (A6 b p).list+(A6 b p).drop=C5 b.list+b.drop+Dr p:=by
 unfold A6 Dc Ds Dr;rcases c.1 with a|a|a
 ·simp only[a];simp;unfold Eu;split
  ·have e:=A8m b d;have f:=Bys (Cn b) p.n;simp;omega
  ·have:=c.2;simp;omega
 ·simp[a,Kj];omega
 ·simp[a,Ki];omega
theorem A8n:∀o b,0<=b.drop->(∀p∈o,(p.kind=1\/p.kind=2\/p.kind=3)/\0<=p.n)->0<=(o.foldl A6 b).drop/\Cv (o.foldl A6 b).list=Cv b.list+Cv o/\Cz (o.foldl A6 b).list+(o.foldl A6 b).put.length=Cz b.list+b.put.length+Cz o/\C5 (o.foldl A6 b).list+(o.foldl A6 b).drop=C5 b.list+b.drop+C5 o
 |[],b,h0,_=>by simp[Cv,Cz,C5,B6,h0]
 |p::o,b,h0,h=>by have d:=Byt b p h0 (h p (by simp));have f:=A8n o (A6 b p) d.1 (λq e=>h q (by simp[e]));rw[B6j];have a:Cv (p::o)=Dc p+Cv o:=rfl;have e2:Cz (p::o)=Ds p+Cz o:=rfl;have c:C5 (p::o)=Dr p+C5 o:=rfl;rw[a,e2,c];omega
theorem Atv{o} (h:Hx o):Cv (A7 o)=Cv o/\Cz (A7 o)=Cz o/\C5 (A7 o)=C5 o:=by have b:=A8n o bNil (by decide) (λp a=>⟨(h p a).1,(h p a).2.1⟩);have g:=A8m (o.foldl A6 bNil) b.1;have c:Cv bNil.list=0:=rfl;have e2:Cz bNil.list=0:=rfl;have d:C5 bNil.list=0:=rfl;have e:bNil.put.length=0:=rfl;have f:bNil.drop=0:=rfl;unfold A7;omega
def La (p:DPart):Prop:=(p.kind=1/\0<p.n/\p.signs=[])\/(p.kind=2/\p.n=0/\p.signs≠[]/\p.signs.all Cc=true)\/(p.kind=3/\0<p.n/\p.signs=[])
theorem A82{b} (h:∀p∈b.list,La p) (c:b.put.all Cc=true):∀p∈Cn b,La p:=by
 intro x hx;unfold Cn at hx;simp only[B6g]at hx;rcases hx with hx|hx|hx
 ·exact h x hx
 ·split at hx
  ·cases hx
  ·rename_i a;simp only[B57]at hx;subst hx;exact .inr (.inl ⟨rfl,rfl,a,c⟩)
 ·split at hx
  ·rename_i a;simp only[B57]at hx;subst hx;exact .inr (.inr ⟨rfl,a,rfl⟩)
  ·cases hx
theorem A83:∀(o:List DPart),(∀p∈o,p.kind=2->p.signs.all Cc=true)->∀b,(∀p∈b.list,La p)->b.put.all Cc=true->(∀p∈(o.foldl A6 b).list,La p)/\(o.foldl A6 b).put.all Cc=true
 |[],_,b,h1,h2=>⟨h1,h2⟩
 |p::o,h,b,h1,h2=>by
  rw[B6j];refine A83 o (λq e=>h q (by simp[e])) _ ?_ ?_
  ·unfold A6;split
   ·exact h1
   ·split
    ·exact h1
    ·unfold Eu;split
     ·rename_i d;have c:=A82 h1 h2;intro x hx;unfold G7 at hx;split at hx
      ·rename_i a;rcases B7j hx with hx|hx
       ·exact c x hx
       ·have:=c _ (Bm (l:=Cn b) (i:=(Cn b).length-1) (by omega));subst hx;rcases this with h|h|h
        ·exact .inl ⟨h.1,by simp only;omega,h.2.2⟩
        ·rw[h.1]at a;simp at a
        ·rw[h.1]at a;simp at a
      ·rcases B6g.1 hx with hx|hx
       ·exact c x hx
       ·simp only[B57]at hx;subst hx;exact .inl ⟨rfl,d,rfl⟩
     ·exact h1
  ·unfold A6;split
   ·rename_i a;simp only[Kj,Cai,h2,h p (by simp) a];rfl
   ·split
    ·exact h2
    ·unfold Eu;split
     ·rfl
     ·exact h2
theorem A84{o} (h:∀p∈o,p.kind=2->p.signs.all Cc=true):∀p∈A7 o,La p:=by obtain⟨a,b⟩:=A83 o h bNil (λp c=>by cases c) rfl;exact A82 a b
theorem A81:∀ {o:List DPart},(∀p∈o,La p)->(o.length:Int)<=Cv o+Cz o+C5 o/\0<=Cv o/\0<=Cz o/\0<=C5 o/\∀p∈o,Dc p<=Cv o/\Ds p<=Cz o/\Dr p<=C5 o
 |[],_=>by simp[Cv,Cz,C5,B6]
 |p::o,h=>by
  have g:=A81 (o:=o) (λq b=>h q (by simp[b]));have e:Cv (p::o)=Dc p+Cv o:=rfl;have e2:Cz (p::o)=Ds p+Cz o:=rfl;have f:C5 (p::o)=Dr p+C5 o:=rfl;rw[e,e2,f]
  have j:1<=Dc p+Ds p+Dr p/\0<=Dc p/\0<=Ds p/\0<=Dr p:=by
   unfold Dc Ds Dr;rcases h p (by simp)with⟨a,d,c⟩|⟨a,d,c,i⟩|⟨a,d,c⟩
   ·simp[a];omega
   ·simp[a];have:=B8s.2 c;omega
   ·simp[a];omega
  refine⟨by simp only[B5q];omega,by omega,by omega,by omega,λq b=>?_⟩;rcases B5t.1 b with rfl|b
  ·omega
  ·have:=g.2.2.2.2 q b;omega
theorem Aq8{o} (h:Dj o=true):∀p∈o,p.kind=2->p.signs.all Cc=true:=λp c d=>by
 rcases Ea (Gj h c)with⟨a,_⟩|⟨_,_,_,b⟩|⟨a,_⟩
 ·omega
 ·exact b
 ·omega
theorem Br8{o} (h:∀p∈o,La p) (a:Cv o+C5 o<=200) (b:Cv o+Cz o<=200):Az o=true:=by
 have g:=A81 h
 have e:o.all A4=true:=B6b.2 λp e=>by
  have d:=g.2.2.2.2 p e;unfold Dc Ds Dr at d;unfold A4;rcases h p e with⟨a,b,c⟩|⟨a,b,c,f⟩|⟨a,b,c⟩
  ·simp[a,c]at d⊢;omega
  ·simp[a]at d;simp only[a,b,f];simp;omega
  ·simp[a,c]at d⊢;omega
 unfold Az Dj;rw[e,Vj,Vk];simp;omega
theorem A42{o} (h:Az o=true):Cv o+C5 o<=200/\Cv o+Cz o<=200:=by have a:=Br6 h;have b:=A43 h;rw[Vj]at a;rw[Vk]at b;omega
theorem Uq{o} (h:Az o=true):Hx o:=Br9 (Eg h)
theorem X1{o} (h:Az o=true):Az (A7 o)=true:=by have a:=Atv (Uq h);have b:=A42 h;exact Br8 (A84 (Aq8 (Eg h))) (by omega) (by omega)
theorem Ape{o} (h:Hx o):Cb (A7 o)=Cb o:=by have:=Atv h;rw[Vj,Vj];omega
theorem A9a{o} (h:Hx o):Gp (A7 o)=Gp o:=by have:=Atv h;rw[Vk,Vk];omega
theorem A40{o} (h:Az o=true):(o.length:Int)<=600/\0<=Cv o/\0<=Cz o/\0<=C5 o/\Cz o<=200/\Cv o<=200/\C5 o<=200:=by have a:=Ky (Eg h);have b:=Z4 (Eg h);have c:=A42 h;omega
theorem A8r:∀ {o:List DPart},(∀p∈o,p.kind=2\/p.signs=[])->((Av Fb o:Nat):Int)=Cz o
 |[],_=>rfl
 |p::o,h=>by
  have c:=A8r (o:=o) (λq b=>h q (by simp[b]));have e2:Cz (p::o)=Ds p+Cz o:=rfl
  have a:Ds p=(p.signs.length:Int):=by
   unfold Ds;rcases h p (by simp)with h|h
   ·rw[if_pos h]
   ·rw[h];split<;>rfl
  rw[e2,a,<-c];simp only[Av,Vl];omega
theorem Aq7{o} (h:Az o=true):A5 Fb o<=800:=by
 have b:=A40 h
 have c:=A8r (o:=o) (λp a=>by
  rcases Ea (Gj (Eg h) a)with h|h|h
  ·exact .inr h.2.2.2
  ·exact .inl h.1
  ·exact .inr h.2.2.2)
 unfold A5;omega
theorem Z2:∀ {o:List DPart},Hx o->∀ {t:List Int},Cb o=t.length->((C9 o t).length:Int)=Gp o
 |[],_,t,h=>by simp only[Cb,B6]at h;simp[C9,Gp,B6]
 |q::o,hk,t,h=>by
  have ho:Hx o:=λx hx=>hk x (by simp[hx]);obtain⟨a,d,e⟩:=hk q (by simp);have b:Cb (q::o)=Im q+Cb o:=rfl;have e2:Gp (q::o)=N2 q+Gp o:=rfl
  have c:0<=Cb o:=by
   have:∀x∈o,0<=Im x:=λx hx=>by have:=(ho x hx).2.1;unfold Im Dc Dr;split<;>split<;>omega
   exact Yw this
  rw[b]at h;rw[e2];unfold Im N2 Dc Ds Dr at*
  unfold C9;rcases a with a|a|a
  ·simp[a]at h⊢;have:=Z2 ho (t:=t.drop q.n.toNat) (by simp;omega);rw[this];omega
  ·simp[a]at h⊢;have:=Z2 ho (t:=t) h;rw[this]
  ·simp[a]at h⊢;have:=Z2 ho (t:=t.drop q.n.toNat) (by simp;omega);rw[this]
theorem Bw6{o} (ho:∀p∈o,A4 p=true) (t:o.length<1000000):
  Ai (Amf o) (λa=>((a.1,a.2.1,a.2.2):List DPart×List Int×Int)) o.length 0 ([],[],0)=some ((o.foldl A6 bNil).list,(o.foldl A6 bNil).put,(o.foldl A6 bNil).drop):=by
 refine C6 (F:=Amf o) o (λr k s=>(∀p∈r,A4 p=true)/\k+r.length=o.length/\Binv ⟨s.1,s.2.1,s.2.2⟩ k) (λr _ s=>((r.foldl A6 ⟨s.1,s.2.1,s.2.2⟩).list,(r.foldl A6 ⟨s.1,s.2.1,s.2.2⟩).put,(r.foldl A6 ⟨s.1,s.2.1,s.2.2⟩).drop)) (λ_ _=>rfl) (λx r k s n hx j=>?_) _ ⟨ho,by simp,Qv⟩;obtain⟨L,p,d⟩:=s;obtain⟨f,i,c⟩:=j;have e:=f x (by simp);have l:=Pt e;simp only[B5q]at i;simp only at c⊢;refine .inl ⟨((A6 ⟨L,p,d⟩ x).list,(A6 ⟨L,p,d⟩ x).put,(A6 ⟨L,p,d⟩ x).drop),?_,⟨λq m=>f q (by simp[m]),by omega,Tf c l⟩,rfl⟩;unfold Amf Ba6 A6;rw[hx];simp only;rcases Ea e with⟨b,k2,g,h⟩|⟨b,k2,g,h⟩|⟨b,k2,g,h⟩
 ·rw[Ad b,if_neg (by omega),if_neg (by omega),Acd c (by omega) (by omega) (by omega)];rfl
 ·rw[Ab (by omega),Ad b,if_pos b,As1 c (by omega) (by omega)];rfl
 ·rw[Ab (by omega),Ab (by omega),if_neg (by omega),if_pos b,Asv c (by omega) (by omega) (by omega)];rfl
theorem Asy o:We o=some (if Az o then A7 o else []):=by
 unfold We;rw[Mf,B5i];cases h:Az o with
 |false=>rfl
 |true=>have a:=Eg h;have c:=Ky a;simp only[B5o,cond_false,if_true];rw[Bw6 (λp b=>Gj a b) (by omega),B5i];have:=Asu (Wp (A44 a) Qv) (by omega);simp only;rw[this];rfl
theorem A7d o:Aef o=some (Az o&&decide (o=A7 o)):=by
 unfold Aef;simp only[Mf,Asy,A7f,B5i,Bo,Dd];cases h:Az o
 ·simp
 ·simp[eq_comm]
def Dn (o:List DPart) (t:List Int):Bool:=Az o&&Cf t&&decide (Cb o=t.length)
theorem Agl{o t} (h:Dn o t=true):Az o=true/\Cf t=true/\Cb o=t.length:=by unfold Dn at h;simp only[B5l,decide_eq_true_eq]at h;exact⟨h.1.1,h.1.2,h.2⟩
theorem Jx{t} (h:Cf t=true):t.length<=200:=by unfold Cf at h;simp only[B5l,decide_eq_true_eq]at h;exact h.1
theorem A16 x o:Cb (x::o)=Im x+Cb o:=rfl
theorem A17{o} (h:∀p∈o,A4 p=true):0<=Cb o:=Yw λx hx=>(Ae8 (h x hx)).2.2.2.1.1
theorem Afu {t:List Int} {a n:Int} (b:0<=a) (c:0<=n):t.drop (a+n).toNat=(t.drop a.toNat).drop n.toNat:=by rw[B7o];congr 1;omega
theorem At2 {t:List Int} {a n:Int} (b:0<=a) (c:0<=n):(t.take (a+n).toNat).drop a.toNat=(t.drop a.toNat).take n.toNat:=by rw[B84];congr 1;omega
theorem Bpj{o t} (ho:∀p∈o,A4 p=true) (A:o.length<=600) (C:t.length<=200) (w:Cb o=t.length):
  Ai (Ac2 t o) (λg=>(g.1:List Int)) o.length 0 ([],0)=some (C9 o t):=by
 have h:=C6 (F:=Ac2 t o) (e:=λ(s:List Int×Int)=>s.1) o (λr k s=>(∀p∈r,A4 p=true)/\0<=s.2/\s.2+Cb r=t.length/\s.1.length<=200*k/\k+r.length=o.length) (λr _ s=>s.1++C9 r (t.drop s.2.toNat)) (λs _=>by simp[C9]) (λx r k s z hx v=>by
  obtain⟨out,a⟩:=s;obtain⟨j,i,d,q,u⟩:=v;simp only at i d q⊢;rw[A16]at d;have B:=A17 (o:=r) (λp l=>j p (by simp[l]));have f:=j x (by simp);have y:=Jw f;have c:∀p∈r,A4 p=true:=λp l=>j p (by simp[l]);simp only[B5q]at u;unfold Ac2 Aut;rw[hx];simp only;unfold Im Dc Dr at d;refine .inl ?_;rcases Ea f with⟨b,k2,m,n⟩|⟨b,k2,m,n⟩|⟨b,k2,m,n⟩
  ·simp[b]at d;rw[Ad b,Ao (by omega) (by omega),Aa ⟨by omega,by omega,by omega⟩,At2 i k2,Aa (by simp;omega),Ao (by omega) (by omega)];refine⟨_,rfl,⟨c,by simp only;omega,by simp only;omega,by simp;omega,by omega⟩,?_⟩;simp only[C9,b,if_true,Afu i k2,B5r]
  ·simp[b]at d;rw[Ab (by omega),Ab (by omega),Aa (by omega)];refine⟨_,rfl,⟨c,by simp only;omega,by simp only;omega,by simp;omega,by omega⟩,?_⟩;simp[C9,b]
  ·simp[b]at d;rw[Ab (by omega),Ad b,Ao (by omega) (by omega)];refine⟨_,rfl,⟨c,by simp only;omega,by simp only;omega,by simp only;omega,by omega⟩,?_⟩;simp[C9,b,Afu i k2]) ([],0) ⟨ho,by simp,by simp[w],by simp,by simp⟩
 simpa using h
theorem A2s o t:Oo o t=some (if Dn o t then(C9 o t,true)else([],false)):=by
 unfold Oo;simp only[Np,Aa8,Ag0,B5i,Bo,Ff]
 have b:(!Az o||(!Cf t||!decide ((if Dj o then Cb o else 0)=(t.length:Int))))=!Dn o t:=by
  unfold Dn;cases h:Az o
  ·simp
  ·rw[Eg h];simp
 rw[<-Bool.or_assoc]at b;rw[b];cases h:Dn o t with
 |false=>rfl
 |true=>obtain⟨a,c,d⟩:=Agl h;have:=Ky (Eg a);simp only[B5o,cond_false,if_true];rw[Bpj (λp e=>Gj (Eg a) e) (by omega) (Jx c) d];rfl
theorem Bv6 o t:Aer o t=some (Dn o t):=by
 unfold Aer Dn;simp only[Mf,Ai3,Acf,B5i,Bo,Dd];cases h:Az o
 ·simp
 ·rw[Eg h];simp
theorem Bwz{o t} (ho:∀p∈o,A4 p=true) (A:o.length<=600) (C:t.length<=200) (w:Cb o=t.length):
  Ai (Ad6 t o) (λg=>(g.1:List Int)) o.length 0 ([],0)=some (C9 o t):=by
 have h:=C6 (F:=Ad6 t o) (e:=λ(s:List Int×Int)=>s.1) o (λr k s=>(∀p∈r,A4 p=true)/\0<=s.2/\s.2+Cb r=t.length/\s.1.length<=200*k/\k+r.length=o.length) (λr _ s=>s.1++C9 r (t.drop s.2.toNat)) (λs _=>by simp[C9]) (λx r k s z hx v=>by
  obtain⟨out,a⟩:=s;obtain⟨j,i,d,q,u⟩:=v;simp only at i d q⊢;rw[A16]at d;have B:=A17 (o:=r) (λp l=>j p (by simp[l]));have f:=j x (by simp);have y:=Jw f;have c:∀p∈r,A4 p=true:=λp l=>j p (by simp[l]);simp only[B5q]at u;unfold Ad6 Aw1;rw[hx];simp only;unfold Im Dc Dr at d;refine .inl ?_;rcases Ea f with⟨b,k2,m,n⟩|⟨b,k2,m,n⟩|⟨b,k2,m,n⟩
  ·simp[b]at d;rw[Ad b,Ao (by omega) (by omega),Aa ⟨by omega,by omega,by omega⟩,At2 i k2,Aa (by simp;omega),Ao (by omega) (by omega)];refine⟨_,rfl,⟨c,by simp only;omega,by simp only;omega,by simp;omega,by omega⟩,?_⟩;simp only[C9,b,if_true,Afu i k2,B5r]
  ·simp[b]at d;rw[Ab (by omega),Ad b,Aa (by omega)];refine⟨_,rfl,⟨c,by simp only;omega,by simp only;omega,by simp;omega,by omega⟩,?_⟩;simp[C9,b]
  ·simp[b]at d;rw[Ab (by omega),Ab (by omega),Ao (by omega) (by omega)];refine⟨_,rfl,⟨c,by simp only;omega,by simp only;omega,by simp only;omega,by omega⟩,?_⟩;simp[C9,b,Afu i k2]) ([],0) ⟨ho,by simp,by simp[w],by simp,by simp⟩
 simpa using h
theorem Yk o t:Kd o t=some (if Dn o t then(C9 o t,true)else([],false)):=by
 unfold Kd;rw[Bv6,B5i];cases h:Dn o t with
 |false=>rfl
 |true=>obtain⟨a,b,c⟩:=Agl h;have:=Ky (Eg a);simp only[B5o,cond_false,if_true];rw[Bwz (λp d=>Gj (Eg a) d) (by omega) (Jx b) c];rfl
def Aja (a:Int) (b:Bool):List DPart->Int->Int->Int
 |[],_,j=>j
 |q::o,i,j=>if q.kind=1 then(if a<i+q.n then j+a-i else Aja a b o (i+q.n) (j+q.n))else if q.kind=2 then(if a=i/\b=false then j else Aja a b o i (j+q.signs.length))else(if a<i+q.n then j else Aja a b o (i+q.n) j)
def shift (o:List DPart) (a:Int) (b:Bool):Int×Bool:=if Az o=true/\0<=a/\a<=Cb o then(Aja a b (A7 o) 0 0,true)else(0,false)
def oks (l:List DPart):Prop:=∀p∈l,A4 p=true
theorem Bsc:oks []:=λ_ h=>by cases h
theorem Il{p r} (h:oks (p::r)):A4 p=true:=h p (by simp)
theorem L6{p r} (h:oks (p::r)):oks r:=λq a=>h q (by simp[a])
theorem Abp{p r} (h:A4 p=true) (k:oks r):oks (p::r):=λq a=>by
 rcases B5t.1 a with rfl|a
 ·exact h
 ·exact k q a
def Al (p:DPart):Int:=p.n+p.signs.length
theorem Dk{p} (h:A4 p=true):0<=Al p/\Al p<=200:=by
 unfold Al;rcases Ea h with⟨_,b,c,a⟩|⟨_,b,c,_⟩|⟨_,b,c,a⟩
 ·rw[a];simp;omega
 ·omega
 ·rw[a];simp;omega
def Ba (p:DPart) (n:Int):DPart:=if p.kind=2 then⟨p.kind,p.n,(p.signs.take n.toNat).drop 0⟩else⟨p.kind,n,p.signs⟩
def Bh (p:DPart) (n:Int):DPart:=if p.kind=2 then⟨p.kind,p.n,(p.signs.take p.signs.length).drop n.toNat⟩else⟨p.kind,p.n-n,p.signs⟩
theorem Abo{k n} (c:k=1\/k=3) (a:0<=n) (b:n<=200):A4 ⟨k,n,[]⟩=true:=by unfold A4;simp[c,a,b]
theorem A46{s} (a:s.length<=200) (b:s.all Cc=true):A4 ⟨2,0,s⟩=true:=by unfold A4;rw[if_neg (by simp),if_pos (by rfl)];rw[B5l];exact⟨decide_eq_true ⟨rfl,a⟩,b⟩
theorem Ayo {l:List Int} (h:l.all Cc=true) {s:List Int} (a:∀x∈s,x∈l):s.all Cc=true:=B6b.2 λx hx=>B6b.1 h x (a x hx)
theorem De{p n} (h:A4 p=true) (b:0<=n) (a:n<=Al p):A4 (Ba p n)=true/\(Ba p n).kind=p.kind/\Al (Ba p n)=n/\A4 (Bh p n)=true/\(Bh p n).kind=p.kind/\Al (Bh p n)=Al p-n:=by
 obtain⟨k,m,s⟩:=p;unfold Al Ba Bh at*
 simp only at a;rcases Ea h with⟨g1,g2,g3,g4⟩|⟨g1,g2,g3,g4⟩|⟨g1,g2,g3,g4⟩<;>simp only at g1 g2 g3 g4
 ·subst g1 g4;simp only[B5y]at a;rw[if_neg (by simp),if_neg (by simp)];dsimp only at*
  exact⟨Abo (.inl rfl) b (by omega),rfl,by simp,Abo (.inl rfl) (by omega) (by omega),rfl,by simp⟩
 ·subst g1 g2;rw[if_pos rfl,if_pos rfl];refine⟨A46 (by simp;omega) (Ayo g4 λx hx=>?_),rfl,by simp;omega,A46 (by simp;omega) (Ayo g4 λx hx=>?_),rfl,by simp;omega⟩
  ·rw[B7v]at hx;exact B76 hx
  ·rw[B6m]at hx;exact B6z hx
 ·subst g1 g4;simp only[B5y]at a;rw[if_neg (by simp),if_neg (by simp)];dsimp only at*
  exact⟨Abo (.inr rfl) b (by omega),rfl,by simp,Abo (.inr rfl) (by omega) (by omega),rfl,by simp⟩
def skp:List DPart->List DPart
 |[]=>[]
 |p::r=>if Al p=0 then skp r else p::r
theorem Atf{p r} (h:Al p=0):skp (p::r)=skp r:=by rw[skp,if_pos h]
theorem Sf{p r} (h:Al p≠0):skp (p::r)=p::r:=by rw[skp,if_neg h]
theorem P8:∀l,skp (skp l)=skp l
 |[]=>rfl
 |p::r=>by
  by_cases h:Al p=0
  ·rw[Atf h];exact P8 r
  ·rw[Sf h,Sf h]
theorem Aje q:(skp q).length<=q.length:=by
 induction q with
 |nil=>simp[skp]
 |cons x q a=>unfold skp;split<;>simp<;>omega
theorem Se{l p r} (h:skp l=p::r):Al p≠0:=λc=>by have a:=P8 l;rw[h,Atf c]at a;have b:=Aje r;rw[a]at b;simp at b;omega
theorem Acj:∀ {l:List DPart},oks l->oks (skp l)
 |[],h=>h
 |p::r,h=>by
  unfold skp;split
  ·exact Acj (L6 h)
  ·exact h
def G3 (f:Int) (p:DPart):Int:=if p.kind=f then 0 else Al p
def Fv (f:Int) (l:List DPart):Int:=B6 (G3 f) l
def A8 (l:List DPart):Int:=B6 Al l
theorem Hd f p r:Fv f (p::r)=G3 f p+Fv f r:=rfl
theorem Ml p r:A8 (p::r)=Al p+A8 r:=rfl
theorem A4f{f l} (h:oks l):0<=Fv f l:=Yw λx hx=>by have:=Dk (h x hx);unfold G3;split<;>omega
theorem Ho{l} (h:oks l):0<=A8 l:=Yw λx hx=>(Dk (h x hx)).1
theorem Rs f:∀l,Fv f (skp l)=Fv f l
 |[]=>rfl
 |p::r=>by
  unfold skp;split
  ·rename_i h;rw[Hd,Rs f r];unfold G3;split<;>omega
  ·rfl
theorem Mm:∀l,A8 (skp l)=A8 l
 |[]=>rfl
 |p::r=>by
  unfold skp;split
  ·rename_i h;rw[Ml,Mm r];omega
  ·rfl
theorem Ahv{l} (h:oks l):Fv 2 l=Cb l:=Acp λp a=>by unfold G3 Im Dc Dr Al;rcases Ea (h p a)with⟨g1,g2,g3,g4⟩|⟨g1,g2,g3,g4⟩|⟨g1,g2,g3,g4⟩<;>simp[g1,g4]
theorem Ahw{l} (h:oks l):Fv 3 l=Gp l:=Acp λp a=>by unfold G3 N2 Dc Ds Al;rcases Ea (h p a)with⟨g1,g2,g3,g4⟩|⟨g1,g2,g3,g4⟩|⟨g1,g2,g3,g4⟩<;>simp[g1,g2,g4]
theorem B1s{l} (h:oks l):A8 l=Cv l+Cz l+C5 l:=by
 unfold Cv Cz C5;induction l with
 |nil=>rfl
 |cons p r a=>
  rw[Ml,a (L6 h)];have e:Al p=Dc p+Ds p+Dr p:=by unfold Dc Ds Dr Al;rcases Ea (Il h)with⟨g1,g2,g3,g4⟩|⟨g1,g2,g3,g4⟩|⟨g1,g2,g3,g4⟩<;>simp[g1,g2,g4]
  simp only[B6];omega
abbrev Em:=Option DPart×Option DPart
def Jf (f:Int):List DPart->List DPart->Option (Em×List DPart×List DPart)
 |[],[]=>none
 |[],q::t=>if q.kind=2 then some ((none,some (Ba q (Al q))),[],Bh q (Al q)::t)else none
 |p::r,[]=>if p.kind=f then some ((some (Ba p (Al p)),none),Bh p (Al p)::r,[])else none
 |p::r,q::t=>if p.kind=f then some ((some (Ba p (Al p)),none),Bh p (Al p)::r,q::t)
  else if q.kind=2 then some ((none,some (Ba q (Al q))),p::r,Bh q (Al q)::t)
  else some ((some (Ba p (min (Al p) (Al q))),some (Ba q (min (Al p) (Al q)))),Bh p (min (Al p) (Al q))::r,Bh q (min (Al p) (Al q))::t)
structure J (f:Int) (a b:List DPart):Prop where
 oa:oks a
 ob:oks b
 la:a.length<=600
 lb:b.length<=600
 m:Fv f a=Fv 2 b
theorem J.skp {f:Int} {a b:List DPart} (h:J f a b):J f (skp a) (skp b):=⟨Acj h.oa,Acj h.ob,by have:=Aje a;have:=h.la;omega,by have:=Aje b;have:=h.lb;omega,by rw[Rs,Rs];exact h.m⟩
theorem A5n{f p} (h:p.kind=f):G3 f p=0:=if_pos h
theorem R3{f p} (h:p.kind≠f):G3 f p=Al p:=if_neg h
theorem Ut{f p n} (h:A4 p=true) (b:0<=n) (c:n<=Al p) (a:p.kind≠f):G3 f (Bh p n)=G3 f p-n:=by have g:=De h b c;rw[R3 a,R3 (by rw[g.2.2.2.2.1];exact a),g.2.2.2.2.2]
theorem Abv{f p n} (h:A4 p=true) (b:0<=n) (c:n<=Al p) (a:p.kind=f):G3 f (Bh p n)=G3 f p:=by have g:=De h b c;rw[A5n a,A5n (by rw[g.2.2.2.2.1];exact a)]
theorem J.left{f p r b} (h:J f (p::r) b) (c:p.kind=f):J f (Bh p (Al p)::r) b/\A8 (Bh p (Al p)::r)=A8 (p::r)-Al p:=by have ho:=Il h.oa;have a:=Dk ho;have g:=De ho a.1 (B67 _);refine⟨⟨Abp g.2.2.2.1 (L6 h.oa),h.ob,by have:=h.la;simpa using this,h.lb,?_⟩,by rw[Ml,Ml,g.2.2.2.2.2];omega⟩;rw[<-h.m,Hd,Hd,Abv ho a.1 (B67 _) c]
theorem J.right{f q a t} (h:J f a (q::t)) (c:q.kind=2):J f a (Bh q (Al q)::t)/\A8 (Bh q (Al q)::t)=A8 (q::t)-Al q:=by have ho:=Il h.ob;have b:=Dk ho;have g:=De ho b.1 (B67 _);refine⟨⟨h.oa,Abp g.2.2.2.1 (L6 h.ob),h.la,by have:=h.lb;simpa using this,?_⟩,by rw[Ml,Ml,g.2.2.2.2.2];omega⟩;rw[h.m,Hd,Hd,Abv ho b.1 (B67 _) c]
theorem J.both{f p q r t} (h:J f (p::r) (q::t)) (i:p.kind≠f) (b:q.kind≠2){n} (l:n=min (Al p) (Al q)):
  J f (Bh p n::r) (Bh q n::t)/\A8 (Bh p n::r)=A8 (p::r)-n/\A8 (Bh q n::t)=A8 (q::t)-n/\0<=n/\n<=Al p/\n<=Al q:=by
 have c:=Il h.oa;have d:=Il h.ob;have j:=Dk c;have k:=Dk d;have a:0<=n/\n<=Al p/\n<=Al q:=by omega
 have g:=De c a.1 a.2.1;have e:=De d a.1 a.2.2;refine⟨⟨Abp g.2.2.2.1 (L6 h.oa),Abp e.2.2.2.1 (L6 h.ob),by have:=h.la;simpa using this,by have:=h.lb;simpa using this,?_⟩,by rw[Ml,Ml,g.2.2.2.2.2];omega,by rw[Ml,Ml,e.2.2.2.2.2];omega,a⟩;have:=h.m;rw[Hd,Hd]at*
 rw[Ut c a.1 a.2.1 i,Ut d a.1 a.2.2 b];omega
theorem J.no_right{f p r} (h:J f (p::r) []) (c:Al p≠0):p.kind=f:=by
 by_cases a:p.kind=f
 ·exact a
 ·have b:=h.m;have d:=A4f (f:=f) (L6 h.oa);have e:=Dk (Il h.oa);rw[Hd,R3 a]at b;have:Fv 2 []=0:=rfl;omega
theorem J.no_left{f q t} (h:J f [] (q::t)) (c:Al q≠0):q.kind=2:=by
 by_cases a:q.kind=2
 ·exact a
 ·have b:=h.m;have d:=A4f (f:=2) (L6 h.ob);have e:=Dk (Il h.ob);rw[Hd,R3 a]at b;have:Fv f []=0:=rfl;omega
theorem A8b{f a b j k e} (h:J f a b) (m:∀p r,a=p::r->Al p≠0) (l:∀p r,b=p::r->Al p≠0) (c:Jf f a b=some (e,j,k)):J f j k/\A8 j+A8 k<A8 a+A8 b:=by
 cases a with
 |nil=>
  cases b with
  |nil=>cases c
  |cons q t=>
   simp only[Jf]at c;split at c
   ·rename_i d;simp only[B65.injEq,Prod.mk.injEq]at c;obtain⟨_,rfl,rfl⟩:=c;have g:=h.right d;have:=Dk (Il h.ob);have:=l q t rfl;exact⟨g.1,by omega⟩
   ·cases c
 |cons p r=>
  have n:=Dk (Il h.oa);have o:=m p r rfl;cases b with
  |nil=>
   simp only[Jf]at c;split at c
   ·rename_i d;simp only[B65.injEq,Prod.mk.injEq]at c;obtain⟨_,rfl,rfl⟩:=c;have g:=h.left d;exact⟨g.1,by omega⟩
   ·cases c
  |cons q t=>
   have s:=Dk (Il h.ob);have u:=l q t rfl;simp only[Jf]at c;split at c
   ·rename_i d;simp only[B65.injEq,Prod.mk.injEq]at c;obtain⟨_,rfl,rfl⟩:=c;have g:=h.left d;exact⟨g.1,by omega⟩
   ·rename_i d;split at c
    ·rename_i i;simp only[B65.injEq,Prod.mk.injEq]at c;obtain⟨_,rfl,rfl⟩:=c;have g:=h.right i;exact⟨g.1,by omega⟩
    ·rename_i i;simp only[B65.injEq,Prod.mk.injEq]at c;obtain⟨_,rfl,rfl⟩:=c;have g:=h.both d i rfl;exact⟨g.1,by omega⟩
def Lb (f:Int):Nat->List DPart->List DPart->List Em
 |0,_,_=>[]
 |k+1,a,b=>match Jf f (skp a) (skp b)with
  |none=>[]
  |some (e,a',b')=>e::Lb f k a' b'
def tr (f:Int) (a b:List DPart):List Em:=Lb f (A8 a+A8 b).toNat a b
theorem Qr:∀ {l:List DPart},oks l->A8 l=0->skp l=[]
 |[],_,_=>rfl
 |p::r,h,hz=>by have a:=Dk (Il h);have b:=Ho (L6 h);rw[Ml]at hz;unfold skp;rw[if_pos (by omega)];exact Qr (L6 h) (by omega)
theorem A9h{f}:∀(k k':Nat) {a b:List DPart},J f a b->A8 a+A8 b<=k->A8 a+A8 b<=k'->Lb f k a b=Lb f k' a b
 |0,0,_,_,_,_,_=>rfl
 |0,k'+1,a,b,h,h1,_=>by have:=Ho h.oa;have:=Ho h.ob;unfold Lb;rw[Qr h.oa (by omega),Qr h.ob (by omega)];rfl
 |k+1,0,a,b,h,_,h2=>by have:=Ho h.oa;have:=Ho h.ob;unfold Lb;rw[Qr h.oa (by omega),Qr h.ob (by omega)];rfl
 |k+1,k'+1,a,b,h,h1,h2=>by
  unfold Lb;cases d:Jf f (skp a) (skp b)with
  |none=>rfl
  |some x=>obtain⟨e,i,j⟩:=x;have g:=A8b h.skp (λp r c=>Se c) (λp r c=>Se c) d;rw[Mm,Mm]at g;simp only;rw[A9h k k' g.1 (by omega) (by omega)]
theorem At8{f a b c d e} (h:J f a b) (j:Jf f (skp a) (skp b)=some (e,c,d)):tr f a b=e::tr f c d:=by have g:=A8b h.skp (λp r i=>Se i) (λp r i=>Se i) j;rw[Mm,Mm]at g;have k:=Ho g.1.oa;have l:=Ho g.1.ob;unfold tr;rw[show(A8 a+A8 b).toNat=((A8 a+A8 b).toNat-1)+1 by omega];rw[Lb,j];simp only;rw[A9h _ (A8 c+A8 d).toNat g.1 (by omega) (by omega)]
theorem B2a{f a b} (c:Jf f (skp a) (skp b)=none):tr f a b=[]:=by
 unfold tr;cases (A8 a+A8 b).toNat with
 |zero=>rfl
 |succ k=>rw[Lb,c]
theorem B2c{f} k{a b c d} (e:skp a=skp c) (g:skp b=skp d):Lb f k a b=Lb f k c d:=by
 cases k with
 |zero=>rfl
 |succ k=>unfold Lb;rw[e,g]
theorem Ajx{f a b c d} (e:skp a=skp c) (g:skp b=skp d):tr f a b=tr f c d:=by unfold tr;rw[B2c _ e g,show A8 a=A8 c by rw[<-Mm a,e,Mm],show A8 b=A8 d by rw[<-Mm b,g,Mm]]
def Ey:List DPart->DPart
 |[]=>⟨0,0,[]⟩
 |p::_=>p
theorem Aot p (r:List DPart):el (p::r) 0=p:=rfl
theorem Ag3{p} (h:A4 p=true):Kc p=some (Al p):=A3b h
theorem Bpp{l} (h:oks l) (g:l.length<=600):Bc Ak9 l=some (skp l):=by
 refine Rj (f:=Ak9) (λs=>oks s/\s.length<=600) (λs=>s.length) skp (λs d=>?_) l ⟨h,g⟩;obtain⟨b,c⟩:=d;unfold Ak9 Ban;cases s with
 |nil=>exact .inr rfl
 |cons p r=>
  have e:((p::r).take (p::r).length).drop 1=r:=by simp
  rw[Ad (by simp<;>omega),Aa ⟨by omega,by simp<;>omega⟩,Aot,Ag3 (Il b),B5i,B5i];by_cases a:Al p=0
  ·refine .inl ⟨r,?_,⟨L6 b,by simp at c;omega⟩,by simp,by rw[skp,if_pos a]⟩;rw[Ad a,Aa ⟨by omega,by simp<;>omega⟩,e]
  ·exact .inr (by rw[Ab a,skp,if_neg a])
theorem A29{l} (h:oks l) (a:l.length<=600):F8 ⟨l⟩=some (Ey (skp l),⟨skp l⟩):=by
 unfold F8;rw[Bpp h a,B5i];cases skp l with
 |nil=>rfl
 |cons p r=>rw[Ab (by simp<;>omega),Aa ⟨by omega,by simp<;>omega⟩];rfl
theorem Ap3{p r n} (h:A4 p=true) (f:(p::r).length<=600) (b:0<=n) (d:n<=Al p):Ov ⟨p::r⟩ n=some (Ba p n,⟨Bh p n::r⟩):=by
 have i:=Dk h;unfold Ov Ba Bh;rw[Aot];have e:((p::r).take (p::r).length).drop 1=r:=by simp
 have g:r.length+1<=600:=by simpa using f
 rw[e,Aa ⟨by omega,by simp<;>omega⟩];by_cases a:p.kind=2
 ·have c:n<=p.signs.length:=by unfold Al at d;rcases Ea h with⟨g1,_⟩|⟨g1,g2,g3,g4⟩|⟨g1,_⟩<;>omega
  rw[Ad a,Aa ⟨b,c⟩,Aa ⟨b,c⟩,Aa ⟨by omega,by simp<;>omega⟩,Aa (by simp<;>omega),if_pos a,if_pos a];rfl
 ·rw[Ab a,Ao (by have:=Jw h;omega) (by have:=Jw h;omega),Aa ⟨by omega,by simp<;>omega⟩,Aa (by simp<;>omega),if_neg a,if_neg a];rfl
theorem A3d{p r} (h:A4 p=true) (a:(p::r).length<=600):Qj ⟨p::r⟩=some (Ba p (Al p),⟨Bh p (Al p)::r⟩):=by unfold Qj;rw[Aa ⟨by omega,by simp<;>omega⟩];simp only[Aot,Ag3 h,B5i];rw[Ap3 h a (Dk h).1 (B67 _)];rfl
section
theorem J.skpL{f a b} (h:J f a b):J f (Go.Proofs.YtcdecpdpmpfbnaaGreatDoor.skp a) b:=⟨Acj h.oa,h.ob,h.skp.la,h.lb,by rw[Rs];exact h.m⟩
theorem B19{f p r b} (h:J f (p::r) b) (c:Al p≠0) (d:p.kind=f):tr f (p::r) b=(some (Ba p (Al p)),none)::tr f (Bh p (Al p)::r) b:=by
 have e:Jf f (skp (p::r)) (skp b)=some ((some (Ba p (Al p)),none),Bh p (Al p)::r,skp b):=by rw[Sf c];cases skp b<;>simp only[Jf,if_pos d]
 rw[At8 h e,Ajx rfl (P8 b)]
theorem A9f{f q a t} (h:J f a (q::t)) (d:Al q≠0) (c:q.kind=2) (i:∀p r,skp a=p::r->p.kind≠f):tr f a (q::t)=(none,some (Ba q (Al q)))::tr f a (Bh q (Al q)::t):=by
 have e:Jf f (skp a) (skp (q::t))=some ((none,some (Ba q (Al q))),skp a,Bh q (Al q)::t):=by
  rw[Sf d];cases g:skp a with
  |nil=>simp only[Jf,if_pos c]
  |cons p r=>simp only[Jf,if_neg (i p r g),if_pos c]
 rw[At8 h e,Ajx (P8 a) rfl]
theorem B18{f p q r t} (h:J f (p::r) (q::t)) (d:Al p≠0) (e:Al q≠0) (g:p.kind≠f) (c:q.kind≠2){n} (i:n=min (Al p) (Al q)):
  tr f (p::r) (q::t)=(some (Ba p n),some (Ba q n))::tr f (Bh p n::r) (Bh q n::t):=by
 subst i;exact At8 h (by rw[Sf d,Sf e];simp only[Jf,if_neg g,if_neg c])
theorem At6{f a b} (c:skp a=[]) (d:skp b=[]):tr f a b=[]:=B2a (by rw[c,d];rfl)
theorem At7{f a b}:tr f (skp a) (skp b)=tr f a b:=Ajx (P8 a) (P8 b)
theorem B2b{f a b}:tr f (skp a) b=tr f a b:=Ajx (P8 a) rfl
def E7:Em->List DPart
 |(some p,some q)=>if q.kind=1 then [p]else []
 |(some p,none)=>[p]
 |(none,some q)=>[⟨1,q.signs.length,[]⟩]
 |(none,none)=>[]
def E8:Em->List DPart
 |(some p,some q)=>if p.kind=1 then [q]else []
 |(some p,none)=>[⟨1,p.signs.length,[]⟩]
 |(none,some q)=>[q]
 |(none,none)=>[]
def Io (a b:List DPart):List DPart:=(tr 2 a b).flatMap E7
def Ip (a b:List DPart):List DPart:=(tr 2 a b).flatMap E8
theorem Ajw{f a b} (h:J f a b):
  (skp a=[]/\skp b=[]/\tr f a b=[])\/
  (∃p r,skp a=p::r/\p.kind=f/\A4 p=true/\(p::r).length<=600/\J f (Bh p (Al p)::r) b/\A8 (Bh p (Al p)::r)+A8 b<A8 a+A8 b/\tr f a b=(some (Ba p (Al p)),none)::tr f (Bh p (Al p)::r) b)\/
  (∃q t,skp b=q::t/\q.kind=2/\A4 q=true/\(q::t).length<=600/\(skp a=[]\/∃p r,skp a=p::r/\p.kind≠f/\p.kind≠0)/\J f (skp a) (Bh q (Al q)::t)/\A8 (skp a)+A8 (Bh q (Al q)::t)<A8 a+A8 b/\tr f a b=(none,some (Ba q (Al q)))::tr f (skp a) (Bh q (Al q)::t))\/
  (∃p r q t n,skp a=p::r/\skp b=q::t/\p.kind≠f/\q.kind≠2/\A4 p=true/\A4 q=true/\(p::r).length<=600/\(q::t).length<=600/\min (Al p) (Al q)=n/\0<=n/\n<=Al p/\n<=Al q/\J f (Bh p n::r) (Bh q n::t)/\A8 (Bh p n::r)+A8 (Bh q n::t)<A8 a+A8 b/\tr f a b=(some (Ba p n),some (Ba q n))::tr f (Bh p n::r) (Bh q n::t)):=by
 have c:=h.skp;have w:=Mm a;have z:=Mm b;cases j:skp a with
 |nil=>
  rw[j]at c w;cases i:skp b with
  |nil=>exact .inl ⟨rfl,rfl,At6 j i⟩
  |cons q t=>rw[i]at c z;have u:=Se i;have d:=c.no_left u;have ok:=Il c.ob;have g:=c.right d;have A:=Dk ok;exact .inr (.inr (.inl ⟨q,t,rfl,d,ok,c.lb,.inl rfl,g.1,by omega,by rw[<-At7,j,i,A9f c u d (λp r m=>by cases m)]⟩))
 |cons p r=>
  rw[j]at c w;have m:=Se j;have k:=Il c.oa;have C:=Dk k;by_cases d:p.kind=f
  ·have v:J f (p::r) b:=by have:=h.skpL;rw[j]at this;exact this
   have g:=v.left d;exact .inr (.inl ⟨p,r,rfl,d,k,c.la,g.1,by omega,by rw[<-B2b,j,B19 v m d]⟩)
  ·have B:p.kind≠0:=by rcases Ea k with⟨g1,_⟩|⟨g1,_⟩|⟨g1,_⟩<;>omega
   cases i:skp b with
   |nil=>rw[i]at c;exact absurd (c.no_right m) d
   |cons q t=>
    rw[i]at c z;have u:=Se i;have l:=Il c.ob;have A:=Dk l;by_cases e:q.kind=2
    ·have g:=c.right e;exact .inr (.inr (.inl ⟨q,t,rfl,e,l,c.lb,.inr ⟨p,r,rfl,d,B⟩,g.1,by omega,by rw[<-At7,j,i,A9f c u e (λD F s=>by rw[Sf m]at s;cases s;exact d)]⟩))
    ·have g:=c.both d e rfl;exact .inr (.inr (.inr ⟨p,r,q,t,_,rfl,rfl,d,e,k,l,c.la,c.lb,rfl,g.2.2.2.1,g.2.2.2.2.1,g.2.2.2.2.2,g.1,by omega,by rw[<-At7,j,i,B18 c m u d e rfl]⟩))
theorem A4c{σ ρ f F} (A B:σ->List DPart) (P:σ->Prop) (G:σ->List Em->ρ)
  (i:∀s,P s->J f (A s) (B s)->
   (∃e s',F s=some (.go s')/\P s'/\J f (A s') (B s')/\A8 (A s')+A8 (B s')<A8 (A s)+A8 (B s)/\tr f (A s) (B s)=e::tr f (A s') (B s')/\∀l,G s (e::l)=G s' l)\/
   (F s=some (.out (G s []))/\tr f (A s) (B s)=[])) s (h:P s) (g:J f (A s) (B s)):Bc F s=some (G s (tr f (A s) (B s))):=
 Rj (f:=F) (λs=>P s/\J f (A s) (B s)) (λs=>(A8 (A s)+A8 (B s)).toNat) (λs=>G s (tr f (A s) (B s))) (λs c=>by
  rcases i s c.1 c.2 with⟨e,s',g1,g2,g3,g4,g5,d⟩|⟨g1,g2⟩
  ·have j:=Ho g3.oa;have k:=Ho g3.ob;exact .inl ⟨s',g1,⟨g2,g3⟩,by omega,by rw[g5,d]⟩
  ·exact .inr (by rw[g1,g2])) s ⟨h,g⟩
theorem Aou e:(E7 e).length<=1:=by obtain⟨_|p,_|q⟩:=e<;>simp only[E7]<;>(try split)<;>simp
theorem Aov e:(E8 e).length<=1:=by obtain⟨_|p,_|q⟩:=e<;>simp only[E8]<;>(try split)<;>simp
section
variable {a b r t:List DPart} {p q:DPart} {n:Int}
theorem Xr (h:A4 p=true):p.kind≠0:=by rcases Ea h with⟨g1,_⟩|⟨g1,_⟩|⟨g1,_⟩<;>omega
theorem Rg (h:oks a) (e:a.length<=600){c} (d:skp a=c):F8 ⟨a⟩=some (Ey c,⟨c⟩)/\F8 ⟨c⟩=some (Ey c,⟨c⟩):=by subst d;refine⟨A29 h e,?_⟩;have:=A29 (Acj h) (by have:=Aje a;omega);rwa [P8]at this
variable {o:List DPart}
end
section
variable {x y:List DPart}
theorem Bp0{a b} (h:J 2 a b) (e:skp a=[]) (f:skp b=[]):Ot x y a b=some (.out (x,y)):=by have c:=(Rg h.oa h.la e).1;have d:=(Rg h.ob h.lb f).1;unfold Ot;simp(disch:=first|assumption|omega|rfl) only[c,d,B5i,Ey,Bn,A9,Ag,decide_true,B5o]
theorem Bp1{a b r p} (h:J 2 a b) (ho:x.length<=1000000) (i:y.length<=1000000) (c:skp a=p::r) (g:p.kind=2) (ok:A4 p=true) (d:(p::r).length<=600):Ot x y a b=some (.go (x++[Ba p (Al p)],y++[(⟨1,((Ba p (Al p)).signs.length:Int),[]⟩:DPart)],Bh p (Al p)::r,b)):=by obtain⟨f,e⟩:=Rg h.oa h.la c;have w:=A3d ok d;have j:=Xr ok;clear c d;unfold Ot;simp(disch:=first|assumption|omega|rfl) only[f,e,w,g,B5i,Ey,Bn,Ab,A9,Aa,decide_true]
theorem Bp2{a b t q} (h:J 2 a b) (ho:x.length<=1000000) (l:y.length<=1000000) (i:skp b=q::t) (j:q.kind=2) (ok:A4 q=true) (k:(q::t).length<=600) (c:skp a=[]\/∃p r,skp a=p::r/\p.kind≠2/\p.kind≠0):Ot x y a b=some (.go (x++[(⟨1,((Ba q (Al q)).signs.length:Int),[]⟩:DPart)],y++[Ba q (Al q)],skp a,Bh q (Al q)::t)):=by
 obtain⟨g,f⟩:=Rg h.ob h.lb i;have w:=A3d ok k;have m:=Xr ok;clear i k;unfold Ot;rcases c with c|⟨p,r,c,g1,g2⟩
 ·obtain⟨e,d⟩:=Rg h.oa h.la c;rw[c];clear c;simp(disch:=first|assumption|omega|rfl) only[e,d,g,f,w,j,B5i,Ey,Bn,Ab,A9,Aa,decide_true]
 ·obtain⟨e,d⟩:=Rg h.oa h.la c;rw[c];clear c;simp(disch:=first|assumption|omega|rfl) only[e,d,g,f,w,j,g1,g2,B5i,Ey,Bn,A9,Ag,Aa,decide_true,decide_false]
theorem Bpz{a b r t p q n} (h:J 2 a b) (ho:x.length<=1000000) (H:y.length<=1000000) (B:skp a=p::r) (C:skp b=q::t) (D:p.kind≠2) (g:q.kind≠2) (c:A4 p=true) (e:A4 q=true) (F:(p::r).length<=600) (i:(q::t).length<=600)
  (u:min (Al p) (Al q)=n) (f:0<=n) (z:n<=Al p) (A:n<=Al q):Ot x y a b=some (.go (x++E7 (some (Ba p n),some (Ba q n)),y++E8 (some (Ba p n),some (Ba q n)),Bh p n::r,Bh q n::t)):=by
 obtain⟨m,k⟩:=Rg h.oa h.la B;obtain⟨s,l⟩:=Rg h.ob h.lb C;have tp:=Ap3 (r:=r) c F f z;have w:=Ap3 (r:=t) e i f A;have v:=Ag3 c;have sq:=Ag3 e;have j:=(De c f z).2.1;have d:=(De e f A).2.1;have G:=Xr c;clear B C F i c e f z A h;unfold Ot E7 E8;by_cases g1:q.kind=1
 ·by_cases g2:p.kind=1
  ·simp(disch:=first|assumption|omega|rfl) only[m,s,k,l,v,sq,tp,w,u,j,d,g1,g2,B5i,Ey,Bn,Ab,A9,Aa,decide_true,if_true]
  ·simp(disch:=first|assumption|omega|rfl) only[m,s,k,l,v,sq,tp,w,u,D,G,j,d,g1,g2,B6o,B5i,Ey,Bn,Ab,A9,Ag,Aa,decide_true,decide_false,if_false,if_true]
 ·by_cases g2:p.kind=1
  ·simp(disch:=first|assumption|omega|rfl) only[m,s,k,l,v,sq,tp,w,u,g,j,d,g1,g2,B6o,B5i,Ey,Bn,Ab,A9,Ag,Aa,decide_true,decide_false,if_false,if_true]
  ·simp(disch:=first|assumption|omega|rfl) only[m,s,k,l,v,sq,tp,w,u,D,g,G,j,d,g1,g2,B6o,B5i,Ey,Bn,A9,Ag,Aa,decide_false,if_false]
end
theorem Bp3{a b} (h:J 2 a b) (c:A8 a+A8 b<=100000):Bc Adm ([],[],a,b)=some (Io a b,Ip a b):=by
 have u:=A4c (f:=2) (F:=Adm) (λs=>s.2.2.1) (λs=>s.2.2.2) (λs=>(s.1.length:Int)+(A8 s.2.2.1+A8 s.2.2.2)<=100000/\(s.2.1.length:Int)+(A8 s.2.2.1+A8 s.2.2.2)<=100000) (λs l=>(s.1++l.flatMap E7,s.2.1++l.flatMap E8)) (λs C h=>by
  obtain⟨x,y,a,b⟩:=s;dsimp only at C h⊢;have I:=Ho h.oa;have K:=Ho h.ob;have ho:x.length<=1000000:=by omega
  have e:y.length<=1000000:=by omega
  rcases Ajw h with⟨d,i,g⟩|⟨p,r,d,j,ok,c,g1,g2,g⟩|⟨q,t,i,j,ok,c,d,g1,g2,g⟩|⟨p,r,q,t,n,d,i,j,k,v,w,c,m,G,z,A,B,g1,g2,g⟩
  ·exact .inr ⟨by unfold Adm;rw[Bp0 h d i];simp,g⟩
  ·exact .inl ⟨_,(x++[Ba p (Al p)],y++[(⟨1,((Ba p (Al p)).signs.length:Int),[]⟩:DPart)],Bh p (Al p)::r,b),Bp1 h ho e d j ok c,⟨by simp only[B5m,B5q,B5y];omega,by simp only[B5m,B5q,B5y];omega⟩,g1,g2,g,λl=>by simp[E7,E8]⟩
  ·exact .inl ⟨_,(x++[(⟨1,((Ba q (Al q)).signs.length:Int),[]⟩:DPart)],y++[Ba q (Al q)],skp a,Bh q (Al q)::t),Bp2 h ho e i j ok c d,⟨by simp only[B5m,B5q,B5y];omega,by simp only[B5m,B5q,B5y];omega⟩,g1,g2,g,λl=>by simp[E7,E8]⟩
  ·have H:=Aou (some (Ba p n),some (Ba q n));have D:=Aov (some (Ba p n),some (Ba q n));exact .inl ⟨_,(x++E7 (some (Ba p n),some (Ba q n)),y++E8 (some (Ba p n),some (Ba q n)),Bh p n::r,Bh q n::t),Bpz h ho e d i j k v w c m G z A B,⟨by simp only[B5m];omega,by simp only[B5m];omega⟩,g1,g2,g,λl=>by simp⟩) ([],[],a,b) ⟨by simpa using c,by simpa using c⟩ h
 simpa [Io,Ip]using u
theorem A9g{f} (Q:Em->Prop) (A:∀p,A4 p=true->Q (some p,none)) (B:∀p,A4 p=true->Q (none,some p)) (C:∀p q,A4 p=true->A4 q=true->Q (some p,some q)):
  ∀(n:Nat) {a b:List DPart},J f a b->A8 a+A8 b<=n->(∀e∈tr f a b,Q e)/\(tr f a b).length<=n:=by
 intro n;induction n with
 |zero=>intro a b h G;have I:=Ho h.oa;have K:=Ho h.ob;rw[At6 (Qr h.oa (by omega)) (Qr h.ob (by omega))];exact⟨λe c=>(by cases c),by simp⟩
 |succ n j=>
  intro a b h G;rcases Ajw h with⟨i,s,d⟩|⟨p,r,i,u,ok,v,g1,g2,d⟩|⟨q,t,s,u,ok,v,i,g1,g2,d⟩|⟨p,r,q,t,n,i,s,u,D,k,l,v,F,H,m,w,z,g1,g2,d⟩<;>rw[d]
  ·exact⟨λe c=>(by cases c),by simp⟩
  ·have g:=j g1 (by omega);refine⟨λe c=>?_,by simp only[B5q];omega⟩;rcases B5t.1 c with rfl|c
   ·exact A _ (De ok (Dk ok).1 (B67 _)).1
   ·exact g.1 e c
  ·have g:=j g1 (by omega);refine⟨λe c=>?_,by simp only[B5q];omega⟩;rcases B5t.1 c with rfl|c
   ·exact B _ (De ok (Dk ok).1 (B67 _)).1
   ·exact g.1 e c
  ·have g:=j g1 (by omega);refine⟨λe c=>?_,by simp only[B5q];omega⟩;rcases B5t.1 c with rfl|c
   ·exact C _ _ (De k m w).1 (De l m z).1
   ·exact g.1 e c
theorem A14{g} {l:List Em} (f:∀e∈l,∀p∈g e,A4 p=true) (i:∀e,(g e).length<=1):(∀p∈l.flatMap g,A4 p=true)/\(l.flatMap g).length<=l.length:=by
 refine⟨λp d=>?_,?_⟩
 ·obtain⟨e,j,d⟩:=B92.1 d;exact f e j p d
 ·induction l with
  |nil=>simp
  |cons e l k=>have:=k (λh c=>f h (by simp[c]));have:=i e;simp only[B6h,B5m,B5q];omega
theorem Ah4{p} (h:A4 p=true):A4 ⟨1,p.signs.length,[]⟩=true:=Abo (.inl rfl) (by omega) (by have:=Jw h;omega)
theorem Ase{a b} (h:J 2 a b) (i:A8 a+A8 b<=100000):(∀p∈Io a b,A4 p=true)/\(Io a b).length<=100000:=by
 have g:=A9g (f:=2) (λe=>∀p∈E7 e,A4 p=true) (λp d q c=>by simp only[E7,B57]at c;subst c;exact d) (λp d q c=>by simp only[E7,B57]at c;subst c;exact Ah4 d)
  (λp q d c x hx=>by
   simp only[E7]at hx;split at hx
   ·simp only[B57]at hx;subst hx;exact d
   ·cases hx) 100000 h (by omega)
 have k:=A14 g.1 Aou;exact⟨k.1,by unfold Io;omega⟩
theorem Ain{a b} (h:J 2 a b) (i:A8 a+A8 b<=100000):(∀p∈Ip a b,A4 p=true)/\(Ip a b).length<=100000:=by
 have g:=A9g (f:=2) (λe=>∀p∈E8 e,A4 p=true) (λp d q c=>by simp only[E8,B57]at c;subst c;exact Ah4 d) (λp d q c=>by simp only[E8,B57]at c;subst c;exact d)
  (λp q d c x hx=>by
   simp only[E8]at hx;split at hx
   ·simp only[B57]at hx;subst hx;exact c
   ·cases hx) 100000 h (by omega)
 have k:=A14 g.1 Aov;exact⟨k.1,by unfold Ip;omega⟩
def L3 (a b:List DPart):List DPart:=A7 (Io a b)
def Ig (a b:List DPart):List DPart:=A7 (Ip a b)
theorem A41{o} (h:Az o=true):oks o/\o.length<=600/\A8 o<=600:=by have c:=Eg h;have f:=A40 h;have d:oks o:=λp e=>Gj c e;exact⟨d,Ky c,by rw[B1s d];omega⟩
theorem J2{a b} (e:Az a=true) (f:Az b=true) (h:Cb a=Cb b):J 2 a b/\A8 a+A8 b<=100000:=by have c:=A41 e;have d:=A41 f;exact⟨⟨c.1,d.1,c.2.1,d.2.1,by rw[Ahv c.1,Ahv d.1,h]⟩,by omega⟩
def Kt (a b:List DPart):List DPart×List DPart×Bool:=if Az a=true/\Az b=true/\Cb a=Cb b/\Az (L3 a b)=true/\Az (Ig a b)=true then(L3 a b,Ig a b,true)else([],[],false)
theorem Bph a b:V0 a b=some (Kt a b):=by
 unfold V0 Kt;simp only[Np,Ag0,B5i];cases h:Az a with
 |false=>simp
 |true=>
  cases i:Az b with
  |false=>simp
  |true=>
   simp only[Eg h,Eg i,if_true,B5o,Ag,B5i];by_cases c:Cb a=Cb b
   ·obtain⟨j,d⟩:=J2 h i c;have g:=Ase j d;have k:=Ain j d;rw[decide_eq_true c,B5o,Ag,Bp3 j d,B5i,Apz (λp e=>Pt (g.1 p e)) (by omega),B5i,Apz (λp e=>Pt (k.1 p e)) (by omega),B5i];show(B5h (bif !Az (L3 a b)then _ else some (!Az (Ig a b))) λf=>_)=_;cases l:Az (L3 a b)with
    |false=>simp
    |true=>
     cases m:Az (Ig a b)with
     |false=>simp
     |true=>simp[c];exact⟨rfl,rfl⟩
   ·rw[decide_eq_false c];simp[c]
theorem Afn{p n} (ok:A4 p=true) (e:p.kind=2) (c:0<=n) (d:n<=Al p):((Ba p n).signs.length:Int)=n:=by have g:=De ok c d;have g2:=g.2.2.1;unfold Al at g2;rcases Ea g.1 with⟨g1,_⟩|⟨_,g3,_⟩|⟨g1,_⟩<;>omega
end
def Bu (c:DL04Cur):List DPart:=if c.at_<c.o.length then Bh (el c.o c.at_.toNat) c.done::c.o.drop (c.at_.toNat+1)else []
structure CI (c:DL04Cur):Prop where
 ok:oks c.o
 len:c.o.length<=600
 a0:0<=c.at_
 a1:c.at_<=c.o.length
 d0:0<=c.done
 d1:c.done<=200
 d2:c.at_<c.o.length->c.done<=Al (el c.o c.at_.toNat)
theorem Btg p:Bh p 0=p:=by obtain⟨k,n,s⟩:=p;unfold Bh;simp
theorem Asi o k (h:0<=k):Bu ⟨o,k,0⟩=o.drop k.toNat:=by
 unfold Bu;dsimp only;by_cases a:k<o.length
 ·rw[if_pos a,Btg,<-W3 (by omega)]
 ·rw[if_neg a,B8n (by omega)]
theorem CI.el {c:DL04Cur} (h:CI c) (a:c.at_<c.o.length):A4 (el c.o c.at_.toNat)=true:=h.ok _ (Bm (by have:=h.a0;omega))
theorem As4{p} (h:A4 p=true):Aet p=some (Al p):=by
 unfold Aet Al;rcases Ea h with⟨g1,g2,g3,g4⟩|⟨g1,g2,g3,g4⟩|⟨g1,g2,g3,g4⟩
 ·rw[Ab (by omega),g4];simp
 ·rw[Ad g1,g2];simp
 ·rw[Ab (by omega),g4];simp
theorem CI.oks{c} (h:CI c):Go.Proofs.YtcdecpdpmpfbnaaGreatDoor.oks (Bu c):=by
 unfold Bu;split
 ·rename_i a;exact Abp (De (h.el a) h.d0 (h.d2 a)).2.2.2.1 (λp b=>h.ok p (B6z b))
 ·exact Bsc
theorem Bwe{c} (h:CI c):∃c',Fk c=some ((Ey (skp (Bu c))).kind,c')/\CI c'/\c'.o=c.o/\Bu c'=skp (Bu c):=by
 obtain⟨r,y,b⟩:=Ri (f:=Aes) (λs=>s.1=c.o/\CI ⟨c.o,s.2.1,s.2.2⟩/\skp (Bu ⟨c.o,s.2.1,s.2.2⟩)=skp (Bu c)) (λs=>((c.o.length:Int)-s.2.1).toNat) (λr=>r.1=c.o/\CI ⟨c.o,r.2.1,r.2.2⟩/\Bu ⟨c.o,r.2.1,r.2.2⟩=skp (Bu c)) (λs z=>by
  obtain⟨q,k,d⟩:=s;obtain⟨t,g,e⟩:=z;obtain rfl:q=c.o:=t;dsimp only at g e⊢;have j:=g.a0;have p:=g.a1;have x:=g.len;dsimp only at j p x;unfold Aes Ax0;dsimp only;by_cases a:k<c.o.length
  ·have ok:=g.el a;have n:=g.d2 a;have m:=g.d0;dsimp only at ok n m;have sz:=(De ok m n).2.2.2.2.2;rw[Ad a,Aa ⟨j,a⟩,As4 ok,B5i,B5i];by_cases w:d=Al (el c.o k.toNat)
   ·refine .inl ⟨(c.o,k+1,0),?_,⟨rfl,⟨g.ok,x,by dsimp only;omega,by dsimp only;omega,by dsimp only;omega,by dsimp only;omega,λv=>?_⟩,?_⟩,?_⟩
    ·rw[Ad w,Ao (by omega) (by omega)]
    ·dsimp only at v⊢;exact(Dk (g.ok _ (Bm (l:=c.o) (by omega)))).1
    ·rw[<-e];show skp (Bu ⟨c.o,k+1,0⟩)=_;rw[Asi _ _ (by omega)];unfold Bu;dsimp only;rw[if_pos a,Atf (by omega),show(k+1).toNat=k.toNat+1 by omega]
    ·dsimp only;omega
   ·refine .inr ⟨(c.o,k,d),by rw[Ab w],rfl,g,?_⟩;rw[<-e];unfold Bu;dsimp only;rw[if_pos a,Sf (by omega)]
  ·refine .inr ⟨(c.o,k,d),by rw[Ab a];rfl,rfl,g,?_⟩;rw[<-e];unfold Bu;dsimp only;rw[if_neg a];rfl) (c.o,c.at_,c.done) ⟨rfl,h,rfl⟩
 obtain⟨q,k,d⟩:=r;obtain⟨t,b,u⟩:=b;obtain rfl:q=c.o:=t;dsimp only at b u;refine⟨⟨c.o,k,d⟩,?_,b,rfl,u⟩;have j:=b.a0;have p:=b.a1;dsimp only at j p;unfold Fk;rw[y,B5i,<-u];by_cases a:k=c.o.length
 ·rw[Ad a];unfold Bu;dsimp only;rw[if_neg (by omega)];rfl
 ·have i:k<c.o.length:=by omega
  have ok:=b.el i;have n:=b.d2 i;have m:=b.d0;dsimp only at ok n m;rw[Ab a,Aa ⟨j,i⟩];unfold Bu;dsimp only;rw[if_pos i];simp only[Ey,(De ok m n).2.2.2.2.1]
theorem Asj{c p r} (h:Bu c=p::r):c.at_<c.o.length/\p=Bh (el c.o c.at_.toNat) c.done/\r=c.o.drop (c.at_.toNat+1):=by
 unfold Bu at h;split at h
 ·rename_i a;simp only[List.cons.injEq]at h;exact⟨a,h.1.symm,h.2.symm⟩
 ·cases h
theorem Aiz{c p r} (h:CI c) (d:Bu c=p::r):Ix c=some (Al p,c):=by obtain⟨a,rfl,_⟩:=Asj d;have ok:=h.el a;have b:=Dk ok;have:=h.d0;have:=h.d1;unfold Ix;rw[Aa ⟨h.a0,a⟩,As4 ok,B5i,Ao (by omega) (by omega),(De ok h.d0 (h.d2 a)).2.2.2.2.2]
def Fq (c:DL04Cur) (n:Int):DL04Cur:=⟨c.o,c.at_,c.done+n⟩
theorem Bth{p d n} (b:0<=d) (c:0<=n):Bh p (d+n)=Bh (Bh p d) n:=by
 unfold Bh;by_cases a:p.kind=2
 ·simp only[if_pos a,B6m,B7o];rw[show(d+n).toNat=d.toNat+n.toNat by omega]
 ·simp only[if_neg a];rw[show p.n-(d+n)=p.n-d-n by omega]
theorem Ae4{c p r n} (h:CI c) (f:Bu c=p::r) (d:0<=n) (e:n<=Al p):CI (Fq c n)/\Bu (Fq c n)=Bh p n::r:=by obtain⟨a,rfl,rfl⟩:=Asj f;have ok:=h.el a;have b:=Dk ok;have:=h.d0;have:=h.d1;rw[(De ok h.d0 (h.d2 a)).2.2.2.2.2]at e;refine⟨⟨h.ok,h.len,h.a0,h.a1,by unfold Fq;dsimp only;omega,by unfold Fq;dsimp only;omega,λ_=>by unfold Fq;dsimp only;omega⟩,?_⟩;unfold Bu Fq;dsimp only;rw[if_pos a,Bth h.d0 d]
theorem A7o{c p r n} (h:CI c) (i:Bu c=p::r) (e:0<=n) (f:n<=Al p) (a:p.kind=2):Qp c n=some ((Ba p n).signs,Fq c n):=by
 obtain⟨d,rfl,rfl⟩:=Asj i;have ok:=h.el d;have b:=Dk ok;have:=h.d0;have:=h.d1;have g:=De ok h.d0 (h.d2 d);rw[g.2.2.2.2.2]at f;rw[g.2.2.2.2.1]at a;have j:Al (el c.o c.at_.toNat)=(el c.o c.at_.toNat).signs.length:=by unfold Al;rcases Ea ok with⟨g1,_⟩|⟨_,g2,_⟩|⟨g1,_⟩<;>omega
 unfold Qp;rw[Aa ⟨h.a0,d⟩,Ao (by omega) (by omega),Aa ⟨by omega,by omega,by omega⟩,Ao (by omega) (by omega)];unfold Fq Ba Bh;simp only[if_pos a,B6m,B7v];rw[<-At2 h.d0 e]
theorem Bwh x y:Zr x y=some (min x y):=by
 unfold Zr;by_cases h:x<y
 ·rw[Ad h];congr 1;omega
 ·rw[Ab h];congr 1;omega
theorem Ayx{b p} (h:p.kind=2):A6 b p=Kj b p.signs:=if_pos h
theorem Ayw{b p} (h:p.kind=3):A6 b p=Ki b p.n:=by unfold A6;rw[if_neg (by omega),if_pos h]
theorem Ae5{b p} (h:p.kind=1):A6 b p=Eu b p.n:=by unfold A6;rw[if_neg (by omega),if_neg (by omega)]
theorem Azm{p n} (h:p.kind≠2):(Ba p n).n=n:=by unfold Ba;rw[if_neg h]
theorem Bwf{c} (h:CI c) (g:skp (Bu c)=Bu c):Fk c=some ((Ey (Bu c)).kind,c):=by
 obtain⟨r,l,m⟩:=Ri (f:=Aes) (λs=>s=(c.o,c.at_,c.done)) (λ_=>0) (λr=>r=(c.o,c.at_,c.done)) (λs n=>by
  subst n;refine .inr ⟨_,?_,rfl⟩;have d:=h.a0;have i:=h.a1;have j:=h.d0;unfold Aes Ax0;dsimp only;by_cases a:c.at_<c.o.length
  ·have ok:=h.el a;have k:=h.d2 a;have sz:=(De ok j k).2.2.2.2.2;have e:Bu c=Bh (el c.o c.at_.toNat) c.done::c.o.drop (c.at_.toNat+1):=by unfold Bu;rw[if_pos a]
   rw[e]at g;have:=Se g;rw[Ad a,Aa ⟨d,a⟩,As4 ok,B5i,B5i,Ab (by omega)]
  ·rw[Ab a];rfl) (c.o,c.at_,c.done) rfl
 subst m;have d:=h.a0;have i:=h.a1;unfold Fk;rw[l,B5i];unfold Bu;by_cases a:c.at_=c.o.length
 ·rw[Ad a,if_neg (by omega)];rfl
 ·have b:c.at_<c.o.length:=by omega
  rw[Ab a,Aa ⟨d,b⟩,if_pos b];simp only[Ey,(De (h.el b) h.d0 (h.d2 b)).2.2.2.2.1]
def G8 (b d:DL02B):List DPart×List Int×Int×List DPart×List Int×Int:=(b.list,b.put,b.drop,d.list,d.put,d.drop)
theorem Sb{o k e} (h:CI ⟨o,k,e⟩){A} (f:skp (Bu ⟨o,k,e⟩)=A):∃b k' a,CI ⟨b,k',a⟩/\Bu ⟨b,k',a⟩=A/\Fk ⟨o,k,e⟩=some ((Ey A).kind,⟨b,k',a⟩)/\Fk ⟨b,k',a⟩=some ((Ey A).kind,⟨b,k',a⟩):=by subst f;obtain⟨⟨b,k',a⟩,g,d,i,c⟩:=Bwe h;exact⟨b,k',a,d,c,g,by rw[<-c];exact Bwf d (by rw[c];exact P8 _)⟩
theorem Ayk{o k e n} (h:CI (Fq ⟨o,k,e⟩ n)):0<=e+n/\e+n<=200:=⟨h.d0,h.d1⟩
theorem Azl{p n} (ok:A4 p=true) (a:0<=n) (b:n<=Al p):(Ba p n).signs.length<=1000000:=by have:=Jw (De ok a b).1;omega
theorem nbd{p n} (ok:A4 p=true) (a:n<=Al p):n<=1000000:=by have:=Dk ok;omega
theorem okf {l:List DPart} (h:∀p∈l,A4 p=true):∀p∈l,T6 p:=λp a=>Pt (h p a)
section
section
variable {o1 o2 r t L L':List DPart} {k1 e1 k2 e2 D D' n:Int} {P P':List Int} {p q:DPart} {m m':Nat}
theorem Bxk (a:CI ⟨o1,k1,e1⟩) (b:CI ⟨o2,k2,e2⟩) (c:skp (Bu ⟨o1,k1,e1⟩)=[]) (d:skp (Bu ⟨o2,k2,e2⟩)=[]):Oz o1 k1 e1 o2 k2 e2 L P D L' P' D'=some (.out (L,P,D,L',P',D')):=by obtain⟨j,k',g,k,l,e,o⟩:=Sb a c;obtain⟨s,i,h,u,v,f,w⟩:=Sb b d;unfold Oz;simp(disch:=first|assumption|omega|rfl) only[e,f,B5i,Ey,Bn,A9,Ag,decide_true,B5o]
theorem Bxl (i:CI ⟨o1,k1,e1⟩) (l:Binv ⟨L,P,D⟩ m) (s:m<1000000) (e:Binv ⟨L',P',D'⟩ m') (f:m'<1000000) (j:skp (Bu ⟨o1,k1,e1⟩)=p::r) (b:p.kind=2) (ok:A4 p=true):
  ∃c,Oz o1 k1 e1 o2 k2 e2 L P D L' P' D'=some (.go (c.o,c.at_,c.done,o2,k2,e2,G8 (A6 ⟨L,P,D⟩ (Ba p (Al p))) (A6 ⟨L',P',D'⟩ ⟨1,((Ba p (Al p)).signs.length:Int),[]⟩)))/\CI c/\Bu c=Bh p (Al p)::r:=by
 obtain⟨u,k',k,h,d,v,x⟩:=Sb i j;have y:=Aiz h d;have a:=Dk ok;have g:=Ae4 h d a.1 (B67 _);have z:=A7o h d a.1 (B67 _) b;refine⟨Fq ⟨u,k',k⟩ (Al p),?_,g.1,g.2⟩;have w:=As1 l s (Azl ok a.1 (B67 _));have w':=Acd (n:=Al p) e f a.1 (by omega);have A:=Xr ok;rw[Ayx (by rw[(De ok a.1 (B67 _)).2.1];exact b),Ae5 rfl,Afn ok b a.1 (B67 _)];clear j i d ok;unfold Oz;simp(disch:=first|assumption|omega|rfl) only[v,x,y,z,w,w',b,Fq,G8,B5i,Ey,Bn,Ab,A9,Ag,decide_true]
theorem Bxm (h:CI ⟨o1,k1,e1⟩) (z:CI ⟨o2,k2,e2⟩) (M:Binv ⟨L,P,D⟩ m) (N:m<1000000) (k:Binv ⟨L',P',D'⟩ m') (l:m'<1000000) (A:skp (Bu ⟨o2,k2,e2⟩)=q::t) (e:q.kind=2) (ok:A4 q=true)
  (a:skp (Bu ⟨o1,k1,e1⟩)=[]\/∃p r,skp (Bu ⟨o1,k1,e1⟩)=p::r/\p.kind≠2/\p.kind≠0):
  ∃c d,Oz o1 k1 e1 o2 k2 e2 L P D L' P' D'=some (.go (c.o,c.at_,c.done,d.o,d.at_,d.done,G8 (A6 ⟨L,P,D⟩ ⟨1,((Ba q (Al q)).signs.length:Int),[]⟩) (A6 ⟨L',P',D'⟩ (Ba q (Al q)))))/\CI c/\CI d/\Bu c=skp (Bu ⟨o1,k1,e1⟩)/\Bu d=Bh q (Al q)::t:=by
 obtain⟨F,C,B,y,i,G,H⟩:=Sb z A;have I:=Aiz y i;have b:=Dk ok;have g:=Ae4 y i b.1 (B67 _);have K:=A7o y i b.1 (B67 _) e;have w:=As1 k l (Azl ok b.1 (B67 _));have w':=Acd (n:=Al q) M N b.1 (by omega);have O:=Xr ok;rw[Ayx (p:=Ba q (Al q)) (by rw[(De ok b.1 (B67 _)).2.1];exact e),Ae5 rfl,Afn ok e b.1 (B67 _)];clear A z i ok;unfold Oz;rcases a with a|⟨p,r,a,g1,g2⟩
 ·obtain⟨s,k',j,u,f,v,x⟩:=Sb h a;refine⟨⟨s,k',j⟩,Fq ⟨F,C,B⟩ (Al q),?_,u,g.1,by rw[a];exact f,g.2⟩;clear a h f;simp(disch:=first|assumption|omega|rfl) only[v,x,G,H,I,K,w,w',e,Fq,G8,B5i,Ey,Bn,Ab,A9,decide_true]
 ·obtain⟨s,k',j,u,f,v,x⟩:=Sb h a;refine⟨⟨s,k',j⟩,Fq ⟨F,C,B⟩ (Al q),?_,u,g.1,by rw[a];exact f,g.2⟩;clear a h f;simp(disch:=first|assumption|omega|rfl) only[v,x,G,H,I,K,w,w',e,g1,g2,Fq,G8,B5i,Ey,Bn,Ab,A9,Ag,decide_true,decide_false]
theorem Bxj (V:CI ⟨o1,k1,e1⟩) (W:CI ⟨o2,k2,e2⟩) (K:Binv ⟨L,P,D⟩ m) (hm:m<1000000) (f:Binv ⟨L',P',D'⟩ m') (v:m'<1000000) (X:skp (Bu ⟨o1,k1,e1⟩)=p::r) (Y:skp (Bu ⟨o2,k2,e2⟩)=q::t) (M:p.kind≠2) (i:q.kind≠2) (a:A4 p=true) (j:A4 q=true)
  (hn:min (Al p) (Al q)=n) (e:0<=n) (N:n<=Al p) (n2:n<=Al q):
  ∃c d,Oz o1 k1 e1 o2 k2 e2 L P D L' P' D'=some (.go (c.o,c.at_,c.done,d.o,d.at_,d.done,G8 ((E7 (some (Ba p n),some (Ba q n))).foldl A6 ⟨L,P,D⟩) ((E8 (some (Ba p n),some (Ba q n))).foldl A6 ⟨L',P',D'⟩)))/\CI c/\CI d/\Bu c=Bh p n::r/\Bu d=Bh q n::t:=by
 obtain⟨o',k',e',q1,O,A,B⟩:=Sb V X;obtain⟨u',j',i',y1,S,F,G⟩:=Sb W Y;have C:=Aiz q1 O;have H:=Aiz y1 S;have g:=Ae4 q1 O e N;have I:=Ae4 y1 S e n2;have g1:=Ayk g.1;have g2:=Ayk I.1;have kp:=Xr a;have x:=(De a e N).2.1;have y:=(De j e n2).2.1;refine⟨Fq ⟨o',k',e'⟩ n,Fq ⟨u',j',i'⟩ n,?_,g.1,I.1,g.2,I.2⟩;have z:=nbd a N;have wk:=Acd (n:=n) K hm e z;have wd:=Asv (n:=n) K hm e z;have R:=Acd (n:=n) f v e z;have Q:=Asv (n:=n) f v e z;have w:=Bwh (Al p) (Al q);rw[hn]at w;have pk:=Ea a;have qk:=Ea j;have U:=Azm (n:=n) M;have T:=Azm (n:=n) i;have P3:p.kind≠1->p.kind=3:=λh=>by rcases pk with⟨g1,_⟩|⟨g1,_⟩|⟨g1,_⟩<;>omega
 have Q3:q.kind≠1->q.kind=3:=λh=>by rcases qk with⟨g1,_⟩|⟨g1,_⟩|⟨g1,_⟩<;>omega
 clear pk qk a j X Y V W O S K f;unfold Oz E7 E8;by_cases l:p.kind=1
 ·by_cases k:q.kind=1
  ·have s:=Ae5 (b:=⟨L,P,D⟩) (p:=Ba p n) (by omega);have u:=Ae5 (b:=⟨L',P',D'⟩) (p:=Ba q n) (by omega);rw[U]at s;rw[T]at u;simp(disch:=first|assumption|omega|rfl) only[A,B,F,G,C,H,w,wk,R,x,y,k,l,B6j,B8i,s,u,Fq,G8,B5i,Ey,Bn,Ab,A9,Ao,decide_true,if_true]
  ·have b5:=Q3 k;have u:=Ayw (b:=⟨L',P',D'⟩) (p:=Ba q n) (by omega);rw[T]at u;simp(disch:=first|assumption|omega|rfl) only[A,B,F,G,C,H,w,Q,i,x,y,k,l,B6j,B8i,u,Fq,G8,B5i,Ey,Bn,Ab,A9,Ag,Ao,decide_true,decide_false,if_false,if_true]
 ·have b4:=P3 l;by_cases k:q.kind=1
  ·have s:=Ayw (b:=⟨L,P,D⟩) (p:=Ba p n) (by omega);rw[U]at s;simp(disch:=first|assumption|omega|rfl) only[A,B,F,G,C,H,w,wd,M,kp,x,y,k,l,B6j,B8i,s,Fq,G8,B5i,Ey,Bn,Ab,A9,Ag,Ao,decide_true,decide_false,if_false,if_true]
  ·simp(disch:=first|assumption|omega|rfl) only[A,B,F,G,C,H,w,M,i,kp,x,y,k,l,B8i,Fq,G8,B5i,Ey,Bn,A9,Ag,Ao,decide_false,if_false]
end
theorem Bm9{p q} (a:A4 p=true):∀x∈E7 (some p,some q),A4 x=true:=λx hx=>by
 simp only[E7]at hx;split at hx
 ·simp only[B57]at hx;subst hx;exact a
 ·cases hx
theorem Bna{p q} (a:A4 q=true):∀x∈E8 (some p,some q),A4 x=true:=λx hx=>by
 simp only[E8]at hx;split at hx
 ·simp only[B57]at hx;subst hx;exact a
 ·cases hx
theorem Bxn{a b} (h:J 2 a b) (W:A8 a+A8 b<=100000):Bc Aen (a,0,0,b,0,0,[],[],0,[],[],0)=some (G8 ((Io a b).foldl A6 bNil) ((Ip a b).foldl A6 bNil)):=by
 have ca:CI ⟨a,0,0⟩:=⟨h.oa,h.la,by simp,by simp,by simp,by simp,λg=>(Dk (h.oa _ (Bm (l:=a) (by simpa using g)))).1⟩;have cb:CI ⟨b,0,0⟩:=⟨h.ob,h.lb,by simp,by simp,by simp,by simp,λg=>(Dk (h.ob _ (Bm (l:=b) (by simpa using g)))).1⟩;have N:Bu ⟨a,0,0⟩=a:=by rw[Asi _ _ (by omega)];rfl
 have O:Bu ⟨b,0,0⟩=b:=by rw[Asi _ _ (by omega)];rfl
 have o:=A4c (f:=2) (F:=Aen) (λs=>Bu ⟨s.1,s.2.1,s.2.2.1⟩) (λs=>Bu ⟨s.2.2.2.1,s.2.2.2.2.1,s.2.2.2.2.2.1⟩)
  (λs=>CI ⟨s.1,s.2.1,s.2.2.1⟩/\CI ⟨s.2.2.2.1,s.2.2.2.2.1,s.2.2.2.2.2.1⟩/\(∃m:Nat,Binv ⟨s.2.2.2.2.2.2.1,s.2.2.2.2.2.2.2.1,s.2.2.2.2.2.2.2.2.1⟩ m/\(m:Int)+(A8 (Bu ⟨s.1,s.2.1,s.2.2.1⟩)+A8 (Bu ⟨s.2.2.2.1,s.2.2.2.2.1,s.2.2.2.2.2.1⟩))<=100000)/\
   ∃m:Nat,Binv ⟨s.2.2.2.2.2.2.2.2.2.1,s.2.2.2.2.2.2.2.2.2.2.1,s.2.2.2.2.2.2.2.2.2.2.2⟩ m/\(m:Int)+(A8 (Bu ⟨s.1,s.2.1,s.2.2.1⟩)+A8 (Bu ⟨s.2.2.2.1,s.2.2.2.2.1,s.2.2.2.2.2.1⟩))<=100000)
  (λs l=>G8 ((l.flatMap E7).foldl A6 ⟨s.2.2.2.2.2.2.1,s.2.2.2.2.2.2.2.1,s.2.2.2.2.2.2.2.2.1⟩) ((l.flatMap E8).foldl A6 ⟨s.2.2.2.2.2.2.2.2.2.1,s.2.2.2.2.2.2.2.2.2.2.1,s.2.2.2.2.2.2.2.2.2.2.2⟩)) (λs hP h=>by
  obtain⟨o1,k1,e1,o2,k2,e2,L,P,D,L',P',D'⟩:=s;dsimp only at hP h⊢;obtain⟨Q,R,⟨m,u,hm⟩,m',c,a5⟩:=hP;have n1:=Ho h.oa;have n2:=Ho h.ob;have X:m<1000000:=by omega
  have k:m'<1000000:=by omega
  rcases Ajw h with⟨j,A,e⟩|⟨p,r,j,g,ok,W,g1,g2,e⟩|⟨q,t,A,g,ok,W,j,g1,g2,e⟩|⟨p,r,q,t,n,j,A,g,V,B,C,W,a4,hn,U,y,z,g1,g2,e⟩
  ·exact .inr ⟨by unfold Aen;rw[Bxk Q R j A];rfl,e⟩
  ·obtain⟨⟨x,w,v⟩,G,H,I⟩:=Bxl (o2:=o2) (k2:=k2) (e2:=e2) Q u X c k j g ok;have d:=(De ok (Dk ok).1 (B67 _)).1;have K:=Tf u (Pt d);have M:=Tf c (Pt (Ah4 d));rw[<-I]at g1 g2 e;exact .inl ⟨_,(x,w,v,o2,k2,e2,G8 (A6 ⟨L,P,D⟩ (Ba p (Al p))) (A6 ⟨L',P',D'⟩ ⟨1,((Ba p (Al p)).signs.length:Int),[]⟩)),G,⟨H,R,⟨m+1,K,by dsimp only;omega⟩,m'+1,M,by dsimp only;omega⟩,g1,g2,e,λl=>by simp[E7,E8,G8]⟩
  ·obtain⟨⟨x,w,v⟩,⟨i,T,S⟩,G,H,I,K,M⟩:=Bxm Q R u X c k A g ok j;have d:=(De ok (Dk ok).1 (B67 _)).1;have Y:=Tf u (Pt (Ah4 d));have w7:=Tf c (Pt d);rw[<-K,<-M]at g1 g2 e;exact .inl ⟨_,(x,w,v,i,T,S,G8 (A6 ⟨L,P,D⟩ ⟨1,((Ba q (Al q)).signs.length:Int),[]⟩) (A6 ⟨L',P',D'⟩ (Ba q (Al q)))),G,⟨H,I,⟨m+1,Y,by dsimp only;omega⟩,m'+1,w7,by dsimp only;omega⟩,g1,g2,e,λl=>by simp[E7,E8,G8]⟩
  ·obtain⟨⟨x,w,v⟩,⟨i,T,S⟩,G,H,I,K,M⟩:=Bxj Q R u X c k j A g V B C hn U y z;have Y:=Wp (okf (Bm9 (q:=Ba q n) (De B U y).1)) u;have w7:=Aou (some (Ba p n),some (Ba q n));have w8:=Wp (okf (Bna (p:=Ba p n) (De C U z).1)) c;have w9:=Aov (some (Ba p n),some (Ba q n));rw[<-K,<-M]at g1 g2 e;exact .inl ⟨_,(x,w,v,i,T,S,G8 ((E7 (some (Ba p n),some (Ba q n))).foldl A6 ⟨L,P,D⟩) ((E8 (some (Ba p n),some (Ba q n))).foldl A6 ⟨L',P',D'⟩)),G,⟨H,I,⟨_,Y,by dsimp only;omega⟩,_,w8,by dsimp only;omega⟩,g1,g2,e,λl=>by rw[B6h,B8e,B6h,B8e];rfl⟩)
  (a,0,0,b,0,0,[],[],0,[],[],0) ⟨ca,cb,⟨0,Qv,by dsimp only;rw[N,O];omega⟩,0,Qv,by dsimp only;rw[N,O];omega⟩ (by dsimp only;rw[N,O];exact h)
 dsimp only at o;rw[N,O]at o;exact o
theorem Bwy a b:Wi a b=some (Kt a b):=by
 unfold Wi Kt;simp only[Mf,Acf,B5i];cases h:Az a with
 |false=>simp
 |true=>
  cases i:Az b with
  |false=>simp
  |true=>
   simp only[Eg h,Eg i,if_true,B5o,Ag,B5i];by_cases c:Cb a=Cb b
   ·obtain⟨j,d⟩:=J2 h i c;have g:=Ase j d;have s:=Ain j d;have w:=Wp (okf g.1) Qv;have w':=Wp (okf s.1) Qv;rw[decide_eq_true c,B5o,Ag,Bxn j d,B5i];have e:=Asu w (by omega);have o:=Asu w' (by omega);show(B5h (O0 ((Io a b).foldl A6 bNil)) λk=>B5h (O0 ((Ip a b).foldl A6 bNil)) λl=>_)=_;rw[e,B5i,o,B5i]
    try simp only
    show(B5h (bif !Az (L3 a b)then _ else some (!Az (Ig a b))) λf=>_)=_;cases u:Az (L3 a b)with
    |false=>simp
    |true=>
     cases v:Az (Ig a b)with
     |false=>simp
     |true=>simp[c];exact⟨rfl,rfl⟩
   ·rw[decide_eq_false c];simp[c]
end
theorem Aqx f a b:Fv f (a++b)=Fv f a+Fv f b:=Yv _ a b
theorem Rr f p:Fv f [p]=G3 f p:=by rw[Hd];show G3 f p+0=_;omega
theorem R2{f p n} (h:A4 p=true) (a:0<=n) (b:n<=Al p):G3 f (Ba p n)=if p.kind=f then 0 else n:=by have g:=De h a b;unfold G3;rw[g.2.1,g.2.2.1]
theorem Aib f (a:f≠1) n:G3 f ⟨1,n,[]⟩=n:=by unfold G3 Al;rw[if_neg (λh=>a h.symm)];simp
theorem Bve:∀(n:Nat) {a b:List DPart},J 2 a b->A8 a+A8 b<=n->Fv 2 (Io a b)=Fv 3 b/\Fv 2 (Ip a b)=Fv 3 a/\Fv 3 (Io a b)=Fv 3 (Ip a b):=by
 intro n;induction n with
 |zero=>intro a b h P;have T:=Ho h.oa;have U:=Ho h.ob;have K:=Qr h.oa (by omega);have L:=Qr h.ob (by omega);unfold Io Ip;rw[At6 K L,<-Rs 3 a,<-Rs 3 b,K,L];exact⟨rfl,rfl,rfl⟩
 |succ n A=>
  intro a b h P;have C:=Rs 3 a;have D:=Rs 3 b;unfold Io Ip;rcases Ajw h with⟨u,x,y⟩|⟨p,r,u,s,ok,H,g1,g2,y⟩|⟨q,t,x,s,ok,H,u,g1,g2,y⟩|⟨p,r,q,t,m,u,x,s,z,d,c,H,O,S,i,w,o,g1,g2,y⟩<;>rw[y]
  ·rw[<-C,<-D,u,x];exact⟨rfl,rfl,rfl⟩
  ·have g:=A g1 (by omega);unfold Io Ip at g;have j:=Dk ok;have l:=R2 (f:=2) ok j.1 (B67 _);have k:=R2 (f:=3) ok j.1 (B67 _);rw[if_pos s]at l;rw[if_neg (by omega)]at k;rw[u,Hd,R3 (by omega)]at C;have e:=g.2.1;rw[Hd,Ut ok j.1 (B67 _) (by omega),R3 (by omega)]at e;simp only[B6h,E7,E8,Aqx,Rr,l,k,Afn ok s j.1 (B67 _),Aib 2 (by omega),Aib 3 (by omega)];omega
  ·have g:=A g1 (by omega);unfold Io Ip at g;have j:=Dk ok;have l:=R2 (f:=2) ok j.1 (B67 _);have k:=R2 (f:=3) ok j.1 (B67 _);rw[if_pos s]at l;rw[if_neg (by omega)]at k;rw[x,Hd,R3 (by omega)]at D;have e:=g.1;rw[Hd,Ut ok j.1 (B67 _) (by omega),R3 (by omega)]at e;simp only[B6h,E7,E8,Aqx,Rr,l,k,Afn ok s j.1 (B67 _),Aib 2 (by omega),Aib 3 (by omega)];omega
  ·have g:=A g1 (by omega);unfold Io Ip at g;have M:p.kind≠1->p.kind=3:=λh=>by rcases Ea d with⟨g1,_⟩|⟨g1,_⟩|⟨g1,_⟩<;>omega
   have F:q.kind≠1->q.kind=3:=λh=>by rcases Ea c with⟨g1,_⟩|⟨g1,_⟩|⟨g1,_⟩<;>omega
   have l:=R2 (f:=2) d i w;have k:=R2 (f:=3) d i w;have N:=R2 (f:=2) c i o;have G:=R2 (f:=3) c i o;have Q:=(De d i w).2.1;have R:=(De c i o).2.1;rw[u,Hd]at C;rw[x,Hd]at D;have v:=g.1;have e2:=g.2.1;rw[Hd]at v e2;rw[if_neg s]at l;rw[if_neg z]at N;simp only[B6h,E7,E8,Aqx,Q,R];by_cases B:p.kind=1
   ·rw[if_neg (by omega)]at k;rw[Ut d i w (by omega)]at e2;rw[if_pos B,Rr,Rr];by_cases k2:q.kind=1
    ·rw[if_neg (by omega)]at G;rw[Ut c i o (by omega)]at v;rw[if_pos k2,Rr,Rr];omega
    ·have:=F k2;rw[if_pos this]at G;rw[Abv c i o this]at v;rw[if_neg k2];show 0+_=_/\_/\0+_=_;omega
   ·have I:=M B;rw[if_pos I]at k;rw[Abv d i w I]at e2;rw[if_neg B];by_cases k2:q.kind=1
    ·rw[Ut c i o (by omega)]at v;rw[if_pos k2,Rr,Rr];show _/\0+_=_/\_=0+_;omega
    ·have:=F k2;rw[Abv c i o this]at v;rw[if_neg k2];show 0+_=_/\0+_=_/\0+_=0+_;omega
theorem Aqm{a b} (h:(Kt a b).2.2=true):Az a=true/\Az b=true/\Cb a=Cb b/\Az (L3 a b)=true/\Az (Ig a b)=true/\Kt a b=(L3 a b,Ig a b,true):=by
 unfold Kt at h⊢;split at h
 ·rename_i g;exact⟨g.1,g.2.1,g.2.2.1,g.2.2.2.1,g.2.2.2.2,if_pos g⟩
 ·cases h
theorem Abq{l} (h:∀p∈l,A4 p=true):Hx l:=λq a=>by
 rcases Ea (h q a)with⟨g1,g2,g3,g4⟩|⟨g1,g2,g3,g4⟩|⟨g1,g2,g3,g4⟩
 ·exact⟨.inl g1,g2,λh=>by omega⟩
 ·exact⟨.inr (.inl g1),by omega,λ_=>g2⟩
 ·exact⟨.inr (.inr g1),g2,λh=>by omega⟩
theorem Bqw{a b} (d:Az a=true) (e:Az b=true) (f:Cb a=Cb b):Cb (L3 a b)=Gp b/\Cb (Ig a b)=Gp a/\Gp (L3 a b)=Gp (Ig a b):=by obtain⟨j,c⟩:=J2 d e f;have g:=Bve 100000 j (by omega);have x:=(Ase j c).1;have y:=(Ain j c).1;unfold L3 Ig;rw[Ape (Abq x),Ape (Abq y),A9a (Abq x),A9a (Abq y),<-Ahv x,<-Ahv y,<-Ahw x,<-Ahw y,<-Ahw j.oa,<-Ahw j.ob];exact g
def Ag4:List DPart->List Int->List DPart
 |[],_=>[]
 |p::o,t=>if p.kind=1 then p::Ag4 o (t.drop p.n.toNat)else if p.kind=3 then⟨2,0,t.take p.n.toNat⟩::Ag4 o (t.drop p.n.toNat)else⟨3,(p.signs.length:Int),[]⟩::Ag4 o t
def inv (o:List DPart) (t:List Int):List DPart×Bool:=if Dn o t then(A7 (Ag4 (A7 o) t),true)else([],false)
theorem Bsb{t} (h:Cf t=true):t.all Cc=true:=by unfold Cf at h;simp only[B5l]at h;exact h.2
theorem Afj{T} [Inhabited T]{f} l (_:l.length<=1099511627776) (b:∀k s,k<l.length->s.length<=k->f k s=some (.go (s++[el l k]))):Ai f (λs=>(s:List T)) l.length 0 []=some l:=by have h:=C6 (F:=f) (e:=λ(s:List T)=>s) l (λr k s=>s.length<=k) (λr _ s=>s++r) (λs _=>by simp) (λx r k s c hx a=>.inl ⟨_,b k s c a,by simp;omega,by simp[hx]⟩) [] (by simp);simpa using h
theorem Apw{o} (h:C0 P9 o):Zb o=some o:=by
 unfold Zb
 rw[Afj o h.1 (λk s a d=>by
  have b:=h.2 _ (Bm a);have c:=h.1;unfold Bag Baf;rw[Pl b.2.2.1,B5i,Aa (by omega)])]
 rfl
theorem As7{o} (h:C0 P9 o):Zq o=some o:=by
 unfold Zq
 rw[Afj o h.1 (λk s a e=>by
  have b:=h.2 _ (Bm a);have c:=h.1;have d:=b.2.2.1;unfold Bbk Bbj;rw[Aa (by omega),Aa (by simp;omega)];rfl)]
 rfl
def push (l:List (List DPart)) (o:List DPart):List (List DPart):=if 8<(l++[o]).length then(l++[o]).drop 1 else l++[o]
def L2 (o:List DPart):Bool:=Az o&&decide (o=A7 o)
theorem A3l{o} (h:L2 o=true):Az o=true/\A7 o=o:=by unfold L2 at h;simp only[B5l,decide_eq_true_eq]at h;exact⟨h.1,h.2.symm⟩
theorem A8h{T} c:∀(l:List T) (k:Nat),Av c (l.drop k)<=Av c l
 |_,0=>by simp
 |[],k+1=>by simp
 |x::l,k+1=>by have:=A8h c l k;simp only[B8a,Av];omega
theorem Bqy{T} c (l:List T) k:A5 c (l.drop k)<=A5 c l:=by have:=A8h c l k;unfold A5;rw[B50];omega
theorem A8k{T} c:∀(l:List T) (k:Nat),Av c (l.take k)<=Av c l
 |_,0=>by simp[Av]
 |[],k+1=>by simp
 |x::l,k+1=>by have:=A8k c l k;simp only[B97,Av];omega
theorem Bqz{T} c (l:List T) k:A5 c (l.take k)<=A5 c l:=by have:=A8k c l k;unfold A5;rw[B5x];omega
def Co (e:DEntry):Bool:=(decide (1<=e.client/\e.client<=8)&&decide (1<=e.seq/\e.seq<=1000000000))&&L2 e.o
theorem Apq e:Ss e=some (Co e):=by unfold Ss Co;simp only[Ez,Boz,B5i,Bo,Dd];rfl
theorem Asw e:S5 e=some (Co e):=by unfold S5 Co;simp only[E5,A7d,B5i,Bo,Dd];rfl
theorem Ub{l} (h:C0 Hm l):Sx l=some l:=by
 unfold Sx
 rw[Afj l h.1 (λk s a c=>by
  have b:=h.1;unfold Bae Bad;rw[Apw (h.2 _ (Bm a)).2.2,B5i,Aa (by omega)])]
 rfl
theorem A69{e} (h:Hm e):Aev e=some e:=by unfold Aev;rw[As7 h.2.2];rfl
def Qs:List (List DPart)->List Int->Option (List Int)
 |[],t=>some t
 |o::r,t=>if Dn o t then Qs r (C9 o t)else none
def A9b:Option (List Int)->List Int×Bool
 |some u=>(u,true)
 |none=>([],false)
theorem A2t l t:Sr l t=some (if Cf t then A9b (Qs l t)else([],false)):=by
 unfold Sr;rw[Aa8,B5i];cases h:Cf t with
 |false=>rfl
 |true=>
  have:=Jx h
  rw[B5o,Ag,Pl (by omega),B5i,C6 (F:=Aj9 l) (e:=λ(s:List Int)=>(B7k s:Sum (List Int) Unit)) l (λ_ _ _=>True) (λr _ s=>match Qs r s with|some u=>B7k u|none=>B6e ()) (λs _=>rfl) (λx r k s b hx _=>by
   unfold Aj9 Aus;rw[hx,A2s,B5i,Qs];cases a:Dn x s with
   |false=>exact .inr rfl
   |true=>exact .inl ⟨_,rfl,trivial,rfl⟩) t trivial,B5i]
  cases Qs l t<;>rfl
def C7:List DEntry->List Int->Option (List Int)
 |[],t=>some t
 |e::r,t=>if Dn e.o t&&Co e then C7 r (C9 e.o t)else none
theorem Ao9:∀l t,l.all Co=true->C7 l t=Qs (l.map λe=>e.o) t
 |[],t,_=>rfl
 |e::l,t,h=>by
  simp only[B7s,B5l]at h;rw[C7,B6r,Qs,h.1,Cak];split
  ·exact Ao9 l _ h.2
  ·rfl
theorem Apb:∀l t,l.all Co=false->C7 l t=none
 |[],t,h=>by cases h
 |e::l,t,h=>by
  rw[C7];cases a:Co e with
  |false=>simp
  |true=>
   simp only[B7s,a,B7t]at h;split
   ·exact Apb l _ h
   ·rfl
theorem Ap0{l} (h:C0 Hm l):V3 l=some (l.map λe=>e.o):=by
 unfold V3;have c:=h.1
 rw[C6 (F:=Avi l) (e:=λ(s:List (List DPart))=>s) l (λr k s=>s.length<=k) (λr _ s=>s++r.map λe=>e.o) (λs _=>by simp) (λx r k s a hx b=>by
  unfold Avi Bal;rw[hx,Apw (h.2 _ (hx▸Bm a)).2.2,B5i,Aa (by omega)];exact .inl ⟨_,rfl,by simp;omega,by simp⟩) [] (by simp)]
 simp
def Eo (s:ByteArray):Bool:=(Jl s).getD false
theorem Agz s (g:s.size<=9223372036854775807):Jl s=some (Eo s):=by
 have a:∃b,Jl s=some b:=by
  unfold Jl
  obtain⟨y,d,_⟩:=Ri (f:=Y6 s) (λi=>0<=i/\i<=s.size) (λi=>((s.size:Int)-i).toNat) (λ_=>True) (λi c=>by
   unfold Y6 Au3;by_cases hi:i<(s.size:Int)
   ·rw[Ad hi,Aa ⟨c.1,hi⟩,Aa ⟨c.1,hi⟩,Bo,B5i];cases (bif decide (((Bz s i.toNat).toNat:Int)<97)then true else decide ((122:Int)<((Bz s i.toNat).toNat:Int)))with
    |true=>exact .inr ⟨_,rfl,trivial⟩
    |false=>rw[Ag,Ao (by omega) (by omega)];exact .inl ⟨_,rfl,⟨by omega,by omega⟩,by omega⟩
   ·rw[Ab hi];exact .inr ⟨_,rfl,trivial⟩) 0 ⟨by omega,by omega⟩
  rw[d,B5i];cases y with
  |inl u=>simp only[B7u];rw[Ez];exact⟨_,rfl⟩
  |inr u=>exact⟨_,rfl⟩
 obtain⟨b,e⟩:=a;unfold Eo;rw[e];rfl
theorem A7e s (b:s.size<=9223372036854775807):S6 s=some (Eo s):=by have h:=Agz s b;have a:Axd=Y6:=rfl;unfold Jl at h;unfold S6;rw[a];simp only[E5];simp only[Ez]at h;exact h
theorem Ayn:∀ {o:List DPart},(∀p∈o,p.kind=2->p.signs.all Cc=true)->∀ {t:List Int},t.all Cc=true->(C9 o t).all Cc=true
 |[],_,t,_=>rfl
 |q::o,h,t,a=>by
  have d:∀k,(t.drop k).all Cc=true:=λk=>B6b.2 λx hx=>B6b.1 a x (B6z hx);have b:∀k,(t.take k).all Cc=true:=λk=>B6b.2 λx hx=>B6b.1 a x (B76 hx);have c:∀ {t:List Int},t.all Cc=true->(C9 o t).all Cc=true:=λa=>Ayn (λp f=>h p (by simp[f])) a;unfold C9;split
  ·rw[Cai,b,c (d _)];rfl
  ·split
   ·rename_i e;rw[Cai,h q (by simp) e,c a];rfl
   ·exact c (d _)
theorem Ah2{o t} (h:Dn o t=true):Cf (C9 o t)=true:=by obtain⟨a,b,c⟩:=Agl h;have e:=Z2 (Uq a) c;have f:=A43 a;have d:=Ayn (Aq8 (Eg a)) (Bsb b);unfold Cf;rw[d];simp;omega
def Uy:Option Int->Int->Bool
 |none,_=>true
 |some p,i=>decide (p<i)
def Es (h:Int):List DSeen->Option Int->Bool
 |[],_=>true
 |s::r,p=>(((decide (1<=s.client/\s.client<=8)&&Uy p s.client)&&decide (1<=s.seq/\s.seq<=1000000000))&&decide (1<=s.rev/\s.rev<=h))&&Es h r (some s.client)
def Bg (d:DDoc):Bool:=(((Eo d.name&&decide (0<=d.from_/\d.from_<=999999000))&&Cf d.text)&&decide (d.list.length<=8))&&((C7 d.list d.text).isSome&&Es (d.from_+d.list.length) d.seen none)
theorem A7v (l:List DSeen){k} {x:DSeen} (b:l.length<=1099511627776) (a:k<l.length):
  (bif decide ((0:Int)<(k:Int))then(xg (Ae ((k:Int)-1))<|xg (0<=((k:Int)-1)/\((k:Int)-1)<(l.length:Int))<|some (decide ((x.client)<=((el l (((k:Int)-1).toNat)).client))))else(some false))=some (!Uy (if k=0 then none else some (el l (k-1)).client) x.client):=by
 cases k with
 |zero=>rfl
 |succ k=>rw[Ad (by omega),Ao (by omega) (by omega),Aa ⟨by omega,by omega⟩,if_neg (by omega),show(((k+1:Nat):Int)-1).toNat=k+1-1 by omega,Uy];congr 1;rw[<-decide_not];exact decide_eq_decide.2 (by omega)
theorem Bpw d (f:d.seen.length<=1099511627776) (g:0<=d.from_/\d.from_<=999999000) (i:d.list.length<=8):Ai (Ac4 d) (λ_=>(B7k ():Sum Unit Bool)) d.seen.length 0 ()=some (bif Es (d.from_+d.list.length) d.seen none then B7k ()else B6e false):=by
 have h:=C6 (F:=Ac4 d) (e:=λ_=>(B7k ():Sum Unit Bool)) d.seen (λ_ _ _=>True) (λr k _=>bif Es (d.from_+d.list.length) r (if k=0 then none else some (el d.seen (k-1)).client)then B7k ()else B6e false) (λ_ _=>rfl) (λx r k s c hx _=>by
  have b:Fd d=some (d.from_+d.list.length):=by unfold Fd;rw[Ao (by omega) (by omega)]
  unfold Ac4 Auv;rw[hx];simp only[Ez,B5i,A7v d.seen (x:=x) f c,b,Bo,Ff];simp only[Es];have a:(if k+1=0 then none else some (el d.seen (k+1-1)).client)=some x.client:=by rw[if_neg (by omega),B89,hx]
  rw[a];generalize Uy (if k=0 then none else some (el d.seen (k-1)).client) x.client=q;generalize Es (d.from_+d.list.length) r (some x.client)=z;generalize decide (1<=x.client/\x.client<=8)=b1;generalize decide (1<=x.seq/\x.seq<=1000000000)=b2;generalize decide (1<=x.rev/\x.rev<=d.from_+d.list.length)=b3;cases b1<;>cases q<;>cases b2<;>cases b3<;>first|exact .inr rfl|exact .inl ⟨(),rfl,trivial,rfl⟩) () trivial
 simpa using h
theorem Bxf d (f:d.seen.length<=1099511627776) (g:0<=d.from_/\d.from_<=999999000) (i:d.list.length<=8):Ai (Ad8 d) (λ_=>(B7k ():Sum Unit Bool)) d.seen.length 0 ()=some (bif Es (d.from_+d.list.length) d.seen none then B7k ()else B6e false):=by
 have h:=C6 (F:=Ad8 d) (e:=λ_=>(B7k ():Sum Unit Bool)) d.seen (λ_ _ _=>True) (λr k _=>bif Es (d.from_+d.list.length) r (if k=0 then none else some (el d.seen (k-1)).client)then B7k ()else B6e false) (λ_ _=>rfl) (λx r k s c hx _=>by
  have b:E6 d=some (d.from_+d.list.length):=by unfold E6;rw[Ao (by omega) (by omega)]
  unfold Ad8 Aw3;rw[hx];simp only[E5,B5i,A7v d.seen (x:=x) f c,b,Bo,Ff];simp only[Es];have a:(if k+1=0 then none else some (el d.seen (k+1-1)).client)=some x.client:=by rw[if_neg (by omega),B89,hx]
  rw[a];generalize Uy (if k=0 then none else some (el d.seen (k-1)).client) x.client=q;generalize Es (d.from_+d.list.length) r (some x.client)=z;generalize decide (1<=x.client/\x.client<=8)=b1;generalize decide (1<=x.seq/\x.seq<=1000000000)=b2;generalize decide (1<=x.rev/\x.rev<=d.from_+d.list.length)=b3;cases b1<;>cases q<;>cases b2<;>cases b3<;>first|exact .inr rfl|exact .inl ⟨(),rfl,trivial,rfl⟩) () trivial
 simpa using h
theorem Azu {d:DDoc}{X Y} (g:((Eo d.name=true/\0<=d.from_/\d.from_<=999999000)/\Cf d.text=true)/\d.list.length<=8->X=Y) (f:¬(((Eo d.name=true/\0<=d.from_/\d.from_<=999999000)/\Cf d.text=true)/\d.list.length<=8)->Y=some false):
  (bif (((!Eo d.name||!decide (0<=d.from_/\d.from_<=999999000))||!Cf d.text)||decide ((8:Int)<(d.list.length:Int)))then some false else X)=Y:=by
 by_cases h:((Eo d.name=true/\0<=d.from_/\d.from_<=999999000)/\Cf d.text=true)/\d.list.length<=8
 ·rw[h.1.1.1,decide_eq_true h.1.1.2,h.1.2,decide_eq_false (p:=(8:Int)<(d.list.length:Int)) (by omega)];exact g h
 ·rw[f h]
  have:(((!Eo d.name||!decide (0<=d.from_/\d.from_<=999999000))||!Cf d.text)||decide ((8:Int)<(d.list.length:Int)))=true:=by
   cases b:Eo d.name
   ·rfl
   ·by_cases a:0<=d.from_/\d.from_<=999999000
    ·cases c:Cf d.text
     ·simp
     ·have:¬d.list.length<=8:=λe=>h ⟨⟨⟨b,a⟩,c⟩,e⟩;rw[decide_eq_true (p:=(8:Int)<(d.list.length:Int)) (by omega)];simp
    ·rw[decide_eq_false a];simp
  rw[this];rfl
theorem A4x{d} (h:¬(((Eo d.name=true/\0<=d.from_/\d.from_<=999999000)/\Cf d.text=true)/\d.list.length<=8)):Bg d=false:=by
 cases a:Bg d with
 |false=>rfl
 |true=>unfold Bg at a;simp only[B5l,decide_eq_true_eq]at a;exact absurd ⟨⟨⟨a.1.1.1.1,a.1.1.1.2⟩,a.1.1.2⟩,a.1.2⟩ h
theorem A4y{d} (h:((Eo d.name=true/\0<=d.from_/\d.from_<=999999000)/\Cf d.text=true)/\d.list.length<=8):Bg d=((C7 d.list d.text).isSome&&Es (d.from_+d.list.length) d.seen none):=by unfold Bg;rw[h.1.1.1,decide_eq_true h.1.1.2,h.1.2,decide_eq_true h.2];rfl
theorem Ua d (h:Eb d):Kb d=some (Bg d):=by
 have g:=h.2.2.2.1;have i:=h.2.2.2.2;have c:=h.1;unfold Qa at c;unfold Kb;simp only[Agz d.name (by omega),Ez,Aa8,B5i,Bo,Ff];refine Azu (λa=>?_) (λa=>by rw[A4x a])
 rw[A4y a,Q8 (b:=.inr ()) d.list Co (λx k j hx=>by
  unfold Auw Auu;rw[hx,Apq];cases Co x<;>rfl),B5i]
 cases f:d.list.all Co with
 |false=>rw[Apb _ _ f];rfl
 |true=>
  rw[Ao9 _ _ f];simp only[cond_true,B7u];rw[Ap0 g,B5i,A2t,a.1.2,B5i,if_pos rfl];cases l:Qs (d.list.map λe=>e.o) d.text with
  |none=>rfl
  |some u=>simp only[A9b,B5o,cond_false,Cbt,B7t];rw[Bpw d i.1 a.1.1.2 a.2];cases Es (d.from_+d.list.length) d.seen none<;>rfl
theorem Ob d (h:Eb d):Ke d=some (Bg d):=by
 have g:=h.2.2.2.2;have b:=h.1;unfold Qa at b;unfold Ke;simp only[A7e d.name (by omega),E5,Ai3,B5i,Bo,Ff];refine Azu (λa=>?_) (λa=>by rw[A4x a])
 rw[A4y a,C6 (F:=Amb d) (e:=λ(_:List Int)=>(B7k ():Sum Unit Unit)) d.list (λ_ _ s=>Cf s=true) (λr _ s=>bif (C7 r s).isSome then B7k ()else B6e ()) (λs _=>rfl) (λx r k s l hx i=>by
  unfold Amb Aw2;rw[hx,Yk,B5i,Asw,Ai3,C7];cases f:Dn x.o s with
  |false=>exact .inr rfl
  |true=>
   have c:=Ah2 f;cases j:Co x with
   |false=>exact .inr rfl
   |true=>simp only[if_true,B5o,cond_false,B5i,c,Ca7];exact .inl ⟨_,rfl,c,rfl⟩) d.text a.1.2,B5i]
 cases (C7 d.list d.text).isSome with
 |false=>rfl
 |true=>simp only[cond_true,B7u,B7t];rw[Bxf d g.1 a.1.1.2 a.2];cases Es (d.from_+d.list.length) d.seen none<;>rfl
theorem Fw{d} (h:Bg d=true):(0<=d.from_/\d.from_<=999999000)/\d.list.length<=8:=by unfold Bg at h;simp only[B5l,decide_eq_true_eq]at h;exact⟨h.1.1.1.2,h.1.2⟩
theorem A1m (a b:DEntry):(a=b)↔((a.client=b.client/\a.seq=b.seq)/\a.o=b.o):=by cases a;cases b;simp[and_assoc]
theorem Boq a b:Ac5 a b=some (decide (a=b)):=by unfold Ac5;simp only[Apr,B5i,Bo,Dd];refine Gu ?_;simp[A1m]
theorem Bv4 a b:Ad9 a b=some (decide (a=b)):=by unfold Ad9;simp only[A7f,B5i,Bo,Dd];refine Gu ?_;simp[A1m]
theorem Ack{l} (h:C0 Hm l) k:C0 Hm (l.drop k):=⟨by have:=h.1;rw[B50];omega,λx hx=>h.2 x (B6z hx)⟩
theorem Oc{l} (h:C0 Hm l):Mw l=some l:=by
 unfold Mw
 rw[Afj l h.1 (λk s a c=>by
  have b:=h.1;unfold Bbn Bbm;rw[A69 (h.2 _ (Bm a)),B5i,Aa (by omega)])]
 rfl
def Rb (d:DDoc) (a:Int):List DEntry×Int:=if Bg d then(if d.from_+d.list.length<a then([],2)else if a<d.from_ then([],3)else(d.list.drop (a-d.from_).toNat,0))else([],1)
theorem Bos d a (h:Eb d):Ake d a=some (Rb d a):=by
 unfold Ake Ado Fd Rb;rw[Ua d h,B5i];cases b:Bg d with
 |false=>rfl
 |true=>
  obtain⟨c,e⟩:=Fw b;rw[B5o,Ag,Ao (by omega) (by omega),B5i,if_pos rfl];by_cases g1:d.from_+d.list.length<a
  ·rw[Ad g1,if_pos g1];rfl
  ·rw[Ab g1,if_neg g1];by_cases g2:a<d.from_
   ·rw[Ad g2,if_pos g2];rfl
   ·rw[Ab g2,if_neg g2,B5i,decide_eq_true rfl,B5o,Ag,Ao (by omega) (by omega),Aa ⟨by omega,by omega⟩,B6m,Ub (Ack h.2.2.2.1 _)];rfl
theorem Bv5 d a (h:Eb d):Amc d a=some (Rb d a):=by
 unfold Amc E6 Rb;rw[Ob d h,B5i];cases b:Bg d with
 |false=>rfl
 |true=>
  obtain⟨c,e⟩:=Fw b;rw[B5o,Ag,Ao (by omega) (by omega),B5i,if_pos rfl];by_cases g1:d.from_+d.list.length<a
  ·rw[Ad g1,if_pos g1]
  ·rw[Ab g1,if_neg g1];by_cases g2:a<d.from_
   ·rw[Ad g2,if_pos g2]
   ·rw[Ab g2,if_neg g2,Ao (by omega) (by omega),Aa ⟨by omega,by omega⟩,B6m,Oc (Ack h.2.2.2.1 _)];rfl
theorem Gz{d} (h:Bg d=true):(0<=d.from_/\d.from_<=999999000)/\Cf d.text=true/\d.list.length<=8/\d.list.all Co=true/\Es (d.from_+d.list.length) d.seen none=true:=by
 unfold Bg at h;simp only[B5l,decide_eq_true_eq]at h;refine⟨h.1.1.1.2,h.1.1.2,h.1.2,?_,h.2.2⟩;cases a:d.list.all Co with
 |true=>rfl
 |false=>have:=h.2.1;rw[Apb _ _ a]at this;cases this
theorem A7x:∀l q H,Es H l q=true->(0<=q.getD 0/\q.getD 0<=8)->(l.length:Int)+q.getD 0<=8
 |[],q,H,_,hq=>by simp;omega
 |x::l,q,H,h,hq=>by
  unfold Es at h;simp only[B5l,decide_eq_true_eq]at h;have b:=A7x l (some x.client) H h.2 ⟨by simp only[Cat];omega,by simp only[Cat];omega⟩;simp only[Cat]at b
  have a:q.getD 0<x.client:=by
   cases q with
   |none=>simp only[Option.getD_none];omega
   |some c=>have:=h.1.1.1.2;unfold Uy at this;simpa using this
  simp only[B5q];omega
theorem Up{d} (h:Bg d=true):d.seen.length<=8:=by have:=A7x _ _ _ (Gz h).2.2.2.2 ⟨by simp,by simp⟩;simp only[Option.getD_none]at this;omega
def Er (l:List DEntry) (t:List Int):List Int:=l.foldl (λt e=>C9 e.o t) t
theorem Apa:∀a b t,C7 (a++b) t=(C7 a t).bind (C7 b)
 |[],b,t=>rfl
 |e::a,b,t=>by
  rw[B6a,C7,C7];split
  ·exact Apa a b _
  ·rfl
theorem Ags:∀ {l:List DEntry} {t u:List Int},C7 l t=some u->u=Er l t
 |[],t,u,h=>by cases h;rfl
 |e::l,t,u,h=>by
  rw[C7]at h;split at h
  ·exact Ags (l:=l) (t:=C9 e.o t) h
  ·cases h
theorem Apc{l t} (h:(C7 l t).isSome=true):C7 l t=some (Er l t):=by obtain⟨u,hu⟩:=Option.isSome_iff_exists.1 h;rw[hu,<-Ags hu]
theorem Agr{l t} (h:(C7 l t).isSome=true) k:C7 (l.take k) t=some (Er (l.take k) t)/\C7 (l.drop k) (Er (l.take k) t)=some (Er l t):=by
 have a:C7 (l.take k++l.drop k) t=some (Er l t):=by rw[B6t];exact Apc h
 rw[Apa]at a;cases b:C7 (l.take k) t with
 |none=>rw[b]at a;cases a
 |some u=>rw[b]at a;obtain rfl:=Ags b;exact⟨rfl,a⟩
theorem Apd:∀ {l:List DEntry} {t u:List Int},C7 l t=some u->Cf t=true->Cf u=true
 |[],t,u,h,ht=>by cases h;exact ht
 |e::l,t,u,h,ht=>by
  rw[C7]at h;split at h
  ·rename_i a;simp only[B5l]at a;exact Apd (l:=l) (t:=C9 e.o t) h (Ah2 a.1)
  ·cases h
theorem X0{d} (h:Bg d=true):(C7 d.list d.text).isSome=true:=by unfold Bg at h;simp only[B5l]at h;exact h.2.1
theorem Uo{d} (h:Bg d=true):Eo d.name=true:=by unfold Bg at h;simp only[B5l]at h;exact h.1.1.1.1
theorem Aq4{d} (a:Eo d.name=true) (b:0<=d.from_/\d.from_<=999999000) (c:Cf d.text=true) (e:d.list.length<=8) (f:(C7 d.list d.text).isSome=true) (g:Es (d.from_+d.list.length) d.seen none=true):Bg d=true:=by unfold Bg;rw[a,decide_eq_true b,c,decide_eq_true e,f,g];rfl
theorem Boh{d} (h:Bg d=true) k:Cf (Er (d.list.take k) d.text)=true:=Apd (Agr (X0 h) k).1 (Gz h).2.1
theorem Boi{d} (h:Bg d=true):Cf (Er d.list d.text)=true:=Apd (Apc (X0 h)) (Gz h).2.1
theorem P0{d} (h:0<=d.from_/\d.from_<=999999000) (a:d.list.length<=9):E6 d=some (d.from_+d.list.length):=by unfold E6;rw[Ao (by omega) (by omega)]
theorem Xl{d} (h:0<=d.from_/\d.from_<=999999000) (a:d.list.length<=9):Fd d=some (d.from_+d.list.length):=by unfold Fd;rw[Ao (by omega) (by omega)]
theorem As5{d} (h:Eb d) (c:Bg d=true) rev:Ael d rev=some (if d.from_<=rev/\rev<=d.from_+d.list.length then(Er (d.list.take (rev-d.from_).toNat) d.text,true)else([],false)):=by
 obtain⟨g,m⟩:=Fw c;have l:=Jx (Gz c).2.1;have i:=(Agr (X0 c) (rev-d.from_).toNat).1;unfold Ael;rw[Ob d h,B5i,c,B5o,Ag,P0 g (by omega),B5i,E5,B5i,B5i];by_cases b:d.from_<=rev/\rev<=d.from_+d.list.length
 ·rw[decide_eq_true b,B5o,Ag,Aa (by omega),Ao (by omega) (by omega),Aa ⟨by omega,by omega⟩,if_pos b,B7v,B62]
  rw[Gv (F:=Axq d rev) (e:=λ(s:List Int)=>s) (d.list.take (rev-d.from_).toNat) (λr _ s=>(C7 r s).isSome=true) (λs e=>C9 e.o s) (λx r k s j hx a=>by
   rw[C7]at a;unfold Axq Bbd;rw[B7v,hx,Yk];cases f:Dn x.o s&&Co x with
   |false=>rw[f]at a;cases a
   |true=>rw[f,if_pos rfl]at a;simp only[B5l]at f;rw[f.1,if_pos rfl,B5i];exact⟨rfl,a⟩) d.text (by rw[i];rfl)]
  rfl
 ·rw[decide_eq_false b,B6u,A9,if_neg b]
theorem Aiy{d} (h:Eb d) (a:Bg d=true):Zk d=some (Er d.list d.text):=by obtain⟨b,c⟩:=Fw a;unfold Zk;rw[P0 b (by omega),B5i,As5 h a,if_pos (by omega),B5i,show(d.from_+(d.list.length:Int)-d.from_).toNat=d.list.length by omega,B6m]
theorem P6 H:∀l p,Es H l p=true↔(∀s∈l,(1<=s.client/\s.client<=8)/\(1<=s.seq/\s.seq<=1000000000)/\1<=s.rev/\s.rev<=H)/\List.Pairwise (λa b=>a.client<b.client) l/\∀q,p=some q->∀s∈l,q<s.client
 |[],p=>by simp[Es]
 |x::l,p=>by
  unfold Es;simp only[B5l,decide_eq_true_eq,P6 H l (some x.client),List.forall_mem_cons,B8h,B65.injEq,forall_eq'];constructor
  ·rintro ⟨⟨⟨⟨a1,a2⟩,a3⟩,a4⟩,b1,b2,b3⟩;refine⟨⟨⟨a1,a3,a4⟩,b1⟩,⟨b3,b2⟩,λq d=>?_⟩;subst d;have c:q<x.client:=by simpa [Uy]using a2
   exact⟨c,λs e=>by have:=b3 s e;omega⟩
  ·rintro ⟨⟨⟨a1,a3,a4⟩,b1⟩,⟨b3,b2⟩,h⟩;refine⟨⟨⟨⟨a1,?_⟩,a3⟩,a4⟩,b1,b2,b3⟩;cases p with
   |none=>rfl
   |some q=>exact decide_eq_true (h q rfl).1
theorem Bwr d c:∃s b,S7 d c=some (s,b)/\(s∈d.seen\/s=⟨0,0,0⟩):=by
 unfold S7
 obtain⟨y,g,h⟩:=Aau (F:=Aej c d) (e:=λ_=>(B7k ():Sum Unit (Bool×Int×Int×Int))) d.seen (λ_ _ _=>True) (λ_ _ _ y=>∀z,y=B6e z->(⟨z.2.1,z.2.2.1,z.2.2.2⟩:DSeen)∈d.seen) (λs _ z a=>by cases a) (λx r k s i hx _=>by
  unfold Aej Amo;rw[hx];by_cases f:x.client=c
  ·rw[Ad f];exact .inr ⟨_,rfl,λz a=>by cases a;rw[<-hx];exact Bm i⟩
  ·rw[Ab f];exact .inl ⟨(),rfl,trivial,λy j=>j⟩) () trivial
 rw[g,B5i];cases y with
 |inl u=>exact⟨_,_,rfl,.inr rfl⟩
 |inr z=>exact⟨_,_,rfl,.inl (h z rfl)⟩
structure InvS (H c:Int) (r acc:List DSeen) (done:Bool):Prop where
 ra:∀s∈acc,(1<=s.client/\s.client<=8)/\(1<=s.seq/\s.seq<=1000000000)/\1<=s.rev/\s.rev<=H
 rr:∀s∈r,(1<=s.client/\s.client<=8)/\(1<=s.seq/\s.seq<=1000000000)/\1<=s.rev/\s.rev<=H
 pa:List.Pairwise (λa b=>a.client<b.client) acc
 pr:List.Pairwise (λa b=>a.client<b.client) r
 ar:∀a∈acc,∀b∈r,a.client<b.client
 nd:done=false->∀a∈acc,a.client<c
 dn:done=true->∀b∈r,c<b.client
 ln:acc.length+r.length<=8+(if done then 1 else 0)
theorem Ab0{l x} (h:List.Pairwise (λa b=>a.client<b.client) l) (k:∀a∈l,a.client<x.client):List.Pairwise (λa b:DSeen=>a.client<b.client) (l++[x]):=by rw[Cbd];exact⟨h,Caw _ _,λa c b d=>by rw[B57.1 d];exact k a c⟩
theorem Nz{l x} {p:DSeen->Prop} (h:∀a∈l,p a) (k:p x):∀a∈l++[x],p a:=λa b=>by
 rcases B6g.1 b with b|b
 ·exact h a b
 ·rw[B57.1 b];exact k
theorem Bxg{c seq rv H} d (Q:1<=c/\c<=8) (S:1<=seq/\seq<=1000000000) (T:1<=rv/\rv<=H) (t:Es H d.seen none=true) (R:d.seen.length<=8):
  ∃y,Ai (Wh c seq rv d) (λs=>((s.1,s.2):List DSeen×Bool)) d.seen.length 0 ([],false)=some y/\InvS H c [] y.1 y.2:=by
 obtain⟨N,O,_⟩:=(P6 H d.seen none).1 t;refine Aau (F:=Wh c seq rv d) (e:=λ(s:List DSeen×Bool)=>((s.1,s.2):List DSeen×Bool)) d.seen (λr _ s=>InvS H c r s.1 s.2) (λ_ _ _ y=>InvS H c [] y.1 y.2) (λs t=>t) (λx r k s V hx P=>?_) ([],false) ⟨by simp,N,by simp,O,by simp,by simp,by simp,by simpa using R⟩;obtain⟨o,q⟩:=s;obtain⟨v,M,u,U,B,z,D,w⟩:=P;simp only at v u B z D w;have L:=M x (by simp);have l:=λs t=>M s (B5j _ t);obtain⟨A,j⟩:=B8h.1 U;have C:=λa f=>B a f x (by simp);have m:=λa f b i=>B a f b (B5j x i);simp only[B5q]at w;unfold Wh Axp;rw[hx];simp only;by_cases e:x.client=c
 ·rw[Ad e];refine .inl ⟨_,rfl,⟨v,l,u,j,m,z,λh b i=>D h b (B5j _ i),by simp only;omega⟩,λy n=>n⟩
 ·rw[Ab e];cases q with
  |true=>
   have I:o.length+(r.length+1)<=9:=by simpa using w
   rw[B5o,Ag,B5i,Ag,Aa (by omega)];refine .inl ⟨_,rfl,⟨Nz v L,l,Ab0 u C,j,λa f b i=>?_,λh=>(by cases h),λh b i=>D h b (B5j _ i),?_⟩,λy n=>n⟩
   ·exact Nz (p:=λa=>a.client<b.client) (λa f=>m a f b i) (A b i) a f
   ·simp;omega
  |false=>
   have I:o.length+(r.length+1)<=8:=by simpa using w
   rw[B6u,A9,B5i];by_cases g:c<x.client
   ·rw[Ad g,Aa (by omega),Aa (by simp;omega)];have K:=z rfl;have m1:=Nz (x:=⟨c,seq,rv⟩) (p:=λs=>(1<=s.client/\s.client<=8)/\(1<=s.seq/\s.seq<=1000000000)/\1<=s.rev/\s.rev<=H) v ⟨Q,S,T⟩;have m2:=Nz (x:=⟨c,seq,rv⟩) (p:=λs=>s.client<x.client) C g;refine .inl ⟨_,rfl,⟨Nz m1 L,l,Ab0 (Ab0 u K) m2,j,λa f b i=>?_,λh=>(by cases h),λ_ b i=>?_,?_⟩,λy n=>n⟩
    ·have G:=A b i;exact Nz (p:=λa=>a.client<b.client) (λa f=>by have:=m2 a f;omega) G a f
    ·have:=A b i;omega
    ·simp;omega
   ·rw[Ab g,Aa (by omega)];refine .inl ⟨_,rfl,⟨Nz v L,l,Ab0 u C,j,λa f b i=>?_,λ_=>Nz (p:=λa=>a.client<c) (z rfl) (by omega),λh=>(by cases h),?_⟩,λy n=>n⟩
    ·exact Nz (p:=λa=>a.client<b.client) (λa f=>m a f b i) (A b i) a f
    ·simp;omega
theorem Bqv{a b} (h:(Kt a b).2.2=true):L2 (Ig a b)=true:=by
 have g:=Aqm h;obtain⟨j,c⟩:=J2 g.1 g.2.1 g.2.2.1;have y:=(Ain j c).1;unfold L2;rw[g.2.2.2.2.1];have:Ig a b=A7 (Ig a b):=by unfold Ig;exact(Ahz (Abq y)).symm
 rw[decide_eq_true this];rfl
theorem A3k{o} (h:Az o=true):L2 (A7 o)=true:=by unfold L2;rw[X1 h,decide_eq_true (Ahz (Uq h)).symm];rfl
def Hi:List (List DPart)->List DPart->Option (List DPart)
 |[],v=>some v
 |o::r,v=>if(Kt o v).2.2 then Hi r (Kt o v).2.1 else none
theorem Arz:∀ {l:List (List DPart)} {v u:List DPart},Hi l v=some u->L2 v=true->L2 u=true
 |[],v,u,h,hv=>by cases h;exact hv
 |o::r,v,u,h,hv=>by
  rw[Hi]at h;split at h
  ·rename_i a;refine Arz h ?_;rw[(Aqm a).2.2.2.2.2];exact Bqv a
  ·cases h
def Uu (l:List (List DPart)) (b:List DPart):List DPart×Bool:=if Az b then(match Hi l (A7 b)with|some v=>(v,true)|none=>([],false))else([],false)
theorem A7h l b (j:l.length<=1000):Ami l b=some (Uu l b):=by
 unfold Ami Aeu Uu;rw[Mf,B5i];cases ho:Az b with
 |false=>rfl
 |true=>
  rw[B5o,Ag,Asy,ho,if_pos rfl,B5i,if_pos rfl]
  obtain⟨y,d,a⟩:=Aau (F:=Ams l) (e:=λ(s:List (List DPart)×List DPart)=>(B7k (s.1,s.2):Sum (List (List DPart)×List DPart) Unit)) l (λr k s=>s.1.length<=k) (λr _ s y=>match Hi r s.2 with|some v=>∃z,y=B7k (z,v)|none=>y=B6e ()) (λs _=>⟨_,rfl⟩) (λx r k s i hx g=>by
   unfold Ams Ax1;rw[hx,Bwy,B5i];simp only[Hi];cases h:(Kt x s.2).2.2 with
   |false=>exact .inr ⟨_,rfl,rfl⟩
   |true=>rw[B5o,Ag,Aa (by omega)];exact .inl ⟨_,rfl,by simp;omega,λy f=>f⟩) ([],A7 b) (by simp)
  rw[d,B5i];simp only at a;cases c:Hi l (A7 b)with
  |some v=>rw[c]at a;obtain⟨z,rfl⟩:=a;rfl
  |none=>rw[c]at a;subst a;rfl
theorem Bns (l:List DEntry):∀s,l.foldl (λs e=>s++[e.o]) s=s++l.map λe=>e.o:=by
 induction l with
 |nil=>intro s;simp
 |cons x l a=>intro s;rw[B6j,a];simp
theorem A7g{d} (h:Eb d) (f:Bg d=true) rev:Amh d rev=some (if d.from_<=rev/\rev<=d.from_+d.list.length then((d.list.drop (rev-d.from_).toNat).map (λe=>e.o),true)else([],false)):=by
 obtain⟨g,j⟩:=Fw f;have c:=Ack h.2.2.2.1 (rev-d.from_).toNat;have i:(d.list.drop (rev-d.from_).toNat).length<=8:=by rw[B50];omega
 unfold Amh;rw[Ob d h,B5i,f,B5o,Ag,P0 g (by omega),B5i,E5,B5i,B5i];by_cases a:d.from_<=rev/\rev<=d.from_+d.list.length
 ·rw[decide_eq_true a,B5o,Ag,Ao (by omega) (by omega),Aa ⟨by omega,by omega⟩,if_pos a,B6m]
  rw[Gv (F:=Axh d rev) (e:=λ(s:List (List DPart))=>s) (d.list.drop (rev-d.from_).toNat) (λr k s=>s.length<=k) (λs e=>s++[e.o]) (λx r k s b hx l=>by
   unfold Axh Ba9;rw[B6m,As7 (c.2 _ (Bm b)).2.2,B5i,Aa (by omega),hx];exact⟨rfl,by simp;omega⟩) [] (by simp),Bns]
  rfl
 ·rw[decide_eq_false a,B6u,A9,if_neg a]
theorem Bwn{d} (h:Eb d) (a:Bg d=true) base o:∃x c,Zm d base o=some (x,c)/\(c=0->L2 x=true/\Dn x (Er d.list d.text)=true):=by
 obtain⟨f,j⟩:=Fw a;unfold Zm;rw[Ob d h,B5i,a,B5o,Ag,Mf,B5i,B5i];cases ho:Az o with
 |false=>exact⟨_,_,rfl,λh=>absurd h (by decide)⟩
 |true=>
  rw[B5o,Ag,P0 f (by omega),B5i];by_cases g1:d.from_+(d.list.length:Int)<base
  ·rw[Ad g1];exact⟨_,_,rfl,λh=>absurd h (by decide)⟩
  ·rw[Ab g1];by_cases g2:base<d.from_
   ·rw[Ad g2];exact⟨_,_,rfl,λh=>absurd h (by decide)⟩
   ·rw[Ab g2,As5 h a,if_pos ⟨by omega,by omega⟩,B5i,Acf,B5i,Bn];generalize decide ((if Dj o=true then Cb o else 0)=(((Er (d.list.take (base-d.from_).toNat) d.text,true).1.length:Nat):Int))=b;cases b with
    |false=>exact⟨_,_,rfl,λh=>absurd h (by decide)⟩
    |true=>
     rw[A9,A7g h a,if_pos ⟨by omega,by omega⟩,B5i,A7h _ _ (by simp;omega),B5i];unfold Uu;rw[ho,if_pos rfl];cases i:Hi ((d.list.drop (base-d.from_).toNat).map λe=>e.o) (A7 o)with
     |none=>exact⟨_,_,rfl,λh=>absurd h (by decide)⟩
     |some v=>
      simp only;rw[B5o,Ag,Aiy h a,B5i,Yk,B5i];cases g:Dn v (Er d.list d.text)with
      |false=>exact⟨_,_,rfl,λh=>absurd h (by decide)⟩
      |true=>exact⟨_,_,rfl,λ_=>⟨Arz i (A3k ho),g⟩⟩
theorem Br7{o} (h:Az o=true):C0 P9 o:=Hn Atl o (by have:=Aq7 h;omega)
theorem Agc{e} (h:Co e=true):Hm e:=by unfold Co at h;simp only[B5l]at h;exact⟨trivial,trivial,Br7 (A3l h.2).1⟩
theorem Atj{d} (c:d.name.size<=1099511627776) (b:Bg d=true):Eb d:=by have a:=Gz b;have h:=Jx a.2.1;have g:=Up b;exact⟨c,trivial,⟨by omega,λ_ _=>trivial⟩,⟨by omega,λe f=>Agc (B6b.1 a.2.2.2.1 e f)⟩,⟨by omega,λ_ _=>⟨trivial,trivial,trivial⟩⟩⟩
theorem Acc{d} (h:Eb d) (a:Bg d=true):Qq d=some d:=by have c:=Jx (Gz a).2.1;have b:=Up a;unfold Qq;rw[Aa (by omega),Oc h.2.2.2.1,B5i,Aa (by omega)];rfl
theorem A8d{d e S'} {rv:Int} (j:Bg d=true) (q:Co e=true) (r:Dn e.o (Er d.list d.text)=true) (s:d.from_+d.list.length<999999000) (m:Es (d.from_+d.list.length+1) S' none=true):
  ∃c,(bif decide ((8:Int)<((d.list++[e]).length:Int))then(xg (0<=(0:Int)/\(0:Int)<((d.list++[e]).length:Int))<|B5h (Kd ((el (d.list++[e]) 0).o) d.text) λh=>xg (0<=(1:Int)/\(1:Int)<=((d.list++[e]).length:Int))<|xg (Ae (d.from_+1))<|some ((⟨d.name,d.from_+1,h.1,((d.list++[e]).take ((d.list++[e]).length)).drop 1,S'⟩:DDoc),rv,(0:Int)))else(some ((⟨d.name,d.from_,d.text,d.list++[e],S'⟩:DDoc),rv,0)))=some (c,rv,0)/\Bg c=true/\c.name=d.name/\c.from_+c.list.length=d.from_+d.list.length+1:=by
 have n:=Gz j;have p:=Uo j;have a:(C7 (d.list++[e]) d.text).isSome=true:=by rw[Apa,Apc (X0 j),B5i,C7,r,q];rfl
 have b:((d.list++[e]).length:Int)=d.list.length+1:=by simp
 by_cases g:(8:Int)<((d.list++[e]).length:Int)
 ·rw[Ad g,Aa ⟨by omega,by omega⟩];cases k:d.list++[e]with
  |nil=>rw[k]at b;simp at b;omega
  |cons i l=>
   rw[k]at a b;rw[C7]at a;cases f:Dn i.o d.text&&Co i with
   |false=>rw[f]at a;cases a
   |true=>rw[f,if_pos rfl]at a;simp only[B5l]at f;simp only[B5q]at b;rw[show el (i::l) 0=i from rfl,Yk,if_pos f.1,B5i,Aa ⟨by omega,by simp only[B5q];omega⟩,Ao (by omega) (by omega),B6m];refine⟨_,rfl,Aq4 p ⟨by simp only;omega,by simp only;omega⟩ (Ah2 f.1) (by simp only[B8a,B7v];omega) a ?_,rfl,by simp only[B8a,B7v];omega⟩;simp only[B8a,B7v];rw[show d.from_+1+(l.length:Int)=d.from_+d.list.length+1 by omega];exact m
 ·rw[Ab g];refine⟨_,rfl,Aq4 p n.1 n.2.1 (by simp only;omega) a ?_,rfl,by simp only;omega⟩;simp only;rw[b,show d.from_+((d.list.length:Int)+1)=d.from_+d.list.length+1 by omega];exact m
theorem Bqe{H c acc} (h:InvS H c [] acc true):Es H acc none=true:=(P6 H acc none).2 ⟨h.ra,h.pa,λq a=>by cases a⟩
theorem Bqf{H c seq rv acc} (h:InvS H c [] acc false) (b:1<=c/\c<=8) (a:1<=seq/\seq<=1000000000) (d:1<=rv/\rv<=H):Es H (acc++[⟨c,seq,rv⟩]) none=true:=
 (P6 H _ none).2 ⟨Nz h.ra ⟨b,a,d⟩,Ab0 h.pa (h.nd rfl),λq a=>by cases a⟩
theorem Bxs{H a} (f:H<=a){l} (h:Es H l none=true):Es a l none=true:=by obtain⟨b,c,_⟩:=(P6 H l none).1 h;exact(P6 a l none).2 ⟨λs e=>by have:=b s e;exact⟨this.1,this.2.1,this.2.2.1,by omega⟩,c,λq d=>by cases d⟩
theorem Bwu{d} (h:Eb d) (f:Bg d=true) client seq base o:∃e r c,Zo d client seq base o=some (e,r,c)/\(c=0->Bg e=true/\e.name=d.name/\e.from_+e.list.length<=d.from_+d.list.length+1):=by
 obtain⟨w,Q⟩:=Fw f;have z:=Gz f;unfold Zo;rw[Ob d h,B5i,f,B5o,Ag,E5,B5i,B5i];have a:∀ {X:Option (DDoc×Int×Int)} {c:Int},c≠0->X=some (⟨B52,0,[],[],[]⟩,0,c)->∃e r c,X=some (e,r,c)/\(c=0->Bg e=true/\e.name=d.name/\e.from_+e.list.length<=d.from_+d.list.length+1):=λG F=>⟨_,_,_,F,λh=>absurd h G⟩;by_cases g:1<=client/\client<=8
 ·rw[decide_eq_true g,B5o,Ag,E5,B5i,B5i];by_cases i:1<=seq/\seq<=1000000000
  ·rw[decide_eq_true i,B5o,Ag,Mf,B5i,B5i];cases ho:Az o with
   |false=>exact a (by decide) rfl
   |true=>
    rw[B5o,Ag];obtain⟨s,b,s1,m⟩:=Bwr d client;rw[s1,B5i]
    have K:0<=s.seq/\s.seq<=1000000000:=by
     rcases m with m|rfl
     ·have:=((P6 _ _ _).1 z.2.2.2.2).1 s m;omega
     ·simp
    simp only;have D:(bif b then some (decide (s.seq=seq))else some false)=some (b&&decide (s.seq=seq)):=by cases b<;>rfl
    rw[D,B5i];cases R:(b&&decide (s.seq=seq))with
    |true=>rw[A9,Acc h f,B5i];exact⟨_,_,_,rfl,λ_=>⟨f,rfl,by omega⟩⟩
    |false=>
     rw[Ag,Ao (by omega) (by omega),Bn];by_cases u:seq=s.seq+1
     ·rw[Ad u];obtain⟨x,c,M,N⟩:=Bwn h f base o;rw[M,B5i];simp only;rw[Bn];by_cases k:c=0
      ·rw[Ad k,P0 w (by omega),B5i];obtain⟨L,B⟩:=N k;by_cases v:(999999000:Int)<=d.from_+d.list.length
       ·rw[Ad v];exact a (by decide) rfl
       ·rw[Ab v,Acc h f,B5i,Aa (by omega),P0 (d:=⟨d.name,d.from_,d.text,d.list++[(⟨client,seq,x⟩:DEntry)],d.seen⟩) w (by simp;omega),B5i];have A:Co ⟨client,seq,x⟩=true:=by unfold Co;simp only;rw[decide_eq_true g,decide_eq_true i,L];rfl
        have l:d.from_+(((d.list++[(⟨client,seq,x⟩:DEntry)]).length:Nat):Int)=d.from_+d.list.length+1:=by simp;omega
        simp only[l];obtain⟨y,P,t⟩:=Bxg (c:=client) (seq:=seq) (rv:=d.from_+d.list.length+1) (H:=d.from_+d.list.length+1) d g i ⟨by omega,by omega⟩ (Bxs (by omega) z.2.2.2.2) (Up f);rw[P,B5i];obtain⟨C,j⟩:=y;cases j with
        |true=>obtain⟨e,n,p,q,O⟩:=A8d (rv:=d.from_+d.list.length+1) f A B (by omega) (Bqe t);simp only[B5o,Ag];rw[n];exact⟨_,_,_,rfl,λ_=>⟨p,q,by omega⟩⟩
        |false=>have I:=t.ln;simp only[B5y,B6q,if_false]at I;obtain⟨e,n,p,q,O⟩:=A8d (rv:=d.from_+d.list.length+1) f A B (by omega) (Bqf (seq:=seq) (rv:=d.from_+d.list.length+1) t g i ⟨by omega,by omega⟩);simp only[B6u,A9];rw[Aa (by omega),n];exact⟨_,_,_,rfl,λ_=>⟨p,q,by omega⟩⟩
      ·rw[Ab k];exact a k rfl
     ·rw[Ab u];exact a (by decide) rfl
  ·rw[decide_eq_false i,B6u,A9,B5i,A9];exact a (by decide) rfl
 ·rw[decide_eq_false g,B6u,A9,B5i,A9,B5i,A9];exact a (by decide) rfl
theorem A68{name} (c:Eo name=true) (e:name.size<=8){t} (b:Cf t=true):Zj name t=some (⟨name,0,t,[],[]⟩,true)/\Bg ⟨name,0,t,[],[]⟩=true:=by have d:=Jx b;have a:Bg ⟨name,0,t,[],[]⟩=true:=Aq4 c ⟨by simp,by simp⟩ b (by simp) rfl rfl;refine⟨?_,a⟩;unfold Zj;rw[Aa (by omega),B62,Ob _ (Atj (by simp only;omega) a),a];rfl
section
section
variable {T σ ρ:Type} [Inhabited T]
def Cw (q:Option T->T->Bool):Option T->List T->Bool
 |_,[]=>true
 |p,x::r=>q p x&&Cw q (some x) r
theorem Af9{F} {a b:ρ} l (q:Option T->T->Bool) (i:∀k x,k<l.length->el l k=x->F k ()=some (bif q (if k=0 then none else some (el l (k-1))) x then .go ()else .out b)):
  Ai F (λ_=>a) l.length 0 ()=some (bif Cw q none l then a else b):=by
 have h:=C6 (F:=F) (e:=λ_=>a) l (λ_ _ _=>True) (λr k _=>bif Cw q (if k=0 then none else some (el l (k-1))) r then a else b) (λ_ _=>rfl) (λx r k s g hx _=>by
  have c:=i k x g hx;have f:(if k+1=0 then none else some (el l (k+1-1)))=some x:=by rw[if_neg (by omega),B89,hx]
  simp only[f,Cw];cases d:q (if k=0 then none else some (el l (k-1))) x with
  |true=>exact .inl ⟨(),by rw[c,d];rfl,trivial,by simp⟩
  |false=>exact .inr (by rw[c,d];simp)) () trivial
 simpa using h
omit [Inhabited T]in
theorem Anj {q:Option T->T->Bool}:∀ {l:List T} {p:Option T},Cw q p l=true->∀x∈l,∃p,q p x=true
 |[],_,_,_,h=>by cases h
 |y::r,p,h,x,hx=>by
  simp only[Cw,B5l]at h;rcases B5t.1 hx with rfl|hx
  ·exact⟨p,h.1⟩
  ·exact Anj h.2 x hx
def Hj (g:T->Bool):Option T->Bool
 |none=>false
 |some p=>g p
theorem Yb l (g:T->Bool) {k:Nat} (b:l.length<=1099511627776) (a:k<l.length):
  (bif decide ((0:Int)<(k:Int))then(xg (Ae ((k:Int)-1))<|xg (0<=((k:Int)-1)/\((k:Int)-1)<(l.length:Int))<|some (g (el l (((k:Int)-1).toNat))))else(some false))=some (Hj g (if k=0 then none else some (el l (k-1)))):=by
 cases k with
 |zero=>rfl
 |succ k=>rw[Ad (by omega),Ao (by omega) (by omega),Aa ⟨by omega,by omega⟩,if_neg (by omega),show(((k+1:Nat):Int)-1).toNat=k+1-1 by omega,Hj]
def Cu (p:T->Bool) (l:List T):Int:=if l.any p then(l.findIdx p:Int)else-1
theorem Tw{F e} l (p:T->Bool) (s:σ) (g:Int->ρ) (i:∀x k,k<l.length->el l k=x->F k s=some (bif p x then .out (g k)else .go s)):
  Ai F e l.length 0 s=some (if 0<=Cu p l then g (Cu p l)else e s):=by
 have h:=C6 (F:=F) (e:=e) l (λ_ _ s'=>s'=s) (λr k _=>if r.any p then g ((k+r.findIdx p:Nat):Int)else e s) (λs' a=>by rw[a];rfl) (λx r k s' f hx a=>by
  subst a;have c:=i x k f hx;rw[Cbo,Cav];cases d:p x with
  |true=>exact .inr (by rw[c,d];simp)
  |false=>refine .inl ⟨s',by rw[c,d];rfl,rfl,?_⟩;simp only[B8v,cond_false];rw[show k+(List.findIdx p r+1)=k+1+List.findIdx p r by omega]) s rfl
 rw[h];unfold Cu;by_cases b:l.any p=true
 ·rw[if_pos b,if_pos b,if_pos (by omega),B7x]
 ·rw[if_neg b,if_neg b,if_neg (by omega)]
omit [Inhabited T]in
theorem Xo (p:T->Bool) (l:List T): -1<=Cu p l:=by unfold Cu;split<;>omega
omit [Inhabited T]in
theorem Xp (p:T->Bool) (l:List T):Cu p l<l.length:=by
 unfold Cu;split
 ·rename_i h;obtain⟨x,hx,a⟩:=B94.1 h;have:=B9n ⟨x,hx,a⟩;omega
 ·omega
theorem Xq{p} {l:List T} (h:0<=Cu p l):(Cu p l).toNat<l.length/\p (el l (Cu p l).toNat)=true:=by
 have c:=Xp p l;refine⟨by omega,?_⟩;unfold Cu at h⊢;by_cases a:l.any p=true
 ·rw[if_pos a]at h⊢;obtain⟨x,hx,d⟩:=B94.1 a;have b:=B9n ⟨x,hx,d⟩;rw[B58,Gb b];exact List.findIdx_getElem
 ·rw[if_neg a]at h;omega
omit [Inhabited T]in
theorem Aqf {p:T->Bool} {l:List T}:Cu p l<0↔∀x∈l,p x=false:=by
 unfold Cu;by_cases a:l.any p=true
 ·rw[if_pos a];obtain⟨x,hx,b⟩:=B94.1 a;constructor
  ·intro h;omega
  ·intro h;rw[h x hx]at b;cases b
 ·rw[if_neg a];constructor
  ·intro _ x hx;cases b:p x with
   |false=>rfl
   |true=>exact absurd (B94.2 ⟨x,hx,b⟩) a
  ·intro _;omega
def H8 (p:Nat->T->Bool):Nat->List T->Bool
 |_,[]=>true
 |k,x::r=>p k x&&H8 p (k+1) r
theorem Af8{F} {a b:ρ} l (p:Nat->T->Bool) (f:∀x k,k<l.length->el l k=x->F k ()=some (bif p k x then .go ()else .out b)):
  Ai F (λ_=>a) l.length 0 ()=some (bif H8 p 0 l then a else b):=
 C6 (F:=F) (e:=λ_=>a) l (λ_ _ _=>True) (λr k _=>bif H8 p k r then a else b) (λ_ _=>rfl) (λx r k s d hx _=>by
  have h:=f x k d hx;cases c:p k x with
  |true=>exact .inl ⟨(),by rw[h,c];rfl,trivial,by simp[H8,c]⟩
  |false=>exact .inr (by rw[h,c];simp[H8,c])) () trivial
theorem Am8{p}:∀ {l:List T} {k:Nat},H8 p k l=true↔∀i,i<l.length->p (k+i) (el l i)=true
 |[],k=>by simp[H8]
 |x::r,k=>by
  rw[H8,B5l,Am8];constructor
  ·rintro ⟨h1,h2⟩ i hi;cases i with
   |zero=>exact h1
   |succ i=>rw[A1f,show k+(i+1)=k+1+i by omega];exact h2 i (by simpa using hi)
  ·intro h;refine⟨h 0 (by simp),λi hi=>?_⟩;have:=h (i+1) (by simpa using hi);rwa [A1f,show k+(i+1)=k+1+i by omega]at this
end
end
def Dz (r:DRing):Bool:=(((decide (1<=r.cap/\r.cap<=6)&&decide (1<=r.next/\r.next<=1000000000))&&decide ((r.list.length:Int)<=r.cap))&&(!r.out||decide (r.list.length=0)))&&r.list.all Co
theorem Aa7 r:Mr r=some (Dz r):=by
 unfold Mr Dz
 rw[Q8 (b:=.inr ()) r.list Co (λx k a hx=>by
  unfold Au6 Au5;rw[hx,Apq];cases Co x<;>rfl)]
 simp only[Ez,B5i,Bo,Dd,Ff,cm_,Bn];cases r.list.all Co<;>cases r.out<;>simp only[cond_true,cond_false,B7u,Ca8,Bo,cn_,B5o,B6u,Car,B7t,Cak,B90,B8x,B8v,Cbh]<;>refine Gu ?_<;>simp<;>omega
theorem Acg r:Mv r=some (Dz r):=by
 unfold Mv Dz
 rw[Q8 (b:=.inr ()) r.list Co (λx k a hx=>by
  unfold Axk Axj;rw[hx,Asw];cases Co x<;>rfl)]
 simp only[E5,B5i,Bo,Dd,cm_,Bn];cases r.list.all Co<;>cases r.out<;>simp only[cond_true,cond_false,B7u,Ca8,B5o,B6u,Cak,B90,B8v,Cbh]<;>refine Gu ?_<;>simp<;>omega
def A1 (l:List DDoc) (n:ByteArray):Int:=Cu (λd=>decide (d.name=n)) l
theorem Pk h n:Jk h n=some (A1 h.docs n):=by
 unfold Jk Ad3
 rw[Tw h.docs (λd=>decide (d.name=n)) n (λk=>.inr (k,n)) (λx k a hx=>by
  unfold Bau Bat Akg;rw[hx];cases decide (x.name=n)<;>rfl)]
 unfold A1;simp only[B5i];split
 ·rfl
 ·have:=Xo (λd:DDoc=>decide (d.name=n)) h.docs;show some (-1)=_;congr 1;omega
theorem P1 h n:H6 h n=some (A1 h.docs n):=by
 unfold H6
 rw[Tw h.docs (λd=>decide (d.name=n)) () (λk=>.inr k) (λx k a hx=>by
  unfold Aw5 Aw4;rw[hx];cases decide (x.name=n)<;>rfl)]
 unfold A1;simp only[B5i];split
 ·rfl
 ·have:=Xo (λd:DDoc=>decide (d.name=n)) h.docs;show some (-1)=_;congr 1;omega
def Ci (d:DDoc):Int:=d.from_+d.list.length
theorem Xk{d} (h:Bg d=true):Fd d=some (Ci d):=by have:=Fw h;unfold Fd Ci;rw[Ao (by omega) (by omega)]
theorem Yl{d} (h:Bg d=true):E6 d=some (Ci d):=by have:=Fw h;unfold E6 Ci;rw[Ao (by omega) (by omega)]
def Ft (p:Option DDoc) (d:DDoc):Bool:=Bg d&&!Hj (λp=>!Bv p.name d.name) p
def Jg (h:DHub) (p:Option DSub) (s:DSub):Bool:=
 (((decide (1<=s.id/\s.id<=h.last)&&!Hj (λp=>decide (s.id<=p.id)) p)&&Dz s.r)&&decide (0<=A1 h.docs s.doc))&&(s.r.out||decide (s.r.next+(s.r.list.length:Int)=Ci (el h.docs (A1 h.docs s.doc).toNat)+1))
def Ik (h:DHub):Bool:=((decide (h.docs.length<=5)&&decide (h.subs.length<=6))&&decide (0<=h.last/\h.last<=1000000000))&&(Cw Ft none h.docs&&Cw (Jg h) none h.subs)
theorem Ja{r} (h:Dz r=true):(1<=r.cap/\r.cap<=6)/\(1<=r.next/\r.next<=1000000000)/\(r.list.length:Int)<=r.cap/\(r.out=true->r.list=[])/\r.list.all Co=true:=by
 unfold Dz at h;simp only[B5l,decide_eq_true_eq,B6s,B66]at h;refine⟨h.1.1.1.1,h.1.1.1.2,h.1.1.2,λho=>?_,h.2⟩;rcases h.1.2 with a|a
 ·rw[ho]at a;cases a
 ·exact B53 a
theorem A2r {h:DHub}{X Y} (c:(h.docs.length<=5/\h.subs.length<=6)/\0<=h.last/\h.last<=1000000000->X=Y) (b:¬((h.docs.length<=5/\h.subs.length<=6)/\0<=h.last/\h.last<=1000000000)->Y=some false):
  (bif ((decide ((5:Int)<(h.docs.length:Int))||decide ((6:Int)<(h.subs.length:Int)))||!decide (0<=h.last/\h.last<=1000000000))then some false else X)=Y:=by
 by_cases a:(h.docs.length<=5/\h.subs.length<=6)/\0<=h.last/\h.last<=1000000000
 ·rw[decide_eq_true a.2,decide_eq_false (p:=(5:Int)<(h.docs.length:Int)) (by omega),decide_eq_false (p:=(6:Int)<(h.subs.length:Int)) (by omega)];exact c a
 ·rw[b a];have:((decide ((5:Int)<(h.docs.length:Int))||decide ((6:Int)<(h.subs.length:Int)))||!decide (0<=h.last/\h.last<=1000000000))=true:=by simp only[B6s,decide_eq_true_eq,B66,decide_eq_false_iff_not];omega
  rw[this];rfl
theorem A4z{h} (b:¬((h.docs.length<=5/\h.subs.length<=6)/\0<=h.last/\h.last<=1000000000)):Ik h=false:=by
 cases a:Ik h with
 |false=>rfl
 |true=>unfold Ik at a;simp only[B5l,decide_eq_true_eq]at a;exact absurd a.1 b
theorem Aq5{h} (a:(h.docs.length<=5/\h.subs.length<=6)/\0<=h.last/\h.last<=1000000000):Ik h=(Cw Ft none h.docs&&Cw (Jg h) none h.subs):=by unfold Ik;rw[decide_eq_true a.1.1,decide_eq_true a.1.2,decide_eq_true a.2];rfl
theorem Anv{l p} (h:Cw Ft p l=true):∀d∈l,Bg d=true:=λd b=>by obtain⟨q,a⟩:=Anj h d b;unfold Ft at a;simp only[B5l]at a;exact a.1
theorem A2y h (s:Vf h):Iv h=some (Ik h):=by
 obtain⟨_,o,u,_⟩:=s;unfold Iv;simp only[Ez,B5i,Bo,Ff];refine A2r (λj=>?_) (λj=>by rw[A4z j])
 rw[Aq5 j,Af9 (b:=.inr ()) h.docs Ft (λk x g hx=>by
  unfold Au0 Auy;have e:=Yb h.docs (λp=>!Bv p.name x.name) o.1 g;rw[hx,Ua x (hx▸o.2 _ (Bm g)),B5i,e];simp only[B5i,Bo,Ff,Ft];cases Bg x<;>cases Hj (λp=>!Bv p.name x.name) (if k=0 then none else some (el h.docs (k-1)))<;>rfl),B5i]
 cases a:Cw Ft none h.docs with
 |false=>rfl
 |true=>
  have m:=Anv a;simp only[cond_true,B7u,B7t]
  rw[Af9 (b:=.inr false) h.subs (Jg h) (λk x g hx=>by
   unfold Au1 Auz;have e:=Yb h.subs (λp=>decide (x.id<=p.id)) u.1 g;rw[hx,Pk,B5i,e,Ez];rw[Aa7];simp only[B5i,Bo,Ff,Jg];generalize Hj (λp:DSub=>decide (x.id<=p.id)) (if k=0 then none else some (el h.subs (k-1)))=q;generalize z:decide (1<=x.id/\x.id<=h.last)=w;cases t:Dz x.r with
   |false=>cases w<;>cases q<;>rfl
   |true=>
    have v:=Ja t;have n:=Xp (λd:DDoc=>decide (d.name=x.doc)) h.docs;by_cases hi:0<=A1 h.docs x.doc
    ·have c:A1 h.docs x.doc<h.docs.length:=n;have f:=m _ (Bm (l:=h.docs) (i:=(A1 h.docs x.doc).toNat) (by omega));have y:=Fw f;rw[decide_eq_false (p:=A1 h.docs x.doc<0) (by omega),decide_eq_true hi,Ao (by omega) (by omega),Aa ⟨hi,c⟩,Xk f,B5i,Ao (by unfold Ci;omega) (by unfold Ci;omega)]
     cases w<;>cases q<;>cases x.r.out<;>simp only[cond_true,cond_false,B5o,B6u,B8x,Bool.or_true,Cbh,B8v,Cak,B90,B7t,Car,B5i]<;>
      cases decide (x.r.next+(x.r.list.length:Int)=Ci (el h.docs (A1 h.docs x.doc).toNat)+1)<;>rfl
    ·rw[decide_eq_true (p:=A1 h.docs x.doc<0) (by omega),decide_eq_false hi];cases w<;>cases q<;>rfl),B5i]
  cases Cw (Jg h) none h.subs<;>rfl
theorem A7b h (s:Vf h):Iw h=some (Ik h):=by
 obtain⟨_,o,u,_⟩:=s;unfold Iw;simp only[E5,B5i,Bo,Ff];refine A2r (λj=>?_) (λj=>by rw[A4z j])
 rw[Aq5 j,Af9 (b:=.inr ()) h.docs Ft (λk x g hx=>by
  unfold Aw8 Aw6;have e:=Yb h.docs (λp=>!Bv p.name x.name) o.1 g;rw[hx,Ob x (hx▸o.2 _ (Bm g)),B5i,e];simp only[B5i,Bo,Ff,Ft];cases Bg x<;>cases Hj (λp=>!Bv p.name x.name) (if k=0 then none else some (el h.docs (k-1)))<;>rfl),B5i]
 cases a:Cw Ft none h.docs with
 |false=>rfl
 |true=>
  have m:=Anv a;simp only[cond_true,B7u,B7t]
  rw[Af9 (b:=.inr false) h.subs (Jg h) (λk x g hx=>by
   unfold Aw9 Aw7;have e:=Yb h.subs (λp=>decide (x.id<=p.id)) u.1 g;rw[hx,P1,B5i,e,E5];rw[Acg];simp only[B5i,Bo,Ff,Jg];generalize Hj (λp:DSub=>decide (x.id<=p.id)) (if k=0 then none else some (el h.subs (k-1)))=q;generalize z:decide (1<=x.id/\x.id<=h.last)=w;cases t:Dz x.r with
   |false=>cases w<;>cases q<;>rfl
   |true=>
    have v:=Ja t;have n:=Xp (λd:DDoc=>decide (d.name=x.doc)) h.docs;by_cases hi:0<=A1 h.docs x.doc
    ·have c:A1 h.docs x.doc<h.docs.length:=n;have f:=m _ (Bm (l:=h.docs) (i:=(A1 h.docs x.doc).toNat) (by omega));have y:=Fw f;rw[decide_eq_false (p:=A1 h.docs x.doc<0) (by omega),decide_eq_true hi,Ao (by omega) (by omega),Aa ⟨hi,c⟩,Yl f,B5i,Ao (by unfold Ci;omega) (by unfold Ci;omega)]
     cases w<;>cases q<;>cases x.r.out<;>simp only[cond_true,cond_false,B5o,B6u,B8x,Bool.or_true,Cbh,B8v,Cak,B90,B7t,Car,B5i]<;>
      cases decide (x.r.next+(x.r.list.length:Int)=Ci (el h.docs (A1 h.docs x.doc).toNat)+1)<;>rfl
    ·rw[decide_eq_true (p:=A1 h.docs x.doc<0) (by omega),decide_eq_false hi];cases w<;>cases q<;>rfl),B5i]
  cases Cw (Jg h) none h.subs<;>rfl
def dc0:DDoc:=⟨B52,0,[],[],[]⟩
def Ge (l:List DSeen) (c:Int):DSeen×Bool:=match l.find? (λs=>decide (s.client=c))with
 |some s=>(s,true)
 |none=>(⟨0,0,0⟩,false)
def Yo (l:List DSeen) (c:Int):Sum Unit (Bool×Int×Int×Int):=match l.find? (λs=>decide (s.client=c))with
 |some s=>B6e (true,s.client,s.seq,s.rev)
 |none=>B7k ()
theorem A7z l c:B59 (λ_=>some ((⟨0,0,0⟩:DSeen),false)) (λa=>some ((⟨a.2.1,a.2.2.1,a.2.2.2⟩:DSeen),a.1)) (Yo l c)=some (Ge l c):=by unfold Yo Ge;cases l.find? (λs=>decide (s.client=c))<;>rfl
theorem A7y{F} l c (b:∀k x,k<l.length->el l k=x->F k ()=bif decide (x.client=c)then some (Lr.out (B6e (true,x.client,x.seq,x.rev)))else some (Lr.go ())):
  Ai F (λ_=>(B7k ():Sum Unit (Bool×Int×Int×Int))) l.length 0 ()=some (Yo l c):=
 C6 (F:=F) l (λ_ _ _=>True) (λr _ _=>Yo r c) (λ_ _=>rfl) (λx r k s a hx _=>by
  rw[b k x a hx];by_cases h:x.client=c
  ·rw[Ad h];exact .inr (by unfold Yo;rw[List.find?_cons_of_pos (by simpa using h)])
  ·rw[Ab h];exact .inl ⟨(),rfl,trivial,by unfold Yo;rw[List.find?_cons_of_neg (by simpa using h)]⟩) () trivial
theorem Bpu d c:Y8 d c=some (Ge d.seen c):=by unfold Y8;rw[A7y d.seen c (λk x a hx=>by unfold Au8 Au7;rw[hx]),B5i,A7z]
theorem Bxd d c:S7 d c=some (Ge d.seen c):=by unfold S7;rw[A7y d.seen c (λk x a hx=>by unfold Aej Amo;rw[hx]),B5i,A7z]
theorem A7w{d} (a:Bg d=true) c:0<=(Ge d.seen c).1.seq/\(Ge d.seen c).1.seq<=1000000000/\((Ge d.seen c).2=false->(Ge d.seen c).1.seq=0):=by
 unfold Ge;cases h:d.seen.find? (λs=>decide (s.client=c))with
 |none=>exact⟨by simp,by simp,λ_=>rfl⟩
 |some s=>have:=((P6 _ _ _).1 (Gz a).2.2.2.2).1 s (Caj h);exact⟨by simp only;omega,by simp only;omega,λh=>by cases h⟩
theorem A23{d} (h:Eb d) (a:Bg d=true) rev:Adj d rev=some (if d.from_<=rev/\rev<=d.from_+d.list.length then(Er (d.list.take (rev-d.from_).toNat) d.text,true)else([],false)):=by
 obtain⟨c,i⟩:=Fw a;have f:=(Agr (X0 a) (rev-d.from_).toNat).1;have e:(d.list.take (rev-d.from_).toNat).all Co=true:=B6b.2 λx hx=>B6b.1 (Gz a).2.2.2.1 x (B76 hx);have g:C0 Hm (d.list.take (rev-d.from_).toNat):=⟨by rw[B5x];have:=h.2.2.2.1.1;omega,λx hx=>h.2.2.2.1.2 x (B76 hx)⟩;unfold Adj;rw[Ua d h,B5i,a,B5o,Ag,Xl c (by omega),B5i,Ez,B5i,B5i];by_cases b:d.from_<=rev/\rev<=d.from_+d.list.length
 ·rw[decide_eq_true b,B5o,Ag,Ao (by omega) (by omega),Aa ⟨by omega,by omega⟩,if_pos b,B7v,Ap0 g,B5i,A2t,(Gz a).2.1,if_pos rfl,<-Ao9 _ _ e,f];rfl
 ·rw[decide_eq_false b,B6u,A9,if_neg b]
theorem A2x{d} (h:Eb d) (a:Bg d=true):Ac6 d=some (Er d.list d.text):=by obtain⟨b,c⟩:=Fw a;unfold Ac6;rw[Xl b (by omega),B5i,A23 h a,if_pos (by omega),B5i,show(d.from_+(d.list.length:Int)-d.from_).toNat=d.list.length by omega,B6m]
theorem Bo1{d} (h:Eb d) (b:Bg d=true) rev:Akm d rev=some (if d.from_<=rev/\rev<=d.from_+d.list.length then((d.list.drop (rev-d.from_).toNat).map (λe=>e.o),true)else([],false)):=by
 obtain⟨c,f⟩:=Fw b;unfold Akm;rw[Ua d h,B5i,b,B5o,Ag,Xl c (by omega),B5i,Ez,B5i,B5i];by_cases a:d.from_<=rev/\rev<=d.from_+d.list.length
 ·rw[decide_eq_true a,B5o,Ag,Ao (by omega) (by omega),Aa ⟨by omega,by omega⟩,if_pos a,B6m,Ap0 (Ack h.2.2.2.1 _)];rfl
 ·rw[decide_eq_false a,B6u,A9,if_neg a]
theorem Bo3 l b (j:l.length<=1000):Akn l b=some (Uu l b):=by
 unfold Akn Adt Uu;rw[Np,B5i];cases ho:Az b with
 |false=>rfl
 |true=>
  rw[B5o,Ag,Ag1,ho,if_pos rfl,B5i,if_pos rfl]
  obtain⟨y,d,a⟩:=Aau (F:=Ak6 l) (e:=λ(s:List (List DPart)×List DPart)=>(B7k (s.1,s.2):Sum (List (List DPart)×List DPart) Unit)) l (λr k s=>s.1.length<=k) (λr _ s y=>match Hi r s.2 with|some v=>∃z,y=B7k (z,v)|none=>y=B6e ()) (λs _=>⟨_,rfl⟩) (λx r k s i hx g=>by
   unfold Ak6 Avl;rw[hx,Bph,B5i];simp only[Hi];cases h:(Kt x s.2).2.2 with
   |false=>exact .inr ⟨_,rfl,rfl⟩
   |true=>rw[B5o,Ag,Aa (by omega)];exact .inl ⟨_,rfl,by simp;omega,λy f=>f⟩) ([],A7 b) (by simp)
  rw[d,B5i];simp only at a;cases c:Hi l (A7 b)with
  |some v=>rw[c]at a;obtain⟨z,rfl⟩:=a;rfl
  |none=>rw[c]at a;subst a;rfl
theorem A5v:∀ {l:List DEntry} {t:List Int} {v u:List DPart},Hi (l.map λe=>e.o) v=some u->(C7 l t).isSome=true->Dn v t=true->Dn u (Er l t)=true
 |[],t,v,u,h,_,hv=>by cases h;exact hv
 |e::l,t,v,u,h,hf,hv=>by
  rw[B6r,Hi]at h;rw[C7]at hf;cases a:Dn e.o t&&Co e with
  |false=>rw[a]at hf;cases hf
  |true=>
   rw[a,if_pos rfl]at hf;simp only[B5l]at a;split at h
   ·rename_i c;have g:=Aqm c;have s:=Bqw g.1 g.2.1 g.2.2.1;have b:=Agl a.1;have al:=Z2 (Uq g.1) b.2.2;rw[g.2.2.2.2.2]at h;refine A5v (l:=l) (t:=C9 e.o t) h hf ?_;unfold Dn;rw[g.2.2.2.2.1,Ah2 a.1,decide_eq_true (by rw[s.2.1,al])];rfl
   ·cases h
theorem Bno{o t} (ho:Az o=true) (b:Cf t=true) (a:Cb o=t.length):Dn (A7 o) t=true:=by unfold Dn;rw[X1 ho,b,decide_eq_true (by rw[Ape (Uq ho),a])];rfl
def Fi (d:DDoc) (base:Int) (o:List DPart):List DPart×Int:=
 if Az o then(if Ci d<base then([],2)else if base<d.from_ then([],3)else
  if Cb o=((Er (d.list.take (base-d.from_).toNat) d.text).length:Int)then(match Hi ((d.list.drop (base-d.from_).toNat).map λe=>e.o) (A7 o)with|some v=>(v,0)|none=>([],5))else([],1))else([],1)
theorem Bo5{d} (h:Eb d) (a:Bg d=true) base o:Akp d base o=some (Fi d base o):=by
 obtain⟨b,c⟩:=Fw a;unfold Akp Fi;rw[Ua d h,B5i,a,B5o,Ag,Np,B5i,B5i];cases ho:Az o with
 |false=>rfl
 |true=>
  unfold Ado Ci;rw[B5o,Ag,if_pos rfl,Xl b (by omega),B5i];by_cases g1:d.from_+(d.list.length:Int)<base
  ·rw[Ad g1,if_pos g1];rfl
  ·rw[Ab g1,if_neg g1];by_cases g2:base<d.from_
   ·rw[Ad g2,if_pos g2];rfl
   ·rw[Ab g2,if_neg g2,B5i,decide_eq_true rfl,B5o,Ag,A23 h a,if_pos ⟨by omega,by omega⟩,B5i,Ag0,B5i,Bn,if_pos (Eg ho)];by_cases g3:Cb o=((Er (d.list.take (base-d.from_).toNat) d.text).length:Int)
    ·rw[Ad g3,if_pos g3,Bo1 h a,if_pos ⟨by omega,by omega⟩,B5i,Bo3 _ _ (by simp;omega),B5i];unfold Uu;rw[ho,if_pos rfl];cases f:Hi ((d.list.drop (base-d.from_).toNat).map λe=>e.o) (A7 o)<;>rfl
    ·rw[Ab g3,if_neg g3]
theorem A6u{d} (c:Bg d=true){base o} (h:(Fi d base o).2=0):L2 (Fi d base o).1=true/\Dn (Fi d base o).1 (Er d.list d.text)=true:=by
 unfold Fi Ci at h⊢;cases ho:Az o with
 |false=>rw[ho]at h;simp at h
 |true=>
  rw[ho,if_pos rfl]at h;rw[if_pos rfl];by_cases g1:d.from_+(d.list.length:Int)<base
  ·rw[if_pos g1]at h;simp at h
  ·rw[if_neg g1]at h⊢;by_cases g2:base<d.from_
   ·rw[if_pos g2]at h;simp at h
   ·rw[if_neg g2]at h⊢;by_cases g3:Cb o=((Er (d.list.take (base-d.from_).toNat) d.text).length:Int)
    ·rw[if_pos g3]at h⊢;cases a:Hi ((d.list.drop (base-d.from_).toNat).map λe=>e.o) (A7 o)with
     |none=>rw[a]at h;simp at h
     |some v=>have b:=Agr (X0 c) (base-d.from_).toNat;have f:=Ags b.2;have:=A5v a (by rw[b.2];rfl) (Bno ho (Boh c _) g3);rw[<-f]at this;exact⟨Arz a (A3k ho),this⟩
    ·rw[if_neg g3]at h;simp at h
theorem Bxc{d} (h:Eb d) (a:Bg d=true) base o:Zm d base o=some (Fi d base o):=by
 obtain⟨c,g⟩:=Fw a;unfold Zm Fi;rw[Ob d h,B5i,a,B5o,Ag,Mf,B5i,B5i];cases ho:Az o with
 |false=>rfl
 |true=>
  unfold Ci;rw[B5o,Ag,if_pos rfl,P0 c (by omega),B5i];by_cases g1:d.from_+(d.list.length:Int)<base
  ·rw[Ad g1,if_pos g1]
  ·rw[Ab g1,if_neg g1];by_cases g2:base<d.from_
   ·rw[Ad g2,if_pos g2]
   ·rw[Ab g2,if_neg g2,As5 h a,if_pos ⟨by omega,by omega⟩,B5i,Acf,B5i,Bn,if_pos (Eg ho)];by_cases g3:Cb o=((Er (d.list.take (base-d.from_).toNat) d.text).length:Int)
    ·rw[Ad g3,if_pos g3,A7g h a,if_pos ⟨by omega,by omega⟩,B5i,A7h _ _ (by simp;omega),B5i];unfold Uu;rw[ho,if_pos rfl];cases f:Hi ((d.list.drop (base-d.from_).toNat).map λe=>e.o) (A7 o)with
     |none=>rfl
     |some v=>
      have b:Fi d base o=(v,0):=by unfold Fi Ci;rw[ho,if_pos rfl,if_neg g1,if_neg g2,if_pos g3,f]
      have:=(A6u a (base:=base) (o:=o) (by rw[b])).2;rw[b]at this;simp only;rw[B5o,Ag,Aiy h a,B5i,Yk,B5i,this];rfl
    ·rw[Ab g3,if_neg g3]
def I6 (x:DSeen):List DSeen->List DSeen
 |[]=>[x]
 |y::r=>if y.client<x.client then y::I6 x r else if y.client=x.client then x::r else x::y::r
def E3 (c:Int) (l:List DSeen):Nat:=(l.takeWhile λs=>decide (s.client<c)).length
theorem A4o c y l:E3 c (y::l)=if y.client<c then E3 c l+1 else 0:=by unfold E3;rw[B99];by_cases h:y.client<c<;>simp[h]
theorem Bry c l:E3 c l<=l.length:=(B9y _).length_le
theorem A4p:∀x l,(if E3 x.client l<l.length/\(el l (E3 x.client l)).client=x.client then l.set (E3 x.client l) x else l.take (E3 x.client l)++[x]++l.drop (E3 x.client l))=I6 x l
 |x,[]=>by simp[I6,E3]
 |x,y::r=>by
  have a:=A4p x r;rw[A4o,I6];by_cases h:y.client<x.client
  ·rw[if_pos h,if_pos h,<-a];have e:el (y::r) (E3 x.client r+1)=el r (E3 x.client r):=rfl;rw[e];by_cases g:E3 x.client r<r.length/\(el r (E3 x.client r)).client=x.client
   ·rw[if_pos g,if_pos ⟨by simp only[B5q];omega,g.2⟩];rfl
   ·rw[if_neg g,if_neg (λk=>g ⟨by have:=k.1;simp only[B5q]at this;omega,k.2⟩)];rfl
  ·rw[if_neg h,if_neg h];have e:el (y::r) 0=y:=rfl;rw[e];by_cases g:y.client=x.client
   ·rw[if_pos ⟨by simp,g⟩,if_pos g];rfl
   ·rw[if_neg (λk=>g k.2),if_neg g];rfl
theorem Bpv d c (j:d.seen.length<=8):Bc (Akv d c) 0=some ((E3 c d.seen:Nat):Int):=by
 have a:=Rj (f:=Akv d c) (λs=>0<=s/\s<=d.seen.length) (λs=>((d.seen.length:Int)-s).toNat) (λs=>s+(E3 c (d.seen.drop s.toNat):Nat)) (λs b=>by
  unfold Akv Baa;by_cases h:s<(d.seen.length:Int)
  ·have e:=W3 (l:=d.seen) (i:=s.toNat) (by omega);rw[Ad h,Aa ⟨b.1,h⟩,B5i,e,A4o];by_cases g:(el d.seen s.toNat).client<c
   ·rw[Ad g,if_pos g,Ao (by omega) (by omega)];exact .inl ⟨_,rfl,by omega,by omega,by rw[show(s+1).toNat=s.toNat+1 by omega];omega⟩
   ·rw[Ab g,if_neg g];exact .inr (by simp)
  ·rw[Ab h,B5i,Ag,show s.toNat=d.seen.length by omega,B72];exact .inr (by simp[E3])) 0 (by omega)
 rw[a];simp
theorem Bqc{x l} (h:∀z∈l,x.client<z.client):I6 x l=x::l:=by
 cases l with
 |nil=>rfl
 |cons z r=>have:=h z (by simp);rw[I6,if_neg (by omega),if_neg (by omega)]
theorem Bxe{c seq rv} d (v:List.Pairwise (λa b=>a.client<b.client) d.seen) (A:d.seen.length<=8):
  ∃y,Ai (Wh c seq rv d) (λs=>((s.1,s.2):List DSeen×Bool)) d.seen.length 0 ([],false)=some y/\(if y.2 then y.1 else y.1++[⟨c,seq,rv⟩])=I6 ⟨c,seq,rv⟩ d.seen/\y.1.length<=18:=by
 obtain⟨y,p,t,u⟩:=Aau (F:=Wh c seq rv d) (e:=λ(s:List DSeen×Bool)=>((s.1,s.2):List DSeen×Bool)) d.seen
  (λr k s=>List.Pairwise (λa b=>a.client<b.client) r/\(s.2=true->∀z∈r,c<z.client)/\s.1.length<=2*k)
  (λr k s y=>(if y.2 then y.1 else y.1++[⟨c,seq,rv⟩])=s.1++(if s.2 then r else I6 ⟨c,seq,rv⟩ r)/\y.1.length<=18)
  (λs m=>by
   refine⟨?_,by simp only;omega⟩;cases l:s.2<;>simp[I6])
  (λx r k s w hx m=>by
   obtain⟨i,o,B⟩:=m;rw[B8h]at i;unfold Wh Axp;rw[hx];by_cases g:x.client=c
   ·rw[Ad g]
    have n:s.2=false:=by
     cases l:s.2 with
     |false=>rfl
     |true=>have:=o l x (by simp);omega
    refine .inl ⟨_,rfl,⟨i.2,λh=>(by rw[n]at h;cases h),by simp only;omega⟩,λy f=>⟨?_,f.2⟩⟩;rw[f.1];simp only[n,B6q,if_false];rw[Bqc (λz j=>by have:=i.1 z j;simp only;omega),I6,if_neg (by simp only;omega),if_pos g]
   ·rw[Ab g];cases l:s.2 with
    |true=>rw[B5o,Ag,B5i,Ag,Aa (by omega)];refine .inl ⟨_,rfl,⟨i.2,λ_ z j=>o l z (by simp[j]),by simp only[B5m,B5q,B5y];omega⟩,λy f=>⟨?_,f.2⟩⟩;rw[f.1];simp
    |false=>
     rw[B6u,A9,B5i];by_cases q:c<x.client
     ·rw[Ad q,Aa (by omega),Aa (by simp only[B5m,B5q,B5y];omega)];refine .inl ⟨_,rfl,⟨i.2,λ_ z j=>by have:=i.1 z j;omega,by simp only[B5m,B5q,B5y];omega⟩,λy f=>⟨?_,f.2⟩⟩;rw[f.1];simp only[if_true,B6q,if_false];rw[I6,if_neg (by simp only;omega),if_neg (by simp only;omega)];simp
     ·rw[Ab q,Aa (by omega)];refine .inl ⟨_,rfl,⟨i.2,λh=>(by cases h),by simp only[B5m,B5q,B5y];omega⟩,λy f=>⟨?_,f.2⟩⟩;rw[f.1];simp only[B6q,if_false];rw[I6,if_pos (by simp only;omega)];simp) ([],false) ⟨v,λh=>(by cases h),by simp⟩
 exact⟨y,p,by rw[t];simp,u⟩
theorem Apo{d} (h:Eb d) (a:Bg d=true):Qh d=some d:=by have c:=Jx (Gz a).2.1;have b:=Up a;unfold Qh;rw[Pl (by omega),B5i,Ub h.2.2.2.1,B5i,Aa (by omega)];rfl
def addE (d:DDoc) (e:DEntry):DDoc:=
 if 8<(d.list++[e]).length then⟨d.name,d.from_+1,(if Dn (el (d.list++[e]) 0).o d.text then(C9 (el (d.list++[e]) 0).o d.text,true)else([],false)).1,(d.list++[e]).drop 1,I6 ⟨e.client,e.seq,Ci d+1⟩ d.seen⟩
 else⟨d.name,d.from_,d.text,d.list++[e],I6 ⟨e.client,e.seq,Ci d+1⟩ d.seen⟩
def Gf (d:DDoc) (client seq base:Int) (o:List DPart):DDoc×Int×Int:=
 if(1<=client/\client<=8)/\(1<=seq/\seq<=1000000000)/\Az o=true then
  if(Ge d.seen client).1.seq=seq then(d,(Ge d.seen client).1.rev,0)
  else if(Ge d.seen client).1.seq+1=seq then
   if(Fi d base o).2=0 then(if 999999000<=Ci d then(dc0,0,5)else(addE d ⟨client,seq,(Fi d base o).1⟩,Ci d+1,0))else(dc0,0,(Fi d base o).2)
  else(dc0,0,4)
 else(dc0,0,1)
theorem Bpc{d} (h:Eb d) (a:Bg d=true) client seq base o:Aku d client seq base o=some (Gf d client seq base o):=by
 obtain⟨r,t⟩:=Fw a;have p:=Up a;unfold Aku Gf;rw[Ua d h,B5i,a,B5o,Ag,Ez,B5i,B5i];by_cases e:1<=client/\client<=8
 ·rw[decide_eq_true e,B5o,Ag,Ez,B5i,B5i];by_cases f:1<=seq/\seq<=1000000000
  ·rw[decide_eq_true f,B5o,Ag,Np,B5i,B5i];cases ho:Az o with
   |false=>rw[if_neg (λk=>by cases k.2.2)];rfl
   |true=>
    rw[B5o,Ag,if_pos ⟨e,f,rfl⟩,Bpu,B5i];have w:=A7w a client;by_cases i:(Ge d.seen client).1.seq=seq
    ·rw[Ad i,if_pos i,Apo h a];rfl
    ·rw[Ab i,if_neg i,Ao (by omega) (by omega),Bn];by_cases j:(Ge d.seen client).1.seq+1=seq
     ·rw[Ad j,if_pos j,Bo5 h a,B5i,Bn];by_cases l:(Fi d base o).2=0
      ·rw[Ad l,if_pos l,Xl r (by omega),B5i];unfold Ci;by_cases m:(999999000:Int)<=d.from_+d.list.length
       ·rw[Ad m,if_pos m];rfl
       ·rw[Ab m,if_neg m,Apo h a,B5i,Aa (by omega),Xl (d:=⟨d.name,d.from_,d.text,d.list++[(⟨client,seq,(Fi d base o).1⟩:DEntry)],d.seen⟩) r (by simp;omega),B5i];have n:d.from_+(((d.list++[(⟨client,seq,(Fi d base o).1⟩:DEntry)]).length:Nat):Int)=d.from_+d.list.length+1:=by simp;omega
        simp only[n];rw[Bpv d client p,B5i];have u:=Bry client d.seen;have s:=A4p ⟨client,seq,d.from_+d.list.length+1⟩ d.seen;simp only at s;have b:((d.list++[(⟨client,seq,(Fi d base o).1⟩:DEntry)]).length:Int)=d.list.length+1:=by simp
        unfold addE Ci;simp only;rw[<-s];generalize (Fi d base o).1=v at b⊢
        have q:∀S':List DSeen,(bif decide ((8:Int)<((d.list++[(⟨client,seq,v⟩:DEntry)]).length:Int))then(xg (0<=(0:Int)/\(0:Int)<((d.list++[(⟨client,seq,v⟩:DEntry)]).length:Int))<|B5h (Oo ((el (d.list++[(⟨client,seq,v⟩:DEntry)]) 0).o) d.text) λc=>xg (Ae (d.from_+1))<|xg (0<=(1:Int)/\(1:Int)<=((d.list++[(⟨client,seq,v⟩:DEntry)]).length:Int))<|some ((⟨d.name,d.from_+1,c.1,((d.list++[(⟨client,seq,v⟩:DEntry)]).take ((d.list++[(⟨client,seq,v⟩:DEntry)]).length)).drop 1,S'⟩:DDoc),d.from_+(d.list.length:Int)+1,(0:Int)))else(some ((⟨d.name,d.from_,d.text,d.list++[(⟨client,seq,v⟩:DEntry)],S'⟩:DDoc),d.from_+(d.list.length:Int)+1,0)))=
          some (if 8<(d.list++[(⟨client,seq,v⟩:DEntry)]).length then⟨d.name,d.from_+1,(if Dn (el (d.list++[(⟨client,seq,v⟩:DEntry)]) 0).o d.text then(C9 (el (d.list++[(⟨client,seq,v⟩:DEntry)]) 0).o d.text,true)else([],false)).1,(d.list++[(⟨client,seq,v⟩:DEntry)]).drop 1,S'⟩else⟨d.name,d.from_,d.text,d.list++[(⟨client,seq,v⟩:DEntry)],S'⟩,d.from_+(d.list.length:Int)+1,0):=by
         intro S';by_cases g:(8:Int)<((d.list++[(⟨client,seq,v⟩:DEntry)]).length:Int)
         ·rw[Ad g,Aa ⟨by omega,by omega⟩,A2s,B5i,Ao (by omega) (by omega),Aa ⟨by omega,by omega⟩,B6m,if_pos (show 8<(d.list++[(⟨client,seq,v⟩:DEntry)]).length by omega)]
         ·rw[Ab g,if_neg (show¬8<(d.list++[(⟨client,seq,v⟩:DEntry)]).length by omega)]
        by_cases g1:((E3 client d.seen:Nat):Int)<d.seen.length
        ·rw[Ad g1,Aa ⟨by omega,g1⟩,B5i,B58];by_cases g2:(el d.seen (E3 client d.seen)).client=client
         ·rw[Ad g2,Aa ⟨by omega,g1⟩,if_pos (show(E3 client d.seen<d.seen.length/\(el d.seen (E3 client d.seen)).client=client)from⟨by omega,g2⟩),q]
         ·rw[Ab g2,if_neg (show¬(E3 client d.seen<d.seen.length/\(el d.seen (E3 client d.seen)).client=client)fromλk=>g2 k.2)];unfold Vt Mp;simp only;rw[Aa ⟨by omega,by omega⟩,Aa (by omega),B5i,B58,q]
        ·rw[Ab g1,B5i,Ag,if_neg (show¬(E3 client d.seen<d.seen.length/\(el d.seen (E3 client d.seen)).client=client)fromλk=>by have:=k.1;omega)];unfold Vt Mp;simp only;rw[Aa ⟨by omega,by omega⟩,Aa (by omega),B5i,B58,q]
      ·rw[Ab l,if_neg l];rfl
     ·rw[Ab j,if_neg j];rfl
  ·rw[decide_eq_false f,B6u,A9,B5i,A9,if_neg (λk=>f k.2.1)];rfl
 ·rw[decide_eq_false e,B6u,A9,B5i,A9,B5i,A9,if_neg (λk=>e k.1)];rfl
theorem A7s{d} (h:Eb d) (a:Bg d=true) client seq base o:Zo d client seq base o=some (Gf d client seq base o):=by
 obtain⟨s,D⟩:=Fw a;have r:=Up a;unfold Zo Gf;rw[Ob d h,B5i,a,B5o,Ag,E5,B5i,B5i];by_cases i:1<=client/\client<=8
 ·rw[decide_eq_true i,B5o,Ag,E5,B5i,B5i];by_cases j:1<=seq/\seq<=1000000000
  ·rw[decide_eq_true j,B5o,Ag,Mf,B5i,B5i];cases ho:Az o with
   |false=>rw[if_neg (λk=>by cases k.2.2)];rfl
   |true=>
    rw[B5o,Ag,if_pos ⟨i,j,rfl⟩,Bxd,B5i];have z:=A7w a client
    have w:(bif (Ge d.seen client).2 then some (decide ((Ge d.seen client).1.seq=seq))else some false)=some (decide ((Ge d.seen client).1.seq=seq)):=by
     cases x:(Ge d.seen client).2 with
     |true=>rfl
     |false=>have:=z.2.2 x;rw[Ag,decide_eq_false (by omega)]
    rw[w,B5i];by_cases l:(Ge d.seen client).1.seq=seq
    ·rw[Ad l,if_pos l,Acc h a];rfl
    ·rw[Ab l,if_neg l,Ao (by omega) (by omega),Bn];by_cases m:(Ge d.seen client).1.seq+1=seq
     ·rw[Ad m.symm,if_pos m,Bxc h a,B5i,Bn];by_cases n:(Fi d base o).2=0
      ·rw[Ad n,if_pos n,P0 s (by omega),B5i];unfold Ci;by_cases p:(999999000:Int)<=d.from_+d.list.length
       ·rw[Ad p,if_pos p];rfl
       ·rw[Ab p,if_neg p,Acc h a,B5i,Aa (by omega),P0 (d:=⟨d.name,d.from_,d.text,d.list++[(⟨client,seq,(Fi d base o).1⟩:DEntry)],d.seen⟩) s (by simp;omega),B5i];have q:d.from_+(((d.list++[(⟨client,seq,(Fi d base o).1⟩:DEntry)]).length:Nat):Int)=d.from_+d.list.length+1:=by simp;omega
        simp only[q];obtain⟨y,A,B,C⟩:=Bxe (c:=client) (seq:=seq) (rv:=d.from_+d.list.length+1) d ((P6 _ _ _).1 (Gz a).2.2.2.2).2.1 r;rw[A,B5i];have e:((d.list++[(⟨client,seq,(Fi d base o).1⟩:DEntry)]).length:Int)=d.list.length+1:=by simp
        unfold addE Ci;simp only;rw[<-B];generalize (Fi d base o).1=v at e⊢
        have t:∀S':List DSeen,(bif decide ((8:Int)<((d.list++[(⟨client,seq,v⟩:DEntry)]).length:Int))then(xg (0<=(0:Int)/\(0:Int)<((d.list++[(⟨client,seq,v⟩:DEntry)]).length:Int))<|B5h (Kd ((el (d.list++[(⟨client,seq,v⟩:DEntry)]) 0).o) d.text) λf=>xg (0<=(1:Int)/\(1:Int)<=((d.list++[(⟨client,seq,v⟩:DEntry)]).length:Int))<|xg (Ae (d.from_+1))<|some ((⟨d.name,d.from_+1,f.1,((d.list++[(⟨client,seq,v⟩:DEntry)]).take ((d.list++[(⟨client,seq,v⟩:DEntry)]).length)).drop 1,S'⟩:DDoc),d.from_+(d.list.length:Int)+1,(0:Int)))else(some ((⟨d.name,d.from_,d.text,d.list++[(⟨client,seq,v⟩:DEntry)],S'⟩:DDoc),d.from_+(d.list.length:Int)+1,0)))=
          some (if 8<(d.list++[(⟨client,seq,v⟩:DEntry)]).length then⟨d.name,d.from_+1,(if Dn (el (d.list++[(⟨client,seq,v⟩:DEntry)]) 0).o d.text then(C9 (el (d.list++[(⟨client,seq,v⟩:DEntry)]) 0).o d.text,true)else([],false)).1,(d.list++[(⟨client,seq,v⟩:DEntry)]).drop 1,S'⟩else⟨d.name,d.from_,d.text,d.list++[(⟨client,seq,v⟩:DEntry)],S'⟩,d.from_+(d.list.length:Int)+1,0):=by
         intro S';by_cases g:(8:Int)<((d.list++[(⟨client,seq,v⟩:DEntry)]).length:Int)
         ·rw[Ad g,Aa ⟨by omega,by omega⟩,Yk,B5i,Aa ⟨by omega,by omega⟩,Ao (by omega) (by omega),B6m,if_pos (show 8<(d.list++[(⟨client,seq,v⟩:DEntry)]).length by omega)]
         ·rw[Ab g,if_neg (show¬8<(d.list++[(⟨client,seq,v⟩:DEntry)]).length by omega)]
        obtain⟨u,b⟩:=y;cases b with
        |true=>simp only[B5o,Ag,if_true];rw[t]
        |false=>simp only[B6u,A9,B6q,if_false];rw[Aa (by simp only at C;omega),t]
      ·rw[Ab n,if_neg n];rfl
     ·rw[Ab (λk=>m k.symm),if_neg m];rfl
  ·rw[decide_eq_false j,B6u,A9,B5i,A9,if_neg (λk=>j k.2.1)];rfl
 ·rw[decide_eq_false i,B6u,A9,B5i,A9,B5i,A9,if_neg (λk=>i k.1)];rfl
theorem Att{d} (h:Eb d) (f:Bg d=true){client seq base o} (b:(Gf d client seq base o).2.2=0):
  Bg (Gf d client seq base o).1=true/\(Gf d client seq base o).1.name=d.name/\((Gf d client seq base o).1=d\/∃e,(Gf d client seq base o).1=addE d e/\Co e=true/\Ci d<999999000):=by
 obtain⟨m,r,c,j,e2⟩:=Bwu h f client seq base o;rw[A7s h f]at j;have a:=B65.inj j;have g:=e2 (by rw[a]at b;exact b);rw[a]at b⊢;refine⟨g.1,g.2.1,?_⟩;unfold Gf at a;split at a
 ·rename_i k;split at a
  ·left;rw[<-congrArg Prod.fst a]
  ·split at a
   ·split at a
    ·rename_i i;split at a
     ·have:=congrArg (λx=>x.2.2) a;simp only at this b;omega
     ·rename_i l;right;refine⟨_,(congrArg Prod.fst a).symm,?_,by omega⟩;unfold Co;simp only;rw[decide_eq_true k.1,decide_eq_true k.2.1,(A6u f i).1];rfl
    ·rename_i i;have:=congrArg (λx=>x.2.2) a;simp only at this b;omega
   ·have:=congrArg (λx=>x.2.2) a;simp only at this b;omega
 ·have:=congrArg (λx=>x.2.2) a;simp only at this b;omega
theorem Ayj d e:Ci (addE d e)=Ci d+1:=by unfold addE Ci;split<;>simp<;>omega
theorem Am6 d e:(addE d e).list<:+d.list++[e]/\0<(addE d e).list.length/\(8<=(addE d e).list.length\/(addE d e).list=d.list++[e]):=by
 unfold addE;split
 ·rename_i h;exact⟨List.drop_suffix _ _,by simp only[B50];omega,.inl (by simp only[B50];omega)⟩
 ·exact⟨List.suffix_refl _,by simp,.inr rfl⟩
theorem Xm k:Lj k=some (decide (1<=k/\k<=5)):=by unfold Lj;rw[Ez];rfl
theorem Ace k:Qk k=some (decide (1<=k/\k<=5)):=by unfold Qk;rw[E5];rfl
theorem A66 k:Aey k=some (decide (1<=k/\k<=8)):=by unfold Aey;rw[E5];rfl
def Y0 (c:DCall):DCall:=
 if c.kind=1 then⟨c.kind,c.doc,0,0,0,[],c.text⟩
 else if c.kind=2 then⟨c.kind,c.doc,c.client,c.seq,c.n,c.o,[]⟩
 else if c.kind=3 then⟨c.kind,c.doc,0,0,c.n,[],[]⟩
 else if c.kind=4 then⟨c.kind,c.doc,0,0,0,[],[]⟩
 else if c.kind=5 then⟨c.kind,c.doc,0,0,c.n,[],[]⟩
 else if c.kind=6 then⟨c.kind,B52,c.client,0,c.n,[],[]⟩
 else if c.kind=7 then⟨c.kind,B52,c.client,0,0,[],[]⟩
 else⟨c.kind,B52,0,0,0,[],[]⟩
theorem Ay6 (a b:DCall):(a=b)↔((((((a.kind=b.kind/\a.doc=b.doc)/\a.client=b.client)/\a.seq=b.seq)/\a.n=b.n)/\a.o=b.o)/\a.text=b.text):=by cases a;cases b;simp[and_assoc]
theorem Nu {k:Int} (h:1<=k/\k<=8):k=1\/k=2\/k=3\/k=4\/k=5\/k=6\/k=7\/k=8:=by omega
theorem Bp4{c} (h:1<=c.kind/\c.kind<=8):Ala c=some (Y0 c):=by unfold Ala Y0;rw[Xm];rcases Nu h with h|h|h|h|h|h|h|h<;>simp[h]
theorem Bom a b:Aka a b=some (decide (a=b)):=by unfold Aka;simp only[Apr,Agy,B5i,Bo,Dd];refine Gu ?_;simp only[B5l,decide_eq_true_eq];exact(Ay6 a b).symm
def Di (c:DCall):Bool:=(((decide (1<=c.kind/\c.kind<=8)&&decide (c.doc.size<=8))&&Dj c.o)&&Cf c.text)&&decide (c=Y0 c)
theorem Agx c:Vx c=some (Di c):=by
 unfold Vx Di;rw[Ez,B5i];by_cases h:1<=c.kind/\c.kind<=8
 ·rw[Bp4 h];simp only[Ap1,Aa8,Bom,B5i,Bo,Dd];rw[decide_eq_true h,show decide ((c.doc.size:Int)<=8)=decide (c.doc.size<=8)from decide_eq_decide.2 (by omega)]
 ·rw[decide_eq_false h];rfl
theorem Aix c:Wb c=some (Di c):=by
 unfold Wb Di;rw[A66,B5i];by_cases h:1<=c.kind/\c.kind<=8
 ·rw[decide_eq_true h];simp only[As0,Ai3,Ace,B5i,Bo,Ff,Dd,cn_,Bn,B5o,Ag];refine Gu ?_;have a:((c.doc.size:Int)<=8)=(c.doc.size<=8):=propext (by omega);have b:(⟨#[]⟩:ByteArray)=B52:=rfl;rcases Nu h with h|h|h|h|h|h|h|h<;>simp only[b,B5l,decide_eq_true_eq]<;>simp[h,Y0,Ay6,and_assoc,a]<;>(intros;constructor<;>intro h<;>simp_all)
 ·rw[decide_eq_false h];rfl
section
theorem Br5{s} (h:Eo s=true):1<=s.size/\s.size<=8:=by
 unfold Eo at h;cases hx:Jl s with
 |none=>rw[hx]at h;cases h
 |some b=>
  rw[hx]at h;have c:b=true:=h;subst c;unfold Jl at hx;cases hi:Bc (Y6 s) 0 with
  |none=>rw[hi]at hx;cases hx
  |some y=>
   rw[hi,B5i]at hx;cases y with
   |inl a=>simp only[B7u]at hx;rw[Ez,B5i]at hx;have:=of_decide_eq_true (B65.inj hx);omega
   |inr a=>simp at hx
theorem Rv{s} (h:Eo s=true):s.size<=8:=(Br5 h).2
theorem Ay1:∀ {a b:List UInt8},Op.bytesLess a b=false->a≠b->Op.bytesLess b a=true
 |[],[],_,h=>absurd rfl h
 |[],b::y,h,_=>by simp[Op.bytesLess]at h
 |a::x,[],_,_=>by simp[Op.bytesLess]
 |a::x,b::y,h,hn=>by
  rw[Op.bytesLess]at h⊢;simp only[B6k,Bool.and_eq_false_imp,beq_iff_eq,decide_eq_false_iff_not]at h;by_cases c:a=b
  ·subst c;have:=Ay1 (h.2 rfl) (λk=>hn (by rw[k]));simp[this]
  ·have d:=h.1;have e:b<a:=by rw[UInt8.lt_iff_toNat_lt]at d⊢;have:a.toNat≠b.toNat:=λk=>c (B8k.1 k);omega
   simp[e]
theorem Bvx{a b} (h:Bv a b=false) (c:a≠b):Bv b a=true:=by unfold Bv at h⊢;exact Ay1 h (λk=>c (by rw[ByteArray.toList_eq,ByteArray.toList_eq]at k;exact ByteArray.ext (Cbx k)))
section
variable {T:Type}
theorem A3q p x (l:List T):Cu p (x::l)=if p x=true then 0 else if 0<=Cu p l then Cu p l+1 else-1:=by
 unfold Cu;rw[Cbo,Cav];cases p x with
 |true=>simp
 |false=>
  cases a:l.any p with
  |true=>simp
  |false=>simp
theorem A3r [Inhabited T] p:∀(l:List T),l.find? p=if 0<=Cu p l then some (el l (Cu p l).toNat)else none
 |[]=>by simp[Cu]
 |x::l=>by
  rw[A3q,B8j];cases h:p x with
  |true=>simp[el]
  |false=>
   simp only[B6q,if_false];rw[A3r p l];by_cases g:0<=Cu p l
   ·rw[if_pos g,if_pos g,if_pos (by omega),show(Cu p l+1).toNat=(Cu p l).toNat+1 by omega];rfl
   ·rw[if_neg g,if_neg g,if_neg (by omega)]
end
def Jr (l:List DDoc) (n:ByteArray):Option DDoc:=l.find? (λd=>decide (d.name=n))
theorem Aft l n:Jr l n=if 0<=A1 l n then some (el l (A1 l n).toNat)else none:=A3r _ l
theorem Ant{l n d} (h:Jr l n=some d):0<=A1 l n/\el l (A1 l n).toNat=d:=by
 rw[Aft]at h;split at h
 ·rename_i g;exact⟨g,B65.inj h⟩
 ·cases h
theorem W2{l n d} (h:Jr l n=some d):d∈l/\d.name=n:=⟨Caj h,of_decide_eq_true (List.find?_some (p:=λd:DDoc=>decide (d.name=n)) h)⟩
theorem Anu{n m d'} (a:d'.name=n):∀ {l:List DDoc},0<=A1 l n->Jr (l.set (A1 l n).toNat d') m=if m=n then some d' else Jr l m
 |[],h=>by simp[A1,Cu]at h
 |x::l,h=>by
  unfold A1 at h⊢;rw[A3q]at h⊢;unfold Jr;by_cases hx:x.name=n
  ·rw[decide_eq_true hx];simp only[if_true];rw[show(0:Int).toNat=0 from rfl,B7r,B8j,B8j,a,hx];by_cases g:m=n
   ·subst g;simp
   ·rw[decide_eq_false (λk=>g k.symm),if_neg g]
  ·rw[decide_eq_false hx]at h⊢;simp only[B6q,if_false]at h⊢;by_cases g:0<=Cu (λd:DDoc=>decide (d.name=n)) l
   ·have b:=Anu a (l:=l) (m:=m) g;unfold Jr A1 at b;rw[if_pos g,show(Cu (λd:DDoc=>decide (d.name=n)) l+1).toNat=(Cu (λd:DDoc=>decide (d.name=n)) l).toNat+1 by omega,B80,B8j,B8j,b];by_cases q:m=n
    ·subst q;rw[decide_eq_false hx]
    ·simp only[if_neg q]
   ·rw[if_neg g]at h;omega
variable {P:Prop}
def sbG (P:Prop) (a:List DDoc) (b:Int) (s:DSub):Prop:=(1<=s.id/\s.id<=b)/\Dz s.r=true/\∃d,Jr a s.doc=some d/\(s.r.out=false->s.r.next+(s.r.list.length:Int)=Ci d+1/\(P->s.r.list<:+d.list))
structure HInv (P:Prop) (h:DHub):Prop where
 nd:h.docs.length<=5
 ns:h.subs.length<=6
 la:0<=h.last/\h.last<=1000000000
 cd:Cw Ft none h.docs=true
 ci:List.Pairwise (λa b=>a.id<b.id) h.subs
 sg:∀s∈h.subs,sbG P h.docs h.last s
theorem HInv.doc{h} (i:HInv P h){d} (a:d∈h.docs):Bg d=true:=Anv i.cd d a
theorem HInv.sd{h} (i:HInv P h){d} (a:d∈h.docs):Eb d:=Atj (by have:=Rv (Uo (i.doc a));omega) (i.doc a)
theorem Byp{h s} (g:sbG P h.docs h.last s){p} (b:∀q,p=some q->q.id<s.id):Jg h p s=true:=by
 obtain⟨g1,g2,d,g3,g4⟩:=g;obtain⟨a,e2⟩:=Ant g3;unfold Jg;rw[decide_eq_true g1,g2,decide_eq_true a,e2]
 have:Hj (λp=>decide (s.id<=p.id)) p=false:=by
  cases p with
  |none=>rfl
  |some q=>have:=b q rfl;exact decide_eq_false (by omega)
 rw[this];cases ho:s.r.out with
 |true=>rfl
 |false=>rw[decide_eq_true (g4 ho).1];rfl
theorem A8e{h}:∀ {l:List DSub} {p:Option DSub},List.Pairwise (λa b=>a.id<b.id) l->(∀s∈l,sbG P h.docs h.last s)->(∀q,p=some q->∀s∈l,q.id<s.id)->Cw (Jg h) p l=true
 |[],_,_,_,_=>rfl
 |x::l,p,hp,hg,hq=>by rw[B8h]at hp;rw[Cw,Byp (hg x (by simp)) (λq c=>hq q c x (by simp)),A8e hp.2 (λs d=>hg s (by simp[d])) (λq c s d=>by cases c;exact hp.1 s d)];rfl
theorem HInv.ok{h} (i:HInv P h):Ik h=true:=by rw[Aq5 ⟨⟨i.nd,i.ns⟩,i.la⟩,i.cd,A8e i.ci i.sg (λq a=>by cases a)];rfl
theorem Yg{r} (h:Dz r=true):C0 Hm r.list:=by have g:=Ja h;exact⟨by have:=g.1;have:=g.2.2.1;omega,λe a=>Agc (B6b.1 g.2.2.2.2 e a)⟩
theorem HInv.sm{h} (i:HInv P h):Vf h:=by refine⟨trivial,⟨by have:=i.nd;omega,λd b=>i.sd b⟩,⟨by have:=i.ns;omega,λs c=>?_⟩,trivial⟩;obtain⟨_,g2,d,g3,_⟩:=i.sg s c;have a:=W2 g3;exact⟨trivial,by have:=Rv (Uo (i.doc a.1));rw[a.2]at this;unfold Qa;omega,trivial,trivial,trivial,Yg g2⟩
theorem HInv.i{h} (i:HInv P h):Iv h=some true:=by rw[A2y h i.sm,i.ok]
theorem HInv.s{h} (i:HInv P h):Iw h=some true:=by rw[A7b h i.sm,i.ok]
theorem Bgl {T:Type} l:∀s:List T,l.foldl (λs e=>s++[e]) s=s++l:=by
 induction l with
 |nil=>intro s;simp
 |cons x l a=>intro s;rw[B6j,a];simp
theorem Apx{r} (h:Dz r=true):Qi r=some r:=by unfold Qi;rw[Ub (Yg h)];rfl
theorem As8{r} (h:Dz r=true):Ta r=some r:=by unfold Ta;rw[Oc (Yg h)];rfl
theorem HInv.ic{h} (i:HInv P h):Ek h=some h:=by
 have m:=Gv (F:=Y9 h) (e:=λ(b:Bool×List DDoc×Int)=>((b.1,b.2.1,b.2.2):Bool×List DDoc×Int)) h.docs (λr k s=>s.2.1.length<=k) (λs d=>(s.1,s.2.1++[d],s.2.2)) (λx r k s f hx o=>by
  have c:x∈h.docs:=by rw[<-hx];exact Bm f
  have:=i.nd;unfold Y9 Ak2;rw[hx,Apo (i.sd c) (i.doc c),B5i,Aa (by simp only[B5q,B5y];omega)];exact⟨rfl,by simp;omega⟩) (h.shut,[],h.last) (by simp)
 have n:=Gv (F:=Za h) (e:=λ(a:Bool×List DDoc×List DSub×Int)=>((a.1,a.2.1,a.2.2.1,a.2.2.2):Bool×List DDoc×List DSub×Int)) h.subs (λr k s=>s.2.2.1.length<=k) (λs d=>(s.1,s.2.1,s.2.2.1++[d],s.2.2.2)) (λx r k s f hx o=>by
  have c:x∈h.subs:=by rw[<-hx];exact Bm f
  have:=i.ns;unfold Za Ak3;rw[hx,Apx (i.sg x c).2.1,B5i,Aa (by omega)];exact⟨rfl,by simp;omega⟩) (h.shut,h.docs,[],h.last) (by simp)
 have j:∀(l:List DDoc) (s:Bool×List DDoc×Int),l.foldl (λs d=>(s.1,s.2.1++[d],s.2.2)) s=(s.1,s.2.1++l,s.2.2):=λl=>by
  induction l with
  |nil=>intro s;simp
  |cons x l g=>intro s;rw[B6j,g];simp
 have e2:∀(l:List DSub) (s:Bool×List DDoc×List DSub×Int),l.foldl (λs d=>(s.1,s.2.1,s.2.2.1++[d],s.2.2.2)) s=(s.1,s.2.1,s.2.2.1++l,s.2.2.2):=λl=>by
  induction l with
  |nil=>intro s;simp
  |cons x l g=>intro s;rw[B6j,g];simp
 unfold Ek;rw[m,B5i,j];simp only[B62];rw[n,B5i,e2];rfl
theorem HInv.sc{h} (i:HInv P h):El h=some h:=by
 have m:=Gv (F:=Zs h) (e:=λ(b:Bool×List DDoc×Int)=>((b.1,b.2.1,b.2.2):Bool×List DDoc×Int)) h.docs (λr k s=>s.2.1.length<=k) (λs d=>(s.1,s.2.1++[d],s.2.2)) (λx r k s f hx o=>by
  have c:x∈h.docs:=by rw[<-hx];exact Bm f
  have:=i.nd;unfold Zs Amt;rw[hx,Acc (i.sd c) (i.doc c),B5i,Aa (by simp only[B5q,B5y];omega)];exact⟨rfl,by simp;omega⟩) (h.shut,[],h.last) (by simp)
 have n:=Gv (F:=Zt h) (e:=λ(a:Bool×List DDoc×List DSub×Int)=>((a.1,a.2.1,a.2.2.1,a.2.2.2):Bool×List DDoc×List DSub×Int)) h.subs (λr k s=>s.2.2.1.length<=k) (λs d=>(s.1,s.2.1,s.2.2.1++[d],s.2.2.2)) (λx r k s f hx o=>by
  have c:x∈h.subs:=by rw[<-hx];exact Bm f
  have:=i.ns;unfold Zt Amu Aew;rw[hx,As8 (i.sg x c).2.1,B5i,B5i,Aa (by simp only[B5q,B5y];omega)];exact⟨rfl,by simp;omega⟩) (h.shut,h.docs,[],h.last) (by simp)
 have j:∀(l:List DDoc) (s:Bool×List DDoc×Int),l.foldl (λs d=>(s.1,s.2.1++[d],s.2.2)) s=(s.1,s.2.1++l,s.2.2):=λl=>by
  induction l with
  |nil=>intro s;simp
  |cons x l g=>intro s;rw[B6j,g];simp
 have e2:∀(l:List DSub) (s:Bool×List DDoc×List DSub×Int),l.foldl (λs d=>(s.1,s.2.1,s.2.2.1++[d],s.2.2.2)) s=(s.1,s.2.1,s.2.2.1++l,s.2.2.2):=λl=>by
  induction l with
  |nil=>intro s;simp
  |cons x l g=>intro s;rw[B6j,g];simp
 unfold El;rw[m,B5i,j];simp only[B62];rw[n,B5i,e2];rfl
end
section
variable {P:Prop}
def Hw:DHub:=⟨false,[],[],0⟩
def K3 (a b:Int):DRing:=⟨a,b+1,false,[]⟩
theorem Ais{room a} (b:1<=room/\room<=6) (c:0<=a/\a<=999999999):Dz (K3 room a)=true:=by unfold Dz K3;simp only;rw[decide_eq_true b,decide_eq_true (show 1<=a+1/\a+1<=1000000000 by omega),decide_eq_true (show(([]:List DEntry).length:Int)<=room by simp;omega)];rfl
theorem A21{room a} (b:1<=room/\room<=6) (c:0<=a/\a<=999999999):Adf room a=some (K3 room a,true):=by have:=Ais b c;unfold K3 at this⊢;unfold Adf;rw[Ao (by omega) (by omega),Aa7,this];rfl
theorem A7j{room a} (b:1<=room/\room<=6) (c:0<=a/\a<=999999999):Aei room a=some (K3 room a,true):=by have:=Ais b c;unfold K3 at this⊢;unfold Aei;rw[Ab (by omega),Ao (by omega) (by omega),Acg,this];rfl
theorem Bo8{r rev} (h:Dz r=true) (a:0<=rev/\rev<=999999999):Aks r rev=some (K3 r.cap rev,true):=by unfold Aks;rw[Aa7,h,B5i,B5o,Ag,A21 (Ja h).1 a];rfl
theorem Bwq{r rev} (h:Dz r=true) (a:0<=rev/\rev<=999999999):Amn r rev=some (K3 r.cap rev,true):=by unfold Amn;rw[Acg,h,B5i,B5o,Ag,A7j (Ja h).1 a];rfl
def Sa (r:DRing) (e:DEntry):DRing:=if r.out=true then r else if(r.list.length:Int)=r.cap then⟨r.cap,r.next,true,[]⟩else⟨r.cap,r.next,r.out,r.list++[e]⟩
theorem Bo7{r e} (h:Dz r=true) (a:Co e=true):Akr r e=some (Sa r e):=by
 have g:=Ja h;unfold Akr Sa;rw[Apx h,B5i,Aa7,h,B5i,B5o,Ag,Apq,a,B5i,B5i,B5o,Ag,B5i];cases ho:r.out with
 |true=>rfl
 |false=>
  rw[Ag,if_neg (by decide)];by_cases c:(r.list.length:Int)=r.cap
  ·rw[Ad c,if_pos c]
  ·rw[Ab c,if_neg c,Ub ⟨by simp,λx hx=>by rw[B57.1 hx];exact Agc a⟩,B5i,Aa (by simp only[B5q,B5y];omega)]
theorem Bwp{r e} (h:Dz r=true) (a:Co e=true):Amm r e=some (Sa r e):=by
 have g:=Ja h;unfold Amm Sa;rw[As8 h,B5i,Acg,h,B5i,B5o,Ag,Asw,a,B5i,B5i,B5o,Ag,B5i];cases ho:r.out with
 |true=>rfl
 |false=>
  rw[Ag,if_neg (by decide)];by_cases c:(r.list.length:Int)=r.cap
  ·rw[Ad c,if_pos c]
  ·rw[Ab c,if_neg c,A69 (Agc a),B5i,Aa (by simp only[B5q,B5y];omega)]
def J4 (r:DRing) (n:Int):DRing×List DEntry×Int:=if r.out=true then(r,[],9)else(⟨r.cap,r.next+min n (r.list.length:Int),r.out,r.list.drop (min n (r.list.length:Int)).toNat⟩,r.list.take (min n (r.list.length:Int)).toNat,0)
theorem Bo6{r n} (h:Dz r=true) (a:1<=n):Akq r n=some (J4 r n):=by
 have g:=Ja h;unfold Akq J4;rw[Apx h,B5i,Aa7,h,B5i,B5o,Ag,B5i,Ab (by omega)];cases ho:r.out with
 |true=>rfl
 |false=>rw[Ag,if_neg (by decide),Aa ⟨by omega,rfl,by omega⟩,Aa ⟨by omega,by omega⟩,Aa ⟨by omega,by omega⟩,Ao (by omega) (by omega),B6m,B7v]
theorem Bwo{r n} (h:Dz r=true) (b:1<=n):Aml r n=some (J4 r n):=by
 have g:=Ja h;have a:∀k,C0 Hm (r.list.drop k):=λk=>Ack (Yg h) k;have st:∀k,C0 Hm (r.list.take k):=λk=>⟨by have:=(Yg h).1;rw[B5x];omega,λx hx=>(Yg h).2 x (B76 hx)⟩;unfold Aml J4;rw[As8 h,B5i,Acg,h,B5i,B5o,Ag,B5i,Ab (by omega)];cases ho:r.out with
 |true=>rfl
 |false=>
  rw[Ag,if_neg (by decide)];by_cases c:(r.list.length:Int)<n
  ·rw[Ad c,Aa ⟨by omega,by omega⟩,B6m,Oc (a _),B5i,Ao (by omega) (by omega),Aa ⟨by omega,by omega⟩,B7v,Oc (st _),B5i,show min n (r.list.length:Int)=r.list.length by omega]
  ·rw[Ab c,Aa ⟨by omega,by omega⟩,B6m,Oc (a _),B5i,Ao (by omega) (by omega),Aa ⟨by omega,by omega⟩,B7v,Oc (st _),B5i,show min n (r.list.length:Int)=n by omega]
def C4 (l:List DSub) (n:Int):Int:=Cu (λd=>decide (d.id=n)) l
theorem A2z h n:Ada h n=some (C4 h.subs n):=by
 unfold Ada Ad4
 rw[Tw h.subs (λd=>decide (d.id=n)) n (λk=>(B6e (k,n):Sum Int (Int×Int))) (λx k b hx=>by
  unfold Bay Bax Aki;rw[hx,B5i];cases decide (x.id=n)<;>rfl),B5i]
 have a:=Xo (λd:DSub=>decide (d.id=n)) h.subs;unfold C4;split
 ·rfl
 ·rw[show Cu (λd:DSub=>decide (d.id=n)) h.subs= -1 by omega];rfl
theorem A7c h n:Wd h n=some (C4 h.subs n):=by
 unfold Wd
 rw[Tw h.subs (λd=>decide (d.id=n)) () (λk=>(B6e k:Sum Unit Int)) (λx k b hx=>by
  unfold Axb Axa;rw[hx];cases decide (x.id=n)<;>rfl),B5i]
 have a:=Xo (λd:DSub=>decide (d.id=n)) h.subs;unfold C4;split
 ·rfl
 ·rw[show Cu (λd:DSub=>decide (d.id=n)) h.subs= -1 by omega];rfl
theorem Sk{l n} (h:0<=C4 l n):(C4 l n).toNat<l.length/\C4 l n<l.length/\(el l (C4 l n).toNat).id=n/\el l (C4 l n).toNat∈l:=by have g:=Xq h;exact⟨g.1,Xp _ _,of_decide_eq_true g.2,Bm g.1⟩
def Ks (d:DDoc):List DDoc->List DDoc
 |[]=>[d]
 |y::r=>if Bv y.name d.name=true then y::Ks d r else d::y::r
def Pr (n:ByteArray) (l:List DDoc):Nat:=(l.takeWhile λs=>Bv s.name n).length
theorem A4k n y l:Pr n (y::l)=if Bv y.name n=true then Pr n l+1 else 0:=by unfold Pr;rw[B99];cases h:Bv y.name n<;>simp
theorem A4l n l:Pr n l<=l.length:=(B9y _).length_le
theorem Aq0 x:∀l,l.take (Pr x.name l)++[x]++l.drop (Pr x.name l)=Ks x l
 |[]=>rfl
 |y::r=>by
  rw[A4k,Ks];by_cases h:Bv y.name x.name=true
  ·rw[if_pos h,if_pos h,<-Aq0 x r];rfl
  ·rw[if_neg h,if_neg h];rfl
theorem A5e{f} l n (j:l.length<=8)
  (e:∀k:Int,f k=B5h (bif decide (k<(l.length:Int))then(xg (0<=k/\k<(l.length:Int))<|some (Bv ((el l k.toNat).name) n))else(some false)) λa=>bif a then(xg (Ae (k+1))<|some (Lr.go (k+1)))else(some (Lr.out k))):Bc f 0=some ((Pr n l:Nat):Int):=by
 have b:=Rj (f:=f) (λs=>0<=s/\s<=l.length) (λs=>((l.length:Int)-s).toNat) (λs=>s+(Pr n (l.drop s.toNat):Nat)) (λs c=>by
  rw[e];by_cases h:s<(l.length:Int)
  ·have d:=W3 (l:=l) (i:=s.toNat) (by omega);rw[Ad h,Aa ⟨c.1,h⟩,B5i,d,A4k];cases g:Bv (el l s.toNat).name n with
   |true=>rw[A9,if_pos rfl,Ao (by omega) (by omega)];exact .inl ⟨_,rfl,by omega,by omega,by rw[show(s+1).toNat=s.toNat+1 by omega];omega⟩
   |false=>rw[Ag,if_neg (by decide)];exact .inr (by simp)
  ·rw[Ab h,B5i,Ag,show s.toNat=l.length by omega,B72];exact .inr (by simp[Pr])) 0 (by omega)
 rw[b];simp
def Ly (h:DHub) (name:ByteArray) (t:List Int):DHub×Int:=
 if Eo name=true/\Cf t=true then(if h.shut=true then(Hw,12)else if 0<=A1 h.docs name then(Hw,7)else if h.docs.length=5 then(Hw,10)else(⟨h.shut,Ks ⟨name,0,t,[],[]⟩ h.docs,h.subs,h.last⟩,0))else(Hw,1)
theorem A4j{name} (a:Eo name=true){t} (b:Cf t=true):Bg ⟨name,0,t,[],[]⟩=true:=(A68 a (Rv a) b).2
theorem Bop{name} (b:Eo name=true){t} (c:Cf t=true):Akd name t=some (⟨name,0,t,[],[]⟩,true):=by have d:=Jx c;have a:=A4j b c;unfold Akd;rw[Pl (by omega),B5i,Ua _ (Atj (by have:=Rv b;simp only;omega) a),a];rfl
theorem Bot{h} (i:HInv P h) name (l:name.size<=1099511627776) t:Akh h name t=some (Ly h name t):=by
 have j:=i.nd;unfold Akh Ly;rw[i.i,B5i,B5o,Ag,Agz _ (by omega),B5i,B5i];cases d:Eo name with
 |false=>rw[if_neg (λk=>by cases k.1)];rfl
 |true=>
  rw[B5o,Ag,Aa8,B5i,B5i];cases g:Cf t with
  |false=>rw[if_neg (λk=>by cases k.2)];rfl
  |true=>
   rw[B5o,Ag,if_pos ⟨rfl,rfl⟩];cases f:h.shut with
   |true=>rfl
   |false=>
    rw[Ag,if_neg (by decide),Pk,B5i];by_cases c:0<=A1 h.docs name
    ·rw[Ad c,if_pos c];rfl
    ·rw[Ab c,if_neg c];by_cases e:h.docs.length=5
     ·rw[Ad (by omega),if_pos e];rfl
     ·have b:=A4l name h.docs;have a:=Aq0 ⟨name,0,t,[],[]⟩ h.docs;simp only at a;rw[Ab (by omega),if_neg e,Bop d g,B5i,i.ic,B5i,A5e h.docs name (by omega) (λk=>by unfold A93 A92;rfl),B5i];unfold Vt Mp;simp only;rw[Aa ⟨by omega,by omega⟩,Aa (by omega),B5i,B58,a,f]
theorem Bv3{name} (d:name.size<=1099511627776){t} (b:t.length<=1099511627776):Zj name t=some (if Eo name=true/\Cf t=true then(⟨name,0,t,[],[]⟩,true)else(dc0,false)):=by
 by_cases c:Eo name=true/\Cf t=true
 ·rw[if_pos c];exact(A68 c.1 (Rv c.1) c.2).1
 ·unfold Zj;rw[if_neg c,Aa (by omega),Ob ⟨name,0,[]++t,[],[]⟩ ⟨d,trivial,⟨b,λ_ _=>trivial⟩,⟨by simp,λ_ h=>by cases h⟩,⟨by simp,λ_ h=>by cases h⟩⟩,B5i]
  have:Bg ⟨name,0,[]++t,[],[]⟩=false:=by
   cases a:Bg ⟨name,0,[]++t,[],[]⟩with
   |false=>rfl
   |true=>exact absurd ⟨Uo a,(Gz a).2.1⟩ c
  rw[this];rfl
theorem Bv8{h} (i:HInv P h) name (j:name.size<=1099511627776) t (g:t.length<=1099511627776):Amd h name t=some (Ly h name t):=by
 have l:=i.nd;unfold Amd Ly;rw[Bv3 j g,B5i,i.s,B5i,B5o,Ag,B5i];by_cases b:Eo name=true/\Cf t=true
 ·rw[if_pos b,if_pos b];simp only;rw[B5o,Ag];cases f:h.shut with
  |true=>rfl
  |false=>
   rw[Ag,if_neg (by decide),P1,B5i];by_cases c:0<=A1 h.docs name
   ·rw[Ad c,if_pos c];rfl
   ·rw[Ab c,if_neg c];by_cases e:h.docs.length=5
    ·rw[Ad (by omega),if_pos e];rfl
    ·have d:=A4l name h.docs;have a:=Aq0 ⟨name,0,t,[],[]⟩ h.docs;simp only at a;rw[Ab (by omega),if_neg e,i.sc,B5i,A5e h.docs name (by omega) (λk=>by unfold Ba2 Ba1;rfl),B5i];rw[Aa ⟨by omega,by omega⟩,Aa (by omega),Aa (by simp only[B5x,B62];omega),Aa ⟨by omega,by omega⟩,Aa (by simp only[B5x,B50,B5m,B5q,B5y];omega),B58,B6m,B62,a,f]
 ·rw[if_neg b,if_neg b];rfl
end
section
variable {P:Prop}
theorem run_map{F} f (q:DSub->Prop) l (n:∀s∈l,q s)
  (j:∀k (m:List DSub),k<m.length->q (el m k)->F k m=some (Lr.go (m.set k (f (el m k))))):Ai F (λs=>s) l.length 0 l=some (l.map f):=by
 have g:=C6 (F:=F) (e:=λs=>s) l (λr k m=>(∃p,p.length=k/\m=p++r)/\∀s∈r,q s) (λr k m=>m.take k++r.map f) (λs c=>by
  obtain⟨⟨p,a,b⟩,_⟩:=c;rw[B6o]at b;subst b;rw[<-a,B6m];simp) (λx r k m o hx c=>by
  obtain⟨⟨p,a,b⟩,h⟩:=c;have i:el m k=x:=by rw[b,<-a,Lv]
  have d:m.set k (f x)=p++f x::r:=by rw[b,<-a,Bxz]
  refine .inl ⟨p++f x::r,?_,⟨⟨p++[f x],by simp[a],by simp⟩,λs d=>h s (by simp[d])⟩,?_⟩
  ·rw[j k m (by rw[b,<-a];simp) (by rw[i];exact h x (by simp)),i,d]
  ·rw[b,<-a,Cag]
   ·rw[show p++f x::r=(p++[f x])++r by simp,Cag (by simp)];simp
   ·rfl) l ⟨⟨[],rfl,rfl⟩,n⟩
 rw[g];simp
def Vh (name:ByteArray) (e:DEntry) (s:DSub):DSub:=if s.doc=name then⟨s.id,s.doc,Sa s.r e⟩else s
def Kq (h:DHub) (name:ByteArray) (client seq base:Int) (o:List DPart):DHub×Int×Int:=
 if h.shut=true then(Hw,0,12)else if A1 h.docs name<0 then(Hw,0,6)
 else if(Gf (el h.docs (A1 h.docs name).toNat) client seq base o).2.2=0 then
  (⟨h.shut,h.docs.set (A1 h.docs name).toNat (Gf (el h.docs (A1 h.docs name).toNat) client seq base o).1,if Ci (el h.docs (A1 h.docs name).toNat)<Ci (Gf (el h.docs (A1 h.docs name).toNat) client seq base o).1 then h.subs.map (Vh name (el (Gf (el h.docs (A1 h.docs name).toNat) client seq base o).1.list ((Gf (el h.docs (A1 h.docs name).toNat) client seq base o).1.list.length-1)))else h.subs,h.last⟩,(Gf (el h.docs (A1 h.docs name).toNat) client seq base o).2.1,0)
 else(Hw,0,(Gf (el h.docs (A1 h.docs name).toNat) client seq base o).2.2)
theorem K8{h} (i:HInv P h){name} (c:0<=A1 h.docs name):(A1 h.docs name).toNat<h.docs.length/\A1 h.docs name<(h.docs.length:Int)/\Bg (el h.docs (A1 h.docs name).toNat)=true/\Eb (el h.docs (A1 h.docs name).toNat):=by have g:=Xq c;have a:=Bm (l:=h.docs) g.1;exact⟨g.1,Xp _ _,i.doc a,i.sd a⟩
theorem Yu{h} (i:HInv P h):∀s∈h.subs,Dz s.r=true:=λs a=>(i.sg s a).2.1
theorem Box{h} (i:HInv P h) name client seq base o:Akj h name client seq base o=some (Kq h name client seq base o):=by
 unfold Akj Kq;rw[Pk,B5i,i.i,B5i,B5o,Ag];cases n:h.shut with
 |true=>rfl
 |false=>
  rw[Ag,if_neg (by decide)];by_cases c:A1 h.docs name<0
  ·rw[Ad c,if_pos c];rfl
  ·obtain⟨v,k2,j,p⟩:=K8 i (name:=name) (by omega);rw[Ab c,if_neg c,Aa ⟨by omega,k2⟩,Bpc p j,B5i,Bn];have d:=Att p j (client:=client) (seq:=seq) (base:=base) (o:=o);generalize Gf (el h.docs (A1 h.docs name).toNat) client seq base o=r at d⊢;by_cases a:r.2.2=0
   ·obtain⟨l,o2,f⟩:=d a;rw[Ad a,if_pos a,i.ic,B5i,Aa ⟨by omega,k2⟩,Xk l,B5i,Aa ⟨by omega,k2⟩,Xk j,B5i];by_cases b:Ci (el h.docs (A1 h.docs name).toNat)<Ci r.1
    ·rw[Ad b,if_pos b]
     have t:0<r.1.list.length/\Co (el r.1.list (r.1.list.length-1))=true:=by
      rcases f with f|⟨e,f,_⟩
      ·rw[f]at b;omega
      ·have:=(Am6 (el h.docs (A1 h.docs name).toNat) e).2.1;rw[<-f]at this;exact⟨this,B6b.1 (Gz l).2.2.2.1 _ (Bm (by omega))⟩
     have w:=(Fw l).2
     rw[run_map (F:=Au2 name r client seq o) (Vh name (el r.1.list (r.1.list.length-1))) (λs=>Dz s.r=true) h.subs (Yu i) (λk m q u=>by
      unfold Au2 A94 Vh;by_cases g:(el m k).doc=name
      ·rw[Ad g,if_pos g,Ao (by omega) (by omega),Aa ⟨by omega,by omega⟩,show((r.1.list.length:Int)-1).toNat=r.1.list.length-1 by omega,Bo7 u t.2];rfl
      ·rw[Ab g,if_neg g,Gb q,B8y]),B5i,n]
    ·rw[Ab b,if_neg b,n]
   ·rw[Ab a,if_neg a];rfl
theorem Bwc{h} (i:HInv P h) name client seq base o:Ame h name client seq base o=some (Kq h name client seq base o):=by
 unfold Ame Kq;rw[P1,B5i,i.s,B5i,B5o,Ag];cases n:h.shut with
 |true=>rfl
 |false=>
  rw[Ag,if_neg (by decide)];by_cases c:A1 h.docs name<0
  ·rw[Ad c,if_pos c];rfl
  ·obtain⟨v,k2,j,p⟩:=K8 i (name:=name) (by omega);rw[Ab c,if_neg c,Aa ⟨by omega,k2⟩,A7s p j,B5i,Bn];have d:=Att p j (client:=client) (seq:=seq) (base:=base) (o:=o);generalize Gf (el h.docs (A1 h.docs name).toNat) client seq base o=r at d⊢;by_cases b:r.2.2=0
   ·obtain⟨l,o2,a⟩:=d b;rw[Ad b,if_pos b,i.sc,B5i,Aa ⟨by omega,k2⟩,Yl l,B5i,Aa ⟨by omega,k2⟩,Yl j,B5i];by_cases f:Ci (el h.docs (A1 h.docs name).toNat)<Ci r.1
    ·rw[Ab (by omega),if_pos f]
     have t:0<r.1.list.length/\Co (el r.1.list (r.1.list.length-1))=true:=by
      rcases a with a|⟨e,a,_⟩
      ·rw[a]at f;omega
      ·have:=(Am6 (el h.docs (A1 h.docs name).toNat) e).2.1;rw[<-a]at this;exact⟨this,B6b.1 (Gz l).2.2.2.1 _ (Bm (by omega))⟩
     have w:=(Fw l).2
     rw[Ao (by omega) (by omega),Aa ⟨by omega,by omega⟩,run_map (F:=Axc name r client seq o) (Vh name (el r.1.list (r.1.list.length-1))) (λs=>Dz s.r=true) h.subs (Yu i) (λk m q u=>by
      unfold Axc Ba3 Vh;by_cases g:(el m k).doc=name
      ·rw[Ad g,if_pos g,show((r.1.list.length:Int)-1).toNat=r.1.list.length-1 by omega,Bwp u t.2];rfl
      ·rw[Ab g,if_neg g,Gb q,B8y]),B5i,n]
    ·have:Ci r.1=Ci (el h.docs (A1 h.docs name).toNat):=by
      rcases a with a|⟨e,a,_⟩
      ·rw[a]
      ·rw[a,Ayj]at f;omega
     rw[Ad this,if_neg f,n]
   ·rw[Ab b,if_neg b];rfl
theorem T8{d} (h:Bg d=true):0<=Ci d/\Ci d<=999999008:=by have:=Fw h;unfold Ci;omega
def Kr (h:DHub) (name:ByteArray) (a:Int):DHub×Int×Int:=
 if 1<=a/\a<=6 then(if h.shut=true then(Hw,0,12)else if A1 h.docs name<0 then(Hw,0,6)else if h.subs.length=6\/h.last=1000000000 then(Hw,0,10)
  else(⟨h.shut,h.docs,h.subs++[⟨h.last+1,name,K3 a (Ci (el h.docs (A1 h.docs name).toNat))⟩],h.last+1⟩,h.last+1,0))else(Hw,0,1)
theorem Boy{h} (i:HInv P h) name room:Adb h name room=some (Kr h name room):=by
 have k:=i.ns;have f:=i.la;unfold Adb Kr;rw[Pk,B5i,i.i,B5i,B5o,Ag,Ez,B5i,B5i];by_cases a:1<=room/\room<=6
 ·rw[decide_eq_true a,B5o,Ag,if_pos a];cases g:h.shut with
  |true=>rfl
  |false=>
   rw[Ag,if_neg (by decide)];by_cases c:A1 h.docs name<0
   ·rw[Ad c,if_pos c];rfl
   ·obtain⟨l,k2,d,m⟩:=K8 i (name:=name) (by omega);have j:=T8 d;rw[Ab c,if_neg c];by_cases e:h.subs.length=6
    ·rw[Ad (by omega),B5i,A9,if_pos (.inl e)];rfl
    ·rw[Ab (by omega),B5i];by_cases b:h.last=1000000000
     ·rw[Ad b,if_pos (.inr b)];rfl
     ·rw[Ab b,if_neg (by omega),i.ic,B5i,Ao (by omega) (by omega),Aa ⟨by omega,k2⟩,Xk d,B5i,A21 a ⟨by omega,by omega⟩,B5i,Aa (by omega),g]
 ·rw[decide_eq_false a,B6u,A9,if_neg a];rfl
theorem Bwd{h} (i:HInv P h) name room:Aee h name room=some (Kr h name room):=by
 have k:=i.ns;have f:=i.la;unfold Aee Kr;rw[P1,B5i,i.s,B5i,B5o,Ag,E5,B5i,B5i];by_cases a:1<=room/\room<=6
 ·rw[decide_eq_true a,B5o,Ag,if_pos a];cases g:h.shut with
  |true=>rfl
  |false=>
   rw[Ag,if_neg (by decide)];by_cases c:A1 h.docs name<0
   ·rw[Ad c,if_pos c];rfl
   ·obtain⟨l,k2,d,m⟩:=K8 i (name:=name) (by omega);have j:=T8 d;rw[Ab c,if_neg c];by_cases e:h.subs.length=6
    ·rw[Ad (by omega),B5i,A9,if_pos (.inl e)];rfl
    ·rw[Ab (by omega),B5i];by_cases b:h.last=1000000000
     ·rw[Ad b,if_pos (.inr b)];rfl
     ·rw[Ab b,if_neg (by omega),Aa ⟨by omega,k2⟩,Yl d,B5i,A7j a ⟨by omega,by omega⟩,B5i,i.sc,B5i,Ao (by omega) (by omega),Aa (by omega),g]
 ·rw[decide_eq_false a,B6u,A9,if_neg a];rfl
def Ju (h:DHub) (n m:Int):DHub×List DEntry×Int:=
 if m<1 then(Hw,[],1)else if C4 h.subs n<0 then(Hw,[],8)
 else if(J4 (el h.subs (C4 h.subs n).toNat).r m).2.2=0 then(⟨h.shut,h.docs,h.subs.set (C4 h.subs n).toNat ⟨(el h.subs (C4 h.subs n).toNat).id,(el h.subs (C4 h.subs n).toNat).doc,(J4 (el h.subs (C4 h.subs n).toNat).r m).1⟩,h.last⟩,(J4 (el h.subs (C4 h.subs n).toNat).r m).2.1,0)
 else(Hw,[],(J4 (el h.subs (C4 h.subs n).toNat).r m).2.2)
theorem Bou{h} (i:HInv P h) n m:Ac7 h n m=some (Ju h n m):=by
 unfold Ac7 Ju;rw[A2z,B5i,i.i,B5i,B5o,Ag,B5i];by_cases a:m<1
 ·rw[Ad a,if_pos a];rfl
 ·rw[Ab a,if_neg a];by_cases c:C4 h.subs n<0
  ·rw[Ad c,if_pos c];rfl
  ·obtain⟨e,k2,f,d⟩:=Sk (l:=h.subs) (n:=n) (by omega);rw[Ab c,if_neg c,Aa ⟨by omega,k2⟩,Bo6 (Yu i _ d) (by omega),B5i,Bn];generalize J4 (el h.subs (C4 h.subs n).toNat).r m=r;by_cases b:r.2.2=0
   ·rw[Ad b,if_pos b,i.ic,B5i,Aa ⟨by omega,k2⟩]
   ·rw[Ab b,if_neg b];rfl
theorem Bv9{h} (i:HInv P h) n m:Aeb h n m=some (Ju h n m):=by
 unfold Aeb Ju;rw[A7c,B5i,i.s,B5i,B5o,Ag,B5i];by_cases a:m<1
 ·rw[Ad a,if_pos a];rfl
 ·rw[Ab a,if_neg a];by_cases c:C4 h.subs n<0
  ·rw[Ad c,if_pos c];rfl
  ·obtain⟨e,k2,f,d⟩:=Sk (l:=h.subs) (n:=n) (by omega);rw[Ab c,if_neg c,Aa ⟨by omega,k2⟩,Bwo (Yu i _ d) (by omega),B5i,Bn];generalize J4 (el h.subs (C4 h.subs n).toNat).r m=r;by_cases b:r.2.2=0
   ·rw[Ad b,if_pos b,i.sc,B5i,Aa ⟨by omega,k2⟩]
   ·rw[Ab b,if_neg b];rfl
def I5 (h:DHub) (n:Int):DHub×List Int×Int×Int:=
 if C4 h.subs n<0 then(Hw,[],0,8)
 else(⟨h.shut,h.docs,h.subs.set (C4 h.subs n).toNat ⟨(el h.subs (C4 h.subs n).toNat).id,(el h.subs (C4 h.subs n).toNat).doc,K3 (el h.subs (C4 h.subs n).toNat).r.cap (Ci (el h.docs (A1 h.docs (el h.subs (C4 h.subs n).toNat).doc).toNat))⟩,h.last⟩,Er (el h.docs (A1 h.docs (el h.subs (C4 h.subs n).toNat).doc).toNat).list (el h.docs (A1 h.docs (el h.subs (C4 h.subs n).toNat).doc).toNat).text,Ci (el h.docs (A1 h.docs (el h.subs (C4 h.subs n).toNat).doc).toNat),0)
theorem HInv.dix{h} (i:HInv P h){s} (a:s∈h.subs):0<=A1 h.docs s.doc:=by obtain⟨_,_,d,g,_⟩:=i.sg s a;exact(Ant g).1
theorem Bov{h} (i:HInv P h) n:Ac8 h n=some (I5 h n):=by
 unfold Ac8 I5;rw[A2z,B5i,i.i,B5i,B5o,Ag];by_cases c:C4 h.subs n<0
 ·rw[Ad c,if_pos c];rfl
 ·obtain⟨j,k2,k,b⟩:=Sk (l:=h.subs) (n:=n) (by omega);obtain⟨f,d,a,e⟩:=K8 i (i.dix b);have g:=T8 a;rw[Ab c,if_neg c,Aa ⟨by omega,k2⟩,Pk,B5i,Aa ⟨i.dix b,d⟩,i.ic,B5i,Aa ⟨by omega,k2⟩,Xk a,B5i,Bo8 (Yu i _ b) ⟨by omega,by omega⟩,B5i,Aa ⟨by omega,k2⟩,A2x e a,B5i,B5i]
theorem Bwa{h} (i:HInv P h) n:Aec h n=some (I5 h n):=by
 unfold Aec I5;rw[A7c,B5i,i.s,B5i,B5o,Ag];by_cases c:C4 h.subs n<0
 ·rw[Ad c,if_pos c];rfl
 ·obtain⟨j,k2,k,b⟩:=Sk (l:=h.subs) (n:=n) (by omega);obtain⟨f,d,a,e⟩:=K8 i (i.dix b);have g:=T8 a;rw[Ab c,if_neg c,Aa ⟨by omega,k2⟩,P1,B5i,Aa ⟨i.dix b,d⟩,i.sc,B5i,Aa ⟨by omega,k2⟩,Yl a,B5i,Bwq (Yu i _ b) ⟨by omega,by omega⟩,B5i,Aa ⟨by omega,k2⟩,Aiy e a,B5i,B5i]
def Lz (h:DHub):DHub×Int:=if h.shut=true then(Hw,12)else(⟨true,h.docs,h.subs,h.last⟩,0)
theorem Bow{h} (i:HInv P h):Ac9 h=some (Lz h):=by
 unfold Ac9 Lz;rw[i.i,B5i,B5o,Ag];cases a:h.shut with
 |true=>rfl
 |false=>rw[Ag,if_neg (by decide),i.ic];rfl
theorem Bwb{h} (i:HInv P h):Aed h=some (Lz h):=by
 unfold Aed Lz;rw[i.s,B5i,B5o,Ag];cases a:h.shut with
 |true=>rfl
 |false=>rw[Ag,if_neg (by decide),i.sc];rfl
def Rf (h:DHub) (c:DCall):DAnswer:=
 if h.shut=true then⟨12,0,[],[]⟩else if A1 h.docs c.doc<0 then⟨6,0,[],[]⟩
 else if c.kind=4 then⟨0,Ci (el h.docs (A1 h.docs c.doc).toNat),Er (el h.docs (A1 h.docs c.doc).toNat).list (el h.docs (A1 h.docs c.doc).toNat).text,[]⟩
 else⟨(Rb (el h.docs (A1 h.docs c.doc).toNat) c.n).2,0,[],(Rb (el h.docs (A1 h.docs c.doc).toNat) c.n).1⟩
theorem A28{h} (i:HInv P h) c:Adr h c=some (Rf h c):=by
 unfold Adr Rf;rw[Pk,B5i];cases j:h.shut with
 |true=>rfl
 |false=>
  rw[Ag,if_neg (by decide)];by_cases a:A1 h.docs c.doc<0
  ·rw[Ad a,if_pos a]
  ·obtain⟨g,d,e,f⟩:=K8 i (name:=c.doc) (by omega);rw[Ab a,if_neg a];by_cases b:c.kind=4
   ·rw[Ad b,if_pos b,Aa ⟨by omega,d⟩,Aa ⟨by omega,d⟩,A2x f e,B5i,Xk e,B5i]
   ·rw[Ab b,if_neg b,Aa ⟨by omega,d⟩,Bos _ _ f,B5i]
theorem A7r{h} (i:HInv P h) c:Aez h c=some (Rf h c):=by
 unfold Aez Rf;rw[P1,B5i];cases j:h.shut with
 |true=>rfl
 |false=>
  rw[Ag,if_neg (by decide)];by_cases a:A1 h.docs c.doc<0
  ·rw[Ad a,if_pos a]
  ·obtain⟨g,d,e,f⟩:=K8 i (name:=c.doc) (by omega);rw[Ab a,if_neg a];by_cases b:c.kind=4
   ·rw[Ad b,if_pos b,Aa ⟨by omega,d⟩,Aa ⟨by omega,d⟩,Aiy f e,B5i,Yl e,B5i]
   ·rw[Ab b,if_neg b,Aa ⟨by omega,d⟩,Bv5 _ _ f,B5i]
def Kl (h:DHub) (r:DHub) (a d:Int) (c:List Int) (b:List DEntry):DHub×DAnswer:=if a=0 then(r,⟨0,d,c,b⟩)else(h,⟨a,0,[],[]⟩)
def M4 (h:DHub) (c:DCall):DHub×DAnswer:=
 if Di c=true then
  (if c.kind=1 then Kl h (Ly h c.doc c.text).1 (Ly h c.doc c.text).2 0 [] []
  else if c.kind=2 then Kl h (Kq h c.doc c.client c.seq c.n c.o).1 (Kq h c.doc c.client c.seq c.n c.o).2.2 (Kq h c.doc c.client c.seq c.n c.o).2.1 [] []
  else if c.kind=3 then(h,Rf h c)else if c.kind=4 then(h,Rf h c)
  else if c.kind=5 then Kl h (Kr h c.doc c.n).1 (Kr h c.doc c.n).2.2 (Kr h c.doc c.n).2.1 [] []
  else if c.kind=6 then Kl h (Ju h c.client c.n).1 (Ju h c.client c.n).2.2 0 [] (Ju h c.client c.n).2.1
  else if c.kind=7 then Kl h (I5 h c.client).1 (I5 h c.client).2.2.2 (I5 h c.client).2.2.1 (I5 h c.client).2.1 []
  else Kl h (Lz h).1 (Lz h).2 0 [] [])
 else(h,⟨1,0,[],[]⟩)
theorem Ah1{c} (h:Di c=true):c.doc.size<=8/\c.text.length<=200:=by unfold Di at h;simp only[B5l,decide_eq_true_eq]at h;exact⟨h.1.1.1.2,Jx h.1.2⟩
theorem Boo{h} (i:HInv P h) c:Akc h c=some (M4 h c):=by
 unfold Akc M4;rw[i.i,B5i,B5o,Ag,Agx,B5i,B5i];cases l:Di c with
 |false=>rw[B6u,A9,i.ic];rfl
 |true=>
  have m:=Ah1 l;rw[B5o,Ag,if_pos rfl];unfold Kl;by_cases b:c.kind=1
  ·rw[Ad b,if_pos b,Bot i _ (by omega),B5i,Bn];by_cases k:(Ly h c.doc c.text).2=0
   ·rw[Ad k,if_pos k,k]
   ·rw[Ab k,if_neg k,i.ic];rfl
  rw[Ab b,if_neg b];by_cases d:c.kind=2
  ·rw[Ad d,if_pos d,Box i,B5i,Bn];by_cases k:(Kq h c.doc c.client c.seq c.n c.o).2.2=0
   ·rw[Ad k,if_pos k,k]
   ·rw[Ab k,if_neg k,i.ic];rfl
  rw[Ab d,if_neg d];by_cases a:c.kind=3
  ·rw[Ad a,if_pos a,Ad a,i.ic,B5i,A28 i];rfl
  rw[Ab a,if_neg a];by_cases e:c.kind=4
  ·rw[Ad e,if_pos e,i.ic,B5i,A28 i];rfl
  rw[Ab e,if_neg e];by_cases f:c.kind=5
  ·rw[Ad f,if_pos f,Boy i,B5i,Bn];by_cases k:(Kr h c.doc c.n).2.2=0
   ·rw[Ad k,if_pos k,k]
   ·rw[Ab k,if_neg k,i.ic];rfl
  rw[Ab f,if_neg f];by_cases g:c.kind=6
  ·rw[Ad g,if_pos g,Bou i,B5i,Bn];by_cases k:(Ju h c.client c.n).2.2=0
   ·rw[Ad k,if_pos k,k]
   ·rw[Ab k,if_neg k,i.ic];rfl
  rw[Ab g,if_neg g];by_cases j:c.kind=7
  ·rw[Ad j,if_pos j,Bov i,B5i,Bn];by_cases k:(I5 h c.client).2.2.2=0
   ·rw[Ad k,if_pos k,k]
   ·rw[Ab k,if_neg k,i.ic];rfl
  rw[Ab j,if_neg j,Bow i,B5i,Bn];by_cases k:(Lz h).2=0
  ·rw[Ad k,if_pos k,k]
  ·rw[Ab k,if_neg k,i.ic];rfl
theorem Bv2{h} (i:HInv P h) c:Ama h c=some (M4 h c):=by
 unfold Ama M4;rw[i.s,B5i,B5o,Ag,Aix,B5i,B5i];cases l:Di c with
 |false=>rw[B6u,A9,i.sc];rfl
 |true=>
  have m:=Ah1 l;rw[B5o,Ag,if_pos rfl];unfold Kl;by_cases b:c.kind=1
  ·rw[Ad b,if_pos b,Bv8 i _ (by omega) _ (by omega),B5i,Bn];by_cases k:(Ly h c.doc c.text).2=0
   ·rw[Ad k,if_pos k]
   ·rw[Ab k,if_neg k,i.sc];rfl
  rw[Ab b,if_neg b];by_cases d:c.kind=2
  ·rw[Ad d,if_pos d,Bwc i,B5i,Bn];by_cases k:(Kq h c.doc c.client c.seq c.n c.o).2.2=0
   ·rw[Ad k,if_pos k]
   ·rw[Ab k,if_neg k,i.sc];rfl
  rw[Ab d,if_neg d];by_cases a:c.kind=3
  ·rw[Ad a,if_pos a,Ad a,i.sc,B5i,A7r i];rfl
  rw[Ab a,if_neg a];by_cases e:c.kind=4
  ·rw[Ad e,if_pos e,i.sc,B5i,A7r i];rfl
  rw[Ab e,if_neg e];by_cases f:c.kind=5
  ·rw[Ad f,if_pos f,Bwd i,B5i,Bn];by_cases k:(Kr h c.doc c.n).2.2=0
   ·rw[Ad k,if_pos k]
   ·rw[Ab k,if_neg k,i.sc];rfl
  rw[Ab f,if_neg f];by_cases g:c.kind=6
  ·rw[Ad g,if_pos g,Bv9 i,B5i,Bn];by_cases k:(Ju h c.client c.n).2.2=0
   ·rw[Ad k,if_pos k]
   ·rw[Ab k,if_neg k,i.sc];rfl
  rw[Ab g,if_neg g];by_cases j:c.kind=7
  ·rw[Ad j,if_pos j,Bwa i,B5i,Bn];by_cases k:(I5 h c.client).2.2.2=0
   ·rw[Ad k,if_pos k]
   ·rw[Ab k,if_neg k,i.sc];rfl
  rw[Ab j,if_neg j,Bwb i,B5i,Bn];by_cases k:(Lz h).2=0
  ·rw[Ad k,if_pos k]
  ·rw[Ab k,if_neg k,i.sc];rfl
end
section
variable {P:Prop}
theorem Azt{d m} (a:m≠d.name):∀l,Jr (Ks d l) m=Jr l m
 |[]=>by unfold Ks Jr;rw[B8j,decide_eq_false (λk=>a k.symm)]
 |y::r=>by
  have b:=Azt a r;unfold Jr at b⊢;rw[Ks];split
  ·rw[B8j,B8j,b]
  ·rw[B8j,decide_eq_false (λk=>a k.symm)]
theorem A3g d:∀l,(Ks d l).length=l.length+1
 |[]=>rfl
 |y::r=>by
  rw[Ks];split
  ·rw[B5q,B5q,A3g d r]
  ·rfl
theorem Aza{d} (b:Bg d=true):∀ {l:List DDoc} {p:Option DDoc},Cw Ft p l=true->(∀q,p=some q->Bv q.name d.name=true)->(∀x∈l,x.name≠d.name)->Cw Ft p (Ks d l)=true
 |[],p,_,hp,_=>by
  unfold Ks Cw Cw Ft;rw[b];cases p with
  |none=>rfl
  |some q=>simp only[Hj];rw[hp q rfl];rfl
 |y::r,p,h,hp,hn=>by
  rw[Cw,B5l]at h;rw[Ks];split
  ·rename_i c;rw[Cw,h.1,Aza b h.2 (λq e=>by cases e;exact c) (λx hx=>hn x (by simp[hx]))];rfl
  ·rename_i c;have f:=Bvx (B88.2 c) (hn y (by simp));rw[Cw,Cw,h.2];have a:=h.1;unfold Ft at a⊢;simp only[B5l]at a;rw[b,a.1];simp only[Hj];rw[f];cases p with
   |none=>rfl
   |some q=>simp only;rw[hp q rfl];rfl
theorem Bsu{h} (i:HInv P h){n t} (a:(Ly h n t).2=0):HInv P (Ly h n t).1:=by
 unfold Ly at a⊢;split at a
 ·rename_i c;rw[if_pos c];split at a
  ·simp at a
  ·rename_i g;rw[if_neg g];split at a
   ·simp at a
   ·rename_i e;rw[if_neg e];split at a
    ·simp at a
    ·rename_i j;rw[if_neg j];have b:∀x∈h.docs,x.name≠n:=λx hx=>by have:=(Aqf (p:=λd:DDoc=>decide (d.name=n)) (l:=h.docs)).1 (by unfold A1 at e;omega) x hx;exact of_decide_eq_false this
     refine⟨by simp only[A3g];have:=i.nd;omega,i.ns,i.la,Aza (A4j c.1 c.2) i.cd (λq k=>by cases k) b,i.ci,λs m=>?_⟩;obtain⟨g1,g2,d,g3,g4⟩:=i.sg s m;refine⟨g1,g2,d,?_,g4⟩;have f:=W2 g3;rw[Azt (by simp only;rw[<-f.2];exact b d f.1)];exact g3
 ·simp at a
theorem Bhb{x d} (a:d.name=x.name) r:Cw Ft (some d) r=Cw Ft (some x) r:=by
 cases r with
 |nil=>rfl
 |cons y r=>rw[Cw,Cw];unfold Ft;simp only[Hj];rw[a]
theorem Azc{d} (c:Bg d=true):∀ {l:List DDoc} {k:Nat} {p:Option DDoc},k<l.length->d.name=(el l k).name->Cw Ft p l=true->Cw Ft p (l.set k d)=true
 |[],k,p,h,_,_=>by simp at h
 |x::r,0,p,_,hn,h=>by have a:d.name=x.name:=hn;rw[B7r,Cw,Bhb a];rw[Cw,B5l]at h;rw[h.2];have b:=h.1;unfold Ft at b⊢;rw[B5l]at b;rw[c,a,b.2];rfl
 |x::r,k+1,p,hk,hn,h=>by rw[B80,Cw];rw[Cw,B5l]at h;rw[h.1,Azc c (l:=r) (k:=k) (by simpa using hk) hn h.2];rfl
theorem Bqt{s a} {e:DEntry} (h:s<:+a++[e]) (f:0<s.length):el s (s.length-1)=e:=by
 obtain⟨t,b⟩:=h;have d:t.length+s.length=a.length+1:=by rw[<-B5m,b];simp
 have c:el (t++s) a.length=e:=by rw[b];exact Lv a e []
 rw[<-c];unfold el;rw[B6n,B6n,B64 (by omega)];rw[show a.length-t.length=s.length-1 by omega]
theorem Bx0 (l:List DDoc){k} (h:k<l.length):l.set k (el l k)=l:=by rw[Gb h,B8y]
theorem Btt{r e} (h:Dz r=true) (a:Co e=true):Dz (Sa r e)=true:=by
 have g:=Ja h;unfold Sa;by_cases c:r.out=true
 ·rw[if_pos c];exact h
 ·rw[if_neg c];split
  ·unfold Dz;simp only;rw[decide_eq_true g.1,decide_eq_true g.2.1,decide_eq_true (show(([]:List DEntry).length:Int)<=r.cap by simp;omega)];rfl
  ·unfold Dz;simp only;rw[decide_eq_true g.1,decide_eq_true g.2.1,decide_eq_true (show((r.list++[e]).length:Int)<=r.cap by simp;omega),B88.2 c,Cai,g.2.2.2.2];simp[a]
theorem Byq{h} (i:HInv P h){n client seq base o} (c:(Kq h n client seq base o).2.2=0):HInv P (Kq h n client seq base o).1:=by
 unfold Kq at c⊢;split at c
 ·simp at c
 ·rename_i C;rw[if_neg C];split at c
  ·simp at c
  ·rename_i D;rw[if_neg D];split at c
   ·rename_i p;rw[if_pos p];obtain⟨A,k2,K,L⟩:=K8 i (name:=n) (by omega);obtain⟨B,o2,f⟩:=Att L K p;simp only;generalize Gf (el h.docs (A1 h.docs n).toNat) client seq base o=r at B o2 f⊢;rcases f with f|⟨e,f,F,e2⟩
    ·rw[f,if_neg (by omega),Bx0 _ A];exact⟨i.nd,i.ns,i.la,i.cd,i.ci,i.sg⟩
    ·have H:=Ayj (el h.docs (A1 h.docs n).toNat) e;have k:=Am6 (el h.docs (A1 h.docs n).toNat) e;have y:Jr h.docs n=some (el h.docs (A1 h.docs n).toNat):=by rw[Aft,if_pos (by omega)]
     have l:=(W2 y).2;rw[<-f]at H k;rw[Bqt k.1 k.2.1,if_pos (by omega)];refine⟨by simp only[B6v];exact i.nd,by simp only[B6x];exact i.ns,i.la,Azc B A o2 i.cd,?_,λs z=>?_⟩
     ·simp only;rw[Cau];refine i.ci.imp λ{a b} v=>?_;unfold Vh;split<;>split<;>exact v
     ·simp only at z⊢;obtain⟨g,Ax,rfl⟩:=B75.1 z;obtain⟨g1,g2,d,g3,g4⟩:=i.sg g Ax;unfold Vh;by_cases j:g.doc=n
      ·rw[if_pos j];rw[j,y]at g3;have u:=B65.inj g3;subst u;refine⟨g1,Btt g2 F,r.1,by simp only;rw[j,Anu (by rw[o2,l]) (by omega),if_pos rfl],λho=>?_⟩;have N:=Ja g2;unfold Sa at ho⊢;simp only at ho⊢;by_cases q:g.r.out=true
       ·rw[if_pos q]at ho;rw[q]at ho;cases ho
       ·rw[if_neg q]at ho⊢;by_cases w:(g.r.list.length:Int)=g.r.cap
        ·rw[if_pos w]at ho;cases ho
        ·rw[if_neg w];obtain⟨O,M⟩:=g4 (B88.2 q);refine⟨by simp only[B5m,B5q,B5y];omega,λG=>?_⟩;have m:g.r.list++[e]<:+(el h.docs (A1 h.docs n).toNat).list++[e]:=by obtain⟨t,I⟩:=M G;exact⟨t,by rw[<-I];simp⟩
         refine List.suffix_of_suffix_length_le m k.1 ?_;rcases k.2.2 with x|x
         ·simp only[B5m,B5q,B5y];omega
         ·rw[x];exact m.length_le
      ·rw[if_neg j];exact⟨g1,g2,d,by rw[Anu (by rw[o2,l]) (by omega),if_neg j];exact g3,g4⟩
   ·rename_i p;exact absurd c p
theorem Byr{h} (i:HInv P h){n room} (c:(Kr h n room).2.2=0):HInv P (Kr h n room).1:=by
 unfold Kr at c⊢;split at c
 ·rename_i f;rw[if_pos f];split at c
  ·simp at c
  ·rename_i j;rw[if_neg j];split at c
   ·simp at c
   ·rename_i k;rw[if_neg k];split at c
    ·simp at c
    ·rename_i l;rw[if_neg l];obtain⟨r,k2,o,t⟩:=K8 i (name:=n) (by omega);have g:=T8 o;have p:=i.la;have q:=i.ns;refine⟨i.nd,by simp only[B5m,B5q,B5y];omega,by simp only;omega,i.cd,?_,λs e=>?_⟩
     ·simp only;rw[Cbd];refine⟨i.ci,Caw _ _,λa m b g=>?_⟩;rw[B57.1 g];have:=(i.sg a m).1;simp only;omega
     ·simp only at e⊢;rcases B6g.1 e with e|e
      ·obtain⟨g1,g2,d,g3,g4⟩:=i.sg s e;exact⟨by omega,g2,d,g3,g4⟩
      ·rw[B57.1 e];refine⟨by simp only;omega,Ais f ⟨by omega,by omega⟩,el h.docs (A1 h.docs n).toNat,by simp only;rw[Aft,if_pos (by omega)],λ_=>⟨by simp[K3],λ_=>List.nil_suffix⟩⟩
 ·simp at c
theorem A71{h} (i:HInv P h){j y} (m:j<h.subs.length) (d:y.id=(el h.subs j).id) (g:sbG P h.docs h.last y):HInv P ⟨h.shut,h.docs,h.subs.set j y,h.last⟩:=by
 refine⟨i.nd,by simp only[B6v];exact i.ns,i.la,i.cd,?_,λs c=>?_⟩
 ·have e:(h.subs.set j y).map (λs=>s.id)=h.subs.map (λs=>s.id):=by
   rw[Cbu,d,Gb m];have k:j<(h.subs.map λs=>s.id).length:=by simpa using m
   have:=B8y k;rw[List.getElem_map]at this;exact this
  have l:=i.ci;rw[<-Cau (f:=λs:DSub=>s.id) (R:=λa b=>a<b)]at l⊢;simp only;rw[e];exact l
 ·simp only at c⊢;rcases B7j c with c|c
  ·exact i.sg s c
  ·rw[c];exact g
theorem Btl{h} (i:HInv P h){n m} (b:(Ju h n m).2.2=0):HInv P (Ju h n m).1:=by
 unfold Ju at b⊢;split at b
 ·simp at b
 ·rename_i f;rw[if_neg f];split at b
  ·simp at b
  ·rename_i g;rw[if_neg g];split at b
   ·rename_i a;rw[if_pos a];obtain⟨o,k2,u,p⟩:=Sk (l:=h.subs) (n:=n) (by omega);refine A71 i o rfl ?_;obtain⟨g1,g2,d,g3,g4⟩:=i.sg _ p;generalize el h.subs (C4 h.subs n).toNat=s at a g1 g2 g3 g4⊢;have k:=i.doc (W2 g3).1;have t:=T8 k;have e:=Ja g2;unfold J4 at a⊢;by_cases c:s.r.out=true
    ·rw[if_pos c]at a;simp at a
    ·rw[if_neg c];obtain⟨v,q⟩:=g4 (B88.2 c);refine⟨g1,?_,d,g3,λ_=>⟨by simp only[B50];omega,λj=>(List.drop_suffix _ _).trans (q j)⟩⟩;unfold Dz;simp only;rw[decide_eq_true e.1,decide_eq_true (show 1<=s.r.next+min m (s.r.list.length:Int)/\s.r.next+min m (s.r.list.length:Int)<=1000000000 by omega),decide_eq_true (show((s.r.list.drop (min m (s.r.list.length:Int)).toNat).length:Int)<=s.r.cap by rw[B50];omega),B88.2 c];have:(s.r.list.drop (min m (s.r.list.length:Int)).toNat).all Co=true:=B6b.2 λx hx=>B6b.1 e.2.2.2.2 x (B6z hx);rw[this];rfl
   ·rename_i a;exact absurd b a
theorem Bvn{h} (i:HInv P h){n} (a:(I5 h n).2.2.2=0):HInv P (I5 h n).1:=by
 unfold I5 at a⊢;split at a
 ·simp at a
 ·rename_i b;rw[if_neg b];obtain⟨f,k2,k,g⟩:=Sk (l:=h.subs) (n:=n) (by omega);refine A71 i f rfl ?_;obtain⟨g1,g2,d,g3,g4⟩:=i.sg _ g;have c:=i.doc (W2 g3).1;have j:=T8 c;have e:=(Ant g3).2;rw[e];exact⟨g1,Ais (Ja g2).1 ⟨by omega,by omega⟩,d,g3,λ_=>⟨by simp[K3],λ_=>List.nil_suffix⟩⟩
theorem Bx1{h} (i:HInv P h) (a:(Lz h).2=0):HInv P (Lz h).1:=by
 unfold Lz at a⊢;split at a
 ·simp at a
 ·rename_i b;rw[if_neg b];exact⟨i.nd,i.ns,i.la,i.cd,i.ci,i.sg⟩
theorem Xe{h r} (i:HInv P h){code rev t l} (k:code=0->HInv P r):HInv P (Kl h r code rev t l).1:=by
 unfold Kl;split
 ·rename_i c;exact k c
 ·exact i
theorem Bii{h} (i:HInv P h) c:HInv P (M4 h c).1:=by
 unfold M4;split
 ·split
  ·exact Xe i (Bsu i)
  split
  ·exact Xe i (Byq i)
  split
  ·exact i
  split
  ·exact i
  split
  ·exact Xe i (Byr i)
  split
  ·exact Xe i (Btl i)
  split
  ·exact Xe i (Bvn i)
  ·exact Xe i (Bx1 i)
 ·exact i
end
theorem Ayp (a b:DAnswer):(a=b)↔(((a.code=b.code/\a.rev=b.rev)/\a.text=b.text)/\a.list=b.list):=by cases a;cases b;simp[and_assoc]
theorem Bor a b:Zh a b=some (decide (a=b)):=by
 unfold Zh;by_cases h:(a.length:Int)=b.length
 ·rw[decide_eq_true h,B5o,cond_false,W9 a b (by omega) (y:=.inr ()) (λk c d=>by
   unfold Aws Awr;rw[Aa ⟨by omega,by omega⟩,Boq,B5i];cases decide (el a k=el b k)<;>rfl),B5i]
  cases decide (a=b)<;>rfl
 ·rw[decide_eq_false h,decide_eq_false (p:=a=b) λe=>h (by rw[e])];rfl
theorem Bol a b:Lh a b=some (decide (a=b)):=by unfold Lh;simp only[Bor,Agy,B5i,Bo,Dd];refine Gu ?_;simp only[B5l,decide_eq_true_eq];exact(Ayp a b).symm
theorem Bvz a b:Wa a b=some (decide (a=b)):=by
 unfold Wa;simp only[A7l,B5i,Bo,Ff];by_cases h:((a.code=b.code/\a.rev=b.rev)/\a.text=b.text)/\(a.list.length:Int)=b.list.length
 ·rw[decide_eq_true h.1.1.1,decide_eq_true h.1.1.2,decide_eq_true h.1.2,decide_eq_true h.2];simp only[B5o,B8x,cond_false]
  rw[W9 a.list b.list (by omega) (y:=.inr ()) (λk f c=>by
   unfold Aw0 Awz;rw[Aa ⟨by omega,by omega⟩,Bv4,B5i];cases decide (el a.list k=el b.list k)<;>rfl),B5i]
  have:decide (a=b)=decide (a.list=b.list):=decide_eq_decide.2 ((Ayp a b).trans ⟨λh=>h.2,λc=>⟨h.1,c⟩⟩);rw[this];cases decide (a.list=b.list)<;>rfl
 ·rw[decide_eq_false (p:=a=b) λe=>h (by subst e;simp)];have:(((!decide (a.code=b.code)||!decide (a.rev=b.rev))||!decide (a.text=b.text))||!decide ((a.list.length:Int)=b.list.length))=true:=by simp only[B6s,B66,decide_eq_false_iff_not];refine Classical.byContradiction λd=>h ?_;simp only[not_or,Classical.not_not]at d;exact d
  rw[this];rfl
def Ana:DAnswer:=⟨0,0,[],[]⟩
def Anb:DAnswer:=⟨11,0,[],[]⟩
def Vo (t:DTask):Prop:=
 ((t.pc=0\/(t.pc=1/\1<=t.c.kind/\t.c.kind<=5)\/(t.pc=2/\t.c.kind=2))/\t.lin= -1/\t.res= -1/\t.a=Ana)\/
 ((t.pc=3\/t.pc=4)/\(((t.a=Anb/\t.c.kind=2)/\t.lin= -1)\/(t.inv<=t.lin/\t.lin<=1000000))/\((t.pc=3/\t.res= -1)\/(t.pc=4/\max t.inv t.lin<=t.res/\t.res<=1000000)))
instance (t:DTask):Decidable (Vo t):=inferInstanceAs (Decidable (_\/_))
def Hf (t:DTask):Bool:=(Di t.c&&decide (0<=t.inv/\t.inv<=1000000))&&decide (Vo t)
theorem Bpd t:Adi t=some (Hf t):=by
 unfold Adi Hf;rw[Agx,B5i];simp only[Ez,Xm,Bol,B5i,Bo,Ff,Dd,cn_,cm_,Bn];by_cases a:Di t.c=true/\0<=t.inv/\t.inv<=1000000
 ·rw[a.1,decide_eq_true a.2];simp only[B5o,Cbv,Ca7,B7t];by_cases i:0<=t.pc/\t.pc<=4
  ·rcases(show t.pc=0\/t.pc=1\/t.pc=2\/t.pc=3\/t.pc=4 by omega)with h|h|h|h|h
   all_goals simp only[h,Vo,Ana,Anb]
   all_goals simp[Bool.and_assoc]
  ·have b:¬t.pc=0:=by omega
   have d:¬t.pc=1:=by omega
   have e2:¬t.pc=2:=by omega
   have e:¬t.pc=3:=by omega
   have f:¬t.pc=4:=by omega
   simp[b,d,e2,e,f,Vo]
 ·have:(!Di t.c||!decide (0<=t.inv/\t.inv<=1000000))=true:=by
   simp only[B6s,B66,decide_eq_false_iff_not];cases h:Di t.c with
   |false=>exact .inl rfl
   |true=>exact .inr λg=>a ⟨h,g⟩
  rw[this,show(Di t.c&&decide (0<=t.inv/\t.inv<=1000000))=false by rw[Ca9];rw[B6s]at this;rwa [B66,B66]at this];simp
theorem Bwv t:Aek t=some (Hf t):=by
 unfold Aek Hf;rw[Aix,B5i];simp only[E5,Ace,Bvz,B5i,Bo,Ff,Dd,cn_,cm_,Bn];by_cases a:Di t.c=true/\0<=t.inv/\t.inv<=1000000
 ·rw[a.1,decide_eq_true a.2];simp only[B5o,Cbv,B8v,Ca7,B7t];by_cases b:0<=t.pc/\t.pc<=4
  ·rw[decide_eq_true b];rcases(show t.pc=0\/t.pc=1\/t.pc=2\/t.pc=3\/t.pc=4 by omega)with h|h|h|h|h
   all_goals simp only[h,Vo,Ana,Anb]
   all_goals simp[Bool.and_assoc]
   have i:(max t.inv t.lin<=t.res)↔(t.lin<=t.res/\t.inv<=t.res):=by omega
   simp only[i,Bool.decide_and];congr 1;cases decide (t.inv<=t.res)<;>cases decide (t.lin<=t.res)<;>simp
  ·have d:¬t.pc=0:=by omega
   have e:¬t.pc=1:=by omega
   have e2:¬t.pc=2:=by omega
   have f:¬t.pc=3:=by omega
   have g:¬t.pc=4:=by omega
   rw[decide_eq_false b];simp[d,e,e2,f,g,Vo]
 ·have:(!Di t.c||!decide (0<=t.inv/\t.inv<=1000000))=true:=by
   simp only[B6s,B66,decide_eq_false_iff_not];cases h:Di t.c with
   |false=>exact .inl rfl
   |true=>exact .inr λj=>a ⟨h,j⟩
  rw[this,show(Di t.c&&decide (0<=t.inv/\t.inv<=1000000))=false by rw[Ca9];rw[B6s]at this;rwa [B66,B66]at this];simp
def Ii:Nat->List Int->List (Option Nat)->Option (List Int)
 |_,h,[]=>some h
 |k,h,none::r=>Ii (k+1) h r
 |k,h,some s::r=>if el h s= -1 then Ii (k+1) (h.set s k) r else none
def Nw (h:List Int) (l:List (Option Nat)):Prop:=∀s,s<h.length->el h s= -1\/∃j:Nat,el h s=(j:Int)/\l[j]?=some (some s)
def L4 (h:List Int) (l:List (Option Nat)):Prop:=∀j s:Nat,l[j]?=some (some s)->el h s=(j:Int)
theorem Abj{n}:∀r a h d,(∀s,some s∈r->s<n)->h.length=n->Nw h a->L4 h a->Ii a.length h r=some d->d.length=n/\Nw d (a++r)/\L4 d (a++r)
 |[],a,h,d,_,hl,hA,hB,he=>by obtain rfl:h=d:=B65.inj he;rw[B6o];exact⟨hl,hA,hB⟩
 |none::r,a,h,d,k,hl,hA,hB,he=>by
  have f:Nw h (a++[none]):=λs k=>(hA s k).imp id λ⟨j,m,l⟩=>⟨j,m,by rw[B6p (B55.1 l).1];exact l⟩
  have g:L4 h (a++[none]):=λj s b=>hB j s (by
   by_cases c:j<a.length
   ·rwa [B6p c]at b
   ·rw[B64 (by omega)]at b;rcases Caa (Cax c)with e|e
    ·rw[<-e]at b;simp at b
    ·rw[B7z (by simp;omega)]at b;cases b)
  have:=Abj r (a++[none]) h d (λs i=>k s (B5j _ i)) hl f g (by rw[B5m];exact he);rwa [B5r]at this
 |some s0::r,a,h,d,k,hl,hA,hB,he=>by
  have Ax:s0<n:=k s0 (B5n ..);rw[Ii]at he;by_cases o:el h s0= -1
  ·rw[if_pos o]at he
   have f:Nw (h.set s0 a.length) (a++[some s0]):=λs q=>by
    rw[B6v]at q;by_cases e:s=s0
    ·subst e;exact .inr ⟨a.length,Aos q,by simp⟩
    ·rw[A1h (λx=>e x.symm)];exact(hA s q).imp id λ⟨j,m,l⟩=>⟨j,m,by rw[B6p (B55.1 l).1];exact l⟩
   have g:L4 (h.set s0 a.length) (a++[some s0]):=λj s b=>by
    by_cases c:j<a.length
    ·rw[B6p c]at b;have p:s0≠s:=λe=>by have:=hB j s b;rw[<-e,o]at this;omega
     rw[A1h p];exact hB j s b
    ·rw[B64 (by omega)]at b;rcases Caa (Cax c)with e|e
     ·subst e;obtain rfl:s0=s:=by simpa using b
      exact Aos (by omega)
     ·rw[B7z (by simp;omega)]at b;cases b
   have:=Abj r (a++[some s0]) _ d (λs i=>k s (B5j _ i)) (by rw[B6v];exact hl) f g (by rw[B5m];exact he);rwa [B5r]at this
  ·rw[if_neg o]at he;cases he
theorem Aqr{n L} (o:L.length=n):∀r a h,(∀s,some s∈a++r->s<n)->h.length=n->Nw h a->L4 h a->L4 L (a++r)->∃q,Ii a.length h r=some q
 |[],a,h,_,_,_,_,_=>⟨h,rfl⟩
 |none::r,a,h,g,hl,hA,hB,hLB=>by
  have l:Nw h (a++[none]):=λs g=>(hA s g).imp id λ⟨j,k,d⟩=>⟨j,k,by rw[B6p (B55.1 d).1];exact d⟩
  have m:L4 h (a++[none]):=λj s c=>hB j s (by
   by_cases f:j<a.length
   ·rwa [B6p f]at c
   ·rw[B64 (by omega)]at c;rcases Caa (Cax f)with e|e
    ·rw[<-e]at c;simp at c
    ·rw[B7z (by simp;omega)]at c;cases c)
  have:=Aqr o r (a++[none]) h (by rwa [B5r]) hl l m (by rwa [B5r]);rwa [B5m]at this
 |some s0::r,a,h,g,hl,hA,hB,hLB=>by
  have Ax:s0<n:=g s0 (by simp)
  have p:el h s0= -1:=by
   rcases hA s0 (by omega)with k|⟨j,_,d⟩
   ·exact k
   ·have c:=(B55.1 d).1;have t:=hLB j s0 (by rw[B6p c];exact d);have e2:=hLB a.length s0 (by simp);omega
  rw[Ii,if_pos p];have b:=Abj (n:=n) [some s0] a h (h.set s0 a.length) (λs i=>g s (by simp only[B6g,B5t,Ca2,or_false]at i⊢;exact .inr (.inl i))) hl hA hB (by rw[Ii,if_pos p];rfl);have:=Aqr o r (a++[some s0]) _ (by rwa [B5r]) b.1 b.2.1 b.2.2 (by rwa [B5r]);rwa [B5m]at this
theorem Brn{h L l} (k:h.length=L.length) (a:Nw h l) (b:L4 h l) (c:Nw L l) (d:L4 L l):h=L:=by
 refine List.ext_getElem k λs g i=>?_;rw[<-Gb g,<-Gb i];rcases a s g with e|⟨j,e,f⟩
 ·rcases c s i with e2|⟨j,_,f⟩
  ·rw[e,e2]
  ·have:=b j s f;omega
 ·rw[e];exact(d j s f).symm
theorem Brm{n L l} (g:L.length=n) (d:∀s,some s∈l->s<n):Ii 0 (B6l n (-1)) l=some L↔Nw L l/\L4 L l:=by
 have a:Nw (B6l n (-1:Int)) []:=λs h=>.inl (Bm7 (by simpa using h));have b:L4 (B6l n (-1:Int)) []:=λj s h=>by simp at h
 constructor
 ·intro h;exact(Abj l [] _ L d (by simp) a b h).2
 ·rintro ⟨hA,hB⟩;obtain⟨e,f⟩:=Aqr g l [] _ d (by simp) a b hB;have c:=Abj l [] _ e d (by simp) a b f;rw[show Ii 0 (B6l n (-1)) l=some e from f,Brn (by rw[c.1,g]) c.2.1 c.2.2 hA hB]
theorem Bgr{x y} (hx:0<=x/\x<4294967296) (b:0<=y/\y<4294967296):0<=Gt x y/\Gt x y<4294967296:=by
 have a:(BitVec.ofInt 64 x^^^BitVec.ofInt 64 y).toNat<2^32:=by rw[BitVec.toNat_xor];refine Nat.xor_lt_two_pow ?_ ?_<;>rw[BitVec.toNat_ofInt]<;>omega
 unfold Gt;rw[i64_in (by omega)];omega
def fnv (s:ByteArray):Int:=(Qg s).getD 0
theorem A2w s (g:s.size<=9223372036854775806):Qg s=some (fnv s)/\0<=fnv s:=by
 have c:∃r,Qg s=some r/\0<=r:=by
  unfold Qg
  obtain⟨r,a,b⟩:=Ri (f:=Akf s) (λz=>(0<=z.1/\z.1<4294967296)/\0<=z.2/\z.2<=s.size) (λz=>(s.size-z.2).toNat) (λr=>0<=r) (λz ⟨a,b,d⟩=>by
   unfold Akf Aux;by_cases h:z.2<(s.size:Int)
   ·have e:=(Bz s z.2.toNat).toNat_lt;have hx:=Bgr a (y:=((Bz s z.2.toNat).toNat:Int)) (by omega);rw[Ad h,Aa ⟨b,h⟩,Ao (by omega) (by omega),Aa ⟨by omega,by omega⟩,Ao (by omega) (by omega)];exact .inl ⟨_,rfl,⟨⟨by simp only;omega,by simp only;omega⟩,by simp only;omega,by simp only;omega⟩,by simp only;omega⟩
   ·rw[Ab h];exact .inr ⟨_,rfl,a.1⟩) (2166136261,0) ⟨by simp,by simp,by simp⟩
  exact⟨r,by rw[a];rfl,b⟩
 obtain⟨r,a,b⟩:=c;have:fnv s=r:=by unfold fnv;rw[a];rfl
 rw[this];exact⟨a,b⟩
theorem Bv7 s:Aea s=Qg s:=rfl
def C8 (s:ByteArray) (n:Int):Int:=if n<1 then 0 else fnv s % n
theorem Apu s n (a:s.size<=9223372036854775806):Vz s n=some (C8 s n):=by
 unfold Vz C8;by_cases h:n<1
 ·rw[Ad h,if_pos h]
 ·have:=A2w s a;rw[Ab h,if_neg h,this.1,B5i,Aa ⟨this.2,by omega⟩]
theorem Ai1 s n (a:s.size<=9223372036854775806):Qn s n=some (C8 s n):=by
 unfold Qn C8;by_cases h:n<1
 ·rw[Ad h,if_pos h]
 ·have:=A2w s a;rw[Ab h,if_neg h,Bv7,this.1,B5i,Aa ⟨this.2,by omega⟩]
theorem Aco{s n} (h:1<=n):0<=C8 s n/\C8 s n<n:=by unfold C8;rw[if_neg (by omega)];exact⟨Int.emod_nonneg _ (by omega),Int.emod_lt_of_pos _ (by omega)⟩
theorem Apn l n:S4 l n=some (decide (n∈l)):=by
 unfold S4 Ad5
 rw[Tw l (λx=>decide (n=x)) () (λk=>.inr k) (λx k d hx=>by
  unfold Awy Awx;rw[hx];cases decide (n=x)<;>rfl)]
 by_cases h:0<=Cu (λx=>decide (n=x)) l
 ·have b:=Xq h;rw[if_pos h]
  have a:n∈l:=by
   have e:n=el l (Cu (λx=>decide (n=x)) l).toNat:=by simpa using b.2
   rw[e];exact Bm b.1
  simp only[B5i,Ca8];rw[decide_eq_true h,decide_eq_true a]
 ·rw[if_neg h];have c:=Aqf.1 (show Cu (λx=>decide (n=x)) l<0 by omega);rw[decide_eq_false (p:=n∈l) λa=>by simpa using c n a];rfl
theorem Asx l n:O3 l n=some (decide (n∈l)):=by
 unfold O3
 rw[C6 (F:=Amw n l) (e:=λ_=>(B7k ():Sum Unit Bool)) l (λ_ _ _=>True) (λr _ _=>bif decide (n∈r)then .inr true else .inl ()) (λ_ _=>by simp) (λx r k s a hx _=>by
  unfold Amw Ax4;rw[hx];by_cases h:x=n
  ·exact .inr (by rw[Ad h,h];simp)
  ·refine .inl ⟨(),by rw[Ab h],trivial,?_⟩;have:n∈x::r↔n∈r:=by rw[B5t];exact⟨λq=>q.resolve_left λe=>h e.symm,.inr⟩
   rw[decide_eq_decide.2 this]) () trivial,B5i]
 cases decide (n∈l)<;>rfl
def Et (a:Int):List Int->List Int->Option (List Int)
 |met,[]=>some met
 |met,n::r=>if n= -1 then Et a met r else if a<=n\/n∈met then none else Et a (met++[n]) r
theorem Ajm{step}:∀ {a b c:List Int},Et step c (a++b)=(Et step c a).bind (Et step · b)
 |[],_,_=>rfl
 |n::a,b,c=>by
  rw[B6a,Et,Et];split
  ·exact Ajm
  ·split
   ·rfl
   ·exact Ajm
theorem Ajn{step}:∀ {a b m:List Int},Et step b a=some m->m.length<=b.length+a.length
 |[],b,m,h=>by obtain rfl:=B65.inj h;simp
 |n::a,b,m,h=>by
  rw[Et]at h;split at h
  ·have:=Ajn h;simp only[B5q];omega
  ·split at h
   ·cases h
   ·have:=Ajn h;simp only[B5q,B5m,B5y]at this⊢;omega
def Ji (o:Option (List Int)):Sum (List Int) Bool:=match o with
 |some m=>.inl m
 |none=>.inr false
def J9 (t:DTask):List Int:=[t.inv,t.lin,t.res]
def Rw (l:List DTask) (a:Int):Bool:=(Et a [] (l.flatMap J9)).isSome
theorem Bpx l a (t:l.length<=1000):Adx l a=some (Rw l a):=by
 unfold Adx Rw
 rw[C6 (F:=Avr a l) (e:=λs=>(B7k s:Sum (List Int) Bool)) l (λr k s=>s.length<=3*k) (λr _ s=>Ji (Et a s (r.flatMap J9))) (λ_ _=>rfl) (λx r k s p hx n=>by
  unfold Avr Baq
  rw[hx,show [x.inv,x.lin,x.res]=J9 x from rfl,C6 (F:=Avs a l k) (e:=λs=>(B7k s:Sum (List Int) Bool)) (J9 x) (λr j s=>s.length<=3*k+j) (λr _ s=>Ji (Et a s r)) (λ_ _=>rfl) (λy q j z f i o=>by
   have g:j<3:=f;unfold Avs Bar;rw[hx];rw[show el [x.inv,x.lin,x.res] j=y from i,Apn];by_cases b:y= -1
   ·exact .inl ⟨z,by rw[Ad b],by omega,by rw[Et,if_pos b]⟩
   ·rw[Ab b];by_cases c:a<=y
    ·exact .inr (by rw[Ad c,Et,if_neg b,if_pos (.inl c)];rfl)
    ·rw[Ab c];by_cases d:y∈z
     ·exact .inr (by rw[decide_eq_true d,Et,if_neg b,if_pos (.inr d)];rfl)
     ·refine .inl ⟨z++[y],?_,by simp only[B5m,B5q,B5y];omega,by rw[Et,if_neg b,if_neg (by simp[c,d])]⟩;rw[decide_eq_false d];simp only[B5i,cond_false];rw[Aa (by omega)]) s (by omega),B5i]
  rw[B6h,Ajm];cases h:Et a s (J9 x)with
  |none=>exact .inr rfl
  |some m=>exact .inl ⟨m,rfl,by have:=Ajn h;have e:(J9 x).length=3:=rfl;omega,rfl⟩) [] (by simp),B5i]
 cases Et a [] (l.flatMap J9)<;>rfl
theorem Bwt w (o:w.tasks.length<=1000):Ae0 w=some (Rw w.tasks w.step):=by
 unfold Ae0 Rw
 rw[C6 (F:=Ayd w) (e:=λs=>(B7k s:Sum (List Int) Bool)) w.tasks (λr k s=>s.length<=3*k) (λr _ s=>Ji (Et w.step s (r.flatMap J9))) (λ_ _=>rfl) (λx r k s n hx i=>by
  unfold Ayd Bbq
  rw[hx,show [x.inv,x.lin,x.res]=J9 x from rfl,C6 (F:=Aye w k) (e:=λs=>(B7k s:Sum (List Int) Bool)) (J9 x) (λr j s=>s.length<=3*k+j) (λr _ s=>Ji (Et w.step s r)) (λ_ _=>rfl) (λy q j z d h l=>by
   have f:j<3:=d;unfold Aye Bbr;rw[hx];rw[show el [x.inv,x.lin,x.res] j=y from h,Asx];by_cases a:y= -1
   ·exact .inl ⟨z,by rw[Ad a],by omega,by rw[Et,if_pos a]⟩
   ·rw[Ab a];by_cases b:w.step<=y
    ·exact .inr (by rw[Ad b,Et,if_neg a,if_pos (.inl b)];rfl)
    ·rw[Ab b];by_cases c:y∈z
     ·exact .inr (by rw[decide_eq_true c,Et,if_neg a,if_pos (.inr c)];rfl)
     ·refine .inl ⟨z++[y],?_,by simp only[B5m,B5q,B5y];omega,by rw[Et,if_neg a,if_neg (by simp[b,c])]⟩;rw[decide_eq_false c];simp only[B5i,cond_false];rw[Aa (by omega)]) s (by omega),B5i]
  rw[B6h,Ajm];cases g:Et w.step s (J9 x)with
  |none=>exact .inr rfl
  |some m=>exact .inl ⟨m,rfl,by have:=Ajn g;have e:(J9 x).length=3:=rfl;omega,rfl⟩) [] (by simp),B5i]
 cases Et w.step [] (w.tasks.flatMap J9)<;>rfl
def Jc (w:DWorld) (a:ByteArray):List Int->List Int->Option (List Int)
 |qd,[]=>some qd
 |qd,k::r=>if((0<=k/\k<=(w.tasks.length:Int)-1)/\(el w.tasks k.toNat).pc=2)/\(el w.tasks k.toNat).c.doc=a/\k∉qd then Jc w a (qd++[k]) r else none
def J1 (w:DWorld):Option DQueue->List Int->List DQueue->Option (List Int)
 |_,qd,[]=>some qd
 |p,qd,q::r=>if(Hj (λp=>!Bv p.doc q.doc) p=false/\1<=q.list.length/\q.list.length<=2)/\0<=A1 w.h.docs q.doc then(Jc w q.doc qd q.list).bind (J1 w (some q) · r)else none
def Ur (w:DWorld):Bool:=match J1 w none [] w.queues with
 |some qd=>H8 (λk t=>!(decide (t.pc=2)&&!decide ((k:Int)∈qd))) 0 w.tasks
 |none=>false
theorem Ar7{w doc}:∀ {a qd m:List Int},Jc w doc qd a=some m->m.length=qd.length+a.length
 |[],qd,m,h=>by obtain rfl:=B65.inj h;simp
 |n::a,qd,m,h=>by
  rw[Jc]at h;split at h
  ·have:=Ar7 h;simp only[B5q,B5m,B5y]at this⊢;omega
  ·cases h
theorem Bps w (B:w.tasks.length<=1000) (C:w.queues.length<=1048576):V4 w=some (Ur w):=by
 unfold V4 Ur
 rw[C6 (F:=Ak7 w) (e:=λs=>(B7k s:Sum (List Int) Bool)) w.queues (λr k s=>s.length<=2*k) (λr k s=>Ji (J1 w (if k=0 then none else some (el w.queues (k-1))) s r)) (λ_ _=>rfl) (λx r k s i hx u=>by
  unfold Ak7 Avm;have e:=Yb w.queues (λp=>!Bv p.doc x.doc) (by omega) i;have n:(if k+1=0 then none else some (el w.queues (k+1-1)))=some x:=by rw[if_neg (by omega),B89,hx]
  rw[hx,e,n,Ez,Pk,J1];generalize Hj (λp:DQueue=>!Bv p.doc x.doc) (if k=0 then none else some (el w.queues (k-1)))=b;simp only[B5i,Bo,Ff];by_cases g:(b=false/\1<=x.list.length/\x.list.length<=2)/\0<=A1 w.h.docs x.doc
  ·rw[if_pos g,g.1.1,decide_eq_true (p:=1<=(x.list.length:Int)/\(x.list.length:Int)<=2) (by omega),decide_eq_false (p:=A1 w.h.docs x.doc<0) (by omega)];simp only[B5o,B8x,cond_false]
   rw[C6 (F:=Ak8 w k) (e:=λs=>(B7k s:Sum (List Int) Bool)) x.list (λr j s=>s.length<=2*k+j) (λr _ s=>Ji (Jc w x.doc s r)) (λ_ _=>rfl) (λy q j z A o v=>by
    unfold Ak8 Avn;rw[hx,o,Ao (by omega) (by omega),Ez,B5i,Jc,Apn];by_cases f:0<=y/\y<=(w.tasks.length:Int)-1
    ·rw[decide_eq_true f];simp only[B5o,cond_false];rw[Aa ⟨f.1,by omega⟩,Aa ⟨f.1,by omega⟩];simp only[B5i,Bo,Ff];by_cases a:((el w.tasks y.toNat).pc=2)/\(el w.tasks y.toNat).c.doc=x.doc/\y∉z
     ·refine .inl ⟨z++[y],?_,by simp only[B5m,B5q,B5y];omega,by rw[if_pos ⟨⟨f,a.1⟩,a.2⟩]⟩;rw[decide_eq_true a.1,decide_eq_true a.2.1,decide_eq_false a.2.2];simp only[B5o,B8x,cond_false];rw[Aa (by omega)]
     ·refine .inr ?_;rw[if_neg λh=>a ⟨h.1.2,h.2⟩];have:((!decide ((el w.tasks y.toNat).pc=2)||!decide ((el w.tasks y.toNat).c.doc=x.doc))||decide (y∈z))=true:=by simp only[B6s,B66,decide_eq_false_iff_not,decide_eq_true_eq];refine Classical.byContradiction λd=>a ?_;simp only[not_or,Classical.not_not]at d;exact⟨d.1.1,d.1.2,d.2⟩
      rw[this];rfl
    ·refine .inr ?_;rw[decide_eq_false f,if_neg λh=>f h.1.1];rfl) s (by omega),B5i]
   cases l:Jc w x.doc s x.list with
   |none=>exact .inr rfl
   |some m=>exact .inl ⟨m,rfl,by have:=Ar7 l;omega,rfl⟩
  ·rw[if_neg g];have:((b||!decide (1<=(x.list.length:Int)/\(x.list.length:Int)<=2))||decide (A1 w.h.docs x.doc<0))=true:=by simp only[B6s,B66,decide_eq_false_iff_not,decide_eq_true_eq];refine Classical.byContradiction λd=>g ?_;simp only[not_or,Classical.not_not,B95]at d;exact⟨⟨d.1.1,by omega⟩,by omega⟩
   rw[this];exact .inr rfl) [] (by simp),B5i]
 simp only[if_true];cases l:J1 w none [] w.queues with
 |none=>rfl
 |some qd=>
  simp only[Ji,B7u]
  rw[Af8 (b:=.inr false) w.tasks (λk t=>!(decide (t.pc=2)&&!decide ((k:Int)∈qd))) (λx k i hx=>by
   unfold Avp Avo;rw[hx,Apn];simp only[B5i,Bo,Dd];cases decide (x.pc=2)<;>cases decide ((k:Int)∈qd)<;>rfl),B5i]
  cases H8 (λk t=>!(decide (t.pc=2)&&!decide ((k:Int)∈qd))) 0 w.tasks<;>rfl
theorem Bwm w (B:w.tasks.length<=1000) (C:w.queues.length<=1048576):Wk w=some (Ur w):=by
 unfold Wk Ur
 rw[C6 (F:=Amx w) (e:=λs=>(B7k s:Sum (List Int) Bool)) w.queues (λr k s=>s.length<=2*k) (λr k s=>Ji (J1 w (if k=0 then none else some (el w.queues (k-1))) s r)) (λ_ _=>rfl) (λx r k s i hx u=>by
  unfold Amx Ax9;have e:=Yb w.queues (λp=>!Bv p.doc x.doc) (by omega) i;have n:(if k+1=0 then none else some (el w.queues (k+1-1)))=some x:=by rw[if_neg (by omega),B89,hx]
  rw[hx,e,n,E5,P1,J1];generalize Hj (λp:DQueue=>!Bv p.doc x.doc) (if k=0 then none else some (el w.queues (k-1)))=b;simp only[B5i,Bo,Ff];by_cases g:(b=false/\1<=x.list.length/\x.list.length<=2)/\0<=A1 w.h.docs x.doc
  ·rw[if_pos g,g.1.1,decide_eq_true (p:=1<=(x.list.length:Int)/\(x.list.length:Int)<=2) (by omega),decide_eq_false (p:=A1 w.h.docs x.doc<0) (by omega)];simp only[B5o,B8x,cond_false]
   rw[C6 (F:=Amy w k) (e:=λs=>(B7k s:Sum (List Int) Bool)) x.list (λr j s=>s.length<=2*k+j) (λr _ s=>Ji (Jc w x.doc s r)) (λ_ _=>rfl) (λy q j z A o v=>by
    unfold Amy Aya;rw[hx,o,Ao (by omega) (by omega),E5,B5i,Jc,Asx];by_cases f:0<=y/\y<=(w.tasks.length:Int)-1
    ·rw[decide_eq_true f];simp only[B5o,cond_false];rw[Aa ⟨f.1,by omega⟩,Aa ⟨f.1,by omega⟩];simp only[B5i,Bo,Ff];by_cases a:((el w.tasks y.toNat).pc=2)/\(el w.tasks y.toNat).c.doc=x.doc/\y∉z
     ·refine .inl ⟨z++[y],?_,by simp only[B5m,B5q,B5y];omega,by rw[if_pos ⟨⟨f,a.1⟩,a.2⟩]⟩;rw[decide_eq_true a.1,decide_eq_true a.2.1,decide_eq_false a.2.2];simp only[B5o,B8x,cond_false];rw[Aa (by omega)]
     ·refine .inr ?_;rw[if_neg λh=>a ⟨h.1.2,h.2⟩];have:((!decide ((el w.tasks y.toNat).pc=2)||!decide ((el w.tasks y.toNat).c.doc=x.doc))||decide (y∈z))=true:=by simp only[B6s,B66,decide_eq_false_iff_not,decide_eq_true_eq];refine Classical.byContradiction λd=>a ?_;simp only[not_or,Classical.not_not]at d;exact⟨d.1.1,d.1.2,d.2⟩
      rw[this];rfl
    ·refine .inr ?_;rw[decide_eq_false f,if_neg λh=>f h.1.1];rfl) s (by omega),B5i]
   cases l:Jc w x.doc s x.list with
   |none=>exact .inr rfl
   |some m=>exact .inl ⟨m,rfl,by have:=Ar7 l;omega,rfl⟩
  ·rw[if_neg g];have:((b||!decide (1<=(x.list.length:Int)/\(x.list.length:Int)<=2))||decide (A1 w.h.docs x.doc<0))=true:=by simp only[B6s,B66,decide_eq_false_iff_not,decide_eq_true_eq];refine Classical.byContradiction λd=>g ?_;simp only[not_or,Classical.not_not,B95]at d;exact⟨⟨d.1.1,by omega⟩,by omega⟩
   rw[this];exact .inr rfl) [] (by simp),B5i]
 simp only[if_true];cases l:J1 w none [] w.queues with
 |none=>rfl
 |some qd=>
  simp only[Ji,B7u]
  rw[Af8 (b:=.inr false) w.tasks (λk t=>!(decide (t.pc=2)&&!decide ((k:Int)∈qd))) (λx k i hx=>by
   unfold Ayc Ayb;rw[hx,Asx];simp only[B5i,Bo,Dd];cases decide (x.pc=2)<;>cases decide ((k:Int)∈qd)<;>rfl),B5i]
  cases H8 (λk t=>!(decide (t.pc=2)&&!decide ((k:Int)∈qd))) 0 w.tasks<;>rfl
def Mh (n:Int) (t:DTask):Option Nat:=if t.pc=1 then some (C8 t.c.doc n).toNat else none
def Kx (w:DWorld):Bool:=
 H8 (λs k=>decide (k= -1)||((decide (0<=k/\k<=(w.tasks.length:Int)-1)&&decide ((el w.tasks k.toNat).pc=1))&&decide (C8 (el w.tasks k.toNat).c.doc w.locks.length=(s:Int)))) 0 w.locks&&
 H8 (λk t=>!(decide (t.pc=1)&&!decide (el w.locks (C8 t.c.doc w.locks.length).toNat=(k:Int)))) 0 w.tasks
theorem Ajf {w:DWorld}{j s}:(w.tasks.map (Mh w.locks.length))[j]?=some (some s)↔j<w.tasks.length/\(el w.tasks j).pc=1/\(C8 (el w.tasks j).c.doc w.locks.length).toNat=s:=by
 rw[B8q,B5s];constructor
 ·rintro ⟨t,h1,h2⟩;obtain⟨a,rfl⟩:=B55.1 h1;rw[Gb a];unfold Mh at h2;split at h2
  ·rename_i b;exact⟨a,b,by simpa using h2⟩
  ·cases h2
 ·rintro ⟨a,b,hs⟩;refine⟨el w.tasks j,by rw[Gb a];exact B5p a,?_⟩;unfold Mh;rw[if_pos b,hs]
theorem Br4 w (q:1<=w.locks.length):Kx w=true↔Ii 0 (B6l w.locks.length (-1)) (w.tasks.map (Mh w.locks.length))=some w.locks:=by
 have d:=λs:ByteArray=>Aco (s:=s) (n:=(w.locks.length:Int)) (by omega)
 rw[Brm rfl (λs b=>by
  obtain⟨t,_,f⟩:=B75.1 b;unfold Mh at f;split at f
  ·have:=d t.c.doc;have e:(C8 t.c.doc w.locks.length).toNat=s:=by simpa using f
   omega
  ·cases f)]
 unfold Kx;rw[B5l,Am8,Am8];refine and_congr ⟨λh s b=>?_,λh s b=>?_⟩ ⟨λh j s l=>?_,λh k m=>?_⟩
 ·have a:=h s b;simp only[B6s,B5l,decide_eq_true_eq,B7x]at a;refine a.imp id λ⟨⟨g,i⟩,p⟩=>⟨(el w.locks s).toNat,by omega,Ajf.2 ⟨by omega,i,by omega⟩⟩
 ·simp only[B6s,B5l,decide_eq_true_eq,B7x];refine(h s b).imp id λ⟨j,a,g⟩=>?_;obtain⟨g1,g2,g3⟩:=Ajf.1 g;rw[a,B58];have:=d (el w.tasks j).c.doc;exact⟨⟨by omega,g2⟩,by omega⟩
 ·obtain⟨g1,g2,g3⟩:=Ajf.1 l;have a:=h j g1;rw[decide_eq_true g2,g3]at a;simpa using a
 ·cases o:decide ((el w.tasks k).pc=1)with
  |false=>rfl
  |true=>have:=h k _ (Ajf.2 ⟨m,by simpa using o,rfl⟩);simp[this]
theorem Bwg w (i:Sh w) (m:1<=w.locks.length) (l:w.tasks.length<=1000):Wj w=some (Kx w):=by
 have f:=λs:ByteArray=>Aco (s:=s) (n:=(w.locks.length:Int)) (by omega);have d:∀ {j:Nat},j<w.tasks.length->(el w.tasks j).c.doc.size<=9223372036854775806:=λh=>by have:=i.2.2.2.1.2 _ (Bm h);have a:(el w.tasks _).c.doc.size<=1099511627776:=this.1.2.1;omega
 unfold Wj Kx
 rw[Af8 (b:=.inr ()) w.locks (λs k=>decide (k= -1)||((decide (0<=k/\k<=(w.tasks.length:Int)-1)&&decide ((el w.tasks k.toNat).pc=1))&&decide (C8 (el w.tasks k.toNat).c.doc w.locks.length=(s:Int)))) (λx k g hx=>by
  unfold Ax7 Ax5;rw[hx];by_cases e:x= -1
  ·rw[Ad e,decide_eq_true e];rfl
  ·rw[Ab e,decide_eq_false e,Ao (by omega) (by omega),E5,B5i];by_cases a:0<=x/\x<=(w.tasks.length:Int)-1
   ·rw[decide_eq_true a,Aa ⟨a.1,by omega⟩,Aa ⟨a.1,by omega⟩,Ai1 _ _ (d (by omega))];simp only[B5o,cond_false,B5i,Bo,Ff,B7t,B8v];cases decide ((el w.tasks x.toNat).pc=1)<;>cases decide (C8 (el w.tasks x.toNat).c.doc (w.locks.length:Int)=(k:Int))<;>rfl
   ·rw[decide_eq_false a];rfl),B5i]
 cases H8 (λs k=>decide (k= -1)||((decide (0<=k/\k<=(w.tasks.length:Int)-1)&&decide ((el w.tasks k.toNat).pc=1))&&decide (C8 (el w.tasks k.toNat).c.doc w.locks.length=(s:Int)))) 0 w.locks with
 |false=>rfl
 |true=>
  simp only[cond_true,B7u,B7t]
  rw[Af8 (b:=.inr false) w.tasks (λk t=>!(decide (t.pc=1)&&!decide (el w.locks (C8 t.c.doc w.locks.length).toNat=(k:Int)))) (λx k g hx=>by
   unfold Ax8 Ax6;have a:=f x.c.doc;rw[hx,Ai1 _ _ (hx▸d g),B5i,Aa ⟨a.1,a.2⟩];simp only[B5i,Bo,Dd];cases decide (x.pc=1)<;>cases decide (el w.locks (C8 x.c.doc (w.locks.length:Int)).toNat=(k:Int))<;>rfl),B5i]
  cases H8 (λk t=>!(decide (t.pc=1)&&!decide (el w.locks (C8 t.c.doc w.locks.length).toNat=(k:Int)))) 0 w.tasks<;>rfl
def H1 (w:DWorld):Bool:=
 (((Ik w.h&&decide (1<=w.locks.length/\w.locks.length<=4))&&decide (w.tasks.length<=10))&&decide (0<=w.step/\w.step<=1000000))&&(w.tasks.all Hf&&(Rw w.tasks w.step&&(Kx w&&Ur w)))
theorem Bnn n:Ai Adn (λs=>(s:List Int)) (B6l n (0:Int)).length 0 (B6l n (0:Int))=some (B6l n (-1)):=by
 rw[C6 (F:=Adn) (e:=λ(s:List Int)=>(s:List Int)) (B6l n (0:Int)) (λr k s=>s.length=k+r.length) (λr k s=>s.take k++B6l r.length (-1)) (λs h=>by rw[B7a (by simp at h⊢;omega)];simp) (λx r k s a hx h=>by
  refine .inl ⟨s.set k (-1),?_,by rw[B6v,h];simp only[B5q];omega,?_⟩
  ·unfold Adn Avd;simp only[B5q]at h;rfl
  ·simp only[B5q]at h⊢;rw[B85,B96 (B6i _),B9p (by omega),B8o];simp) (B6l n (0:Int)) (by simp)]
 simp
theorem Apv w (q:Sh w) (A:w.queues.length<=1048576):Sw w=some (H1 w):=by
 unfold Sw H1;rw[A2y w.h q.1];simp only[Ez,B5i,Bo,Ff];by_cases l:((Ik w.h=true/\1<=w.locks.length/\w.locks.length<=4)/\w.tasks.length<=10)/\0<=w.step/\w.step<=1000000
 ·obtain⟨⟨⟨j,b⟩,u⟩,v⟩:=l;rw[j,decide_eq_true (p:=1<=(w.locks.length:Int)/\(w.locks.length:Int)<=4) (by omega),decide_eq_false (p:=(10:Int)<(w.tasks.length:Int)) (by omega),decide_eq_true v,decide_eq_true b,decide_eq_true u];simp only[B5o,Cbv,cond_false,Ca7,B7t];rw[Aa ⟨by omega,by omega⟩,B58,Bnn,B5i]
  rw[C6 (F:=Akz w) (e:=λs=>(B7k s:Sum (List Int) Bool)) w.tasks (λr k s=>s.length=w.locks.length) (λr k s=>Ji (if r.all Hf then Ii k s (r.map (Mh w.locks.length))else none)) (λ_ _=>rfl) (λx r k s z hx t=>by
   unfold Akz Ave;have y:x.c.doc.size<=9223372036854775806:=by have:=q.2.2.2.1.2 _ (Bm z);rw[hx]at this;have b:x.c.doc.size<=1099511627776:=this.1.2.1;omega
   have f:=Aco (s:=x.c.doc) (n:=(w.locks.length:Int)) (by omega);rw[hx];rw[Bpd,B5i,B7s];cases Hf x with
   |false=>exact .inr rfl
   |true=>
    simp only[B5o,cond_false,B7t,B6r];by_cases i:x.pc=1
    ·rw[Ad i,Apu _ _ y,B5i,Aa ⟨f.1,by omega⟩,Aa ⟨f.1,by omega⟩];have e:Mh w.locks.length x=some (C8 x.c.doc w.locks.length).toNat:=by unfold Mh;rw[if_pos i]
     by_cases g:el s (C8 x.c.doc w.locks.length).toNat= -1
     ·exact .inl ⟨s.set (C8 x.c.doc w.locks.length).toNat k,by rw[decide_eq_true g];rfl,by rw[B6v];exact t,by rw[e,Ii,if_pos g]⟩
     ·exact .inr (by rw[decide_eq_false g,e,Ii,if_neg g];simp[Ji])
    ·have e:Mh w.locks.length x=none:=by unfold Mh;rw[if_neg i]
     exact .inl ⟨s,by rw[Ab i],t,by rw[e,Ii]⟩) (B6l w.locks.length (-1)) (by simp),B5i]
  cases o:w.tasks.all Hf with
  |false=>rfl
  |true=>
   simp only[if_true,B7t];have a:=Br4 w b.1;cases d:Ii 0 (B6l w.locks.length (-1)) (w.tasks.map (Mh w.locks.length))with
   |none=>
    have:Kx w=false:=by
     cases ho:Kx w with
     |false=>rfl
     |true=>rw[a.1 ho]at d;cases d
    rw[this];simp[Ji]
   |some H=>
    simp only[Ji,B7u];rw[Agy,Bpx _ _ (by omega),Bps w (by omega) A];simp only[B5i,Bo,Dd]
    have:decide (H=w.locks)=Kx w:=by
     by_cases e:H=w.locks
     ·rw[decide_eq_true e,(a.2 (by rw[d,e]))]
     ·rw[decide_eq_false e];cases ho:Kx w with
      |false=>rfl
      |true=>rw[a.1 ho]at d;exact absurd (B65.inj d).symm e
    rw[this];cases Kx w<;>cases Rw w.tasks w.step<;>simp
 ·have j:(((!Ik w.h||!decide (1<=(w.locks.length:Int)/\(w.locks.length:Int)<=4))||decide ((10:Int)<(w.tasks.length:Int)))||!decide (0<=w.step/\w.step<=1000000))=true:=by simp only[B6s,B66,decide_eq_false_iff_not,decide_eq_true_eq];refine Classical.byContradiction λm=>l ?_;simp only[not_or,Classical.not_not,Bool.not_eq_false]at m;exact⟨⟨⟨m.1.1.1,by omega⟩,by omega⟩,m.2⟩
  have b:(((Ik w.h&&decide (1<=w.locks.length/\w.locks.length<=4))&&decide (w.tasks.length<=10))&&decide (0<=w.step/\w.step<=1000000))=false:=by refine B88.2 λh=>l ?_;simpa only[B5l,decide_eq_true_eq]using h
  rw[j,b];rfl
theorem As6 w (d:Sh w) (e:w.queues.length<=1048576):S8 w=some (H1 w):=by
 unfold S8 H1
 rw[Q8 (b:=.inr ()) w.tasks Hf (λx k f hx=>by
  unfold Axv Axu;rw[hx];rw[Bwv];cases Hf x<;>rfl),B5i,A7b w.h d.1]
 cases w.tasks.all Hf with
 |false=>simp
 |true=>
  simp only[cond_true,B7u,E5,B5i,Bo,Dd];rw[show decide (1<=(w.locks.length:Int)/\(w.locks.length:Int)<=4)=decide (1<=w.locks.length/\w.locks.length<=4)from decide_eq_decide.2 (by omega),show decide ((w.tasks.length:Int)<=10)=decide (w.tasks.length<=10)from decide_eq_decide.2 (by omega)];cases Ik w.h with
  |false=>rfl
  |true=>
   by_cases a:1<=w.locks.length/\w.locks.length<=4
   ·by_cases c:w.tasks.length<=10
    ·rw[decide_eq_true a,decide_eq_true c,Bwt w (by omega),Bwg w d a.1 (by omega),Bwm w (by omega) e];cases decide (0<=w.step/\w.step<=1000000)<;>cases Rw w.tasks w.step<;>cases Kx w<;>simp
    ·rw[decide_eq_false c];simp
   ·rw[decide_eq_false a];simp
theorem Bpl{d} (h:Eb d):Qh d=some d:=by have a:=h.2.2.1.1;have b:=h.2.2.2.2.1;unfold Qh;rw[Pl (by omega),B5i,Ub h.2.2.2.1,B5i,Aa (by omega)];rfl
theorem Bw1{d} (h:Eb d):Qq d=some d:=by have a:=h.2.2.1.1;have b:=h.2.2.2.2.1;unfold Qq;rw[Aa (by omega),Oc h.2.2.2.1,B5i,Aa (by omega)];rfl
theorem Bpn{r} (h:Aji r):Qi r=some r:=by unfold Qi;rw[Ub h.2.2.2];rfl
theorem Bw3{r} (h:Aji r):Ta r=some r:=by unfold Ta;rw[Oc h.2.2.2];rfl
theorem Ano:∀(l:List DDoc) (s:Bool×List DDoc×Int),l.foldl (λs d=>(s.1,s.2.1++[d],s.2.2)) s=(s.1,s.2.1++l,s.2.2)
 |[],s=>by simp
 |x::l,s=>by rw[B6j,Ano l];simp
theorem Anp:∀(l:List DSub) (s:Bool×List DDoc×List DSub×Int),l.foldl (λs d=>(s.1,s.2.1,s.2.2.1++[d],s.2.2.2)) s=(s.1,s.2.1,s.2.2.1++l,s.2.2.2)
 |[],s=>by simp
 |x::l,s=>by rw[B6j,Anp l];simp
theorem Bpm{h} (i:Vf h):Ek h=some h:=by
 have m:=i.2.1.1;have n:=i.2.2.1.1
 have g:=Gv (F:=Y9 h) (e:=λ(b:Bool×List DDoc×Int)=>((b.1,b.2.1,b.2.2):Bool×List DDoc×Int)) h.docs (λr k s=>s.2.1.length<=k) (λs d=>(s.1,s.2.1++[d],s.2.2)) (λx r k s c hx l=>by
  have f:x∈h.docs:=by rw[<-hx];exact Bm c
  unfold Y9 Ak2;rw[hx,Bpl (i.2.1.2 x f),B5i,Aa (by simp only[B5q,B5y];omega)];exact⟨rfl,by simp;omega⟩) (h.shut,[],h.last) (by simp)
 have j:=Gv (F:=Za h) (e:=λ(a:Bool×List DDoc×List DSub×Int)=>((a.1,a.2.1,a.2.2.1,a.2.2.2):Bool×List DDoc×List DSub×Int)) h.subs (λr k s=>s.2.2.1.length<=k) (λs d=>(s.1,s.2.1,s.2.2.1++[d],s.2.2.2)) (λx r k s c hx l=>by
  have f:x∈h.subs:=by rw[<-hx];exact Bm c
  unfold Za Ak3;rw[hx,Bpn (i.2.2.1.2 x f).2.2,B5i,Aa (by omega)];exact⟨rfl,by simp;omega⟩) (h.shut,h.docs,[],h.last) (by simp)
 unfold Ek;rw[g,B5i,Ano];simp only[B62];rw[j,B5i,Anp];rfl
theorem Bw2{h} (i:Vf h):El h=some h:=by
 have m:=i.2.1.1;have n:=i.2.2.1.1
 have g:=Gv (F:=Zs h) (e:=λ(b:Bool×List DDoc×Int)=>((b.1,b.2.1,b.2.2):Bool×List DDoc×Int)) h.docs (λr k s=>s.2.1.length<=k) (λs d=>(s.1,s.2.1++[d],s.2.2)) (λx r k s c hx l=>by
  have f:x∈h.docs:=by rw[<-hx];exact Bm c
  unfold Zs Amt;rw[hx,Bw1 (i.2.1.2 x f),B5i,Aa (by simp only[B5q,B5y];omega)];exact⟨rfl,by simp;omega⟩) (h.shut,[],h.last) (by simp)
 have j:=Gv (F:=Zt h) (e:=λ(a:Bool×List DDoc×List DSub×Int)=>((a.1,a.2.1,a.2.2.1,a.2.2.2):Bool×List DDoc×List DSub×Int)) h.subs (λr k s=>s.2.2.1.length<=k) (λs d=>(s.1,s.2.1,s.2.2.1++[d],s.2.2.2)) (λx r k s c hx l=>by
  have f:x∈h.subs:=by rw[<-hx];exact Bm c
  unfold Zt Amu Aew;rw[hx,Bw3 (i.2.2.1.2 x f).2.2,B5i,B5i,Aa (by simp only[B5q,B5y];omega)];exact⟨rfl,by simp;omega⟩) (h.shut,h.docs,[],h.last) (by simp)
 unfold El;rw[g,B5i,Ano];simp only[B62];rw[j,B5i,Anp];rfl
theorem A25{c} (h:Sg c):Adp c=some c:=by unfold Adp;rw[Apw h.2.2.2.2.2.1,B5i,Pl h.2.2.2.2.2.2.1];rfl
theorem A7q{c} (h:Sg c):Aex c=some c:=by have:=h.2.2.2.2.2.2.1;unfold Aex;rw[As7 h.2.2.2.2.2.1,B5i,Aa (by omega)];rfl
theorem Bpk{a} (h:Ajg a):Ak1 a=some a:=by unfold Ak1;rw[Pl h.2.2.1.1,B5i,Ub h.2.2.2];rfl
theorem Bw0{a} (h:Ajg a):Amv a=some a:=by have:=h.2.2.1.1;unfold Amv;rw[Aa (by omega),Oc h.2.2.2];rfl
theorem Bpo{l} (f:l.length<=549755813888) (h:∀t∈l,Yr t):Ak4 l=some l:=by
 unfold Ak4
 rw[Gv (F:=Avf l) (e:=λ(s:List DTask)=>(s:List DTask)) l (λr k s=>s.length<=k) (λs d=>s++[d]) (λx r k s b hx c=>by
  have a:x∈l:=by rw[<-hx];exact Bm b
  unfold Avf Bah;rw[hx,A25 (h x a).1,B5i,Bpk (h x a).2.2.2.2.2,B5i,Aa (by omega)];exact⟨rfl,by simp;omega⟩) [] (by simp),B5i,Bgl,B62]
theorem Bw4{t} (h:Yr t):Amz t=some t:=by unfold Amz;rw[A7q h.1,B5i,Bw0 h.2.2.2.2.2,B5i]
abbrev WS:Type:=Bool×List DDoc×List DSub×Int×List Int×List DQueue×List DTask×Int
abbrev WS':Type:=Bool×List DDoc×List DSub×Int×List Int×List DQueue×Int
theorem Azh:∀(l:List DQueue) (s:WS),l.foldl (λs d=>(s.1,s.2.1,s.2.2.1,s.2.2.2.1,s.2.2.2.2.1,s.2.2.2.2.2.1++[d],s.2.2.2.2.2.2.1,s.2.2.2.2.2.2.2)) s=(s.1,s.2.1,s.2.2.1,s.2.2.2.1,s.2.2.2.2.1,s.2.2.2.2.2.1++l,s.2.2.2.2.2.2.1,s.2.2.2.2.2.2.2)
 |[],s=>by simp
 |x::l,s=>by rw[B6j,Azh l];simp
theorem Azi:∀(l:List DQueue) (s:WS'),l.foldl (λs d=>(s.1,s.2.1,s.2.2.1,s.2.2.2.1,s.2.2.2.2.1,s.2.2.2.2.2.1++[d],s.2.2.2.2.2.2)) s=(s.1,s.2.1,s.2.2.1,s.2.2.2.1,s.2.2.2.2.1,s.2.2.2.2.2.1++l,s.2.2.2.2.2.2)
 |[],s=>by simp
 |x::l,s=>by rw[B6j,Azi l];simp
theorem Azj:∀(l:List DTask) (s:WS),l.foldl (λs d=>(s.1,s.2.1,s.2.2.1,s.2.2.2.1,s.2.2.2.2.1,s.2.2.2.2.2.1,s.2.2.2.2.2.2.1++[d],s.2.2.2.2.2.2.2)) s=(s.1,s.2.1,s.2.2.1,s.2.2.2.1,s.2.2.2.2.1,s.2.2.2.2.2.1,s.2.2.2.2.2.2.1++l,s.2.2.2.2.2.2.2)
 |[],s=>by simp
 |x::l,s=>by rw[B6j,Azj l];simp
theorem Xn{w} (h:Sh w) (g:w.tasks.length<=549755813888):Ll w=some w:=by
 have c:=h.2.1.1;have j:=h.2.2.1.1;unfold Ll;rw[Bpm h.1,B5i,Pl c,B5i,Bpo g h.2.2.2.1.2,B5i]
 rw[Gv (F:=Avg w) (e:=λ(a:WS)=>((a.1,a.2.1,a.2.2.1,a.2.2.2.1,a.2.2.2.2.1,a.2.2.2.2.2.1,a.2.2.2.2.2.2.1,a.2.2.2.2.2.2.2):WS)) w.queues (λr k s=>s.2.2.2.2.2.1.length<=k) (λs d=>(s.1,s.2.1,s.2.2.1,s.2.2.2.1,s.2.2.2.2.1,s.2.2.2.2.2.1++[d],s.2.2.2.2.2.2.1,s.2.2.2.2.2.2.2)) (λx r k s b hx i=>by
  have f:x∈w.queues:=by rw[<-hx];exact Bm b
  unfold Avg Bai;rw[hx,Pl (h.2.2.1.2 x f).2.1,B5i,Aa (by simp only[B5q,B5y];omega)];exact⟨rfl,by simp;omega⟩) _ (by simp),B5i,Azh]
 rfl
theorem U9{w} (h:Sh w) (l:w.tasks.length<=549755813888):Kg w=some w:=by
 have i:=h.2.1.1;have j:=h.2.2.1.1;unfold Kg;rw[Bw2 h.1,B5i,Aa (by omega)]
 rw[Gv (F:=Ax2 w) (e:=λ(b:WS')=>((b.1,b.2.1,b.2.2.1,b.2.2.2.1,b.2.2.2.2.1,b.2.2.2.2.2.1,b.2.2.2.2.2.2):WS')) w.queues (λr k s=>s.2.2.2.2.2.1.length<=k) (λs d=>(s.1,s.2.1,s.2.2.1,s.2.2.2.1,s.2.2.2.2.1,s.2.2.2.2.2.1++[d],s.2.2.2.2.2.2)) (λx r k s c hx g=>by
  have f:x∈w.queues:=by rw[<-hx];exact Bm c
  have:=(h.2.2.1.2 x f).2.1;unfold Ax2 Bbo;rw[hx,Aa (by omega),Aa (by simp only[B5q,B5y];omega)];exact⟨rfl,by simp;omega⟩) _ (by simp),B5i,Azi]
 rw[Gv (F:=Ax3 w) (e:=λ(a:WS)=>((a.1,a.2.1,a.2.2.1,a.2.2.2.1,a.2.2.2.2.1,a.2.2.2.2.2.1,a.2.2.2.2.2.2.1,a.2.2.2.2.2.2.2):WS)) w.tasks (λr k s=>s.2.2.2.2.2.2.1.length<=k) (λs d=>(s.1,s.2.1,s.2.2.1,s.2.2.2.1,s.2.2.2.2.1,s.2.2.2.2.2.1,s.2.2.2.2.2.2.1++[d],s.2.2.2.2.2.2.2)) (λx r k s c hx g=>by
  have f:x∈w.tasks:=by rw[<-hx];exact Bm c
  unfold Ax3 Bbp;rw[hx,Bw4 (h.2.2.2.1.2 x f),B5i,Aa (by simp only[B5q,B5y];omega)];exact⟨rfl,by simp;omega⟩) _ (by simp),B5i,Azj]
 rfl
theorem Ay2:∀ {a b c:List UInt8},Op.bytesLess a b=true->Op.bytesLess b c=true->Op.bytesLess a c=true
 |[],[],_,h,_=>by simp[Op.bytesLess]at h
 |[],_::_,[],_,h=>by simp[Op.bytesLess]at h
 |[],_::_,_::_,_,_=>by simp[Op.bytesLess]
 |_::_,[],_,h,_=>by simp[Op.bytesLess]at h
 |_::_,_::_,[],_,h=>by simp[Op.bytesLess]at h
 |a::x,b::y,c::z,h,k=>by
  rw[Op.bytesLess]at h k⊢;simp only[B6s,B5l,beq_iff_eq,decide_eq_true_eq]at h k⊢;rcases h with h|⟨rfl,h⟩
  ·rcases k with k|⟨rfl,k⟩
   ·exact .inl (UInt8.lt_trans h k)
   ·exact .inl h
  ·rcases k with k|⟨rfl,k⟩
   ·exact .inl k
   ·exact .inr ⟨rfl,Ay2 h k⟩
theorem Ay0:∀a,Op.bytesLess a a=false
 |[]=>by simp[Op.bytesLess]
 |a::x=>by rw[Op.bytesLess,Ay0 x];simp
theorem Bvy{a b c} (h:Bv a b=true) (k:Bv b c=true):Bv a c=true:=Ay2 h k
theorem A65 a:Bv a a=false:=Ay0 _
theorem Azb{h}:∀ {l:List DSub} {p:Option DSub},Cw (Jg h) p l=true->List.Pairwise (λa b=>a.id<b.id) l/\∀q,p=some q->∀s∈l,q.id<s.id
 |[],_,_=>⟨List.Pairwise.nil,λ_ _ _ h=>by cases h⟩
 |x::l,p,h=>by
  simp only[Cw,B5l]at h;obtain⟨e,f⟩:=h;obtain⟨g,k2⟩:=Azb f;have hx:∀s∈l,x.id<s.id:=k2 x rfl;refine⟨B8h.2 ⟨hx,g⟩,λq c s d=>?_⟩;subst c;have c:q.id<x.id:=by unfold Jg at e;simp only[B5l,Hj,B66,decide_eq_false_iff_not]at e;omega
  rcases B5t.1 d with rfl|d
  ·exact c
  ·have:=hx s d;omega
theorem Boj{h} (k:Ik h=true):HInv False h:=by
 unfold Ik at k;simp only[B5l,decide_eq_true_eq]at k;obtain⟨⟨⟨d,k2⟩,e⟩,f,b⟩:=k;refine⟨d,k2,e,f,(Azb b).1,λs c=>?_⟩;obtain⟨p,a⟩:=Anj b s c;unfold Jg at a;simp only[B5l,decide_eq_true_eq,B6s]at a;obtain⟨⟨⟨⟨g1,_⟩,g2⟩,g3⟩,g4⟩:=a;refine⟨g1,g2,el h.docs (A1 h.docs s.doc).toNat,by rw[Aft,if_pos g3],λho=>?_⟩;rcases g4 with g4|g4
 ·rw[ho]at g4;cases g4
 ·exact⟨g4,λq=>q.elim⟩
structure WV (w:DWorld):Prop where
 h:HInv False w.h
 ln:1<=w.locks.length/\w.locks.length<=4
 nt:w.tasks.length<=10
 st:0<=w.step/\w.step<=1000000
 tk:∀t∈w.tasks,Hf t=true
 ss:Rw w.tasks w.step=true
 lk:Kx w=true
 qs:Ur w=true
theorem WV.of{w} (k:H1 w=true):WV w:=by unfold H1 at k;simp only[B5l,decide_eq_true_eq,B6b]at k;obtain⟨⟨⟨⟨a,k2⟩,b⟩,c⟩,d,e,f,g⟩:=k;exact⟨Boj a,k2,b,c,d,e,f,g⟩
theorem A58{w doc}:∀ {a qd m:List Int},Jc w doc qd a=some m->∀k∈a,(0<=k/\k<=(w.tasks.length:Int)-1)/\(el w.tasks k.toNat).pc=2/\(el w.tasks k.toNat).c.doc=doc
 |[],_,_,_,_,h=>by cases h
 |n::a,qd,m,h,k,b=>by
  rw[Jc]at h;split at h
  ·rename_i c;rcases B5t.1 b with rfl|b
   ·exact⟨c.1.1,c.1.2,c.2.1⟩
   ·exact A58 h k b
  ·cases h
structure QF (w:DWorld) (q:DQueue):Prop where
 ln:1<=q.list.length/\q.list.length<=2
 hd:0<=A1 w.h.docs q.doc
 ks:∀k∈q.list,(0<=k/\k<=(w.tasks.length:Int)-1)/\(el w.tasks k.toNat).pc=2/\(el w.tasks k.toNat).c.doc=q.doc
theorem A6h{w}:∀ {l:List DQueue} {p:Option DQueue} {qd m:List Int},J1 w p qd l=some m->∀q∈l,QF w q
 |[],_,_,_,_,_,h=>by cases h
 |x::l,p,qd,m,h,q,b=>by
  rw[J1]at h;split at h
  ·rename_i c;cases a:Jc w x.doc qd x.list with
   |none=>rw[a]at h;cases h
   |some m'=>
    rw[a]at h;rcases B5t.1 b with rfl|b
    ·exact⟨c.1.2,c.2,A58 a⟩
    ·exact A6h h q b
  ·cases h
theorem A6i{w}:∀ {l:List DQueue} {p:Option DQueue} {qd m:List Int},J1 w p qd l=some m->List.Pairwise (λa b=>Bv a.doc b.doc=true) l/\(∀q,p=some q->∀s∈l,Bv q.doc s.doc=true)
 |[],_,_,_,_=>⟨List.Pairwise.nil,λ_ _ _ h=>by cases h⟩
 |x::l,p,qd,m,h=>by
  rw[J1]at h;split at h
  ·rename_i c;cases f:Jc w x.doc qd x.list with
   |none=>rw[f]at h;cases h
   |some m'=>
    rw[f]at h;obtain⟨g,k2⟩:=A6i (l:=l) (p:=some x) (qd:=m') (m:=m) h;have hx:=k2 x rfl;refine⟨B8h.2 ⟨hx,g⟩,λq d s e=>?_⟩;subst d;have d:Bv q.doc x.doc=true:=by simpa [Hj]using c.1.1
    rcases B5t.1 e with rfl|e
    ·exact d
    ·exact Bvy d (hx s e)
  ·cases h
theorem WV.q{w} (k:WV w):(∀q∈w.queues,QF w q)/\List.Pairwise (λa b=>Bv a.doc b.doc=true) w.queues:=by
 have h:=k.qs;unfold Ur at h;cases c:J1 w none [] w.queues with
 |none=>rw[c]at h;cases h
 |some m=>exact⟨A6h c,(A6i c).1⟩
def Vr:DWorld:=⟨⟨false,[],[],0⟩,[],[],[],0⟩
def a00:DAnswer:=⟨0,0,[],[]⟩
def Q0 (w:DWorld) (c:DCall):DWorld×Bool:=
 if H1 w=true/\Di c=true/\w.tasks.length≠10/\w.step≠1000000 then(⟨w.h,w.locks,w.queues,w.tasks++[⟨c,0,w.step,-1,-1,a00⟩],w.step+1⟩,true)else(Vr,false)
structure WS0 (w:DWorld):Prop where
 sm:Sh w
 nt:w.tasks.length<=10000000
 nq:w.queues.length<=1048576
theorem Bon{w} (k:WS0 w){c} (e:Sg c):Akb w c=some (Q0 w c):=by
 unfold Akb Q0;rw[Apv w k.sm k.nq,B5i];cases f:H1 w with
 |false=>rw[if_neg (λq=>by cases q.1)];rfl
 |true=>
  have d:=WV.of f;rw[B5o,Ag,Agx,B5i,B5i];cases g:Di c with
  |false=>rw[if_neg (λq=>by cases q.2.1)];rfl
  |true=>
   rw[B5o,Ag,B5i];by_cases b:w.tasks.length=10
   ·rw[decide_eq_true (by omega),A9,B5i,A9,if_neg (λq=>q.2.2.1 b)];rfl
   ·rw[decide_eq_false (by omega),Ag,B5i];by_cases a:w.step=1000000
    ·rw[Ad a,if_neg (λq=>q.2.2.2 a)];rfl
    ·have:=d.st;have:=d.nt;rw[Ab a,if_pos ⟨rfl,rfl,b,a⟩,Xn k.sm (by omega),B5i,A25 e,B5i,Aa (by simp only[B5q,B5y];omega),Ao (by omega) (by omega)];rfl
theorem Bv1{w} (k:WS0 w){c} (e:Sg c):Al9 w c=some (Q0 w c):=by
 unfold Al9 Q0;rw[As6 w k.sm k.nq,B5i];cases f:H1 w with
 |false=>rw[if_neg (λq=>by cases q.1)];rfl
 |true=>
  have d:=WV.of f;rw[B5o,Ag,Aix,B5i,B5i];cases g:Di c with
  |false=>rw[if_neg (λq=>by cases q.2.1)];rfl
  |true=>
   rw[B5o,Ag,B5i];by_cases b:w.tasks.length=10
   ·rw[decide_eq_true (by omega),A9,B5i,A9,if_neg (λq=>q.2.2.1 b)];rfl
   ·rw[decide_eq_false (by omega),Ag,B5i];by_cases a:w.step=1000000
    ·rw[Ad a,if_neg (λq=>q.2.2.2 a)];rfl
    ·have:=d.st;have:=d.nt;rw[Ab a,if_pos ⟨rfl,rfl,b,a⟩,U9 k.sm (by omega),B5i,A7q e,B5i,Aa (by simp only[B5q,B5y];omega),Ao (by omega) (by omega)];rfl
theorem K7{T} [Inhabited T] L i (f:T->T):(stE L i f).length=L.length:=by unfold stE;rw[B6v]
theorem Si{T} [Inhabited T] L i (f g:T->T):stE (stE L i f) i g=stE L i λz=>g (f z):=by
 unfold stE;by_cases h:i<L.length
 ·rw[Cbf,show el (L.set i (f (el L i))) i=f (el L i)by unfold el;simp[B6n,h]]
 ·rw[B83 (by rw[B6v];omega),B83 (by omega),B83 (by omega)]
def tP (p:Int) (t:DTask):DTask:=⟨t.c,p,t.inv,t.lin,t.res,t.a⟩
def tA (p:Int) (a:DAnswer) (t:DTask):DTask:=⟨t.c,p,t.inv,t.lin,t.res,a⟩
def tD (s:Int) (t:DTask):DTask:=⟨t.c,4,t.inv,t.lin,s,t.a⟩
def tX (s:Int) (a:DAnswer) (t:DTask):DTask:=⟨t.c,3,t.inv,s,t.res,a⟩
def Hu (w:DWorld) (k:Int):DWorld:=⟨(M4 w.h (el w.tasks k.toNat).c).1,w.locks,w.queues,stE w.tasks k.toNat (tX w.step (M4 w.h (el w.tasks k.toNat).c).2),w.step⟩
theorem Apy{w} (h:HInv False w.h){k} (a:0<=k/\k<(w.tasks.length:Int)):Zc w k=some (Hu w k):=by unfold Zc Hu;rw[Aa a,Boo h,B5i,Si,Si];rfl
theorem Ai4{w} (h:HInv False w.h){k} (a:0<=k/\k<(w.tasks.length:Int)):Wl w k=some (Hu w k):=by unfold Wl Hu;rw[Aa a,Bv2 h,B5i,Aa a,Aa (by rw[K7];exact a),Aa (by rw[K7,K7];exact a),Si,Si];rfl
def Be (l:List DQueue) (n:ByteArray):Int:=Cu (λq=>decide (q.doc=n)) l
theorem As9 w n:Zu w n=some (Be w.queues n):=by
 unfold Zu
 rw[Tw w.queues (λd=>decide (d.doc=n)) () (λk=>(B6e k:Sum Unit Int)) (λx k b hx=>by
  unfold Bbv Bbu;rw[hx];cases decide (x.doc=n)<;>rfl),B5i]
 have a:=Xo (λd:DQueue=>decide (d.doc=n)) w.queues;unfold Be;split
 ·rfl
 ·rw[show Cu (λd:DQueue=>decide (d.doc=n)) w.queues= -1 by omega];rfl
theorem Bpr l n:Al8 l n=some (Be l n,n):=by
 unfold Al8
 rw[Tw l (λd=>decide (d.doc=n)) n (λk=>(B6e (k,n):Sum ByteArray (Int×ByteArray))) (λx k b hx=>by
  unfold Baw Bav Au9;rw[hx,B5i];cases decide (x.doc=n)<;>rfl),B5i]
 have a:=Xo (λd:DQueue=>decide (d.doc=n)) l;unfold Be;split
 ·rfl
 ·rw[show Cu (λd:DQueue=>decide (d.doc=n)) l= -1 by omega];rfl
theorem Pw{l n} (h:0<=Be l n):(Be l n).toNat<l.length/\Be l n<l.length/\(el l (Be l n).toNat).doc=n/\el l (Be l n).toNat∈l:=by have g:=Xq h;exact⟨g.1,Xp _ _,of_decide_eq_true g.2,Bm g.1⟩
def Dq (n:ByteArray) (l:List DQueue):Nat:=(l.takeWhile λs=>Bv s.doc n).length
theorem A4m n y l:Dq n (y::l)=if Bv y.doc n=true then Dq n l+1 else 0:=by unfold Dq;rw[B99];cases h:Bv y.doc n<;>simp
theorem A4n n l:Dq n l<=l.length:=(B9y _).length_le
theorem A3u{f} l n (j:l.length<=1048576)
  (e:∀k:Int,f k=B5h (bif decide (k<(l.length:Int))then(xg (0<=k/\k<(l.length:Int))<|some (Bv ((el l k.toNat).doc) n))else(some false)) λa=>bif a then(xg (Ae (k+1))<|some (Lr.go (k+1)))else(some (Lr.out k))):Bc f 0=some (Dq n l:Int):=by
 have b:=Rj (f:=f) (λs=>0<=s/\s<=l.length) (λs=>((l.length:Int)-s).toNat) (λs=>s+(Dq n (l.drop s.toNat):Nat)) (λs c=>by
  rw[e];by_cases h:s<(l.length:Int)
  ·have d:=W3 (l:=l) (i:=s.toNat) (by omega);rw[Ad h,Aa ⟨c.1,h⟩,B5i,d,A4m];cases g:Bv (el l s.toNat).doc n with
   |true=>rw[A9,if_pos rfl,Ao (by omega) (by omega)];exact .inl ⟨_,rfl,by omega,by omega,by rw[show(s+1).toNat=s.toNat+1 by omega];omega⟩
   |false=>rw[Ag,if_neg (by decide)];exact .inr (by simp)
  ·rw[Ab h,B5i,Ag,show s.toNat=l.length by omega,B72];exact .inr (by simp[Dq])) 0 (by omega)
 rw[b];simp
theorem A6j{n}:∀ {l:List DQueue},List.Pairwise (λa b=>Bv a.doc b.doc=true) l->(0<=Be l n->Be l n=(Dq n l:Int))/\(Be l n<0->Dq n l<l.length->(el l (Dq n l)).doc≠n)
 |[],_=>⟨λh=>absurd h (by simp[Be,Cu]),λ_ h=>absurd h (by simp)⟩
 |y::r,h=>by
  obtain⟨d,f⟩:=B8h.1 h;obtain⟨o,k2⟩:=A6j (n:=n) f;rw[A4m]
  have i:Be (y::r) n=if y.doc=n then 0 else if 0<=Be r n then Be r n+1 else-1:=by
   have m:Be r n=if r.any (λq=>decide (q.doc=n))then(r.findIdx (λq=>decide (q.doc=n)):Int)else-1:=rfl
   unfold Be Cu;rw[Cbo,Cav];by_cases c:y.doc=n
   ·rw[if_pos c,decide_eq_true c];rfl
   ·rw[if_neg c,decide_eq_false c,B8v,cond_false];change _=if 0<=Be r n then Be r n+1 else-1
    rw[m];cases p:r.any (λq=>decide (q.doc=n))with
    |true=>simp
    |false=>simp
  rw[i];by_cases c:y.doc=n
  ·subst c;rw[if_pos rfl,A65,if_neg (by decide)];exact⟨λ_=>rfl,λq=>absurd q (by omega)⟩
  ·rw[if_neg c];by_cases g:Bv y.doc n=true
   ·rw[if_pos g];by_cases e:0<=Be r n
    ·rw[if_pos e];exact⟨λ_=>by rw[o e];omega,λq=>absurd q (by omega)⟩
    ·rw[if_neg e];exact⟨λq=>absurd q (by omega),λ_ k=>k2 (by omega) (by simpa using k)⟩
   ·rw[if_neg g];have e:Be r n<0:=Aqf.2 λx hx=>decide_eq_false λj=>g (j▸d x hx);rw[if_neg (by omega)];exact⟨λq=>absurd q (by omega),λ_ _=>c⟩
def Uh (l:List DQueue) (n:ByteArray) (k:Int):List DQueue:=
 if 0<=Be l n then stE l (Be l n).toNat λz=>⟨z.doc,(el l (Be l n).toNat).list++[k]⟩else l.take (Dq n l)++[⟨n,[k]⟩]++l.drop (Dq n l)
theorem Bw8{w} (f:w.queues.length<=1048576) (e:∀q∈w.queues,q.list.length<=2){k} (b:0<=k/\k<(w.tasks.length:Int)):
  Am0 w k=some ⟨w.h,w.locks,Uh w.queues (el w.tasks k.toNat).c.doc k,stE w.tasks k.toNat (tP 2),w.step⟩:=by
 unfold Am0 Uh;rw[Aa b,Aa b,As9,B5i];simp only;by_cases c:0<=Be w.queues (el w.tasks k.toNat).c.doc
 ·obtain⟨g,a,j,d⟩:=Pw c;have:=e _ d;rw[Ad c,if_pos c,Aa ⟨c,a⟩,Aa (by simp only[B5q,B5y];omega),Aa ⟨c,a⟩,Aa trivial];rfl
 ·have l:=A4n (el w.tasks k.toNat).c.doc w.queues;rw[Ab c,if_neg c,A3u w.queues (el w.tasks k.toNat).c.doc f (λi=>by unfold Bbt Bbs;rfl),B5i];rw[Aa ⟨by omega,by omega⟩,Aa (by omega),Aa (by simp only[B5x,B62];omega),Aa ⟨by omega,by omega⟩,Aa (by simp only[B5x,B50,B5m,B5q,B5y];omega),B58,B6m,B62];rfl
def Abi (w:DWorld) (k:Int) (t:DTask):DWorld:=
 if t.c.kind≠2\/w.h.shut=true\/A1 w.h.docs t.c.doc<0 then Hu w k
 else if 0<=Be w.queues t.c.doc/\(el w.queues (Be w.queues t.c.doc).toNat).list.length=2 then⟨w.h,w.locks,w.queues,stE w.tasks k.toNat (tA 3 ⟨11,0,[],[]⟩),w.step⟩
 else⟨w.h,w.locks,Uh w.queues t.c.doc k,stE w.tasks k.toNat (tP 2),w.step⟩
def N3 (w:DWorld) (k:Int) (t:DTask) (s:Nat):DWorld×Bool:=
 if t.pc=0 then
  (if 1<=t.c.kind/\t.c.kind<=5 then
   (if el w.locks s= -1 then(⟨w.h,w.locks.set s k,w.queues,stE w.tasks k.toNat (tP 1),w.step⟩,true)else(Vr,false))
   else(Hu w k,true))
 else if t.pc=1 then(Abi ⟨w.h,w.locks.set s (-1),w.queues,w.tasks,w.step⟩ k t,true)
 else if t.pc=3 then(⟨w.h,w.locks,w.queues,stE w.tasks k.toNat (tD w.step),w.step⟩,true)
 else(Vr,false)
def Ti (s:Int) (r:DWorld×Bool):DWorld×Bool:=if r.2=true then(⟨r.1.h,r.1.locks,r.1.queues,r.1.tasks,s+1⟩,true)else r
def R5 (w:DWorld) (k:Int):DWorld×Bool:=
 if H1 w=true/\w.step≠1000000/\0<=k/\k<(w.tasks.length:Int)then Ti w.step (N3 w k (el w.tasks k.toNat) (C8 (el w.tasks k.toNat).c.doc w.locks.length).toNat)else(Vr,false)
theorem Bw9{w} (h:HInv False w.h) (A:w.queues.length<=1048576) (z:∀q∈w.queues,q.list.length<=2) (B:1<=w.locks.length){k} (m:0<=k/\k<(w.tasks.length:Int)) (C:(el w.tasks k.toNat).c.doc.size<=8):
  Am1 w k=some (Abi ⟨w.h,w.locks.set (C8 (el w.tasks k.toNat).c.doc w.locks.length).toNat (-1),w.queues,w.tasks,w.step⟩ k (el w.tasks k.toNat)):=by
 have g:=Aco (s:=(el w.tasks k.toNat).c.doc) (n:=(w.locks.length:Int)) (by omega);unfold Am1 Abi;rw[Aa m,Ai1 _ _ (by omega),B5i,Aa g];simp only;by_cases c:(el w.tasks k.toNat).c.kind≠2\/w.h.shut=true\/A1 w.h.docs (el w.tasks k.toNat).c.doc<0
 ·rw[if_pos c]
  have e:(B5h (bif !decide (((el w.tasks k.toNat).c.kind)=2)then(some true)else(some w.h.shut)) λi=>(B5h (bif i then(some true)else(B5h (H6 w.h ((el w.tasks k.toNat).c.doc)) λo=>some (decide (o<0)))) λj=>some j))=some true:=by
   by_cases f:(el w.tasks k.toNat).c.kind=2
   ·rw[decide_eq_true f];cases g:w.h.shut with
    |true=>rfl
    |false=>rw[P1];simp only[B5o,cond_false,B5i];rw[decide_eq_true (by rcases c with c|c|c;exact absurd f c;rw[g]at c;cases c;exact c)]
   ·rw[decide_eq_false f];rfl
  obtain⟨a,x,e⟩:=B7i.1 e;obtain⟨b,y,e⟩:=B7i.1 e;cases e;rw[x,B5i,y,B5i,A9,Ai4 (w:=⟨w.h,w.locks.set (C8 (el w.tasks k.toNat).c.doc w.locks.length).toNat (-1),w.queues,w.tasks,w.step⟩) h m];rfl
 ·rw[if_neg c];have f:(el w.tasks k.toNat).c.kind=2:=Cbc λq=>c (.inl q)
  have p:w.h.shut=false:=by cases g:w.h.shut with
   |true=>exact absurd (.inr (.inl g)) c
   |false=>rfl
  have r:¬A1 w.h.docs (el w.tasks k.toNat).c.doc<0:=λq=>c (.inr (.inr q));rw[decide_eq_true f,p,P1];simp only[B5o,cond_false,B5i];rw[decide_eq_false r,Ag,As9,B5i];simp only;by_cases d:0<=Be w.queues (el w.tasks k.toNat).c.doc/\(el w.queues (Be w.queues (el w.tasks k.toNat).c.doc).toNat).list.length=2
  ·obtain⟨t,l,u,v⟩:=Pw d.1;rw[if_pos d,Ad d.1,Aa ⟨d.1,l⟩,B5i,Ad (by omega),Si];rfl
  ·rw[if_neg d]
   have e:(bif decide ((0:Int)<=Be w.queues (el w.tasks k.toNat).c.doc)then(xg (0<=Be w.queues (el w.tasks k.toNat).c.doc/\Be w.queues (el w.tasks k.toNat).c.doc<(w.queues.length:Int))<|some (decide ((((el w.queues (Be w.queues (el w.tasks k.toNat).c.doc).toNat).list).length:Int)=2)))else(some false))=some false:=by
    by_cases e:0<=Be w.queues (el w.tasks k.toNat).c.doc
    ·obtain⟨t,l,u,v⟩:=Pw e;rw[Ad e,Aa ⟨e,l⟩,decide_eq_false (λq=>d ⟨e,by omega⟩)]
    ·rw[Ab e]
   rw[e,B5i,Ag,Bw8 (w:=⟨w.h,w.locks.set (C8 (el w.tasks k.toNat).c.doc w.locks.length).toNat (-1),w.queues,w.tasks,w.step⟩) A z m];rfl
structure WTk (w:DWorld) (k:Int):Prop where
 hk:0<=k/\k<(w.tasks.length:Int)
 ok:Hf (el w.tasks k.toNat)=true
 z:(el w.tasks k.toNat).c.doc.size<=8
 pc:0<=(el w.tasks k.toNat).pc/\(el w.tasks k.toNat).pc<=4
 s:0<=C8 (el w.tasks k.toNat).c.doc w.locks.length/\C8 (el w.tasks k.toNat).c.doc w.locks.length<(w.locks.length:Int)
theorem WV.wf{w} (v:WV w){k} (c:0<=k/\k<(w.tasks.length:Int)):WTk w k:=by have h:=v.tk _ (Bm (l:=w.tasks) (i:=k.toNat) (by omega));have b:=h;unfold Hf at b;simp only[B5l,decide_eq_true_eq]at b;unfold Vo at b;have:=v.ln;exact⟨c,h,(Ah1 b.1.1).1,by have a:=b.2;rcases a with⟨a,_⟩|⟨a,_⟩<;>omega,Aco (by omega)⟩
theorem WV.ql{w} (v:WV w):∀q∈w.queues,q.list.length<=2:=λq a=>(v.q.1 q a).ln.2
theorem A4q {T:Type} [DecidableEq T]:∀ {l m:List T},l.Nodup->(∀x∈l,x∈m)->l.length<=m.length
 |[],m,_,_=>B6c _
 |a::l,m,h,k=>by obtain⟨b,c⟩:=List.nodup_cons.1 h;have e:=List.length_erase_of_mem (k a (B5n ..));have d:1<=m.length:=List.length_pos_of_mem (k a (B5n ..));have:=A4q (l:=l) (m:=m.erase a) c λx hx=>(List.mem_erase_of_ne (λq:x=a=>b (q▸hx))).2 (k x (B5j _ hx));rw[B5q];omega
theorem WV.q5{w} (v:WV w):w.queues.length<=5:=by
 have h:=A4q (l:=w.queues.map (·.doc)) (m:=w.h.docs.map (·.name)) (Cau.2 (v.q.2.imp λh q=>by rw[q,A65]at h;cases h)) λx hx=>by obtain⟨q,a,rfl⟩:=B75.1 hx;have g:=Xq (v.q.1 q a).hd;exact B75.2 ⟨_,Bm g.1,of_decide_eq_true g.2⟩
 have:=v.h.nd;simp only[B6x]at h;omega
theorem Bwk{w} (x:WS0 w) k:Amj w k=some (R5 w k):=by
 unfold Amj R5;rw[As6 w x.sm x.nq,B5i];cases m:H1 w with
 |false=>rw[if_neg (λq=>by cases q.1)];rfl
 |true=>
  have v:=WV.of m;have i:=x.nt;have j:=v.st;rw[B5o,Ag,B5i];by_cases b:w.step=1000000
  ·rw[Ad b,if_neg (λq=>q.2.1 b)];rfl
  rw[Ab b,Ao (by omega) (by omega),E5,B5i,B5i];by_cases a:0<=k/\k<(w.tasks.length:Int)
  rotate_left
  ·rw[decide_eq_false (λq=>a ⟨q.1,by omega⟩),if_neg (λq=>a q.2.2)];rfl
  have f:=v.wf a;rw[decide_eq_true (show 0<=k/\k<=(w.tasks.length:Int)-1 by omega),B5o,Ag,U9 x.sm (by omega),B5i,Aa a,if_pos ⟨rfl,b,a.1,a.2⟩];unfold N3 Ti;by_cases d:(el w.tasks k.toNat).pc=0
  ·rw[Ad d,if_pos d,Ace,B5i];by_cases o:1<=(el w.tasks k.toNat).c.kind/\(el w.tasks k.toNat).c.kind<=5
   ·rw[decide_eq_true o,B5o,Ag,Ai1 _ _ (by have:=f.z;omega),B5i,Aa f.s,if_pos o];by_cases l:el w.locks (C8 (el w.tasks k.toNat).c.doc w.locks.length).toNat= -1
    ·rw[decide_eq_true l,B5o,Ag,if_pos l,Aa f.s,Ao (by omega) (by omega)];rfl
    ·rw[decide_eq_false l,B6u,A9,if_neg l];rfl
   ·rw[decide_eq_false o,B6u,A9,Ai4 v.h a,B5i,Ao (by omega) (by omega),if_neg o];rfl
  rw[Ab d,if_neg d];by_cases e:(el w.tasks k.toNat).pc=1
  ·rw[Ad e,if_pos e,Bw9 v.h x.nq v.ql v.ln.1 a f.z,B5i,Ao (by omega) (by omega)];rfl
  rw[Ab e,if_neg e];by_cases g:(el w.tasks k.toNat).pc=3
  ·rw[Ad g,if_pos g,Ao (by omega) (by omega),Si];rfl
  ·rw[Ab g,if_neg g];rfl
theorem Bpi{w} (v:WV w) k (m:w.tasks.length<=10000000):Ak0 w k=some (decide (w.step≠1000000/\0<=k/\k<(w.tasks.length:Int)/\(N3 w k (el w.tasks k.toNat) (C8 (el w.tasks k.toNat).c.doc w.locks.length).toNat).2=true)):=by
 unfold Ak0;by_cases d:w.step=1000000
 ·rw[Ad d,B5i,A9,decide_eq_false (λq=>q.1 d)]
 rw[Ab d,Ao (by omega) (by omega),Ez,B5i,B5i];by_cases a:0<=k/\k<(w.tasks.length:Int)
 rotate_left
 ·rw[decide_eq_false (λq=>a ⟨q.1,by omega⟩),B6u,A9,decide_eq_false (λq=>a ⟨q.2.1,q.2.2.1⟩)]
 have f:=v.wf a;have n:=f.pc;rw[decide_eq_true (show 0<=k/\k<=(w.tasks.length:Int)-1 by omega),B5o,Ag,Aa a];have g:∀ {r:DWorld×Bool},r.2=true->decide (w.step≠1000000/\0<=k/\k<(w.tasks.length:Int)/\r.2=true)=true:=λe=>decide_eq_true ⟨d,a.1,a.2,e⟩;have j:decide (w.step≠1000000/\0<=k/\k<(w.tasks.length:Int)/\(Vr,false).2=true)=false:=decide_eq_false λq=>by cases q.2.2.2
 unfold N3;by_cases b:(el w.tasks k.toNat).pc=0
 ·rw[Ad b,if_pos b,Xm,B5i,B5i];by_cases o:1<=(el w.tasks k.toNat).c.kind/\(el w.tasks k.toNat).c.kind<=5
  ·rw[decide_eq_true o,A9,Apu _ _ (by have:=f.z;omega),B5i,Aa f.s,if_pos o];by_cases l:el w.locks (C8 (el w.tasks k.toNat).c.doc w.locks.length).toNat= -1
   ·rw[decide_eq_true l,if_pos l,g rfl]
   ·rw[decide_eq_false l,if_neg l,j]
  ·rw[decide_eq_false o,Ag,if_neg o,b,g rfl];rfl
 ·rw[Ab b,if_neg b,B5i,Ag];by_cases h:(el w.tasks k.toNat).pc=1
  ·rw[if_pos h,h,g rfl];rfl
  rw[if_neg h];by_cases i:(el w.tasks k.toNat).pc=3
  ·rw[if_pos i,i,g rfl];rfl
  ·rw[if_neg i,j];rcases(show(el w.tasks k.toNat).pc=2\/(el w.tasks k.toNat).pc=4 by omega)with e|e<;>rw[e]<;>rfl
theorem Bo4{w} (x:WS0 w) k:Ako w k=some (R5 w k):=by
 unfold Ako R5;rw[Apv w x.sm x.nq,B5i];cases G:H1 w with
 |false=>rw[if_neg (λq=>by cases q.1)];rfl
 |true=>
  have v:=WV.of G;have D:=x.nt;have T:=v.st;rw[B5o,Ag,Bpi v k D,B5i,B5i];by_cases g:w.step≠1000000/\0<=k/\k<(w.tasks.length:Int)/\(N3 w k (el w.tasks k.toNat) (C8 (el w.tasks k.toNat).c.doc w.locks.length).toNat).2=true
  rotate_left
  ·rw[decide_eq_false g,B6u,A9];by_cases c:H1 w=true/\w.step≠1000000/\0<=k/\k<(w.tasks.length:Int)
   ·have e:(N3 w k (el w.tasks k.toNat) (C8 (el w.tasks k.toNat).c.doc w.locks.length).toNat)=(Vr,false):=by
     have e:¬(N3 w k (el w.tasks k.toNat) (C8 (el w.tasks k.toNat).c.doc w.locks.length).toNat).2=true:=λq=>g ⟨c.2.1,c.2.2.1,c.2.2.2,q⟩;unfold N3 at e⊢;split
     ·rename_i a;rw[if_pos a]at e;split
      ·rename_i b;rw[if_pos b]at e;split
       ·rename_i c;rw[if_pos c]at e;exact absurd rfl e
       ·rfl
      ·rename_i b;rw[if_neg b]at e;exact absurd rfl e
     ·rename_i a;rw[if_neg a]at e;split
      ·rename_i b;rw[if_pos b]at e;exact absurd rfl e
      ·rename_i b;rw[if_neg b]at e;split
       ·rename_i c;rw[if_pos c]at e;exact absurd rfl e
       ·rfl
    rw[G]at c;rw[if_pos c,e];rfl
   ·rw[G]at c;rw[if_neg c];rfl
  obtain⟨K,m,p,g⟩:=g;have u:=And.intro m p;have f:=v.wf u;have U:=f.pc;rw[decide_eq_true ⟨K,m,p,g⟩,B5o,Ag,Xn x.sm (by omega),B5i,Aa u,if_pos ⟨rfl,K,m,p⟩,Apu _ _ (by have:=f.z;omega),B5i];unfold N3 at g⊢;unfold Ti;by_cases j:(el w.tasks k.toNat).pc=0
  ·rw[if_pos j]at g;rw[Ad j,if_pos j,Xm,B5i,B5i];by_cases o:1<=(el w.tasks k.toNat).c.kind/\(el w.tasks k.toNat).c.kind<=5
   ·rw[if_pos o]at g;rw[decide_eq_true o,A9,Aa f.s,if_pos o,Ao (by omega) (by omega)];by_cases l:el w.locks (C8 (el w.tasks k.toNat).c.doc w.locks.length).toNat= -1
    ·rw[if_pos l];rfl
    ·rw[if_neg l]at g;cases g
   ·rw[decide_eq_false o,Ag,Ad j,Apy v.h u,B5i,if_neg o,Ao (by unfold Hu;simp only;omega) (by unfold Hu;simp only;omega)];rfl
  rw[if_neg j]at g;rw[Ab j,if_neg j,B5i,Ag,Ab j];by_cases A:(el w.tasks k.toNat).pc=1
  rotate_left
  ·rw[if_neg A]at g;rw[Ab A,if_neg A];by_cases M:(el w.tasks k.toNat).pc=3
   ·rw[if_pos M,Ao (by omega) (by omega),Si];rfl
   ·rw[if_neg M]at g;cases g
  rw[Ad A,if_pos A,Aa f.s];have R:=x.nq;have S:=v.q5;have N:=A6j (n:=(el w.tasks k.toNat).c.doc) v.q.2;unfold Abi;simp only[];by_cases c:(el w.tasks k.toNat).c.kind≠2\/w.h.shut=true\/A1 w.h.docs (el w.tasks k.toNat).c.doc<0
  ·rw[if_pos c]
   have e:(B5h (bif !decide (((el w.tasks k.toNat).c.kind)=2)then(some true)else(some w.h.shut)) λB=>(B5h (bif B then(some true)else(B5h (Jk w.h ((el w.tasks k.toNat).c.doc)) λH=>some (decide (H<0)))) λC=>some C))=some true:=by
    by_cases r:(el w.tasks k.toNat).c.kind=2
    ·rw[decide_eq_true r];cases F:w.h.shut with
     |true=>rfl
     |false=>rw[Pk];simp only[B5o,cond_false,B5i];rw[decide_eq_true (by rcases c with c|c|c;exact absurd r c;rw[F]at c;cases c;exact c)]
    ·rw[decide_eq_false r];rfl
   obtain⟨a,Q,e⟩:=B7i.1 e;obtain⟨b,t,e⟩:=B7i.1 e;cases e;rw[Q,B5i,t,B5i,A9,Apy (w:=⟨w.h,w.locks.set (C8 (el w.tasks k.toNat).c.doc w.locks.length).toNat (-1),w.queues,w.tasks,w.step⟩) v.h u,B5i,Ao (by unfold Hu;simp only;omega) (by unfold Hu;simp only;omega)];rfl
  rw[if_neg c];have r:(el w.tasks k.toNat).c.kind=2:=Cbc λq=>c (.inl q)
  have O:w.h.shut=false:=by cases F:w.h.shut with
   |true=>exact absurd (.inr (.inl F)) c
   |false=>rfl
  have P:¬A1 w.h.docs (el w.tasks k.toNat).c.doc<0:=λq=>c (.inr (.inr q));rw[decide_eq_true r,O,Pk];simp only[B5o,cond_false,B5i];rw[decide_eq_false P,Ag,Aa u,A3u w.queues (el w.tasks k.toNat).c.doc R (λi=>by unfold A98 A97;rfl),B5i];have W:=A4n (el w.tasks k.toNat).c.doc w.queues;unfold Uh;by_cases d:0<=Be w.queues (el w.tasks k.toNat).c.doc
  ·obtain⟨g1,g2,g3,g4⟩:=Pw d;have e:=N.1 d;have V:=v.ql _ g4;rw[if_pos d,<-e,Ab (by omega),Aa ⟨d,g2⟩,g3,decide_eq_true rfl,B5o,B5i,Ag,Aa ⟨d,g2⟩];by_cases L:(el w.queues (Be w.queues (el w.tasks k.toNat).c.doc).toNat).list.length=2
   ·rw[Ad (by omega),Ao (by omega) (by omega),if_pos trivial,if_pos ⟨d,L⟩,Si];rfl
   ·rw[Ab (by omega),Aa ⟨d,g2⟩,Aa (by simp only[B5q,B5y];omega),Aa ⟨d,g2⟩,Aa trivial,Ao (by omega) (by omega),if_pos trivial,if_neg (λq:0<=Be w.queues (el w.tasks k.toNat).c.doc/\(el w.queues (Be w.queues (el w.tasks k.toNat).c.doc).toNat).list.length=2=>L q.2)];rfl
  ·rw[if_neg d,if_neg (λq:0<=Be w.queues (el w.tasks k.toNat).c.doc/\(el w.queues (Be w.queues (el w.tasks k.toNat).c.doc).toNat).list.length=2=>d q.1)]
   have e:(bif decide (((Dq (el w.tasks k.toNat).c.doc w.queues:Nat):Int)=(w.queues.length:Int))then(some true)else(xg (0<=((Dq (el w.tasks k.toNat).c.doc w.queues:Nat):Int)/\((Dq (el w.tasks k.toNat).c.doc w.queues:Nat):Int)<(w.queues.length:Int))<|some (!decide ((el w.queues ((Dq (el w.tasks k.toNat).c.doc w.queues:Nat):Int).toNat).doc=(el w.tasks k.toNat).c.doc))))=some true:=by
    by_cases e:((Dq (el w.tasks k.toNat).c.doc w.queues:Nat):Int)=(w.queues.length:Int)
    ·rw[Ad e]
    ·rw[Ab e,Aa ⟨by omega,by omega⟩,B58,decide_eq_false (N.2 (by omega) (by omega))];rfl
   rw[e,B5i,A9];unfold Vt Mp;simp only;rw[Aa ⟨by omega,by omega⟩,Aa (by omega),B5i,B58];have y:(w.queues.take (Dq (el w.tasks k.toNat).c.doc w.queues)).length=Dq (el w.tasks k.toNat).c.doc w.queues:=by rw[B5x];omega
   have I:el (w.queues.take (Dq (el w.tasks k.toNat).c.doc w.queues)++[(⟨(el w.tasks k.toNat).c.doc,[]⟩:DQueue)]++w.queues.drop (Dq (el w.tasks k.toNat).c.doc w.queues)) (Dq (el w.tasks k.toNat).c.doc w.queues)=⟨(el w.tasks k.toNat).c.doc,[]⟩:=by show List.getD _ _ _=_;rw[B6n,B5r,B64 (by omega),y];simp
   have e2:∀f:DQueue->DQueue,stE (w.queues.take (Dq (el w.tasks k.toNat).c.doc w.queues)++[(⟨(el w.tasks k.toNat).c.doc,[]⟩:DQueue)]++w.queues.drop (Dq (el w.tasks k.toNat).c.doc w.queues)) (Dq (el w.tasks k.toNat).c.doc w.queues) f=w.queues.take (Dq (el w.tasks k.toNat).c.doc w.queues)++[f ⟨(el w.tasks k.toNat).c.doc,[]⟩]++w.queues.drop (Dq (el w.tasks k.toNat).c.doc w.queues):=by intro f;unfold stE;rw[I,B5r,B7y _ _ (by omega),y];simp
   have t:(0:Int)<=(Dq (el w.tasks k.toNat).c.doc w.queues:Nat)/\((Dq (el w.tasks k.toNat).c.doc w.queues:Nat):Int)<((w.queues.take (Dq (el w.tasks k.toNat).c.doc w.queues)++[(⟨(el w.tasks k.toNat).c.doc,[]⟩:DQueue)]++w.queues.drop (Dq (el w.tasks k.toNat).c.doc w.queues)).length:Int):=by simp only[B5m,B5x,B50,B5q,B5y];omega
   rw[Aa t,I,Ab (by simp),Aa t,Aa (by simp),Aa t,Aa trivial,Ao (by omega) (by omega),e2];rfl
end
end Go.Proofs.YtcdecpdpmpfbnaaGreatDoor
