/- Part 6 of the proof: lemmas. No condition. -/
import Derived.Lib.ReplaceLaws
import Derived.Lib.SplitLaws
import Derived.Lib.AtoiAllCases
import Derived.ChangeArms
import Derived.ProofKit
import Derived.Test.YtbbefmccoomfhaaGreatDoorProg
import Derived.Test.YtbbefmccoomfhaaGreatDoorZ5
open Option renaming some->Aa,none->Ab,bind->Ac,bind_some->Ad,map_eq_some_iff->Di,some->D1,bind_eq_some_iff->Tu
open List renaming mem_cons_of_mem->Bf,mem_cons_self->Bm,mem_cons->Bq,length_append->Bt,length_cons->B5,append_assoc->Ci,perm_middle->Ct,length_nil->C0,length_take->Dh,length_drop->D0,mem_append->Ei,mem_singleton->Eo,replicate->Ey,map_cons->Fa,all_eq_true->Ff,cons_append->Fi,length_set->Ft,foldl_cons->Fx,flatMap_cons->F4,mem_append_right->F5,perm_append_comm->Gg,length_map->Gz,length_singleton->G0,take_length->Hd,append_nil->Hu,mem_append_left->Hv,flatMap_append->H2,getElem?_eq_some_iff->H3,nil_append->Iu,eq_nil_of_length_eq_zero->I4,mem_of_mem_drop->Kj,take_append_drop->Kk,mem_map->K7,drop_drop->Mq,drop_zero->Nh,getD_eq_getElem?_getD->Ni,getElem?_append_left->Nj,pairwise_cons->N7,getElem?_eq_getElem->O9,map_congr_left->Ru,take_of_length_le->Rv,foldl_nil->Tq,getElem?_append_right->Tr,range->Ts,drop_length->Vy,foldl_append->V0,map_map->V2,mem_of_mem_take->V3,mem_or_eq_of_mem_set->V4,set_cons_zero->V5,mem_flatMap->Ye,drop_succ_cons->Abg,getElem?_eq_none->Abh,map_append->Abj,pairwise_map->Abl,set_append_right->Abn,drop_eq_getElem_cons->Ae1,length_pos_iff->Ae2,not_mem_nil->Ae3,pairwise_append->Ae4,take_add_one->Ae7,drop->Ako,map_id->Akp,nodup_cons->Akq,take_append->Aks,drop_eq_nil_of_le->As8,flatten_cons->As9,getElem_map->Atb,isPrefixOf->Atc,length->Atd,mem_range->Atf,takeWhile_prefix->Ati,drop_sublist->A52,filter_append->A54,flatten_nil->A56,getElem_mem->A58,length_range->A59,mapM_cons->A6a,map_nil->A6b,nodup_append->A6d,nodup_nil->A6e,pairwise_iff_getElem->A6f,pairwise_singleton->A6g,set_eq_take_append_cons_drop->A6h,takeWhile_append_dropWhile->A6j,take_set_of_le->A6m,take_succ_cons->A6n,take_zero->A6o,replicate_succ'->Bq1,drop_set_of_lt->Bq3,getElem_append_left->Bq7,length_filter_le->Bq8,length_replicate->Bq9,singleton_append->Brb
open Int renaming toNat_natCast->Gb,eq_ofNat_of_zero_le->Abf,toNat_of_nonneg->A5w
open Nat renaming zero_le->Dk,le_refl->Ef,mul_le_mul_right->E4,add_mul->Gk,lt_of_lt_of_le->K8,zero_mul->K9,zero_add->L3,le_trans->V6,add_comm->Yf,one_mul->Yg,lt_irrefl->Aku,mul_le_mul_left->Akw,mul_one->Akx,mul_succ->A6s,strongRecOn->A6t,sub_self->A6u
open Bool renaming not_true->A6,and_eq_true->A9,not_false->Fs,true_and->K1,eq_false_iff->Abe,not_eq_true->Asx
open ByteArray renaming empty->Cb,size_append->Hl,append_assoc->Bq0
open UInt8 renaming ofNat->Tx,toNat_inj->Tz,toNat_ofNat'->Atp
open Array renaming toArray_toList->Asv
open Sum renaming inl->Ej,elim_inl->Jg,elim_inr->Ato
open Go.Lib renaming join->Hc,decDigits->Ki,index->K3,join_cons->K4,splitB->Qj,joinTail->Rt,count_hit->Aez,lens->Ae0,replaceAll->Akm,count_miss->As3,splitK->As4,countB_le->A5x,replaceK_hit->A5y
open Decidable renaming byContradiction->As0
namespace Go.Proofs.YtbbefmccoomfhaaGreatDoor
set_option linter.unusedVariables false
set_option linter.unusedSimpArgs false
open Tryz
noncomputable section
structure WTk (w:Au) (k:Int):Prop where
 hk:0<=k/\k<(w.Ag.length:Int)
 ok:Ip (el w.Ag k.toNat)=true
 z:(el w.Ag k.toNat).c.Ah.size<=8
 pc:0<=(el w.Ag k.toNat).pc/\(el w.Ag k.toNat).pc<=4
 s:0<=Ek (el w.Ag k.toNat).c.Ah w.Az.length/\Ek (el w.Ag k.toNat).c.Ah w.Az.length<(w.Az.length:Int)
theorem WV.wf{w} (v:WV w){k} (c:0<=k/\k<(w.Ag.length:Int)):WTk w k:=by have h:=v.tk _ (Cj (l:=w.Ag) (i:=k.toNat) (by omega));have b:=h;unfold Ip at b;simp only[A9,decide_eq_true_eq]at b;unfold P5 at b;have:=v.ln;exact⟨c,h,(Anx b.1.1).1,by have a:=b.2;rcases a with⟨a,_⟩|⟨a,_⟩<;>omega,Adu (by omega)⟩
theorem WV.ql{w} (v:WV w):∀q∈w.An,q.list.length<=2:=λq a=>(v.q.1 q a).ln.2
theorem Axz {T:Type} [DecidableEq T]:∀ {l m:List T},l.Nodup->(∀x∈l,x∈m)->l.length<=m.length
 |[],m,_,_=>Dk _
 |a::l,m,h,k=>by obtain⟨b,c⟩:=Akq.1 h;have e:=List.length_erase_of_mem (k a (Bm ..));have d:1<=m.length:=List.length_pos_of_mem (k a (Bm ..));have:=Axz (l:=l) (m:=m.erase a) c λx hx=>(List.mem_erase_of_ne (λq:x=a=>b (q▸hx))).2 (k x (Bf _ hx));rw[B5];omega
theorem WV.q5{w} (v:WV w):w.An.length<=5:=by
 have h:=Axz (l:=w.An.map (·.Ah)) (m:=w.h.Am.map (·.name)) (Abl.2 (v.q.2.imp λh q=>by rw[q,Bfn]at h;cases h)) λx hx=>by obtain⟨q,a,rfl⟩:=K7.1 hx;have g:=Ws (v.q.1 q a).hd;exact K7.2 ⟨_,Cj g.1,of_decide_eq_true g.2⟩
 have:=v.h.nd;simp only[Gz]at h;omega
theorem Bga{w} (x:N9 w) k:L1 w k=Aa (Lq w k):=by
 unfold L1 Lq;rw[Ao5 w x.sm x.nq,Ad];cases m:Hq w with
 |false=>rw[if_neg (λq=>by cases q.1)];rfl
 |true=>
  have v:=WV.of m;have i:=x.nt;have j:=v.st;rw[A6,A3,Ad];by_cases b:w.step=1000000
  ·rw[Av b,if_neg (λq=>q.2.1 b)];rfl
  rw[Ap b,Bh (by omega) (by omega),Hs,Ad,Ad];by_cases a:0<=k/\k<(w.Ag.length:Int)
  rotate_left
  ·rw[decide_eq_false (λq=>a ⟨q.1,by omega⟩),if_neg (λq=>a q.2.2)];rfl
  have f:=v.wf a;rw[decide_eq_true (show 0<=k/\k<=(w.Ag.length:Int)-1 by omega),A6,A3,Adn x.sm (by omega),Ad,Aj a,if_pos ⟨rfl,b,a.1,a.2⟩];unfold Pv Jw;by_cases d:(el w.Ag k.toNat).pc=0
  ·rw[Av d,if_pos d,Ahl,Ad];by_cases o:1<=(el w.Ag k.toNat).c.kind/\(el w.Ag k.toNat).c.kind<=5
   ·rw[decide_eq_true o,A6,A3,Ao1 _ _ (by have:=f.z;omega),Ad,Aj f.s,if_pos o];by_cases l:el w.Az (Ek (el w.Ag k.toNat).c.Ah w.Az.length).toNat= -1
    ·rw[decide_eq_true l,A6,A3,if_pos l,Aj f.s,Bh (by omega) (by omega)];rfl
    ·rw[decide_eq_false l,Fs,Cg,if_neg l];rfl
   ·rw[decide_eq_false o,Fs,Cg,Ao6 v.h a,Ad,Bh (by omega) (by omega),if_neg o];rfl
  rw[Ap d,if_neg d];by_cases e:(el w.Ag k.toNat).pc=1
  ·rw[Av e,if_pos e,B7e v.h x.nq v.ql v.ln.1 a f.z,Ad,Bh (by omega) (by omega)];rfl
  rw[Ap e,if_neg e];by_cases g:(el w.Ag k.toNat).pc=3
  ·rw[Av g,if_pos g,Bh (by omega) (by omega),Xm];rfl
  ·rw[Ap g,if_neg g];rfl
theorem Bzc{w} (v:WV w) k (m:w.Ag.length<=10000000):Arc w k=Aa (decide (w.step≠1000000/\0<=k/\k<(w.Ag.length:Int)/\(Pv w k (el w.Ag k.toNat) (Ek (el w.Ag k.toNat).c.Ah w.Az.length).toNat).2=true)):=by
 unfold Arc;by_cases d:w.step=1000000
 ·rw[Av d,Ad,Cg,decide_eq_false (λq=>q.1 d)]
 rw[Ap d,Bh (by omega) (by omega),G5,Ad,Ad];by_cases a:0<=k/\k<(w.Ag.length:Int)
 rotate_left
 ·rw[decide_eq_false (λq=>a ⟨q.1,by omega⟩),Fs,Cg,decide_eq_false (λq=>a ⟨q.2.1,q.2.2.1⟩)]
 have f:=v.wf a;have n:=f.pc;rw[decide_eq_true (show 0<=k/\k<=(w.Ag.length:Int)-1 by omega),A6,A3,Aj a];have g:∀ {r:Au×Bool},r.2=true->decide (w.step≠1000000/\0<=k/\k<(w.Ag.length:Int)/\r.2=true)=true:=λe=>decide_eq_true ⟨d,a.1,a.2,e⟩;have j:decide (w.step≠1000000/\0<=k/\k<(w.Ag.length:Int)/\(w00,false).2=true)=false:=decide_eq_false λq=>by cases q.2.2.2
 unfold Pv;by_cases b:(el w.Ag k.toNat).pc=0
 ·rw[Av b,if_pos b,Acm,Ad,Ad];by_cases o:1<=(el w.Ag k.toNat).c.kind/\(el w.Ag k.toNat).c.kind<=5
  ·rw[decide_eq_true o,Cg,Awn _ _ (by have:=f.z;omega),Ad,Aj f.s,if_pos o];by_cases l:el w.Az (Ek (el w.Ag k.toNat).c.Ah w.Az.length).toNat= -1
   ·rw[decide_eq_true l,if_pos l,g rfl]
   ·rw[decide_eq_false l,if_neg l,j]
  ·rw[decide_eq_false o,A3,if_neg o,b,g rfl];rfl
 ·rw[Ap b,if_neg b,Ad,A3];by_cases h:(el w.Ag k.toNat).pc=1
  ·rw[if_pos h,h,g rfl];rfl
  rw[if_neg h];by_cases i:(el w.Ag k.toNat).pc=3
  ·rw[if_pos i,i,g rfl];rfl
  ·rw[if_neg i,j];rcases(show(el w.Ag k.toNat).pc=2\/(el w.Ag k.toNat).pc=4 by omega)with e|e<;>rw[e]<;>rfl
theorem Byw{w} (x:N9 w) k:Aqx w k=Aa (Lq w k):=by
 unfold Aqx Lq;rw[Acn w x.sm x.nq,Ad];cases G:Hq w with
 |false=>rw[if_neg (λq=>by cases q.1)];rfl
 |true=>
  have v:=WV.of G;have D:=x.nt;have T:=v.st;rw[A6,A3,Bzc v k D,Ad,Ad];by_cases g:w.step≠1000000/\0<=k/\k<(w.Ag.length:Int)/\(Pv w k (el w.Ag k.toNat) (Ek (el w.Ag k.toNat).c.Ah w.Az.length).toNat).2=true
  rotate_left
  ·rw[decide_eq_false g,Fs,Cg];by_cases c:Hq w=true/\w.step≠1000000/\0<=k/\k<(w.Ag.length:Int)
   ·have e:(Pv w k (el w.Ag k.toNat) (Ek (el w.Ag k.toNat).c.Ah w.Az.length).toNat)=(w00,false):=by
     have e:¬(Pv w k (el w.Ag k.toNat) (Ek (el w.Ag k.toNat).c.Ah w.Az.length).toNat).2=true:=λq=>g ⟨c.2.1,c.2.2.1,c.2.2.2,q⟩;unfold Pv at e⊢;split
     ·rename_i a;rw[if_pos a]at e;split
      ·rename_i b;rw[if_pos b]at e;split
       ·rename_i c;rw[if_pos c]at e;exact absurd rfl e
       ·rfl
      ·rename_i b;rw[if_neg b]at e;exact absurd rfl e
     ·rename_i a;rw[if_neg a]at e;split
      ·rename_i b;rw[if_pos b]at e;exact absurd rfl e
      ·rename_i b;rw[if_neg b]at e;split
       ·rename_i c;rw[if_pos c]at e;exact absurd rfl e
       ·rfl
    rw[G]at c;rw[if_pos c,e];rfl
   ·rw[G]at c;rw[if_neg c];rfl
  obtain⟨K,m,p,g⟩:=g;have u:=And.intro m p;have f:=v.wf u;have U:=f.pc;rw[decide_eq_true ⟨K,m,p,g⟩,A6,A3,Aco x.sm (by omega),Ad,Aj u,if_pos ⟨rfl,K,m,p⟩,Awn _ _ (by have:=f.z;omega),Ad];unfold Pv at g⊢;unfold Jw;by_cases j:(el w.Ag k.toNat).pc=0
  ·rw[if_pos j]at g;rw[Av j,if_pos j,Acm,Ad,Ad];by_cases o:1<=(el w.Ag k.toNat).c.kind/\(el w.Ag k.toNat).c.kind<=5
   ·rw[if_pos o]at g;rw[decide_eq_true o,Cg,Aj f.s,if_pos o,Bh (by omega) (by omega)];by_cases l:el w.Az (Ek (el w.Ag k.toNat).c.Ah w.Az.length).toNat= -1
    ·rw[if_pos l];rfl
    ·rw[if_neg l]at g;cases g
   ·rw[decide_eq_false o,A3,Av j,Awq v.h u,Ad,if_neg o,Bh (by unfold Jm;simp only;omega) (by unfold Jm;simp only;omega)];rfl
  rw[if_neg j]at g;rw[Ap j,if_neg j,Ad,A3,Ap j];by_cases A:(el w.Ag k.toNat).pc=1
  rotate_left
  ·rw[if_neg A]at g;rw[Ap A,if_neg A];by_cases M:(el w.Ag k.toNat).pc=3
   ·rw[if_pos M,Bh (by omega) (by omega),Xm];rfl
   ·rw[if_neg M]at g;cases g
  rw[Av A,if_pos A,Aj f.s];have R:=x.nq;have S:=v.q5;have N:=Bev (n:=(el w.Ag k.toNat).c.Ah) v.q.2;unfold Zk;simp only[];by_cases c:(el w.Ag k.toNat).c.kind≠2\/w.h.shut=true\/B9 w.h.Am (el w.Ag k.toNat).c.Ah<0
  ·rw[if_pos c]
   have e:(Ac (bif !decide (((el w.Ag k.toNat).c.kind)=2)then(Aa true)else(Aa w.h.shut)) λB=>(Ac (bif B then(Aa true)else(Ac (N6 w.h ((el w.Ag k.toNat).c.Ah)) λH=>Aa (decide (H<0)))) λC=>Aa C))=Aa true:=by
    by_cases r:(el w.Ag k.toNat).c.kind=2
    ·rw[decide_eq_true r];cases F:w.h.shut with
     |true=>rfl
     |false=>rw[Ul];simp only[A6,cond_false,Ad];rw[decide_eq_true (by rcases c with c|c|c;exact absurd r c;rw[F]at c;cases c;exact c)]
    ·rw[decide_eq_false r];rfl
   obtain⟨a,Q,e⟩:=Tu.1 e;obtain⟨b,t,e⟩:=Tu.1 e;cases e;rw[Q,Ad,t,Ad,Cg,Awq (w:=⟨w.h,w.Az.set (Ek (el w.Ag k.toNat).c.Ah w.Az.length).toNat (-1),w.An,w.Ag,w.step⟩) v.h u,Ad,Bh (by unfold Jm;simp only;omega) (by unfold Jm;simp only;omega)];rfl
  rw[if_neg c];have r:(el w.Ag k.toNat).c.kind=2:=As0 λq=>c (.inl q)
  have O:w.h.shut=false:=by cases F:w.h.shut with
   |true=>exact absurd (.inr (.inl F)) c
   |false=>rfl
  have P:¬B9 w.h.Am (el w.Ag k.toNat).c.Ah<0:=λq=>c (.inr (.inr q));rw[decide_eq_true r,O,Ul];simp only[A6,cond_false,Ad];rw[decide_eq_false P,A3,Aj u,Bcd w.An (el w.Ag k.toNat).c.Ah R (λi=>by unfold Bji Bjh;rfl),Ad];have W:=Bc6 (el w.Ag k.toNat).c.Ah w.An;unfold Pm;by_cases d:0<=Cu w.An (el w.Ag k.toNat).c.Ah
  ·obtain⟨g1,g2,g3,g4⟩:=Px d;have e:=N.1 d;have V:=v.ql _ g4;rw[if_pos d,<-e,Ap (by omega),Aj ⟨d,g2⟩,g3,decide_eq_true rfl,A6,Ad,A3,Aj ⟨d,g2⟩];by_cases L:(el w.An (Cu w.An (el w.Ag k.toNat).c.Ah).toNat).list.length=2
   ·rw[Av (by omega),Bh (by omega) (by omega),if_pos trivial,if_pos ⟨d,L⟩,Xm];rfl
   ·rw[Ap (by omega),Aj ⟨d,g2⟩,Aj (by simp only[B5,C0];omega),Aj ⟨d,g2⟩,Aj trivial,Bh (by omega) (by omega),if_pos trivial,if_neg (λq:0<=Cu w.An (el w.Ag k.toNat).c.Ah/\(el w.An (Cu w.An (el w.Ag k.toNat).c.Ah).toNat).list.length=2=>L q.2)];rfl
  ·rw[if_neg d,if_neg (λq:0<=Cu w.An (el w.Ag k.toNat).c.Ah/\(el w.An (Cu w.An (el w.Ag k.toNat).c.Ah).toNat).list.length=2=>d q.1)]
   have e:(bif decide (((Fc (el w.Ag k.toNat).c.Ah w.An:Nat):Int)=(w.An.length:Int))then(Aa true)else(xg (0<=((Fc (el w.Ag k.toNat).c.Ah w.An:Nat):Int)/\((Fc (el w.Ag k.toNat).c.Ah w.An:Nat):Int)<(w.An.length:Int))<|some (!decide ((el w.An ((Fc (el w.Ag k.toNat).c.Ah w.An:Nat):Int).toNat).Ah=(el w.Ag k.toNat).c.Ah))))=Aa true:=by
    by_cases e:((Fc (el w.Ag k.toNat).c.Ah w.An:Nat):Int)=(w.An.length:Int)
    ·rw[Av e]
    ·rw[Ap e,Aj ⟨by omega,by omega⟩,Gb,decide_eq_false (N.2 (by omega) (by omega))];rfl
   rw[e,Ad,Cg];unfold Aar Ri;simp only;rw[Aj ⟨by omega,by omega⟩,Aj (by omega),Ad,Gb];have y:(w.An.take (Fc (el w.Ag k.toNat).c.Ah w.An)).length=Fc (el w.Ag k.toNat).c.Ah w.An:=by rw[Dh];omega
   have I:el (w.An.take (Fc (el w.Ag k.toNat).c.Ah w.An)++[(⟨(el w.Ag k.toNat).c.Ah,[]⟩:Ba)]++w.An.drop (Fc (el w.Ag k.toNat).c.Ah w.An)) (Fc (el w.Ag k.toNat).c.Ah w.An)=⟨(el w.Ag k.toNat).c.Ah,[]⟩:=by show List.getD _ _ _=_;rw[Ni,Ci,Tr (by omega),y];simp
   have e2:∀f:Ba->Ba,stE (w.An.take (Fc (el w.Ag k.toNat).c.Ah w.An)++[(⟨(el w.Ag k.toNat).c.Ah,[]⟩:Ba)]++w.An.drop (Fc (el w.Ag k.toNat).c.Ah w.An)) (Fc (el w.Ag k.toNat).c.Ah w.An) f=w.An.take (Fc (el w.Ag k.toNat).c.Ah w.An)++[f ⟨(el w.Ag k.toNat).c.Ah,[]⟩]++w.An.drop (Fc (el w.Ag k.toNat).c.Ah w.An):=by intro f;unfold stE;rw[I,Ci,Abn _ _ (by omega),y];simp
   have t:(0:Int)<=(Fc (el w.Ag k.toNat).c.Ah w.An:Nat)/\((Fc (el w.Ag k.toNat).c.Ah w.An:Nat):Int)<((w.An.take (Fc (el w.Ag k.toNat).c.Ah w.An)++[(⟨(el w.Ag k.toNat).c.Ah,[]⟩:Ba)]++w.An.drop (Fc (el w.Ag k.toNat).c.Ah w.An)).length:Int):=by simp only[Bt,Dh,D0,B5,C0];omega
   rw[Aj t,I,Ap (by simp),Aj t,Aj (by simp),Aj t,Aj trivial,Bh (by omega) (by omega),e2];rfl
def Ov (l:List Ba) (i:Nat):List Ba:=
 if((el l i).list.drop 1).length=0 then l.take i++l.drop (i+1)else stE l i λz=>⟨z.Ah,(el l i).list.drop 1⟩
def Lt (w:Au) (name:Cea):Au×Bool:=
 if Hq w=true/\w.step≠1000000/\0<=Cu w.An name then
  Jw w.step (Jm ⟨w.h,w.Az,Ov w.An (Cu w.An name).toNat,w.Ag,w.step⟩ (el (el w.An (Cu w.An name).toNat).list 0),true)
 else(w00,false)
theorem WV.qf{w} (v:WV w){n} (d:0<=Cu w.An n):1<=(el w.An (Cu w.An n).toNat).list.length/\0<=el (el w.An (Cu w.An n).toNat).list 0/\el (el w.An (Cu w.An n).toNat).list 0<(w.Ag.length:Int):=by obtain⟨g1,g2,g3,g4⟩:=Px d;have f:=v.q.1 _ g4;have:=(f.ks _ (Cj (l:=(el w.An (Cu w.An n).toNat).list) (i:=0) (by have:=f.ln;omega))).1;exact⟨f.ln.1,this.1,by omega⟩
theorem Avf{T} [Inhabited T]{L i} (h:i<L.length) (f:T->T):el (stE L i f) i=f (el L i):=by show List.getD _ _ _=_;unfold stE;simp[Ni,h]
theorem Bh3{T} [Inhabited T] L i (f:T->T):(stE L i f).take i=L.take i:=by unfold stE;rw[A6m (Ef _)]
theorem A8g{T} [Inhabited T] L i (f:T->T):(stE L i f).drop (i+1)=L.drop (i+1):=by unfold stE;rw[Bq3 (by omega)]
theorem Bgc{w} (x:N9 w) n:Tg w n=Aa (Lt w n):=by
 unfold Tg Lt;rw[A0f,Ad,Ao5 w x.sm x.nq,Ad];cases i:Hq w with
 |false=>rw[if_neg (λq=>by cases q.1)];rfl
 |true=>
  have v:=WV.of i;have c:=x.nt;have g:=v.st;have f:=v.q5;rw[A6,A3,Ad];by_cases a:w.step=1000000
  ·rw[Av a,if_neg (λq=>q.2.1 a)];rfl
  rw[Ap a,Ad];by_cases d:0<=Cu w.An n
  rotate_left
  ·rw[Av (by omega),if_neg (λq=>d q.2.2)];rfl
  obtain⟨g1,g2,g3,g4⟩:=Px d;obtain⟨j,b⟩:=v.qf d;rw[Ap (by omega),Adn x.sm (by omega),Ad,Aj ⟨d,g2⟩,Aj ⟨by omega,by omega⟩,Aj ⟨d,g2⟩,Aj ⟨by omega,by omega⟩,Aj ⟨d,g2⟩,Aj rfl,Aj ⟨d,by rw[Hg];exact g2⟩,if_pos ⟨rfl,a,d⟩,Avf g1,Hd];unfold Ov Jw;simp only[D0];by_cases e:(el w.An (Cu w.An n).toNat).list.length-1=0
  ·rw[Av (by omega),if_pos e,Hg,Aj ⟨d,by omega⟩,Aj (by omega),Bh (by omega) (by omega),Aj ⟨by omega,by omega⟩,Aj (by simp only[Bt,Dh,D0,C0,Hg];omega),Iu,Bh3,show(stE w.An (Cu w.An n).toNat λz=>(⟨z.Ah,(el w.An (Cu w.An n).toNat).list.drop 1⟩:Ba)).take w.An.length=(stE w.An (Cu w.An n).toNat λz=>(⟨z.Ah,(el w.An (Cu w.An n).toNat).list.drop 1⟩:Ba))by rw[Rv (by rw[Hg];omega)],show(Cu w.An n+1).toNat=(Cu w.An n).toNat+1 by omega,A8g,Ao6 (w:=⟨w.h,w.Az,w.An.take (Cu w.An n).toNat++w.An.drop ((Cu w.An n).toNat+1),w.Ag,w.step⟩) v.h b,Ad,Bh (by omega) (by omega)];rfl
  ·rw[Ap (by omega),if_neg e,Ao6 (w:=⟨w.h,w.Az,stE w.An (Cu w.An n).toNat λz=>(⟨z.Ah,(el w.An (Cu w.An n).toNat).list.drop 1⟩:Ba),w.Ag,w.step⟩) v.h b,Ad,Bh (by omega) (by omega)];rfl
theorem By2{w} (x:N9 w) n:Aq2 w n=Aa (Lt w n):=by
 unfold Aq2 Lt;rw[Bzm,Ad];by_cases d:0<=Cu w.An n
 rotate_left
 ·rw[Av (by omega),if_neg (λq=>d q.2.2)];rfl
 simp only;rw[Ap (by omega),Acn w x.sm x.nq,Ad,Ad];cases i:Hq w with
 |false=>rw[if_neg (λq=>by cases q.1)];rfl
 |true=>
  have v:=WV.of i;have c:=x.nt;have g:=v.st;have f:=v.q5;rw[A6,A3,Ad];by_cases a:w.step=1000000
  ·rw[Av a,if_neg (λq=>q.2.1 a)];rfl
  obtain⟨g1,g2,g3,g4⟩:=Px d;obtain⟨j,b⟩:=v.qf d;rw[Ap a,Aco x.sm (by omega),Ad,Aj ⟨d,g2⟩,Aj ⟨by omega,by omega⟩,Awq v.h b,Ad,if_pos ⟨rfl,a,d⟩];unfold Jm Ov Jw;simp only[D0];rw[Aj ⟨d,g2⟩,Aj ⟨by omega,by omega⟩,Aj ⟨d,g2⟩,Aj trivial,Aj ⟨d,by rw[Hg];exact g2⟩,Avf g1,Hd];simp only[D0];by_cases e:(el w.An (Cu w.An n).toNat).list.length-1=0
  ·unfold Ad1;rw[Av (by omega),if_pos e,Bh (by omega) (by omega),Aj ⟨by omega,by omega,by rw[Hg];omega⟩,Aj (by rw[Hg];omega),Ad,Bh3,show(Cu w.An n+1).toNat=(Cu w.An n).toNat+1 by omega,A8g,Bh (by omega) (by omega)];rfl
  ·rw[Ap (by omega),if_neg e,Bh (by omega) (by omega)];rfl
def Bk (l:List UInt8):Cea:=⟨l.toArray⟩
theorem Jj a b:Bk a++Bk b=Bk (a++b):=by refine ByteArray.ext ?_;rw[ByteArray.data_append];simp[Bk]
theorem Dr a:(Bk a).size=a.length:=by simp[Bk,ByteArray.size]
theorem Cba n a hi:Da n a hi=Aa (decide (a<=n/\n<=hi)):=by unfold Da;simp only[Ad,Dj,Gc,F8,Lf,Mu,C2];refine Km ?_;simp
theorem Ca6 n a hi:Dq n a hi=Aa (decide (a<=n/\n<=hi)):=by unfold Dq;simp only[Ad,Dj,Gc,F8,Lf,Mu,C2];refine Km ?_;simp
def C3 (n:Int):List UInt8:=if 0<=n/\n<=1000000000 then Ki n.toNat else []
theorem A75 u:(Ki u).length<=u+1:=by
 induction u using A6t with
 |_ u a=>
  rw[Ki];split
  ·simp
  ·rename_i h;have:=a (u/10) (by omega);simp only[Bt,B5,C0];omega
theorem B17 n:(C3 n).length<=1000000001:=by
 unfold C3;split
 ·have:=A75 n.toNat;omega
 ·simp
theorem Wn n:Gj n=Aa (Bk (C3 n)):=by
 unfold Gj C3;rw[Cba,Ad];by_cases h:0<=n/\n<=1000000000
 ·rw[decide_eq_true h,A6,cond_false,if_pos h];unfold Aib;rw[Bh (by omega) (by omega),Ad];unfold Lib.itoa;rw[if_neg (by omega)];rfl
 ·rw[decide_eq_false h,Fs,cond_true,if_neg h];rfl
theorem Bls d (h:0<=d/\d<=9):y8 (48+d)=Tx (48+d.toNat):=by unfold y8;congr 1;omega
theorem Ahk n:Mn n=Aa (Bk (C3 n)):=by
 unfold Mn C3;rw[Ca6,Ad];by_cases h:0<=n/\n<=1000000000
 ·rw[decide_eq_true h,A6,cond_false,if_pos h];have q:=A75 n.toNat
  obtain⟨y,k,⟨l,m,o,i⟩⟩:=Kt (f:=A4e) (λs=>∃l,s.2=Bk l/\0<=s.1/\s.1<=1000000000/\Ki s.1.toNat++l=Ki n.toNat) (λs=>s.1.toNat)
   (λy=>∃l,y.2=Bk l/\(0<=y.1/\y.1<=9)/\Ki y.1.toNat++l=Ki n.toNat) (λs ⟨l,d,b,p,a⟩=>by
    unfold A4e Bks;by_cases g:9<s.1
    ·have j:Ki s.1.toNat=Ki (s.1/10).toNat++[Tx (48+(s.1 % 10).toNat)]:=by rw[Ki,dif_neg (by omega),show(s.1/10).toNat=s.1.toNat/10 by omega,show(s.1 % 10).toNat=s.1.toNat % 10 by omega]
     have c:l.length<=1000000001:=by have:=congrArg Atd a;rw[Bt]at this;omega
     have e:(⟨[y8 (48+(s.1 % 10))].toArray⟩:Cea)=Bk [y8 (48+(s.1 % 10))]:=rfl;rw[decide_eq_true g,cond_true,Aj ⟨b,by omega⟩,Bh (by omega) (by omega),e,d,Aj (by rw[Dr,Dr];simp only[B5,C0];omega),Aj ⟨b,by omega,by omega⟩];refine .inl ⟨_,rfl,⟨[y8 (48+(s.1 % 10))]++l,by rw[Jj],by simp only;omega,by simp only;omega,?_⟩,by simp only;omega⟩;rw[j,Ci]at a;rw[Bls _ ⟨by omega,by omega⟩];exact a
    ·rw[decide_eq_false g,cond_false];exact .inr ⟨_,rfl,l,d,⟨b,by simp only;omega⟩,a⟩) (n,(⟨#[]⟩:Cea)) ⟨[],rfl,h.1,h.2,by simp⟩
  have c:l.length<=1000000001:=by have:=congrArg Atd i;rw[Bt]at this;omega
  have e:(⟨[y8 (48+y.1)].toArray⟩:Cea)=Bk [y8 (48+y.1)]:=rfl;rw[k,Ad,Bh (by omega) (by omega),e,m,Aj (by rw[Dr,Dr];simp only[B5,C0];omega),Jj,<-i,Bls _ o,Ki,dif_pos (by omega)]
 ·rw[decide_eq_false h,Fs,cond_true,if_neg h];rfl
section
section
variable {T:Type} [Inhabited T]
theorem A1k{F} l (t:T->List UInt8) sep m (g:sep.length<=1) (p:∀x∈l,(t x).length<=m)
  (o:∀x k s,k<l.length->el l k=x->x∈l->s.length<=(m+1)*l.length->(0<k->(∀x∈l,t x≠[])->s≠[])->(k=0->s=[])->F k (Bk s)=Aa (.go (Bk (s++((if k=0 then []else sep)++t x))))):
  A2 F (λs=>s) l.length 0 ⟨#[]⟩=Aa (Bk (Hc (l.map t) sep)):=by
 have h:=Fk (e:=λs=>s) (F:=F) l (λr k s=>k+r.length=l.length/\∃u,s=Bk u/\u.length<=(m+1)*k/\(k=0->u=[])/\(0<k->(∀x∈l,t x≠[])->u≠[]))
  (λr k s=>s++Bk (if k=0 then Hc (r.map t) sep else Rt sep (r.map t)))
  (λs=>by
   have:Bk (if l.length=0 then Hc (([]:List T).map t) sep else Rt sep (([]:List T).map t))=⟨#[]⟩:=by split<;>rfl
   rw[this];exactλ_=>ByteArray.append_empty)
  (λx r k s f hx ⟨j,u,e,hu,v,n⟩=>by
   have b:x∈l:=hx▸Cj f;have i:(m+1)*k<=(m+1)*l.length:=Akw _ (by omega);have d:=o x k u f hx b (by omega) n v;have q:=p x b;refine .inl ⟨_,e▸d,⟨by rw[B5]at j;omega,_,rfl,?_,by omega,λ_ c a=>c x b ?_⟩,?_⟩
   ·rw[Bt,Bt,A6s];split<;>(try simp only[C0])<;>omega
   ·have:=congrArg Atd a;rw[Bt,Bt]at this;exact I4 (by simp only[C0]at this;omega)
   ·rw[e,if_neg (Nat.succ_ne_zero k),Jj,Jj];congr 1;by_cases a:k=0
    ·rw[if_pos a,if_pos a,Fa,K4];simp
    ·rw[if_neg a,if_neg a,Fa];simp[Rt])
  ⟨#[]⟩ ⟨by omega,[],rfl,by simp,λ_=>rfl,λh=>absurd h (Aku 0)⟩
 rw[h,if_pos rfl];congr 1
theorem Axk{U F} l (u:T->U)
  (c:∀x k s,k<l.length->el l k=x->x∈l->s.length=k->F k s=Aa (.go (s++[u x]))):A2 F (λs=>s) l.length 0 []=Aa (l.map u):=by
 have h:=Fk (e:=λs=>s) (F:=F) l (λ_ k s=>s.length=k) (λr _ s=>s++r.map u) (λs _=>by simp)
  (λx r k s a hx b=>.inl ⟨_,c x k s a hx (hx▸Cj a) b,by simp[b],by simp⟩) [] rfl
 exact h
theorem Bcl{m}:∀ {L:List (List UInt8)},(∀x∈L,x.length<=m)->Ae0 L<=m*L.length
 |[],_=>by simp[Ae0]
 |x::L,h=>by have a:=Bcl (m:=m) λy b=>h y (Bf _ b);have c:=h x Bm;simp only[Ae0,Fa,List.sum_cons,B5,A6s]at a⊢;omega
theorem Axb{m L sep} (a:sep.length<=1) (h:∀x∈L,x.length<=m):(Hc L sep).length<=(m+1)*L.length:=by
 cases L with
 |nil=>simp[Lib.join_nil]
 |cons x r=>have b:=Bcl h;have c:sep.length*r.length<=1*r.length:=E4 _ a;rw[Lib.join_length,Gk];simp only[B5]at b⊢;omega
theorem Hh a:(Bk a).data.toList=a:=by simp[Bk]
omit [Inhabited T]in
theorem Bcc (l:List T) (t:T->List UInt8) (sep:List UInt8) (m:Nat) (a:sep.length<=1) (c:∀x∈l,(t x).length<=m) (g:(m+1)*l.length<=1099511627776):
  Aas (l.map λx=>Bk (t x)) (Bk sep)=Aa (Bk (Hc (l.map t) sep)):=by
 have e:(l.map λx=>Bk (t x)).map (·.data.toList)=l.map t:=by rw[V2];exact Ru λx _=>Hh _
 have b:=Axb (m:=m) (L:=l.map t) a (λy d=>by obtain⟨x,hx,rfl⟩:=K7.1 d;exact c x hx);have f:1*l.length<=(m+1)*l.length:=E4 _ (by omega);rw[Gz]at b;unfold Aas jn;rw[e,Hh,Aj ⟨by rw[Gz];omega,by omega⟩];rfl
end
theorem A76:∀k u,u<10^(k+1)->(Ki u).length<=k+1
 |0,u,h=>by rw[Ki,dif_pos (by simpa using h)];simp
 |k+1,u,h=>by
  rw[Ki];split
  ·simp
  ·have:=A76 k (u/10) (by rw[Nat.pow_succ]at h;omega);rw[Bt,G0];omega
theorem Me n:(C3 n).length<=10:=by
 unfold C3;split
 ·exact A76 9 n.toNat (by omega)
 ·simp
def Pg (l:List Int):List UInt8:=Hc (l.map C3) [46]
theorem Afs l:(Pg l).length<=11*l.length:=by have h:=Axb (m:=10) (L:=l.map C3) (sep:=[46]) (Ef 1) (λy a=>by obtain⟨x,_,rfl⟩:=K7.1 a;exact Me x);rw[Gz]at h;exact h
theorem Bbp l (b:l.length<=1000000):Ai5 l=Aa (Bk (Pg l)):=by
 unfold Ai5
 rw[Axk l (λn=>Bk (C3 n)) (λx k s a hx c d=>by
  unfold Bjy Bjx;rw[hx,Wn,Ad,Aj (by omega)]),Ad]
 have e:=Bcc l C3 [46] 10 (Ef 1) (λx _=>Me x) (by omega);rw[show(⟨#[46]⟩:Cea)=Bk [46]from rfl,e];rfl
def Lu (l:List Int):List UInt8:=if l.all Ds then(if l=[]then [45]else Pg l)else []
theorem Acs {T:Type} {l:List T}:((l.length:Int)=0)↔l=[]:=by cases l<;>simp<;>omega
theorem By4 l (a:l.length<=1000000):Aiv l=Aa (Bk (Lu l)):=by
 unfold Aiv Lu;rw[Amt,Ad,Bbp l a];cases l.all Ds with
 |false=>rfl
 |true=>
  simp only[Acs];by_cases h:l=[]
  ·rw[Av h,if_pos h];rfl
  ·rw[Ap h,if_neg h];rfl
theorem A0a l (c:l.length<=1000000):Aa7 l=Aa (Bk (Lu l)):=by
 unfold Aa7 Lu;rw[A0b,Ad]
 rw[A1k l C3 [46] 10 (Ef 1) (λx _=>Me x) (λx k s b hx d e _ f=>by
  unfold Bky Bkx;have a:=Me x;rw[hx,Ahk,Ad,Ad,show(⟨#[46]⟩:Cea)=Bk [46]from rfl];by_cases h:(0:Int)<(k:Int)
  ·rw[Av h,if_neg (by omega),Aj (by rw[Dr,Dr];simp only[G0];omega),Jj,Aj (by rw[Dr,Dr,Bt];simp only[G0];omega),Jj,Ci]
  ·rw[Ap h,if_pos (by omega),Aj (by rw[Dr,Dr];omega),Jj];rfl)]
 cases l.all Ds with
 |false=>rfl
 |true=>
  simp only[Acs];by_cases h:l=[]
  ·rw[Av h,if_pos h];rfl
  ·rw[Ap h,if_neg h];rfl
def Ih (p:Ae):List UInt8:=if p.kind=1 then 107::C3 p.n else if p.kind=3 then 100::C3 p.n else 112::Pg p.Bd
theorem Bd5{p} (h:p.Bd.length<=200):(Ih p).length<=2201:=by
 have a:=Me p.n;have b:=Afs p.Bd;unfold Ih;split
 ·rw[B5];omega
 ·split<;>rw[B5]<;>omega
theorem Bd6 p:Ih p≠[]:=by
 unfold Ih;split
 ·simp
 ·split<;>simp
def Ep (o:List Ae):List UInt8:=if Ca o then(if Co o=[]then [45]else Hc ((Co o).map Ih) [32])else []
theorem Ax0{o} (h:Ca o=true):(Co o).length<=600/\∀p∈Co o,p.Bd.length<=200/\P6 p:=by have b:=Hp (Ac3 h);exact⟨Ps b,λp a=>⟨(Nz (J9 b a)).1,Bh7 (Ax8 (Hp h)) p a⟩⟩
theorem Bd8:∀o,Ae0 (o.map Ih)<=12*o.length+11*Fm Mi o
 |[]=>by simp[Ae0,Fm]
 |p::o=>by
  have h:=Bd8 o;have a:=Me p.n;have b:=Afs p.Bd
  have c:(Ih p).length<=12+11*p.Bd.length:=by
   unfold Ih;split
   ·rw[B5];omega
   ·split<;>rw[B5]<;>omega
  have d:=Aaj p;simp only[Ae0,Fa,List.sum_cons,B5,Fm]at h⊢;omega
theorem Ayi o:(Ep o).length<=20000:=by
 unfold Ep;by_cases h:Ca o=true
 ·rw[if_pos h];have a:=Ax7 (Ac3 h);rw[Agk]at a;have b:=Bd8 (Co o);split
  ·simp
  ·cases c:Co o with
   |nil=>simp[Lib.join_nil]
   |cons x r=>rw[c]at a b;rw[Fa]at b⊢;rw[Lib.join_length];simp only[Gz,B5,C0]at a b⊢;omega
 ·rw[if_neg h];simp
theorem Awm o:Aiq o=Aa (Bk (Ep o)):=by
 unfold Aiq Ep;rw[Se,Ad,Ams];by_cases h:Ca o=true
 ·obtain⟨j,d⟩:=Ax0 h;rw[h,A6,cond_false,if_pos rfl,Ad,if_pos rfl]
  rw[Axk (Co o) (λp=>Bk (Ih p)) (λx k s m hx g q=>by
   unfold Bjf Bje;have f:=Me x.n;have i:=(d x g).1;have l:=Afs x.Bd;rw[hx,Wn,Bbp _ (by omega),Ad,Ad,Ad];rw[show(⟨#[107]⟩:Cea)=Bk [107]from rfl,show(⟨#[100]⟩:Cea)=Bk [100]from rfl,show(⟨#[112]⟩:Cea)=Bk [112]from rfl];unfold Ih;by_cases a:x.kind=1
   ·rw[Av a,if_pos a,Aj (by rw[Dr,Dr];simp only[G0];omega),Aj (by omega),Jj];rfl
   ·rw[Ap a,if_neg a];by_cases b:x.kind=3
    ·rw[Av b,if_pos b,Aj (by rw[Dr,Dr];simp only[G0];omega),Aj (by omega),Jj];rfl
    ·rw[Ap b,if_neg b,Aj (by rw[Dr,Dr];simp only[G0];omega),Aj (by omega),Jj];rfl),Ad]
  simp only[Gz,Acs];by_cases c:Co o=[]
  ·rw[Av c,if_pos c];rfl
  ·rw[Ap c,if_neg c];have e:=Bcc (Co o) Ih [32] 2201 (Ef 1) (λx hx=>Bd5 (d x hx).1) (by omega);rw[show(⟨#[32]⟩:Cea)=Bk [32]from rfl,e];rfl
 ·rw[Asx]at h;rw[h];rfl
theorem Ak5 s:(Bk s=(⟨#[]⟩:Cea))↔s=[]:=⟨λh=>by have:=congrArg (λb:Cea=>b.data.toList) h;simpa [Bk]using this,λh=>by rw[h];rfl⟩
theorem Az7 o:Ajs o=Aa (Bk (Ep o)):=by
 unfold Ajs Ep;rw[Q8,Ad,Az6];by_cases h:Ca o=true
 ·obtain⟨A,g⟩:=Ax0 h;rw[h,A6,cond_false,if_pos rfl,Ad,if_pos rfl]
  rw[A1k (Co o) Ih [32] 2201 (Ef 1) (λx hx=>Bd5 (g x hx).1) (λx k s C hx u D i w=>by
   unfold Bkv Bku;have m:=Me x.n;obtain⟨v,l⟩:=g x u;have B:=Afs x.Bd
   have d:x.kind=2->Lu x.Bd=Pg x.Bd:=λg=>by
    rcases l with t|t|t
    ·omega
    ·unfold Lu;rw[if_pos t.2.2.2,if_neg t.2.2.1]
    ·omega
   have b:x.kind=1\/x.kind=2\/x.kind=3:=by rcases l with t|t|t<;>simp[t.1]
   rw[hx,Ahk,A0a _ (by omega)];rw[show(⟨#[107]⟩:Cea)=Bk [107]from rfl,show(⟨#[100]⟩:Cea)=Bk [100]from rfl,show(⟨#[112]⟩:Cea)=Bk [112]from rfl,show(⟨#[32]⟩:Cea)=Bk [32]from rfl];unfold Ih;have z:(1:Int)=1:=rfl;by_cases a:k=0
   ·have Dw:=w a;subst Dw;rw[if_pos a,show(decide (Bk []=(⟨#[]⟩:Cea)))=true from decide_eq_true rfl];simp only[A6,cond_false,Ad];rcases b with c|c|c
    ·rw[c];rw[Av rfl,if_pos rfl,Aj (by simp only[Dr,G0,C0];omega),Jj,Aj (by simp only[Dr,Bt,G0,C0];omega),Jj];rfl
    ·rw[d c,c];rw[Ap (by decide),Av rfl,if_neg (by decide),if_neg (by decide),Aj (by simp only[Dr,G0,C0];omega),Jj,Aj (by simp only[Dr,Bt,G0,C0];omega),Jj];rfl
    ·rw[c];rw[Ap (by decide),Ap (by decide),if_neg (by decide),if_pos rfl,Aj (by simp only[Dr,G0,C0];omega),Jj,Aj (by simp only[Dr,Bt,G0,C0];omega),Jj];rfl
   ·have j:=i (by omega) (λy _=>Bd6 y);rw[if_neg a,decide_eq_false (λe=>j ((Ak5 s).1 e))];simp only[Fs,cond_true,Ad];rw[Aj (by simp only[Dr,G0];omega)];simp only[Jj];rcases b with c|c|c
    ·rw[c];rw[Av rfl,if_pos rfl,Aj (by simp only[Dr,Bt,G0];omega),Aj (by simp only[Dr,Bt,G0];omega)];simp
    ·rw[d c,c];rw[Ap (by decide),Av rfl,if_neg (by decide),if_neg (by decide),Aj (by simp only[Dr,Bt,G0];omega),Aj (by simp only[Dr,Bt,G0];omega)];simp
    ·rw[c];rw[Ap (by decide),Ap (by decide),if_neg (by decide),if_pos rfl,Aj (by simp only[Dr,Bt,G0];omega),Aj (by simp only[Dr,Bt,G0];omega)];simp),Ad]
  by_cases f:Co o=[]
  ·rw[if_pos f,f];rfl
  ·rw[if_neg f]
   have q:Hc ((Co o).map Ih) [32]≠[]:=by
    cases p:Co o with
    |nil=>exact absurd p f
    |cons x r=>rw[Fa,K4];intro a;exact Bd6 x (List.append_eq_nil_iff.1 a).1
   rw[decide_eq_false (λe=>q ((Ak5 _).1 e))];rfl
 ·rw[Asx]at h;rw[h];rfl
def Ms (x:UInt8):UInt8:=if x=32 then 44 else x
def Vd (o:List Ae):List UInt8:=(Ep o).map Ms
theorem Azp a b:∀s,Lib.replaceK [a] [b] (Lib.count s [a]) s=s.map λx=>if x=a then b else x
 |[]=>rfl
 |x::l=>by
  have j:=Azp a b l;have d:([a]:List UInt8)≠[]:=by simp
  rw[Fa,<-j];by_cases hx:x=a
  ·subst hx;have c:K3 (x::l) [x]=((0:Nat):Int):=by unfold K3;simp[Atc]
   rw[if_pos rfl,Aez d c,Yf,A5y _ _ _ _ _ c];rfl
  ·have f:([a]:List UInt8).isPrefixOf (x::l)=false:=by simp[Atc];exactλh=>hx h.symm
   rw[if_neg hx];by_cases hi:K3 l [a]= -1
   ·have c:K3 (x::l) [a]= -1:=by unfold K3;rw[f,hi];rfl
    rw[As3 c,As3 hi];rfl
   ·have g:=Lib.index_ge l [a];obtain⟨i,e⟩:∃i:Nat,K3 l [a]=i:=⟨(K3 l [a]).toNat,by omega⟩
    have c:K3 (x::l) [a]=((i+1:Nat):Int):=by
     unfold K3;rw[f,e];have:((i:Int)== -1)=false:=by rw[beq_eq_false_iff_ne];omega
     rw[this];simp
    rw[Aez d c,Aez d e,Yf 1,Yf 1,A5y _ _ _ _ _ c,A5y _ _ _ _ _ e];rw[show i+1+([a]:List UInt8).length=(i+([a]:List UInt8).length)+1 from by simp,Abg,A6n];rfl
theorem B5u s:Akm s [32] [44]=s.map Ms:=by unfold Akm Lib.replace Lib.replaceNum;rw[if_neg (by decide),if_pos (Or.inl (by decide)),Azp];rfl
theorem Bzl o:Ai7 o=Aa (Bk (Vd o)):=by unfold Ai7;have b:=Ayi o;have a:=A5x (Bk [32]) (Ef 1) (Bk (Ep o)).size (Bk (Ep o)) (Ef _);rw[Dr]at a;rw[Awm,Ad,show(⟨#[32]⟩:Cea)=Bk [32]from rfl,show(⟨#[44]⟩:Cea)=Bk [44]from rfl];unfold Aat rpl;rw[Aj ⟨by rw[Dr];omega,Ef 1,by rw[Dr,show(Bk [44]).size=1 from rfl];omega⟩,Hh,Hh,Hh,B5u];rfl
theorem B7g o:Aso o=Aa (Bk (Vd o)):=by
 unfold Aso;have m:=Ayi o;rw[Az7,Ad,Aj (by rw[Dr];omega),Hh]
 have h:=Fk (e:=λs=>s) (F:=A5k) (Ep o) (λr k s=>s=((Ep o).take k).map Ms++r/\(Ep o).drop k=r) (λ_ _ _=>(Ep o).map Ms)
  (λs ⟨h,_⟩=>by rw[h,Hd,Hu])
  (λx r k s i hx ⟨c,j⟩=>by
   have a:(((Ep o).take k).map Ms).length=k:=by rw[Gz,Dh];omega
   have f:el s k=x:=by rw[c];have:=Uh (((Ep o).take k).map Ms) x r;rw[a]at this;exact this
   have l:k<s.length:=by rw[c,Bt,a,B5];omega
   have g:((Ep o).take (k+1)).map Ms=((Ep o).take k).map Ms++[Ms x]:=by rw[Ae7,Abj,O9 i,<-F9 i,hx];rfl
   have d:(Ep o).drop (k+1)=r:=by rw[<-Mq,j];rfl
   refine .inl ⟨((Ep o).take (k+1)).map Ms++r,?_,⟨rfl,d⟩,rfl⟩;unfold A5k Blo;rw[f,g];by_cases b:x=32
   ·rw[b,Av (by decide),Aj ⟨by omega,by omega⟩,c,Abn _ _ (by omega),a,A6u,V5,Ci];rfl
   ·rw[Ap (λe=>b (Tz.1 (by show x.toNat=32;omega))),c,Ci];unfold Ms;rw[if_neg b];rfl)
  (Ep o) ⟨by simp,rfl⟩
 rw[h];rfl
end
def I7 (k:Int):List UInt8:=if k=1 then [111,112,101,110]else if k=2 then [115,117,98,109,105,116]else if k=3 then [102,101,116,99,104]else if k=4 then [115,110,97,112]else if k=5 then [115,117,98]else if k=6 then [112,111,108,108]else if k=7 then [114,101,115,121,110,99]else if k=8 then [115,104,117,116]else []
theorem Ak9{k} (h:¬(1<=k/\k<=8)):I7 k=[]:=by unfold I7;rw[if_neg (by omega),if_neg (by omega),if_neg (by omega),if_neg (by omega),if_neg (by omega),if_neg (by omega),if_neg (by omega),if_neg (by omega)]
theorem A7u k:(I7 k).length<=6:=by
 by_cases h:1<=k/\k<=8
 ·rcases Sg h with h|h|h|h|h|h|h|h<;>subst h<;>decide
 ·rw[Ak9 h];simp
theorem Bbd k:Xv k=Aa (Bk (I7 k)):=by
 unfold Xv;rw[G5,Ad];by_cases h:1<=k/\k<=8
 ·rw[decide_eq_true h,A6,cond_false];rcases Sg h with h|h|h|h|h|h|h|h<;>subst h<;>rfl
 ·rw[decide_eq_false h,Ak9 h];rfl
theorem Bfr k:Aa3 k=Aa (Bk (I7 k)):=by
 unfold Aa3;rw[Bfp,Ad];by_cases h:1<=k/\k<=8
 ·rw[decide_eq_true h,A6,cond_false];rcases Sg h with h|h|h|h|h|h|h|h<;>subst h<;>rfl
 ·rw[decide_eq_false h,Ak9 h];rfl
theorem Afi s:s=Bk s.data.toList:=by unfold Bk;rw[Asv]
theorem B7f l m (b:∀x∈l,x.size<=m) (g:(m+1)*l.length<=1000000000):Ake l=Aa (Bk (Hc (l.map (·.data.toList)) [32])):=by
 unfold Ake;have hb (x:Cea):Bk x.data.toList=x:=(Afi x).symm;have hz (x:Cea):x.data.toList.length=x.size:=rfl
 rw[A1k l (·.data.toList) [32] m (Ef 1) (λx hx=>by rw[hz];exact b x hx) (λx k s f hx a i _ e=>by
  unfold Bln Blm;have c:=b x a;have d:(m+1)*1<=(m+1)*l.length:=Akw _ (by omega);rw[hx,show(⟨#[32]⟩:Cea)=Bk [32]from rfl];by_cases h:(0:Int)<(k:Int)
  ·rw[Av h,if_neg (by omega),Aj (by rw[Dr,Dr];simp only[G0];omega),Jj,Aj (by rw[Dr,Bt];simp only[G0];omega)]
   conv=>lhs;rw[<-hb x]
   rw[Jj,Ci]
  ·rw[Ap h,if_pos (by omega),Aj (by rw[Dr];omega)]
   conv=>lhs;rw[<-hb x]
   rw[Jj];rfl)]
 rfl
def L7 (c:Bb):List (List UInt8):=
 [I7 c.kind]++(if c.kind<=5 then [c.Ah.data.toList]else [])++(if c.kind=2\/c.kind=6\/c.kind=7 then [C3 c.Al]else [])++(if c.kind=2 then [C3 c.seq]else [])
  ++(if c.kind=2\/c.kind=3\/c.kind=5\/c.kind=6 then [C3 c.n]else [])++(if c.kind=2 then [Vd c.o]else [])++(if c.kind=1 then [Lu c.text]else [])
def L9 (c:Bb):Bool:=(((((Fp c&&Ca c.o)&&(!(decide (1<=c.kind/\c.kind<=5))||Gp c.Ah))&&decide (0<=c.Al/\c.Al<=1000000000))&&decide (0<=c.seq/\c.seq<=1000000000))&&decide (0<=c.n/\c.n<=1000000000))
def Hm (c:Bb):List UInt8:=if L9 c then Hc (L7 c) [32]else []
theorem Ax2{c} (h:Fp c=true):(1<=c.kind/\c.kind<=8)/\c.Ah.size<=8/\c.text.length<=200:=by unfold Fp Ed at h;simp only[A9,decide_eq_true_eq]at h;exact⟨h.1.1.1.1,h.1.1.1.2,h.1.2.1⟩
theorem Ax3{c} (h:Fp c=false):Hm c=[]:=by unfold Hm L9;rw[h];rfl
theorem Bgy{l} (h:l.length<=200):(Lu l).length<=2200:=by
 have:=Afs l;unfold Lu;split
 ·split
  ·simp
  ·omega
 ·simp
theorem Biw o:(Vd o).length<=20000:=by unfold Vd;rw[Gz];exact Ayi o
theorem A7l{c} (h:Fp c=true):(L7 c).length<=7/\∀x∈L7 c,x.length<=20000:=by
 obtain⟨_,k,a⟩:=Ax2 h;have b:=A7u c.kind;have d:=Me c.Al;have e:=Me c.seq;have f:=Me c.n;have g:=Biw c.o;have i:=Bgy a;have j:c.Ah.data.toList.length=c.Ah.size:=rfl;constructor
 ·unfold L7;simp only[Bt];have q (p:Prop) [Decidable p] (x:List UInt8):(if p then [x]else []).length<=1:=by split<;>simp
  have:=q (c.kind<=5) c.Ah.data.toList;have:=q (c.kind=2\/c.kind=6\/c.kind=7) (C3 c.Al);have:=q (c.kind=2) (C3 c.seq);have:=q (c.kind=2\/c.kind=3\/c.kind=5\/c.kind=6) (C3 c.n);have:=q (c.kind=2) (Vd c.o);have:=q (c.kind=1) (Lu c.text);simp only[G0];omega
 ·intro x hx;unfold L7 at hx;have q {p:Prop} [Decidable p] {y:List UInt8} (h:x∈(if p then [y]else [])):x=y:=by split at h<;>simp at h;exact h
  simp only[Ei,Eo]at hx;rcases hx with(((((hx|hx)|hx)|hx)|hx)|hx)|hx
  ·rw[hx];omega
  all_goals (rw[q hx];omega)
theorem Br5 c:(Hm c).length<=150000:=by
 by_cases h:Fp c=true
 ·obtain⟨b,a⟩:=A7l h;have d:=Axb (m:=20000) (sep:=[32]) (Ef 1) a;unfold Hm;split
  ·omega
  ·simp
 ·rw[Ax3 (by simpa using h)];simp
theorem Bsi {α:Type}{a b n d e f} {x y:α} (h:¬(true&&a&&(!b||n)&&d&&e&&f)=true):(bif bif bif bif bif !a then true else bif b then !n else false then true else !d then true else !e then true else !f then x else y)=x:=by revert h;cases a<;>cases b<;>cases n<;>cases d<;>cases e<;>cases f<;>simp
theorem Bsl {α:Type}{a b n d e f} {x y:α} (h:(true&&a&&(!b||n)&&d&&e&&f)=true):(bif bif bif bif bif !a then true else bif b then !n else false then true else !d then true else !e then true else !f then x else y)=y:=by revert h;cases a<;>cases b<;>cases n<;>cases d<;>cases e<;>cases f<;>simp
theorem Bsj {α:Type}{a b n d e f} {x y:α} (h:¬(true&&a&&(!b||n)&&d&&e&&f)=true):(bif bif bif bif bif !a then true else !d then true else !e then true else !f then true else bif b then !n else false then x else y)=x:=by revert h;cases a<;>cases b<;>cases n<;>cases d<;>cases e<;>cases f<;>simp
theorem Bsm {α:Type}{a b n d e f} {x y:α} (h:(true&&a&&(!b||n)&&d&&e&&f)=true):(bif bif bif bif bif !a then true else !d then true else !e then true else !f then true else bif b then !n else false then x else y)=y:=by revert h;cases a<;>cases b<;>cases n<;>cases d<;>cases e<;>cases f<;>simp
theorem z32:(⟨#[32]⟩:Cea)=Bk [32]:=rfl
theorem Awf c:O2 c=Aa (Bk (Hm c)):=by
 unfold O2;rw[Amp,Ad];by_cases a:Fp c=true
 case neg=>rw[Ax3 (by simpa using a),show Fp c=false by simpa using a];rfl
 obtain⟨i,f,j⟩:=Ax2 a;simp only[a,Se,Amq c.Ah (by omega),G5,Acm,Wn,By4 c.text (by omega),Bzl,Bbd,Ad,Dj,A6,cond_false];by_cases b:L9 c=true
 case neg=>unfold Hm;rw[if_neg b];unfold L9 at b;rw[a]at b;rw[Bsi b];rfl
 have e:Hm c=Hc (L7 c) [32]:=if_pos b;unfold L9 at b;rw[a]at b;rw[Bsl b,e];clear b e;obtain⟨D,d⟩:∃D,c.Ah=Bk D:=⟨_,Afi _⟩;have g:D.length<=8:=by rw[d,Dr]at f;exact f
 have k:=A7u c.kind;have l:=Me c.Al;have m:=Me c.seq;have p:=Me c.n;have q:=Biw c.o;have r:=Bgy j;unfold L7;rw[d,Hh,z32];rcases Sg i with h|h|h|h|h|h|h|h
 all_goals (simp(disch:=first|omega|(simp only[Dr,Bt,G0];omega)) only[Av,Ap,if_pos,if_neg,Jj,Aj];congr 2;simp[K4,Rt])
theorem Bfq c:Tc c=Aa (Bk (Hm c)):=by
 unfold Tc;rw[Ahh,Ad];by_cases a:Fp c=true
 case neg=>rw[Ax3 (by simpa using a),show Fp c=false by simpa using a];rfl
 obtain⟨j,n,o⟩:=Ax2 a;simp only[a,Q8,Bf4 c.Ah (by omega),Hs,Ahl,Ahk,A0a c.text (by omega),B7g,Bfr,Ad,Dj,A6,cond_false];by_cases b:L9 c=true
 case neg=>unfold Hm;rw[if_neg b];unfold L9 at b;rw[a]at b;rw[Bsj b];rfl
 have i:Hm c=Hc (L7 c) [32]:=if_pos b;unfold L9 at b;rw[a]at b;rw[Bsm b,i];clear b i;obtain⟨k,e⟩:=A7l a;have f:∀l,l=(L7 c).map Bk->Ac (Ake l) (λr=>Aa r)=Aa (Bk (Hc (L7 c) [32])):=λl d=>by rw[B7f l 20000 (λx hx=>by rw[d]at hx;obtain⟨y,m,rfl⟩:=K7.1 hx;rw[Dr];exact e y m) (by rw[d,Gz];omega),Ad,d,V2];congr 3;exact(Ru λx _=>Hh x).trans (Akp _)
 obtain⟨D,g⟩:∃D,c.Ah=Bk D:=⟨_,Afi _⟩;unfold Aev;rw[g];rcases Sg j with h|h|h|h|h|h|h|h
 all_goals (simp(disch:=first|omega|(simp only[Bt,G0];omega)) only[Av,Ap,decide_true,Cg,A3,cond_true,cond_false,Ad,Aj];refine f _ ?_;unfold L7;simp(disch:=omega) only[if_pos,if_neg];simp[g,Hh])
def A7n (w:Au):List Cea:=w.Ag.map λt=>Bk (Hm t.c)
theorem Byd w (h:w.Ag.length<=1048576):Aie w=Aa (A7n w):=by
 unfold Aie
 rw[Axk w.Ag (λt=>Bk (Hm t.c)) (λx k s a hx b d=>by
  unfold Bi4 Bi3;rw[hx,Awf,Ad,Aj (by omega)])]
 rfl
def A7 (b:UInt8):List UInt8->List (List UInt8)
 |[]=>[[]]
 |x::r=>if x=b then []::A7 b r else(x::(A7 b r).headD [])::(A7 b r).tail
theorem Aad b:∀l,A7 b l≠[]
 |[]=>by simp[A7]
 |x::r=>by rw[A7];split<;>simp
theorem A0w b l:A7 b l=(A7 b l).headD []::(A7 b l).tail:=by
 cases h:A7 b l with
 |nil=>exact absurd h (Aad b l)
 |cons _ _=>rfl
theorem B8o b l:(A7 b l).headD []∈A7 b l:=by
 cases h:A7 b l with
 |nil=>exact absurd h (Aad b l)
 |cons _ _=>simp
theorem A0x{b}:∀ {p:List UInt8} (r:List UInt8),b∉p->A7 b (p++b::r)=p::A7 b r
 |[],r,_=>by rw[Iu,A7,if_pos rfl]
 |x::p,r,h=>by rw[Fi,A7,if_neg (λe:x=b=>h (e▸Bm ..)),A0x r (λk=>h (Bf _ k))];rfl
theorem Ahu{b}:∀ {p:List UInt8},b∉p->A7 b p=[p]
 |[],_=>rfl
 |x::p,h=>by rw[A7,if_neg (λe:x=b=>h (e▸Bm ..)),Ahu (λk=>h (Bf _ k))];rfl
theorem Ads{b}:∀ {l w:List UInt8},w∈A7 b l->b∉w
 |[],w,h=>by rw[A7,Eo]at h;rw[h];simp
 |x::r,w,h=>by
  rw[A7]at h;split at h
  ·rcases Bq.1 h with rfl|h
   ·simp
   ·exact Ads h
  ·rename_i hx;rcases Bq.1 h with rfl|h
   ·intro k;rcases Bq.1 k with k|k
    ·exact hx k.symm
    ·exact Ads (l:=r) (w:=(A7 b r).headD []) (B8o b r) k
   ·exact Ads (List.mem_of_mem_tail h)
theorem Apk{b}:∀ {ws:List (List UInt8)},ws≠[]->(∀w∈ws,b∉w)->A7 b (Hc ws [b])=ws
 |[],h,_=>absurd rfl h
 |[w],_,h=>by rw[K4];simp only[Rt,A6b,A56,Hu];exact Ahu (h w (Bm ..))
 |w::v::r,_,h=>by
  have a:=Apk (ws:=v::r) (by simp) (λx hx=>h x (Bf _ hx));have e:Hc (w::v::r) [b]=w++b::Hc (v::r) [b]:=by rw[K4,K4];simp[Rt]
  rw[e,A0x _ (h w (Bm ..)),a]
theorem Bg5 b:∀l,As4 [b] 0 (Lib.count l [b]) l=A7 b l
 |[]=>rfl
 |x::l=>by
  have g:=Bg5 b l;have c:([b]:List UInt8)≠[]:=by simp
  rw[A7,<-g];by_cases hx:x=b
  ·subst hx;have a:K3 (x::l) [x]=((0:Nat):Int):=by unfold K3;simp[Atc]
   rw[if_pos rfl,Aez c a,Yf,As4,a];rfl
  ·have e:([b]:List UInt8).isPrefixOf (x::l)=false:=by simp[Atc];exactλh=>hx h.symm
   rw[if_neg hx];by_cases hi:K3 l [b]= -1
   ·have a:K3 (x::l) [b]= -1:=by unfold K3;rw[e,hi];rfl
    rw[As3 a,As3 hi];rfl
   ·have f:=Lib.index_ge l [b];obtain⟨i,d⟩:∃i:Nat,K3 l [b]=i:=⟨(K3 l [b]).toNat,by omega⟩
    have a:K3 (x::l) [b]=((i+1:Nat):Int):=by
     unfold K3;rw[e,d];have:((i:Int)== -1)=false:=by rw[beq_eq_false_iff_ne];omega
     rw[this];simp
    rw[Aez c a,Aez c d,Yf 1,Yf 1,As4,As4,a,d,if_neg (by rw[beq_iff_eq];omega),if_neg (by rw[beq_iff_eq];omega)];rw[Gb,Gb,show i+1+([b]:List UInt8).length=(i+([b]:List UInt8).length)+1 from by simp,Abg];rfl
theorem Yk s:Bk s.data.toList=s:=(Afi s).symm
theorem B1t (l:List Cea):(l.map (·.data.toList)).map Bk=l:=by rw[V2];exact(Ru λx _=>Yk x).trans (Akp _)
def E5 (b:UInt8) (s:Cea):List Cea:=(A7 b s.data.toList).map Bk
theorem Bbl s b (h:s.size<4294967281):Aau s ⟨#[b]⟩=Aa (E5 b s):=by unfold Aau E5;rw[Aj ⟨h,Ef 1⟩,<-B1t (Qj _ _ _ _),Lib.splitB_data];congr 2;exact Bg5 b _
theorem Apa s i:Du s i=(s.data.toList[i]?).getD 0:=by
 unfold Du;by_cases h:i<s.size
 ·rw[getElem?_pos s i h,O9 (by exact h)];rfl
 ·rw[getElem?_neg s i h,Abh (by exact Nat.not_lt.1 h)]
theorem Avs (s:Cea) a b:s.extract a b=Bk ((s.data.toList.drop a).take (b-a)):=by rw[Afi (s.extract a b)];congr 1;rw[Lib.extract_data]
theorem Bgg s b (h:s.size<1099511627776):Aj1 s b=Aa (E5 b s):=by
 have p:s.data.toList.length=s.size:=rfl;unfold Aj1
 obtain⟨y,a,d⟩:=Kt (f:=A4y s b) (λz=>(0<=z.2.1/\z.2.1<=z.2.2/\z.2.2<=s.size/\b∉(s.data.toList.drop z.2.1.toNat).take (z.2.2.toNat-z.2.1.toNat)/\z.1++(A7 b (s.data.toList.drop z.2.1.toNat)).map Bk=E5 b s/\(z.1.length:Int)<=z.2.1)\/(z.2.2=s.size+1/\z.1=E5 b s)) (λz=>(s.size+1-z.2.2).toNat) (λy=>y.1=E5 b s) (λz n=>by
  unfold A4y Bk5;rcases n with⟨a,d,j,g,i,m⟩|⟨a,d⟩
  ·rw[Av j];by_cases c:z.2.2=s.size
   ·have k:(s.data.toList.drop z.2.1.toNat).take (z.2.2.toNat-z.2.1.toNat)=s.data.toList.drop z.2.1.toNat:=Rv (by rw[D0];omega);rw[Av c,Ad,Cg,Aj ⟨a,d,j⟩,Aj (by omega),Bh (by omega) (by omega),Bh (by omega) (by omega)];refine .inl ⟨_,rfl,.inr ⟨by simp only;omega,?_⟩,by simp only;omega⟩;rw[k]at g;rw[<-i,Ahu g,Avs,k];rfl
   ·have hx:s.data.toList.drop z.2.2.toNat=(Du s z.2.2.toNat)::s.data.toList.drop (z.2.2.toNat+1):=by rw[Apa,O9 (by omega)];exact Ae1 _
    have l:s.data.toList.drop z.2.1.toNat=(s.data.toList.drop z.2.1.toNat).take (z.2.2.toNat-z.2.1.toNat)++Du s z.2.2.toNat::s.data.toList.drop (z.2.2.toNat+1):=by
     conv=>lhs;rw[<-Kk (z.2.2.toNat-z.2.1.toNat) (s.data.toList.drop z.2.1.toNat)]
     rw[Mq,show z.2.1.toNat+(z.2.2.toNat-z.2.1.toNat)=z.2.2.toNat by omega,hx]
    rw[Ap c,Aj ⟨by omega,by omega⟩,Ad];by_cases e:Du s z.2.2.toNat=b
    ·rw[Av (by rw[e]),Aj ⟨a,d,j⟩,Aj (by omega),Bh (by omega) (by omega),Bh (by omega) (by omega)];refine .inl ⟨_,rfl,.inl ⟨by simp only;omega,by simp only;omega,by simp only;omega,by simp,?_,by simp only[Bt,B5,C0];omega⟩,by simp only;omega⟩;rw[l,e,A0x _ g]at i;simp only;rw[Avs,show(z.2.2+1).toNat=z.2.2.toNat+1 by omega,<-i,Ci];rfl
    ·rw[Ap (λq=>e (Tz.1 (by omega))),Bh (by omega) (by omega)];refine .inl ⟨_,rfl,.inl ⟨a,by simp only;omega,by simp only;omega,?_,i,m⟩,by simp only;omega⟩;simp only;rw[show(z.2.2+1).toNat-z.2.1.toNat=(z.2.2.toNat-z.2.1.toNat)+1 by omega];intro q;rw[l,Aks]at q;have o:((s.data.toList.drop z.2.1.toNat).take (z.2.2.toNat-z.2.1.toNat)).length=z.2.2.toNat-z.2.1.toNat:=by rw[Dh,D0];omega
     rw[o,Rv (by omega),show z.2.2.toNat-z.2.1.toNat+1-(z.2.2.toNat-z.2.1.toNat)=1 by omega]at q;rcases Ei.1 q with q|q
     ·exact g q
     ·exact e (Eq.symm (by simpa using q))
  ·rw[Ap (by omega)];exact .inr ⟨_,rfl,d⟩) ([],0,0) (.inl ⟨by simp,by simp,by simp,by simp,by simp[E5],by simp⟩)
 rw[a,Ad,d]
theorem Awi s (h:s.size<4294967281):Ad2 s=Aa (E5 32 s):=by unfold Ad2;rw[Bbl s 32 h];rfl
theorem Az0 s (h:s.size<1099511627776):Aec s=Aa (E5 32 s):=by unfold Aec;rw[Bgg s 32 h];rfl
def Hx (a:Nat) (l:List UInt8):Nat:=l.foldl (λa c=>a*10+(c.toNat-48)) a
theorem Anw a:Hx a []=a:=by unfold Hx;rw[Tq]
theorem Agr a c r:Hx a (c::r)=Hx (a*10+(c.toNat-48)) r:=by unfold Hx;rw[Fx]
theorem B18 l a c:Hx a (l++[c])=Hx a l*10+(c.toNat-48):=by unfold Hx;rw[V0,Fx,Tq]
theorem Bda:∀l a,a<=Hx a l
 |[],a=>by rw[Anw];exact Ef _
 |c::l,a=>by rw[Agr];have:=Bda l (a*10+(c.toNat-48));omega
def Ab2 (l:List UInt8):Prop:=∀c∈l,48<=c.toNat/\c.toNat<=57
theorem All{d} (h:d<10):(Tx (48+d)).toNat=48+d:=by rw[Atp];omega
theorem At9 n:Hx 0 (Ki n)=n/\Ab2 (Ki n)/\Ki n≠[]:=by
 induction n using A6t with
 |_ n e=>
  rw[Ki];split
  ·rename_i h;refine⟨?_,λc a=>?_,by simp⟩
   ·rw[Agr,Anw,All h];omega
   ·rw[Eo.1 a,All h];omega
  ·obtain⟨b,d,_⟩:=e (n/10) (by omega);refine⟨?_,λc a=>?_,by simp⟩
   ·rw[B18,b,All (by omega)];omega
   ·rcases Ei.1 a with a|a
    ·exact d c a
    ·rw[Eo.1 a,All (by omega)];omega
theorem Bd3:∀ {l:List UInt8} {a:Nat},Ab2 l->Hx a l<1844674407370955162->Lib.parseUint10 a l=.ok (Hx a l)
 |[],a,_,_=>by rw[Anw];rfl
 |c::l,a,h,k=>by have b:=h c (Bm ..);rw[Agr]at k;have d:=Bda l (a*10+(c.toNat-48));rw[Lib.parseUint10,if_pos b,if_neg (by omega),if_neg (by omega),Agr,Bd3 (λx hx=>h x (Bf _ hx)) k]
theorem Zn{n} (h:C3 n≠[]):0<=n/\n<=1000000000/\C3 n=Ki n.toNat/\Hx 0 (C3 n)=n.toNat/\Ab2 (C3 n):=by
 unfold C3 at h⊢;by_cases c:0<=n/\n<=1000000000
 ·rw[if_pos c];exact⟨c.1,c.2,rfl,(At9 _).1,(At9 _).2.1⟩
 ·rw[if_neg c]at h;exact absurd rfl h
theorem Ax1{n} (h:0<=n/\n<=1000000000):C3 n≠[]:=by unfold C3;rw[if_pos h];exact(At9 _).2.2
theorem Brp{n} (h:C3 n≠[]):Lib.atoiAll (C3 n)=.ok n:=by
 obtain⟨f,g,i,b,a⟩:=Zn h;cases e:C3 n with
 |nil=>exact absurd e h
 |cons c r=>
  rw[e]at a b;have j:=a c (Bm ..);have d:Lib.parseMag (c::r)=.ok n.toNat:=by unfold Lib.parseMag;rw[if_neg (by simp),Bd3 a (by omega),b]
  rw[Lib.atoiAll_plain c r (by omega) (by omega),d,Lib.signless,if_neg (by omega)];congr 1;omega
def En (l:List UInt8):Int×Bool:=if l≠[]/\C3 (Hx 0 l)=l then((Hx 0 l:Nat),true)else(0,false)
theorem Xr{n} (h:0<=n/\n<=1000000000):En (C3 n)=(n,true):=by have g:=Ax1 h;obtain⟨_,_,_,a,_⟩:=Zn g;unfold En;rw[a,show((n.toNat:Nat):Int)=n by omega,if_pos ⟨g,rfl⟩]
theorem Bh9{l} (h:(En l).2=true):l=C3 (En l).1/\l≠[]/\0<=(En l).1/\(En l).1<=1000000000:=by
 unfold En at h⊢;by_cases c:l≠[]/\C3 (Hx 0 l)=l
 ·rw[if_pos c];have:=Zn (n:=((Hx 0 l:Nat):Int)) (by rw[c.2];exact c.1);exact⟨c.2.symm,c.1,this.1,this.2.1⟩
 ·rw[if_neg c]at h;cases h
theorem Ak4{a b} (h:Bk a=Bk b):a=b:=by have:=congrArg (λs:Cea=>s.data.toList) h;simpa [Bk]using this
theorem Ry{a s}:(Bk a=s)↔a=s.data.toList:=by
 conv=>lhs;rw[<-Yk s]
 exact⟨Ak4,λh=>by rw[h]⟩
theorem Bbn s (h:s.size<=281474976710656):Aiz s=Aa (En s.data.toList):=by
 unfold Aiz;rw[Aj h];by_cases c:s.data.toList≠[]/\C3 (Hx 0 s.data.toList)=s.data.toList
 ·have d:L6 s=(((Hx 0 s.data.toList:Nat):Int),true):=by
   unfold L6
   conv=>lhs;rw[<-c.2]
   rw[Brp (by rw[c.2];exact c.1)]
  rw[d];simp only[A6,cond_false,Ad];rw[decide_eq_false (λq=>c.1 (by rw[q])),A3,Wn,Ad,Ad,c.2,Yk,decide_eq_true rfl,A6,A3];unfold En;rw[if_pos c]
 ·unfold En;rw[if_neg c];cases i:(L6 s).2 with
  |false=>rfl
  |true=>
   rw[A6,A3,Ad];by_cases e:s=⟨#[]⟩
   ·rw[decide_eq_true e];rfl
   ·rw[decide_eq_false e,A3,Wn,Ad,Ad];have f:¬Bk (C3 (L6 s).1)=s:=λq=>by have b:=Ry.1 q;have a:s.data.toList≠[]:=λz=>e ((Yk s).symm.trans (by rw[z];rfl));have g:=Zn (n:=(L6 s).1) (by rw[b];exact a);refine c ⟨a,?_⟩;rw[<-b,g.2.2.2.1,show(((L6 s).1.toNat:Nat):Int)=(L6 s).1 by omega]
    rw[decide_eq_false f];rfl
theorem Ao3 s:Th s=Aa (En s.data.toList):=by
 have k:s.data.toList.length=s.size:=rfl;unfold Th;by_cases t:s.size=0
 ·have e:s.data.toList=[]:=I4 (by omega);rw[Av (by omega),Ad,Cg,e];rfl
 rw[Ap (by omega),Ad];by_cases u:10<s.size
 ·have:¬(s.data.toList≠[]/\C3 (Hx 0 s.data.toList)=s.data.toList):=λq=>by have:=congrArg Atd q.2;have:=Me (Hx 0 s.data.toList);omega
  unfold En;rw[decide_eq_true (by omega),Cg,if_neg this]
 rw[decide_eq_false (by omega),A3]
 obtain⟨y,h,b⟩:=Kt (f:=A4r s) (λz=>(0<=z.2/\z.2<=s.size/\0<=z.1/\z.1.toNat<10^z.2.toNat)/\Ab2 (s.data.toList.take z.2.toNat)/\Hx z.1.toNat (s.data.toList.drop z.2.toNat)=Hx 0 s.data.toList) (λz=>(s.size-z.2).toNat)
  (λy=>(∃i:Int,y=.inl (((Hx 0 s.data.toList:Nat):Int),i))\/(y=.inr (0,false)/\¬Ab2 s.data.toList)) (λz ⟨⟨h,b,A,m⟩,o,g⟩=>by
  unfold A4r Bk0;by_cases c:z.2<(s.size:Int)
  ·have p:((10:Nat)^z.2.toNat:Nat)<=10^10:=Nat.pow_le_pow_right (by omega) (by omega);have B:=(Du s z.2.toNat).toNat_lt;have hx:s.data.toList.drop z.2.toNat=(Du s z.2.toNat)::s.data.toList.drop (z.2.toNat+1):=by rw[Apa,O9 (by omega)];exact Ae1 _
   have r:z.1.toNat<10000000000:=K8 m p;rw[Av c,Aj ⟨h,c⟩,Bh (by omega) (by omega)];by_cases d:(Du s z.2.toNat).toNat<48\/57<(Du s z.2.toNat).toNat
   ·refine .inr ⟨.inr (0,false),?_,.inr ⟨rfl,λq=>?_⟩⟩
    ·by_cases w:(Du s z.2.toNat).toNat<48
     ·rw[Av (by omega),Ad,Cg]
     ·rw[Ap (by omega),Ad,Av (by omega)]
    ·have:=q (Du s z.2.toNat) (Kj (i:=z.2.toNat) (by rw[hx];exact Bm ..));omega
   ·rw[Ap (by omega),Ad,Ap (by omega),Bh (by omega) (by omega),Bh (by omega) (by omega),Bh (by omega) (by omega)];refine .inl ⟨_,rfl,⟨⟨by simp only;omega,by simp only;omega,by simp only;omega,?_⟩,?_,?_⟩,by simp only;omega⟩
    ·simp only;rw[show(z.2+1).toNat=z.2.toNat+1 by omega,Nat.pow_succ];omega
    ·simp only;rw[show(z.2+1).toNat=z.2.toNat+1 by omega,Ae7];intro x a;rcases Ei.1 a with a|a
     ·exact o x a
     ·have:x=Du s z.2.toNat:=by
       rw[Apa];cases l:s.data.toList[z.2.toNat]? with
       |none=>rw[l]at a;simp at a
       |some v=>rw[l]at a;simpa using a
      rw[this];omega
    ·simp only;rw[hx,Agr]at g;rw[show(z.2+1).toNat=z.2.toNat+1 by omega,<-g];congr 1;omega
  ·rw[Ap c];refine .inr ⟨_,rfl,.inl ⟨z.2,?_⟩⟩;rw[show z.2.toNat=s.data.toList.length by omega,Vy,Anw]at g;rw[<-g,show((z.1.toNat:Nat):Int)=z.1 by omega]) (0,0) ⟨⟨by simp,by simp,by simp,by simp⟩,by intro x hx;simp at hx,rfl⟩
 rw[h,Ad];rcases b with⟨i,rfl⟩|⟨rfl,b⟩
 ·simp only[Jg];rw[Ahk,Ad];have j:s.data.toList≠[]:=λq=>by rw[q]at k;simp at k;omega
  unfold En;by_cases e:C3 (Hx 0 s.data.toList)=s.data.toList
  ·rw[decide_eq_true (Ry.2 e),A6,A3,if_pos ⟨j,e⟩]
  ·rw[decide_eq_false (λq=>e (Ry.1 q)),Fs,Cg,if_neg (λq=>e q.2)]
 ·simp only[Ato];unfold En;rw[if_neg (λq=>b (by have:=(Zn (n:=((Hx 0 s.data.toList:Nat):Int)) (by rw[q.2];exact q.1)).2.2.2.2;rwa [q.2]at this))]
def Ix:List (List UInt8)->Option (List Int)
 |[]=>Aa []
 |w::r=>if(En w).2=true then(Ix r).map ((En w).1:: ·)else Ab
theorem Azm:∀ {ws:List (List UInt8)} {l:List Int},Ix ws=Aa l->ws=l.map C3/\(∀w∈ws,w≠[])/\∀n∈l,0<=n/\n<=1000000000
 |[],l,h=>by cases h;simp
 |w::r,l,h=>by
  rw[Ix]at h;split at h
  ·rename_i c;obtain⟨m,b,rfl⟩:=Di.1 h;obtain⟨g1,g2,g3⟩:=Azm b;obtain⟨d,e,f⟩:=Bh9 c;refine⟨by rw[Fa,<-d,<-g1],λx hx=>?_,λn a=>?_⟩
   ·rcases Bq.1 hx with rfl|hx
    ·exact e
    ·exact g2 x hx
   ·rcases Bq.1 a with rfl|a
    ·exact f
    ·exact g3 n a
  ·cases h
theorem Azl:∀ {l:List Int},(∀n∈l,0<=n/\n<=1000000000)->Ix (l.map C3)=Aa l
 |[],_=>rfl
 |n::l,h=>by rw[Fa,Ix,Xr (h n (Bm ..)),if_pos rfl,Azl (λx hx=>h x (Bf _ hx))];rfl
theorem Bg7 b:∀l,(A7 b l).length<=l.length+1
 |[]=>by simp[A7]
 |x::l=>by
  have a:=Bg7 b l;rw[A7];split
  ·simp only[B5];omega
  ·rw[A0w]at a;simp only[B5]at a⊢;omega
theorem Axc b:∀l,Hc (A7 b l) [b]=l
 |[]=>rfl
 |x::l=>by
  have a:=Axc b l;rw[A7];rw[A0w,K4]at a;split
  ·rename_i h;rw[K4,A0w,h];simp only[Rt,Fa,As9,Iu,Brb,Fi]at a⊢;rw[a]
  ·rw[K4,Fi,a]
theorem Bg6{b}:∀ {ws:List (List UInt8)},ws≠[]->(∀w∈ws,w≠[])->2*ws.length<=(Hc ws [b]).length+1
 |[],h,_=>absurd rfl h
 |[w],_,h=>by have:=Ae2.2 (h w (Bm ..));rw[K4];simp only[Bt,B5,C0];omega
 |w::v::r,_,h=>by
  have a:=Bg6 (b:=b) (ws:=v::r) (by simp) (λx hx=>h x (Bf _ hx));have:=Ae2.2 (h w (Bm ..));have e:Hc (w::v::r) [b]=w++b::Hc (v::r) [b]:=by rw[K4,K4];simp[Rt]
  rw[e];simp only[Bt,B5]at a⊢;omega
theorem Ale b s:(E5 b s).map (·.data.toList)=A7 b s.data.toList:=by unfold E5;rw[V2];exact(Ru λx _=>Hh x).trans (Akp _)
theorem Alc b s:(E5 b s).length<=s.size+1:=by unfold E5;rw[Gz];exact Bg7 b _
theorem B0o{ws b}:∀ {w:List UInt8},w∈ws->w.length<=(Hc ws [b]).length:=by
 induction ws with
 |nil=>intro w h;cases h
 |cons v r a=>
  intro w h;cases r with
  |nil=>rw[Eo.1 h,K4];simp
  |cons u r=>
   have e:Hc (v::u::r) [b]=v++b::Hc (u::r) [b]:=by rw[K4,K4];simp[Rt]
   rw[e,Bt,B5];rcases Bq.1 h with rfl|h
   ·omega
   ·have:=a h;omega
theorem Alg{b s x} (h:x∈E5 b s):x.size<=s.size/\b∉x.data.toList:=by obtain⟨w,a,rfl⟩:=K7.1 h;have:=B0o (b:=b) a;rw[Axc]at this;rw[Dr,Hh];exact⟨this,Ads a⟩
def rdR (o:Option (List Int)):List Int×Bool:=match o with|some l=>(l,true)|none=>([],false)
theorem Bbt s (h:s.size<=1048576):Ai9 s=Aa (rdR (Ix (A7 46 s.data.toList))):=by
 have d:=Alc 46 s;unfold Ai9
 rw[Bbl s 46 (by omega),Ad,Fk (F:=A26 (E5 46 s)) (e:=λz=>(Ej z:Sum (List Int) (List Int×Bool))) (E5 46 s) (λr k z=>z.length<=k)
  (λr _ z=>match Ix (r.map (·.data.toList))with|some l=>.inl (z++l)|none=>.inr ([],false)) (λz _=>by simp[Ix]) (λx r k z a hx c=>by
  have b:x∈E5 46 s:=hx▸Cj a;unfold A26 Bj0;rw[hx,Bbn x (by have:=(Alg b).1;omega),Ad,Fa,Ix];cases f:(En x.data.toList).2 with
  |false=>exact .inr rfl
  |true=>rw[A6,A3,Aj (by omega),if_pos rfl];refine .inl ⟨_,rfl,by simp;omega,?_⟩;cases Ix (r.map (·.data.toList))<;>simp) [] (by simp),Ad,Ale]
 cases Ix (A7 46 s.data.toList)<;>simp[rdR]
def O1 (w:List UInt8):List Int×Bool:=if w=[45]then([],true)else match Ix (A7 46 w)with
 |some l=>if l.all Ds=true then(l,true)else([],false)
 |none=>([],false)
theorem V9{s}:(s=(⟨#[45]⟩:Cea))↔s.data.toList=[45]:=⟨λh=>by rw[h],λh=>by rw[<-Yk s,h];rfl⟩
theorem By9 s (h:s.size<=1048576):Aq7 s=Aa (O1 s.data.toList):=by
 unfold Aq7 O1;by_cases c:s.data.toList=[45]
 ·rw[Av (V9.2 c),if_pos c]
 ·rw[Ap (λq=>c (V9.1 q)),if_neg c,Bbt s h,Ad];cases Ix (A7 46 s.data.toList)with
  |none=>rfl
  |some l=>simp only[rdR,A6,cond_false];rw[Amt,Ad,Ad];cases a:l.all Ds<;>rfl
theorem Bgj s (h:s.size<=1048576):Ael s=Aa (O1 s.data.toList):=by
 have i:s.data.toList.length=s.size:=rfl;have m:=Alc 46 s;unfold Ael O1;by_cases c:s.data.toList=[45]
 ·rw[Av (V9.2 c),if_pos c]
 rw[Ap (λq=>c (V9.1 q)),if_neg c,Bgg s 46 (by omega),Ad,Fk (F:=A4s (E5 46 s)) (e:=λz=>(Ej z:Sum (List Int) (List Int×Bool))) (E5 46 s) (λr k z=>z.length<=k)
  (λr _ z=>match Ix (r.map (·.data.toList))with|some l=>if l.all Ds=true then .inl (z++l)else .inr ([],false)|none=>.inr ([],false)) (λz _=>by simp[Ix]) (λx r k z n hx j=>by
  unfold A4s Bk3;rw[hx,Ao3 x,Ad,Fa,Ix];cases p:(En x.data.toList).2 with
  |false=>exact .inr rfl
  |true=>
   rw[A6,A3,Bgd,Ad,Ad,if_pos rfl];cases ho:Ds (En x.data.toList).1 with
   |false=>refine .inr ?_;cases Ix (r.map (·.data.toList))<;>simp[ho]
   |true=>rw[A6,A3,Aj (by omega)];refine .inl ⟨_,rfl,by simp;omega,?_⟩;cases Ix (r.map (·.data.toList))<;>simp[ho]) [] (by simp),Ad,Ale]
 cases e:Ix (A7 46 s.data.toList)with
 |none=>rfl
 |some l=>
  simp only[Iu];obtain⟨g1,g2,g3⟩:=Azm e;cases d:l.all Ds with
  |false=>rfl
  |true=>
   have a:=Axc 46 s.data.toList;have f:=Bg6 (b:=46) (Aad 46 s.data.toList) g2;rw[a]at f;have o:l.length=(A7 46 s.data.toList).length:=by rw[g1,Gz]
   rw[if_pos rfl,if_pos rfl];simp only[Jg];rw[A0a l (by omega),Ad];have g:Lu l=s.data.toList:=by unfold Lu Pg;rw[d,if_pos rfl,if_neg (λq=>by rw[q]at g1;exact Aad _ _ g1),<-g1,a]
   rw[decide_eq_true (Ry.2 g)];rfl
theorem Bs3{l} (h:Ab2 l):(46:UInt8)∉l/\(32:UInt8)∉l/\(44:UInt8)∉l:=⟨λq=>by have:=h _ q;simp at this,λq=>by have:=h _ q;simp at this,λq=>by have:=h _ q;simp at this⟩
theorem Us n:(46:UInt8)∉C3 n/\(32:UInt8)∉C3 n/\(44:UInt8)∉C3 n:=by
 by_cases h:C3 n=[]
 ·rw[h];simp
 ·exact Bs3 (Zn h).2.2.2.2
theorem A0v{l} (a:l≠[]):A7 46 (Pg l)=l.map C3:=Apk (by simpa using a) λw b=>by obtain⟨n,_,rfl⟩:=K7.1 b;exact(Us n).1
theorem Bij{l} (h:l.all Ds=true):O1 (Lu l)=(l,true):=by
 unfold Lu;rw[h,if_pos rfl];by_cases c:l=[]
 ·rw[c];rfl
 ·rw[if_neg c];have a:∀n∈l,0<=n/\n<=1000000000:=λn b=>by have:=Ff.1 h n b;unfold Ds at this;simp only[decide_eq_true_eq]at this;omega
  unfold O1;rw[if_neg,A0v c,Azl a]
  ·simp only;rw[h,if_pos rfl]
  ·intro q;have:=congrArg (A7 46) q;rw[A0v c]at this;cases l with
   |nil=>exact c rfl
   |cons n r=>
    have e:C3 n=[45]:=by have:=congrArg (λx=>x.headD []) this;exact this
    have g:=(Zn (n:=n) (by rw[e];simp)).2.2.2.2;rw[e]at g;have:=g 45 (Bm ..);simp at this
def Pq (g:List UInt8->Option Ae):List (List UInt8)->Option (List Ae)
 |[]=>Aa []
 |w::r=>match g w with
  |none=>Ab
  |some p=>(Pq g r).map (p:: ·)
theorem Axs{g}:∀ {o:List Ae},(∀p∈o,g (Ih p)=Aa p)->Pq g (o.map Ih)=Aa o
 |[],_=>rfl
 |p::o,h=>by rw[Fa,Pq,h p (Bm ..),Axs (λq a=>h q (Bf _ a))];rfl
theorem Bd9 {F:Nat->List Ae->Option (Lr (List Ae) (Sum (List Ae) (List Ae×Bool)))} (l:List Cea) (g:List UInt8->Option Ae)
  (b:∀x k z,k<l.length->el l k=x->x∈l->z.length<=k->F k z=Aa (match g x.data.toList with|none=>.out (.inr ([],false))|some p=>.go (z++[p]))):
  A2 F (λz=>(Ej z:Sum (List Ae) (List Ae×Bool))) l.length 0 []=Aa (match Pq g (l.map (·.data.toList))with|some o=>.inl o|none=>.inr ([],false)):=by
 rw[Fk (F:=F) (e:=λz=>(Ej z:Sum (List Ae) (List Ae×Bool))) l (λr k z=>z.length<=k)
  (λr _ z=>match Pq g (r.map (·.data.toList))with|some o=>.inl (z++o)|none=>.inr ([],false)) (λz _=>by simp[Pq]) (λx r k z a hx c=>by
  rw[b x k z a hx (hx▸Cj a) c,Fa,Pq];cases g x.data.toList with
  |none=>exact .inr rfl
  |some p=>refine .inl ⟨_,rfl,by simp;omega,?_⟩;cases Pq g (r.map (·.data.toList))<;>simp) [] (by simp)]
 simp only[Iu]
def Qt:List UInt8->Option Ae
 |[]=>Ab
 |c::r=>match Ix (A7 46 r)with
  |none=>Ab
  |some l=>Aa (if c=107 then⟨1,el l 0,[]⟩else if c=100 then⟨3,el l 0,[]⟩else⟨2,0,l⟩)
def Rc:List UInt8->Option Ae
 |[]=>Ab
 |c::r=>if r=[]then Ab else if c=107 then(if(En r).2=true then Aa ⟨1,(En r).1,[]⟩else Ab)else if c=100 then(if(En r).2=true then Aa ⟨3,(En r).1,[]⟩else Ab)
  else if c=112 then(if(O1 r).2=true then Aa ⟨2,0,(O1 r).1⟩else Ab)else if(En r).2=true then Aa ⟨0,(En r).1,[]⟩else Ab
theorem okT{p} (h:B7 p=true) (t:P6 p):(p=⟨1,p.n,[]⟩/\0<=p.n/\p.n<=200)\/(p=⟨2,0,p.Bd⟩/\p.Bd≠[]/\p.Bd.all Ds=true)\/(p=⟨3,p.n,[]⟩/\0<=p.n/\p.n<=200):=by
 have d:=Nz h;have a:p=⟨p.kind,p.n,p.Bd⟩:=rfl;rcases t with⟨b,c,e2⟩|⟨b,e2,c,e⟩|⟨b,c,e2⟩
 ·exact .inl ⟨a.trans (by rw[b,e2]),d.2⟩
 ·exact .inr (.inl ⟨a.trans (by rw[b,e2]),c,e⟩)
 ·exact .inr (.inr ⟨a.trans (by rw[b,e2]),d.2⟩)
theorem B79 {l:List Int} (h:l.all Ds=true):∀n∈l,0<=n/\n<=1000000000:=λn a=>by have:=Ff.1 h n a;unfold Ds at this;simp only[decide_eq_true_eq]at this;omega
theorem B0e{p} (h:B7 p=true) (t:P6 p):Qt (Ih p)=Aa p:=by
 rcases okT h t with⟨e,a⟩|⟨e,a,b⟩|⟨e,a⟩<;>rw[e]
 ·show Qt (107::C3 p.n)=_;rw[Qt,Ahu (Us _).1,Ix,Xr (by omega)];rfl
 ·show Qt (112::Pg p.Bd)=_;rw[Qt,A0v a,Azl (B79 b)];rfl
 ·show Qt (100::C3 p.n)=_;rw[Qt,Ahu (Us _).1,Ix,Xr (by omega)];rfl
theorem B8n{p} (h:B7 p=true) (t:P6 p):Rc (Ih p)=Aa p:=by
 rcases okT h t with⟨e,b⟩|⟨e,b,c⟩|⟨e,b⟩<;>rw[e]
 ·show Rc (107::C3 p.n)=_;rw[Rc,if_neg (Ax1 (by omega)),Xr (by omega)];rfl
 ·show Rc (112::Pg p.Bd)=_;have a:=Bij c;unfold Lu at a;rw[c,if_pos rfl,if_neg b]at a;have d:Pg p.Bd≠[]:=λq=>by rw[q]at a;have:O1 []=([],false):=rfl;rw[this]at a;have:=congrArg Prod.snd a;cases this
  rw[Rc,if_neg d,a];rfl
 ·show Rc (100::C3 p.n)=_;rw[Rc,if_neg (Ax1 (by omega)),Xr (by omega)];rfl
theorem Axa{b c}:∀ {ws:List (List UInt8)},c∈Hc ws [b]->c=b\/∃w∈ws,c∈w
 |[],h=>by cases h
 |[w],h=>by rw[K4]at h;simp only[Rt,A6b,A56,Hu]at h;exact .inr ⟨w,Bm ..,h⟩
 |w::v::r,h=>by
  have e:Hc (w::v::r) [b]=w++b::Hc (v::r) [b]:=by rw[K4,K4];simp[Rt]
  rw[e,Ei,Bq]at h;rcases h with h|h|h
  ·exact .inr ⟨w,Bm ..,h⟩
  ·exact .inl h
  ·rcases Axa h with h|⟨x,hx,h⟩
   ·exact .inl h
   ·exact .inr ⟨x,Bf _ hx,h⟩
theorem A8f l:(32:UInt8)∉Pg l/\(44:UInt8)∉Pg l:=by
 constructor<;>intro q<;>(rcases Axa q with q|⟨w,a,q⟩;cases q;obtain⟨n,_,rfl⟩:=K7.1 a)
 ·exact(Us n).2.1 q
 ·exact(Us n).2.2 q
theorem Bd7 p:(32:UInt8)∉Ih p/\(44:UInt8)∉Ih p:=by
 have a:=Us p.n;have b:=A8f p.Bd;unfold Ih;split
 ·simp[a]
 ·split<;>simp[a,b]
theorem B2u{o} (h:Ca o=true) (n:o=Co o) (a:o≠[]):Ep o=Hc (o.map Ih) [32]:=by unfold Ep;rw[if_pos h,<-n,if_neg a]
theorem Bdt{o} (h:Ca o=true) (n:o=Co o) (a:o≠[]):A7 32 (Ep o)=o.map Ih:=by rw[B2u h n a];exact Apk (by simpa using a) λw b=>by obtain⟨p,_,rfl⟩:=K7.1 b;exact(Bd7 p).1
theorem An2{o} (h:Ca o=true) (n:o=Co o):∀p∈o,B7 p=true/\P6 p:=λp a=>
 ⟨J9 (Hp h) a,(Ax0 h).2 p (n▸a)|>.2⟩
theorem Bds{o} (h:Ca o=true) (n:o=Co o) (e:Ep o=[45]):o=[]:=by
 cases o with
 |nil=>rfl
 |cons p r=>
  have w:=Bdt h n (by simp);rw[e]at w;have:Ih p=[45]:=by have:=congrArg (λx=>x.headD []) w;exact this.symm
  unfold Ih at this;split at this
  ·cases this
  ·split at this<;>cases this
theorem Sm:Ca []=true/\([]:List Ae)=Co []/\Ep []=[45]:=by refine⟨by decide,by decide,by decide⟩
open Classical in
def Kg (L:List UInt8):List Ae×Bool:=if h:∃o,Ca o=true/\o=Co o/\Ep o=L then(Classical.choose h,true)else([],false)
theorem Ac5{o} (h:Ca o=true) (n:o=Co o) (c:Ep o≠[45]):Pq Qt (A7 32 (Ep o))=Aa o/\Pq Rc (A7 32 (Ep o))=Aa o:=by have b:o≠[]:=λq=>c (by rw[q];exact Sm.2.2);rw[Bdt h n b];exact⟨Axs λp a=>B0e (An2 h n p a).1 (An2 h n p a).2,Axs λp a=>B8n (An2 h n p a).1 (An2 h n p a).2⟩
theorem B2w{o d} (h:Ca o=true) (n:o=Co o) (f:Ca d=true) (n':d=Co d) (e:Ep o=Ep d):o=d:=by
 by_cases c:Ep o=[45]
 ·rw[Bds h n c,Bds f n' (e▸c)]
 ·have a:=(Ac5 h n c).1;have b:=(Ac5 f n' (e▸c)).1;rw[e,b]at a;exact(D1.inj a).symm
theorem Adz{o L} (h:Ca o=true) (n:o=Co o) (e:Ep o=L):Kg L=(o,true):=by have hx:∃o,Ca o=true/\o=Co o/\Ep o=L:=⟨o,h,n,e⟩;unfold Kg;rw[dif_pos hx];have g:=Classical.choose_spec hx;rw[B2w g.1 g.2.1 h n (g.2.2.trans e.symm)]
theorem Ah5{L} (h:∀o,Ca o=true->o=Co o->Ep o≠L):Kg L=([],false):=by unfold Kg;rw[dif_neg];rintro ⟨o,h1,h2,h3⟩;exact h o h1 h2 h3
theorem Cbo L:Kg L=([],false)\/((Kg L).2=true/\Ca (Kg L).1=true/\(Kg L).1=Co (Kg L).1/\Ep (Kg L).1=L):=by
 by_cases hx:∃o,Ca o=true/\o=Co o/\Ep o=L
 ·obtain⟨o,a,b,c⟩:=hx;rw[Adz a b c];exact .inr ⟨rfl,a,b,c⟩
 ·exact .inl (Ah5 λo a b c=>hx ⟨o,a,b,c⟩)
theorem B2v{o} (h:Ca o=true):Ep (Co o)=Ep o:=by unfold Ep;rw[if_pos h,if_pos (Ac3 h),Anv (Zr h)]
theorem Af4{s c r} (h:s.data.toList=c::r):s.extract 1 s.size=Bk r/\Du s 0=c:=by
 have a:s.size=r.length+1:=by rw[show s.size=s.data.toList.length from rfl,h];rfl
 rw[Avs,Apa,h,a];simp
theorem A7c{s}:(s=(⟨#[]⟩:Cea))↔s.data.toList=[]:=⟨λh=>by rw[h],λh=>by rw[<-Yk s,h];rfl⟩
theorem By8 s (h:s.size<=1048576):Aq6 s=Aa (Kg s.data.toList):=by
 unfold Aq6;by_cases c:s.data.toList=[45]
 ·rw[Av (V9.2 c),c,Adz Sm.1 Sm.2.1 Sm.2.2]
 have v:=Alc 32 s
 rw[Ap (λq=>c (V9.1 q)),Awi s (by omega),Ad,Bd9 (E5 32 s) Qt (λx k z w hx p B=>by
  have A:=(Alg p).1;unfold Bjm Bjl;rw[hx];cases b:x.data.toList with
  |nil=>rw[Av (A7c.2 b)];rfl
  |cons c r=>
   obtain⟨n,e2⟩:=Af4 b;have u:x.size=r.length+1:=by rw[show x.size=x.data.toList.length from rfl,b];rfl
   rw[Ap (λq=>by rw[A7c.1 q]at b;cases b),Aj (by omega),n,Bbt _ (by rw[Dr];omega),Hh,Ad,Qt];cases t:Ix (A7 46 r)with
   |none=>rfl
   |some l=>
    obtain⟨g1,_,_⟩:=Azm t
    have y:0<l.length:=by
     cases l with
     |nil=>exact absurd g1 (Aad 46 r)
     |cons _ _=>simp
    have f:0<=(0:Int)/\(0:Int)<(l.length:Int):=by omega
    show _=Aa (Lr.go (z++[if c=107 then(⟨1,el l 0,[]⟩:Ae)else if c=100 then⟨3,el l 0,[]⟩else⟨2,0,l⟩]));rw[show rdR (Aa l)=(l,true)from rfl,A6,A3,Aj (by omega),e2];by_cases g:c=107
    ·rw[Av (by rw[g];rfl),Aj f,Aj (by omega),if_pos g]
    ·rw[Ap (λq=>g (Tz.1 (by rw[show(107:UInt8).toNat=107 from rfl];omega))),if_neg g];by_cases i:c=100
     ·rw[Av (by rw[i];rfl),Aj f,Aj (by omega),if_pos i]
     ·rw[Ap (λq=>i (Tz.1 (by rw[show(100:UInt8).toNat=100 from rfl];omega))),Aj (by omega),if_neg i]),Ad,Ale]
 cases e:Pq Qt (A7 32 s.data.toList)with
 |none=>
  rw[Ah5 λo j m a=>by
   have:=(Ac5 j m (by rw[a];exact c)).1;rw[a,e]at this;cases this]
  rfl
 |some o=>
  simp only[Jg];rw[Se,Ad];by_cases d:Ca o=true/\Ep o=s.data.toList
  ·rw[d.1,A6,A3,Awm,Ad,Ad,decide_eq_true (Ry.2 d.2),A6,A3,Ams,d.1,Ad,if_pos rfl,
    Adz (Ac3 d.1) (Anv (Zr d.1)).symm ((B2v d.1).trans d.2)]
  ·rw[Ah5 λC j m a=>by
    have:=(Ac5 j m (by rw[a];exact c)).1;rw[a,e]at this;exact d (by rw[D1.inj this];exact⟨j,a⟩)]
   cases ho:Ca o with
   |false=>rfl
   |true=>rw[A6,A3,Awm,Ad,Ad,decide_eq_false (λq=>d ⟨ho,Ry.1 q⟩)];rfl
theorem B61 s (h:s.size<=1048576):Ar9 s=Aa (Kg s.data.toList):=by
 unfold Ar9;by_cases c:s.data.toList=[45]
 ·rw[Av (V9.2 c),c,Adz Sm.1 Sm.2.1 Sm.2.2]
 have v:=Alc 32 s
 rw[Ap (λq=>c (V9.1 q)),Az0 s (by omega),Ad,Bd9 (E5 32 s) Rc (λx k z w hx t A=>by
  have y:=(Alg t).1;unfold Bk2 Bk1;rw[hx];cases m:x.data.toList with
  |nil=>rw[Av (by rw[show x.size=x.data.toList.length from rfl,m];decide)];rfl
  |cons c r=>
   obtain⟨p,e2⟩:=Af4 m;have n:x.size=r.length+1:=by rw[show x.size=x.data.toList.length from rfl,m];rfl
   rw[Rc];by_cases l:r=[]
   ·rw[Av (by rw[n,l];decide),if_pos l]
   have u:0<r.length:=Ae2.2 l;rw[Ap (by omega),if_neg l,Aj (by omega),p,Ao3,Hh,Ad,Aj (by omega),e2];by_cases b:c=107
   ·rw[Av (by rw[b];rfl),if_pos b];cases (En r).2 with
    |false=>rfl
    |true=>rw[A6,A3,Aj (by omega)];rfl
   rw[Ap (λq=>b (Tz.1 (by rw[show(107:UInt8).toNat=107 from rfl];omega))),if_neg b];by_cases f:c=100
   ·rw[Av (by rw[f];rfl),if_pos f];cases (En r).2 with
    |false=>rfl
    |true=>rw[A6,A3,Aj (by omega)];rfl
   rw[Ap (λq=>f (Tz.1 (by rw[show(100:UInt8).toNat=100 from rfl];omega))),if_neg f];by_cases g:c=112
   ·rw[Av (by rw[g];rfl),if_pos g,Aj (by omega),Bgj _ (by rw[Dr];omega),Hh,Ad];cases (O1 r).2 with
    |false=>rfl
    |true=>rw[A6,A3,Aj (by omega)];rfl
   rw[Ap (λq=>g (Tz.1 (by rw[show(112:UInt8).toNat=112 from rfl];omega))),if_neg g];cases (En r).2 with
   |false=>rfl
   |true=>rw[A6,A3,Aj (by omega)];rfl),Ad,Ale]
 cases e:Pq Rc (A7 32 s.data.toList)with
 |none=>
  rw[Ah5 λo i j a=>by
   have:=(Ac5 i j (by rw[a];exact c)).2;rw[a,e]at this;cases this]
  rfl
 |some o=>
  simp only[Jg];rw[Bf3,Ad];by_cases d:Ca o=true/\o=Co o/\Ep o=s.data.toList
  ·rw[d.1,decide_eq_true d.2.1,K1,A6,A3,Az7,Ad,Ad,decide_eq_true (Ry.2 d.2.2),A6,A3,Adz d.1 d.2.1 d.2.2]
  ·rw[Ah5 λB i j a=>by
    have:=(Ac5 i j (by rw[a];exact c)).2;rw[a,e]at this;exact d (by rw[D1.inj this];exact⟨i,j,a⟩)]
   cases ho:Ca o&&decide (o=Co o)with
   |false=>rfl
   |true=>simp only[A9,decide_eq_true_eq]at ho;rw[A6,A3,Az7,Ad,Ad,decide_eq_false (λq=>d ⟨ho.1,ho.2,Ry.1 q⟩)];rfl
def Dx (w:List UInt8):Int:=if w=I7 1 then 1 else if w=I7 2 then 2 else if w=I7 3 then 3 else if w=I7 4 then 4 else if w=I7 5 then 5 else if w=I7 6 then 6 else if w=I7 7 then 7 else if w=I7 8 then 8 else 0
theorem Axf w:0<=Dx w/\Dx w<=8:=by unfold Dx;(repeat' split)<;>omega
theorem B0q{k} (h:1<=k/\k<=8):Dx (I7 k)=k:=by rcases Sg h with h|h|h|h|h|h|h|h<;>subst h<;>rfl
theorem Bcg{k} (h:1<=k/\k<=8){w}:I7 k=w↔Dx w=k:=by
 constructor
 ·rintro rfl;exact B0q h
 ·intro e;unfold Dx at e
  repeat' split at e
  all_goals first|(rename_i q;rw[q,<-e])|omega
theorem Bch {F:Int×Int×Cea×Int×Int×Int->Option (Lr (Int×Int×Cea×Int×Int×Int) (Int×Int×Cea×Int×Int×Int))} w
  (d:∀z,1<=z.1->z.1<=8->F z=Aa (.go (z.1+1,if I7 z.1=w then z.1 else z.2.1,z.2.2))) (g:∀z,¬z.1<=8->F z=Aa (.out z)):
  Cp F (1,0,Cb,0,0,0)=Aa (9,Dx w,Cb,0,0,0):=by
 have h:=Axf w;refine(Acp (f:=F) (λz=>(1<=z.1/\z.1<=9)/\z.2=(if Dx w<z.1 then Dx w else 0,Cb,0,0,0)) (λz=>(9-z.1).toNat) (λ_=>(9,Dx w,Cb,0,0,0)) (λz ⟨a,b⟩=>?_) (1,0,Cb,0,0,0) ⟨by simp,?_⟩)
 ·by_cases c:z.1<=8
  ·refine .inl ⟨_,d z a.1 c,⟨⟨by simp only;omega,by simp only;omega⟩,?_⟩,by simp only;omega,rfl⟩;rw[b];simp only;by_cases e:I7 z.1=w
   ·have:=(Bcg ⟨a.1,c⟩).1 e;rw[if_pos e,if_pos (by omega),this]
   ·have:Dx w≠z.1:=λq=>e ((Bcg ⟨a.1,c⟩).2 q);rw[if_neg e];congr 1;by_cases l:Dx w<z.1
    ·rw[if_pos l,if_pos (by omega)]
    ·rw[if_neg l,if_neg (by omega)]
  ·refine .inr ((g z c).trans ?_);have e:z=(z.1,z.2):=rfl;rw[e,b,show z.1=9 by omega,if_pos (by omega)]
 ·simp only;split
  ·rw[show Dx w=0 by omega]
  ·rfl
def Oo (w:List UInt8):List UInt8:=w.map λx=>if x=44 then 32 else x
def Md (ws:List (List UInt8)) (k:Nat):Int:=if ws.length<=k then-1 else if(En (el ws k)).2=true then(En (el ws k)).1 else-1
def Lj (ws:List (List UInt8)):Bb:=
 if Dx (el ws 0)=1 then⟨1,if 1<ws.length then Bk (el ws 1)else Cb,0,0,0,[],if ws.length=3 then(O1 (el ws 2)).1 else []⟩
 else if Dx (el ws 0)=2 then⟨2,if 1<ws.length then Bk (el ws 1)else Cb,Md ws 2,Md ws 3,Md ws 4,if ws.length=6 then(Kg (Oo (el ws 5))).1 else [],[]⟩
 else if Dx (el ws 0)=3 then⟨3,if 1<ws.length then Bk (el ws 1)else Cb,0,0,Md ws 2,[],[]⟩
 else if Dx (el ws 0)=4 then⟨4,if 1<ws.length then Bk (el ws 1)else Cb,0,0,0,[],[]⟩
 else if Dx (el ws 0)=5 then⟨5,if 1<ws.length then Bk (el ws 1)else Cb,0,0,Md ws 2,[],[]⟩
 else if Dx (el ws 0)=6 then⟨6,Cb,Md ws 1,0,Md ws 2,[],[]⟩
 else if Dx (el ws 0)=7 then⟨7,Cb,Md ws 1,0,0,[],[]⟩
 else⟨Dx (el ws 0),Cb,0,0,0,[],[]⟩
def Rb (ws:List (List UInt8)):Bb:=
 if Dx (el ws 0)=1 then⟨1,Bk (el ws 1),0,0,0,[],(O1 (el ws 2)).1⟩
 else if Dx (el ws 0)=2 then⟨2,Bk (el ws 1),(En (el ws 2)).1,(En (el ws 3)).1,(En (el ws 4)).1,(Kg (Oo (el ws 5))).1,[]⟩
 else if Dx (el ws 0)=3 then⟨3,Bk (el ws 1),0,0,(En (el ws 2)).1,[],[]⟩
 else if Dx (el ws 0)=4 then⟨4,Bk (el ws 1),0,0,0,[],[]⟩
 else if Dx (el ws 0)=5 then⟨5,Bk (el ws 1),0,0,(En (el ws 2)).1,[],[]⟩
 else if Dx (el ws 0)=6 then⟨6,Cb,(En (el ws 1)).1,0,(En (el ws 2)).1,[],[]⟩
 else if Dx (el ws 0)=7 then⟨7,Cb,(En (el ws 1)).1,0,0,[],[]⟩
 else⟨Dx (el ws 0),Cb,0,0,0,[],[]⟩
def c00:Bb:=⟨0,Cb,0,0,0,[],[]⟩
def Sa (c:Bb) (L:List UInt8):Bb×Bool:=if Hm c≠[]/\Hm c=L then(c,true)else(c00,false)
theorem Sf s C:(Ac (O2 C) λr=>Ac (bif decide (r=(⟨#[]⟩:Cea))then(Aa true)else(Aa (!decide (r=s)))) λc=>bif c then(Aa ((⟨0,Cb,0,0,0,[],[]⟩:Bb),false))else(Aa (C,true)))=Aa (Sa C s.data.toList):=by
 rw[Awf,Ad];unfold Sa;by_cases h:Hm C=[]
 ·rw[Av ((Ak5 _).2 h),Ad,Cg,if_neg (λq=>q.1 h)];rfl
 ·rw[Ap (λq=>h ((Ak5 _).1 q)),Ad];by_cases e:Hm C=s.data.toList
  ·rw[decide_eq_true (Ry.2 e),A6,A3,if_pos ⟨h,e⟩]
  ·rw[decide_eq_false (λq=>e (Ry.1 q)),Fs,Cg,if_neg (λq=>e q.2)];rfl
theorem B7a s C:(Ac (Tc C) λb=>Ac (bif decide (b=(⟨#[]⟩:Cea))then(Aa true)else(Ac (Tc C) λc=>Aa (!decide (c=s)))) λa=>bif a then(Aa ((⟨0,Cb,0,0,0,[],[]⟩:Bb),false))else(Aa (C,true)))=Aa (Sa C s.data.toList):=by rw[<-Sf s C,Bfq,Awf];rfl
theorem elm{T U} [Inhabited T] [Inhabited U] {f:T->U}{l i} (h:i<l.length):el (l.map f) i=f (el l i):=by rw[F9 (by simpa using h),F9 h,Atb]
theorem R4 b s:(E5 b s).length=(A7 b s.data.toList).length:=by unfold E5;rw[Gz]
theorem R3{b s i} (h:i<(A7 b s.data.toList).length):el (E5 b s) i=Bk (el (A7 b s.data.toList) i)/\(el (A7 b s.data.toList) i).length<=s.size:=by have e:el (E5 b s) i=Bk (el (A7 b s.data.toList) i):=elm h;have:=(Alg (Cj (l:=E5 b s) (i:=i) (by rw[R4];exact h))).1;rw[e,Dr]at this;exact⟨e,this⟩
theorem Agd{s} (d:s.size<=1048576) (k:Nat):Ly (E5 32 s) (k:Int)=Aa (Md (A7 32 s.data.toList) k):=by
 unfold Ly Md;rw[R4];by_cases c:(A7 32 s.data.toList).length<=k
 ·rw[Av (by omega),if_pos c]
 ·obtain⟨e,a⟩:=R3 (b:=32) (s:=s) (i:=k) (by omega);rw[Ap (by omega),if_neg c,Aj ⟨by omega,by omega⟩,Gb,e,Bbn _ (by rw[Dr];omega),Hh,Ad];cases (En (el (A7 32 s.data.toList) k)).2<;>rfl
theorem Bz2{x} (h:x.size<=1048576):∃b,Aro x=Aa ((Kg (Oo x.data.toList)).1,b):=by
 have d:=A5x (Bk [44]) (Ef 1) x.size x (Ef _);unfold Aro Aat rpl;have a:Akm x.data.toList [44] [32]=Oo x.data.toList:=by unfold Akm Lib.replace Lib.replaceNum;rw[if_neg (by decide),if_pos (Or.inl (by decide)),Azp];rfl
 rw[show(⟨#[44]⟩:Cea)=Bk [44]from rfl,show(⟨#[32]⟩:Cea)=Bk [32]from rfl,Aj ⟨by omega,Ef 1,by rw[show(Bk [32]).size=1 from rfl];omega⟩,Hh,Hh,a,Ad];have c:(Bk (Oo x.data.toList)).size<=1048576:=by rw[Dr];unfold Oo;rw[Gz];exact h
 rw[show(⟨(Oo x.data.toList).toArray⟩:Cea)=Bk (Oo x.data.toList)from rfl,By8 _ c,Hh,Ad];exact⟨_,rfl⟩
def swp (x:UInt8):UInt8:=if x=44 then 32 else if x=32 then 44 else x
theorem B7s{x} (h:x.size<=1048576) (hx:(32:UInt8)∉x.data.toList):Akf x=Aa (Kg (Oo x.data.toList)).1:=by
 have m:x.data.toList.length=x.size:=rfl;unfold Akf;rw[Aj (by omega)];generalize v:x.data.toList=l at hx m⊢
 have o:Oo l=l.map swp:=Ru λy t=>by
  unfold swp;split
  ·rfl
  ·rw[if_neg (λq:y=32=>hx (q▸t))]
 have h:=Fk (e:=λs=>s) (F:=A5l) l (λr k s=>s=(l.take k).map swp++r/\l.drop k=r) (λ_ _ _=>l.map swp)
  (λs ⟨h,_⟩=>by rw[h,Hd,Hu])
  (λx r k s j hx ⟨d,n⟩=>by
   have a:((l.take k).map swp).length=k:=by rw[Gz,Dh];omega
   have g:el s k=x:=by rw[d];have:=Uh ((l.take k).map swp) x r;rw[a]at this;exact this
   have p:k<s.length:=by rw[d,Bt,a,B5];omega
   have i:(l.take (k+1)).map swp=(l.take k).map swp++[swp x]:=by rw[Ae7,Abj,O9 j,<-F9 j,hx];rfl
   have f:l.drop (k+1)=r:=by rw[<-Mq,n];rfl
   refine .inl ⟨(l.take (k+1)).map swp++r,?_,⟨rfl,f⟩,rfl⟩;unfold A5l Blp;rw[g,i];by_cases c:x=44
   ·rw[c,Av (by decide),Aj ⟨by omega,by omega⟩,d,Abn _ _ (by omega),a,A6u,V5,Ci];rfl
   ·rw[Ap (λe=>c (Tz.1 (by show x.toNat=44;omega)))];by_cases b:x=32
    ·rw[b,Av (by decide),Aj ⟨by omega,by omega⟩,d,Abn _ _ (by omega),a,A6u,V5,Ci];rfl
    ·rw[Ap (λe=>b (Tz.1 (by show x.toNat=32;omega))),d,Ci];unfold swp;rw[if_neg c,if_neg b];rfl)
  l ⟨by simp,rfl⟩
 have u:(Bk (l.map swp)).size<=1048576:=by rw[Dr,Gz];omega
 rw[h,Ad,show(⟨(l.map swp).toArray⟩:Cea)=Bk (l.map swp)from rfl,B61 _ u,Hh,<-o];rfl
theorem By7 s (h:s.size<=1048576):Aiy s=Aa (Sa (Lj (A7 32 s.data.toList)) s.data.toList):=by
 have y:0<(A7 32 s.data.toList).length:=Ae2.2 (Aad _ _);obtain⟨w,_⟩:=R3 (b:=32) (s:=s) y;unfold Aiy
 rw[Awi s (by omega),Ad,Bch (F:=Aq5 (E5 32 s)) (el (A7 32 s.data.toList) 0) (λz H A=>by
  unfold Aq5 A2r;rw[Av A,Bbd,Ad,Aj ⟨by omega,by rw[R4];omega⟩,w];by_cases c:I7 z.1=el (A7 32 s.data.toList) 0
  ·rw[Av (by rw[c]),Bh (by omega) (by omega),if_pos c]
  ·rw[Ap (λq=>c (Ak4 q)),Bh (by omega) (by omega),if_neg c]) (λz h=>by
  unfold Aq5 A2r;rw[Ap h]),Ad,Acm,Ad]
 simp only
 have f:(Ac (bif decide (1<=Dx (el (A7 32 s.data.toList) 0)/\Dx (el (A7 32 s.data.toList) 0)<=5)then(Aa (decide ((1:Int)<((E5 32 s).length:Int))))else(Aa false)) λm=>(bif m then(xg (0<=(1:Int)/\(1:Int)<((E5 32 s).length:Int))<|some (Dx (el (A7 32 s.data.toList) 0),el (E5 32 s) 1,(0:Int),(0:Int),(0:Int)))else(Aa (Dx (el (A7 32 s.data.toList) 0),Cb,(0:Int),(0:Int),(0:Int)))))
   =Aa (Dx (el (A7 32 s.data.toList) 0),if 1<=Dx (el (A7 32 s.data.toList) 0)/\Dx (el (A7 32 s.data.toList) 0)<=5 then(if 1<(A7 32 s.data.toList).length then Bk (el (A7 32 s.data.toList) 1)else Cb)else Cb,0,0,0):=by
  by_cases c:1<=Dx (el (A7 32 s.data.toList) 0)/\Dx (el (A7 32 s.data.toList) 0)<=5
  ·rw[Av c,Ad,if_pos c,R4];by_cases d:1<(A7 32 s.data.toList).length
   ·rw[Av (by omega),Aj ⟨by omega,by omega⟩,(R3 d).1,if_pos d]
   ·rw[Ap (by omega),if_neg d]
  ·rw[Ap c,Ad,A3,if_neg c]
 obtain⟨a,t,u⟩:=Tu.1 f;rw[t,Ad,u,Ad];simp only;clear f t u a;have I:=Axf (el (A7 32 s.data.toList) 0);have v:Ly (E5 32 s) 1=_:=Agd h 1;have p:Ly (E5 32 s) 2=_:=Agd h 2;have D:Ly (E5 32 s) 3=_:=Agd h 3;have G:Ly (E5 32 s) 4=_:=Agd h 4;unfold Lj;by_cases n:Dx (el (A7 32 s.data.toList) 0)=1
 ·rw[Av n,if_pos (by omega),if_pos n,n,R4];by_cases l:(A7 32 s.data.toList).length=3
  ·obtain⟨e,B⟩:=R3 (b:=32) (s:=s) (i:=2) (by omega);rw[Av (by omega),Aj ⟨by omega,by omega⟩,e,By9 _ (by rw[Dr];omega),Hh,Ad,Sf,if_pos l]
  ·rw[Ap (by omega),Sf,if_neg l]
 rw[Ap n,if_neg n];by_cases k2:Dx (el (A7 32 s.data.toList) 0)=2
 ·rw[Av k2,if_pos (by omega),if_pos k2,k2,p,Ad,D,Ad,G,Ad,R4];by_cases l:(A7 32 s.data.toList).length=6
  ·obtain⟨e,B⟩:=R3 (b:=32) (s:=s) (i:=5) (by omega);obtain⟨b,C⟩:=Bz2 (x:=Bk (el (A7 32 s.data.toList) 5)) (by rw[Dr];omega);rw[Av (by omega),Aj ⟨by omega,by omega⟩,e,C,Ad,Sf,if_pos l,Hh]
  ·rw[Ap (by omega),Sf,if_neg l]
 rw[Ap k2,if_neg k2];by_cases j:Dx (el (A7 32 s.data.toList) 0)=3
 ·rw[Av j,Ad,Av j,if_pos (by omega),if_pos j,j,p,Ad,Sf]
 rw[Ap j,Ad,if_neg j];by_cases g:Dx (el (A7 32 s.data.toList) 0)=5
 ·rw[Av g,if_pos (by omega),if_neg (show¬Dx (el (A7 32 s.data.toList) 0)=4 by omega),if_pos g,g,p,Ad,Sf]
 rw[Ap g];by_cases k:Dx (el (A7 32 s.data.toList) 0)=6
 ·rw[Av k,if_neg (by omega),if_neg (show¬Dx (el (A7 32 s.data.toList) 0)=4 by omega),if_neg g,if_pos k,k,v,Ad,p,Ad,Sf]
 rw[Ap k];by_cases o:Dx (el (A7 32 s.data.toList) 0)=7
 ·rw[Av o,if_neg (by omega),if_neg (show¬Dx (el (A7 32 s.data.toList) 0)=4 by omega),if_neg g,if_neg k,if_pos o,o,v,Ad,Sf]
 rw[Ap o,Sf];by_cases r:Dx (el (A7 32 s.data.toList) 0)=4
 ·rw[if_pos (by omega),if_pos r,r]
 ·rw[if_neg (by omega),if_neg r,if_neg g,if_neg k,if_neg o]
theorem B7l l:Qg l=Aa (l.headD (Bk []),l.tail):=by
 unfold Qg;cases l with
 |nil=>rfl
 |cons a r=>rw[decide_eq_false (by simp only[B5];omega),A3,Aj ⟨by omega,by simp only[B5];omega⟩,Aj ⟨by omega,by simp only[B5];omega⟩,Hd];rfl
theorem B7c k:Aev k=Aa (decide (k=2\/k=6\/k=7),decide (k=2),decide (k=2\/k=3\/k=5\/k=6)):=by
 unfold Aev;by_cases a:k=2
 ·subst a;rfl
 by_cases b:k=3
 ·subst b;rfl
 by_cases c:k=5
 ·subst c;rfl
 by_cases d:k=6
 ·subst d;rfl
 by_cases e:k=7
 ·subst e;rfl
 simp[a,b,c,d,e]
theorem Ba2{l n ws} (h:l=(ws.drop n).map Bk):l.headD (Bk [])=Bk (el ws n)/\l.tail=(ws.drop (n+1)).map Bk:=by
 subst h;constructor
 ·by_cases c:n<ws.length
  ·rw[Afu c];rfl
  ·rw[As8 (by omega)];unfold el;rw[Ni,Abh (by omega)];rfl
 ·rw[<-List.map_tail,List.tail_drop]
theorem B60 s (h:s.size<=1048576):Ajx s=Aa (Sa (Rb (A7 32 s.data.toList)) s.data.toList):=by
 have p:0<(A7 32 s.data.toList).length:=Ae2.2 (Aad _ _)
 have el_sz:∀i,(el (A7 32 s.data.toList) i).length<=s.size/\(32:UInt8)∉el (A7 32 s.data.toList) i:=λi=>by
  by_cases c:i<(A7 32 s.data.toList).length
  ·exact⟨(R3 c).2,Ads (Cj c)⟩
  ·have:el (A7 32 s.data.toList) i=[]:=by unfold el;rw[Ni,Abh (by omega)];rfl
   rw[this];exact⟨Dk _,by simp⟩
 have b:=Ba2 (l:=E5 32 s) (n:=0) (ws:=A7 32 s.data.toList) rfl;have a:∀n,Qg ((Ako n (A7 32 s.data.toList)).map Bk)=Aa (Bk (el (A7 32 s.data.toList) n),(Ako (n+1) (A7 32 s.data.toList)).map Bk):=λn=>by obtain⟨d,f⟩:=Ba2 (l:=(Ako n (A7 32 s.data.toList)).map Bk) (n:=n) (ws:=A7 32 s.data.toList) rfl;rw[B7l,d,f]
 have m:∀n,Th (Bk (el (A7 32 s.data.toList) n))=Aa (En (el (A7 32 s.data.toList) n)):=λn=>by rw[Ao3,Hh]
 have o:∀n,Akf (Bk (el (A7 32 s.data.toList) n))=Aa (Kg (Oo (el (A7 32 s.data.toList) n))).1:=λn=>by have:=el_sz n;rw[B7s (by rw[Dr];omega) (by rw[Hh];exact this.2),Hh]
 have ts:∀n,Ael (Bk (el (A7 32 s.data.toList) n))=Aa (O1 (el (A7 32 s.data.toList) n)):=λn=>by have:=el_sz n;rw[Bgj _ (by rw[Dr];omega),Hh]
 unfold Ajx
 rw[Az0 s (by omega),Ad,show Qg (E5 32 s)=_ from a 0,Ad,Bch (F:=Ar8 (Bk (el (A7 32 s.data.toList) 0),(Ako (0+1) (A7 32 s.data.toList)).map Bk)) (el (A7 32 s.data.toList) 0) (λz r g=>by
  unfold Ar8 A4q;rw[Av g,Bfr,Ad];by_cases c:I7 z.1=el (A7 32 s.data.toList) 0
  ·rw[Av (by rw[c]),Bh (by omega) (by omega),if_pos c]
  ·rw[Ap (λq=>c (Ak4 q)),Bh (by omega) (by omega),if_neg c]) (λz h=>by
  unfold Ar8 A4q;rw[Ap h]),Ad,B7c,Ad,Ahl,Ad]
 simp only;have j:=Axf (el (A7 32 s.data.toList) 0);unfold Rb;generalize Dx (el (A7 32 s.data.toList) 0)=k at j⊢;clear el_sz b;rcases(show k=1\/k=2\/k=3\/k=4\/k=5\/k=6\/k=7\/k=8\/k=0 by omega)with e|e|e|e|e|e|e|e|e<;>subst e
 all_goals simp(disch:=omega) only[true_or,or_true,decide_true,cond_true,if_true,Av,Ap,if_pos,if_neg,a,m,o,ts,Ad]
 all_goals exact B7a s _
theorem Bay{c} (h:L9 c=true):(1<=c.kind/\c.kind<=8)/\c.Ah.size<=8/\Ed c.text=true/\c=Aan c/\Ca c.o=true/\(0<=c.Al/\c.Al<=1000000000)/\(0<=c.seq/\c.seq<=1000000000)/\(0<=c.n/\c.n<=1000000000):=by unfold L9 Fp at h;simp only[A9,decide_eq_true_eq]at h;obtain⟨⟨⟨⟨⟨⟨⟨⟨⟨b,d⟩,k⟩,e⟩,f⟩,g⟩,l⟩,i⟩,j⟩,a⟩:=h;exact⟨b,d,e,f,g,i,j,a⟩
theorem Bse k:(32:UInt8)∉I7 k:=by
 by_cases h:1<=k/\k<=8
 ·rcases Sg h with h|h|h|h|h|h|h|h<;>subst h<;>decide
 ·rw[Ak9 h];simp
theorem Cdn o:(32:UInt8)∉Vd o:=λq=>by
 obtain⟨x,_,e⟩:=K7.1 q;unfold Ms at e;split at e
 ·cases e
 ·rename_i n;exact n e
theorem B8a l:(32:UInt8)∉Lu l:=by
 unfold Lu;split
 ·split
  ·decide
  ·exact(A8f l).1
 ·simp
theorem B2k o:(44:UInt8)∉Ep o:=by
 unfold Ep;split
 ·split
  ·decide
  ·intro q;rcases Axa q with q|⟨w,a,q⟩
   ·cases q
   ·obtain⟨p,_,rfl⟩:=K7.1 a;exact(Bd7 p).2 q
 ·simp
theorem B5t o:Oo (Vd o)=Ep o:=by
 unfold Oo Vd;rw[V2];refine(Ru λx hx=>?_).trans (Akp _);show(if Ms x=44 then(32:UInt8)else Ms x)=x;unfold Ms;by_cases h:x=32
 ·rw[if_pos h,if_pos rfl,h]
 ·rw[if_neg h,if_neg (λq:x=44=>B2k o (q▸hx))]
theorem Br6{c} (b:(32:UInt8)∉c.Ah.data.toList):∀w∈L7 c,(32:UInt8)∉w:=by
 intro w a;have q {p:Prop} [Decidable p] {y:List UInt8} (h:w∈(if p then [y]else [])):w=y:=by split at h<;>simp at h;exact h
 unfold L7 at a;simp only[Ei,Eo]at a;rcases a with(((((a|a)|a)|a)|a)|a)|a
 ·rw[a];exact Bse _
 ·rw[q a];exact b
 ·rw[q a];exact(Us _).2.1
 ·rw[q a];exact(Us _).2.1
 ·rw[q a];exact(Us _).2.1
 ·rw[q a];exact Cdn _
 ·rw[q a];exact B8a _
theorem Br8{c} (h:L9 c=true) (a:(32:UInt8)∉c.Ah.data.toList):A7 32 (Hm c)=L7 c:=by unfold Hm;rw[if_pos h];exact Apk (by unfold L7;simp) (Br6 a)
theorem Cbm{l} (h:Ed l=true):l.all Ds=true:=by unfold Ed at h;simp only[A9]at h;exact h.2
theorem Bd4{c L} (h:L9 c=true) (n:c.o=Co c.o) (g:(32:UInt8)∉c.Ah.data.toList) (e:Hm c=L):Lj (A7 32 L)=c/\Rb (A7 32 L)=c:=by
 subst e;rw[Br8 h g];obtain⟨g1,g2,g3,g4,g5,a,b,d⟩:=Bay h;have l:=Bij (Cbm g3);have i:=Adz g5 n rfl;have m:=Xr a;have p:=Xr b;have q:=Xr d;have j:=B5t c.o;have f:=Yk c.Ah;clear h g n g3 g5 a b d;obtain⟨k,r,s,sq,t,o,u⟩:=c;simp only at g1 g2 g4 l i m p q j f
 rcases Sg g1 with h|h|h|h|h|h|h|h<;>subst h<;>rw[g4]<;>clear g4<;>simp only[Aan]at* <;>refine⟨?_,?_⟩<;>
  simp[L7,Lj,Rb,Md,Aan,Dx,I7,el,l,i,m,p,q,j,f]
theorem Baa L i:(32:UInt8)∉el (A7 32 L) i:=by
 by_cases c:i<(A7 32 L).length
 ·exact Ads (Cj c)
 ·have:el (A7 32 L) i=[]:=by unfold el;rw[Ni,Abh (by omega)];rfl
  rw[this];simp
theorem Bif L:(Kg L).1=Co (Kg L).1:=by
 rcases Cbo L with h|h
 ·rw[h];exact Sm.2.1
 ·exact h.2.2.1
theorem Bb0 L:(Lj (A7 32 L)).o=Co (Lj (A7 32 L)).o/\(32:UInt8)∉(Lj (A7 32 L)).Ah.data.toList/\(Lj (A7 32 L)).kind=Dx (el (A7 32 L) 0):=by
 have c:([]:List Ae)=Co []:=Sm.2.1;have a:(32:UInt8)∉(Bk (el (A7 32 L) 1)).data.toList:=by rw[Hh];exact Baa L 1
 have b:(32:UInt8)∉Cb.data.toList:=by show(32:UInt8)∉[];simp
 unfold Lj
 repeat' split
 all_goals refine⟨by first|exact c|exact Bif _,by first|exact a|exact b,by first|rfl|(simp only;omega)⟩
theorem B8m L:(Rb (A7 32 L)).o=Co (Rb (A7 32 L)).o/\(32:UInt8)∉(Rb (A7 32 L)).Ah.data.toList:=by
 have c:([]:List Ae)=Co []:=Sm.2.1;have a:(32:UInt8)∉(Bk (el (A7 32 L) 1)).data.toList:=by rw[Hh];exact Baa L 1
 have b:(32:UInt8)∉Cb.data.toList:=by show(32:UInt8)∉[];simp
 unfold Rb
 repeat' split
 all_goals refine⟨by first|exact c|exact Bif _,by first|exact a|exact b⟩
theorem Av7{c} (h:Hm c≠[]):L9 c=true:=by
 cases a:L9 c with
 |true=>rfl
 |false=>exact absurd (by unfold Hm;rw[a];rfl) h
theorem Cbl L:Sa (Rb (A7 32 L)) L=Sa (Lj (A7 32 L)) L:=by
 have hi:=Bb0 L;have a:=B8m L;by_cases c:Hm (Lj (A7 32 L))≠[]/\Hm (Lj (A7 32 L))=L
 ·rw[(Bd4 (Av7 c.1) hi.1 hi.2.1 c.2).2]
 ·by_cases d:Hm (Rb (A7 32 L))≠[]/\Hm (Rb (A7 32 L))=L
  ·have e:=(Bd4 (Av7 d.1) a.1 a.2 d.2).1;rw[e]at c;exact absurd d c
  ·unfold Sa;rw[if_neg c,if_neg d]
def S3 (L:List UInt8):Bb×Bool:=Sa (Lj (A7 32 L)) L
theorem Bzv s (h:s.size<=1048576):Aiy s=Aa (S3 s.data.toList):=By7 s h
theorem B7m s (h:s.size<=1048576):Ajx s=Aa (S3 s.data.toList):=by rw[B60 s h,Cbl];rfl
theorem B3j{o} (h:Gf o=true):Gx Aac o:=⟨by have:=Ps h;omega,λp a=>⟨trivial,trivial,by have:=(Nz (J9 h a)).1;omega,λ_ _=>trivial⟩⟩
theorem A1j{L} (h:(S3 L).2=true):U6 (S3 L).1/\L9 (S3 L).1=true/\1<=Dx (el (A7 32 L) 0):=by
 unfold S3 Sa at h⊢;by_cases c:Hm (Lj (A7 32 L))≠[]/\Hm (Lj (A7 32 L))=L
 ·rw[if_pos c];have g:=Av7 c.1;obtain⟨g1,g2,g3,g4,g5,a,b,d⟩:=Bay g;have k:=(Bb0 L).2.2;have:=Ln g3;show U6 (Lj (A7 32 L))/\L9 (Lj (A7 32 L))=true/\_;exact⟨⟨trivial,by unfold Sx;omega,trivial,trivial,trivial,B3j (Hp g5),by omega,λ_ _=>trivial⟩,g,by omega⟩
 ·rw[if_neg c]at h;cases h
theorem Zj{T c B}:∀ {l:List T},(∀x∈l,c x+1<=B)->E7 c l<=B*l.length
 |[],_=>Dk _
 |x::l,h=>by have b:=Zj (l:=l) λy a=>h y (Bf _ a);have hx:=h x (Bm ..);rw[Agk]at b⊢;show(x::l).length+(c x+Fm c l)<=B*(x::l).length;rw[B5,A6s];omega
theorem Zi l:E7 Va l=l.length:=Axj (λ_=>rfl) l
theorem B0x{T c l} {x:T} (h:x∈l):c x<=E7 c l:=by have:=A05 (c:=c) h;rw[Agk];omega
theorem Ca0{e} (h:E3 e=true):Nd e<=800:=by unfold E3 at h;simp only[A9]at h;exact Ax7 (Bb4 h.2).1
theorem A1b{l} (h:∀e∈l,E3 e=true):E7 Nd l<=801*l.length:=Zj λe a=>by have:=Ca0 (h e a);omega
theorem Caz{d} (h:C5 d=true):Adx d<=7000:=by have a:=Ku h;have g:=Ln a.2.1;have f:=Zq h;have c:=W2 (W1 h);have b:=A1b (Ff.1 a.2.2.2.1);have e:E7 Apt d.seen=d.seen.length:=Axj (λ_=>rfl) _;have hi:=Zi d.text;unfold Adx Vb;omega
theorem Bhw{r} (h:Gv r=true):E7 Nd r.list<=4806:=by obtain⟨b,_,c,_,a⟩:=N0 h;have:=A1b (Ff.1 a);omega
theorem Cd.sz{h} (i:Cd False h):Ahy h<=100000:=by
 have f:=Zj (c:=Adx) (B:=7001) (l:=h.Am) λd b=>by have:=Caz (i.Ah b);omega
 have g:=Zj (c:=Ahz) (B:=4900) (l:=h.Ax) λs e=>by obtain⟨_,g2,d,g3,_⟩:=i.sg s e;have a:=Ab4 g3;have:=W2 (W1 (i.Ah a.1));rw[a.2]at this;have j:=Bhw g2;unfold Ahz Aps Vb;omega
 have:=i.nd;have:=i.ns;unfold Ahy;omega
theorem A1a{c} (h:Fp c=true):Adw c<=130000:=by
 have d:=Anx h;unfold Fp at h;simp only[A9,decide_eq_true_eq]at h;have a:=h.1.1.2;have e:=Zj (c:=Mi) (B:=201) (l:=c.o) λp b=>by have:=(Nz (J9 a b)).1;have:=Zi p.Bd;unfold Mi;omega
 have:=Ps a;have:=Zi c.text;unfold Adw Vb;omega
theorem Cay{h} (i:Cd False h) c:P4 (Kn h c).2<=10000:=by
 have s:∀ {d:Ao},C5 d=true->(Hz d.list d.text).length<=200:=λo=>Ln (Bya o);have m:∀a b:Int,P4 ⟨a,b,[],[]⟩=0:=λ_ _=>rfl
 have p:∀(r:Aw) (e k:Int) (t:List Int) (l:List A8),t.length<=200->E7 Nd l<=8000->P4 (Np h r e k t l).2<=10000:=λr e k t l z A=>by
  unfold Np;split
  ·have:=Zi t;unfold P4;simp only;omega
  ·rw[m];omega
 have f:E7 Nd []<=8000:=Dk _
 have x:P4 (Wm h c)<=10000:=by
  unfold Wm;split
  ·rw[m];omega
  ·split
   ·rw[m];omega
   ·rename_i g;obtain⟨u,v,j,w⟩:=Oy i (name:=c.Ah) (by omega);split
    ·have:=s j;have:=Zi (Hz (el h.Am (B9 h.Am c.Ah).toNat).list (el h.Am (B9 h.Am c.Ah).toNat).text);unfold P4;simp only;have:E7 Nd []=0:=rfl;omega
    ·have o:=Ku j
     have B:E7 Nd (Wi (el h.Am (B9 h.Am c.Ah).toNat) c.n).1<=8000:=by
      unfold Wi;rw[if_pos j];split
      ·exact f
      ·split
       ·exact f
       ·have:=A1b (Ff.1 o.2.2.2.1);have:=B0w Nd (el h.Am (B9 h.Am c.Ah).toNat).list (c.n-(el h.Am (B9 h.Am c.Ah).toNat).from_).toNat;simp only;omega
     unfold P4;simp only;have:E7 Va []=0:=rfl;omega
 unfold Kn;split
 ·repeat' (first|exact x|exact p _ _ _ _ _ (Dk _) f|split)
  ·refine p _ _ _ _ _ (Dk _) ?_;unfold Nv;split
   ·exact f
   ·split
    ·exact f
    ·rename_i g;obtain⟨s1,_,_,q⟩:=Xn (l:=h.Ax) (n:=c.Al) (by omega);obtain⟨_,g2,_⟩:=i.sg _ q;have C:=Bhw g2
     have y:E7 Nd (Oq (el h.Ax (Fv h.Ax c.Al).toNat).r c.n).2.1<=8000:=by
      unfold Oq;split
      ·exact f
      ·have:=B0y Nd (el h.Ax (Fv h.Ax c.Al).toNat).r.list (min c.n ((el h.Ax (Fv h.Ax c.Al).toNat).r.list.length:Int)).toNat;simp only;omega
     split
     ·exact y
     ·exact f
  ·refine p _ _ _ _ _ ?_ f;unfold My;split
   ·exact Dk _
   ·rename_i g;obtain⟨s1,_,_,q⟩:=Xn (l:=h.Ax) (n:=c.Al) (by omega);obtain⟨u,v,j,w⟩:=Oy i (i.dix q);exact s j
 ·rw[m];omega
structure WR (w:Au):Prop where
 h:Cd False w.h
 ln:w.Az.length<=4
 nq:w.An.length<=6
 qs:∀q∈w.An,q.Ah.size<=8/\q.list.length<=3
 nt:w.Ag.length<=11
 ts:∀t∈w.Ag,Oz t<=2000000
theorem WR.sz{w} (r:WR w):U9 w<=30000000:=by
 have d:=r.h.sz;have e:=Zi w.Az;have f:=Zj (c:=Ady) (B:=12) (l:=w.An) λq a=>by have:=r.qs q a;have:=Zi q.list;unfold Ady Vb;omega
 have g:=Zj (c:=Oz) (B:=2000001) (l:=w.Ag) λt b=>by have:=r.ts t b;omega
 have:=r.ln;have:=r.nq;have:=r.nt;unfold U9;omega
def WB (w:Au):Prop:=U9 w<=1048576\/WR w
theorem WB.sz{w} (b:WB w):U9 w<=30000000:=by
 rcases b with b|b
 ·omega
 ·exact b.sz
theorem WB.ws{w} (b:WB w):N9 w:=by
 refine⟨B8j w (by have:=b.sz;omega),?_,?_⟩<;>rcases b with b|b
 ·unfold U9 at b;have:=Agk Oz w.Ag;omega
 ·have:=b.nt;omega
 ·unfold U9 at b;have:=Agk Ady w.An;omega
 ·have:=b.nq;omega
theorem A8e{h} (i:Cd False h){n} (k:0<=B9 h.Am n):n.size<=8:=by have g:=Ws k;have:=W2 (W1 (i.Ah (Cj g.1)));rwa [of_decide_eq_true g.2]at this
theorem WB.r{w} (b:WB w) (v:WV w):WR w:=by
 refine⟨v.h,v.ln.2,by have:=v.q5;omega,λq d=>?_,by have:=v.nt;omega,λt a=>?_⟩
 ·have f:=v.q.1 q d;exact⟨A8e v.h f.hd,by have:=f.ln;omega⟩
 ·rcases b with b|b
  ·have:=B0x (c:=Oz) a;unfold U9 at b;omega
  ·exact b.ts t a
theorem WR.set{w} (r:WR w){h L Q i t s} (c:Cd False h) (a:L.length<=4) (b:Q.length<=6) (d:∀q∈Q,q.Ah.size<=8/\q.list.length<=3) (e:Oz t<=2000000):
  WR ⟨h,L,Q,w.Ag.set i t,s⟩:=⟨c,a,b,d,by rw[Ft];exact r.nt,λx hx=>by
 rcases V4 hx with hx|rfl
 ·exact r.ts x hx
 ·exact e⟩
theorem B0n{l n k} (e:l.length<=5) (b:∀q∈l,q.Ah.size<=8/\q.list.length<=2) (c:n.size<=8):(Pm l n k).length<=6/\∀q∈Pm l n k,q.Ah.size<=8/\q.list.length<=3:=by
 unfold Pm;by_cases d:0<=Cu l n
 ·obtain⟨g1,g2,g3,g4⟩:=Px d;rw[if_pos d];refine⟨by rw[Hg];omega,λq a=>?_⟩;rcases V4 a with a|rfl
  ·have:=b q a;omega
  ·have:=b _ g4;simp only[Bt,B5,C0];omega
 ·rw[if_neg d];refine⟨by simp only[Bt,Dh,D0,B5,C0];omega,λq a=>?_⟩;rcases Ei.1 a with a|a
  ·rcases Ei.1 a with a|a
   ·have:=b q (V3 a);omega
   ·rw[Eo.1 a];exact⟨c,by simp⟩
  ·have:=b q (Kj a);omega
theorem B7y{l i} (hi:i<l.length) (c:l.length<=5) (b:∀q∈l,q.Ah.size<=8/\q.list.length<=2):(Ov l i).length<=6/\∀q∈Ov l i,q.Ah.size<=8/\q.list.length<=3:=by
 unfold Ov;split
 ·refine⟨by simp only[Bt,Dh,D0];omega,λq a=>?_⟩;rcases Ei.1 a with a|a
  ·have:=b q (V3 a);omega
  ·have:=b q (Kj a);omega
 ·refine⟨by rw[Hg];omega,λq a=>?_⟩;rcases V4 a with a|rfl
  ·have:=b q a;omega
  ·have:=b _ (Cj hi);simp only[D0];omega
theorem WV.qb{w} (v:WV w):∀q∈w.An,q.Ah.size<=8/\q.list.length<=2:=λq a=>⟨A8e v.h (v.q.1 q a).hd,v.ql q a⟩
theorem A7w{w} (b:WB w){c} (h:(Jx w c).2=true):WB (Jx w c).1:=by
 unfold Jx at h⊢;split at h
 ·rename_i q;rw[if_pos q];have r:=b.r (WV.of q.1);have v:=(WV.of q.1);have:=A1a q.2.1;have:=v.nt;refine .inr ⟨r.h,r.ln,r.nq,r.qs,by simp only[Bt,B5,C0];omega,λt a=>?_⟩;rcases Ei.1 a with a|a
  ·exact r.ts t a
  ·rw[Eo.1 a];have:P4 Pd=0:=rfl;unfold Oz;simp only;omega
 ·cases h
theorem tsz{t} (h:Ip t=true) (p:Int):Adw t.c<=130000:=by unfold Ip at h;simp only[A9]at h;exact A1a h.1.1
theorem Avo{w} (r:WR w){L Q k s s'} (ok:Ip (el w.Ag k.toNat)=true) (a:L.length<=4) (b:Q.length<=6) (d:∀q∈Q,q.Ah.size<=8/\q.list.length<=3):
  WR ⟨(Jm ⟨w.h,L,Q,w.Ag,s⟩ k).h,(Jm ⟨w.h,L,Q,w.Ag,s⟩ k).Az,(Jm ⟨w.h,L,Q,w.Ag,s⟩ k).An,(Jm ⟨w.h,L,Q,w.Ag,s⟩ k).Ag,s'⟩:=by
 have e:=tsz ok 0;have f:=Cay r.h (el w.Ag k.toNat).c;refine r.set (Aua r.h _) a b d ?_;unfold tX Oz;simp only;omega
theorem Bed{w} (b:WB w){k} (h:(Lq w k).2=true):WB (Lq w k).1:=by
 unfold Lq at h⊢;split at h
 ·rename_i q;rw[if_pos q];have v:=WV.of q.1;have r:=b.r v;have f:=v.wf ⟨q.2.2.1,q.2.2.2⟩;have o:=tsz f.ok 0;have g:Oz (el w.Ag k.toNat)<=2000000:=r.ts _ (Cj (by have:=q.2.2;omega));have d:∀p,Oz (tP p (el w.Ag k.toNat))<=2000000:=λp=>g;have e:=v.q5;refine .inr ?_;unfold Pv Jw at h⊢;split
  ·split
   ·split
    ·exact r.set r.h (by rw[Ft];exact r.ln) r.nq r.qs (d 1)
    ·rename_i a b c;rw[if_pos a,if_pos b,if_neg c]at h;cases h
   ·exact Avo r f.ok r.ln r.nq r.qs
  ·split
   ·simp only[if_true];unfold Zk;split
    ·exact Avo r f.ok (by rw[Ft];exact r.ln) r.nq r.qs
    ·split
     ·refine r.set r.h (by rw[Ft];exact r.ln) r.nq r.qs ?_;have:P4 ⟨11,0,[],[]⟩=0:=rfl;unfold tA Oz;simp only;omega
     ·obtain⟨m,n⟩:=B0n (k:=k) e v.qb f.z;exact r.set r.h (by rw[Ft];exact r.ln) m n (d 2)
   ·split
    ·exact r.set r.h r.ln r.nq r.qs g
    ·rename_i i j l;rw[if_neg i,if_neg j,if_neg l]at h;cases h
 ·cases h
theorem Bgt{w} (b:WB w){n} (h:(Lt w n).2=true):WB (Lt w n).1:=by
 unfold Lt at h⊢;split at h
 ·rename_i q;rw[if_pos q];have v:=WV.of q.1;have r:=b.r v;have g:=v.qf q.2.2;have f:=v.wf g.2;obtain⟨g1,g2,g3,g4⟩:=Px q.2.2;obtain⟨a,c⟩:=B7y g1 v.q5 v.qb;exact .inr (Avo r f.ok r.ln a c)
 ·cases h
def Vc:List UInt8:=[112,105,99,107]
def Ad0:List UInt8:=[115,101,114,118,101]
def M8 (w:Au) (r:Au×Bool):Au×Cea:=if r.2=true then(r.1,⟨#[111,107]⟩)else(w,⟨#[110,111]⟩)
def Kb (w:Au) (L:List UInt8):Au×Cea:=
 if(A7 32 L).length=2/\el (A7 32 L) 0=Vc/\(En (el (A7 32 L) 1)).2=true then M8 w (Lq w (En (el (A7 32 L) 1)).1)
 else if(A7 32 L).length=2/\el (A7 32 L) 0=Ad0 then M8 w (Lt w (Bk (el (A7 32 L) 1)))
 else if(S3 L).2=true then M8 w (Jx w (S3 L).1)else(w,⟨#[119,104,97,116]⟩)
theorem Awu{w} (x:N9 w) r:(bif !r.2 then(Ac (Qe w) λa=>Aa (a,(⟨#[110,111]⟩:Cea)))else(Aa (r.1,(⟨#[111,107]⟩:Cea))))=Aa (M8 w r):=by rw[Aco x.sm (by have:=x.nt;omega)];unfold M8;cases r.2<;>rfl
theorem A0g{w} (x:N9 w) r:(bif !r.2 then(Ac (Qf w) λa=>Aa (a,(⟨#[110,111]⟩:Cea)))else(Aa (r.1,(⟨#[111,107]⟩:Cea))))=Aa (M8 w r):=by rw[Adn x.sm (by have:=x.nt;omega)];unfold M8;cases r.2<;>rfl
theorem Ap5 s W:(bif decide (((E5 32 s).length:Int)=2)then(xg (0<=(0:Int)/\(0:Int)<((E5 32 s).length:Int))<|some (decide (el (E5 32 s) 0=Bk W)))else(Aa false))=Aa (decide ((A7 32 s.data.toList).length=2/\el (A7 32 s.data.toList) 0=W)):=by
 rw[R4];by_cases c:(A7 32 s.data.toList).length=2
 ·rw[Av (by omega),Aj ⟨by omega,by omega⟩,(R3 (by omega)).1];by_cases d:el (A7 32 s.data.toList) 0=W
  ·rw[d,decide_eq_true rfl,decide_eq_true ⟨c,rfl⟩]
  ·rw[decide_eq_false (λq=>d (Ak4 q)),decide_eq_false (λq=>d q.2)]
 ·rw[Ap (by omega),decide_eq_false (λq=>c q.1)]
theorem Bbj{w} (x:N9 w) s (h:s.size<=1048576):Xz w s=Aa (Kb w s.data.toList):=by
 unfold Xz Kb;have f:Ly (E5 32 s) 1=_:=Agd h 1;rw[Awi s (by omega),Ad,Bzv s h,Ad,show(⟨#[112,105,99,107]⟩:Cea)=Bk Vc from rfl,Ap5,Ad,f,Ad,show(⟨#[115,101,114,118,101]⟩:Cea)=Bk Ad0 from rfl,Ap5,Ad];by_cases c:(A7 32 s.data.toList).length=2/\el (A7 32 s.data.toList) 0=Vc/\(En (el (A7 32 s.data.toList) 1)).2=true
 ·have a:Md (A7 32 s.data.toList) 1=(En (el (A7 32 s.data.toList) 1)).1:=by unfold Md;rw[if_neg (by omega),if_pos c.2.2]
  have:=(Bh9 c.2.2).2.2.1;rw[if_pos c,Av ⟨c.1,c.2.1⟩,a,decide_eq_true this,Ad,Cg,Byw x,Ad,Awu x]
 rw[if_neg c]
 have b:(bif decide ((A7 32 s.data.toList).length=2/\el (A7 32 s.data.toList) 0=Vc)then(Aa (decide ((0:Int)<=Md (A7 32 s.data.toList) 1)))else(Aa false))=Aa false:=by
  by_cases d:(A7 32 s.data.toList).length=2/\el (A7 32 s.data.toList) 0=Vc
  ·have:¬(En (el (A7 32 s.data.toList) 1)).2=true:=λq=>c ⟨d.1,d.2,q⟩;have a:Md (A7 32 s.data.toList) 1= -1:=by unfold Md;rw[if_neg (by omega),if_neg this]
   rw[Av d,a];rfl
  ·rw[Ap d]
 rw[b,Ad,A3,Ad];by_cases d:(A7 32 s.data.toList).length=2/\el (A7 32 s.data.toList) 0=Ad0
 ·rw[Av d,if_pos d,Aj ⟨by omega,by rw[R4];omega⟩,(R3 (by omega)).1,By2 x,Ad,Awu x]
 rw[Ap d,if_neg d];cases e:(S3 s.data.toList).2 with
 |true=>rw[Cg,Bye x (A1j e).1,Ad,Awu x,if_pos rfl]
 |false=>rw[A3,Aco x.sm (by have:=x.nt;omega),Ad,if_neg (by decide)]
theorem B6o{w} (x:N9 w) s (h:s.size<=1048576):Ar3 w s=Aa (Kb w s.data.toList):=by
 unfold Ar3 Kb;rw[Az0 s (by omega),Ad,B7m s h,Ad,show(⟨#[112,105,99,107]⟩:Cea)=Bk Vc from rfl,Ap5,Ad,show(⟨#[115,101,114,118,101]⟩:Cea)=Bk Ad0 from rfl,Ap5,Ad];cases c:(S3 s.data.toList).2 with
 |true=>
  have a:=(A1j c).2.2;have b:el (A7 32 s.data.toList) 0≠Vc:=λq=>by rw[q]at a;revert a;decide
  have f:el (A7 32 s.data.toList) 0≠Ad0:=λq=>by rw[q]at a;revert a;decide
  rw[Cg,Bfs x (A1j c).1,Ad,A0g x,if_neg (λq=>b q.2.1),if_neg (λq=>f q.2),if_pos rfl]
 |false=>
  rw[A3];by_cases d:(A7 32 s.data.toList).length=2/\el (A7 32 s.data.toList) 0=Ad0
  ·have b:el (A7 32 s.data.toList) 0≠Vc:=λq=>by have:=d.2;rw[q]at this;revert this;decide
   rw[Av d,if_neg (λq=>b q.2.1),if_pos d,Aj ⟨by omega,by rw[R4];omega⟩,(R3 (by omega)).1,Bgc x,Ad,A0g x]
  rw[Ap d];by_cases e:(A7 32 s.data.toList).length=2/\el (A7 32 s.data.toList) 0=Vc
  ·rw[Av e,Aj ⟨by omega,by rw[R4];omega⟩,(R3 (by omega)).1,Ao3,Hh,Ad];cases g:(En (el (A7 32 s.data.toList) 1)).2 with
   |true=>rw[A6,A3,Bga x,Ad,A0g x,if_pos ⟨e.1,e.2,rfl⟩]
   |false=>rw[Fs,Cg,Adn x.sm (by have:=x.nt;omega),Ad,if_neg (λq=>by cases q.2.2),if_neg d,if_neg (by decide)]
  ·rw[Ap e,Adn x.sm (by have:=x.nt;omega),Ad,if_neg (λq=>e ⟨q.1,q.2.1⟩),if_neg d,if_neg (by decide)]
theorem Beh{w} (b:WB w) L:WB (Kb w L).1/\(Kb w L).2.size<=4:=by
 have a:∀r:Au×Bool,(r.2=true->WB r.1)->WB (M8 w r).1/\(M8 w r).2.size<=4:=λr h=>by
  unfold M8;split
  ·rename_i c;exact⟨h c,show(⟨#[111,107]⟩:Cea).size<=4 by decide⟩
  ·exact⟨b,show(⟨#[110,111]⟩:Cea).size<=4 by decide⟩
 unfold Kb;split
 ·exact a _ λh=>Bed b h
 ·split
  ·exact a _ λh=>Bgt b h
  ·split
   ·exact a _ λh=>A7w b h
   ·exact⟨b,show(⟨#[119,104,97,116]⟩:Cea).size<=4 by decide⟩
def sF (l:List Int):List Int:=l.filter λn=>decide (n≠ -1)
def Ij (l:List A4):List Int:=sF (l.flatMap Ik)
theorem Azy a b:sF (a++b)=sF a++sF b:=A54 ..
theorem B8x a b:Ij (a++b)=Ij a++Ij b:=by unfold Ij;rw[H2,Azy]
theorem A00{s}:∀ {l met:List Int},(met++sF l).Nodup->(∀n∈sF l,n<s)->G9 s met l=Aa (met++sF l)
 |[],met,_,_=>by rw[G9];simp[sF]
 |n::l,met,f,g=>by
  rw[G9];by_cases c:n= -1
  ·have e:sF (n::l)=sF l:=by unfold sF;rw[List.filter_cons_of_neg (by simpa using c)]
   rw[e]at f g⊢;rw[if_pos c,A00 f g]
  ·have e:sF (n::l)=n::sF l:=by unfold sF;rw[List.filter_cons_of_pos (by simpa using c)]
   rw[e]at f g⊢;have a:=g n (Bm ..);have b:n∉met:=λq=>(List.nodup_append.1 f).2.2 n q n (Bm ..) rfl;rw[if_neg c,if_neg (by rintro (q|q);omega;exact b q),A00 (by rw[Ci];exact f) λx hx=>g x (Bf _ hx),Ci];rfl
theorem Lh{T} [Inhabited T]{L i} (hi:i<L.length) (f:T->T) j:el (stE L i f) j=if j=i then f (el L i)else el L j:=by
 by_cases c:j=i
 ·rw[if_pos c,c,Avf hi]
 ·rw[if_neg c];unfold stE;exact Ui λq=>c q.symm
theorem A0y{T} [Inhabited T]{L i f} {x:T} (h:x∈stE L i f):x∈L\/x=f (el L i):=V4 h
theorem Ahv{T} [Inhabited T]{L i} (hi:i<L.length) (f:T->T):stE L i f=L.take i++(f (el L i)::L.drop (i+1)):=by unfold stE;exact A6h.trans (if_pos hi)
theorem R7{T} [Inhabited T] {L:List T}{i} (hi:i<L.length):L=L.take i++(el L i::L.drop (i+1)):=by rw[F9 hi,<-Ae1 hi,Kk]
theorem A01{T k} (a:k<T.length){f} (h:sF (Ik (f (el T k)))=sF (Ik (el T k))):Ij (stE T k f)=Ij T:=by
 rw[Ahv a]
 conv=>rhs;rw[R7 a]
 simp only[Ij,H2,F4,Azy,h]
theorem Bhb{T k} (a:k<T.length){f s} (h:(sF (Ik (f (el T k)))).Perm (s::sF (Ik (el T k)))):(Ij (stE T k f)).Perm (s::Ij T):=by
 rw[Ahv a]
 conv=>rhs;rw[R7 a]
 simp only[Ij,H2,F4,Azy];refine((List.Perm.append_left _ (h.append_right _))).trans ?_;exact Ct
structure WI (w:Au):Prop where
 h:Cd True w.h
 ln:1<=w.Az.length/\w.Az.length<=4
 nt:w.Ag.length<=10
 st:0<=w.step/\w.step<=1000000
 tk:∀t∈w.Ag,Ip t=true
 s1:(Ij w.Ag).Nodup
 s2:∀n∈Ij w.Ag,n<w.step
 la:∀s,s<w.Az.length->el w.Az s= -1\/∃j:Nat,j<w.Ag.length/\el w.Az s=(j:Int)/\(el w.Ag j).pc=1/\Ek (el w.Ag j).c.Ah w.Az.length=(s:Int)
 lb:∀j,j<w.Ag.length->(el w.Ag j).pc=1->el w.Az (Ek (el w.Ag j).c.Ah w.Az.length).toNat=(j:Int)
 q1:List.Pairwise (λa b=>Cv a.Ah b.Ah=true) w.An
 q2:∀q∈w.An,QF w q
 q3:(w.An.flatMap (·.list)).Nodup
 q4:∀j,j<w.Ag.length->(el w.Ag j).pc=2->(j:Int)∈w.An.flatMap (·.list)
theorem Ber{w d}:∀ {a qd:List Int},(∀k∈a,(0<=k/\k<=(w.Ag.length:Int)-1)/\(el w.Ag k.toNat).pc=2/\(el w.Ag k.toNat).c.Ah=d)->(qd++a).Nodup->Kx w d qd a=Aa (qd++a)
 |[],qd,_,_=>by rw[Kx,Hu]
 |k::a,qd,h,g=>by have e:=h k (Bm ..);have b:k∉qd:=λq=>(A6d.1 g).2.2 k q k (Bm ..) rfl;rw[Kx,if_pos ⟨⟨e.1,e.2.1⟩,e.2.2,b⟩,Ber (λx hx=>h x (Bf _ hx)) (by rw[Ci];exact g),Ci];rfl
theorem Bet{w}:∀ {l:List Ba} {p:Option Ba} {qd:List Int},List.Pairwise (λa b=>Cv a.Ah b.Ah=true) l->(∀q,p=Aa q->∀s∈l,Cv q.Ah s.Ah=true)->(∀q∈l,QF w q)->(qd++l.flatMap (·.list)).Nodup->Kc w p qd l=Aa (qd++l.flatMap (·.list))
 |[],p,qd,_,_,_,_=>by rw[Kc];simp
 |q::l,p,qd,h1,h2,h3,h4=>by
  have f:=h3 q (Bm ..);rw[F4,<-Ci]at h4⊢;obtain⟨d,e⟩:=N7.1 h1
  have g:Jz (λp=>!Cv p.Ah q.Ah) p=false:=by
   cases p with
   |none=>rfl
   |some r=>have:=h2 r rfl q (Bm ..);simp[Jz,this]
  rw[Kc,if_pos ⟨⟨g,f.ln⟩,f.hd⟩,Ber f.ks (A6d.1 h4).1,Ad];exact Bet e (λr c s h=>by cases c;exact d s h) (λr c=>h3 r (Bf _ c)) h4
theorem WI.ok{w} (v:WI w):Hq w=true:=by
 unfold Hq;have i:Qy w.Ag w.step=true:=by unfold Qy;rw[A00 (met:=[]) (by rw[Iu];exact v.s1) v.s2];rfl
 have k:M2 w=true:=by
  unfold M2;rw[A9,Abp,Abp];refine⟨λs i=>?_,λj f=>?_⟩
  ·rw[L3];rcases v.la s i with e|⟨j,a,b,c,d⟩
   ·rw[e];rfl
   ·rw[b,Gb,c,d];simp;omega
  ·rw[L3];cases g:decide ((el w.Ag j).pc=1)with
   |false=>rfl
   |true=>rw[v.lb j f (of_decide_eq_true g)];simp
 have l:Qx w=true:=by
  unfold Qx;rw[Bet v.q1 (λ_ h=>by cases h) v.q2 (by simpa using v.q3)];simp only[Iu];rw[Abp];intro j f;rw[L3];cases g:decide ((el w.Ag j).pc=2)with
  |false=>rfl
  |true=>rw[decide_eq_true (v.q4 j f (of_decide_eq_true g))];rfl
 rw[v.h.ok,decide_eq_true v.ln,decide_eq_true v.nt,decide_eq_true v.st,Ff.2 v.tk,i,k,l];rfl
theorem WI.new {h:Aw} (i:Cd True h) {n:Nat} (b:1<=n/\n<=4):WI ⟨h,Ey n (-1),[],[],0⟩ where
 h:=i
 ln:=by simpa using b
 nt:=by simp
 st:=by simp
 tk:=λt e=>by cases e
 s1:=A6e
 s2:=λn b=>by cases b
 la:=λs d=>.inl (Bab (by simpa using d))
 lb:=λj a=>by cases a
 q1:=List.Pairwise.nil
 q2:=λq c=>by cases c
 q3:=A6e
 q4:=λj a=>by cases a
section
def Kr (l:List Ao) (n:Cea):Prop:=∃d∈l,d.name=n
theorem Awa{l n}:0<=B9 l n↔Kr l n:=by
 constructor
 ·intro h;have g:=Ws h;exact⟨_,Cj g.1,of_decide_eq_true g.2⟩
 ·rintro ⟨d,hd,hn⟩;refine Classical.byContradiction λc=>?_;have:=Agh.1 (show E6 (λd:Ao=>decide (d.name=n)) l<0 by unfold B9 at c;omega) d hd;simp[hn]at this
theorem Bx2{l i d n} (hi:i<l.length) (a:d.name=(el l i).name) (h:Kr l n):Kr (l.set i d) n:=by
 obtain⟨x,hx,rfl⟩:=h;rw[A6h,if_pos hi];rw[R7 hi]at hx;rcases Ei.1 hx with hx|hx
 ·exact⟨x,Hv _ hx,rfl⟩
 ·rcases Bq.1 hx with rfl|hx
  ·exact⟨d,F5 _ (Bm ..),a⟩
  ·exact⟨x,F5 _ (Bf _ hx),rfl⟩
theorem Ba1{d n}:∀ {l:List Ao},Kr l n->Kr (Nw d l) n
 |[],⟨_,h,_⟩=>by cases h
 |y::l,⟨x,h,e⟩=>by
  unfold Nw;split
  ·rcases Bq.1 h with rfl|h
   ·exact⟨x,Bm ..,e⟩
   ·obtain⟨z,a,b⟩:=Ba1 (d:=d) ⟨x,h,e⟩;exact⟨z,Bf _ a,b⟩
  ·exact⟨x,Bf _ h,e⟩
theorem Ace{h r n} (a:Kr h.Am n){code rev t l} (k:code=0->Kr r.Am n):Kr (Np h r code rev t l).1.Am n:=by
 unfold Np;split
 ·rename_i c;exact k c
 ·exact a
theorem Bs5{P h} (i:Cd P h) c{n} (g:Kr h.Am n):Kr (Kn h c).1.Am n:=by
 unfold Kn;split
 ·split
  ·refine Ace g λk=>?_;unfold Jn at k⊢;split at k
   ·split at k
    ·cases k
    ·split at k
     ·cases k
     ·split at k
      ·cases k
      ·rename_i a b c d;rw[if_pos a,if_neg b,if_neg c,if_neg d];exact Ba1 g
   ·cases k
  split
  ·refine Ace g λk=>?_;unfold Og at k⊢;split at k
   ·cases k
   ·split at k
    ·cases k
    ·split at k
     ·rename_i a b e;rw[if_neg a,if_neg b,if_pos e];obtain⟨j,k2,l,m⟩:=Oy i (name:=c.Ah) (by omega);exact Bx2 j (App m l e).2.1 g
     ·rename_i a b e;exact absurd k e
  split
  ·exact g
  split
  ·exact g
  split
  ·refine Ace g λk=>?_;unfold Oh at k⊢;split at k
   ·split at k
    ·cases k
    ·split at k
     ·cases k
     ·split at k
      ·cases k
      ·rename_i a b c d;rw[if_pos a,if_neg b,if_neg c,if_neg d];exact g
   ·cases k
  split
  ·refine Ace g λk=>?_;unfold Nv at k⊢;split at k
   ·cases k
   ·split at k
    ·cases k
    ·split at k
     ·rename_i a b e;rw[if_neg a,if_neg b,if_pos e];exact g
     ·rename_i a b e;exact absurd k e
  split
  ·refine Ace g λk=>?_;unfold My at k⊢;split at k
   ·cases k
   ·rename_i a;rw[if_neg a];exact g
  ·refine Ace g λk=>?_;unfold Pl at k⊢;split at k
   ·cases k
   ·rename_i a;rw[if_neg a];exact g
 ·exact g
def LA (T:List A4) (L:List Int):Prop:=∀s,s<L.length->el L s= -1\/∃j:Nat,j<T.length/\el L s=(j:Int)/\(el T j).pc=1/\Ek (el T j).c.Ah L.length=(s:Int)
def LB (T:List A4) (L:List Int):Prop:=∀j,j<T.length->(el T j).pc=1->el L (Ek (el T j).c.Ah L.length).toNat=(j:Int)
section
variable {T:List A4} {L:List Int} {k:Nat} {f:A4->A4}
theorem Axm (a:LA T L) (b:LB T L) (g:k<T.length) (m:∀t,(f t).c=t.c) (h:(el T k).pc≠1) (i:(f (el T k)).pc≠1):LA (stE T k f) L/\LB (stE T k f) L:=by
 refine⟨λs l=>?_,λj e d=>?_⟩
 ·refine(a s l).imp id λ⟨j,g1,g2,g3,g4⟩=>⟨j,by rw[Hg];exact g1,g2,?_⟩;have:j≠k:=λq=>h (q▸g3);rw[Lh g,if_neg this];exact⟨g3,g4⟩
 ·rw[Lh g]at d⊢;rw[Hg]at e;by_cases c:j=k
  ·rw[if_pos c]at d;exact absurd d i
  ·rw[if_neg c]at d⊢;exact b j e d
theorem B1m (a:LA T L) (b:LB T L) (e:k<T.length) (l:∀t,(f t).c=t.c) (r:(el T k).pc≠1) (u:(f (el T k)).pc=1){s} (o:s<L.length) (m:Ek (el T k).c.Ah L.length=(s:Int)) (p:el L s= -1):
  LA (stE T k f) (L.set s (k:Int))/\LB (stE T k f) (L.set s (k:Int)):=by
 refine⟨λs' h=>?_,λj n i=>?_⟩
 ·rw[Ft]at h⊢;by_cases c:s'=s
  ·subst c;exact .inr ⟨k,by rw[Hg];exact e,Wg o,by rw[Lh e,if_pos rfl];exact u,by rw[Lh e,if_pos rfl,l];exact m⟩
  ·rw[Ui λq=>c q.symm];refine(a s' h).imp id λ⟨j,g1,g2,g3,g4⟩=>⟨j,by rw[Hg];exact g1,g2,?_⟩;have:j≠k:=λq=>r (q▸g3);rw[Lh e,if_neg this];exact⟨g3,g4⟩
 ·rw[Ft];rw[Lh e]at i⊢;rw[Hg]at n;by_cases c:j=k
  ·subst c;rw[if_pos rfl,l,m,Gb,Wg o]
  ·rw[if_neg c]at i⊢;have g:=b j n i;by_cases d:(Ek (el T j).c.Ah L.length).toNat=s
   ·rw[d,p]at g;omega
   ·rw[Ui λq=>d q.symm];exact g
theorem Axl (a:LA T L) (b:LB T L) (i:k<T.length) (o:(el T k).pc=1) (p:(f (el T k)).pc≠1){s} (r:s<L.length) (m:Ek (el T k).c.Ah L.length=(s:Int)):
  LA (stE T k f) (L.set s (-1))/\LB (stE T k f) (L.set s (-1)):=by
 refine⟨λs' h=>?_,λj n e=>?_⟩
 ·rw[Ft]at h⊢;by_cases c:s'=s
  ·subst c;exact .inl (Wg r)
  ·rw[Ui λq=>c q.symm];refine(a s' h).imp id λ⟨j,g1,g2,g3,g4⟩=>⟨j,by rw[Hg];exact g1,g2,?_⟩;have:j≠k:=λq=>c (by rw[q,m]at g4;omega);rw[Lh i,if_neg this];exact⟨g3,g4⟩
 ·rw[Ft];rw[Lh i]at e⊢;rw[Hg]at n;by_cases c:j=k
  ·rw[if_pos c]at e;exact absurd e p
  ·rw[if_neg c]at e⊢;have g:=b j n e;by_cases d:(Ek (el T j).c.Ah L.length).toNat=s
   ·have l:=b k i o;rw[m,Gb]at l;rw[d,l]at g;omega
   ·rw[Ui λq=>d q.symm];exact g
end
structure QW (D:List Ao) (T:List A4) (Q:List Ba):Prop where
 q1:List.Pairwise (λa b=>Cv a.Ah b.Ah=true) Q
 ln:∀q∈Q,1<=q.list.length/\q.list.length<=2
 hd:∀q∈Q,Kr D q.Ah
 ks:∀q∈Q,∀x∈q.list,∃j:Nat,x=(j:Int)/\j<T.length/\(el T j).pc=2/\(el T j).c.Ah=q.Ah
 q3:(Q.flatMap (·.list)).Nodup
 q4:∀j,j<T.length->(el T j).pc=2->(j:Int)∈Q.flatMap (·.list)
theorem WI.qr{w} (v:WI w):QW w.h.Am w.Ag w.An:=⟨v.q1,λq e=>(v.q2 q e).ln,λq e=>Awa.1 (v.q2 q e).hd,λq e x hx=>by
 obtain⟨⟨a,b⟩,c,d⟩:=(v.q2 q e).ks x hx;exact⟨x.toNat,by omega,by omega,c,d⟩,v.q3,v.q4⟩
theorem QW.qf{w} (r:QW w.h.Am w.Ag w.An):∀q∈w.An,QF w q:=λq d=>⟨r.ln q d,Awa.2 (r.hd q d),λx hx=>by
 obtain⟨j,rfl,a,b,c⟩:=r.ks q d x hx;exact⟨⟨by omega,by omega⟩,b,c⟩⟩
section
variable {D D':List Ao} {T:List A4} {Q:List Ba} {k:Nat} {f:A4->A4}
theorem Ag5 (r:QW D T Q) (o:∀n,Kr D n->Kr D' n) (i:k<T.length) (l:(el T k).pc≠2) (m:(f (el T k)).pc≠2):QW D' (stE T k f) Q:=
 ⟨r.q1,r.ln,λq g=>o _ (r.hd q g),λq g x hx=>by
  obtain⟨j,e,a,b,c⟩:=r.ks q g x hx;have:j≠k:=λq=>l (q▸b);exact⟨j,e,by rw[Hg];exact a,by rw[Lh i,if_neg this];exact⟨b,c⟩⟩,r.q3,λj h d=>by
  rw[Lh i]at d;rw[Hg]at h;by_cases c:j=k
  ·rw[if_pos c]at d;exact absurd d m
  ·rw[if_neg c]at d;exact r.q4 j h d⟩
theorem B30 (r:QW D T Q) (d:k<T.length) (a:(el T k).pc≠2):(k:Int)∉Q.flatMap (·.list):=λq=>by
 obtain⟨q,c,hx⟩:=Ye.1 q;obtain⟨j,e,_,b,_⟩:=r.ks q c _ hx;have:j=k:=by omega
 exact a (this▸b)
end
end
section
section
variable {D D':List Ao} {T:List A4} {Q Q':List Ba} {k:Nat} {f:A4->A4}
theorem Bcj {P:Nat->Prop} (g:k<T.length){d x} (h:∃j:Nat,x=(j:Int)/\j<T.length/\(el T j).pc=2/\(el T j).c.Ah=d) (i:x≠(k:Int)):∃j:Nat,x=(j:Int)/\j<(stE T k f).length/\(el (stE T k f) j).pc=2/\(el (stE T k f) j).c.Ah=d:=by obtain⟨j,e,a,b,c⟩:=h;have:j≠k:=λq=>i (by rw[e,q]);exact⟨j,e,by rw[Hg];exact a,by rw[Lh g,if_neg this];exact⟨b,c⟩⟩
theorem Bep{i g} (d:∀q,(g q).Ah=q.Ah) (hi:i<Q.length) (h:List.Pairwise (λa b=>Cv a.Ah b.Ah=true) Q):List.Pairwise (λa b=>Cv a.Ah b.Ah=true) (stE Q i g):=by
 have e:(stE Q i g).map (·.Ah)=Q.map (·.Ah):=by
  rw[Ahv hi]
  conv=>rhs;rw[R7 hi]
  simp[d]
 have c:List.Pairwise (λa b=>Cv a b=true) (Q.map (·.Ah)):=Abl.2 h;rw[<-e]at c;exact Abl.1 c
theorem B0p{n} (d:List.Pairwise (λa b=>Cv a.Ah b.Ah=true) Q) (m:¬(0<=Cu Q n/\(el Q (Cu Q n).toNat).list.length=2)) (A:∀q∈Q,1<=q.list.length/\q.list.length<=2):
  List.Pairwise (λa b=>Cv a.Ah b.Ah=true) (Pm Q n k)/\((Pm Q n k).flatMap (·.list)).Perm ((k:Int)::Q.flatMap (·.list))/\
  ∀q∈Pm Q n k,q∈Q\/(q.Ah=n/\(1<=q.list.length/\q.list.length<=2)/\∀x∈q.list,x=(k:Int)\/∃z∈Q,z.Ah=n/\x∈z.list):=by
 unfold Pm;by_cases c:0<=Cu Q n
 ·obtain⟨g1,g2,g3,g4⟩:=Px c;rw[if_pos c];refine⟨Bep (λ_=>rfl) g1 d,?_,λq h=>?_⟩
  ·rw[Ahv g1]
   conv=>rhs;rw[R7 g1]
   simp only[H2,F4,Ci];refine List.Perm.trans (List.Perm.append_left _ ?_) Ct;rw[Brb];exact Ct
  ·rcases A0y h with h|rfl
   ·exact .inl h
   ·have:=A _ g4;refine .inr ⟨g3,⟨by simp,by simp only[Bt,B5,C0];omega⟩,λx hx=>?_⟩;rcases Ei.1 hx with hx|hx
    ·exact .inr ⟨_,g4,g3,hx⟩
    ·exact .inl (Eo.1 hx)
 ·rw[if_neg c];have B:∀q∈Q,q.Ah≠n:=λq d e=>by have:=Agh.1 (show E6 (λq:Ba=>decide (q.Ah=n)) Q<0 by unfold Cu at c;omega) q d;simp[e]at this
  have w:∀q∈Q.take (Fc n Q),Cv q.Ah n=true:=λq h=>by
   have e:Q.take (Fc n Q)=Q.takeWhile λs=>Cv s.Ah n:=by
    unfold Fc
    conv=>lhs;rw[<-A6j (p:=λs:Ba=>Cv s.Ah n) (l:=Q)]
    rw[A6j];exact(List.prefix_iff_eq_take.1 (Ati _)).symm
   rw[e]at h;have:=List.all_takeWhile (p:=λs:Ba=>Cv s.Ah n) (l:=Q);exact Ff.1 this q h
  have u:∀q∈Q.drop (Fc n Q),Cv n q.Ah=true:=λq h=>by
   have v:List.Pairwise (λa b=>Cv a.Ah b.Ah=true) (Q.drop (Fc n Q)):=d.sublist (A52 ..)
   have e:Q.drop (Fc n Q)=Q.dropWhile λs=>Cv s.Ah n:=by
    have o:=A6j (p:=λs:Ba=>Cv s.Ah n) (l:=Q);unfold Fc
    conv=>lhs;rw[<-o]
    rw[List.drop_left' (by rw[o])]
   cases i:Q.drop (Fc n Q)with
   |nil=>rw[i]at h;cases h
   |cons y r=>
    have C:¬Cv y.Ah n=true:=by have:=List.head?_dropWhile_not (λs:Ba=>Cv s.Ah n) Q;rw[<-e,i]at this;simpa using this
    have g:=Bfo (Abe.2 C) (B y (Kj (by rw[i];exact Bm ..)));rw[i]at h v;rcases Bq.1 h with rfl|h
    ·exact g
    ·exact Azz g ((N7.1 v).1 q h)
  refine⟨?_,?_,λq h=>?_⟩
  ·rw[Ci,Ae4];refine⟨d.sublist (List.take_sublist ..),N7.2 ⟨λq h=>u q h,d.sublist (A52 ..)⟩,λa t b j=>?_⟩;rcases Bq.1 j with rfl|j
   ·exact w a t
   ·exact Azz (w a t) (u b j)
  ·have e:=congrArg (List.flatMap (·.list)) (Kk (Fc n Q) Q);rw[H2]at e;rw[<-e,Ci,H2,H2];exact Ct
  ·rcases Ei.1 h with h|h
   ·rcases Ei.1 h with h|h
    ·exact .inl (V3 h)
    ·rw[Eo.1 h];exact .inr ⟨rfl,⟨by simp,by simp⟩,λx hx=>.inl (Eo.1 hx)⟩
   ·exact .inl (Kj h)
theorem B3z (r:QW D T Q) (g:k<T.length) (p:(el T k).pc≠2) (s:(f (el T k)).pc=2) (u:∀t,(f t).c=t.c) (v:Kr D (el T k).c.Ah) (d:¬(0<=Cu Q (el T k).c.Ah/\(el Q (Cu Q (el T k).c.Ah).toNat).list.length=2)):
  QW D (stE T k f) (Pm Q (el T k).c.Ah k):=by
 obtain⟨w,o,l⟩:=B0p (k:=k) r.q1 d r.ln;have ho:=B30 r g p
 have n:∀ {q:Ba},q∈Q->∀x∈q.list,∃j:Nat,x=(j:Int)/\j<(stE T k f).length/\(el (stE T k f) j).pc=2/\(el (stE T k f) j).c.Ah=q.Ah:=λ{q} h x hx=>
  Bcj (P:=λ_=>True) g (r.ks q h x hx) λe=>ho (e▸Ye.2 ⟨q,h,hx⟩)
 refine⟨w,λq h=>?_,λq h=>?_,λq h x hx=>?_,(o.nodup_iff).2 (Akq.2 ⟨ho,r.q3⟩),λj m i=>?_⟩
 ·rcases l q h with h|⟨_,h,_⟩
  ·exact r.ln q h
  ·exact h
 ·rcases l q h with h|⟨h,_⟩
  ·exact r.hd q h
  ·rw[h];exact v
 ·rcases l q h with h|⟨e,_,h⟩
  ·exact n h x hx
  ·rcases h x hx with rfl|⟨y,a,b,c⟩
   ·exact⟨k,rfl,by rw[Hg];exact g,by rw[Lh g,if_pos rfl];exact s,by rw[Lh g,if_pos rfl,u];exact e.symm⟩
   ·rw[e,<-b];exact n a x c
 ·rw[Hg]at m;rw[Lh g]at i;refine o.mem_iff.2 (Bq.2 ?_);by_cases c:j=k
  ·exact .inl (by rw[c])
  ·rw[if_neg c]at i;exact .inr (r.q4 j m i)
theorem B7z{i} (hi:i<Q.length) (d:1<=(el Q i).list.length):(Q.flatMap (·.list)).Perm (el (el Q i).list 0::(Ov Q i).flatMap (·.list)):=by
 have a:(el Q i).list=el (el Q i).list 0::(el Q i).list.drop 1:=by
  conv=>lhs;rw[R7 (L:=(el Q i).list) (i:=0) (by omega)]
  rfl
 unfold Ov
 have b:Q.flatMap (·.list)=(Q.take i).flatMap (·.list)++(el (el Q i).list 0::((el Q i).list.drop 1++(Q.drop (i+1)).flatMap (·.list))):=by
  conv=>lhs;rw[R7 hi,H2,F4,a]
  rfl
 rw[b];split
 ·rename_i c;rw[I4 c,Iu,H2];exact Ct
 ·rw[Ahv hi,H2,F4];exact Ct
theorem A0l{i} (hi:i<Q.length):∀q∈Ov Q i,q∈Q\/(q.Ah=(el Q i).Ah/\q.list=(el Q i).list.drop 1/\((el Q i).list.drop 1).length≠0):=λq h=>by
 unfold Ov at h;split at h
 ·rcases Ei.1 h with h|h
  ·exact .inl (V3 h)
  ·exact .inl (Kj h)
 ·rename_i c;rcases A0y h with h|rfl
  ·exact .inl h
  ·exact .inr ⟨rfl,rfl,c⟩
theorem B31 (r:QW D T Q) (l:∀n,Kr D n->Kr D' n){i} (hi:i<Q.length) (o:k<T.length) (w:el (el Q i).list 0=(k:Int)) (t:(f (el T k)).pc≠2):QW D' (stE T k f) (Ov Q i):=by
 have y:=r.ln _ (Cj hi);have p:=B7z hi y.1;rw[w]at p;have s:=Akq.1 (p.nodup_iff.1 r.q3)
 have z:∀ {q:Ba},(∀x∈q.list,∃j:Nat,x=(j:Int)/\j<T.length/\(el T j).pc=2/\(el T j).c.Ah=q.Ah)->q∈Ov Q i->∀x∈q.list,∃j:Nat,x=(j:Int)/\j<(stE T k f).length/\(el (stE T k f) j).pc=2/\(el (stE T k f) j).c.Ah=q.Ah:=λ{q} h d x hx=>
  Bcj (P:=λ_=>True) o (h x hx) λe=>s.1 (e▸Ye.2 ⟨q,d,hx⟩)
 refine⟨?_,λq h=>?_,λq h=>?_,λq h x hx=>?_,s.2,λj m g=>?_⟩
 ·unfold Ov;split
  ·rw[Ae4];have d:=r.q1;rw[R7 hi,Ae4]at d;exact⟨d.1,(N7.1 d.2.1).2,λa u b v=>d.2.2 a u b (Bf _ v)⟩
  ·exact Bep (λ_=>rfl) hi r.q1
 ·rcases A0l hi q h with h|⟨_,e,c⟩
  ·exact r.ln q h
  ·rw[e];rw[D0]at c⊢;omega
 ·rcases A0l hi q h with h|⟨e,_⟩
  ·exact l _ (r.hd q h)
  ·rw[e];exact l _ (r.hd _ (Cj hi))
 ·refine z (λx hx=>?_) h x hx;rcases A0l hi q h with h|⟨e,e2,_⟩
  ·exact r.ks q h x hx
  ·rw[e];rw[e2]at hx;exact r.ks _ (Cj hi) x (Kj hx)
 ·rw[Hg]at m;rw[Lh o]at g;by_cases c:j=k
  ·rw[if_pos c]at g;exact absurd g t
  ·rw[if_neg c]at g;rcases Bq.1 (p.mem_iff.1 (r.q4 j m g))with e|e
   ·exact absurd (by omega) c
   ·exact e
end
end
theorem WI.upd{w} (v:WI w){k} (l:k<w.Ag.length){h' L' Q' f} (hi:Cd True h') (h:L'.length=w.Az.length) (ok:Ip (f (el w.Ag k))=true)
  (a:(Ij (stE w.Ag k f)).Perm (w.step::Ij w.Ag)\/Ij (stE w.Ag k f)=Ij w.Ag) (j:w.step≠1000000)
  (g:LA (stE w.Ag k f) L'/\LB (stE w.Ag k f) L') (c:QW h'.Am (stE w.Ag k f) Q'):WI ⟨h',L',Q',stE w.Ag k f,w.step+1⟩:=by
 have:=v.st;have i:w.step∉Ij w.Ag:=λq=>by have:=v.s2 _ q;omega
 refine⟨hi,by simp only[h];exact v.ln,by simp only[Hg];exact v.nt,by simp only;omega,λt d=>?_,?_,λn b=>?_,g.1,g.2,c.q1,QW.qf (w:=⟨h',L',Q',stE w.Ag k f,w.step+1⟩) c,c.q3,c.q4⟩
 ·rcases A0y d with d|rfl
  ·exact v.tk t d
  ·exact ok
 ·rcases a with a|a
  ·exact a.nodup_iff.2 (Akq.2 ⟨i,v.s1⟩)
  ·simp only[a];exact v.s1
 ·simp only at b⊢;rcases a with a|a
  ·rcases Bq.1 (a.mem_iff.1 b)with e|e
   ·omega
   ·have:=v.s2 _ e;omega
  ·rw[a]at b;have:=v.s2 _ b;omega
structure TF (s:Int) (t:A4):Prop where
 c:Fp t.c=true
 i:0<=t.inv/\t.inv<s
 l:t.Bv<s
 r:t.Cl<s
 p:P5 t
theorem B55{n l}:n∈sF l↔n∈l/\n≠ -1:=by unfold sF;simp
theorem WI.tf{w} (v:WI w){t} (a:t∈w.Ag):TF w.step t:=by
 have h:=v.tk t a;unfold Ip at h;simp only[A9,decide_eq_true_eq]at h;have:=v.st
 have g:∀n∈Ik t,n<w.step:=λn b=>by
  by_cases c:n= -1
  ·omega
  ·exact v.s2 n (B55.2 ⟨Ye.2 ⟨t,a,b⟩,c⟩)
 exact⟨h.1.1,⟨h.1.2.1,g _ (by simp[Ik])⟩,g _ (by simp[Ik]),g _ (by simp[Ik]),h.2⟩
theorem TF.ok{s t a} (h:TF s t) (e:s<=1000000) (b:a.c=t.c) (hi:a.inv=t.inv) (d:P5 a):Ip a=true:=by have:=h.i;unfold Ip;rw[b,hi,h.c,decide_eq_true (show 0<=t.inv/\t.inv<=1000000 by omega),decide_eq_true d];rfl
theorem Ah4{t} (h:P5 t) (b:t.pc=0\/t.pc=1\/t.pc=2):t.Bv= -1/\t.Cl= -1/\t.a=Ak2:=by
 rcases h with h|h
 ·exact h.2
 ·omega
theorem Bsh{w} (v:WI w){c} (h:(Jx w c).2=true):WI (Jx w c).1:=by
 unfold Jx at h⊢;split at h
 ·rename_i q;rw[if_pos q];obtain⟨_,z,r,D⟩:=q;have:=v.st;have:=v.nt;have A:w.step∉Ij w.Ag:=λq=>by have:=v.s2 _ q;omega
  have e:Ij (w.Ag++[⟨c,0,w.step,-1,-1,Pd⟩])=Ij w.Ag++[w.step]:=by
   rw[B8x];congr 1;have:¬w.step= -1:=by omega
   simp[Ij,sF,Ik,this]
  have i:∀j,j<(w.Ag++[(⟨c,0,w.step,-1,-1,Pd⟩:A4)]).length->(j<w.Ag.length/\el (w.Ag++[(⟨c,0,w.step,-1,-1,Pd⟩:A4)]) j=el w.Ag j)\/(j=w.Ag.length/\el (w.Ag++[(⟨c,0,w.step,-1,-1,Pd⟩:A4)]) j=⟨c,0,w.step,-1,-1,Pd⟩):=λj k=>by
   simp only[Bt,B5,C0]at k;by_cases d:j<w.Ag.length
   ·exact .inl ⟨d,by rw[F9 (by simp;omega),F9 d,Bq7 d]⟩
   ·have:j=w.Ag.length:=by omega
    exact .inr ⟨this,by subst this;exact Uh _ _ []⟩
  have p:∀ {j},j<w.Ag.length->el (w.Ag++[(⟨c,0,w.step,-1,-1,Pd⟩:A4)]) j=el w.Ag j:=λ{j} d=>by
   rcases i j (by simp;omega)with⟨_,e⟩|⟨e,_⟩
   ·exact e
   ·omega
  have o:=v.qr;refine⟨v.h,v.ln,by simp;omega,by simp only;omega,λt m=>?_,?_,λn l=>?_,λs C=>?_,λj k f=>?_,v.q1,QW.qf (w:=⟨w.h,w.Az,w.An,w.Ag++[⟨c,0,w.step,-1,-1,Pd⟩],w.step+1⟩) ⟨o.q1,o.ln,o.hd,λq B x hx=>?_,o.q3,λj k f=>?_⟩,v.q3,λj k f=>?_⟩
  ·rcases Ei.1 m with m|m
   ·exact v.tk t m
   ·rw[Eo.1 m];unfold Ip;rw[z,decide_eq_true (by simp only;omega),decide_eq_true (.inl ⟨.inl rfl,rfl,rfl,rfl⟩)];rfl
  ·simp only[e];exact A6d.2 ⟨v.s1,Akq.2 ⟨Ae3,A6e⟩,λa u b y=>by rw[Eo.1 y];exactλq=>A (q▸u)⟩
  ·simp only[e]at l⊢;rcases Ei.1 l with g|g
   ·have:=v.s2 _ g;omega
   ·have:=Eo.1 g;omega
  ·refine(v.la s C).imp id λ⟨j,a,b,d,g⟩=>⟨j,by simp;omega,b,?_⟩;simp only[p a];exact⟨d,g⟩
  ·rcases i j k with⟨a,b⟩|⟨a,b⟩
   ·simp only[b]at f⊢;exact v.lb j a f
   ·simp only[b]at f;cases f
  ·obtain⟨j,a,b,d,g⟩:=o.ks q B x hx;exact⟨j,a,by simp;omega,by simp only[p b];exact⟨d,g⟩⟩
  ·rcases i j k with⟨a,b⟩|⟨a,b⟩
   ·simp only[b]at f;exact v.q4 j a f
   ·simp only[b]at f;cases f
  ·rcases i j k with⟨a,b⟩|⟨a,b⟩
   ·simp only[b]at f;exact v.q4 j a f
   ·simp only[b]at f;cases f
 ·cases h
theorem B8z{T k} (f:k<T.length){s} (g:0<=s){a} (e:(el T k).Bv= -1):(Ij (stE T k (tX s a))).Perm (s::Ij T):=by
 refine Bhb f ?_;have b:¬s= -1:=by omega
 simp only[tX,Ik,sF,e];by_cases c:(el T k).inv= -1<;>by_cases d:(el T k).Cl= -1<;>simp[c,d,b]
 ·exact List.Perm.swap ..
 ·exact List.Perm.swap ..
theorem B8y{T k} (e:k<T.length){s} (f:0<=s) (b:(el T k).Cl= -1):(Ij (stE T k (tD s))).Perm (s::Ij T):=by
 refine Bhb e ?_;have a:¬s= -1:=by omega
 simp only[tD,Ik,sF,b];by_cases c:(el T k).inv= -1<;>by_cases d:(el T k).Bv= -1<;>simp[c,d,a]
 ·exact List.Perm.swap ..
 ·exact List.Perm.swap ..
 ·exact Gg (l₁:=[(el T k).inv,(el T k).Bv]) (l₂:=[s])
theorem Avq{w} (v:WI w){k} (q:0<=k/\k<(w.Ag.length:Int)) (b:w.step≠1000000) (l:(el w.Ag k.toNat).pc=0\/(el w.Ag k.toNat).pc=1\/(el w.Ag k.toNat).pc=2){L Q} (e:L.length=w.Az.length)
  (m:∀f:A4->A4,(∀t,(f t).c=t.c)->(f (el w.Ag k.toNat)).pc=3->LA (stE w.Ag k.toNat f) L/\LB (stE w.Ag k.toNat f) L) (o:∀f:A4->A4,(f (el w.Ag k.toNat)).pc=3->∀d,(∀n,Kr w.h.Am n->Kr d n)->QW d (stE w.Ag k.toNat f) Q):
  WI (Jw w.step (Jm ⟨w.h,L,Q,w.Ag,w.step⟩ k,true)).1:=by
 have a:k.toNat<w.Ag.length:=by omega
 have f:=v.tf (Cj a);have g:=Ah4 f.p l;have:=v.st;have:=f.i;unfold Jw Jm;rw[if_pos rfl];refine v.upd a (Aua v.h _) e ?_ (.inl (B8z a (show 0<=w.step by omega) g.1)) b (m _ (λ_=>rfl) rfl) (o _ rfl _ λn j=>Bs5 v.h _ j);refine f.ok (by omega) rfl rfl (.inr ⟨.inl rfl,.inr ?_,.inl ⟨rfl,g.2.1⟩⟩);show(el w.Ag k.toNat).inv<=w.step/\w.step<=1000000;omega
theorem B3l{w} (v:WI w){k} (h:(Lq w k).2=true):WI (Lq w k).1:=by
 unfold Lq at h⊢;split at h
 ·rename_i q;rw[if_pos q];obtain⟨_,m,x,y⟩:=q;have j:k.toNat<w.Ag.length:=by omega
  have f:=v.tf (Cj j);have:=v.st;have L:=f.i;have K:=v.ln;have N:=Adu (s:=(el w.Ag k.toNat).c.Ah) (n:=(w.Az.length:Int)) (by omega);have t:(Ek (el w.Ag k.toNat).c.Ah w.Az.length).toNat<w.Az.length:=by omega
  have r:Ek (el w.Ag k.toNat).c.Ah w.Az.length=(((Ek (el w.Ag k.toNat).c.Ah w.Az.length).toNat:Nat):Int):=by omega
  unfold Pv at h⊢;by_cases z:(el w.Ag k.toNat).pc=0
  ·rw[if_pos z]at h⊢;have g:=Ah4 f.p (.inl z);by_cases o:1<=(el w.Ag k.toNat).c.kind/\(el w.Ag k.toNat).c.kind<=5
   ·rw[if_pos o]at h⊢;by_cases l:el w.Az (Ek (el w.Ag k.toNat).c.Ah w.Az.length).toNat= -1
    ·rw[if_pos l]at h⊢;unfold Jw;rw[if_pos rfl];refine v.upd j v.h (by rw[Ft]) (f.ok (by omega) rfl rfl (.inl ⟨.inr (.inl ⟨rfl,o⟩),g⟩)) (.inr (A01 j rfl)) m ?_ (Ag5 v.qr (λ_ h=>h) j (by omega) (by show(1:Int)≠2;decide));have:=B1m (f:=tP 1) v.la v.lb j (λ_=>rfl) (by omega) rfl t r l;rwa [show((k.toNat:Nat):Int)=k by omega]at this
    ·rw[if_neg l]at h;cases h
   ·rw[if_neg o]at h⊢;exact Avq v ⟨x,y⟩ m (.inl z) rfl (λf F B=>Axm v.la v.lb j F (by omega) (by omega)) λf B H C=>Ag5 v.qr C j (by omega) (by omega)
  ·rw[if_neg z]at h⊢;by_cases u:(el w.Ag k.toNat).pc=1
   ·rw[if_pos u]at h⊢;have g:=Ah4 f.p (.inr (.inl u));unfold Zk;simp only;split
    ·exact Avq v ⟨x,y⟩ m (.inr (.inl u)) (by rw[Ft]) (λf F B=>Axl v.la v.lb j u (by omega) t r) λf B H C=>Ag5 v.qr C j (by omega) (by omega)
    ·rename_i c;have D:(el w.Ag k.toNat).c.kind=2:=As0 λq=>c (.inl q);have I:0<=B9 w.h.Am (el w.Ag k.toNat).c.Ah:=As0 λq=>c (.inr (.inr (by omega)));split
     ·unfold Jw;rw[if_pos rfl];refine v.upd j v.h (by rw[Ft]) (f.ok (by omega) rfl rfl (.inr ⟨.inl rfl,.inl ⟨⟨rfl,D⟩,g.1⟩,.inl ⟨rfl,g.2.1⟩⟩)) (.inr (A01 j rfl)) m (Axl v.la v.lb j u (by show(3:Int)≠1;decide) t r) (Ag5 v.qr (λ_ h=>h) j (by omega) (by show(3:Int)≠2;decide))
     ·rename_i d;unfold Jw;rw[if_pos rfl];refine v.upd j v.h (by rw[Ft]) (f.ok (by omega) rfl rfl (.inl ⟨.inr (.inr ⟨rfl,D⟩),g⟩)) (.inr (A01 j rfl)) m (Axl v.la v.lb j u (by show(2:Int)≠1;decide) t r) ?_;have:=B3z (f:=tP 2) v.qr j (by omega) rfl (λ_=>rfl) (Awa.1 I) d;rwa [show((k.toNat:Nat):Int)=k by omega]at this
   ·rw[if_neg u]at h⊢;by_cases G:(el w.Ag k.toNat).pc=3
    ·rw[if_pos G]at h⊢;unfold Jw;rw[if_pos rfl];have M:=f.l;have A:=f.p;unfold P5 at A;rcases A with A|⟨a,b,d⟩
     ·omega
     have e:(el w.Ag k.toNat).Cl= -1:=by rcases d with d|d;exact d.2;omega
     refine v.upd j v.h rfl (f.ok (by omega) rfl rfl (.inr ⟨.inr rfl,b,.inr ⟨rfl,?_,?_⟩⟩)) (.inl (B8y j (by omega) e)) m (Axm v.la v.lb j (λ_=>rfl) (by omega) (by show(4:Int)≠1;decide)) (Ag5 v.qr (λ_ h=>h) j (by omega) (by show(4:Int)≠2;decide))
     ·show max (el w.Ag k.toNat).inv (el w.Ag k.toNat).Bv<=w.step;omega
     ·show w.step<=1000000;omega
    ·rw[if_neg G]at h;cases h
 ·cases h
theorem B70{w} (v:WI w){n} (h:(Lt w n).2=true):WI (Lt w n).1:=by
 unfold Lt at h⊢;split at h
 ·rename_i q;rw[if_pos q];obtain⟨_,k,d⟩:=q;obtain⟨g1,g2,g3,g4⟩:=Px d;have r:=v.qr;have p:=r.ln _ g4;obtain⟨j,e,a,b,c⟩:=r.ks _ g4 (el (el w.An (Cu w.An n).toNat).list 0) (Cj (by omega));rw[e];have i:((j:Int)).toNat=j:=Gb j;exact Avq v ⟨by omega,by omega⟩ k (.inr (.inr (by rw[i];exact b))) rfl (λf m g=>by rw[i]at g⊢;exact Axm v.la v.lb a m (by omega) (by omega)) λf g o l=>by rw[i]at g⊢;exact B31 r l g1 a e (by omega)
 ·cases h
def Yv (p:Aw×List Bi) (c:Bb):Aw×List Bi:=((Kn p.1 c).1,p.2++[(Kn p.1 c).2])
def doA (h:Aw) (l:List Bb):Aw×List Bi:=l.foldl Yv (h,[])
theorem Bs4 h l c:doA h (l++[c])=Yv (doA h l) c:=by unfold doA;rw[V0];rfl
structure Ord (h0 h:Aw) (T:List A4) (o:List Nat):Prop where
 mem:∀j,j∈o↔j<T.length/\(el T j).Bv≠ -1
 pw:List.Pairwise (λa b=>(el T a).Bv<(el T b).Bv) o
 run:doA h0 (o.map λj=>(el T j).c)=(h,o.map λj=>(el T j).a)
theorem Ord.cong{h0 h T T' o} (x:Ord h0 h T o) (k:∀j,(j<T'.length/\(el T' j).Bv≠ -1)↔(j<T.length/\(el T j).Bv≠ -1)) (i:∀j,j<T.length->(el T j).Bv≠ -1->(el T' j).c=(el T j).c/\(el T' j).Bv=(el T j).Bv/\(el T' j).a=(el T j).a):Ord h0 h T' o:=by
 have d:∀j∈o,(el T' j).c=(el T j).c/\(el T' j).Bv=(el T j).Bv/\(el T' j).a=(el T j).a:=λj e=>i j ((x.mem j).1 e).1 ((x.mem j).1 e).2;refine⟨λj=>(x.mem j).trans (k j).symm,?_,?_⟩
 ·refine List.Pairwise.imp_of_mem (λ{a b} f g h=>?_) x.pw;rw[(d a f).2.1,(d b g).2.1];exact h
 ·rw[Ru λj e=>(d j e).1,Ru λj e=>(d j e).2.2];exact x.run
theorem Ord.same{h0 h T o} (x:Ord h0 h T o){k} (l:k<T.length){f} (i:(f (el T k)).c=(el T k).c) (b:(f (el T k)).Bv=(el T k).Bv) (g:(el T k).Bv= -1\/(f (el T k)).a=(el T k).a):Ord h0 h (stE T k f) o:=by
 have e:=Lh l f;refine x.cong (λj=>?_) λj m d=>?_
 ·rw[Hg,e];by_cases c:j=k
  ·rw[if_pos c,b,c]
  ·rw[if_neg c]
 ·rw[e];by_cases c:j=k
  ·rw[if_pos c,c];rw[c]at d;exact⟨i,b,g.resolve_left d⟩
  ·rw[if_neg c];exact⟨rfl,rfl,rfl⟩
theorem Ord.exec{h0 h T o} (x:Ord h0 h T o){k} (n:k<T.length){s} (r:0<=s) (i:∀t∈T,t.Bv<s) (p:(el T k).Bv= -1):Ord h0 (Kn h (el T k).c).1 (stE T k (tX s (Kn h (el T k).c).2)) (o++[k]):=by
 have e:=Lh n (tX s (Kn h (el T k).c).2);have m:∀j∈o,j≠k:=λj d q=>((x.mem j).1 d).2 (q▸p);have ho:∀j∈o,el (stE T k (tX s (Kn h (el T k).c).2)) j=el T j:=λj d=>by rw[e,if_neg (m j d)]
 refine⟨λj=>?_,?_,?_⟩
 ·rw[Ei,x.mem,Eo,Hg,e];by_cases c:j=k
  ·rw[if_pos c,c];have:s≠ -1:=by omega
   simp[n,tX,this]
  ·rw[if_neg c];simp[c]
 ·refine Ae4.2 ⟨?_,A6g ..,λa f b l=>?_⟩
  ·refine List.Pairwise.imp_of_mem (λ{a b} f i h=>?_) x.pw;rw[ho a f,ho b i];exact h
  ·rw[Eo.1 l,ho a f,e,if_pos rfl];exact i _ (Cj ((x.mem a).1 f).1)
 ·rw[Abj,Abj,Ru (g:=λj=>(el T j).c) λj d=>by rw[ho j d],Ru (g:=λj=>(el T j).a) λj d=>by rw[ho j d]];simp only[Fa,A6b];rw[e,if_pos rfl];show doA h0 (o.map (λj=>(el T j).c)++[(el T k).c])=_;rw[Bs4,x.run];rfl
structure L5 (h0:Aw) (w:Au):Prop where
 v:WI w
 o:∃o,Ord h0 w.h w.Ag o
theorem L5.new{h} (i:Cd True h){n} (a:1<=n/\n<=4):L5 h ⟨h,Ey n (-1),[],[],0⟩:=⟨WI.new i a,[],⟨λj=>by simp,List.Pairwise.nil,rfl⟩⟩
theorem A7x{h0 w} (v:L5 h0 w){c} (h:(Jx w c).2=true):L5 h0 (Jx w c).1:=by
 refine⟨Bsh v.v h,?_⟩;obtain⟨o,x⟩:=v.o;unfold Jx at h⊢;split at h
 ·rename_i q;rw[if_pos q];have a:∀ {j},j<w.Ag.length->el (w.Ag++[(⟨c,0,w.step,-1,-1,Pd⟩:A4)]) j=el w.Ag j:=λ{j} d=>by rw[F9 (by simp;omega),F9 d,Bq7 d]
  refine⟨o,x.cong (λj=>?_) λj b _=>by rw[a b];exact⟨rfl,rfl,rfl⟩⟩;simp only[Bt,B5,C0];by_cases d:j<w.Ag.length
  ·rw[a d];exact⟨λq=>⟨d,q.2⟩,λq=>⟨by omega,q.2⟩⟩
  ·refine⟨λq=>?_,λq=>absurd q.1 d⟩;have:j=w.Ag.length:=by omega
   have e:el (w.Ag++[(⟨c,0,w.step,-1,-1,Pd⟩:A4)]) j=⟨c,0,w.step,-1,-1,Pd⟩:=by rw[this];exact Uh _ _ []
   rw[e]at q;exact absurd rfl q.2
 ·cases h
theorem Avp{h0 w} (v:L5 h0 w){k} (d:0<=k/\k<(w.Ag.length:Int)) (b:(el w.Ag k.toNat).pc=0\/(el w.Ag k.toNat).pc=1\/(el w.Ag k.toNat).pc=2){L Q}:
  ∃o,Ord h0 (Jw w.step (Jm ⟨w.h,L,Q,w.Ag,w.step⟩ k,true)).1.h (Jw w.step (Jm ⟨w.h,L,Q,w.Ag,w.step⟩ k,true)).1.Ag o:=by
 obtain⟨o,x⟩:=v.o;have a:k.toNat<w.Ag.length:=by omega
 have f:=v.v.tf (Cj a);unfold Jw Jm;rw[if_pos rfl];exact⟨_,x.exec a v.v.st.1 (λt c=>(v.v.tf c).l) (Ah4 f.p b).1⟩
theorem Bee{h0 w} (v:L5 h0 w){k} (h:(Lq w k).2=true):L5 h0 (Lq w k).1:=by
 refine⟨B3l v.v h,?_⟩;unfold Lq at h⊢;split at h
 ·rename_i q;rw[if_pos q];obtain⟨_,j,d,e⟩:=q;obtain⟨o,x⟩:=v.o;have c:k.toNat<w.Ag.length:=by omega
  have f:=v.v.tf (Cj c);unfold Pv at h⊢;split
  ·rename_i g;split
   ·split
    ·unfold Jw;rw[if_pos rfl];exact⟨o,x.same c rfl rfl (.inr rfl)⟩
    ·rename_i a b;rw[if_pos g,if_pos a,if_neg b]at h;cases h
   ·exact Avp v ⟨d,e⟩ (.inl g)
  ·rename_i g;split
   ·rename_i i;unfold Zk;simp only;split
    ·exact Avp v ⟨d,e⟩ (.inr (.inl i))
    ·split
     ·unfold Jw;rw[if_pos rfl];exact⟨o,x.same c rfl rfl (.inl (Ah4 f.p (.inr (.inl i))).1)⟩
     ·unfold Jw;rw[if_pos rfl];exact⟨o,x.same c rfl rfl (.inr rfl)⟩
   ·rename_i i;split
    ·unfold Jw;rw[if_pos rfl];exact⟨o,x.same c rfl rfl (.inr rfl)⟩
    ·rename_i l;rw[if_neg g,if_neg i,if_neg l]at h;cases h
 ·cases h
theorem Bgu{h0 w} (v:L5 h0 w){n} (h:(Lt w n).2=true):L5 h0 (Lt w n).1:=by
 refine⟨B70 v.v h,?_⟩;unfold Lt at h⊢;split at h
 ·rename_i q;rw[if_pos q];obtain⟨_,f,d⟩:=q;obtain⟨g1,g2,g3,g4⟩:=Px d;have r:=v.v.qr;have g:=r.ln _ g4;obtain⟨j,e,a,b,c⟩:=r.ks _ g4 (el (el w.An (Cu w.An n).toNat).list 0) (Cj (by omega));rw[e];exact Avp v ⟨by omega,by omega⟩ (.inr (.inr (by rw[Gb];exact b)))
 ·cases h
theorem A0i{h0 w} (v:L5 h0 w){r} (h:r.2=true->L5 h0 r.1):L5 h0 (M8 w r).1:=by
 unfold M8;split
 ·rename_i c;exact h c
 ·exact v
theorem B3m{h0 w} (v:L5 h0 w) L:L5 h0 (Kb w L).1:=by
 unfold Kb;split
 ·exact A0i v (Bee v)
 ·split
  ·exact A0i v (Bgu v)
  ·split
   ·exact A0i v (A7x v)
   ·exact v
theorem B3o{w L} (h:(Kb w L).2≠⟨#[111,107]⟩):(Kb w L).1=w:=by
 have a:∀r:Au×Bool,(M8 w r).2≠⟨#[111,107]⟩->(M8 w r).1=w:=λr h=>by
  unfold M8 at h⊢;split
  ·rename_i c;rw[if_pos c]at h;exact absurd rfl h
  ·rfl
 unfold Kb at h⊢;split
 ·rename_i c;rw[if_pos c]at h;exact a _ h
 ·rename_i c;rw[if_neg c]at h;split
  ·rename_i c;rw[if_pos c]at h;exact a _ h
  ·rename_i c;rw[if_neg c]at h;split
   ·rename_i c;rw[if_pos c]at h;exact a _ h
   ·rfl
theorem Br7{c} (h:Fp c=true):U6 c:=Bg3 c (by have:=A1a h;omega)
theorem Bft{w} (k:N9 w) c:Vk w c=Aa (Jx w c):=by
 cases a:Fp c with
 |true=>exact Bfs k (Br7 a)
 |false=>
  unfold Vk Jx;rw[Ao5 w k.sm k.nq,Ad,if_neg (λq=>by rw[a]at q;cases q.2.1)];cases Hq w with
  |false=>rfl
  |true=>rw[A6,A3,Ahh,a];rfl
theorem Cd.weak{P h} (i:Cd P h):Cd False h:=⟨i.nd,i.ns,i.la,i.cd,i.ci,λs c=>by
 obtain⟨a,b,d,e,f⟩:=i.sg s c;exact⟨a,b,d,e,λo=>⟨(f o).1,λq=>q.elim⟩⟩⟩
structure WG (h0:Aw) (w:Au):Prop where
 l:L5 h0 w
 b:WB w
theorem WG.ws{h0 w} (g:WG h0 w):N9 w:=g.b.ws
theorem WG.ok{h0 w} (g:WG h0 w):Hq w=true:=g.l.v.ok
theorem WG.new{h} (i:Cd True h){n} (a:1<=n/\n<=4):WG h ⟨h,Ey n (-1),[],[],0⟩:=⟨L5.new i a,.inr ⟨i.weak,by simpa using a.2,by simp,λq b=>(by cases b),by simp,λt c=>(by cases c)⟩⟩
theorem WG.come{h0 w} (g:WG h0 w){c} (h:(Jx w c).2=true):WG h0 (Jx w c).1:=⟨A7x g.l h,A7w g.b h⟩
theorem WG.pick{h0 w} (g:WG h0 w){k} (h:(Lq w k).2=true):WG h0 (Lq w k).1:=⟨Bee g.l h,Bed g.b h⟩
theorem WG.serve{h0 w} (g:WG h0 w){n} (h:(Lt w n).2=true):WG h0 (Lt w n).1:=⟨Bgu g.l h,Bgt g.b h⟩
theorem WG.play{h0 w} (g:WG h0 w) L:WG h0 (Kb w L).1:=⟨B3m g.l L,(Beh g.b L).1⟩
theorem Ord.nodup{h0 h T o} (x:Ord h0 h T o):o.Nodup:=x.pw.imp λh q=>by rw[q]at h;omega
theorem Bg4 {f:Nat->Int}:∀ {a b:List Nat},List.Pairwise (λx y=>f x<f y) a->List.Pairwise (λx y=>f x<f y) b->(∀j,j∈a↔j∈b)->a=b
 |[],[],_,_,_=>rfl
 |[],y::b,_,_,h=>by have:=(h y).2 (Bm ..);cases this
 |x::a,[],_,_,h=>by have:=(h x).1 (Bm ..);cases this
 |x::a,y::b,h1,h2,h=>by
  obtain⟨d,i⟩:=N7.1 h1;obtain⟨g,l⟩:=N7.1 h2
  have e:x=y:=by
   rcases Bq.1 ((h x).1 (Bm ..))with e|e
   ·exact e
   ·rcases Bq.1 ((h y).2 (Bm ..))with c|c
    ·exact c.symm
    ·have:=d y c;have:=g x e;omega
  subst e
  have e:a=b:=Bg4 i l λj=>by
   constructor
   ·intro k;rcases Bq.1 ((h j).1 (Bf _ k))with q|q
    ·have:=d j k;rw[q]at this;omega
    ·exact q
   ·intro k;rcases Bq.1 ((h j).2 (Bf _ k))with q|q
    ·have:=g j k;rw[q]at this;omega
    ·exact q
  rw[e]
theorem Ord.real{h0 w o} (v:WI w) (x:Ord h0 w.h w.Ag o){a b} (j:a∈o) (k:b∈o) (m:(el w.Ag a).Bv<(el w.Ag b).Bv):¬((el w.Ag b).Cl≠ -1/\(el w.Ag b).Cl<(el w.Ag a).inv):=by
 obtain⟨f,e⟩:=(x.mem a).1 j;obtain⟨g,i⟩:=(x.mem b).1 k;have c:=(v.tf (Cj f)).p;have d:=(v.tf (Cj g)).p;unfold P5 at c d;rintro ⟨r1,r2⟩;rcases c with c|⟨_,c,_⟩
 ·exact e c.2.1
 rcases d with d|⟨_,d,l⟩
 ·exact i d.2.1
 rcases c with c|c
 ·exact e c.2
 omega
def SO (f:Int->Int) (L:List Int) (n:Nat):Prop:=∀p q,p<q->q<n->f (el L p)<=f (el L q)
def SI (f:Int->Int) (L:List Int) (i j:Nat):Prop:=∀p q,p<q->q<=i->q≠j->f (el L p)<=f (el L q)
def Aai (L:List Int) (j:Nat):List Int:=(L.set (j+1) (el L j)).set j (el L (j+1))
theorem Bhr{L j} (h:j+1<L.length) p:el (Aai L j) p=if p=j then el L (j+1)else if p=j+1 then el L j else el L p:=by
 unfold Aai;by_cases c:p=j
 ·rw[if_pos c,c,Wg (by rw[Ft];omega)]
 ·rw[if_neg c,Ui λq=>c q.symm];by_cases d:p=j+1
  ·rw[if_pos d,d,Wg h]
  ·rw[if_neg d,Ui λq=>d q.symm]
theorem B86{L j} (h:j+1<L.length):(Aai L j).Perm L:=by
 have e:L=L.take j++(el L j::el L (j+1)::L.drop (j+2)):=by
  conv=>lhs;rw[R7 (L:=L) (i:=j) (by omega)]
  have:=R7 (L:=L.drop (j+1)) (i:=0) (by simp;omega);have hx:el (L.drop (j+1)) 0=el L (j+1):=by rw[F9 (by simp;omega),F9 h];simp
  rw[hx,A6o,Iu,Mq]at this;rw[<-this]
 have g:∀(P R:List Int) (A B:Int),P.length=j->((P++A::B::R).set (j+1) A).set j B=P++B::A::R:=λP R A B a=>by rw[Abn _ _ (by omega),Abn _ _ (by omega),a,show j+1-j=1 by omega,show j-j=0 by omega];rfl
 have e2:Aai L j=L.take j++(el L (j+1)::el L j::L.drop (j+2)):=by unfold Aai;have:=g (L.take j) (L.drop (j+2)) (el L j) (el L (j+1)) (by rw[Dh];omega);rwa [<-e]at this
 rw[e2]
 conv=>rhs;rw[e]
 exact List.Perm.append_left _ (List.Perm.swap ..)
theorem B78{f L i j} (hi:i<L.length) (l:j+1<=i) (h:SI f L i (j+1)) (k:f (el L (j+1))<=f (el L j)):SI f (Aai L j) i j:=λp q g a b=>by
 rw[Bhr (by omega),Bhr (by omega)];by_cases c:q=j+1
 ·rw[if_neg b,if_pos c];by_cases d:p=j
  ·rw[if_pos d];exact k
  ·rw[if_neg d,if_neg (by omega)];exact h p j (by omega) (by omega) (by omega)
 ·rw[if_neg b,if_neg c];by_cases d:p=j
  ·rw[if_pos d];exact h (j+1) q (by omega) a c
  ·rw[if_neg d];by_cases e:p=j+1
   ·rw[if_pos e];exact h j q (by omega) a c
   ·rw[if_neg e];exact h p q g a c
theorem Bgx{f L i j} (h:SI f L i j) (a:j=0\/f (el L (j-1))<=f (el L j)):SO f L (i+1):=λp q b e=>by
 by_cases c:q=j
 ·rcases a with a|a
  ·omega
  ·rw[c];by_cases d:p=j-1
   ·rw[d];exact a
   ·exact Int.le_trans (h p (j-1) (by omega) (by omega) (by omega)) a
 ·exact h p q b (by omega) c
theorem B8k{f L i} (h:SO f L i):SI f L i i:=λp q a b c=>h p q a (by omega)
theorem B23{h0 h T o} (x:Ord h0 h T o){L} (C:L.Nodup) (hi:∀k,k∈L↔∃j∈o,k=(j:Int)) (F:SO (λk=>(el T k.toNat).Bv) L L.length):L=o.map λj:Nat=>(j:Int):=by
 have n:=λk (m:k∈L)=>(hi k).1 m
 have e:L.map Int.toNat=o:=by
  refine Bg4 (f:=λj=>(el T j).Bv) ?_ x.pw λj=>?_
  ·rw[Abl,A6f];intro p q l s z;have t:=F p q z s;rw[F9 l,F9 s]at t;simp only at t;obtain⟨a,g,w⟩:=n _ (A58 l);obtain⟨b,d,e2⟩:=n _ (A58 s);have u:a≠b:=λc=>by have:=(A6f.1 C) p q l s z;rw[w,e2,c]at this;exact this rfl
   rw[w,e2,Gb,Gb]at t⊢
   have v:∀ {o:List Nat},List.Pairwise (λa b=>(el T a).Bv<(el T b).Bv) o->a∈o->b∈o->(el T a).Bv≠(el T b).Bv:=λ{o}=>by
    induction o with
    |nil=>intro _ h;cases h
    |cons y r G=>
     intro D g d;obtain⟨A,H⟩:=N7.1 D;rcases Bq.1 g with g|g
     ·rcases Bq.1 d with d|d
      ·exact absurd (g.trans d.symm) u
      ·have:=A b d;rw[g];omega
     ·rcases Bq.1 d with d|d
      ·have:=A a g;rw[d];omega
      ·exact G H g d
   have:=v x.pw g d;omega
  ·constructor
   ·intro h;obtain⟨k,m,e⟩:=K7.1 h;obtain⟨i,hi,B⟩:=n k m;rw[<-e,B,Gb];exact hi
   ·intro h;exact K7.2 ⟨(j:Int),(hi _).2 ⟨j,h,rfl⟩,Gb j⟩
 rw[<-e,V2]
 conv=>lhs;rw[<-Akp L]
 refine Ru λk m=>?_;obtain⟨j,_,rfl⟩:=n k m;rfl
def inT (w:Au) (L:List Int):Prop:=∀x∈L,0<=x/\x<(w.Ag.length:Int)
def Oi (w:Au) (k:Int):Int:=(el w.Ag k.toNat).Bv
theorem Bsg{w a b} (e:0<=a/\a<(w.Ag.length:Int)) (f:0<=b/\b<(w.Ag.length:Int)):∃r,Aqs a b w=Aa r/\(r<0↔Oi w a<Oi w b):=by
 unfold Aqs A13 Aqb;rw[Aj e,Aj f,Ad,Ad,decide_eq_true rfl,decide_eq_true rfl,A6,A3,A3];unfold Oi;by_cases c:(el w.Ag a.toNat).Bv<(el w.Ag b.toNat).Bv
 ·rw[Av c];exact⟨-1,rfl,by omega⟩
 ·rw[Ap c];by_cases d:(el w.Ag b.toNat).Bv<(el w.Ag a.toNat).Bv
  ·rw[Av d];exact⟨1,rfl,by omega⟩
  ·rw[Ap d];exact⟨0,rfl,by omega⟩
theorem B8s{w L i} (g:inT w L) (hi:i<L.length) (v:L.length<=1000) (h:SO (Oi w) L i):
  ∃y,Cp (Arv 0 w) ((i:Int),L)=Aa y/\y.2.Perm L/\SO (Oi w) y.2 (i+1):=by
 refine Kt (f:=Arv 0 w) (λs=>∃j:Nat,s.1=(j:Int)/\j<=i/\s.2.Perm L/\SI (Oi w) s.2 i j) (λs=>s.1.toNat) (λy=>y.2.Perm L/\SO (Oi w) y.2 (i+1)) (λs o=>?_) ((i:Int),L) ⟨i,rfl,Ef _,List.Perm.refl _,B8k h⟩;obtain⟨j,e,u,a,b⟩:=o;obtain⟨s1,D⟩:=s;simp only at e a b;subst e;have k:=a.length_eq;unfold Arv Bkh;simp only;by_cases c:(0:Int)<(j:Int)
 ·obtain⟨m,rfl⟩:∃m,j=m+1:=⟨j-1,by omega⟩;have n:((m+1:Nat):Int)-1=(m:Int):=by omega
  have p:=g _ (a.mem_iff.1 (Cj (l:=D) (i:=m+1) (by omega)));have t:=g _ (a.mem_iff.1 (Cj (l:=D) (i:=m) (by omega)));obtain⟨r,g1,g2⟩:=Bsg p t;rw[Av c,n,Aj ⟨by omega,by omega⟩,Bh (by omega) (by omega),Aj ⟨by omega,by omega⟩,Gb,Gb,g1,Ad];by_cases d:Oi w (el D (m+1))<Oi w (el D m)
  ·rw[decide_eq_true (g2.2 d),Cg,Bh (by omega) (by omega),Bh (by omega) (by omega),Aj ⟨by omega,by omega⟩,Aj ⟨by omega,by omega⟩,Aj ⟨by omega,by omega⟩,Aj ⟨by omega,by rw[Ft];omega⟩,Bh (by omega) (by omega)];refine .inl ⟨((m:Int),Aai D m),rfl,⟨m,rfl,by omega,(B86 (by omega)).trans a,B78 (by omega) (by omega) b (by omega)⟩,by simp only;omega⟩
  ·rw[decide_eq_false (λq=>d (g2.1 q)),A3];exact .inr ⟨_,rfl,a,Bgx b (.inr (by rw[show m+1-1=m by omega];exact Int.not_lt.1 d))⟩
 ·rw[Ap c];exact .inr ⟨_,rfl,a,Bgx b (.inl (by omega))⟩
theorem B8t{w L} (k:inT w L) (m:L.length<=1000):∃D,Aji L 0 (L.length:Int) w=Aa D/\D.Perm L/\SO (Oi w) D D.length:=by
 unfold Aji
 obtain⟨y,b,e,a⟩:=Kt (f:=A3t (L.length:Int) 0 w) (λs=>∃i:Nat,s.1=(i:Int)/\1<=i/\s.2.Perm L/\SO (Oi w) s.2 i) (λs=>((L.length:Int)-s.1).toNat) (λy=>y.2.Perm L/\SO (Oi w) y.2 y.2.length) (λs l=>by
  obtain⟨i,b,e,a,d⟩:=l;obtain⟨s1,D⟩:=s;simp only at b a d;subst b;have j:=a.length_eq;unfold A3t Bkg;simp only;by_cases c:(i:Int)<(L.length:Int)
  ·obtain⟨y,g1,g2,g3⟩:=B8s (L:=D) (λx hx=>k x (a.mem_iff.1 hx)) (by omega) (by omega) d;rw[Av c,g1,Ad,Bh (by omega) (by omega)];exact .inl ⟨_,rfl,⟨i+1,by simp only;omega,by omega,g2.trans a,g3⟩,by simp only;omega⟩
  ·rw[Ap c];exact .inr ⟨_,rfl,a,λp q g h=>d p q g (by simp only at h;omega)⟩) (0+1,L) ⟨1,rfl,by omega,List.Perm.refl _,λp q g h=>by omega⟩
 rw[Bh (by omega) (by omega),b];exact⟨y.2,rfl,e,a⟩
theorem Bb7{σ ρ f} {s:σ} {y:ρ} (h:f s=Aa (.out y)):Cp f s=Aa y:=by rw[Aw9,h];rfl
theorem B8l{w L} (f:inT w L) (g:L.length<=19):∃D,Aru L w=Aa D/\D.Perm L/\SO (Oi w) D D.length:=by
 obtain⟨D,c,d,e⟩:=B8t f (by omega);refine⟨D,?_,d,e⟩;unfold Aru A3u
 have a:Cp (A3v (L.length:Int) w) (0,20,L)=Aa (0,20,L):=Bb7 (by
  unfold A3v Bki;simp only;rw[Ap (by omega)])
 have b:Cp (A3w (L.length:Int)) 20=Aa 20:=Bb7 (by
  unfold A3w Bkj;rw[Ap (by omega)])
 rw[a,Ad];simp only;rw[c,Ad,b];rfl
theorem B24{w} (m:w.Ag.length<=19):A2 (Aqt w) (λd=>(d:List Int)) w.Ag.length 0 []=Aa (((Ts w.Ag.length).filter λj=>decide ((el w.Ag j).Bv≠ -1)).map λj:Nat=>(j:Int)):=by
 obtain⟨y,g,i⟩:=Ab7 (F:=Aqt w) (e:=λs=>s) w.Ag (λr k s=>k+r.length=w.Ag.length/\s=((Ts k).filter λj=>decide ((el w.Ag j).Bv≠ -1)).map λj:Nat=>(j:Int)) (λ_ _ _ y=>y=((Ts w.Ag.length).filter λj=>decide ((el w.Ag j).Bv≠ -1)).map λj:Nat=>(j:Int)) (λs f=>f.2) (λx r k s l hx f=>by
   obtain⟨a,b⟩:=f;unfold Aqt Bjg;have n:s.length<=k:=by rw[b,Gz];exact V6 (Bq8 _ _) (by rw[A59];exact Ef _)
   simp only[B5]at a;by_cases c:(el w.Ag k).Bv= -1
   ·rw[decide_eq_true c,A6,A3];refine .inl ⟨_,rfl,⟨by omega,?_⟩,λ_ h=>h⟩;rw[List.range_succ,A54,List.filter_cons_of_neg (by simp[c]),b];simp
   ·rw[decide_eq_false c,Fs,Cg,Aj (by omega)];refine .inl ⟨_,rfl,⟨by omega,?_⟩,λ_ h=>h⟩;rw[List.range_succ,A54,List.filter_cons_of_pos (by simp[c]),b];simp) [] ⟨by simp,by simp⟩
 rw[g,i]
theorem Byt{h0 w o} (x:Ord h0 w.h w.Ag o) (f:w.Ag.length<=19):Aqr w=Aa (o.map λj:Nat=>(j:Int)):=by
 have g:∀k:Int,k∈(((Ts w.Ag.length).filter λj=>decide ((el w.Ag j).Bv≠ -1)).map λj:Nat=>(j:Int))↔∃j∈o,k=(j:Int):=λk=>by
  rw[K7];constructor
  ·rintro ⟨j,c,rfl⟩;rw[List.mem_filter,Atf]at c;exact⟨j,(x.mem j).2 ⟨c.1,of_decide_eq_true c.2⟩,rfl⟩
  ·rintro ⟨j,c,rfl⟩;obtain⟨a,b⟩:=(x.mem j).1 c;exact⟨j,by rw[List.mem_filter,Atf];exact⟨a,decide_eq_true b⟩,rfl⟩
 have n:(((Ts w.Ag.length).filter λj=>decide ((el w.Ag j).Bv≠ -1)).map λj:Nat=>(j:Int)).Nodup:=Abl.2 ((List.nodup_range.filter _).imp λh q=>h (by omega))
 obtain⟨D,i,d,l⟩:=B8l (w:=w) (L:=((Ts w.Ag.length).filter λj=>decide ((el w.Ag j).Bv≠ -1)).map λj:Nat=>(j:Int)) (λk m=>by
  obtain⟨j,c,rfl⟩:=(g k).1 m;have:=((x.mem j).1 c).1;omega) (by
  rw[Gz];exact V6 (Bq8 _ _) (by rw[A59];exact f))
 have e:=B23 x (d.nodup_iff.2 n) (λk=>d.mem_iff.trans (g k)) l;unfold Aqr;rw[B24 f,Ad,i,Ad,e]
theorem Wf{ρ F} {a:ρ}{n} (h:∀k,k<n->F k ()=Aa (.go ())):A2 F (λ_=>a) n 0 ()=Aa a:=by have:=Ug (F:=F) (a:=a) (b:=a) (Ey n ()) (λ_=>true) λ_ k c _=>h k (by simpa using c);simpa using this
theorem Bw1{T} [Inhabited T] {l:List T}{n k} (h:k<n):el (l.take n) k=el l k:=by unfold el;simp[Ni,h]
theorem B36 l:Aeb l l=Aa true:=by
 unfold Aeb
 rw[decide_eq_true rfl,A6,A3,Wf (λk a=>by
  unfold A3k A3j;rw[Aj ⟨by omega,by omega⟩];simp),Ad]
 rfl
theorem B34 l:Arp l l=Aa true:=by
 unfold Arp
 rw[decide_eq_true rfl,A6,A3,Wf (λk a=>by
  unfold Bj7 Bj6 A2b;rw[Aj ⟨by omega,by omega⟩];simp[Zb,Awk,B36]),Ad]
 rfl
theorem B37 l:Arr l l=Aa true:=by
 unfold Arr
 rw[decide_eq_true rfl,A6,A3,Wf (λk a=>by
  unfold Bkb Bka A28 A2l;rw[Aj ⟨by omega,by omega⟩];simp[Awk]),Ad]
 rfl
theorem Be0 h:Ail h h=Aa true:=by unfold Ail;simp[B34,B37]
theorem B35 l:Arq l l=Aa true:=by
 unfold Arq
 rw[decide_eq_true rfl,A6,A3,Wf (λk a=>by
  unfold Bj9 Bj8 A27;rw[Aj ⟨by omega,by omega⟩];simp[Zb]),Ad]
 rfl
theorem B38 l:Ars l l=Aa true:=by
 unfold Ars
 rw[decide_eq_true rfl,A6,A3,Wf (λk a=>by
  unfold Bkd Bkc A29;rw[Aj ⟨by omega,by omega⟩];simp[Bbc,Awe]),Ad]
 rfl
theorem Be1 w:S9 w w=Aa true:=by unfold S9;simp[Be0,Zb,B35,B38]
theorem Byf{x} (i:Cd True x) l (f:l.length<=1000):Aqe x l=Aa (doA x l):=by
 unfold Aqe;rw[i.ic,Ad]
 have h:=Fk (F:=A17 l) (e:=λ(a:List Bi×Bool×List Ao×List A0×Int)=>((a.1,a.2.1,a.2.2.1,a.2.2.2.1,a.2.2.2.2):List Bi×Bool×List Ao×List A0×Int)) l (λr k s=>s.1.length<=k/\Cd True ⟨s.2.1,s.2.2.1,s.2.2.2.1,s.2.2.2.2⟩)
  (λr _ s=>((r.foldl Yv (⟨s.2.1,s.2.2.1,s.2.2.2.1,s.2.2.2.2⟩,s.1)).2,(r.foldl Yv (⟨s.2.1,s.2.2.1,s.2.2.2.1,s.2.2.2.2⟩,s.1)).1.shut,(r.foldl Yv (⟨s.2.1,s.2.2.1,s.2.2.2.1,s.2.2.2.2⟩,s.1)).1.Am,(r.foldl Yv (⟨s.2.1,s.2.2.1,s.2.2.2.1,s.2.2.2.2⟩,s.1)).1.Ax,(r.foldl Yv (⟨s.2.1,s.2.2.1,s.2.2.2.1,s.2.2.2.2⟩,s.1)).1.last)) (λ_ _=>rfl) (λc r k s d hx b=>by
  unfold A17 Bi5;rw[hx,Bbe b.2,Ad,Aj (by omega)];exact .inl ⟨_,rfl,⟨by simp only[Bt,B5,C0];omega,Aua b.2 _⟩,rfl⟩) ([],x.shut,x.Am,x.Ax,x.last) ⟨by simp,i⟩
 rw[h];rfl
theorem Byq{h0 w} (i:Cd True h0) (g:WG h0 w):Aip h0 w=Aa true:=by
 obtain⟨o,x⟩:=g.l.o;have v:=g.l.v;have G:=v.nt;have C:o.length<=w.Ag.length:=by have:=Axz (l:=o) (m:=Ts w.Ag.length) x.nodup λj B=>Atf.2 ((x.mem j).1 B).1;rwa [A59]at this
 have n:∀k,k<o.length->el (o.map λj:Nat=>(j:Int)) k=((el o k:Nat):Int):=λk p=>by rw[F9 (by simpa using p),F9 p,Atb]
 have J7:∀k,k<o.length->el o k<w.Ag.length:=λk p=>((x.mem _).1 (Cj p)).1;have z:∀a b,a<b->b<o.length->(el w.Ag (el o a)).Bv<(el w.Ag (el o b)).Bv:=λa b u A=>by have:=A6f.1 x.pw a b (by omega) A u;rw[F9 (L:=o) (i:=a) (by omega),F9 A];exact this
 unfold Aip;rw[i.i,Ad,A6,A3,Acn w g.ws.sm g.ws.nq,g.ok,Ad,Ad,A6,A3,Byt x (by omega),Ad]
 have u:A2 (Aqn w (o.map λj:Nat=>(j:Int))) (λ(f:List Bb)=>(Ej f:Sum (List Bb) Bool)) (o.map λj:Nat=>(j:Int)).length 0 []=Aa (.inl (o.map λj=>(el w.Ag j).c)):=by
  have h:=Fk (F:=Aqn w (o.map λj:Nat=>(j:Int))) (e:=λ(f:List Bb)=>(Ej f:Sum (List Bb) Bool)) (o.map λj:Nat=>(j:Int)) (λr k s=>s.length<=k) (λr _ s=>.inl (s++r.map λx=>(el w.Ag x.toNat).c)) (λs _=>by simp) (λy r k s p hx I=>by
   have d:k<o.length:=by simpa using p
   unfold Aqn Bi9;have K:y=((el o k:Nat):Int):=by rw[<-hx,n k d]
   have hi:=J7 k d
   rw[hx,Aj ⟨by omega,by omega⟩,Aj (by omega),Aj ⟨by omega,by simp only[Gz];omega⟩,Wf (λm D=>by
    have t:m<k:=by rw[Nh,Dh]at D;omega
    unfold Bjc Bja;rw[Nh,Bw1 t,n k d,n m (by omega)];have B:=J7 m (by omega);rw[Aj ⟨by omega,by omega⟩,Aj ⟨by omega,by omega⟩];have H:=x.real v (Cj (l:=o) (i:=m) (by omega)) (Cj d) (z m k t d);unfold A14;simp only[Gb];by_cases c:(el w.Ag (el o k)).Cl= -1
    ·rw[decide_eq_true c];rfl
    ·rw[decide_eq_false c,Fs,Cg,decide_eq_false (λq=>H ⟨c,q⟩)];rfl),Ad]
   refine .inl ⟨_,rfl,by simp only[Bt,B5,C0];omega,?_⟩;simp) [] (by simp)
  rw[h];simp[V2,Function.comp_def]
 rw[u,Ad];simp only[Jg]
 rw[Byf i _ (by rw[Gz];omega),x.run,Ad,Wf (λk p=>by
  have d:k<o.length:=by simpa using p
  have hi:=J7 k d;unfold Bjd Bjb;simp only
  rw[n k d,Aj ⟨by omega,by rw[Gz];omega⟩,Aj ⟨by omega,by omega⟩,Awe,Ad,Gb,decide_eq_true (by
   rw[F9 (by simpa using d),Atb,<-F9 d])]
  rfl),Ad]
 simp only[Jg];rw[Be0];rfl
section
def Tot {α:Type} (P:α->Prop) (x:Option (α×B3)):Prop:=∃y d,x=Aa (y,d)/\P y/\cur d
section
variable {α β:Type} {P:α->Prop} {Q:β->Prop}
theorem Eh{y d} (h:P y) (a:cur d):Tot P (Aa (y,d)):=⟨y,d,rfl,h,a⟩
theorem Dd{x f} (hx:Tot Q x) (e:∀r:β×B3,Q r.1->cur r.2->Tot P (f r)):Tot P (Ac x f):=by obtain⟨y,d,a,b,c⟩:=hx;rw[a];exact e (y,d) b c
theorem Iq{n x} (h: -9223372036854775808<=n) (k:n<=9223372036854775807) (hx:Tot P x):Tot P (xg (Aq n) x):=by rw[Bh h k];exact hx
theorem O0{p} [Decidable p]{x} (h:p) (hx:Tot P x):Tot P (xg p x):=by rw[Aj h];exact hx
theorem Fo{p} [Decidable p]{x y} (h:p->Tot P x) (k:¬p->Tot P y):Tot P (bif decide p then x else y):=by
 by_cases a:p
 ·rw[Av a];exact h a
 ·rw[Ap a];exact k a
theorem Aam{b x y} (h:Tot P x) (k:Tot P y):Tot P (bif b then x else y):=by cases b;exact k;exact h
theorem Ah6{p} [Decidable p]{x y} (h:p->Tot P x) (k:¬p->Tot P y):Tot P (bif !decide p then y else x):=by rw[C2];exact Fo h k
end
theorem Fw{c} (h:cur c) n:Tot (λm=>0<=m/\(m=0\/m<n)) (Ch c n):=Uy c n h
theorem Aak{c} (h:cur c) n:Tot (λ_=>True) (K0 c n):=by obtain⟨m,d,a,b⟩:=Az5 c n h;exact⟨m,d,a,trivial,b⟩
theorem Ah0{c} (h:cur c):Tot (λs=>s.size<=8) (Rp c):=by obtain⟨m,d,a,f,b,e⟩:=B6l c h;exact⟨m,d,a,b,e⟩
theorem Apv{c} (h:cur c){n} (f:0<=n) (i:n<=200):Tot (λl=>Ed l=true) (Mo c n):=by obtain⟨m,d,a,g,b,e⟩:=Bge c n h f (by omega);exact⟨m,d,a,Bs6 (by omega) b,e⟩
theorem Ca8{c} (h:cur c){l} (e:0<l.length):Tot (λ_=>True) (Aem c l):=by obtain⟨m,d,a,f,b⟩:=Bf9 c l h e;exact⟨m,d,a,trivial,b⟩
theorem Apu{c} (h:cur c){lo hi} (e: -1099511627776<=lo/\lo<=1099511627776) (d: -1099511627776<=hi/\hi<=1099511627776):Tot (λ_=>True) (Rn c lo hi):=by unfold Rn;refine Dd (Fw h 12) λr _ a=>?_;refine Fo (λ_=>Eh trivial a) λ_=>?_;refine Fo (λ_=>Eh trivial a) λ_=>?_;refine Fo (λ_=>Iq (by omega) (by omega) (Eh trivial a)) λ_=>?_;refine Fo (λ_=>Iq (by omega) (by omega) (Eh trivial a)) λ_=>?_;refine Fo (λ_=>Dd (Ca8 a (by simp)) λr _ a=>Eh trivial a) λ_=>?_;refine Iq (by omega) (by omega) ?_;refine Fo (λ_=>Dd (Fw a 60000) λq b a=>Iq (by omega) (by omega) (Eh trivial a)) λ_=>?_;exact Iq (by omega) (by omega) (Iq (by omega) (by omega) (Dd (Fw a _) λq b a=>Iq (by omega) (by omega) (Eh trivial a)))
theorem Bhx{c} (h:cur c){N} (g:0<=N) (i:N<=200):Tot (λo=>(∀p∈o,B7 p=true)/\o.length<=42) (Tk c N):=by obtain⟨o,d,a,b,e,_,_,f⟩:=B59 c N h g i;exact⟨o,d,a,⟨b,e⟩,f⟩
theorem Ca3{c} (h:cur c):Tot (λ_=>True) (X8 c):=by
 unfold X8;refine Dd (Fw h 12) λr e a=>?_;refine Dd (Bhx a (by omega) (by omega)) λo ho a=>?_;refine Fo (λ_=>Eh trivial a) λf=>?_;refine Dd (Fw a _) λk d a=>?_;have b:0<=k.1/\k.1<(o.1.length:Int):=⟨d.1,by omega⟩;refine Dd (Fw a 12) λr _ a=>?_;refine Fo (λ_=>Dd (Apu a (by omega) (by omega)) λ_ _ a=>O0 b (Eh trivial a)) λ_=>?_;refine Fo (λ_=>Dd (Apu a (by omega) (by omega)) λ_ _ a=>O0 b (Eh trivial a)) λ_=>?_;refine Fo (λ_=>O0 b (Dd (Apu a (by omega) (by omega)) λ_ _ a=>?_)) λ_=>?_
 ·have:=(Nz (ho.1 _ (Cj (l:=o.1) (i:=k.1.toNat) (by omega)))).1;exact O0 (by simp only[B5,C0];omega) (O0 b (Eh trivial a))
 ·refine Fo (λ_=>Dd (Fw a 2) λ_ _ a=>?_) λ_=>Eh trivial a;exact O0 (by simp only[B5,C0];omega) (Eh trivial a)
def DP (d:Ao):Prop:=(C5 d=true/\Ht d)\/d=Iv
theorem Bsx:C5 Iv=false:=by
 cases h:C5 Iv with
 |false=>rfl
 |true=>have:=(Bdh (W1 h)).1;simp[Iv]at this
theorem DP.seq{d} (h:DP d) c:0<=(I0 d.seen c).1.seq/\(I0 d.seen c).1.seq<=1000000000:=by
 rcases h with h|rfl
 ·have:=A0k h.1 c;omega
 ·simp[I0,Iv]
theorem DP.head{d} (h:DP d):Gy d=Aa (Ec d)/\0<=Ec d/\Ec d<=999999008/\0<=d.from_/\d.from_<=999999000/\d.list.length<=8:=by
 rcases h with h|rfl
 ·have:=Wl h.1;have:=Jc h.1;exact⟨Z5 h.1,by omega,by omega,by omega,by omega,by omega⟩
 ·refine⟨?_,by simp[Ec,Iv],by simp[Ec,Iv],by simp[Iv],by simp[Iv],by simp[Iv]⟩;unfold Gy Ec;rw[Bh (by simp[Iv]) (by simp[Iv])]
theorem A1c{c} (h:cur c){d} (e:DP d):Tot (λ_=>True) (Aep c d):=by
 obtain⟨b,f,g,i,j,k⟩:=e.head;unfold Aep;rw[b];refine Dd (Aak h 6) λr _ a=>Aam ?_ ?_
 ·rw[Ad];exact Dd (Apu a (by omega) (by omega)) λ_ _ a=>Eh trivial a
 ·rw[Ad];exact Iq (by omega) (by omega) (Dd (Fw a _) λq l a=>Iq (by omega) (by omega) (Eh trivial a))
theorem Bsw{d} (a:DP d) rev:∃t b,Vp d rev=Aa (t,b)/\t.length<=200:=by
 rcases a with h|rfl
 ·rw[Ao2 h.2 h.1];split
  ·exact⟨_,_,rfl,Ln (Ba3 h.1 _)⟩
  ·exact⟨_,_,rfl,by simp⟩
 ·refine⟨[],false,?_,by simp⟩;unfold Vp;rw[Q7 Iv ⟨by simp[Iv,Sx],trivial,⟨by simp[Iv],λ_ _=>trivial⟩,⟨by simp[Iv],λ_ h=>by cases h⟩,⟨by simp[Iv],λ_ h=>by cases h⟩⟩,Bsx];rfl
theorem A1f{c} (h:cur c){d} (m:DP d) base:Tot (λ_=>True) (Ya c d base):=by
 obtain⟨t,b,l,p⟩:=Bsw m base;unfold Ya;rw[l,Ad];obtain⟨y,k,n,_,o⟩:=Aak h 10
 have g:∃(q:Bool) (e:B3),cur e/\(bif !b then(Aa (true,c.b,c.i,c.h))else(Ac (K0 c 10) λa=>Aa (a.1,a.2.b,a.2.i,a.2.h)))=Aa (q,e.b,e.i,e.h):=by
  cases b with
  |false=>exact⟨true,c,h,rfl⟩
  |true=>exact⟨y,k,o,by rw[A6,A3,n];rfl⟩
 obtain⟨q,e,j,e2⟩:=g;simp only;rw[e2,Ad];refine Aam (Dd (Ca3 j) λ_ _ f=>Eh trivial f) (Dd (Bhx j (by omega) (by omega)) λ_ _ f=>Eh trivial f)
theorem Ba8{h} (i:Cd True h){k} (a:k<h.Am.length):DP (el h.Am k):=.inl ⟨i.Ah (Cj a),i.sd (Cj a)⟩
theorem Ca4{c} (h:cur c){x} (i:Cd True x):Tot (Cd True) (Yc c x):=by
 unfold Yc;refine Dd (Fw h 10) λz l a=>?_;refine Fo (λ_=>?_) λ_=>?_
 ·refine Dd (Ah0 a) λn b a=>Dd (Apv a (by omega) (by omega)) λt g a=>?_;rw[Aoz i _ (by omega) _ (by have:=Ln g;omega),Ad];exact Ah6 (λk=>Eh (An4 i k) a) (λ_=>Eh i a)
 refine Fo (λ_=>?_) λ_=>?_
 ·refine Dd (Ah0 a) λn b a=>Dd (Fw a 3) λm e a=>Iq (by omega) (by omega) ?_;rw[Bf2 i,Ad];exact Ah6 (λk=>Eh (Bhi i k) a) (λ_=>Eh i a)
 refine Fo (λ_=>?_) λ_=>?_
 ·refine Dd (Fw a 5) λn b a=>Dd (Fw a 2) λm e a=>Iq (by omega) (by omega) ?_;rw[Bfy i,Ad];exact Ah6 (λk=>Eh (Bei i k) a) (λ_=>Eh i a)
 refine Fo (λ_=>?_) λ_=>?_
 ·refine Dd (Fw a 5) λn b a=>?_;rw[Bfz i,Ad];exact Ah6 (λk=>Eh (Bfc i k) a) (λ_=>Eh i a)
 refine Fo (λ_=>Eh i a) λb=>?_;refine Dd (Fw a _) λk w a=>O0 ⟨by omega,by omega⟩ ?_;have d:=Ba8 i (k:=k.1.toNat) (by omega);obtain⟨f,p,q,r,s,u⟩:=d.head;refine Dd (Fw a 3) λm e a=>Iq (by omega) (by omega) ?_;have y:=d.seq (1+m.1);rw[A0h,Ad,f,Ad];refine Iq (by omega) (by omega) (Dd (Fw a _) λj v a=>Iq (by omega) (by omega) (Iq (by omega) (by omega) (Dd (A1f a d _) λo _ a=>?_)));rw[Bf1 i,Ad];exact Ah6 (λk=>Eh (Bhg i k) a) (λ_=>Eh i a)
theorem Bhz{f}
  (r:∀s,f s=bif decide ((0:Int)<s.1)then(Ac (Yc (⟨s.2.1,s.2.2.1,s.2.2.2.1⟩:B3) (⟨s.2.2.2.2.1,s.2.2.2.2.2.1,s.2.2.2.2.2.2.1,s.2.2.2.2.2.2.2⟩:Aw)) λa=>xg (Aq (s.1-1))<|some (Lr.go (s.1-1,a.2.b,a.2.i,a.2.h,a.1.shut,a.1.Am,a.1.Ax,a.1.last)))else(Aa (Lr.out (s.2.1,s.2.2.1,s.2.2.2.1,s.2.2.2.2.1,s.2.2.2.2.2.1,s.2.2.2.2.2.2.1,s.2.2.2.2.2.2.2)))){n} (t:0<=n/\n<=1000){c} (h:cur c){x} (i:Cd True x):
  Tot (Cd True) (Ac (Cp f (n,c.b,c.i,c.h,x.shut,x.Am,x.Ax,x.last)) λe=>Aa ((⟨e.2.2.2.1,e.2.2.2.2.1,e.2.2.2.2.2.1,e.2.2.2.2.2.2⟩:Aw),(⟨e.1,e.2.1,e.2.2.1⟩:B3))):=by
 obtain⟨y,o,p,q⟩:=Kt (f:=f) (λs=>(s.1<=1000/\cur ⟨s.2.1,s.2.2.1,s.2.2.2.1⟩)/\Cd True ⟨s.2.2.2.2.1,s.2.2.2.2.2.1,s.2.2.2.2.2.2.1,s.2.2.2.2.2.2.2⟩) (λs=>s.1.toNat) (λy=>Cd True ⟨y.2.2.2.1,y.2.2.2.2.1,y.2.2.2.2.2.1,y.2.2.2.2.2.2⟩/\cur ⟨y.1,y.2.1,y.2.2.1⟩) (λs j=>by
  rw[r];by_cases g:(0:Int)<s.1
  ·obtain⟨y,d,k,l,m⟩:=Ca4 j.1.2 j.2;rw[Av g,k,Ad,Bh (by omega) (by omega)];exact .inl ⟨_,rfl,⟨⟨by simp only;omega,m⟩,l⟩,by simp only;omega⟩
  ·rw[Ap g];exact .inr ⟨_,rfl,j.2,j.1.2⟩) (n,c.b,c.i,c.h,x.shut,x.Am,x.Ax,x.last) ⟨⟨t.2,h⟩,i⟩
 rw[o];exact⟨_,_,rfl,p,q⟩
theorem Ca5{c} (h:cur c){most} (o:0<=most/\most<=900):Tot (Cd True) (Aes c most):=by
 unfold Aes;refine Dd (Apv h (by omega) (by omega)) λt e a=>?_;have j:Gp (⟨#[97]⟩:Cea)=true:=Axx (by decide) (by decide) (by decide);have l:Gp (⟨#[110,111,116,101,115]⟩:Cea)=true:=Axx (by decide) (by decide) (by decide);have n:(Jn Ib (⟨#[97]⟩:Cea) t.1).2=0:=by unfold Jn;rw[if_pos ⟨j,e⟩];rfl
 have g:=An4 (P:=True) Ba7 n;have i:=Aoz (P:=True) Ba7 (⟨#[97]⟩:Cea) (by decide) t.1 (by have:=Ln e;omega)
 have o2:∀u,Ed u=true->(Jn (Jn Ib (⟨#[97]⟩:Cea) t.1).1 (⟨#[110,111,116,101,115]⟩:Cea) u).2=0:=λu hu=>by
  have:(Jn Ib (⟨#[97]⟩:Cea) t.1).1=⟨false,[⟨⟨#[97]⟩,0,t.1,[],[]⟩],[],0⟩:=by unfold Jn;rw[if_pos ⟨j,e⟩];rfl
  rw[this];unfold Jn;rw[if_pos ⟨l,hu⟩];rfl
 unfold Ib at i;rw[i,Ad];refine Dd (Aak a 2) λb _ a=>Aam ?_ ?_
 ·refine Dd (Apv a (by omega) (by omega)) λu hu a=>?_;have k:=Ln hu;rw[show Jn (⟨false,[],[],0⟩:Aw) (⟨#[97]⟩:Cea) t.1=Jn Ib (⟨#[97]⟩:Cea) t.1 from rfl,Aoz g (⟨#[110,111,116,101,115]⟩:Cea) (by decide) u.1 (by omega),Ad];refine Iq (by omega) (by omega) (Dd (Fw a _) λm d a=>?_);exact Bhz (f:=A45) (λs=>rfl) ⟨by omega,by omega⟩ a (An4 g (o2 u.1 hu))
 ·refine Iq (by omega) (by omega) (Dd (Fw a _) λm d a=>?_);exact Bhz (f:=A46) (λs=>rfl) ⟨by omega,by omega⟩ a g
theorem Apw name{d} (e:DP d){c} (h:cur c):Tot (λ_=>True) (Ab1 name d c):=by
 unfold Ab1;refine Dd (Fw h 3) λm f a=>Iq (by omega) (by omega) ?_;have i:=e.seq (1+m.1);rw[A0h,Ad];refine Iq (by omega) (by omega) (Dd (Aak a 8) λb _ a=>Aam ?_ ?_)
 ·exact Dd (Fw a 2) λq g a=>Iq (by omega) (by omega) (Dd (A1c a e) λ_ _ a=>Dd (A1f a e _) λ_ _ a=>Eh trivial a)
 ·exact Dd (A1c a e) λ_ _ a=>Dd (A1f a e _) λ_ _ a=>Eh trivial a
theorem Bhy name{d} (j:DP d){c} (h:cur c):Tot (λ_=>True) (Alh name d c):=by unfold Alh;refine Dd (Fw h 14) λr _ a=>?_;have i:∀ {c:B3},cur c->Tot (λ_:Bb=>True) (Ac (Ch c 3) λe=>xg (Aq (1+e.1))<|Ac (Ch e.2 3) λf=>xg (Aq (1+f.1))<|some ((⟨6,Cb,1+e.1,0,1+f.1,[],[]⟩:Bb),f.2)):=λa=>Dd (Fw a 3) λm k a=>Iq (by omega) (by omega) (Dd (Fw a 3) λm k a=>Iq (by omega) (by omega) (Eh trivial a));have b:∀ {c:B3},cur c->Tot (λ_:Bb=>True) (Ac (Ch c 3) λg=>xg (Aq (1+g.1))<|some ((⟨7,Cb,1+g.1,0,0,[],[]⟩:Bb),g.2)):=λa=>Dd (Fw a 3) λm k a=>Iq (by omega) (by omega) (Eh trivial a);refine Fo (λ_=>Dd (Ah0 a) λ_ _ a=>Dd (Apv a (by omega) (by omega)) λ_ _ a=>Eh trivial a) λ_=>?_;refine Fo (λ_=>Dd (A1c a j) λ_ _ a=>Eh trivial a) λ_=>?_;refine Fo (λ_=>Eh trivial a) λ_=>?_;refine Fo (λ_=>Dd (Fw a 3) λm k a=>Iq (by omega) (by omega) (Eh trivial a)) λ_=>?_;refine Fo (λ_=>Fo (λ_=>i a) λ_=>Fo (λ_=>b a) λ_=>Fo (λ_=>Dd (Aak a 4) λ_ _ a=>Aam (Eh trivial a) (Apw name j a)) λ_=>Apw name j a) λ_=>?_;exact Fo (λ_=>i a) λ_=>Fo (λ_=>b a) λ_=>Fo (λ_=>Dd (Aak a 4) λ_ _ a=>Aam (Eh trivial a) (Apw name j a)) λ_=>Apw name j a
theorem A1e n{c} (h:cur c){x} (i:Cd True x):Tot (λ_=>True) (Afq n x c):=by unfold Afq;rw[Su,Ad];exact Fo (λg=>O0 ⟨g,Zg _ _⟩ (Bhy n (Ba8 i (Ws g).1) h)) λ_=>Bhy n (d:=Iv) (.inr rfl) h
theorem A1d{c} (h:cur c){x} (i:Cd True x):Tot (λ_=>True) (Tn c x):=by unfold Tn;refine Dd (Ah0 h) λn _ a=>Fo (λd=>?_) λ_=>A1e n.1 a i;refine Dd (Aak a 6) λq _ a=>Aam (Dd (Fw a _) λk b a=>O0 ⟨by omega,by omega⟩ (A1e _ a i)) (A1e n.1 a i)
end
theorem Bh0{h0 w} (g:WG h0 w){d} (a:cur d):Tot (WG h0) (bif decide ((w.Ag.length:Int)=0)then(Aa (w,d))else(Ac (Ch d (w.Ag.length:Int)) λr=>Ac (L1 w r.1) λq=>bif q.2 then(Aa (q.1,r.2))else(Aa (w,r.2)))):=by
 refine Fo (λ_=>Eh g a) λ_=>Dd (Fw a _) λr _ b=>?_;rw[Bga g.ws,Ad];cases h:(Lq w r.1).2 with
 |true=>exact Eh (g.pick h) b
 |false=>exact Eh g b
theorem Bh1{h0 w} (g:WG h0 w){d} (n:cur d) (b:Int):Tot (WG h0) (Ac (bif decide (b<5)then(Aa (decide ((0:Int)<(w.An.length:Int))))else(Aa false)) λl=>bif l then(Ac (Ch d (w.An.length:Int)) λa=>xg (0<=a.1/\a.1<(w.An.length:Int))<|Ac (Tg w ((el w.An a.1.toNat).Ah)) λi=>bif i.2 then(Aa (i.1,a.2))else(bif decide ((w.Ag.length:Int)=0)then(Aa (w,a.2))else(Ac (Ch a.2 (w.Ag.length:Int)) λe=>Ac (L1 w e.1) λj=>bif j.2 then(Aa (j.1,e.2))else(Aa (w,e.2)))))else(bif decide ((w.Ag.length:Int)=0)then(Aa (w,d))else(Ac (Ch d (w.Ag.length:Int)) λf=>Ac (L1 w f.1) λk=>bif k.2 then(Aa (k.1,f.2))else(Aa (w,f.2))))):=by
 have m:∀c:Bool,(c=true->(0:Int)<(w.An.length:Int))->Tot (WG h0) (bif c then(Ac (Ch d (w.An.length:Int)) λa=>xg (0<=a.1/\a.1<(w.An.length:Int))<|Ac (Tg w ((el w.An a.1.toNat).Ah)) λi=>bif i.2 then(Aa (i.1,a.2))else(bif decide ((w.Ag.length:Int)=0)then(Aa (w,a.2))else(Ac (Ch a.2 (w.Ag.length:Int)) λe=>Ac (L1 w e.1) λj=>bif j.2 then(Aa (j.1,e.2))else(Aa (w,e.2)))))else(bif decide ((w.Ag.length:Int)=0)then(Aa (w,d))else(Ac (Ch d (w.Ag.length:Int)) λf=>Ac (L1 w f.1) λk=>bif k.2 then(Aa (k.1,f.2))else(Aa (w,f.2))))):=λc p=>by
  cases c with
  |false=>exact Bh0 g n
  |true=>
   have:=p rfl;refine Dd (Fw n _) λr q o=>O0 ⟨by omega,by omega⟩ ?_;rw[Bgc g.ws,Ad];cases h:(Lt w (el w.An r.1.toNat).Ah).2 with
   |true=>exact Eh (g.serve h) o
   |false=>exact Bh0 g o
 by_cases c:b<5
 ·rw[Av c,Ad];exact m _ λh=>of_decide_eq_true h
 ·rw[Ap c,Ad];exact m _ λh=>by cases h
theorem Ca2{h0 w} (g:WG h0 w){c} (h:cur c):Tot (WG h0) (Akc c w):=by
 unfold Akc;refine Dd (Fw h _) λb _ r=>?_
 have o:∀k:Bool,Tot (WG h0) (bif k then(Ac (Tn b.2 w.h) λn=>Ac (Vk w n.1) λp=>bif p.2 then(Aa (p.1,n.2))else(Ac (bif decide (b.1<5)then(Aa (decide ((0:Int)<(w.An.length:Int))))else(Aa false)) λm=>bif m then(Ac (Ch n.2 (w.An.length:Int)) λa=>xg (0<=a.1/\a.1<(w.An.length:Int))<|Ac (Tg w ((el w.An a.1.toNat).Ah)) λf=>bif f.2 then(Aa (f.1,a.2))else(bif decide ((w.Ag.length:Int)=0)then(Aa (w,a.2))else(Ac (Ch a.2 (w.Ag.length:Int)) λd=>Ac (L1 w d.1) λi=>bif i.2 then(Aa (i.1,d.2))else(Aa (w,d.2)))))else(bif decide ((w.Ag.length:Int)=0)then(Aa (w,n.2))else(Ac (Ch n.2 (w.Ag.length:Int)) λe=>Ac (L1 w e.1) λj=>bif j.2 then(Aa (j.1,e.2))else(Aa (w,e.2))))))else(Ac (bif decide (b.1<5)then(Aa (decide ((0:Int)<(w.An.length:Int))))else(Aa false)) λm=>bif m then(Ac (Ch b.2 (w.An.length:Int)) λa=>xg (0<=a.1/\a.1<(w.An.length:Int))<|Ac (Tg w ((el w.An a.1.toNat).Ah)) λf=>bif f.2 then(Aa (f.1,a.2))else(bif decide ((w.Ag.length:Int)=0)then(Aa (w,a.2))else(Ac (Ch a.2 (w.Ag.length:Int)) λd=>Ac (L1 w d.1) λi=>bif i.2 then(Aa (i.1,d.2))else(Aa (w,d.2)))))else(bif decide ((w.Ag.length:Int)=0)then(Aa (w,b.2))else(Ac (Ch b.2 (w.Ag.length:Int)) λe=>Ac (L1 w e.1) λj=>bif j.2 then(Aa (j.1,e.2))else(Aa (w,e.2)))))):=λk=>by
  cases k with
  |false=>exact Bh1 g r _
  |true=>
   refine Dd (A1d r g.l.v.h) λq _ s=>?_;rw[Bft g.ws,Ad];cases h:(Jx w q.1).2 with
   |true=>exact Eh (g.come h) s
   |false=>exact Bh1 g s _
 by_cases k:(w.Ag.length:Int)=0
 ·rw[Av k,Ad];exact o true
 ·rw[Ap k,Ad];exact o _
theorem B63{h} (i:Cd True h){n} (d:1<=n/\n<=4):Asa h n=Aa (⟨h,Ey n.toNat (-1),[],[],0⟩,true):=by
 unfold Asa;rw[i.s,Ad,A6,A3,Hs,Ad,decide_eq_true d,Ad,A6,A3,i.sc,Ad]
 obtain⟨y,a,b⟩:=Kt (f:=A4t n) (λs=>∃k:Nat,(k:Int)<=n/\s=(h.shut,h.Am,h.Ax,h.last,Ey k (-1),0)) (λs=>(n-(s.2.2.2.2.1.length:Int)).toNat) (λy=>y=(h.shut,h.Am,h.Ax,h.last,Ey n.toNat (-1),0)) (λs ⟨k,g,e⟩=>by
  subst e;unfold A4t Bk4;simp only[Bq9];by_cases c:(k:Int)<n
  ·rw[Av c,Aj (by omega)];refine .inl ⟨_,rfl,⟨k+1,by omega,?_⟩,by simp only[Bt,Bq9,B5,C0];omega⟩;rw[Bq1]
  ·rw[Ap c];have:n.toNat=k:=by omega
   rw[this];exact .inr ⟨_,rfl,rfl⟩) (h.shut,h.Am,h.Ax,h.last,[],0) ⟨0,by omega,rfl⟩
 rw[a,b];rfl
abbrev DSt:=Int×List UInt8×Int×Int×Bool×List Ao×List A0×Int×List Int×List Ba×List A4×Int
def dW (s:DSt):Au:=⟨⟨s.2.2.2.2.1,s.2.2.2.2.2.1,s.2.2.2.2.2.2.1,s.2.2.2.2.2.2.2.1⟩,s.2.2.2.2.2.2.2.2.1,s.2.2.2.2.2.2.2.2.2.1,s.2.2.2.2.2.2.2.2.2.2.1,s.2.2.2.2.2.2.2.2.2.2.2⟩
def dC (s:DSt):B3:=⟨s.2.1,s.2.2.1,s.2.2.2.1⟩
theorem B6j a (M:a.length<=1048580):∃h w,Ajr a=Aa (h,w)/\Cd True h/\WG h w:=by
 obtain⟨c,K,L,_,_⟩:=Bf5 a M;obtain⟨h,B,l,i,t⟩:=Ca5 L (most:=6) (by omega);obtain⟨n,O,x,N,A⟩:=Fw t 4;obtain⟨m,u,C,P,D⟩:=Fw A 6;unfold Ajr;rw[K,Ad,l,Ad,x,Ad,Bh (by omega) (by omega),B63 i (by omega),Ad,C,Ad];have g0:WG h ⟨h,Ey (1+n).toNat (-1),[],[],0⟩:=WG.new i (by omega)
 obtain⟨y,F,e2,G⟩:=Kt (f:=A4b (h,B)) (λs:DSt=>(s.1<=6/\cur (dC s))/\WG h (dW s)) (λs=>s.1.toNat) (λy:DSt=>WG h (dW y)/\cur (dC y)) (λs g=>by
  unfold A4b Bkp;by_cases q:(0:Int)<s.1
  ·obtain⟨k,d,l,_,p⟩:=A1d g.1.2 i;have j:Tn (⟨s.2.1,s.2.2.1,s.2.2.2.1⟩:B3) h=Aa (k,d):=l;have e:=Bft g.2.ws k;unfold dW at e;rw[Av q,j,Ad,e,Ad];cases o:(Jx (dW s) k).2 with
   |true=>unfold dW at o;rw[o,Cg,Bh (by omega) (by omega)];exact .inl ⟨_,rfl,⟨⟨by simp only;omega,p⟩,g.2.come o⟩,by simp only;omega⟩
   |false=>unfold dW at o;rw[o,A3,Bh (by omega) (by omega)];exact .inl ⟨_,rfl,⟨⟨by simp only;omega,p⟩,g.2⟩,by simp only;omega⟩
  ·rw[Ap q];exact .inr ⟨_,rfl,g.2,g.1.2⟩) (m,u.b,u.i,u.h,h.shut,h.Am,h.Ax,h.last,Ey (1+n).toNat (-1),[],[],0) ⟨⟨by simp only;omega,D⟩,g0⟩
 rw[F,Ad];obtain⟨k,r,H,Q,I⟩:=Fw G 30;have v:Ch (⟨y.2.1,y.2.2.1,y.2.2.2.1⟩:B3) 30=Aa (k,r):=H;rw[v,Ad]
 obtain⟨z,g1,g2⟩:=Kt (f:=A4c) (λs:DSt=>(s.1<=30/\cur (dC s))/\WG h (dW s)) (λs=>s.1.toNat) (λy:DSt=>WG h (dW y)) (λs g=>by
  unfold A4c Bkq;by_cases q:(0:Int)<s.1
  ·obtain⟨k,d,l,t,p⟩:=Ca2 g.2 g.1.2;have j:Akc (⟨s.2.1,s.2.2.1,s.2.2.2.1⟩:B3) (⟨⟨s.2.2.2.2.1,s.2.2.2.2.2.1,s.2.2.2.2.2.2.1,s.2.2.2.2.2.2.2.1⟩,s.2.2.2.2.2.2.2.2.1,s.2.2.2.2.2.2.2.2.2.1,s.2.2.2.2.2.2.2.2.2.2.1,s.2.2.2.2.2.2.2.2.2.2.2⟩:Au)=Aa (k,d):=l;rw[Av q,j,Ad,Bh (by omega) (by omega)];exact .inl ⟨_,rfl,⟨⟨by simp only;omega,p⟩,t⟩,by simp only;omega⟩
  ·rw[Ap q];exact .inr ⟨_,rfl,g.2⟩) (k,r.b,r.i,r.h,y.2.2.2.2.1,y.2.2.2.2.2.1,y.2.2.2.2.2.2.1,y.2.2.2.2.2.2.2.1,y.2.2.2.2.2.2.2.2.1,y.2.2.2.2.2.2.2.2.2.1,y.2.2.2.2.2.2.2.2.2.2.1,y.2.2.2.2.2.2.2.2.2.2.2) ⟨⟨by simp only;omega,I⟩,e2⟩
 rw[g1];exact⟨h,_,rfl,i,g2⟩
theorem Ca9{c} (h:cur c){l} (d:0<l.length){P} (a:∀x∈l,P x):Tot P (Vr c l):=by unfold Vr;exact Dd (Fw h _) λr e b=>O0 ⟨by omega,by omega⟩ (Eh (a _ (Cj (by omega))) b)
theorem Ca7{c} (h:cur c){w} (i:Cd True w.h):Tot (λs=>s.size<=1048576) (Akg c w):=by
 unfold Akg;refine Dd (Fw h _) λr _ k=>?_;have n:Tot (λs:Cea=>s.size<=1048576) (Ac (Tn r.2 w.h) λd=>Ac (Tc d.1) λm=>Aa (m,d.2)):=Dd (A1d k i) λq _ a=>by rw[Bfq,Ad];exact Eh (by rw[Dr];have:=Br5 q.1;omega) a
 have o:Tot (λs:Cea=>s.size<=1048576) (Ac (Rp r.2) λb=>xg ((⟨#[115,101,114,118,101,32]⟩:Cea).size+b.1.size<=9223372036854775807)<|some ((⟨#[115,101,114,118,101,32]⟩:Cea)++b.1,b.2)):=Dd (Ah0 k) λq l a=>by have e:(⟨#[115,101,114,118,101,32]⟩:Cea).size=6:=rfl;exact O0 (by rw[e];omega) (Eh (by rw[Hl,e];omega) a)
 have p:Tot (λs:Cea=>s.size<=1048576) (Ac (Vr r.2 [(⟨#[]⟩:Cea),(⟨#[112,105,99,107]⟩:Cea),(⟨#[112,105,99,107,32,120]⟩:Cea),(⟨#[112,105,99,107,32,48,49]⟩:Cea),(⟨#[115,101,114,118,101]⟩:Cea),(⟨#[119,104,97,116]⟩:Cea),(⟨#[112,105,99,107,32,49,32,50]⟩:Cea),(⟨#[112,105,99,107,32,57,57]⟩:Cea)]) λf=>Aa (f.1,f.2)):=Dd (Ca9 k (by decide) (P:=λs:Cea=>s.size<=1048576) λx hx=>by
  simp only[Bq,Ae3,or_false]at hx;rcases hx with rfl|rfl|rfl|rfl|rfl|rfl|rfl|rfl<;>decide) λq l a=>Eh l a
 have t:Tot (λs:Cea=>s.size<=1048576) (Ac (Ch r.2 5) λg=>Ac (Mn g.1) λj=>xg ((⟨#[112,105,99,107,32]⟩:Cea).size+j.size<=9223372036854775807)<|some ((⟨#[112,105,99,107,32]⟩:Cea)++j,g.2)):=Dd (Fw k _) λq l a=>by have e:(⟨#[112,105,99,107,32]⟩:Cea).size=5:=rfl;have:=Me q.1;rw[Ahk,Ad];exact O0 (by rw[e,Dr];omega) (Eh (by rw[Hl,e,Dr];omega) a)
 exact Fo (λ_=>Fo (λ_=>n) λ_=>Fo (λ_=>o) λ_=>Fo (λ_=>p) λ_=>t) λ_=>Fo (λ_=>n) λ_=>Fo (λ_=>o) λ_=>Fo (λ_=>p) λ_=>t
abbrev LSt:=List Cea×DSt
theorem B6i a (F:a.length<=1048580){h0 w} (g:WG h0 w):∃l,Ajq a w=Aa l/\l.length<=1000/\∀x∈l,x.size<=1048576:=by
 obtain⟨c,B,C,I,K⟩:=Bf5 a F;obtain⟨n,d,u,H,z⟩:=Fw (Bst C (c.h+29)) (14+1);unfold Ajq A5m;rw[B,Ad,Bh (by omega) (by omega),Bh (by omega) (by omega),u,Ad]
 obtain⟨y,A,e2⟩:=Kt (f:=A5n) (λs:LSt=>(((s.1.length:Int)+s.2.1<=20/\cur (dC s.2))/\WG h0 (dW s.2))/\((∀x∈s.1,x.size<=1048576)/\0<=s.2.1)) (λs=>s.2.1.toNat) (λy:LSt=>y.1.length<=1000/\∀x∈y.1,x.size<=1048576) (λs D=>by
  obtain⟨⟨⟨L,G⟩,m⟩,p,M⟩:=D;unfold A5n Blq;by_cases q:(0:Int)<s.2.1
  ·obtain⟨k,d,r,o,t⟩:=Ca7 G m.l.v.h;have j:Akg (⟨s.2.2.1,s.2.2.2.1,s.2.2.2.2.1⟩:B3) (⟨⟨s.2.2.2.2.2.1,s.2.2.2.2.2.2.1,s.2.2.2.2.2.2.2.1,s.2.2.2.2.2.2.2.2.1⟩,s.2.2.2.2.2.2.2.2.2.1,s.2.2.2.2.2.2.2.2.2.2.1,s.2.2.2.2.2.2.2.2.2.2.2.1,s.2.2.2.2.2.2.2.2.2.2.2.2⟩:Au)=Aa (k,d):=r;have e:=B6o m.ws k o;unfold dW at e;rw[Av q,j,Ad,e,Ad,Aj (by omega),Bh (by omega) (by omega)];refine .inl ⟨_,rfl,⟨⟨⟨by simp only[Bt,B5,C0];omega,t⟩,m.play _⟩,λx hx=>?_,by simp only;omega⟩,by simp only;omega⟩;rcases Ei.1 hx with hx|hx
   ·exact p x hx
   ·rw[Eo.1 hx];exact o
  ·rw[Ap q];exact .inr ⟨_,rfl,by simp only;omega,p⟩) ([],n,d.b,d.i,d.h,w.h.shut,w.h.Am,w.h.Ax,w.h.last,w.Az,w.An,w.Ag,w.step) ⟨⟨⟨by simp only[C0];omega,z⟩,g⟩,λx hx=>(by cases hx),by simp only;omega⟩
 rw[A];exact⟨y.1,rfl,e2.1,e2.2⟩
abbrev PSt:=List Cea×Bool×List Ao×List A0×Int×List Int×List Ba×List A4×Int
def J3 (s:PSt):Au×List Cea:=(⟨⟨s.2.1,s.2.2.1,s.2.2.2.1,s.2.2.2.2.1⟩,s.2.2.2.2.2.1,s.2.2.2.2.2.2.1,s.2.2.2.2.2.2.2.1,s.2.2.2.2.2.2.2.2⟩,s.1)
def Uj (p:Au×List Cea):PSt:=(p.2,p.1.h.shut,p.1.h.Am,p.1.h.Ax,p.1.h.last,p.1.Az,p.1.An,p.1.Ag,p.1.step)
def U8 (p:Au×List Cea) (x:Cea):Au×List Cea:=((Kb p.1 x.data.toList).1,p.2++[(Kb p.1 x.data.toList).2])
theorem Bio:∀(ls:List Cea) (s:PSt),J3 (ls.foldl (λs x=>Uj (U8 (J3 s) x)) s)=ls.foldl U8 (J3 s)
 |[],_=>rfl
 |x::ls,s=>by rw[Fx,Fx,Bio ls];rfl
def Xa (w:Au) (ls:List Cea):Au×List Cea:=ls.foldl U8 (w,[])
theorem B3p{F w} (b:WB w){ls} (i:ls.length<=1048576) (g:∀x∈ls,x.size<=1048576)
  (d:∀x k (s:PSt),k<ls.length->el ls k=x->WB (J3 s).1->x.size<=1048576->s.1.length<=k->F k s=Aa (.go (Uj (U8 (J3 s) x)))):
  ∃y,A2 F (λs=>s) ls.length 0 (Uj (w,[]))=Aa y/\J3 y=Xa w ls:=by
 have h:=I9 (F:=F) (e:=λ(s:PSt)=>s) ls (λ_ k s=>WB (J3 s).1/\s.1.length<=k) (λs x=>Uj (U8 (J3 s) x)) (λx r k s c hx a=>by
  have f:x∈ls:=hx▸Cj c;refine⟨d x k s c hx a.1 (g x f) a.2,(Beh a.1 _).1,?_⟩;have:=a.2;show(s.1++[_]).length<=k+1;rw[Bt,G0];omega) (Uj (w,[])) ⟨b,Dk _⟩
 exact⟨_,h,Bio ls _⟩
theorem Byx{w} (b:WB w){ls} (e:ls.length<=1048576) (f:∀x∈ls,x.size<=1048576):Ais w ls=Aa (Xa w ls):=by
 obtain⟨y,a,c⟩:=B3p (F:=A2i ls) b e f (λx k s h hx d g i=>by
  unfold A2i Bjj;rw[hx];show Ac (Xz (J3 s).1 x) _=_;rw[Bbj (w:=(J3 s).1) d.ws x g,Ad,Aj (by omega)];rfl)
 unfold Ais;rw[Aco b.ws.sm (by have:=b.ws.nt;omega),Ad,<-c];exact congrArg (λz=>Ac z λy=>Aa (J3 y)) a
section
open Go.RowKit
def Opens (P:Program) (t:TypeId) {T:Type} (f:T->List Ce) (p:T->Prop) (k:Nat):Prop:=
 ∀ {H:Type} (enc:TypeId×Value->H) (w:World) (base:Nat) (a:Nat->Bool) (c:Bool) (b:Nat) (cs:List Value) (x:DataW H×List MemPlace),
  DataW.trod enc P w base a c b t cs=Aa x->cs.length=k/\∃y:T,p y/\Eg (al w) w (f y) cs
theorem B21{P t} (g:P.underlying t=Aa (.int .u8)):Opens P t (λn=>[cY n]) wfY 1:=λenc w base a c b cs x h=>by
 obtain⟨n,rfl,_,i⟩:=DataW.trod_int g h;have d:IntKind.u8.min=0:=rfl;have e:IntKind.u8.max=255:=rfl;have f:0<=n/\n<=255:=by simpa [Lit.wf,d,e]using i
 refine⟨rfl,Tx n.toNat,trivial,⟨_,_,rfl,?_,rfl⟩⟩;show Value.int .u8 n=_;have:(Tx n.toNat).toNat=n.toNat:=by rw[Atp,Nat.mod_eq_of_lt (by omega)]
 rw[this,A5w f.1]
theorem cells?_get {w:World}{base a}:∀ {n:Nat} {cs:List Value},w.cells? base a n=Aa cs->cs.length=n/\∀j u,cs[j]?=Aa u->w.cell? (a.add j)=Aa u:=by
 intro n cs h;unfold World.cells? at h;split at h
 ·have f:∀(l:List Nat) (cs:List Value),l.mapM (λi=>w.cell? (a.add i))=Aa cs->cs.length=l.length/\∀(j:Nat) u,cs[j]?=Aa u->∃i,l[j]?=Aa i/\w.cell? (a.add i)=Aa u:=by
   intro l;induction l with
   |nil=>intro cs h;simp at h;subst h;simp
   |cons i l k=>
    intro cs h;simp only[A6a,bind,Tu]at h;obtain⟨u,hu,vs,e,d⟩:=h;simp only[pure,D1.injEq]at d;subst d;have b:=k vs e;refine⟨by simp[b.1],λj v c=>?_⟩;cases j with
    |zero=>simp at c;subst c;exact⟨i,rfl,hu⟩
    |succ j=>simpa using b.2 j v (by simpa using c)
  have b:=f _ _ h;refine⟨by simpa using b.1,λj u c=>?_⟩;obtain⟨i,hi,d⟩:=b.2 j u c;have g:=(H3.1 hi).1;have:i=j:=by have:=(H3.1 hi).2;simpa using this.symm
  subst this;exact d
 ·cases h
theorem B20{P t e T f p k} (ht:P.underlying t=Aa (.slice e)) (hk:P.cellsOf e=k) (h0:0<k) (he:Opens P e f p k):Opens P t (λl:List T=>[Ar k f l]) (wfL p) 1:=by
 intro H enc w base L N a2 cs x h;rcases DataW.trod_slice ht h with⟨rfl,_⟩|⟨a,d,cap,U,rest,n,_,rfl,_,hb,hl,hm,a4,W,_,_⟩
 ·exact⟨rfl,[],⟨by simp,λ_ h=>by cases h⟩,⟨_,_,rfl,⟨Ab,0,rfl,Ef _,by simp[maxLen],λA=>absurd rfl A⟩,rfl⟩⟩
 ·refine⟨rfl,?_⟩;have B:∀i,i<d->∃(y:T) (r:List Value),w.cells? base (a.add (i*k)) k=Aa r/\r.length=k/\p y/\Eg (al w) w (f y) r:=by intro i hi;have h1:=W i hi;rw[hk,O9 (by omega)]at h1;obtain⟨r,F,a0⟩:=Tu.1 h1;obtain⟨v,y,hy⟩:=he enc w base L N n r _ a0;exact⟨y,r,F,v,hy⟩
  have q:0<d->a.spot=Ab/\a.block<w.heap.size:=λg=>by
   obtain⟨y,r,F,v,_⟩:=B 0 g;have D:=(cells?_get F).2 0 r[0] (O9 (by omega));simp only[K9]at D;have e0:(a.add 0).add 0=a:=by simp[Addr.add]
   rw[e0]at D;refine⟨World.cell?_spot D,World.block_lt_of_cell? w a D⟩
  have C:∀m,m<=d->∃(l:List T) (s:List Value),l.length=m/\(∀y∈l,p y)/\s.length=m*k/\Eg (al w) w (l.flatMap f) s/\∀j u,s[j]?=Aa u->w.cell? ⟨a.block,a.off+j,Ab⟩=Aa u:=by
   intro m;induction m with
   |zero=>intro _;exact⟨[],[],rfl,(λ_ h=>by cases h),by simp,rfl,λj u M=>by simp at M⟩
   |succ m ih=>
    intro b0;obtain⟨l,s,c,I,G,K,F⟩:=ih (by omega);obtain⟨y,r,V,v,Y,hy⟩:=B m (by omega);refine⟨l++[y],s++r,by simp[c],λz S=>?_,by rw[Bt,G,v,Gk,Yg],?_,λj u M=>?_⟩
    ·rcases Ei.1 S with S|S
     ·exact I z S
     ·rw[Eo.1 S];exact Y
    ·rw[H2];refine Ag8 K ?_;simpa using hy
    ·by_cases X:j<s.length
     ·rw[Nj X]at M;exact F j u M
     ·rw[Tr (by omega)]at M;have D:=(cells?_get V).2 (j-s.length) u M;have R:=(q (by omega)).1;obtain⟨b,o,sp⟩:=a;simp only at R;subst R;rw[Addr.add_lit,Addr.add_lit]at D;rw[show o+j=o+m*k+(j-s.length)by omega];exact D
  obtain⟨l,s,c,I,G,K,F⟩:=C d (Ef _);refine⟨l,⟨by rw[c];simp only[maxLen]at hm;omega,I⟩,⟨_,_,rfl,⟨Aa a,cap,by rw[c],by rw[c];exact hl,hm,λA=>?_⟩,rfl⟩⟩
  have g:0<d:=by
   rcases Nat.eq_zero_or_pos d with h|h
   ·subst h;rw[I4 c]at A;exact absurd rfl A
   ·exact h
  obtain⟨O,Q⟩:=q g;obtain⟨b,o,sp⟩:=a;simp only at O Q;subst O;exact⟨b,o,s,rfl,λ_ _=>Q,by rw[c];exact G,F,K⟩
end
section
open Go.RowKit
end
theorem Ave {l:List Cea}{i} (h:i<l.length) (a:∀x∈l,x.size<=100):(el l i).size<=100:=a _ (Cj h)
theorem B1x k:∃s,Xv k=Aa s/\Aa3 k=Aa s/\s.size<=100:=by
 unfold Xv Aa3 Aet;rw[G5,Hs];simp only[Ad];by_cases h:1<=k/\k<=8
 ·obtain⟨n,rfl⟩:∃n:Nat,k=(n:Int)+1:=⟨(k-1).toNat,by omega⟩;rw[decide_eq_true h,A6,A3,A3,Bh (by omega) (by omega),Aj ⟨by omega,by show(n:Int)+1-1<8;omega⟩,Aj ⟨by omega,by show(n:Int)+1<9;omega⟩];rw[show((n:Int)+1-1).toNat=n by omega,show((n:Int)+1).toNat=n+1 by omega];exact⟨_,rfl,rfl,Ave (by show n<8;omega) (by decide)⟩
 ·rw[decide_eq_false h];exact⟨_,rfl,rfl,by decide⟩
theorem B1z k:∃s,Aqw k=Aa s/\s.size<=100:=by
 unfold Aqw;rw[G5];simp only[Ad];by_cases h:0<=k/\k<=4
 ·obtain⟨n,rfl⟩:=Abf h.1;rw[decide_eq_true h,A6,A3,Aj ⟨by omega,by show(n:Int)<5;omega⟩];exact⟨_,rfl,Ave (by show(n:Int).toNat<5;omega) (by decide)⟩
 ·rw[decide_eq_false h];exact⟨_,rfl,by decide⟩
theorem B1y k:∃s,Aqu k=Aa s/\s.size<=100:=by
 unfold Aqu;rw[G5];simp only[Ad];by_cases h:0<=k/\k<=12
 ·obtain⟨n,rfl⟩:=Abf h.1;rw[decide_eq_true h,A6,A3,Aj ⟨by omega,by show(n:Int)<13;omega⟩];exact⟨_,rfl,Ave (by show(n:Int).toNat<13;omega) (by decide)⟩
 ·rw[decide_eq_false h];exact⟨_,rfl,by decide⟩
theorem B10 t:∃r,Ad5 t=Aa r/\r.size<=1000:=by
 obtain⟨a,d,_,h⟩:=B1x t.c.kind;obtain⟨b,e,i⟩:=B1z t.pc;obtain⟨c,f,j⟩:=B1y t.a.code;have z:(⟨#[32]⟩:Cea).size=1:=rfl
 obtain⟨q,g⟩:∃q:Bool,(bif decide (t.pc=3)then(Aa true)else(Aa (decide (t.pc=4))))=Aa q:=by
  cases decide (t.pc=3)
  ·exact⟨_,rfl⟩
  ·exact⟨_,rfl⟩
 refine⟨bif q then(((a++⟨#[32]⟩)++b)++(⟨#[32]⟩++c))else((a++⟨#[32]⟩)++b),?_,?_⟩
 ·unfold Ad5;rw[d,Ad,Aj (by rw[z];omega),e,Ad,Aj (by rw[Hl,z];omega),g,Ad];cases q with
  |false=>rfl
  |true=>rw[Cg,Cg,f,Ad,Aj (by rw[z];omega),Aj (by simp only[Hl,z];omega)]
 ·cases q<;>simp only[cond_true,cond_false,Hl,z]<;>omega
theorem Ac1 n:(Bk (C3 n)).size<=1000000001:=by rw[Dr];exact B17 n
def Oj (k:Int):Cea:=if k= -1 then⟨#[108,111,99,107,32,45,10]⟩else((⟨#[108,111,99,107,32]⟩:Cea)++Bk (C3 k))++⟨#[10]⟩
theorem Bcu k:(Oj k).size<=1000000100:=by
 have:=Ac1 k;unfold Oj;split
 ·decide
 ·rw[Hl,Hl,show(⟨#[108,111,99,107,32]⟩:Cea).size=5 from rfl,show(⟨#[10]⟩:Cea).size=1 from rfl];omega
theorem z1:(⟨#[32]⟩:Cea).size=1:=rfl
theorem Vu:(⟨#[10]⟩:Cea).size=1:=rfl
theorem z5:(⟨#[108,111,99,107,32]⟩:Cea).size=5:=rfl
theorem z7:(⟨#[108,111,99,107,32,45,10]⟩:Cea).size=7:=rfl
theorem z6:(⟨#[113,117,101,117,101,32]⟩:Cea).size=6:=rfl
theorem z5':(⟨#[115,116,101,112,32]⟩:Cea).size=5:=rfl
theorem Bzj w s (f:s.size<=10000000000) (c:w.Az.length<=4):A2 (Aq9 w) (λs=>(s:Cea)) w.Az.length 0 s=Aa (w.Az.foldl (λs k=>s++Oj k) s):=
 I9 (F:=Aq9 w) (e:=λ(s:Cea)=>(s:Cea)) w.Az (λ_ k s=>s.size<=10000000000+1000000100*k) (λs k=>s++Oj k) (λx r k s b hx a=>by
  have d:=Ac1 x;have g:=Bcu x;refine⟨?_,by rw[Hl];omega⟩;unfold Aq9 Bjn;rw[hx];unfold Oj;by_cases h:x= -1
  ·rw[Av h,if_pos h,Aj (by rw[z7];omega)]
  ·rw[Ap h,if_neg h,Wn,Ad,Aj (by rw[z5];omega),Aj (by simp only[Hl,z5,Vu];omega),Aj (by simp only[Hl,z5,Vu];omega)]) s (by omega)
theorem Amj {T:Type} (f:T->Cea) b:∀(l:List T) (s:Cea),(∀x∈l,(f x).size<=b)->(l.foldl (λs x=>s++f x) s).size<=s.size+b*l.length
 |[],s,_=>by simp
 |x::l,s,h=>by have:=Amj f b l (s++f x) (λy a=>h y (Bf _ a));have c:=h x (Bm ..);rw[Hl]at this;simp only[Fx,B5,Nat.mul_add,Akx];omega
def Py (q:Ba):Cea:=(q.list.foldl (λs k=>s++((⟨#[32]⟩:Cea)++Bk (C3 k))) ((⟨#[113,117,101,117,101,32]⟩:Cea)++q.Ah))++⟨#[10]⟩
theorem Bau {T:Type} (f:T->Cea):∀(l:List T) (a s:Cea),l.foldl (λs x=>s++f x) (a++s)=a++l.foldl (λs x=>s++f x) s
 |[],_,_=>rfl
 |x::l,a,s=>by rw[Fx,Fx,Bq0,Bau f l]
theorem Bew{q} (b:q.Ah.size<=1099511627776) (a:q.list.length<=2):(Py q).size<=1200000000000:=by unfold Py;have h:=Amj (λk:Int=>(⟨#[32]⟩:Cea)++Bk (C3 k)) 1000000002 q.list ((⟨#[113,117,101,117,101,32]⟩:Cea)++q.Ah) (λx _=>by have:=Ac1 x;rw[Hl,z1];omega);rw[Hl,z6]at h;rw[Hl,Vu];have:1000000002*q.list.length<=1000000002*2:=Akw _ a;exact V6 (Nat.add_le_add_right h 1) (by omega)
theorem Bex{w}:∀ {l:List Ba} {p:Option Ba} {qd:List Int},(Kc w p qd l).isSome=true->∀q∈l,q.list.length<=2
 |[],_,_,_,_,h=>by cases h
 |x::r,p,qd,h,q,a=>by
  rw[Kc]at h;split at h
  ·rename_i c;rcases Bq.1 a with rfl|a
   ·exact c.1.2.2
   ·cases b:Kx w x.Ah qd x.list with
    |none=>rw[b]at h;cases h
    |some m=>rw[b]at h;exact Bex h q a
  ·cases h
theorem Aya{w} (h:Hq w=true):Mg w.h=true/\(1<=w.Az.length/\w.Az.length<=4)/\w.Ag.length<=10/\(0<=w.step/\w.step<=1000000)/\w.Ag.all Ip=true/\Qy w.Ag w.step=true/\M2 w=true/\Qx w=true:=by unfold Hq at h;simp only[A9,decide_eq_true_eq]at h;exact⟨h.1.1.1.1,h.1.1.1.2,h.1.1.2,h.1.2,h.2.1,h.2.2.1,h.2.2.2.1,h.2.2.2.2⟩
theorem B2h{w} (h:Hq w=true):∀q∈w.An,q.list.length<=2:=by
 have:=(Aya h).2.2.2.2.2.2.2;unfold Qx at this;cases a:Kc w Ab [] w.An with
 |none=>rw[a]at this;cases this
 |some m=>exact Bex (by rw[a];rfl)
theorem Bzo w s (o:s.size<=20000000000) (m:w.An.length<=1048576) (b:∀q∈w.An,q.Ah.size<=1099511627776/\q.list.length<=2):A2 (Ara w) (λs=>(s:Cea)) w.An.length 0 s=Aa (w.An.foldl (λs q=>s++Py q) s):=
 I9 (F:=Ara w) (e:=λ(s:Cea)=>(s:Cea)) w.An (λ_ k s=>s.size<=20000000000+1200000000000*k) (λs q=>s++Py q) (λx r k s d hx h=>by
  have a:=b x (hx▸Cj d);have p:=Bew a.1 a.2;refine⟨?_,by rw[Hl];omega⟩;unfold Ara Bjo;rw[hx,Aj (by rw[z6];omega),Aj (by simp only[Hl,z6];omega)]
  rw[I9 (F:=A2u w k) (e:=λ(s:Cea)=>(s:Cea)) x.list (λ_ j z=>z.size<=s.size+x.Ah.size+6+1000000002*j) (λs k=>s++((⟨#[32]⟩:Cea)++Bk (C3 k))) (λy q j z l f i=>by
   have n:=Ac1 y;refine⟨?_,by simp only[Hl,z1];omega⟩;unfold A2u Bjp;rw[hx,f,Wn,Ad,Aj (by rw[z1];omega),Aj (by simp only[Hl,z1];omega)]) _ (by simp only[Hl,z6];omega),Ad]
  have c:=Bau (λk:Int=>(⟨#[32]⟩:Cea)++Bk (C3 k)) x.list s ((⟨#[113,117,101,117,101,32]⟩:Cea)++x.Ah);rw[c];have e:s++Py x=(s++x.list.foldl (λs k=>s++((⟨#[32]⟩:Cea)++Bk (C3 k))) ((⟨#[113,117,101,117,101,32]⟩:Cea)++x.Ah))++⟨#[10]⟩:=by unfold Py;rw[Bq0]
  have g:(s++Py x).size<=s.size+1200000000000:=by rw[Hl];omega
  rw[e,Hl]at g;rw[Aj (by exact V6 g (by omega)),e]) s (by omega)
def Xq (t:A4):Cea:=(Ad5 t).getD Cb
theorem Cbk t:Ad5 t=Aa (Xq t)/\True/\(Xq t).size<=1000:=by
 obtain⟨r,a,b⟩:=B10 t;have:Xq t=r:=by unfold Xq;rw[a];rfl
 rw[this];exact⟨a,trivial,b⟩
theorem Bzu w s (g:s.size<=4611686018427387904) (f:w.Ag.length<=10):A2 (Arb w) (λs=>(s:Cea)) w.Ag.length 0 s=Aa (w.Ag.foldl (λs t=>s++(Xq t++⟨#[10]⟩)) s):=
 I9 (F:=Arb w) (e:=λ(s:Cea)=>(s:Cea)) w.Ag (λ_ k s=>s.size<=4611686018427387904+1001*k) (λs t=>s++(Xq t++⟨#[10]⟩)) (λx r k s d hx c=>by
  obtain⟨a,_,b⟩:=Cbk x;refine⟨?_,by simp only[Hl,Vu];omega⟩;unfold Arb Bjq;rw[hx];rw[a,Ad,Aj (by rw[Vu];omega),Aj (by simp only[Hl,Vu];omega)]) s (by omega)
def Ap6 (w:Au):Cea:=
 if Hq w then w.Ag.foldl (λs t=>s++(Xq t++⟨#[10]⟩)) (w.An.foldl (λs q=>s++Py q) (w.Az.foldl (λs k=>s++Oj k) (((⟨#[115,116,101,112,32]⟩:Cea)++Bk (C3 w.step))++⟨#[10]⟩)))else⟨#[]⟩
theorem Cdp{w} (d:U7 w) (e:w.An.length<=1048576) (h:Hq w=true):
  ((((⟨#[115,116,101,112,32]⟩:Cea)++Bk (C3 w.step))++⟨#[10]⟩).size<=10000000000/\(w.Az.foldl (λs k=>s++Oj k) (((⟨#[115,116,101,112,32]⟩:Cea)++Bk (C3 w.step))++⟨#[10]⟩)).size<=20000000000)/\(∀q∈w.An,q.Ah.size<=1099511627776/\q.list.length<=2)/\(w.An.foldl (λs q=>s++Py q) (w.Az.foldl (λs k=>s++Oj k) (((⟨#[115,116,101,112,32]⟩:Cea)++Bk (C3 w.step))++⟨#[10]⟩))).size<=4611686018427387904:=by
 have c:=Aya h;have j:=Ac1 w.step;have b:(((⟨#[115,116,101,112,32]⟩:Cea)++Bk (C3 w.step))++⟨#[10]⟩).size<=10000000000:=by simp only[Hl,z5',Vu];omega
 have e2:=Amj Oj 1000000100 w.Az (((⟨#[115,116,101,112,32]⟩:Cea)++Bk (C3 w.step))++⟨#[10]⟩) (λx _=>Bcu x);have f:1000000100*w.Az.length<=1000000100*4:=Akw _ c.2.1.2;have a:∀q∈w.An,q.Ah.size<=1099511627776/\q.list.length<=2:=λq hx=>⟨(d.2.2.1.2 q hx).1,B2h h q hx⟩;have g:=Amj Py 1200000000000 w.An (w.Az.foldl (λs k=>s++Oj k) (((⟨#[115,116,101,112,32]⟩:Cea)++Bk (C3 w.step))++⟨#[10]⟩)) (λx hx=>Bew (a x hx).1 (a x hx).2);have i:1200000000000*w.An.length<=1200000000000*1048576:=Akw _ e;exact⟨⟨b,by omega⟩,a,by omega⟩
theorem Bzb w (c:U7 w) (a:w.An.length<=1048576):Ai2 w=Aa (Ap6 w):=by
 unfold Ai2 Ap6;rw[Acn w c a,Ad];cases h:Hq w with
 |false=>rfl
 |true=>have b:=Aya h;obtain⟨⟨d,e2⟩,e,f⟩:=Cdp c a h;have g:=Ac1 w.step;simp only[A6,cond_false,if_true];rw[Wn,Ad,Aj (by rw[z5'];omega),Aj (by simp only[Hl,z5',Vu];omega),Bzj w _ d b.2.1.2,Ad,Bzo w _ e2 a e,Ad,Bzu w _ f b.2.2.1,Ad]
theorem Beg{h0}:∀(ls:List Cea) {p:Au×List Cea},WG h0 p.1->WG h0 (ls.foldl U8 p).1
 |[],_,g=>g
 |x::ls,p,g=>Beg ls (p:=U8 p x) (g.play _)
theorem Amk {T:Type} (f:T->Cea):∀(l:List T) (s:Cea),s.size<=(l.foldl (λs x=>s++f x) s).size
 |[],_=>Ef _
 |x::l,s=>V6 (by rw[Hl];omega) (Amk f l (s++f x))
theorem Cdo{w} (h:Hq w=true):Ap6 w≠⟨#[]⟩:=λq=>by have a:=Amk (λt=>Xq t++⟨#[10]⟩) w.Ag (w.An.foldl (λs q=>s++Py q) (w.Az.foldl (λs k=>s++Oj k) (((⟨#[115,116,101,112,32]⟩:Cea)++Bk (C3 w.step))++⟨#[10]⟩)));have c:=Amk Py w.An (w.Az.foldl (λs k=>s++Oj k) (((⟨#[115,116,101,112,32]⟩:Cea)++Bk (C3 w.step))++⟨#[10]⟩));have b:=Amk Oj w.Az (((⟨#[115,116,101,112,32]⟩:Cea)++Bk (C3 w.step))++⟨#[10]⟩);unfold Ap6 at q;rw[if_pos h]at q;rw[q]at a;have e:(⟨#[]⟩:Cea).size=0:=rfl;rw[Hl,Hl,z5',Vu]at b;omega
theorem B3n{h0 w} (g:WG h0 w){ls} (p:ls.length<=1000) (o:∀x∈ls,x.size<=1048576):
  A2 (Ajd ls) (λ(a:PSt)=>(Ej (a.1,a.2.1,a.2.2.1,a.2.2.2.1,a.2.2.2.2.1,a.2.2.2.2.2.1,a.2.2.2.2.2.2.1,a.2.2.2.2.2.2.2.1,a.2.2.2.2.2.2.2.2):Sum PSt Unit)) ls.length 0 ([],w.h.shut,w.h.Am,w.h.Ax,w.h.last,w.Az,w.An,w.Ag,w.step)=Aa (.inl (Uj (Xa w ls))):=by
 have h:=Fk (F:=Ajd ls) (e:=λ(a:PSt)=>(Ej (a.1,a.2.1,a.2.2.1,a.2.2.2.1,a.2.2.2.2.1,a.2.2.2.2.2.1,a.2.2.2.2.2.2.1,a.2.2.2.2.2.2.2.1,a.2.2.2.2.2.2.2.2):Sum PSt Unit)) ls (λ_ k s=>WG h0 (J3 s).1/\s.1.length<=k) (λr _ s=>.inl (Uj (r.foldl U8 (J3 s)))) (λ_ _=>rfl) (λx r k s m hx i=>by
  have n:x∈ls:=hx▸Cj m;have j:=i.1;have f:=j.play x.data.toList;have l:Xz (⟨(⟨s.2.1,s.2.2.1,s.2.2.2.1,s.2.2.2.2.1⟩:Aw),s.2.2.2.2.2.1,s.2.2.2.2.2.2.1,s.2.2.2.2.2.2.2.1,s.2.2.2.2.2.2.2.2⟩:Au) x=Aa (Kb (J3 s).1 x.data.toList):=Bbj j.ws x (o x n);unfold Ajd A3c;rw[hx,l,Ad,Acn _ f.ws.sm f.ws.nq,f.ok,Ad,A6,A3]
  have e2:(Ac (bif !decide ((Kb (J3 s).1 x.data.toList).2=(⟨#[111,107]⟩:Cea))then(Ac (S9 (Kb (J3 s).1 x.data.toList).1 (⟨(⟨s.2.1,s.2.2.1,s.2.2.2.1,s.2.2.2.2.1⟩:Aw),s.2.2.2.2.2.1,s.2.2.2.2.2.2.1,s.2.2.2.2.2.2.2.1,s.2.2.2.2.2.2.2.2⟩:Au)) λb=>Aa (!b))else(Aa false)) λd=>Aa d)=Aa false:=by
   by_cases c:(Kb (J3 s).1 x.data.toList).2=(⟨#[111,107]⟩:Cea)
   ·rw[decide_eq_true c];rfl
   ·rw[decide_eq_false c,B3o c];show Ac (bif !false then(Ac (S9 (J3 s).1 (J3 s).1) λb=>Aa (!b))else(Aa false)) _=_;rw[Be1];rfl
  rw[e2,Ad,A3,Aj (by have:=i.2;omega)];refine .inl ⟨Uj (U8 (J3 s) x),rfl,⟨f,?_⟩,rfl⟩;have:=i.2;show(s.1++[_]).length<=k+1;rw[Bt,G0];omega) ([],w.h.shut,w.h.Am,w.h.Ax,w.h.last,w.Az,w.An,w.Ag,w.step) ⟨g,Dk _⟩
 exact h
theorem B1u a (_:wfL wfY a):Aea a=Aa true:=by
 unfold Aea;by_cases c:(1048576:Int)<(a.length:Int)
 ·rw[Av c]
 rw[Ap c];obtain⟨h,w,m,i,g⟩:=B6j a (by omega);obtain⟨ls,n,o,f⟩:=B6i a (by omega) g;have d:WG h (Xa w ls).1:=Beg ls (p:=(w,[])) g;rw[m,Ad,n,Ad,B3n g o f,Ad];simp only[Jg];rw[Byx g.b (by omega) f,Ad];have j:((Uj (Xa w ls)).1:List Cea)=(Xa w ls).2:=rfl;rw[j,decide_eq_true rfl,A6,A3];show Ac (Ac (S9 (Xa w ls).1 (Xa w ls).1) λe=>Aa (!e)) _=_
 rw[Be1,Ad,A6,Ad,A3,Wf (λk r=>by
  unfold A3e A3d;rw[j,Aj ⟨by omega,by omega⟩,decide_eq_true rfl];rfl),Ad]
 simp only[Jg];have q:=d.l.v.nt;rw[Byq i d,Ad,Cg,Byd _ (by omega),Ad,decide_eq_true (by unfold A7n;rw[Gz]),Ad,Cg,Bzb _ d.ws.sm d.ws.nq,Ad,decide_eq_false (Cdo d.ok)];rfl
end
end Go.Proofs.YtbbefmccoomfhaaGreatDoor
