/- Proved: laws.FnExactPlayAll returns true for every input and leaves its arguments as they were. Conditions: those of the given statement, no others. -/
import Derived.Test.YtcdecpdpmpfbnaaGreatDoorCards
import Derived.Test.YtcdecpdpmpfbnaaGreatDoorTie
import Derived.WalkKit
import Derived.ProofKit
import Derived.OpenShut
import Derived.ShutString
import Derived.ChangeOld
import Derived.Below
import Derived.LaidMore
import Derived.LaidHandle
import Derived.Stop.LaidErr
import Derived.Stop.Joined
import Derived.SevenTiedAt
import Derived.Lay
import Derived.HandedShaped
import Derived.Shelf.Vars
import Derived.Test.YtcdecpdpmpfbnaaGreatDoorZ6
namespace Go.Proofs.YtcdecpdpmpfbnaaGreatDoor.fnExactPlayAll
open Go.ChangeShapes Go.WideShapes Go.ChangeAt Go.RowKit
open Go.ChangeMaps (open_string shut_string)
theorem own:ownKnob Tryz.prog.godebug=none:=by kernel_rfl
theorem laidOut:laidOutB Tryz.prog=true:=by kernel_rfl
theorem tab_of {W:World} (h:laidMetH Tryz.prog Rows.fnExactPlayAllRow.laid W):rTab.ok (al W) W:=by
 rw[MakeChecks.laidMetH_plain _ _ _ (by kernel_rfl)]at h
 have h2 : Lib.TabIs Tryz.prog W "internal/strconv.uint64pow10" .u64 Lib.pow10Tab := Lib.tabIs_of_head (t := 347) (e := 307) (n := 20) Acq (by kernel_rfl) (by kernel_rfl) (by kernel_rfl) (by kernel_rfl) (by kernel_rfl) h.tail.tail
 have h3:=h2
 unfold Lib.TabIs World.var? at h3
 rw[Acq]at h3
 simp only[Option.bind_some]at h3
 have hl:5<W.heap.size:=by
  rcases Nat.lt_or_ge 5 W.heap.size with hl|hl
  ·exact hl
  ·rw[Array.getElem?_eq_none hl]at h3
   cases h3
 exact⟨fun _=>hl,hl,h2⟩
theorem max_of {W:World} (h:W.ShapedOpen Tryz.prog):rMax.ok (al W) W:=by
 obtain⟨m,hm⟩:=Go.Proofs.cell_of_shapedOpen_int (P:=Tryz.prog) (g:=0) (t:=3) (zero:= #[.int .i64 0]) (k:=.i64) h (of_decide_eq_true (by kernel_rfl)) (by kernel_rfl) rfl (by kernel_rfl) (by kernel_rfl) Tryz.underlying3
 refine⟨?_,m,hm⟩
 show 0<W.heap.size
 rcases Nat.lt_or_ge 0 W.heap.size with hl|hl
 ·exact hl
 ·unfold World.cell? at hm
  rw[Array.getElem?_eq_none hl]at hm
  cases hm
theorem shaped_and {H:Type} {enc:TypeId×Value->H} {a:Assume} {C:Checked} {os:Os} {f:FuncId} {fn:Func} {s:ChangeSpec} {conds:List PathCond} {apart fresh handsOn again:Bool} {X:World->Array Value->Prop}
  (hX:∀(w w':World) (args:Array Value),w.heap=w'.heap->X w args->X w' args) (own:ownKnob C.prog.godebug=none) (started:os.Started) (noInit:C.prog.inits.idxOf? f=none) (hfn:C.prog.funcs[f]?=some fn)
  (witness:∃(w:World) (tape:Tape) (i:Input),w.os=os/\(w.forCall tape i).Shaped C.prog/\i.vars=[]/\Input.okWide C.prog (w.forCall tape i) .any w.heap.size f i/\
   ((s.pre enc C.prog fn conds apart (w.forCall tape i).memory i.args/\X (w.forCall tape i).memory i.args)/\sizedMet enc C.prog fn (OpenSpec.ofChange s) apart (w.forCall tape i).memory i.args)/\a.holds C.prog (lone (Frame.enter C.prog f i.args .normal) [] (w.forCall tape i)))
  (contract:∀(W:World) (base:Nat) (args:Array Value) (ds gs:List (DataW H)) (before:List MemPlace),
   (∀(j:Nat) t v,fn.params[j]?=some t->args[j]?=some v->Value.okWide C.prog W .any base t v)->DataW.Whole enc C.prog fn.params.toList s.vars apart W args.toList ds gs before->
   conds.all (PathCond.test C.prog ⟨fn.params.toList,ds,s.plain.varTypes C.prog,gs⟩)=true->(DataW.weightsEach C.prog (fn.params.toList++s.plain.varTypes C.prog) (ds++gs)).all (· <=reachBytes)=true->
   X W args->W.ShapedOpen C.prog->a.holds C.prog (lone (Frame.enter C.prog f args .normal) [] W)->Calls C.prog f args W fun e W'=>∃v,e=.returned v/\s.post enc C.prog fn apart fresh handsOn again W args v W'):
  ReturnsInHanded a C os f .any (fun w args=>(s.pre enc C.prog fn conds apart w args/\X w args)/\sizedMet enc C.prog fn (OpenSpec.ofChange s) apart w args) (s.post enc C.prog fn apart fresh handsOn again):=by
 refine returnsInHanded_of_calls own started noInit witness ?_
 intro w tape i _ hsh _ hok hpre hholds
 obtain⟨_,_,_,fn',hfn',_,_,_,_,hval⟩:=hok
 obtain rfl:fn'=fn:=Option.some.inj (hfn'.symm.trans hfn)
 obtain⟨⟨⟨ds,gs,before,hw,hc⟩,hx⟩,hz⟩:=hpre
 refine(contract (w.forCall tape i) w.heap.size i.args ds gs before hval (DataW.Whole.of_heap (w':=w.forCall tape i) (by rfl) hw) hc (hz.weights hw) (hX _ _ _ (by rfl) hx) hsh hholds).mono fun e W' ⟨v,he,hp⟩=>?_
 subst he
 exact ChangeSpec.post_blind hp
theorem err_of {W:World} (h:laidMetH Tryz.prog Rows.fnExactPlayAllRow.laid W):rErr.ok (al W) W:=by
 rw[MakeChecks.laidMetH_plain _ _ _ (by kernel_rfl)]at h
 have hrow : ∀ u, Tryz.prog.typeName? 3 u = some "*errors.errorString" -> u = 340 := fun u hu => typeName_ptr_named (nm := "errors.errorString") (by kernel_rfl) (by kernel_rfl) (by decide) u hu
 obtain⟨a1,s1,v1,_⟩:=laid_sentinel (g:=2) (ti:=186) (tp:=340) (te:=342) (ts:=9) h.tail.tail.tail.tail (by kernel_rfl) (by kernel_rfl) Tryz.underlying186 hrow Tryz.underlying340 Tryz.underlying342 rfl rfl Tryz.underlying9 (by kernel_rfl) (by kernel_rfl)
 obtain⟨a2,s2,v2,_⟩:=laid_sentinel (g:=1) (ti:=186) (tp:=340) (te:=342) (ts:=9) h.tail.tail.tail.tail.tail (by kernel_rfl) (by kernel_rfl) Tryz.underlying186 hrow Tryz.underlying340 Tryz.underlying342 rfl rfl Tryz.underlying9 (by kernel_rfl) (by kernel_rfl)
 have c1:=World.var?_cell (g:=2) (by kernel_rfl) v1 0
 have c2:=World.var?_cell (g:=1) (by kernel_rfl) v2 0
 have lt:∀ {g:Nat} {v:Value},W.cell? ⟨g,0,none⟩=some v->g<W.heap.size:=fun {g v} hm=>by
  rcases Nat.lt_or_ge g W.heap.size with hl|hl
  ·exact hl
  ·unfold World.cell? at hm
   rw[Array.getElem?_eq_none hl]at hm
   cases hm
 exact⟨⟨lt c2,lt c1⟩,fun g hg=>by
  rcases hg with rfl|rfl
  ·exact⟨_,c2,.inr ⟨_,_,rfl⟩⟩
  ·exact⟨_,c1,.inr ⟨_,_,rfl⟩⟩⟩
set_option maxRecDepth 100000 in
theorem lifted (os:Os) (started:os.Started) (H:Type) (enc:TypeId×Value->H):
  ReturnsInHanded {} Tryz.checked os 4 .any (fun w args=>(Rows.fnExactPlayAllSpec.pre enc Tryz.prog Tryz.f4 Rows.fnExactPlayAllRow.domain false w args/\laidMetH Tryz.prog Rows.fnExactPlayAllRow.laid w)/\sizedMet enc Tryz.prog Tryz.f4 (OpenSpec.ofChange Rows.fnExactPlayAllSpec) false w args) (Rows.fnExactPlayAllSpec.post enc Tryz.prog Tryz.f4 false true false false):=by
 refine shaped_and (C:=Tryz.checked) (X:=fun w _=>laidMetH Tryz.prog Rows.fnExactPlayAllRow.laid w) (fun _ _ _ hh h=>h.of_heap hh) own started (by kernel_rfl) Tryz.func4
  (ChangeSpec.witness_shaped (enc:=enc) (C:=Tryz.checked) (os:=os) (X:=fun w _=>laidMetH Tryz.prog Rows.fnExactPlayAllRow.laid w) false (World.laidAll Tryz.prog os Rows.fnExactPlayAllRow.laid) #[.agg #[.bool false,.slice none 0 0,.slice none 0 0,.int .i64 0,.slice none 0 0,.slice none 0 0,.slice none 0 0,.int .i64 0],.slice none 0 0] 8 (World.laidAll_os _ _ _) (World.shaped_of_ZipB (by kernel_rfl) (by kernel_rfl)) (by kernel_rfl) (by kernel_rfl) (by kernel_rfl) (by rw[MakeChecks.laidMetH_plain _ _ _ (by kernel_rfl)];exact laidMet_laidAll _ (by kernel_rfl) (by kernel_rfl))) ?_
 intro W base args ds gs before hval0 hW hcnd _ hL hsh _
 have hT:=tab_of hL
 have hU:=max_of hsh
 have hE:=err_of hL
 have hval:∀(j:Nat) t v,Tryz.f4.params[j]?=some t->args[j]?=some v->Value.okWide Tryz.prog W .any base t v:=hval0
 have hW':=hW
 obtain⟨p,q,hA0,hV,rfl,hfz,hnd⟩:=hW
 have hA:DataW.TrodAll enc Tryz.prog W 0 (fun _=>true) true Tryz.f4.params.toList args.toList ds p:=hA0
 rw[Tryz.params4]at hA hval
 obtain⟨v0,vs0,d0,ds0,p0,q0,hargs,rfl,rfl,h0,r0⟩:=trodAll_cons hA
 obtain⟨v1,vs1,d1,ds1,p1,q1,rfl,rfl,rfl,h1,r1⟩:=trodAll_cons r0
 obtain⟨rfl,rfl,rfl⟩:=trodAll_nil r1
 obtain rfl:args= #[v0,v1]:=by cases args;simp_all
 obtain⟨rfl,rfl⟩:=trodVars_none hV
 have k0:=h0
 have lt0:∀x∈p0,x.block<W.heap.size:=by obtain⟨m,hm⟩:=k0;exact DataW.trod_lt m _ _ _ hm
 obtain⟨cs0,rfl,_,_⟩:∃cs,v0=.agg cs/\cs.size=Tryz.prog.cellsOf 30/\_:=by have hq:=hval 0 30 v0 rfl rfl;simp only[Value.okWide,Tryz.underlying30]at hq;exact hq
 obtain⟨y0,w0,rd0⟩:∃y:DWorld,Y3 y/\Br (al W) W (Agg y) cs0.toList:=by
  obtain⟨fuel,hf⟩:=h0
  exact((A5g) enc W 0 _ true fuel _ _ hf).2
 obtain⟨u0_0,t0_0,z0_0,x0_0,w0_0⟩:=rd0
 obtain⟨u0_1,t0_1,z0_1,x0_1,w0_1⟩:=w0_0
 obtain⟨u0_2,t0_2,z0_2,x0_2,w0_2⟩:=w0_1
 obtain⟨u0_3,t0_3,z0_3,x0_3,w0_3⟩:=w0_2
 obtain⟨u0_4,t0_4,z0_4,x0_4,w0_4⟩:=w0_3
 obtain⟨u0_5,t0_5,z0_5,x0_5,w0_5⟩:=w0_4
 obtain⟨u0_6,t0_6,z0_6,x0_6,w0_6⟩:=w0_5
 obtain⟨u0_7,t0_7,z0_7,x0_7,w0_7⟩:=w0_6
 replace w0_7:t0_7=[]:=w0_7
 replace x0_0:u0_0=_:=x0_0
 subst x0_0
 obtain⟨s0_1,es0_1⟩:∃s:Sv,u0_1=s.v:=N7 x0_1
 subst es0_1
 obtain⟨s0_2,es0_2⟩:∃s:Sv,u0_2=s.v:=N7 x0_2
 subst es0_2
 replace x0_3:u0_3=_:=x0_3
 subst x0_3
 obtain⟨s0_4,es0_4⟩:∃s:Sv,u0_4=s.v:=N7 x0_4
 subst es0_4
 obtain⟨s0_5,es0_5⟩:∃s:Sv,u0_5=s.v:=N7 x0_5
 subst es0_5
 obtain⟨s0_6,es0_6⟩:∃s:Sv,u0_6=s.v:=N7 x0_6
 subst es0_6
 replace x0_7:u0_7=_:=x0_7
 subst x0_7
 subst w0_7
 subst z0_7
 subst z0_6
 subst z0_5
 subst z0_4
 subst z0_3
 subst z0_2
 subst z0_1
 obtain rfl:cs0= #[.bool y0.h.shut,s0_1.v,s0_2.v,.int .i64 y0.h.last,s0_4.v,s0_5.v,s0_6.v,.int .i64 y0.step]:=by cases cs0;simp only at z0_0;simp[z0_0]
 have k1:=h1
 have lt1:∀x∈p1,x.block<W.heap.size:=by obtain⟨m,hm⟩:=k1;exact DataW.trod_lt m _ _ _ hm
 obtain⟨a1,len1,cap1,rfl⟩:=okWide_slice Tryz.underlying46 (hval 1 46 v1 rfl rfl)
 obtain⟨y1,w1,rd1⟩:∃y:List ByteArray,(D0 Mo) y/\Br (al W) W ((fun z=>[Ac 1 fT z]) y) [.slice a1 len1 cap1]:=by
  obtain⟨fuel,hf⟩:=h1
  exact((Hh (k:=1) Tryz.underlying46 (by kernel_rfl) (by decide) (X4 Tryz.underlying9)) enc W 0 _ true fuel _ _ hf).2
 obtain⟨_,_,e1,c1,_⟩:=rd1
 obtain rfl:=(List.cons.inj e1).1
 clear hA0 hval0
 refine(Bh7 W (fun _=>False) (al W) y0 s0_1 s0_2 s0_4 s0_5 s0_6 y1 ⟨a1,len1,cap1⟩ (fun _ h=>⟨h,fun h=>h⟩) hT hU hE x0_1 x0_2 x0_4 x0_5 x0_6 c1 (fun _ h=>h.elim) (Bru y0 y1 w0 w1)).2.mono fun e W' ⟨u,he,⟨_,hu,hG⟩⟩=>?_
 subst he;subst hu
 have bel:Below W.heap.size W W':=hG.rel
 exact⟨_,rfl,_,_,_,[],_,[],hW',trodAll_mk1 (shut_bool Tryz.underlying4 _),(trodAll_cons_mk (Below.trod laidOut (by kernel_rfl) (of_decide_eq_true (by kernel_rfl)) k0 bel lt0) (trodAll_cons_mk (Below.trod laidOut (by kernel_rfl) (of_decide_eq_true (by kernel_rfl)) k1 bel lt1) trodAll_mk0)),rfl,bel.frame _,fun h=>by cases h⟩
theorem jf0:(Rows.fnExactPlayAllRow.inPlace==Tryz.prog.inPlace 4)=true:=by kernel_rfl
theorem jf1:(Rows.fnExactPlayAllRow.unfollowed==Tryz.prog.unfollowed 4)=true:=by kernel_rfl
theorem jf2:(Rows.fnExactPlayAllRow.recurses==Tryz.prog.recurses 4)=true:=by kernel_rfl
theorem jf3:(Rows.fnExactPlayAllRow.named==Tryz.prog.varsNamed 4)=true:=by kernel_rfl
theorem closed:joinedFacts Tryz.prog 4 Tryz.f4 Rows.fnExactPlayAllSpec Rows.fnExactPlayAllRow=true:=by
 unfold joinedFacts
 rw[jf0,jf1,jf2,jf3]
 kernel_rfl
theorem over:Rows.fnExactPlayAllRow.holds Tryz.pinned (OpenSpec.ofChange Rows.fnExactPlayAllSpec):=
 OpenClaim.holds_of_wide 4 Tryz.f4 rfl rfl rfl rfl rfl rfl rfl ⟨rfl,rfl,rfl,rfl,rfl⟩ rfl rfl rfl rfl rfl (by kernel_rfl) Tryz.func4 closed
  (of_decide_eq_true (by kernel_rfl)) (by unfold Func.isWrapper;first|(rw[if_pos (by decide+kernel)];kernel_rfl)|(rw[if_neg (by decide+kernel)];exact⟨rfl,rfl⟩))
  (fun os started H enc _=>lifted os started H enc)
theorem g0:Rows.fnExactPlayAllRow.wfByText (OpenSpec.ofChange Rows.fnExactPlayAllSpec)=true:=by kernel_rfl
theorem g1 : Tryz.pinned.checked.prog.mainIs = some (((true, "0eca97a475e0704a4f398de68ca7583777b6dda038922931b7c95df866588eef") : Bool × String).1, ((true, "0eca97a475e0704a4f398de68ca7583777b6dda038922931b7c95df866588eef") : Bool × String).2.toList) := by kernel_rfl
theorem g2:true=Tryz.pinned.checked.prog.looks []:=by kernel_rfl
theorem goes_none {P:Program} (h:(P.funcs.toList.all fun f=>!f.goes)=true) (f:FuncId):P.goes f=false:=by
 have e:∀(g:FuncId),(P.funcs[g]?).any Func.goes=false:=fun g=>by
  cases hg:P.funcs[g]? with
  |none=>rfl
  |some fn=>simpa using List.all_eq_true.1 h fn (Array.mem_toList_iff.2 (Array.mem_of_getElem? hg))
 have e2:P.funcs.any Func.goes=false:=by
  rw[<-Array.any_toList,List.any_eq_false]
  intro fn hm
  simpa using List.all_eq_true.1 h fn hm
 unfold Program.goes
 rw[e2,Bool.and_false,Bool.or_false,List.any_eq_false]
 intro g _
 rw[e];decide
theorem goes_by {P:Program} (h:(P.funcs.toList.all fun f=>!f.goes)=true) (o:Option FuncId):false=(o.any P.goes||false):=by
 cases o with
 |none=>rfl
 |some f=>
  have e:=goes_none h f
  rw[Option.any_some,e]
  rfl
theorem gg:(Tryz.prog.funcs.toList.all fun f=>!f.goes)=true:=by kernel_rfl
theorem g3:false=Rows.fnExactPlayAllRow.goesBy Tryz.pinned.checked.prog:=goes_by gg (Tryz.prog.funcNamed Rows.fnExactPlayAllRow.func)
theorem g4:([30,46].all fun u=>!Tryz.prog.wantsStandIn u)=true:=by kernel_rfl
theorem g5 : Tryz.prog.funcNamed "loop.example/g00797/laws.FnExactPlayAll" = some 4 := by kernel_rfl
theorem proved:Rows.FnExactPlayAllCardSaid:=
 Claim7.holds_tied_plain_at .later [] [.data, .data, .data, .data, .sentinel, .sentinel, .pinned] true (true, "0eca97a475e0704a4f398de68ca7583777b6dda038922931b7c95df866588eef") true
  over (fun _ h=>by cases h) g0 (fun _ h=>by cases h) fnExactPlayAll_row_tie rfl ⟨rfl,rfl⟩ g1 rfl
  (fun f fn hf hfn=>by
   obtain rfl:f=4:=Option.some.inj (g5.symm.trans hf)|>.symm
   obtain rfl:fn=Tryz.f4:=(Option.some.inj (Tryz.func4.symm.trans hfn)).symm
   exact⟨g2,fun j t ht=>by
    rw[Tryz.params4]at ht
    have hm:t∈[30,46]:=by simpa using Array.mem_of_getElem? ht
    exact(show Tryz.prog.wantsStandIn t=false by simpa using List.all_eq_true.1 g4 t hm)⟩)
  g3
end Go.Proofs.YtcdecpdpmpfbnaaGreatDoor.fnExactPlayAll
