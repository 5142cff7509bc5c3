/- Proved: laws.FnPlay returns true for every input and leaves its arguments as they were. Conditions: those of the given statement, no others. -/
import Derived.Test.YtbbefmccoomfhaaGreatDoorCards
import Derived.Test.YtbbefmccoomfhaaGreatDoorTie
import Derived.WalkKit
import Derived.ProofKit
import Derived.OpenShut
import Derived.ShutString
import Derived.ChangeOld
import Derived.Below
import Derived.LaidMore
import Derived.LaidHandle
import Derived.Stop.LaidErr
import Derived.Stop.Joined
import Derived.SevenTiedAt
import Derived.Lay
import Derived.HandedShaped
import Derived.Shelf.Vars
import Derived.Test.YtbbefmccoomfhaaGreatDoorZ6
namespace Go.Proofs.YtbbefmccoomfhaaGreatDoor.fnPlay
open Go.ChangeShapes Go.WideShapes Go.ChangeAt Go.RowKit
open Go.ChangeMaps (open_string shut_string)
theorem own:ownKnob Tryz.prog.godebug=none:=by kernel_rfl
theorem laidOut:laidOutB Tryz.prog=true:=by kernel_rfl
theorem tab_of {W:World} (h:laidMetH Tryz.prog Rows.fnPlayRow.laid W):rTab.ok (al W) W:=by
 rw[MakeChecks.laidMetH_plain _ _ _ (by kernel_rfl)]at h
 have h2 : Lib.TabIs Tryz.prog W "internal/strconv.uint64pow10" .u64 Lib.pow10Tab := Lib.tabIs_of_head (t := 289) (e := 268) (n := 20) A1g (by kernel_rfl) (by kernel_rfl) (by kernel_rfl) (by kernel_rfl) (by kernel_rfl) h.tail.tail
 have h3:=h2
 unfold Lib.TabIs World.var? at h3
 rw[A1g]at h3
 simp only[Option.bind_some]at h3
 have hl:3<W.heap.size:=by
  rcases Nat.lt_or_ge 3 W.heap.size with hl|hl
  ·exact hl
  ·rw[Array.getElem?_eq_none hl]at h3
   cases h3
 exact⟨fun _=>hl,hl,h2⟩
theorem max_of {W:World} (h:W.ShapedOpen Tryz.prog):rMax.ok (al W) W:=by
 obtain⟨m,hm⟩:=Go.Proofs.cell_of_shapedOpen_int (P:=Tryz.prog) (g:=0) (t:=3) (zero:= #[.int .i64 0]) (k:=.i64) h (of_decide_eq_true (by kernel_rfl)) (by kernel_rfl) rfl (by kernel_rfl) (by kernel_rfl) Tryz.underlying3
 refine⟨?_,m,hm⟩
 show 0<W.heap.size
 rcases Nat.lt_or_ge 0 W.heap.size with hl|hl
 ·exact hl
 ·unfold World.cell? at hm
  rw[Array.getElem?_eq_none hl]at hm
  cases hm
theorem shaped_and {H:Type} {enc:TypeId×Value->H} {a:Assume} {C:Checked} {os:Os} {f:FuncId} {fn:Func} {s:ChangeSpec} {conds:List PathCond} {apart fresh handsOn again:Bool} {X:World->Array Value->Prop}
  (hX:∀(w w':World) (args:Array Value),w.heap=w'.heap->X w args->X w' args) (own:ownKnob C.prog.godebug=none) (started:os.Started) (noInit:C.prog.inits.idxOf? f=none) (hfn:C.prog.funcs[f]?=some fn)
  (witness:∃(w:World) (tape:Tape) (i:Input),w.os=os/\(w.forCall tape i).Shaped C.prog/\i.vars=[]/\Input.okWide C.prog (w.forCall tape i) .any w.heap.size f i/\
   ((s.pre enc C.prog fn conds apart (w.forCall tape i).memory i.args/\X (w.forCall tape i).memory i.args)/\sizedMet enc C.prog fn (OpenSpec.ofChange s) apart (w.forCall tape i).memory i.args)/\a.holds C.prog (lone (Frame.enter C.prog f i.args .normal) [] (w.forCall tape i)))
  (contract:∀(W:World) (base:Nat) (args:Array Value) (ds gs:List (DataW H)) (before:List MemPlace),
   (∀(j:Nat) t v,fn.params[j]?=some t->args[j]?=some v->Value.okWide C.prog W .any base t v)->DataW.Whole enc C.prog fn.params.toList s.vars apart W args.toList ds gs before->
   conds.all (PathCond.test C.prog ⟨fn.params.toList,ds,s.plain.varTypes C.prog,gs⟩)=true->(DataW.weightsEach C.prog (fn.params.toList++s.plain.varTypes C.prog) (ds++gs)).all (· <=reachBytes)=true->
   X W args->W.ShapedOpen C.prog->a.holds C.prog (lone (Frame.enter C.prog f args .normal) [] W)->Calls C.prog f args W fun e W'=>∃v,e=.returned v/\s.post enc C.prog fn apart fresh handsOn again W args v W'):
  ReturnsInHanded a C os f .any (fun w args=>(s.pre enc C.prog fn conds apart w args/\X w args)/\sizedMet enc C.prog fn (OpenSpec.ofChange s) apart w args) (s.post enc C.prog fn apart fresh handsOn again):=by
 refine returnsInHanded_of_calls own started noInit witness ?_
 intro w tape i _ hsh _ hok hpre hholds
 obtain⟨_,_,_,fn',hfn',_,_,_,_,hval⟩:=hok
 obtain rfl:fn'=fn:=Option.some.inj (hfn'.symm.trans hfn)
 obtain⟨⟨⟨ds,gs,before,hw,hc⟩,hx⟩,hz⟩:=hpre
 refine(contract (w.forCall tape i) w.heap.size i.args ds gs before hval (DataW.Whole.of_heap (w':=w.forCall tape i) (by rfl) hw) hc (hz.weights hw) (hX _ _ _ (by rfl) hx) hsh hholds).mono fun e W' ⟨v,he,hp⟩=>?_
 subst he
 exact ChangeSpec.post_blind hp
theorem err_of {W:World} (h:laidMetH Tryz.prog Rows.fnPlayRow.laid W):rErr.ok (al W) W:=by
 rw[MakeChecks.laidMetH_plain _ _ _ (by kernel_rfl)]at h
 have hrow : ∀ u, Tryz.prog.typeName? 3 u = some "*errors.errorString" -> u = 311 := fun u hu => typeName_ptr_named (nm := "errors.errorString") (by kernel_rfl) (by kernel_rfl) (by decide) u hu
 obtain⟨a1,s1,v1,_⟩:=laid_sentinel (g:=2) (ti:=184) (tp:=311) (te:=313) (ts:=9) h.tail.tail.tail.tail (by kernel_rfl) (by kernel_rfl) Tryz.underlying184 hrow Tryz.underlying311 Tryz.underlying313 rfl rfl Tryz.underlying9 (by kernel_rfl) (by kernel_rfl)
 obtain⟨a2,s2,v2,_⟩:=laid_sentinel (g:=1) (ti:=184) (tp:=311) (te:=313) (ts:=9) h.tail.tail.tail.tail.tail (by kernel_rfl) (by kernel_rfl) Tryz.underlying184 hrow Tryz.underlying311 Tryz.underlying313 rfl rfl Tryz.underlying9 (by kernel_rfl) (by kernel_rfl)
 have c1:=World.var?_cell (g:=2) (by kernel_rfl) v1 0
 have c2:=World.var?_cell (g:=1) (by kernel_rfl) v2 0
 have lt:∀ {g:Nat} {v:Value},W.cell? ⟨g,0,none⟩=some v->g<W.heap.size:=fun {g v} hm=>by
  rcases Nat.lt_or_ge g W.heap.size with hl|hl
  ·exact hl
  ·unfold World.cell? at hm
   rw[Array.getElem?_eq_none hl]at hm
   cases hm
 exact⟨⟨lt c2,lt c1⟩,fun g hg=>by
  rcases hg with rfl|rfl
  ·exact⟨_,c2,.inr ⟨_,_,rfl⟩⟩
  ·exact⟨_,c1,.inr ⟨_,_,rfl⟩⟩⟩
set_option maxRecDepth 100000 in
theorem lifted (os:Os) (started:os.Started) (H:Type) (enc:TypeId×Value->H):
  ReturnsInHanded {} Tryz.checked os 3 .any (fun w args=>(Rows.fnPlaySpec.pre enc Tryz.prog Tryz.f3 Rows.fnPlayRow.domain false w args/\laidMetH Tryz.prog Rows.fnPlayRow.laid w)/\sizedMet enc Tryz.prog Tryz.f3 (OpenSpec.ofChange Rows.fnPlaySpec) false w args) (Rows.fnPlaySpec.post enc Tryz.prog Tryz.f3 false true false false):=by
 refine shaped_and (C:=Tryz.checked) (X:=fun w _=>laidMetH Tryz.prog Rows.fnPlayRow.laid w) (fun _ _ _ hh h=>h.of_heap hh) own started (by kernel_rfl) Tryz.func3
  (ChangeSpec.witness_shaped (enc:=enc) (C:=Tryz.checked) (os:=os) (X:=fun w _=>laidMetH Tryz.prog Rows.fnPlayRow.laid w) false (World.laidAll Tryz.prog os Rows.fnPlayRow.laid) #[.slice none 0 0] 8 (World.laidAll_os _ _ _) (World.shaped_of_ZipB (by kernel_rfl) (by kernel_rfl)) (by kernel_rfl) (by kernel_rfl) (by kernel_rfl) (by rw[MakeChecks.laidMetH_plain _ _ _ (by kernel_rfl)];exact laidMet_laidAll _ (by kernel_rfl) (by kernel_rfl))) ?_
 intro W base args ds gs before hval0 hW hcnd _ hL hsh _
 have hT:=tab_of hL
 have hU:=max_of hsh
 have hE:=err_of hL
 have hval:∀(j:Nat) t v,Tryz.f3.params[j]?=some t->args[j]?=some v->Value.okWide Tryz.prog W .any base t v:=hval0
 have hW':=hW
 obtain⟨p,q,hA0,hV,rfl,hfz,hnd⟩:=hW
 have hA:DataW.TrodAll enc Tryz.prog W 0 (fun _=>true) true Tryz.f3.params.toList args.toList ds p:=hA0
 rw[Tryz.params3]at hA hval
 obtain⟨v0,vs0,d0,ds0,p0,q0,hargs,rfl,rfl,h0,r0⟩:=trodAll_cons hA
 obtain⟨rfl,rfl,rfl⟩:=trodAll_nil r0
 obtain rfl:args= #[v0]:=by cases args;simp_all
 obtain⟨rfl,rfl⟩:=trodVars_none hV
 have k0:=h0
 have lt0:∀x∈p0,x.block<W.heap.size:=by obtain⟨m,hm⟩:=k0;exact DataW.trod_lt m _ _ _ hm
 obtain⟨a0,Acs,cap0,rfl⟩:=okWide_slice Tryz.underlying22 (hval 0 22 v0 rfl rfl)
 obtain⟨y0,w0,rd0⟩:∃y:List UInt8,(wfL wfY) y/\Eg (al W) W ((fun z=>[Ar 1 fY z]) y) [.slice a0 Acs cap0]:=by
  obtain⟨fuel,hf⟩:=h0
  exact((B20 (k:=1) Tryz.underlying22 (by kernel_rfl) (by decide) (B21 Tryz.underlying5)) enc W 0 _ true fuel _ _ hf).2
 obtain⟨_,_,e0,c0,_⟩:=rd0
 obtain rfl:=(List.cons.inj e0).1
 clear hA0 hval0
 refine(Bss W (fun _=>False) (al W) y0 ⟨a0,Acs,cap0⟩ (fun _ h=>⟨h,fun h=>h⟩) hT hU hE c0 (fun _ h=>h.elim) (B1u y0 w0)).2.mono fun e W' ⟨u,he,⟨_,hu,hG⟩⟩=>?_
 subst he;subst hu
 have bel:Below W.heap.size W W':=hG.rel
 exact⟨_,rfl,_,_,_,[],_,[],hW',trodAll_mk1 (shut_bool Tryz.underlying4 _),(trodAll_cons_mk (Below.trod laidOut (by kernel_rfl) (of_decide_eq_true (by kernel_rfl)) k0 bel lt0) trodAll_mk0),rfl,bel.frame _,fun h=>by cases h⟩
theorem jf0:(Rows.fnPlayRow.inPlace==Tryz.prog.inPlace 3)=true:=by kernel_rfl
theorem jf1:(Rows.fnPlayRow.unfollowed==Tryz.prog.unfollowed 3)=true:=by kernel_rfl
theorem jf2:(Rows.fnPlayRow.recurses==Tryz.prog.recurses 3)=true:=by kernel_rfl
theorem jf3:(Rows.fnPlayRow.named==Tryz.prog.varsNamed 3)=true:=by kernel_rfl
theorem closed:joinedFacts Tryz.prog 3 Tryz.f3 Rows.fnPlaySpec Rows.fnPlayRow=true:=by
 unfold joinedFacts
 rw[jf0,jf1,jf2,jf3]
 kernel_rfl
theorem over:Rows.fnPlayRow.holds Tryz.pinned (OpenSpec.ofChange Rows.fnPlaySpec):=
 OpenClaim.holds_of_wide 3 Tryz.f3 rfl rfl rfl rfl rfl rfl rfl ⟨rfl,rfl,rfl,rfl,rfl⟩ rfl rfl rfl rfl rfl (by kernel_rfl) Tryz.func3 closed
  (of_decide_eq_true (by kernel_rfl)) (by unfold Func.isWrapper;first|(rw[if_pos (by decide+kernel)];kernel_rfl)|(rw[if_neg (by decide+kernel)];exact⟨rfl,rfl⟩))
  (fun os started H enc _=>lifted os started H enc)
theorem g0:Rows.fnPlayRow.wfByText (OpenSpec.ofChange Rows.fnPlaySpec)=true:=by kernel_rfl
theorem g1 : Tryz.pinned.checked.prog.mainIs = some (((true, "a14a0b94c4ef2526dc15a23ebbdcc57fe39b0a4f606026e18d7d18252a82bd84") : Bool × String).1, ((true, "a14a0b94c4ef2526dc15a23ebbdcc57fe39b0a4f606026e18d7d18252a82bd84") : Bool × String).2.toList) := by kernel_rfl
theorem g2:true=Tryz.pinned.checked.prog.looks []:=by kernel_rfl
theorem goes_none {P:Program} (h:(P.funcs.toList.all fun f=>!f.goes)=true) (f:FuncId):P.goes f=false:=by
 have e:∀(g:FuncId),(P.funcs[g]?).any Func.goes=false:=fun g=>by
  cases hg:P.funcs[g]? with
  |none=>rfl
  |some fn=>simpa using List.all_eq_true.1 h fn (Array.mem_toList_iff.2 (Array.mem_of_getElem? hg))
 have e2:P.funcs.any Func.goes=false:=by
  rw[<-Array.any_toList,List.any_eq_false]
  intro fn hm
  simpa using List.all_eq_true.1 h fn hm
 unfold Program.goes
 rw[e2,Bool.and_false,Bool.or_false,List.any_eq_false]
 intro g _
 rw[e];decide
theorem goes_by {P:Program} (h:(P.funcs.toList.all fun f=>!f.goes)=true) (o:Option FuncId):false=(o.any P.goes||false):=by
 cases o with
 |none=>rfl
 |some f=>
  have e:=goes_none h f
  rw[Option.any_some,e]
  rfl
theorem gg:(Tryz.prog.funcs.toList.all fun f=>!f.goes)=true:=by kernel_rfl
theorem g3:false=Rows.fnPlayRow.goesBy Tryz.pinned.checked.prog:=goes_by gg (Tryz.prog.funcNamed Rows.fnPlayRow.func)
theorem g4:([22].all fun u=>!Tryz.prog.wantsStandIn u)=true:=by kernel_rfl
theorem g5 : Tryz.prog.funcNamed "loop.example/g00797/laws.FnPlay" = some 3 := by kernel_rfl
theorem proved:Rows.FnPlayCardSaid:=
 Claim7.holds_tied_plain_at .later [] [.data, .data, .data, .data, .sentinel, .sentinel, .pinned] true (true, "a14a0b94c4ef2526dc15a23ebbdcc57fe39b0a4f606026e18d7d18252a82bd84") true
  over (fun _ h=>by cases h) g0 (fun _ h=>by cases h) fnPlay_row_tie rfl ⟨rfl,rfl⟩ g1 rfl
  (fun f fn hf hfn=>by
   obtain rfl:f=3:=Option.some.inj (g5.symm.trans hf)|>.symm
   obtain rfl:fn=Tryz.f3:=(Option.some.inj (Tryz.func3.symm.trans hfn)).symm
   exact⟨g2,fun j t ht=>by
    rw[Tryz.params3]at ht
    have hm:t∈[22]:=by simpa using Array.mem_of_getElem? ht
    exact(show Tryz.prog.wantsStandIn t=false by simpa using List.all_eq_true.1 g4 t hm)⟩)
  g3
end Go.Proofs.YtbbefmccoomfhaaGreatDoor.fnPlay
