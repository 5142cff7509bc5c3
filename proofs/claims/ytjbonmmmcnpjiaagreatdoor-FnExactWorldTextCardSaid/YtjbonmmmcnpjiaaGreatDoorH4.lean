/- Walks of functions of this program (printed by a program of ours, by the rules of the layer). No condition. -/
import Derived.Test.YtjbonmmmcnpjiaaGreatDoorT1
import Derived.Test.YtjbonmmmcnpjiaaGreatDoorNz
import Derived.Test.YtjbonmmmcnpjiaaGreatDoorNx
namespace Go.Proofs.YtjbonmmmcnpjiaaGreatDoor
open Go.RowKit

noncomputable def x_impl_WorldText_b0 (_w_ : DWorld) (_k26 : Nat) (x82 : Int) (out27 : ByteArray) : Option (Lr ByteArray ByteArray) :=
  bif decide (x82 = (-1)) then (xg (out27.size + (⟨#[108, 111, 99, 107, 32, 45, 10]⟩ : ByteArray).size ≤ 9223372036854775807) <| some (Lr.go (out27 ++ (⟨#[108, 111, 99, 107, 32, 45, 10]⟩ : ByteArray)))) else (Option.bind (x_impl_NumText x82) fun r70 => xg ((⟨#[108, 111, 99, 107, 32]⟩ : ByteArray).size + r70.size ≤ 9223372036854775807) <| xg (((⟨#[108, 111, 99, 107, 32]⟩ : ByteArray) ++ r70).size + (⟨#[10]⟩ : ByteArray).size ≤ 9223372036854775807) <| xg (out27.size + (((⟨#[108, 111, 99, 107, 32]⟩ : ByteArray) ++ r70) ++ (⟨#[10]⟩ : ByteArray)).size ≤ 9223372036854775807) <| some (Lr.go (out27 ++ (((⟨#[108, 111, 99, 107, 32]⟩ : ByteArray) ++ r70) ++ (⟨#[10]⟩ : ByteArray)))))
noncomputable def x_impl_WorldText_f0 (w_ : DWorld) (k26 : Nat) (s83 : ByteArray) : Option (Lr ByteArray ByteArray) := x_impl_WorldText_b0 w_ k26 (el w_.locks k26) s83
noncomputable def x_impl_WorldText_b2 (_w_ : DWorld) (_k89 : Nat) (_k184 : Nat) (x220 : Int) (out185 : ByteArray) : Option (Lr ByteArray ByteArray) :=
  Option.bind (x_impl_NumText x220) fun r210 => xg ((⟨#[32]⟩ : ByteArray).size + r210.size ≤ 9223372036854775807) <| xg (out185.size + ((⟨#[32]⟩ : ByteArray) ++ r210).size ≤ 9223372036854775807) <| some (Lr.go (out185 ++ ((⟨#[32]⟩ : ByteArray) ++ r210)))
noncomputable def x_impl_WorldText_f2 (w_ : DWorld) (k89 : Nat) (k184 : Nat) (s221 : ByteArray) : Option (Lr ByteArray ByteArray) := x_impl_WorldText_b2 w_ k89 k184 (el ((el w_.queues k89).list) k184) s221
noncomputable def x_impl_WorldText_b1 (w_ : DWorld) (k89 : Nat) (x229 : DQueue) (out90 : ByteArray) : Option (Lr ByteArray ByteArray) :=
  xg ((⟨#[113, 117, 101, 117, 101, 32]⟩ : ByteArray).size + (x229.doc).size ≤ 9223372036854775807) <| xg (out90.size + ((⟨#[113, 117, 101, 117, 101, 32]⟩ : ByteArray) ++ (x229.doc)).size ≤ 9223372036854775807) <| Option.bind (eachN (x_impl_WorldText_f2 w_ k89) (fun (s221 : ByteArray) => (s221 : ByteArray)) (x229.list).length 0 (out90 ++ ((⟨#[113, 117, 101, 117, 101, 32]⟩ : ByteArray) ++ (x229.doc)))) fun (y222 : ByteArray) => xg (y222.size + (⟨#[10]⟩ : ByteArray).size ≤ 9223372036854775807) <| some (Lr.go (y222 ++ (⟨#[10]⟩ : ByteArray)))
noncomputable def x_impl_WorldText_f1 (w_ : DWorld) (k89 : Nat) (s230 : ByteArray) : Option (Lr ByteArray ByteArray) := x_impl_WorldText_b1 w_ k89 (el w_.queues k89) s230
noncomputable def x_impl_WorldText_b3 (_w_ : DWorld) (_k236 : Nat) (x298 : DTask) (out237 : ByteArray) : Option (Lr ByteArray ByteArray) :=
  Option.bind (x_impl_TaskText x298) fun r288 => xg (r288.size + (⟨#[10]⟩ : ByteArray).size ≤ 9223372036854775807) <| xg (out237.size + (r288 ++ (⟨#[10]⟩ : ByteArray)).size ≤ 9223372036854775807) <| some (Lr.go (out237 ++ (r288 ++ (⟨#[10]⟩ : ByteArray))))
noncomputable def x_impl_WorldText_f3 (w_ : DWorld) (k236 : Nat) (s299 : ByteArray) : Option (Lr ByteArray ByteArray) := x_impl_WorldText_b3 w_ k236 (el w_.tasks k236) s299
noncomputable def x_impl_WorldText (w_ : DWorld) : Option ByteArray :=
  Option.bind (x_impl_WorldOk w_) fun r7 => bif !r7 then (some (⟨#[]⟩ : ByteArray)) else (Option.bind (x_impl_NumText w_.step) fun r14 => xg ((⟨#[115, 116, 101, 112, 32]⟩ : ByteArray).size + r14.size ≤ 9223372036854775807) <| xg (((⟨#[115, 116, 101, 112, 32]⟩ : ByteArray) ++ r14).size + (⟨#[10]⟩ : ByteArray).size ≤ 9223372036854775807) <| Option.bind (eachN (x_impl_WorldText_f0 w_) (fun (s83 : ByteArray) => (s83 : ByteArray)) w_.locks.length 0 (((⟨#[115, 116, 101, 112, 32]⟩ : ByteArray) ++ r14) ++ (⟨#[10]⟩ : ByteArray))) fun (y84 : ByteArray) => Option.bind (eachN (x_impl_WorldText_f1 w_) (fun (s230 : ByteArray) => (s230 : ByteArray)) w_.queues.length 0 y84) fun (y231 : ByteArray) => Option.bind (eachN (x_impl_WorldText_f3 w_) (fun (s299 : ByteArray) => (s299 : ByteArray)) w_.tasks.length 0 y231) fun (y300 : ByteArray) => some y300)
theorem ct_impl_WorldText (w : World) (X S : Bs) (w_ : DWorld) (s_w__1 : Sv) (s_w__2 : Sv) (s_w__4 : Sv) (s_w__5 : Sv) (s_w__6 : Sv) (hS : SX X S w) (hT : rTab.ok S w) (a_w__1 : (cSl 5 fDDoc w_.h.docs).rd S w s_w__1.v) (a_w__2 : (cSl 6 fDSub w_.h.subs).rd S w s_w__2.v) (a_w__4 : (cSl 1 fI w_.locks).rd S w s_w__4.v) (a_w__5 : (cSl 2 fDQueue w_.queues).rd S w s_w__5.v) (a_w__6 : (cSl 15 fDTask w_.tasks).rd S w s_w__6.v) (oL : Sep [] X w) {r : ByteArray} (hx : x_impl_WorldText w_ = some r) :
 Ret Tryz.prog 8 [(.agg #[(bv w_.h.shut), s_w__1.v, s_w__2.v, (iv w_.h.last), s_w__4.v, s_w__5.v, s_w__6.v, (iv w_.step)])] w (KV X S w (.string r)) := by
 unfold x_impl_WorldText at hx
 refine enter Tryz.func8 rfl Tryz.ntmps8 (by kernel_rfl) rfl ?_
 have hM := St.enter oL hS
 have hM := hM.addE (r := rTab) hT
 have hM := hM.addV a_w__1
 have hM := hM.addV a_w__2
 have hM := hM.addV a_w__4
 have hM := hM.addV a_w__5
 have hM := hM.addV a_w__6
 refine wc_sr ?_
 refine w_ex rfl (x_box rfl hM ?_); intro b304 w303 hR305 hM
 refine was rfl rfl <| wl_sq <| wc_seq <| wc_sr <| wv rfl (r_ldBS u40 sz40 rfl (us := [(bv w_.h.shut), s_w__1.v, s_w__2.v, (iv w_.h.last), s_w__4.v, s_w__5.v, s_w__6.v, (iv w_.step)]) rfl hM m0 rfl) <| bs hx fun _ h310 hx => w_cv hM rfl rfl (fun X S oL hS hR hO => ct_impl_WorldOk _ X S w_ s_w__1 s_w__2 s_w__4 s_w__5 s_w__6 hS (hR _ m4) (hR _ m3) (hR _ m2) (hR _ m1) (hR _ m0) oL h310) fun _ hM => wv rfl (r_not rfl) <| wl_sq ?_
 refine wcx hx rfl (fun hx => ?_) (fun hx => ?_)
 refine wc_sr <| was rfl rfl <| wl_sq <| wc_ret <| sq_ret ?_
 obtain rfl := oi hx
 exact fin_u [(.string (⟨#[]⟩ : ByteArray))] hM ⟨rfl, trivial⟩ rfl
 refine wc_skip <| sq_n <| wc_sr <| wv rfl (r_fld u40 rfl rfl sz3 rfl) <| wv rfl (r_ldB u3 rfl rfl hM m0 rfl) <| bs hx fun r317 h318 hx => w_cv hM rfl rfl (fun X S oL hS hR hO => ct_impl_NumText _ X S w_.step hS (hR _ m5) oL h318) fun _ hM => xgs hx fun hg321 hx => wv rfl (r_adds rfl rfl hg321) <| xgs hx fun hg323 hx => wv rfl (r_adds rfl rfl hg323) <| was rfl rfl <| wl_sq <| wc_seq ?_
 refine wc_sr <| wv rfl (r_fld u40 rfl rfl sz26 rfl) <| wv rfl (r_ldB u26 rfl rfl hM m0 rfl) <| wv rfl (r_lenC u26 rfl (hM.seeR m2)) <| wmv rfl rfl <| wl_sq <| wc_block <| bs hx fun y329 hx hx330 => ?_
 have hM := hM.fewer (rsC m5 (rsC m4 (rsC m3 (rsC m2 (rsC m1 (rsC m0 rsN))))))
 replace hM : St ⟨w, X, S⟩ [oBox b304 #[(bv w_.h.shut), s_w__1.v, s_w__2.v, (iv w_.h.last), s_w__4.v, s_w__5.v, s_w__6.v, (iv w_.step)] 40] [rTab, rV s_w__1.v (cSl 5 fDDoc w_.h.docs), rV s_w__2.v (cSl 6 fDSub w_.h.subs), rV s_w__4.v (cSl 1 fI w_.locks), rV s_w__5.v (cSl 2 fDQueue w_.queues), rV s_w__6.v (cSl 15 fDTask w_.tasks)] _ := hM
 have hl335 := Cs.le (hM.seeR m3)
 refine wc_loop (un fun (m332 : Nat) => un fun (k333 : Nat) => fun (out331 : ByteArray) => [(1, (pt b304 0)), (3, (.string out331)), (21, s_w__4.v), (22, (iv (w_.locks.length : Int))), (23, (iv (k333 : Int)))]) (un fun (m332 : Nat) => un fun (k333 : Nat) => fun (out331 : ByteArray) w' => St ⟨w, X, S⟩ [oBox b304 #[(bv w_.h.shut), s_w__1.v, s_w__2.v, (iv w_.h.last), s_w__4.v, s_w__5.v, s_w__6.v, (iv w_.step)] 40] [rTab, rV s_w__1.v (cSl 5 fDDoc w_.h.docs), rV s_w__2.v (cSl 6 fDSub w_.h.subs), rV s_w__4.v (cSl 1 fI w_.locks), rV s_w__5.v (cSl 2 fDQueue w_.queues), rV s_w__6.v (cSl 15 fDTask w_.tasks)] w' ∧ eachN _ _ m332 k333 out331 = some y329 ∧ k333 + m332 = w_.locks.length) (fun p => p.1) (w_.locks.length, 0, ((⟨#[115, 116, 101, 112, 32]⟩ : ByteArray) ++ r317) ++ (⟨#[10]⟩ : ByteArray)) ⟨rfl, rfl, rfl, rfl, rfl, trivial⟩ ⟨hM, hx, Nat.zero_add _⟩ ?_
 rintro ⟨m332, k333, out331⟩ w336 ⟨hM, hx, hk334⟩
 refine wc_sr <| wv rfl (r_lss rfl rfl) <| wl_sq <| wc_seq ?_
 refine wc_cond rfl (fun hc338 => ?_) (fun hc338 => ?_)
 replace hc338 := of_decide_eq_true hc338
 obtain ⟨m339, z340, rfl, hk334, hx, hx341⟩ := eachN_step hx hk334 hc338
 unfold x_impl_WorldText_f0 x_impl_WorldText_b0 at hx
 try dsimp only at hx
 refine wc_skip <| sq_n <| wc_seq <| wc_block <| wc_sr ?_
 have hi343 : k333 < w_.locks.length := by omega
 refine wv rfl (r_ixC u26 sz3 rfl rfl (hM.seeR m3) ⟨by omega, hc338⟩) <| wv rfl (r_ld u3 rfl rfl (Cs.get (i := k333) (j := 0) (hM.seeR m3) (fun _ => rfl) hi343 rfl)) <| was rfl rfl <| wl_sq <| wc_sr <| wmv rfl rfl <| wv rfl (r_eql rfl rfl) <| wl_sq ?_
 refine wcx hx rfl (fun hx => ?_) (fun hx => ?_)
 refine wc_region <| wmv rfl rfl <| xgs hx fun hg351 hx => wv rfl (r_adds rfl rfl hg351) <| was rfl rfl <| wl_nil <| bk_n <| sq_n <| wc_region <| wv rfl (r_add rfl rfl ⟨by omega, by omega⟩) <| wmv rfl rfl <| wl_nil ?_
 cases hx
 exact lp_end (m339, k333 + 1, out331 ++ (⟨#[108, 111, 99, 107, 32, 45, 10]⟩ : ByteArray)) (Nat.lt_succ_self _) ⟨rfl, rfl, rfl, rfl, rfl, trivial⟩ ⟨hM, hx341, hk334⟩
 refine wc_region <| wmv rfl rfl <| wmv rfl rfl <| bs hx fun r357 h358 hx => w_cv hM rfl rfl (fun X S oL hS hR hO => ct_impl_NumText _ X S (el w_.locks k333) hS (hR _ m0) oL h358) fun _ hM => xgs hx fun hg361 hx => wv rfl (r_adds rfl rfl hg361) <| xgs hx fun hg363 hx => wv rfl (r_adds rfl rfl hg363) <| xgs hx fun hg365 hx => wv rfl (r_adds rfl rfl hg365) <| was rfl rfl <| wl_nil <| bk_n ?_
 refine sq_n <| wc_region <| wv rfl (r_add rfl rfl ⟨by omega, by omega⟩) <| wmv rfl rfl <| wl_nil ?_
 cases hx
 exact lp_end (m339, k333 + 1, out331 ++ (((⟨#[108, 111, 99, 107, 32]⟩ : ByteArray) ++ r357) ++ (⟨#[10]⟩ : ByteArray))) (Nat.lt_succ_self _) ⟨rfl, rfl, rfl, rfl, rfl, trivial⟩ ⟨hM, hx341, hk334⟩
 replace hc338 := of_decide_eq_false hc338
 obtain rfl := eachN_end hx hk334 hc338
 refine wc_exit <| sq_exit <| lp1_exit ?_
 replace hx := hx330
 refine bk_here <| sq_n <| wc_seq <| wc_sr <| wv rfl (r_fld u40 rfl rfl sz37 rfl) <| wv rfl (r_ldB u37 rfl rfl hM m0 rfl) <| wv rfl (r_lenC u37 rfl (hM.seeR m4)) <| wmv rfl rfl <| wl_sq <| wc_block <| bs hx fun y373 hx hx374 => ?_
 have hl379 := Cs.le (hM.seeR m4)
 refine wc_loop (un fun (m376 : Nat) => un fun (k377 : Nat) => fun (out375 : ByteArray) => [(1, (pt b304 0)), (3, (.string out375)), (39, s_w__5.v), (40, (iv (w_.queues.length : Int))), (41, (iv (k377 : Int)))]) (un fun (m376 : Nat) => un fun (k377 : Nat) => fun (out375 : ByteArray) w' => St ⟨w, X, S⟩ [oBox b304 #[(bv w_.h.shut), s_w__1.v, s_w__2.v, (iv w_.h.last), s_w__4.v, s_w__5.v, s_w__6.v, (iv w_.step)] 40] [rTab, rV s_w__1.v (cSl 5 fDDoc w_.h.docs), rV s_w__2.v (cSl 6 fDSub w_.h.subs), rV s_w__4.v (cSl 1 fI w_.locks), rV s_w__5.v (cSl 2 fDQueue w_.queues), rV s_w__6.v (cSl 15 fDTask w_.tasks)] w' ∧ eachN _ _ m376 k377 out375 = some y373 ∧ k377 + m376 = w_.queues.length) (fun p => p.1) (w_.queues.length, 0, out331) ⟨rfl, rfl, rfl, rfl, rfl, trivial⟩ ⟨hM, hx, Nat.zero_add _⟩ ?_
 rintro ⟨m376, k377, out375⟩ w380 ⟨hM, hx, hk378⟩
 refine wc_sr <| wv rfl (r_lss rfl rfl) <| wl_sq <| wc_seq ?_
 refine wc_cond rfl (fun hc382 => ?_) (fun hc382 => ?_)
 replace hc382 := of_decide_eq_true hc382
 obtain ⟨m383, z384, rfl, hk378, hx, hx385⟩ := eachN_step hx hk378 hc382
 unfold x_impl_WorldText_f1 x_impl_WorldText_b1 at hx
 try dsimp only at hx
 refine wc_skip <| sq_n <| wc_seq <| wc_block <| wc_sr ?_
 have hi387 : k377 < w_.queues.length := by omega
 refine wv rfl (r_ixC u37 sz56 rfl rfl (hM.seeR m4) ⟨by omega, hc382⟩) ?_
 obtain ⟨s389, hM, hc390⟩ := hM.leaf (i := k377) (j := 1) m4 (fun _ => rfl) hi387 rfl
 refine wv rfl (r_ldC (o := k377 * 2) u56 sz56 rfl (us := [(.string ((el w_.queues k377).doc)), s389.v]) rfl (hM.seeR m5) hi387 ⟨(Cs.get (i := k377) (j := 0) (hM.seeR m5) (fun _ => rfl) hi387 rfl), (hc390 _ (Rel.refl _)), trivial⟩) ?_
 refine w_ex rfl (x_alloc sz56 hM ?_); intro b392 w391 hR393 hM
 refine w_exu (x_stB #[(.string ((el w_.queues k377).doc)), s389.v] sz56 rfl rfl rfl rfl rfl rfl hM ?_); intro w395 hM
 refine wl_sq <| wc_sr <| wmv rfl rfl <| wv rfl (r_fld u56 rfl rfl sz9 rfl) <| wv rfl (r_ldB u9 rfl rfl hM m0 rfl) <| xgs hx fun hg401 hx => wv rfl (r_adds rfl rfl hg401) <| xgs hx fun hg403 hx => wv rfl (r_adds rfl rfl hg403) <| was rfl rfl <| wl_sq <| wc_seq <| wc_sr <| wv rfl (r_fld u56 rfl rfl sz26 rfl) ?_
 refine wv rfl (r_ldB u26 rfl rfl hM m0 rfl) <| wv rfl (r_lenC u26 rfl (hM.seeR m0)) <| wmv rfl rfl <| wl_sq <| wc_block <| bs hx fun y409 hx hx410 => ?_
 replace hM := hM.p1
 replace hM := hM.t1
 have hM := hM.fewer (rsC m1 (rsC m2 (rsC m3 (rsC m4 (rsC m5 (rsC m6 (rsC m0 rsN)))))))
 replace hM : St ⟨w, X, S⟩ [oBox b304 #[(bv w_.h.shut), s_w__1.v, s_w__2.v, (iv w_.h.last), s_w__4.v, s_w__5.v, s_w__6.v, (iv w_.step)] 40] [rTab, rV s_w__1.v (cSl 5 fDDoc w_.h.docs), rV s_w__2.v (cSl 6 fDSub w_.h.subs), rV s_w__4.v (cSl 1 fI w_.locks), rV s_w__5.v (cSl 2 fDQueue w_.queues), rV s_w__6.v (cSl 15 fDTask w_.tasks), rV s389.v (cSl 1 fI ((el w_.queues k377).list))] _ := hM
 have hl415 := Cs.le (hM.seeR m6)
 refine wc_loop (un fun (m412 : Nat) => un fun (k413 : Nat) => fun (out411 : ByteArray) => [(1, (pt b304 0)), (3, (.string out411)), (39, s_w__5.v), (40, (iv (w_.queues.length : Int))), (41, (iv (k377 : Int))), (51, s389.v), (52, (iv (((el w_.queues k377).list).length : Int))), (53, (iv (k413 : Int)))]) (un fun (m412 : Nat) => un fun (k413 : Nat) => fun (out411 : ByteArray) w' => St ⟨w, X, S⟩ [oBox b304 #[(bv w_.h.shut), s_w__1.v, s_w__2.v, (iv w_.h.last), s_w__4.v, s_w__5.v, s_w__6.v, (iv w_.step)] 40] [rTab, rV s_w__1.v (cSl 5 fDDoc w_.h.docs), rV s_w__2.v (cSl 6 fDSub w_.h.subs), rV s_w__4.v (cSl 1 fI w_.locks), rV s_w__5.v (cSl 2 fDQueue w_.queues), rV s_w__6.v (cSl 15 fDTask w_.tasks), rV s389.v (cSl 1 fI ((el w_.queues k377).list))] w' ∧ eachN _ _ m412 k413 out411 = some y409 ∧ k413 + m412 = ((el w_.queues k377).list).length) (fun p => p.1) (((el w_.queues k377).list).length, 0, out375 ++ ((⟨#[113, 117, 101, 117, 101, 32]⟩ : ByteArray) ++ ((el w_.queues k377).doc))) ⟨rfl, rfl, rfl, rfl, rfl, rfl, rfl, rfl, trivial⟩ ⟨hM, hx, Nat.zero_add _⟩ ?_
 rintro ⟨m412, k413, out411⟩ w416 ⟨hM, hx, hk414⟩
 refine wc_sr <| wv rfl (r_lss rfl rfl) <| wl_sq <| wc_seq ?_
 refine wc_cond rfl (fun hc418 => ?_) (fun hc418 => ?_)
 replace hc418 := of_decide_eq_true hc418
 obtain ⟨m419, z420, rfl, hk414, hx, hx421⟩ := eachN_step hx hk414 hc418
 unfold x_impl_WorldText_f2 x_impl_WorldText_b2 at hx
 try dsimp only at hx
 refine wc_skip <| sq_n <| wc_seq <| wc_block <| wc_sr ?_
 have hi423 : k413 < ((el w_.queues k377).list).length := by omega
 refine wv rfl (r_ixC u26 sz3 rfl rfl (hM.seeR m6) ⟨by omega, hc418⟩) <| wv rfl (r_ld u3 rfl rfl (Cs.get (i := k413) (j := 0) (hM.seeR m6) (fun _ => rfl) hi423 rfl)) <| was rfl rfl <| wl_sq <| wc_region <| wmv rfl rfl <| wmv rfl rfl <| bs hx fun r428 h429 hx => w_cv hM rfl rfl (fun X S oL hS hR hO => ct_impl_NumText _ X S (el ((el w_.queues k377).list) k413) hS (hR _ m0) oL h429) fun _ hM => xgs hx fun hg432 hx => wv rfl (r_adds rfl rfl hg432) <| xgs hx fun hg434 hx => wv rfl (r_adds rfl rfl hg434) <| was rfl rfl ?_
 refine wl_nil <| bk_n <| sq_n <| wc_region <| wv rfl (r_add rfl rfl ⟨by omega, by omega⟩) <| wmv rfl rfl <| wl_nil ?_
 cases hx
 exact lp_end (m419, k413 + 1, out411 ++ ((⟨#[32]⟩ : ByteArray) ++ r428)) (Nat.lt_succ_self _) ⟨rfl, rfl, rfl, rfl, rfl, rfl, rfl, rfl, trivial⟩ ⟨hM, hx421, hk414⟩
 replace hc418 := of_decide_eq_false hc418
 obtain rfl := eachN_end hx hk414 hc418
 refine wc_exit <| sq_exit <| lp1_exit ?_
 replace hx := hx410
 refine bk_here <| sq_n <| wc_region <| wmv rfl rfl <| xgs hx fun hg440 hx => wv rfl (r_adds rfl rfl hg440) <| was rfl rfl <| wl_nil <| bk_n <| sq_n <| wc_region <| wv rfl (r_add rfl rfl ⟨by omega, by omega⟩) <| wmv rfl rfl <| wl_nil ?_
 cases hx
 have hM := hM.fewer (rsC m0 (rsC m1 (rsC m2 (rsC m3 (rsC m4 (rsC m5 rsN))))))
 replace hM : St ⟨w, X, S⟩ [oBox b304 #[(bv w_.h.shut), s_w__1.v, s_w__2.v, (iv w_.h.last), s_w__4.v, s_w__5.v, s_w__6.v, (iv w_.step)] 40] [rTab, rV s_w__1.v (cSl 5 fDDoc w_.h.docs), rV s_w__2.v (cSl 6 fDSub w_.h.subs), rV s_w__4.v (cSl 1 fI w_.locks), rV s_w__5.v (cSl 2 fDQueue w_.queues), rV s_w__6.v (cSl 15 fDTask w_.tasks)] _ := hM
 exact lp_end (m383, k377 + 1, out411 ++ (⟨#[10]⟩ : ByteArray)) (Nat.lt_succ_self _) ⟨rfl, rfl, rfl, rfl, rfl, trivial⟩ ⟨hM, hx385, hk378⟩
 replace hc382 := of_decide_eq_false hc382
 obtain rfl := eachN_end hx hk378 hc382
 refine wc_exit <| sq_exit <| lp1_exit ?_
 replace hx := hx374
 refine bk_here <| sq_n <| wc_seq <| wc_sr <| wv rfl (r_fld u40 rfl rfl sz38 rfl) <| wv rfl (r_ldB u38 rfl rfl hM m0 rfl) <| wv rfl (r_lenC u38 rfl (hM.seeR m5)) <| wmv rfl rfl <| wl_sq <| wc_block <| bs hx fun y448 hx hx449 => ?_
 replace hM := hM.t0
 have hM := hM.fewer (rsC m0 (rsC m5 rsN))
 replace hM : St ⟨w, X, S⟩ [] [rTab, rV s_w__6.v (cSl 15 fDTask w_.tasks)] _ := hM
 have hl454 := Cs.le (hM.seeR m1)
 refine wc_loop (un fun (m451 : Nat) => un fun (k452 : Nat) => fun (out450 : ByteArray) => [(3, (.string out450)), (67, s_w__6.v), (68, (iv (w_.tasks.length : Int))), (69, (iv (k452 : Int)))]) (un fun (m451 : Nat) => un fun (k452 : Nat) => fun (out450 : ByteArray) w' => St ⟨w, X, S⟩ [] [rTab, rV s_w__6.v (cSl 15 fDTask w_.tasks)] w' ∧ eachN _ _ m451 k452 out450 = some y448 ∧ k452 + m451 = w_.tasks.length) (fun p => p.1) (w_.tasks.length, 0, out375) ⟨rfl, rfl, rfl, rfl, trivial⟩ ⟨hM, hx, Nat.zero_add _⟩ ?_
 rintro ⟨m451, k452, out450⟩ w455 ⟨hM, hx, hk453⟩
 refine wc_sr <| wv rfl (r_lss rfl rfl) <| wl_sq <| wc_seq ?_
 refine wc_cond rfl (fun hc457 => ?_) (fun hc457 => ?_)
 replace hc457 := of_decide_eq_true hc457
 obtain ⟨m458, z459, rfl, hk453, hx, hx460⟩ := eachN_step hx hk453 hc457
 unfold x_impl_WorldText_f3 x_impl_WorldText_b3 at hx
 try dsimp only at hx
 refine wc_skip <| sq_n <| wc_seq <| wc_block <| wc_sr ?_
 have hi462 : k452 < w_.tasks.length := by omega
 refine wv rfl (r_ixC u38 sz64 rfl rfl (hM.seeR m1) ⟨by omega, hc457⟩) ?_
 obtain ⟨s464, hM, hc465⟩ := hM.leaf (i := k452) (j := 5) m1 (fun _ => rfl) hi462 rfl
 obtain ⟨s466, hM, hc467⟩ := hM.leaf (i := k452) (j := 6) m2 (fun _ => rfl) hi462 rfl
 obtain ⟨s468, hM, hc469⟩ := hM.leaf (i := k452) (j := 13) m3 (fun _ => rfl) hi462 rfl
 obtain ⟨s470, hM, hc471⟩ := hM.leaf (i := k452) (j := 14) m4 (fun _ => rfl) hi462 rfl
 refine wv rfl (r_ldC (o := k452 * 15) u64 sz64 rfl (us := [(iv ((el w_.tasks k452).c.kind)), (.string ((el w_.tasks k452).c.doc)), (iv ((el w_.tasks k452).c.client)), (iv ((el w_.tasks k452).c.seq)), (iv ((el w_.tasks k452).c.n)), s464.v, s466.v, (iv ((el w_.tasks k452).pc)), (iv ((el w_.tasks k452).inv)), (iv ((el w_.tasks k452).lin)), (iv ((el w_.tasks k452).res)), (iv ((el w_.tasks k452).a.code)), (iv ((el w_.tasks k452).a.rev)), s468.v, s470.v]) rfl (hM.seeR m5) hi462 ⟨(Cs.get (i := k452) (j := 0) (hM.seeR m5) (fun _ => rfl) hi462 rfl), (Cs.get (i := k452) (j := 1) (hM.seeR m5) (fun _ => rfl) hi462 rfl), (Cs.get (i := k452) (j := 2) (hM.seeR m5) (fun _ => rfl) hi462 rfl), (Cs.get (i := k452) (j := 3) (hM.seeR m5) (fun _ => rfl) hi462 rfl), (Cs.get (i := k452) (j := 4) (hM.seeR m5) (fun _ => rfl) hi462 rfl), (hc465 _ (Rel.refl _)), (hc467 _ (Rel.refl _)), (Cs.get (i := k452) (j := 7) (hM.seeR m5) (fun _ => rfl) hi462 rfl), (Cs.get (i := k452) (j := 8) (hM.seeR m5) (fun _ => rfl) hi462 rfl), (Cs.get (i := k452) (j := 9) (hM.seeR m5) (fun _ => rfl) hi462 rfl), (Cs.get (i := k452) (j := 10) (hM.seeR m5) (fun _ => rfl) hi462 rfl), (Cs.get (i := k452) (j := 11) (hM.seeR m5) (fun _ => rfl) hi462 rfl), (Cs.get (i := k452) (j := 12) (hM.seeR m5) (fun _ => rfl) hi462 rfl), (hc469 _ (Rel.refl _)), (hc471 _ (Rel.refl _)), trivial⟩) ?_
 refine w_ex rfl (x_alloc sz64 hM ?_); intro b473 w472 hR474 hM
 refine w_exu (x_stB #[(iv ((el w_.tasks k452).c.kind)), (.string ((el w_.tasks k452).c.doc)), (iv ((el w_.tasks k452).c.client)), (iv ((el w_.tasks k452).c.seq)), (iv ((el w_.tasks k452).c.n)), s464.v, s466.v, (iv ((el w_.tasks k452).pc)), (iv ((el w_.tasks k452).inv)), (iv ((el w_.tasks k452).lin)), (iv ((el w_.tasks k452).res)), (iv ((el w_.tasks k452).a.code)), (iv ((el w_.tasks k452).a.rev)), s468.v, s470.v] sz64 rfl rfl rfl rfl rfl rfl hM ?_); intro w476 hM
 refine wl_sq <| wc_region <| wmv rfl rfl <| wv rfl (r_ldBS u64 sz64 rfl (us := [(iv ((el w_.tasks k452).c.kind)), (.string ((el w_.tasks k452).c.doc)), (iv ((el w_.tasks k452).c.client)), (iv ((el w_.tasks k452).c.seq)), (iv ((el w_.tasks k452).c.n)), s464.v, s466.v, (iv ((el w_.tasks k452).pc)), (iv ((el w_.tasks k452).inv)), (iv ((el w_.tasks k452).lin)), (iv ((el w_.tasks k452).res)), (iv ((el w_.tasks k452).a.code)), (iv ((el w_.tasks k452).a.rev)), s468.v, s470.v]) rfl hM m0 rfl) <| bs hx fun r480 h481 hx => w_cv hM rfl rfl (fun X S oL hS hR hO => ct_impl_TaskText _ X S (el w_.tasks k452) s464 s466 s468 s470 hS (hR _ m3) (hR _ m2) (hR _ m1) (hR _ m0) oL h481) fun _ hM => xgs hx fun hg484 hx => wv rfl (r_adds rfl rfl hg484) <| xgs hx fun hg486 hx => wv rfl (r_adds rfl rfl hg486) <| was rfl rfl <| wl_nil <| bk_n <| sq_n ?_
 refine wc_region <| wv rfl (r_add rfl rfl ⟨by omega, by omega⟩) <| wmv rfl rfl <| wl_nil ?_
 cases hx
 replace hM := hM.t0
 have hM := hM.fewer (rsC m4 (rsC m5 rsN))
 replace hM : St ⟨w, X, S⟩ [] [rTab, rV s_w__6.v (cSl 15 fDTask w_.tasks)] _ := hM
 exact lp_end (m458, k452 + 1, out450 ++ (r480 ++ (⟨#[10]⟩ : ByteArray))) (Nat.lt_succ_self _) ⟨rfl, rfl, rfl, rfl, trivial⟩ ⟨hM, hx460, hk453⟩
 replace hc457 := of_decide_eq_false hc457
 obtain rfl := eachN_end hx hk453 hc457
 refine wc_exit <| sq_exit <| lp1_exit ?_
 replace hx := hx449
 refine bk_here <| sq_n <| wc_sr <| wmv rfl rfl <| was rfl rfl <| wl_sq <| wc_ret ?_
 obtain rfl := oi hx
 exact fin_u [(.string out450)] hM ⟨rfl, trivial⟩ rfl

noncomputable def x_spec_WorldText_b0 (_w_ : DWorld) (_k26 : Nat) (x82 : Int) (s27 : ByteArray) : Option (Lr ByteArray ByteArray) :=
  bif decide (x82 = (-1)) then (xg (s27.size + (⟨#[108, 111, 99, 107, 32, 45, 10]⟩ : ByteArray).size ≤ 9223372036854775807) <| some (Lr.go (s27 ++ (⟨#[108, 111, 99, 107, 32, 45, 10]⟩ : ByteArray)))) else (xg (s27.size + (⟨#[108, 111, 99, 107, 32]⟩ : ByteArray).size ≤ 9223372036854775807) <| Option.bind (x_spec_NumText x82) fun r72 => xg ((s27 ++ (⟨#[108, 111, 99, 107, 32]⟩ : ByteArray)).size + r72.size ≤ 9223372036854775807) <| xg (((s27 ++ (⟨#[108, 111, 99, 107, 32]⟩ : ByteArray)) ++ r72).size + (⟨#[10]⟩ : ByteArray).size ≤ 9223372036854775807) <| some (Lr.go (((s27 ++ (⟨#[108, 111, 99, 107, 32]⟩ : ByteArray)) ++ r72) ++ (⟨#[10]⟩ : ByteArray))))
noncomputable def x_spec_WorldText_f0 (w_ : DWorld) (k26 : Nat) (s83 : ByteArray) : Option (Lr ByteArray ByteArray) := x_spec_WorldText_b0 w_ k26 (el w_.locks k26) s83
noncomputable def x_spec_WorldText_b2 (_w_ : DWorld) (_k89 : Nat) (_k184 : Nat) (x220 : Int) (s185 : ByteArray) : Option (Lr ByteArray ByteArray) :=
  xg (s185.size + (⟨#[32]⟩ : ByteArray).size ≤ 9223372036854775807) <| Option.bind (x_spec_NumText x220) fun r212 => xg ((s185 ++ (⟨#[32]⟩ : ByteArray)).size + r212.size ≤ 9223372036854775807) <| some (Lr.go ((s185 ++ (⟨#[32]⟩ : ByteArray)) ++ r212))
noncomputable def x_spec_WorldText_f2 (w_ : DWorld) (k89 : Nat) (k184 : Nat) (s221 : ByteArray) : Option (Lr ByteArray ByteArray) := x_spec_WorldText_b2 w_ k89 k184 (el ((el w_.queues k89).list) k184) s221
noncomputable def x_spec_WorldText_b1 (w_ : DWorld) (k89 : Nat) (x229 : DQueue) (s90 : ByteArray) : Option (Lr ByteArray ByteArray) :=
  xg (s90.size + (⟨#[113, 117, 101, 117, 101, 32]⟩ : ByteArray).size ≤ 9223372036854775807) <| xg ((s90 ++ (⟨#[113, 117, 101, 117, 101, 32]⟩ : ByteArray)).size + (x229.doc).size ≤ 9223372036854775807) <| Option.bind (eachN (x_spec_WorldText_f2 w_ k89) (fun (s221 : ByteArray) => (s221 : ByteArray)) (x229.list).length 0 ((s90 ++ (⟨#[113, 117, 101, 117, 101, 32]⟩ : ByteArray)) ++ (x229.doc))) fun (y222 : ByteArray) => xg (y222.size + (⟨#[10]⟩ : ByteArray).size ≤ 9223372036854775807) <| some (Lr.go (y222 ++ (⟨#[10]⟩ : ByteArray)))
noncomputable def x_spec_WorldText_f1 (w_ : DWorld) (k89 : Nat) (s230 : ByteArray) : Option (Lr ByteArray ByteArray) := x_spec_WorldText_b1 w_ k89 (el w_.queues k89) s230
noncomputable def x_spec_WorldText_b3 (_w_ : DWorld) (_k236 : Nat) (x298 : DTask) (s237 : ByteArray) : Option (Lr ByteArray ByteArray) :=
  Option.bind (x_spec_TaskText x298) fun r288 => xg (s237.size + r288.size ≤ 9223372036854775807) <| xg ((s237 ++ r288).size + (⟨#[10]⟩ : ByteArray).size ≤ 9223372036854775807) <| some (Lr.go ((s237 ++ r288) ++ (⟨#[10]⟩ : ByteArray)))
noncomputable def x_spec_WorldText_f3 (w_ : DWorld) (k236 : Nat) (s299 : ByteArray) : Option (Lr ByteArray ByteArray) := x_spec_WorldText_b3 w_ k236 (el w_.tasks k236) s299
noncomputable def x_spec_WorldText (w_ : DWorld) : Option ByteArray :=
  Option.bind (x_spec_WorldOk w_) fun r7 => bif !r7 then (some (⟨#[]⟩ : ByteArray)) else (Option.bind (x_spec_NumText w_.step) fun r14 => xg ((⟨#[115, 116, 101, 112, 32]⟩ : ByteArray).size + r14.size ≤ 9223372036854775807) <| xg (((⟨#[115, 116, 101, 112, 32]⟩ : ByteArray) ++ r14).size + (⟨#[10]⟩ : ByteArray).size ≤ 9223372036854775807) <| Option.bind (eachN (x_spec_WorldText_f0 w_) (fun (s83 : ByteArray) => (s83 : ByteArray)) w_.locks.length 0 (((⟨#[115, 116, 101, 112, 32]⟩ : ByteArray) ++ r14) ++ (⟨#[10]⟩ : ByteArray))) fun (y84 : ByteArray) => Option.bind (eachN (x_spec_WorldText_f1 w_) (fun (s230 : ByteArray) => (s230 : ByteArray)) w_.queues.length 0 y84) fun (y231 : ByteArray) => Option.bind (eachN (x_spec_WorldText_f3 w_) (fun (s299 : ByteArray) => (s299 : ByteArray)) w_.tasks.length 0 y231) fun (y300 : ByteArray) => some y300)
theorem ct_spec_WorldText (w : World) (X S : Bs) (w_ : DWorld) (s_w__1 : Sv) (s_w__2 : Sv) (s_w__4 : Sv) (s_w__5 : Sv) (s_w__6 : Sv) (hS : SX X S w) (a_w__1 : (cSl 5 fDDoc w_.h.docs).rd S w s_w__1.v) (a_w__2 : (cSl 6 fDSub w_.h.subs).rd S w s_w__2.v) (a_w__4 : (cSl 1 fI w_.locks).rd S w s_w__4.v) (a_w__5 : (cSl 2 fDQueue w_.queues).rd S w s_w__5.v) (a_w__6 : (cSl 15 fDTask w_.tasks).rd S w s_w__6.v) (oL : Sep [] X w) {r : ByteArray} (hx : x_spec_WorldText w_ = some r) :
 Ret Tryz.prog 6 [(.agg #[(bv w_.h.shut), s_w__1.v, s_w__2.v, (iv w_.h.last), s_w__4.v, s_w__5.v, s_w__6.v, (iv w_.step)])] w (KV X S w (.string r)) := by
 unfold x_spec_WorldText at hx
 refine enter Tryz.func6 rfl Tryz.ntmps6 (by kernel_rfl) rfl ?_
 have hM := (((((St.enter oL hS).addV a_w__1).addV a_w__2).addV a_w__4).addV a_w__5).addV a_w__6
 refine wc_sr ?_
 refine w_ex rfl (x_box rfl hM ?_); intro b304 w303 hR305 hM
 refine was rfl rfl <| wl_sq <| wc_seq <| wc_sr <| wv rfl (r_ldBS u40 sz40 rfl (us := [(bv w_.h.shut), s_w__1.v, s_w__2.v, (iv w_.h.last), s_w__4.v, s_w__5.v, s_w__6.v, (iv w_.step)]) rfl hM m0 rfl) <| bs hx fun _ h310 hx => w_cv hM rfl rfl (fun X S oL hS hR hO => ct_spec_WorldOk _ X S w_ s_w__1 s_w__2 s_w__4 s_w__5 s_w__6 hS (hR _ m4) (hR _ m3) (hR _ m2) (hR _ m1) (hR _ m0) oL h310) fun _ hM => wv rfl (r_not rfl) <| wl_sq ?_
 refine wcx hx rfl (fun hx => ?_) (fun hx => ?_)
 refine wc_sr <| was rfl rfl <| wl_sq <| wc_ret <| sq_ret ?_
 obtain rfl := oi hx
 exact fin_u [(.string (⟨#[]⟩ : ByteArray))] hM ⟨rfl, trivial⟩ rfl
 refine wc_skip <| sq_n <| wc_sr <| wv rfl (r_fld u40 rfl rfl sz3 rfl) <| wv rfl (r_ldB u3 rfl rfl hM m0 rfl) <| bs hx fun r317 h318 hx => w_cv hM rfl rfl (fun X S oL hS hR hO => ct_spec_NumText _ X S w_.step hS  oL h318) fun _ hM => xgs hx fun hg321 hx => wv rfl (r_adds rfl rfl hg321) <| xgs hx fun hg323 hx => wv rfl (r_adds rfl rfl hg323) <| was rfl rfl <| wl_sq <| wc_seq ?_
 refine wc_sr <| wv rfl (r_fld u40 rfl rfl sz26 rfl) <| wv rfl (r_ldB u26 rfl rfl hM m0 rfl) <| wv rfl (r_lenC u26 rfl (hM.seeR m2)) <| wmv rfl rfl <| wl_sq <| wc_block <| bs hx fun y329 hx hx330 => ?_
 have hM := hM.fewer (rsC m4 (rsC m3 (rsC m2 (rsC m1 (rsC m0 rsN)))))
 replace hM : St ⟨w, X, S⟩ [oBox b304 #[(bv w_.h.shut), s_w__1.v, s_w__2.v, (iv w_.h.last), s_w__4.v, s_w__5.v, s_w__6.v, (iv w_.step)] 40] [rV s_w__1.v (cSl 5 fDDoc w_.h.docs), rV s_w__2.v (cSl 6 fDSub w_.h.subs), rV s_w__4.v (cSl 1 fI w_.locks), rV s_w__5.v (cSl 2 fDQueue w_.queues), rV s_w__6.v (cSl 15 fDTask w_.tasks)] _ := hM
 have hl335 := Cs.le (hM.seeR m2)
 refine wc_loop (un fun (m332 : Nat) => un fun (k333 : Nat) => fun (s331 : ByteArray) => [(1, (pt b304 0)), (3, (.string s331)), (21, s_w__4.v), (22, (iv (w_.locks.length : Int))), (23, (iv (k333 : Int)))]) (un fun (m332 : Nat) => un fun (k333 : Nat) => fun (s331 : ByteArray) w' => St ⟨w, X, S⟩ [oBox b304 #[(bv w_.h.shut), s_w__1.v, s_w__2.v, (iv w_.h.last), s_w__4.v, s_w__5.v, s_w__6.v, (iv w_.step)] 40] [rV s_w__1.v (cSl 5 fDDoc w_.h.docs), rV s_w__2.v (cSl 6 fDSub w_.h.subs), rV s_w__4.v (cSl 1 fI w_.locks), rV s_w__5.v (cSl 2 fDQueue w_.queues), rV s_w__6.v (cSl 15 fDTask w_.tasks)] w' ∧ eachN _ _ m332 k333 s331 = some y329 ∧ k333 + m332 = w_.locks.length) (fun p => p.1) (w_.locks.length, 0, ((⟨#[115, 116, 101, 112, 32]⟩ : ByteArray) ++ r317) ++ (⟨#[10]⟩ : ByteArray)) ⟨rfl, rfl, rfl, rfl, rfl, trivial⟩ ⟨hM, hx, Nat.zero_add _⟩ ?_
 rintro ⟨m332, k333, s331⟩ w336 ⟨hM, hx, hk334⟩
 refine wc_sr <| wv rfl (r_lss rfl rfl) <| wl_sq <| wc_seq ?_
 refine wc_cond rfl (fun hc338 => ?_) (fun hc338 => ?_)
 replace hc338 := of_decide_eq_true hc338
 obtain ⟨m339, z340, rfl, hk334, hx, hx341⟩ := eachN_step hx hk334 hc338
 unfold x_spec_WorldText_f0 x_spec_WorldText_b0 at hx
 try dsimp only at hx
 refine wc_skip <| sq_n <| wc_seq <| wc_block <| wc_sr ?_
 have hi343 : k333 < w_.locks.length := by omega
 refine wv rfl (r_ixC u26 sz3 rfl rfl (hM.seeR m2) ⟨by omega, hc338⟩) <| wv rfl (r_ld u3 rfl rfl (Cs.get (i := k333) (j := 0) (hM.seeR m2) (fun _ => rfl) hi343 rfl)) <| was rfl rfl <| wl_sq <| wc_sr <| wmv rfl rfl <| wv rfl (r_eql rfl rfl) <| wl_sq ?_
 refine wcx hx rfl (fun hx => ?_) (fun hx => ?_)
 refine wc_region <| wmv rfl rfl <| xgs hx fun hg351 hx => wv rfl (r_adds rfl rfl hg351) <| was rfl rfl <| wl_nil <| bk_n <| sq_n <| wc_region <| wv rfl (r_add rfl rfl ⟨by omega, by omega⟩) <| wmv rfl rfl <| wl_nil ?_
 cases hx
 exact lp_end (m339, k333 + 1, s331 ++ (⟨#[108, 111, 99, 107, 32, 45, 10]⟩ : ByteArray)) (Nat.lt_succ_self _) ⟨rfl, rfl, rfl, rfl, rfl, trivial⟩ ⟨hM, hx341, hk334⟩
 refine wc_region <| wmv rfl rfl <| xgs hx fun hg357 hx => wv rfl (r_adds rfl rfl hg357) <| wmv rfl rfl <| bs hx fun r359 h360 hx => w_cv hM rfl rfl (fun X S oL hS hR hO => ct_spec_NumText _ X S (el w_.locks k333) hS  oL h360) fun _ hM => xgs hx fun hg363 hx => wv rfl (r_adds rfl rfl hg363) <| xgs hx fun hg365 hx => wv rfl (r_adds rfl rfl hg365) <| was rfl rfl <| wl_nil <| bk_n ?_
 refine sq_n <| wc_region <| wv rfl (r_add rfl rfl ⟨by omega, by omega⟩) <| wmv rfl rfl <| wl_nil ?_
 cases hx
 exact lp_end (m339, k333 + 1, ((s331 ++ (⟨#[108, 111, 99, 107, 32]⟩ : ByteArray)) ++ r359) ++ (⟨#[10]⟩ : ByteArray)) (Nat.lt_succ_self _) ⟨rfl, rfl, rfl, rfl, rfl, trivial⟩ ⟨hM, hx341, hk334⟩
 replace hc338 := of_decide_eq_false hc338
 obtain rfl := eachN_end hx hk334 hc338
 refine wc_exit <| sq_exit <| lp1_exit ?_
 replace hx := hx330
 refine bk_here <| sq_n <| wc_seq <| wc_sr <| wv rfl (r_fld u40 rfl rfl sz37 rfl) <| wv rfl (r_ldB u37 rfl rfl hM m0 rfl) <| wv rfl (r_lenC u37 rfl (hM.seeR m3)) <| wmv rfl rfl <| wl_sq <| wc_block <| bs hx fun y373 hx hx374 => ?_
 have hl379 := Cs.le (hM.seeR m3)
 refine wc_loop (un fun (m376 : Nat) => un fun (k377 : Nat) => fun (s375 : ByteArray) => [(1, (pt b304 0)), (3, (.string s375)), (39, s_w__5.v), (40, (iv (w_.queues.length : Int))), (41, (iv (k377 : Int)))]) (un fun (m376 : Nat) => un fun (k377 : Nat) => fun (s375 : ByteArray) w' => St ⟨w, X, S⟩ [oBox b304 #[(bv w_.h.shut), s_w__1.v, s_w__2.v, (iv w_.h.last), s_w__4.v, s_w__5.v, s_w__6.v, (iv w_.step)] 40] [rV s_w__1.v (cSl 5 fDDoc w_.h.docs), rV s_w__2.v (cSl 6 fDSub w_.h.subs), rV s_w__4.v (cSl 1 fI w_.locks), rV s_w__5.v (cSl 2 fDQueue w_.queues), rV s_w__6.v (cSl 15 fDTask w_.tasks)] w' ∧ eachN _ _ m376 k377 s375 = some y373 ∧ k377 + m376 = w_.queues.length) (fun p => p.1) (w_.queues.length, 0, s331) ⟨rfl, rfl, rfl, rfl, rfl, trivial⟩ ⟨hM, hx, Nat.zero_add _⟩ ?_
 rintro ⟨m376, k377, s375⟩ w380 ⟨hM, hx, hk378⟩
 refine wc_sr <| wv rfl (r_lss rfl rfl) <| wl_sq <| wc_seq ?_
 refine wc_cond rfl (fun hc382 => ?_) (fun hc382 => ?_)
 replace hc382 := of_decide_eq_true hc382
 obtain ⟨m383, z384, rfl, hk378, hx, hx385⟩ := eachN_step hx hk378 hc382
 unfold x_spec_WorldText_f1 x_spec_WorldText_b1 at hx
 try dsimp only at hx
 refine wc_skip <| sq_n <| wc_seq <| wc_block <| wc_sr ?_
 have hi387 : k377 < w_.queues.length := by omega
 refine wv rfl (r_ixC u37 sz56 rfl rfl (hM.seeR m3) ⟨by omega, hc382⟩) ?_
 obtain ⟨s389, hM, hc390⟩ := hM.leaf (i := k377) (j := 1) m3 (fun _ => rfl) hi387 rfl
 refine wv rfl (r_ldC (o := k377 * 2) u56 sz56 rfl (us := [(.string ((el w_.queues k377).doc)), s389.v]) rfl (hM.seeR m4) hi387 ⟨(Cs.get (i := k377) (j := 0) (hM.seeR m4) (fun _ => rfl) hi387 rfl), (hc390 _ (Rel.refl _)), trivial⟩) ?_
 refine w_ex rfl (x_alloc sz56 hM ?_); intro b392 w391 hR393 hM
 refine w_exu (x_stB #[(.string ((el w_.queues k377).doc)), s389.v] sz56 rfl rfl rfl rfl rfl rfl hM ?_); intro w395 hM
 refine wl_sq <| wc_sr <| wmv rfl rfl <| xgs hx fun hg399 hx => wv rfl (r_adds rfl rfl hg399) <| wv rfl (r_fld u56 rfl rfl sz9 rfl) <| wv rfl (r_ldB u9 rfl rfl hM m0 rfl) <| xgs hx fun hg403 hx => wv rfl (r_adds rfl rfl hg403) <| was rfl rfl <| wl_sq <| wc_seq <| wc_sr <| wv rfl (r_fld u56 rfl rfl sz26 rfl) ?_
 refine wv rfl (r_ldB u26 rfl rfl hM m0 rfl) <| wv rfl (r_lenC u26 rfl (hM.seeR m0)) <| wmv rfl rfl <| wl_sq <| wc_block <| bs hx fun y409 hx hx410 => ?_
 replace hM := hM.p1
 replace hM := hM.t1
 have hM := hM.fewer (rsC m1 (rsC m2 (rsC m3 (rsC m4 (rsC m5 (rsC m0 rsN))))))
 replace hM : St ⟨w, X, S⟩ [oBox b304 #[(bv w_.h.shut), s_w__1.v, s_w__2.v, (iv w_.h.last), s_w__4.v, s_w__5.v, s_w__6.v, (iv w_.step)] 40] [rV s_w__1.v (cSl 5 fDDoc w_.h.docs), rV s_w__2.v (cSl 6 fDSub w_.h.subs), rV s_w__4.v (cSl 1 fI w_.locks), rV s_w__5.v (cSl 2 fDQueue w_.queues), rV s_w__6.v (cSl 15 fDTask w_.tasks), rV s389.v (cSl 1 fI ((el w_.queues k377).list))] _ := hM
 have hl415 := Cs.le (hM.seeR m5)
 refine wc_loop (un fun (m412 : Nat) => un fun (k413 : Nat) => fun (s411 : ByteArray) => [(1, (pt b304 0)), (3, (.string s411)), (39, s_w__5.v), (40, (iv (w_.queues.length : Int))), (41, (iv (k377 : Int))), (51, s389.v), (52, (iv (((el w_.queues k377).list).length : Int))), (53, (iv (k413 : Int)))]) (un fun (m412 : Nat) => un fun (k413 : Nat) => fun (s411 : ByteArray) w' => St ⟨w, X, S⟩ [oBox b304 #[(bv w_.h.shut), s_w__1.v, s_w__2.v, (iv w_.h.last), s_w__4.v, s_w__5.v, s_w__6.v, (iv w_.step)] 40] [rV s_w__1.v (cSl 5 fDDoc w_.h.docs), rV s_w__2.v (cSl 6 fDSub w_.h.subs), rV s_w__4.v (cSl 1 fI w_.locks), rV s_w__5.v (cSl 2 fDQueue w_.queues), rV s_w__6.v (cSl 15 fDTask w_.tasks), rV s389.v (cSl 1 fI ((el w_.queues k377).list))] w' ∧ eachN _ _ m412 k413 s411 = some y409 ∧ k413 + m412 = ((el w_.queues k377).list).length) (fun p => p.1) (((el w_.queues k377).list).length, 0, (s375 ++ (⟨#[113, 117, 101, 117, 101, 32]⟩ : ByteArray)) ++ ((el w_.queues k377).doc)) ⟨rfl, rfl, rfl, rfl, rfl, rfl, rfl, rfl, trivial⟩ ⟨hM, hx, Nat.zero_add _⟩ ?_
 rintro ⟨m412, k413, s411⟩ w416 ⟨hM, hx, hk414⟩
 refine wc_sr <| wv rfl (r_lss rfl rfl) <| wl_sq <| wc_seq ?_
 refine wc_cond rfl (fun hc418 => ?_) (fun hc418 => ?_)
 replace hc418 := of_decide_eq_true hc418
 obtain ⟨m419, z420, rfl, hk414, hx, hx421⟩ := eachN_step hx hk414 hc418
 unfold x_spec_WorldText_f2 x_spec_WorldText_b2 at hx
 try dsimp only at hx
 refine wc_skip <| sq_n <| wc_seq <| wc_block <| wc_sr ?_
 have hi423 : k413 < ((el w_.queues k377).list).length := by omega
 refine wv rfl (r_ixC u26 sz3 rfl rfl (hM.seeR m5) ⟨by omega, hc418⟩) <| wv rfl (r_ld u3 rfl rfl (Cs.get (i := k413) (j := 0) (hM.seeR m5) (fun _ => rfl) hi423 rfl)) <| was rfl rfl <| wl_sq <| wc_region <| wmv rfl rfl <| xgs hx fun hg428 hx => wv rfl (r_adds rfl rfl hg428) <| wmv rfl rfl <| bs hx fun r430 h431 hx => w_cv hM rfl rfl (fun X S oL hS hR hO => ct_spec_NumText _ X S (el ((el w_.queues k377).list) k413) hS  oL h431) fun _ hM => xgs hx fun hg434 hx => wv rfl (r_adds rfl rfl hg434) <| was rfl rfl ?_
 refine wl_nil <| bk_n <| sq_n <| wc_region <| wv rfl (r_add rfl rfl ⟨by omega, by omega⟩) <| wmv rfl rfl <| wl_nil ?_
 cases hx
 exact lp_end (m419, k413 + 1, (s411 ++ (⟨#[32]⟩ : ByteArray)) ++ r430) (Nat.lt_succ_self _) ⟨rfl, rfl, rfl, rfl, rfl, rfl, rfl, rfl, trivial⟩ ⟨hM, hx421, hk414⟩
 replace hc418 := of_decide_eq_false hc418
 obtain rfl := eachN_end hx hk414 hc418
 refine wc_exit <| sq_exit <| lp1_exit ?_
 replace hx := hx410
 refine bk_here <| sq_n <| wc_region <| wmv rfl rfl <| xgs hx fun hg440 hx => wv rfl (r_adds rfl rfl hg440) <| was rfl rfl <| wl_nil <| bk_n <| sq_n <| wc_region <| wv rfl (r_add rfl rfl ⟨by omega, by omega⟩) <| wmv rfl rfl <| wl_nil ?_
 cases hx
 have hM := hM.fewer (rsC m0 (rsC m1 (rsC m2 (rsC m3 (rsC m4 rsN)))))
 replace hM : St ⟨w, X, S⟩ [oBox b304 #[(bv w_.h.shut), s_w__1.v, s_w__2.v, (iv w_.h.last), s_w__4.v, s_w__5.v, s_w__6.v, (iv w_.step)] 40] [rV s_w__1.v (cSl 5 fDDoc w_.h.docs), rV s_w__2.v (cSl 6 fDSub w_.h.subs), rV s_w__4.v (cSl 1 fI w_.locks), rV s_w__5.v (cSl 2 fDQueue w_.queues), rV s_w__6.v (cSl 15 fDTask w_.tasks)] _ := hM
 exact lp_end (m383, k377 + 1, s411 ++ (⟨#[10]⟩ : ByteArray)) (Nat.lt_succ_self _) ⟨rfl, rfl, rfl, rfl, rfl, trivial⟩ ⟨hM, hx385, hk378⟩
 replace hc382 := of_decide_eq_false hc382
 obtain rfl := eachN_end hx hk378 hc382
 refine wc_exit <| sq_exit <| lp1_exit ?_
 replace hx := hx374
 refine bk_here <| sq_n <| wc_seq <| wc_sr <| wv rfl (r_fld u40 rfl rfl sz38 rfl) <| wv rfl (r_ldB u38 rfl rfl hM m0 rfl) <| wv rfl (r_lenC u38 rfl (hM.seeR m4)) <| wmv rfl rfl <| wl_sq <| wc_block <| bs hx fun y448 hx hx449 => ?_
 replace hM := hM.t0
 have hM := hM.fewer (rsC m4 rsN)
 replace hM : St ⟨w, X, S⟩ [] [rV s_w__6.v (cSl 15 fDTask w_.tasks)] _ := hM
 have hl454 := Cs.le (hM.seeR m0)
 refine wc_loop (un fun (m451 : Nat) => un fun (k452 : Nat) => fun (s450 : ByteArray) => [(3, (.string s450)), (67, s_w__6.v), (68, (iv (w_.tasks.length : Int))), (69, (iv (k452 : Int)))]) (un fun (m451 : Nat) => un fun (k452 : Nat) => fun (s450 : ByteArray) w' => St ⟨w, X, S⟩ [] [rV s_w__6.v (cSl 15 fDTask w_.tasks)] w' ∧ eachN _ _ m451 k452 s450 = some y448 ∧ k452 + m451 = w_.tasks.length) (fun p => p.1) (w_.tasks.length, 0, s375) ⟨rfl, rfl, rfl, rfl, trivial⟩ ⟨hM, hx, Nat.zero_add _⟩ ?_
 rintro ⟨m451, k452, s450⟩ w455 ⟨hM, hx, hk453⟩
 refine wc_sr <| wv rfl (r_lss rfl rfl) <| wl_sq <| wc_seq ?_
 refine wc_cond rfl (fun hc457 => ?_) (fun hc457 => ?_)
 replace hc457 := of_decide_eq_true hc457
 obtain ⟨m458, z459, rfl, hk453, hx, hx460⟩ := eachN_step hx hk453 hc457
 unfold x_spec_WorldText_f3 x_spec_WorldText_b3 at hx
 try dsimp only at hx
 refine wc_skip <| sq_n <| wc_seq <| wc_block <| wc_sr ?_
 have hi462 : k452 < w_.tasks.length := by omega
 refine wv rfl (r_ixC u38 sz64 rfl rfl (hM.seeR m0) ⟨by omega, hc457⟩) ?_
 obtain ⟨s464, hM, hc465⟩ := hM.leaf (i := k452) (j := 5) m0 (fun _ => rfl) hi462 rfl
 obtain ⟨s466, hM, hc467⟩ := hM.leaf (i := k452) (j := 6) m1 (fun _ => rfl) hi462 rfl
 obtain ⟨s468, hM, hc469⟩ := hM.leaf (i := k452) (j := 13) m2 (fun _ => rfl) hi462 rfl
 obtain ⟨s470, hM, hc471⟩ := hM.leaf (i := k452) (j := 14) m3 (fun _ => rfl) hi462 rfl
 refine wv rfl (r_ldC (o := k452 * 15) u64 sz64 rfl (us := [(iv ((el w_.tasks k452).c.kind)), (.string ((el w_.tasks k452).c.doc)), (iv ((el w_.tasks k452).c.client)), (iv ((el w_.tasks k452).c.seq)), (iv ((el w_.tasks k452).c.n)), s464.v, s466.v, (iv ((el w_.tasks k452).pc)), (iv ((el w_.tasks k452).inv)), (iv ((el w_.tasks k452).lin)), (iv ((el w_.tasks k452).res)), (iv ((el w_.tasks k452).a.code)), (iv ((el w_.tasks k452).a.rev)), s468.v, s470.v]) rfl (hM.seeR m4) hi462 ⟨(Cs.get (i := k452) (j := 0) (hM.seeR m4) (fun _ => rfl) hi462 rfl), (Cs.get (i := k452) (j := 1) (hM.seeR m4) (fun _ => rfl) hi462 rfl), (Cs.get (i := k452) (j := 2) (hM.seeR m4) (fun _ => rfl) hi462 rfl), (Cs.get (i := k452) (j := 3) (hM.seeR m4) (fun _ => rfl) hi462 rfl), (Cs.get (i := k452) (j := 4) (hM.seeR m4) (fun _ => rfl) hi462 rfl), (hc465 _ (Rel.refl _)), (hc467 _ (Rel.refl _)), (Cs.get (i := k452) (j := 7) (hM.seeR m4) (fun _ => rfl) hi462 rfl), (Cs.get (i := k452) (j := 8) (hM.seeR m4) (fun _ => rfl) hi462 rfl), (Cs.get (i := k452) (j := 9) (hM.seeR m4) (fun _ => rfl) hi462 rfl), (Cs.get (i := k452) (j := 10) (hM.seeR m4) (fun _ => rfl) hi462 rfl), (Cs.get (i := k452) (j := 11) (hM.seeR m4) (fun _ => rfl) hi462 rfl), (Cs.get (i := k452) (j := 12) (hM.seeR m4) (fun _ => rfl) hi462 rfl), (hc469 _ (Rel.refl _)), (hc471 _ (Rel.refl _)), trivial⟩) ?_
 refine w_ex rfl (x_alloc sz64 hM ?_); intro b473 w472 hR474 hM
 refine w_exu (x_stB #[(iv ((el w_.tasks k452).c.kind)), (.string ((el w_.tasks k452).c.doc)), (iv ((el w_.tasks k452).c.client)), (iv ((el w_.tasks k452).c.seq)), (iv ((el w_.tasks k452).c.n)), s464.v, s466.v, (iv ((el w_.tasks k452).pc)), (iv ((el w_.tasks k452).inv)), (iv ((el w_.tasks k452).lin)), (iv ((el w_.tasks k452).res)), (iv ((el w_.tasks k452).a.code)), (iv ((el w_.tasks k452).a.rev)), s468.v, s470.v] sz64 rfl rfl rfl rfl rfl rfl hM ?_); intro w476 hM
 refine wl_sq <| wc_region <| wmv rfl rfl <| wv rfl (r_ldBS u64 sz64 rfl (us := [(iv ((el w_.tasks k452).c.kind)), (.string ((el w_.tasks k452).c.doc)), (iv ((el w_.tasks k452).c.client)), (iv ((el w_.tasks k452).c.seq)), (iv ((el w_.tasks k452).c.n)), s464.v, s466.v, (iv ((el w_.tasks k452).pc)), (iv ((el w_.tasks k452).inv)), (iv ((el w_.tasks k452).lin)), (iv ((el w_.tasks k452).res)), (iv ((el w_.tasks k452).a.code)), (iv ((el w_.tasks k452).a.rev)), s468.v, s470.v]) rfl hM m0 rfl) <| bs hx fun r480 h481 hx => w_cv hM rfl rfl (fun X S oL hS hR hO => ct_spec_TaskText _ X S (el w_.tasks k452) s464 s466 s468 s470 hS (hR _ m3) (hR _ m2) (hR _ m1) (hR _ m0) oL h481) fun _ hM => xgs hx fun hg484 hx => wv rfl (r_adds rfl rfl hg484) <| xgs hx fun hg486 hx => wv rfl (r_adds rfl rfl hg486) <| was rfl rfl <| wl_nil <| bk_n <| sq_n ?_
 refine wc_region <| wv rfl (r_add rfl rfl ⟨by omega, by omega⟩) <| wmv rfl rfl <| wl_nil ?_
 cases hx
 replace hM := hM.t0
 have hM := hM.fewer (rsC m4 rsN)
 replace hM : St ⟨w, X, S⟩ [] [rV s_w__6.v (cSl 15 fDTask w_.tasks)] _ := hM
 exact lp_end (m458, k452 + 1, (s450 ++ r480) ++ (⟨#[10]⟩ : ByteArray)) (Nat.lt_succ_self _) ⟨rfl, rfl, rfl, rfl, trivial⟩ ⟨hM, hx460, hk453⟩
 replace hc457 := of_decide_eq_false hc457
 obtain rfl := eachN_end hx hk453 hc457
 refine wc_exit <| sq_exit <| lp1_exit ?_
 replace hx := hx449
 refine bk_here <| sq_n <| wc_sr <| wmv rfl rfl <| was rfl rfl <| wl_sq <| wc_ret ?_
 obtain rfl := oi hx
 exact fin_u [(.string s450)] hM ⟨rfl, trivial⟩ rfl

end Go.Proofs.YtjbonmmmcnpjiaaGreatDoor
