/- Walks of functions of this program (printed by a program of ours, by the rules of the layer). No condition. -/
import Derived.Test.YtjbonmmmcnpjiaaGreatDoorG9
import Derived.Test.YtjbonmmmcnpjiaaGreatDoorNw
namespace Go.Proofs.YtjbonmmmcnpjiaaGreatDoor
open Go.RowKit

noncomputable def x_impl_OnDoc (k : Int) : Option Bool :=
  Option.bind (x_impl_within k 1 5) fun r3 => some r3
theorem ct_impl_OnDoc (w : World) (X S : Bs) (k : Int) (hS : SX X S w)  (oL : Sep [] X w) {r : Bool} (hx : x_impl_OnDoc k = some r) :
 Ret Tryz.prog 83 [(iv k)] w (KV X S w (bv r)) := by
 unfold x_impl_OnDoc at hx
 refine enter Tryz.func83 rfl Tryz.ntmps83 (by kernel_rfl) rfl ?_
 have hM := St.enter oL hS
 refine wc_sr <| was rfl rfl <| wl_sq <| wc_sr <| wmv rfl rfl <| bs hx fun r9 h10 hx => w_cv hM rfl rfl (fun X S oL hS hR hO => ct_impl_within _ X S k (1 : Int) (5 : Int) hS  oL h10) fun _ hM => was rfl rfl <| wl_sq <| wc_ret ?_
 obtain rfl := oi hx
 exact fin_u [(bv r9)] hM ⟨rfl, trivial⟩ rfl

noncomputable def x_impl_used (c : DCall) : Option DCall :=
  Option.bind (x_impl_OnDoc c.kind) fun r20 => bif r20 then (bif decide (c.kind = 1) then (some (⟨c.kind, c.doc, 0, 0, 0, [], c.text⟩ : DCall)) else (bif decide (c.kind = 2) then (some (⟨c.kind, c.doc, c.client, c.seq, c.n, c.o, []⟩ : DCall)) else (bif decide (c.kind = 3) then (bif decide (c.kind = 3) then (some (⟨c.kind, c.doc, 0, 0, c.n, [], []⟩ : DCall)) else (bif decide (c.kind = 6) then (some (⟨c.kind, c.doc, c.client, 0, c.n, [], []⟩ : DCall)) else (bif decide (c.kind = 7) then (some (⟨c.kind, c.doc, c.client, 0, 0, [], []⟩ : DCall)) else (some (⟨c.kind, c.doc, 0, 0, 0, [], []⟩ : DCall))))) else (bif decide (c.kind = 5) then (some (⟨c.kind, c.doc, 0, 0, c.n, [], []⟩ : DCall)) else (bif decide (c.kind = 6) then (some (⟨c.kind, c.doc, c.client, 0, c.n, [], []⟩ : DCall)) else (bif decide (c.kind = 7) then (some (⟨c.kind, c.doc, c.client, 0, 0, [], []⟩ : DCall)) else (some (⟨c.kind, c.doc, 0, 0, 0, [], []⟩ : DCall)))))))) else (bif decide (c.kind = 1) then (some (⟨c.kind, ByteArray.empty, 0, 0, 0, [], c.text⟩ : DCall)) else (bif decide (c.kind = 2) then (some (⟨c.kind, ByteArray.empty, c.client, c.seq, c.n, c.o, []⟩ : DCall)) else (bif decide (c.kind = 3) then (bif decide (c.kind = 3) then (some (⟨c.kind, ByteArray.empty, 0, 0, c.n, [], []⟩ : DCall)) else (bif decide (c.kind = 6) then (some (⟨c.kind, ByteArray.empty, c.client, 0, c.n, [], []⟩ : DCall)) else (bif decide (c.kind = 7) then (some (⟨c.kind, ByteArray.empty, c.client, 0, 0, [], []⟩ : DCall)) else (some (⟨c.kind, ByteArray.empty, 0, 0, 0, [], []⟩ : DCall))))) else (bif decide (c.kind = 5) then (some (⟨c.kind, ByteArray.empty, 0, 0, c.n, [], []⟩ : DCall)) else (bif decide (c.kind = 6) then (some (⟨c.kind, ByteArray.empty, c.client, 0, c.n, [], []⟩ : DCall)) else (bif decide (c.kind = 7) then (some (⟨c.kind, ByteArray.empty, c.client, 0, 0, [], []⟩ : DCall)) else (some (⟨c.kind, ByteArray.empty, 0, 0, 0, [], []⟩ : DCall))))))))
theorem ct_impl_used (w : World) (X S : Bs) (c : DCall) (s_c_5 : Sv) (s_c_6 : Sv) (hS : SX X S w) (a_c_5 : (cSl 3 fDPart c.o).rd S w s_c_5.v) (a_c_6 : (cSl 1 fI c.text).rd S w s_c_6.v) (oL : Sep [] X w) {r : DCall} (hx : x_impl_used c = some r) :
 Ret Tryz.prog 128 [(.agg #[(iv c.kind), (.string c.doc), (iv c.client), (iv c.seq), (iv c.n), s_c_5.v, s_c_6.v])] w (fun u w' => ∃ y : Sv × Sv, u = .agg #[(iv r.kind), (.string r.doc), (iv r.client), (iv r.seq), (iv r.n), y.1.v, y.2.v] ∧ Gives X S w [] [rV y.1.v (cSl 3 fDPart r.o), rV y.2.v (cSl 1 fI r.text)] w') := by
 unfold x_impl_used at hx
 refine enter Tryz.func128 rfl Tryz.ntmps128 (by kernel_rfl) rfl ?_
 have hM := ((St.enter oL hS).addV a_c_5).addV a_c_6
 refine wc_sr ?_
 refine w_ex rfl (x_box rfl hM ?_); intro b287 w286 hR288 hM
 refine w_ex rfl (x_alloc sz59 hM ?_); intro b291 w290 hR292 hM
 refine wl_sq <| wc_sr <| wv rfl (r_fld u59 rfl rfl sz3 rfl) <| wv rfl (r_ldB u3 rfl rfl hM m1 rfl) <| wv rfl (r_build (cells := #[(iv c.kind), (.string ByteArray.empty), (iv 0), (iv 0), (iv 0), (.slice none 0 0), (.slice none 0 0)]) rfl (by kernel_rfl)) ?_
 refine w_ex rfl (x_alloc sz59 hM ?_); intro b298 w297 hR299 hM
 refine w_exu (x_stB #[(iv c.kind), (.string ByteArray.empty), (iv 0), (iv 0), (iv 0), (.slice none 0 0), (.slice none 0 0)] sz59 rfl rfl rfl rfl rfl rfl hM ?_); intro w301 hM
 refine wl_sq <| wc_seq <| wc_sr <| wv rfl (r_fld u59 rfl rfl sz3 rfl) <| wv rfl (r_ldB u3 rfl rfl hM m2 rfl) <| bs hx fun _ h306 hx => w_cv hM rfl rfl (fun X S oL hS hR hO => ct_impl_OnDoc _ X S c.kind hS  oL h306) fun _ hM => wl_sq ?_
 refine wcx hx rfl (fun hx => ?_) (fun hx => ?_)
 refine wc_region <| wv rfl (r_fld u59 rfl rfl sz9 rfl) <| wv rfl (r_ldB u9 rfl rfl hM m2 rfl) <| wv rfl (r_fld u59 rfl rfl sz9 rfl) ?_
 refine w_exu (x_stB #[(iv c.kind), (.string c.doc), (iv 0), (iv 0), (iv 0), (.slice none 0 0), (.slice none 0 0)] sz9 rfl rfl rfl rfl rfl rfl hM ?_); intro w312 hM
 refine wl_sq <| wc_seq <| wc_sr <| wv rfl (r_fld u59 rfl rfl sz3 rfl) <| wv rfl (r_ldB u3 rfl rfl hM m2 rfl) <| wl_sq <| wc_block <| wc_sr <| wv rfl (r_eql rfl rfl) <| was rfl rfl <| wl_sq ?_
 refine wcx hx rfl (fun hx => ?_) (fun hx => ?_)
 refine wc_region <| wv rfl (r_fld u59 rfl rfl sz26 rfl) <| wv rfl (r_ldB u26 rfl rfl hM m2 rfl) <| wv rfl (r_fld u59 rfl rfl sz26 rfl) ?_
 refine w_exu (x_stB #[(iv c.kind), (.string c.doc), (iv 0), (iv 0), (iv 0), (.slice none 0 0), s_c_6.v] sz26 rfl rfl rfl rfl rfl rfl hM ?_); intro w322 hM
 refine wl_nil <| bk_n <| sq_n <| wc_sr <| wv rfl (r_ldBS u59 sz59 rfl (us := [(iv c.kind), (.string c.doc), (iv 0), (iv 0), (iv 0), (.slice none 0 0), s_c_6.v]) rfl hM m0 rfl) ?_
 replace hM := hM.p1
 refine w_exu (x_stB #[(iv c.kind), (.string c.doc), (iv 0), (iv 0), (iv 0), (.slice none 0 0), s_c_6.v] sz59 rfl rfl rfl rfl rfl rfl hM ?_); intro w325 hM
 refine wl_sq <| wc_ret ?_
 obtain rfl := oi hx
 have hM := hM.nilR0 (T := DPart) 3 fDPart
 refine fin_ret [(.agg #[(iv c.kind), (.string c.doc), (iv 0), (iv 0), (iv 0), nS.v, s_c_6.v])] ⟨rv_box u59 sz59 rfl rfl hM m0, trivial⟩ ?_
 replace hM := hM.t0
 exact ⟨(nS, s_c_6), rfl, (hM.fewer (rsC m0 (rsC m1 rsN))).gives⟩
 refine wc_sr <| wv rfl (r_eql rfl rfl) <| was rfl rfl <| wl_sq ?_
 refine wcx hx rfl (fun hx => ?_) (fun hx => ?_)
 refine wc_mid (fun (u : Unit) => [(2, (pt b291 0)), (3, (pt b298 0))]) (fun (u : Unit) w' => St ⟨w, X, S⟩ [oBox b291 #[(iv 0), (.string ByteArray.empty), (iv 0), (iv 0), (iv 0), (.slice none 0 0), (.slice none 0 0)] 59, oBox b298 #[(iv c.kind), (.string c.doc), (iv c.client), (iv c.seq), (iv c.n), s_c_5.v, (.slice none 0 0)] 59] [rV s_c_5.v (cSl 3 fDPart c.o)] w') ?_ ?_
 refine wc_drawM (fun w' => ∃ m rs, St ⟨w, X, S⟩ m rs w' ∧ oBox b287 #[(iv c.kind), (.string c.doc), (iv c.client), (iv c.seq), (iv c.n), s_c_5.v, s_c_6.v] 59 ∈ m) Tryz_mixed <| wm_run [(0, 0), (1, 0), (8, 0)] 13 (fun _ h' => ⟨_, _, hM.call h', m2⟩) rfl rfl (by kernel_rfl) (by kernel_rfl) rfl <| ov rfl (fun w' h' => r_fld u59 rfl rfl sz3 rfl) <| ov rfl (fun w' h' => r_ldB u3 rfl rfl (hM.call h') m2 rfl) <| ov rfl (fun w' h' => r_fld u59 rfl rfl sz3 rfl) <| o_nilM hM fun _ hM => wm_free 2 12 rfl rfl (by kernel_rfl) (by kernel_rfl) rfl (fun _ _ => r_fld u59 rfl rfl sz3 rfl) <| wm_free 3 11 rfl rfl (by kernel_rfl) (by kernel_rfl) rfl (fun _ ⟨_, _, hM, q0⟩ => r_ldB u3 rfl rfl hM q0 rfl) <| wm_free 4 10 rfl rfl (by kernel_rfl) (by kernel_rfl) rfl (fun _ _ => r_fld u59 rfl rfl sz3 rfl) <| wm_free 5 9 rfl rfl (by kernel_rfl) (by kernel_rfl) rfl (fun _ ⟨_, _, hM, q0⟩ => r_ldB u3 rfl rfl hM q0 rfl) <| wm_free 6 8 rfl rfl (by kernel_rfl) (by kernel_rfl) rfl (fun _ _ => r_fld u59 rfl rfl sz57 rfl) <| wm_free 7 7 rfl rfl (by kernel_rfl) (by kernel_rfl) rfl (fun _ ⟨_, _, hM, q0⟩ => r_ldB u57 rfl rfl hM q0 rfl) <| wm_run [(9, 2), (10, 0)] 5 (fun _ h' => ⟨_, _, hM.call h', m2⟩) rfl rfl (by kernel_rfl) (by kernel_rfl) rfl <| o_exu fun _ h372 => ?_
 have hM := hM.call h372
 refine x_stB #[(iv c.kind), (.string c.doc), (iv c.client), (iv 0), (iv 0), (.slice none 0 0), (.slice none 0 0)] sz3 rfl rfl rfl rfl rfl rfl hM ?_; intro w369 hM
 refine ov rfl (fun w' h' => r_fld u59 rfl rfl sz3 rfl) <| o_nilM hM fun _ hM => wm_run [(11, 2), (12, 0)] 3 (fun _ h' => ⟨_, _, hM.call h', m2⟩) rfl rfl (by kernel_rfl) (by kernel_rfl) rfl <| o_exu fun _ h379 => ?_
 have hM := hM.call h379
 refine x_stB #[(iv c.kind), (.string c.doc), (iv c.client), (iv c.seq), (iv 0), (.slice none 0 0), (.slice none 0 0)] sz3 rfl rfl rfl rfl rfl rfl hM ?_; intro w376 hM
 refine ov rfl (fun w' h' => r_fld u59 rfl rfl sz3 rfl) <| o_nilM hM fun _ hM => wm_run [(13, 2), (14, 0)] 1 (fun _ h' => ⟨_, _, hM.call h', m2⟩) rfl rfl (by kernel_rfl) (by kernel_rfl) rfl <| o_exu fun _ h386 => ?_
 have hM := hM.call h386
 refine x_stB #[(iv c.kind), (.string c.doc), (iv c.client), (iv c.seq), (iv c.n), (.slice none 0 0), (.slice none 0 0)] sz3 rfl rfl rfl rfl rfl rfl hM ?_; intro w383 hM
 refine ov rfl (fun w' h' => r_fld u59 rfl rfl sz57 rfl) <| o_nilM hM fun _ hM => wm_run [(15, 2)] 0 (fun _ h' => ⟨_, _, hM.call h', m2⟩) rfl rfl (by kernel_rfl) (by kernel_rfl) rfl <| o_exu fun _ h393 => ?_
 have hM := hM.call h393
 refine x_stB #[(iv c.kind), (.string c.doc), (iv c.client), (iv c.seq), (iv c.n), s_c_5.v, (.slice none 0 0)] sz57 rfl rfl rfl rfl rfl rfl hM ?_; intro w390 hM
 refine o_nilM hM fun _ hM => wm_end (fun _ h' => ⟨_, _, hM.call h', m2⟩) (by kernel_rfl) fun _ hw397 => ?_
 have hM := hM.call hw397
 replace hM := hM.p1
 replace hM := hM.t2
 have hM := hM.fewer (rsC m1 rsN)
 replace hM : St ⟨w, X, S⟩ [oBox b291 #[(iv 0), (.string ByteArray.empty), (iv 0), (iv 0), (iv 0), (.slice none 0 0), (.slice none 0 0)] 59, oBox b298 #[(iv c.kind), (.string c.doc), (iv c.client), (iv c.seq), (iv c.n), s_c_5.v, (.slice none 0 0)] 59] [rV s_c_5.v (cSl 3 fDPart c.o)] _ := hM
 exact mid_c () ⟨rfl, rfl, trivial⟩ hM
 rintro u w398 hM
 refine bk_n <| sq_n <| wc_sr <| wv rfl (r_ldBS u59 sz59 rfl (us := [(iv c.kind), (.string c.doc), (iv c.client), (iv c.seq), (iv c.n), s_c_5.v, (.slice none 0 0)]) rfl hM m1 rfl) ?_
 refine w_exu (x_stB #[(iv c.kind), (.string c.doc), (iv c.client), (iv c.seq), (iv c.n), s_c_5.v, (.slice none 0 0)] sz59 rfl rfl rfl rfl rfl rfl hM ?_); intro w400 hM
 refine wl_sq <| wc_ret ?_
 obtain rfl := oi hx
 have hM := hM.nilR0 (T := Int) 1 fI
 refine fin_ret [(.agg #[(iv c.kind), (.string c.doc), (iv c.client), (iv c.seq), (iv c.n), s_c_5.v, nS.v])] ⟨rv_box u59 sz59 rfl rfl hM m0, trivial⟩ ?_
 replace hM := hM.t0
 exact ⟨(s_c_5, nS), rfl, (hM.fewer (rsC m1 (rsC m0 rsN))).gives⟩
 refine wc_seq <| wc_sr <| wv rfl (r_eql rfl rfl) <| was rfl rfl <| wl_sq ?_
 refine wcx hx rfl (fun hx => ?_) (fun hx => ?_)
 refine wc_skip <| sq_n ?_
 refine wcx hx rfl (fun hx => ?_) (fun hx => ?_)
 refine wc_region <| wv rfl (r_fld u59 rfl rfl sz3 rfl) <| wv rfl (r_ldB u3 rfl rfl hM m2 rfl) <| wv rfl (r_fld u59 rfl rfl sz3 rfl) ?_
 refine w_exu (x_stB #[(iv c.kind), (.string c.doc), (iv 0), (iv 0), (iv c.n), (.slice none 0 0), (.slice none 0 0)] sz3 rfl rfl rfl rfl rfl rfl hM ?_); intro w409 hM
 refine wl_nil <| bk_n <| sq_n <| wc_sr <| wv rfl (r_ldBS u59 sz59 rfl (us := [(iv c.kind), (.string c.doc), (iv 0), (iv 0), (iv c.n), (.slice none 0 0), (.slice none 0 0)]) rfl hM m0 rfl) ?_
 replace hM := hM.p1
 refine w_exu (x_stB #[(iv c.kind), (.string c.doc), (iv 0), (iv 0), (iv c.n), (.slice none 0 0), (.slice none 0 0)] sz59 rfl rfl rfl rfl rfl rfl hM ?_); intro w412 hM
 refine wl_sq <| wc_ret ?_
 obtain rfl := oi hx
 have hM := hM.nilR0 (T := DPart) 3 fDPart
 have hM := hM.nilR0 (T := Int) 1 fI
 refine fin_ret [(.agg #[(iv c.kind), (.string c.doc), (iv 0), (iv 0), (iv c.n), nS.v, nS.v])] ⟨rv_box u59 sz59 rfl rfl hM m0, trivial⟩ ?_
 replace hM := hM.t0
 exact ⟨(nS, nS), rfl, (hM.fewer (rsC m1 (rsC m0 rsN))).gives⟩
 refine wc_sr <| wv rfl (r_eql rfl rfl) <| was rfl rfl <| wl_sq ?_
 refine wcx hx rfl (fun hx => ?_) (fun hx => ?_)
 refine wc_mid (fun (u : Unit) => [(2, (pt b291 0)), (3, (pt b298 0))]) (fun (u : Unit) w' => St ⟨w, X, S⟩ [oBox b291 #[(iv 0), (.string ByteArray.empty), (iv 0), (iv 0), (iv 0), (.slice none 0 0), (.slice none 0 0)] 59, oBox b298 #[(iv c.kind), (.string c.doc), (iv c.client), (iv 0), (iv c.n), (.slice none 0 0), (.slice none 0 0)] 59] [] w') ?_ ?_
 refine wc_drawM (fun w' => ∃ m rs, St ⟨w, X, S⟩ m rs w' ∧ oBox b287 #[(iv c.kind), (.string c.doc), (iv c.client), (iv c.seq), (iv c.n), s_c_5.v, s_c_6.v] 59 ∈ m) Tryz_mixed <| wm_run [(0, 0), (1, 0), (4, 0)] 5 (fun _ h' => ⟨_, _, hM.call h', m2⟩) rfl rfl (by kernel_rfl) (by kernel_rfl) rfl <| ov rfl (fun w' h' => r_fld u59 rfl rfl sz3 rfl) <| ov rfl (fun w' h' => r_ldB u3 rfl rfl (hM.call h') m2 rfl) <| ov rfl (fun w' h' => r_fld u59 rfl rfl sz3 rfl) <| o_nilM hM fun _ hM => wm_free 2 4 rfl rfl (by kernel_rfl) (by kernel_rfl) rfl (fun _ _ => r_fld u59 rfl rfl sz3 rfl) <| wm_free 3 3 rfl rfl (by kernel_rfl) (by kernel_rfl) rfl (fun _ ⟨_, _, hM, q0⟩ => r_ldB u3 rfl rfl hM q0 rfl) <| wm_run [(5, 2), (6, 0)] 1 (fun _ h' => ⟨_, _, hM.call h', m2⟩) rfl rfl (by kernel_rfl) (by kernel_rfl) rfl <| o_exu fun _ h441 => ?_
 have hM := hM.call h441
 refine x_stB #[(iv c.kind), (.string c.doc), (iv c.client), (iv 0), (iv 0), (.slice none 0 0), (.slice none 0 0)] sz3 rfl rfl rfl rfl rfl rfl hM ?_; intro w438 hM
 refine ov rfl (fun w' h' => r_fld u59 rfl rfl sz3 rfl) <| o_nilM hM fun _ hM => wm_run [(7, 2)] 0 (fun _ h' => ⟨_, _, hM.call h', m2⟩) rfl rfl (by kernel_rfl) (by kernel_rfl) rfl <| o_exu fun _ h448 => ?_
 have hM := hM.call h448
 refine x_stB #[(iv c.kind), (.string c.doc), (iv c.client), (iv 0), (iv c.n), (.slice none 0 0), (.slice none 0 0)] sz3 rfl rfl rfl rfl rfl rfl hM ?_; intro w445 hM
 refine o_nilM hM fun _ hM => wm_end (fun _ h' => ⟨_, _, hM.call h', m2⟩) (by kernel_rfl) fun _ hw452 => ?_
 have hM := hM.call hw452
 replace hM := hM.p1
 replace hM := hM.t2
 have hM := hM.fewer rsN
 replace hM : St ⟨w, X, S⟩ [oBox b291 #[(iv 0), (.string ByteArray.empty), (iv 0), (iv 0), (iv 0), (.slice none 0 0), (.slice none 0 0)] 59, oBox b298 #[(iv c.kind), (.string c.doc), (iv c.client), (iv 0), (iv c.n), (.slice none 0 0), (.slice none 0 0)] 59] [] _ := hM
 exact mid_c () ⟨rfl, rfl, trivial⟩ hM
 rintro u w453 hM
 refine bk_n <| sq_n <| wc_sr <| wv rfl (r_ldBS u59 sz59 rfl (us := [(iv c.kind), (.string c.doc), (iv c.client), (iv 0), (iv c.n), (.slice none 0 0), (.slice none 0 0)]) rfl hM m1 rfl) ?_
 refine w_exu (x_stB #[(iv c.kind), (.string c.doc), (iv c.client), (iv 0), (iv c.n), (.slice none 0 0), (.slice none 0 0)] sz59 rfl rfl rfl rfl rfl rfl hM ?_); intro w455 hM
 refine wl_sq <| wc_ret ?_
 obtain rfl := oi hx
 have hM := hM.nilR0 (T := DPart) 3 fDPart
 have hM := hM.nilR0 (T := Int) 1 fI
 refine fin_ret [(.agg #[(iv c.kind), (.string c.doc), (iv c.client), (iv 0), (iv c.n), nS.v, nS.v])] ⟨rv_box u59 sz59 rfl rfl hM m0, trivial⟩ ?_
 replace hM := hM.t0
 exact ⟨(nS, nS), rfl, (hM.fewer (rsC m1 (rsC m0 rsN))).gives⟩
 refine wc_sr <| wv rfl (r_eql rfl rfl) <| was rfl rfl <| wl_sq ?_
 refine wcx hx rfl (fun hx => ?_) (fun hx => ?_)
 refine wc_region <| wv rfl (r_fld u59 rfl rfl sz3 rfl) <| wv rfl (r_ldB u3 rfl rfl hM m2 rfl) <| wv rfl (r_fld u59 rfl rfl sz3 rfl) ?_
 refine w_exu (x_stB #[(iv c.kind), (.string c.doc), (iv c.client), (iv 0), (iv 0), (.slice none 0 0), (.slice none 0 0)] sz3 rfl rfl rfl rfl rfl rfl hM ?_); intro w463 hM
 refine wl_nil <| bk_n <| sq_n <| wc_sr <| wv rfl (r_ldBS u59 sz59 rfl (us := [(iv c.kind), (.string c.doc), (iv c.client), (iv 0), (iv 0), (.slice none 0 0), (.slice none 0 0)]) rfl hM m0 rfl) ?_
 replace hM := hM.p1
 refine w_exu (x_stB #[(iv c.kind), (.string c.doc), (iv c.client), (iv 0), (iv 0), (.slice none 0 0), (.slice none 0 0)] sz59 rfl rfl rfl rfl rfl rfl hM ?_); intro w466 hM
 refine wl_sq <| wc_ret ?_
 obtain rfl := oi hx
 have hM := hM.nilR0 (T := DPart) 3 fDPart
 have hM := hM.nilR0 (T := Int) 1 fI
 refine fin_ret [(.agg #[(iv c.kind), (.string c.doc), (iv c.client), (iv 0), (iv 0), nS.v, nS.v])] ⟨rv_box u59 sz59 rfl rfl hM m0, trivial⟩ ?_
 replace hM := hM.t0
 exact ⟨(nS, nS), rfl, (hM.fewer (rsC m1 (rsC m0 rsN))).gives⟩
 refine wc_skip <| bk_n <| sq_n <| wc_sr <| wv rfl (r_ldBS u59 sz59 rfl (us := [(iv c.kind), (.string c.doc), (iv 0), (iv 0), (iv 0), (.slice none 0 0), (.slice none 0 0)]) rfl hM m0 rfl) ?_
 replace hM := hM.p1
 refine w_exu (x_stB #[(iv c.kind), (.string c.doc), (iv 0), (iv 0), (iv 0), (.slice none 0 0), (.slice none 0 0)] sz59 rfl rfl rfl rfl rfl rfl hM ?_); intro w469 hM
 refine wl_sq <| wc_ret ?_
 obtain rfl := oi hx
 have hM := hM.nilR0 (T := DPart) 3 fDPart
 have hM := hM.nilR0 (T := Int) 1 fI
 refine fin_ret [(.agg #[(iv c.kind), (.string c.doc), (iv 0), (iv 0), (iv 0), nS.v, nS.v])] ⟨rv_box u59 sz59 rfl rfl hM m0, trivial⟩ ?_
 replace hM := hM.t0
 exact ⟨(nS, nS), rfl, (hM.fewer (rsC m1 (rsC m0 rsN))).gives⟩
 refine wc_region <| wv rfl (r_eql rfl rfl) <| was rfl rfl <| wl_sq ?_
 refine wcx hx rfl (fun hx => ?_) (fun hx => ?_)
 refine wc_region <| wv rfl (r_fld u59 rfl rfl sz3 rfl) <| wv rfl (r_ldB u3 rfl rfl hM m2 rfl) <| wv rfl (r_fld u59 rfl rfl sz3 rfl) ?_
 refine w_exu (x_stB #[(iv c.kind), (.string c.doc), (iv 0), (iv 0), (iv c.n), (.slice none 0 0), (.slice none 0 0)] sz3 rfl rfl rfl rfl rfl rfl hM ?_); intro w477 hM
 refine wl_nil <| bk_n <| sq_n <| wc_sr <| wv rfl (r_ldBS u59 sz59 rfl (us := [(iv c.kind), (.string c.doc), (iv 0), (iv 0), (iv c.n), (.slice none 0 0), (.slice none 0 0)]) rfl hM m0 rfl) ?_
 replace hM := hM.p1
 refine w_exu (x_stB #[(iv c.kind), (.string c.doc), (iv 0), (iv 0), (iv c.n), (.slice none 0 0), (.slice none 0 0)] sz59 rfl rfl rfl rfl rfl rfl hM ?_); intro w480 hM
 refine wl_sq <| wc_ret ?_
 obtain rfl := oi hx
 have hM := hM.nilR0 (T := DPart) 3 fDPart
 have hM := hM.nilR0 (T := Int) 1 fI
 refine fin_ret [(.agg #[(iv c.kind), (.string c.doc), (iv 0), (iv 0), (iv c.n), nS.v, nS.v])] ⟨rv_box u59 sz59 rfl rfl hM m0, trivial⟩ ?_
 replace hM := hM.t0
 exact ⟨(nS, nS), rfl, (hM.fewer (rsC m1 (rsC m0 rsN))).gives⟩
 refine wc_sr <| wv rfl (r_eql rfl rfl) <| was rfl rfl <| wl_sq ?_
 refine wcx hx rfl (fun hx => ?_) (fun hx => ?_)
 refine wc_mid (fun (u : Unit) => [(2, (pt b291 0)), (3, (pt b298 0))]) (fun (u : Unit) w' => St ⟨w, X, S⟩ [oBox b291 #[(iv 0), (.string ByteArray.empty), (iv 0), (iv 0), (iv 0), (.slice none 0 0), (.slice none 0 0)] 59, oBox b298 #[(iv c.kind), (.string c.doc), (iv c.client), (iv 0), (iv c.n), (.slice none 0 0), (.slice none 0 0)] 59] [] w') ?_ ?_
 refine wc_drawM (fun w' => ∃ m rs, St ⟨w, X, S⟩ m rs w' ∧ oBox b287 #[(iv c.kind), (.string c.doc), (iv c.client), (iv c.seq), (iv c.n), s_c_5.v, s_c_6.v] 59 ∈ m) Tryz_mixed <| wm_run [(0, 0), (1, 0), (4, 0)] 5 (fun _ h' => ⟨_, _, hM.call h', m2⟩) rfl rfl (by kernel_rfl) (by kernel_rfl) rfl <| ov rfl (fun w' h' => r_fld u59 rfl rfl sz3 rfl) <| ov rfl (fun w' h' => r_ldB u3 rfl rfl (hM.call h') m2 rfl) <| ov rfl (fun w' h' => r_fld u59 rfl rfl sz3 rfl) <| o_nilM hM fun _ hM => wm_free 2 4 rfl rfl (by kernel_rfl) (by kernel_rfl) rfl (fun _ _ => r_fld u59 rfl rfl sz3 rfl) <| wm_free 3 3 rfl rfl (by kernel_rfl) (by kernel_rfl) rfl (fun _ ⟨_, _, hM, q0⟩ => r_ldB u3 rfl rfl hM q0 rfl) <| wm_run [(5, 2), (6, 0)] 1 (fun _ h' => ⟨_, _, hM.call h', m2⟩) rfl rfl (by kernel_rfl) (by kernel_rfl) rfl <| o_exu fun _ h509 => ?_
 have hM := hM.call h509
 refine x_stB #[(iv c.kind), (.string c.doc), (iv c.client), (iv 0), (iv 0), (.slice none 0 0), (.slice none 0 0)] sz3 rfl rfl rfl rfl rfl rfl hM ?_; intro w506 hM
 refine ov rfl (fun w' h' => r_fld u59 rfl rfl sz3 rfl) <| o_nilM hM fun _ hM => wm_run [(7, 2)] 0 (fun _ h' => ⟨_, _, hM.call h', m2⟩) rfl rfl (by kernel_rfl) (by kernel_rfl) rfl <| o_exu fun _ h516 => ?_
 have hM := hM.call h516
 refine x_stB #[(iv c.kind), (.string c.doc), (iv c.client), (iv 0), (iv c.n), (.slice none 0 0), (.slice none 0 0)] sz3 rfl rfl rfl rfl rfl rfl hM ?_; intro w513 hM
 refine o_nilM hM fun _ hM => wm_end (fun _ h' => ⟨_, _, hM.call h', m2⟩) (by kernel_rfl) fun _ hw520 => ?_
 have hM := hM.call hw520
 replace hM := hM.p1
 replace hM := hM.t2
 have hM := hM.fewer rsN
 replace hM : St ⟨w, X, S⟩ [oBox b291 #[(iv 0), (.string ByteArray.empty), (iv 0), (iv 0), (iv 0), (.slice none 0 0), (.slice none 0 0)] 59, oBox b298 #[(iv c.kind), (.string c.doc), (iv c.client), (iv 0), (iv c.n), (.slice none 0 0), (.slice none 0 0)] 59] [] _ := hM
 exact mid_c () ⟨rfl, rfl, trivial⟩ hM
 rintro u w521 hM
 refine bk_n <| sq_n <| wc_sr <| wv rfl (r_ldBS u59 sz59 rfl (us := [(iv c.kind), (.string c.doc), (iv c.client), (iv 0), (iv c.n), (.slice none 0 0), (.slice none 0 0)]) rfl hM m1 rfl) ?_
 refine w_exu (x_stB #[(iv c.kind), (.string c.doc), (iv c.client), (iv 0), (iv c.n), (.slice none 0 0), (.slice none 0 0)] sz59 rfl rfl rfl rfl rfl rfl hM ?_); intro w523 hM
 refine wl_sq <| wc_ret ?_
 obtain rfl := oi hx
 have hM := hM.nilR0 (T := DPart) 3 fDPart
 have hM := hM.nilR0 (T := Int) 1 fI
 refine fin_ret [(.agg #[(iv c.kind), (.string c.doc), (iv c.client), (iv 0), (iv c.n), nS.v, nS.v])] ⟨rv_box u59 sz59 rfl rfl hM m0, trivial⟩ ?_
 replace hM := hM.t0
 exact ⟨(nS, nS), rfl, (hM.fewer (rsC m1 (rsC m0 rsN))).gives⟩
 refine wc_sr <| wv rfl (r_eql rfl rfl) <| was rfl rfl <| wl_sq ?_
 refine wcx hx rfl (fun hx => ?_) (fun hx => ?_)
 refine wc_region <| wv rfl (r_fld u59 rfl rfl sz3 rfl) <| wv rfl (r_ldB u3 rfl rfl hM m2 rfl) <| wv rfl (r_fld u59 rfl rfl sz3 rfl) ?_
 refine w_exu (x_stB #[(iv c.kind), (.string c.doc), (iv c.client), (iv 0), (iv 0), (.slice none 0 0), (.slice none 0 0)] sz3 rfl rfl rfl rfl rfl rfl hM ?_); intro w531 hM
 refine wl_nil <| bk_n <| sq_n <| wc_sr <| wv rfl (r_ldBS u59 sz59 rfl (us := [(iv c.kind), (.string c.doc), (iv c.client), (iv 0), (iv 0), (.slice none 0 0), (.slice none 0 0)]) rfl hM m0 rfl) ?_
 replace hM := hM.p1
 refine w_exu (x_stB #[(iv c.kind), (.string c.doc), (iv c.client), (iv 0), (iv 0), (.slice none 0 0), (.slice none 0 0)] sz59 rfl rfl rfl rfl rfl rfl hM ?_); intro w534 hM
 refine wl_sq <| wc_ret ?_
 obtain rfl := oi hx
 have hM := hM.nilR0 (T := DPart) 3 fDPart
 have hM := hM.nilR0 (T := Int) 1 fI
 refine fin_ret [(.agg #[(iv c.kind), (.string c.doc), (iv c.client), (iv 0), (iv 0), nS.v, nS.v])] ⟨rv_box u59 sz59 rfl rfl hM m0, trivial⟩ ?_
 replace hM := hM.t0
 exact ⟨(nS, nS), rfl, (hM.fewer (rsC m1 (rsC m0 rsN))).gives⟩
 refine wc_skip <| bk_n <| sq_n <| wc_sr <| wv rfl (r_ldBS u59 sz59 rfl (us := [(iv c.kind), (.string c.doc), (iv 0), (iv 0), (iv 0), (.slice none 0 0), (.slice none 0 0)]) rfl hM m0 rfl) ?_
 replace hM := hM.p1
 refine w_exu (x_stB #[(iv c.kind), (.string c.doc), (iv 0), (iv 0), (iv 0), (.slice none 0 0), (.slice none 0 0)] sz59 rfl rfl rfl rfl rfl rfl hM ?_); intro w537 hM
 refine wl_sq <| wc_ret ?_
 obtain rfl := oi hx
 have hM := hM.nilR0 (T := DPart) 3 fDPart
 have hM := hM.nilR0 (T := Int) 1 fI
 refine fin_ret [(.agg #[(iv c.kind), (.string c.doc), (iv 0), (iv 0), (iv 0), nS.v, nS.v])] ⟨rv_box u59 sz59 rfl rfl hM m0, trivial⟩ ?_
 replace hM := hM.t0
 exact ⟨(nS, nS), rfl, (hM.fewer (rsC m1 (rsC m0 rsN))).gives⟩
 refine wc_skip <| sq_n <| wc_seq <| wc_sr <| wv rfl (r_fld u59 rfl rfl sz3 rfl) <| wv rfl (r_ldB u3 rfl rfl hM m2 rfl) <| wl_sq <| wc_block <| wc_sr <| wv rfl (r_eql rfl rfl) <| was rfl rfl <| wl_sq ?_
 refine wcx hx rfl (fun hx => ?_) (fun hx => ?_)
 refine wc_region <| wv rfl (r_fld u59 rfl rfl sz26 rfl) <| wv rfl (r_ldB u26 rfl rfl hM m2 rfl) <| wv rfl (r_fld u59 rfl rfl sz26 rfl) ?_
 refine w_exu (x_stB #[(iv c.kind), (.string ByteArray.empty), (iv 0), (iv 0), (iv 0), (.slice none 0 0), s_c_6.v] sz26 rfl rfl rfl rfl rfl rfl hM ?_); intro w547 hM
 refine wl_nil <| bk_n <| sq_n <| wc_sr <| wv rfl (r_ldBS u59 sz59 rfl (us := [(iv c.kind), (.string ByteArray.empty), (iv 0), (iv 0), (iv 0), (.slice none 0 0), s_c_6.v]) rfl hM m0 rfl) ?_
 replace hM := hM.p1
 refine w_exu (x_stB #[(iv c.kind), (.string ByteArray.empty), (iv 0), (iv 0), (iv 0), (.slice none 0 0), s_c_6.v] sz59 rfl rfl rfl rfl rfl rfl hM ?_); intro w550 hM
 refine wl_sq <| wc_ret ?_
 obtain rfl := oi hx
 have hM := hM.nilR0 (T := DPart) 3 fDPart
 refine fin_ret [(.agg #[(iv c.kind), (.string ByteArray.empty), (iv 0), (iv 0), (iv 0), nS.v, s_c_6.v])] ⟨rv_box u59 sz59 rfl rfl hM m0, trivial⟩ ?_
 replace hM := hM.t0
 exact ⟨(nS, s_c_6), rfl, (hM.fewer (rsC m0 (rsC m1 rsN))).gives⟩
 refine wc_sr <| wv rfl (r_eql rfl rfl) <| was rfl rfl <| wl_sq ?_
 refine wcx hx rfl (fun hx => ?_) (fun hx => ?_)
 refine wc_mid (fun (u : Unit) => [(2, (pt b291 0)), (3, (pt b298 0))]) (fun (u : Unit) w' => St ⟨w, X, S⟩ [oBox b291 #[(iv 0), (.string ByteArray.empty), (iv 0), (iv 0), (iv 0), (.slice none 0 0), (.slice none 0 0)] 59, oBox b298 #[(iv c.kind), (.string ByteArray.empty), (iv c.client), (iv c.seq), (iv c.n), s_c_5.v, (.slice none 0 0)] 59] [rV s_c_5.v (cSl 3 fDPart c.o)] w') ?_ ?_
 refine wc_drawM (fun w' => ∃ m rs, St ⟨w, X, S⟩ m rs w' ∧ oBox b287 #[(iv c.kind), (.string c.doc), (iv c.client), (iv c.seq), (iv c.n), s_c_5.v, s_c_6.v] 59 ∈ m) Tryz_mixed <| wm_run [(0, 0), (1, 0), (8, 0)] 13 (fun _ h' => ⟨_, _, hM.call h', m2⟩) rfl rfl (by kernel_rfl) (by kernel_rfl) rfl <| ov rfl (fun w' h' => r_fld u59 rfl rfl sz3 rfl) <| ov rfl (fun w' h' => r_ldB u3 rfl rfl (hM.call h') m2 rfl) <| ov rfl (fun w' h' => r_fld u59 rfl rfl sz3 rfl) <| o_nilM hM fun _ hM => wm_free 2 12 rfl rfl (by kernel_rfl) (by kernel_rfl) rfl (fun _ _ => r_fld u59 rfl rfl sz3 rfl) <| wm_free 3 11 rfl rfl (by kernel_rfl) (by kernel_rfl) rfl (fun _ ⟨_, _, hM, q0⟩ => r_ldB u3 rfl rfl hM q0 rfl) <| wm_free 4 10 rfl rfl (by kernel_rfl) (by kernel_rfl) rfl (fun _ _ => r_fld u59 rfl rfl sz3 rfl) <| wm_free 5 9 rfl rfl (by kernel_rfl) (by kernel_rfl) rfl (fun _ ⟨_, _, hM, q0⟩ => r_ldB u3 rfl rfl hM q0 rfl) <| wm_free 6 8 rfl rfl (by kernel_rfl) (by kernel_rfl) rfl (fun _ _ => r_fld u59 rfl rfl sz57 rfl) <| wm_free 7 7 rfl rfl (by kernel_rfl) (by kernel_rfl) rfl (fun _ ⟨_, _, hM, q0⟩ => r_ldB u57 rfl rfl hM q0 rfl) <| wm_run [(9, 2), (10, 0)] 5 (fun _ h' => ⟨_, _, hM.call h', m2⟩) rfl rfl (by kernel_rfl) (by kernel_rfl) rfl <| o_exu fun _ h597 => ?_
 have hM := hM.call h597
 refine x_stB #[(iv c.kind), (.string ByteArray.empty), (iv c.client), (iv 0), (iv 0), (.slice none 0 0), (.slice none 0 0)] sz3 rfl rfl rfl rfl rfl rfl hM ?_; intro w594 hM
 refine ov rfl (fun w' h' => r_fld u59 rfl rfl sz3 rfl) <| o_nilM hM fun _ hM => wm_run [(11, 2), (12, 0)] 3 (fun _ h' => ⟨_, _, hM.call h', m2⟩) rfl rfl (by kernel_rfl) (by kernel_rfl) rfl <| o_exu fun _ h604 => ?_
 have hM := hM.call h604
 refine x_stB #[(iv c.kind), (.string ByteArray.empty), (iv c.client), (iv c.seq), (iv 0), (.slice none 0 0), (.slice none 0 0)] sz3 rfl rfl rfl rfl rfl rfl hM ?_; intro w601 hM
 refine ov rfl (fun w' h' => r_fld u59 rfl rfl sz3 rfl) <| o_nilM hM fun _ hM => wm_run [(13, 2), (14, 0)] 1 (fun _ h' => ⟨_, _, hM.call h', m2⟩) rfl rfl (by kernel_rfl) (by kernel_rfl) rfl <| o_exu fun _ h611 => ?_
 have hM := hM.call h611
 refine x_stB #[(iv c.kind), (.string ByteArray.empty), (iv c.client), (iv c.seq), (iv c.n), (.slice none 0 0), (.slice none 0 0)] sz3 rfl rfl rfl rfl rfl rfl hM ?_; intro w608 hM
 refine ov rfl (fun w' h' => r_fld u59 rfl rfl sz57 rfl) <| o_nilM hM fun _ hM => wm_run [(15, 2)] 0 (fun _ h' => ⟨_, _, hM.call h', m2⟩) rfl rfl (by kernel_rfl) (by kernel_rfl) rfl <| o_exu fun _ h618 => ?_
 have hM := hM.call h618
 refine x_stB #[(iv c.kind), (.string ByteArray.empty), (iv c.client), (iv c.seq), (iv c.n), s_c_5.v, (.slice none 0 0)] sz57 rfl rfl rfl rfl rfl rfl hM ?_; intro w615 hM
 refine o_nilM hM fun _ hM => wm_end (fun _ h' => ⟨_, _, hM.call h', m2⟩) (by kernel_rfl) fun _ hw622 => ?_
 have hM := hM.call hw622
 replace hM := hM.p1
 replace hM := hM.t2
 have hM := hM.fewer (rsC m1 rsN)
 replace hM : St ⟨w, X, S⟩ [oBox b291 #[(iv 0), (.string ByteArray.empty), (iv 0), (iv 0), (iv 0), (.slice none 0 0), (.slice none 0 0)] 59, oBox b298 #[(iv c.kind), (.string ByteArray.empty), (iv c.client), (iv c.seq), (iv c.n), s_c_5.v, (.slice none 0 0)] 59] [rV s_c_5.v (cSl 3 fDPart c.o)] _ := hM
 exact mid_c () ⟨rfl, rfl, trivial⟩ hM
 rintro u w623 hM
 refine bk_n <| sq_n <| wc_sr <| wv rfl (r_ldBS u59 sz59 rfl (us := [(iv c.kind), (.string ByteArray.empty), (iv c.client), (iv c.seq), (iv c.n), s_c_5.v, (.slice none 0 0)]) rfl hM m1 rfl) ?_
 refine w_exu (x_stB #[(iv c.kind), (.string ByteArray.empty), (iv c.client), (iv c.seq), (iv c.n), s_c_5.v, (.slice none 0 0)] sz59 rfl rfl rfl rfl rfl rfl hM ?_); intro w625 hM
 refine wl_sq <| wc_ret ?_
 obtain rfl := oi hx
 have hM := hM.nilR0 (T := Int) 1 fI
 refine fin_ret [(.agg #[(iv c.kind), (.string ByteArray.empty), (iv c.client), (iv c.seq), (iv c.n), s_c_5.v, nS.v])] ⟨rv_box u59 sz59 rfl rfl hM m0, trivial⟩ ?_
 replace hM := hM.t0
 exact ⟨(s_c_5, nS), rfl, (hM.fewer (rsC m1 (rsC m0 rsN))).gives⟩
 refine wc_seq <| wc_sr <| wv rfl (r_eql rfl rfl) <| was rfl rfl <| wl_sq ?_
 refine wcx hx rfl (fun hx => ?_) (fun hx => ?_)
 refine wc_skip <| sq_n ?_
 refine wcx hx rfl (fun hx => ?_) (fun hx => ?_)
 refine wc_region <| wv rfl (r_fld u59 rfl rfl sz3 rfl) <| wv rfl (r_ldB u3 rfl rfl hM m2 rfl) <| wv rfl (r_fld u59 rfl rfl sz3 rfl) ?_
 refine w_exu (x_stB #[(iv c.kind), (.string ByteArray.empty), (iv 0), (iv 0), (iv c.n), (.slice none 0 0), (.slice none 0 0)] sz3 rfl rfl rfl rfl rfl rfl hM ?_); intro w634 hM
 refine wl_nil <| bk_n <| sq_n <| wc_sr <| wv rfl (r_ldBS u59 sz59 rfl (us := [(iv c.kind), (.string ByteArray.empty), (iv 0), (iv 0), (iv c.n), (.slice none 0 0), (.slice none 0 0)]) rfl hM m0 rfl) ?_
 replace hM := hM.p1
 refine w_exu (x_stB #[(iv c.kind), (.string ByteArray.empty), (iv 0), (iv 0), (iv c.n), (.slice none 0 0), (.slice none 0 0)] sz59 rfl rfl rfl rfl rfl rfl hM ?_); intro w637 hM
 refine wl_sq <| wc_ret ?_
 obtain rfl := oi hx
 have hM := hM.nilR0 (T := DPart) 3 fDPart
 have hM := hM.nilR0 (T := Int) 1 fI
 refine fin_ret [(.agg #[(iv c.kind), (.string ByteArray.empty), (iv 0), (iv 0), (iv c.n), nS.v, nS.v])] ⟨rv_box u59 sz59 rfl rfl hM m0, trivial⟩ ?_
 replace hM := hM.t0
 exact ⟨(nS, nS), rfl, (hM.fewer (rsC m1 (rsC m0 rsN))).gives⟩
 refine wc_sr <| wv rfl (r_eql rfl rfl) <| was rfl rfl <| wl_sq ?_
 refine wcx hx rfl (fun hx => ?_) (fun hx => ?_)
 refine wc_mid (fun (u : Unit) => [(2, (pt b291 0)), (3, (pt b298 0))]) (fun (u : Unit) w' => St ⟨w, X, S⟩ [oBox b291 #[(iv 0), (.string ByteArray.empty), (iv 0), (iv 0), (iv 0), (.slice none 0 0), (.slice none 0 0)] 59, oBox b298 #[(iv c.kind), (.string ByteArray.empty), (iv c.client), (iv 0), (iv c.n), (.slice none 0 0), (.slice none 0 0)] 59] [] w') ?_ ?_
 refine wc_drawM (fun w' => ∃ m rs, St ⟨w, X, S⟩ m rs w' ∧ oBox b287 #[(iv c.kind), (.string c.doc), (iv c.client), (iv c.seq), (iv c.n), s_c_5.v, s_c_6.v] 59 ∈ m) Tryz_mixed <| wm_run [(0, 0), (1, 0), (4, 0)] 5 (fun _ h' => ⟨_, _, hM.call h', m2⟩) rfl rfl (by kernel_rfl) (by kernel_rfl) rfl <| ov rfl (fun w' h' => r_fld u59 rfl rfl sz3 rfl) <| ov rfl (fun w' h' => r_ldB u3 rfl rfl (hM.call h') m2 rfl) <| ov rfl (fun w' h' => r_fld u59 rfl rfl sz3 rfl) <| o_nilM hM fun _ hM => wm_free 2 4 rfl rfl (by kernel_rfl) (by kernel_rfl) rfl (fun _ _ => r_fld u59 rfl rfl sz3 rfl) <| wm_free 3 3 rfl rfl (by kernel_rfl) (by kernel_rfl) rfl (fun _ ⟨_, _, hM, q0⟩ => r_ldB u3 rfl rfl hM q0 rfl) <| wm_run [(5, 2), (6, 0)] 1 (fun _ h' => ⟨_, _, hM.call h', m2⟩) rfl rfl (by kernel_rfl) (by kernel_rfl) rfl <| o_exu fun _ h666 => ?_
 have hM := hM.call h666
 refine x_stB #[(iv c.kind), (.string ByteArray.empty), (iv c.client), (iv 0), (iv 0), (.slice none 0 0), (.slice none 0 0)] sz3 rfl rfl rfl rfl rfl rfl hM ?_; intro w663 hM
 refine ov rfl (fun w' h' => r_fld u59 rfl rfl sz3 rfl) <| o_nilM hM fun _ hM => wm_run [(7, 2)] 0 (fun _ h' => ⟨_, _, hM.call h', m2⟩) rfl rfl (by kernel_rfl) (by kernel_rfl) rfl <| o_exu fun _ h673 => ?_
 have hM := hM.call h673
 refine x_stB #[(iv c.kind), (.string ByteArray.empty), (iv c.client), (iv 0), (iv c.n), (.slice none 0 0), (.slice none 0 0)] sz3 rfl rfl rfl rfl rfl rfl hM ?_; intro w670 hM
 refine o_nilM hM fun _ hM => wm_end (fun _ h' => ⟨_, _, hM.call h', m2⟩) (by kernel_rfl) fun _ hw677 => ?_
 have hM := hM.call hw677
 replace hM := hM.p1
 replace hM := hM.t2
 have hM := hM.fewer rsN
 replace hM : St ⟨w, X, S⟩ [oBox b291 #[(iv 0), (.string ByteArray.empty), (iv 0), (iv 0), (iv 0), (.slice none 0 0), (.slice none 0 0)] 59, oBox b298 #[(iv c.kind), (.string ByteArray.empty), (iv c.client), (iv 0), (iv c.n), (.slice none 0 0), (.slice none 0 0)] 59] [] _ := hM
 exact mid_c () ⟨rfl, rfl, trivial⟩ hM
 rintro u w678 hM
 refine bk_n <| sq_n <| wc_sr <| wv rfl (r_ldBS u59 sz59 rfl (us := [(iv c.kind), (.string ByteArray.empty), (iv c.client), (iv 0), (iv c.n), (.slice none 0 0), (.slice none 0 0)]) rfl hM m1 rfl) ?_
 refine w_exu (x_stB #[(iv c.kind), (.string ByteArray.empty), (iv c.client), (iv 0), (iv c.n), (.slice none 0 0), (.slice none 0 0)] sz59 rfl rfl rfl rfl rfl rfl hM ?_); intro w680 hM
 refine wl_sq <| wc_ret ?_
 obtain rfl := oi hx
 have hM := hM.nilR0 (T := DPart) 3 fDPart
 have hM := hM.nilR0 (T := Int) 1 fI
 refine fin_ret [(.agg #[(iv c.kind), (.string ByteArray.empty), (iv c.client), (iv 0), (iv c.n), nS.v, nS.v])] ⟨rv_box u59 sz59 rfl rfl hM m0, trivial⟩ ?_
 replace hM := hM.t0
 exact ⟨(nS, nS), rfl, (hM.fewer (rsC m1 (rsC m0 rsN))).gives⟩
 refine wc_sr <| wv rfl (r_eql rfl rfl) <| was rfl rfl <| wl_sq ?_
 refine wcx hx rfl (fun hx => ?_) (fun hx => ?_)
 refine wc_region <| wv rfl (r_fld u59 rfl rfl sz3 rfl) <| wv rfl (r_ldB u3 rfl rfl hM m2 rfl) <| wv rfl (r_fld u59 rfl rfl sz3 rfl) ?_
 refine w_exu (x_stB #[(iv c.kind), (.string ByteArray.empty), (iv c.client), (iv 0), (iv 0), (.slice none 0 0), (.slice none 0 0)] sz3 rfl rfl rfl rfl rfl rfl hM ?_); intro w688 hM
 refine wl_nil <| bk_n <| sq_n <| wc_sr <| wv rfl (r_ldBS u59 sz59 rfl (us := [(iv c.kind), (.string ByteArray.empty), (iv c.client), (iv 0), (iv 0), (.slice none 0 0), (.slice none 0 0)]) rfl hM m0 rfl) ?_
 replace hM := hM.p1
 refine w_exu (x_stB #[(iv c.kind), (.string ByteArray.empty), (iv c.client), (iv 0), (iv 0), (.slice none 0 0), (.slice none 0 0)] sz59 rfl rfl rfl rfl rfl rfl hM ?_); intro w691 hM
 refine wl_sq <| wc_ret ?_
 obtain rfl := oi hx
 have hM := hM.nilR0 (T := DPart) 3 fDPart
 have hM := hM.nilR0 (T := Int) 1 fI
 refine fin_ret [(.agg #[(iv c.kind), (.string ByteArray.empty), (iv c.client), (iv 0), (iv 0), nS.v, nS.v])] ⟨rv_box u59 sz59 rfl rfl hM m0, trivial⟩ ?_
 replace hM := hM.t0
 exact ⟨(nS, nS), rfl, (hM.fewer (rsC m1 (rsC m0 rsN))).gives⟩
 refine wc_skip <| bk_n <| sq_n <| wc_sr <| wv rfl (r_ldBS u59 sz59 rfl (us := [(iv c.kind), (.string ByteArray.empty), (iv 0), (iv 0), (iv 0), (.slice none 0 0), (.slice none 0 0)]) rfl hM m0 rfl) ?_
 replace hM := hM.p1
 refine w_exu (x_stB #[(iv c.kind), (.string ByteArray.empty), (iv 0), (iv 0), (iv 0), (.slice none 0 0), (.slice none 0 0)] sz59 rfl rfl rfl rfl rfl rfl hM ?_); intro w694 hM
 refine wl_sq <| wc_ret ?_
 obtain rfl := oi hx
 have hM := hM.nilR0 (T := DPart) 3 fDPart
 have hM := hM.nilR0 (T := Int) 1 fI
 refine fin_ret [(.agg #[(iv c.kind), (.string ByteArray.empty), (iv 0), (iv 0), (iv 0), nS.v, nS.v])] ⟨rv_box u59 sz59 rfl rfl hM m0, trivial⟩ ?_
 replace hM := hM.t0
 exact ⟨(nS, nS), rfl, (hM.fewer (rsC m1 (rsC m0 rsN))).gives⟩
 refine wc_region <| wv rfl (r_eql rfl rfl) <| was rfl rfl <| wl_sq ?_
 refine wcx hx rfl (fun hx => ?_) (fun hx => ?_)
 refine wc_region <| wv rfl (r_fld u59 rfl rfl sz3 rfl) <| wv rfl (r_ldB u3 rfl rfl hM m2 rfl) <| wv rfl (r_fld u59 rfl rfl sz3 rfl) ?_
 refine w_exu (x_stB #[(iv c.kind), (.string ByteArray.empty), (iv 0), (iv 0), (iv c.n), (.slice none 0 0), (.slice none 0 0)] sz3 rfl rfl rfl rfl rfl rfl hM ?_); intro w702 hM
 refine wl_nil <| bk_n <| sq_n <| wc_sr <| wv rfl (r_ldBS u59 sz59 rfl (us := [(iv c.kind), (.string ByteArray.empty), (iv 0), (iv 0), (iv c.n), (.slice none 0 0), (.slice none 0 0)]) rfl hM m0 rfl) ?_
 replace hM := hM.p1
 refine w_exu (x_stB #[(iv c.kind), (.string ByteArray.empty), (iv 0), (iv 0), (iv c.n), (.slice none 0 0), (.slice none 0 0)] sz59 rfl rfl rfl rfl rfl rfl hM ?_); intro w705 hM
 refine wl_sq <| wc_ret ?_
 obtain rfl := oi hx
 have hM := hM.nilR0 (T := DPart) 3 fDPart
 have hM := hM.nilR0 (T := Int) 1 fI
 refine fin_ret [(.agg #[(iv c.kind), (.string ByteArray.empty), (iv 0), (iv 0), (iv c.n), nS.v, nS.v])] ⟨rv_box u59 sz59 rfl rfl hM m0, trivial⟩ ?_
 replace hM := hM.t0
 exact ⟨(nS, nS), rfl, (hM.fewer (rsC m1 (rsC m0 rsN))).gives⟩
 refine wc_sr <| wv rfl (r_eql rfl rfl) <| was rfl rfl <| wl_sq ?_
 refine wcx hx rfl (fun hx => ?_) (fun hx => ?_)
 refine wc_mid (fun (u : Unit) => [(2, (pt b291 0)), (3, (pt b298 0))]) (fun (u : Unit) w' => St ⟨w, X, S⟩ [oBox b291 #[(iv 0), (.string ByteArray.empty), (iv 0), (iv 0), (iv 0), (.slice none 0 0), (.slice none 0 0)] 59, oBox b298 #[(iv c.kind), (.string ByteArray.empty), (iv c.client), (iv 0), (iv c.n), (.slice none 0 0), (.slice none 0 0)] 59] [] w') ?_ ?_
 refine wc_drawM (fun w' => ∃ m rs, St ⟨w, X, S⟩ m rs w' ∧ oBox b287 #[(iv c.kind), (.string c.doc), (iv c.client), (iv c.seq), (iv c.n), s_c_5.v, s_c_6.v] 59 ∈ m) Tryz_mixed <| wm_run [(0, 0), (1, 0), (4, 0)] 5 (fun _ h' => ⟨_, _, hM.call h', m2⟩) rfl rfl (by kernel_rfl) (by kernel_rfl) rfl <| ov rfl (fun w' h' => r_fld u59 rfl rfl sz3 rfl) <| ov rfl (fun w' h' => r_ldB u3 rfl rfl (hM.call h') m2 rfl) <| ov rfl (fun w' h' => r_fld u59 rfl rfl sz3 rfl) <| o_nilM hM fun _ hM => wm_free 2 4 rfl rfl (by kernel_rfl) (by kernel_rfl) rfl (fun _ _ => r_fld u59 rfl rfl sz3 rfl) <| wm_free 3 3 rfl rfl (by kernel_rfl) (by kernel_rfl) rfl (fun _ ⟨_, _, hM, q0⟩ => r_ldB u3 rfl rfl hM q0 rfl) <| wm_run [(5, 2), (6, 0)] 1 (fun _ h' => ⟨_, _, hM.call h', m2⟩) rfl rfl (by kernel_rfl) (by kernel_rfl) rfl <| o_exu fun _ h734 => ?_
 have hM := hM.call h734
 refine x_stB #[(iv c.kind), (.string ByteArray.empty), (iv c.client), (iv 0), (iv 0), (.slice none 0 0), (.slice none 0 0)] sz3 rfl rfl rfl rfl rfl rfl hM ?_; intro w731 hM
 refine ov rfl (fun w' h' => r_fld u59 rfl rfl sz3 rfl) <| o_nilM hM fun _ hM => wm_run [(7, 2)] 0 (fun _ h' => ⟨_, _, hM.call h', m2⟩) rfl rfl (by kernel_rfl) (by kernel_rfl) rfl <| o_exu fun _ h741 => ?_
 have hM := hM.call h741
 refine x_stB #[(iv c.kind), (.string ByteArray.empty), (iv c.client), (iv 0), (iv c.n), (.slice none 0 0), (.slice none 0 0)] sz3 rfl rfl rfl rfl rfl rfl hM ?_; intro w738 hM
 refine o_nilM hM fun _ hM => wm_end (fun _ h' => ⟨_, _, hM.call h', m2⟩) (by kernel_rfl) fun _ hw745 => ?_
 have hM := hM.call hw745
 replace hM := hM.p1
 replace hM := hM.t2
 have hM := hM.fewer rsN
 replace hM : St ⟨w, X, S⟩ [oBox b291 #[(iv 0), (.string ByteArray.empty), (iv 0), (iv 0), (iv 0), (.slice none 0 0), (.slice none 0 0)] 59, oBox b298 #[(iv c.kind), (.string ByteArray.empty), (iv c.client), (iv 0), (iv c.n), (.slice none 0 0), (.slice none 0 0)] 59] [] _ := hM
 exact mid_c () ⟨rfl, rfl, trivial⟩ hM
 rintro u w746 hM
 refine bk_n <| sq_n <| wc_sr <| wv rfl (r_ldBS u59 sz59 rfl (us := [(iv c.kind), (.string ByteArray.empty), (iv c.client), (iv 0), (iv c.n), (.slice none 0 0), (.slice none 0 0)]) rfl hM m1 rfl) ?_
 refine w_exu (x_stB #[(iv c.kind), (.string ByteArray.empty), (iv c.client), (iv 0), (iv c.n), (.slice none 0 0), (.slice none 0 0)] sz59 rfl rfl rfl rfl rfl rfl hM ?_); intro w748 hM
 refine wl_sq <| wc_ret ?_
 obtain rfl := oi hx
 have hM := hM.nilR0 (T := DPart) 3 fDPart
 have hM := hM.nilR0 (T := Int) 1 fI
 refine fin_ret [(.agg #[(iv c.kind), (.string ByteArray.empty), (iv c.client), (iv 0), (iv c.n), nS.v, nS.v])] ⟨rv_box u59 sz59 rfl rfl hM m0, trivial⟩ ?_
 replace hM := hM.t0
 exact ⟨(nS, nS), rfl, (hM.fewer (rsC m1 (rsC m0 rsN))).gives⟩
 refine wc_sr <| wv rfl (r_eql rfl rfl) <| was rfl rfl <| wl_sq ?_
 refine wcx hx rfl (fun hx => ?_) (fun hx => ?_)
 refine wc_region <| wv rfl (r_fld u59 rfl rfl sz3 rfl) <| wv rfl (r_ldB u3 rfl rfl hM m2 rfl) <| wv rfl (r_fld u59 rfl rfl sz3 rfl) ?_
 refine w_exu (x_stB #[(iv c.kind), (.string ByteArray.empty), (iv c.client), (iv 0), (iv 0), (.slice none 0 0), (.slice none 0 0)] sz3 rfl rfl rfl rfl rfl rfl hM ?_); intro w756 hM
 refine wl_nil <| bk_n <| sq_n <| wc_sr <| wv rfl (r_ldBS u59 sz59 rfl (us := [(iv c.kind), (.string ByteArray.empty), (iv c.client), (iv 0), (iv 0), (.slice none 0 0), (.slice none 0 0)]) rfl hM m0 rfl) ?_
 replace hM := hM.p1
 refine w_exu (x_stB #[(iv c.kind), (.string ByteArray.empty), (iv c.client), (iv 0), (iv 0), (.slice none 0 0), (.slice none 0 0)] sz59 rfl rfl rfl rfl rfl rfl hM ?_); intro w759 hM
 refine wl_sq <| wc_ret ?_
 obtain rfl := oi hx
 have hM := hM.nilR0 (T := DPart) 3 fDPart
 have hM := hM.nilR0 (T := Int) 1 fI
 refine fin_ret [(.agg #[(iv c.kind), (.string ByteArray.empty), (iv c.client), (iv 0), (iv 0), nS.v, nS.v])] ⟨rv_box u59 sz59 rfl rfl hM m0, trivial⟩ ?_
 replace hM := hM.t0
 exact ⟨(nS, nS), rfl, (hM.fewer (rsC m1 (rsC m0 rsN))).gives⟩
 refine wc_skip <| bk_n <| sq_n <| wc_sr <| wv rfl (r_ldBS u59 sz59 rfl (us := [(iv c.kind), (.string ByteArray.empty), (iv 0), (iv 0), (iv 0), (.slice none 0 0), (.slice none 0 0)]) rfl hM m0 rfl) ?_
 replace hM := hM.p1
 refine w_exu (x_stB #[(iv c.kind), (.string ByteArray.empty), (iv 0), (iv 0), (iv 0), (.slice none 0 0), (.slice none 0 0)] sz59 rfl rfl rfl rfl rfl rfl hM ?_); intro w762 hM
 refine wl_sq <| wc_ret ?_
 obtain rfl := oi hx
 have hM := hM.nilR0 (T := DPart) 3 fDPart
 have hM := hM.nilR0 (T := Int) 1 fI
 refine fin_ret [(.agg #[(iv c.kind), (.string ByteArray.empty), (iv 0), (iv 0), (iv 0), nS.v, nS.v])] ⟨rv_box u59 sz59 rfl rfl hM m0, trivial⟩ ?_
 replace hM := hM.t0
 exact ⟨(nS, nS), rfl, (hM.fewer (rsC m1 (rsC m0 rsN))).gives⟩

noncomputable def x_impl_CallSame (a : DCall) (b : DCall) : Option Bool :=
  Option.bind (bif decide (a.kind = b.kind) then (some (decide (a.doc = b.doc))) else (some false)) fun c16 => Option.bind (bif c16 then (some (decide (a.client = b.client))) else (some false)) fun c29 => Option.bind (bif c29 then (some (decide (a.seq = b.seq))) else (some false)) fun c42 => Option.bind (bif c42 then (some (decide (a.n = b.n))) else (some false)) fun c55 => Option.bind (bif c55 then (Option.bind (x_impl_OpSame a.o b.o) fun r81 => some r81) else (some false)) fun c68 => Option.bind (bif c68 then (Option.bind (x_slices_Equal_int_int a.text b.text) fun r98 => some r98) else (some false)) fun c85 => some c85
theorem ct_impl_CallSame (w : World) (X S : Bs) (a : DCall) (s_a_5 : Sv) (s_a_6 : Sv) (b : DCall) (s_b_5 : Sv) (s_b_6 : Sv) (hS : SX X S w) (a_a_5 : (cSl 3 fDPart a.o).rd S w s_a_5.v) (a_a_6 : (cSl 1 fI a.text).rd S w s_a_6.v) (a_b_5 : (cSl 3 fDPart b.o).rd S w s_b_5.v) (a_b_6 : (cSl 1 fI b.text).rd S w s_b_6.v) (oL : Sep [] X w) {r : Bool} (hx : x_impl_CallSame a b = some r) :
 Ret Tryz.prog 127 [(.agg #[(iv a.kind), (.string a.doc), (iv a.client), (iv a.seq), (iv a.n), s_a_5.v, s_a_6.v]), (.agg #[(iv b.kind), (.string b.doc), (iv b.client), (iv b.seq), (iv b.n), s_b_5.v, s_b_6.v])] w (KV X S w (bv r)) := by
 unfold x_impl_CallSame at hx
 refine enter Tryz.func127 rfl Tryz.ntmps127 (by kernel_rfl) rfl ?_
 have hM := ((((St.enter oL hS).addV a_a_5).addV a_a_6).addV a_b_5).addV a_b_6
 refine wc_sr ?_
 refine w_ex rfl (x_box rfl hM ?_); intro b103 w102 hR104 hM
 refine w_ex rfl (x_box rfl hM ?_); intro b107 w106 hR108 hM
 refine was rfl rfl <| wl_sq <| wc_sr <| wv rfl (r_fld u59 rfl rfl sz3 rfl) <| wv rfl (r_ldB u3 rfl rfl hM m1 rfl) <| wv rfl (r_fld u59 rfl rfl sz3 rfl) <| wv rfl (r_ldB u3 rfl rfl hM m0 rfl) <| wv rfl (r_eql rfl rfl) <| wmv rfl rfl <| bs hx fun c117 hx hx124 => ?_
 refine wl_midH 6 [(16, (bv c117)), (2, (pt b103 0)), (3, (pt b107 0))] hM ?_ fun w125 hM => ?_
 refine cs2 hx (fun hg118 hx => ?_) (fun hg118 hx => ?_)
 refine gv rfl hg118 rfl (r_fld u59 rfl rfl sz9 rfl) <| gv rfl hg118 rfl (r_ldB u9 rfl rfl hM m1 rfl) <| gv rfl hg118 rfl (r_fld u59 rfl rfl sz9 rfl) <| gv rfl hg118 rfl (r_ldB u9 rfl rfl hM m0 rfl) <| gv rfl hg118 rfl (r_eqls rfl rfl) <| wv rfl (p_t rfl hg118 rfl) ?_
 cases hx
 exact mid_h ⟨rfl, rfl, rfl, trivial⟩ hM
 refine gn hg118 rfl rfl <| gn hg118 rfl rfl <| gn hg118 rfl rfl <| gn hg118 rfl rfl <| gn hg118 rfl rfl <| wv rfl (p_f rfl hg118 rfl) ?_
 obtain rfl := oi hx
 exact mid_h ⟨rfl, rfl, rfl, trivial⟩ hM
 replace hx := hx124
 refine wmv rfl rfl <| bs hx fun c132 hx hx139 => ?_
 refine wl_midH 6 [(23, (bv c132)), (2, (pt b103 0)), (3, (pt b107 0))] hM ?_ fun w140 hM => ?_
 refine cs2 hx (fun hg133 hx => ?_) (fun hg133 hx => ?_)
 refine gv rfl hg133 rfl (r_fld u59 rfl rfl sz3 rfl) <| gv rfl hg133 rfl (r_ldB u3 rfl rfl hM m1 rfl) <| gv rfl hg133 rfl (r_fld u59 rfl rfl sz3 rfl) <| gv rfl hg133 rfl (r_ldB u3 rfl rfl hM m0 rfl) <| gv rfl hg133 rfl (r_eql rfl rfl) <| wv rfl (p_t rfl hg133 rfl) ?_
 cases hx
 exact mid_h ⟨rfl, rfl, rfl, trivial⟩ hM
 refine gn hg133 rfl rfl <| gn hg133 rfl rfl <| gn hg133 rfl rfl <| gn hg133 rfl rfl <| gn hg133 rfl rfl <| wv rfl (p_f rfl hg133 rfl) ?_
 obtain rfl := oi hx
 exact mid_h ⟨rfl, rfl, rfl, trivial⟩ hM
 replace hx := hx139
 refine wmv rfl rfl <| bs hx fun c147 hx hx154 => ?_
 refine wl_midH 6 [(30, (bv c147)), (2, (pt b103 0)), (3, (pt b107 0))] hM ?_ fun w155 hM => ?_
 refine cs2 hx (fun hg148 hx => ?_) (fun hg148 hx => ?_)
 refine gv rfl hg148 rfl (r_fld u59 rfl rfl sz3 rfl) <| gv rfl hg148 rfl (r_ldB u3 rfl rfl hM m1 rfl) <| gv rfl hg148 rfl (r_fld u59 rfl rfl sz3 rfl) <| gv rfl hg148 rfl (r_ldB u3 rfl rfl hM m0 rfl) <| gv rfl hg148 rfl (r_eql rfl rfl) <| wv rfl (p_t rfl hg148 rfl) ?_
 cases hx
 exact mid_h ⟨rfl, rfl, rfl, trivial⟩ hM
 refine gn hg148 rfl rfl <| gn hg148 rfl rfl <| gn hg148 rfl rfl <| gn hg148 rfl rfl <| gn hg148 rfl rfl <| wv rfl (p_f rfl hg148 rfl) ?_
 obtain rfl := oi hx
 exact mid_h ⟨rfl, rfl, rfl, trivial⟩ hM
 replace hx := hx154
 refine wmv rfl rfl <| bs hx fun c162 hx hx169 => ?_
 refine wl_midH 6 [(37, (bv c162)), (2, (pt b103 0)), (3, (pt b107 0))] hM ?_ fun w170 hM => ?_
 refine cs2 hx (fun hg163 hx => ?_) (fun hg163 hx => ?_)
 refine gv rfl hg163 rfl (r_fld u59 rfl rfl sz3 rfl) <| gv rfl hg163 rfl (r_ldB u3 rfl rfl hM m1 rfl) <| gv rfl hg163 rfl (r_fld u59 rfl rfl sz3 rfl) <| gv rfl hg163 rfl (r_ldB u3 rfl rfl hM m0 rfl) <| gv rfl hg163 rfl (r_eql rfl rfl) <| wv rfl (p_t rfl hg163 rfl) ?_
 cases hx
 exact mid_h ⟨rfl, rfl, rfl, trivial⟩ hM
 refine gn hg163 rfl rfl <| gn hg163 rfl rfl <| gn hg163 rfl rfl <| gn hg163 rfl rfl <| gn hg163 rfl rfl <| wv rfl (p_f rfl hg163 rfl) ?_
 obtain rfl := oi hx
 exact mid_h ⟨rfl, rfl, rfl, trivial⟩ hM
 replace hx := hx169
 refine wmv rfl rfl <| bs hx fun c177 hx hx186 => ?_
 refine wl_midH 6 [(44, (bv c177)), (2, (pt b103 0)), (3, (pt b107 0))] hM ?_ fun w187 hM => ?_
 refine cs2 hx (fun hg178 hx => ?_) (fun hg178 hx => ?_)
 refine gv rfl hg178 rfl (r_fld u59 rfl rfl sz57 rfl) <| gv rfl hg178 rfl (r_ldB u57 rfl rfl hM m1 rfl) <| gv rfl hg178 rfl (r_fld u59 rfl rfl sz57 rfl) <| gv rfl hg178 rfl (r_ldB u57 rfl rfl hM m0 rfl) <| bs hx fun _ h193 hx => g_cv hM hg178 rfl rfl rfl (fun X S oL hS hR hO => ct_impl_OpSame _ X S a.o s_a_5 b.o s_b_5 hS (hR _ m3) (hR _ m1) oL h193) fun _ hM => wv rfl (p_t rfl hg178 rfl) ?_
 obtain rfl := oi hx
 exact mid_h ⟨rfl, rfl, rfl, trivial⟩ hM
 refine gn hg178 rfl rfl <| gn hg178 rfl rfl <| gn hg178 rfl rfl <| gn hg178 rfl rfl <| gn hg178 rfl rfl <| wv rfl (p_f rfl hg178 rfl) ?_
 obtain rfl := oi hx
 exact mid_h ⟨rfl, rfl, rfl, trivial⟩ hM
 replace hx := hx186
 refine wmv rfl rfl <| bs hx fun c196 hx hx205 => ?_
 refine wl_midH 6 [(51, (bv c196))] hM ?_ fun w206 hM => ?_
 refine cs2 hx (fun hg197 hx => ?_) (fun hg197 hx => ?_)
 refine gv rfl hg197 rfl (r_fld u59 rfl rfl sz26 rfl) <| gv rfl hg197 rfl (r_ldB u26 rfl rfl hM m1 rfl) <| gv rfl hg197 rfl (r_fld u59 rfl rfl sz26 rfl) <| gv rfl hg197 rfl (r_ldB u26 rfl rfl hM m0 rfl) <| bs hx fun _ h212 hx => g_cv hM hg197 rfl rfl rfl (fun X S oL hS hR hO => ct_slices_Equal_int_int _ X S a.text s_a_6 b.text s_b_6 hS (hR _ m2) (hR _ m0) oL h212) fun _ hM => wv rfl (p_t rfl hg197 rfl) ?_
 obtain rfl := oi hx
 exact mid_h ⟨rfl, trivial⟩ hM
 refine gn hg197 rfl rfl <| gn hg197 rfl rfl <| gn hg197 rfl rfl <| gn hg197 rfl rfl <| gn hg197 rfl rfl <| wv rfl (p_f rfl hg197 rfl) ?_
 obtain rfl := oi hx
 exact mid_h ⟨rfl, trivial⟩ hM
 replace hx := hx205
 refine was rfl rfl <| wl_sq <| wc_ret ?_
 obtain rfl := oi hx
 exact fin_u [(bv c196)] hM ⟨rfl, trivial⟩ rfl

noncomputable def x_impl_CallOk (c : DCall) : Option Bool :=
  Option.bind (x_impl_within c.kind 1 8) fun r8 => Option.bind (bif r8 then (some (decide ((c.doc.size : Int) ≤ 8))) else (some false)) fun c12 => Option.bind (bif c12 then (Option.bind (x_impl_partsOk c.o) fun r32 => some r32) else (some false)) fun c23 => Option.bind (bif c23 then (Option.bind (x_impl_TextOk c.text) fun r45 => some r45) else (some false)) fun c36 => Option.bind (bif c36 then (Option.bind (x_impl_used c) fun r68 => Option.bind (x_impl_CallSame c r68) fun r76 => some r76) else (some false)) fun c49 => some c49
theorem ct_impl_CallOk (w : World) (X S : Bs) (c : DCall) (s_c_5 : Sv) (s_c_6 : Sv) (hS : SX X S w) (a_c_5 : (cSl 3 fDPart c.o).rd S w s_c_5.v) (a_c_6 : (cSl 1 fI c.text).rd S w s_c_6.v) (oL : Sep [] X w) {r : Bool} (hx : x_impl_CallOk c = some r) :
 Ret Tryz.prog 81 [(.agg #[(iv c.kind), (.string c.doc), (iv c.client), (iv c.seq), (iv c.n), s_c_5.v, s_c_6.v])] w (KV X S w (bv r)) := by
 unfold x_impl_CallOk at hx
 refine enter Tryz.func81 rfl Tryz.ntmps81 (by kernel_rfl) rfl ?_
 have hM := ((St.enter oL hS).addV a_c_5).addV a_c_6
 refine wc_sr ?_
 refine w_ex rfl (x_box rfl hM ?_); intro b85 w84 hR86 hM
 refine was rfl rfl <| wl_sq <| wc_seq <| wc_draw [(0, 0), (1, 0), (2, 0), (3, 0), (4, 0), (5, 0), (6, 0), (7, 0), (8, 0), (9, 0), (10, 0), (11, 0), (12, 0), (13, 0), (14, 0), (15, 0), (16, 0), (17, 0), (18, 0), (19, 0), (20, 0), (21, 0), (22, 1), (23, 0), (24, 0), (25, 0)] Tryz_mixed (by kernel_rfl) rfl (by kernel_rfl) rfl <| ov rfl (fun w' h' => r_fld u59 rfl rfl sz3 rfl) <| ov rfl (fun w' h' => r_ldB u3 rfl rfl (hM.call h') m0 rfl) <| bs hx fun _ h92 hx => oc rfl rfl (fun w' h' => (hM.call h').callV fun X S oL hS hR hO => ct_impl_within _ X S c.kind (1 : Int) (8 : Int) hS  oL h92) <| omv rfl rfl <| bs hx fun c95 hx hx101 => ?_
 refine wo_mid 5 [(11, (bv c95)), (1, (pt b85 0))] rfl ?_ ?_
 refine cs2 hx (fun hg96 hx => ?_) (fun hg96 hx => ?_)
 refine ogv rfl hg96 rfl (fun w' h' => r_fld u59 rfl rfl sz9 rfl) <| ogv rfl hg96 rfl (fun w' h' => r_ldB u9 rfl rfl (hM.call h') m0 rfl) <| ogv rfl hg96 rfl (fun w' h' => r_lens u9 rfl) <| ogv rfl hg96 rfl (fun w' h' => r_leq rfl rfl) <| ov rfl (fun w' h' => p_t rfl hg96 rfl) ?_
 cases hx
 exact mid_onil ⟨rfl, rfl, trivial⟩
 refine ogs rfl (isB_no hg96) rfl <| ogs rfl (isB_no hg96) rfl <| ogs rfl (isB_no hg96) rfl <| ogs rfl (isB_no hg96) rfl <| ov rfl (fun w' h' => p_f rfl hg96 rfl) ?_
 obtain rfl := oi hx
 exact mid_onil ⟨rfl, rfl, trivial⟩
 replace hx := hx101
 refine omv rfl rfl <| bs hx fun c107 hx hx114 => ?_
 refine wo_mid 4 [(16, (bv c107)), (1, (pt b85 0))] rfl ?_ ?_
 refine cs2 hx (fun hg108 hx => ?_) (fun hg108 hx => ?_)
 refine ogv rfl hg108 rfl (fun w' h' => r_fld u59 rfl rfl sz57 rfl) <| ogv rfl hg108 rfl (fun w' h' => r_ldB u57 rfl rfl (hM.call h') m0 rfl) <| bs hx fun _ h118 hx => ogc rfl hg108 rfl rfl (fun w' h' => (hM.call h').callV fun X S oL hS hR hO => ct_impl_partsOk _ X S c.o s_c_5 hS (hR _ m1) oL h118) <| ov rfl (fun w' h' => p_t rfl hg108 rfl) ?_
 obtain rfl := oi hx
 exact mid_onil ⟨rfl, rfl, trivial⟩
 refine ogs rfl (isB_no hg108) rfl <| ogs rfl (isB_no hg108) rfl <| ogs rfl (isB_no hg108) rfl <| ov rfl (fun w' h' => p_f rfl hg108 rfl) ?_
 obtain rfl := oi hx
 exact mid_onil ⟨rfl, rfl, trivial⟩
 replace hx := hx114
 refine omv rfl rfl <| bs hx fun c121 hx hx128 => ?_
 refine wo_mid 4 [(21, (bv c121)), (1, (pt b85 0))] rfl ?_ ?_
 refine cs2 hx (fun hg122 hx => ?_) (fun hg122 hx => ?_)
 refine ogv rfl hg122 rfl (fun w' h' => r_fld u59 rfl rfl sz26 rfl) <| ogv rfl hg122 rfl (fun w' h' => r_ldB u26 rfl rfl (hM.call h') m0 rfl) <| bs hx fun _ h132 hx => ogc rfl hg122 rfl rfl (fun w' h' => (hM.call h').callV fun X S oL hS hR hO => ct_impl_TextOk _ X S c.text s_c_6 hS (hR _ m0) oL h132) <| ov rfl (fun w' h' => p_t rfl hg122 rfl) ?_
 obtain rfl := oi hx
 exact mid_onil ⟨rfl, rfl, trivial⟩
 refine ogs rfl (isB_no hg122) rfl <| ogs rfl (isB_no hg122) rfl <| ogs rfl (isB_no hg122) rfl <| ov rfl (fun w' h' => p_f rfl hg122 rfl) ?_
 obtain rfl := oi hx
 exact mid_onil ⟨rfl, rfl, trivial⟩
 replace hx := hx128
 refine omv rfl rfl <| bs hx fun c135 hx hx152 => ?_
 refine wo_midM 5 (fun _ : Unit => [(27, (bv c135))]) (fun _ w' => St ⟨w, X, S⟩ [oBox b85 #[(iv c.kind), (.string c.doc), (iv c.client), (iv c.seq), (iv c.n), s_c_5.v, s_c_6.v] 59] [rV s_c_6.v (cSl 1 fI c.text), rV s_c_5.v (cSl 3 fDPart c.o)] w') ?_ ?_
 refine cs2 hx (fun hg136 hx => ?_) (fun hg136 hx => ?_)
 refine ogv rfl hg136 rfl (fun w' h' => r_ldBS u59 sz59 rfl (us := [(iv c.kind), (.string c.doc), (iv c.client), (iv c.seq), (iv c.n), s_c_5.v, s_c_6.v]) rfl (hM.call h') m0 rfl) <| ogv rfl hg136 rfl (fun w' h' => r_ldBS u59 sz59 rfl (us := [(iv c.kind), (.string c.doc), (iv c.client), (iv c.seq), (iv c.n), s_c_5.v, s_c_6.v]) rfl (hM.call h') m0 rfl) <| bs hx fun r155 h156 hx => og_forced rfl hg136 rfl rfl (fun w' h' => (hM.call h').callFR fun X S oL hS hR => ct_impl_used _ X S c s_c_5 s_c_6 hS (hR _ m1) (hR _ m0) oL h156) ?_
 rintro w160 h161 _ w157 ⟨hR162, ⟨s158, s159⟩, rfl, hM⟩
 refine ⟨hR162, ?_⟩
 dsimp only [List.cons_append, List.nil_append] at hM
 refine bs hx fun _ h164 hx => ogc rfl hg136 rfl rfl (fun w' h' => (hM.call h').callV fun X S oL hS hR hO => ct_impl_CallSame _ X S c s_c_5 s_c_6 r155 s158 s159 hS (hR _ m3) (hR _ m2) (hR _ m0) (hR _ m1) oL h164) <| ov rfl (fun w' h' => p_t rfl hg136 rfl) ?_
 obtain rfl := oi hx
 replace hM : St ⟨w, X, S⟩ [oBox b85 #[(iv c.kind), (.string c.doc), (iv c.client), (iv c.seq), (iv c.n), s_c_5.v, s_c_6.v] 59] [rV s_c_6.v (cSl 1 fI c.text), rV s_c_5.v (cSl 3 fDPart c.o)] _ := hM.dropR 2
 exact mid_onilM () ⟨rfl, trivial⟩ fun w' h' => hM.call h'
 refine ogs rfl (isB_no hg136) rfl <| ogs rfl (isB_no hg136) rfl <| ogs1 rfl (isB_no hg136) rfl fun _ h167 => ?_
 have hM := hM.call h167
 refine ogs rfl (isB_no hg136) rfl <| ov rfl (fun w' h' => p_f rfl hg136 rfl) ?_
 obtain rfl := oi hx
 exact mid_onilM () ⟨rfl, trivial⟩ fun w' h' => hM.call h'
 rintro _ w168 hM
 replace hx := hx152
 refine ov rfl (fun w' h' => r_assign rfl) <| o_nilM hM fun _ hM => sq_n <| wc_ret ?_
 obtain rfl := oi hx
 exact fin_u [(bv c135)] hM ⟨rfl, trivial⟩ rfl

noncomputable def x_spec_l12Kind (k : Int) : Option Bool :=
  Option.bind (x_spec_l01In k 1 8) fun r3 => some r3
theorem ct_spec_l12Kind (w : World) (X S : Bs) (k : Int) (hS : SX X S w)  (oL : Sep [] X w) {r : Bool} (hx : x_spec_l12Kind k = some r) :
 Ret Tryz.prog 102 [(iv k)] w (KV X S w (bv r)) := by
 unfold x_spec_l12Kind at hx
 refine enter Tryz.func102 rfl Tryz.ntmps102 (by kernel_rfl) rfl ?_
 have hM := St.enter oL hS
 refine wc_sr <| was rfl rfl <| wl_sq <| wc_sr <| wmv rfl rfl <| bs hx fun r9 h10 hx => w_cv hM rfl rfl (fun X S oL hS hR hO => ct_spec_l01In _ X S k (1 : Int) (8 : Int) hS  oL h10) fun _ hM => was rfl rfl <| wl_sq <| wc_ret ?_
 obtain rfl := oi hx
 exact fin_u [(bv r9)] hM ⟨rfl, trivial⟩ rfl

noncomputable def x_spec_OnDoc (k : Int) : Option Bool :=
  Option.bind (x_spec_l01In k 1 5) fun r3 => some r3
theorem ct_spec_OnDoc (w : World) (X S : Bs) (k : Int) (hS : SX X S w)  (oL : Sep [] X w) {r : Bool} (hx : x_spec_OnDoc k = some r) :
 Ret Tryz.prog 75 [(iv k)] w (KV X S w (bv r)) := by
 unfold x_spec_OnDoc at hx
 refine enter Tryz.func75 rfl Tryz.ntmps75 (by kernel_rfl) rfl ?_
 have hM := St.enter oL hS
 refine wc_sr <| was rfl rfl <| wl_sq <| wc_sr <| wmv rfl rfl <| bs hx fun r9 h10 hx => w_cv hM rfl rfl (fun X S oL hS hR hO => ct_spec_l01In _ X S k (1 : Int) (5 : Int) hS  oL h10) fun _ hM => was rfl rfl <| wl_sq <| wc_ret ?_
 obtain rfl := oi hx
 exact fin_u [(bv r9)] hM ⟨rfl, trivial⟩ rfl

noncomputable def x_spec_CallOk (c : DCall) : Option Bool :=
  Option.bind (x_spec_l12Kind c.kind) fun r8 => Option.bind (bif !r8 then (some true) else (some (decide ((8 : Int) < (c.doc.size : Int))))) fun c13 => Option.bind (bif c13 then (some true) else (Option.bind (x_spec_l02Parts c.o) fun r34 => some (!r34))) fun c24 => Option.bind (bif c24 then (some true) else (Option.bind (x_spec_TextOk c.text) fun r49 => some (!r49))) fun c39 => bif c39 then (some false) else (Option.bind (x_spec_OnDoc c.kind) fun r56 => Option.bind (bif !r56 then (some (!decide (c.doc = (⟨#[]⟩ : ByteArray)))) else (some false)) fun c61 => Option.bind (bif c61 then (some true) else (Option.bind (bif !decide (c.kind = 1) then (some (decide ((0 : Int) < (c.text.length : Int)))) else (some false)) fun c90 => some c90)) fun c70 => Option.bind (bif c70 then (some true) else (Option.bind (bif !decide (c.kind = 2) then (Option.bind (bif decide ((0 : Int) < (c.o.length : Int)) then (some true) else (some (!decide (c.seq = 0)))) fun c159 => some c159) else (some false)) fun c139 => some c139)) fun c101 => bif c101 then (some false) else (Option.bind (bif decide (c.kind = 2) then (some true) else (some (decide (c.kind = 6)))) fun c172 => Option.bind (bif c172 then (some true) else (some (decide (c.kind = 7)))) fun c181 => Option.bind (bif decide (c.kind = 2) then (some true) else (some (decide (c.kind = 3)))) fun c194 => Option.bind (bif c194 then (some true) else (some (decide (c.kind = 5)))) fun c203 => Option.bind (bif c203 then (some true) else (some (decide (c.kind = 6)))) fun c212 => Option.bind (bif c181 then (some true) else (some (decide (c.client = 0)))) fun c223 => Option.bind (bif c223 then (Option.bind (bif c212 then (some true) else (some (decide (c.n = 0)))) fun c246 => some c246) else (some false)) fun c232 => some c232))
theorem ct_spec_CallOk (w : World) (X S : Bs) (c : DCall) (s_c_5 : Sv) (s_c_6 : Sv) (hS : SX X S w) (a_c_5 : (cSl 3 fDPart c.o).rd S w s_c_5.v) (a_c_6 : (cSl 1 fI c.text).rd S w s_c_6.v) (oL : Sep [] X w) {r : Bool} (hx : x_spec_CallOk c = some r) :
 Ret Tryz.prog 73 [(.agg #[(iv c.kind), (.string c.doc), (iv c.client), (iv c.seq), (iv c.n), s_c_5.v, s_c_6.v])] w (KV X S w (bv r)) := by
 unfold x_spec_CallOk at hx
 refine enter Tryz.func73 rfl Tryz.ntmps73 (by kernel_rfl) rfl ?_
 have hM := ((St.enter oL hS).addV a_c_5).addV a_c_6
 refine wc_sr ?_
 refine w_ex rfl (x_box rfl hM ?_); intro b256 w255 hR257 hM
 refine was rfl rfl <| wl_sq <| wc_seq <| wc_sr <| wv rfl (r_fld u59 rfl rfl sz3 rfl) <| wv rfl (r_ldB u3 rfl rfl hM m0 rfl) <| bs hx fun _ h263 hx => w_cv hM rfl rfl (fun X S oL hS hR hO => ct_spec_l12Kind _ X S c.kind hS  oL h263) fun _ hM => wv rfl (r_not rfl) <| wmv rfl rfl <| bs hx fun c267 hx hx273 => ?_
 refine wl_midH 5 [(14, (bv c267)), (1, (pt b256 0))] hM ?_ fun w274 hM => ?_
 refine cs2 hx (fun hg268 hx => ?_) (fun hg268 hx => ?_)
 refine gn hg268 rfl rfl <| gn hg268 rfl rfl <| gn hg268 rfl rfl <| gn hg268 rfl rfl <| wv rfl (p_t rfl hg268 rfl) ?_
 obtain rfl := oi hx
 exact mid_h ⟨rfl, rfl, trivial⟩ hM
 refine gv rfl hg268 rfl (r_fld u59 rfl rfl sz9 rfl) <| gv rfl hg268 rfl (r_ldB u9 rfl rfl hM m0 rfl) <| gv rfl hg268 rfl (r_lens u9 rfl) <| gv rfl hg268 rfl (r_gtr rfl rfl) <| wv rfl (p_f rfl hg268 rfl) ?_
 cases hx
 exact mid_h ⟨rfl, rfl, trivial⟩ hM
 replace hx := hx273
 refine wmv rfl rfl <| bs hx fun c280 hx hx288 => ?_
 refine wl_midH 5 [(20, (bv c280)), (1, (pt b256 0))] hM ?_ fun w289 hM => ?_
 refine cs2 hx (fun hg281 hx => ?_) (fun hg281 hx => ?_)
 refine gn hg281 rfl rfl <| gn hg281 rfl rfl <| gn hg281 rfl rfl <| gn hg281 rfl rfl <| wv rfl (p_t rfl hg281 rfl) ?_
 obtain rfl := oi hx
 exact mid_h ⟨rfl, rfl, trivial⟩ hM
 refine gv rfl hg281 rfl (r_fld u59 rfl rfl sz57 rfl) <| gv rfl hg281 rfl (r_ldB u57 rfl rfl hM m0 rfl) <| bs hx fun _ h293 hx => g_cv hM hg281 rfl rfl rfl (fun X S oL hS hR hO => ct_spec_l02Parts _ X S c.o s_c_5 hS (hR _ m1) oL h293) fun _ hM => gv rfl hg281 rfl (r_not rfl) <| wv rfl (p_f rfl hg281 rfl) ?_
 cases hx
 exact mid_h ⟨rfl, rfl, trivial⟩ hM
 replace hx := hx288
 refine wmv rfl rfl <| bs hx fun c297 hx hx305 => ?_
 refine wl_midH 5 [(26, (bv c297)), (1, (pt b256 0))] hM ?_ fun w306 hM => ?_
 refine cs2 hx (fun hg298 hx => ?_) (fun hg298 hx => ?_)
 refine gn hg298 rfl rfl <| gn hg298 rfl rfl <| gn hg298 rfl rfl <| gn hg298 rfl rfl <| wv rfl (p_t rfl hg298 rfl) ?_
 obtain rfl := oi hx
 exact mid_h ⟨rfl, rfl, trivial⟩ hM
 refine gv rfl hg298 rfl (r_fld u59 rfl rfl sz26 rfl) <| gv rfl hg298 rfl (r_ldB u26 rfl rfl hM m0 rfl) <| bs hx fun _ h310 hx => g_cv hM hg298 rfl rfl rfl (fun X S oL hS hR hO => ct_spec_TextOk _ X S c.text s_c_6 hS (hR _ m0) oL h310) fun _ hM => gv rfl hg298 rfl (r_not rfl) <| wv rfl (p_f rfl hg298 rfl) ?_
 cases hx
 exact mid_h ⟨rfl, rfl, trivial⟩ hM
 replace hx := hx305
 refine wl_sq ?_
 refine wcx hx rfl (fun hx => ?_) (fun hx => ?_)
 refine wc_sr <| was rfl rfl <| wl_sq <| wc_ret <| sq_ret ?_
 obtain rfl := oi hx
 exact fin_u [(bv false)] hM ⟨rfl, trivial⟩ rfl
 refine wc_skip <| sq_n <| wc_seq <| wc_sr <| wv rfl (r_fld u59 rfl rfl sz3 rfl) <| wv rfl (r_ldB u3 rfl rfl hM m0 rfl) <| bs hx fun _ h318 hx => w_cv hM rfl rfl (fun X S oL hS hR hO => ct_spec_OnDoc _ X S c.kind hS  oL h318) fun _ hM => wv rfl (r_not rfl) <| wmv rfl rfl <| bs hx fun c322 hx hx327 => ?_
 refine wl_midH 4 [(35, (bv c322)), (1, (pt b256 0))] hM ?_ fun w328 hM => ?_
 refine cs2 hx (fun hg323 hx => ?_) (fun hg323 hx => ?_)
 refine gv rfl hg323 rfl (r_fld u59 rfl rfl sz9 rfl) <| gv rfl hg323 rfl (r_ldB u9 rfl rfl hM m0 rfl) <| gv rfl hg323 rfl (r_neqs rfl rfl) <| wv rfl (p_t rfl hg323 rfl) ?_
 cases hx
 exact mid_h ⟨rfl, rfl, trivial⟩ hM
 refine gn hg323 rfl rfl <| gn hg323 rfl rfl <| gn hg323 rfl rfl <| wv rfl (p_f rfl hg323 rfl) ?_
 obtain rfl := oi hx
 exact mid_h ⟨rfl, rfl, trivial⟩ hM
 replace hx := hx327
 refine wmv rfl rfl <| bs hx fun c333 hx hx349 => ?_
 refine wl_midH 10 [(46, (bv c333)), (1, (pt b256 0))] hM ?_ fun w350 hM => ?_
 refine cs2 hx (fun hg334 hx => ?_) (fun hg334 hx => ?_)
 refine gn hg334 rfl rfl <| gn hg334 rfl rfl <| gn hg334 rfl rfl <| gn hg334 rfl rfl <| gs rfl rfl rfl <| gs rfl rfl rfl <| gs rfl rfl rfl <| gs rfl rfl rfl <| gn hg334 rfl rfl <| wv rfl (p_t rfl hg334 rfl) ?_
 obtain rfl := oi hx
 exact mid_h ⟨rfl, rfl, trivial⟩ hM
 refine gv rfl hg334 rfl (r_fld u59 rfl rfl sz3 rfl) <| gv rfl hg334 rfl (r_ldB u3 rfl rfl hM m0 rfl) <| gv rfl hg334 rfl (r_neq rfl rfl) <| gv rfl hg334 rfl (r_move rfl) <| bs hx fun c355 hx hx361 => ?_
 refine wl_midH 5 [(45, (bv c355)), (1, (pt b256 0)), (36, (bv c322))] hM ?_ fun w362 hM => ?_
 refine cs2 hx (fun hg356 hx => ?_) (fun hg356 hx => ?_)
 refine gv rfl hg356 rfl (r_fld u59 rfl rfl sz26 rfl) <| gv rfl hg356 rfl (r_ldB u26 rfl rfl hM m0 rfl) <| gv rfl hg356 rfl (r_lenC u26 rfl (hM.seeR m0)) <| gv rfl hg356 rfl (r_gtr rfl rfl) <| gv rfl hg334 rfl (p_t rfl hg356 rfl) ?_
 cases hx
 exact mid_h ⟨rfl, rfl, rfl, trivial⟩ hM
 refine gn hg356 rfl rfl <| gn hg356 rfl rfl <| gn hg356 rfl rfl <| gn hg356 rfl rfl <| gv rfl hg334 rfl (p_f rfl hg356 rfl) ?_
 obtain rfl := oi hx
 exact mid_h ⟨rfl, rfl, rfl, trivial⟩ hM
 replace hx := hx361
 refine wv rfl (p_f rfl hg334 rfl) ?_
 obtain rfl := oi hx
 exact mid_h ⟨rfl, rfl, trivial⟩ hM
 replace hx := hx349
 refine wmv rfl rfl <| bs hx fun c368 hx hx402 => ?_
 refine wl_midH 15 [(62, (bv c368)), (1, (pt b256 0))] hM ?_ fun w403 hM => ?_
 refine cs2 hx (fun hg369 hx => ?_) (fun hg369 hx => ?_)
 refine gn hg369 rfl rfl <| gn hg369 rfl rfl <| gn hg369 rfl rfl <| gn hg369 rfl rfl <| gs rfl rfl rfl <| gs rfl rfl rfl <| gs rfl rfl rfl <| gs rfl rfl rfl <| gs rfl rfl rfl <| gs rfl rfl rfl <| gs rfl rfl rfl <| gs rfl rfl rfl <| gs rfl rfl rfl <| gn hg369 rfl rfl ?_
 refine wv rfl (p_t rfl hg369 rfl) ?_
 obtain rfl := oi hx
 exact mid_h ⟨rfl, rfl, trivial⟩ hM
 refine gv rfl hg369 rfl (r_fld u59 rfl rfl sz3 rfl) <| gv rfl hg369 rfl (r_ldB u3 rfl rfl hM m0 rfl) <| gv rfl hg369 rfl (r_neq rfl rfl) <| gv rfl hg369 rfl (r_move rfl) <| bs hx fun c408 hx hx423 => ?_
 refine wl_midH 10 [(61, (bv c408)), (1, (pt b256 0)), (47, (bv c333))] hM ?_ fun w424 hM => ?_
 refine cs2 hx (fun hg409 hx => ?_) (fun hg409 hx => ?_)
 refine gv rfl hg409 rfl (r_fld u59 rfl rfl sz57 rfl) <| gv rfl hg409 rfl (r_ldB u57 rfl rfl hM m0 rfl) <| gv rfl hg409 rfl (r_lenC u57 rfl (hM.seeR m1)) <| gv rfl hg409 rfl (r_gtr rfl rfl) <| gv rfl hg409 rfl (r_move rfl) <| bs hx fun c430 hx hx435 => ?_
 refine wl_midH 4 [(60, (bv c430)), (1, (pt b256 0)), (47, (bv c333)), (51, (bv (!decide (c.kind = 2))))] hM ?_ fun w436 hM => ?_
 refine cs2 hx (fun hg431 hx => ?_) (fun hg431 hx => ?_)
 refine gn hg431 rfl rfl <| gn hg431 rfl rfl <| gn hg431 rfl rfl <| gv rfl hg409 rfl (p_t rfl hg431 rfl) ?_
 obtain rfl := oi hx
 exact mid_h ⟨rfl, rfl, rfl, rfl, trivial⟩ hM
 refine gv rfl hg431 rfl (r_fld u59 rfl rfl sz3 rfl) <| gv rfl hg431 rfl (r_ldB u3 rfl rfl hM m0 rfl) <| gv rfl hg431 rfl (r_neq rfl rfl) <| gv rfl hg409 rfl (p_f rfl hg431 rfl) ?_
 cases hx
 exact mid_h ⟨rfl, rfl, rfl, rfl, trivial⟩ hM
 replace hx := hx435
 refine gv rfl hg369 rfl (p_t rfl hg409 rfl) ?_
 obtain rfl := oi hx
 exact mid_h ⟨rfl, rfl, rfl, trivial⟩ hM
 refine gn hg409 rfl rfl <| gn hg409 rfl rfl <| gn hg409 rfl rfl <| gn hg409 rfl rfl <| gn hg409 rfl rfl <| gs rfl rfl rfl <| gs rfl rfl rfl <| gs rfl rfl rfl <| gn hg409 rfl rfl <| gv rfl hg369 rfl (p_f rfl hg409 rfl) ?_
 obtain rfl := oi hx
 exact mid_h ⟨rfl, rfl, rfl, trivial⟩ hM
 replace hx := hx423
 refine wv rfl (p_f rfl hg369 rfl) ?_
 obtain rfl := oi hx
 exact mid_h ⟨rfl, rfl, trivial⟩ hM
 replace hx := hx402
 refine wl_sq ?_
 refine wcx hx rfl (fun hx => ?_) (fun hx => ?_)
 refine wc_sr <| was rfl rfl <| wl_sq <| wc_ret <| sq_ret ?_
 obtain rfl := oi hx
 exact fin_u [(bv false)] hM ⟨rfl, trivial⟩ rfl
 refine wc_skip <| sq_n <| wc_sr <| wv rfl (r_fld u59 rfl rfl sz3 rfl) <| wv rfl (r_ldB u3 rfl rfl hM m0 rfl) <| wv rfl (r_eql rfl rfl) <| wmv rfl rfl <| bs hx fun c446 hx hx451 => ?_
 refine wl_midH 4 [(70, (bv c446)), (1, (pt b256 0))] hM ?_ fun w452 hM => ?_
 refine cs2 hx (fun hg447 hx => ?_) (fun hg447 hx => ?_)
 refine gn hg447 rfl rfl <| gn hg447 rfl rfl <| gn hg447 rfl rfl <| wv rfl (p_t rfl hg447 rfl) ?_
 obtain rfl := oi hx
 exact mid_h ⟨rfl, rfl, trivial⟩ hM
 refine gv rfl hg447 rfl (r_fld u59 rfl rfl sz3 rfl) <| gv rfl hg447 rfl (r_ldB u3 rfl rfl hM m0 rfl) <| gv rfl hg447 rfl (r_eql rfl rfl) <| wv rfl (p_f rfl hg447 rfl) ?_
 cases hx
 exact mid_h ⟨rfl, rfl, trivial⟩ hM
 replace hx := hx451
 refine wmv rfl rfl <| bs hx fun c457 hx hx462 => ?_
 refine wl_midH 4 [(75, (bv c457)), (1, (pt b256 0))] hM ?_ fun w463 hM => ?_
 refine cs2 hx (fun hg458 hx => ?_) (fun hg458 hx => ?_)
 refine gn hg458 rfl rfl <| gn hg458 rfl rfl <| gn hg458 rfl rfl <| wv rfl (p_t rfl hg458 rfl) ?_
 obtain rfl := oi hx
 exact mid_h ⟨rfl, rfl, trivial⟩ hM
 refine gv rfl hg458 rfl (r_fld u59 rfl rfl sz3 rfl) <| gv rfl hg458 rfl (r_ldB u3 rfl rfl hM m0 rfl) <| gv rfl hg458 rfl (r_eql rfl rfl) <| wv rfl (p_f rfl hg458 rfl) ?_
 cases hx
 exact mid_h ⟨rfl, rfl, trivial⟩ hM
 replace hx := hx462
 refine was rfl rfl <| wl_sq <| wc_sr <| wv rfl (r_fld u59 rfl rfl sz3 rfl) <| wv rfl (r_ldB u3 rfl rfl hM m0 rfl) <| wv rfl (r_eql rfl rfl) <| wmv rfl rfl <| bs hx fun c472 hx hx477 => ?_
 refine wl_midH 4 [(83, (bv c472)), (1, (pt b256 0)), (3, (bv c457))] hM ?_ fun w478 hM => ?_
 refine cs2 hx (fun hg473 hx => ?_) (fun hg473 hx => ?_)
 refine gn hg473 rfl rfl <| gn hg473 rfl rfl <| gn hg473 rfl rfl <| wv rfl (p_t rfl hg473 rfl) ?_
 obtain rfl := oi hx
 exact mid_h ⟨rfl, rfl, rfl, trivial⟩ hM
 refine gv rfl hg473 rfl (r_fld u59 rfl rfl sz3 rfl) <| gv rfl hg473 rfl (r_ldB u3 rfl rfl hM m0 rfl) <| gv rfl hg473 rfl (r_eql rfl rfl) <| wv rfl (p_f rfl hg473 rfl) ?_
 cases hx
 exact mid_h ⟨rfl, rfl, rfl, trivial⟩ hM
 replace hx := hx477
 refine wmv rfl rfl <| bs hx fun c483 hx hx488 => ?_
 refine wl_midH 4 [(88, (bv c483)), (1, (pt b256 0)), (3, (bv c457))] hM ?_ fun w489 hM => ?_
 refine cs2 hx (fun hg484 hx => ?_) (fun hg484 hx => ?_)
 refine gn hg484 rfl rfl <| gn hg484 rfl rfl <| gn hg484 rfl rfl <| wv rfl (p_t rfl hg484 rfl) ?_
 obtain rfl := oi hx
 exact mid_h ⟨rfl, rfl, rfl, trivial⟩ hM
 refine gv rfl hg484 rfl (r_fld u59 rfl rfl sz3 rfl) <| gv rfl hg484 rfl (r_ldB u3 rfl rfl hM m0 rfl) <| gv rfl hg484 rfl (r_eql rfl rfl) <| wv rfl (p_f rfl hg484 rfl) ?_
 cases hx
 exact mid_h ⟨rfl, rfl, rfl, trivial⟩ hM
 replace hx := hx488
 refine wmv rfl rfl <| bs hx fun c494 hx hx499 => ?_
 refine wl_midH 4 [(93, (bv c494)), (1, (pt b256 0)), (3, (bv c457))] hM ?_ fun w500 hM => ?_
 refine cs2 hx (fun hg495 hx => ?_) (fun hg495 hx => ?_)
 refine gn hg495 rfl rfl <| gn hg495 rfl rfl <| gn hg495 rfl rfl <| wv rfl (p_t rfl hg495 rfl) ?_
 obtain rfl := oi hx
 exact mid_h ⟨rfl, rfl, rfl, trivial⟩ hM
 refine gv rfl hg495 rfl (r_fld u59 rfl rfl sz3 rfl) <| gv rfl hg495 rfl (r_ldB u3 rfl rfl hM m0 rfl) <| gv rfl hg495 rfl (r_eql rfl rfl) <| wv rfl (p_f rfl hg495 rfl) ?_
 cases hx
 exact mid_h ⟨rfl, rfl, rfl, trivial⟩ hM
 replace hx := hx499
 refine was rfl rfl <| wl_sq <| wc_sr <| wmv rfl rfl <| wmv rfl rfl <| bs hx fun c507 hx hx512 => ?_
 refine wl_midH 4 [(99, (bv c507)), (1, (pt b256 0)), (4, (bv c494))] hM ?_ fun w513 hM => ?_
 refine cs2 hx (fun hg508 hx => ?_) (fun hg508 hx => ?_)
 refine gn hg508 rfl rfl <| gn hg508 rfl rfl <| gn hg508 rfl rfl <| wv rfl (p_t rfl hg508 rfl) ?_
 obtain rfl := oi hx
 exact mid_h ⟨rfl, rfl, rfl, trivial⟩ hM
 refine gv rfl hg508 rfl (r_fld u59 rfl rfl sz3 rfl) <| gv rfl hg508 rfl (r_ldB u3 rfl rfl hM m0 rfl) <| gv rfl hg508 rfl (r_eql rfl rfl) <| wv rfl (p_f rfl hg508 rfl) ?_
 cases hx
 exact mid_h ⟨rfl, rfl, rfl, trivial⟩ hM
 replace hx := hx512
 refine wmv rfl rfl <| bs hx fun c518 hx hx530 => ?_
 refine wl_midH 7 [(107, (bv c518))] hM ?_ fun w531 hM => ?_
 refine cs2 hx (fun hg519 hx => ?_) (fun hg519 hx => ?_)
 refine gv rfl hg519 rfl (r_move rfl) <| gv rfl hg519 rfl (r_move rfl) <| bs hx fun c534 hx hx539 => ?_
 refine wl_midH 4 [(106, (bv c534)), (100, (bv c507))] hM ?_ fun w540 hM => ?_
 refine cs2 hx (fun hg535 hx => ?_) (fun hg535 hx => ?_)
 refine gn hg535 rfl rfl <| gn hg535 rfl rfl <| gn hg535 rfl rfl <| gv rfl hg519 rfl (p_t rfl hg535 rfl) ?_
 obtain rfl := oi hx
 exact mid_h ⟨rfl, rfl, trivial⟩ hM
 refine gv rfl hg535 rfl (r_fld u59 rfl rfl sz3 rfl) <| gv rfl hg535 rfl (r_ldB u3 rfl rfl hM m0 rfl) <| gv rfl hg535 rfl (r_eql rfl rfl) <| gv rfl hg519 rfl (p_f rfl hg535 rfl) ?_
 cases hx
 exact mid_h ⟨rfl, rfl, trivial⟩ hM
 replace hx := hx539
 refine wv rfl (p_t rfl hg519 rfl) ?_
 obtain rfl := oi hx
 exact mid_h ⟨rfl, trivial⟩ hM
 refine gn hg519 rfl rfl <| gn hg519 rfl rfl <| gs rfl rfl rfl <| gs rfl rfl rfl <| gs rfl rfl rfl <| gn hg519 rfl rfl <| wv rfl (p_f rfl hg519 rfl) ?_
 obtain rfl := oi hx
 exact mid_h ⟨rfl, trivial⟩ hM
 replace hx := hx530
 refine was rfl rfl <| wl_sq <| wc_ret ?_
 obtain rfl := oi hx
 exact fin_u [(bv c518)] hM ⟨rfl, trivial⟩ rfl

end Go.Proofs.YtjbonmmmcnpjiaaGreatDoor
