/- Walks of functions of this program (printed by a program of ours, by the rules of the layer). No condition. -/
import Derived.Test.YtjbonmmmcnpjiaaGreatDoorG1
import Derived.Test.YtjbonmmmcnpjiaaGreatDoorNw
namespace Go.Proofs.YtjbonmmmcnpjiaaGreatDoor
open Go.RowKit

noncomputable def x_impl_normal_1 (p : List Int) (px : List DPart) (pxx : Int) : Option (List Int × List DPart × Int) :=
  bif decide ((0 : Int) < (p.length : Int)) then (xg (px.length < 1099511627776) <| bif decide ((0 : Int) < pxx) then (xg ((px ++ [(⟨2, 0, p⟩ : DPart)]).length < 1099511627776) <| some ([], (px ++ [(⟨2, 0, p⟩ : DPart)]) ++ [(⟨3, pxx, []⟩ : DPart)], 0)) else (some ([], px ++ [(⟨2, 0, p⟩ : DPart)], 0))) else (bif decide ((0 : Int) < pxx) then (xg (px.length < 1099511627776) <| some ([], px ++ [(⟨3, pxx, []⟩ : DPart)], 0)) else (some ([], px, 0)))
theorem ct_impl_normal_1 (w : World) (X S : Bs) (b_p : Nat) (p : List Int) (s_p : Sv) (b_px : Nat) (px : List DPart) (s_px : Sv) (b_pxx : Nat) (pxx : Int) (hS : SX X S w)  (oL : Sep [oBox b_p #[s_p.v] 26, oC (cSl 1 fI p) s_p.v, oBox b_px #[s_px.v] 57, oC (cSl 3 fDPart px) s_px.v, oBox b_pxx #[(iv pxx)] 3] X w) {r : List Int × List DPart × Int} (hx : x_impl_normal_1 p px pxx = some r) :
 Ret Tryz.prog 218 [(pt b_p 0), (pt b_px 0), (pt b_pxx 0)] w (fun u w' => ∃ y : Sv × Sv, u = .tuple #[] ∧ Gives X S w [oBox b_p #[y.1.v] 26, oC (cSl 1 fI r.1) y.1.v, oBox b_px #[y.2.v] 57, oC (cSl 3 fDPart r.2.1) y.2.v, oBox b_pxx #[(iv r.2.2)] 3] [] w') := by
 unfold x_impl_normal_1 at hx
 refine enter Tryz.func218 rfl Tryz.ntmps218 (by kernel_rfl) rfl ?_
 have hM := St.enter oL hS
 refine wc_seq <| wc_sr <| wv rfl (r_ldB u26 rfl rfl hM m0 rfl) <| wv rfl (r_lenC u26 rfl (hM.seeO m1)) <| wv rfl (r_gtr rfl rfl) <| wl_sq ?_
 refine wcx hx rfl (fun hx => ?_) (fun hx => ?_)
 refine wc_region <| wv rfl (r_ldB u57 rfl rfl hM m2 rfl) <| wv rfl (r_ldB u26 rfl rfl hM m0 rfl) <| wv rfl (r_build (cells := #[(iv 2), (iv 0), s_p.v]) rfl (by kernel_rfl)) ?_
 replace hM := hM.p1.p3
 refine xgs hx fun hg66 hx => ?_
 refine w_push (f := fDPart) (⟨2, 0, p⟩ : DPart) rfl rfl u57 sz156 rfl rfl rfl rfl (fun _ => rfl) hM (fun _ => zP (pV _ rfl) (zP (pV _ rfl) (zO zN))) rfl hg66 rfl ?_; intro u64 s65 w63 hM
 replace hM := hM.p2
 refine w_exu (x_stB #[s65.v] sz57 rfl rfl rfl rfl rfl rfl hM ?_); intro w67 hM
 refine wl_sq <| wc_seq <| wc_sr <| wv rfl (r_ldB u3 rfl rfl hM m3 rfl) <| wv rfl (r_gtr rfl rfl) <| wl_sq ?_
 refine wcx hx rfl (fun hx => ?_) (fun hx => ?_)
 refine wc_region <| wv rfl (r_ldB u57 rfl rfl hM m0 rfl) <| wv rfl (r_ldB u3 rfl rfl hM m3 rfl) <| wv rfl (r_build (cells := #[(iv 3), (iv pxx), (.slice none 0 0)]) rfl (by kernel_rfl)) ?_
 replace hM := hM.p1
 refine xgs hx fun hg78 hx => ?_
 refine w_push (f := fDPart) (⟨3, pxx, []⟩ : DPart) rfl rfl u57 sz156 rfl rfl rfl rfl (fun _ => rfl) hM (fun _ => zP (pV _ rfl) (zP (pV _ rfl) (zP (pN _ _) zN))) rfl hg78 rfl ?_; intro u76 s77 w75 hM
 replace hM := hM.p1
 refine w_exu (x_stB #[s77.v] sz57 rfl rfl rfl rfl rfl rfl hM ?_); intro w79 hM
 refine wl_sq <| wc_region ?_
 replace hM := hM.p2
 refine w_exu (x_stB #[(.slice none 0 0)] sz26 rfl rfl rfl rfl rfl rfl hM ?_); intro w81 hM
 replace hM := hM.p3
 refine w_exu (x_stB #[(iv 0)] sz3 rfl rfl rfl rfl rfl rfl hM ?_); intro w83 hM
 refine wl_nil ?_
 obtain rfl := oi hx
 have hM := hM.nil0 (T := Int) 1 fI
 refine fin_end [] trivial ?_
 replace hM := hM.p1.p4.p4.p3.p4
 replace hM := hM.t5
 exact ⟨(nS, s77), rfl, (hM.fewer rsN).gives⟩
 refine wc_skip <| sq_n <| wc_region ?_
 replace hM := hM.p2
 refine w_exu (x_stB #[(.slice none 0 0)] sz26 rfl rfl rfl rfl rfl rfl hM ?_); intro w86 hM
 replace hM := hM.p3
 refine w_exu (x_stB #[(iv 0)] sz3 rfl rfl rfl rfl rfl rfl hM ?_); intro w88 hM
 refine wl_nil ?_
 obtain rfl := oi hx
 have hM := hM.nil0 (T := Int) 1 fI
 refine fin_end [] trivial ?_
 replace hM := hM.p1.p4.p4.p3.p4
 replace hM := hM.t5
 exact ⟨(nS, s65), rfl, (hM.fewer rsN).gives⟩
 refine wc_skip <| sq_n <| wc_seq <| wc_sr <| wv rfl (r_ldB u3 rfl rfl hM m4 rfl) <| wv rfl (r_gtr rfl rfl) <| wl_sq ?_
 refine wcx hx rfl (fun hx => ?_) (fun hx => ?_)
 refine wc_region <| wv rfl (r_ldB u57 rfl rfl hM m2 rfl) <| wv rfl (r_ldB u3 rfl rfl hM m4 rfl) <| wv rfl (r_build (cells := #[(iv 3), (iv pxx), (.slice none 0 0)]) rfl (by kernel_rfl)) ?_
 replace hM := hM.p3
 refine xgs hx fun hg100 hx => ?_
 refine w_push (f := fDPart) (⟨3, pxx, []⟩ : DPart) rfl rfl u57 sz156 rfl rfl rfl rfl (fun _ => rfl) hM (fun _ => zP (pV _ rfl) (zP (pV _ rfl) (zP (pN _ _) zN))) rfl hg100 rfl ?_; intro u98 s99 w97 hM
 replace hM := hM.p3
 refine w_exu (x_stB #[s99.v] sz57 rfl rfl rfl rfl rfl rfl hM ?_); intro w101 hM
 refine wl_sq <| wc_region ?_
 replace hM := hM.p2
 refine w_exu (x_stB #[(.slice none 0 0)] sz26 rfl rfl rfl rfl rfl rfl hM ?_); intro w103 hM
 replace hM := hM.p4
 refine w_exu (x_stB #[(iv 0)] sz3 rfl rfl rfl rfl rfl rfl hM ?_); intro w105 hM
 refine wl_nil ?_
 obtain rfl := oi hx
 have hM := hM.nil0 (T := Int) 1 fI
 refine fin_end [] trivial ?_
 replace hM := hM.p1.p4.p4.p3.p4
 replace hM := hM.t5
 exact ⟨(nS, s99), rfl, (hM.fewer rsN).gives⟩
 refine wc_skip <| sq_n <| wc_region ?_
 refine w_exu (x_stB #[(.slice none 0 0)] sz26 rfl rfl rfl rfl rfl rfl hM ?_); intro w108 hM
 replace hM := hM.p4
 refine w_exu (x_stB #[(iv 0)] sz3 rfl rfl rfl rfl rfl rfl hM ?_); intro w110 hM
 refine wl_nil ?_
 obtain rfl := oi hx
 have hM := hM.nil0 (T := Int) 1 fI
 refine fin_end [] trivial ?_
 replace hM := hM.p1.p5.p5.p3.p4
 replace hM := hM.t5
 exact ⟨(nS, s_px), rfl, (hM.fewer rsN).gives⟩

noncomputable def x_impl_normal_b0 (_o : List DPart) (_k144 : Nat) (x386 : DPart) (l145 : List Int) (n146 : Int) (l147 : List DPart) : Option (Lr (List Int × Int × List DPart) (List DPart × List Int × Int)) :=
  bif decide ((x386.kind) = 2) then (xg (l145.length + (x386.signs).length ≤ 1099511627776) <| some (Lr.go (l145 ++ (x386.signs), n146, l147))) else (bif decide ((x386.kind) = 3) then (xg (inI (n146 + (x386.n))) <| some (Lr.go (l145, n146 + (x386.n), l147))) else (bif decide ((0 : Int) < (x386.n)) then (Option.bind (x_impl_normal_1 l145 l147 n146) fun r314 => Option.bind (bif decide ((0 : Int) < (r314.2.1.length : Int)) then (xg (inI ((r314.2.1.length : Int) - 1)) <| xg (0 ≤ ((r314.2.1.length : Int) - 1) ∧ ((r314.2.1.length : Int) - 1) < (r314.2.1.length : Int)) <| some (decide (((el r314.2.1 (((r314.2.1.length : Int) - 1).toNat)).kind) = 1))) else (some false)) fun c325 => bif c325 then (xg (inI ((r314.2.1.length : Int) - 1)) <| xg (0 ≤ ((r314.2.1.length : Int) - 1) ∧ ((r314.2.1.length : Int) - 1) < (r314.2.1.length : Int)) <| xg (inI (((el r314.2.1 (((r314.2.1.length : Int) - 1).toNat)).n) + (x386.n))) <| xg (0 ≤ ((r314.2.1.length : Int) - 1) ∧ ((r314.2.1.length : Int) - 1) < (r314.2.1.length : Int)) <| some (Lr.go (r314.1, r314.2.2, r314.2.1.set (((r314.2.1.length : Int) - 1).toNat) (⟨(el r314.2.1 (((r314.2.1.length : Int) - 1).toNat)).kind, ((el r314.2.1 (((r314.2.1.length : Int) - 1).toNat)).n) + (x386.n), (el r314.2.1 (((r314.2.1.length : Int) - 1).toNat)).signs⟩ : DPart)))) else (xg (r314.2.1.length < 1099511627776) <| some (Lr.go (r314.1, r314.2.2, r314.2.1 ++ [(⟨1, x386.n, []⟩ : DPart)])))) else (some (Lr.go (l145, n146, l147)))))
noncomputable def x_impl_normal_f0 (o : List DPart) (k144 : Nat) (s387 : List Int × Int × List DPart) : Option (Lr (List Int × Int × List DPart) (List DPart × List Int × Int)) := x_impl_normal_b0 o k144 (el o k144) s387.1 s387.2.1 s387.2.2
noncomputable def x_impl_normal (o : List DPart) : Option (List DPart) :=
  Option.bind (eachN (x_impl_normal_f0 o) (fun (s387 : List Int × Int × List DPart) => ((s387.2.2, s387.1, s387.2.1) : List DPart × List Int × Int)) o.length 0 ([], 0, [])) fun (y388 : List DPart × List Int × Int) => Option.bind (x_impl_normal_1 y388.2.1 y388.1 y388.2.2) fun r394 => some r394.2.1
theorem ct_impl_normal (w : World) (X S : Bs) (o : List DPart) (s_o : Sv) (hS : SX X S w) (a_o_0 : (cSl 3 fDPart o).rd S w s_o.v) (oL : Sep [] X w) {r : List DPart} (hx : x_impl_normal o = some r) :
 Ret Tryz.prog 205 [s_o.v] w (fun u w' => ∃ y : Sv, u = y.v ∧ Gives X S w [oC (cSl 3 fDPart r) y.v] [] w') := by
 unfold x_impl_normal at hx
 refine enter Tryz.func205 rfl Tryz.ntmps205 (by kernel_rfl) rfl ?_
 have hM := (St.enter oL hS).addV a_o_0
 refine wc_sr <| was rfl rfl <| wl_sq <| wc_sr ?_
 refine w_ex rfl (x_alloc sz57 hM ?_); intro b403 w402 hR404 hM
 refine wl_sq <| wc_sr ?_
 refine w_ex rfl (x_alloc sz26 hM ?_); intro b407 w406 hR408 hM
 refine wl_sq <| wc_sr ?_
 refine w_ex rfl (x_alloc sz3 hM ?_); intro b411 w410 hR412 hM
 refine w_exu (x_stB #[(iv 0)] sz3 rfl rfl rfl rfl rfl rfl hM ?_); intro w414 hM
 refine wl_sq <| wc_sr <| wv rfl (r_mkfn (caps := [.tmp 4, .tmp 3, .tmp 5]) (vs := [(pt b407 0), (pt b403 0), (pt b411 0)]) rfl) <| was rfl rfl <| wl_sq <| wc_seq <| wc_sr <| wmv rfl rfl <| wv rfl (r_lenC u57 rfl (hM.seeR m0)) <| wmv rfl rfl <| wl_sq <| wc_block <| bs hx fun y421 hx hx422 => ?_
 have hM := hM.nil0 (T := Int) 1 fI
 have hM := hM.nil0 (T := DPart) 3 fDPart
 replace hM := hM.p1.p2.p3.p4
 have hl435 := Cs.le (hM.seeR m0)
 refine wc_loop (un fun (m432 : Nat) => un fun (k433 : Nat) => un fun (l425 : List Int) => un fun (n426 : Int) => un fun (l427 : List DPart) => un fun (s429 : Sv) => fun (s431 : Sv) => [(3, (pt b403 0)), (4, (pt b407 0)), (5, (pt b411 0)), (6, (.func (.func 218) #[] #[(pt b407 0), (pt b403 0), (pt b411 0)])), (11, s_o.v), (12, (iv (o.length : Int))), (13, (iv (k433 : Int)))]) (un fun (m432 : Nat) => un fun (k433 : Nat) => un fun (l425 : List Int) => un fun (n426 : Int) => un fun (l427 : List DPart) => un fun (s429 : Sv) => fun (s431 : Sv) w' => St ⟨w, X, S⟩ [oBox b403 #[s431.v] 57, oBox b407 #[s429.v] 26, oBox b411 #[(iv n426)] 3, oC (cSl 1 fI l425) s429.v, oC (cSl 3 fDPart l427) s431.v] [rV s_o.v (cSl 3 fDPart o)] w' ∧ eachN _ _ m432 k433 (l425, n426, l427) = some y421 ∧ k433 + m432 = o.length) (fun p => p.1) (o.length, 0, [], 0, [], nS, nS) ⟨rfl, rfl, rfl, rfl, rfl, rfl, rfl, trivial⟩ ⟨hM, hx, Nat.zero_add _⟩ ?_
 rintro ⟨m432, k433, l425, n426, l427, s429, s431⟩ w436 ⟨hM, hx, hk434⟩
 refine wc_sr <| wv rfl (r_lss rfl rfl) <| wl_sq <| wc_seq ?_
 refine wc_cond rfl (fun hc438 => ?_) (fun hc438 => ?_)
 replace hc438 := of_decide_eq_true hc438
 obtain ⟨m439, z440, rfl, hk434, hx, hx441⟩ := eachN_step hx hk434 hc438
 unfold x_impl_normal_f0 x_impl_normal_b0 at hx
 try dsimp only at hx
 refine wc_skip <| sq_n <| wc_seq <| wc_block <| wc_sr ?_
 have hi443 : k433 < o.length := by omega
 refine wv rfl (r_ixC u57 sz156 rfl rfl (hM.seeR m0) ⟨by omega, hc438⟩) ?_
 obtain ⟨s445, hM, hc446⟩ := hM.leaf (i := k433) (j := 2) m0 (fun _ => rfl) hi443 rfl
 refine wv rfl (r_ldC (o := k433 * 3) u156 sz156 rfl (us := [(iv ((el o k433).kind)), (iv ((el o k433).n)), s445.v]) rfl (hM.seeR m1) hi443 ⟨(Cs.get (i := k433) (j := 0) (hM.seeR m1) (fun _ => rfl) hi443 rfl), (Cs.get (i := k433) (j := 1) (hM.seeR m1) (fun _ => rfl) hi443 rfl), (hc446 _ (Rel.refl _)), trivial⟩) ?_
 refine w_ex rfl (x_alloc sz156 hM ?_); intro b448 w447 hR449 hM
 refine w_exu (x_stB #[(iv ((el o k433).kind)), (iv ((el o k433).n)), s445.v] sz156 rfl rfl rfl rfl rfl rfl hM ?_); intro w451 hM
 refine wl_sq <| wc_block <| wc_sr <| wv rfl (r_fld u156 rfl rfl sz3 rfl) <| wv rfl (r_ldB u3 rfl rfl hM m0 rfl) <| wv rfl (r_eql rfl rfl) <| was rfl rfl <| wl_sq ?_
 refine wcx hx rfl (fun hx => ?_) (fun hx => ?_)
 refine wc_region <| wv rfl (r_ldB u26 rfl rfl hM m2 rfl) <| wv rfl (r_fld u156 rfl rfl sz26 rfl) <| wv rfl (r_ldB u26 rfl rfl hM m0 rfl) ?_
 replace hM := hM.p4
 refine xgs hx fun hg463 hx => ?_
 refine w_ex rfl (x_append u26 sz3 rfl rfl (hM.seeR m0) flI hM hg463 rfl ?_); intro s462 w461 hM
 replace hM := hM.p3
 refine w_exu (x_stB #[s462.v] sz26 rfl rfl rfl rfl rfl rfl hM ?_); intro w465 hM
 refine wl_nil <| bk_n <| bk_n <| sq_n <| wc_region <| wv rfl (r_add rfl rfl ⟨by omega, by omega⟩) <| wmv rfl rfl <| wl_nil ?_
 cases hx
 replace hM := hM.p5.p2.p5.p3.p5
 replace hM := hM.t5
 have hM := hM.fewer (rsC m1 rsN)
 replace hM : St ⟨w, X, S⟩ [oBox b403 #[s431.v] 57, oBox b407 #[s462.v] 26, oBox b411 #[(iv n426)] 3, oC (cSl 1 fI (l425 ++ ((el o k433).signs))) s462.v, oC (cSl 3 fDPart l427) s431.v] [rV s_o.v (cSl 3 fDPart o)] _ := hM
 exact lp_end (m439, k433 + 1, l425 ++ ((el o k433).signs), n426, l427, s462, s431) (Nat.lt_succ_self _) ⟨rfl, rfl, rfl, rfl, rfl, rfl, rfl, trivial⟩ ⟨hM, hx441, hk434⟩
 refine wc_sr <| wv rfl (r_fld u156 rfl rfl sz3 rfl) <| wv rfl (r_ldB u3 rfl rfl hM m0 rfl) <| wv rfl (r_eql rfl rfl) <| was rfl rfl <| wl_sq ?_
 refine wcx hx rfl (fun hx => ?_) (fun hx => ?_)
 refine wc_region <| wv rfl (r_ldB u3 rfl rfl hM m3 rfl) <| wv rfl (r_fld u156 rfl rfl sz3 rfl) <| wv rfl (r_ldB u3 rfl rfl hM m0 rfl) <| xgs hx fun hg478 hx => wv rfl (r_add rfl rfl hg478) ?_
 replace hM := hM.p3
 refine w_exu (x_stB #[(iv (n426 + ((el o k433).n)))] sz3 rfl rfl rfl rfl rfl rfl hM ?_); intro w479 hM
 refine wl_nil <| bk_n <| bk_n <| sq_n <| wc_region <| wv rfl (r_add rfl rfl ⟨by omega, by omega⟩) <| wmv rfl rfl <| wl_nil ?_
 cases hx
 replace hM := hM.p5.p5.p2.p5.p5
 replace hM := hM.t5
 have hM := hM.fewer (rsC m1 rsN)
 replace hM : St ⟨w, X, S⟩ [oBox b403 #[s431.v] 57, oBox b407 #[s429.v] 26, oBox b411 #[(iv (n426 + ((el o k433).n)))] 3, oC (cSl 1 fI l425) s429.v, oC (cSl 3 fDPart l427) s431.v] [rV s_o.v (cSl 3 fDPart o)] _ := hM
 exact lp_end (m439, k433 + 1, l425, n426 + ((el o k433).n), l427, s429, s431) (Nat.lt_succ_self _) ⟨rfl, rfl, rfl, rfl, rfl, rfl, rfl, trivial⟩ ⟨hM, hx441, hk434⟩
 refine wc_sr <| wv rfl (r_fld u156 rfl rfl sz3 rfl) <| wv rfl (r_ldB u3 rfl rfl hM m0 rfl) <| wv rfl (r_gtr rfl rfl) <| was rfl rfl <| wl_sq ?_
 refine wcx hx rfl (fun hx => ?_) (fun hx => ?_)
 refine wc_sr <| wmv rfl rfl ?_
 replace hM := hM.p3.p5.p3.p5.p5
 refine bs hx fun r489 h490 hx => w_callv (cap := [(pt b407 0), (pt b403 0), (pt b411 0)]) rfl rfl rfl (hM.callO (l := [oBox b407 #[s429.v] 26, oC (cSl 1 fI l425) s429.v, oBox b403 #[s431.v] 57, oC (cSl 3 fDPart l427) s431.v, oBox b411 #[(iv n426)] 3]) fun X S oL hS hR hO => ct_impl_normal_1 _ X S b407 l425 s429 b403 l427 s431 b411 n426 hS  oL h490) ?_
 rintro _ w491 ⟨⟨s492, s493⟩, rfl, hM⟩
 dsimp only [List.cons_append, List.nil_append] at hM
 refine wl_sq <| wc_sr <| wv rfl (r_ldB u57 rfl rfl hM m2 rfl) <| wv rfl (r_lenC u57 rfl (hM.seeO m3)) <| was rfl rfl <| wl_sq <| wc_sr <| wmv rfl rfl <| wv rfl (r_gtr rfl rfl) <| wmv rfl rfl <| bs hx fun c500 hx hx512 => ?_
 refine wl_midH 8 [(51, (bv c500)), (3, (pt b403 0)), (4, (pt b407 0)), (5, (pt b411 0)), (6, (.func (.func 218) #[] #[(pt b407 0), (pt b403 0), (pt b411 0)])), (8, (pt b448 0)), (9, (iv (r489.2.1.length : Int))), (11, s_o.v), (12, (iv (o.length : Int))), (13, (iv (k433 : Int)))] hM ?_ fun w513 hM => ?_
 refine cs2 hx (fun hg501 hx => ?_) (fun hg501 hx => ?_)
 refine gv rfl hg501 rfl (r_ldB u57 rfl rfl hM m2 rfl) <| gv rfl hg501 rfl (r_move rfl) <| xgs hx fun hg517 hx => gv rfl hg501 rfl (r_sub rfl rfl hg517) <| xgs hx fun hg520 hx => ?_
 have hi519 : (((r489.2.1.length : Int) - 1).toNat) < r489.2.1.length := by omega
 refine gv rfl hg501 rfl (r_ixC u57 sz156 rfl rfl (hM.seeO m3) hg520) <| gv rfl hg501 rfl (r_fldC (i := (((r489.2.1.length : Int) - 1).toNat)) u156 rfl rfl sz3 rfl (hM.seeO m3) hi519) <| gv rfl hg501 rfl (r_ld u3 rfl rfl (Cs.get (i := (((r489.2.1.length : Int) - 1).toNat)) (j := 0) (hM.seeO m3) (fun _ => rfl) hi519 rfl)) <| gv rfl hg501 rfl (r_eql rfl rfl) <| wv rfl (p_t rfl hg501 rfl) ?_
 cases hx
 exact mid_h ⟨rfl, rfl, rfl, rfl, rfl, rfl, rfl, rfl, rfl, rfl, trivial⟩ hM
 refine gn hg501 rfl rfl <| gn hg501 rfl rfl <| gn hg501 rfl rfl <| gn hg501 rfl rfl <| gn hg501 rfl rfl <| gn hg501 rfl rfl <| gn hg501 rfl rfl <| wv rfl (p_f rfl hg501 rfl) ?_
 obtain rfl := oi hx
 exact mid_h ⟨rfl, rfl, rfl, rfl, rfl, rfl, rfl, rfl, rfl, rfl, trivial⟩ hM
 replace hx := hx512
 refine wl_sq ?_
 refine wcx hx rfl (fun hx => ?_) (fun hx => ?_)
 refine wc_draw [(0, 0), (1, 0), (2, 0), (3, 0), (4, 0), (5, 0), (6, 0), (7, 0), (8, 0), (9, 0), (10, 0), (11, 2)] Tryz_mixed (by kernel_rfl) rfl (by kernel_rfl) rfl <| ov rfl (fun w' h' => r_ldB u57 rfl rfl (hM.call h') m2 rfl) <| omv rfl rfl <| xgs hx fun hg528 hx => ov rfl (fun w' h' => r_sub rfl rfl hg528) <| xgs hx fun hg531 hx => ?_
 have hi530 : (((r489.2.1.length : Int) - 1).toNat) < r489.2.1.length := by omega
 refine ov rfl (fun w' h' => r_ixC u57 sz156 rfl rfl ((hM.call h').seeO m3) hg531) <| ov rfl (fun w' h' => r_fldC (i := (((r489.2.1.length : Int) - 1).toNat)) u156 rfl rfl sz3 rfl ((hM.call h').seeO m3) hi530) <| ov rfl (fun w' h' => r_ld u3 rfl rfl (Cs.get (i := (((r489.2.1.length : Int) - 1).toNat)) (j := 1) ((hM.call h').seeO m3) (fun _ => rfl) hi530 rfl)) <| ov rfl (fun w' h' => r_fld u156 rfl rfl sz3 rfl) <| ov rfl (fun w' h' => r_ldB u3 rfl rfl (hM.call h') m5 rfl) <| xgs hx fun hg537 hx => ov rfl (fun w' h' => r_add rfl rfl hg537) <| xgs hx fun hg540 hx => ?_
 have hi539 : (((r489.2.1.length : Int) - 1).toNat) < r489.2.1.length := by omega
 refine ov rfl (fun w' h' => r_ixC u57 sz156 rfl rfl ((hM.call h').seeO m3) hg540) <| ov rfl (fun w' h' => r_fldC (i := (((r489.2.1.length : Int) - 1).toNat)) u156 rfl rfl sz3 rfl ((hM.call h').seeO m3) hi539) ?_
 replace hM := hM.p3
 refine o_exu fun _ h545 => ?_
 have hM := hM.call h545
 refine x_stE (f := fDPart) (k := 3) (L := r489.2.1) (i := (((r489.2.1.length : Int) - 1).toNat)) (j := 1) (⟨(el r489.2.1 (((r489.2.1.length : Int) - 1).toNat)).kind, ((el r489.2.1 (((r489.2.1.length : Int) - 1).toNat)).n) + ((el o k433).n), (el r489.2.1 (((r489.2.1.length : Int) - 1).toNat)).signs⟩ : DPart) [cI (((el r489.2.1 (((r489.2.1.length : Int) - 1).toNat)).n) + ((el o k433).n))] sz3 (fun _ => rfl) rfl rfl hi539 rfl rfl rfl rfl rfl (fun _ => zP (pV _ rfl) zN) hM ?_; intro w542 hM
 refine o_nilM hM fun _ hM => bk_n <| bk_n <| sq_n <| wc_region <| wv rfl (r_add rfl rfl ⟨by omega, by omega⟩) <| wmv rfl rfl <| wl_nil ?_
 cases hx
 replace hM := hM.p2.p4.p3.p4
 replace hM := hM.t5
 have hM := hM.fewer (rsC m1 rsN)
 replace hM : St ⟨w, X, S⟩ [oBox b403 #[s493.v] 57, oBox b407 #[s492.v] 26, oBox b411 #[(iv r489.2.2)] 3, oC (cSl 1 fI r489.1) s492.v, oC (cSl 3 fDPart (r489.2.1.set (((r489.2.1.length : Int) - 1).toNat) (⟨(el r489.2.1 (((r489.2.1.length : Int) - 1).toNat)).kind, ((el r489.2.1 (((r489.2.1.length : Int) - 1).toNat)).n) + ((el o k433).n), (el r489.2.1 (((r489.2.1.length : Int) - 1).toNat)).signs⟩ : DPart))) s493.v] [rV s_o.v (cSl 3 fDPart o)] _ := hM
 exact lp_end (m439, k433 + 1, r489.1, r489.2.2, r489.2.1.set (((r489.2.1.length : Int) - 1).toNat) (⟨(el r489.2.1 (((r489.2.1.length : Int) - 1).toNat)).kind, ((el r489.2.1 (((r489.2.1.length : Int) - 1).toNat)).n) + ((el o k433).n), (el r489.2.1 (((r489.2.1.length : Int) - 1).toNat)).signs⟩ : DPart), s492, s493) (Nat.lt_succ_self _) ⟨rfl, rfl, rfl, rfl, rfl, rfl, rfl, trivial⟩ ⟨hM, hx441, hk434⟩
 refine wc_region <| wv rfl (r_ldB u57 rfl rfl hM m2 rfl) <| wv rfl (r_fld u156 rfl rfl sz3 rfl) <| wv rfl (r_ldB u3 rfl rfl hM m5 rfl) <| wv rfl (r_build (cells := #[(iv 1), (iv ((el o k433).n)), (.slice none 0 0)]) rfl (by kernel_rfl)) ?_
 replace hM := hM.p3
 refine xgs hx fun hg557 hx => ?_
 refine w_push (f := fDPart) (⟨1, (el o k433).n, []⟩ : DPart) rfl rfl u57 sz156 rfl rfl rfl rfl (fun _ => rfl) hM (fun _ => zP (pV _ rfl) (zP (pV _ rfl) (zP (pN _ _) zN))) rfl hg557 rfl ?_; intro u555 s556 w554 hM
 replace hM := hM.p3
 refine w_exu (x_stB #[s556.v] sz57 rfl rfl rfl rfl rfl rfl hM ?_); intro w558 hM
 refine wl_nil <| bk_n <| bk_n <| sq_n <| wc_region <| wv rfl (r_add rfl rfl ⟨by omega, by omega⟩) <| wmv rfl rfl <| wl_nil ?_
 cases hx
 replace hM := hM.p1.p3.p4.p4.p4
 replace hM := hM.t5
 have hM := hM.fewer (rsC m1 rsN)
 replace hM : St ⟨w, X, S⟩ [oBox b403 #[s556.v] 57, oBox b407 #[s492.v] 26, oBox b411 #[(iv r489.2.2)] 3, oC (cSl 1 fI r489.1) s492.v, oC (cSl 3 fDPart (r489.2.1 ++ [(⟨1, (el o k433).n, []⟩ : DPart)])) s556.v] [rV s_o.v (cSl 3 fDPart o)] _ := hM
 exact lp_end (m439, k433 + 1, r489.1, r489.2.2, r489.2.1 ++ [(⟨1, (el o k433).n, []⟩ : DPart)], s492, s556) (Nat.lt_succ_self _) ⟨rfl, rfl, rfl, rfl, rfl, rfl, rfl, trivial⟩ ⟨hM, hx441, hk434⟩
 refine wc_skip <| bk_n <| bk_n <| sq_n <| wc_region <| wv rfl (r_add rfl rfl ⟨by omega, by omega⟩) <| wmv rfl rfl <| wl_nil ?_
 cases hx
 replace hM := hM.p5.p5.p5.p5.p5
 replace hM := hM.t5
 have hM := hM.fewer (rsC m1 rsN)
 replace hM : St ⟨w, X, S⟩ [oBox b403 #[s431.v] 57, oBox b407 #[s429.v] 26, oBox b411 #[(iv n426)] 3, oC (cSl 1 fI l425) s429.v, oC (cSl 3 fDPart l427) s431.v] [rV s_o.v (cSl 3 fDPart o)] _ := hM
 exact lp_end (m439, k433 + 1, l425, n426, l427, s429, s431) (Nat.lt_succ_self _) ⟨rfl, rfl, rfl, rfl, rfl, rfl, rfl, trivial⟩ ⟨hM, hx441, hk434⟩
 replace hc438 := of_decide_eq_false hc438
 obtain rfl := eachN_end hx hk434 hc438
 refine wc_exit <| sq_exit <| lp1_exit ?_
 replace hx := hx422
 refine bk_here <| sq_n <| wc_sr <| wmv rfl rfl ?_
 replace hM := hM.p2.p4.p2.p4.p4
 refine bs hx fun _ h566 hx => w_callv (cap := [(pt b407 0), (pt b403 0), (pt b411 0)]) rfl rfl rfl (hM.callO (l := [oBox b407 #[s429.v] 26, oC (cSl 1 fI l425) s429.v, oBox b403 #[s431.v] 57, oC (cSl 3 fDPart l427) s431.v, oBox b411 #[(iv n426)] 3]) fun X S oL hS hR hO => ct_impl_normal_1 _ X S b407 l425 s429 b403 l427 s431 b411 n426 hS  oL h566) ?_
 rintro _ w567 ⟨⟨s568, s569⟩, rfl, hM⟩
 dsimp only [List.cons_append, List.nil_append] at hM
 refine wl_sq <| wc_sr <| wv rfl (r_ldB u57 rfl rfl hM m2 rfl) <| was rfl rfl <| wl_sq <| wc_ret ?_
 obtain rfl := oi hx
 refine fin_ret [s569.v] ⟨rfl, trivial⟩ ?_
 replace hM := hM.p3
 replace hM := hM.t1
 exact ⟨s569, rfl, (hM.fewer rsN).gives⟩

noncomputable def x_impl_OpNorm (o : List DPart) : Option (List DPart) :=
  Option.bind (x_impl_OpOk o) fun r3 => bif !r3 then (some []) else (Option.bind (x_impl_normal o) fun r9 => some r9)
theorem ct_impl_OpNorm (w : World) (X S : Bs) (o : List DPart) (s_o : Sv) (hS : SX X S w) (a_o_0 : (cSl 3 fDPart o).rd S w s_o.v) (oL : Sep [] X w) {r : List DPart} (hx : x_impl_OpNorm o = some r) :
 Ret Tryz.prog 172 [s_o.v] w (fun u w' => ∃ y : Sv, u = y.v ∧ Gives X S w [oC (cSl 3 fDPart r) y.v] [] w') := by
 unfold x_impl_OpNorm at hx
 refine enter Tryz.func172 rfl Tryz.ntmps172 (by kernel_rfl) rfl ?_
 have hM := (St.enter oL hS).addV a_o_0
 refine wc_sr <| was rfl rfl <| wl_sq <| wc_seq <| wc_sr <| wmv rfl rfl <| bs hx fun _ h18 hx => w_cv hM rfl rfl (fun X S oL hS hR hO => ct_impl_OpOk _ X S o s_o hS (hR _ m0) oL h18) fun _ hM => wv rfl (r_not rfl) <| wl_sq ?_
 refine wcx hx rfl (fun hx => ?_) (fun hx => ?_)
 refine wc_sr <| was rfl rfl <| wl_sq <| wc_ret <| sq_ret ?_
 obtain rfl := oi hx
 have hM := hM.nil0 (T := DPart) 3 fDPart
 refine fin_ret [nS.v] ⟨rfl, trivial⟩ ?_
 replace hM := hM.t1
 exact ⟨nS, rfl, (hM.fewer rsN).gives⟩
 refine wc_skip <| sq_n <| wc_sr <| wmv rfl rfl <| bs hx fun _ h26 hx => w_call rfl rfl (hM.callO (l := []) fun X S oL hS hR hO => ct_impl_normal _ X S o s_o hS (hR _ m0) oL h26) ?_
 rintro _ w27 ⟨s28, rfl, hM⟩
 dsimp only [List.cons_append, List.nil_append] at hM
 refine was rfl rfl <| wl_sq <| wc_ret ?_
 obtain rfl := oi hx
 refine fin_ret [s28.v] ⟨rfl, trivial⟩ ?_
 replace hM := hM.t1
 exact ⟨s28, rfl, (hM.fewer rsN).gives⟩

noncomputable def x_slices_Equal_int_int_b0 (s2_ : List Int) (_s1_ : List Int) (k11 : Nat) (x52 : Int) : Option (Lr Unit (Sum Unit Unit)) :=
  xg (0 ≤ (k11 : Int) ∧ (k11 : Int) < (s2_.length : Int)) <| bif !decide (x52 = (el s2_ k11)) then (some (Lr.out (Sum.inr (())))) else (some (Lr.go ()))
noncomputable def x_slices_Equal_int_int_f0 (s2_ : List Int) (s1_ : List Int) (k11 : Nat) (_s53 : Unit) : Option (Lr Unit (Sum Unit Unit)) := x_slices_Equal_int_int_b0 s2_ s1_ k11 (el s1_ k11)
noncomputable def x_slices_Equal_int_int (s1_ : List Int) (s2_ : List Int) : Option Bool :=
  bif !decide ((s1_.length : Int) = (s2_.length : Int)) then (some false) else (Option.bind (eachN (x_slices_Equal_int_int_f0 s2_ s1_) (fun (_s53 : Unit) => (Sum.inl () : Sum Unit Unit)) s1_.length 0 ()) fun (y54 : Sum Unit Unit) => Sum.elim (fun _y55 => some true) (fun _y56 => some false) y54)
theorem ct_slices_Equal_int_int (w : World) (X S : Bs) (s1_ : List Int) (s_s1_ : Sv) (s2_ : List Int) (s_s2_ : Sv) (hS : SX X S w) (a_s1__0 : (cSl 1 fI s1_).rd S w s_s1_.v) (a_s2__0 : (cSl 1 fI s2_).rd S w s_s2_.v) (oL : Sep [] X w) {r : Bool} (hx : x_slices_Equal_int_int s1_ s2_ = some r) :
 Ret Tryz.prog 62 [s_s1_.v, s_s2_.v] w (KV X S w (bv r)) := by
 unfold x_slices_Equal_int_int at hx
 refine enter Tryz.func62 rfl Tryz.ntmps62 (by kernel_rfl) rfl ?_
 have hM := ((St.enter oL hS).addV a_s1__0).addV a_s2__0
 refine wc_sr <| was rfl rfl <| wl_sq <| wc_seq <| wc_sr <| wmv rfl rfl <| wv rfl (r_lenC u26 rfl (hM.seeR m1)) <| wmv rfl rfl <| wv rfl (r_lenC u26 rfl (hM.seeR m0)) <| wv rfl (r_neq rfl rfl) <| wl_sq ?_
 refine wcx hx rfl (fun hx => ?_) (fun hx => ?_)
 refine wc_sr <| was rfl rfl <| wl_sq <| wc_ret <| sq_ret ?_
 obtain rfl := oi hx
 exact fin_u [(bv false)] hM ⟨rfl, trivial⟩ rfl
 refine wc_skip <| sq_n <| wc_seq <| wc_sr <| wmv rfl rfl <| wv rfl (r_lenC u26 rfl (hM.seeR m1)) <| wmv rfl rfl <| wl_sq <| wc_block <| bs hx fun y69 hx hx70 => ?_
 have hM := hM.fewer (rsC m1 (rsC m0 rsN))
 replace hM : St ⟨w, X, S⟩ [] [rV s_s1_.v (cSl 1 fI s1_), rV s_s2_.v (cSl 1 fI s2_)] _ := hM
 have hl74 := Cs.le (hM.seeR m0)
 refine wc_loop (un fun (m71 : Nat) => fun (k72 : Nat) => [(0, s_s1_.v), (1, s_s2_.v), (12, (iv (s1_.length : Int))), (13, (iv (k72 : Int)))]) (un fun (m71 : Nat) => fun (k72 : Nat) w' => St ⟨w, X, S⟩ [] [rV s_s1_.v (cSl 1 fI s1_), rV s_s2_.v (cSl 1 fI s2_)] w' ∧ eachN _ _ m71 k72 () = some y69 ∧ k72 + m71 = s1_.length) (fun p => p.1) (s1_.length, 0) ⟨rfl, rfl, rfl, rfl, trivial⟩ ⟨hM, hx, Nat.zero_add _⟩ ?_
 rintro ⟨m71, k72⟩ w75 ⟨hM, hx, hk73⟩
 refine wc_sr <| wv rfl (r_lss rfl rfl) <| wl_sq <| wc_seq ?_
 refine wc_cond rfl (fun hc77 => ?_) (fun hc77 => ?_)
 replace hc77 := of_decide_eq_true hc77
 obtain ⟨m78, z79, rfl, hk73, hx, hx80⟩ := eachN_step hx hk73 hc77
 unfold x_slices_Equal_int_int_f0 x_slices_Equal_int_int_b0 at hx
 try dsimp only at hx
 refine wc_skip <| sq_n <| wc_seq <| wc_block <| wc_sr <| wmv rfl rfl <| was rfl rfl <| wl_sq <| wc_seq <| wc_draw [(0, 0), (1, 0), (2, 0), (3, 0), (4, 0), (5, 0), (6, 0), (7, 0), (8, 0)] Tryz_mixed (by kernel_rfl) rfl (by kernel_rfl) rfl <| omv rfl rfl <| omv rfl rfl ?_
 have hi86 : k72 < s1_.length := by omega
 refine ov rfl (fun w' h' => r_ixC u26 sz3 rfl rfl ((hM.call h').seeR m0) ⟨by omega, hc77⟩) <| ov rfl (fun w' h' => r_ld u3 rfl rfl (Cs.get (i := k72) (j := 0) ((hM.call h').seeR m0) (fun _ => rfl) hi86 rfl)) <| omv rfl rfl <| omv rfl rfl <| xgs hx fun hg92 hx => ?_
 have hi91 : k72 < s2_.length := by omega
 refine ov rfl (fun w' h' => r_ixC u26 sz3 rfl rfl ((hM.call h').seeR m1) hg92) <| ov rfl (fun w' h' => r_ld u3 rfl rfl (Cs.get (i := k72) (j := 0) ((hM.call h').seeR m1) (fun _ => rfl) hi91 rfl)) <| ov rfl (fun w' h' => r_neq rfl rfl) <| o_nilM hM fun _ hM => sq_n ?_
 refine wcx hx rfl (fun hx => ?_) (fun hx => ?_)
 refine wc_sr <| was rfl rfl <| wl_sq <| wc_ret <| bk_ret <| sq_ret <| lp1_ret ?_
 cases hx
 obtain rfl := oi hx80
 replace hx := hx70
 refine bk_ret <| sq_ret ?_
 obtain rfl := oi hx
 exact fin_u [(bv false)] hM ⟨rfl, trivial⟩ rfl
 refine wc_skip <| bk_n <| sq_n <| wc_region <| wv rfl (r_add rfl rfl ⟨by omega, by omega⟩) <| wmv rfl rfl <| wl_nil ?_
 cases hx
 exact lp_end (m78, k72 + 1) (Nat.lt_succ_self _) ⟨rfl, rfl, rfl, rfl, trivial⟩ ⟨hM, hx80, hk73⟩
 replace hc77 := of_decide_eq_false hc77
 obtain rfl := eachN_end hx hk73 hc77
 refine wc_exit <| sq_exit <| lp1_exit ?_
 replace hx := hx70
 refine bk_here <| sq_n <| wc_sr <| was rfl rfl <| wl_sq <| wc_ret ?_
 obtain rfl := oi hx
 exact fin_u [(bv true)] hM ⟨rfl, trivial⟩ rfl

noncomputable def x_impl_samePart (a : DPart) (b : DPart) : Option Bool :=
  Option.bind (bif decide (a.kind = b.kind) then (some (decide (a.n = b.n))) else (some false)) fun c16 => Option.bind (bif c16 then (Option.bind (x_slices_Equal_int_int a.signs b.signs) fun r42 => some r42) else (some false)) fun c29 => some c29
theorem ct_impl_samePart (w : World) (X S : Bs) (a : DPart) (s_a_2 : Sv) (b : DPart) (s_b_2 : Sv) (hS : SX X S w) (a_a_2 : (cSl 1 fI a.signs).rd S w s_a_2.v) (a_b_2 : (cSl 1 fI b.signs).rd S w s_b_2.v) (oL : Sep [] X w) {r : Bool} (hx : x_impl_samePart a b = some r) :
 Ret Tryz.prog 197 [(.agg #[(iv a.kind), (iv a.n), s_a_2.v]), (.agg #[(iv b.kind), (iv b.n), s_b_2.v])] w (KV X S w (bv r)) := by
 unfold x_impl_samePart at hx
 refine enter Tryz.func197 rfl Tryz.ntmps197 (by kernel_rfl) rfl ?_
 have hM := ((St.enter oL hS).addV a_a_2).addV a_b_2
 refine wc_sr ?_
 refine w_ex rfl (x_box rfl hM ?_); intro b47 w46 hR48 hM
 refine w_ex rfl (x_box rfl hM ?_); intro b51 w50 hR52 hM
 refine was rfl rfl <| wl_sq <| wc_sr <| wv rfl (r_fld u156 rfl rfl sz3 rfl) <| wv rfl (r_ldB u3 rfl rfl hM m1 rfl) <| wv rfl (r_fld u156 rfl rfl sz3 rfl) <| wv rfl (r_ldB u3 rfl rfl hM m0 rfl) <| wv rfl (r_eql rfl rfl) <| wmv rfl rfl <| bs hx fun c61 hx hx68 => ?_
 refine wl_midH 6 [(16, (bv c61)), (2, (pt b47 0)), (3, (pt b51 0))] hM ?_ fun w69 hM => ?_
 refine cs2 hx (fun hg62 hx => ?_) (fun hg62 hx => ?_)
 refine gv rfl hg62 rfl (r_fld u156 rfl rfl sz3 rfl) <| gv rfl hg62 rfl (r_ldB u3 rfl rfl hM m1 rfl) <| gv rfl hg62 rfl (r_fld u156 rfl rfl sz3 rfl) <| gv rfl hg62 rfl (r_ldB u3 rfl rfl hM m0 rfl) <| gv rfl hg62 rfl (r_eql rfl rfl) <| wv rfl (p_t rfl hg62 rfl) ?_
 cases hx
 exact mid_h ⟨rfl, rfl, rfl, trivial⟩ hM
 refine gn hg62 rfl rfl <| gn hg62 rfl rfl <| gn hg62 rfl rfl <| gn hg62 rfl rfl <| gn hg62 rfl rfl <| wv rfl (p_f rfl hg62 rfl) ?_
 obtain rfl := oi hx
 exact mid_h ⟨rfl, rfl, rfl, trivial⟩ hM
 replace hx := hx68
 refine wmv rfl rfl <| bs hx fun c76 hx hx85 => ?_
 refine wl_midH 6 [(23, (bv c76))] hM ?_ fun w86 hM => ?_
 refine cs2 hx (fun hg77 hx => ?_) (fun hg77 hx => ?_)
 refine gv rfl hg77 rfl (r_fld u156 rfl rfl sz26 rfl) <| gv rfl hg77 rfl (r_ldB u26 rfl rfl hM m1 rfl) <| gv rfl hg77 rfl (r_fld u156 rfl rfl sz26 rfl) <| gv rfl hg77 rfl (r_ldB u26 rfl rfl hM m0 rfl) <| bs hx fun _ h92 hx => g_cv hM hg77 rfl rfl rfl (fun X S oL hS hR hO => ct_slices_Equal_int_int _ X S a.signs s_a_2 b.signs s_b_2 hS (hR _ m1) (hR _ m0) oL h92) fun _ hM => wv rfl (p_t rfl hg77 rfl) ?_
 obtain rfl := oi hx
 exact mid_h ⟨rfl, trivial⟩ hM
 refine gn hg77 rfl rfl <| gn hg77 rfl rfl <| gn hg77 rfl rfl <| gn hg77 rfl rfl <| gn hg77 rfl rfl <| wv rfl (p_f rfl hg77 rfl) ?_
 obtain rfl := oi hx
 exact mid_h ⟨rfl, trivial⟩ hM
 replace hx := hx85
 refine was rfl rfl <| wl_sq <| wc_ret ?_
 obtain rfl := oi hx
 exact fin_u [(bv c76)] hM ⟨rfl, trivial⟩ rfl

noncomputable def x_slices_EqualFunc_impl_Part_impl_Part_impl_Part_impl_Part_b0 (s2_ : List DPart) (_s1_ : List DPart) (k11 : Nat) (x90 : DPart) : Option (Lr Unit (Sum Unit Unit)) :=
  xg (0 ≤ (k11 : Int) ∧ (k11 : Int) < (s2_.length : Int)) <| Option.bind (x_impl_samePart x90 (el s2_ k11)) fun r82 => bif !r82 then (some (Lr.out (Sum.inr (())))) else (some (Lr.go ()))
noncomputable def x_slices_EqualFunc_impl_Part_impl_Part_impl_Part_impl_Part_f0 (s2_ : List DPart) (s1_ : List DPart) (k11 : Nat) (_s91 : Unit) : Option (Lr Unit (Sum Unit Unit)) := x_slices_EqualFunc_impl_Part_impl_Part_impl_Part_impl_Part_b0 s2_ s1_ k11 (el s1_ k11)
noncomputable def x_slices_EqualFunc_impl_Part_impl_Part_impl_Part_impl_Part (s1_ : List DPart) (s2_ : List DPart) : Option Bool :=
  bif !decide ((s1_.length : Int) = (s2_.length : Int)) then (some false) else (Option.bind (eachN (x_slices_EqualFunc_impl_Part_impl_Part_impl_Part_impl_Part_f0 s2_ s1_) (fun (_s91 : Unit) => (Sum.inl () : Sum Unit Unit)) s1_.length 0 ()) fun (y92 : Sum Unit Unit) => Sum.elim (fun _y93 => some true) (fun _y94 => some false) y92)
theorem ct_slices_EqualFunc_impl_Part_impl_Part_impl_Part_impl_Part (w : World) (X S : Bs) (s1_ : List DPart) (s_s1_ : Sv) (s2_ : List DPart) (s_s2_ : Sv) (hS : SX X S w) (a_s1__0 : (cSl 3 fDPart s1_).rd S w s_s1_.v) (a_s2__0 : (cSl 3 fDPart s2_).rd S w s_s2_.v) (oL : Sep [] X w) {r : Bool} (hx : x_slices_EqualFunc_impl_Part_impl_Part_impl_Part_impl_Part s1_ s2_ = some r) :
 Ret Tryz.prog 196 [s_s1_.v, s_s2_.v, (.func (.func 197) #[] #[])] w (KV X S w (bv r)) := by
 unfold x_slices_EqualFunc_impl_Part_impl_Part_impl_Part_impl_Part at hx
 refine enter Tryz.func196 rfl Tryz.ntmps196 (by kernel_rfl) rfl ?_
 have hM := ((St.enter oL hS).addV a_s1__0).addV a_s2__0
 refine wc_sr <| was rfl rfl <| wl_sq <| wc_seq <| wc_sr <| wmv rfl rfl <| wv rfl (r_lenC u57 rfl (hM.seeR m1)) <| wmv rfl rfl <| wv rfl (r_lenC u57 rfl (hM.seeR m0)) <| wv rfl (r_neq rfl rfl) <| wl_sq ?_
 refine wcx hx rfl (fun hx => ?_) (fun hx => ?_)
 refine wc_sr <| was rfl rfl <| wl_sq <| wc_ret <| sq_ret ?_
 obtain rfl := oi hx
 exact fin_u [(bv false)] hM ⟨rfl, trivial⟩ rfl
 refine wc_skip <| sq_n <| wc_seq <| wc_sr <| wmv rfl rfl <| wv rfl (r_lenC u57 rfl (hM.seeR m1)) <| wmv rfl rfl <| wl_sq <| wc_block <| bs hx fun y107 hx hx108 => ?_
 have hl112 := Cs.le (hM.seeR m1)
 refine wc_loop (un fun (m109 : Nat) => fun (k110 : Nat) => [(1, s_s2_.v), (2, (.func (.func 197) #[] #[])), (15, s_s1_.v), (16, (iv (s1_.length : Int))), (17, (iv (k110 : Int)))]) (un fun (m109 : Nat) => fun (k110 : Nat) w' => St ⟨w, X, S⟩ [] [rV s_s2_.v (cSl 3 fDPart s2_), rV s_s1_.v (cSl 3 fDPart s1_)] w' ∧ eachN _ _ m109 k110 () = some y107 ∧ k110 + m109 = s1_.length) (fun p => p.1) (s1_.length, 0) ⟨rfl, rfl, rfl, rfl, rfl, trivial⟩ ⟨hM, hx, Nat.zero_add _⟩ ?_
 rintro ⟨m109, k110⟩ w113 ⟨hM, hx, hk111⟩
 refine wc_sr <| wv rfl (r_lss rfl rfl) <| wl_sq <| wc_seq ?_
 refine wc_cond rfl (fun hc115 => ?_) (fun hc115 => ?_)
 replace hc115 := of_decide_eq_true hc115
 obtain ⟨m116, z117, rfl, hk111, hx, hx118⟩ := eachN_step hx hk111 hc115
 unfold x_slices_EqualFunc_impl_Part_impl_Part_impl_Part_impl_Part_f0 x_slices_EqualFunc_impl_Part_impl_Part_impl_Part_impl_Part_b0 at hx
 try dsimp only at hx
 refine wc_skip <| sq_n <| wc_seq <| wc_block <| wc_sr <| wmv rfl rfl ?_
 have hi121 : k110 < s1_.length := by omega
 refine wv rfl (r_ixC u57 sz156 rfl rfl (hM.seeR m1) ⟨by omega, hc115⟩) ?_
 obtain ⟨s123, hM, hc124⟩ := hM.leaf (i := k110) (j := 2) m1 (fun _ => rfl) hi121 rfl
 refine wv rfl (r_ldC (o := k110 * 3) u156 sz156 rfl (us := [(iv ((el s1_ k110).kind)), (iv ((el s1_ k110).n)), s123.v]) rfl (hM.seeR m2) hi121 ⟨(Cs.get (i := k110) (j := 0) (hM.seeR m2) (fun _ => rfl) hi121 rfl), (Cs.get (i := k110) (j := 1) (hM.seeR m2) (fun _ => rfl) hi121 rfl), (hc124 _ (Rel.refl _)), trivial⟩) ?_
 refine w_ex rfl (x_alloc sz156 hM ?_); intro b126 w125 hR127 hM
 refine was rfl rfl ?_
 refine w_exu (x_stB #[(iv ((el s1_ k110).kind)), (iv ((el s1_ k110).n)), s123.v] sz156 rfl rfl rfl rfl rfl rfl hM ?_); intro w130 hM
 refine wl_sq <| wc_sr <| wmv rfl rfl <| wmv rfl rfl <| xgs hx fun hg136 hx => ?_
 have hi135 : k110 < s2_.length := by omega
 refine wv rfl (r_ixC u57 sz156 rfl rfl (hM.seeR m1) hg136) ?_
 obtain ⟨s138, hM, hc139⟩ := hM.leaf (i := k110) (j := 2) m1 (fun _ => rfl) hi135 rfl
 refine wv rfl (r_ldC (o := k110 * 3) u156 sz156 rfl (us := [(iv ((el s2_ k110).kind)), (iv ((el s2_ k110).n)), s138.v]) rfl (hM.seeR m2) hi135 ⟨(Cs.get (i := k110) (j := 0) (hM.seeR m2) (fun _ => rfl) hi135 rfl), (Cs.get (i := k110) (j := 1) (hM.seeR m2) (fun _ => rfl) hi135 rfl), (hc139 _ (Rel.refl _)), trivial⟩) ?_
 refine w_ex rfl (x_alloc sz156 hM ?_); intro b141 w140 hR142 hM
 refine w_exu (x_stB #[(iv ((el s2_ k110).kind)), (iv ((el s2_ k110).n)), s138.v] sz156 rfl rfl rfl rfl rfl rfl hM ?_); intro w144 hM
 refine wl_sq <| wc_sr <| wmv rfl rfl <| wv rfl (r_ldBS u156 sz156 rfl (us := [(iv ((el s1_ k110).kind)), (iv ((el s1_ k110).n)), s123.v]) rfl hM m1 rfl) <| wv rfl (r_ldBS u156 sz156 rfl (us := [(iv ((el s2_ k110).kind)), (iv ((el s2_ k110).n)), s138.v]) rfl hM m0 rfl) <| bs hx fun _ h150 hx => w_callv (cap := []) rfl rfl rfl (hM.callV fun X S oL hS hR hO => ct_impl_samePart _ X S (el s1_ k110) s123 (el s2_ k110) s138 hS (hR _ m1) (hR _ m0) oL h150) ?_
 rintro _ w151 ⟨rfl, hR152⟩
 have hM := hM.call hR152
 refine wv rfl (r_not rfl) <| wl_sq ?_
 refine wcx hx rfl (fun hx => ?_) (fun hx => ?_)
 refine wc_sr <| was rfl rfl <| wl_sq <| wc_ret <| bk_ret <| sq_ret <| lp1_ret ?_
 cases hx
 obtain rfl := oi hx118
 replace hx := hx108
 refine bk_ret <| sq_ret ?_
 obtain rfl := oi hx
 exact fin_u [(bv false)] hM ⟨rfl, trivial⟩ rfl
 refine wc_skip <| bk_n <| sq_n <| wc_region <| wv rfl (r_add rfl rfl ⟨by omega, by omega⟩) <| wmv rfl rfl <| wl_nil ?_
 cases hx
 replace hM := hM.t0
 have hM := hM.fewer (rsC m2 (rsC m3 rsN))
 replace hM : St ⟨w, X, S⟩ [] [rV s_s2_.v (cSl 3 fDPart s2_), rV s_s1_.v (cSl 3 fDPart s1_)] _ := hM
 exact lp_end (m116, k110 + 1) (Nat.lt_succ_self _) ⟨rfl, rfl, rfl, rfl, rfl, trivial⟩ ⟨hM, hx118, hk111⟩
 replace hc115 := of_decide_eq_false hc115
 obtain rfl := eachN_end hx hk111 hc115
 refine wc_exit <| sq_exit <| lp1_exit ?_
 replace hx := hx108
 refine bk_here <| sq_n <| wc_sr <| was rfl rfl <| wl_sq <| wc_ret ?_
 obtain rfl := oi hx
 exact fin_u [(bv true)] hM ⟨rfl, trivial⟩ rfl

noncomputable def x_impl_OpSame (a : List DPart) (b : List DPart) : Option Bool :=
  Option.bind (x_slices_EqualFunc_impl_Part_impl_Part_impl_Part_impl_Part a b) fun r4 => some r4
theorem ct_impl_OpSame (w : World) (X S : Bs) (a : List DPart) (s_a : Sv) (b : List DPart) (s_b : Sv) (hS : SX X S w) (a_a_0 : (cSl 3 fDPart a).rd S w s_a.v) (a_b_0 : (cSl 3 fDPart b).rd S w s_b.v) (oL : Sep [] X w) {r : Bool} (hx : x_impl_OpSame a b = some r) :
 Ret Tryz.prog 167 [s_a.v, s_b.v] w (KV X S w (bv r)) := by
 unfold x_impl_OpSame at hx
 refine enter Tryz.func167 rfl Tryz.ntmps167 (by kernel_rfl) rfl ?_
 have hM := ((St.enter oL hS).addV a_a_0).addV a_b_0
 refine wc_sr <| was rfl rfl <| wl_sq <| wc_sr <| wmv rfl rfl <| wmv rfl rfl <| bs hx fun r11 h12 hx => w_cv hM rfl rfl (fun X S oL hS hR hO => ct_slices_EqualFunc_impl_Part_impl_Part_impl_Part_impl_Part _ X S a s_a b s_b hS (hR _ m1) (hR _ m0) oL h12) fun _ hM => was rfl rfl <| wl_sq <| wc_ret ?_
 obtain rfl := oi hx
 exact fin_u [(bv r11)] hM ⟨rfl, trivial⟩ rfl

noncomputable def x_impl_copyInts (l : List Int) : Option (List Int) :=
  xg (0 + l.length ≤ 1099511627776) <| some ([] ++ l)
theorem ct_impl_copyInts (w : World) (X S : Bs) (l : List Int) (s_l : Sv) (hS : SX X S w) (a_l_0 : (cSl 1 fI l).rd S w s_l.v) (oL : Sep [] X w) {r : List Int} (hx : x_impl_copyInts l = some r) :
 Ret Tryz.prog 182 [s_l.v] w (fun u w' => ∃ y : Sv, u = y.v ∧ Gives X S w [oC (cSl 1 fI r) y.v] [] w') := by
 unfold x_impl_copyInts at hx
 refine enter Tryz.func182 rfl Tryz.ntmps182 (by kernel_rfl) rfl ?_
 have hM := (St.enter oL hS).addV a_l_0
 refine wc_sr <| was rfl rfl <| wl_sq <| wc_sr <| wmv rfl rfl ?_
 have hM := hM.nil0 (T := Int) 1 fI
 refine xgs hx fun hg14 hx => ?_
 refine w_ex rfl (x_append u26 sz3 rfl rfl (hM.seeR m0) flI hM hg14 rfl ?_); intro s12 w11 hM
 refine was rfl rfl <| wl_sq <| wc_ret ?_
 obtain rfl := oi hx
 refine fin_ret [s12.v] ⟨rfl, trivial⟩ ?_
 replace hM := hM.t1
 exact ⟨s12, rfl, (hM.fewer rsN).gives⟩

noncomputable def x_impl_copyOp_b0 (_o : List DPart) (_k39 : Nat) (x105 : DPart) (out40 : List DPart) : Option (Lr (List DPart) (List DPart)) :=
  Option.bind (x_impl_copyInts (x105.signs)) fun r88 => xg (out40.length < 1099511627776) <| some (Lr.go (out40 ++ [(⟨x105.kind, x105.n, r88⟩ : DPart)]))
noncomputable def x_impl_copyOp_f0 (o : List DPart) (k39 : Nat) (s106 : List DPart) : Option (Lr (List DPart) (List DPart)) := x_impl_copyOp_b0 o k39 (el o k39) s106
noncomputable def x_impl_copyOp (o : List DPart) : Option (List DPart) :=
  Option.bind (eachN (x_impl_copyOp_f0 o) (fun (s106 : List DPart) => (s106 : List DPart)) o.length 0 []) fun (y107 : List DPart) => some y107
theorem ct_impl_copyOp (w : World) (X S : Bs) (o : List DPart) (s_o : Sv) (hS : SX X S w) (a_o_0 : (cSl 3 fDPart o).rd S w s_o.v) (oL : Sep [] X w) {r : List DPart} (hx : x_impl_copyOp o = some r) :
 Ret Tryz.prog 184 [s_o.v] w (fun u w' => ∃ y : Sv, u = y.v ∧ Gives X S w [oC (cSl 3 fDPart r) y.v] [] w') := by
 unfold x_impl_copyOp at hx
 refine enter Tryz.func184 rfl Tryz.ntmps184 (by kernel_rfl) rfl ?_
 have hM := (St.enter oL hS).addV a_o_0
 refine wc_sr <| was rfl rfl <| wl_sq <| wc_sr <| was rfl rfl <| wl_sq <| wc_seq <| wc_sr <| wmv rfl rfl <| wv rfl (r_lenC u57 rfl (hM.seeR m0)) <| wmv rfl rfl <| wl_sq <| wc_block <| bs hx fun y117 hx hx118 => ?_
 have hM := hM.nil0 (T := DPart) 3 fDPart
 have hl126 := Cs.le (hM.seeR m0)
 refine wc_loop (un fun (m123 : Nat) => un fun (k124 : Nat) => un fun (out120 : List DPart) => fun (s122 : Sv) => [(3, s122.v), (6, s_o.v), (7, (iv (o.length : Int))), (8, (iv (k124 : Int)))]) (un fun (m123 : Nat) => un fun (k124 : Nat) => un fun (out120 : List DPart) => fun (s122 : Sv) w' => St ⟨w, X, S⟩ [oC (cSl 3 fDPart out120) s122.v] [rV s_o.v (cSl 3 fDPart o)] w' ∧ eachN _ _ m123 k124 out120 = some y117 ∧ k124 + m123 = o.length) (fun p => p.1) (o.length, 0, [], nS) ⟨rfl, rfl, rfl, rfl, trivial⟩ ⟨hM, hx, Nat.zero_add _⟩ ?_
 rintro ⟨m123, k124, out120, s122⟩ w127 ⟨hM, hx, hk125⟩
 refine wc_sr <| wv rfl (r_lss rfl rfl) <| wl_sq <| wc_seq ?_
 refine wc_cond rfl (fun hc129 => ?_) (fun hc129 => ?_)
 replace hc129 := of_decide_eq_true hc129
 obtain ⟨m130, z131, rfl, hk125, hx, hx132⟩ := eachN_step hx hk125 hc129
 unfold x_impl_copyOp_f0 x_impl_copyOp_b0 at hx
 try dsimp only at hx
 refine wc_skip <| sq_n <| wc_seq <| wc_block <| wc_sr ?_
 have hi134 : k124 < o.length := by omega
 refine wv rfl (r_ixC u57 sz156 rfl rfl (hM.seeR m0) ⟨by omega, hc129⟩) ?_
 obtain ⟨s136, hM, hc137⟩ := hM.leaf (i := k124) (j := 2) m0 (fun _ => rfl) hi134 rfl
 refine wv rfl (r_ldC (o := k124 * 3) u156 sz156 rfl (us := [(iv ((el o k124).kind)), (iv ((el o k124).n)), s136.v]) rfl (hM.seeR m1) hi134 ⟨(Cs.get (i := k124) (j := 0) (hM.seeR m1) (fun _ => rfl) hi134 rfl), (Cs.get (i := k124) (j := 1) (hM.seeR m1) (fun _ => rfl) hi134 rfl), (hc137 _ (Rel.refl _)), trivial⟩) ?_
 refine w_ex rfl (x_alloc sz156 hM ?_); intro b139 w138 hR140 hM
 refine w_exu (x_stB #[(iv ((el o k124).kind)), (iv ((el o k124).n)), s136.v] sz156 rfl rfl rfl rfl rfl rfl hM ?_); intro w142 hM
 refine wl_sq <| wc_sr <| wv rfl (r_fld u156 rfl rfl sz26 rfl) <| wv rfl (r_ldB u26 rfl rfl hM m0 rfl) <| bs hx fun r146 h147 hx => w_call rfl rfl (hM.callO (l := []) fun X S oL hS hR hO => ct_impl_copyInts _ X S ((el o k124).signs) s136 hS (hR _ m0) oL h147) ?_
 rintro _ w148 ⟨s149, rfl, hM⟩
 dsimp only [List.cons_append, List.nil_append] at hM
 refine wv rfl (r_fld u156 rfl rfl sz26 rfl) ?_
 replace hM := hM.p1
 refine w_exu (x_stB #[(iv ((el o k124).kind)), (iv ((el o k124).n)), s149.v] sz26 rfl rfl rfl rfl rfl rfl hM ?_); intro w152 hM
 refine wl_sq <| wc_region <| wmv rfl rfl <| wv rfl (r_ldBS u156 sz156 rfl (us := [(iv ((el o k124).kind)), (iv ((el o k124).n)), s149.v]) rfl hM m0 rfl) ?_
 replace hM := hM.p1.p2
 refine xgs hx fun hg159 hx => ?_
 refine w_push (f := fDPart) (⟨(el o k124).kind, (el o k124).n, r146⟩ : DPart) rfl rfl u57 sz156 rfl rfl rfl rfl (fun _ => rfl) hM (fun _ => zP (pV _ rfl) (zP (pV _ rfl) (zO zN))) rfl hg159 rfl ?_; intro u157 s158 w156 hM
 refine was rfl rfl <| wl_nil <| bk_n <| sq_n <| wc_region <| wv rfl (r_add rfl rfl ⟨by omega, by omega⟩) <| wmv rfl rfl <| wl_nil ?_
 cases hx
 replace hM := hM.t1
 have hM := hM.fewer (rsC m1 rsN)
 replace hM : St ⟨w, X, S⟩ [oC (cSl 3 fDPart (out120 ++ [(⟨(el o k124).kind, (el o k124).n, r146⟩ : DPart)])) s158.v] [rV s_o.v (cSl 3 fDPart o)] _ := hM
 exact lp_end (m130, k124 + 1, out120 ++ [(⟨(el o k124).kind, (el o k124).n, r146⟩ : DPart)], s158) (Nat.lt_succ_self _) ⟨rfl, rfl, rfl, rfl, trivial⟩ ⟨hM, hx132, hk125⟩
 replace hc129 := of_decide_eq_false hc129
 obtain rfl := eachN_end hx hk125 hc129
 refine wc_exit <| sq_exit <| lp1_exit ?_
 replace hx := hx118
 refine bk_here <| sq_n <| wc_sr <| wmv rfl rfl <| was rfl rfl <| wl_sq <| wc_ret ?_
 obtain rfl := oi hx
 refine fin_ret [s122.v] ⟨rfl, trivial⟩ ?_
 replace hM := hM.t1
 exact ⟨s122, rfl, (hM.fewer rsN).gives⟩

noncomputable def x_spec_SignsSame_b0 (b : List Int) (_a : List Int) (k11 : Nat) (x52 : Int) : Option (Lr Unit (Sum Unit Unit)) :=
  xg (0 ≤ (k11 : Int) ∧ (k11 : Int) < (b.length : Int)) <| bif !decide (x52 = (el b k11)) then (some (Lr.out (Sum.inr (())))) else (some (Lr.go ()))
noncomputable def x_spec_SignsSame_f0 (b : List Int) (a : List Int) (k11 : Nat) (_s53 : Unit) : Option (Lr Unit (Sum Unit Unit)) := x_spec_SignsSame_b0 b a k11 (el a k11)
noncomputable def x_spec_SignsSame (a : List Int) (b : List Int) : Option Bool :=
  bif !decide ((a.length : Int) = (b.length : Int)) then (some false) else (Option.bind (eachN (x_spec_SignsSame_f0 b a) (fun (_s53 : Unit) => (Sum.inl () : Sum Unit Unit)) a.length 0 ()) fun (y54 : Sum Unit Unit) => Sum.elim (fun _y55 => some true) (fun _y56 => some false) y54)
theorem ct_spec_SignsSame (w : World) (X S : Bs) (a : List Int) (s_a : Sv) (b : List Int) (s_b : Sv) (hS : SX X S w) (a_a_0 : (cSl 1 fI a).rd S w s_a.v) (a_b_0 : (cSl 1 fI b).rd S w s_b.v) (oL : Sep [] X w) {r : Bool} (hx : x_spec_SignsSame a b = some r) :
 Ret Tryz.prog 140 [s_a.v, s_b.v] w (KV X S w (bv r)) := by
 unfold x_spec_SignsSame at hx
 refine enter Tryz.func140 rfl Tryz.ntmps140 (by kernel_rfl) rfl ?_
 have hM := ((St.enter oL hS).addV a_a_0).addV a_b_0
 refine wc_sr <| was rfl rfl <| wl_sq <| wc_seq <| wc_sr <| wmv rfl rfl <| wv rfl (r_lenC u26 rfl (hM.seeR m1)) <| wmv rfl rfl <| wv rfl (r_lenC u26 rfl (hM.seeR m0)) <| wv rfl (r_neq rfl rfl) <| wl_sq ?_
 refine wcx hx rfl (fun hx => ?_) (fun hx => ?_)
 refine wc_sr <| was rfl rfl <| wl_sq <| wc_ret <| sq_ret ?_
 obtain rfl := oi hx
 exact fin_u [(bv false)] hM ⟨rfl, trivial⟩ rfl
 refine wc_skip <| sq_n <| wc_seq <| wc_sr <| wmv rfl rfl <| wv rfl (r_lenC u26 rfl (hM.seeR m1)) <| wmv rfl rfl <| wl_sq <| wc_block <| bs hx fun y69 hx hx70 => ?_
 have hM := hM.fewer (rsC m1 (rsC m0 rsN))
 replace hM : St ⟨w, X, S⟩ [] [rV s_a.v (cSl 1 fI a), rV s_b.v (cSl 1 fI b)] _ := hM
 have hl74 := Cs.le (hM.seeR m0)
 refine wc_loop (un fun (m71 : Nat) => fun (k72 : Nat) => [(0, s_a.v), (1, s_b.v), (12, (iv (a.length : Int))), (13, (iv (k72 : Int)))]) (un fun (m71 : Nat) => fun (k72 : Nat) w' => St ⟨w, X, S⟩ [] [rV s_a.v (cSl 1 fI a), rV s_b.v (cSl 1 fI b)] w' ∧ eachN _ _ m71 k72 () = some y69 ∧ k72 + m71 = a.length) (fun p => p.1) (a.length, 0) ⟨rfl, rfl, rfl, rfl, trivial⟩ ⟨hM, hx, Nat.zero_add _⟩ ?_
 rintro ⟨m71, k72⟩ w75 ⟨hM, hx, hk73⟩
 refine wc_sr <| wv rfl (r_lss rfl rfl) <| wl_sq <| wc_seq ?_
 refine wc_cond rfl (fun hc77 => ?_) (fun hc77 => ?_)
 replace hc77 := of_decide_eq_true hc77
 obtain ⟨m78, z79, rfl, hk73, hx, hx80⟩ := eachN_step hx hk73 hc77
 unfold x_spec_SignsSame_f0 x_spec_SignsSame_b0 at hx
 try dsimp only at hx
 refine wc_skip <| sq_n <| wc_seq <| wc_block <| wc_sr <| wmv rfl rfl <| was rfl rfl <| wl_sq <| wc_seq <| wc_draw [(0, 0), (1, 0), (2, 0), (3, 0), (4, 0), (5, 0), (6, 0), (7, 0), (8, 0)] Tryz_mixed (by kernel_rfl) rfl (by kernel_rfl) rfl <| omv rfl rfl <| omv rfl rfl ?_
 have hi86 : k72 < a.length := by omega
 refine ov rfl (fun w' h' => r_ixC u26 sz3 rfl rfl ((hM.call h').seeR m0) ⟨by omega, hc77⟩) <| ov rfl (fun w' h' => r_ld u3 rfl rfl (Cs.get (i := k72) (j := 0) ((hM.call h').seeR m0) (fun _ => rfl) hi86 rfl)) <| omv rfl rfl <| omv rfl rfl <| xgs hx fun hg92 hx => ?_
 have hi91 : k72 < b.length := by omega
 refine ov rfl (fun w' h' => r_ixC u26 sz3 rfl rfl ((hM.call h').seeR m1) hg92) <| ov rfl (fun w' h' => r_ld u3 rfl rfl (Cs.get (i := k72) (j := 0) ((hM.call h').seeR m1) (fun _ => rfl) hi91 rfl)) <| ov rfl (fun w' h' => r_neq rfl rfl) <| o_nilM hM fun _ hM => sq_n ?_
 refine wcx hx rfl (fun hx => ?_) (fun hx => ?_)
 refine wc_sr <| was rfl rfl <| wl_sq <| wc_ret <| bk_ret <| sq_ret <| lp1_ret ?_
 cases hx
 obtain rfl := oi hx80
 replace hx := hx70
 refine bk_ret <| sq_ret ?_
 obtain rfl := oi hx
 exact fin_u [(bv false)] hM ⟨rfl, trivial⟩ rfl
 refine wc_skip <| bk_n <| sq_n <| wc_region <| wv rfl (r_add rfl rfl ⟨by omega, by omega⟩) <| wmv rfl rfl <| wl_nil ?_
 cases hx
 exact lp_end (m78, k72 + 1) (Nat.lt_succ_self _) ⟨rfl, rfl, rfl, rfl, trivial⟩ ⟨hM, hx80, hk73⟩
 replace hc77 := of_decide_eq_false hc77
 obtain rfl := eachN_end hx hk73 hc77
 refine wc_exit <| sq_exit <| lp1_exit ?_
 replace hx := hx70
 refine bk_here <| sq_n <| wc_sr <| was rfl rfl <| wl_sq <| wc_ret ?_
 obtain rfl := oi hx
 exact fin_u [(bv true)] hM ⟨rfl, trivial⟩ rfl

noncomputable def x_spec_l02Flush (b : DL02B) : Option DL02B :=
  bif decide ((0 : Int) < (b.put.length : Int)) then (xg (b.list.length + [(⟨2, 0, b.put⟩ : DPart)].length ≤ 1099511627776) <| bif decide ((0 : Int) < b.drop) then (xg ((b.list ++ [(⟨2, 0, b.put⟩ : DPart)]).length + [(⟨3, b.drop, []⟩ : DPart)].length ≤ 1099511627776) <| some (⟨(b.list ++ [(⟨2, 0, b.put⟩ : DPart)]) ++ [(⟨3, b.drop, []⟩ : DPart)], [], 0⟩ : DL02B)) else (some (⟨b.list ++ [(⟨2, 0, b.put⟩ : DPart)], [], 0⟩ : DL02B))) else (bif decide ((0 : Int) < b.drop) then (xg (b.list.length + [(⟨3, b.drop, []⟩ : DPart)].length ≤ 1099511627776) <| some (⟨b.list ++ [(⟨3, b.drop, []⟩ : DPart)], [], 0⟩ : DL02B)) else (some (⟨b.list, [], 0⟩ : DL02B)))
theorem ct_spec_l02Flush (w : World) (X S : Bs) (b_b : Nat) (b : DL02B) (s_b_0 : Sv) (s_b_1 : Sv) (hS : SX X S w)  (oL : Sep [oBox b_b #[s_b_0.v, s_b_1.v, (iv b.drop)] 209, oC (cSl 3 fDPart b.list) s_b_0.v, oC (cSl 1 fI b.put) s_b_1.v] X w) {r : DL02B} (hx : x_spec_l02Flush b = some r) :
 Ret Tryz.prog 211 [(pt b_b 0)] w (fun u w' => ∃ y : Sv × Sv, u = .tuple #[] ∧ Gives X S w [oBox b_b #[y.1.v, y.2.v, (iv r.drop)] 209, oC (cSl 3 fDPart r.list) y.1.v, oC (cSl 1 fI r.put) y.2.v] [] w') := by
 unfold x_spec_l02Flush at hx
 refine enter Tryz.func211 rfl Tryz.ntmps211 (by kernel_rfl) rfl ?_
 have hM := St.enter oL hS
 refine wc_seq <| wc_sr <| wmv rfl rfl <| wv rfl (r_nilck rfl) <| wv rfl (r_fld u209 rfl rfl sz26 rfl) <| wv rfl (r_ldB u26 rfl rfl hM m0 rfl) <| wv rfl (r_lenC u26 rfl (hM.seeO m2)) <| wv rfl (r_gtr rfl rfl) <| wl_sq ?_
 refine wcx hx rfl (fun hx => ?_) (fun hx => ?_)
 refine wc_draw [(0, 0), (1, 0), (2, 0), (3, 0), (4, 0), (5, 0), (6, 0), (7, 0), (8, 0), (9, 0), (10, 1), (11, 2), (12, 0), (13, 0), (14, 2)] Tryz_mixed (by kernel_rfl) rfl (by kernel_rfl) rfl <| omv rfl rfl <| omv rfl rfl <| ov rfl (fun w' h' => r_nilck rfl) <| ov rfl (fun w' h' => r_fld u209 rfl rfl sz57 rfl) <| ov rfl (fun w' h' => r_ldB u57 rfl rfl (hM.call h') m0 rfl) <| omv rfl rfl <| ov rfl (fun w' h' => r_nilck rfl) <| ov rfl (fun w' h' => r_fld u209 rfl rfl sz26 rfl) <| ov rfl (fun w' h' => r_ldB u26 rfl rfl (hM.call h') m0 rfl) <| ov rfl (fun w' h' => r_build (cells := #[(iv 2), (iv 0), s_b_1.v]) rfl (by kernel_rfl)) ?_
 replace hM := hM.p2
 refine o_ex1 rfl fun _ h171 => ?_
 have hM := hM.call h171
 refine x_lit (f := fDPart) (own := [oC (cSl 1 fI b.put) s_b_1.v]) [(⟨2, 0, b.put⟩ : DPart)] [(iv 2), (iv 0), s_b_1.v] 1 u57 sz156 (fun _ => rfl) rfl rfl rfl rfl rfl (by kernel_rfl) (fun _ => zP (pV _ rfl) (zP (pV _ rfl) (zO zN))) hM ?_; intro s168 w167 hR169 hM
 refine ⟨hR169, ?_⟩
 replace hM := hM.p2
 refine xgs hx fun hg175 hx => o_ex rfl fun _ h178 => ?_
 have hM := hM.call h178
 refine x_appendO u57 sz156 rfl rfl hM hg175 rfl ?_; intro s174 w173 hM
 refine ov rfl (fun w' h' => r_nilck rfl) <| ov rfl (fun w' h' => r_fld u209 rfl rfl sz57 rfl) ?_
 replace hM := hM.p1
 refine o_exu fun _ h184 => ?_
 have hM := hM.call h184
 refine x_stB #[s174.v, s_b_1.v, (iv b.drop)] sz57 rfl rfl rfl rfl rfl rfl hM ?_; intro w181 hM
 refine o_nilM hM fun _ hM => sq_n <| wc_seq <| wc_sr <| wmv rfl rfl <| wv rfl (r_nilck rfl) <| wv rfl (r_fld u209 rfl rfl sz3 rfl) <| wv rfl (r_ldB u3 rfl rfl hM m0 rfl) <| wv rfl (r_gtr rfl rfl) <| wl_sq ?_
 refine wcx hx rfl (fun hx => ?_) (fun hx => ?_)
 refine wc_draw [(0, 0), (1, 0), (2, 0), (3, 0), (4, 0), (5, 0), (6, 0), (7, 0), (8, 0), (9, 0), (10, 1), (11, 2), (12, 0), (13, 0), (14, 2)] Tryz_mixed (by kernel_rfl) rfl (by kernel_rfl) rfl <| omv rfl rfl <| omv rfl rfl <| ov rfl (fun w' h' => r_nilck rfl) <| ov rfl (fun w' h' => r_fld u209 rfl rfl sz57 rfl) <| ov rfl (fun w' h' => r_ldB u57 rfl rfl (hM.call h') m0 rfl) <| omv rfl rfl <| ov rfl (fun w' h' => r_nilck rfl) <| ov rfl (fun w' h' => r_fld u209 rfl rfl sz3 rfl) <| ov rfl (fun w' h' => r_ldB u3 rfl rfl (hM.call h') m0 rfl) <| ov rfl (fun w' h' => r_build (cells := #[(iv 3), (iv b.drop), (.slice none 0 0)]) rfl (by kernel_rfl)) <| o_ex1 rfl fun _ h207 => ?_
 have hM := hM.call h207
 refine x_lit (f := fDPart) (own := []) [(⟨3, b.drop, []⟩ : DPart)] [(iv 3), (iv b.drop), (.slice none 0 0)] 1 u57 sz156 (fun _ => rfl) rfl rfl rfl rfl rfl (by kernel_rfl) (fun _ => zP (pV _ rfl) (zP (pV _ rfl) (zP (pN _ _) zN))) hM ?_; intro s204 w203 hR205 hM
 refine ⟨hR205, ?_⟩
 replace hM := hM.p2
 refine xgs hx fun hg211 hx => o_ex rfl fun _ h214 => ?_
 have hM := hM.call h214
 refine x_appendO u57 sz156 rfl rfl hM hg211 rfl ?_; intro s210 w209 hM
 refine ov rfl (fun w' h' => r_nilck rfl) <| ov rfl (fun w' h' => r_fld u209 rfl rfl sz57 rfl) ?_
 replace hM := hM.p1
 refine o_exu fun _ h220 => ?_
 have hM := hM.call h220
 refine x_stB #[s210.v, s_b_1.v, (iv b.drop)] sz57 rfl rfl rfl rfl rfl rfl hM ?_; intro w217 hM
 refine o_nilM hM fun _ hM => sq_n <| wc_sr <| wmv rfl rfl <| wv rfl (r_nilck rfl) <| wv rfl (r_fld u209 rfl rfl sz26 rfl) ?_
 refine w_exu (x_stB #[s210.v, (.slice none 0 0), (iv b.drop)] sz26 rfl rfl rfl rfl rfl rfl hM ?_); intro w226 hM
 refine wl_sq <| wc_region <| wmv rfl rfl <| wv rfl (r_nilck rfl) <| wv rfl (r_fld u209 rfl rfl sz3 rfl) ?_
 refine w_exu (x_stB #[s210.v, (.slice none 0 0), (iv 0)] sz3 rfl rfl rfl rfl rfl rfl hM ?_); intro w231 hM
 refine wl_nil ?_
 obtain rfl := oi hx
 have hM := hM.nil0 (T := Int) 1 fI
 refine fin_end [] trivial ?_
 replace hM := hM.p2.p2
 replace hM := hM.t3
 exact ⟨(s210, nS), rfl, (hM.fewer rsN).gives⟩
 refine wc_skip <| sq_n <| wc_sr <| wmv rfl rfl <| wv rfl (r_nilck rfl) <| wv rfl (r_fld u209 rfl rfl sz26 rfl) ?_
 refine w_exu (x_stB #[s174.v, (.slice none 0 0), (iv b.drop)] sz26 rfl rfl rfl rfl rfl rfl hM ?_); intro w237 hM
 refine wl_sq <| wc_region <| wmv rfl rfl <| wv rfl (r_nilck rfl) <| wv rfl (r_fld u209 rfl rfl sz3 rfl) ?_
 refine w_exu (x_stB #[s174.v, (.slice none 0 0), (iv 0)] sz3 rfl rfl rfl rfl rfl rfl hM ?_); intro w242 hM
 refine wl_nil ?_
 obtain rfl := oi hx
 have hM := hM.nil0 (T := Int) 1 fI
 refine fin_end [] trivial ?_
 replace hM := hM.p2.p2
 replace hM := hM.t3
 exact ⟨(s174, nS), rfl, (hM.fewer rsN).gives⟩
 refine wc_skip <| sq_n <| wc_seq <| wc_sr <| wmv rfl rfl <| wv rfl (r_nilck rfl) <| wv rfl (r_fld u209 rfl rfl sz3 rfl) <| wv rfl (r_ldB u3 rfl rfl hM m0 rfl) <| wv rfl (r_gtr rfl rfl) <| wl_sq ?_
 refine wcx hx rfl (fun hx => ?_) (fun hx => ?_)
 refine wc_draw [(0, 0), (1, 0), (2, 0), (3, 0), (4, 0), (5, 0), (6, 0), (7, 0), (8, 0), (9, 0), (10, 1), (11, 2), (12, 0), (13, 0), (14, 2)] Tryz_mixed (by kernel_rfl) rfl (by kernel_rfl) rfl <| omv rfl rfl <| omv rfl rfl <| ov rfl (fun w' h' => r_nilck rfl) <| ov rfl (fun w' h' => r_fld u209 rfl rfl sz57 rfl) <| ov rfl (fun w' h' => r_ldB u57 rfl rfl (hM.call h') m0 rfl) <| omv rfl rfl <| ov rfl (fun w' h' => r_nilck rfl) <| ov rfl (fun w' h' => r_fld u209 rfl rfl sz3 rfl) <| ov rfl (fun w' h' => r_ldB u3 rfl rfl (hM.call h') m0 rfl) <| ov rfl (fun w' h' => r_build (cells := #[(iv 3), (iv b.drop), (.slice none 0 0)]) rfl (by kernel_rfl)) <| o_ex1 rfl fun _ h265 => ?_
 have hM := hM.call h265
 refine x_lit (f := fDPart) (own := []) [(⟨3, b.drop, []⟩ : DPart)] [(iv 3), (iv b.drop), (.slice none 0 0)] 1 u57 sz156 (fun _ => rfl) rfl rfl rfl rfl rfl (by kernel_rfl) (fun _ => zP (pV _ rfl) (zP (pV _ rfl) (zP (pN _ _) zN))) hM ?_; intro s262 w261 hR263 hM
 refine ⟨hR263, ?_⟩
 replace hM := hM.p2
 refine xgs hx fun hg269 hx => o_ex rfl fun _ h272 => ?_
 have hM := hM.call h272
 refine x_appendO u57 sz156 rfl rfl hM hg269 rfl ?_; intro s268 w267 hM
 refine ov rfl (fun w' h' => r_nilck rfl) <| ov rfl (fun w' h' => r_fld u209 rfl rfl sz57 rfl) ?_
 replace hM := hM.p1
 refine o_exu fun _ h278 => ?_
 have hM := hM.call h278
 refine x_stB #[s268.v, s_b_1.v, (iv b.drop)] sz57 rfl rfl rfl rfl rfl rfl hM ?_; intro w275 hM
 refine o_nilM hM fun _ hM => sq_n <| wc_sr <| wmv rfl rfl <| wv rfl (r_nilck rfl) <| wv rfl (r_fld u209 rfl rfl sz26 rfl) ?_
 refine w_exu (x_stB #[s268.v, (.slice none 0 0), (iv b.drop)] sz26 rfl rfl rfl rfl rfl rfl hM ?_); intro w284 hM
 refine wl_sq <| wc_region <| wmv rfl rfl <| wv rfl (r_nilck rfl) <| wv rfl (r_fld u209 rfl rfl sz3 rfl) ?_
 refine w_exu (x_stB #[s268.v, (.slice none 0 0), (iv 0)] sz3 rfl rfl rfl rfl rfl rfl hM ?_); intro w289 hM
 refine wl_nil ?_
 obtain rfl := oi hx
 have hM := hM.nil0 (T := Int) 1 fI
 refine fin_end [] trivial ?_
 replace hM := hM.p2.p2
 replace hM := hM.t3
 exact ⟨(s268, nS), rfl, (hM.fewer rsN).gives⟩
 refine wc_skip <| sq_n <| wc_sr <| wmv rfl rfl <| wv rfl (r_nilck rfl) <| wv rfl (r_fld u209 rfl rfl sz26 rfl) ?_
 refine w_exu (x_stB #[s_b_0.v, (.slice none 0 0), (iv b.drop)] sz26 rfl rfl rfl rfl rfl rfl hM ?_); intro w295 hM
 refine wl_sq <| wc_region <| wmv rfl rfl <| wv rfl (r_nilck rfl) <| wv rfl (r_fld u209 rfl rfl sz3 rfl) ?_
 refine w_exu (x_stB #[s_b_0.v, (.slice none 0 0), (iv 0)] sz3 rfl rfl rfl rfl rfl rfl hM ?_); intro w300 hM
 refine wl_nil ?_
 obtain rfl := oi hx
 have hM := hM.nil0 (T := Int) 1 fI
 refine fin_end [] trivial ?_
 replace hM := hM.p2.p2
 replace hM := hM.t3
 exact ⟨(s_b_0, nS), rfl, (hM.fewer rsN).gives⟩

noncomputable def x_spec_l02Done (b : DL02B) : Option (List DPart × DL02B) :=
  Option.bind (x_spec_l02Flush b) fun r6 => some (r6.list, r6)
theorem ct_spec_l02Done (w : World) (X S : Bs) (b_b : Nat) (b : DL02B) (s_b_0 : Sv) (s_b_1 : Sv) (hS : SX X S w)  (oL : Sep [oBox b_b #[s_b_0.v, s_b_1.v, (iv b.drop)] 209, oC (cSl 3 fDPart b.list) s_b_0.v, oC (cSl 1 fI b.put) s_b_1.v] X w) {r : List DPart × DL02B} (hx : x_spec_l02Done b = some r) :
 Ret Tryz.prog 195 [(pt b_b 0)] w (fun u w' => ∃ y : Sv × Sv × Sv, u = y.1.v ∧ Gives X S w [oC (cSl 3 fDPart r.1) y.1.v, oBox b_b #[y.2.1.v, y.2.2.v, (iv r.2.drop)] 209, oC (cSl 1 fI r.2.put) y.2.2.v] [] w') := by
 unfold x_spec_l02Done at hx
 refine enter Tryz.func195 rfl Tryz.ntmps195 (by kernel_rfl) rfl ?_
 have hM := St.enter oL hS
 refine wc_sr <| was rfl rfl <| wl_sq <| wc_sr <| wmv rfl rfl <| bs hx fun _ h19 hx => w_call rfl rfl (hM.callO (l := [oBox b_b #[s_b_0.v, s_b_1.v, (iv b.drop)] 209, oC (cSl 3 fDPart b.list) s_b_0.v, oC (cSl 1 fI b.put) s_b_1.v]) fun X S oL hS hR hO => ct_spec_l02Flush _ X S b_b b s_b_0 s_b_1 hS  oL h19) ?_
 rintro _ w20 ⟨⟨s21, s22⟩, rfl, hM⟩
 dsimp only [List.cons_append, List.nil_append] at hM
 refine wl_sq <| wc_sr <| wmv rfl rfl <| wv rfl (r_nilck rfl) <| wv rfl (r_fld u209 rfl rfl sz57 rfl) <| wv rfl (r_ldB u57 rfl rfl hM m0 rfl) <| was rfl rfl <| wl_sq <| wc_ret ?_
 obtain rfl := oi hx
 refine fin_ret [s21.v] ⟨rfl, trivial⟩ ?_
 replace hM := hM.p2.p1.p2
 replace hM := hM.t3
 exact ⟨(s21, s21, s22), rfl, (hM.fewer rsN).gives⟩

noncomputable def x_spec_l02Keep (b : DL02B) (n : Int) : Option DL02B :=
  bif decide (n = 0) then (some b) else (Option.bind (x_spec_l02Flush b) fun r7 => Option.bind (bif decide ((0 : Int) < (r7.list.length : Int)) then (xg (inI ((r7.list.length : Int) - 1)) <| xg (0 ≤ ((r7.list.length : Int) - 1) ∧ ((r7.list.length : Int) - 1) < (r7.list.length : Int)) <| some (decide (((el r7.list (((r7.list.length : Int) - 1).toNat)).kind) = 1))) else (some false)) fun c21 => bif c21 then (xg (inI ((r7.list.length : Int) - 1)) <| xg (inI ((r7.list.length : Int) - 1)) <| xg (0 ≤ ((r7.list.length : Int) - 1) ∧ ((r7.list.length : Int) - 1) < (r7.list.length : Int)) <| xg (inI (((el r7.list (((r7.list.length : Int) - 1).toNat)).n) + n)) <| xg (0 ≤ ((r7.list.length : Int) - 1) ∧ ((r7.list.length : Int) - 1) < (r7.list.length : Int)) <| some (⟨r7.list.set (((r7.list.length : Int) - 1).toNat) (⟨(el r7.list (((r7.list.length : Int) - 1).toNat)).kind, ((el r7.list (((r7.list.length : Int) - 1).toNat)).n) + n, (el r7.list (((r7.list.length : Int) - 1).toNat)).signs⟩ : DPart), r7.put, r7.drop⟩ : DL02B)) else (xg (r7.list.length < 1099511627776) <| some (⟨r7.list ++ [(⟨1, n, []⟩ : DPart)], r7.put, r7.drop⟩ : DL02B)))
theorem ct_spec_l02Keep (w : World) (X S : Bs) (b_b : Nat) (b : DL02B) (s_b_0 : Sv) (s_b_1 : Sv) (n : Int) (hS : SX X S w)  (oL : Sep [oBox b_b #[s_b_0.v, s_b_1.v, (iv b.drop)] 209, oC (cSl 3 fDPart b.list) s_b_0.v, oC (cSl 1 fI b.put) s_b_1.v] X w) {r : DL02B} (hx : x_spec_l02Keep b n = some r) :
 Ret Tryz.prog 192 [(pt b_b 0), (iv n)] w (fun u w' => ∃ y : Sv × Sv, u = .tuple #[] ∧ Gives X S w [oBox b_b #[y.1.v, y.2.v, (iv r.drop)] 209, oC (cSl 3 fDPart r.list) y.1.v, oC (cSl 1 fI r.put) y.2.v] [] w') := by
 unfold x_spec_l02Keep at hx
 refine enter Tryz.func192 rfl Tryz.ntmps192 (by kernel_rfl) rfl ?_
 have hM := St.enter oL hS
 refine wc_seq <| wc_sr <| wmv rfl rfl <| wv rfl (r_eql rfl rfl) <| wl_sq ?_
 refine wcx hx rfl (fun hx => ?_) (fun hx => ?_)
 refine wc_ret <| sq_ret ?_
 obtain rfl := oi hx
 refine fin_ret [] trivial ?_
 replace hM := hM.t3
 exact ⟨(s_b_0, s_b_1), rfl, (hM.fewer rsN).gives⟩
 refine wc_skip <| sq_n <| wc_sr <| wmv rfl rfl <| bs hx fun r100 h101 hx => w_call rfl rfl (hM.callO (l := [oBox b_b #[s_b_0.v, s_b_1.v, (iv b.drop)] 209, oC (cSl 3 fDPart b.list) s_b_0.v, oC (cSl 1 fI b.put) s_b_1.v]) fun X S oL hS hR hO => ct_spec_l02Flush _ X S b_b b s_b_0 s_b_1 hS  oL h101) ?_
 rintro _ w102 ⟨⟨s103, s104⟩, rfl, hM⟩
 dsimp only [List.cons_append, List.nil_append] at hM
 refine wl_sq <| wc_sr <| wmv rfl rfl <| wv rfl (r_nilck rfl) <| wv rfl (r_fld u209 rfl rfl sz57 rfl) <| wv rfl (r_ldB u57 rfl rfl hM m0 rfl) <| wv rfl (r_lenC u57 rfl (hM.seeO m1)) <| was rfl rfl <| wl_sq <| wc_seq <| wc_sr <| wmv rfl rfl <| wv rfl (r_gtr rfl rfl) <| wmv rfl rfl ?_
 refine bs hx fun c114 hx hx129 => ?_
 refine wl_midH 11 [(27, (bv c114)), (0, (pt b_b 0)), (1, (iv n)), (4, (iv (r100.list.length : Int)))] hM ?_ fun w130 hM => ?_
 refine cs2 hx (fun hg115 hx => ?_) (fun hg115 hx => ?_)
 refine gv rfl hg115 rfl (r_move rfl) <| gv rfl hg115 rfl (r_nilck rfl) <| gv rfl hg115 rfl (r_fld u209 rfl rfl sz57 rfl) <| gv rfl hg115 rfl (r_ldB u57 rfl rfl hM m0 rfl) <| gv rfl hg115 rfl (r_move rfl) <| xgs hx fun hg137 hx => gv rfl hg115 rfl (r_sub rfl rfl hg137) <| xgs hx fun hg140 hx => ?_
 have hi139 : (((r100.list.length : Int) - 1).toNat) < r100.list.length := by omega
 refine gv rfl hg115 rfl (r_ixC u57 sz156 rfl rfl (hM.seeO m1) hg140) <| gv rfl hg115 rfl (r_fldC (i := (((r100.list.length : Int) - 1).toNat)) u156 rfl rfl sz3 rfl (hM.seeO m1) hi139) <| gv rfl hg115 rfl (r_ld u3 rfl rfl (Cs.get (i := (((r100.list.length : Int) - 1).toNat)) (j := 0) (hM.seeO m1) (fun _ => rfl) hi139 rfl)) <| gv rfl hg115 rfl (r_eql rfl rfl) <| wv rfl (p_t rfl hg115 rfl) ?_
 cases hx
 exact mid_h ⟨rfl, rfl, rfl, rfl, trivial⟩ hM
 refine gn hg115 rfl rfl <| gn hg115 rfl rfl <| gn hg115 rfl rfl <| gn hg115 rfl rfl <| gn hg115 rfl rfl <| gn hg115 rfl rfl <| gn hg115 rfl rfl <| gn hg115 rfl rfl <| gn hg115 rfl rfl <| gn hg115 rfl rfl <| wv rfl (p_f rfl hg115 rfl) ?_
 obtain rfl := oi hx
 exact mid_h ⟨rfl, rfl, rfl, rfl, trivial⟩ hM
 replace hx := hx129
 refine wl_sq ?_
 refine wcx hx rfl (fun hx => ?_) (fun hx => ?_)
 refine wc_seq <| wc_draw [(0, 0), (1, 0), (2, 0), (3, 0), (4, 0), (5, 0), (6, 0), (7, 0), (8, 0), (9, 0), (10, 0), (11, 0), (12, 0), (13, 0), (14, 0), (15, 0), (16, 0), (17, 0), (18, 0), (19, 2)] Tryz_mixed (by kernel_rfl) rfl (by kernel_rfl) rfl <| omv rfl rfl <| ov rfl (fun w' h' => r_nilck rfl) <| ov rfl (fun w' h' => r_fld u209 rfl rfl sz57 rfl) <| ov rfl (fun w' h' => r_ldB u57 rfl rfl (hM.call h') m0 rfl) <| omv rfl rfl <| xgs hx fun hg151 hx => ov rfl (fun w' h' => r_sub rfl rfl hg151) <| omv rfl rfl <| ov rfl (fun w' h' => r_nilck rfl) <| ov rfl (fun w' h' => r_fld u209 rfl rfl sz57 rfl) <| ov rfl (fun w' h' => r_ldB u57 rfl rfl (hM.call h') m0 rfl) <| omv rfl rfl ?_
 refine xgs hx fun hg158 hx => ov rfl (fun w' h' => r_sub rfl rfl hg158) <| xgs hx fun hg161 hx => ?_
 have hi160 : (((r100.list.length : Int) - 1).toNat) < r100.list.length := by omega
 refine ov rfl (fun w' h' => r_ixC u57 sz156 rfl rfl ((hM.call h').seeO m1) hg161) <| ov rfl (fun w' h' => r_fldC (i := (((r100.list.length : Int) - 1).toNat)) u156 rfl rfl sz3 rfl ((hM.call h').seeO m1) hi160) <| ov rfl (fun w' h' => r_ld u3 rfl rfl (Cs.get (i := (((r100.list.length : Int) - 1).toNat)) (j := 1) ((hM.call h').seeO m1) (fun _ => rfl) hi160 rfl)) <| omv rfl rfl <| xgs hx fun hg166 hx => ov rfl (fun w' h' => r_add rfl rfl hg166) <| xgs hx fun hg169 hx => ?_
 have hi168 : (((r100.list.length : Int) - 1).toNat) < r100.list.length := by omega
 refine ov rfl (fun w' h' => r_ixC u57 sz156 rfl rfl ((hM.call h').seeO m1) hg169) <| ov rfl (fun w' h' => r_fldC (i := (((r100.list.length : Int) - 1).toNat)) u156 rfl rfl sz3 rfl ((hM.call h').seeO m1) hi168) ?_
 replace hM := hM.p1
 refine o_exu fun _ h174 => ?_
 have hM := hM.call h174
 refine x_stE (f := fDPart) (k := 3) (L := r100.list) (i := (((r100.list.length : Int) - 1).toNat)) (j := 1) (⟨(el r100.list (((r100.list.length : Int) - 1).toNat)).kind, ((el r100.list (((r100.list.length : Int) - 1).toNat)).n) + n, (el r100.list (((r100.list.length : Int) - 1).toNat)).signs⟩ : DPart) [cI (((el r100.list (((r100.list.length : Int) - 1).toNat)).n) + n)] sz3 (fun _ => rfl) rfl rfl hi168 rfl rfl rfl rfl rfl (fun _ => zP (pV _ rfl) zN) hM ?_; intro w171 hM
 refine o_nilM hM fun _ hM => sq_n <| wc_ret <| sq_ret ?_
 obtain rfl := oi hx
 refine fin_ret [] trivial ?_
 replace hM := hM.p2.p1.p2
 replace hM := hM.t3
 exact ⟨(s103, s104), rfl, (hM.fewer rsN).gives⟩
 refine wc_skip <| sq_n <| wc_region <| wmv rfl rfl <| wmv rfl rfl <| wv rfl (r_nilck rfl) <| wv rfl (r_fld u209 rfl rfl sz57 rfl) <| wv rfl (r_ldB u57 rfl rfl hM m0 rfl) <| wmv rfl rfl <| wv rfl (r_build (cells := #[(iv 1), (iv n), (.slice none 0 0)]) rfl (by kernel_rfl)) ?_
 replace hM := hM.p1
 refine xgs hx fun hg187 hx => ?_
 refine w_push (f := fDPart) (⟨1, n, []⟩ : DPart) rfl rfl u57 sz156 rfl rfl rfl rfl (fun _ => rfl) hM (fun _ => zP (pV _ rfl) (zP (pV _ rfl) (zP (pN _ _) zN))) rfl hg187 rfl ?_; intro u185 s186 w184 hM
 refine wv rfl (r_nilck rfl) <| wv rfl (r_fld u209 rfl rfl sz57 rfl) ?_
 replace hM := hM.p1
 refine w_exu (x_stB #[s186.v, s104.v, (iv r100.drop)] sz57 rfl rfl rfl rfl rfl rfl hM ?_); intro w190 hM
 refine wl_nil ?_
 obtain rfl := oi hx
 refine fin_end [] trivial ?_
 replace hM := hM.t3
 exact ⟨(s186, s104), rfl, (hM.fewer rsN).gives⟩

noncomputable def x_spec_l02Put (b : DL02B) (l : List Int) : Option DL02B :=
  xg (b.put.length + l.length ≤ 1099511627776) <| some (⟨b.list, b.put ++ l, b.drop⟩ : DL02B)
theorem ct_spec_l02Put (w : World) (X S : Bs) (b_b : Nat) (b : DL02B) (s_b_0 : Sv) (s_b_1 : Sv) (l : List Int) (s_l : Sv) (hS : SX X S w) (a_l_0 : (cSl 1 fI l).rd S w s_l.v) (oL : Sep [oBox b_b #[s_b_0.v, s_b_1.v, (iv b.drop)] 209, oC (cSl 3 fDPart b.list) s_b_0.v, oC (cSl 1 fI b.put) s_b_1.v] X w) {r : DL02B} (hx : x_spec_l02Put b l = some r) :
 Ret Tryz.prog 193 [(pt b_b 0), s_l.v] w (fun u w' => ∃ y : Sv × Sv, u = .tuple #[] ∧ Gives X S w [oBox b_b #[y.1.v, y.2.v, (iv r.drop)] 209, oC (cSl 3 fDPart r.list) y.1.v, oC (cSl 1 fI r.put) y.2.v] [] w') := by
 unfold x_spec_l02Put at hx
 refine enter Tryz.func193 rfl Tryz.ntmps193 (by kernel_rfl) rfl ?_
 have hM := (St.enter oL hS).addV a_l_0
 refine wc_region <| wmv rfl rfl <| wmv rfl rfl <| wv rfl (r_nilck rfl) <| wv rfl (r_fld u209 rfl rfl sz26 rfl) <| wv rfl (r_ldB u26 rfl rfl hM m0 rfl) <| wmv rfl rfl ?_
 replace hM := hM.p2
 refine xgs hx fun hg26 hx => ?_
 refine w_ex rfl (x_append u26 sz3 rfl rfl (hM.seeR m0) flI hM hg26 rfl ?_); intro s25 w24 hM
 refine wv rfl (r_nilck rfl) <| wv rfl (r_fld u209 rfl rfl sz26 rfl) ?_
 replace hM := hM.p1
 refine w_exu (x_stB #[s_b_0.v, s25.v, (iv b.drop)] sz26 rfl rfl rfl rfl rfl rfl hM ?_); intro w30 hM
 refine wl_nil ?_
 obtain rfl := oi hx
 refine fin_end [] trivial ?_
 replace hM := hM.p1.p2.p2
 replace hM := hM.t3
 exact ⟨(s_b_0, s25), rfl, (hM.fewer rsN).gives⟩

noncomputable def x_spec_l02Drop (b : DL02B) (n : Int) : Option DL02B :=
  xg (inI (b.drop + n)) <| some (⟨b.list, b.put, b.drop + n⟩ : DL02B)
theorem ct_spec_l02Drop (w : World) (X S : Bs) (b_b : Nat) (b : DL02B) (s_b_0 : Sv) (s_b_1 : Sv) (n : Int) (hS : SX X S w)  (oL : Sep [oBox b_b #[s_b_0.v, s_b_1.v, (iv b.drop)] 209, oC (cSl 3 fDPart b.list) s_b_0.v, oC (cSl 1 fI b.put) s_b_1.v] X w) {r : DL02B} (hx : x_spec_l02Drop b n = some r) :
 Ret Tryz.prog 194 [(pt b_b 0), (iv n)] w (fun u w' => ∃ y : Sv × Sv, u = .tuple #[] ∧ Gives X S w [oBox b_b #[y.1.v, y.2.v, (iv r.drop)] 209, oC (cSl 3 fDPart r.list) y.1.v, oC (cSl 1 fI r.put) y.2.v] [] w') := by
 unfold x_spec_l02Drop at hx
 refine enter Tryz.func194 rfl Tryz.ntmps194 (by kernel_rfl) rfl ?_
 have hM := St.enter oL hS
 refine wc_region <| wmv rfl rfl <| wmv rfl rfl <| wv rfl (r_nilck rfl) <| wv rfl (r_fld u209 rfl rfl sz3 rfl) <| wv rfl (r_ldB u3 rfl rfl hM m0 rfl) <| wmv rfl rfl <| xgs hx fun hg23 hx => wv rfl (r_add rfl rfl hg23) <| wv rfl (r_nilck rfl) <| wv rfl (r_fld u209 rfl rfl sz3 rfl) ?_
 refine w_exu (x_stB #[s_b_0.v, s_b_1.v, (iv (b.drop + n))] sz3 rfl rfl rfl rfl rfl rfl hM ?_); intro w26 hM
 refine wl_nil ?_
 obtain rfl := oi hx
 refine fin_end [] trivial ?_
 replace hM := hM.t3
 exact ⟨(s_b_0, s_b_1), rfl, (hM.fewer rsN).gives⟩

noncomputable def x_spec_OpSame_b0 (b : List DPart) (_a : List DPart) (k11 : Nat) (x182 : DPart) : Option (Lr Unit (Sum Unit Unit)) :=
  xg (0 ≤ (k11 : Int) ∧ (k11 : Int) < (b.length : Int)) <| Option.bind (bif !decide ((x182.kind) = ((el b k11).kind)) then (some true) else (xg (0 ≤ (k11 : Int) ∧ (k11 : Int) < (b.length : Int)) <| some (!decide ((x182.n) = ((el b k11).n))))) fun c122 => Option.bind (bif c122 then (some true) else (xg (0 ≤ (k11 : Int) ∧ (k11 : Int) < (b.length : Int)) <| Option.bind (x_spec_SignsSame (x182.signs) ((el b k11).signs)) fun r173 => some (!r173))) fun c145 => bif c145 then (some (Lr.out (Sum.inr (())))) else (some (Lr.go ()))
noncomputable def x_spec_OpSame_f0 (b : List DPart) (a : List DPart) (k11 : Nat) (_s183 : Unit) : Option (Lr Unit (Sum Unit Unit)) := x_spec_OpSame_b0 b a k11 (el a k11)
noncomputable def x_spec_OpSame (a : List DPart) (b : List DPart) : Option Bool :=
  bif !decide ((a.length : Int) = (b.length : Int)) then (some false) else (Option.bind (eachN (x_spec_OpSame_f0 b a) (fun (_s183 : Unit) => (Sum.inl () : Sum Unit Unit)) a.length 0 ()) fun (y184 : Sum Unit Unit) => Sum.elim (fun _y185 => some true) (fun _y186 => some false) y184)
theorem ct_spec_OpSame (w : World) (X S : Bs) (a : List DPart) (s_a : Sv) (b : List DPart) (s_b : Sv) (hS : SX X S w) (a_a_0 : (cSl 3 fDPart a).rd S w s_a.v) (a_b_0 : (cSl 3 fDPart b).rd S w s_b.v) (oL : Sep [] X w) {r : Bool} (hx : x_spec_OpSame a b = some r) :
 Ret Tryz.prog 175 [s_a.v, s_b.v] w (KV X S w (bv r)) := by
 unfold x_spec_OpSame at hx
 refine enter Tryz.func175 rfl Tryz.ntmps175 (by kernel_rfl) rfl ?_
 have hM := ((St.enter oL hS).addV a_a_0).addV a_b_0
 refine wc_sr <| was rfl rfl <| wl_sq <| wc_seq <| wc_sr <| wmv rfl rfl <| wv rfl (r_lenC u57 rfl (hM.seeR m1)) <| wmv rfl rfl <| wv rfl (r_lenC u57 rfl (hM.seeR m0)) <| wv rfl (r_neq rfl rfl) <| wl_sq ?_
 refine wcx hx rfl (fun hx => ?_) (fun hx => ?_)
 refine wc_sr <| was rfl rfl <| wl_sq <| wc_ret <| sq_ret ?_
 obtain rfl := oi hx
 exact fin_u [(bv false)] hM ⟨rfl, trivial⟩ rfl
 refine wc_skip <| sq_n <| wc_seq <| wc_sr <| wmv rfl rfl <| wv rfl (r_lenC u57 rfl (hM.seeR m1)) <| wmv rfl rfl <| wl_sq <| wc_block <| bs hx fun y199 hx hx200 => ?_
 have hl204 := Cs.le (hM.seeR m1)
 refine wc_loop (un fun (m201 : Nat) => fun (k202 : Nat) => [(1, s_b.v), (12, s_a.v), (13, (iv (a.length : Int))), (14, (iv (k202 : Int)))]) (un fun (m201 : Nat) => fun (k202 : Nat) w' => St ⟨w, X, S⟩ [] [rV s_b.v (cSl 3 fDPart b), rV s_a.v (cSl 3 fDPart a)] w' ∧ eachN _ _ m201 k202 () = some y199 ∧ k202 + m201 = a.length) (fun p => p.1) (a.length, 0) ⟨rfl, rfl, rfl, rfl, trivial⟩ ⟨hM, hx, Nat.zero_add _⟩ ?_
 rintro ⟨m201, k202⟩ w205 ⟨hM, hx, hk203⟩
 refine wc_sr <| wv rfl (r_lss rfl rfl) <| wl_sq <| wc_seq ?_
 refine wc_cond rfl (fun hc207 => ?_) (fun hc207 => ?_)
 replace hc207 := of_decide_eq_true hc207
 obtain ⟨m208, z209, rfl, hk203, hx, hx210⟩ := eachN_step hx hk203 hc207
 unfold x_spec_OpSame_f0 x_spec_OpSame_b0 at hx
 try dsimp only at hx
 refine wc_skip <| sq_n <| wc_seq <| wc_block <| wc_sr <| wmv rfl rfl ?_
 have hi213 : k202 < a.length := by omega
 refine wv rfl (r_ixC u57 sz156 rfl rfl (hM.seeR m1) ⟨by omega, hc207⟩) ?_
 obtain ⟨s215, hM, hc216⟩ := hM.leaf (i := k202) (j := 2) m1 (fun _ => rfl) hi213 rfl
 refine wv rfl (r_ldC (o := k202 * 3) u156 sz156 rfl (us := [(iv ((el a k202).kind)), (iv ((el a k202).n)), s215.v]) rfl (hM.seeR m2) hi213 ⟨(Cs.get (i := k202) (j := 0) (hM.seeR m2) (fun _ => rfl) hi213 rfl), (Cs.get (i := k202) (j := 1) (hM.seeR m2) (fun _ => rfl) hi213 rfl), (hc216 _ (Rel.refl _)), trivial⟩) ?_
 refine w_ex rfl (x_alloc sz156 hM ?_); intro b218 w217 hR219 hM
 refine was rfl rfl ?_
 refine w_exu (x_stB #[(iv ((el a k202).kind)), (iv ((el a k202).n)), s215.v] sz156 rfl rfl rfl rfl rfl rfl hM ?_); intro w222 hM
 refine wl_sq <| wc_seq <| wc_draw [(0, 0), (1, 0), (2, 0), (3, 0), (4, 0), (5, 0), (6, 0), (7, 0), (8, 0), (9, 0), (10, 0), (11, 0), (12, 0), (13, 0), (14, 0), (15, 0), (16, 0), (17, 0), (18, 0), (19, 0), (20, 0), (21, 0), (22, 0), (23, 0), (24, 0), (25, 0), (26, 0), (27, 0), (28, 0)] Tryz_mixed (by kernel_rfl) rfl (by kernel_rfl) rfl <| ov rfl (fun w' h' => r_fld u156 rfl rfl sz3 rfl) <| ov rfl (fun w' h' => r_ldB u3 rfl rfl (hM.call h') m0 rfl) <| omv rfl rfl <| omv rfl rfl <| xgs hx fun hg230 hx => ?_
 have hi229 : k202 < b.length := by omega
 refine ov rfl (fun w' h' => r_ixC u57 sz156 rfl rfl ((hM.call h').seeR m1) hg230) <| ov rfl (fun w' h' => r_fldC (i := k202) u156 rfl rfl sz3 rfl ((hM.call h').seeR m1) hi229) <| ov rfl (fun w' h' => r_ld u3 rfl rfl (Cs.get (i := k202) (j := 0) ((hM.call h').seeR m1) (fun _ => rfl) hi229 rfl)) <| ov rfl (fun w' h' => r_neq rfl rfl) <| omv rfl rfl <| bs hx fun c235 hx hx247 => ?_
 refine wo_mid 9 [(36, (bv c235)), (1, s_b.v), (5, (iv (k202 : Int))), (6, (pt b218 0)), (12, s_a.v), (13, (iv (a.length : Int))), (14, (iv (k202 : Int)))] rfl ?_ ?_
 refine cs2 hx (fun hg236 hx => ?_) (fun hg236 hx => ?_)
 refine ogs rfl (isB_no hg236) rfl <| ogs rfl (isB_no hg236) rfl <| ogs rfl (isB_no hg236) rfl <| ogs rfl (isB_no hg236) rfl <| ogs rfl (isB_no hg236) rfl <| ogs rfl (isB_no hg236) rfl <| ogs rfl (isB_no hg236) rfl <| ogs rfl (isB_no hg236) rfl <| ov rfl (fun w' h' => p_t rfl hg236 rfl) ?_
 obtain rfl := oi hx
 exact mid_onil ⟨rfl, rfl, rfl, rfl, rfl, rfl, rfl, trivial⟩
 refine ogv rfl hg236 rfl (fun w' h' => r_fld u156 rfl rfl sz3 rfl) <| ogv rfl hg236 rfl (fun w' h' => r_ldB u3 rfl rfl (hM.call h') m0 rfl) <| ogv rfl hg236 rfl (fun w' h' => r_move rfl) <| ogv rfl hg236 rfl (fun w' h' => r_move rfl) <| xgs hx fun hg254 hx => ?_
 have hi253 : k202 < b.length := by omega
 refine ogv rfl hg236 rfl (fun w' h' => r_ixC u57 sz156 rfl rfl ((hM.call h').seeR m1) hg254) <| ogv rfl hg236 rfl (fun w' h' => r_fldC (i := k202) u156 rfl rfl sz3 rfl ((hM.call h').seeR m1) hi253) <| ogv rfl hg236 rfl (fun w' h' => r_ld u3 rfl rfl (Cs.get (i := k202) (j := 1) ((hM.call h').seeR m1) (fun _ => rfl) hi253 rfl)) <| ogv rfl hg236 rfl (fun w' h' => r_neq rfl rfl) <| ov rfl (fun w' h' => p_f rfl hg236 rfl) ?_
 cases hx
 exact mid_onil ⟨rfl, rfl, rfl, rfl, rfl, rfl, rfl, trivial⟩
 replace hx := hx247
 refine omv rfl rfl <| bs hx fun c259 hx hx276 => ?_
 refine wo_mid 10 [(47, (bv c259)), (1, s_b.v), (12, s_a.v), (13, (iv (a.length : Int))), (14, (iv (k202 : Int)))] rfl ?_ ?_
 refine cs2 hx (fun hg260 hx => ?_) (fun hg260 hx => ?_)
 refine ogs rfl (isB_no hg260) rfl <| ogs rfl (isB_no hg260) rfl <| ogs rfl (isB_no hg260) rfl <| ogs rfl (isB_no hg260) rfl <| ogs rfl (isB_no hg260) rfl <| ogs rfl (isB_no hg260) rfl <| ogs rfl (isB_no hg260) rfl <| ogs rfl (isB_no hg260) rfl <| ogs rfl (isB_no hg260) rfl <| ov rfl (fun w' h' => p_t rfl hg260 rfl) ?_
 obtain rfl := oi hx
 exact mid_onil ⟨rfl, rfl, rfl, rfl, rfl, trivial⟩
 refine ogv rfl hg260 rfl (fun w' h' => r_fld u156 rfl rfl sz26 rfl) <| ogv rfl hg260 rfl (fun w' h' => r_ldB u26 rfl rfl (hM.call h') m0 rfl) <| ogv rfl hg260 rfl (fun w' h' => r_move rfl) <| ogv rfl hg260 rfl (fun w' h' => r_move rfl) <| xgs hx fun hg283 hx => ?_
 have hi282 : k202 < b.length := by omega
 refine ogv rfl hg260 rfl (fun w' h' => r_ixC u57 sz156 rfl rfl ((hM.call h').seeR m1) hg283) <| ogv rfl hg260 rfl (fun w' h' => r_fldC (i := k202) u156 rfl rfl sz26 rfl ((hM.call h').seeR m1) hi282) ?_
 obtain ⟨s286, hM, hc287⟩ := hM.leaf (i := k202) (j := 2) m1 (fun _ => rfl) hi282 rfl
 refine ogv rfl hg260 rfl (fun w' h' => r_ld u26 rfl rfl (hc287 w' h')) <| bs hx fun _ h289 hx => ogc rfl hg260 rfl rfl (fun w' h' => (hM.call h').callV fun X S oL hS hR hO => ct_spec_SignsSame _ X S ((el a k202).signs) s215 ((el b k202).signs) s286 hS (hR _ m1) (hR _ m0) oL h289) <| ogv rfl hg260 rfl (fun w' h' => r_not rfl) <| ov rfl (fun w' h' => p_f rfl hg260 rfl) ?_
 cases hx
 exact mid_onil ⟨rfl, rfl, rfl, rfl, rfl, trivial⟩
 replace hx := hx276
 refine o_nilM hM fun _ hM => sq_n ?_
 refine wcx hx rfl (fun hx => ?_) (fun hx => ?_)
 refine wc_sr <| was rfl rfl <| wl_sq <| wc_ret <| bk_ret <| sq_ret <| lp1_ret ?_
 cases hx
 obtain rfl := oi hx210
 replace hx := hx200
 refine bk_ret <| sq_ret ?_
 obtain rfl := oi hx
 exact fin_u [(bv false)] hM ⟨rfl, trivial⟩ rfl
 refine wc_skip <| bk_n <| sq_n <| wc_region <| wv rfl (r_add rfl rfl ⟨by omega, by omega⟩) <| wmv rfl rfl <| wl_nil ?_
 cases hx
 replace hM := hM.t0
 have hM := hM.fewer (rsC m1 (rsC m2 rsN))
 replace hM : St ⟨w, X, S⟩ [] [rV s_b.v (cSl 3 fDPart b), rV s_a.v (cSl 3 fDPart a)] _ := hM
 exact lp_end (m208, k202 + 1) (Nat.lt_succ_self _) ⟨rfl, rfl, rfl, rfl, trivial⟩ ⟨hM, hx210, hk203⟩
 replace hc207 := of_decide_eq_false hc207
 obtain rfl := eachN_end hx hk203 hc207
 refine wc_exit <| sq_exit <| lp1_exit ?_
 replace hx := hx200
 refine bk_here <| sq_n <| wc_sr <| was rfl rfl <| wl_sq <| wc_ret ?_
 obtain rfl := oi hx
 exact fin_u [(bv true)] hM ⟨rfl, trivial⟩ rfl

end Go.Proofs.YtjbonmmmcnpjiaaGreatDoor
