/- Walks of functions of this program (printed by a program of ours, by the rules of the layer). No condition. -/
import Derived.Test.YtdfjkipdmeomdaaDoorG1
import Derived.Test.YtdfjkipdmeomdaaDoorNs
namespace Go.Proofs.YtdfjkipdmeomdaaDoor
open Go.RowKit

noncomputable def x_impl_normal_1 (p : List Int) (px : List DPart) (pxx : Int) : Option (List Int × List DPart × Int) :=
  bif decide ((0 : Int) < (p.length : Int)) then (xg (px.length < 1099511627776) <| bif decide ((0 : Int) < pxx) then (xg ((px ++ [(⟨2, 0, p⟩ : DPart)]).length < 1099511627776) <| some ([], (px ++ [(⟨2, 0, p⟩ : DPart)]) ++ [(⟨3, pxx, []⟩ : DPart)], 0)) else (some ([], px ++ [(⟨2, 0, p⟩ : DPart)], 0))) else (bif decide ((0 : Int) < pxx) then (xg (px.length < 1099511627776) <| some ([], px ++ [(⟨3, pxx, []⟩ : DPart)], 0)) else (some ([], px, 0)))
theorem ct_impl_normal_1 (w : World) (X S : Bs) (b_p : Nat) (p : List Int) (s_p : Sv) (b_px : Nat) (px : List DPart) (s_px : Sv) (b_pxx : Nat) (pxx : Int) (hS : ∀ b, S b → b < w.heap.size ∧ ¬ X b)  (oL : Sep [oBox b_p #[s_p.v] 29, oC (cSl 1 fI p) s_p.v, oBox b_px #[s_px.v] 30, oC (cSl 3 fDPart px) s_px.v, oBox b_pxx #[(.int .i64 pxx)] 3] X w) {r : List Int × List DPart × Int} (hx : x_impl_normal_1 p px pxx = some r) :
  Ret Tryd.prog 51 [(.pointer (some ⟨b_p, 0, none⟩)), (.pointer (some ⟨b_px, 0, none⟩)), (.pointer (some ⟨b_pxx, 0, none⟩))] w (fun u w' => ∃ y : Sv × Sv, u = .tuple #[] ∧ Gives X S w [oBox b_p #[y.1.v] 29, oC (cSl 1 fI r.1) y.1.v, oBox b_px #[y.2.v] 30, oC (cSl 3 fDPart r.2.1) y.2.v, oBox b_pxx #[(.int .i64 r.2.2)] 3] [] w') := by
 unfold x_impl_normal_1 at hx
 refine enter Tryd.func51 rfl Tryd.ntmps51 (by kernel_rfl) rfl ?_
 have hM := St.enter oL hS
 refine wc_seq ?_
 refine wc_sr ?_
 refine wv rfl (r_ldB Tryd.underlying29 rfl rfl hM (.head _) rfl) ?_
 refine wv rfl (r_lenC Tryd.underlying29 rfl (hM.seeO (.tail _ (.head _)))) ?_
 refine wv rfl (r_gtr rfl rfl) ?_
 refine wl_sq ?_
 refine wc_cond rfl (fun hc59 => ?_) (fun hc59 => ?_)
 ·
  replace hx := xif_t hc59 hx
  refine wc_region ?_
  refine wv rfl (r_ldB Tryd.underlying30 rfl rfl hM (.tail _ (.tail _ (.head _))) rfl) ?_
  refine wv rfl (r_ldB Tryd.underlying29 rfl rfl hM (.head _) rfl) ?_
  refine wv rfl (r_build (cells := #[(.int .i64 2), (.int .i64 0), s_p.v]) rfl (by kernel_rfl)) ?_
  replace hM := hM.p1.p3
  obtain ⟨hg66, hx⟩ := xg_some hx
  refine w_push (f := fDPart) (⟨2, 0, p⟩ : DPart) rfl rfl Tryd.underlying30 sz58 rfl rfl rfl rfl (fun _ => rfl) hM (fun _ => zP (pV _ rfl) (zP (pV _ rfl) (zO zN))) rfl hg66 rfl ?_; intro u64 s65 w63 hM
  replace hM := hM.p2
  refine w_exu (x_stB #[s65.v] sz30 rfl rfl rfl rfl rfl rfl hM ?_); intro w67 hM
  refine wl_sq ?_
  refine wc_seq ?_
  refine wc_sr ?_
  refine wv rfl (r_ldB Tryd.underlying3 rfl rfl hM (.tail _ (.tail _ (.tail _ (.head _)))) rfl) ?_
  refine wv rfl (r_gtr rfl rfl) ?_
  refine wl_sq ?_
  refine wc_cond rfl (fun hc71 => ?_) (fun hc71 => ?_)
  ·
   replace hx := xif_t hc71 hx
   refine wc_region ?_
   refine wv rfl (r_ldB Tryd.underlying30 rfl rfl hM (.head _) rfl) ?_
   refine wv rfl (r_ldB Tryd.underlying3 rfl rfl hM (.tail _ (.tail _ (.tail _ (.head _)))) rfl) ?_
   refine wv rfl (r_build (cells := #[(.int .i64 3), (.int .i64 pxx), (.slice none 0 0)]) rfl (by kernel_rfl)) ?_
   replace hM := hM.p1
   obtain ⟨hg78, hx⟩ := xg_some hx
   refine w_push (f := fDPart) (⟨3, pxx, []⟩ : DPart) rfl rfl Tryd.underlying30 sz58 rfl rfl rfl rfl (fun _ => rfl) hM (fun _ => zP (pV _ rfl) (zP (pV _ rfl) (zP (pN _ _) zN))) rfl hg78 rfl ?_; intro u76 s77 w75 hM
   replace hM := hM.p1
   refine w_exu (x_stB #[s77.v] sz30 rfl rfl rfl rfl rfl rfl hM ?_); intro w79 hM
   refine wl_sq ?_
   refine wc_region ?_
   replace hM := hM.p2
   refine w_exu (x_stB #[(.slice none 0 0)] sz29 rfl rfl rfl rfl rfl rfl hM ?_); intro w81 hM
   replace hM := hM.p3
   refine w_exu (x_stB #[(.int .i64 0)] sz3 rfl rfl rfl rfl rfl rfl hM ?_); intro w83 hM
   refine wl_nil ?_
   obtain rfl := Option.some.inj hx
   have hM := hM.nil0 (T := Int) 1 fI
   refine fin_end [] trivial ?_
   replace hM := hM.p1.p4.p4.p3.p4
   replace hM := hM.t5
   have hM := hM.fewer rsN
   exact ⟨(nS, s77), rfl, hM.gives⟩
  ·
   replace hx := xif_f hc71 hx
   refine wc_skip ?_
   refine sq_n ?_
   refine wc_region ?_
   replace hM := hM.p2
   refine w_exu (x_stB #[(.slice none 0 0)] sz29 rfl rfl rfl rfl rfl rfl hM ?_); intro w86 hM
   replace hM := hM.p3
   refine w_exu (x_stB #[(.int .i64 0)] sz3 rfl rfl rfl rfl rfl rfl hM ?_); intro w88 hM
   refine wl_nil ?_
   obtain rfl := Option.some.inj hx
   have hM := hM.nil0 (T := Int) 1 fI
   refine fin_end [] trivial ?_
   replace hM := hM.p1.p4.p4.p3.p4
   replace hM := hM.t5
   have hM := hM.fewer rsN
   exact ⟨(nS, s65), rfl, hM.gives⟩
 ·
  replace hx := xif_f hc59 hx
  refine wc_skip ?_
  refine sq_n ?_
  refine wc_seq ?_
  refine wc_sr ?_
  refine wv rfl (r_ldB Tryd.underlying3 rfl rfl hM (.tail _ (.tail _ (.tail _ (.tail _ (.head _))))) rfl) ?_
  refine wv rfl (r_gtr rfl rfl) ?_
  refine wl_sq ?_
  refine wc_cond rfl (fun hc93 => ?_) (fun hc93 => ?_)
  ·
   replace hx := xif_t hc93 hx
   refine wc_region ?_
   refine wv rfl (r_ldB Tryd.underlying30 rfl rfl hM (.tail _ (.tail _ (.head _))) rfl) ?_
   refine wv rfl (r_ldB Tryd.underlying3 rfl rfl hM (.tail _ (.tail _ (.tail _ (.tail _ (.head _))))) rfl) ?_
   refine wv rfl (r_build (cells := #[(.int .i64 3), (.int .i64 pxx), (.slice none 0 0)]) rfl (by kernel_rfl)) ?_
   replace hM := hM.p3
   obtain ⟨hg100, hx⟩ := xg_some hx
   refine w_push (f := fDPart) (⟨3, pxx, []⟩ : DPart) rfl rfl Tryd.underlying30 sz58 rfl rfl rfl rfl (fun _ => rfl) hM (fun _ => zP (pV _ rfl) (zP (pV _ rfl) (zP (pN _ _) zN))) rfl hg100 rfl ?_; intro u98 s99 w97 hM
   replace hM := hM.p3
   refine w_exu (x_stB #[s99.v] sz30 rfl rfl rfl rfl rfl rfl hM ?_); intro w101 hM
   refine wl_sq ?_
   refine wc_region ?_
   replace hM := hM.p2
   refine w_exu (x_stB #[(.slice none 0 0)] sz29 rfl rfl rfl rfl rfl rfl hM ?_); intro w103 hM
   replace hM := hM.p4
   refine w_exu (x_stB #[(.int .i64 0)] sz3 rfl rfl rfl rfl rfl rfl hM ?_); intro w105 hM
   refine wl_nil ?_
   obtain rfl := Option.some.inj hx
   have hM := hM.nil0 (T := Int) 1 fI
   refine fin_end [] trivial ?_
   replace hM := hM.p1.p4.p4.p3.p4
   replace hM := hM.t5
   have hM := hM.fewer rsN
   exact ⟨(nS, s99), rfl, hM.gives⟩
  ·
   replace hx := xif_f hc93 hx
   refine wc_skip ?_
   refine sq_n ?_
   refine wc_region ?_
   refine w_exu (x_stB #[(.slice none 0 0)] sz29 rfl rfl rfl rfl rfl rfl hM ?_); intro w108 hM
   replace hM := hM.p4
   refine w_exu (x_stB #[(.int .i64 0)] sz3 rfl rfl rfl rfl rfl rfl hM ?_); intro w110 hM
   refine wl_nil ?_
   obtain rfl := Option.some.inj hx
   have hM := hM.nil0 (T := Int) 1 fI
   refine fin_end [] trivial ?_
   replace hM := hM.p1.p5.p5.p3.p4
   replace hM := hM.t5
   have hM := hM.fewer rsN
   exact ⟨(nS, s_px), rfl, hM.gives⟩

noncomputable def x_impl_normal_b0 (_o : List DPart) (_k144 : Nat) (x386 : DPart) (l145 : List Int) (n146 : Int) (l147 : List DPart) : Option (Lr (List Int × Int × List DPart) (List DPart × List Int × Int)) :=
  bif decide ((x386.kind) = 2) then (xg (l145.length + (x386.signs).length ≤ 1099511627776) <| some (Lr.go (l145 ++ (x386.signs), n146, l147))) else (bif decide ((x386.kind) = 3) then (xg (inI (n146 + (x386.n))) <| some (Lr.go (l145, n146 + (x386.n), l147))) else (bif decide ((0 : Int) < (x386.n)) then (Option.bind (x_impl_normal_1 l145 l147 n146) fun r314 => Option.bind (bif decide ((0 : Int) < (r314.2.1.length : Int)) then (xg (inI ((r314.2.1.length : Int) - 1)) <| xg (0 ≤ ((r314.2.1.length : Int) - 1) ∧ ((r314.2.1.length : Int) - 1) < (r314.2.1.length : Int)) <| some (decide (((el r314.2.1 (((r314.2.1.length : Int) - 1).toNat)).kind) = 1))) else (some false)) fun c325 => bif c325 then (xg (inI ((r314.2.1.length : Int) - 1)) <| xg (0 ≤ ((r314.2.1.length : Int) - 1) ∧ ((r314.2.1.length : Int) - 1) < (r314.2.1.length : Int)) <| xg (inI (((el r314.2.1 (((r314.2.1.length : Int) - 1).toNat)).n) + (x386.n))) <| xg (0 ≤ ((r314.2.1.length : Int) - 1) ∧ ((r314.2.1.length : Int) - 1) < (r314.2.1.length : Int)) <| some (Lr.go (r314.1, r314.2.2, r314.2.1.set (((r314.2.1.length : Int) - 1).toNat) (⟨(el r314.2.1 (((r314.2.1.length : Int) - 1).toNat)).kind, ((el r314.2.1 (((r314.2.1.length : Int) - 1).toNat)).n) + (x386.n), (el r314.2.1 (((r314.2.1.length : Int) - 1).toNat)).signs⟩ : DPart)))) else (xg (r314.2.1.length < 1099511627776) <| some (Lr.go (r314.1, r314.2.2, r314.2.1 ++ [(⟨1, x386.n, []⟩ : DPart)])))) else (some (Lr.go (l145, n146, l147)))))
noncomputable def x_impl_normal_f0 (o : List DPart) (k144 : Nat) (s387 : List Int × Int × List DPart) : Option (Lr (List Int × Int × List DPart) (List DPart × List Int × Int)) := x_impl_normal_b0 o k144 (el o k144) s387.1 s387.2.1 s387.2.2
noncomputable def x_impl_normal (o : List DPart) : Option (List DPart) :=
  Option.bind (eachN (x_impl_normal_f0 o) (fun (s387 : List Int × Int × List DPart) => ((s387.2.2, s387.1, s387.2.1) : List DPart × List Int × Int)) o.length 0 ([], 0, [])) fun (y388 : List DPart × List Int × Int) => Option.bind (x_impl_normal_1 y388.2.1 y388.1 y388.2.2) fun r394 => some r394.2.1
theorem ct_impl_normal (w : World) (X S : Bs) (o : List DPart) (s_o : Sv) (hS : ∀ b, S b → b < w.heap.size ∧ ¬ X b) (a_o_0 : (cSl 3 fDPart o).rd S w s_o.v) (oL : Sep [] X w) {r : List DPart} (hx : x_impl_normal o = some r) :
  Ret Tryd.prog 47 [s_o.v] w (fun u w' => ∃ y : Sv, u = y.v ∧ Gives X S w [oC (cSl 3 fDPart r) y.v] [] w') := by
 unfold x_impl_normal at hx
 refine enter Tryd.func47 rfl Tryd.ntmps47 (by kernel_rfl) rfl ?_
 have hM := St.enter oL hS
 have hM := hM.addE (r := rV s_o.v (cSl 3 fDPart o)) a_o_0
 refine wc_sr ?_
 refine was rfl rfl ?_
 refine wl_sq ?_
 refine wc_sr ?_
 refine w_ex rfl (x_alloc sz30 hM ?_); intro b403 w402 hR404 hM
 dsimp only [Value.cells] at hM
 refine wl_sq ?_
 refine wc_sr ?_
 refine w_ex rfl (x_alloc sz29 hM ?_); intro b407 w406 hR408 hM
 dsimp only [Value.cells] at hM
 refine wl_sq ?_
 refine wc_sr ?_
 refine w_ex rfl (x_alloc sz3 hM ?_); intro b411 w410 hR412 hM
 dsimp only [Value.cells] at hM
 refine w_exu (x_stB #[(.int .i64 0)] sz3 rfl rfl rfl rfl rfl rfl hM ?_); intro w414 hM
 refine wl_sq ?_
 refine wc_sr ?_
 refine wv rfl (r_mkfn (caps := [.tmp 4, .tmp 3, .tmp 5]) (vs := [(.pointer (some ⟨b407, 0, none⟩)), (.pointer (some ⟨b403, 0, none⟩)), (.pointer (some ⟨b411, 0, none⟩))]) rfl) ?_
 refine was rfl rfl ?_
 refine wl_sq ?_
 refine wc_seq ?_
 refine wc_sr ?_
 refine wmv rfl rfl ?_
 refine wv rfl (r_lenC Tryd.underlying30 rfl (hM.seeR (.head _))) ?_
 refine wmv rfl rfl ?_
 refine wl_sq ?_
 refine wc_block ?_
 obtain ⟨y421, hx, hx422⟩ := bind_some' hx
 have hM := hM.nil0 (T := Int) 1 fI
 have hM := hM.nil0 (T := DPart) 3 fDPart
 replace hM := hM.p1.p2.p3.p4
 have hl435 := Cs.le (hM.seeR (.head _))
 refine wc_loop (un fun (m432 : Nat) => un fun (k433 : Nat) => un fun (l425 : List Int) => un fun (n426 : Int) => un fun (l427 : List DPart) => un fun (s429 : Sv) => fun (s431 : Sv) => [(3, (.pointer (some ⟨b403, 0, none⟩))), (4, (.pointer (some ⟨b407, 0, none⟩))), (5, (.pointer (some ⟨b411, 0, none⟩))), (6, (.func (.func 51) #[] #[(.pointer (some ⟨b407, 0, none⟩)), (.pointer (some ⟨b403, 0, none⟩)), (.pointer (some ⟨b411, 0, none⟩))])), (11, s_o.v), (12, (.int .i64 (o.length : Int))), (13, (.int .i64 (k433 : Int)))]) (un fun (m432 : Nat) => un fun (k433 : Nat) => un fun (l425 : List Int) => un fun (n426 : Int) => un fun (l427 : List DPart) => un fun (s429 : Sv) => fun (s431 : Sv) w' => St ⟨w, X, S⟩ [oBox b403 #[s431.v] 30, oBox b407 #[s429.v] 29, oBox b411 #[(.int .i64 n426)] 3, oC (cSl 1 fI l425) s429.v, oC (cSl 3 fDPart l427) s431.v] [rV s_o.v (cSl 3 fDPart o)] w' ∧ eachN _ _ m432 k433 (l425, n426, l427) = some y421 ∧ k433 + m432 = o.length) (fun p => p.1) (o.length, 0, [], 0, [], nS, nS) ⟨rfl, rfl, rfl, rfl, rfl, rfl, rfl, trivial⟩ ⟨hM, hx, Nat.zero_add _⟩ ?_
 rintro ⟨m432, k433, l425, n426, l427, s429, s431⟩ w436 ⟨hM, hx, hk434⟩
 refine wc_sr ?_
 refine wv rfl (r_lss rfl rfl) ?_
 refine wl_sq ?_
 refine wc_seq ?_
 refine wc_cond rfl (fun hc438 => ?_) (fun hc438 => ?_)
 ·
  replace hc438 := of_decide_eq_true hc438
  obtain ⟨m439, z440, rfl, hk434, hx, hx441⟩ := eachN_step hx hk434 hc438
  unfold x_impl_normal_f0 x_impl_normal_b0 at hx
  try dsimp only at hx
  refine wc_skip ?_
  refine sq_n ?_
  refine wc_seq ?_
  refine wc_block ?_
  refine wc_sr ?_
  have hi443 : k433 < o.length := by omega
  refine wv rfl (r_ixC Tryd.underlying30 sz58 rfl rfl (hM.seeR (.head _)) ⟨by omega, hc438⟩) ?_
  obtain ⟨s445, hM, hc446⟩ := hM.leaf (i := k433) (j := 2) (.head _) (fun _ => rfl) hi443 rfl
  refine wv rfl (r_ldC (o := k433 * 3) Tryd.underlying58 sz58 rfl (us := [(.int .i64 ((el o k433).kind)), (.int .i64 ((el o k433).n)), s445.v]) rfl (hM.seeR (.tail _ (.head _))) hi443 ⟨(Cs.get (i := k433) (j := 0) (hM.seeR (.tail _ (.head _))) (fun _ => rfl) hi443 rfl), (Cs.get (i := k433) (j := 1) (hM.seeR (.tail _ (.head _))) (fun _ => rfl) hi443 rfl), (hc446 _ (Rel.refl _)), trivial⟩) ?_
  refine w_ex rfl (x_alloc sz58 hM ?_); intro b448 w447 hR449 hM
  dsimp only [Value.cells] at hM
  refine w_exu (x_stB #[(.int .i64 ((el o k433).kind)), (.int .i64 ((el o k433).n)), s445.v] sz58 rfl rfl rfl rfl rfl rfl hM ?_); intro w451 hM
  refine wl_sq ?_
  refine wc_block ?_
  refine wc_sr ?_
  refine wv rfl (r_fld Tryd.underlying58 rfl rfl sz3 rfl) ?_
  refine wv rfl (r_ldB Tryd.underlying3 rfl rfl hM (.head _) rfl) ?_
  refine wv rfl (r_eql rfl rfl) ?_
  refine was rfl rfl ?_
  refine wl_sq ?_
  refine wc_cond rfl (fun hc457 => ?_) (fun hc457 => ?_)
  ·
   replace hx := xif_t hc457 hx
   refine wc_region ?_
   refine wv rfl (r_ldB Tryd.underlying29 rfl rfl hM (.tail _ (.tail _ (.head _))) rfl) ?_
   refine wv rfl (r_fld Tryd.underlying58 rfl rfl sz29 rfl) ?_
   refine wv rfl (r_ldB Tryd.underlying29 rfl rfl hM (.head _) rfl) ?_
   replace hM := hM.p4
   obtain ⟨hg463, hx⟩ := xg_some hx
   refine w_ex rfl (x_append Tryd.underlying29 sz3 rfl rfl (hM.seeR (.head _)) flI hM hg463 rfl ?_); intro s462 w461 hM
   replace hM := hM.p3
   refine w_exu (x_stB #[s462.v] sz29 rfl rfl rfl rfl rfl rfl hM ?_); intro w465 hM
   refine wl_nil ?_
   refine bk_n ?_
   refine bk_n ?_
   refine sq_n ?_
   refine wc_region ?_
   refine wv rfl (r_add rfl rfl ⟨by omega, by omega⟩) ?_
   refine wmv rfl rfl ?_
   refine wl_nil ?_
   obtain rfl := Option.some.inj hx
   replace hM := hM.p5.p2.p5.p3.p5
   replace hM := hM.t5
   have hM := hM.fewer (rsC (.tail _ (.head _)) rsN)
   replace hM : St ⟨w, X, S⟩ [oBox b403 #[s431.v] 30, oBox b407 #[s462.v] 29, oBox b411 #[(.int .i64 n426)] 3, oC (cSl 1 fI (l425 ++ ((el o k433).signs))) s462.v, oC (cSl 3 fDPart l427) s431.v] [rV s_o.v (cSl 3 fDPart o)] _ := hM
   exact lp_end (m439, k433 + 1, l425 ++ ((el o k433).signs), n426, l427, s462, s431) (Nat.lt_succ_self _) ⟨rfl, rfl, rfl, rfl, rfl, rfl, rfl, trivial⟩ ⟨hM, hx441, hk434⟩
  ·
   replace hx := xif_f hc457 hx
   refine wc_sr ?_
   refine wv rfl (r_fld Tryd.underlying58 rfl rfl sz3 rfl) ?_
   refine wv rfl (r_ldB Tryd.underlying3 rfl rfl hM (.head _) rfl) ?_
   refine wv rfl (r_eql rfl rfl) ?_
   refine was rfl rfl ?_
   refine wl_sq ?_
   refine wc_cond rfl (fun hc473 => ?_) (fun hc473 => ?_)
   ·
    replace hx := xif_t hc473 hx
    refine wc_region ?_
    refine wv rfl (r_ldB Tryd.underlying3 rfl rfl hM (.tail _ (.tail _ (.tail _ (.head _)))) rfl) ?_
    refine wv rfl (r_fld Tryd.underlying58 rfl rfl sz3 rfl) ?_
    refine wv rfl (r_ldB Tryd.underlying3 rfl rfl hM (.head _) rfl) ?_
    obtain ⟨hg478, hx⟩ := xg_some hx
    refine wv rfl (r_add rfl rfl hg478) ?_
    replace hM := hM.p3
    refine w_exu (x_stB #[(.int .i64 (n426 + ((el o k433).n)))] sz3 rfl rfl rfl rfl rfl rfl hM ?_); intro w479 hM
    refine wl_nil ?_
    refine bk_n ?_
    refine bk_n ?_
    refine sq_n ?_
    refine wc_region ?_
    refine wv rfl (r_add rfl rfl ⟨by omega, by omega⟩) ?_
    refine wmv rfl rfl ?_
    refine wl_nil ?_
    obtain rfl := Option.some.inj hx
    replace hM := hM.p5.p5.p2.p5.p5
    replace hM := hM.t5
    have hM := hM.fewer (rsC (.tail _ (.head _)) rsN)
    replace hM : St ⟨w, X, S⟩ [oBox b403 #[s431.v] 30, oBox b407 #[s429.v] 29, oBox b411 #[(.int .i64 (n426 + ((el o k433).n)))] 3, oC (cSl 1 fI l425) s429.v, oC (cSl 3 fDPart l427) s431.v] [rV s_o.v (cSl 3 fDPart o)] _ := hM
    exact lp_end (m439, k433 + 1, l425, n426 + ((el o k433).n), l427, s429, s431) (Nat.lt_succ_self _) ⟨rfl, rfl, rfl, rfl, rfl, rfl, rfl, trivial⟩ ⟨hM, hx441, hk434⟩
   ·
    replace hx := xif_f hc473 hx
    refine wc_sr ?_
    refine wv rfl (r_fld Tryd.underlying58 rfl rfl sz3 rfl) ?_
    refine wv rfl (r_ldB Tryd.underlying3 rfl rfl hM (.head _) rfl) ?_
    refine wv rfl (r_gtr rfl rfl) ?_
    refine was rfl rfl ?_
    refine wl_sq ?_
    refine wc_cond rfl (fun hc487 => ?_) (fun hc487 => ?_)
    ·
     replace hx := xif_t hc487 hx
     refine wc_sr ?_
     refine wmv rfl rfl ?_
     replace hM := hM.p3.p5.p3.p5.p5
     obtain ⟨r489, h490, hx⟩ := bind_some' hx
     refine w_callv (cap := [(.pointer (some ⟨b407, 0, none⟩)), (.pointer (some ⟨b403, 0, none⟩)), (.pointer (some ⟨b411, 0, none⟩))]) rfl rfl rfl (hM.callO (l := [oBox b407 #[s429.v] 29, oC (cSl 1 fI l425) s429.v, oBox b403 #[s431.v] 30, oC (cSl 3 fDPart l427) s431.v, oBox b411 #[(.int .i64 n426)] 3]) fun X S oL hS hR hO => ct_impl_normal_1 _ X S b407 l425 s429 b403 l427 s431 b411 n426 hS  oL h490) ?_
     rintro _ w491 ⟨⟨s492, s493⟩, rfl, hM⟩
     dsimp only [List.cons_append, List.nil_append] at hM
     refine wl_sq ?_
     refine wc_sr ?_
     refine wv rfl (r_ldB Tryd.underlying30 rfl rfl hM (.tail _ (.tail _ (.head _))) rfl) ?_
     refine wv rfl (r_lenC Tryd.underlying30 rfl (hM.seeO (.tail _ (.tail _ (.tail _ (.head _)))))) ?_
     refine was rfl rfl ?_
     refine wl_sq ?_
     refine wc_sr ?_
     refine wmv rfl rfl ?_
     refine wv rfl (r_gtr rfl rfl) ?_
     refine wmv rfl rfl ?_
     obtain ⟨c500, hx, hx512⟩ := bind_some' hx
     refine wl_mid 8 (fun _ : Unit => [(51, (.bool c500)), (3, (.pointer (some ⟨b403, 0, none⟩))), (4, (.pointer (some ⟨b407, 0, none⟩))), (5, (.pointer (some ⟨b411, 0, none⟩))), (6, (.func (.func 51) #[] #[(.pointer (some ⟨b407, 0, none⟩)), (.pointer (some ⟨b403, 0, none⟩)), (.pointer (some ⟨b411, 0, none⟩))])), (8, (.pointer (some ⟨b448, 0, none⟩))), (9, (.int .i64 (r489.2.1.length : Int))), (11, s_o.v), (12, (.int .i64 (o.length : Int))), (13, (.int .i64 (k433 : Int)))]) (fun _ w' => St ⟨w, X, S⟩ [oBox b407 #[s492.v] 29, oC (cSl 1 fI r489.1) s492.v, oBox b403 #[s493.v] 30, oC (cSl 3 fDPart r489.2.1) s493.v, oBox b411 #[(.int .i64 r489.2.2)] 3, oBox b448 #[(.int .i64 ((el o k433).kind)), (.int .i64 ((el o k433).n)), s445.v] 58] [rV s445.v (cSl 1 fI ((el o k433).signs)), rV s_o.v (cSl 3 fDPart o)] w') ?_ ?_
     ·
      rcases Bool.eq_false_or_eq_true (decide ((0 : Int) < (r489.2.1.length : Int))) with hg501 | hg501
      ·
       replace hx := xif_t hg501 hx
       refine gv rfl hg501 rfl (r_ldB Tryd.underlying30 rfl rfl hM (.tail _ (.tail _ (.head _))) rfl) ?_
       refine gv rfl hg501 rfl (r_move rfl) ?_
       obtain ⟨hg516, hx⟩ := xg_some hx
       refine gv rfl hg501 rfl (r_sub rfl rfl hg516) ?_
       obtain ⟨hg519, hx⟩ := xg_some hx
       have hi518 : (((r489.2.1.length : Int) - 1).toNat) < r489.2.1.length := by omega
       refine gv rfl hg501 rfl (r_ixC Tryd.underlying30 sz58 rfl rfl (hM.seeO (.tail _ (.tail _ (.tail _ (.head _))))) hg519) ?_
       refine gv rfl hg501 rfl (r_fldC (i := (((r489.2.1.length : Int) - 1).toNat)) Tryd.underlying58 rfl rfl sz3 rfl (hM.seeO (.tail _ (.tail _ (.tail _ (.head _))))) hi518) ?_
       refine gv rfl hg501 rfl (r_ld Tryd.underlying3 rfl rfl (Cs.get (i := (((r489.2.1.length : Int) - 1).toNat)) (j := 0) (hM.seeO (.tail _ (.tail _ (.tail _ (.head _))))) (fun _ => rfl) hi518 rfl)) ?_
       refine gv rfl hg501 rfl (r_eql rfl rfl) ?_
       refine wv rfl (p_t rfl hg501 rfl) ?_
       obtain rfl := Option.some.inj hx
       exact mid_nil () ⟨rfl, rfl, rfl, rfl, rfl, rfl, rfl, rfl, rfl, rfl, trivial⟩ hM
      ·
       replace hx := xif_f hg501 hx
       refine gs rfl (isB_no hg501) rfl ?_
       refine gs rfl (isB_no hg501) rfl ?_
       refine gs rfl (isB_no hg501) rfl ?_
       refine gs rfl (isB_no hg501) rfl ?_
       refine gs rfl (isB_no hg501) rfl ?_
       refine gs rfl (isB_no hg501) rfl ?_
       refine gs rfl (isB_no hg501) rfl ?_
       refine wv rfl (p_f rfl hg501 rfl) ?_
       obtain rfl := Option.some.inj hx
       exact mid_nil () ⟨rfl, rfl, rfl, rfl, rfl, rfl, rfl, rfl, rfl, rfl, trivial⟩ hM
     rintro _ w523 hM
     replace hx := hx512
     refine wl_sq ?_
     refine wc_cond rfl (fun hc524 => ?_) (fun hc524 => ?_)
     ·
      replace hx := xif_t hc524 hx
      refine wc_draw [(0, 0), (1, 0), (2, 0), (3, 0), (4, 0), (5, 0), (6, 0), (7, 0), (8, 0), (9, 0), (10, 0), (11, 2)] Tryd_mixed (by kernel_rfl) rfl (by kernel_rfl) rfl ?_
      refine ov rfl (fun w' h' => r_ldB Tryd.underlying30 rfl rfl (hM.call h') (.tail _ (.tail _ (.head _))) rfl) ?_
      refine omv rfl rfl ?_
      obtain ⟨hg528, hx⟩ := xg_some hx
      refine ov rfl (fun w' h' => r_sub rfl rfl hg528) ?_
      obtain ⟨hg531, hx⟩ := xg_some hx
      have hi530 : (((r489.2.1.length : Int) - 1).toNat) < r489.2.1.length := by omega
      refine ov rfl (fun w' h' => r_ixC Tryd.underlying30 sz58 rfl rfl ((hM.call h').seeO (.tail _ (.tail _ (.tail _ (.head _))))) hg531) ?_
      refine ov rfl (fun w' h' => r_fldC (i := (((r489.2.1.length : Int) - 1).toNat)) Tryd.underlying58 rfl rfl sz3 rfl ((hM.call h').seeO (.tail _ (.tail _ (.tail _ (.head _))))) hi530) ?_
      refine ov rfl (fun w' h' => r_ld Tryd.underlying3 rfl rfl (Cs.get (i := (((r489.2.1.length : Int) - 1).toNat)) (j := 1) ((hM.call h').seeO (.tail _ (.tail _ (.tail _ (.head _))))) (fun _ => rfl) hi530 rfl)) ?_
      refine ov rfl (fun w' h' => r_fld Tryd.underlying58 rfl rfl sz3 rfl) ?_
      refine ov rfl (fun w' h' => r_ldB Tryd.underlying3 rfl rfl (hM.call h') (.tail _ (.tail _ (.tail _ (.tail _ (.tail _ (.head _)))))) rfl) ?_
      obtain ⟨hg537, hx⟩ := xg_some hx
      refine ov rfl (fun w' h' => r_add rfl rfl hg537) ?_
      obtain ⟨hg540, hx⟩ := xg_some hx
      have hi539 : (((r489.2.1.length : Int) - 1).toNat) < r489.2.1.length := by omega
      refine ov rfl (fun w' h' => r_ixC Tryd.underlying30 sz58 rfl rfl ((hM.call h').seeO (.tail _ (.tail _ (.tail _ (.head _))))) hg540) ?_
      refine ov rfl (fun w' h' => r_fldC (i := (((r489.2.1.length : Int) - 1).toNat)) Tryd.underlying58 rfl rfl sz3 rfl ((hM.call h').seeO (.tail _ (.tail _ (.tail _ (.head _))))) hi539) ?_
      replace hM := hM.p3
      refine o_exu fun w544 h545 => ?_
      have hM := hM.call h545
      refine x_stE (f := fDPart) (k := 3) (L := r489.2.1) (i := (((r489.2.1.length : Int) - 1).toNat)) (j := 1) (⟨(el r489.2.1 (((r489.2.1.length : Int) - 1).toNat)).kind, ((el r489.2.1 (((r489.2.1.length : Int) - 1).toNat)).n) + ((el o k433).n), (el r489.2.1 (((r489.2.1.length : Int) - 1).toNat)).signs⟩ : DPart) [cI (((el r489.2.1 (((r489.2.1.length : Int) - 1).toNat)).n) + ((el o k433).n))] sz3 (fun _ => rfl) rfl rfl hi539 rfl rfl rfl rfl rfl (fun _ => zP (pV _ rfl) zN) hM ?_; intro w542 hM
      refine o_nilM hM fun w546 hM => ?_
      refine bk_n ?_
      refine bk_n ?_
      refine sq_n ?_
      refine wc_region ?_
      refine wv rfl (r_add rfl rfl ⟨by omega, by omega⟩) ?_
      refine wmv rfl rfl ?_
      refine wl_nil ?_
      obtain rfl := Option.some.inj hx
      replace hM := hM.p2.p4.p3.p4
      replace hM := hM.t5
      have hM := hM.fewer (rsC (.tail _ (.head _)) rsN)
      replace hM : St ⟨w, X, S⟩ [oBox b403 #[s493.v] 30, oBox b407 #[s492.v] 29, oBox b411 #[(.int .i64 r489.2.2)] 3, oC (cSl 1 fI r489.1) s492.v, oC (cSl 3 fDPart (r489.2.1.set (((r489.2.1.length : Int) - 1).toNat) (⟨(el r489.2.1 (((r489.2.1.length : Int) - 1).toNat)).kind, ((el r489.2.1 (((r489.2.1.length : Int) - 1).toNat)).n) + ((el o k433).n), (el r489.2.1 (((r489.2.1.length : Int) - 1).toNat)).signs⟩ : DPart))) s493.v] [rV s_o.v (cSl 3 fDPart o)] _ := hM
      exact lp_end (m439, k433 + 1, r489.1, r489.2.2, r489.2.1.set (((r489.2.1.length : Int) - 1).toNat) (⟨(el r489.2.1 (((r489.2.1.length : Int) - 1).toNat)).kind, ((el r489.2.1 (((r489.2.1.length : Int) - 1).toNat)).n) + ((el o k433).n), (el r489.2.1 (((r489.2.1.length : Int) - 1).toNat)).signs⟩ : DPart), s492, s493) (Nat.lt_succ_self _) ⟨rfl, rfl, rfl, rfl, rfl, rfl, rfl, trivial⟩ ⟨hM, hx441, hk434⟩
     ·
      replace hx := xif_f hc524 hx
      refine wc_region ?_
      refine wv rfl (r_ldB Tryd.underlying30 rfl rfl hM (.tail _ (.tail _ (.head _))) rfl) ?_
      refine wv rfl (r_fld Tryd.underlying58 rfl rfl sz3 rfl) ?_
      refine wv rfl (r_ldB Tryd.underlying3 rfl rfl hM (.tail _ (.tail _ (.tail _ (.tail _ (.tail _ (.head _)))))) rfl) ?_
      refine wv rfl (r_build (cells := #[(.int .i64 1), (.int .i64 ((el o k433).n)), (.slice none 0 0)]) rfl (by kernel_rfl)) ?_
      replace hM := hM.p3
      obtain ⟨hg557, hx⟩ := xg_some hx
      refine w_push (f := fDPart) (⟨1, (el o k433).n, []⟩ : DPart) rfl rfl Tryd.underlying30 sz58 rfl rfl rfl rfl (fun _ => rfl) hM (fun _ => zP (pV _ rfl) (zP (pV _ rfl) (zP (pN _ _) zN))) rfl hg557 rfl ?_; intro u555 s556 w554 hM
      replace hM := hM.p3
      refine w_exu (x_stB #[s556.v] sz30 rfl rfl rfl rfl rfl rfl hM ?_); intro w558 hM
      refine wl_nil ?_
      refine bk_n ?_
      refine bk_n ?_
      refine sq_n ?_
      refine wc_region ?_
      refine wv rfl (r_add rfl rfl ⟨by omega, by omega⟩) ?_
      refine wmv rfl rfl ?_
      refine wl_nil ?_
      obtain rfl := Option.some.inj hx
      replace hM := hM.p1.p3.p4.p4.p4
      replace hM := hM.t5
      have hM := hM.fewer (rsC (.tail _ (.head _)) rsN)
      replace hM : St ⟨w, X, S⟩ [oBox b403 #[s556.v] 30, oBox b407 #[s492.v] 29, oBox b411 #[(.int .i64 r489.2.2)] 3, oC (cSl 1 fI r489.1) s492.v, oC (cSl 3 fDPart (r489.2.1 ++ [(⟨1, (el o k433).n, []⟩ : DPart)])) s556.v] [rV s_o.v (cSl 3 fDPart o)] _ := hM
      exact lp_end (m439, k433 + 1, r489.1, r489.2.2, r489.2.1 ++ [(⟨1, (el o k433).n, []⟩ : DPart)], s492, s556) (Nat.lt_succ_self _) ⟨rfl, rfl, rfl, rfl, rfl, rfl, rfl, trivial⟩ ⟨hM, hx441, hk434⟩
    ·
     replace hx := xif_f hc487 hx
     refine wc_skip ?_
     refine bk_n ?_
     refine bk_n ?_
     refine sq_n ?_
     refine wc_region ?_
     refine wv rfl (r_add rfl rfl ⟨by omega, by omega⟩) ?_
     refine wmv rfl rfl ?_
     refine wl_nil ?_
     obtain rfl := Option.some.inj hx
     replace hM := hM.p5.p5.p5.p5.p5
     replace hM := hM.t5
     have hM := hM.fewer (rsC (.tail _ (.head _)) rsN)
     replace hM : St ⟨w, X, S⟩ [oBox b403 #[s431.v] 30, oBox b407 #[s429.v] 29, oBox b411 #[(.int .i64 n426)] 3, oC (cSl 1 fI l425) s429.v, oC (cSl 3 fDPart l427) s431.v] [rV s_o.v (cSl 3 fDPart o)] _ := hM
     exact lp_end (m439, k433 + 1, l425, n426, l427, s429, s431) (Nat.lt_succ_self _) ⟨rfl, rfl, rfl, rfl, rfl, rfl, rfl, trivial⟩ ⟨hM, hx441, hk434⟩
 ·
  replace hc438 := of_decide_eq_false hc438
  obtain rfl := eachN_end hx hk434 hc438
  refine wc_exit ?_
  refine sq_exit ?_
  refine lp1_exit ?_
  replace hx := hx422
  try dsimp only [Sum.elim_inl, Sum.elim_inr] at hx
  refine bk_here ?_
  refine sq_n ?_
  refine wc_sr ?_
  refine wmv rfl rfl ?_
  replace hM := hM.p2.p4.p2.p4.p4
  obtain ⟨r565, h566, hx⟩ := bind_some' hx
  refine w_callv (cap := [(.pointer (some ⟨b407, 0, none⟩)), (.pointer (some ⟨b403, 0, none⟩)), (.pointer (some ⟨b411, 0, none⟩))]) rfl rfl rfl (hM.callO (l := [oBox b407 #[s429.v] 29, oC (cSl 1 fI l425) s429.v, oBox b403 #[s431.v] 30, oC (cSl 3 fDPart l427) s431.v, oBox b411 #[(.int .i64 n426)] 3]) fun X S oL hS hR hO => ct_impl_normal_1 _ X S b407 l425 s429 b403 l427 s431 b411 n426 hS  oL h566) ?_
  rintro _ w567 ⟨⟨s568, s569⟩, rfl, hM⟩
  dsimp only [List.cons_append, List.nil_append] at hM
  refine wl_sq ?_
  refine wc_sr ?_
  refine wv rfl (r_ldB Tryd.underlying30 rfl rfl hM (.tail _ (.tail _ (.head _))) rfl) ?_
  refine was rfl rfl ?_
  refine wl_sq ?_
  refine wc_ret ?_
  obtain rfl := Option.some.inj hx
  refine fin_ret [s569.v] ⟨rfl, trivial⟩ ?_
  replace hM := hM.p3
  replace hM := hM.t1
  have hM := hM.fewer rsN
  exact ⟨s569, rfl, hM.gives⟩

noncomputable def x_impl_OpNorm (o : List DPart) : Option (List DPart) :=
  Option.bind (x_impl_OpOk o) fun r3 => bif !r3 then (some []) else (Option.bind (x_impl_normal o) fun r10 => some r10)
theorem ct_impl_OpNorm (w : World) (X S : Bs) (o : List DPart) (s_o : Sv) (hS : ∀ b, S b → b < w.heap.size ∧ ¬ X b) (a_o_0 : (cSl 3 fDPart o).rd S w s_o.v) (oL : Sep [] X w) {r : List DPart} (hx : x_impl_OpNorm o = some r) :
  Ret Tryd.prog 37 [s_o.v] w (fun u w' => ∃ y : Sv, u = y.v ∧ Gives X S w [oC (cSl 3 fDPart r) y.v] [] w') := by
 unfold x_impl_OpNorm at hx
 refine enter Tryd.func37 rfl Tryd.ntmps37 (by kernel_rfl) rfl ?_
 have hM := St.enter oL hS
 have hM := hM.addE (r := rV s_o.v (cSl 3 fDPart o)) a_o_0
 refine wc_sr ?_
 refine was rfl rfl ?_
 refine wl_sq ?_
 refine wc_seq ?_
 refine wc_sr ?_
 refine wmv rfl rfl ?_
 obtain ⟨r18, h19, hx⟩ := bind_some' hx
 refine w_call rfl rfl (hM.callV fun X S oL hS hR hO => ct_impl_OpOk _ X S o s_o hS (hR _ (.head _)) oL h19) ?_
 rintro _ w20 ⟨rfl, hR21⟩
 have hM := hM.call hR21
 refine wv rfl (r_not rfl) ?_
 refine wl_sq ?_
 refine wc_cond rfl (fun hc23 => ?_) (fun hc23 => ?_)
 ·
  replace hx := xif_t hc23 hx
  refine wc_sr ?_
  refine was rfl rfl ?_
  refine wl_sq ?_
  refine wc_ret ?_
  refine sq_ret ?_
  obtain rfl := Option.some.inj hx
  have hM := hM.nil0 (T := DPart) 3 fDPart
  refine fin_ret [nS.v] ⟨rfl, trivial⟩ ?_
  replace hM := hM.t1
  have hM := hM.fewer rsN
  exact ⟨nS, rfl, hM.gives⟩
 ·
  replace hx := xif_f hc23 hx
  refine wc_skip ?_
  refine sq_n ?_
  refine wc_sr ?_
  refine wmv rfl rfl ?_
  obtain ⟨r27, h28, hx⟩ := bind_some' hx
  refine w_call rfl rfl (hM.callO (l := []) fun X S oL hS hR hO => ct_impl_normal _ X S o s_o hS (hR _ (.head _)) oL h28) ?_
  rintro _ w29 ⟨s30, rfl, hM⟩
  dsimp only [List.cons_append, List.nil_append] at hM
  refine was rfl rfl ?_
  refine wl_sq ?_
  refine wc_ret ?_
  obtain rfl := Option.some.inj hx
  refine fin_ret [s30.v] ⟨rfl, trivial⟩ ?_
  replace hM := hM.t1
  have hM := hM.fewer rsN
  exact ⟨s30, rfl, hM.gives⟩

end Go.Proofs.YtdfjkipdmeomdaaDoor
