/- Walks of functions of this program (printed by a program of ours, by the rules of the layer). No condition. -/
import Derived.Test.YtdfjkipdmeomdaaG1
import Derived.Test.YtdfjkipdmeomdaaNs
namespace Go.Proofs.Ytdfjkipdmeomdaa
open Go.RowKit

noncomputable def x_impl_normal_1 (p : List Int) (px : List DPart) (pxx : Int) : Option (List Int × List DPart × Int) :=
  bif decide ((0 : Int) < (p.length : Int)) then (xg (px.length < 1099511627776) <| bif decide ((0 : Int) < pxx) then (xg ((px ++ [(⟨2, 0, p⟩ : DPart)]).length < 1099511627776) <| some ([], (px ++ [(⟨2, 0, p⟩ : DPart)]) ++ [(⟨3, pxx, []⟩ : DPart)], 0)) else (some ([], px ++ [(⟨2, 0, p⟩ : DPart)], 0))) else (bif decide ((0 : Int) < pxx) then (xg (px.length < 1099511627776) <| some ([], px ++ [(⟨3, pxx, []⟩ : DPart)], 0)) else (some ([], px, 0)))
theorem ct_impl_normal_1 (w : World) (X S : Bs) (b_p : Nat) (p : List Int) (s_p : Sv) (b_px : Nat) (px : List DPart) (s_px : Sv) (b_pxx : Nat) (pxx : Int) (hS : ∀ b, S b → b < w.heap.size ∧ ¬ X b)  (oL : Sep [oBox b_p #[s_p.v] 22, oC (cSl 1 fI p) s_p.v, oBox b_px #[s_px.v] 23, oC (cSl 3 fDPart px) s_px.v, oBox b_pxx #[(.int .i64 pxx)] 3] X w) {r : List Int × List DPart × Int} (hx : x_impl_normal_1 p px pxx = some r) :
  Ret Try.prog 104 [(.pointer (some ⟨b_p, 0, none⟩)), (.pointer (some ⟨b_px, 0, none⟩)), (.pointer (some ⟨b_pxx, 0, none⟩))] w (fun u w' => ∃ y : Sv × Sv, u = .tuple #[] ∧ Gives X S w [oBox b_p #[y.1.v] 22, oC (cSl 1 fI r.1) y.1.v, oBox b_px #[y.2.v] 23, oC (cSl 3 fDPart r.2.1) y.2.v, oBox b_pxx #[(.int .i64 r.2.2)] 3] [] w') := by
 unfold x_impl_normal_1 at hx
 refine enter Try.func104 rfl Try.ntmps104 (by kernel_rfl) rfl ?_
 have hM := St.enter oL hS
 refine wc_seq ?_
 refine wc_sr ?_
 refine wv rfl (r_ldB Try.underlying22 rfl rfl hM (.head _) rfl) ?_
 refine wv rfl (r_lenC Try.underlying22 rfl (hM.seeO (.tail _ (.head _)))) ?_
 refine wv rfl (r_gtr rfl rfl) ?_
 refine wl_sq ?_
 refine wc_cond rfl (fun hc59 => ?_) (fun hc59 => ?_)
 ·
  replace hx := xif_t hc59 hx
  refine wc_region ?_
  refine wv rfl (r_ldB Try.underlying23 rfl rfl hM (.tail _ (.tail _ (.head _))) rfl) ?_
  refine wv rfl (r_ldB Try.underlying22 rfl rfl hM (.head _) rfl) ?_
  refine wv rfl (r_build (cells := #[(.int .i64 2), (.int .i64 0), s_p.v]) rfl (by kernel_rfl)) ?_
  replace hM := hM.p1.p3
  obtain ⟨hg66, hx⟩ := xg_some hx
  refine w_push (f := fDPart) (⟨2, 0, p⟩ : DPart) rfl rfl Try.underlying23 sz67 rfl rfl rfl rfl (fun _ => rfl) hM (fun _ => zP (pV _ rfl) (zP (pV _ rfl) (zO zN))) rfl hg66 rfl ?_; intro u64 s65 w63 hM
  replace hM := hM.p2
  refine w_exu (x_stB #[s65.v] sz23 rfl rfl rfl rfl rfl rfl hM ?_); intro w67 hM
  refine wl_sq ?_
  refine wc_seq ?_
  refine wc_sr ?_
  refine wv rfl (r_ldB Try.underlying3 rfl rfl hM (.tail _ (.tail _ (.tail _ (.head _)))) rfl) ?_
  refine wv rfl (r_gtr rfl rfl) ?_
  refine wl_sq ?_
  refine wc_cond rfl (fun hc71 => ?_) (fun hc71 => ?_)
  ·
   replace hx := xif_t hc71 hx
   refine wc_region ?_
   refine wv rfl (r_ldB Try.underlying23 rfl rfl hM (.head _) rfl) ?_
   refine wv rfl (r_ldB Try.underlying3 rfl rfl hM (.tail _ (.tail _ (.tail _ (.head _)))) rfl) ?_
   refine wv rfl (r_build (cells := #[(.int .i64 3), (.int .i64 pxx), (.slice none 0 0)]) rfl (by kernel_rfl)) ?_
   replace hM := hM.p1
   obtain ⟨hg78, hx⟩ := xg_some hx
   refine w_push (f := fDPart) (⟨3, pxx, []⟩ : DPart) rfl rfl Try.underlying23 sz67 rfl rfl rfl rfl (fun _ => rfl) hM (fun _ => zP (pV _ rfl) (zP (pV _ rfl) (zP (pN _ _) zN))) rfl hg78 rfl ?_; intro u76 s77 w75 hM
   replace hM := hM.p1
   refine w_exu (x_stB #[s77.v] sz23 rfl rfl rfl rfl rfl rfl hM ?_); intro w79 hM
   refine wl_sq ?_
   refine wc_region ?_
   replace hM := hM.p2
   refine w_exu (x_stB #[(.slice none 0 0)] sz22 rfl rfl rfl rfl rfl rfl hM ?_); intro w81 hM
   replace hM := hM.p3
   refine w_exu (x_stB #[(.int .i64 0)] sz3 rfl rfl rfl rfl rfl rfl hM ?_); intro w83 hM
   refine wl_nil ?_
   obtain rfl := Option.some.inj hx
   have hM := hM.nil0 (T := Int) 1 fI
   refine fin_end [] trivial ?_
   replace hM := hM.p1.p4.p4.p3.p4
   replace hM := hM.t5
   have hM := hM.fewer rsN
   exact ⟨(nS, s77), rfl, hM.gives⟩
  ·
   replace hx := xif_f hc71 hx
   refine wc_skip ?_
   refine sq_n ?_
   refine wc_region ?_
   replace hM := hM.p2
   refine w_exu (x_stB #[(.slice none 0 0)] sz22 rfl rfl rfl rfl rfl rfl hM ?_); intro w86 hM
   replace hM := hM.p3
   refine w_exu (x_stB #[(.int .i64 0)] sz3 rfl rfl rfl rfl rfl rfl hM ?_); intro w88 hM
   refine wl_nil ?_
   obtain rfl := Option.some.inj hx
   have hM := hM.nil0 (T := Int) 1 fI
   refine fin_end [] trivial ?_
   replace hM := hM.p1.p4.p4.p3.p4
   replace hM := hM.t5
   have hM := hM.fewer rsN
   exact ⟨(nS, s65), rfl, hM.gives⟩
 ·
  replace hx := xif_f hc59 hx
  refine wc_skip ?_
  refine sq_n ?_
  refine wc_seq ?_
  refine wc_sr ?_
  refine wv rfl (r_ldB Try.underlying3 rfl rfl hM (.tail _ (.tail _ (.tail _ (.tail _ (.head _))))) rfl) ?_
  refine wv rfl (r_gtr rfl rfl) ?_
  refine wl_sq ?_
  refine wc_cond rfl (fun hc93 => ?_) (fun hc93 => ?_)
  ·
   replace hx := xif_t hc93 hx
   refine wc_region ?_
   refine wv rfl (r_ldB Try.underlying23 rfl rfl hM (.tail _ (.tail _ (.head _))) rfl) ?_
   refine wv rfl (r_ldB Try.underlying3 rfl rfl hM (.tail _ (.tail _ (.tail _ (.tail _ (.head _))))) rfl) ?_
   refine wv rfl (r_build (cells := #[(.int .i64 3), (.int .i64 pxx), (.slice none 0 0)]) rfl (by kernel_rfl)) ?_
   replace hM := hM.p3
   obtain ⟨hg100, hx⟩ := xg_some hx
   refine w_push (f := fDPart) (⟨3, pxx, []⟩ : DPart) rfl rfl Try.underlying23 sz67 rfl rfl rfl rfl (fun _ => rfl) hM (fun _ => zP (pV _ rfl) (zP (pV _ rfl) (zP (pN _ _) zN))) rfl hg100 rfl ?_; intro u98 s99 w97 hM
   replace hM := hM.p3
   refine w_exu (x_stB #[s99.v] sz23 rfl rfl rfl rfl rfl rfl hM ?_); intro w101 hM
   refine wl_sq ?_
   refine wc_region ?_
   replace hM := hM.p2
   refine w_exu (x_stB #[(.slice none 0 0)] sz22 rfl rfl rfl rfl rfl rfl hM ?_); intro w103 hM
   replace hM := hM.p4
   refine w_exu (x_stB #[(.int .i64 0)] sz3 rfl rfl rfl rfl rfl rfl hM ?_); intro w105 hM
   refine wl_nil ?_
   obtain rfl := Option.some.inj hx
   have hM := hM.nil0 (T := Int) 1 fI
   refine fin_end [] trivial ?_
   replace hM := hM.p1.p4.p4.p3.p4
   replace hM := hM.t5
   have hM := hM.fewer rsN
   exact ⟨(nS, s99), rfl, hM.gives⟩
  ·
   replace hx := xif_f hc93 hx
   refine wc_skip ?_
   refine sq_n ?_
   refine wc_region ?_
   refine w_exu (x_stB #[(.slice none 0 0)] sz22 rfl rfl rfl rfl rfl rfl hM ?_); intro w108 hM
   replace hM := hM.p4
   refine w_exu (x_stB #[(.int .i64 0)] sz3 rfl rfl rfl rfl rfl rfl hM ?_); intro w110 hM
   refine wl_nil ?_
   obtain rfl := Option.some.inj hx
   have hM := hM.nil0 (T := Int) 1 fI
   refine fin_end [] trivial ?_
   replace hM := hM.p1.p5.p5.p3.p4
   replace hM := hM.t5
   have hM := hM.fewer rsN
   exact ⟨(nS, s_px), rfl, hM.gives⟩

noncomputable def x_impl_normal_b0 (_o : List DPart) (_k144 : Nat) (x386 : DPart) (l145 : List Int) (n146 : Int) (l147 : List DPart) : Option (Lr (List Int × Int × List DPart) (List DPart × List Int × Int)) :=
  bif decide ((x386.kind) = 2) then (xg (l145.length + (x386.signs).length ≤ 1099511627776) <| some (Lr.go (l145 ++ (x386.signs), n146, l147))) else (bif decide ((x386.kind) = 3) then (xg (inI (n146 + (x386.n))) <| some (Lr.go (l145, n146 + (x386.n), l147))) else (bif decide ((0 : Int) < (x386.n)) then (Option.bind (x_impl_normal_1 l145 l147 n146) fun r314 => Option.bind (bif decide ((0 : Int) < (r314.2.1.length : Int)) then (xg (inI ((r314.2.1.length : Int) - 1)) <| xg (0 ≤ ((r314.2.1.length : Int) - 1) ∧ ((r314.2.1.length : Int) - 1) < (r314.2.1.length : Int)) <| some (decide (((el r314.2.1 (((r314.2.1.length : Int) - 1).toNat)).kind) = 1))) else (some false)) fun c325 => bif c325 then (xg (inI ((r314.2.1.length : Int) - 1)) <| xg (0 ≤ ((r314.2.1.length : Int) - 1) ∧ ((r314.2.1.length : Int) - 1) < (r314.2.1.length : Int)) <| xg (inI (((el r314.2.1 (((r314.2.1.length : Int) - 1).toNat)).n) + (x386.n))) <| xg (0 ≤ ((r314.2.1.length : Int) - 1) ∧ ((r314.2.1.length : Int) - 1) < (r314.2.1.length : Int)) <| some (Lr.go (r314.1, r314.2.2, r314.2.1.set (((r314.2.1.length : Int) - 1).toNat) (⟨(el r314.2.1 (((r314.2.1.length : Int) - 1).toNat)).kind, ((el r314.2.1 (((r314.2.1.length : Int) - 1).toNat)).n) + (x386.n), (el r314.2.1 (((r314.2.1.length : Int) - 1).toNat)).signs⟩ : DPart)))) else (xg (r314.2.1.length < 1099511627776) <| some (Lr.go (r314.1, r314.2.2, r314.2.1 ++ [(⟨1, x386.n, []⟩ : DPart)])))) else (some (Lr.go (l145, n146, l147)))))
noncomputable def x_impl_normal_f0 (o : List DPart) (k144 : Nat) (s387 : List Int × Int × List DPart) : Option (Lr (List Int × Int × List DPart) (List DPart × List Int × Int)) := x_impl_normal_b0 o k144 (el o k144) s387.1 s387.2.1 s387.2.2
noncomputable def x_impl_normal (o : List DPart) : Option (List DPart) :=
  Option.bind (eachN (x_impl_normal_f0 o) (fun (s387 : List Int × Int × List DPart) => ((s387.2.2, s387.1, s387.2.1) : List DPart × List Int × Int)) o.length 0 ([], 0, [])) fun (y388 : List DPart × List Int × Int) => Option.bind (x_impl_normal_1 y388.2.1 y388.1 y388.2.2) fun r394 => some r394.2.1
theorem ct_impl_normal (w : World) (X S : Bs) (o : List DPart) (s_o : Sv) (hS : ∀ b, S b → b < w.heap.size ∧ ¬ X b) (a_o_0 : (cSl 3 fDPart o).rd S w s_o.v) (oL : Sep [] X w) {r : List DPart} (hx : x_impl_normal o = some r) :
  Ret Try.prog 96 [s_o.v] w (fun u w' => ∃ y : Sv, u = y.v ∧ Gives X S w [oC (cSl 3 fDPart r) y.v] [] w') := by
 unfold x_impl_normal at hx
 refine enter Try.func96 rfl Try.ntmps96 (by kernel_rfl) rfl ?_
 have hM := St.enter oL hS
 have hM := hM.addE (r := rV s_o.v (cSl 3 fDPart o)) a_o_0
 refine wc_sr ?_
 refine was rfl rfl ?_
 refine wl_sq ?_
 refine wc_sr ?_
 refine w_ex rfl (x_alloc sz23 hM ?_); intro b403 w402 hR404 hM
 dsimp only [Value.cells] at hM
 refine wl_sq ?_
 refine wc_sr ?_
 refine w_ex rfl (x_alloc sz22 hM ?_); intro b407 w406 hR408 hM
 dsimp only [Value.cells] at hM
 refine wl_sq ?_
 refine wc_sr ?_
 refine w_ex rfl (x_alloc sz3 hM ?_); intro b411 w410 hR412 hM
 dsimp only [Value.cells] at hM
 refine w_exu (x_stB #[(.int .i64 0)] sz3 rfl rfl rfl rfl rfl rfl hM ?_); intro w414 hM
 refine wl_sq ?_
 refine wc_sr ?_
 refine wv rfl (r_mkfn (caps := [.tmp 4, .tmp 3, .tmp 5]) (vs := [(.pointer (some ⟨b407, 0, none⟩)), (.pointer (some ⟨b403, 0, none⟩)), (.pointer (some ⟨b411, 0, none⟩))]) rfl) ?_
 refine was rfl rfl ?_
 refine wl_sq ?_
 refine wc_seq ?_
 refine wc_sr ?_
 refine wmv rfl rfl ?_
 refine wv rfl (r_lenC Try.underlying23 rfl (hM.seeR (.head _))) ?_
 refine wmv rfl rfl ?_
 refine wl_sq ?_
 refine wc_block ?_
 obtain ⟨y421, hx, hx422⟩ := bind_some' hx
 have hM := hM.nil0 (T := Int) 1 fI
 have hM := hM.nil0 (T := DPart) 3 fDPart
 replace hM := hM.p1.p2.p3.p4
 have hl435 := Cs.le (hM.seeR (.head _))
 refine wc_loop (un fun (m432 : Nat) => un fun (k433 : Nat) => un fun (l425 : List Int) => un fun (n426 : Int) => un fun (l427 : List DPart) => un fun (s429 : Sv) => fun (s431 : Sv) => [(3, (.pointer (some ⟨b403, 0, none⟩))), (4, (.pointer (some ⟨b407, 0, none⟩))), (5, (.pointer (some ⟨b411, 0, none⟩))), (6, (.func (.func 104) #[] #[(.pointer (some ⟨b407, 0, none⟩)), (.pointer (some ⟨b403, 0, none⟩)), (.pointer (some ⟨b411, 0, none⟩))])), (11, s_o.v), (12, (.int .i64 (o.length : Int))), (13, (.int .i64 (k433 : Int)))]) (un fun (m432 : Nat) => un fun (k433 : Nat) => un fun (l425 : List Int) => un fun (n426 : Int) => un fun (l427 : List DPart) => un fun (s429 : Sv) => fun (s431 : Sv) w' => St ⟨w, X, S⟩ [oBox b403 #[s431.v] 23, oBox b407 #[s429.v] 22, oBox b411 #[(.int .i64 n426)] 3, oC (cSl 1 fI l425) s429.v, oC (cSl 3 fDPart l427) s431.v] [rV s_o.v (cSl 3 fDPart o)] w' ∧ eachN _ _ m432 k433 (l425, n426, l427) = some y421 ∧ k433 + m432 = o.length) (fun p => p.1) (o.length, 0, [], 0, [], nS, nS) ⟨rfl, rfl, rfl, rfl, rfl, rfl, rfl, trivial⟩ ⟨hM, hx, Nat.zero_add _⟩ ?_
 rintro ⟨m432, k433, l425, n426, l427, s429, s431⟩ w436 ⟨hM, hx, hk434⟩
 refine wc_sr ?_
 refine wv rfl (r_lss rfl rfl) ?_
 refine wl_sq ?_
 refine wc_seq ?_
 refine wc_cond rfl (fun hc438 => ?_) (fun hc438 => ?_)
 ·
  replace hc438 := of_decide_eq_true hc438
  obtain ⟨m439, z440, rfl, hk434, hx, hx441⟩ := eachN_step hx hk434 hc438
  unfold x_impl_normal_f0 x_impl_normal_b0 at hx
  try dsimp only at hx
  refine wc_skip ?_
  refine sq_n ?_
  refine wc_seq ?_
  refine wc_block ?_
  refine wc_sr ?_
  have hi443 : k433 < o.length := by omega
  refine wv rfl (r_ixC Try.underlying23 sz67 rfl rfl (hM.seeR (.head _)) ⟨by omega, hc438⟩) ?_
  obtain ⟨s445, hM, hc446⟩ := hM.leaf (i := k433) (j := 2) (.head _) (fun _ => rfl) hi443 rfl
  refine wv rfl (r_ldC (o := k433 * 3) Try.underlying67 sz67 rfl (us := [(.int .i64 ((el o k433).kind)), (.int .i64 ((el o k433).n)), s445.v]) rfl (hM.seeR (.tail _ (.head _))) hi443 ⟨(Cs.get (i := k433) (j := 0) (hM.seeR (.tail _ (.head _))) (fun _ => rfl) hi443 rfl), (Cs.get (i := k433) (j := 1) (hM.seeR (.tail _ (.head _))) (fun _ => rfl) hi443 rfl), (hc446 _ (Rel.refl _)), trivial⟩) ?_
  refine w_ex rfl (x_alloc sz67 hM ?_); intro b448 w447 hR449 hM
  dsimp only [Value.cells] at hM
  refine w_exu (x_stB #[(.int .i64 ((el o k433).kind)), (.int .i64 ((el o k433).n)), s445.v] sz67 rfl rfl rfl rfl rfl rfl hM ?_); intro w451 hM
  refine wl_sq ?_
  refine wc_block ?_
  refine wc_sr ?_
  refine wv rfl (r_fld Try.underlying67 rfl rfl sz3 rfl) ?_
  refine wv rfl (r_ldB Try.underlying3 rfl rfl hM (.head _) rfl) ?_
  refine wv rfl (r_eql rfl rfl) ?_
  refine was rfl rfl ?_
  refine wl_sq ?_
  refine wc_cond rfl (fun hc457 => ?_) (fun hc457 => ?_)
  ·
   replace hx := xif_t hc457 hx
   refine wc_region ?_
   refine wv rfl (r_ldB Try.underlying22 rfl rfl hM (.tail _ (.tail _ (.head _))) rfl) ?_
   refine wv rfl (r_fld Try.underlying67 rfl rfl sz22 rfl) ?_
   refine wv rfl (r_ldB Try.underlying22 rfl rfl hM (.head _) rfl) ?_
   replace hM := hM.p4
   obtain ⟨hg463, hx⟩ := xg_some hx
   refine w_ex rfl (x_append Try.underlying22 sz3 rfl rfl (hM.seeR (.head _)) flI hM hg463 rfl ?_); intro s462 w461 hM
   replace hM := hM.p3
   refine w_exu (x_stB #[s462.v] sz22 rfl rfl rfl rfl rfl rfl hM ?_); intro w465 hM
   refine wl_nil ?_
   refine bk_n ?_
   refine bk_n ?_
   refine sq_n ?_
   refine wc_region ?_
   refine wv rfl (r_add rfl rfl ⟨by omega, by omega⟩) ?_
   refine wmv rfl rfl ?_
   refine wl_nil ?_
   obtain rfl := Option.some.inj hx
   replace hM := hM.p5.p2.p5.p3.p5
   replace hM := hM.t5
   have hM := hM.fewer (rsC (.tail _ (.head _)) rsN)
   replace hM : St ⟨w, X, S⟩ [oBox b403 #[s431.v] 23, oBox b407 #[s462.v] 22, oBox b411 #[(.int .i64 n426)] 3, oC (cSl 1 fI (l425 ++ ((el o k433).signs))) s462.v, oC (cSl 3 fDPart l427) s431.v] [rV s_o.v (cSl 3 fDPart o)] _ := hM
   exact lp_end (m439, k433 + 1, l425 ++ ((el o k433).signs), n426, l427, s462, s431) (Nat.lt_succ_self _) ⟨rfl, rfl, rfl, rfl, rfl, rfl, rfl, trivial⟩ ⟨hM, hx441, hk434⟩
  ·
   replace hx := xif_f hc457 hx
   refine wc_sr ?_
   refine wv rfl (r_fld Try.underlying67 rfl rfl sz3 rfl) ?_
   refine wv rfl (r_ldB Try.underlying3 rfl rfl hM (.head _) rfl) ?_
   refine wv rfl (r_eql rfl rfl) ?_
   refine was rfl rfl ?_
   refine wl_sq ?_
   refine wc_cond rfl (fun hc473 => ?_) (fun hc473 => ?_)
   ·
    replace hx := xif_t hc473 hx
    refine wc_region ?_
    refine wv rfl (r_ldB Try.underlying3 rfl rfl hM (.tail _ (.tail _ (.tail _ (.head _)))) rfl) ?_
    refine wv rfl (r_fld Try.underlying67 rfl rfl sz3 rfl) ?_
    refine wv rfl (r_ldB Try.underlying3 rfl rfl hM (.head _) rfl) ?_
    obtain ⟨hg478, hx⟩ := xg_some hx
    refine wv rfl (r_add rfl rfl hg478) ?_
    replace hM := hM.p3
    refine w_exu (x_stB #[(.int .i64 (n426 + ((el o k433).n)))] sz3 rfl rfl rfl rfl rfl rfl hM ?_); intro w479 hM
    refine wl_nil ?_
    refine bk_n ?_
    refine bk_n ?_
    refine sq_n ?_
    refine wc_region ?_
    refine wv rfl (r_add rfl rfl ⟨by omega, by omega⟩) ?_
    refine wmv rfl rfl ?_
    refine wl_nil ?_
    obtain rfl := Option.some.inj hx
    replace hM := hM.p5.p5.p2.p5.p5
    replace hM := hM.t5
    have hM := hM.fewer (rsC (.tail _ (.head _)) rsN)
    replace hM : St ⟨w, X, S⟩ [oBox b403 #[s431.v] 23, oBox b407 #[s429.v] 22, oBox b411 #[(.int .i64 (n426 + ((el o k433).n)))] 3, oC (cSl 1 fI l425) s429.v, oC (cSl 3 fDPart l427) s431.v] [rV s_o.v (cSl 3 fDPart o)] _ := hM
    exact lp_end (m439, k433 + 1, l425, n426 + ((el o k433).n), l427, s429, s431) (Nat.lt_succ_self _) ⟨rfl, rfl, rfl, rfl, rfl, rfl, rfl, trivial⟩ ⟨hM, hx441, hk434⟩
   ·
    replace hx := xif_f hc473 hx
    refine wc_sr ?_
    refine wv rfl (r_fld Try.underlying67 rfl rfl sz3 rfl) ?_
    refine wv rfl (r_ldB Try.underlying3 rfl rfl hM (.head _) rfl) ?_
    refine wv rfl (r_gtr rfl rfl) ?_
    refine was rfl rfl ?_
    refine wl_sq ?_
    refine wc_cond rfl (fun hc487 => ?_) (fun hc487 => ?_)
    ·
     replace hx := xif_t hc487 hx
     refine wc_sr ?_
     refine wmv rfl rfl ?_
     replace hM := hM.p3.p5.p3.p5.p5
     obtain ⟨r489, h490, hx⟩ := bind_some' hx
     refine w_callv (cap := [(.pointer (some ⟨b407, 0, none⟩)), (.pointer (some ⟨b403, 0, none⟩)), (.pointer (some ⟨b411, 0, none⟩))]) rfl rfl rfl (hM.callO (l := [oBox b407 #[s429.v] 22, oC (cSl 1 fI l425) s429.v, oBox b403 #[s431.v] 23, oC (cSl 3 fDPart l427) s431.v, oBox b411 #[(.int .i64 n426)] 3]) fun X S oL hS hR hO => ct_impl_normal_1 _ X S b407 l425 s429 b403 l427 s431 b411 n426 hS  oL h490) ?_
     rintro _ w491 ⟨⟨s492, s493⟩, rfl, hM⟩
     dsimp only [List.cons_append, List.nil_append] at hM
     refine wl_sq ?_
     refine wc_sr ?_
     refine wv rfl (r_ldB Try.underlying23 rfl rfl hM (.tail _ (.tail _ (.head _))) rfl) ?_
     refine wv rfl (r_lenC Try.underlying23 rfl (hM.seeO (.tail _ (.tail _ (.tail _ (.head _)))))) ?_
     refine was rfl rfl ?_
     refine wl_sq ?_
     refine wc_sr ?_
     refine wmv rfl rfl ?_
     refine wv rfl (r_gtr rfl rfl) ?_
     refine wmv rfl rfl ?_
     obtain ⟨c500, hx, hx512⟩ := bind_some' hx
     refine wl_mid 8 (fun _ : Unit => [(51, (.bool c500)), (3, (.pointer (some ⟨b403, 0, none⟩))), (4, (.pointer (some ⟨b407, 0, none⟩))), (5, (.pointer (some ⟨b411, 0, none⟩))), (6, (.func (.func 104) #[] #[(.pointer (some ⟨b407, 0, none⟩)), (.pointer (some ⟨b403, 0, none⟩)), (.pointer (some ⟨b411, 0, none⟩))])), (8, (.pointer (some ⟨b448, 0, none⟩))), (9, (.int .i64 (r489.2.1.length : Int))), (11, s_o.v), (12, (.int .i64 (o.length : Int))), (13, (.int .i64 (k433 : Int)))]) (fun _ w' => St ⟨w, X, S⟩ [oBox b407 #[s492.v] 22, oC (cSl 1 fI r489.1) s492.v, oBox b403 #[s493.v] 23, oC (cSl 3 fDPart r489.2.1) s493.v, oBox b411 #[(.int .i64 r489.2.2)] 3, oBox b448 #[(.int .i64 ((el o k433).kind)), (.int .i64 ((el o k433).n)), s445.v] 67] [rV s445.v (cSl 1 fI ((el o k433).signs)), rV s_o.v (cSl 3 fDPart o)] w') ?_ ?_
     ·
      rcases Bool.eq_false_or_eq_true (decide ((0 : Int) < (r489.2.1.length : Int))) with hg501 | hg501
      ·
       replace hx := xif_t hg501 hx
       refine gv rfl hg501 rfl (r_ldB Try.underlying23 rfl rfl hM (.tail _ (.tail _ (.head _))) rfl) ?_
       refine gv rfl hg501 rfl (r_move rfl) ?_
       obtain ⟨hg516, hx⟩ := xg_some hx
       refine gv rfl hg501 rfl (r_sub rfl rfl hg516) ?_
       obtain ⟨hg519, hx⟩ := xg_some hx
       have hi518 : (((r489.2.1.length : Int) - 1).toNat) < r489.2.1.length := by omega
       refine gv rfl hg501 rfl (r_ixC Try.underlying23 sz67 rfl rfl (hM.seeO (.tail _ (.tail _ (.tail _ (.head _))))) hg519) ?_
       refine gv rfl hg501 rfl (r_fldC (i := (((r489.2.1.length : Int) - 1).toNat)) Try.underlying67 rfl rfl sz3 rfl (hM.seeO (.tail _ (.tail _ (.tail _ (.head _))))) hi518) ?_
       refine gv rfl hg501 rfl (r_ld Try.underlying3 rfl rfl (Cs.get (i := (((r489.2.1.length : Int) - 1).toNat)) (j := 0) (hM.seeO (.tail _ (.tail _ (.tail _ (.head _))))) (fun _ => rfl) hi518 rfl)) ?_
       refine gv rfl hg501 rfl (r_eql rfl rfl) ?_
       refine wv rfl (p_t rfl hg501 rfl) ?_
       obtain rfl := Option.some.inj hx
       exact mid_nil () ⟨rfl, rfl, rfl, rfl, rfl, rfl, rfl, rfl, rfl, rfl, trivial⟩ hM
      ·
       replace hx := xif_f hg501 hx
       refine gs rfl (isB_no hg501) rfl ?_
       refine gs rfl (isB_no hg501) rfl ?_
       refine gs rfl (isB_no hg501) rfl ?_
       refine gs rfl (isB_no hg501) rfl ?_
       refine gs rfl (isB_no hg501) rfl ?_
       refine gs rfl (isB_no hg501) rfl ?_
       refine gs rfl (isB_no hg501) rfl ?_
       refine wv rfl (p_f rfl hg501 rfl) ?_
       obtain rfl := Option.some.inj hx
       exact mid_nil () ⟨rfl, rfl, rfl, rfl, rfl, rfl, rfl, rfl, rfl, rfl, trivial⟩ hM
     rintro _ w523 hM
     replace hx := hx512
     refine wl_sq ?_
     refine wc_cond rfl (fun hc524 => ?_) (fun hc524 => ?_)
     ·
      replace hx := xif_t hc524 hx
      refine wc_draw [(0, 0), (1, 0), (2, 0), (3, 0), (4, 0), (5, 0), (6, 0), (7, 0), (8, 0), (9, 0), (10, 0), (11, 2)] Try_mixed (by kernel_rfl) rfl (by kernel_rfl) rfl ?_
      refine ov rfl (fun w' h' => r_ldB Try.underlying23 rfl rfl (hM.call h') (.tail _ (.tail _ (.head _))) rfl) ?_
      refine omv rfl rfl ?_
      obtain ⟨hg528, hx⟩ := xg_some hx
      refine ov rfl (fun w' h' => r_sub rfl rfl hg528) ?_
      obtain ⟨hg531, hx⟩ := xg_some hx
      have hi530 : (((r489.2.1.length : Int) - 1).toNat) < r489.2.1.length := by omega
      refine ov rfl (fun w' h' => r_ixC Try.underlying23 sz67 rfl rfl ((hM.call h').seeO (.tail _ (.tail _ (.tail _ (.head _))))) hg531) ?_
      refine ov rfl (fun w' h' => r_fldC (i := (((r489.2.1.length : Int) - 1).toNat)) Try.underlying67 rfl rfl sz3 rfl ((hM.call h').seeO (.tail _ (.tail _ (.tail _ (.head _))))) hi530) ?_
      refine ov rfl (fun w' h' => r_ld Try.underlying3 rfl rfl (Cs.get (i := (((r489.2.1.length : Int) - 1).toNat)) (j := 1) ((hM.call h').seeO (.tail _ (.tail _ (.tail _ (.head _))))) (fun _ => rfl) hi530 rfl)) ?_
      refine ov rfl (fun w' h' => r_fld Try.underlying67 rfl rfl sz3 rfl) ?_
      refine ov rfl (fun w' h' => r_ldB Try.underlying3 rfl rfl (hM.call h') (.tail _ (.tail _ (.tail _ (.tail _ (.tail _ (.head _)))))) rfl) ?_
      obtain ⟨hg537, hx⟩ := xg_some hx
      refine ov rfl (fun w' h' => r_add rfl rfl hg537) ?_
      obtain ⟨hg540, hx⟩ := xg_some hx
      have hi539 : (((r489.2.1.length : Int) - 1).toNat) < r489.2.1.length := by omega
      refine ov rfl (fun w' h' => r_ixC Try.underlying23 sz67 rfl rfl ((hM.call h').seeO (.tail _ (.tail _ (.tail _ (.head _))))) hg540) ?_
      refine ov rfl (fun w' h' => r_fldC (i := (((r489.2.1.length : Int) - 1).toNat)) Try.underlying67 rfl rfl sz3 rfl ((hM.call h').seeO (.tail _ (.tail _ (.tail _ (.head _))))) hi539) ?_
      replace hM := hM.p3
      refine o_exu fun w544 h545 => ?_
      have hM := hM.call h545
      refine x_stE (f := fDPart) (k := 3) (L := r489.2.1) (i := (((r489.2.1.length : Int) - 1).toNat)) (j := 1) (⟨(el r489.2.1 (((r489.2.1.length : Int) - 1).toNat)).kind, ((el r489.2.1 (((r489.2.1.length : Int) - 1).toNat)).n) + ((el o k433).n), (el r489.2.1 (((r489.2.1.length : Int) - 1).toNat)).signs⟩ : DPart) [cI (((el r489.2.1 (((r489.2.1.length : Int) - 1).toNat)).n) + ((el o k433).n))] sz3 (fun _ => rfl) rfl rfl hi539 rfl rfl rfl rfl rfl (fun _ => zP (pV _ rfl) zN) hM ?_; intro w542 hM
      refine o_nilM hM fun w546 hM => ?_
      refine bk_n ?_
      refine bk_n ?_
      refine sq_n ?_
      refine wc_region ?_
      refine wv rfl (r_add rfl rfl ⟨by omega, by omega⟩) ?_
      refine wmv rfl rfl ?_
      refine wl_nil ?_
      obtain rfl := Option.some.inj hx
      replace hM := hM.p2.p4.p3.p4
      replace hM := hM.t5
      have hM := hM.fewer (rsC (.tail _ (.head _)) rsN)
      replace hM : St ⟨w, X, S⟩ [oBox b403 #[s493.v] 23, oBox b407 #[s492.v] 22, oBox b411 #[(.int .i64 r489.2.2)] 3, oC (cSl 1 fI r489.1) s492.v, oC (cSl 3 fDPart (r489.2.1.set (((r489.2.1.length : Int) - 1).toNat) (⟨(el r489.2.1 (((r489.2.1.length : Int) - 1).toNat)).kind, ((el r489.2.1 (((r489.2.1.length : Int) - 1).toNat)).n) + ((el o k433).n), (el r489.2.1 (((r489.2.1.length : Int) - 1).toNat)).signs⟩ : DPart))) s493.v] [rV s_o.v (cSl 3 fDPart o)] _ := hM
      exact lp_end (m439, k433 + 1, r489.1, r489.2.2, r489.2.1.set (((r489.2.1.length : Int) - 1).toNat) (⟨(el r489.2.1 (((r489.2.1.length : Int) - 1).toNat)).kind, ((el r489.2.1 (((r489.2.1.length : Int) - 1).toNat)).n) + ((el o k433).n), (el r489.2.1 (((r489.2.1.length : Int) - 1).toNat)).signs⟩ : DPart), s492, s493) (Nat.lt_succ_self _) ⟨rfl, rfl, rfl, rfl, rfl, rfl, rfl, trivial⟩ ⟨hM, hx441, hk434⟩
     ·
      replace hx := xif_f hc524 hx
      refine wc_region ?_
      refine wv rfl (r_ldB Try.underlying23 rfl rfl hM (.tail _ (.tail _ (.head _))) rfl) ?_
      refine wv rfl (r_fld Try.underlying67 rfl rfl sz3 rfl) ?_
      refine wv rfl (r_ldB Try.underlying3 rfl rfl hM (.tail _ (.tail _ (.tail _ (.tail _ (.tail _ (.head _)))))) rfl) ?_
      refine wv rfl (r_build (cells := #[(.int .i64 1), (.int .i64 ((el o k433).n)), (.slice none 0 0)]) rfl (by kernel_rfl)) ?_
      replace hM := hM.p3
      obtain ⟨hg557, hx⟩ := xg_some hx
      refine w_push (f := fDPart) (⟨1, (el o k433).n, []⟩ : DPart) rfl rfl Try.underlying23 sz67 rfl rfl rfl rfl (fun _ => rfl) hM (fun _ => zP (pV _ rfl) (zP (pV _ rfl) (zP (pN _ _) zN))) rfl hg557 rfl ?_; intro u555 s556 w554 hM
      replace hM := hM.p3
      refine w_exu (x_stB #[s556.v] sz23 rfl rfl rfl rfl rfl rfl hM ?_); intro w558 hM
      refine wl_nil ?_
      refine bk_n ?_
      refine bk_n ?_
      refine sq_n ?_
      refine wc_region ?_
      refine wv rfl (r_add rfl rfl ⟨by omega, by omega⟩) ?_
      refine wmv rfl rfl ?_
      refine wl_nil ?_
      obtain rfl := Option.some.inj hx
      replace hM := hM.p1.p3.p4.p4.p4
      replace hM := hM.t5
      have hM := hM.fewer (rsC (.tail _ (.head _)) rsN)
      replace hM : St ⟨w, X, S⟩ [oBox b403 #[s556.v] 23, oBox b407 #[s492.v] 22, oBox b411 #[(.int .i64 r489.2.2)] 3, oC (cSl 1 fI r489.1) s492.v, oC (cSl 3 fDPart (r489.2.1 ++ [(⟨1, (el o k433).n, []⟩ : DPart)])) s556.v] [rV s_o.v (cSl 3 fDPart o)] _ := hM
      exact lp_end (m439, k433 + 1, r489.1, r489.2.2, r489.2.1 ++ [(⟨1, (el o k433).n, []⟩ : DPart)], s492, s556) (Nat.lt_succ_self _) ⟨rfl, rfl, rfl, rfl, rfl, rfl, rfl, trivial⟩ ⟨hM, hx441, hk434⟩
    ·
     replace hx := xif_f hc487 hx
     refine wc_skip ?_
     refine bk_n ?_
     refine bk_n ?_
     refine sq_n ?_
     refine wc_region ?_
     refine wv rfl (r_add rfl rfl ⟨by omega, by omega⟩) ?_
     refine wmv rfl rfl ?_
     refine wl_nil ?_
     obtain rfl := Option.some.inj hx
     replace hM := hM.p5.p5.p5.p5.p5
     replace hM := hM.t5
     have hM := hM.fewer (rsC (.tail _ (.head _)) rsN)
     replace hM : St ⟨w, X, S⟩ [oBox b403 #[s431.v] 23, oBox b407 #[s429.v] 22, oBox b411 #[(.int .i64 n426)] 3, oC (cSl 1 fI l425) s429.v, oC (cSl 3 fDPart l427) s431.v] [rV s_o.v (cSl 3 fDPart o)] _ := hM
     exact lp_end (m439, k433 + 1, l425, n426, l427, s429, s431) (Nat.lt_succ_self _) ⟨rfl, rfl, rfl, rfl, rfl, rfl, rfl, trivial⟩ ⟨hM, hx441, hk434⟩
 ·
  replace hc438 := of_decide_eq_false hc438
  obtain rfl := eachN_end hx hk434 hc438
  refine wc_exit ?_
  refine sq_exit ?_
  refine lp1_exit ?_
  replace hx := hx422
  try dsimp only [Sum.elim_inl, Sum.elim_inr] at hx
  refine bk_here ?_
  refine sq_n ?_
  refine wc_sr ?_
  refine wmv rfl rfl ?_
  replace hM := hM.p2.p4.p2.p4.p4
  obtain ⟨r565, h566, hx⟩ := bind_some' hx
  refine w_callv (cap := [(.pointer (some ⟨b407, 0, none⟩)), (.pointer (some ⟨b403, 0, none⟩)), (.pointer (some ⟨b411, 0, none⟩))]) rfl rfl rfl (hM.callO (l := [oBox b407 #[s429.v] 22, oC (cSl 1 fI l425) s429.v, oBox b403 #[s431.v] 23, oC (cSl 3 fDPart l427) s431.v, oBox b411 #[(.int .i64 n426)] 3]) fun X S oL hS hR hO => ct_impl_normal_1 _ X S b407 l425 s429 b403 l427 s431 b411 n426 hS  oL h566) ?_
  rintro _ w567 ⟨⟨s568, s569⟩, rfl, hM⟩
  dsimp only [List.cons_append, List.nil_append] at hM
  refine wl_sq ?_
  refine wc_sr ?_
  refine wv rfl (r_ldB Try.underlying23 rfl rfl hM (.tail _ (.tail _ (.head _))) rfl) ?_
  refine was rfl rfl ?_
  refine wl_sq ?_
  refine wc_ret ?_
  obtain rfl := Option.some.inj hx
  refine fin_ret [s569.v] ⟨rfl, trivial⟩ ?_
  replace hM := hM.p3
  replace hM := hM.t1
  have hM := hM.fewer rsN
  exact ⟨s569, rfl, hM.gives⟩

noncomputable def x_impl_OpNorm (o : List DPart) : Option (List DPart) :=
  Option.bind (x_impl_OpOk o) fun r3 => bif !r3 then (some []) else (Option.bind (x_impl_normal o) fun r10 => some r10)
theorem ct_impl_OpNorm (w : World) (X S : Bs) (o : List DPart) (s_o : Sv) (hS : ∀ b, S b → b < w.heap.size ∧ ¬ X b) (a_o_0 : (cSl 3 fDPart o).rd S w s_o.v) (oL : Sep [] X w) {r : List DPart} (hx : x_impl_OpNorm o = some r) :
  Ret Try.prog 80 [s_o.v] w (fun u w' => ∃ y : Sv, u = y.v ∧ Gives X S w [oC (cSl 3 fDPart r) y.v] [] w') := by
 unfold x_impl_OpNorm at hx
 refine enter Try.func80 rfl Try.ntmps80 (by kernel_rfl) rfl ?_
 have hM := St.enter oL hS
 have hM := hM.addE (r := rV s_o.v (cSl 3 fDPart o)) a_o_0
 refine wc_sr ?_
 refine was rfl rfl ?_
 refine wl_sq ?_
 refine wc_seq ?_
 refine wc_sr ?_
 refine wmv rfl rfl ?_
 obtain ⟨r18, h19, hx⟩ := bind_some' hx
 refine w_call rfl rfl (hM.callV fun X S oL hS hR hO => ct_impl_OpOk _ X S o s_o hS (hR _ (.head _)) oL h19) ?_
 rintro _ w20 ⟨rfl, hR21⟩
 have hM := hM.call hR21
 refine wv rfl (r_not rfl) ?_
 refine wl_sq ?_
 refine wc_cond rfl (fun hc23 => ?_) (fun hc23 => ?_)
 ·
  replace hx := xif_t hc23 hx
  refine wc_sr ?_
  refine was rfl rfl ?_
  refine wl_sq ?_
  refine wc_ret ?_
  refine sq_ret ?_
  obtain rfl := Option.some.inj hx
  have hM := hM.nil0 (T := DPart) 3 fDPart
  refine fin_ret [nS.v] ⟨rfl, trivial⟩ ?_
  replace hM := hM.t1
  have hM := hM.fewer rsN
  exact ⟨nS, rfl, hM.gives⟩
 ·
  replace hx := xif_f hc23 hx
  refine wc_skip ?_
  refine sq_n ?_
  refine wc_sr ?_
  refine wmv rfl rfl ?_
  obtain ⟨r27, h28, hx⟩ := bind_some' hx
  refine w_call rfl rfl (hM.callO (l := []) fun X S oL hS hR hO => ct_impl_normal _ X S o s_o hS (hR _ (.head _)) oL h28) ?_
  rintro _ w29 ⟨s30, rfl, hM⟩
  dsimp only [List.cons_append, List.nil_append] at hM
  refine was rfl rfl ?_
  refine wl_sq ?_
  refine wc_ret ?_
  obtain rfl := Option.some.inj hx
  refine fin_ret [s30.v] ⟨rfl, trivial⟩ ?_
  replace hM := hM.t1
  have hM := hM.fewer rsN
  exact ⟨s30, rfl, hM.gives⟩

noncomputable def x_impl_copyInts (l : List Int) : Option (List Int) :=
  xg (0 + l.length ≤ 1099511627776) <| some ([] ++ l)
theorem ct_impl_copyInts (w : World) (X S : Bs) (l : List Int) (s_l : Sv) (hS : ∀ b, S b → b < w.heap.size ∧ ¬ X b) (a_l_0 : (cSl 1 fI l).rd S w s_l.v) (oL : Sep [] X w) {r : List Int} (hx : x_impl_copyInts l = some r) :
  Ret Try.prog 47 [s_l.v] w (fun u w' => ∃ y : Sv, u = y.v ∧ Gives X S w [oC (cSl 1 fI r) y.v] [] w') := by
 unfold x_impl_copyInts at hx
 refine enter Try.func47 rfl Try.ntmps47 (by kernel_rfl) rfl ?_
 have hM := St.enter oL hS
 have hM := hM.addE (r := rV s_l.v (cSl 1 fI l)) a_l_0
 refine wc_sr ?_
 refine was rfl rfl ?_
 refine wl_sq ?_
 refine wc_sr ?_
 refine wmv rfl rfl ?_
 have hM := hM.nil0 (T := Int) 1 fI
 obtain ⟨hg14, hx⟩ := xg_some hx
 refine w_ex rfl (x_append Try.underlying22 sz3 rfl rfl (hM.seeR (.head _)) flI hM hg14 rfl ?_); intro s12 w11 hM
 refine was rfl rfl ?_
 refine wl_sq ?_
 refine wc_ret ?_
 obtain rfl := Option.some.inj hx
 refine fin_ret [s12.v] ⟨rfl, trivial⟩ ?_
 replace hM := hM.t1
 have hM := hM.fewer rsN
 exact ⟨s12, rfl, hM.gives⟩

noncomputable def x_impl_copyOp_b0 (_o : List DPart) (_k39 : Nat) (x105 : DPart) (out40 : List DPart) : Option (Lr (List DPart) (List DPart)) :=
  Option.bind (x_impl_copyInts (x105.signs)) fun r88 => xg (out40.length < 1099511627776) <| some (Lr.go (out40 ++ [(⟨x105.kind, x105.n, r88⟩ : DPart)]))
noncomputable def x_impl_copyOp_f0 (o : List DPart) (k39 : Nat) (s106 : List DPart) : Option (Lr (List DPart) (List DPart)) := x_impl_copyOp_b0 o k39 (el o k39) s106
noncomputable def x_impl_copyOp (o : List DPart) : Option (List DPart) :=
  Option.bind (eachN (x_impl_copyOp_f0 o) (fun (s106 : List DPart) => (s106 : List DPart)) o.length 0 []) fun (y107 : List DPart) => some y107
theorem ct_impl_copyOp (w : World) (X S : Bs) (o : List DPart) (s_o : Sv) (hS : ∀ b, S b → b < w.heap.size ∧ ¬ X b) (a_o_0 : (cSl 3 fDPart o).rd S w s_o.v) (oL : Sep [] X w) {r : List DPart} (hx : x_impl_copyOp o = some r) :
  Ret Try.prog 84 [s_o.v] w (fun u w' => ∃ y : Sv, u = y.v ∧ Gives X S w [oC (cSl 3 fDPart r) y.v] [] w') := by
 unfold x_impl_copyOp at hx
 refine enter Try.func84 rfl Try.ntmps84 (by kernel_rfl) rfl ?_
 have hM := St.enter oL hS
 have hM := hM.addE (r := rV s_o.v (cSl 3 fDPart o)) a_o_0
 refine wc_sr ?_
 refine was rfl rfl ?_
 refine wl_sq ?_
 refine wc_sr ?_
 refine was rfl rfl ?_
 refine wl_sq ?_
 refine wc_seq ?_
 refine wc_sr ?_
 refine wmv rfl rfl ?_
 refine wv rfl (r_lenC Try.underlying23 rfl (hM.seeR (.head _))) ?_
 refine wmv rfl rfl ?_
 refine wl_sq ?_
 refine wc_block ?_
 obtain ⟨y117, hx, hx118⟩ := bind_some' hx
 have hM := hM.nil0 (T := DPart) 3 fDPart
 have hl126 := Cs.le (hM.seeR (.head _))
 refine wc_loop (un fun (m123 : Nat) => un fun (k124 : Nat) => un fun (out120 : List DPart) => fun (s122 : Sv) => [(3, s122.v), (6, s_o.v), (7, (.int .i64 (o.length : Int))), (8, (.int .i64 (k124 : Int)))]) (un fun (m123 : Nat) => un fun (k124 : Nat) => un fun (out120 : List DPart) => fun (s122 : Sv) w' => St ⟨w, X, S⟩ [oC (cSl 3 fDPart out120) s122.v] [rV s_o.v (cSl 3 fDPart o)] w' ∧ eachN _ _ m123 k124 out120 = some y117 ∧ k124 + m123 = o.length) (fun p => p.1) (o.length, 0, [], nS) ⟨rfl, rfl, rfl, rfl, trivial⟩ ⟨hM, hx, Nat.zero_add _⟩ ?_
 rintro ⟨m123, k124, out120, s122⟩ w127 ⟨hM, hx, hk125⟩
 refine wc_sr ?_
 refine wv rfl (r_lss rfl rfl) ?_
 refine wl_sq ?_
 refine wc_seq ?_
 refine wc_cond rfl (fun hc129 => ?_) (fun hc129 => ?_)
 ·
  replace hc129 := of_decide_eq_true hc129
  obtain ⟨m130, z131, rfl, hk125, hx, hx132⟩ := eachN_step hx hk125 hc129
  unfold x_impl_copyOp_f0 x_impl_copyOp_b0 at hx
  try dsimp only at hx
  refine wc_skip ?_
  refine sq_n ?_
  refine wc_seq ?_
  refine wc_block ?_
  refine wc_sr ?_
  have hi134 : k124 < o.length := by omega
  refine wv rfl (r_ixC Try.underlying23 sz67 rfl rfl (hM.seeR (.head _)) ⟨by omega, hc129⟩) ?_
  obtain ⟨s136, hM, hc137⟩ := hM.leaf (i := k124) (j := 2) (.head _) (fun _ => rfl) hi134 rfl
  refine wv rfl (r_ldC (o := k124 * 3) Try.underlying67 sz67 rfl (us := [(.int .i64 ((el o k124).kind)), (.int .i64 ((el o k124).n)), s136.v]) rfl (hM.seeR (.tail _ (.head _))) hi134 ⟨(Cs.get (i := k124) (j := 0) (hM.seeR (.tail _ (.head _))) (fun _ => rfl) hi134 rfl), (Cs.get (i := k124) (j := 1) (hM.seeR (.tail _ (.head _))) (fun _ => rfl) hi134 rfl), (hc137 _ (Rel.refl _)), trivial⟩) ?_
  refine w_ex rfl (x_alloc sz67 hM ?_); intro b139 w138 hR140 hM
  dsimp only [Value.cells] at hM
  refine w_exu (x_stB #[(.int .i64 ((el o k124).kind)), (.int .i64 ((el o k124).n)), s136.v] sz67 rfl rfl rfl rfl rfl rfl hM ?_); intro w142 hM
  refine wl_sq ?_
  refine wc_sr ?_
  refine wv rfl (r_fld Try.underlying67 rfl rfl sz22 rfl) ?_
  refine wv rfl (r_ldB Try.underlying22 rfl rfl hM (.head _) rfl) ?_
  obtain ⟨r146, h147, hx⟩ := bind_some' hx
  refine w_call rfl rfl (hM.callO (l := []) fun X S oL hS hR hO => ct_impl_copyInts _ X S ((el o k124).signs) s136 hS (hR _ (.head _)) oL h147) ?_
  rintro _ w148 ⟨s149, rfl, hM⟩
  dsimp only [List.cons_append, List.nil_append] at hM
  refine wv rfl (r_fld Try.underlying67 rfl rfl sz22 rfl) ?_
  replace hM := hM.p1
  refine w_exu (x_stB #[(.int .i64 ((el o k124).kind)), (.int .i64 ((el o k124).n)), s149.v] sz22 rfl rfl rfl rfl rfl rfl hM ?_); intro w152 hM
  refine wl_sq ?_
  refine wc_region ?_
  refine wmv rfl rfl ?_
  refine wv rfl (r_ldBS Try.underlying67 sz67 rfl (us := [(.int .i64 ((el o k124).kind)), (.int .i64 ((el o k124).n)), s149.v]) rfl hM (.head _) rfl) ?_
  replace hM := hM.p1.p2
  obtain ⟨hg159, hx⟩ := xg_some hx
  refine w_push (f := fDPart) (⟨(el o k124).kind, (el o k124).n, r146⟩ : DPart) rfl rfl Try.underlying23 sz67 rfl rfl rfl rfl (fun _ => rfl) hM (fun _ => zP (pV _ rfl) (zP (pV _ rfl) (zO zN))) rfl hg159 rfl ?_; intro u157 s158 w156 hM
  refine was rfl rfl ?_
  refine wl_nil ?_
  refine bk_n ?_
  refine sq_n ?_
  refine wc_region ?_
  refine wv rfl (r_add rfl rfl ⟨by omega, by omega⟩) ?_
  refine wmv rfl rfl ?_
  refine wl_nil ?_
  obtain rfl := Option.some.inj hx
  replace hM := hM.t1
  have hM := hM.fewer (rsC (.tail _ (.head _)) rsN)
  replace hM : St ⟨w, X, S⟩ [oC (cSl 3 fDPart (out120 ++ [(⟨(el o k124).kind, (el o k124).n, r146⟩ : DPart)])) s158.v] [rV s_o.v (cSl 3 fDPart o)] _ := hM
  exact lp_end (m130, k124 + 1, out120 ++ [(⟨(el o k124).kind, (el o k124).n, r146⟩ : DPart)], s158) (Nat.lt_succ_self _) ⟨rfl, rfl, rfl, rfl, trivial⟩ ⟨hM, hx132, hk125⟩
 ·
  replace hc129 := of_decide_eq_false hc129
  obtain rfl := eachN_end hx hk125 hc129
  refine wc_exit ?_
  refine sq_exit ?_
  refine lp1_exit ?_
  replace hx := hx118
  try dsimp only [Sum.elim_inl, Sum.elim_inr] at hx
  refine bk_here ?_
  refine sq_n ?_
  refine wc_sr ?_
  refine wmv rfl rfl ?_
  refine was rfl rfl ?_
  refine wl_sq ?_
  refine wc_ret ?_
  obtain rfl := Option.some.inj hx
  refine fin_ret [s122.v] ⟨rfl, trivial⟩ ?_
  replace hM := hM.t1
  have hM := hM.fewer rsN
  exact ⟨s122, rfl, hM.gives⟩

noncomputable def x_slices_Equal_int_int_b0 (s2_ : List Int) (_s1_ : List Int) (k11 : Nat) (x52 : Int) : Option (Lr Unit (Sum Unit Unit)) :=
  xg (0 ≤ (k11 : Int) ∧ (k11 : Int) < (s2_.length : Int)) <| bif !decide (x52 = (el s2_ k11)) then (some (Lr.out (Sum.inr (())))) else (some (Lr.go ()))
noncomputable def x_slices_Equal_int_int_f0 (s2_ : List Int) (s1_ : List Int) (k11 : Nat) (_s53 : Unit) : Option (Lr Unit (Sum Unit Unit)) := x_slices_Equal_int_int_b0 s2_ s1_ k11 (el s1_ k11)
noncomputable def x_slices_Equal_int_int (s1_ : List Int) (s2_ : List Int) : Option Bool :=
  bif !decide ((s1_.length : Int) = (s2_.length : Int)) then (some false) else (Option.bind (eachN (x_slices_Equal_int_int_f0 s2_ s1_) (fun (_s53 : Unit) => (Sum.inl () : Sum Unit Unit)) s1_.length 0 ()) fun (y54 : Sum Unit Unit) => Sum.elim (fun _y55 => some true) (fun _y56 => some false) y54)
theorem ct_slices_Equal_int_int (w : World) (X S : Bs) (s1_ : List Int) (s_s1_ : Sv) (s2_ : List Int) (s_s2_ : Sv) (hS : ∀ b, S b → b < w.heap.size ∧ ¬ X b) (a_s1__0 : (cSl 1 fI s1_).rd S w s_s1_.v) (a_s2__0 : (cSl 1 fI s2_).rd S w s_s2_.v) (oL : Sep [] X w) {r : Bool} (hx : x_slices_Equal_int_int s1_ s2_ = some r) :
  Ret Try.prog 57 [s_s1_.v, s_s2_.v] w (fun u w' => ∃ _ : Unit, u = (.bool r) ∧ Gives X S w [] [] w') := by
 unfold x_slices_Equal_int_int at hx
 refine enter Try.func57 rfl Try.ntmps57 (by kernel_rfl) rfl ?_
 have hM := St.enter oL hS
 have hM := hM.addE (r := rV s_s1_.v (cSl 1 fI s1_)) a_s1__0
 have hM := hM.addE (r := rV s_s2_.v (cSl 1 fI s2_)) a_s2__0
 refine wc_sr ?_
 refine was rfl rfl ?_
 refine wl_sq ?_
 refine wc_seq ?_
 refine wc_sr ?_
 refine wmv rfl rfl ?_
 refine wv rfl (r_lenC Try.underlying22 rfl (hM.seeR (.tail _ (.head _)))) ?_
 refine wmv rfl rfl ?_
 refine wv rfl (r_lenC Try.underlying22 rfl (hM.seeR (.head _))) ?_
 refine wv rfl (r_neq rfl rfl) ?_
 refine wl_sq ?_
 refine wc_cond rfl (fun hc64 => ?_) (fun hc64 => ?_)
 ·
  replace hx := xif_t hc64 hx
  refine wc_sr ?_
  refine was rfl rfl ?_
  refine wl_sq ?_
  refine wc_ret ?_
  refine sq_ret ?_
  obtain rfl := Option.some.inj hx
  refine fin_ret [(.bool false)] ⟨rfl, trivial⟩ ?_
  replace hM := hM.t0
  have hM := hM.fewer rsN
  exact ⟨(), rfl, hM.gives⟩
 ·
  replace hx := xif_f hc64 hx
  refine wc_skip ?_
  refine sq_n ?_
  refine wc_seq ?_
  refine wc_sr ?_
  refine wmv rfl rfl ?_
  refine wv rfl (r_lenC Try.underlying22 rfl (hM.seeR (.tail _ (.head _)))) ?_
  refine wmv rfl rfl ?_
  refine wl_sq ?_
  refine wc_block ?_
  obtain ⟨y69, hx, hx70⟩ := bind_some' hx
  have hM := hM.fewer (rsC (.tail _ (.head _)) (rsC (.head _) rsN))
  replace hM : St ⟨w, X, S⟩ [] [rV s_s1_.v (cSl 1 fI s1_), rV s_s2_.v (cSl 1 fI s2_)] _ := hM
  have hl74 := Cs.le (hM.seeR (.head _))
  refine wc_loop (un fun (m71 : Nat) => fun (k72 : Nat) => [(0, s_s1_.v), (1, s_s2_.v), (12, (.int .i64 (s1_.length : Int))), (13, (.int .i64 (k72 : Int)))]) (un fun (m71 : Nat) => fun (k72 : Nat) w' => St ⟨w, X, S⟩ [] [rV s_s1_.v (cSl 1 fI s1_), rV s_s2_.v (cSl 1 fI s2_)] w' ∧ eachN _ _ m71 k72 () = some y69 ∧ k72 + m71 = s1_.length) (fun p => p.1) (s1_.length, 0) ⟨rfl, rfl, rfl, rfl, trivial⟩ ⟨hM, hx, Nat.zero_add _⟩ ?_
  rintro ⟨m71, k72⟩ w75 ⟨hM, hx, hk73⟩
  refine wc_sr ?_
  refine wv rfl (r_lss rfl rfl) ?_
  refine wl_sq ?_
  refine wc_seq ?_
  refine wc_cond rfl (fun hc77 => ?_) (fun hc77 => ?_)
  ·
   replace hc77 := of_decide_eq_true hc77
   obtain ⟨m78, z79, rfl, hk73, hx, hx80⟩ := eachN_step hx hk73 hc77
   unfold x_slices_Equal_int_int_f0 x_slices_Equal_int_int_b0 at hx
   try dsimp only at hx
   refine wc_skip ?_
   refine sq_n ?_
   refine wc_seq ?_
   refine wc_block ?_
   refine wc_sr ?_
   refine wmv rfl rfl ?_
   refine was rfl rfl ?_
   refine wl_sq ?_
   refine wc_seq ?_
   refine wc_draw [(0, 0), (1, 0), (2, 0), (3, 0), (4, 0), (5, 0), (6, 0), (7, 0), (8, 0)] Try_mixed (by kernel_rfl) rfl (by kernel_rfl) rfl ?_
   refine omv rfl rfl ?_
   refine omv rfl rfl ?_
   have hi86 : k72 < s1_.length := by omega
   refine ov rfl (fun w' h' => r_ixC Try.underlying22 sz3 rfl rfl ((hM.call h').seeR (.head _)) ⟨by omega, hc77⟩) ?_
   refine ov rfl (fun w' h' => r_ld Try.underlying3 rfl rfl (Cs.get (i := k72) (j := 0) ((hM.call h').seeR (.head _)) (fun _ => rfl) hi86 rfl)) ?_
   refine omv rfl rfl ?_
   refine omv rfl rfl ?_
   obtain ⟨hg92, hx⟩ := xg_some hx
   have hi91 : k72 < s2_.length := by omega
   refine ov rfl (fun w' h' => r_ixC Try.underlying22 sz3 rfl rfl ((hM.call h').seeR (.tail _ (.head _))) hg92) ?_
   refine ov rfl (fun w' h' => r_ld Try.underlying3 rfl rfl (Cs.get (i := k72) (j := 0) ((hM.call h').seeR (.tail _ (.head _))) (fun _ => rfl) hi91 rfl)) ?_
   refine ov rfl (fun w' h' => r_neq rfl rfl) ?_
   refine o_nilM hM fun w95 hM => ?_
   refine sq_n ?_
   refine wc_cond rfl (fun hc97 => ?_) (fun hc97 => ?_)
   ·
    replace hx := xif_t hc97 hx
    refine wc_sr ?_
    refine was rfl rfl ?_
    refine wl_sq ?_
    refine wc_ret ?_
    refine bk_ret ?_
    refine sq_ret ?_
    refine lp1_ret ?_
    obtain rfl := Option.some.inj hx
    obtain rfl := Option.some.inj hx80
    replace hx := hx70
    try dsimp only [Sum.elim_inl, Sum.elim_inr] at hx
    refine bk_ret ?_
    refine sq_ret ?_
    obtain rfl := Option.some.inj hx
    refine fin_ret [(.bool false)] ⟨rfl, trivial⟩ ?_
    replace hM := hM.t0
    have hM := hM.fewer rsN
    exact ⟨(), rfl, hM.gives⟩
   ·
    replace hx := xif_f hc97 hx
    refine wc_skip ?_
    refine bk_n ?_
    refine sq_n ?_
    refine wc_region ?_
    refine wv rfl (r_add rfl rfl ⟨by omega, by omega⟩) ?_
    refine wmv rfl rfl ?_
    refine wl_nil ?_
    obtain rfl := Option.some.inj hx
    exact lp_end (m78, k72 + 1) (Nat.lt_succ_self _) ⟨rfl, rfl, rfl, rfl, trivial⟩ ⟨hM, hx80, hk73⟩
  ·
   replace hc77 := of_decide_eq_false hc77
   obtain rfl := eachN_end hx hk73 hc77
   refine wc_exit ?_
   refine sq_exit ?_
   refine lp1_exit ?_
   replace hx := hx70
   try dsimp only [Sum.elim_inl, Sum.elim_inr] at hx
   refine bk_here ?_
   refine sq_n ?_
   refine wc_sr ?_
   refine was rfl rfl ?_
   refine wl_sq ?_
   refine wc_ret ?_
   obtain rfl := Option.some.inj hx
   refine fin_ret [(.bool true)] ⟨rfl, trivial⟩ ?_
   replace hM := hM.t0
   have hM := hM.fewer rsN
   exact ⟨(), rfl, hM.gives⟩

noncomputable def x_impl_SignsSame (a : List Int) (b : List Int) : Option Bool :=
  Option.bind (x_slices_Equal_int_int a b) fun r4 => some r4
theorem ct_impl_SignsSame (w : World) (X S : Bs) (a : List Int) (s_a : Sv) (b : List Int) (s_b : Sv) (hS : ∀ b, S b → b < w.heap.size ∧ ¬ X b) (a_a_0 : (cSl 1 fI a).rd S w s_a.v) (a_b_0 : (cSl 1 fI b).rd S w s_b.v) (oL : Sep [] X w) {r : Bool} (hx : x_impl_SignsSame a b = some r) :
  Ret Try.prog 21 [s_a.v, s_b.v] w (fun u w' => ∃ _ : Unit, u = (.bool r) ∧ Gives X S w [] [] w') := by
 unfold x_impl_SignsSame at hx
 refine enter Try.func21 rfl Try.ntmps21 (by kernel_rfl) rfl ?_
 have hM := St.enter oL hS
 have hM := hM.addE (r := rV s_a.v (cSl 1 fI a)) a_a_0
 have hM := hM.addE (r := rV s_b.v (cSl 1 fI b)) a_b_0
 refine wc_sr ?_
 refine was rfl rfl ?_
 refine wl_sq ?_
 refine wc_sr ?_
 refine wmv rfl rfl ?_
 refine wmv rfl rfl ?_
 obtain ⟨r12, h13, hx⟩ := bind_some' hx
 refine w_call rfl rfl (hM.callV fun X S oL hS hR hO => ct_slices_Equal_int_int _ X S a s_a b s_b hS (hR _ (.tail _ (.head _))) (hR _ (.head _)) oL h13) ?_
 rintro _ w14 ⟨rfl, hR15⟩
 have hM := hM.call hR15
 refine was rfl rfl ?_
 refine wl_sq ?_
 refine wc_ret ?_
 obtain rfl := Option.some.inj hx
 refine fin_ret [(.bool r12)] ⟨rfl, trivial⟩ ?_
 replace hM := hM.t0
 have hM := hM.fewer rsN
 exact ⟨(), rfl, hM.gives⟩

noncomputable def x_spec_l02Flush (b : DL02B) : Option DL02B :=
  bif decide ((0 : Int) < (b.put.length : Int)) then (xg (b.list.length + [(⟨2, 0, b.put⟩ : DPart)].length ≤ 1099511627776) <| bif decide ((0 : Int) < b.drop) then (xg ((b.list ++ [(⟨2, 0, b.put⟩ : DPart)]).length + [(⟨3, b.drop, []⟩ : DPart)].length ≤ 1099511627776) <| some (⟨(b.list ++ [(⟨2, 0, b.put⟩ : DPart)]) ++ [(⟨3, b.drop, []⟩ : DPart)], [], 0⟩ : DL02B)) else (some (⟨b.list ++ [(⟨2, 0, b.put⟩ : DPart)], [], 0⟩ : DL02B))) else (bif decide ((0 : Int) < b.drop) then (xg (b.list.length + [(⟨3, b.drop, []⟩ : DPart)].length ≤ 1099511627776) <| some (⟨b.list ++ [(⟨3, b.drop, []⟩ : DPart)], [], 0⟩ : DL02B)) else (some (⟨b.list, [], 0⟩ : DL02B)))
theorem ct_spec_l02Flush (w : World) (X S : Bs) (b_b : Nat) (b : DL02B) (s_b_0 : Sv) (s_b_1 : Sv) (hS : ∀ b, S b → b < w.heap.size ∧ ¬ X b)  (oL : Sep [oBox b_b #[s_b_0.v, s_b_1.v, (.int .i64 b.drop)] 106, oC (cSl 3 fDPart b.list) s_b_0.v, oC (cSl 1 fI b.put) s_b_1.v] X w) {r : DL02B} (hx : x_spec_l02Flush b = some r) :
  Ret Try.prog 100 [(.pointer (some ⟨b_b, 0, none⟩))] w (fun u w' => ∃ y : Sv × Sv, u = .tuple #[] ∧ Gives X S w [oBox b_b #[y.1.v, y.2.v, (.int .i64 r.drop)] 106, oC (cSl 3 fDPart r.list) y.1.v, oC (cSl 1 fI r.put) y.2.v] [] w') := by
 unfold x_spec_l02Flush at hx
 refine enter Try.func100 rfl Try.ntmps100 (by kernel_rfl) rfl ?_
 have hM := St.enter oL hS
 refine wc_seq ?_
 refine wc_sr ?_
 refine wmv rfl rfl ?_
 refine wv rfl (r_nilck rfl) ?_
 refine wv rfl (r_fld Try.underlying106 rfl rfl sz22 rfl) ?_
 refine wv rfl (r_ldB Try.underlying22 rfl rfl hM (.head _) rfl) ?_
 refine wv rfl (r_lenC Try.underlying22 rfl (hM.seeO (.tail _ (.tail _ (.head _))))) ?_
 refine wv rfl (r_gtr rfl rfl) ?_
 refine wl_sq ?_
 refine wc_cond rfl (fun hc156 => ?_) (fun hc156 => ?_)
 ·
  replace hx := xif_t hc156 hx
  refine wc_draw [(0, 0), (1, 0), (2, 0), (3, 0), (4, 0), (5, 0), (6, 0), (7, 0), (8, 0), (9, 0), (10, 1), (11, 2), (12, 0), (13, 0), (14, 2)] Try_mixed (by kernel_rfl) rfl (by kernel_rfl) rfl ?_
  refine omv rfl rfl ?_
  refine omv rfl rfl ?_
  refine ov rfl (fun w' h' => r_nilck rfl) ?_
  refine ov rfl (fun w' h' => r_fld Try.underlying106 rfl rfl sz23 rfl) ?_
  refine ov rfl (fun w' h' => r_ldB Try.underlying23 rfl rfl (hM.call h') (.head _) rfl) ?_
  refine omv rfl rfl ?_
  refine ov rfl (fun w' h' => r_nilck rfl) ?_
  refine ov rfl (fun w' h' => r_fld Try.underlying106 rfl rfl sz22 rfl) ?_
  refine ov rfl (fun w' h' => r_ldB Try.underlying22 rfl rfl (hM.call h') (.head _) rfl) ?_
  refine ov rfl (fun w' h' => r_build (cells := #[(.int .i64 2), (.int .i64 0), s_b_1.v]) rfl (by kernel_rfl)) ?_
  replace hM := hM.p2
  refine o_ex1 rfl fun w170 h171 => ?_
  have hM := hM.call h171
  refine x_lit (f := fDPart) (own := [oC (cSl 1 fI b.put) s_b_1.v]) [(⟨2, 0, b.put⟩ : DPart)] [(.int .i64 2), (.int .i64 0), s_b_1.v] 1 Try.underlying23 sz67 (fun _ => rfl) rfl rfl rfl rfl rfl (by kernel_rfl) (fun _ => zP (pV _ rfl) (zP (pV _ rfl) (zO zN))) hM ?_; intro s168 w167 hR169 hM
  refine ⟨hR169, ?_⟩
  replace hM := hM.p2
  obtain ⟨hg175, hx⟩ := xg_some hx
  refine o_ex rfl fun w177 h178 => ?_
  have hM := hM.call h178
  refine x_appendO Try.underlying23 sz67 rfl rfl hM hg175 rfl ?_; intro s174 w173 hM
  refine ov rfl (fun w' h' => r_nilck rfl) ?_
  refine ov rfl (fun w' h' => r_fld Try.underlying106 rfl rfl sz23 rfl) ?_
  replace hM := hM.p1
  refine o_exu fun w183 h184 => ?_
  have hM := hM.call h184
  refine x_stB #[s174.v, s_b_1.v, (.int .i64 b.drop)] sz23 rfl rfl rfl rfl rfl rfl hM ?_; intro w181 hM
  refine o_nilM hM fun w185 hM => ?_
  refine sq_n ?_
  refine wc_seq ?_
  refine wc_sr ?_
  refine wmv rfl rfl ?_
  refine wv rfl (r_nilck rfl) ?_
  refine wv rfl (r_fld Try.underlying106 rfl rfl sz3 rfl) ?_
  refine wv rfl (r_ldB Try.underlying3 rfl rfl hM (.head _) rfl) ?_
  refine wv rfl (r_gtr rfl rfl) ?_
  refine wl_sq ?_
  refine wc_cond rfl (fun hc192 => ?_) (fun hc192 => ?_)
  ·
   replace hx := xif_t hc192 hx
   refine wc_draw [(0, 0), (1, 0), (2, 0), (3, 0), (4, 0), (5, 0), (6, 0), (7, 0), (8, 0), (9, 0), (10, 1), (11, 2), (12, 0), (13, 0), (14, 2)] Try_mixed (by kernel_rfl) rfl (by kernel_rfl) rfl ?_
   refine omv rfl rfl ?_
   refine omv rfl rfl ?_
   refine ov rfl (fun w' h' => r_nilck rfl) ?_
   refine ov rfl (fun w' h' => r_fld Try.underlying106 rfl rfl sz23 rfl) ?_
   refine ov rfl (fun w' h' => r_ldB Try.underlying23 rfl rfl (hM.call h') (.head _) rfl) ?_
   refine omv rfl rfl ?_
   refine ov rfl (fun w' h' => r_nilck rfl) ?_
   refine ov rfl (fun w' h' => r_fld Try.underlying106 rfl rfl sz3 rfl) ?_
   refine ov rfl (fun w' h' => r_ldB Try.underlying3 rfl rfl (hM.call h') (.head _) rfl) ?_
   refine ov rfl (fun w' h' => r_build (cells := #[(.int .i64 3), (.int .i64 b.drop), (.slice none 0 0)]) rfl (by kernel_rfl)) ?_
   refine o_ex1 rfl fun w206 h207 => ?_
   have hM := hM.call h207
   refine x_lit (f := fDPart) (own := []) [(⟨3, b.drop, []⟩ : DPart)] [(.int .i64 3), (.int .i64 b.drop), (.slice none 0 0)] 1 Try.underlying23 sz67 (fun _ => rfl) rfl rfl rfl rfl rfl (by kernel_rfl) (fun _ => zP (pV _ rfl) (zP (pV _ rfl) (zP (pN _ _) zN))) hM ?_; intro s204 w203 hR205 hM
   refine ⟨hR205, ?_⟩
   replace hM := hM.p2
   obtain ⟨hg211, hx⟩ := xg_some hx
   refine o_ex rfl fun w213 h214 => ?_
   have hM := hM.call h214
   refine x_appendO Try.underlying23 sz67 rfl rfl hM hg211 rfl ?_; intro s210 w209 hM
   refine ov rfl (fun w' h' => r_nilck rfl) ?_
   refine ov rfl (fun w' h' => r_fld Try.underlying106 rfl rfl sz23 rfl) ?_
   replace hM := hM.p1
   refine o_exu fun w219 h220 => ?_
   have hM := hM.call h220
   refine x_stB #[s210.v, s_b_1.v, (.int .i64 b.drop)] sz23 rfl rfl rfl rfl rfl rfl hM ?_; intro w217 hM
   refine o_nilM hM fun w221 hM => ?_
   refine sq_n ?_
   refine wc_sr ?_
   refine wmv rfl rfl ?_
   refine wv rfl (r_nilck rfl) ?_
   refine wv rfl (r_fld Try.underlying106 rfl rfl sz22 rfl) ?_
   refine w_exu (x_stB #[s210.v, (.slice none 0 0), (.int .i64 b.drop)] sz22 rfl rfl rfl rfl rfl rfl hM ?_); intro w226 hM
   refine wl_sq ?_
   refine wc_region ?_
   refine wmv rfl rfl ?_
   refine wv rfl (r_nilck rfl) ?_
   refine wv rfl (r_fld Try.underlying106 rfl rfl sz3 rfl) ?_
   refine w_exu (x_stB #[s210.v, (.slice none 0 0), (.int .i64 0)] sz3 rfl rfl rfl rfl rfl rfl hM ?_); intro w231 hM
   refine wl_nil ?_
   obtain rfl := Option.some.inj hx
   have hM := hM.nil0 (T := Int) 1 fI
   refine fin_end [] trivial ?_
   replace hM := hM.p2.p2
   replace hM := hM.t3
   have hM := hM.fewer rsN
   exact ⟨(s210, nS), rfl, hM.gives⟩
  ·
   replace hx := xif_f hc192 hx
   refine wc_skip ?_
   refine sq_n ?_
   refine wc_sr ?_
   refine wmv rfl rfl ?_
   refine wv rfl (r_nilck rfl) ?_
   refine wv rfl (r_fld Try.underlying106 rfl rfl sz22 rfl) ?_
   refine w_exu (x_stB #[s174.v, (.slice none 0 0), (.int .i64 b.drop)] sz22 rfl rfl rfl rfl rfl rfl hM ?_); intro w237 hM
   refine wl_sq ?_
   refine wc_region ?_
   refine wmv rfl rfl ?_
   refine wv rfl (r_nilck rfl) ?_
   refine wv rfl (r_fld Try.underlying106 rfl rfl sz3 rfl) ?_
   refine w_exu (x_stB #[s174.v, (.slice none 0 0), (.int .i64 0)] sz3 rfl rfl rfl rfl rfl rfl hM ?_); intro w242 hM
   refine wl_nil ?_
   obtain rfl := Option.some.inj hx
   have hM := hM.nil0 (T := Int) 1 fI
   refine fin_end [] trivial ?_
   replace hM := hM.p2.p2
   replace hM := hM.t3
   have hM := hM.fewer rsN
   exact ⟨(s174, nS), rfl, hM.gives⟩
 ·
  replace hx := xif_f hc156 hx
  refine wc_skip ?_
  refine sq_n ?_
  refine wc_seq ?_
  refine wc_sr ?_
  refine wmv rfl rfl ?_
  refine wv rfl (r_nilck rfl) ?_
  refine wv rfl (r_fld Try.underlying106 rfl rfl sz3 rfl) ?_
  refine wv rfl (r_ldB Try.underlying3 rfl rfl hM (.head _) rfl) ?_
  refine wv rfl (r_gtr rfl rfl) ?_
  refine wl_sq ?_
  refine wc_cond rfl (fun hc250 => ?_) (fun hc250 => ?_)
  ·
   replace hx := xif_t hc250 hx
   refine wc_draw [(0, 0), (1, 0), (2, 0), (3, 0), (4, 0), (5, 0), (6, 0), (7, 0), (8, 0), (9, 0), (10, 1), (11, 2), (12, 0), (13, 0), (14, 2)] Try_mixed (by kernel_rfl) rfl (by kernel_rfl) rfl ?_
   refine omv rfl rfl ?_
   refine omv rfl rfl ?_
   refine ov rfl (fun w' h' => r_nilck rfl) ?_
   refine ov rfl (fun w' h' => r_fld Try.underlying106 rfl rfl sz23 rfl) ?_
   refine ov rfl (fun w' h' => r_ldB Try.underlying23 rfl rfl (hM.call h') (.head _) rfl) ?_
   refine omv rfl rfl ?_
   refine ov rfl (fun w' h' => r_nilck rfl) ?_
   refine ov rfl (fun w' h' => r_fld Try.underlying106 rfl rfl sz3 rfl) ?_
   refine ov rfl (fun w' h' => r_ldB Try.underlying3 rfl rfl (hM.call h') (.head _) rfl) ?_
   refine ov rfl (fun w' h' => r_build (cells := #[(.int .i64 3), (.int .i64 b.drop), (.slice none 0 0)]) rfl (by kernel_rfl)) ?_
   refine o_ex1 rfl fun w264 h265 => ?_
   have hM := hM.call h265
   refine x_lit (f := fDPart) (own := []) [(⟨3, b.drop, []⟩ : DPart)] [(.int .i64 3), (.int .i64 b.drop), (.slice none 0 0)] 1 Try.underlying23 sz67 (fun _ => rfl) rfl rfl rfl rfl rfl (by kernel_rfl) (fun _ => zP (pV _ rfl) (zP (pV _ rfl) (zP (pN _ _) zN))) hM ?_; intro s262 w261 hR263 hM
   refine ⟨hR263, ?_⟩
   replace hM := hM.p2
   obtain ⟨hg269, hx⟩ := xg_some hx
   refine o_ex rfl fun w271 h272 => ?_
   have hM := hM.call h272
   refine x_appendO Try.underlying23 sz67 rfl rfl hM hg269 rfl ?_; intro s268 w267 hM
   refine ov rfl (fun w' h' => r_nilck rfl) ?_
   refine ov rfl (fun w' h' => r_fld Try.underlying106 rfl rfl sz23 rfl) ?_
   replace hM := hM.p1
   refine o_exu fun w277 h278 => ?_
   have hM := hM.call h278
   refine x_stB #[s268.v, s_b_1.v, (.int .i64 b.drop)] sz23 rfl rfl rfl rfl rfl rfl hM ?_; intro w275 hM
   refine o_nilM hM fun w279 hM => ?_
   refine sq_n ?_
   refine wc_sr ?_
   refine wmv rfl rfl ?_
   refine wv rfl (r_nilck rfl) ?_
   refine wv rfl (r_fld Try.underlying106 rfl rfl sz22 rfl) ?_
   refine w_exu (x_stB #[s268.v, (.slice none 0 0), (.int .i64 b.drop)] sz22 rfl rfl rfl rfl rfl rfl hM ?_); intro w284 hM
   refine wl_sq ?_
   refine wc_region ?_
   refine wmv rfl rfl ?_
   refine wv rfl (r_nilck rfl) ?_
   refine wv rfl (r_fld Try.underlying106 rfl rfl sz3 rfl) ?_
   refine w_exu (x_stB #[s268.v, (.slice none 0 0), (.int .i64 0)] sz3 rfl rfl rfl rfl rfl rfl hM ?_); intro w289 hM
   refine wl_nil ?_
   obtain rfl := Option.some.inj hx
   have hM := hM.nil0 (T := Int) 1 fI
   refine fin_end [] trivial ?_
   replace hM := hM.p2.p2
   replace hM := hM.t3
   have hM := hM.fewer rsN
   exact ⟨(s268, nS), rfl, hM.gives⟩
  ·
   replace hx := xif_f hc250 hx
   refine wc_skip ?_
   refine sq_n ?_
   refine wc_sr ?_
   refine wmv rfl rfl ?_
   refine wv rfl (r_nilck rfl) ?_
   refine wv rfl (r_fld Try.underlying106 rfl rfl sz22 rfl) ?_
   refine w_exu (x_stB #[s_b_0.v, (.slice none 0 0), (.int .i64 b.drop)] sz22 rfl rfl rfl rfl rfl rfl hM ?_); intro w295 hM
   refine wl_sq ?_
   refine wc_region ?_
   refine wmv rfl rfl ?_
   refine wv rfl (r_nilck rfl) ?_
   refine wv rfl (r_fld Try.underlying106 rfl rfl sz3 rfl) ?_
   refine w_exu (x_stB #[s_b_0.v, (.slice none 0 0), (.int .i64 0)] sz3 rfl rfl rfl rfl rfl rfl hM ?_); intro w300 hM
   refine wl_nil ?_
   obtain rfl := Option.some.inj hx
   have hM := hM.nil0 (T := Int) 1 fI
   refine fin_end [] trivial ?_
   replace hM := hM.p2.p2
   replace hM := hM.t3
   have hM := hM.fewer rsN
   exact ⟨(s_b_0, nS), rfl, hM.gives⟩

noncomputable def x_spec_l02Done (b : DL02B) : Option (List DPart × DL02B) :=
  Option.bind (x_spec_l02Flush b) fun r6 => some (r6.list, r6)
theorem ct_spec_l02Done (w : World) (X S : Bs) (b_b : Nat) (b : DL02B) (s_b_0 : Sv) (s_b_1 : Sv) (hS : ∀ b, S b → b < w.heap.size ∧ ¬ X b)  (oL : Sep [oBox b_b #[s_b_0.v, s_b_1.v, (.int .i64 b.drop)] 106, oC (cSl 3 fDPart b.list) s_b_0.v, oC (cSl 1 fI b.put) s_b_1.v] X w) {r : List DPart × DL02B} (hx : x_spec_l02Done b = some r) :
  Ret Try.prog 91 [(.pointer (some ⟨b_b, 0, none⟩))] w (fun u w' => ∃ y : Sv × Sv × Sv, u = y.1.v ∧ Gives X S w [oC (cSl 3 fDPart r.1) y.1.v, oBox b_b #[y.2.1.v, y.2.2.v, (.int .i64 r.2.drop)] 106, oC (cSl 1 fI r.2.put) y.2.2.v] [] w') := by
 unfold x_spec_l02Done at hx
 refine enter Try.func91 rfl Try.ntmps91 (by kernel_rfl) rfl ?_
 have hM := St.enter oL hS
 refine wc_sr ?_
 refine was rfl rfl ?_
 refine wl_sq ?_
 refine wc_sr ?_
 refine wmv rfl rfl ?_
 obtain ⟨r18, h19, hx⟩ := bind_some' hx
 refine w_call rfl rfl (hM.callO (l := [oBox b_b #[s_b_0.v, s_b_1.v, (.int .i64 b.drop)] 106, oC (cSl 3 fDPart b.list) s_b_0.v, oC (cSl 1 fI b.put) s_b_1.v]) fun X S oL hS hR hO => ct_spec_l02Flush _ X S b_b b s_b_0 s_b_1 hS  oL h19) ?_
 rintro _ w20 ⟨⟨s21, s22⟩, rfl, hM⟩
 dsimp only [List.cons_append, List.nil_append] at hM
 refine wl_sq ?_
 refine wc_sr ?_
 refine wmv rfl rfl ?_
 refine wv rfl (r_nilck rfl) ?_
 refine wv rfl (r_fld Try.underlying106 rfl rfl sz23 rfl) ?_
 refine wv rfl (r_ldB Try.underlying23 rfl rfl hM (.head _) rfl) ?_
 refine was rfl rfl ?_
 refine wl_sq ?_
 refine wc_ret ?_
 obtain rfl := Option.some.inj hx
 refine fin_ret [s21.v] ⟨rfl, trivial⟩ ?_
 replace hM := hM.p2.p1.p2
 replace hM := hM.t3
 have hM := hM.fewer rsN
 exact ⟨(s21, s21, s22), rfl, hM.gives⟩

noncomputable def x_spec_l02Keep (b : DL02B) (n : Int) : Option DL02B :=
  bif decide (n = 0) then (some b) else (Option.bind (x_spec_l02Flush b) fun r7 => Option.bind (bif decide ((0 : Int) < (r7.list.length : Int)) then (xg (inI ((r7.list.length : Int) - 1)) <| xg (0 ≤ ((r7.list.length : Int) - 1) ∧ ((r7.list.length : Int) - 1) < (r7.list.length : Int)) <| some (decide (((el r7.list (((r7.list.length : Int) - 1).toNat)).kind) = 1))) else (some false)) fun c21 => bif c21 then (xg (inI ((r7.list.length : Int) - 1)) <| xg (inI ((r7.list.length : Int) - 1)) <| xg (0 ≤ ((r7.list.length : Int) - 1) ∧ ((r7.list.length : Int) - 1) < (r7.list.length : Int)) <| xg (inI (((el r7.list (((r7.list.length : Int) - 1).toNat)).n) + n)) <| xg (0 ≤ ((r7.list.length : Int) - 1) ∧ ((r7.list.length : Int) - 1) < (r7.list.length : Int)) <| some (⟨r7.list.set (((r7.list.length : Int) - 1).toNat) (⟨(el r7.list (((r7.list.length : Int) - 1).toNat)).kind, ((el r7.list (((r7.list.length : Int) - 1).toNat)).n) + n, (el r7.list (((r7.list.length : Int) - 1).toNat)).signs⟩ : DPart), r7.put, r7.drop⟩ : DL02B)) else (xg (r7.list.length < 1099511627776) <| some (⟨r7.list ++ [(⟨1, n, []⟩ : DPart)], r7.put, r7.drop⟩ : DL02B)))
theorem ct_spec_l02Keep (w : World) (X S : Bs) (b_b : Nat) (b : DL02B) (s_b_0 : Sv) (s_b_1 : Sv) (n : Int) (hS : ∀ b, S b → b < w.heap.size ∧ ¬ X b)  (oL : Sep [oBox b_b #[s_b_0.v, s_b_1.v, (.int .i64 b.drop)] 106, oC (cSl 3 fDPart b.list) s_b_0.v, oC (cSl 1 fI b.put) s_b_1.v] X w) {r : DL02B} (hx : x_spec_l02Keep b n = some r) :
  Ret Try.prog 88 [(.pointer (some ⟨b_b, 0, none⟩)), (.int .i64 n)] w (fun u w' => ∃ y : Sv × Sv, u = .tuple #[] ∧ Gives X S w [oBox b_b #[y.1.v, y.2.v, (.int .i64 r.drop)] 106, oC (cSl 3 fDPart r.list) y.1.v, oC (cSl 1 fI r.put) y.2.v] [] w') := by
 unfold x_spec_l02Keep at hx
 refine enter Try.func88 rfl Try.ntmps88 (by kernel_rfl) rfl ?_
 have hM := St.enter oL hS
 refine wc_seq ?_
 refine wc_sr ?_
 refine wmv rfl rfl ?_
 refine wv rfl (r_eql rfl rfl) ?_
 refine wl_sq ?_
 refine wc_cond rfl (fun hc98 => ?_) (fun hc98 => ?_)
 ·
  replace hx := xif_t hc98 hx
  refine wc_ret ?_
  refine sq_ret ?_
  obtain rfl := Option.some.inj hx
  refine fin_ret [] trivial ?_
  replace hM := hM.t3
  have hM := hM.fewer rsN
  exact ⟨(s_b_0, s_b_1), rfl, hM.gives⟩
 ·
  replace hx := xif_f hc98 hx
  refine wc_skip ?_
  refine sq_n ?_
  refine wc_sr ?_
  refine wmv rfl rfl ?_
  obtain ⟨r100, h101, hx⟩ := bind_some' hx
  refine w_call rfl rfl (hM.callO (l := [oBox b_b #[s_b_0.v, s_b_1.v, (.int .i64 b.drop)] 106, oC (cSl 3 fDPart b.list) s_b_0.v, oC (cSl 1 fI b.put) s_b_1.v]) fun X S oL hS hR hO => ct_spec_l02Flush _ X S b_b b s_b_0 s_b_1 hS  oL h101) ?_
  rintro _ w102 ⟨⟨s103, s104⟩, rfl, hM⟩
  dsimp only [List.cons_append, List.nil_append] at hM
  refine wl_sq ?_
  refine wc_sr ?_
  refine wmv rfl rfl ?_
  refine wv rfl (r_nilck rfl) ?_
  refine wv rfl (r_fld Try.underlying106 rfl rfl sz23 rfl) ?_
  refine wv rfl (r_ldB Try.underlying23 rfl rfl hM (.head _) rfl) ?_
  refine wv rfl (r_lenC Try.underlying23 rfl (hM.seeO (.tail _ (.head _)))) ?_
  refine was rfl rfl ?_
  refine wl_sq ?_
  refine wc_seq ?_
  refine wc_sr ?_
  refine wmv rfl rfl ?_
  refine wv rfl (r_gtr rfl rfl) ?_
  refine wmv rfl rfl ?_
  obtain ⟨c114, hx, hx129⟩ := bind_some' hx
  refine wl_mid 11 (fun _ : Unit => [(27, (.bool c114)), (0, (.pointer (some ⟨b_b, 0, none⟩))), (1, (.int .i64 n)), (4, (.int .i64 (r100.list.length : Int)))]) (fun _ w' => St ⟨w, X, S⟩ [oBox b_b #[s103.v, s104.v, (.int .i64 r100.drop)] 106, oC (cSl 3 fDPart r100.list) s103.v, oC (cSl 1 fI r100.put) s104.v] [] w') ?_ ?_
  ·
   rcases Bool.eq_false_or_eq_true (decide ((0 : Int) < (r100.list.length : Int))) with hg115 | hg115
   ·
    replace hx := xif_t hg115 hx
    refine gv rfl hg115 rfl (r_move rfl) ?_
    refine gv rfl hg115 rfl (r_nilck rfl) ?_
    refine gv rfl hg115 rfl (r_fld Try.underlying106 rfl rfl sz23 rfl) ?_
    refine gv rfl hg115 rfl (r_ldB Try.underlying23 rfl rfl hM (.head _) rfl) ?_
    refine gv rfl hg115 rfl (r_move rfl) ?_
    obtain ⟨hg136, hx⟩ := xg_some hx
    refine gv rfl hg115 rfl (r_sub rfl rfl hg136) ?_
    obtain ⟨hg139, hx⟩ := xg_some hx
    have hi138 : (((r100.list.length : Int) - 1).toNat) < r100.list.length := by omega
    refine gv rfl hg115 rfl (r_ixC Try.underlying23 sz67 rfl rfl (hM.seeO (.tail _ (.head _))) hg139) ?_
    refine gv rfl hg115 rfl (r_fldC (i := (((r100.list.length : Int) - 1).toNat)) Try.underlying67 rfl rfl sz3 rfl (hM.seeO (.tail _ (.head _))) hi138) ?_
    refine gv rfl hg115 rfl (r_ld Try.underlying3 rfl rfl (Cs.get (i := (((r100.list.length : Int) - 1).toNat)) (j := 0) (hM.seeO (.tail _ (.head _))) (fun _ => rfl) hi138 rfl)) ?_
    refine gv rfl hg115 rfl (r_eql rfl rfl) ?_
    refine wv rfl (p_t rfl hg115 rfl) ?_
    obtain rfl := Option.some.inj hx
    exact mid_nil () ⟨rfl, rfl, rfl, rfl, trivial⟩ hM
   ·
    replace hx := xif_f hg115 hx
    refine gs rfl (isB_no hg115) rfl ?_
    refine gs rfl (isB_no hg115) rfl ?_
    refine gs rfl (isB_no hg115) rfl ?_
    refine gs rfl (isB_no hg115) rfl ?_
    refine gs rfl (isB_no hg115) rfl ?_
    refine gs rfl (isB_no hg115) rfl ?_
    refine gs rfl (isB_no hg115) rfl ?_
    refine gs rfl (isB_no hg115) rfl ?_
    refine gs rfl (isB_no hg115) rfl ?_
    refine gs rfl (isB_no hg115) rfl ?_
    refine wv rfl (p_f rfl hg115 rfl) ?_
    obtain rfl := Option.some.inj hx
    exact mid_nil () ⟨rfl, rfl, rfl, rfl, trivial⟩ hM
  rintro _ w143 hM
  replace hx := hx129
  refine wl_sq ?_
  refine wc_cond rfl (fun hc144 => ?_) (fun hc144 => ?_)
  ·
   replace hx := xif_t hc144 hx
   refine wc_seq ?_
   refine wc_draw [(0, 0), (1, 0), (2, 0), (3, 0), (4, 0), (5, 0), (6, 0), (7, 0), (8, 0), (9, 0), (10, 0), (11, 0), (12, 0), (13, 0), (14, 0), (15, 0), (16, 0), (17, 0), (18, 0), (19, 2)] Try_mixed (by kernel_rfl) rfl (by kernel_rfl) rfl ?_
   refine omv rfl rfl ?_
   refine ov rfl (fun w' h' => r_nilck rfl) ?_
   refine ov rfl (fun w' h' => r_fld Try.underlying106 rfl rfl sz23 rfl) ?_
   refine ov rfl (fun w' h' => r_ldB Try.underlying23 rfl rfl (hM.call h') (.head _) rfl) ?_
   refine omv rfl rfl ?_
   obtain ⟨hg151, hx⟩ := xg_some hx
   refine ov rfl (fun w' h' => r_sub rfl rfl hg151) ?_
   refine omv rfl rfl ?_
   refine ov rfl (fun w' h' => r_nilck rfl) ?_
   refine ov rfl (fun w' h' => r_fld Try.underlying106 rfl rfl sz23 rfl) ?_
   refine ov rfl (fun w' h' => r_ldB Try.underlying23 rfl rfl (hM.call h') (.head _) rfl) ?_
   refine omv rfl rfl ?_
   obtain ⟨hg158, hx⟩ := xg_some hx
   refine ov rfl (fun w' h' => r_sub rfl rfl hg158) ?_
   obtain ⟨hg161, hx⟩ := xg_some hx
   have hi160 : (((r100.list.length : Int) - 1).toNat) < r100.list.length := by omega
   refine ov rfl (fun w' h' => r_ixC Try.underlying23 sz67 rfl rfl ((hM.call h').seeO (.tail _ (.head _))) hg161) ?_
   refine ov rfl (fun w' h' => r_fldC (i := (((r100.list.length : Int) - 1).toNat)) Try.underlying67 rfl rfl sz3 rfl ((hM.call h').seeO (.tail _ (.head _))) hi160) ?_
   refine ov rfl (fun w' h' => r_ld Try.underlying3 rfl rfl (Cs.get (i := (((r100.list.length : Int) - 1).toNat)) (j := 1) ((hM.call h').seeO (.tail _ (.head _))) (fun _ => rfl) hi160 rfl)) ?_
   refine omv rfl rfl ?_
   obtain ⟨hg166, hx⟩ := xg_some hx
   refine ov rfl (fun w' h' => r_add rfl rfl hg166) ?_
   obtain ⟨hg169, hx⟩ := xg_some hx
   have hi168 : (((r100.list.length : Int) - 1).toNat) < r100.list.length := by omega
   refine ov rfl (fun w' h' => r_ixC Try.underlying23 sz67 rfl rfl ((hM.call h').seeO (.tail _ (.head _))) hg169) ?_
   refine ov rfl (fun w' h' => r_fldC (i := (((r100.list.length : Int) - 1).toNat)) Try.underlying67 rfl rfl sz3 rfl ((hM.call h').seeO (.tail _ (.head _))) hi168) ?_
   replace hM := hM.p1
   refine o_exu fun w173 h174 => ?_
   have hM := hM.call h174
   refine x_stE (f := fDPart) (k := 3) (L := r100.list) (i := (((r100.list.length : Int) - 1).toNat)) (j := 1) (⟨(el r100.list (((r100.list.length : Int) - 1).toNat)).kind, ((el r100.list (((r100.list.length : Int) - 1).toNat)).n) + n, (el r100.list (((r100.list.length : Int) - 1).toNat)).signs⟩ : DPart) [cI (((el r100.list (((r100.list.length : Int) - 1).toNat)).n) + n)] sz3 (fun _ => rfl) rfl rfl hi168 rfl rfl rfl rfl rfl (fun _ => zP (pV _ rfl) zN) hM ?_; intro w171 hM
   refine o_nilM hM fun w175 hM => ?_
   refine sq_n ?_
   refine wc_ret ?_
   refine sq_ret ?_
   obtain rfl := Option.some.inj hx
   refine fin_ret [] trivial ?_
   replace hM := hM.p2.p1.p2
   replace hM := hM.t3
   have hM := hM.fewer rsN
   exact ⟨(s103, s104), rfl, hM.gives⟩
  ·
   replace hx := xif_f hc144 hx
   refine wc_skip ?_
   refine sq_n ?_
   refine wc_region ?_
   refine wmv rfl rfl ?_
   refine wmv rfl rfl ?_
   refine wv rfl (r_nilck rfl) ?_
   refine wv rfl (r_fld Try.underlying106 rfl rfl sz23 rfl) ?_
   refine wv rfl (r_ldB Try.underlying23 rfl rfl hM (.head _) rfl) ?_
   refine wmv rfl rfl ?_
   refine wv rfl (r_build (cells := #[(.int .i64 1), (.int .i64 n), (.slice none 0 0)]) rfl (by kernel_rfl)) ?_
   replace hM := hM.p1
   obtain ⟨hg187, hx⟩ := xg_some hx
   refine w_push (f := fDPart) (⟨1, n, []⟩ : DPart) rfl rfl Try.underlying23 sz67 rfl rfl rfl rfl (fun _ => rfl) hM (fun _ => zP (pV _ rfl) (zP (pV _ rfl) (zP (pN _ _) zN))) rfl hg187 rfl ?_; intro u185 s186 w184 hM
   refine wv rfl (r_nilck rfl) ?_
   refine wv rfl (r_fld Try.underlying106 rfl rfl sz23 rfl) ?_
   replace hM := hM.p1
   refine w_exu (x_stB #[s186.v, s104.v, (.int .i64 r100.drop)] sz23 rfl rfl rfl rfl rfl rfl hM ?_); intro w190 hM
   refine wl_nil ?_
   obtain rfl := Option.some.inj hx
   refine fin_end [] trivial ?_
   replace hM := hM.t3
   have hM := hM.fewer rsN
   exact ⟨(s186, s104), rfl, hM.gives⟩

noncomputable def x_spec_l02Put (b : DL02B) (l : List Int) : Option DL02B :=
  xg (b.put.length + l.length ≤ 1099511627776) <| some (⟨b.list, b.put ++ l, b.drop⟩ : DL02B)
theorem ct_spec_l02Put (w : World) (X S : Bs) (b_b : Nat) (b : DL02B) (s_b_0 : Sv) (s_b_1 : Sv) (l : List Int) (s_l : Sv) (hS : ∀ b, S b → b < w.heap.size ∧ ¬ X b) (a_l_0 : (cSl 1 fI l).rd S w s_l.v) (oL : Sep [oBox b_b #[s_b_0.v, s_b_1.v, (.int .i64 b.drop)] 106, oC (cSl 3 fDPart b.list) s_b_0.v, oC (cSl 1 fI b.put) s_b_1.v] X w) {r : DL02B} (hx : x_spec_l02Put b l = some r) :
  Ret Try.prog 89 [(.pointer (some ⟨b_b, 0, none⟩)), s_l.v] w (fun u w' => ∃ y : Sv × Sv, u = .tuple #[] ∧ Gives X S w [oBox b_b #[y.1.v, y.2.v, (.int .i64 r.drop)] 106, oC (cSl 3 fDPart r.list) y.1.v, oC (cSl 1 fI r.put) y.2.v] [] w') := by
 unfold x_spec_l02Put at hx
 refine enter Try.func89 rfl Try.ntmps89 (by kernel_rfl) rfl ?_
 have hM := St.enter oL hS
 have hM := hM.addE (r := rV s_l.v (cSl 1 fI l)) a_l_0
 refine wc_region ?_
 refine wmv rfl rfl ?_
 refine wmv rfl rfl ?_
 refine wv rfl (r_nilck rfl) ?_
 refine wv rfl (r_fld Try.underlying106 rfl rfl sz22 rfl) ?_
 refine wv rfl (r_ldB Try.underlying22 rfl rfl hM (.head _) rfl) ?_
 refine wmv rfl rfl ?_
 replace hM := hM.p2
 obtain ⟨hg26, hx⟩ := xg_some hx
 refine w_ex rfl (x_append Try.underlying22 sz3 rfl rfl (hM.seeR (.head _)) flI hM hg26 rfl ?_); intro s25 w24 hM
 refine wv rfl (r_nilck rfl) ?_
 refine wv rfl (r_fld Try.underlying106 rfl rfl sz22 rfl) ?_
 replace hM := hM.p1
 refine w_exu (x_stB #[s_b_0.v, s25.v, (.int .i64 b.drop)] sz22 rfl rfl rfl rfl rfl rfl hM ?_); intro w30 hM
 refine wl_nil ?_
 obtain rfl := Option.some.inj hx
 refine fin_end [] trivial ?_
 replace hM := hM.p1.p2.p2
 replace hM := hM.t3
 have hM := hM.fewer rsN
 exact ⟨(s_b_0, s25), rfl, hM.gives⟩

noncomputable def x_spec_l02Drop (b : DL02B) (n : Int) : Option DL02B :=
  xg (inI (b.drop + n)) <| some (⟨b.list, b.put, b.drop + n⟩ : DL02B)
theorem ct_spec_l02Drop (w : World) (X S : Bs) (b_b : Nat) (b : DL02B) (s_b_0 : Sv) (s_b_1 : Sv) (n : Int) (hS : ∀ b, S b → b < w.heap.size ∧ ¬ X b)  (oL : Sep [oBox b_b #[s_b_0.v, s_b_1.v, (.int .i64 b.drop)] 106, oC (cSl 3 fDPart b.list) s_b_0.v, oC (cSl 1 fI b.put) s_b_1.v] X w) {r : DL02B} (hx : x_spec_l02Drop b n = some r) :
  Ret Try.prog 90 [(.pointer (some ⟨b_b, 0, none⟩)), (.int .i64 n)] w (fun u w' => ∃ y : Sv × Sv, u = .tuple #[] ∧ Gives X S w [oBox b_b #[y.1.v, y.2.v, (.int .i64 r.drop)] 106, oC (cSl 3 fDPart r.list) y.1.v, oC (cSl 1 fI r.put) y.2.v] [] w') := by
 unfold x_spec_l02Drop at hx
 refine enter Try.func90 rfl Try.ntmps90 (by kernel_rfl) rfl ?_
 have hM := St.enter oL hS
 refine wc_region ?_
 refine wmv rfl rfl ?_
 refine wmv rfl rfl ?_
 refine wv rfl (r_nilck rfl) ?_
 refine wv rfl (r_fld Try.underlying106 rfl rfl sz3 rfl) ?_
 refine wv rfl (r_ldB Try.underlying3 rfl rfl hM (.head _) rfl) ?_
 refine wmv rfl rfl ?_
 obtain ⟨hg23, hx⟩ := xg_some hx
 refine wv rfl (r_add rfl rfl hg23) ?_
 refine wv rfl (r_nilck rfl) ?_
 refine wv rfl (r_fld Try.underlying106 rfl rfl sz3 rfl) ?_
 refine w_exu (x_stB #[s_b_0.v, s_b_1.v, (.int .i64 (b.drop + n))] sz3 rfl rfl rfl rfl rfl rfl hM ?_); intro w26 hM
 refine wl_nil ?_
 obtain rfl := Option.some.inj hx
 refine fin_end [] trivial ?_
 replace hM := hM.t3
 have hM := hM.fewer rsN
 exact ⟨(s_b_0, s_b_1), rfl, hM.gives⟩

end Go.Proofs.Ytdfjkipdmeomdaa
