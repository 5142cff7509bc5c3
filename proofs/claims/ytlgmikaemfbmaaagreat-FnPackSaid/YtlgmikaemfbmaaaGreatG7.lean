/- Walks of functions of this program (printed by a program of ours, by the rules of the layer). No condition. -/
import Derived.Test.YtlgmikaemfbmaaaGreatG3
import Derived.Test.YtlgmikaemfbmaaaGreatNs
namespace Go.Proofs.YtlgmikaemfbmaaaGreat
open Go.RowKit

noncomputable def x_spec_l02Copy_b0 (_o : List DPart) (_k10 : Nat) (x112 : DPart) (out11 : List DPart) : Option (Lr (List DPart) (List DPart)) :=
  xg (0 + (x112.signs).length ≤ 1099511627776) <| xg (out11.length + [(⟨x112.kind, x112.n, [] ++ (x112.signs)⟩ : DPart)].length ≤ 1099511627776) <| some (Lr.go (out11 ++ [(⟨x112.kind, x112.n, [] ++ (x112.signs)⟩ : DPart)]))
noncomputable def x_spec_l02Copy_f0 (o : List DPart) (k10 : Nat) (s113 : List DPart) : Option (Lr (List DPart) (List DPart)) := x_spec_l02Copy_b0 o k10 (el o k10) s113
noncomputable def x_spec_l02Copy (o : List DPart) : Option (List DPart) :=
  Option.bind (eachN (x_spec_l02Copy_f0 o) (fun (s113 : List DPart) => (s113 : List DPart)) o.length 0 []) fun (y114 : List DPart) => some y114
theorem ct_spec_l02Copy (w : World) (X S : Bs) (o : List DPart) (s_o : Sv) (hS : ∀ b, S b → b < w.heap.size ∧ ¬ X b) (a_o_0 : (cSl 3 fDPart o).rd S w s_o.v) (oL : Sep [] X w) {r : List DPart} (hx : x_spec_l02Copy o = some r) :
  Ret Tryz.prog 104 [s_o.v] w (fun u w' => ∃ y : Sv, u = y.v ∧ Gives X S w [oC (cSl 3 fDPart r) y.v] [] w') := by
 unfold x_spec_l02Copy at hx
 refine enter Tryz.func104 rfl Tryz.ntmps104 (by kernel_rfl) rfl ?_
 have hM := St.enter oL hS
 have hM := hM.addE (r := rV s_o.v (cSl 3 fDPart o)) a_o_0
 refine wc_sr ?_
 refine was rfl rfl ?_
 refine wl_sq ?_
 refine wc_sr ?_
 refine w_ex rfl (x_empty (f := fDPart) Tryz.underlying48 sz95 (fun _ => rfl) hM ?_); intro s121 w120 hR122 hM
 refine was rfl rfl ?_
 refine wl_sq ?_
 refine wc_seq ?_
 refine wc_sr ?_
 refine wmv rfl rfl ?_
 refine wv rfl (r_lenC Tryz.underlying48 rfl (hM.seeR (.head _))) ?_
 refine wmv rfl rfl ?_
 refine wl_sq ?_
 refine wc_block ?_
 obtain ⟨y128, hx, hx129⟩ := bind_some' hx
 have hl136 := Cs.le (hM.seeR (.head _))
 refine wc_loop (un fun (m133 : Nat) => un fun (k134 : Nat) => un fun (out130 : List DPart) => fun (s132 : Sv) => [(3, s132.v), (7, s_o.v), (8, (.int .i64 (o.length : Int))), (9, (.int .i64 (k134 : Int)))]) (un fun (m133 : Nat) => un fun (k134 : Nat) => un fun (out130 : List DPart) => fun (s132 : Sv) w' => St ⟨w, X, S⟩ [oC (cSl 3 fDPart out130) s132.v] [rV s_o.v (cSl 3 fDPart o)] w' ∧ eachN _ _ m133 k134 out130 = some y128 ∧ k134 + m133 = o.length) (fun p => p.1) (o.length, 0, [], s121) ⟨rfl, rfl, rfl, rfl, trivial⟩ ⟨hM, hx, Nat.zero_add _⟩ ?_
 rintro ⟨m133, k134, out130, s132⟩ w137 ⟨hM, hx, hk135⟩
 refine wc_sr ?_
 refine wv rfl (r_lss rfl rfl) ?_
 refine wl_sq ?_
 refine wc_seq ?_
 refine wc_cond rfl (fun hc139 => ?_) (fun hc139 => ?_)
 ·
  replace hc139 := of_decide_eq_true hc139
  obtain ⟨m140, z141, rfl, hk135, hx, hx142⟩ := eachN_step hx hk135 hc139
  unfold x_spec_l02Copy_f0 x_spec_l02Copy_b0 at hx
  try dsimp only at hx
  refine wc_skip ?_
  refine sq_n ?_
  refine wc_seq ?_
  refine wc_block ?_
  refine wc_sr ?_
  have hi144 : k134 < o.length := by omega
  refine wv rfl (r_ixC Tryz.underlying48 sz95 rfl rfl (hM.seeR (.head _)) ⟨by omega, hc139⟩) ?_
  obtain ⟨s146, hM, hc147⟩ := hM.leaf (i := k134) (j := 2) (.head _) (fun _ => rfl) hi144 rfl
  refine wv rfl (r_ldC (o := k134 * 3) Tryz.underlying95 sz95 rfl (us := [(.int .i64 ((el o k134).kind)), (.int .i64 ((el o k134).n)), s146.v]) rfl (hM.seeR (.tail _ (.head _))) hi144 ⟨(Cs.get (i := k134) (j := 0) (hM.seeR (.tail _ (.head _))) (fun _ => rfl) hi144 rfl), (Cs.get (i := k134) (j := 1) (hM.seeR (.tail _ (.head _))) (fun _ => rfl) hi144 rfl), (hc147 _ (Rel.refl _)), trivial⟩) ?_
  refine w_ex rfl (x_alloc sz95 hM ?_); intro b149 w148 hR150 hM
  dsimp only [Value.cells] at hM
  refine w_exu (x_stB #[(.int .i64 ((el o k134).kind)), (.int .i64 ((el o k134).n)), s146.v] sz95 rfl rfl rfl rfl rfl rfl hM ?_); intro w152 hM
  refine wl_sq ?_
  refine wc_draw [(0, 0), (1, 0), (2, 0), (3, 0), (4, 0), (6, 0), (7, 0), (5, 1), (8, 1), (9, 0), (10, 2), (11, 2), (12, 0)] Tryz_mixed (by kernel_rfl) rfl (by kernel_rfl) rfl ?_
  refine omv rfl rfl ?_
  refine ov rfl (fun w' h' => r_fld Tryz.underlying95 rfl rfl sz3 rfl) ?_
  refine ov rfl (fun w' h' => r_ldB Tryz.underlying3 rfl rfl (hM.call h') (.head _) rfl) ?_
  refine ov rfl (fun w' h' => r_fld Tryz.underlying95 rfl rfl sz3 rfl) ?_
  refine ov rfl (fun w' h' => r_ldB Tryz.underlying3 rfl rfl (hM.call h') (.head _) rfl) ?_
  refine ov rfl (fun w' h' => r_fld Tryz.underlying95 rfl rfl sz23 rfl) ?_
  refine ov rfl (fun w' h' => r_ldB Tryz.underlying23 rfl rfl (hM.call h') (.head _) rfl) ?_
  refine o_ex1 rfl fun w164 h165 => ?_
  have hM := hM.call h165
  refine x_empty0 (f := fI) Tryz.underlying23 sz3 (fun _ => rfl) hM ?_; intro b162 w161 hR163 hM
  refine ⟨hR163, ?_⟩
  replace hM : St ⟨w, X, S⟩ [oC (cSl 1 fI ([] : List Int)) (⟨some ⟨b162, 0, none⟩, 0, 0⟩ : Sv).v, oBox b149 #[(.int .i64 ((el o k134).kind)), (.int .i64 ((el o k134).n)), s146.v] 95, oC (cSl 3 fDPart out130) s132.v] [rV s146.v (cSl 1 fI ((el o k134).signs)), rV s_o.v (cSl 3 fDPart o)] _ := hM
  obtain ⟨hg169, hx⟩ := xg_some hx
  refine o_ex1 rfl fun w171 h172 => ?_
  have hM := hM.call h172
  refine x_append0 (f := fI) Tryz.underlying23 sz3 rfl rfl (hM.seeR (.head _)) flI hM hg169 rfl ?_; intro s168 w167 hR170 hM
  refine ⟨hR170, ?_⟩
  refine ov rfl (fun w' h' => r_build (cells := #[(.int .i64 ((el o k134).kind)), (.int .i64 ((el o k134).n)), s168.v]) rfl (by kernel_rfl)) ?_
  refine o_ex rfl fun w177 h178 => ?_
  have hM := hM.call h178
  refine x_lit (f := fDPart) (own := [oC (cSl 1 fI ([] ++ ((el o k134).signs))) s168.v]) [(⟨(el o k134).kind, (el o k134).n, [] ++ ((el o k134).signs)⟩ : DPart)] [(.int .i64 ((el o k134).kind)), (.int .i64 ((el o k134).n)), s168.v] 1 Tryz.underlying48 sz95 (fun _ => rfl) rfl rfl rfl rfl rfl (by kernel_rfl) (fun _ => zP (pV _ rfl) (zP (pV _ rfl) (zO zN))) hM ?_; intro s175 w174 hR176 hM
  replace hM := hM.p2
  obtain ⟨hg182, hx⟩ := xg_some hx
  refine o_ex rfl fun w184 h185 => ?_
  have hM := hM.call h185
  refine x_appendO Tryz.underlying48 sz95 rfl rfl hM hg182 rfl ?_; intro s181 w180 hM
  refine ov rfl (fun w' h' => r_assign rfl) ?_
  refine o_nilM hM fun w187 hM => ?_
  refine bk_n ?_
  refine sq_n ?_
  refine wc_region ?_
  refine wv rfl (r_add rfl rfl ⟨by omega, by omega⟩) ?_
  refine wmv rfl rfl ?_
  refine wl_nil ?_
  obtain rfl := Option.some.inj hx
  replace hM := hM.t1
  have hM := hM.fewer (rsC (.tail _ (.head _)) rsN)
  replace hM : St ⟨w, X, S⟩ [oC (cSl 3 fDPart (out130 ++ [(⟨(el o k134).kind, (el o k134).n, [] ++ ((el o k134).signs)⟩ : DPart)])) s181.v] [rV s_o.v (cSl 3 fDPart o)] _ := hM
  exact lp_end (m140, k134 + 1, out130 ++ [(⟨(el o k134).kind, (el o k134).n, [] ++ ((el o k134).signs)⟩ : DPart)], s181) (Nat.lt_succ_self _) ⟨rfl, rfl, rfl, rfl, trivial⟩ ⟨hM, hx142, hk135⟩
 ·
  replace hc139 := of_decide_eq_false hc139
  obtain rfl := eachN_end hx hk135 hc139
  refine wc_exit ?_
  refine sq_exit ?_
  refine lp1_exit ?_
  replace hx := hx129
  try dsimp only [Sum.elim_inl, Sum.elim_inr] at hx
  refine bk_here ?_
  refine sq_n ?_
  refine wc_sr ?_
  refine wmv rfl rfl ?_
  refine was rfl rfl ?_
  refine wl_sq ?_
  refine wc_ret ?_
  obtain rfl := Option.some.inj hx
  refine fin_ret [s132.v] ⟨rfl, trivial⟩ ?_
  replace hM := hM.t1
  have hM := hM.fewer rsN
  exact ⟨s132, rfl, hM.gives⟩

end Go.Proofs.YtlgmikaemfbmaaaGreat
