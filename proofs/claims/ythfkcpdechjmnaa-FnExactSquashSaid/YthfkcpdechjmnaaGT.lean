/- Walks of functions of this program (printed by a program of ours, by the rules of the layer). No condition. -/
import Derived.Test.YthfkcpdechjmnaaG3
import Derived.Test.YthfkcpdechjmnaaNs
namespace Go.Proofs.Ythfkcpdechjmnaa
open Go.RowKit

noncomputable def x_impl_rest_next_b0 (l56 : List DPart) : Option (Lr (List DPart) (List DPart)) :=
  Option.bind (bif decide ((0 : Int) < (l56.length : Int)) then (xg (0 ≤ (0 : Int) ∧ (0 : Int) < (l56.length : Int)) <| Option.bind (x_impl_size (el l56 0)) fun r142 => some (decide (r142 = 0))) else (some false)) fun c115 => bif c115 then (xg (0 ≤ (1 : Int) ∧ (1 : Int) ≤ (l56.length : Int)) <| some (Lr.go ((l56.take l56.length).drop 1))) else (some (Lr.out l56))
noncomputable def x_impl_rest_next_f0 (s158 : List DPart) : Option (Lr (List DPart) (List DPart)) := x_impl_rest_next_b0 s158
noncomputable def x_impl_rest_next (r_ : DRest) : Option (DPart × DRest) :=
  Option.bind (iter (x_impl_rest_next_f0) r_.parts) fun (y159 : List DPart) => bif decide ((y159.length : Int) = 0) then (some ((⟨0, 0, []⟩ : DPart), (⟨y159⟩ : DRest))) else (xg (0 ≤ (0 : Int) ∧ (0 : Int) < (y159.length : Int)) <| some (el y159 0, (⟨y159⟩ : DRest)))
theorem ct_impl_rest_next (w : World) (X S : Bs) (b_r_ : Nat) (r_ : DRest) (s_r_ : Sv) (hS : ∀ b, S b → b < w.heap.size ∧ ¬ X b) (a_r__0 : (cSl 3 fDPart r_.parts).rd S w s_r_.v) (oL : Sep [oBox b_r_ #[s_r_.v] 89] X w) {r : DPart × DRest} (hx : x_impl_rest_next r_ = some r) :
    Ret Try.prog 56 [(.pointer (some ⟨b_r_, 0, none⟩))] w (fun u w' => ∃ y : Sv × Sv, u = .agg #[(.int .i64 r.1.kind), (.int .i64 r.1.n), y.1.v] ∧ Gives X S w [oBox b_r_ #[y.2.v] 89] [rV y.1.v (cSl 1 fI r.1.signs), rV y.2.v (cSl 3 fDPart r.2.parts)] w') := by
  unfold x_impl_rest_next at hx
  refine enter Try.func56 rfl Try.ntmps56 (by kernel_rfl) rfl ?_
  have hM := St.enter oL hS
  have hM := hM.addE (r := rV s_r_.v (cSl 3 fDPart r_.parts)) a_r__0
  refine wc_seq ?_
  refine wc_region ?_
  refine w_ex rfl (x_alloc sz77 hM ?_); intro b183 w182 hR184 hM
  replace hM : St ⟨w, X, S⟩ [oBox b183 #[(.int .i64 0), (.int .i64 0), (.slice none 0 0)] 77, oBox b_r_ #[s_r_.v] 89] [rV s_r_.v (cSl 3 fDPart r_.parts)] _ := hM
  refine wl_nil ?_
  refine sq_n ?_
  refine wc_seq ?_
  refine wc_block ?_
  obtain ⟨y186, hx, hx187⟩ := bind_some' hx
  replace hM := hM.p1
  obtain ⟨m192, hx⟩ := iter_run hx
  refine wc_loop (un fun (m190 : Nat) => un fun (l188 : List DPart) => fun (s189 : Sv) => [(0, (.pointer (some ⟨b_r_, 0, none⟩))), (2, (.pointer (some ⟨b183, 0, none⟩)))]) (un fun (m190 : Nat) => un fun (l188 : List DPart) => fun (s189 : Sv) w' => St ⟨w, X, S⟩ [oBox b_r_ #[s189.v] 89, oBox b183 #[(.int .i64 0), (.int .i64 0), (.slice none 0 0)] 77] [rV s189.v (cSl 3 fDPart l188)] w' ∧ iterN _ m190 l188 = some y186) (fun p => p.1) (m192, r_.parts, s_r_) ⟨rfl, rfl, trivial⟩ ⟨hM, hx⟩ ?_
  rintro ⟨m190, l188, s189⟩ w193 ⟨hM, hx⟩
  obtain ⟨m194, z195, rfl, hx, hx196⟩ := iterN_step hx
  unfold x_impl_rest_next_f0 x_impl_rest_next_b0 at hx
  try dsimp only at hx
  refine wc_seq ?_
  refine wc_seq ?_
  refine wc_region ?_
  refine wv rfl (r_move rfl) ?_
  refine wv rfl (r_nilck rfl) ?_
  refine wv rfl (r_fld Try.underlying89 rfl rfl sz29 rfl) ?_
  refine wv rfl (r_ldB Try.underlying29 rfl rfl hM (.head _) rfl) ?_
  refine wv rfl (r_lenC Try.underlying29 rfl (hM.seeR (.head _))) ?_
  refine wv rfl (r_gtr rfl rfl) ?_
  refine wv rfl (r_move rfl) ?_
  obtain ⟨c204, hx, hx221⟩ := bind_some' hx
  refine wl_mid 9 (fun _ : Unit => [(18, (.bool c204)), (0, (.pointer (some ⟨b_r_, 0, none⟩))), (2, (.pointer (some ⟨b183, 0, none⟩)))]) (fun _ w' => St ⟨w, X, S⟩ [oBox b_r_ #[s189.v] 89, oBox b183 #[(.int .i64 0), (.int .i64 0), (.slice none 0 0)] 77] [rV s189.v (cSl 3 fDPart l188)] w') ?_ ?_
  · rcases Bool.eq_false_or_eq_true (decide ((0 : Int) < (l188.length : Int))) with hg205 | hg205
    · replace hx := xif_t hg205 hx
      refine gv rfl hg205 rfl (r_move rfl) ?_
      refine gv rfl hg205 rfl (r_nilck rfl) ?_
      refine gv rfl hg205 rfl (r_fld Try.underlying89 rfl rfl sz29 rfl) ?_
      refine gv rfl hg205 rfl (r_ldB Try.underlying29 rfl rfl hM (.head _) rfl) ?_
      obtain ⟨hg228, hx⟩ := xg_some hx
      have hi227 : 0 < l188.length := by omega
      refine gv rfl hg205 rfl (r_ixC Try.underlying29 sz77 rfl rfl (hM.seeR (.head _)) hg228) ?_
      obtain ⟨s230, hM, hc231⟩ := hM.leaf (i := 0) (j := 2) (.head _) (fun _ => rfl) hi227 rfl
      refine gv rfl hg205 rfl (r_ldC (o := 0 * 3) Try.underlying77 sz77 rfl (us := [(.int .i64 ((el l188 0).kind)), (.int .i64 ((el l188 0).n)), s230.v]) rfl (hM.seeR (.tail _ (.head _))) hi227 ⟨(Cs.get (i := 0) (j := 0) (hM.seeR (.tail _ (.head _))) (fun _ => rfl) hi227 rfl), (Cs.get (i := 0) (j := 1) (hM.seeR (.tail _ (.head _))) (fun _ => rfl) hi227 rfl), (hc231 _ (Rel.refl _)), trivial⟩) ?_
      obtain ⟨r232, h233, hx⟩ := bind_some' hx
      refine gc rfl hg205 rfl rfl (hM.callV fun X S oL hS hR hO => ct_impl_size _ X S (el l188 0) s230 hS (hR _ (.head _)) oL h233) ?_
      rintro _ w234 ⟨rfl, hR235⟩
      have hM := hM.call hR235
      refine gv rfl hg205 rfl (r_eql rfl rfl) ?_
      refine wv rfl (p_t rfl hg205 rfl) ?_
      obtain rfl := Option.some.inj hx
      replace hM : St ⟨w, X, S⟩ [oBox b_r_ #[s189.v] 89, oBox b183 #[(.int .i64 0), (.int .i64 0), (.slice none 0 0)] 77] [rV s189.v (cSl 3 fDPart l188)] _ := hM.dropR 1
      exact mid_nil () ⟨rfl, rfl, rfl, trivial⟩ hM
    · replace hx := xif_f hg205 hx
      refine gs rfl (isB_no hg205) rfl ?_
      refine gs rfl (isB_no hg205) rfl ?_
      refine gs rfl (isB_no hg205) rfl ?_
      refine gs rfl (isB_no hg205) rfl ?_
      refine gs rfl (isB_no hg205) rfl ?_
      refine gs rfl (isB_no hg205) rfl ?_
      refine gs rfl (isB_no hg205) rfl ?_
      refine gs rfl (isB_no hg205) rfl ?_
      refine wv rfl (p_f rfl hg205 rfl) ?_
      obtain rfl := Option.some.inj hx
      exact mid_nil () ⟨rfl, rfl, rfl, trivial⟩ hM
  rintro _ w237 hM
  replace hx := hx221
  refine wl_nil ?_
  refine sq_n ?_
  refine wc_cond rfl (fun hc238 => ?_) (fun hc238 => ?_)
  · replace hx := xif_t hc238 hx
    refine wc_skip ?_
    refine sq_n ?_
    refine wc_block ?_
    refine wc_region ?_
    refine wv rfl (r_move rfl) ?_
    refine wv rfl (r_move rfl) ?_
    refine wv rfl (r_nilck rfl) ?_
    refine wv rfl (r_fld Try.underlying89 rfl rfl sz29 rfl) ?_
    refine wv rfl (r_ldB Try.underlying29 rfl rfl hM (.head _) rfl) ?_
    obtain ⟨hg245, hx⟩ := xg_some hx
    have hM := hM.cutR (L := l188) (f := fDPart) (lo := 1) (hi := l188.length) (fun _ => rfl) (by omega) (by omega) (.head _)
    refine wv rfl (r_slc_lo Try.underlying29 sz77 rfl rfl (hM.seeR (.tail _ (.head _))) hg245) ?_
    refine wv rfl (r_nilck rfl) ?_
    refine wv rfl (r_fld Try.underlying89 rfl rfl sz29 rfl) ?_
    refine w_exu (x_stB #[(s189.cut 3 1 l188.length).v] sz29 rfl rfl rfl rfl rfl rfl hM ?_); intro w248 hM
    refine wl_nil ?_
    refine bk_n ?_
    obtain rfl := Option.some.inj hx
    have hM := hM.fewer (rsC (.head _) rsN)
    replace hM : St ⟨w, X, S⟩ [oBox b_r_ #[(s189.cut 3 1 l188.length).v] 89, oBox b183 #[(.int .i64 0), (.int .i64 0), (.slice none 0 0)] 77] [rV (s189.cut 3 1 l188.length).v (cSl 3 fDPart ((l188.take l188.length).drop 1))] _ := hM
    exact lp_end (m194, (l188.take l188.length).drop 1, (s189.cut 3 1 l188.length)) (Nat.lt_succ_self _) ⟨rfl, rfl, trivial⟩ ⟨hM, hx196⟩
  · replace hx := xif_f hc238 hx
    refine wc_exit ?_
    refine sq_exit ?_
    refine lp1_exit ?_
    obtain rfl := Option.some.inj hx
    obtain rfl := Option.some.inj hx196
    replace hx := hx187
    try dsimp only [Sum.elim_inl, Sum.elim_inr] at hx
    refine bk_here ?_
    refine sq_n ?_
    refine wc_seq ?_
    refine wc_seq ?_
    refine wc_region ?_
    refine wv rfl (r_move rfl) ?_
    refine wv rfl (r_nilck rfl) ?_
    refine wv rfl (r_fld Try.underlying89 rfl rfl sz29 rfl) ?_
    refine wv rfl (r_ldB Try.underlying29 rfl rfl hM (.head _) rfl) ?_
    refine wv rfl (r_lenC Try.underlying29 rfl (hM.seeR (.head _))) ?_
    refine wv rfl (r_eql rfl rfl) ?_
    refine wl_nil ?_
    refine sq_n ?_
    refine wc_cond rfl (fun hc256 => ?_) (fun hc256 => ?_)
    · replace hx := xif_t hc256 hx
      refine wc_seq ?_
      refine wc_region ?_
      refine wv rfl (r_build (cells := #[(.int .i64 0), (.int .i64 0), (.slice none 0 0)]) rfl (by kernel_rfl)) ?_
      replace hM := hM.p1
      refine w_exu (x_stB #[(.int .i64 0), (.int .i64 0), (.slice none 0 0)] sz77 rfl rfl rfl rfl rfl rfl hM ?_); intro w258 hM
      refine wl_nil ?_
      refine sq_n ?_
      refine wc_ret ?_
      refine sq_ret ?_
      obtain rfl := Option.some.inj hx
      have hM := hM.nilR0 (T := Int) 1 fI
      refine fin_ret [(.agg #[(.int .i64 0), (.int .i64 0), nS.v])] ⟨rv_box Try.underlying77 sz77 rfl rfl hM (.head _), trivial⟩ ?_
      replace hM := hM.p1
      replace hM := hM.t1
      have hM := hM.fewer (rsC (.head _) (rsC (.tail _ (.head _)) rsN))
      exact ⟨(nS, s189), rfl, hM.gives⟩
    · replace hx := xif_f hc256 hx
      refine wc_skip ?_
      refine sq_n ?_
      refine wc_seq ?_
      refine wc_region ?_
      refine wv rfl (r_move rfl) ?_
      refine wv rfl (r_nilck rfl) ?_
      refine wv rfl (r_fld Try.underlying89 rfl rfl sz29 rfl) ?_
      refine wv rfl (r_ldB Try.underlying29 rfl rfl hM (.head _) rfl) ?_
      obtain ⟨hg266, hx⟩ := xg_some hx
      have hi265 : 0 < l188.length := by omega
      refine wv rfl (r_ixC Try.underlying29 sz77 rfl rfl (hM.seeR (.head _)) hg266) ?_
      obtain ⟨s268, hM, hc269⟩ := hM.leaf (i := 0) (j := 2) (.head _) (fun _ => rfl) hi265 rfl
      refine wv rfl (r_ldC (o := 0 * 3) Try.underlying77 sz77 rfl (us := [(.int .i64 ((el l188 0).kind)), (.int .i64 ((el l188 0).n)), s268.v]) rfl (hM.seeR (.tail _ (.head _))) hi265 ⟨(Cs.get (i := 0) (j := 0) (hM.seeR (.tail _ (.head _))) (fun _ => rfl) hi265 rfl), (Cs.get (i := 0) (j := 1) (hM.seeR (.tail _ (.head _))) (fun _ => rfl) hi265 rfl), (hc269 _ (Rel.refl _)), trivial⟩) ?_
      replace hM := hM.p1
      refine w_exu (x_stB #[(.int .i64 ((el l188 0).kind)), (.int .i64 ((el l188 0).n)), s268.v] sz77 rfl rfl rfl rfl rfl rfl hM ?_); intro w270 hM
      refine wl_nil ?_
      refine sq_n ?_
      refine wc_ret ?_
      obtain rfl := Option.some.inj hx
      refine fin_ret [(.agg #[(.int .i64 ((el l188 0).kind)), (.int .i64 ((el l188 0).n)), s268.v])] ⟨rv_box Try.underlying77 sz77 rfl rfl hM (.head _), trivial⟩ ?_
      replace hM := hM.p1
      replace hM := hM.t1
      have hM := hM.fewer (rsC (.head _) (rsC (.tail _ (.head _)) rsN))
      exact ⟨(s268, s189), rfl, hM.gives⟩

noncomputable def x_impl_rest_take (r_ : DRest) (n : Int) : Option (DPart × DRest) :=
  xg (0 ≤ (0 : Int) ∧ (0 : Int) < (r_.parts.length : Int)) <| bif decide (((el r_.parts 0).kind) = 2) then (xg (0 ≤ n ∧ n ≤ (((el r_.parts 0).signs).length : Int)) <| xg (0 ≤ n ∧ n ≤ (((el r_.parts 0).signs).length : Int)) <| xg (0 ≤ (1 : Int) ∧ (1 : Int) ≤ (r_.parts.length : Int)) <| xg ([(⟨(el r_.parts 0).kind, (el r_.parts 0).n, (((el r_.parts 0).signs).take ((el r_.parts 0).signs).length).drop n.toNat⟩ : DPart)].length + ((r_.parts.take r_.parts.length).drop 1).length ≤ 1099511627776) <| some ((⟨(el r_.parts 0).kind, (el r_.parts 0).n, (((el r_.parts 0).signs).take n.toNat).drop 0⟩ : DPart), (⟨[(⟨(el r_.parts 0).kind, (el r_.parts 0).n, (((el r_.parts 0).signs).take ((el r_.parts 0).signs).length).drop n.toNat⟩ : DPart)] ++ ((r_.parts.take r_.parts.length).drop 1)⟩ : DRest))) else (xg (inI (((el r_.parts 0).n) - n)) <| xg (0 ≤ (1 : Int) ∧ (1 : Int) ≤ (r_.parts.length : Int)) <| xg ([(⟨(el r_.parts 0).kind, ((el r_.parts 0).n) - n, (el r_.parts 0).signs⟩ : DPart)].length + ((r_.parts.take r_.parts.length).drop 1).length ≤ 1099511627776) <| some ((⟨(el r_.parts 0).kind, n, (el r_.parts 0).signs⟩ : DPart), (⟨[(⟨(el r_.parts 0).kind, ((el r_.parts 0).n) - n, (el r_.parts 0).signs⟩ : DPart)] ++ ((r_.parts.take r_.parts.length).drop 1)⟩ : DRest)))
theorem ct_impl_rest_take (w : World) (X S : Bs) (b_r_ : Nat) (r_ : DRest) (s_r_ : Sv) (n : Int) (hS : ∀ b, S b → b < w.heap.size ∧ ¬ X b) (a_r__0 : (cSl 3 fDPart r_.parts).rd S w s_r_.v) (oL : Sep [oBox b_r_ #[s_r_.v] 89] X w) {r : DPart × DRest} (hx : x_impl_rest_take r_ n = some r) :
    Ret Try.prog 59 [(.pointer (some ⟨b_r_, 0, none⟩)), (.int .i64 n)] w (fun u w' => ∃ y : Sv × Sv, u = .agg #[(.int .i64 r.1.kind), (.int .i64 r.1.n), y.1.v] ∧ Gives X S w [oBox b_r_ #[y.2.v] 89] [rV y.1.v (cSl 1 fI r.1.signs), rV y.2.v (cSl 3 fDPart r.2.parts)] w') := by
  unfold x_impl_rest_take at hx
  refine enter Try.func59 rfl Try.ntmps59 (by kernel_rfl) rfl ?_
  have hM := St.enter oL hS
  have hM := hM.addE (r := rV s_r_.v (cSl 3 fDPart r_.parts)) a_r__0
  refine wc_seq ?_
  refine wc_region ?_
  refine w_ex rfl (x_alloc sz77 hM ?_); intro b148 w147 hR149 hM
  replace hM : St ⟨w, X, S⟩ [oBox b148 #[(.int .i64 0), (.int .i64 0), (.slice none 0 0)] 77, oBox b_r_ #[s_r_.v] 89] [rV s_r_.v (cSl 3 fDPart r_.parts)] _ := hM
  refine wl_nil ?_
  refine sq_n ?_
  refine wc_seq ?_
  refine wc_region ?_
  refine wv rfl (r_move rfl) ?_
  refine wv rfl (r_nilck rfl) ?_
  refine wv rfl (r_fld Try.underlying89 rfl rfl sz29 rfl) ?_
  refine wv rfl (r_ldB Try.underlying29 rfl rfl hM (.tail _ (.head _)) rfl) ?_
  obtain ⟨hg157, hx⟩ := xg_some hx
  have hi156 : 0 < r_.parts.length := by omega
  refine wv rfl (r_ixC Try.underlying29 sz77 rfl rfl (hM.seeR (.head _)) hg157) ?_
  obtain ⟨s159, hM, hc160⟩ := hM.leaf (i := 0) (j := 2) (.head _) (fun _ => rfl) hi156 rfl
  refine wv rfl (r_ldC (o := 0 * 3) Try.underlying77 sz77 rfl (us := [(.int .i64 ((el r_.parts 0).kind)), (.int .i64 ((el r_.parts 0).n)), s159.v]) rfl (hM.seeR (.tail _ (.head _))) hi156 ⟨(Cs.get (i := 0) (j := 0) (hM.seeR (.tail _ (.head _))) (fun _ => rfl) hi156 rfl), (Cs.get (i := 0) (j := 1) (hM.seeR (.tail _ (.head _))) (fun _ => rfl) hi156 rfl), (hc160 _ (Rel.refl _)), trivial⟩) ?_
  refine w_ex rfl (x_alloc sz77 hM ?_); intro b162 w161 hR163 hM
  replace hM : St ⟨w, X, S⟩ [oBox b162 #[(.int .i64 0), (.int .i64 0), (.slice none 0 0)] 77, oBox b148 #[(.int .i64 0), (.int .i64 0), (.slice none 0 0)] 77, oBox b_r_ #[s_r_.v] 89] [rV s159.v (cSl 1 fI ((el r_.parts 0).signs)), rV s_r_.v (cSl 3 fDPart r_.parts)] _ := hM
  refine w_exu (x_stB #[(.int .i64 ((el r_.parts 0).kind)), (.int .i64 ((el r_.parts 0).n)), s159.v] sz77 rfl rfl rfl rfl rfl rfl hM ?_); intro w165 hM
  refine wl_nil ?_
  refine sq_n ?_
  refine wc_seq ?_
  refine wc_mid (un fun (b170 : Nat) => fun (b176 : Nat) => [(0, (.pointer (some ⟨b_r_, 0, none⟩))), (1, (.int .i64 n)), (4, (.pointer (some ⟨b148, 0, none⟩))), (5, (.pointer (some ⟨b162, 0, none⟩))), (6, (.pointer (some ⟨b170, 0, none⟩))), (7, (.pointer (some ⟨b176, 0, none⟩)))]) (un fun (b170 : Nat) => fun (b176 : Nat) w' => St ⟨w, X, S⟩ [oBox b_r_ #[s_r_.v] 89, oBox b148 #[(.int .i64 0), (.int .i64 0), (.slice none 0 0)] 77, oBox b162 #[(.int .i64 ((el r_.parts 0).kind)), (.int .i64 ((el r_.parts 0).n)), s159.v] 77, oBox b170 #[(.int .i64 ((el r_.parts 0).kind)), (.int .i64 ((el r_.parts 0).n)), s159.v] 77, oBox b176 #[(.int .i64 ((el r_.parts 0).kind)), (.int .i64 ((el r_.parts 0).n)), s159.v] 77] [rV s_r_.v (cSl 3 fDPart r_.parts), rV s159.v (cSl 1 fI ((el r_.parts 0).signs))] w') ?_ ?_
  · refine wc_drawM Try_mixed ?_
    refine wm_run [(0, 0)] 5 rfl (by kernel_rfl) (by kernel_rfl) rfl ?_
    refine ov rfl (fun w' h' => r_ldBS Try.underlying77 sz77 rfl (us := [(.int .i64 ((el r_.parts 0).kind)), (.int .i64 ((el r_.parts 0).n)), s159.v]) rfl (hM.call h') (.head _) rfl) ?_
    refine o_nil fun w190 hw191 => ?_
    have hM := hM.call hw191
    refine wm_fork [(1, 0), (2, 0), (3, 0)] 4 rfl (by kernel_rfl) rfl (by kernel_rfl) ⟨?_, ?_, ?_, trivial⟩
    ·
      refine o_ex1 rfl fun w193 h194 => ?_
      have hM := hM.call h194
      refine exq (r_ldBS Try.underlying77 sz77 rfl (us := [(.int .i64 ((el r_.parts 0).kind)), (.int .i64 ((el r_.parts 0).n)), s159.v]) rfl hM (.head _) rfl) ?_
      refine ⟨Rel.refl _, ?_⟩
      refine o_nil fun w195 hw196 => ?_
      have hM := hM.call hw196
      refine wm_fork [(2, 0), (3, 0)] 3 rfl (by kernel_rfl) rfl (by kernel_rfl) ⟨?_, ?_, trivial⟩
      ·
        refine o_ex1 rfl fun w200 h201 => ?_
        have hM := hM.call h201
        refine x_alloc sz77 hM ?_; intro b198 w197 hR199 hM
        refine ⟨hR199, ?_⟩
        replace hM : St ⟨w, X, S⟩ [oBox b198 #[(.int .i64 0), (.int .i64 0), (.slice none 0 0)] 77, oBox b162 #[(.int .i64 ((el r_.parts 0).kind)), (.int .i64 ((el r_.parts 0).n)), s159.v] 77, oBox b148 #[(.int .i64 0), (.int .i64 0), (.slice none 0 0)] 77, oBox b_r_ #[s_r_.v] 89] [rV s159.v (cSl 1 fI ((el r_.parts 0).signs)), rV s_r_.v (cSl 3 fDPart r_.parts)] _ := hM
        refine o_nil fun w203 hw204 => ?_
        have hM := hM.call hw204
        refine wm_run [(3, 1), (4, 2), (5, 2)] 0 rfl (by kernel_rfl) (by kernel_rfl) rfl ?_
        refine o_ex1 rfl fun w208 h209 => ?_
        have hM := hM.call h209
        refine x_alloc sz77 hM ?_; intro b206 w205 hR207 hM
        refine ⟨hR207, ?_⟩
        replace hM : St ⟨w, X, S⟩ [oBox b206 #[(.int .i64 0), (.int .i64 0), (.slice none 0 0)] 77, oBox b198 #[(.int .i64 0), (.int .i64 0), (.slice none 0 0)] 77, oBox b162 #[(.int .i64 ((el r_.parts 0).kind)), (.int .i64 ((el r_.parts 0).n)), s159.v] 77, oBox b148 #[(.int .i64 0), (.int .i64 0), (.slice none 0 0)] 77, oBox b_r_ #[s_r_.v] 89] [rV s159.v (cSl 1 fI ((el r_.parts 0).signs)), rV s_r_.v (cSl 3 fDPart r_.parts)] _ := hM
        replace hM := hM.p1
        refine o_exu fun w213 h214 => ?_
        have hM := hM.call h214
        refine x_stB #[(.int .i64 ((el r_.parts 0).kind)), (.int .i64 ((el r_.parts 0).n)), s159.v] sz77 rfl rfl rfl rfl rfl rfl hM ?_; intro w211 hM
        replace hM := hM.p1
        refine o_exu fun w217 h218 => ?_
        have hM := hM.call h218
        refine x_stB #[(.int .i64 ((el r_.parts 0).kind)), (.int .i64 ((el r_.parts 0).n)), s159.v] sz77 rfl rfl rfl rfl rfl rfl hM ?_; intro w215 hM
        refine o_nil fun w219 hw220 => ?_
        have hM := hM.call hw220
        refine wm_end (by kernel_rfl) fun w221 hw222 => ?_
        have hM := hM.call hw222
        replace hM := hM.p1.p2.p3.p4
        have hM := hM.fewer (rsC (.tail _ (.head _)) (rsC (.head _) rsN))
        replace hM : St ⟨w, X, S⟩ [oBox b_r_ #[s_r_.v] 89, oBox b148 #[(.int .i64 0), (.int .i64 0), (.slice none 0 0)] 77, oBox b162 #[(.int .i64 ((el r_.parts 0).kind)), (.int .i64 ((el r_.parts 0).n)), s159.v] 77, oBox b198 #[(.int .i64 ((el r_.parts 0).kind)), (.int .i64 ((el r_.parts 0).n)), s159.v] 77, oBox b206 #[(.int .i64 ((el r_.parts 0).kind)), (.int .i64 ((el r_.parts 0).n)), s159.v] 77] [rV s_r_.v (cSl 3 fDPart r_.parts), rV s159.v (cSl 1 fI ((el r_.parts 0).signs))] _ := hM
        exact mid_c (b198, b206) ⟨rfl, rfl, rfl, rfl, rfl, rfl, trivial⟩ hM
      ·
        refine o_ex1 rfl fun w226 h227 => ?_
        have hM := hM.call h227
        refine x_alloc sz77 hM ?_; intro b224 w223 hR225 hM
        refine ⟨hR225, ?_⟩
        replace hM : St ⟨w, X, S⟩ [oBox b224 #[(.int .i64 0), (.int .i64 0), (.slice none 0 0)] 77, oBox b162 #[(.int .i64 ((el r_.parts 0).kind)), (.int .i64 ((el r_.parts 0).n)), s159.v] 77, oBox b148 #[(.int .i64 0), (.int .i64 0), (.slice none 0 0)] 77, oBox b_r_ #[s_r_.v] 89] [rV s159.v (cSl 1 fI ((el r_.parts 0).signs)), rV s_r_.v (cSl 3 fDPart r_.parts)] _ := hM
        refine o_nil fun w229 hw230 => ?_
        have hM := hM.call hw230
        refine wm_run [(2, 1), (4, 2), (5, 2)] 0 rfl (by kernel_rfl) (by kernel_rfl) rfl ?_
        refine o_ex1 rfl fun w234 h235 => ?_
        have hM := hM.call h235
        refine x_alloc sz77 hM ?_; intro b232 w231 hR233 hM
        refine ⟨hR233, ?_⟩
        replace hM : St ⟨w, X, S⟩ [oBox b232 #[(.int .i64 0), (.int .i64 0), (.slice none 0 0)] 77, oBox b224 #[(.int .i64 0), (.int .i64 0), (.slice none 0 0)] 77, oBox b162 #[(.int .i64 ((el r_.parts 0).kind)), (.int .i64 ((el r_.parts 0).n)), s159.v] 77, oBox b148 #[(.int .i64 0), (.int .i64 0), (.slice none 0 0)] 77, oBox b_r_ #[s_r_.v] 89] [rV s159.v (cSl 1 fI ((el r_.parts 0).signs)), rV s_r_.v (cSl 3 fDPart r_.parts)] _ := hM
        refine o_exu fun w239 h240 => ?_
        have hM := hM.call h240
        refine x_stB #[(.int .i64 ((el r_.parts 0).kind)), (.int .i64 ((el r_.parts 0).n)), s159.v] sz77 rfl rfl rfl rfl rfl rfl hM ?_; intro w237 hM
        replace hM := hM.p1
        refine o_exu fun w243 h244 => ?_
        have hM := hM.call h244
        refine x_stB #[(.int .i64 ((el r_.parts 0).kind)), (.int .i64 ((el r_.parts 0).n)), s159.v] sz77 rfl rfl rfl rfl rfl rfl hM ?_; intro w241 hM
        refine o_nil fun w245 hw246 => ?_
        have hM := hM.call hw246
        refine wm_end (by kernel_rfl) fun w247 hw248 => ?_
        have hM := hM.call hw248
        replace hM := hM.p1.p2.p3.p4
        have hM := hM.fewer (rsC (.tail _ (.head _)) (rsC (.head _) rsN))
        replace hM : St ⟨w, X, S⟩ [oBox b_r_ #[s_r_.v] 89, oBox b148 #[(.int .i64 0), (.int .i64 0), (.slice none 0 0)] 77, oBox b162 #[(.int .i64 ((el r_.parts 0).kind)), (.int .i64 ((el r_.parts 0).n)), s159.v] 77, oBox b232 #[(.int .i64 ((el r_.parts 0).kind)), (.int .i64 ((el r_.parts 0).n)), s159.v] 77, oBox b224 #[(.int .i64 ((el r_.parts 0).kind)), (.int .i64 ((el r_.parts 0).n)), s159.v] 77] [rV s_r_.v (cSl 3 fDPart r_.parts), rV s159.v (cSl 1 fI ((el r_.parts 0).signs))] _ := hM
        exact mid_c (b232, b224) ⟨rfl, rfl, rfl, rfl, rfl, rfl, trivial⟩ hM
    ·
      refine o_ex1 rfl fun w252 h253 => ?_
      have hM := hM.call h253
      refine x_alloc sz77 hM ?_; intro b250 w249 hR251 hM
      refine ⟨hR251, ?_⟩
      replace hM : St ⟨w, X, S⟩ [oBox b250 #[(.int .i64 0), (.int .i64 0), (.slice none 0 0)] 77, oBox b162 #[(.int .i64 ((el r_.parts 0).kind)), (.int .i64 ((el r_.parts 0).n)), s159.v] 77, oBox b148 #[(.int .i64 0), (.int .i64 0), (.slice none 0 0)] 77, oBox b_r_ #[s_r_.v] 89] [rV s159.v (cSl 1 fI ((el r_.parts 0).signs)), rV s_r_.v (cSl 3 fDPart r_.parts)] _ := hM
      refine o_nil fun w255 hw256 => ?_
      have hM := hM.call hw256
      refine wm_fork [(1, 0), (3, 0)] 3 rfl (by kernel_rfl) rfl (by kernel_rfl) ⟨?_, ?_, trivial⟩
      ·
        refine o_ex1 rfl fun w258 h259 => ?_
        have hM := hM.call h259
        refine exq (r_ldBS Try.underlying77 sz77 rfl (us := [(.int .i64 ((el r_.parts 0).kind)), (.int .i64 ((el r_.parts 0).n)), s159.v]) rfl hM (.tail _ (.head _)) rfl) ?_
        refine ⟨Rel.refl _, ?_⟩
        refine o_nil fun w260 hw261 => ?_
        have hM := hM.call hw261
        refine wm_run [(3, 1), (4, 2), (5, 2)] 0 rfl (by kernel_rfl) (by kernel_rfl) rfl ?_
        refine o_ex1 rfl fun w265 h266 => ?_
        have hM := hM.call h266
        refine x_alloc sz77 hM ?_; intro b263 w262 hR264 hM
        refine ⟨hR264, ?_⟩
        replace hM : St ⟨w, X, S⟩ [oBox b263 #[(.int .i64 0), (.int .i64 0), (.slice none 0 0)] 77, oBox b250 #[(.int .i64 0), (.int .i64 0), (.slice none 0 0)] 77, oBox b162 #[(.int .i64 ((el r_.parts 0).kind)), (.int .i64 ((el r_.parts 0).n)), s159.v] 77, oBox b148 #[(.int .i64 0), (.int .i64 0), (.slice none 0 0)] 77, oBox b_r_ #[s_r_.v] 89] [rV s159.v (cSl 1 fI ((el r_.parts 0).signs)), rV s_r_.v (cSl 3 fDPart r_.parts)] _ := hM
        replace hM := hM.p1
        refine o_exu fun w270 h271 => ?_
        have hM := hM.call h271
        refine x_stB #[(.int .i64 ((el r_.parts 0).kind)), (.int .i64 ((el r_.parts 0).n)), s159.v] sz77 rfl rfl rfl rfl rfl rfl hM ?_; intro w268 hM
        replace hM := hM.p1
        refine o_exu fun w274 h275 => ?_
        have hM := hM.call h275
        refine x_stB #[(.int .i64 ((el r_.parts 0).kind)), (.int .i64 ((el r_.parts 0).n)), s159.v] sz77 rfl rfl rfl rfl rfl rfl hM ?_; intro w272 hM
        refine o_nil fun w276 hw277 => ?_
        have hM := hM.call hw277
        refine wm_end (by kernel_rfl) fun w278 hw279 => ?_
        have hM := hM.call hw279
        replace hM := hM.p1.p2.p3.p4
        have hM := hM.fewer (rsC (.tail _ (.head _)) (rsC (.head _) rsN))
        replace hM : St ⟨w, X, S⟩ [oBox b_r_ #[s_r_.v] 89, oBox b148 #[(.int .i64 0), (.int .i64 0), (.slice none 0 0)] 77, oBox b162 #[(.int .i64 ((el r_.parts 0).kind)), (.int .i64 ((el r_.parts 0).n)), s159.v] 77, oBox b250 #[(.int .i64 ((el r_.parts 0).kind)), (.int .i64 ((el r_.parts 0).n)), s159.v] 77, oBox b263 #[(.int .i64 ((el r_.parts 0).kind)), (.int .i64 ((el r_.parts 0).n)), s159.v] 77] [rV s_r_.v (cSl 3 fDPart r_.parts), rV s159.v (cSl 1 fI ((el r_.parts 0).signs))] _ := hM
        exact mid_c (b250, b263) ⟨rfl, rfl, rfl, rfl, rfl, rfl, trivial⟩ hM
      ·
        refine o_ex1 rfl fun w283 h284 => ?_
        have hM := hM.call h284
        refine x_alloc sz77 hM ?_; intro b281 w280 hR282 hM
        refine ⟨hR282, ?_⟩
        replace hM : St ⟨w, X, S⟩ [oBox b281 #[(.int .i64 0), (.int .i64 0), (.slice none 0 0)] 77, oBox b250 #[(.int .i64 0), (.int .i64 0), (.slice none 0 0)] 77, oBox b162 #[(.int .i64 ((el r_.parts 0).kind)), (.int .i64 ((el r_.parts 0).n)), s159.v] 77, oBox b148 #[(.int .i64 0), (.int .i64 0), (.slice none 0 0)] 77, oBox b_r_ #[s_r_.v] 89] [rV s159.v (cSl 1 fI ((el r_.parts 0).signs)), rV s_r_.v (cSl 3 fDPart r_.parts)] _ := hM
        refine o_nil fun w286 hw287 => ?_
        have hM := hM.call hw287
        refine wm_fork [(1, 0), (4, 1)] 2 rfl (by kernel_rfl) rfl (by kernel_rfl) ⟨?_, ?_, trivial⟩
        ·
          refine o_ex1 rfl fun w289 h290 => ?_
          have hM := hM.call h290
          refine exq (r_ldBS Try.underlying77 sz77 rfl (us := [(.int .i64 ((el r_.parts 0).kind)), (.int .i64 ((el r_.parts 0).n)), s159.v]) rfl hM (.tail _ (.tail _ (.head _))) rfl) ?_
          refine ⟨Rel.refl _, ?_⟩
          refine o_nil fun w291 hw292 => ?_
          have hM := hM.call hw292
          refine wm_run [(4, 2), (5, 2)] 0 rfl (by kernel_rfl) (by kernel_rfl) rfl ?_
          replace hM := hM.p1
          refine o_exu fun w295 h296 => ?_
          have hM := hM.call h296
          refine x_stB #[(.int .i64 ((el r_.parts 0).kind)), (.int .i64 ((el r_.parts 0).n)), s159.v] sz77 rfl rfl rfl rfl rfl rfl hM ?_; intro w293 hM
          replace hM := hM.p1
          refine o_exu fun w299 h300 => ?_
          have hM := hM.call h300
          refine x_stB #[(.int .i64 ((el r_.parts 0).kind)), (.int .i64 ((el r_.parts 0).n)), s159.v] sz77 rfl rfl rfl rfl rfl rfl hM ?_; intro w297 hM
          refine o_nil fun w301 hw302 => ?_
          have hM := hM.call hw302
          refine wm_end (by kernel_rfl) fun w303 hw304 => ?_
          have hM := hM.call hw304
          replace hM := hM.p1.p2.p3.p4
          have hM := hM.fewer (rsC (.tail _ (.head _)) (rsC (.head _) rsN))
          replace hM : St ⟨w, X, S⟩ [oBox b_r_ #[s_r_.v] 89, oBox b148 #[(.int .i64 0), (.int .i64 0), (.slice none 0 0)] 77, oBox b162 #[(.int .i64 ((el r_.parts 0).kind)), (.int .i64 ((el r_.parts 0).n)), s159.v] 77, oBox b250 #[(.int .i64 ((el r_.parts 0).kind)), (.int .i64 ((el r_.parts 0).n)), s159.v] 77, oBox b281 #[(.int .i64 ((el r_.parts 0).kind)), (.int .i64 ((el r_.parts 0).n)), s159.v] 77] [rV s_r_.v (cSl 3 fDPart r_.parts), rV s159.v (cSl 1 fI ((el r_.parts 0).signs))] _ := hM
          exact mid_c (b250, b281) ⟨rfl, rfl, rfl, rfl, rfl, rfl, trivial⟩ hM
        ·
          replace hM := hM.p1
          refine o_exu fun w307 h308 => ?_
          have hM := hM.call h308
          refine x_stB #[(.int .i64 ((el r_.parts 0).kind)), (.int .i64 ((el r_.parts 0).n)), s159.v] sz77 rfl rfl rfl rfl rfl rfl hM ?_; intro w305 hM
          refine o_nil fun w309 hw310 => ?_
          have hM := hM.call hw310
          refine wm_run [(1, 1), (5, 2)] 0 rfl (by kernel_rfl) (by kernel_rfl) rfl ?_
          refine o_ex1 rfl fun w312 h313 => ?_
          have hM := hM.call h313
          refine exq (r_ldBS Try.underlying77 sz77 rfl (us := [(.int .i64 ((el r_.parts 0).kind)), (.int .i64 ((el r_.parts 0).n)), s159.v]) rfl hM (.tail _ (.tail _ (.head _))) rfl) ?_
          refine ⟨Rel.refl _, ?_⟩
          replace hM := hM.p1
          refine o_exu fun w316 h317 => ?_
          have hM := hM.call h317
          refine x_stB #[(.int .i64 ((el r_.parts 0).kind)), (.int .i64 ((el r_.parts 0).n)), s159.v] sz77 rfl rfl rfl rfl rfl rfl hM ?_; intro w314 hM
          refine o_nil fun w318 hw319 => ?_
          have hM := hM.call hw319
          refine wm_end (by kernel_rfl) fun w320 hw321 => ?_
          have hM := hM.call hw321
          replace hM := hM.p1.p2.p3.p4
          have hM := hM.fewer (rsC (.tail _ (.head _)) (rsC (.head _) rsN))
          replace hM : St ⟨w, X, S⟩ [oBox b_r_ #[s_r_.v] 89, oBox b148 #[(.int .i64 0), (.int .i64 0), (.slice none 0 0)] 77, oBox b162 #[(.int .i64 ((el r_.parts 0).kind)), (.int .i64 ((el r_.parts 0).n)), s159.v] 77, oBox b250 #[(.int .i64 ((el r_.parts 0).kind)), (.int .i64 ((el r_.parts 0).n)), s159.v] 77, oBox b281 #[(.int .i64 ((el r_.parts 0).kind)), (.int .i64 ((el r_.parts 0).n)), s159.v] 77] [rV s_r_.v (cSl 3 fDPart r_.parts), rV s159.v (cSl 1 fI ((el r_.parts 0).signs))] _ := hM
          exact mid_c (b250, b281) ⟨rfl, rfl, rfl, rfl, rfl, rfl, trivial⟩ hM
    ·
      refine o_ex1 rfl fun w325 h326 => ?_
      have hM := hM.call h326
      refine x_alloc sz77 hM ?_; intro b323 w322 hR324 hM
      refine ⟨hR324, ?_⟩
      replace hM : St ⟨w, X, S⟩ [oBox b323 #[(.int .i64 0), (.int .i64 0), (.slice none 0 0)] 77, oBox b162 #[(.int .i64 ((el r_.parts 0).kind)), (.int .i64 ((el r_.parts 0).n)), s159.v] 77, oBox b148 #[(.int .i64 0), (.int .i64 0), (.slice none 0 0)] 77, oBox b_r_ #[s_r_.v] 89] [rV s159.v (cSl 1 fI ((el r_.parts 0).signs)), rV s_r_.v (cSl 3 fDPart r_.parts)] _ := hM
      refine o_nil fun w328 hw329 => ?_
      have hM := hM.call hw329
      refine wm_fork [(1, 0), (2, 0)] 3 rfl (by kernel_rfl) rfl (by kernel_rfl) ⟨?_, ?_, trivial⟩
      ·
        refine o_ex1 rfl fun w331 h332 => ?_
        have hM := hM.call h332
        refine exq (r_ldBS Try.underlying77 sz77 rfl (us := [(.int .i64 ((el r_.parts 0).kind)), (.int .i64 ((el r_.parts 0).n)), s159.v]) rfl hM (.tail _ (.head _)) rfl) ?_
        refine ⟨Rel.refl _, ?_⟩
        refine o_nil fun w333 hw334 => ?_
        have hM := hM.call hw334
        refine wm_run [(2, 1), (4, 2), (5, 2)] 0 rfl (by kernel_rfl) (by kernel_rfl) rfl ?_
        refine o_ex1 rfl fun w338 h339 => ?_
        have hM := hM.call h339
        refine x_alloc sz77 hM ?_; intro b336 w335 hR337 hM
        refine ⟨hR337, ?_⟩
        replace hM : St ⟨w, X, S⟩ [oBox b336 #[(.int .i64 0), (.int .i64 0), (.slice none 0 0)] 77, oBox b323 #[(.int .i64 0), (.int .i64 0), (.slice none 0 0)] 77, oBox b162 #[(.int .i64 ((el r_.parts 0).kind)), (.int .i64 ((el r_.parts 0).n)), s159.v] 77, oBox b148 #[(.int .i64 0), (.int .i64 0), (.slice none 0 0)] 77, oBox b_r_ #[s_r_.v] 89] [rV s159.v (cSl 1 fI ((el r_.parts 0).signs)), rV s_r_.v (cSl 3 fDPart r_.parts)] _ := hM
        refine o_exu fun w343 h344 => ?_
        have hM := hM.call h344
        refine x_stB #[(.int .i64 ((el r_.parts 0).kind)), (.int .i64 ((el r_.parts 0).n)), s159.v] sz77 rfl rfl rfl rfl rfl rfl hM ?_; intro w341 hM
        replace hM := hM.p1
        refine o_exu fun w347 h348 => ?_
        have hM := hM.call h348
        refine x_stB #[(.int .i64 ((el r_.parts 0).kind)), (.int .i64 ((el r_.parts 0).n)), s159.v] sz77 rfl rfl rfl rfl rfl rfl hM ?_; intro w345 hM
        refine o_nil fun w349 hw350 => ?_
        have hM := hM.call hw350
        refine wm_end (by kernel_rfl) fun w351 hw352 => ?_
        have hM := hM.call hw352
        replace hM := hM.p1.p2.p3.p4
        have hM := hM.fewer (rsC (.tail _ (.head _)) (rsC (.head _) rsN))
        replace hM : St ⟨w, X, S⟩ [oBox b_r_ #[s_r_.v] 89, oBox b148 #[(.int .i64 0), (.int .i64 0), (.slice none 0 0)] 77, oBox b162 #[(.int .i64 ((el r_.parts 0).kind)), (.int .i64 ((el r_.parts 0).n)), s159.v] 77, oBox b336 #[(.int .i64 ((el r_.parts 0).kind)), (.int .i64 ((el r_.parts 0).n)), s159.v] 77, oBox b323 #[(.int .i64 ((el r_.parts 0).kind)), (.int .i64 ((el r_.parts 0).n)), s159.v] 77] [rV s_r_.v (cSl 3 fDPart r_.parts), rV s159.v (cSl 1 fI ((el r_.parts 0).signs))] _ := hM
        exact mid_c (b336, b323) ⟨rfl, rfl, rfl, rfl, rfl, rfl, trivial⟩ hM
      ·
        refine o_ex1 rfl fun w356 h357 => ?_
        have hM := hM.call h357
        refine x_alloc sz77 hM ?_; intro b354 w353 hR355 hM
        refine ⟨hR355, ?_⟩
        replace hM : St ⟨w, X, S⟩ [oBox b354 #[(.int .i64 0), (.int .i64 0), (.slice none 0 0)] 77, oBox b323 #[(.int .i64 0), (.int .i64 0), (.slice none 0 0)] 77, oBox b162 #[(.int .i64 ((el r_.parts 0).kind)), (.int .i64 ((el r_.parts 0).n)), s159.v] 77, oBox b148 #[(.int .i64 0), (.int .i64 0), (.slice none 0 0)] 77, oBox b_r_ #[s_r_.v] 89] [rV s159.v (cSl 1 fI ((el r_.parts 0).signs)), rV s_r_.v (cSl 3 fDPart r_.parts)] _ := hM
        refine o_nil fun w359 hw360 => ?_
        have hM := hM.call hw360
        refine wm_fork [(1, 0), (4, 1)] 2 rfl (by kernel_rfl) rfl (by kernel_rfl) ⟨?_, ?_, trivial⟩
        ·
          refine o_ex1 rfl fun w362 h363 => ?_
          have hM := hM.call h363
          refine exq (r_ldBS Try.underlying77 sz77 rfl (us := [(.int .i64 ((el r_.parts 0).kind)), (.int .i64 ((el r_.parts 0).n)), s159.v]) rfl hM (.tail _ (.tail _ (.head _))) rfl) ?_
          refine ⟨Rel.refl _, ?_⟩
          refine o_nil fun w364 hw365 => ?_
          have hM := hM.call hw365
          refine wm_run [(4, 2), (5, 2)] 0 rfl (by kernel_rfl) (by kernel_rfl) rfl ?_
          refine o_exu fun w368 h369 => ?_
          have hM := hM.call h369
          refine x_stB #[(.int .i64 ((el r_.parts 0).kind)), (.int .i64 ((el r_.parts 0).n)), s159.v] sz77 rfl rfl rfl rfl rfl rfl hM ?_; intro w366 hM
          replace hM := hM.p1
          refine o_exu fun w372 h373 => ?_
          have hM := hM.call h373
          refine x_stB #[(.int .i64 ((el r_.parts 0).kind)), (.int .i64 ((el r_.parts 0).n)), s159.v] sz77 rfl rfl rfl rfl rfl rfl hM ?_; intro w370 hM
          refine o_nil fun w374 hw375 => ?_
          have hM := hM.call hw375
          refine wm_end (by kernel_rfl) fun w376 hw377 => ?_
          have hM := hM.call hw377
          replace hM := hM.p1.p2.p3.p4
          have hM := hM.fewer (rsC (.tail _ (.head _)) (rsC (.head _) rsN))
          replace hM : St ⟨w, X, S⟩ [oBox b_r_ #[s_r_.v] 89, oBox b148 #[(.int .i64 0), (.int .i64 0), (.slice none 0 0)] 77, oBox b162 #[(.int .i64 ((el r_.parts 0).kind)), (.int .i64 ((el r_.parts 0).n)), s159.v] 77, oBox b354 #[(.int .i64 ((el r_.parts 0).kind)), (.int .i64 ((el r_.parts 0).n)), s159.v] 77, oBox b323 #[(.int .i64 ((el r_.parts 0).kind)), (.int .i64 ((el r_.parts 0).n)), s159.v] 77] [rV s_r_.v (cSl 3 fDPart r_.parts), rV s159.v (cSl 1 fI ((el r_.parts 0).signs))] _ := hM
          exact mid_c (b354, b323) ⟨rfl, rfl, rfl, rfl, rfl, rfl, trivial⟩ hM
        ·
          refine o_exu fun w380 h381 => ?_
          have hM := hM.call h381
          refine x_stB #[(.int .i64 ((el r_.parts 0).kind)), (.int .i64 ((el r_.parts 0).n)), s159.v] sz77 rfl rfl rfl rfl rfl rfl hM ?_; intro w378 hM
          refine o_nil fun w382 hw383 => ?_
          have hM := hM.call hw383
          refine wm_run [(1, 1), (5, 2)] 0 rfl (by kernel_rfl) (by kernel_rfl) rfl ?_
          refine o_ex1 rfl fun w385 h386 => ?_
          have hM := hM.call h386
          refine exq (r_ldBS Try.underlying77 sz77 rfl (us := [(.int .i64 ((el r_.parts 0).kind)), (.int .i64 ((el r_.parts 0).n)), s159.v]) rfl hM (.tail _ (.tail _ (.head _))) rfl) ?_
          refine ⟨Rel.refl _, ?_⟩
          replace hM := hM.p1
          refine o_exu fun w389 h390 => ?_
          have hM := hM.call h390
          refine x_stB #[(.int .i64 ((el r_.parts 0).kind)), (.int .i64 ((el r_.parts 0).n)), s159.v] sz77 rfl rfl rfl rfl rfl rfl hM ?_; intro w387 hM
          refine o_nil fun w391 hw392 => ?_
          have hM := hM.call hw392
          refine wm_end (by kernel_rfl) fun w393 hw394 => ?_
          have hM := hM.call hw394
          replace hM := hM.p1.p2.p3.p4
          have hM := hM.fewer (rsC (.tail _ (.head _)) (rsC (.head _) rsN))
          replace hM : St ⟨w, X, S⟩ [oBox b_r_ #[s_r_.v] 89, oBox b148 #[(.int .i64 0), (.int .i64 0), (.slice none 0 0)] 77, oBox b162 #[(.int .i64 ((el r_.parts 0).kind)), (.int .i64 ((el r_.parts 0).n)), s159.v] 77, oBox b354 #[(.int .i64 ((el r_.parts 0).kind)), (.int .i64 ((el r_.parts 0).n)), s159.v] 77, oBox b323 #[(.int .i64 ((el r_.parts 0).kind)), (.int .i64 ((el r_.parts 0).n)), s159.v] 77] [rV s_r_.v (cSl 3 fDPart r_.parts), rV s159.v (cSl 1 fI ((el r_.parts 0).signs))] _ := hM
          exact mid_c (b354, b323) ⟨rfl, rfl, rfl, rfl, rfl, rfl, trivial⟩ hM
  rintro ⟨b170, b176⟩ w395 hM
  refine sq_n ?_
  refine wc_seq ?_
  refine wc_seq ?_
  refine wc_region ?_
  refine wv rfl (r_fld Try.underlying77 rfl rfl sz3 rfl) ?_
  refine wv rfl (r_ldB Try.underlying3 rfl rfl hM (.tail _ (.tail _ (.head _))) rfl) ?_
  refine wv rfl (r_eql rfl rfl) ?_
  refine wl_nil ?_
  refine sq_n ?_
  refine wc_cond rfl (fun hc399 => ?_) (fun hc399 => ?_)
  · replace hx := xif_t hc399 hx
    obtain ⟨hg404, hx⟩ := xg_some hx
    obtain ⟨hg410, hx⟩ := xg_some hx
    refine wc_mid (fun (u : Unit) => [(0, (.pointer (some ⟨b_r_, 0, none⟩))), (4, (.pointer (some ⟨b148, 0, none⟩))), (6, (.pointer (some ⟨b170, 0, none⟩))), (7, (.pointer (some ⟨b176, 0, none⟩)))]) (fun (u : Unit) w' => St ⟨w, X, S⟩ [oBox b_r_ #[s_r_.v] 89, oBox b148 #[(.int .i64 0), (.int .i64 0), (.slice none 0 0)] 77, oBox b170 #[(.int .i64 ((el r_.parts 0).kind)), (.int .i64 ((el r_.parts 0).n)), (s159.cut 1 n.toNat (((el r_.parts 0).signs).length)).v] 77, oBox b176 #[(.int .i64 ((el r_.parts 0).kind)), (.int .i64 ((el r_.parts 0).n)), (s159.cut 1 0 n.toNat).v] 77] [rV s_r_.v (cSl 3 fDPart r_.parts), rV (s159.cut 1 n.toNat (((el r_.parts 0).signs).length)).v (cSl 1 fI ((((el r_.parts 0).signs).take ((el r_.parts 0).signs).length).drop n.toNat)), rV (s159.cut 1 0 n.toNat).v (cSl 1 fI ((((el r_.parts 0).signs).take n.toNat).drop 0))] w') ?_ ?_
    · refine wc_drawM Try_mixed ?_
      refine wm_run [(0, 0), (1, 0), (2, 0), (3, 0), (6, 0), (8, 0)] 6 rfl (by kernel_rfl) (by kernel_rfl) rfl ?_
      refine ov rfl (fun w' h' => r_fld Try.underlying77 rfl rfl sz26 rfl) ?_
      refine ov rfl (fun w' h' => r_ldB Try.underlying26 rfl rfl (hM.call h') (.tail _ (.tail _ (.head _))) rfl) ?_
      refine ov rfl (fun w' h' => r_move rfl) ?_
      have hM := hM.cutR (L := ((el r_.parts 0).signs)) (f := fI) (lo := 0) (hi := n.toNat) (fun _ => rfl) (by omega) (by omega) (.tail _ (.head _))
      refine ov rfl (fun w' h' => r_slc_hi Try.underlying26 sz3 rfl rfl ((hM.call h').seeR (.tail _ (.tail _ (.head _)))) hg404) ?_
      refine ov rfl (fun w' h' => r_move rfl) ?_
      refine ov rfl (fun w' h' => r_fld Try.underlying77 rfl rfl sz26 rfl) ?_
      refine o_nil fun w426 hw427 => ?_
      have hM := hM.call hw427
      refine wm_fork [(4, 0), (9, 1)] 5 rfl (by kernel_rfl) rfl (by kernel_rfl) ⟨?_, ?_, trivial⟩
      ·
        refine o_ex1 rfl fun w429 h430 => ?_
        have hM := hM.call h430
        refine exq (r_fld Try.underlying77 rfl rfl sz26 rfl) ?_
        refine ⟨Rel.refl _, ?_⟩
        refine o_nil fun w431 hw432 => ?_
        have hM := hM.call hw432
        refine wm_fork [(5, 0), (9, 1)] 4 rfl (by kernel_rfl) rfl (by kernel_rfl) ⟨?_, ?_, trivial⟩
        ·
          refine o_ex1 rfl fun w434 h435 => ?_
          have hM := hM.call h435
          refine exq (r_ldB Try.underlying26 rfl rfl hM (.tail _ (.tail _ (.head _))) rfl) ?_
          refine ⟨Rel.refl _, ?_⟩
          refine o_nil fun w436 hw437 => ?_
          have hM := hM.call hw437
          refine wm_fork [(7, 0), (9, 1)] 3 rfl (by kernel_rfl) rfl (by kernel_rfl) ⟨?_, ?_, trivial⟩
          ·
            have hM := hM.cutR (L := ((el r_.parts 0).signs)) (f := fI) (lo := n.toNat) (hi := (((el r_.parts 0).signs).length)) (fun _ => rfl) (by omega) (by omega) (.tail _ (.tail _ (.head _)))
            refine o_ex1 rfl fun w439 h440 => ?_
            have hM := hM.call h440
            refine exq (r_slc_lo Try.underlying26 sz3 rfl rfl (hM.seeR (.tail _ (.tail _ (.tail _ (.head _))))) hg410) ?_
            refine ⟨Rel.refl _, ?_⟩
            refine o_nil fun w441 hw442 => ?_
            have hM := hM.call hw442
            refine wm_run [(9, 2), (10, 0), (11, 2)] 0 rfl (by kernel_rfl) (by kernel_rfl) rfl ?_
            replace hM := hM.p4
            refine o_exu fun w445 h446 => ?_
            have hM := hM.call h446
            refine x_stB #[(.int .i64 ((el r_.parts 0).kind)), (.int .i64 ((el r_.parts 0).n)), (s159.cut 1 0 n.toNat).v] sz26 rfl rfl rfl rfl rfl rfl hM ?_; intro w443 hM
            refine ov rfl (fun w' h' => r_fld Try.underlying77 rfl rfl sz26 rfl) ?_
            replace hM := hM.p4
            refine o_exu fun w450 h451 => ?_
            have hM := hM.call h451
            refine x_stB #[(.int .i64 ((el r_.parts 0).kind)), (.int .i64 ((el r_.parts 0).n)), (s159.cut 1 n.toNat (((el r_.parts 0).signs).length)).v] sz26 rfl rfl rfl rfl rfl rfl hM ?_; intro w448 hM
            refine o_nil fun w452 hw453 => ?_
            have hM := hM.call hw453
            refine wm_end (by kernel_rfl) fun w454 hw455 => ?_
            have hM := hM.call hw455
            replace hM := hM.p1.p1.p3.p3
            replace hM := hM.t4
            have hM := hM.fewer (rsC (.tail _ (.tail _ (.head _))) (rsC (.head _) (rsC (.tail _ (.head _)) rsN)))
            replace hM : St ⟨w, X, S⟩ [oBox b_r_ #[s_r_.v] 89, oBox b148 #[(.int .i64 0), (.int .i64 0), (.slice none 0 0)] 77, oBox b170 #[(.int .i64 ((el r_.parts 0).kind)), (.int .i64 ((el r_.parts 0).n)), (s159.cut 1 n.toNat (((el r_.parts 0).signs).length)).v] 77, oBox b176 #[(.int .i64 ((el r_.parts 0).kind)), (.int .i64 ((el r_.parts 0).n)), (s159.cut 1 0 n.toNat).v] 77] [rV s_r_.v (cSl 3 fDPart r_.parts), rV (s159.cut 1 n.toNat (((el r_.parts 0).signs).length)).v (cSl 1 fI ((((el r_.parts 0).signs).take ((el r_.parts 0).signs).length).drop n.toNat)), rV (s159.cut 1 0 n.toNat).v (cSl 1 fI ((((el r_.parts 0).signs).take n.toNat).drop 0))] _ := hM
            exact mid_c () ⟨rfl, rfl, rfl, rfl, trivial⟩ hM
          ·
            replace hM := hM.p4
            refine o_exu fun w458 h459 => ?_
            have hM := hM.call h459
            refine x_stB #[(.int .i64 ((el r_.parts 0).kind)), (.int .i64 ((el r_.parts 0).n)), (s159.cut 1 0 n.toNat).v] sz26 rfl rfl rfl rfl rfl rfl hM ?_; intro w456 hM
            refine o_nil fun w460 hw461 => ?_
            have hM := hM.call hw461
            refine wm_run [(7, 1), (10, 0), (11, 2)] 0 rfl (by kernel_rfl) (by kernel_rfl) rfl ?_
            have hM := hM.cutR (L := ((el r_.parts 0).signs)) (f := fI) (lo := n.toNat) (hi := (((el r_.parts 0).signs).length)) (fun _ => rfl) (by omega) (by omega) (.tail _ (.tail _ (.head _)))
            refine o_ex1 rfl fun w463 h464 => ?_
            have hM := hM.call h464
            refine exq (r_slc_lo Try.underlying26 sz3 rfl rfl (hM.seeR (.tail _ (.tail _ (.tail _ (.head _))))) hg410) ?_
            refine ⟨Rel.refl _, ?_⟩
            refine ov rfl (fun w' h' => r_fld Try.underlying77 rfl rfl sz26 rfl) ?_
            replace hM := hM.p4
            refine o_exu fun w468 h469 => ?_
            have hM := hM.call h469
            refine x_stB #[(.int .i64 ((el r_.parts 0).kind)), (.int .i64 ((el r_.parts 0).n)), (s159.cut 1 n.toNat (((el r_.parts 0).signs).length)).v] sz26 rfl rfl rfl rfl rfl rfl hM ?_; intro w466 hM
            refine o_nil fun w470 hw471 => ?_
            have hM := hM.call hw471
            refine wm_end (by kernel_rfl) fun w472 hw473 => ?_
            have hM := hM.call hw473
            replace hM := hM.p1.p1.p3.p3
            replace hM := hM.t4
            have hM := hM.fewer (rsC (.tail _ (.tail _ (.head _))) (rsC (.head _) (rsC (.tail _ (.head _)) rsN)))
            replace hM : St ⟨w, X, S⟩ [oBox b_r_ #[s_r_.v] 89, oBox b148 #[(.int .i64 0), (.int .i64 0), (.slice none 0 0)] 77, oBox b170 #[(.int .i64 ((el r_.parts 0).kind)), (.int .i64 ((el r_.parts 0).n)), (s159.cut 1 n.toNat (((el r_.parts 0).signs).length)).v] 77, oBox b176 #[(.int .i64 ((el r_.parts 0).kind)), (.int .i64 ((el r_.parts 0).n)), (s159.cut 1 0 n.toNat).v] 77] [rV s_r_.v (cSl 3 fDPart r_.parts), rV (s159.cut 1 n.toNat (((el r_.parts 0).signs).length)).v (cSl 1 fI ((((el r_.parts 0).signs).take ((el r_.parts 0).signs).length).drop n.toNat)), rV (s159.cut 1 0 n.toNat).v (cSl 1 fI ((((el r_.parts 0).signs).take n.toNat).drop 0))] _ := hM
            exact mid_c () ⟨rfl, rfl, rfl, rfl, trivial⟩ hM
        ·
          replace hM := hM.p4
          refine o_exu fun w476 h477 => ?_
          have hM := hM.call h477
          refine x_stB #[(.int .i64 ((el r_.parts 0).kind)), (.int .i64 ((el r_.parts 0).n)), (s159.cut 1 0 n.toNat).v] sz26 rfl rfl rfl rfl rfl rfl hM ?_; intro w474 hM
          refine o_nil fun w478 hw479 => ?_
          have hM := hM.call hw479
          refine wm_run [(5, 1), (7, 1), (10, 0), (11, 2)] 0 rfl (by kernel_rfl) (by kernel_rfl) rfl ?_
          refine o_ex1 rfl fun w481 h482 => ?_
          have hM := hM.call h482
          refine exq (r_ldB Try.underlying26 rfl rfl hM (.tail _ (.tail _ (.tail _ (.head _)))) rfl) ?_
          refine ⟨Rel.refl _, ?_⟩
          have hM := hM.cutR (L := ((el r_.parts 0).signs)) (f := fI) (lo := n.toNat) (hi := (((el r_.parts 0).signs).length)) (fun _ => rfl) (by omega) (by omega) (.tail _ (.tail _ (.head _)))
          refine o_ex1 rfl fun w484 h485 => ?_
          have hM := hM.call h485
          refine exq (r_slc_lo Try.underlying26 sz3 rfl rfl (hM.seeR (.tail _ (.tail _ (.tail _ (.head _))))) hg410) ?_
          refine ⟨Rel.refl _, ?_⟩
          refine ov rfl (fun w' h' => r_fld Try.underlying77 rfl rfl sz26 rfl) ?_
          replace hM := hM.p4
          refine o_exu fun w489 h490 => ?_
          have hM := hM.call h490
          refine x_stB #[(.int .i64 ((el r_.parts 0).kind)), (.int .i64 ((el r_.parts 0).n)), (s159.cut 1 n.toNat (((el r_.parts 0).signs).length)).v] sz26 rfl rfl rfl rfl rfl rfl hM ?_; intro w487 hM
          refine o_nil fun w491 hw492 => ?_
          have hM := hM.call hw492
          refine wm_end (by kernel_rfl) fun w493 hw494 => ?_
          have hM := hM.call hw494
          replace hM := hM.p1.p1.p3.p3
          replace hM := hM.t4
          have hM := hM.fewer (rsC (.tail _ (.tail _ (.head _))) (rsC (.head _) (rsC (.tail _ (.head _)) rsN)))
          replace hM : St ⟨w, X, S⟩ [oBox b_r_ #[s_r_.v] 89, oBox b148 #[(.int .i64 0), (.int .i64 0), (.slice none 0 0)] 77, oBox b170 #[(.int .i64 ((el r_.parts 0).kind)), (.int .i64 ((el r_.parts 0).n)), (s159.cut 1 n.toNat (((el r_.parts 0).signs).length)).v] 77, oBox b176 #[(.int .i64 ((el r_.parts 0).kind)), (.int .i64 ((el r_.parts 0).n)), (s159.cut 1 0 n.toNat).v] 77] [rV s_r_.v (cSl 3 fDPart r_.parts), rV (s159.cut 1 n.toNat (((el r_.parts 0).signs).length)).v (cSl 1 fI ((((el r_.parts 0).signs).take ((el r_.parts 0).signs).length).drop n.toNat)), rV (s159.cut 1 0 n.toNat).v (cSl 1 fI ((((el r_.parts 0).signs).take n.toNat).drop 0))] _ := hM
          exact mid_c () ⟨rfl, rfl, rfl, rfl, trivial⟩ hM
      ·
        replace hM := hM.p4
        refine o_exu fun w497 h498 => ?_
        have hM := hM.call h498
        refine x_stB #[(.int .i64 ((el r_.parts 0).kind)), (.int .i64 ((el r_.parts 0).n)), (s159.cut 1 0 n.toNat).v] sz26 rfl rfl rfl rfl rfl rfl hM ?_; intro w495 hM
        refine o_nil fun w499 hw500 => ?_
        have hM := hM.call hw500
        refine wm_run [(4, 1), (5, 1), (7, 1), (10, 0), (11, 2)] 0 rfl (by kernel_rfl) (by kernel_rfl) rfl ?_
        refine o_ex1 rfl fun w502 h503 => ?_
        have hM := hM.call h503
        refine exq (r_fld Try.underlying77 rfl rfl sz26 rfl) ?_
        refine ⟨Rel.refl _, ?_⟩
        refine o_ex1 rfl fun w505 h506 => ?_
        have hM := hM.call h506
        refine exq (r_ldB Try.underlying26 rfl rfl hM (.tail _ (.tail _ (.tail _ (.head _)))) rfl) ?_
        refine ⟨Rel.refl _, ?_⟩
        have hM := hM.cutR (L := ((el r_.parts 0).signs)) (f := fI) (lo := n.toNat) (hi := (((el r_.parts 0).signs).length)) (fun _ => rfl) (by omega) (by omega) (.tail _ (.tail _ (.head _)))
        refine o_ex1 rfl fun w508 h509 => ?_
        have hM := hM.call h509
        refine exq (r_slc_lo Try.underlying26 sz3 rfl rfl (hM.seeR (.tail _ (.tail _ (.tail _ (.head _))))) hg410) ?_
        refine ⟨Rel.refl _, ?_⟩
        refine ov rfl (fun w' h' => r_fld Try.underlying77 rfl rfl sz26 rfl) ?_
        replace hM := hM.p4
        refine o_exu fun w513 h514 => ?_
        have hM := hM.call h514
        refine x_stB #[(.int .i64 ((el r_.parts 0).kind)), (.int .i64 ((el r_.parts 0).n)), (s159.cut 1 n.toNat (((el r_.parts 0).signs).length)).v] sz26 rfl rfl rfl rfl rfl rfl hM ?_; intro w511 hM
        refine o_nil fun w515 hw516 => ?_
        have hM := hM.call hw516
        refine wm_end (by kernel_rfl) fun w517 hw518 => ?_
        have hM := hM.call hw518
        replace hM := hM.p1.p1.p3.p3
        replace hM := hM.t4
        have hM := hM.fewer (rsC (.tail _ (.tail _ (.head _))) (rsC (.head _) (rsC (.tail _ (.head _)) rsN)))
        replace hM : St ⟨w, X, S⟩ [oBox b_r_ #[s_r_.v] 89, oBox b148 #[(.int .i64 0), (.int .i64 0), (.slice none 0 0)] 77, oBox b170 #[(.int .i64 ((el r_.parts 0).kind)), (.int .i64 ((el r_.parts 0).n)), (s159.cut 1 n.toNat (((el r_.parts 0).signs).length)).v] 77, oBox b176 #[(.int .i64 ((el r_.parts 0).kind)), (.int .i64 ((el r_.parts 0).n)), (s159.cut 1 0 n.toNat).v] 77] [rV s_r_.v (cSl 3 fDPart r_.parts), rV (s159.cut 1 n.toNat (((el r_.parts 0).signs).length)).v (cSl 1 fI ((((el r_.parts 0).signs).take ((el r_.parts 0).signs).length).drop n.toNat)), rV (s159.cut 1 0 n.toNat).v (cSl 1 fI ((((el r_.parts 0).signs).take n.toNat).drop 0))] _ := hM
        exact mid_c () ⟨rfl, rfl, rfl, rfl, trivial⟩ hM
    rintro u w519 hM
    refine sq_n ?_
    refine wc_seq ?_
    refine wc_draw [(0, 0), (1, 0), (3, 0), (4, 0), (5, 0), (6, 0), (7, 0), (2, 1), (8, 2), (9, 0), (10, 0), (11, 2)] Try_mixed (by kernel_rfl) rfl (by kernel_rfl) rfl ?_
    refine ov rfl (fun w' h' => r_move rfl) ?_
    refine ov rfl (fun w' h' => r_ldBS Try.underlying77 sz77 rfl (us := [(.int .i64 ((el r_.parts 0).kind)), (.int .i64 ((el r_.parts 0).n)), (s159.cut 1 n.toNat (((el r_.parts 0).signs).length)).v]) rfl (hM.call h') (.tail _ (.tail _ (.head _))) rfl) ?_
    refine ov rfl (fun w' h' => r_move rfl) ?_
    refine ov rfl (fun w' h' => r_nilck rfl) ?_
    refine ov rfl (fun w' h' => r_fld Try.underlying89 rfl rfl sz29 rfl) ?_
    refine ov rfl (fun w' h' => r_ldB Try.underlying29 rfl rfl (hM.call h') (.head _) rfl) ?_
    obtain ⟨hg527, hx⟩ := xg_some hx
    have hM := hM.cutR (L := r_.parts) (f := fDPart) (lo := 1) (hi := r_.parts.length) (fun _ => rfl) (by omega) (by omega) (.head _)
    refine ov rfl (fun w' h' => r_slc_lo Try.underlying29 sz77 rfl rfl ((hM.call h').seeR (.tail _ (.head _))) hg527) ?_
    refine o_ex1 rfl fun w531 h532 => ?_
    have hM := hM.call h532
    refine x_litS (f := fDPart) [(⟨(el r_.parts 0).kind, (el r_.parts 0).n, (((el r_.parts 0).signs).take ((el r_.parts 0).signs).length).drop n.toNat⟩ : DPart)] [(.int .i64 ((el r_.parts 0).kind)), (.int .i64 ((el r_.parts 0).n)), (s159.cut 1 n.toNat (((el r_.parts 0).signs).length)).v] 1 Try.underlying29 sz77 rfl rfl rfl rfl rfl (by kernel_rfl) (fun S w hR => ⟨_, _, rfl, rfl, ⟨_, _, rfl, rfl, ⟨_, _, rfl, hR _ (.tail _ (.tail _ (.head _))), rfl⟩⟩⟩) hM ?_; intro s529 w528 hR530 hM
    refine ⟨hR530, ?_⟩
    obtain ⟨hg536, hx⟩ := xg_some hx
    refine o_ex rfl fun w539 h540 => ?_
    have hM := hM.call h540
    refine x_appendS (f := fDPart) (L := [(⟨(el r_.parts 0).kind, (el r_.parts 0).n, (((el r_.parts 0).signs).take ((el r_.parts 0).signs).length).drop n.toNat⟩ : DPart)]) (M := ((r_.parts.take r_.parts.length).drop 1)) Try.underlying29 sz77 rfl rfl (fun _ => rfl) hM (.head _) (.tail _ (.head _)) hg536 rfl ?_; intro s535 xs537 w534 hM
    refine ov rfl (fun w' h' => r_nilck rfl) ?_
    refine ov rfl (fun w' h' => r_fld Try.underlying89 rfl rfl sz29 rfl) ?_
    replace hM := hM.p1
    refine o_exu fun w545 h546 => ?_
    have hM := hM.call h546
    refine x_stB #[s535.v] sz29 rfl rfl rfl rfl rfl rfl hM ?_; intro w543 hM
    refine o_nil fun w547 hw548 => ?_
    have hM := hM.call hw548
    refine sq_n ?_
    refine wc_seq ?_
    refine wc_region ?_
    refine wv rfl (r_ldBS Try.underlying77 sz77 rfl (us := [(.int .i64 ((el r_.parts 0).kind)), (.int .i64 ((el r_.parts 0).n)), (s159.cut 1 0 n.toNat).v]) rfl hM (.tail _ (.tail _ (.tail _ (.tail _ (.head _))))) rfl) ?_
    replace hM := hM.p2
    refine w_exu (x_stB #[(.int .i64 ((el r_.parts 0).kind)), (.int .i64 ((el r_.parts 0).n)), (s159.cut 1 0 n.toNat).v] sz77 rfl rfl rfl rfl rfl rfl hM ?_); intro w550 hM
    refine wl_nil ?_
    refine sq_n ?_
    refine wc_ret ?_
    obtain rfl := Option.some.inj hx
    replace hM := hM.p2
    have hM := hM.sealS (fun _ => rfl) (.head _)
    refine fin_ret [(.agg #[(.int .i64 ((el r_.parts 0).kind)), (.int .i64 ((el r_.parts 0).n)), (s159.cut 1 0 n.toNat).v])] ⟨rv_box Try.underlying77 sz77 rfl rfl hM (.head _), trivial⟩ ?_
    replace hM := hM.p1
    replace hM := hM.t1
    have hM := hM.fewer (rsC (.tail _ (.tail _ (.tail _ (.tail _ (.tail _ (.tail _ (.head _))))))) (rsC (.head _) rsN))
    exact ⟨((s159.cut 1 0 n.toNat), s535), rfl, hM.gives⟩
  · replace hx := xif_f hc399 hx
    obtain ⟨hg558, hx⟩ := xg_some hx
    refine wc_mid (fun (u : Unit) => [(0, (.pointer (some ⟨b_r_, 0, none⟩))), (4, (.pointer (some ⟨b148, 0, none⟩))), (6, (.pointer (some ⟨b170, 0, none⟩))), (7, (.pointer (some ⟨b176, 0, none⟩)))]) (fun (u : Unit) w' => St ⟨w, X, S⟩ [oBox b_r_ #[s_r_.v] 89, oBox b148 #[(.int .i64 0), (.int .i64 0), (.slice none 0 0)] 77, oBox b170 #[(.int .i64 ((el r_.parts 0).kind)), (.int .i64 (((el r_.parts 0).n) - n)), s159.v] 77, oBox b176 #[(.int .i64 ((el r_.parts 0).kind)), (.int .i64 n), s159.v] 77] [rV s_r_.v (cSl 3 fDPart r_.parts), rV s159.v (cSl 1 fI ((el r_.parts 0).signs))] w') ?_ ?_
    · refine wc_drawM Try_mixed ?_
      refine wm_run [(0, 0), (3, 0), (5, 0)] 6 rfl (by kernel_rfl) (by kernel_rfl) rfl ?_
      refine ov rfl (fun w' h' => r_move rfl) ?_
      refine ov rfl (fun w' h' => r_move rfl) ?_
      refine ov rfl (fun w' h' => r_fld Try.underlying77 rfl rfl sz3 rfl) ?_
      refine o_nil fun w571 hw572 => ?_
      have hM := hM.call hw572
      refine wm_fork [(1, 0), (6, 1)] 5 rfl (by kernel_rfl) rfl (by kernel_rfl) ⟨?_, ?_, trivial⟩
      ·
        refine o_ex1 rfl fun w574 h575 => ?_
        have hM := hM.call h575
        refine exq (r_fld Try.underlying77 rfl rfl sz3 rfl) ?_
        refine ⟨Rel.refl _, ?_⟩
        refine o_nil fun w576 hw577 => ?_
        have hM := hM.call hw577
        refine wm_fork [(2, 0), (6, 1)] 4 rfl (by kernel_rfl) rfl (by kernel_rfl) ⟨?_, ?_, trivial⟩
        ·
          refine o_ex1 rfl fun w579 h580 => ?_
          have hM := hM.call h580
          refine exq (r_ldB Try.underlying3 rfl rfl hM (.tail _ (.tail _ (.head _))) rfl) ?_
          refine ⟨Rel.refl _, ?_⟩
          refine o_nil fun w581 hw582 => ?_
          have hM := hM.call hw582
          refine wm_fork [(4, 0), (6, 1)] 3 rfl (by kernel_rfl) rfl (by kernel_rfl) ⟨?_, ?_, trivial⟩
          ·
            refine o_ex1 rfl fun w584 h585 => ?_
            have hM := hM.call h585
            refine exq (r_sub rfl rfl hg558) ?_
            refine ⟨Rel.refl _, ?_⟩
            refine o_nil fun w586 hw587 => ?_
            have hM := hM.call hw587
            refine wm_run [(6, 2), (7, 0), (8, 2)] 0 rfl (by kernel_rfl) (by kernel_rfl) rfl ?_
            replace hM := hM.p4
            refine o_exu fun w590 h591 => ?_
            have hM := hM.call h591
            refine x_stB #[(.int .i64 ((el r_.parts 0).kind)), (.int .i64 n), s159.v] sz3 rfl rfl rfl rfl rfl rfl hM ?_; intro w588 hM
            refine ov rfl (fun w' h' => r_fld Try.underlying77 rfl rfl sz3 rfl) ?_
            replace hM := hM.p4
            refine o_exu fun w595 h596 => ?_
            have hM := hM.call h596
            refine x_stB #[(.int .i64 ((el r_.parts 0).kind)), (.int .i64 (((el r_.parts 0).n) - n)), s159.v] sz3 rfl rfl rfl rfl rfl rfl hM ?_; intro w593 hM
            refine o_nil fun w597 hw598 => ?_
            have hM := hM.call hw598
            refine wm_end (by kernel_rfl) fun w599 hw600 => ?_
            have hM := hM.call hw600
            replace hM := hM.p1.p1.p3.p3
            replace hM := hM.t4
            exact mid_c () ⟨rfl, rfl, rfl, rfl, trivial⟩ hM
          ·
            replace hM := hM.p4
            refine o_exu fun w603 h604 => ?_
            have hM := hM.call h604
            refine x_stB #[(.int .i64 ((el r_.parts 0).kind)), (.int .i64 n), s159.v] sz3 rfl rfl rfl rfl rfl rfl hM ?_; intro w601 hM
            refine o_nil fun w605 hw606 => ?_
            have hM := hM.call hw606
            refine wm_run [(4, 1), (7, 0), (8, 2)] 0 rfl (by kernel_rfl) (by kernel_rfl) rfl ?_
            refine o_ex1 rfl fun w608 h609 => ?_
            have hM := hM.call h609
            refine exq (r_sub rfl rfl hg558) ?_
            refine ⟨Rel.refl _, ?_⟩
            refine ov rfl (fun w' h' => r_fld Try.underlying77 rfl rfl sz3 rfl) ?_
            replace hM := hM.p4
            refine o_exu fun w613 h614 => ?_
            have hM := hM.call h614
            refine x_stB #[(.int .i64 ((el r_.parts 0).kind)), (.int .i64 (((el r_.parts 0).n) - n)), s159.v] sz3 rfl rfl rfl rfl rfl rfl hM ?_; intro w611 hM
            refine o_nil fun w615 hw616 => ?_
            have hM := hM.call hw616
            refine wm_end (by kernel_rfl) fun w617 hw618 => ?_
            have hM := hM.call hw618
            replace hM := hM.p1.p1.p3.p3
            replace hM := hM.t4
            exact mid_c () ⟨rfl, rfl, rfl, rfl, trivial⟩ hM
        ·
          replace hM := hM.p4
          refine o_exu fun w621 h622 => ?_
          have hM := hM.call h622
          refine x_stB #[(.int .i64 ((el r_.parts 0).kind)), (.int .i64 n), s159.v] sz3 rfl rfl rfl rfl rfl rfl hM ?_; intro w619 hM
          refine o_nil fun w623 hw624 => ?_
          have hM := hM.call hw624
          refine wm_run [(2, 1), (4, 1), (7, 0), (8, 2)] 0 rfl (by kernel_rfl) (by kernel_rfl) rfl ?_
          refine o_ex1 rfl fun w626 h627 => ?_
          have hM := hM.call h627
          refine exq (r_ldB Try.underlying3 rfl rfl hM (.tail _ (.tail _ (.tail _ (.head _)))) rfl) ?_
          refine ⟨Rel.refl _, ?_⟩
          refine o_ex1 rfl fun w629 h630 => ?_
          have hM := hM.call h630
          refine exq (r_sub rfl rfl hg558) ?_
          refine ⟨Rel.refl _, ?_⟩
          refine ov rfl (fun w' h' => r_fld Try.underlying77 rfl rfl sz3 rfl) ?_
          replace hM := hM.p4
          refine o_exu fun w634 h635 => ?_
          have hM := hM.call h635
          refine x_stB #[(.int .i64 ((el r_.parts 0).kind)), (.int .i64 (((el r_.parts 0).n) - n)), s159.v] sz3 rfl rfl rfl rfl rfl rfl hM ?_; intro w632 hM
          refine o_nil fun w636 hw637 => ?_
          have hM := hM.call hw637
          refine wm_end (by kernel_rfl) fun w638 hw639 => ?_
          have hM := hM.call hw639
          replace hM := hM.p1.p1.p3.p3
          replace hM := hM.t4
          exact mid_c () ⟨rfl, rfl, rfl, rfl, trivial⟩ hM
      ·
        replace hM := hM.p4
        refine o_exu fun w642 h643 => ?_
        have hM := hM.call h643
        refine x_stB #[(.int .i64 ((el r_.parts 0).kind)), (.int .i64 n), s159.v] sz3 rfl rfl rfl rfl rfl rfl hM ?_; intro w640 hM
        refine o_nil fun w644 hw645 => ?_
        have hM := hM.call hw645
        refine wm_run [(1, 1), (2, 1), (4, 1), (7, 0), (8, 2)] 0 rfl (by kernel_rfl) (by kernel_rfl) rfl ?_
        refine o_ex1 rfl fun w647 h648 => ?_
        have hM := hM.call h648
        refine exq (r_fld Try.underlying77 rfl rfl sz3 rfl) ?_
        refine ⟨Rel.refl _, ?_⟩
        refine o_ex1 rfl fun w650 h651 => ?_
        have hM := hM.call h651
        refine exq (r_ldB Try.underlying3 rfl rfl hM (.tail _ (.tail _ (.tail _ (.head _)))) rfl) ?_
        refine ⟨Rel.refl _, ?_⟩
        refine o_ex1 rfl fun w653 h654 => ?_
        have hM := hM.call h654
        refine exq (r_sub rfl rfl hg558) ?_
        refine ⟨Rel.refl _, ?_⟩
        refine ov rfl (fun w' h' => r_fld Try.underlying77 rfl rfl sz3 rfl) ?_
        replace hM := hM.p4
        refine o_exu fun w658 h659 => ?_
        have hM := hM.call h659
        refine x_stB #[(.int .i64 ((el r_.parts 0).kind)), (.int .i64 (((el r_.parts 0).n) - n)), s159.v] sz3 rfl rfl rfl rfl rfl rfl hM ?_; intro w656 hM
        refine o_nil fun w660 hw661 => ?_
        have hM := hM.call hw661
        refine wm_end (by kernel_rfl) fun w662 hw663 => ?_
        have hM := hM.call hw663
        replace hM := hM.p1.p1.p3.p3
        replace hM := hM.t4
        exact mid_c () ⟨rfl, rfl, rfl, rfl, trivial⟩ hM
    rintro u w664 hM
    refine sq_n ?_
    refine wc_seq ?_
    refine wc_draw [(0, 0), (1, 0), (3, 0), (4, 0), (5, 0), (6, 0), (7, 0), (2, 1), (8, 2), (9, 0), (10, 0), (11, 2)] Try_mixed (by kernel_rfl) rfl (by kernel_rfl) rfl ?_
    refine ov rfl (fun w' h' => r_move rfl) ?_
    refine ov rfl (fun w' h' => r_ldBS Try.underlying77 sz77 rfl (us := [(.int .i64 ((el r_.parts 0).kind)), (.int .i64 (((el r_.parts 0).n) - n)), s159.v]) rfl (hM.call h') (.tail _ (.tail _ (.head _))) rfl) ?_
    refine ov rfl (fun w' h' => r_move rfl) ?_
    refine ov rfl (fun w' h' => r_nilck rfl) ?_
    refine ov rfl (fun w' h' => r_fld Try.underlying89 rfl rfl sz29 rfl) ?_
    refine ov rfl (fun w' h' => r_ldB Try.underlying29 rfl rfl (hM.call h') (.head _) rfl) ?_
    obtain ⟨hg672, hx⟩ := xg_some hx
    have hM := hM.cutR (L := r_.parts) (f := fDPart) (lo := 1) (hi := r_.parts.length) (fun _ => rfl) (by omega) (by omega) (.head _)
    refine ov rfl (fun w' h' => r_slc_lo Try.underlying29 sz77 rfl rfl ((hM.call h').seeR (.tail _ (.head _))) hg672) ?_
    refine o_ex1 rfl fun w676 h677 => ?_
    have hM := hM.call h677
    refine x_litS (f := fDPart) [(⟨(el r_.parts 0).kind, ((el r_.parts 0).n) - n, (el r_.parts 0).signs⟩ : DPart)] [(.int .i64 ((el r_.parts 0).kind)), (.int .i64 (((el r_.parts 0).n) - n)), s159.v] 1 Try.underlying29 sz77 rfl rfl rfl rfl rfl (by kernel_rfl) (fun S w hR => ⟨_, _, rfl, rfl, ⟨_, _, rfl, rfl, ⟨_, _, rfl, hR _ (.tail _ (.tail _ (.head _))), rfl⟩⟩⟩) hM ?_; intro s674 w673 hR675 hM
    refine ⟨hR675, ?_⟩
    obtain ⟨hg681, hx⟩ := xg_some hx
    refine o_ex rfl fun w684 h685 => ?_
    have hM := hM.call h685
    refine x_appendS (f := fDPart) (L := [(⟨(el r_.parts 0).kind, ((el r_.parts 0).n) - n, (el r_.parts 0).signs⟩ : DPart)]) (M := ((r_.parts.take r_.parts.length).drop 1)) Try.underlying29 sz77 rfl rfl (fun _ => rfl) hM (.head _) (.tail _ (.head _)) hg681 rfl ?_; intro s680 xs682 w679 hM
    refine ov rfl (fun w' h' => r_nilck rfl) ?_
    refine ov rfl (fun w' h' => r_fld Try.underlying89 rfl rfl sz29 rfl) ?_
    replace hM := hM.p1
    refine o_exu fun w690 h691 => ?_
    have hM := hM.call h691
    refine x_stB #[s680.v] sz29 rfl rfl rfl rfl rfl rfl hM ?_; intro w688 hM
    refine o_nil fun w692 hw693 => ?_
    have hM := hM.call hw693
    refine sq_n ?_
    refine wc_seq ?_
    refine wc_region ?_
    refine wv rfl (r_ldBS Try.underlying77 sz77 rfl (us := [(.int .i64 ((el r_.parts 0).kind)), (.int .i64 n), s159.v]) rfl hM (.tail _ (.tail _ (.tail _ (.tail _ (.head _))))) rfl) ?_
    replace hM := hM.p2
    refine w_exu (x_stB #[(.int .i64 ((el r_.parts 0).kind)), (.int .i64 n), s159.v] sz77 rfl rfl rfl rfl rfl rfl hM ?_); intro w695 hM
    refine wl_nil ?_
    refine sq_n ?_
    refine wc_ret ?_
    obtain rfl := Option.some.inj hx
    replace hM := hM.p2
    have hM := hM.sealS (fun _ => rfl) (.head _)
    refine fin_ret [(.agg #[(.int .i64 ((el r_.parts 0).kind)), (.int .i64 n), s159.v])] ⟨rv_box Try.underlying77 sz77 rfl rfl hM (.head _), trivial⟩ ?_
    replace hM := hM.p1
    replace hM := hM.t1
    have hM := hM.fewer (rsC (.tail _ (.tail _ (.tail _ (.tail _ (.tail _ (.head _)))))) (rsC (.head _) rsN))
    exact ⟨(s159, s680), rfl, hM.gives⟩

noncomputable def x_impl_rest_whole (r_ : DRest) : Option (DPart × DRest) :=
  xg (0 ≤ (0 : Int) ∧ (0 : Int) < (r_.parts.length : Int)) <| Option.bind (x_impl_size (el r_.parts 0)) fun r17 => Option.bind (x_impl_rest_take r_ r17) fun r21 => some (r21.1, r21.2)
theorem ct_impl_rest_whole (w : World) (X S : Bs) (b_r_ : Nat) (r_ : DRest) (s_r_ : Sv) (hS : ∀ b, S b → b < w.heap.size ∧ ¬ X b) (a_r__0 : (cSl 3 fDPart r_.parts).rd S w s_r_.v) (oL : Sep [oBox b_r_ #[s_r_.v] 89] X w) {r : DPart × DRest} (hx : x_impl_rest_whole r_ = some r) :
    Ret Try.prog 57 [(.pointer (some ⟨b_r_, 0, none⟩))] w (fun u w' => ∃ y : Sv × Sv, u = .agg #[(.int .i64 r.1.kind), (.int .i64 r.1.n), y.1.v] ∧ Gives X S w [oBox b_r_ #[y.2.v] 89] [rV y.1.v (cSl 1 fI r.1.signs), rV y.2.v (cSl 3 fDPart r.2.parts)] w') := by
  unfold x_impl_rest_whole at hx
  refine enter Try.func57 rfl Try.ntmps57 (by kernel_rfl) rfl ?_
  have hM := St.enter oL hS
  have hM := hM.addE (r := rV s_r_.v (cSl 3 fDPart r_.parts)) a_r__0
  refine wc_seq ?_
  refine wc_region ?_
  refine w_ex rfl (x_alloc sz77 hM ?_); intro b29 w28 hR30 hM
  replace hM : St ⟨w, X, S⟩ [oBox b29 #[(.int .i64 0), (.int .i64 0), (.slice none 0 0)] 77, oBox b_r_ #[s_r_.v] 89] [rV s_r_.v (cSl 3 fDPart r_.parts)] _ := hM
  refine wl_nil ?_
  refine sq_n ?_
  refine wc_seq ?_
  refine wc_region ?_
  refine wv rfl (r_move rfl) ?_
  refine wv rfl (r_move rfl) ?_
  refine wv rfl (r_nilck rfl) ?_
  refine wv rfl (r_fld Try.underlying89 rfl rfl sz29 rfl) ?_
  refine wv rfl (r_ldB Try.underlying29 rfl rfl hM (.tail _ (.head _)) rfl) ?_
  obtain ⟨hg39, hx⟩ := xg_some hx
  have hi38 : 0 < r_.parts.length := by omega
  refine wv rfl (r_ixC Try.underlying29 sz77 rfl rfl (hM.seeR (.head _)) hg39) ?_
  obtain ⟨s41, hM, hc42⟩ := hM.leaf (i := 0) (j := 2) (.head _) (fun _ => rfl) hi38 rfl
  refine wv rfl (r_ldC (o := 0 * 3) Try.underlying77 sz77 rfl (us := [(.int .i64 ((el r_.parts 0).kind)), (.int .i64 ((el r_.parts 0).n)), s41.v]) rfl (hM.seeR (.tail _ (.head _))) hi38 ⟨(Cs.get (i := 0) (j := 0) (hM.seeR (.tail _ (.head _))) (fun _ => rfl) hi38 rfl), (Cs.get (i := 0) (j := 1) (hM.seeR (.tail _ (.head _))) (fun _ => rfl) hi38 rfl), (hc42 _ (Rel.refl _)), trivial⟩) ?_
  obtain ⟨r43, h44, hx⟩ := bind_some' hx
  refine w_call rfl rfl (hM.callV fun X S oL hS hR hO => ct_impl_size _ X S (el r_.parts 0) s41 hS (hR _ (.head _)) oL h44) ?_
  rintro _ w45 ⟨rfl, hR46⟩
  have hM := hM.call hR46
  replace hM := hM.p1
  obtain ⟨r47, h48, hx⟩ := bind_some' hx
  refine w_call rfl rfl (hM.callR (l := [oBox b_r_ #[s_r_.v] 89]) fun X S oL hS hR => ct_impl_rest_take _ X S b_r_ r_ s_r_ r43 hS (hR _ (.tail _ (.head _))) oL h48) ?_
  rintro _ w49 ⟨⟨s50, s51⟩, rfl, hM⟩
  replace hM : St ⟨w, X, S⟩ [oBox b_r_ #[s51.v] 89, oBox b29 #[(.int .i64 0), (.int .i64 0), (.slice none 0 0)] 77] [rV s50.v (cSl 1 fI r47.1.signs), rV s51.v (cSl 3 fDPart r47.2.parts), rV s41.v (cSl 1 fI ((el r_.parts 0).signs)), rV s_r_.v (cSl 3 fDPart r_.parts)] _ := hM
  replace hM := hM.p1
  refine w_exu (x_stB #[(.int .i64 r47.1.kind), (.int .i64 r47.1.n), s50.v] sz77 rfl rfl rfl rfl rfl rfl hM ?_); intro w52 hM
  refine wl_nil ?_
  refine sq_n ?_
  refine wc_ret ?_
  obtain rfl := Option.some.inj hx
  refine fin_ret [(.agg #[(.int .i64 r47.1.kind), (.int .i64 r47.1.n), s50.v])] ⟨rv_box Try.underlying77 sz77 rfl rfl hM (.head _), trivial⟩ ?_
  replace hM := hM.p1
  replace hM := hM.t1
  have hM := hM.fewer (rsC (.head _) (rsC (.tail _ (.head _)) rsN))
  exact ⟨(s50, s51), rfl, hM.gives⟩

noncomputable def x_impl_Compose_b0 (out212 : List DPart) (l213 : List DPart) (l214 : List DPart) : Option (Lr (List DPart × List DPart × List DPart) (List DPart)) :=
  Option.bind (x_impl_rest_next (⟨l213⟩ : DRest)) fun r366 => Option.bind (bif !decide (r366.1.kind = 0) then (some (true, l214)) else (Option.bind (x_impl_rest_next (⟨l214⟩ : DRest)) fun r386 => some (!decide (r386.1.kind = 0), r386.2.parts))) fun (c384 : Bool × List DPart) => bif c384.1 then (Option.bind (x_impl_rest_next r366.2) fun r395 => bif decide (r395.1.kind = 3) then (Option.bind (x_impl_rest_whole r395.2) fun r405 => xg (out212.length < 1099511627776) <| some (Lr.go (out212 ++ [r405.1], r405.2.parts, c384.2))) else (Option.bind (x_impl_rest_next (⟨c384.2⟩ : DRest)) fun r417 => bif decide (r417.1.kind = 2) then (Option.bind (x_impl_rest_whole r417.2) fun r427 => xg (out212.length < 1099511627776) <| some (Lr.go (out212 ++ [r427.1], r395.2.parts, r427.2.parts))) else (Option.bind (x_impl_rest_next r395.2) fun r439 => Option.bind (x_impl_size r439.1) fun r444 => Option.bind (x_impl_rest_next r417.2) fun r449 => Option.bind (x_impl_size r449.1) fun r454 => Option.bind (x_impl_rest_take r439.2 (min r444 r454)) fun r462 => Option.bind (x_impl_rest_take r449.2 (min r444 r454)) fun r469 => bif decide (r469.1.kind = 1) then (xg (out212.length < 1099511627776) <| some (Lr.go (out212 ++ [r462.1], r462.2.parts, r469.2.parts))) else (bif decide (r462.1.kind = 1) then (xg (out212.length < 1099511627776) <| some (Lr.go (out212 ++ [r469.1], r462.2.parts, r469.2.parts))) else (some (Lr.go (out212, r462.2.parts, r469.2.parts))))))) else (some (Lr.out out212))
noncomputable def x_impl_Compose_f0 (s510 : List DPart × List DPart × List DPart) : Option (Lr (List DPart × List DPart × List DPart) (List DPart)) := x_impl_Compose_b0 s510.1 s510.2.1 s510.2.2
noncomputable def x_impl_Compose (a : List DPart) (b : List DPart) : Option (List DPart × Bool) :=
  Option.bind (x_impl_OpOk a) fun r4 => Option.bind (bif !r4 then (some true) else (Option.bind (x_impl_OpOk b) fun r19 => some (!r19))) fun c10 => Option.bind (bif c10 then (some true) else (Option.bind (x_impl_OpTo a) fun r39 => Option.bind (x_impl_OpFrom b) fun r44 => some (!decide (r39 = r44)))) fun c25 => bif c25 then (some ([], false)) else (Option.bind (iter (x_impl_Compose_f0) ([], a, b)) fun (y511 : List DPart) => Option.bind (x_impl_normal y511) fun r516 => Option.bind (x_impl_OpOk r516) fun r523 => bif !r523 then (some ([], false)) else (some (r516, true)))
theorem ct_impl_Compose (w : World) (X S : Bs) (a : List DPart) (s_a : Sv) (b : List DPart) (s_b : Sv) (hS : ∀ b, S b → b < w.heap.size ∧ ¬ X b) (a_a_0 : (cSl 3 fDPart a).rd S w s_a.v) (a_b_0 : (cSl 3 fDPart b).rd S w s_b.v) (oL : Sep [] X w) {r : List DPart × Bool} (hx : x_impl_Compose a b = some r) :
    Ret Try.prog 65 [s_a.v, s_b.v] w (fun u w' => ∃ y : Sv, u = .tuple #[y.v, (.bool r.2)] ∧ Gives X S w [oC (cSl 3 fDPart r.1) y.v] [] w') := by
  unfold x_impl_Compose at hx
  refine enter Try.func65 rfl Try.ntmps65 (by kernel_rfl) rfl ?_
  have hM := St.enter oL hS
  have hM := hM.addE (r := rV s_a.v (cSl 3 fDPart a)) a_a_0
  have hM := hM.addE (r := rV s_b.v (cSl 3 fDPart b)) a_b_0
  refine wc_seq ?_
  refine wc_region ?_
  refine wv rfl (r_assign rfl) ?_
  refine wv rfl (r_assign rfl) ?_
  refine wl_nil ?_
  refine sq_n ?_
  refine wc_seq ?_
  refine wc_seq ?_
  refine wc_region ?_
  refine wv rfl (r_move rfl) ?_
  obtain ⟨r536, h537, hx⟩ := bind_some' hx
  refine w_call rfl rfl (hM.callV fun X S oL hS hR hO => ct_impl_OpOk _ X S a s_a hS (hR _ (.tail _ (.head _))) oL h537) ?_
  rintro _ w538 ⟨rfl, hR539⟩
  have hM := hM.call hR539
  refine wv rfl (r_not rfl) ?_
  refine wv rfl (r_move rfl) ?_
  obtain ⟨c542, hx, hx550⟩ := bind_some' hx
  refine wl_mid 4 (fun _ : Unit => [(19, (.bool c542)), (0, s_a.v), (1, s_b.v)]) (fun _ w' => St ⟨w, X, S⟩ [] [rV s_b.v (cSl 3 fDPart b), rV s_a.v (cSl 3 fDPart a)] w') ?_ ?_
  · rcases Bool.eq_false_or_eq_true (!r536) with hg543 | hg543
    · replace hx := xif_t hg543 hx
      refine gs rfl (isB_no hg543) rfl ?_
      refine gs rfl (isB_no hg543) rfl ?_
      refine gs rfl (isB_no hg543) rfl ?_
      refine wv rfl (p_t rfl hg543 rfl) ?_
      obtain rfl := Option.some.inj hx
      exact mid_nil () ⟨rfl, rfl, rfl, trivial⟩ hM
    · replace hx := xif_f hg543 hx
      refine gv rfl hg543 rfl (r_move rfl) ?_
      obtain ⟨r552, h553, hx⟩ := bind_some' hx
      refine gc rfl hg543 rfl rfl (hM.callV fun X S oL hS hR hO => ct_impl_OpOk _ X S b s_b hS (hR _ (.head _)) oL h553) ?_
      rintro _ w554 ⟨rfl, hR555⟩
      have hM := hM.call hR555
      refine gv rfl hg543 rfl (r_not rfl) ?_
      refine wv rfl (p_f rfl hg543 rfl) ?_
      obtain rfl := Option.some.inj hx
      exact mid_nil () ⟨rfl, rfl, rfl, trivial⟩ hM
  rintro _ w557 hM
  replace hx := hx550
  refine wv rfl (r_move rfl) ?_
  obtain ⟨c559, hx, hx572⟩ := bind_some' hx
  refine wl_mid 6 (fun _ : Unit => [(26, (.bool c559)), (0, s_a.v), (1, s_b.v)]) (fun _ w' => St ⟨w, X, S⟩ [] [rV s_b.v (cSl 3 fDPart b), rV s_a.v (cSl 3 fDPart a)] w') ?_ ?_
  · rcases Bool.eq_false_or_eq_true c542 with hg560 | hg560
    · replace hx := xif_t hg560 hx
      refine gs rfl (isB_no hg560) rfl ?_
      refine gs rfl (isB_no hg560) rfl ?_
      refine gs rfl (isB_no hg560) rfl ?_
      refine gs rfl (isB_no hg560) rfl ?_
      refine gs rfl (isB_no hg560) rfl ?_
      refine wv rfl (p_t rfl hg560 rfl) ?_
      obtain rfl := Option.some.inj hx
      exact mid_nil () ⟨rfl, rfl, rfl, trivial⟩ hM
    · replace hx := xif_f hg560 hx
      refine gv rfl hg560 rfl (r_move rfl) ?_
      obtain ⟨r574, h575, hx⟩ := bind_some' hx
      refine gc rfl hg560 rfl rfl (hM.callV fun X S oL hS hR hO => ct_impl_OpTo _ X S a s_a hS (hR _ (.tail _ (.head _))) oL h575) ?_
      rintro _ w576 ⟨rfl, hR577⟩
      have hM := hM.call hR577
      refine gv rfl hg560 rfl (r_move rfl) ?_
      obtain ⟨r579, h580, hx⟩ := bind_some' hx
      refine gc rfl hg560 rfl rfl (hM.callV fun X S oL hS hR hO => ct_impl_OpFrom _ X S b s_b hS (hR _ (.head _)) oL h580) ?_
      rintro _ w581 ⟨rfl, hR582⟩
      have hM := hM.call hR582
      refine gv rfl hg560 rfl (r_neq rfl rfl) ?_
      refine wv rfl (p_f rfl hg560 rfl) ?_
      obtain rfl := Option.some.inj hx
      exact mid_nil () ⟨rfl, rfl, rfl, trivial⟩ hM
  rintro _ w584 hM
  replace hx := hx572
  refine wl_nil ?_
  refine sq_n ?_
  refine wc_cond rfl (fun hc585 => ?_) (fun hc585 => ?_)
  · replace hx := xif_t hc585 hx
    refine wc_seq ?_
    refine wc_region ?_
    refine wv rfl (r_assign rfl) ?_
    refine wv rfl (r_assign rfl) ?_
    refine wl_nil ?_
    refine sq_n ?_
    refine wc_ret ?_
    refine sq_ret ?_
    obtain rfl := Option.some.inj hx
    have hM := hM.nil0 (T := DPart) 3 fDPart
    refine fin_ret [nS.v, (.bool false)] ⟨rfl, rfl, trivial⟩ ?_
    replace hM := hM.t1
    have hM := hM.fewer rsN
    exact ⟨nS, rfl, hM.gives⟩
  · replace hx := xif_f hc585 hx
    refine wc_skip ?_
    refine sq_n ?_
    refine wc_seq ?_
    refine wc_region ?_
    refine wv rfl (r_move rfl) ?_
    refine wv rfl (r_build (cells := #[s_a.v]) rfl (by kernel_rfl)) ?_
    refine w_ex rfl (x_box rfl hM ?_); intro b592 w591 hR593 hM
    replace hM : St ⟨w, X, S⟩ [oBox b592 #[s_a.v] 89] [rV s_b.v (cSl 3 fDPart b), rV s_a.v (cSl 3 fDPart a)] _ := hM
    refine wv rfl (r_move rfl) ?_
    refine wv rfl (r_build (cells := #[s_b.v]) rfl (by kernel_rfl)) ?_
    refine w_ex rfl (x_box rfl hM ?_); intro b598 w597 hR599 hM
    replace hM : St ⟨w, X, S⟩ [oBox b598 #[s_b.v] 89, oBox b592 #[s_a.v] 89] [rV s_b.v (cSl 3 fDPart b), rV s_a.v (cSl 3 fDPart a)] _ := hM
    refine wv rfl (r_assign rfl) ?_
    refine wv rfl (r_assign rfl) ?_
    refine wl_nil ?_
    refine sq_n ?_
    refine wc_seq ?_
    refine wc_region ?_
    refine wv rfl (r_assign rfl) ?_
    refine wl_nil ?_
    refine sq_n ?_
    refine wc_seq ?_
    refine wc_block ?_
    obtain ⟨y604, hx, hx605⟩ := bind_some' hx
    have hM := hM.nilS0 (T := DPart) 3 fDPart
    replace hM := hM.p1.p2
    have hM := hM.fewer (rsC (.head _) (rsC (.tail _ (.tail _ (.head _))) (rsC (.tail _ (.head _)) rsN)))
    replace hM : St ⟨w, X, S⟩ [oBox b592 #[s_a.v] 89, oBox b598 #[s_b.v] 89, oRow 3 nS.v ([] : List DPart).length ([] : List Value)] [rX ([] : List Value) (([] : List DPart).flatMap fDPart), rV s_a.v (cSl 3 fDPart a), rV s_b.v (cSl 3 fDPart b)] _ := hM
    obtain ⟨m617, hx⟩ := iter_run hx
    refine wc_loop (un fun (m615 : Nat) => un fun (out607 : List DPart) => un fun (l608 : List DPart) => un fun (l609 : List DPart) => un fun (s611 : Sv) => un fun (xs612 : List Value) => un fun (s613 : Sv) => fun (s614 : Sv) => [(6, (.pointer (some ⟨b592, 0, none⟩))), (7, (.pointer (some ⟨b598, 0, none⟩))), (8, s611.v)]) (un fun (m615 : Nat) => un fun (out607 : List DPart) => un fun (l608 : List DPart) => un fun (l609 : List DPart) => un fun (s611 : Sv) => un fun (xs612 : List Value) => un fun (s613 : Sv) => fun (s614 : Sv) w' => St ⟨w, X, S⟩ [oBox b592 #[s613.v] 89, oBox b598 #[s614.v] 89, oRow 3 s611.v out607.length xs612] [rX xs612 (out607.flatMap fDPart), rV s613.v (cSl 3 fDPart l608), rV s614.v (cSl 3 fDPart l609)] w' ∧ iterN _ m615 (out607, l608, l609) = some y604) (fun p => p.1) (m617, [], a, b, nS, ([] : List Value), s_a, s_b) ⟨rfl, rfl, rfl, trivial⟩ ⟨hM, hx⟩ ?_
    rintro ⟨m615, out607, l608, l609, s611, xs612, s613, s614⟩ w618 ⟨hM, hx⟩
    obtain ⟨m619, z620, rfl, hx, hx621⟩ := iterN_step hx
    unfold x_impl_Compose_f0 x_impl_Compose_b0 at hx
    try dsimp only at hx
    refine wc_seq ?_
    refine wc_seq ?_
    refine wc_region ?_
    refine wv rfl (r_move rfl) ?_
    obtain ⟨r623, h624, hx⟩ := bind_some' hx
    refine w_call rfl rfl (hM.callR (l := [oBox b592 #[s613.v] 89]) fun X S oL hS hR => ct_impl_rest_next _ X S b592 (⟨l608⟩ : DRest) s613 hS (hR _ (.tail _ (.head _))) oL h624) ?_
    rintro _ w625 ⟨⟨s626, s627⟩, rfl, hM⟩
    replace hM : St ⟨w, X, S⟩ [oBox b592 #[s627.v] 89, oBox b598 #[s614.v] 89, oRow 3 s611.v out607.length xs612] [rV s626.v (cSl 1 fI r623.1.signs), rV s627.v (cSl 3 fDPart r623.2.parts), rX xs612 (out607.flatMap fDPart), rV s613.v (cSl 3 fDPart l608), rV s614.v (cSl 3 fDPart l609)] _ := hM
    refine wv rfl (r_field Try.underlying77 rfl rfl (ag_int Try.underlying3) rfl) ?_
    refine wv rfl (r_neq rfl rfl) ?_
    refine wv rfl (r_move rfl) ?_
    obtain ⟨c641, hx, hx642⟩ := bind_some' hx
    refine wl_mid 5 (fun (s643 : Sv) => [(6, (.pointer (some ⟨b592, 0, none⟩))), (7, (.pointer (some ⟨b598, 0, none⟩))), (8, s611.v), (42, (.bool c641.1))]) (fun (s643 : Sv) w' => St ⟨w, X, S⟩ [oBox b592 #[s627.v] 89, oBox b598 #[s643.v] 89, oRow 3 s611.v out607.length xs612] [rX xs612 (out607.flatMap fDPart), rV s643.v (cSl 3 fDPart c641.2), rV s627.v (cSl 3 fDPart r623.2.parts)] w') ?_ ?_
    · rcases Bool.eq_false_or_eq_true (!decide (r623.1.kind = 0)) with hg632 | hg632
      · replace hx := xif_t hg632 hx
        refine gs rfl (isB_no hg632) rfl ?_
        refine gs rfl (isB_no hg632) rfl ?_
        refine gs rfl (isB_no hg632) rfl ?_
        refine gs rfl (isB_no hg632) rfl ?_
        refine wv rfl (p_t rfl hg632 rfl) ?_
        obtain rfl := Option.some.inj hx
        have hM := hM.fewer (rsC (.tail _ (.tail _ (.head _))) (rsC (.tail _ (.tail _ (.tail _ (.tail _ (.head _))))) (rsC (.tail _ (.head _)) rsN)))
        replace hM : St ⟨w, X, S⟩ [oBox b592 #[s627.v] 89, oBox b598 #[s614.v] 89, oRow 3 s611.v out607.length xs612] [rX xs612 (out607.flatMap fDPart), rV s614.v (cSl 3 fDPart l609), rV s627.v (cSl 3 fDPart r623.2.parts)] _ := hM
        exact mid_nil s614 ⟨rfl, rfl, rfl, rfl, trivial⟩ hM
      · replace hx := xif_f hg632 hx
        refine gv rfl hg632 rfl (r_move rfl) ?_
        replace hM := hM.p1
        obtain ⟨r645, h646, hx⟩ := bind_some' hx
        refine gc rfl hg632 rfl rfl (hM.callR (l := [oBox b598 #[s614.v] 89]) fun X S oL hS hR => ct_impl_rest_next _ X S b598 (⟨l609⟩ : DRest) s614 hS (hR _ (.tail _ (.tail _ (.tail _ (.tail _ (.head _)))))) oL h646) ?_
        rintro _ w647 ⟨⟨s648, s649⟩, rfl, hM⟩
        replace hM : St ⟨w, X, S⟩ [oBox b598 #[s649.v] 89, oBox b592 #[s627.v] 89, oRow 3 s611.v out607.length xs612] [rV s648.v (cSl 1 fI r645.1.signs), rV s649.v (cSl 3 fDPart r645.2.parts), rV s626.v (cSl 1 fI r623.1.signs), rV s627.v (cSl 3 fDPart r623.2.parts), rX xs612 (out607.flatMap fDPart), rV s613.v (cSl 3 fDPart l608), rV s614.v (cSl 3 fDPart l609)] _ := hM
        refine gv rfl hg632 rfl (r_field Try.underlying77 rfl rfl (ag_int Try.underlying3) rfl) ?_
        refine gv rfl hg632 rfl (r_neq rfl rfl) ?_
        refine wv rfl (p_f rfl hg632 rfl) ?_
        obtain rfl := Option.some.inj hx
        replace hM := hM.p2.p1.p2
        have hM := hM.fewer (rsC (.tail _ (.tail _ (.tail _ (.tail _ (.head _))))) (rsC (.tail _ (.head _)) (rsC (.tail _ (.tail _ (.tail _ (.head _)))) rsN)))
        replace hM : St ⟨w, X, S⟩ [oBox b592 #[s627.v] 89, oBox b598 #[s649.v] 89, oRow 3 s611.v out607.length xs612] [rX xs612 (out607.flatMap fDPart), rV s649.v (cSl 3 fDPart r645.2.parts), rV s627.v (cSl 3 fDPart r623.2.parts)] _ := hM
        exact mid_nil s649 ⟨rfl, rfl, rfl, rfl, trivial⟩ hM
    rintro s643 w652 hM
    replace hx := hx642
    refine wl_nil ?_
    refine sq_n ?_
    refine wc_cond rfl (fun hc653 => ?_) (fun hc653 => ?_)
    · replace hx := xif_t hc653 hx
      refine wc_skip ?_
      refine sq_n ?_
      refine wc_block ?_
      refine wc_block ?_
      refine wc_seq ?_
      refine wc_region ?_
      refine wv rfl (r_move rfl) ?_
      obtain ⟨r655, h656, hx⟩ := bind_some' hx
      refine w_call rfl rfl (hM.callR (l := [oBox b592 #[s627.v] 89]) fun X S oL hS hR => ct_impl_rest_next _ X S b592 r623.2 s627 hS (hR _ (.tail _ (.tail _ (.head _)))) oL h656) ?_
      rintro _ w657 ⟨⟨s658, s659⟩, rfl, hM⟩
      replace hM : St ⟨w, X, S⟩ [oBox b592 #[s659.v] 89, oBox b598 #[s643.v] 89, oRow 3 s611.v out607.length xs612] [rV s658.v (cSl 1 fI r655.1.signs), rV s659.v (cSl 3 fDPart r655.2.parts), rX xs612 (out607.flatMap fDPart), rV s643.v (cSl 3 fDPart c641.2), rV s627.v (cSl 3 fDPart r623.2.parts)] _ := hM
      refine wv rfl (r_field Try.underlying77 rfl rfl (ag_int Try.underlying3) rfl) ?_
      refine wv rfl (r_eql rfl rfl) ?_
      refine wv rfl (r_assign rfl) ?_
      refine wl_nil ?_
      refine sq_n ?_
      refine wc_cond rfl (fun hc663 => ?_) (fun hc663 => ?_)
      · replace hx := xif_t hc663 hx
        refine wc_region ?_
        refine wv rfl (r_move rfl) ?_
        refine wv rfl (r_move rfl) ?_
        obtain ⟨r666, h667, hx⟩ := bind_some' hx
        refine w_call rfl rfl (hM.callR (l := [oBox b592 #[s659.v] 89]) fun X S oL hS hR => ct_impl_rest_whole _ X S b592 r655.2 s659 hS (hR _ (.tail _ (.head _))) oL h667) ?_
        rintro _ w668 ⟨⟨s669, s670⟩, rfl, hM⟩
        replace hM : St ⟨w, X, S⟩ [oBox b592 #[s670.v] 89, oBox b598 #[s643.v] 89, oRow 3 s611.v out607.length xs612] [rV s669.v (cSl 1 fI r666.1.signs), rV s670.v (cSl 3 fDPart r666.2.parts), rV s658.v (cSl 1 fI r655.1.signs), rV s659.v (cSl 3 fDPart r655.2.parts), rX xs612 (out607.flatMap fDPart), rV s643.v (cSl 3 fDPart c641.2), rV s627.v (cSl 3 fDPart r623.2.parts)] _ := hM
        replace hM := hM.p2
        obtain ⟨hg674, hx⟩ := xg_some hx
        refine w_pushS (f := fDPart) (L := out607) r666.1 rfl rfl Try.underlying29 sz77 rfl rfl rfl (fun _ => rfl) hM (.tail _ (.tail _ (.tail _ (.tail _ (.head _))))) (fun S w hR => ⟨_, _, rfl, rfl, ⟨_, _, rfl, rfl, ⟨_, _, rfl, hR _ (.head _), rfl⟩⟩⟩) rfl hg674 rfl ?_; intro u672 s673 xs675 w671 hM
        refine wv rfl (r_assign rfl) ?_
        refine wl_nil ?_
        refine bk_n ?_
        refine bk_n ?_
        obtain rfl := Option.some.inj hx
        replace hM := hM.p2.p2
        have hM := hM.fewer (rsC (.head _) (rsC (.tail _ (.tail _ (.head _))) (rsC (.tail _ (.tail _ (.tail _ (.tail _ (.tail _ (.tail _ (.head _))))))) rsN)))
        replace hM : St ⟨w, X, S⟩ [oBox b592 #[s670.v] 89, oBox b598 #[s643.v] 89, oRow 3 s673.v (out607 ++ [r666.1]).length xs675] [rX xs675 ((out607 ++ [r666.1]).flatMap fDPart), rV s670.v (cSl 3 fDPart r666.2.parts), rV s643.v (cSl 3 fDPart c641.2)] _ := hM
        exact lp_end (m619, out607 ++ [r666.1], r666.2.parts, c641.2, s673, xs675, s670, s643) (Nat.lt_succ_self _) ⟨rfl, rfl, rfl, trivial⟩ ⟨hM, hx621⟩
      · replace hx := xif_f hc663 hx
        refine wc_seq ?_
        refine wc_region ?_
        refine wv rfl (r_move rfl) ?_
        replace hM := hM.p1
        obtain ⟨r678, h679, hx⟩ := bind_some' hx
        refine w_call rfl rfl (hM.callR (l := [oBox b598 #[s643.v] 89]) fun X S oL hS hR => ct_impl_rest_next _ X S b598 (⟨c641.2⟩ : DRest) s643 hS (hR _ (.tail _ (.tail _ (.tail _ (.head _))))) oL h679) ?_
        rintro _ w680 ⟨⟨s681, s682⟩, rfl, hM⟩
        replace hM : St ⟨w, X, S⟩ [oBox b598 #[s682.v] 89, oBox b592 #[s659.v] 89, oRow 3 s611.v out607.length xs612] [rV s681.v (cSl 1 fI r678.1.signs), rV s682.v (cSl 3 fDPart r678.2.parts), rV s658.v (cSl 1 fI r655.1.signs), rV s659.v (cSl 3 fDPart r655.2.parts), rX xs612 (out607.flatMap fDPart), rV s643.v (cSl 3 fDPart c641.2), rV s627.v (cSl 3 fDPart r623.2.parts)] _ := hM
        refine wv rfl (r_field Try.underlying77 rfl rfl (ag_int Try.underlying3) rfl) ?_
        refine wv rfl (r_eql rfl rfl) ?_
        refine wv rfl (r_assign rfl) ?_
        refine wl_nil ?_
        refine sq_n ?_
        refine wc_cond rfl (fun hc686 => ?_) (fun hc686 => ?_)
        · replace hx := xif_t hc686 hx
          refine wc_region ?_
          refine wv rfl (r_move rfl) ?_
          refine wv rfl (r_move rfl) ?_
          obtain ⟨r689, h690, hx⟩ := bind_some' hx
          refine w_call rfl rfl (hM.callR (l := [oBox b598 #[s682.v] 89]) fun X S oL hS hR => ct_impl_rest_whole _ X S b598 r678.2 s682 hS (hR _ (.tail _ (.head _))) oL h690) ?_
          rintro _ w691 ⟨⟨s692, s693⟩, rfl, hM⟩
          replace hM : St ⟨w, X, S⟩ [oBox b598 #[s693.v] 89, oBox b592 #[s659.v] 89, oRow 3 s611.v out607.length xs612] [rV s692.v (cSl 1 fI r689.1.signs), rV s693.v (cSl 3 fDPart r689.2.parts), rV s681.v (cSl 1 fI r678.1.signs), rV s682.v (cSl 3 fDPart r678.2.parts), rV s658.v (cSl 1 fI r655.1.signs), rV s659.v (cSl 3 fDPart r655.2.parts), rX xs612 (out607.flatMap fDPart), rV s643.v (cSl 3 fDPart c641.2), rV s627.v (cSl 3 fDPart r623.2.parts)] _ := hM
          replace hM := hM.p2
          obtain ⟨hg697, hx⟩ := xg_some hx
          refine w_pushS (f := fDPart) (L := out607) r689.1 rfl rfl Try.underlying29 sz77 rfl rfl rfl (fun _ => rfl) hM (.tail _ (.tail _ (.tail _ (.tail _ (.tail _ (.tail _ (.head _))))))) (fun S w hR => ⟨_, _, rfl, rfl, ⟨_, _, rfl, rfl, ⟨_, _, rfl, hR _ (.head _), rfl⟩⟩⟩) rfl hg697 rfl ?_; intro u695 s696 xs698 w694 hM
          refine wv rfl (r_assign rfl) ?_
          refine wl_nil ?_
          refine bk_n ?_
          refine bk_n ?_
          obtain rfl := Option.some.inj hx
          replace hM := hM.p1.p2
          have hM := hM.fewer (rsC (.head _) (rsC (.tail _ (.tail _ (.tail _ (.tail _ (.tail _ (.tail _ (.head _))))))) (rsC (.tail _ (.tail _ (.head _))) rsN)))
          replace hM : St ⟨w, X, S⟩ [oBox b592 #[s659.v] 89, oBox b598 #[s693.v] 89, oRow 3 s696.v (out607 ++ [r689.1]).length xs698] [rX xs698 ((out607 ++ [r689.1]).flatMap fDPart), rV s659.v (cSl 3 fDPart r655.2.parts), rV s693.v (cSl 3 fDPart r689.2.parts)] _ := hM
          exact lp_end (m619, out607 ++ [r689.1], r655.2.parts, r689.2.parts, s696, xs698, s659, s693) (Nat.lt_succ_self _) ⟨rfl, rfl, rfl, trivial⟩ ⟨hM, hx621⟩
        · replace hx := xif_f hc686 hx
          refine wc_seq ?_
          refine wc_region ?_
          refine wv rfl (r_move rfl) ?_
          replace hM := hM.p1
          obtain ⟨r701, h702, hx⟩ := bind_some' hx
          refine w_call rfl rfl (hM.callR (l := [oBox b592 #[s659.v] 89]) fun X S oL hS hR => ct_impl_rest_next _ X S b592 r655.2 s659 hS (hR _ (.tail _ (.tail _ (.tail _ (.head _))))) oL h702) ?_
          rintro _ w703 ⟨⟨s704, s705⟩, rfl, hM⟩
          replace hM : St ⟨w, X, S⟩ [oBox b592 #[s705.v] 89, oBox b598 #[s682.v] 89, oRow 3 s611.v out607.length xs612] [rV s704.v (cSl 1 fI r701.1.signs), rV s705.v (cSl 3 fDPart r701.2.parts), rV s681.v (cSl 1 fI r678.1.signs), rV s682.v (cSl 3 fDPart r678.2.parts), rV s658.v (cSl 1 fI r655.1.signs), rV s659.v (cSl 3 fDPart r655.2.parts), rX xs612 (out607.flatMap fDPart), rV s643.v (cSl 3 fDPart c641.2), rV s627.v (cSl 3 fDPart r623.2.parts)] _ := hM
          obtain ⟨r706, h707, hx⟩ := bind_some' hx
          refine w_call rfl rfl (hM.callV fun X S oL hS hR hO => ct_impl_size _ X S r701.1 s704 hS (hR _ (.head _)) oL h707) ?_
          rintro _ w708 ⟨rfl, hR709⟩
          have hM := hM.call hR709
          refine wv rfl (r_move rfl) ?_
          replace hM := hM.p1
          obtain ⟨r711, h712, hx⟩ := bind_some' hx
          refine w_call rfl rfl (hM.callR (l := [oBox b598 #[s682.v] 89]) fun X S oL hS hR => ct_impl_rest_next _ X S b598 r678.2 s682 hS (hR _ (.tail _ (.tail _ (.tail _ (.head _))))) oL h712) ?_
          rintro _ w713 ⟨⟨s714, s715⟩, rfl, hM⟩
          replace hM : St ⟨w, X, S⟩ [oBox b598 #[s715.v] 89, oBox b592 #[s705.v] 89, oRow 3 s611.v out607.length xs612] [rV s714.v (cSl 1 fI r711.1.signs), rV s715.v (cSl 3 fDPart r711.2.parts), rV s704.v (cSl 1 fI r701.1.signs), rV s705.v (cSl 3 fDPart r701.2.parts), rV s681.v (cSl 1 fI r678.1.signs), rV s682.v (cSl 3 fDPart r678.2.parts), rV s658.v (cSl 1 fI r655.1.signs), rV s659.v (cSl 3 fDPart r655.2.parts), rX xs612 (out607.flatMap fDPart), rV s643.v (cSl 3 fDPart c641.2), rV s627.v (cSl 3 fDPart r623.2.parts)] _ := hM
          obtain ⟨r716, h717, hx⟩ := bind_some' hx
          refine w_call rfl rfl (hM.callV fun X S oL hS hR hO => ct_impl_size _ X S r711.1 s714 hS (hR _ (.head _)) oL h717) ?_
          rintro _ w718 ⟨rfl, hR719⟩
          have hM := hM.call hR719
          refine wv rfl (r_min Try.underlying3 rfl rfl) ?_
          refine wv rfl (r_assign rfl) ?_
          refine wl_nil ?_
          refine sq_n ?_
          refine wc_seq ?_
          refine wc_region ?_
          refine wv rfl (r_move rfl) ?_
          refine wv rfl (r_move rfl) ?_
          replace hM := hM.p1
          obtain ⟨r724, h725, hx⟩ := bind_some' hx
          refine w_call rfl rfl (hM.callR (l := [oBox b592 #[s705.v] 89]) fun X S oL hS hR => ct_impl_rest_take _ X S b592 r701.2 s705 (min r706 r716) hS (hR _ (.tail _ (.tail _ (.tail _ (.head _))))) oL h725) ?_
          rintro _ w726 ⟨⟨s727, s728⟩, rfl, hM⟩
          replace hM : St ⟨w, X, S⟩ [oBox b592 #[s728.v] 89, oBox b598 #[s715.v] 89, oRow 3 s611.v out607.length xs612] [rV s727.v (cSl 1 fI r724.1.signs), rV s728.v (cSl 3 fDPart r724.2.parts), rV s714.v (cSl 1 fI r711.1.signs), rV s715.v (cSl 3 fDPart r711.2.parts), rV s704.v (cSl 1 fI r701.1.signs), rV s705.v (cSl 3 fDPart r701.2.parts), rV s681.v (cSl 1 fI r678.1.signs), rV s682.v (cSl 3 fDPart r678.2.parts), rV s658.v (cSl 1 fI r655.1.signs), rV s659.v (cSl 3 fDPart r655.2.parts), rX xs612 (out607.flatMap fDPart), rV s643.v (cSl 3 fDPart c641.2), rV s627.v (cSl 3 fDPart r623.2.parts)] _ := hM
          refine wv rfl (r_move rfl) ?_
          refine wv rfl (r_move rfl) ?_
          replace hM := hM.p1
          obtain ⟨r731, h732, hx⟩ := bind_some' hx
          refine w_call rfl rfl (hM.callR (l := [oBox b598 #[s715.v] 89]) fun X S oL hS hR => ct_impl_rest_take _ X S b598 r711.2 s715 (min r706 r716) hS (hR _ (.tail _ (.tail _ (.tail _ (.head _))))) oL h732) ?_
          rintro _ w733 ⟨⟨s734, s735⟩, rfl, hM⟩
          replace hM : St ⟨w, X, S⟩ [oBox b598 #[s735.v] 89, oBox b592 #[s728.v] 89, oRow 3 s611.v out607.length xs612] [rV s734.v (cSl 1 fI r731.1.signs), rV s735.v (cSl 3 fDPart r731.2.parts), rV s727.v (cSl 1 fI r724.1.signs), rV s728.v (cSl 3 fDPart r724.2.parts), rV s714.v (cSl 1 fI r711.1.signs), rV s715.v (cSl 3 fDPart r711.2.parts), rV s704.v (cSl 1 fI r701.1.signs), rV s705.v (cSl 3 fDPart r701.2.parts), rV s681.v (cSl 1 fI r678.1.signs), rV s682.v (cSl 3 fDPart r678.2.parts), rV s658.v (cSl 1 fI r655.1.signs), rV s659.v (cSl 3 fDPart r655.2.parts), rX xs612 (out607.flatMap fDPart), rV s643.v (cSl 3 fDPart c641.2), rV s627.v (cSl 3 fDPart r623.2.parts)] _ := hM
          refine w_ex rfl (x_alloc sz77 hM ?_); intro b737 w736 hR738 hM
          replace hM : St ⟨w, X, S⟩ [oBox b737 #[(.int .i64 0), (.int .i64 0), (.slice none 0 0)] 77, oBox b598 #[s735.v] 89, oBox b592 #[s728.v] 89, oRow 3 s611.v out607.length xs612] [rV s734.v (cSl 1 fI r731.1.signs), rV s735.v (cSl 3 fDPart r731.2.parts), rV s727.v (cSl 1 fI r724.1.signs), rV s728.v (cSl 3 fDPart r724.2.parts), rV s714.v (cSl 1 fI r711.1.signs), rV s715.v (cSl 3 fDPart r711.2.parts), rV s704.v (cSl 1 fI r701.1.signs), rV s705.v (cSl 3 fDPart r701.2.parts), rV s681.v (cSl 1 fI r678.1.signs), rV s682.v (cSl 3 fDPart r678.2.parts), rV s658.v (cSl 1 fI r655.1.signs), rV s659.v (cSl 3 fDPart r655.2.parts), rX xs612 (out607.flatMap fDPart), rV s643.v (cSl 3 fDPart c641.2), rV s627.v (cSl 3 fDPart r623.2.parts)] _ := hM
          refine w_ex rfl (x_alloc sz77 hM ?_); intro b741 w740 hR742 hM
          replace hM : St ⟨w, X, S⟩ [oBox b741 #[(.int .i64 0), (.int .i64 0), (.slice none 0 0)] 77, oBox b737 #[(.int .i64 0), (.int .i64 0), (.slice none 0 0)] 77, oBox b598 #[s735.v] 89, oBox b592 #[s728.v] 89, oRow 3 s611.v out607.length xs612] [rV s734.v (cSl 1 fI r731.1.signs), rV s735.v (cSl 3 fDPart r731.2.parts), rV s727.v (cSl 1 fI r724.1.signs), rV s728.v (cSl 3 fDPart r724.2.parts), rV s714.v (cSl 1 fI r711.1.signs), rV s715.v (cSl 3 fDPart r711.2.parts), rV s704.v (cSl 1 fI r701.1.signs), rV s705.v (cSl 3 fDPart r701.2.parts), rV s681.v (cSl 1 fI r678.1.signs), rV s682.v (cSl 3 fDPart r678.2.parts), rV s658.v (cSl 1 fI r655.1.signs), rV s659.v (cSl 3 fDPart r655.2.parts), rX xs612 (out607.flatMap fDPart), rV s643.v (cSl 3 fDPart c641.2), rV s627.v (cSl 3 fDPart r623.2.parts)] _ := hM
          replace hM := hM.p1
          refine w_exu (x_stB #[(.int .i64 r724.1.kind), (.int .i64 r724.1.n), s727.v] sz77 rfl rfl rfl rfl rfl rfl hM ?_); intro w744 hM
          replace hM := hM.p1
          refine w_exu (x_stB #[(.int .i64 r731.1.kind), (.int .i64 r731.1.n), s734.v] sz77 rfl rfl rfl rfl rfl rfl hM ?_); intro w746 hM
          refine wl_nil ?_
          refine sq_n ?_
          refine wc_block ?_
          refine wc_seq ?_
          refine wc_region ?_
          refine wv rfl (r_fld Try.underlying77 rfl rfl sz3 rfl) ?_
          refine wv rfl (r_ldB Try.underlying3 rfl rfl hM (.head _) rfl) ?_
          refine wv rfl (r_eql rfl rfl) ?_
          refine wv rfl (r_assign rfl) ?_
          refine wl_nil ?_
          refine sq_n ?_
          refine wc_cond rfl (fun hc752 => ?_) (fun hc752 => ?_)
          · replace hx := xif_t hc752 hx
            refine wc_region ?_
            refine wv rfl (r_move rfl) ?_
            refine wv rfl (r_ldBS Try.underlying77 sz77 rfl (us := [(.int .i64 r724.1.kind), (.int .i64 r724.1.n), s727.v]) rfl hM (.tail _ (.head _)) rfl) ?_
            replace hM := hM.p4
            obtain ⟨hg758, hx⟩ := xg_some hx
            refine w_pushS (f := fDPart) (L := out607) r724.1 rfl rfl Try.underlying29 sz77 rfl rfl rfl (fun _ => rfl) hM (.tail _ (.tail _ (.tail _ (.tail _ (.tail _ (.tail _ (.tail _ (.tail _ (.tail _ (.tail _ (.tail _ (.tail _ (.head _))))))))))))) (fun S w hR => ⟨_, _, rfl, rfl, ⟨_, _, rfl, rfl, ⟨_, _, rfl, hR _ (.tail _ (.tail _ (.head _))), rfl⟩⟩⟩) rfl hg758 rfl ?_; intro u756 s757 xs759 w755 hM
            refine wv rfl (r_assign rfl) ?_
            refine wl_nil ?_
            refine bk_n ?_
            refine bk_n ?_
            refine bk_n ?_
            obtain rfl := Option.some.inj hx
            replace hM := hM.p3.p4
            replace hM := hM.t3
            have hM := hM.fewer (rsC (.head _) (rsC (.tail _ (.tail _ (.tail _ (.tail _ (.head _))))) (rsC (.tail _ (.tail _ (.head _))) rsN)))
            replace hM : St ⟨w, X, S⟩ [oBox b592 #[s728.v] 89, oBox b598 #[s735.v] 89, oRow 3 s757.v (out607 ++ [r724.1]).length xs759] [rX xs759 ((out607 ++ [r724.1]).flatMap fDPart), rV s728.v (cSl 3 fDPart r724.2.parts), rV s735.v (cSl 3 fDPart r731.2.parts)] _ := hM
            exact lp_end (m619, out607 ++ [r724.1], r724.2.parts, r731.2.parts, s757, xs759, s728, s735) (Nat.lt_succ_self _) ⟨rfl, rfl, rfl, trivial⟩ ⟨hM, hx621⟩
          · replace hx := xif_f hc752 hx
            refine wc_seq ?_
            refine wc_region ?_
            refine wv rfl (r_fld Try.underlying77 rfl rfl sz3 rfl) ?_
            refine wv rfl (r_ldB Try.underlying3 rfl rfl hM (.tail _ (.head _)) rfl) ?_
            refine wv rfl (r_eql rfl rfl) ?_
            refine wv rfl (r_assign rfl) ?_
            refine wl_nil ?_
            refine sq_n ?_
            refine wc_cond rfl (fun hc765 => ?_) (fun hc765 => ?_)
            · replace hx := xif_t hc765 hx
              refine wc_region ?_
              refine wv rfl (r_move rfl) ?_
              refine wv rfl (r_ldBS Try.underlying77 sz77 rfl (us := [(.int .i64 r731.1.kind), (.int .i64 r731.1.n), s734.v]) rfl hM (.head _) rfl) ?_
              replace hM := hM.p4
              obtain ⟨hg771, hx⟩ := xg_some hx
              refine w_pushS (f := fDPart) (L := out607) r731.1 rfl rfl Try.underlying29 sz77 rfl rfl rfl (fun _ => rfl) hM (.tail _ (.tail _ (.tail _ (.tail _ (.tail _ (.tail _ (.tail _ (.tail _ (.tail _ (.tail _ (.tail _ (.tail _ (.head _))))))))))))) (fun S w hR => ⟨_, _, rfl, rfl, ⟨_, _, rfl, rfl, ⟨_, _, rfl, hR _ (.head _), rfl⟩⟩⟩) rfl hg771 rfl ?_; intro u769 s770 xs772 w768 hM
              refine wv rfl (r_assign rfl) ?_
              refine wl_nil ?_
              refine bk_n ?_
              refine bk_n ?_
              refine bk_n ?_
              obtain rfl := Option.some.inj hx
              replace hM := hM.p3.p4
              replace hM := hM.t3
              have hM := hM.fewer (rsC (.head _) (rsC (.tail _ (.tail _ (.tail _ (.tail _ (.head _))))) (rsC (.tail _ (.tail _ (.head _))) rsN)))
              replace hM : St ⟨w, X, S⟩ [oBox b592 #[s728.v] 89, oBox b598 #[s735.v] 89, oRow 3 s770.v (out607 ++ [r731.1]).length xs772] [rX xs772 ((out607 ++ [r731.1]).flatMap fDPart), rV s728.v (cSl 3 fDPart r724.2.parts), rV s735.v (cSl 3 fDPart r731.2.parts)] _ := hM
              exact lp_end (m619, out607 ++ [r731.1], r724.2.parts, r731.2.parts, s770, xs772, s728, s735) (Nat.lt_succ_self _) ⟨rfl, rfl, rfl, trivial⟩ ⟨hM, hx621⟩
            · replace hx := xif_f hc765 hx
              refine wc_skip ?_
              refine bk_n ?_
              refine bk_n ?_
              refine bk_n ?_
              obtain rfl := Option.some.inj hx
              replace hM := hM.p4.p3.p4
              replace hM := hM.t3
              have hM := hM.fewer (rsC (.tail _ (.tail _ (.tail _ (.tail _ (.tail _ (.tail _ (.tail _ (.tail _ (.tail _ (.tail _ (.tail _ (.tail _ (.head _))))))))))))) (rsC (.tail _ (.tail _ (.tail _ (.head _)))) (rsC (.tail _ (.head _)) rsN)))
              replace hM : St ⟨w, X, S⟩ [oBox b592 #[s728.v] 89, oBox b598 #[s735.v] 89, oRow 3 s611.v out607.length xs612] [rX xs612 (out607.flatMap fDPart), rV s728.v (cSl 3 fDPart r724.2.parts), rV s735.v (cSl 3 fDPart r731.2.parts)] _ := hM
              exact lp_end (m619, out607, r724.2.parts, r731.2.parts, s611, xs612, s728, s735) (Nat.lt_succ_self _) ⟨rfl, rfl, rfl, trivial⟩ ⟨hM, hx621⟩
    · replace hx := xif_f hc653 hx
      refine wc_exit ?_
      refine sq_exit ?_
      refine lp1_exit ?_
      obtain rfl := Option.some.inj hx
      obtain rfl := Option.some.inj hx621
      replace hx := hx605
      try dsimp only [Sum.elim_inl, Sum.elim_inr] at hx
      refine bk_here ?_
      refine sq_n ?_
      refine wc_seq ?_
      refine wc_region ?_
      refine wv rfl (r_move rfl) ?_
      replace hM := hM.p2
      have hM := hM.sealS (fun _ => rfl) (.head _)
      obtain ⟨r775, h776, hx⟩ := bind_some' hx
      refine w_call rfl rfl (hM.callO (l := []) fun X S oL hS hR hO => ct_impl_normal _ X S out607 s611 hS (hR _ (.head _)) oL h776) ?_
      rintro _ w777 ⟨s778, rfl, hM⟩
      replace hM : St ⟨w, X, S⟩ [oC (cSl 3 fDPart r775) s778.v, oBox b592 #[s627.v] 89, oBox b598 #[s643.v] 89] [rV s611.v (cSl 3 fDPart out607), rX xs612 (out607.flatMap fDPart), rV s643.v (cSl 3 fDPart c641.2), rV s627.v (cSl 3 fDPart r623.2.parts)] _ := hM
      refine wv rfl (r_assign rfl) ?_
      refine wl_nil ?_
      refine sq_n ?_
      refine wc_seq ?_
      refine wc_seq ?_
      refine wc_region ?_
      refine wv rfl (r_move rfl) ?_
      obtain ⟨r782, h783, hx⟩ := bind_some' hx
      refine w_call rfl rfl (hM.callV fun X S oL hS hR hO => ct_impl_OpOk _ X S r775 s778 hS (seeA hO (.head _)) oL h783) ?_
      rintro _ w784 ⟨rfl, hR785⟩
      have hM := hM.call hR785
      refine wv rfl (r_not rfl) ?_
      refine wl_nil ?_
      refine sq_n ?_
      refine wc_cond rfl (fun hc787 => ?_) (fun hc787 => ?_)
      · replace hx := xif_t hc787 hx
        refine wc_seq ?_
        refine wc_region ?_
        refine wv rfl (r_assign rfl) ?_
        refine wv rfl (r_assign rfl) ?_
        refine wl_nil ?_
        refine sq_n ?_
        refine wc_ret ?_
        refine sq_ret ?_
        obtain rfl := Option.some.inj hx
        have hM := hM.nil0 (T := DPart) 3 fDPart
        refine fin_ret [nS.v, (.bool false)] ⟨rfl, rfl, trivial⟩ ?_
        replace hM := hM.t1
        have hM := hM.fewer rsN
        exact ⟨nS, rfl, hM.gives⟩
      · replace hx := xif_f hc787 hx
        refine wc_skip ?_
        refine sq_n ?_
        refine wc_seq ?_
        refine wc_region ?_
        refine wv rfl (r_move rfl) ?_
        refine wv rfl (r_assign rfl) ?_
        refine wv rfl (r_assign rfl) ?_
        refine wl_nil ?_
        refine sq_n ?_
        refine wc_ret ?_
        obtain rfl := Option.some.inj hx
        refine fin_ret [s778.v, (.bool true)] ⟨rfl, rfl, trivial⟩ ?_
        replace hM := hM.t1
        have hM := hM.fewer rsN
        exact ⟨s778, rfl, hM.gives⟩

end Go.Proofs.Ythfkcpdechjmnaa
