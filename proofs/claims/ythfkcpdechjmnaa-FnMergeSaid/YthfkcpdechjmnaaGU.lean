/- Walks of functions of this program (printed by a program of ours, by the rules of the layer). No condition. -/
import Derived.Test.YthfkcpdechjmnaaG3
import Derived.Test.YthfkcpdechjmnaaNr
namespace Go.Proofs.Ythfkcpdechjmnaa
open Go.RowKit

noncomputable def x_impl_rest_next_b0 (l56 : List DPart) : Option (Lr (List DPart) (List DPart)) :=
  Option.bind (bif decide ((0 : Int) < (l56.length : Int)) then (xg (0 ≤ (0 : Int) ∧ (0 : Int) < (l56.length : Int)) <| Option.bind (x_impl_size (el l56 0)) fun r142 => some (decide (r142 = 0))) else (some false)) fun c115 => bif c115 then (xg (0 ≤ (1 : Int) ∧ (1 : Int) ≤ (l56.length : Int)) <| some (Lr.go ((l56.take l56.length).drop 1))) else (some (Lr.out l56))
noncomputable def x_impl_rest_next_f0 (s158 : List DPart) : Option (Lr (List DPart) (List DPart)) := x_impl_rest_next_b0 s158
noncomputable def x_impl_rest_next (r_ : DRest) : Option (DPart × DRest) :=
  Option.bind (iter (x_impl_rest_next_f0) r_.parts) fun (y159 : List DPart) => bif decide ((y159.length : Int) = 0) then (some ((⟨0, 0, []⟩ : DPart), (⟨y159⟩ : DRest))) else (xg (0 ≤ (0 : Int) ∧ (0 : Int) < (y159.length : Int)) <| some (el y159 0, (⟨y159⟩ : DRest)))
theorem ct_impl_rest_next (w : World) (X S : Bs) (b_r_ : Nat) (r_ : DRest) (s_r_ : Sv) (hS : ∀ b, S b → b < w.heap.size ∧ ¬ X b) (a_r__0 : (cSl 3 fDPart r_.parts).rd S w s_r_.v) (oL : Sep [oBox b_r_ #[s_r_.v] 89] X w) {r : DPart × DRest} (hx : x_impl_rest_next r_ = some r) :
    Ret Try.prog 56 [(.pointer (some ⟨b_r_, 0, none⟩))] w (fun u w' => ∃ y : Sv × Sv, u = .agg #[(.int .i64 r.1.kind), (.int .i64 r.1.n), y.1.v] ∧ Gives X S w [oBox b_r_ #[y.2.v] 89] [rV y.1.v (cSl 1 fI r.1.signs), rV y.2.v (cSl 3 fDPart r.2.parts)] w') := by
  unfold x_impl_rest_next at hx
  refine enter Try.func56 rfl Try.ntmps56 (by kernel_rfl) rfl ?_
  have hM := St.enter oL hS
  have hM := hM.addE (r := rV s_r_.v (cSl 3 fDPart r_.parts)) a_r__0
  refine wc_seq ?_
  refine wc_region ?_
  refine w_ex rfl (x_alloc sz77 hM ?_); intro b183 w182 hR184 hM
  replace hM : St ⟨w, X, S⟩ [oBox b183 #[(.int .i64 0), (.int .i64 0), (.slice none 0 0)] 77, oBox b_r_ #[s_r_.v] 89] [rV s_r_.v (cSl 3 fDPart r_.parts)] _ := hM
  refine wl_nil ?_
  refine sq_n ?_
  refine wc_seq ?_
  refine wc_block ?_
  obtain ⟨y186, hx, hx187⟩ := bind_some' hx
  replace hM := hM.p1
  obtain ⟨m192, hx⟩ := iter_run hx
  refine wc_loop (un fun (m190 : Nat) => un fun (l188 : List DPart) => fun (s189 : Sv) => [(0, (.pointer (some ⟨b_r_, 0, none⟩))), (2, (.pointer (some ⟨b183, 0, none⟩)))]) (un fun (m190 : Nat) => un fun (l188 : List DPart) => fun (s189 : Sv) w' => St ⟨w, X, S⟩ [oBox b_r_ #[s189.v] 89, oBox b183 #[(.int .i64 0), (.int .i64 0), (.slice none 0 0)] 77] [rV s189.v (cSl 3 fDPart l188)] w' ∧ iterN _ m190 l188 = some y186) (fun p => p.1) (m192, r_.parts, s_r_) ⟨rfl, rfl, trivial⟩ ⟨hM, hx⟩ ?_
  rintro ⟨m190, l188, s189⟩ w193 ⟨hM, hx⟩
  obtain ⟨m194, z195, rfl, hx, hx196⟩ := iterN_step hx
  unfold x_impl_rest_next_f0 x_impl_rest_next_b0 at hx
  try dsimp only at hx
  refine wc_seq ?_
  refine wc_seq ?_
  refine wc_region ?_
  refine wv rfl (r_move rfl) ?_
  refine wv rfl (r_nilck rfl) ?_
  refine wv rfl (r_fld Try.underlying89 rfl rfl sz29 rfl) ?_
  refine wv rfl (r_ldB Try.underlying29 rfl rfl hM (.head _) rfl) ?_
  refine wv rfl (r_lenC Try.underlying29 rfl (hM.seeR (.head _))) ?_
  refine wv rfl (r_gtr rfl rfl) ?_
  refine wv rfl (r_move rfl) ?_
  obtain ⟨c204, hx, hx221⟩ := bind_some' hx
  refine wl_mid 9 (fun _ : Unit => [(18, (.bool c204)), (0, (.pointer (some ⟨b_r_, 0, none⟩))), (2, (.pointer (some ⟨b183, 0, none⟩)))]) (fun _ w' => St ⟨w, X, S⟩ [oBox b_r_ #[s189.v] 89, oBox b183 #[(.int .i64 0), (.int .i64 0), (.slice none 0 0)] 77] [rV s189.v (cSl 3 fDPart l188)] w') ?_ ?_
  · rcases Bool.eq_false_or_eq_true (decide ((0 : Int) < (l188.length : Int))) with hg205 | hg205
    · replace hx := xif_t hg205 hx
      refine gv rfl hg205 rfl (r_move rfl) ?_
      refine gv rfl hg205 rfl (r_nilck rfl) ?_
      refine gv rfl hg205 rfl (r_fld Try.underlying89 rfl rfl sz29 rfl) ?_
      refine gv rfl hg205 rfl (r_ldB Try.underlying29 rfl rfl hM (.head _) rfl) ?_
      obtain ⟨hg228, hx⟩ := xg_some hx
      have hi227 : 0 < l188.length := by omega
      refine gv rfl hg205 rfl (r_ixC Try.underlying29 sz77 rfl rfl (hM.seeR (.head _)) hg228) ?_
      obtain ⟨s230, hM, hc231⟩ := hM.leaf (i := 0) (j := 2) (.head _) (fun _ => rfl) hi227 rfl
      refine gv rfl hg205 rfl (r_ldC (o := 0 * 3) Try.underlying77 sz77 rfl (us := [(.int .i64 ((el l188 0).kind)), (.int .i64 ((el l188 0).n)), s230.v]) rfl (hM.seeR (.tail _ (.head _))) hi227 ⟨(Cs.get (i := 0) (j := 0) (hM.seeR (.tail _ (.head _))) (fun _ => rfl) hi227 rfl), (Cs.get (i := 0) (j := 1) (hM.seeR (.tail _ (.head _))) (fun _ => rfl) hi227 rfl), (hc231 _ (Rel.refl _)), trivial⟩) ?_
      obtain ⟨r232, h233, hx⟩ := bind_some' hx
      refine gc rfl hg205 rfl rfl (hM.callV fun X S oL hS hR hO => ct_impl_size _ X S (el l188 0) s230 hS (hR _ (.head _)) oL h233) ?_
      rintro _ w234 ⟨rfl, hR235⟩
      have hM := hM.call hR235
      refine gv rfl hg205 rfl (r_eql rfl rfl) ?_
      refine wv rfl (p_t rfl hg205 rfl) ?_
      obtain rfl := Option.some.inj hx
      replace hM : St ⟨w, X, S⟩ [oBox b_r_ #[s189.v] 89, oBox b183 #[(.int .i64 0), (.int .i64 0), (.slice none 0 0)] 77] [rV s189.v (cSl 3 fDPart l188)] _ := hM.dropR 1
      exact mid_nil () ⟨rfl, rfl, rfl, trivial⟩ hM
    · replace hx := xif_f hg205 hx
      refine gs rfl (isB_no hg205) rfl ?_
      refine gs rfl (isB_no hg205) rfl ?_
      refine gs rfl (isB_no hg205) rfl ?_
      refine gs rfl (isB_no hg205) rfl ?_
      refine gs rfl (isB_no hg205) rfl ?_
      refine gs rfl (isB_no hg205) rfl ?_
      refine gs rfl (isB_no hg205) rfl ?_
      refine gs rfl (isB_no hg205) rfl ?_
      refine wv rfl (p_f rfl hg205 rfl) ?_
      obtain rfl := Option.some.inj hx
      exact mid_nil () ⟨rfl, rfl, rfl, trivial⟩ hM
  rintro _ w237 hM
  replace hx := hx221
  refine wl_nil ?_
  refine sq_n ?_
  refine wc_cond rfl (fun hc238 => ?_) (fun hc238 => ?_)
  · replace hx := xif_t hc238 hx
    refine wc_skip ?_
    refine sq_n ?_
    refine wc_block ?_
    refine wc_region ?_
    refine wv rfl (r_move rfl) ?_
    refine wv rfl (r_move rfl) ?_
    refine wv rfl (r_nilck rfl) ?_
    refine wv rfl (r_fld Try.underlying89 rfl rfl sz29 rfl) ?_
    refine wv rfl (r_ldB Try.underlying29 rfl rfl hM (.head _) rfl) ?_
    obtain ⟨hg245, hx⟩ := xg_some hx
    have hM := hM.cutR (L := l188) (f := fDPart) (lo := 1) (hi := l188.length) (fun _ => rfl) (by omega) (by omega) (.head _)
    refine wv rfl (r_slc_lo Try.underlying29 sz77 rfl rfl (hM.seeR (.tail _ (.head _))) hg245) ?_
    refine wv rfl (r_nilck rfl) ?_
    refine wv rfl (r_fld Try.underlying89 rfl rfl sz29 rfl) ?_
    refine w_exu (x_stB #[(s189.cut 3 1 l188.length).v] sz29 rfl rfl rfl rfl rfl rfl hM ?_); intro w248 hM
    refine wl_nil ?_
    refine bk_n ?_
    obtain rfl := Option.some.inj hx
    have hM := hM.fewer (rsC (.head _) rsN)
    replace hM : St ⟨w, X, S⟩ [oBox b_r_ #[(s189.cut 3 1 l188.length).v] 89, oBox b183 #[(.int .i64 0), (.int .i64 0), (.slice none 0 0)] 77] [rV (s189.cut 3 1 l188.length).v (cSl 3 fDPart ((l188.take l188.length).drop 1))] _ := hM
    exact lp_end (m194, (l188.take l188.length).drop 1, (s189.cut 3 1 l188.length)) (Nat.lt_succ_self _) ⟨rfl, rfl, trivial⟩ ⟨hM, hx196⟩
  · replace hx := xif_f hc238 hx
    refine wc_exit ?_
    refine sq_exit ?_
    refine lp1_exit ?_
    obtain rfl := Option.some.inj hx
    obtain rfl := Option.some.inj hx196
    replace hx := hx187
    try dsimp only [Sum.elim_inl, Sum.elim_inr] at hx
    refine bk_here ?_
    refine sq_n ?_
    refine wc_seq ?_
    refine wc_seq ?_
    refine wc_region ?_
    refine wv rfl (r_move rfl) ?_
    refine wv rfl (r_nilck rfl) ?_
    refine wv rfl (r_fld Try.underlying89 rfl rfl sz29 rfl) ?_
    refine wv rfl (r_ldB Try.underlying29 rfl rfl hM (.head _) rfl) ?_
    refine wv rfl (r_lenC Try.underlying29 rfl (hM.seeR (.head _))) ?_
    refine wv rfl (r_eql rfl rfl) ?_
    refine wl_nil ?_
    refine sq_n ?_
    refine wc_cond rfl (fun hc256 => ?_) (fun hc256 => ?_)
    · replace hx := xif_t hc256 hx
      refine wc_seq ?_
      refine wc_region ?_
      refine wv rfl (r_build (cells := #[(.int .i64 0), (.int .i64 0), (.slice none 0 0)]) rfl (by kernel_rfl)) ?_
      replace hM := hM.p1
      refine w_exu (x_stB #[(.int .i64 0), (.int .i64 0), (.slice none 0 0)] sz77 rfl rfl rfl rfl rfl rfl hM ?_); intro w258 hM
      refine wl_nil ?_
      refine sq_n ?_
      refine wc_ret ?_
      refine sq_ret ?_
      obtain rfl := Option.some.inj hx
      have hM := hM.nilR0 (T := Int) 1 fI
      refine fin_ret [(.agg #[(.int .i64 0), (.int .i64 0), nS.v])] ⟨rv_box Try.underlying77 sz77 rfl rfl hM (.head _), trivial⟩ ?_
      replace hM := hM.p1
      replace hM := hM.t1
      have hM := hM.fewer (rsC (.head _) (rsC (.tail _ (.head _)) rsN))
      exact ⟨(nS, s189), rfl, hM.gives⟩
    · replace hx := xif_f hc256 hx
      refine wc_skip ?_
      refine sq_n ?_
      refine wc_seq ?_
      refine wc_region ?_
      refine wv rfl (r_move rfl) ?_
      refine wv rfl (r_nilck rfl) ?_
      refine wv rfl (r_fld Try.underlying89 rfl rfl sz29 rfl) ?_
      refine wv rfl (r_ldB Try.underlying29 rfl rfl hM (.head _) rfl) ?_
      obtain ⟨hg266, hx⟩ := xg_some hx
      have hi265 : 0 < l188.length := by omega
      refine wv rfl (r_ixC Try.underlying29 sz77 rfl rfl (hM.seeR (.head _)) hg266) ?_
      obtain ⟨s268, hM, hc269⟩ := hM.leaf (i := 0) (j := 2) (.head _) (fun _ => rfl) hi265 rfl
      refine wv rfl (r_ldC (o := 0 * 3) Try.underlying77 sz77 rfl (us := [(.int .i64 ((el l188 0).kind)), (.int .i64 ((el l188 0).n)), s268.v]) rfl (hM.seeR (.tail _ (.head _))) hi265 ⟨(Cs.get (i := 0) (j := 0) (hM.seeR (.tail _ (.head _))) (fun _ => rfl) hi265 rfl), (Cs.get (i := 0) (j := 1) (hM.seeR (.tail _ (.head _))) (fun _ => rfl) hi265 rfl), (hc269 _ (Rel.refl _)), trivial⟩) ?_
      replace hM := hM.p1
      refine w_exu (x_stB #[(.int .i64 ((el l188 0).kind)), (.int .i64 ((el l188 0).n)), s268.v] sz77 rfl rfl rfl rfl rfl rfl hM ?_); intro w270 hM
      refine wl_nil ?_
      refine sq_n ?_
      refine wc_ret ?_
      obtain rfl := Option.some.inj hx
      refine fin_ret [(.agg #[(.int .i64 ((el l188 0).kind)), (.int .i64 ((el l188 0).n)), s268.v])] ⟨rv_box Try.underlying77 sz77 rfl rfl hM (.head _), trivial⟩ ?_
      replace hM := hM.p1
      replace hM := hM.t1
      have hM := hM.fewer (rsC (.head _) (rsC (.tail _ (.head _)) rsN))
      exact ⟨(s268, s189), rfl, hM.gives⟩

noncomputable def x_impl_rest_take (r_ : DRest) (n : Int) : Option (DPart × DRest) :=
  xg (0 ≤ (0 : Int) ∧ (0 : Int) < (r_.parts.length : Int)) <| bif decide (((el r_.parts 0).kind) = 2) then (xg (0 ≤ n ∧ n ≤ (((el r_.parts 0).signs).length : Int)) <| xg (0 ≤ n ∧ n ≤ (((el r_.parts 0).signs).length : Int)) <| xg (0 ≤ (1 : Int) ∧ (1 : Int) ≤ (r_.parts.length : Int)) <| xg ([(⟨(el r_.parts 0).kind, (el r_.parts 0).n, (((el r_.parts 0).signs).take ((el r_.parts 0).signs).length).drop n.toNat⟩ : DPart)].length + ((r_.parts.take r_.parts.length).drop 1).length ≤ 1099511627776) <| some ((⟨(el r_.parts 0).kind, (el r_.parts 0).n, (((el r_.parts 0).signs).take n.toNat).drop 0⟩ : DPart), (⟨[(⟨(el r_.parts 0).kind, (el r_.parts 0).n, (((el r_.parts 0).signs).take ((el r_.parts 0).signs).length).drop n.toNat⟩ : DPart)] ++ ((r_.parts.take r_.parts.length).drop 1)⟩ : DRest))) else (xg (inI (((el r_.parts 0).n) - n)) <| xg (0 ≤ (1 : Int) ∧ (1 : Int) ≤ (r_.parts.length : Int)) <| xg ([(⟨(el r_.parts 0).kind, ((el r_.parts 0).n) - n, (el r_.parts 0).signs⟩ : DPart)].length + ((r_.parts.take r_.parts.length).drop 1).length ≤ 1099511627776) <| some ((⟨(el r_.parts 0).kind, n, (el r_.parts 0).signs⟩ : DPart), (⟨[(⟨(el r_.parts 0).kind, ((el r_.parts 0).n) - n, (el r_.parts 0).signs⟩ : DPart)] ++ ((r_.parts.take r_.parts.length).drop 1)⟩ : DRest)))
theorem ct_impl_rest_take (w : World) (X S : Bs) (b_r_ : Nat) (r_ : DRest) (s_r_ : Sv) (n : Int) (hS : ∀ b, S b → b < w.heap.size ∧ ¬ X b) (a_r__0 : (cSl 3 fDPart r_.parts).rd S w s_r_.v) (oL : Sep [oBox b_r_ #[s_r_.v] 89] X w) {r : DPart × DRest} (hx : x_impl_rest_take r_ n = some r) :
    Ret Try.prog 59 [(.pointer (some ⟨b_r_, 0, none⟩)), (.int .i64 n)] w (fun u w' => ∃ y : Sv × Sv, u = .agg #[(.int .i64 r.1.kind), (.int .i64 r.1.n), y.1.v] ∧ Gives X S w [oBox b_r_ #[y.2.v] 89] [rV y.1.v (cSl 1 fI r.1.signs), rV y.2.v (cSl 3 fDPart r.2.parts)] w') := by
  unfold x_impl_rest_take at hx
  refine enter Try.func59 rfl Try.ntmps59 (by kernel_rfl) rfl ?_
  have hM := St.enter oL hS
  have hM := hM.addE (r := rV s_r_.v (cSl 3 fDPart r_.parts)) a_r__0
  refine wc_seq ?_
  refine wc_region ?_
  refine w_ex rfl (x_alloc sz77 hM ?_); intro b148 w147 hR149 hM
  replace hM : St ⟨w, X, S⟩ [oBox b148 #[(.int .i64 0), (.int .i64 0), (.slice none 0 0)] 77, oBox b_r_ #[s_r_.v] 89] [rV s_r_.v (cSl 3 fDPart r_.parts)] _ := hM
  refine wl_nil ?_
  refine sq_n ?_
  refine wc_seq ?_
  refine wc_region ?_
  refine wv rfl (r_move rfl) ?_
  refine wv rfl (r_nilck rfl) ?_
  refine wv rfl (r_fld Try.underlying89 rfl rfl sz29 rfl) ?_
  refine wv rfl (r_ldB Try.underlying29 rfl rfl hM (.tail _ (.head _)) rfl) ?_
  obtain ⟨hg157, hx⟩ := xg_some hx
  have hi156 : 0 < r_.parts.length := by omega
  refine wv rfl (r_ixC Try.underlying29 sz77 rfl rfl (hM.seeR (.head _)) hg157) ?_
  obtain ⟨s159, hM, hc160⟩ := hM.leaf (i := 0) (j := 2) (.head _) (fun _ => rfl) hi156 rfl
  refine wv rfl (r_ldC (o := 0 * 3) Try.underlying77 sz77 rfl (us := [(.int .i64 ((el r_.parts 0).kind)), (.int .i64 ((el r_.parts 0).n)), s159.v]) rfl (hM.seeR (.tail _ (.head _))) hi156 ⟨(Cs.get (i := 0) (j := 0) (hM.seeR (.tail _ (.head _))) (fun _ => rfl) hi156 rfl), (Cs.get (i := 0) (j := 1) (hM.seeR (.tail _ (.head _))) (fun _ => rfl) hi156 rfl), (hc160 _ (Rel.refl _)), trivial⟩) ?_
  refine w_ex rfl (x_alloc sz77 hM ?_); intro b162 w161 hR163 hM
  replace hM : St ⟨w, X, S⟩ [oBox b162 #[(.int .i64 0), (.int .i64 0), (.slice none 0 0)] 77, oBox b148 #[(.int .i64 0), (.int .i64 0), (.slice none 0 0)] 77, oBox b_r_ #[s_r_.v] 89] [rV s159.v (cSl 1 fI ((el r_.parts 0).signs)), rV s_r_.v (cSl 3 fDPart r_.parts)] _ := hM
  refine w_exu (x_stB #[(.int .i64 ((el r_.parts 0).kind)), (.int .i64 ((el r_.parts 0).n)), s159.v] sz77 rfl rfl rfl rfl rfl rfl hM ?_); intro w165 hM
  refine wl_nil ?_
  refine sq_n ?_
  refine wc_seq ?_
  refine wc_mid (un fun (b170 : Nat) => fun (b176 : Nat) => [(0, (.pointer (some ⟨b_r_, 0, none⟩))), (1, (.int .i64 n)), (4, (.pointer (some ⟨b148, 0, none⟩))), (5, (.pointer (some ⟨b162, 0, none⟩))), (6, (.pointer (some ⟨b170, 0, none⟩))), (7, (.pointer (some ⟨b176, 0, none⟩)))]) (un fun (b170 : Nat) => fun (b176 : Nat) w' => St ⟨w, X, S⟩ [oBox b_r_ #[s_r_.v] 89, oBox b148 #[(.int .i64 0), (.int .i64 0), (.slice none 0 0)] 77, oBox b162 #[(.int .i64 ((el r_.parts 0).kind)), (.int .i64 ((el r_.parts 0).n)), s159.v] 77, oBox b170 #[(.int .i64 ((el r_.parts 0).kind)), (.int .i64 ((el r_.parts 0).n)), s159.v] 77, oBox b176 #[(.int .i64 ((el r_.parts 0).kind)), (.int .i64 ((el r_.parts 0).n)), s159.v] 77] [rV s_r_.v (cSl 3 fDPart r_.parts), rV s159.v (cSl 1 fI ((el r_.parts 0).signs))] w') ?_ ?_
  · refine wc_drawM Try_mixed ?_
    refine wm_run [(0, 0)] 5 rfl (by kernel_rfl) (by kernel_rfl) rfl ?_
    refine ov rfl (fun w' h' => r_ldBS Try.underlying77 sz77 rfl (us := [(.int .i64 ((el r_.parts 0).kind)), (.int .i64 ((el r_.parts 0).n)), s159.v]) rfl (hM.call h') (.head _) rfl) ?_
    refine o_nil fun w190 hw191 => ?_
    have hM := hM.call hw191
    refine wm_fork [(1, 0), (2, 0), (3, 0)] 4 rfl (by kernel_rfl) rfl (by kernel_rfl) ⟨?_, ?_, ?_, trivial⟩
    ·
      refine o_ex1 rfl fun w193 h194 => ?_
      have hM := hM.call h194
      refine exq (r_ldBS Try.underlying77 sz77 rfl (us := [(.int .i64 ((el r_.parts 0).kind)), (.int .i64 ((el r_.parts 0).n)), s159.v]) rfl hM (.head _) rfl) ?_
      refine ⟨Rel.refl _, ?_⟩
      refine o_nil fun w195 hw196 => ?_
      have hM := hM.call hw196
      refine wm_fork [(2, 0), (3, 0)] 3 rfl (by kernel_rfl) rfl (by kernel_rfl) ⟨?_, ?_, trivial⟩
      ·
        refine o_ex1 rfl fun w200 h201 => ?_
        have hM := hM.call h201
        refine x_alloc sz77 hM ?_; intro b198 w197 hR199 hM
        refine ⟨hR199, ?_⟩
        replace hM : St ⟨w, X, S⟩ [oBox b198 #[(.int .i64 0), (.int .i64 0), (.slice none 0 0)] 77, oBox b162 #[(.int .i64 ((el r_.parts 0).kind)), (.int .i64 ((el r_.parts 0).n)), s159.v] 77, oBox b148 #[(.int .i64 0), (.int .i64 0), (.slice none 0 0)] 77, oBox b_r_ #[s_r_.v] 89] [rV s159.v (cSl 1 fI ((el r_.parts 0).signs)), rV s_r_.v (cSl 3 fDPart r_.parts)] _ := hM
        refine o_nil fun w203 hw204 => ?_
        have hM := hM.call hw204
        refine wm_run [(3, 1), (4, 2), (5, 2)] 0 rfl (by kernel_rfl) (by kernel_rfl) rfl ?_
        refine o_ex1 rfl fun w208 h209 => ?_
        have hM := hM.call h209
        refine x_alloc sz77 hM ?_; intro b206 w205 hR207 hM
        refine ⟨hR207, ?_⟩
        replace hM : St ⟨w, X, S⟩ [oBox b206 #[(.int .i64 0), (.int .i64 0), (.slice none 0 0)] 77, oBox b198 #[(.int .i64 0), (.int .i64 0), (.slice none 0 0)] 77, oBox b162 #[(.int .i64 ((el r_.parts 0).kind)), (.int .i64 ((el r_.parts 0).n)), s159.v] 77, oBox b148 #[(.int .i64 0), (.int .i64 0), (.slice none 0 0)] 77, oBox b_r_ #[s_r_.v] 89] [rV s159.v (cSl 1 fI ((el r_.parts 0).signs)), rV s_r_.v (cSl 3 fDPart r_.parts)] _ := hM
        replace hM := hM.p1
        refine o_exu fun w213 h214 => ?_
        have hM := hM.call h214
        refine x_stB #[(.int .i64 ((el r_.parts 0).kind)), (.int .i64 ((el r_.parts 0).n)), s159.v] sz77 rfl rfl rfl rfl rfl rfl hM ?_; intro w211 hM
        replace hM := hM.p1
        refine o_exu fun w217 h218 => ?_
        have hM := hM.call h218
        refine x_stB #[(.int .i64 ((el r_.parts 0).kind)), (.int .i64 ((el r_.parts 0).n)), s159.v] sz77 rfl rfl rfl rfl rfl rfl hM ?_; intro w215 hM
        refine o_nil fun w219 hw220 => ?_
        have hM := hM.call hw220
        refine wm_end (by kernel_rfl) fun w221 hw222 => ?_
        have hM := hM.call hw222
        replace hM := hM.p1.p2.p3.p4
        have hM := hM.fewer (rsC (.tail _ (.head _)) (rsC (.head _) rsN))
        replace hM : St ⟨w, X, S⟩ [oBox b_r_ #[s_r_.v] 89, oBox b148 #[(.int .i64 0), (.int .i64 0), (.slice none 0 0)] 77, oBox b162 #[(.int .i64 ((el r_.parts 0).kind)), (.int .i64 ((el r_.parts 0).n)), s159.v] 77, oBox b198 #[(.int .i64 ((el r_.parts 0).kind)), (.int .i64 ((el r_.parts 0).n)), s159.v] 77, oBox b206 #[(.int .i64 ((el r_.parts 0).kind)), (.int .i64 ((el r_.parts 0).n)), s159.v] 77] [rV s_r_.v (cSl 3 fDPart r_.parts), rV s159.v (cSl 1 fI ((el r_.parts 0).signs))] _ := hM
        exact mid_c (b198, b206) ⟨rfl, rfl, rfl, rfl, rfl, rfl, trivial⟩ hM
      ·
        refine o_ex1 rfl fun w226 h227 => ?_
        have hM := hM.call h227
        refine x_alloc sz77 hM ?_; intro b224 w223 hR225 hM
        refine ⟨hR225, ?_⟩
        replace hM : St ⟨w, X, S⟩ [oBox b224 #[(.int .i64 0), (.int .i64 0), (.slice none 0 0)] 77, oBox b162 #[(.int .i64 ((el r_.parts 0).kind)), (.int .i64 ((el r_.parts 0).n)), s159.v] 77, oBox b148 #[(.int .i64 0), (.int .i64 0), (.slice none 0 0)] 77, oBox b_r_ #[s_r_.v] 89] [rV s159.v (cSl 1 fI ((el r_.parts 0).signs)), rV s_r_.v (cSl 3 fDPart r_.parts)] _ := hM
        refine o_nil fun w229 hw230 => ?_
        have hM := hM.call hw230
        refine wm_run [(2, 1), (4, 2), (5, 2)] 0 rfl (by kernel_rfl) (by kernel_rfl) rfl ?_
        refine o_ex1 rfl fun w234 h235 => ?_
        have hM := hM.call h235
        refine x_alloc sz77 hM ?_; intro b232 w231 hR233 hM
        refine ⟨hR233, ?_⟩
        replace hM : St ⟨w, X, S⟩ [oBox b232 #[(.int .i64 0), (.int .i64 0), (.slice none 0 0)] 77, oBox b224 #[(.int .i64 0), (.int .i64 0), (.slice none 0 0)] 77, oBox b162 #[(.int .i64 ((el r_.parts 0).kind)), (.int .i64 ((el r_.parts 0).n)), s159.v] 77, oBox b148 #[(.int .i64 0), (.int .i64 0), (.slice none 0 0)] 77, oBox b_r_ #[s_r_.v] 89] [rV s159.v (cSl 1 fI ((el r_.parts 0).signs)), rV s_r_.v (cSl 3 fDPart r_.parts)] _ := hM
        refine o_exu fun w239 h240 => ?_
        have hM := hM.call h240
        refine x_stB #[(.int .i64 ((el r_.parts 0).kind)), (.int .i64 ((el r_.parts 0).n)), s159.v] sz77 rfl rfl rfl rfl rfl rfl hM ?_; intro w237 hM
        replace hM := hM.p1
        refine o_exu fun w243 h244 => ?_
        have hM := hM.call h244
        refine x_stB #[(.int .i64 ((el r_.parts 0).kind)), (.int .i64 ((el r_.parts 0).n)), s159.v] sz77 rfl rfl rfl rfl rfl rfl hM ?_; intro w241 hM
        refine o_nil fun w245 hw246 => ?_
        have hM := hM.call hw246
        refine wm_end (by kernel_rfl) fun w247 hw248 => ?_
        have hM := hM.call hw248
        replace hM := hM.p1.p2.p3.p4
        have hM := hM.fewer (rsC (.tail _ (.head _)) (rsC (.head _) rsN))
        replace hM : St ⟨w, X, S⟩ [oBox b_r_ #[s_r_.v] 89, oBox b148 #[(.int .i64 0), (.int .i64 0), (.slice none 0 0)] 77, oBox b162 #[(.int .i64 ((el r_.parts 0).kind)), (.int .i64 ((el r_.parts 0).n)), s159.v] 77, oBox b232 #[(.int .i64 ((el r_.parts 0).kind)), (.int .i64 ((el r_.parts 0).n)), s159.v] 77, oBox b224 #[(.int .i64 ((el r_.parts 0).kind)), (.int .i64 ((el r_.parts 0).n)), s159.v] 77] [rV s_r_.v (cSl 3 fDPart r_.parts), rV s159.v (cSl 1 fI ((el r_.parts 0).signs))] _ := hM
        exact mid_c (b232, b224) ⟨rfl, rfl, rfl, rfl, rfl, rfl, trivial⟩ hM
    ·
      refine o_ex1 rfl fun w252 h253 => ?_
      have hM := hM.call h253
      refine x_alloc sz77 hM ?_; intro b250 w249 hR251 hM
      refine ⟨hR251, ?_⟩
      replace hM : St ⟨w, X, S⟩ [oBox b250 #[(.int .i64 0), (.int .i64 0), (.slice none 0 0)] 77, oBox b162 #[(.int .i64 ((el r_.parts 0).kind)), (.int .i64 ((el r_.parts 0).n)), s159.v] 77, oBox b148 #[(.int .i64 0), (.int .i64 0), (.slice none 0 0)] 77, oBox b_r_ #[s_r_.v] 89] [rV s159.v (cSl 1 fI ((el r_.parts 0).signs)), rV s_r_.v (cSl 3 fDPart r_.parts)] _ := hM
      refine o_nil fun w255 hw256 => ?_
      have hM := hM.call hw256
      refine wm_fork [(1, 0), (3, 0)] 3 rfl (by kernel_rfl) rfl (by kernel_rfl) ⟨?_, ?_, trivial⟩
      ·
        refine o_ex1 rfl fun w258 h259 => ?_
        have hM := hM.call h259
        refine exq (r_ldBS Try.underlying77 sz77 rfl (us := [(.int .i64 ((el r_.parts 0).kind)), (.int .i64 ((el r_.parts 0).n)), s159.v]) rfl hM (.tail _ (.head _)) rfl) ?_
        refine ⟨Rel.refl _, ?_⟩
        refine o_nil fun w260 hw261 => ?_
        have hM := hM.call hw261
        refine wm_run [(3, 1), (4, 2), (5, 2)] 0 rfl (by kernel_rfl) (by kernel_rfl) rfl ?_
        refine o_ex1 rfl fun w265 h266 => ?_
        have hM := hM.call h266
        refine x_alloc sz77 hM ?_; intro b263 w262 hR264 hM
        refine ⟨hR264, ?_⟩
        replace hM : St ⟨w, X, S⟩ [oBox b263 #[(.int .i64 0), (.int .i64 0), (.slice none 0 0)] 77, oBox b250 #[(.int .i64 0), (.int .i64 0), (.slice none 0 0)] 77, oBox b162 #[(.int .i64 ((el r_.parts 0).kind)), (.int .i64 ((el r_.parts 0).n)), s159.v] 77, oBox b148 #[(.int .i64 0), (.int .i64 0), (.slice none 0 0)] 77, oBox b_r_ #[s_r_.v] 89] [rV s159.v (cSl 1 fI ((el r_.parts 0).signs)), rV s_r_.v (cSl 3 fDPart r_.parts)] _ := hM
        replace hM := hM.p1
        refine o_exu fun w270 h271 => ?_
        have hM := hM.call h271
        refine x_stB #[(.int .i64 ((el r_.parts 0).kind)), (.int .i64 ((el r_.parts 0).n)), s159.v] sz77 rfl rfl rfl rfl rfl rfl hM ?_; intro w268 hM
        replace hM := hM.p1
        refine o_exu fun w274 h275 => ?_
        have hM := hM.call h275
        refine x_stB #[(.int .i64 ((el r_.parts 0).kind)), (.int .i64 ((el r_.parts 0).n)), s159.v] sz77 rfl rfl rfl rfl rfl rfl hM ?_; intro w272 hM
        refine o_nil fun w276 hw277 => ?_
        have hM := hM.call hw277
        refine wm_end (by kernel_rfl) fun w278 hw279 => ?_
        have hM := hM.call hw279
        replace hM := hM.p1.p2.p3.p4
        have hM := hM.fewer (rsC (.tail _ (.head _)) (rsC (.head _) rsN))
        replace hM : St ⟨w, X, S⟩ [oBox b_r_ #[s_r_.v] 89, oBox b148 #[(.int .i64 0), (.int .i64 0), (.slice none 0 0)] 77, oBox b162 #[(.int .i64 ((el r_.parts 0).kind)), (.int .i64 ((el r_.parts 0).n)), s159.v] 77, oBox b250 #[(.int .i64 ((el r_.parts 0).kind)), (.int .i64 ((el r_.parts 0).n)), s159.v] 77, oBox b263 #[(.int .i64 ((el r_.parts 0).kind)), (.int .i64 ((el r_.parts 0).n)), s159.v] 77] [rV s_r_.v (cSl 3 fDPart r_.parts), rV s159.v (cSl 1 fI ((el r_.parts 0).signs))] _ := hM
        exact mid_c (b250, b263) ⟨rfl, rfl, rfl, rfl, rfl, rfl, trivial⟩ hM
      ·
        refine o_ex1 rfl fun w283 h284 => ?_
        have hM := hM.call h284
        refine x_alloc sz77 hM ?_; intro b281 w280 hR282 hM
        refine ⟨hR282, ?_⟩
        replace hM : St ⟨w, X, S⟩ [oBox b281 #[(.int .i64 0), (.int .i64 0), (.slice none 0 0)] 77, oBox b250 #[(.int .i64 0), (.int .i64 0), (.slice none 0 0)] 77, oBox b162 #[(.int .i64 ((el r_.parts 0).kind)), (.int .i64 ((el r_.parts 0).n)), s159.v] 77, oBox b148 #[(.int .i64 0), (.int .i64 0), (.slice none 0 0)] 77, oBox b_r_ #[s_r_.v] 89] [rV s159.v (cSl 1 fI ((el r_.parts 0).signs)), rV s_r_.v (cSl 3 fDPart r_.parts)] _ := hM
        refine o_nil fun w286 hw287 => ?_
        have hM := hM.call hw287
        refine wm_fork [(1, 0), (4, 1)] 2 rfl (by kernel_rfl) rfl (by kernel_rfl) ⟨?_, ?_, trivial⟩
        ·
          refine o_ex1 rfl fun w289 h290 => ?_
          have hM := hM.call h290
          refine exq (r_ldBS Try.underlying77 sz77 rfl (us := [(.int .i64 ((el r_.parts 0).kind)), (.int .i64 ((el r_.parts 0).n)), s159.v]) rfl hM (.tail _ (.tail _ (.head _))) rfl) ?_
          refine ⟨Rel.refl _, ?_⟩
          refine o_nil fun w291 hw292 => ?_
          have hM := hM.call hw292
          refine wm_run [(4, 2), (5, 2)] 0 rfl (by kernel_rfl) (by kernel_rfl) rfl ?_
          replace hM := hM.p1
          refine o_exu fun w295 h296 => ?_
          have hM := hM.call h296
          refine x_stB #[(.int .i64 ((el r_.parts 0).kind)), (.int .i64 ((el r_.parts 0).n)), s159.v] sz77 rfl rfl rfl rfl rfl rfl hM ?_; intro w293 hM
          replace hM := hM.p1
          refine o_exu fun w299 h300 => ?_
          have hM := hM.call h300
          refine x_stB #[(.int .i64 ((el r_.parts 0).kind)), (.int .i64 ((el r_.parts 0).n)), s159.v] sz77 rfl rfl rfl rfl rfl rfl hM ?_; intro w297 hM
          refine o_nil fun w301 hw302 => ?_
          have hM := hM.call hw302
          refine wm_end (by kernel_rfl) fun w303 hw304 => ?_
          have hM := hM.call hw304
          replace hM := hM.p1.p2.p3.p4
          have hM := hM.fewer (rsC (.tail _ (.head _)) (rsC (.head _) rsN))
          replace hM : St ⟨w, X, S⟩ [oBox b_r_ #[s_r_.v] 89, oBox b148 #[(.int .i64 0), (.int .i64 0), (.slice none 0 0)] 77, oBox b162 #[(.int .i64 ((el r_.parts 0).kind)), (.int .i64 ((el r_.parts 0).n)), s159.v] 77, oBox b250 #[(.int .i64 ((el r_.parts 0).kind)), (.int .i64 ((el r_.parts 0).n)), s159.v] 77, oBox b281 #[(.int .i64 ((el r_.parts 0).kind)), (.int .i64 ((el r_.parts 0).n)), s159.v] 77] [rV s_r_.v (cSl 3 fDPart r_.parts), rV s159.v (cSl 1 fI ((el r_.parts 0).signs))] _ := hM
          exact mid_c (b250, b281) ⟨rfl, rfl, rfl, rfl, rfl, rfl, trivial⟩ hM
        ·
          replace hM := hM.p1
          refine o_exu fun w307 h308 => ?_
          have hM := hM.call h308
          refine x_stB #[(.int .i64 ((el r_.parts 0).kind)), (.int .i64 ((el r_.parts 0).n)), s159.v] sz77 rfl rfl rfl rfl rfl rfl hM ?_; intro w305 hM
          refine o_nil fun w309 hw310 => ?_
          have hM := hM.call hw310
          refine wm_run [(1, 1), (5, 2)] 0 rfl (by kernel_rfl) (by kernel_rfl) rfl ?_
          refine o_ex1 rfl fun w312 h313 => ?_
          have hM := hM.call h313
          refine exq (r_ldBS Try.underlying77 sz77 rfl (us := [(.int .i64 ((el r_.parts 0).kind)), (.int .i64 ((el r_.parts 0).n)), s159.v]) rfl hM (.tail _ (.tail _ (.head _))) rfl) ?_
          refine ⟨Rel.refl _, ?_⟩
          replace hM := hM.p1
          refine o_exu fun w316 h317 => ?_
          have hM := hM.call h317
          refine x_stB #[(.int .i64 ((el r_.parts 0).kind)), (.int .i64 ((el r_.parts 0).n)), s159.v] sz77 rfl rfl rfl rfl rfl rfl hM ?_; intro w314 hM
          refine o_nil fun w318 hw319 => ?_
          have hM := hM.call hw319
          refine wm_end (by kernel_rfl) fun w320 hw321 => ?_
          have hM := hM.call hw321
          replace hM := hM.p1.p2.p3.p4
          have hM := hM.fewer (rsC (.tail _ (.head _)) (rsC (.head _) rsN))
          replace hM : St ⟨w, X, S⟩ [oBox b_r_ #[s_r_.v] 89, oBox b148 #[(.int .i64 0), (.int .i64 0), (.slice none 0 0)] 77, oBox b162 #[(.int .i64 ((el r_.parts 0).kind)), (.int .i64 ((el r_.parts 0).n)), s159.v] 77, oBox b250 #[(.int .i64 ((el r_.parts 0).kind)), (.int .i64 ((el r_.parts 0).n)), s159.v] 77, oBox b281 #[(.int .i64 ((el r_.parts 0).kind)), (.int .i64 ((el r_.parts 0).n)), s159.v] 77] [rV s_r_.v (cSl 3 fDPart r_.parts), rV s159.v (cSl 1 fI ((el r_.parts 0).signs))] _ := hM
          exact mid_c (b250, b281) ⟨rfl, rfl, rfl, rfl, rfl, rfl, trivial⟩ hM
    ·
      refine o_ex1 rfl fun w325 h326 => ?_
      have hM := hM.call h326
      refine x_alloc sz77 hM ?_; intro b323 w322 hR324 hM
      refine ⟨hR324, ?_⟩
      replace hM : St ⟨w, X, S⟩ [oBox b323 #[(.int .i64 0), (.int .i64 0), (.slice none 0 0)] 77, oBox b162 #[(.int .i64 ((el r_.parts 0).kind)), (.int .i64 ((el r_.parts 0).n)), s159.v] 77, oBox b148 #[(.int .i64 0), (.int .i64 0), (.slice none 0 0)] 77, oBox b_r_ #[s_r_.v] 89] [rV s159.v (cSl 1 fI ((el r_.parts 0).signs)), rV s_r_.v (cSl 3 fDPart r_.parts)] _ := hM
      refine o_nil fun w328 hw329 => ?_
      have hM := hM.call hw329
      refine wm_fork [(1, 0), (2, 0)] 3 rfl (by kernel_rfl) rfl (by kernel_rfl) ⟨?_, ?_, trivial⟩
      ·
        refine o_ex1 rfl fun w331 h332 => ?_
        have hM := hM.call h332
        refine exq (r_ldBS Try.underlying77 sz77 rfl (us := [(.int .i64 ((el r_.parts 0).kind)), (.int .i64 ((el r_.parts 0).n)), s159.v]) rfl hM (.tail _ (.head _)) rfl) ?_
        refine ⟨Rel.refl _, ?_⟩
        refine o_nil fun w333 hw334 => ?_
        have hM := hM.call hw334
        refine wm_run [(2, 1), (4, 2), (5, 2)] 0 rfl (by kernel_rfl) (by kernel_rfl) rfl ?_
        refine o_ex1 rfl fun w338 h339 => ?_
        have hM := hM.call h339
        refine x_alloc sz77 hM ?_; intro b336 w335 hR337 hM
        refine ⟨hR337, ?_⟩
        replace hM : St ⟨w, X, S⟩ [oBox b336 #[(.int .i64 0), (.int .i64 0), (.slice none 0 0)] 77, oBox b323 #[(.int .i64 0), (.int .i64 0), (.slice none 0 0)] 77, oBox b162 #[(.int .i64 ((el r_.parts 0).kind)), (.int .i64 ((el r_.parts 0).n)), s159.v] 77, oBox b148 #[(.int .i64 0), (.int .i64 0), (.slice none 0 0)] 77, oBox b_r_ #[s_r_.v] 89] [rV s159.v (cSl 1 fI ((el r_.parts 0).signs)), rV s_r_.v (cSl 3 fDPart r_.parts)] _ := hM
        refine o_exu fun w343 h344 => ?_
        have hM := hM.call h344
        refine x_stB #[(.int .i64 ((el r_.parts 0).kind)), (.int .i64 ((el r_.parts 0).n)), s159.v] sz77 rfl rfl rfl rfl rfl rfl hM ?_; intro w341 hM
        replace hM := hM.p1
        refine o_exu fun w347 h348 => ?_
        have hM := hM.call h348
        refine x_stB #[(.int .i64 ((el r_.parts 0).kind)), (.int .i64 ((el r_.parts 0).n)), s159.v] sz77 rfl rfl rfl rfl rfl rfl hM ?_; intro w345 hM
        refine o_nil fun w349 hw350 => ?_
        have hM := hM.call hw350
        refine wm_end (by kernel_rfl) fun w351 hw352 => ?_
        have hM := hM.call hw352
        replace hM := hM.p1.p2.p3.p4
        have hM := hM.fewer (rsC (.tail _ (.head _)) (rsC (.head _) rsN))
        replace hM : St ⟨w, X, S⟩ [oBox b_r_ #[s_r_.v] 89, oBox b148 #[(.int .i64 0), (.int .i64 0), (.slice none 0 0)] 77, oBox b162 #[(.int .i64 ((el r_.parts 0).kind)), (.int .i64 ((el r_.parts 0).n)), s159.v] 77, oBox b336 #[(.int .i64 ((el r_.parts 0).kind)), (.int .i64 ((el r_.parts 0).n)), s159.v] 77, oBox b323 #[(.int .i64 ((el r_.parts 0).kind)), (.int .i64 ((el r_.parts 0).n)), s159.v] 77] [rV s_r_.v (cSl 3 fDPart r_.parts), rV s159.v (cSl 1 fI ((el r_.parts 0).signs))] _ := hM
        exact mid_c (b336, b323) ⟨rfl, rfl, rfl, rfl, rfl, rfl, trivial⟩ hM
      ·
        refine o_ex1 rfl fun w356 h357 => ?_
        have hM := hM.call h357
        refine x_alloc sz77 hM ?_; intro b354 w353 hR355 hM
        refine ⟨hR355, ?_⟩
        replace hM : St ⟨w, X, S⟩ [oBox b354 #[(.int .i64 0), (.int .i64 0), (.slice none 0 0)] 77, oBox b323 #[(.int .i64 0), (.int .i64 0), (.slice none 0 0)] 77, oBox b162 #[(.int .i64 ((el r_.parts 0).kind)), (.int .i64 ((el r_.parts 0).n)), s159.v] 77, oBox b148 #[(.int .i64 0), (.int .i64 0), (.slice none 0 0)] 77, oBox b_r_ #[s_r_.v] 89] [rV s159.v (cSl 1 fI ((el r_.parts 0).signs)), rV s_r_.v (cSl 3 fDPart r_.parts)] _ := hM
        refine o_nil fun w359 hw360 => ?_
        have hM := hM.call hw360
        refine wm_fork [(1, 0), (4, 1)] 2 rfl (by kernel_rfl) rfl (by kernel_rfl) ⟨?_, ?_, trivial⟩
        ·
          refine o_ex1 rfl fun w362 h363 => ?_
          have hM := hM.call h363
          refine exq (r_ldBS Try.underlying77 sz77 rfl (us := [(.int .i64 ((el r_.parts 0).kind)), (.int .i64 ((el r_.parts 0).n)), s159.v]) rfl hM (.tail _ (.tail _ (.head _))) rfl) ?_
          refine ⟨Rel.refl _, ?_⟩
          refine o_nil fun w364 hw365 => ?_
          have hM := hM.call hw365
          refine wm_run [(4, 2), (5, 2)] 0 rfl (by kernel_rfl) (by kernel_rfl) rfl ?_
          refine o_exu fun w368 h369 => ?_
          have hM := hM.call h369
          refine x_stB #[(.int .i64 ((el r_.parts 0).kind)), (.int .i64 ((el r_.parts 0).n)), s159.v] sz77 rfl rfl rfl rfl rfl rfl hM ?_; intro w366 hM
          replace hM := hM.p1
          refine o_exu fun w372 h373 => ?_
          have hM := hM.call h373
          refine x_stB #[(.int .i64 ((el r_.parts 0).kind)), (.int .i64 ((el r_.parts 0).n)), s159.v] sz77 rfl rfl rfl rfl rfl rfl hM ?_; intro w370 hM
          refine o_nil fun w374 hw375 => ?_
          have hM := hM.call hw375
          refine wm_end (by kernel_rfl) fun w376 hw377 => ?_
          have hM := hM.call hw377
          replace hM := hM.p1.p2.p3.p4
          have hM := hM.fewer (rsC (.tail _ (.head _)) (rsC (.head _) rsN))
          replace hM : St ⟨w, X, S⟩ [oBox b_r_ #[s_r_.v] 89, oBox b148 #[(.int .i64 0), (.int .i64 0), (.slice none 0 0)] 77, oBox b162 #[(.int .i64 ((el r_.parts 0).kind)), (.int .i64 ((el r_.parts 0).n)), s159.v] 77, oBox b354 #[(.int .i64 ((el r_.parts 0).kind)), (.int .i64 ((el r_.parts 0).n)), s159.v] 77, oBox b323 #[(.int .i64 ((el r_.parts 0).kind)), (.int .i64 ((el r_.parts 0).n)), s159.v] 77] [rV s_r_.v (cSl 3 fDPart r_.parts), rV s159.v (cSl 1 fI ((el r_.parts 0).signs))] _ := hM
          exact mid_c (b354, b323) ⟨rfl, rfl, rfl, rfl, rfl, rfl, trivial⟩ hM
        ·
          refine o_exu fun w380 h381 => ?_
          have hM := hM.call h381
          refine x_stB #[(.int .i64 ((el r_.parts 0).kind)), (.int .i64 ((el r_.parts 0).n)), s159.v] sz77 rfl rfl rfl rfl rfl rfl hM ?_; intro w378 hM
          refine o_nil fun w382 hw383 => ?_
          have hM := hM.call hw383
          refine wm_run [(1, 1), (5, 2)] 0 rfl (by kernel_rfl) (by kernel_rfl) rfl ?_
          refine o_ex1 rfl fun w385 h386 => ?_
          have hM := hM.call h386
          refine exq (r_ldBS Try.underlying77 sz77 rfl (us := [(.int .i64 ((el r_.parts 0).kind)), (.int .i64 ((el r_.parts 0).n)), s159.v]) rfl hM (.tail _ (.tail _ (.head _))) rfl) ?_
          refine ⟨Rel.refl _, ?_⟩
          replace hM := hM.p1
          refine o_exu fun w389 h390 => ?_
          have hM := hM.call h390
          refine x_stB #[(.int .i64 ((el r_.parts 0).kind)), (.int .i64 ((el r_.parts 0).n)), s159.v] sz77 rfl rfl rfl rfl rfl rfl hM ?_; intro w387 hM
          refine o_nil fun w391 hw392 => ?_
          have hM := hM.call hw392
          refine wm_end (by kernel_rfl) fun w393 hw394 => ?_
          have hM := hM.call hw394
          replace hM := hM.p1.p2.p3.p4
          have hM := hM.fewer (rsC (.tail _ (.head _)) (rsC (.head _) rsN))
          replace hM : St ⟨w, X, S⟩ [oBox b_r_ #[s_r_.v] 89, oBox b148 #[(.int .i64 0), (.int .i64 0), (.slice none 0 0)] 77, oBox b162 #[(.int .i64 ((el r_.parts 0).kind)), (.int .i64 ((el r_.parts 0).n)), s159.v] 77, oBox b354 #[(.int .i64 ((el r_.parts 0).kind)), (.int .i64 ((el r_.parts 0).n)), s159.v] 77, oBox b323 #[(.int .i64 ((el r_.parts 0).kind)), (.int .i64 ((el r_.parts 0).n)), s159.v] 77] [rV s_r_.v (cSl 3 fDPart r_.parts), rV s159.v (cSl 1 fI ((el r_.parts 0).signs))] _ := hM
          exact mid_c (b354, b323) ⟨rfl, rfl, rfl, rfl, rfl, rfl, trivial⟩ hM
  rintro ⟨b170, b176⟩ w395 hM
  refine sq_n ?_
  refine wc_seq ?_
  refine wc_seq ?_
  refine wc_region ?_
  refine wv rfl (r_fld Try.underlying77 rfl rfl sz3 rfl) ?_
  refine wv rfl (r_ldB Try.underlying3 rfl rfl hM (.tail _ (.tail _ (.head _))) rfl) ?_
  refine wv rfl (r_eql rfl rfl) ?_
  refine wl_nil ?_
  refine sq_n ?_
  refine wc_cond rfl (fun hc399 => ?_) (fun hc399 => ?_)
  · replace hx := xif_t hc399 hx
    obtain ⟨hg404, hx⟩ := xg_some hx
    obtain ⟨hg410, hx⟩ := xg_some hx
    refine wc_mid (fun (u : Unit) => [(0, (.pointer (some ⟨b_r_, 0, none⟩))), (4, (.pointer (some ⟨b148, 0, none⟩))), (6, (.pointer (some ⟨b170, 0, none⟩))), (7, (.pointer (some ⟨b176, 0, none⟩)))]) (fun (u : Unit) w' => St ⟨w, X, S⟩ [oBox b_r_ #[s_r_.v] 89, oBox b148 #[(.int .i64 0), (.int .i64 0), (.slice none 0 0)] 77, oBox b170 #[(.int .i64 ((el r_.parts 0).kind)), (.int .i64 ((el r_.parts 0).n)), (s159.cut 1 n.toNat (((el r_.parts 0).signs).length)).v] 77, oBox b176 #[(.int .i64 ((el r_.parts 0).kind)), (.int .i64 ((el r_.parts 0).n)), (s159.cut 1 0 n.toNat).v] 77] [rV s_r_.v (cSl 3 fDPart r_.parts), rV (s159.cut 1 n.toNat (((el r_.parts 0).signs).length)).v (cSl 1 fI ((((el r_.parts 0).signs).take ((el r_.parts 0).signs).length).drop n.toNat)), rV (s159.cut 1 0 n.toNat).v (cSl 1 fI ((((el r_.parts 0).signs).take n.toNat).drop 0))] w') ?_ ?_
    · refine wc_drawM Try_mixed ?_
      refine wm_run [(0, 0), (1, 0), (2, 0), (3, 0), (6, 0), (8, 0)] 6 rfl (by kernel_rfl) (by kernel_rfl) rfl ?_
      refine ov rfl (fun w' h' => r_fld Try.underlying77 rfl rfl sz26 rfl) ?_
      refine ov rfl (fun w' h' => r_ldB Try.underlying26 rfl rfl (hM.call h') (.tail _ (.tail _ (.head _))) rfl) ?_
      refine ov rfl (fun w' h' => r_move rfl) ?_
      have hM := hM.cutR (L := ((el r_.parts 0).signs)) (f := fI) (lo := 0) (hi := n.toNat) (fun _ => rfl) (by omega) (by omega) (.tail _ (.head _))
      refine ov rfl (fun w' h' => r_slc_hi Try.underlying26 sz3 rfl rfl ((hM.call h').seeR (.tail _ (.tail _ (.head _)))) hg404) ?_
      refine ov rfl (fun w' h' => r_move rfl) ?_
      refine ov rfl (fun w' h' => r_fld Try.underlying77 rfl rfl sz26 rfl) ?_
      refine o_nil fun w426 hw427 => ?_
      have hM := hM.call hw427
      refine wm_fork [(4, 0), (9, 1)] 5 rfl (by kernel_rfl) rfl (by kernel_rfl) ⟨?_, ?_, trivial⟩
      ·
        refine o_ex1 rfl fun w429 h430 => ?_
        have hM := hM.call h430
        refine exq (r_fld Try.underlying77 rfl rfl sz26 rfl) ?_
        refine ⟨Rel.refl _, ?_⟩
        refine o_nil fun w431 hw432 => ?_
        have hM := hM.call hw432
        refine wm_fork [(5, 0), (9, 1)] 4 rfl (by kernel_rfl) rfl (by kernel_rfl) ⟨?_, ?_, trivial⟩
        ·
          refine o_ex1 rfl fun w434 h435 => ?_
          have hM := hM.call h435
          refine exq (r_ldB Try.underlying26 rfl rfl hM (.tail _ (.tail _ (.head _))) rfl) ?_
          refine ⟨Rel.refl _, ?_⟩
          refine o_nil fun w436 hw437 => ?_
          have hM := hM.call hw437
          refine wm_fork [(7, 0), (9, 1)] 3 rfl (by kernel_rfl) rfl (by kernel_rfl) ⟨?_, ?_, trivial⟩
          ·
            have hM := hM.cutR (L := ((el r_.parts 0).signs)) (f := fI) (lo := n.toNat) (hi := (((el r_.parts 0).signs).length)) (fun _ => rfl) (by omega) (by omega) (.tail _ (.tail _ (.head _)))
            refine o_ex1 rfl fun w439 h440 => ?_
            have hM := hM.call h440
            refine exq (r_slc_lo Try.underlying26 sz3 rfl rfl (hM.seeR (.tail _ (.tail _ (.tail _ (.head _))))) hg410) ?_
            refine ⟨Rel.refl _, ?_⟩
            refine o_nil fun w441 hw442 => ?_
            have hM := hM.call hw442
            refine wm_run [(9, 2), (10, 0), (11, 2)] 0 rfl (by kernel_rfl) (by kernel_rfl) rfl ?_
            replace hM := hM.p4
            refine o_exu fun w445 h446 => ?_
            have hM := hM.call h446
            refine x_stB #[(.int .i64 ((el r_.parts 0).kind)), (.int .i64 ((el r_.parts 0).n)), (s159.cut 1 0 n.toNat).v] sz26 rfl rfl rfl rfl rfl rfl hM ?_; intro w443 hM
            refine ov rfl (fun w' h' => r_fld Try.underlying77 rfl rfl sz26 rfl) ?_
            replace hM := hM.p4
            refine o_exu fun w450 h451 => ?_
            have hM := hM.call h451
            refine x_stB #[(.int .i64 ((el r_.parts 0).kind)), (.int .i64 ((el r_.parts 0).n)), (s159.cut 1 n.toNat (((el r_.parts 0).signs).length)).v] sz26 rfl rfl rfl rfl rfl rfl hM ?_; intro w448 hM
            refine o_nil fun w452 hw453 => ?_
            have hM := hM.call hw453
            refine wm_end (by kernel_rfl) fun w454 hw455 => ?_
            have hM := hM.call hw455
            replace hM := hM.p1.p1.p3.p3
            replace hM := hM.t4
            have hM := hM.fewer (rsC (.tail _ (.tail _ (.head _))) (rsC (.head _) (rsC (.tail _ (.head _)) rsN)))
            replace hM : St ⟨w, X, S⟩ [oBox b_r_ #[s_r_.v] 89, oBox b148 #[(.int .i64 0), (.int .i64 0), (.slice none 0 0)] 77, oBox b170 #[(.int .i64 ((el r_.parts 0).kind)), (.int .i64 ((el r_.parts 0).n)), (s159.cut 1 n.toNat (((el r_.parts 0).signs).length)).v] 77, oBox b176 #[(.int .i64 ((el r_.parts 0).kind)), (.int .i64 ((el r_.parts 0).n)), (s159.cut 1 0 n.toNat).v] 77] [rV s_r_.v (cSl 3 fDPart r_.parts), rV (s159.cut 1 n.toNat (((el r_.parts 0).signs).length)).v (cSl 1 fI ((((el r_.parts 0).signs).take ((el r_.parts 0).signs).length).drop n.toNat)), rV (s159.cut 1 0 n.toNat).v (cSl 1 fI ((((el r_.parts 0).signs).take n.toNat).drop 0))] _ := hM
            exact mid_c () ⟨rfl, rfl, rfl, rfl, trivial⟩ hM
          ·
            replace hM := hM.p4
            refine o_exu fun w458 h459 => ?_
            have hM := hM.call h459
            refine x_stB #[(.int .i64 ((el r_.parts 0).kind)), (.int .i64 ((el r_.parts 0).n)), (s159.cut 1 0 n.toNat).v] sz26 rfl rfl rfl rfl rfl rfl hM ?_; intro w456 hM
            refine o_nil fun w460 hw461 => ?_
            have hM := hM.call hw461
            refine wm_run [(7, 1), (10, 0), (11, 2)] 0 rfl (by kernel_rfl) (by kernel_rfl) rfl ?_
            have hM := hM.cutR (L := ((el r_.parts 0).signs)) (f := fI) (lo := n.toNat) (hi := (((el r_.parts 0).signs).length)) (fun _ => rfl) (by omega) (by omega) (.tail _ (.tail _ (.head _)))
            refine o_ex1 rfl fun w463 h464 => ?_
            have hM := hM.call h464
            refine exq (r_slc_lo Try.underlying26 sz3 rfl rfl (hM.seeR (.tail _ (.tail _ (.tail _ (.head _))))) hg410) ?_
            refine ⟨Rel.refl _, ?_⟩
            refine ov rfl (fun w' h' => r_fld Try.underlying77 rfl rfl sz26 rfl) ?_
            replace hM := hM.p4
            refine o_exu fun w468 h469 => ?_
            have hM := hM.call h469
            refine x_stB #[(.int .i64 ((el r_.parts 0).kind)), (.int .i64 ((el r_.parts 0).n)), (s159.cut 1 n.toNat (((el r_.parts 0).signs).length)).v] sz26 rfl rfl rfl rfl rfl rfl hM ?_; intro w466 hM
            refine o_nil fun w470 hw471 => ?_
            have hM := hM.call hw471
            refine wm_end (by kernel_rfl) fun w472 hw473 => ?_
            have hM := hM.call hw473
            replace hM := hM.p1.p1.p3.p3
            replace hM := hM.t4
            have hM := hM.fewer (rsC (.tail _ (.tail _ (.head _))) (rsC (.head _) (rsC (.tail _ (.head _)) rsN)))
            replace hM : St ⟨w, X, S⟩ [oBox b_r_ #[s_r_.v] 89, oBox b148 #[(.int .i64 0), (.int .i64 0), (.slice none 0 0)] 77, oBox b170 #[(.int .i64 ((el r_.parts 0).kind)), (.int .i64 ((el r_.parts 0).n)), (s159.cut 1 n.toNat (((el r_.parts 0).signs).length)).v] 77, oBox b176 #[(.int .i64 ((el r_.parts 0).kind)), (.int .i64 ((el r_.parts 0).n)), (s159.cut 1 0 n.toNat).v] 77] [rV s_r_.v (cSl 3 fDPart r_.parts), rV (s159.cut 1 n.toNat (((el r_.parts 0).signs).length)).v (cSl 1 fI ((((el r_.parts 0).signs).take ((el r_.parts 0).signs).length).drop n.toNat)), rV (s159.cut 1 0 n.toNat).v (cSl 1 fI ((((el r_.parts 0).signs).take n.toNat).drop 0))] _ := hM
            exact mid_c () ⟨rfl, rfl, rfl, rfl, trivial⟩ hM
        ·
          replace hM := hM.p4
          refine o_exu fun w476 h477 => ?_
          have hM := hM.call h477
          refine x_stB #[(.int .i64 ((el r_.parts 0).kind)), (.int .i64 ((el r_.parts 0).n)), (s159.cut 1 0 n.toNat).v] sz26 rfl rfl rfl rfl rfl rfl hM ?_; intro w474 hM
          refine o_nil fun w478 hw479 => ?_
          have hM := hM.call hw479
          refine wm_run [(5, 1), (7, 1), (10, 0), (11, 2)] 0 rfl (by kernel_rfl) (by kernel_rfl) rfl ?_
          refine o_ex1 rfl fun w481 h482 => ?_
          have hM := hM.call h482
          refine exq (r_ldB Try.underlying26 rfl rfl hM (.tail _ (.tail _ (.tail _ (.head _)))) rfl) ?_
          refine ⟨Rel.refl _, ?_⟩
          have hM := hM.cutR (L := ((el r_.parts 0).signs)) (f := fI) (lo := n.toNat) (hi := (((el r_.parts 0).signs).length)) (fun _ => rfl) (by omega) (by omega) (.tail _ (.tail _ (.head _)))
          refine o_ex1 rfl fun w484 h485 => ?_
          have hM := hM.call h485
          refine exq (r_slc_lo Try.underlying26 sz3 rfl rfl (hM.seeR (.tail _ (.tail _ (.tail _ (.head _))))) hg410) ?_
          refine ⟨Rel.refl _, ?_⟩
          refine ov rfl (fun w' h' => r_fld Try.underlying77 rfl rfl sz26 rfl) ?_
          replace hM := hM.p4
          refine o_exu fun w489 h490 => ?_
          have hM := hM.call h490
          refine x_stB #[(.int .i64 ((el r_.parts 0).kind)), (.int .i64 ((el r_.parts 0).n)), (s159.cut 1 n.toNat (((el r_.parts 0).signs).length)).v] sz26 rfl rfl rfl rfl rfl rfl hM ?_; intro w487 hM
          refine o_nil fun w491 hw492 => ?_
          have hM := hM.call hw492
          refine wm_end (by kernel_rfl) fun w493 hw494 => ?_
          have hM := hM.call hw494
          replace hM := hM.p1.p1.p3.p3
          replace hM := hM.t4
          have hM := hM.fewer (rsC (.tail _ (.tail _ (.head _))) (rsC (.head _) (rsC (.tail _ (.head _)) rsN)))
          replace hM : St ⟨w, X, S⟩ [oBox b_r_ #[s_r_.v] 89, oBox b148 #[(.int .i64 0), (.int .i64 0), (.slice none 0 0)] 77, oBox b170 #[(.int .i64 ((el r_.parts 0).kind)), (.int .i64 ((el r_.parts 0).n)), (s159.cut 1 n.toNat (((el r_.parts 0).signs).length)).v] 77, oBox b176 #[(.int .i64 ((el r_.parts 0).kind)), (.int .i64 ((el r_.parts 0).n)), (s159.cut 1 0 n.toNat).v] 77] [rV s_r_.v (cSl 3 fDPart r_.parts), rV (s159.cut 1 n.toNat (((el r_.parts 0).signs).length)).v (cSl 1 fI ((((el r_.parts 0).signs).take ((el r_.parts 0).signs).length).drop n.toNat)), rV (s159.cut 1 0 n.toNat).v (cSl 1 fI ((((el r_.parts 0).signs).take n.toNat).drop 0))] _ := hM
          exact mid_c () ⟨rfl, rfl, rfl, rfl, trivial⟩ hM
      ·
        replace hM := hM.p4
        refine o_exu fun w497 h498 => ?_
        have hM := hM.call h498
        refine x_stB #[(.int .i64 ((el r_.parts 0).kind)), (.int .i64 ((el r_.parts 0).n)), (s159.cut 1 0 n.toNat).v] sz26 rfl rfl rfl rfl rfl rfl hM ?_; intro w495 hM
        refine o_nil fun w499 hw500 => ?_
        have hM := hM.call hw500
        refine wm_run [(4, 1), (5, 1), (7, 1), (10, 0), (11, 2)] 0 rfl (by kernel_rfl) (by kernel_rfl) rfl ?_
        refine o_ex1 rfl fun w502 h503 => ?_
        have hM := hM.call h503
        refine exq (r_fld Try.underlying77 rfl rfl sz26 rfl) ?_
        refine ⟨Rel.refl _, ?_⟩
        refine o_ex1 rfl fun w505 h506 => ?_
        have hM := hM.call h506
        refine exq (r_ldB Try.underlying26 rfl rfl hM (.tail _ (.tail _ (.tail _ (.head _)))) rfl) ?_
        refine ⟨Rel.refl _, ?_⟩
        have hM := hM.cutR (L := ((el r_.parts 0).signs)) (f := fI) (lo := n.toNat) (hi := (((el r_.parts 0).signs).length)) (fun _ => rfl) (by omega) (by omega) (.tail _ (.tail _ (.head _)))
        refine o_ex1 rfl fun w508 h509 => ?_
        have hM := hM.call h509
        refine exq (r_slc_lo Try.underlying26 sz3 rfl rfl (hM.seeR (.tail _ (.tail _ (.tail _ (.head _))))) hg410) ?_
        refine ⟨Rel.refl _, ?_⟩
        refine ov rfl (fun w' h' => r_fld Try.underlying77 rfl rfl sz26 rfl) ?_
        replace hM := hM.p4
        refine o_exu fun w513 h514 => ?_
        have hM := hM.call h514
        refine x_stB #[(.int .i64 ((el r_.parts 0).kind)), (.int .i64 ((el r_.parts 0).n)), (s159.cut 1 n.toNat (((el r_.parts 0).signs).length)).v] sz26 rfl rfl rfl rfl rfl rfl hM ?_; intro w511 hM
        refine o_nil fun w515 hw516 => ?_
        have hM := hM.call hw516
        refine wm_end (by kernel_rfl) fun w517 hw518 => ?_
        have hM := hM.call hw518
        replace hM := hM.p1.p1.p3.p3
        replace hM := hM.t4
        have hM := hM.fewer (rsC (.tail _ (.tail _ (.head _))) (rsC (.head _) (rsC (.tail _ (.head _)) rsN)))
        replace hM : St ⟨w, X, S⟩ [oBox b_r_ #[s_r_.v] 89, oBox b148 #[(.int .i64 0), (.int .i64 0), (.slice none 0 0)] 77, oBox b170 #[(.int .i64 ((el r_.parts 0).kind)), (.int .i64 ((el r_.parts 0).n)), (s159.cut 1 n.toNat (((el r_.parts 0).signs).length)).v] 77, oBox b176 #[(.int .i64 ((el r_.parts 0).kind)), (.int .i64 ((el r_.parts 0).n)), (s159.cut 1 0 n.toNat).v] 77] [rV s_r_.v (cSl 3 fDPart r_.parts), rV (s159.cut 1 n.toNat (((el r_.parts 0).signs).length)).v (cSl 1 fI ((((el r_.parts 0).signs).take ((el r_.parts 0).signs).length).drop n.toNat)), rV (s159.cut 1 0 n.toNat).v (cSl 1 fI ((((el r_.parts 0).signs).take n.toNat).drop 0))] _ := hM
        exact mid_c () ⟨rfl, rfl, rfl, rfl, trivial⟩ hM
    rintro u w519 hM
    refine sq_n ?_
    refine wc_seq ?_
    refine wc_draw [(0, 0), (1, 0), (3, 0), (4, 0), (5, 0), (6, 0), (7, 0), (2, 1), (8, 2), (9, 0), (10, 0), (11, 2)] Try_mixed (by kernel_rfl) rfl (by kernel_rfl) rfl ?_
    refine ov rfl (fun w' h' => r_move rfl) ?_
    refine ov rfl (fun w' h' => r_ldBS Try.underlying77 sz77 rfl (us := [(.int .i64 ((el r_.parts 0).kind)), (.int .i64 ((el r_.parts 0).n)), (s159.cut 1 n.toNat (((el r_.parts 0).signs).length)).v]) rfl (hM.call h') (.tail _ (.tail _ (.head _))) rfl) ?_
    refine ov rfl (fun w' h' => r_move rfl) ?_
    refine ov rfl (fun w' h' => r_nilck rfl) ?_
    refine ov rfl (fun w' h' => r_fld Try.underlying89 rfl rfl sz29 rfl) ?_
    refine ov rfl (fun w' h' => r_ldB Try.underlying29 rfl rfl (hM.call h') (.head _) rfl) ?_
    obtain ⟨hg527, hx⟩ := xg_some hx
    have hM := hM.cutR (L := r_.parts) (f := fDPart) (lo := 1) (hi := r_.parts.length) (fun _ => rfl) (by omega) (by omega) (.head _)
    refine ov rfl (fun w' h' => r_slc_lo Try.underlying29 sz77 rfl rfl ((hM.call h').seeR (.tail _ (.head _))) hg527) ?_
    refine o_ex1 rfl fun w531 h532 => ?_
    have hM := hM.call h532
    refine x_litS (f := fDPart) [(⟨(el r_.parts 0).kind, (el r_.parts 0).n, (((el r_.parts 0).signs).take ((el r_.parts 0).signs).length).drop n.toNat⟩ : DPart)] [(.int .i64 ((el r_.parts 0).kind)), (.int .i64 ((el r_.parts 0).n)), (s159.cut 1 n.toNat (((el r_.parts 0).signs).length)).v] 1 Try.underlying29 sz77 rfl rfl rfl rfl rfl (by kernel_rfl) (fun S w hR => ⟨_, _, rfl, rfl, ⟨_, _, rfl, rfl, ⟨_, _, rfl, hR _ (.tail _ (.tail _ (.head _))), rfl⟩⟩⟩) hM ?_; intro s529 w528 hR530 hM
    refine ⟨hR530, ?_⟩
    obtain ⟨hg536, hx⟩ := xg_some hx
    refine o_ex rfl fun w539 h540 => ?_
    have hM := hM.call h540
    refine x_appendS (f := fDPart) (L := [(⟨(el r_.parts 0).kind, (el r_.parts 0).n, (((el r_.parts 0).signs).take ((el r_.parts 0).signs).length).drop n.toNat⟩ : DPart)]) (M := ((r_.parts.take r_.parts.length).drop 1)) Try.underlying29 sz77 rfl rfl (fun _ => rfl) hM (.head _) (.tail _ (.head _)) hg536 rfl ?_; intro s535 xs537 w534 hM
    refine ov rfl (fun w' h' => r_nilck rfl) ?_
    refine ov rfl (fun w' h' => r_fld Try.underlying89 rfl rfl sz29 rfl) ?_
    replace hM := hM.p1
    refine o_exu fun w545 h546 => ?_
    have hM := hM.call h546
    refine x_stB #[s535.v] sz29 rfl rfl rfl rfl rfl rfl hM ?_; intro w543 hM
    refine o_nil fun w547 hw548 => ?_
    have hM := hM.call hw548
    refine sq_n ?_
    refine wc_seq ?_
    refine wc_region ?_
    refine wv rfl (r_ldBS Try.underlying77 sz77 rfl (us := [(.int .i64 ((el r_.parts 0).kind)), (.int .i64 ((el r_.parts 0).n)), (s159.cut 1 0 n.toNat).v]) rfl hM (.tail _ (.tail _ (.tail _ (.tail _ (.head _))))) rfl) ?_
    replace hM := hM.p2
    refine w_exu (x_stB #[(.int .i64 ((el r_.parts 0).kind)), (.int .i64 ((el r_.parts 0).n)), (s159.cut 1 0 n.toNat).v] sz77 rfl rfl rfl rfl rfl rfl hM ?_); intro w550 hM
    refine wl_nil ?_
    refine sq_n ?_
    refine wc_ret ?_
    obtain rfl := Option.some.inj hx
    replace hM := hM.p2
    have hM := hM.sealS (fun _ => rfl) (.head _)
    refine fin_ret [(.agg #[(.int .i64 ((el r_.parts 0).kind)), (.int .i64 ((el r_.parts 0).n)), (s159.cut 1 0 n.toNat).v])] ⟨rv_box Try.underlying77 sz77 rfl rfl hM (.head _), trivial⟩ ?_
    replace hM := hM.p1
    replace hM := hM.t1
    have hM := hM.fewer (rsC (.tail _ (.tail _ (.tail _ (.tail _ (.tail _ (.tail _ (.head _))))))) (rsC (.head _) rsN))
    exact ⟨((s159.cut 1 0 n.toNat), s535), rfl, hM.gives⟩
  · replace hx := xif_f hc399 hx
    obtain ⟨hg558, hx⟩ := xg_some hx
    refine wc_mid (fun (u : Unit) => [(0, (.pointer (some ⟨b_r_, 0, none⟩))), (4, (.pointer (some ⟨b148, 0, none⟩))), (6, (.pointer (some ⟨b170, 0, none⟩))), (7, (.pointer (some ⟨b176, 0, none⟩)))]) (fun (u : Unit) w' => St ⟨w, X, S⟩ [oBox b_r_ #[s_r_.v] 89, oBox b148 #[(.int .i64 0), (.int .i64 0), (.slice none 0 0)] 77, oBox b170 #[(.int .i64 ((el r_.parts 0).kind)), (.int .i64 (((el r_.parts 0).n) - n)), s159.v] 77, oBox b176 #[(.int .i64 ((el r_.parts 0).kind)), (.int .i64 n), s159.v] 77] [rV s_r_.v (cSl 3 fDPart r_.parts), rV s159.v (cSl 1 fI ((el r_.parts 0).signs))] w') ?_ ?_
    · refine wc_drawM Try_mixed ?_
      refine wm_run [(0, 0), (3, 0), (5, 0)] 6 rfl (by kernel_rfl) (by kernel_rfl) rfl ?_
      refine ov rfl (fun w' h' => r_move rfl) ?_
      refine ov rfl (fun w' h' => r_move rfl) ?_
      refine ov rfl (fun w' h' => r_fld Try.underlying77 rfl rfl sz3 rfl) ?_
      refine o_nil fun w571 hw572 => ?_
      have hM := hM.call hw572
      refine wm_fork [(1, 0), (6, 1)] 5 rfl (by kernel_rfl) rfl (by kernel_rfl) ⟨?_, ?_, trivial⟩
      ·
        refine o_ex1 rfl fun w574 h575 => ?_
        have hM := hM.call h575
        refine exq (r_fld Try.underlying77 rfl rfl sz3 rfl) ?_
        refine ⟨Rel.refl _, ?_⟩
        refine o_nil fun w576 hw577 => ?_
        have hM := hM.call hw577
        refine wm_fork [(2, 0), (6, 1)] 4 rfl (by kernel_rfl) rfl (by kernel_rfl) ⟨?_, ?_, trivial⟩
        ·
          refine o_ex1 rfl fun w579 h580 => ?_
          have hM := hM.call h580
          refine exq (r_ldB Try.underlying3 rfl rfl hM (.tail _ (.tail _ (.head _))) rfl) ?_
          refine ⟨Rel.refl _, ?_⟩
          refine o_nil fun w581 hw582 => ?_
          have hM := hM.call hw582
          refine wm_fork [(4, 0), (6, 1)] 3 rfl (by kernel_rfl) rfl (by kernel_rfl) ⟨?_, ?_, trivial⟩
          ·
            refine o_ex1 rfl fun w584 h585 => ?_
            have hM := hM.call h585
            refine exq (r_sub rfl rfl hg558) ?_
            refine ⟨Rel.refl _, ?_⟩
            refine o_nil fun w586 hw587 => ?_
            have hM := hM.call hw587
            refine wm_run [(6, 2), (7, 0), (8, 2)] 0 rfl (by kernel_rfl) (by kernel_rfl) rfl ?_
            replace hM := hM.p4
            refine o_exu fun w590 h591 => ?_
            have hM := hM.call h591
            refine x_stB #[(.int .i64 ((el r_.parts 0).kind)), (.int .i64 n), s159.v] sz3 rfl rfl rfl rfl rfl rfl hM ?_; intro w588 hM
            refine ov rfl (fun w' h' => r_fld Try.underlying77 rfl rfl sz3 rfl) ?_
            replace hM := hM.p4
            refine o_exu fun w595 h596 => ?_
            have hM := hM.call h596
            refine x_stB #[(.int .i64 ((el r_.parts 0).kind)), (.int .i64 (((el r_.parts 0).n) - n)), s159.v] sz3 rfl rfl rfl rfl rfl rfl hM ?_; intro w593 hM
            refine o_nil fun w597 hw598 => ?_
            have hM := hM.call hw598
            refine wm_end (by kernel_rfl) fun w599 hw600 => ?_
            have hM := hM.call hw600
            replace hM := hM.p1.p1.p3.p3
            replace hM := hM.t4
            exact mid_c () ⟨rfl, rfl, rfl, rfl, trivial⟩ hM
          ·
            replace hM := hM.p4
            refine o_exu fun w603 h604 => ?_
            have hM := hM.call h604
            refine x_stB #[(.int .i64 ((el r_.parts 0).kind)), (.int .i64 n), s159.v] sz3 rfl rfl rfl rfl rfl rfl hM ?_; intro w601 hM
            refine o_nil fun w605 hw606 => ?_
            have hM := hM.call hw606
            refine wm_run [(4, 1), (7, 0), (8, 2)] 0 rfl (by kernel_rfl) (by kernel_rfl) rfl ?_
            refine o_ex1 rfl fun w608 h609 => ?_
            have hM := hM.call h609
            refine exq (r_sub rfl rfl hg558) ?_
            refine ⟨Rel.refl _, ?_⟩
            refine ov rfl (fun w' h' => r_fld Try.underlying77 rfl rfl sz3 rfl) ?_
            replace hM := hM.p4
            refine o_exu fun w613 h614 => ?_
            have hM := hM.call h614
            refine x_stB #[(.int .i64 ((el r_.parts 0).kind)), (.int .i64 (((el r_.parts 0).n) - n)), s159.v] sz3 rfl rfl rfl rfl rfl rfl hM ?_; intro w611 hM
            refine o_nil fun w615 hw616 => ?_
            have hM := hM.call hw616
            refine wm_end (by kernel_rfl) fun w617 hw618 => ?_
            have hM := hM.call hw618
            replace hM := hM.p1.p1.p3.p3
            replace hM := hM.t4
            exact mid_c () ⟨rfl, rfl, rfl, rfl, trivial⟩ hM
        ·
          replace hM := hM.p4
          refine o_exu fun w621 h622 => ?_
          have hM := hM.call h622
          refine x_stB #[(.int .i64 ((el r_.parts 0).kind)), (.int .i64 n), s159.v] sz3 rfl rfl rfl rfl rfl rfl hM ?_; intro w619 hM
          refine o_nil fun w623 hw624 => ?_
          have hM := hM.call hw624
          refine wm_run [(2, 1), (4, 1), (7, 0), (8, 2)] 0 rfl (by kernel_rfl) (by kernel_rfl) rfl ?_
          refine o_ex1 rfl fun w626 h627 => ?_
          have hM := hM.call h627
          refine exq (r_ldB Try.underlying3 rfl rfl hM (.tail _ (.tail _ (.tail _ (.head _)))) rfl) ?_
          refine ⟨Rel.refl _, ?_⟩
          refine o_ex1 rfl fun w629 h630 => ?_
          have hM := hM.call h630
          refine exq (r_sub rfl rfl hg558) ?_
          refine ⟨Rel.refl _, ?_⟩
          refine ov rfl (fun w' h' => r_fld Try.underlying77 rfl rfl sz3 rfl) ?_
          replace hM := hM.p4
          refine o_exu fun w634 h635 => ?_
          have hM := hM.call h635
          refine x_stB #[(.int .i64 ((el r_.parts 0).kind)), (.int .i64 (((el r_.parts 0).n) - n)), s159.v] sz3 rfl rfl rfl rfl rfl rfl hM ?_; intro w632 hM
          refine o_nil fun w636 hw637 => ?_
          have hM := hM.call hw637
          refine wm_end (by kernel_rfl) fun w638 hw639 => ?_
          have hM := hM.call hw639
          replace hM := hM.p1.p1.p3.p3
          replace hM := hM.t4
          exact mid_c () ⟨rfl, rfl, rfl, rfl, trivial⟩ hM
      ·
        replace hM := hM.p4
        refine o_exu fun w642 h643 => ?_
        have hM := hM.call h643
        refine x_stB #[(.int .i64 ((el r_.parts 0).kind)), (.int .i64 n), s159.v] sz3 rfl rfl rfl rfl rfl rfl hM ?_; intro w640 hM
        refine o_nil fun w644 hw645 => ?_
        have hM := hM.call hw645
        refine wm_run [(1, 1), (2, 1), (4, 1), (7, 0), (8, 2)] 0 rfl (by kernel_rfl) (by kernel_rfl) rfl ?_
        refine o_ex1 rfl fun w647 h648 => ?_
        have hM := hM.call h648
        refine exq (r_fld Try.underlying77 rfl rfl sz3 rfl) ?_
        refine ⟨Rel.refl _, ?_⟩
        refine o_ex1 rfl fun w650 h651 => ?_
        have hM := hM.call h651
        refine exq (r_ldB Try.underlying3 rfl rfl hM (.tail _ (.tail _ (.tail _ (.head _)))) rfl) ?_
        refine ⟨Rel.refl _, ?_⟩
        refine o_ex1 rfl fun w653 h654 => ?_
        have hM := hM.call h654
        refine exq (r_sub rfl rfl hg558) ?_
        refine ⟨Rel.refl _, ?_⟩
        refine ov rfl (fun w' h' => r_fld Try.underlying77 rfl rfl sz3 rfl) ?_
        replace hM := hM.p4
        refine o_exu fun w658 h659 => ?_
        have hM := hM.call h659
        refine x_stB #[(.int .i64 ((el r_.parts 0).kind)), (.int .i64 (((el r_.parts 0).n) - n)), s159.v] sz3 rfl rfl rfl rfl rfl rfl hM ?_; intro w656 hM
        refine o_nil fun w660 hw661 => ?_
        have hM := hM.call hw661
        refine wm_end (by kernel_rfl) fun w662 hw663 => ?_
        have hM := hM.call hw663
        replace hM := hM.p1.p1.p3.p3
        replace hM := hM.t4
        exact mid_c () ⟨rfl, rfl, rfl, rfl, trivial⟩ hM
    rintro u w664 hM
    refine sq_n ?_
    refine wc_seq ?_
    refine wc_draw [(0, 0), (1, 0), (3, 0), (4, 0), (5, 0), (6, 0), (7, 0), (2, 1), (8, 2), (9, 0), (10, 0), (11, 2)] Try_mixed (by kernel_rfl) rfl (by kernel_rfl) rfl ?_
    refine ov rfl (fun w' h' => r_move rfl) ?_
    refine ov rfl (fun w' h' => r_ldBS Try.underlying77 sz77 rfl (us := [(.int .i64 ((el r_.parts 0).kind)), (.int .i64 (((el r_.parts 0).n) - n)), s159.v]) rfl (hM.call h') (.tail _ (.tail _ (.head _))) rfl) ?_
    refine ov rfl (fun w' h' => r_move rfl) ?_
    refine ov rfl (fun w' h' => r_nilck rfl) ?_
    refine ov rfl (fun w' h' => r_fld Try.underlying89 rfl rfl sz29 rfl) ?_
    refine ov rfl (fun w' h' => r_ldB Try.underlying29 rfl rfl (hM.call h') (.head _) rfl) ?_
    obtain ⟨hg672, hx⟩ := xg_some hx
    have hM := hM.cutR (L := r_.parts) (f := fDPart) (lo := 1) (hi := r_.parts.length) (fun _ => rfl) (by omega) (by omega) (.head _)
    refine ov rfl (fun w' h' => r_slc_lo Try.underlying29 sz77 rfl rfl ((hM.call h').seeR (.tail _ (.head _))) hg672) ?_
    refine o_ex1 rfl fun w676 h677 => ?_
    have hM := hM.call h677
    refine x_litS (f := fDPart) [(⟨(el r_.parts 0).kind, ((el r_.parts 0).n) - n, (el r_.parts 0).signs⟩ : DPart)] [(.int .i64 ((el r_.parts 0).kind)), (.int .i64 (((el r_.parts 0).n) - n)), s159.v] 1 Try.underlying29 sz77 rfl rfl rfl rfl rfl (by kernel_rfl) (fun S w hR => ⟨_, _, rfl, rfl, ⟨_, _, rfl, rfl, ⟨_, _, rfl, hR _ (.tail _ (.tail _ (.head _))), rfl⟩⟩⟩) hM ?_; intro s674 w673 hR675 hM
    refine ⟨hR675, ?_⟩
    obtain ⟨hg681, hx⟩ := xg_some hx
    refine o_ex rfl fun w684 h685 => ?_
    have hM := hM.call h685
    refine x_appendS (f := fDPart) (L := [(⟨(el r_.parts 0).kind, ((el r_.parts 0).n) - n, (el r_.parts 0).signs⟩ : DPart)]) (M := ((r_.parts.take r_.parts.length).drop 1)) Try.underlying29 sz77 rfl rfl (fun _ => rfl) hM (.head _) (.tail _ (.head _)) hg681 rfl ?_; intro s680 xs682 w679 hM
    refine ov rfl (fun w' h' => r_nilck rfl) ?_
    refine ov rfl (fun w' h' => r_fld Try.underlying89 rfl rfl sz29 rfl) ?_
    replace hM := hM.p1
    refine o_exu fun w690 h691 => ?_
    have hM := hM.call h691
    refine x_stB #[s680.v] sz29 rfl rfl rfl rfl rfl rfl hM ?_; intro w688 hM
    refine o_nil fun w692 hw693 => ?_
    have hM := hM.call hw693
    refine sq_n ?_
    refine wc_seq ?_
    refine wc_region ?_
    refine wv rfl (r_ldBS Try.underlying77 sz77 rfl (us := [(.int .i64 ((el r_.parts 0).kind)), (.int .i64 n), s159.v]) rfl hM (.tail _ (.tail _ (.tail _ (.tail _ (.head _))))) rfl) ?_
    replace hM := hM.p2
    refine w_exu (x_stB #[(.int .i64 ((el r_.parts 0).kind)), (.int .i64 n), s159.v] sz77 rfl rfl rfl rfl rfl rfl hM ?_); intro w695 hM
    refine wl_nil ?_
    refine sq_n ?_
    refine wc_ret ?_
    obtain rfl := Option.some.inj hx
    replace hM := hM.p2
    have hM := hM.sealS (fun _ => rfl) (.head _)
    refine fin_ret [(.agg #[(.int .i64 ((el r_.parts 0).kind)), (.int .i64 n), s159.v])] ⟨rv_box Try.underlying77 sz77 rfl rfl hM (.head _), trivial⟩ ?_
    replace hM := hM.p1
    replace hM := hM.t1
    have hM := hM.fewer (rsC (.tail _ (.tail _ (.tail _ (.tail _ (.tail _ (.head _)))))) (rsC (.head _) rsN))
    exact ⟨(s159, s680), rfl, hM.gives⟩

noncomputable def x_impl_rest_whole (r_ : DRest) : Option (DPart × DRest) :=
  xg (0 ≤ (0 : Int) ∧ (0 : Int) < (r_.parts.length : Int)) <| Option.bind (x_impl_size (el r_.parts 0)) fun r17 => Option.bind (x_impl_rest_take r_ r17) fun r21 => some (r21.1, r21.2)
theorem ct_impl_rest_whole (w : World) (X S : Bs) (b_r_ : Nat) (r_ : DRest) (s_r_ : Sv) (hS : ∀ b, S b → b < w.heap.size ∧ ¬ X b) (a_r__0 : (cSl 3 fDPart r_.parts).rd S w s_r_.v) (oL : Sep [oBox b_r_ #[s_r_.v] 89] X w) {r : DPart × DRest} (hx : x_impl_rest_whole r_ = some r) :
    Ret Try.prog 57 [(.pointer (some ⟨b_r_, 0, none⟩))] w (fun u w' => ∃ y : Sv × Sv, u = .agg #[(.int .i64 r.1.kind), (.int .i64 r.1.n), y.1.v] ∧ Gives X S w [oBox b_r_ #[y.2.v] 89] [rV y.1.v (cSl 1 fI r.1.signs), rV y.2.v (cSl 3 fDPart r.2.parts)] w') := by
  unfold x_impl_rest_whole at hx
  refine enter Try.func57 rfl Try.ntmps57 (by kernel_rfl) rfl ?_
  have hM := St.enter oL hS
  have hM := hM.addE (r := rV s_r_.v (cSl 3 fDPart r_.parts)) a_r__0
  refine wc_seq ?_
  refine wc_region ?_
  refine w_ex rfl (x_alloc sz77 hM ?_); intro b29 w28 hR30 hM
  replace hM : St ⟨w, X, S⟩ [oBox b29 #[(.int .i64 0), (.int .i64 0), (.slice none 0 0)] 77, oBox b_r_ #[s_r_.v] 89] [rV s_r_.v (cSl 3 fDPart r_.parts)] _ := hM
  refine wl_nil ?_
  refine sq_n ?_
  refine wc_seq ?_
  refine wc_region ?_
  refine wv rfl (r_move rfl) ?_
  refine wv rfl (r_move rfl) ?_
  refine wv rfl (r_nilck rfl) ?_
  refine wv rfl (r_fld Try.underlying89 rfl rfl sz29 rfl) ?_
  refine wv rfl (r_ldB Try.underlying29 rfl rfl hM (.tail _ (.head _)) rfl) ?_
  obtain ⟨hg39, hx⟩ := xg_some hx
  have hi38 : 0 < r_.parts.length := by omega
  refine wv rfl (r_ixC Try.underlying29 sz77 rfl rfl (hM.seeR (.head _)) hg39) ?_
  obtain ⟨s41, hM, hc42⟩ := hM.leaf (i := 0) (j := 2) (.head _) (fun _ => rfl) hi38 rfl
  refine wv rfl (r_ldC (o := 0 * 3) Try.underlying77 sz77 rfl (us := [(.int .i64 ((el r_.parts 0).kind)), (.int .i64 ((el r_.parts 0).n)), s41.v]) rfl (hM.seeR (.tail _ (.head _))) hi38 ⟨(Cs.get (i := 0) (j := 0) (hM.seeR (.tail _ (.head _))) (fun _ => rfl) hi38 rfl), (Cs.get (i := 0) (j := 1) (hM.seeR (.tail _ (.head _))) (fun _ => rfl) hi38 rfl), (hc42 _ (Rel.refl _)), trivial⟩) ?_
  obtain ⟨r43, h44, hx⟩ := bind_some' hx
  refine w_call rfl rfl (hM.callV fun X S oL hS hR hO => ct_impl_size _ X S (el r_.parts 0) s41 hS (hR _ (.head _)) oL h44) ?_
  rintro _ w45 ⟨rfl, hR46⟩
  have hM := hM.call hR46
  replace hM := hM.p1
  obtain ⟨r47, h48, hx⟩ := bind_some' hx
  refine w_call rfl rfl (hM.callR (l := [oBox b_r_ #[s_r_.v] 89]) fun X S oL hS hR => ct_impl_rest_take _ X S b_r_ r_ s_r_ r43 hS (hR _ (.tail _ (.head _))) oL h48) ?_
  rintro _ w49 ⟨⟨s50, s51⟩, rfl, hM⟩
  replace hM : St ⟨w, X, S⟩ [oBox b_r_ #[s51.v] 89, oBox b29 #[(.int .i64 0), (.int .i64 0), (.slice none 0 0)] 77] [rV s50.v (cSl 1 fI r47.1.signs), rV s51.v (cSl 3 fDPart r47.2.parts), rV s41.v (cSl 1 fI ((el r_.parts 0).signs)), rV s_r_.v (cSl 3 fDPart r_.parts)] _ := hM
  replace hM := hM.p1
  refine w_exu (x_stB #[(.int .i64 r47.1.kind), (.int .i64 r47.1.n), s50.v] sz77 rfl rfl rfl rfl rfl rfl hM ?_); intro w52 hM
  refine wl_nil ?_
  refine sq_n ?_
  refine wc_ret ?_
  obtain rfl := Option.some.inj hx
  refine fin_ret [(.agg #[(.int .i64 r47.1.kind), (.int .i64 r47.1.n), s50.v])] ⟨rv_box Try.underlying77 sz77 rfl rfl hM (.head _), trivial⟩ ?_
  replace hM := hM.p1
  replace hM := hM.t1
  have hM := hM.fewer (rsC (.head _) (rsC (.tail _ (.head _)) rsN))
  exact ⟨(s50, s51), rfl, hM.gives⟩

noncomputable def x_impl_Transform_b0 (x259 : List DPart) (y260 : List DPart) (l261 : List DPart) (l262 : List DPart) : Option (Lr (List DPart × List DPart × List DPart × List DPart) (List DPart × List DPart)) :=
  Option.bind (x_impl_rest_next (⟨l261⟩ : DRest)) fun r462 => Option.bind (bif !decide (r462.1.kind = 0) then (some (true, l262)) else (Option.bind (x_impl_rest_next (⟨l262⟩ : DRest)) fun r482 => some (!decide (r482.1.kind = 0), r482.2.parts))) fun (c480 : Bool × List DPart) => bif c480.1 then (Option.bind (x_impl_rest_next r462.2) fun r491 => bif decide (r491.1.kind = 2) then (Option.bind (x_impl_rest_whole r491.2) fun r500 => xg (x259.length < 1099511627776) <| xg (y260.length < 1099511627776) <| some (Lr.go (x259 ++ [r500.1], y260 ++ [(⟨1, (r500.1.signs.length : Int), []⟩ : DPart)], r500.2.parts, c480.2))) else (Option.bind (x_impl_rest_next (⟨c480.2⟩ : DRest)) fun r531 => bif decide (r531.1.kind = 2) then (Option.bind (x_impl_rest_whole r531.2) fun r540 => xg (x259.length < 1099511627776) <| xg (y260.length < 1099511627776) <| some (Lr.go (x259 ++ [(⟨1, (r540.1.signs.length : Int), []⟩ : DPart)], y260 ++ [r540.1], r491.2.parts, r540.2.parts))) else (Option.bind (x_impl_rest_next r491.2) fun r571 => Option.bind (x_impl_size r571.1) fun r576 => Option.bind (x_impl_rest_next r531.2) fun r581 => Option.bind (x_impl_size r581.1) fun r586 => Option.bind (x_impl_rest_take r571.2 (min r576 r586)) fun r594 => Option.bind (x_impl_rest_take r581.2 (min r576 r586)) fun r601 => bif decide (r601.1.kind = 1) then (xg (x259.length < 1099511627776) <| bif decide (r594.1.kind = 1) then (xg (y260.length < 1099511627776) <| some (Lr.go (x259 ++ [r594.1], y260 ++ [r601.1], r594.2.parts, r601.2.parts))) else (some (Lr.go (x259 ++ [r594.1], y260, r594.2.parts, r601.2.parts)))) else (bif decide (r594.1.kind = 1) then (xg (y260.length < 1099511627776) <| some (Lr.go (x259, y260 ++ [r601.1], r594.2.parts, r601.2.parts))) else (some (Lr.go (x259, y260, r594.2.parts, r601.2.parts))))))) else (some (Lr.out (x259, y260)))
noncomputable def x_impl_Transform_f0 (s651 : List DPart × List DPart × List DPart × List DPart) : Option (Lr (List DPart × List DPart × List DPart × List DPart) (List DPart × List DPart)) := x_impl_Transform_b0 s651.1 s651.2.1 s651.2.2.1 s651.2.2.2
noncomputable def x_impl_Transform (a : List DPart) (b : List DPart) : Option (List DPart × List DPart × Bool) :=
  Option.bind (x_impl_OpOk a) fun r5 => Option.bind (bif !r5 then (some true) else (Option.bind (x_impl_OpOk b) fun r20 => some (!r20))) fun c11 => Option.bind (bif c11 then (some true) else (Option.bind (x_impl_OpFrom a) fun r40 => Option.bind (x_impl_OpFrom b) fun r45 => some (!decide (r40 = r45)))) fun c26 => bif c26 then (some ([], [], false)) else (Option.bind (iter (x_impl_Transform_f0) ([], [], a, b)) fun (y652 : List DPart × List DPart) => Option.bind (x_impl_normal y652.1) fun r660 => Option.bind (x_impl_normal y652.2) fun r666 => Option.bind (x_impl_OpOk r660) fun r674 => Option.bind (bif !r674 then (some true) else (Option.bind (x_impl_OpOk r666) fun r689 => some (!r689))) fun c680 => bif c680 then (some ([], [], false)) else (some (r660, r666, true)))
theorem ct_impl_Transform (w : World) (X S : Bs) (a : List DPart) (s_a : Sv) (b : List DPart) (s_b : Sv) (hS : ∀ b, S b → b < w.heap.size ∧ ¬ X b) (a_a_0 : (cSl 3 fDPart a).rd S w s_a.v) (a_b_0 : (cSl 3 fDPart b).rd S w s_b.v) (oL : Sep [] X w) {r : List DPart × List DPart × Bool} (hx : x_impl_Transform a b = some r) :
    Ret Try.prog 21 [s_a.v, s_b.v] w (fun u w' => ∃ y : Sv × Sv, u = .tuple #[y.1.v, y.2.v, (.bool r.2.2)] ∧ Gives X S w [oC (cSl 3 fDPart r.1) y.1.v, oC (cSl 3 fDPart r.2.1) y.2.v] [] w') := by
  unfold x_impl_Transform at hx
  refine enter Try.func21 rfl Try.ntmps21 (by kernel_rfl) rfl ?_
  have hM := St.enter oL hS
  have hM := hM.addE (r := rV s_a.v (cSl 3 fDPart a)) a_a_0
  have hM := hM.addE (r := rV s_b.v (cSl 3 fDPart b)) a_b_0
  refine wc_seq ?_
  refine wc_region ?_
  refine wv rfl (r_assign rfl) ?_
  refine wv rfl (r_assign rfl) ?_
  refine wv rfl (r_assign rfl) ?_
  refine wl_nil ?_
  refine sq_n ?_
  refine wc_seq ?_
  refine wc_seq ?_
  refine wc_region ?_
  refine wv rfl (r_move rfl) ?_
  obtain ⟨r706, h707, hx⟩ := bind_some' hx
  refine w_call rfl rfl (hM.callV fun X S oL hS hR hO => ct_impl_OpOk _ X S a s_a hS (hR _ (.tail _ (.head _))) oL h707) ?_
  rintro _ w708 ⟨rfl, hR709⟩
  have hM := hM.call hR709
  refine wv rfl (r_not rfl) ?_
  refine wv rfl (r_move rfl) ?_
  obtain ⟨c712, hx, hx720⟩ := bind_some' hx
  refine wl_mid 4 (fun _ : Unit => [(23, (.bool c712)), (0, s_a.v), (1, s_b.v)]) (fun _ w' => St ⟨w, X, S⟩ [] [rV s_b.v (cSl 3 fDPart b), rV s_a.v (cSl 3 fDPart a)] w') ?_ ?_
  · rcases Bool.eq_false_or_eq_true (!r706) with hg713 | hg713
    · replace hx := xif_t hg713 hx
      refine gs rfl (isB_no hg713) rfl ?_
      refine gs rfl (isB_no hg713) rfl ?_
      refine gs rfl (isB_no hg713) rfl ?_
      refine wv rfl (p_t rfl hg713 rfl) ?_
      obtain rfl := Option.some.inj hx
      exact mid_nil () ⟨rfl, rfl, rfl, trivial⟩ hM
    · replace hx := xif_f hg713 hx
      refine gv rfl hg713 rfl (r_move rfl) ?_
      obtain ⟨r722, h723, hx⟩ := bind_some' hx
      refine gc rfl hg713 rfl rfl (hM.callV fun X S oL hS hR hO => ct_impl_OpOk _ X S b s_b hS (hR _ (.head _)) oL h723) ?_
      rintro _ w724 ⟨rfl, hR725⟩
      have hM := hM.call hR725
      refine gv rfl hg713 rfl (r_not rfl) ?_
      refine wv rfl (p_f rfl hg713 rfl) ?_
      obtain rfl := Option.some.inj hx
      exact mid_nil () ⟨rfl, rfl, rfl, trivial⟩ hM
  rintro _ w727 hM
  replace hx := hx720
  refine wv rfl (r_move rfl) ?_
  obtain ⟨c729, hx, hx742⟩ := bind_some' hx
  refine wl_mid 6 (fun _ : Unit => [(30, (.bool c729)), (0, s_a.v), (1, s_b.v)]) (fun _ w' => St ⟨w, X, S⟩ [] [rV s_b.v (cSl 3 fDPart b), rV s_a.v (cSl 3 fDPart a)] w') ?_ ?_
  · rcases Bool.eq_false_or_eq_true c712 with hg730 | hg730
    · replace hx := xif_t hg730 hx
      refine gs rfl (isB_no hg730) rfl ?_
      refine gs rfl (isB_no hg730) rfl ?_
      refine gs rfl (isB_no hg730) rfl ?_
      refine gs rfl (isB_no hg730) rfl ?_
      refine gs rfl (isB_no hg730) rfl ?_
      refine wv rfl (p_t rfl hg730 rfl) ?_
      obtain rfl := Option.some.inj hx
      exact mid_nil () ⟨rfl, rfl, rfl, trivial⟩ hM
    · replace hx := xif_f hg730 hx
      refine gv rfl hg730 rfl (r_move rfl) ?_
      obtain ⟨r744, h745, hx⟩ := bind_some' hx
      refine gc rfl hg730 rfl rfl (hM.callV fun X S oL hS hR hO => ct_impl_OpFrom _ X S a s_a hS (hR _ (.tail _ (.head _))) oL h745) ?_
      rintro _ w746 ⟨rfl, hR747⟩
      have hM := hM.call hR747
      refine gv rfl hg730 rfl (r_move rfl) ?_
      obtain ⟨r749, h750, hx⟩ := bind_some' hx
      refine gc rfl hg730 rfl rfl (hM.callV fun X S oL hS hR hO => ct_impl_OpFrom _ X S b s_b hS (hR _ (.head _)) oL h750) ?_
      rintro _ w751 ⟨rfl, hR752⟩
      have hM := hM.call hR752
      refine gv rfl hg730 rfl (r_neq rfl rfl) ?_
      refine wv rfl (p_f rfl hg730 rfl) ?_
      obtain rfl := Option.some.inj hx
      exact mid_nil () ⟨rfl, rfl, rfl, trivial⟩ hM
  rintro _ w754 hM
  replace hx := hx742
  refine wl_nil ?_
  refine sq_n ?_
  refine wc_cond rfl (fun hc755 => ?_) (fun hc755 => ?_)
  · replace hx := xif_t hc755 hx
    refine wc_seq ?_
    refine wc_region ?_
    refine wv rfl (r_assign rfl) ?_
    refine wv rfl (r_assign rfl) ?_
    refine wv rfl (r_assign rfl) ?_
    refine wl_nil ?_
    refine sq_n ?_
    refine wc_ret ?_
    refine sq_ret ?_
    obtain rfl := Option.some.inj hx
    have hM := hM.nil0 (T := DPart) 3 fDPart
    have hM := hM.nil0 (T := DPart) 3 fDPart
    refine fin_ret [nS.v, nS.v, (.bool false)] ⟨rfl, rfl, rfl, trivial⟩ ?_
    replace hM := hM.p1
    replace hM := hM.t2
    have hM := hM.fewer rsN
    exact ⟨(nS, nS), rfl, hM.gives⟩
  · replace hx := xif_f hc755 hx
    refine wc_skip ?_
    refine sq_n ?_
    refine wc_seq ?_
    refine wc_region ?_
    refine wv rfl (r_move rfl) ?_
    refine wv rfl (r_build (cells := #[s_a.v]) rfl (by kernel_rfl)) ?_
    refine w_ex rfl (x_box rfl hM ?_); intro b764 w763 hR765 hM
    replace hM : St ⟨w, X, S⟩ [oBox b764 #[s_a.v] 89] [rV s_b.v (cSl 3 fDPart b), rV s_a.v (cSl 3 fDPart a)] _ := hM
    refine wv rfl (r_move rfl) ?_
    refine wv rfl (r_build (cells := #[s_b.v]) rfl (by kernel_rfl)) ?_
    refine w_ex rfl (x_box rfl hM ?_); intro b770 w769 hR771 hM
    replace hM : St ⟨w, X, S⟩ [oBox b770 #[s_b.v] 89, oBox b764 #[s_a.v] 89] [rV s_b.v (cSl 3 fDPart b), rV s_a.v (cSl 3 fDPart a)] _ := hM
    refine wv rfl (r_assign rfl) ?_
    refine wv rfl (r_assign rfl) ?_
    refine wl_nil ?_
    refine sq_n ?_
    refine wc_seq ?_
    refine wc_region ?_
    refine wv rfl (r_assign rfl) ?_
    refine wv rfl (r_assign rfl) ?_
    refine wl_nil ?_
    refine sq_n ?_
    refine wc_seq ?_
    refine wc_block ?_
    obtain ⟨y777, hx, hx778⟩ := bind_some' hx
    have hM := hM.nilS0 (T := DPart) 3 fDPart
    have hM := hM.nilS0 (T := DPart) 3 fDPart
    replace hM := hM.p1.p2.p3
    have hM := hM.fewer (rsC (.head _) (rsC (.head _) (rsC (.tail _ (.tail _ (.tail _ (.head _)))) (rsC (.tail _ (.tail _ (.head _))) rsN))))
    replace hM : St ⟨w, X, S⟩ [oBox b764 #[s_a.v] 89, oBox b770 #[s_b.v] 89, oRow 3 nS.v ([] : List DPart).length ([] : List Value), oRow 3 nS.v ([] : List DPart).length ([] : List Value)] [rX ([] : List Value) (([] : List DPart).flatMap fDPart), rX ([] : List Value) (([] : List DPart).flatMap fDPart), rV s_a.v (cSl 3 fDPart a), rV s_b.v (cSl 3 fDPart b)] _ := hM
    obtain ⟨m795, hx⟩ := iter_run hx
    refine wc_loop (un fun (m793 : Nat) => un fun (x781 : List DPart) => un fun (y782 : List DPart) => un fun (l783 : List DPart) => un fun (l784 : List DPart) => un fun (s786 : Sv) => un fun (xs787 : List Value) => un fun (s789 : Sv) => un fun (xs790 : List Value) => un fun (s791 : Sv) => fun (s792 : Sv) => [(7, (.pointer (some ⟨b764, 0, none⟩))), (8, (.pointer (some ⟨b770, 0, none⟩))), (9, s786.v), (10, s789.v)]) (un fun (m793 : Nat) => un fun (x781 : List DPart) => un fun (y782 : List DPart) => un fun (l783 : List DPart) => un fun (l784 : List DPart) => un fun (s786 : Sv) => un fun (xs787 : List Value) => un fun (s789 : Sv) => un fun (xs790 : List Value) => un fun (s791 : Sv) => fun (s792 : Sv) w' => St ⟨w, X, S⟩ [oBox b764 #[s791.v] 89, oBox b770 #[s792.v] 89, oRow 3 s786.v x781.length xs787, oRow 3 s789.v y782.length xs790] [rX xs787 (x781.flatMap fDPart), rX xs790 (y782.flatMap fDPart), rV s791.v (cSl 3 fDPart l783), rV s792.v (cSl 3 fDPart l784)] w' ∧ iterN _ m793 (x781, y782, l783, l784) = some y777) (fun p => p.1) (m795, [], [], a, b, nS, ([] : List Value), nS, ([] : List Value), s_a, s_b) ⟨rfl, rfl, rfl, rfl, trivial⟩ ⟨hM, hx⟩ ?_
    rintro ⟨m793, x781, y782, l783, l784, s786, xs787, s789, xs790, s791, s792⟩ w796 ⟨hM, hx⟩
    obtain ⟨m797, z798, rfl, hx, hx799⟩ := iterN_step hx
    unfold x_impl_Transform_f0 x_impl_Transform_b0 at hx
    try dsimp only at hx
    refine wc_seq ?_
    refine wc_seq ?_
    refine wc_region ?_
    refine wv rfl (r_move rfl) ?_
    obtain ⟨r801, h802, hx⟩ := bind_some' hx
    refine w_call rfl rfl (hM.callR (l := [oBox b764 #[s791.v] 89]) fun X S oL hS hR => ct_impl_rest_next _ X S b764 (⟨l783⟩ : DRest) s791 hS (hR _ (.tail _ (.tail _ (.head _)))) oL h802) ?_
    rintro _ w803 ⟨⟨s804, s805⟩, rfl, hM⟩
    replace hM : St ⟨w, X, S⟩ [oBox b764 #[s805.v] 89, oBox b770 #[s792.v] 89, oRow 3 s786.v x781.length xs787, oRow 3 s789.v y782.length xs790] [rV s804.v (cSl 1 fI r801.1.signs), rV s805.v (cSl 3 fDPart r801.2.parts), rX xs787 (x781.flatMap fDPart), rX xs790 (y782.flatMap fDPart), rV s791.v (cSl 3 fDPart l783), rV s792.v (cSl 3 fDPart l784)] _ := hM
    refine wv rfl (r_field Try.underlying77 rfl rfl (ag_int Try.underlying3) rfl) ?_
    refine wv rfl (r_neq rfl rfl) ?_
    refine wv rfl (r_move rfl) ?_
    obtain ⟨c819, hx, hx820⟩ := bind_some' hx
    refine wl_mid 5 (fun (s821 : Sv) => [(7, (.pointer (some ⟨b764, 0, none⟩))), (8, (.pointer (some ⟨b770, 0, none⟩))), (9, s786.v), (10, s789.v), (46, (.bool c819.1))]) (fun (s821 : Sv) w' => St ⟨w, X, S⟩ [oBox b764 #[s805.v] 89, oBox b770 #[s821.v] 89, oRow 3 s786.v x781.length xs787, oRow 3 s789.v y782.length xs790] [rX xs787 (x781.flatMap fDPart), rX xs790 (y782.flatMap fDPart), rV s821.v (cSl 3 fDPart c819.2), rV s805.v (cSl 3 fDPart r801.2.parts)] w') ?_ ?_
    · rcases Bool.eq_false_or_eq_true (!decide (r801.1.kind = 0)) with hg810 | hg810
      · replace hx := xif_t hg810 hx
        refine gs rfl (isB_no hg810) rfl ?_
        refine gs rfl (isB_no hg810) rfl ?_
        refine gs rfl (isB_no hg810) rfl ?_
        refine gs rfl (isB_no hg810) rfl ?_
        refine wv rfl (p_t rfl hg810 rfl) ?_
        obtain rfl := Option.some.inj hx
        have hM := hM.fewer (rsC (.tail _ (.tail _ (.head _))) (rsC (.tail _ (.tail _ (.tail _ (.head _)))) (rsC (.tail _ (.tail _ (.tail _ (.tail _ (.tail _ (.head _)))))) (rsC (.tail _ (.head _)) rsN))))
        replace hM : St ⟨w, X, S⟩ [oBox b764 #[s805.v] 89, oBox b770 #[s792.v] 89, oRow 3 s786.v x781.length xs787, oRow 3 s789.v y782.length xs790] [rX xs787 (x781.flatMap fDPart), rX xs790 (y782.flatMap fDPart), rV s792.v (cSl 3 fDPart l784), rV s805.v (cSl 3 fDPart r801.2.parts)] _ := hM
        exact mid_nil s792 ⟨rfl, rfl, rfl, rfl, rfl, trivial⟩ hM
      · replace hx := xif_f hg810 hx
        refine gv rfl hg810 rfl (r_move rfl) ?_
        replace hM := hM.p1
        obtain ⟨r823, h824, hx⟩ := bind_some' hx
        refine gc rfl hg810 rfl rfl (hM.callR (l := [oBox b770 #[s792.v] 89]) fun X S oL hS hR => ct_impl_rest_next _ X S b770 (⟨l784⟩ : DRest) s792 hS (hR _ (.tail _ (.tail _ (.tail _ (.tail _ (.tail _ (.head _))))))) oL h824) ?_
        rintro _ w825 ⟨⟨s826, s827⟩, rfl, hM⟩
        replace hM : St ⟨w, X, S⟩ [oBox b770 #[s827.v] 89, oBox b764 #[s805.v] 89, oRow 3 s786.v x781.length xs787, oRow 3 s789.v y782.length xs790] [rV s826.v (cSl 1 fI r823.1.signs), rV s827.v (cSl 3 fDPart r823.2.parts), rV s804.v (cSl 1 fI r801.1.signs), rV s805.v (cSl 3 fDPart r801.2.parts), rX xs787 (x781.flatMap fDPart), rX xs790 (y782.flatMap fDPart), rV s791.v (cSl 3 fDPart l783), rV s792.v (cSl 3 fDPart l784)] _ := hM
        refine gv rfl hg810 rfl (r_field Try.underlying77 rfl rfl (ag_int Try.underlying3) rfl) ?_
        refine gv rfl hg810 rfl (r_neq rfl rfl) ?_
        refine wv rfl (p_f rfl hg810 rfl) ?_
        obtain rfl := Option.some.inj hx
        replace hM := hM.p3.p3.p2.p3
        have hM := hM.fewer (rsC (.tail _ (.tail _ (.tail _ (.tail _ (.head _))))) (rsC (.tail _ (.tail _ (.tail _ (.tail _ (.tail _ (.head _)))))) (rsC (.tail _ (.head _)) (rsC (.tail _ (.tail _ (.tail _ (.head _)))) rsN))))
        replace hM : St ⟨w, X, S⟩ [oBox b764 #[s805.v] 89, oBox b770 #[s827.v] 89, oRow 3 s786.v x781.length xs787, oRow 3 s789.v y782.length xs790] [rX xs787 (x781.flatMap fDPart), rX xs790 (y782.flatMap fDPart), rV s827.v (cSl 3 fDPart r823.2.parts), rV s805.v (cSl 3 fDPart r801.2.parts)] _ := hM
        exact mid_nil s827 ⟨rfl, rfl, rfl, rfl, rfl, trivial⟩ hM
    rintro s821 w830 hM
    replace hx := hx820
    refine wl_nil ?_
    refine sq_n ?_
    refine wc_cond rfl (fun hc831 => ?_) (fun hc831 => ?_)
    · replace hx := xif_t hc831 hx
      refine wc_skip ?_
      refine sq_n ?_
      refine wc_block ?_
      refine wc_block ?_
      refine wc_seq ?_
      refine wc_region ?_
      refine wv rfl (r_move rfl) ?_
      obtain ⟨r833, h834, hx⟩ := bind_some' hx
      refine w_call rfl rfl (hM.callR (l := [oBox b764 #[s805.v] 89]) fun X S oL hS hR => ct_impl_rest_next _ X S b764 r801.2 s805 hS (hR _ (.tail _ (.tail _ (.tail _ (.head _))))) oL h834) ?_
      rintro _ w835 ⟨⟨s836, s837⟩, rfl, hM⟩
      replace hM : St ⟨w, X, S⟩ [oBox b764 #[s837.v] 89, oBox b770 #[s821.v] 89, oRow 3 s786.v x781.length xs787, oRow 3 s789.v y782.length xs790] [rV s836.v (cSl 1 fI r833.1.signs), rV s837.v (cSl 3 fDPart r833.2.parts), rX xs787 (x781.flatMap fDPart), rX xs790 (y782.flatMap fDPart), rV s821.v (cSl 3 fDPart c819.2), rV s805.v (cSl 3 fDPart r801.2.parts)] _ := hM
      refine wv rfl (r_field Try.underlying77 rfl rfl (ag_int Try.underlying3) rfl) ?_
      refine wv rfl (r_eql rfl rfl) ?_
      refine wv rfl (r_assign rfl) ?_
      refine wl_nil ?_
      refine sq_n ?_
      refine wc_cond rfl (fun hc841 => ?_) (fun hc841 => ?_)
      · replace hx := xif_t hc841 hx
        refine wc_seq ?_
        refine wc_region ?_
        refine wv rfl (r_move rfl) ?_
        obtain ⟨r843, h844, hx⟩ := bind_some' hx
        refine w_call rfl rfl (hM.callR (l := [oBox b764 #[s837.v] 89]) fun X S oL hS hR => ct_impl_rest_whole _ X S b764 r833.2 s837 hS (hR _ (.tail _ (.head _))) oL h844) ?_
        rintro _ w845 ⟨⟨s846, s847⟩, rfl, hM⟩
        replace hM : St ⟨w, X, S⟩ [oBox b764 #[s847.v] 89, oBox b770 #[s821.v] 89, oRow 3 s786.v x781.length xs787, oRow 3 s789.v y782.length xs790] [rV s846.v (cSl 1 fI r843.1.signs), rV s847.v (cSl 3 fDPart r843.2.parts), rV s836.v (cSl 1 fI r833.1.signs), rV s837.v (cSl 3 fDPart r833.2.parts), rX xs787 (x781.flatMap fDPart), rX xs790 (y782.flatMap fDPart), rV s821.v (cSl 3 fDPart c819.2), rV s805.v (cSl 3 fDPart r801.2.parts)] _ := hM
        refine w_ex rfl (x_alloc sz77 hM ?_); intro b849 w848 hR850 hM
        replace hM : St ⟨w, X, S⟩ [oBox b849 #[(.int .i64 0), (.int .i64 0), (.slice none 0 0)] 77, oBox b764 #[s847.v] 89, oBox b770 #[s821.v] 89, oRow 3 s786.v x781.length xs787, oRow 3 s789.v y782.length xs790] [rV s846.v (cSl 1 fI r843.1.signs), rV s847.v (cSl 3 fDPart r843.2.parts), rV s836.v (cSl 1 fI r833.1.signs), rV s837.v (cSl 3 fDPart r833.2.parts), rX xs787 (x781.flatMap fDPart), rX xs790 (y782.flatMap fDPart), rV s821.v (cSl 3 fDPart c819.2), rV s805.v (cSl 3 fDPart r801.2.parts)] _ := hM
        refine w_exu (x_stB #[(.int .i64 r843.1.kind), (.int .i64 r843.1.n), s846.v] sz77 rfl rfl rfl rfl rfl rfl hM ?_); intro w852 hM
        refine wl_nil ?_
        refine sq_n ?_
        refine wc_seq ?_
        refine wc_region ?_
        refine wv rfl (r_move rfl) ?_
        refine wv rfl (r_ldBS Try.underlying77 sz77 rfl (us := [(.int .i64 r843.1.kind), (.int .i64 r843.1.n), s846.v]) rfl hM (.head _) rfl) ?_
        replace hM := hM.p3
        obtain ⟨hg859, hx⟩ := xg_some hx
        refine w_pushS (f := fDPart) (L := x781) r843.1 rfl rfl Try.underlying29 sz77 rfl rfl rfl (fun _ => rfl) hM (.tail _ (.tail _ (.tail _ (.tail _ (.head _))))) (fun S w hR => ⟨_, _, rfl, rfl, ⟨_, _, rfl, rfl, ⟨_, _, rfl, hR _ (.head _), rfl⟩⟩⟩) rfl hg859 rfl ?_; intro u857 s858 xs860 w856 hM
        refine wv rfl (r_assign rfl) ?_
        refine wl_nil ?_
        refine sq_n ?_
        refine wc_region ?_
        refine wv rfl (r_move rfl) ?_
        refine wv rfl (r_fld Try.underlying77 rfl rfl sz26 rfl) ?_
        refine wv rfl (r_ldB Try.underlying26 rfl rfl hM (.tail _ (.head _)) rfl) ?_
        refine wv rfl (r_lenC Try.underlying26 rfl (hM.seeR (.tail _ (.head _)))) ?_
        refine wv rfl (r_build (cells := #[(.int .i64 1), (.int .i64 (r843.1.signs.length : Int)), (.slice none 0 0)]) rfl (by kernel_rfl)) ?_
        replace hM := hM.p4
        obtain ⟨hg870, hx⟩ := xg_some hx
        refine w_pushS (f := fDPart) (L := y782) (⟨1, (r843.1.signs.length : Int), []⟩ : DPart) rfl rfl Try.underlying29 sz77 rfl rfl rfl (fun _ => rfl) hM (.tail _ (.tail _ (.tail _ (.tail _ (.tail _ (.tail _ (.head _))))))) (fun S w hR => ⟨_, _, rfl, rfl, ⟨_, _, rfl, rfl, ⟨_, _, rfl, rd_nil _ _, rfl⟩⟩⟩) rfl hg870 rfl ?_; intro u868 s869 xs871 w867 hM
        refine wv rfl (r_assign rfl) ?_
        refine wl_nil ?_
        refine bk_n ?_
        refine bk_n ?_
        obtain rfl := Option.some.inj hx
        replace hM := hM.p1.p4.p4
        replace hM := hM.t4
        have hM := hM.fewer (rsC (.tail _ (.head _)) (rsC (.head _) (rsC (.tail _ (.tail _ (.tail _ (.head _)))) (rsC (.tail _ (.tail _ (.tail _ (.tail _ (.tail _ (.tail _ (.tail _ (.tail _ (.head _))))))))) rsN))))
        replace hM : St ⟨w, X, S⟩ [oBox b764 #[s847.v] 89, oBox b770 #[s821.v] 89, oRow 3 s858.v (x781 ++ [r843.1]).length xs860, oRow 3 s869.v (y782 ++ [(⟨1, (r843.1.signs.length : Int), []⟩ : DPart)]).length xs871] [rX xs860 ((x781 ++ [r843.1]).flatMap fDPart), rX xs871 ((y782 ++ [(⟨1, (r843.1.signs.length : Int), []⟩ : DPart)]).flatMap fDPart), rV s847.v (cSl 3 fDPart r843.2.parts), rV s821.v (cSl 3 fDPart c819.2)] _ := hM
        exact lp_end (m797, x781 ++ [r843.1], y782 ++ [(⟨1, (r843.1.signs.length : Int), []⟩ : DPart)], r843.2.parts, c819.2, s858, xs860, s869, xs871, s847, s821) (Nat.lt_succ_self _) ⟨rfl, rfl, rfl, rfl, trivial⟩ ⟨hM, hx799⟩
      · replace hx := xif_f hc841 hx
        refine wc_seq ?_
        refine wc_region ?_
        refine wv rfl (r_move rfl) ?_
        replace hM := hM.p1
        obtain ⟨r874, h875, hx⟩ := bind_some' hx
        refine w_call rfl rfl (hM.callR (l := [oBox b770 #[s821.v] 89]) fun X S oL hS hR => ct_impl_rest_next _ X S b770 (⟨c819.2⟩ : DRest) s821 hS (hR _ (.tail _ (.tail _ (.tail _ (.tail _ (.head _)))))) oL h875) ?_
        rintro _ w876 ⟨⟨s877, s878⟩, rfl, hM⟩
        replace hM : St ⟨w, X, S⟩ [oBox b770 #[s878.v] 89, oBox b764 #[s837.v] 89, oRow 3 s786.v x781.length xs787, oRow 3 s789.v y782.length xs790] [rV s877.v (cSl 1 fI r874.1.signs), rV s878.v (cSl 3 fDPart r874.2.parts), rV s836.v (cSl 1 fI r833.1.signs), rV s837.v (cSl 3 fDPart r833.2.parts), rX xs787 (x781.flatMap fDPart), rX xs790 (y782.flatMap fDPart), rV s821.v (cSl 3 fDPart c819.2), rV s805.v (cSl 3 fDPart r801.2.parts)] _ := hM
        refine wv rfl (r_field Try.underlying77 rfl rfl (ag_int Try.underlying3) rfl) ?_
        refine wv rfl (r_eql rfl rfl) ?_
        refine wv rfl (r_assign rfl) ?_
        refine wl_nil ?_
        refine sq_n ?_
        refine wc_cond rfl (fun hc882 => ?_) (fun hc882 => ?_)
        · replace hx := xif_t hc882 hx
          refine wc_seq ?_
          refine wc_region ?_
          refine wv rfl (r_move rfl) ?_
          obtain ⟨r884, h885, hx⟩ := bind_some' hx
          refine w_call rfl rfl (hM.callR (l := [oBox b770 #[s878.v] 89]) fun X S oL hS hR => ct_impl_rest_whole _ X S b770 r874.2 s878 hS (hR _ (.tail _ (.head _))) oL h885) ?_
          rintro _ w886 ⟨⟨s887, s888⟩, rfl, hM⟩
          replace hM : St ⟨w, X, S⟩ [oBox b770 #[s888.v] 89, oBox b764 #[s837.v] 89, oRow 3 s786.v x781.length xs787, oRow 3 s789.v y782.length xs790] [rV s887.v (cSl 1 fI r884.1.signs), rV s888.v (cSl 3 fDPart r884.2.parts), rV s877.v (cSl 1 fI r874.1.signs), rV s878.v (cSl 3 fDPart r874.2.parts), rV s836.v (cSl 1 fI r833.1.signs), rV s837.v (cSl 3 fDPart r833.2.parts), rX xs787 (x781.flatMap fDPart), rX xs790 (y782.flatMap fDPart), rV s821.v (cSl 3 fDPart c819.2), rV s805.v (cSl 3 fDPart r801.2.parts)] _ := hM
          refine w_ex rfl (x_alloc sz77 hM ?_); intro b890 w889 hR891 hM
          replace hM : St ⟨w, X, S⟩ [oBox b890 #[(.int .i64 0), (.int .i64 0), (.slice none 0 0)] 77, oBox b770 #[s888.v] 89, oBox b764 #[s837.v] 89, oRow 3 s786.v x781.length xs787, oRow 3 s789.v y782.length xs790] [rV s887.v (cSl 1 fI r884.1.signs), rV s888.v (cSl 3 fDPart r884.2.parts), rV s877.v (cSl 1 fI r874.1.signs), rV s878.v (cSl 3 fDPart r874.2.parts), rV s836.v (cSl 1 fI r833.1.signs), rV s837.v (cSl 3 fDPart r833.2.parts), rX xs787 (x781.flatMap fDPart), rX xs790 (y782.flatMap fDPart), rV s821.v (cSl 3 fDPart c819.2), rV s805.v (cSl 3 fDPart r801.2.parts)] _ := hM
          refine w_exu (x_stB #[(.int .i64 r884.1.kind), (.int .i64 r884.1.n), s887.v] sz77 rfl rfl rfl rfl rfl rfl hM ?_); intro w893 hM
          refine wl_nil ?_
          refine sq_n ?_
          refine wc_seq ?_
          refine wc_region ?_
          refine wv rfl (r_move rfl) ?_
          refine wv rfl (r_fld Try.underlying77 rfl rfl sz26 rfl) ?_
          refine wv rfl (r_ldB Try.underlying26 rfl rfl hM (.head _) rfl) ?_
          refine wv rfl (r_lenC Try.underlying26 rfl (hM.seeR (.head _))) ?_
          refine wv rfl (r_build (cells := #[(.int .i64 1), (.int .i64 (r884.1.signs.length : Int)), (.slice none 0 0)]) rfl (by kernel_rfl)) ?_
          replace hM := hM.p3
          obtain ⟨hg903, hx⟩ := xg_some hx
          refine w_pushS (f := fDPart) (L := x781) (⟨1, (r884.1.signs.length : Int), []⟩ : DPart) rfl rfl Try.underlying29 sz77 rfl rfl rfl (fun _ => rfl) hM (.tail _ (.tail _ (.tail _ (.tail _ (.tail _ (.tail _ (.head _))))))) (fun S w hR => ⟨_, _, rfl, rfl, ⟨_, _, rfl, rfl, ⟨_, _, rfl, rd_nil _ _, rfl⟩⟩⟩) rfl hg903 rfl ?_; intro u901 s902 xs904 w900 hM
          refine wv rfl (r_assign rfl) ?_
          refine wl_nil ?_
          refine sq_n ?_
          refine wc_region ?_
          refine wv rfl (r_move rfl) ?_
          refine wv rfl (r_ldBS Try.underlying77 sz77 rfl (us := [(.int .i64 r884.1.kind), (.int .i64 r884.1.n), s887.v]) rfl hM (.tail _ (.head _)) rfl) ?_
          replace hM := hM.p4
          obtain ⟨hg911, hx⟩ := xg_some hx
          refine w_pushS (f := fDPart) (L := y782) r884.1 rfl rfl Try.underlying29 sz77 rfl rfl rfl (fun _ => rfl) hM (.tail _ (.tail _ (.tail _ (.tail _ (.tail _ (.tail _ (.tail _ (.tail _ (.head _))))))))) (fun S w hR => ⟨_, _, rfl, rfl, ⟨_, _, rfl, rfl, ⟨_, _, rfl, hR _ (.tail _ (.head _)), rfl⟩⟩⟩) rfl hg911 rfl ?_; intro u909 s910 xs912 w908 hM
          refine wv rfl (r_assign rfl) ?_
          refine wl_nil ?_
          refine bk_n ?_
          refine bk_n ?_
          obtain rfl := Option.some.inj hx
          replace hM := hM.p1.p3.p4
          replace hM := hM.t4
          have hM := hM.fewer (rsC (.tail _ (.head _)) (rsC (.head _) (rsC (.tail _ (.tail _ (.tail _ (.tail _ (.tail _ (.tail _ (.tail _ (.head _)))))))) (rsC (.tail _ (.tail _ (.tail _ (.head _)))) rsN))))
          replace hM : St ⟨w, X, S⟩ [oBox b764 #[s837.v] 89, oBox b770 #[s888.v] 89, oRow 3 s902.v (x781 ++ [(⟨1, (r884.1.signs.length : Int), []⟩ : DPart)]).length xs904, oRow 3 s910.v (y782 ++ [r884.1]).length xs912] [rX xs904 ((x781 ++ [(⟨1, (r884.1.signs.length : Int), []⟩ : DPart)]).flatMap fDPart), rX xs912 ((y782 ++ [r884.1]).flatMap fDPart), rV s837.v (cSl 3 fDPart r833.2.parts), rV s888.v (cSl 3 fDPart r884.2.parts)] _ := hM
          exact lp_end (m797, x781 ++ [(⟨1, (r884.1.signs.length : Int), []⟩ : DPart)], y782 ++ [r884.1], r833.2.parts, r884.2.parts, s902, xs904, s910, xs912, s837, s888) (Nat.lt_succ_self _) ⟨rfl, rfl, rfl, rfl, trivial⟩ ⟨hM, hx799⟩
        · replace hx := xif_f hc882 hx
          refine wc_seq ?_
          refine wc_region ?_
          refine wv rfl (r_move rfl) ?_
          replace hM := hM.p1
          obtain ⟨r915, h916, hx⟩ := bind_some' hx
          refine w_call rfl rfl (hM.callR (l := [oBox b764 #[s837.v] 89]) fun X S oL hS hR => ct_impl_rest_next _ X S b764 r833.2 s837 hS (hR _ (.tail _ (.tail _ (.tail _ (.head _))))) oL h916) ?_
          rintro _ w917 ⟨⟨s918, s919⟩, rfl, hM⟩
          replace hM : St ⟨w, X, S⟩ [oBox b764 #[s919.v] 89, oBox b770 #[s878.v] 89, oRow 3 s786.v x781.length xs787, oRow 3 s789.v y782.length xs790] [rV s918.v (cSl 1 fI r915.1.signs), rV s919.v (cSl 3 fDPart r915.2.parts), rV s877.v (cSl 1 fI r874.1.signs), rV s878.v (cSl 3 fDPart r874.2.parts), rV s836.v (cSl 1 fI r833.1.signs), rV s837.v (cSl 3 fDPart r833.2.parts), rX xs787 (x781.flatMap fDPart), rX xs790 (y782.flatMap fDPart), rV s821.v (cSl 3 fDPart c819.2), rV s805.v (cSl 3 fDPart r801.2.parts)] _ := hM
          obtain ⟨r920, h921, hx⟩ := bind_some' hx
          refine w_call rfl rfl (hM.callV fun X S oL hS hR hO => ct_impl_size _ X S r915.1 s918 hS (hR _ (.head _)) oL h921) ?_
          rintro _ w922 ⟨rfl, hR923⟩
          have hM := hM.call hR923
          refine wv rfl (r_move rfl) ?_
          replace hM := hM.p1
          obtain ⟨r925, h926, hx⟩ := bind_some' hx
          refine w_call rfl rfl (hM.callR (l := [oBox b770 #[s878.v] 89]) fun X S oL hS hR => ct_impl_rest_next _ X S b770 r874.2 s878 hS (hR _ (.tail _ (.tail _ (.tail _ (.head _))))) oL h926) ?_
          rintro _ w927 ⟨⟨s928, s929⟩, rfl, hM⟩
          replace hM : St ⟨w, X, S⟩ [oBox b770 #[s929.v] 89, oBox b764 #[s919.v] 89, oRow 3 s786.v x781.length xs787, oRow 3 s789.v y782.length xs790] [rV s928.v (cSl 1 fI r925.1.signs), rV s929.v (cSl 3 fDPart r925.2.parts), rV s918.v (cSl 1 fI r915.1.signs), rV s919.v (cSl 3 fDPart r915.2.parts), rV s877.v (cSl 1 fI r874.1.signs), rV s878.v (cSl 3 fDPart r874.2.parts), rV s836.v (cSl 1 fI r833.1.signs), rV s837.v (cSl 3 fDPart r833.2.parts), rX xs787 (x781.flatMap fDPart), rX xs790 (y782.flatMap fDPart), rV s821.v (cSl 3 fDPart c819.2), rV s805.v (cSl 3 fDPart r801.2.parts)] _ := hM
          obtain ⟨r930, h931, hx⟩ := bind_some' hx
          refine w_call rfl rfl (hM.callV fun X S oL hS hR hO => ct_impl_size _ X S r925.1 s928 hS (hR _ (.head _)) oL h931) ?_
          rintro _ w932 ⟨rfl, hR933⟩
          have hM := hM.call hR933
          refine wv rfl (r_min Try.underlying3 rfl rfl) ?_
          refine wv rfl (r_assign rfl) ?_
          refine wl_nil ?_
          refine sq_n ?_
          refine wc_seq ?_
          refine wc_region ?_
          refine wv rfl (r_move rfl) ?_
          refine wv rfl (r_move rfl) ?_
          replace hM := hM.p1
          obtain ⟨r938, h939, hx⟩ := bind_some' hx
          refine w_call rfl rfl (hM.callR (l := [oBox b764 #[s919.v] 89]) fun X S oL hS hR => ct_impl_rest_take _ X S b764 r915.2 s919 (min r920 r930) hS (hR _ (.tail _ (.tail _ (.tail _ (.head _))))) oL h939) ?_
          rintro _ w940 ⟨⟨s941, s942⟩, rfl, hM⟩
          replace hM : St ⟨w, X, S⟩ [oBox b764 #[s942.v] 89, oBox b770 #[s929.v] 89, oRow 3 s786.v x781.length xs787, oRow 3 s789.v y782.length xs790] [rV s941.v (cSl 1 fI r938.1.signs), rV s942.v (cSl 3 fDPart r938.2.parts), rV s928.v (cSl 1 fI r925.1.signs), rV s929.v (cSl 3 fDPart r925.2.parts), rV s918.v (cSl 1 fI r915.1.signs), rV s919.v (cSl 3 fDPart r915.2.parts), rV s877.v (cSl 1 fI r874.1.signs), rV s878.v (cSl 3 fDPart r874.2.parts), rV s836.v (cSl 1 fI r833.1.signs), rV s837.v (cSl 3 fDPart r833.2.parts), rX xs787 (x781.flatMap fDPart), rX xs790 (y782.flatMap fDPart), rV s821.v (cSl 3 fDPart c819.2), rV s805.v (cSl 3 fDPart r801.2.parts)] _ := hM
          refine wv rfl (r_move rfl) ?_
          refine wv rfl (r_move rfl) ?_
          replace hM := hM.p1
          obtain ⟨r945, h946, hx⟩ := bind_some' hx
          refine w_call rfl rfl (hM.callR (l := [oBox b770 #[s929.v] 89]) fun X S oL hS hR => ct_impl_rest_take _ X S b770 r925.2 s929 (min r920 r930) hS (hR _ (.tail _ (.tail _ (.tail _ (.head _))))) oL h946) ?_
          rintro _ w947 ⟨⟨s948, s949⟩, rfl, hM⟩
          replace hM : St ⟨w, X, S⟩ [oBox b770 #[s949.v] 89, oBox b764 #[s942.v] 89, oRow 3 s786.v x781.length xs787, oRow 3 s789.v y782.length xs790] [rV s948.v (cSl 1 fI r945.1.signs), rV s949.v (cSl 3 fDPart r945.2.parts), rV s941.v (cSl 1 fI r938.1.signs), rV s942.v (cSl 3 fDPart r938.2.parts), rV s928.v (cSl 1 fI r925.1.signs), rV s929.v (cSl 3 fDPart r925.2.parts), rV s918.v (cSl 1 fI r915.1.signs), rV s919.v (cSl 3 fDPart r915.2.parts), rV s877.v (cSl 1 fI r874.1.signs), rV s878.v (cSl 3 fDPart r874.2.parts), rV s836.v (cSl 1 fI r833.1.signs), rV s837.v (cSl 3 fDPart r833.2.parts), rX xs787 (x781.flatMap fDPart), rX xs790 (y782.flatMap fDPart), rV s821.v (cSl 3 fDPart c819.2), rV s805.v (cSl 3 fDPart r801.2.parts)] _ := hM
          refine w_ex rfl (x_alloc sz77 hM ?_); intro b951 w950 hR952 hM
          replace hM : St ⟨w, X, S⟩ [oBox b951 #[(.int .i64 0), (.int .i64 0), (.slice none 0 0)] 77, oBox b770 #[s949.v] 89, oBox b764 #[s942.v] 89, oRow 3 s786.v x781.length xs787, oRow 3 s789.v y782.length xs790] [rV s948.v (cSl 1 fI r945.1.signs), rV s949.v (cSl 3 fDPart r945.2.parts), rV s941.v (cSl 1 fI r938.1.signs), rV s942.v (cSl 3 fDPart r938.2.parts), rV s928.v (cSl 1 fI r925.1.signs), rV s929.v (cSl 3 fDPart r925.2.parts), rV s918.v (cSl 1 fI r915.1.signs), rV s919.v (cSl 3 fDPart r915.2.parts), rV s877.v (cSl 1 fI r874.1.signs), rV s878.v (cSl 3 fDPart r874.2.parts), rV s836.v (cSl 1 fI r833.1.signs), rV s837.v (cSl 3 fDPart r833.2.parts), rX xs787 (x781.flatMap fDPart), rX xs790 (y782.flatMap fDPart), rV s821.v (cSl 3 fDPart c819.2), rV s805.v (cSl 3 fDPart r801.2.parts)] _ := hM
          refine w_ex rfl (x_alloc sz77 hM ?_); intro b955 w954 hR956 hM
          replace hM : St ⟨w, X, S⟩ [oBox b955 #[(.int .i64 0), (.int .i64 0), (.slice none 0 0)] 77, oBox b951 #[(.int .i64 0), (.int .i64 0), (.slice none 0 0)] 77, oBox b770 #[s949.v] 89, oBox b764 #[s942.v] 89, oRow 3 s786.v x781.length xs787, oRow 3 s789.v y782.length xs790] [rV s948.v (cSl 1 fI r945.1.signs), rV s949.v (cSl 3 fDPart r945.2.parts), rV s941.v (cSl 1 fI r938.1.signs), rV s942.v (cSl 3 fDPart r938.2.parts), rV s928.v (cSl 1 fI r925.1.signs), rV s929.v (cSl 3 fDPart r925.2.parts), rV s918.v (cSl 1 fI r915.1.signs), rV s919.v (cSl 3 fDPart r915.2.parts), rV s877.v (cSl 1 fI r874.1.signs), rV s878.v (cSl 3 fDPart r874.2.parts), rV s836.v (cSl 1 fI r833.1.signs), rV s837.v (cSl 3 fDPart r833.2.parts), rX xs787 (x781.flatMap fDPart), rX xs790 (y782.flatMap fDPart), rV s821.v (cSl 3 fDPart c819.2), rV s805.v (cSl 3 fDPart r801.2.parts)] _ := hM
          replace hM := hM.p1
          refine w_exu (x_stB #[(.int .i64 r938.1.kind), (.int .i64 r938.1.n), s941.v] sz77 rfl rfl rfl rfl rfl rfl hM ?_); intro w958 hM
          replace hM := hM.p1
          refine w_exu (x_stB #[(.int .i64 r945.1.kind), (.int .i64 r945.1.n), s948.v] sz77 rfl rfl rfl rfl rfl rfl hM ?_); intro w960 hM
          refine wl_nil ?_
          refine sq_n ?_
          refine wc_seq ?_
          refine wc_seq ?_
          refine wc_region ?_
          refine wv rfl (r_fld Try.underlying77 rfl rfl sz3 rfl) ?_
          refine wv rfl (r_ldB Try.underlying3 rfl rfl hM (.head _) rfl) ?_
          refine wv rfl (r_eql rfl rfl) ?_
          refine wl_nil ?_
          refine sq_n ?_
          refine wc_cond rfl (fun hc965 => ?_) (fun hc965 => ?_)
          · replace hx := xif_t hc965 hx
            refine wc_region ?_
            refine wv rfl (r_move rfl) ?_
            refine wv rfl (r_ldBS Try.underlying77 sz77 rfl (us := [(.int .i64 r938.1.kind), (.int .i64 r938.1.n), s941.v]) rfl hM (.tail _ (.head _)) rfl) ?_
            replace hM := hM.p4
            obtain ⟨hg971, hx⟩ := xg_some hx
            refine w_pushS (f := fDPart) (L := x781) r938.1 rfl rfl Try.underlying29 sz77 rfl rfl rfl (fun _ => rfl) hM (.tail _ (.tail _ (.tail _ (.tail _ (.tail _ (.tail _ (.tail _ (.tail _ (.tail _ (.tail _ (.tail _ (.tail _ (.head _))))))))))))) (fun S w hR => ⟨_, _, rfl, rfl, ⟨_, _, rfl, rfl, ⟨_, _, rfl, hR _ (.tail _ (.tail _ (.head _))), rfl⟩⟩⟩) rfl hg971 rfl ?_; intro u969 s970 xs972 w968 hM
            refine wv rfl (r_assign rfl) ?_
            refine wl_nil ?_
            refine sq_n ?_
            refine wc_seq ?_
            refine wc_region ?_
            refine wv rfl (r_fld Try.underlying77 rfl rfl sz3 rfl) ?_
            refine wv rfl (r_ldB Try.underlying3 rfl rfl hM (.tail _ (.tail _ (.head _))) rfl) ?_
            refine wv rfl (r_eql rfl rfl) ?_
            refine wl_nil ?_
            refine sq_n ?_
            refine wc_cond rfl (fun hc977 => ?_) (fun hc977 => ?_)
            · replace hx := xif_t hc977 hx
              refine wc_region ?_
              refine wv rfl (r_move rfl) ?_
              refine wv rfl (r_ldBS Try.underlying77 sz77 rfl (us := [(.int .i64 r945.1.kind), (.int .i64 r945.1.n), s948.v]) rfl hM (.tail _ (.head _)) rfl) ?_
              replace hM := hM.p5
              obtain ⟨hg983, hx⟩ := xg_some hx
              refine w_pushS (f := fDPart) (L := y782) r945.1 rfl rfl Try.underlying29 sz77 rfl rfl rfl (fun _ => rfl) hM (.tail _ (.tail _ (.tail _ (.tail _ (.tail _ (.tail _ (.tail _ (.tail _ (.tail _ (.tail _ (.tail _ (.tail _ (.tail _ (.tail _ (.head _))))))))))))))) (fun S w hR => ⟨_, _, rfl, rfl, ⟨_, _, rfl, rfl, ⟨_, _, rfl, hR _ (.tail _ (.head _)), rfl⟩⟩⟩) rfl hg983 rfl ?_; intro u981 s982 xs984 w980 hM
              refine wv rfl (r_assign rfl) ?_
              refine wl_nil ?_
              refine bk_n ?_
              refine bk_n ?_
              obtain rfl := Option.some.inj hx
              replace hM := hM.p1.p4.p5
              replace hM := hM.t4
              have hM := hM.fewer (rsC (.tail _ (.head _)) (rsC (.head _) (rsC (.tail _ (.tail _ (.tail _ (.tail _ (.tail _ (.head _)))))) (rsC (.tail _ (.tail _ (.tail _ (.head _)))) rsN))))
              replace hM : St ⟨w, X, S⟩ [oBox b764 #[s942.v] 89, oBox b770 #[s949.v] 89, oRow 3 s970.v (x781 ++ [r938.1]).length xs972, oRow 3 s982.v (y782 ++ [r945.1]).length xs984] [rX xs972 ((x781 ++ [r938.1]).flatMap fDPart), rX xs984 ((y782 ++ [r945.1]).flatMap fDPart), rV s942.v (cSl 3 fDPart r938.2.parts), rV s949.v (cSl 3 fDPart r945.2.parts)] _ := hM
              exact lp_end (m797, x781 ++ [r938.1], y782 ++ [r945.1], r938.2.parts, r945.2.parts, s970, xs972, s982, xs984, s942, s949) (Nat.lt_succ_self _) ⟨rfl, rfl, rfl, rfl, trivial⟩ ⟨hM, hx799⟩
            · replace hx := xif_f hc977 hx
              refine wc_skip ?_
              refine bk_n ?_
              refine bk_n ?_
              obtain rfl := Option.some.inj hx
              replace hM := hM.p5.p1.p4.p5
              replace hM := hM.t4
              have hM := hM.fewer (rsC (.head _) (rsC (.tail _ (.tail _ (.tail _ (.tail _ (.tail _ (.tail _ (.tail _ (.tail _ (.tail _ (.tail _ (.tail _ (.tail _ (.tail _ (.tail _ (.head _))))))))))))))) (rsC (.tail _ (.tail _ (.tail _ (.tail _ (.head _))))) (rsC (.tail _ (.tail _ (.head _))) rsN))))
              replace hM : St ⟨w, X, S⟩ [oBox b764 #[s942.v] 89, oBox b770 #[s949.v] 89, oRow 3 s970.v (x781 ++ [r938.1]).length xs972, oRow 3 s789.v y782.length xs790] [rX xs972 ((x781 ++ [r938.1]).flatMap fDPart), rX xs790 (y782.flatMap fDPart), rV s942.v (cSl 3 fDPart r938.2.parts), rV s949.v (cSl 3 fDPart r945.2.parts)] _ := hM
              exact lp_end (m797, x781 ++ [r938.1], y782, r938.2.parts, r945.2.parts, s970, xs972, s789, xs790, s942, s949) (Nat.lt_succ_self _) ⟨rfl, rfl, rfl, rfl, trivial⟩ ⟨hM, hx799⟩
          · replace hx := xif_f hc965 hx
            refine wc_skip ?_
            refine sq_n ?_
            refine wc_seq ?_
            refine wc_region ?_
            refine wv rfl (r_fld Try.underlying77 rfl rfl sz3 rfl) ?_
            refine wv rfl (r_ldB Try.underlying3 rfl rfl hM (.tail _ (.head _)) rfl) ?_
            refine wv rfl (r_eql rfl rfl) ?_
            refine wl_nil ?_
            refine sq_n ?_
            refine wc_cond rfl (fun hc989 => ?_) (fun hc989 => ?_)
            · replace hx := xif_t hc989 hx
              refine wc_region ?_
              refine wv rfl (r_move rfl) ?_
              refine wv rfl (r_ldBS Try.underlying77 sz77 rfl (us := [(.int .i64 r945.1.kind), (.int .i64 r945.1.n), s948.v]) rfl hM (.head _) rfl) ?_
              replace hM := hM.p5
              obtain ⟨hg995, hx⟩ := xg_some hx
              refine w_pushS (f := fDPart) (L := y782) r945.1 rfl rfl Try.underlying29 sz77 rfl rfl rfl (fun _ => rfl) hM (.tail _ (.tail _ (.tail _ (.tail _ (.tail _ (.tail _ (.tail _ (.tail _ (.tail _ (.tail _ (.tail _ (.tail _ (.tail _ (.head _)))))))))))))) (fun S w hR => ⟨_, _, rfl, rfl, ⟨_, _, rfl, rfl, ⟨_, _, rfl, hR _ (.head _), rfl⟩⟩⟩) rfl hg995 rfl ?_; intro u993 s994 xs996 w992 hM
              refine wv rfl (r_assign rfl) ?_
              refine wl_nil ?_
              refine bk_n ?_
              refine bk_n ?_
              obtain rfl := Option.some.inj hx
              replace hM := hM.p5.p4.p5
              replace hM := hM.t4
              have hM := hM.fewer (rsC (.tail _ (.tail _ (.tail _ (.tail _ (.tail _ (.tail _ (.tail _ (.tail _ (.tail _ (.tail _ (.tail _ (.tail _ (.tail _ (.head _)))))))))))))) (rsC (.head _) (rsC (.tail _ (.tail _ (.tail _ (.tail _ (.head _))))) (rsC (.tail _ (.tail _ (.head _))) rsN))))
              replace hM : St ⟨w, X, S⟩ [oBox b764 #[s942.v] 89, oBox b770 #[s949.v] 89, oRow 3 s786.v x781.length xs787, oRow 3 s994.v (y782 ++ [r945.1]).length xs996] [rX xs787 (x781.flatMap fDPart), rX xs996 ((y782 ++ [r945.1]).flatMap fDPart), rV s942.v (cSl 3 fDPart r938.2.parts), rV s949.v (cSl 3 fDPart r945.2.parts)] _ := hM
              exact lp_end (m797, x781, y782 ++ [r945.1], r938.2.parts, r945.2.parts, s786, xs787, s994, xs996, s942, s949) (Nat.lt_succ_self _) ⟨rfl, rfl, rfl, rfl, trivial⟩ ⟨hM, hx799⟩
            · replace hx := xif_f hc989 hx
              refine wc_skip ?_
              refine bk_n ?_
              refine bk_n ?_
              obtain rfl := Option.some.inj hx
              replace hM := hM.p5.p5.p4.p5
              replace hM := hM.t4
              have hM := hM.fewer (rsC (.tail _ (.tail _ (.tail _ (.tail _ (.tail _ (.tail _ (.tail _ (.tail _ (.tail _ (.tail _ (.tail _ (.tail _ (.head _))))))))))))) (rsC (.tail _ (.tail _ (.tail _ (.tail _ (.tail _ (.tail _ (.tail _ (.tail _ (.tail _ (.tail _ (.tail _ (.tail _ (.tail _ (.head _)))))))))))))) (rsC (.tail _ (.tail _ (.tail _ (.head _)))) (rsC (.tail _ (.head _)) rsN))))
              replace hM : St ⟨w, X, S⟩ [oBox b764 #[s942.v] 89, oBox b770 #[s949.v] 89, oRow 3 s786.v x781.length xs787, oRow 3 s789.v y782.length xs790] [rX xs787 (x781.flatMap fDPart), rX xs790 (y782.flatMap fDPart), rV s942.v (cSl 3 fDPart r938.2.parts), rV s949.v (cSl 3 fDPart r945.2.parts)] _ := hM
              exact lp_end (m797, x781, y782, r938.2.parts, r945.2.parts, s786, xs787, s789, xs790, s942, s949) (Nat.lt_succ_self _) ⟨rfl, rfl, rfl, rfl, trivial⟩ ⟨hM, hx799⟩
    · replace hx := xif_f hc831 hx
      refine wc_exit ?_
      refine sq_exit ?_
      refine lp1_exit ?_
      obtain rfl := Option.some.inj hx
      obtain rfl := Option.some.inj hx799
      replace hx := hx778
      try dsimp only [Sum.elim_inl, Sum.elim_inr] at hx
      refine bk_here ?_
      refine sq_n ?_
      refine wc_seq ?_
      refine wc_region ?_
      refine wv rfl (r_move rfl) ?_
      replace hM := hM.p2
      have hM := hM.sealS (fun _ => rfl) (.head _)
      obtain ⟨r999, h1000, hx⟩ := bind_some' hx
      refine w_call rfl rfl (hM.callO (l := []) fun X S oL hS hR hO => ct_impl_normal _ X S x781 s786 hS (hR _ (.head _)) oL h1000) ?_
      rintro _ w1001 ⟨s1002, rfl, hM⟩
      replace hM : St ⟨w, X, S⟩ [oC (cSl 3 fDPart r999) s1002.v, oBox b764 #[s805.v] 89, oBox b770 #[s821.v] 89, oRow 3 s789.v y782.length xs790] [rV s786.v (cSl 3 fDPart x781), rX xs787 (x781.flatMap fDPart), rX xs790 (y782.flatMap fDPart), rV s821.v (cSl 3 fDPart c819.2), rV s805.v (cSl 3 fDPart r801.2.parts)] _ := hM
      refine wv rfl (r_move rfl) ?_
      replace hM := hM.p3
      have hM := hM.sealS (fun _ => rfl) (.tail _ (.tail _ (.head _)))
      obtain ⟨r1005, h1006, hx⟩ := bind_some' hx
      refine w_call rfl rfl (hM.callO (l := []) fun X S oL hS hR hO => ct_impl_normal _ X S y782 s789 hS (hR _ (.head _)) oL h1006) ?_
      rintro _ w1007 ⟨s1008, rfl, hM⟩
      replace hM : St ⟨w, X, S⟩ [oC (cSl 3 fDPart r1005) s1008.v, oC (cSl 3 fDPart r999) s1002.v, oBox b764 #[s805.v] 89, oBox b770 #[s821.v] 89] [rV s789.v (cSl 3 fDPart y782), rV s786.v (cSl 3 fDPart x781), rX xs787 (x781.flatMap fDPart), rX xs790 (y782.flatMap fDPart), rV s821.v (cSl 3 fDPart c819.2), rV s805.v (cSl 3 fDPart r801.2.parts)] _ := hM
      refine wv rfl (r_assign rfl) ?_
      refine wv rfl (r_assign rfl) ?_
      refine wl_nil ?_
      refine sq_n ?_
      refine wc_seq ?_
      refine wc_seq ?_
      refine wc_region ?_
      refine wv rfl (r_move rfl) ?_
      obtain ⟨r1013, h1014, hx⟩ := bind_some' hx
      refine w_call rfl rfl (hM.callV fun X S oL hS hR hO => ct_impl_OpOk _ X S r999 s1002 hS (seeA hO (.tail _ (.head _))) oL h1014) ?_
      rintro _ w1015 ⟨rfl, hR1016⟩
      have hM := hM.call hR1016
      refine wv rfl (r_not rfl) ?_
      refine wv rfl (r_move rfl) ?_
      obtain ⟨c1019, hx, hx1027⟩ := bind_some' hx
      refine wl_mid 4 (fun _ : Unit => [(121, (.bool c1019)), (9, s1002.v), (10, s1008.v)]) (fun _ w' => St ⟨w, X, S⟩ [oC (cSl 3 fDPart r1005) s1008.v, oC (cSl 3 fDPart r999) s1002.v, oBox b764 #[s805.v] 89, oBox b770 #[s821.v] 89] [rV s789.v (cSl 3 fDPart y782), rV s786.v (cSl 3 fDPart x781), rX xs787 (x781.flatMap fDPart), rX xs790 (y782.flatMap fDPart), rV s821.v (cSl 3 fDPart c819.2), rV s805.v (cSl 3 fDPart r801.2.parts)] w') ?_ ?_
      · rcases Bool.eq_false_or_eq_true (!r1013) with hg1020 | hg1020
        · replace hx := xif_t hg1020 hx
          refine gs rfl (isB_no hg1020) rfl ?_
          refine gs rfl (isB_no hg1020) rfl ?_
          refine gs rfl (isB_no hg1020) rfl ?_
          refine wv rfl (p_t rfl hg1020 rfl) ?_
          obtain rfl := Option.some.inj hx
          exact mid_nil () ⟨rfl, rfl, rfl, trivial⟩ hM
        · replace hx := xif_f hg1020 hx
          refine gv rfl hg1020 rfl (r_move rfl) ?_
          obtain ⟨r1029, h1030, hx⟩ := bind_some' hx
          refine gc rfl hg1020 rfl rfl (hM.callV fun X S oL hS hR hO => ct_impl_OpOk _ X S r1005 s1008 hS (seeA hO (.head _)) oL h1030) ?_
          rintro _ w1031 ⟨rfl, hR1032⟩
          have hM := hM.call hR1032
          refine gv rfl hg1020 rfl (r_not rfl) ?_
          refine wv rfl (p_f rfl hg1020 rfl) ?_
          obtain rfl := Option.some.inj hx
          exact mid_nil () ⟨rfl, rfl, rfl, trivial⟩ hM
      rintro _ w1034 hM
      replace hx := hx1027
      refine wl_nil ?_
      refine sq_n ?_
      refine wc_cond rfl (fun hc1035 => ?_) (fun hc1035 => ?_)
      · replace hx := xif_t hc1035 hx
        refine wc_seq ?_
        refine wc_region ?_
        refine wv rfl (r_assign rfl) ?_
        refine wv rfl (r_assign rfl) ?_
        refine wv rfl (r_assign rfl) ?_
        refine wl_nil ?_
        refine sq_n ?_
        refine wc_ret ?_
        refine sq_ret ?_
        obtain rfl := Option.some.inj hx
        have hM := hM.nil0 (T := DPart) 3 fDPart
        have hM := hM.nil0 (T := DPart) 3 fDPart
        refine fin_ret [nS.v, nS.v, (.bool false)] ⟨rfl, rfl, rfl, trivial⟩ ?_
        replace hM := hM.p1
        replace hM := hM.t2
        have hM := hM.fewer rsN
        exact ⟨(nS, nS), rfl, hM.gives⟩
      · replace hx := xif_f hc1035 hx
        refine wc_skip ?_
        refine sq_n ?_
        refine wc_seq ?_
        refine wc_region ?_
        refine wv rfl (r_move rfl) ?_
        refine wv rfl (r_move rfl) ?_
        refine wv rfl (r_assign rfl) ?_
        refine wv rfl (r_assign rfl) ?_
        refine wv rfl (r_assign rfl) ?_
        refine wl_nil ?_
        refine sq_n ?_
        refine wc_ret ?_
        obtain rfl := Option.some.inj hx
        refine fin_ret [s1002.v, s1008.v, (.bool true)] ⟨rfl, rfl, rfl, trivial⟩ ?_
        replace hM := hM.p1
        replace hM := hM.t2
        have hM := hM.fewer rsN
        exact ⟨(s1002, s1008), rfl, hM.gives⟩

end Go.Proofs.Ythfkcpdechjmnaa
