/- Walks of functions of this program (printed by a program of ours, by the rules of the layer). No condition. -/
import Derived.Test.YthfkcpdechjmnaaGU
import Derived.Test.YthfkcpdechjmnaaNr
namespace Go.Proofs.Ythfkcpdechjmnaa
open Go.RowKit

noncomputable def x_impl_Keeping (n : Int) : Option (List DPart) :=
  Option.bind (x_impl_within n 1 200) fun r3 => bif !r3 then (some []) else (some [(⟨1, n, []⟩ : DPart)])
theorem ct_impl_Keeping (w : World) (X S : Bs) (n : Int) (hS : ∀ b, S b → b < w.heap.size ∧ ¬ X b)  (oL : Sep [] X w) {r : List DPart} (hx : x_impl_Keeping n = some r) :
    Ret Try.prog 64 [(.int .i64 n)] w (fun u w' => ∃ y : Sv, u = y.v ∧ Gives X S w [oC (cSl 3 fDPart r) y.v] [] w') := by
  unfold x_impl_Keeping at hx
  refine enter Try.func64 rfl Try.ntmps64 (by kernel_rfl) rfl ?_
  have hM := St.enter oL hS
  refine wc_seq ?_
  refine wc_region ?_
  refine wv rfl (r_assign rfl) ?_
  refine wl_nil ?_
  refine sq_n ?_
  refine wc_seq ?_
  refine wc_seq ?_
  refine wc_region ?_
  refine wv rfl (r_move rfl) ?_
  obtain ⟨r18, h19, hx⟩ := bind_some' hx
  refine w_call rfl rfl (hM.callV fun X S oL hS hR hO => ct_impl_within _ X S n (1 : Int) (200 : Int) hS  oL h19) ?_
  rintro _ w20 ⟨rfl, hR21⟩
  have hM := hM.call hR21
  refine wv rfl (r_not rfl) ?_
  refine wl_nil ?_
  refine sq_n ?_
  refine wc_cond rfl (fun hc23 => ?_) (fun hc23 => ?_)
  · replace hx := xif_t hc23 hx
    refine wc_seq ?_
    refine wc_region ?_
    refine wv rfl (r_assign rfl) ?_
    refine wl_nil ?_
    refine sq_n ?_
    refine wc_ret ?_
    refine sq_ret ?_
    obtain rfl := Option.some.inj hx
    have hM := hM.nil0 (T := DPart) 3 fDPart
    refine fin_ret [nS.v] ⟨rfl, trivial⟩ ?_
    replace hM := hM.t1
    have hM := hM.fewer rsN
    exact ⟨nS, rfl, hM.gives⟩
  · replace hx := xif_f hc23 hx
    refine wc_skip ?_
    refine sq_n ?_
    refine wc_seq ?_
    refine wc_region ?_
    refine wv rfl (r_move rfl) ?_
    refine wv rfl (r_build (cells := #[(.int .i64 1), (.int .i64 n), (.slice none 0 0)]) rfl (by kernel_rfl)) ?_
    refine w_ex rfl (x_lit (f := fDPart) (own := []) [(⟨1, n, []⟩ : DPart)] [(.int .i64 1), (.int .i64 n), (.slice none 0 0)] 1 Try.underlying29 sz77 (fun _ => rfl) rfl rfl rfl rfl rfl (by kernel_rfl) (fun _ => zP (pV _ rfl) (zP (pV _ rfl) (zP (pN _ _) zN))) hM ?_); intro s29 w28 hR30 hM
    refine wv rfl (r_assign rfl) ?_
    refine wl_nil ?_
    refine sq_n ?_
    refine wc_ret ?_
    obtain rfl := Option.some.inj hx
    refine fin_ret [s29.v] ⟨rfl, trivial⟩ ?_
    replace hM := hM.t1
    have hM := hM.fewer rsN
    exact ⟨s29, rfl, hM.gives⟩

noncomputable def x_impl_MergeOps_b0 (n : Int) (_l : List (List DPart)) (_k21 : Nat) (x165 : List DPart) (v22 : List DPart) : Option (Lr (List DPart) (Sum (List DPart) Unit)) :=
  Option.bind (x_impl_OpOk x165) fun r103 => Option.bind (bif !r103 then (some true) else (Option.bind (x_impl_OpFrom x165) fun r119 => some (!decide (r119 = n)))) fun c109 => bif c109 then (some (Lr.out (Sum.inr (())))) else (Option.bind (x_impl_Transform v22 x165) fun r129 => bif !r129.2.2 then (some (Lr.out (Sum.inr (())))) else (Option.bind (x_impl_Compose v22 r129.2.1) fun r149 => bif !r149.2 then (some (Lr.out (Sum.inr (())))) else (some (Lr.go r149.1))))
noncomputable def x_impl_MergeOps_f0 (n : Int) (l : List (List DPart)) (k21 : Nat) (s166 : List DPart) : Option (Lr (List DPart) (Sum (List DPart) Unit)) := x_impl_MergeOps_b0 n l k21 (el l k21) s166
noncomputable def x_impl_MergeOps (l : List (List DPart)) (n : Int) : Option (List DPart × Bool) :=
  Option.bind (x_impl_within n 0 200) fun r4 => bif !r4 then (some ([], false)) else (Option.bind (x_impl_Keeping n) fun r12 => Option.bind (eachN (x_impl_MergeOps_f0 n l) (fun (s166 : List DPart) => (Sum.inl s166 : Sum (List DPart) Unit)) l.length 0 r12) fun (y167 : Sum (List DPart) Unit) => Sum.elim (fun y168 => some (y168, true)) (fun _y169 => some ([], false)) y167)
theorem ct_impl_MergeOps (w : World) (X S : Bs) (l : List (List DPart)) (s_l : Sv) (n : Int) (hS : ∀ b, S b → b < w.heap.size ∧ ¬ X b) (a_l_0 : (cSl 1 fLDPart l).rd S w s_l.v) (oL : Sep [] X w) {r : List DPart × Bool} (hx : x_impl_MergeOps l n = some r) :
    Ret Try.prog 29 [s_l.v, (.int .i64 n)] w (fun u w' => ∃ y : Sv, u = .tuple #[y.v, (.bool r.2)] ∧ Gives X S w [oC (cSl 3 fDPart r.1) y.v] [] w') := by
  unfold x_impl_MergeOps at hx
  refine enter Try.func29 rfl Try.ntmps29 (by kernel_rfl) rfl ?_
  have hM := St.enter oL hS
  have hM := hM.addE (r := rV s_l.v (cSl 1 fLDPart l)) a_l_0
  refine wc_seq ?_
  refine wc_region ?_
  refine wv rfl (r_assign rfl) ?_
  refine wv rfl (r_assign rfl) ?_
  refine wl_nil ?_
  refine sq_n ?_
  refine wc_seq ?_
  refine wc_seq ?_
  refine wc_region ?_
  refine wv rfl (r_move rfl) ?_
  obtain ⟨r178, h179, hx⟩ := bind_some' hx
  refine w_call rfl rfl (hM.callV fun X S oL hS hR hO => ct_impl_within _ X S n (0 : Int) (200 : Int) hS  oL h179) ?_
  rintro _ w180 ⟨rfl, hR181⟩
  have hM := hM.call hR181
  refine wv rfl (r_not rfl) ?_
  refine wl_nil ?_
  refine sq_n ?_
  refine wc_cond rfl (fun hc183 => ?_) (fun hc183 => ?_)
  · replace hx := xif_t hc183 hx
    refine wc_seq ?_
    refine wc_region ?_
    refine wv rfl (r_assign rfl) ?_
    refine wv rfl (r_assign rfl) ?_
    refine wl_nil ?_
    refine sq_n ?_
    refine wc_ret ?_
    refine sq_ret ?_
    obtain rfl := Option.some.inj hx
    have hM := hM.nil0 (T := DPart) 3 fDPart
    refine fin_ret [nS.v, (.bool false)] ⟨rfl, rfl, trivial⟩ ?_
    replace hM := hM.t1
    have hM := hM.fewer rsN
    exact ⟨nS, rfl, hM.gives⟩
  · replace hx := xif_f hc183 hx
    refine wc_skip ?_
    refine sq_n ?_
    refine wc_seq ?_
    refine wc_region ?_
    refine wv rfl (r_move rfl) ?_
    obtain ⟨r188, h189, hx⟩ := bind_some' hx
    refine w_call rfl rfl (hM.callO (l := []) fun X S oL hS hR hO => ct_impl_Keeping _ X S n hS  oL h189) ?_
    rintro _ w190 ⟨s191, rfl, hM⟩
    replace hM : St ⟨w, X, S⟩ [oC (cSl 3 fDPart r188) s191.v] [rV s_l.v (cSl 1 fLDPart l)] _ := hM
    refine wv rfl (r_assign rfl) ?_
    refine wl_nil ?_
    refine sq_n ?_
    refine wc_seq ?_
    refine wc_seq ?_
    refine wc_region ?_
    refine wv rfl (r_move rfl) ?_
    refine wv rfl (r_lenC Try.underlying23 rfl (hM.seeR (.head _))) ?_
    refine wv rfl (r_move rfl) ?_
    refine wl_nil ?_
    refine sq_n ?_
    refine wc_block ?_
    obtain ⟨y197, hx, hx198⟩ := bind_some' hx
    have hl205 := Cs.le (hM.seeR (.head _))
    refine wc_loop (un fun (m202 : Nat) => un fun (k203 : Nat) => un fun (v199 : List DPart) => fun (s201 : Sv) => [(1, (.int .i64 n)), (6, s201.v), (17, s_l.v), (18, (.int .i64 (l.length : Int))), (19, (.int .i64 (k203 : Int)))]) (un fun (m202 : Nat) => un fun (k203 : Nat) => un fun (v199 : List DPart) => fun (s201 : Sv) w' => St ⟨w, X, S⟩ [oC (cSl 3 fDPart v199) s201.v] [rV s_l.v (cSl 1 fLDPart l)] w' ∧ eachN _ _ m202 k203 v199 = some y197 ∧ k203 + m202 = l.length) (fun p => p.1) (l.length, 0, r188, s191) ⟨rfl, rfl, rfl, rfl, rfl, trivial⟩ ⟨hM, hx, Nat.zero_add _⟩ ?_
    rintro ⟨m202, k203, v199, s201⟩ w206 ⟨hM, hx, hk204⟩
    refine wc_seq ?_
    refine wc_region ?_
    refine wv rfl (r_lss rfl rfl) ?_
    refine wl_nil ?_
    refine sq_n ?_
    refine wc_seq ?_
    refine wc_cond rfl (fun hc208 => ?_) (fun hc208 => ?_)
    · replace hc208 := of_decide_eq_true hc208
      obtain ⟨m209, z210, rfl, hk204, hx, hx211⟩ := eachN_step hx hk204 hc208
      unfold x_impl_MergeOps_f0 x_impl_MergeOps_b0 at hx
      try dsimp only at hx
      refine wc_skip ?_
      refine sq_n ?_
      refine wc_seq ?_
      refine wc_block ?_
      refine wc_seq ?_
      refine wc_region ?_
      have hi213 : k203 < l.length := by omega
      refine wv rfl (r_ixC Try.underlying23 sz29 rfl rfl (hM.seeR (.head _)) ⟨by omega, hc208⟩) ?_
      obtain ⟨s215, hM, hc216⟩ := hM.leaf (i := k203) (j := 0) (.head _) (fun _ => rfl) hi213 rfl
      refine wv rfl (r_ld Try.underlying29 rfl rfl (hc216 _ (Rel.refl _))) ?_
      refine wv rfl (r_assign rfl) ?_
      refine wl_nil ?_
      refine sq_n ?_
      refine wc_seq ?_
      refine wc_seq ?_
      refine wc_region ?_
      refine wv rfl (r_move rfl) ?_
      obtain ⟨r219, h220, hx⟩ := bind_some' hx
      refine w_call rfl rfl (hM.callV fun X S oL hS hR hO => ct_impl_OpOk _ X S (el l k203) s215 hS (hR _ (.head _)) oL h220) ?_
      rintro _ w221 ⟨rfl, hR222⟩
      have hM := hM.call hR222
      refine wv rfl (r_not rfl) ?_
      refine wv rfl (r_move rfl) ?_
      obtain ⟨c225, hx, hx234⟩ := bind_some' hx
      refine wl_mid 5 (fun _ : Unit => [(31, (.bool c225)), (1, (.int .i64 n)), (6, s201.v), (8, s215.v), (17, s_l.v), (18, (.int .i64 (l.length : Int))), (19, (.int .i64 (k203 : Int)))]) (fun _ w' => St ⟨w, X, S⟩ [oC (cSl 3 fDPart v199) s201.v] [rV s215.v (cSl 3 fDPart (el l k203)), rV s_l.v (cSl 1 fLDPart l)] w') ?_ ?_
      · rcases Bool.eq_false_or_eq_true (!r219) with hg226 | hg226
        · replace hx := xif_t hg226 hx
          refine gs rfl (isB_no hg226) rfl ?_
          refine gs rfl (isB_no hg226) rfl ?_
          refine gs rfl (isB_no hg226) rfl ?_
          refine gs rfl (isB_no hg226) rfl ?_
          refine wv rfl (p_t rfl hg226 rfl) ?_
          obtain rfl := Option.some.inj hx
          exact mid_nil () ⟨rfl, rfl, rfl, rfl, rfl, rfl, rfl, trivial⟩ hM
        · replace hx := xif_f hg226 hx
          refine gv rfl hg226 rfl (r_move rfl) ?_
          obtain ⟨r236, h237, hx⟩ := bind_some' hx
          refine gc rfl hg226 rfl rfl (hM.callV fun X S oL hS hR hO => ct_impl_OpFrom _ X S (el l k203) s215 hS (hR _ (.head _)) oL h237) ?_
          rintro _ w238 ⟨rfl, hR239⟩
          have hM := hM.call hR239
          refine gv rfl hg226 rfl (r_move rfl) ?_
          refine gv rfl hg226 rfl (r_neq rfl rfl) ?_
          refine wv rfl (p_f rfl hg226 rfl) ?_
          obtain rfl := Option.some.inj hx
          exact mid_nil () ⟨rfl, rfl, rfl, rfl, rfl, rfl, rfl, trivial⟩ hM
      rintro _ w242 hM
      replace hx := hx234
      refine wl_nil ?_
      refine sq_n ?_
      refine wc_cond rfl (fun hc243 => ?_) (fun hc243 => ?_)
      · replace hx := xif_t hc243 hx
        refine wc_seq ?_
        refine wc_region ?_
        refine wv rfl (r_assign rfl) ?_
        refine wv rfl (r_assign rfl) ?_
        refine wl_nil ?_
        refine sq_n ?_
        refine wc_ret ?_
        refine sq_ret ?_
        refine bk_ret ?_
        refine sq_ret ?_
        refine lp1_ret ?_
        obtain rfl := Option.some.inj hx
        obtain rfl := Option.some.inj hx211
        replace hx := hx198
        try dsimp only [Sum.elim_inl, Sum.elim_inr] at hx
        refine bk_ret ?_
        refine sq_ret ?_
        obtain rfl := Option.some.inj hx
        have hM := hM.nil0 (T := DPart) 3 fDPart
        refine fin_ret [nS.v, (.bool false)] ⟨rfl, rfl, trivial⟩ ?_
        replace hM := hM.t1
        have hM := hM.fewer rsN
        exact ⟨nS, rfl, hM.gives⟩
      · replace hx := xif_f hc243 hx
        refine wc_skip ?_
        refine sq_n ?_
        refine wc_seq ?_
        refine wc_region ?_
        refine wv rfl (r_move rfl) ?_
        refine wv rfl (r_move rfl) ?_
        obtain ⟨r249, h250, hx⟩ := bind_some' hx
        refine w_call rfl rfl (hM.callO (l := []) fun X S oL hS hR hO => ct_impl_Transform _ X S v199 s201 (el l k203) s215 hS (seeA hO (.head _)) (hR _ (.head _)) oL h250) ?_
        rintro _ w251 ⟨⟨s252, s253⟩, rfl, hM⟩
        replace hM : St ⟨w, X, S⟩ [oC (cSl 3 fDPart r249.1) s252.v, oC (cSl 3 fDPart r249.2.1) s253.v, oC (cSl 3 fDPart v199) s201.v] [rV s215.v (cSl 3 fDPart (el l k203)), rV s_l.v (cSl 1 fLDPart l)] _ := hM
        refine wv rfl (r_move rfl) ?_
        refine wv rfl (r_extract rfl rfl) ?_
        refine wv rfl (r_extract rfl rfl) ?_
        refine wv rfl (r_extract rfl rfl) ?_
        refine wv rfl (r_assign rfl) ?_
        refine wv rfl (r_assign rfl) ?_
        refine wv rfl (r_assign rfl) ?_
        refine wl_nil ?_
        refine sq_n ?_
        refine wc_seq ?_
        refine wc_seq ?_
        refine wc_region ?_
        refine wv rfl (r_move rfl) ?_
        refine wv rfl (r_not rfl) ?_
        refine wl_nil ?_
        refine sq_n ?_
        refine wc_cond rfl (fun hc265 => ?_) (fun hc265 => ?_)
        · replace hx := xif_t hc265 hx
          refine wc_seq ?_
          refine wc_region ?_
          refine wv rfl (r_assign rfl) ?_
          refine wv rfl (r_assign rfl) ?_
          refine wl_nil ?_
          refine sq_n ?_
          refine wc_ret ?_
          refine sq_ret ?_
          refine bk_ret ?_
          refine sq_ret ?_
          refine lp1_ret ?_
          obtain rfl := Option.some.inj hx
          obtain rfl := Option.some.inj hx211
          replace hx := hx198
          try dsimp only [Sum.elim_inl, Sum.elim_inr] at hx
          refine bk_ret ?_
          refine sq_ret ?_
          obtain rfl := Option.some.inj hx
          have hM := hM.nil0 (T := DPart) 3 fDPart
          refine fin_ret [nS.v, (.bool false)] ⟨rfl, rfl, trivial⟩ ?_
          replace hM := hM.t1
          have hM := hM.fewer rsN
          exact ⟨nS, rfl, hM.gives⟩
        · replace hx := xif_f hc265 hx
          refine wc_skip ?_
          refine sq_n ?_
          refine wc_seq ?_
          refine wc_region ?_
          refine wv rfl (r_move rfl) ?_
          refine wv rfl (r_move rfl) ?_
          obtain ⟨r271, h272, hx⟩ := bind_some' hx
          refine w_call rfl rfl (hM.callO (l := []) fun X S oL hS hR hO => ct_impl_Compose _ X S v199 s201 r249.2.1 s253 hS (seeA hO (.tail _ (.tail _ (.head _)))) (seeA hO (.tail _ (.head _))) oL h272) ?_
          rintro _ w273 ⟨s274, rfl, hM⟩
          replace hM : St ⟨w, X, S⟩ [oC (cSl 3 fDPart r271.1) s274.v, oC (cSl 3 fDPart r249.1) s252.v, oC (cSl 3 fDPart r249.2.1) s253.v, oC (cSl 3 fDPart v199) s201.v] [rV s215.v (cSl 3 fDPart (el l k203)), rV s_l.v (cSl 1 fLDPart l)] _ := hM
          refine wv rfl (r_move rfl) ?_
          refine wv rfl (r_extract rfl rfl) ?_
          refine wv rfl (r_extract rfl rfl) ?_
          refine wv rfl (r_assign rfl) ?_
          refine wv rfl (r_assign rfl) ?_
          refine wl_nil ?_
          refine sq_n ?_
          refine wc_seq ?_
          refine wc_region ?_
          refine wv rfl (r_move rfl) ?_
          refine wv rfl (r_not rfl) ?_
          refine wl_nil ?_
          refine sq_n ?_
          refine wc_cond rfl (fun hc283 => ?_) (fun hc283 => ?_)
          · replace hx := xif_t hc283 hx
            refine wc_seq ?_
            refine wc_region ?_
            refine wv rfl (r_assign rfl) ?_
            refine wv rfl (r_assign rfl) ?_
            refine wl_nil ?_
            refine sq_n ?_
            refine wc_ret ?_
            refine bk_ret ?_
            refine sq_ret ?_
            refine lp1_ret ?_
            obtain rfl := Option.some.inj hx
            obtain rfl := Option.some.inj hx211
            replace hx := hx198
            try dsimp only [Sum.elim_inl, Sum.elim_inr] at hx
            refine bk_ret ?_
            refine sq_ret ?_
            obtain rfl := Option.some.inj hx
            have hM := hM.nil0 (T := DPart) 3 fDPart
            refine fin_ret [nS.v, (.bool false)] ⟨rfl, rfl, trivial⟩ ?_
            replace hM := hM.t1
            have hM := hM.fewer rsN
            exact ⟨nS, rfl, hM.gives⟩
          · replace hx := xif_f hc283 hx
            refine wc_skip ?_
            refine bk_n ?_
            refine sq_n ?_
            refine wc_region ?_
            refine wv rfl (r_add rfl rfl ⟨by omega, by omega⟩) ?_
            refine wv rfl (r_move rfl) ?_
            refine wl_nil ?_
            obtain rfl := Option.some.inj hx
            replace hM := hM.t1
            have hM := hM.fewer (rsC (.tail _ (.head _)) rsN)
            replace hM : St ⟨w, X, S⟩ [oC (cSl 3 fDPart r271.1) s274.v] [rV s_l.v (cSl 1 fLDPart l)] _ := hM
            exact lp_end (m209, k203 + 1, r271.1, s274) (Nat.lt_succ_self _) ⟨rfl, rfl, rfl, rfl, rfl, trivial⟩ ⟨hM, hx211, hk204⟩
    · replace hc208 := of_decide_eq_false hc208
      obtain rfl := eachN_end hx hk204 hc208
      refine wc_exit ?_
      refine sq_exit ?_
      refine lp1_exit ?_
      replace hx := hx198
      try dsimp only [Sum.elim_inl, Sum.elim_inr] at hx
      refine bk_here ?_
      refine sq_n ?_
      refine wc_seq ?_
      refine wc_region ?_
      refine wv rfl (r_move rfl) ?_
      refine wv rfl (r_assign rfl) ?_
      refine wv rfl (r_assign rfl) ?_
      refine wl_nil ?_
      refine sq_n ?_
      refine wc_ret ?_
      obtain rfl := Option.some.inj hx
      refine fin_ret [s201.v, (.bool true)] ⟨rfl, rfl, trivial⟩ ?_
      replace hM := hM.t1
      have hM := hM.fewer rsN
      exact ⟨s201, rfl, hM.gives⟩

end Go.Proofs.Ythfkcpdechjmnaa
