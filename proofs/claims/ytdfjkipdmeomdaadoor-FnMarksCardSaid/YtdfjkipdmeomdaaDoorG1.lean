/- Walks of functions of this program (printed by a program of ours, by the rules of the layer). No condition. -/
import Derived.Test.YtdfjkipdmeomdaaDoorTy3
import Derived.Test.YtdfjkipdmeomdaaDoorNs
namespace Go.Proofs.YtdfjkipdmeomdaaDoor
open Go.RowKit

noncomputable def x_impl_within (n : Int) (low : Int) (high : Int) : Option Bool :=
  Option.bind (bif decide (low ≤ n) then (some (decide (n ≤ high))) else (some false)) fun c6 => some c6
theorem ct_impl_within (w : World) (X S : Bs) (n : Int) (low : Int) (high : Int) (hS : ∀ b, S b → b < w.heap.size ∧ ¬ X b)  (oL : Sep [] X w) {r : Bool} (hx : x_impl_within n low high = some r) :
  Ret Tryd.prog 27 [(.int .i64 n), (.int .i64 low), (.int .i64 high)] w (fun u w' => ∃ _ : Unit, u = (.bool r) ∧ Gives X S w [] [] w') := by
 unfold x_impl_within at hx
 refine enter Tryd.func27 rfl Tryd.ntmps27 (by kernel_rfl) rfl ?_
 have hM := St.enter oL hS
 refine wc_sr ?_
 refine was rfl rfl ?_
 refine wl_sq ?_
 refine wc_sr ?_
 refine wmv rfl rfl ?_
 refine wmv rfl rfl ?_
 refine wv rfl (r_geq rfl rfl) ?_
 refine wmv rfl rfl ?_
 obtain ⟨c20, hx, hx25⟩ := bind_some' hx
 refine wl_mid 4 (fun _ : Unit => [(14, (.bool c20))]) (fun _ w' => St ⟨w, X, S⟩ [] [] w') ?_ ?_
 ·
  rcases Bool.eq_false_or_eq_true (decide (low ≤ n)) with hg21 | hg21
  ·
   replace hx := xif_t hg21 hx
   refine gv rfl hg21 rfl (r_move rfl) ?_
   refine gv rfl hg21 rfl (r_move rfl) ?_
   refine gv rfl hg21 rfl (r_leq rfl rfl) ?_
   refine wv rfl (p_t rfl hg21 rfl) ?_
   obtain rfl := Option.some.inj hx
   exact mid_nil () ⟨rfl, trivial⟩ hM
  ·
   replace hx := xif_f hg21 hx
   refine gs rfl (isB_no hg21) rfl ?_
   refine gs rfl (isB_no hg21) rfl ?_
   refine gs rfl (isB_no hg21) rfl ?_
   refine wv rfl (p_f rfl hg21 rfl) ?_
   obtain rfl := Option.some.inj hx
   exact mid_nil () ⟨rfl, trivial⟩ hM
 rintro _ w29 hM
 replace hx := hx25
 refine was rfl rfl ?_
 refine wl_sq ?_
 refine wc_ret ?_
 obtain rfl := Option.some.inj hx
 refine fin_ret [(.bool c20)] ⟨rfl, trivial⟩ ?_
 replace hM := hM.t0
 have hM := hM.fewer rsN
 exact ⟨(), rfl, hM.gives⟩

noncomputable def x_impl_SignOk (n : Int) : Option Bool :=
  Option.bind (x_impl_within n 0 1114111) fun r3 => Option.bind (bif r3 then (Option.bind (x_impl_within n 55296 57343) fun r17 => some (!r17)) else (some false)) fun c8 => some c8
theorem ct_impl_SignOk (w : World) (X S : Bs) (n : Int) (hS : ∀ b, S b → b < w.heap.size ∧ ¬ X b)  (oL : Sep [] X w) {r : Bool} (hx : x_impl_SignOk n = some r) :
  Ret Tryd.prog 57 [(.int .i64 n)] w (fun u w' => ∃ _ : Unit, u = (.bool r) ∧ Gives X S w [] [] w') := by
 unfold x_impl_SignOk at hx
 refine enter Tryd.func57 rfl Tryd.ntmps57 (by kernel_rfl) rfl ?_
 have hM := St.enter oL hS
 refine wc_sr ?_
 refine was rfl rfl ?_
 refine wl_sq ?_
 refine wc_sr ?_
 refine wmv rfl rfl ?_
 obtain ⟨r25, h26, hx⟩ := bind_some' hx
 refine w_call rfl rfl (hM.callV fun X S oL hS hR hO => ct_impl_within _ X S n (0 : Int) (1114111 : Int) hS  oL h26) ?_
 rintro _ w27 ⟨rfl, hR28⟩
 have hM := hM.call hR28
 refine wmv rfl rfl ?_
 obtain ⟨c30, hx, hx38⟩ := bind_some' hx
 refine wl_mid 4 (fun _ : Unit => [(9, (.bool c30))]) (fun _ w' => St ⟨w, X, S⟩ [] [] w') ?_ ?_
 ·
  rcases Bool.eq_false_or_eq_true r25 with hg31 | hg31
  ·
   replace hx := xif_t hg31 hx
   refine gv rfl hg31 rfl (r_move rfl) ?_
   obtain ⟨r40, h41, hx⟩ := bind_some' hx
   refine gc rfl hg31 rfl rfl (hM.callV fun X S oL hS hR hO => ct_impl_within _ X S n (55296 : Int) (57343 : Int) hS  oL h41) ?_
   rintro _ w42 ⟨rfl, hR43⟩
   have hM := hM.call hR43
   refine gv rfl hg31 rfl (r_not rfl) ?_
   refine wv rfl (p_t rfl hg31 rfl) ?_
   obtain rfl := Option.some.inj hx
   exact mid_nil () ⟨rfl, trivial⟩ hM
  ·
   replace hx := xif_f hg31 hx
   refine gs rfl (isB_no hg31) rfl ?_
   refine gs rfl (isB_no hg31) rfl ?_
   refine gs rfl (isB_no hg31) rfl ?_
   refine wv rfl (p_f rfl hg31 rfl) ?_
   obtain rfl := Option.some.inj hx
   exact mid_nil () ⟨rfl, trivial⟩ hM
 rintro _ w45 hM
 replace hx := hx38
 refine was rfl rfl ?_
 refine wl_sq ?_
 refine wc_ret ?_
 obtain rfl := Option.some.inj hx
 refine fin_ret [(.bool c30)] ⟨rfl, trivial⟩ ?_
 replace hM := hM.t0
 have hM := hM.fewer rsN
 exact ⟨(), rfl, hM.gives⟩

noncomputable def x_impl_SignsOk_b0 (_l : List Int) (_k5 : Nat) (x34 : Int) : Option (Lr Unit (Sum Unit Unit)) :=
  Option.bind (x_impl_SignOk x34) fun r26 => bif !r26 then (some (Lr.out (Sum.inr (())))) else (some (Lr.go ()))
noncomputable def x_impl_SignsOk_f0 (l : List Int) (k5 : Nat) (_s35 : Unit) : Option (Lr Unit (Sum Unit Unit)) := x_impl_SignsOk_b0 l k5 (el l k5)
noncomputable def x_impl_SignsOk (l : List Int) : Option Bool :=
  Option.bind (eachN (x_impl_SignsOk_f0 l) (fun (_s35 : Unit) => (Sum.inl () : Sum Unit Unit)) l.length 0 ()) fun (y36 : Sum Unit Unit) => Sum.elim (fun _y37 => some true) (fun _y38 => some false) y36
theorem ct_impl_SignsOk (w : World) (X S : Bs) (l : List Int) (s_l : Sv) (hS : ∀ b, S b → b < w.heap.size ∧ ¬ X b) (a_l_0 : (cSl 1 fI l).rd S w s_l.v) (oL : Sep [] X w) {r : Bool} (hx : x_impl_SignsOk l = some r) :
  Ret Tryd.prog 50 [s_l.v] w (fun u w' => ∃ _ : Unit, u = (.bool r) ∧ Gives X S w [] [] w') := by
 unfold x_impl_SignsOk at hx
 refine enter Tryd.func50 rfl Tryd.ntmps50 (by kernel_rfl) rfl ?_
 have hM := St.enter oL hS
 have hM := hM.addE (r := rV s_l.v (cSl 1 fI l)) a_l_0
 refine wc_sr ?_
 refine was rfl rfl ?_
 refine wl_sq ?_
 refine wc_seq ?_
 refine wc_sr ?_
 refine wmv rfl rfl ?_
 refine wv rfl (r_lenC Tryd.underlying29 rfl (hM.seeR (.head _))) ?_
 refine wmv rfl rfl ?_
 refine wl_sq ?_
 refine wc_block ?_
 obtain ⟨y44, hx, hx45⟩ := bind_some' hx
 have hl49 := Cs.le (hM.seeR (.head _))
 refine wc_loop (un fun (m46 : Nat) => fun (k47 : Nat) => [(5, s_l.v), (6, (.int .i64 (l.length : Int))), (7, (.int .i64 (k47 : Int)))]) (un fun (m46 : Nat) => fun (k47 : Nat) w' => St ⟨w, X, S⟩ [] [rV s_l.v (cSl 1 fI l)] w' ∧ eachN _ _ m46 k47 () = some y44 ∧ k47 + m46 = l.length) (fun p => p.1) (l.length, 0) ⟨rfl, rfl, rfl, trivial⟩ ⟨hM, hx, Nat.zero_add _⟩ ?_
 rintro ⟨m46, k47⟩ w50 ⟨hM, hx, hk48⟩
 refine wc_sr ?_
 refine wv rfl (r_lss rfl rfl) ?_
 refine wl_sq ?_
 refine wc_seq ?_
 refine wc_cond rfl (fun hc52 => ?_) (fun hc52 => ?_)
 ·
  replace hc52 := of_decide_eq_true hc52
  obtain ⟨m53, z54, rfl, hk48, hx, hx55⟩ := eachN_step hx hk48 hc52
  unfold x_impl_SignsOk_f0 x_impl_SignsOk_b0 at hx
  try dsimp only at hx
  refine wc_skip ?_
  refine sq_n ?_
  refine wc_seq ?_
  refine wc_block ?_
  refine wc_sr ?_
  have hi57 : k47 < l.length := by omega
  refine wv rfl (r_ixC Tryd.underlying29 sz3 rfl rfl (hM.seeR (.head _)) ⟨by omega, hc52⟩) ?_
  refine wv rfl (r_ld Tryd.underlying3 rfl rfl (Cs.get (i := k47) (j := 0) (hM.seeR (.head _)) (fun _ => rfl) hi57 rfl)) ?_
  refine was rfl rfl ?_
  refine wl_sq ?_
  refine wc_sr ?_
  refine wmv rfl rfl ?_
  obtain ⟨r61, h62, hx⟩ := bind_some' hx
  refine w_call rfl rfl (hM.callV fun X S oL hS hR hO => ct_impl_SignOk _ X S (el l k47) hS  oL h62) ?_
  rintro _ w63 ⟨rfl, hR64⟩
  have hM := hM.call hR64
  refine wv rfl (r_not rfl) ?_
  refine wl_sq ?_
  refine wc_cond rfl (fun hc66 => ?_) (fun hc66 => ?_)
  ·
   replace hx := xif_t hc66 hx
   refine wc_sr ?_
   refine was rfl rfl ?_
   refine wl_sq ?_
   refine wc_ret ?_
   refine bk_ret ?_
   refine sq_ret ?_
   refine lp1_ret ?_
   obtain rfl := Option.some.inj hx
   obtain rfl := Option.some.inj hx55
   replace hx := hx45
   try dsimp only [Sum.elim_inl, Sum.elim_inr] at hx
   refine bk_ret ?_
   refine sq_ret ?_
   obtain rfl := Option.some.inj hx
   refine fin_ret [(.bool false)] ⟨rfl, trivial⟩ ?_
   replace hM := hM.t0
   have hM := hM.fewer rsN
   exact ⟨(), rfl, hM.gives⟩
  ·
   replace hx := xif_f hc66 hx
   refine wc_skip ?_
   refine bk_n ?_
   refine sq_n ?_
   refine wc_region ?_
   refine wv rfl (r_add rfl rfl ⟨by omega, by omega⟩) ?_
   refine wmv rfl rfl ?_
   refine wl_nil ?_
   obtain rfl := Option.some.inj hx
   exact lp_end (m53, k47 + 1) (Nat.lt_succ_self _) ⟨rfl, rfl, rfl, trivial⟩ ⟨hM, hx55, hk48⟩
 ·
  replace hc52 := of_decide_eq_false hc52
  obtain rfl := eachN_end hx hk48 hc52
  refine wc_exit ?_
  refine sq_exit ?_
  refine lp1_exit ?_
  replace hx := hx45
  try dsimp only [Sum.elim_inl, Sum.elim_inr] at hx
  refine bk_here ?_
  refine sq_n ?_
  refine wc_sr ?_
  refine was rfl rfl ?_
  refine wl_sq ?_
  refine wc_ret ?_
  obtain rfl := Option.some.inj hx
  refine fin_ret [(.bool true)] ⟨rfl, trivial⟩ ?_
  replace hM := hM.t0
  have hM := hM.fewer rsN
  exact ⟨(), rfl, hM.gives⟩

noncomputable def x_impl_PartOk (p : DPart) : Option Bool :=
  bif decide (p.kind = 1) then (bif decide (p.kind = 1) then (Option.bind (x_impl_within p.n 0 200) fun r12 => Option.bind (bif r12 then (some (decide ((p.signs.length : Int) = 0))) else (some false)) fun c17 => some c17) else (bif decide (p.kind = 2) then (Option.bind (bif decide (p.n = 0) then (some (decide ((p.signs.length : Int) ≤ 200))) else (some false)) fun c34 => Option.bind (bif c34 then (Option.bind (x_impl_SignsOk p.signs) fun r55 => some r55) else (some false)) fun c45 => some c45) else (some false))) else (bif decide (p.kind = 3) then (Option.bind (x_impl_within p.n 0 200) fun r65 => Option.bind (bif r65 then (some (decide ((p.signs.length : Int) = 0))) else (some false)) fun c70 => some c70) else (bif decide (p.kind = 2) then (Option.bind (bif decide (p.n = 0) then (some (decide ((p.signs.length : Int) ≤ 200))) else (some false)) fun c87 => Option.bind (bif c87 then (Option.bind (x_impl_SignsOk p.signs) fun r108 => some r108) else (some false)) fun c98 => some c98) else (some false)))
theorem ct_impl_PartOk (w : World) (X S : Bs) (p : DPart) (s_p_2 : Sv) (hS : ∀ b, S b → b < w.heap.size ∧ ¬ X b) (a_p_2 : (cSl 1 fI p.signs).rd S w s_p_2.v) (oL : Sep [] X w) {r : Bool} (hx : x_impl_PartOk p = some r) :
  Ret Tryd.prog 46 [(.agg #[(.int .i64 p.kind), (.int .i64 p.n), s_p_2.v])] w (fun u w' => ∃ _ : Unit, u = (.bool r) ∧ Gives X S w [] [] w') := by
 unfold x_impl_PartOk at hx
 refine enter Tryd.func46 rfl Tryd.ntmps46 (by kernel_rfl) rfl ?_
 have hM := St.enter oL hS
 have hM := hM.addE (r := rV s_p_2.v (cSl 1 fI p.signs)) a_p_2
 refine wc_sr ?_
 refine w_ex rfl (x_box rfl hM ?_); intro b115 w114 hR116 hM
 dsimp only [Value.cells] at hM
 refine was rfl rfl ?_
 refine wl_sq ?_
 refine wc_seq ?_
 refine wc_sr ?_
 refine wv rfl (r_fld Tryd.underlying58 rfl rfl sz3 rfl) ?_
 refine wv rfl (r_ldB Tryd.underlying3 rfl rfl hM (.head _) rfl) ?_
 refine wl_sq ?_
 refine wc_block ?_
 refine wc_seq ?_
 refine wc_sr ?_
 refine wv rfl (r_eql rfl rfl) ?_
 refine was rfl rfl ?_
 refine wl_sq ?_
 refine wc_cond rfl (fun hc123 => ?_) (fun hc123 => ?_)
 ·
  replace hx := xif_t hc123 hx
  refine wc_skip ?_
  refine sq_n ?_
  refine wc_cond rfl (fun hc124 => ?_) (fun hc124 => ?_)
  ·
   replace hx := xif_t hc124 hx
   refine wc_sr ?_
   refine wv rfl (r_fld Tryd.underlying58 rfl rfl sz3 rfl) ?_
   refine wv rfl (r_ldB Tryd.underlying3 rfl rfl hM (.head _) rfl) ?_
   obtain ⟨r127, h128, hx⟩ := bind_some' hx
   refine w_call rfl rfl (hM.callV fun X S oL hS hR hO => ct_impl_within _ X S p.n (0 : Int) (200 : Int) hS  oL h128) ?_
   rintro _ w129 ⟨rfl, hR130⟩
   have hM := hM.call hR130
   refine wmv rfl rfl ?_
   obtain ⟨c132, hx, hx138⟩ := bind_some' hx
   refine wl_mid 5 (fun _ : Unit => [(16, (.bool c132))]) (fun _ w' => St ⟨w, X, S⟩ [oBox b115 #[(.int .i64 p.kind), (.int .i64 p.n), s_p_2.v] 58] [rV s_p_2.v (cSl 1 fI p.signs)] w') ?_ ?_
   ·
    rcases Bool.eq_false_or_eq_true r127 with hg133 | hg133
    ·
     replace hx := xif_t hg133 hx
     refine gv rfl hg133 rfl (r_fld Tryd.underlying58 rfl rfl sz29 rfl) ?_
     refine gv rfl hg133 rfl (r_ldB Tryd.underlying29 rfl rfl hM (.head _) rfl) ?_
     refine gv rfl hg133 rfl (r_lenC Tryd.underlying29 rfl (hM.seeR (.head _))) ?_
     refine gv rfl hg133 rfl (r_eql rfl rfl) ?_
     refine wv rfl (p_t rfl hg133 rfl) ?_
     obtain rfl := Option.some.inj hx
     exact mid_nil () ⟨rfl, trivial⟩ hM
    ·
     replace hx := xif_f hg133 hx
     refine gs rfl (isB_no hg133) rfl ?_
     refine gs rfl (isB_no hg133) rfl ?_
     refine gs rfl (isB_no hg133) rfl ?_
     refine gs rfl (isB_no hg133) rfl ?_
     refine wv rfl (p_f rfl hg133 rfl) ?_
     obtain rfl := Option.some.inj hx
     exact mid_nil () ⟨rfl, trivial⟩ hM
   rintro _ w143 hM
   replace hx := hx138
   refine was rfl rfl ?_
   refine wl_sq ?_
   refine wc_ret ?_
   refine bk_ret ?_
   refine sq_ret ?_
   obtain rfl := Option.some.inj hx
   refine fin_ret [(.bool c132)] ⟨rfl, trivial⟩ ?_
   replace hM := hM.t0
   have hM := hM.fewer rsN
   exact ⟨(), rfl, hM.gives⟩
  ·
   replace hx := xif_f hc124 hx
   refine wc_sr ?_
   refine wv rfl (r_eql rfl rfl) ?_
   refine was rfl rfl ?_
   refine wl_sq ?_
   refine wc_cond rfl (fun hc147 => ?_) (fun hc147 => ?_)
   ·
    replace hx := xif_t hc147 hx
    refine wc_sr ?_
    refine wv rfl (r_fld Tryd.underlying58 rfl rfl sz3 rfl) ?_
    refine wv rfl (r_ldB Tryd.underlying3 rfl rfl hM (.head _) rfl) ?_
    refine wv rfl (r_eql rfl rfl) ?_
    refine wmv rfl rfl ?_
    obtain ⟨c152, hx, hx158⟩ := bind_some' hx
    refine wl_mid 5 (fun _ : Unit => [(27, (.bool c152)), (1, (.pointer (some ⟨b115, 0, none⟩)))]) (fun _ w' => St ⟨w, X, S⟩ [oBox b115 #[(.int .i64 p.kind), (.int .i64 p.n), s_p_2.v] 58] [rV s_p_2.v (cSl 1 fI p.signs)] w') ?_ ?_
    ·
     rcases Bool.eq_false_or_eq_true (decide (p.n = 0)) with hg153 | hg153
     ·
      replace hx := xif_t hg153 hx
      refine gv rfl hg153 rfl (r_fld Tryd.underlying58 rfl rfl sz29 rfl) ?_
      refine gv rfl hg153 rfl (r_ldB Tryd.underlying29 rfl rfl hM (.head _) rfl) ?_
      refine gv rfl hg153 rfl (r_lenC Tryd.underlying29 rfl (hM.seeR (.head _))) ?_
      refine gv rfl hg153 rfl (r_leq rfl rfl) ?_
      refine wv rfl (p_t rfl hg153 rfl) ?_
      obtain rfl := Option.some.inj hx
      exact mid_nil () ⟨rfl, rfl, trivial⟩ hM
     ·
      replace hx := xif_f hg153 hx
      refine gs rfl (isB_no hg153) rfl ?_
      refine gs rfl (isB_no hg153) rfl ?_
      refine gs rfl (isB_no hg153) rfl ?_
      refine gs rfl (isB_no hg153) rfl ?_
      refine wv rfl (p_f rfl hg153 rfl) ?_
      obtain rfl := Option.some.inj hx
      exact mid_nil () ⟨rfl, rfl, trivial⟩ hM
    rintro _ w163 hM
    replace hx := hx158
    refine wmv rfl rfl ?_
    obtain ⟨c165, hx, hx173⟩ := bind_some' hx
    refine wl_mid 4 (fun _ : Unit => [(32, (.bool c165))]) (fun _ w' => St ⟨w, X, S⟩ [oBox b115 #[(.int .i64 p.kind), (.int .i64 p.n), s_p_2.v] 58] [rV s_p_2.v (cSl 1 fI p.signs)] w') ?_ ?_
    ·
     rcases Bool.eq_false_or_eq_true c152 with hg166 | hg166
     ·
      replace hx := xif_t hg166 hx
      refine gv rfl hg166 rfl (r_fld Tryd.underlying58 rfl rfl sz29 rfl) ?_
      refine gv rfl hg166 rfl (r_ldB Tryd.underlying29 rfl rfl hM (.head _) rfl) ?_
      obtain ⟨r176, h177, hx⟩ := bind_some' hx
      refine gc rfl hg166 rfl rfl (hM.callV fun X S oL hS hR hO => ct_impl_SignsOk _ X S p.signs s_p_2 hS (hR _ (.head _)) oL h177) ?_
      rintro _ w178 ⟨rfl, hR179⟩
      have hM := hM.call hR179
      refine wv rfl (p_t rfl hg166 rfl) ?_
      obtain rfl := Option.some.inj hx
      exact mid_nil () ⟨rfl, trivial⟩ hM
     ·
      replace hx := xif_f hg166 hx
      refine gs rfl (isB_no hg166) rfl ?_
      refine gs rfl (isB_no hg166) rfl ?_
      refine gs rfl (isB_no hg166) rfl ?_
      refine wv rfl (p_f rfl hg166 rfl) ?_
      obtain rfl := Option.some.inj hx
      exact mid_nil () ⟨rfl, trivial⟩ hM
    rintro _ w180 hM
    replace hx := hx173
    refine was rfl rfl ?_
    refine wl_sq ?_
    refine wc_ret ?_
    refine bk_ret ?_
    refine sq_ret ?_
    obtain rfl := Option.some.inj hx
    refine fin_ret [(.bool c165)] ⟨rfl, trivial⟩ ?_
    replace hM := hM.t0
    have hM := hM.fewer rsN
    exact ⟨(), rfl, hM.gives⟩
   ·
    replace hx := xif_f hc147 hx
    refine wc_skip ?_
    refine bk_n ?_
    refine sq_n ?_
    refine wc_sr ?_
    refine was rfl rfl ?_
    refine wl_sq ?_
    refine wc_ret ?_
    obtain rfl := Option.some.inj hx
    refine fin_ret [(.bool false)] ⟨rfl, trivial⟩ ?_
    replace hM := hM.t0
    have hM := hM.fewer rsN
    exact ⟨(), rfl, hM.gives⟩
 ·
  replace hx := xif_f hc123 hx
  refine wc_region ?_
  refine wv rfl (r_eql rfl rfl) ?_
  refine was rfl rfl ?_
  refine wl_sq ?_
  refine wc_cond rfl (fun hc185 => ?_) (fun hc185 => ?_)
  ·
   replace hx := xif_t hc185 hx
   refine wc_sr ?_
   refine wv rfl (r_fld Tryd.underlying58 rfl rfl sz3 rfl) ?_
   refine wv rfl (r_ldB Tryd.underlying3 rfl rfl hM (.head _) rfl) ?_
   obtain ⟨r188, h189, hx⟩ := bind_some' hx
   refine w_call rfl rfl (hM.callV fun X S oL hS hR hO => ct_impl_within _ X S p.n (0 : Int) (200 : Int) hS  oL h189) ?_
   rintro _ w190 ⟨rfl, hR191⟩
   have hM := hM.call hR191
   refine wmv rfl rfl ?_
   obtain ⟨c193, hx, hx199⟩ := bind_some' hx
   refine wl_mid 5 (fun _ : Unit => [(16, (.bool c193))]) (fun _ w' => St ⟨w, X, S⟩ [oBox b115 #[(.int .i64 p.kind), (.int .i64 p.n), s_p_2.v] 58] [rV s_p_2.v (cSl 1 fI p.signs)] w') ?_ ?_
   ·
    rcases Bool.eq_false_or_eq_true r188 with hg194 | hg194
    ·
     replace hx := xif_t hg194 hx
     refine gv rfl hg194 rfl (r_fld Tryd.underlying58 rfl rfl sz29 rfl) ?_
     refine gv rfl hg194 rfl (r_ldB Tryd.underlying29 rfl rfl hM (.head _) rfl) ?_
     refine gv rfl hg194 rfl (r_lenC Tryd.underlying29 rfl (hM.seeR (.head _))) ?_
     refine gv rfl hg194 rfl (r_eql rfl rfl) ?_
     refine wv rfl (p_t rfl hg194 rfl) ?_
     obtain rfl := Option.some.inj hx
     exact mid_nil () ⟨rfl, trivial⟩ hM
    ·
     replace hx := xif_f hg194 hx
     refine gs rfl (isB_no hg194) rfl ?_
     refine gs rfl (isB_no hg194) rfl ?_
     refine gs rfl (isB_no hg194) rfl ?_
     refine gs rfl (isB_no hg194) rfl ?_
     refine wv rfl (p_f rfl hg194 rfl) ?_
     obtain rfl := Option.some.inj hx
     exact mid_nil () ⟨rfl, trivial⟩ hM
   rintro _ w204 hM
   replace hx := hx199
   refine was rfl rfl ?_
   refine wl_sq ?_
   refine wc_ret ?_
   refine bk_ret ?_
   refine sq_ret ?_
   obtain rfl := Option.some.inj hx
   refine fin_ret [(.bool c193)] ⟨rfl, trivial⟩ ?_
   replace hM := hM.t0
   have hM := hM.fewer rsN
   exact ⟨(), rfl, hM.gives⟩
  ·
   replace hx := xif_f hc185 hx
   refine wc_sr ?_
   refine wv rfl (r_eql rfl rfl) ?_
   refine was rfl rfl ?_
   refine wl_sq ?_
   refine wc_cond rfl (fun hc208 => ?_) (fun hc208 => ?_)
   ·
    replace hx := xif_t hc208 hx
    refine wc_sr ?_
    refine wv rfl (r_fld Tryd.underlying58 rfl rfl sz3 rfl) ?_
    refine wv rfl (r_ldB Tryd.underlying3 rfl rfl hM (.head _) rfl) ?_
    refine wv rfl (r_eql rfl rfl) ?_
    refine wmv rfl rfl ?_
    obtain ⟨c213, hx, hx219⟩ := bind_some' hx
    refine wl_mid 5 (fun _ : Unit => [(27, (.bool c213)), (1, (.pointer (some ⟨b115, 0, none⟩)))]) (fun _ w' => St ⟨w, X, S⟩ [oBox b115 #[(.int .i64 p.kind), (.int .i64 p.n), s_p_2.v] 58] [rV s_p_2.v (cSl 1 fI p.signs)] w') ?_ ?_
    ·
     rcases Bool.eq_false_or_eq_true (decide (p.n = 0)) with hg214 | hg214
     ·
      replace hx := xif_t hg214 hx
      refine gv rfl hg214 rfl (r_fld Tryd.underlying58 rfl rfl sz29 rfl) ?_
      refine gv rfl hg214 rfl (r_ldB Tryd.underlying29 rfl rfl hM (.head _) rfl) ?_
      refine gv rfl hg214 rfl (r_lenC Tryd.underlying29 rfl (hM.seeR (.head _))) ?_
      refine gv rfl hg214 rfl (r_leq rfl rfl) ?_
      refine wv rfl (p_t rfl hg214 rfl) ?_
      obtain rfl := Option.some.inj hx
      exact mid_nil () ⟨rfl, rfl, trivial⟩ hM
     ·
      replace hx := xif_f hg214 hx
      refine gs rfl (isB_no hg214) rfl ?_
      refine gs rfl (isB_no hg214) rfl ?_
      refine gs rfl (isB_no hg214) rfl ?_
      refine gs rfl (isB_no hg214) rfl ?_
      refine wv rfl (p_f rfl hg214 rfl) ?_
      obtain rfl := Option.some.inj hx
      exact mid_nil () ⟨rfl, rfl, trivial⟩ hM
    rintro _ w224 hM
    replace hx := hx219
    refine wmv rfl rfl ?_
    obtain ⟨c226, hx, hx234⟩ := bind_some' hx
    refine wl_mid 4 (fun _ : Unit => [(32, (.bool c226))]) (fun _ w' => St ⟨w, X, S⟩ [oBox b115 #[(.int .i64 p.kind), (.int .i64 p.n), s_p_2.v] 58] [rV s_p_2.v (cSl 1 fI p.signs)] w') ?_ ?_
    ·
     rcases Bool.eq_false_or_eq_true c213 with hg227 | hg227
     ·
      replace hx := xif_t hg227 hx
      refine gv rfl hg227 rfl (r_fld Tryd.underlying58 rfl rfl sz29 rfl) ?_
      refine gv rfl hg227 rfl (r_ldB Tryd.underlying29 rfl rfl hM (.head _) rfl) ?_
      obtain ⟨r237, h238, hx⟩ := bind_some' hx
      refine gc rfl hg227 rfl rfl (hM.callV fun X S oL hS hR hO => ct_impl_SignsOk _ X S p.signs s_p_2 hS (hR _ (.head _)) oL h238) ?_
      rintro _ w239 ⟨rfl, hR240⟩
      have hM := hM.call hR240
      refine wv rfl (p_t rfl hg227 rfl) ?_
      obtain rfl := Option.some.inj hx
      exact mid_nil () ⟨rfl, trivial⟩ hM
     ·
      replace hx := xif_f hg227 hx
      refine gs rfl (isB_no hg227) rfl ?_
      refine gs rfl (isB_no hg227) rfl ?_
      refine gs rfl (isB_no hg227) rfl ?_
      refine wv rfl (p_f rfl hg227 rfl) ?_
      obtain rfl := Option.some.inj hx
      exact mid_nil () ⟨rfl, trivial⟩ hM
    rintro _ w241 hM
    replace hx := hx234
    refine was rfl rfl ?_
    refine wl_sq ?_
    refine wc_ret ?_
    refine bk_ret ?_
    refine sq_ret ?_
    obtain rfl := Option.some.inj hx
    refine fin_ret [(.bool c226)] ⟨rfl, trivial⟩ ?_
    replace hM := hM.t0
    have hM := hM.fewer rsN
    exact ⟨(), rfl, hM.gives⟩
   ·
    replace hx := xif_f hc208 hx
    refine wc_skip ?_
    refine bk_n ?_
    refine sq_n ?_
    refine wc_sr ?_
    refine was rfl rfl ?_
    refine wl_sq ?_
    refine wc_ret ?_
    obtain rfl := Option.some.inj hx
    refine fin_ret [(.bool false)] ⟨rfl, trivial⟩ ?_
    replace hM := hM.t0
    have hM := hM.fewer rsN
    exact ⟨(), rfl, hM.gives⟩

noncomputable def x_impl_partsOk_b0 (_o : List DPart) (_k5 : Nat) (x48 : DPart) : Option (Lr Unit (Sum Unit Unit)) :=
  Option.bind (x_impl_PartOk x48) fun r40 => bif !r40 then (some (Lr.out (Sum.inr (())))) else (some (Lr.go ()))
noncomputable def x_impl_partsOk_f0 (o : List DPart) (k5 : Nat) (_s49 : Unit) : Option (Lr Unit (Sum Unit Unit)) := x_impl_partsOk_b0 o k5 (el o k5)
noncomputable def x_impl_partsOk (o : List DPart) : Option Bool :=
  Option.bind (eachN (x_impl_partsOk_f0 o) (fun (_s49 : Unit) => (Sum.inl () : Sum Unit Unit)) o.length 0 ()) fun (y50 : Sum Unit Unit) => Sum.elim (fun _y51 => some (decide ((o.length : Int) ≤ 600))) (fun _y52 => some false) y50
theorem ct_impl_partsOk (w : World) (X S : Bs) (o : List DPart) (s_o : Sv) (hS : ∀ b, S b → b < w.heap.size ∧ ¬ X b) (a_o_0 : (cSl 3 fDPart o).rd S w s_o.v) (oL : Sep [] X w) {r : Bool} (hx : x_impl_partsOk o = some r) :
  Ret Tryd.prog 36 [s_o.v] w (fun u w' => ∃ _ : Unit, u = (.bool r) ∧ Gives X S w [] [] w') := by
 unfold x_impl_partsOk at hx
 refine enter Tryd.func36 rfl Tryd.ntmps36 (by kernel_rfl) rfl ?_
 have hM := St.enter oL hS
 have hM := hM.addE (r := rV s_o.v (cSl 3 fDPart o)) a_o_0
 refine wc_sr ?_
 refine was rfl rfl ?_
 refine wl_sq ?_
 refine wc_seq ?_
 refine wc_sr ?_
 refine wmv rfl rfl ?_
 refine wv rfl (r_lenC Tryd.underlying30 rfl (hM.seeR (.head _))) ?_
 refine wmv rfl rfl ?_
 refine wl_sq ?_
 refine wc_block ?_
 obtain ⟨y61, hx, hx62⟩ := bind_some' hx
 have hl66 := Cs.le (hM.seeR (.head _))
 refine wc_loop (un fun (m63 : Nat) => fun (k64 : Nat) => [(0, s_o.v), (5, s_o.v), (6, (.int .i64 (o.length : Int))), (7, (.int .i64 (k64 : Int)))]) (un fun (m63 : Nat) => fun (k64 : Nat) w' => St ⟨w, X, S⟩ [] [rV s_o.v (cSl 3 fDPart o)] w' ∧ eachN _ _ m63 k64 () = some y61 ∧ k64 + m63 = o.length) (fun p => p.1) (o.length, 0) ⟨rfl, rfl, rfl, rfl, trivial⟩ ⟨hM, hx, Nat.zero_add _⟩ ?_
 rintro ⟨m63, k64⟩ w67 ⟨hM, hx, hk65⟩
 refine wc_sr ?_
 refine wv rfl (r_lss rfl rfl) ?_
 refine wl_sq ?_
 refine wc_seq ?_
 refine wc_cond rfl (fun hc69 => ?_) (fun hc69 => ?_)
 ·
  replace hc69 := of_decide_eq_true hc69
  obtain ⟨m70, z71, rfl, hk65, hx, hx72⟩ := eachN_step hx hk65 hc69
  unfold x_impl_partsOk_f0 x_impl_partsOk_b0 at hx
  try dsimp only at hx
  refine wc_skip ?_
  refine sq_n ?_
  refine wc_seq ?_
  refine wc_block ?_
  refine wc_sr ?_
  have hi74 : k64 < o.length := by omega
  refine wv rfl (r_ixC Tryd.underlying30 sz58 rfl rfl (hM.seeR (.head _)) ⟨by omega, hc69⟩) ?_
  obtain ⟨s76, hM, hc77⟩ := hM.leaf (i := k64) (j := 2) (.head _) (fun _ => rfl) hi74 rfl
  refine wv rfl (r_ldC (o := k64 * 3) Tryd.underlying58 sz58 rfl (us := [(.int .i64 ((el o k64).kind)), (.int .i64 ((el o k64).n)), s76.v]) rfl (hM.seeR (.tail _ (.head _))) hi74 ⟨(Cs.get (i := k64) (j := 0) (hM.seeR (.tail _ (.head _))) (fun _ => rfl) hi74 rfl), (Cs.get (i := k64) (j := 1) (hM.seeR (.tail _ (.head _))) (fun _ => rfl) hi74 rfl), (hc77 _ (Rel.refl _)), trivial⟩) ?_
  refine w_ex rfl (x_alloc sz58 hM ?_); intro b79 w78 hR80 hM
  dsimp only [Value.cells] at hM
  refine w_exu (x_stB #[(.int .i64 ((el o k64).kind)), (.int .i64 ((el o k64).n)), s76.v] sz58 rfl rfl rfl rfl rfl rfl hM ?_); intro w82 hM
  refine wl_sq ?_
  refine wc_sr ?_
  refine wv rfl (r_ldBS Tryd.underlying58 sz58 rfl (us := [(.int .i64 ((el o k64).kind)), (.int .i64 ((el o k64).n)), s76.v]) rfl hM (.head _) rfl) ?_
  obtain ⟨r85, h86, hx⟩ := bind_some' hx
  refine w_call rfl rfl (hM.callV fun X S oL hS hR hO => ct_impl_PartOk _ X S (el o k64) s76 hS (hR _ (.head _)) oL h86) ?_
  rintro _ w87 ⟨rfl, hR88⟩
  have hM := hM.call hR88
  refine wv rfl (r_not rfl) ?_
  refine wl_sq ?_
  refine wc_cond rfl (fun hc90 => ?_) (fun hc90 => ?_)
  ·
   replace hx := xif_t hc90 hx
   refine wc_sr ?_
   refine was rfl rfl ?_
   refine wl_sq ?_
   refine wc_ret ?_
   refine bk_ret ?_
   refine sq_ret ?_
   refine lp1_ret ?_
   obtain rfl := Option.some.inj hx
   obtain rfl := Option.some.inj hx72
   replace hx := hx62
   try dsimp only [Sum.elim_inl, Sum.elim_inr] at hx
   refine bk_ret ?_
   refine sq_ret ?_
   obtain rfl := Option.some.inj hx
   refine fin_ret [(.bool false)] ⟨rfl, trivial⟩ ?_
   replace hM := hM.t0
   have hM := hM.fewer rsN
   exact ⟨(), rfl, hM.gives⟩
  ·
   replace hx := xif_f hc90 hx
   refine wc_skip ?_
   refine bk_n ?_
   refine sq_n ?_
   refine wc_region ?_
   refine wv rfl (r_add rfl rfl ⟨by omega, by omega⟩) ?_
   refine wmv rfl rfl ?_
   refine wl_nil ?_
   obtain rfl := Option.some.inj hx
   replace hM := hM.t0
   have hM := hM.fewer (rsC (.tail _ (.head _)) rsN)
   replace hM : St ⟨w, X, S⟩ [] [rV s_o.v (cSl 3 fDPart o)] _ := hM
   exact lp_end (m70, k64 + 1) (Nat.lt_succ_self _) ⟨rfl, rfl, rfl, rfl, trivial⟩ ⟨hM, hx72, hk65⟩
 ·
  replace hc69 := of_decide_eq_false hc69
  obtain rfl := eachN_end hx hk65 hc69
  refine wc_exit ?_
  refine sq_exit ?_
  refine lp1_exit ?_
  replace hx := hx62
  try dsimp only [Sum.elim_inl, Sum.elim_inr] at hx
  refine bk_here ?_
  refine sq_n ?_
  refine wc_sr ?_
  refine wmv rfl rfl ?_
  refine wv rfl (r_lenC Tryd.underlying30 rfl (hM.seeR (.head _))) ?_
  refine wv rfl (r_leq rfl rfl) ?_
  refine was rfl rfl ?_
  refine wl_sq ?_
  refine wc_ret ?_
  obtain rfl := Option.some.inj hx
  refine fin_ret [(.bool (decide ((o.length : Int) ≤ 600)))] ⟨rfl, trivial⟩ ?_
  replace hM := hM.t0
  have hM := hM.fewer rsN
  exact ⟨(), rfl, hM.gives⟩

noncomputable def x_impl_size (p : DPart) : Option Int :=
  xg (inI (p.n + (p.signs.length : Int))) <| some (p.n + (p.signs.length : Int))
theorem ct_impl_size (w : World) (X S : Bs) (p : DPart) (s_p_2 : Sv) (hS : ∀ b, S b → b < w.heap.size ∧ ¬ X b) (a_p_2 : (cSl 1 fI p.signs).rd S w s_p_2.v) (oL : Sep [] X w) {r : Int} (hx : x_impl_size p = some r) :
  Ret Tryd.prog 38 [(.agg #[(.int .i64 p.kind), (.int .i64 p.n), s_p_2.v])] w (fun u w' => ∃ _ : Unit, u = (.int .i64 r) ∧ Gives X S w [] [] w') := by
 unfold x_impl_size at hx
 refine enter Tryd.func38 rfl Tryd.ntmps38 (by kernel_rfl) rfl ?_
 have hM := St.enter oL hS
 have hM := hM.addE (r := rV s_p_2.v (cSl 1 fI p.signs)) a_p_2
 refine wc_sr ?_
 refine w_ex rfl (x_box rfl hM ?_); intro b15 w14 hR16 hM
 dsimp only [Value.cells] at hM
 refine was rfl rfl ?_
 refine wl_sq ?_
 refine wc_sr ?_
 refine wv rfl (r_fld Tryd.underlying58 rfl rfl sz3 rfl) ?_
 refine wv rfl (r_ldB Tryd.underlying3 rfl rfl hM (.head _) rfl) ?_
 refine wv rfl (r_fld Tryd.underlying58 rfl rfl sz29 rfl) ?_
 refine wv rfl (r_ldB Tryd.underlying29 rfl rfl hM (.head _) rfl) ?_
 refine wv rfl (r_lenC Tryd.underlying29 rfl (hM.seeR (.head _))) ?_
 obtain ⟨hg25, hx⟩ := xg_some hx
 refine wv rfl (r_add rfl rfl hg25) ?_
 refine was rfl rfl ?_
 refine wl_sq ?_
 refine wc_ret ?_
 obtain rfl := Option.some.inj hx
 refine fin_ret [(.int .i64 (p.n + (p.signs.length : Int)))] ⟨rfl, trivial⟩ ?_
 replace hM := hM.t0
 have hM := hM.fewer rsN
 exact ⟨(), rfl, hM.gives⟩

noncomputable def x_impl_sizeOf_b0 (but : Int) (_o : List DPart) (_k13 : Nat) (x73 : DPart) (n14 : Int) : Option (Lr Int Int) :=
  bif !decide ((x73.kind) = but) then (Option.bind (x_impl_size x73) fun r62 => xg (inI (n14 + r62)) <| some (Lr.go (n14 + r62))) else (some (Lr.go n14))
noncomputable def x_impl_sizeOf_f0 (but : Int) (o : List DPart) (k13 : Nat) (s74 : Int) : Option (Lr Int Int) := x_impl_sizeOf_b0 but o k13 (el o k13) s74
noncomputable def x_impl_sizeOf (o : List DPart) (but : Int) : Option Int :=
  Option.bind (x_impl_partsOk o) fun r3 => bif !r3 then (some 0) else (Option.bind (eachN (x_impl_sizeOf_f0 but o) (fun (s74 : Int) => (s74 : Int)) o.length 0 0) fun (y75 : Int) => some y75)
theorem ct_impl_sizeOf (w : World) (X S : Bs) (o : List DPart) (s_o : Sv) (but : Int) (hS : ∀ b, S b → b < w.heap.size ∧ ¬ X b) (a_o_0 : (cSl 3 fDPart o).rd S w s_o.v) (oL : Sep [] X w) {r : Int} (hx : x_impl_sizeOf o but = some r) :
  Ret Tryd.prog 28 [s_o.v, (.int .i64 but)] w (fun u w' => ∃ _ : Unit, u = (.int .i64 r) ∧ Gives X S w [] [] w') := by
 unfold x_impl_sizeOf at hx
 refine enter Tryd.func28 rfl Tryd.ntmps28 (by kernel_rfl) rfl ?_
 have hM := St.enter oL hS
 have hM := hM.addE (r := rV s_o.v (cSl 3 fDPart o)) a_o_0
 refine wc_sr ?_
 refine was rfl rfl ?_
 refine wl_sq ?_
 refine wc_seq ?_
 refine wc_sr ?_
 refine wmv rfl rfl ?_
 obtain ⟨r80, h81, hx⟩ := bind_some' hx
 refine w_call rfl rfl (hM.callV fun X S oL hS hR hO => ct_impl_partsOk _ X S o s_o hS (hR _ (.head _)) oL h81) ?_
 rintro _ w82 ⟨rfl, hR83⟩
 have hM := hM.call hR83
 refine wv rfl (r_not rfl) ?_
 refine wl_sq ?_
 refine wc_cond rfl (fun hc85 => ?_) (fun hc85 => ?_)
 ·
  replace hx := xif_t hc85 hx
  refine wc_sr ?_
  refine was rfl rfl ?_
  refine wl_sq ?_
  refine wc_ret ?_
  refine sq_ret ?_
  obtain rfl := Option.some.inj hx
  refine fin_ret [(.int .i64 0)] ⟨rfl, trivial⟩ ?_
  replace hM := hM.t0
  have hM := hM.fewer rsN
  exact ⟨(), rfl, hM.gives⟩
 ·
  replace hx := xif_f hc85 hx
  refine wc_skip ?_
  refine sq_n ?_
  refine wc_sr ?_
  refine was rfl rfl ?_
  refine wl_sq ?_
  refine wc_seq ?_
  refine wc_sr ?_
  refine wmv rfl rfl ?_
  refine wv rfl (r_lenC Tryd.underlying30 rfl (hM.seeR (.head _))) ?_
  refine wmv rfl rfl ?_
  refine wl_sq ?_
  refine wc_block ?_
  obtain ⟨y91, hx, hx92⟩ := bind_some' hx
  have hl97 := Cs.le (hM.seeR (.head _))
  refine wc_loop (un fun (m94 : Nat) => un fun (k95 : Nat) => fun (n93 : Int) => [(1, (.int .i64 but)), (5, (.int .i64 n93)), (11, s_o.v), (12, (.int .i64 (o.length : Int))), (13, (.int .i64 (k95 : Int)))]) (un fun (m94 : Nat) => un fun (k95 : Nat) => fun (n93 : Int) w' => St ⟨w, X, S⟩ [] [rV s_o.v (cSl 3 fDPart o)] w' ∧ eachN _ _ m94 k95 n93 = some y91 ∧ k95 + m94 = o.length) (fun p => p.1) (o.length, 0, 0) ⟨rfl, rfl, rfl, rfl, rfl, trivial⟩ ⟨hM, hx, Nat.zero_add _⟩ ?_
  rintro ⟨m94, k95, n93⟩ w98 ⟨hM, hx, hk96⟩
  refine wc_sr ?_
  refine wv rfl (r_lss rfl rfl) ?_
  refine wl_sq ?_
  refine wc_seq ?_
  refine wc_cond rfl (fun hc100 => ?_) (fun hc100 => ?_)
  ·
   replace hc100 := of_decide_eq_true hc100
   obtain ⟨m101, z102, rfl, hk96, hx, hx103⟩ := eachN_step hx hk96 hc100
   unfold x_impl_sizeOf_f0 x_impl_sizeOf_b0 at hx
   try dsimp only at hx
   refine wc_skip ?_
   refine sq_n ?_
   refine wc_seq ?_
   refine wc_block ?_
   refine wc_sr ?_
   have hi105 : k95 < o.length := by omega
   refine wv rfl (r_ixC Tryd.underlying30 sz58 rfl rfl (hM.seeR (.head _)) ⟨by omega, hc100⟩) ?_
   obtain ⟨s107, hM, hc108⟩ := hM.leaf (i := k95) (j := 2) (.head _) (fun _ => rfl) hi105 rfl
   refine wv rfl (r_ldC (o := k95 * 3) Tryd.underlying58 sz58 rfl (us := [(.int .i64 ((el o k95).kind)), (.int .i64 ((el o k95).n)), s107.v]) rfl (hM.seeR (.tail _ (.head _))) hi105 ⟨(Cs.get (i := k95) (j := 0) (hM.seeR (.tail _ (.head _))) (fun _ => rfl) hi105 rfl), (Cs.get (i := k95) (j := 1) (hM.seeR (.tail _ (.head _))) (fun _ => rfl) hi105 rfl), (hc108 _ (Rel.refl _)), trivial⟩) ?_
   refine w_ex rfl (x_alloc sz58 hM ?_); intro b110 w109 hR111 hM
   dsimp only [Value.cells] at hM
   refine w_exu (x_stB #[(.int .i64 ((el o k95).kind)), (.int .i64 ((el o k95).n)), s107.v] sz58 rfl rfl rfl rfl rfl rfl hM ?_); intro w113 hM
   refine wl_sq ?_
   refine wc_sr ?_
   refine wv rfl (r_fld Tryd.underlying58 rfl rfl sz3 rfl) ?_
   refine wv rfl (r_ldB Tryd.underlying3 rfl rfl hM (.head _) rfl) ?_
   refine wmv rfl rfl ?_
   refine wv rfl (r_neq rfl rfl) ?_
   refine wl_sq ?_
   refine wc_cond rfl (fun hc119 => ?_) (fun hc119 => ?_)
   ·
    replace hx := xif_t hc119 hx
    refine wc_region ?_
    refine wmv rfl rfl ?_
    refine wv rfl (r_ldBS Tryd.underlying58 sz58 rfl (us := [(.int .i64 ((el o k95).kind)), (.int .i64 ((el o k95).n)), s107.v]) rfl hM (.head _) rfl) ?_
    obtain ⟨r122, h123, hx⟩ := bind_some' hx
    refine w_call rfl rfl (hM.callV fun X S oL hS hR hO => ct_impl_size _ X S (el o k95) s107 hS (hR _ (.head _)) oL h123) ?_
    rintro _ w124 ⟨rfl, hR125⟩
    have hM := hM.call hR125
    obtain ⟨hg127, hx⟩ := xg_some hx
    refine wv rfl (r_add rfl rfl hg127) ?_
    refine was rfl rfl ?_
    refine wl_nil ?_
    refine bk_n ?_
    refine sq_n ?_
    refine wc_region ?_
    refine wv rfl (r_add rfl rfl ⟨by omega, by omega⟩) ?_
    refine wmv rfl rfl ?_
    refine wl_nil ?_
    obtain rfl := Option.some.inj hx
    replace hM := hM.t0
    have hM := hM.fewer (rsC (.tail _ (.head _)) rsN)
    replace hM : St ⟨w, X, S⟩ [] [rV s_o.v (cSl 3 fDPart o)] _ := hM
    exact lp_end (m101, k95 + 1, n93 + r122) (Nat.lt_succ_self _) ⟨rfl, rfl, rfl, rfl, rfl, trivial⟩ ⟨hM, hx103, hk96⟩
   ·
    replace hx := xif_f hc119 hx
    refine wc_skip ?_
    refine bk_n ?_
    refine sq_n ?_
    refine wc_region ?_
    refine wv rfl (r_add rfl rfl ⟨by omega, by omega⟩) ?_
    refine wmv rfl rfl ?_
    refine wl_nil ?_
    obtain rfl := Option.some.inj hx
    replace hM := hM.t0
    have hM := hM.fewer (rsC (.tail _ (.head _)) rsN)
    replace hM : St ⟨w, X, S⟩ [] [rV s_o.v (cSl 3 fDPart o)] _ := hM
    exact lp_end (m101, k95 + 1, n93) (Nat.lt_succ_self _) ⟨rfl, rfl, rfl, rfl, rfl, trivial⟩ ⟨hM, hx103, hk96⟩
  ·
   replace hc100 := of_decide_eq_false hc100
   obtain rfl := eachN_end hx hk96 hc100
   refine wc_exit ?_
   refine sq_exit ?_
   refine lp1_exit ?_
   replace hx := hx92
   try dsimp only [Sum.elim_inl, Sum.elim_inr] at hx
   refine bk_here ?_
   refine sq_n ?_
   refine wc_sr ?_
   refine wmv rfl rfl ?_
   refine was rfl rfl ?_
   refine wl_sq ?_
   refine wc_ret ?_
   obtain rfl := Option.some.inj hx
   refine fin_ret [(.int .i64 n93)] ⟨rfl, trivial⟩ ?_
   replace hM := hM.t0
   have hM := hM.fewer rsN
   exact ⟨(), rfl, hM.gives⟩

noncomputable def x_impl_OpFrom (o : List DPart) : Option Int :=
  Option.bind (x_impl_sizeOf o 2) fun r3 => some r3
theorem ct_impl_OpFrom (w : World) (X S : Bs) (o : List DPart) (s_o : Sv) (hS : ∀ b, S b → b < w.heap.size ∧ ¬ X b) (a_o_0 : (cSl 3 fDPart o).rd S w s_o.v) (oL : Sep [] X w) {r : Int} (hx : x_impl_OpFrom o = some r) :
  Ret Tryd.prog 25 [s_o.v] w (fun u w' => ∃ _ : Unit, u = (.int .i64 r) ∧ Gives X S w [] [] w') := by
 unfold x_impl_OpFrom at hx
 refine enter Tryd.func25 rfl Tryd.ntmps25 (by kernel_rfl) rfl ?_
 have hM := St.enter oL hS
 have hM := hM.addE (r := rV s_o.v (cSl 3 fDPart o)) a_o_0
 refine wc_sr ?_
 refine was rfl rfl ?_
 refine wl_sq ?_
 refine wc_sr ?_
 refine wmv rfl rfl ?_
 obtain ⟨r10, h11, hx⟩ := bind_some' hx
 refine w_call rfl rfl (hM.callV fun X S oL hS hR hO => ct_impl_sizeOf _ X S o s_o (2 : Int) hS (hR _ (.head _)) oL h11) ?_
 rintro _ w12 ⟨rfl, hR13⟩
 have hM := hM.call hR13
 refine was rfl rfl ?_
 refine wl_sq ?_
 refine wc_ret ?_
 obtain rfl := Option.some.inj hx
 refine fin_ret [(.int .i64 r10)] ⟨rfl, trivial⟩ ?_
 replace hM := hM.t0
 have hM := hM.fewer rsN
 exact ⟨(), rfl, hM.gives⟩

noncomputable def x_impl_OpTo (o : List DPart) : Option Int :=
  Option.bind (x_impl_sizeOf o 3) fun r3 => some r3
theorem ct_impl_OpTo (w : World) (X S : Bs) (o : List DPart) (s_o : Sv) (hS : ∀ b, S b → b < w.heap.size ∧ ¬ X b) (a_o_0 : (cSl 3 fDPart o).rd S w s_o.v) (oL : Sep [] X w) {r : Int} (hx : x_impl_OpTo o = some r) :
  Ret Tryd.prog 13 [s_o.v] w (fun u w' => ∃ _ : Unit, u = (.int .i64 r) ∧ Gives X S w [] [] w') := by
 unfold x_impl_OpTo at hx
 refine enter Tryd.func13 rfl Tryd.ntmps13 (by kernel_rfl) rfl ?_
 have hM := St.enter oL hS
 have hM := hM.addE (r := rV s_o.v (cSl 3 fDPart o)) a_o_0
 refine wc_sr ?_
 refine was rfl rfl ?_
 refine wl_sq ?_
 refine wc_sr ?_
 refine wmv rfl rfl ?_
 obtain ⟨r10, h11, hx⟩ := bind_some' hx
 refine w_call rfl rfl (hM.callV fun X S oL hS hR hO => ct_impl_sizeOf _ X S o s_o (3 : Int) hS (hR _ (.head _)) oL h11) ?_
 rintro _ w12 ⟨rfl, hR13⟩
 have hM := hM.call hR13
 refine was rfl rfl ?_
 refine wl_sq ?_
 refine wc_ret ?_
 obtain rfl := Option.some.inj hx
 refine fin_ret [(.int .i64 r10)] ⟨rfl, trivial⟩ ?_
 replace hM := hM.t0
 have hM := hM.fewer rsN
 exact ⟨(), rfl, hM.gives⟩

noncomputable def x_impl_OpOk (o : List DPart) : Option Bool :=
  Option.bind (x_impl_partsOk o) fun r3 => Option.bind (bif r3 then (Option.bind (x_impl_OpFrom o) fun r17 => some (decide (r17 ≤ 200))) else (some false)) fun c8 => Option.bind (bif c8 then (Option.bind (x_impl_OpTo o) fun r32 => some (decide (r32 ≤ 200))) else (some false)) fun c23 => some c23
theorem ct_impl_OpOk (w : World) (X S : Bs) (o : List DPart) (s_o : Sv) (hS : ∀ b, S b → b < w.heap.size ∧ ¬ X b) (a_o_0 : (cSl 3 fDPart o).rd S w s_o.v) (oL : Sep [] X w) {r : Bool} (hx : x_impl_OpOk o = some r) :
  Ret Tryd.prog 24 [s_o.v] w (fun u w' => ∃ _ : Unit, u = (.bool r) ∧ Gives X S w [] [] w') := by
 unfold x_impl_OpOk at hx
 refine enter Tryd.func24 rfl Tryd.ntmps24 (by kernel_rfl) rfl ?_
 have hM := St.enter oL hS
 have hM := hM.addE (r := rV s_o.v (cSl 3 fDPart o)) a_o_0
 refine wc_sr ?_
 refine was rfl rfl ?_
 refine wl_sq ?_
 refine wc_sr ?_
 refine wmv rfl rfl ?_
 obtain ⟨r40, h41, hx⟩ := bind_some' hx
 refine w_call rfl rfl (hM.callV fun X S oL hS hR hO => ct_impl_partsOk _ X S o s_o hS (hR _ (.head _)) oL h41) ?_
 rintro _ w42 ⟨rfl, hR43⟩
 have hM := hM.call hR43
 refine wmv rfl rfl ?_
 obtain ⟨c45, hx, hx53⟩ := bind_some' hx
 refine wl_mid 4 (fun _ : Unit => [(9, (.bool c45)), (0, s_o.v)]) (fun _ w' => St ⟨w, X, S⟩ [] [rV s_o.v (cSl 3 fDPart o)] w') ?_ ?_
 ·
  rcases Bool.eq_false_or_eq_true r40 with hg46 | hg46
  ·
   replace hx := xif_t hg46 hx
   refine gv rfl hg46 rfl (r_move rfl) ?_
   obtain ⟨r55, h56, hx⟩ := bind_some' hx
   refine gc rfl hg46 rfl rfl (hM.callV fun X S oL hS hR hO => ct_impl_OpFrom _ X S o s_o hS (hR _ (.head _)) oL h56) ?_
   rintro _ w57 ⟨rfl, hR58⟩
   have hM := hM.call hR58
   refine gv rfl hg46 rfl (r_leq rfl rfl) ?_
   refine wv rfl (p_t rfl hg46 rfl) ?_
   obtain rfl := Option.some.inj hx
   exact mid_nil () ⟨rfl, rfl, trivial⟩ hM
  ·
   replace hx := xif_f hg46 hx
   refine gs rfl (isB_no hg46) rfl ?_
   refine gs rfl (isB_no hg46) rfl ?_
   refine gs rfl (isB_no hg46) rfl ?_
   refine wv rfl (p_f rfl hg46 rfl) ?_
   obtain rfl := Option.some.inj hx
   exact mid_nil () ⟨rfl, rfl, trivial⟩ hM
 rintro _ w60 hM
 replace hx := hx53
 refine wmv rfl rfl ?_
 obtain ⟨c62, hx, hx70⟩ := bind_some' hx
 refine wl_mid 4 (fun _ : Unit => [(14, (.bool c62))]) (fun _ w' => St ⟨w, X, S⟩ [] [rV s_o.v (cSl 3 fDPart o)] w') ?_ ?_
 ·
  rcases Bool.eq_false_or_eq_true c45 with hg63 | hg63
  ·
   replace hx := xif_t hg63 hx
   refine gv rfl hg63 rfl (r_move rfl) ?_
   obtain ⟨r72, h73, hx⟩ := bind_some' hx
   refine gc rfl hg63 rfl rfl (hM.callV fun X S oL hS hR hO => ct_impl_OpTo _ X S o s_o hS (hR _ (.head _)) oL h73) ?_
   rintro _ w74 ⟨rfl, hR75⟩
   have hM := hM.call hR75
   refine gv rfl hg63 rfl (r_leq rfl rfl) ?_
   refine wv rfl (p_t rfl hg63 rfl) ?_
   obtain rfl := Option.some.inj hx
   exact mid_nil () ⟨rfl, trivial⟩ hM
  ·
   replace hx := xif_f hg63 hx
   refine gs rfl (isB_no hg63) rfl ?_
   refine gs rfl (isB_no hg63) rfl ?_
   refine gs rfl (isB_no hg63) rfl ?_
   refine wv rfl (p_f rfl hg63 rfl) ?_
   obtain rfl := Option.some.inj hx
   exact mid_nil () ⟨rfl, trivial⟩ hM
 rintro _ w77 hM
 replace hx := hx70
 refine was rfl rfl ?_
 refine wl_sq ?_
 refine wc_ret ?_
 obtain rfl := Option.some.inj hx
 refine fin_ret [(.bool c62)] ⟨rfl, trivial⟩ ?_
 replace hM := hM.t0
 have hM := hM.fewer rsN
 exact ⟨(), rfl, hM.gives⟩

noncomputable def x_spec_l01In (n : Int) (lo : Int) (hi : Int) : Option Bool :=
  Option.bind (bif decide (lo ≤ n) then (some (decide (n ≤ hi))) else (some false)) fun c6 => some c6
theorem ct_spec_l01In (w : World) (X S : Bs) (n : Int) (lo : Int) (hi : Int) (hS : ∀ b, S b → b < w.heap.size ∧ ¬ X b)  (oL : Sep [] X w) {r : Bool} (hx : x_spec_l01In n lo hi = some r) :
  Ret Tryd.prog 30 [(.int .i64 n), (.int .i64 lo), (.int .i64 hi)] w (fun u w' => ∃ _ : Unit, u = (.bool r) ∧ Gives X S w [] [] w') := by
 unfold x_spec_l01In at hx
 refine enter Tryd.func30 rfl Tryd.ntmps30 (by kernel_rfl) rfl ?_
 have hM := St.enter oL hS
 refine wc_sr ?_
 refine was rfl rfl ?_
 refine wl_sq ?_
 refine wc_sr ?_
 refine wmv rfl rfl ?_
 refine wmv rfl rfl ?_
 refine wv rfl (r_geq rfl rfl) ?_
 refine wmv rfl rfl ?_
 obtain ⟨c20, hx, hx25⟩ := bind_some' hx
 refine wl_mid 4 (fun _ : Unit => [(14, (.bool c20))]) (fun _ w' => St ⟨w, X, S⟩ [] [] w') ?_ ?_
 ·
  rcases Bool.eq_false_or_eq_true (decide (lo ≤ n)) with hg21 | hg21
  ·
   replace hx := xif_t hg21 hx
   refine gv rfl hg21 rfl (r_move rfl) ?_
   refine gv rfl hg21 rfl (r_move rfl) ?_
   refine gv rfl hg21 rfl (r_leq rfl rfl) ?_
   refine wv rfl (p_t rfl hg21 rfl) ?_
   obtain rfl := Option.some.inj hx
   exact mid_nil () ⟨rfl, trivial⟩ hM
  ·
   replace hx := xif_f hg21 hx
   refine gs rfl (isB_no hg21) rfl ?_
   refine gs rfl (isB_no hg21) rfl ?_
   refine gs rfl (isB_no hg21) rfl ?_
   refine wv rfl (p_f rfl hg21 rfl) ?_
   obtain rfl := Option.some.inj hx
   exact mid_nil () ⟨rfl, trivial⟩ hM
 rintro _ w29 hM
 replace hx := hx25
 refine was rfl rfl ?_
 refine wl_sq ?_
 refine wc_ret ?_
 obtain rfl := Option.some.inj hx
 refine fin_ret [(.bool c20)] ⟨rfl, trivial⟩ ?_
 replace hM := hM.t0
 have hM := hM.fewer rsN
 exact ⟨(), rfl, hM.gives⟩

end Go.Proofs.YtdfjkipdmeomdaaDoor
