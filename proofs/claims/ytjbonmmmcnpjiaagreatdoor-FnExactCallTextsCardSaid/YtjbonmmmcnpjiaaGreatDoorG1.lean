/- Walks of functions of this program (printed by a program of ours, by the rules of the layer). No condition. -/
import Derived.Test.YtjbonmmmcnpjiaaGreatDoorTy3
import Derived.Test.YtjbonmmmcnpjiaaGreatDoorNw
namespace Go.Proofs.YtjbonmmmcnpjiaaGreatDoor
open Go.RowKit

noncomputable def x_impl_within (n : Int) (low : Int) (high : Int) : Option Bool :=
  Option.bind (bif decide (low ≤ n) then (some (decide (n ≤ high))) else (some false)) fun c6 => some c6
theorem ct_impl_within (w : World) (X S : Bs) (n : Int) (low : Int) (high : Int) (hS : SX X S w)  (oL : Sep [] X w) {r : Bool} (hx : x_impl_within n low high = some r) :
 Ret Tryz.prog 59 [(iv n), (iv low), (iv high)] w (KV X S w (bv r)) := by
 unfold x_impl_within at hx
 refine enter Tryz.func59 rfl Tryz.ntmps59 (by kernel_rfl) rfl ?_
 have hM := St.enter oL hS
 refine wc_sr <| was rfl rfl <| wl_sq <| wc_sr <| wmv rfl rfl <| wmv rfl rfl <| wv rfl (r_geq rfl rfl) <| wmv rfl rfl <| bs hx fun c20 hx hx25 => ?_
 refine wl_midH 4 [(14, (bv c20))] hM ?_ fun w26 hM => ?_
 refine cs2 hx (fun hg21 hx => ?_) (fun hg21 hx => ?_)
 refine gv rfl hg21 rfl (r_move rfl) <| gv rfl hg21 rfl (r_move rfl) <| gv rfl hg21 rfl (r_leq rfl rfl) <| wv rfl (p_t rfl hg21 rfl) ?_
 cases hx
 exact mid_h ⟨rfl, trivial⟩ hM
 refine gn hg21 rfl rfl <| gn hg21 rfl rfl <| gn hg21 rfl rfl <| wv rfl (p_f rfl hg21 rfl) ?_
 obtain rfl := oi hx
 exact mid_h ⟨rfl, trivial⟩ hM
 replace hx := hx25
 refine was rfl rfl <| wl_sq <| wc_ret ?_
 obtain rfl := oi hx
 exact fin_u [(bv c20)] hM ⟨rfl, trivial⟩ rfl

noncomputable def x_impl_SignOk (n : Int) : Option Bool :=
  Option.bind (x_impl_within n 0 1114111) fun r3 => Option.bind (bif r3 then (Option.bind (x_impl_within n 55296 57343) fun r15 => some (!r15)) else (some false)) fun c7 => some c7
theorem ct_impl_SignOk (w : World) (X S : Bs) (n : Int) (hS : SX X S w)  (oL : Sep [] X w) {r : Bool} (hx : x_impl_SignOk n = some r) :
 Ret Tryz.prog 169 [(iv n)] w (KV X S w (bv r)) := by
 unfold x_impl_SignOk at hx
 refine enter Tryz.func169 rfl Tryz.ntmps169 (by kernel_rfl) rfl ?_
 have hM := St.enter oL hS
 refine wc_sr <| was rfl rfl <| wl_sq <| wc_sr <| wmv rfl rfl <| bs hx fun _ h23 hx => w_cv hM rfl rfl (fun X S oL hS hR hO => ct_impl_within _ X S n (0 : Int) (1114111 : Int) hS  oL h23) fun _ hM => wmv rfl rfl <| bs hx fun c26 hx hx33 => ?_
 refine wl_midH 4 [(9, (bv c26))] hM ?_ fun w34 hM => ?_
 refine cs2 hx (fun hg27 hx => ?_) (fun hg27 hx => ?_)
 refine gv rfl hg27 rfl (r_move rfl) <| bs hx fun _ h37 hx => g_cv hM hg27 rfl rfl rfl (fun X S oL hS hR hO => ct_impl_within _ X S n (55296 : Int) (57343 : Int) hS  oL h37) fun _ hM => gv rfl hg27 rfl (r_not rfl) <| wv rfl (p_t rfl hg27 rfl) ?_
 cases hx
 exact mid_h ⟨rfl, trivial⟩ hM
 refine gn hg27 rfl rfl <| gn hg27 rfl rfl <| gn hg27 rfl rfl <| wv rfl (p_f rfl hg27 rfl) ?_
 obtain rfl := oi hx
 exact mid_h ⟨rfl, trivial⟩ hM
 replace hx := hx33
 refine was rfl rfl <| wl_sq <| wc_ret ?_
 obtain rfl := oi hx
 exact fin_u [(bv c26)] hM ⟨rfl, trivial⟩ rfl

noncomputable def x_impl_SignsOk_b0 (_l : List Int) (_k5 : Nat) (x32 : Int) : Option (Lr Unit (Sum Unit Unit)) :=
  Option.bind (x_impl_SignOk x32) fun r25 => bif !r25 then (some (Lr.out (Sum.inr (())))) else (some (Lr.go ()))
noncomputable def x_impl_SignsOk_f0 (l : List Int) (k5 : Nat) (_s33 : Unit) : Option (Lr Unit (Sum Unit Unit)) := x_impl_SignsOk_b0 l k5 (el l k5)
noncomputable def x_impl_SignsOk (l : List Int) : Option Bool :=
  Option.bind (eachN (x_impl_SignsOk_f0 l) (fun (_s33 : Unit) => (Sum.inl () : Sum Unit Unit)) l.length 0 ()) fun (y34 : Sum Unit Unit) => Sum.elim (fun _y35 => some true) (fun _y36 => some false) y34
theorem ct_impl_SignsOk (w : World) (X S : Bs) (l : List Int) (s_l : Sv) (hS : SX X S w) (a_l_0 : (cSl 1 fI l).rd S w s_l.v) (oL : Sep [] X w) {r : Bool} (hx : x_impl_SignsOk l = some r) :
 Ret Tryz.prog 131 [s_l.v] w (KV X S w (bv r)) := by
 unfold x_impl_SignsOk at hx
 refine enter Tryz.func131 rfl Tryz.ntmps131 (by kernel_rfl) rfl ?_
 have hM := (St.enter oL hS).addV a_l_0
 refine wc_sr <| was rfl rfl <| wl_sq <| wc_seq <| wc_sr <| wmv rfl rfl <| wv rfl (r_lenC u26 rfl (hM.seeR m0)) <| wmv rfl rfl <| wl_sq <| wc_block <| bs hx fun y42 hx hx43 => ?_
 have hl47 := Cs.le (hM.seeR m0)
 refine wc_loop (un fun (m44 : Nat) => fun (k45 : Nat) => [(5, s_l.v), (6, (iv (l.length : Int))), (7, (iv (k45 : Int)))]) (un fun (m44 : Nat) => fun (k45 : Nat) w' => St ⟨w, X, S⟩ [] [rV s_l.v (cSl 1 fI l)] w' ∧ eachN _ _ m44 k45 () = some y42 ∧ k45 + m44 = l.length) (fun p => p.1) (l.length, 0) ⟨rfl, rfl, rfl, trivial⟩ ⟨hM, hx, Nat.zero_add _⟩ ?_
 rintro ⟨m44, k45⟩ w48 ⟨hM, hx, hk46⟩
 refine wc_sr <| wv rfl (r_lss rfl rfl) <| wl_sq <| wc_seq ?_
 refine wc_cond rfl (fun hc50 => ?_) (fun hc50 => ?_)
 replace hc50 := of_decide_eq_true hc50
 obtain ⟨m51, z52, rfl, hk46, hx, hx53⟩ := eachN_step hx hk46 hc50
 unfold x_impl_SignsOk_f0 x_impl_SignsOk_b0 at hx
 try dsimp only at hx
 refine wc_skip <| sq_n <| wc_seq <| wc_block <| wc_sr ?_
 have hi55 : k45 < l.length := by omega
 refine wv rfl (r_ixC u26 sz3 rfl rfl (hM.seeR m0) ⟨by omega, hc50⟩) <| wv rfl (r_ld u3 rfl rfl (Cs.get (i := k45) (j := 0) (hM.seeR m0) (fun _ => rfl) hi55 rfl)) <| was rfl rfl <| wl_sq <| wc_sr <| wmv rfl rfl <| bs hx fun _ h60 hx => w_cv hM rfl rfl (fun X S oL hS hR hO => ct_impl_SignOk _ X S (el l k45) hS  oL h60) fun _ hM => wv rfl (r_not rfl) <| wl_sq ?_
 refine wcx hx rfl (fun hx => ?_) (fun hx => ?_)
 refine wc_sr <| was rfl rfl <| wl_sq <| wc_ret <| bk_ret <| sq_ret <| lp1_ret ?_
 cases hx
 obtain rfl := oi hx53
 replace hx := hx43
 refine bk_ret <| sq_ret ?_
 obtain rfl := oi hx
 exact fin_u [(bv false)] hM ⟨rfl, trivial⟩ rfl
 refine wc_skip <| bk_n <| sq_n <| wc_region <| wv rfl (r_add rfl rfl ⟨by omega, by omega⟩) <| wmv rfl rfl <| wl_nil ?_
 cases hx
 exact lp_end (m51, k45 + 1) (Nat.lt_succ_self _) ⟨rfl, rfl, rfl, trivial⟩ ⟨hM, hx53, hk46⟩
 replace hc50 := of_decide_eq_false hc50
 obtain rfl := eachN_end hx hk46 hc50
 refine wc_exit <| sq_exit <| lp1_exit ?_
 replace hx := hx43
 refine bk_here <| sq_n <| wc_sr <| was rfl rfl <| wl_sq <| wc_ret ?_
 obtain rfl := oi hx
 exact fin_u [(bv true)] hM ⟨rfl, trivial⟩ rfl

noncomputable def x_impl_TextOk (t : List Int) : Option Bool :=
  Option.bind (bif decide ((t.length : Int) ≤ 200) then (Option.bind (x_impl_SignsOk t) fun r13 => some r13) else (some false)) fun c6 => some c6
theorem ct_impl_TextOk (w : World) (X S : Bs) (t : List Int) (s_t : Sv) (hS : SX X S w) (a_t_0 : (cSl 1 fI t).rd S w s_t.v) (oL : Sep [] X w) {r : Bool} (hx : x_impl_TextOk t = some r) :
 Ret Tryz.prog 126 [s_t.v] w (KV X S w (bv r)) := by
 unfold x_impl_TextOk at hx
 refine enter Tryz.func126 rfl Tryz.ntmps126 (by kernel_rfl) rfl ?_
 have hM := (St.enter oL hS).addV a_t_0
 refine wc_sr <| was rfl rfl <| wl_sq <| wc_sr <| wmv rfl rfl <| wv rfl (r_lenC u26 rfl (hM.seeR m0)) <| wv rfl (r_leq rfl rfl) <| wmv rfl rfl <| bs hx fun c22 hx hx28 => ?_
 refine wl_midH 3 [(9, (bv c22))] hM ?_ fun w29 hM => ?_
 refine cs2 hx (fun hg23 hx => ?_) (fun hg23 hx => ?_)
 refine gv rfl hg23 rfl (r_move rfl) <| bs hx fun _ h32 hx => g_cv hM hg23 rfl rfl rfl (fun X S oL hS hR hO => ct_impl_SignsOk _ X S t s_t hS (hR _ m0) oL h32) fun _ hM => wv rfl (p_t rfl hg23 rfl) ?_
 obtain rfl := oi hx
 exact mid_h ⟨rfl, trivial⟩ hM
 refine gn hg23 rfl rfl <| gn hg23 rfl rfl <| wv rfl (p_f rfl hg23 rfl) ?_
 obtain rfl := oi hx
 exact mid_h ⟨rfl, trivial⟩ hM
 replace hx := hx28
 refine was rfl rfl <| wl_sq <| wc_ret ?_
 obtain rfl := oi hx
 exact fin_u [(bv c22)] hM ⟨rfl, trivial⟩ rfl

noncomputable def x_impl_PartOk (p : DPart) : Option Bool :=
  bif decide (p.kind = 1) then (bif decide (p.kind = 1) then (Option.bind (x_impl_within p.n 0 200) fun r12 => Option.bind (bif r12 then (some (decide ((p.signs.length : Int) = 0))) else (some false)) fun c16 => some c16) else (bif decide (p.kind = 2) then (Option.bind (bif decide (p.n = 0) then (some (decide ((p.signs.length : Int) ≤ 200))) else (some false)) fun c33 => Option.bind (bif c33 then (Option.bind (x_impl_SignsOk p.signs) fun r53 => some r53) else (some false)) fun c44 => some c44) else (some false))) else (bif decide (p.kind = 3) then (Option.bind (x_impl_within p.n 0 200) fun r62 => Option.bind (bif r62 then (some (decide ((p.signs.length : Int) = 0))) else (some false)) fun c66 => some c66) else (bif decide (p.kind = 2) then (Option.bind (bif decide (p.n = 0) then (some (decide ((p.signs.length : Int) ≤ 200))) else (some false)) fun c83 => Option.bind (bif c83 then (Option.bind (x_impl_SignsOk p.signs) fun r103 => some r103) else (some false)) fun c94 => some c94) else (some false)))
theorem ct_impl_PartOk (w : World) (X S : Bs) (p : DPart) (s_p_2 : Sv) (hS : SX X S w) (a_p_2 : (cSl 1 fI p.signs).rd S w s_p_2.v) (oL : Sep [] X w) {r : Bool} (hx : x_impl_PartOk p = some r) :
 Ret Tryz.prog 166 [(.agg #[(iv p.kind), (iv p.n), s_p_2.v])] w (KV X S w (bv r)) := by
 unfold x_impl_PartOk at hx
 refine enter Tryz.func166 rfl Tryz.ntmps166 (by kernel_rfl) rfl ?_
 have hM := (St.enter oL hS).addV a_p_2
 refine wc_sr ?_
 refine w_ex rfl (x_box rfl hM ?_); intro b109 w108 hR110 hM
 refine was rfl rfl <| wl_sq <| wc_seq <| wc_sr <| wv rfl (r_fld u156 rfl rfl sz3 rfl) <| wv rfl (r_ldB u3 rfl rfl hM m0 rfl) <| wl_sq <| wc_block <| wc_seq <| wc_sr <| wv rfl (r_eql rfl rfl) <| was rfl rfl <| wl_sq ?_
 refine wcx hx rfl (fun hx => ?_) (fun hx => ?_)
 refine wc_skip <| sq_n ?_
 refine wcx hx rfl (fun hx => ?_) (fun hx => ?_)
 refine wc_sr <| wv rfl (r_fld u156 rfl rfl sz3 rfl) <| wv rfl (r_ldB u3 rfl rfl hM m0 rfl) <| bs hx fun _ h122 hx => w_cv hM rfl rfl (fun X S oL hS hR hO => ct_impl_within _ X S p.n (0 : Int) (200 : Int) hS  oL h122) fun _ hM => wmv rfl rfl <| bs hx fun c125 hx hx131 => ?_
 refine wl_midH 5 [(16, (bv c125))] hM ?_ fun w132 hM => ?_
 refine cs2 hx (fun hg126 hx => ?_) (fun hg126 hx => ?_)
 refine gv rfl hg126 rfl (r_fld u156 rfl rfl sz26 rfl) <| gv rfl hg126 rfl (r_ldB u26 rfl rfl hM m0 rfl) <| gv rfl hg126 rfl (r_lenC u26 rfl (hM.seeR m0)) <| gv rfl hg126 rfl (r_eql rfl rfl) <| wv rfl (p_t rfl hg126 rfl) ?_
 cases hx
 exact mid_h ⟨rfl, trivial⟩ hM
 refine gn hg126 rfl rfl <| gn hg126 rfl rfl <| gn hg126 rfl rfl <| gn hg126 rfl rfl <| wv rfl (p_f rfl hg126 rfl) ?_
 obtain rfl := oi hx
 exact mid_h ⟨rfl, trivial⟩ hM
 replace hx := hx131
 refine was rfl rfl <| wl_sq <| wc_ret <| bk_ret <| sq_ret ?_
 obtain rfl := oi hx
 exact fin_u [(bv c125)] hM ⟨rfl, trivial⟩ rfl
 refine wc_sr <| wv rfl (r_eql rfl rfl) <| was rfl rfl <| wl_sq ?_
 refine wcx hx rfl (fun hx => ?_) (fun hx => ?_)
 refine wc_sr <| wv rfl (r_fld u156 rfl rfl sz3 rfl) <| wv rfl (r_ldB u3 rfl rfl hM m0 rfl) <| wv rfl (r_eql rfl rfl) <| wmv rfl rfl <| bs hx fun c145 hx hx151 => ?_
 refine wl_midH 5 [(27, (bv c145)), (1, (pt b109 0))] hM ?_ fun w152 hM => ?_
 refine cs2 hx (fun hg146 hx => ?_) (fun hg146 hx => ?_)
 refine gv rfl hg146 rfl (r_fld u156 rfl rfl sz26 rfl) <| gv rfl hg146 rfl (r_ldB u26 rfl rfl hM m0 rfl) <| gv rfl hg146 rfl (r_lenC u26 rfl (hM.seeR m0)) <| gv rfl hg146 rfl (r_leq rfl rfl) <| wv rfl (p_t rfl hg146 rfl) ?_
 cases hx
 exact mid_h ⟨rfl, rfl, trivial⟩ hM
 refine gn hg146 rfl rfl <| gn hg146 rfl rfl <| gn hg146 rfl rfl <| gn hg146 rfl rfl <| wv rfl (p_f rfl hg146 rfl) ?_
 obtain rfl := oi hx
 exact mid_h ⟨rfl, rfl, trivial⟩ hM
 replace hx := hx151
 refine wmv rfl rfl <| bs hx fun c158 hx hx165 => ?_
 refine wl_midH 4 [(32, (bv c158))] hM ?_ fun w166 hM => ?_
 refine cs2 hx (fun hg159 hx => ?_) (fun hg159 hx => ?_)
 refine gv rfl hg159 rfl (r_fld u156 rfl rfl sz26 rfl) <| gv rfl hg159 rfl (r_ldB u26 rfl rfl hM m0 rfl) <| bs hx fun _ h170 hx => g_cv hM hg159 rfl rfl rfl (fun X S oL hS hR hO => ct_impl_SignsOk _ X S p.signs s_p_2 hS (hR _ m0) oL h170) fun _ hM => wv rfl (p_t rfl hg159 rfl) ?_
 obtain rfl := oi hx
 exact mid_h ⟨rfl, trivial⟩ hM
 refine gn hg159 rfl rfl <| gn hg159 rfl rfl <| gn hg159 rfl rfl <| wv rfl (p_f rfl hg159 rfl) ?_
 obtain rfl := oi hx
 exact mid_h ⟨rfl, trivial⟩ hM
 replace hx := hx165
 refine was rfl rfl <| wl_sq <| wc_ret <| bk_ret <| sq_ret ?_
 obtain rfl := oi hx
 exact fin_u [(bv c158)] hM ⟨rfl, trivial⟩ rfl
 refine wc_skip <| bk_n <| sq_n <| wc_sr <| was rfl rfl <| wl_sq <| wc_ret ?_
 obtain rfl := oi hx
 exact fin_u [(bv false)] hM ⟨rfl, trivial⟩ rfl
 refine wc_region <| wv rfl (r_eql rfl rfl) <| was rfl rfl <| wl_sq ?_
 refine wcx hx rfl (fun hx => ?_) (fun hx => ?_)
 refine wc_sr <| wv rfl (r_fld u156 rfl rfl sz3 rfl) <| wv rfl (r_ldB u3 rfl rfl hM m0 rfl) <| bs hx fun _ h180 hx => w_cv hM rfl rfl (fun X S oL hS hR hO => ct_impl_within _ X S p.n (0 : Int) (200 : Int) hS  oL h180) fun _ hM => wmv rfl rfl <| bs hx fun c183 hx hx189 => ?_
 refine wl_midH 5 [(16, (bv c183))] hM ?_ fun w190 hM => ?_
 refine cs2 hx (fun hg184 hx => ?_) (fun hg184 hx => ?_)
 refine gv rfl hg184 rfl (r_fld u156 rfl rfl sz26 rfl) <| gv rfl hg184 rfl (r_ldB u26 rfl rfl hM m0 rfl) <| gv rfl hg184 rfl (r_lenC u26 rfl (hM.seeR m0)) <| gv rfl hg184 rfl (r_eql rfl rfl) <| wv rfl (p_t rfl hg184 rfl) ?_
 cases hx
 exact mid_h ⟨rfl, trivial⟩ hM
 refine gn hg184 rfl rfl <| gn hg184 rfl rfl <| gn hg184 rfl rfl <| gn hg184 rfl rfl <| wv rfl (p_f rfl hg184 rfl) ?_
 obtain rfl := oi hx
 exact mid_h ⟨rfl, trivial⟩ hM
 replace hx := hx189
 refine was rfl rfl <| wl_sq <| wc_ret <| bk_ret <| sq_ret ?_
 obtain rfl := oi hx
 exact fin_u [(bv c183)] hM ⟨rfl, trivial⟩ rfl
 refine wc_sr <| wv rfl (r_eql rfl rfl) <| was rfl rfl <| wl_sq ?_
 refine wcx hx rfl (fun hx => ?_) (fun hx => ?_)
 refine wc_sr <| wv rfl (r_fld u156 rfl rfl sz3 rfl) <| wv rfl (r_ldB u3 rfl rfl hM m0 rfl) <| wv rfl (r_eql rfl rfl) <| wmv rfl rfl <| bs hx fun c203 hx hx209 => ?_
 refine wl_midH 5 [(27, (bv c203)), (1, (pt b109 0))] hM ?_ fun w210 hM => ?_
 refine cs2 hx (fun hg204 hx => ?_) (fun hg204 hx => ?_)
 refine gv rfl hg204 rfl (r_fld u156 rfl rfl sz26 rfl) <| gv rfl hg204 rfl (r_ldB u26 rfl rfl hM m0 rfl) <| gv rfl hg204 rfl (r_lenC u26 rfl (hM.seeR m0)) <| gv rfl hg204 rfl (r_leq rfl rfl) <| wv rfl (p_t rfl hg204 rfl) ?_
 cases hx
 exact mid_h ⟨rfl, rfl, trivial⟩ hM
 refine gn hg204 rfl rfl <| gn hg204 rfl rfl <| gn hg204 rfl rfl <| gn hg204 rfl rfl <| wv rfl (p_f rfl hg204 rfl) ?_
 obtain rfl := oi hx
 exact mid_h ⟨rfl, rfl, trivial⟩ hM
 replace hx := hx209
 refine wmv rfl rfl <| bs hx fun c216 hx hx223 => ?_
 refine wl_midH 4 [(32, (bv c216))] hM ?_ fun w224 hM => ?_
 refine cs2 hx (fun hg217 hx => ?_) (fun hg217 hx => ?_)
 refine gv rfl hg217 rfl (r_fld u156 rfl rfl sz26 rfl) <| gv rfl hg217 rfl (r_ldB u26 rfl rfl hM m0 rfl) <| bs hx fun _ h228 hx => g_cv hM hg217 rfl rfl rfl (fun X S oL hS hR hO => ct_impl_SignsOk _ X S p.signs s_p_2 hS (hR _ m0) oL h228) fun _ hM => wv rfl (p_t rfl hg217 rfl) ?_
 obtain rfl := oi hx
 exact mid_h ⟨rfl, trivial⟩ hM
 refine gn hg217 rfl rfl <| gn hg217 rfl rfl <| gn hg217 rfl rfl <| wv rfl (p_f rfl hg217 rfl) ?_
 obtain rfl := oi hx
 exact mid_h ⟨rfl, trivial⟩ hM
 replace hx := hx223
 refine was rfl rfl <| wl_sq <| wc_ret <| bk_ret <| sq_ret ?_
 obtain rfl := oi hx
 exact fin_u [(bv c216)] hM ⟨rfl, trivial⟩ rfl
 refine wc_skip <| bk_n <| sq_n <| wc_sr <| was rfl rfl <| wl_sq <| wc_ret ?_
 obtain rfl := oi hx
 exact fin_u [(bv false)] hM ⟨rfl, trivial⟩ rfl

noncomputable def x_impl_partsOk_b0 (_o : List DPart) (_k5 : Nat) (x46 : DPart) : Option (Lr Unit (Sum Unit Unit)) :=
  Option.bind (x_impl_PartOk x46) fun r39 => bif !r39 then (some (Lr.out (Sum.inr (())))) else (some (Lr.go ()))
noncomputable def x_impl_partsOk_f0 (o : List DPart) (k5 : Nat) (_s47 : Unit) : Option (Lr Unit (Sum Unit Unit)) := x_impl_partsOk_b0 o k5 (el o k5)
noncomputable def x_impl_partsOk (o : List DPart) : Option Bool :=
  Option.bind (eachN (x_impl_partsOk_f0 o) (fun (_s47 : Unit) => (Sum.inl () : Sum Unit Unit)) o.length 0 ()) fun (y48 : Sum Unit Unit) => Sum.elim (fun _y49 => some (decide ((o.length : Int) ≤ 600))) (fun _y50 => some false) y48
theorem ct_impl_partsOk (w : World) (X S : Bs) (o : List DPart) (s_o : Sv) (hS : SX X S w) (a_o_0 : (cSl 3 fDPart o).rd S w s_o.v) (oL : Sep [] X w) {r : Bool} (hx : x_impl_partsOk o = some r) :
 Ret Tryz.prog 125 [s_o.v] w (KV X S w (bv r)) := by
 unfold x_impl_partsOk at hx
 refine enter Tryz.func125 rfl Tryz.ntmps125 (by kernel_rfl) rfl ?_
 have hM := (St.enter oL hS).addV a_o_0
 refine wc_sr <| was rfl rfl <| wl_sq <| wc_seq <| wc_sr <| wmv rfl rfl <| wv rfl (r_lenC u57 rfl (hM.seeR m0)) <| wmv rfl rfl <| wl_sq <| wc_block <| bs hx fun y59 hx hx60 => ?_
 have hl64 := Cs.le (hM.seeR m0)
 refine wc_loop (un fun (m61 : Nat) => fun (k62 : Nat) => [(0, s_o.v), (5, s_o.v), (6, (iv (o.length : Int))), (7, (iv (k62 : Int)))]) (un fun (m61 : Nat) => fun (k62 : Nat) w' => St ⟨w, X, S⟩ [] [rV s_o.v (cSl 3 fDPart o)] w' ∧ eachN _ _ m61 k62 () = some y59 ∧ k62 + m61 = o.length) (fun p => p.1) (o.length, 0) ⟨rfl, rfl, rfl, rfl, trivial⟩ ⟨hM, hx, Nat.zero_add _⟩ ?_
 rintro ⟨m61, k62⟩ w65 ⟨hM, hx, hk63⟩
 refine wc_sr <| wv rfl (r_lss rfl rfl) <| wl_sq <| wc_seq ?_
 refine wc_cond rfl (fun hc67 => ?_) (fun hc67 => ?_)
 replace hc67 := of_decide_eq_true hc67
 obtain ⟨m68, z69, rfl, hk63, hx, hx70⟩ := eachN_step hx hk63 hc67
 unfold x_impl_partsOk_f0 x_impl_partsOk_b0 at hx
 try dsimp only at hx
 refine wc_skip <| sq_n <| wc_seq <| wc_block <| wc_sr ?_
 have hi72 : k62 < o.length := by omega
 refine wv rfl (r_ixC u57 sz156 rfl rfl (hM.seeR m0) ⟨by omega, hc67⟩) ?_
 obtain ⟨s74, hM, hc75⟩ := hM.leaf (i := k62) (j := 2) m0 (fun _ => rfl) hi72 rfl
 refine wv rfl (r_ldC (o := k62 * 3) u156 sz156 rfl (us := [(iv ((el o k62).kind)), (iv ((el o k62).n)), s74.v]) rfl (hM.seeR m1) hi72 ⟨(Cs.get (i := k62) (j := 0) (hM.seeR m1) (fun _ => rfl) hi72 rfl), (Cs.get (i := k62) (j := 1) (hM.seeR m1) (fun _ => rfl) hi72 rfl), (hc75 _ (Rel.refl _)), trivial⟩) ?_
 refine w_ex rfl (x_alloc sz156 hM ?_); intro b77 w76 hR78 hM
 refine w_exu (x_stB #[(iv ((el o k62).kind)), (iv ((el o k62).n)), s74.v] sz156 rfl rfl rfl rfl rfl rfl hM ?_); intro w80 hM
 refine wl_sq <| wc_sr <| wv rfl (r_ldBS u156 sz156 rfl (us := [(iv ((el o k62).kind)), (iv ((el o k62).n)), s74.v]) rfl hM m0 rfl) <| bs hx fun _ h84 hx => w_cv hM rfl rfl (fun X S oL hS hR hO => ct_impl_PartOk _ X S (el o k62) s74 hS (hR _ m0) oL h84) fun _ hM => wv rfl (r_not rfl) <| wl_sq ?_
 refine wcx hx rfl (fun hx => ?_) (fun hx => ?_)
 refine wc_sr <| was rfl rfl <| wl_sq <| wc_ret <| bk_ret <| sq_ret <| lp1_ret ?_
 cases hx
 obtain rfl := oi hx70
 replace hx := hx60
 refine bk_ret <| sq_ret ?_
 obtain rfl := oi hx
 exact fin_u [(bv false)] hM ⟨rfl, trivial⟩ rfl
 refine wc_skip <| bk_n <| sq_n <| wc_region <| wv rfl (r_add rfl rfl ⟨by omega, by omega⟩) <| wmv rfl rfl <| wl_nil ?_
 cases hx
 replace hM := hM.t0
 have hM := hM.fewer (rsC m1 rsN)
 replace hM : St ⟨w, X, S⟩ [] [rV s_o.v (cSl 3 fDPart o)] _ := hM
 exact lp_end (m68, k62 + 1) (Nat.lt_succ_self _) ⟨rfl, rfl, rfl, rfl, trivial⟩ ⟨hM, hx70, hk63⟩
 replace hc67 := of_decide_eq_false hc67
 obtain rfl := eachN_end hx hk63 hc67
 refine wc_exit <| sq_exit <| lp1_exit ?_
 replace hx := hx60
 refine bk_here <| sq_n <| wc_sr <| wmv rfl rfl <| wv rfl (r_lenC u57 rfl (hM.seeR m0)) <| wv rfl (r_leq rfl rfl) <| was rfl rfl <| wl_sq <| wc_ret ?_
 obtain rfl := oi hx
 exact fin_u [(bv (decide ((o.length : Int) ≤ 600)))] hM ⟨rfl, trivial⟩ rfl

noncomputable def x_impl_size (p : DPart) : Option Int :=
  xg (inI (p.n + (p.signs.length : Int))) <| some (p.n + (p.signs.length : Int))
theorem ct_impl_size (w : World) (X S : Bs) (p : DPart) (s_p_2 : Sv) (hS : SX X S w) (a_p_2 : (cSl 1 fI p.signs).rd S w s_p_2.v) (oL : Sep [] X w) {r : Int} (hx : x_impl_size p = some r) :
 Ret Tryz.prog 198 [(.agg #[(iv p.kind), (iv p.n), s_p_2.v])] w (KV X S w (iv r)) := by
 unfold x_impl_size at hx
 refine enter Tryz.func198 rfl Tryz.ntmps198 (by kernel_rfl) rfl ?_
 have hM := (St.enter oL hS).addV a_p_2
 refine wc_sr ?_
 refine w_ex rfl (x_box rfl hM ?_); intro b15 w14 hR16 hM
 refine was rfl rfl <| wl_sq <| wc_sr <| wv rfl (r_fld u156 rfl rfl sz3 rfl) <| wv rfl (r_ldB u3 rfl rfl hM m0 rfl) <| wv rfl (r_fld u156 rfl rfl sz26 rfl) <| wv rfl (r_ldB u26 rfl rfl hM m0 rfl) <| wv rfl (r_lenC u26 rfl (hM.seeR m0)) <| xgs hx fun hg25 hx => wv rfl (r_add rfl rfl hg25) <| was rfl rfl <| wl_sq <| wc_ret ?_
 obtain rfl := oi hx
 exact fin_u [(iv (p.n + (p.signs.length : Int)))] hM ⟨rfl, trivial⟩ rfl

noncomputable def x_impl_sizeOf_b0 (but : Int) (_o : List DPart) (_k12 : Nat) (x70 : DPart) (n13 : Int) : Option (Lr Int Int) :=
  bif !decide ((x70.kind) = but) then (Option.bind (x_impl_size x70) fun r60 => xg (inI (n13 + r60)) <| some (Lr.go (n13 + r60))) else (some (Lr.go n13))
noncomputable def x_impl_sizeOf_f0 (but : Int) (o : List DPart) (k12 : Nat) (s71 : Int) : Option (Lr Int Int) := x_impl_sizeOf_b0 but o k12 (el o k12) s71
noncomputable def x_impl_sizeOf (o : List DPart) (but : Int) : Option Int :=
  Option.bind (x_impl_partsOk o) fun r3 => bif !r3 then (some 0) else (Option.bind (eachN (x_impl_sizeOf_f0 but o) (fun (s71 : Int) => (s71 : Int)) o.length 0 0) fun (y72 : Int) => some y72)
theorem ct_impl_sizeOf (w : World) (X S : Bs) (o : List DPart) (s_o : Sv) (but : Int) (hS : SX X S w) (a_o_0 : (cSl 3 fDPart o).rd S w s_o.v) (oL : Sep [] X w) {r : Int} (hx : x_impl_sizeOf o but = some r) :
 Ret Tryz.prog 168 [s_o.v, (iv but)] w (KV X S w (iv r)) := by
 unfold x_impl_sizeOf at hx
 refine enter Tryz.func168 rfl Tryz.ntmps168 (by kernel_rfl) rfl ?_
 have hM := (St.enter oL hS).addV a_o_0
 refine wc_sr <| was rfl rfl <| wl_sq <| wc_seq <| wc_sr <| wmv rfl rfl <| bs hx fun _ h78 hx => w_cv hM rfl rfl (fun X S oL hS hR hO => ct_impl_partsOk _ X S o s_o hS (hR _ m0) oL h78) fun _ hM => wv rfl (r_not rfl) <| wl_sq ?_
 refine wcx hx rfl (fun hx => ?_) (fun hx => ?_)
 refine wc_sr <| was rfl rfl <| wl_sq <| wc_ret <| sq_ret ?_
 obtain rfl := oi hx
 exact fin_u [(iv 0)] hM ⟨rfl, trivial⟩ rfl
 refine wc_skip <| sq_n <| wc_sr <| was rfl rfl <| wl_sq <| wc_seq <| wc_sr <| wmv rfl rfl <| wv rfl (r_lenC u57 rfl (hM.seeR m0)) <| wmv rfl rfl <| wl_sq <| wc_block <| bs hx fun y87 hx hx88 => ?_
 have hl93 := Cs.le (hM.seeR m0)
 refine wc_loop (un fun (m90 : Nat) => un fun (k91 : Nat) => fun (n89 : Int) => [(1, (iv but)), (5, (iv n89)), (11, s_o.v), (12, (iv (o.length : Int))), (13, (iv (k91 : Int)))]) (un fun (m90 : Nat) => un fun (k91 : Nat) => fun (n89 : Int) w' => St ⟨w, X, S⟩ [] [rV s_o.v (cSl 3 fDPart o)] w' ∧ eachN _ _ m90 k91 n89 = some y87 ∧ k91 + m90 = o.length) (fun p => p.1) (o.length, 0, 0) ⟨rfl, rfl, rfl, rfl, rfl, trivial⟩ ⟨hM, hx, Nat.zero_add _⟩ ?_
 rintro ⟨m90, k91, n89⟩ w94 ⟨hM, hx, hk92⟩
 refine wc_sr <| wv rfl (r_lss rfl rfl) <| wl_sq <| wc_seq ?_
 refine wc_cond rfl (fun hc96 => ?_) (fun hc96 => ?_)
 replace hc96 := of_decide_eq_true hc96
 obtain ⟨m97, z98, rfl, hk92, hx, hx99⟩ := eachN_step hx hk92 hc96
 unfold x_impl_sizeOf_f0 x_impl_sizeOf_b0 at hx
 try dsimp only at hx
 refine wc_skip <| sq_n <| wc_seq <| wc_block <| wc_sr ?_
 have hi101 : k91 < o.length := by omega
 refine wv rfl (r_ixC u57 sz156 rfl rfl (hM.seeR m0) ⟨by omega, hc96⟩) ?_
 obtain ⟨s103, hM, hc104⟩ := hM.leaf (i := k91) (j := 2) m0 (fun _ => rfl) hi101 rfl
 refine wv rfl (r_ldC (o := k91 * 3) u156 sz156 rfl (us := [(iv ((el o k91).kind)), (iv ((el o k91).n)), s103.v]) rfl (hM.seeR m1) hi101 ⟨(Cs.get (i := k91) (j := 0) (hM.seeR m1) (fun _ => rfl) hi101 rfl), (Cs.get (i := k91) (j := 1) (hM.seeR m1) (fun _ => rfl) hi101 rfl), (hc104 _ (Rel.refl _)), trivial⟩) ?_
 refine w_ex rfl (x_alloc sz156 hM ?_); intro b106 w105 hR107 hM
 refine w_exu (x_stB #[(iv ((el o k91).kind)), (iv ((el o k91).n)), s103.v] sz156 rfl rfl rfl rfl rfl rfl hM ?_); intro w109 hM
 refine wl_sq <| wc_sr <| wv rfl (r_fld u156 rfl rfl sz3 rfl) <| wv rfl (r_ldB u3 rfl rfl hM m0 rfl) <| wmv rfl rfl <| wv rfl (r_neq rfl rfl) <| wl_sq ?_
 refine wcx hx rfl (fun hx => ?_) (fun hx => ?_)
 refine wc_region <| wmv rfl rfl <| wv rfl (r_ldBS u156 sz156 rfl (us := [(iv ((el o k91).kind)), (iv ((el o k91).n)), s103.v]) rfl hM m0 rfl) <| bs hx fun r118 h119 hx => w_cv hM rfl rfl (fun X S oL hS hR hO => ct_impl_size _ X S (el o k91) s103 hS (hR _ m0) oL h119) fun _ hM => xgs hx fun hg122 hx => wv rfl (r_add rfl rfl hg122) <| was rfl rfl <| wl_nil <| bk_n <| sq_n <| wc_region <| wv rfl (r_add rfl rfl ⟨by omega, by omega⟩) <| wmv rfl rfl ?_
 refine wl_nil ?_
 cases hx
 replace hM := hM.t0
 have hM := hM.fewer (rsC m1 rsN)
 replace hM : St ⟨w, X, S⟩ [] [rV s_o.v (cSl 3 fDPart o)] _ := hM
 exact lp_end (m97, k91 + 1, n89 + r118) (Nat.lt_succ_self _) ⟨rfl, rfl, rfl, rfl, rfl, trivial⟩ ⟨hM, hx99, hk92⟩
 refine wc_skip <| bk_n <| sq_n <| wc_region <| wv rfl (r_add rfl rfl ⟨by omega, by omega⟩) <| wmv rfl rfl <| wl_nil ?_
 obtain rfl := oi hx
 replace hM := hM.t0
 have hM := hM.fewer (rsC m1 rsN)
 replace hM : St ⟨w, X, S⟩ [] [rV s_o.v (cSl 3 fDPart o)] _ := hM
 exact lp_end (m97, k91 + 1, n89) (Nat.lt_succ_self _) ⟨rfl, rfl, rfl, rfl, rfl, trivial⟩ ⟨hM, hx99, hk92⟩
 replace hc96 := of_decide_eq_false hc96
 obtain rfl := eachN_end hx hk92 hc96
 refine wc_exit <| sq_exit <| lp1_exit ?_
 replace hx := hx88
 refine bk_here <| sq_n <| wc_sr <| wmv rfl rfl <| was rfl rfl <| wl_sq <| wc_ret ?_
 obtain rfl := oi hx
 exact fin_u [(iv n89)] hM ⟨rfl, trivial⟩ rfl

noncomputable def x_impl_OpFrom (o : List DPart) : Option Int :=
  Option.bind (x_impl_sizeOf o 2) fun r3 => some r3
theorem ct_impl_OpFrom (w : World) (X S : Bs) (o : List DPart) (s_o : Sv) (hS : SX X S w) (a_o_0 : (cSl 3 fDPart o).rd S w s_o.v) (oL : Sep [] X w) {r : Int} (hx : x_impl_OpFrom o = some r) :
 Ret Tryz.prog 129 [s_o.v] w (KV X S w (iv r)) := by
 unfold x_impl_OpFrom at hx
 refine enter Tryz.func129 rfl Tryz.ntmps129 (by kernel_rfl) rfl ?_
 have hM := (St.enter oL hS).addV a_o_0
 refine wc_sr <| was rfl rfl <| wl_sq <| wc_sr <| wmv rfl rfl <| bs hx fun r9 h10 hx => w_cv hM rfl rfl (fun X S oL hS hR hO => ct_impl_sizeOf _ X S o s_o (2 : Int) hS (hR _ m0) oL h10) fun _ hM => was rfl rfl <| wl_sq <| wc_ret ?_
 obtain rfl := oi hx
 exact fin_u [(iv r9)] hM ⟨rfl, trivial⟩ rfl

noncomputable def x_impl_OpTo (o : List DPart) : Option Int :=
  Option.bind (x_impl_sizeOf o 3) fun r3 => some r3
theorem ct_impl_OpTo (w : World) (X S : Bs) (o : List DPart) (s_o : Sv) (hS : SX X S w) (a_o_0 : (cSl 3 fDPart o).rd S w s_o.v) (oL : Sep [] X w) {r : Int} (hx : x_impl_OpTo o = some r) :
 Ret Tryz.prog 130 [s_o.v] w (KV X S w (iv r)) := by
 unfold x_impl_OpTo at hx
 refine enter Tryz.func130 rfl Tryz.ntmps130 (by kernel_rfl) rfl ?_
 have hM := (St.enter oL hS).addV a_o_0
 refine wc_sr <| was rfl rfl <| wl_sq <| wc_sr <| wmv rfl rfl <| bs hx fun r9 h10 hx => w_cv hM rfl rfl (fun X S oL hS hR hO => ct_impl_sizeOf _ X S o s_o (3 : Int) hS (hR _ m0) oL h10) fun _ hM => was rfl rfl <| wl_sq <| wc_ret ?_
 obtain rfl := oi hx
 exact fin_u [(iv r9)] hM ⟨rfl, trivial⟩ rfl

noncomputable def x_impl_OpOk (o : List DPart) : Option Bool :=
  Option.bind (x_impl_partsOk o) fun r3 => Option.bind (bif r3 then (Option.bind (x_impl_OpFrom o) fun r15 => some (decide (r15 ≤ 200))) else (some false)) fun c7 => Option.bind (bif c7 then (Option.bind (x_impl_OpTo o) fun r28 => some (decide (r28 ≤ 200))) else (some false)) fun c20 => some c20
theorem ct_impl_OpOk (w : World) (X S : Bs) (o : List DPart) (s_o : Sv) (hS : SX X S w) (a_o_0 : (cSl 3 fDPart o).rd S w s_o.v) (oL : Sep [] X w) {r : Bool} (hx : x_impl_OpOk o = some r) :
 Ret Tryz.prog 82 [s_o.v] w (KV X S w (bv r)) := by
 unfold x_impl_OpOk at hx
 refine enter Tryz.func82 rfl Tryz.ntmps82 (by kernel_rfl) rfl ?_
 have hM := (St.enter oL hS).addV a_o_0
 refine wc_sr <| was rfl rfl <| wl_sq <| wc_sr <| wmv rfl rfl <| bs hx fun _ h36 hx => w_cv hM rfl rfl (fun X S oL hS hR hO => ct_impl_partsOk _ X S o s_o hS (hR _ m0) oL h36) fun _ hM => wmv rfl rfl <| bs hx fun c39 hx hx46 => ?_
 refine wl_midH 4 [(9, (bv c39)), (0, s_o.v)] hM ?_ fun w47 hM => ?_
 refine cs2 hx (fun hg40 hx => ?_) (fun hg40 hx => ?_)
 refine gv rfl hg40 rfl (r_move rfl) <| bs hx fun _ h50 hx => g_cv hM hg40 rfl rfl rfl (fun X S oL hS hR hO => ct_impl_OpFrom _ X S o s_o hS (hR _ m0) oL h50) fun _ hM => gv rfl hg40 rfl (r_leq rfl rfl) <| wv rfl (p_t rfl hg40 rfl) ?_
 cases hx
 exact mid_h ⟨rfl, rfl, trivial⟩ hM
 refine gn hg40 rfl rfl <| gn hg40 rfl rfl <| gn hg40 rfl rfl <| wv rfl (p_f rfl hg40 rfl) ?_
 obtain rfl := oi hx
 exact mid_h ⟨rfl, rfl, trivial⟩ hM
 replace hx := hx46
 refine wmv rfl rfl <| bs hx fun c54 hx hx61 => ?_
 refine wl_midH 4 [(14, (bv c54))] hM ?_ fun w62 hM => ?_
 refine cs2 hx (fun hg55 hx => ?_) (fun hg55 hx => ?_)
 refine gv rfl hg55 rfl (r_move rfl) <| bs hx fun _ h65 hx => g_cv hM hg55 rfl rfl rfl (fun X S oL hS hR hO => ct_impl_OpTo _ X S o s_o hS (hR _ m0) oL h65) fun _ hM => gv rfl hg55 rfl (r_leq rfl rfl) <| wv rfl (p_t rfl hg55 rfl) ?_
 cases hx
 exact mid_h ⟨rfl, trivial⟩ hM
 refine gn hg55 rfl rfl <| gn hg55 rfl rfl <| gn hg55 rfl rfl <| wv rfl (p_f rfl hg55 rfl) ?_
 obtain rfl := oi hx
 exact mid_h ⟨rfl, trivial⟩ hM
 replace hx := hx61
 refine was rfl rfl <| wl_sq <| wc_ret ?_
 obtain rfl := oi hx
 exact fin_u [(bv c54)] hM ⟨rfl, trivial⟩ rfl

noncomputable def x_spec_l01In (n : Int) (lo : Int) (hi : Int) : Option Bool :=
  Option.bind (bif decide (lo ≤ n) then (some (decide (n ≤ hi))) else (some false)) fun c6 => some c6
theorem ct_spec_l01In (w : World) (X S : Bs) (n : Int) (lo : Int) (hi : Int) (hS : SX X S w)  (oL : Sep [] X w) {r : Bool} (hx : x_spec_l01In n lo hi = some r) :
 Ret Tryz.prog 47 [(iv n), (iv lo), (iv hi)] w (KV X S w (bv r)) := by
 unfold x_spec_l01In at hx
 refine enter Tryz.func47 rfl Tryz.ntmps47 (by kernel_rfl) rfl ?_
 have hM := St.enter oL hS
 refine wc_sr <| was rfl rfl <| wl_sq <| wc_sr <| wmv rfl rfl <| wmv rfl rfl <| wv rfl (r_geq rfl rfl) <| wmv rfl rfl <| bs hx fun c20 hx hx25 => ?_
 refine wl_midH 4 [(14, (bv c20))] hM ?_ fun w26 hM => ?_
 refine cs2 hx (fun hg21 hx => ?_) (fun hg21 hx => ?_)
 refine gv rfl hg21 rfl (r_move rfl) <| gv rfl hg21 rfl (r_move rfl) <| gv rfl hg21 rfl (r_leq rfl rfl) <| wv rfl (p_t rfl hg21 rfl) ?_
 cases hx
 exact mid_h ⟨rfl, trivial⟩ hM
 refine gn hg21 rfl rfl <| gn hg21 rfl rfl <| gn hg21 rfl rfl <| wv rfl (p_f rfl hg21 rfl) ?_
 obtain rfl := oi hx
 exact mid_h ⟨rfl, trivial⟩ hM
 replace hx := hx25
 refine was rfl rfl <| wl_sq <| wc_ret ?_
 obtain rfl := oi hx
 exact fin_u [(bv c20)] hM ⟨rfl, trivial⟩ rfl

noncomputable def x_spec_SignOk (n : Int) : Option Bool :=
  Option.bind (x_spec_l01In n 0 1114111) fun r3 => Option.bind (bif r3 then (Option.bind (x_spec_l01In n 55296 57343) fun r15 => some (!r15)) else (some false)) fun c7 => some c7
theorem ct_spec_SignOk (w : World) (X S : Bs) (n : Int) (hS : SX X S w)  (oL : Sep [] X w) {r : Bool} (hx : x_spec_SignOk n = some r) :
 Ret Tryz.prog 165 [(iv n)] w (KV X S w (bv r)) := by
 unfold x_spec_SignOk at hx
 refine enter Tryz.func165 rfl Tryz.ntmps165 (by kernel_rfl) rfl ?_
 have hM := St.enter oL hS
 refine wc_sr <| was rfl rfl <| wl_sq <| wc_sr <| wmv rfl rfl <| bs hx fun _ h23 hx => w_cv hM rfl rfl (fun X S oL hS hR hO => ct_spec_l01In _ X S n (0 : Int) (1114111 : Int) hS  oL h23) fun _ hM => wmv rfl rfl <| bs hx fun c26 hx hx33 => ?_
 refine wl_midH 4 [(9, (bv c26))] hM ?_ fun w34 hM => ?_
 refine cs2 hx (fun hg27 hx => ?_) (fun hg27 hx => ?_)
 refine gv rfl hg27 rfl (r_move rfl) <| bs hx fun _ h37 hx => g_cv hM hg27 rfl rfl rfl (fun X S oL hS hR hO => ct_spec_l01In _ X S n (55296 : Int) (57343 : Int) hS  oL h37) fun _ hM => gv rfl hg27 rfl (r_not rfl) <| wv rfl (p_t rfl hg27 rfl) ?_
 cases hx
 exact mid_h ⟨rfl, trivial⟩ hM
 refine gn hg27 rfl rfl <| gn hg27 rfl rfl <| gn hg27 rfl rfl <| wv rfl (p_f rfl hg27 rfl) ?_
 obtain rfl := oi hx
 exact mid_h ⟨rfl, trivial⟩ hM
 replace hx := hx33
 refine was rfl rfl <| wl_sq <| wc_ret ?_
 obtain rfl := oi hx
 exact fin_u [(bv c26)] hM ⟨rfl, trivial⟩ rfl

noncomputable def x_spec_SignsOk_b0 (_l : List Int) (_k5 : Nat) (x32 : Int) : Option (Lr Unit (Sum Unit Unit)) :=
  Option.bind (x_spec_SignOk x32) fun r25 => bif !r25 then (some (Lr.out (Sum.inr (())))) else (some (Lr.go ()))
noncomputable def x_spec_SignsOk_f0 (l : List Int) (k5 : Nat) (_s33 : Unit) : Option (Lr Unit (Sum Unit Unit)) := x_spec_SignsOk_b0 l k5 (el l k5)
noncomputable def x_spec_SignsOk (l : List Int) : Option Bool :=
  Option.bind (eachN (x_spec_SignsOk_f0 l) (fun (_s33 : Unit) => (Sum.inl () : Sum Unit Unit)) l.length 0 ()) fun (y34 : Sum Unit Unit) => Sum.elim (fun _y35 => some true) (fun _y36 => some false) y34
theorem ct_spec_SignsOk (w : World) (X S : Bs) (l : List Int) (s_l : Sv) (hS : SX X S w) (a_l_0 : (cSl 1 fI l).rd S w s_l.v) (oL : Sep [] X w) {r : Bool} (hx : x_spec_SignsOk l = some r) :
 Ret Tryz.prog 124 [s_l.v] w (KV X S w (bv r)) := by
 unfold x_spec_SignsOk at hx
 refine enter Tryz.func124 rfl Tryz.ntmps124 (by kernel_rfl) rfl ?_
 have hM := (St.enter oL hS).addV a_l_0
 refine wc_sr <| was rfl rfl <| wl_sq <| wc_seq <| wc_sr <| wmv rfl rfl <| wv rfl (r_lenC u26 rfl (hM.seeR m0)) <| wmv rfl rfl <| wl_sq <| wc_block <| bs hx fun y42 hx hx43 => ?_
 have hl47 := Cs.le (hM.seeR m0)
 refine wc_loop (un fun (m44 : Nat) => fun (k45 : Nat) => [(5, s_l.v), (6, (iv (l.length : Int))), (7, (iv (k45 : Int)))]) (un fun (m44 : Nat) => fun (k45 : Nat) w' => St ⟨w, X, S⟩ [] [rV s_l.v (cSl 1 fI l)] w' ∧ eachN _ _ m44 k45 () = some y42 ∧ k45 + m44 = l.length) (fun p => p.1) (l.length, 0) ⟨rfl, rfl, rfl, trivial⟩ ⟨hM, hx, Nat.zero_add _⟩ ?_
 rintro ⟨m44, k45⟩ w48 ⟨hM, hx, hk46⟩
 refine wc_sr <| wv rfl (r_lss rfl rfl) <| wl_sq <| wc_seq ?_
 refine wc_cond rfl (fun hc50 => ?_) (fun hc50 => ?_)
 replace hc50 := of_decide_eq_true hc50
 obtain ⟨m51, z52, rfl, hk46, hx, hx53⟩ := eachN_step hx hk46 hc50
 unfold x_spec_SignsOk_f0 x_spec_SignsOk_b0 at hx
 try dsimp only at hx
 refine wc_skip <| sq_n <| wc_seq <| wc_block <| wc_sr ?_
 have hi55 : k45 < l.length := by omega
 refine wv rfl (r_ixC u26 sz3 rfl rfl (hM.seeR m0) ⟨by omega, hc50⟩) <| wv rfl (r_ld u3 rfl rfl (Cs.get (i := k45) (j := 0) (hM.seeR m0) (fun _ => rfl) hi55 rfl)) <| was rfl rfl <| wl_sq <| wc_sr <| wmv rfl rfl <| bs hx fun _ h60 hx => w_cv hM rfl rfl (fun X S oL hS hR hO => ct_spec_SignOk _ X S (el l k45) hS  oL h60) fun _ hM => wv rfl (r_not rfl) <| wl_sq ?_
 refine wcx hx rfl (fun hx => ?_) (fun hx => ?_)
 refine wc_sr <| was rfl rfl <| wl_sq <| wc_ret <| bk_ret <| sq_ret <| lp1_ret ?_
 cases hx
 obtain rfl := oi hx53
 replace hx := hx43
 refine bk_ret <| sq_ret ?_
 obtain rfl := oi hx
 exact fin_u [(bv false)] hM ⟨rfl, trivial⟩ rfl
 refine wc_skip <| bk_n <| sq_n <| wc_region <| wv rfl (r_add rfl rfl ⟨by omega, by omega⟩) <| wmv rfl rfl <| wl_nil ?_
 cases hx
 exact lp_end (m51, k45 + 1) (Nat.lt_succ_self _) ⟨rfl, rfl, rfl, trivial⟩ ⟨hM, hx53, hk46⟩
 replace hc50 := of_decide_eq_false hc50
 obtain rfl := eachN_end hx hk46 hc50
 refine wc_exit <| sq_exit <| lp1_exit ?_
 replace hx := hx43
 refine bk_here <| sq_n <| wc_sr <| was rfl rfl <| wl_sq <| wc_ret ?_
 obtain rfl := oi hx
 exact fin_u [(bv true)] hM ⟨rfl, trivial⟩ rfl

noncomputable def x_spec_TextOk (t : List Int) : Option Bool :=
  Option.bind (x_spec_SignsOk t) fun r3 => Option.bind (bif r3 then (some (decide ((t.length : Int) ≤ 200))) else (some false)) fun c7 => some c7
theorem ct_spec_TextOk (w : World) (X S : Bs) (t : List Int) (s_t : Sv) (hS : SX X S w) (a_t_0 : (cSl 1 fI t).rd S w s_t.v) (oL : Sep [] X w) {r : Bool} (hx : x_spec_TextOk t = some r) :
 Ret Tryz.prog 120 [s_t.v] w (KV X S w (bv r)) := by
 unfold x_spec_TextOk at hx
 refine enter Tryz.func120 rfl Tryz.ntmps120 (by kernel_rfl) rfl ?_
 have hM := (St.enter oL hS).addV a_t_0
 refine wc_sr <| was rfl rfl <| wl_sq <| wc_sr <| wmv rfl rfl <| bs hx fun _ h19 hx => w_cv hM rfl rfl (fun X S oL hS hR hO => ct_spec_SignsOk _ X S t s_t hS (hR _ m0) oL h19) fun _ hM => wmv rfl rfl <| bs hx fun c22 hx hx27 => ?_
 refine wl_midH 4 [(9, (bv c22))] hM ?_ fun w28 hM => ?_
 refine cs2 hx (fun hg23 hx => ?_) (fun hg23 hx => ?_)
 refine gv rfl hg23 rfl (r_move rfl) <| gv rfl hg23 rfl (r_lenC u26 rfl (hM.seeR m0)) <| gv rfl hg23 rfl (r_leq rfl rfl) <| wv rfl (p_t rfl hg23 rfl) ?_
 cases hx
 exact mid_h ⟨rfl, trivial⟩ hM
 refine gn hg23 rfl rfl <| gn hg23 rfl rfl <| gn hg23 rfl rfl <| wv rfl (p_f rfl hg23 rfl) ?_
 obtain rfl := oi hx
 exact mid_h ⟨rfl, trivial⟩ hM
 replace hx := hx27
 refine was rfl rfl <| wl_sq <| wc_ret ?_
 obtain rfl := oi hx
 exact fin_u [(bv c22)] hM ⟨rfl, trivial⟩ rfl

noncomputable def x_spec_PartOk (p : DPart) : Option Bool :=
  bif decide (p.kind = 1) then (bif decide (p.kind = 1) then (Option.bind (x_spec_l01In p.n 0 200) fun r12 => Option.bind (bif r12 then (some (decide ((p.signs.length : Int) = 0))) else (some false)) fun c16 => some c16) else (bif decide (p.kind = 2) then (Option.bind (bif decide (p.n = 0) then (Option.bind (x_spec_SignsOk p.signs) fun r42 => some r42) else (some false)) fun c33 => Option.bind (bif c33 then (some (decide ((p.signs.length : Int) ≤ 200))) else (some false)) fun c46 => some c46) else (some false))) else (bif decide (p.kind = 3) then (Option.bind (x_spec_l01In p.n 0 200) fun r62 => Option.bind (bif r62 then (some (decide ((p.signs.length : Int) = 0))) else (some false)) fun c66 => some c66) else (bif decide (p.kind = 2) then (Option.bind (bif decide (p.n = 0) then (Option.bind (x_spec_SignsOk p.signs) fun r92 => some r92) else (some false)) fun c83 => Option.bind (bif c83 then (some (decide ((p.signs.length : Int) ≤ 200))) else (some false)) fun c96 => some c96) else (some false)))
theorem ct_spec_PartOk (w : World) (X S : Bs) (p : DPart) (s_p_2 : Sv) (hS : SX X S w) (a_p_2 : (cSl 1 fI p.signs).rd S w s_p_2.v) (oL : Sep [] X w) {r : Bool} (hx : x_spec_PartOk p = some r) :
 Ret Tryz.prog 162 [(.agg #[(iv p.kind), (iv p.n), s_p_2.v])] w (KV X S w (bv r)) := by
 unfold x_spec_PartOk at hx
 refine enter Tryz.func162 rfl Tryz.ntmps162 (by kernel_rfl) rfl ?_
 have hM := (St.enter oL hS).addV a_p_2
 refine wc_sr ?_
 refine w_ex rfl (x_box rfl hM ?_); intro b109 w108 hR110 hM
 refine was rfl rfl <| wl_sq <| wc_seq <| wc_sr <| wv rfl (r_fld u156 rfl rfl sz3 rfl) <| wv rfl (r_ldB u3 rfl rfl hM m0 rfl) <| wl_sq <| wc_block <| wc_seq <| wc_sr <| wv rfl (r_eql rfl rfl) <| was rfl rfl <| wl_sq ?_
 refine wcx hx rfl (fun hx => ?_) (fun hx => ?_)
 refine wc_skip <| sq_n ?_
 refine wcx hx rfl (fun hx => ?_) (fun hx => ?_)
 refine wc_sr <| wv rfl (r_fld u156 rfl rfl sz3 rfl) <| wv rfl (r_ldB u3 rfl rfl hM m0 rfl) <| bs hx fun _ h122 hx => w_cv hM rfl rfl (fun X S oL hS hR hO => ct_spec_l01In _ X S p.n (0 : Int) (200 : Int) hS  oL h122) fun _ hM => wmv rfl rfl <| bs hx fun c125 hx hx131 => ?_
 refine wl_midH 5 [(16, (bv c125))] hM ?_ fun w132 hM => ?_
 refine cs2 hx (fun hg126 hx => ?_) (fun hg126 hx => ?_)
 refine gv rfl hg126 rfl (r_fld u156 rfl rfl sz26 rfl) <| gv rfl hg126 rfl (r_ldB u26 rfl rfl hM m0 rfl) <| gv rfl hg126 rfl (r_lenC u26 rfl (hM.seeR m0)) <| gv rfl hg126 rfl (r_eql rfl rfl) <| wv rfl (p_t rfl hg126 rfl) ?_
 cases hx
 exact mid_h ⟨rfl, trivial⟩ hM
 refine gn hg126 rfl rfl <| gn hg126 rfl rfl <| gn hg126 rfl rfl <| gn hg126 rfl rfl <| wv rfl (p_f rfl hg126 rfl) ?_
 obtain rfl := oi hx
 exact mid_h ⟨rfl, trivial⟩ hM
 replace hx := hx131
 refine was rfl rfl <| wl_sq <| wc_ret <| bk_ret <| sq_ret ?_
 obtain rfl := oi hx
 exact fin_u [(bv c125)] hM ⟨rfl, trivial⟩ rfl
 refine wc_sr <| wv rfl (r_eql rfl rfl) <| was rfl rfl <| wl_sq ?_
 refine wcx hx rfl (fun hx => ?_) (fun hx => ?_)
 refine wc_sr <| wv rfl (r_fld u156 rfl rfl sz3 rfl) <| wv rfl (r_ldB u3 rfl rfl hM m0 rfl) <| wv rfl (r_eql rfl rfl) <| wmv rfl rfl <| bs hx fun c145 hx hx152 => ?_
 refine wl_midH 4 [(26, (bv c145)), (1, (pt b109 0))] hM ?_ fun w153 hM => ?_
 refine cs2 hx (fun hg146 hx => ?_) (fun hg146 hx => ?_)
 refine gv rfl hg146 rfl (r_fld u156 rfl rfl sz26 rfl) <| gv rfl hg146 rfl (r_ldB u26 rfl rfl hM m0 rfl) <| bs hx fun _ h157 hx => g_cv hM hg146 rfl rfl rfl (fun X S oL hS hR hO => ct_spec_SignsOk _ X S p.signs s_p_2 hS (hR _ m0) oL h157) fun _ hM => wv rfl (p_t rfl hg146 rfl) ?_
 obtain rfl := oi hx
 exact mid_h ⟨rfl, rfl, trivial⟩ hM
 refine gn hg146 rfl rfl <| gn hg146 rfl rfl <| gn hg146 rfl rfl <| wv rfl (p_f rfl hg146 rfl) ?_
 obtain rfl := oi hx
 exact mid_h ⟨rfl, rfl, trivial⟩ hM
 replace hx := hx152
 refine wmv rfl rfl <| bs hx fun c160 hx hx166 => ?_
 refine wl_midH 5 [(32, (bv c160))] hM ?_ fun w167 hM => ?_
 refine cs2 hx (fun hg161 hx => ?_) (fun hg161 hx => ?_)
 refine gv rfl hg161 rfl (r_fld u156 rfl rfl sz26 rfl) <| gv rfl hg161 rfl (r_ldB u26 rfl rfl hM m0 rfl) <| gv rfl hg161 rfl (r_lenC u26 rfl (hM.seeR m0)) <| gv rfl hg161 rfl (r_leq rfl rfl) <| wv rfl (p_t rfl hg161 rfl) ?_
 cases hx
 exact mid_h ⟨rfl, trivial⟩ hM
 refine gn hg161 rfl rfl <| gn hg161 rfl rfl <| gn hg161 rfl rfl <| gn hg161 rfl rfl <| wv rfl (p_f rfl hg161 rfl) ?_
 obtain rfl := oi hx
 exact mid_h ⟨rfl, trivial⟩ hM
 replace hx := hx166
 refine was rfl rfl <| wl_sq <| wc_ret <| bk_ret <| sq_ret ?_
 obtain rfl := oi hx
 exact fin_u [(bv c160)] hM ⟨rfl, trivial⟩ rfl
 refine wc_skip <| bk_n <| sq_n <| wc_sr <| was rfl rfl <| wl_sq <| wc_ret ?_
 obtain rfl := oi hx
 exact fin_u [(bv false)] hM ⟨rfl, trivial⟩ rfl
 refine wc_region <| wv rfl (r_eql rfl rfl) <| was rfl rfl <| wl_sq ?_
 refine wcx hx rfl (fun hx => ?_) (fun hx => ?_)
 refine wc_sr <| wv rfl (r_fld u156 rfl rfl sz3 rfl) <| wv rfl (r_ldB u3 rfl rfl hM m0 rfl) <| bs hx fun _ h180 hx => w_cv hM rfl rfl (fun X S oL hS hR hO => ct_spec_l01In _ X S p.n (0 : Int) (200 : Int) hS  oL h180) fun _ hM => wmv rfl rfl <| bs hx fun c183 hx hx189 => ?_
 refine wl_midH 5 [(16, (bv c183))] hM ?_ fun w190 hM => ?_
 refine cs2 hx (fun hg184 hx => ?_) (fun hg184 hx => ?_)
 refine gv rfl hg184 rfl (r_fld u156 rfl rfl sz26 rfl) <| gv rfl hg184 rfl (r_ldB u26 rfl rfl hM m0 rfl) <| gv rfl hg184 rfl (r_lenC u26 rfl (hM.seeR m0)) <| gv rfl hg184 rfl (r_eql rfl rfl) <| wv rfl (p_t rfl hg184 rfl) ?_
 cases hx
 exact mid_h ⟨rfl, trivial⟩ hM
 refine gn hg184 rfl rfl <| gn hg184 rfl rfl <| gn hg184 rfl rfl <| gn hg184 rfl rfl <| wv rfl (p_f rfl hg184 rfl) ?_
 obtain rfl := oi hx
 exact mid_h ⟨rfl, trivial⟩ hM
 replace hx := hx189
 refine was rfl rfl <| wl_sq <| wc_ret <| bk_ret <| sq_ret ?_
 obtain rfl := oi hx
 exact fin_u [(bv c183)] hM ⟨rfl, trivial⟩ rfl
 refine wc_sr <| wv rfl (r_eql rfl rfl) <| was rfl rfl <| wl_sq ?_
 refine wcx hx rfl (fun hx => ?_) (fun hx => ?_)
 refine wc_sr <| wv rfl (r_fld u156 rfl rfl sz3 rfl) <| wv rfl (r_ldB u3 rfl rfl hM m0 rfl) <| wv rfl (r_eql rfl rfl) <| wmv rfl rfl <| bs hx fun c203 hx hx210 => ?_
 refine wl_midH 4 [(26, (bv c203)), (1, (pt b109 0))] hM ?_ fun w211 hM => ?_
 refine cs2 hx (fun hg204 hx => ?_) (fun hg204 hx => ?_)
 refine gv rfl hg204 rfl (r_fld u156 rfl rfl sz26 rfl) <| gv rfl hg204 rfl (r_ldB u26 rfl rfl hM m0 rfl) <| bs hx fun _ h215 hx => g_cv hM hg204 rfl rfl rfl (fun X S oL hS hR hO => ct_spec_SignsOk _ X S p.signs s_p_2 hS (hR _ m0) oL h215) fun _ hM => wv rfl (p_t rfl hg204 rfl) ?_
 obtain rfl := oi hx
 exact mid_h ⟨rfl, rfl, trivial⟩ hM
 refine gn hg204 rfl rfl <| gn hg204 rfl rfl <| gn hg204 rfl rfl <| wv rfl (p_f rfl hg204 rfl) ?_
 obtain rfl := oi hx
 exact mid_h ⟨rfl, rfl, trivial⟩ hM
 replace hx := hx210
 refine wmv rfl rfl <| bs hx fun c218 hx hx224 => ?_
 refine wl_midH 5 [(32, (bv c218))] hM ?_ fun w225 hM => ?_
 refine cs2 hx (fun hg219 hx => ?_) (fun hg219 hx => ?_)
 refine gv rfl hg219 rfl (r_fld u156 rfl rfl sz26 rfl) <| gv rfl hg219 rfl (r_ldB u26 rfl rfl hM m0 rfl) <| gv rfl hg219 rfl (r_lenC u26 rfl (hM.seeR m0)) <| gv rfl hg219 rfl (r_leq rfl rfl) <| wv rfl (p_t rfl hg219 rfl) ?_
 cases hx
 exact mid_h ⟨rfl, trivial⟩ hM
 refine gn hg219 rfl rfl <| gn hg219 rfl rfl <| gn hg219 rfl rfl <| gn hg219 rfl rfl <| wv rfl (p_f rfl hg219 rfl) ?_
 obtain rfl := oi hx
 exact mid_h ⟨rfl, trivial⟩ hM
 replace hx := hx224
 refine was rfl rfl <| wl_sq <| wc_ret <| bk_ret <| sq_ret ?_
 obtain rfl := oi hx
 exact fin_u [(bv c218)] hM ⟨rfl, trivial⟩ rfl
 refine wc_skip <| bk_n <| sq_n <| wc_sr <| was rfl rfl <| wl_sq <| wc_ret ?_
 obtain rfl := oi hx
 exact fin_u [(bv false)] hM ⟨rfl, trivial⟩ rfl

noncomputable def x_spec_l02Parts_b0 (_o : List DPart) (_k5 : Nat) (x46 : DPart) : Option (Lr Unit (Sum Unit Unit)) :=
  Option.bind (x_spec_PartOk x46) fun r39 => bif !r39 then (some (Lr.out (Sum.inr (())))) else (some (Lr.go ()))
noncomputable def x_spec_l02Parts_f0 (o : List DPart) (k5 : Nat) (_s47 : Unit) : Option (Lr Unit (Sum Unit Unit)) := x_spec_l02Parts_b0 o k5 (el o k5)
noncomputable def x_spec_l02Parts (o : List DPart) : Option Bool :=
  Option.bind (eachN (x_spec_l02Parts_f0 o) (fun (_s47 : Unit) => (Sum.inl () : Sum Unit Unit)) o.length 0 ()) fun (y48 : Sum Unit Unit) => Sum.elim (fun _y49 => some (decide ((o.length : Int) ≤ 600))) (fun _y50 => some false) y48
theorem ct_spec_l02Parts (w : World) (X S : Bs) (o : List DPart) (s_o : Sv) (hS : SX X S w) (a_o_0 : (cSl 3 fDPart o).rd S w s_o.v) (oL : Sep [] X w) {r : Bool} (hx : x_spec_l02Parts o = some r) :
 Ret Tryz.prog 119 [s_o.v] w (KV X S w (bv r)) := by
 unfold x_spec_l02Parts at hx
 refine enter Tryz.func119 rfl Tryz.ntmps119 (by kernel_rfl) rfl ?_
 have hM := (St.enter oL hS).addV a_o_0
 refine wc_sr <| was rfl rfl <| wl_sq <| wc_seq <| wc_sr <| wmv rfl rfl <| wv rfl (r_lenC u57 rfl (hM.seeR m0)) <| wmv rfl rfl <| wl_sq <| wc_block <| bs hx fun y59 hx hx60 => ?_
 have hl64 := Cs.le (hM.seeR m0)
 refine wc_loop (un fun (m61 : Nat) => fun (k62 : Nat) => [(0, s_o.v), (5, s_o.v), (6, (iv (o.length : Int))), (7, (iv (k62 : Int)))]) (un fun (m61 : Nat) => fun (k62 : Nat) w' => St ⟨w, X, S⟩ [] [rV s_o.v (cSl 3 fDPart o)] w' ∧ eachN _ _ m61 k62 () = some y59 ∧ k62 + m61 = o.length) (fun p => p.1) (o.length, 0) ⟨rfl, rfl, rfl, rfl, trivial⟩ ⟨hM, hx, Nat.zero_add _⟩ ?_
 rintro ⟨m61, k62⟩ w65 ⟨hM, hx, hk63⟩
 refine wc_sr <| wv rfl (r_lss rfl rfl) <| wl_sq <| wc_seq ?_
 refine wc_cond rfl (fun hc67 => ?_) (fun hc67 => ?_)
 replace hc67 := of_decide_eq_true hc67
 obtain ⟨m68, z69, rfl, hk63, hx, hx70⟩ := eachN_step hx hk63 hc67
 unfold x_spec_l02Parts_f0 x_spec_l02Parts_b0 at hx
 try dsimp only at hx
 refine wc_skip <| sq_n <| wc_seq <| wc_block <| wc_sr ?_
 have hi72 : k62 < o.length := by omega
 refine wv rfl (r_ixC u57 sz156 rfl rfl (hM.seeR m0) ⟨by omega, hc67⟩) ?_
 obtain ⟨s74, hM, hc75⟩ := hM.leaf (i := k62) (j := 2) m0 (fun _ => rfl) hi72 rfl
 refine wv rfl (r_ldC (o := k62 * 3) u156 sz156 rfl (us := [(iv ((el o k62).kind)), (iv ((el o k62).n)), s74.v]) rfl (hM.seeR m1) hi72 ⟨(Cs.get (i := k62) (j := 0) (hM.seeR m1) (fun _ => rfl) hi72 rfl), (Cs.get (i := k62) (j := 1) (hM.seeR m1) (fun _ => rfl) hi72 rfl), (hc75 _ (Rel.refl _)), trivial⟩) ?_
 refine w_ex rfl (x_alloc sz156 hM ?_); intro b77 w76 hR78 hM
 refine w_exu (x_stB #[(iv ((el o k62).kind)), (iv ((el o k62).n)), s74.v] sz156 rfl rfl rfl rfl rfl rfl hM ?_); intro w80 hM
 refine wl_sq <| wc_sr <| wv rfl (r_ldBS u156 sz156 rfl (us := [(iv ((el o k62).kind)), (iv ((el o k62).n)), s74.v]) rfl hM m0 rfl) <| bs hx fun _ h84 hx => w_cv hM rfl rfl (fun X S oL hS hR hO => ct_spec_PartOk _ X S (el o k62) s74 hS (hR _ m0) oL h84) fun _ hM => wv rfl (r_not rfl) <| wl_sq ?_
 refine wcx hx rfl (fun hx => ?_) (fun hx => ?_)
 refine wc_sr <| was rfl rfl <| wl_sq <| wc_ret <| bk_ret <| sq_ret <| lp1_ret ?_
 cases hx
 obtain rfl := oi hx70
 replace hx := hx60
 refine bk_ret <| sq_ret ?_
 obtain rfl := oi hx
 exact fin_u [(bv false)] hM ⟨rfl, trivial⟩ rfl
 refine wc_skip <| bk_n <| sq_n <| wc_region <| wv rfl (r_add rfl rfl ⟨by omega, by omega⟩) <| wmv rfl rfl <| wl_nil ?_
 cases hx
 replace hM := hM.t0
 have hM := hM.fewer (rsC m1 rsN)
 replace hM : St ⟨w, X, S⟩ [] [rV s_o.v (cSl 3 fDPart o)] _ := hM
 exact lp_end (m68, k62 + 1) (Nat.lt_succ_self _) ⟨rfl, rfl, rfl, rfl, trivial⟩ ⟨hM, hx70, hk63⟩
 replace hc67 := of_decide_eq_false hc67
 obtain rfl := eachN_end hx hk63 hc67
 refine wc_exit <| sq_exit <| lp1_exit ?_
 replace hx := hx60
 refine bk_here <| sq_n <| wc_sr <| wmv rfl rfl <| wv rfl (r_lenC u57 rfl (hM.seeR m0)) <| wv rfl (r_leq rfl rfl) <| was rfl rfl <| wl_sq <| wc_ret ?_
 obtain rfl := oi hx
 exact fin_u [(bv (decide ((o.length : Int) ≤ 600)))] hM ⟨rfl, trivial⟩ rfl

noncomputable def x_spec_l02Sum_b0 (_o : List DPart) (_k18 : Nat) (x108 : DPart) (keep19 : Int) (put20 : Int) (drop21 : Int) : Option (Lr (Int × Int × Int) (Int × Int × Int)) :=
  bif decide ((x108.kind) = 1) then (xg (inI (keep19 + (x108.n))) <| some (Lr.go (keep19 + (x108.n), put20, drop21))) else (bif decide ((x108.kind) = 2) then (xg (inI (put20 + ((x108.signs).length : Int))) <| some (Lr.go (keep19, put20 + ((x108.signs).length : Int), drop21))) else (xg (inI (drop21 + (x108.n))) <| some (Lr.go (keep19, put20, drop21 + (x108.n)))))
noncomputable def x_spec_l02Sum_f0 (o : List DPart) (k18 : Nat) (s109 : Int × Int × Int) : Option (Lr (Int × Int × Int) (Int × Int × Int)) := x_spec_l02Sum_b0 o k18 (el o k18) s109.1 s109.2.1 s109.2.2
noncomputable def x_spec_l02Sum (o : List DPart) : Option (Int × Int × Int) :=
  Option.bind (x_spec_l02Parts o) fun r8 => bif !r8 then (some (0, 0, 0)) else (Option.bind (eachN (x_spec_l02Sum_f0 o) (fun (s109 : Int × Int × Int) => ((s109.1, s109.2.1, s109.2.2) : Int × Int × Int)) o.length 0 (0, 0, 0)) fun (y110 : Int × Int × Int) => some (y110.1, y110.2.1, y110.2.2))
theorem ct_spec_l02Sum (w : World) (X S : Bs) (o : List DPart) (s_o : Sv) (hS : SX X S w) (a_o_0 : (cSl 3 fDPart o).rd S w s_o.v) (oL : Sep [] X w) {r : Int × Int × Int} (hx : x_spec_l02Sum o = some r) :
 Ret Tryz.prog 163 [s_o.v] w (KV X S w (.tuple #[(iv r.1), (iv r.2.1), (iv r.2.2)])) := by
 unfold x_spec_l02Sum at hx
 refine enter Tryz.func163 rfl Tryz.ntmps163 (by kernel_rfl) rfl ?_
 have hM := (St.enter oL hS).addV a_o_0
 refine wc_sr <| was rfl rfl <| was rfl rfl <| was rfl rfl <| wl_sq <| wc_sr <| was rfl rfl <| wl_sq <| wc_sr <| was rfl rfl <| wl_sq <| wc_sr <| was rfl rfl <| wl_sq ?_
 refine wc_seq <| wc_sr <| wmv rfl rfl <| bs hx fun _ h125 hx => w_cv hM rfl rfl (fun X S oL hS hR hO => ct_spec_l02Parts _ X S o s_o hS (hR _ m0) oL h125) fun _ hM => wv rfl (r_not rfl) <| wl_sq ?_
 refine wcx hx rfl (fun hx => ?_) (fun hx => ?_)
 refine wc_sr <| was rfl rfl <| was rfl rfl <| was rfl rfl <| wl_sq <| wc_ret <| sq_ret ?_
 obtain rfl := oi hx
 exact fin_u [(iv 0), (iv 0), (iv 0)] hM ⟨rfl, rfl, rfl, trivial⟩ rfl
 refine wc_skip <| sq_n <| wc_seq <| wc_sr <| wmv rfl rfl <| wv rfl (r_lenC u57 rfl (hM.seeR m0)) <| wmv rfl rfl <| wl_sq <| wc_block <| bs hx fun y135 hx hx136 => ?_
 have hl143 := Cs.le (hM.seeR m0)
 refine wc_loop (un fun (m140 : Nat) => un fun (k141 : Nat) => un fun (keep137 : Int) => un fun (put138 : Int) => fun (drop139 : Int) => [(5, (iv keep137)), (6, (iv put138)), (7, (iv drop139)), (13, s_o.v), (14, (iv (o.length : Int))), (15, (iv (k141 : Int)))]) (un fun (m140 : Nat) => un fun (k141 : Nat) => un fun (keep137 : Int) => un fun (put138 : Int) => fun (drop139 : Int) w' => St ⟨w, X, S⟩ [] [rV s_o.v (cSl 3 fDPart o)] w' ∧ eachN _ _ m140 k141 (keep137, put138, drop139) = some y135 ∧ k141 + m140 = o.length) (fun p => p.1) (o.length, 0, 0, 0, 0) ⟨rfl, rfl, rfl, rfl, rfl, rfl, trivial⟩ ⟨hM, hx, Nat.zero_add _⟩ ?_
 rintro ⟨m140, k141, keep137, put138, drop139⟩ w144 ⟨hM, hx, hk142⟩
 refine wc_sr <| wv rfl (r_lss rfl rfl) <| wl_sq <| wc_seq ?_
 refine wc_cond rfl (fun hc146 => ?_) (fun hc146 => ?_)
 replace hc146 := of_decide_eq_true hc146
 obtain ⟨m147, z148, rfl, hk142, hx, hx149⟩ := eachN_step hx hk142 hc146
 unfold x_spec_l02Sum_f0 x_spec_l02Sum_b0 at hx
 try dsimp only at hx
 refine wc_skip <| sq_n <| wc_seq <| wc_block <| wc_sr ?_
 have hi151 : k141 < o.length := by omega
 refine wv rfl (r_ixC u57 sz156 rfl rfl (hM.seeR m0) ⟨by omega, hc146⟩) ?_
 obtain ⟨s153, hM, hc154⟩ := hM.leaf (i := k141) (j := 2) m0 (fun _ => rfl) hi151 rfl
 refine wv rfl (r_ldC (o := k141 * 3) u156 sz156 rfl (us := [(iv ((el o k141).kind)), (iv ((el o k141).n)), s153.v]) rfl (hM.seeR m1) hi151 ⟨(Cs.get (i := k141) (j := 0) (hM.seeR m1) (fun _ => rfl) hi151 rfl), (Cs.get (i := k141) (j := 1) (hM.seeR m1) (fun _ => rfl) hi151 rfl), (hc154 _ (Rel.refl _)), trivial⟩) ?_
 refine w_ex rfl (x_alloc sz156 hM ?_); intro b156 w155 hR157 hM
 refine w_exu (x_stB #[(iv ((el o k141).kind)), (iv ((el o k141).n)), s153.v] sz156 rfl rfl rfl rfl rfl rfl hM ?_); intro w159 hM
 refine wl_sq <| wc_sr <| wv rfl (r_fld u156 rfl rfl sz3 rfl) <| wv rfl (r_ldB u3 rfl rfl hM m0 rfl) <| wl_sq <| wc_block <| wc_sr <| wv rfl (r_eql rfl rfl) <| was rfl rfl <| wl_sq ?_
 refine wcx hx rfl (fun hx => ?_) (fun hx => ?_)
 refine wc_region <| wmv rfl rfl <| wv rfl (r_fld u156 rfl rfl sz3 rfl) <| wv rfl (r_ldB u3 rfl rfl hM m0 rfl) <| xgs hx fun hg170 hx => wv rfl (r_add rfl rfl hg170) <| was rfl rfl <| wl_nil <| bk_n <| bk_n <| sq_n <| wc_region <| wv rfl (r_add rfl rfl ⟨by omega, by omega⟩) <| wmv rfl rfl ?_
 refine wl_nil ?_
 cases hx
 replace hM := hM.t0
 have hM := hM.fewer (rsC m1 rsN)
 replace hM : St ⟨w, X, S⟩ [] [rV s_o.v (cSl 3 fDPart o)] _ := hM
 exact lp_end (m147, k141 + 1, keep137 + ((el o k141).n), put138, drop139) (Nat.lt_succ_self _) ⟨rfl, rfl, rfl, rfl, rfl, rfl, trivial⟩ ⟨hM, hx149, hk142⟩
 refine wc_sr <| wv rfl (r_eql rfl rfl) <| was rfl rfl <| wl_sq ?_
 refine wcx hx rfl (fun hx => ?_) (fun hx => ?_)
 refine wc_region <| wmv rfl rfl <| wv rfl (r_fld u156 rfl rfl sz26 rfl) <| wv rfl (r_ldB u26 rfl rfl hM m0 rfl) <| wv rfl (r_lenC u26 rfl (hM.seeR m0)) <| xgs hx fun hg182 hx => wv rfl (r_add rfl rfl hg182) <| was rfl rfl <| wl_nil <| bk_n <| bk_n <| sq_n <| wc_region <| wv rfl (r_add rfl rfl ⟨by omega, by omega⟩) ?_
 refine wmv rfl rfl <| wl_nil ?_
 cases hx
 replace hM := hM.t0
 have hM := hM.fewer (rsC m1 rsN)
 replace hM : St ⟨w, X, S⟩ [] [rV s_o.v (cSl 3 fDPart o)] _ := hM
 exact lp_end (m147, k141 + 1, keep137, put138 + (((el o k141).signs).length : Int), drop139) (Nat.lt_succ_self _) ⟨rfl, rfl, rfl, rfl, rfl, rfl, trivial⟩ ⟨hM, hx149, hk142⟩
 refine wc_region <| wmv rfl rfl <| wv rfl (r_fld u156 rfl rfl sz3 rfl) <| wv rfl (r_ldB u3 rfl rfl hM m0 rfl) <| xgs hx fun hg190 hx => wv rfl (r_add rfl rfl hg190) <| was rfl rfl <| wl_nil <| bk_n <| bk_n <| sq_n <| wc_region <| wv rfl (r_add rfl rfl ⟨by omega, by omega⟩) <| wmv rfl rfl ?_
 refine wl_nil ?_
 cases hx
 replace hM := hM.t0
 have hM := hM.fewer (rsC m1 rsN)
 replace hM : St ⟨w, X, S⟩ [] [rV s_o.v (cSl 3 fDPart o)] _ := hM
 exact lp_end (m147, k141 + 1, keep137, put138, drop139 + ((el o k141).n)) (Nat.lt_succ_self _) ⟨rfl, rfl, rfl, rfl, rfl, rfl, trivial⟩ ⟨hM, hx149, hk142⟩
 replace hc146 := of_decide_eq_false hc146
 obtain rfl := eachN_end hx hk142 hc146
 refine wc_exit <| sq_exit <| lp1_exit ?_
 replace hx := hx136
 refine bk_here <| sq_n <| wc_sr <| wmv rfl rfl <| wmv rfl rfl <| wmv rfl rfl <| was rfl rfl <| was rfl rfl <| was rfl rfl <| wl_sq <| wc_ret ?_
 obtain rfl := oi hx
 exact fin_u [(iv keep137), (iv put138), (iv drop139)] hM ⟨rfl, rfl, rfl, trivial⟩ rfl

noncomputable def x_spec_OpFrom (o : List DPart) : Option Int :=
  Option.bind (x_spec_l02Sum o) fun r3 => xg (inI (r3.1 + r3.2.2)) <| some (r3.1 + r3.2.2)
theorem ct_spec_OpFrom (w : World) (X S : Bs) (o : List DPart) (s_o : Sv) (hS : SX X S w) (a_o_0 : (cSl 3 fDPart o).rd S w s_o.v) (oL : Sep [] X w) {r : Int} (hx : x_spec_OpFrom o = some r) :
 Ret Tryz.prog 121 [s_o.v] w (KV X S w (iv r)) := by
 unfold x_spec_OpFrom at hx
 refine enter Tryz.func121 rfl Tryz.ntmps121 (by kernel_rfl) rfl ?_
 have hM := (St.enter oL hS).addV a_o_0
 refine wc_sr <| was rfl rfl <| wl_sq <| wc_sr <| wmv rfl rfl <| bs hx fun r20 h21 hx => w_cv hM rfl rfl (fun X S oL hS hR hO => ct_spec_l02Sum _ X S o s_o hS (hR _ m0) oL h21) fun _ hM => wmv rfl rfl <| wv rfl (r_extract rfl rfl) <| wv rfl (r_extract rfl rfl) <| wv rfl (r_extract rfl rfl) <| was rfl rfl <| was rfl rfl <| was rfl rfl ?_
 refine wl_sq <| wc_sr <| wmv rfl rfl <| wmv rfl rfl <| xgs hx fun hg33 hx => wv rfl (r_add rfl rfl hg33) <| was rfl rfl <| wl_sq <| wc_ret ?_
 obtain rfl := oi hx
 exact fin_u [(iv (r20.1 + r20.2.2))] hM ⟨rfl, trivial⟩ rfl

noncomputable def x_spec_OpTo (o : List DPart) : Option Int :=
  Option.bind (x_spec_l02Sum o) fun r3 => xg (inI (r3.1 + r3.2.1)) <| some (r3.1 + r3.2.1)
theorem ct_spec_OpTo (w : World) (X S : Bs) (o : List DPart) (s_o : Sv) (hS : SX X S w) (a_o_0 : (cSl 3 fDPart o).rd S w s_o.v) (oL : Sep [] X w) {r : Int} (hx : x_spec_OpTo o = some r) :
 Ret Tryz.prog 122 [s_o.v] w (KV X S w (iv r)) := by
 unfold x_spec_OpTo at hx
 refine enter Tryz.func122 rfl Tryz.ntmps122 (by kernel_rfl) rfl ?_
 have hM := (St.enter oL hS).addV a_o_0
 refine wc_sr <| was rfl rfl <| wl_sq <| wc_sr <| wmv rfl rfl <| bs hx fun r20 h21 hx => w_cv hM rfl rfl (fun X S oL hS hR hO => ct_spec_l02Sum _ X S o s_o hS (hR _ m0) oL h21) fun _ hM => wmv rfl rfl <| wv rfl (r_extract rfl rfl) <| wv rfl (r_extract rfl rfl) <| wv rfl (r_extract rfl rfl) <| was rfl rfl <| was rfl rfl <| was rfl rfl ?_
 refine wl_sq <| wc_sr <| wmv rfl rfl <| wmv rfl rfl <| xgs hx fun hg33 hx => wv rfl (r_add rfl rfl hg33) <| was rfl rfl <| wl_sq <| wc_ret ?_
 obtain rfl := oi hx
 exact fin_u [(iv (r20.1 + r20.2.1))] hM ⟨rfl, trivial⟩ rfl

noncomputable def x_spec_OpOk (o : List DPart) : Option Bool :=
  Option.bind (x_spec_l02Parts o) fun r3 => Option.bind (bif r3 then (Option.bind (x_spec_OpFrom o) fun r15 => some (decide (r15 ≤ 200))) else (some false)) fun c7 => Option.bind (bif c7 then (Option.bind (x_spec_OpTo o) fun r28 => some (decide (r28 ≤ 200))) else (some false)) fun c20 => some c20
theorem ct_spec_OpOk (w : World) (X S : Bs) (o : List DPart) (s_o : Sv) (hS : SX X S w) (a_o_0 : (cSl 3 fDPart o).rd S w s_o.v) (oL : Sep [] X w) {r : Bool} (hx : x_spec_OpOk o = some r) :
 Ret Tryz.prog 74 [s_o.v] w (KV X S w (bv r)) := by
 unfold x_spec_OpOk at hx
 refine enter Tryz.func74 rfl Tryz.ntmps74 (by kernel_rfl) rfl ?_
 have hM := (St.enter oL hS).addV a_o_0
 refine wc_sr <| was rfl rfl <| wl_sq <| wc_sr <| wmv rfl rfl <| bs hx fun _ h36 hx => w_cv hM rfl rfl (fun X S oL hS hR hO => ct_spec_l02Parts _ X S o s_o hS (hR _ m0) oL h36) fun _ hM => wmv rfl rfl <| bs hx fun c39 hx hx46 => ?_
 refine wl_midH 4 [(9, (bv c39)), (0, s_o.v)] hM ?_ fun w47 hM => ?_
 refine cs2 hx (fun hg40 hx => ?_) (fun hg40 hx => ?_)
 refine gv rfl hg40 rfl (r_move rfl) <| bs hx fun _ h50 hx => g_cv hM hg40 rfl rfl rfl (fun X S oL hS hR hO => ct_spec_OpFrom _ X S o s_o hS (hR _ m0) oL h50) fun _ hM => gv rfl hg40 rfl (r_leq rfl rfl) <| wv rfl (p_t rfl hg40 rfl) ?_
 cases hx
 exact mid_h ⟨rfl, rfl, trivial⟩ hM
 refine gn hg40 rfl rfl <| gn hg40 rfl rfl <| gn hg40 rfl rfl <| wv rfl (p_f rfl hg40 rfl) ?_
 obtain rfl := oi hx
 exact mid_h ⟨rfl, rfl, trivial⟩ hM
 replace hx := hx46
 refine wmv rfl rfl <| bs hx fun c54 hx hx61 => ?_
 refine wl_midH 4 [(14, (bv c54))] hM ?_ fun w62 hM => ?_
 refine cs2 hx (fun hg55 hx => ?_) (fun hg55 hx => ?_)
 refine gv rfl hg55 rfl (r_move rfl) <| bs hx fun _ h65 hx => g_cv hM hg55 rfl rfl rfl (fun X S oL hS hR hO => ct_spec_OpTo _ X S o s_o hS (hR _ m0) oL h65) fun _ hM => gv rfl hg55 rfl (r_leq rfl rfl) <| wv rfl (p_t rfl hg55 rfl) ?_
 cases hx
 exact mid_h ⟨rfl, trivial⟩ hM
 refine gn hg55 rfl rfl <| gn hg55 rfl rfl <| gn hg55 rfl rfl <| wv rfl (p_f rfl hg55 rfl) ?_
 obtain rfl := oi hx
 exact mid_h ⟨rfl, trivial⟩ hM
 replace hx := hx61
 refine was rfl rfl <| wl_sq <| wc_ret ?_
 obtain rfl := oi hx
 exact fin_u [(bv c54)] hM ⟨rfl, trivial⟩ rfl

end Go.Proofs.YtjbonmmmcnpjiaaGreatDoor
