/- Walks of functions of this program (printed by a program of ours, by the rules of the layer). No condition. -/
import Derived.Test.YtbapjbanejimiaaG9
import Derived.Test.YtbapjbanejimiaaNs
namespace Go.Proofs.Ytbapjbanejimiaa
open Go.RowKit

noncomputable def x_impl_PutNum_b0 (n18 : Int) (out19 : List UInt8) : Option (Lr (Int × List UInt8) (Int × List UInt8)) :=
  bif decide ((128 : Int) ≤ n18) then (xg (0 ≤ n18 ∧ 0 < (128 : Int)) <| xg (inI ((n18 % 128) + 128)) <| xg (out19.length < 1099511627776) <| xg (0 ≤ n18 ∧ n18 ≤ 9223372036854775807 ∧ 0 < (128 : Int)) <| some (Lr.go (n18 / 128, out19 ++ [y8 ((n18 % 128) + 128)]))) else (some (Lr.out (n18, out19)))
noncomputable def x_impl_PutNum_f0 (s58 : Int × List UInt8) : Option (Lr (Int × List UInt8) (Int × List UInt8)) := x_impl_PutNum_b0 s58.1 s58.2
noncomputable def x_impl_PutNum (b : List UInt8) (n : Int) : Option (List UInt8 × Bool) :=
  Option.bind (x_impl_within n 0 1114111000) fun r4 => bif !r4 then (some ([], false)) else (xg (0 + b.length ≤ 1099511627776) <| Option.bind (iter (x_impl_PutNum_f0) (n, [] ++ b)) fun (y59 : Int × List UInt8) => xg (y59.2.length < 1099511627776) <| some (y59.2 ++ [y8 y59.1], true))
theorem ct_impl_PutNum (w : World) (X S : Bs) (b : List UInt8) (s_b : Sv) (n : Int) (hS : ∀ b, S b → b < w.heap.size ∧ ¬ X b) (a_b_0 : (cSl 1 fY b).rd S w s_b.v) (oL : Sep [] X w) {r : List UInt8 × Bool} (hx : x_impl_PutNum b n = some r) :
    Ret Try.prog 72 [s_b.v, (.int .i64 n)] w (fun u w' => ∃ y : Sv, u = .tuple #[y.v, (.bool r.2)] ∧ Gives X S w [oC (cSl 1 fY r.1) y.v] [] w') := by
  unfold x_impl_PutNum at hx
  refine enter Try.func72 rfl Try.ntmps72 (by kernel_rfl) rfl ?_
  have hM := St.enter oL hS
  have hM := hM.addE (r := rV s_b.v (cSl 1 fY b)) a_b_0
  refine wc_seq ?_
  refine wc_region ?_
  refine wv rfl (r_assign rfl) ?_
  refine wv rfl (r_assign rfl) ?_
  refine wl_nil ?_
  refine sq_n ?_
  refine wc_seq ?_
  refine wc_seq ?_
  refine wc_region ?_
  refine wv rfl (r_move rfl) ?_
  obtain ⟨r74, h75, hx⟩ := bind_some' hx
  refine w_call rfl rfl (hM.callV fun X S oL hS hR hO => ct_impl_within _ X S n (0 : Int) (1114111000 : Int) hS  oL h75) ?_
  rintro _ w76 ⟨rfl, hR77⟩
  have hM := hM.call hR77
  refine wv rfl (r_not rfl) ?_
  refine wl_nil ?_
  refine sq_n ?_
  refine wc_cond rfl (fun hc79 => ?_) (fun hc79 => ?_)
  · replace hx := xif_t hc79 hx
    refine wc_seq ?_
    refine wc_region ?_
    refine wv rfl (r_assign rfl) ?_
    refine wv rfl (r_assign rfl) ?_
    refine wl_nil ?_
    refine sq_n ?_
    refine wc_ret ?_
    refine sq_ret ?_
    obtain rfl := Option.some.inj hx
    have hM := hM.nil0 (T := UInt8) 1 fY
    refine fin_ret [nS.v, (.bool false)] ⟨rfl, rfl, trivial⟩ ?_
    replace hM := hM.t1
    have hM := hM.fewer rsN
    exact ⟨nS, rfl, hM.gives⟩
  · replace hx := xif_f hc79 hx
    refine wc_skip ?_
    refine sq_n ?_
    refine wc_seq ?_
    refine wc_region ?_
    refine wv rfl (r_move rfl) ?_
    have hM := hM.nil0 (T := UInt8) 1 fY
    obtain ⟨hg87, hx⟩ := xg_some hx
    refine w_ex rfl (x_append Try.underlying48 sz5 rfl rfl (hM.seeR (.head _)) flY hM hg87 rfl ?_); intro s85 w84 hM
    refine wv rfl (r_assign rfl) ?_
    refine wl_nil ?_
    refine sq_n ?_
    refine wc_seq ?_
    refine wc_block ?_
    obtain ⟨y90, hx, hx91⟩ := bind_some' hx
    have hM := hM.fewer rsN
    replace hM : St ⟨w, X, S⟩ [oC (cSl 1 fY ([] ++ b)) s85.v] [] _ := hM
    obtain ⟨m98, hx⟩ := iter_run hx
    refine wc_loop (un fun (m96 : Nat) => un fun (n92 : Int) => un fun (out93 : List UInt8) => fun (s95 : Sv) => [(1, (.int .i64 n92)), (6, s95.v)]) (un fun (m96 : Nat) => un fun (n92 : Int) => un fun (out93 : List UInt8) => fun (s95 : Sv) w' => St ⟨w, X, S⟩ [oC (cSl 1 fY out93) s95.v] [] w' ∧ iterN _ m96 (n92, out93) = some y90) (fun p => p.1) (m98, n, [] ++ b, s85) ⟨rfl, rfl, trivial⟩ ⟨hM, hx⟩ ?_
    rintro ⟨m96, n92, out93, s95⟩ w99 ⟨hM, hx⟩
    obtain ⟨m100, z101, rfl, hx, hx102⟩ := iterN_step hx
    unfold x_impl_PutNum_f0 x_impl_PutNum_b0 at hx
    try dsimp only at hx
    refine wc_seq ?_
    refine wc_seq ?_
    refine wc_region ?_
    refine wv rfl (r_move rfl) ?_
    refine wv rfl (r_geq rfl rfl) ?_
    refine wl_nil ?_
    refine sq_n ?_
    refine wc_cond rfl (fun hc105 => ?_) (fun hc105 => ?_)
    · replace hx := xif_t hc105 hx
      refine wc_skip ?_
      refine sq_n ?_
      refine wc_block ?_
      refine wc_seq ?_
      refine wc_region ?_
      refine wv rfl (r_move rfl) ?_
      refine wv rfl (r_move rfl) ?_
      obtain ⟨hg109, hx⟩ := xg_some hx
      refine wv rfl (r_rem rfl rfl hg109) ?_
      obtain ⟨hg111, hx⟩ := xg_some hx
      refine wv rfl (r_add rfl rfl hg111) ?_
      refine wv rfl (r_cvt8 Try.underlying3 Try.underlying5 rfl) ?_
      obtain ⟨hg116, hx⟩ := xg_some hx
      refine w_push (f := fY) (y8 ((n92 % 128) + 128)) rfl rfl Try.underlying48 sz5 rfl rfl rfl rfl (fun _ => rfl) hM (fun _ => zP (pV _ rfl) zN) rfl hg116 rfl ?_; intro u114 s115 w113 hM
      refine wv rfl (r_assign rfl) ?_
      refine wl_nil ?_
      refine sq_n ?_
      refine wc_region ?_
      refine wv rfl (r_move rfl) ?_
      obtain ⟨hg120, hx⟩ := xg_some hx
      refine wv rfl (r_quo rfl rfl hg120) ?_
      refine wv rfl (r_assign rfl) ?_
      refine wl_nil ?_
      refine bk_n ?_
      obtain rfl := Option.some.inj hx
      exact lp_end (m100, n92 / 128, out93 ++ [y8 ((n92 % 128) + 128)], s115) (Nat.lt_succ_self _) ⟨rfl, rfl, trivial⟩ ⟨hM, hx102⟩
    · replace hx := xif_f hc105 hx
      refine wc_exit ?_
      refine sq_exit ?_
      refine lp1_exit ?_
      obtain rfl := Option.some.inj hx
      obtain rfl := Option.some.inj hx102
      replace hx := hx91
      try dsimp only [Sum.elim_inl, Sum.elim_inr] at hx
      refine bk_here ?_
      refine sq_n ?_
      refine wc_seq ?_
      refine wc_region ?_
      refine wv rfl (r_move rfl) ?_
      refine wv rfl (r_move rfl) ?_
      refine wv rfl (r_cvt8 Try.underlying3 Try.underlying5 rfl) ?_
      obtain ⟨hg128, hx⟩ := xg_some hx
      refine w_push (f := fY) (y8 n92) rfl rfl Try.underlying48 sz5 rfl rfl rfl rfl (fun _ => rfl) hM (fun _ => zP (pV _ rfl) zN) rfl hg128 rfl ?_; intro u126 s127 w125 hM
      refine wv rfl (r_assign rfl) ?_
      refine wv rfl (r_assign rfl) ?_
      refine wl_nil ?_
      refine sq_n ?_
      refine wc_ret ?_
      obtain rfl := Option.some.inj hx
      refine fin_ret [s127.v, (.bool true)] ⟨rfl, rfl, trivial⟩ ?_
      replace hM := hM.t1
      have hM := hM.fewer rsN
      exact ⟨s127, rfl, hM.gives⟩

noncomputable def x_impl_putNums_b0 (_list : List Int) (_k13 : Nat) (x67 : Int) (out14 : List UInt8) : Option (Lr (List UInt8) (Sum (List UInt8) Unit)) :=
  Option.bind (x_impl_PutNum out14 x67) fun r49 => bif !r49.2 then (some (Lr.out (Sum.inr (())))) else (some (Lr.go r49.1))
noncomputable def x_impl_putNums_f0 (list : List Int) (k13 : Nat) (s68 : List UInt8) : Option (Lr (List UInt8) (Sum (List UInt8) Unit)) := x_impl_putNums_b0 list k13 (el list k13) s68
noncomputable def x_impl_putNums (b : List UInt8) (list : List Int) : Option (List UInt8 × Bool) :=
  xg (0 + b.length ≤ 1099511627776) <| Option.bind (eachN (x_impl_putNums_f0 list) (fun (s68 : List UInt8) => (Sum.inl s68 : Sum (List UInt8) Unit)) list.length 0 ([] ++ b)) fun (y69 : Sum (List UInt8) Unit) => Sum.elim (fun y70 => some (y70, true)) (fun _y71 => some ([], false)) y69
theorem ct_impl_putNums (w : World) (X S : Bs) (b : List UInt8) (s_b : Sv) (list : List Int) (s_list : Sv) (hS : ∀ b, S b → b < w.heap.size ∧ ¬ X b) (a_b_0 : (cSl 1 fY b).rd S w s_b.v) (a_list_0 : (cSl 1 fI list).rd S w s_list.v) (oL : Sep [] X w) {r : List UInt8 × Bool} (hx : x_impl_putNums b list = some r) :
    Ret Try.prog 41 [s_b.v, s_list.v] w (fun u w' => ∃ y : Sv, u = .tuple #[y.v, (.bool r.2)] ∧ Gives X S w [oC (cSl 1 fY r.1) y.v] [] w') := by
  unfold x_impl_putNums at hx
  refine enter Try.func41 rfl Try.ntmps41 (by kernel_rfl) rfl ?_
  have hM := St.enter oL hS
  have hM := hM.addE (r := rV s_b.v (cSl 1 fY b)) a_b_0
  have hM := hM.addE (r := rV s_list.v (cSl 1 fI list)) a_list_0
  refine wc_seq ?_
  refine wc_region ?_
  refine wv rfl (r_assign rfl) ?_
  refine wv rfl (r_assign rfl) ?_
  refine wl_nil ?_
  refine sq_n ?_
  refine wc_seq ?_
  refine wc_region ?_
  refine wv rfl (r_move rfl) ?_
  have hM := hM.nil0 (T := UInt8) 1 fY
  obtain ⟨hg83, hx⟩ := xg_some hx
  refine w_ex rfl (x_append Try.underlying48 sz5 rfl rfl (hM.seeR (.tail _ (.head _))) flY hM hg83 rfl ?_); intro s81 w80 hM
  refine wv rfl (r_assign rfl) ?_
  refine wl_nil ?_
  refine sq_n ?_
  refine wc_seq ?_
  refine wc_seq ?_
  refine wc_region ?_
  refine wv rfl (r_move rfl) ?_
  refine wv rfl (r_lenC Try.underlying23 rfl (hM.seeR (.head _))) ?_
  refine wv rfl (r_move rfl) ?_
  refine wl_nil ?_
  refine sq_n ?_
  refine wc_block ?_
  obtain ⟨y89, hx, hx90⟩ := bind_some' hx
  have hM := hM.fewer (rsC (.head _) rsN)
  replace hM : St ⟨w, X, S⟩ [oC (cSl 1 fY ([] ++ b)) s81.v] [rV s_list.v (cSl 1 fI list)] _ := hM
  have hl97 := Cs.le (hM.seeR (.head _))
  refine wc_loop (un fun (m94 : Nat) => un fun (k95 : Nat) => un fun (out91 : List UInt8) => fun (s93 : Sv) => [(6, s93.v), (13, s_list.v), (14, (.int .i64 (list.length : Int))), (15, (.int .i64 (k95 : Int)))]) (un fun (m94 : Nat) => un fun (k95 : Nat) => un fun (out91 : List UInt8) => fun (s93 : Sv) w' => St ⟨w, X, S⟩ [oC (cSl 1 fY out91) s93.v] [rV s_list.v (cSl 1 fI list)] w' ∧ eachN _ _ m94 k95 out91 = some y89 ∧ k95 + m94 = list.length) (fun p => p.1) (list.length, 0, [] ++ b, s81) ⟨rfl, rfl, rfl, rfl, trivial⟩ ⟨hM, hx, Nat.zero_add _⟩ ?_
  rintro ⟨m94, k95, out91, s93⟩ w98 ⟨hM, hx, hk96⟩
  refine wc_seq ?_
  refine wc_region ?_
  refine wv rfl (r_lss rfl rfl) ?_
  refine wl_nil ?_
  refine sq_n ?_
  refine wc_seq ?_
  refine wc_cond rfl (fun hc100 => ?_) (fun hc100 => ?_)
  · replace hc100 := of_decide_eq_true hc100
    obtain ⟨m101, z102, rfl, hk96, hx, hx103⟩ := eachN_step hx hk96 hc100
    unfold x_impl_putNums_f0 x_impl_putNums_b0 at hx
    try dsimp only at hx
    refine wc_skip ?_
    refine sq_n ?_
    refine wc_seq ?_
    refine wc_block ?_
    refine wc_seq ?_
    refine wc_region ?_
    have hi105 : k95 < list.length := by omega
    refine wv rfl (r_ixC Try.underlying23 sz3 rfl rfl (hM.seeR (.head _)) ⟨by omega, hc100⟩) ?_
    refine wv rfl (r_ld Try.underlying3 rfl rfl (Cs.get (i := k95) (j := 0) (hM.seeR (.head _)) (fun _ => rfl) hi105 rfl)) ?_
    refine wv rfl (r_assign rfl) ?_
    refine wl_nil ?_
    refine sq_n ?_
    refine wc_seq ?_
    refine wc_region ?_
    refine wv rfl (r_move rfl) ?_
    refine wv rfl (r_move rfl) ?_
    obtain ⟨r110, h111, hx⟩ := bind_some' hx
    refine w_call rfl rfl (hM.callO (l := []) fun X S oL hS hR hO => ct_impl_PutNum _ X S out91 s93 (el list k95) hS (seeA hO (.head _)) oL h111) ?_
    rintro _ w112 ⟨s113, rfl, hM⟩
    replace hM : St ⟨w, X, S⟩ [oC (cSl 1 fY r110.1) s113.v, oC (cSl 1 fY out91) s93.v] [rV s_list.v (cSl 1 fI list)] _ := hM
    refine wv rfl (r_move rfl) ?_
    refine wv rfl (r_extract rfl rfl) ?_
    refine wv rfl (r_extract rfl rfl) ?_
    refine wv rfl (r_assign rfl) ?_
    refine wv rfl (r_assign rfl) ?_
    refine wl_nil ?_
    refine sq_n ?_
    refine wc_seq ?_
    refine wc_seq ?_
    refine wc_region ?_
    refine wv rfl (r_move rfl) ?_
    refine wv rfl (r_not rfl) ?_
    refine wl_nil ?_
    refine sq_n ?_
    refine wc_cond rfl (fun hc122 => ?_) (fun hc122 => ?_)
    · replace hx := xif_t hc122 hx
      refine wc_seq ?_
      refine wc_region ?_
      refine wv rfl (r_assign rfl) ?_
      refine wv rfl (r_assign rfl) ?_
      refine wl_nil ?_
      refine sq_n ?_
      refine wc_ret ?_
      refine sq_ret ?_
      refine bk_ret ?_
      refine sq_ret ?_
      refine lp1_ret ?_
      obtain rfl := Option.some.inj hx
      obtain rfl := Option.some.inj hx103
      replace hx := hx90
      try dsimp only [Sum.elim_inl, Sum.elim_inr] at hx
      refine bk_ret ?_
      refine sq_ret ?_
      obtain rfl := Option.some.inj hx
      have hM := hM.nil0 (T := UInt8) 1 fY
      refine fin_ret [nS.v, (.bool false)] ⟨rfl, rfl, trivial⟩ ?_
      replace hM := hM.t1
      have hM := hM.fewer rsN
      exact ⟨nS, rfl, hM.gives⟩
    · replace hx := xif_f hc122 hx
      refine wc_skip ?_
      refine sq_n ?_
      refine wc_region ?_
      refine wv rfl (r_move rfl) ?_
      refine wv rfl (r_assign rfl) ?_
      refine wl_nil ?_
      refine bk_n ?_
      refine sq_n ?_
      refine wc_region ?_
      refine wv rfl (r_add rfl rfl ⟨by omega, by omega⟩) ?_
      refine wv rfl (r_move rfl) ?_
      refine wl_nil ?_
      obtain rfl := Option.some.inj hx
      replace hM := hM.t1
      exact lp_end (m101, k95 + 1, r110.1, s113) (Nat.lt_succ_self _) ⟨rfl, rfl, rfl, rfl, trivial⟩ ⟨hM, hx103, hk96⟩
  · replace hc100 := of_decide_eq_false hc100
    obtain rfl := eachN_end hx hk96 hc100
    refine wc_exit ?_
    refine sq_exit ?_
    refine lp1_exit ?_
    replace hx := hx90
    try dsimp only [Sum.elim_inl, Sum.elim_inr] at hx
    refine bk_here ?_
    refine sq_n ?_
    refine wc_seq ?_
    refine wc_region ?_
    refine wv rfl (r_move rfl) ?_
    refine wv rfl (r_assign rfl) ?_
    refine wv rfl (r_assign rfl) ?_
    refine wl_nil ?_
    refine sq_n ?_
    refine wc_ret ?_
    obtain rfl := Option.some.inj hx
    refine fin_ret [s93.v, (.bool true)] ⟨rfl, rfl, trivial⟩ ?_
    replace hM := hM.t1
    have hM := hM.fewer rsN
    exact ⟨s93, rfl, hM.gives⟩

noncomputable def x_impl_PutOp_b0 (_r12 : List DPart) (_k28 : Nat) (x128 : DPart) (list29 : List Int) : Option (Lr (List Int) (List Int)) :=
  Option.bind (x_impl_size x128) fun r94 => xg (inI (4 * r94)) <| xg (inI ((4 * r94) + (x128.kind))) <| xg (list29.length + [(4 * r94) + (x128.kind)].length ≤ 1099511627776) <| xg ((list29 ++ [(4 * r94) + (x128.kind)]).length + (x128.signs).length ≤ 1099511627776) <| some (Lr.go ((list29 ++ [(4 * r94) + (x128.kind)]) ++ (x128.signs)))
noncomputable def x_impl_PutOp_f0 (r12 : List DPart) (k28 : Nat) (s129 : List Int) : Option (Lr (List Int) (List Int)) := x_impl_PutOp_b0 r12 k28 (el r12 k28) s129
noncomputable def x_impl_PutOp (b : List UInt8) (o : List DPart) : Option (List UInt8 × Bool) :=
  Option.bind (x_impl_OpOk o) fun r4 => bif !r4 then (some ([], false)) else (Option.bind (x_impl_OpNorm o) fun r12 => Option.bind (eachN (x_impl_PutOp_f0 r12) (fun (s129 : List Int) => (s129 : List Int)) r12.length 0 [(r12.length : Int)]) fun (y130 : List Int) => Option.bind (x_impl_putNums b y130) fun r135 => some (r135.1, r135.2))
theorem ct_impl_PutOp (w : World) (X S : Bs) (b : List UInt8) (s_b : Sv) (o : List DPart) (s_o : Sv) (hS : ∀ b, S b → b < w.heap.size ∧ ¬ X b) (a_b_0 : (cSl 1 fY b).rd S w s_b.v) (a_o_0 : (cSl 3 fDPart o).rd S w s_o.v) (oL : Sep [] X w) {r : List UInt8 × Bool} (hx : x_impl_PutOp b o = some r) :
    Ret Try.prog 42 [s_b.v, s_o.v] w (fun u w' => ∃ y : Sv, u = .tuple #[y.v, (.bool r.2)] ∧ Gives X S w [oC (cSl 1 fY r.1) y.v] [] w') := by
  unfold x_impl_PutOp at hx
  refine enter Try.func42 rfl Try.ntmps42 (by kernel_rfl) rfl ?_
  have hM := St.enter oL hS
  have hM := hM.addE (r := rV s_b.v (cSl 1 fY b)) a_b_0
  have hM := hM.addE (r := rV s_o.v (cSl 3 fDPart o)) a_o_0
  refine wc_seq ?_
  refine wc_region ?_
  refine wv rfl (r_assign rfl) ?_
  refine wv rfl (r_assign rfl) ?_
  refine wl_nil ?_
  refine sq_n ?_
  refine wc_seq ?_
  refine wc_seq ?_
  refine wc_region ?_
  refine wv rfl (r_move rfl) ?_
  obtain ⟨r147, h148, hx⟩ := bind_some' hx
  refine w_call rfl rfl (hM.callV fun X S oL hS hR hO => ct_impl_OpOk _ X S o s_o hS (hR _ (.head _)) oL h148) ?_
  rintro _ w149 ⟨rfl, hR150⟩
  have hM := hM.call hR150
  refine wv rfl (r_not rfl) ?_
  refine wl_nil ?_
  refine sq_n ?_
  refine wc_cond rfl (fun hc152 => ?_) (fun hc152 => ?_)
  · replace hx := xif_t hc152 hx
    refine wc_seq ?_
    refine wc_region ?_
    refine wv rfl (r_assign rfl) ?_
    refine wv rfl (r_assign rfl) ?_
    refine wl_nil ?_
    refine sq_n ?_
    refine wc_ret ?_
    refine sq_ret ?_
    obtain rfl := Option.some.inj hx
    have hM := hM.nil0 (T := UInt8) 1 fY
    refine fin_ret [nS.v, (.bool false)] ⟨rfl, rfl, trivial⟩ ?_
    replace hM := hM.t1
    have hM := hM.fewer rsN
    exact ⟨nS, rfl, hM.gives⟩
  · replace hx := xif_f hc152 hx
    refine wc_skip ?_
    refine sq_n ?_
    refine wc_seq ?_
    refine wc_region ?_
    refine wv rfl (r_move rfl) ?_
    obtain ⟨r157, h158, hx⟩ := bind_some' hx
    refine w_call rfl rfl (hM.callO (l := []) fun X S oL hS hR hO => ct_impl_OpNorm _ X S o s_o hS (hR _ (.head _)) oL h158) ?_
    rintro _ w159 ⟨s160, rfl, hM⟩
    replace hM : St ⟨w, X, S⟩ [oC (cSl 3 fDPart r157) s160.v] [rV s_o.v (cSl 3 fDPart o), rV s_b.v (cSl 1 fY b)] _ := hM
    refine wv rfl (r_assign rfl) ?_
    refine wl_nil ?_
    refine sq_n ?_
    refine wc_seq ?_
    refine wc_region ?_
    refine wv rfl (r_move rfl) ?_
    refine wv rfl (r_lenC Try.underlying33 rfl (hM.seeO (.head _))) ?_
    refine w_ex rfl (x_lit (f := fI) (own := []) [(r157.length : Int)] [(.int .i64 (r157.length : Int))] 1 Try.underlying23 sz3 (fun _ => rfl) rfl rfl rfl rfl rfl (by kernel_rfl) (fun _ => zP (pV _ rfl) zN) hM ?_); intro s166 w165 hR167 hM
    refine wv rfl (r_assign rfl) ?_
    refine wl_nil ?_
    refine sq_n ?_
    refine wc_seq ?_
    refine wc_seq ?_
    refine wc_region ?_
    refine wv rfl (r_move rfl) ?_
    refine wv rfl (r_lenC Try.underlying33 rfl (hM.seeO (.tail _ (.head _)))) ?_
    refine wv rfl (r_move rfl) ?_
    refine wl_nil ?_
    refine sq_n ?_
    refine wc_block ?_
    obtain ⟨y173, hx, hx174⟩ := bind_some' hx
    replace hM := hM.p1
    have hM := hM.fewer (rsC (.tail _ (.head _)) rsN)
    replace hM : St ⟨w, X, S⟩ [oC (cSl 3 fDPart r157) s160.v, oC (cSl 1 fI [(r157.length : Int)]) s166.v] [rV s_b.v (cSl 1 fY b)] _ := hM
    have hl181 := Cs.le (hM.seeO (.head _))
    refine wc_loop (un fun (m178 : Nat) => un fun (k179 : Nat) => un fun (list175 : List Int) => fun (s177 : Sv) => [(0, s_b.v), (7, s177.v), (18, s160.v), (19, (.int .i64 (r157.length : Int))), (20, (.int .i64 (k179 : Int)))]) (un fun (m178 : Nat) => un fun (k179 : Nat) => un fun (list175 : List Int) => fun (s177 : Sv) w' => St ⟨w, X, S⟩ [oC (cSl 3 fDPart r157) s160.v, oC (cSl 1 fI list175) s177.v] [rV s_b.v (cSl 1 fY b)] w' ∧ eachN _ _ m178 k179 list175 = some y173 ∧ k179 + m178 = r157.length) (fun p => p.1) (r157.length, 0, [(r157.length : Int)], s166) ⟨rfl, rfl, rfl, rfl, rfl, trivial⟩ ⟨hM, hx, Nat.zero_add _⟩ ?_
    rintro ⟨m178, k179, list175, s177⟩ w182 ⟨hM, hx, hk180⟩
    refine wc_seq ?_
    refine wc_region ?_
    refine wv rfl (r_lss rfl rfl) ?_
    refine wl_nil ?_
    refine sq_n ?_
    refine wc_seq ?_
    refine wc_cond rfl (fun hc184 => ?_) (fun hc184 => ?_)
    · replace hc184 := of_decide_eq_true hc184
      obtain ⟨m185, z186, rfl, hk180, hx, hx187⟩ := eachN_step hx hk180 hc184
      unfold x_impl_PutOp_f0 x_impl_PutOp_b0 at hx
      try dsimp only at hx
      refine wc_skip ?_
      refine sq_n ?_
      refine wc_seq ?_
      refine wc_block ?_
      refine wc_seq ?_
      refine wc_region ?_
      have hi189 : k179 < r157.length := by omega
      refine wv rfl (r_ixC Try.underlying33 sz105 rfl rfl (hM.seeO (.head _)) ⟨by omega, hc184⟩) ?_
      obtain ⟨s191, hM, hc192⟩ := hM.leafO (i := k179) (j := 2) (fun _ => rfl) hi189 rfl
      refine wv rfl (r_ldC (o := k179 * 3) Try.underlying105 sz105 rfl (us := [(.int .i64 ((el r157 k179).kind)), (.int .i64 ((el r157 k179).n)), s191.v]) rfl (hM.seeOV (.head _)) hi189 ⟨(Cs.get (i := k179) (j := 0) (hM.seeOV (.head _)) (fun _ => rfl) hi189 rfl), (Cs.get (i := k179) (j := 1) (hM.seeOV (.head _)) (fun _ => rfl) hi189 rfl), (hc192 _ (Rel.refl _)), trivial⟩) ?_
      refine w_ex rfl (x_alloc sz105 hM ?_); intro b194 w193 hR195 hM
      replace hM : St ⟨w, X, S⟩ [oBox b194 #[(.int .i64 0), (.int .i64 0), (.slice none 0 0)] 105, oV (oC (cSl 3 fDPart r157) s160.v) [vR s191.v (cSl 1 fI ((el r157 k179).signs)), vC (eaddr s160.v (k179 * 3 + 2)) s191.v], oC (cSl 1 fI list175) s177.v] [rV s_b.v (cSl 1 fY b)] _ := hM
      refine w_exu (x_stB #[(.int .i64 ((el r157 k179).kind)), (.int .i64 ((el r157 k179).n)), s191.v] sz105 rfl rfl rfl rfl rfl rfl hM ?_); intro w197 hM
      refine wl_nil ?_
      refine sq_n ?_
      refine wc_seq ?_
      refine wc_draw [(0, 0), (1, 0), (2, 0), (3, 0), (4, 0), (5, 0), (6, 0), (7, 2), (8, 2), (9, 0)] Try_mixed (by kernel_rfl) rfl (by kernel_rfl) rfl ?_
      refine ov rfl (fun w' h' => r_move rfl) ?_
      refine ov rfl (fun w' h' => r_ldBS Try.underlying105 sz105 rfl (us := [(.int .i64 ((el r157 k179).kind)), (.int .i64 ((el r157 k179).n)), s191.v]) rfl (hM.call h') (.head _) rfl) ?_
      obtain ⟨r201, h202, hx⟩ := bind_some' hx
      refine oc rfl rfl (fun w' h' => (hM.call h').callV fun X S oL hS hR hO => ct_impl_size _ X S (el r157 k179) s191 hS (seeAW hO (.tail _ (.head _)) (.head _)) oL h202) ?_
      obtain ⟨hg205, hx⟩ := xg_some hx
      refine ov rfl (fun w' h' => r_mul rfl rfl hg205) ?_
      refine ov rfl (fun w' h' => r_fld Try.underlying105 rfl rfl sz3 rfl) ?_
      refine ov rfl (fun w' h' => r_ldB Try.underlying3 rfl rfl (hM.call h') (.head _) rfl) ?_
      obtain ⟨hg209, hx⟩ := xg_some hx
      refine ov rfl (fun w' h' => r_add rfl rfl hg209) ?_
      refine o_ex rfl fun w213 h214 => ?_
      have hM := hM.call h214
      refine x_lit (f := fI) (own := []) [(4 * r201) + ((el r157 k179).kind)] [(.int .i64 ((4 * r201) + ((el r157 k179).kind)))] 1 Try.underlying23 sz3 (fun _ => rfl) rfl rfl rfl rfl rfl (by kernel_rfl) (fun _ => zP (pV _ rfl) zN) hM ?_; intro s211 w210 hR212 hM
      replace hM := hM.p3
      obtain ⟨hg218, hx⟩ := xg_some hx
      refine o_ex rfl fun w220 h221 => ?_
      have hM := hM.call h221
      refine x_append Try.underlying23 sz3 rfl rfl (hM.seeO (.tail _ (.head _))) flI hM hg218 rfl ?_; intro s217 w216 hM
      refine ov rfl (fun w' h' => r_assign rfl) ?_
      refine o_nil fun w223 hw224 => ?_
      have hM := hM.call hw224
      refine sq_n ?_
      refine wc_region ?_
      refine wv rfl (r_move rfl) ?_
      refine wv rfl (r_fld Try.underlying105 rfl rfl sz23 rfl) ?_
      refine wv rfl (r_ldB Try.underlying23 rfl rfl hM (.tail _ (.tail _ (.head _))) rfl) ?_
      obtain ⟨hg230, hx⟩ := xg_some hx
      refine w_ex rfl (x_append Try.underlying23 sz3 rfl rfl (hM.seeV (.tail _ (.tail _ (.tail _ (.head _)))) (.head _)) flI hM hg230 rfl ?_); intro s229 w228 hM
      refine wv rfl (r_assign rfl) ?_
      refine wl_nil ?_
      refine bk_n ?_
      refine sq_n ?_
      refine wc_region ?_
      refine wv rfl (r_add rfl rfl ⟨by omega, by omega⟩) ?_
      refine wv rfl (r_move rfl) ?_
      refine wl_nil ?_
      obtain rfl := Option.some.inj hx
      replace hM := hM.p3
      replace hM : St ⟨w, X, S⟩ [oC (cSl 3 fDPart r157) s160.v, oC (cSl 1 fI ((list175 ++ [(4 * r201) + ((el r157 k179).kind)]) ++ ((el r157 k179).signs))) s229.v, oC (cSl 1 fI [(4 * r201) + ((el r157 k179).kind)]) s211.v, oBox b194 #[(.int .i64 ((el r157 k179).kind)), (.int .i64 ((el r157 k179).n)), s191.v] 105] [rV s_b.v (cSl 1 fY b)] _ := hM.unview
      replace hM := hM.t2
      exact lp_end (m185, k179 + 1, (list175 ++ [(4 * r201) + ((el r157 k179).kind)]) ++ ((el r157 k179).signs), s229) (Nat.lt_succ_self _) ⟨rfl, rfl, rfl, rfl, rfl, trivial⟩ ⟨hM, hx187, hk180⟩
    · replace hc184 := of_decide_eq_false hc184
      obtain rfl := eachN_end hx hk180 hc184
      refine wc_exit ?_
      refine sq_exit ?_
      refine lp1_exit ?_
      replace hx := hx174
      try dsimp only [Sum.elim_inl, Sum.elim_inr] at hx
      refine bk_here ?_
      refine sq_n ?_
      refine wc_seq ?_
      refine wc_region ?_
      refine wv rfl (r_move rfl) ?_
      refine wv rfl (r_move rfl) ?_
      obtain ⟨r237, h238, hx⟩ := bind_some' hx
      refine w_call rfl rfl (hM.callO (l := []) fun X S oL hS hR hO => ct_impl_putNums _ X S b s_b list175 s177 hS (hR _ (.head _)) (seeA hO (.tail _ (.head _))) oL h238) ?_
      rintro _ w239 ⟨s240, rfl, hM⟩
      replace hM : St ⟨w, X, S⟩ [oC (cSl 1 fY r237.1) s240.v, oC (cSl 3 fDPart r157) s160.v, oC (cSl 1 fI list175) s177.v] [rV s_b.v (cSl 1 fY b)] _ := hM
      refine wv rfl (r_extract rfl rfl) ?_
      refine wv rfl (r_extract rfl rfl) ?_
      refine wv rfl (r_assign rfl) ?_
      refine wv rfl (r_assign rfl) ?_
      refine wl_nil ?_
      refine sq_n ?_
      refine wc_ret ?_
      obtain rfl := Option.some.inj hx
      refine fin_ret [s240.v, (.bool r237.2)] ⟨rfl, rfl, trivial⟩ ?_
      replace hM := hM.t1
      have hM := hM.fewer rsN
      exact ⟨s240, rfl, hM.gives⟩

noncomputable def x_impl_DocBytes_b0 (_d : DDoc) (_k53 : Nat) (x162 : DEntry) (out54 : List UInt8) (ok55 : Bool) : Option (Lr (List UInt8 × Bool) (List UInt8 × Bool)) :=
  Option.bind (x_impl_putNums out54 [x162.client, x162.seq]) fun r131 => Option.bind (x_impl_PutOp r131.1 (x162.o)) fun r144 => Option.bind (bif ok55 then (some r131.2) else (some false)) fun c155 => some (Lr.go (r144.1, c155))
noncomputable def x_impl_DocBytes_f0 (d : DDoc) (k53 : Nat) (s163 : List UInt8 × Bool) : Option (Lr (List UInt8 × Bool) (List UInt8 × Bool)) := x_impl_DocBytes_b0 d k53 (el d.list k53) s163.1 s163.2
noncomputable def x_impl_DocBytes_b1 (_d : DDoc) (_k179 : Nat) (x239 : DSeen) (list180 : List Int) : Option (Lr (List Int) (List Int)) :=
  xg (list180.length + [x239.client, x239.seq, x239.rev].length ≤ 1099511627776) <| some (Lr.go (list180 ++ [x239.client, x239.seq, x239.rev]))
noncomputable def x_impl_DocBytes_f1 (d : DDoc) (k179 : Nat) (s240 : List Int) : Option (Lr (List Int) (List Int)) := x_impl_DocBytes_b1 d k179 (el d.seen k179) s240
noncomputable def x_impl_DocBytes (d : DDoc) : Option (List UInt8 × Bool) :=
  Option.bind (x_impl_DocOk d) fun r8 => bif !r8 then (some ([], false)) else (xg ([d.from_, (d.text.length : Int)].length + d.text.length ≤ 1099511627776) <| xg (([d.from_, (d.text.length : Int)] ++ d.text).length < 1099511627776) <| Option.bind (x_impl_putNums [] (([d.from_, (d.text.length : Int)] ++ d.text) ++ [(d.list.length : Int)])) fun r39 => Option.bind (eachN (x_impl_DocBytes_f0 d) (fun (s163 : List UInt8 × Bool) => ((s163.1, s163.2) : List UInt8 × Bool)) d.list.length 0 (r39.1, r39.2)) fun (y164 : List UInt8 × Bool) => Option.bind (eachN (x_impl_DocBytes_f1 d) (fun (s240 : List Int) => (s240 : List Int)) d.seen.length 0 [(d.seen.length : Int)]) fun (y241 : List Int) => Option.bind (x_impl_putNums y164.1 y241) fun r246 => Option.bind (bif !y164.2 then (some true) else (some (!r246.2))) fun c259 => bif c259 then (some ([], false)) else (some (r246.1, true)))
theorem ct_impl_DocBytes (w : World) (X S : Bs) (d : DDoc) (s_d_2 : Sv) (s_d_3 : Sv) (s_d_4 : Sv) (hS : ∀ b, S b → b < w.heap.size ∧ ¬ X b) (a_d_2 : (cSl 1 fI d.text).rd S w s_d_2.v) (a_d_3 : (cSl 3 fDEntry d.list).rd S w s_d_3.v) (a_d_4 : (cSl 3 fDSeen d.seen).rd S w s_d_4.v) (oL : Sep [] X w) {r : List UInt8 × Bool} (hx : x_impl_DocBytes d = some r) :
    Ret Try.prog 13 [(.agg #[(.string d.name), (.int .i64 d.from_), s_d_2.v, s_d_3.v, s_d_4.v])] w (fun u w' => ∃ y : Sv, u = .tuple #[y.v, (.bool r.2)] ∧ Gives X S w [oC (cSl 1 fY r.1) y.v] [] w') := by
  unfold x_impl_DocBytes at hx
  refine enter Try.func13 rfl Try.ntmps13 (by kernel_rfl) rfl ?_
  have hM := St.enter oL hS
  have hM := hM.addE (r := rV s_d_2.v (cSl 1 fI d.text)) a_d_2
  have hM := hM.addE (r := rV s_d_3.v (cSl 3 fDEntry d.list)) a_d_3
  have hM := hM.addE (r := rV s_d_4.v (cSl 3 fDSeen d.seen)) a_d_4
  refine wc_seq ?_
  refine wc_region ?_
  refine w_ex rfl (x_box rfl hM ?_); intro b271 w270 hR272 hM
  replace hM : St ⟨w, X, S⟩ [oBox b271 #[(.string d.name), (.int .i64 d.from_), s_d_2.v, s_d_3.v, s_d_4.v] 53] [rV s_d_4.v (cSl 3 fDSeen d.seen), rV s_d_3.v (cSl 3 fDEntry d.list), rV s_d_2.v (cSl 1 fI d.text)] _ := hM
  refine wv rfl (r_assign rfl) ?_
  refine wv rfl (r_assign rfl) ?_
  refine wl_nil ?_
  refine sq_n ?_
  refine wc_seq ?_
  refine wc_seq ?_
  refine wc_region ?_
  refine wv rfl (r_ldBS Try.underlying53 sz53 rfl (us := [(.string d.name), (.int .i64 d.from_), s_d_2.v, s_d_3.v, s_d_4.v]) rfl hM (.head _) rfl) ?_
  obtain ⟨r277, h278, hx⟩ := bind_some' hx
  refine w_call rfl rfl (hM.callV fun X S oL hS hR hO => ct_impl_DocOk _ X S d s_d_2 s_d_3 s_d_4 hS (hR _ (.tail _ (.tail _ (.head _)))) (hR _ (.tail _ (.head _))) (hR _ (.head _)) oL h278) ?_
  rintro _ w279 ⟨rfl, hR280⟩
  have hM := hM.call hR280
  refine wv rfl (r_not rfl) ?_
  refine wl_nil ?_
  refine sq_n ?_
  refine wc_cond rfl (fun hc282 => ?_) (fun hc282 => ?_)
  · replace hx := xif_t hc282 hx
    refine wc_seq ?_
    refine wc_region ?_
    refine wv rfl (r_assign rfl) ?_
    refine wv rfl (r_assign rfl) ?_
    refine wl_nil ?_
    refine sq_n ?_
    refine wc_ret ?_
    refine sq_ret ?_
    obtain rfl := Option.some.inj hx
    have hM := hM.nil0 (T := UInt8) 1 fY
    refine fin_ret [nS.v, (.bool false)] ⟨rfl, rfl, trivial⟩ ?_
    replace hM := hM.t1
    have hM := hM.fewer rsN
    exact ⟨nS, rfl, hM.gives⟩
  · replace hx := xif_f hc282 hx
    refine wc_skip ?_
    refine sq_n ?_
    refine wc_seq ?_
    refine wc_region ?_
    refine wv rfl (r_fld Try.underlying53 rfl rfl sz3 rfl) ?_
    refine wv rfl (r_ldB Try.underlying3 rfl rfl hM (.head _) rfl) ?_
    refine wv rfl (r_fld Try.underlying53 rfl rfl sz23 rfl) ?_
    refine wv rfl (r_ldB Try.underlying23 rfl rfl hM (.head _) rfl) ?_
    refine wv rfl (r_lenC Try.underlying23 rfl (hM.seeR (.tail _ (.tail _ (.head _))))) ?_
    refine w_ex rfl (x_lit (f := fI) (own := []) [d.from_, (d.text.length : Int)] [(.int .i64 d.from_), (.int .i64 (d.text.length : Int))] 2 Try.underlying23 sz3 (fun _ => rfl) rfl rfl rfl rfl rfl (by kernel_rfl) (fun _ => zP (pV _ rfl) (zP (pV _ rfl) zN)) hM ?_); intro s292 w291 hR293 hM
    refine wv rfl (r_fld Try.underlying53 rfl rfl sz23 rfl) ?_
    refine wv rfl (r_ldB Try.underlying23 rfl rfl hM (.tail _ (.head _)) rfl) ?_
    obtain ⟨hg299, hx⟩ := xg_some hx
    refine w_ex rfl (x_append Try.underlying23 sz3 rfl rfl (hM.seeR (.tail _ (.tail _ (.head _)))) flI hM hg299 rfl ?_); intro s298 w297 hM
    refine wv rfl (r_assign rfl) ?_
    refine wl_nil ?_
    refine sq_n ?_
    refine wc_seq ?_
    refine wc_region ?_
    refine wv rfl (r_move rfl) ?_
    refine wv rfl (r_fld Try.underlying53 rfl rfl sz36 rfl) ?_
    refine wv rfl (r_ldB Try.underlying36 rfl rfl hM (.tail _ (.head _)) rfl) ?_
    refine wv rfl (r_lenC Try.underlying36 rfl (hM.seeR (.tail _ (.head _)))) ?_
    obtain ⟨hg309, hx⟩ := xg_some hx
    refine w_push (f := fI) (d.list.length : Int) rfl rfl Try.underlying23 sz3 rfl rfl rfl rfl (fun _ => rfl) hM (fun _ => zP (pV _ rfl) zN) rfl hg309 rfl ?_; intro u307 s308 w306 hM
    obtain ⟨r310, h311, hx⟩ := bind_some' hx
    refine w_call rfl rfl (hM.callO (l := []) fun X S oL hS hR hO => ct_impl_putNums _ X S [] nS (([d.from_, (d.text.length : Int)] ++ d.text) ++ [(d.list.length : Int)]) s308 hS (rd_nil _ _) (seeA hO (.head _)) oL h311) ?_
    rintro _ w312 ⟨s313, rfl, hM⟩
    replace hM : St ⟨w, X, S⟩ [oC (cSl 1 fY r310.1) s313.v, oC (cSl 1 fI (([d.from_, (d.text.length : Int)] ++ d.text) ++ [(d.list.length : Int)])) s308.v, oBox b271 #[(.string d.name), (.int .i64 d.from_), s_d_2.v, s_d_3.v, s_d_4.v] 53] [rV s_d_4.v (cSl 3 fDSeen d.seen), rV s_d_3.v (cSl 3 fDEntry d.list), rV s_d_2.v (cSl 1 fI d.text)] _ := hM
    refine wv rfl (r_move rfl) ?_
    refine wv rfl (r_extract rfl rfl) ?_
    refine wv rfl (r_extract rfl rfl) ?_
    refine wv rfl (r_assign rfl) ?_
    refine wv rfl (r_assign rfl) ?_
    refine wl_nil ?_
    refine sq_n ?_
    refine wc_seq ?_
    refine wc_seq ?_
    refine wc_region ?_
    refine wv rfl (r_fld Try.underlying53 rfl rfl sz36 rfl) ?_
    refine wv rfl (r_ldB Try.underlying36 rfl rfl hM (.tail _ (.tail _ (.head _))) rfl) ?_
    refine wv rfl (r_lenC Try.underlying36 rfl (hM.seeR (.tail _ (.head _)))) ?_
    refine wv rfl (r_move rfl) ?_
    refine wl_nil ?_
    refine sq_n ?_
    refine wc_block ?_
    obtain ⟨y324, hx, hx325⟩ := bind_some' hx
    replace hM := hM.p2
    replace hM := hM.t2
    have hM := hM.fewer (rsC (.tail _ (.tail _ (.head _))) (rsC (.tail _ (.head _)) (rsC (.head _) rsN)))
    replace hM : St ⟨w, X, S⟩ [oBox b271 #[(.string d.name), (.int .i64 d.from_), s_d_2.v, s_d_3.v, s_d_4.v] 53, oC (cSl 1 fY r310.1) s313.v] [rV s_d_2.v (cSl 1 fI d.text), rV s_d_3.v (cSl 3 fDEntry d.list), rV s_d_4.v (cSl 3 fDSeen d.seen)] _ := hM
    have hl333 := Cs.le (hM.seeR (.tail _ (.head _)))
    refine wc_loop (un fun (m330 : Nat) => un fun (k331 : Nat) => un fun (out326 : List UInt8) => un fun (ok327 : Bool) => fun (s329 : Sv) => [(1, (.pointer (some ⟨b271, 0, none⟩))), (5, s329.v), (6, (.bool ok327)), (37, s_d_3.v), (38, (.int .i64 (d.list.length : Int))), (39, (.int .i64 (k331 : Int)))]) (un fun (m330 : Nat) => un fun (k331 : Nat) => un fun (out326 : List UInt8) => un fun (ok327 : Bool) => fun (s329 : Sv) w' => St ⟨w, X, S⟩ [oBox b271 #[(.string d.name), (.int .i64 d.from_), s_d_2.v, s_d_3.v, s_d_4.v] 53, oC (cSl 1 fY out326) s329.v] [rV s_d_2.v (cSl 1 fI d.text), rV s_d_3.v (cSl 3 fDEntry d.list), rV s_d_4.v (cSl 3 fDSeen d.seen)] w' ∧ eachN _ _ m330 k331 (out326, ok327) = some y324 ∧ k331 + m330 = d.list.length) (fun p => p.1) (d.list.length, 0, r310.1, r310.2, s313) ⟨rfl, rfl, rfl, rfl, rfl, rfl, trivial⟩ ⟨hM, hx, Nat.zero_add _⟩ ?_
    rintro ⟨m330, k331, out326, ok327, s329⟩ w334 ⟨hM, hx, hk332⟩
    refine wc_seq ?_
    refine wc_region ?_
    refine wv rfl (r_lss rfl rfl) ?_
    refine wl_nil ?_
    refine sq_n ?_
    refine wc_seq ?_
    refine wc_cond rfl (fun hc336 => ?_) (fun hc336 => ?_)
    · replace hc336 := of_decide_eq_true hc336
      obtain ⟨m337, z338, rfl, hk332, hx, hx339⟩ := eachN_step hx hk332 hc336
      unfold x_impl_DocBytes_f0 x_impl_DocBytes_b0 at hx
      try dsimp only at hx
      refine wc_skip ?_
      refine sq_n ?_
      refine wc_seq ?_
      refine wc_block ?_
      refine wc_seq ?_
      refine wc_region ?_
      have hi341 : k331 < d.list.length := by omega
      refine wv rfl (r_ixC Try.underlying36 sz73 rfl rfl (hM.seeR (.tail _ (.head _))) ⟨by omega, hc336⟩) ?_
      obtain ⟨s343, hM, hc344⟩ := hM.leaf (i := k331) (j := 2) (.tail _ (.head _)) (fun _ => rfl) hi341 rfl
      refine wv rfl (r_ldC (o := k331 * 3) Try.underlying73 sz73 rfl (us := [(.int .i64 ((el d.list k331).client)), (.int .i64 ((el d.list k331).seq)), s343.v]) rfl (hM.seeR (.tail _ (.tail _ (.head _)))) hi341 ⟨(Cs.get (i := k331) (j := 0) (hM.seeR (.tail _ (.tail _ (.head _)))) (fun _ => rfl) hi341 rfl), (Cs.get (i := k331) (j := 1) (hM.seeR (.tail _ (.tail _ (.head _)))) (fun _ => rfl) hi341 rfl), (hc344 _ (Rel.refl _)), trivial⟩) ?_
      refine w_ex rfl (x_alloc sz73 hM ?_); intro b346 w345 hR347 hM
      replace hM : St ⟨w, X, S⟩ [oBox b346 #[(.int .i64 0), (.int .i64 0), (.slice none 0 0)] 73, oBox b271 #[(.string d.name), (.int .i64 d.from_), s_d_2.v, s_d_3.v, s_d_4.v] 53, oC (cSl 1 fY out326) s329.v] [rV s343.v (cSl 3 fDPart ((el d.list k331).o)), rV s_d_2.v (cSl 1 fI d.text), rV s_d_3.v (cSl 3 fDEntry d.list), rV s_d_4.v (cSl 3 fDSeen d.seen)] _ := hM
      refine w_exu (x_stB #[(.int .i64 ((el d.list k331).client)), (.int .i64 ((el d.list k331).seq)), s343.v] sz73 rfl rfl rfl rfl rfl rfl hM ?_); intro w349 hM
      refine wl_nil ?_
      refine sq_n ?_
      refine wc_seq ?_
      refine wc_region ?_
      refine wv rfl (r_move rfl) ?_
      refine wv rfl (r_fld Try.underlying73 rfl rfl sz3 rfl) ?_
      refine wv rfl (r_ldB Try.underlying3 rfl rfl hM (.head _) rfl) ?_
      refine wv rfl (r_fld Try.underlying73 rfl rfl sz3 rfl) ?_
      refine wv rfl (r_ldB Try.underlying3 rfl rfl hM (.head _) rfl) ?_
      refine w_ex rfl (x_lit (f := fI) (own := []) [(el d.list k331).client, (el d.list k331).seq] [(.int .i64 ((el d.list k331).client)), (.int .i64 ((el d.list k331).seq))] 2 Try.underlying23 sz3 (fun _ => rfl) rfl rfl rfl rfl rfl (by kernel_rfl) (fun _ => zP (pV _ rfl) (zP (pV _ rfl) zN)) hM ?_); intro s357 w356 hR358 hM
      obtain ⟨r360, h361, hx⟩ := bind_some' hx
      refine w_call rfl rfl (hM.callO (l := []) fun X S oL hS hR hO => ct_impl_putNums _ X S out326 s329 [(el d.list k331).client, (el d.list k331).seq] s357 hS (seeA hO (.tail _ (.tail _ (.tail _ (.head _))))) (seeA hO (.head _)) oL h361) ?_
      rintro _ w362 ⟨s363, rfl, hM⟩
      replace hM : St ⟨w, X, S⟩ [oC (cSl 1 fY r360.1) s363.v, oC (cSl 1 fI [(el d.list k331).client, (el d.list k331).seq]) s357.v, oBox b346 #[(.int .i64 ((el d.list k331).client)), (.int .i64 ((el d.list k331).seq)), s343.v] 73, oBox b271 #[(.string d.name), (.int .i64 d.from_), s_d_2.v, s_d_3.v, s_d_4.v] 53, oC (cSl 1 fY out326) s329.v] [rV s343.v (cSl 3 fDPart ((el d.list k331).o)), rV s_d_2.v (cSl 1 fI d.text), rV s_d_3.v (cSl 3 fDEntry d.list), rV s_d_4.v (cSl 3 fDSeen d.seen)] _ := hM
      refine wv rfl (r_move rfl) ?_
      refine wv rfl (r_extract rfl rfl) ?_
      refine wv rfl (r_extract rfl rfl) ?_
      refine wv rfl (r_assign rfl) ?_
      refine wv rfl (r_assign rfl) ?_
      refine wl_nil ?_
      refine sq_n ?_
      refine wc_seq ?_
      refine wc_region ?_
      refine wv rfl (r_move rfl) ?_
      refine wv rfl (r_fld Try.underlying73 rfl rfl sz33 rfl) ?_
      refine wv rfl (r_ldB Try.underlying33 rfl rfl hM (.tail _ (.tail _ (.head _))) rfl) ?_
      obtain ⟨r373, h374, hx⟩ := bind_some' hx
      refine w_call rfl rfl (hM.callO (l := []) fun X S oL hS hR hO => ct_impl_PutOp _ X S r360.1 s363 ((el d.list k331).o) s343 hS (seeA hO (.head _)) (hR _ (.head _)) oL h374) ?_
      rintro _ w375 ⟨s376, rfl, hM⟩
      replace hM : St ⟨w, X, S⟩ [oC (cSl 1 fY r373.1) s376.v, oC (cSl 1 fY r360.1) s363.v, oC (cSl 1 fI [(el d.list k331).client, (el d.list k331).seq]) s357.v, oBox b346 #[(.int .i64 ((el d.list k331).client)), (.int .i64 ((el d.list k331).seq)), s343.v] 73, oBox b271 #[(.string d.name), (.int .i64 d.from_), s_d_2.v, s_d_3.v, s_d_4.v] 53, oC (cSl 1 fY out326) s329.v] [rV s343.v (cSl 3 fDPart ((el d.list k331).o)), rV s_d_2.v (cSl 1 fI d.text), rV s_d_3.v (cSl 3 fDEntry d.list), rV s_d_4.v (cSl 3 fDSeen d.seen)] _ := hM
      refine wv rfl (r_move rfl) ?_
      refine wv rfl (r_extract rfl rfl) ?_
      refine wv rfl (r_extract rfl rfl) ?_
      refine wv rfl (r_assign rfl) ?_
      refine wl_nil ?_
      refine sq_n ?_
      refine wc_region ?_
      refine wv rfl (r_move rfl) ?_
      refine wv rfl (r_move rfl) ?_
      obtain ⟨c384, hx, hx387⟩ := bind_some' hx
      refine wl_mid 2 (fun _ : Unit => [(63, (.bool c384)), (1, (.pointer (some ⟨b271, 0, none⟩))), (5, s376.v), (37, s_d_3.v), (38, (.int .i64 (d.list.length : Int))), (39, (.int .i64 (k331 : Int)))]) (fun _ w' => St ⟨w, X, S⟩ [oC (cSl 1 fY r373.1) s376.v, oC (cSl 1 fY r360.1) s363.v, oC (cSl 1 fI [(el d.list k331).client, (el d.list k331).seq]) s357.v, oBox b346 #[(.int .i64 ((el d.list k331).client)), (.int .i64 ((el d.list k331).seq)), s343.v] 73, oBox b271 #[(.string d.name), (.int .i64 d.from_), s_d_2.v, s_d_3.v, s_d_4.v] 53, oC (cSl 1 fY out326) s329.v] [rV s343.v (cSl 3 fDPart ((el d.list k331).o)), rV s_d_2.v (cSl 1 fI d.text), rV s_d_3.v (cSl 3 fDEntry d.list), rV s_d_4.v (cSl 3 fDSeen d.seen)] w') ?_ ?_
      · rcases Bool.eq_false_or_eq_true ok327 with hg385 | hg385
        · replace hx := xif_t hg385 hx
          refine gv rfl hg385 rfl (r_move rfl) ?_
          refine wv rfl (p_t rfl hg385 rfl) ?_
          obtain rfl := Option.some.inj hx
          exact mid_nil () ⟨rfl, rfl, rfl, rfl, rfl, rfl, trivial⟩ hM
        · replace hx := xif_f hg385 hx
          refine gs rfl (isB_no hg385) rfl ?_
          refine wv rfl (p_f rfl hg385 rfl) ?_
          obtain rfl := Option.some.inj hx
          exact mid_nil () ⟨rfl, rfl, rfl, rfl, rfl, rfl, trivial⟩ hM
      rintro _ w389 hM
      replace hx := hx387
      refine wv rfl (r_assign rfl) ?_
      refine wl_nil ?_
      refine bk_n ?_
      refine sq_n ?_
      refine wc_region ?_
      refine wv rfl (r_add rfl rfl ⟨by omega, by omega⟩) ?_
      refine wv rfl (r_move rfl) ?_
      refine wl_nil ?_
      obtain rfl := Option.some.inj hx
      replace hM := hM.p4
      replace hM := hM.t2
      have hM := hM.fewer (rsC (.tail _ (.head _)) (rsC (.tail _ (.tail _ (.head _))) (rsC (.tail _ (.tail _ (.tail _ (.head _)))) rsN)))
      replace hM : St ⟨w, X, S⟩ [oBox b271 #[(.string d.name), (.int .i64 d.from_), s_d_2.v, s_d_3.v, s_d_4.v] 53, oC (cSl 1 fY r373.1) s376.v] [rV s_d_2.v (cSl 1 fI d.text), rV s_d_3.v (cSl 3 fDEntry d.list), rV s_d_4.v (cSl 3 fDSeen d.seen)] _ := hM
      exact lp_end (m337, k331 + 1, r373.1, c384, s376) (Nat.lt_succ_self _) ⟨rfl, rfl, rfl, rfl, rfl, rfl, trivial⟩ ⟨hM, hx339, hk332⟩
    · replace hc336 := of_decide_eq_false hc336
      obtain rfl := eachN_end hx hk332 hc336
      refine wc_exit ?_
      refine sq_exit ?_
      refine lp1_exit ?_
      replace hx := hx325
      try dsimp only [Sum.elim_inl, Sum.elim_inr] at hx
      refine bk_here ?_
      refine sq_n ?_
      refine wc_seq ?_
      refine wc_region ?_
      refine wv rfl (r_fld Try.underlying53 rfl rfl sz51 rfl) ?_
      refine wv rfl (r_ldB Try.underlying51 rfl rfl hM (.head _) rfl) ?_
      refine wv rfl (r_lenC Try.underlying51 rfl (hM.seeR (.tail _ (.tail _ (.head _))))) ?_
      refine w_ex rfl (x_lit (f := fI) (own := []) [(d.seen.length : Int)] [(.int .i64 (d.seen.length : Int))] 1 Try.underlying23 sz3 (fun _ => rfl) rfl rfl rfl rfl rfl (by kernel_rfl) (fun _ => zP (pV _ rfl) zN) hM ?_); intro s397 w396 hR398 hM
      refine wv rfl (r_assign rfl) ?_
      refine wl_nil ?_
      refine sq_n ?_
      refine wc_seq ?_
      refine wc_seq ?_
      refine wc_region ?_
      refine wv rfl (r_fld Try.underlying53 rfl rfl sz51 rfl) ?_
      refine wv rfl (r_ldB Try.underlying51 rfl rfl hM (.tail _ (.head _)) rfl) ?_
      refine wv rfl (r_lenC Try.underlying51 rfl (hM.seeR (.tail _ (.tail _ (.head _))))) ?_
      refine wv rfl (r_move rfl) ?_
      refine wl_nil ?_
      refine sq_n ?_
      refine wc_block ?_
      obtain ⟨y405, hx, hx406⟩ := bind_some' hx
      replace hM := hM.p2
      replace hM := hM.t2
      have hM := hM.fewer (rsC (.tail _ (.tail _ (.head _))) rsN)
      replace hM : St ⟨w, X, S⟩ [oC (cSl 1 fY out326) s329.v, oC (cSl 1 fI [(d.seen.length : Int)]) s397.v] [rV s_d_4.v (cSl 3 fDSeen d.seen)] _ := hM
      have hl413 := Cs.le (hM.seeR (.head _))
      refine wc_loop (un fun (m410 : Nat) => un fun (k411 : Nat) => un fun (list407 : List Int) => fun (s409 : Sv) => [(4, s409.v), (5, s329.v), (6, (.bool ok327)), (70, s_d_4.v), (71, (.int .i64 (d.seen.length : Int))), (72, (.int .i64 (k411 : Int)))]) (un fun (m410 : Nat) => un fun (k411 : Nat) => un fun (list407 : List Int) => fun (s409 : Sv) w' => St ⟨w, X, S⟩ [oC (cSl 1 fY out326) s329.v, oC (cSl 1 fI list407) s409.v] [rV s_d_4.v (cSl 3 fDSeen d.seen)] w' ∧ eachN _ _ m410 k411 list407 = some y405 ∧ k411 + m410 = d.seen.length) (fun p => p.1) (d.seen.length, 0, [(d.seen.length : Int)], s397) ⟨rfl, rfl, rfl, rfl, rfl, rfl, trivial⟩ ⟨hM, hx, Nat.zero_add _⟩ ?_
      rintro ⟨m410, k411, list407, s409⟩ w414 ⟨hM, hx, hk412⟩
      refine wc_seq ?_
      refine wc_region ?_
      refine wv rfl (r_lss rfl rfl) ?_
      refine wl_nil ?_
      refine sq_n ?_
      refine wc_seq ?_
      refine wc_cond rfl (fun hc416 => ?_) (fun hc416 => ?_)
      · replace hc416 := of_decide_eq_true hc416
        obtain ⟨m417, z418, rfl, hk412, hx, hx419⟩ := eachN_step hx hk412 hc416
        unfold x_impl_DocBytes_f1 x_impl_DocBytes_b1 at hx
        try dsimp only at hx
        refine wc_skip ?_
        refine sq_n ?_
        refine wc_seq ?_
        refine wc_block ?_
        refine wc_seq ?_
        refine wc_region ?_
        have hi421 : k411 < d.seen.length := by omega
        refine wv rfl (r_ixC Try.underlying51 sz76 rfl rfl (hM.seeR (.head _)) ⟨by omega, hc416⟩) ?_
        refine wv rfl (r_ldC (o := k411 * 3) Try.underlying76 sz76 rfl (us := [(.int .i64 ((el d.seen k411).client)), (.int .i64 ((el d.seen k411).seq)), (.int .i64 ((el d.seen k411).rev))]) rfl (hM.seeR (.head _)) hi421 ⟨(Cs.get (i := k411) (j := 0) (hM.seeR (.head _)) (fun _ => rfl) hi421 rfl), (Cs.get (i := k411) (j := 1) (hM.seeR (.head _)) (fun _ => rfl) hi421 rfl), (Cs.get (i := k411) (j := 2) (hM.seeR (.head _)) (fun _ => rfl) hi421 rfl), trivial⟩) ?_
        refine w_ex rfl (x_alloc sz76 hM ?_); intro b424 w423 hR425 hM
        replace hM : St ⟨w, X, S⟩ [oBox b424 #[(.int .i64 0), (.int .i64 0), (.int .i64 0)] 76, oC (cSl 1 fY out326) s329.v, oC (cSl 1 fI list407) s409.v] [rV s_d_4.v (cSl 3 fDSeen d.seen)] _ := hM
        refine w_exu (x_stB #[(.int .i64 ((el d.seen k411).client)), (.int .i64 ((el d.seen k411).seq)), (.int .i64 ((el d.seen k411).rev))] sz76 rfl rfl rfl rfl rfl rfl hM ?_); intro w427 hM
        refine wl_nil ?_
        refine sq_n ?_
        refine wc_region ?_
        refine wv rfl (r_move rfl) ?_
        refine wv rfl (r_fld Try.underlying76 rfl rfl sz3 rfl) ?_
        refine wv rfl (r_ldB Try.underlying3 rfl rfl hM (.head _) rfl) ?_
        refine wv rfl (r_fld Try.underlying76 rfl rfl sz3 rfl) ?_
        refine wv rfl (r_ldB Try.underlying3 rfl rfl hM (.head _) rfl) ?_
        refine wv rfl (r_fld Try.underlying76 rfl rfl sz3 rfl) ?_
        refine wv rfl (r_ldB Try.underlying3 rfl rfl hM (.head _) rfl) ?_
        refine w_ex rfl (x_lit (f := fI) (own := []) [(el d.seen k411).client, (el d.seen k411).seq, (el d.seen k411).rev] [(.int .i64 ((el d.seen k411).client)), (.int .i64 ((el d.seen k411).seq)), (.int .i64 ((el d.seen k411).rev))] 3 Try.underlying23 sz3 (fun _ => rfl) rfl rfl rfl rfl rfl (by kernel_rfl) (fun _ => zP (pV _ rfl) (zP (pV _ rfl) (zP (pV _ rfl) zN))) hM ?_); intro s437 w436 hR438 hM
        replace hM := hM.p3
        obtain ⟨hg442, hx⟩ := xg_some hx
        refine w_ex rfl (x_append Try.underlying23 sz3 rfl rfl (hM.seeO (.tail _ (.head _))) flI hM hg442 rfl ?_); intro s441 w440 hM
        refine wv rfl (r_assign rfl) ?_
        refine wl_nil ?_
        refine bk_n ?_
        refine sq_n ?_
        refine wc_region ?_
        refine wv rfl (r_add rfl rfl ⟨by omega, by omega⟩) ?_
        refine wv rfl (r_move rfl) ?_
        refine wl_nil ?_
        obtain rfl := Option.some.inj hx
        replace hM := hM.p3
        replace hM := hM.t2
        exact lp_end (m417, k411 + 1, list407 ++ [(el d.seen k411).client, (el d.seen k411).seq, (el d.seen k411).rev], s441) (Nat.lt_succ_self _) ⟨rfl, rfl, rfl, rfl, rfl, rfl, trivial⟩ ⟨hM, hx419, hk412⟩
      · replace hc416 := of_decide_eq_false hc416
        obtain rfl := eachN_end hx hk412 hc416
        refine wc_exit ?_
        refine sq_exit ?_
        refine lp1_exit ?_
        replace hx := hx406
        try dsimp only [Sum.elim_inl, Sum.elim_inr] at hx
        refine bk_here ?_
        refine sq_n ?_
        refine wc_seq ?_
        refine wc_region ?_
        refine wv rfl (r_move rfl) ?_
        refine wv rfl (r_move rfl) ?_
        obtain ⟨r449, h450, hx⟩ := bind_some' hx
        refine w_call rfl rfl (hM.callO (l := []) fun X S oL hS hR hO => ct_impl_putNums _ X S out326 s329 list407 s409 hS (seeA hO (.head _)) (seeA hO (.tail _ (.head _))) oL h450) ?_
        rintro _ w451 ⟨s452, rfl, hM⟩
        replace hM : St ⟨w, X, S⟩ [oC (cSl 1 fY r449.1) s452.v, oC (cSl 1 fY out326) s329.v, oC (cSl 1 fI list407) s409.v] [rV s_d_4.v (cSl 3 fDSeen d.seen)] _ := hM
        refine wv rfl (r_move rfl) ?_
        refine wv rfl (r_extract rfl rfl) ?_
        refine wv rfl (r_extract rfl rfl) ?_
        refine wv rfl (r_assign rfl) ?_
        refine wv rfl (r_assign rfl) ?_
        refine wl_nil ?_
        refine sq_n ?_
        refine wc_seq ?_
        refine wc_seq ?_
        refine wc_region ?_
        refine wv rfl (r_move rfl) ?_
        refine wv rfl (r_not rfl) ?_
        refine wv rfl (r_move rfl) ?_
        obtain ⟨c462, hx, hx466⟩ := bind_some' hx
        refine wl_mid 3 (fun _ : Unit => [(97, (.bool c462)), (5, s452.v)]) (fun _ w' => St ⟨w, X, S⟩ [oC (cSl 1 fY r449.1) s452.v, oC (cSl 1 fY out326) s329.v, oC (cSl 1 fI list407) s409.v] [rV s_d_4.v (cSl 3 fDSeen d.seen)] w') ?_ ?_
        · rcases Bool.eq_false_or_eq_true (!ok327) with hg463 | hg463
          · replace hx := xif_t hg463 hx
            refine gs rfl (isB_no hg463) rfl ?_
            refine gs rfl (isB_no hg463) rfl ?_
            refine wv rfl (p_t rfl hg463 rfl) ?_
            obtain rfl := Option.some.inj hx
            exact mid_nil () ⟨rfl, rfl, trivial⟩ hM
          · replace hx := xif_f hg463 hx
            refine gv rfl hg463 rfl (r_move rfl) ?_
            refine gv rfl hg463 rfl (r_not rfl) ?_
            refine wv rfl (p_f rfl hg463 rfl) ?_
            obtain rfl := Option.some.inj hx
            exact mid_nil () ⟨rfl, rfl, trivial⟩ hM
        rintro _ w469 hM
        replace hx := hx466
        refine wl_nil ?_
        refine sq_n ?_
        refine wc_cond rfl (fun hc470 => ?_) (fun hc470 => ?_)
        · replace hx := xif_t hc470 hx
          refine wc_seq ?_
          refine wc_region ?_
          refine wv rfl (r_assign rfl) ?_
          refine wv rfl (r_assign rfl) ?_
          refine wl_nil ?_
          refine sq_n ?_
          refine wc_ret ?_
          refine sq_ret ?_
          obtain rfl := Option.some.inj hx
          have hM := hM.nil0 (T := UInt8) 1 fY
          refine fin_ret [nS.v, (.bool false)] ⟨rfl, rfl, trivial⟩ ?_
          replace hM := hM.t1
          have hM := hM.fewer rsN
          exact ⟨nS, rfl, hM.gives⟩
        · replace hx := xif_f hc470 hx
          refine wc_skip ?_
          refine sq_n ?_
          refine wc_seq ?_
          refine wc_region ?_
          refine wv rfl (r_move rfl) ?_
          refine wv rfl (r_assign rfl) ?_
          refine wv rfl (r_assign rfl) ?_
          refine wl_nil ?_
          refine sq_n ?_
          refine wc_ret ?_
          obtain rfl := Option.some.inj hx
          refine fin_ret [s452.v, (.bool true)] ⟨rfl, rfl, trivial⟩ ?_
          replace hM := hM.t1
          have hM := hM.fewer rsN
          exact ⟨s452, rfl, hM.gives⟩

noncomputable def x_spec_PutNum_b0 (n21 : Int) (out22 : List UInt8) : Option (Lr (Int × List UInt8) (Int × List UInt8)) :=
  bif decide ((127 : Int) < n21) then (xg (0 ≤ n21 ∧ 0 < (128 : Int)) <| xg (inI (128 + (n21 % 128))) <| xg (out22.length < 1099511627776) <| xg (0 ≤ n21 ∧ n21 ≤ 9223372036854775807 ∧ 0 < (128 : Int)) <| some (Lr.go (n21 / 128, out22 ++ [y8 (128 + (n21 % 128))]))) else (some (Lr.out (n21, out22)))
noncomputable def x_spec_PutNum_f0 (s61 : Int × List UInt8) : Option (Lr (Int × List UInt8) (Int × List UInt8)) := x_spec_PutNum_b0 s61.1 s61.2
noncomputable def x_spec_PutNum (b : List UInt8) (n : Int) : Option (List UInt8 × Bool) :=
  Option.bind (x_spec_l01In n 0 1114111000) fun r4 => bif !r4 then (some ([], false)) else (xg (0 + b.length ≤ 1099511627776) <| Option.bind (iter (x_spec_PutNum_f0) (n, [] ++ b)) fun (y62 : Int × List UInt8) => xg (y62.2.length < 1099511627776) <| some (y62.2 ++ [y8 y62.1], true))
theorem ct_spec_PutNum (w : World) (X S : Bs) (b : List UInt8) (s_b : Sv) (n : Int) (hS : ∀ b, S b → b < w.heap.size ∧ ¬ X b) (a_b_0 : (cSl 1 fY b).rd S w s_b.v) (oL : Sep [] X w) {r : List UInt8 × Bool} (hx : x_spec_PutNum b n = some r) :
    Ret Try.prog 61 [s_b.v, (.int .i64 n)] w (fun u w' => ∃ y : Sv, u = .tuple #[y.v, (.bool r.2)] ∧ Gives X S w [oC (cSl 1 fY r.1) y.v] [] w') := by
  unfold x_spec_PutNum at hx
  refine enter Try.func61 rfl Try.ntmps61 (by kernel_rfl) rfl ?_
  have hM := St.enter oL hS
  have hM := hM.addE (r := rV s_b.v (cSl 1 fY b)) a_b_0
  refine wc_seq ?_
  refine wc_region ?_
  refine wv rfl (r_assign rfl) ?_
  refine wv rfl (r_assign rfl) ?_
  refine wl_nil ?_
  refine sq_n ?_
  refine wc_seq ?_
  refine wc_seq ?_
  refine wc_region ?_
  refine wv rfl (r_move rfl) ?_
  obtain ⟨r77, h78, hx⟩ := bind_some' hx
  refine w_call rfl rfl (hM.callV fun X S oL hS hR hO => ct_spec_l01In _ X S n (0 : Int) (1114111000 : Int) hS  oL h78) ?_
  rintro _ w79 ⟨rfl, hR80⟩
  have hM := hM.call hR80
  refine wv rfl (r_not rfl) ?_
  refine wl_nil ?_
  refine sq_n ?_
  refine wc_cond rfl (fun hc82 => ?_) (fun hc82 => ?_)
  · replace hx := xif_t hc82 hx
    refine wc_seq ?_
    refine wc_region ?_
    refine wv rfl (r_assign rfl) ?_
    refine wv rfl (r_assign rfl) ?_
    refine wl_nil ?_
    refine sq_n ?_
    refine wc_ret ?_
    refine sq_ret ?_
    obtain rfl := Option.some.inj hx
    have hM := hM.nil0 (T := UInt8) 1 fY
    refine fin_ret [nS.v, (.bool false)] ⟨rfl, rfl, trivial⟩ ?_
    replace hM := hM.t1
    have hM := hM.fewer rsN
    exact ⟨nS, rfl, hM.gives⟩
  · replace hx := xif_f hc82 hx
    refine wc_skip ?_
    refine sq_n ?_
    refine wc_seq ?_
    refine wc_region ?_
    refine w_ex rfl (x_empty (f := fY) Try.underlying48 sz5 (fun _ => rfl) hM ?_); intro s87 w86 hR88 hM
    refine wv rfl (r_move rfl) ?_
    obtain ⟨hg93, hx⟩ := xg_some hx
    refine w_ex rfl (x_append Try.underlying48 sz5 rfl rfl (hM.seeR (.head _)) flY hM hg93 rfl ?_); intro s92 w91 hM
    refine wv rfl (r_assign rfl) ?_
    refine wl_nil ?_
    refine sq_n ?_
    refine wc_seq ?_
    refine wc_block ?_
    obtain ⟨y96, hx, hx97⟩ := bind_some' hx
    have hM := hM.fewer rsN
    replace hM : St ⟨w, X, S⟩ [oC (cSl 1 fY ([] ++ b)) s92.v] [] _ := hM
    obtain ⟨m104, hx⟩ := iter_run hx
    refine wc_loop (un fun (m102 : Nat) => un fun (n98 : Int) => un fun (out99 : List UInt8) => fun (s101 : Sv) => [(1, (.int .i64 n98)), (6, s101.v)]) (un fun (m102 : Nat) => un fun (n98 : Int) => un fun (out99 : List UInt8) => fun (s101 : Sv) w' => St ⟨w, X, S⟩ [oC (cSl 1 fY out99) s101.v] [] w' ∧ iterN _ m102 (n98, out99) = some y96) (fun p => p.1) (m104, n, [] ++ b, s92) ⟨rfl, rfl, trivial⟩ ⟨hM, hx⟩ ?_
    rintro ⟨m102, n98, out99, s101⟩ w105 ⟨hM, hx⟩
    obtain ⟨m106, z107, rfl, hx, hx108⟩ := iterN_step hx
    unfold x_spec_PutNum_f0 x_spec_PutNum_b0 at hx
    try dsimp only at hx
    refine wc_seq ?_
    refine wc_seq ?_
    refine wc_region ?_
    refine wv rfl (r_move rfl) ?_
    refine wv rfl (r_gtr rfl rfl) ?_
    refine wl_nil ?_
    refine sq_n ?_
    refine wc_cond rfl (fun hc111 => ?_) (fun hc111 => ?_)
    · replace hx := xif_t hc111 hx
      refine wc_skip ?_
      refine sq_n ?_
      refine wc_block ?_
      refine wc_seq ?_
      refine wc_region ?_
      refine wv rfl (r_move rfl) ?_
      refine wv rfl (r_move rfl) ?_
      obtain ⟨hg115, hx⟩ := xg_some hx
      refine wv rfl (r_rem rfl rfl hg115) ?_
      obtain ⟨hg117, hx⟩ := xg_some hx
      refine wv rfl (r_add rfl rfl hg117) ?_
      refine wv rfl (r_cvt8 Try.underlying3 Try.underlying5 rfl) ?_
      obtain ⟨hg122, hx⟩ := xg_some hx
      refine w_push (f := fY) (y8 (128 + (n98 % 128))) rfl rfl Try.underlying48 sz5 rfl rfl rfl rfl (fun _ => rfl) hM (fun _ => zP (pV _ rfl) zN) rfl hg122 rfl ?_; intro u120 s121 w119 hM
      refine wv rfl (r_assign rfl) ?_
      refine wl_nil ?_
      refine sq_n ?_
      refine wc_region ?_
      refine wv rfl (r_move rfl) ?_
      obtain ⟨hg126, hx⟩ := xg_some hx
      refine wv rfl (r_quo rfl rfl hg126) ?_
      refine wv rfl (r_assign rfl) ?_
      refine wl_nil ?_
      refine bk_n ?_
      obtain rfl := Option.some.inj hx
      exact lp_end (m106, n98 / 128, out99 ++ [y8 (128 + (n98 % 128))], s121) (Nat.lt_succ_self _) ⟨rfl, rfl, trivial⟩ ⟨hM, hx108⟩
    · replace hx := xif_f hc111 hx
      refine wc_exit ?_
      refine sq_exit ?_
      refine lp1_exit ?_
      obtain rfl := Option.some.inj hx
      obtain rfl := Option.some.inj hx108
      replace hx := hx97
      try dsimp only [Sum.elim_inl, Sum.elim_inr] at hx
      refine bk_here ?_
      refine sq_n ?_
      refine wc_seq ?_
      refine wc_region ?_
      refine wv rfl (r_move rfl) ?_
      refine wv rfl (r_move rfl) ?_
      refine wv rfl (r_cvt8 Try.underlying3 Try.underlying5 rfl) ?_
      obtain ⟨hg134, hx⟩ := xg_some hx
      refine w_push (f := fY) (y8 n98) rfl rfl Try.underlying48 sz5 rfl rfl rfl rfl (fun _ => rfl) hM (fun _ => zP (pV _ rfl) zN) rfl hg134 rfl ?_; intro u132 s133 w131 hM
      refine wv rfl (r_assign rfl) ?_
      refine wv rfl (r_assign rfl) ?_
      refine wl_nil ?_
      refine sq_n ?_
      refine wc_ret ?_
      obtain rfl := Option.some.inj hx
      refine fin_ret [s133.v, (.bool true)] ⟨rfl, rfl, trivial⟩ ?_
      replace hM := hM.t1
      have hM := hM.fewer rsN
      exact ⟨s133, rfl, hM.gives⟩

noncomputable def x_spec_l21Num (b : List UInt8) (n : Int) : Option (List UInt8) :=
  Option.bind (x_spec_PutNum b n) fun r4 => some r4.1
theorem ct_spec_l21Num (w : World) (X S : Bs) (b : List UInt8) (s_b : Sv) (n : Int) (hS : ∀ b, S b → b < w.heap.size ∧ ¬ X b) (a_b_0 : (cSl 1 fY b).rd S w s_b.v) (oL : Sep [] X w) {r : List UInt8} (hx : x_spec_l21Num b n = some r) :
    Ret Try.prog 35 [s_b.v, (.int .i64 n)] w (fun u w' => ∃ y : Sv, u = y.v ∧ Gives X S w [oC (cSl 1 fY r) y.v] [] w') := by
  unfold x_spec_l21Num at hx
  refine enter Try.func35 rfl Try.ntmps35 (by kernel_rfl) rfl ?_
  have hM := St.enter oL hS
  have hM := hM.addE (r := rV s_b.v (cSl 1 fY b)) a_b_0
  refine wc_seq ?_
  refine wc_region ?_
  refine wv rfl (r_assign rfl) ?_
  refine wl_nil ?_
  refine sq_n ?_
  refine wc_seq ?_
  refine wc_region ?_
  refine wv rfl (r_move rfl) ?_
  refine wv rfl (r_move rfl) ?_
  obtain ⟨r19, h20, hx⟩ := bind_some' hx
  refine w_call rfl rfl (hM.callO (l := []) fun X S oL hS hR hO => ct_spec_PutNum _ X S b s_b n hS (hR _ (.head _)) oL h20) ?_
  rintro _ w21 ⟨s22, rfl, hM⟩
  replace hM : St ⟨w, X, S⟩ [oC (cSl 1 fY r19.1) s22.v] [rV s_b.v (cSl 1 fY b)] _ := hM
  refine wv rfl (r_move rfl) ?_
  refine wv rfl (r_extract rfl rfl) ?_
  refine wv rfl (r_extract rfl rfl) ?_
  refine wv rfl (r_assign rfl) ?_
  refine wv rfl (r_assign rfl) ?_
  refine wl_nil ?_
  refine sq_n ?_
  refine wc_seq ?_
  refine wc_region ?_
  refine wv rfl (r_move rfl) ?_
  refine wv rfl (r_assign rfl) ?_
  refine wl_nil ?_
  refine sq_n ?_
  refine wc_ret ?_
  obtain rfl := Option.some.inj hx
  refine fin_ret [s22.v] ⟨rfl, trivial⟩ ?_
  replace hM := hM.t1
  have hM := hM.fewer rsN
  exact ⟨s22, rfl, hM.gives⟩

noncomputable def x_spec_PutOp_b1 (_l113 : List DPart) (_k111 : Nat) (_k232 : Nat) (x266 : Int) (out233 : List UInt8) : Option (Lr (List UInt8) (List UInt8)) :=
  Option.bind (x_spec_l21Num out233 x266) fun r258 => some (Lr.go r258)
noncomputable def x_spec_PutOp_f1 (l113 : List DPart) (k111 : Nat) (k232 : Nat) (s267 : List UInt8) : Option (Lr (List UInt8) (List UInt8)) := x_spec_PutOp_b1 l113 k111 k232 (el ((el l113 k111).signs) k232) s267
noncomputable def x_spec_PutOp_b0 (k111 : Nat) (out112 : List UInt8) (l113 : List DPart) : Option (Lr (List UInt8 × List DPart) (List UInt8)) :=
  xg (0 ≤ (k111 : Int) ∧ (k111 : Int) < (l113.length : Int)) <| xg (inI (((el l113 k111).n) + (((el l113 k111).signs).length : Int))) <| xg (inI (4 * (((el l113 k111).n) + (((el l113 k111).signs).length : Int)))) <| xg (inI ((4 * (((el l113 k111).n) + (((el l113 k111).signs).length : Int))) + ((el l113 k111).kind))) <| Option.bind (x_spec_l21Num out112 ((4 * (((el l113 k111).n) + (((el l113 k111).signs).length : Int))) + ((el l113 k111).kind))) fun r222 => Option.bind (eachN (x_spec_PutOp_f1 l113 k111) (fun (s267 : List UInt8) => (s267 : List UInt8)) ((el l113 k111).signs).length 0 r222) fun (y268 : List UInt8) => some (Lr.go (y268, l113))
noncomputable def x_spec_PutOp_f0 (k111 : Nat) (s274 : List UInt8 × List DPart) : Option (Lr (List UInt8 × List DPart) (List UInt8)) := x_spec_PutOp_b0 k111 s274.1 s274.2
noncomputable def x_spec_PutOp (b : List UInt8) (o : List DPart) : Option (List UInt8 × Bool) :=
  Option.bind (x_spec_OpOk o) fun r4 => bif !r4 then (some ([], false)) else (Option.bind (x_spec_OpNorm o) fun r12 => Option.bind (x_spec_l21Num b (r12.length : Int)) fun r21 => Option.bind (eachN (x_spec_PutOp_f0) (fun (s274 : List UInt8 × List DPart) => (s274.1 : List UInt8)) r12.length 0 (r21, r12)) fun (y275 : List UInt8) => some (y275, true))
theorem ct_spec_PutOp (w : World) (X S : Bs) (b : List UInt8) (s_b : Sv) (o : List DPart) (s_o : Sv) (hS : ∀ b, S b → b < w.heap.size ∧ ¬ X b) (a_b_0 : (cSl 1 fY b).rd S w s_b.v) (a_o_0 : (cSl 3 fDPart o).rd S w s_o.v) (oL : Sep [] X w) {r : List UInt8 × Bool} (hx : x_spec_PutOp b o = some r) :
    Ret Try.prog 36 [s_b.v, s_o.v] w (fun u w' => ∃ y : Sv, u = .tuple #[y.v, (.bool r.2)] ∧ Gives X S w [oC (cSl 1 fY r.1) y.v] [] w') := by
  unfold x_spec_PutOp at hx
  refine enter Try.func36 rfl Try.ntmps36 (by kernel_rfl) rfl ?_
  have hM := St.enter oL hS
  have hM := hM.addE (r := rV s_b.v (cSl 1 fY b)) a_b_0
  have hM := hM.addE (r := rV s_o.v (cSl 3 fDPart o)) a_o_0
  refine wc_seq ?_
  refine wc_region ?_
  refine wv rfl (r_assign rfl) ?_
  refine wv rfl (r_assign rfl) ?_
  refine wl_nil ?_
  refine sq_n ?_
  refine wc_seq ?_
  refine wc_seq ?_
  refine wc_region ?_
  refine wv rfl (r_move rfl) ?_
  obtain ⟨r284, h285, hx⟩ := bind_some' hx
  refine w_call rfl rfl (hM.callV fun X S oL hS hR hO => ct_spec_OpOk _ X S o s_o hS (hR _ (.head _)) oL h285) ?_
  rintro _ w286 ⟨rfl, hR287⟩
  have hM := hM.call hR287
  refine wv rfl (r_not rfl) ?_
  refine wl_nil ?_
  refine sq_n ?_
  refine wc_cond rfl (fun hc289 => ?_) (fun hc289 => ?_)
  · replace hx := xif_t hc289 hx
    refine wc_seq ?_
    refine wc_region ?_
    refine wv rfl (r_assign rfl) ?_
    refine wv rfl (r_assign rfl) ?_
    refine wl_nil ?_
    refine sq_n ?_
    refine wc_ret ?_
    refine sq_ret ?_
    obtain rfl := Option.some.inj hx
    have hM := hM.nil0 (T := UInt8) 1 fY
    refine fin_ret [nS.v, (.bool false)] ⟨rfl, rfl, trivial⟩ ?_
    replace hM := hM.t1
    have hM := hM.fewer rsN
    exact ⟨nS, rfl, hM.gives⟩
  · replace hx := xif_f hc289 hx
    refine wc_skip ?_
    refine sq_n ?_
    refine wc_seq ?_
    refine wc_region ?_
    refine wv rfl (r_move rfl) ?_
    obtain ⟨r294, h295, hx⟩ := bind_some' hx
    refine w_call rfl rfl (hM.callO (l := []) fun X S oL hS hR hO => ct_spec_OpNorm _ X S o s_o hS (hR _ (.head _)) oL h295) ?_
    rintro _ w296 ⟨s297, rfl, hM⟩
    replace hM : St ⟨w, X, S⟩ [oC (cSl 3 fDPart r294) s297.v] [rV s_o.v (cSl 3 fDPart o), rV s_b.v (cSl 1 fY b)] _ := hM
    refine wv rfl (r_assign rfl) ?_
    refine wl_nil ?_
    refine sq_n ?_
    refine wc_seq ?_
    refine wc_region ?_
    refine wv rfl (r_move rfl) ?_
    refine wv rfl (r_move rfl) ?_
    refine wv rfl (r_lenC Try.underlying33 rfl (hM.seeO (.head _))) ?_
    obtain ⟨r303, h304, hx⟩ := bind_some' hx
    refine w_call rfl rfl (hM.callO (l := []) fun X S oL hS hR hO => ct_spec_l21Num _ X S b s_b (r294.length : Int) hS (hR _ (.tail _ (.head _))) oL h304) ?_
    rintro _ w305 ⟨s306, rfl, hM⟩
    replace hM : St ⟨w, X, S⟩ [oC (cSl 1 fY r303) s306.v, oC (cSl 3 fDPart r294) s297.v] [rV s_o.v (cSl 3 fDPart o), rV s_b.v (cSl 1 fY b)] _ := hM
    refine wv rfl (r_assign rfl) ?_
    refine wl_nil ?_
    refine sq_n ?_
    refine wc_seq ?_
    refine wc_seq ?_
    refine wc_region ?_
    refine wv rfl (r_move rfl) ?_
    refine wv rfl (r_lenC Try.underlying33 rfl (hM.seeO (.tail _ (.head _)))) ?_
    refine wv rfl (r_move rfl) ?_
    refine wl_nil ?_
    refine sq_n ?_
    refine wc_block ?_
    obtain ⟨y312, hx, hx313⟩ := bind_some' hx
    replace hM := hM.p1
    have hM := hM.selO
    have hM := hM.fewer (rsC (.head _) rsN)
    replace hM : St ⟨w, X, S⟩ [oC (cSl 1 fY r303) s306.v] [rV s297.v (cSl 3 fDPart r294)] _ := hM
    have hl322 := Cs.le (hM.seeR (.head _))
    refine wc_loop (un fun (m319 : Nat) => un fun (k320 : Nat) => un fun (out314 : List UInt8) => un fun (l315 : List DPart) => un fun (s317 : Sv) => fun (s318 : Sv) => [(7, s317.v), (21, s318.v), (22, (.int .i64 (r294.length : Int))), (23, (.int .i64 (k320 : Int)))]) (un fun (m319 : Nat) => un fun (k320 : Nat) => un fun (out314 : List UInt8) => un fun (l315 : List DPart) => un fun (s317 : Sv) => fun (s318 : Sv) w' => St ⟨w, X, S⟩ [oC (cSl 1 fY out314) s317.v] [rV s318.v (cSl 3 fDPart l315)] w' ∧ eachN _ _ m319 k320 (out314, l315) = some y312 ∧ k320 + m319 = r294.length) (fun p => p.1) (r294.length, 0, r303, r294, s306, s297) ⟨rfl, rfl, rfl, rfl, trivial⟩ ⟨hM, hx, Nat.zero_add _⟩ ?_
    rintro ⟨m319, k320, out314, l315, s317, s318⟩ w323 ⟨hM, hx, hk321⟩
    refine wc_seq ?_
    refine wc_region ?_
    refine wv rfl (r_lss rfl rfl) ?_
    refine wl_nil ?_
    refine sq_n ?_
    refine wc_seq ?_
    refine wc_cond rfl (fun hc325 => ?_) (fun hc325 => ?_)
    · replace hc325 := of_decide_eq_true hc325
      obtain ⟨m326, z327, rfl, hk321, hx, hx328⟩ := eachN_step hx hk321 hc325
      unfold x_spec_PutOp_f0 x_spec_PutOp_b0 at hx
      try dsimp only at hx
      refine wc_skip ?_
      refine sq_n ?_
      refine wc_seq ?_
      refine wc_block ?_
      refine wc_seq ?_
      refine wc_region ?_
      obtain ⟨hg331, hx⟩ := xg_some hx
      have hi330 : k320 < l315.length := by omega
      refine wv rfl (r_ixC Try.underlying33 sz105 rfl rfl (hM.seeR (.head _)) hg331) ?_
      obtain ⟨s333, hM, hc334⟩ := hM.leaf (i := k320) (j := 2) (.head _) (fun _ => rfl) hi330 rfl
      refine wv rfl (r_ldC (o := k320 * 3) Try.underlying105 sz105 rfl (us := [(.int .i64 ((el l315 k320).kind)), (.int .i64 ((el l315 k320).n)), s333.v]) rfl (hM.seeR (.tail _ (.head _))) hi330 ⟨(Cs.get (i := k320) (j := 0) (hM.seeR (.tail _ (.head _))) (fun _ => rfl) hi330 rfl), (Cs.get (i := k320) (j := 1) (hM.seeR (.tail _ (.head _))) (fun _ => rfl) hi330 rfl), (hc334 _ (Rel.refl _)), trivial⟩) ?_
      refine w_ex rfl (x_alloc sz105 hM ?_); intro b336 w335 hR337 hM
      replace hM : St ⟨w, X, S⟩ [oBox b336 #[(.int .i64 0), (.int .i64 0), (.slice none 0 0)] 105, oC (cSl 1 fY out314) s317.v] [rV s333.v (cSl 1 fI ((el l315 k320).signs)), rV s318.v (cSl 3 fDPart l315)] _ := hM
      refine w_exu (x_stB #[(.int .i64 ((el l315 k320).kind)), (.int .i64 ((el l315 k320).n)), s333.v] sz105 rfl rfl rfl rfl rfl rfl hM ?_); intro w339 hM
      refine wl_nil ?_
      refine sq_n ?_
      refine wc_seq ?_
      refine wc_region ?_
      refine wv rfl (r_move rfl) ?_
      refine wv rfl (r_fld Try.underlying105 rfl rfl sz3 rfl) ?_
      refine wv rfl (r_ldB Try.underlying3 rfl rfl hM (.head _) rfl) ?_
      refine wv rfl (r_fld Try.underlying105 rfl rfl sz23 rfl) ?_
      refine wv rfl (r_ldB Try.underlying23 rfl rfl hM (.head _) rfl) ?_
      refine wv rfl (r_lenC Try.underlying23 rfl (hM.seeR (.head _))) ?_
      obtain ⟨hg348, hx⟩ := xg_some hx
      refine wv rfl (r_add rfl rfl hg348) ?_
      obtain ⟨hg350, hx⟩ := xg_some hx
      refine wv rfl (r_mul rfl rfl hg350) ?_
      refine wv rfl (r_fld Try.underlying105 rfl rfl sz3 rfl) ?_
      refine wv rfl (r_ldB Try.underlying3 rfl rfl hM (.head _) rfl) ?_
      obtain ⟨hg354, hx⟩ := xg_some hx
      refine wv rfl (r_add rfl rfl hg354) ?_
      obtain ⟨r355, h356, hx⟩ := bind_some' hx
      refine w_call rfl rfl (hM.callO (l := []) fun X S oL hS hR hO => ct_spec_l21Num _ X S out314 s317 ((4 * (((el l315 k320).n) + (((el l315 k320).signs).length : Int))) + ((el l315 k320).kind)) hS (seeA hO (.tail _ (.head _))) oL h356) ?_
      rintro _ w357 ⟨s358, rfl, hM⟩
      replace hM : St ⟨w, X, S⟩ [oC (cSl 1 fY r355) s358.v, oBox b336 #[(.int .i64 ((el l315 k320).kind)), (.int .i64 ((el l315 k320).n)), s333.v] 105, oC (cSl 1 fY out314) s317.v] [rV s333.v (cSl 1 fI ((el l315 k320).signs)), rV s318.v (cSl 3 fDPart l315)] _ := hM
      refine wv rfl (r_assign rfl) ?_
      refine wl_nil ?_
      refine sq_n ?_
      refine wc_seq ?_
      refine wc_region ?_
      refine wv rfl (r_fld Try.underlying105 rfl rfl sz23 rfl) ?_
      refine wv rfl (r_ldB Try.underlying23 rfl rfl hM (.tail _ (.head _)) rfl) ?_
      refine wv rfl (r_lenC Try.underlying23 rfl (hM.seeR (.head _))) ?_
      refine wv rfl (r_move rfl) ?_
      refine wl_nil ?_
      refine sq_n ?_
      refine wc_block ?_
      obtain ⟨y365, hx, hx366⟩ := bind_some' hx
      replace hM := hM.t1
      have hM := hM.fewer (rsC (.tail _ (.head _)) (rsC (.head _) rsN))
      replace hM : St ⟨w, X, S⟩ [oC (cSl 1 fY r355) s358.v] [rV s318.v (cSl 3 fDPart l315), rV s333.v (cSl 1 fI ((el l315 k320).signs))] _ := hM
      have hl373 := Cs.le (hM.seeR (.tail _ (.head _)))
      refine wc_loop (un fun (m370 : Nat) => un fun (k371 : Nat) => un fun (out367 : List UInt8) => fun (s369 : Sv) => [(7, s369.v), (21, s318.v), (22, (.int .i64 (r294.length : Int))), (23, (.int .i64 (k320 : Int))), (40, s333.v), (41, (.int .i64 (((el l315 k320).signs).length : Int))), (42, (.int .i64 (k371 : Int)))]) (un fun (m370 : Nat) => un fun (k371 : Nat) => un fun (out367 : List UInt8) => fun (s369 : Sv) w' => St ⟨w, X, S⟩ [oC (cSl 1 fY out367) s369.v] [rV s318.v (cSl 3 fDPart l315), rV s333.v (cSl 1 fI ((el l315 k320).signs))] w' ∧ eachN _ _ m370 k371 out367 = some y365 ∧ k371 + m370 = ((el l315 k320).signs).length) (fun p => p.1) (((el l315 k320).signs).length, 0, r355, s358) ⟨rfl, rfl, rfl, rfl, rfl, rfl, rfl, trivial⟩ ⟨hM, hx, Nat.zero_add _⟩ ?_
      rintro ⟨m370, k371, out367, s369⟩ w374 ⟨hM, hx, hk372⟩
      refine wc_seq ?_
      refine wc_region ?_
      refine wv rfl (r_lss rfl rfl) ?_
      refine wl_nil ?_
      refine sq_n ?_
      refine wc_seq ?_
      refine wc_cond rfl (fun hc376 => ?_) (fun hc376 => ?_)
      · replace hc376 := of_decide_eq_true hc376
        obtain ⟨m377, z378, rfl, hk372, hx, hx379⟩ := eachN_step hx hk372 hc376
        unfold x_spec_PutOp_f1 x_spec_PutOp_b1 at hx
        try dsimp only at hx
        refine wc_skip ?_
        refine sq_n ?_
        refine wc_seq ?_
        refine wc_block ?_
        refine wc_seq ?_
        refine wc_region ?_
        have hi381 : k371 < ((el l315 k320).signs).length := by omega
        refine wv rfl (r_ixC Try.underlying23 sz3 rfl rfl (hM.seeR (.tail _ (.head _))) ⟨by omega, hc376⟩) ?_
        refine wv rfl (r_ld Try.underlying3 rfl rfl (Cs.get (i := k371) (j := 0) (hM.seeR (.tail _ (.head _))) (fun _ => rfl) hi381 rfl)) ?_
        refine wv rfl (r_assign rfl) ?_
        refine wl_nil ?_
        refine sq_n ?_
        refine wc_region ?_
        refine wv rfl (r_move rfl) ?_
        refine wv rfl (r_move rfl) ?_
        obtain ⟨r386, h387, hx⟩ := bind_some' hx
        refine w_call rfl rfl (hM.callO (l := []) fun X S oL hS hR hO => ct_spec_l21Num _ X S out367 s369 (el ((el l315 k320).signs) k371) hS (seeA hO (.head _)) oL h387) ?_
        rintro _ w388 ⟨s389, rfl, hM⟩
        replace hM : St ⟨w, X, S⟩ [oC (cSl 1 fY r386) s389.v, oC (cSl 1 fY out367) s369.v] [rV s318.v (cSl 3 fDPart l315), rV s333.v (cSl 1 fI ((el l315 k320).signs))] _ := hM
        refine wv rfl (r_assign rfl) ?_
        refine wl_nil ?_
        refine bk_n ?_
        refine sq_n ?_
        refine wc_region ?_
        refine wv rfl (r_add rfl rfl ⟨by omega, by omega⟩) ?_
        refine wv rfl (r_move rfl) ?_
        refine wl_nil ?_
        obtain rfl := Option.some.inj hx
        replace hM := hM.t1
        exact lp_end (m377, k371 + 1, r386, s389) (Nat.lt_succ_self _) ⟨rfl, rfl, rfl, rfl, rfl, rfl, rfl, trivial⟩ ⟨hM, hx379, hk372⟩
      · replace hc376 := of_decide_eq_false hc376
        obtain rfl := eachN_end hx hk372 hc376
        refine wc_exit ?_
        refine sq_exit ?_
        refine lp1_exit ?_
        replace hx := hx366
        try dsimp only [Sum.elim_inl, Sum.elim_inr] at hx
        refine bk_here ?_
        refine bk_n ?_
        refine sq_n ?_
        refine wc_region ?_
        refine wv rfl (r_add rfl rfl ⟨by omega, by omega⟩) ?_
        refine wv rfl (r_move rfl) ?_
        refine wl_nil ?_
        obtain rfl := Option.some.inj hx
        have hM := hM.fewer (rsC (.head _) rsN)
        replace hM : St ⟨w, X, S⟩ [oC (cSl 1 fY out367) s369.v] [rV s318.v (cSl 3 fDPart l315)] _ := hM
        exact lp_end (m326, k320 + 1, out367, l315, s369, s318) (Nat.lt_succ_self _) ⟨rfl, rfl, rfl, rfl, trivial⟩ ⟨hM, hx328, hk321⟩
    · replace hc325 := of_decide_eq_false hc325
      obtain rfl := eachN_end hx hk321 hc325
      refine wc_exit ?_
      refine sq_exit ?_
      refine lp1_exit ?_
      replace hx := hx313
      try dsimp only [Sum.elim_inl, Sum.elim_inr] at hx
      refine bk_here ?_
      refine sq_n ?_
      refine wc_seq ?_
      refine wc_region ?_
      refine wv rfl (r_move rfl) ?_
      refine wv rfl (r_assign rfl) ?_
      refine wv rfl (r_assign rfl) ?_
      refine wl_nil ?_
      refine sq_n ?_
      refine wc_ret ?_
      obtain rfl := Option.some.inj hx
      refine fin_ret [s317.v, (.bool true)] ⟨rfl, rfl, trivial⟩ ?_
      replace hM := hM.t1
      have hM := hM.fewer rsN
      exact ⟨s317, rfl, hM.gives⟩

noncomputable def x_spec_DocBytes_b0 (_d : DDoc) (_k50 : Nat) (x84 : Int) (b51 : List UInt8) : Option (Lr (List UInt8) (List UInt8)) :=
  Option.bind (x_spec_l21Num b51 x84) fun r76 => some (Lr.go r76)
noncomputable def x_spec_DocBytes_f0 (d : DDoc) (k50 : Nat) (s85 : List UInt8) : Option (Lr (List UInt8) (List UInt8)) := x_spec_DocBytes_b0 d k50 (el (([d.from_, (d.text.length : Int)] ++ d.text) ++ [(d.list.length : Int)]) k50) s85
noncomputable def x_spec_DocBytes_b1 (_d : DDoc) (_k93 : Nat) (x197 : DEntry) (b94 : List UInt8) : Option (Lr (List UInt8) (List UInt8)) :=
  Option.bind (x_spec_l21Num b94 (x197.client)) fun r166 => Option.bind (x_spec_l21Num r166 (x197.seq)) fun r174 => Option.bind (x_spec_PutOp r174 (x197.o)) fun r182 => some (Lr.go r182.1)
noncomputable def x_spec_DocBytes_f1 (d : DDoc) (k93 : Nat) (s198 : List UInt8) : Option (Lr (List UInt8) (List UInt8)) := x_spec_DocBytes_b1 d k93 (el d.list k93) s198
noncomputable def x_spec_DocBytes_b2 (_d : DDoc) (_k216 : Nat) (x310 : DSeen) (b217 : List UInt8) : Option (Lr (List UInt8) (List UInt8)) :=
  Option.bind (x_spec_l21Num b217 (x310.client)) fun r282 => Option.bind (x_spec_l21Num r282 (x310.seq)) fun r290 => Option.bind (x_spec_l21Num r290 (x310.rev)) fun r298 => some (Lr.go r298)
noncomputable def x_spec_DocBytes_f2 (d : DDoc) (k216 : Nat) (s311 : List UInt8) : Option (Lr (List UInt8) (List UInt8)) := x_spec_DocBytes_b2 d k216 (el d.seen k216) s311
noncomputable def x_spec_DocBytes (d : DDoc) : Option (List UInt8 × Bool) :=
  Option.bind (x_spec_DocOk d) fun r8 => bif !r8 then (some ([], false)) else (xg ([d.from_, (d.text.length : Int)].length + d.text.length ≤ 1099511627776) <| xg (([d.from_, (d.text.length : Int)] ++ d.text).length < 1099511627776) <| Option.bind (eachN (x_spec_DocBytes_f0 d) (fun (s85 : List UInt8) => (s85 : List UInt8)) (([d.from_, (d.text.length : Int)] ++ d.text) ++ [(d.list.length : Int)]).length 0 []) fun (y86 : List UInt8) => Option.bind (eachN (x_spec_DocBytes_f1 d) (fun (s198 : List UInt8) => (s198 : List UInt8)) d.list.length 0 y86) fun (y199 : List UInt8) => Option.bind (x_spec_l21Num y199 (d.seen.length : Int)) fun r206 => Option.bind (eachN (x_spec_DocBytes_f2 d) (fun (s311 : List UInt8) => (s311 : List UInt8)) d.seen.length 0 r206) fun (y312 : List UInt8) => some (y312, true))
theorem ct_spec_DocBytes (w : World) (X S : Bs) (d : DDoc) (s_d_2 : Sv) (s_d_3 : Sv) (s_d_4 : Sv) (hS : ∀ b, S b → b < w.heap.size ∧ ¬ X b) (a_d_2 : (cSl 1 fI d.text).rd S w s_d_2.v) (a_d_3 : (cSl 3 fDEntry d.list).rd S w s_d_3.v) (a_d_4 : (cSl 3 fDSeen d.seen).rd S w s_d_4.v) (oL : Sep [] X w) {r : List UInt8 × Bool} (hx : x_spec_DocBytes d = some r) :
    Ret Try.prog 11 [(.agg #[(.string d.name), (.int .i64 d.from_), s_d_2.v, s_d_3.v, s_d_4.v])] w (fun u w' => ∃ y : Sv, u = .tuple #[y.v, (.bool r.2)] ∧ Gives X S w [oC (cSl 1 fY r.1) y.v] [] w') := by
  unfold x_spec_DocBytes at hx
  refine enter Try.func11 rfl Try.ntmps11 (by kernel_rfl) rfl ?_
  have hM := St.enter oL hS
  have hM := hM.addE (r := rV s_d_2.v (cSl 1 fI d.text)) a_d_2
  have hM := hM.addE (r := rV s_d_3.v (cSl 3 fDEntry d.list)) a_d_3
  have hM := hM.addE (r := rV s_d_4.v (cSl 3 fDSeen d.seen)) a_d_4
  refine wc_seq ?_
  refine wc_region ?_
  refine w_ex rfl (x_box rfl hM ?_); intro b319 w318 hR320 hM
  replace hM : St ⟨w, X, S⟩ [oBox b319 #[(.string d.name), (.int .i64 d.from_), s_d_2.v, s_d_3.v, s_d_4.v] 53] [rV s_d_4.v (cSl 3 fDSeen d.seen), rV s_d_3.v (cSl 3 fDEntry d.list), rV s_d_2.v (cSl 1 fI d.text)] _ := hM
  refine wv rfl (r_assign rfl) ?_
  refine wv rfl (r_assign rfl) ?_
  refine wl_nil ?_
  refine sq_n ?_
  refine wc_seq ?_
  refine wc_seq ?_
  refine wc_region ?_
  refine wv rfl (r_ldBS Try.underlying53 sz53 rfl (us := [(.string d.name), (.int .i64 d.from_), s_d_2.v, s_d_3.v, s_d_4.v]) rfl hM (.head _) rfl) ?_
  obtain ⟨r325, h326, hx⟩ := bind_some' hx
  refine w_call rfl rfl (hM.callV fun X S oL hS hR hO => ct_spec_DocOk _ X S d s_d_2 s_d_3 s_d_4 hS (hR _ (.tail _ (.tail _ (.head _)))) (hR _ (.tail _ (.head _))) (hR _ (.head _)) oL h326) ?_
  rintro _ w327 ⟨rfl, hR328⟩
  have hM := hM.call hR328
  refine wv rfl (r_not rfl) ?_
  refine wl_nil ?_
  refine sq_n ?_
  refine wc_cond rfl (fun hc330 => ?_) (fun hc330 => ?_)
  · replace hx := xif_t hc330 hx
    refine wc_seq ?_
    refine wc_region ?_
    refine wv rfl (r_assign rfl) ?_
    refine wv rfl (r_assign rfl) ?_
    refine wl_nil ?_
    refine sq_n ?_
    refine wc_ret ?_
    refine sq_ret ?_
    obtain rfl := Option.some.inj hx
    have hM := hM.nil0 (T := UInt8) 1 fY
    refine fin_ret [nS.v, (.bool false)] ⟨rfl, rfl, trivial⟩ ?_
    replace hM := hM.t1
    have hM := hM.fewer rsN
    exact ⟨nS, rfl, hM.gives⟩
  · replace hx := xif_f hc330 hx
    refine wc_skip ?_
    refine sq_n ?_
    refine wc_seq ?_
    refine wc_region ?_
    refine wv rfl (r_fld Try.underlying53 rfl rfl sz3 rfl) ?_
    refine wv rfl (r_ldB Try.underlying3 rfl rfl hM (.head _) rfl) ?_
    refine wv rfl (r_fld Try.underlying53 rfl rfl sz23 rfl) ?_
    refine wv rfl (r_ldB Try.underlying23 rfl rfl hM (.head _) rfl) ?_
    refine wv rfl (r_lenC Try.underlying23 rfl (hM.seeR (.tail _ (.tail _ (.head _))))) ?_
    refine w_ex rfl (x_lit (f := fI) (own := []) [d.from_, (d.text.length : Int)] [(.int .i64 d.from_), (.int .i64 (d.text.length : Int))] 2 Try.underlying23 sz3 (fun _ => rfl) rfl rfl rfl rfl rfl (by kernel_rfl) (fun _ => zP (pV _ rfl) (zP (pV _ rfl) zN)) hM ?_); intro s340 w339 hR341 hM
    refine wv rfl (r_assign rfl) ?_
    refine wl_nil ?_
    refine sq_n ?_
    refine wc_seq ?_
    refine wc_region ?_
    refine wv rfl (r_move rfl) ?_
    refine wv rfl (r_fld Try.underlying53 rfl rfl sz23 rfl) ?_
    refine wv rfl (r_ldB Try.underlying23 rfl rfl hM (.tail _ (.head _)) rfl) ?_
    obtain ⟨hg349, hx⟩ := xg_some hx
    refine w_ex rfl (x_append Try.underlying23 sz3 rfl rfl (hM.seeR (.tail _ (.tail _ (.head _)))) flI hM hg349 rfl ?_); intro s348 w347 hM
    refine wv rfl (r_assign rfl) ?_
    refine wl_nil ?_
    refine sq_n ?_
    refine wc_seq ?_
    refine wc_region ?_
    refine wv rfl (r_move rfl) ?_
    refine wv rfl (r_fld Try.underlying53 rfl rfl sz36 rfl) ?_
    refine wv rfl (r_ldB Try.underlying36 rfl rfl hM (.tail _ (.head _)) rfl) ?_
    refine wv rfl (r_lenC Try.underlying36 rfl (hM.seeR (.tail _ (.head _)))) ?_
    obtain ⟨hg359, hx⟩ := xg_some hx
    refine w_push (f := fI) (d.list.length : Int) rfl rfl Try.underlying23 sz3 rfl rfl rfl rfl (fun _ => rfl) hM (fun _ => zP (pV _ rfl) zN) rfl hg359 rfl ?_; intro u357 s358 w356 hM
    refine wv rfl (r_assign rfl) ?_
    refine wl_nil ?_
    refine sq_n ?_
    refine wc_seq ?_
    refine wc_region ?_
    refine w_ex rfl (x_empty (f := fY) Try.underlying48 sz5 (fun _ => rfl) hM ?_); intro s362 w361 hR363 hM
    refine wv rfl (r_assign rfl) ?_
    refine wl_nil ?_
    refine sq_n ?_
    refine wc_seq ?_
    refine wc_seq ?_
    refine wc_region ?_
    refine wv rfl (r_move rfl) ?_
    refine wv rfl (r_lenC Try.underlying23 rfl (hM.seeO (.tail _ (.head _)))) ?_
    refine wv rfl (r_move rfl) ?_
    refine wl_nil ?_
    refine sq_n ?_
    refine wc_block ?_
    obtain ⟨y369, hx, hx370⟩ := bind_some' hx
    replace hM := hM.p1.p2
    have hM := hM.fewer (rsC (.tail _ (.tail _ (.head _))) (rsC (.tail _ (.head _)) (rsC (.head _) rsN)))
    replace hM : St ⟨w, X, S⟩ [oBox b319 #[(.string d.name), (.int .i64 d.from_), s_d_2.v, s_d_3.v, s_d_4.v] 53, oC (cSl 1 fI (([d.from_, (d.text.length : Int)] ++ d.text) ++ [(d.list.length : Int)])) s358.v, oC (cSl 1 fY ([] : List UInt8)) s362.v] [rV s_d_2.v (cSl 1 fI d.text), rV s_d_3.v (cSl 3 fDEntry d.list), rV s_d_4.v (cSl 3 fDSeen d.seen)] _ := hM
    have hl377 := Cs.le (hM.seeO (.tail _ (.head _)))
    refine wc_loop (un fun (m374 : Nat) => un fun (k375 : Nat) => un fun (b371 : List UInt8) => fun (s373 : Sv) => [(1, (.pointer (some ⟨b319, 0, none⟩))), (5, s373.v), (32, s358.v), (33, (.int .i64 ((([d.from_, (d.text.length : Int)] ++ d.text) ++ [(d.list.length : Int)]).length : Int))), (34, (.int .i64 (k375 : Int)))]) (un fun (m374 : Nat) => un fun (k375 : Nat) => un fun (b371 : List UInt8) => fun (s373 : Sv) w' => St ⟨w, X, S⟩ [oBox b319 #[(.string d.name), (.int .i64 d.from_), s_d_2.v, s_d_3.v, s_d_4.v] 53, oC (cSl 1 fI (([d.from_, (d.text.length : Int)] ++ d.text) ++ [(d.list.length : Int)])) s358.v, oC (cSl 1 fY b371) s373.v] [rV s_d_2.v (cSl 1 fI d.text), rV s_d_3.v (cSl 3 fDEntry d.list), rV s_d_4.v (cSl 3 fDSeen d.seen)] w' ∧ eachN _ _ m374 k375 b371 = some y369 ∧ k375 + m374 = (([d.from_, (d.text.length : Int)] ++ d.text) ++ [(d.list.length : Int)]).length) (fun p => p.1) ((([d.from_, (d.text.length : Int)] ++ d.text) ++ [(d.list.length : Int)]).length, 0, [], s362) ⟨rfl, rfl, rfl, rfl, rfl, trivial⟩ ⟨hM, hx, Nat.zero_add _⟩ ?_
    rintro ⟨m374, k375, b371, s373⟩ w378 ⟨hM, hx, hk376⟩
    refine wc_seq ?_
    refine wc_region ?_
    refine wv rfl (r_lss rfl rfl) ?_
    refine wl_nil ?_
    refine sq_n ?_
    refine wc_seq ?_
    refine wc_cond rfl (fun hc380 => ?_) (fun hc380 => ?_)
    · replace hc380 := of_decide_eq_true hc380
      obtain ⟨m381, z382, rfl, hk376, hx, hx383⟩ := eachN_step hx hk376 hc380
      unfold x_spec_DocBytes_f0 x_spec_DocBytes_b0 at hx
      try dsimp only at hx
      refine wc_skip ?_
      refine sq_n ?_
      refine wc_seq ?_
      refine wc_block ?_
      refine wc_seq ?_
      refine wc_region ?_
      have hi385 : k375 < (([d.from_, (d.text.length : Int)] ++ d.text) ++ [(d.list.length : Int)]).length := by omega
      refine wv rfl (r_ixC Try.underlying23 sz3 rfl rfl (hM.seeO (.tail _ (.head _))) ⟨by omega, hc380⟩) ?_
      refine wv rfl (r_ld Try.underlying3 rfl rfl (Cs.get (i := k375) (j := 0) (hM.seeO (.tail _ (.head _))) (fun _ => rfl) hi385 rfl)) ?_
      refine wv rfl (r_assign rfl) ?_
      refine wl_nil ?_
      refine sq_n ?_
      refine wc_region ?_
      refine wv rfl (r_move rfl) ?_
      refine wv rfl (r_move rfl) ?_
      obtain ⟨r390, h391, hx⟩ := bind_some' hx
      refine w_call rfl rfl (hM.callO (l := []) fun X S oL hS hR hO => ct_spec_l21Num _ X S b371 s373 (el (([d.from_, (d.text.length : Int)] ++ d.text) ++ [(d.list.length : Int)]) k375) hS (seeA hO (.tail _ (.tail _ (.head _)))) oL h391) ?_
      rintro _ w392 ⟨s393, rfl, hM⟩
      replace hM : St ⟨w, X, S⟩ [oC (cSl 1 fY r390) s393.v, oBox b319 #[(.string d.name), (.int .i64 d.from_), s_d_2.v, s_d_3.v, s_d_4.v] 53, oC (cSl 1 fI (([d.from_, (d.text.length : Int)] ++ d.text) ++ [(d.list.length : Int)])) s358.v, oC (cSl 1 fY b371) s373.v] [rV s_d_2.v (cSl 1 fI d.text), rV s_d_3.v (cSl 3 fDEntry d.list), rV s_d_4.v (cSl 3 fDSeen d.seen)] _ := hM
      refine wv rfl (r_assign rfl) ?_
      refine wl_nil ?_
      refine bk_n ?_
      refine sq_n ?_
      refine wc_region ?_
      refine wv rfl (r_add rfl rfl ⟨by omega, by omega⟩) ?_
      refine wv rfl (r_move rfl) ?_
      refine wl_nil ?_
      obtain rfl := Option.some.inj hx
      replace hM := hM.p2.p2
      replace hM := hM.t3
      exact lp_end (m381, k375 + 1, r390, s393) (Nat.lt_succ_self _) ⟨rfl, rfl, rfl, rfl, rfl, trivial⟩ ⟨hM, hx383, hk376⟩
    · replace hc380 := of_decide_eq_false hc380
      obtain rfl := eachN_end hx hk376 hc380
      refine wc_exit ?_
      refine sq_exit ?_
      refine lp1_exit ?_
      replace hx := hx370
      try dsimp only [Sum.elim_inl, Sum.elim_inr] at hx
      refine bk_here ?_
      refine sq_n ?_
      refine wc_seq ?_
      refine wc_seq ?_
      refine wc_region ?_
      refine wv rfl (r_fld Try.underlying53 rfl rfl sz36 rfl) ?_
      refine wv rfl (r_ldB Try.underlying36 rfl rfl hM (.head _) rfl) ?_
      refine wv rfl (r_lenC Try.underlying36 rfl (hM.seeR (.tail _ (.head _)))) ?_
      refine wv rfl (r_move rfl) ?_
      refine wl_nil ?_
      refine sq_n ?_
      refine wc_block ?_
      obtain ⟨y402, hx, hx403⟩ := bind_some' hx
      replace hM := hM.p2.p1
      replace hM := hM.t2
      have hl410 := Cs.le (hM.seeR (.tail _ (.head _)))
      refine wc_loop (un fun (m407 : Nat) => un fun (k408 : Nat) => un fun (b404 : List UInt8) => fun (s406 : Sv) => [(1, (.pointer (some ⟨b319, 0, none⟩))), (5, s406.v), (43, s_d_3.v), (44, (.int .i64 (d.list.length : Int))), (45, (.int .i64 (k408 : Int)))]) (un fun (m407 : Nat) => un fun (k408 : Nat) => un fun (b404 : List UInt8) => fun (s406 : Sv) w' => St ⟨w, X, S⟩ [oBox b319 #[(.string d.name), (.int .i64 d.from_), s_d_2.v, s_d_3.v, s_d_4.v] 53, oC (cSl 1 fY b404) s406.v] [rV s_d_2.v (cSl 1 fI d.text), rV s_d_3.v (cSl 3 fDEntry d.list), rV s_d_4.v (cSl 3 fDSeen d.seen)] w' ∧ eachN _ _ m407 k408 b404 = some y402 ∧ k408 + m407 = d.list.length) (fun p => p.1) (d.list.length, 0, b371, s373) ⟨rfl, rfl, rfl, rfl, rfl, trivial⟩ ⟨hM, hx, Nat.zero_add _⟩ ?_
      rintro ⟨m407, k408, b404, s406⟩ w411 ⟨hM, hx, hk409⟩
      refine wc_seq ?_
      refine wc_region ?_
      refine wv rfl (r_lss rfl rfl) ?_
      refine wl_nil ?_
      refine sq_n ?_
      refine wc_seq ?_
      refine wc_cond rfl (fun hc413 => ?_) (fun hc413 => ?_)
      · replace hc413 := of_decide_eq_true hc413
        obtain ⟨m414, z415, rfl, hk409, hx, hx416⟩ := eachN_step hx hk409 hc413
        unfold x_spec_DocBytes_f1 x_spec_DocBytes_b1 at hx
        try dsimp only at hx
        refine wc_skip ?_
        refine sq_n ?_
        refine wc_seq ?_
        refine wc_block ?_
        refine wc_seq ?_
        refine wc_region ?_
        have hi418 : k408 < d.list.length := by omega
        refine wv rfl (r_ixC Try.underlying36 sz73 rfl rfl (hM.seeR (.tail _ (.head _))) ⟨by omega, hc413⟩) ?_
        obtain ⟨s420, hM, hc421⟩ := hM.leaf (i := k408) (j := 2) (.tail _ (.head _)) (fun _ => rfl) hi418 rfl
        refine wv rfl (r_ldC (o := k408 * 3) Try.underlying73 sz73 rfl (us := [(.int .i64 ((el d.list k408).client)), (.int .i64 ((el d.list k408).seq)), s420.v]) rfl (hM.seeR (.tail _ (.tail _ (.head _)))) hi418 ⟨(Cs.get (i := k408) (j := 0) (hM.seeR (.tail _ (.tail _ (.head _)))) (fun _ => rfl) hi418 rfl), (Cs.get (i := k408) (j := 1) (hM.seeR (.tail _ (.tail _ (.head _)))) (fun _ => rfl) hi418 rfl), (hc421 _ (Rel.refl _)), trivial⟩) ?_
        refine w_ex rfl (x_alloc sz73 hM ?_); intro b423 w422 hR424 hM
        replace hM : St ⟨w, X, S⟩ [oBox b423 #[(.int .i64 0), (.int .i64 0), (.slice none 0 0)] 73, oBox b319 #[(.string d.name), (.int .i64 d.from_), s_d_2.v, s_d_3.v, s_d_4.v] 53, oC (cSl 1 fY b404) s406.v] [rV s420.v (cSl 3 fDPart ((el d.list k408).o)), rV s_d_2.v (cSl 1 fI d.text), rV s_d_3.v (cSl 3 fDEntry d.list), rV s_d_4.v (cSl 3 fDSeen d.seen)] _ := hM
        refine w_exu (x_stB #[(.int .i64 ((el d.list k408).client)), (.int .i64 ((el d.list k408).seq)), s420.v] sz73 rfl rfl rfl rfl rfl rfl hM ?_); intro w426 hM
        refine wl_nil ?_
        refine sq_n ?_
        refine wc_draw [(0, 0), (1, 0), (2, 0), (4, 0), (5, 0), (7, 0), (8, 0), (3, 1), (6, 1), (9, 2), (10, 0), (11, 0), (12, 0), (13, 0)] Try_mixed (by kernel_rfl) rfl (by kernel_rfl) rfl ?_
        refine ov rfl (fun w' h' => r_move rfl) ?_
        refine ov rfl (fun w' h' => r_fld Try.underlying73 rfl rfl sz3 rfl) ?_
        refine ov rfl (fun w' h' => r_ldB Try.underlying3 rfl rfl (hM.call h') (.head _) rfl) ?_
        refine ov rfl (fun w' h' => r_fld Try.underlying73 rfl rfl sz3 rfl) ?_
        refine ov rfl (fun w' h' => r_ldB Try.underlying3 rfl rfl (hM.call h') (.head _) rfl) ?_
        refine ov rfl (fun w' h' => r_fld Try.underlying73 rfl rfl sz33 rfl) ?_
        refine ov rfl (fun w' h' => r_ldB Try.underlying33 rfl rfl (hM.call h') (.head _) rfl) ?_
        obtain ⟨r435, h436, hx⟩ := bind_some' hx
        refine o_forced rfl rfl (fun w' h' => (hM.call h').callF fun X S oL hS hR hO => ct_spec_l21Num _ X S b404 s406 ((el d.list k408).client) hS (seeA hO (.tail _ (.tail _ (.head _)))) oL h436) ?_
        rintro w439 h440 _ w437 ⟨hR441, s438, rfl, hM⟩
        refine ⟨hR441, ?_⟩
        replace hM : St ⟨w, X, S⟩ [oC (cSl 1 fY r435) s438.v, oBox b423 #[(.int .i64 ((el d.list k408).client)), (.int .i64 ((el d.list k408).seq)), s420.v] 73, oBox b319 #[(.string d.name), (.int .i64 d.from_), s_d_2.v, s_d_3.v, s_d_4.v] 53, oC (cSl 1 fY b404) s406.v] [rV s420.v (cSl 3 fDPart ((el d.list k408).o)), rV s_d_2.v (cSl 1 fI d.text), rV s_d_3.v (cSl 3 fDEntry d.list), rV s_d_4.v (cSl 3 fDSeen d.seen)] _ := hM
        obtain ⟨r443, h444, hx⟩ := bind_some' hx
        refine o_forced rfl rfl (fun w' h' => (hM.call h').callF fun X S oL hS hR hO => ct_spec_l21Num _ X S r435 s438 ((el d.list k408).seq) hS (seeA hO (.head _)) oL h444) ?_
        rintro w447 h448 _ w445 ⟨hR449, s446, rfl, hM⟩
        refine ⟨hR449, ?_⟩
        replace hM : St ⟨w, X, S⟩ [oC (cSl 1 fY r443) s446.v, oC (cSl 1 fY r435) s438.v, oBox b423 #[(.int .i64 ((el d.list k408).client)), (.int .i64 ((el d.list k408).seq)), s420.v] 73, oBox b319 #[(.string d.name), (.int .i64 d.from_), s_d_2.v, s_d_3.v, s_d_4.v] 53, oC (cSl 1 fY b404) s406.v] [rV s420.v (cSl 3 fDPart ((el d.list k408).o)), rV s_d_2.v (cSl 1 fI d.text), rV s_d_3.v (cSl 3 fDEntry d.list), rV s_d_4.v (cSl 3 fDSeen d.seen)] _ := hM
        obtain ⟨r451, h452, hx⟩ := bind_some' hx
        refine o_call rfl rfl (fun w' h' => (hM.call h').callO (l := []) fun X S oL hS hR hO => ct_spec_PutOp _ X S r443 s446 ((el d.list k408).o) s420 hS (seeA hO (.head _)) (hR _ (.head _)) oL h452) ?_
        rintro w455 h456 _ w453 ⟨s454, rfl, hM⟩
        replace hM : St ⟨w, X, S⟩ [oC (cSl 1 fY r451.1) s454.v, oC (cSl 1 fY r443) s446.v, oC (cSl 1 fY r435) s438.v, oBox b423 #[(.int .i64 ((el d.list k408).client)), (.int .i64 ((el d.list k408).seq)), s420.v] 73, oBox b319 #[(.string d.name), (.int .i64 d.from_), s_d_2.v, s_d_3.v, s_d_4.v] 53, oC (cSl 1 fY b404) s406.v] [rV s420.v (cSl 3 fDPart ((el d.list k408).o)), rV s_d_2.v (cSl 1 fI d.text), rV s_d_3.v (cSl 3 fDEntry d.list), rV s_d_4.v (cSl 3 fDSeen d.seen)] _ := hM
        refine ov rfl (fun w' h' => r_move rfl) ?_
        refine ov rfl (fun w' h' => r_extract rfl rfl) ?_
        refine ov rfl (fun w' h' => r_extract rfl rfl) ?_
        refine ov rfl (fun w' h' => r_assign rfl) ?_
        refine o_nil fun w462 hw463 => ?_
        have hM := hM.call hw463
        refine bk_n ?_
        refine sq_n ?_
        refine wc_region ?_
        refine wv rfl (r_add rfl rfl ⟨by omega, by omega⟩) ?_
        refine wv rfl (r_move rfl) ?_
        refine wl_nil ?_
        obtain rfl := Option.some.inj hx
        replace hM := hM.p4
        replace hM := hM.t2
        have hM := hM.fewer (rsC (.tail _ (.head _)) (rsC (.tail _ (.tail _ (.head _))) (rsC (.tail _ (.tail _ (.tail _ (.head _)))) rsN)))
        replace hM : St ⟨w, X, S⟩ [oBox b319 #[(.string d.name), (.int .i64 d.from_), s_d_2.v, s_d_3.v, s_d_4.v] 53, oC (cSl 1 fY r451.1) s454.v] [rV s_d_2.v (cSl 1 fI d.text), rV s_d_3.v (cSl 3 fDEntry d.list), rV s_d_4.v (cSl 3 fDSeen d.seen)] _ := hM
        exact lp_end (m414, k408 + 1, r451.1, s454) (Nat.lt_succ_self _) ⟨rfl, rfl, rfl, rfl, rfl, trivial⟩ ⟨hM, hx416, hk409⟩
      · replace hc413 := of_decide_eq_false hc413
        obtain rfl := eachN_end hx hk409 hc413
        refine wc_exit ?_
        refine sq_exit ?_
        refine lp1_exit ?_
        replace hx := hx403
        try dsimp only [Sum.elim_inl, Sum.elim_inr] at hx
        refine bk_here ?_
        refine sq_n ?_
        refine wc_seq ?_
        refine wc_region ?_
        refine wv rfl (r_move rfl) ?_
        refine wv rfl (r_fld Try.underlying53 rfl rfl sz51 rfl) ?_
        refine wv rfl (r_ldB Try.underlying51 rfl rfl hM (.head _) rfl) ?_
        refine wv rfl (r_lenC Try.underlying51 rfl (hM.seeR (.tail _ (.tail _ (.head _))))) ?_
        obtain ⟨r470, h471, hx⟩ := bind_some' hx
        refine w_call rfl rfl (hM.callO (l := []) fun X S oL hS hR hO => ct_spec_l21Num _ X S b404 s406 (d.seen.length : Int) hS (seeA hO (.tail _ (.head _))) oL h471) ?_
        rintro _ w472 ⟨s473, rfl, hM⟩
        replace hM : St ⟨w, X, S⟩ [oC (cSl 1 fY r470) s473.v, oBox b319 #[(.string d.name), (.int .i64 d.from_), s_d_2.v, s_d_3.v, s_d_4.v] 53, oC (cSl 1 fY b404) s406.v] [rV s_d_2.v (cSl 1 fI d.text), rV s_d_3.v (cSl 3 fDEntry d.list), rV s_d_4.v (cSl 3 fDSeen d.seen)] _ := hM
        refine wv rfl (r_assign rfl) ?_
        refine wl_nil ?_
        refine sq_n ?_
        refine wc_seq ?_
        refine wc_seq ?_
        refine wc_region ?_
        refine wv rfl (r_fld Try.underlying53 rfl rfl sz51 rfl) ?_
        refine wv rfl (r_ldB Try.underlying51 rfl rfl hM (.tail _ (.head _)) rfl) ?_
        refine wv rfl (r_lenC Try.underlying51 rfl (hM.seeR (.tail _ (.tail _ (.head _))))) ?_
        refine wv rfl (r_move rfl) ?_
        refine wl_nil ?_
        refine sq_n ?_
        refine wc_block ?_
        obtain ⟨y480, hx, hx481⟩ := bind_some' hx
        replace hM := hM.t1
        have hM := hM.fewer (rsC (.tail _ (.tail _ (.head _))) rsN)
        replace hM : St ⟨w, X, S⟩ [oC (cSl 1 fY r470) s473.v] [rV s_d_4.v (cSl 3 fDSeen d.seen)] _ := hM
        have hl488 := Cs.le (hM.seeR (.head _))
        refine wc_loop (un fun (m485 : Nat) => un fun (k486 : Nat) => un fun (b482 : List UInt8) => fun (s484 : Sv) => [(5, s484.v), (69, s_d_4.v), (70, (.int .i64 (d.seen.length : Int))), (71, (.int .i64 (k486 : Int)))]) (un fun (m485 : Nat) => un fun (k486 : Nat) => un fun (b482 : List UInt8) => fun (s484 : Sv) w' => St ⟨w, X, S⟩ [oC (cSl 1 fY b482) s484.v] [rV s_d_4.v (cSl 3 fDSeen d.seen)] w' ∧ eachN _ _ m485 k486 b482 = some y480 ∧ k486 + m485 = d.seen.length) (fun p => p.1) (d.seen.length, 0, r470, s473) ⟨rfl, rfl, rfl, rfl, trivial⟩ ⟨hM, hx, Nat.zero_add _⟩ ?_
        rintro ⟨m485, k486, b482, s484⟩ w489 ⟨hM, hx, hk487⟩
        refine wc_seq ?_
        refine wc_region ?_
        refine wv rfl (r_lss rfl rfl) ?_
        refine wl_nil ?_
        refine sq_n ?_
        refine wc_seq ?_
        refine wc_cond rfl (fun hc491 => ?_) (fun hc491 => ?_)
        · replace hc491 := of_decide_eq_true hc491
          obtain ⟨m492, z493, rfl, hk487, hx, hx494⟩ := eachN_step hx hk487 hc491
          unfold x_spec_DocBytes_f2 x_spec_DocBytes_b2 at hx
          try dsimp only at hx
          refine wc_skip ?_
          refine sq_n ?_
          refine wc_seq ?_
          refine wc_block ?_
          refine wc_seq ?_
          refine wc_region ?_
          have hi496 : k486 < d.seen.length := by omega
          refine wv rfl (r_ixC Try.underlying51 sz76 rfl rfl (hM.seeR (.head _)) ⟨by omega, hc491⟩) ?_
          refine wv rfl (r_ldC (o := k486 * 3) Try.underlying76 sz76 rfl (us := [(.int .i64 ((el d.seen k486).client)), (.int .i64 ((el d.seen k486).seq)), (.int .i64 ((el d.seen k486).rev))]) rfl (hM.seeR (.head _)) hi496 ⟨(Cs.get (i := k486) (j := 0) (hM.seeR (.head _)) (fun _ => rfl) hi496 rfl), (Cs.get (i := k486) (j := 1) (hM.seeR (.head _)) (fun _ => rfl) hi496 rfl), (Cs.get (i := k486) (j := 2) (hM.seeR (.head _)) (fun _ => rfl) hi496 rfl), trivial⟩) ?_
          refine w_ex rfl (x_alloc sz76 hM ?_); intro b499 w498 hR500 hM
          replace hM : St ⟨w, X, S⟩ [oBox b499 #[(.int .i64 0), (.int .i64 0), (.int .i64 0)] 76, oC (cSl 1 fY b482) s484.v] [rV s_d_4.v (cSl 3 fDSeen d.seen)] _ := hM
          refine w_exu (x_stB #[(.int .i64 ((el d.seen k486).client)), (.int .i64 ((el d.seen k486).seq)), (.int .i64 ((el d.seen k486).rev))] sz76 rfl rfl rfl rfl rfl rfl hM ?_); intro w502 hM
          refine wl_nil ?_
          refine sq_n ?_
          refine wc_draw [(0, 0), (1, 0), (2, 0), (4, 0), (5, 0), (7, 0), (8, 0), (3, 1), (6, 1), (9, 2), (10, 0)] Try_mixed (by kernel_rfl) rfl (by kernel_rfl) rfl ?_
          refine ov rfl (fun w' h' => r_move rfl) ?_
          refine ov rfl (fun w' h' => r_fld Try.underlying76 rfl rfl sz3 rfl) ?_
          refine ov rfl (fun w' h' => r_ldB Try.underlying3 rfl rfl (hM.call h') (.head _) rfl) ?_
          refine ov rfl (fun w' h' => r_fld Try.underlying76 rfl rfl sz3 rfl) ?_
          refine ov rfl (fun w' h' => r_ldB Try.underlying3 rfl rfl (hM.call h') (.head _) rfl) ?_
          refine ov rfl (fun w' h' => r_fld Try.underlying76 rfl rfl sz3 rfl) ?_
          refine ov rfl (fun w' h' => r_ldB Try.underlying3 rfl rfl (hM.call h') (.head _) rfl) ?_
          obtain ⟨r511, h512, hx⟩ := bind_some' hx
          refine o_forced rfl rfl (fun w' h' => (hM.call h').callF fun X S oL hS hR hO => ct_spec_l21Num _ X S b482 s484 ((el d.seen k486).client) hS (seeA hO (.tail _ (.head _))) oL h512) ?_
          rintro w515 h516 _ w513 ⟨hR517, s514, rfl, hM⟩
          refine ⟨hR517, ?_⟩
          replace hM : St ⟨w, X, S⟩ [oC (cSl 1 fY r511) s514.v, oBox b499 #[(.int .i64 ((el d.seen k486).client)), (.int .i64 ((el d.seen k486).seq)), (.int .i64 ((el d.seen k486).rev))] 76, oC (cSl 1 fY b482) s484.v] [rV s_d_4.v (cSl 3 fDSeen d.seen)] _ := hM
          obtain ⟨r519, h520, hx⟩ := bind_some' hx
          refine o_forced rfl rfl (fun w' h' => (hM.call h').callF fun X S oL hS hR hO => ct_spec_l21Num _ X S r511 s514 ((el d.seen k486).seq) hS (seeA hO (.head _)) oL h520) ?_
          rintro w523 h524 _ w521 ⟨hR525, s522, rfl, hM⟩
          refine ⟨hR525, ?_⟩
          replace hM : St ⟨w, X, S⟩ [oC (cSl 1 fY r519) s522.v, oC (cSl 1 fY r511) s514.v, oBox b499 #[(.int .i64 ((el d.seen k486).client)), (.int .i64 ((el d.seen k486).seq)), (.int .i64 ((el d.seen k486).rev))] 76, oC (cSl 1 fY b482) s484.v] [rV s_d_4.v (cSl 3 fDSeen d.seen)] _ := hM
          obtain ⟨r527, h528, hx⟩ := bind_some' hx
          refine o_call rfl rfl (fun w' h' => (hM.call h').callO (l := []) fun X S oL hS hR hO => ct_spec_l21Num _ X S r519 s522 ((el d.seen k486).rev) hS (seeA hO (.head _)) oL h528) ?_
          rintro w531 h532 _ w529 ⟨s530, rfl, hM⟩
          replace hM : St ⟨w, X, S⟩ [oC (cSl 1 fY r527) s530.v, oC (cSl 1 fY r519) s522.v, oC (cSl 1 fY r511) s514.v, oBox b499 #[(.int .i64 ((el d.seen k486).client)), (.int .i64 ((el d.seen k486).seq)), (.int .i64 ((el d.seen k486).rev))] 76, oC (cSl 1 fY b482) s484.v] [rV s_d_4.v (cSl 3 fDSeen d.seen)] _ := hM
          refine ov rfl (fun w' h' => r_assign rfl) ?_
          refine o_nil fun w535 hw536 => ?_
          have hM := hM.call hw536
          refine bk_n ?_
          refine sq_n ?_
          refine wc_region ?_
          refine wv rfl (r_add rfl rfl ⟨by omega, by omega⟩) ?_
          refine wv rfl (r_move rfl) ?_
          refine wl_nil ?_
          obtain rfl := Option.some.inj hx
          replace hM := hM.t1
          exact lp_end (m492, k486 + 1, r527, s530) (Nat.lt_succ_self _) ⟨rfl, rfl, rfl, rfl, trivial⟩ ⟨hM, hx494, hk487⟩
        · replace hc491 := of_decide_eq_false hc491
          obtain rfl := eachN_end hx hk487 hc491
          refine wc_exit ?_
          refine sq_exit ?_
          refine lp1_exit ?_
          replace hx := hx481
          try dsimp only [Sum.elim_inl, Sum.elim_inr] at hx
          refine bk_here ?_
          refine sq_n ?_
          refine wc_seq ?_
          refine wc_region ?_
          refine wv rfl (r_move rfl) ?_
          refine wv rfl (r_assign rfl) ?_
          refine wv rfl (r_assign rfl) ?_
          refine wl_nil ?_
          refine sq_n ?_
          refine wc_ret ?_
          obtain rfl := Option.some.inj hx
          refine fin_ret [s484.v, (.bool true)] ⟨rfl, rfl, trivial⟩ ?_
          replace hM := hM.t1
          have hM := hM.fewer rsN
          exact ⟨s484, rfl, hM.gives⟩

end Go.Proofs.Ytbapjbanejimiaa
