/- Walks of functions of this program (printed by a program of ours, by the rules of the layer). No condition. -/
import Derived.Test.YtlgmikaemfbmaaaGreatGW
import Derived.Test.YtlgmikaemfbmaaaGreatNs
namespace Go.Proofs.YtlgmikaemfbmaaaGreat
open Go.RowKit

noncomputable def x_impl_PutNum_b0 (n18 : Int) (out19 : List UInt8) : Option (Lr (Int × List UInt8) (Int × List UInt8)) :=
  bif decide ((128 : Int) ≤ n18) then (xg (0 ≤ n18 ∧ 0 < (128 : Int)) <| xg (inI ((n18 % 128) + 128)) <| xg (out19.length < 1099511627776) <| xg (0 ≤ n18 ∧ n18 ≤ 9223372036854775807 ∧ 0 < (128 : Int)) <| some (Lr.go (n18 / 128, out19 ++ [y8 ((n18 % 128) + 128)]))) else (some (Lr.out (n18, out19)))
noncomputable def x_impl_PutNum_f0 (s58 : Int × List UInt8) : Option (Lr (Int × List UInt8) (Int × List UInt8)) := x_impl_PutNum_b0 s58.1 s58.2
noncomputable def x_impl_PutNum (b : List UInt8) (n : Int) : Option (List UInt8 × Bool) :=
  Option.bind (x_impl_within n 0 1114111000) fun r4 => bif !r4 then (some ([], false)) else (xg (0 + b.length ≤ 1099511627776) <| Option.bind (iter (x_impl_PutNum_f0) (n, [] ++ b)) fun (y59 : Int × List UInt8) => xg (y59.2.length < 1099511627776) <| some (y59.2 ++ [y8 y59.1], true))
theorem ct_impl_PutNum (w : World) (X S : Bs) (b : List UInt8) (s_b : Sv) (n : Int) (hS : ∀ b, S b → b < w.heap.size ∧ ¬ X b) (a_b_0 : (cSl 1 fY b).rd S w s_b.v) (oL : Sep [] X w) {r : List UInt8 × Bool} (hx : x_impl_PutNum b n = some r) :
  Ret Tryz.prog 22 [s_b.v, (.int .i64 n)] w (fun u w' => ∃ y : Sv, u = .tuple #[y.v, (.bool r.2)] ∧ Gives X S w [oC (cSl 1 fY r.1) y.v] [] w') := by
 unfold x_impl_PutNum at hx
 refine enter Tryz.func22 rfl Tryz.ntmps22 (by kernel_rfl) rfl ?_
 have hM := St.enter oL hS
 have hM := hM.addE (r := rV s_b.v (cSl 1 fY b)) a_b_0
 refine wc_sr ?_
 refine was rfl rfl ?_
 refine was rfl rfl ?_
 refine wl_sq ?_
 refine wc_seq ?_
 refine wc_sr ?_
 refine wmv rfl rfl ?_
 obtain ⟨r74, h75, hx⟩ := bind_some' hx
 refine w_call rfl rfl (hM.callV fun X S oL hS hR hO => ct_impl_within _ X S n (0 : Int) (1114111000 : Int) hS  oL h75) ?_
 rintro _ w76 ⟨rfl, hR77⟩
 have hM := hM.call hR77
 refine wv rfl (r_not rfl) ?_
 refine wl_sq ?_
 refine wc_cond rfl (fun hc79 => ?_) (fun hc79 => ?_)
 ·
  replace hx := xif_t hc79 hx
  refine wc_sr ?_
  refine was rfl rfl ?_
  refine was rfl rfl ?_
  refine wl_sq ?_
  refine wc_ret ?_
  refine sq_ret ?_
  obtain rfl := Option.some.inj hx
  have hM := hM.nil0 (T := UInt8) 1 fY
  refine fin_ret [nS.v, (.bool false)] ⟨rfl, rfl, trivial⟩ ?_
  replace hM := hM.t1
  have hM := hM.fewer rsN
  exact ⟨nS, rfl, hM.gives⟩
 ·
  replace hx := xif_f hc79 hx
  refine wc_skip ?_
  refine sq_n ?_
  refine wc_sr ?_
  refine wmv rfl rfl ?_
  have hM := hM.nil0 (T := UInt8) 1 fY
  obtain ⟨hg87, hx⟩ := xg_some hx
  refine w_ex rfl (x_append Tryz.underlying22 sz5 rfl rfl (hM.seeR (.head _)) flY hM hg87 rfl ?_); intro s85 w84 hM
  refine was rfl rfl ?_
  refine wl_sq ?_
  refine wc_seq ?_
  refine wc_block ?_
  obtain ⟨y90, hx, hx91⟩ := bind_some' hx
  have hM := hM.fewer rsN
  replace hM : St ⟨w, X, S⟩ [oC (cSl 1 fY ([] ++ b)) s85.v] [] _ := hM
  obtain ⟨m98, hx⟩ := iter_run hx
  refine wc_loop (un fun (m96 : Nat) => un fun (n92 : Int) => un fun (out93 : List UInt8) => fun (s95 : Sv) => [(1, (.int .i64 n92)), (6, s95.v)]) (un fun (m96 : Nat) => un fun (n92 : Int) => un fun (out93 : List UInt8) => fun (s95 : Sv) w' => St ⟨w, X, S⟩ [oC (cSl 1 fY out93) s95.v] [] w' ∧ iterN _ m96 (n92, out93) = some y90) (fun p => p.1) (m98, n, [] ++ b, s85) ⟨rfl, rfl, trivial⟩ ⟨hM, hx⟩ ?_
  rintro ⟨m96, n92, out93, s95⟩ w99 ⟨hM, hx⟩
  obtain ⟨m100, z101, rfl, hx, hx102⟩ := iterN_step hx
  unfold x_impl_PutNum_f0 x_impl_PutNum_b0 at hx
  try dsimp only at hx
  refine wc_seq ?_
  refine wc_sr ?_
  refine wmv rfl rfl ?_
  refine wv rfl (r_geq rfl rfl) ?_
  refine wl_sq ?_
  refine wc_cond rfl (fun hc105 => ?_) (fun hc105 => ?_)
  ·
   replace hx := xif_t hc105 hx
   refine wc_skip ?_
   refine sq_n ?_
   refine wc_block ?_
   refine wc_sr ?_
   refine wmv rfl rfl ?_
   refine wmv rfl rfl ?_
   obtain ⟨hg109, hx⟩ := xg_some hx
   refine wv rfl (r_rem rfl rfl hg109) ?_
   obtain ⟨hg111, hx⟩ := xg_some hx
   refine wv rfl (r_add rfl rfl hg111) ?_
   refine wv rfl (r_cvt8 Tryz.underlying3 Tryz.underlying5 rfl) ?_
   obtain ⟨hg116, hx⟩ := xg_some hx
   refine w_push (f := fY) (y8 ((n92 % 128) + 128)) rfl rfl Tryz.underlying22 sz5 rfl rfl rfl rfl (fun _ => rfl) hM (fun _ => zP (pV _ rfl) zN) rfl hg116 rfl ?_; intro u114 s115 w113 hM
   refine was rfl rfl ?_
   refine wl_sq ?_
   refine wc_region ?_
   refine wmv rfl rfl ?_
   obtain ⟨hg120, hx⟩ := xg_some hx
   refine wv rfl (r_quo rfl rfl hg120) ?_
   refine was rfl rfl ?_
   refine wl_nil ?_
   refine bk_n ?_
   obtain rfl := Option.some.inj hx
   exact lp_end (m100, n92 / 128, out93 ++ [y8 ((n92 % 128) + 128)], s115) (Nat.lt_succ_self _) ⟨rfl, rfl, trivial⟩ ⟨hM, hx102⟩
  ·
   replace hx := xif_f hc105 hx
   refine wc_exit ?_
   refine sq_exit ?_
   refine lp1_exit ?_
   obtain rfl := Option.some.inj hx
   obtain rfl := Option.some.inj hx102
   replace hx := hx91
   try dsimp only [Sum.elim_inl, Sum.elim_inr] at hx
   refine bk_here ?_
   refine sq_n ?_
   refine wc_sr ?_
   refine wmv rfl rfl ?_
   refine wmv rfl rfl ?_
   refine wv rfl (r_cvt8 Tryz.underlying3 Tryz.underlying5 rfl) ?_
   obtain ⟨hg128, hx⟩ := xg_some hx
   refine w_push (f := fY) (y8 n92) rfl rfl Tryz.underlying22 sz5 rfl rfl rfl rfl (fun _ => rfl) hM (fun _ => zP (pV _ rfl) zN) rfl hg128 rfl ?_; intro u126 s127 w125 hM
   refine was rfl rfl ?_
   refine was rfl rfl ?_
   refine wl_sq ?_
   refine wc_ret ?_
   obtain rfl := Option.some.inj hx
   refine fin_ret [s127.v, (.bool true)] ⟨rfl, rfl, trivial⟩ ?_
   replace hM := hM.t1
   have hM := hM.fewer rsN
   exact ⟨s127, rfl, hM.gives⟩

noncomputable def x_impl_putNums_b0 (_list : List Int) (_k13 : Nat) (x67 : Int) (out14 : List UInt8) : Option (Lr (List UInt8) (Sum (List UInt8) Unit)) :=
  Option.bind (x_impl_PutNum out14 x67) fun r49 => bif !r49.2 then (some (Lr.out (Sum.inr (())))) else (some (Lr.go r49.1))
noncomputable def x_impl_putNums_f0 (list : List Int) (k13 : Nat) (s68 : List UInt8) : Option (Lr (List UInt8) (Sum (List UInt8) Unit)) := x_impl_putNums_b0 list k13 (el list k13) s68
noncomputable def x_impl_putNums (b : List UInt8) (list : List Int) : Option (List UInt8 × Bool) :=
  xg (0 + b.length ≤ 1099511627776) <| Option.bind (eachN (x_impl_putNums_f0 list) (fun (s68 : List UInt8) => (Sum.inl s68 : Sum (List UInt8) Unit)) list.length 0 ([] ++ b)) fun (y69 : Sum (List UInt8) Unit) => Sum.elim (fun y70 => some (y70, true)) (fun _y71 => some ([], false)) y69
theorem ct_impl_putNums (w : World) (X S : Bs) (b : List UInt8) (s_b : Sv) (list : List Int) (s_list : Sv) (hS : ∀ b, S b → b < w.heap.size ∧ ¬ X b) (a_b_0 : (cSl 1 fY b).rd S w s_b.v) (a_list_0 : (cSl 1 fI list).rd S w s_list.v) (oL : Sep [] X w) {r : List UInt8 × Bool} (hx : x_impl_putNums b list = some r) :
  Ret Tryz.prog 44 [s_b.v, s_list.v] w (fun u w' => ∃ y : Sv, u = .tuple #[y.v, (.bool r.2)] ∧ Gives X S w [oC (cSl 1 fY r.1) y.v] [] w') := by
 unfold x_impl_putNums at hx
 refine enter Tryz.func44 rfl Tryz.ntmps44 (by kernel_rfl) rfl ?_
 have hM := St.enter oL hS
 have hM := hM.addE (r := rV s_b.v (cSl 1 fY b)) a_b_0
 have hM := hM.addE (r := rV s_list.v (cSl 1 fI list)) a_list_0
 refine wc_sr ?_
 refine was rfl rfl ?_
 refine was rfl rfl ?_
 refine wl_sq ?_
 refine wc_sr ?_
 refine wmv rfl rfl ?_
 have hM := hM.nil0 (T := UInt8) 1 fY
 obtain ⟨hg83, hx⟩ := xg_some hx
 refine w_ex rfl (x_append Tryz.underlying22 sz5 rfl rfl (hM.seeR (.tail _ (.head _))) flY hM hg83 rfl ?_); intro s81 w80 hM
 refine was rfl rfl ?_
 refine wl_sq ?_
 refine wc_seq ?_
 refine wc_sr ?_
 refine wmv rfl rfl ?_
 refine wv rfl (r_lenC Tryz.underlying23 rfl (hM.seeR (.head _))) ?_
 refine wmv rfl rfl ?_
 refine wl_sq ?_
 refine wc_block ?_
 obtain ⟨y89, hx, hx90⟩ := bind_some' hx
 have hM := hM.fewer (rsC (.head _) rsN)
 replace hM : St ⟨w, X, S⟩ [oC (cSl 1 fY ([] ++ b)) s81.v] [rV s_list.v (cSl 1 fI list)] _ := hM
 have hl97 := Cs.le (hM.seeR (.head _))
 refine wc_loop (un fun (m94 : Nat) => un fun (k95 : Nat) => un fun (out91 : List UInt8) => fun (s93 : Sv) => [(6, s93.v), (13, s_list.v), (14, (.int .i64 (list.length : Int))), (15, (.int .i64 (k95 : Int)))]) (un fun (m94 : Nat) => un fun (k95 : Nat) => un fun (out91 : List UInt8) => fun (s93 : Sv) w' => St ⟨w, X, S⟩ [oC (cSl 1 fY out91) s93.v] [rV s_list.v (cSl 1 fI list)] w' ∧ eachN _ _ m94 k95 out91 = some y89 ∧ k95 + m94 = list.length) (fun p => p.1) (list.length, 0, [] ++ b, s81) ⟨rfl, rfl, rfl, rfl, trivial⟩ ⟨hM, hx, Nat.zero_add _⟩ ?_
 rintro ⟨m94, k95, out91, s93⟩ w98 ⟨hM, hx, hk96⟩
 refine wc_sr ?_
 refine wv rfl (r_lss rfl rfl) ?_
 refine wl_sq ?_
 refine wc_seq ?_
 refine wc_cond rfl (fun hc100 => ?_) (fun hc100 => ?_)
 ·
  replace hc100 := of_decide_eq_true hc100
  obtain ⟨m101, z102, rfl, hk96, hx, hx103⟩ := eachN_step hx hk96 hc100
  unfold x_impl_putNums_f0 x_impl_putNums_b0 at hx
  try dsimp only at hx
  refine wc_skip ?_
  refine sq_n ?_
  refine wc_seq ?_
  refine wc_block ?_
  refine wc_sr ?_
  have hi105 : k95 < list.length := by omega
  refine wv rfl (r_ixC Tryz.underlying23 sz3 rfl rfl (hM.seeR (.head _)) ⟨by omega, hc100⟩) ?_
  refine wv rfl (r_ld Tryz.underlying3 rfl rfl (Cs.get (i := k95) (j := 0) (hM.seeR (.head _)) (fun _ => rfl) hi105 rfl)) ?_
  refine was rfl rfl ?_
  refine wl_sq ?_
  refine wc_sr ?_
  refine wmv rfl rfl ?_
  refine wmv rfl rfl ?_
  obtain ⟨r110, h111, hx⟩ := bind_some' hx
  refine w_call rfl rfl (hM.callO (l := []) fun X S oL hS hR hO => ct_impl_PutNum _ X S out91 s93 (el list k95) hS (seeA hO (.head _)) oL h111) ?_
  rintro _ w112 ⟨s113, rfl, hM⟩
  dsimp only [List.cons_append, List.nil_append] at hM
  refine wmv rfl rfl ?_
  refine wv rfl (r_extract rfl rfl) ?_
  refine wv rfl (r_extract rfl rfl) ?_
  refine was rfl rfl ?_
  refine was rfl rfl ?_
  refine wl_sq ?_
  refine wc_seq ?_
  refine wc_sr ?_
  refine wmv rfl rfl ?_
  refine wv rfl (r_not rfl) ?_
  refine wl_sq ?_
  refine wc_cond rfl (fun hc122 => ?_) (fun hc122 => ?_)
  ·
   replace hx := xif_t hc122 hx
   refine wc_sr ?_
   refine was rfl rfl ?_
   refine was rfl rfl ?_
   refine wl_sq ?_
   refine wc_ret ?_
   refine sq_ret ?_
   refine bk_ret ?_
   refine sq_ret ?_
   refine lp1_ret ?_
   obtain rfl := Option.some.inj hx
   obtain rfl := Option.some.inj hx103
   replace hx := hx90
   try dsimp only [Sum.elim_inl, Sum.elim_inr] at hx
   refine bk_ret ?_
   refine sq_ret ?_
   obtain rfl := Option.some.inj hx
   have hM := hM.nil0 (T := UInt8) 1 fY
   refine fin_ret [nS.v, (.bool false)] ⟨rfl, rfl, trivial⟩ ?_
   replace hM := hM.t1
   have hM := hM.fewer rsN
   exact ⟨nS, rfl, hM.gives⟩
  ·
   replace hx := xif_f hc122 hx
   refine wc_skip ?_
   refine sq_n ?_
   refine wc_region ?_
   refine wmv rfl rfl ?_
   refine was rfl rfl ?_
   refine wl_nil ?_
   refine bk_n ?_
   refine sq_n ?_
   refine wc_region ?_
   refine wv rfl (r_add rfl rfl ⟨by omega, by omega⟩) ?_
   refine wmv rfl rfl ?_
   refine wl_nil ?_
   obtain rfl := Option.some.inj hx
   replace hM := hM.t1
   exact lp_end (m101, k95 + 1, r110.1, s113) (Nat.lt_succ_self _) ⟨rfl, rfl, rfl, rfl, trivial⟩ ⟨hM, hx103, hk96⟩
 ·
  replace hc100 := of_decide_eq_false hc100
  obtain rfl := eachN_end hx hk96 hc100
  refine wc_exit ?_
  refine sq_exit ?_
  refine lp1_exit ?_
  replace hx := hx90
  try dsimp only [Sum.elim_inl, Sum.elim_inr] at hx
  refine bk_here ?_
  refine sq_n ?_
  refine wc_sr ?_
  refine wmv rfl rfl ?_
  refine was rfl rfl ?_
  refine was rfl rfl ?_
  refine wl_sq ?_
  refine wc_ret ?_
  obtain rfl := Option.some.inj hx
  refine fin_ret [s93.v, (.bool true)] ⟨rfl, rfl, trivial⟩ ?_
  replace hM := hM.t1
  have hM := hM.fewer rsN
  exact ⟨s93, rfl, hM.gives⟩

noncomputable def x_impl_PutOp_b0 (_r12 : List DPart) (_k28 : Nat) (x128 : DPart) (list29 : List Int) : Option (Lr (List Int) (List Int)) :=
  Option.bind (x_impl_size x128) fun r94 => xg (inI (4 * r94)) <| xg (inI ((4 * r94) + (x128.kind))) <| xg (list29.length + [(4 * r94) + (x128.kind)].length ≤ 1099511627776) <| xg ((list29 ++ [(4 * r94) + (x128.kind)]).length + (x128.signs).length ≤ 1099511627776) <| some (Lr.go ((list29 ++ [(4 * r94) + (x128.kind)]) ++ (x128.signs)))
noncomputable def x_impl_PutOp_f0 (r12 : List DPart) (k28 : Nat) (s129 : List Int) : Option (Lr (List Int) (List Int)) := x_impl_PutOp_b0 r12 k28 (el r12 k28) s129
noncomputable def x_impl_PutOp (b : List UInt8) (o : List DPart) : Option (List UInt8 × Bool) :=
  Option.bind (x_impl_OpOk o) fun r4 => bif !r4 then (some ([], false)) else (Option.bind (x_impl_OpNorm o) fun r12 => Option.bind (eachN (x_impl_PutOp_f0 r12) (fun (s129 : List Int) => (s129 : List Int)) r12.length 0 [(r12.length : Int)]) fun (y130 : List Int) => Option.bind (x_impl_putNums b y130) fun r135 => some (r135.1, r135.2))
theorem ct_impl_PutOp (w : World) (X S : Bs) (b : List UInt8) (s_b : Sv) (o : List DPart) (s_o : Sv) (hS : ∀ b, S b → b < w.heap.size ∧ ¬ X b) (a_b_0 : (cSl 1 fY b).rd S w s_b.v) (a_o_0 : (cSl 3 fDPart o).rd S w s_o.v) (oL : Sep [] X w) {r : List UInt8 × Bool} (hx : x_impl_PutOp b o = some r) :
  Ret Tryz.prog 20 [s_b.v, s_o.v] w (fun u w' => ∃ y : Sv, u = .tuple #[y.v, (.bool r.2)] ∧ Gives X S w [oC (cSl 1 fY r.1) y.v] [] w') := by
 unfold x_impl_PutOp at hx
 refine enter Tryz.func20 rfl Tryz.ntmps20 (by kernel_rfl) rfl ?_
 have hM := St.enter oL hS
 have hM := hM.addE (r := rV s_b.v (cSl 1 fY b)) a_b_0
 have hM := hM.addE (r := rV s_o.v (cSl 3 fDPart o)) a_o_0
 refine wc_sr ?_
 refine was rfl rfl ?_
 refine was rfl rfl ?_
 refine wl_sq ?_
 refine wc_seq ?_
 refine wc_sr ?_
 refine wmv rfl rfl ?_
 obtain ⟨r147, h148, hx⟩ := bind_some' hx
 refine w_call rfl rfl (hM.callV fun X S oL hS hR hO => ct_impl_OpOk _ X S o s_o hS (hR _ (.head _)) oL h148) ?_
 rintro _ w149 ⟨rfl, hR150⟩
 have hM := hM.call hR150
 refine wv rfl (r_not rfl) ?_
 refine wl_sq ?_
 refine wc_cond rfl (fun hc152 => ?_) (fun hc152 => ?_)
 ·
  replace hx := xif_t hc152 hx
  refine wc_sr ?_
  refine was rfl rfl ?_
  refine was rfl rfl ?_
  refine wl_sq ?_
  refine wc_ret ?_
  refine sq_ret ?_
  obtain rfl := Option.some.inj hx
  have hM := hM.nil0 (T := UInt8) 1 fY
  refine fin_ret [nS.v, (.bool false)] ⟨rfl, rfl, trivial⟩ ?_
  replace hM := hM.t1
  have hM := hM.fewer rsN
  exact ⟨nS, rfl, hM.gives⟩
 ·
  replace hx := xif_f hc152 hx
  refine wc_skip ?_
  refine sq_n ?_
  refine wc_sr ?_
  refine wmv rfl rfl ?_
  obtain ⟨r157, h158, hx⟩ := bind_some' hx
  refine w_call rfl rfl (hM.callO (l := []) fun X S oL hS hR hO => ct_impl_OpNorm _ X S o s_o hS (hR _ (.head _)) oL h158) ?_
  rintro _ w159 ⟨s160, rfl, hM⟩
  dsimp only [List.cons_append, List.nil_append] at hM
  refine was rfl rfl ?_
  refine wl_sq ?_
  refine wc_sr ?_
  refine wmv rfl rfl ?_
  refine wv rfl (r_lenC Tryz.underlying48 rfl (hM.seeO (.head _))) ?_
  refine w_ex rfl (x_lit (f := fI) (own := []) [(r157.length : Int)] [(.int .i64 (r157.length : Int))] 1 Tryz.underlying23 sz3 (fun _ => rfl) rfl rfl rfl rfl rfl (by kernel_rfl) (fun _ => zP (pV _ rfl) zN) hM ?_); intro s166 w165 hR167 hM
  refine was rfl rfl ?_
  refine wl_sq ?_
  refine wc_seq ?_
  refine wc_sr ?_
  refine wmv rfl rfl ?_
  refine wv rfl (r_lenC Tryz.underlying48 rfl (hM.seeO (.tail _ (.head _)))) ?_
  refine wmv rfl rfl ?_
  refine wl_sq ?_
  refine wc_block ?_
  obtain ⟨y173, hx, hx174⟩ := bind_some' hx
  replace hM := hM.p1
  have hM := hM.fewer (rsC (.tail _ (.head _)) rsN)
  replace hM : St ⟨w, X, S⟩ [oC (cSl 3 fDPart r157) s160.v, oC (cSl 1 fI [(r157.length : Int)]) s166.v] [rV s_b.v (cSl 1 fY b)] _ := hM
  have hl181 := Cs.le (hM.seeO (.head _))
  refine wc_loop (un fun (m178 : Nat) => un fun (k179 : Nat) => un fun (list175 : List Int) => fun (s177 : Sv) => [(0, s_b.v), (7, s177.v), (18, s160.v), (19, (.int .i64 (r157.length : Int))), (20, (.int .i64 (k179 : Int)))]) (un fun (m178 : Nat) => un fun (k179 : Nat) => un fun (list175 : List Int) => fun (s177 : Sv) w' => St ⟨w, X, S⟩ [oC (cSl 3 fDPart r157) s160.v, oC (cSl 1 fI list175) s177.v] [rV s_b.v (cSl 1 fY b)] w' ∧ eachN _ _ m178 k179 list175 = some y173 ∧ k179 + m178 = r157.length) (fun p => p.1) (r157.length, 0, [(r157.length : Int)], s166) ⟨rfl, rfl, rfl, rfl, rfl, trivial⟩ ⟨hM, hx, Nat.zero_add _⟩ ?_
  rintro ⟨m178, k179, list175, s177⟩ w182 ⟨hM, hx, hk180⟩
  refine wc_sr ?_
  refine wv rfl (r_lss rfl rfl) ?_
  refine wl_sq ?_
  refine wc_seq ?_
  refine wc_cond rfl (fun hc184 => ?_) (fun hc184 => ?_)
  ·
   replace hc184 := of_decide_eq_true hc184
   obtain ⟨m185, z186, rfl, hk180, hx, hx187⟩ := eachN_step hx hk180 hc184
   unfold x_impl_PutOp_f0 x_impl_PutOp_b0 at hx
   try dsimp only at hx
   refine wc_skip ?_
   refine sq_n ?_
   refine wc_seq ?_
   refine wc_block ?_
   refine wc_sr ?_
   have hi189 : k179 < r157.length := by omega
   refine wv rfl (r_ixC Tryz.underlying48 sz95 rfl rfl (hM.seeO (.head _)) ⟨by omega, hc184⟩) ?_
   obtain ⟨s191, hM, hc192⟩ := hM.leafO (i := k179) (j := 2) (fun _ => rfl) hi189 rfl
   refine wv rfl (r_ldC (o := k179 * 3) Tryz.underlying95 sz95 rfl (us := [(.int .i64 ((el r157 k179).kind)), (.int .i64 ((el r157 k179).n)), s191.v]) rfl (hM.seeOV (.head _)) hi189 ⟨(Cs.get (i := k179) (j := 0) (hM.seeOV (.head _)) (fun _ => rfl) hi189 rfl), (Cs.get (i := k179) (j := 1) (hM.seeOV (.head _)) (fun _ => rfl) hi189 rfl), (hc192 _ (Rel.refl _)), trivial⟩) ?_
   refine w_ex rfl (x_alloc sz95 hM ?_); intro b194 w193 hR195 hM
   dsimp only [Value.cells] at hM
   refine w_exu (x_stB #[(.int .i64 ((el r157 k179).kind)), (.int .i64 ((el r157 k179).n)), s191.v] sz95 rfl rfl rfl rfl rfl rfl hM ?_); intro w197 hM
   refine wl_sq ?_
   refine wc_seq ?_
   refine wc_draw [(0, 0), (1, 0), (2, 0), (3, 0), (4, 0), (5, 0), (6, 0), (7, 2), (8, 2), (9, 0)] Tryz_mixed (by kernel_rfl) rfl (by kernel_rfl) rfl ?_
   refine omv rfl rfl ?_
   refine ov rfl (fun w' h' => r_ldBS Tryz.underlying95 sz95 rfl (us := [(.int .i64 ((el r157 k179).kind)), (.int .i64 ((el r157 k179).n)), s191.v]) rfl (hM.call h') (.head _) rfl) ?_
   obtain ⟨r201, h202, hx⟩ := bind_some' hx
   refine oc rfl rfl (fun w' h' => (hM.call h').callV fun X S oL hS hR hO => ct_impl_size _ X S (el r157 k179) s191 hS (seeAW hO (.tail _ (.head _)) (.head _)) oL h202) ?_
   obtain ⟨hg205, hx⟩ := xg_some hx
   refine ov rfl (fun w' h' => r_mul rfl rfl hg205) ?_
   refine ov rfl (fun w' h' => r_fld Tryz.underlying95 rfl rfl sz3 rfl) ?_
   refine ov rfl (fun w' h' => r_ldB Tryz.underlying3 rfl rfl (hM.call h') (.head _) rfl) ?_
   obtain ⟨hg209, hx⟩ := xg_some hx
   refine ov rfl (fun w' h' => r_add rfl rfl hg209) ?_
   refine o_ex rfl fun w213 h214 => ?_
   have hM := hM.call h214
   refine x_lit (f := fI) (own := []) [(4 * r201) + ((el r157 k179).kind)] [(.int .i64 ((4 * r201) + ((el r157 k179).kind)))] 1 Tryz.underlying23 sz3 (fun _ => rfl) rfl rfl rfl rfl rfl (by kernel_rfl) (fun _ => zP (pV _ rfl) zN) hM ?_; intro s211 w210 hR212 hM
   replace hM := hM.p3
   obtain ⟨hg218, hx⟩ := xg_some hx
   refine o_ex rfl fun w220 h221 => ?_
   have hM := hM.call h221
   refine x_append Tryz.underlying23 sz3 rfl rfl (hM.seeO (.tail _ (.head _))) flI hM hg218 rfl ?_; intro s217 w216 hM
   refine ov rfl (fun w' h' => r_assign rfl) ?_
   refine o_nilM hM fun w223 hM => ?_
   refine sq_n ?_
   refine wc_region ?_
   refine wmv rfl rfl ?_
   refine wv rfl (r_fld Tryz.underlying95 rfl rfl sz23 rfl) ?_
   refine wv rfl (r_ldB Tryz.underlying23 rfl rfl hM (.tail _ (.tail _ (.head _))) rfl) ?_
   obtain ⟨hg230, hx⟩ := xg_some hx
   refine w_ex rfl (x_append Tryz.underlying23 sz3 rfl rfl (hM.seeV (.tail _ (.tail _ (.tail _ (.head _)))) (.head _)) flI hM hg230 rfl ?_); intro s229 w228 hM
   refine was rfl rfl ?_
   refine wl_nil ?_
   refine bk_n ?_
   refine sq_n ?_
   refine wc_region ?_
   refine wv rfl (r_add rfl rfl ⟨by omega, by omega⟩) ?_
   refine wmv rfl rfl ?_
   refine wl_nil ?_
   obtain rfl := Option.some.inj hx
   replace hM := hM.p3
   replace hM : St ⟨w, X, S⟩ [oC (cSl 3 fDPart r157) s160.v, oC (cSl 1 fI ((list175 ++ [(4 * r201) + ((el r157 k179).kind)]) ++ ((el r157 k179).signs))) s229.v, oC (cSl 1 fI [(4 * r201) + ((el r157 k179).kind)]) s211.v, oBox b194 #[(.int .i64 ((el r157 k179).kind)), (.int .i64 ((el r157 k179).n)), s191.v] 95] [rV s_b.v (cSl 1 fY b)] _ := hM.unview
   replace hM := hM.t2
   exact lp_end (m185, k179 + 1, (list175 ++ [(4 * r201) + ((el r157 k179).kind)]) ++ ((el r157 k179).signs), s229) (Nat.lt_succ_self _) ⟨rfl, rfl, rfl, rfl, rfl, trivial⟩ ⟨hM, hx187, hk180⟩
  ·
   replace hc184 := of_decide_eq_false hc184
   obtain rfl := eachN_end hx hk180 hc184
   refine wc_exit ?_
   refine sq_exit ?_
   refine lp1_exit ?_
   replace hx := hx174
   try dsimp only [Sum.elim_inl, Sum.elim_inr] at hx
   refine bk_here ?_
   refine sq_n ?_
   refine wc_sr ?_
   refine wmv rfl rfl ?_
   refine wmv rfl rfl ?_
   obtain ⟨r237, h238, hx⟩ := bind_some' hx
   refine w_call rfl rfl (hM.callO (l := []) fun X S oL hS hR hO => ct_impl_putNums _ X S b s_b list175 s177 hS (hR _ (.head _)) (seeA hO (.tail _ (.head _))) oL h238) ?_
   rintro _ w239 ⟨s240, rfl, hM⟩
   dsimp only [List.cons_append, List.nil_append] at hM
   refine wv rfl (r_extract rfl rfl) ?_
   refine wv rfl (r_extract rfl rfl) ?_
   refine was rfl rfl ?_
   refine was rfl rfl ?_
   refine wl_sq ?_
   refine wc_ret ?_
   obtain rfl := Option.some.inj hx
   refine fin_ret [s240.v, (.bool r237.2)] ⟨rfl, rfl, trivial⟩ ?_
   replace hM := hM.t1
   have hM := hM.fewer rsN
   exact ⟨s240, rfl, hM.gives⟩

noncomputable def x_impl_DocBytes_b0 (_d : DDoc) (_k53 : Nat) (x162 : DEntry) (out54 : List UInt8) (ok55 : Bool) : Option (Lr (List UInt8 × Bool) (List UInt8 × Bool)) :=
  Option.bind (x_impl_putNums out54 [x162.client, x162.seq]) fun r131 => Option.bind (x_impl_PutOp r131.1 (x162.o)) fun r144 => Option.bind (bif ok55 then (some r131.2) else (some false)) fun c155 => some (Lr.go (r144.1, c155))
noncomputable def x_impl_DocBytes_f0 (d : DDoc) (k53 : Nat) (s163 : List UInt8 × Bool) : Option (Lr (List UInt8 × Bool) (List UInt8 × Bool)) := x_impl_DocBytes_b0 d k53 (el d.list k53) s163.1 s163.2
noncomputable def x_impl_DocBytes_b1 (_d : DDoc) (_k179 : Nat) (x239 : DSeen) (list180 : List Int) : Option (Lr (List Int) (List Int)) :=
  xg (list180.length + [x239.client, x239.seq, x239.rev].length ≤ 1099511627776) <| some (Lr.go (list180 ++ [x239.client, x239.seq, x239.rev]))
noncomputable def x_impl_DocBytes_f1 (d : DDoc) (k179 : Nat) (s240 : List Int) : Option (Lr (List Int) (List Int)) := x_impl_DocBytes_b1 d k179 (el d.seen k179) s240
noncomputable def x_impl_DocBytes (d : DDoc) : Option (List UInt8 × Bool) :=
  Option.bind (x_impl_DocOk d) fun r8 => bif !r8 then (some ([], false)) else (xg ([d.from_, (d.text.length : Int)].length + d.text.length ≤ 1099511627776) <| xg (([d.from_, (d.text.length : Int)] ++ d.text).length < 1099511627776) <| Option.bind (x_impl_putNums [] (([d.from_, (d.text.length : Int)] ++ d.text) ++ [(d.list.length : Int)])) fun r39 => Option.bind (eachN (x_impl_DocBytes_f0 d) (fun (s163 : List UInt8 × Bool) => ((s163.1, s163.2) : List UInt8 × Bool)) d.list.length 0 (r39.1, r39.2)) fun (y164 : List UInt8 × Bool) => Option.bind (eachN (x_impl_DocBytes_f1 d) (fun (s240 : List Int) => (s240 : List Int)) d.seen.length 0 [(d.seen.length : Int)]) fun (y241 : List Int) => Option.bind (x_impl_putNums y164.1 y241) fun r246 => Option.bind (bif !y164.2 then (some true) else (some (!r246.2))) fun c259 => bif c259 then (some ([], false)) else (some (r246.1, true)))
theorem ct_impl_DocBytes (w : World) (X S : Bs) (d : DDoc) (s_d_2 : Sv) (s_d_3 : Sv) (s_d_4 : Sv) (hS : ∀ b, S b → b < w.heap.size ∧ ¬ X b) (a_d_2 : (cSl 1 fI d.text).rd S w s_d_2.v) (a_d_3 : (cSl 3 fDEntry d.list).rd S w s_d_3.v) (a_d_4 : (cSl 3 fDSeen d.seen).rd S w s_d_4.v) (oL : Sep [] X w) {r : List UInt8 × Bool} (hx : x_impl_DocBytes d = some r) :
  Ret Tryz.prog 17 [(.agg #[(.string d.name), (.int .i64 d.from_), s_d_2.v, s_d_3.v, s_d_4.v])] w (fun u w' => ∃ y : Sv, u = .tuple #[y.v, (.bool r.2)] ∧ Gives X S w [oC (cSl 1 fY r.1) y.v] [] w') := by
 unfold x_impl_DocBytes at hx
 refine enter Tryz.func17 rfl Tryz.ntmps17 (by kernel_rfl) rfl ?_
 have hM := St.enter oL hS
 have hM := hM.addE (r := rV s_d_2.v (cSl 1 fI d.text)) a_d_2
 have hM := hM.addE (r := rV s_d_3.v (cSl 3 fDEntry d.list)) a_d_3
 have hM := hM.addE (r := rV s_d_4.v (cSl 3 fDSeen d.seen)) a_d_4
 refine wc_sr ?_
 refine w_ex rfl (x_box rfl hM ?_); intro b271 w270 hR272 hM
 dsimp only [Value.cells] at hM
 refine was rfl rfl ?_
 refine was rfl rfl ?_
 refine wl_sq ?_
 refine wc_seq ?_
 refine wc_sr ?_
 refine wv rfl (r_ldBS Tryz.underlying27 sz27 rfl (us := [(.string d.name), (.int .i64 d.from_), s_d_2.v, s_d_3.v, s_d_4.v]) rfl hM (.head _) rfl) ?_
 obtain ⟨r277, h278, hx⟩ := bind_some' hx
 refine w_call rfl rfl (hM.callV fun X S oL hS hR hO => ct_impl_DocOk _ X S d s_d_2 s_d_3 s_d_4 hS (hR _ (.tail _ (.tail _ (.head _)))) (hR _ (.tail _ (.head _))) (hR _ (.head _)) oL h278) ?_
 rintro _ w279 ⟨rfl, hR280⟩
 have hM := hM.call hR280
 refine wv rfl (r_not rfl) ?_
 refine wl_sq ?_
 refine wc_cond rfl (fun hc282 => ?_) (fun hc282 => ?_)
 ·
  replace hx := xif_t hc282 hx
  refine wc_sr ?_
  refine was rfl rfl ?_
  refine was rfl rfl ?_
  refine wl_sq ?_
  refine wc_ret ?_
  refine sq_ret ?_
  obtain rfl := Option.some.inj hx
  have hM := hM.nil0 (T := UInt8) 1 fY
  refine fin_ret [nS.v, (.bool false)] ⟨rfl, rfl, trivial⟩ ?_
  replace hM := hM.t1
  have hM := hM.fewer rsN
  exact ⟨nS, rfl, hM.gives⟩
 ·
  replace hx := xif_f hc282 hx
  refine wc_skip ?_
  refine sq_n ?_
  refine wc_sr ?_
  refine wv rfl (r_fld Tryz.underlying27 rfl rfl sz3 rfl) ?_
  refine wv rfl (r_ldB Tryz.underlying3 rfl rfl hM (.head _) rfl) ?_
  refine wv rfl (r_fld Tryz.underlying27 rfl rfl sz23 rfl) ?_
  refine wv rfl (r_ldB Tryz.underlying23 rfl rfl hM (.head _) rfl) ?_
  refine wv rfl (r_lenC Tryz.underlying23 rfl (hM.seeR (.tail _ (.tail _ (.head _))))) ?_
  refine w_ex rfl (x_lit (f := fI) (own := []) [d.from_, (d.text.length : Int)] [(.int .i64 d.from_), (.int .i64 (d.text.length : Int))] 2 Tryz.underlying23 sz3 (fun _ => rfl) rfl rfl rfl rfl rfl (by kernel_rfl) (fun _ => zP (pV _ rfl) (zP (pV _ rfl) zN)) hM ?_); intro s292 w291 hR293 hM
  refine wv rfl (r_fld Tryz.underlying27 rfl rfl sz23 rfl) ?_
  refine wv rfl (r_ldB Tryz.underlying23 rfl rfl hM (.tail _ (.head _)) rfl) ?_
  obtain ⟨hg299, hx⟩ := xg_some hx
  refine w_ex rfl (x_append Tryz.underlying23 sz3 rfl rfl (hM.seeR (.tail _ (.tail _ (.head _)))) flI hM hg299 rfl ?_); intro s298 w297 hM
  refine was rfl rfl ?_
  refine wl_sq ?_
  refine wc_sr ?_
  refine wmv rfl rfl ?_
  refine wv rfl (r_fld Tryz.underlying27 rfl rfl sz24 rfl) ?_
  refine wv rfl (r_ldB Tryz.underlying24 rfl rfl hM (.tail _ (.head _)) rfl) ?_
  refine wv rfl (r_lenC Tryz.underlying24 rfl (hM.seeR (.tail _ (.head _)))) ?_
  obtain ⟨hg309, hx⟩ := xg_some hx
  refine w_push (f := fI) (d.list.length : Int) rfl rfl Tryz.underlying23 sz3 rfl rfl rfl rfl (fun _ => rfl) hM (fun _ => zP (pV _ rfl) zN) rfl hg309 rfl ?_; intro u307 s308 w306 hM
  obtain ⟨r310, h311, hx⟩ := bind_some' hx
  refine w_call rfl rfl (hM.callO (l := []) fun X S oL hS hR hO => ct_impl_putNums _ X S [] nS (([d.from_, (d.text.length : Int)] ++ d.text) ++ [(d.list.length : Int)]) s308 hS (rd_nil _ _) (seeA hO (.head _)) oL h311) ?_
  rintro _ w312 ⟨s313, rfl, hM⟩
  dsimp only [List.cons_append, List.nil_append] at hM
  refine wmv rfl rfl ?_
  refine wv rfl (r_extract rfl rfl) ?_
  refine wv rfl (r_extract rfl rfl) ?_
  refine was rfl rfl ?_
  refine was rfl rfl ?_
  refine wl_sq ?_
  refine wc_seq ?_
  refine wc_sr ?_
  refine wv rfl (r_fld Tryz.underlying27 rfl rfl sz24 rfl) ?_
  refine wv rfl (r_ldB Tryz.underlying24 rfl rfl hM (.tail _ (.tail _ (.head _))) rfl) ?_
  refine wv rfl (r_lenC Tryz.underlying24 rfl (hM.seeR (.tail _ (.head _)))) ?_
  refine wmv rfl rfl ?_
  refine wl_sq ?_
  refine wc_block ?_
  obtain ⟨y324, hx, hx325⟩ := bind_some' hx
  replace hM := hM.p2
  replace hM := hM.t2
  have hM := hM.fewer (rsC (.tail _ (.tail _ (.head _))) (rsC (.tail _ (.head _)) (rsC (.head _) rsN)))
  replace hM : St ⟨w, X, S⟩ [oBox b271 #[(.string d.name), (.int .i64 d.from_), s_d_2.v, s_d_3.v, s_d_4.v] 27, oC (cSl 1 fY r310.1) s313.v] [rV s_d_2.v (cSl 1 fI d.text), rV s_d_3.v (cSl 3 fDEntry d.list), rV s_d_4.v (cSl 3 fDSeen d.seen)] _ := hM
  have hl333 := Cs.le (hM.seeR (.tail _ (.head _)))
  refine wc_loop (un fun (m330 : Nat) => un fun (k331 : Nat) => un fun (out326 : List UInt8) => un fun (ok327 : Bool) => fun (s329 : Sv) => [(1, (.pointer (some ⟨b271, 0, none⟩))), (5, s329.v), (6, (.bool ok327)), (37, s_d_3.v), (38, (.int .i64 (d.list.length : Int))), (39, (.int .i64 (k331 : Int)))]) (un fun (m330 : Nat) => un fun (k331 : Nat) => un fun (out326 : List UInt8) => un fun (ok327 : Bool) => fun (s329 : Sv) w' => St ⟨w, X, S⟩ [oBox b271 #[(.string d.name), (.int .i64 d.from_), s_d_2.v, s_d_3.v, s_d_4.v] 27, oC (cSl 1 fY out326) s329.v] [rV s_d_2.v (cSl 1 fI d.text), rV s_d_3.v (cSl 3 fDEntry d.list), rV s_d_4.v (cSl 3 fDSeen d.seen)] w' ∧ eachN _ _ m330 k331 (out326, ok327) = some y324 ∧ k331 + m330 = d.list.length) (fun p => p.1) (d.list.length, 0, r310.1, r310.2, s313) ⟨rfl, rfl, rfl, rfl, rfl, rfl, trivial⟩ ⟨hM, hx, Nat.zero_add _⟩ ?_
  rintro ⟨m330, k331, out326, ok327, s329⟩ w334 ⟨hM, hx, hk332⟩
  refine wc_sr ?_
  refine wv rfl (r_lss rfl rfl) ?_
  refine wl_sq ?_
  refine wc_seq ?_
  refine wc_cond rfl (fun hc336 => ?_) (fun hc336 => ?_)
  ·
   replace hc336 := of_decide_eq_true hc336
   obtain ⟨m337, z338, rfl, hk332, hx, hx339⟩ := eachN_step hx hk332 hc336
   unfold x_impl_DocBytes_f0 x_impl_DocBytes_b0 at hx
   try dsimp only at hx
   refine wc_skip ?_
   refine sq_n ?_
   refine wc_seq ?_
   refine wc_block ?_
   refine wc_sr ?_
   have hi341 : k331 < d.list.length := by omega
   refine wv rfl (r_ixC Tryz.underlying24 sz70 rfl rfl (hM.seeR (.tail _ (.head _))) ⟨by omega, hc336⟩) ?_
   obtain ⟨s343, hM, hc344⟩ := hM.leaf (i := k331) (j := 2) (.tail _ (.head _)) (fun _ => rfl) hi341 rfl
   refine wv rfl (r_ldC (o := k331 * 3) Tryz.underlying70 sz70 rfl (us := [(.int .i64 ((el d.list k331).client)), (.int .i64 ((el d.list k331).seq)), s343.v]) rfl (hM.seeR (.tail _ (.tail _ (.head _)))) hi341 ⟨(Cs.get (i := k331) (j := 0) (hM.seeR (.tail _ (.tail _ (.head _)))) (fun _ => rfl) hi341 rfl), (Cs.get (i := k331) (j := 1) (hM.seeR (.tail _ (.tail _ (.head _)))) (fun _ => rfl) hi341 rfl), (hc344 _ (Rel.refl _)), trivial⟩) ?_
   refine w_ex rfl (x_alloc sz70 hM ?_); intro b346 w345 hR347 hM
   dsimp only [Value.cells] at hM
   refine w_exu (x_stB #[(.int .i64 ((el d.list k331).client)), (.int .i64 ((el d.list k331).seq)), s343.v] sz70 rfl rfl rfl rfl rfl rfl hM ?_); intro w349 hM
   refine wl_sq ?_
   refine wc_sr ?_
   refine wmv rfl rfl ?_
   refine wv rfl (r_fld Tryz.underlying70 rfl rfl sz3 rfl) ?_
   refine wv rfl (r_ldB Tryz.underlying3 rfl rfl hM (.head _) rfl) ?_
   refine wv rfl (r_fld Tryz.underlying70 rfl rfl sz3 rfl) ?_
   refine wv rfl (r_ldB Tryz.underlying3 rfl rfl hM (.head _) rfl) ?_
   refine w_ex rfl (x_lit (f := fI) (own := []) [(el d.list k331).client, (el d.list k331).seq] [(.int .i64 ((el d.list k331).client)), (.int .i64 ((el d.list k331).seq))] 2 Tryz.underlying23 sz3 (fun _ => rfl) rfl rfl rfl rfl rfl (by kernel_rfl) (fun _ => zP (pV _ rfl) (zP (pV _ rfl) zN)) hM ?_); intro s357 w356 hR358 hM
   obtain ⟨r360, h361, hx⟩ := bind_some' hx
   refine w_call rfl rfl (hM.callO (l := []) fun X S oL hS hR hO => ct_impl_putNums _ X S out326 s329 [(el d.list k331).client, (el d.list k331).seq] s357 hS (seeA hO (.tail _ (.tail _ (.tail _ (.head _))))) (seeA hO (.head _)) oL h361) ?_
   rintro _ w362 ⟨s363, rfl, hM⟩
   dsimp only [List.cons_append, List.nil_append] at hM
   refine wmv rfl rfl ?_
   refine wv rfl (r_extract rfl rfl) ?_
   refine wv rfl (r_extract rfl rfl) ?_
   refine was rfl rfl ?_
   refine was rfl rfl ?_
   refine wl_sq ?_
   refine wc_sr ?_
   refine wmv rfl rfl ?_
   refine wv rfl (r_fld Tryz.underlying70 rfl rfl sz48 rfl) ?_
   refine wv rfl (r_ldB Tryz.underlying48 rfl rfl hM (.tail _ (.tail _ (.head _))) rfl) ?_
   obtain ⟨r373, h374, hx⟩ := bind_some' hx
   refine w_call rfl rfl (hM.callO (l := []) fun X S oL hS hR hO => ct_impl_PutOp _ X S r360.1 s363 ((el d.list k331).o) s343 hS (seeA hO (.head _)) (hR _ (.head _)) oL h374) ?_
   rintro _ w375 ⟨s376, rfl, hM⟩
   dsimp only [List.cons_append, List.nil_append] at hM
   refine wmv rfl rfl ?_
   refine wv rfl (r_extract rfl rfl) ?_
   refine wv rfl (r_extract rfl rfl) ?_
   refine was rfl rfl ?_
   refine wl_sq ?_
   refine wc_region ?_
   refine wmv rfl rfl ?_
   refine wmv rfl rfl ?_
   obtain ⟨c384, hx, hx387⟩ := bind_some' hx
   refine wl_mid 2 (fun _ : Unit => [(63, (.bool c384)), (1, (.pointer (some ⟨b271, 0, none⟩))), (5, s376.v), (37, s_d_3.v), (38, (.int .i64 (d.list.length : Int))), (39, (.int .i64 (k331 : Int)))]) (fun _ w' => St ⟨w, X, S⟩ [oC (cSl 1 fY r373.1) s376.v, oC (cSl 1 fY r360.1) s363.v, oC (cSl 1 fI [(el d.list k331).client, (el d.list k331).seq]) s357.v, oBox b346 #[(.int .i64 ((el d.list k331).client)), (.int .i64 ((el d.list k331).seq)), s343.v] 70, oBox b271 #[(.string d.name), (.int .i64 d.from_), s_d_2.v, s_d_3.v, s_d_4.v] 27, oC (cSl 1 fY out326) s329.v] [rV s343.v (cSl 3 fDPart ((el d.list k331).o)), rV s_d_2.v (cSl 1 fI d.text), rV s_d_3.v (cSl 3 fDEntry d.list), rV s_d_4.v (cSl 3 fDSeen d.seen)] w') ?_ ?_
   ·
    rcases Bool.eq_false_or_eq_true ok327 with hg385 | hg385
    ·
     replace hx := xif_t hg385 hx
     refine gv rfl hg385 rfl (r_move rfl) ?_
     refine wv rfl (p_t rfl hg385 rfl) ?_
     obtain rfl := Option.some.inj hx
     exact mid_nil () ⟨rfl, rfl, rfl, rfl, rfl, rfl, trivial⟩ hM
    ·
     replace hx := xif_f hg385 hx
     refine gs rfl (isB_no hg385) rfl ?_
     refine wv rfl (p_f rfl hg385 rfl) ?_
     obtain rfl := Option.some.inj hx
     exact mid_nil () ⟨rfl, rfl, rfl, rfl, rfl, rfl, trivial⟩ hM
   rintro _ w389 hM
   replace hx := hx387
   refine was rfl rfl ?_
   refine wl_nil ?_
   refine bk_n ?_
   refine sq_n ?_
   refine wc_region ?_
   refine wv rfl (r_add rfl rfl ⟨by omega, by omega⟩) ?_
   refine wmv rfl rfl ?_
   refine wl_nil ?_
   obtain rfl := Option.some.inj hx
   replace hM := hM.p4
   replace hM := hM.t2
   have hM := hM.fewer (rsC (.tail _ (.head _)) (rsC (.tail _ (.tail _ (.head _))) (rsC (.tail _ (.tail _ (.tail _ (.head _)))) rsN)))
   replace hM : St ⟨w, X, S⟩ [oBox b271 #[(.string d.name), (.int .i64 d.from_), s_d_2.v, s_d_3.v, s_d_4.v] 27, oC (cSl 1 fY r373.1) s376.v] [rV s_d_2.v (cSl 1 fI d.text), rV s_d_3.v (cSl 3 fDEntry d.list), rV s_d_4.v (cSl 3 fDSeen d.seen)] _ := hM
   exact lp_end (m337, k331 + 1, r373.1, c384, s376) (Nat.lt_succ_self _) ⟨rfl, rfl, rfl, rfl, rfl, rfl, trivial⟩ ⟨hM, hx339, hk332⟩
  ·
   replace hc336 := of_decide_eq_false hc336
   obtain rfl := eachN_end hx hk332 hc336
   refine wc_exit ?_
   refine sq_exit ?_
   refine lp1_exit ?_
   replace hx := hx325
   try dsimp only [Sum.elim_inl, Sum.elim_inr] at hx
   refine bk_here ?_
   refine sq_n ?_
   refine wc_sr ?_
   refine wv rfl (r_fld Tryz.underlying27 rfl rfl sz25 rfl) ?_
   refine wv rfl (r_ldB Tryz.underlying25 rfl rfl hM (.head _) rfl) ?_
   refine wv rfl (r_lenC Tryz.underlying25 rfl (hM.seeR (.tail _ (.tail _ (.head _))))) ?_
   refine w_ex rfl (x_lit (f := fI) (own := []) [(d.seen.length : Int)] [(.int .i64 (d.seen.length : Int))] 1 Tryz.underlying23 sz3 (fun _ => rfl) rfl rfl rfl rfl rfl (by kernel_rfl) (fun _ => zP (pV _ rfl) zN) hM ?_); intro s397 w396 hR398 hM
   refine was rfl rfl ?_
   refine wl_sq ?_
   refine wc_seq ?_
   refine wc_sr ?_
   refine wv rfl (r_fld Tryz.underlying27 rfl rfl sz25 rfl) ?_
   refine wv rfl (r_ldB Tryz.underlying25 rfl rfl hM (.tail _ (.head _)) rfl) ?_
   refine wv rfl (r_lenC Tryz.underlying25 rfl (hM.seeR (.tail _ (.tail _ (.head _))))) ?_
   refine wmv rfl rfl ?_
   refine wl_sq ?_
   refine wc_block ?_
   obtain ⟨y405, hx, hx406⟩ := bind_some' hx
   replace hM := hM.p2
   replace hM := hM.t2
   have hM := hM.fewer (rsC (.tail _ (.tail _ (.head _))) rsN)
   replace hM : St ⟨w, X, S⟩ [oC (cSl 1 fY out326) s329.v, oC (cSl 1 fI [(d.seen.length : Int)]) s397.v] [rV s_d_4.v (cSl 3 fDSeen d.seen)] _ := hM
   have hl413 := Cs.le (hM.seeR (.head _))
   refine wc_loop (un fun (m410 : Nat) => un fun (k411 : Nat) => un fun (list407 : List Int) => fun (s409 : Sv) => [(4, s409.v), (5, s329.v), (6, (.bool ok327)), (70, s_d_4.v), (71, (.int .i64 (d.seen.length : Int))), (72, (.int .i64 (k411 : Int)))]) (un fun (m410 : Nat) => un fun (k411 : Nat) => un fun (list407 : List Int) => fun (s409 : Sv) w' => St ⟨w, X, S⟩ [oC (cSl 1 fY out326) s329.v, oC (cSl 1 fI list407) s409.v] [rV s_d_4.v (cSl 3 fDSeen d.seen)] w' ∧ eachN _ _ m410 k411 list407 = some y405 ∧ k411 + m410 = d.seen.length) (fun p => p.1) (d.seen.length, 0, [(d.seen.length : Int)], s397) ⟨rfl, rfl, rfl, rfl, rfl, rfl, trivial⟩ ⟨hM, hx, Nat.zero_add _⟩ ?_
   rintro ⟨m410, k411, list407, s409⟩ w414 ⟨hM, hx, hk412⟩
   refine wc_sr ?_
   refine wv rfl (r_lss rfl rfl) ?_
   refine wl_sq ?_
   refine wc_seq ?_
   refine wc_cond rfl (fun hc416 => ?_) (fun hc416 => ?_)
   ·
    replace hc416 := of_decide_eq_true hc416
    obtain ⟨m417, z418, rfl, hk412, hx, hx419⟩ := eachN_step hx hk412 hc416
    unfold x_impl_DocBytes_f1 x_impl_DocBytes_b1 at hx
    try dsimp only at hx
    refine wc_skip ?_
    refine sq_n ?_
    refine wc_seq ?_
    refine wc_block ?_
    refine wc_sr ?_
    have hi421 : k411 < d.seen.length := by omega
    refine wv rfl (r_ixC Tryz.underlying25 sz83 rfl rfl (hM.seeR (.head _)) ⟨by omega, hc416⟩) ?_
    refine wv rfl (r_ldC (o := k411 * 3) Tryz.underlying83 sz83 rfl (us := [(.int .i64 ((el d.seen k411).client)), (.int .i64 ((el d.seen k411).seq)), (.int .i64 ((el d.seen k411).rev))]) rfl (hM.seeR (.head _)) hi421 ⟨(Cs.get (i := k411) (j := 0) (hM.seeR (.head _)) (fun _ => rfl) hi421 rfl), (Cs.get (i := k411) (j := 1) (hM.seeR (.head _)) (fun _ => rfl) hi421 rfl), (Cs.get (i := k411) (j := 2) (hM.seeR (.head _)) (fun _ => rfl) hi421 rfl), trivial⟩) ?_
    refine w_ex rfl (x_alloc sz83 hM ?_); intro b424 w423 hR425 hM
    dsimp only [Value.cells] at hM
    refine w_exu (x_stB #[(.int .i64 ((el d.seen k411).client)), (.int .i64 ((el d.seen k411).seq)), (.int .i64 ((el d.seen k411).rev))] sz83 rfl rfl rfl rfl rfl rfl hM ?_); intro w427 hM
    refine wl_sq ?_
    refine wc_region ?_
    refine wmv rfl rfl ?_
    refine wv rfl (r_fld Tryz.underlying83 rfl rfl sz3 rfl) ?_
    refine wv rfl (r_ldB Tryz.underlying3 rfl rfl hM (.head _) rfl) ?_
    refine wv rfl (r_fld Tryz.underlying83 rfl rfl sz3 rfl) ?_
    refine wv rfl (r_ldB Tryz.underlying3 rfl rfl hM (.head _) rfl) ?_
    refine wv rfl (r_fld Tryz.underlying83 rfl rfl sz3 rfl) ?_
    refine wv rfl (r_ldB Tryz.underlying3 rfl rfl hM (.head _) rfl) ?_
    refine w_ex rfl (x_lit (f := fI) (own := []) [(el d.seen k411).client, (el d.seen k411).seq, (el d.seen k411).rev] [(.int .i64 ((el d.seen k411).client)), (.int .i64 ((el d.seen k411).seq)), (.int .i64 ((el d.seen k411).rev))] 3 Tryz.underlying23 sz3 (fun _ => rfl) rfl rfl rfl rfl rfl (by kernel_rfl) (fun _ => zP (pV _ rfl) (zP (pV _ rfl) (zP (pV _ rfl) zN))) hM ?_); intro s437 w436 hR438 hM
    replace hM := hM.p3
    obtain ⟨hg442, hx⟩ := xg_some hx
    refine w_ex rfl (x_append Tryz.underlying23 sz3 rfl rfl (hM.seeO (.tail _ (.head _))) flI hM hg442 rfl ?_); intro s441 w440 hM
    refine was rfl rfl ?_
    refine wl_nil ?_
    refine bk_n ?_
    refine sq_n ?_
    refine wc_region ?_
    refine wv rfl (r_add rfl rfl ⟨by omega, by omega⟩) ?_
    refine wmv rfl rfl ?_
    refine wl_nil ?_
    obtain rfl := Option.some.inj hx
    replace hM := hM.p3
    replace hM := hM.t2
    exact lp_end (m417, k411 + 1, list407 ++ [(el d.seen k411).client, (el d.seen k411).seq, (el d.seen k411).rev], s441) (Nat.lt_succ_self _) ⟨rfl, rfl, rfl, rfl, rfl, rfl, trivial⟩ ⟨hM, hx419, hk412⟩
   ·
    replace hc416 := of_decide_eq_false hc416
    obtain rfl := eachN_end hx hk412 hc416
    refine wc_exit ?_
    refine sq_exit ?_
    refine lp1_exit ?_
    replace hx := hx406
    try dsimp only [Sum.elim_inl, Sum.elim_inr] at hx
    refine bk_here ?_
    refine sq_n ?_
    refine wc_sr ?_
    refine wmv rfl rfl ?_
    refine wmv rfl rfl ?_
    obtain ⟨r449, h450, hx⟩ := bind_some' hx
    refine w_call rfl rfl (hM.callO (l := []) fun X S oL hS hR hO => ct_impl_putNums _ X S out326 s329 list407 s409 hS (seeA hO (.head _)) (seeA hO (.tail _ (.head _))) oL h450) ?_
    rintro _ w451 ⟨s452, rfl, hM⟩
    dsimp only [List.cons_append, List.nil_append] at hM
    refine wmv rfl rfl ?_
    refine wv rfl (r_extract rfl rfl) ?_
    refine wv rfl (r_extract rfl rfl) ?_
    refine was rfl rfl ?_
    refine was rfl rfl ?_
    refine wl_sq ?_
    refine wc_seq ?_
    refine wc_sr ?_
    refine wmv rfl rfl ?_
    refine wv rfl (r_not rfl) ?_
    refine wmv rfl rfl ?_
    obtain ⟨c462, hx, hx466⟩ := bind_some' hx
    refine wl_mid 3 (fun _ : Unit => [(97, (.bool c462)), (5, s452.v)]) (fun _ w' => St ⟨w, X, S⟩ [oC (cSl 1 fY r449.1) s452.v, oC (cSl 1 fY out326) s329.v, oC (cSl 1 fI list407) s409.v] [rV s_d_4.v (cSl 3 fDSeen d.seen)] w') ?_ ?_
    ·
     rcases Bool.eq_false_or_eq_true (!ok327) with hg463 | hg463
     ·
      replace hx := xif_t hg463 hx
      refine gs rfl (isB_no hg463) rfl ?_
      refine gs rfl (isB_no hg463) rfl ?_
      refine wv rfl (p_t rfl hg463 rfl) ?_
      obtain rfl := Option.some.inj hx
      exact mid_nil () ⟨rfl, rfl, trivial⟩ hM
     ·
      replace hx := xif_f hg463 hx
      refine gv rfl hg463 rfl (r_move rfl) ?_
      refine gv rfl hg463 rfl (r_not rfl) ?_
      refine wv rfl (p_f rfl hg463 rfl) ?_
      obtain rfl := Option.some.inj hx
      exact mid_nil () ⟨rfl, rfl, trivial⟩ hM
    rintro _ w469 hM
    replace hx := hx466
    refine wl_sq ?_
    refine wc_cond rfl (fun hc470 => ?_) (fun hc470 => ?_)
    ·
     replace hx := xif_t hc470 hx
     refine wc_sr ?_
     refine was rfl rfl ?_
     refine was rfl rfl ?_
     refine wl_sq ?_
     refine wc_ret ?_
     refine sq_ret ?_
     obtain rfl := Option.some.inj hx
     have hM := hM.nil0 (T := UInt8) 1 fY
     refine fin_ret [nS.v, (.bool false)] ⟨rfl, rfl, trivial⟩ ?_
     replace hM := hM.t1
     have hM := hM.fewer rsN
     exact ⟨nS, rfl, hM.gives⟩
    ·
     replace hx := xif_f hc470 hx
     refine wc_skip ?_
     refine sq_n ?_
     refine wc_sr ?_
     refine wmv rfl rfl ?_
     refine was rfl rfl ?_
     refine was rfl rfl ?_
     refine wl_sq ?_
     refine wc_ret ?_
     obtain rfl := Option.some.inj hx
     refine fin_ret [s452.v, (.bool true)] ⟨rfl, rfl, trivial⟩ ?_
     replace hM := hM.t1
     have hM := hM.fewer rsN
     exact ⟨s452, rfl, hM.gives⟩

end Go.Proofs.YtlgmikaemfbmaaaGreat
