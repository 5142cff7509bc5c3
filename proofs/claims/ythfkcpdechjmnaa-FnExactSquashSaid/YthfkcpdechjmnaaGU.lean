/- Walks of functions of this program (printed by a program of ours, by the rules of the layer). No condition. -/
import Derived.Test.YthfkcpdechjmnaaGT
import Derived.Test.YthfkcpdechjmnaaNs
namespace Go.Proofs.Ythfkcpdechjmnaa
open Go.RowKit

noncomputable def x_spec_l04Size (p : DPart) : Option Int :=
  bif decide (p.kind = 2) then (some (p.signs.length : Int)) else (some p.n)
theorem ct_spec_l04Size (w : World) (X S : Bs) (p : DPart) (s_p_2 : Sv) (hS : ∀ b, S b → b < w.heap.size ∧ ¬ X b) (a_p_2 : (cSl 1 fI p.signs).rd S w s_p_2.v) (oL : Sep [] X w) {r : Int} (hx : x_spec_l04Size p = some r) :
    Ret Try.prog 131 [(.agg #[(.int .i64 p.kind), (.int .i64 p.n), s_p_2.v])] w (fun u w' => ∃ _ : Unit, u = (.int .i64 r) ∧ Gives X S w [] [] w') := by
  unfold x_spec_l04Size at hx
  refine enter Try.func131 rfl Try.ntmps131 (by kernel_rfl) rfl ?_
  have hM := St.enter oL hS
  have hM := hM.addE (r := rV s_p_2.v (cSl 1 fI p.signs)) a_p_2
  refine wc_seq ?_
  refine wc_region ?_
  refine w_ex rfl (x_box rfl hM ?_); intro b17 w16 hR18 hM
  replace hM : St ⟨w, X, S⟩ [oBox b17 #[(.int .i64 p.kind), (.int .i64 p.n), s_p_2.v] 77] [rV s_p_2.v (cSl 1 fI p.signs)] _ := hM
  refine wv rfl (r_assign rfl) ?_
  refine wl_nil ?_
  refine sq_n ?_
  refine wc_seq ?_
  refine wc_seq ?_
  refine wc_region ?_
  refine wv rfl (r_fld Try.underlying77 rfl rfl sz3 rfl) ?_
  refine wv rfl (r_ldB Try.underlying3 rfl rfl hM (.head _) rfl) ?_
  refine wv rfl (r_eql rfl rfl) ?_
  refine wl_nil ?_
  refine sq_n ?_
  refine wc_cond rfl (fun hc24 => ?_) (fun hc24 => ?_)
  · replace hx := xif_t hc24 hx
    refine wc_seq ?_
    refine wc_region ?_
    refine wv rfl (r_fld Try.underlying77 rfl rfl sz26 rfl) ?_
    refine wv rfl (r_ldB Try.underlying26 rfl rfl hM (.head _) rfl) ?_
    refine wv rfl (r_lenC Try.underlying26 rfl (hM.seeR (.head _))) ?_
    refine wv rfl (r_assign rfl) ?_
    refine wl_nil ?_
    refine sq_n ?_
    refine wc_ret ?_
    refine sq_ret ?_
    obtain rfl := Option.some.inj hx
    refine fin_ret [(.int .i64 (p.signs.length : Int))] ⟨rfl, trivial⟩ ?_
    replace hM := hM.t0
    have hM := hM.fewer rsN
    exact ⟨(), rfl, hM.gives⟩
  · replace hx := xif_f hc24 hx
    refine wc_skip ?_
    refine sq_n ?_
    refine wc_seq ?_
    refine wc_region ?_
    refine wv rfl (r_fld Try.underlying77 rfl rfl sz3 rfl) ?_
    refine wv rfl (r_ldB Try.underlying3 rfl rfl hM (.head _) rfl) ?_
    refine wv rfl (r_assign rfl) ?_
    refine wl_nil ?_
    refine sq_n ?_
    refine wc_ret ?_
    obtain rfl := Option.some.inj hx
    refine fin_ret [(.int .i64 p.n)] ⟨rfl, trivial⟩ ?_
    replace hM := hM.t0
    have hM := hM.fewer rsN
    exact ⟨(), rfl, hM.gives⟩

noncomputable def x_spec_l04Kind_b0 (c : DL04Cur) (n77 : Int) (n78 : Int) : Option (Lr (Int × Int) (Int × Int)) :=
  Option.bind (bif decide (n77 < (c.o.length : Int)) then (xg (0 ≤ n77 ∧ n77 < (c.o.length : Int)) <| Option.bind (x_spec_l04Size (el c.o n77.toNat)) fun r206 => some (decide (n78 = r206))) else (some false)) fun c164 => bif c164 then (xg (inI (n77 + 1)) <| some (Lr.go (n77 + 1, 0))) else (some (Lr.out (n77, n78)))
noncomputable def x_spec_l04Kind_f0 (c : DL04Cur) (s227 : Int × Int) : Option (Lr (Int × Int) (Int × Int)) := x_spec_l04Kind_b0 c s227.1 s227.2
noncomputable def x_spec_l04Kind (c : DL04Cur) : Option (Int × DL04Cur) :=
  Option.bind (iter (x_spec_l04Kind_f0 c) (c.at_, c.done)) fun (y228 : Int × Int) => bif decide (y228.1 = (c.o.length : Int)) then (some (0, (⟨c.o, y228.1, y228.2⟩ : DL04Cur))) else (xg (0 ≤ y228.1 ∧ y228.1 < (c.o.length : Int)) <| some ((el c.o y228.1.toNat).kind, (⟨c.o, y228.1, y228.2⟩ : DL04Cur)))
theorem ct_spec_l04Kind (w : World) (X S : Bs) (b_c : Nat) (c : DL04Cur) (s_c_0 : Sv) (hS : ∀ b, S b → b < w.heap.size ∧ ¬ X b) (a_c_0 : (cSl 3 fDPart c.o).rd S w s_c_0.v) (oL : Sep [oBox b_c #[s_c_0.v, (.int .i64 c.at_), (.int .i64 c.done)] 120] X w) {r : Int × DL04Cur} (hx : x_spec_l04Kind c = some r) :
    Ret Try.prog 103 [(.pointer (some ⟨b_c, 0, none⟩))] w (fun u w' => ∃ y : Sv, u = (.int .i64 r.1) ∧ Gives X S w [oBox b_c #[y.v, (.int .i64 r.2.at_), (.int .i64 r.2.done)] 120] [rV y.v (cSl 3 fDPart r.2.o)] w') := by
  unfold x_spec_l04Kind at hx
  refine enter Try.func103 rfl Try.ntmps103 (by kernel_rfl) rfl ?_
  have hM := St.enter oL hS
  have hM := hM.addE (r := rV s_c_0.v (cSl 3 fDPart c.o)) a_c_0
  refine wc_seq ?_
  refine wc_region ?_
  refine wv rfl (r_assign rfl) ?_
  refine wl_nil ?_
  refine sq_n ?_
  refine wc_seq ?_
  refine wc_block ?_
  obtain ⟨y259, hx, hx260⟩ := bind_some' hx
  obtain ⟨m265, hx⟩ := iter_run hx
  refine wc_loop (un fun (m263 : Nat) => un fun (n261 : Int) => fun (n262 : Int) => [(0, (.pointer (some ⟨b_c, 0, none⟩)))]) (un fun (m263 : Nat) => un fun (n261 : Int) => fun (n262 : Int) w' => St ⟨w, X, S⟩ [oBox b_c #[s_c_0.v, (.int .i64 n261), (.int .i64 n262)] 120] [rV s_c_0.v (cSl 3 fDPart c.o)] w' ∧ iterN _ m263 (n261, n262) = some y259) (fun p => p.1) (m265, c.at_, c.done) ⟨rfl, trivial⟩ ⟨hM, hx⟩ ?_
  rintro ⟨m263, n261, n262⟩ w266 ⟨hM, hx⟩
  obtain ⟨m267, z268, rfl, hx, hx269⟩ := iterN_step hx
  unfold x_spec_l04Kind_f0 x_spec_l04Kind_b0 at hx
  try dsimp only at hx
  refine wc_seq ?_
  refine wc_seq ?_
  refine wc_draw [(0, 0), (1, 0), (2, 0), (3, 0), (4, 0), (5, 0), (6, 0), (7, 0), (8, 0), (9, 0), (10, 0), (11, 0), (12, 0), (13, 0), (14, 0), (15, 0), (16, 0), (17, 0), (18, 0), (19, 0), (20, 0), (21, 0), (22, 0), (23, 0), (24, 0), (25, 0), (26, 0), (27, 0)] Try_mixed (by kernel_rfl) rfl (by kernel_rfl) rfl ?_
  refine ov rfl (fun w' h' => r_move rfl) ?_
  refine ov rfl (fun w' h' => r_nilck rfl) ?_
  refine ov rfl (fun w' h' => r_fld Try.underlying120 rfl rfl sz3 rfl) ?_
  refine ov rfl (fun w' h' => r_ldB Try.underlying3 rfl rfl (hM.call h') (.head _) rfl) ?_
  refine ov rfl (fun w' h' => r_move rfl) ?_
  refine ov rfl (fun w' h' => r_nilck rfl) ?_
  refine ov rfl (fun w' h' => r_fld Try.underlying120 rfl rfl sz29 rfl) ?_
  refine ov rfl (fun w' h' => r_ldB Try.underlying29 rfl rfl (hM.call h') (.head _) rfl) ?_
  refine ov rfl (fun w' h' => r_lenC Try.underlying29 rfl ((hM.call h').seeR (.head _))) ?_
  refine ov rfl (fun w' h' => r_lss rfl rfl) ?_
  refine ov rfl (fun w' h' => r_move rfl) ?_
  obtain ⟨c281, hx, hx305⟩ := bind_some' hx
  refine wo_mid 17 [(30, (.bool c281)), (0, (.pointer (some ⟨b_c, 0, none⟩)))] rfl ?_ ?_
  · rcases Bool.eq_false_or_eq_true (decide (n261 < (c.o.length : Int))) with hg282 | hg282
    · replace hx := xif_t hg282 hx
      refine ogv rfl hg282 rfl (fun w' h' => r_move rfl) ?_
      refine ogv rfl hg282 rfl (fun w' h' => r_nilck rfl) ?_
      refine ogv rfl hg282 rfl (fun w' h' => r_fld Try.underlying120 rfl rfl sz3 rfl) ?_
      refine ogv rfl hg282 rfl (fun w' h' => r_ldB Try.underlying3 rfl rfl (hM.call h') (.head _) rfl) ?_
      refine ogv rfl hg282 rfl (fun w' h' => r_move rfl) ?_
      refine ogv rfl hg282 rfl (fun w' h' => r_nilck rfl) ?_
      refine ogv rfl hg282 rfl (fun w' h' => r_fld Try.underlying120 rfl rfl sz29 rfl) ?_
      refine ogv rfl hg282 rfl (fun w' h' => r_ldB Try.underlying29 rfl rfl (hM.call h') (.head _) rfl) ?_
      refine ogv rfl hg282 rfl (fun w' h' => r_move rfl) ?_
      refine ogv rfl hg282 rfl (fun w' h' => r_nilck rfl) ?_
      refine ogv rfl hg282 rfl (fun w' h' => r_fld Try.underlying120 rfl rfl sz3 rfl) ?_
      refine ogv rfl hg282 rfl (fun w' h' => r_ldB Try.underlying3 rfl rfl (hM.call h') (.head _) rfl) ?_
      obtain ⟨hg320, hx⟩ := xg_some hx
      have hi319 : n261.toNat < c.o.length := by omega
      refine ogv rfl hg282 rfl (fun w' h' => r_ixC Try.underlying29 sz77 rfl rfl ((hM.call h').seeR (.head _)) hg320) ?_
      obtain ⟨s322, hM, hc323⟩ := hM.leaf (i := n261.toNat) (j := 2) (.head _) (fun _ => rfl) hi319 rfl
      refine ogv rfl hg282 rfl (fun w' h' => r_ldC (o := n261.toNat * 3) Try.underlying77 sz77 rfl (us := [(.int .i64 ((el c.o n261.toNat).kind)), (.int .i64 ((el c.o n261.toNat).n)), s322.v]) rfl ((hM.call h').seeR (.tail _ (.head _))) hi319 ⟨(Cs.get (i := n261.toNat) (j := 0) ((hM.call h').seeR (.tail _ (.head _))) (fun _ => rfl) hi319 rfl), (Cs.get (i := n261.toNat) (j := 1) ((hM.call h').seeR (.tail _ (.head _))) (fun _ => rfl) hi319 rfl), (hc323 w' h'), trivial⟩) ?_
      obtain ⟨r324, h325, hx⟩ := bind_some' hx
      refine ogc rfl hg282 rfl rfl (fun w' h' => (hM.call h').callV fun X S oL hS hR hO => ct_spec_l04Size _ X S (el c.o n261.toNat) s322 hS (hR _ (.head _)) oL h325) ?_
      refine ogv rfl hg282 rfl (fun w' h' => r_eql rfl rfl) ?_
      refine ov rfl (fun w' h' => p_t rfl hg282 rfl) ?_
      obtain rfl := Option.some.inj hx
      exact mid_onil ⟨rfl, rfl, trivial⟩
    · replace hx := xif_f hg282 hx
      refine ogs rfl (isB_no hg282) rfl ?_
      refine ogs rfl (isB_no hg282) rfl ?_
      refine ogs rfl (isB_no hg282) rfl ?_
      refine ogs rfl (isB_no hg282) rfl ?_
      refine ogs rfl (isB_no hg282) rfl ?_
      refine ogs rfl (isB_no hg282) rfl ?_
      refine ogs rfl (isB_no hg282) rfl ?_
      refine ogs rfl (isB_no hg282) rfl ?_
      refine ogs rfl (isB_no hg282) rfl ?_
      refine ogs rfl (isB_no hg282) rfl ?_
      refine ogs rfl (isB_no hg282) rfl ?_
      refine ogs rfl (isB_no hg282) rfl ?_
      refine ogs rfl (isB_no hg282) rfl ?_
      refine ogs rfl (isB_no hg282) rfl ?_
      refine ogs rfl (isB_no hg282) rfl ?_
      refine ogs rfl (isB_no hg282) rfl ?_
      refine ov rfl (fun w' h' => p_f rfl hg282 rfl) ?_
      obtain rfl := Option.some.inj hx
      exact mid_onil ⟨rfl, rfl, trivial⟩
  replace hx := hx305
  refine o_nil fun w328 hw329 => ?_
  have hM := hM.call hw329
  refine sq_n ?_
  refine wc_cond rfl (fun hc330 => ?_) (fun hc330 => ?_)
  · replace hx := xif_t hc330 hx
    refine wc_skip ?_
    refine sq_n ?_
    refine wc_block ?_
    refine wc_seq ?_
    refine wc_region ?_
    refine wv rfl (r_move rfl) ?_
    refine wv rfl (r_nilck rfl) ?_
    refine wv rfl (r_fld Try.underlying120 rfl rfl sz3 rfl) ?_
    refine wv rfl (r_ldB Try.underlying3 rfl rfl hM (.head _) rfl) ?_
    obtain ⟨hg336, hx⟩ := xg_some hx
    refine wv rfl (r_add rfl rfl hg336) ?_
    refine wv rfl (r_nilck rfl) ?_
    refine wv rfl (r_fld Try.underlying120 rfl rfl sz3 rfl) ?_
    refine w_exu (x_stB #[s_c_0.v, (.int .i64 (n261 + 1)), (.int .i64 n262)] sz3 rfl rfl rfl rfl rfl rfl hM ?_); intro w339 hM
    refine wl_nil ?_
    refine sq_n ?_
    refine wc_region ?_
    refine wv rfl (r_move rfl) ?_
    refine wv rfl (r_nilck rfl) ?_
    refine wv rfl (r_fld Try.underlying120 rfl rfl sz3 rfl) ?_
    refine w_exu (x_stB #[s_c_0.v, (.int .i64 (n261 + 1)), (.int .i64 0)] sz3 rfl rfl rfl rfl rfl rfl hM ?_); intro w344 hM
    refine wl_nil ?_
    refine bk_n ?_
    obtain rfl := Option.some.inj hx
    exact lp_end (m267, n261 + 1, 0) (Nat.lt_succ_self _) ⟨rfl, trivial⟩ ⟨hM, hx269⟩
  · replace hx := xif_f hc330 hx
    refine wc_exit ?_
    refine sq_exit ?_
    refine lp1_exit ?_
    obtain rfl := Option.some.inj hx
    obtain rfl := Option.some.inj hx269
    replace hx := hx260
    try dsimp only [Sum.elim_inl, Sum.elim_inr] at hx
    refine bk_here ?_
    refine sq_n ?_
    refine wc_seq ?_
    refine wc_seq ?_
    refine wc_draw [(0, 0), (1, 0), (2, 0), (3, 0), (4, 0), (5, 0), (6, 0), (7, 0), (8, 0), (9, 0)] Try_mixed (by kernel_rfl) rfl (by kernel_rfl) rfl ?_
    refine ov rfl (fun w' h' => r_move rfl) ?_
    refine ov rfl (fun w' h' => r_nilck rfl) ?_
    refine ov rfl (fun w' h' => r_fld Try.underlying120 rfl rfl sz3 rfl) ?_
    refine ov rfl (fun w' h' => r_ldB Try.underlying3 rfl rfl (hM.call h') (.head _) rfl) ?_
    refine ov rfl (fun w' h' => r_move rfl) ?_
    refine ov rfl (fun w' h' => r_nilck rfl) ?_
    refine ov rfl (fun w' h' => r_fld Try.underlying120 rfl rfl sz29 rfl) ?_
    refine ov rfl (fun w' h' => r_ldB Try.underlying29 rfl rfl (hM.call h') (.head _) rfl) ?_
    refine ov rfl (fun w' h' => r_lenC Try.underlying29 rfl ((hM.call h').seeR (.head _))) ?_
    refine ov rfl (fun w' h' => r_eql rfl rfl) ?_
    refine o_nil fun w356 hw357 => ?_
    have hM := hM.call hw357
    refine sq_n ?_
    refine wc_cond rfl (fun hc358 => ?_) (fun hc358 => ?_)
    · replace hx := xif_t hc358 hx
      refine wc_seq ?_
      refine wc_region ?_
      refine wv rfl (r_assign rfl) ?_
      refine wl_nil ?_
      refine sq_n ?_
      refine wc_ret ?_
      refine sq_ret ?_
      obtain rfl := Option.some.inj hx
      refine fin_ret [(.int .i64 0)] ⟨rfl, trivial⟩ ?_
      replace hM := hM.t1
      have hM := hM.fewer (rsC (.head _) rsN)
      exact ⟨s_c_0, rfl, hM.gives⟩
    · replace hx := xif_f hc358 hx
      refine wc_skip ?_
      refine sq_n ?_
      refine wc_seq ?_
      refine wc_draw [(0, 0), (1, 0), (2, 0), (3, 0), (4, 0), (5, 0), (6, 0), (7, 0), (8, 0), (9, 0), (10, 0), (11, 0)] Try_mixed (by kernel_rfl) rfl (by kernel_rfl) rfl ?_
      refine ov rfl (fun w' h' => r_move rfl) ?_
      refine ov rfl (fun w' h' => r_nilck rfl) ?_
      refine ov rfl (fun w' h' => r_fld Try.underlying120 rfl rfl sz29 rfl) ?_
      refine ov rfl (fun w' h' => r_ldB Try.underlying29 rfl rfl (hM.call h') (.head _) rfl) ?_
      refine ov rfl (fun w' h' => r_move rfl) ?_
      refine ov rfl (fun w' h' => r_nilck rfl) ?_
      refine ov rfl (fun w' h' => r_fld Try.underlying120 rfl rfl sz3 rfl) ?_
      refine ov rfl (fun w' h' => r_ldB Try.underlying3 rfl rfl (hM.call h') (.head _) rfl) ?_
      obtain ⟨hg370, hx⟩ := xg_some hx
      have hi369 : n261.toNat < c.o.length := by omega
      refine ov rfl (fun w' h' => r_ixC Try.underlying29 sz77 rfl rfl ((hM.call h').seeR (.head _)) hg370) ?_
      refine ov rfl (fun w' h' => r_fldC (i := n261.toNat) Try.underlying77 rfl rfl sz3 rfl ((hM.call h').seeR (.head _)) hi369) ?_
      refine ov rfl (fun w' h' => r_ld Try.underlying3 rfl rfl (Cs.get (i := n261.toNat) (j := 0) ((hM.call h').seeR (.head _)) (fun _ => rfl) hi369 rfl)) ?_
      refine ov rfl (fun w' h' => r_assign rfl) ?_
      refine o_nil fun w374 hw375 => ?_
      have hM := hM.call hw375
      refine sq_n ?_
      refine wc_ret ?_
      obtain rfl := Option.some.inj hx
      refine fin_ret [(.int .i64 ((el c.o n261.toNat).kind))] ⟨rfl, trivial⟩ ?_
      replace hM := hM.t1
      have hM := hM.fewer (rsC (.head _) rsN)
      exact ⟨s_c_0, rfl, hM.gives⟩

noncomputable def x_spec_l04Left (c : DL04Cur) : Option (Int × DL04Cur) :=
  xg (0 ≤ c.at_ ∧ c.at_ < (c.o.length : Int)) <| Option.bind (x_spec_l04Size (el c.o c.at_.toNat)) fun r17 => xg (inI (r17 - c.done)) <| some (r17 - c.done, c)
theorem ct_spec_l04Left (w : World) (X S : Bs) (b_c : Nat) (c : DL04Cur) (s_c_0 : Sv) (hS : ∀ b, S b → b < w.heap.size ∧ ¬ X b) (a_c_0 : (cSl 3 fDPart c.o).rd S w s_c_0.v) (oL : Sep [oBox b_c #[s_c_0.v, (.int .i64 c.at_), (.int .i64 c.done)] 120] X w) {r : Int × DL04Cur} (hx : x_spec_l04Left c = some r) :
    Ret Try.prog 104 [(.pointer (some ⟨b_c, 0, none⟩))] w (fun u w' => ∃ y : Sv, u = (.int .i64 r.1) ∧ Gives X S w [oBox b_c #[y.v, (.int .i64 r.2.at_), (.int .i64 r.2.done)] 120] [rV y.v (cSl 3 fDPart r.2.o)] w') := by
  unfold x_spec_l04Left at hx
  refine enter Try.func104 rfl Try.ntmps104 (by kernel_rfl) rfl ?_
  have hM := St.enter oL hS
  have hM := hM.addE (r := rV s_c_0.v (cSl 3 fDPart c.o)) a_c_0
  refine wc_seq ?_
  refine wc_region ?_
  refine wv rfl (r_assign rfl) ?_
  refine wl_nil ?_
  refine sq_n ?_
  refine wc_seq ?_
  refine wc_draw [(0, 0), (1, 0), (2, 0), (3, 0), (4, 0), (5, 0), (6, 0), (7, 0), (8, 0), (9, 0), (10, 0), (11, 0), (12, 0), (13, 0), (14, 0), (15, 0), (16, 0)] Try_mixed (by kernel_rfl) rfl (by kernel_rfl) rfl ?_
  refine ov rfl (fun w' h' => r_move rfl) ?_
  refine ov rfl (fun w' h' => r_nilck rfl) ?_
  refine ov rfl (fun w' h' => r_fld Try.underlying120 rfl rfl sz29 rfl) ?_
  refine ov rfl (fun w' h' => r_ldB Try.underlying29 rfl rfl (hM.call h') (.head _) rfl) ?_
  refine ov rfl (fun w' h' => r_move rfl) ?_
  refine ov rfl (fun w' h' => r_nilck rfl) ?_
  refine ov rfl (fun w' h' => r_fld Try.underlying120 rfl rfl sz3 rfl) ?_
  refine ov rfl (fun w' h' => r_ldB Try.underlying3 rfl rfl (hM.call h') (.head _) rfl) ?_
  obtain ⟨hg40, hx⟩ := xg_some hx
  have hi39 : c.at_.toNat < c.o.length := by omega
  refine ov rfl (fun w' h' => r_ixC Try.underlying29 sz77 rfl rfl ((hM.call h').seeR (.head _)) hg40) ?_
  obtain ⟨s42, hM, hc43⟩ := hM.leaf (i := c.at_.toNat) (j := 2) (.head _) (fun _ => rfl) hi39 rfl
  refine ov rfl (fun w' h' => r_ldC (o := c.at_.toNat * 3) Try.underlying77 sz77 rfl (us := [(.int .i64 ((el c.o c.at_.toNat).kind)), (.int .i64 ((el c.o c.at_.toNat).n)), s42.v]) rfl ((hM.call h').seeR (.tail _ (.head _))) hi39 ⟨(Cs.get (i := c.at_.toNat) (j := 0) ((hM.call h').seeR (.tail _ (.head _))) (fun _ => rfl) hi39 rfl), (Cs.get (i := c.at_.toNat) (j := 1) ((hM.call h').seeR (.tail _ (.head _))) (fun _ => rfl) hi39 rfl), (hc43 w' h'), trivial⟩) ?_
  obtain ⟨r44, h45, hx⟩ := bind_some' hx
  refine oc rfl rfl (fun w' h' => (hM.call h').callV fun X S oL hS hR hO => ct_spec_l04Size _ X S (el c.o c.at_.toNat) s42 hS (hR _ (.head _)) oL h45) ?_
  refine ov rfl (fun w' h' => r_move rfl) ?_
  refine ov rfl (fun w' h' => r_nilck rfl) ?_
  refine ov rfl (fun w' h' => r_fld Try.underlying120 rfl rfl sz3 rfl) ?_
  refine ov rfl (fun w' h' => r_ldB Try.underlying3 rfl rfl (hM.call h') (.head _) rfl) ?_
  obtain ⟨hg52, hx⟩ := xg_some hx
  refine ov rfl (fun w' h' => r_sub rfl rfl hg52) ?_
  refine ov rfl (fun w' h' => r_assign rfl) ?_
  refine o_nil fun w54 hw55 => ?_
  have hM := hM.call hw55
  refine sq_n ?_
  refine wc_ret ?_
  obtain rfl := Option.some.inj hx
  refine fin_ret [(.int .i64 (r44 - c.done))] ⟨rfl, trivial⟩ ?_
  replace hM := hM.t1
  have hM := hM.fewer (rsC (.tail _ (.head _)) rsN)
  exact ⟨s_c_0, rfl, hM.gives⟩

noncomputable def x_spec_l04Take (c : DL04Cur) (n : Int) : Option (List Int × DL04Cur) :=
  xg (0 ≤ c.at_ ∧ c.at_ < (c.o.length : Int)) <| xg (inI (c.done + n)) <| xg (0 ≤ c.done ∧ c.done ≤ (c.done + n) ∧ (c.done + n) ≤ (((el c.o c.at_.toNat).signs).length : Int)) <| xg (inI (c.done + n)) <| some ((((el c.o c.at_.toNat).signs).take ((c.done + n).toNat)).drop c.done.toNat, (⟨c.o, c.at_, c.done + n⟩ : DL04Cur))
theorem ct_spec_l04Take (w : World) (X S : Bs) (b_c : Nat) (c : DL04Cur) (s_c_0 : Sv) (n : Int) (hS : ∀ b, S b → b < w.heap.size ∧ ¬ X b) (a_c_0 : (cSl 3 fDPart c.o).rd S w s_c_0.v) (oL : Sep [oBox b_c #[s_c_0.v, (.int .i64 c.at_), (.int .i64 c.done)] 120] X w) {r : List Int × DL04Cur} (hx : x_spec_l04Take c n = some r) :
    Ret Try.prog 107 [(.pointer (some ⟨b_c, 0, none⟩)), (.int .i64 n)] w (fun u w' => ∃ y : Sv × Sv, u = y.1.v ∧ Gives X S w [oBox b_c #[y.2.v, (.int .i64 r.2.at_), (.int .i64 r.2.done)] 120] [rV y.1.v (cSl 1 fI r.1), rV y.2.v (cSl 3 fDPart r.2.o)] w') := by
  unfold x_spec_l04Take at hx
  refine enter Try.func107 rfl Try.ntmps107 (by kernel_rfl) rfl ?_
  have hM := St.enter oL hS
  have hM := hM.addE (r := rV s_c_0.v (cSl 3 fDPart c.o)) a_c_0
  refine wc_seq ?_
  refine wc_region ?_
  refine wv rfl (r_assign rfl) ?_
  refine wl_nil ?_
  refine sq_n ?_
  refine wc_seq ?_
  refine wc_draw [(0, 0), (1, 0), (2, 0), (3, 0), (4, 0), (5, 0), (6, 0), (7, 0), (8, 0), (9, 0), (10, 0), (11, 0), (12, 0), (13, 0), (14, 0), (15, 0), (16, 0), (17, 0), (18, 0), (19, 0), (20, 0), (21, 0), (22, 0)] Try_mixed (by kernel_rfl) rfl (by kernel_rfl) rfl ?_
  refine ov rfl (fun w' h' => r_move rfl) ?_
  refine ov rfl (fun w' h' => r_nilck rfl) ?_
  refine ov rfl (fun w' h' => r_fld Try.underlying120 rfl rfl sz29 rfl) ?_
  refine ov rfl (fun w' h' => r_ldB Try.underlying29 rfl rfl (hM.call h') (.head _) rfl) ?_
  refine ov rfl (fun w' h' => r_move rfl) ?_
  refine ov rfl (fun w' h' => r_nilck rfl) ?_
  refine ov rfl (fun w' h' => r_fld Try.underlying120 rfl rfl sz3 rfl) ?_
  refine ov rfl (fun w' h' => r_ldB Try.underlying3 rfl rfl (hM.call h') (.head _) rfl) ?_
  obtain ⟨hg59, hx⟩ := xg_some hx
  have hi58 : c.at_.toNat < c.o.length := by omega
  refine ov rfl (fun w' h' => r_ixC Try.underlying29 sz77 rfl rfl ((hM.call h').seeR (.head _)) hg59) ?_
  refine ov rfl (fun w' h' => r_fldC (i := c.at_.toNat) Try.underlying77 rfl rfl sz26 rfl ((hM.call h').seeR (.head _)) hi58) ?_
  obtain ⟨s62, hM, hc63⟩ := hM.leaf (i := c.at_.toNat) (j := 2) (.head _) (fun _ => rfl) hi58 rfl
  refine ov rfl (fun w' h' => r_ld Try.underlying26 rfl rfl (hc63 w' h')) ?_
  refine ov rfl (fun w' h' => r_move rfl) ?_
  refine ov rfl (fun w' h' => r_nilck rfl) ?_
  refine ov rfl (fun w' h' => r_fld Try.underlying120 rfl rfl sz3 rfl) ?_
  refine ov rfl (fun w' h' => r_ldB Try.underlying3 rfl rfl (hM.call h') (.head _) rfl) ?_
  refine ov rfl (fun w' h' => r_move rfl) ?_
  refine ov rfl (fun w' h' => r_nilck rfl) ?_
  refine ov rfl (fun w' h' => r_fld Try.underlying120 rfl rfl sz3 rfl) ?_
  refine ov rfl (fun w' h' => r_ldB Try.underlying3 rfl rfl (hM.call h') (.head _) rfl) ?_
  refine ov rfl (fun w' h' => r_move rfl) ?_
  obtain ⟨hg74, hx⟩ := xg_some hx
  refine ov rfl (fun w' h' => r_add rfl rfl hg74) ?_
  obtain ⟨hg76, hx⟩ := xg_some hx
  have hM := hM.cutR (L := ((el c.o c.at_.toNat).signs)) (f := fI) (lo := c.done.toNat) (hi := ((c.done + n).toNat)) (fun _ => rfl) (by omega) (by omega) (.head _)
  refine ov rfl (fun w' h' => r_slc Try.underlying26 sz3 rfl rfl rfl ((hM.call h').seeR (.tail _ (.head _))) hg76) ?_
  refine ov rfl (fun w' h' => r_assign rfl) ?_
  refine o_nil fun w78 hw79 => ?_
  have hM := hM.call hw79
  refine sq_n ?_
  refine wc_seq ?_
  refine wc_region ?_
  refine wv rfl (r_move rfl) ?_
  refine wv rfl (r_move rfl) ?_
  refine wv rfl (r_nilck rfl) ?_
  refine wv rfl (r_fld Try.underlying120 rfl rfl sz3 rfl) ?_
  refine wv rfl (r_ldB Try.underlying3 rfl rfl hM (.head _) rfl) ?_
  refine wv rfl (r_move rfl) ?_
  obtain ⟨hg87, hx⟩ := xg_some hx
  refine wv rfl (r_add rfl rfl hg87) ?_
  refine wv rfl (r_nilck rfl) ?_
  refine wv rfl (r_fld Try.underlying120 rfl rfl sz3 rfl) ?_
  refine w_exu (x_stB #[s_c_0.v, (.int .i64 c.at_), (.int .i64 (c.done + n))] sz3 rfl rfl rfl rfl rfl rfl hM ?_); intro w90 hM
  refine wl_nil ?_
  refine sq_n ?_
  refine wc_seq ?_
  refine wc_region ?_
  refine wv rfl (r_move rfl) ?_
  refine wv rfl (r_assign rfl) ?_
  refine wl_nil ?_
  refine sq_n ?_
  refine wc_ret ?_
  obtain rfl := Option.some.inj hx
  refine fin_ret [(s62.cut 1 c.done.toNat ((c.done + n).toNat)).v] ⟨rfl, trivial⟩ ?_
  replace hM := hM.t1
  have hM := hM.fewer (rsC (.head _) (rsC (.tail _ (.tail _ (.head _))) rsN))
  exact ⟨((s62.cut 1 c.done.toNat ((c.done + n).toNat)), s_c_0), rfl, hM.gives⟩

noncomputable def x_spec_l04Min (x : Int) (y_ : Int) : Option Int :=
  bif decide (x < y_) then (some x) else (some y_)
theorem ct_spec_l04Min (w : World) (X S : Bs) (x : Int) (y_ : Int) (hS : ∀ b, S b → b < w.heap.size ∧ ¬ X b)  (oL : Sep [] X w) {r : Int} (hx : x_spec_l04Min x y_ = some r) :
    Ret Try.prog 108 [(.int .i64 x), (.int .i64 y_)] w (fun u w' => ∃ _ : Unit, u = (.int .i64 r) ∧ Gives X S w [] [] w') := by
  unfold x_spec_l04Min at hx
  refine enter Try.func108 rfl Try.ntmps108 (by kernel_rfl) rfl ?_
  have hM := St.enter oL hS
  refine wc_seq ?_
  refine wc_region ?_
  refine wv rfl (r_assign rfl) ?_
  refine wl_nil ?_
  refine sq_n ?_
  refine wc_seq ?_
  refine wc_seq ?_
  refine wc_region ?_
  refine wv rfl (r_move rfl) ?_
  refine wv rfl (r_move rfl) ?_
  refine wv rfl (r_lss rfl rfl) ?_
  refine wl_nil ?_
  refine sq_n ?_
  refine wc_cond rfl (fun hc13 => ?_) (fun hc13 => ?_)
  · replace hx := xif_t hc13 hx
    refine wc_seq ?_
    refine wc_region ?_
    refine wv rfl (r_move rfl) ?_
    refine wv rfl (r_assign rfl) ?_
    refine wl_nil ?_
    refine sq_n ?_
    refine wc_ret ?_
    refine sq_ret ?_
    obtain rfl := Option.some.inj hx
    refine fin_ret [(.int .i64 x)] ⟨rfl, trivial⟩ ?_
    replace hM := hM.t0
    have hM := hM.fewer rsN
    exact ⟨(), rfl, hM.gives⟩
  · replace hx := xif_f hc13 hx
    refine wc_skip ?_
    refine sq_n ?_
    refine wc_seq ?_
    refine wc_region ?_
    refine wv rfl (r_move rfl) ?_
    refine wv rfl (r_assign rfl) ?_
    refine wl_nil ?_
    refine sq_n ?_
    refine wc_ret ?_
    obtain rfl := Option.some.inj hx
    refine fin_ret [(.int .i64 y_)] ⟨rfl, trivial⟩ ?_
    replace hM := hM.t0
    have hM := hM.fewer rsN
    exact ⟨(), rfl, hM.gives⟩

noncomputable def x_spec_Compose_b0 (l311 : List DPart) (n312 : Int) (n313 : Int) (l314 : List DPart) (n315 : Int) (n316 : Int) (l317 : List DPart) (l318 : List Int) (n319 : Int) : Option (Lr (List DPart × Int × Int × List DPart × Int × Int × List DPart × List Int × Int) (List DPart × List Int × Int)) :=
  Option.bind (x_spec_l04Kind (⟨l311, n312, n313⟩ : DL04Cur)) fun r555 => Option.bind (bif !decide (r555.1 = 0) then (some (true, l314, n315, n316)) else (Option.bind (x_spec_l04Kind (⟨l314, n315, n316⟩ : DL04Cur)) fun r571 => some (!decide (r571.1 = 0), r571.2.o, r571.2.at_, r571.2.done))) fun (c569 : Bool × List DPart × Int × Int) => bif c569.1 then (Option.bind (x_spec_l04Kind r555.2) fun r578 => bif decide (r578.1 = 3) then (Option.bind (x_spec_l04Left r578.2) fun r584 => Option.bind (x_spec_l02Drop (⟨l317, l318, n319⟩ : DL02B) r584.1) fun r591 => xg (inI (r584.2.done + r584.1)) <| some (Lr.go (r584.2.o, r584.2.at_, r584.2.done + r584.1, c569.2.1, c569.2.2.1, c569.2.2.2, r591.list, r591.put, r591.drop))) else (Option.bind (x_spec_l04Kind (⟨c569.2.1, c569.2.2.1, c569.2.2.2⟩ : DL04Cur)) fun r609 => bif decide (r609.1 = 2) then (Option.bind (x_spec_l04Left r609.2) fun r617 => Option.bind (x_spec_l04Take r617.2 r617.1) fun r621 => Option.bind (x_spec_l02Put (⟨l317, l318, n319⟩ : DL02B) r621.1) fun r626 => some (Lr.go (r578.2.o, r578.2.at_, r578.2.done, r621.2.o, r621.2.at_, r621.2.done, r626.list, r626.put, r626.drop))) else (Option.bind (x_spec_l04Left r578.2) fun r632 => Option.bind (x_spec_l04Left r609.2) fun r637 => Option.bind (x_spec_l04Min r632.1 r637.1) fun r641 => Option.bind (x_spec_l04Kind r632.2) fun r647 => Option.bind (x_spec_l04Kind r637.2) fun r654 => Option.bind (bif decide (r647.1 = 2) then (some (decide (r654.1 = 1))) else (some false)) fun c662 => bif c662 then (Option.bind (x_spec_l04Take r647.2 r641) fun r670 => Option.bind (x_spec_l02Put (⟨l317, l318, n319⟩ : DL02B) r670.1) fun r675 => xg (inI (r654.2.done + r641)) <| some (Lr.go (r670.2.o, r670.2.at_, r670.2.done, r654.2.o, r654.2.at_, r654.2.done + r641, r675.list, r675.put, r675.drop))) else (bif decide (r647.1 = 2) then (xg (inI (r647.2.done + r641)) <| xg (inI (r654.2.done + r641)) <| some (Lr.go (r647.2.o, r647.2.at_, r647.2.done + r641, r654.2.o, r654.2.at_, r654.2.done + r641, l317, l318, n319))) else (bif decide (r654.1 = 1) then (Option.bind (x_spec_l02Keep (⟨l317, l318, n319⟩ : DL02B) r641) fun r722 => xg (inI (r647.2.done + r641)) <| xg (inI (r654.2.done + r641)) <| some (Lr.go (r647.2.o, r647.2.at_, r647.2.done + r641, r654.2.o, r654.2.at_, r654.2.done + r641, r722.list, r722.put, r722.drop))) else (Option.bind (x_spec_l02Drop (⟨l317, l318, n319⟩ : DL02B) r641) fun r753 => xg (inI (r647.2.done + r641)) <| xg (inI (r654.2.done + r641)) <| some (Lr.go (r647.2.o, r647.2.at_, r647.2.done + r641, r654.2.o, r654.2.at_, r654.2.done + r641, r753.list, r753.put, r753.drop)))))))) else (some (Lr.out (l317, l318, n319)))
noncomputable def x_spec_Compose_f0 (s782 : List DPart × Int × Int × List DPart × Int × Int × List DPart × List Int × Int) : Option (Lr (List DPart × Int × Int × List DPart × Int × Int × List DPart × List Int × Int) (List DPart × List Int × Int)) := x_spec_Compose_b0 s782.1 s782.2.1 s782.2.2.1 s782.2.2.2.1 s782.2.2.2.2.1 s782.2.2.2.2.2.1 s782.2.2.2.2.2.2.1 s782.2.2.2.2.2.2.2.1 s782.2.2.2.2.2.2.2.2
noncomputable def x_spec_Compose (a : List DPart) (b : List DPart) : Option (List DPart × Bool) :=
  Option.bind (x_spec_OpOk a) fun r4 => Option.bind (bif !r4 then (some true) else (Option.bind (x_spec_OpOk b) fun r19 => some (!r19))) fun c10 => Option.bind (bif c10 then (some true) else (Option.bind (x_spec_OpTo a) fun r39 => Option.bind (x_spec_OpFrom b) fun r44 => some (!decide (r39 = r44)))) fun c25 => bif c25 then (some ([], false)) else (Option.bind (iter (x_spec_Compose_f0) (a, 0, 0, b, 0, 0, [], [], 0)) fun (y783 : List DPart × List Int × Int) => Option.bind (x_spec_l02Done (⟨y783.1, y783.2.1, y783.2.2⟩ : DL02B)) fun r789 => Option.bind (x_spec_OpOk r789.1) fun r798 => bif !r798 then (some ([], false)) else (some (r789.1, true)))
theorem ct_spec_Compose (w : World) (X S : Bs) (a : List DPart) (s_a : Sv) (b : List DPart) (s_b : Sv) (hS : ∀ b, S b → b < w.heap.size ∧ ¬ X b) (a_a_0 : (cSl 3 fDPart a).rd S w s_a.v) (a_b_0 : (cSl 3 fDPart b).rd S w s_b.v) (oL : Sep [] X w) {r : List DPart × Bool} (hx : x_spec_Compose a b = some r) :
    Ret Try.prog 72 [s_a.v, s_b.v] w (fun u w' => ∃ y : Sv, u = .tuple #[y.v, (.bool r.2)] ∧ Gives X S w [oC (cSl 3 fDPart r.1) y.v] [] w') := by
  unfold x_spec_Compose at hx
  refine enter Try.func72 rfl Try.ntmps72 (by kernel_rfl) rfl ?_
  have hM := St.enter oL hS
  have hM := hM.addE (r := rV s_a.v (cSl 3 fDPart a)) a_a_0
  have hM := hM.addE (r := rV s_b.v (cSl 3 fDPart b)) a_b_0
  refine wc_seq ?_
  refine wc_region ?_
  refine wv rfl (r_assign rfl) ?_
  refine wv rfl (r_assign rfl) ?_
  refine wl_nil ?_
  refine sq_n ?_
  refine wc_seq ?_
  refine wc_seq ?_
  refine wc_region ?_
  refine wv rfl (r_move rfl) ?_
  obtain ⟨r811, h812, hx⟩ := bind_some' hx
  refine w_call rfl rfl (hM.callV fun X S oL hS hR hO => ct_spec_OpOk _ X S a s_a hS (hR _ (.tail _ (.head _))) oL h812) ?_
  rintro _ w813 ⟨rfl, hR814⟩
  have hM := hM.call hR814
  refine wv rfl (r_not rfl) ?_
  refine wv rfl (r_move rfl) ?_
  obtain ⟨c817, hx, hx825⟩ := bind_some' hx
  refine wl_mid 4 (fun _ : Unit => [(21, (.bool c817)), (0, s_a.v), (1, s_b.v)]) (fun _ w' => St ⟨w, X, S⟩ [] [rV s_b.v (cSl 3 fDPart b), rV s_a.v (cSl 3 fDPart a)] w') ?_ ?_
  · rcases Bool.eq_false_or_eq_true (!r811) with hg818 | hg818
    · replace hx := xif_t hg818 hx
      refine gs rfl (isB_no hg818) rfl ?_
      refine gs rfl (isB_no hg818) rfl ?_
      refine gs rfl (isB_no hg818) rfl ?_
      refine wv rfl (p_t rfl hg818 rfl) ?_
      obtain rfl := Option.some.inj hx
      exact mid_nil () ⟨rfl, rfl, rfl, trivial⟩ hM
    · replace hx := xif_f hg818 hx
      refine gv rfl hg818 rfl (r_move rfl) ?_
      obtain ⟨r827, h828, hx⟩ := bind_some' hx
      refine gc rfl hg818 rfl rfl (hM.callV fun X S oL hS hR hO => ct_spec_OpOk _ X S b s_b hS (hR _ (.head _)) oL h828) ?_
      rintro _ w829 ⟨rfl, hR830⟩
      have hM := hM.call hR830
      refine gv rfl hg818 rfl (r_not rfl) ?_
      refine wv rfl (p_f rfl hg818 rfl) ?_
      obtain rfl := Option.some.inj hx
      exact mid_nil () ⟨rfl, rfl, rfl, trivial⟩ hM
  rintro _ w832 hM
  replace hx := hx825
  refine wv rfl (r_move rfl) ?_
  obtain ⟨c834, hx, hx847⟩ := bind_some' hx
  refine wl_mid 6 (fun _ : Unit => [(28, (.bool c834)), (0, s_a.v), (1, s_b.v)]) (fun _ w' => St ⟨w, X, S⟩ [] [rV s_b.v (cSl 3 fDPart b), rV s_a.v (cSl 3 fDPart a)] w') ?_ ?_
  · rcases Bool.eq_false_or_eq_true c817 with hg835 | hg835
    · replace hx := xif_t hg835 hx
      refine gs rfl (isB_no hg835) rfl ?_
      refine gs rfl (isB_no hg835) rfl ?_
      refine gs rfl (isB_no hg835) rfl ?_
      refine gs rfl (isB_no hg835) rfl ?_
      refine gs rfl (isB_no hg835) rfl ?_
      refine wv rfl (p_t rfl hg835 rfl) ?_
      obtain rfl := Option.some.inj hx
      exact mid_nil () ⟨rfl, rfl, rfl, trivial⟩ hM
    · replace hx := xif_f hg835 hx
      refine gv rfl hg835 rfl (r_move rfl) ?_
      obtain ⟨r849, h850, hx⟩ := bind_some' hx
      refine gc rfl hg835 rfl rfl (hM.callV fun X S oL hS hR hO => ct_spec_OpTo _ X S a s_a hS (hR _ (.tail _ (.head _))) oL h850) ?_
      rintro _ w851 ⟨rfl, hR852⟩
      have hM := hM.call hR852
      refine gv rfl hg835 rfl (r_move rfl) ?_
      obtain ⟨r854, h855, hx⟩ := bind_some' hx
      refine gc rfl hg835 rfl rfl (hM.callV fun X S oL hS hR hO => ct_spec_OpFrom _ X S b s_b hS (hR _ (.head _)) oL h855) ?_
      rintro _ w856 ⟨rfl, hR857⟩
      have hM := hM.call hR857
      refine gv rfl hg835 rfl (r_neq rfl rfl) ?_
      refine wv rfl (p_f rfl hg835 rfl) ?_
      obtain rfl := Option.some.inj hx
      exact mid_nil () ⟨rfl, rfl, rfl, trivial⟩ hM
  rintro _ w859 hM
  replace hx := hx847
  refine wl_nil ?_
  refine sq_n ?_
  refine wc_cond rfl (fun hc860 => ?_) (fun hc860 => ?_)
  · replace hx := xif_t hc860 hx
    refine wc_seq ?_
    refine wc_region ?_
    refine wv rfl (r_assign rfl) ?_
    refine wv rfl (r_assign rfl) ?_
    refine wl_nil ?_
    refine sq_n ?_
    refine wc_ret ?_
    refine sq_ret ?_
    obtain rfl := Option.some.inj hx
    have hM := hM.nil0 (T := DPart) 3 fDPart
    refine fin_ret [nS.v, (.bool false)] ⟨rfl, rfl, trivial⟩ ?_
    replace hM := hM.t1
    have hM := hM.fewer rsN
    exact ⟨nS, rfl, hM.gives⟩
  · replace hx := xif_f hc860 hx
    refine wc_skip ?_
    refine sq_n ?_
    refine wc_seq ?_
    refine wc_region ?_
    refine wv rfl (r_move rfl) ?_
    refine wv rfl (r_build (cells := #[s_a.v, (.int .i64 0), (.int .i64 0)]) rfl (by kernel_rfl)) ?_
    refine w_ex rfl (x_box rfl hM ?_); intro b867 w866 hR868 hM
    replace hM : St ⟨w, X, S⟩ [oBox b867 #[s_a.v, (.int .i64 0), (.int .i64 0)] 120] [rV s_b.v (cSl 3 fDPart b), rV s_a.v (cSl 3 fDPart a)] _ := hM
    refine wv rfl (r_assign rfl) ?_
    refine wl_nil ?_
    refine sq_n ?_
    refine wc_seq ?_
    refine wc_region ?_
    refine wv rfl (r_move rfl) ?_
    refine wv rfl (r_build (cells := #[s_b.v, (.int .i64 0), (.int .i64 0)]) rfl (by kernel_rfl)) ?_
    refine w_ex rfl (x_box rfl hM ?_); intro b874 w873 hR875 hM
    replace hM : St ⟨w, X, S⟩ [oBox b874 #[s_b.v, (.int .i64 0), (.int .i64 0)] 120, oBox b867 #[s_a.v, (.int .i64 0), (.int .i64 0)] 120] [rV s_b.v (cSl 3 fDPart b), rV s_a.v (cSl 3 fDPart a)] _ := hM
    refine wv rfl (r_assign rfl) ?_
    refine wl_nil ?_
    refine sq_n ?_
    refine wc_seq ?_
    refine wc_region ?_
    refine wv rfl (r_build (cells := #[(.slice none 0 0), (.slice none 0 0), (.int .i64 0)]) rfl (by kernel_rfl)) ?_
    refine w_ex rfl (x_box rfl hM ?_); intro b880 w879 hR881 hM
    replace hM : St ⟨w, X, S⟩ [oBox b880 #[(.slice none 0 0), (.slice none 0 0), (.int .i64 0)] 123, oBox b874 #[s_b.v, (.int .i64 0), (.int .i64 0)] 120, oBox b867 #[s_a.v, (.int .i64 0), (.int .i64 0)] 120] [rV s_b.v (cSl 3 fDPart b), rV s_a.v (cSl 3 fDPart a)] _ := hM
    refine wv rfl (r_assign rfl) ?_
    refine wl_nil ?_
    refine sq_n ?_
    refine wc_seq ?_
    refine wc_block ?_
    obtain ⟨y884, hx, hx885⟩ := bind_some' hx
    have hM := hM.nil0 (T := DPart) 3 fDPart
    have hM := hM.nil0 (T := Int) 1 fI
    replace hM := hM.p1.p2.p3.p4
    have hM := hM.fewer (rsC (.tail _ (.head _)) (rsC (.head _) rsN))
    replace hM : St ⟨w, X, S⟩ [oBox b867 #[s_a.v, (.int .i64 0), (.int .i64 0)] 120, oBox b874 #[s_b.v, (.int .i64 0), (.int .i64 0)] 120, oBox b880 #[nS.v, nS.v, (.int .i64 0)] 123, oC (cSl 3 fDPart ([] : List DPart)) nS.v, oC (cSl 1 fI ([] : List Int)) nS.v] [rV s_a.v (cSl 3 fDPart a), rV s_b.v (cSl 3 fDPart b)] _ := hM
    obtain ⟨m905, hx⟩ := iter_run hx
    refine wc_loop (un fun (m903 : Nat) => un fun (l888 : List DPart) => un fun (n889 : Int) => un fun (n890 : Int) => un fun (l891 : List DPart) => un fun (n892 : Int) => un fun (n893 : Int) => un fun (l894 : List DPart) => un fun (l895 : List Int) => un fun (n896 : Int) => un fun (s897 : Sv) => un fun (s898 : Sv) => un fun (s900 : Sv) => fun (s902 : Sv) => [(6, (.pointer (some ⟨b867, 0, none⟩))), (7, (.pointer (some ⟨b874, 0, none⟩))), (8, (.pointer (some ⟨b880, 0, none⟩)))]) (un fun (m903 : Nat) => un fun (l888 : List DPart) => un fun (n889 : Int) => un fun (n890 : Int) => un fun (l891 : List DPart) => un fun (n892 : Int) => un fun (n893 : Int) => un fun (l894 : List DPart) => un fun (l895 : List Int) => un fun (n896 : Int) => un fun (s897 : Sv) => un fun (s898 : Sv) => un fun (s900 : Sv) => fun (s902 : Sv) w' => St ⟨w, X, S⟩ [oBox b867 #[s897.v, (.int .i64 n889), (.int .i64 n890)] 120, oBox b874 #[s898.v, (.int .i64 n892), (.int .i64 n893)] 120, oBox b880 #[s900.v, s902.v, (.int .i64 n896)] 123, oC (cSl 3 fDPart l894) s900.v, oC (cSl 1 fI l895) s902.v] [rV s897.v (cSl 3 fDPart l888), rV s898.v (cSl 3 fDPart l891)] w' ∧ iterN _ m903 (l888, n889, n890, l891, n892, n893, l894, l895, n896) = some y884) (fun p => p.1) (m905, a, 0, 0, b, 0, 0, [], [], 0, s_a, s_b, nS, nS) ⟨rfl, rfl, rfl, trivial⟩ ⟨hM, hx⟩ ?_
    rintro ⟨m903, l888, n889, n890, l891, n892, n893, l894, l895, n896, s897, s898, s900, s902⟩ w906 ⟨hM, hx⟩
    obtain ⟨m907, z908, rfl, hx, hx909⟩ := iterN_step hx
    unfold x_spec_Compose_f0 x_spec_Compose_b0 at hx
    try dsimp only at hx
    refine wc_seq ?_
    refine wc_seq ?_
    refine wc_region ?_
    refine wv rfl (r_move rfl) ?_
    obtain ⟨r911, h912, hx⟩ := bind_some' hx
    refine w_call rfl rfl (hM.callR (l := [oBox b867 #[s897.v, (.int .i64 n889), (.int .i64 n890)] 120]) fun X S oL hS hR => ct_spec_l04Kind _ X S b867 (⟨l888, n889, n890⟩ : DL04Cur) s897 hS (hR _ (.head _)) oL h912) ?_
    rintro _ w913 ⟨s914, rfl, hM⟩
    replace hM : St ⟨w, X, S⟩ [oBox b867 #[s914.v, (.int .i64 r911.2.at_), (.int .i64 r911.2.done)] 120, oBox b874 #[s898.v, (.int .i64 n892), (.int .i64 n893)] 120, oBox b880 #[s900.v, s902.v, (.int .i64 n896)] 123, oC (cSl 3 fDPart l894) s900.v, oC (cSl 1 fI l895) s902.v] [rV s914.v (cSl 3 fDPart r911.2.o), rV s897.v (cSl 3 fDPart l888), rV s898.v (cSl 3 fDPart l891)] _ := hM
    refine wv rfl (r_neq rfl rfl) ?_
    refine wv rfl (r_move rfl) ?_
    obtain ⟨c925, hx, hx926⟩ := bind_some' hx
    refine wl_mid 4 (fun (s927 : Sv) => [(6, (.pointer (some ⟨b867, 0, none⟩))), (7, (.pointer (some ⟨b874, 0, none⟩))), (8, (.pointer (some ⟨b880, 0, none⟩))), (44, (.bool c925.1))]) (fun (s927 : Sv) w' => St ⟨w, X, S⟩ [oBox b867 #[s914.v, (.int .i64 r911.2.at_), (.int .i64 r911.2.done)] 120, oBox b874 #[s927.v, (.int .i64 c925.2.2.1), (.int .i64 c925.2.2.2)] 120, oBox b880 #[s900.v, s902.v, (.int .i64 n896)] 123, oC (cSl 3 fDPart l894) s900.v, oC (cSl 1 fI l895) s902.v] [rV s927.v (cSl 3 fDPart c925.2.1), rV s914.v (cSl 3 fDPart r911.2.o)] w') ?_ ?_
    · rcases Bool.eq_false_or_eq_true (!decide (r911.1 = 0)) with hg918 | hg918
      · replace hx := xif_t hg918 hx
        refine gs rfl (isB_no hg918) rfl ?_
        refine gs rfl (isB_no hg918) rfl ?_
        refine gs rfl (isB_no hg918) rfl ?_
        refine wv rfl (p_t rfl hg918 rfl) ?_
        obtain rfl := Option.some.inj hx
        have hM := hM.fewer (rsC (.tail _ (.tail _ (.head _))) (rsC (.head _) rsN))
        replace hM : St ⟨w, X, S⟩ [oBox b867 #[s914.v, (.int .i64 r911.2.at_), (.int .i64 r911.2.done)] 120, oBox b874 #[s898.v, (.int .i64 n892), (.int .i64 n893)] 120, oBox b880 #[s900.v, s902.v, (.int .i64 n896)] 123, oC (cSl 3 fDPart l894) s900.v, oC (cSl 1 fI l895) s902.v] [rV s898.v (cSl 3 fDPart l891), rV s914.v (cSl 3 fDPart r911.2.o)] _ := hM
        exact mid_nil s898 ⟨rfl, rfl, rfl, rfl, trivial⟩ hM
      · replace hx := xif_f hg918 hx
        refine gv rfl hg918 rfl (r_move rfl) ?_
        replace hM := hM.p1
        obtain ⟨r929, h930, hx⟩ := bind_some' hx
        refine gc rfl hg918 rfl rfl (hM.callR (l := [oBox b874 #[s898.v, (.int .i64 n892), (.int .i64 n893)] 120]) fun X S oL hS hR => ct_spec_l04Kind _ X S b874 (⟨l891, n892, n893⟩ : DL04Cur) s898 hS (hR _ (.tail _ (.tail _ (.head _)))) oL h930) ?_
        rintro _ w931 ⟨s932, rfl, hM⟩
        replace hM : St ⟨w, X, S⟩ [oBox b874 #[s932.v, (.int .i64 r929.2.at_), (.int .i64 r929.2.done)] 120, oBox b867 #[s914.v, (.int .i64 r911.2.at_), (.int .i64 r911.2.done)] 120, oBox b880 #[s900.v, s902.v, (.int .i64 n896)] 123, oC (cSl 3 fDPart l894) s900.v, oC (cSl 1 fI l895) s902.v] [rV s932.v (cSl 3 fDPart r929.2.o), rV s914.v (cSl 3 fDPart r911.2.o), rV s897.v (cSl 3 fDPart l888), rV s898.v (cSl 3 fDPart l891)] _ := hM
        refine gv rfl hg918 rfl (r_neq rfl rfl) ?_
        refine wv rfl (p_f rfl hg918 rfl) ?_
        obtain rfl := Option.some.inj hx
        replace hM := hM.p4.p4.p4.p3.p4
        have hM := hM.fewer (rsC (.head _) (rsC (.tail _ (.head _)) rsN))
        replace hM : St ⟨w, X, S⟩ [oBox b867 #[s914.v, (.int .i64 r911.2.at_), (.int .i64 r911.2.done)] 120, oBox b874 #[s932.v, (.int .i64 r929.2.at_), (.int .i64 r929.2.done)] 120, oBox b880 #[s900.v, s902.v, (.int .i64 n896)] 123, oC (cSl 3 fDPart l894) s900.v, oC (cSl 1 fI l895) s902.v] [rV s932.v (cSl 3 fDPart r929.2.o), rV s914.v (cSl 3 fDPart r911.2.o)] _ := hM
        exact mid_nil s932 ⟨rfl, rfl, rfl, rfl, trivial⟩ hM
    rintro s927 w934 hM
    replace hx := hx926
    refine wl_nil ?_
    refine sq_n ?_
    refine wc_cond rfl (fun hc935 => ?_) (fun hc935 => ?_)
    · replace hx := xif_t hc935 hx
      refine wc_skip ?_
      refine sq_n ?_
      refine wc_block ?_
      refine wc_seq ?_
      refine wc_seq ?_
      refine wc_region ?_
      refine wv rfl (r_move rfl) ?_
      obtain ⟨r937, h938, hx⟩ := bind_some' hx
      refine w_call rfl rfl (hM.callR (l := [oBox b867 #[s914.v, (.int .i64 r911.2.at_), (.int .i64 r911.2.done)] 120]) fun X S oL hS hR => ct_spec_l04Kind _ X S b867 r911.2 s914 hS (hR _ (.tail _ (.head _))) oL h938) ?_
      rintro _ w939 ⟨s940, rfl, hM⟩
      replace hM : St ⟨w, X, S⟩ [oBox b867 #[s940.v, (.int .i64 r937.2.at_), (.int .i64 r937.2.done)] 120, oBox b874 #[s927.v, (.int .i64 c925.2.2.1), (.int .i64 c925.2.2.2)] 120, oBox b880 #[s900.v, s902.v, (.int .i64 n896)] 123, oC (cSl 3 fDPart l894) s900.v, oC (cSl 1 fI l895) s902.v] [rV s940.v (cSl 3 fDPart r937.2.o), rV s927.v (cSl 3 fDPart c925.2.1), rV s914.v (cSl 3 fDPart r911.2.o)] _ := hM
      refine wv rfl (r_eql rfl rfl) ?_
      refine wl_nil ?_
      refine sq_n ?_
      refine wc_cond rfl (fun hc942 => ?_) (fun hc942 => ?_)
      · replace hx := xif_t hc942 hx
        refine wc_seq ?_
        refine wc_region ?_
        refine wv rfl (r_move rfl) ?_
        obtain ⟨r944, h945, hx⟩ := bind_some' hx
        refine w_call rfl rfl (hM.callR (l := [oBox b867 #[s940.v, (.int .i64 r937.2.at_), (.int .i64 r937.2.done)] 120]) fun X S oL hS hR => ct_spec_l04Left _ X S b867 r937.2 s940 hS (hR _ (.head _)) oL h945) ?_
        rintro _ w946 ⟨s947, rfl, hM⟩
        replace hM : St ⟨w, X, S⟩ [oBox b867 #[s947.v, (.int .i64 r944.2.at_), (.int .i64 r944.2.done)] 120, oBox b874 #[s927.v, (.int .i64 c925.2.2.1), (.int .i64 c925.2.2.2)] 120, oBox b880 #[s900.v, s902.v, (.int .i64 n896)] 123, oC (cSl 3 fDPart l894) s900.v, oC (cSl 1 fI l895) s902.v] [rV s947.v (cSl 3 fDPart r944.2.o), rV s940.v (cSl 3 fDPart r937.2.o), rV s927.v (cSl 3 fDPart c925.2.1), rV s914.v (cSl 3 fDPart r911.2.o)] _ := hM
        refine wv rfl (r_assign rfl) ?_
        refine wl_nil ?_
        refine sq_n ?_
        refine wc_seq ?_
        refine wc_region ?_
        refine wv rfl (r_move rfl) ?_
        refine wv rfl (r_move rfl) ?_
        replace hM := hM.p4.p4.p4
        obtain ⟨r951, h952, hx⟩ := bind_some' hx
        refine w_call rfl rfl (hM.callO (l := [oBox b880 #[s900.v, s902.v, (.int .i64 n896)] 123, oC (cSl 3 fDPart l894) s900.v, oC (cSl 1 fI l895) s902.v]) fun X S oL hS hR hO => ct_spec_l02Drop _ X S b880 (⟨l894, l895, n896⟩ : DL02B) s900 s902 r944.1 hS  oL h952) ?_
        rintro _ w953 ⟨⟨s954, s955⟩, rfl, hM⟩
        replace hM : St ⟨w, X, S⟩ [oBox b880 #[s954.v, s955.v, (.int .i64 r951.drop)] 123, oC (cSl 3 fDPart r951.list) s954.v, oC (cSl 1 fI r951.put) s955.v, oBox b867 #[s947.v, (.int .i64 r944.2.at_), (.int .i64 r944.2.done)] 120, oBox b874 #[s927.v, (.int .i64 c925.2.2.1), (.int .i64 c925.2.2.2)] 120] [rV s947.v (cSl 3 fDPart r944.2.o), rV s940.v (cSl 3 fDPart r937.2.o), rV s927.v (cSl 3 fDPart c925.2.1), rV s914.v (cSl 3 fDPart r911.2.o)] _ := hM
        refine wl_nil ?_
        refine sq_n ?_
        refine wc_seq ?_
        refine wc_region ?_
        refine wv rfl (r_move rfl) ?_
        refine wv rfl (r_move rfl) ?_
        refine wv rfl (r_nilck rfl) ?_
        refine wv rfl (r_fld Try.underlying120 rfl rfl sz3 rfl) ?_
        refine wv rfl (r_ldB Try.underlying3 rfl rfl hM (.tail _ (.tail _ (.tail _ (.head _)))) rfl) ?_
        refine wv rfl (r_move rfl) ?_
        obtain ⟨hg963, hx⟩ := xg_some hx
        refine wv rfl (r_add rfl rfl hg963) ?_
        refine wv rfl (r_nilck rfl) ?_
        refine wv rfl (r_fld Try.underlying120 rfl rfl sz3 rfl) ?_
        replace hM := hM.p3
        refine w_exu (x_stB #[s947.v, (.int .i64 r944.2.at_), (.int .i64 (r944.2.done + r944.1))] sz3 rfl rfl rfl rfl rfl rfl hM ?_); intro w966 hM
        refine wl_nil ?_
        refine sq_n ?_
        refine wc_exit ?_
        refine sq_exit ?_
        refine bk_here ?_
        obtain rfl := Option.some.inj hx
        replace hM := hM.p3.p3.p3.p4.p4
        have hM := hM.fewer (rsC (.head _) (rsC (.tail _ (.tail _ (.head _))) rsN))
        replace hM : St ⟨w, X, S⟩ [oBox b867 #[s947.v, (.int .i64 r944.2.at_), (.int .i64 (r944.2.done + r944.1))] 120, oBox b874 #[s927.v, (.int .i64 c925.2.2.1), (.int .i64 c925.2.2.2)] 120, oBox b880 #[s954.v, s955.v, (.int .i64 r951.drop)] 123, oC (cSl 3 fDPart r951.list) s954.v, oC (cSl 1 fI r951.put) s955.v] [rV s947.v (cSl 3 fDPart r944.2.o), rV s927.v (cSl 3 fDPart c925.2.1)] _ := hM
        exact lp_end (m907, r944.2.o, r944.2.at_, r944.2.done + r944.1, c925.2.1, c925.2.2.1, c925.2.2.2, r951.list, r951.put, r951.drop, s947, s927, s954, s955) (Nat.lt_succ_self _) ⟨rfl, rfl, rfl, trivial⟩ ⟨hM, hx909⟩
      · replace hx := xif_f hc942 hx
        refine wc_skip ?_
        refine sq_n ?_
        refine wc_seq ?_
        refine wc_seq ?_
        refine wc_region ?_
        refine wv rfl (r_move rfl) ?_
        replace hM := hM.p1
        obtain ⟨r969, h970, hx⟩ := bind_some' hx
        refine w_call rfl rfl (hM.callR (l := [oBox b874 #[s927.v, (.int .i64 c925.2.2.1), (.int .i64 c925.2.2.2)] 120]) fun X S oL hS hR => ct_spec_l04Kind _ X S b874 (⟨c925.2.1, c925.2.2.1, c925.2.2.2⟩ : DL04Cur) s927 hS (hR _ (.tail _ (.head _))) oL h970) ?_
        rintro _ w971 ⟨s972, rfl, hM⟩
        replace hM : St ⟨w, X, S⟩ [oBox b874 #[s972.v, (.int .i64 r969.2.at_), (.int .i64 r969.2.done)] 120, oBox b867 #[s940.v, (.int .i64 r937.2.at_), (.int .i64 r937.2.done)] 120, oBox b880 #[s900.v, s902.v, (.int .i64 n896)] 123, oC (cSl 3 fDPart l894) s900.v, oC (cSl 1 fI l895) s902.v] [rV s972.v (cSl 3 fDPart r969.2.o), rV s940.v (cSl 3 fDPart r937.2.o), rV s927.v (cSl 3 fDPart c925.2.1), rV s914.v (cSl 3 fDPart r911.2.o)] _ := hM
        refine wv rfl (r_eql rfl rfl) ?_
        refine wl_nil ?_
        refine sq_n ?_
        refine wc_cond rfl (fun hc974 => ?_) (fun hc974 => ?_)
        · replace hx := xif_t hc974 hx
          refine wc_seq ?_
          refine wc_region ?_
          refine wv rfl (r_move rfl) ?_
          refine wv rfl (r_move rfl) ?_
          refine wv rfl (r_move rfl) ?_
          obtain ⟨r978, h979, hx⟩ := bind_some' hx
          refine w_call rfl rfl (hM.callR (l := [oBox b874 #[s972.v, (.int .i64 r969.2.at_), (.int .i64 r969.2.done)] 120]) fun X S oL hS hR => ct_spec_l04Left _ X S b874 r969.2 s972 hS (hR _ (.head _)) oL h979) ?_
          rintro _ w980 ⟨s981, rfl, hM⟩
          replace hM : St ⟨w, X, S⟩ [oBox b874 #[s981.v, (.int .i64 r978.2.at_), (.int .i64 r978.2.done)] 120, oBox b867 #[s940.v, (.int .i64 r937.2.at_), (.int .i64 r937.2.done)] 120, oBox b880 #[s900.v, s902.v, (.int .i64 n896)] 123, oC (cSl 3 fDPart l894) s900.v, oC (cSl 1 fI l895) s902.v] [rV s981.v (cSl 3 fDPart r978.2.o), rV s972.v (cSl 3 fDPart r969.2.o), rV s940.v (cSl 3 fDPart r937.2.o), rV s927.v (cSl 3 fDPart c925.2.1), rV s914.v (cSl 3 fDPart r911.2.o)] _ := hM
          obtain ⟨r982, h983, hx⟩ := bind_some' hx
          refine w_call rfl rfl (hM.callR (l := [oBox b874 #[s981.v, (.int .i64 r978.2.at_), (.int .i64 r978.2.done)] 120]) fun X S oL hS hR => ct_spec_l04Take _ X S b874 r978.2 s981 r978.1 hS (hR _ (.head _)) oL h983) ?_
          rintro _ w984 ⟨⟨s985, s986⟩, rfl, hM⟩
          replace hM : St ⟨w, X, S⟩ [oBox b874 #[s986.v, (.int .i64 r982.2.at_), (.int .i64 r982.2.done)] 120, oBox b867 #[s940.v, (.int .i64 r937.2.at_), (.int .i64 r937.2.done)] 120, oBox b880 #[s900.v, s902.v, (.int .i64 n896)] 123, oC (cSl 3 fDPart l894) s900.v, oC (cSl 1 fI l895) s902.v] [rV s985.v (cSl 1 fI r982.1), rV s986.v (cSl 3 fDPart r982.2.o), rV s981.v (cSl 3 fDPart r978.2.o), rV s972.v (cSl 3 fDPart r969.2.o), rV s940.v (cSl 3 fDPart r937.2.o), rV s927.v (cSl 3 fDPart c925.2.1), rV s914.v (cSl 3 fDPart r911.2.o)] _ := hM
          replace hM := hM.p4.p4.p4
          obtain ⟨r987, h988, hx⟩ := bind_some' hx
          refine w_call rfl rfl (hM.callO (l := [oBox b880 #[s900.v, s902.v, (.int .i64 n896)] 123, oC (cSl 3 fDPart l894) s900.v, oC (cSl 1 fI l895) s902.v]) fun X S oL hS hR hO => ct_spec_l02Put _ X S b880 (⟨l894, l895, n896⟩ : DL02B) s900 s902 r982.1 s985 hS (hR _ (.head _)) oL h988) ?_
          rintro _ w989 ⟨⟨s990, s991⟩, rfl, hM⟩
          replace hM : St ⟨w, X, S⟩ [oBox b880 #[s990.v, s991.v, (.int .i64 r987.drop)] 123, oC (cSl 3 fDPart r987.list) s990.v, oC (cSl 1 fI r987.put) s991.v, oBox b874 #[s986.v, (.int .i64 r982.2.at_), (.int .i64 r982.2.done)] 120, oBox b867 #[s940.v, (.int .i64 r937.2.at_), (.int .i64 r937.2.done)] 120] [rV s985.v (cSl 1 fI r982.1), rV s986.v (cSl 3 fDPart r982.2.o), rV s981.v (cSl 3 fDPart r978.2.o), rV s972.v (cSl 3 fDPart r969.2.o), rV s940.v (cSl 3 fDPart r937.2.o), rV s927.v (cSl 3 fDPart c925.2.1), rV s914.v (cSl 3 fDPart r911.2.o)] _ := hM
          refine wl_nil ?_
          refine sq_n ?_
          refine wc_exit ?_
          refine sq_exit ?_
          refine bk_here ?_
          obtain rfl := Option.some.inj hx
          replace hM := hM.p2.p2.p2.p3.p4
          have hM := hM.fewer (rsC (.tail _ (.tail _ (.tail _ (.tail _ (.head _))))) (rsC (.tail _ (.head _)) rsN))
          replace hM : St ⟨w, X, S⟩ [oBox b867 #[s940.v, (.int .i64 r937.2.at_), (.int .i64 r937.2.done)] 120, oBox b874 #[s986.v, (.int .i64 r982.2.at_), (.int .i64 r982.2.done)] 120, oBox b880 #[s990.v, s991.v, (.int .i64 r987.drop)] 123, oC (cSl 3 fDPart r987.list) s990.v, oC (cSl 1 fI r987.put) s991.v] [rV s940.v (cSl 3 fDPart r937.2.o), rV s986.v (cSl 3 fDPart r982.2.o)] _ := hM
          exact lp_end (m907, r937.2.o, r937.2.at_, r937.2.done, r982.2.o, r982.2.at_, r982.2.done, r987.list, r987.put, r987.drop, s940, s986, s990, s991) (Nat.lt_succ_self _) ⟨rfl, rfl, rfl, trivial⟩ ⟨hM, hx909⟩
        · replace hx := xif_f hc974 hx
          refine wc_skip ?_
          refine sq_n ?_
          refine wc_seq ?_
          refine wc_region ?_
          refine wv rfl (r_move rfl) ?_
          replace hM := hM.p1
          obtain ⟨r993, h994, hx⟩ := bind_some' hx
          refine w_call rfl rfl (hM.callR (l := [oBox b867 #[s940.v, (.int .i64 r937.2.at_), (.int .i64 r937.2.done)] 120]) fun X S oL hS hR => ct_spec_l04Left _ X S b867 r937.2 s940 hS (hR _ (.tail _ (.head _))) oL h994) ?_
          rintro _ w995 ⟨s996, rfl, hM⟩
          replace hM : St ⟨w, X, S⟩ [oBox b867 #[s996.v, (.int .i64 r993.2.at_), (.int .i64 r993.2.done)] 120, oBox b874 #[s972.v, (.int .i64 r969.2.at_), (.int .i64 r969.2.done)] 120, oBox b880 #[s900.v, s902.v, (.int .i64 n896)] 123, oC (cSl 3 fDPart l894) s900.v, oC (cSl 1 fI l895) s902.v] [rV s996.v (cSl 3 fDPart r993.2.o), rV s972.v (cSl 3 fDPart r969.2.o), rV s940.v (cSl 3 fDPart r937.2.o), rV s927.v (cSl 3 fDPart c925.2.1), rV s914.v (cSl 3 fDPart r911.2.o)] _ := hM
          refine wv rfl (r_move rfl) ?_
          replace hM := hM.p1
          obtain ⟨r998, h999, hx⟩ := bind_some' hx
          refine w_call rfl rfl (hM.callR (l := [oBox b874 #[s972.v, (.int .i64 r969.2.at_), (.int .i64 r969.2.done)] 120]) fun X S oL hS hR => ct_spec_l04Left _ X S b874 r969.2 s972 hS (hR _ (.tail _ (.head _))) oL h999) ?_
          rintro _ w1000 ⟨s1001, rfl, hM⟩
          replace hM : St ⟨w, X, S⟩ [oBox b874 #[s1001.v, (.int .i64 r998.2.at_), (.int .i64 r998.2.done)] 120, oBox b867 #[s996.v, (.int .i64 r993.2.at_), (.int .i64 r993.2.done)] 120, oBox b880 #[s900.v, s902.v, (.int .i64 n896)] 123, oC (cSl 3 fDPart l894) s900.v, oC (cSl 1 fI l895) s902.v] [rV s1001.v (cSl 3 fDPart r998.2.o), rV s996.v (cSl 3 fDPart r993.2.o), rV s972.v (cSl 3 fDPart r969.2.o), rV s940.v (cSl 3 fDPart r937.2.o), rV s927.v (cSl 3 fDPart c925.2.1), rV s914.v (cSl 3 fDPart r911.2.o)] _ := hM
          obtain ⟨r1002, h1003, hx⟩ := bind_some' hx
          refine w_call rfl rfl (hM.callV fun X S oL hS hR hO => ct_spec_l04Min _ X S r993.1 r998.1 hS  oL h1003) ?_
          rintro _ w1004 ⟨rfl, hR1005⟩
          have hM := hM.call hR1005
          refine wv rfl (r_assign rfl) ?_
          refine wl_nil ?_
          refine sq_n ?_
          refine wc_seq ?_
          refine wc_region ?_
          refine wv rfl (r_move rfl) ?_
          replace hM := hM.p1
          obtain ⟨r1008, h1009, hx⟩ := bind_some' hx
          refine w_call rfl rfl (hM.callR (l := [oBox b867 #[s996.v, (.int .i64 r993.2.at_), (.int .i64 r993.2.done)] 120]) fun X S oL hS hR => ct_spec_l04Kind _ X S b867 r993.2 s996 hS (hR _ (.tail _ (.head _))) oL h1009) ?_
          rintro _ w1010 ⟨s1011, rfl, hM⟩
          replace hM : St ⟨w, X, S⟩ [oBox b867 #[s1011.v, (.int .i64 r1008.2.at_), (.int .i64 r1008.2.done)] 120, oBox b874 #[s1001.v, (.int .i64 r998.2.at_), (.int .i64 r998.2.done)] 120, oBox b880 #[s900.v, s902.v, (.int .i64 n896)] 123, oC (cSl 3 fDPart l894) s900.v, oC (cSl 1 fI l895) s902.v] [rV s1011.v (cSl 3 fDPart r1008.2.o), rV s1001.v (cSl 3 fDPart r998.2.o), rV s996.v (cSl 3 fDPart r993.2.o), rV s972.v (cSl 3 fDPart r969.2.o), rV s940.v (cSl 3 fDPart r937.2.o), rV s927.v (cSl 3 fDPart c925.2.1), rV s914.v (cSl 3 fDPart r911.2.o)] _ := hM
          refine wv rfl (r_eql rfl rfl) ?_
          refine wv rfl (r_assign rfl) ?_
          refine wl_nil ?_
          refine sq_n ?_
          refine wc_seq ?_
          refine wc_region ?_
          refine wv rfl (r_move rfl) ?_
          replace hM := hM.p1
          obtain ⟨r1015, h1016, hx⟩ := bind_some' hx
          refine w_call rfl rfl (hM.callR (l := [oBox b874 #[s1001.v, (.int .i64 r998.2.at_), (.int .i64 r998.2.done)] 120]) fun X S oL hS hR => ct_spec_l04Kind _ X S b874 r998.2 s1001 hS (hR _ (.tail _ (.head _))) oL h1016) ?_
          rintro _ w1017 ⟨s1018, rfl, hM⟩
          replace hM : St ⟨w, X, S⟩ [oBox b874 #[s1018.v, (.int .i64 r1015.2.at_), (.int .i64 r1015.2.done)] 120, oBox b867 #[s1011.v, (.int .i64 r1008.2.at_), (.int .i64 r1008.2.done)] 120, oBox b880 #[s900.v, s902.v, (.int .i64 n896)] 123, oC (cSl 3 fDPart l894) s900.v, oC (cSl 1 fI l895) s902.v] [rV s1018.v (cSl 3 fDPart r1015.2.o), rV s1011.v (cSl 3 fDPart r1008.2.o), rV s1001.v (cSl 3 fDPart r998.2.o), rV s996.v (cSl 3 fDPart r993.2.o), rV s972.v (cSl 3 fDPart r969.2.o), rV s940.v (cSl 3 fDPart r937.2.o), rV s927.v (cSl 3 fDPart c925.2.1), rV s914.v (cSl 3 fDPart r911.2.o)] _ := hM
          refine wv rfl (r_eql rfl rfl) ?_
          refine wv rfl (r_assign rfl) ?_
          refine wl_nil ?_
          refine sq_n ?_
          refine wc_seq ?_
          refine wc_block ?_
          refine wc_seq ?_
          refine wc_region ?_
          refine wv rfl (r_move rfl) ?_
          refine wv rfl (r_move rfl) ?_
          obtain ⟨c1023, hx, hx1026⟩ := bind_some' hx
          refine wl_mid 2 (fun _ : Unit => [(98, (.bool c1023)), (6, (.pointer (some ⟨b867, 0, none⟩))), (7, (.pointer (some ⟨b874, 0, none⟩))), (8, (.pointer (some ⟨b880, 0, none⟩))), (10, (.int .i64 r1002)), (11, (.bool (decide (r1008.1 = 2)))), (12, (.bool (decide (r1015.1 = 1))))]) (fun _ w' => St ⟨w, X, S⟩ [oBox b874 #[s1018.v, (.int .i64 r1015.2.at_), (.int .i64 r1015.2.done)] 120, oBox b867 #[s1011.v, (.int .i64 r1008.2.at_), (.int .i64 r1008.2.done)] 120, oBox b880 #[s900.v, s902.v, (.int .i64 n896)] 123, oC (cSl 3 fDPart l894) s900.v, oC (cSl 1 fI l895) s902.v] [rV s1018.v (cSl 3 fDPart r1015.2.o), rV s1011.v (cSl 3 fDPart r1008.2.o), rV s1001.v (cSl 3 fDPart r998.2.o), rV s996.v (cSl 3 fDPart r993.2.o), rV s972.v (cSl 3 fDPart r969.2.o), rV s940.v (cSl 3 fDPart r937.2.o), rV s927.v (cSl 3 fDPart c925.2.1), rV s914.v (cSl 3 fDPart r911.2.o)] w') ?_ ?_
          · rcases Bool.eq_false_or_eq_true (decide (r1008.1 = 2)) with hg1024 | hg1024
            · replace hx := xif_t hg1024 hx
              refine gv rfl hg1024 rfl (r_move rfl) ?_
              refine wv rfl (p_t rfl hg1024 rfl) ?_
              obtain rfl := Option.some.inj hx
              exact mid_nil () ⟨rfl, rfl, rfl, rfl, rfl, rfl, rfl, trivial⟩ hM
            · replace hx := xif_f hg1024 hx
              refine gs rfl (isB_no hg1024) rfl ?_
              refine wv rfl (p_f rfl hg1024 rfl) ?_
              obtain rfl := Option.some.inj hx
              exact mid_nil () ⟨rfl, rfl, rfl, rfl, rfl, rfl, rfl, trivial⟩ hM
          rintro _ w1028 hM
          replace hx := hx1026
          refine wv rfl (r_assign rfl) ?_
          refine wl_nil ?_
          refine sq_n ?_
          refine wc_cond rfl (fun hc1030 => ?_) (fun hc1030 => ?_)
          · replace hx := xif_t hc1030 hx
            refine wc_region ?_
            refine wv rfl (r_move rfl) ?_
            refine wv rfl (r_move rfl) ?_
            refine wv rfl (r_move rfl) ?_
            replace hM := hM.p1
            obtain ⟨r1034, h1035, hx⟩ := bind_some' hx
            refine w_call rfl rfl (hM.callR (l := [oBox b867 #[s1011.v, (.int .i64 r1008.2.at_), (.int .i64 r1008.2.done)] 120]) fun X S oL hS hR => ct_spec_l04Take _ X S b867 r1008.2 s1011 r1002 hS (hR _ (.tail _ (.head _))) oL h1035) ?_
            rintro _ w1036 ⟨⟨s1037, s1038⟩, rfl, hM⟩
            replace hM : St ⟨w, X, S⟩ [oBox b867 #[s1038.v, (.int .i64 r1034.2.at_), (.int .i64 r1034.2.done)] 120, oBox b874 #[s1018.v, (.int .i64 r1015.2.at_), (.int .i64 r1015.2.done)] 120, oBox b880 #[s900.v, s902.v, (.int .i64 n896)] 123, oC (cSl 3 fDPart l894) s900.v, oC (cSl 1 fI l895) s902.v] [rV s1037.v (cSl 1 fI r1034.1), rV s1038.v (cSl 3 fDPart r1034.2.o), rV s1018.v (cSl 3 fDPart r1015.2.o), rV s1011.v (cSl 3 fDPart r1008.2.o), rV s1001.v (cSl 3 fDPart r998.2.o), rV s996.v (cSl 3 fDPart r993.2.o), rV s972.v (cSl 3 fDPart r969.2.o), rV s940.v (cSl 3 fDPart r937.2.o), rV s927.v (cSl 3 fDPart c925.2.1), rV s914.v (cSl 3 fDPart r911.2.o)] _ := hM
            replace hM := hM.p4.p4.p4
            obtain ⟨r1039, h1040, hx⟩ := bind_some' hx
            refine w_call rfl rfl (hM.callO (l := [oBox b880 #[s900.v, s902.v, (.int .i64 n896)] 123, oC (cSl 3 fDPart l894) s900.v, oC (cSl 1 fI l895) s902.v]) fun X S oL hS hR hO => ct_spec_l02Put _ X S b880 (⟨l894, l895, n896⟩ : DL02B) s900 s902 r1034.1 s1037 hS (hR _ (.head _)) oL h1040) ?_
            rintro _ w1041 ⟨⟨s1042, s1043⟩, rfl, hM⟩
            replace hM : St ⟨w, X, S⟩ [oBox b880 #[s1042.v, s1043.v, (.int .i64 r1039.drop)] 123, oC (cSl 3 fDPart r1039.list) s1042.v, oC (cSl 1 fI r1039.put) s1043.v, oBox b867 #[s1038.v, (.int .i64 r1034.2.at_), (.int .i64 r1034.2.done)] 120, oBox b874 #[s1018.v, (.int .i64 r1015.2.at_), (.int .i64 r1015.2.done)] 120] [rV s1037.v (cSl 1 fI r1034.1), rV s1038.v (cSl 3 fDPart r1034.2.o), rV s1018.v (cSl 3 fDPart r1015.2.o), rV s1011.v (cSl 3 fDPart r1008.2.o), rV s1001.v (cSl 3 fDPart r998.2.o), rV s996.v (cSl 3 fDPart r993.2.o), rV s972.v (cSl 3 fDPart r969.2.o), rV s940.v (cSl 3 fDPart r937.2.o), rV s927.v (cSl 3 fDPart c925.2.1), rV s914.v (cSl 3 fDPart r911.2.o)] _ := hM
            refine wl_nil ?_
            refine bk_n ?_
            refine sq_n ?_
            refine wc_region ?_
            refine wv rfl (r_move rfl) ?_
            refine wv rfl (r_move rfl) ?_
            refine wv rfl (r_nilck rfl) ?_
            refine wv rfl (r_fld Try.underlying120 rfl rfl sz3 rfl) ?_
            refine wv rfl (r_ldB Try.underlying3 rfl rfl hM (.tail _ (.tail _ (.tail _ (.tail _ (.head _))))) rfl) ?_
            refine wv rfl (r_move rfl) ?_
            obtain ⟨hg1051, hx⟩ := xg_some hx
            refine wv rfl (r_add rfl rfl hg1051) ?_
            refine wv rfl (r_nilck rfl) ?_
            refine wv rfl (r_fld Try.underlying120 rfl rfl sz3 rfl) ?_
            replace hM := hM.p4
            refine w_exu (x_stB #[s1018.v, (.int .i64 r1015.2.at_), (.int .i64 (r1015.2.done + r1002))] sz3 rfl rfl rfl rfl rfl rfl hM ?_); intro w1054 hM
            refine wl_nil ?_
            refine bk_n ?_
            obtain rfl := Option.some.inj hx
            replace hM := hM.p3.p3.p3.p3.p4
            have hM := hM.fewer (rsC (.tail _ (.head _)) (rsC (.tail _ (.tail _ (.head _))) rsN))
            replace hM : St ⟨w, X, S⟩ [oBox b867 #[s1038.v, (.int .i64 r1034.2.at_), (.int .i64 r1034.2.done)] 120, oBox b874 #[s1018.v, (.int .i64 r1015.2.at_), (.int .i64 (r1015.2.done + r1002))] 120, oBox b880 #[s1042.v, s1043.v, (.int .i64 r1039.drop)] 123, oC (cSl 3 fDPart r1039.list) s1042.v, oC (cSl 1 fI r1039.put) s1043.v] [rV s1038.v (cSl 3 fDPart r1034.2.o), rV s1018.v (cSl 3 fDPart r1015.2.o)] _ := hM
            exact lp_end (m907, r1034.2.o, r1034.2.at_, r1034.2.done, r1015.2.o, r1015.2.at_, r1015.2.done + r1002, r1039.list, r1039.put, r1039.drop, s1038, s1018, s1042, s1043) (Nat.lt_succ_self _) ⟨rfl, rfl, rfl, trivial⟩ ⟨hM, hx909⟩
          · replace hx := xif_f hc1030 hx
            refine wc_seq ?_
            refine wc_region ?_
            refine wv rfl (r_move rfl) ?_
            refine wv rfl (r_assign rfl) ?_
            refine wl_nil ?_
            refine sq_n ?_
            refine wc_cond rfl (fun hc1058 => ?_) (fun hc1058 => ?_)
            · replace hx := xif_t hc1058 hx
              refine wc_region ?_
              refine wv rfl (r_move rfl) ?_
              refine wv rfl (r_move rfl) ?_
              refine wv rfl (r_nilck rfl) ?_
              refine wv rfl (r_fld Try.underlying120 rfl rfl sz3 rfl) ?_
              refine wv rfl (r_ldB Try.underlying3 rfl rfl hM (.tail _ (.head _)) rfl) ?_
              refine wv rfl (r_move rfl) ?_
              obtain ⟨hg1066, hx⟩ := xg_some hx
              refine wv rfl (r_add rfl rfl hg1066) ?_
              refine wv rfl (r_nilck rfl) ?_
              refine wv rfl (r_fld Try.underlying120 rfl rfl sz3 rfl) ?_
              replace hM := hM.p1
              refine w_exu (x_stB #[s1011.v, (.int .i64 r1008.2.at_), (.int .i64 (r1008.2.done + r1002))] sz3 rfl rfl rfl rfl rfl rfl hM ?_); intro w1069 hM
              refine wl_nil ?_
              refine bk_n ?_
              refine sq_n ?_
              refine wc_region ?_
              refine wv rfl (r_move rfl) ?_
              refine wv rfl (r_move rfl) ?_
              refine wv rfl (r_nilck rfl) ?_
              refine wv rfl (r_fld Try.underlying120 rfl rfl sz3 rfl) ?_
              refine wv rfl (r_ldB Try.underlying3 rfl rfl hM (.tail _ (.head _)) rfl) ?_
              refine wv rfl (r_move rfl) ?_
              obtain ⟨hg1078, hx⟩ := xg_some hx
              refine wv rfl (r_add rfl rfl hg1078) ?_
              refine wv rfl (r_nilck rfl) ?_
              refine wv rfl (r_fld Try.underlying120 rfl rfl sz3 rfl) ?_
              replace hM := hM.p1
              refine w_exu (x_stB #[s1018.v, (.int .i64 r1015.2.at_), (.int .i64 (r1015.2.done + r1002))] sz3 rfl rfl rfl rfl rfl rfl hM ?_); intro w1081 hM
              refine wl_nil ?_
              refine bk_n ?_
              obtain rfl := Option.some.inj hx
              replace hM := hM.p4.p4.p4.p3.p4
              have hM := hM.fewer (rsC (.tail _ (.head _)) (rsC (.head _) rsN))
              replace hM : St ⟨w, X, S⟩ [oBox b867 #[s1011.v, (.int .i64 r1008.2.at_), (.int .i64 (r1008.2.done + r1002))] 120, oBox b874 #[s1018.v, (.int .i64 r1015.2.at_), (.int .i64 (r1015.2.done + r1002))] 120, oBox b880 #[s900.v, s902.v, (.int .i64 n896)] 123, oC (cSl 3 fDPart l894) s900.v, oC (cSl 1 fI l895) s902.v] [rV s1011.v (cSl 3 fDPart r1008.2.o), rV s1018.v (cSl 3 fDPart r1015.2.o)] _ := hM
              exact lp_end (m907, r1008.2.o, r1008.2.at_, r1008.2.done + r1002, r1015.2.o, r1015.2.at_, r1015.2.done + r1002, l894, l895, n896, s1011, s1018, s900, s902) (Nat.lt_succ_self _) ⟨rfl, rfl, rfl, trivial⟩ ⟨hM, hx909⟩
            · replace hx := xif_f hc1058 hx
              refine wc_seq ?_
              refine wc_region ?_
              refine wv rfl (r_move rfl) ?_
              refine wv rfl (r_assign rfl) ?_
              refine wl_nil ?_
              refine sq_n ?_
              refine wc_cond rfl (fun hc1085 => ?_) (fun hc1085 => ?_)
              · replace hx := xif_t hc1085 hx
                refine wc_seq ?_
                refine wc_region ?_
                refine wv rfl (r_move rfl) ?_
                refine wv rfl (r_move rfl) ?_
                replace hM := hM.p4.p4.p4
                obtain ⟨r1088, h1089, hx⟩ := bind_some' hx
                refine w_call rfl rfl (hM.callO (l := [oBox b880 #[s900.v, s902.v, (.int .i64 n896)] 123, oC (cSl 3 fDPart l894) s900.v, oC (cSl 1 fI l895) s902.v]) fun X S oL hS hR hO => ct_spec_l02Keep _ X S b880 (⟨l894, l895, n896⟩ : DL02B) s900 s902 r1002 hS  oL h1089) ?_
                rintro _ w1090 ⟨⟨s1091, s1092⟩, rfl, hM⟩
                replace hM : St ⟨w, X, S⟩ [oBox b880 #[s1091.v, s1092.v, (.int .i64 r1088.drop)] 123, oC (cSl 3 fDPart r1088.list) s1091.v, oC (cSl 1 fI r1088.put) s1092.v, oBox b874 #[s1018.v, (.int .i64 r1015.2.at_), (.int .i64 r1015.2.done)] 120, oBox b867 #[s1011.v, (.int .i64 r1008.2.at_), (.int .i64 r1008.2.done)] 120] [rV s1018.v (cSl 3 fDPart r1015.2.o), rV s1011.v (cSl 3 fDPart r1008.2.o), rV s1001.v (cSl 3 fDPart r998.2.o), rV s996.v (cSl 3 fDPart r993.2.o), rV s972.v (cSl 3 fDPart r969.2.o), rV s940.v (cSl 3 fDPart r937.2.o), rV s927.v (cSl 3 fDPart c925.2.1), rV s914.v (cSl 3 fDPart r911.2.o)] _ := hM
                refine wl_nil ?_
                refine sq_n ?_
                refine wc_region ?_
                refine wv rfl (r_move rfl) ?_
                refine wv rfl (r_move rfl) ?_
                refine wv rfl (r_nilck rfl) ?_
                refine wv rfl (r_fld Try.underlying120 rfl rfl sz3 rfl) ?_
                refine wv rfl (r_ldB Try.underlying3 rfl rfl hM (.tail _ (.tail _ (.tail _ (.tail _ (.head _))))) rfl) ?_
                refine wv rfl (r_move rfl) ?_
                obtain ⟨hg1100, hx⟩ := xg_some hx
                refine wv rfl (r_add rfl rfl hg1100) ?_
                refine wv rfl (r_nilck rfl) ?_
                refine wv rfl (r_fld Try.underlying120 rfl rfl sz3 rfl) ?_
                replace hM := hM.p4
                refine w_exu (x_stB #[s1011.v, (.int .i64 r1008.2.at_), (.int .i64 (r1008.2.done + r1002))] sz3 rfl rfl rfl rfl rfl rfl hM ?_); intro w1103 hM
                refine wl_nil ?_
                refine bk_n ?_
                refine sq_n ?_
                refine wc_region ?_
                refine wv rfl (r_move rfl) ?_
                refine wv rfl (r_move rfl) ?_
                refine wv rfl (r_nilck rfl) ?_
                refine wv rfl (r_fld Try.underlying120 rfl rfl sz3 rfl) ?_
                refine wv rfl (r_ldB Try.underlying3 rfl rfl hM (.tail _ (.tail _ (.tail _ (.tail _ (.head _))))) rfl) ?_
                refine wv rfl (r_move rfl) ?_
                obtain ⟨hg1112, hx⟩ := xg_some hx
                refine wv rfl (r_add rfl rfl hg1112) ?_
                refine wv rfl (r_nilck rfl) ?_
                refine wv rfl (r_fld Try.underlying120 rfl rfl sz3 rfl) ?_
                replace hM := hM.p4
                refine w_exu (x_stB #[s1018.v, (.int .i64 r1015.2.at_), (.int .i64 (r1015.2.done + r1002))] sz3 rfl rfl rfl rfl rfl rfl hM ?_); intro w1115 hM
                refine wl_nil ?_
                refine bk_n ?_
                obtain rfl := Option.some.inj hx
                replace hM := hM.p4.p4.p4.p3.p4
                have hM := hM.fewer (rsC (.tail _ (.head _)) (rsC (.head _) rsN))
                replace hM : St ⟨w, X, S⟩ [oBox b867 #[s1011.v, (.int .i64 r1008.2.at_), (.int .i64 (r1008.2.done + r1002))] 120, oBox b874 #[s1018.v, (.int .i64 r1015.2.at_), (.int .i64 (r1015.2.done + r1002))] 120, oBox b880 #[s1091.v, s1092.v, (.int .i64 r1088.drop)] 123, oC (cSl 3 fDPart r1088.list) s1091.v, oC (cSl 1 fI r1088.put) s1092.v] [rV s1011.v (cSl 3 fDPart r1008.2.o), rV s1018.v (cSl 3 fDPart r1015.2.o)] _ := hM
                exact lp_end (m907, r1008.2.o, r1008.2.at_, r1008.2.done + r1002, r1015.2.o, r1015.2.at_, r1015.2.done + r1002, r1088.list, r1088.put, r1088.drop, s1011, s1018, s1091, s1092) (Nat.lt_succ_self _) ⟨rfl, rfl, rfl, trivial⟩ ⟨hM, hx909⟩
              · replace hx := xif_f hc1085 hx
                refine wc_seq ?_
                refine wc_region ?_
                refine wv rfl (r_move rfl) ?_
                refine wv rfl (r_move rfl) ?_
                replace hM := hM.p4.p4.p4
                obtain ⟨r1119, h1120, hx⟩ := bind_some' hx
                refine w_call rfl rfl (hM.callO (l := [oBox b880 #[s900.v, s902.v, (.int .i64 n896)] 123, oC (cSl 3 fDPart l894) s900.v, oC (cSl 1 fI l895) s902.v]) fun X S oL hS hR hO => ct_spec_l02Drop _ X S b880 (⟨l894, l895, n896⟩ : DL02B) s900 s902 r1002 hS  oL h1120) ?_
                rintro _ w1121 ⟨⟨s1122, s1123⟩, rfl, hM⟩
                replace hM : St ⟨w, X, S⟩ [oBox b880 #[s1122.v, s1123.v, (.int .i64 r1119.drop)] 123, oC (cSl 3 fDPart r1119.list) s1122.v, oC (cSl 1 fI r1119.put) s1123.v, oBox b874 #[s1018.v, (.int .i64 r1015.2.at_), (.int .i64 r1015.2.done)] 120, oBox b867 #[s1011.v, (.int .i64 r1008.2.at_), (.int .i64 r1008.2.done)] 120] [rV s1018.v (cSl 3 fDPart r1015.2.o), rV s1011.v (cSl 3 fDPart r1008.2.o), rV s1001.v (cSl 3 fDPart r998.2.o), rV s996.v (cSl 3 fDPart r993.2.o), rV s972.v (cSl 3 fDPart r969.2.o), rV s940.v (cSl 3 fDPart r937.2.o), rV s927.v (cSl 3 fDPart c925.2.1), rV s914.v (cSl 3 fDPart r911.2.o)] _ := hM
                refine wl_nil ?_
                refine sq_n ?_
                refine wc_region ?_
                refine wv rfl (r_move rfl) ?_
                refine wv rfl (r_move rfl) ?_
                refine wv rfl (r_nilck rfl) ?_
                refine wv rfl (r_fld Try.underlying120 rfl rfl sz3 rfl) ?_
                refine wv rfl (r_ldB Try.underlying3 rfl rfl hM (.tail _ (.tail _ (.tail _ (.tail _ (.head _))))) rfl) ?_
                refine wv rfl (r_move rfl) ?_
                obtain ⟨hg1131, hx⟩ := xg_some hx
                refine wv rfl (r_add rfl rfl hg1131) ?_
                refine wv rfl (r_nilck rfl) ?_
                refine wv rfl (r_fld Try.underlying120 rfl rfl sz3 rfl) ?_
                replace hM := hM.p4
                refine w_exu (x_stB #[s1011.v, (.int .i64 r1008.2.at_), (.int .i64 (r1008.2.done + r1002))] sz3 rfl rfl rfl rfl rfl rfl hM ?_); intro w1134 hM
                refine wl_nil ?_
                refine bk_n ?_
                refine sq_n ?_
                refine wc_region ?_
                refine wv rfl (r_move rfl) ?_
                refine wv rfl (r_move rfl) ?_
                refine wv rfl (r_nilck rfl) ?_
                refine wv rfl (r_fld Try.underlying120 rfl rfl sz3 rfl) ?_
                refine wv rfl (r_ldB Try.underlying3 rfl rfl hM (.tail _ (.tail _ (.tail _ (.tail _ (.head _))))) rfl) ?_
                refine wv rfl (r_move rfl) ?_
                obtain ⟨hg1143, hx⟩ := xg_some hx
                refine wv rfl (r_add rfl rfl hg1143) ?_
                refine wv rfl (r_nilck rfl) ?_
                refine wv rfl (r_fld Try.underlying120 rfl rfl sz3 rfl) ?_
                replace hM := hM.p4
                refine w_exu (x_stB #[s1018.v, (.int .i64 r1015.2.at_), (.int .i64 (r1015.2.done + r1002))] sz3 rfl rfl rfl rfl rfl rfl hM ?_); intro w1146 hM
                refine wl_nil ?_
                refine bk_n ?_
                obtain rfl := Option.some.inj hx
                replace hM := hM.p4.p4.p4.p3.p4
                have hM := hM.fewer (rsC (.tail _ (.head _)) (rsC (.head _) rsN))
                replace hM : St ⟨w, X, S⟩ [oBox b867 #[s1011.v, (.int .i64 r1008.2.at_), (.int .i64 (r1008.2.done + r1002))] 120, oBox b874 #[s1018.v, (.int .i64 r1015.2.at_), (.int .i64 (r1015.2.done + r1002))] 120, oBox b880 #[s1122.v, s1123.v, (.int .i64 r1119.drop)] 123, oC (cSl 3 fDPart r1119.list) s1122.v, oC (cSl 1 fI r1119.put) s1123.v] [rV s1011.v (cSl 3 fDPart r1008.2.o), rV s1018.v (cSl 3 fDPart r1015.2.o)] _ := hM
                exact lp_end (m907, r1008.2.o, r1008.2.at_, r1008.2.done + r1002, r1015.2.o, r1015.2.at_, r1015.2.done + r1002, r1119.list, r1119.put, r1119.drop, s1011, s1018, s1122, s1123) (Nat.lt_succ_self _) ⟨rfl, rfl, rfl, trivial⟩ ⟨hM, hx909⟩
    · replace hx := xif_f hc935 hx
      refine wc_exit ?_
      refine sq_exit ?_
      refine lp1_exit ?_
      obtain rfl := Option.some.inj hx
      obtain rfl := Option.some.inj hx909
      replace hx := hx885
      try dsimp only [Sum.elim_inl, Sum.elim_inr] at hx
      refine bk_here ?_
      refine sq_n ?_
      refine wc_seq ?_
      refine wc_region ?_
      refine wv rfl (r_move rfl) ?_
      replace hM := hM.p4.p4.p4
      obtain ⟨r1149, h1150, hx⟩ := bind_some' hx
      refine w_call rfl rfl (hM.callO (l := [oBox b880 #[s900.v, s902.v, (.int .i64 n896)] 123, oC (cSl 3 fDPart l894) s900.v, oC (cSl 1 fI l895) s902.v]) fun X S oL hS hR hO => ct_spec_l02Done _ X S b880 (⟨l894, l895, n896⟩ : DL02B) s900 s902 hS  oL h1150) ?_
      rintro _ w1151 ⟨⟨s1152, s1153, s1154⟩, rfl, hM⟩
      replace hM : St ⟨w, X, S⟩ [oC (cSl 3 fDPart r1149.1) s1152.v, oBox b880 #[s1153.v, s1154.v, (.int .i64 r1149.2.drop)] 123, oC (cSl 1 fI r1149.2.put) s1154.v, oBox b867 #[s914.v, (.int .i64 r911.2.at_), (.int .i64 r911.2.done)] 120, oBox b874 #[s927.v, (.int .i64 c925.2.2.1), (.int .i64 c925.2.2.2)] 120] [rV s927.v (cSl 3 fDPart c925.2.1), rV s914.v (cSl 3 fDPart r911.2.o)] _ := hM
      refine wv rfl (r_assign rfl) ?_
      refine wl_nil ?_
      refine sq_n ?_
      refine wc_seq ?_
      refine wc_seq ?_
      refine wc_region ?_
      refine wv rfl (r_move rfl) ?_
      obtain ⟨r1158, h1159, hx⟩ := bind_some' hx
      refine w_call rfl rfl (hM.callV fun X S oL hS hR hO => ct_spec_OpOk _ X S r1149.1 s1152 hS (seeA hO (.head _)) oL h1159) ?_
      rintro _ w1160 ⟨rfl, hR1161⟩
      have hM := hM.call hR1161
      refine wv rfl (r_not rfl) ?_
      refine wl_nil ?_
      refine sq_n ?_
      refine wc_cond rfl (fun hc1163 => ?_) (fun hc1163 => ?_)
      · replace hx := xif_t hc1163 hx
        refine wc_seq ?_
        refine wc_region ?_
        refine wv rfl (r_assign rfl) ?_
        refine wv rfl (r_assign rfl) ?_
        refine wl_nil ?_
        refine sq_n ?_
        refine wc_ret ?_
        refine sq_ret ?_
        obtain rfl := Option.some.inj hx
        have hM := hM.nil0 (T := DPart) 3 fDPart
        refine fin_ret [nS.v, (.bool false)] ⟨rfl, rfl, trivial⟩ ?_
        replace hM := hM.t1
        have hM := hM.fewer rsN
        exact ⟨nS, rfl, hM.gives⟩
      · replace hx := xif_f hc1163 hx
        refine wc_skip ?_
        refine sq_n ?_
        refine wc_seq ?_
        refine wc_region ?_
        refine wv rfl (r_move rfl) ?_
        refine wv rfl (r_assign rfl) ?_
        refine wv rfl (r_assign rfl) ?_
        refine wl_nil ?_
        refine sq_n ?_
        refine wc_ret ?_
        obtain rfl := Option.some.inj hx
        refine fin_ret [s1152.v, (.bool true)] ⟨rfl, rfl, trivial⟩ ?_
        replace hM := hM.t1
        have hM := hM.fewer rsN
        exact ⟨s1152, rfl, hM.gives⟩

noncomputable def x_impl_Transform_b0 (x259 : List DPart) (y260 : List DPart) (l261 : List DPart) (l262 : List DPart) : Option (Lr (List DPart × List DPart × List DPart × List DPart) (List DPart × List DPart)) :=
  Option.bind (x_impl_rest_next (⟨l261⟩ : DRest)) fun r462 => Option.bind (bif !decide (r462.1.kind = 0) then (some (true, l262)) else (Option.bind (x_impl_rest_next (⟨l262⟩ : DRest)) fun r482 => some (!decide (r482.1.kind = 0), r482.2.parts))) fun (c480 : Bool × List DPart) => bif c480.1 then (Option.bind (x_impl_rest_next r462.2) fun r491 => bif decide (r491.1.kind = 2) then (Option.bind (x_impl_rest_whole r491.2) fun r500 => xg (x259.length < 1099511627776) <| xg (y260.length < 1099511627776) <| some (Lr.go (x259 ++ [r500.1], y260 ++ [(⟨1, (r500.1.signs.length : Int), []⟩ : DPart)], r500.2.parts, c480.2))) else (Option.bind (x_impl_rest_next (⟨c480.2⟩ : DRest)) fun r531 => bif decide (r531.1.kind = 2) then (Option.bind (x_impl_rest_whole r531.2) fun r540 => xg (x259.length < 1099511627776) <| xg (y260.length < 1099511627776) <| some (Lr.go (x259 ++ [(⟨1, (r540.1.signs.length : Int), []⟩ : DPart)], y260 ++ [r540.1], r491.2.parts, r540.2.parts))) else (Option.bind (x_impl_rest_next r491.2) fun r571 => Option.bind (x_impl_size r571.1) fun r576 => Option.bind (x_impl_rest_next r531.2) fun r581 => Option.bind (x_impl_size r581.1) fun r586 => Option.bind (x_impl_rest_take r571.2 (min r576 r586)) fun r594 => Option.bind (x_impl_rest_take r581.2 (min r576 r586)) fun r601 => bif decide (r601.1.kind = 1) then (xg (x259.length < 1099511627776) <| bif decide (r594.1.kind = 1) then (xg (y260.length < 1099511627776) <| some (Lr.go (x259 ++ [r594.1], y260 ++ [r601.1], r594.2.parts, r601.2.parts))) else (some (Lr.go (x259 ++ [r594.1], y260, r594.2.parts, r601.2.parts)))) else (bif decide (r594.1.kind = 1) then (xg (y260.length < 1099511627776) <| some (Lr.go (x259, y260 ++ [r601.1], r594.2.parts, r601.2.parts))) else (some (Lr.go (x259, y260, r594.2.parts, r601.2.parts))))))) else (some (Lr.out (x259, y260)))
noncomputable def x_impl_Transform_f0 (s651 : List DPart × List DPart × List DPart × List DPart) : Option (Lr (List DPart × List DPart × List DPart × List DPart) (List DPart × List DPart)) := x_impl_Transform_b0 s651.1 s651.2.1 s651.2.2.1 s651.2.2.2
noncomputable def x_impl_Transform (a : List DPart) (b : List DPart) : Option (List DPart × List DPart × Bool) :=
  Option.bind (x_impl_OpOk a) fun r5 => Option.bind (bif !r5 then (some true) else (Option.bind (x_impl_OpOk b) fun r20 => some (!r20))) fun c11 => Option.bind (bif c11 then (some true) else (Option.bind (x_impl_OpFrom a) fun r40 => Option.bind (x_impl_OpFrom b) fun r45 => some (!decide (r40 = r45)))) fun c26 => bif c26 then (some ([], [], false)) else (Option.bind (iter (x_impl_Transform_f0) ([], [], a, b)) fun (y652 : List DPart × List DPart) => Option.bind (x_impl_normal y652.1) fun r660 => Option.bind (x_impl_normal y652.2) fun r666 => Option.bind (x_impl_OpOk r660) fun r674 => Option.bind (bif !r674 then (some true) else (Option.bind (x_impl_OpOk r666) fun r689 => some (!r689))) fun c680 => bif c680 then (some ([], [], false)) else (some (r660, r666, true)))
theorem ct_impl_Transform (w : World) (X S : Bs) (a : List DPart) (s_a : Sv) (b : List DPart) (s_b : Sv) (hS : ∀ b, S b → b < w.heap.size ∧ ¬ X b) (a_a_0 : (cSl 3 fDPart a).rd S w s_a.v) (a_b_0 : (cSl 3 fDPart b).rd S w s_b.v) (oL : Sep [] X w) {r : List DPart × List DPart × Bool} (hx : x_impl_Transform a b = some r) :
    Ret Try.prog 21 [s_a.v, s_b.v] w (fun u w' => ∃ y : Sv × Sv, u = .tuple #[y.1.v, y.2.v, (.bool r.2.2)] ∧ Gives X S w [oC (cSl 3 fDPart r.1) y.1.v, oC (cSl 3 fDPart r.2.1) y.2.v] [] w') := by
  unfold x_impl_Transform at hx
  refine enter Try.func21 rfl Try.ntmps21 (by kernel_rfl) rfl ?_
  have hM := St.enter oL hS
  have hM := hM.addE (r := rV s_a.v (cSl 3 fDPart a)) a_a_0
  have hM := hM.addE (r := rV s_b.v (cSl 3 fDPart b)) a_b_0
  refine wc_seq ?_
  refine wc_region ?_
  refine wv rfl (r_assign rfl) ?_
  refine wv rfl (r_assign rfl) ?_
  refine wv rfl (r_assign rfl) ?_
  refine wl_nil ?_
  refine sq_n ?_
  refine wc_seq ?_
  refine wc_seq ?_
  refine wc_region ?_
  refine wv rfl (r_move rfl) ?_
  obtain ⟨r706, h707, hx⟩ := bind_some' hx
  refine w_call rfl rfl (hM.callV fun X S oL hS hR hO => ct_impl_OpOk _ X S a s_a hS (hR _ (.tail _ (.head _))) oL h707) ?_
  rintro _ w708 ⟨rfl, hR709⟩
  have hM := hM.call hR709
  refine wv rfl (r_not rfl) ?_
  refine wv rfl (r_move rfl) ?_
  obtain ⟨c712, hx, hx720⟩ := bind_some' hx
  refine wl_mid 4 (fun _ : Unit => [(23, (.bool c712)), (0, s_a.v), (1, s_b.v)]) (fun _ w' => St ⟨w, X, S⟩ [] [rV s_b.v (cSl 3 fDPart b), rV s_a.v (cSl 3 fDPart a)] w') ?_ ?_
  · rcases Bool.eq_false_or_eq_true (!r706) with hg713 | hg713
    · replace hx := xif_t hg713 hx
      refine gs rfl (isB_no hg713) rfl ?_
      refine gs rfl (isB_no hg713) rfl ?_
      refine gs rfl (isB_no hg713) rfl ?_
      refine wv rfl (p_t rfl hg713 rfl) ?_
      obtain rfl := Option.some.inj hx
      exact mid_nil () ⟨rfl, rfl, rfl, trivial⟩ hM
    · replace hx := xif_f hg713 hx
      refine gv rfl hg713 rfl (r_move rfl) ?_
      obtain ⟨r722, h723, hx⟩ := bind_some' hx
      refine gc rfl hg713 rfl rfl (hM.callV fun X S oL hS hR hO => ct_impl_OpOk _ X S b s_b hS (hR _ (.head _)) oL h723) ?_
      rintro _ w724 ⟨rfl, hR725⟩
      have hM := hM.call hR725
      refine gv rfl hg713 rfl (r_not rfl) ?_
      refine wv rfl (p_f rfl hg713 rfl) ?_
      obtain rfl := Option.some.inj hx
      exact mid_nil () ⟨rfl, rfl, rfl, trivial⟩ hM
  rintro _ w727 hM
  replace hx := hx720
  refine wv rfl (r_move rfl) ?_
  obtain ⟨c729, hx, hx742⟩ := bind_some' hx
  refine wl_mid 6 (fun _ : Unit => [(30, (.bool c729)), (0, s_a.v), (1, s_b.v)]) (fun _ w' => St ⟨w, X, S⟩ [] [rV s_b.v (cSl 3 fDPart b), rV s_a.v (cSl 3 fDPart a)] w') ?_ ?_
  · rcases Bool.eq_false_or_eq_true c712 with hg730 | hg730
    · replace hx := xif_t hg730 hx
      refine gs rfl (isB_no hg730) rfl ?_
      refine gs rfl (isB_no hg730) rfl ?_
      refine gs rfl (isB_no hg730) rfl ?_
      refine gs rfl (isB_no hg730) rfl ?_
      refine gs rfl (isB_no hg730) rfl ?_
      refine wv rfl (p_t rfl hg730 rfl) ?_
      obtain rfl := Option.some.inj hx
      exact mid_nil () ⟨rfl, rfl, rfl, trivial⟩ hM
    · replace hx := xif_f hg730 hx
      refine gv rfl hg730 rfl (r_move rfl) ?_
      obtain ⟨r744, h745, hx⟩ := bind_some' hx
      refine gc rfl hg730 rfl rfl (hM.callV fun X S oL hS hR hO => ct_impl_OpFrom _ X S a s_a hS (hR _ (.tail _ (.head _))) oL h745) ?_
      rintro _ w746 ⟨rfl, hR747⟩
      have hM := hM.call hR747
      refine gv rfl hg730 rfl (r_move rfl) ?_
      obtain ⟨r749, h750, hx⟩ := bind_some' hx
      refine gc rfl hg730 rfl rfl (hM.callV fun X S oL hS hR hO => ct_impl_OpFrom _ X S b s_b hS (hR _ (.head _)) oL h750) ?_
      rintro _ w751 ⟨rfl, hR752⟩
      have hM := hM.call hR752
      refine gv rfl hg730 rfl (r_neq rfl rfl) ?_
      refine wv rfl (p_f rfl hg730 rfl) ?_
      obtain rfl := Option.some.inj hx
      exact mid_nil () ⟨rfl, rfl, rfl, trivial⟩ hM
  rintro _ w754 hM
  replace hx := hx742
  refine wl_nil ?_
  refine sq_n ?_
  refine wc_cond rfl (fun hc755 => ?_) (fun hc755 => ?_)
  · replace hx := xif_t hc755 hx
    refine wc_seq ?_
    refine wc_region ?_
    refine wv rfl (r_assign rfl) ?_
    refine wv rfl (r_assign rfl) ?_
    refine wv rfl (r_assign rfl) ?_
    refine wl_nil ?_
    refine sq_n ?_
    refine wc_ret ?_
    refine sq_ret ?_
    obtain rfl := Option.some.inj hx
    have hM := hM.nil0 (T := DPart) 3 fDPart
    have hM := hM.nil0 (T := DPart) 3 fDPart
    refine fin_ret [nS.v, nS.v, (.bool false)] ⟨rfl, rfl, rfl, trivial⟩ ?_
    replace hM := hM.p1
    replace hM := hM.t2
    have hM := hM.fewer rsN
    exact ⟨(nS, nS), rfl, hM.gives⟩
  · replace hx := xif_f hc755 hx
    refine wc_skip ?_
    refine sq_n ?_
    refine wc_seq ?_
    refine wc_region ?_
    refine wv rfl (r_move rfl) ?_
    refine wv rfl (r_build (cells := #[s_a.v]) rfl (by kernel_rfl)) ?_
    refine w_ex rfl (x_box rfl hM ?_); intro b764 w763 hR765 hM
    replace hM : St ⟨w, X, S⟩ [oBox b764 #[s_a.v] 89] [rV s_b.v (cSl 3 fDPart b), rV s_a.v (cSl 3 fDPart a)] _ := hM
    refine wv rfl (r_move rfl) ?_
    refine wv rfl (r_build (cells := #[s_b.v]) rfl (by kernel_rfl)) ?_
    refine w_ex rfl (x_box rfl hM ?_); intro b770 w769 hR771 hM
    replace hM : St ⟨w, X, S⟩ [oBox b770 #[s_b.v] 89, oBox b764 #[s_a.v] 89] [rV s_b.v (cSl 3 fDPart b), rV s_a.v (cSl 3 fDPart a)] _ := hM
    refine wv rfl (r_assign rfl) ?_
    refine wv rfl (r_assign rfl) ?_
    refine wl_nil ?_
    refine sq_n ?_
    refine wc_seq ?_
    refine wc_region ?_
    refine wv rfl (r_assign rfl) ?_
    refine wv rfl (r_assign rfl) ?_
    refine wl_nil ?_
    refine sq_n ?_
    refine wc_seq ?_
    refine wc_block ?_
    obtain ⟨y777, hx, hx778⟩ := bind_some' hx
    have hM := hM.nilS0 (T := DPart) 3 fDPart
    have hM := hM.nilS0 (T := DPart) 3 fDPart
    replace hM := hM.p1.p2.p3
    have hM := hM.fewer (rsC (.head _) (rsC (.head _) (rsC (.tail _ (.tail _ (.tail _ (.head _)))) (rsC (.tail _ (.tail _ (.head _))) rsN))))
    replace hM : St ⟨w, X, S⟩ [oBox b764 #[s_a.v] 89, oBox b770 #[s_b.v] 89, oRow 3 nS.v ([] : List DPart).length ([] : List Value), oRow 3 nS.v ([] : List DPart).length ([] : List Value)] [rX ([] : List Value) (([] : List DPart).flatMap fDPart), rX ([] : List Value) (([] : List DPart).flatMap fDPart), rV s_a.v (cSl 3 fDPart a), rV s_b.v (cSl 3 fDPart b)] _ := hM
    obtain ⟨m795, hx⟩ := iter_run hx
    refine wc_loop (un fun (m793 : Nat) => un fun (x781 : List DPart) => un fun (y782 : List DPart) => un fun (l783 : List DPart) => un fun (l784 : List DPart) => un fun (s786 : Sv) => un fun (xs787 : List Value) => un fun (s789 : Sv) => un fun (xs790 : List Value) => un fun (s791 : Sv) => fun (s792 : Sv) => [(7, (.pointer (some ⟨b764, 0, none⟩))), (8, (.pointer (some ⟨b770, 0, none⟩))), (9, s786.v), (10, s789.v)]) (un fun (m793 : Nat) => un fun (x781 : List DPart) => un fun (y782 : List DPart) => un fun (l783 : List DPart) => un fun (l784 : List DPart) => un fun (s786 : Sv) => un fun (xs787 : List Value) => un fun (s789 : Sv) => un fun (xs790 : List Value) => un fun (s791 : Sv) => fun (s792 : Sv) w' => St ⟨w, X, S⟩ [oBox b764 #[s791.v] 89, oBox b770 #[s792.v] 89, oRow 3 s786.v x781.length xs787, oRow 3 s789.v y782.length xs790] [rX xs787 (x781.flatMap fDPart), rX xs790 (y782.flatMap fDPart), rV s791.v (cSl 3 fDPart l783), rV s792.v (cSl 3 fDPart l784)] w' ∧ iterN _ m793 (x781, y782, l783, l784) = some y777) (fun p => p.1) (m795, [], [], a, b, nS, ([] : List Value), nS, ([] : List Value), s_a, s_b) ⟨rfl, rfl, rfl, rfl, trivial⟩ ⟨hM, hx⟩ ?_
    rintro ⟨m793, x781, y782, l783, l784, s786, xs787, s789, xs790, s791, s792⟩ w796 ⟨hM, hx⟩
    obtain ⟨m797, z798, rfl, hx, hx799⟩ := iterN_step hx
    unfold x_impl_Transform_f0 x_impl_Transform_b0 at hx
    try dsimp only at hx
    refine wc_seq ?_
    refine wc_seq ?_
    refine wc_region ?_
    refine wv rfl (r_move rfl) ?_
    obtain ⟨r801, h802, hx⟩ := bind_some' hx
    refine w_call rfl rfl (hM.callR (l := [oBox b764 #[s791.v] 89]) fun X S oL hS hR => ct_impl_rest_next _ X S b764 (⟨l783⟩ : DRest) s791 hS (hR _ (.tail _ (.tail _ (.head _)))) oL h802) ?_
    rintro _ w803 ⟨⟨s804, s805⟩, rfl, hM⟩
    replace hM : St ⟨w, X, S⟩ [oBox b764 #[s805.v] 89, oBox b770 #[s792.v] 89, oRow 3 s786.v x781.length xs787, oRow 3 s789.v y782.length xs790] [rV s804.v (cSl 1 fI r801.1.signs), rV s805.v (cSl 3 fDPart r801.2.parts), rX xs787 (x781.flatMap fDPart), rX xs790 (y782.flatMap fDPart), rV s791.v (cSl 3 fDPart l783), rV s792.v (cSl 3 fDPart l784)] _ := hM
    refine wv rfl (r_field Try.underlying77 rfl rfl (ag_int Try.underlying3) rfl) ?_
    refine wv rfl (r_neq rfl rfl) ?_
    refine wv rfl (r_move rfl) ?_
    obtain ⟨c819, hx, hx820⟩ := bind_some' hx
    refine wl_mid 5 (fun (s821 : Sv) => [(7, (.pointer (some ⟨b764, 0, none⟩))), (8, (.pointer (some ⟨b770, 0, none⟩))), (9, s786.v), (10, s789.v), (46, (.bool c819.1))]) (fun (s821 : Sv) w' => St ⟨w, X, S⟩ [oBox b764 #[s805.v] 89, oBox b770 #[s821.v] 89, oRow 3 s786.v x781.length xs787, oRow 3 s789.v y782.length xs790] [rX xs787 (x781.flatMap fDPart), rX xs790 (y782.flatMap fDPart), rV s821.v (cSl 3 fDPart c819.2), rV s805.v (cSl 3 fDPart r801.2.parts)] w') ?_ ?_
    · rcases Bool.eq_false_or_eq_true (!decide (r801.1.kind = 0)) with hg810 | hg810
      · replace hx := xif_t hg810 hx
        refine gs rfl (isB_no hg810) rfl ?_
        refine gs rfl (isB_no hg810) rfl ?_
        refine gs rfl (isB_no hg810) rfl ?_
        refine gs rfl (isB_no hg810) rfl ?_
        refine wv rfl (p_t rfl hg810 rfl) ?_
        obtain rfl := Option.some.inj hx
        have hM := hM.fewer (rsC (.tail _ (.tail _ (.head _))) (rsC (.tail _ (.tail _ (.tail _ (.head _)))) (rsC (.tail _ (.tail _ (.tail _ (.tail _ (.tail _ (.head _)))))) (rsC (.tail _ (.head _)) rsN))))
        replace hM : St ⟨w, X, S⟩ [oBox b764 #[s805.v] 89, oBox b770 #[s792.v] 89, oRow 3 s786.v x781.length xs787, oRow 3 s789.v y782.length xs790] [rX xs787 (x781.flatMap fDPart), rX xs790 (y782.flatMap fDPart), rV s792.v (cSl 3 fDPart l784), rV s805.v (cSl 3 fDPart r801.2.parts)] _ := hM
        exact mid_nil s792 ⟨rfl, rfl, rfl, rfl, rfl, trivial⟩ hM
      · replace hx := xif_f hg810 hx
        refine gv rfl hg810 rfl (r_move rfl) ?_
        replace hM := hM.p1
        obtain ⟨r823, h824, hx⟩ := bind_some' hx
        refine gc rfl hg810 rfl rfl (hM.callR (l := [oBox b770 #[s792.v] 89]) fun X S oL hS hR => ct_impl_rest_next _ X S b770 (⟨l784⟩ : DRest) s792 hS (hR _ (.tail _ (.tail _ (.tail _ (.tail _ (.tail _ (.head _))))))) oL h824) ?_
        rintro _ w825 ⟨⟨s826, s827⟩, rfl, hM⟩
        replace hM : St ⟨w, X, S⟩ [oBox b770 #[s827.v] 89, oBox b764 #[s805.v] 89, oRow 3 s786.v x781.length xs787, oRow 3 s789.v y782.length xs790] [rV s826.v (cSl 1 fI r823.1.signs), rV s827.v (cSl 3 fDPart r823.2.parts), rV s804.v (cSl 1 fI r801.1.signs), rV s805.v (cSl 3 fDPart r801.2.parts), rX xs787 (x781.flatMap fDPart), rX xs790 (y782.flatMap fDPart), rV s791.v (cSl 3 fDPart l783), rV s792.v (cSl 3 fDPart l784)] _ := hM
        refine gv rfl hg810 rfl (r_field Try.underlying77 rfl rfl (ag_int Try.underlying3) rfl) ?_
        refine gv rfl hg810 rfl (r_neq rfl rfl) ?_
        refine wv rfl (p_f rfl hg810 rfl) ?_
        obtain rfl := Option.some.inj hx
        replace hM := hM.p3.p3.p2.p3
        have hM := hM.fewer (rsC (.tail _ (.tail _ (.tail _ (.tail _ (.head _))))) (rsC (.tail _ (.tail _ (.tail _ (.tail _ (.tail _ (.head _)))))) (rsC (.tail _ (.head _)) (rsC (.tail _ (.tail _ (.tail _ (.head _)))) rsN))))
        replace hM : St ⟨w, X, S⟩ [oBox b764 #[s805.v] 89, oBox b770 #[s827.v] 89, oRow 3 s786.v x781.length xs787, oRow 3 s789.v y782.length xs790] [rX xs787 (x781.flatMap fDPart), rX xs790 (y782.flatMap fDPart), rV s827.v (cSl 3 fDPart r823.2.parts), rV s805.v (cSl 3 fDPart r801.2.parts)] _ := hM
        exact mid_nil s827 ⟨rfl, rfl, rfl, rfl, rfl, trivial⟩ hM
    rintro s821 w830 hM
    replace hx := hx820
    refine wl_nil ?_
    refine sq_n ?_
    refine wc_cond rfl (fun hc831 => ?_) (fun hc831 => ?_)
    · replace hx := xif_t hc831 hx
      refine wc_skip ?_
      refine sq_n ?_
      refine wc_block ?_
      refine wc_block ?_
      refine wc_seq ?_
      refine wc_region ?_
      refine wv rfl (r_move rfl) ?_
      obtain ⟨r833, h834, hx⟩ := bind_some' hx
      refine w_call rfl rfl (hM.callR (l := [oBox b764 #[s805.v] 89]) fun X S oL hS hR => ct_impl_rest_next _ X S b764 r801.2 s805 hS (hR _ (.tail _ (.tail _ (.tail _ (.head _))))) oL h834) ?_
      rintro _ w835 ⟨⟨s836, s837⟩, rfl, hM⟩
      replace hM : St ⟨w, X, S⟩ [oBox b764 #[s837.v] 89, oBox b770 #[s821.v] 89, oRow 3 s786.v x781.length xs787, oRow 3 s789.v y782.length xs790] [rV s836.v (cSl 1 fI r833.1.signs), rV s837.v (cSl 3 fDPart r833.2.parts), rX xs787 (x781.flatMap fDPart), rX xs790 (y782.flatMap fDPart), rV s821.v (cSl 3 fDPart c819.2), rV s805.v (cSl 3 fDPart r801.2.parts)] _ := hM
      refine wv rfl (r_field Try.underlying77 rfl rfl (ag_int Try.underlying3) rfl) ?_
      refine wv rfl (r_eql rfl rfl) ?_
      refine wv rfl (r_assign rfl) ?_
      refine wl_nil ?_
      refine sq_n ?_
      refine wc_cond rfl (fun hc841 => ?_) (fun hc841 => ?_)
      · replace hx := xif_t hc841 hx
        refine wc_seq ?_
        refine wc_region ?_
        refine wv rfl (r_move rfl) ?_
        obtain ⟨r843, h844, hx⟩ := bind_some' hx
        refine w_call rfl rfl (hM.callR (l := [oBox b764 #[s837.v] 89]) fun X S oL hS hR => ct_impl_rest_whole _ X S b764 r833.2 s837 hS (hR _ (.tail _ (.head _))) oL h844) ?_
        rintro _ w845 ⟨⟨s846, s847⟩, rfl, hM⟩
        replace hM : St ⟨w, X, S⟩ [oBox b764 #[s847.v] 89, oBox b770 #[s821.v] 89, oRow 3 s786.v x781.length xs787, oRow 3 s789.v y782.length xs790] [rV s846.v (cSl 1 fI r843.1.signs), rV s847.v (cSl 3 fDPart r843.2.parts), rV s836.v (cSl 1 fI r833.1.signs), rV s837.v (cSl 3 fDPart r833.2.parts), rX xs787 (x781.flatMap fDPart), rX xs790 (y782.flatMap fDPart), rV s821.v (cSl 3 fDPart c819.2), rV s805.v (cSl 3 fDPart r801.2.parts)] _ := hM
        refine w_ex rfl (x_alloc sz77 hM ?_); intro b849 w848 hR850 hM
        replace hM : St ⟨w, X, S⟩ [oBox b849 #[(.int .i64 0), (.int .i64 0), (.slice none 0 0)] 77, oBox b764 #[s847.v] 89, oBox b770 #[s821.v] 89, oRow 3 s786.v x781.length xs787, oRow 3 s789.v y782.length xs790] [rV s846.v (cSl 1 fI r843.1.signs), rV s847.v (cSl 3 fDPart r843.2.parts), rV s836.v (cSl 1 fI r833.1.signs), rV s837.v (cSl 3 fDPart r833.2.parts), rX xs787 (x781.flatMap fDPart), rX xs790 (y782.flatMap fDPart), rV s821.v (cSl 3 fDPart c819.2), rV s805.v (cSl 3 fDPart r801.2.parts)] _ := hM
        refine w_exu (x_stB #[(.int .i64 r843.1.kind), (.int .i64 r843.1.n), s846.v] sz77 rfl rfl rfl rfl rfl rfl hM ?_); intro w852 hM
        refine wl_nil ?_
        refine sq_n ?_
        refine wc_seq ?_
        refine wc_region ?_
        refine wv rfl (r_move rfl) ?_
        refine wv rfl (r_ldBS Try.underlying77 sz77 rfl (us := [(.int .i64 r843.1.kind), (.int .i64 r843.1.n), s846.v]) rfl hM (.head _) rfl) ?_
        replace hM := hM.p3
        obtain ⟨hg859, hx⟩ := xg_some hx
        refine w_pushS (f := fDPart) (L := x781) r843.1 rfl rfl Try.underlying29 sz77 rfl rfl rfl (fun _ => rfl) hM (.tail _ (.tail _ (.tail _ (.tail _ (.head _))))) (fun S w hR => ⟨_, _, rfl, rfl, ⟨_, _, rfl, rfl, ⟨_, _, rfl, hR _ (.head _), rfl⟩⟩⟩) rfl hg859 rfl ?_; intro u857 s858 xs860 w856 hM
        refine wv rfl (r_assign rfl) ?_
        refine wl_nil ?_
        refine sq_n ?_
        refine wc_region ?_
        refine wv rfl (r_move rfl) ?_
        refine wv rfl (r_fld Try.underlying77 rfl rfl sz26 rfl) ?_
        refine wv rfl (r_ldB Try.underlying26 rfl rfl hM (.tail _ (.head _)) rfl) ?_
        refine wv rfl (r_lenC Try.underlying26 rfl (hM.seeR (.tail _ (.head _)))) ?_
        refine wv rfl (r_build (cells := #[(.int .i64 1), (.int .i64 (r843.1.signs.length : Int)), (.slice none 0 0)]) rfl (by kernel_rfl)) ?_
        replace hM := hM.p4
        obtain ⟨hg870, hx⟩ := xg_some hx
        refine w_pushS (f := fDPart) (L := y782) (⟨1, (r843.1.signs.length : Int), []⟩ : DPart) rfl rfl Try.underlying29 sz77 rfl rfl rfl (fun _ => rfl) hM (.tail _ (.tail _ (.tail _ (.tail _ (.tail _ (.tail _ (.head _))))))) (fun S w hR => ⟨_, _, rfl, rfl, ⟨_, _, rfl, rfl, ⟨_, _, rfl, rd_nil _ _, rfl⟩⟩⟩) rfl hg870 rfl ?_; intro u868 s869 xs871 w867 hM
        refine wv rfl (r_assign rfl) ?_
        refine wl_nil ?_
        refine bk_n ?_
        refine bk_n ?_
        obtain rfl := Option.some.inj hx
        replace hM := hM.p1.p4.p4
        replace hM := hM.t4
        have hM := hM.fewer (rsC (.tail _ (.head _)) (rsC (.head _) (rsC (.tail _ (.tail _ (.tail _ (.head _)))) (rsC (.tail _ (.tail _ (.tail _ (.tail _ (.tail _ (.tail _ (.tail _ (.tail _ (.head _))))))))) rsN))))
        replace hM : St ⟨w, X, S⟩ [oBox b764 #[s847.v] 89, oBox b770 #[s821.v] 89, oRow 3 s858.v (x781 ++ [r843.1]).length xs860, oRow 3 s869.v (y782 ++ [(⟨1, (r843.1.signs.length : Int), []⟩ : DPart)]).length xs871] [rX xs860 ((x781 ++ [r843.1]).flatMap fDPart), rX xs871 ((y782 ++ [(⟨1, (r843.1.signs.length : Int), []⟩ : DPart)]).flatMap fDPart), rV s847.v (cSl 3 fDPart r843.2.parts), rV s821.v (cSl 3 fDPart c819.2)] _ := hM
        exact lp_end (m797, x781 ++ [r843.1], y782 ++ [(⟨1, (r843.1.signs.length : Int), []⟩ : DPart)], r843.2.parts, c819.2, s858, xs860, s869, xs871, s847, s821) (Nat.lt_succ_self _) ⟨rfl, rfl, rfl, rfl, trivial⟩ ⟨hM, hx799⟩
      · replace hx := xif_f hc841 hx
        refine wc_seq ?_
        refine wc_region ?_
        refine wv rfl (r_move rfl) ?_
        replace hM := hM.p1
        obtain ⟨r874, h875, hx⟩ := bind_some' hx
        refine w_call rfl rfl (hM.callR (l := [oBox b770 #[s821.v] 89]) fun X S oL hS hR => ct_impl_rest_next _ X S b770 (⟨c819.2⟩ : DRest) s821 hS (hR _ (.tail _ (.tail _ (.tail _ (.tail _ (.head _)))))) oL h875) ?_
        rintro _ w876 ⟨⟨s877, s878⟩, rfl, hM⟩
        replace hM : St ⟨w, X, S⟩ [oBox b770 #[s878.v] 89, oBox b764 #[s837.v] 89, oRow 3 s786.v x781.length xs787, oRow 3 s789.v y782.length xs790] [rV s877.v (cSl 1 fI r874.1.signs), rV s878.v (cSl 3 fDPart r874.2.parts), rV s836.v (cSl 1 fI r833.1.signs), rV s837.v (cSl 3 fDPart r833.2.parts), rX xs787 (x781.flatMap fDPart), rX xs790 (y782.flatMap fDPart), rV s821.v (cSl 3 fDPart c819.2), rV s805.v (cSl 3 fDPart r801.2.parts)] _ := hM
        refine wv rfl (r_field Try.underlying77 rfl rfl (ag_int Try.underlying3) rfl) ?_
        refine wv rfl (r_eql rfl rfl) ?_
        refine wv rfl (r_assign rfl) ?_
        refine wl_nil ?_
        refine sq_n ?_
        refine wc_cond rfl (fun hc882 => ?_) (fun hc882 => ?_)
        · replace hx := xif_t hc882 hx
          refine wc_seq ?_
          refine wc_region ?_
          refine wv rfl (r_move rfl) ?_
          obtain ⟨r884, h885, hx⟩ := bind_some' hx
          refine w_call rfl rfl (hM.callR (l := [oBox b770 #[s878.v] 89]) fun X S oL hS hR => ct_impl_rest_whole _ X S b770 r874.2 s878 hS (hR _ (.tail _ (.head _))) oL h885) ?_
          rintro _ w886 ⟨⟨s887, s888⟩, rfl, hM⟩
          replace hM : St ⟨w, X, S⟩ [oBox b770 #[s888.v] 89, oBox b764 #[s837.v] 89, oRow 3 s786.v x781.length xs787, oRow 3 s789.v y782.length xs790] [rV s887.v (cSl 1 fI r884.1.signs), rV s888.v (cSl 3 fDPart r884.2.parts), rV s877.v (cSl 1 fI r874.1.signs), rV s878.v (cSl 3 fDPart r874.2.parts), rV s836.v (cSl 1 fI r833.1.signs), rV s837.v (cSl 3 fDPart r833.2.parts), rX xs787 (x781.flatMap fDPart), rX xs790 (y782.flatMap fDPart), rV s821.v (cSl 3 fDPart c819.2), rV s805.v (cSl 3 fDPart r801.2.parts)] _ := hM
          refine w_ex rfl (x_alloc sz77 hM ?_); intro b890 w889 hR891 hM
          replace hM : St ⟨w, X, S⟩ [oBox b890 #[(.int .i64 0), (.int .i64 0), (.slice none 0 0)] 77, oBox b770 #[s888.v] 89, oBox b764 #[s837.v] 89, oRow 3 s786.v x781.length xs787, oRow 3 s789.v y782.length xs790] [rV s887.v (cSl 1 fI r884.1.signs), rV s888.v (cSl 3 fDPart r884.2.parts), rV s877.v (cSl 1 fI r874.1.signs), rV s878.v (cSl 3 fDPart r874.2.parts), rV s836.v (cSl 1 fI r833.1.signs), rV s837.v (cSl 3 fDPart r833.2.parts), rX xs787 (x781.flatMap fDPart), rX xs790 (y782.flatMap fDPart), rV s821.v (cSl 3 fDPart c819.2), rV s805.v (cSl 3 fDPart r801.2.parts)] _ := hM
          refine w_exu (x_stB #[(.int .i64 r884.1.kind), (.int .i64 r884.1.n), s887.v] sz77 rfl rfl rfl rfl rfl rfl hM ?_); intro w893 hM
          refine wl_nil ?_
          refine sq_n ?_
          refine wc_seq ?_
          refine wc_region ?_
          refine wv rfl (r_move rfl) ?_
          refine wv rfl (r_fld Try.underlying77 rfl rfl sz26 rfl) ?_
          refine wv rfl (r_ldB Try.underlying26 rfl rfl hM (.head _) rfl) ?_
          refine wv rfl (r_lenC Try.underlying26 rfl (hM.seeR (.head _))) ?_
          refine wv rfl (r_build (cells := #[(.int .i64 1), (.int .i64 (r884.1.signs.length : Int)), (.slice none 0 0)]) rfl (by kernel_rfl)) ?_
          replace hM := hM.p3
          obtain ⟨hg903, hx⟩ := xg_some hx
          refine w_pushS (f := fDPart) (L := x781) (⟨1, (r884.1.signs.length : Int), []⟩ : DPart) rfl rfl Try.underlying29 sz77 rfl rfl rfl (fun _ => rfl) hM (.tail _ (.tail _ (.tail _ (.tail _ (.tail _ (.tail _ (.head _))))))) (fun S w hR => ⟨_, _, rfl, rfl, ⟨_, _, rfl, rfl, ⟨_, _, rfl, rd_nil _ _, rfl⟩⟩⟩) rfl hg903 rfl ?_; intro u901 s902 xs904 w900 hM
          refine wv rfl (r_assign rfl) ?_
          refine wl_nil ?_
          refine sq_n ?_
          refine wc_region ?_
          refine wv rfl (r_move rfl) ?_
          refine wv rfl (r_ldBS Try.underlying77 sz77 rfl (us := [(.int .i64 r884.1.kind), (.int .i64 r884.1.n), s887.v]) rfl hM (.tail _ (.head _)) rfl) ?_
          replace hM := hM.p4
          obtain ⟨hg911, hx⟩ := xg_some hx
          refine w_pushS (f := fDPart) (L := y782) r884.1 rfl rfl Try.underlying29 sz77 rfl rfl rfl (fun _ => rfl) hM (.tail _ (.tail _ (.tail _ (.tail _ (.tail _ (.tail _ (.tail _ (.tail _ (.head _))))))))) (fun S w hR => ⟨_, _, rfl, rfl, ⟨_, _, rfl, rfl, ⟨_, _, rfl, hR _ (.tail _ (.head _)), rfl⟩⟩⟩) rfl hg911 rfl ?_; intro u909 s910 xs912 w908 hM
          refine wv rfl (r_assign rfl) ?_
          refine wl_nil ?_
          refine bk_n ?_
          refine bk_n ?_
          obtain rfl := Option.some.inj hx
          replace hM := hM.p1.p3.p4
          replace hM := hM.t4
          have hM := hM.fewer (rsC (.tail _ (.head _)) (rsC (.head _) (rsC (.tail _ (.tail _ (.tail _ (.tail _ (.tail _ (.tail _ (.tail _ (.head _)))))))) (rsC (.tail _ (.tail _ (.tail _ (.head _)))) rsN))))
          replace hM : St ⟨w, X, S⟩ [oBox b764 #[s837.v] 89, oBox b770 #[s888.v] 89, oRow 3 s902.v (x781 ++ [(⟨1, (r884.1.signs.length : Int), []⟩ : DPart)]).length xs904, oRow 3 s910.v (y782 ++ [r884.1]).length xs912] [rX xs904 ((x781 ++ [(⟨1, (r884.1.signs.length : Int), []⟩ : DPart)]).flatMap fDPart), rX xs912 ((y782 ++ [r884.1]).flatMap fDPart), rV s837.v (cSl 3 fDPart r833.2.parts), rV s888.v (cSl 3 fDPart r884.2.parts)] _ := hM
          exact lp_end (m797, x781 ++ [(⟨1, (r884.1.signs.length : Int), []⟩ : DPart)], y782 ++ [r884.1], r833.2.parts, r884.2.parts, s902, xs904, s910, xs912, s837, s888) (Nat.lt_succ_self _) ⟨rfl, rfl, rfl, rfl, trivial⟩ ⟨hM, hx799⟩
        · replace hx := xif_f hc882 hx
          refine wc_seq ?_
          refine wc_region ?_
          refine wv rfl (r_move rfl) ?_
          replace hM := hM.p1
          obtain ⟨r915, h916, hx⟩ := bind_some' hx
          refine w_call rfl rfl (hM.callR (l := [oBox b764 #[s837.v] 89]) fun X S oL hS hR => ct_impl_rest_next _ X S b764 r833.2 s837 hS (hR _ (.tail _ (.tail _ (.tail _ (.head _))))) oL h916) ?_
          rintro _ w917 ⟨⟨s918, s919⟩, rfl, hM⟩
          replace hM : St ⟨w, X, S⟩ [oBox b764 #[s919.v] 89, oBox b770 #[s878.v] 89, oRow 3 s786.v x781.length xs787, oRow 3 s789.v y782.length xs790] [rV s918.v (cSl 1 fI r915.1.signs), rV s919.v (cSl 3 fDPart r915.2.parts), rV s877.v (cSl 1 fI r874.1.signs), rV s878.v (cSl 3 fDPart r874.2.parts), rV s836.v (cSl 1 fI r833.1.signs), rV s837.v (cSl 3 fDPart r833.2.parts), rX xs787 (x781.flatMap fDPart), rX xs790 (y782.flatMap fDPart), rV s821.v (cSl 3 fDPart c819.2), rV s805.v (cSl 3 fDPart r801.2.parts)] _ := hM
          obtain ⟨r920, h921, hx⟩ := bind_some' hx
          refine w_call rfl rfl (hM.callV fun X S oL hS hR hO => ct_impl_size _ X S r915.1 s918 hS (hR _ (.head _)) oL h921) ?_
          rintro _ w922 ⟨rfl, hR923⟩
          have hM := hM.call hR923
          refine wv rfl (r_move rfl) ?_
          replace hM := hM.p1
          obtain ⟨r925, h926, hx⟩ := bind_some' hx
          refine w_call rfl rfl (hM.callR (l := [oBox b770 #[s878.v] 89]) fun X S oL hS hR => ct_impl_rest_next _ X S b770 r874.2 s878 hS (hR _ (.tail _ (.tail _ (.tail _ (.head _))))) oL h926) ?_
          rintro _ w927 ⟨⟨s928, s929⟩, rfl, hM⟩
          replace hM : St ⟨w, X, S⟩ [oBox b770 #[s929.v] 89, oBox b764 #[s919.v] 89, oRow 3 s786.v x781.length xs787, oRow 3 s789.v y782.length xs790] [rV s928.v (cSl 1 fI r925.1.signs), rV s929.v (cSl 3 fDPart r925.2.parts), rV s918.v (cSl 1 fI r915.1.signs), rV s919.v (cSl 3 fDPart r915.2.parts), rV s877.v (cSl 1 fI r874.1.signs), rV s878.v (cSl 3 fDPart r874.2.parts), rV s836.v (cSl 1 fI r833.1.signs), rV s837.v (cSl 3 fDPart r833.2.parts), rX xs787 (x781.flatMap fDPart), rX xs790 (y782.flatMap fDPart), rV s821.v (cSl 3 fDPart c819.2), rV s805.v (cSl 3 fDPart r801.2.parts)] _ := hM
          obtain ⟨r930, h931, hx⟩ := bind_some' hx
          refine w_call rfl rfl (hM.callV fun X S oL hS hR hO => ct_impl_size _ X S r925.1 s928 hS (hR _ (.head _)) oL h931) ?_
          rintro _ w932 ⟨rfl, hR933⟩
          have hM := hM.call hR933
          refine wv rfl (r_min Try.underlying3 rfl rfl) ?_
          refine wv rfl (r_assign rfl) ?_
          refine wl_nil ?_
          refine sq_n ?_
          refine wc_seq ?_
          refine wc_region ?_
          refine wv rfl (r_move rfl) ?_
          refine wv rfl (r_move rfl) ?_
          replace hM := hM.p1
          obtain ⟨r938, h939, hx⟩ := bind_some' hx
          refine w_call rfl rfl (hM.callR (l := [oBox b764 #[s919.v] 89]) fun X S oL hS hR => ct_impl_rest_take _ X S b764 r915.2 s919 (min r920 r930) hS (hR _ (.tail _ (.tail _ (.tail _ (.head _))))) oL h939) ?_
          rintro _ w940 ⟨⟨s941, s942⟩, rfl, hM⟩
          replace hM : St ⟨w, X, S⟩ [oBox b764 #[s942.v] 89, oBox b770 #[s929.v] 89, oRow 3 s786.v x781.length xs787, oRow 3 s789.v y782.length xs790] [rV s941.v (cSl 1 fI r938.1.signs), rV s942.v (cSl 3 fDPart r938.2.parts), rV s928.v (cSl 1 fI r925.1.signs), rV s929.v (cSl 3 fDPart r925.2.parts), rV s918.v (cSl 1 fI r915.1.signs), rV s919.v (cSl 3 fDPart r915.2.parts), rV s877.v (cSl 1 fI r874.1.signs), rV s878.v (cSl 3 fDPart r874.2.parts), rV s836.v (cSl 1 fI r833.1.signs), rV s837.v (cSl 3 fDPart r833.2.parts), rX xs787 (x781.flatMap fDPart), rX xs790 (y782.flatMap fDPart), rV s821.v (cSl 3 fDPart c819.2), rV s805.v (cSl 3 fDPart r801.2.parts)] _ := hM
          refine wv rfl (r_move rfl) ?_
          refine wv rfl (r_move rfl) ?_
          replace hM := hM.p1
          obtain ⟨r945, h946, hx⟩ := bind_some' hx
          refine w_call rfl rfl (hM.callR (l := [oBox b770 #[s929.v] 89]) fun X S oL hS hR => ct_impl_rest_take _ X S b770 r925.2 s929 (min r920 r930) hS (hR _ (.tail _ (.tail _ (.tail _ (.head _))))) oL h946) ?_
          rintro _ w947 ⟨⟨s948, s949⟩, rfl, hM⟩
          replace hM : St ⟨w, X, S⟩ [oBox b770 #[s949.v] 89, oBox b764 #[s942.v] 89, oRow 3 s786.v x781.length xs787, oRow 3 s789.v y782.length xs790] [rV s948.v (cSl 1 fI r945.1.signs), rV s949.v (cSl 3 fDPart r945.2.parts), rV s941.v (cSl 1 fI r938.1.signs), rV s942.v (cSl 3 fDPart r938.2.parts), rV s928.v (cSl 1 fI r925.1.signs), rV s929.v (cSl 3 fDPart r925.2.parts), rV s918.v (cSl 1 fI r915.1.signs), rV s919.v (cSl 3 fDPart r915.2.parts), rV s877.v (cSl 1 fI r874.1.signs), rV s878.v (cSl 3 fDPart r874.2.parts), rV s836.v (cSl 1 fI r833.1.signs), rV s837.v (cSl 3 fDPart r833.2.parts), rX xs787 (x781.flatMap fDPart), rX xs790 (y782.flatMap fDPart), rV s821.v (cSl 3 fDPart c819.2), rV s805.v (cSl 3 fDPart r801.2.parts)] _ := hM
          refine w_ex rfl (x_alloc sz77 hM ?_); intro b951 w950 hR952 hM
          replace hM : St ⟨w, X, S⟩ [oBox b951 #[(.int .i64 0), (.int .i64 0), (.slice none 0 0)] 77, oBox b770 #[s949.v] 89, oBox b764 #[s942.v] 89, oRow 3 s786.v x781.length xs787, oRow 3 s789.v y782.length xs790] [rV s948.v (cSl 1 fI r945.1.signs), rV s949.v (cSl 3 fDPart r945.2.parts), rV s941.v (cSl 1 fI r938.1.signs), rV s942.v (cSl 3 fDPart r938.2.parts), rV s928.v (cSl 1 fI r925.1.signs), rV s929.v (cSl 3 fDPart r925.2.parts), rV s918.v (cSl 1 fI r915.1.signs), rV s919.v (cSl 3 fDPart r915.2.parts), rV s877.v (cSl 1 fI r874.1.signs), rV s878.v (cSl 3 fDPart r874.2.parts), rV s836.v (cSl 1 fI r833.1.signs), rV s837.v (cSl 3 fDPart r833.2.parts), rX xs787 (x781.flatMap fDPart), rX xs790 (y782.flatMap fDPart), rV s821.v (cSl 3 fDPart c819.2), rV s805.v (cSl 3 fDPart r801.2.parts)] _ := hM
          refine w_ex rfl (x_alloc sz77 hM ?_); intro b955 w954 hR956 hM
          replace hM : St ⟨w, X, S⟩ [oBox b955 #[(.int .i64 0), (.int .i64 0), (.slice none 0 0)] 77, oBox b951 #[(.int .i64 0), (.int .i64 0), (.slice none 0 0)] 77, oBox b770 #[s949.v] 89, oBox b764 #[s942.v] 89, oRow 3 s786.v x781.length xs787, oRow 3 s789.v y782.length xs790] [rV s948.v (cSl 1 fI r945.1.signs), rV s949.v (cSl 3 fDPart r945.2.parts), rV s941.v (cSl 1 fI r938.1.signs), rV s942.v (cSl 3 fDPart r938.2.parts), rV s928.v (cSl 1 fI r925.1.signs), rV s929.v (cSl 3 fDPart r925.2.parts), rV s918.v (cSl 1 fI r915.1.signs), rV s919.v (cSl 3 fDPart r915.2.parts), rV s877.v (cSl 1 fI r874.1.signs), rV s878.v (cSl 3 fDPart r874.2.parts), rV s836.v (cSl 1 fI r833.1.signs), rV s837.v (cSl 3 fDPart r833.2.parts), rX xs787 (x781.flatMap fDPart), rX xs790 (y782.flatMap fDPart), rV s821.v (cSl 3 fDPart c819.2), rV s805.v (cSl 3 fDPart r801.2.parts)] _ := hM
          replace hM := hM.p1
          refine w_exu (x_stB #[(.int .i64 r938.1.kind), (.int .i64 r938.1.n), s941.v] sz77 rfl rfl rfl rfl rfl rfl hM ?_); intro w958 hM
          replace hM := hM.p1
          refine w_exu (x_stB #[(.int .i64 r945.1.kind), (.int .i64 r945.1.n), s948.v] sz77 rfl rfl rfl rfl rfl rfl hM ?_); intro w960 hM
          refine wl_nil ?_
          refine sq_n ?_
          refine wc_seq ?_
          refine wc_seq ?_
          refine wc_region ?_
          refine wv rfl (r_fld Try.underlying77 rfl rfl sz3 rfl) ?_
          refine wv rfl (r_ldB Try.underlying3 rfl rfl hM (.head _) rfl) ?_
          refine wv rfl (r_eql rfl rfl) ?_
          refine wl_nil ?_
          refine sq_n ?_
          refine wc_cond rfl (fun hc965 => ?_) (fun hc965 => ?_)
          · replace hx := xif_t hc965 hx
            refine wc_region ?_
            refine wv rfl (r_move rfl) ?_
            refine wv rfl (r_ldBS Try.underlying77 sz77 rfl (us := [(.int .i64 r938.1.kind), (.int .i64 r938.1.n), s941.v]) rfl hM (.tail _ (.head _)) rfl) ?_
            replace hM := hM.p4
            obtain ⟨hg971, hx⟩ := xg_some hx
            refine w_pushS (f := fDPart) (L := x781) r938.1 rfl rfl Try.underlying29 sz77 rfl rfl rfl (fun _ => rfl) hM (.tail _ (.tail _ (.tail _ (.tail _ (.tail _ (.tail _ (.tail _ (.tail _ (.tail _ (.tail _ (.tail _ (.tail _ (.head _))))))))))))) (fun S w hR => ⟨_, _, rfl, rfl, ⟨_, _, rfl, rfl, ⟨_, _, rfl, hR _ (.tail _ (.tail _ (.head _))), rfl⟩⟩⟩) rfl hg971 rfl ?_; intro u969 s970 xs972 w968 hM
            refine wv rfl (r_assign rfl) ?_
            refine wl_nil ?_
            refine sq_n ?_
            refine wc_seq ?_
            refine wc_region ?_
            refine wv rfl (r_fld Try.underlying77 rfl rfl sz3 rfl) ?_
            refine wv rfl (r_ldB Try.underlying3 rfl rfl hM (.tail _ (.tail _ (.head _))) rfl) ?_
            refine wv rfl (r_eql rfl rfl) ?_
            refine wl_nil ?_
            refine sq_n ?_
            refine wc_cond rfl (fun hc977 => ?_) (fun hc977 => ?_)
            · replace hx := xif_t hc977 hx
              refine wc_region ?_
              refine wv rfl (r_move rfl) ?_
              refine wv rfl (r_ldBS Try.underlying77 sz77 rfl (us := [(.int .i64 r945.1.kind), (.int .i64 r945.1.n), s948.v]) rfl hM (.tail _ (.head _)) rfl) ?_
              replace hM := hM.p5
              obtain ⟨hg983, hx⟩ := xg_some hx
              refine w_pushS (f := fDPart) (L := y782) r945.1 rfl rfl Try.underlying29 sz77 rfl rfl rfl (fun _ => rfl) hM (.tail _ (.tail _ (.tail _ (.tail _ (.tail _ (.tail _ (.tail _ (.tail _ (.tail _ (.tail _ (.tail _ (.tail _ (.tail _ (.tail _ (.head _))))))))))))))) (fun S w hR => ⟨_, _, rfl, rfl, ⟨_, _, rfl, rfl, ⟨_, _, rfl, hR _ (.tail _ (.head _)), rfl⟩⟩⟩) rfl hg983 rfl ?_; intro u981 s982 xs984 w980 hM
              refine wv rfl (r_assign rfl) ?_
              refine wl_nil ?_
              refine bk_n ?_
              refine bk_n ?_
              obtain rfl := Option.some.inj hx
              replace hM := hM.p1.p4.p5
              replace hM := hM.t4
              have hM := hM.fewer (rsC (.tail _ (.head _)) (rsC (.head _) (rsC (.tail _ (.tail _ (.tail _ (.tail _ (.tail _ (.head _)))))) (rsC (.tail _ (.tail _ (.tail _ (.head _)))) rsN))))
              replace hM : St ⟨w, X, S⟩ [oBox b764 #[s942.v] 89, oBox b770 #[s949.v] 89, oRow 3 s970.v (x781 ++ [r938.1]).length xs972, oRow 3 s982.v (y782 ++ [r945.1]).length xs984] [rX xs972 ((x781 ++ [r938.1]).flatMap fDPart), rX xs984 ((y782 ++ [r945.1]).flatMap fDPart), rV s942.v (cSl 3 fDPart r938.2.parts), rV s949.v (cSl 3 fDPart r945.2.parts)] _ := hM
              exact lp_end (m797, x781 ++ [r938.1], y782 ++ [r945.1], r938.2.parts, r945.2.parts, s970, xs972, s982, xs984, s942, s949) (Nat.lt_succ_self _) ⟨rfl, rfl, rfl, rfl, trivial⟩ ⟨hM, hx799⟩
            · replace hx := xif_f hc977 hx
              refine wc_skip ?_
              refine bk_n ?_
              refine bk_n ?_
              obtain rfl := Option.some.inj hx
              replace hM := hM.p5.p1.p4.p5
              replace hM := hM.t4
              have hM := hM.fewer (rsC (.head _) (rsC (.tail _ (.tail _ (.tail _ (.tail _ (.tail _ (.tail _ (.tail _ (.tail _ (.tail _ (.tail _ (.tail _ (.tail _ (.tail _ (.tail _ (.head _))))))))))))))) (rsC (.tail _ (.tail _ (.tail _ (.tail _ (.head _))))) (rsC (.tail _ (.tail _ (.head _))) rsN))))
              replace hM : St ⟨w, X, S⟩ [oBox b764 #[s942.v] 89, oBox b770 #[s949.v] 89, oRow 3 s970.v (x781 ++ [r938.1]).length xs972, oRow 3 s789.v y782.length xs790] [rX xs972 ((x781 ++ [r938.1]).flatMap fDPart), rX xs790 (y782.flatMap fDPart), rV s942.v (cSl 3 fDPart r938.2.parts), rV s949.v (cSl 3 fDPart r945.2.parts)] _ := hM
              exact lp_end (m797, x781 ++ [r938.1], y782, r938.2.parts, r945.2.parts, s970, xs972, s789, xs790, s942, s949) (Nat.lt_succ_self _) ⟨rfl, rfl, rfl, rfl, trivial⟩ ⟨hM, hx799⟩
          · replace hx := xif_f hc965 hx
            refine wc_skip ?_
            refine sq_n ?_
            refine wc_seq ?_
            refine wc_region ?_
            refine wv rfl (r_fld Try.underlying77 rfl rfl sz3 rfl) ?_
            refine wv rfl (r_ldB Try.underlying3 rfl rfl hM (.tail _ (.head _)) rfl) ?_
            refine wv rfl (r_eql rfl rfl) ?_
            refine wl_nil ?_
            refine sq_n ?_
            refine wc_cond rfl (fun hc989 => ?_) (fun hc989 => ?_)
            · replace hx := xif_t hc989 hx
              refine wc_region ?_
              refine wv rfl (r_move rfl) ?_
              refine wv rfl (r_ldBS Try.underlying77 sz77 rfl (us := [(.int .i64 r945.1.kind), (.int .i64 r945.1.n), s948.v]) rfl hM (.head _) rfl) ?_
              replace hM := hM.p5
              obtain ⟨hg995, hx⟩ := xg_some hx
              refine w_pushS (f := fDPart) (L := y782) r945.1 rfl rfl Try.underlying29 sz77 rfl rfl rfl (fun _ => rfl) hM (.tail _ (.tail _ (.tail _ (.tail _ (.tail _ (.tail _ (.tail _ (.tail _ (.tail _ (.tail _ (.tail _ (.tail _ (.tail _ (.head _)))))))))))))) (fun S w hR => ⟨_, _, rfl, rfl, ⟨_, _, rfl, rfl, ⟨_, _, rfl, hR _ (.head _), rfl⟩⟩⟩) rfl hg995 rfl ?_; intro u993 s994 xs996 w992 hM
              refine wv rfl (r_assign rfl) ?_
              refine wl_nil ?_
              refine bk_n ?_
              refine bk_n ?_
              obtain rfl := Option.some.inj hx
              replace hM := hM.p5.p4.p5
              replace hM := hM.t4
              have hM := hM.fewer (rsC (.tail _ (.tail _ (.tail _ (.tail _ (.tail _ (.tail _ (.tail _ (.tail _ (.tail _ (.tail _ (.tail _ (.tail _ (.tail _ (.head _)))))))))))))) (rsC (.head _) (rsC (.tail _ (.tail _ (.tail _ (.tail _ (.head _))))) (rsC (.tail _ (.tail _ (.head _))) rsN))))
              replace hM : St ⟨w, X, S⟩ [oBox b764 #[s942.v] 89, oBox b770 #[s949.v] 89, oRow 3 s786.v x781.length xs787, oRow 3 s994.v (y782 ++ [r945.1]).length xs996] [rX xs787 (x781.flatMap fDPart), rX xs996 ((y782 ++ [r945.1]).flatMap fDPart), rV s942.v (cSl 3 fDPart r938.2.parts), rV s949.v (cSl 3 fDPart r945.2.parts)] _ := hM
              exact lp_end (m797, x781, y782 ++ [r945.1], r938.2.parts, r945.2.parts, s786, xs787, s994, xs996, s942, s949) (Nat.lt_succ_self _) ⟨rfl, rfl, rfl, rfl, trivial⟩ ⟨hM, hx799⟩
            · replace hx := xif_f hc989 hx
              refine wc_skip ?_
              refine bk_n ?_
              refine bk_n ?_
              obtain rfl := Option.some.inj hx
              replace hM := hM.p5.p5.p4.p5
              replace hM := hM.t4
              have hM := hM.fewer (rsC (.tail _ (.tail _ (.tail _ (.tail _ (.tail _ (.tail _ (.tail _ (.tail _ (.tail _ (.tail _ (.tail _ (.tail _ (.head _))))))))))))) (rsC (.tail _ (.tail _ (.tail _ (.tail _ (.tail _ (.tail _ (.tail _ (.tail _ (.tail _ (.tail _ (.tail _ (.tail _ (.tail _ (.head _)))))))))))))) (rsC (.tail _ (.tail _ (.tail _ (.head _)))) (rsC (.tail _ (.head _)) rsN))))
              replace hM : St ⟨w, X, S⟩ [oBox b764 #[s942.v] 89, oBox b770 #[s949.v] 89, oRow 3 s786.v x781.length xs787, oRow 3 s789.v y782.length xs790] [rX xs787 (x781.flatMap fDPart), rX xs790 (y782.flatMap fDPart), rV s942.v (cSl 3 fDPart r938.2.parts), rV s949.v (cSl 3 fDPart r945.2.parts)] _ := hM
              exact lp_end (m797, x781, y782, r938.2.parts, r945.2.parts, s786, xs787, s789, xs790, s942, s949) (Nat.lt_succ_self _) ⟨rfl, rfl, rfl, rfl, trivial⟩ ⟨hM, hx799⟩
    · replace hx := xif_f hc831 hx
      refine wc_exit ?_
      refine sq_exit ?_
      refine lp1_exit ?_
      obtain rfl := Option.some.inj hx
      obtain rfl := Option.some.inj hx799
      replace hx := hx778
      try dsimp only [Sum.elim_inl, Sum.elim_inr] at hx
      refine bk_here ?_
      refine sq_n ?_
      refine wc_seq ?_
      refine wc_region ?_
      refine wv rfl (r_move rfl) ?_
      replace hM := hM.p2
      have hM := hM.sealS (fun _ => rfl) (.head _)
      obtain ⟨r999, h1000, hx⟩ := bind_some' hx
      refine w_call rfl rfl (hM.callO (l := []) fun X S oL hS hR hO => ct_impl_normal _ X S x781 s786 hS (hR _ (.head _)) oL h1000) ?_
      rintro _ w1001 ⟨s1002, rfl, hM⟩
      replace hM : St ⟨w, X, S⟩ [oC (cSl 3 fDPart r999) s1002.v, oBox b764 #[s805.v] 89, oBox b770 #[s821.v] 89, oRow 3 s789.v y782.length xs790] [rV s786.v (cSl 3 fDPart x781), rX xs787 (x781.flatMap fDPart), rX xs790 (y782.flatMap fDPart), rV s821.v (cSl 3 fDPart c819.2), rV s805.v (cSl 3 fDPart r801.2.parts)] _ := hM
      refine wv rfl (r_move rfl) ?_
      replace hM := hM.p3
      have hM := hM.sealS (fun _ => rfl) (.tail _ (.tail _ (.head _)))
      obtain ⟨r1005, h1006, hx⟩ := bind_some' hx
      refine w_call rfl rfl (hM.callO (l := []) fun X S oL hS hR hO => ct_impl_normal _ X S y782 s789 hS (hR _ (.head _)) oL h1006) ?_
      rintro _ w1007 ⟨s1008, rfl, hM⟩
      replace hM : St ⟨w, X, S⟩ [oC (cSl 3 fDPart r1005) s1008.v, oC (cSl 3 fDPart r999) s1002.v, oBox b764 #[s805.v] 89, oBox b770 #[s821.v] 89] [rV s789.v (cSl 3 fDPart y782), rV s786.v (cSl 3 fDPart x781), rX xs787 (x781.flatMap fDPart), rX xs790 (y782.flatMap fDPart), rV s821.v (cSl 3 fDPart c819.2), rV s805.v (cSl 3 fDPart r801.2.parts)] _ := hM
      refine wv rfl (r_assign rfl) ?_
      refine wv rfl (r_assign rfl) ?_
      refine wl_nil ?_
      refine sq_n ?_
      refine wc_seq ?_
      refine wc_seq ?_
      refine wc_region ?_
      refine wv rfl (r_move rfl) ?_
      obtain ⟨r1013, h1014, hx⟩ := bind_some' hx
      refine w_call rfl rfl (hM.callV fun X S oL hS hR hO => ct_impl_OpOk _ X S r999 s1002 hS (seeA hO (.tail _ (.head _))) oL h1014) ?_
      rintro _ w1015 ⟨rfl, hR1016⟩
      have hM := hM.call hR1016
      refine wv rfl (r_not rfl) ?_
      refine wv rfl (r_move rfl) ?_
      obtain ⟨c1019, hx, hx1027⟩ := bind_some' hx
      refine wl_mid 4 (fun _ : Unit => [(121, (.bool c1019)), (9, s1002.v), (10, s1008.v)]) (fun _ w' => St ⟨w, X, S⟩ [oC (cSl 3 fDPart r1005) s1008.v, oC (cSl 3 fDPart r999) s1002.v, oBox b764 #[s805.v] 89, oBox b770 #[s821.v] 89] [rV s789.v (cSl 3 fDPart y782), rV s786.v (cSl 3 fDPart x781), rX xs787 (x781.flatMap fDPart), rX xs790 (y782.flatMap fDPart), rV s821.v (cSl 3 fDPart c819.2), rV s805.v (cSl 3 fDPart r801.2.parts)] w') ?_ ?_
      · rcases Bool.eq_false_or_eq_true (!r1013) with hg1020 | hg1020
        · replace hx := xif_t hg1020 hx
          refine gs rfl (isB_no hg1020) rfl ?_
          refine gs rfl (isB_no hg1020) rfl ?_
          refine gs rfl (isB_no hg1020) rfl ?_
          refine wv rfl (p_t rfl hg1020 rfl) ?_
          obtain rfl := Option.some.inj hx
          exact mid_nil () ⟨rfl, rfl, rfl, trivial⟩ hM
        · replace hx := xif_f hg1020 hx
          refine gv rfl hg1020 rfl (r_move rfl) ?_
          obtain ⟨r1029, h1030, hx⟩ := bind_some' hx
          refine gc rfl hg1020 rfl rfl (hM.callV fun X S oL hS hR hO => ct_impl_OpOk _ X S r1005 s1008 hS (seeA hO (.head _)) oL h1030) ?_
          rintro _ w1031 ⟨rfl, hR1032⟩
          have hM := hM.call hR1032
          refine gv rfl hg1020 rfl (r_not rfl) ?_
          refine wv rfl (p_f rfl hg1020 rfl) ?_
          obtain rfl := Option.some.inj hx
          exact mid_nil () ⟨rfl, rfl, rfl, trivial⟩ hM
      rintro _ w1034 hM
      replace hx := hx1027
      refine wl_nil ?_
      refine sq_n ?_
      refine wc_cond rfl (fun hc1035 => ?_) (fun hc1035 => ?_)
      · replace hx := xif_t hc1035 hx
        refine wc_seq ?_
        refine wc_region ?_
        refine wv rfl (r_assign rfl) ?_
        refine wv rfl (r_assign rfl) ?_
        refine wv rfl (r_assign rfl) ?_
        refine wl_nil ?_
        refine sq_n ?_
        refine wc_ret ?_
        refine sq_ret ?_
        obtain rfl := Option.some.inj hx
        have hM := hM.nil0 (T := DPart) 3 fDPart
        have hM := hM.nil0 (T := DPart) 3 fDPart
        refine fin_ret [nS.v, nS.v, (.bool false)] ⟨rfl, rfl, rfl, trivial⟩ ?_
        replace hM := hM.p1
        replace hM := hM.t2
        have hM := hM.fewer rsN
        exact ⟨(nS, nS), rfl, hM.gives⟩
      · replace hx := xif_f hc1035 hx
        refine wc_skip ?_
        refine sq_n ?_
        refine wc_seq ?_
        refine wc_region ?_
        refine wv rfl (r_move rfl) ?_
        refine wv rfl (r_move rfl) ?_
        refine wv rfl (r_assign rfl) ?_
        refine wv rfl (r_assign rfl) ?_
        refine wv rfl (r_assign rfl) ?_
        refine wl_nil ?_
        refine sq_n ?_
        refine wc_ret ?_
        obtain rfl := Option.some.inj hx
        refine fin_ret [s1002.v, s1008.v, (.bool true)] ⟨rfl, rfl, rfl, trivial⟩ ?_
        replace hM := hM.p1
        replace hM := hM.t2
        have hM := hM.fewer rsN
        exact ⟨(s1002, s1008), rfl, hM.gives⟩

noncomputable def x_spec_Transform_b0 (l350 : List DPart) (n351 : Int) (n352 : Int) (l353 : List DPart) (n354 : Int) (n355 : Int) (l356 : List DPart) (l357 : List Int) (n358 : Int) (l359 : List DPart) (l360 : List Int) (n361 : Int) : Option (Lr (List DPart × Int × Int × List DPart × Int × Int × List DPart × List Int × Int × List DPart × List Int × Int) (List DPart × List Int × Int × List DPart × List Int × Int)) :=
  Option.bind (x_spec_l04Kind (⟨l350, n351, n352⟩ : DL04Cur)) fun r624 => Option.bind (bif !decide (r624.1 = 0) then (some (true, l353, n354, n355)) else (Option.bind (x_spec_l04Kind (⟨l353, n354, n355⟩ : DL04Cur)) fun r640 => some (!decide (r640.1 = 0), r640.2.o, r640.2.at_, r640.2.done))) fun (c638 : Bool × List DPart × Int × Int) => bif c638.1 then (Option.bind (x_spec_l04Kind r624.2) fun r647 => bif decide (r647.1 = 2) then (Option.bind (x_spec_l04Left r647.2) fun r653 => Option.bind (x_spec_l04Take r653.2 r653.1) fun r661 => Option.bind (x_spec_l02Put (⟨l356, l357, n358⟩ : DL02B) r661.1) fun r666 => Option.bind (x_spec_l02Keep (⟨l359, l360, n361⟩ : DL02B) r653.1) fun r673 => some (Lr.go (r661.2.o, r661.2.at_, r661.2.done, c638.2.1, c638.2.2.1, c638.2.2.2, r666.list, r666.put, r666.drop, r673.list, r673.put, r673.drop))) else (Option.bind (x_spec_l04Kind (⟨c638.2.1, c638.2.2.1, c638.2.2.2⟩ : DL04Cur)) fun r679 => bif decide (r679.1 = 2) then (Option.bind (x_spec_l04Left r679.2) fun r685 => Option.bind (x_spec_l04Take r685.2 r685.1) fun r693 => Option.bind (x_spec_l02Put (⟨l359, l360, n361⟩ : DL02B) r693.1) fun r698 => Option.bind (x_spec_l02Keep (⟨l356, l357, n358⟩ : DL02B) r685.1) fun r705 => some (Lr.go (r647.2.o, r647.2.at_, r647.2.done, r693.2.o, r693.2.at_, r693.2.done, r705.list, r705.put, r705.drop, r698.list, r698.put, r698.drop))) else (Option.bind (x_spec_l04Left r647.2) fun r711 => Option.bind (x_spec_l04Left r679.2) fun r716 => Option.bind (x_spec_l04Min r711.1 r716.1) fun r720 => Option.bind (x_spec_l04Kind r711.2) fun r726 => Option.bind (x_spec_l04Kind r716.2) fun r733 => Option.bind (bif decide (r726.1 = 1) then (some (decide (r733.1 = 1))) else (some false)) fun c741 => bif c741 then (Option.bind (x_spec_l02Keep (⟨l356, l357, n358⟩ : DL02B) r720) fun r748 => Option.bind (x_spec_l02Keep (⟨l359, l360, n361⟩ : DL02B) r720) fun r755 => xg (inI (r726.2.done + r720)) <| xg (inI (r733.2.done + r720)) <| some (Lr.go (r726.2.o, r726.2.at_, r726.2.done + r720, r733.2.o, r733.2.at_, r733.2.done + r720, r748.list, r748.put, r748.drop, r755.list, r755.put, r755.drop))) else (bif decide (r733.1 = 1) then (Option.bind (x_spec_l02Drop (⟨l356, l357, n358⟩ : DL02B) r720) fun r788 => xg (inI (r726.2.done + r720)) <| xg (inI (r733.2.done + r720)) <| some (Lr.go (r726.2.o, r726.2.at_, r726.2.done + r720, r733.2.o, r733.2.at_, r733.2.done + r720, r788.list, r788.put, r788.drop, l359, l360, n361))) else (bif decide (r726.1 = 1) then (Option.bind (x_spec_l02Drop (⟨l359, l360, n361⟩ : DL02B) r720) fun r821 => xg (inI (r726.2.done + r720)) <| xg (inI (r733.2.done + r720)) <| some (Lr.go (r726.2.o, r726.2.at_, r726.2.done + r720, r733.2.o, r733.2.at_, r733.2.done + r720, l356, l357, n358, r821.list, r821.put, r821.drop))) else (xg (inI (r726.2.done + r720)) <| xg (inI (r733.2.done + r720)) <| some (Lr.go (r726.2.o, r726.2.at_, r726.2.done + r720, r733.2.o, r733.2.at_, r733.2.done + r720, l356, l357, n358, l359, l360, n361)))))))) else (some (Lr.out (l356, l357, n358, l359, l360, n361)))
noncomputable def x_spec_Transform_f0 (s874 : List DPart × Int × Int × List DPart × Int × Int × List DPart × List Int × Int × List DPart × List Int × Int) : Option (Lr (List DPart × Int × Int × List DPart × Int × Int × List DPart × List Int × Int × List DPart × List Int × Int) (List DPart × List Int × Int × List DPart × List Int × Int)) := x_spec_Transform_b0 s874.1 s874.2.1 s874.2.2.1 s874.2.2.2.1 s874.2.2.2.2.1 s874.2.2.2.2.2.1 s874.2.2.2.2.2.2.1 s874.2.2.2.2.2.2.2.1 s874.2.2.2.2.2.2.2.2.1 s874.2.2.2.2.2.2.2.2.2.1 s874.2.2.2.2.2.2.2.2.2.2.1 s874.2.2.2.2.2.2.2.2.2.2.2
noncomputable def x_spec_Transform (a : List DPart) (b : List DPart) : Option (List DPart × List DPart × Bool) :=
  Option.bind (x_spec_OpOk a) fun r5 => Option.bind (bif !r5 then (some true) else (Option.bind (x_spec_OpOk b) fun r20 => some (!r20))) fun c11 => Option.bind (bif c11 then (some true) else (Option.bind (x_spec_OpFrom a) fun r40 => Option.bind (x_spec_OpFrom b) fun r45 => some (!decide (r40 = r45)))) fun c26 => bif c26 then (some ([], [], false)) else (Option.bind (iter (x_spec_Transform_f0) (a, 0, 0, b, 0, 0, [], [], 0, [], [], 0)) fun (y875 : List DPart × List Int × Int × List DPart × List Int × Int) => Option.bind (x_spec_l02Done (⟨y875.1, y875.2.1, y875.2.2.1⟩ : DL02B)) fun r885 => Option.bind (x_spec_l02Done (⟨y875.2.2.2.1, y875.2.2.2.2.1, y875.2.2.2.2.2⟩ : DL02B)) fun r894 => Option.bind (x_spec_OpOk r885.1) fun r903 => Option.bind (bif !r903 then (some true) else (Option.bind (x_spec_OpOk r894.1) fun r918 => some (!r918))) fun c909 => bif c909 then (some ([], [], false)) else (some (r885.1, r894.1, true)))
theorem ct_spec_Transform (w : World) (X S : Bs) (a : List DPart) (s_a : Sv) (b : List DPart) (s_b : Sv) (hS : ∀ b, S b → b < w.heap.size ∧ ¬ X b) (a_a_0 : (cSl 3 fDPart a).rd S w s_a.v) (a_b_0 : (cSl 3 fDPart b).rd S w s_b.v) (oL : Sep [] X w) {r : List DPart × List DPart × Bool} (hx : x_spec_Transform a b = some r) :
    Ret Try.prog 137 [s_a.v, s_b.v] w (fun u w' => ∃ y : Sv × Sv, u = .tuple #[y.1.v, y.2.v, (.bool r.2.2)] ∧ Gives X S w [oC (cSl 3 fDPart r.1) y.1.v, oC (cSl 3 fDPart r.2.1) y.2.v] [] w') := by
  unfold x_spec_Transform at hx
  refine enter Try.func137 rfl Try.ntmps137 (by kernel_rfl) rfl ?_
  have hM := St.enter oL hS
  have hM := hM.addE (r := rV s_a.v (cSl 3 fDPart a)) a_a_0
  have hM := hM.addE (r := rV s_b.v (cSl 3 fDPart b)) a_b_0
  refine wc_seq ?_
  refine wc_region ?_
  refine wv rfl (r_assign rfl) ?_
  refine wv rfl (r_assign rfl) ?_
  refine wv rfl (r_assign rfl) ?_
  refine wl_nil ?_
  refine sq_n ?_
  refine wc_seq ?_
  refine wc_seq ?_
  refine wc_region ?_
  refine wv rfl (r_move rfl) ?_
  obtain ⟨r935, h936, hx⟩ := bind_some' hx
  refine w_call rfl rfl (hM.callV fun X S oL hS hR hO => ct_spec_OpOk _ X S a s_a hS (hR _ (.tail _ (.head _))) oL h936) ?_
  rintro _ w937 ⟨rfl, hR938⟩
  have hM := hM.call hR938
  refine wv rfl (r_not rfl) ?_
  refine wv rfl (r_move rfl) ?_
  obtain ⟨c941, hx, hx949⟩ := bind_some' hx
  refine wl_mid 4 (fun _ : Unit => [(25, (.bool c941)), (0, s_a.v), (1, s_b.v)]) (fun _ w' => St ⟨w, X, S⟩ [] [rV s_b.v (cSl 3 fDPart b), rV s_a.v (cSl 3 fDPart a)] w') ?_ ?_
  · rcases Bool.eq_false_or_eq_true (!r935) with hg942 | hg942
    · replace hx := xif_t hg942 hx
      refine gs rfl (isB_no hg942) rfl ?_
      refine gs rfl (isB_no hg942) rfl ?_
      refine gs rfl (isB_no hg942) rfl ?_
      refine wv rfl (p_t rfl hg942 rfl) ?_
      obtain rfl := Option.some.inj hx
      exact mid_nil () ⟨rfl, rfl, rfl, trivial⟩ hM
    · replace hx := xif_f hg942 hx
      refine gv rfl hg942 rfl (r_move rfl) ?_
      obtain ⟨r951, h952, hx⟩ := bind_some' hx
      refine gc rfl hg942 rfl rfl (hM.callV fun X S oL hS hR hO => ct_spec_OpOk _ X S b s_b hS (hR _ (.head _)) oL h952) ?_
      rintro _ w953 ⟨rfl, hR954⟩
      have hM := hM.call hR954
      refine gv rfl hg942 rfl (r_not rfl) ?_
      refine wv rfl (p_f rfl hg942 rfl) ?_
      obtain rfl := Option.some.inj hx
      exact mid_nil () ⟨rfl, rfl, rfl, trivial⟩ hM
  rintro _ w956 hM
  replace hx := hx949
  refine wv rfl (r_move rfl) ?_
  obtain ⟨c958, hx, hx971⟩ := bind_some' hx
  refine wl_mid 6 (fun _ : Unit => [(32, (.bool c958)), (0, s_a.v), (1, s_b.v)]) (fun _ w' => St ⟨w, X, S⟩ [] [rV s_b.v (cSl 3 fDPart b), rV s_a.v (cSl 3 fDPart a)] w') ?_ ?_
  · rcases Bool.eq_false_or_eq_true c941 with hg959 | hg959
    · replace hx := xif_t hg959 hx
      refine gs rfl (isB_no hg959) rfl ?_
      refine gs rfl (isB_no hg959) rfl ?_
      refine gs rfl (isB_no hg959) rfl ?_
      refine gs rfl (isB_no hg959) rfl ?_
      refine gs rfl (isB_no hg959) rfl ?_
      refine wv rfl (p_t rfl hg959 rfl) ?_
      obtain rfl := Option.some.inj hx
      exact mid_nil () ⟨rfl, rfl, rfl, trivial⟩ hM
    · replace hx := xif_f hg959 hx
      refine gv rfl hg959 rfl (r_move rfl) ?_
      obtain ⟨r973, h974, hx⟩ := bind_some' hx
      refine gc rfl hg959 rfl rfl (hM.callV fun X S oL hS hR hO => ct_spec_OpFrom _ X S a s_a hS (hR _ (.tail _ (.head _))) oL h974) ?_
      rintro _ w975 ⟨rfl, hR976⟩
      have hM := hM.call hR976
      refine gv rfl hg959 rfl (r_move rfl) ?_
      obtain ⟨r978, h979, hx⟩ := bind_some' hx
      refine gc rfl hg959 rfl rfl (hM.callV fun X S oL hS hR hO => ct_spec_OpFrom _ X S b s_b hS (hR _ (.head _)) oL h979) ?_
      rintro _ w980 ⟨rfl, hR981⟩
      have hM := hM.call hR981
      refine gv rfl hg959 rfl (r_neq rfl rfl) ?_
      refine wv rfl (p_f rfl hg959 rfl) ?_
      obtain rfl := Option.some.inj hx
      exact mid_nil () ⟨rfl, rfl, rfl, trivial⟩ hM
  rintro _ w983 hM
  replace hx := hx971
  refine wl_nil ?_
  refine sq_n ?_
  refine wc_cond rfl (fun hc984 => ?_) (fun hc984 => ?_)
  · replace hx := xif_t hc984 hx
    refine wc_seq ?_
    refine wc_region ?_
    refine wv rfl (r_assign rfl) ?_
    refine wv rfl (r_assign rfl) ?_
    refine wv rfl (r_assign rfl) ?_
    refine wl_nil ?_
    refine sq_n ?_
    refine wc_ret ?_
    refine sq_ret ?_
    obtain rfl := Option.some.inj hx
    have hM := hM.nil0 (T := DPart) 3 fDPart
    have hM := hM.nil0 (T := DPart) 3 fDPart
    refine fin_ret [nS.v, nS.v, (.bool false)] ⟨rfl, rfl, rfl, trivial⟩ ?_
    replace hM := hM.p1
    replace hM := hM.t2
    have hM := hM.fewer rsN
    exact ⟨(nS, nS), rfl, hM.gives⟩
  · replace hx := xif_f hc984 hx
    refine wc_skip ?_
    refine sq_n ?_
    refine wc_seq ?_
    refine wc_region ?_
    refine wv rfl (r_move rfl) ?_
    refine wv rfl (r_build (cells := #[s_a.v, (.int .i64 0), (.int .i64 0)]) rfl (by kernel_rfl)) ?_
    refine w_ex rfl (x_box rfl hM ?_); intro b993 w992 hR994 hM
    replace hM : St ⟨w, X, S⟩ [oBox b993 #[s_a.v, (.int .i64 0), (.int .i64 0)] 120] [rV s_b.v (cSl 3 fDPart b), rV s_a.v (cSl 3 fDPart a)] _ := hM
    refine wv rfl (r_assign rfl) ?_
    refine wl_nil ?_
    refine sq_n ?_
    refine wc_seq ?_
    refine wc_region ?_
    refine wv rfl (r_move rfl) ?_
    refine wv rfl (r_build (cells := #[s_b.v, (.int .i64 0), (.int .i64 0)]) rfl (by kernel_rfl)) ?_
    refine w_ex rfl (x_box rfl hM ?_); intro b1000 w999 hR1001 hM
    replace hM : St ⟨w, X, S⟩ [oBox b1000 #[s_b.v, (.int .i64 0), (.int .i64 0)] 120, oBox b993 #[s_a.v, (.int .i64 0), (.int .i64 0)] 120] [rV s_b.v (cSl 3 fDPart b), rV s_a.v (cSl 3 fDPart a)] _ := hM
    refine wv rfl (r_assign rfl) ?_
    refine wl_nil ?_
    refine sq_n ?_
    refine wc_seq ?_
    refine wc_region ?_
    refine wv rfl (r_build (cells := #[(.slice none 0 0), (.slice none 0 0), (.int .i64 0)]) rfl (by kernel_rfl)) ?_
    refine w_ex rfl (x_box rfl hM ?_); intro b1006 w1005 hR1007 hM
    replace hM : St ⟨w, X, S⟩ [oBox b1006 #[(.slice none 0 0), (.slice none 0 0), (.int .i64 0)] 123, oBox b1000 #[s_b.v, (.int .i64 0), (.int .i64 0)] 120, oBox b993 #[s_a.v, (.int .i64 0), (.int .i64 0)] 120] [rV s_b.v (cSl 3 fDPart b), rV s_a.v (cSl 3 fDPart a)] _ := hM
    refine wv rfl (r_assign rfl) ?_
    refine wl_nil ?_
    refine sq_n ?_
    refine wc_seq ?_
    refine wc_region ?_
    refine wv rfl (r_build (cells := #[(.slice none 0 0), (.slice none 0 0), (.int .i64 0)]) rfl (by kernel_rfl)) ?_
    refine w_ex rfl (x_box rfl hM ?_); intro b1012 w1011 hR1013 hM
    replace hM : St ⟨w, X, S⟩ [oBox b1012 #[(.slice none 0 0), (.slice none 0 0), (.int .i64 0)] 123, oBox b1006 #[(.slice none 0 0), (.slice none 0 0), (.int .i64 0)] 123, oBox b1000 #[s_b.v, (.int .i64 0), (.int .i64 0)] 120, oBox b993 #[s_a.v, (.int .i64 0), (.int .i64 0)] 120] [rV s_b.v (cSl 3 fDPart b), rV s_a.v (cSl 3 fDPart a)] _ := hM
    refine wv rfl (r_assign rfl) ?_
    refine wl_nil ?_
    refine sq_n ?_
    refine wc_seq ?_
    refine wc_block ?_
    obtain ⟨y1016, hx, hx1017⟩ := bind_some' hx
    have hM := hM.nil0 (T := DPart) 3 fDPart
    have hM := hM.nil0 (T := Int) 1 fI
    have hM := hM.nil0 (T := DPart) 3 fDPart
    have hM := hM.nil0 (T := Int) 1 fI
    replace hM := hM.p1.p2.p3.p4.p5.p6.p7
    have hM := hM.fewer (rsC (.tail _ (.head _)) (rsC (.head _) rsN))
    replace hM : St ⟨w, X, S⟩ [oBox b993 #[s_a.v, (.int .i64 0), (.int .i64 0)] 120, oBox b1000 #[s_b.v, (.int .i64 0), (.int .i64 0)] 120, oBox b1006 #[nS.v, nS.v, (.int .i64 0)] 123, oBox b1012 #[nS.v, nS.v, (.int .i64 0)] 123, oC (cSl 3 fDPart ([] : List DPart)) nS.v, oC (cSl 1 fI ([] : List Int)) nS.v, oC (cSl 3 fDPart ([] : List DPart)) nS.v, oC (cSl 1 fI ([] : List Int)) nS.v] [rV s_a.v (cSl 3 fDPart a), rV s_b.v (cSl 3 fDPart b)] _ := hM
    obtain ⟨m1046, hx⟩ := iter_run hx
    refine wc_loop (un fun (m1044 : Nat) => un fun (l1022 : List DPart) => un fun (n1023 : Int) => un fun (n1024 : Int) => un fun (l1025 : List DPart) => un fun (n1026 : Int) => un fun (n1027 : Int) => un fun (l1028 : List DPart) => un fun (l1029 : List Int) => un fun (n1030 : Int) => un fun (l1031 : List DPart) => un fun (l1032 : List Int) => un fun (n1033 : Int) => un fun (s1034 : Sv) => un fun (s1035 : Sv) => un fun (s1037 : Sv) => un fun (s1039 : Sv) => un fun (s1041 : Sv) => fun (s1043 : Sv) => [(7, (.pointer (some ⟨b993, 0, none⟩))), (8, (.pointer (some ⟨b1000, 0, none⟩))), (9, (.pointer (some ⟨b1006, 0, none⟩))), (10, (.pointer (some ⟨b1012, 0, none⟩)))]) (un fun (m1044 : Nat) => un fun (l1022 : List DPart) => un fun (n1023 : Int) => un fun (n1024 : Int) => un fun (l1025 : List DPart) => un fun (n1026 : Int) => un fun (n1027 : Int) => un fun (l1028 : List DPart) => un fun (l1029 : List Int) => un fun (n1030 : Int) => un fun (l1031 : List DPart) => un fun (l1032 : List Int) => un fun (n1033 : Int) => un fun (s1034 : Sv) => un fun (s1035 : Sv) => un fun (s1037 : Sv) => un fun (s1039 : Sv) => un fun (s1041 : Sv) => fun (s1043 : Sv) w' => St ⟨w, X, S⟩ [oBox b993 #[s1034.v, (.int .i64 n1023), (.int .i64 n1024)] 120, oBox b1000 #[s1035.v, (.int .i64 n1026), (.int .i64 n1027)] 120, oBox b1006 #[s1037.v, s1039.v, (.int .i64 n1030)] 123, oBox b1012 #[s1041.v, s1043.v, (.int .i64 n1033)] 123, oC (cSl 3 fDPart l1028) s1037.v, oC (cSl 1 fI l1029) s1039.v, oC (cSl 3 fDPart l1031) s1041.v, oC (cSl 1 fI l1032) s1043.v] [rV s1034.v (cSl 3 fDPart l1022), rV s1035.v (cSl 3 fDPart l1025)] w' ∧ iterN _ m1044 (l1022, n1023, n1024, l1025, n1026, n1027, l1028, l1029, n1030, l1031, l1032, n1033) = some y1016) (fun p => p.1) (m1046, a, 0, 0, b, 0, 0, [], [], 0, [], [], 0, s_a, s_b, nS, nS, nS, nS) ⟨rfl, rfl, rfl, rfl, trivial⟩ ⟨hM, hx⟩ ?_
    rintro ⟨m1044, l1022, n1023, n1024, l1025, n1026, n1027, l1028, l1029, n1030, l1031, l1032, n1033, s1034, s1035, s1037, s1039, s1041, s1043⟩ w1047 ⟨hM, hx⟩
    obtain ⟨m1048, z1049, rfl, hx, hx1050⟩ := iterN_step hx
    unfold x_spec_Transform_f0 x_spec_Transform_b0 at hx
    try dsimp only at hx
    refine wc_seq ?_
    refine wc_seq ?_
    refine wc_region ?_
    refine wv rfl (r_move rfl) ?_
    obtain ⟨r1052, h1053, hx⟩ := bind_some' hx
    refine w_call rfl rfl (hM.callR (l := [oBox b993 #[s1034.v, (.int .i64 n1023), (.int .i64 n1024)] 120]) fun X S oL hS hR => ct_spec_l04Kind _ X S b993 (⟨l1022, n1023, n1024⟩ : DL04Cur) s1034 hS (hR _ (.head _)) oL h1053) ?_
    rintro _ w1054 ⟨s1055, rfl, hM⟩
    replace hM : St ⟨w, X, S⟩ [oBox b993 #[s1055.v, (.int .i64 r1052.2.at_), (.int .i64 r1052.2.done)] 120, oBox b1000 #[s1035.v, (.int .i64 n1026), (.int .i64 n1027)] 120, oBox b1006 #[s1037.v, s1039.v, (.int .i64 n1030)] 123, oBox b1012 #[s1041.v, s1043.v, (.int .i64 n1033)] 123, oC (cSl 3 fDPart l1028) s1037.v, oC (cSl 1 fI l1029) s1039.v, oC (cSl 3 fDPart l1031) s1041.v, oC (cSl 1 fI l1032) s1043.v] [rV s1055.v (cSl 3 fDPart r1052.2.o), rV s1034.v (cSl 3 fDPart l1022), rV s1035.v (cSl 3 fDPart l1025)] _ := hM
    refine wv rfl (r_neq rfl rfl) ?_
    refine wv rfl (r_move rfl) ?_
    obtain ⟨c1066, hx, hx1067⟩ := bind_some' hx
    refine wl_mid 4 (fun (s1068 : Sv) => [(7, (.pointer (some ⟨b993, 0, none⟩))), (8, (.pointer (some ⟨b1000, 0, none⟩))), (9, (.pointer (some ⟨b1006, 0, none⟩))), (10, (.pointer (some ⟨b1012, 0, none⟩))), (50, (.bool c1066.1))]) (fun (s1068 : Sv) w' => St ⟨w, X, S⟩ [oBox b993 #[s1055.v, (.int .i64 r1052.2.at_), (.int .i64 r1052.2.done)] 120, oBox b1000 #[s1068.v, (.int .i64 c1066.2.2.1), (.int .i64 c1066.2.2.2)] 120, oBox b1006 #[s1037.v, s1039.v, (.int .i64 n1030)] 123, oC (cSl 3 fDPart l1028) s1037.v, oC (cSl 1 fI l1029) s1039.v, oBox b1012 #[s1041.v, s1043.v, (.int .i64 n1033)] 123, oC (cSl 3 fDPart l1031) s1041.v, oC (cSl 1 fI l1032) s1043.v] [rV s1068.v (cSl 3 fDPart c1066.2.1), rV s1055.v (cSl 3 fDPart r1052.2.o)] w') ?_ ?_
    · rcases Bool.eq_false_or_eq_true (!decide (r1052.1 = 0)) with hg1059 | hg1059
      · replace hx := xif_t hg1059 hx
        refine gs rfl (isB_no hg1059) rfl ?_
        refine gs rfl (isB_no hg1059) rfl ?_
        refine gs rfl (isB_no hg1059) rfl ?_
        refine wv rfl (p_t rfl hg1059 rfl) ?_
        obtain rfl := Option.some.inj hx
        replace hM := hM.p7.p7.p5.p7.p7.p7.p7.p7
        have hM := hM.fewer (rsC (.tail _ (.tail _ (.head _))) (rsC (.head _) rsN))
        replace hM : St ⟨w, X, S⟩ [oBox b993 #[s1055.v, (.int .i64 r1052.2.at_), (.int .i64 r1052.2.done)] 120, oBox b1000 #[s1035.v, (.int .i64 n1026), (.int .i64 n1027)] 120, oBox b1006 #[s1037.v, s1039.v, (.int .i64 n1030)] 123, oC (cSl 3 fDPart l1028) s1037.v, oC (cSl 1 fI l1029) s1039.v, oBox b1012 #[s1041.v, s1043.v, (.int .i64 n1033)] 123, oC (cSl 3 fDPart l1031) s1041.v, oC (cSl 1 fI l1032) s1043.v] [rV s1035.v (cSl 3 fDPart l1025), rV s1055.v (cSl 3 fDPart r1052.2.o)] _ := hM
        exact mid_nil s1035 ⟨rfl, rfl, rfl, rfl, rfl, trivial⟩ hM
      · replace hx := xif_f hg1059 hx
        refine gv rfl hg1059 rfl (r_move rfl) ?_
        replace hM := hM.p1
        obtain ⟨r1070, h1071, hx⟩ := bind_some' hx
        refine gc rfl hg1059 rfl rfl (hM.callR (l := [oBox b1000 #[s1035.v, (.int .i64 n1026), (.int .i64 n1027)] 120]) fun X S oL hS hR => ct_spec_l04Kind _ X S b1000 (⟨l1025, n1026, n1027⟩ : DL04Cur) s1035 hS (hR _ (.tail _ (.tail _ (.head _)))) oL h1071) ?_
        rintro _ w1072 ⟨s1073, rfl, hM⟩
        replace hM : St ⟨w, X, S⟩ [oBox b1000 #[s1073.v, (.int .i64 r1070.2.at_), (.int .i64 r1070.2.done)] 120, oBox b993 #[s1055.v, (.int .i64 r1052.2.at_), (.int .i64 r1052.2.done)] 120, oBox b1006 #[s1037.v, s1039.v, (.int .i64 n1030)] 123, oBox b1012 #[s1041.v, s1043.v, (.int .i64 n1033)] 123, oC (cSl 3 fDPart l1028) s1037.v, oC (cSl 1 fI l1029) s1039.v, oC (cSl 3 fDPart l1031) s1041.v, oC (cSl 1 fI l1032) s1043.v] [rV s1073.v (cSl 3 fDPart r1070.2.o), rV s1055.v (cSl 3 fDPart r1052.2.o), rV s1034.v (cSl 3 fDPart l1022), rV s1035.v (cSl 3 fDPart l1025)] _ := hM
        refine gv rfl hg1059 rfl (r_neq rfl rfl) ?_
        refine wv rfl (p_f rfl hg1059 rfl) ?_
        obtain rfl := Option.some.inj hx
        replace hM := hM.p7.p7.p5.p7.p7.p7.p6.p7
        have hM := hM.fewer (rsC (.head _) (rsC (.tail _ (.head _)) rsN))
        replace hM : St ⟨w, X, S⟩ [oBox b993 #[s1055.v, (.int .i64 r1052.2.at_), (.int .i64 r1052.2.done)] 120, oBox b1000 #[s1073.v, (.int .i64 r1070.2.at_), (.int .i64 r1070.2.done)] 120, oBox b1006 #[s1037.v, s1039.v, (.int .i64 n1030)] 123, oC (cSl 3 fDPart l1028) s1037.v, oC (cSl 1 fI l1029) s1039.v, oBox b1012 #[s1041.v, s1043.v, (.int .i64 n1033)] 123, oC (cSl 3 fDPart l1031) s1041.v, oC (cSl 1 fI l1032) s1043.v] [rV s1073.v (cSl 3 fDPart r1070.2.o), rV s1055.v (cSl 3 fDPart r1052.2.o)] _ := hM
        exact mid_nil s1073 ⟨rfl, rfl, rfl, rfl, rfl, trivial⟩ hM
    rintro s1068 w1075 hM
    replace hx := hx1067
    refine wl_nil ?_
    refine sq_n ?_
    refine wc_cond rfl (fun hc1076 => ?_) (fun hc1076 => ?_)
    · replace hx := xif_t hc1076 hx
      refine wc_skip ?_
      refine sq_n ?_
      refine wc_block ?_
      refine wc_seq ?_
      refine wc_seq ?_
      refine wc_region ?_
      refine wv rfl (r_move rfl) ?_
      obtain ⟨r1078, h1079, hx⟩ := bind_some' hx
      refine w_call rfl rfl (hM.callR (l := [oBox b993 #[s1055.v, (.int .i64 r1052.2.at_), (.int .i64 r1052.2.done)] 120]) fun X S oL hS hR => ct_spec_l04Kind _ X S b993 r1052.2 s1055 hS (hR _ (.tail _ (.head _))) oL h1079) ?_
      rintro _ w1080 ⟨s1081, rfl, hM⟩
      replace hM : St ⟨w, X, S⟩ [oBox b993 #[s1081.v, (.int .i64 r1078.2.at_), (.int .i64 r1078.2.done)] 120, oBox b1000 #[s1068.v, (.int .i64 c1066.2.2.1), (.int .i64 c1066.2.2.2)] 120, oBox b1006 #[s1037.v, s1039.v, (.int .i64 n1030)] 123, oC (cSl 3 fDPart l1028) s1037.v, oC (cSl 1 fI l1029) s1039.v, oBox b1012 #[s1041.v, s1043.v, (.int .i64 n1033)] 123, oC (cSl 3 fDPart l1031) s1041.v, oC (cSl 1 fI l1032) s1043.v] [rV s1081.v (cSl 3 fDPart r1078.2.o), rV s1068.v (cSl 3 fDPart c1066.2.1), rV s1055.v (cSl 3 fDPart r1052.2.o)] _ := hM
      refine wv rfl (r_eql rfl rfl) ?_
      refine wl_nil ?_
      refine sq_n ?_
      refine wc_cond rfl (fun hc1083 => ?_) (fun hc1083 => ?_)
      · replace hx := xif_t hc1083 hx
        refine wc_seq ?_
        refine wc_region ?_
        refine wv rfl (r_move rfl) ?_
        obtain ⟨r1085, h1086, hx⟩ := bind_some' hx
        refine w_call rfl rfl (hM.callR (l := [oBox b993 #[s1081.v, (.int .i64 r1078.2.at_), (.int .i64 r1078.2.done)] 120]) fun X S oL hS hR => ct_spec_l04Left _ X S b993 r1078.2 s1081 hS (hR _ (.head _)) oL h1086) ?_
        rintro _ w1087 ⟨s1088, rfl, hM⟩
        replace hM : St ⟨w, X, S⟩ [oBox b993 #[s1088.v, (.int .i64 r1085.2.at_), (.int .i64 r1085.2.done)] 120, oBox b1000 #[s1068.v, (.int .i64 c1066.2.2.1), (.int .i64 c1066.2.2.2)] 120, oBox b1006 #[s1037.v, s1039.v, (.int .i64 n1030)] 123, oC (cSl 3 fDPart l1028) s1037.v, oC (cSl 1 fI l1029) s1039.v, oBox b1012 #[s1041.v, s1043.v, (.int .i64 n1033)] 123, oC (cSl 3 fDPart l1031) s1041.v, oC (cSl 1 fI l1032) s1043.v] [rV s1088.v (cSl 3 fDPart r1085.2.o), rV s1081.v (cSl 3 fDPart r1078.2.o), rV s1068.v (cSl 3 fDPart c1066.2.1), rV s1055.v (cSl 3 fDPart r1052.2.o)] _ := hM
        refine wv rfl (r_assign rfl) ?_
        refine wl_nil ?_
        refine sq_n ?_
        refine wc_seq ?_
        refine wc_region ?_
        refine wv rfl (r_move rfl) ?_
        refine wv rfl (r_move rfl) ?_
        refine wv rfl (r_move rfl) ?_
        obtain ⟨r1093, h1094, hx⟩ := bind_some' hx
        refine w_call rfl rfl (hM.callR (l := [oBox b993 #[s1088.v, (.int .i64 r1085.2.at_), (.int .i64 r1085.2.done)] 120]) fun X S oL hS hR => ct_spec_l04Take _ X S b993 r1085.2 s1088 r1085.1 hS (hR _ (.head _)) oL h1094) ?_
        rintro _ w1095 ⟨⟨s1096, s1097⟩, rfl, hM⟩
        replace hM : St ⟨w, X, S⟩ [oBox b993 #[s1097.v, (.int .i64 r1093.2.at_), (.int .i64 r1093.2.done)] 120, oBox b1000 #[s1068.v, (.int .i64 c1066.2.2.1), (.int .i64 c1066.2.2.2)] 120, oBox b1006 #[s1037.v, s1039.v, (.int .i64 n1030)] 123, oC (cSl 3 fDPart l1028) s1037.v, oC (cSl 1 fI l1029) s1039.v, oBox b1012 #[s1041.v, s1043.v, (.int .i64 n1033)] 123, oC (cSl 3 fDPart l1031) s1041.v, oC (cSl 1 fI l1032) s1043.v] [rV s1096.v (cSl 1 fI r1093.1), rV s1097.v (cSl 3 fDPart r1093.2.o), rV s1088.v (cSl 3 fDPart r1085.2.o), rV s1081.v (cSl 3 fDPart r1078.2.o), rV s1068.v (cSl 3 fDPart c1066.2.1), rV s1055.v (cSl 3 fDPart r1052.2.o)] _ := hM
        replace hM := hM.p4.p4.p4
        obtain ⟨r1098, h1099, hx⟩ := bind_some' hx
        refine w_call rfl rfl (hM.callO (l := [oBox b1006 #[s1037.v, s1039.v, (.int .i64 n1030)] 123, oC (cSl 3 fDPart l1028) s1037.v, oC (cSl 1 fI l1029) s1039.v]) fun X S oL hS hR hO => ct_spec_l02Put _ X S b1006 (⟨l1028, l1029, n1030⟩ : DL02B) s1037 s1039 r1093.1 s1096 hS (hR _ (.head _)) oL h1099) ?_
        rintro _ w1100 ⟨⟨s1101, s1102⟩, rfl, hM⟩
        replace hM : St ⟨w, X, S⟩ [oBox b1006 #[s1101.v, s1102.v, (.int .i64 r1098.drop)] 123, oC (cSl 3 fDPart r1098.list) s1101.v, oC (cSl 1 fI r1098.put) s1102.v, oBox b993 #[s1097.v, (.int .i64 r1093.2.at_), (.int .i64 r1093.2.done)] 120, oBox b1000 #[s1068.v, (.int .i64 c1066.2.2.1), (.int .i64 c1066.2.2.2)] 120, oBox b1012 #[s1041.v, s1043.v, (.int .i64 n1033)] 123, oC (cSl 3 fDPart l1031) s1041.v, oC (cSl 1 fI l1032) s1043.v] [rV s1096.v (cSl 1 fI r1093.1), rV s1097.v (cSl 3 fDPart r1093.2.o), rV s1088.v (cSl 3 fDPart r1085.2.o), rV s1081.v (cSl 3 fDPart r1078.2.o), rV s1068.v (cSl 3 fDPart c1066.2.1), rV s1055.v (cSl 3 fDPart r1052.2.o)] _ := hM
        refine wl_nil ?_
        refine sq_n ?_
        refine wc_seq ?_
        refine wc_region ?_
        refine wv rfl (r_move rfl) ?_
        refine wv rfl (r_move rfl) ?_
        replace hM := hM.p7.p7.p7
        obtain ⟨r1105, h1106, hx⟩ := bind_some' hx
        refine w_call rfl rfl (hM.callO (l := [oBox b1012 #[s1041.v, s1043.v, (.int .i64 n1033)] 123, oC (cSl 3 fDPart l1031) s1041.v, oC (cSl 1 fI l1032) s1043.v]) fun X S oL hS hR hO => ct_spec_l02Keep _ X S b1012 (⟨l1031, l1032, n1033⟩ : DL02B) s1041 s1043 r1085.1 hS  oL h1106) ?_
        rintro _ w1107 ⟨⟨s1108, s1109⟩, rfl, hM⟩
        replace hM : St ⟨w, X, S⟩ [oBox b1012 #[s1108.v, s1109.v, (.int .i64 r1105.drop)] 123, oC (cSl 3 fDPart r1105.list) s1108.v, oC (cSl 1 fI r1105.put) s1109.v, oBox b1006 #[s1101.v, s1102.v, (.int .i64 r1098.drop)] 123, oC (cSl 3 fDPart r1098.list) s1101.v, oC (cSl 1 fI r1098.put) s1102.v, oBox b993 #[s1097.v, (.int .i64 r1093.2.at_), (.int .i64 r1093.2.done)] 120, oBox b1000 #[s1068.v, (.int .i64 c1066.2.2.1), (.int .i64 c1066.2.2.2)] 120] [rV s1096.v (cSl 1 fI r1093.1), rV s1097.v (cSl 3 fDPart r1093.2.o), rV s1088.v (cSl 3 fDPart r1085.2.o), rV s1081.v (cSl 3 fDPart r1078.2.o), rV s1068.v (cSl 3 fDPart c1066.2.1), rV s1055.v (cSl 3 fDPart r1052.2.o)] _ := hM
        refine wl_nil ?_
        refine sq_n ?_
        refine wc_exit ?_
        refine sq_exit ?_
        refine bk_here ?_
        obtain rfl := Option.some.inj hx
        replace hM := hM.p2.p2.p5.p5.p4.p5.p7.p7
        have hM := hM.fewer (rsC (.tail _ (.head _)) (rsC (.tail _ (.tail _ (.tail _ (.tail _ (.head _))))) rsN))
        replace hM : St ⟨w, X, S⟩ [oBox b993 #[s1097.v, (.int .i64 r1093.2.at_), (.int .i64 r1093.2.done)] 120, oBox b1000 #[s1068.v, (.int .i64 c1066.2.2.1), (.int .i64 c1066.2.2.2)] 120, oBox b1006 #[s1101.v, s1102.v, (.int .i64 r1098.drop)] 123, oBox b1012 #[s1108.v, s1109.v, (.int .i64 r1105.drop)] 123, oC (cSl 3 fDPart r1098.list) s1101.v, oC (cSl 1 fI r1098.put) s1102.v, oC (cSl 3 fDPart r1105.list) s1108.v, oC (cSl 1 fI r1105.put) s1109.v] [rV s1097.v (cSl 3 fDPart r1093.2.o), rV s1068.v (cSl 3 fDPart c1066.2.1)] _ := hM
        exact lp_end (m1048, r1093.2.o, r1093.2.at_, r1093.2.done, c1066.2.1, c1066.2.2.1, c1066.2.2.2, r1098.list, r1098.put, r1098.drop, r1105.list, r1105.put, r1105.drop, s1097, s1068, s1101, s1102, s1108, s1109) (Nat.lt_succ_self _) ⟨rfl, rfl, rfl, rfl, trivial⟩ ⟨hM, hx1050⟩
      · replace hx := xif_f hc1083 hx
        refine wc_skip ?_
        refine sq_n ?_
        refine wc_seq ?_
        refine wc_seq ?_
        refine wc_region ?_
        refine wv rfl (r_move rfl) ?_
        replace hM := hM.p1
        obtain ⟨r1111, h1112, hx⟩ := bind_some' hx
        refine w_call rfl rfl (hM.callR (l := [oBox b1000 #[s1068.v, (.int .i64 c1066.2.2.1), (.int .i64 c1066.2.2.2)] 120]) fun X S oL hS hR => ct_spec_l04Kind _ X S b1000 (⟨c1066.2.1, c1066.2.2.1, c1066.2.2.2⟩ : DL04Cur) s1068 hS (hR _ (.tail _ (.head _))) oL h1112) ?_
        rintro _ w1113 ⟨s1114, rfl, hM⟩
        replace hM : St ⟨w, X, S⟩ [oBox b1000 #[s1114.v, (.int .i64 r1111.2.at_), (.int .i64 r1111.2.done)] 120, oBox b993 #[s1081.v, (.int .i64 r1078.2.at_), (.int .i64 r1078.2.done)] 120, oBox b1006 #[s1037.v, s1039.v, (.int .i64 n1030)] 123, oC (cSl 3 fDPart l1028) s1037.v, oC (cSl 1 fI l1029) s1039.v, oBox b1012 #[s1041.v, s1043.v, (.int .i64 n1033)] 123, oC (cSl 3 fDPart l1031) s1041.v, oC (cSl 1 fI l1032) s1043.v] [rV s1114.v (cSl 3 fDPart r1111.2.o), rV s1081.v (cSl 3 fDPart r1078.2.o), rV s1068.v (cSl 3 fDPart c1066.2.1), rV s1055.v (cSl 3 fDPart r1052.2.o)] _ := hM
        refine wv rfl (r_eql rfl rfl) ?_
        refine wl_nil ?_
        refine sq_n ?_
        refine wc_cond rfl (fun hc1116 => ?_) (fun hc1116 => ?_)
        · replace hx := xif_t hc1116 hx
          refine wc_seq ?_
          refine wc_region ?_
          refine wv rfl (r_move rfl) ?_
          obtain ⟨r1118, h1119, hx⟩ := bind_some' hx
          refine w_call rfl rfl (hM.callR (l := [oBox b1000 #[s1114.v, (.int .i64 r1111.2.at_), (.int .i64 r1111.2.done)] 120]) fun X S oL hS hR => ct_spec_l04Left _ X S b1000 r1111.2 s1114 hS (hR _ (.head _)) oL h1119) ?_
          rintro _ w1120 ⟨s1121, rfl, hM⟩
          replace hM : St ⟨w, X, S⟩ [oBox b1000 #[s1121.v, (.int .i64 r1118.2.at_), (.int .i64 r1118.2.done)] 120, oBox b993 #[s1081.v, (.int .i64 r1078.2.at_), (.int .i64 r1078.2.done)] 120, oBox b1006 #[s1037.v, s1039.v, (.int .i64 n1030)] 123, oC (cSl 3 fDPart l1028) s1037.v, oC (cSl 1 fI l1029) s1039.v, oBox b1012 #[s1041.v, s1043.v, (.int .i64 n1033)] 123, oC (cSl 3 fDPart l1031) s1041.v, oC (cSl 1 fI l1032) s1043.v] [rV s1121.v (cSl 3 fDPart r1118.2.o), rV s1114.v (cSl 3 fDPart r1111.2.o), rV s1081.v (cSl 3 fDPart r1078.2.o), rV s1068.v (cSl 3 fDPart c1066.2.1), rV s1055.v (cSl 3 fDPart r1052.2.o)] _ := hM
          refine wv rfl (r_assign rfl) ?_
          refine wl_nil ?_
          refine sq_n ?_
          refine wc_seq ?_
          refine wc_region ?_
          refine wv rfl (r_move rfl) ?_
          refine wv rfl (r_move rfl) ?_
          refine wv rfl (r_move rfl) ?_
          obtain ⟨r1126, h1127, hx⟩ := bind_some' hx
          refine w_call rfl rfl (hM.callR (l := [oBox b1000 #[s1121.v, (.int .i64 r1118.2.at_), (.int .i64 r1118.2.done)] 120]) fun X S oL hS hR => ct_spec_l04Take _ X S b1000 r1118.2 s1121 r1118.1 hS (hR _ (.head _)) oL h1127) ?_
          rintro _ w1128 ⟨⟨s1129, s1130⟩, rfl, hM⟩
          replace hM : St ⟨w, X, S⟩ [oBox b1000 #[s1130.v, (.int .i64 r1126.2.at_), (.int .i64 r1126.2.done)] 120, oBox b993 #[s1081.v, (.int .i64 r1078.2.at_), (.int .i64 r1078.2.done)] 120, oBox b1006 #[s1037.v, s1039.v, (.int .i64 n1030)] 123, oC (cSl 3 fDPart l1028) s1037.v, oC (cSl 1 fI l1029) s1039.v, oBox b1012 #[s1041.v, s1043.v, (.int .i64 n1033)] 123, oC (cSl 3 fDPart l1031) s1041.v, oC (cSl 1 fI l1032) s1043.v] [rV s1129.v (cSl 1 fI r1126.1), rV s1130.v (cSl 3 fDPart r1126.2.o), rV s1121.v (cSl 3 fDPart r1118.2.o), rV s1114.v (cSl 3 fDPart r1111.2.o), rV s1081.v (cSl 3 fDPart r1078.2.o), rV s1068.v (cSl 3 fDPart c1066.2.1), rV s1055.v (cSl 3 fDPart r1052.2.o)] _ := hM
          replace hM := hM.p7.p7.p7
          obtain ⟨r1131, h1132, hx⟩ := bind_some' hx
          refine w_call rfl rfl (hM.callO (l := [oBox b1012 #[s1041.v, s1043.v, (.int .i64 n1033)] 123, oC (cSl 3 fDPart l1031) s1041.v, oC (cSl 1 fI l1032) s1043.v]) fun X S oL hS hR hO => ct_spec_l02Put _ X S b1012 (⟨l1031, l1032, n1033⟩ : DL02B) s1041 s1043 r1126.1 s1129 hS (hR _ (.head _)) oL h1132) ?_
          rintro _ w1133 ⟨⟨s1134, s1135⟩, rfl, hM⟩
          replace hM : St ⟨w, X, S⟩ [oBox b1012 #[s1134.v, s1135.v, (.int .i64 r1131.drop)] 123, oC (cSl 3 fDPart r1131.list) s1134.v, oC (cSl 1 fI r1131.put) s1135.v, oBox b1000 #[s1130.v, (.int .i64 r1126.2.at_), (.int .i64 r1126.2.done)] 120, oBox b993 #[s1081.v, (.int .i64 r1078.2.at_), (.int .i64 r1078.2.done)] 120, oBox b1006 #[s1037.v, s1039.v, (.int .i64 n1030)] 123, oC (cSl 3 fDPart l1028) s1037.v, oC (cSl 1 fI l1029) s1039.v] [rV s1129.v (cSl 1 fI r1126.1), rV s1130.v (cSl 3 fDPart r1126.2.o), rV s1121.v (cSl 3 fDPart r1118.2.o), rV s1114.v (cSl 3 fDPart r1111.2.o), rV s1081.v (cSl 3 fDPart r1078.2.o), rV s1068.v (cSl 3 fDPart c1066.2.1), rV s1055.v (cSl 3 fDPart r1052.2.o)] _ := hM
          refine wl_nil ?_
          refine sq_n ?_
          refine wc_seq ?_
          refine wc_region ?_
          refine wv rfl (r_move rfl) ?_
          refine wv rfl (r_move rfl) ?_
          replace hM := hM.p7.p7.p7
          obtain ⟨r1138, h1139, hx⟩ := bind_some' hx
          refine w_call rfl rfl (hM.callO (l := [oBox b1006 #[s1037.v, s1039.v, (.int .i64 n1030)] 123, oC (cSl 3 fDPart l1028) s1037.v, oC (cSl 1 fI l1029) s1039.v]) fun X S oL hS hR hO => ct_spec_l02Keep _ X S b1006 (⟨l1028, l1029, n1030⟩ : DL02B) s1037 s1039 r1118.1 hS  oL h1139) ?_
          rintro _ w1140 ⟨⟨s1141, s1142⟩, rfl, hM⟩
          replace hM : St ⟨w, X, S⟩ [oBox b1006 #[s1141.v, s1142.v, (.int .i64 r1138.drop)] 123, oC (cSl 3 fDPart r1138.list) s1141.v, oC (cSl 1 fI r1138.put) s1142.v, oBox b1012 #[s1134.v, s1135.v, (.int .i64 r1131.drop)] 123, oC (cSl 3 fDPart r1131.list) s1134.v, oC (cSl 1 fI r1131.put) s1135.v, oBox b1000 #[s1130.v, (.int .i64 r1126.2.at_), (.int .i64 r1126.2.done)] 120, oBox b993 #[s1081.v, (.int .i64 r1078.2.at_), (.int .i64 r1078.2.done)] 120] [rV s1129.v (cSl 1 fI r1126.1), rV s1130.v (cSl 3 fDPart r1126.2.o), rV s1121.v (cSl 3 fDPart r1118.2.o), rV s1114.v (cSl 3 fDPart r1111.2.o), rV s1081.v (cSl 3 fDPart r1078.2.o), rV s1068.v (cSl 3 fDPart c1066.2.1), rV s1055.v (cSl 3 fDPart r1052.2.o)] _ := hM
          refine wl_nil ?_
          refine sq_n ?_
          refine wc_exit ?_
          refine sq_exit ?_
          refine bk_here ?_
          obtain rfl := Option.some.inj hx
          replace hM := hM.p5.p5.p4.p4.p5.p5.p6.p7
          have hM := hM.fewer (rsC (.tail _ (.tail _ (.tail _ (.tail _ (.head _))))) (rsC (.tail _ (.head _)) rsN))
          replace hM : St ⟨w, X, S⟩ [oBox b993 #[s1081.v, (.int .i64 r1078.2.at_), (.int .i64 r1078.2.done)] 120, oBox b1000 #[s1130.v, (.int .i64 r1126.2.at_), (.int .i64 r1126.2.done)] 120, oBox b1006 #[s1141.v, s1142.v, (.int .i64 r1138.drop)] 123, oBox b1012 #[s1134.v, s1135.v, (.int .i64 r1131.drop)] 123, oC (cSl 3 fDPart r1138.list) s1141.v, oC (cSl 1 fI r1138.put) s1142.v, oC (cSl 3 fDPart r1131.list) s1134.v, oC (cSl 1 fI r1131.put) s1135.v] [rV s1081.v (cSl 3 fDPart r1078.2.o), rV s1130.v (cSl 3 fDPart r1126.2.o)] _ := hM
          exact lp_end (m1048, r1078.2.o, r1078.2.at_, r1078.2.done, r1126.2.o, r1126.2.at_, r1126.2.done, r1138.list, r1138.put, r1138.drop, r1131.list, r1131.put, r1131.drop, s1081, s1130, s1141, s1142, s1134, s1135) (Nat.lt_succ_self _) ⟨rfl, rfl, rfl, rfl, trivial⟩ ⟨hM, hx1050⟩
        · replace hx := xif_f hc1116 hx
          refine wc_skip ?_
          refine sq_n ?_
          refine wc_seq ?_
          refine wc_region ?_
          refine wv rfl (r_move rfl) ?_
          replace hM := hM.p1
          obtain ⟨r1144, h1145, hx⟩ := bind_some' hx
          refine w_call rfl rfl (hM.callR (l := [oBox b993 #[s1081.v, (.int .i64 r1078.2.at_), (.int .i64 r1078.2.done)] 120]) fun X S oL hS hR => ct_spec_l04Left _ X S b993 r1078.2 s1081 hS (hR _ (.tail _ (.head _))) oL h1145) ?_
          rintro _ w1146 ⟨s1147, rfl, hM⟩
          replace hM : St ⟨w, X, S⟩ [oBox b993 #[s1147.v, (.int .i64 r1144.2.at_), (.int .i64 r1144.2.done)] 120, oBox b1000 #[s1114.v, (.int .i64 r1111.2.at_), (.int .i64 r1111.2.done)] 120, oBox b1006 #[s1037.v, s1039.v, (.int .i64 n1030)] 123, oC (cSl 3 fDPart l1028) s1037.v, oC (cSl 1 fI l1029) s1039.v, oBox b1012 #[s1041.v, s1043.v, (.int .i64 n1033)] 123, oC (cSl 3 fDPart l1031) s1041.v, oC (cSl 1 fI l1032) s1043.v] [rV s1147.v (cSl 3 fDPart r1144.2.o), rV s1114.v (cSl 3 fDPart r1111.2.o), rV s1081.v (cSl 3 fDPart r1078.2.o), rV s1068.v (cSl 3 fDPart c1066.2.1), rV s1055.v (cSl 3 fDPart r1052.2.o)] _ := hM
          refine wv rfl (r_move rfl) ?_
          replace hM := hM.p1
          obtain ⟨r1149, h1150, hx⟩ := bind_some' hx
          refine w_call rfl rfl (hM.callR (l := [oBox b1000 #[s1114.v, (.int .i64 r1111.2.at_), (.int .i64 r1111.2.done)] 120]) fun X S oL hS hR => ct_spec_l04Left _ X S b1000 r1111.2 s1114 hS (hR _ (.tail _ (.head _))) oL h1150) ?_
          rintro _ w1151 ⟨s1152, rfl, hM⟩
          replace hM : St ⟨w, X, S⟩ [oBox b1000 #[s1152.v, (.int .i64 r1149.2.at_), (.int .i64 r1149.2.done)] 120, oBox b993 #[s1147.v, (.int .i64 r1144.2.at_), (.int .i64 r1144.2.done)] 120, oBox b1006 #[s1037.v, s1039.v, (.int .i64 n1030)] 123, oC (cSl 3 fDPart l1028) s1037.v, oC (cSl 1 fI l1029) s1039.v, oBox b1012 #[s1041.v, s1043.v, (.int .i64 n1033)] 123, oC (cSl 3 fDPart l1031) s1041.v, oC (cSl 1 fI l1032) s1043.v] [rV s1152.v (cSl 3 fDPart r1149.2.o), rV s1147.v (cSl 3 fDPart r1144.2.o), rV s1114.v (cSl 3 fDPart r1111.2.o), rV s1081.v (cSl 3 fDPart r1078.2.o), rV s1068.v (cSl 3 fDPart c1066.2.1), rV s1055.v (cSl 3 fDPart r1052.2.o)] _ := hM
          obtain ⟨r1153, h1154, hx⟩ := bind_some' hx
          refine w_call rfl rfl (hM.callV fun X S oL hS hR hO => ct_spec_l04Min _ X S r1144.1 r1149.1 hS  oL h1154) ?_
          rintro _ w1155 ⟨rfl, hR1156⟩
          have hM := hM.call hR1156
          refine wv rfl (r_assign rfl) ?_
          refine wl_nil ?_
          refine sq_n ?_
          refine wc_seq ?_
          refine wc_region ?_
          refine wv rfl (r_move rfl) ?_
          replace hM := hM.p1
          obtain ⟨r1159, h1160, hx⟩ := bind_some' hx
          refine w_call rfl rfl (hM.callR (l := [oBox b993 #[s1147.v, (.int .i64 r1144.2.at_), (.int .i64 r1144.2.done)] 120]) fun X S oL hS hR => ct_spec_l04Kind _ X S b993 r1144.2 s1147 hS (hR _ (.tail _ (.head _))) oL h1160) ?_
          rintro _ w1161 ⟨s1162, rfl, hM⟩
          replace hM : St ⟨w, X, S⟩ [oBox b993 #[s1162.v, (.int .i64 r1159.2.at_), (.int .i64 r1159.2.done)] 120, oBox b1000 #[s1152.v, (.int .i64 r1149.2.at_), (.int .i64 r1149.2.done)] 120, oBox b1006 #[s1037.v, s1039.v, (.int .i64 n1030)] 123, oC (cSl 3 fDPart l1028) s1037.v, oC (cSl 1 fI l1029) s1039.v, oBox b1012 #[s1041.v, s1043.v, (.int .i64 n1033)] 123, oC (cSl 3 fDPart l1031) s1041.v, oC (cSl 1 fI l1032) s1043.v] [rV s1162.v (cSl 3 fDPart r1159.2.o), rV s1152.v (cSl 3 fDPart r1149.2.o), rV s1147.v (cSl 3 fDPart r1144.2.o), rV s1114.v (cSl 3 fDPart r1111.2.o), rV s1081.v (cSl 3 fDPart r1078.2.o), rV s1068.v (cSl 3 fDPart c1066.2.1), rV s1055.v (cSl 3 fDPart r1052.2.o)] _ := hM
          refine wv rfl (r_eql rfl rfl) ?_
          refine wv rfl (r_assign rfl) ?_
          refine wl_nil ?_
          refine sq_n ?_
          refine wc_seq ?_
          refine wc_region ?_
          refine wv rfl (r_move rfl) ?_
          replace hM := hM.p1
          obtain ⟨r1166, h1167, hx⟩ := bind_some' hx
          refine w_call rfl rfl (hM.callR (l := [oBox b1000 #[s1152.v, (.int .i64 r1149.2.at_), (.int .i64 r1149.2.done)] 120]) fun X S oL hS hR => ct_spec_l04Kind _ X S b1000 r1149.2 s1152 hS (hR _ (.tail _ (.head _))) oL h1167) ?_
          rintro _ w1168 ⟨s1169, rfl, hM⟩
          replace hM : St ⟨w, X, S⟩ [oBox b1000 #[s1169.v, (.int .i64 r1166.2.at_), (.int .i64 r1166.2.done)] 120, oBox b993 #[s1162.v, (.int .i64 r1159.2.at_), (.int .i64 r1159.2.done)] 120, oBox b1006 #[s1037.v, s1039.v, (.int .i64 n1030)] 123, oC (cSl 3 fDPart l1028) s1037.v, oC (cSl 1 fI l1029) s1039.v, oBox b1012 #[s1041.v, s1043.v, (.int .i64 n1033)] 123, oC (cSl 3 fDPart l1031) s1041.v, oC (cSl 1 fI l1032) s1043.v] [rV s1169.v (cSl 3 fDPart r1166.2.o), rV s1162.v (cSl 3 fDPart r1159.2.o), rV s1152.v (cSl 3 fDPart r1149.2.o), rV s1147.v (cSl 3 fDPart r1144.2.o), rV s1114.v (cSl 3 fDPart r1111.2.o), rV s1081.v (cSl 3 fDPart r1078.2.o), rV s1068.v (cSl 3 fDPart c1066.2.1), rV s1055.v (cSl 3 fDPart r1052.2.o)] _ := hM
          refine wv rfl (r_eql rfl rfl) ?_
          refine wv rfl (r_assign rfl) ?_
          refine wl_nil ?_
          refine sq_n ?_
          refine wc_seq ?_
          refine wc_block ?_
          refine wc_seq ?_
          refine wc_region ?_
          refine wv rfl (r_move rfl) ?_
          refine wv rfl (r_move rfl) ?_
          obtain ⟨c1174, hx, hx1177⟩ := bind_some' hx
          refine wl_mid 2 (fun _ : Unit => [(92, (.bool c1174)), (7, (.pointer (some ⟨b993, 0, none⟩))), (8, (.pointer (some ⟨b1000, 0, none⟩))), (9, (.pointer (some ⟨b1006, 0, none⟩))), (10, (.pointer (some ⟨b1012, 0, none⟩))), (13, (.int .i64 r1153)), (14, (.bool (decide (r1159.1 = 1)))), (15, (.bool (decide (r1166.1 = 1))))]) (fun _ w' => St ⟨w, X, S⟩ [oBox b1000 #[s1169.v, (.int .i64 r1166.2.at_), (.int .i64 r1166.2.done)] 120, oBox b993 #[s1162.v, (.int .i64 r1159.2.at_), (.int .i64 r1159.2.done)] 120, oBox b1006 #[s1037.v, s1039.v, (.int .i64 n1030)] 123, oC (cSl 3 fDPart l1028) s1037.v, oC (cSl 1 fI l1029) s1039.v, oBox b1012 #[s1041.v, s1043.v, (.int .i64 n1033)] 123, oC (cSl 3 fDPart l1031) s1041.v, oC (cSl 1 fI l1032) s1043.v] [rV s1169.v (cSl 3 fDPart r1166.2.o), rV s1162.v (cSl 3 fDPart r1159.2.o), rV s1152.v (cSl 3 fDPart r1149.2.o), rV s1147.v (cSl 3 fDPart r1144.2.o), rV s1114.v (cSl 3 fDPart r1111.2.o), rV s1081.v (cSl 3 fDPart r1078.2.o), rV s1068.v (cSl 3 fDPart c1066.2.1), rV s1055.v (cSl 3 fDPart r1052.2.o)] w') ?_ ?_
          · rcases Bool.eq_false_or_eq_true (decide (r1159.1 = 1)) with hg1175 | hg1175
            · replace hx := xif_t hg1175 hx
              refine gv rfl hg1175 rfl (r_move rfl) ?_
              refine wv rfl (p_t rfl hg1175 rfl) ?_
              obtain rfl := Option.some.inj hx
              exact mid_nil () ⟨rfl, rfl, rfl, rfl, rfl, rfl, rfl, rfl, trivial⟩ hM
            · replace hx := xif_f hg1175 hx
              refine gs rfl (isB_no hg1175) rfl ?_
              refine wv rfl (p_f rfl hg1175 rfl) ?_
              obtain rfl := Option.some.inj hx
              exact mid_nil () ⟨rfl, rfl, rfl, rfl, rfl, rfl, rfl, rfl, trivial⟩ hM
          rintro _ w1179 hM
          replace hx := hx1177
          refine wv rfl (r_assign rfl) ?_
          refine wl_nil ?_
          refine sq_n ?_
          refine wc_cond rfl (fun hc1181 => ?_) (fun hc1181 => ?_)
          · replace hx := xif_t hc1181 hx
            refine wc_seq ?_
            refine wc_region ?_
            refine wv rfl (r_move rfl) ?_
            refine wv rfl (r_move rfl) ?_
            replace hM := hM.p4.p4.p4
            obtain ⟨r1184, h1185, hx⟩ := bind_some' hx
            refine w_call rfl rfl (hM.callO (l := [oBox b1006 #[s1037.v, s1039.v, (.int .i64 n1030)] 123, oC (cSl 3 fDPart l1028) s1037.v, oC (cSl 1 fI l1029) s1039.v]) fun X S oL hS hR hO => ct_spec_l02Keep _ X S b1006 (⟨l1028, l1029, n1030⟩ : DL02B) s1037 s1039 r1153 hS  oL h1185) ?_
            rintro _ w1186 ⟨⟨s1187, s1188⟩, rfl, hM⟩
            replace hM : St ⟨w, X, S⟩ [oBox b1006 #[s1187.v, s1188.v, (.int .i64 r1184.drop)] 123, oC (cSl 3 fDPart r1184.list) s1187.v, oC (cSl 1 fI r1184.put) s1188.v, oBox b1000 #[s1169.v, (.int .i64 r1166.2.at_), (.int .i64 r1166.2.done)] 120, oBox b993 #[s1162.v, (.int .i64 r1159.2.at_), (.int .i64 r1159.2.done)] 120, oBox b1012 #[s1041.v, s1043.v, (.int .i64 n1033)] 123, oC (cSl 3 fDPart l1031) s1041.v, oC (cSl 1 fI l1032) s1043.v] [rV s1169.v (cSl 3 fDPart r1166.2.o), rV s1162.v (cSl 3 fDPart r1159.2.o), rV s1152.v (cSl 3 fDPart r1149.2.o), rV s1147.v (cSl 3 fDPart r1144.2.o), rV s1114.v (cSl 3 fDPart r1111.2.o), rV s1081.v (cSl 3 fDPart r1078.2.o), rV s1068.v (cSl 3 fDPart c1066.2.1), rV s1055.v (cSl 3 fDPart r1052.2.o)] _ := hM
            refine wl_nil ?_
            refine sq_n ?_
            refine wc_region ?_
            refine wv rfl (r_move rfl) ?_
            refine wv rfl (r_move rfl) ?_
            replace hM := hM.p7.p7.p7
            obtain ⟨r1191, h1192, hx⟩ := bind_some' hx
            refine w_call rfl rfl (hM.callO (l := [oBox b1012 #[s1041.v, s1043.v, (.int .i64 n1033)] 123, oC (cSl 3 fDPart l1031) s1041.v, oC (cSl 1 fI l1032) s1043.v]) fun X S oL hS hR hO => ct_spec_l02Keep _ X S b1012 (⟨l1031, l1032, n1033⟩ : DL02B) s1041 s1043 r1153 hS  oL h1192) ?_
            rintro _ w1193 ⟨⟨s1194, s1195⟩, rfl, hM⟩
            replace hM : St ⟨w, X, S⟩ [oBox b1012 #[s1194.v, s1195.v, (.int .i64 r1191.drop)] 123, oC (cSl 3 fDPart r1191.list) s1194.v, oC (cSl 1 fI r1191.put) s1195.v, oBox b1006 #[s1187.v, s1188.v, (.int .i64 r1184.drop)] 123, oC (cSl 3 fDPart r1184.list) s1187.v, oC (cSl 1 fI r1184.put) s1188.v, oBox b1000 #[s1169.v, (.int .i64 r1166.2.at_), (.int .i64 r1166.2.done)] 120, oBox b993 #[s1162.v, (.int .i64 r1159.2.at_), (.int .i64 r1159.2.done)] 120] [rV s1169.v (cSl 3 fDPart r1166.2.o), rV s1162.v (cSl 3 fDPart r1159.2.o), rV s1152.v (cSl 3 fDPart r1149.2.o), rV s1147.v (cSl 3 fDPart r1144.2.o), rV s1114.v (cSl 3 fDPart r1111.2.o), rV s1081.v (cSl 3 fDPart r1078.2.o), rV s1068.v (cSl 3 fDPart c1066.2.1), rV s1055.v (cSl 3 fDPart r1052.2.o)] _ := hM
            refine wl_nil ?_
            refine bk_n ?_
            refine sq_n ?_
            refine wc_seq ?_
            refine wc_region ?_
            refine wv rfl (r_move rfl) ?_
            refine wv rfl (r_move rfl) ?_
            refine wv rfl (r_nilck rfl) ?_
            refine wv rfl (r_fld Try.underlying120 rfl rfl sz3 rfl) ?_
            refine wv rfl (r_ldB Try.underlying3 rfl rfl hM (.tail _ (.tail _ (.tail _ (.tail _ (.tail _ (.tail _ (.tail _ (.head _)))))))) rfl) ?_
            refine wv rfl (r_move rfl) ?_
            obtain ⟨hg1203, hx⟩ := xg_some hx
            refine wv rfl (r_add rfl rfl hg1203) ?_
            refine wv rfl (r_nilck rfl) ?_
            refine wv rfl (r_fld Try.underlying120 rfl rfl sz3 rfl) ?_
            replace hM := hM.p7
            refine w_exu (x_stB #[s1162.v, (.int .i64 r1159.2.at_), (.int .i64 (r1159.2.done + r1153))] sz3 rfl rfl rfl rfl rfl rfl hM ?_); intro w1206 hM
            refine wl_nil ?_
            refine sq_n ?_
            refine wc_region ?_
            refine wv rfl (r_move rfl) ?_
            refine wv rfl (r_move rfl) ?_
            refine wv rfl (r_nilck rfl) ?_
            refine wv rfl (r_fld Try.underlying120 rfl rfl sz3 rfl) ?_
            refine wv rfl (r_ldB Try.underlying3 rfl rfl hM (.tail _ (.tail _ (.tail _ (.tail _ (.tail _ (.tail _ (.tail _ (.head _)))))))) rfl) ?_
            refine wv rfl (r_move rfl) ?_
            obtain ⟨hg1215, hx⟩ := xg_some hx
            refine wv rfl (r_add rfl rfl hg1215) ?_
            refine wv rfl (r_nilck rfl) ?_
            refine wv rfl (r_fld Try.underlying120 rfl rfl sz3 rfl) ?_
            replace hM := hM.p7
            refine w_exu (x_stB #[s1169.v, (.int .i64 r1166.2.at_), (.int .i64 (r1166.2.done + r1153))] sz3 rfl rfl rfl rfl rfl rfl hM ?_); intro w1218 hM
            refine wl_nil ?_
            refine bk_n ?_
            obtain rfl := Option.some.inj hx
            replace hM := hM.p4.p4.p7.p7.p6.p7.p6.p7
            have hM := hM.fewer (rsC (.tail _ (.head _)) (rsC (.head _) rsN))
            replace hM : St ⟨w, X, S⟩ [oBox b993 #[s1162.v, (.int .i64 r1159.2.at_), (.int .i64 (r1159.2.done + r1153))] 120, oBox b1000 #[s1169.v, (.int .i64 r1166.2.at_), (.int .i64 (r1166.2.done + r1153))] 120, oBox b1006 #[s1187.v, s1188.v, (.int .i64 r1184.drop)] 123, oBox b1012 #[s1194.v, s1195.v, (.int .i64 r1191.drop)] 123, oC (cSl 3 fDPart r1184.list) s1187.v, oC (cSl 1 fI r1184.put) s1188.v, oC (cSl 3 fDPart r1191.list) s1194.v, oC (cSl 1 fI r1191.put) s1195.v] [rV s1162.v (cSl 3 fDPart r1159.2.o), rV s1169.v (cSl 3 fDPart r1166.2.o)] _ := hM
            exact lp_end (m1048, r1159.2.o, r1159.2.at_, r1159.2.done + r1153, r1166.2.o, r1166.2.at_, r1166.2.done + r1153, r1184.list, r1184.put, r1184.drop, r1191.list, r1191.put, r1191.drop, s1162, s1169, s1187, s1188, s1194, s1195) (Nat.lt_succ_self _) ⟨rfl, rfl, rfl, rfl, trivial⟩ ⟨hM, hx1050⟩
          · replace hx := xif_f hc1181 hx
            refine wc_seq ?_
            refine wc_region ?_
            refine wv rfl (r_move rfl) ?_
            refine wv rfl (r_assign rfl) ?_
            refine wl_nil ?_
            refine sq_n ?_
            refine wc_cond rfl (fun hc1222 => ?_) (fun hc1222 => ?_)
            · replace hx := xif_t hc1222 hx
              refine wc_region ?_
              refine wv rfl (r_move rfl) ?_
              refine wv rfl (r_move rfl) ?_
              replace hM := hM.p4.p4.p4
              obtain ⟨r1225, h1226, hx⟩ := bind_some' hx
              refine w_call rfl rfl (hM.callO (l := [oBox b1006 #[s1037.v, s1039.v, (.int .i64 n1030)] 123, oC (cSl 3 fDPart l1028) s1037.v, oC (cSl 1 fI l1029) s1039.v]) fun X S oL hS hR hO => ct_spec_l02Drop _ X S b1006 (⟨l1028, l1029, n1030⟩ : DL02B) s1037 s1039 r1153 hS  oL h1226) ?_
              rintro _ w1227 ⟨⟨s1228, s1229⟩, rfl, hM⟩
              replace hM : St ⟨w, X, S⟩ [oBox b1006 #[s1228.v, s1229.v, (.int .i64 r1225.drop)] 123, oC (cSl 3 fDPart r1225.list) s1228.v, oC (cSl 1 fI r1225.put) s1229.v, oBox b1000 #[s1169.v, (.int .i64 r1166.2.at_), (.int .i64 r1166.2.done)] 120, oBox b993 #[s1162.v, (.int .i64 r1159.2.at_), (.int .i64 r1159.2.done)] 120, oBox b1012 #[s1041.v, s1043.v, (.int .i64 n1033)] 123, oC (cSl 3 fDPart l1031) s1041.v, oC (cSl 1 fI l1032) s1043.v] [rV s1169.v (cSl 3 fDPart r1166.2.o), rV s1162.v (cSl 3 fDPart r1159.2.o), rV s1152.v (cSl 3 fDPart r1149.2.o), rV s1147.v (cSl 3 fDPart r1144.2.o), rV s1114.v (cSl 3 fDPart r1111.2.o), rV s1081.v (cSl 3 fDPart r1078.2.o), rV s1068.v (cSl 3 fDPart c1066.2.1), rV s1055.v (cSl 3 fDPart r1052.2.o)] _ := hM
              refine wl_nil ?_
              refine bk_n ?_
              refine sq_n ?_
              refine wc_seq ?_
              refine wc_region ?_
              refine wv rfl (r_move rfl) ?_
              refine wv rfl (r_move rfl) ?_
              refine wv rfl (r_nilck rfl) ?_
              refine wv rfl (r_fld Try.underlying120 rfl rfl sz3 rfl) ?_
              refine wv rfl (r_ldB Try.underlying3 rfl rfl hM (.tail _ (.tail _ (.tail _ (.tail _ (.head _))))) rfl) ?_
              refine wv rfl (r_move rfl) ?_
              obtain ⟨hg1237, hx⟩ := xg_some hx
              refine wv rfl (r_add rfl rfl hg1237) ?_
              refine wv rfl (r_nilck rfl) ?_
              refine wv rfl (r_fld Try.underlying120 rfl rfl sz3 rfl) ?_
              replace hM := hM.p4
              refine w_exu (x_stB #[s1162.v, (.int .i64 r1159.2.at_), (.int .i64 (r1159.2.done + r1153))] sz3 rfl rfl rfl rfl rfl rfl hM ?_); intro w1240 hM
              refine wl_nil ?_
              refine sq_n ?_
              refine wc_region ?_
              refine wv rfl (r_move rfl) ?_
              refine wv rfl (r_move rfl) ?_
              refine wv rfl (r_nilck rfl) ?_
              refine wv rfl (r_fld Try.underlying120 rfl rfl sz3 rfl) ?_
              refine wv rfl (r_ldB Try.underlying3 rfl rfl hM (.tail _ (.tail _ (.tail _ (.tail _ (.head _))))) rfl) ?_
              refine wv rfl (r_move rfl) ?_
              obtain ⟨hg1249, hx⟩ := xg_some hx
              refine wv rfl (r_add rfl rfl hg1249) ?_
              refine wv rfl (r_nilck rfl) ?_
              refine wv rfl (r_fld Try.underlying120 rfl rfl sz3 rfl) ?_
              replace hM := hM.p4
              refine w_exu (x_stB #[s1169.v, (.int .i64 r1166.2.at_), (.int .i64 (r1166.2.done + r1153))] sz3 rfl rfl rfl rfl rfl rfl hM ?_); intro w1252 hM
              refine wl_nil ?_
              refine bk_n ?_
              obtain rfl := Option.some.inj hx
              replace hM := hM.p7.p7.p6.p6.p7.p7.p6.p7
              have hM := hM.fewer (rsC (.tail _ (.head _)) (rsC (.head _) rsN))
              replace hM : St ⟨w, X, S⟩ [oBox b993 #[s1162.v, (.int .i64 r1159.2.at_), (.int .i64 (r1159.2.done + r1153))] 120, oBox b1000 #[s1169.v, (.int .i64 r1166.2.at_), (.int .i64 (r1166.2.done + r1153))] 120, oBox b1006 #[s1228.v, s1229.v, (.int .i64 r1225.drop)] 123, oBox b1012 #[s1041.v, s1043.v, (.int .i64 n1033)] 123, oC (cSl 3 fDPart r1225.list) s1228.v, oC (cSl 1 fI r1225.put) s1229.v, oC (cSl 3 fDPart l1031) s1041.v, oC (cSl 1 fI l1032) s1043.v] [rV s1162.v (cSl 3 fDPart r1159.2.o), rV s1169.v (cSl 3 fDPart r1166.2.o)] _ := hM
              exact lp_end (m1048, r1159.2.o, r1159.2.at_, r1159.2.done + r1153, r1166.2.o, r1166.2.at_, r1166.2.done + r1153, r1225.list, r1225.put, r1225.drop, l1031, l1032, n1033, s1162, s1169, s1228, s1229, s1041, s1043) (Nat.lt_succ_self _) ⟨rfl, rfl, rfl, rfl, trivial⟩ ⟨hM, hx1050⟩
            · replace hx := xif_f hc1222 hx
              refine wc_seq ?_
              refine wc_region ?_
              refine wv rfl (r_move rfl) ?_
              refine wv rfl (r_assign rfl) ?_
              refine wl_nil ?_
              refine sq_n ?_
              refine wc_cond rfl (fun hc1256 => ?_) (fun hc1256 => ?_)
              · replace hx := xif_t hc1256 hx
                refine wc_region ?_
                refine wv rfl (r_move rfl) ?_
                refine wv rfl (r_move rfl) ?_
                replace hM := hM.p7.p7.p7
                obtain ⟨r1259, h1260, hx⟩ := bind_some' hx
                refine w_call rfl rfl (hM.callO (l := [oBox b1012 #[s1041.v, s1043.v, (.int .i64 n1033)] 123, oC (cSl 3 fDPart l1031) s1041.v, oC (cSl 1 fI l1032) s1043.v]) fun X S oL hS hR hO => ct_spec_l02Drop _ X S b1012 (⟨l1031, l1032, n1033⟩ : DL02B) s1041 s1043 r1153 hS  oL h1260) ?_
                rintro _ w1261 ⟨⟨s1262, s1263⟩, rfl, hM⟩
                replace hM : St ⟨w, X, S⟩ [oBox b1012 #[s1262.v, s1263.v, (.int .i64 r1259.drop)] 123, oC (cSl 3 fDPart r1259.list) s1262.v, oC (cSl 1 fI r1259.put) s1263.v, oBox b1000 #[s1169.v, (.int .i64 r1166.2.at_), (.int .i64 r1166.2.done)] 120, oBox b993 #[s1162.v, (.int .i64 r1159.2.at_), (.int .i64 r1159.2.done)] 120, oBox b1006 #[s1037.v, s1039.v, (.int .i64 n1030)] 123, oC (cSl 3 fDPart l1028) s1037.v, oC (cSl 1 fI l1029) s1039.v] [rV s1169.v (cSl 3 fDPart r1166.2.o), rV s1162.v (cSl 3 fDPart r1159.2.o), rV s1152.v (cSl 3 fDPart r1149.2.o), rV s1147.v (cSl 3 fDPart r1144.2.o), rV s1114.v (cSl 3 fDPart r1111.2.o), rV s1081.v (cSl 3 fDPart r1078.2.o), rV s1068.v (cSl 3 fDPart c1066.2.1), rV s1055.v (cSl 3 fDPart r1052.2.o)] _ := hM
                refine wl_nil ?_
                refine bk_n ?_
                refine sq_n ?_
                refine wc_seq ?_
                refine wc_region ?_
                refine wv rfl (r_move rfl) ?_
                refine wv rfl (r_move rfl) ?_
                refine wv rfl (r_nilck rfl) ?_
                refine wv rfl (r_fld Try.underlying120 rfl rfl sz3 rfl) ?_
                refine wv rfl (r_ldB Try.underlying3 rfl rfl hM (.tail _ (.tail _ (.tail _ (.tail _ (.head _))))) rfl) ?_
                refine wv rfl (r_move rfl) ?_
                obtain ⟨hg1271, hx⟩ := xg_some hx
                refine wv rfl (r_add rfl rfl hg1271) ?_
                refine wv rfl (r_nilck rfl) ?_
                refine wv rfl (r_fld Try.underlying120 rfl rfl sz3 rfl) ?_
                replace hM := hM.p4
                refine w_exu (x_stB #[s1162.v, (.int .i64 r1159.2.at_), (.int .i64 (r1159.2.done + r1153))] sz3 rfl rfl rfl rfl rfl rfl hM ?_); intro w1274 hM
                refine wl_nil ?_
                refine sq_n ?_
                refine wc_region ?_
                refine wv rfl (r_move rfl) ?_
                refine wv rfl (r_move rfl) ?_
                refine wv rfl (r_nilck rfl) ?_
                refine wv rfl (r_fld Try.underlying120 rfl rfl sz3 rfl) ?_
                refine wv rfl (r_ldB Try.underlying3 rfl rfl hM (.tail _ (.tail _ (.tail _ (.tail _ (.head _))))) rfl) ?_
                refine wv rfl (r_move rfl) ?_
                obtain ⟨hg1283, hx⟩ := xg_some hx
                refine wv rfl (r_add rfl rfl hg1283) ?_
                refine wv rfl (r_nilck rfl) ?_
                refine wv rfl (r_fld Try.underlying120 rfl rfl sz3 rfl) ?_
                replace hM := hM.p4
                refine w_exu (x_stB #[s1169.v, (.int .i64 r1166.2.at_), (.int .i64 (r1166.2.done + r1153))] sz3 rfl rfl rfl rfl rfl rfl hM ?_); intro w1286 hM
                refine wl_nil ?_
                refine bk_n ?_
                obtain rfl := Option.some.inj hx
                replace hM := hM.p4.p4.p7.p7.p6.p7.p6.p7
                have hM := hM.fewer (rsC (.tail _ (.head _)) (rsC (.head _) rsN))
                replace hM : St ⟨w, X, S⟩ [oBox b993 #[s1162.v, (.int .i64 r1159.2.at_), (.int .i64 (r1159.2.done + r1153))] 120, oBox b1000 #[s1169.v, (.int .i64 r1166.2.at_), (.int .i64 (r1166.2.done + r1153))] 120, oBox b1006 #[s1037.v, s1039.v, (.int .i64 n1030)] 123, oBox b1012 #[s1262.v, s1263.v, (.int .i64 r1259.drop)] 123, oC (cSl 3 fDPart l1028) s1037.v, oC (cSl 1 fI l1029) s1039.v, oC (cSl 3 fDPart r1259.list) s1262.v, oC (cSl 1 fI r1259.put) s1263.v] [rV s1162.v (cSl 3 fDPart r1159.2.o), rV s1169.v (cSl 3 fDPart r1166.2.o)] _ := hM
                exact lp_end (m1048, r1159.2.o, r1159.2.at_, r1159.2.done + r1153, r1166.2.o, r1166.2.at_, r1166.2.done + r1153, l1028, l1029, n1030, r1259.list, r1259.put, r1259.drop, s1162, s1169, s1037, s1039, s1262, s1263) (Nat.lt_succ_self _) ⟨rfl, rfl, rfl, rfl, trivial⟩ ⟨hM, hx1050⟩
              · replace hx := xif_f hc1256 hx
                refine wc_skip ?_
                refine bk_n ?_
                refine sq_n ?_
                refine wc_seq ?_
                refine wc_region ?_
                refine wv rfl (r_move rfl) ?_
                refine wv rfl (r_move rfl) ?_
                refine wv rfl (r_nilck rfl) ?_
                refine wv rfl (r_fld Try.underlying120 rfl rfl sz3 rfl) ?_
                refine wv rfl (r_ldB Try.underlying3 rfl rfl hM (.tail _ (.head _)) rfl) ?_
                refine wv rfl (r_move rfl) ?_
                obtain ⟨hg1295, hx⟩ := xg_some hx
                refine wv rfl (r_add rfl rfl hg1295) ?_
                refine wv rfl (r_nilck rfl) ?_
                refine wv rfl (r_fld Try.underlying120 rfl rfl sz3 rfl) ?_
                replace hM := hM.p1
                refine w_exu (x_stB #[s1162.v, (.int .i64 r1159.2.at_), (.int .i64 (r1159.2.done + r1153))] sz3 rfl rfl rfl rfl rfl rfl hM ?_); intro w1298 hM
                refine wl_nil ?_
                refine sq_n ?_
                refine wc_region ?_
                refine wv rfl (r_move rfl) ?_
                refine wv rfl (r_move rfl) ?_
                refine wv rfl (r_nilck rfl) ?_
                refine wv rfl (r_fld Try.underlying120 rfl rfl sz3 rfl) ?_
                refine wv rfl (r_ldB Try.underlying3 rfl rfl hM (.tail _ (.head _)) rfl) ?_
                refine wv rfl (r_move rfl) ?_
                obtain ⟨hg1307, hx⟩ := xg_some hx
                refine wv rfl (r_add rfl rfl hg1307) ?_
                refine wv rfl (r_nilck rfl) ?_
                refine wv rfl (r_fld Try.underlying120 rfl rfl sz3 rfl) ?_
                replace hM := hM.p1
                refine w_exu (x_stB #[s1169.v, (.int .i64 r1166.2.at_), (.int .i64 (r1166.2.done + r1153))] sz3 rfl rfl rfl rfl rfl rfl hM ?_); intro w1310 hM
                refine wl_nil ?_
                refine bk_n ?_
                obtain rfl := Option.some.inj hx
                replace hM := hM.p7.p7.p6.p6.p7.p7.p6.p7
                have hM := hM.fewer (rsC (.tail _ (.head _)) (rsC (.head _) rsN))
                replace hM : St ⟨w, X, S⟩ [oBox b993 #[s1162.v, (.int .i64 r1159.2.at_), (.int .i64 (r1159.2.done + r1153))] 120, oBox b1000 #[s1169.v, (.int .i64 r1166.2.at_), (.int .i64 (r1166.2.done + r1153))] 120, oBox b1006 #[s1037.v, s1039.v, (.int .i64 n1030)] 123, oBox b1012 #[s1041.v, s1043.v, (.int .i64 n1033)] 123, oC (cSl 3 fDPart l1028) s1037.v, oC (cSl 1 fI l1029) s1039.v, oC (cSl 3 fDPart l1031) s1041.v, oC (cSl 1 fI l1032) s1043.v] [rV s1162.v (cSl 3 fDPart r1159.2.o), rV s1169.v (cSl 3 fDPart r1166.2.o)] _ := hM
                exact lp_end (m1048, r1159.2.o, r1159.2.at_, r1159.2.done + r1153, r1166.2.o, r1166.2.at_, r1166.2.done + r1153, l1028, l1029, n1030, l1031, l1032, n1033, s1162, s1169, s1037, s1039, s1041, s1043) (Nat.lt_succ_self _) ⟨rfl, rfl, rfl, rfl, trivial⟩ ⟨hM, hx1050⟩
    · replace hx := xif_f hc1076 hx
      refine wc_exit ?_
      refine sq_exit ?_
      refine lp1_exit ?_
      obtain rfl := Option.some.inj hx
      obtain rfl := Option.some.inj hx1050
      replace hx := hx1017
      try dsimp only [Sum.elim_inl, Sum.elim_inr] at hx
      refine bk_here ?_
      refine sq_n ?_
      refine wc_seq ?_
      refine wc_region ?_
      refine wv rfl (r_move rfl) ?_
      replace hM := hM.p4.p4.p4
      obtain ⟨r1313, h1314, hx⟩ := bind_some' hx
      refine w_call rfl rfl (hM.callO (l := [oBox b1006 #[s1037.v, s1039.v, (.int .i64 n1030)] 123, oC (cSl 3 fDPart l1028) s1037.v, oC (cSl 1 fI l1029) s1039.v]) fun X S oL hS hR hO => ct_spec_l02Done _ X S b1006 (⟨l1028, l1029, n1030⟩ : DL02B) s1037 s1039 hS  oL h1314) ?_
      rintro _ w1315 ⟨⟨s1316, s1317, s1318⟩, rfl, hM⟩
      replace hM : St ⟨w, X, S⟩ [oC (cSl 3 fDPart r1313.1) s1316.v, oBox b1006 #[s1317.v, s1318.v, (.int .i64 r1313.2.drop)] 123, oC (cSl 1 fI r1313.2.put) s1318.v, oBox b993 #[s1055.v, (.int .i64 r1052.2.at_), (.int .i64 r1052.2.done)] 120, oBox b1000 #[s1068.v, (.int .i64 c1066.2.2.1), (.int .i64 c1066.2.2.2)] 120, oBox b1012 #[s1041.v, s1043.v, (.int .i64 n1033)] 123, oC (cSl 3 fDPart l1031) s1041.v, oC (cSl 1 fI l1032) s1043.v] [rV s1068.v (cSl 3 fDPart c1066.2.1), rV s1055.v (cSl 3 fDPart r1052.2.o)] _ := hM
      refine wv rfl (r_assign rfl) ?_
      refine wl_nil ?_
      refine sq_n ?_
      refine wc_seq ?_
      refine wc_region ?_
      refine wv rfl (r_move rfl) ?_
      replace hM := hM.p7.p7.p7
      obtain ⟨r1322, h1323, hx⟩ := bind_some' hx
      refine w_call rfl rfl (hM.callO (l := [oBox b1012 #[s1041.v, s1043.v, (.int .i64 n1033)] 123, oC (cSl 3 fDPart l1031) s1041.v, oC (cSl 1 fI l1032) s1043.v]) fun X S oL hS hR hO => ct_spec_l02Done _ X S b1012 (⟨l1031, l1032, n1033⟩ : DL02B) s1041 s1043 hS  oL h1323) ?_
      rintro _ w1324 ⟨⟨s1325, s1326, s1327⟩, rfl, hM⟩
      replace hM : St ⟨w, X, S⟩ [oC (cSl 3 fDPart r1322.1) s1325.v, oBox b1012 #[s1326.v, s1327.v, (.int .i64 r1322.2.drop)] 123, oC (cSl 1 fI r1322.2.put) s1327.v, oC (cSl 3 fDPart r1313.1) s1316.v, oBox b1006 #[s1317.v, s1318.v, (.int .i64 r1313.2.drop)] 123, oC (cSl 1 fI r1313.2.put) s1318.v, oBox b993 #[s1055.v, (.int .i64 r1052.2.at_), (.int .i64 r1052.2.done)] 120, oBox b1000 #[s1068.v, (.int .i64 c1066.2.2.1), (.int .i64 c1066.2.2.2)] 120] [rV s1068.v (cSl 3 fDPart c1066.2.1), rV s1055.v (cSl 3 fDPart r1052.2.o)] _ := hM
      refine wv rfl (r_assign rfl) ?_
      refine wl_nil ?_
      refine sq_n ?_
      refine wc_seq ?_
      refine wc_seq ?_
      refine wc_region ?_
      refine wv rfl (r_move rfl) ?_
      obtain ⟨r1331, h1332, hx⟩ := bind_some' hx
      refine w_call rfl rfl (hM.callV fun X S oL hS hR hO => ct_spec_OpOk _ X S r1313.1 s1316 hS (seeA hO (.tail _ (.tail _ (.tail _ (.head _))))) oL h1332) ?_
      rintro _ w1333 ⟨rfl, hR1334⟩
      have hM := hM.call hR1334
      refine wv rfl (r_not rfl) ?_
      refine wv rfl (r_move rfl) ?_
      obtain ⟨c1337, hx, hx1345⟩ := bind_some' hx
      refine wl_mid 4 (fun _ : Unit => [(138, (.bool c1337)), (16, s1316.v), (17, s1325.v)]) (fun _ w' => St ⟨w, X, S⟩ [oC (cSl 3 fDPart r1322.1) s1325.v, oBox b1012 #[s1326.v, s1327.v, (.int .i64 r1322.2.drop)] 123, oC (cSl 1 fI r1322.2.put) s1327.v, oC (cSl 3 fDPart r1313.1) s1316.v, oBox b1006 #[s1317.v, s1318.v, (.int .i64 r1313.2.drop)] 123, oC (cSl 1 fI r1313.2.put) s1318.v, oBox b993 #[s1055.v, (.int .i64 r1052.2.at_), (.int .i64 r1052.2.done)] 120, oBox b1000 #[s1068.v, (.int .i64 c1066.2.2.1), (.int .i64 c1066.2.2.2)] 120] [rV s1068.v (cSl 3 fDPart c1066.2.1), rV s1055.v (cSl 3 fDPart r1052.2.o)] w') ?_ ?_
      · rcases Bool.eq_false_or_eq_true (!r1331) with hg1338 | hg1338
        · replace hx := xif_t hg1338 hx
          refine gs rfl (isB_no hg1338) rfl ?_
          refine gs rfl (isB_no hg1338) rfl ?_
          refine gs rfl (isB_no hg1338) rfl ?_
          refine wv rfl (p_t rfl hg1338 rfl) ?_
          obtain rfl := Option.some.inj hx
          exact mid_nil () ⟨rfl, rfl, rfl, trivial⟩ hM
        · replace hx := xif_f hg1338 hx
          refine gv rfl hg1338 rfl (r_move rfl) ?_
          obtain ⟨r1347, h1348, hx⟩ := bind_some' hx
          refine gc rfl hg1338 rfl rfl (hM.callV fun X S oL hS hR hO => ct_spec_OpOk _ X S r1322.1 s1325 hS (seeA hO (.head _)) oL h1348) ?_
          rintro _ w1349 ⟨rfl, hR1350⟩
          have hM := hM.call hR1350
          refine gv rfl hg1338 rfl (r_not rfl) ?_
          refine wv rfl (p_f rfl hg1338 rfl) ?_
          obtain rfl := Option.some.inj hx
          exact mid_nil () ⟨rfl, rfl, rfl, trivial⟩ hM
      rintro _ w1352 hM
      replace hx := hx1345
      refine wl_nil ?_
      refine sq_n ?_
      refine wc_cond rfl (fun hc1353 => ?_) (fun hc1353 => ?_)
      · replace hx := xif_t hc1353 hx
        refine wc_seq ?_
        refine wc_region ?_
        refine wv rfl (r_assign rfl) ?_
        refine wv rfl (r_assign rfl) ?_
        refine wv rfl (r_assign rfl) ?_
        refine wl_nil ?_
        refine sq_n ?_
        refine wc_ret ?_
        refine sq_ret ?_
        obtain rfl := Option.some.inj hx
        have hM := hM.nil0 (T := DPart) 3 fDPart
        have hM := hM.nil0 (T := DPart) 3 fDPart
        refine fin_ret [nS.v, nS.v, (.bool false)] ⟨rfl, rfl, rfl, trivial⟩ ?_
        replace hM := hM.p1
        replace hM := hM.t2
        have hM := hM.fewer rsN
        exact ⟨(nS, nS), rfl, hM.gives⟩
      · replace hx := xif_f hc1353 hx
        refine wc_skip ?_
        refine sq_n ?_
        refine wc_seq ?_
        refine wc_region ?_
        refine wv rfl (r_move rfl) ?_
        refine wv rfl (r_move rfl) ?_
        refine wv rfl (r_assign rfl) ?_
        refine wv rfl (r_assign rfl) ?_
        refine wv rfl (r_assign rfl) ?_
        refine wl_nil ?_
        refine sq_n ?_
        refine wc_ret ?_
        obtain rfl := Option.some.inj hx
        refine fin_ret [s1316.v, s1325.v, (.bool true)] ⟨rfl, rfl, rfl, trivial⟩ ?_
        replace hM := hM.p3
        replace hM := hM.t2
        have hM := hM.fewer rsN
        exact ⟨(s1316, s1325), rfl, hM.gives⟩

end Go.Proofs.Ythfkcpdechjmnaa
