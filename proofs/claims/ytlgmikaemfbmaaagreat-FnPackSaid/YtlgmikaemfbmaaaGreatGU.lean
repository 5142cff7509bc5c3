/- Walks of functions of this program (printed by a program of ours, by the rules of the layer). No condition. -/
import Derived.Test.YtlgmikaemfbmaaaGreatG3
import Derived.Test.YtlgmikaemfbmaaaGreatNs
namespace Go.Proofs.YtlgmikaemfbmaaaGreat
open Go.RowKit

noncomputable def x_spec_l04Size (p : DPart) : Option Int :=
  bif decide (p.kind = 2) then (some (p.signs.length : Int)) else (some p.n)
theorem ct_spec_l04Size (w : World) (X S : Bs) (p : DPart) (s_p_2 : Sv) (hS : ∀ b, S b → b < w.heap.size ∧ ¬ X b) (a_p_2 : (cSl 1 fI p.signs).rd S w s_p_2.v) (oL : Sep [] X w) {r : Int} (hx : x_spec_l04Size p = some r) :
  Ret Tryz.prog 120 [(.agg #[(.int .i64 p.kind), (.int .i64 p.n), s_p_2.v])] w (fun u w' => ∃ _ : Unit, u = (.int .i64 r) ∧ Gives X S w [] [] w') := by
 unfold x_spec_l04Size at hx
 refine enter Tryz.func120 rfl Tryz.ntmps120 (by kernel_rfl) rfl ?_
 have hM := St.enter oL hS
 have hM := hM.addE (r := rV s_p_2.v (cSl 1 fI p.signs)) a_p_2
 refine wc_sr ?_
 refine w_ex rfl (x_box rfl hM ?_); intro b17 w16 hR18 hM
 dsimp only [Value.cells] at hM
 refine was rfl rfl ?_
 refine wl_sq ?_
 refine wc_seq ?_
 refine wc_sr ?_
 refine wv rfl (r_fld Tryz.underlying95 rfl rfl sz3 rfl) ?_
 refine wv rfl (r_ldB Tryz.underlying3 rfl rfl hM (.head _) rfl) ?_
 refine wv rfl (r_eql rfl rfl) ?_
 refine wl_sq ?_
 refine wc_cond rfl (fun hc24 => ?_) (fun hc24 => ?_)
 ·
  replace hx := xif_t hc24 hx
  refine wc_sr ?_
  refine wv rfl (r_fld Tryz.underlying95 rfl rfl sz23 rfl) ?_
  refine wv rfl (r_ldB Tryz.underlying23 rfl rfl hM (.head _) rfl) ?_
  refine wv rfl (r_lenC Tryz.underlying23 rfl (hM.seeR (.head _))) ?_
  refine was rfl rfl ?_
  refine wl_sq ?_
  refine wc_ret ?_
  refine sq_ret ?_
  obtain rfl := Option.some.inj hx
  refine fin_ret [(.int .i64 (p.signs.length : Int))] ⟨rfl, trivial⟩ ?_
  replace hM := hM.t0
  have hM := hM.fewer rsN
  exact ⟨(), rfl, hM.gives⟩
 ·
  replace hx := xif_f hc24 hx
  refine wc_skip ?_
  refine sq_n ?_
  refine wc_sr ?_
  refine wv rfl (r_fld Tryz.underlying95 rfl rfl sz3 rfl) ?_
  refine wv rfl (r_ldB Tryz.underlying3 rfl rfl hM (.head _) rfl) ?_
  refine was rfl rfl ?_
  refine wl_sq ?_
  refine wc_ret ?_
  obtain rfl := Option.some.inj hx
  refine fin_ret [(.int .i64 p.n)] ⟨rfl, trivial⟩ ?_
  replace hM := hM.t0
  have hM := hM.fewer rsN
  exact ⟨(), rfl, hM.gives⟩

noncomputable def x_spec_l04Kind_b0 (c : DL04Cur) (n77 : Int) (n78 : Int) : Option (Lr (Int × Int) (Int × Int)) :=
  Option.bind (bif decide (n77 < (c.o.length : Int)) then (xg (0 ≤ n77 ∧ n77 < (c.o.length : Int)) <| Option.bind (x_spec_l04Size (el c.o n77.toNat)) fun r206 => some (decide (n78 = r206))) else (some false)) fun c164 => bif c164 then (xg (inI (n77 + 1)) <| some (Lr.go (n77 + 1, 0))) else (some (Lr.out (n77, n78)))
noncomputable def x_spec_l04Kind_f0 (c : DL04Cur) (s227 : Int × Int) : Option (Lr (Int × Int) (Int × Int)) := x_spec_l04Kind_b0 c s227.1 s227.2
noncomputable def x_spec_l04Kind (c : DL04Cur) : Option (Int × DL04Cur) :=
  Option.bind (iter (x_spec_l04Kind_f0 c) (c.at_, c.done)) fun (y228 : Int × Int) => bif decide (y228.1 = (c.o.length : Int)) then (some (0, (⟨c.o, y228.1, y228.2⟩ : DL04Cur))) else (xg (0 ≤ y228.1 ∧ y228.1 < (c.o.length : Int)) <| some ((el c.o y228.1.toNat).kind, (⟨c.o, y228.1, y228.2⟩ : DL04Cur)))
theorem ct_spec_l04Kind (w : World) (X S : Bs) (b_c : Nat) (c : DL04Cur) (s_c_0 : Sv) (hS : ∀ b, S b → b < w.heap.size ∧ ¬ X b) (a_c_0 : (cSl 3 fDPart c.o).rd S w s_c_0.v) (oL : Sep [oBox b_c #[s_c_0.v, (.int .i64 c.at_), (.int .i64 c.done)] 144] X w) {r : Int × DL04Cur} (hx : x_spec_l04Kind c = some r) :
  Ret Tryz.prog 115 [(.pointer (some ⟨b_c, 0, none⟩))] w (fun u w' => ∃ y : Sv, u = (.int .i64 r.1) ∧ Gives X S w [oBox b_c #[y.v, (.int .i64 r.2.at_), (.int .i64 r.2.done)] 144] [rV y.v (cSl 3 fDPart r.2.o)] w') := by
 unfold x_spec_l04Kind at hx
 refine enter Tryz.func115 rfl Tryz.ntmps115 (by kernel_rfl) rfl ?_
 have hM := St.enter oL hS
 have hM := hM.addE (r := rV s_c_0.v (cSl 3 fDPart c.o)) a_c_0
 refine wc_sr ?_
 refine was rfl rfl ?_
 refine wl_sq ?_
 refine wc_seq ?_
 refine wc_block ?_
 obtain ⟨y259, hx, hx260⟩ := bind_some' hx
 obtain ⟨m265, hx⟩ := iter_run hx
 refine wc_loop (un fun (m263 : Nat) => un fun (n261 : Int) => fun (n262 : Int) => [(0, (.pointer (some ⟨b_c, 0, none⟩)))]) (un fun (m263 : Nat) => un fun (n261 : Int) => fun (n262 : Int) w' => St ⟨w, X, S⟩ [oBox b_c #[s_c_0.v, (.int .i64 n261), (.int .i64 n262)] 144] [rV s_c_0.v (cSl 3 fDPart c.o)] w' ∧ iterN _ m263 (n261, n262) = some y259) (fun p => p.1) (m265, c.at_, c.done) ⟨rfl, trivial⟩ ⟨hM, hx⟩ ?_
 rintro ⟨m263, n261, n262⟩ w266 ⟨hM, hx⟩
 obtain ⟨m267, z268, rfl, hx, hx269⟩ := iterN_step hx
 unfold x_spec_l04Kind_f0 x_spec_l04Kind_b0 at hx
 try dsimp only at hx
 refine wc_seq ?_
 refine wc_seq ?_
 refine wc_draw [(0, 0), (1, 0), (2, 0), (3, 0), (4, 0), (5, 0), (6, 0), (7, 0), (8, 0), (9, 0), (10, 0), (11, 0), (12, 0), (13, 0), (14, 0), (15, 0), (16, 0), (17, 0), (18, 0), (19, 0), (20, 0), (21, 0), (22, 0), (23, 0), (24, 0), (25, 0), (26, 0), (27, 0)] Tryz_mixed (by kernel_rfl) rfl (by kernel_rfl) rfl ?_
 refine omv rfl rfl ?_
 refine ov rfl (fun w' h' => r_nilck rfl) ?_
 refine ov rfl (fun w' h' => r_fld Tryz.underlying144 rfl rfl sz3 rfl) ?_
 refine ov rfl (fun w' h' => r_ldB Tryz.underlying3 rfl rfl (hM.call h') (.head _) rfl) ?_
 refine omv rfl rfl ?_
 refine ov rfl (fun w' h' => r_nilck rfl) ?_
 refine ov rfl (fun w' h' => r_fld Tryz.underlying144 rfl rfl sz48 rfl) ?_
 refine ov rfl (fun w' h' => r_ldB Tryz.underlying48 rfl rfl (hM.call h') (.head _) rfl) ?_
 refine ov rfl (fun w' h' => r_lenC Tryz.underlying48 rfl ((hM.call h').seeR (.head _))) ?_
 refine ov rfl (fun w' h' => r_lss rfl rfl) ?_
 refine omv rfl rfl ?_
 obtain ⟨c281, hx, hx305⟩ := bind_some' hx
 refine wo_mid 17 [(30, (.bool c281)), (0, (.pointer (some ⟨b_c, 0, none⟩)))] rfl ?_ ?_
 ·
  rcases Bool.eq_false_or_eq_true (decide (n261 < (c.o.length : Int))) with hg282 | hg282
  ·
   replace hx := xif_t hg282 hx
   refine ogv rfl hg282 rfl (fun w' h' => r_move rfl) ?_
   refine ogv rfl hg282 rfl (fun w' h' => r_nilck rfl) ?_
   refine ogv rfl hg282 rfl (fun w' h' => r_fld Tryz.underlying144 rfl rfl sz3 rfl) ?_
   refine ogv rfl hg282 rfl (fun w' h' => r_ldB Tryz.underlying3 rfl rfl (hM.call h') (.head _) rfl) ?_
   refine ogv rfl hg282 rfl (fun w' h' => r_move rfl) ?_
   refine ogv rfl hg282 rfl (fun w' h' => r_nilck rfl) ?_
   refine ogv rfl hg282 rfl (fun w' h' => r_fld Tryz.underlying144 rfl rfl sz48 rfl) ?_
   refine ogv rfl hg282 rfl (fun w' h' => r_ldB Tryz.underlying48 rfl rfl (hM.call h') (.head _) rfl) ?_
   refine ogv rfl hg282 rfl (fun w' h' => r_move rfl) ?_
   refine ogv rfl hg282 rfl (fun w' h' => r_nilck rfl) ?_
   refine ogv rfl hg282 rfl (fun w' h' => r_fld Tryz.underlying144 rfl rfl sz3 rfl) ?_
   refine ogv rfl hg282 rfl (fun w' h' => r_ldB Tryz.underlying3 rfl rfl (hM.call h') (.head _) rfl) ?_
   obtain ⟨hg320, hx⟩ := xg_some hx
   have hi319 : n261.toNat < c.o.length := by omega
   refine ogv rfl hg282 rfl (fun w' h' => r_ixC Tryz.underlying48 sz95 rfl rfl ((hM.call h').seeR (.head _)) hg320) ?_
   obtain ⟨s322, hM, hc323⟩ := hM.leaf (i := n261.toNat) (j := 2) (.head _) (fun _ => rfl) hi319 rfl
   refine ogv rfl hg282 rfl (fun w' h' => r_ldC (o := n261.toNat * 3) Tryz.underlying95 sz95 rfl (us := [(.int .i64 ((el c.o n261.toNat).kind)), (.int .i64 ((el c.o n261.toNat).n)), s322.v]) rfl ((hM.call h').seeR (.tail _ (.head _))) hi319 ⟨(Cs.get (i := n261.toNat) (j := 0) ((hM.call h').seeR (.tail _ (.head _))) (fun _ => rfl) hi319 rfl), (Cs.get (i := n261.toNat) (j := 1) ((hM.call h').seeR (.tail _ (.head _))) (fun _ => rfl) hi319 rfl), (hc323 w' h'), trivial⟩) ?_
   obtain ⟨r324, h325, hx⟩ := bind_some' hx
   refine ogc rfl hg282 rfl rfl (fun w' h' => (hM.call h').callV fun X S oL hS hR hO => ct_spec_l04Size _ X S (el c.o n261.toNat) s322 hS (hR _ (.head _)) oL h325) ?_
   refine ogv rfl hg282 rfl (fun w' h' => r_eql rfl rfl) ?_
   refine ov rfl (fun w' h' => p_t rfl hg282 rfl) ?_
   obtain rfl := Option.some.inj hx
   exact mid_onil ⟨rfl, rfl, trivial⟩
  ·
   replace hx := xif_f hg282 hx
   refine ogs rfl (isB_no hg282) rfl ?_
   refine ogs rfl (isB_no hg282) rfl ?_
   refine ogs rfl (isB_no hg282) rfl ?_
   refine ogs rfl (isB_no hg282) rfl ?_
   refine ogs rfl (isB_no hg282) rfl ?_
   refine ogs rfl (isB_no hg282) rfl ?_
   refine ogs rfl (isB_no hg282) rfl ?_
   refine ogs rfl (isB_no hg282) rfl ?_
   refine ogs rfl (isB_no hg282) rfl ?_
   refine ogs rfl (isB_no hg282) rfl ?_
   refine ogs rfl (isB_no hg282) rfl ?_
   refine ogs rfl (isB_no hg282) rfl ?_
   refine ogs rfl (isB_no hg282) rfl ?_
   refine ogs rfl (isB_no hg282) rfl ?_
   refine ogs rfl (isB_no hg282) rfl ?_
   refine ogs rfl (isB_no hg282) rfl ?_
   refine ov rfl (fun w' h' => p_f rfl hg282 rfl) ?_
   obtain rfl := Option.some.inj hx
   exact mid_onil ⟨rfl, rfl, trivial⟩
 replace hx := hx305
 refine o_nilM hM fun w328 hM => ?_
 refine sq_n ?_
 refine wc_cond rfl (fun hc330 => ?_) (fun hc330 => ?_)
 ·
  replace hx := xif_t hc330 hx
  refine wc_skip ?_
  refine sq_n ?_
  refine wc_block ?_
  refine wc_sr ?_
  refine wmv rfl rfl ?_
  refine wv rfl (r_nilck rfl) ?_
  refine wv rfl (r_fld Tryz.underlying144 rfl rfl sz3 rfl) ?_
  refine wv rfl (r_ldB Tryz.underlying3 rfl rfl hM (.head _) rfl) ?_
  obtain ⟨hg336, hx⟩ := xg_some hx
  refine wv rfl (r_add rfl rfl hg336) ?_
  refine wv rfl (r_nilck rfl) ?_
  refine wv rfl (r_fld Tryz.underlying144 rfl rfl sz3 rfl) ?_
  refine w_exu (x_stB #[s_c_0.v, (.int .i64 (n261 + 1)), (.int .i64 n262)] sz3 rfl rfl rfl rfl rfl rfl hM ?_); intro w339 hM
  refine wl_sq ?_
  refine wc_region ?_
  refine wmv rfl rfl ?_
  refine wv rfl (r_nilck rfl) ?_
  refine wv rfl (r_fld Tryz.underlying144 rfl rfl sz3 rfl) ?_
  refine w_exu (x_stB #[s_c_0.v, (.int .i64 (n261 + 1)), (.int .i64 0)] sz3 rfl rfl rfl rfl rfl rfl hM ?_); intro w344 hM
  refine wl_nil ?_
  refine bk_n ?_
  obtain rfl := Option.some.inj hx
  exact lp_end (m267, n261 + 1, 0) (Nat.lt_succ_self _) ⟨rfl, trivial⟩ ⟨hM, hx269⟩
 ·
  replace hx := xif_f hc330 hx
  refine wc_exit ?_
  refine sq_exit ?_
  refine lp1_exit ?_
  obtain rfl := Option.some.inj hx
  obtain rfl := Option.some.inj hx269
  replace hx := hx260
  try dsimp only [Sum.elim_inl, Sum.elim_inr] at hx
  refine bk_here ?_
  refine sq_n ?_
  refine wc_seq ?_
  refine wc_seq ?_
  refine wc_draw [(0, 0), (1, 0), (2, 0), (3, 0), (4, 0), (5, 0), (6, 0), (7, 0), (8, 0), (9, 0)] Tryz_mixed (by kernel_rfl) rfl (by kernel_rfl) rfl ?_
  refine omv rfl rfl ?_
  refine ov rfl (fun w' h' => r_nilck rfl) ?_
  refine ov rfl (fun w' h' => r_fld Tryz.underlying144 rfl rfl sz3 rfl) ?_
  refine ov rfl (fun w' h' => r_ldB Tryz.underlying3 rfl rfl (hM.call h') (.head _) rfl) ?_
  refine omv rfl rfl ?_
  refine ov rfl (fun w' h' => r_nilck rfl) ?_
  refine ov rfl (fun w' h' => r_fld Tryz.underlying144 rfl rfl sz48 rfl) ?_
  refine ov rfl (fun w' h' => r_ldB Tryz.underlying48 rfl rfl (hM.call h') (.head _) rfl) ?_
  refine ov rfl (fun w' h' => r_lenC Tryz.underlying48 rfl ((hM.call h').seeR (.head _))) ?_
  refine ov rfl (fun w' h' => r_eql rfl rfl) ?_
  refine o_nilM hM fun w356 hM => ?_
  refine sq_n ?_
  refine wc_cond rfl (fun hc358 => ?_) (fun hc358 => ?_)
  ·
   replace hx := xif_t hc358 hx
   refine wc_sr ?_
   refine was rfl rfl ?_
   refine wl_sq ?_
   refine wc_ret ?_
   refine sq_ret ?_
   obtain rfl := Option.some.inj hx
   refine fin_ret [(.int .i64 0)] ⟨rfl, trivial⟩ ?_
   replace hM := hM.t1
   have hM := hM.fewer (rsC (.head _) rsN)
   exact ⟨s_c_0, rfl, hM.gives⟩
  ·
   replace hx := xif_f hc358 hx
   refine wc_skip ?_
   refine sq_n ?_
   refine wc_seq ?_
   refine wc_draw [(0, 0), (1, 0), (2, 0), (3, 0), (4, 0), (5, 0), (6, 0), (7, 0), (8, 0), (9, 0), (10, 0), (11, 0)] Tryz_mixed (by kernel_rfl) rfl (by kernel_rfl) rfl ?_
   refine omv rfl rfl ?_
   refine ov rfl (fun w' h' => r_nilck rfl) ?_
   refine ov rfl (fun w' h' => r_fld Tryz.underlying144 rfl rfl sz48 rfl) ?_
   refine ov rfl (fun w' h' => r_ldB Tryz.underlying48 rfl rfl (hM.call h') (.head _) rfl) ?_
   refine omv rfl rfl ?_
   refine ov rfl (fun w' h' => r_nilck rfl) ?_
   refine ov rfl (fun w' h' => r_fld Tryz.underlying144 rfl rfl sz3 rfl) ?_
   refine ov rfl (fun w' h' => r_ldB Tryz.underlying3 rfl rfl (hM.call h') (.head _) rfl) ?_
   obtain ⟨hg370, hx⟩ := xg_some hx
   have hi369 : n261.toNat < c.o.length := by omega
   refine ov rfl (fun w' h' => r_ixC Tryz.underlying48 sz95 rfl rfl ((hM.call h').seeR (.head _)) hg370) ?_
   refine ov rfl (fun w' h' => r_fldC (i := n261.toNat) Tryz.underlying95 rfl rfl sz3 rfl ((hM.call h').seeR (.head _)) hi369) ?_
   refine ov rfl (fun w' h' => r_ld Tryz.underlying3 rfl rfl (Cs.get (i := n261.toNat) (j := 0) ((hM.call h').seeR (.head _)) (fun _ => rfl) hi369 rfl)) ?_
   refine ov rfl (fun w' h' => r_assign rfl) ?_
   refine o_nilM hM fun w374 hM => ?_
   refine sq_n ?_
   refine wc_ret ?_
   obtain rfl := Option.some.inj hx
   refine fin_ret [(.int .i64 ((el c.o n261.toNat).kind))] ⟨rfl, trivial⟩ ?_
   replace hM := hM.t1
   have hM := hM.fewer (rsC (.head _) rsN)
   exact ⟨s_c_0, rfl, hM.gives⟩

noncomputable def x_spec_l04Left (c : DL04Cur) : Option (Int × DL04Cur) :=
  xg (0 ≤ c.at_ ∧ c.at_ < (c.o.length : Int)) <| Option.bind (x_spec_l04Size (el c.o c.at_.toNat)) fun r17 => xg (inI (r17 - c.done)) <| some (r17 - c.done, c)
theorem ct_spec_l04Left (w : World) (X S : Bs) (b_c : Nat) (c : DL04Cur) (s_c_0 : Sv) (hS : ∀ b, S b → b < w.heap.size ∧ ¬ X b) (a_c_0 : (cSl 3 fDPart c.o).rd S w s_c_0.v) (oL : Sep [oBox b_c #[s_c_0.v, (.int .i64 c.at_), (.int .i64 c.done)] 144] X w) {r : Int × DL04Cur} (hx : x_spec_l04Left c = some r) :
  Ret Tryz.prog 116 [(.pointer (some ⟨b_c, 0, none⟩))] w (fun u w' => ∃ y : Sv, u = (.int .i64 r.1) ∧ Gives X S w [oBox b_c #[y.v, (.int .i64 r.2.at_), (.int .i64 r.2.done)] 144] [rV y.v (cSl 3 fDPart r.2.o)] w') := by
 unfold x_spec_l04Left at hx
 refine enter Tryz.func116 rfl Tryz.ntmps116 (by kernel_rfl) rfl ?_
 have hM := St.enter oL hS
 have hM := hM.addE (r := rV s_c_0.v (cSl 3 fDPart c.o)) a_c_0
 refine wc_sr ?_
 refine was rfl rfl ?_
 refine wl_sq ?_
 refine wc_seq ?_
 refine wc_draw [(0, 0), (1, 0), (2, 0), (3, 0), (4, 0), (5, 0), (6, 0), (7, 0), (8, 0), (9, 0), (10, 0), (11, 0), (12, 0), (13, 0), (14, 0), (15, 0), (16, 0)] Tryz_mixed (by kernel_rfl) rfl (by kernel_rfl) rfl ?_
 refine omv rfl rfl ?_
 refine ov rfl (fun w' h' => r_nilck rfl) ?_
 refine ov rfl (fun w' h' => r_fld Tryz.underlying144 rfl rfl sz48 rfl) ?_
 refine ov rfl (fun w' h' => r_ldB Tryz.underlying48 rfl rfl (hM.call h') (.head _) rfl) ?_
 refine omv rfl rfl ?_
 refine ov rfl (fun w' h' => r_nilck rfl) ?_
 refine ov rfl (fun w' h' => r_fld Tryz.underlying144 rfl rfl sz3 rfl) ?_
 refine ov rfl (fun w' h' => r_ldB Tryz.underlying3 rfl rfl (hM.call h') (.head _) rfl) ?_
 obtain ⟨hg40, hx⟩ := xg_some hx
 have hi39 : c.at_.toNat < c.o.length := by omega
 refine ov rfl (fun w' h' => r_ixC Tryz.underlying48 sz95 rfl rfl ((hM.call h').seeR (.head _)) hg40) ?_
 obtain ⟨s42, hM, hc43⟩ := hM.leaf (i := c.at_.toNat) (j := 2) (.head _) (fun _ => rfl) hi39 rfl
 refine ov rfl (fun w' h' => r_ldC (o := c.at_.toNat * 3) Tryz.underlying95 sz95 rfl (us := [(.int .i64 ((el c.o c.at_.toNat).kind)), (.int .i64 ((el c.o c.at_.toNat).n)), s42.v]) rfl ((hM.call h').seeR (.tail _ (.head _))) hi39 ⟨(Cs.get (i := c.at_.toNat) (j := 0) ((hM.call h').seeR (.tail _ (.head _))) (fun _ => rfl) hi39 rfl), (Cs.get (i := c.at_.toNat) (j := 1) ((hM.call h').seeR (.tail _ (.head _))) (fun _ => rfl) hi39 rfl), (hc43 w' h'), trivial⟩) ?_
 obtain ⟨r44, h45, hx⟩ := bind_some' hx
 refine oc rfl rfl (fun w' h' => (hM.call h').callV fun X S oL hS hR hO => ct_spec_l04Size _ X S (el c.o c.at_.toNat) s42 hS (hR _ (.head _)) oL h45) ?_
 refine omv rfl rfl ?_
 refine ov rfl (fun w' h' => r_nilck rfl) ?_
 refine ov rfl (fun w' h' => r_fld Tryz.underlying144 rfl rfl sz3 rfl) ?_
 refine ov rfl (fun w' h' => r_ldB Tryz.underlying3 rfl rfl (hM.call h') (.head _) rfl) ?_
 obtain ⟨hg52, hx⟩ := xg_some hx
 refine ov rfl (fun w' h' => r_sub rfl rfl hg52) ?_
 refine ov rfl (fun w' h' => r_assign rfl) ?_
 refine o_nilM hM fun w54 hM => ?_
 refine sq_n ?_
 refine wc_ret ?_
 obtain rfl := Option.some.inj hx
 refine fin_ret [(.int .i64 (r44 - c.done))] ⟨rfl, trivial⟩ ?_
 replace hM := hM.t1
 have hM := hM.fewer (rsC (.tail _ (.head _)) rsN)
 exact ⟨s_c_0, rfl, hM.gives⟩

noncomputable def x_spec_l04Take (c : DL04Cur) (n : Int) : Option (List Int × DL04Cur) :=
  xg (0 ≤ c.at_ ∧ c.at_ < (c.o.length : Int)) <| xg (inI (c.done + n)) <| xg (0 ≤ c.done ∧ c.done ≤ (c.done + n) ∧ (c.done + n) ≤ (((el c.o c.at_.toNat).signs).length : Int)) <| xg (inI (c.done + n)) <| some ((((el c.o c.at_.toNat).signs).take ((c.done + n).toNat)).drop c.done.toNat, (⟨c.o, c.at_, c.done + n⟩ : DL04Cur))
theorem ct_spec_l04Take (w : World) (X S : Bs) (b_c : Nat) (c : DL04Cur) (s_c_0 : Sv) (n : Int) (hS : ∀ b, S b → b < w.heap.size ∧ ¬ X b) (a_c_0 : (cSl 3 fDPart c.o).rd S w s_c_0.v) (oL : Sep [oBox b_c #[s_c_0.v, (.int .i64 c.at_), (.int .i64 c.done)] 144] X w) {r : List Int × DL04Cur} (hx : x_spec_l04Take c n = some r) :
  Ret Tryz.prog 117 [(.pointer (some ⟨b_c, 0, none⟩)), (.int .i64 n)] w (fun u w' => ∃ y : Sv × Sv, u = y.1.v ∧ Gives X S w [oBox b_c #[y.2.v, (.int .i64 r.2.at_), (.int .i64 r.2.done)] 144] [rV y.1.v (cSl 1 fI r.1), rV y.2.v (cSl 3 fDPart r.2.o)] w') := by
 unfold x_spec_l04Take at hx
 refine enter Tryz.func117 rfl Tryz.ntmps117 (by kernel_rfl) rfl ?_
 have hM := St.enter oL hS
 have hM := hM.addE (r := rV s_c_0.v (cSl 3 fDPart c.o)) a_c_0
 refine wc_sr ?_
 refine was rfl rfl ?_
 refine wl_sq ?_
 refine wc_seq ?_
 refine wc_draw [(0, 0), (1, 0), (2, 0), (3, 0), (4, 0), (5, 0), (6, 0), (7, 0), (8, 0), (9, 0), (10, 0), (11, 0), (12, 0), (13, 0), (14, 0), (15, 0), (16, 0), (17, 0), (18, 0), (19, 0), (20, 0), (21, 0), (22, 0)] Tryz_mixed (by kernel_rfl) rfl (by kernel_rfl) rfl ?_
 refine omv rfl rfl ?_
 refine ov rfl (fun w' h' => r_nilck rfl) ?_
 refine ov rfl (fun w' h' => r_fld Tryz.underlying144 rfl rfl sz48 rfl) ?_
 refine ov rfl (fun w' h' => r_ldB Tryz.underlying48 rfl rfl (hM.call h') (.head _) rfl) ?_
 refine omv rfl rfl ?_
 refine ov rfl (fun w' h' => r_nilck rfl) ?_
 refine ov rfl (fun w' h' => r_fld Tryz.underlying144 rfl rfl sz3 rfl) ?_
 refine ov rfl (fun w' h' => r_ldB Tryz.underlying3 rfl rfl (hM.call h') (.head _) rfl) ?_
 obtain ⟨hg59, hx⟩ := xg_some hx
 have hi58 : c.at_.toNat < c.o.length := by omega
 refine ov rfl (fun w' h' => r_ixC Tryz.underlying48 sz95 rfl rfl ((hM.call h').seeR (.head _)) hg59) ?_
 refine ov rfl (fun w' h' => r_fldC (i := c.at_.toNat) Tryz.underlying95 rfl rfl sz23 rfl ((hM.call h').seeR (.head _)) hi58) ?_
 obtain ⟨s62, hM, hc63⟩ := hM.leaf (i := c.at_.toNat) (j := 2) (.head _) (fun _ => rfl) hi58 rfl
 refine ov rfl (fun w' h' => r_ld Tryz.underlying23 rfl rfl (hc63 w' h')) ?_
 refine omv rfl rfl ?_
 refine ov rfl (fun w' h' => r_nilck rfl) ?_
 refine ov rfl (fun w' h' => r_fld Tryz.underlying144 rfl rfl sz3 rfl) ?_
 refine ov rfl (fun w' h' => r_ldB Tryz.underlying3 rfl rfl (hM.call h') (.head _) rfl) ?_
 refine omv rfl rfl ?_
 refine ov rfl (fun w' h' => r_nilck rfl) ?_
 refine ov rfl (fun w' h' => r_fld Tryz.underlying144 rfl rfl sz3 rfl) ?_
 refine ov rfl (fun w' h' => r_ldB Tryz.underlying3 rfl rfl (hM.call h') (.head _) rfl) ?_
 refine omv rfl rfl ?_
 obtain ⟨hg74, hx⟩ := xg_some hx
 refine ov rfl (fun w' h' => r_add rfl rfl hg74) ?_
 obtain ⟨hg76, hx⟩ := xg_some hx
 have hM := hM.cutR (L := ((el c.o c.at_.toNat).signs)) (f := fI) (lo := c.done.toNat) (hi := ((c.done + n).toNat)) (fun _ => rfl) (by omega) (by omega) (.head _)
 refine ov rfl (fun w' h' => r_slc Tryz.underlying23 sz3 rfl rfl rfl ((hM.call h').seeR (.tail _ (.head _))) hg76) ?_
 refine ov rfl (fun w' h' => r_assign rfl) ?_
 refine o_nilM hM fun w78 hM => ?_
 refine sq_n ?_
 refine wc_sr ?_
 refine wmv rfl rfl ?_
 refine wmv rfl rfl ?_
 refine wv rfl (r_nilck rfl) ?_
 refine wv rfl (r_fld Tryz.underlying144 rfl rfl sz3 rfl) ?_
 refine wv rfl (r_ldB Tryz.underlying3 rfl rfl hM (.head _) rfl) ?_
 refine wmv rfl rfl ?_
 obtain ⟨hg87, hx⟩ := xg_some hx
 refine wv rfl (r_add rfl rfl hg87) ?_
 refine wv rfl (r_nilck rfl) ?_
 refine wv rfl (r_fld Tryz.underlying144 rfl rfl sz3 rfl) ?_
 refine w_exu (x_stB #[s_c_0.v, (.int .i64 c.at_), (.int .i64 (c.done + n))] sz3 rfl rfl rfl rfl rfl rfl hM ?_); intro w90 hM
 refine wl_sq ?_
 refine wc_sr ?_
 refine wmv rfl rfl ?_
 refine was rfl rfl ?_
 refine wl_sq ?_
 refine wc_ret ?_
 obtain rfl := Option.some.inj hx
 refine fin_ret [(s62.cut 1 c.done.toNat ((c.done + n).toNat)).v] ⟨rfl, trivial⟩ ?_
 replace hM := hM.t1
 have hM := hM.fewer (rsC (.head _) (rsC (.tail _ (.tail _ (.head _))) rsN))
 exact ⟨((s62.cut 1 c.done.toNat ((c.done + n).toNat)), s_c_0), rfl, hM.gives⟩

noncomputable def x_spec_l04Min (x : Int) (y_ : Int) : Option Int :=
  bif decide (x < y_) then (some x) else (some y_)
theorem ct_spec_l04Min (w : World) (X S : Bs) (x : Int) (y_ : Int) (hS : ∀ b, S b → b < w.heap.size ∧ ¬ X b)  (oL : Sep [] X w) {r : Int} (hx : x_spec_l04Min x y_ = some r) :
  Ret Tryz.prog 118 [(.int .i64 x), (.int .i64 y_)] w (fun u w' => ∃ _ : Unit, u = (.int .i64 r) ∧ Gives X S w [] [] w') := by
 unfold x_spec_l04Min at hx
 refine enter Tryz.func118 rfl Tryz.ntmps118 (by kernel_rfl) rfl ?_
 have hM := St.enter oL hS
 refine wc_sr ?_
 refine was rfl rfl ?_
 refine wl_sq ?_
 refine wc_seq ?_
 refine wc_sr ?_
 refine wmv rfl rfl ?_
 refine wmv rfl rfl ?_
 refine wv rfl (r_lss rfl rfl) ?_
 refine wl_sq ?_
 refine wc_cond rfl (fun hc13 => ?_) (fun hc13 => ?_)
 ·
  replace hx := xif_t hc13 hx
  refine wc_sr ?_
  refine wmv rfl rfl ?_
  refine was rfl rfl ?_
  refine wl_sq ?_
  refine wc_ret ?_
  refine sq_ret ?_
  obtain rfl := Option.some.inj hx
  refine fin_ret [(.int .i64 x)] ⟨rfl, trivial⟩ ?_
  replace hM := hM.t0
  have hM := hM.fewer rsN
  exact ⟨(), rfl, hM.gives⟩
 ·
  replace hx := xif_f hc13 hx
  refine wc_skip ?_
  refine sq_n ?_
  refine wc_sr ?_
  refine wmv rfl rfl ?_
  refine was rfl rfl ?_
  refine wl_sq ?_
  refine wc_ret ?_
  obtain rfl := Option.some.inj hx
  refine fin_ret [(.int .i64 y_)] ⟨rfl, trivial⟩ ?_
  replace hM := hM.t0
  have hM := hM.fewer rsN
  exact ⟨(), rfl, hM.gives⟩

noncomputable def x_spec_Transform_b0 (l350 : List DPart) (n351 : Int) (n352 : Int) (l353 : List DPart) (n354 : Int) (n355 : Int) (l356 : List DPart) (l357 : List Int) (n358 : Int) (l359 : List DPart) (l360 : List Int) (n361 : Int) : Option (Lr (List DPart × Int × Int × List DPart × Int × Int × List DPart × List Int × Int × List DPart × List Int × Int) (List DPart × List Int × Int × List DPart × List Int × Int)) :=
  Option.bind (x_spec_l04Kind (⟨l350, n351, n352⟩ : DL04Cur)) fun r624 => Option.bind (bif !decide (r624.1 = 0) then (some (true, l353, n354, n355)) else (Option.bind (x_spec_l04Kind (⟨l353, n354, n355⟩ : DL04Cur)) fun r640 => some (!decide (r640.1 = 0), r640.2.o, r640.2.at_, r640.2.done))) fun (c638 : Bool × List DPart × Int × Int) => bif c638.1 then (Option.bind (x_spec_l04Kind r624.2) fun r647 => bif decide (r647.1 = 2) then (Option.bind (x_spec_l04Left r647.2) fun r653 => Option.bind (x_spec_l04Take r653.2 r653.1) fun r661 => Option.bind (x_spec_l02Put (⟨l356, l357, n358⟩ : DL02B) r661.1) fun r666 => Option.bind (x_spec_l02Keep (⟨l359, l360, n361⟩ : DL02B) r653.1) fun r673 => some (Lr.go (r661.2.o, r661.2.at_, r661.2.done, c638.2.1, c638.2.2.1, c638.2.2.2, r666.list, r666.put, r666.drop, r673.list, r673.put, r673.drop))) else (Option.bind (x_spec_l04Kind (⟨c638.2.1, c638.2.2.1, c638.2.2.2⟩ : DL04Cur)) fun r679 => bif decide (r679.1 = 2) then (Option.bind (x_spec_l04Left r679.2) fun r685 => Option.bind (x_spec_l04Take r685.2 r685.1) fun r693 => Option.bind (x_spec_l02Put (⟨l359, l360, n361⟩ : DL02B) r693.1) fun r698 => Option.bind (x_spec_l02Keep (⟨l356, l357, n358⟩ : DL02B) r685.1) fun r705 => some (Lr.go (r647.2.o, r647.2.at_, r647.2.done, r693.2.o, r693.2.at_, r693.2.done, r705.list, r705.put, r705.drop, r698.list, r698.put, r698.drop))) else (Option.bind (x_spec_l04Left r647.2) fun r711 => Option.bind (x_spec_l04Left r679.2) fun r716 => Option.bind (x_spec_l04Min r711.1 r716.1) fun r720 => Option.bind (x_spec_l04Kind r711.2) fun r726 => Option.bind (x_spec_l04Kind r716.2) fun r733 => Option.bind (bif decide (r726.1 = 1) then (some (decide (r733.1 = 1))) else (some false)) fun c741 => bif c741 then (Option.bind (x_spec_l02Keep (⟨l356, l357, n358⟩ : DL02B) r720) fun r748 => Option.bind (x_spec_l02Keep (⟨l359, l360, n361⟩ : DL02B) r720) fun r755 => xg (inI (r726.2.done + r720)) <| xg (inI (r733.2.done + r720)) <| some (Lr.go (r726.2.o, r726.2.at_, r726.2.done + r720, r733.2.o, r733.2.at_, r733.2.done + r720, r748.list, r748.put, r748.drop, r755.list, r755.put, r755.drop))) else (bif decide (r733.1 = 1) then (Option.bind (x_spec_l02Drop (⟨l356, l357, n358⟩ : DL02B) r720) fun r788 => xg (inI (r726.2.done + r720)) <| xg (inI (r733.2.done + r720)) <| some (Lr.go (r726.2.o, r726.2.at_, r726.2.done + r720, r733.2.o, r733.2.at_, r733.2.done + r720, r788.list, r788.put, r788.drop, l359, l360, n361))) else (bif decide (r726.1 = 1) then (Option.bind (x_spec_l02Drop (⟨l359, l360, n361⟩ : DL02B) r720) fun r821 => xg (inI (r726.2.done + r720)) <| xg (inI (r733.2.done + r720)) <| some (Lr.go (r726.2.o, r726.2.at_, r726.2.done + r720, r733.2.o, r733.2.at_, r733.2.done + r720, l356, l357, n358, r821.list, r821.put, r821.drop))) else (xg (inI (r726.2.done + r720)) <| xg (inI (r733.2.done + r720)) <| some (Lr.go (r726.2.o, r726.2.at_, r726.2.done + r720, r733.2.o, r733.2.at_, r733.2.done + r720, l356, l357, n358, l359, l360, n361)))))))) else (some (Lr.out (l356, l357, n358, l359, l360, n361)))
noncomputable def x_spec_Transform_f0 (s874 : List DPart × Int × Int × List DPart × Int × Int × List DPart × List Int × Int × List DPart × List Int × Int) : Option (Lr (List DPart × Int × Int × List DPart × Int × Int × List DPart × List Int × Int × List DPart × List Int × Int) (List DPart × List Int × Int × List DPart × List Int × Int)) := x_spec_Transform_b0 s874.1 s874.2.1 s874.2.2.1 s874.2.2.2.1 s874.2.2.2.2.1 s874.2.2.2.2.2.1 s874.2.2.2.2.2.2.1 s874.2.2.2.2.2.2.2.1 s874.2.2.2.2.2.2.2.2.1 s874.2.2.2.2.2.2.2.2.2.1 s874.2.2.2.2.2.2.2.2.2.2.1 s874.2.2.2.2.2.2.2.2.2.2.2
noncomputable def x_spec_Transform (a : List DPart) (b : List DPart) : Option (List DPart × List DPart × Bool) :=
  Option.bind (x_spec_OpOk a) fun r5 => Option.bind (bif !r5 then (some true) else (Option.bind (x_spec_OpOk b) fun r20 => some (!r20))) fun c11 => Option.bind (bif c11 then (some true) else (Option.bind (x_spec_OpFrom a) fun r40 => Option.bind (x_spec_OpFrom b) fun r45 => some (!decide (r40 = r45)))) fun c26 => bif c26 then (some ([], [], false)) else (Option.bind (iter (x_spec_Transform_f0) (a, 0, 0, b, 0, 0, [], [], 0, [], [], 0)) fun (y875 : List DPart × List Int × Int × List DPart × List Int × Int) => Option.bind (x_spec_l02Done (⟨y875.1, y875.2.1, y875.2.2.1⟩ : DL02B)) fun r885 => Option.bind (x_spec_l02Done (⟨y875.2.2.2.1, y875.2.2.2.2.1, y875.2.2.2.2.2⟩ : DL02B)) fun r894 => Option.bind (x_spec_OpOk r885.1) fun r903 => Option.bind (bif !r903 then (some true) else (Option.bind (x_spec_OpOk r894.1) fun r918 => some (!r918))) fun c909 => bif c909 then (some ([], [], false)) else (some (r885.1, r894.1, true)))
theorem ct_spec_Transform (w : World) (X S : Bs) (a : List DPart) (s_a : Sv) (b : List DPart) (s_b : Sv) (hS : ∀ b, S b → b < w.heap.size ∧ ¬ X b) (a_a_0 : (cSl 3 fDPart a).rd S w s_a.v) (a_b_0 : (cSl 3 fDPart b).rd S w s_b.v) (oL : Sep [] X w) {r : List DPart × List DPart × Bool} (hx : x_spec_Transform a b = some r) :
  Ret Tryz.prog 109 [s_a.v, s_b.v] w (fun u w' => ∃ y : Sv × Sv, u = .tuple #[y.1.v, y.2.v, (.bool r.2.2)] ∧ Gives X S w [oC (cSl 3 fDPart r.1) y.1.v, oC (cSl 3 fDPart r.2.1) y.2.v] [] w') := by
 unfold x_spec_Transform at hx
 refine enter Tryz.func109 rfl Tryz.ntmps109 (by kernel_rfl) rfl ?_
 have hM := St.enter oL hS
 have hM := hM.addE (r := rV s_a.v (cSl 3 fDPart a)) a_a_0
 have hM := hM.addE (r := rV s_b.v (cSl 3 fDPart b)) a_b_0
 refine wc_sr ?_
 refine was rfl rfl ?_
 refine was rfl rfl ?_
 refine was rfl rfl ?_
 refine wl_sq ?_
 refine wc_seq ?_
 refine wc_sr ?_
 refine wmv rfl rfl ?_
 obtain ⟨r935, h936, hx⟩ := bind_some' hx
 refine w_call rfl rfl (hM.callV fun X S oL hS hR hO => ct_spec_OpOk _ X S a s_a hS (hR _ (.tail _ (.head _))) oL h936) ?_
 rintro _ w937 ⟨rfl, hR938⟩
 have hM := hM.call hR938
 refine wv rfl (r_not rfl) ?_
 refine wmv rfl rfl ?_
 obtain ⟨c941, hx, hx949⟩ := bind_some' hx
 refine wl_mid 4 (fun _ : Unit => [(25, (.bool c941)), (0, s_a.v), (1, s_b.v)]) (fun _ w' => St ⟨w, X, S⟩ [] [rV s_b.v (cSl 3 fDPart b), rV s_a.v (cSl 3 fDPart a)] w') ?_ ?_
 ·
  rcases Bool.eq_false_or_eq_true (!r935) with hg942 | hg942
  ·
   replace hx := xif_t hg942 hx
   refine gs rfl (isB_no hg942) rfl ?_
   refine gs rfl (isB_no hg942) rfl ?_
   refine gs rfl (isB_no hg942) rfl ?_
   refine wv rfl (p_t rfl hg942 rfl) ?_
   obtain rfl := Option.some.inj hx
   exact mid_nil () ⟨rfl, rfl, rfl, trivial⟩ hM
  ·
   replace hx := xif_f hg942 hx
   refine gv rfl hg942 rfl (r_move rfl) ?_
   obtain ⟨r951, h952, hx⟩ := bind_some' hx
   refine gc rfl hg942 rfl rfl (hM.callV fun X S oL hS hR hO => ct_spec_OpOk _ X S b s_b hS (hR _ (.head _)) oL h952) ?_
   rintro _ w953 ⟨rfl, hR954⟩
   have hM := hM.call hR954
   refine gv rfl hg942 rfl (r_not rfl) ?_
   refine wv rfl (p_f rfl hg942 rfl) ?_
   obtain rfl := Option.some.inj hx
   exact mid_nil () ⟨rfl, rfl, rfl, trivial⟩ hM
 rintro _ w956 hM
 replace hx := hx949
 refine wmv rfl rfl ?_
 obtain ⟨c958, hx, hx971⟩ := bind_some' hx
 refine wl_mid 6 (fun _ : Unit => [(32, (.bool c958)), (0, s_a.v), (1, s_b.v)]) (fun _ w' => St ⟨w, X, S⟩ [] [rV s_b.v (cSl 3 fDPart b), rV s_a.v (cSl 3 fDPart a)] w') ?_ ?_
 ·
  rcases Bool.eq_false_or_eq_true c941 with hg959 | hg959
  ·
   replace hx := xif_t hg959 hx
   refine gs rfl (isB_no hg959) rfl ?_
   refine gs rfl (isB_no hg959) rfl ?_
   refine gs rfl (isB_no hg959) rfl ?_
   refine gs rfl (isB_no hg959) rfl ?_
   refine gs rfl (isB_no hg959) rfl ?_
   refine wv rfl (p_t rfl hg959 rfl) ?_
   obtain rfl := Option.some.inj hx
   exact mid_nil () ⟨rfl, rfl, rfl, trivial⟩ hM
  ·
   replace hx := xif_f hg959 hx
   refine gv rfl hg959 rfl (r_move rfl) ?_
   obtain ⟨r973, h974, hx⟩ := bind_some' hx
   refine gc rfl hg959 rfl rfl (hM.callV fun X S oL hS hR hO => ct_spec_OpFrom _ X S a s_a hS (hR _ (.tail _ (.head _))) oL h974) ?_
   rintro _ w975 ⟨rfl, hR976⟩
   have hM := hM.call hR976
   refine gv rfl hg959 rfl (r_move rfl) ?_
   obtain ⟨r978, h979, hx⟩ := bind_some' hx
   refine gc rfl hg959 rfl rfl (hM.callV fun X S oL hS hR hO => ct_spec_OpFrom _ X S b s_b hS (hR _ (.head _)) oL h979) ?_
   rintro _ w980 ⟨rfl, hR981⟩
   have hM := hM.call hR981
   refine gv rfl hg959 rfl (r_neq rfl rfl) ?_
   refine wv rfl (p_f rfl hg959 rfl) ?_
   obtain rfl := Option.some.inj hx
   exact mid_nil () ⟨rfl, rfl, rfl, trivial⟩ hM
 rintro _ w983 hM
 replace hx := hx971
 refine wl_sq ?_
 refine wc_cond rfl (fun hc984 => ?_) (fun hc984 => ?_)
 ·
  replace hx := xif_t hc984 hx
  refine wc_sr ?_
  refine was rfl rfl ?_
  refine was rfl rfl ?_
  refine was rfl rfl ?_
  refine wl_sq ?_
  refine wc_ret ?_
  refine sq_ret ?_
  obtain rfl := Option.some.inj hx
  have hM := hM.nil0 (T := DPart) 3 fDPart
  have hM := hM.nil0 (T := DPart) 3 fDPart
  refine fin_ret [nS.v, nS.v, (.bool false)] ⟨rfl, rfl, rfl, trivial⟩ ?_
  replace hM := hM.p1
  replace hM := hM.t2
  have hM := hM.fewer rsN
  exact ⟨(nS, nS), rfl, hM.gives⟩
 ·
  replace hx := xif_f hc984 hx
  refine wc_skip ?_
  refine sq_n ?_
  refine wc_sr ?_
  refine wmv rfl rfl ?_
  refine wv rfl (r_build (cells := #[s_a.v, (.int .i64 0), (.int .i64 0)]) rfl (by kernel_rfl)) ?_
  refine w_ex rfl (x_box rfl hM ?_); intro b993 w992 hR994 hM
  dsimp only [Value.cells] at hM
  refine was rfl rfl ?_
  refine wl_sq ?_
  refine wc_sr ?_
  refine wmv rfl rfl ?_
  refine wv rfl (r_build (cells := #[s_b.v, (.int .i64 0), (.int .i64 0)]) rfl (by kernel_rfl)) ?_
  refine w_ex rfl (x_box rfl hM ?_); intro b1000 w999 hR1001 hM
  dsimp only [Value.cells] at hM
  refine was rfl rfl ?_
  refine wl_sq ?_
  refine wc_sr ?_
  refine wv rfl (r_build (cells := #[(.slice none 0 0), (.slice none 0 0), (.int .i64 0)]) rfl (by kernel_rfl)) ?_
  refine w_ex rfl (x_box rfl hM ?_); intro b1006 w1005 hR1007 hM
  dsimp only [Value.cells] at hM
  refine was rfl rfl ?_
  refine wl_sq ?_
  refine wc_sr ?_
  refine wv rfl (r_build (cells := #[(.slice none 0 0), (.slice none 0 0), (.int .i64 0)]) rfl (by kernel_rfl)) ?_
  refine w_ex rfl (x_box rfl hM ?_); intro b1012 w1011 hR1013 hM
  dsimp only [Value.cells] at hM
  refine was rfl rfl ?_
  refine wl_sq ?_
  refine wc_seq ?_
  refine wc_block ?_
  obtain ⟨y1016, hx, hx1017⟩ := bind_some' hx
  have hM := hM.nil0 (T := DPart) 3 fDPart
  have hM := hM.nil0 (T := Int) 1 fI
  have hM := hM.nil0 (T := DPart) 3 fDPart
  have hM := hM.nil0 (T := Int) 1 fI
  replace hM := hM.p1.p2.p3.p4.p5.p6.p7
  have hM := hM.fewer (rsC (.tail _ (.head _)) (rsC (.head _) rsN))
  replace hM : St ⟨w, X, S⟩ [oBox b993 #[s_a.v, (.int .i64 0), (.int .i64 0)] 144, oBox b1000 #[s_b.v, (.int .i64 0), (.int .i64 0)] 144, oBox b1006 #[nS.v, nS.v, (.int .i64 0)] 138, oBox b1012 #[nS.v, nS.v, (.int .i64 0)] 138, oC (cSl 3 fDPart ([] : List DPart)) nS.v, oC (cSl 1 fI ([] : List Int)) nS.v, oC (cSl 3 fDPart ([] : List DPart)) nS.v, oC (cSl 1 fI ([] : List Int)) nS.v] [rV s_a.v (cSl 3 fDPart a), rV s_b.v (cSl 3 fDPart b)] _ := hM
  obtain ⟨m1046, hx⟩ := iter_run hx
  refine wc_loop (un fun (m1044 : Nat) => un fun (l1022 : List DPart) => un fun (n1023 : Int) => un fun (n1024 : Int) => un fun (l1025 : List DPart) => un fun (n1026 : Int) => un fun (n1027 : Int) => un fun (l1028 : List DPart) => un fun (l1029 : List Int) => un fun (n1030 : Int) => un fun (l1031 : List DPart) => un fun (l1032 : List Int) => un fun (n1033 : Int) => un fun (s1034 : Sv) => un fun (s1035 : Sv) => un fun (s1037 : Sv) => un fun (s1039 : Sv) => un fun (s1041 : Sv) => fun (s1043 : Sv) => [(7, (.pointer (some ⟨b993, 0, none⟩))), (8, (.pointer (some ⟨b1000, 0, none⟩))), (9, (.pointer (some ⟨b1006, 0, none⟩))), (10, (.pointer (some ⟨b1012, 0, none⟩)))]) (un fun (m1044 : Nat) => un fun (l1022 : List DPart) => un fun (n1023 : Int) => un fun (n1024 : Int) => un fun (l1025 : List DPart) => un fun (n1026 : Int) => un fun (n1027 : Int) => un fun (l1028 : List DPart) => un fun (l1029 : List Int) => un fun (n1030 : Int) => un fun (l1031 : List DPart) => un fun (l1032 : List Int) => un fun (n1033 : Int) => un fun (s1034 : Sv) => un fun (s1035 : Sv) => un fun (s1037 : Sv) => un fun (s1039 : Sv) => un fun (s1041 : Sv) => fun (s1043 : Sv) w' => St ⟨w, X, S⟩ [oBox b993 #[s1034.v, (.int .i64 n1023), (.int .i64 n1024)] 144, oBox b1000 #[s1035.v, (.int .i64 n1026), (.int .i64 n1027)] 144, oBox b1006 #[s1037.v, s1039.v, (.int .i64 n1030)] 138, oBox b1012 #[s1041.v, s1043.v, (.int .i64 n1033)] 138, oC (cSl 3 fDPart l1028) s1037.v, oC (cSl 1 fI l1029) s1039.v, oC (cSl 3 fDPart l1031) s1041.v, oC (cSl 1 fI l1032) s1043.v] [rV s1034.v (cSl 3 fDPart l1022), rV s1035.v (cSl 3 fDPart l1025)] w' ∧ iterN _ m1044 (l1022, n1023, n1024, l1025, n1026, n1027, l1028, l1029, n1030, l1031, l1032, n1033) = some y1016) (fun p => p.1) (m1046, a, 0, 0, b, 0, 0, [], [], 0, [], [], 0, s_a, s_b, nS, nS, nS, nS) ⟨rfl, rfl, rfl, rfl, trivial⟩ ⟨hM, hx⟩ ?_
  rintro ⟨m1044, l1022, n1023, n1024, l1025, n1026, n1027, l1028, l1029, n1030, l1031, l1032, n1033, s1034, s1035, s1037, s1039, s1041, s1043⟩ w1047 ⟨hM, hx⟩
  obtain ⟨m1048, z1049, rfl, hx, hx1050⟩ := iterN_step hx
  unfold x_spec_Transform_f0 x_spec_Transform_b0 at hx
  try dsimp only at hx
  refine wc_seq ?_
  refine wc_sr ?_
  refine wmv rfl rfl ?_
  obtain ⟨r1052, h1053, hx⟩ := bind_some' hx
  refine w_call rfl rfl (hM.callR (l := [oBox b993 #[s1034.v, (.int .i64 n1023), (.int .i64 n1024)] 144]) fun X S oL hS hR => ct_spec_l04Kind _ X S b993 (⟨l1022, n1023, n1024⟩ : DL04Cur) s1034 hS (hR _ (.head _)) oL h1053) ?_
  rintro _ w1054 ⟨s1055, rfl, hM⟩
  dsimp only [List.cons_append, List.nil_append] at hM
  refine wv rfl (r_neq rfl rfl) ?_
  refine wmv rfl rfl ?_
  obtain ⟨c1066, hx, hx1067⟩ := bind_some' hx
  refine wl_mid 4 (fun (s1068 : Sv) => [(7, (.pointer (some ⟨b993, 0, none⟩))), (8, (.pointer (some ⟨b1000, 0, none⟩))), (9, (.pointer (some ⟨b1006, 0, none⟩))), (10, (.pointer (some ⟨b1012, 0, none⟩))), (50, (.bool c1066.1))]) (fun (s1068 : Sv) w' => St ⟨w, X, S⟩ [oBox b993 #[s1055.v, (.int .i64 r1052.2.at_), (.int .i64 r1052.2.done)] 144, oBox b1000 #[s1068.v, (.int .i64 c1066.2.2.1), (.int .i64 c1066.2.2.2)] 144, oBox b1006 #[s1037.v, s1039.v, (.int .i64 n1030)] 138, oC (cSl 3 fDPart l1028) s1037.v, oC (cSl 1 fI l1029) s1039.v, oBox b1012 #[s1041.v, s1043.v, (.int .i64 n1033)] 138, oC (cSl 3 fDPart l1031) s1041.v, oC (cSl 1 fI l1032) s1043.v] [rV s1068.v (cSl 3 fDPart c1066.2.1), rV s1055.v (cSl 3 fDPart r1052.2.o)] w') ?_ ?_
  ·
   rcases Bool.eq_false_or_eq_true (!decide (r1052.1 = 0)) with hg1059 | hg1059
   ·
    replace hx := xif_t hg1059 hx
    refine gs rfl (isB_no hg1059) rfl ?_
    refine gs rfl (isB_no hg1059) rfl ?_
    refine gs rfl (isB_no hg1059) rfl ?_
    refine wv rfl (p_t rfl hg1059 rfl) ?_
    obtain rfl := Option.some.inj hx
    replace hM := hM.p7.p7.p5.p7.p7.p7.p7.p7
    have hM := hM.fewer (rsC (.tail _ (.tail _ (.head _))) (rsC (.head _) rsN))
    replace hM : St ⟨w, X, S⟩ [oBox b993 #[s1055.v, (.int .i64 r1052.2.at_), (.int .i64 r1052.2.done)] 144, oBox b1000 #[s1035.v, (.int .i64 n1026), (.int .i64 n1027)] 144, oBox b1006 #[s1037.v, s1039.v, (.int .i64 n1030)] 138, oC (cSl 3 fDPart l1028) s1037.v, oC (cSl 1 fI l1029) s1039.v, oBox b1012 #[s1041.v, s1043.v, (.int .i64 n1033)] 138, oC (cSl 3 fDPart l1031) s1041.v, oC (cSl 1 fI l1032) s1043.v] [rV s1035.v (cSl 3 fDPart l1025), rV s1055.v (cSl 3 fDPart r1052.2.o)] _ := hM
    exact mid_nil s1035 ⟨rfl, rfl, rfl, rfl, rfl, trivial⟩ hM
   ·
    replace hx := xif_f hg1059 hx
    refine gv rfl hg1059 rfl (r_move rfl) ?_
    replace hM := hM.p1
    obtain ⟨r1070, h1071, hx⟩ := bind_some' hx
    refine gc rfl hg1059 rfl rfl (hM.callR (l := [oBox b1000 #[s1035.v, (.int .i64 n1026), (.int .i64 n1027)] 144]) fun X S oL hS hR => ct_spec_l04Kind _ X S b1000 (⟨l1025, n1026, n1027⟩ : DL04Cur) s1035 hS (hR _ (.tail _ (.tail _ (.head _)))) oL h1071) ?_
    rintro _ w1072 ⟨s1073, rfl, hM⟩
    dsimp only [List.cons_append, List.nil_append] at hM
    refine gv rfl hg1059 rfl (r_neq rfl rfl) ?_
    refine wv rfl (p_f rfl hg1059 rfl) ?_
    obtain rfl := Option.some.inj hx
    replace hM := hM.p7.p7.p5.p7.p7.p7.p6.p7
    have hM := hM.fewer (rsC (.head _) (rsC (.tail _ (.head _)) rsN))
    replace hM : St ⟨w, X, S⟩ [oBox b993 #[s1055.v, (.int .i64 r1052.2.at_), (.int .i64 r1052.2.done)] 144, oBox b1000 #[s1073.v, (.int .i64 r1070.2.at_), (.int .i64 r1070.2.done)] 144, oBox b1006 #[s1037.v, s1039.v, (.int .i64 n1030)] 138, oC (cSl 3 fDPart l1028) s1037.v, oC (cSl 1 fI l1029) s1039.v, oBox b1012 #[s1041.v, s1043.v, (.int .i64 n1033)] 138, oC (cSl 3 fDPart l1031) s1041.v, oC (cSl 1 fI l1032) s1043.v] [rV s1073.v (cSl 3 fDPart r1070.2.o), rV s1055.v (cSl 3 fDPart r1052.2.o)] _ := hM
    exact mid_nil s1073 ⟨rfl, rfl, rfl, rfl, rfl, trivial⟩ hM
  rintro s1068 w1075 hM
  replace hx := hx1067
  refine wl_sq ?_
  refine wc_cond rfl (fun hc1076 => ?_) (fun hc1076 => ?_)
  ·
   replace hx := xif_t hc1076 hx
   refine wc_skip ?_
   refine sq_n ?_
   refine wc_block ?_
   refine wc_seq ?_
   refine wc_sr ?_
   refine wmv rfl rfl ?_
   obtain ⟨r1078, h1079, hx⟩ := bind_some' hx
   refine w_call rfl rfl (hM.callR (l := [oBox b993 #[s1055.v, (.int .i64 r1052.2.at_), (.int .i64 r1052.2.done)] 144]) fun X S oL hS hR => ct_spec_l04Kind _ X S b993 r1052.2 s1055 hS (hR _ (.tail _ (.head _))) oL h1079) ?_
   rintro _ w1080 ⟨s1081, rfl, hM⟩
   dsimp only [List.cons_append, List.nil_append] at hM
   refine wv rfl (r_eql rfl rfl) ?_
   refine wl_sq ?_
   refine wc_cond rfl (fun hc1083 => ?_) (fun hc1083 => ?_)
   ·
    replace hx := xif_t hc1083 hx
    refine wc_sr ?_
    refine wmv rfl rfl ?_
    obtain ⟨r1085, h1086, hx⟩ := bind_some' hx
    refine w_call rfl rfl (hM.callR (l := [oBox b993 #[s1081.v, (.int .i64 r1078.2.at_), (.int .i64 r1078.2.done)] 144]) fun X S oL hS hR => ct_spec_l04Left _ X S b993 r1078.2 s1081 hS (hR _ (.head _)) oL h1086) ?_
    rintro _ w1087 ⟨s1088, rfl, hM⟩
    dsimp only [List.cons_append, List.nil_append] at hM
    refine was rfl rfl ?_
    refine wl_sq ?_
    refine wc_sr ?_
    refine wmv rfl rfl ?_
    refine wmv rfl rfl ?_
    refine wmv rfl rfl ?_
    obtain ⟨r1093, h1094, hx⟩ := bind_some' hx
    refine w_call rfl rfl (hM.callR (l := [oBox b993 #[s1088.v, (.int .i64 r1085.2.at_), (.int .i64 r1085.2.done)] 144]) fun X S oL hS hR => ct_spec_l04Take _ X S b993 r1085.2 s1088 r1085.1 hS (hR _ (.head _)) oL h1094) ?_
    rintro _ w1095 ⟨⟨s1096, s1097⟩, rfl, hM⟩
    dsimp only [List.cons_append, List.nil_append] at hM
    replace hM := hM.p4.p4.p4
    obtain ⟨r1098, h1099, hx⟩ := bind_some' hx
    refine w_call rfl rfl (hM.callO (l := [oBox b1006 #[s1037.v, s1039.v, (.int .i64 n1030)] 138, oC (cSl 3 fDPart l1028) s1037.v, oC (cSl 1 fI l1029) s1039.v]) fun X S oL hS hR hO => ct_spec_l02Put _ X S b1006 (⟨l1028, l1029, n1030⟩ : DL02B) s1037 s1039 r1093.1 s1096 hS (hR _ (.head _)) oL h1099) ?_
    rintro _ w1100 ⟨⟨s1101, s1102⟩, rfl, hM⟩
    dsimp only [List.cons_append, List.nil_append] at hM
    refine wl_sq ?_
    refine wc_sr ?_
    refine wmv rfl rfl ?_
    refine wmv rfl rfl ?_
    replace hM := hM.p7.p7.p7
    obtain ⟨r1105, h1106, hx⟩ := bind_some' hx
    refine w_call rfl rfl (hM.callO (l := [oBox b1012 #[s1041.v, s1043.v, (.int .i64 n1033)] 138, oC (cSl 3 fDPart l1031) s1041.v, oC (cSl 1 fI l1032) s1043.v]) fun X S oL hS hR hO => ct_spec_l02Keep _ X S b1012 (⟨l1031, l1032, n1033⟩ : DL02B) s1041 s1043 r1085.1 hS  oL h1106) ?_
    rintro _ w1107 ⟨⟨s1108, s1109⟩, rfl, hM⟩
    dsimp only [List.cons_append, List.nil_append] at hM
    refine wl_sq ?_
    refine wc_exit ?_
    refine sq_exit ?_
    refine bk_here ?_
    obtain rfl := Option.some.inj hx
    replace hM := hM.p2.p2.p5.p5.p4.p5.p7.p7
    have hM := hM.fewer (rsC (.tail _ (.head _)) (rsC (.tail _ (.tail _ (.tail _ (.tail _ (.head _))))) rsN))
    replace hM : St ⟨w, X, S⟩ [oBox b993 #[s1097.v, (.int .i64 r1093.2.at_), (.int .i64 r1093.2.done)] 144, oBox b1000 #[s1068.v, (.int .i64 c1066.2.2.1), (.int .i64 c1066.2.2.2)] 144, oBox b1006 #[s1101.v, s1102.v, (.int .i64 r1098.drop)] 138, oBox b1012 #[s1108.v, s1109.v, (.int .i64 r1105.drop)] 138, oC (cSl 3 fDPart r1098.list) s1101.v, oC (cSl 1 fI r1098.put) s1102.v, oC (cSl 3 fDPart r1105.list) s1108.v, oC (cSl 1 fI r1105.put) s1109.v] [rV s1097.v (cSl 3 fDPart r1093.2.o), rV s1068.v (cSl 3 fDPart c1066.2.1)] _ := hM
    exact lp_end (m1048, r1093.2.o, r1093.2.at_, r1093.2.done, c1066.2.1, c1066.2.2.1, c1066.2.2.2, r1098.list, r1098.put, r1098.drop, r1105.list, r1105.put, r1105.drop, s1097, s1068, s1101, s1102, s1108, s1109) (Nat.lt_succ_self _) ⟨rfl, rfl, rfl, rfl, trivial⟩ ⟨hM, hx1050⟩
   ·
    replace hx := xif_f hc1083 hx
    refine wc_skip ?_
    refine sq_n ?_
    refine wc_seq ?_
    refine wc_sr ?_
    refine wmv rfl rfl ?_
    replace hM := hM.p1
    obtain ⟨r1111, h1112, hx⟩ := bind_some' hx
    refine w_call rfl rfl (hM.callR (l := [oBox b1000 #[s1068.v, (.int .i64 c1066.2.2.1), (.int .i64 c1066.2.2.2)] 144]) fun X S oL hS hR => ct_spec_l04Kind _ X S b1000 (⟨c1066.2.1, c1066.2.2.1, c1066.2.2.2⟩ : DL04Cur) s1068 hS (hR _ (.tail _ (.head _))) oL h1112) ?_
    rintro _ w1113 ⟨s1114, rfl, hM⟩
    dsimp only [List.cons_append, List.nil_append] at hM
    refine wv rfl (r_eql rfl rfl) ?_
    refine wl_sq ?_
    refine wc_cond rfl (fun hc1116 => ?_) (fun hc1116 => ?_)
    ·
     replace hx := xif_t hc1116 hx
     refine wc_sr ?_
     refine wmv rfl rfl ?_
     obtain ⟨r1118, h1119, hx⟩ := bind_some' hx
     refine w_call rfl rfl (hM.callR (l := [oBox b1000 #[s1114.v, (.int .i64 r1111.2.at_), (.int .i64 r1111.2.done)] 144]) fun X S oL hS hR => ct_spec_l04Left _ X S b1000 r1111.2 s1114 hS (hR _ (.head _)) oL h1119) ?_
     rintro _ w1120 ⟨s1121, rfl, hM⟩
     dsimp only [List.cons_append, List.nil_append] at hM
     refine was rfl rfl ?_
     refine wl_sq ?_
     refine wc_sr ?_
     refine wmv rfl rfl ?_
     refine wmv rfl rfl ?_
     refine wmv rfl rfl ?_
     obtain ⟨r1126, h1127, hx⟩ := bind_some' hx
     refine w_call rfl rfl (hM.callR (l := [oBox b1000 #[s1121.v, (.int .i64 r1118.2.at_), (.int .i64 r1118.2.done)] 144]) fun X S oL hS hR => ct_spec_l04Take _ X S b1000 r1118.2 s1121 r1118.1 hS (hR _ (.head _)) oL h1127) ?_
     rintro _ w1128 ⟨⟨s1129, s1130⟩, rfl, hM⟩
     dsimp only [List.cons_append, List.nil_append] at hM
     replace hM := hM.p7.p7.p7
     obtain ⟨r1131, h1132, hx⟩ := bind_some' hx
     refine w_call rfl rfl (hM.callO (l := [oBox b1012 #[s1041.v, s1043.v, (.int .i64 n1033)] 138, oC (cSl 3 fDPart l1031) s1041.v, oC (cSl 1 fI l1032) s1043.v]) fun X S oL hS hR hO => ct_spec_l02Put _ X S b1012 (⟨l1031, l1032, n1033⟩ : DL02B) s1041 s1043 r1126.1 s1129 hS (hR _ (.head _)) oL h1132) ?_
     rintro _ w1133 ⟨⟨s1134, s1135⟩, rfl, hM⟩
     dsimp only [List.cons_append, List.nil_append] at hM
     refine wl_sq ?_
     refine wc_sr ?_
     refine wmv rfl rfl ?_
     refine wmv rfl rfl ?_
     replace hM := hM.p7.p7.p7
     obtain ⟨r1138, h1139, hx⟩ := bind_some' hx
     refine w_call rfl rfl (hM.callO (l := [oBox b1006 #[s1037.v, s1039.v, (.int .i64 n1030)] 138, oC (cSl 3 fDPart l1028) s1037.v, oC (cSl 1 fI l1029) s1039.v]) fun X S oL hS hR hO => ct_spec_l02Keep _ X S b1006 (⟨l1028, l1029, n1030⟩ : DL02B) s1037 s1039 r1118.1 hS  oL h1139) ?_
     rintro _ w1140 ⟨⟨s1141, s1142⟩, rfl, hM⟩
     dsimp only [List.cons_append, List.nil_append] at hM
     refine wl_sq ?_
     refine wc_exit ?_
     refine sq_exit ?_
     refine bk_here ?_
     obtain rfl := Option.some.inj hx
     replace hM := hM.p5.p5.p4.p4.p5.p5.p6.p7
     have hM := hM.fewer (rsC (.tail _ (.tail _ (.tail _ (.tail _ (.head _))))) (rsC (.tail _ (.head _)) rsN))
     replace hM : St ⟨w, X, S⟩ [oBox b993 #[s1081.v, (.int .i64 r1078.2.at_), (.int .i64 r1078.2.done)] 144, oBox b1000 #[s1130.v, (.int .i64 r1126.2.at_), (.int .i64 r1126.2.done)] 144, oBox b1006 #[s1141.v, s1142.v, (.int .i64 r1138.drop)] 138, oBox b1012 #[s1134.v, s1135.v, (.int .i64 r1131.drop)] 138, oC (cSl 3 fDPart r1138.list) s1141.v, oC (cSl 1 fI r1138.put) s1142.v, oC (cSl 3 fDPart r1131.list) s1134.v, oC (cSl 1 fI r1131.put) s1135.v] [rV s1081.v (cSl 3 fDPart r1078.2.o), rV s1130.v (cSl 3 fDPart r1126.2.o)] _ := hM
     exact lp_end (m1048, r1078.2.o, r1078.2.at_, r1078.2.done, r1126.2.o, r1126.2.at_, r1126.2.done, r1138.list, r1138.put, r1138.drop, r1131.list, r1131.put, r1131.drop, s1081, s1130, s1141, s1142, s1134, s1135) (Nat.lt_succ_self _) ⟨rfl, rfl, rfl, rfl, trivial⟩ ⟨hM, hx1050⟩
    ·
     replace hx := xif_f hc1116 hx
     refine wc_skip ?_
     refine sq_n ?_
     refine wc_sr ?_
     refine wmv rfl rfl ?_
     replace hM := hM.p1
     obtain ⟨r1144, h1145, hx⟩ := bind_some' hx
     refine w_call rfl rfl (hM.callR (l := [oBox b993 #[s1081.v, (.int .i64 r1078.2.at_), (.int .i64 r1078.2.done)] 144]) fun X S oL hS hR => ct_spec_l04Left _ X S b993 r1078.2 s1081 hS (hR _ (.tail _ (.head _))) oL h1145) ?_
     rintro _ w1146 ⟨s1147, rfl, hM⟩
     dsimp only [List.cons_append, List.nil_append] at hM
     refine wmv rfl rfl ?_
     replace hM := hM.p1
     obtain ⟨r1149, h1150, hx⟩ := bind_some' hx
     refine w_call rfl rfl (hM.callR (l := [oBox b1000 #[s1114.v, (.int .i64 r1111.2.at_), (.int .i64 r1111.2.done)] 144]) fun X S oL hS hR => ct_spec_l04Left _ X S b1000 r1111.2 s1114 hS (hR _ (.tail _ (.head _))) oL h1150) ?_
     rintro _ w1151 ⟨s1152, rfl, hM⟩
     dsimp only [List.cons_append, List.nil_append] at hM
     obtain ⟨r1153, h1154, hx⟩ := bind_some' hx
     refine w_call rfl rfl (hM.callV fun X S oL hS hR hO => ct_spec_l04Min _ X S r1144.1 r1149.1 hS  oL h1154) ?_
     rintro _ w1155 ⟨rfl, hR1156⟩
     have hM := hM.call hR1156
     refine was rfl rfl ?_
     refine wl_sq ?_
     refine wc_sr ?_
     refine wmv rfl rfl ?_
     replace hM := hM.p1
     obtain ⟨r1159, h1160, hx⟩ := bind_some' hx
     refine w_call rfl rfl (hM.callR (l := [oBox b993 #[s1147.v, (.int .i64 r1144.2.at_), (.int .i64 r1144.2.done)] 144]) fun X S oL hS hR => ct_spec_l04Kind _ X S b993 r1144.2 s1147 hS (hR _ (.tail _ (.head _))) oL h1160) ?_
     rintro _ w1161 ⟨s1162, rfl, hM⟩
     dsimp only [List.cons_append, List.nil_append] at hM
     refine wv rfl (r_eql rfl rfl) ?_
     refine was rfl rfl ?_
     refine wl_sq ?_
     refine wc_sr ?_
     refine wmv rfl rfl ?_
     replace hM := hM.p1
     obtain ⟨r1166, h1167, hx⟩ := bind_some' hx
     refine w_call rfl rfl (hM.callR (l := [oBox b1000 #[s1152.v, (.int .i64 r1149.2.at_), (.int .i64 r1149.2.done)] 144]) fun X S oL hS hR => ct_spec_l04Kind _ X S b1000 r1149.2 s1152 hS (hR _ (.tail _ (.head _))) oL h1167) ?_
     rintro _ w1168 ⟨s1169, rfl, hM⟩
     dsimp only [List.cons_append, List.nil_append] at hM
     refine wv rfl (r_eql rfl rfl) ?_
     refine was rfl rfl ?_
     refine wl_sq ?_
     refine wc_seq ?_
     refine wc_block ?_
     refine wc_sr ?_
     refine wmv rfl rfl ?_
     refine wmv rfl rfl ?_
     obtain ⟨c1174, hx, hx1177⟩ := bind_some' hx
     refine wl_mid 2 (fun _ : Unit => [(92, (.bool c1174)), (7, (.pointer (some ⟨b993, 0, none⟩))), (8, (.pointer (some ⟨b1000, 0, none⟩))), (9, (.pointer (some ⟨b1006, 0, none⟩))), (10, (.pointer (some ⟨b1012, 0, none⟩))), (13, (.int .i64 r1153)), (14, (.bool (decide (r1159.1 = 1)))), (15, (.bool (decide (r1166.1 = 1))))]) (fun _ w' => St ⟨w, X, S⟩ [oBox b1000 #[s1169.v, (.int .i64 r1166.2.at_), (.int .i64 r1166.2.done)] 144, oBox b993 #[s1162.v, (.int .i64 r1159.2.at_), (.int .i64 r1159.2.done)] 144, oBox b1006 #[s1037.v, s1039.v, (.int .i64 n1030)] 138, oC (cSl 3 fDPart l1028) s1037.v, oC (cSl 1 fI l1029) s1039.v, oBox b1012 #[s1041.v, s1043.v, (.int .i64 n1033)] 138, oC (cSl 3 fDPart l1031) s1041.v, oC (cSl 1 fI l1032) s1043.v] [rV s1169.v (cSl 3 fDPart r1166.2.o), rV s1162.v (cSl 3 fDPart r1159.2.o), rV s1152.v (cSl 3 fDPart r1149.2.o), rV s1147.v (cSl 3 fDPart r1144.2.o), rV s1114.v (cSl 3 fDPart r1111.2.o), rV s1081.v (cSl 3 fDPart r1078.2.o), rV s1068.v (cSl 3 fDPart c1066.2.1), rV s1055.v (cSl 3 fDPart r1052.2.o)] w') ?_ ?_
     ·
      rcases Bool.eq_false_or_eq_true (decide (r1159.1 = 1)) with hg1175 | hg1175
      ·
       replace hx := xif_t hg1175 hx
       refine gv rfl hg1175 rfl (r_move rfl) ?_
       refine wv rfl (p_t rfl hg1175 rfl) ?_
       obtain rfl := Option.some.inj hx
       exact mid_nil () ⟨rfl, rfl, rfl, rfl, rfl, rfl, rfl, rfl, trivial⟩ hM
      ·
       replace hx := xif_f hg1175 hx
       refine gs rfl (isB_no hg1175) rfl ?_
       refine wv rfl (p_f rfl hg1175 rfl) ?_
       obtain rfl := Option.some.inj hx
       exact mid_nil () ⟨rfl, rfl, rfl, rfl, rfl, rfl, rfl, rfl, trivial⟩ hM
     rintro _ w1179 hM
     replace hx := hx1177
     refine was rfl rfl ?_
     refine wl_sq ?_
     refine wc_cond rfl (fun hc1181 => ?_) (fun hc1181 => ?_)
     ·
      replace hx := xif_t hc1181 hx
      refine wc_sr ?_
      refine wmv rfl rfl ?_
      refine wmv rfl rfl ?_
      replace hM := hM.p4.p4.p4
      obtain ⟨r1184, h1185, hx⟩ := bind_some' hx
      refine w_call rfl rfl (hM.callO (l := [oBox b1006 #[s1037.v, s1039.v, (.int .i64 n1030)] 138, oC (cSl 3 fDPart l1028) s1037.v, oC (cSl 1 fI l1029) s1039.v]) fun X S oL hS hR hO => ct_spec_l02Keep _ X S b1006 (⟨l1028, l1029, n1030⟩ : DL02B) s1037 s1039 r1153 hS  oL h1185) ?_
      rintro _ w1186 ⟨⟨s1187, s1188⟩, rfl, hM⟩
      dsimp only [List.cons_append, List.nil_append] at hM
      refine wl_sq ?_
      refine wc_region ?_
      refine wmv rfl rfl ?_
      refine wmv rfl rfl ?_
      replace hM := hM.p7.p7.p7
      obtain ⟨r1191, h1192, hx⟩ := bind_some' hx
      refine w_call rfl rfl (hM.callO (l := [oBox b1012 #[s1041.v, s1043.v, (.int .i64 n1033)] 138, oC (cSl 3 fDPart l1031) s1041.v, oC (cSl 1 fI l1032) s1043.v]) fun X S oL hS hR hO => ct_spec_l02Keep _ X S b1012 (⟨l1031, l1032, n1033⟩ : DL02B) s1041 s1043 r1153 hS  oL h1192) ?_
      rintro _ w1193 ⟨⟨s1194, s1195⟩, rfl, hM⟩
      dsimp only [List.cons_append, List.nil_append] at hM
      refine wl_nil ?_
      refine bk_n ?_
      refine sq_n ?_
      refine wc_sr ?_
      refine wmv rfl rfl ?_
      refine wmv rfl rfl ?_
      refine wv rfl (r_nilck rfl) ?_
      refine wv rfl (r_fld Tryz.underlying144 rfl rfl sz3 rfl) ?_
      refine wv rfl (r_ldB Tryz.underlying3 rfl rfl hM (.tail _ (.tail _ (.tail _ (.tail _ (.tail _ (.tail _ (.tail _ (.head _)))))))) rfl) ?_
      refine wmv rfl rfl ?_
      obtain ⟨hg1203, hx⟩ := xg_some hx
      refine wv rfl (r_add rfl rfl hg1203) ?_
      refine wv rfl (r_nilck rfl) ?_
      refine wv rfl (r_fld Tryz.underlying144 rfl rfl sz3 rfl) ?_
      replace hM := hM.p7
      refine w_exu (x_stB #[s1162.v, (.int .i64 r1159.2.at_), (.int .i64 (r1159.2.done + r1153))] sz3 rfl rfl rfl rfl rfl rfl hM ?_); intro w1206 hM
      refine wl_sq ?_
      refine wc_region ?_
      refine wmv rfl rfl ?_
      refine wmv rfl rfl ?_
      refine wv rfl (r_nilck rfl) ?_
      refine wv rfl (r_fld Tryz.underlying144 rfl rfl sz3 rfl) ?_
      refine wv rfl (r_ldB Tryz.underlying3 rfl rfl hM (.tail _ (.tail _ (.tail _ (.tail _ (.tail _ (.tail _ (.tail _ (.head _)))))))) rfl) ?_
      refine wmv rfl rfl ?_
      obtain ⟨hg1215, hx⟩ := xg_some hx
      refine wv rfl (r_add rfl rfl hg1215) ?_
      refine wv rfl (r_nilck rfl) ?_
      refine wv rfl (r_fld Tryz.underlying144 rfl rfl sz3 rfl) ?_
      replace hM := hM.p7
      refine w_exu (x_stB #[s1169.v, (.int .i64 r1166.2.at_), (.int .i64 (r1166.2.done + r1153))] sz3 rfl rfl rfl rfl rfl rfl hM ?_); intro w1218 hM
      refine wl_nil ?_
      refine bk_n ?_
      obtain rfl := Option.some.inj hx
      replace hM := hM.p4.p4.p7.p7.p6.p7.p6.p7
      have hM := hM.fewer (rsC (.tail _ (.head _)) (rsC (.head _) rsN))
      replace hM : St ⟨w, X, S⟩ [oBox b993 #[s1162.v, (.int .i64 r1159.2.at_), (.int .i64 (r1159.2.done + r1153))] 144, oBox b1000 #[s1169.v, (.int .i64 r1166.2.at_), (.int .i64 (r1166.2.done + r1153))] 144, oBox b1006 #[s1187.v, s1188.v, (.int .i64 r1184.drop)] 138, oBox b1012 #[s1194.v, s1195.v, (.int .i64 r1191.drop)] 138, oC (cSl 3 fDPart r1184.list) s1187.v, oC (cSl 1 fI r1184.put) s1188.v, oC (cSl 3 fDPart r1191.list) s1194.v, oC (cSl 1 fI r1191.put) s1195.v] [rV s1162.v (cSl 3 fDPart r1159.2.o), rV s1169.v (cSl 3 fDPart r1166.2.o)] _ := hM
      exact lp_end (m1048, r1159.2.o, r1159.2.at_, r1159.2.done + r1153, r1166.2.o, r1166.2.at_, r1166.2.done + r1153, r1184.list, r1184.put, r1184.drop, r1191.list, r1191.put, r1191.drop, s1162, s1169, s1187, s1188, s1194, s1195) (Nat.lt_succ_self _) ⟨rfl, rfl, rfl, rfl, trivial⟩ ⟨hM, hx1050⟩
     ·
      replace hx := xif_f hc1181 hx
      refine wc_sr ?_
      refine wmv rfl rfl ?_
      refine was rfl rfl ?_
      refine wl_sq ?_
      refine wc_cond rfl (fun hc1222 => ?_) (fun hc1222 => ?_)
      ·
       replace hx := xif_t hc1222 hx
       refine wc_region ?_
       refine wmv rfl rfl ?_
       refine wmv rfl rfl ?_
       replace hM := hM.p4.p4.p4
       obtain ⟨r1225, h1226, hx⟩ := bind_some' hx
       refine w_call rfl rfl (hM.callO (l := [oBox b1006 #[s1037.v, s1039.v, (.int .i64 n1030)] 138, oC (cSl 3 fDPart l1028) s1037.v, oC (cSl 1 fI l1029) s1039.v]) fun X S oL hS hR hO => ct_spec_l02Drop _ X S b1006 (⟨l1028, l1029, n1030⟩ : DL02B) s1037 s1039 r1153 hS  oL h1226) ?_
       rintro _ w1227 ⟨⟨s1228, s1229⟩, rfl, hM⟩
       dsimp only [List.cons_append, List.nil_append] at hM
       refine wl_nil ?_
       refine bk_n ?_
       refine sq_n ?_
       refine wc_sr ?_
       refine wmv rfl rfl ?_
       refine wmv rfl rfl ?_
       refine wv rfl (r_nilck rfl) ?_
       refine wv rfl (r_fld Tryz.underlying144 rfl rfl sz3 rfl) ?_
       refine wv rfl (r_ldB Tryz.underlying3 rfl rfl hM (.tail _ (.tail _ (.tail _ (.tail _ (.head _))))) rfl) ?_
       refine wmv rfl rfl ?_
       obtain ⟨hg1237, hx⟩ := xg_some hx
       refine wv rfl (r_add rfl rfl hg1237) ?_
       refine wv rfl (r_nilck rfl) ?_
       refine wv rfl (r_fld Tryz.underlying144 rfl rfl sz3 rfl) ?_
       replace hM := hM.p4
       refine w_exu (x_stB #[s1162.v, (.int .i64 r1159.2.at_), (.int .i64 (r1159.2.done + r1153))] sz3 rfl rfl rfl rfl rfl rfl hM ?_); intro w1240 hM
       refine wl_sq ?_
       refine wc_region ?_
       refine wmv rfl rfl ?_
       refine wmv rfl rfl ?_
       refine wv rfl (r_nilck rfl) ?_
       refine wv rfl (r_fld Tryz.underlying144 rfl rfl sz3 rfl) ?_
       refine wv rfl (r_ldB Tryz.underlying3 rfl rfl hM (.tail _ (.tail _ (.tail _ (.tail _ (.head _))))) rfl) ?_
       refine wmv rfl rfl ?_
       obtain ⟨hg1249, hx⟩ := xg_some hx
       refine wv rfl (r_add rfl rfl hg1249) ?_
       refine wv rfl (r_nilck rfl) ?_
       refine wv rfl (r_fld Tryz.underlying144 rfl rfl sz3 rfl) ?_
       replace hM := hM.p4
       refine w_exu (x_stB #[s1169.v, (.int .i64 r1166.2.at_), (.int .i64 (r1166.2.done + r1153))] sz3 rfl rfl rfl rfl rfl rfl hM ?_); intro w1252 hM
       refine wl_nil ?_
       refine bk_n ?_
       obtain rfl := Option.some.inj hx
       replace hM := hM.p7.p7.p6.p6.p7.p7.p6.p7
       have hM := hM.fewer (rsC (.tail _ (.head _)) (rsC (.head _) rsN))
       replace hM : St ⟨w, X, S⟩ [oBox b993 #[s1162.v, (.int .i64 r1159.2.at_), (.int .i64 (r1159.2.done + r1153))] 144, oBox b1000 #[s1169.v, (.int .i64 r1166.2.at_), (.int .i64 (r1166.2.done + r1153))] 144, oBox b1006 #[s1228.v, s1229.v, (.int .i64 r1225.drop)] 138, oBox b1012 #[s1041.v, s1043.v, (.int .i64 n1033)] 138, oC (cSl 3 fDPart r1225.list) s1228.v, oC (cSl 1 fI r1225.put) s1229.v, oC (cSl 3 fDPart l1031) s1041.v, oC (cSl 1 fI l1032) s1043.v] [rV s1162.v (cSl 3 fDPart r1159.2.o), rV s1169.v (cSl 3 fDPart r1166.2.o)] _ := hM
       exact lp_end (m1048, r1159.2.o, r1159.2.at_, r1159.2.done + r1153, r1166.2.o, r1166.2.at_, r1166.2.done + r1153, r1225.list, r1225.put, r1225.drop, l1031, l1032, n1033, s1162, s1169, s1228, s1229, s1041, s1043) (Nat.lt_succ_self _) ⟨rfl, rfl, rfl, rfl, trivial⟩ ⟨hM, hx1050⟩
      ·
       replace hx := xif_f hc1222 hx
       refine wc_sr ?_
       refine wmv rfl rfl ?_
       refine was rfl rfl ?_
       refine wl_sq ?_
       refine wc_cond rfl (fun hc1256 => ?_) (fun hc1256 => ?_)
       ·
        replace hx := xif_t hc1256 hx
        refine wc_region ?_
        refine wmv rfl rfl ?_
        refine wmv rfl rfl ?_
        replace hM := hM.p7.p7.p7
        obtain ⟨r1259, h1260, hx⟩ := bind_some' hx
        refine w_call rfl rfl (hM.callO (l := [oBox b1012 #[s1041.v, s1043.v, (.int .i64 n1033)] 138, oC (cSl 3 fDPart l1031) s1041.v, oC (cSl 1 fI l1032) s1043.v]) fun X S oL hS hR hO => ct_spec_l02Drop _ X S b1012 (⟨l1031, l1032, n1033⟩ : DL02B) s1041 s1043 r1153 hS  oL h1260) ?_
        rintro _ w1261 ⟨⟨s1262, s1263⟩, rfl, hM⟩
        dsimp only [List.cons_append, List.nil_append] at hM
        refine wl_nil ?_
        refine bk_n ?_
        refine sq_n ?_
        refine wc_sr ?_
        refine wmv rfl rfl ?_
        refine wmv rfl rfl ?_
        refine wv rfl (r_nilck rfl) ?_
        refine wv rfl (r_fld Tryz.underlying144 rfl rfl sz3 rfl) ?_
        refine wv rfl (r_ldB Tryz.underlying3 rfl rfl hM (.tail _ (.tail _ (.tail _ (.tail _ (.head _))))) rfl) ?_
        refine wmv rfl rfl ?_
        obtain ⟨hg1271, hx⟩ := xg_some hx
        refine wv rfl (r_add rfl rfl hg1271) ?_
        refine wv rfl (r_nilck rfl) ?_
        refine wv rfl (r_fld Tryz.underlying144 rfl rfl sz3 rfl) ?_
        replace hM := hM.p4
        refine w_exu (x_stB #[s1162.v, (.int .i64 r1159.2.at_), (.int .i64 (r1159.2.done + r1153))] sz3 rfl rfl rfl rfl rfl rfl hM ?_); intro w1274 hM
        refine wl_sq ?_
        refine wc_region ?_
        refine wmv rfl rfl ?_
        refine wmv rfl rfl ?_
        refine wv rfl (r_nilck rfl) ?_
        refine wv rfl (r_fld Tryz.underlying144 rfl rfl sz3 rfl) ?_
        refine wv rfl (r_ldB Tryz.underlying3 rfl rfl hM (.tail _ (.tail _ (.tail _ (.tail _ (.head _))))) rfl) ?_
        refine wmv rfl rfl ?_
        obtain ⟨hg1283, hx⟩ := xg_some hx
        refine wv rfl (r_add rfl rfl hg1283) ?_
        refine wv rfl (r_nilck rfl) ?_
        refine wv rfl (r_fld Tryz.underlying144 rfl rfl sz3 rfl) ?_
        replace hM := hM.p4
        refine w_exu (x_stB #[s1169.v, (.int .i64 r1166.2.at_), (.int .i64 (r1166.2.done + r1153))] sz3 rfl rfl rfl rfl rfl rfl hM ?_); intro w1286 hM
        refine wl_nil ?_
        refine bk_n ?_
        obtain rfl := Option.some.inj hx
        replace hM := hM.p4.p4.p7.p7.p6.p7.p6.p7
        have hM := hM.fewer (rsC (.tail _ (.head _)) (rsC (.head _) rsN))
        replace hM : St ⟨w, X, S⟩ [oBox b993 #[s1162.v, (.int .i64 r1159.2.at_), (.int .i64 (r1159.2.done + r1153))] 144, oBox b1000 #[s1169.v, (.int .i64 r1166.2.at_), (.int .i64 (r1166.2.done + r1153))] 144, oBox b1006 #[s1037.v, s1039.v, (.int .i64 n1030)] 138, oBox b1012 #[s1262.v, s1263.v, (.int .i64 r1259.drop)] 138, oC (cSl 3 fDPart l1028) s1037.v, oC (cSl 1 fI l1029) s1039.v, oC (cSl 3 fDPart r1259.list) s1262.v, oC (cSl 1 fI r1259.put) s1263.v] [rV s1162.v (cSl 3 fDPart r1159.2.o), rV s1169.v (cSl 3 fDPart r1166.2.o)] _ := hM
        exact lp_end (m1048, r1159.2.o, r1159.2.at_, r1159.2.done + r1153, r1166.2.o, r1166.2.at_, r1166.2.done + r1153, l1028, l1029, n1030, r1259.list, r1259.put, r1259.drop, s1162, s1169, s1037, s1039, s1262, s1263) (Nat.lt_succ_self _) ⟨rfl, rfl, rfl, rfl, trivial⟩ ⟨hM, hx1050⟩
       ·
        replace hx := xif_f hc1256 hx
        refine wc_skip ?_
        refine bk_n ?_
        refine sq_n ?_
        refine wc_sr ?_
        refine wmv rfl rfl ?_
        refine wmv rfl rfl ?_
        refine wv rfl (r_nilck rfl) ?_
        refine wv rfl (r_fld Tryz.underlying144 rfl rfl sz3 rfl) ?_
        refine wv rfl (r_ldB Tryz.underlying3 rfl rfl hM (.tail _ (.head _)) rfl) ?_
        refine wmv rfl rfl ?_
        obtain ⟨hg1295, hx⟩ := xg_some hx
        refine wv rfl (r_add rfl rfl hg1295) ?_
        refine wv rfl (r_nilck rfl) ?_
        refine wv rfl (r_fld Tryz.underlying144 rfl rfl sz3 rfl) ?_
        replace hM := hM.p1
        refine w_exu (x_stB #[s1162.v, (.int .i64 r1159.2.at_), (.int .i64 (r1159.2.done + r1153))] sz3 rfl rfl rfl rfl rfl rfl hM ?_); intro w1298 hM
        refine wl_sq ?_
        refine wc_region ?_
        refine wmv rfl rfl ?_
        refine wmv rfl rfl ?_
        refine wv rfl (r_nilck rfl) ?_
        refine wv rfl (r_fld Tryz.underlying144 rfl rfl sz3 rfl) ?_
        refine wv rfl (r_ldB Tryz.underlying3 rfl rfl hM (.tail _ (.head _)) rfl) ?_
        refine wmv rfl rfl ?_
        obtain ⟨hg1307, hx⟩ := xg_some hx
        refine wv rfl (r_add rfl rfl hg1307) ?_
        refine wv rfl (r_nilck rfl) ?_
        refine wv rfl (r_fld Tryz.underlying144 rfl rfl sz3 rfl) ?_
        replace hM := hM.p1
        refine w_exu (x_stB #[s1169.v, (.int .i64 r1166.2.at_), (.int .i64 (r1166.2.done + r1153))] sz3 rfl rfl rfl rfl rfl rfl hM ?_); intro w1310 hM
        refine wl_nil ?_
        refine bk_n ?_
        obtain rfl := Option.some.inj hx
        replace hM := hM.p7.p7.p6.p6.p7.p7.p6.p7
        have hM := hM.fewer (rsC (.tail _ (.head _)) (rsC (.head _) rsN))
        replace hM : St ⟨w, X, S⟩ [oBox b993 #[s1162.v, (.int .i64 r1159.2.at_), (.int .i64 (r1159.2.done + r1153))] 144, oBox b1000 #[s1169.v, (.int .i64 r1166.2.at_), (.int .i64 (r1166.2.done + r1153))] 144, oBox b1006 #[s1037.v, s1039.v, (.int .i64 n1030)] 138, oBox b1012 #[s1041.v, s1043.v, (.int .i64 n1033)] 138, oC (cSl 3 fDPart l1028) s1037.v, oC (cSl 1 fI l1029) s1039.v, oC (cSl 3 fDPart l1031) s1041.v, oC (cSl 1 fI l1032) s1043.v] [rV s1162.v (cSl 3 fDPart r1159.2.o), rV s1169.v (cSl 3 fDPart r1166.2.o)] _ := hM
        exact lp_end (m1048, r1159.2.o, r1159.2.at_, r1159.2.done + r1153, r1166.2.o, r1166.2.at_, r1166.2.done + r1153, l1028, l1029, n1030, l1031, l1032, n1033, s1162, s1169, s1037, s1039, s1041, s1043) (Nat.lt_succ_self _) ⟨rfl, rfl, rfl, rfl, trivial⟩ ⟨hM, hx1050⟩
  ·
   replace hx := xif_f hc1076 hx
   refine wc_exit ?_
   refine sq_exit ?_
   refine lp1_exit ?_
   obtain rfl := Option.some.inj hx
   obtain rfl := Option.some.inj hx1050
   replace hx := hx1017
   try dsimp only [Sum.elim_inl, Sum.elim_inr] at hx
   refine bk_here ?_
   refine sq_n ?_
   refine wc_sr ?_
   refine wmv rfl rfl ?_
   replace hM := hM.p4.p4.p4
   obtain ⟨r1313, h1314, hx⟩ := bind_some' hx
   refine w_call rfl rfl (hM.callO (l := [oBox b1006 #[s1037.v, s1039.v, (.int .i64 n1030)] 138, oC (cSl 3 fDPart l1028) s1037.v, oC (cSl 1 fI l1029) s1039.v]) fun X S oL hS hR hO => ct_spec_l02Done _ X S b1006 (⟨l1028, l1029, n1030⟩ : DL02B) s1037 s1039 hS  oL h1314) ?_
   rintro _ w1315 ⟨⟨s1316, s1317, s1318⟩, rfl, hM⟩
   dsimp only [List.cons_append, List.nil_append] at hM
   refine was rfl rfl ?_
   refine wl_sq ?_
   refine wc_sr ?_
   refine wmv rfl rfl ?_
   replace hM := hM.p7.p7.p7
   obtain ⟨r1322, h1323, hx⟩ := bind_some' hx
   refine w_call rfl rfl (hM.callO (l := [oBox b1012 #[s1041.v, s1043.v, (.int .i64 n1033)] 138, oC (cSl 3 fDPart l1031) s1041.v, oC (cSl 1 fI l1032) s1043.v]) fun X S oL hS hR hO => ct_spec_l02Done _ X S b1012 (⟨l1031, l1032, n1033⟩ : DL02B) s1041 s1043 hS  oL h1323) ?_
   rintro _ w1324 ⟨⟨s1325, s1326, s1327⟩, rfl, hM⟩
   dsimp only [List.cons_append, List.nil_append] at hM
   refine was rfl rfl ?_
   refine wl_sq ?_
   refine wc_seq ?_
   refine wc_sr ?_
   refine wmv rfl rfl ?_
   obtain ⟨r1331, h1332, hx⟩ := bind_some' hx
   refine w_call rfl rfl (hM.callV fun X S oL hS hR hO => ct_spec_OpOk _ X S r1313.1 s1316 hS (seeA hO (.tail _ (.tail _ (.tail _ (.head _))))) oL h1332) ?_
   rintro _ w1333 ⟨rfl, hR1334⟩
   have hM := hM.call hR1334
   refine wv rfl (r_not rfl) ?_
   refine wmv rfl rfl ?_
   obtain ⟨c1337, hx, hx1345⟩ := bind_some' hx
   refine wl_mid 4 (fun _ : Unit => [(138, (.bool c1337)), (16, s1316.v), (17, s1325.v)]) (fun _ w' => St ⟨w, X, S⟩ [oC (cSl 3 fDPart r1322.1) s1325.v, oBox b1012 #[s1326.v, s1327.v, (.int .i64 r1322.2.drop)] 138, oC (cSl 1 fI r1322.2.put) s1327.v, oC (cSl 3 fDPart r1313.1) s1316.v, oBox b1006 #[s1317.v, s1318.v, (.int .i64 r1313.2.drop)] 138, oC (cSl 1 fI r1313.2.put) s1318.v, oBox b993 #[s1055.v, (.int .i64 r1052.2.at_), (.int .i64 r1052.2.done)] 144, oBox b1000 #[s1068.v, (.int .i64 c1066.2.2.1), (.int .i64 c1066.2.2.2)] 144] [rV s1068.v (cSl 3 fDPart c1066.2.1), rV s1055.v (cSl 3 fDPart r1052.2.o)] w') ?_ ?_
   ·
    rcases Bool.eq_false_or_eq_true (!r1331) with hg1338 | hg1338
    ·
     replace hx := xif_t hg1338 hx
     refine gs rfl (isB_no hg1338) rfl ?_
     refine gs rfl (isB_no hg1338) rfl ?_
     refine gs rfl (isB_no hg1338) rfl ?_
     refine wv rfl (p_t rfl hg1338 rfl) ?_
     obtain rfl := Option.some.inj hx
     exact mid_nil () ⟨rfl, rfl, rfl, trivial⟩ hM
    ·
     replace hx := xif_f hg1338 hx
     refine gv rfl hg1338 rfl (r_move rfl) ?_
     obtain ⟨r1347, h1348, hx⟩ := bind_some' hx
     refine gc rfl hg1338 rfl rfl (hM.callV fun X S oL hS hR hO => ct_spec_OpOk _ X S r1322.1 s1325 hS (seeA hO (.head _)) oL h1348) ?_
     rintro _ w1349 ⟨rfl, hR1350⟩
     have hM := hM.call hR1350
     refine gv rfl hg1338 rfl (r_not rfl) ?_
     refine wv rfl (p_f rfl hg1338 rfl) ?_
     obtain rfl := Option.some.inj hx
     exact mid_nil () ⟨rfl, rfl, rfl, trivial⟩ hM
   rintro _ w1352 hM
   replace hx := hx1345
   refine wl_sq ?_
   refine wc_cond rfl (fun hc1353 => ?_) (fun hc1353 => ?_)
   ·
    replace hx := xif_t hc1353 hx
    refine wc_sr ?_
    refine was rfl rfl ?_
    refine was rfl rfl ?_
    refine was rfl rfl ?_
    refine wl_sq ?_
    refine wc_ret ?_
    refine sq_ret ?_
    obtain rfl := Option.some.inj hx
    have hM := hM.nil0 (T := DPart) 3 fDPart
    have hM := hM.nil0 (T := DPart) 3 fDPart
    refine fin_ret [nS.v, nS.v, (.bool false)] ⟨rfl, rfl, rfl, trivial⟩ ?_
    replace hM := hM.p1
    replace hM := hM.t2
    have hM := hM.fewer rsN
    exact ⟨(nS, nS), rfl, hM.gives⟩
   ·
    replace hx := xif_f hc1353 hx
    refine wc_skip ?_
    refine sq_n ?_
    refine wc_sr ?_
    refine wmv rfl rfl ?_
    refine wmv rfl rfl ?_
    refine was rfl rfl ?_
    refine was rfl rfl ?_
    refine was rfl rfl ?_
    refine wl_sq ?_
    refine wc_ret ?_
    obtain rfl := Option.some.inj hx
    refine fin_ret [s1316.v, s1325.v, (.bool true)] ⟨rfl, rfl, rfl, trivial⟩ ?_
    replace hM := hM.p3
    replace hM := hM.t2
    have hM := hM.fewer rsN
    exact ⟨(s1316, s1325), rfl, hM.gives⟩

end Go.Proofs.YtlgmikaemfbmaaaGreat
