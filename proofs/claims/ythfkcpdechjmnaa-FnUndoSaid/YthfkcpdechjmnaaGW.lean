/- Walks of functions of this program (printed by a program of ours, by the rules of the layer). No condition. -/
import Derived.Test.YthfkcpdechjmnaaGP
import Derived.Test.YthfkcpdechjmnaaNr
namespace Go.Proofs.Ythfkcpdechjmnaa
open Go.RowKit

noncomputable def x_spec_l01New_b0 (code : List UInt8) (h7 : Int) (i8 : Int) : Option (Lr (Int × Int) Int) :=
  Option.bind (bif decide (i8 < (code.length : Int)) then (some (decide (i8 < 4000))) else (some false)) fun c41 => bif c41 then (xg (0 ≤ i8 ∧ i8 < (code.length : Int)) <| some (Lr.go (bAnd (iw ((iw ((iw (h7 * 43)) + ((el code i8.toNat).toNat : Int))) + 7)) 1073741823, iw (i8 + 1)))) else (some (Lr.out h7))
noncomputable def x_spec_l01New_f0 (code : List UInt8) (s63 : Int × Int) : Option (Lr (Int × Int) Int) := x_spec_l01New_b0 code s63.1 s63.2
noncomputable def x_spec_l01New (code : List UInt8) : Option DL01Cur :=
  Option.bind (iter (x_spec_l01New_f0 code) (iw (1621 + (code.length : Int)), 0)) fun (y64 : Int) => some (⟨code, 0, y64⟩ : DL01Cur)
theorem ct_spec_l01New (w : World) (X S : Bs) (code : List UInt8) (s_code : Sv) (hS : ∀ b, S b → b < w.heap.size ∧ ¬ X b) (a_code_0 : (cSl 1 fY code).rd S w s_code.v) (oL : Sep [] X w) {r : DL01Cur} (hx : x_spec_l01New code = some r) :
    Ret Try.prog 39 [s_code.v] w (fun u w' => ∃ y : Nat × Sv, u = (.pointer (some ⟨y.1, 0, none⟩)) ∧ Gives X S w [oBox y.1 #[y.2.v, (.int .i64 r.i), (.int .i64 r.h)] 71] [rV y.2.v (cSl 1 fY r.b)] w') := by
  unfold x_spec_l01New at hx
  refine enter Try.func39 rfl Try.ntmps39 (by kernel_rfl) rfl ?_
  have hM := St.enter oL hS
  have hM := hM.addE (r := rV s_code.v (cSl 1 fY code)) a_code_0
  refine wc_seq ?_
  refine wc_region ?_
  refine wv rfl (r_assign rfl) ?_
  refine wl_nil ?_
  refine sq_n ?_
  refine wc_seq ?_
  refine wc_region ?_
  refine wv rfl (r_move rfl) ?_
  refine wv rfl (r_lenC Try.underlying22 rfl (hM.seeR (.head _))) ?_
  refine wv rfl (r_addw rfl rfl) ?_
  refine wv rfl (r_assign rfl) ?_
  refine wl_nil ?_
  refine sq_n ?_
  refine wc_seq ?_
  refine wc_seq ?_
  refine wc_region ?_
  refine wv rfl (r_assign rfl) ?_
  refine wl_nil ?_
  refine sq_n ?_
  refine wc_block ?_
  obtain ⟨y79, hx, hx80⟩ := bind_some' hx
  obtain ⟨m85, hx⟩ := iter_run hx
  refine wc_loop (un fun (m83 : Nat) => un fun (h81 : Int) => fun (i82 : Int) => [(0, s_code.v), (3, (.int .i64 h81)), (4, (.int .i64 i82))]) (un fun (m83 : Nat) => un fun (h81 : Int) => fun (i82 : Int) w' => St ⟨w, X, S⟩ [] [rV s_code.v (cSl 1 fY code)] w' ∧ iterN _ m83 (h81, i82) = some y79) (fun p => p.1) (m85, iw (1621 + (code.length : Int)), 0) ⟨rfl, rfl, rfl, trivial⟩ ⟨hM, hx⟩ ?_
  rintro ⟨m83, h81, i82⟩ w86 ⟨hM, hx⟩
  obtain ⟨m87, z88, rfl, hx, hx89⟩ := iterN_step hx
  unfold x_spec_l01New_f0 x_spec_l01New_b0 at hx
  try dsimp only at hx
  refine wc_seq ?_
  refine wc_seq ?_
  refine wc_region ?_
  refine wv rfl (r_move rfl) ?_
  refine wv rfl (r_move rfl) ?_
  refine wv rfl (r_lenC Try.underlying22 rfl (hM.seeR (.head _))) ?_
  refine wv rfl (r_lss rfl rfl) ?_
  refine wv rfl (r_move rfl) ?_
  obtain ⟨c95, hx, hx99⟩ := bind_some' hx
  refine wl_mid 3 (fun _ : Unit => [(15, (.bool c95)), (0, s_code.v), (3, (.int .i64 h81)), (4, (.int .i64 i82))]) (fun _ w' => St ⟨w, X, S⟩ [] [rV s_code.v (cSl 1 fY code)] w') ?_ ?_
  · rcases Bool.eq_false_or_eq_true (decide (i82 < (code.length : Int))) with hg96 | hg96
    · replace hx := xif_t hg96 hx
      refine gv rfl hg96 rfl (r_move rfl) ?_
      refine gv rfl hg96 rfl (r_lss rfl rfl) ?_
      refine wv rfl (p_t rfl hg96 rfl) ?_
      obtain rfl := Option.some.inj hx
      exact mid_nil () ⟨rfl, rfl, rfl, rfl, trivial⟩ hM
    · replace hx := xif_f hg96 hx
      refine gs rfl (isB_no hg96) rfl ?_
      refine gs rfl (isB_no hg96) rfl ?_
      refine wv rfl (p_f rfl hg96 rfl) ?_
      obtain rfl := Option.some.inj hx
      exact mid_nil () ⟨rfl, rfl, rfl, rfl, trivial⟩ hM
  rintro _ w102 hM
  replace hx := hx99
  refine wl_nil ?_
  refine sq_n ?_
  refine wc_cond rfl (fun hc103 => ?_) (fun hc103 => ?_)
  · replace hx := xif_t hc103 hx
    refine wc_skip ?_
    refine sq_n ?_
    refine wc_seq ?_
    refine wc_block ?_
    refine wc_region ?_
    refine wv rfl (r_move rfl) ?_
    refine wv rfl (r_mulw rfl rfl) ?_
    refine wv rfl (r_move rfl) ?_
    refine wv rfl (r_move rfl) ?_
    obtain ⟨hg110, hx⟩ := xg_some hx
    have hi109 : i82.toNat < code.length := by omega
    refine wv rfl (r_ixC Try.underlying22 sz5 rfl rfl (hM.seeR (.head _)) hg110) ?_
    refine wv rfl (r_ld Try.underlying5 rfl rfl (Cs.get (i := i82.toNat) (j := 0) (hM.seeR (.head _)) (fun _ => rfl) hi109 rfl)) ?_
    refine wv rfl (r_cvt Try.underlying5 Try.underlying3 rfl (u8_cvt _)) ?_
    refine wv rfl (r_addw rfl rfl) ?_
    refine wv rfl (r_addw rfl rfl) ?_
    refine wv rfl (r_and rfl rfl) ?_
    refine wv rfl (r_assign rfl) ?_
    refine wl_nil ?_
    refine bk_n ?_
    refine sq_n ?_
    refine wc_region ?_
    refine wv rfl (r_move rfl) ?_
    refine wv rfl (r_addw rfl rfl) ?_
    refine wv rfl (r_assign rfl) ?_
    refine wl_nil ?_
    obtain rfl := Option.some.inj hx
    exact lp_end (m87, bAnd (iw ((iw ((iw (h81 * 43)) + ((el code i82.toNat).toNat : Int))) + 7)) 1073741823, iw (i82 + 1)) (Nat.lt_succ_self _) ⟨rfl, rfl, rfl, trivial⟩ ⟨hM, hx89⟩
  · replace hx := xif_f hc103 hx
    refine wc_exit ?_
    refine sq_exit ?_
    refine lp1_exit ?_
    obtain rfl := Option.some.inj hx
    obtain rfl := Option.some.inj hx89
    replace hx := hx80
    try dsimp only [Sum.elim_inl, Sum.elim_inr] at hx
    refine bk_here ?_
    refine sq_n ?_
    refine wc_seq ?_
    refine wc_region ?_
    refine wv rfl (r_move rfl) ?_
    refine wv rfl (r_move rfl) ?_
    refine wv rfl (r_build (cells := #[s_code.v, (.int .i64 0), (.int .i64 h81)]) rfl (by kernel_rfl)) ?_
    refine w_ex rfl (x_box rfl hM ?_); intro b124 w123 hR125 hM
    replace hM : St ⟨w, X, S⟩ [oBox b124 #[s_code.v, (.int .i64 0), (.int .i64 h81)] 71] [rV s_code.v (cSl 1 fY code)] _ := hM
    refine wv rfl (r_assign rfl) ?_
    refine wl_nil ?_
    refine sq_n ?_
    refine wc_ret ?_
    obtain rfl := Option.some.inj hx
    refine fin_ret [(.pointer (some ⟨b124, 0, none⟩))] ⟨rfl, trivial⟩ ?_
    replace hM := hM.t1
    have hM := hM.fewer (rsC (.head _) rsN)
    exact ⟨(b124, s_code), rfl, hM.gives⟩

noncomputable def x_spec_l01Byte (c : DL01Cur) : Option (Int × DL01Cur) :=
  xg (0 ≤ (33 : Int)) <| xg (0 ≤ (45 : Int)) <| bif decide (c.i < (c.b.length : Int)) then (xg (0 ≤ c.i ∧ c.i < (c.b.length : Int)) <| some (bAnd (iw ((bAnd (bXor (bShr (iw ((iw (c.h * 6364136223846793005)) + 1442695040888963407)) 33) (bShr (iw ((iw (c.h * 6364136223846793005)) + 1442695040888963407)) 45)) 255) + ((el c.b c.i.toNat).toNat : Int))) 255, (⟨c.b, iw (c.i + 1), iw ((iw (c.h * 6364136223846793005)) + 1442695040888963407)⟩ : DL01Cur))) else (some (bAnd (bXor (bShr (iw ((iw (c.h * 6364136223846793005)) + 1442695040888963407)) 33) (bShr (iw ((iw (c.h * 6364136223846793005)) + 1442695040888963407)) 45)) 255, (⟨c.b, c.i, iw ((iw (c.h * 6364136223846793005)) + 1442695040888963407)⟩ : DL01Cur)))
theorem ct_spec_l01Byte (w : World) (X S : Bs) (b_c : Nat) (c : DL01Cur) (s_c_0 : Sv) (hS : ∀ b, S b → b < w.heap.size ∧ ¬ X b) (a_c_0 : (cSl 1 fY c.b).rd S w s_c_0.v) (oL : Sep [oBox b_c #[s_c_0.v, (.int .i64 c.i), (.int .i64 c.h)] 71] X w) {r : Int × DL01Cur} (hx : x_spec_l01Byte c = some r) :
    Ret Try.prog 115 [(.pointer (some ⟨b_c, 0, none⟩))] w (fun u w' => ∃ y : Sv, u = (.int .i64 r.1) ∧ Gives X S w [oBox b_c #[y.v, (.int .i64 r.2.i), (.int .i64 r.2.h)] 71] [rV y.v (cSl 1 fY r.2.b)] w') := by
  unfold x_spec_l01Byte at hx
  refine enter Try.func115 rfl Try.ntmps115 (by kernel_rfl) rfl ?_
  have hM := St.enter oL hS
  have hM := hM.addE (r := rV s_c_0.v (cSl 1 fY c.b)) a_c_0
  refine wc_seq ?_
  refine wc_region ?_
  refine wv rfl (r_assign rfl) ?_
  refine wl_nil ?_
  refine sq_n ?_
  refine wc_seq ?_
  refine wc_region ?_
  refine wv rfl (r_move rfl) ?_
  refine wv rfl (r_move rfl) ?_
  refine wv rfl (r_nilck rfl) ?_
  refine wv rfl (r_fld Try.underlying71 rfl rfl sz3 rfl) ?_
  refine wv rfl (r_ldB Try.underlying3 rfl rfl hM (.head _) rfl) ?_
  refine wv rfl (r_mulw rfl rfl) ?_
  refine wv rfl (r_addw rfl rfl) ?_
  refine wv rfl (r_nilck rfl) ?_
  refine wv rfl (r_fld Try.underlying71 rfl rfl sz3 rfl) ?_
  refine w_exu (x_stB #[s_c_0.v, (.int .i64 c.i), (.int .i64 (iw ((iw (c.h * 6364136223846793005)) + 1442695040888963407)))] sz3 rfl rfl rfl rfl rfl rfl hM ?_); intro w86 hM
  refine wl_nil ?_
  refine sq_n ?_
  refine wc_seq ?_
  refine wc_draw [(0, 0), (1, 0), (2, 0), (3, 0), (4, 0), (5, 0), (6, 0), (7, 0), (8, 0), (9, 0), (10, 0), (11, 0), (12, 0)] Try_mixed (by kernel_rfl) rfl (by kernel_rfl) rfl ?_
  refine ov rfl (fun w' h' => r_move rfl) ?_
  refine ov rfl (fun w' h' => r_nilck rfl) ?_
  refine ov rfl (fun w' h' => r_fld Try.underlying71 rfl rfl sz3 rfl) ?_
  refine ov rfl (fun w' h' => r_ldB Try.underlying3 rfl rfl (hM.call h') (.head _) rfl) ?_
  obtain ⟨hg93, hx⟩ := xg_some hx
  refine ov rfl (fun w' h' => r_shr rfl rfl hg93) ?_
  refine ov rfl (fun w' h' => r_move rfl) ?_
  refine ov rfl (fun w' h' => r_nilck rfl) ?_
  refine ov rfl (fun w' h' => r_fld Try.underlying71 rfl rfl sz3 rfl) ?_
  refine ov rfl (fun w' h' => r_ldB Try.underlying3 rfl rfl (hM.call h') (.head _) rfl) ?_
  obtain ⟨hg99, hx⟩ := xg_some hx
  refine ov rfl (fun w' h' => r_shr rfl rfl hg99) ?_
  refine ov rfl (fun w' h' => r_xor rfl rfl) ?_
  refine ov rfl (fun w' h' => r_and rfl rfl) ?_
  refine ov rfl (fun w' h' => r_assign rfl) ?_
  refine o_nil fun w103 hw104 => ?_
  have hM := hM.call hw104
  refine sq_n ?_
  refine wc_seq ?_
  refine wc_seq ?_
  refine wc_draw [(0, 0), (1, 0), (2, 0), (3, 0), (4, 0), (5, 0), (6, 0), (7, 0), (8, 0), (9, 0)] Try_mixed (by kernel_rfl) rfl (by kernel_rfl) rfl ?_
  refine ov rfl (fun w' h' => r_move rfl) ?_
  refine ov rfl (fun w' h' => r_nilck rfl) ?_
  refine ov rfl (fun w' h' => r_fld Try.underlying71 rfl rfl sz3 rfl) ?_
  refine ov rfl (fun w' h' => r_ldB Try.underlying3 rfl rfl (hM.call h') (.head _) rfl) ?_
  refine ov rfl (fun w' h' => r_move rfl) ?_
  refine ov rfl (fun w' h' => r_nilck rfl) ?_
  refine ov rfl (fun w' h' => r_fld Try.underlying71 rfl rfl sz22 rfl) ?_
  refine ov rfl (fun w' h' => r_ldB Try.underlying22 rfl rfl (hM.call h') (.head _) rfl) ?_
  refine ov rfl (fun w' h' => r_lenC Try.underlying22 rfl ((hM.call h').seeR (.head _))) ?_
  refine ov rfl (fun w' h' => r_lss rfl rfl) ?_
  refine o_nil fun w115 hw116 => ?_
  have hM := hM.call hw116
  refine sq_n ?_
  refine wc_cond rfl (fun hc117 => ?_) (fun hc117 => ?_)
  · replace hx := xif_t hc117 hx
    refine wc_seq ?_
    refine wc_draw [(0, 0), (1, 0), (2, 0), (3, 0), (4, 0), (5, 0), (6, 0), (7, 0), (8, 0), (9, 0), (10, 0), (11, 0), (12, 0), (13, 0), (14, 0)] Try_mixed (by kernel_rfl) rfl (by kernel_rfl) rfl ?_
    refine ov rfl (fun w' h' => r_move rfl) ?_
    refine ov rfl (fun w' h' => r_move rfl) ?_
    refine ov rfl (fun w' h' => r_nilck rfl) ?_
    refine ov rfl (fun w' h' => r_fld Try.underlying71 rfl rfl sz22 rfl) ?_
    refine ov rfl (fun w' h' => r_ldB Try.underlying22 rfl rfl (hM.call h') (.head _) rfl) ?_
    refine ov rfl (fun w' h' => r_move rfl) ?_
    refine ov rfl (fun w' h' => r_nilck rfl) ?_
    refine ov rfl (fun w' h' => r_fld Try.underlying71 rfl rfl sz3 rfl) ?_
    refine ov rfl (fun w' h' => r_ldB Try.underlying3 rfl rfl (hM.call h') (.head _) rfl) ?_
    obtain ⟨hg129, hx⟩ := xg_some hx
    have hi128 : c.i.toNat < c.b.length := by omega
    refine ov rfl (fun w' h' => r_ixC Try.underlying22 sz5 rfl rfl ((hM.call h').seeR (.head _)) hg129) ?_
    refine ov rfl (fun w' h' => r_ld Try.underlying5 rfl rfl (Cs.get (i := c.i.toNat) (j := 0) ((hM.call h').seeR (.head _)) (fun _ => rfl) hi128 rfl)) ?_
    refine ov rfl (fun w' h' => r_cvt Try.underlying5 Try.underlying3 rfl (u8_cvt _)) ?_
    refine ov rfl (fun w' h' => r_addw rfl rfl) ?_
    refine ov rfl (fun w' h' => r_and rfl rfl) ?_
    refine ov rfl (fun w' h' => r_assign rfl) ?_
    refine o_nil fun w135 hw136 => ?_
    have hM := hM.call hw136
    refine sq_n ?_
    refine wc_region ?_
    refine wv rfl (r_move rfl) ?_
    refine wv rfl (r_move rfl) ?_
    refine wv rfl (r_nilck rfl) ?_
    refine wv rfl (r_fld Try.underlying71 rfl rfl sz3 rfl) ?_
    refine wv rfl (r_ldB Try.underlying3 rfl rfl hM (.head _) rfl) ?_
    refine wv rfl (r_addw rfl rfl) ?_
    refine wv rfl (r_nilck rfl) ?_
    refine wv rfl (r_fld Try.underlying71 rfl rfl sz3 rfl) ?_
    refine w_exu (x_stB #[s_c_0.v, (.int .i64 (iw (c.i + 1))), (.int .i64 (iw ((iw (c.h * 6364136223846793005)) + 1442695040888963407)))] sz3 rfl rfl rfl rfl rfl rfl hM ?_); intro w145 hM
    refine wl_nil ?_
    refine sq_n ?_
    refine wc_seq ?_
    refine wc_region ?_
    refine wv rfl (r_move rfl) ?_
    refine wv rfl (r_assign rfl) ?_
    refine wl_nil ?_
    refine sq_n ?_
    refine wc_ret ?_
    obtain rfl := Option.some.inj hx
    refine fin_ret [(.int .i64 (bAnd (iw ((bAnd (bXor (bShr (iw ((iw (c.h * 6364136223846793005)) + 1442695040888963407)) 33) (bShr (iw ((iw (c.h * 6364136223846793005)) + 1442695040888963407)) 45)) 255) + ((el c.b c.i.toNat).toNat : Int))) 255))] ⟨rfl, trivial⟩ ?_
    replace hM := hM.t1
    have hM := hM.fewer (rsC (.head _) rsN)
    exact ⟨s_c_0, rfl, hM.gives⟩
  · replace hx := xif_f hc117 hx
    refine wc_skip ?_
    refine sq_n ?_
    refine wc_seq ?_
    refine wc_region ?_
    refine wv rfl (r_move rfl) ?_
    refine wv rfl (r_assign rfl) ?_
    refine wl_nil ?_
    refine sq_n ?_
    refine wc_ret ?_
    obtain rfl := Option.some.inj hx
    refine fin_ret [(.int .i64 (bAnd (bXor (bShr (iw ((iw (c.h * 6364136223846793005)) + 1442695040888963407)) 33) (bShr (iw ((iw (c.h * 6364136223846793005)) + 1442695040888963407)) 45)) 255))] ⟨rfl, trivial⟩ ?_
    replace hM := hM.t1
    have hM := hM.fewer (rsC (.head _) rsN)
    exact ⟨s_c_0, rfl, hM.gives⟩

noncomputable def x_spec_l01Below (c : DL01Cur) (n : Int) : Option (Int × DL01Cur) :=
  bif decide (n ≤ 0) then (some (0, c)) else (bif decide (n ≤ 256) then (Option.bind (x_spec_l01Byte c) fun r9 => xg (0 ≤ r9.1 ∧ 0 < n) <| some (r9.1 % n, r9.2)) else (Option.bind (x_spec_l01Byte c) fun r18 => Option.bind (x_spec_l01Byte r18.2) fun r24 => Option.bind (x_spec_l01Byte r24.2) fun r30 => Option.bind (x_spec_l01Byte r30.2) fun r36 => xg (inI (r18.1 * 16777216)) <| xg (inI (r24.1 * 65536)) <| xg (inI ((r18.1 * 16777216) + (r24.1 * 65536))) <| xg (inI (r30.1 * 256)) <| xg (inI (((r18.1 * 16777216) + (r24.1 * 65536)) + (r30.1 * 256))) <| xg (inI ((((r18.1 * 16777216) + (r24.1 * 65536)) + (r30.1 * 256)) + r36.1)) <| xg (0 ≤ ((((r18.1 * 16777216) + (r24.1 * 65536)) + (r30.1 * 256)) + r36.1) ∧ 0 < n) <| some (((((r18.1 * 16777216) + (r24.1 * 65536)) + (r30.1 * 256)) + r36.1) % n, r36.2)))
theorem ct_spec_l01Below (w : World) (X S : Bs) (b_c : Nat) (c : DL01Cur) (s_c_0 : Sv) (n : Int) (hS : ∀ b, S b → b < w.heap.size ∧ ¬ X b) (a_c_0 : (cSl 1 fY c.b).rd S w s_c_0.v) (oL : Sep [oBox b_c #[s_c_0.v, (.int .i64 c.i), (.int .i64 c.h)] 71] X w) {r : Int × DL01Cur} (hx : x_spec_l01Below c n = some r) :
    Ret Try.prog 80 [(.pointer (some ⟨b_c, 0, none⟩)), (.int .i64 n)] w (fun u w' => ∃ y : Sv, u = (.int .i64 r.1) ∧ Gives X S w [oBox b_c #[y.v, (.int .i64 r.2.i), (.int .i64 r.2.h)] 71] [rV y.v (cSl 1 fY r.2.b)] w') := by
  unfold x_spec_l01Below at hx
  refine enter Try.func80 rfl Try.ntmps80 (by kernel_rfl) rfl ?_
  have hM := St.enter oL hS
  have hM := hM.addE (r := rV s_c_0.v (cSl 1 fY c.b)) a_c_0
  refine wc_seq ?_
  refine wc_region ?_
  refine wv rfl (r_assign rfl) ?_
  refine wl_nil ?_
  refine sq_n ?_
  refine wc_seq ?_
  refine wc_seq ?_
  refine wc_region ?_
  refine wv rfl (r_move rfl) ?_
  refine wv rfl (r_leq rfl rfl) ?_
  refine wl_nil ?_
  refine sq_n ?_
  refine wc_cond rfl (fun hc64 => ?_) (fun hc64 => ?_)
  · replace hx := xif_t hc64 hx
    refine wc_seq ?_
    refine wc_region ?_
    refine wv rfl (r_assign rfl) ?_
    refine wl_nil ?_
    refine sq_n ?_
    refine wc_ret ?_
    refine sq_ret ?_
    obtain rfl := Option.some.inj hx
    refine fin_ret [(.int .i64 0)] ⟨rfl, trivial⟩ ?_
    replace hM := hM.t1
    have hM := hM.fewer (rsC (.head _) rsN)
    exact ⟨s_c_0, rfl, hM.gives⟩
  · replace hx := xif_f hc64 hx
    refine wc_skip ?_
    refine sq_n ?_
    refine wc_seq ?_
    refine wc_seq ?_
    refine wc_region ?_
    refine wv rfl (r_move rfl) ?_
    refine wv rfl (r_leq rfl rfl) ?_
    refine wl_nil ?_
    refine sq_n ?_
    refine wc_cond rfl (fun hc68 => ?_) (fun hc68 => ?_)
    · replace hx := xif_t hc68 hx
      refine wc_seq ?_
      refine wc_region ?_
      refine wv rfl (r_move rfl) ?_
      obtain ⟨r70, h71, hx⟩ := bind_some' hx
      refine w_call rfl rfl (hM.callR (l := [oBox b_c #[s_c_0.v, (.int .i64 c.i), (.int .i64 c.h)] 71]) fun X S oL hS hR => ct_spec_l01Byte _ X S b_c c s_c_0 hS (hR _ (.head _)) oL h71) ?_
      rintro _ w72 ⟨s73, rfl, hM⟩
      replace hM : St ⟨w, X, S⟩ [oBox b_c #[s73.v, (.int .i64 r70.2.i), (.int .i64 r70.2.h)] 71] [rV s73.v (cSl 1 fY r70.2.b), rV s_c_0.v (cSl 1 fY c.b)] _ := hM
      refine wv rfl (r_move rfl) ?_
      obtain ⟨hg76, hx⟩ := xg_some hx
      refine wv rfl (r_rem rfl rfl hg76) ?_
      refine wv rfl (r_assign rfl) ?_
      refine wl_nil ?_
      refine sq_n ?_
      refine wc_ret ?_
      refine sq_ret ?_
      obtain rfl := Option.some.inj hx
      refine fin_ret [(.int .i64 (r70.1 % n))] ⟨rfl, trivial⟩ ?_
      replace hM := hM.t1
      have hM := hM.fewer (rsC (.head _) rsN)
      exact ⟨s73, rfl, hM.gives⟩
    · replace hx := xif_f hc68 hx
      refine wc_skip ?_
      refine sq_n ?_
      refine wc_seq ?_
      refine wc_region ?_
      refine wv rfl (r_move rfl) ?_
      obtain ⟨r79, h80, hx⟩ := bind_some' hx
      refine w_call rfl rfl (hM.callR (l := [oBox b_c #[s_c_0.v, (.int .i64 c.i), (.int .i64 c.h)] 71]) fun X S oL hS hR => ct_spec_l01Byte _ X S b_c c s_c_0 hS (hR _ (.head _)) oL h80) ?_
      rintro _ w81 ⟨s82, rfl, hM⟩
      replace hM : St ⟨w, X, S⟩ [oBox b_c #[s82.v, (.int .i64 r79.2.i), (.int .i64 r79.2.h)] 71] [rV s82.v (cSl 1 fY r79.2.b), rV s_c_0.v (cSl 1 fY c.b)] _ := hM
      refine wv rfl (r_assign rfl) ?_
      refine wl_nil ?_
      refine sq_n ?_
      refine wc_seq ?_
      refine wc_region ?_
      refine wv rfl (r_move rfl) ?_
      obtain ⟨r85, h86, hx⟩ := bind_some' hx
      refine w_call rfl rfl (hM.callR (l := [oBox b_c #[s82.v, (.int .i64 r79.2.i), (.int .i64 r79.2.h)] 71]) fun X S oL hS hR => ct_spec_l01Byte _ X S b_c r79.2 s82 hS (hR _ (.head _)) oL h86) ?_
      rintro _ w87 ⟨s88, rfl, hM⟩
      replace hM : St ⟨w, X, S⟩ [oBox b_c #[s88.v, (.int .i64 r85.2.i), (.int .i64 r85.2.h)] 71] [rV s88.v (cSl 1 fY r85.2.b), rV s82.v (cSl 1 fY r79.2.b), rV s_c_0.v (cSl 1 fY c.b)] _ := hM
      refine wv rfl (r_assign rfl) ?_
      refine wl_nil ?_
      refine sq_n ?_
      refine wc_seq ?_
      refine wc_region ?_
      refine wv rfl (r_move rfl) ?_
      obtain ⟨r91, h92, hx⟩ := bind_some' hx
      refine w_call rfl rfl (hM.callR (l := [oBox b_c #[s88.v, (.int .i64 r85.2.i), (.int .i64 r85.2.h)] 71]) fun X S oL hS hR => ct_spec_l01Byte _ X S b_c r85.2 s88 hS (hR _ (.head _)) oL h92) ?_
      rintro _ w93 ⟨s94, rfl, hM⟩
      replace hM : St ⟨w, X, S⟩ [oBox b_c #[s94.v, (.int .i64 r91.2.i), (.int .i64 r91.2.h)] 71] [rV s94.v (cSl 1 fY r91.2.b), rV s88.v (cSl 1 fY r85.2.b), rV s82.v (cSl 1 fY r79.2.b), rV s_c_0.v (cSl 1 fY c.b)] _ := hM
      refine wv rfl (r_assign rfl) ?_
      refine wl_nil ?_
      refine sq_n ?_
      refine wc_seq ?_
      refine wc_region ?_
      refine wv rfl (r_move rfl) ?_
      obtain ⟨r97, h98, hx⟩ := bind_some' hx
      refine w_call rfl rfl (hM.callR (l := [oBox b_c #[s94.v, (.int .i64 r91.2.i), (.int .i64 r91.2.h)] 71]) fun X S oL hS hR => ct_spec_l01Byte _ X S b_c r91.2 s94 hS (hR _ (.head _)) oL h98) ?_
      rintro _ w99 ⟨s100, rfl, hM⟩
      replace hM : St ⟨w, X, S⟩ [oBox b_c #[s100.v, (.int .i64 r97.2.i), (.int .i64 r97.2.h)] 71] [rV s100.v (cSl 1 fY r97.2.b), rV s94.v (cSl 1 fY r91.2.b), rV s88.v (cSl 1 fY r85.2.b), rV s82.v (cSl 1 fY r79.2.b), rV s_c_0.v (cSl 1 fY c.b)] _ := hM
      refine wv rfl (r_assign rfl) ?_
      refine wl_nil ?_
      refine sq_n ?_
      refine wc_seq ?_
      refine wc_region ?_
      refine wv rfl (r_move rfl) ?_
      obtain ⟨hg104, hx⟩ := xg_some hx
      refine wv rfl (r_mul rfl rfl hg104) ?_
      refine wv rfl (r_move rfl) ?_
      obtain ⟨hg107, hx⟩ := xg_some hx
      refine wv rfl (r_mul rfl rfl hg107) ?_
      obtain ⟨hg109, hx⟩ := xg_some hx
      refine wv rfl (r_add rfl rfl hg109) ?_
      refine wv rfl (r_move rfl) ?_
      obtain ⟨hg112, hx⟩ := xg_some hx
      refine wv rfl (r_mul rfl rfl hg112) ?_
      obtain ⟨hg114, hx⟩ := xg_some hx
      refine wv rfl (r_add rfl rfl hg114) ?_
      refine wv rfl (r_move rfl) ?_
      obtain ⟨hg117, hx⟩ := xg_some hx
      refine wv rfl (r_add rfl rfl hg117) ?_
      refine wv rfl (r_move rfl) ?_
      obtain ⟨hg120, hx⟩ := xg_some hx
      refine wv rfl (r_rem rfl rfl hg120) ?_
      refine wv rfl (r_assign rfl) ?_
      refine wl_nil ?_
      refine sq_n ?_
      refine wc_ret ?_
      obtain rfl := Option.some.inj hx
      refine fin_ret [(.int .i64 (((((r79.1 * 16777216) + (r85.1 * 65536)) + (r91.1 * 256)) + r97.1) % n))] ⟨rfl, trivial⟩ ?_
      replace hM := hM.t1
      have hM := hM.fewer (rsC (.head _) rsN)
      exact ⟨s100, rfl, hM.gives⟩

noncomputable def x_spec_l01Once (c : DL01Cur) (n : Int) : Option (Bool × DL01Cur) :=
  Option.bind (x_spec_l01Below c n) fun r5 => some (decide (r5.1 = 0), r5.2)
theorem ct_spec_l01Once (w : World) (X S : Bs) (b_c : Nat) (c : DL01Cur) (s_c_0 : Sv) (n : Int) (hS : ∀ b, S b → b < w.heap.size ∧ ¬ X b) (a_c_0 : (cSl 1 fY c.b).rd S w s_c_0.v) (oL : Sep [oBox b_c #[s_c_0.v, (.int .i64 c.i), (.int .i64 c.h)] 71] X w) {r : Bool × DL01Cur} (hx : x_spec_l01Once c n = some r) :
    Ret Try.prog 86 [(.pointer (some ⟨b_c, 0, none⟩)), (.int .i64 n)] w (fun u w' => ∃ y : Sv, u = (.bool r.1) ∧ Gives X S w [oBox b_c #[y.v, (.int .i64 r.2.i), (.int .i64 r.2.h)] 71] [rV y.v (cSl 1 fY r.2.b)] w') := by
  unfold x_spec_l01Once at hx
  refine enter Try.func86 rfl Try.ntmps86 (by kernel_rfl) rfl ?_
  have hM := St.enter oL hS
  have hM := hM.addE (r := rV s_c_0.v (cSl 1 fY c.b)) a_c_0
  refine wc_seq ?_
  refine wc_region ?_
  refine wv rfl (r_assign rfl) ?_
  refine wl_nil ?_
  refine sq_n ?_
  refine wc_seq ?_
  refine wc_region ?_
  refine wv rfl (r_move rfl) ?_
  refine wv rfl (r_move rfl) ?_
  obtain ⟨r14, h15, hx⟩ := bind_some' hx
  refine w_call rfl rfl (hM.callR (l := [oBox b_c #[s_c_0.v, (.int .i64 c.i), (.int .i64 c.h)] 71]) fun X S oL hS hR => ct_spec_l01Below _ X S b_c c s_c_0 n hS (hR _ (.head _)) oL h15) ?_
  rintro _ w16 ⟨s17, rfl, hM⟩
  replace hM : St ⟨w, X, S⟩ [oBox b_c #[s17.v, (.int .i64 r14.2.i), (.int .i64 r14.2.h)] 71] [rV s17.v (cSl 1 fY r14.2.b), rV s_c_0.v (cSl 1 fY c.b)] _ := hM
  refine wv rfl (r_eql rfl rfl) ?_
  refine wv rfl (r_assign rfl) ?_
  refine wl_nil ?_
  refine sq_n ?_
  refine wc_ret ?_
  obtain rfl := Option.some.inj hx
  refine fin_ret [(.bool (decide (r14.1 = 0)))] ⟨rfl, trivial⟩ ?_
  replace hM := hM.t1
  have hM := hM.fewer (rsC (.head _) rsN)
  exact ⟨s17, rfl, hM.gives⟩

noncomputable def x_spec_l01Pick (c : DL01Cur) (l : List Int) : Option (Int × DL01Cur) :=
  Option.bind (x_spec_l01Below c (l.length : Int)) fun r7 => xg (0 ≤ r7.1 ∧ r7.1 < (l.length : Int)) <| some (el l r7.1.toNat, r7.2)
theorem ct_spec_l01Pick (w : World) (X S : Bs) (b_c : Nat) (c : DL01Cur) (s_c_0 : Sv) (l : List Int) (s_l : Sv) (hS : ∀ b, S b → b < w.heap.size ∧ ¬ X b) (a_c_0 : (cSl 1 fY c.b).rd S w s_c_0.v) (a_l_0 : (cSl 1 fI l).rd S w s_l.v) (oL : Sep [oBox b_c #[s_c_0.v, (.int .i64 c.i), (.int .i64 c.h)] 71] X w) {r : Int × DL01Cur} (hx : x_spec_l01Pick c l = some r) :
    Ret Try.prog 125 [(.pointer (some ⟨b_c, 0, none⟩)), s_l.v] w (fun u w' => ∃ y : Sv, u = (.int .i64 r.1) ∧ Gives X S w [oBox b_c #[y.v, (.int .i64 r.2.i), (.int .i64 r.2.h)] 71] [rV y.v (cSl 1 fY r.2.b)] w') := by
  unfold x_spec_l01Pick at hx
  refine enter Try.func125 rfl Try.ntmps125 (by kernel_rfl) rfl ?_
  have hM := St.enter oL hS
  have hM := hM.addE (r := rV s_c_0.v (cSl 1 fY c.b)) a_c_0
  have hM := hM.addE (r := rV s_l.v (cSl 1 fI l)) a_l_0
  refine wc_seq ?_
  refine wc_region ?_
  refine wv rfl (r_assign rfl) ?_
  refine wl_nil ?_
  refine sq_n ?_
  refine wc_seq ?_
  refine wc_region ?_
  refine wv rfl (r_move rfl) ?_
  refine wv rfl (r_move rfl) ?_
  refine wv rfl (r_move rfl) ?_
  refine wv rfl (r_lenC Try.underlying26 rfl (hM.seeR (.head _))) ?_
  obtain ⟨r21, h22, hx⟩ := bind_some' hx
  refine w_call rfl rfl (hM.callR (l := [oBox b_c #[s_c_0.v, (.int .i64 c.i), (.int .i64 c.h)] 71]) fun X S oL hS hR => ct_spec_l01Below _ X S b_c c s_c_0 (l.length : Int) hS (hR _ (.tail _ (.head _))) oL h22) ?_
  rintro _ w23 ⟨s24, rfl, hM⟩
  replace hM : St ⟨w, X, S⟩ [oBox b_c #[s24.v, (.int .i64 r21.2.i), (.int .i64 r21.2.h)] 71] [rV s24.v (cSl 1 fY r21.2.b), rV s_l.v (cSl 1 fI l), rV s_c_0.v (cSl 1 fY c.b)] _ := hM
  obtain ⟨hg27, hx⟩ := xg_some hx
  have hi26 : r21.1.toNat < l.length := by omega
  refine wv rfl (r_ixC Try.underlying26 sz3 rfl rfl (hM.seeR (.tail _ (.head _))) hg27) ?_
  refine wv rfl (r_ld Try.underlying3 rfl rfl (Cs.get (i := r21.1.toNat) (j := 0) (hM.seeR (.tail _ (.head _))) (fun _ => rfl) hi26 rfl)) ?_
  refine wv rfl (r_assign rfl) ?_
  refine wl_nil ?_
  refine sq_n ?_
  refine wc_ret ?_
  obtain rfl := Option.some.inj hx
  refine fin_ret [(.int .i64 (el l r21.1.toNat))] ⟨rfl, trivial⟩ ?_
  replace hM := hM.t1
  have hM := hM.fewer (rsC (.head _) rsN)
  exact ⟨s24, rfl, hM.gives⟩

noncomputable def x_spec_l01Pick_v2 (c : DL01Cur) (l : List Int) : Option (Int × DL01Cur) :=
  Option.bind (x_spec_l01Below c (l.length : Int)) fun r8 => xg (0 ≤ r8.1 ∧ r8.1 < (l.length : Int)) <| some (el l r8.1.toNat, r8.2)
theorem ct_spec_l01Pick_v2 (w : World) (X S : Bs) (b_c : Nat) (c : DL01Cur) (s_c_0 : Sv) (l : List Int) (s_l : Sv) (hS : ∀ b, S b → b < w.heap.size ∧ ¬ X b) (a_c_0 : (cSl 1 fY c.b).rd S w s_c_0.v) (oL : Sep [oBox b_c #[s_c_0.v, (.int .i64 c.i), (.int .i64 c.h)] 71, oC (cSl 1 fI l) s_l.v] X w) {r : Int × DL01Cur} (hx : x_spec_l01Pick_v2 c l = some r) :
    Ret Try.prog 125 [(.pointer (some ⟨b_c, 0, none⟩)), s_l.v] w (fun u w' => ∃ y : Sv, u = (.int .i64 r.1) ∧ Gives X S w [oBox b_c #[y.v, (.int .i64 r.2.i), (.int .i64 r.2.h)] 71] [rV y.v (cSl 1 fY r.2.b)] w') := by
  unfold x_spec_l01Pick_v2 at hx
  refine enter Try.func125 rfl Try.ntmps125 (by kernel_rfl) rfl ?_
  have hM := St.enter oL hS
  have hM := hM.addE (r := rV s_c_0.v (cSl 1 fY c.b)) a_c_0
  refine wc_seq ?_
  refine wc_region ?_
  refine wv rfl (r_assign rfl) ?_
  refine wl_nil ?_
  refine sq_n ?_
  refine wc_seq ?_
  refine wc_region ?_
  refine wv rfl (r_move rfl) ?_
  refine wv rfl (r_move rfl) ?_
  refine wv rfl (r_move rfl) ?_
  refine wv rfl (r_lenC Try.underlying26 rfl (hM.seeO (.tail _ (.head _)))) ?_
  obtain ⟨r22, h23, hx⟩ := bind_some' hx
  refine w_call rfl rfl (hM.callR (l := [oBox b_c #[s_c_0.v, (.int .i64 c.i), (.int .i64 c.h)] 71]) fun X S oL hS hR => ct_spec_l01Below _ X S b_c c s_c_0 (l.length : Int) hS (hR _ (.head _)) oL h23) ?_
  rintro _ w24 ⟨s25, rfl, hM⟩
  replace hM : St ⟨w, X, S⟩ [oBox b_c #[s25.v, (.int .i64 r22.2.i), (.int .i64 r22.2.h)] 71, oC (cSl 1 fI l) s_l.v] [rV s25.v (cSl 1 fY r22.2.b), rV s_c_0.v (cSl 1 fY c.b)] _ := hM
  obtain ⟨hg28, hx⟩ := xg_some hx
  have hi27 : r22.1.toNat < l.length := by omega
  refine wv rfl (r_ixC Try.underlying26 sz3 rfl rfl (hM.seeO (.tail _ (.head _))) hg28) ?_
  refine wv rfl (r_ld Try.underlying3 rfl rfl (Cs.get (i := r22.1.toNat) (j := 0) (hM.seeO (.tail _ (.head _))) (fun _ => rfl) hi27 rfl)) ?_
  refine wv rfl (r_assign rfl) ?_
  refine wl_nil ?_
  refine sq_n ?_
  refine wc_ret ?_
  obtain rfl := Option.some.inj hx
  refine fin_ret [(.int .i64 (el l r22.1.toNat))] ⟨rfl, trivial⟩ ?_
  replace hM := hM.t1
  have hM := hM.fewer (rsC (.head _) rsN)
  exact ⟨s25, rfl, hM.gives⟩

noncomputable def x_spec_l01Sign (c : DL01Cur) : Option (Int × DL01Cur) :=
  Option.bind (x_spec_l01Once c 8) fun r4 => bif r4.1 then (Option.bind (x_spec_l01Pick r4.2 [0, 127, 128, 2047, 2048, 55295, 57344, 65535, 65536, 1114111, 10, 32]) fun r13 => some (r13.1, r13.2)) else (Option.bind (x_spec_l01Below r4.2 6) fun r19 => xg (inI (97 + r19.1)) <| some (97 + r19.1, r19.2))
theorem ct_spec_l01Sign (w : World) (X S : Bs) (b_c : Nat) (c : DL01Cur) (s_c_0 : Sv) (hS : ∀ b, S b → b < w.heap.size ∧ ¬ X b) (a_c_0 : (cSl 1 fY c.b).rd S w s_c_0.v) (oL : Sep [oBox b_c #[s_c_0.v, (.int .i64 c.i), (.int .i64 c.h)] 71] X w) {r : Int × DL01Cur} (hx : x_spec_l01Sign c = some r) :
    Ret Try.prog 94 [(.pointer (some ⟨b_c, 0, none⟩))] w (fun u w' => ∃ y : Sv, u = (.int .i64 r.1) ∧ Gives X S w [oBox b_c #[y.v, (.int .i64 r.2.i), (.int .i64 r.2.h)] 71] [rV y.v (cSl 1 fY r.2.b)] w') := by
  unfold x_spec_l01Sign at hx
  refine enter Try.func94 rfl Try.ntmps94 (by kernel_rfl) rfl ?_
  have hM := St.enter oL hS
  have hM := hM.addE (r := rV s_c_0.v (cSl 1 fY c.b)) a_c_0
  refine wc_seq ?_
  refine wc_region ?_
  refine wv rfl (r_assign rfl) ?_
  refine wl_nil ?_
  refine sq_n ?_
  refine wc_seq ?_
  refine wc_seq ?_
  refine wc_region ?_
  refine wv rfl (r_move rfl) ?_
  obtain ⟨r28, h29, hx⟩ := bind_some' hx
  refine w_call rfl rfl (hM.callR (l := [oBox b_c #[s_c_0.v, (.int .i64 c.i), (.int .i64 c.h)] 71]) fun X S oL hS hR => ct_spec_l01Once _ X S b_c c s_c_0 (8 : Int) hS (hR _ (.head _)) oL h29) ?_
  rintro _ w30 ⟨s31, rfl, hM⟩
  replace hM : St ⟨w, X, S⟩ [oBox b_c #[s31.v, (.int .i64 r28.2.i), (.int .i64 r28.2.h)] 71] [rV s31.v (cSl 1 fY r28.2.b), rV s_c_0.v (cSl 1 fY c.b)] _ := hM
  refine wl_nil ?_
  refine sq_n ?_
  refine wc_cond rfl (fun hc32 => ?_) (fun hc32 => ?_)
  · replace hx := xif_t hc32 hx
    refine wc_seq ?_
    refine wc_region ?_
    refine wv rfl (r_move rfl) ?_
    refine w_ex rfl (x_lit (f := fI) (own := []) [0, 127, 128, 2047, 2048, 55295, 57344, 65535, 65536, 1114111, 10, 32] [(.int .i64 0), (.int .i64 127), (.int .i64 128), (.int .i64 2047), (.int .i64 2048), (.int .i64 55295), (.int .i64 57344), (.int .i64 65535), (.int .i64 65536), (.int .i64 1114111), (.int .i64 10), (.int .i64 32)] 12 Try.underlying26 sz3 (fun _ => rfl) rfl rfl rfl rfl rfl (by kernel_rfl) (fun _ => zP (pV _ rfl) (zP (pV _ rfl) (zP (pV _ rfl) (zP (pV _ rfl) (zP (pV _ rfl) (zP (pV _ rfl) (zP (pV _ rfl) (zP (pV _ rfl) (zP (pV _ rfl) (zP (pV _ rfl) (zP (pV _ rfl) (zP (pV _ rfl) zN)))))))))))) hM ?_); intro s35 w34 hR36 hM
    have hM := hM.selO
    obtain ⟨r38, h39, hx⟩ := bind_some' hx
    refine w_call rfl rfl (hM.callR (l := [oBox b_c #[s31.v, (.int .i64 r28.2.i), (.int .i64 r28.2.h)] 71]) fun X S oL hS hR => ct_spec_l01Pick _ X S b_c r28.2 s31 [0, 127, 128, 2047, 2048, 55295, 57344, 65535, 65536, 1114111, 10, 32] s35 hS (hR _ (.tail _ (.head _))) (hR _ (.head _)) oL h39) ?_
    rintro _ w40 ⟨s41, rfl, hM⟩
    replace hM : St ⟨w, X, S⟩ [oBox b_c #[s41.v, (.int .i64 r38.2.i), (.int .i64 r38.2.h)] 71] [rV s41.v (cSl 1 fY r38.2.b), rV s35.v (cSl 1 fI [0, 127, 128, 2047, 2048, 55295, 57344, 65535, 65536, 1114111, 10, 32]), rV s31.v (cSl 1 fY r28.2.b), rV s_c_0.v (cSl 1 fY c.b)] _ := hM
    refine wv rfl (r_assign rfl) ?_
    refine wl_nil ?_
    refine sq_n ?_
    refine wc_ret ?_
    refine sq_ret ?_
    obtain rfl := Option.some.inj hx
    refine fin_ret [(.int .i64 r38.1)] ⟨rfl, trivial⟩ ?_
    replace hM := hM.t1
    have hM := hM.fewer (rsC (.head _) rsN)
    exact ⟨s41, rfl, hM.gives⟩
  · replace hx := xif_f hc32 hx
    refine wc_skip ?_
    refine sq_n ?_
    refine wc_seq ?_
    refine wc_region ?_
    refine wv rfl (r_move rfl) ?_
    obtain ⟨r44, h45, hx⟩ := bind_some' hx
    refine w_call rfl rfl (hM.callR (l := [oBox b_c #[s31.v, (.int .i64 r28.2.i), (.int .i64 r28.2.h)] 71]) fun X S oL hS hR => ct_spec_l01Below _ X S b_c r28.2 s31 (6 : Int) hS (hR _ (.head _)) oL h45) ?_
    rintro _ w46 ⟨s47, rfl, hM⟩
    replace hM : St ⟨w, X, S⟩ [oBox b_c #[s47.v, (.int .i64 r44.2.i), (.int .i64 r44.2.h)] 71] [rV s47.v (cSl 1 fY r44.2.b), rV s31.v (cSl 1 fY r28.2.b), rV s_c_0.v (cSl 1 fY c.b)] _ := hM
    obtain ⟨hg49, hx⟩ := xg_some hx
    refine wv rfl (r_add rfl rfl hg49) ?_
    refine wv rfl (r_assign rfl) ?_
    refine wl_nil ?_
    refine sq_n ?_
    refine wc_ret ?_
    obtain rfl := Option.some.inj hx
    refine fin_ret [(.int .i64 (97 + r44.1))] ⟨rfl, trivial⟩ ?_
    replace hM := hM.t1
    have hM := hM.fewer (rsC (.head _) rsN)
    exact ⟨s47, rfl, hM.gives⟩

noncomputable def x_spec_l01Signs_b0 (l38 : List Int) (n39 : Int) (l40 : List UInt8) (n41 : Int) (n42 : Int) : Option (Lr (List Int × Int × List UInt8 × Int × Int) (List Int × List UInt8 × Int × Int)) :=
  bif decide ((0 : Int) < n39) then (Option.bind (x_spec_l01Sign (⟨l40, n41, n42⟩ : DL01Cur)) fun r67 => xg (l38.length < 1099511627776) <| xg (inI (n39 - 1)) <| some (Lr.go (l38 ++ [r67.1], n39 - 1, r67.2.b, r67.2.i, r67.2.h))) else (some (Lr.out (l38, l40, n41, n42)))
noncomputable def x_spec_l01Signs_f0 (s80 : List Int × Int × List UInt8 × Int × Int) : Option (Lr (List Int × Int × List UInt8 × Int × Int) (List Int × List UInt8 × Int × Int)) := x_spec_l01Signs_b0 s80.1 s80.2.1 s80.2.2.1 s80.2.2.2.1 s80.2.2.2.2
noncomputable def x_spec_l01Signs (c : DL01Cur) (most : Int) : Option (List Int × DL01Cur) :=
  xg (inI (most + 1)) <| Option.bind (x_spec_l01Below c (most + 1)) fun r12 => Option.bind (iter (x_spec_l01Signs_f0) ([], r12.1, r12.2.b, r12.2.i, r12.2.h)) fun (y81 : List Int × List UInt8 × Int × Int) => some (y81.1, (⟨y81.2.1, y81.2.2.1, y81.2.2.2⟩ : DL01Cur))
theorem ct_spec_l01Signs (w : World) (X S : Bs) (b_c : Nat) (c : DL01Cur) (s_c_0 : Sv) (most : Int) (hS : ∀ b, S b → b < w.heap.size ∧ ¬ X b) (a_c_0 : (cSl 1 fY c.b).rd S w s_c_0.v) (oL : Sep [oBox b_c #[s_c_0.v, (.int .i64 c.i), (.int .i64 c.h)] 71] X w) {r : List Int × DL01Cur} (hx : x_spec_l01Signs c most = some r) :
    Ret Try.prog 60 [(.pointer (some ⟨b_c, 0, none⟩)), (.int .i64 most)] w (fun u w' => ∃ y : Sv × Sv, u = y.1.v ∧ Gives X S w [oC (cSl 1 fI r.1) y.1.v, oBox b_c #[y.2.v, (.int .i64 r.2.i), (.int .i64 r.2.h)] 71] [rV y.2.v (cSl 1 fY r.2.b)] w') := by
  unfold x_spec_l01Signs at hx
  refine enter Try.func60 rfl Try.ntmps60 (by kernel_rfl) rfl ?_
  have hM := St.enter oL hS
  have hM := hM.addE (r := rV s_c_0.v (cSl 1 fY c.b)) a_c_0
  refine wc_seq ?_
  refine wc_region ?_
  refine wv rfl (r_assign rfl) ?_
  refine wl_nil ?_
  refine sq_n ?_
  refine wc_seq ?_
  refine wc_region ?_
  refine w_ex rfl (x_empty (f := fI) Try.underlying26 sz3 (fun _ => rfl) hM ?_); intro s89 w88 hR90 hM
  refine wv rfl (r_assign rfl) ?_
  refine wl_nil ?_
  refine sq_n ?_
  refine wc_seq ?_
  refine wc_seq ?_
  refine wc_region ?_
  refine wv rfl (r_move rfl) ?_
  refine wv rfl (r_move rfl) ?_
  obtain ⟨hg96, hx⟩ := xg_some hx
  refine wv rfl (r_add rfl rfl hg96) ?_
  replace hM := hM.p1
  obtain ⟨r97, h98, hx⟩ := bind_some' hx
  refine w_call rfl rfl (hM.callR (l := [oBox b_c #[s_c_0.v, (.int .i64 c.i), (.int .i64 c.h)] 71]) fun X S oL hS hR => ct_spec_l01Below _ X S b_c c s_c_0 (most + 1) hS (hR _ (.head _)) oL h98) ?_
  rintro _ w99 ⟨s100, rfl, hM⟩
  replace hM : St ⟨w, X, S⟩ [oBox b_c #[s100.v, (.int .i64 r97.2.i), (.int .i64 r97.2.h)] 71, oC (cSl 1 fI ([] : List Int)) s89.v] [rV s100.v (cSl 1 fY r97.2.b), rV s_c_0.v (cSl 1 fY c.b)] _ := hM
  refine wv rfl (r_assign rfl) ?_
  refine wl_nil ?_
  refine sq_n ?_
  refine wc_block ?_
  obtain ⟨y102, hx, hx103⟩ := bind_some' hx
  have hM := hM.fewer (rsC (.head _) rsN)
  replace hM : St ⟨w, X, S⟩ [oBox b_c #[s100.v, (.int .i64 r97.2.i), (.int .i64 r97.2.h)] 71, oC (cSl 1 fI ([] : List Int)) s89.v] [rV s100.v (cSl 1 fY r97.2.b)] _ := hM
  obtain ⟨m114, hx⟩ := iter_run hx
  refine wc_loop (un fun (m112 : Nat) => un fun (l104 : List Int) => un fun (n105 : Int) => un fun (l106 : List UInt8) => un fun (n107 : Int) => un fun (n108 : Int) => un fun (s110 : Sv) => fun (s111 : Sv) => [(0, (.pointer (some ⟨b_c, 0, none⟩))), (5, s110.v), (6, (.int .i64 n105))]) (un fun (m112 : Nat) => un fun (l104 : List Int) => un fun (n105 : Int) => un fun (l106 : List UInt8) => un fun (n107 : Int) => un fun (n108 : Int) => un fun (s110 : Sv) => fun (s111 : Sv) w' => St ⟨w, X, S⟩ [oBox b_c #[s111.v, (.int .i64 n107), (.int .i64 n108)] 71, oC (cSl 1 fI l104) s110.v] [rV s111.v (cSl 1 fY l106)] w' ∧ iterN _ m112 (l104, n105, l106, n107, n108) = some y102) (fun p => p.1) (m114, [], r97.1, r97.2.b, r97.2.i, r97.2.h, s89, s100) ⟨rfl, rfl, rfl, trivial⟩ ⟨hM, hx⟩ ?_
  rintro ⟨m112, l104, n105, l106, n107, n108, s110, s111⟩ w115 ⟨hM, hx⟩
  obtain ⟨m116, z117, rfl, hx, hx118⟩ := iterN_step hx
  unfold x_spec_l01Signs_f0 x_spec_l01Signs_b0 at hx
  try dsimp only at hx
  refine wc_seq ?_
  refine wc_seq ?_
  refine wc_region ?_
  refine wv rfl (r_move rfl) ?_
  refine wv rfl (r_gtr rfl rfl) ?_
  refine wl_nil ?_
  refine sq_n ?_
  refine wc_cond rfl (fun hc121 => ?_) (fun hc121 => ?_)
  · replace hx := xif_t hc121 hx
    refine wc_skip ?_
    refine sq_n ?_
    refine wc_seq ?_
    refine wc_block ?_
    refine wc_region ?_
    refine wv rfl (r_move rfl) ?_
    refine wv rfl (r_move rfl) ?_
    obtain ⟨r124, h125, hx⟩ := bind_some' hx
    refine w_call rfl rfl (hM.callR (l := [oBox b_c #[s111.v, (.int .i64 n107), (.int .i64 n108)] 71]) fun X S oL hS hR => ct_spec_l01Sign _ X S b_c (⟨l106, n107, n108⟩ : DL01Cur) s111 hS (hR _ (.head _)) oL h125) ?_
    rintro _ w126 ⟨s127, rfl, hM⟩
    replace hM : St ⟨w, X, S⟩ [oBox b_c #[s127.v, (.int .i64 r124.2.i), (.int .i64 r124.2.h)] 71, oC (cSl 1 fI l104) s110.v] [rV s127.v (cSl 1 fY r124.2.b), rV s111.v (cSl 1 fY l106)] _ := hM
    replace hM := hM.p1
    obtain ⟨hg131, hx⟩ := xg_some hx
    refine w_push (f := fI) r124.1 rfl rfl Try.underlying26 sz3 rfl rfl rfl rfl (fun _ => rfl) hM (fun _ => zP (pV _ rfl) zN) rfl hg131 rfl ?_; intro u129 s130 w128 hM
    refine wv rfl (r_assign rfl) ?_
    refine wl_nil ?_
    refine bk_n ?_
    refine sq_n ?_
    refine wc_region ?_
    refine wv rfl (r_move rfl) ?_
    obtain ⟨hg135, hx⟩ := xg_some hx
    refine wv rfl (r_sub rfl rfl hg135) ?_
    refine wv rfl (r_assign rfl) ?_
    refine wl_nil ?_
    obtain rfl := Option.some.inj hx
    replace hM := hM.p1
    have hM := hM.fewer (rsC (.head _) rsN)
    replace hM : St ⟨w, X, S⟩ [oBox b_c #[s127.v, (.int .i64 r124.2.i), (.int .i64 r124.2.h)] 71, oC (cSl 1 fI (l104 ++ [r124.1])) s130.v] [rV s127.v (cSl 1 fY r124.2.b)] _ := hM
    exact lp_end (m116, l104 ++ [r124.1], n105 - 1, r124.2.b, r124.2.i, r124.2.h, s130, s127) (Nat.lt_succ_self _) ⟨rfl, rfl, rfl, trivial⟩ ⟨hM, hx118⟩
  · replace hx := xif_f hc121 hx
    refine wc_exit ?_
    refine sq_exit ?_
    refine lp1_exit ?_
    obtain rfl := Option.some.inj hx
    obtain rfl := Option.some.inj hx118
    replace hx := hx103
    try dsimp only [Sum.elim_inl, Sum.elim_inr] at hx
    refine bk_here ?_
    refine sq_n ?_
    refine wc_seq ?_
    refine wc_region ?_
    refine wv rfl (r_move rfl) ?_
    refine wv rfl (r_assign rfl) ?_
    refine wl_nil ?_
    refine sq_n ?_
    refine wc_ret ?_
    obtain rfl := Option.some.inj hx
    refine fin_ret [s110.v] ⟨rfl, trivial⟩ ?_
    replace hM := hM.p1
    replace hM := hM.t2
    have hM := hM.fewer (rsC (.head _) rsN)
    exact ⟨(s110, s111), rfl, hM.gives⟩

noncomputable def x_spec_MakeText (code : List UInt8) (turn : Int) : Option (List Int) :=
  Option.bind (x_spec_l01New code) fun r3 => xg (inI (r3.h + turn)) <| Option.bind (x_spec_l01Signs (⟨r3.b, r3.i, r3.h + turn⟩ : DL01Cur) 12) fun r23 => some r23.1
theorem ct_spec_MakeText (w : World) (X S : Bs) (code : List UInt8) (s_code : Sv) (turn : Int) (hS : ∀ b, S b → b < w.heap.size ∧ ¬ X b) (a_code_0 : (cSl 1 fY code).rd S w s_code.v) (oL : Sep [] X w) {r : List Int} (hx : x_spec_MakeText code turn = some r) :
    Ret Try.prog 22 [s_code.v, (.int .i64 turn)] w (fun u w' => ∃ y : Sv, u = y.v ∧ Gives X S w [oC (cSl 1 fI r) y.v] [] w') := by
  unfold x_spec_MakeText at hx
  refine enter Try.func22 rfl Try.ntmps22 (by kernel_rfl) rfl ?_
  have hM := St.enter oL hS
  have hM := hM.addE (r := rV s_code.v (cSl 1 fY code)) a_code_0
  refine wc_seq ?_
  refine wc_region ?_
  refine wv rfl (r_assign rfl) ?_
  refine wl_nil ?_
  refine sq_n ?_
  refine wc_seq ?_
  refine wc_region ?_
  refine wv rfl (r_move rfl) ?_
  obtain ⟨r32, h33, hx⟩ := bind_some' hx
  refine w_call rfl rfl (hM.callR (l := []) fun X S oL hS hR => ct_spec_l01New _ X S code s_code hS (hR _ (.head _)) oL h33) ?_
  rintro _ w34 ⟨⟨b35, s36⟩, rfl, hM⟩
  replace hM : St ⟨w, X, S⟩ [oBox b35 #[s36.v, (.int .i64 r32.i), (.int .i64 r32.h)] 71] [rV s36.v (cSl 1 fY r32.b), rV s_code.v (cSl 1 fY code)] _ := hM
  refine wv rfl (r_assign rfl) ?_
  refine wl_nil ?_
  refine sq_n ?_
  refine wc_seq ?_
  refine wc_region ?_
  refine wv rfl (r_move rfl) ?_
  refine wv rfl (r_move rfl) ?_
  refine wv rfl (r_nilck rfl) ?_
  refine wv rfl (r_fld Try.underlying71 rfl rfl sz3 rfl) ?_
  refine wv rfl (r_ldB Try.underlying3 rfl rfl hM (.head _) rfl) ?_
  refine wv rfl (r_move rfl) ?_
  obtain ⟨hg46, hx⟩ := xg_some hx
  refine wv rfl (r_add rfl rfl hg46) ?_
  refine wv rfl (r_nilck rfl) ?_
  refine wv rfl (r_fld Try.underlying71 rfl rfl sz3 rfl) ?_
  refine w_exu (x_stB #[s36.v, (.int .i64 r32.i), (.int .i64 (r32.h + turn))] sz3 rfl rfl rfl rfl rfl rfl hM ?_); intro w49 hM
  refine wl_nil ?_
  refine sq_n ?_
  refine wc_seq ?_
  refine wc_region ?_
  refine wv rfl (r_move rfl) ?_
  obtain ⟨r52, h53, hx⟩ := bind_some' hx
  refine w_call rfl rfl (hM.callR (l := [oBox b35 #[s36.v, (.int .i64 r32.i), (.int .i64 (r32.h + turn))] 71]) fun X S oL hS hR => ct_spec_l01Signs _ X S b35 (⟨r32.b, r32.i, r32.h + turn⟩ : DL01Cur) s36 (12 : Int) hS (hR _ (.head _)) oL h53) ?_
  rintro _ w54 ⟨⟨s55, s56⟩, rfl, hM⟩
  replace hM : St ⟨w, X, S⟩ [oC (cSl 1 fI r52.1) s55.v, oBox b35 #[s56.v, (.int .i64 r52.2.i), (.int .i64 r52.2.h)] 71] [rV s56.v (cSl 1 fY r52.2.b), rV s36.v (cSl 1 fY r32.b), rV s_code.v (cSl 1 fY code)] _ := hM
  refine wv rfl (r_assign rfl) ?_
  refine wl_nil ?_
  refine sq_n ?_
  refine wc_ret ?_
  obtain rfl := Option.some.inj hx
  refine fin_ret [s55.v] ⟨rfl, trivial⟩ ?_
  replace hM := hM.t1
  have hM := hM.fewer rsN
  exact ⟨s55, rfl, hM.gives⟩

noncomputable def x_spec_l02Draw_b0 (o203 : List DPart) (left204 : Int) (room205 : Int) (l206 : List UInt8) (n207 : Int) (n208 : Int) : Option (Lr (List DPart × Int × Int × List UInt8 × Int × Int) (List DPart × List UInt8 × Int × Int)) :=
  Option.bind (bif decide ((0 : Int) < left204) then (some (true, l206, n207, n208)) else (Option.bind (x_spec_l01Once (⟨l206, n207, n208⟩ : DL01Cur) 3) fun r411 => some (r411.1, r411.2.b, r411.2.i, r411.2.h))) fun (c409 : Bool × List UInt8 × Int × Int) => bif c409.1 then (Option.bind (x_spec_l01Below (⟨c409.2.1, c409.2.2.1, c409.2.2.2⟩ : DL01Cur) 4) fun r417 => bif decide (r417.1 = 0) then (Option.bind (x_spec_l01Signs r417.2 3) fun r424 => bif decide (room205 < (r424.1.length : Int)) then (xg (inI (room205 - ((0 : Nat) : Int))) <| xg (o203.length < 1099511627776) <| bif decide ((40 : Int) < ((o203 ++ [(⟨2, 0, []⟩ : DPart)]).length : Int)) then (xg ((o203 ++ [(⟨2, 0, []⟩ : DPart)]).length < 1099511627776) <| some (Lr.out ((o203 ++ [(⟨2, 0, []⟩ : DPart)]) ++ [(⟨1, left204, []⟩ : DPart)], r424.2.b, r424.2.i, r424.2.h))) else (some (Lr.go (o203 ++ [(⟨2, 0, []⟩ : DPart)], left204, room205 - ((0 : Nat) : Int), r424.2.b, r424.2.i, r424.2.h)))) else (xg (inI (room205 - (r424.1.length : Int))) <| xg (o203.length < 1099511627776) <| bif decide ((40 : Int) < ((o203 ++ [(⟨2, 0, r424.1⟩ : DPart)]).length : Int)) then (xg ((o203 ++ [(⟨2, 0, r424.1⟩ : DPart)]).length < 1099511627776) <| some (Lr.out ((o203 ++ [(⟨2, 0, r424.1⟩ : DPart)]) ++ [(⟨1, left204, []⟩ : DPart)], r424.2.b, r424.2.i, r424.2.h))) else (some (Lr.go (o203 ++ [(⟨2, 0, r424.1⟩ : DPart)], left204, room205 - (r424.1.length : Int), r424.2.b, r424.2.i, r424.2.h))))) else (bif decide (r417.1 = 1) then (xg (inI (left204 + 1)) <| Option.bind (x_spec_l01Below r417.2 (left204 + 1)) fun r494 => bif decide ((4 : Int) < r494.1) then (xg (inI (left204 - 4)) <| xg (o203.length < 1099511627776) <| bif decide ((40 : Int) < ((o203 ++ [(⟨3, 4, []⟩ : DPart)]).length : Int)) then (xg ((o203 ++ [(⟨3, 4, []⟩ : DPart)]).length < 1099511627776) <| some (Lr.out ((o203 ++ [(⟨3, 4, []⟩ : DPart)]) ++ [(⟨1, left204 - 4, []⟩ : DPart)], r494.2.b, r494.2.i, r494.2.h))) else (some (Lr.go (o203 ++ [(⟨3, 4, []⟩ : DPart)], left204 - 4, room205, r494.2.b, r494.2.i, r494.2.h)))) else (xg (inI (left204 - r494.1)) <| xg (o203.length < 1099511627776) <| bif decide ((40 : Int) < ((o203 ++ [(⟨3, r494.1, []⟩ : DPart)]).length : Int)) then (xg ((o203 ++ [(⟨3, r494.1, []⟩ : DPart)]).length < 1099511627776) <| some (Lr.out ((o203 ++ [(⟨3, r494.1, []⟩ : DPart)]) ++ [(⟨1, left204 - r494.1, []⟩ : DPart)], r494.2.b, r494.2.i, r494.2.h))) else (some (Lr.go (o203 ++ [(⟨3, r494.1, []⟩ : DPart)], left204 - r494.1, room205, r494.2.b, r494.2.i, r494.2.h))))) else (xg (inI (left204 + 1)) <| Option.bind (x_spec_l01Below r417.2 (left204 + 1)) fun r556 => xg (inI (left204 - r556.1)) <| xg (o203.length < 1099511627776) <| bif decide ((40 : Int) < ((o203 ++ [(⟨1, r556.1, []⟩ : DPart)]).length : Int)) then (xg ((o203 ++ [(⟨1, r556.1, []⟩ : DPart)]).length < 1099511627776) <| some (Lr.out ((o203 ++ [(⟨1, r556.1, []⟩ : DPart)]) ++ [(⟨1, left204 - r556.1, []⟩ : DPart)], r556.2.b, r556.2.i, r556.2.h))) else (some (Lr.go (o203 ++ [(⟨1, r556.1, []⟩ : DPart)], left204 - r556.1, room205, r556.2.b, r556.2.i, r556.2.h)))))) else (some (Lr.out (o203, c409.2.1, c409.2.2.1, c409.2.2.2)))
noncomputable def x_spec_l02Draw_f0 (s586 : List DPart × Int × Int × List UInt8 × Int × Int) : Option (Lr (List DPart × Int × Int × List UInt8 × Int × Int) (List DPart × List UInt8 × Int × Int)) := x_spec_l02Draw_b0 s586.1 s586.2.1 s586.2.2.1 s586.2.2.2.1 s586.2.2.2.2.1 s586.2.2.2.2.2
noncomputable def x_spec_l02Draw (c : DL01Cur) (from_ : Int) : Option (List DPart × DL01Cur) :=
  Option.bind (iter (x_spec_l02Draw_f0) ([], from_, 12, c.b, c.i, c.h)) fun (y587 : List DPart × List UInt8 × Int × Int) => some (y587.1, (⟨y587.2.1, y587.2.2.1, y587.2.2.2⟩ : DL01Cur))
theorem ct_spec_l02Draw (w : World) (X S : Bs) (b_c : Nat) (c : DL01Cur) (s_c_0 : Sv) (from_ : Int) (hS : ∀ b, S b → b < w.heap.size ∧ ¬ X b) (a_c_0 : (cSl 1 fY c.b).rd S w s_c_0.v) (oL : Sep [oBox b_c #[s_c_0.v, (.int .i64 c.i), (.int .i64 c.h)] 71] X w) {r : List DPart × DL01Cur} (hx : x_spec_l02Draw c from_ = some r) :
    Ret Try.prog 41 [(.pointer (some ⟨b_c, 0, none⟩)), (.int .i64 from_)] w (fun u w' => ∃ y : Sv × Sv, u = y.1.v ∧ Gives X S w [oC (cSl 3 fDPart r.1) y.1.v, oBox b_c #[y.2.v, (.int .i64 r.2.i), (.int .i64 r.2.h)] 71] [rV y.2.v (cSl 1 fY r.2.b)] w') := by
  unfold x_spec_l02Draw at hx
  refine enter Try.func41 rfl Try.ntmps41 (by kernel_rfl) rfl ?_
  have hM := St.enter oL hS
  have hM := hM.addE (r := rV s_c_0.v (cSl 1 fY c.b)) a_c_0
  refine wc_seq ?_
  refine wc_region ?_
  refine wv rfl (r_assign rfl) ?_
  refine wl_nil ?_
  refine sq_n ?_
  refine wc_seq ?_
  refine wc_region ?_
  refine w_ex rfl (x_empty (f := fDPart) Try.underlying29 sz77 (fun _ => rfl) hM ?_); intro s595 w594 hR596 hM
  refine wv rfl (r_assign rfl) ?_
  refine wl_nil ?_
  refine sq_n ?_
  refine wc_seq ?_
  refine wc_region ?_
  refine wv rfl (r_move rfl) ?_
  refine wv rfl (r_assign rfl) ?_
  refine wl_nil ?_
  refine sq_n ?_
  refine wc_seq ?_
  refine wc_region ?_
  refine wv rfl (r_assign rfl) ?_
  refine wl_nil ?_
  refine sq_n ?_
  refine wc_seq ?_
  refine wc_block ?_
  obtain ⟨y602, hx, hx603⟩ := bind_some' hx
  replace hM := hM.p1
  obtain ⟨m615, hx⟩ := iter_run hx
  refine wc_loop (un fun (m613 : Nat) => un fun (o604 : List DPart) => un fun (left605 : Int) => un fun (room606 : Int) => un fun (l607 : List UInt8) => un fun (n608 : Int) => un fun (n609 : Int) => un fun (s611 : Sv) => fun (s612 : Sv) => [(0, (.pointer (some ⟨b_c, 0, none⟩))), (5, s611.v), (6, (.int .i64 left605)), (7, (.int .i64 room606))]) (un fun (m613 : Nat) => un fun (o604 : List DPart) => un fun (left605 : Int) => un fun (room606 : Int) => un fun (l607 : List UInt8) => un fun (n608 : Int) => un fun (n609 : Int) => un fun (s611 : Sv) => fun (s612 : Sv) w' => St ⟨w, X, S⟩ [oBox b_c #[s612.v, (.int .i64 n608), (.int .i64 n609)] 71, oC (cSl 3 fDPart o604) s611.v] [rV s612.v (cSl 1 fY l607)] w' ∧ iterN _ m613 (o604, left605, room606, l607, n608, n609) = some y602) (fun p => p.1) (m615, [], from_, 12, c.b, c.i, c.h, s595, s_c_0) ⟨rfl, rfl, rfl, rfl, trivial⟩ ⟨hM, hx⟩ ?_
  rintro ⟨m613, o604, left605, room606, l607, n608, n609, s611, s612⟩ w616 ⟨hM, hx⟩
  obtain ⟨m617, z618, rfl, hx, hx619⟩ := iterN_step hx
  unfold x_spec_l02Draw_f0 x_spec_l02Draw_b0 at hx
  try dsimp only at hx
  refine wc_seq ?_
  refine wc_seq ?_
  refine wc_region ?_
  refine wv rfl (r_move rfl) ?_
  refine wv rfl (r_gtr rfl rfl) ?_
  refine wv rfl (r_move rfl) ?_
  obtain ⟨c630, hx, hx631⟩ := bind_some' hx
  refine wl_mid 3 (fun (s632 : Sv) => [(0, (.pointer (some ⟨b_c, 0, none⟩))), (5, s611.v), (6, (.int .i64 left605)), (7, (.int .i64 room606)), (18, (.bool c630.1))]) (fun (s632 : Sv) w' => St ⟨w, X, S⟩ [oBox b_c #[s632.v, (.int .i64 c630.2.2.1), (.int .i64 c630.2.2.2)] 71, oC (cSl 3 fDPart o604) s611.v] [rV s632.v (cSl 1 fY c630.2.1)] w') ?_ ?_
  · rcases Bool.eq_false_or_eq_true (decide ((0 : Int) < left605)) with hg624 | hg624
    · replace hx := xif_t hg624 hx
      refine gs rfl (isB_no hg624) rfl ?_
      refine gs rfl (isB_no hg624) rfl ?_
      refine wv rfl (p_t rfl hg624 rfl) ?_
      obtain rfl := Option.some.inj hx
      exact mid_nil s612 ⟨rfl, rfl, rfl, rfl, rfl, trivial⟩ hM
    · replace hx := xif_f hg624 hx
      refine gv rfl hg624 rfl (r_move rfl) ?_
      obtain ⟨r634, h635, hx⟩ := bind_some' hx
      refine gc rfl hg624 rfl rfl (hM.callR (l := [oBox b_c #[s612.v, (.int .i64 n608), (.int .i64 n609)] 71]) fun X S oL hS hR => ct_spec_l01Once _ X S b_c (⟨l607, n608, n609⟩ : DL01Cur) s612 (3 : Int) hS (hR _ (.head _)) oL h635) ?_
      rintro _ w636 ⟨s637, rfl, hM⟩
      replace hM : St ⟨w, X, S⟩ [oBox b_c #[s637.v, (.int .i64 r634.2.i), (.int .i64 r634.2.h)] 71, oC (cSl 3 fDPart o604) s611.v] [rV s637.v (cSl 1 fY r634.2.b), rV s612.v (cSl 1 fY l607)] _ := hM
      refine wv rfl (p_f rfl hg624 rfl) ?_
      obtain rfl := Option.some.inj hx
      have hM := hM.fewer (rsC (.head _) rsN)
      replace hM : St ⟨w, X, S⟩ [oBox b_c #[s637.v, (.int .i64 r634.2.i), (.int .i64 r634.2.h)] 71, oC (cSl 3 fDPart o604) s611.v] [rV s637.v (cSl 1 fY r634.2.b)] _ := hM
      exact mid_nil s637 ⟨rfl, rfl, rfl, rfl, rfl, trivial⟩ hM
  rintro s632 w638 hM
  replace hx := hx631
  refine wl_nil ?_
  refine sq_n ?_
  refine wc_cond rfl (fun hc639 => ?_) (fun hc639 => ?_)
  · replace hx := xif_t hc639 hx
    refine wc_skip ?_
    refine sq_n ?_
    refine wc_block ?_
    refine wc_seq ?_
    refine wc_seq ?_
    refine wc_region ?_
    refine wv rfl (r_move rfl) ?_
    obtain ⟨r641, h642, hx⟩ := bind_some' hx
    refine w_call rfl rfl (hM.callR (l := [oBox b_c #[s632.v, (.int .i64 c630.2.2.1), (.int .i64 c630.2.2.2)] 71]) fun X S oL hS hR => ct_spec_l01Below _ X S b_c (⟨c630.2.1, c630.2.2.1, c630.2.2.2⟩ : DL01Cur) s632 (4 : Int) hS (hR _ (.head _)) oL h642) ?_
    rintro _ w643 ⟨s644, rfl, hM⟩
    replace hM : St ⟨w, X, S⟩ [oBox b_c #[s644.v, (.int .i64 r641.2.i), (.int .i64 r641.2.h)] 71, oC (cSl 3 fDPart o604) s611.v] [rV s644.v (cSl 1 fY r641.2.b), rV s632.v (cSl 1 fY c630.2.1)] _ := hM
    refine wl_nil ?_
    refine sq_n ?_
    refine wc_block ?_
    refine wc_seq ?_
    refine wc_region ?_
    refine wv rfl (r_eql rfl rfl) ?_
    refine wv rfl (r_assign rfl) ?_
    refine wl_nil ?_
    refine sq_n ?_
    refine wc_cond rfl (fun hc647 => ?_) (fun hc647 => ?_)
    · replace hx := xif_t hc647 hx
      refine wc_seq ?_
      refine wc_region ?_
      refine wv rfl (r_move rfl) ?_
      obtain ⟨r649, h650, hx⟩ := bind_some' hx
      refine w_call rfl rfl (hM.callR (l := [oBox b_c #[s644.v, (.int .i64 r641.2.i), (.int .i64 r641.2.h)] 71]) fun X S oL hS hR => ct_spec_l01Signs _ X S b_c r641.2 s644 (3 : Int) hS (hR _ (.head _)) oL h650) ?_
      rintro _ w651 ⟨⟨s652, s653⟩, rfl, hM⟩
      replace hM : St ⟨w, X, S⟩ [oC (cSl 1 fI r649.1) s652.v, oBox b_c #[s653.v, (.int .i64 r649.2.i), (.int .i64 r649.2.h)] 71, oC (cSl 3 fDPart o604) s611.v] [rV s653.v (cSl 1 fY r649.2.b), rV s644.v (cSl 1 fY r641.2.b), rV s632.v (cSl 1 fY c630.2.1)] _ := hM
      refine wv rfl (r_assign rfl) ?_
      refine wl_nil ?_
      refine sq_n ?_
      refine wc_seq ?_
      refine wc_seq ?_
      refine wc_region ?_
      refine wv rfl (r_move rfl) ?_
      refine wv rfl (r_lenC Try.underlying26 rfl (hM.seeO (.head _))) ?_
      refine wv rfl (r_move rfl) ?_
      refine wv rfl (r_gtr rfl rfl) ?_
      refine wl_nil ?_
      refine sq_n ?_
      refine wc_cond rfl (fun hc660 => ?_) (fun hc660 => ?_)
      · replace hx := xif_t hc660 hx
        refine wc_region ?_
        refine wv rfl (r_assign rfl) ?_
        refine wl_nil ?_
        refine sq_n ?_
        refine wc_seq ?_
        refine wc_region ?_
        refine wv rfl (r_move rfl) ?_
        refine wv rfl (r_move rfl) ?_
        refine wv rfl (r_len Try.underlying26 rfl) ?_
        obtain ⟨hg666, hx⟩ := xg_some hx
        refine wv rfl (r_sub rfl rfl hg666) ?_
        refine wv rfl (r_assign rfl) ?_
        refine wl_nil ?_
        refine sq_n ?_
        refine wc_region ?_
        refine wv rfl (r_move rfl) ?_
        refine wv rfl (r_move rfl) ?_
        refine wv rfl (r_build (cells := #[(.int .i64 2), (.int .i64 0), (.slice none 0 0)]) rfl (by kernel_rfl)) ?_
        replace hM := hM.p2
        obtain ⟨hg674, hx⟩ := xg_some hx
        refine w_push (f := fDPart) (⟨2, 0, []⟩ : DPart) rfl rfl Try.underlying29 sz77 rfl rfl rfl rfl (fun _ => rfl) hM (fun _ => zP (pV _ rfl) (zP (pV _ rfl) (zP (pN _ _) zN))) rfl hg674 rfl ?_; intro u672 s673 w671 hM
        refine wv rfl (r_assign rfl) ?_
        refine wl_nil ?_
        refine bk_n ?_
        refine sq_n ?_
        refine wc_seq ?_
        refine wc_region ?_
        refine wv rfl (r_move rfl) ?_
        refine wv rfl (r_lenC Try.underlying29 rfl (hM.seeO (.head _))) ?_
        refine wv rfl (r_gtr rfl rfl) ?_
        refine wl_nil ?_
        refine sq_n ?_
        refine wc_cond rfl (fun hc679 => ?_) (fun hc679 => ?_)
        · replace hx := xif_t hc679 hx
          refine wc_seq ?_
          refine wc_region ?_
          refine wv rfl (r_move rfl) ?_
          refine wv rfl (r_move rfl) ?_
          refine wv rfl (r_build (cells := #[(.int .i64 1), (.int .i64 left605), (.slice none 0 0)]) rfl (by kernel_rfl)) ?_
          obtain ⟨hg686, hx⟩ := xg_some hx
          refine w_push (f := fDPart) (⟨1, left605, []⟩ : DPart) rfl rfl Try.underlying29 sz77 rfl rfl rfl rfl (fun _ => rfl) hM (fun _ => zP (pV _ rfl) (zP (pV _ rfl) (zP (pN _ _) zN))) rfl hg686 rfl ?_; intro u684 s685 w683 hM
          refine wv rfl (r_assign rfl) ?_
          refine wl_nil ?_
          refine sq_n ?_
          refine wc_seq ?_
          refine wc_region ?_
          refine wv rfl (r_assign rfl) ?_
          refine wl_nil ?_
          refine sq_n ?_
          refine wc_exit ?_
          refine bk_exit rfl ?_
          refine lp1_exit ?_
          obtain rfl := Option.some.inj hx
          obtain rfl := Option.some.inj hx619
          replace hx := hx603
          try dsimp only [Sum.elim_inl, Sum.elim_inr] at hx
          refine bk_here ?_
          refine sq_n ?_
          refine wc_seq ?_
          refine wc_region ?_
          refine wv rfl (r_move rfl) ?_
          refine wv rfl (r_assign rfl) ?_
          refine wl_nil ?_
          refine sq_n ?_
          refine wc_ret ?_
          obtain rfl := Option.some.inj hx
          refine fin_ret [s685.v] ⟨rfl, trivial⟩ ?_
          replace hM := hM.p2.p1
          replace hM := hM.t2
          have hM := hM.fewer (rsC (.head _) rsN)
          exact ⟨(s685, s653), rfl, hM.gives⟩
        · replace hx := xif_f hc679 hx
          refine wc_skip ?_
          refine bk_n ?_
          obtain rfl := Option.some.inj hx
          replace hM := hM.p2
          replace hM := hM.t2
          have hM := hM.fewer (rsC (.head _) rsN)
          replace hM : St ⟨w, X, S⟩ [oBox b_c #[s653.v, (.int .i64 r649.2.i), (.int .i64 r649.2.h)] 71, oC (cSl 3 fDPart (o604 ++ [(⟨2, 0, []⟩ : DPart)])) s673.v] [rV s653.v (cSl 1 fY r649.2.b)] _ := hM
          exact lp_end (m617, o604 ++ [(⟨2, 0, []⟩ : DPart)], left605, room606 - ((0 : Nat) : Int), r649.2.b, r649.2.i, r649.2.h, s673, s653) (Nat.lt_succ_self _) ⟨rfl, rfl, rfl, rfl, trivial⟩ ⟨hM, hx619⟩
      · replace hx := xif_f hc660 hx
        refine wc_skip ?_
        refine sq_n ?_
        refine wc_seq ?_
        refine wc_region ?_
        refine wv rfl (r_move rfl) ?_
        refine wv rfl (r_move rfl) ?_
        refine wv rfl (r_lenC Try.underlying26 rfl (hM.seeO (.head _))) ?_
        obtain ⟨hg695, hx⟩ := xg_some hx
        refine wv rfl (r_sub rfl rfl hg695) ?_
        refine wv rfl (r_assign rfl) ?_
        refine wl_nil ?_
        refine sq_n ?_
        refine wc_region ?_
        refine wv rfl (r_move rfl) ?_
        refine wv rfl (r_move rfl) ?_
        refine wv rfl (r_build (cells := #[(.int .i64 2), (.int .i64 0), s652.v]) rfl (by kernel_rfl)) ?_
        replace hM := hM.p2
        obtain ⟨hg703, hx⟩ := xg_some hx
        refine w_push (f := fDPart) (⟨2, 0, r649.1⟩ : DPart) rfl rfl Try.underlying29 sz77 rfl rfl rfl rfl (fun _ => rfl) hM (fun _ => zP (pV _ rfl) (zP (pV _ rfl) (zO zN))) rfl hg703 rfl ?_; intro u701 s702 w700 hM
        refine wv rfl (r_assign rfl) ?_
        refine wl_nil ?_
        refine bk_n ?_
        refine sq_n ?_
        refine wc_seq ?_
        refine wc_region ?_
        refine wv rfl (r_move rfl) ?_
        refine wv rfl (r_lenC Try.underlying29 rfl (hM.seeO (.head _))) ?_
        refine wv rfl (r_gtr rfl rfl) ?_
        refine wl_nil ?_
        refine sq_n ?_
        refine wc_cond rfl (fun hc708 => ?_) (fun hc708 => ?_)
        · replace hx := xif_t hc708 hx
          refine wc_seq ?_
          refine wc_region ?_
          refine wv rfl (r_move rfl) ?_
          refine wv rfl (r_move rfl) ?_
          refine wv rfl (r_build (cells := #[(.int .i64 1), (.int .i64 left605), (.slice none 0 0)]) rfl (by kernel_rfl)) ?_
          obtain ⟨hg715, hx⟩ := xg_some hx
          refine w_push (f := fDPart) (⟨1, left605, []⟩ : DPart) rfl rfl Try.underlying29 sz77 rfl rfl rfl rfl (fun _ => rfl) hM (fun _ => zP (pV _ rfl) (zP (pV _ rfl) (zP (pN _ _) zN))) rfl hg715 rfl ?_; intro u713 s714 w712 hM
          refine wv rfl (r_assign rfl) ?_
          refine wl_nil ?_
          refine sq_n ?_
          refine wc_seq ?_
          refine wc_region ?_
          refine wv rfl (r_assign rfl) ?_
          refine wl_nil ?_
          refine sq_n ?_
          refine wc_exit ?_
          refine bk_exit rfl ?_
          refine lp1_exit ?_
          obtain rfl := Option.some.inj hx
          obtain rfl := Option.some.inj hx619
          replace hx := hx603
          try dsimp only [Sum.elim_inl, Sum.elim_inr] at hx
          refine bk_here ?_
          refine sq_n ?_
          refine wc_seq ?_
          refine wc_region ?_
          refine wv rfl (r_move rfl) ?_
          refine wv rfl (r_assign rfl) ?_
          refine wl_nil ?_
          refine sq_n ?_
          refine wc_ret ?_
          obtain rfl := Option.some.inj hx
          refine fin_ret [s714.v] ⟨rfl, trivial⟩ ?_
          replace hM := hM.t2
          have hM := hM.fewer (rsC (.head _) rsN)
          exact ⟨(s714, s653), rfl, hM.gives⟩
        · replace hx := xif_f hc708 hx
          refine wc_skip ?_
          refine bk_n ?_
          obtain rfl := Option.some.inj hx
          replace hM := hM.p1
          have hM := hM.fewer (rsC (.head _) rsN)
          replace hM : St ⟨w, X, S⟩ [oBox b_c #[s653.v, (.int .i64 r649.2.i), (.int .i64 r649.2.h)] 71, oC (cSl 3 fDPart (o604 ++ [(⟨2, 0, r649.1⟩ : DPart)])) s702.v] [rV s653.v (cSl 1 fY r649.2.b)] _ := hM
          exact lp_end (m617, o604 ++ [(⟨2, 0, r649.1⟩ : DPart)], left605, room606 - (r649.1.length : Int), r649.2.b, r649.2.i, r649.2.h, s702, s653) (Nat.lt_succ_self _) ⟨rfl, rfl, rfl, rfl, trivial⟩ ⟨hM, hx619⟩
    · replace hx := xif_f hc647 hx
      refine wc_seq ?_
      refine wc_region ?_
      refine wv rfl (r_eql rfl rfl) ?_
      refine wv rfl (r_assign rfl) ?_
      refine wl_nil ?_
      refine sq_n ?_
      refine wc_cond rfl (fun hc722 => ?_) (fun hc722 => ?_)
      · replace hx := xif_t hc722 hx
        refine wc_seq ?_
        refine wc_region ?_
        refine wv rfl (r_move rfl) ?_
        refine wv rfl (r_move rfl) ?_
        obtain ⟨hg726, hx⟩ := xg_some hx
        refine wv rfl (r_add rfl rfl hg726) ?_
        obtain ⟨r727, h728, hx⟩ := bind_some' hx
        refine w_call rfl rfl (hM.callR (l := [oBox b_c #[s644.v, (.int .i64 r641.2.i), (.int .i64 r641.2.h)] 71]) fun X S oL hS hR => ct_spec_l01Below _ X S b_c r641.2 s644 (left605 + 1) hS (hR _ (.head _)) oL h728) ?_
        rintro _ w729 ⟨s730, rfl, hM⟩
        replace hM : St ⟨w, X, S⟩ [oBox b_c #[s730.v, (.int .i64 r727.2.i), (.int .i64 r727.2.h)] 71, oC (cSl 3 fDPart o604) s611.v] [rV s730.v (cSl 1 fY r727.2.b), rV s644.v (cSl 1 fY r641.2.b), rV s632.v (cSl 1 fY c630.2.1)] _ := hM
        refine wv rfl (r_assign rfl) ?_
        refine wl_nil ?_
        refine sq_n ?_
        refine wc_seq ?_
        refine wc_seq ?_
        refine wc_region ?_
        refine wv rfl (r_move rfl) ?_
        refine wv rfl (r_gtr rfl rfl) ?_
        refine wl_nil ?_
        refine sq_n ?_
        refine wc_cond rfl (fun hc734 => ?_) (fun hc734 => ?_)
        · replace hx := xif_t hc734 hx
          refine wc_region ?_
          refine wv rfl (r_assign rfl) ?_
          refine wl_nil ?_
          refine sq_n ?_
          refine wc_seq ?_
          refine wc_region ?_
          refine wv rfl (r_move rfl) ?_
          refine wv rfl (r_move rfl) ?_
          obtain ⟨hg739, hx⟩ := xg_some hx
          refine wv rfl (r_sub rfl rfl hg739) ?_
          refine wv rfl (r_assign rfl) ?_
          refine wl_nil ?_
          refine sq_n ?_
          refine wc_region ?_
          refine wv rfl (r_move rfl) ?_
          refine wv rfl (r_move rfl) ?_
          refine wv rfl (r_build (cells := #[(.int .i64 3), (.int .i64 4), (.slice none 0 0)]) rfl (by kernel_rfl)) ?_
          replace hM := hM.p1
          obtain ⟨hg747, hx⟩ := xg_some hx
          refine w_push (f := fDPart) (⟨3, 4, []⟩ : DPart) rfl rfl Try.underlying29 sz77 rfl rfl rfl rfl (fun _ => rfl) hM (fun _ => zP (pV _ rfl) (zP (pV _ rfl) (zP (pN _ _) zN))) rfl hg747 rfl ?_; intro u745 s746 w744 hM
          refine wv rfl (r_assign rfl) ?_
          refine wl_nil ?_
          refine bk_n ?_
          refine sq_n ?_
          refine wc_seq ?_
          refine wc_region ?_
          refine wv rfl (r_move rfl) ?_
          refine wv rfl (r_lenC Try.underlying29 rfl (hM.seeO (.head _))) ?_
          refine wv rfl (r_gtr rfl rfl) ?_
          refine wl_nil ?_
          refine sq_n ?_
          refine wc_cond rfl (fun hc752 => ?_) (fun hc752 => ?_)
          · replace hx := xif_t hc752 hx
            refine wc_seq ?_
            refine wc_region ?_
            refine wv rfl (r_move rfl) ?_
            refine wv rfl (r_move rfl) ?_
            refine wv rfl (r_build (cells := #[(.int .i64 1), (.int .i64 (left605 - 4)), (.slice none 0 0)]) rfl (by kernel_rfl)) ?_
            obtain ⟨hg759, hx⟩ := xg_some hx
            refine w_push (f := fDPart) (⟨1, left605 - 4, []⟩ : DPart) rfl rfl Try.underlying29 sz77 rfl rfl rfl rfl (fun _ => rfl) hM (fun _ => zP (pV _ rfl) (zP (pV _ rfl) (zP (pN _ _) zN))) rfl hg759 rfl ?_; intro u757 s758 w756 hM
            refine wv rfl (r_assign rfl) ?_
            refine wl_nil ?_
            refine sq_n ?_
            refine wc_seq ?_
            refine wc_region ?_
            refine wv rfl (r_assign rfl) ?_
            refine wl_nil ?_
            refine sq_n ?_
            refine wc_exit ?_
            refine bk_exit rfl ?_
            refine lp1_exit ?_
            obtain rfl := Option.some.inj hx
            obtain rfl := Option.some.inj hx619
            replace hx := hx603
            try dsimp only [Sum.elim_inl, Sum.elim_inr] at hx
            refine bk_here ?_
            refine sq_n ?_
            refine wc_seq ?_
            refine wc_region ?_
            refine wv rfl (r_move rfl) ?_
            refine wv rfl (r_assign rfl) ?_
            refine wl_nil ?_
            refine sq_n ?_
            refine wc_ret ?_
            obtain rfl := Option.some.inj hx
            refine fin_ret [s758.v] ⟨rfl, trivial⟩ ?_
            replace hM := hM.t2
            have hM := hM.fewer (rsC (.head _) rsN)
            exact ⟨(s758, s730), rfl, hM.gives⟩
          · replace hx := xif_f hc752 hx
            refine wc_skip ?_
            refine bk_n ?_
            obtain rfl := Option.some.inj hx
            replace hM := hM.p1
            have hM := hM.fewer (rsC (.head _) rsN)
            replace hM : St ⟨w, X, S⟩ [oBox b_c #[s730.v, (.int .i64 r727.2.i), (.int .i64 r727.2.h)] 71, oC (cSl 3 fDPart (o604 ++ [(⟨3, 4, []⟩ : DPart)])) s746.v] [rV s730.v (cSl 1 fY r727.2.b)] _ := hM
            exact lp_end (m617, o604 ++ [(⟨3, 4, []⟩ : DPart)], left605 - 4, room606, r727.2.b, r727.2.i, r727.2.h, s746, s730) (Nat.lt_succ_self _) ⟨rfl, rfl, rfl, rfl, trivial⟩ ⟨hM, hx619⟩
        · replace hx := xif_f hc734 hx
          refine wc_skip ?_
          refine sq_n ?_
          refine wc_seq ?_
          refine wc_region ?_
          refine wv rfl (r_move rfl) ?_
          refine wv rfl (r_move rfl) ?_
          obtain ⟨hg767, hx⟩ := xg_some hx
          refine wv rfl (r_sub rfl rfl hg767) ?_
          refine wv rfl (r_assign rfl) ?_
          refine wl_nil ?_
          refine sq_n ?_
          refine wc_region ?_
          refine wv rfl (r_move rfl) ?_
          refine wv rfl (r_move rfl) ?_
          refine wv rfl (r_build (cells := #[(.int .i64 3), (.int .i64 r727.1), (.slice none 0 0)]) rfl (by kernel_rfl)) ?_
          replace hM := hM.p1
          obtain ⟨hg775, hx⟩ := xg_some hx
          refine w_push (f := fDPart) (⟨3, r727.1, []⟩ : DPart) rfl rfl Try.underlying29 sz77 rfl rfl rfl rfl (fun _ => rfl) hM (fun _ => zP (pV _ rfl) (zP (pV _ rfl) (zP (pN _ _) zN))) rfl hg775 rfl ?_; intro u773 s774 w772 hM
          refine wv rfl (r_assign rfl) ?_
          refine wl_nil ?_
          refine bk_n ?_
          refine sq_n ?_
          refine wc_seq ?_
          refine wc_region ?_
          refine wv rfl (r_move rfl) ?_
          refine wv rfl (r_lenC Try.underlying29 rfl (hM.seeO (.head _))) ?_
          refine wv rfl (r_gtr rfl rfl) ?_
          refine wl_nil ?_
          refine sq_n ?_
          refine wc_cond rfl (fun hc780 => ?_) (fun hc780 => ?_)
          · replace hx := xif_t hc780 hx
            refine wc_seq ?_
            refine wc_region ?_
            refine wv rfl (r_move rfl) ?_
            refine wv rfl (r_move rfl) ?_
            refine wv rfl (r_build (cells := #[(.int .i64 1), (.int .i64 (left605 - r727.1)), (.slice none 0 0)]) rfl (by kernel_rfl)) ?_
            obtain ⟨hg787, hx⟩ := xg_some hx
            refine w_push (f := fDPart) (⟨1, left605 - r727.1, []⟩ : DPart) rfl rfl Try.underlying29 sz77 rfl rfl rfl rfl (fun _ => rfl) hM (fun _ => zP (pV _ rfl) (zP (pV _ rfl) (zP (pN _ _) zN))) rfl hg787 rfl ?_; intro u785 s786 w784 hM
            refine wv rfl (r_assign rfl) ?_
            refine wl_nil ?_
            refine sq_n ?_
            refine wc_seq ?_
            refine wc_region ?_
            refine wv rfl (r_assign rfl) ?_
            refine wl_nil ?_
            refine sq_n ?_
            refine wc_exit ?_
            refine bk_exit rfl ?_
            refine lp1_exit ?_
            obtain rfl := Option.some.inj hx
            obtain rfl := Option.some.inj hx619
            replace hx := hx603
            try dsimp only [Sum.elim_inl, Sum.elim_inr] at hx
            refine bk_here ?_
            refine sq_n ?_
            refine wc_seq ?_
            refine wc_region ?_
            refine wv rfl (r_move rfl) ?_
            refine wv rfl (r_assign rfl) ?_
            refine wl_nil ?_
            refine sq_n ?_
            refine wc_ret ?_
            obtain rfl := Option.some.inj hx
            refine fin_ret [s786.v] ⟨rfl, trivial⟩ ?_
            replace hM := hM.t2
            have hM := hM.fewer (rsC (.head _) rsN)
            exact ⟨(s786, s730), rfl, hM.gives⟩
          · replace hx := xif_f hc780 hx
            refine wc_skip ?_
            refine bk_n ?_
            obtain rfl := Option.some.inj hx
            replace hM := hM.p1
            have hM := hM.fewer (rsC (.head _) rsN)
            replace hM : St ⟨w, X, S⟩ [oBox b_c #[s730.v, (.int .i64 r727.2.i), (.int .i64 r727.2.h)] 71, oC (cSl 3 fDPart (o604 ++ [(⟨3, r727.1, []⟩ : DPart)])) s774.v] [rV s730.v (cSl 1 fY r727.2.b)] _ := hM
            exact lp_end (m617, o604 ++ [(⟨3, r727.1, []⟩ : DPart)], left605 - r727.1, room606, r727.2.b, r727.2.i, r727.2.h, s774, s730) (Nat.lt_succ_self _) ⟨rfl, rfl, rfl, rfl, trivial⟩ ⟨hM, hx619⟩
      · replace hx := xif_f hc722 hx
        refine wc_seq ?_
        refine wc_region ?_
        refine wv rfl (r_move rfl) ?_
        refine wv rfl (r_move rfl) ?_
        obtain ⟨hg795, hx⟩ := xg_some hx
        refine wv rfl (r_add rfl rfl hg795) ?_
        obtain ⟨r796, h797, hx⟩ := bind_some' hx
        refine w_call rfl rfl (hM.callR (l := [oBox b_c #[s644.v, (.int .i64 r641.2.i), (.int .i64 r641.2.h)] 71]) fun X S oL hS hR => ct_spec_l01Below _ X S b_c r641.2 s644 (left605 + 1) hS (hR _ (.head _)) oL h797) ?_
        rintro _ w798 ⟨s799, rfl, hM⟩
        replace hM : St ⟨w, X, S⟩ [oBox b_c #[s799.v, (.int .i64 r796.2.i), (.int .i64 r796.2.h)] 71, oC (cSl 3 fDPart o604) s611.v] [rV s799.v (cSl 1 fY r796.2.b), rV s644.v (cSl 1 fY r641.2.b), rV s632.v (cSl 1 fY c630.2.1)] _ := hM
        refine wv rfl (r_assign rfl) ?_
        refine wl_nil ?_
        refine sq_n ?_
        refine wc_seq ?_
        refine wc_region ?_
        refine wv rfl (r_move rfl) ?_
        refine wv rfl (r_move rfl) ?_
        obtain ⟨hg804, hx⟩ := xg_some hx
        refine wv rfl (r_sub rfl rfl hg804) ?_
        refine wv rfl (r_assign rfl) ?_
        refine wl_nil ?_
        refine sq_n ?_
        refine wc_region ?_
        refine wv rfl (r_move rfl) ?_
        refine wv rfl (r_move rfl) ?_
        refine wv rfl (r_build (cells := #[(.int .i64 1), (.int .i64 r796.1), (.slice none 0 0)]) rfl (by kernel_rfl)) ?_
        replace hM := hM.p1
        obtain ⟨hg812, hx⟩ := xg_some hx
        refine w_push (f := fDPart) (⟨1, r796.1, []⟩ : DPart) rfl rfl Try.underlying29 sz77 rfl rfl rfl rfl (fun _ => rfl) hM (fun _ => zP (pV _ rfl) (zP (pV _ rfl) (zP (pN _ _) zN))) rfl hg812 rfl ?_; intro u810 s811 w809 hM
        refine wv rfl (r_assign rfl) ?_
        refine wl_nil ?_
        refine bk_n ?_
        refine sq_n ?_
        refine wc_seq ?_
        refine wc_region ?_
        refine wv rfl (r_move rfl) ?_
        refine wv rfl (r_lenC Try.underlying29 rfl (hM.seeO (.head _))) ?_
        refine wv rfl (r_gtr rfl rfl) ?_
        refine wl_nil ?_
        refine sq_n ?_
        refine wc_cond rfl (fun hc817 => ?_) (fun hc817 => ?_)
        · replace hx := xif_t hc817 hx
          refine wc_seq ?_
          refine wc_region ?_
          refine wv rfl (r_move rfl) ?_
          refine wv rfl (r_move rfl) ?_
          refine wv rfl (r_build (cells := #[(.int .i64 1), (.int .i64 (left605 - r796.1)), (.slice none 0 0)]) rfl (by kernel_rfl)) ?_
          obtain ⟨hg824, hx⟩ := xg_some hx
          refine w_push (f := fDPart) (⟨1, left605 - r796.1, []⟩ : DPart) rfl rfl Try.underlying29 sz77 rfl rfl rfl rfl (fun _ => rfl) hM (fun _ => zP (pV _ rfl) (zP (pV _ rfl) (zP (pN _ _) zN))) rfl hg824 rfl ?_; intro u822 s823 w821 hM
          refine wv rfl (r_assign rfl) ?_
          refine wl_nil ?_
          refine sq_n ?_
          refine wc_seq ?_
          refine wc_region ?_
          refine wv rfl (r_assign rfl) ?_
          refine wl_nil ?_
          refine sq_n ?_
          refine wc_exit ?_
          refine bk_exit rfl ?_
          refine lp1_exit ?_
          obtain rfl := Option.some.inj hx
          obtain rfl := Option.some.inj hx619
          replace hx := hx603
          try dsimp only [Sum.elim_inl, Sum.elim_inr] at hx
          refine bk_here ?_
          refine sq_n ?_
          refine wc_seq ?_
          refine wc_region ?_
          refine wv rfl (r_move rfl) ?_
          refine wv rfl (r_assign rfl) ?_
          refine wl_nil ?_
          refine sq_n ?_
          refine wc_ret ?_
          obtain rfl := Option.some.inj hx
          refine fin_ret [s823.v] ⟨rfl, trivial⟩ ?_
          replace hM := hM.t2
          have hM := hM.fewer (rsC (.head _) rsN)
          exact ⟨(s823, s799), rfl, hM.gives⟩
        · replace hx := xif_f hc817 hx
          refine wc_skip ?_
          refine bk_n ?_
          obtain rfl := Option.some.inj hx
          replace hM := hM.p1
          have hM := hM.fewer (rsC (.head _) rsN)
          replace hM : St ⟨w, X, S⟩ [oBox b_c #[s799.v, (.int .i64 r796.2.i), (.int .i64 r796.2.h)] 71, oC (cSl 3 fDPart (o604 ++ [(⟨1, r796.1, []⟩ : DPart)])) s811.v] [rV s799.v (cSl 1 fY r796.2.b)] _ := hM
          exact lp_end (m617, o604 ++ [(⟨1, r796.1, []⟩ : DPart)], left605 - r796.1, room606, r796.2.b, r796.2.i, r796.2.h, s811, s799) (Nat.lt_succ_self _) ⟨rfl, rfl, rfl, rfl, trivial⟩ ⟨hM, hx619⟩
  · replace hx := xif_f hc639 hx
    refine wc_exit ?_
    refine sq_exit ?_
    refine lp1_exit ?_
    obtain rfl := Option.some.inj hx
    obtain rfl := Option.some.inj hx619
    replace hx := hx603
    try dsimp only [Sum.elim_inl, Sum.elim_inr] at hx
    refine bk_here ?_
    refine sq_n ?_
    refine wc_seq ?_
    refine wc_region ?_
    refine wv rfl (r_move rfl) ?_
    refine wv rfl (r_assign rfl) ?_
    refine wl_nil ?_
    refine sq_n ?_
    refine wc_ret ?_
    obtain rfl := Option.some.inj hx
    refine fin_ret [s611.v] ⟨rfl, trivial⟩ ?_
    replace hM := hM.p1
    replace hM := hM.t2
    have hM := hM.fewer (rsC (.head _) rsN)
    exact ⟨(s611, s632), rfl, hM.gives⟩

noncomputable def x_spec_MakeOp (code : List UInt8) (n : Int) : Option (List DPart) :=
  Option.bind (x_spec_l01New code) fun r3 => xg (inI (r3.h + 17)) <| Option.bind (x_spec_l02Draw (⟨r3.b, r3.i, r3.h + 17⟩ : DL01Cur) n) fun r23 => some r23.1
theorem ct_spec_MakeOp (w : World) (X S : Bs) (code : List UInt8) (s_code : Sv) (n : Int) (hS : ∀ b, S b → b < w.heap.size ∧ ¬ X b) (a_code_0 : (cSl 1 fY code).rd S w s_code.v) (oL : Sep [] X w) {r : List DPart} (hx : x_spec_MakeOp code n = some r) :
    Ret Try.prog 9 [s_code.v, (.int .i64 n)] w (fun u w' => ∃ y : Sv, u = y.v ∧ Gives X S w [oC (cSl 3 fDPart r) y.v] [] w') := by
  unfold x_spec_MakeOp at hx
  refine enter Try.func9 rfl Try.ntmps9 (by kernel_rfl) rfl ?_
  have hM := St.enter oL hS
  have hM := hM.addE (r := rV s_code.v (cSl 1 fY code)) a_code_0
  refine wc_seq ?_
  refine wc_region ?_
  refine wv rfl (r_assign rfl) ?_
  refine wl_nil ?_
  refine sq_n ?_
  refine wc_seq ?_
  refine wc_region ?_
  refine wv rfl (r_move rfl) ?_
  obtain ⟨r32, h33, hx⟩ := bind_some' hx
  refine w_call rfl rfl (hM.callR (l := []) fun X S oL hS hR => ct_spec_l01New _ X S code s_code hS (hR _ (.head _)) oL h33) ?_
  rintro _ w34 ⟨⟨b35, s36⟩, rfl, hM⟩
  replace hM : St ⟨w, X, S⟩ [oBox b35 #[s36.v, (.int .i64 r32.i), (.int .i64 r32.h)] 71] [rV s36.v (cSl 1 fY r32.b), rV s_code.v (cSl 1 fY code)] _ := hM
  refine wv rfl (r_assign rfl) ?_
  refine wl_nil ?_
  refine sq_n ?_
  refine wc_seq ?_
  refine wc_region ?_
  refine wv rfl (r_move rfl) ?_
  refine wv rfl (r_move rfl) ?_
  refine wv rfl (r_nilck rfl) ?_
  refine wv rfl (r_fld Try.underlying71 rfl rfl sz3 rfl) ?_
  refine wv rfl (r_ldB Try.underlying3 rfl rfl hM (.head _) rfl) ?_
  obtain ⟨hg45, hx⟩ := xg_some hx
  refine wv rfl (r_add rfl rfl hg45) ?_
  refine wv rfl (r_nilck rfl) ?_
  refine wv rfl (r_fld Try.underlying71 rfl rfl sz3 rfl) ?_
  refine w_exu (x_stB #[s36.v, (.int .i64 r32.i), (.int .i64 (r32.h + 17))] sz3 rfl rfl rfl rfl rfl rfl hM ?_); intro w48 hM
  refine wl_nil ?_
  refine sq_n ?_
  refine wc_seq ?_
  refine wc_region ?_
  refine wv rfl (r_move rfl) ?_
  refine wv rfl (r_move rfl) ?_
  obtain ⟨r52, h53, hx⟩ := bind_some' hx
  refine w_call rfl rfl (hM.callR (l := [oBox b35 #[s36.v, (.int .i64 r32.i), (.int .i64 (r32.h + 17))] 71]) fun X S oL hS hR => ct_spec_l02Draw _ X S b35 (⟨r32.b, r32.i, r32.h + 17⟩ : DL01Cur) s36 n hS (hR _ (.head _)) oL h53) ?_
  rintro _ w54 ⟨⟨s55, s56⟩, rfl, hM⟩
  replace hM : St ⟨w, X, S⟩ [oC (cSl 3 fDPart r52.1) s55.v, oBox b35 #[s56.v, (.int .i64 r52.2.i), (.int .i64 r52.2.h)] 71] [rV s56.v (cSl 1 fY r52.2.b), rV s36.v (cSl 1 fY r32.b), rV s_code.v (cSl 1 fY code)] _ := hM
  refine wv rfl (r_assign rfl) ?_
  refine wl_nil ?_
  refine sq_n ?_
  refine wc_ret ?_
  obtain rfl := Option.some.inj hx
  refine fin_ret [s55.v] ⟨rfl, trivial⟩ ?_
  replace hM := hM.t1
  have hM := hM.fewer rsN
  exact ⟨s55, rfl, hM.gives⟩

noncomputable def x_spec_MakeOps (code : List UInt8) : Option (List Int × List DPart × List DPart) :=
  Option.bind (x_spec_l01New code) fun r5 => Option.bind (x_spec_l01Signs r5 10) fun r13 => Option.bind (x_spec_l02Draw r13.2 (r13.1.length : Int)) fun r23 => Option.bind (x_spec_l02Draw r23.2 (r13.1.length : Int)) fun r35 => some (r13.1, r23.1, r35.1)
theorem ct_spec_MakeOps (w : World) (X S : Bs) (code : List UInt8) (s_code : Sv) (hS : ∀ b, S b → b < w.heap.size ∧ ¬ X b) (a_code_0 : (cSl 1 fY code).rd S w s_code.v) (oL : Sep [] X w) {r : List Int × List DPart × List DPart} (hx : x_spec_MakeOps code = some r) :
    Ret Try.prog 28 [s_code.v] w (fun u w' => ∃ y : Sv × Sv × Sv, u = .tuple #[y.1.v, y.2.1.v, y.2.2.v] ∧ Gives X S w [oC (cSl 1 fI r.1) y.1.v, oC (cSl 3 fDPart r.2.1) y.2.1.v, oC (cSl 3 fDPart r.2.2) y.2.2.v] [] w') := by
  unfold x_spec_MakeOps at hx
  refine enter Try.func28 rfl Try.ntmps28 (by kernel_rfl) rfl ?_
  have hM := St.enter oL hS
  have hM := hM.addE (r := rV s_code.v (cSl 1 fY code)) a_code_0
  refine wc_seq ?_
  refine wc_region ?_
  refine wv rfl (r_assign rfl) ?_
  refine wv rfl (r_assign rfl) ?_
  refine wv rfl (r_assign rfl) ?_
  refine wl_nil ?_
  refine sq_n ?_
  refine wc_seq ?_
  refine wc_region ?_
  refine wv rfl (r_move rfl) ?_
  obtain ⟨r48, h49, hx⟩ := bind_some' hx
  refine w_call rfl rfl (hM.callR (l := []) fun X S oL hS hR => ct_spec_l01New _ X S code s_code hS (hR _ (.head _)) oL h49) ?_
  rintro _ w50 ⟨⟨b51, s52⟩, rfl, hM⟩
  replace hM : St ⟨w, X, S⟩ [oBox b51 #[s52.v, (.int .i64 r48.i), (.int .i64 r48.h)] 71] [rV s52.v (cSl 1 fY r48.b), rV s_code.v (cSl 1 fY code)] _ := hM
  refine wv rfl (r_assign rfl) ?_
  refine wl_nil ?_
  refine sq_n ?_
  refine wc_seq ?_
  refine wc_region ?_
  refine wv rfl (r_move rfl) ?_
  obtain ⟨r56, h57, hx⟩ := bind_some' hx
  refine w_call rfl rfl (hM.callR (l := [oBox b51 #[s52.v, (.int .i64 r48.i), (.int .i64 r48.h)] 71]) fun X S oL hS hR => ct_spec_l01Signs _ X S b51 r48 s52 (10 : Int) hS (hR _ (.head _)) oL h57) ?_
  rintro _ w58 ⟨⟨s59, s60⟩, rfl, hM⟩
  replace hM : St ⟨w, X, S⟩ [oC (cSl 1 fI r56.1) s59.v, oBox b51 #[s60.v, (.int .i64 r56.2.i), (.int .i64 r56.2.h)] 71] [rV s60.v (cSl 1 fY r56.2.b), rV s52.v (cSl 1 fY r48.b), rV s_code.v (cSl 1 fY code)] _ := hM
  refine wv rfl (r_assign rfl) ?_
  refine wl_nil ?_
  refine sq_n ?_
  refine wc_seq ?_
  refine wc_region ?_
  refine wv rfl (r_move rfl) ?_
  refine wv rfl (r_move rfl) ?_
  refine wv rfl (r_lenC Try.underlying26 rfl (hM.seeO (.head _))) ?_
  replace hM := hM.p1
  obtain ⟨r66, h67, hx⟩ := bind_some' hx
  refine w_call rfl rfl (hM.callR (l := [oBox b51 #[s60.v, (.int .i64 r56.2.i), (.int .i64 r56.2.h)] 71]) fun X S oL hS hR => ct_spec_l02Draw _ X S b51 r56.2 s60 (r56.1.length : Int) hS (hR _ (.head _)) oL h67) ?_
  rintro _ w68 ⟨⟨s69, s70⟩, rfl, hM⟩
  replace hM : St ⟨w, X, S⟩ [oC (cSl 3 fDPart r66.1) s69.v, oBox b51 #[s70.v, (.int .i64 r66.2.i), (.int .i64 r66.2.h)] 71, oC (cSl 1 fI r56.1) s59.v] [rV s70.v (cSl 1 fY r66.2.b), rV s60.v (cSl 1 fY r56.2.b), rV s52.v (cSl 1 fY r48.b), rV s_code.v (cSl 1 fY code)] _ := hM
  refine wv rfl (r_assign rfl) ?_
  refine wl_nil ?_
  refine sq_n ?_
  refine wc_seq ?_
  refine wc_region ?_
  refine wv rfl (r_move rfl) ?_
  refine wv rfl (r_move rfl) ?_
  refine wv rfl (r_move rfl) ?_
  refine wv rfl (r_move rfl) ?_
  refine wv rfl (r_lenC Try.underlying26 rfl (hM.seeO (.tail _ (.tail _ (.head _))))) ?_
  replace hM := hM.p1
  obtain ⟨r78, h79, hx⟩ := bind_some' hx
  refine w_call rfl rfl (hM.callR (l := [oBox b51 #[s70.v, (.int .i64 r66.2.i), (.int .i64 r66.2.h)] 71]) fun X S oL hS hR => ct_spec_l02Draw _ X S b51 r66.2 s70 (r56.1.length : Int) hS (hR _ (.head _)) oL h79) ?_
  rintro _ w80 ⟨⟨s81, s82⟩, rfl, hM⟩
  replace hM : St ⟨w, X, S⟩ [oC (cSl 3 fDPart r78.1) s81.v, oBox b51 #[s82.v, (.int .i64 r78.2.i), (.int .i64 r78.2.h)] 71, oC (cSl 3 fDPart r66.1) s69.v, oC (cSl 1 fI r56.1) s59.v] [rV s82.v (cSl 1 fY r78.2.b), rV s70.v (cSl 1 fY r66.2.b), rV s60.v (cSl 1 fY r56.2.b), rV s52.v (cSl 1 fY r48.b), rV s_code.v (cSl 1 fY code)] _ := hM
  refine wv rfl (r_assign rfl) ?_
  refine wv rfl (r_assign rfl) ?_
  refine wv rfl (r_assign rfl) ?_
  refine wl_nil ?_
  refine sq_n ?_
  refine wc_ret ?_
  obtain rfl := Option.some.inj hx
  refine fin_ret [s59.v, s69.v, s81.v] ⟨rfl, rfl, rfl, trivial⟩ ?_
  replace hM := hM.p2.p3
  replace hM := hM.t3
  have hM := hM.fewer rsN
  exact ⟨(s59, s69, s81), rfl, hM.gives⟩

noncomputable def x_spec_l24Draw_b0 (t254 : List Int) (k255 : Int) (l256 : List UInt8) (n257 : Int) (n258 : Int) (n259 : Int) (l260 : List (List DPart)) (l261 : List (List DPart)) : Option (Lr (List Int × Int × List UInt8 × Int × Int × Int × List (List DPart) × List (List DPart)) (List Int × List UInt8 × Int × Int × Int × List (List DPart) × List (List DPart))) :=
  bif decide ((0 : Int) < k255) then (Option.bind (x_spec_l01Below (⟨l256, n257, n258⟩ : DL01Cur) 5) fun r492 => bif decide (r492.1 = 0) then (Option.bind (x_spec_PastUndo (⟨n259, l260, l261⟩ : DStory) t254) fun r500 => bif r500.2.2 then (Option.bind (x_spec_Apply r500.2.1 t254) fun r520 => xg (inI (k255 - 1)) <| some (Lr.go (r520.1, k255 - 1, r492.2.b, r492.2.i, r492.2.h, r500.1.n, r500.1.undo, r500.1.redo))) else (xg (inI (k255 - 1)) <| some (Lr.go (t254, k255 - 1, r492.2.b, r492.2.i, r492.2.h, n259, l260, l261)))) else (bif decide (r492.1 = 1) then (Option.bind (x_spec_PastRedo (⟨n259, l260, l261⟩ : DStory) t254) fun r544 => bif r544.2.2 then (Option.bind (x_spec_Apply r544.2.1 t254) fun r564 => xg (inI (k255 - 1)) <| some (Lr.go (r564.1, k255 - 1, r492.2.b, r492.2.i, r492.2.h, r544.1.n, r544.1.undo, r544.1.redo))) else (xg (inI (k255 - 1)) <| some (Lr.go (t254, k255 - 1, r492.2.b, r492.2.i, r492.2.h, n259, l260, l261)))) else (bif decide (r492.1 = 2) then (Option.bind (x_spec_l02Draw r492.2 (t254.length : Int)) fun r589 => Option.bind (x_spec_PastOther (⟨n259, l260, l261⟩ : DStory) r589.1) fun r598 => bif r598.2 then (Option.bind (x_spec_Apply r589.1 t254) fun r614 => xg (inI (k255 - 1)) <| some (Lr.go (r614.1, k255 - 1, r589.2.b, r589.2.i, r589.2.h, r598.1.n, r598.1.undo, r598.1.redo))) else (xg (inI (k255 - 1)) <| some (Lr.go (t254, k255 - 1, r589.2.b, r589.2.i, r589.2.h, n259, l260, l261)))) else (Option.bind (x_spec_l02Draw r492.2 (t254.length : Int)) fun r637 => Option.bind (x_spec_PastDo (⟨n259, l260, l261⟩ : DStory) r637.1 t254) fun r647 => bif r647.2 then (Option.bind (x_spec_Apply r637.1 t254) fun r663 => xg (inI (k255 - 1)) <| some (Lr.go (r663.1, k255 - 1, r637.2.b, r637.2.i, r637.2.h, r647.1.n, r647.1.undo, r647.1.redo))) else (xg (inI (k255 - 1)) <| some (Lr.go (t254, k255 - 1, r637.2.b, r637.2.i, r637.2.h, n259, l260, l261))))))) else (some (Lr.out (t254, l256, n257, n258, n259, l260, l261)))
noncomputable def x_spec_l24Draw_f0 (s683 : List Int × Int × List UInt8 × Int × Int × Int × List (List DPart) × List (List DPart)) : Option (Lr (List Int × Int × List UInt8 × Int × Int × Int × List (List DPart) × List (List DPart)) (List Int × List UInt8 × Int × Int × Int × List (List DPart) × List (List DPart))) := x_spec_l24Draw_b0 s683.1 s683.2.1 s683.2.2.1 s683.2.2.2.1 s683.2.2.2.2.1 s683.2.2.2.2.2.1 s683.2.2.2.2.2.2.1 s683.2.2.2.2.2.2.2
noncomputable def x_spec_l24Draw (c : DL01Cur) (most : Int) : Option (DStory × List Int × DL01Cur) :=
  Option.bind (x_spec_l01Signs c 6) fun r8 => Option.bind (x_spec_PastNew (r8.1.length : Int)) fun r17 => xg (inI (most + 1)) <| Option.bind (x_spec_l01Below r8.2 (most + 1)) fun r38 => Option.bind (iter (x_spec_l24Draw_f0) (r8.1, r38.1, r38.2.b, r38.2.i, r38.2.h, r17.1.n, r17.1.undo, r17.1.redo)) fun (y684 : List Int × List UInt8 × Int × Int × Int × List (List DPart) × List (List DPart)) => some ((⟨y684.2.2.2.2.1, y684.2.2.2.2.2.1, y684.2.2.2.2.2.2⟩ : DStory), y684.1, (⟨y684.2.1, y684.2.2.1, y684.2.2.2.1⟩ : DL01Cur))
theorem ct_spec_l24Draw (w : World) (X S : Bs) (b_c : Nat) (c : DL01Cur) (s_c_0 : Sv) (most : Int) (hS : ∀ b, S b → b < w.heap.size ∧ ¬ X b) (a_c_0 : (cSl 1 fY c.b).rd S w s_c_0.v) (oL : Sep [oBox b_c #[s_c_0.v, (.int .i64 c.i), (.int .i64 c.h)] 71] X w) {r : DStory × List Int × DL01Cur} (hx : x_spec_l24Draw c most = some r) :
    Ret Try.prog 40 [(.pointer (some ⟨b_c, 0, none⟩)), (.int .i64 most)] w (fun u w' => ∃ y : Sv × Sv × Sv × Sv, u = .tuple #[.agg #[(.int .i64 r.1.n), y.1.v, y.2.1.v], y.2.2.1.v] ∧ Gives X S w [oC (cSl 1 fLDPart r.1.undo) y.1.v, oC (cSl 1 fLDPart r.1.redo) y.2.1.v, oC (cSl 1 fI r.2.1) y.2.2.1.v, oBox b_c #[y.2.2.2.v, (.int .i64 r.2.2.i), (.int .i64 r.2.2.h)] 71] [rV y.2.2.2.v (cSl 1 fY r.2.2.b)] w') := by
  unfold x_spec_l24Draw at hx
  refine enter Try.func40 rfl Try.ntmps40 (by kernel_rfl) rfl ?_
  have hM := St.enter oL hS
  have hM := hM.addE (r := rV s_c_0.v (cSl 1 fY c.b)) a_c_0
  refine wc_seq ?_
  refine wc_region ?_
  refine w_ex rfl (x_alloc sz25 hM ?_); intro b698 w697 hR699 hM
  replace hM : St ⟨w, X, S⟩ [oBox b698 #[(.int .i64 0), (.slice none 0 0), (.slice none 0 0)] 25, oBox b_c #[s_c_0.v, (.int .i64 c.i), (.int .i64 c.h)] 71] [rV s_c_0.v (cSl 1 fY c.b)] _ := hM
  refine wv rfl (r_assign rfl) ?_
  refine wl_nil ?_
  refine sq_n ?_
  refine wc_seq ?_
  refine wc_region ?_
  refine wv rfl (r_move rfl) ?_
  replace hM := hM.p1
  obtain ⟨r703, h704, hx⟩ := bind_some' hx
  refine w_call rfl rfl (hM.callR (l := [oBox b_c #[s_c_0.v, (.int .i64 c.i), (.int .i64 c.h)] 71]) fun X S oL hS hR => ct_spec_l01Signs _ X S b_c c s_c_0 (6 : Int) hS (hR _ (.head _)) oL h704) ?_
  rintro _ w705 ⟨⟨s706, s707⟩, rfl, hM⟩
  replace hM : St ⟨w, X, S⟩ [oC (cSl 1 fI r703.1) s706.v, oBox b_c #[s707.v, (.int .i64 r703.2.i), (.int .i64 r703.2.h)] 71, oBox b698 #[(.int .i64 0), (.slice none 0 0), (.slice none 0 0)] 25] [rV s707.v (cSl 1 fY r703.2.b), rV s_c_0.v (cSl 1 fY c.b)] _ := hM
  refine wv rfl (r_assign rfl) ?_
  refine wl_nil ?_
  refine sq_n ?_
  refine wc_seq ?_
  refine wc_region ?_
  refine wv rfl (r_move rfl) ?_
  refine wv rfl (r_lenC Try.underlying26 rfl (hM.seeO (.head _))) ?_
  obtain ⟨r712, h713, hx⟩ := bind_some' hx
  refine w_call rfl rfl (hM.callO (l := []) fun X S oL hS hR hO => ct_spec_PastNew _ X S (r703.1.length : Int) hS  oL h713) ?_
  rintro _ w714 ⟨⟨s715, s716⟩, rfl, hM⟩
  replace hM : St ⟨w, X, S⟩ [oC (cSl 1 fLDPart r712.1.undo) s715.v, oC (cSl 1 fLDPart r712.1.redo) s716.v, oC (cSl 1 fI r703.1) s706.v, oBox b_c #[s707.v, (.int .i64 r703.2.i), (.int .i64 r703.2.h)] 71, oBox b698 #[(.int .i64 0), (.slice none 0 0), (.slice none 0 0)] 25] [rV s707.v (cSl 1 fY r703.2.b), rV s_c_0.v (cSl 1 fY c.b)] _ := hM
  refine wv rfl (r_move rfl) ?_
  refine wv rfl (r_extract rfl rfl) ?_
  refine wv rfl (r_extract rfl rfl) ?_
  refine w_ex rfl (x_alloc sz25 hM ?_); intro b723 w722 hR724 hM
  replace hM : St ⟨w, X, S⟩ [oBox b723 #[(.int .i64 0), (.slice none 0 0), (.slice none 0 0)] 25, oC (cSl 1 fLDPart r712.1.undo) s715.v, oC (cSl 1 fLDPart r712.1.redo) s716.v, oC (cSl 1 fI r703.1) s706.v, oBox b_c #[s707.v, (.int .i64 r703.2.i), (.int .i64 r703.2.h)] 71, oBox b698 #[(.int .i64 0), (.slice none 0 0), (.slice none 0 0)] 25] [rV s707.v (cSl 1 fY r703.2.b), rV s_c_0.v (cSl 1 fY c.b)] _ := hM
  refine w_exu (x_stB #[(.int .i64 r712.1.n), s715.v, s716.v] sz25 rfl rfl rfl rfl rfl rfl hM ?_); intro w726 hM
  refine wv rfl (r_assign rfl) ?_
  refine wl_nil ?_
  refine sq_n ?_
  refine wc_seq ?_
  refine wc_seq ?_
  refine wc_region ?_
  refine wv rfl (r_move rfl) ?_
  refine wv rfl (r_move rfl) ?_
  obtain ⟨hg732, hx⟩ := xg_some hx
  refine wv rfl (r_add rfl rfl hg732) ?_
  replace hM := hM.p4
  obtain ⟨r733, h734, hx⟩ := bind_some' hx
  refine w_call rfl rfl (hM.callR (l := [oBox b_c #[s707.v, (.int .i64 r703.2.i), (.int .i64 r703.2.h)] 71]) fun X S oL hS hR => ct_spec_l01Below _ X S b_c r703.2 s707 (most + 1) hS (hR _ (.head _)) oL h734) ?_
  rintro _ w735 ⟨s736, rfl, hM⟩
  replace hM : St ⟨w, X, S⟩ [oBox b_c #[s736.v, (.int .i64 r733.2.i), (.int .i64 r733.2.h)] 71, oBox b723 #[(.int .i64 r712.1.n), s715.v, s716.v] 25, oC (cSl 1 fLDPart r712.1.undo) s715.v, oC (cSl 1 fLDPart r712.1.redo) s716.v, oC (cSl 1 fI r703.1) s706.v, oBox b698 #[(.int .i64 0), (.slice none 0 0), (.slice none 0 0)] 25] [rV s736.v (cSl 1 fY r733.2.b), rV s707.v (cSl 1 fY r703.2.b), rV s_c_0.v (cSl 1 fY c.b)] _ := hM
  refine wv rfl (r_assign rfl) ?_
  refine wl_nil ?_
  refine sq_n ?_
  refine wc_block ?_
  obtain ⟨y738, hx, hx739⟩ := bind_some' hx
  replace hM := hM.p3.p3.p4.p4.p5.p5
  have hM := hM.fewer (rsC (.head _) rsN)
  replace hM : St ⟨w, X, S⟩ [oBox b_c #[s736.v, (.int .i64 r733.2.i), (.int .i64 r733.2.h)] 71, oBox b698 #[(.int .i64 0), (.slice none 0 0), (.slice none 0 0)] 25, oBox b723 #[(.int .i64 r712.1.n), s715.v, s716.v] 25, oC (cSl 1 fI r703.1) s706.v, oC (cSl 1 fLDPart r712.1.undo) s715.v, oC (cSl 1 fLDPart r712.1.redo) s716.v] [rV s736.v (cSl 1 fY r733.2.b)] _ := hM
  obtain ⟨m757, hx⟩ := iter_run hx
  refine wc_loop (un fun (m755 : Nat) => un fun (t740 : List Int) => un fun (k741 : Int) => un fun (l742 : List UInt8) => un fun (n743 : Int) => un fun (n744 : Int) => un fun (n745 : Int) => un fun (l746 : List (List DPart)) => un fun (l747 : List (List DPart)) => un fun (s749 : Sv) => un fun (s750 : Sv) => un fun (s752 : Sv) => fun (s754 : Sv) => [(0, (.pointer (some ⟨b_c, 0, none⟩))), (4, (.pointer (some ⟨b698, 0, none⟩))), (6, s749.v), (7, (.pointer (some ⟨b723, 0, none⟩))), (9, (.int .i64 k741))]) (un fun (m755 : Nat) => un fun (t740 : List Int) => un fun (k741 : Int) => un fun (l742 : List UInt8) => un fun (n743 : Int) => un fun (n744 : Int) => un fun (n745 : Int) => un fun (l746 : List (List DPart)) => un fun (l747 : List (List DPart)) => un fun (s749 : Sv) => un fun (s750 : Sv) => un fun (s752 : Sv) => fun (s754 : Sv) w' => St ⟨w, X, S⟩ [oBox b_c #[s750.v, (.int .i64 n743), (.int .i64 n744)] 71, oBox b698 #[(.int .i64 0), (.slice none 0 0), (.slice none 0 0)] 25, oBox b723 #[(.int .i64 n745), s752.v, s754.v] 25, oC (cSl 1 fI t740) s749.v, oC (cSl 1 fLDPart l746) s752.v, oC (cSl 1 fLDPart l747) s754.v] [rV s750.v (cSl 1 fY l742)] w' ∧ iterN _ m755 (t740, k741, l742, n743, n744, n745, l746, l747) = some y738) (fun p => p.1) (m757, r703.1, r733.1, r733.2.b, r733.2.i, r733.2.h, r712.1.n, r712.1.undo, r712.1.redo, s706, s736, s715, s716) ⟨rfl, rfl, rfl, rfl, rfl, trivial⟩ ⟨hM, hx⟩ ?_
  rintro ⟨m755, t740, k741, l742, n743, n744, n745, l746, l747, s749, s750, s752, s754⟩ w758 ⟨hM, hx⟩
  obtain ⟨m759, z760, rfl, hx, hx761⟩ := iterN_step hx
  unfold x_spec_l24Draw_f0 x_spec_l24Draw_b0 at hx
  try dsimp only at hx
  refine wc_seq ?_
  refine wc_seq ?_
  refine wc_region ?_
  refine wv rfl (r_move rfl) ?_
  refine wv rfl (r_gtr rfl rfl) ?_
  refine wl_nil ?_
  refine sq_n ?_
  refine wc_cond rfl (fun hc764 => ?_) (fun hc764 => ?_)
  · replace hx := xif_t hc764 hx
    refine wc_skip ?_
    refine sq_n ?_
    refine wc_seq ?_
    refine wc_block ?_
    refine wc_seq ?_
    refine wc_region ?_
    refine wv rfl (r_ldBS Try.underlying25 sz25 rfl (us := [(.int .i64 n745), s752.v, s754.v]) rfl hM (.tail _ (.tail _ (.head _))) rfl) ?_
    refine w_ex rfl (x_alloc sz25 hM ?_); intro b767 w766 hR768 hM
    replace hM : St ⟨w, X, S⟩ [oBox b767 #[(.int .i64 0), (.slice none 0 0), (.slice none 0 0)] 25, oBox b_c #[s750.v, (.int .i64 n743), (.int .i64 n744)] 71, oBox b698 #[(.int .i64 0), (.slice none 0 0), (.slice none 0 0)] 25, oBox b723 #[(.int .i64 n745), s752.v, s754.v] 25, oC (cSl 1 fI t740) s749.v, oC (cSl 1 fLDPart l746) s752.v, oC (cSl 1 fLDPart l747) s754.v] [rV s750.v (cSl 1 fY l742)] _ := hM
    refine w_exu (x_stB #[(.int .i64 n745), s752.v, s754.v] sz25 rfl rfl rfl rfl rfl rfl hM ?_); intro w770 hM
    refine wl_nil ?_
    refine sq_n ?_
    refine wc_seq ?_
    refine wc_region ?_
    refine wv rfl (r_assign rfl) ?_
    refine wl_nil ?_
    refine sq_n ?_
    refine wc_seq ?_
    refine wc_region ?_
    refine w_ex rfl (x_empty (f := fDPart) Try.underlying29 sz77 (fun _ => rfl) hM ?_); intro s774 w773 hR775 hM
    refine wv rfl (r_assign rfl) ?_
    refine wl_nil ?_
    refine sq_n ?_
    refine wc_seq ?_
    refine wc_seq ?_
    refine wc_region ?_
    refine wv rfl (r_move rfl) ?_
    replace hM := hM.p2
    obtain ⟨r779, h780, hx⟩ := bind_some' hx
    refine w_call rfl rfl (hM.callR (l := [oBox b_c #[s750.v, (.int .i64 n743), (.int .i64 n744)] 71]) fun X S oL hS hR => ct_spec_l01Below _ X S b_c (⟨l742, n743, n744⟩ : DL01Cur) s750 (5 : Int) hS (hR _ (.head _)) oL h780) ?_
    rintro _ w781 ⟨s782, rfl, hM⟩
    replace hM : St ⟨w, X, S⟩ [oBox b_c #[s782.v, (.int .i64 r779.2.i), (.int .i64 r779.2.h)] 71, oC (cSl 3 fDPart ([] : List DPart)) s774.v, oBox b767 #[(.int .i64 n745), s752.v, s754.v] 25, oBox b698 #[(.int .i64 0), (.slice none 0 0), (.slice none 0 0)] 25, oBox b723 #[(.int .i64 n745), s752.v, s754.v] 25, oC (cSl 1 fI t740) s749.v, oC (cSl 1 fLDPart l746) s752.v, oC (cSl 1 fLDPart l747) s754.v] [rV s782.v (cSl 1 fY r779.2.b), rV s750.v (cSl 1 fY l742)] _ := hM
    refine wl_nil ?_
    refine sq_n ?_
    refine wc_block ?_
    refine wc_seq ?_
    refine wc_region ?_
    refine wv rfl (r_eql rfl rfl) ?_
    refine wv rfl (r_assign rfl) ?_
    refine wl_nil ?_
    refine sq_n ?_
    refine wc_cond rfl (fun hc785 => ?_) (fun hc785 => ?_)
    · replace hx := xif_t hc785 hx
      refine wc_region ?_
      refine wv rfl (r_ldBS Try.underlying25 sz25 rfl (us := [(.int .i64 n745), s752.v, s754.v]) rfl hM (.tail _ (.tail _ (.tail _ (.tail _ (.head _))))) rfl) ?_
      refine wv rfl (r_move rfl) ?_
      obtain ⟨r788, h789, hx⟩ := bind_some' hx
      refine w_call rfl rfl (hM.callO (l := []) fun X S oL hS hR hO => ct_spec_PastUndo _ X S (⟨n745, l746, l747⟩ : DStory) s752 s754 t740 s749 hS (seeA hO (.tail _ (.tail _ (.tail _ (.tail _ (.tail _ (.tail _ (.head _)))))))) (seeA hO (.tail _ (.tail _ (.tail _ (.tail _ (.tail _ (.tail _ (.tail _ (.head _))))))))) (seeA hO (.tail _ (.tail _ (.tail _ (.tail _ (.tail _ (.head _))))))) oL h789) ?_
      rintro _ w790 ⟨⟨s791, s792, s793⟩, rfl, hM⟩
      replace hM : St ⟨w, X, S⟩ [oC (cSl 1 fLDPart r788.1.undo) s791.v, oC (cSl 1 fLDPart r788.1.redo) s792.v, oC (cSl 3 fDPart r788.2.1) s793.v, oBox b_c #[s782.v, (.int .i64 r779.2.i), (.int .i64 r779.2.h)] 71, oC (cSl 3 fDPart ([] : List DPart)) s774.v, oBox b767 #[(.int .i64 n745), s752.v, s754.v] 25, oBox b698 #[(.int .i64 0), (.slice none 0 0), (.slice none 0 0)] 25, oBox b723 #[(.int .i64 n745), s752.v, s754.v] 25, oC (cSl 1 fI t740) s749.v, oC (cSl 1 fLDPart l746) s752.v, oC (cSl 1 fLDPart l747) s754.v] [rV s782.v (cSl 1 fY r779.2.b), rV s750.v (cSl 1 fY l742)] _ := hM
      refine wv rfl (r_move rfl) ?_
      refine wv rfl (r_extract rfl rfl) ?_
      refine wv rfl (r_extract rfl rfl) ?_
      refine wv rfl (r_extract rfl rfl) ?_
      replace hM := hM.p5
      refine w_exu (x_stB #[(.int .i64 r788.1.n), s791.v, s792.v] sz25 rfl rfl rfl rfl rfl rfl hM ?_); intro w801 hM
      refine wv rfl (r_assign rfl) ?_
      refine wv rfl (r_assign rfl) ?_
      refine wl_nil ?_
      refine bk_n ?_
      refine sq_n ?_
      refine wc_seq ?_
      refine wc_region ?_
      refine wv rfl (r_move rfl) ?_
      refine wl_nil ?_
      refine sq_n ?_
      refine wc_cond rfl (fun hc806 => ?_) (fun hc806 => ?_)
      · replace hx := xif_t hc806 hx
        refine wc_seq ?_
        refine wc_region ?_
        refine wv rfl (r_move rfl) ?_
        refine wv rfl (r_move rfl) ?_
        obtain ⟨r809, h810, hx⟩ := bind_some' hx
        refine w_call rfl rfl (hM.callO (l := []) fun X S oL hS hR hO => ct_spec_Apply _ X S r788.2.1 s793 t740 s749 hS (seeA hO (.tail _ (.tail _ (.tail _ (.head _))))) (seeA hO (.tail _ (.tail _ (.tail _ (.tail _ (.tail _ (.tail _ (.tail _ (.tail _ (.head _)))))))))) oL h810) ?_
        rintro _ w811 ⟨s812, rfl, hM⟩
        replace hM : St ⟨w, X, S⟩ [oC (cSl 1 fI r809.1) s812.v, oBox b767 #[(.int .i64 r788.1.n), s791.v, s792.v] 25, oC (cSl 1 fLDPart r788.1.undo) s791.v, oC (cSl 1 fLDPart r788.1.redo) s792.v, oC (cSl 3 fDPart r788.2.1) s793.v, oBox b_c #[s782.v, (.int .i64 r779.2.i), (.int .i64 r779.2.h)] 71, oC (cSl 3 fDPart ([] : List DPart)) s774.v, oBox b698 #[(.int .i64 0), (.slice none 0 0), (.slice none 0 0)] 25, oBox b723 #[(.int .i64 n745), s752.v, s754.v] 25, oC (cSl 1 fI t740) s749.v, oC (cSl 1 fLDPart l746) s752.v, oC (cSl 1 fLDPart l747) s754.v] [rV s782.v (cSl 1 fY r779.2.b), rV s750.v (cSl 1 fY l742)] _ := hM
        refine wv rfl (r_move rfl) ?_
        refine wv rfl (r_extract rfl rfl) ?_
        refine wv rfl (r_extract rfl rfl) ?_
        refine wv rfl (r_assign rfl) ?_
        refine wl_nil ?_
        refine sq_n ?_
        refine wc_region ?_
        refine wv rfl (r_ldBS Try.underlying25 sz25 rfl (us := [(.int .i64 r788.1.n), s791.v, s792.v]) rfl hM (.tail _ (.head _)) rfl) ?_
        replace hM := hM.p8
        refine w_exu (x_stB #[(.int .i64 r788.1.n), s791.v, s792.v] sz25 rfl rfl rfl rfl rfl rfl hM ?_); intro w819 hM
        refine wl_nil ?_
        refine bk_n ?_
        refine sq_n ?_
        refine wc_region ?_
        refine wv rfl (r_move rfl) ?_
        obtain ⟨hg823, hx⟩ := xg_some hx
        refine wv rfl (r_sub rfl rfl hg823) ?_
        refine wv rfl (r_assign rfl) ?_
        refine wl_nil ?_
        obtain rfl := Option.some.inj hx
        replace hM := hM.p4.p4.p3.p3.p8.p7
        replace hM := hM.t6
        have hM := hM.fewer (rsC (.head _) rsN)
        replace hM : St ⟨w, X, S⟩ [oBox b_c #[s782.v, (.int .i64 r779.2.i), (.int .i64 r779.2.h)] 71, oBox b698 #[(.int .i64 0), (.slice none 0 0), (.slice none 0 0)] 25, oBox b723 #[(.int .i64 r788.1.n), s791.v, s792.v] 25, oC (cSl 1 fI r809.1) s812.v, oC (cSl 1 fLDPart r788.1.undo) s791.v, oC (cSl 1 fLDPart r788.1.redo) s792.v] [rV s782.v (cSl 1 fY r779.2.b)] _ := hM
        exact lp_end (m759, r809.1, k741 - 1, r779.2.b, r779.2.i, r779.2.h, r788.1.n, r788.1.undo, r788.1.redo, s812, s782, s791, s792) (Nat.lt_succ_self _) ⟨rfl, rfl, rfl, rfl, rfl, trivial⟩ ⟨hM, hx761⟩
      · replace hx := xif_f hc806 hx
        refine wc_skip ?_
        refine bk_n ?_
        refine sq_n ?_
        refine wc_region ?_
        refine wv rfl (r_move rfl) ?_
        obtain ⟨hg827, hx⟩ := xg_some hx
        refine wv rfl (r_sub rfl rfl hg827) ?_
        refine wv rfl (r_assign rfl) ?_
        refine wl_nil ?_
        obtain rfl := Option.some.inj hx
        replace hM : St ⟨w, X, S⟩ [oBox b_c #[s782.v, (.int .i64 r779.2.i), (.int .i64 r779.2.h)] 71, oBox b698 #[(.int .i64 0), (.slice none 0 0), (.slice none 0 0)] 25, oBox b723 #[(.int .i64 n745), s752.v, s754.v] 25, oC (cSl 1 fI t740) s749.v, oC (cSl 1 fLDPart l746) s752.v, oC (cSl 1 fLDPart l747) s754.v, oBox b767 #[(.int .i64 r788.1.n), s791.v, s792.v] 25, oC (cSl 1 fLDPart r788.1.undo) s791.v, oC (cSl 1 fLDPart r788.1.redo) s792.v, oC (cSl 3 fDPart r788.2.1) s793.v, oC (cSl 3 fDPart ([] : List DPart)) s774.v] [rV s782.v (cSl 1 fY r779.2.b), rV s750.v (cSl 1 fY l742)] _ := hM.pl [10, 10, 10, 10, 10, 9]
        replace hM := hM.t6
        have hM := hM.fewer (rsC (.head _) rsN)
        replace hM : St ⟨w, X, S⟩ [oBox b_c #[s782.v, (.int .i64 r779.2.i), (.int .i64 r779.2.h)] 71, oBox b698 #[(.int .i64 0), (.slice none 0 0), (.slice none 0 0)] 25, oBox b723 #[(.int .i64 n745), s752.v, s754.v] 25, oC (cSl 1 fI t740) s749.v, oC (cSl 1 fLDPart l746) s752.v, oC (cSl 1 fLDPart l747) s754.v] [rV s782.v (cSl 1 fY r779.2.b)] _ := hM
        exact lp_end (m759, t740, k741 - 1, r779.2.b, r779.2.i, r779.2.h, n745, l746, l747, s749, s782, s752, s754) (Nat.lt_succ_self _) ⟨rfl, rfl, rfl, rfl, rfl, trivial⟩ ⟨hM, hx761⟩
    · replace hx := xif_f hc785 hx
      refine wc_seq ?_
      refine wc_region ?_
      refine wv rfl (r_eql rfl rfl) ?_
      refine wv rfl (r_assign rfl) ?_
      refine wl_nil ?_
      refine sq_n ?_
      refine wc_cond rfl (fun hc831 => ?_) (fun hc831 => ?_)
      · replace hx := xif_t hc831 hx
        refine wc_region ?_
        refine wv rfl (r_ldBS Try.underlying25 sz25 rfl (us := [(.int .i64 n745), s752.v, s754.v]) rfl hM (.tail _ (.tail _ (.tail _ (.tail _ (.head _))))) rfl) ?_
        refine wv rfl (r_move rfl) ?_
        obtain ⟨r834, h835, hx⟩ := bind_some' hx
        refine w_call rfl rfl (hM.callO (l := []) fun X S oL hS hR hO => ct_spec_PastRedo _ X S (⟨n745, l746, l747⟩ : DStory) s752 s754 t740 s749 hS (seeA hO (.tail _ (.tail _ (.tail _ (.tail _ (.tail _ (.tail _ (.head _)))))))) (seeA hO (.tail _ (.tail _ (.tail _ (.tail _ (.tail _ (.tail _ (.tail _ (.head _))))))))) (seeA hO (.tail _ (.tail _ (.tail _ (.tail _ (.tail _ (.head _))))))) oL h835) ?_
        rintro _ w836 ⟨⟨s837, s838, s839⟩, rfl, hM⟩
        replace hM : St ⟨w, X, S⟩ [oC (cSl 1 fLDPart r834.1.undo) s837.v, oC (cSl 1 fLDPart r834.1.redo) s838.v, oC (cSl 3 fDPart r834.2.1) s839.v, oBox b_c #[s782.v, (.int .i64 r779.2.i), (.int .i64 r779.2.h)] 71, oC (cSl 3 fDPart ([] : List DPart)) s774.v, oBox b767 #[(.int .i64 n745), s752.v, s754.v] 25, oBox b698 #[(.int .i64 0), (.slice none 0 0), (.slice none 0 0)] 25, oBox b723 #[(.int .i64 n745), s752.v, s754.v] 25, oC (cSl 1 fI t740) s749.v, oC (cSl 1 fLDPart l746) s752.v, oC (cSl 1 fLDPart l747) s754.v] [rV s782.v (cSl 1 fY r779.2.b), rV s750.v (cSl 1 fY l742)] _ := hM
        refine wv rfl (r_move rfl) ?_
        refine wv rfl (r_extract rfl rfl) ?_
        refine wv rfl (r_extract rfl rfl) ?_
        refine wv rfl (r_extract rfl rfl) ?_
        replace hM := hM.p5
        refine w_exu (x_stB #[(.int .i64 r834.1.n), s837.v, s838.v] sz25 rfl rfl rfl rfl rfl rfl hM ?_); intro w847 hM
        refine wv rfl (r_assign rfl) ?_
        refine wv rfl (r_assign rfl) ?_
        refine wl_nil ?_
        refine bk_n ?_
        refine sq_n ?_
        refine wc_seq ?_
        refine wc_region ?_
        refine wv rfl (r_move rfl) ?_
        refine wl_nil ?_
        refine sq_n ?_
        refine wc_cond rfl (fun hc852 => ?_) (fun hc852 => ?_)
        · replace hx := xif_t hc852 hx
          refine wc_seq ?_
          refine wc_region ?_
          refine wv rfl (r_move rfl) ?_
          refine wv rfl (r_move rfl) ?_
          obtain ⟨r855, h856, hx⟩ := bind_some' hx
          refine w_call rfl rfl (hM.callO (l := []) fun X S oL hS hR hO => ct_spec_Apply _ X S r834.2.1 s839 t740 s749 hS (seeA hO (.tail _ (.tail _ (.tail _ (.head _))))) (seeA hO (.tail _ (.tail _ (.tail _ (.tail _ (.tail _ (.tail _ (.tail _ (.tail _ (.head _)))))))))) oL h856) ?_
          rintro _ w857 ⟨s858, rfl, hM⟩
          replace hM : St ⟨w, X, S⟩ [oC (cSl 1 fI r855.1) s858.v, oBox b767 #[(.int .i64 r834.1.n), s837.v, s838.v] 25, oC (cSl 1 fLDPart r834.1.undo) s837.v, oC (cSl 1 fLDPart r834.1.redo) s838.v, oC (cSl 3 fDPart r834.2.1) s839.v, oBox b_c #[s782.v, (.int .i64 r779.2.i), (.int .i64 r779.2.h)] 71, oC (cSl 3 fDPart ([] : List DPart)) s774.v, oBox b698 #[(.int .i64 0), (.slice none 0 0), (.slice none 0 0)] 25, oBox b723 #[(.int .i64 n745), s752.v, s754.v] 25, oC (cSl 1 fI t740) s749.v, oC (cSl 1 fLDPart l746) s752.v, oC (cSl 1 fLDPart l747) s754.v] [rV s782.v (cSl 1 fY r779.2.b), rV s750.v (cSl 1 fY l742)] _ := hM
          refine wv rfl (r_move rfl) ?_
          refine wv rfl (r_extract rfl rfl) ?_
          refine wv rfl (r_extract rfl rfl) ?_
          refine wv rfl (r_assign rfl) ?_
          refine wl_nil ?_
          refine sq_n ?_
          refine wc_region ?_
          refine wv rfl (r_ldBS Try.underlying25 sz25 rfl (us := [(.int .i64 r834.1.n), s837.v, s838.v]) rfl hM (.tail _ (.head _)) rfl) ?_
          replace hM := hM.p8
          refine w_exu (x_stB #[(.int .i64 r834.1.n), s837.v, s838.v] sz25 rfl rfl rfl rfl rfl rfl hM ?_); intro w865 hM
          refine wl_nil ?_
          refine bk_n ?_
          refine sq_n ?_
          refine wc_region ?_
          refine wv rfl (r_move rfl) ?_
          obtain ⟨hg869, hx⟩ := xg_some hx
          refine wv rfl (r_sub rfl rfl hg869) ?_
          refine wv rfl (r_assign rfl) ?_
          refine wl_nil ?_
          obtain rfl := Option.some.inj hx
          replace hM := hM.p4.p4.p3.p3.p8.p7
          replace hM := hM.t6
          have hM := hM.fewer (rsC (.head _) rsN)
          replace hM : St ⟨w, X, S⟩ [oBox b_c #[s782.v, (.int .i64 r779.2.i), (.int .i64 r779.2.h)] 71, oBox b698 #[(.int .i64 0), (.slice none 0 0), (.slice none 0 0)] 25, oBox b723 #[(.int .i64 r834.1.n), s837.v, s838.v] 25, oC (cSl 1 fI r855.1) s858.v, oC (cSl 1 fLDPart r834.1.undo) s837.v, oC (cSl 1 fLDPart r834.1.redo) s838.v] [rV s782.v (cSl 1 fY r779.2.b)] _ := hM
          exact lp_end (m759, r855.1, k741 - 1, r779.2.b, r779.2.i, r779.2.h, r834.1.n, r834.1.undo, r834.1.redo, s858, s782, s837, s838) (Nat.lt_succ_self _) ⟨rfl, rfl, rfl, rfl, rfl, trivial⟩ ⟨hM, hx761⟩
        · replace hx := xif_f hc852 hx
          refine wc_skip ?_
          refine bk_n ?_
          refine sq_n ?_
          refine wc_region ?_
          refine wv rfl (r_move rfl) ?_
          obtain ⟨hg873, hx⟩ := xg_some hx
          refine wv rfl (r_sub rfl rfl hg873) ?_
          refine wv rfl (r_assign rfl) ?_
          refine wl_nil ?_
          obtain rfl := Option.some.inj hx
          replace hM : St ⟨w, X, S⟩ [oBox b_c #[s782.v, (.int .i64 r779.2.i), (.int .i64 r779.2.h)] 71, oBox b698 #[(.int .i64 0), (.slice none 0 0), (.slice none 0 0)] 25, oBox b723 #[(.int .i64 n745), s752.v, s754.v] 25, oC (cSl 1 fI t740) s749.v, oC (cSl 1 fLDPart l746) s752.v, oC (cSl 1 fLDPart l747) s754.v, oBox b767 #[(.int .i64 r834.1.n), s837.v, s838.v] 25, oC (cSl 1 fLDPart r834.1.undo) s837.v, oC (cSl 1 fLDPart r834.1.redo) s838.v, oC (cSl 3 fDPart r834.2.1) s839.v, oC (cSl 3 fDPart ([] : List DPart)) s774.v] [rV s782.v (cSl 1 fY r779.2.b), rV s750.v (cSl 1 fY l742)] _ := hM.pl [10, 10, 10, 10, 10, 9]
          replace hM := hM.t6
          have hM := hM.fewer (rsC (.head _) rsN)
          replace hM : St ⟨w, X, S⟩ [oBox b_c #[s782.v, (.int .i64 r779.2.i), (.int .i64 r779.2.h)] 71, oBox b698 #[(.int .i64 0), (.slice none 0 0), (.slice none 0 0)] 25, oBox b723 #[(.int .i64 n745), s752.v, s754.v] 25, oC (cSl 1 fI t740) s749.v, oC (cSl 1 fLDPart l746) s752.v, oC (cSl 1 fLDPart l747) s754.v] [rV s782.v (cSl 1 fY r779.2.b)] _ := hM
          exact lp_end (m759, t740, k741 - 1, r779.2.b, r779.2.i, r779.2.h, n745, l746, l747, s749, s782, s752, s754) (Nat.lt_succ_self _) ⟨rfl, rfl, rfl, rfl, rfl, trivial⟩ ⟨hM, hx761⟩
      · replace hx := xif_f hc831 hx
        refine wc_seq ?_
        refine wc_region ?_
        refine wv rfl (r_eql rfl rfl) ?_
        refine wv rfl (r_assign rfl) ?_
        refine wl_nil ?_
        refine sq_n ?_
        refine wc_cond rfl (fun hc877 => ?_) (fun hc877 => ?_)
        · replace hx := xif_t hc877 hx
          refine wc_seq ?_
          refine wc_region ?_
          refine wv rfl (r_move rfl) ?_
          refine wv rfl (r_move rfl) ?_
          refine wv rfl (r_lenC Try.underlying26 rfl (hM.seeO (.tail _ (.tail _ (.tail _ (.tail _ (.tail _ (.head _)))))))) ?_
          obtain ⟨r881, h882, hx⟩ := bind_some' hx
          refine w_call rfl rfl (hM.callR (l := [oBox b_c #[s782.v, (.int .i64 r779.2.i), (.int .i64 r779.2.h)] 71]) fun X S oL hS hR => ct_spec_l02Draw _ X S b_c r779.2 s782 (t740.length : Int) hS (hR _ (.head _)) oL h882) ?_
          rintro _ w883 ⟨⟨s884, s885⟩, rfl, hM⟩
          replace hM : St ⟨w, X, S⟩ [oC (cSl 3 fDPart r881.1) s884.v, oBox b_c #[s885.v, (.int .i64 r881.2.i), (.int .i64 r881.2.h)] 71, oC (cSl 3 fDPart ([] : List DPart)) s774.v, oBox b767 #[(.int .i64 n745), s752.v, s754.v] 25, oBox b698 #[(.int .i64 0), (.slice none 0 0), (.slice none 0 0)] 25, oBox b723 #[(.int .i64 n745), s752.v, s754.v] 25, oC (cSl 1 fI t740) s749.v, oC (cSl 1 fLDPart l746) s752.v, oC (cSl 1 fLDPart l747) s754.v] [rV s885.v (cSl 1 fY r881.2.b), rV s782.v (cSl 1 fY r779.2.b), rV s750.v (cSl 1 fY l742)] _ := hM
          refine wv rfl (r_assign rfl) ?_
          refine wl_nil ?_
          refine sq_n ?_
          refine wc_region ?_
          refine wv rfl (r_ldBS Try.underlying25 sz25 rfl (us := [(.int .i64 n745), s752.v, s754.v]) rfl hM (.tail _ (.tail _ (.tail _ (.tail _ (.tail _ (.head _)))))) rfl) ?_
          refine wv rfl (r_move rfl) ?_
          obtain ⟨r890, h891, hx⟩ := bind_some' hx
          refine w_call rfl rfl (hM.callO (l := []) fun X S oL hS hR hO => ct_spec_PastOther _ X S (⟨n745, l746, l747⟩ : DStory) s752 s754 r881.1 s884 hS (seeA hO (.tail _ (.tail _ (.tail _ (.tail _ (.tail _ (.tail _ (.tail _ (.head _))))))))) (seeA hO (.tail _ (.tail _ (.tail _ (.tail _ (.tail _ (.tail _ (.tail _ (.tail _ (.head _)))))))))) (seeA hO (.head _)) oL h891) ?_
          rintro _ w892 ⟨⟨s893, s894⟩, rfl, hM⟩
          replace hM : St ⟨w, X, S⟩ [oC (cSl 1 fLDPart r890.1.undo) s893.v, oC (cSl 1 fLDPart r890.1.redo) s894.v, oC (cSl 3 fDPart r881.1) s884.v, oBox b_c #[s885.v, (.int .i64 r881.2.i), (.int .i64 r881.2.h)] 71, oC (cSl 3 fDPart ([] : List DPart)) s774.v, oBox b767 #[(.int .i64 n745), s752.v, s754.v] 25, oBox b698 #[(.int .i64 0), (.slice none 0 0), (.slice none 0 0)] 25, oBox b723 #[(.int .i64 n745), s752.v, s754.v] 25, oC (cSl 1 fI t740) s749.v, oC (cSl 1 fLDPart l746) s752.v, oC (cSl 1 fLDPart l747) s754.v] [rV s885.v (cSl 1 fY r881.2.b), rV s782.v (cSl 1 fY r779.2.b), rV s750.v (cSl 1 fY l742)] _ := hM
          refine wv rfl (r_move rfl) ?_
          refine wv rfl (r_extract rfl rfl) ?_
          refine wv rfl (r_extract rfl rfl) ?_
          replace hM := hM.p5
          refine w_exu (x_stB #[(.int .i64 r890.1.n), s893.v, s894.v] sz25 rfl rfl rfl rfl rfl rfl hM ?_); intro w900 hM
          refine wv rfl (r_assign rfl) ?_
          refine wl_nil ?_
          refine bk_n ?_
          refine sq_n ?_
          refine wc_seq ?_
          refine wc_region ?_
          refine wv rfl (r_move rfl) ?_
          refine wl_nil ?_
          refine sq_n ?_
          refine wc_cond rfl (fun hc904 => ?_) (fun hc904 => ?_)
          · replace hx := xif_t hc904 hx
            refine wc_seq ?_
            refine wc_region ?_
            refine wv rfl (r_move rfl) ?_
            refine wv rfl (r_move rfl) ?_
            obtain ⟨r907, h908, hx⟩ := bind_some' hx
            refine w_call rfl rfl (hM.callO (l := []) fun X S oL hS hR hO => ct_spec_Apply _ X S r881.1 s884 t740 s749 hS (seeA hO (.tail _ (.tail _ (.tail _ (.head _))))) (seeA hO (.tail _ (.tail _ (.tail _ (.tail _ (.tail _ (.tail _ (.tail _ (.tail _ (.head _)))))))))) oL h908) ?_
            rintro _ w909 ⟨s910, rfl, hM⟩
            replace hM : St ⟨w, X, S⟩ [oC (cSl 1 fI r907.1) s910.v, oBox b767 #[(.int .i64 r890.1.n), s893.v, s894.v] 25, oC (cSl 1 fLDPart r890.1.undo) s893.v, oC (cSl 1 fLDPart r890.1.redo) s894.v, oC (cSl 3 fDPart r881.1) s884.v, oBox b_c #[s885.v, (.int .i64 r881.2.i), (.int .i64 r881.2.h)] 71, oC (cSl 3 fDPart ([] : List DPart)) s774.v, oBox b698 #[(.int .i64 0), (.slice none 0 0), (.slice none 0 0)] 25, oBox b723 #[(.int .i64 n745), s752.v, s754.v] 25, oC (cSl 1 fI t740) s749.v, oC (cSl 1 fLDPart l746) s752.v, oC (cSl 1 fLDPart l747) s754.v] [rV s885.v (cSl 1 fY r881.2.b), rV s782.v (cSl 1 fY r779.2.b), rV s750.v (cSl 1 fY l742)] _ := hM
            refine wv rfl (r_move rfl) ?_
            refine wv rfl (r_extract rfl rfl) ?_
            refine wv rfl (r_extract rfl rfl) ?_
            refine wv rfl (r_assign rfl) ?_
            refine wl_nil ?_
            refine sq_n ?_
            refine wc_region ?_
            refine wv rfl (r_ldBS Try.underlying25 sz25 rfl (us := [(.int .i64 r890.1.n), s893.v, s894.v]) rfl hM (.tail _ (.head _)) rfl) ?_
            replace hM := hM.p8
            refine w_exu (x_stB #[(.int .i64 r890.1.n), s893.v, s894.v] sz25 rfl rfl rfl rfl rfl rfl hM ?_); intro w917 hM
            refine wl_nil ?_
            refine bk_n ?_
            refine sq_n ?_
            refine wc_region ?_
            refine wv rfl (r_move rfl) ?_
            obtain ⟨hg921, hx⟩ := xg_some hx
            refine wv rfl (r_sub rfl rfl hg921) ?_
            refine wv rfl (r_assign rfl) ?_
            refine wl_nil ?_
            obtain rfl := Option.some.inj hx
            replace hM := hM.p4.p4.p3.p3.p8.p7
            replace hM := hM.t6
            have hM := hM.fewer (rsC (.head _) rsN)
            replace hM : St ⟨w, X, S⟩ [oBox b_c #[s885.v, (.int .i64 r881.2.i), (.int .i64 r881.2.h)] 71, oBox b698 #[(.int .i64 0), (.slice none 0 0), (.slice none 0 0)] 25, oBox b723 #[(.int .i64 r890.1.n), s893.v, s894.v] 25, oC (cSl 1 fI r907.1) s910.v, oC (cSl 1 fLDPart r890.1.undo) s893.v, oC (cSl 1 fLDPart r890.1.redo) s894.v] [rV s885.v (cSl 1 fY r881.2.b)] _ := hM
            exact lp_end (m759, r907.1, k741 - 1, r881.2.b, r881.2.i, r881.2.h, r890.1.n, r890.1.undo, r890.1.redo, s910, s885, s893, s894) (Nat.lt_succ_self _) ⟨rfl, rfl, rfl, rfl, rfl, trivial⟩ ⟨hM, hx761⟩
          · replace hx := xif_f hc904 hx
            refine wc_skip ?_
            refine bk_n ?_
            refine sq_n ?_
            refine wc_region ?_
            refine wv rfl (r_move rfl) ?_
            obtain ⟨hg925, hx⟩ := xg_some hx
            refine wv rfl (r_sub rfl rfl hg925) ?_
            refine wv rfl (r_assign rfl) ?_
            refine wl_nil ?_
            obtain rfl := Option.some.inj hx
            replace hM : St ⟨w, X, S⟩ [oBox b_c #[s885.v, (.int .i64 r881.2.i), (.int .i64 r881.2.h)] 71, oBox b698 #[(.int .i64 0), (.slice none 0 0), (.slice none 0 0)] 25, oBox b723 #[(.int .i64 n745), s752.v, s754.v] 25, oC (cSl 1 fI t740) s749.v, oC (cSl 1 fLDPart l746) s752.v, oC (cSl 1 fLDPart l747) s754.v, oBox b767 #[(.int .i64 r890.1.n), s893.v, s894.v] 25, oC (cSl 1 fLDPart r890.1.undo) s893.v, oC (cSl 1 fLDPart r890.1.redo) s894.v, oC (cSl 3 fDPart r881.1) s884.v, oC (cSl 3 fDPart ([] : List DPart)) s774.v] [rV s885.v (cSl 1 fY r881.2.b), rV s782.v (cSl 1 fY r779.2.b), rV s750.v (cSl 1 fY l742)] _ := hM.pl [10, 10, 10, 10, 10, 9]
            replace hM := hM.t6
            have hM := hM.fewer (rsC (.head _) rsN)
            replace hM : St ⟨w, X, S⟩ [oBox b_c #[s885.v, (.int .i64 r881.2.i), (.int .i64 r881.2.h)] 71, oBox b698 #[(.int .i64 0), (.slice none 0 0), (.slice none 0 0)] 25, oBox b723 #[(.int .i64 n745), s752.v, s754.v] 25, oC (cSl 1 fI t740) s749.v, oC (cSl 1 fLDPart l746) s752.v, oC (cSl 1 fLDPart l747) s754.v] [rV s885.v (cSl 1 fY r881.2.b)] _ := hM
            exact lp_end (m759, t740, k741 - 1, r881.2.b, r881.2.i, r881.2.h, n745, l746, l747, s749, s885, s752, s754) (Nat.lt_succ_self _) ⟨rfl, rfl, rfl, rfl, rfl, trivial⟩ ⟨hM, hx761⟩
        · replace hx := xif_f hc877 hx
          refine wc_seq ?_
          refine wc_region ?_
          refine wv rfl (r_move rfl) ?_
          refine wv rfl (r_move rfl) ?_
          refine wv rfl (r_lenC Try.underlying26 rfl (hM.seeO (.tail _ (.tail _ (.tail _ (.tail _ (.tail _ (.head _)))))))) ?_
          obtain ⟨r930, h931, hx⟩ := bind_some' hx
          refine w_call rfl rfl (hM.callR (l := [oBox b_c #[s782.v, (.int .i64 r779.2.i), (.int .i64 r779.2.h)] 71]) fun X S oL hS hR => ct_spec_l02Draw _ X S b_c r779.2 s782 (t740.length : Int) hS (hR _ (.head _)) oL h931) ?_
          rintro _ w932 ⟨⟨s933, s934⟩, rfl, hM⟩
          replace hM : St ⟨w, X, S⟩ [oC (cSl 3 fDPart r930.1) s933.v, oBox b_c #[s934.v, (.int .i64 r930.2.i), (.int .i64 r930.2.h)] 71, oC (cSl 3 fDPart ([] : List DPart)) s774.v, oBox b767 #[(.int .i64 n745), s752.v, s754.v] 25, oBox b698 #[(.int .i64 0), (.slice none 0 0), (.slice none 0 0)] 25, oBox b723 #[(.int .i64 n745), s752.v, s754.v] 25, oC (cSl 1 fI t740) s749.v, oC (cSl 1 fLDPart l746) s752.v, oC (cSl 1 fLDPart l747) s754.v] [rV s934.v (cSl 1 fY r930.2.b), rV s782.v (cSl 1 fY r779.2.b), rV s750.v (cSl 1 fY l742)] _ := hM
          refine wv rfl (r_assign rfl) ?_
          refine wl_nil ?_
          refine sq_n ?_
          refine wc_region ?_
          refine wv rfl (r_ldBS Try.underlying25 sz25 rfl (us := [(.int .i64 n745), s752.v, s754.v]) rfl hM (.tail _ (.tail _ (.tail _ (.tail _ (.tail _ (.head _)))))) rfl) ?_
          refine wv rfl (r_move rfl) ?_
          refine wv rfl (r_move rfl) ?_
          obtain ⟨r940, h941, hx⟩ := bind_some' hx
          refine w_call rfl rfl (hM.callO (l := []) fun X S oL hS hR hO => ct_spec_PastDo _ X S (⟨n745, l746, l747⟩ : DStory) s752 s754 r930.1 s933 t740 s749 hS (seeA hO (.tail _ (.tail _ (.tail _ (.tail _ (.tail _ (.tail _ (.tail _ (.head _))))))))) (seeA hO (.tail _ (.tail _ (.tail _ (.tail _ (.tail _ (.tail _ (.tail _ (.tail _ (.head _)))))))))) (seeA hO (.head _)) (seeA hO (.tail _ (.tail _ (.tail _ (.tail _ (.tail _ (.tail _ (.head _)))))))) oL h941) ?_
          rintro _ w942 ⟨⟨s943, s944⟩, rfl, hM⟩
          replace hM : St ⟨w, X, S⟩ [oC (cSl 1 fLDPart r940.1.undo) s943.v, oC (cSl 1 fLDPart r940.1.redo) s944.v, oC (cSl 3 fDPart r930.1) s933.v, oBox b_c #[s934.v, (.int .i64 r930.2.i), (.int .i64 r930.2.h)] 71, oC (cSl 3 fDPart ([] : List DPart)) s774.v, oBox b767 #[(.int .i64 n745), s752.v, s754.v] 25, oBox b698 #[(.int .i64 0), (.slice none 0 0), (.slice none 0 0)] 25, oBox b723 #[(.int .i64 n745), s752.v, s754.v] 25, oC (cSl 1 fI t740) s749.v, oC (cSl 1 fLDPart l746) s752.v, oC (cSl 1 fLDPart l747) s754.v] [rV s934.v (cSl 1 fY r930.2.b), rV s782.v (cSl 1 fY r779.2.b), rV s750.v (cSl 1 fY l742)] _ := hM
          refine wv rfl (r_move rfl) ?_
          refine wv rfl (r_extract rfl rfl) ?_
          refine wv rfl (r_extract rfl rfl) ?_
          replace hM := hM.p5
          refine w_exu (x_stB #[(.int .i64 r940.1.n), s943.v, s944.v] sz25 rfl rfl rfl rfl rfl rfl hM ?_); intro w950 hM
          refine wv rfl (r_assign rfl) ?_
          refine wl_nil ?_
          refine bk_n ?_
          refine sq_n ?_
          refine wc_seq ?_
          refine wc_region ?_
          refine wv rfl (r_move rfl) ?_
          refine wl_nil ?_
          refine sq_n ?_
          refine wc_cond rfl (fun hc954 => ?_) (fun hc954 => ?_)
          · replace hx := xif_t hc954 hx
            refine wc_seq ?_
            refine wc_region ?_
            refine wv rfl (r_move rfl) ?_
            refine wv rfl (r_move rfl) ?_
            obtain ⟨r957, h958, hx⟩ := bind_some' hx
            refine w_call rfl rfl (hM.callO (l := []) fun X S oL hS hR hO => ct_spec_Apply _ X S r930.1 s933 t740 s749 hS (seeA hO (.tail _ (.tail _ (.tail _ (.head _))))) (seeA hO (.tail _ (.tail _ (.tail _ (.tail _ (.tail _ (.tail _ (.tail _ (.tail _ (.head _)))))))))) oL h958) ?_
            rintro _ w959 ⟨s960, rfl, hM⟩
            replace hM : St ⟨w, X, S⟩ [oC (cSl 1 fI r957.1) s960.v, oBox b767 #[(.int .i64 r940.1.n), s943.v, s944.v] 25, oC (cSl 1 fLDPart r940.1.undo) s943.v, oC (cSl 1 fLDPart r940.1.redo) s944.v, oC (cSl 3 fDPart r930.1) s933.v, oBox b_c #[s934.v, (.int .i64 r930.2.i), (.int .i64 r930.2.h)] 71, oC (cSl 3 fDPart ([] : List DPart)) s774.v, oBox b698 #[(.int .i64 0), (.slice none 0 0), (.slice none 0 0)] 25, oBox b723 #[(.int .i64 n745), s752.v, s754.v] 25, oC (cSl 1 fI t740) s749.v, oC (cSl 1 fLDPart l746) s752.v, oC (cSl 1 fLDPart l747) s754.v] [rV s934.v (cSl 1 fY r930.2.b), rV s782.v (cSl 1 fY r779.2.b), rV s750.v (cSl 1 fY l742)] _ := hM
            refine wv rfl (r_move rfl) ?_
            refine wv rfl (r_extract rfl rfl) ?_
            refine wv rfl (r_extract rfl rfl) ?_
            refine wv rfl (r_assign rfl) ?_
            refine wl_nil ?_
            refine sq_n ?_
            refine wc_region ?_
            refine wv rfl (r_ldBS Try.underlying25 sz25 rfl (us := [(.int .i64 r940.1.n), s943.v, s944.v]) rfl hM (.tail _ (.head _)) rfl) ?_
            replace hM := hM.p8
            refine w_exu (x_stB #[(.int .i64 r940.1.n), s943.v, s944.v] sz25 rfl rfl rfl rfl rfl rfl hM ?_); intro w967 hM
            refine wl_nil ?_
            refine bk_n ?_
            refine sq_n ?_
            refine wc_region ?_
            refine wv rfl (r_move rfl) ?_
            obtain ⟨hg971, hx⟩ := xg_some hx
            refine wv rfl (r_sub rfl rfl hg971) ?_
            refine wv rfl (r_assign rfl) ?_
            refine wl_nil ?_
            obtain rfl := Option.some.inj hx
            replace hM := hM.p4.p4.p3.p3.p8.p7
            replace hM := hM.t6
            have hM := hM.fewer (rsC (.head _) rsN)
            replace hM : St ⟨w, X, S⟩ [oBox b_c #[s934.v, (.int .i64 r930.2.i), (.int .i64 r930.2.h)] 71, oBox b698 #[(.int .i64 0), (.slice none 0 0), (.slice none 0 0)] 25, oBox b723 #[(.int .i64 r940.1.n), s943.v, s944.v] 25, oC (cSl 1 fI r957.1) s960.v, oC (cSl 1 fLDPart r940.1.undo) s943.v, oC (cSl 1 fLDPart r940.1.redo) s944.v] [rV s934.v (cSl 1 fY r930.2.b)] _ := hM
            exact lp_end (m759, r957.1, k741 - 1, r930.2.b, r930.2.i, r930.2.h, r940.1.n, r940.1.undo, r940.1.redo, s960, s934, s943, s944) (Nat.lt_succ_self _) ⟨rfl, rfl, rfl, rfl, rfl, trivial⟩ ⟨hM, hx761⟩
          · replace hx := xif_f hc954 hx
            refine wc_skip ?_
            refine bk_n ?_
            refine sq_n ?_
            refine wc_region ?_
            refine wv rfl (r_move rfl) ?_
            obtain ⟨hg975, hx⟩ := xg_some hx
            refine wv rfl (r_sub rfl rfl hg975) ?_
            refine wv rfl (r_assign rfl) ?_
            refine wl_nil ?_
            obtain rfl := Option.some.inj hx
            replace hM : St ⟨w, X, S⟩ [oBox b_c #[s934.v, (.int .i64 r930.2.i), (.int .i64 r930.2.h)] 71, oBox b698 #[(.int .i64 0), (.slice none 0 0), (.slice none 0 0)] 25, oBox b723 #[(.int .i64 n745), s752.v, s754.v] 25, oC (cSl 1 fI t740) s749.v, oC (cSl 1 fLDPart l746) s752.v, oC (cSl 1 fLDPart l747) s754.v, oBox b767 #[(.int .i64 r940.1.n), s943.v, s944.v] 25, oC (cSl 1 fLDPart r940.1.undo) s943.v, oC (cSl 1 fLDPart r940.1.redo) s944.v, oC (cSl 3 fDPart r930.1) s933.v, oC (cSl 3 fDPart ([] : List DPart)) s774.v] [rV s934.v (cSl 1 fY r930.2.b), rV s782.v (cSl 1 fY r779.2.b), rV s750.v (cSl 1 fY l742)] _ := hM.pl [10, 10, 10, 10, 10, 9]
            replace hM := hM.t6
            have hM := hM.fewer (rsC (.head _) rsN)
            replace hM : St ⟨w, X, S⟩ [oBox b_c #[s934.v, (.int .i64 r930.2.i), (.int .i64 r930.2.h)] 71, oBox b698 #[(.int .i64 0), (.slice none 0 0), (.slice none 0 0)] 25, oBox b723 #[(.int .i64 n745), s752.v, s754.v] 25, oC (cSl 1 fI t740) s749.v, oC (cSl 1 fLDPart l746) s752.v, oC (cSl 1 fLDPart l747) s754.v] [rV s934.v (cSl 1 fY r930.2.b)] _ := hM
            exact lp_end (m759, t740, k741 - 1, r930.2.b, r930.2.i, r930.2.h, n745, l746, l747, s749, s934, s752, s754) (Nat.lt_succ_self _) ⟨rfl, rfl, rfl, rfl, rfl, trivial⟩ ⟨hM, hx761⟩
  · replace hx := xif_f hc764 hx
    refine wc_exit ?_
    refine sq_exit ?_
    refine lp1_exit ?_
    obtain rfl := Option.some.inj hx
    obtain rfl := Option.some.inj hx761
    replace hx := hx739
    try dsimp only [Sum.elim_inl, Sum.elim_inr] at hx
    refine bk_here ?_
    refine sq_n ?_
    refine wc_seq ?_
    refine wc_region ?_
    refine wv rfl (r_ldBS Try.underlying25 sz25 rfl (us := [(.int .i64 n745), s752.v, s754.v]) rfl hM (.tail _ (.tail _ (.head _))) rfl) ?_
    refine wv rfl (r_move rfl) ?_
    replace hM := hM.p1
    refine w_exu (x_stB #[(.int .i64 n745), s752.v, s754.v] sz25 rfl rfl rfl rfl rfl rfl hM ?_); intro w979 hM
    refine wv rfl (r_assign rfl) ?_
    refine wl_nil ?_
    refine sq_n ?_
    refine wc_ret ?_
    obtain rfl := Option.some.inj hx
    refine fin_ret [(.agg #[(.int .i64 n745), s752.v, s754.v]), s749.v] ⟨rv_box Try.underlying25 sz25 rfl rfl hM (.head _), rfl, trivial⟩ ?_
    replace hM := hM.p1.p3.p5.p5
    replace hM := hM.t4
    have hM := hM.fewer (rsC (.head _) rsN)
    exact ⟨(s752, s754, s749, s750), rfl, hM.gives⟩

noncomputable def x_spec_MakeStory (code : List UInt8) : Option (DStory × List Int) :=
  Option.bind (x_spec_l01New code) fun r7 => Option.bind (x_spec_l24Draw r7 9) fun r15 => some (r15.1, r15.2.1)
theorem ct_spec_MakeStory (w : World) (X S : Bs) (code : List UInt8) (s_code : Sv) (hS : ∀ b, S b → b < w.heap.size ∧ ¬ X b) (a_code_0 : (cSl 1 fY code).rd S w s_code.v) (oL : Sep [] X w) {r : DStory × List Int} (hx : x_spec_MakeStory code = some r) :
    Ret Try.prog 8 [s_code.v] w (fun u w' => ∃ y : Sv × Sv × Sv, u = .tuple #[.agg #[(.int .i64 r.1.n), y.1.v, y.2.1.v], y.2.2.v] ∧ Gives X S w [oC (cSl 1 fLDPart r.1.undo) y.1.v, oC (cSl 1 fLDPart r.1.redo) y.2.1.v, oC (cSl 1 fI r.2) y.2.2.v] [] w') := by
  unfold x_spec_MakeStory at hx
  refine enter Try.func8 rfl Try.ntmps8 (by kernel_rfl) rfl ?_
  have hM := St.enter oL hS
  have hM := hM.addE (r := rV s_code.v (cSl 1 fY code)) a_code_0
  refine wc_seq ?_
  refine wc_region ?_
  refine w_ex rfl (x_alloc sz25 hM ?_); intro b41 w40 hR42 hM
  replace hM : St ⟨w, X, S⟩ [oBox b41 #[(.int .i64 0), (.slice none 0 0), (.slice none 0 0)] 25] [rV s_code.v (cSl 1 fY code)] _ := hM
  refine wv rfl (r_assign rfl) ?_
  refine wl_nil ?_
  refine sq_n ?_
  refine wc_seq ?_
  refine wc_region ?_
  refine wv rfl (r_move rfl) ?_
  obtain ⟨r46, h47, hx⟩ := bind_some' hx
  refine w_call rfl rfl (hM.callR (l := []) fun X S oL hS hR => ct_spec_l01New _ X S code s_code hS (hR _ (.head _)) oL h47) ?_
  rintro _ w48 ⟨⟨b49, s50⟩, rfl, hM⟩
  replace hM : St ⟨w, X, S⟩ [oBox b49 #[s50.v, (.int .i64 r46.i), (.int .i64 r46.h)] 71, oBox b41 #[(.int .i64 0), (.slice none 0 0), (.slice none 0 0)] 25] [rV s50.v (cSl 1 fY r46.b), rV s_code.v (cSl 1 fY code)] _ := hM
  refine wv rfl (r_assign rfl) ?_
  refine wl_nil ?_
  refine sq_n ?_
  refine wc_seq ?_
  refine wc_region ?_
  refine wv rfl (r_move rfl) ?_
  obtain ⟨r54, h55, hx⟩ := bind_some' hx
  refine w_call rfl rfl (hM.callR (l := [oBox b49 #[s50.v, (.int .i64 r46.i), (.int .i64 r46.h)] 71]) fun X S oL hS hR => ct_spec_l24Draw _ X S b49 r46 s50 (9 : Int) hS (hR _ (.head _)) oL h55) ?_
  rintro _ w56 ⟨⟨s57, s58, s59, s60⟩, rfl, hM⟩
  replace hM : St ⟨w, X, S⟩ [oC (cSl 1 fLDPart r54.1.undo) s57.v, oC (cSl 1 fLDPart r54.1.redo) s58.v, oC (cSl 1 fI r54.2.1) s59.v, oBox b49 #[s60.v, (.int .i64 r54.2.2.i), (.int .i64 r54.2.2.h)] 71, oBox b41 #[(.int .i64 0), (.slice none 0 0), (.slice none 0 0)] 25] [rV s60.v (cSl 1 fY r54.2.2.b), rV s50.v (cSl 1 fY r46.b), rV s_code.v (cSl 1 fY code)] _ := hM
  refine wv rfl (r_move rfl) ?_
  refine wv rfl (r_extract rfl rfl) ?_
  refine wv rfl (r_extract rfl rfl) ?_
  refine w_ex rfl (x_alloc sz25 hM ?_); intro b68 w67 hR69 hM
  replace hM : St ⟨w, X, S⟩ [oBox b68 #[(.int .i64 0), (.slice none 0 0), (.slice none 0 0)] 25, oC (cSl 1 fLDPart r54.1.undo) s57.v, oC (cSl 1 fLDPart r54.1.redo) s58.v, oC (cSl 1 fI r54.2.1) s59.v, oBox b49 #[s60.v, (.int .i64 r54.2.2.i), (.int .i64 r54.2.2.h)] 71, oBox b41 #[(.int .i64 0), (.slice none 0 0), (.slice none 0 0)] 25] [rV s60.v (cSl 1 fY r54.2.2.b), rV s50.v (cSl 1 fY r46.b), rV s_code.v (cSl 1 fY code)] _ := hM
  refine w_exu (x_stB #[(.int .i64 r54.1.n), s57.v, s58.v] sz25 rfl rfl rfl rfl rfl rfl hM ?_); intro w71 hM
  refine wv rfl (r_assign rfl) ?_
  refine wl_nil ?_
  refine sq_n ?_
  refine wc_seq ?_
  refine wc_region ?_
  refine wv rfl (r_ldBS Try.underlying25 sz25 rfl (us := [(.int .i64 r54.1.n), s57.v, s58.v]) rfl hM (.head _) rfl) ?_
  refine wv rfl (r_move rfl) ?_
  replace hM := hM.p5
  refine w_exu (x_stB #[(.int .i64 r54.1.n), s57.v, s58.v] sz25 rfl rfl rfl rfl rfl rfl hM ?_); intro w76 hM
  refine wv rfl (r_assign rfl) ?_
  refine wl_nil ?_
  refine sq_n ?_
  refine wc_ret ?_
  obtain rfl := Option.some.inj hx
  refine fin_ret [(.agg #[(.int .i64 r54.1.n), s57.v, s58.v]), s59.v] ⟨rv_box Try.underlying25 sz25 rfl rfl hM (.head _), rfl, trivial⟩ ?_
  replace hM := hM.p4.p4.p4
  replace hM := hM.t3
  have hM := hM.fewer rsN
  exact ⟨(s57, s58, s59), rfl, hM.gives⟩

end Go.Proofs.Ythfkcpdechjmnaa
