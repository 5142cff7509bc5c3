/- Walks of functions of this program (printed by a program of ours, by the rules of the layer). No condition. -/
import Derived.Test.YthfkcpdechjmnaaG3
import Derived.Test.YthfkcpdechjmnaaNr
namespace Go.Proofs.Ythfkcpdechjmnaa
open Go.RowKit

noncomputable def x_spec_l01New_b0 (code : List UInt8) (h7 : Int) (i8 : Int) : Option (Lr (Int × Int) Int) :=
  Option.bind (bif decide (i8 < (code.length : Int)) then (some (decide (i8 < 4000))) else (some false)) fun c41 => bif c41 then (xg (0 ≤ i8 ∧ i8 < (code.length : Int)) <| some (Lr.go (bAnd (iw ((iw ((iw (h7 * 43)) + ((el code i8.toNat).toNat : Int))) + 7)) 1073741823, iw (i8 + 1)))) else (some (Lr.out h7))
noncomputable def x_spec_l01New_f0 (code : List UInt8) (s63 : Int × Int) : Option (Lr (Int × Int) Int) := x_spec_l01New_b0 code s63.1 s63.2
noncomputable def x_spec_l01New (code : List UInt8) : Option DL01Cur :=
  Option.bind (iter (x_spec_l01New_f0 code) (iw (1621 + (code.length : Int)), 0)) fun (y64 : Int) => some (⟨code, 0, y64⟩ : DL01Cur)
theorem ct_spec_l01New (w : World) (X S : Bs) (code : List UInt8) (s_code : Sv) (hS : ∀ b, S b → b < w.heap.size ∧ ¬ X b) (a_code_0 : (cSl 1 fY code).rd S w s_code.v) (oL : Sep [] X w) {r : DL01Cur} (hx : x_spec_l01New code = some r) :
    Ret Try.prog 39 [s_code.v] w (fun u w' => ∃ y : Nat × Sv, u = (.pointer (some ⟨y.1, 0, none⟩)) ∧ Gives X S w [oBox y.1 #[y.2.v, (.int .i64 r.i), (.int .i64 r.h)] 71] [rV y.2.v (cSl 1 fY r.b)] w') := by
  unfold x_spec_l01New at hx
  refine enter Try.func39 rfl Try.ntmps39 (by kernel_rfl) rfl ?_
  have hM := St.enter oL hS
  have hM := hM.addE (r := rV s_code.v (cSl 1 fY code)) a_code_0
  refine wc_seq ?_
  refine wc_region ?_
  refine wv rfl (r_assign rfl) ?_
  refine wl_nil ?_
  refine sq_n ?_
  refine wc_seq ?_
  refine wc_region ?_
  refine wv rfl (r_move rfl) ?_
  refine wv rfl (r_lenC Try.underlying22 rfl (hM.seeR (.head _))) ?_
  refine wv rfl (r_addw rfl rfl) ?_
  refine wv rfl (r_assign rfl) ?_
  refine wl_nil ?_
  refine sq_n ?_
  refine wc_seq ?_
  refine wc_seq ?_
  refine wc_region ?_
  refine wv rfl (r_assign rfl) ?_
  refine wl_nil ?_
  refine sq_n ?_
  refine wc_block ?_
  obtain ⟨y79, hx, hx80⟩ := bind_some' hx
  obtain ⟨m85, hx⟩ := iter_run hx
  refine wc_loop (un fun (m83 : Nat) => un fun (h81 : Int) => fun (i82 : Int) => [(0, s_code.v), (3, (.int .i64 h81)), (4, (.int .i64 i82))]) (un fun (m83 : Nat) => un fun (h81 : Int) => fun (i82 : Int) w' => St ⟨w, X, S⟩ [] [rV s_code.v (cSl 1 fY code)] w' ∧ iterN _ m83 (h81, i82) = some y79) (fun p => p.1) (m85, iw (1621 + (code.length : Int)), 0) ⟨rfl, rfl, rfl, trivial⟩ ⟨hM, hx⟩ ?_
  rintro ⟨m83, h81, i82⟩ w86 ⟨hM, hx⟩
  obtain ⟨m87, z88, rfl, hx, hx89⟩ := iterN_step hx
  unfold x_spec_l01New_f0 x_spec_l01New_b0 at hx
  try dsimp only at hx
  refine wc_seq ?_
  refine wc_seq ?_
  refine wc_region ?_
  refine wv rfl (r_move rfl) ?_
  refine wv rfl (r_move rfl) ?_
  refine wv rfl (r_lenC Try.underlying22 rfl (hM.seeR (.head _))) ?_
  refine wv rfl (r_lss rfl rfl) ?_
  refine wv rfl (r_move rfl) ?_
  obtain ⟨c95, hx, hx99⟩ := bind_some' hx
  refine wl_mid 3 (fun _ : Unit => [(15, (.bool c95)), (0, s_code.v), (3, (.int .i64 h81)), (4, (.int .i64 i82))]) (fun _ w' => St ⟨w, X, S⟩ [] [rV s_code.v (cSl 1 fY code)] w') ?_ ?_
  · rcases Bool.eq_false_or_eq_true (decide (i82 < (code.length : Int))) with hg96 | hg96
    · replace hx := xif_t hg96 hx
      refine gv rfl hg96 rfl (r_move rfl) ?_
      refine gv rfl hg96 rfl (r_lss rfl rfl) ?_
      refine wv rfl (p_t rfl hg96 rfl) ?_
      obtain rfl := Option.some.inj hx
      exact mid_nil () ⟨rfl, rfl, rfl, rfl, trivial⟩ hM
    · replace hx := xif_f hg96 hx
      refine gs rfl (isB_no hg96) rfl ?_
      refine gs rfl (isB_no hg96) rfl ?_
      refine wv rfl (p_f rfl hg96 rfl) ?_
      obtain rfl := Option.some.inj hx
      exact mid_nil () ⟨rfl, rfl, rfl, rfl, trivial⟩ hM
  rintro _ w102 hM
  replace hx := hx99
  refine wl_nil ?_
  refine sq_n ?_
  refine wc_cond rfl (fun hc103 => ?_) (fun hc103 => ?_)
  · replace hx := xif_t hc103 hx
    refine wc_skip ?_
    refine sq_n ?_
    refine wc_seq ?_
    refine wc_block ?_
    refine wc_region ?_
    refine wv rfl (r_move rfl) ?_
    refine wv rfl (r_mulw rfl rfl) ?_
    refine wv rfl (r_move rfl) ?_
    refine wv rfl (r_move rfl) ?_
    obtain ⟨hg110, hx⟩ := xg_some hx
    have hi109 : i82.toNat < code.length := by omega
    refine wv rfl (r_ixC Try.underlying22 sz5 rfl rfl (hM.seeR (.head _)) hg110) ?_
    refine wv rfl (r_ld Try.underlying5 rfl rfl (Cs.get (i := i82.toNat) (j := 0) (hM.seeR (.head _)) (fun _ => rfl) hi109 rfl)) ?_
    refine wv rfl (r_cvt Try.underlying5 Try.underlying3 rfl (u8_cvt _)) ?_
    refine wv rfl (r_addw rfl rfl) ?_
    refine wv rfl (r_addw rfl rfl) ?_
    refine wv rfl (r_and rfl rfl) ?_
    refine wv rfl (r_assign rfl) ?_
    refine wl_nil ?_
    refine bk_n ?_
    refine sq_n ?_
    refine wc_region ?_
    refine wv rfl (r_move rfl) ?_
    refine wv rfl (r_addw rfl rfl) ?_
    refine wv rfl (r_assign rfl) ?_
    refine wl_nil ?_
    obtain rfl := Option.some.inj hx
    exact lp_end (m87, bAnd (iw ((iw ((iw (h81 * 43)) + ((el code i82.toNat).toNat : Int))) + 7)) 1073741823, iw (i82 + 1)) (Nat.lt_succ_self _) ⟨rfl, rfl, rfl, trivial⟩ ⟨hM, hx89⟩
  · replace hx := xif_f hc103 hx
    refine wc_exit ?_
    refine sq_exit ?_
    refine lp1_exit ?_
    obtain rfl := Option.some.inj hx
    obtain rfl := Option.some.inj hx89
    replace hx := hx80
    try dsimp only [Sum.elim_inl, Sum.elim_inr] at hx
    refine bk_here ?_
    refine sq_n ?_
    refine wc_seq ?_
    refine wc_region ?_
    refine wv rfl (r_move rfl) ?_
    refine wv rfl (r_move rfl) ?_
    refine wv rfl (r_build (cells := #[s_code.v, (.int .i64 0), (.int .i64 h81)]) rfl (by kernel_rfl)) ?_
    refine w_ex rfl (x_box rfl hM ?_); intro b124 w123 hR125 hM
    replace hM : St ⟨w, X, S⟩ [oBox b124 #[s_code.v, (.int .i64 0), (.int .i64 h81)] 71] [rV s_code.v (cSl 1 fY code)] _ := hM
    refine wv rfl (r_assign rfl) ?_
    refine wl_nil ?_
    refine sq_n ?_
    refine wc_ret ?_
    obtain rfl := Option.some.inj hx
    refine fin_ret [(.pointer (some ⟨b124, 0, none⟩))] ⟨rfl, trivial⟩ ?_
    replace hM := hM.t1
    have hM := hM.fewer (rsC (.head _) rsN)
    exact ⟨(b124, s_code), rfl, hM.gives⟩

noncomputable def x_spec_l01Byte (c : DL01Cur) : Option (Int × DL01Cur) :=
  xg (0 ≤ (33 : Int)) <| xg (0 ≤ (45 : Int)) <| bif decide (c.i < (c.b.length : Int)) then (xg (0 ≤ c.i ∧ c.i < (c.b.length : Int)) <| some (bAnd (iw ((bAnd (bXor (bShr (iw ((iw (c.h * 6364136223846793005)) + 1442695040888963407)) 33) (bShr (iw ((iw (c.h * 6364136223846793005)) + 1442695040888963407)) 45)) 255) + ((el c.b c.i.toNat).toNat : Int))) 255, (⟨c.b, iw (c.i + 1), iw ((iw (c.h * 6364136223846793005)) + 1442695040888963407)⟩ : DL01Cur))) else (some (bAnd (bXor (bShr (iw ((iw (c.h * 6364136223846793005)) + 1442695040888963407)) 33) (bShr (iw ((iw (c.h * 6364136223846793005)) + 1442695040888963407)) 45)) 255, (⟨c.b, c.i, iw ((iw (c.h * 6364136223846793005)) + 1442695040888963407)⟩ : DL01Cur)))
theorem ct_spec_l01Byte (w : World) (X S : Bs) (b_c : Nat) (c : DL01Cur) (s_c_0 : Sv) (hS : ∀ b, S b → b < w.heap.size ∧ ¬ X b) (a_c_0 : (cSl 1 fY c.b).rd S w s_c_0.v) (oL : Sep [oBox b_c #[s_c_0.v, (.int .i64 c.i), (.int .i64 c.h)] 71] X w) {r : Int × DL01Cur} (hx : x_spec_l01Byte c = some r) :
    Ret Try.prog 115 [(.pointer (some ⟨b_c, 0, none⟩))] w (fun u w' => ∃ y : Sv, u = (.int .i64 r.1) ∧ Gives X S w [oBox b_c #[y.v, (.int .i64 r.2.i), (.int .i64 r.2.h)] 71] [rV y.v (cSl 1 fY r.2.b)] w') := by
  unfold x_spec_l01Byte at hx
  refine enter Try.func115 rfl Try.ntmps115 (by kernel_rfl) rfl ?_
  have hM := St.enter oL hS
  have hM := hM.addE (r := rV s_c_0.v (cSl 1 fY c.b)) a_c_0
  refine wc_seq ?_
  refine wc_region ?_
  refine wv rfl (r_assign rfl) ?_
  refine wl_nil ?_
  refine sq_n ?_
  refine wc_seq ?_
  refine wc_region ?_
  refine wv rfl (r_move rfl) ?_
  refine wv rfl (r_move rfl) ?_
  refine wv rfl (r_nilck rfl) ?_
  refine wv rfl (r_fld Try.underlying71 rfl rfl sz3 rfl) ?_
  refine wv rfl (r_ldB Try.underlying3 rfl rfl hM (.head _) rfl) ?_
  refine wv rfl (r_mulw rfl rfl) ?_
  refine wv rfl (r_addw rfl rfl) ?_
  refine wv rfl (r_nilck rfl) ?_
  refine wv rfl (r_fld Try.underlying71 rfl rfl sz3 rfl) ?_
  refine w_exu (x_stB #[s_c_0.v, (.int .i64 c.i), (.int .i64 (iw ((iw (c.h * 6364136223846793005)) + 1442695040888963407)))] sz3 rfl rfl rfl rfl rfl rfl hM ?_); intro w86 hM
  refine wl_nil ?_
  refine sq_n ?_
  refine wc_seq ?_
  refine wc_draw [(0, 0), (1, 0), (2, 0), (3, 0), (4, 0), (5, 0), (6, 0), (7, 0), (8, 0), (9, 0), (10, 0), (11, 0), (12, 0)] Try_mixed (by kernel_rfl) rfl (by kernel_rfl) rfl ?_
  refine ov rfl (fun w' h' => r_move rfl) ?_
  refine ov rfl (fun w' h' => r_nilck rfl) ?_
  refine ov rfl (fun w' h' => r_fld Try.underlying71 rfl rfl sz3 rfl) ?_
  refine ov rfl (fun w' h' => r_ldB Try.underlying3 rfl rfl (hM.call h') (.head _) rfl) ?_
  obtain ⟨hg93, hx⟩ := xg_some hx
  refine ov rfl (fun w' h' => r_shr rfl rfl hg93) ?_
  refine ov rfl (fun w' h' => r_move rfl) ?_
  refine ov rfl (fun w' h' => r_nilck rfl) ?_
  refine ov rfl (fun w' h' => r_fld Try.underlying71 rfl rfl sz3 rfl) ?_
  refine ov rfl (fun w' h' => r_ldB Try.underlying3 rfl rfl (hM.call h') (.head _) rfl) ?_
  obtain ⟨hg99, hx⟩ := xg_some hx
  refine ov rfl (fun w' h' => r_shr rfl rfl hg99) ?_
  refine ov rfl (fun w' h' => r_xor rfl rfl) ?_
  refine ov rfl (fun w' h' => r_and rfl rfl) ?_
  refine ov rfl (fun w' h' => r_assign rfl) ?_
  refine o_nil fun w103 hw104 => ?_
  have hM := hM.call hw104
  refine sq_n ?_
  refine wc_seq ?_
  refine wc_seq ?_
  refine wc_draw [(0, 0), (1, 0), (2, 0), (3, 0), (4, 0), (5, 0), (6, 0), (7, 0), (8, 0), (9, 0)] Try_mixed (by kernel_rfl) rfl (by kernel_rfl) rfl ?_
  refine ov rfl (fun w' h' => r_move rfl) ?_
  refine ov rfl (fun w' h' => r_nilck rfl) ?_
  refine ov rfl (fun w' h' => r_fld Try.underlying71 rfl rfl sz3 rfl) ?_
  refine ov rfl (fun w' h' => r_ldB Try.underlying3 rfl rfl (hM.call h') (.head _) rfl) ?_
  refine ov rfl (fun w' h' => r_move rfl) ?_
  refine ov rfl (fun w' h' => r_nilck rfl) ?_
  refine ov rfl (fun w' h' => r_fld Try.underlying71 rfl rfl sz22 rfl) ?_
  refine ov rfl (fun w' h' => r_ldB Try.underlying22 rfl rfl (hM.call h') (.head _) rfl) ?_
  refine ov rfl (fun w' h' => r_lenC Try.underlying22 rfl ((hM.call h').seeR (.head _))) ?_
  refine ov rfl (fun w' h' => r_lss rfl rfl) ?_
  refine o_nil fun w115 hw116 => ?_
  have hM := hM.call hw116
  refine sq_n ?_
  refine wc_cond rfl (fun hc117 => ?_) (fun hc117 => ?_)
  · replace hx := xif_t hc117 hx
    refine wc_seq ?_
    refine wc_draw [(0, 0), (1, 0), (2, 0), (3, 0), (4, 0), (5, 0), (6, 0), (7, 0), (8, 0), (9, 0), (10, 0), (11, 0), (12, 0), (13, 0), (14, 0)] Try_mixed (by kernel_rfl) rfl (by kernel_rfl) rfl ?_
    refine ov rfl (fun w' h' => r_move rfl) ?_
    refine ov rfl (fun w' h' => r_move rfl) ?_
    refine ov rfl (fun w' h' => r_nilck rfl) ?_
    refine ov rfl (fun w' h' => r_fld Try.underlying71 rfl rfl sz22 rfl) ?_
    refine ov rfl (fun w' h' => r_ldB Try.underlying22 rfl rfl (hM.call h') (.head _) rfl) ?_
    refine ov rfl (fun w' h' => r_move rfl) ?_
    refine ov rfl (fun w' h' => r_nilck rfl) ?_
    refine ov rfl (fun w' h' => r_fld Try.underlying71 rfl rfl sz3 rfl) ?_
    refine ov rfl (fun w' h' => r_ldB Try.underlying3 rfl rfl (hM.call h') (.head _) rfl) ?_
    obtain ⟨hg129, hx⟩ := xg_some hx
    have hi128 : c.i.toNat < c.b.length := by omega
    refine ov rfl (fun w' h' => r_ixC Try.underlying22 sz5 rfl rfl ((hM.call h').seeR (.head _)) hg129) ?_
    refine ov rfl (fun w' h' => r_ld Try.underlying5 rfl rfl (Cs.get (i := c.i.toNat) (j := 0) ((hM.call h').seeR (.head _)) (fun _ => rfl) hi128 rfl)) ?_
    refine ov rfl (fun w' h' => r_cvt Try.underlying5 Try.underlying3 rfl (u8_cvt _)) ?_
    refine ov rfl (fun w' h' => r_addw rfl rfl) ?_
    refine ov rfl (fun w' h' => r_and rfl rfl) ?_
    refine ov rfl (fun w' h' => r_assign rfl) ?_
    refine o_nil fun w135 hw136 => ?_
    have hM := hM.call hw136
    refine sq_n ?_
    refine wc_region ?_
    refine wv rfl (r_move rfl) ?_
    refine wv rfl (r_move rfl) ?_
    refine wv rfl (r_nilck rfl) ?_
    refine wv rfl (r_fld Try.underlying71 rfl rfl sz3 rfl) ?_
    refine wv rfl (r_ldB Try.underlying3 rfl rfl hM (.head _) rfl) ?_
    refine wv rfl (r_addw rfl rfl) ?_
    refine wv rfl (r_nilck rfl) ?_
    refine wv rfl (r_fld Try.underlying71 rfl rfl sz3 rfl) ?_
    refine w_exu (x_stB #[s_c_0.v, (.int .i64 (iw (c.i + 1))), (.int .i64 (iw ((iw (c.h * 6364136223846793005)) + 1442695040888963407)))] sz3 rfl rfl rfl rfl rfl rfl hM ?_); intro w145 hM
    refine wl_nil ?_
    refine sq_n ?_
    refine wc_seq ?_
    refine wc_region ?_
    refine wv rfl (r_move rfl) ?_
    refine wv rfl (r_assign rfl) ?_
    refine wl_nil ?_
    refine sq_n ?_
    refine wc_ret ?_
    obtain rfl := Option.some.inj hx
    refine fin_ret [(.int .i64 (bAnd (iw ((bAnd (bXor (bShr (iw ((iw (c.h * 6364136223846793005)) + 1442695040888963407)) 33) (bShr (iw ((iw (c.h * 6364136223846793005)) + 1442695040888963407)) 45)) 255) + ((el c.b c.i.toNat).toNat : Int))) 255))] ⟨rfl, trivial⟩ ?_
    replace hM := hM.t1
    have hM := hM.fewer (rsC (.head _) rsN)
    exact ⟨s_c_0, rfl, hM.gives⟩
  · replace hx := xif_f hc117 hx
    refine wc_skip ?_
    refine sq_n ?_
    refine wc_seq ?_
    refine wc_region ?_
    refine wv rfl (r_move rfl) ?_
    refine wv rfl (r_assign rfl) ?_
    refine wl_nil ?_
    refine sq_n ?_
    refine wc_ret ?_
    obtain rfl := Option.some.inj hx
    refine fin_ret [(.int .i64 (bAnd (bXor (bShr (iw ((iw (c.h * 6364136223846793005)) + 1442695040888963407)) 33) (bShr (iw ((iw (c.h * 6364136223846793005)) + 1442695040888963407)) 45)) 255))] ⟨rfl, trivial⟩ ?_
    replace hM := hM.t1
    have hM := hM.fewer (rsC (.head _) rsN)
    exact ⟨s_c_0, rfl, hM.gives⟩

noncomputable def x_spec_l01Below (c : DL01Cur) (n : Int) : Option (Int × DL01Cur) :=
  bif decide (n ≤ 0) then (some (0, c)) else (bif decide (n ≤ 256) then (Option.bind (x_spec_l01Byte c) fun r9 => xg (0 ≤ r9.1 ∧ 0 < n) <| some (r9.1 % n, r9.2)) else (Option.bind (x_spec_l01Byte c) fun r18 => Option.bind (x_spec_l01Byte r18.2) fun r24 => Option.bind (x_spec_l01Byte r24.2) fun r30 => Option.bind (x_spec_l01Byte r30.2) fun r36 => xg (inI (r18.1 * 16777216)) <| xg (inI (r24.1 * 65536)) <| xg (inI ((r18.1 * 16777216) + (r24.1 * 65536))) <| xg (inI (r30.1 * 256)) <| xg (inI (((r18.1 * 16777216) + (r24.1 * 65536)) + (r30.1 * 256))) <| xg (inI ((((r18.1 * 16777216) + (r24.1 * 65536)) + (r30.1 * 256)) + r36.1)) <| xg (0 ≤ ((((r18.1 * 16777216) + (r24.1 * 65536)) + (r30.1 * 256)) + r36.1) ∧ 0 < n) <| some (((((r18.1 * 16777216) + (r24.1 * 65536)) + (r30.1 * 256)) + r36.1) % n, r36.2)))
theorem ct_spec_l01Below (w : World) (X S : Bs) (b_c : Nat) (c : DL01Cur) (s_c_0 : Sv) (n : Int) (hS : ∀ b, S b → b < w.heap.size ∧ ¬ X b) (a_c_0 : (cSl 1 fY c.b).rd S w s_c_0.v) (oL : Sep [oBox b_c #[s_c_0.v, (.int .i64 c.i), (.int .i64 c.h)] 71] X w) {r : Int × DL01Cur} (hx : x_spec_l01Below c n = some r) :
    Ret Try.prog 80 [(.pointer (some ⟨b_c, 0, none⟩)), (.int .i64 n)] w (fun u w' => ∃ y : Sv, u = (.int .i64 r.1) ∧ Gives X S w [oBox b_c #[y.v, (.int .i64 r.2.i), (.int .i64 r.2.h)] 71] [rV y.v (cSl 1 fY r.2.b)] w') := by
  unfold x_spec_l01Below at hx
  refine enter Try.func80 rfl Try.ntmps80 (by kernel_rfl) rfl ?_
  have hM := St.enter oL hS
  have hM := hM.addE (r := rV s_c_0.v (cSl 1 fY c.b)) a_c_0
  refine wc_seq ?_
  refine wc_region ?_
  refine wv rfl (r_assign rfl) ?_
  refine wl_nil ?_
  refine sq_n ?_
  refine wc_seq ?_
  refine wc_seq ?_
  refine wc_region ?_
  refine wv rfl (r_move rfl) ?_
  refine wv rfl (r_leq rfl rfl) ?_
  refine wl_nil ?_
  refine sq_n ?_
  refine wc_cond rfl (fun hc64 => ?_) (fun hc64 => ?_)
  · replace hx := xif_t hc64 hx
    refine wc_seq ?_
    refine wc_region ?_
    refine wv rfl (r_assign rfl) ?_
    refine wl_nil ?_
    refine sq_n ?_
    refine wc_ret ?_
    refine sq_ret ?_
    obtain rfl := Option.some.inj hx
    refine fin_ret [(.int .i64 0)] ⟨rfl, trivial⟩ ?_
    replace hM := hM.t1
    have hM := hM.fewer (rsC (.head _) rsN)
    exact ⟨s_c_0, rfl, hM.gives⟩
  · replace hx := xif_f hc64 hx
    refine wc_skip ?_
    refine sq_n ?_
    refine wc_seq ?_
    refine wc_seq ?_
    refine wc_region ?_
    refine wv rfl (r_move rfl) ?_
    refine wv rfl (r_leq rfl rfl) ?_
    refine wl_nil ?_
    refine sq_n ?_
    refine wc_cond rfl (fun hc68 => ?_) (fun hc68 => ?_)
    · replace hx := xif_t hc68 hx
      refine wc_seq ?_
      refine wc_region ?_
      refine wv rfl (r_move rfl) ?_
      obtain ⟨r70, h71, hx⟩ := bind_some' hx
      refine w_call rfl rfl (hM.callR (l := [oBox b_c #[s_c_0.v, (.int .i64 c.i), (.int .i64 c.h)] 71]) fun X S oL hS hR => ct_spec_l01Byte _ X S b_c c s_c_0 hS (hR _ (.head _)) oL h71) ?_
      rintro _ w72 ⟨s73, rfl, hM⟩
      replace hM : St ⟨w, X, S⟩ [oBox b_c #[s73.v, (.int .i64 r70.2.i), (.int .i64 r70.2.h)] 71] [rV s73.v (cSl 1 fY r70.2.b), rV s_c_0.v (cSl 1 fY c.b)] _ := hM
      refine wv rfl (r_move rfl) ?_
      obtain ⟨hg76, hx⟩ := xg_some hx
      refine wv rfl (r_rem rfl rfl hg76) ?_
      refine wv rfl (r_assign rfl) ?_
      refine wl_nil ?_
      refine sq_n ?_
      refine wc_ret ?_
      refine sq_ret ?_
      obtain rfl := Option.some.inj hx
      refine fin_ret [(.int .i64 (r70.1 % n))] ⟨rfl, trivial⟩ ?_
      replace hM := hM.t1
      have hM := hM.fewer (rsC (.head _) rsN)
      exact ⟨s73, rfl, hM.gives⟩
    · replace hx := xif_f hc68 hx
      refine wc_skip ?_
      refine sq_n ?_
      refine wc_seq ?_
      refine wc_region ?_
      refine wv rfl (r_move rfl) ?_
      obtain ⟨r79, h80, hx⟩ := bind_some' hx
      refine w_call rfl rfl (hM.callR (l := [oBox b_c #[s_c_0.v, (.int .i64 c.i), (.int .i64 c.h)] 71]) fun X S oL hS hR => ct_spec_l01Byte _ X S b_c c s_c_0 hS (hR _ (.head _)) oL h80) ?_
      rintro _ w81 ⟨s82, rfl, hM⟩
      replace hM : St ⟨w, X, S⟩ [oBox b_c #[s82.v, (.int .i64 r79.2.i), (.int .i64 r79.2.h)] 71] [rV s82.v (cSl 1 fY r79.2.b), rV s_c_0.v (cSl 1 fY c.b)] _ := hM
      refine wv rfl (r_assign rfl) ?_
      refine wl_nil ?_
      refine sq_n ?_
      refine wc_seq ?_
      refine wc_region ?_
      refine wv rfl (r_move rfl) ?_
      obtain ⟨r85, h86, hx⟩ := bind_some' hx
      refine w_call rfl rfl (hM.callR (l := [oBox b_c #[s82.v, (.int .i64 r79.2.i), (.int .i64 r79.2.h)] 71]) fun X S oL hS hR => ct_spec_l01Byte _ X S b_c r79.2 s82 hS (hR _ (.head _)) oL h86) ?_
      rintro _ w87 ⟨s88, rfl, hM⟩
      replace hM : St ⟨w, X, S⟩ [oBox b_c #[s88.v, (.int .i64 r85.2.i), (.int .i64 r85.2.h)] 71] [rV s88.v (cSl 1 fY r85.2.b), rV s82.v (cSl 1 fY r79.2.b), rV s_c_0.v (cSl 1 fY c.b)] _ := hM
      refine wv rfl (r_assign rfl) ?_
      refine wl_nil ?_
      refine sq_n ?_
      refine wc_seq ?_
      refine wc_region ?_
      refine wv rfl (r_move rfl) ?_
      obtain ⟨r91, h92, hx⟩ := bind_some' hx
      refine w_call rfl rfl (hM.callR (l := [oBox b_c #[s88.v, (.int .i64 r85.2.i), (.int .i64 r85.2.h)] 71]) fun X S oL hS hR => ct_spec_l01Byte _ X S b_c r85.2 s88 hS (hR _ (.head _)) oL h92) ?_
      rintro _ w93 ⟨s94, rfl, hM⟩
      replace hM : St ⟨w, X, S⟩ [oBox b_c #[s94.v, (.int .i64 r91.2.i), (.int .i64 r91.2.h)] 71] [rV s94.v (cSl 1 fY r91.2.b), rV s88.v (cSl 1 fY r85.2.b), rV s82.v (cSl 1 fY r79.2.b), rV s_c_0.v (cSl 1 fY c.b)] _ := hM
      refine wv rfl (r_assign rfl) ?_
      refine wl_nil ?_
      refine sq_n ?_
      refine wc_seq ?_
      refine wc_region ?_
      refine wv rfl (r_move rfl) ?_
      obtain ⟨r97, h98, hx⟩ := bind_some' hx
      refine w_call rfl rfl (hM.callR (l := [oBox b_c #[s94.v, (.int .i64 r91.2.i), (.int .i64 r91.2.h)] 71]) fun X S oL hS hR => ct_spec_l01Byte _ X S b_c r91.2 s94 hS (hR _ (.head _)) oL h98) ?_
      rintro _ w99 ⟨s100, rfl, hM⟩
      replace hM : St ⟨w, X, S⟩ [oBox b_c #[s100.v, (.int .i64 r97.2.i), (.int .i64 r97.2.h)] 71] [rV s100.v (cSl 1 fY r97.2.b), rV s94.v (cSl 1 fY r91.2.b), rV s88.v (cSl 1 fY r85.2.b), rV s82.v (cSl 1 fY r79.2.b), rV s_c_0.v (cSl 1 fY c.b)] _ := hM
      refine wv rfl (r_assign rfl) ?_
      refine wl_nil ?_
      refine sq_n ?_
      refine wc_seq ?_
      refine wc_region ?_
      refine wv rfl (r_move rfl) ?_
      obtain ⟨hg104, hx⟩ := xg_some hx
      refine wv rfl (r_mul rfl rfl hg104) ?_
      refine wv rfl (r_move rfl) ?_
      obtain ⟨hg107, hx⟩ := xg_some hx
      refine wv rfl (r_mul rfl rfl hg107) ?_
      obtain ⟨hg109, hx⟩ := xg_some hx
      refine wv rfl (r_add rfl rfl hg109) ?_
      refine wv rfl (r_move rfl) ?_
      obtain ⟨hg112, hx⟩ := xg_some hx
      refine wv rfl (r_mul rfl rfl hg112) ?_
      obtain ⟨hg114, hx⟩ := xg_some hx
      refine wv rfl (r_add rfl rfl hg114) ?_
      refine wv rfl (r_move rfl) ?_
      obtain ⟨hg117, hx⟩ := xg_some hx
      refine wv rfl (r_add rfl rfl hg117) ?_
      refine wv rfl (r_move rfl) ?_
      obtain ⟨hg120, hx⟩ := xg_some hx
      refine wv rfl (r_rem rfl rfl hg120) ?_
      refine wv rfl (r_assign rfl) ?_
      refine wl_nil ?_
      refine sq_n ?_
      refine wc_ret ?_
      obtain rfl := Option.some.inj hx
      refine fin_ret [(.int .i64 (((((r79.1 * 16777216) + (r85.1 * 65536)) + (r91.1 * 256)) + r97.1) % n))] ⟨rfl, trivial⟩ ?_
      replace hM := hM.t1
      have hM := hM.fewer (rsC (.head _) rsN)
      exact ⟨s100, rfl, hM.gives⟩

noncomputable def x_spec_l01Once (c : DL01Cur) (n : Int) : Option (Bool × DL01Cur) :=
  Option.bind (x_spec_l01Below c n) fun r5 => some (decide (r5.1 = 0), r5.2)
theorem ct_spec_l01Once (w : World) (X S : Bs) (b_c : Nat) (c : DL01Cur) (s_c_0 : Sv) (n : Int) (hS : ∀ b, S b → b < w.heap.size ∧ ¬ X b) (a_c_0 : (cSl 1 fY c.b).rd S w s_c_0.v) (oL : Sep [oBox b_c #[s_c_0.v, (.int .i64 c.i), (.int .i64 c.h)] 71] X w) {r : Bool × DL01Cur} (hx : x_spec_l01Once c n = some r) :
    Ret Try.prog 86 [(.pointer (some ⟨b_c, 0, none⟩)), (.int .i64 n)] w (fun u w' => ∃ y : Sv, u = (.bool r.1) ∧ Gives X S w [oBox b_c #[y.v, (.int .i64 r.2.i), (.int .i64 r.2.h)] 71] [rV y.v (cSl 1 fY r.2.b)] w') := by
  unfold x_spec_l01Once at hx
  refine enter Try.func86 rfl Try.ntmps86 (by kernel_rfl) rfl ?_
  have hM := St.enter oL hS
  have hM := hM.addE (r := rV s_c_0.v (cSl 1 fY c.b)) a_c_0
  refine wc_seq ?_
  refine wc_region ?_
  refine wv rfl (r_assign rfl) ?_
  refine wl_nil ?_
  refine sq_n ?_
  refine wc_seq ?_
  refine wc_region ?_
  refine wv rfl (r_move rfl) ?_
  refine wv rfl (r_move rfl) ?_
  obtain ⟨r14, h15, hx⟩ := bind_some' hx
  refine w_call rfl rfl (hM.callR (l := [oBox b_c #[s_c_0.v, (.int .i64 c.i), (.int .i64 c.h)] 71]) fun X S oL hS hR => ct_spec_l01Below _ X S b_c c s_c_0 n hS (hR _ (.head _)) oL h15) ?_
  rintro _ w16 ⟨s17, rfl, hM⟩
  replace hM : St ⟨w, X, S⟩ [oBox b_c #[s17.v, (.int .i64 r14.2.i), (.int .i64 r14.2.h)] 71] [rV s17.v (cSl 1 fY r14.2.b), rV s_c_0.v (cSl 1 fY c.b)] _ := hM
  refine wv rfl (r_eql rfl rfl) ?_
  refine wv rfl (r_assign rfl) ?_
  refine wl_nil ?_
  refine sq_n ?_
  refine wc_ret ?_
  obtain rfl := Option.some.inj hx
  refine fin_ret [(.bool (decide (r14.1 = 0)))] ⟨rfl, trivial⟩ ?_
  replace hM := hM.t1
  have hM := hM.fewer (rsC (.head _) rsN)
  exact ⟨s17, rfl, hM.gives⟩

noncomputable def x_spec_l01Pick (c : DL01Cur) (l : List Int) : Option (Int × DL01Cur) :=
  Option.bind (x_spec_l01Below c (l.length : Int)) fun r7 => xg (0 ≤ r7.1 ∧ r7.1 < (l.length : Int)) <| some (el l r7.1.toNat, r7.2)
theorem ct_spec_l01Pick (w : World) (X S : Bs) (b_c : Nat) (c : DL01Cur) (s_c_0 : Sv) (l : List Int) (s_l : Sv) (hS : ∀ b, S b → b < w.heap.size ∧ ¬ X b) (a_c_0 : (cSl 1 fY c.b).rd S w s_c_0.v) (a_l_0 : (cSl 1 fI l).rd S w s_l.v) (oL : Sep [oBox b_c #[s_c_0.v, (.int .i64 c.i), (.int .i64 c.h)] 71] X w) {r : Int × DL01Cur} (hx : x_spec_l01Pick c l = some r) :
    Ret Try.prog 125 [(.pointer (some ⟨b_c, 0, none⟩)), s_l.v] w (fun u w' => ∃ y : Sv, u = (.int .i64 r.1) ∧ Gives X S w [oBox b_c #[y.v, (.int .i64 r.2.i), (.int .i64 r.2.h)] 71] [rV y.v (cSl 1 fY r.2.b)] w') := by
  unfold x_spec_l01Pick at hx
  refine enter Try.func125 rfl Try.ntmps125 (by kernel_rfl) rfl ?_
  have hM := St.enter oL hS
  have hM := hM.addE (r := rV s_c_0.v (cSl 1 fY c.b)) a_c_0
  have hM := hM.addE (r := rV s_l.v (cSl 1 fI l)) a_l_0
  refine wc_seq ?_
  refine wc_region ?_
  refine wv rfl (r_assign rfl) ?_
  refine wl_nil ?_
  refine sq_n ?_
  refine wc_seq ?_
  refine wc_region ?_
  refine wv rfl (r_move rfl) ?_
  refine wv rfl (r_move rfl) ?_
  refine wv rfl (r_move rfl) ?_
  refine wv rfl (r_lenC Try.underlying26 rfl (hM.seeR (.head _))) ?_
  obtain ⟨r21, h22, hx⟩ := bind_some' hx
  refine w_call rfl rfl (hM.callR (l := [oBox b_c #[s_c_0.v, (.int .i64 c.i), (.int .i64 c.h)] 71]) fun X S oL hS hR => ct_spec_l01Below _ X S b_c c s_c_0 (l.length : Int) hS (hR _ (.tail _ (.head _))) oL h22) ?_
  rintro _ w23 ⟨s24, rfl, hM⟩
  replace hM : St ⟨w, X, S⟩ [oBox b_c #[s24.v, (.int .i64 r21.2.i), (.int .i64 r21.2.h)] 71] [rV s24.v (cSl 1 fY r21.2.b), rV s_l.v (cSl 1 fI l), rV s_c_0.v (cSl 1 fY c.b)] _ := hM
  obtain ⟨hg27, hx⟩ := xg_some hx
  have hi26 : r21.1.toNat < l.length := by omega
  refine wv rfl (r_ixC Try.underlying26 sz3 rfl rfl (hM.seeR (.tail _ (.head _))) hg27) ?_
  refine wv rfl (r_ld Try.underlying3 rfl rfl (Cs.get (i := r21.1.toNat) (j := 0) (hM.seeR (.tail _ (.head _))) (fun _ => rfl) hi26 rfl)) ?_
  refine wv rfl (r_assign rfl) ?_
  refine wl_nil ?_
  refine sq_n ?_
  refine wc_ret ?_
  obtain rfl := Option.some.inj hx
  refine fin_ret [(.int .i64 (el l r21.1.toNat))] ⟨rfl, trivial⟩ ?_
  replace hM := hM.t1
  have hM := hM.fewer (rsC (.head _) rsN)
  exact ⟨s24, rfl, hM.gives⟩

noncomputable def x_spec_l01Pick_v2 (c : DL01Cur) (l : List Int) : Option (Int × DL01Cur) :=
  Option.bind (x_spec_l01Below c (l.length : Int)) fun r8 => xg (0 ≤ r8.1 ∧ r8.1 < (l.length : Int)) <| some (el l r8.1.toNat, r8.2)
theorem ct_spec_l01Pick_v2 (w : World) (X S : Bs) (b_c : Nat) (c : DL01Cur) (s_c_0 : Sv) (l : List Int) (s_l : Sv) (hS : ∀ b, S b → b < w.heap.size ∧ ¬ X b) (a_c_0 : (cSl 1 fY c.b).rd S w s_c_0.v) (oL : Sep [oBox b_c #[s_c_0.v, (.int .i64 c.i), (.int .i64 c.h)] 71, oC (cSl 1 fI l) s_l.v] X w) {r : Int × DL01Cur} (hx : x_spec_l01Pick_v2 c l = some r) :
    Ret Try.prog 125 [(.pointer (some ⟨b_c, 0, none⟩)), s_l.v] w (fun u w' => ∃ y : Sv, u = (.int .i64 r.1) ∧ Gives X S w [oBox b_c #[y.v, (.int .i64 r.2.i), (.int .i64 r.2.h)] 71] [rV y.v (cSl 1 fY r.2.b)] w') := by
  unfold x_spec_l01Pick_v2 at hx
  refine enter Try.func125 rfl Try.ntmps125 (by kernel_rfl) rfl ?_
  have hM := St.enter oL hS
  have hM := hM.addE (r := rV s_c_0.v (cSl 1 fY c.b)) a_c_0
  refine wc_seq ?_
  refine wc_region ?_
  refine wv rfl (r_assign rfl) ?_
  refine wl_nil ?_
  refine sq_n ?_
  refine wc_seq ?_
  refine wc_region ?_
  refine wv rfl (r_move rfl) ?_
  refine wv rfl (r_move rfl) ?_
  refine wv rfl (r_move rfl) ?_
  refine wv rfl (r_lenC Try.underlying26 rfl (hM.seeO (.tail _ (.head _)))) ?_
  obtain ⟨r22, h23, hx⟩ := bind_some' hx
  refine w_call rfl rfl (hM.callR (l := [oBox b_c #[s_c_0.v, (.int .i64 c.i), (.int .i64 c.h)] 71]) fun X S oL hS hR => ct_spec_l01Below _ X S b_c c s_c_0 (l.length : Int) hS (hR _ (.head _)) oL h23) ?_
  rintro _ w24 ⟨s25, rfl, hM⟩
  replace hM : St ⟨w, X, S⟩ [oBox b_c #[s25.v, (.int .i64 r22.2.i), (.int .i64 r22.2.h)] 71, oC (cSl 1 fI l) s_l.v] [rV s25.v (cSl 1 fY r22.2.b), rV s_c_0.v (cSl 1 fY c.b)] _ := hM
  obtain ⟨hg28, hx⟩ := xg_some hx
  have hi27 : r22.1.toNat < l.length := by omega
  refine wv rfl (r_ixC Try.underlying26 sz3 rfl rfl (hM.seeO (.tail _ (.head _))) hg28) ?_
  refine wv rfl (r_ld Try.underlying3 rfl rfl (Cs.get (i := r22.1.toNat) (j := 0) (hM.seeO (.tail _ (.head _))) (fun _ => rfl) hi27 rfl)) ?_
  refine wv rfl (r_assign rfl) ?_
  refine wl_nil ?_
  refine sq_n ?_
  refine wc_ret ?_
  obtain rfl := Option.some.inj hx
  refine fin_ret [(.int .i64 (el l r22.1.toNat))] ⟨rfl, trivial⟩ ?_
  replace hM := hM.t1
  have hM := hM.fewer (rsC (.head _) rsN)
  exact ⟨s25, rfl, hM.gives⟩

noncomputable def x_spec_l01Sign (c : DL01Cur) : Option (Int × DL01Cur) :=
  Option.bind (x_spec_l01Once c 8) fun r4 => bif r4.1 then (Option.bind (x_spec_l01Pick r4.2 [0, 127, 128, 2047, 2048, 55295, 57344, 65535, 65536, 1114111, 10, 32]) fun r13 => some (r13.1, r13.2)) else (Option.bind (x_spec_l01Below r4.2 6) fun r19 => xg (inI (97 + r19.1)) <| some (97 + r19.1, r19.2))
theorem ct_spec_l01Sign (w : World) (X S : Bs) (b_c : Nat) (c : DL01Cur) (s_c_0 : Sv) (hS : ∀ b, S b → b < w.heap.size ∧ ¬ X b) (a_c_0 : (cSl 1 fY c.b).rd S w s_c_0.v) (oL : Sep [oBox b_c #[s_c_0.v, (.int .i64 c.i), (.int .i64 c.h)] 71] X w) {r : Int × DL01Cur} (hx : x_spec_l01Sign c = some r) :
    Ret Try.prog 94 [(.pointer (some ⟨b_c, 0, none⟩))] w (fun u w' => ∃ y : Sv, u = (.int .i64 r.1) ∧ Gives X S w [oBox b_c #[y.v, (.int .i64 r.2.i), (.int .i64 r.2.h)] 71] [rV y.v (cSl 1 fY r.2.b)] w') := by
  unfold x_spec_l01Sign at hx
  refine enter Try.func94 rfl Try.ntmps94 (by kernel_rfl) rfl ?_
  have hM := St.enter oL hS
  have hM := hM.addE (r := rV s_c_0.v (cSl 1 fY c.b)) a_c_0
  refine wc_seq ?_
  refine wc_region ?_
  refine wv rfl (r_assign rfl) ?_
  refine wl_nil ?_
  refine sq_n ?_
  refine wc_seq ?_
  refine wc_seq ?_
  refine wc_region ?_
  refine wv rfl (r_move rfl) ?_
  obtain ⟨r28, h29, hx⟩ := bind_some' hx
  refine w_call rfl rfl (hM.callR (l := [oBox b_c #[s_c_0.v, (.int .i64 c.i), (.int .i64 c.h)] 71]) fun X S oL hS hR => ct_spec_l01Once _ X S b_c c s_c_0 (8 : Int) hS (hR _ (.head _)) oL h29) ?_
  rintro _ w30 ⟨s31, rfl, hM⟩
  replace hM : St ⟨w, X, S⟩ [oBox b_c #[s31.v, (.int .i64 r28.2.i), (.int .i64 r28.2.h)] 71] [rV s31.v (cSl 1 fY r28.2.b), rV s_c_0.v (cSl 1 fY c.b)] _ := hM
  refine wl_nil ?_
  refine sq_n ?_
  refine wc_cond rfl (fun hc32 => ?_) (fun hc32 => ?_)
  · replace hx := xif_t hc32 hx
    refine wc_seq ?_
    refine wc_region ?_
    refine wv rfl (r_move rfl) ?_
    refine w_ex rfl (x_lit (f := fI) (own := []) [0, 127, 128, 2047, 2048, 55295, 57344, 65535, 65536, 1114111, 10, 32] [(.int .i64 0), (.int .i64 127), (.int .i64 128), (.int .i64 2047), (.int .i64 2048), (.int .i64 55295), (.int .i64 57344), (.int .i64 65535), (.int .i64 65536), (.int .i64 1114111), (.int .i64 10), (.int .i64 32)] 12 Try.underlying26 sz3 (fun _ => rfl) rfl rfl rfl rfl rfl (by kernel_rfl) (fun _ => zP (pV _ rfl) (zP (pV _ rfl) (zP (pV _ rfl) (zP (pV _ rfl) (zP (pV _ rfl) (zP (pV _ rfl) (zP (pV _ rfl) (zP (pV _ rfl) (zP (pV _ rfl) (zP (pV _ rfl) (zP (pV _ rfl) (zP (pV _ rfl) zN)))))))))))) hM ?_); intro s35 w34 hR36 hM
    have hM := hM.selO
    obtain ⟨r38, h39, hx⟩ := bind_some' hx
    refine w_call rfl rfl (hM.callR (l := [oBox b_c #[s31.v, (.int .i64 r28.2.i), (.int .i64 r28.2.h)] 71]) fun X S oL hS hR => ct_spec_l01Pick _ X S b_c r28.2 s31 [0, 127, 128, 2047, 2048, 55295, 57344, 65535, 65536, 1114111, 10, 32] s35 hS (hR _ (.tail _ (.head _))) (hR _ (.head _)) oL h39) ?_
    rintro _ w40 ⟨s41, rfl, hM⟩
    replace hM : St ⟨w, X, S⟩ [oBox b_c #[s41.v, (.int .i64 r38.2.i), (.int .i64 r38.2.h)] 71] [rV s41.v (cSl 1 fY r38.2.b), rV s35.v (cSl 1 fI [0, 127, 128, 2047, 2048, 55295, 57344, 65535, 65536, 1114111, 10, 32]), rV s31.v (cSl 1 fY r28.2.b), rV s_c_0.v (cSl 1 fY c.b)] _ := hM
    refine wv rfl (r_assign rfl) ?_
    refine wl_nil ?_
    refine sq_n ?_
    refine wc_ret ?_
    refine sq_ret ?_
    obtain rfl := Option.some.inj hx
    refine fin_ret [(.int .i64 r38.1)] ⟨rfl, trivial⟩ ?_
    replace hM := hM.t1
    have hM := hM.fewer (rsC (.head _) rsN)
    exact ⟨s41, rfl, hM.gives⟩
  · replace hx := xif_f hc32 hx
    refine wc_skip ?_
    refine sq_n ?_
    refine wc_seq ?_
    refine wc_region ?_
    refine wv rfl (r_move rfl) ?_
    obtain ⟨r44, h45, hx⟩ := bind_some' hx
    refine w_call rfl rfl (hM.callR (l := [oBox b_c #[s31.v, (.int .i64 r28.2.i), (.int .i64 r28.2.h)] 71]) fun X S oL hS hR => ct_spec_l01Below _ X S b_c r28.2 s31 (6 : Int) hS (hR _ (.head _)) oL h45) ?_
    rintro _ w46 ⟨s47, rfl, hM⟩
    replace hM : St ⟨w, X, S⟩ [oBox b_c #[s47.v, (.int .i64 r44.2.i), (.int .i64 r44.2.h)] 71] [rV s47.v (cSl 1 fY r44.2.b), rV s31.v (cSl 1 fY r28.2.b), rV s_c_0.v (cSl 1 fY c.b)] _ := hM
    obtain ⟨hg49, hx⟩ := xg_some hx
    refine wv rfl (r_add rfl rfl hg49) ?_
    refine wv rfl (r_assign rfl) ?_
    refine wl_nil ?_
    refine sq_n ?_
    refine wc_ret ?_
    obtain rfl := Option.some.inj hx
    refine fin_ret [(.int .i64 (97 + r44.1))] ⟨rfl, trivial⟩ ?_
    replace hM := hM.t1
    have hM := hM.fewer (rsC (.head _) rsN)
    exact ⟨s47, rfl, hM.gives⟩

noncomputable def x_spec_l01Signs_b0 (l38 : List Int) (n39 : Int) (l40 : List UInt8) (n41 : Int) (n42 : Int) : Option (Lr (List Int × Int × List UInt8 × Int × Int) (List Int × List UInt8 × Int × Int)) :=
  bif decide ((0 : Int) < n39) then (Option.bind (x_spec_l01Sign (⟨l40, n41, n42⟩ : DL01Cur)) fun r67 => xg (l38.length < 1099511627776) <| xg (inI (n39 - 1)) <| some (Lr.go (l38 ++ [r67.1], n39 - 1, r67.2.b, r67.2.i, r67.2.h))) else (some (Lr.out (l38, l40, n41, n42)))
noncomputable def x_spec_l01Signs_f0 (s80 : List Int × Int × List UInt8 × Int × Int) : Option (Lr (List Int × Int × List UInt8 × Int × Int) (List Int × List UInt8 × Int × Int)) := x_spec_l01Signs_b0 s80.1 s80.2.1 s80.2.2.1 s80.2.2.2.1 s80.2.2.2.2
noncomputable def x_spec_l01Signs (c : DL01Cur) (most : Int) : Option (List Int × DL01Cur) :=
  xg (inI (most + 1)) <| Option.bind (x_spec_l01Below c (most + 1)) fun r12 => Option.bind (iter (x_spec_l01Signs_f0) ([], r12.1, r12.2.b, r12.2.i, r12.2.h)) fun (y81 : List Int × List UInt8 × Int × Int) => some (y81.1, (⟨y81.2.1, y81.2.2.1, y81.2.2.2⟩ : DL01Cur))
theorem ct_spec_l01Signs (w : World) (X S : Bs) (b_c : Nat) (c : DL01Cur) (s_c_0 : Sv) (most : Int) (hS : ∀ b, S b → b < w.heap.size ∧ ¬ X b) (a_c_0 : (cSl 1 fY c.b).rd S w s_c_0.v) (oL : Sep [oBox b_c #[s_c_0.v, (.int .i64 c.i), (.int .i64 c.h)] 71] X w) {r : List Int × DL01Cur} (hx : x_spec_l01Signs c most = some r) :
    Ret Try.prog 60 [(.pointer (some ⟨b_c, 0, none⟩)), (.int .i64 most)] w (fun u w' => ∃ y : Sv × Sv, u = y.1.v ∧ Gives X S w [oC (cSl 1 fI r.1) y.1.v, oBox b_c #[y.2.v, (.int .i64 r.2.i), (.int .i64 r.2.h)] 71] [rV y.2.v (cSl 1 fY r.2.b)] w') := by
  unfold x_spec_l01Signs at hx
  refine enter Try.func60 rfl Try.ntmps60 (by kernel_rfl) rfl ?_
  have hM := St.enter oL hS
  have hM := hM.addE (r := rV s_c_0.v (cSl 1 fY c.b)) a_c_0
  refine wc_seq ?_
  refine wc_region ?_
  refine wv rfl (r_assign rfl) ?_
  refine wl_nil ?_
  refine sq_n ?_
  refine wc_seq ?_
  refine wc_region ?_
  refine w_ex rfl (x_empty (f := fI) Try.underlying26 sz3 (fun _ => rfl) hM ?_); intro s89 w88 hR90 hM
  refine wv rfl (r_assign rfl) ?_
  refine wl_nil ?_
  refine sq_n ?_
  refine wc_seq ?_
  refine wc_seq ?_
  refine wc_region ?_
  refine wv rfl (r_move rfl) ?_
  refine wv rfl (r_move rfl) ?_
  obtain ⟨hg96, hx⟩ := xg_some hx
  refine wv rfl (r_add rfl rfl hg96) ?_
  replace hM := hM.p1
  obtain ⟨r97, h98, hx⟩ := bind_some' hx
  refine w_call rfl rfl (hM.callR (l := [oBox b_c #[s_c_0.v, (.int .i64 c.i), (.int .i64 c.h)] 71]) fun X S oL hS hR => ct_spec_l01Below _ X S b_c c s_c_0 (most + 1) hS (hR _ (.head _)) oL h98) ?_
  rintro _ w99 ⟨s100, rfl, hM⟩
  replace hM : St ⟨w, X, S⟩ [oBox b_c #[s100.v, (.int .i64 r97.2.i), (.int .i64 r97.2.h)] 71, oC (cSl 1 fI ([] : List Int)) s89.v] [rV s100.v (cSl 1 fY r97.2.b), rV s_c_0.v (cSl 1 fY c.b)] _ := hM
  refine wv rfl (r_assign rfl) ?_
  refine wl_nil ?_
  refine sq_n ?_
  refine wc_block ?_
  obtain ⟨y102, hx, hx103⟩ := bind_some' hx
  have hM := hM.fewer (rsC (.head _) rsN)
  replace hM : St ⟨w, X, S⟩ [oBox b_c #[s100.v, (.int .i64 r97.2.i), (.int .i64 r97.2.h)] 71, oC (cSl 1 fI ([] : List Int)) s89.v] [rV s100.v (cSl 1 fY r97.2.b)] _ := hM
  obtain ⟨m114, hx⟩ := iter_run hx
  refine wc_loop (un fun (m112 : Nat) => un fun (l104 : List Int) => un fun (n105 : Int) => un fun (l106 : List UInt8) => un fun (n107 : Int) => un fun (n108 : Int) => un fun (s110 : Sv) => fun (s111 : Sv) => [(0, (.pointer (some ⟨b_c, 0, none⟩))), (5, s110.v), (6, (.int .i64 n105))]) (un fun (m112 : Nat) => un fun (l104 : List Int) => un fun (n105 : Int) => un fun (l106 : List UInt8) => un fun (n107 : Int) => un fun (n108 : Int) => un fun (s110 : Sv) => fun (s111 : Sv) w' => St ⟨w, X, S⟩ [oBox b_c #[s111.v, (.int .i64 n107), (.int .i64 n108)] 71, oC (cSl 1 fI l104) s110.v] [rV s111.v (cSl 1 fY l106)] w' ∧ iterN _ m112 (l104, n105, l106, n107, n108) = some y102) (fun p => p.1) (m114, [], r97.1, r97.2.b, r97.2.i, r97.2.h, s89, s100) ⟨rfl, rfl, rfl, trivial⟩ ⟨hM, hx⟩ ?_
  rintro ⟨m112, l104, n105, l106, n107, n108, s110, s111⟩ w115 ⟨hM, hx⟩
  obtain ⟨m116, z117, rfl, hx, hx118⟩ := iterN_step hx
  unfold x_spec_l01Signs_f0 x_spec_l01Signs_b0 at hx
  try dsimp only at hx
  refine wc_seq ?_
  refine wc_seq ?_
  refine wc_region ?_
  refine wv rfl (r_move rfl) ?_
  refine wv rfl (r_gtr rfl rfl) ?_
  refine wl_nil ?_
  refine sq_n ?_
  refine wc_cond rfl (fun hc121 => ?_) (fun hc121 => ?_)
  · replace hx := xif_t hc121 hx
    refine wc_skip ?_
    refine sq_n ?_
    refine wc_seq ?_
    refine wc_block ?_
    refine wc_region ?_
    refine wv rfl (r_move rfl) ?_
    refine wv rfl (r_move rfl) ?_
    obtain ⟨r124, h125, hx⟩ := bind_some' hx
    refine w_call rfl rfl (hM.callR (l := [oBox b_c #[s111.v, (.int .i64 n107), (.int .i64 n108)] 71]) fun X S oL hS hR => ct_spec_l01Sign _ X S b_c (⟨l106, n107, n108⟩ : DL01Cur) s111 hS (hR _ (.head _)) oL h125) ?_
    rintro _ w126 ⟨s127, rfl, hM⟩
    replace hM : St ⟨w, X, S⟩ [oBox b_c #[s127.v, (.int .i64 r124.2.i), (.int .i64 r124.2.h)] 71, oC (cSl 1 fI l104) s110.v] [rV s127.v (cSl 1 fY r124.2.b), rV s111.v (cSl 1 fY l106)] _ := hM
    replace hM := hM.p1
    obtain ⟨hg131, hx⟩ := xg_some hx
    refine w_push (f := fI) r124.1 rfl rfl Try.underlying26 sz3 rfl rfl rfl rfl (fun _ => rfl) hM (fun _ => zP (pV _ rfl) zN) rfl hg131 rfl ?_; intro u129 s130 w128 hM
    refine wv rfl (r_assign rfl) ?_
    refine wl_nil ?_
    refine bk_n ?_
    refine sq_n ?_
    refine wc_region ?_
    refine wv rfl (r_move rfl) ?_
    obtain ⟨hg135, hx⟩ := xg_some hx
    refine wv rfl (r_sub rfl rfl hg135) ?_
    refine wv rfl (r_assign rfl) ?_
    refine wl_nil ?_
    obtain rfl := Option.some.inj hx
    replace hM := hM.p1
    have hM := hM.fewer (rsC (.head _) rsN)
    replace hM : St ⟨w, X, S⟩ [oBox b_c #[s127.v, (.int .i64 r124.2.i), (.int .i64 r124.2.h)] 71, oC (cSl 1 fI (l104 ++ [r124.1])) s130.v] [rV s127.v (cSl 1 fY r124.2.b)] _ := hM
    exact lp_end (m116, l104 ++ [r124.1], n105 - 1, r124.2.b, r124.2.i, r124.2.h, s130, s127) (Nat.lt_succ_self _) ⟨rfl, rfl, rfl, trivial⟩ ⟨hM, hx118⟩
  · replace hx := xif_f hc121 hx
    refine wc_exit ?_
    refine sq_exit ?_
    refine lp1_exit ?_
    obtain rfl := Option.some.inj hx
    obtain rfl := Option.some.inj hx118
    replace hx := hx103
    try dsimp only [Sum.elim_inl, Sum.elim_inr] at hx
    refine bk_here ?_
    refine sq_n ?_
    refine wc_seq ?_
    refine wc_region ?_
    refine wv rfl (r_move rfl) ?_
    refine wv rfl (r_assign rfl) ?_
    refine wl_nil ?_
    refine sq_n ?_
    refine wc_ret ?_
    obtain rfl := Option.some.inj hx
    refine fin_ret [s110.v] ⟨rfl, trivial⟩ ?_
    replace hM := hM.p1
    replace hM := hM.t2
    have hM := hM.fewer (rsC (.head _) rsN)
    exact ⟨(s110, s111), rfl, hM.gives⟩

noncomputable def x_spec_MakeText (code : List UInt8) (turn : Int) : Option (List Int) :=
  Option.bind (x_spec_l01New code) fun r3 => xg (inI (r3.h + turn)) <| Option.bind (x_spec_l01Signs (⟨r3.b, r3.i, r3.h + turn⟩ : DL01Cur) 12) fun r23 => some r23.1
theorem ct_spec_MakeText (w : World) (X S : Bs) (code : List UInt8) (s_code : Sv) (turn : Int) (hS : ∀ b, S b → b < w.heap.size ∧ ¬ X b) (a_code_0 : (cSl 1 fY code).rd S w s_code.v) (oL : Sep [] X w) {r : List Int} (hx : x_spec_MakeText code turn = some r) :
    Ret Try.prog 22 [s_code.v, (.int .i64 turn)] w (fun u w' => ∃ y : Sv, u = y.v ∧ Gives X S w [oC (cSl 1 fI r) y.v] [] w') := by
  unfold x_spec_MakeText at hx
  refine enter Try.func22 rfl Try.ntmps22 (by kernel_rfl) rfl ?_
  have hM := St.enter oL hS
  have hM := hM.addE (r := rV s_code.v (cSl 1 fY code)) a_code_0
  refine wc_seq ?_
  refine wc_region ?_
  refine wv rfl (r_assign rfl) ?_
  refine wl_nil ?_
  refine sq_n ?_
  refine wc_seq ?_
  refine wc_region ?_
  refine wv rfl (r_move rfl) ?_
  obtain ⟨r32, h33, hx⟩ := bind_some' hx
  refine w_call rfl rfl (hM.callR (l := []) fun X S oL hS hR => ct_spec_l01New _ X S code s_code hS (hR _ (.head _)) oL h33) ?_
  rintro _ w34 ⟨⟨b35, s36⟩, rfl, hM⟩
  replace hM : St ⟨w, X, S⟩ [oBox b35 #[s36.v, (.int .i64 r32.i), (.int .i64 r32.h)] 71] [rV s36.v (cSl 1 fY r32.b), rV s_code.v (cSl 1 fY code)] _ := hM
  refine wv rfl (r_assign rfl) ?_
  refine wl_nil ?_
  refine sq_n ?_
  refine wc_seq ?_
  refine wc_region ?_
  refine wv rfl (r_move rfl) ?_
  refine wv rfl (r_move rfl) ?_
  refine wv rfl (r_nilck rfl) ?_
  refine wv rfl (r_fld Try.underlying71 rfl rfl sz3 rfl) ?_
  refine wv rfl (r_ldB Try.underlying3 rfl rfl hM (.head _) rfl) ?_
  refine wv rfl (r_move rfl) ?_
  obtain ⟨hg46, hx⟩ := xg_some hx
  refine wv rfl (r_add rfl rfl hg46) ?_
  refine wv rfl (r_nilck rfl) ?_
  refine wv rfl (r_fld Try.underlying71 rfl rfl sz3 rfl) ?_
  refine w_exu (x_stB #[s36.v, (.int .i64 r32.i), (.int .i64 (r32.h + turn))] sz3 rfl rfl rfl rfl rfl rfl hM ?_); intro w49 hM
  refine wl_nil ?_
  refine sq_n ?_
  refine wc_seq ?_
  refine wc_region ?_
  refine wv rfl (r_move rfl) ?_
  obtain ⟨r52, h53, hx⟩ := bind_some' hx
  refine w_call rfl rfl (hM.callR (l := [oBox b35 #[s36.v, (.int .i64 r32.i), (.int .i64 (r32.h + turn))] 71]) fun X S oL hS hR => ct_spec_l01Signs _ X S b35 (⟨r32.b, r32.i, r32.h + turn⟩ : DL01Cur) s36 (12 : Int) hS (hR _ (.head _)) oL h53) ?_
  rintro _ w54 ⟨⟨s55, s56⟩, rfl, hM⟩
  replace hM : St ⟨w, X, S⟩ [oC (cSl 1 fI r52.1) s55.v, oBox b35 #[s56.v, (.int .i64 r52.2.i), (.int .i64 r52.2.h)] 71] [rV s56.v (cSl 1 fY r52.2.b), rV s36.v (cSl 1 fY r32.b), rV s_code.v (cSl 1 fY code)] _ := hM
  refine wv rfl (r_assign rfl) ?_
  refine wl_nil ?_
  refine sq_n ?_
  refine wc_ret ?_
  obtain rfl := Option.some.inj hx
  refine fin_ret [s55.v] ⟨rfl, trivial⟩ ?_
  replace hM := hM.t1
  have hM := hM.fewer rsN
  exact ⟨s55, rfl, hM.gives⟩

end Go.Proofs.Ythfkcpdechjmnaa
