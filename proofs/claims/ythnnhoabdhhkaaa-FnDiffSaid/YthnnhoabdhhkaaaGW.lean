/- Walks of functions of this program (printed by a program of ours, by the rules of the layer). No condition. -/
import Derived.Test.YthnnhoabdhhkaaaGD
namespace Go.Proofs.Ythnnhoabdhhkaaa
open Go.RowKit

noncomputable def x_spec_l01New_b0 (code : List UInt8) (h7 : Int) (i8 : Int) : Option (Lr (Int × Int) Int) :=
  Option.bind (bif decide (i8 < (code.length : Int)) then (some (decide (i8 < 4000))) else (some false)) fun c41 => bif c41 then (xg (0 ≤ i8 ∧ i8 < (code.length : Int)) <| some (Lr.go (bAnd (iw ((iw ((iw (h7 * 43)) + ((el code i8.toNat).toNat : Int))) + 7)) 1073741823, iw (i8 + 1)))) else (some (Lr.out h7))
noncomputable def x_spec_l01New_f0 (code : List UInt8) (s63 : Int × Int) : Option (Lr (Int × Int) Int) := x_spec_l01New_b0 code s63.1 s63.2
noncomputable def x_spec_l01New (code : List UInt8) : Option DL01Cur :=
  Option.bind (iter (x_spec_l01New_f0 code) (iw (1621 + (code.length : Int)), 0)) fun (y64 : Int) => some (⟨code, 0, y64⟩ : DL01Cur)
theorem ct_spec_l01New (w : World) (X S : Bs) (code : List UInt8) (s_code : Sv) (hS : ∀ b, S b → b < w.heap.size ∧ ¬ X b) (a_code_0 : (cSl 1 fY code).rd S w s_code.v) (oL : Sep [] X w) {r : DL01Cur} (hx : x_spec_l01New code = some r) :
    Ret Try.prog 103 [s_code.v] w (fun u w' => ∃ y : Nat × Sv, u = (.pointer (some ⟨y.1, 0, none⟩)) ∧ Gives X S w [oBox y.1 #[y.2.v, (.int .i64 r.i), (.int .i64 r.h)] 117] [rV y.2.v (cSl 1 fY r.b)] w') := by
  unfold x_spec_l01New at hx
  refine enter Try.func103 rfl Try.ntmps103 (by kernel_rfl) rfl ?_
  have hM := St.enter oL hS
  have hM := hM.addE (r := rV s_code.v (cSl 1 fY code)) a_code_0
  refine wc_seq ?_
  refine wc_region ?_
  refine wv rfl (r_assign rfl) ?_
  refine wl_nil ?_
  refine sq_n ?_
  refine wc_seq ?_
  refine wc_region ?_
  refine wv rfl (r_move rfl) ?_
  refine wv rfl (r_lenC Try.underlying66 rfl (hM.seeR (.head _))) ?_
  refine wv rfl (r_addw rfl rfl) ?_
  refine wv rfl (r_assign rfl) ?_
  refine wl_nil ?_
  refine sq_n ?_
  refine wc_seq ?_
  refine wc_seq ?_
  refine wc_region ?_
  refine wv rfl (r_assign rfl) ?_
  refine wl_nil ?_
  refine sq_n ?_
  refine wc_block ?_
  obtain ⟨y79, hx, hx80⟩ := bind_some' hx
  obtain ⟨m85, hx⟩ := iter_run hx
  refine wc_loop (un fun (m83 : Nat) => un fun (h81 : Int) => fun (i82 : Int) => [(0, s_code.v), (3, (.int .i64 h81)), (4, (.int .i64 i82))]) (un fun (m83 : Nat) => un fun (h81 : Int) => fun (i82 : Int) w' => St ⟨w, X, S⟩ [] [rV s_code.v (cSl 1 fY code)] w' ∧ iterN _ m83 (h81, i82) = some y79) (fun p => p.1) (m85, iw (1621 + (code.length : Int)), 0) ⟨rfl, rfl, rfl, trivial⟩ ⟨hM, hx⟩ ?_
  rintro ⟨m83, h81, i82⟩ w86 ⟨hM, hx⟩
  obtain ⟨m87, z88, rfl, hx, hx89⟩ := iterN_step hx
  unfold x_spec_l01New_f0 x_spec_l01New_b0 at hx
  try dsimp only at hx
  refine wc_seq ?_
  refine wc_seq ?_
  refine wc_region ?_
  refine wv rfl (r_move rfl) ?_
  refine wv rfl (r_move rfl) ?_
  refine wv rfl (r_lenC Try.underlying66 rfl (hM.seeR (.head _))) ?_
  refine wv rfl (r_lss rfl rfl) ?_
  refine wv rfl (r_move rfl) ?_
  obtain ⟨c95, hx, hx99⟩ := bind_some' hx
  refine wl_mid 3 (fun _ : Unit => [(15, (.bool c95)), (0, s_code.v), (3, (.int .i64 h81)), (4, (.int .i64 i82))]) (fun _ w' => St ⟨w, X, S⟩ [] [rV s_code.v (cSl 1 fY code)] w') ?_ ?_
  · rcases Bool.eq_false_or_eq_true (decide (i82 < (code.length : Int))) with hg96 | hg96
    · replace hx := xif_t hg96 hx
      refine gv rfl hg96 rfl (r_move rfl) ?_
      refine gv rfl hg96 rfl (r_lss rfl rfl) ?_
      refine wv rfl (p_t rfl hg96 rfl) ?_
      obtain rfl := Option.some.inj hx
      exact mid_nil () ⟨rfl, rfl, rfl, rfl, trivial⟩ hM
    · replace hx := xif_f hg96 hx
      refine gs rfl (isB_no hg96) rfl ?_
      refine gs rfl (isB_no hg96) rfl ?_
      refine wv rfl (p_f rfl hg96 rfl) ?_
      obtain rfl := Option.some.inj hx
      exact mid_nil () ⟨rfl, rfl, rfl, rfl, trivial⟩ hM
  rintro _ w102 hM
  replace hx := hx99
  refine wl_nil ?_
  refine sq_n ?_
  refine wc_cond rfl (fun hc103 => ?_) (fun hc103 => ?_)
  · replace hx := xif_t hc103 hx
    refine wc_skip ?_
    refine sq_n ?_
    refine wc_seq ?_
    refine wc_block ?_
    refine wc_region ?_
    refine wv rfl (r_move rfl) ?_
    refine wv rfl (r_mulw rfl rfl) ?_
    refine wv rfl (r_move rfl) ?_
    refine wv rfl (r_move rfl) ?_
    obtain ⟨hg110, hx⟩ := xg_some hx
    have hi109 : i82.toNat < code.length := by omega
    refine wv rfl (r_ixC Try.underlying66 sz5 rfl rfl (hM.seeR (.head _)) hg110) ?_
    refine wv rfl (r_ld Try.underlying5 rfl rfl (Cs.get (i := i82.toNat) (j := 0) (hM.seeR (.head _)) (fun _ => rfl) hi109 rfl)) ?_
    refine wv rfl (r_cvt Try.underlying5 Try.underlying3 rfl (u8_cvt _)) ?_
    refine wv rfl (r_addw rfl rfl) ?_
    refine wv rfl (r_addw rfl rfl) ?_
    refine wv rfl (r_and rfl rfl) ?_
    refine wv rfl (r_assign rfl) ?_
    refine wl_nil ?_
    refine bk_n ?_
    refine sq_n ?_
    refine wc_region ?_
    refine wv rfl (r_move rfl) ?_
    refine wv rfl (r_addw rfl rfl) ?_
    refine wv rfl (r_assign rfl) ?_
    refine wl_nil ?_
    obtain rfl := Option.some.inj hx
    exact lp_end (m87, bAnd (iw ((iw ((iw (h81 * 43)) + ((el code i82.toNat).toNat : Int))) + 7)) 1073741823, iw (i82 + 1)) (Nat.lt_succ_self _) ⟨rfl, rfl, rfl, trivial⟩ ⟨hM, hx89⟩
  · replace hx := xif_f hc103 hx
    refine wc_exit ?_
    refine sq_exit ?_
    refine lp1_exit ?_
    obtain rfl := Option.some.inj hx
    obtain rfl := Option.some.inj hx89
    replace hx := hx80
    try dsimp only [Sum.elim_inl, Sum.elim_inr] at hx
    refine bk_here ?_
    refine sq_n ?_
    refine wc_seq ?_
    refine wc_region ?_
    refine wv rfl (r_move rfl) ?_
    refine wv rfl (r_move rfl) ?_
    refine wv rfl (r_build (cells := #[s_code.v, (.int .i64 0), (.int .i64 h81)]) rfl (by kernel_rfl)) ?_
    refine w_ex rfl (x_box rfl hM ?_); intro b124 w123 hR125 hM
    replace hM : St ⟨w, X, S⟩ [oBox b124 #[s_code.v, (.int .i64 0), (.int .i64 h81)] 117] [rV s_code.v (cSl 1 fY code)] _ := hM
    refine wv rfl (r_assign rfl) ?_
    refine wl_nil ?_
    refine sq_n ?_
    refine wc_ret ?_
    obtain rfl := Option.some.inj hx
    refine fin_ret [(.pointer (some ⟨b124, 0, none⟩))] ⟨rfl, trivial⟩ ?_
    replace hM : St ⟨w, X, S⟩ [oBox b124 #[s_code.v, (.int .i64 0), (.int .i64 h81)] 117] [rV s_code.v (cSl 1 fY code)] _ := hM.tk 1
    have hM := hM.fewer (rsC (.head _) rsN)
    exact ⟨(b124, s_code), rfl, hM.gives⟩

noncomputable def x_spec_l01Byte (c : DL01Cur) : Option (Int × DL01Cur) :=
  xg (0 ≤ (33 : Int)) <| xg (0 ≤ (45 : Int)) <| bif decide (c.i < (c.b.length : Int)) then (xg (0 ≤ c.i ∧ c.i < (c.b.length : Int)) <| some (bAnd (iw ((bAnd (bXor (bShr (iw ((iw (c.h * 6364136223846793005)) + 1442695040888963407)) 33) (bShr (iw ((iw (c.h * 6364136223846793005)) + 1442695040888963407)) 45)) 255) + ((el c.b c.i.toNat).toNat : Int))) 255, (⟨c.b, iw (c.i + 1), iw ((iw (c.h * 6364136223846793005)) + 1442695040888963407)⟩ : DL01Cur))) else (some (bAnd (bXor (bShr (iw ((iw (c.h * 6364136223846793005)) + 1442695040888963407)) 33) (bShr (iw ((iw (c.h * 6364136223846793005)) + 1442695040888963407)) 45)) 255, (⟨c.b, c.i, iw ((iw (c.h * 6364136223846793005)) + 1442695040888963407)⟩ : DL01Cur)))
theorem ct_spec_l01Byte (w : World) (X S : Bs) (b_c : Nat) (c : DL01Cur) (s_c_0 : Sv) (hS : ∀ b, S b → b < w.heap.size ∧ ¬ X b) (a_c_0 : (cSl 1 fY c.b).rd S w s_c_0.v) (oL : Sep [oBox b_c #[s_c_0.v, (.int .i64 c.i), (.int .i64 c.h)] 117] X w) {r : Int × DL01Cur} (hx : x_spec_l01Byte c = some r) :
    Ret Try.prog 145 [(.pointer (some ⟨b_c, 0, none⟩))] w (fun u w' => ∃ y : Sv, u = (.int .i64 r.1) ∧ Gives X S w [oBox b_c #[y.v, (.int .i64 r.2.i), (.int .i64 r.2.h)] 117] [rV y.v (cSl 1 fY r.2.b)] w') := by
  unfold x_spec_l01Byte at hx
  refine enter Try.func145 rfl Try.ntmps145 (by kernel_rfl) rfl ?_
  have hM := St.enter oL hS
  have hM := hM.addE (r := rV s_c_0.v (cSl 1 fY c.b)) a_c_0
  refine wc_seq ?_
  refine wc_region ?_
  refine wv rfl (r_assign rfl) ?_
  refine wl_nil ?_
  refine sq_n ?_
  refine wc_seq ?_
  refine wc_region ?_
  refine wv rfl (r_move rfl) ?_
  refine wv rfl (r_move rfl) ?_
  refine wv rfl (r_nilck rfl) ?_
  refine wv rfl (r_fld Try.underlying117 rfl rfl sz3 rfl) ?_
  refine wv rfl (r_ldB Try.underlying3 rfl rfl hM (.head _) rfl) ?_
  refine wv rfl (r_mulw rfl rfl) ?_
  refine wv rfl (r_addw rfl rfl) ?_
  refine wv rfl (r_nilck rfl) ?_
  refine wv rfl (r_fld Try.underlying117 rfl rfl sz3 rfl) ?_
  refine w_exu (x_stB #[s_c_0.v, (.int .i64 c.i), (.int .i64 (iw ((iw (c.h * 6364136223846793005)) + 1442695040888963407)))] sz3 rfl rfl rfl rfl rfl rfl hM ?_); intro w86 hM
  refine wl_nil ?_
  refine sq_n ?_
  refine wc_seq ?_
  refine wc_draw [(0, 0), (1, 0), (2, 0), (3, 0), (4, 0), (5, 0), (6, 0), (7, 0), (8, 0), (9, 0), (10, 0), (11, 0), (12, 0)] Try_mixed (by kernel_rfl) rfl (by kernel_rfl) rfl ?_
  refine ov rfl (fun w' h' => r_move rfl) ?_
  refine ov rfl (fun w' h' => r_nilck rfl) ?_
  refine ov rfl (fun w' h' => r_fld Try.underlying117 rfl rfl sz3 rfl) ?_
  refine ov rfl (fun w' h' => r_ldB Try.underlying3 rfl rfl (hM.call h') (.head _) rfl) ?_
  obtain ⟨hg93, hx⟩ := xg_some hx
  refine ov rfl (fun w' h' => r_shr rfl rfl hg93) ?_
  refine ov rfl (fun w' h' => r_move rfl) ?_
  refine ov rfl (fun w' h' => r_nilck rfl) ?_
  refine ov rfl (fun w' h' => r_fld Try.underlying117 rfl rfl sz3 rfl) ?_
  refine ov rfl (fun w' h' => r_ldB Try.underlying3 rfl rfl (hM.call h') (.head _) rfl) ?_
  obtain ⟨hg99, hx⟩ := xg_some hx
  refine ov rfl (fun w' h' => r_shr rfl rfl hg99) ?_
  refine ov rfl (fun w' h' => r_xor rfl rfl) ?_
  refine ov rfl (fun w' h' => r_and rfl rfl) ?_
  refine ov rfl (fun w' h' => r_assign rfl) ?_
  refine o_nil fun w103 hw104 => ?_
  have hM := hM.call hw104
  refine sq_n ?_
  refine wc_seq ?_
  refine wc_seq ?_
  refine wc_draw [(0, 0), (1, 0), (2, 0), (3, 0), (4, 0), (5, 0), (6, 0), (7, 0), (8, 0), (9, 0)] Try_mixed (by kernel_rfl) rfl (by kernel_rfl) rfl ?_
  refine ov rfl (fun w' h' => r_move rfl) ?_
  refine ov rfl (fun w' h' => r_nilck rfl) ?_
  refine ov rfl (fun w' h' => r_fld Try.underlying117 rfl rfl sz3 rfl) ?_
  refine ov rfl (fun w' h' => r_ldB Try.underlying3 rfl rfl (hM.call h') (.head _) rfl) ?_
  refine ov rfl (fun w' h' => r_move rfl) ?_
  refine ov rfl (fun w' h' => r_nilck rfl) ?_
  refine ov rfl (fun w' h' => r_fld Try.underlying117 rfl rfl sz66 rfl) ?_
  refine ov rfl (fun w' h' => r_ldB Try.underlying66 rfl rfl (hM.call h') (.head _) rfl) ?_
  refine ov rfl (fun w' h' => r_lenC Try.underlying66 rfl ((hM.call h').seeR (.head _))) ?_
  refine ov rfl (fun w' h' => r_lss rfl rfl) ?_
  refine o_nil fun w115 hw116 => ?_
  have hM := hM.call hw116
  refine sq_n ?_
  refine wc_cond rfl (fun hc117 => ?_) (fun hc117 => ?_)
  · replace hx := xif_t hc117 hx
    refine wc_seq ?_
    refine wc_draw [(0, 0), (1, 0), (2, 0), (3, 0), (4, 0), (5, 0), (6, 0), (7, 0), (8, 0), (9, 0), (10, 0), (11, 0), (12, 0), (13, 0), (14, 0)] Try_mixed (by kernel_rfl) rfl (by kernel_rfl) rfl ?_
    refine ov rfl (fun w' h' => r_move rfl) ?_
    refine ov rfl (fun w' h' => r_move rfl) ?_
    refine ov rfl (fun w' h' => r_nilck rfl) ?_
    refine ov rfl (fun w' h' => r_fld Try.underlying117 rfl rfl sz66 rfl) ?_
    refine ov rfl (fun w' h' => r_ldB Try.underlying66 rfl rfl (hM.call h') (.head _) rfl) ?_
    refine ov rfl (fun w' h' => r_move rfl) ?_
    refine ov rfl (fun w' h' => r_nilck rfl) ?_
    refine ov rfl (fun w' h' => r_fld Try.underlying117 rfl rfl sz3 rfl) ?_
    refine ov rfl (fun w' h' => r_ldB Try.underlying3 rfl rfl (hM.call h') (.head _) rfl) ?_
    obtain ⟨hg129, hx⟩ := xg_some hx
    have hi128 : c.i.toNat < c.b.length := by omega
    refine ov rfl (fun w' h' => r_ixC Try.underlying66 sz5 rfl rfl ((hM.call h').seeR (.head _)) hg129) ?_
    refine ov rfl (fun w' h' => r_ld Try.underlying5 rfl rfl (Cs.get (i := c.i.toNat) (j := 0) ((hM.call h').seeR (.head _)) (fun _ => rfl) hi128 rfl)) ?_
    refine ov rfl (fun w' h' => r_cvt Try.underlying5 Try.underlying3 rfl (u8_cvt _)) ?_
    refine ov rfl (fun w' h' => r_addw rfl rfl) ?_
    refine ov rfl (fun w' h' => r_and rfl rfl) ?_
    refine ov rfl (fun w' h' => r_assign rfl) ?_
    refine o_nil fun w135 hw136 => ?_
    have hM := hM.call hw136
    refine sq_n ?_
    refine wc_region ?_
    refine wv rfl (r_move rfl) ?_
    refine wv rfl (r_move rfl) ?_
    refine wv rfl (r_nilck rfl) ?_
    refine wv rfl (r_fld Try.underlying117 rfl rfl sz3 rfl) ?_
    refine wv rfl (r_ldB Try.underlying3 rfl rfl hM (.head _) rfl) ?_
    refine wv rfl (r_addw rfl rfl) ?_
    refine wv rfl (r_nilck rfl) ?_
    refine wv rfl (r_fld Try.underlying117 rfl rfl sz3 rfl) ?_
    refine w_exu (x_stB #[s_c_0.v, (.int .i64 (iw (c.i + 1))), (.int .i64 (iw ((iw (c.h * 6364136223846793005)) + 1442695040888963407)))] sz3 rfl rfl rfl rfl rfl rfl hM ?_); intro w145 hM
    refine wl_nil ?_
    refine sq_n ?_
    refine wc_seq ?_
    refine wc_region ?_
    refine wv rfl (r_move rfl) ?_
    refine wv rfl (r_assign rfl) ?_
    refine wl_nil ?_
    refine sq_n ?_
    refine wc_ret ?_
    obtain rfl := Option.some.inj hx
    refine fin_ret [(.int .i64 (bAnd (iw ((bAnd (bXor (bShr (iw ((iw (c.h * 6364136223846793005)) + 1442695040888963407)) 33) (bShr (iw ((iw (c.h * 6364136223846793005)) + 1442695040888963407)) 45)) 255) + ((el c.b c.i.toNat).toNat : Int))) 255))] ⟨rfl, trivial⟩ ?_
    replace hM : St ⟨w, X, S⟩ [oBox b_c #[s_c_0.v, (.int .i64 (iw (c.i + 1))), (.int .i64 (iw ((iw (c.h * 6364136223846793005)) + 1442695040888963407)))] 117] [rV s_c_0.v (cSl 1 fY c.b)] _ := hM.tk 1
    have hM := hM.fewer (rsC (.head _) rsN)
    exact ⟨s_c_0, rfl, hM.gives⟩
  · replace hx := xif_f hc117 hx
    refine wc_skip ?_
    refine sq_n ?_
    refine wc_seq ?_
    refine wc_region ?_
    refine wv rfl (r_move rfl) ?_
    refine wv rfl (r_assign rfl) ?_
    refine wl_nil ?_
    refine sq_n ?_
    refine wc_ret ?_
    obtain rfl := Option.some.inj hx
    refine fin_ret [(.int .i64 (bAnd (bXor (bShr (iw ((iw (c.h * 6364136223846793005)) + 1442695040888963407)) 33) (bShr (iw ((iw (c.h * 6364136223846793005)) + 1442695040888963407)) 45)) 255))] ⟨rfl, trivial⟩ ?_
    replace hM : St ⟨w, X, S⟩ [oBox b_c #[s_c_0.v, (.int .i64 c.i), (.int .i64 (iw ((iw (c.h * 6364136223846793005)) + 1442695040888963407)))] 117] [rV s_c_0.v (cSl 1 fY c.b)] _ := hM.tk 1
    have hM := hM.fewer (rsC (.head _) rsN)
    exact ⟨s_c_0, rfl, hM.gives⟩

noncomputable def x_spec_l01Below (c : DL01Cur) (n : Int) : Option (Int × DL01Cur) :=
  bif decide (n ≤ 0) then (some (0, c)) else (bif decide (n ≤ 256) then (Option.bind (x_spec_l01Byte c) fun r9 => xg (0 ≤ r9.1 ∧ 0 < n) <| some (r9.1 % n, r9.2)) else (Option.bind (x_spec_l01Byte c) fun r18 => Option.bind (x_spec_l01Byte r18.2) fun r24 => Option.bind (x_spec_l01Byte r24.2) fun r30 => Option.bind (x_spec_l01Byte r30.2) fun r36 => xg (inI (r18.1 * 16777216)) <| xg (inI (r24.1 * 65536)) <| xg (inI ((r18.1 * 16777216) + (r24.1 * 65536))) <| xg (inI (r30.1 * 256)) <| xg (inI (((r18.1 * 16777216) + (r24.1 * 65536)) + (r30.1 * 256))) <| xg (inI ((((r18.1 * 16777216) + (r24.1 * 65536)) + (r30.1 * 256)) + r36.1)) <| xg (0 ≤ ((((r18.1 * 16777216) + (r24.1 * 65536)) + (r30.1 * 256)) + r36.1) ∧ 0 < n) <| some (((((r18.1 * 16777216) + (r24.1 * 65536)) + (r30.1 * 256)) + r36.1) % n, r36.2)))
theorem ct_spec_l01Below (w : World) (X S : Bs) (b_c : Nat) (c : DL01Cur) (s_c_0 : Sv) (n : Int) (hS : ∀ b, S b → b < w.heap.size ∧ ¬ X b) (a_c_0 : (cSl 1 fY c.b).rd S w s_c_0.v) (oL : Sep [oBox b_c #[s_c_0.v, (.int .i64 c.i), (.int .i64 c.h)] 117] X w) {r : Int × DL01Cur} (hx : x_spec_l01Below c n = some r) :
    Ret Try.prog 111 [(.pointer (some ⟨b_c, 0, none⟩)), (.int .i64 n)] w (fun u w' => ∃ y : Sv, u = (.int .i64 r.1) ∧ Gives X S w [oBox b_c #[y.v, (.int .i64 r.2.i), (.int .i64 r.2.h)] 117] [rV y.v (cSl 1 fY r.2.b)] w') := by
  unfold x_spec_l01Below at hx
  refine enter Try.func111 rfl Try.ntmps111 (by kernel_rfl) rfl ?_
  have hM := St.enter oL hS
  have hM := hM.addE (r := rV s_c_0.v (cSl 1 fY c.b)) a_c_0
  refine wc_seq ?_
  refine wc_region ?_
  refine wv rfl (r_assign rfl) ?_
  refine wl_nil ?_
  refine sq_n ?_
  refine wc_seq ?_
  refine wc_seq ?_
  refine wc_region ?_
  refine wv rfl (r_move rfl) ?_
  refine wv rfl (r_leq rfl rfl) ?_
  refine wl_nil ?_
  refine sq_n ?_
  refine wc_cond rfl (fun hc64 => ?_) (fun hc64 => ?_)
  · replace hx := xif_t hc64 hx
    refine wc_seq ?_
    refine wc_region ?_
    refine wv rfl (r_assign rfl) ?_
    refine wl_nil ?_
    refine sq_n ?_
    refine wc_ret ?_
    refine sq_ret ?_
    obtain rfl := Option.some.inj hx
    refine fin_ret [(.int .i64 0)] ⟨rfl, trivial⟩ ?_
    replace hM : St ⟨w, X, S⟩ [oBox b_c #[s_c_0.v, (.int .i64 c.i), (.int .i64 c.h)] 117] [rV s_c_0.v (cSl 1 fY c.b)] _ := hM.tk 1
    have hM := hM.fewer (rsC (.head _) rsN)
    exact ⟨s_c_0, rfl, hM.gives⟩
  · replace hx := xif_f hc64 hx
    refine wc_skip ?_
    refine sq_n ?_
    refine wc_seq ?_
    refine wc_seq ?_
    refine wc_region ?_
    refine wv rfl (r_move rfl) ?_
    refine wv rfl (r_leq rfl rfl) ?_
    refine wl_nil ?_
    refine sq_n ?_
    refine wc_cond rfl (fun hc68 => ?_) (fun hc68 => ?_)
    · replace hx := xif_t hc68 hx
      refine wc_seq ?_
      refine wc_region ?_
      refine wv rfl (r_move rfl) ?_
      obtain ⟨r70, h71, hx⟩ := bind_some' hx
      refine w_call rfl rfl (hM.callR (l := [oBox b_c #[s_c_0.v, (.int .i64 c.i), (.int .i64 c.h)] 117]) fun X S oL hS hR => ct_spec_l01Byte _ X S b_c c s_c_0 hS (hR _ (.head _)) oL h71) ?_
      rintro _ w72 ⟨s73, rfl, hM⟩
      replace hM : St ⟨w, X, S⟩ [oBox b_c #[s73.v, (.int .i64 r70.2.i), (.int .i64 r70.2.h)] 117] [rV s73.v (cSl 1 fY r70.2.b), rV s_c_0.v (cSl 1 fY c.b)] _ := hM
      refine wv rfl (r_move rfl) ?_
      obtain ⟨hg76, hx⟩ := xg_some hx
      refine wv rfl (r_rem rfl rfl hg76) ?_
      refine wv rfl (r_assign rfl) ?_
      refine wl_nil ?_
      refine sq_n ?_
      refine wc_ret ?_
      refine sq_ret ?_
      obtain rfl := Option.some.inj hx
      refine fin_ret [(.int .i64 (r70.1 % n))] ⟨rfl, trivial⟩ ?_
      replace hM : St ⟨w, X, S⟩ [oBox b_c #[s73.v, (.int .i64 r70.2.i), (.int .i64 r70.2.h)] 117] [rV s73.v (cSl 1 fY r70.2.b), rV s_c_0.v (cSl 1 fY c.b)] _ := hM.tk 1
      have hM := hM.fewer (rsC (.head _) rsN)
      exact ⟨s73, rfl, hM.gives⟩
    · replace hx := xif_f hc68 hx
      refine wc_skip ?_
      refine sq_n ?_
      refine wc_seq ?_
      refine wc_region ?_
      refine wv rfl (r_move rfl) ?_
      obtain ⟨r79, h80, hx⟩ := bind_some' hx
      refine w_call rfl rfl (hM.callR (l := [oBox b_c #[s_c_0.v, (.int .i64 c.i), (.int .i64 c.h)] 117]) fun X S oL hS hR => ct_spec_l01Byte _ X S b_c c s_c_0 hS (hR _ (.head _)) oL h80) ?_
      rintro _ w81 ⟨s82, rfl, hM⟩
      replace hM : St ⟨w, X, S⟩ [oBox b_c #[s82.v, (.int .i64 r79.2.i), (.int .i64 r79.2.h)] 117] [rV s82.v (cSl 1 fY r79.2.b), rV s_c_0.v (cSl 1 fY c.b)] _ := hM
      refine wv rfl (r_assign rfl) ?_
      refine wl_nil ?_
      refine sq_n ?_
      refine wc_seq ?_
      refine wc_region ?_
      refine wv rfl (r_move rfl) ?_
      obtain ⟨r85, h86, hx⟩ := bind_some' hx
      refine w_call rfl rfl (hM.callR (l := [oBox b_c #[s82.v, (.int .i64 r79.2.i), (.int .i64 r79.2.h)] 117]) fun X S oL hS hR => ct_spec_l01Byte _ X S b_c r79.2 s82 hS (hR _ (.head _)) oL h86) ?_
      rintro _ w87 ⟨s88, rfl, hM⟩
      replace hM : St ⟨w, X, S⟩ [oBox b_c #[s88.v, (.int .i64 r85.2.i), (.int .i64 r85.2.h)] 117] [rV s88.v (cSl 1 fY r85.2.b), rV s82.v (cSl 1 fY r79.2.b), rV s_c_0.v (cSl 1 fY c.b)] _ := hM
      refine wv rfl (r_assign rfl) ?_
      refine wl_nil ?_
      refine sq_n ?_
      refine wc_seq ?_
      refine wc_region ?_
      refine wv rfl (r_move rfl) ?_
      obtain ⟨r91, h92, hx⟩ := bind_some' hx
      refine w_call rfl rfl (hM.callR (l := [oBox b_c #[s88.v, (.int .i64 r85.2.i), (.int .i64 r85.2.h)] 117]) fun X S oL hS hR => ct_spec_l01Byte _ X S b_c r85.2 s88 hS (hR _ (.head _)) oL h92) ?_
      rintro _ w93 ⟨s94, rfl, hM⟩
      replace hM : St ⟨w, X, S⟩ [oBox b_c #[s94.v, (.int .i64 r91.2.i), (.int .i64 r91.2.h)] 117] [rV s94.v (cSl 1 fY r91.2.b), rV s88.v (cSl 1 fY r85.2.b), rV s82.v (cSl 1 fY r79.2.b), rV s_c_0.v (cSl 1 fY c.b)] _ := hM
      refine wv rfl (r_assign rfl) ?_
      refine wl_nil ?_
      refine sq_n ?_
      refine wc_seq ?_
      refine wc_region ?_
      refine wv rfl (r_move rfl) ?_
      obtain ⟨r97, h98, hx⟩ := bind_some' hx
      refine w_call rfl rfl (hM.callR (l := [oBox b_c #[s94.v, (.int .i64 r91.2.i), (.int .i64 r91.2.h)] 117]) fun X S oL hS hR => ct_spec_l01Byte _ X S b_c r91.2 s94 hS (hR _ (.head _)) oL h98) ?_
      rintro _ w99 ⟨s100, rfl, hM⟩
      replace hM : St ⟨w, X, S⟩ [oBox b_c #[s100.v, (.int .i64 r97.2.i), (.int .i64 r97.2.h)] 117] [rV s100.v (cSl 1 fY r97.2.b), rV s94.v (cSl 1 fY r91.2.b), rV s88.v (cSl 1 fY r85.2.b), rV s82.v (cSl 1 fY r79.2.b), rV s_c_0.v (cSl 1 fY c.b)] _ := hM
      refine wv rfl (r_assign rfl) ?_
      refine wl_nil ?_
      refine sq_n ?_
      refine wc_seq ?_
      refine wc_region ?_
      refine wv rfl (r_move rfl) ?_
      obtain ⟨hg104, hx⟩ := xg_some hx
      refine wv rfl (r_mul rfl rfl hg104) ?_
      refine wv rfl (r_move rfl) ?_
      obtain ⟨hg107, hx⟩ := xg_some hx
      refine wv rfl (r_mul rfl rfl hg107) ?_
      obtain ⟨hg109, hx⟩ := xg_some hx
      refine wv rfl (r_add rfl rfl hg109) ?_
      refine wv rfl (r_move rfl) ?_
      obtain ⟨hg112, hx⟩ := xg_some hx
      refine wv rfl (r_mul rfl rfl hg112) ?_
      obtain ⟨hg114, hx⟩ := xg_some hx
      refine wv rfl (r_add rfl rfl hg114) ?_
      refine wv rfl (r_move rfl) ?_
      obtain ⟨hg117, hx⟩ := xg_some hx
      refine wv rfl (r_add rfl rfl hg117) ?_
      refine wv rfl (r_move rfl) ?_
      obtain ⟨hg120, hx⟩ := xg_some hx
      refine wv rfl (r_rem rfl rfl hg120) ?_
      refine wv rfl (r_assign rfl) ?_
      refine wl_nil ?_
      refine sq_n ?_
      refine wc_ret ?_
      obtain rfl := Option.some.inj hx
      refine fin_ret [(.int .i64 (((((r79.1 * 16777216) + (r85.1 * 65536)) + (r91.1 * 256)) + r97.1) % n))] ⟨rfl, trivial⟩ ?_
      replace hM : St ⟨w, X, S⟩ [oBox b_c #[s100.v, (.int .i64 r97.2.i), (.int .i64 r97.2.h)] 117] [rV s100.v (cSl 1 fY r97.2.b), rV s94.v (cSl 1 fY r91.2.b), rV s88.v (cSl 1 fY r85.2.b), rV s82.v (cSl 1 fY r79.2.b), rV s_c_0.v (cSl 1 fY c.b)] _ := hM.tk 1
      have hM := hM.fewer (rsC (.head _) rsN)
      exact ⟨s100, rfl, hM.gives⟩

noncomputable def x_spec_l01Once (c : DL01Cur) (n : Int) : Option (Bool × DL01Cur) :=
  Option.bind (x_spec_l01Below c n) fun r5 => some (decide (r5.1 = 0), r5.2)
theorem ct_spec_l01Once (w : World) (X S : Bs) (b_c : Nat) (c : DL01Cur) (s_c_0 : Sv) (n : Int) (hS : ∀ b, S b → b < w.heap.size ∧ ¬ X b) (a_c_0 : (cSl 1 fY c.b).rd S w s_c_0.v) (oL : Sep [oBox b_c #[s_c_0.v, (.int .i64 c.i), (.int .i64 c.h)] 117] X w) {r : Bool × DL01Cur} (hx : x_spec_l01Once c n = some r) :
    Ret Try.prog 155 [(.pointer (some ⟨b_c, 0, none⟩)), (.int .i64 n)] w (fun u w' => ∃ y : Sv, u = (.bool r.1) ∧ Gives X S w [oBox b_c #[y.v, (.int .i64 r.2.i), (.int .i64 r.2.h)] 117] [rV y.v (cSl 1 fY r.2.b)] w') := by
  unfold x_spec_l01Once at hx
  refine enter Try.func155 rfl Try.ntmps155 (by kernel_rfl) rfl ?_
  have hM := St.enter oL hS
  have hM := hM.addE (r := rV s_c_0.v (cSl 1 fY c.b)) a_c_0
  refine wc_seq ?_
  refine wc_region ?_
  refine wv rfl (r_assign rfl) ?_
  refine wl_nil ?_
  refine sq_n ?_
  refine wc_seq ?_
  refine wc_region ?_
  refine wv rfl (r_move rfl) ?_
  refine wv rfl (r_move rfl) ?_
  obtain ⟨r14, h15, hx⟩ := bind_some' hx
  refine w_call rfl rfl (hM.callR (l := [oBox b_c #[s_c_0.v, (.int .i64 c.i), (.int .i64 c.h)] 117]) fun X S oL hS hR => ct_spec_l01Below _ X S b_c c s_c_0 n hS (hR _ (.head _)) oL h15) ?_
  rintro _ w16 ⟨s17, rfl, hM⟩
  replace hM : St ⟨w, X, S⟩ [oBox b_c #[s17.v, (.int .i64 r14.2.i), (.int .i64 r14.2.h)] 117] [rV s17.v (cSl 1 fY r14.2.b), rV s_c_0.v (cSl 1 fY c.b)] _ := hM
  refine wv rfl (r_eql rfl rfl) ?_
  refine wv rfl (r_assign rfl) ?_
  refine wl_nil ?_
  refine sq_n ?_
  refine wc_ret ?_
  obtain rfl := Option.some.inj hx
  refine fin_ret [(.bool (decide (r14.1 = 0)))] ⟨rfl, trivial⟩ ?_
  replace hM : St ⟨w, X, S⟩ [oBox b_c #[s17.v, (.int .i64 r14.2.i), (.int .i64 r14.2.h)] 117] [rV s17.v (cSl 1 fY r14.2.b), rV s_c_0.v (cSl 1 fY c.b)] _ := hM.tk 1
  have hM := hM.fewer (rsC (.head _) rsN)
  exact ⟨s17, rfl, hM.gives⟩

noncomputable def x_spec_l01Pick (c : DL01Cur) (l : List Int) : Option (Int × DL01Cur) :=
  Option.bind (x_spec_l01Below c (l.length : Int)) fun r7 => xg (0 ≤ r7.1 ∧ r7.1 < (l.length : Int)) <| some (el l r7.1.toNat, r7.2)
theorem ct_spec_l01Pick (w : World) (X S : Bs) (b_c : Nat) (c : DL01Cur) (s_c_0 : Sv) (l : List Int) (s_l : Sv) (hS : ∀ b, S b → b < w.heap.size ∧ ¬ X b) (a_c_0 : (cSl 1 fY c.b).rd S w s_c_0.v) (a_l_0 : (cSl 1 fI l).rd S w s_l.v) (oL : Sep [oBox b_c #[s_c_0.v, (.int .i64 c.i), (.int .i64 c.h)] 117] X w) {r : Int × DL01Cur} (hx : x_spec_l01Pick c l = some r) :
    Ret Try.prog 112 [(.pointer (some ⟨b_c, 0, none⟩)), s_l.v] w (fun u w' => ∃ y : Sv, u = (.int .i64 r.1) ∧ Gives X S w [oBox b_c #[y.v, (.int .i64 r.2.i), (.int .i64 r.2.h)] 117] [rV y.v (cSl 1 fY r.2.b)] w') := by
  unfold x_spec_l01Pick at hx
  refine enter Try.func112 rfl Try.ntmps112 (by kernel_rfl) rfl ?_
  have hM := St.enter oL hS
  have hM := hM.addE (r := rV s_c_0.v (cSl 1 fY c.b)) a_c_0
  have hM := hM.addE (r := rV s_l.v (cSl 1 fI l)) a_l_0
  refine wc_seq ?_
  refine wc_region ?_
  refine wv rfl (r_assign rfl) ?_
  refine wl_nil ?_
  refine sq_n ?_
  refine wc_seq ?_
  refine wc_region ?_
  refine wv rfl (r_move rfl) ?_
  refine wv rfl (r_move rfl) ?_
  refine wv rfl (r_move rfl) ?_
  refine wv rfl (r_lenC Try.underlying22 rfl (hM.seeR (.head _))) ?_
  obtain ⟨r21, h22, hx⟩ := bind_some' hx
  refine w_call rfl rfl (hM.callR (l := [oBox b_c #[s_c_0.v, (.int .i64 c.i), (.int .i64 c.h)] 117]) fun X S oL hS hR => ct_spec_l01Below _ X S b_c c s_c_0 (l.length : Int) hS (hR _ (.tail _ (.head _))) oL h22) ?_
  rintro _ w23 ⟨s24, rfl, hM⟩
  replace hM : St ⟨w, X, S⟩ [oBox b_c #[s24.v, (.int .i64 r21.2.i), (.int .i64 r21.2.h)] 117] [rV s24.v (cSl 1 fY r21.2.b), rV s_l.v (cSl 1 fI l), rV s_c_0.v (cSl 1 fY c.b)] _ := hM
  obtain ⟨hg27, hx⟩ := xg_some hx
  have hi26 : r21.1.toNat < l.length := by omega
  refine wv rfl (r_ixC Try.underlying22 sz3 rfl rfl (hM.seeR (.tail _ (.head _))) hg27) ?_
  refine wv rfl (r_ld Try.underlying3 rfl rfl (Cs.get (i := r21.1.toNat) (j := 0) (hM.seeR (.tail _ (.head _))) (fun _ => rfl) hi26 rfl)) ?_
  refine wv rfl (r_assign rfl) ?_
  refine wl_nil ?_
  refine sq_n ?_
  refine wc_ret ?_
  obtain rfl := Option.some.inj hx
  refine fin_ret [(.int .i64 (el l r21.1.toNat))] ⟨rfl, trivial⟩ ?_
  replace hM : St ⟨w, X, S⟩ [oBox b_c #[s24.v, (.int .i64 r21.2.i), (.int .i64 r21.2.h)] 117] [rV s24.v (cSl 1 fY r21.2.b), rV s_l.v (cSl 1 fI l), rV s_c_0.v (cSl 1 fY c.b)] _ := hM.tk 1
  have hM := hM.fewer (rsC (.head _) rsN)
  exact ⟨s24, rfl, hM.gives⟩

noncomputable def x_spec_l01Pick_v2 (c : DL01Cur) (l : List Int) : Option (Int × DL01Cur) :=
  Option.bind (x_spec_l01Below c (l.length : Int)) fun r8 => xg (0 ≤ r8.1 ∧ r8.1 < (l.length : Int)) <| some (el l r8.1.toNat, r8.2)
theorem ct_spec_l01Pick_v2 (w : World) (X S : Bs) (b_c : Nat) (c : DL01Cur) (s_c_0 : Sv) (l : List Int) (s_l : Sv) (hS : ∀ b, S b → b < w.heap.size ∧ ¬ X b) (a_c_0 : (cSl 1 fY c.b).rd S w s_c_0.v) (oL : Sep [oBox b_c #[s_c_0.v, (.int .i64 c.i), (.int .i64 c.h)] 117, oC (cSl 1 fI l) s_l.v] X w) {r : Int × DL01Cur} (hx : x_spec_l01Pick_v2 c l = some r) :
    Ret Try.prog 112 [(.pointer (some ⟨b_c, 0, none⟩)), s_l.v] w (fun u w' => ∃ y : Sv, u = (.int .i64 r.1) ∧ Gives X S w [oBox b_c #[y.v, (.int .i64 r.2.i), (.int .i64 r.2.h)] 117] [rV y.v (cSl 1 fY r.2.b)] w') := by
  unfold x_spec_l01Pick_v2 at hx
  refine enter Try.func112 rfl Try.ntmps112 (by kernel_rfl) rfl ?_
  have hM := St.enter oL hS
  have hM := hM.addE (r := rV s_c_0.v (cSl 1 fY c.b)) a_c_0
  refine wc_seq ?_
  refine wc_region ?_
  refine wv rfl (r_assign rfl) ?_
  refine wl_nil ?_
  refine sq_n ?_
  refine wc_seq ?_
  refine wc_region ?_
  refine wv rfl (r_move rfl) ?_
  refine wv rfl (r_move rfl) ?_
  refine wv rfl (r_move rfl) ?_
  refine wv rfl (r_lenC Try.underlying22 rfl (hM.seeO (.tail _ (.head _)))) ?_
  obtain ⟨r22, h23, hx⟩ := bind_some' hx
  refine w_call rfl rfl (hM.callR (l := [oBox b_c #[s_c_0.v, (.int .i64 c.i), (.int .i64 c.h)] 117]) fun X S oL hS hR => ct_spec_l01Below _ X S b_c c s_c_0 (l.length : Int) hS (hR _ (.head _)) oL h23) ?_
  rintro _ w24 ⟨s25, rfl, hM⟩
  replace hM : St ⟨w, X, S⟩ [oBox b_c #[s25.v, (.int .i64 r22.2.i), (.int .i64 r22.2.h)] 117, oC (cSl 1 fI l) s_l.v] [rV s25.v (cSl 1 fY r22.2.b), rV s_c_0.v (cSl 1 fY c.b)] _ := hM
  obtain ⟨hg28, hx⟩ := xg_some hx
  have hi27 : r22.1.toNat < l.length := by omega
  refine wv rfl (r_ixC Try.underlying22 sz3 rfl rfl (hM.seeO (.tail _ (.head _))) hg28) ?_
  refine wv rfl (r_ld Try.underlying3 rfl rfl (Cs.get (i := r22.1.toNat) (j := 0) (hM.seeO (.tail _ (.head _))) (fun _ => rfl) hi27 rfl)) ?_
  refine wv rfl (r_assign rfl) ?_
  refine wl_nil ?_
  refine sq_n ?_
  refine wc_ret ?_
  obtain rfl := Option.some.inj hx
  refine fin_ret [(.int .i64 (el l r22.1.toNat))] ⟨rfl, trivial⟩ ?_
  replace hM : St ⟨w, X, S⟩ [oBox b_c #[s25.v, (.int .i64 r22.2.i), (.int .i64 r22.2.h)] 117] [rV s25.v (cSl 1 fY r22.2.b), rV s_c_0.v (cSl 1 fY c.b)] _ := hM.tk 1
  have hM := hM.fewer (rsC (.head _) rsN)
  exact ⟨s25, rfl, hM.gives⟩

noncomputable def x_spec_l01Sign (c : DL01Cur) : Option (Int × DL01Cur) :=
  Option.bind (x_spec_l01Once c 8) fun r4 => bif r4.1 then (Option.bind (x_spec_l01Pick r4.2 [0, 127, 128, 2047, 2048, 55295, 57344, 65535, 65536, 1114111, 10, 32]) fun r13 => some (r13.1, r13.2)) else (Option.bind (x_spec_l01Below r4.2 6) fun r19 => xg (inI (97 + r19.1)) <| some (97 + r19.1, r19.2))
theorem ct_spec_l01Sign (w : World) (X S : Bs) (b_c : Nat) (c : DL01Cur) (s_c_0 : Sv) (hS : ∀ b, S b → b < w.heap.size ∧ ¬ X b) (a_c_0 : (cSl 1 fY c.b).rd S w s_c_0.v) (oL : Sep [oBox b_c #[s_c_0.v, (.int .i64 c.i), (.int .i64 c.h)] 117] X w) {r : Int × DL01Cur} (hx : x_spec_l01Sign c = some r) :
    Ret Try.prog 139 [(.pointer (some ⟨b_c, 0, none⟩))] w (fun u w' => ∃ y : Sv, u = (.int .i64 r.1) ∧ Gives X S w [oBox b_c #[y.v, (.int .i64 r.2.i), (.int .i64 r.2.h)] 117] [rV y.v (cSl 1 fY r.2.b)] w') := by
  unfold x_spec_l01Sign at hx
  refine enter Try.func139 rfl Try.ntmps139 (by kernel_rfl) rfl ?_
  have hM := St.enter oL hS
  have hM := hM.addE (r := rV s_c_0.v (cSl 1 fY c.b)) a_c_0
  refine wc_seq ?_
  refine wc_region ?_
  refine wv rfl (r_assign rfl) ?_
  refine wl_nil ?_
  refine sq_n ?_
  refine wc_seq ?_
  refine wc_seq ?_
  refine wc_region ?_
  refine wv rfl (r_move rfl) ?_
  obtain ⟨r28, h29, hx⟩ := bind_some' hx
  refine w_call rfl rfl (hM.callR (l := [oBox b_c #[s_c_0.v, (.int .i64 c.i), (.int .i64 c.h)] 117]) fun X S oL hS hR => ct_spec_l01Once _ X S b_c c s_c_0 (8 : Int) hS (hR _ (.head _)) oL h29) ?_
  rintro _ w30 ⟨s31, rfl, hM⟩
  replace hM : St ⟨w, X, S⟩ [oBox b_c #[s31.v, (.int .i64 r28.2.i), (.int .i64 r28.2.h)] 117] [rV s31.v (cSl 1 fY r28.2.b), rV s_c_0.v (cSl 1 fY c.b)] _ := hM
  refine wl_nil ?_
  refine sq_n ?_
  refine wc_cond rfl (fun hc32 => ?_) (fun hc32 => ?_)
  · replace hx := xif_t hc32 hx
    refine wc_seq ?_
    refine wc_region ?_
    refine wv rfl (r_move rfl) ?_
    refine w_ex rfl (x_lit (f := fI) (own := []) [0, 127, 128, 2047, 2048, 55295, 57344, 65535, 65536, 1114111, 10, 32] [(.int .i64 0), (.int .i64 127), (.int .i64 128), (.int .i64 2047), (.int .i64 2048), (.int .i64 55295), (.int .i64 57344), (.int .i64 65535), (.int .i64 65536), (.int .i64 1114111), (.int .i64 10), (.int .i64 32)] 12 Try.underlying22 sz3 (fun _ => rfl) rfl rfl rfl rfl rfl (by kernel_rfl) (fun _ => zP (pV _ rfl) (zP (pV _ rfl) (zP (pV _ rfl) (zP (pV _ rfl) (zP (pV _ rfl) (zP (pV _ rfl) (zP (pV _ rfl) (zP (pV _ rfl) (zP (pV _ rfl) (zP (pV _ rfl) (zP (pV _ rfl) (zP (pV _ rfl) zN)))))))))))) hM ?_); intro s35 w34 hR36 hM
    have hM := hM.selO
    obtain ⟨r38, h39, hx⟩ := bind_some' hx
    refine w_call rfl rfl (hM.callR (l := [oBox b_c #[s31.v, (.int .i64 r28.2.i), (.int .i64 r28.2.h)] 117]) fun X S oL hS hR => ct_spec_l01Pick _ X S b_c r28.2 s31 [0, 127, 128, 2047, 2048, 55295, 57344, 65535, 65536, 1114111, 10, 32] s35 hS (hR _ (.tail _ (.head _))) (hR _ (.head _)) oL h39) ?_
    rintro _ w40 ⟨s41, rfl, hM⟩
    replace hM : St ⟨w, X, S⟩ [oBox b_c #[s41.v, (.int .i64 r38.2.i), (.int .i64 r38.2.h)] 117] [rV s41.v (cSl 1 fY r38.2.b), rV s35.v (cSl 1 fI [0, 127, 128, 2047, 2048, 55295, 57344, 65535, 65536, 1114111, 10, 32]), rV s31.v (cSl 1 fY r28.2.b), rV s_c_0.v (cSl 1 fY c.b)] _ := hM
    refine wv rfl (r_assign rfl) ?_
    refine wl_nil ?_
    refine sq_n ?_
    refine wc_ret ?_
    refine sq_ret ?_
    obtain rfl := Option.some.inj hx
    refine fin_ret [(.int .i64 r38.1)] ⟨rfl, trivial⟩ ?_
    replace hM : St ⟨w, X, S⟩ [oBox b_c #[s41.v, (.int .i64 r38.2.i), (.int .i64 r38.2.h)] 117] [rV s41.v (cSl 1 fY r38.2.b), rV s35.v (cSl 1 fI [0, 127, 128, 2047, 2048, 55295, 57344, 65535, 65536, 1114111, 10, 32]), rV s31.v (cSl 1 fY r28.2.b), rV s_c_0.v (cSl 1 fY c.b)] _ := hM.tk 1
    have hM := hM.fewer (rsC (.head _) rsN)
    exact ⟨s41, rfl, hM.gives⟩
  · replace hx := xif_f hc32 hx
    refine wc_skip ?_
    refine sq_n ?_
    refine wc_seq ?_
    refine wc_region ?_
    refine wv rfl (r_move rfl) ?_
    obtain ⟨r44, h45, hx⟩ := bind_some' hx
    refine w_call rfl rfl (hM.callR (l := [oBox b_c #[s31.v, (.int .i64 r28.2.i), (.int .i64 r28.2.h)] 117]) fun X S oL hS hR => ct_spec_l01Below _ X S b_c r28.2 s31 (6 : Int) hS (hR _ (.head _)) oL h45) ?_
    rintro _ w46 ⟨s47, rfl, hM⟩
    replace hM : St ⟨w, X, S⟩ [oBox b_c #[s47.v, (.int .i64 r44.2.i), (.int .i64 r44.2.h)] 117] [rV s47.v (cSl 1 fY r44.2.b), rV s31.v (cSl 1 fY r28.2.b), rV s_c_0.v (cSl 1 fY c.b)] _ := hM
    obtain ⟨hg49, hx⟩ := xg_some hx
    refine wv rfl (r_add rfl rfl hg49) ?_
    refine wv rfl (r_assign rfl) ?_
    refine wl_nil ?_
    refine sq_n ?_
    refine wc_ret ?_
    obtain rfl := Option.some.inj hx
    refine fin_ret [(.int .i64 (97 + r44.1))] ⟨rfl, trivial⟩ ?_
    replace hM : St ⟨w, X, S⟩ [oBox b_c #[s47.v, (.int .i64 r44.2.i), (.int .i64 r44.2.h)] 117] [rV s47.v (cSl 1 fY r44.2.b), rV s31.v (cSl 1 fY r28.2.b), rV s_c_0.v (cSl 1 fY c.b)] _ := hM.tk 1
    have hM := hM.fewer (rsC (.head _) rsN)
    exact ⟨s47, rfl, hM.gives⟩

noncomputable def x_spec_l01Signs_b0 (l38 : List Int) (n39 : Int) (l40 : List UInt8) (n41 : Int) (n42 : Int) : Option (Lr (List Int × Int × List UInt8 × Int × Int) (List Int × List UInt8 × Int × Int)) :=
  bif decide ((0 : Int) < n39) then (Option.bind (x_spec_l01Sign (⟨l40, n41, n42⟩ : DL01Cur)) fun r67 => xg (l38.length < 1099511627776) <| xg (inI (n39 - 1)) <| some (Lr.go (l38 ++ [r67.1], n39 - 1, r67.2.b, r67.2.i, r67.2.h))) else (some (Lr.out (l38, l40, n41, n42)))
noncomputable def x_spec_l01Signs_f0 (s80 : List Int × Int × List UInt8 × Int × Int) : Option (Lr (List Int × Int × List UInt8 × Int × Int) (List Int × List UInt8 × Int × Int)) := x_spec_l01Signs_b0 s80.1 s80.2.1 s80.2.2.1 s80.2.2.2.1 s80.2.2.2.2
noncomputable def x_spec_l01Signs (c : DL01Cur) (most : Int) : Option (List Int × DL01Cur) :=
  xg (inI (most + 1)) <| Option.bind (x_spec_l01Below c (most + 1)) fun r12 => Option.bind (iter (x_spec_l01Signs_f0) ([], r12.1, r12.2.b, r12.2.i, r12.2.h)) fun (y81 : List Int × List UInt8 × Int × Int) => some (y81.1, (⟨y81.2.1, y81.2.2.1, y81.2.2.2⟩ : DL01Cur))
theorem ct_spec_l01Signs (w : World) (X S : Bs) (b_c : Nat) (c : DL01Cur) (s_c_0 : Sv) (most : Int) (hS : ∀ b, S b → b < w.heap.size ∧ ¬ X b) (a_c_0 : (cSl 1 fY c.b).rd S w s_c_0.v) (oL : Sep [oBox b_c #[s_c_0.v, (.int .i64 c.i), (.int .i64 c.h)] 117] X w) {r : List Int × DL01Cur} (hx : x_spec_l01Signs c most = some r) :
    Ret Try.prog 104 [(.pointer (some ⟨b_c, 0, none⟩)), (.int .i64 most)] w (fun u w' => ∃ y : Sv × Sv, u = y.1.v ∧ Gives X S w [oC (cSl 1 fI r.1) y.1.v, oBox b_c #[y.2.v, (.int .i64 r.2.i), (.int .i64 r.2.h)] 117] [rV y.2.v (cSl 1 fY r.2.b)] w') := by
  unfold x_spec_l01Signs at hx
  refine enter Try.func104 rfl Try.ntmps104 (by kernel_rfl) rfl ?_
  have hM := St.enter oL hS
  have hM := hM.addE (r := rV s_c_0.v (cSl 1 fY c.b)) a_c_0
  refine wc_seq ?_
  refine wc_region ?_
  refine wv rfl (r_assign rfl) ?_
  refine wl_nil ?_
  refine sq_n ?_
  refine wc_seq ?_
  refine wc_region ?_
  refine w_ex rfl (x_empty (f := fI) Try.underlying22 sz3 (fun _ => rfl) hM ?_); intro s89 w88 hR90 hM
  refine wv rfl (r_assign rfl) ?_
  refine wl_nil ?_
  refine sq_n ?_
  refine wc_seq ?_
  refine wc_seq ?_
  refine wc_region ?_
  refine wv rfl (r_move rfl) ?_
  refine wv rfl (r_move rfl) ?_
  obtain ⟨hg96, hx⟩ := xg_some hx
  refine wv rfl (r_add rfl rfl hg96) ?_
  replace hM : St ⟨w, X, S⟩ [oBox b_c #[s_c_0.v, (.int .i64 c.i), (.int .i64 c.h)] 117, oC (cSl 1 fI ([] : List Int)) s89.v] [rV s_c_0.v (cSl 1 fY c.b)] _ := hM.pl [1]
  obtain ⟨r97, h98, hx⟩ := bind_some' hx
  refine w_call rfl rfl (hM.callR (l := [oBox b_c #[s_c_0.v, (.int .i64 c.i), (.int .i64 c.h)] 117]) fun X S oL hS hR => ct_spec_l01Below _ X S b_c c s_c_0 (most + 1) hS (hR _ (.head _)) oL h98) ?_
  rintro _ w99 ⟨s100, rfl, hM⟩
  replace hM : St ⟨w, X, S⟩ [oBox b_c #[s100.v, (.int .i64 r97.2.i), (.int .i64 r97.2.h)] 117, oC (cSl 1 fI ([] : List Int)) s89.v] [rV s100.v (cSl 1 fY r97.2.b), rV s_c_0.v (cSl 1 fY c.b)] _ := hM
  refine wv rfl (r_assign rfl) ?_
  refine wl_nil ?_
  refine sq_n ?_
  refine wc_block ?_
  obtain ⟨y102, hx, hx103⟩ := bind_some' hx
  have hM := hM.fewer (rsC (.head _) rsN)
  replace hM : St ⟨w, X, S⟩ [oBox b_c #[s100.v, (.int .i64 r97.2.i), (.int .i64 r97.2.h)] 117, oC (cSl 1 fI ([] : List Int)) s89.v] [rV s100.v (cSl 1 fY r97.2.b)] _ := hM
  obtain ⟨m114, hx⟩ := iter_run hx
  refine wc_loop (un fun (m112 : Nat) => un fun (l104 : List Int) => un fun (n105 : Int) => un fun (l106 : List UInt8) => un fun (n107 : Int) => un fun (n108 : Int) => un fun (s110 : Sv) => fun (s111 : Sv) => [(0, (.pointer (some ⟨b_c, 0, none⟩))), (5, s110.v), (6, (.int .i64 n105))]) (un fun (m112 : Nat) => un fun (l104 : List Int) => un fun (n105 : Int) => un fun (l106 : List UInt8) => un fun (n107 : Int) => un fun (n108 : Int) => un fun (s110 : Sv) => fun (s111 : Sv) w' => St ⟨w, X, S⟩ [oBox b_c #[s111.v, (.int .i64 n107), (.int .i64 n108)] 117, oC (cSl 1 fI l104) s110.v] [rV s111.v (cSl 1 fY l106)] w' ∧ iterN _ m112 (l104, n105, l106, n107, n108) = some y102) (fun p => p.1) (m114, [], r97.1, r97.2.b, r97.2.i, r97.2.h, s89, s100) ⟨rfl, rfl, rfl, trivial⟩ ⟨hM, hx⟩ ?_
  rintro ⟨m112, l104, n105, l106, n107, n108, s110, s111⟩ w115 ⟨hM, hx⟩
  obtain ⟨m116, z117, rfl, hx, hx118⟩ := iterN_step hx
  unfold x_spec_l01Signs_f0 x_spec_l01Signs_b0 at hx
  try dsimp only at hx
  refine wc_seq ?_
  refine wc_seq ?_
  refine wc_region ?_
  refine wv rfl (r_move rfl) ?_
  refine wv rfl (r_gtr rfl rfl) ?_
  refine wl_nil ?_
  refine sq_n ?_
  refine wc_cond rfl (fun hc121 => ?_) (fun hc121 => ?_)
  · replace hx := xif_t hc121 hx
    refine wc_skip ?_
    refine sq_n ?_
    refine wc_seq ?_
    refine wc_block ?_
    refine wc_region ?_
    refine wv rfl (r_move rfl) ?_
    refine wv rfl (r_move rfl) ?_
    obtain ⟨r124, h125, hx⟩ := bind_some' hx
    refine w_call rfl rfl (hM.callR (l := [oBox b_c #[s111.v, (.int .i64 n107), (.int .i64 n108)] 117]) fun X S oL hS hR => ct_spec_l01Sign _ X S b_c (⟨l106, n107, n108⟩ : DL01Cur) s111 hS (hR _ (.head _)) oL h125) ?_
    rintro _ w126 ⟨s127, rfl, hM⟩
    replace hM : St ⟨w, X, S⟩ [oBox b_c #[s127.v, (.int .i64 r124.2.i), (.int .i64 r124.2.h)] 117, oC (cSl 1 fI l104) s110.v] [rV s127.v (cSl 1 fY r124.2.b), rV s111.v (cSl 1 fY l106)] _ := hM
    replace hM : St ⟨w, X, S⟩ [oC (cSl 1 fI l104) s110.v, oBox b_c #[s127.v, (.int .i64 r124.2.i), (.int .i64 r124.2.h)] 117] [rV s127.v (cSl 1 fY r124.2.b), rV s111.v (cSl 1 fY l106)] _ := hM.pl [1]
    obtain ⟨hg131, hx⟩ := xg_some hx
    refine w_push (f := fI) r124.1 rfl rfl Try.underlying22 sz3 rfl rfl rfl rfl (fun _ => rfl) hM (fun _ => zP (pV _ rfl) zN) rfl hg131 rfl ?_; intro u129 s130 w128 hM
    refine wv rfl (r_assign rfl) ?_
    refine wl_nil ?_
    refine bk_n ?_
    refine sq_n ?_
    refine wc_region ?_
    refine wv rfl (r_move rfl) ?_
    obtain ⟨hg135, hx⟩ := xg_some hx
    refine wv rfl (r_sub rfl rfl hg135) ?_
    refine wv rfl (r_assign rfl) ?_
    refine wl_nil ?_
    obtain rfl := Option.some.inj hx
    replace hM : St ⟨w, X, S⟩ [oBox b_c #[s127.v, (.int .i64 r124.2.i), (.int .i64 r124.2.h)] 117, oC (cSl 1 fI (l104 ++ [r124.1])) s130.v] [rV s127.v (cSl 1 fY r124.2.b), rV s111.v (cSl 1 fY l106)] _ := hM.pl [0, 1]
    have hM := hM.fewer (rsC (.head _) rsN)
    replace hM : St ⟨w, X, S⟩ [oBox b_c #[s127.v, (.int .i64 r124.2.i), (.int .i64 r124.2.h)] 117, oC (cSl 1 fI (l104 ++ [r124.1])) s130.v] [rV s127.v (cSl 1 fY r124.2.b)] _ := hM
    exact lp_end (m116, l104 ++ [r124.1], n105 - 1, r124.2.b, r124.2.i, r124.2.h, s130, s127) (Nat.lt_succ_self _) ⟨rfl, rfl, rfl, trivial⟩ ⟨hM, hx118⟩
  · replace hx := xif_f hc121 hx
    refine wc_exit ?_
    refine sq_exit ?_
    refine lp1_exit ?_
    obtain rfl := Option.some.inj hx
    obtain rfl := Option.some.inj hx118
    replace hx := hx103
    try dsimp only [Sum.elim_inl, Sum.elim_inr] at hx
    refine bk_here ?_
    refine sq_n ?_
    refine wc_seq ?_
    refine wc_region ?_
    refine wv rfl (r_move rfl) ?_
    refine wv rfl (r_assign rfl) ?_
    refine wl_nil ?_
    refine sq_n ?_
    refine wc_ret ?_
    obtain rfl := Option.some.inj hx
    refine fin_ret [s110.v] ⟨rfl, trivial⟩ ?_
    replace hM : St ⟨w, X, S⟩ [oC (cSl 1 fI l104) s110.v, oBox b_c #[s111.v, (.int .i64 n107), (.int .i64 n108)] 117] [rV s111.v (cSl 1 fY l106)] _ := hM.pl [0, 1]
    replace hM : St ⟨w, X, S⟩ [oC (cSl 1 fI l104) s110.v, oBox b_c #[s111.v, (.int .i64 n107), (.int .i64 n108)] 117] [rV s111.v (cSl 1 fY l106)] _ := hM.tk 2
    have hM := hM.fewer (rsC (.head _) rsN)
    exact ⟨(s110, s111), rfl, hM.gives⟩

noncomputable def x_spec_MakeText (code : List UInt8) (turn : Int) : Option (List Int) :=
  Option.bind (x_spec_l01New code) fun r3 => xg (inI (r3.h + turn)) <| Option.bind (x_spec_l01Signs (⟨r3.b, r3.i, r3.h + turn⟩ : DL01Cur) 12) fun r23 => some r23.1
theorem ct_spec_MakeText (w : World) (X S : Bs) (code : List UInt8) (s_code : Sv) (turn : Int) (hS : ∀ b, S b → b < w.heap.size ∧ ¬ X b) (a_code_0 : (cSl 1 fY code).rd S w s_code.v) (oL : Sep [] X w) {r : List Int} (hx : x_spec_MakeText code turn = some r) :
    Ret Try.prog 52 [s_code.v, (.int .i64 turn)] w (fun u w' => ∃ y : Sv, u = y.v ∧ Gives X S w [oC (cSl 1 fI r) y.v] [] w') := by
  unfold x_spec_MakeText at hx
  refine enter Try.func52 rfl Try.ntmps52 (by kernel_rfl) rfl ?_
  have hM := St.enter oL hS
  have hM := hM.addE (r := rV s_code.v (cSl 1 fY code)) a_code_0
  refine wc_seq ?_
  refine wc_region ?_
  refine wv rfl (r_assign rfl) ?_
  refine wl_nil ?_
  refine sq_n ?_
  refine wc_seq ?_
  refine wc_region ?_
  refine wv rfl (r_move rfl) ?_
  obtain ⟨r32, h33, hx⟩ := bind_some' hx
  refine w_call rfl rfl (hM.callR (l := []) fun X S oL hS hR => ct_spec_l01New _ X S code s_code hS (hR _ (.head _)) oL h33) ?_
  rintro _ w34 ⟨⟨b35, s36⟩, rfl, hM⟩
  replace hM : St ⟨w, X, S⟩ [oBox b35 #[s36.v, (.int .i64 r32.i), (.int .i64 r32.h)] 117] [rV s36.v (cSl 1 fY r32.b), rV s_code.v (cSl 1 fY code)] _ := hM
  refine wv rfl (r_assign rfl) ?_
  refine wl_nil ?_
  refine sq_n ?_
  refine wc_seq ?_
  refine wc_region ?_
  refine wv rfl (r_move rfl) ?_
  refine wv rfl (r_move rfl) ?_
  refine wv rfl (r_nilck rfl) ?_
  refine wv rfl (r_fld Try.underlying117 rfl rfl sz3 rfl) ?_
  refine wv rfl (r_ldB Try.underlying3 rfl rfl hM (.head _) rfl) ?_
  refine wv rfl (r_move rfl) ?_
  obtain ⟨hg46, hx⟩ := xg_some hx
  refine wv rfl (r_add rfl rfl hg46) ?_
  refine wv rfl (r_nilck rfl) ?_
  refine wv rfl (r_fld Try.underlying117 rfl rfl sz3 rfl) ?_
  refine w_exu (x_stB #[s36.v, (.int .i64 r32.i), (.int .i64 (r32.h + turn))] sz3 rfl rfl rfl rfl rfl rfl hM ?_); intro w49 hM
  refine wl_nil ?_
  refine sq_n ?_
  refine wc_seq ?_
  refine wc_region ?_
  refine wv rfl (r_move rfl) ?_
  obtain ⟨r52, h53, hx⟩ := bind_some' hx
  refine w_call rfl rfl (hM.callR (l := [oBox b35 #[s36.v, (.int .i64 r32.i), (.int .i64 (r32.h + turn))] 117]) fun X S oL hS hR => ct_spec_l01Signs _ X S b35 (⟨r32.b, r32.i, r32.h + turn⟩ : DL01Cur) s36 (12 : Int) hS (hR _ (.head _)) oL h53) ?_
  rintro _ w54 ⟨⟨s55, s56⟩, rfl, hM⟩
  replace hM : St ⟨w, X, S⟩ [oC (cSl 1 fI r52.1) s55.v, oBox b35 #[s56.v, (.int .i64 r52.2.i), (.int .i64 r52.2.h)] 117] [rV s56.v (cSl 1 fY r52.2.b), rV s36.v (cSl 1 fY r32.b), rV s_code.v (cSl 1 fY code)] _ := hM
  refine wv rfl (r_assign rfl) ?_
  refine wl_nil ?_
  refine sq_n ?_
  refine wc_ret ?_
  obtain rfl := Option.some.inj hx
  refine fin_ret [s55.v] ⟨rfl, trivial⟩ ?_
  replace hM : St ⟨w, X, S⟩ [oC (cSl 1 fI r52.1) s55.v] [rV s56.v (cSl 1 fY r52.2.b), rV s36.v (cSl 1 fY r32.b), rV s_code.v (cSl 1 fY code)] _ := hM.tk 1
  have hM := hM.fewer rsN
  exact ⟨s55, rfl, hM.gives⟩

noncomputable def x_impl_Between_b0 (a : List Int) (b : List Int) (n27 : Int) : Option (Lr Int Int) :=
  Option.bind (bif decide (n27 < (a.length : Int)) then (some (decide (n27 < (b.length : Int)))) else (some false)) fun c83 => Option.bind (bif c83 then (xg (0 ≤ n27 ∧ n27 < (a.length : Int)) <| xg (0 ≤ n27 ∧ n27 < (b.length : Int)) <| some (decide ((el a n27.toNat) = (el b n27.toNat)))) else (some false)) fun c94 => bif c94 then (xg (inI (n27 + 1)) <| some (Lr.go (n27 + 1))) else (some (Lr.out n27))
noncomputable def x_impl_Between_f0 (a : List Int) (b : List Int) (s128 : Int) : Option (Lr Int Int) := x_impl_Between_b0 a b s128
noncomputable def x_impl_Between_b1 (a : List Int) (y129 : Int) (b : List Int) (k143 : Int) : Option (Lr Int Int) :=
  Option.bind (bif decide (k143 < (((a.take a.length).drop y129.toNat).length : Int)) then (some (decide (k143 < (((b.take b.length).drop y129.toNat).length : Int)))) else (some false)) fun c223 => Option.bind (bif c223 then (xg (inI ((((a.take a.length).drop y129.toNat).length : Int) - 1)) <| xg (inI (((((a.take a.length).drop y129.toNat).length : Int) - 1) - k143)) <| xg (0 ≤ (((((a.take a.length).drop y129.toNat).length : Int) - 1) - k143) ∧ (((((a.take a.length).drop y129.toNat).length : Int) - 1) - k143) < (((a.take a.length).drop y129.toNat).length : Int)) <| xg (inI ((((b.take b.length).drop y129.toNat).length : Int) - 1)) <| xg (inI (((((b.take b.length).drop y129.toNat).length : Int) - 1) - k143)) <| xg (0 ≤ (((((b.take b.length).drop y129.toNat).length : Int) - 1) - k143) ∧ (((((b.take b.length).drop y129.toNat).length : Int) - 1) - k143) < (((b.take b.length).drop y129.toNat).length : Int)) <| some (decide ((el ((a.take a.length).drop y129.toNat) ((((((a.take a.length).drop y129.toNat).length : Int) - 1) - k143).toNat)) = (el ((b.take b.length).drop y129.toNat) ((((((b.take b.length).drop y129.toNat).length : Int) - 1) - k143).toNat))))) else (some false)) fun c234 => bif c234 then (xg (inI (k143 + 1)) <| some (Lr.go (k143 + 1))) else (some (Lr.out k143))
noncomputable def x_impl_Between_f1 (a : List Int) (y129 : Int) (b : List Int) (s292 : Int) : Option (Lr Int Int) := x_impl_Between_b1 a y129 b s292
noncomputable def x_impl_Between (a : List Int) (b : List Int) : Option (List DPart × Bool) :=
  Option.bind (x_impl_TextOk a) fun r4 => Option.bind (bif !r4 then (some true) else (Option.bind (x_impl_TextOk b) fun r19 => some (!r19))) fun c10 => bif c10 then (some ([], false)) else (Option.bind (iter (x_impl_Between_f0 a b) 0) fun (y129 : Int) => xg (0 ≤ y129 ∧ y129 ≤ (a.length : Int)) <| xg (0 ≤ y129 ∧ y129 ≤ (b.length : Int)) <| Option.bind (iter (x_impl_Between_f1 a y129 b) 0) fun (y293 : Int) => xg (inI ((((b.take b.length).drop y129.toNat).length : Int) - y293)) <| xg (0 ≤ ((((b.take b.length).drop y129.toNat).length : Int) - y293) ∧ ((((b.take b.length).drop y129.toNat).length : Int) - y293) ≤ (((b.take b.length).drop y129.toNat).length : Int)) <| xg (inI ((((a.take a.length).drop y129.toNat).length : Int) - y293)) <| Option.bind (x_impl_OpNorm [(⟨1, y129, []⟩ : DPart), (⟨2, 0, (((b.take b.length).drop y129.toNat).take (((((b.take b.length).drop y129.toNat).length : Int) - y293).toNat)).drop 0⟩ : DPart), (⟨3, (((a.take a.length).drop y129.toNat).length : Int) - y293, []⟩ : DPart), (⟨1, y293, []⟩ : DPart)]) fun r317 => some (r317, true))
theorem ct_impl_Between (w : World) (X S : Bs) (a : List Int) (s_a : Sv) (b : List Int) (s_b : Sv) (hS : ∀ b, S b → b < w.heap.size ∧ ¬ X b) (a_a_0 : (cSl 1 fI a).rd S w s_a.v) (a_b_0 : (cSl 1 fI b).rd S w s_b.v) (oL : Sep [] X w) {r : List DPart × Bool} (hx : x_impl_Between a b = some r) :
    Ret Try.prog 54 [s_a.v, s_b.v] w (fun u w' => ∃ y : Sv, u = .tuple #[y.v, (.bool r.2)] ∧ Gives X S w [oC (cSl 3 fDPart r.1) y.v] [] w') := by
  unfold x_impl_Between at hx
  refine enter Try.func54 rfl Try.ntmps54 (by kernel_rfl) rfl ?_
  have hM := St.enter oL hS
  have hM := hM.addE (r := rV s_a.v (cSl 1 fI a)) a_a_0
  have hM := hM.addE (r := rV s_b.v (cSl 1 fI b)) a_b_0
  refine wc_seq ?_
  refine wc_region ?_
  refine wv rfl (r_assign rfl) ?_
  refine wv rfl (r_assign rfl) ?_
  refine wl_nil ?_
  refine sq_n ?_
  refine wc_seq ?_
  refine wc_seq ?_
  refine wc_region ?_
  refine wv rfl (r_move rfl) ?_
  obtain ⟨r327, h328, hx⟩ := bind_some' hx
  refine w_call rfl rfl (hM.callV fun X S oL hS hR hO => ct_impl_TextOk _ X S a s_a hS (hR _ (.tail _ (.head _))) oL h328) ?_
  rintro _ w329 ⟨rfl, hR330⟩
  have hM := hM.call hR330
  refine wv rfl (r_not rfl) ?_
  refine wv rfl (r_move rfl) ?_
  obtain ⟨c333, hx, hx341⟩ := bind_some' hx
  refine wl_mid 4 (fun _ : Unit => [(15, (.bool c333)), (0, s_a.v), (1, s_b.v)]) (fun _ w' => St ⟨w, X, S⟩ [] [rV s_b.v (cSl 1 fI b), rV s_a.v (cSl 1 fI a)] w') ?_ ?_
  · rcases Bool.eq_false_or_eq_true (!r327) with hg334 | hg334
    · replace hx := xif_t hg334 hx
      refine gs rfl (isB_no hg334) rfl ?_
      refine gs rfl (isB_no hg334) rfl ?_
      refine gs rfl (isB_no hg334) rfl ?_
      refine wv rfl (p_t rfl hg334 rfl) ?_
      obtain rfl := Option.some.inj hx
      exact mid_nil () ⟨rfl, rfl, rfl, trivial⟩ hM
    · replace hx := xif_f hg334 hx
      refine gv rfl hg334 rfl (r_move rfl) ?_
      obtain ⟨r343, h344, hx⟩ := bind_some' hx
      refine gc rfl hg334 rfl rfl (hM.callV fun X S oL hS hR hO => ct_impl_TextOk _ X S b s_b hS (hR _ (.head _)) oL h344) ?_
      rintro _ w345 ⟨rfl, hR346⟩
      have hM := hM.call hR346
      refine gv rfl hg334 rfl (r_not rfl) ?_
      refine wv rfl (p_f rfl hg334 rfl) ?_
      obtain rfl := Option.some.inj hx
      exact mid_nil () ⟨rfl, rfl, rfl, trivial⟩ hM
  rintro _ w348 hM
  replace hx := hx341
  refine wl_nil ?_
  refine sq_n ?_
  refine wc_cond rfl (fun hc349 => ?_) (fun hc349 => ?_)
  · replace hx := xif_t hc349 hx
    refine wc_seq ?_
    refine wc_region ?_
    refine wv rfl (r_assign rfl) ?_
    refine wv rfl (r_assign rfl) ?_
    refine wl_nil ?_
    refine sq_n ?_
    refine wc_ret ?_
    refine sq_ret ?_
    obtain rfl := Option.some.inj hx
    have hM := hM.nil0 (T := DPart) 3 fDPart
    refine fin_ret [nS.v, (.bool false)] ⟨rfl, rfl, trivial⟩ ?_
    replace hM : St ⟨w, X, S⟩ [oC (cSl 3 fDPart ([] : List DPart)) nS.v] [rV s_b.v (cSl 1 fI b), rV s_a.v (cSl 1 fI a)] _ := hM.tk 1
    have hM := hM.fewer rsN
    exact ⟨nS, rfl, hM.gives⟩
  · replace hx := xif_f hc349 hx
    refine wc_skip ?_
    refine sq_n ?_
    refine wc_seq ?_
    refine wc_region ?_
    refine wv rfl (r_assign rfl) ?_
    refine wl_nil ?_
    refine sq_n ?_
    refine wc_seq ?_
    refine wc_block ?_
    obtain ⟨y354, hx, hx355⟩ := bind_some' hx
    have hM := hM.fewer (rsC (.tail _ (.head _)) (rsC (.head _) rsN))
    replace hM : St ⟨w, X, S⟩ [] [rV s_a.v (cSl 1 fI a), rV s_b.v (cSl 1 fI b)] _ := hM
    obtain ⟨m359, hx⟩ := iter_run hx
    refine wc_loop (un fun (m357 : Nat) => fun (n356 : Int) => [(0, s_a.v), (1, s_b.v), (6, (.int .i64 n356))]) (un fun (m357 : Nat) => fun (n356 : Int) w' => St ⟨w, X, S⟩ [] [rV s_a.v (cSl 1 fI a), rV s_b.v (cSl 1 fI b)] w' ∧ iterN _ m357 n356 = some y354) (fun p => p.1) (m359, 0) ⟨rfl, rfl, rfl, trivial⟩ ⟨hM, hx⟩ ?_
    rintro ⟨m357, n356⟩ w360 ⟨hM, hx⟩
    obtain ⟨m361, z362, rfl, hx, hx363⟩ := iterN_step hx
    unfold x_impl_Between_f0 x_impl_Between_b0 at hx
    try dsimp only at hx
    refine wc_seq ?_
    refine wc_seq ?_
    refine wc_draw [(0, 0), (1, 0), (2, 0), (3, 0), (4, 0), (5, 0), (6, 0), (7, 0), (8, 0), (9, 0), (10, 0), (11, 0), (12, 0), (13, 0), (14, 0), (15, 0), (16, 0), (17, 0), (18, 0), (19, 0), (20, 0)] Try_mixed (by kernel_rfl) rfl (by kernel_rfl) rfl ?_
    refine ov rfl (fun w' h' => r_move rfl) ?_
    refine ov rfl (fun w' h' => r_move rfl) ?_
    refine ov rfl (fun w' h' => r_lenC Try.underlying22 rfl ((hM.call h').seeR (.head _))) ?_
    refine ov rfl (fun w' h' => r_lss rfl rfl) ?_
    refine ov rfl (fun w' h' => r_move rfl) ?_
    obtain ⟨c369, hx, hx375⟩ := bind_some' hx
    refine wo_mid 5 [(25, (.bool c369)), (0, s_a.v), (1, s_b.v), (6, (.int .i64 n356))] rfl ?_ ?_
    · rcases Bool.eq_false_or_eq_true (decide (n356 < (a.length : Int))) with hg370 | hg370
      · replace hx := xif_t hg370 hx
        refine ogv rfl hg370 rfl (fun w' h' => r_move rfl) ?_
        refine ogv rfl hg370 rfl (fun w' h' => r_move rfl) ?_
        refine ogv rfl hg370 rfl (fun w' h' => r_lenC Try.underlying22 rfl ((hM.call h').seeR (.tail _ (.head _)))) ?_
        refine ogv rfl hg370 rfl (fun w' h' => r_lss rfl rfl) ?_
        refine ov rfl (fun w' h' => p_t rfl hg370 rfl) ?_
        obtain rfl := Option.some.inj hx
        exact mid_onil ⟨rfl, rfl, rfl, rfl, trivial⟩
      · replace hx := xif_f hg370 hx
        refine ogs rfl (isB_no hg370) rfl ?_
        refine ogs rfl (isB_no hg370) rfl ?_
        refine ogs rfl (isB_no hg370) rfl ?_
        refine ogs rfl (isB_no hg370) rfl ?_
        refine ov rfl (fun w' h' => p_f rfl hg370 rfl) ?_
        obtain rfl := Option.some.inj hx
        exact mid_onil ⟨rfl, rfl, rfl, rfl, trivial⟩
    replace hx := hx375
    refine ov rfl (fun w' h' => r_move rfl) ?_
    obtain ⟨c381, hx, hx396⟩ := bind_some' hx
    refine wo_mid 10 [(36, (.bool c381)), (0, s_a.v), (1, s_b.v), (6, (.int .i64 n356))] rfl ?_ ?_
    · rcases Bool.eq_false_or_eq_true c369 with hg382 | hg382
      · replace hx := xif_t hg382 hx
        refine ogv rfl hg382 rfl (fun w' h' => r_move rfl) ?_
        refine ogv rfl hg382 rfl (fun w' h' => r_move rfl) ?_
        obtain ⟨hg401, hx⟩ := xg_some hx
        have hi400 : n356.toNat < a.length := by omega
        refine ogv rfl hg382 rfl (fun w' h' => r_ixC Try.underlying22 sz3 rfl rfl ((hM.call h').seeR (.head _)) hg401) ?_
        refine ogv rfl hg382 rfl (fun w' h' => r_ld Try.underlying3 rfl rfl (Cs.get (i := n356.toNat) (j := 0) ((hM.call h').seeR (.head _)) (fun _ => rfl) hi400 rfl)) ?_
        refine ogv rfl hg382 rfl (fun w' h' => r_move rfl) ?_
        refine ogv rfl hg382 rfl (fun w' h' => r_move rfl) ?_
        obtain ⟨hg407, hx⟩ := xg_some hx
        have hi406 : n356.toNat < b.length := by omega
        refine ogv rfl hg382 rfl (fun w' h' => r_ixC Try.underlying22 sz3 rfl rfl ((hM.call h').seeR (.tail _ (.head _))) hg407) ?_
        refine ogv rfl hg382 rfl (fun w' h' => r_ld Try.underlying3 rfl rfl (Cs.get (i := n356.toNat) (j := 0) ((hM.call h').seeR (.tail _ (.head _))) (fun _ => rfl) hi406 rfl)) ?_
        refine ogv rfl hg382 rfl (fun w' h' => r_eql rfl rfl) ?_
        refine ov rfl (fun w' h' => p_t rfl hg382 rfl) ?_
        obtain rfl := Option.some.inj hx
        exact mid_onil ⟨rfl, rfl, rfl, rfl, trivial⟩
      · replace hx := xif_f hg382 hx
        refine ogs rfl (isB_no hg382) rfl ?_
        refine ogs rfl (isB_no hg382) rfl ?_
        refine ogs rfl (isB_no hg382) rfl ?_
        refine ogs rfl (isB_no hg382) rfl ?_
        refine ogs rfl (isB_no hg382) rfl ?_
        refine ogs rfl (isB_no hg382) rfl ?_
        refine ogs rfl (isB_no hg382) rfl ?_
        refine ogs rfl (isB_no hg382) rfl ?_
        refine ogs rfl (isB_no hg382) rfl ?_
        refine ov rfl (fun w' h' => p_f rfl hg382 rfl) ?_
        obtain rfl := Option.some.inj hx
        exact mid_onil ⟨rfl, rfl, rfl, rfl, trivial⟩
    replace hx := hx396
    refine o_nil fun w410 hw411 => ?_
    have hM := hM.call hw411
    refine sq_n ?_
    refine wc_cond rfl (fun hc412 => ?_) (fun hc412 => ?_)
    · replace hx := xif_t hc412 hx
      refine wc_skip ?_
      refine sq_n ?_
      refine wc_block ?_
      refine wc_region ?_
      refine wv rfl (r_move rfl) ?_
      obtain ⟨hg415, hx⟩ := xg_some hx
      refine wv rfl (r_add rfl rfl hg415) ?_
      refine wv rfl (r_assign rfl) ?_
      refine wl_nil ?_
      refine bk_n ?_
      obtain rfl := Option.some.inj hx
      exact lp_end (m361, n356 + 1) (Nat.lt_succ_self _) ⟨rfl, rfl, rfl, trivial⟩ ⟨hM, hx363⟩
    · replace hx := xif_f hc412 hx
      refine wc_exit ?_
      refine sq_exit ?_
      refine lp1_exit ?_
      obtain rfl := Option.some.inj hx
      obtain rfl := Option.some.inj hx363
      replace hx := hx355
      try dsimp only [Sum.elim_inl, Sum.elim_inr] at hx
      refine bk_here ?_
      refine sq_n ?_
      refine wc_seq ?_
      refine wc_draw [(0, 0), (1, 0), (2, 0), (3, 0), (4, 0), (5, 0), (6, 0), (7, 0)] Try_mixed (by kernel_rfl) rfl (by kernel_rfl) rfl ?_
      refine ov rfl (fun w' h' => r_move rfl) ?_
      refine ov rfl (fun w' h' => r_move rfl) ?_
      obtain ⟨hg420, hx⟩ := xg_some hx
      have hM := hM.cutR (L := a) (f := fI) (lo := n356.toNat) (hi := a.length) (fun _ => rfl) (by omega) (by omega) (.head _)
      refine ov rfl (fun w' h' => r_slc_lo Try.underlying22 sz3 rfl rfl ((hM.call h').seeR (.tail _ (.head _))) hg420) ?_
      refine ov rfl (fun w' h' => r_move rfl) ?_
      refine ov rfl (fun w' h' => r_move rfl) ?_
      obtain ⟨hg424, hx⟩ := xg_some hx
      have hM := hM.cutR (L := b) (f := fI) (lo := n356.toNat) (hi := b.length) (fun _ => rfl) (by omega) (by omega) (.tail _ (.tail _ (.head _)))
      refine ov rfl (fun w' h' => r_slc_lo Try.underlying22 sz3 rfl rfl ((hM.call h').seeR (.tail _ (.tail _ (.tail _ (.head _))))) hg424) ?_
      refine ov rfl (fun w' h' => r_assign rfl) ?_
      refine ov rfl (fun w' h' => r_assign rfl) ?_
      refine o_nil fun w427 hw428 => ?_
      have hM := hM.call hw428
      refine sq_n ?_
      refine wc_seq ?_
      refine wc_region ?_
      refine wv rfl (r_assign rfl) ?_
      refine wl_nil ?_
      refine sq_n ?_
      refine wc_seq ?_
      refine wc_block ?_
      obtain ⟨y430, hx, hx431⟩ := bind_some' hx
      have hM := hM.fewer (rsC (.tail _ (.head _)) (rsC (.head _) rsN))
      replace hM : St ⟨w, X, S⟩ [] [rV (s_a.cut 1 n356.toNat a.length).v (cSl 1 fI ((a.take a.length).drop n356.toNat)), rV (s_b.cut 1 n356.toNat b.length).v (cSl 1 fI ((b.take b.length).drop n356.toNat))] _ := hM
      obtain ⟨m435, hx⟩ := iter_run hx
      refine wc_loop (un fun (m433 : Nat) => fun (k432 : Int) => [(0, (s_a.cut 1 n356.toNat a.length).v), (1, (s_b.cut 1 n356.toNat b.length).v), (6, (.int .i64 n356)), (7, (.int .i64 k432))]) (un fun (m433 : Nat) => fun (k432 : Int) w' => St ⟨w, X, S⟩ [] [rV (s_a.cut 1 n356.toNat a.length).v (cSl 1 fI ((a.take a.length).drop n356.toNat)), rV (s_b.cut 1 n356.toNat b.length).v (cSl 1 fI ((b.take b.length).drop n356.toNat))] w' ∧ iterN _ m433 k432 = some y430) (fun p => p.1) (m435, 0) ⟨rfl, rfl, rfl, rfl, trivial⟩ ⟨hM, hx⟩ ?_
      rintro ⟨m433, k432⟩ w436 ⟨hM, hx⟩
      obtain ⟨m437, z438, rfl, hx, hx439⟩ := iterN_step hx
      unfold x_impl_Between_f1 x_impl_Between_b1 at hx
      try dsimp only at hx
      refine wc_seq ?_
      refine wc_seq ?_
      refine wc_draw [(0, 0), (1, 0), (2, 0), (3, 0), (4, 0), (5, 0), (6, 0), (7, 0), (8, 0), (9, 0), (10, 0), (11, 0), (12, 0), (13, 0), (14, 0), (15, 0), (16, 0), (17, 0), (18, 0), (19, 0), (20, 0), (21, 0), (22, 0), (23, 0), (24, 0), (25, 0), (26, 0), (27, 0), (28, 0)] Try_mixed (by kernel_rfl) rfl (by kernel_rfl) rfl ?_
      refine ov rfl (fun w' h' => r_move rfl) ?_
      refine ov rfl (fun w' h' => r_move rfl) ?_
      refine ov rfl (fun w' h' => r_lenC Try.underlying22 rfl ((hM.call h').seeR (.head _))) ?_
      refine ov rfl (fun w' h' => r_lss rfl rfl) ?_
      refine ov rfl (fun w' h' => r_move rfl) ?_
      obtain ⟨c445, hx, hx451⟩ := bind_some' hx
      refine wo_mid 5 [(54, (.bool c445)), (0, (s_a.cut 1 n356.toNat a.length).v), (1, (s_b.cut 1 n356.toNat b.length).v), (6, (.int .i64 n356)), (7, (.int .i64 k432))] rfl ?_ ?_
      · rcases Bool.eq_false_or_eq_true (decide (k432 < (((a.take a.length).drop n356.toNat).length : Int))) with hg446 | hg446
        · replace hx := xif_t hg446 hx
          refine ogv rfl hg446 rfl (fun w' h' => r_move rfl) ?_
          refine ogv rfl hg446 rfl (fun w' h' => r_move rfl) ?_
          refine ogv rfl hg446 rfl (fun w' h' => r_lenC Try.underlying22 rfl ((hM.call h').seeR (.tail _ (.head _)))) ?_
          refine ogv rfl hg446 rfl (fun w' h' => r_lss rfl rfl) ?_
          refine ov rfl (fun w' h' => p_t rfl hg446 rfl) ?_
          obtain rfl := Option.some.inj hx
          exact mid_onil ⟨rfl, rfl, rfl, rfl, rfl, trivial⟩
        · replace hx := xif_f hg446 hx
          refine ogs rfl (isB_no hg446) rfl ?_
          refine ogs rfl (isB_no hg446) rfl ?_
          refine ogs rfl (isB_no hg446) rfl ?_
          refine ogs rfl (isB_no hg446) rfl ?_
          refine ov rfl (fun w' h' => p_f rfl hg446 rfl) ?_
          obtain rfl := Option.some.inj hx
          exact mid_onil ⟨rfl, rfl, rfl, rfl, rfl, trivial⟩
      replace hx := hx451
      refine ov rfl (fun w' h' => r_move rfl) ?_
      obtain ⟨c457, hx, hx484⟩ := bind_some' hx
      refine wo_mid 18 [(73, (.bool c457)), (0, (s_a.cut 1 n356.toNat a.length).v), (1, (s_b.cut 1 n356.toNat b.length).v), (6, (.int .i64 n356)), (7, (.int .i64 k432))] rfl ?_ ?_
      · rcases Bool.eq_false_or_eq_true c445 with hg458 | hg458
        · replace hx := xif_t hg458 hx
          refine ogv rfl hg458 rfl (fun w' h' => r_move rfl) ?_
          refine ogv rfl hg458 rfl (fun w' h' => r_move rfl) ?_
          refine ogv rfl hg458 rfl (fun w' h' => r_lenC Try.underlying22 rfl ((hM.call h').seeR (.head _))) ?_
          obtain ⟨hg489, hx⟩ := xg_some hx
          refine ogv rfl hg458 rfl (fun w' h' => r_sub rfl rfl hg489) ?_
          refine ogv rfl hg458 rfl (fun w' h' => r_move rfl) ?_
          obtain ⟨hg492, hx⟩ := xg_some hx
          refine ogv rfl hg458 rfl (fun w' h' => r_sub rfl rfl hg492) ?_
          obtain ⟨hg495, hx⟩ := xg_some hx
          have hi494 : ((((((a.take a.length).drop n356.toNat).length : Int) - 1) - k432).toNat) < ((a.take a.length).drop n356.toNat).length := by omega
          refine ogv rfl hg458 rfl (fun w' h' => r_ixC Try.underlying22 sz3 rfl rfl ((hM.call h').seeR (.head _)) hg495) ?_
          refine ogv rfl hg458 rfl (fun w' h' => r_ld Try.underlying3 rfl rfl (Cs.get (i := ((((((a.take a.length).drop n356.toNat).length : Int) - 1) - k432).toNat)) (j := 0) ((hM.call h').seeR (.head _)) (fun _ => rfl) hi494 rfl)) ?_
          refine ogv rfl hg458 rfl (fun w' h' => r_move rfl) ?_
          refine ogv rfl hg458 rfl (fun w' h' => r_move rfl) ?_
          refine ogv rfl hg458 rfl (fun w' h' => r_lenC Try.underlying22 rfl ((hM.call h').seeR (.tail _ (.head _)))) ?_
          obtain ⟨hg501, hx⟩ := xg_some hx
          refine ogv rfl hg458 rfl (fun w' h' => r_sub rfl rfl hg501) ?_
          refine ogv rfl hg458 rfl (fun w' h' => r_move rfl) ?_
          obtain ⟨hg504, hx⟩ := xg_some hx
          refine ogv rfl hg458 rfl (fun w' h' => r_sub rfl rfl hg504) ?_
          obtain ⟨hg507, hx⟩ := xg_some hx
          have hi506 : ((((((b.take b.length).drop n356.toNat).length : Int) - 1) - k432).toNat) < ((b.take b.length).drop n356.toNat).length := by omega
          refine ogv rfl hg458 rfl (fun w' h' => r_ixC Try.underlying22 sz3 rfl rfl ((hM.call h').seeR (.tail _ (.head _))) hg507) ?_
          refine ogv rfl hg458 rfl (fun w' h' => r_ld Try.underlying3 rfl rfl (Cs.get (i := ((((((b.take b.length).drop n356.toNat).length : Int) - 1) - k432).toNat)) (j := 0) ((hM.call h').seeR (.tail _ (.head _))) (fun _ => rfl) hi506 rfl)) ?_
          refine ogv rfl hg458 rfl (fun w' h' => r_eql rfl rfl) ?_
          refine ov rfl (fun w' h' => p_t rfl hg458 rfl) ?_
          obtain rfl := Option.some.inj hx
          exact mid_onil ⟨rfl, rfl, rfl, rfl, rfl, trivial⟩
        · replace hx := xif_f hg458 hx
          refine ogs rfl (isB_no hg458) rfl ?_
          refine ogs rfl (isB_no hg458) rfl ?_
          refine ogs rfl (isB_no hg458) rfl ?_
          refine ogs rfl (isB_no hg458) rfl ?_
          refine ogs rfl (isB_no hg458) rfl ?_
          refine ogs rfl (isB_no hg458) rfl ?_
          refine ogs rfl (isB_no hg458) rfl ?_
          refine ogs rfl (isB_no hg458) rfl ?_
          refine ogs rfl (isB_no hg458) rfl ?_
          refine ogs rfl (isB_no hg458) rfl ?_
          refine ogs rfl (isB_no hg458) rfl ?_
          refine ogs rfl (isB_no hg458) rfl ?_
          refine ogs rfl (isB_no hg458) rfl ?_
          refine ogs rfl (isB_no hg458) rfl ?_
          refine ogs rfl (isB_no hg458) rfl ?_
          refine ogs rfl (isB_no hg458) rfl ?_
          refine ogs rfl (isB_no hg458) rfl ?_
          refine ov rfl (fun w' h' => p_f rfl hg458 rfl) ?_
          obtain rfl := Option.some.inj hx
          exact mid_onil ⟨rfl, rfl, rfl, rfl, rfl, trivial⟩
      replace hx := hx484
      refine o_nil fun w510 hw511 => ?_
      have hM := hM.call hw511
      refine sq_n ?_
      refine wc_cond rfl (fun hc512 => ?_) (fun hc512 => ?_)
      · replace hx := xif_t hc512 hx
        refine wc_skip ?_
        refine sq_n ?_
        refine wc_block ?_
        refine wc_region ?_
        refine wv rfl (r_move rfl) ?_
        obtain ⟨hg515, hx⟩ := xg_some hx
        refine wv rfl (r_add rfl rfl hg515) ?_
        refine wv rfl (r_assign rfl) ?_
        refine wl_nil ?_
        refine bk_n ?_
        obtain rfl := Option.some.inj hx
        exact lp_end (m437, k432 + 1) (Nat.lt_succ_self _) ⟨rfl, rfl, rfl, rfl, trivial⟩ ⟨hM, hx439⟩
      · replace hx := xif_f hc512 hx
        refine wc_exit ?_
        refine sq_exit ?_
        refine lp1_exit ?_
        obtain rfl := Option.some.inj hx
        obtain rfl := Option.some.inj hx439
        replace hx := hx431
        try dsimp only [Sum.elim_inl, Sum.elim_inr] at hx
        refine bk_here ?_
        refine sq_n ?_
        refine wc_seq ?_
        refine wc_region ?_
        refine wv rfl (r_move rfl) ?_
        refine wv rfl (r_build (cells := #[(.int .i64 1), (.int .i64 n356), (.slice none 0 0)]) rfl (by kernel_rfl)) ?_
        refine wv rfl (r_move rfl) ?_
        refine wv rfl (r_move rfl) ?_
        refine wv rfl (r_lenC Try.underlying22 rfl (hM.seeR (.tail _ (.head _)))) ?_
        refine wv rfl (r_move rfl) ?_
        obtain ⟨hg524, hx⟩ := xg_some hx
        refine wv rfl (r_sub rfl rfl hg524) ?_
        obtain ⟨hg526, hx⟩ := xg_some hx
        have hM := hM.cutR (L := ((b.take b.length).drop n356.toNat)) (f := fI) (lo := 0) (hi := (((((b.take b.length).drop n356.toNat).length : Int) - k432).toNat)) (fun _ => rfl) (by omega) (by omega) (.tail _ (.head _))
        refine wv rfl (r_slc_hi Try.underlying22 sz3 rfl rfl (hM.seeR (.tail _ (.tail _ (.head _)))) hg526) ?_
        refine wv rfl (r_build (cells := #[(.int .i64 2), (.int .i64 0), ((s_b.cut 1 n356.toNat b.length).cut 1 0 (((((b.take b.length).drop n356.toNat).length : Int) - k432).toNat)).v]) rfl (by kernel_rfl)) ?_
        refine wv rfl (r_move rfl) ?_
        refine wv rfl (r_lenC Try.underlying22 rfl (hM.seeR (.tail _ (.head _)))) ?_
        refine wv rfl (r_move rfl) ?_
        obtain ⟨hg532, hx⟩ := xg_some hx
        refine wv rfl (r_sub rfl rfl hg532) ?_
        refine wv rfl (r_build (cells := #[(.int .i64 3), (.int .i64 ((((a.take a.length).drop n356.toNat).length : Int) - k432)), (.slice none 0 0)]) rfl (by kernel_rfl)) ?_
        refine wv rfl (r_move rfl) ?_
        refine wv rfl (r_build (cells := #[(.int .i64 1), (.int .i64 k432), (.slice none 0 0)]) rfl (by kernel_rfl)) ?_
        refine w_ex rfl (x_litS (f := fDPart) [(⟨1, n356, []⟩ : DPart), (⟨2, 0, (((b.take b.length).drop n356.toNat).take (((((b.take b.length).drop n356.toNat).length : Int) - k432).toNat)).drop 0⟩ : DPart), (⟨3, (((a.take a.length).drop n356.toNat).length : Int) - k432, []⟩ : DPart), (⟨1, k432, []⟩ : DPart)] [(.int .i64 1), (.int .i64 n356), (.slice none 0 0), (.int .i64 2), (.int .i64 0), ((s_b.cut 1 n356.toNat b.length).cut 1 0 (((((b.take b.length).drop n356.toNat).length : Int) - k432).toNat)).v, (.int .i64 3), (.int .i64 ((((a.take a.length).drop n356.toNat).length : Int) - k432)), (.slice none 0 0), (.int .i64 1), (.int .i64 k432), (.slice none 0 0)] 4 Try.underlying41 sz83 rfl rfl rfl rfl rfl (by kernel_rfl) (fun S w hR => ⟨_, _, rfl, rfl, ⟨_, _, rfl, rfl, ⟨_, _, rfl, rd_nil _ _, ⟨_, _, rfl, rfl, ⟨_, _, rfl, rfl, ⟨_, _, rfl, hR _ (.head _), ⟨_, _, rfl, rfl, ⟨_, _, rfl, rfl, ⟨_, _, rfl, rd_nil _ _, ⟨_, _, rfl, rfl, ⟨_, _, rfl, rfl, ⟨_, _, rfl, rd_nil _ _, rfl⟩⟩⟩⟩⟩⟩⟩⟩⟩⟩⟩⟩) hM ?_); intro s537 w536 hR538 hM
        have hM := hM.sealS (fun _ => rfl) (.head _)
        obtain ⟨r540, h541, hx⟩ := bind_some' hx
        refine w_call rfl rfl (hM.callO (l := []) fun X S oL hS hR hO => ct_impl_OpNorm _ X S [(⟨1, n356, []⟩ : DPart), (⟨2, 0, (((b.take b.length).drop n356.toNat).take (((((b.take b.length).drop n356.toNat).length : Int) - k432).toNat)).drop 0⟩ : DPart), (⟨3, (((a.take a.length).drop n356.toNat).length : Int) - k432, []⟩ : DPart), (⟨1, k432, []⟩ : DPart)] s537 hS (hR _ (.head _)) oL h541) ?_
        rintro _ w542 ⟨s543, rfl, hM⟩
        replace hM : St ⟨w, X, S⟩ [oC (cSl 3 fDPart r540) s543.v] [rV s537.v (cSl 3 fDPart [(⟨1, n356, []⟩ : DPart), (⟨2, 0, (((b.take b.length).drop n356.toNat).take (((((b.take b.length).drop n356.toNat).length : Int) - k432).toNat)).drop 0⟩ : DPart), (⟨3, (((a.take a.length).drop n356.toNat).length : Int) - k432, []⟩ : DPart), (⟨1, k432, []⟩ : DPart)]), rX [(.int .i64 1), (.int .i64 n356), (.slice none 0 0), (.int .i64 2), (.int .i64 0), ((s_b.cut 1 n356.toNat b.length).cut 1 0 (((((b.take b.length).drop n356.toNat).length : Int) - k432).toNat)).v, (.int .i64 3), (.int .i64 ((((a.take a.length).drop n356.toNat).length : Int) - k432)), (.slice none 0 0), (.int .i64 1), (.int .i64 k432), (.slice none 0 0)] (([(⟨1, n356, []⟩ : DPart), (⟨2, 0, (((b.take b.length).drop n356.toNat).take (((((b.take b.length).drop n356.toNat).length : Int) - k432).toNat)).drop 0⟩ : DPart), (⟨3, (((a.take a.length).drop n356.toNat).length : Int) - k432, []⟩ : DPart), (⟨1, k432, []⟩ : DPart)] : List DPart).flatMap fDPart), rV ((s_b.cut 1 n356.toNat b.length).cut 1 0 (((((b.take b.length).drop n356.toNat).length : Int) - k432).toNat)).v (cSl 1 fI ((((b.take b.length).drop n356.toNat).take (((((b.take b.length).drop n356.toNat).length : Int) - k432).toNat)).drop 0)), rV (s_a.cut 1 n356.toNat a.length).v (cSl 1 fI ((a.take a.length).drop n356.toNat)), rV (s_b.cut 1 n356.toNat b.length).v (cSl 1 fI ((b.take b.length).drop n356.toNat))] _ := hM
        refine wv rfl (r_assign rfl) ?_
        refine wv rfl (r_assign rfl) ?_
        refine wl_nil ?_
        refine sq_n ?_
        refine wc_ret ?_
        obtain rfl := Option.some.inj hx
        refine fin_ret [s543.v, (.bool true)] ⟨rfl, rfl, trivial⟩ ?_
        replace hM : St ⟨w, X, S⟩ [oC (cSl 3 fDPart r540) s543.v] [rV s537.v (cSl 3 fDPart [(⟨1, n356, []⟩ : DPart), (⟨2, 0, (((b.take b.length).drop n356.toNat).take (((((b.take b.length).drop n356.toNat).length : Int) - k432).toNat)).drop 0⟩ : DPart), (⟨3, (((a.take a.length).drop n356.toNat).length : Int) - k432, []⟩ : DPart), (⟨1, k432, []⟩ : DPart)]), rX [(.int .i64 1), (.int .i64 n356), (.slice none 0 0), (.int .i64 2), (.int .i64 0), ((s_b.cut 1 n356.toNat b.length).cut 1 0 (((((b.take b.length).drop n356.toNat).length : Int) - k432).toNat)).v, (.int .i64 3), (.int .i64 ((((a.take a.length).drop n356.toNat).length : Int) - k432)), (.slice none 0 0), (.int .i64 1), (.int .i64 k432), (.slice none 0 0)] (([(⟨1, n356, []⟩ : DPart), (⟨2, 0, (((b.take b.length).drop n356.toNat).take (((((b.take b.length).drop n356.toNat).length : Int) - k432).toNat)).drop 0⟩ : DPart), (⟨3, (((a.take a.length).drop n356.toNat).length : Int) - k432, []⟩ : DPart), (⟨1, k432, []⟩ : DPart)] : List DPart).flatMap fDPart), rV ((s_b.cut 1 n356.toNat b.length).cut 1 0 (((((b.take b.length).drop n356.toNat).length : Int) - k432).toNat)).v (cSl 1 fI ((((b.take b.length).drop n356.toNat).take (((((b.take b.length).drop n356.toNat).length : Int) - k432).toNat)).drop 0)), rV (s_a.cut 1 n356.toNat a.length).v (cSl 1 fI ((a.take a.length).drop n356.toNat)), rV (s_b.cut 1 n356.toNat b.length).v (cSl 1 fI ((b.take b.length).drop n356.toNat))] _ := hM.tk 1
        have hM := hM.fewer rsN
        exact ⟨s543, rfl, hM.gives⟩

noncomputable def x_laws_longest_b1 (a : List Int) (k251 : Nat) (_b : List Int) (k570 : Nat) (x716 : Int) (last571 : Int) (l572 : List Int) : Option (Lr (Int × List Int) (List Int)) :=
  xg (0 ≤ ((k570 : Int) + 1) ∧ ((k570 : Int) + 1) < (l572.length : Int)) <| bif decide ((el a k251) = x716) then (xg (inI (last571 + 1)) <| xg (0 ≤ ((k570 : Int) + 1) ∧ ((k570 : Int) + 1) < (l572.length : Int)) <| some (Lr.go (el l572 (((k570 : Int) + 1).toNat), l572.set (((k570 : Int) + 1).toNat) (last571 + 1)))) else (xg (0 ≤ (k570 : Int) ∧ (k570 : Int) < (l572.length : Int)) <| xg (0 ≤ ((k570 : Int) + 1) ∧ ((k570 : Int) + 1) < (l572.length : Int)) <| bif decide ((el l572 (((k570 : Int) + 1).toNat)) < (el l572 k570)) then (xg (0 ≤ (k570 : Int) ∧ (k570 : Int) < (l572.length : Int)) <| xg (0 ≤ ((k570 : Int) + 1) ∧ ((k570 : Int) + 1) < (l572.length : Int)) <| some (Lr.go (el l572 (((k570 : Int) + 1).toNat), l572.set (((k570 : Int) + 1).toNat) (el l572 k570)))) else (some (Lr.go (el l572 (((k570 : Int) + 1).toNat), l572))))
noncomputable def x_laws_longest_f1 (a : List Int) (k251 : Nat) (b : List Int) (k570 : Nat) (s717 : Int × List Int) : Option (Lr (Int × List Int) (List Int)) := x_laws_longest_b1 a k251 b k570 (el b k570) s717.1 s717.2
noncomputable def x_laws_longest_b0 (a : List Int) (b : List Int) (k251 : Nat) (l252 : List Int) : Option (Lr (List Int) (List Int)) :=
  Option.bind (eachN (x_laws_longest_f1 a k251 b) (fun (s717 : Int × List Int) => (s717.2 : List Int)) b.length 0 (0, l252)) fun (y718 : List Int) => some (Lr.go y718)
noncomputable def x_laws_longest_f0 (a : List Int) (b : List Int) (k251 : Nat) (s723 : List Int) : Option (Lr (List Int) (List Int)) := x_laws_longest_b0 a b k251 s723
noncomputable def x_laws_longest (a : List Int) (b : List Int) : Option Int :=
  xg (inI ((b.length : Int) + 1)) <| xg (0 ≤ ((b.length : Int) + 1) ∧ ((b.length : Int) + 1) ≤ 1099511627776) <| Option.bind (eachN (x_laws_longest_f0 a b) (fun (s723 : List Int) => (s723 : List Int)) a.length 0 (List.replicate (((b.length : Int) + 1).toNat) 0)) fun (y724 : List Int) => xg (0 ≤ (b.length : Int) ∧ (b.length : Int) < (y724.length : Int)) <| some (el y724 ((b.length : Int).toNat))
theorem ct_laws_longest (w : World) (X S : Bs) (a : List Int) (s_a : Sv) (b : List Int) (s_b : Sv) (hS : ∀ b, S b → b < w.heap.size ∧ ¬ X b) (a_a_0 : (cSl 1 fI a).rd S w s_a.v) (a_b_0 : (cSl 1 fI b).rd S w s_b.v) (oL : Sep [] X w) {r : Int} (hx : x_laws_longest a b = some r) :
    Ret Try.prog 57 [s_a.v, s_b.v] w (fun u w' => ∃ _ : Unit, u = (.int .i64 r) ∧ Gives X S w [] [] w') := by
  unfold x_laws_longest at hx
  refine enter Try.func57 rfl Try.ntmps57 (by kernel_rfl) rfl ?_
  have hM := St.enter oL hS
  have hM := hM.addE (r := rV s_a.v (cSl 1 fI a)) a_a_0
  have hM := hM.addE (r := rV s_b.v (cSl 1 fI b)) a_b_0
  refine wc_seq ?_
  refine wc_region ?_
  refine wv rfl (r_assign rfl) ?_
  refine wl_nil ?_
  refine sq_n ?_
  refine wc_seq ?_
  refine wc_region ?_
  refine wv rfl (r_move rfl) ?_
  refine wv rfl (r_lenC Try.underlying22 rfl (hM.seeR (.head _))) ?_
  obtain ⟨hg738, hx⟩ := xg_some hx
  refine wv rfl (r_add rfl rfl hg738) ?_
  obtain ⟨hg741, hx⟩ := xg_some hx
  have hk742 : (b.length : Int) + 1 = (((b.length : Int) + 1).toNat : Int) := by omega
  refine w_ex rfl (x_make (f := fI) (k := (((b.length : Int) + 1).toNat)) 0 Try.underlying22 sz3 (fun _ => rfl) (fun _ => zP (pV _ rfl) zN) (by rw [← hk742]; rfl) (by omega) rfl hM ?_); intro s740 w739 hR743 hM
  refine wv rfl (r_assign rfl) ?_
  refine wl_nil ?_
  refine sq_n ?_
  refine wc_seq ?_
  refine wc_seq ?_
  refine wc_region ?_
  refine wv rfl (r_move rfl) ?_
  refine wv rfl (r_lenC Try.underlying22 rfl (hM.seeR (.tail _ (.head _)))) ?_
  refine wv rfl (r_move rfl) ?_
  refine wl_nil ?_
  refine sq_n ?_
  refine wc_block ?_
  obtain ⟨y749, hx, hx750⟩ := bind_some' hx
  have hl756 := Cs.le (hM.seeR (.tail _ (.head _)))
  refine wc_loop (un fun (m753 : Nat) => un fun (k754 : Nat) => un fun (l751 : List Int) => fun (s752 : Sv) => [(1, s_b.v), (5, s752.v), (16, s_a.v), (17, (.int .i64 (a.length : Int))), (18, (.int .i64 (k754 : Int)))]) (un fun (m753 : Nat) => un fun (k754 : Nat) => un fun (l751 : List Int) => fun (s752 : Sv) w' => St ⟨w, X, S⟩ [oC (cSl 1 fI l751) s752.v] [rV s_b.v (cSl 1 fI b), rV s_a.v (cSl 1 fI a)] w' ∧ eachN _ _ m753 k754 l751 = some y749 ∧ k754 + m753 = a.length) (fun p => p.1) (a.length, 0, List.replicate (((b.length : Int) + 1).toNat) 0, s740) ⟨rfl, rfl, rfl, rfl, rfl, trivial⟩ ⟨hM, hx, Nat.zero_add _⟩ ?_
  rintro ⟨m753, k754, l751, s752⟩ w757 ⟨hM, hx, hk755⟩
  refine wc_seq ?_
  refine wc_region ?_
  refine wv rfl (r_lss rfl rfl) ?_
  refine wl_nil ?_
  refine sq_n ?_
  refine wc_seq ?_
  refine wc_cond rfl (fun hc759 => ?_) (fun hc759 => ?_)
  · replace hc759 := of_decide_eq_true hc759
    obtain ⟨m760, z761, rfl, hk755, hx, hx762⟩ := eachN_step hx hk755 hc759
    unfold x_laws_longest_f0 x_laws_longest_b0 at hx
    try dsimp only at hx
    refine wc_skip ?_
    refine sq_n ?_
    refine wc_seq ?_
    refine wc_block ?_
    refine wc_seq ?_
    refine wc_region ?_
    have hi764 : k754 < a.length := by omega
    refine wv rfl (r_ixC Try.underlying22 sz3 rfl rfl (hM.seeR (.tail _ (.head _))) ⟨by omega, hc759⟩) ?_
    refine wv rfl (r_ld Try.underlying3 rfl rfl (Cs.get (i := k754) (j := 0) (hM.seeR (.tail _ (.head _))) (fun _ => rfl) hi764 rfl)) ?_
    refine wv rfl (r_assign rfl) ?_
    refine wl_nil ?_
    refine sq_n ?_
    refine wc_seq ?_
    refine wc_region ?_
    refine wv rfl (r_assign rfl) ?_
    refine wl_nil ?_
    refine sq_n ?_
    refine wc_seq ?_
    refine wc_region ?_
    refine wv rfl (r_move rfl) ?_
    refine wv rfl (r_lenC Try.underlying22 rfl (hM.seeR (.head _))) ?_
    refine wv rfl (r_move rfl) ?_
    refine wl_nil ?_
    refine sq_n ?_
    refine wc_block ?_
    obtain ⟨y771, hx, hx772⟩ := bind_some' hx
    have hl778 := Cs.le (hM.seeR (.head _))
    refine wc_loop (un fun (m775 : Nat) => un fun (k776 : Nat) => un fun (last773 : Int) => fun (l774 : List Int) => [(1, s_b.v), (5, s752.v), (7, (.int .i64 (el a k754))), (8, (.int .i64 last773)), (16, s_a.v), (17, (.int .i64 (a.length : Int))), (18, (.int .i64 (k754 : Int))), (22, s_b.v), (23, (.int .i64 (b.length : Int))), (24, (.int .i64 (k776 : Int)))]) (un fun (m775 : Nat) => un fun (k776 : Nat) => un fun (last773 : Int) => fun (l774 : List Int) w' => St ⟨w, X, S⟩ [oC (cSl 1 fI l774) s752.v] [rV s_b.v (cSl 1 fI b), rV s_a.v (cSl 1 fI a)] w' ∧ eachN _ _ m775 k776 (last773, l774) = some y771 ∧ k776 + m775 = b.length) (fun p => p.1) (b.length, 0, 0, l751) ⟨rfl, rfl, rfl, rfl, rfl, rfl, rfl, rfl, rfl, rfl, trivial⟩ ⟨hM, hx, Nat.zero_add _⟩ ?_
    rintro ⟨m775, k776, last773, l774⟩ w779 ⟨hM, hx, hk777⟩
    refine wc_seq ?_
    refine wc_region ?_
    refine wv rfl (r_lss rfl rfl) ?_
    refine wl_nil ?_
    refine sq_n ?_
    refine wc_seq ?_
    refine wc_cond rfl (fun hc781 => ?_) (fun hc781 => ?_)
    · replace hc781 := of_decide_eq_true hc781
      obtain ⟨m782, z783, rfl, hk777, hx, hx784⟩ := eachN_step hx hk777 hc781
      unfold x_laws_longest_f1 x_laws_longest_b1 at hx
      try dsimp only at hx
      refine wc_skip ?_
      refine sq_n ?_
      refine wc_seq ?_
      refine wc_block ?_
      refine wc_seq ?_
      refine wc_region ?_
      refine wv rfl (r_move rfl) ?_
      have hi787 : k776 < b.length := by omega
      refine wv rfl (r_ixC Try.underlying22 sz3 rfl rfl (hM.seeR (.head _)) ⟨by omega, hc781⟩) ?_
      refine wv rfl (r_ld Try.underlying3 rfl rfl (Cs.get (i := k776) (j := 0) (hM.seeR (.head _)) (fun _ => rfl) hi787 rfl)) ?_
      refine wv rfl (r_assign rfl) ?_
      refine wv rfl (r_assign rfl) ?_
      refine wl_nil ?_
      refine sq_n ?_
      refine wc_seq ?_
      refine wc_region ?_
      refine wv rfl (r_move rfl) ?_
      refine wv rfl (r_move rfl) ?_
      refine wv rfl (r_add rfl rfl ⟨by omega, by omega⟩) ?_
      obtain ⟨hg796, hx⟩ := xg_some hx
      have hi795 : (((k776 : Int) + 1).toNat) < l774.length := by omega
      refine wv rfl (r_ixC Try.underlying22 sz3 rfl rfl (hM.seeO (.head _)) hg796) ?_
      refine wv rfl (r_ld Try.underlying3 rfl rfl (Cs.get (i := (((k776 : Int) + 1).toNat)) (j := 0) (hM.seeO (.head _)) (fun _ => rfl) hi795 rfl)) ?_
      refine wv rfl (r_assign rfl) ?_
      refine wl_nil ?_
      refine sq_n ?_
      refine wc_seq ?_
      refine wc_seq ?_
      refine wc_region ?_
      refine wv rfl (r_move rfl) ?_
      refine wv rfl (r_move rfl) ?_
      refine wv rfl (r_eql rfl rfl) ?_
      refine wl_nil ?_
      refine sq_n ?_
      refine wc_cond rfl (fun hc802 => ?_) (fun hc802 => ?_)
      · replace hx := xif_t hc802 hx
        refine wc_region ?_
        refine wv rfl (r_move rfl) ?_
        refine wv rfl (r_move rfl) ?_
        refine wv rfl (r_add rfl rfl ⟨by omega, by omega⟩) ?_
        refine wv rfl (r_move rfl) ?_
        obtain ⟨hg808, hx⟩ := xg_some hx
        refine wv rfl (r_add rfl rfl hg808) ?_
        obtain ⟨hg811, hx⟩ := xg_some hx
        have hi810 : (((k776 : Int) + 1).toNat) < l774.length := by omega
        refine wv rfl (r_ixC Try.underlying22 sz3 rfl rfl (hM.seeO (.head _)) hg811) ?_
        refine w_exu (x_stE (f := fI) (k := 1) (L := l774) (i := (((k776 : Int) + 1).toNat)) (j := 0) (last773 + 1) [cI (last773 + 1)] sz3 (fun _ => rfl) rfl rfl hi810 rfl rfl rfl rfl rfl (fun _ => zP (pV _ rfl) zN) hM ?_); intro w812 hM
        refine wl_nil ?_
        refine sq_n ?_
        refine wc_region ?_
        refine wv rfl (r_move rfl) ?_
        refine wv rfl (r_assign rfl) ?_
        refine wl_nil ?_
        refine bk_n ?_
        refine sq_n ?_
        refine wc_region ?_
        refine wv rfl (r_add rfl rfl ⟨by omega, by omega⟩) ?_
        refine wv rfl (r_move rfl) ?_
        refine wl_nil ?_
        obtain rfl := Option.some.inj hx
        exact lp_end (m782, k776 + 1, el l774 (((k776 : Int) + 1).toNat), l774.set (((k776 : Int) + 1).toNat) (last773 + 1)) (Nat.lt_succ_self _) ⟨rfl, rfl, rfl, rfl, rfl, rfl, rfl, rfl, rfl, rfl, trivial⟩ ⟨hM, hx784, hk777⟩
      · replace hx := xif_f hc802 hx
        refine wc_seq ?_
        refine wc_draw [(0, 0), (1, 0), (2, 0), (3, 0), (4, 0), (5, 0), (6, 0), (7, 0), (8, 0), (9, 0)] Try_mixed (by kernel_rfl) rfl (by kernel_rfl) rfl ?_
        refine ov rfl (fun w' h' => r_move rfl) ?_
        refine ov rfl (fun w' h' => r_move rfl) ?_
        obtain ⟨hg822, hx⟩ := xg_some hx
        have hi821 : k776 < l774.length := by omega
        refine ov rfl (fun w' h' => r_ixC Try.underlying22 sz3 rfl rfl ((hM.call h').seeO (.head _)) hg822) ?_
        refine ov rfl (fun w' h' => r_ld Try.underlying3 rfl rfl (Cs.get (i := k776) (j := 0) ((hM.call h').seeO (.head _)) (fun _ => rfl) hi821 rfl)) ?_
        refine ov rfl (fun w' h' => r_move rfl) ?_
        refine ov rfl (fun w' h' => r_move rfl) ?_
        refine ov rfl (fun w' h' => r_add rfl rfl ⟨by omega, by omega⟩) ?_
        obtain ⟨hg829, hx⟩ := xg_some hx
        have hi828 : (((k776 : Int) + 1).toNat) < l774.length := by omega
        refine ov rfl (fun w' h' => r_ixC Try.underlying22 sz3 rfl rfl ((hM.call h').seeO (.head _)) hg829) ?_
        refine ov rfl (fun w' h' => r_ld Try.underlying3 rfl rfl (Cs.get (i := (((k776 : Int) + 1).toNat)) (j := 0) ((hM.call h').seeO (.head _)) (fun _ => rfl) hi828 rfl)) ?_
        refine ov rfl (fun w' h' => r_gtr rfl rfl) ?_
        refine o_nil fun w832 hw833 => ?_
        have hM := hM.call hw833
        refine sq_n ?_
        refine wc_cond rfl (fun hc834 => ?_) (fun hc834 => ?_)
        · replace hx := xif_t hc834 hx
          refine wc_region ?_
          refine wv rfl (r_move rfl) ?_
          refine wv rfl (r_move rfl) ?_
          refine wv rfl (r_add rfl rfl ⟨by omega, by omega⟩) ?_
          refine wv rfl (r_move rfl) ?_
          refine wv rfl (r_move rfl) ?_
          obtain ⟨hg842, hx⟩ := xg_some hx
          have hi841 : k776 < l774.length := by omega
          refine wv rfl (r_ixC Try.underlying22 sz3 rfl rfl (hM.seeO (.head _)) hg842) ?_
          refine wv rfl (r_ld Try.underlying3 rfl rfl (Cs.get (i := k776) (j := 0) (hM.seeO (.head _)) (fun _ => rfl) hi841 rfl)) ?_
          obtain ⟨hg846, hx⟩ := xg_some hx
          have hi845 : (((k776 : Int) + 1).toNat) < l774.length := by omega
          refine wv rfl (r_ixC Try.underlying22 sz3 rfl rfl (hM.seeO (.head _)) hg846) ?_
          refine w_exu (x_stE (f := fI) (k := 1) (L := l774) (i := (((k776 : Int) + 1).toNat)) (j := 0) (el l774 k776) [cI (el l774 k776)] sz3 (fun _ => rfl) rfl rfl hi845 rfl rfl rfl rfl rfl (fun _ => zP (pV _ rfl) zN) hM ?_); intro w847 hM
          refine wl_nil ?_
          refine sq_n ?_
          refine wc_region ?_
          refine wv rfl (r_move rfl) ?_
          refine wv rfl (r_assign rfl) ?_
          refine wl_nil ?_
          refine bk_n ?_
          refine sq_n ?_
          refine wc_region ?_
          refine wv rfl (r_add rfl rfl ⟨by omega, by omega⟩) ?_
          refine wv rfl (r_move rfl) ?_
          refine wl_nil ?_
          obtain rfl := Option.some.inj hx
          exact lp_end (m782, k776 + 1, el l774 (((k776 : Int) + 1).toNat), l774.set (((k776 : Int) + 1).toNat) (el l774 k776)) (Nat.lt_succ_self _) ⟨rfl, rfl, rfl, rfl, rfl, rfl, rfl, rfl, rfl, rfl, trivial⟩ ⟨hM, hx784, hk777⟩
        · replace hx := xif_f hc834 hx
          refine wc_skip ?_
          refine sq_n ?_
          refine wc_region ?_
          refine wv rfl (r_move rfl) ?_
          refine wv rfl (r_assign rfl) ?_
          refine wl_nil ?_
          refine bk_n ?_
          refine sq_n ?_
          refine wc_region ?_
          refine wv rfl (r_add rfl rfl ⟨by omega, by omega⟩) ?_
          refine wv rfl (r_move rfl) ?_
          refine wl_nil ?_
          obtain rfl := Option.some.inj hx
          exact lp_end (m782, k776 + 1, el l774 (((k776 : Int) + 1).toNat), l774) (Nat.lt_succ_self _) ⟨rfl, rfl, rfl, rfl, rfl, rfl, rfl, rfl, rfl, rfl, trivial⟩ ⟨hM, hx784, hk777⟩
    · replace hc781 := of_decide_eq_false hc781
      obtain rfl := eachN_end hx hk777 hc781
      refine wc_exit ?_
      refine sq_exit ?_
      refine lp1_exit ?_
      replace hx := hx772
      try dsimp only [Sum.elim_inl, Sum.elim_inr] at hx
      refine bk_here ?_
      refine bk_n ?_
      refine sq_n ?_
      refine wc_region ?_
      refine wv rfl (r_add rfl rfl ⟨by omega, by omega⟩) ?_
      refine wv rfl (r_move rfl) ?_
      refine wl_nil ?_
      obtain rfl := Option.some.inj hx
      exact lp_end (m760, k754 + 1, l774, s752) (Nat.lt_succ_self _) ⟨rfl, rfl, rfl, rfl, rfl, trivial⟩ ⟨hM, hx762, hk755⟩
  · replace hc759 := of_decide_eq_false hc759
    obtain rfl := eachN_end hx hk755 hc759
    refine wc_exit ?_
    refine sq_exit ?_
    refine lp1_exit ?_
    replace hx := hx750
    try dsimp only [Sum.elim_inl, Sum.elim_inr] at hx
    refine bk_here ?_
    refine sq_n ?_
    refine wc_seq ?_
    refine wc_region ?_
    refine wv rfl (r_move rfl) ?_
    refine wv rfl (r_move rfl) ?_
    refine wv rfl (r_lenC Try.underlying22 rfl (hM.seeR (.head _))) ?_
    obtain ⟨hg864, hx⟩ := xg_some hx
    have hi863 : ((b.length : Int).toNat) < l751.length := by omega
    refine wv rfl (r_ixC Try.underlying22 sz3 rfl rfl (hM.seeO (.head _)) hg864) ?_
    refine wv rfl (r_ld Try.underlying3 rfl rfl (Cs.get (i := ((b.length : Int).toNat)) (j := 0) (hM.seeO (.head _)) (fun _ => rfl) hi863 rfl)) ?_
    refine wv rfl (r_assign rfl) ?_
    refine wl_nil ?_
    refine sq_n ?_
    refine wc_ret ?_
    obtain rfl := Option.some.inj hx
    refine fin_ret [(.int .i64 (el l751 ((b.length : Int).toNat)))] ⟨rfl, trivial⟩ ?_
    replace hM : St ⟨w, X, S⟩ [] [rV s_b.v (cSl 1 fI b), rV s_a.v (cSl 1 fI a)] _ := hM.tk 0
    have hM := hM.fewer rsN
    exact ⟨(), rfl, hM.gives⟩

noncomputable def x_spec_MakeNum (code : List UInt8) (n : Int) : Option Int :=
  Option.bind (x_spec_l01New code) fun r3 => xg (inI (r3.h + 777)) <| Option.bind (x_spec_l01Below (⟨r3.b, r3.i, r3.h + 777⟩ : DL01Cur) n) fun r23 => some r23.1
theorem ct_spec_MakeNum (w : World) (X S : Bs) (code : List UInt8) (s_code : Sv) (n : Int) (hS : ∀ b, S b → b < w.heap.size ∧ ¬ X b) (a_code_0 : (cSl 1 fY code).rd S w s_code.v) (oL : Sep [] X w) {r : Int} (hx : x_spec_MakeNum code n = some r) :
    Ret Try.prog 59 [s_code.v, (.int .i64 n)] w (fun u w' => ∃ _ : Unit, u = (.int .i64 r) ∧ Gives X S w [] [] w') := by
  unfold x_spec_MakeNum at hx
  refine enter Try.func59 rfl Try.ntmps59 (by kernel_rfl) rfl ?_
  have hM := St.enter oL hS
  have hM := hM.addE (r := rV s_code.v (cSl 1 fY code)) a_code_0
  refine wc_seq ?_
  refine wc_region ?_
  refine wv rfl (r_assign rfl) ?_
  refine wl_nil ?_
  refine sq_n ?_
  refine wc_seq ?_
  refine wc_region ?_
  refine wv rfl (r_move rfl) ?_
  obtain ⟨r30, h31, hx⟩ := bind_some' hx
  refine w_call rfl rfl (hM.callR (l := []) fun X S oL hS hR => ct_spec_l01New _ X S code s_code hS (hR _ (.head _)) oL h31) ?_
  rintro _ w32 ⟨⟨b33, s34⟩, rfl, hM⟩
  replace hM : St ⟨w, X, S⟩ [oBox b33 #[s34.v, (.int .i64 r30.i), (.int .i64 r30.h)] 117] [rV s34.v (cSl 1 fY r30.b), rV s_code.v (cSl 1 fY code)] _ := hM
  refine wv rfl (r_assign rfl) ?_
  refine wl_nil ?_
  refine sq_n ?_
  refine wc_seq ?_
  refine wc_region ?_
  refine wv rfl (r_move rfl) ?_
  refine wv rfl (r_move rfl) ?_
  refine wv rfl (r_nilck rfl) ?_
  refine wv rfl (r_fld Try.underlying117 rfl rfl sz3 rfl) ?_
  refine wv rfl (r_ldB Try.underlying3 rfl rfl hM (.head _) rfl) ?_
  obtain ⟨hg43, hx⟩ := xg_some hx
  refine wv rfl (r_add rfl rfl hg43) ?_
  refine wv rfl (r_nilck rfl) ?_
  refine wv rfl (r_fld Try.underlying117 rfl rfl sz3 rfl) ?_
  refine w_exu (x_stB #[s34.v, (.int .i64 r30.i), (.int .i64 (r30.h + 777))] sz3 rfl rfl rfl rfl rfl rfl hM ?_); intro w46 hM
  refine wl_nil ?_
  refine sq_n ?_
  refine wc_seq ?_
  refine wc_region ?_
  refine wv rfl (r_move rfl) ?_
  refine wv rfl (r_move rfl) ?_
  obtain ⟨r50, h51, hx⟩ := bind_some' hx
  refine w_call rfl rfl (hM.callR (l := [oBox b33 #[s34.v, (.int .i64 r30.i), (.int .i64 (r30.h + 777))] 117]) fun X S oL hS hR => ct_spec_l01Below _ X S b33 (⟨r30.b, r30.i, r30.h + 777⟩ : DL01Cur) s34 n hS (hR _ (.head _)) oL h51) ?_
  rintro _ w52 ⟨s53, rfl, hM⟩
  replace hM : St ⟨w, X, S⟩ [oBox b33 #[s53.v, (.int .i64 r50.2.i), (.int .i64 r50.2.h)] 117] [rV s53.v (cSl 1 fY r50.2.b), rV s34.v (cSl 1 fY r30.b), rV s_code.v (cSl 1 fY code)] _ := hM
  refine wv rfl (r_assign rfl) ?_
  refine wl_nil ?_
  refine sq_n ?_
  refine wc_ret ?_
  obtain rfl := Option.some.inj hx
  refine fin_ret [(.int .i64 r50.1)] ⟨rfl, trivial⟩ ?_
  replace hM : St ⟨w, X, S⟩ [] [rV s53.v (cSl 1 fY r50.2.b), rV s34.v (cSl 1 fY r30.b), rV s_code.v (cSl 1 fY code)] _ := hM.tk 0
  have hM := hM.fewer rsN
  exact ⟨(), rfl, hM.gives⟩

end Go.Proofs.Ythnnhoabdhhkaaa
